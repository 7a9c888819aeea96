/- Laws and walks that the proof leans on (part 4): P17; P18; W8; NumText; P19; W9 and others. No condition. -/
import Derived.Test.YtoabjjimjldcfaaGreatDoorPart3
import Derived.Test.YtoabjjimjldcfaaGreatDoorPart2
open List (all_cons drop_eq_nil_of_le drop_zero getElem?_eq_none length_replicate map_append take_of_length_le take_zero)
open Nat (add_mul add_zero le_max_left le_max_right le_of_lt le_refl le_trans lt_of_lt_of_le lt_or_ge max_le mod_lt mul_add mul_assoc mul_comm pow_add pow_le_pow_right pow_succ zero_add)
open Bool (and_eq_true not_eq_false' not_eq_true')
open Int (toNat_natCast)
open Go.IntKind (wrap)
section
set_option linter.unusedVariables false
set_option maxRecDepth 100000
namespace Go.Proofs.YtoabjjimjldcfaaGreatDoor
open Go Go.Ab
theorem oO:SS.P.underlying 161=some (.pointer 163):=by kernel_rfl
theorem sO:SS.P.underlying 181=some .unsafePointer:=by kernel_rfl
theorem Kk:an SS.P 163=some 2:=by kernel_rfl
theorem L0 {ρ:Operand->Value}{o:Oper}{x:Operand}(ho:o.op = .convert 161 181 x){h:Heap}{k:Nat}{a b:Value}{wr:Bool}(hx:ρ x = .pointer (some ⟨k,0,none⟩))(hk:h.get k=some (.cells [a,b] 163 0 wr)):bP SS.P eK ρ o h=some (.pointer (some ⟨k,0,none⟩),.no):=by
 obtain ⟨dst,op,ty,pos,after,guard⟩:=o;subst ho;unfold bP;have h1:bn SS.P ρ ⟨dst,.convert 161 181 x,ty,pos,after,guard⟩=none:=by
  show dH SS.P 161 181 (ρ x)=none;rw [hx]; unfold dH; rw [oO,sO]
 have h2:aV SS.P ρ ⟨dst,.convert 161 181 x,ty,pos,after,guard⟩ h=none:=by
  unfold aV; dsimp only; rw [oO,sO,hx]
 have h3:aT SS.P ρ ⟨dst,.convert 161 181 x,ty,pos,after,guard⟩=none:=by
  unfold aT; dsimp only; rw [oO,sO,hx]
 rw [h1]; dsimp only;rw [h2]; dsimp only;rw [h3]; dsimp only;unfold dj; dsimp only;rw [oO,sO,hx];show (match h.get k with | some (.cells cs t' 0 _)=>if 163=t'/\an SS.P 163=some cs.length/\0 < cs.length then some (Value.pointer (some ⟨k,0,none⟩),Upd.no) else none | _=>none)=_;rw [hk];show (if 163=163/\an SS.P 163=some [a,b].length/\0 < [a,b].length then some (Value.pointer (some ⟨k,0,none⟩),Upd.no) else none)=_;rw [if_pos ⟨rfl,Kk,by simp⟩]
theorem GD {ρ:Operand->Value}{o:Oper}{x:Operand}(ho:o.op = .convert 181 161 x){h:Heap}{k:Nat}{a b:Value}{wr:Bool}(hx:ρ x = .pointer (some ⟨k,0,none⟩))(hk:h.get k=some (.cells [a,b] 163 0 wr)):bP SS.P eK ρ o h=some (.pointer (some ⟨k,0,none⟩),.no):=by
 obtain ⟨dst,op,ty,pos,after,guard⟩:=o;subst ho;unfold bP;have h1:bn SS.P ρ ⟨dst,.convert 181 161 x,ty,pos,after,guard⟩=none:=by
  show dH SS.P 181 161 (ρ x)=none;rw [hx]; unfold dH; rw [oO,sO]
 have h2:aV SS.P ρ ⟨dst,.convert 181 161 x,ty,pos,after,guard⟩ h=none:=by
  unfold aV; dsimp only; rw [oO,sO,hx]
 have h3:aT SS.P ρ ⟨dst,.convert 181 161 x,ty,pos,after,guard⟩=none:=by
  unfold aT; dsimp only; rw [oO,sO,hx]
 rw [h1]; dsimp only;rw [h2]; dsimp only;rw [h3]; dsimp only;unfold dj; dsimp only;rw [oO,sO,hx];show (match h.get k with | some (.cells cs t' 0 _)=>if 163=t'/\an SS.P 163=some cs.length/\0 < cs.length then some (Value.pointer (some ⟨k,0,none⟩),Upd.no) else none | _=>none)=_;rw [hk];show (if 163=163/\an SS.P 163=some [a,b].length/\0 < [a,b].length then some (Value.pointer (some ⟨k,0,none⟩),Upd.no) else none)=_;rw [if_pos ⟨rfl,Kk,by simp⟩]
def uW (k:Nat):Value:= .pointer (some ⟨k,0,none⟩)
theorem Og (k:Nat):af SS.P 163 (.pointer (some ⟨k,0,none⟩)) 0=some (.pointer (some ⟨k,0,none⟩)):=by kernel_rfl
theorem MM (k:Nat):af SS.P 163 (.pointer (some ⟨k,0,none⟩)) 1=some (.pointer (some ⟨k,1,none⟩)):=by kernel_rfl
theorem Qs {h:Heap}{k:Nat}{a b:Value}{wr:Bool}(hk:h.get k=some (.cells [a,b] 163 0 wr)):ah SS.P 161 h (.pointer (some ⟨k,0,none⟩))=some a:=by
 unfold ah;rw [oO]; dsimp only;rw [hk]; dsimp only;rw [show Go.Ab.isAgg SS.P 161=false by kernel_rfl]; rfl
theorem OW {h:Heap}{k:Nat}{a b:Value}{wr:Bool}(hk:h.get k=some (.cells [a,b] 163 0 wr)):ah SS.P 157 h (.pointer (some ⟨k,1,none⟩))=some b:=by
 unfold ah;rw [tf]; dsimp only;rw [hk]; dsimp only;rw [show Go.Ab.isAgg SS.P 157=false by kernel_rfl]; rfl
theorem RF {h:Heap}{k:Nat}{a b x:Value}(hk:h.get k=some (.cells [a,b] 163 0 true))(hx:bw x=true)(hc:x.cells = #[x]):ai SS.P 161 (.pointer (some ⟨k,0,none⟩)) x h=some (undef,.set k (.cells [x,b] 163 0 true)):=by
 show (if an SS.P 161=some x.cells.size then (storeAt h k 0 x.cells.toList).map fun u=>(undef,u) else none)=_;rw [hc,show an SS.P 161=some 1 by kernel_rfl,if_pos (show some 1=some #[x].size from rfl)];unfold storeAt;rw [hk]; dsimp only;rw [if_pos ⟨by simp,by simp [hx]⟩]; rfl
theorem st1 {h:Heap}{k:Nat}{a b x:Value}(hk:h.get k=some (.cells [a,b] 163 0 true))(hx:bw x=true)(hc:x.cells = #[x]):ai SS.P 157 (.pointer (some ⟨k,1,none⟩)) x h=some (undef,.set k (.cells [a,x] 163 0 true)):=by
 show (if an SS.P 157=some x.cells.size then (storeAt h k 1 x.cells.toList).map fun u=>(undef,u) else none)=_;rw [hc,show an SS.P 157=some 1 by kernel_rfl,if_pos (show some 1=some #[x].size from rfl)];unfold storeAt;rw [hk]; dsimp only;rw [if_pos ⟨by simp,by simp [hx]⟩]; rfl
theorem AA {h:Heap}{k:Nat}{a b:Value}(hk:h.get k=some (.cells [a,b] 163 0 true))(ha:a = .pointer none\/a=uW k):
  FW SS 181 [uW k] h (fun v h'=>v = .tuple ⟨[]⟩/\h'.get k=some (.cells [uW k,b] 163 0 true)/\(∀ j,j≠k->h'.get j=h.get j)/\h'.next=h.next):=by
 refine xp ⟨k,0,none⟩ h _ ⟨_,Og k,?_⟩;rcases ha with rfl | rfl
 ·refine ⟨_,Qs hk,true,by kernel_rfl,?_⟩;refine ae (fun _=> ?_) (fun g=>by cases g);refine ⟨_,_,L0 (k:=k) (x:= .tmp 8) (by kernel_rfl) (by kernel_rfl) hk,uh (p:=kX) (v:=uW k) (by kernel_rfl) (by kernel_rfl) (fun _=>rfl) ⟨_,rfl,_,_,GD (k:=k) (x:= .tmp 10) (by kernel_rfl) (by kernel_rfl) hk,_,Og k,_,RF hk rfl rfl,rfl,?_,?_,rfl⟩⟩
  ·show (h.set k _).get k=_;rw [Heap.get_set,if_pos rfl]; rfl
  ·intro j hj;show (h.set k _).get j=_;rw [Heap.get_set,if_neg hj]
 ·refine ⟨_,Qs hk,false,by kernel_rfl,?_⟩;refine ae (fun g=>by cases g) (fun _=> ?_);have hn:al SS.P .neq 161 (uW k) (uW k)=some (.bool false):=by
   show ((jy SS.P 161 (.pointer (some ⟨k,0,none⟩)) (.pointer (some ⟨k,0,none⟩))).map fun b=>Value.bool !b)=_;unfold jy;dsimp only;rw [oO];dsimp only;rw [if_pos ⟨rfl,by rw [Kk]; rfl⟩]; rfl
  refine ⟨_,Og k,_,Qs hk,false,hn,ae (fun g=>by cases g) (fun _=>⟨rfl,hk,fun _ _=>rfl,rfl⟩)⟩
def Bd (h0 h:Heap)(k:Nat)(l:List UInt8):Prop:= ∃ a v,h.get k=some (.cells [a,v] 163 0 true)/\(a = .pointer none\/a=uW k)/\OwnF h0 h 5 v (l.map mD)/\h0.next<=k
theorem RI:cL SS.P 5=some ((SS.P.info? 5).getD default):=by kernel_rfl
theorem Qq:((SS.P.info? 5).getD default).size=1:=by kernel_rfl
theorem QQ:((SS.P.info? 5).getD default).bytes=1:=by kernel_rfl
theorem RO:bW SS.P 9=true:=by kernel_rfl
theorem Ox (h:Heap)(l:List UInt8):cg h 1 (aa l)=some (l.map mD,(l.map mD).length):=by
 show (if 1=1 then some (l.map (fun b=>Value.int .u8 b.toNat),l.length) else none)=_;rw [if_pos rfl,lM]; rfl
theorem Fa: ∀ l:List UInt8,(l.map mD).all bw=true
 | []=>rfl
 | c::l=>by rw [List.map_cons,all_cons,Fa l]; rfl
theorem zt {h0 h g:Heap}{e:TypeId}{v:Value}{vs:List Value}(o:OwnF h0 h e v vs)(hg: ∀ j B,h.get j=some B->(∃ cs wr,B = .cells cs e 1 wr)->g.get j=some B):OwnF h0 g e v vs:=by
 rcases o with o | ⟨k,h1,h2,h3⟩
 ·exact .inl o
 ·exact .inr ⟨k,h1,h2,hg _ _ h3 ⟨_,_,rfl⟩⟩
theorem sN {h0 h:Heap}{k:Nat}{l m:List UInt8}(w0:Wf h0)(ok:Ok h0 h)(b:Bd h0 h k l)(hl:l.length+m.length<=1000000):
  FW SS 171 [uW k,aa m] h (fun v h'=>v = .tuple ⟨[.int .i64 (m.length:Int),.nilIface]⟩/\Ok h0 h'/\Bd h0 h' k (l++m)):=by
 obtain ⟨a,v,hk,ha,o,hn⟩:=b;refine GI ⟨k,0,none⟩ m h _ ((AA hk ha).mono ?_);rintro _ g ⟨rfl,hg,hj,hx⟩;have okg:Ok h0 g:=by
  refine ⟨fun j B h1=> ?_,fun j B h1=> ?_,by rw [hx]; exact ok.nx⟩
  ·rw [hx];by_cases e:j=k
   ·rw [e]; exact ok.wf _ _ hk
   ·rw [hj j e] at h1; exact ok.wf _ _ h1
  ·have:=w0 _ _ h1;rw [hj j (by omega)]; exact ok.ext _ _ h1
 have og:OwnF h0 g 5 v (l.map mD):=zt o fun j B h1 h2=>by
  obtain ⟨cs,wr,rfl⟩:=h2;by_cases e:j=k
  ·subst e; rw [hk] at h1; injection h1 with h1; injection h1; omega
  ·rw [hj j e]; exact h1
 have hv: ∃ a n c,v = .slice a n c:=by
  rcases og with ⟨rfl,_⟩ | ⟨_,rfl,_⟩ <;> exact ⟨_,_,_,rfl⟩
 obtain ⟨a4,n5,c6,rfl⟩:=hv;obtain ⟨b7,n8,c9,u10,e1,o2,ok2,keep⟩:=og.addL tf RI Qq RO w0 okg (Ox g m) (Fa m) (by rw [QQ,lM,lM]; omega) (by rw [lM,lM]; omega);have hk2:(u10.app g).get k=some (.cells [uW k,.slice a4 n5 c6] 163 0 true):=keep k _ hg (by
  intro o n c e;rcases og with ⟨e2,_⟩ | ⟨k2,e2,_,e3⟩
  ·rw [e2] at e; cases e
  ·rw [e2] at e;injection e with e
   injection e with e
   injection e with e
   subst e;rw [hg] at e3; injection e3 with e3; injection e3; omega)
 refine ⟨rfl,_,MM k,_,_,_,OW hg,b7,n8,c9,u10,e1,_,MM k,_,st1 hk2 ?_ ?_,rfl,?_,?_⟩
 ·rcases o2 with ⟨e2,_⟩ | ⟨k2,e2,_,e3⟩ <;> rw [e2] <;> rfl
 ·rfl
 ·exact ok2.set _ hn (ok2.wf _ _ hk2) w0
 ·refine ⟨uW k,.slice b7 n8 c9,?_,.inr rfl,?_,hn⟩
  ·show ((u10.app g).set k _).get k=_;rw [Heap.get_set,if_pos rfl]
  ·rw [map_append];refine zt o2 fun j B h1 h2=> ?_;obtain ⟨cs,wr,rfl⟩:=h2;show ((u10.app g).set k _).get j=_;rw [Heap.get_set,if_neg]
   ·exact h1
   intro e;subst e;rw [hk2] at h1; injection h1 with h1; injection h1; omega
theorem O4 {ρ:Operand->Value}{o:Oper}{x:Operand}{ts:Array TypeId}(ho:o.op = .call ⟨.builtin .unsafeSliceData,#[x],ts⟩){h:Heap}{a:Addr}{n c:Nat}(hx:ρ x = .slice (some a) n c)(hc:0 < aK c):bP SS.P eK ρ o h=some (.pointer (some a),.no):=by
 obtain ⟨dst,op,ty,pos,after,guard⟩:=o;subst ho;show (match [x].map ρ with
  | [.slice none _ _]=>some (Value.pointer none,Upd.no)
  | [.slice (some a) _ c]=>if 0 < aK c then some (Value.pointer (some a),Upd.no) else none
  | _=>none)=_
 rw [List.map_cons,List.map_nil,hx];show (if 0 < aK c then some (Value.pointer (some a),Upd.no) else none)=_;rw [if_pos hc]
theorem PY:SS.P.underlying 175=some (.pointer 5):=by kernel_rfl
theorem Mn {ρ:Operand->Value}{o:Oper}{x y:Operand}{t2:TypeId}(ho:o.op = .call ⟨.builtin .unsafeString,#[x,y],#[175,t2]⟩){h:Heap}{k:Nat}{l:List UInt8}(hx:ρ x = .pointer (some ⟨k,0,none⟩))(hy:ρ y = .int .i64 (l.length:Int))(hk:h.get k=some (.cells (l.map mD) 5 1 true))(h0:l≠[])(h1:l.length < 9223372036854775807):bP SS.P eK ρ o h=some (aa l,.set k (.cells (l.map mD) 5 1 false)):=by
 obtain ⟨dst,op,ty,pos,after,guard⟩:=o;subst ho;show (match [x,y].map ρ,(#[175,t2]:Array TypeId)[0]? with
  | [.pointer none,.int _ 0],some _=>some (aa [],Upd.no)
  | [.pointer (some ⟨k,i,none⟩),.int _ n],some pt=>(match h.get k,SS.P.underlying pt with
   | some (.cells cs e 1 true),some (.pointer e')=>
    if e=e'/\an SS.P e=some 1/\0 < n/\n < 9223372036854775807/\((cs.drop i).take n.toNat).length=n.toNat then
     (match bytesOf ((cs.drop i).take n.toNat) with
     | some l=>some (aa l,Upd.set k (.cells cs e 1 false))
     | none=>none)
    else none
   | _,_=>none)
  | _,_=>none)=_
 rw [List.map_cons,List.map_cons,List.map_nil,hx,hy];show (match h.get k,SS.P.underlying 175 with
   | some (.cells cs e 1 true),some (.pointer e')=>
    if e=e'/\an SS.P e=some 1/\0 < (l.length:Int)/\(l.length:Int) < 9223372036854775807/\((cs.drop 0).take (l.length:Int).toNat).length=(l.length:Int).toNat then
     (match bytesOf ((cs.drop 0).take (l.length:Int).toNat) with
     | some l=>some (aa l,Upd.set k (.cells cs e 1 false))
     | none=>none)
    else none
   | _,_=>none)=_
 rw [hk,PY];have hp:=List.length_pos_iff.2 h0;show (if 5=5/\an SS.P 5=some 1/\0 < (l.length:Int)/\(l.length:Int) < 9223372036854775807/\(((l.map mD).drop 0).take (l.length:Int).toNat).length=(l.length:Int).toNat then
     (match bytesOf (((l.map mD).drop 0).take (l.length:Int).toNat) with
     | some l'=>some (aa l',Upd.set k (.cells (l.map mD) 5 1 false))
     | none=>none)
    else none)=_
 rw [toNat_natCast,drop_zero,take_of_length_le (by simp),if_pos ⟨rfl,OZ,by omega,by omega,by simp⟩,jV]
theorem Ec {h0 h:Heap}{k:Nat}{l:List UInt8}(w0:Wf h0)(ok:Ok h0 h)(b:Bd h0 h k l)(hne:l≠[])(hl:l.length<=1000000):
  FW SS 173 [uW k] h (fun v h'=>v=aa l/\Ok h0 h'):=by
 obtain ⟨a,v,hk,ha,o,hn⟩:=b;rcases o with ⟨_,h1⟩ | ⟨k2,rfl,h2,h3⟩
 ·exact absurd (List.map_eq_nil_iff.1 h1) hne
 have hk':(room h 12).get k=_:=hk;have hp:=List.length_pos_iff.2 hne;have hc:aK (bi+(l.map mD).length)=l.length:=by unfold aK; rw [if_pos (by omega),lM]; omega
 rw [lM] at *;refine Eu ⟨k,0,none⟩ h _ ⟨_,MM k,_,_,_,OW hk',_,_,O4 (x:= .tmp 6) (ts:= #[157]) (a:=⟨k2,0,none⟩) (n:=l.length) (c:=bi+l.length) (by kernel_rfl) (by kernel_rfl) (by rw [hc]; exact hp),_,MM k,_,_,_,OW hk',_,_,Mn (x:= .tmp 7) (y:= .tmp 12) (k:=k2) (l:=l) (t2:=3) (by kernel_rfl) (by kernel_rfl) (by kernel_rfl) h3 hne (by omega),⟨OW hk',by simp [dY]⟩,⟨rfl,by simp [dY]⟩,rfl,?_⟩;exact (ok.room 12).set _ h2 ((ok.room 12).wf _ _ h3) w0
theorem QF (m:Nat)(h:Heap):aX SS.P SS.gl SS.pr (m+8) 172 [aa [48],.int .i64 0] h=some (aa [],h):=by kernel_rfl
theorem QO (m:Nat)(h:Heap):aX SS.P SS.gl SS.pr (m+8) 172 [aa [48],.int .i64 1] h=some (aa [48],h):=by kernel_rfl
theorem Q1 (m:Nat)(h:Heap):aX SS.P SS.gl SS.pr (m+8) 172 [aa [48],.int .i64 2] h=some (aa [48,48],h):=by kernel_rfl
theorem Qj (m:Nat)(h:Heap):aX SS.P SS.gl SS.pr (m+8) 172 [aa [48],.int .i64 3] h=some (aa [48,48,48],h):=by kernel_rfl
theorem Qv (m:Nat)(h:Heap):aX SS.P SS.gl SS.pr (m+8) 172 [aa [48],.int .i64 4] h=some (aa [48,48,48,48],h):=by kernel_rfl
theorem Qi (m:Nat)(h:Heap):aX SS.P SS.gl SS.pr (m+8) 172 [aa [48],.int .i64 5] h=some (aa [48,48,48,48,48],h):=by kernel_rfl
theorem Qe (m:Nat)(h:Heap):aX SS.P SS.gl SS.pr (m+8) 172 [aa [48],.int .i64 6] h=some (aa [48,48,48,48,48,48],h):=by kernel_rfl
theorem QR (m:Nat)(h:Heap):aX SS.P SS.gl SS.pr (m+8) 172 [aa [48],.int .i64 7] h=some (aa [48,48,48,48,48,48,48],h):=by kernel_rfl
theorem Q2 (m:Nat)(h:Heap):aX SS.P SS.gl SS.pr (m+8) 172 [aa [48],.int .i64 8] h=some (aa [48,48,48,48,48,48,48,48],h):=by kernel_rfl
theorem Gh {n:Nat}(hn:n<=8)(h:Heap):FW SS 172 [aa [48],.int .i64 (n:Int)] h (fun v h'=>v=aa (List.replicate n 48)/\h'=h):=by
 have key: ∀ (z:Int)(l:List UInt8),(∀ m,aX SS.P SS.gl SS.pr (m+8) 172 [aa [48],.int .i64 z] h=some (aa l,h))->FW SS 172 [aa [48],.int .i64 z] h (fun v h'=>v=aa l/\h'=h):=fun z l hr=>
  ⟨_,_,⟨8,fun N hN=>by obtain ⟨m,rfl⟩: ∃ m,N=m+8:=⟨N - 8,by omega⟩; exact hr m⟩,rfl,rfl⟩
 have:n=0\/n=1\/n=2\/n=3\/n=4\/n=5\/n=6\/n=7\/n=8:=by omega
 rcases this with rfl | rfl | rfl | rfl | rfl | rfl | rfl | rfl | rfl
 ·exact key 0 _ fun m=>QF m h
 ·exact key 1 _ fun m=>QO m h
 ·exact key 2 _ fun m=>Q1 m h
 ·exact key 3 _ fun m=>Qj m h
 ·exact key 4 _ fun m=>Qv m h
 ·exact key 5 _ fun m=>Qi m h
 ·exact key 6 _ fun m=>Qe m h
 ·exact key 7 _ fun m=>QR m h
 ·exact key 8 _ fun m=>Q2 m h
noncomputable def gT:FD:=bF Tryz.f161 [([1,1,1,0,1,0,0],[0,3,10,11])]
abbrev fP (a:OA)(n c:Nat)(p:Addr)(lim:Int)(i:Nat):LV:=[(.slice a n c),(.pointer (some p)),(.int .i64 lim),(iA i)]
theorem Ee (a:OA)(n c:Nat)(h:Heap)(Q:VH)(hx:au ((((n:Int):Int) == 0)) (Q (aa [48]) h) (xN (aF SS.P 163) h fun B1 g2=>LL SS gT [1,1,1,0,1,0,0] [(.slice a n c),(pA (h.next)),(iA n),(.int .i64 0)] g2 (KK SS gT [1,1,1,0,1,0] [] (EE SS gT Q)))):FW SS 161 [(.slice a n c)] h Q:=bG gT Tryz.func161 (aj hx)
theorem pY (a:OA)(n c:Nat)(p:Addr)(lim:Int)(Inv:Nat->Nat->Heap->Prop)(Q:VH)(step: ∀ (mz:Nat) (i:Nat) (zz:Nat->Value) (h:Heap),Inv mz i h->au (decide (((i:Int):Int) < lim)) (xP (ag SS.P 136 (.slice a n c) (.int .i64 (wrap .i64 (wrap .i64 ((n:Int) - 1) - (i:Int))))) fun p3=>xI .u64 (ah SS.P 103 h (.pointer (some p3))) fun n4=>FW SS 170 [(.int .u64 n4),(.int .i64 10)] h fun v5 h6=>yS v5 fun l7=>au (decide (((i:Int):Int) > 0)) (FW SS 172 [(aa [48]),(.int .i64 (wrap .i64 (9 - ((l7:LB).length:Int))))] h6 fun v8 h9=>yS v8 fun l10=>FW SS 171 [(.pointer (some p)),(aa l10)] h9 fun v11 h12=> ∃ n13:Int,∃ v14:Value,v11=(.tuple ⟨[(.int .i64 n13),v14]⟩)/\FW SS 171 [(.pointer (some p)),(aa l7)] h12 fun v15 h16=> ∃ n17:Int,∃ v18:Value,v15=(.tuple ⟨[(.int .i64 n17),v18]⟩)/\ax (fA (fP a n c p lim) Inv) mz [(.slice a n c),(.pointer (some p)),(.int .i64 lim),(.int .i64 (wrap .i64 ((i:Int)+1)))] h16) (FW SS 171 [(.pointer (some p)),(aa l7)] h6 fun v19 h20=> ∃ n21:Int,∃ v22:Value,v19=(.tuple ⟨[(.int .i64 n21),v22]⟩)/\ax (fA (fP a n c p lim) Inv) mz [(.slice a n c),(.pointer (some p)),(.int .i64 lim),(.int .i64 (wrap .i64 ((i:Int)+1)))] h20)) (FW SS 173 [(.pointer (some p))] h fun v23 h24=>yS v23 fun l25=>Q (aa l25) h24))(mz:Nat){i:Nat}{h:Heap}(hi:Inv mz i h):LL SS gT [1,1,1,0,1,0,0] (fP a n c p lim i) h (KK SS gT [1,1,1,0,1,0] [] (EE SS gT Q)):=
 bH (fP a n c p lim) Inv (fun mz i zz h hi=>aj (step mz i zz h hi)) mz hi
noncomputable def jD:FD:=bF Tryz.f143 [([1,1,1,0,0,0],[6,7])]
abbrev gH  (a:OA) (n c:Nat) (b:OA) (k d:Nat):LV:=[(.slice a n c),(.slice b k d)]
theorem HQ (l m:LB)(h:Heap)(Q:VH)(hx:FW SS 139 [(aa l)] h fun v1 h2=>yB v1 fun b3=>au (!b3) (Q (.tuple ⟨[(aa []),(.int .i64 1)]⟩) h2) (FW SS 139 [(aa m)] h2 fun v4 h5=>yB v4 fun b6=>au (!b6) (Q (.tuple ⟨[(aa []),(.int .i64 1)]⟩) h5) (FW SS 140 [(aa l)] h5 fun v7 h8=>yL v7 fun a9 n10 c11=>FW SS 140 [(aa m)] h8 fun v12 h13=>yL v12 fun a14 n15 c16=>LL SS jD [1,1,1,0,0,0] (gH a9 n10 c11 a14 n15 c16) h13 (KK SS jD [1,1,1,0,0] [] (EE SS jD Q))))):FW SS 143 [(aa l),(aa m)] h Q:=bG jD Tryz.func143 (aj hx)
theorem rz (l m:LB)  (Inv:Nat->OA->Nat->Nat->OA->Nat->Nat->Heap->Prop) (Q:VH) (step: ∀ (mz:Nat)(a:OA)(n c:Nat)(b:OA)(k d:Nat)(zz:Nat->Value)(h:Heap),Inv mz a n c b k d h->au (decide (((k:Int):Int) > 0)) (FW SS 163 [(.slice a n c),(.slice b k d)] h fun v17 h18=> ∃ (a19:OA)(n20 c21:Nat),∃ (a22:OA)(n23 c24:Nat),v17=(.tuple ⟨[(.slice a19 n20 c21),(.slice a22 n23 c24)]⟩)/\ax (P6 gH Inv) mz [(.slice b k d),(.slice a22 n23 c24)] h18) (FW SS 161 [(.slice a n c)] h fun v25 h26=>yS v25 fun l27=>Q (.tuple ⟨[(aa l27),(.int .i64 0)]⟩) h26)) (mz:Nat) {a:OA} {n c:Nat} {b:OA} {k d:Nat} {h:Heap} (hi:Inv mz a n c b k d h):LL SS jD [1,1,1,0,0,0] (gH  a n c b k d) h (KK SS jD [1,1,1,0,0] [] (EE SS jD Q)):=
 P0 gH Inv (fun mz a n c b k d zz h hi=>aj (step mz a n c b k d zz h hi)) mz hi
end Go.Proofs.YtoabjjimjldcfaaGreatDoor
end
section
set_option linter.unusedVariables false
namespace Go.Num
theorem yQ {Y:Nat}(hY:0 < Y): ∀ {n b:Nat},b < 10 ^ n->toDec (Y*10 ^ n+b)=toDec Y++wid n b
 | 0,b,h=>by
  obtain rfl:b=0:=by simpa using h
  simp [wid]
 | n+1,b,h=>by
  have h1:b / 10 < 10 ^ n:=by rw [Nat.div_lt_iff_lt_mul (by omega),<-pow_succ]; exact h
  have h2:=yQ hY h1;have hp:0 < 10 ^ n:=Nat.pow_pos (by omega);have h3:0 < Y*10 ^ n+b / 10:=Nat.add_pos_left (Nat.mul_pos hY hp) _;have e:Y*10 ^ (n+1)+b=10*(Y*10 ^ n+b / 10)+b % 10:=by
   rw [pow_succ,mul_add,<-mul_assoc,mul_comm (Y*10 ^ n) 10];omega
  rw [e,pV h3 (mod_lt _ (by omega)),h2,wid,List.append_assoc]
theorem toDec_block {Y b:Nat}(hY:0 < Y)(hb:b < 1000000000):toDec (b+1000000000*Y)=toDec Y++List.replicate (9 - (toDec b).length) 48++toDec b:=by
 have h:=yQ hY (n:=9) (b:=b) hb;have e:b+1000000000*Y=Y*10 ^ 9+b:=by
  rw [Nat.add_comm,mul_comm]
 rw [e,h,Fb (n:=9) hb (by omega),List.append_assoc]
theorem toDec_len_9 {b:Nat}(hb:b < 1000000000):(toDec b).length<=9:=(toDec_len_le (by omega)).2 hb
end Go.Num
end
section
set_option linter.unusedVariables false
set_option maxRecDepth 100000
namespace Go.Proofs.YtoabjjimjldcfaaGreatDoor
open Go Go.Ab
noncomputable def Pi:Blk:= .cells [.pointer none,.slice none 0 0] 163 0 true
theorem PO:aF SS.P 163=some (Pi,iy):=by kernel_rfl
theorem PJ {h0 h g:Heap}{k:Nat}{l:List UInt8}(b:Bd h0 h k l)(o:Ok h g):Bd h0 g k l:=by
 obtain ⟨a,v,h1,h2,h3,h4⟩:=b;exact ⟨a,v,o.ext _ _ h1,h2,zt h3 fun j B hj _=>o.ext _ _ hj,h4⟩
theorem pE {h:Heap}{a:Option Addr}{n c X:Nat}(ra:Rd h 103 (.slice a n c) (bl X))(hlen:(Num.toB BB X).length<=10000)(t:Tab h)(w:Wf h):
  FW SS 161 [.slice a n c] h (fun v h'=>v=aa (Num.toDec X)/\Ok h h'):=by
 have hn:n=(Num.toB BB X).length:=by have:=ra.len; rwa [lM] at this
 refine Ee a n c h _ (ae (fun g=> ?_) (fun g=> ?_))
 ·have g:(n:Int)=0:=by simpa using g
  have h0:(Num.toB BB X).length=0:=by omega
  have:X=0:=by have:=(Num.toB_eq_nil dx).1 (List.eq_nil_of_length_eq_zero h0); omega
  subst this;refine ⟨?_,Ok.refl w⟩;rw [Num.toDec_lt (by omega)]; rfl
 ·have g: ¬ (n:Int)=0:=by simpa using g
  have hX:0 < X:=by
   rcases Nat.eq_zero_or_pos X with h | h
   ·subst h; rw [(Num.toB_eq_nil dx).2 rfl] at hn; simp at hn; omega
   ·exact h
  have htop:=Num.toB_top dx hX;have hlt:=Num.toB_lt dx X;have hbv:=Num.bv_toB dx X;have ra:Rd h 103 (.slice a n c) ((Num.toB BB X).map uv):=ra;generalize hx:Num.toB BB X=x at *;have L:=pY a n c ⟨h.next,0,none⟩ (n:Int) (fun mz i g=>i<=n/\mz=n - i/\Ok h g/\ ∃ l,Bd h g h.next l/\l.length<=9*i/\(i=0->l=[])/\(0 < i->0 < Num.bv BB (x.drop (n - i))/\l=Num.toDec (Num.bv BB (x.drop (n - i))))) (fun v h'=>v=aa (Num.toDec X)/\Ok h h') (by
   intro mz i; intros; rename_i g hi;obtain ⟨h1,rfl,ok,l,bd,hll,hz,hp⟩:=hi;refine ae (fun h2=> ?_) (fun h2=> ?_)
   ·have h2:=dT h2;have e1:wrap .i64 (wrap .i64 ((n:Int) - 1) - (i:Int))=((n - 1 - i:Nat):Int):=by
     rw [am (n:=(n:Int) - 1) (by omega) (by omega),am (by omega) (by omega)]; omega
    obtain ⟨p,e2,e3⟩:=xJ (ra.ok ok) (i:=((n - 1 - i:Nat):Int)) (by omega) (by rw [<-hn]; omega);rw [e1];rw [toNat_natCast] at e3;have hb:x.getD (n - 1 - i) 0 < BB:=Num.getD_lt (by decide) hlt _;have hstep:Num.bv BB (x.drop (n - 1 - i))=x.getD (n - 1 - i) 0+BB*Num.bv BB (x.drop (n - i)):=by
     rw [Num.bv_drop,show n - 1 - i+1=n - i by omega]
    have e5:wrap .i64 ((i:Int)+1)=((i+1:Nat):Int):=by rw [am (by omega) (by omega)]; omega
    rw [e5];have htop':i=0->0 < x.getD (n - 1 - i) 0:=fun e=>by subst e; rw [hn]; exact htop
    generalize x.getD (n - 1 - i) 0=b at *;have hb':b < 1000000000:=hb;have hb9:=Num.toDec_len_9 hb';refine ⟨p,e2,_,e3,(EM hb' (t.ok ok) ok.wf).mono ?_⟩;rintro _ h5 ⟨rfl,ok5⟩;have bd5:=PJ bd ok5;have ok5:=ok.trans ok5;refine ⟨_,rfl,ae (fun h6=> ?_) (fun h6=> ?_)⟩
    ·have h6:=dT h6;obtain ⟨p1,p2⟩:=hp (by omega);have e4:wrap .i64 (9 - ((Num.toDec b).length:Int))=((9 - (Num.toDec b).length:Nat):Int):=by rw [am (by omega) (by omega)]; omega
     rw [e4];have hpos:=Num.toDec_len_pos b;refine (Gh (by omega) h5).mono ?_;rintro _ h8 ⟨rfl,rfl⟩;refine ⟨_,rfl,(sN w ok5 bd5 (by rw [length_replicate]; omega)).mono ?_⟩;rintro _ h11 ⟨rfl,ok11,bd11⟩;refine ⟨_,_,rfl,(sN w ok11 bd11 (by rw [List.length_append,length_replicate]; omega)).mono ?_⟩;rintro _ h15 ⟨rfl,ok15,bd15⟩;refine ⟨_,_,rfl,bp (n - (i+1)) (by omega) ⟨by omega,rfl,ok15,_,bd15,?_,fun h=>by omega,fun _=> ?_⟩⟩
     ·rw [List.length_append,List.length_append,length_replicate]; omega
     ·rw [show n - (i+1)=n - 1 - i by omega,hstep];refine ⟨Nat.add_pos_right _ (Nat.mul_pos (by decide) p1),?_⟩;have:=Num.toDec_block p1 hb';rw [p2];exact this.symm
    ·have h6:=dF h6;obtain rfl:i=0:=by omega
     obtain rfl:=hz rfl;refine (sN w ok5 bd5 (by rw [List.length_nil]; omega)).mono ?_;rintro _ h15 ⟨rfl,ok15,bd15⟩;refine ⟨_,_,rfl,bp (n - 1) (by omega) ⟨by omega,rfl,ok15,_,bd15,?_,fun h=>by omega,fun _=> ?_⟩⟩
     ·rw [List.nil_append]; omega
     ·have hb0:Num.bv BB (x.drop n)=0:=by rw [List.drop_of_length_le (by omega)]; rfl
      rw [show n - 1 - 0=n - 1 by omega,show n - 0=n by omega,hb0,Nat.mul_zero,add_zero] at hstep;rw [zero_add,hstep,List.nil_append];refine ⟨?_,rfl⟩;exact htop' rfl
   ·have h2:=dF h2;obtain rfl:i=n:=by omega
    obtain ⟨p1,p2⟩:=hp (by omega);rw [Nat.sub_self,drop_zero,hbv] at p2;subst p2;refine (Ec w ok bd (Num.toDec_ne X) (by omega)).mono ?_;rintro _ h15 ⟨rfl,ok15⟩;exact ⟨_,rfl,rfl,ok15⟩)
  have ok1:=(Ok.refl w).push Pi;refine ⟨_,PO,L n (i:=0) ⟨by omega,rfl,ok1,[],⟨_,_,?_,.inl rfl,.inl ⟨rfl,rfl⟩,le_refl _⟩,by simp,fun _=>rfl,fun h=>by omega⟩⟩;rw [Heap.get_push,if_pos rfl]; rfl
theorem N0 {k m:Nat}(h:k<=9*m):10 ^ k<=BB ^ m:=by
 show 10 ^ k<=(10 ^ 9) ^ m;rw [<-Nat.pow_mul];exact pow_le_pow_right (by decide) h
theorem j5 {X:Nat}(h:X < 10 ^ 1000):(Num.toB BB X).length<=112:=by
 refine Num.toB_len_le dx (lt_of_lt_of_le h (N0 (k:=1000) (m:=112) (by decide)))
def Aq (h:Heap)(X Y:Nat)(mz:Nat)(a:Option Addr)(n c:Nat)(b:Option Addr)(k d:Nat)(g:Heap):Prop:= ∃ p:Nat,Rd g 103 (.slice a n c) (bl p)/\Rd g 103 (.slice b k d) (bl mz)/\(Num.toB BB p).length<=112/\(Num.toB BB mz).length<=112/\Nat.gcd p mz=Nat.gcd X Y/\Ok h g
theorem gcd_step {h g:Heap}{X Y mz:Nat}{a:Option Addr}{n c:Nat}{b:Option Addr}{k d:Nat}(t:Tab h)(hi:Aq h X Y mz a n c b k d g){K:Nat->Option Addr->Nat->Nat->Option Addr->Nat->Nat->Heap->Prop}{Q:VH}
  (hK: ∀ (a1:Option Addr)(n1 c1:Nat)(a2:Option Addr)(n2 c2 m2:Nat)(g:Heap),m2 < mz->Aq h X Y m2 b k d a2 n2 c2 g->K m2 a1 n1 c1 a2 n2 c2 g):
  (0 < k->FW SS 163 [.slice a n c,.slice b k d] g (fun v h'=> ∃ (a1:Option Addr)(n1 c1:Nat)(a2:Option Addr)(n2 c2 m2:Nat),v = .tuple ⟨[.slice a1 n1 c1,.slice a2 n2 c2]⟩/\K m2 a1 n1 c1 a2 n2 c2 h'))/\
  (k=0->FW SS 161 [.slice a n c] g (fun v h'=>v=aa (Num.toDec (Nat.gcd X Y))/\Ok h h')):=by
 obtain ⟨p,rp,rq,lp,lq,hg,ok⟩:=hi;have hk:k=(Num.toB BB mz).length:=by have:=rq.len; rwa [lM] at this
 constructor
 ·intro h2;have hq0:0 < mz:=by
   rcases Nat.eq_zero_or_pos mz with e | e
   ·subst e; rw [(Num.toB_eq_nil dx).2 rfl] at hk; simp at hk; omega
   ·exact e
  refine (zh rp rq hq0 (le_trans lp (by omega)) (le_trans lq (by omega)) ok.wf).mono ?_;rintro _ h3 ⟨a1,n1,c1,a2,n2,c2,rfl,r1,r2,ok3⟩;refine ⟨a1,n1,c1,a2,n2,c2,p % mz,rfl,hK a1 n1 c1 a2 n2 c2 (p % mz) h3 (mod_lt _ hq0) ⟨mz,rq.ok ok3,r2,lq,?_,?_,ok.trans ok3⟩⟩
  ·exact le_trans (Nat.le_of_not_lt fun h=>by have h1:=Num.toB_len_lt dx h; have h2:=mod_lt p hq0; exact absurd h1 (Nat.not_lt.2 (le_of_lt h2))) lq
  ·rw [<-hg,Nat.gcd_comm mz,<-Nat.gcd_rec,Nat.gcd_comm]
 ·intro h2;have hq0:mz=0:=(Num.toB_eq_nil dx).1 (List.eq_nil_of_length_eq_zero (by rw [<-hk,h2]));subst hq0;rw [Nat.gcd_zero_right] at hg;subst hg;refine (pE rp (le_trans lp (by omega)) (t.ok ok) ok.wf).mono ?_;rintro _ h4 ⟨rfl,ok4⟩;exact ⟨rfl,ok.trans ok4⟩
theorem H0 (a b:List UInt8){h:Heap}(t:Tab h)(w:Wf h):FW SS 143 [aa a,aa b] h (fun v h'=>v=tL a b/\Ok h h'):=by
 refine HQ a b h _ ((cd a h).mono ?_);rintro _ g0 ⟨rfl,e0⟩;obtain rfl:h=g0:=e0.symm;refine ⟨_,rfl,ae (fun g=> ?_) (fun g=> ?_)⟩
 ·have g:Num.valid a=false:=by simpa using g
  refine ⟨?_,Ok.refl w⟩;unfold tL; rw [if_neg (fun e=>by rw [e.1] at g; cases g)]; rfl
 have g:Num.valid a=true:=by simpa using g
 refine (cd b h).mono ?_;rintro _ g0 ⟨rfl,e0⟩;obtain rfl:h=g0:=e0.symm;refine ⟨_,rfl,ae (fun g2=> ?_) (fun g2=> ?_)⟩
 ·have g2:Num.valid b=false:=by simpa using g2
  refine ⟨?_,Ok.refl w⟩;unfold tL; rw [if_neg (fun e=>by rw [e.2] at g2; cases g2)]; rfl
 have g2:Num.valid b=true:=by simpa using g2
 obtain ⟨X,ea,hX,eX⟩:=Num.valid_ex g;obtain ⟨Y,eb,hY,eY⟩:=Num.valid_ex g2;have da:=(Num.valid_iff.1 g)
 have db:=(Num.valid_iff.1 g2)
 have lX:=j5 hX;have lY:=j5 hY;clear hX hY;refine (lG a da.1.2.1 (le_trans da.2 (by omega)) h w).mono ?_;rintro _ h1 ⟨a1,n1,c1,rfl,o1,ok1⟩;refine ⟨_,_,_,rfl,(lG b db.1.2.1 (le_trans db.2 (by omega)) h1 ok1.wf).mono ?_⟩;rintro _ h2 ⟨a2,n2,c2,rfl,o2,ok2⟩;refine ⟨_,_,_,rfl,?_⟩;have hS:tL a b=wJ (Num.toDec (Nat.gcd X Y)) 0:=by unfold tL; rw [if_pos ⟨g,g2⟩,eX,eY]
 rw [hS];rw [eX] at o1;rw [eY] at o2;refine rz a b (Aq h X Y) (fun v h'=>v=wJ (Num.toDec (Nat.gcd X Y)) 0/\Ok h h') (fun mz a n c b k d=> ?_) Y ⟨X,o1.rd.ok ok2,o2.rd,lX,lY,rfl,ok1.trans ok2⟩;intros; rename_i g hi;have S:=gcd_step t hi (K:=fun m2 a1 n1 c1 a2 n2 c2 g=>m2 < mz/\Aq h X Y m2 b k d a2 n2 c2 g) (fun a1 n1 c1 a2 n2 c2 m2 g h1 h2=>⟨h1,h2⟩) (Q:=fun _ _=>True);refine ae (fun h2=> ?_) (fun h2=> ?_)
 ·have h2:=dT h2;refine (S.1 (by omega)).mono ?_;rintro _ h3 ⟨a1,n1,c1,a2,n2,c2,m2,rfl,i1,i2⟩;exact ⟨_,_,_,_,_,_,rfl,O9 m2 i1 i2⟩
 ·have h2:=dF h2;refine (S.2 (by omega)).mono ?_;rintro _ h4 ⟨rfl,ok4⟩;exact ⟨_,rfl,rfl,ok4⟩
noncomputable def LW:FD:=bF Tryz.f168 []
theorem Jb (x y z:Int)(h:Heap)(Q:VH)(hx:xI .u64 (al SS.P .rem 103 (.int .u64 (wrap .u64 (wrap .u64 (x+y)+z))) (.int .u64 1000000000)) fun n1=>xI .u64 (al SS.P .quo 103 (.int .u64 (wrap .u64 (wrap .u64 (x+y)+z))) (.int .u64 1000000000)) fun n2=>Q (.tuple ⟨[(.int .u64 n1),(.int .u64 n2)]⟩) h):FW SS 168 [(.int .u64 x),(.int .u64 y),(.int .u64 z)] h Q:=bG LW Tryz.func168 (aj hx)
noncomputable def KN:FD:=bF Tryz.f174 []
theorem Ij (x y z:Int)(h:Heap)(Q:VH)(hx:xI .u64 (al SS.P .rem 103 (.int .u64 (wrap .u64 (wrap .u64 (wrap .u64 (x+1000000000) - y) - z))) (.int .u64 1000000000)) fun n1=>xI .u64 (al SS.P .quo 103 (.int .u64 (wrap .u64 (wrap .u64 (wrap .u64 (x+1000000000) - y) - z))) (.int .u64 1000000000)) fun n2=>Q (.tuple ⟨[(.int .u64 n1),(.int .u64 (wrap .u64 (1 - n2)))]⟩) h):FW SS 174 [(.int .u64 x),(.int .u64 y),(.int .u64 z)] h Q:=bG KN Tryz.func174 (aj hx)
noncomputable def fX:FD:=bF Tryz.f167 [([1,1,1,0,1,0,0],[0,1,2,7,8,18,19])]
abbrev cj (a:OA)(n c:Nat)(b:OA)(m d:Nat)(lim:Int)(i:Nat)(cy:Int)(r:OA)(rn rc:Nat):LV:=[(.slice a n c),(.slice b m d),(.func (.func 168) ⟨[]⟩ ⟨[]⟩),(.slice r rn rc),(.int .u64 cy),(.int .i64 lim),(iA i)]
theorem CE (a:OA)(n c:Nat)(b:OA)(m d:Nat)(h:Heap)(Q:VH)(hx:xI .i64 (kz true [(iA n),(iA m)]) fun n1=>LL SS fX [1,1,1,0,1,0,0] (cj a n c b m d (wrap .i64 (n1+1)) 0 0 none 0 0) h (KK SS fX [1,1,1,0,1,0] [] (EE SS fX Q))):FW SS 167 [(.slice a n c),(.slice b m d),(.func (.func 168) ⟨[]⟩ ⟨[]⟩)] h Q:=bG fX Tryz.func167 (aj hx)
theorem oH (a:OA)(n c:Nat)(b:OA)(m d:Nat)(lim:Int)(Inv:Nat->Nat->Int->OA->Nat->Nat->Heap->Prop)(Q:VH)(step: ∀ (mz:Nat) (i:Nat) (cy:Int) (r:OA) (rn rc:Nat) (zz:Nat->Value) (h:Heap),Inv mz i cy r rn rc h->au (decide (((i:Int):Int) < lim)) (au (decide (((i:Int):Int) < (n:Int))) (xP (ag SS.P 136 (.slice a n c) (iA i)) fun p2=>xI .u64 (ah SS.P 103 h (.pointer (some p2))) fun n3=>au (decide (((i:Int):Int) < (m:Int))) (xP (ag SS.P 136 (.slice b m d) (iA i)) fun p4=>xI .u64 (ah SS.P 103 h (.pointer (some p4))) fun n5=>FW SS 168 [(.int .u64 n3),(.int .u64 n5),(.int .u64 cy)] h fun v6 h7=> ∃ n8:Int,∃ n9:Int,v6=(.tuple ⟨[(.int .u64 n8),(.int .u64 n9)]⟩)/\xR (ak SS.P 136 1 [(0,(.int .u64 n8))]) h7 fun B10 n11 c12 g13=>xE (ay SS.P 136 136 (.slice r rn rc) (sA (h7.next) n11 c12) g13) g13 fun a14 n15 c16 u17 g18=>ax (wp (cj a n c b m d lim) Inv) mz [(.slice a n c),(.slice b m d),(.func (.func 168) ⟨[]⟩ ⟨[]⟩),(.slice a14 n15 c16),(.int .u64 n9),(.int .i64 lim),(.int .i64 (wrap .i64 ((i:Int)+1)))] g18) (FW SS 168 [(.int .u64 n3),(.int .u64 0),(.int .u64 cy)] h fun v19 h20=> ∃ n21:Int,∃ n22:Int,v19=(.tuple ⟨[(.int .u64 n21),(.int .u64 n22)]⟩)/\xR (ak SS.P 136 1 [(0,(.int .u64 n21))]) h20 fun B23 n24 c25 g26=>xE (ay SS.P 136 136 (.slice r rn rc) (sA (h20.next) n24 c25) g26) g26 fun a27 n28 c29 u30 g31=>ax (wp (cj a n c b m d lim) Inv) mz [(.slice a n c),(.slice b m d),(.func (.func 168) ⟨[]⟩ ⟨[]⟩),(.slice a27 n28 c29),(.int .u64 n22),(.int .i64 lim),(.int .i64 (wrap .i64 ((i:Int)+1)))] g31)) (au (decide (((i:Int):Int) < (m:Int))) (xP (ag SS.P 136 (.slice b m d) (iA i)) fun p32=>xI .u64 (ah SS.P 103 h (.pointer (some p32))) fun n33=>FW SS 168 [(.int .u64 0),(.int .u64 n33),(.int .u64 cy)] h fun v34 h35=> ∃ n36:Int,∃ n37:Int,v34=(.tuple ⟨[(.int .u64 n36),(.int .u64 n37)]⟩)/\xR (ak SS.P 136 1 [(0,(.int .u64 n36))]) h35 fun B38 n39 c40 g41=>xE (ay SS.P 136 136 (.slice r rn rc) (sA (h35.next) n39 c40) g41) g41 fun a42 n43 c44 u45 g46=>ax (wp (cj a n c b m d lim) Inv) mz [(.slice a n c),(.slice b m d),(.func (.func 168) ⟨[]⟩ ⟨[]⟩),(.slice a42 n43 c44),(.int .u64 n37),(.int .i64 lim),(.int .i64 (wrap .i64 ((i:Int)+1)))] g46) (FW SS 168 [(.int .u64 0),(.int .u64 0),(.int .u64 cy)] h fun v47 h48=> ∃ n49:Int,∃ n50:Int,v47=(.tuple ⟨[(.int .u64 n49),(.int .u64 n50)]⟩)/\xR (ak SS.P 136 1 [(0,(.int .u64 n49))]) h48 fun B51 n52 c53 g54=>xE (ay SS.P 136 136 (.slice r rn rc) (sA (h48.next) n52 c53) g54) g54 fun a55 n56 c57 u58 g59=>ax (wp (cj a n c b m d lim) Inv) mz [(.slice a n c),(.slice b m d),(.func (.func 168) ⟨[]⟩ ⟨[]⟩),(.slice a55 n56 c57),(.int .u64 n50),(.int .i64 lim),(.int .i64 (wrap .i64 ((i:Int)+1)))] g59))) (FW SS 142 [(.slice r rn rc)] h fun v60 h61=>yL v60 fun a62 n63 c64=>Q (.slice a62 n63 c64) h61))(mz:Nat){i:Nat}{cy:Int}{r:OA}{rn rc:Nat}{h:Heap}(hi:Inv mz i cy r rn rc h):LL SS fX [1,1,1,0,1,0,0] (cj a n c b m d lim i cy r rn rc) h (KK SS fX [1,1,1,0,1,0] [] (EE SS fX Q)):=
 xK (cj a n c b m d lim) Inv (fun mz i cy r rn rc zz h hi=>aj (step mz i cy r rn rc zz h hi)) mz hi
noncomputable def eW:FD:=bF Tryz.f167 [([1,1,1,0,1,0,0],[0,1,2,7,8,18,19])]
abbrev bS (a:OA)(n c:Nat)(b:OA)(m d:Nat)(lim:Int)(i:Nat)(cy:Int)(r:OA)(rn rc:Nat):LV:=[(.slice a n c),(.slice b m d),(.func (.func 174) ⟨[]⟩ ⟨[]⟩),(.slice r rn rc),(.int .u64 cy),(.int .i64 lim),(iA i)]
theorem Ae (a:OA)(n c:Nat)(b:OA)(m d:Nat)(h:Heap)(Q:VH)(hx:xI .i64 (kz true [(iA n),(iA m)]) fun n1=>LL SS eW [1,1,1,0,1,0,0] (bS a n c b m d (wrap .i64 (n1+1)) 0 0 none 0 0) h (KK SS eW [1,1,1,0,1,0] [] (EE SS eW Q))):FW SS 167 [(.slice a n c),(.slice b m d),(.func (.func 174) ⟨[]⟩ ⟨[]⟩)] h Q:=bG eW Tryz.func167 (aj hx)
theorem nr (a:OA)(n c:Nat)(b:OA)(m d:Nat)(lim:Int)(Inv:Nat->Nat->Int->OA->Nat->Nat->Heap->Prop)(Q:VH)(step: ∀ (mz:Nat) (i:Nat) (cy:Int) (r:OA) (rn rc:Nat) (zz:Nat->Value) (h:Heap),Inv mz i cy r rn rc h->au (decide (((i:Int):Int) < lim)) (au (decide (((i:Int):Int) < (n:Int))) (xP (ag SS.P 136 (.slice a n c) (iA i)) fun p2=>xI .u64 (ah SS.P 103 h (.pointer (some p2))) fun n3=>au (decide (((i:Int):Int) < (m:Int))) (xP (ag SS.P 136 (.slice b m d) (iA i)) fun p4=>xI .u64 (ah SS.P 103 h (.pointer (some p4))) fun n5=>FW SS 174 [(.int .u64 n3),(.int .u64 n5),(.int .u64 cy)] h fun v6 h7=> ∃ n8:Int,∃ n9:Int,v6=(.tuple ⟨[(.int .u64 n8),(.int .u64 n9)]⟩)/\xR (ak SS.P 136 1 [(0,(.int .u64 n8))]) h7 fun B10 n11 c12 g13=>xE (ay SS.P 136 136 (.slice r rn rc) (sA (h7.next) n11 c12) g13) g13 fun a14 n15 c16 u17 g18=>ax (wp (bS a n c b m d lim) Inv) mz [(.slice a n c),(.slice b m d),(.func (.func 174) ⟨[]⟩ ⟨[]⟩),(.slice a14 n15 c16),(.int .u64 n9),(.int .i64 lim),(.int .i64 (wrap .i64 ((i:Int)+1)))] g18) (FW SS 174 [(.int .u64 n3),(.int .u64 0),(.int .u64 cy)] h fun v19 h20=> ∃ n21:Int,∃ n22:Int,v19=(.tuple ⟨[(.int .u64 n21),(.int .u64 n22)]⟩)/\xR (ak SS.P 136 1 [(0,(.int .u64 n21))]) h20 fun B23 n24 c25 g26=>xE (ay SS.P 136 136 (.slice r rn rc) (sA (h20.next) n24 c25) g26) g26 fun a27 n28 c29 u30 g31=>ax (wp (bS a n c b m d lim) Inv) mz [(.slice a n c),(.slice b m d),(.func (.func 174) ⟨[]⟩ ⟨[]⟩),(.slice a27 n28 c29),(.int .u64 n22),(.int .i64 lim),(.int .i64 (wrap .i64 ((i:Int)+1)))] g31)) (au (decide (((i:Int):Int) < (m:Int))) (xP (ag SS.P 136 (.slice b m d) (iA i)) fun p32=>xI .u64 (ah SS.P 103 h (.pointer (some p32))) fun n33=>FW SS 174 [(.int .u64 0),(.int .u64 n33),(.int .u64 cy)] h fun v34 h35=> ∃ n36:Int,∃ n37:Int,v34=(.tuple ⟨[(.int .u64 n36),(.int .u64 n37)]⟩)/\xR (ak SS.P 136 1 [(0,(.int .u64 n36))]) h35 fun B38 n39 c40 g41=>xE (ay SS.P 136 136 (.slice r rn rc) (sA (h35.next) n39 c40) g41) g41 fun a42 n43 c44 u45 g46=>ax (wp (bS a n c b m d lim) Inv) mz [(.slice a n c),(.slice b m d),(.func (.func 174) ⟨[]⟩ ⟨[]⟩),(.slice a42 n43 c44),(.int .u64 n37),(.int .i64 lim),(.int .i64 (wrap .i64 ((i:Int)+1)))] g46) (FW SS 174 [(.int .u64 0),(.int .u64 0),(.int .u64 cy)] h fun v47 h48=> ∃ n49:Int,∃ n50:Int,v47=(.tuple ⟨[(.int .u64 n49),(.int .u64 n50)]⟩)/\xR (ak SS.P 136 1 [(0,(.int .u64 n49))]) h48 fun B51 n52 c53 g54=>xE (ay SS.P 136 136 (.slice r rn rc) (sA (h48.next) n52 c53) g54) g54 fun a55 n56 c57 u58 g59=>ax (wp (bS a n c b m d lim) Inv) mz [(.slice a n c),(.slice b m d),(.func (.func 174) ⟨[]⟩ ⟨[]⟩),(.slice a55 n56 c57),(.int .u64 n50),(.int .i64 lim),(.int .i64 (wrap .i64 ((i:Int)+1)))] g59))) (FW SS 142 [(.slice r rn rc)] h fun v60 h61=>yL v60 fun a62 n63 c64=>Q (.slice a62 n63 c64) h61))(mz:Nat){i:Nat}{cy:Int}{r:OA}{rn rc:Nat}{h:Heap}(hi:Inv mz i cy r rn rc h):LL SS eW [1,1,1,0,1,0,0] (bS a n c b m d lim i cy r rn rc) h (KK SS eW [1,1,1,0,1,0] [] (EE SS eW Q)):=
 xK (bS a n c b m d lim) Inv (fun mz i cy r rn rc zz h hi=>aj (step mz i cy r rn rc zz h hi)) mz hi
noncomputable def G5:FD:=bF Tryz.f159 []
theorem DH (a:OA)(n c:Nat)(b:OA)(m d:Nat)(h:Heap)(Q:VH)(hx:FW SS 167 [(.slice a n c),(.slice b m d),(.func (.func 168) ⟨[]⟩ ⟨[]⟩)] h fun v1 h2=>yL v1 fun a3 n4 c5=>Q (.slice a3 n4 c5) h2):FW SS 159 [(.slice a n c),(.slice b m d)] h Q:=bG G5 Tryz.func159 (aj hx)
noncomputable def Dm:FD:=bF Tryz.f162 []
theorem Cj (a:OA)(n c:Nat)(b:OA)(m d:Nat)(h:Heap)(Q:VH)(hx:FW SS 167 [(.slice a n c),(.slice b m d),(.func (.func 174) ⟨[]⟩ ⟨[]⟩)] h fun v1 h2=>yL v1 fun a3 n4 c5=>Q (.slice a3 n4 c5) h2):FW SS 162 [(.slice a n c),(.slice b m d)] h Q:=bG Dm Tryz.func162 (aj hx)
noncomputable def Aa:FD:=bF Tryz.f141 []
theorem xf (a:OA)(n c:Nat)(h:Heap)(Q:VH)(hx:FW SS 161 [(.slice a n c)] h fun v1 h2=>yS v1 fun l3=>au (decide ((((l3:LB).length:Int):Int) > 1000)) (Q (.tuple ⟨[(aa []),(.int .i64 2)]⟩) h2) (Q (.tuple ⟨[(aa l3),(.int .i64 0)]⟩) h2)):FW SS 141 [(.slice a n c)] h Q:=bG Aa Tryz.func141 (aj hx)
noncomputable def Ix:FD:=bF Tryz.f137 []
theorem HW (l m:LB)(h:Heap)(Q:VH)(hx:FW SS 139 [(aa l)] h fun v1 h2=>yB v1 fun b3=>au (!b3) (Q (.int .i64 0) h2) (FW SS 139 [(aa m)] h2 fun v4 h5=>yB v4 fun b6=>au (!b6) (Q (.int .i64 0) h5) (FW SS 140 [(aa l)] h5 fun v7 h8=>yL v7 fun a9 n10 c11=>FW SS 140 [(aa m)] h8 fun v12 h13=>yL v12 fun a14 n15 c16=>FW SS 160 [(.slice a9 n10 c11),(.slice a14 n15 c16)] h13 fun v17 h18=>yI .i64 v17 fun n19=>Q (.int .i64 n19) h18))):FW SS 137 [(aa l),(aa m)] h Q:=bG Ix Tryz.func137 (aj hx)
noncomputable def Ld:FD:=bF Tryz.f136 []
theorem Hz (l m:LB)(h:Heap)(Q:VH)(hx:FW SS 139 [(aa l)] h fun v1 h2=>yB v1 fun b3=>au (!b3) (Q (.tuple ⟨[(aa []),(.int .i64 1)]⟩) h2) (FW SS 139 [(aa m)] h2 fun v4 h5=>yB v4 fun b6=>au (!b6) (Q (.tuple ⟨[(aa []),(.int .i64 1)]⟩) h5) (FW SS 140 [(aa l)] h5 fun v7 h8=>yL v7 fun a9 n10 c11=>FW SS 140 [(aa m)] h8 fun v12 h13=>yL v12 fun a14 n15 c16=>FW SS 159 [(.slice a9 n10 c11),(.slice a14 n15 c16)] h13 fun v17 h18=>yL v17 fun a19 n20 c21=>FW SS 141 [(.slice a19 n20 c21)] h18 fun v22 h23=> ∃ l24:LB,∃ n25:Int,v22=(.tuple ⟨[(aa l24),(.int .i64 n25)]⟩)/\Q (.tuple ⟨[(aa l24),(.int .i64 n25)]⟩) h23))):FW SS 136 [(aa l),(aa m)] h Q:=bG Ld Tryz.func136 (aj hx)
noncomputable def KB:FD:=bF Tryz.f138 []
theorem Gx (l m:LB)(h:Heap)(Q:VH)(hx:FW SS 139 [(aa l)] h fun v1 h2=>yB v1 fun b3=>au (!b3) (Q (.tuple ⟨[(aa []),(.int .i64 1)]⟩) h2) (FW SS 139 [(aa m)] h2 fun v4 h5=>yB v4 fun b6=>au (!b6) (Q (.tuple ⟨[(aa []),(.int .i64 1)]⟩) h5) (FW SS 140 [(aa l)] h5 fun v7 h8=>yL v7 fun a9 n10 c11=>FW SS 140 [(aa m)] h8 fun v12 h13=>yL v12 fun a14 n15 c16=>FW SS 160 [(.slice a9 n10 c11),(.slice a14 n15 c16)] h13 fun v17 h18=>yI .i64 v17 fun n19=>au (decide ((n19:Int) < 0)) (Q (.tuple ⟨[(aa []),(.int .i64 4)]⟩) h18) (FW SS 162 [(.slice a9 n10 c11),(.slice a14 n15 c16)] h18 fun v20 h21=>yL v20 fun a22 n23 c24=>FW SS 161 [(.slice a22 n23 c24)] h21 fun v25 h26=>yS v25 fun l27=>Q (.tuple ⟨[(aa l27),(.int .i64 0)]⟩) h26)))):FW SS 138 [(aa l),(aa m)] h Q:=bG KB Tryz.func138 (aj hx)
noncomputable def cx:FD:=bF Tryz.f119 [([1,1,1,1,0,1,0,0],[6,7,8,33,34]),([1,1,1,1,0,1,0,0,1,1,0,0,1,1,1,0,0],[6,7,8,9,10,33,34,39,40])]
abbrev dM (a:OA)(n c:Nat)(b:OA)(k d:Nat)(t:OA)(tn tc:Nat)(lim:Int)(i:Nat):LV:=[(.slice a n c),(.slice b k d),(.slice t tn tc),(.int .i64 lim),(iA i)]
abbrev eU (a:OA)(n c:Nat)(b:OA)(k d:Nat)(t:OA)(tn tc:Nat)(lim:Int)(i:Nat)(lim2:Int)(j:Nat)(cy:Int):LV:=[(.slice a n c),(.slice b k d),(.slice t tn tc),(iA i),(.int .u64 cy),(.int .i64 lim),(iA i),(.int .i64 lim2),(iA j)]
theorem HE (l m:LB)(h:Heap)(Q:VH)(hx:FW SS 139 [(aa l)] h fun v1 h2=>yB v1 fun b3=>au (!b3) (Q (.tuple ⟨[(aa []),(.int .i64 1)]⟩) h2) (FW SS 139 [(aa m)] h2 fun v4 h5=>yB v4 fun b6=>au (!b6) (Q (.tuple ⟨[(aa []),(.int .i64 1)]⟩) h5) (FW SS 140 [(aa l)] h5 fun v7 h8=>yL v7 fun a9 n10 c11=>FW SS 140 [(aa m)] h8 fun v12 h13=>yL v12 fun a14 n15 c16=>xR (aP SS.P 136 (.int .i64 (wrap .i64 (wrap .i64 ((n10:Int)+(n15:Int))+1))) (.int .i64 (wrap .i64 (wrap .i64 ((n10:Int)+(n15:Int))+1)))) h13 fun B17 n18 c19 g20=>LL SS cx [1,1,1,1,0,1,0,0] (dM a9 n10 c11 a14 n15 c16 (some ⟨h13.next,0,none⟩) n18 c19 (n10:Int) 0) g20 (KK SS cx [1,1,1,1,0,1,0] [] (EE SS cx Q))))):FW SS 119 [(aa l),(aa m)] h Q:=bG cx Tryz.func119 (aj hx)
theorem rM (l m:LB)(a:OA)(n c:Nat)(b:OA)(k d:Nat)(t:OA)(tn tc:Nat)(lim:Int)(Inv:Nat->Nat->Heap->Prop)(Q:VH)(step: ∀ (mz:Nat) (i:Nat) (zz:Nat->Value) (h:Heap),Inv mz i h->au (decide (((i:Int):Int) < lim)) (LL SS cx [1,1,1,1,0,1,0,0,1,1,0,0,1,1,1,0,0] (eU a n c b k d t tn tc lim i (wrap .i64 ((k:Int)+1)) 0 0) h (KK SS cx [1,1,0,0,1,1,1,0] [1,1,1,1,0,1,0,0] (RR cx [1,1,1,1,0,1,0,0] (fA (dM a n c b k d t tn tc lim) Inv) mz (KK SS cx [1,1,1,1,0,1,0] [] (EE SS cx Q))))) (FW SS 142 [(.slice t tn tc)] h fun v21 h22=>yL v21 fun a23 n24 c25=>FW SS 141 [(.slice a23 n24 c25)] h22 fun v26 h27=> ∃ l28:LB,∃ n29:Int,v26=(.tuple ⟨[(aa l28),(.int .i64 n29)]⟩)/\Q (.tuple ⟨[(aa l28),(.int .i64 n29)]⟩) h27))(mz:Nat){i:Nat}{h:Heap}(hi:Inv mz i h):LL SS cx [1,1,1,1,0,1,0,0] (dM a n c b k d t tn tc lim i) h (KK SS cx [1,1,1,1,0,1,0] [] (EE SS cx Q)):=
 bH (dM a n c b k d t tn tc lim) Inv (fun mz i zz h hi=>aj (step mz i zz h hi)) mz hi
theorem rI (l m:LB)(a:OA)(n c:Nat)(b:OA)(k d:Nat)(t:OA)(tn tc:Nat)(lim:Int)(Inv:Nat->Nat->Heap->Prop)(mz i:Nat)(lim2:Int)(Inv2:Nat->Nat->Int->Heap->Prop)(Q:VH)(step: ∀ (mz2:Nat) (j:Nat) (cy:Int) (zz:Nat->Value) (h:Heap),Inv2 mz2 j cy h->au (decide (((j:Int):Int) < lim2)) (xP (ag SS.P 136 (.slice t tn tc) (.int .i64 (wrap .i64 ((i:Int)+(j:Int))))) fun p30=>xI .u64 (ah SS.P 103 h (.pointer (some p30))) fun n31=>au (decide (((j:Int):Int) < (k:Int))) (xP (ag SS.P 136 (.slice a n c) (iA i)) fun p32=>xI .u64 (ah SS.P 103 (room h 12) (.pointer (some p32))) fun n33=>xP (ag SS.P 136 (.slice b k d) (iA j)) fun p34=>xI .u64 (ah SS.P 103 (room h 12) (.pointer (some p34))) fun n35=>xI .u64 (al SS.P .rem 103 (.int .u64 (wrap .u64 (wrap .u64 (n31+cy)+wrap .u64 (n33*n35)))) (.int .u64 1000000000)) fun n36=>xI .u64 (al SS.P .quo 103 (.int .u64 (wrap .u64 (wrap .u64 (n31+cy)+wrap .u64 (n33*n35)))) (.int .u64 1000000000)) fun n37=>xP (ag SS.P 136 (.slice t tn tc) (.int .i64 (wrap .i64 ((i:Int)+(j:Int))))) fun p38=>xU (ai SS.P 103 (.pointer (some p38)) (.int .u64 n36) (room h 12)) (room h 12) fun u39 g40=>ax (qh (eU a n c b k d t tn tc lim i lim2) Inv2) mz2 [(.slice a n c),(.slice b k d),(.slice t tn tc),(iA i),(.int .u64 n37),(.int .i64 lim),(iA i),(.int .i64 lim2),(.int .i64 (wrap .i64 ((j:Int)+1)))] g40) (xI .u64 (al SS.P .rem 103 (.int .u64 (wrap .u64 (n31+cy))) (.int .u64 1000000000)) fun n41=>xI .u64 (al SS.P .quo 103 (.int .u64 (wrap .u64 (n31+cy))) (.int .u64 1000000000)) fun n42=>xP (ag SS.P 136 (.slice t tn tc) (.int .i64 (wrap .i64 ((i:Int)+(j:Int))))) fun p43=>xU (ai SS.P 103 (.pointer (some p43)) (.int .u64 n41) h) h fun u44 g45=>ax (qh (eU a n c b k d t tn tc lim i lim2) Inv2) mz2 [(.slice a n c),(.slice b k d),(.slice t tn tc),(iA i),(.int .u64 n42),(.int .i64 lim),(iA i),(.int .i64 lim2),(.int .i64 (wrap .i64 ((j:Int)+1)))] g45)) (ax (fA (dM a n c b k d t tn tc lim) Inv) mz [(.slice a n c),(.slice b k d),(.slice t tn tc),(.int .i64 lim),(.int .i64 (wrap .i64 ((i:Int)+1)))] h))(mz2:Nat){j:Nat}{cy:Int}{h:Heap}(hi:Inv2 mz2 j cy h):LL SS cx [1,1,1,1,0,1,0,0,1,1,0,0,1,1,1,0,0] (eU a n c b k d t tn tc lim i lim2 j cy) h (KK SS cx [1,1,0,0,1,1,1,0] [1,1,1,1,0,1,0,0] (RR cx [1,1,1,1,0,1,0,0] (fA (dM a n c b k d t tn tc lim) Inv) mz (KK SS cx [1,1,1,1,0,1,0] [] (EE SS cx Q)))):=
 ki (eU a n c b k d t tn tc lim i lim2) Inv2 (fun mz2 j cy zz h hi=>aj (step mz2 j cy zz h hi)) mz2 hi
theorem Kf (x y z:Nat)(hx:x < BB)(hy:y < BB)(hz:z<=1)(h:Heap):FW SS 168 [.int .u64 (x:Int),.int .u64 (y:Int),.int .u64 (z:Int)] h (fun v h'=>v = .tuple ⟨[uv (Num.plusF BB x y z).1,uv (Num.plusF BB x y z).2]⟩/\h'=h):=by
 have hBv:BB=1000000000:=rfl;have e1:wrap .u64 ((x:Int)+(y:Int))=((x+y:Nat):Int):=by rw [<-Int.natCast_add]; exact cJ (by omega) (by omega)
 have e2:wrap .u64 (((x+y:Nat):Int)+(z:Int))=((x+y+z:Nat):Int):=by rw [<-Int.natCast_add]; exact cJ (by omega) (by omega)
 refine Jb _ _ _ h _ ?_;rw [e1,e2];refine ⟨_,dy (b:=BB) (by omega) (by decide),_,jT (b:=BB) (by omega) (by omega) (by decide),?_,rfl⟩;unfold uv Num.plusF;rw [Int.natCast_emod,Int.natCast_ediv]
theorem F8 (x y z:Nat)(hx:x < BB)(hy:y < BB)(hz:z<=1)(h:Heap):FW SS 174 [.int .u64 (x:Int),.int .u64 (y:Int),.int .u64 (z:Int)] h (fun v h'=>v = .tuple ⟨[uv (Num.minusF BB x y z).1,uv (Num.minusF BB x y z).2]⟩/\h'=h):=by
 have hBv:BB=1000000000:=rfl;have hsum:x+BB - y - z < 2*BB:=by omega
 have e1:wrap .u64 ((x:Int)+1000000000)=((x+BB:Nat):Int):=by rw [cJ (by omega) (by omega)]; omega
 have e2:wrap .u64 (((x+BB:Nat):Int) - (y:Int))=((x+BB - y:Nat):Int):=by rw [cJ (by omega) (by omega)]; omega
 have e3:wrap .u64 (((x+BB - y:Nat):Int) - (z:Int))=((x+BB - y - z:Nat):Int):=by rw [cJ (by omega) (by omega)]; omega
 refine Ij _ _ _ h _ ?_;rw [e1,e2,e3];refine ⟨_,dy (b:=BB) (by omega) (by decide),_,jT (b:=BB) (by omega) (by omega) (by decide),?_,rfl⟩;unfold uv Num.minusF;dsimp only;generalize x+BB - y - z=q at *;have hq:q / BB<=1:=by
  have:q / BB < 2:=Nat.div_lt_of_lt_mul (by omega);omega
 have e4:wrap .u64 (1 - (q:Int) / (BB:Int))=((1 - q / BB:Nat):Int):=by
  rw [<-Int.natCast_ediv];clear hsum e1 e2 e3;generalize q / BB=r at *;rw [cJ (by omega) (by omega)]; omega
 rw [e4,Int.natCast_emod]
theorem Mb {p q c:Nat}(hp:p < BB)(hq:q < BB)(hc:c<=1):(Num.plusF BB p q c).2<=1:=by
 show (p+q+c) / BB<=1;have:(p+q+c) / BB < 2:=Nat.div_lt_of_lt_mul (by omega);omega
theorem IQ {p q c:Nat}(hp:p < BB)(hq:q < BB)(hc:c<=1):(Num.minusF BB p q c).2<=1:=(Num.minus_step dx hp hq hc).2
theorem Bb {h:Heap}{a b:Option Addr}{n c m d:Nat}{x y:List Nat}(ra:Rd h 103 (.slice a n c) (x.map uv))(rb:Rd h 103 (.slice b m d) (y.map uv))(hx: ∀ d∈x,d < BB)(hy: ∀ d∈y,d < BB)(hlx:x.length<=10000)(hly:y.length<=10000)(w:Wf h){R:Nat}(fin:Num.trimL (Num.eachF (Num.plusF BB) x y 0 (max x.length y.length+1) 0)=Num.toB BB R):
  FW SS 167 [.slice a n c,.slice b m d,.func (.func 168) ⟨[]⟩ ⟨[]⟩] h (ew h 103 (bl R)):=by
 have hn:n=x.length:=by have:=ra.len; rwa [lM] at this
 have hm:m=y.length:=by have:=rb.len; rwa [lM] at this
 rw [<-hn,<-hm] at fin;have hcr: ∀ j,Num.cr (Num.plusF BB) x y 0 0 j<=1:=by
  intro j
  induction j with
  | zero=>exact Nat.zero_le _
  | succ j ih=>exact Mb (Num.getD_lt (by decide) hx _) (Num.getD_lt (by decide) hy _) ih
 have hmn:n<=max n m/\m<=max n m:=⟨le_max_left _ _,le_max_right _ _⟩
 have hmx2:max n m<=10000:=max_le.2 ⟨by omega,by omega⟩;have hmx:(if (m:Int) > (n:Int) then (m:Int) else (n:Int))=((max n m:Nat):Int):=by split <;> omega
 generalize max n m=N at *;have L:=oH a n c b m d ((N:Int)+1) (fun mz i cy r rn rc g=>i<=N+1/\mz=N+1 - i/\cy=(Num.cr (Num.plusF BB) x y 0 0 i:Nat)/\OwnR h g 103 (.slice r rn rc) ((Num.eachF (Num.plusF BB) x y 0 i 0).map uv)/\Ok h g) (ew h 103 (bl R)) (by
  intro mz i cy r rn rc; intros; rename_i g hi;obtain ⟨h1,h2,rfl,ho,ok⟩:=hi;have hw3:wrap .i64 ((i:Int)+1)=((i+1:Nat):Int):=by rw [am (by omega) (by omega)]; omega
  rw [hw3];have hel:(Num.eachF (Num.plusF BB) x y 0 i 0).length=i:=Num.eachF_len _ _ _ _ _ _;have hsn:=Num.eachF_snoc (Num.plusF BB) x y i 0 0;rw [zero_add] at hsn;have hcr1:Num.cr (Num.plusF BB) x y 0 0 (i+1)=(Num.plusF BB (x.getD i 0) (y.getD i 0) (Num.cr (Num.plusF BB) x y 0 0 i)).2:=by
   show (Num.plusF BB (x.getD (0+i) 0) (y.getD (0+i) 0) _).2=_;rw [zero_add]
  have hci:=hcr i;have go:=Kf (x.getD i 0) (y.getD i 0) (Num.cr (Num.plusF BB) x y 0 0 i) (Num.getD_lt (by decide) hx _) (Num.getD_lt (by decide) hy _) hci g;refine ae (fun h5=> ?_) (fun h5=> ?_)
  ·have h5:=dT h5;refine ae (fun h6=> ?_) (fun h6=> ?_)
   ·have h6:=dT h6;obtain ⟨q,g2,g3⟩:=xJ (ra.ok ok) (i:=(i:Int)) (by omega) (by omega);rw [toNat_natCast] at g3;refine ⟨q,g2,_,g3,ae (fun h7=> ?_) (fun h7=> ?_)⟩
    ·have h7:=dT h7;obtain ⟨q2,g4,g5⟩:=xJ (rb.ok ok) (i:=(i:Int)) (by omega) (by omega);rw [toNat_natCast] at g5;refine ⟨q2,g4,_,g5,go.mono ?_⟩;rintro _ _ ⟨rfl,rfl⟩;refine ⟨_,_,rfl,_,_,_,mq _,?_⟩;obtain ⟨b,m,d,u,g6,g7,g8,g9⟩:=gL w ok ho ((Num.plusF BB (x.getD i 0) (y.getD i 0) (Num.cr (Num.plusF BB) x y 0 0 i)).1:Nat) (by rw [lM,hel]; omega);refine ⟨b,m,d,u,g6,jF (mz - 1) (by omega) ⟨by omega,by omega,by rw [hcr1],?_,g9⟩⟩;rw [hsn,map_append];exact g8
    ·have h7:=dF h7;have y0:y.getD i 0=0:=by rw [gD,getElem?_eq_none (by omega)]; rfl
     rw [y0] at go hsn hcr1;refine go.mono ?_;rintro _ _ ⟨rfl,rfl⟩;refine ⟨_,_,rfl,_,_,_,mq _,?_⟩;obtain ⟨b,m,d,u,g6,g7,g8,g9⟩:=gL w ok ho ((Num.plusF BB (x.getD i 0) 0 (Num.cr (Num.plusF BB) x y 0 0 i)).1:Nat) (by rw [lM,hel]; omega);refine ⟨b,m,d,u,g6,jF (mz - 1) (by omega) ⟨by omega,by omega,by rw [hcr1],?_,g9⟩⟩;rw [hsn,map_append];exact g8
   ·have h6:=dF h6;have x0:x.getD i 0=0:=by rw [gD,getElem?_eq_none (by omega)]; rfl
    rw [x0] at go hsn hcr1;refine ae (fun h7=> ?_) (fun h7=> ?_)
    ·have h7:=dT h7;obtain ⟨q2,g4,g5⟩:=xJ (rb.ok ok) (i:=(i:Int)) (by omega) (by omega);rw [toNat_natCast] at g5;refine ⟨q2,g4,_,g5,go.mono ?_⟩;rintro _ _ ⟨rfl,rfl⟩;refine ⟨_,_,rfl,_,_,_,mq _,?_⟩;obtain ⟨b,m,d,u,g6,g7,g8,g9⟩:=gL w ok ho ((Num.plusF BB 0 (y.getD i 0) (Num.cr (Num.plusF BB) x y 0 0 i)).1:Nat) (by rw [lM,hel]; omega);refine ⟨b,m,d,u,g6,jF (mz - 1) (by omega) ⟨by omega,by omega,by rw [hcr1],?_,g9⟩⟩;rw [hsn,map_append];exact g8
    ·have h7:=dF h7;have y0:y.getD i 0=0:=by rw [gD,getElem?_eq_none (by omega)]; rfl
     rw [y0] at go hsn hcr1;refine go.mono ?_;rintro _ _ ⟨rfl,rfl⟩;refine ⟨_,_,rfl,_,_,_,mq _,?_⟩;obtain ⟨b,m,d,u,g6,g7,g8,g9⟩:=gL w ok ho ((Num.plusF BB 0 0 (Num.cr (Num.plusF BB) x y 0 0 i)).1:Nat) (by rw [lM,hel]; omega);refine ⟨b,m,d,u,g6,jF (mz - 1) (by omega) ⟨by omega,by omega,by rw [hcr1],?_,g9⟩⟩;rw [hsn,map_append];exact g8
  ·have h5:=dF h5;obtain rfl:i=N+1:=by omega
   refine (lj ho (by rw [hel]; omega)).mono ?_;rintro _ g2 ⟨a',n',c',rfl,o2,rfl⟩;rw [fin] at o2;exact ⟨a',n',c',rfl,a',n',c',rfl,o2,ok⟩)
 refine CE a n c b m d h _ ⟨_,rj _ _ _,?_⟩;have hw:wrap .i64 ((N:Int)+1)=(N:Int)+1:=am (by omega) (by omega);dsimp only;rw [hmx,hw];exact L (N+1) (i:=0) ⟨by omega,by omega,rfl,.inl ⟨rfl,rfl⟩,Ok.refl w⟩
theorem zn {h:Heap}{a b:Option Addr}{n c m d:Nat}{x y:List Nat}(ra:Rd h 103 (.slice a n c) (x.map uv))(rb:Rd h 103 (.slice b m d) (y.map uv))(hx: ∀ d∈x,d < BB)(hy: ∀ d∈y,d < BB)(hlx:x.length<=10000)(hly:y.length<=10000)(w:Wf h){R:Nat}(fin:Num.trimL (Num.eachF (Num.minusF BB) x y 0 (max x.length y.length+1) 0)=Num.toB BB R):
  FW SS 167 [.slice a n c,.slice b m d,.func (.func 174) ⟨[]⟩ ⟨[]⟩] h (ew h 103 (bl R)):=by
 have hn:n=x.length:=by have:=ra.len; rwa [lM] at this
 have hm:m=y.length:=by have:=rb.len; rwa [lM] at this
 rw [<-hn,<-hm] at fin;have hcr: ∀ j,Num.cr (Num.minusF BB) x y 0 0 j<=1:=by
  intro j
  induction j with
  | zero=>exact Nat.zero_le _
  | succ j ih=>exact IQ (Num.getD_lt (by decide) hx _) (Num.getD_lt (by decide) hy _) ih
 have hmn:n<=max n m/\m<=max n m:=⟨le_max_left _ _,le_max_right _ _⟩
 have hmx2:max n m<=10000:=max_le.2 ⟨by omega,by omega⟩;have hmx:(if (m:Int) > (n:Int) then (m:Int) else (n:Int))=((max n m:Nat):Int):=by split <;> omega
 generalize max n m=N at *;have L:=nr a n c b m d ((N:Int)+1) (fun mz i cy r rn rc g=>i<=N+1/\mz=N+1 - i/\cy=(Num.cr (Num.minusF BB) x y 0 0 i:Nat)/\OwnR h g 103 (.slice r rn rc) ((Num.eachF (Num.minusF BB) x y 0 i 0).map uv)/\Ok h g) (ew h 103 (bl R)) (by
  intro mz i cy r rn rc; intros; rename_i g hi;obtain ⟨h1,h2,rfl,ho,ok⟩:=hi;have hw3:wrap .i64 ((i:Int)+1)=((i+1:Nat):Int):=by rw [am (by omega) (by omega)]; omega
  rw [hw3];have hel:(Num.eachF (Num.minusF BB) x y 0 i 0).length=i:=Num.eachF_len _ _ _ _ _ _;have hsn:=Num.eachF_snoc (Num.minusF BB) x y i 0 0;rw [zero_add] at hsn;have hcr1:Num.cr (Num.minusF BB) x y 0 0 (i+1)=(Num.minusF BB (x.getD i 0) (y.getD i 0) (Num.cr (Num.minusF BB) x y 0 0 i)).2:=by
   show (Num.minusF BB (x.getD (0+i) 0) (y.getD (0+i) 0) _).2=_;rw [zero_add]
  have hci:=hcr i;have go:=F8 (x.getD i 0) (y.getD i 0) (Num.cr (Num.minusF BB) x y 0 0 i) (Num.getD_lt (by decide) hx _) (Num.getD_lt (by decide) hy _) hci g;refine ae (fun h5=> ?_) (fun h5=> ?_)
  ·have h5:=dT h5;refine ae (fun h6=> ?_) (fun h6=> ?_)
   ·have h6:=dT h6;obtain ⟨q,g2,g3⟩:=xJ (ra.ok ok) (i:=(i:Int)) (by omega) (by omega);rw [toNat_natCast] at g3;refine ⟨q,g2,_,g3,ae (fun h7=> ?_) (fun h7=> ?_)⟩
    ·have h7:=dT h7;obtain ⟨q2,g4,g5⟩:=xJ (rb.ok ok) (i:=(i:Int)) (by omega) (by omega);rw [toNat_natCast] at g5;refine ⟨q2,g4,_,g5,go.mono ?_⟩;rintro _ _ ⟨rfl,rfl⟩;refine ⟨_,_,rfl,_,_,_,mq _,?_⟩;obtain ⟨b,m,d,u,g6,g7,g8,g9⟩:=gL w ok ho ((Num.minusF BB (x.getD i 0) (y.getD i 0) (Num.cr (Num.minusF BB) x y 0 0 i)).1:Nat) (by rw [lM,hel]; omega);refine ⟨b,m,d,u,g6,jF (mz - 1) (by omega) ⟨by omega,by omega,by rw [hcr1],?_,g9⟩⟩;rw [hsn,map_append];exact g8
    ·have h7:=dF h7;have y0:y.getD i 0=0:=by rw [gD,getElem?_eq_none (by omega)]; rfl
     rw [y0] at go hsn hcr1;refine go.mono ?_;rintro _ _ ⟨rfl,rfl⟩;refine ⟨_,_,rfl,_,_,_,mq _,?_⟩;obtain ⟨b,m,d,u,g6,g7,g8,g9⟩:=gL w ok ho ((Num.minusF BB (x.getD i 0) 0 (Num.cr (Num.minusF BB) x y 0 0 i)).1:Nat) (by rw [lM,hel]; omega);refine ⟨b,m,d,u,g6,jF (mz - 1) (by omega) ⟨by omega,by omega,by rw [hcr1],?_,g9⟩⟩;rw [hsn,map_append];exact g8
   ·have h6:=dF h6;have x0:x.getD i 0=0:=by rw [gD,getElem?_eq_none (by omega)]; rfl
    rw [x0] at go hsn hcr1;refine ae (fun h7=> ?_) (fun h7=> ?_)
    ·have h7:=dT h7;obtain ⟨q2,g4,g5⟩:=xJ (rb.ok ok) (i:=(i:Int)) (by omega) (by omega);rw [toNat_natCast] at g5;refine ⟨q2,g4,_,g5,go.mono ?_⟩;rintro _ _ ⟨rfl,rfl⟩;refine ⟨_,_,rfl,_,_,_,mq _,?_⟩;obtain ⟨b,m,d,u,g6,g7,g8,g9⟩:=gL w ok ho ((Num.minusF BB 0 (y.getD i 0) (Num.cr (Num.minusF BB) x y 0 0 i)).1:Nat) (by rw [lM,hel]; omega);refine ⟨b,m,d,u,g6,jF (mz - 1) (by omega) ⟨by omega,by omega,by rw [hcr1],?_,g9⟩⟩;rw [hsn,map_append];exact g8
    ·have h7:=dF h7;have y0:y.getD i 0=0:=by rw [gD,getElem?_eq_none (by omega)]; rfl
     rw [y0] at go hsn hcr1;refine go.mono ?_;rintro _ _ ⟨rfl,rfl⟩;refine ⟨_,_,rfl,_,_,_,mq _,?_⟩;obtain ⟨b,m,d,u,g6,g7,g8,g9⟩:=gL w ok ho ((Num.minusF BB 0 0 (Num.cr (Num.minusF BB) x y 0 0 i)).1:Nat) (by rw [lM,hel]; omega);refine ⟨b,m,d,u,g6,jF (mz - 1) (by omega) ⟨by omega,by omega,by rw [hcr1],?_,g9⟩⟩;rw [hsn,map_append];exact g8
  ·have h5:=dF h5;obtain rfl:i=N+1:=by omega
   refine (lj ho (by rw [hel]; omega)).mono ?_;rintro _ g2 ⟨a',n',c',rfl,o2,rfl⟩;rw [fin] at o2;exact ⟨a',n',c',rfl,a',n',c',rfl,o2,ok⟩)
 refine Ae a n c b m d h _ ⟨_,rj _ _ _,?_⟩;have hw:wrap .i64 ((N:Int)+1)=(N:Int)+1:=am (by omega) (by omega);dsimp only;rw [hmx,hw];exact L (N+1) (i:=0) ⟨by omega,by omega,rfl,.inl ⟨rfl,rfl⟩,Ok.refl w⟩
theorem C2 {h:Heap}{a b:Option Addr}{n c m d X Y:Nat}(ra:Rd h 103 (.slice a n c) (bl X))(rb:Rd h 103 (.slice b m d) (bl Y))(hlx:(Num.toB BB X).length<=10000)(hly:(Num.toB BB Y).length<=10000)(w:Wf h):FW SS 159 [.slice a n c,.slice b m d] h (ew h 103 (bl (X+Y))):=by
 have hX:=Num.toB_lt dx X;have hY:=Num.toB_lt dx Y;refine DH a n c b m d h _ ((Bb ra rb hX hY hlx hly w (R:=X+Y) ?_).mono ?_)
 ·have h1:=le_max_left (Num.toB BB X).length (Num.toB BB Y).length;have h2:=le_max_right (Num.toB BB X).length (Num.toB BB Y).length;rw [Num.trimL_eq dx (Num.eachF_lt (fun p q c=>mod_lt _ (by decide)) _ _ _ 0 0),Num.plus_bv dx hX hY _ 0 0 (by omega) (by omega) (by omega) (by omega),drop_zero,drop_zero,Num.bv_toB dx,Num.bv_toB dx]; rfl
 ·rintro _ g ⟨a',n',c',rfl,o,ok⟩;exact ⟨_,_,_,rfl,a',n',c',rfl,o,ok⟩
theorem Cc {h:Heap}{a b:Option Addr}{n c m d X Y:Nat}(ra:Rd h 103 (.slice a n c) (bl X))(rb:Rd h 103 (.slice b m d) (bl Y))(hXY:Y<=X)(hlx:(Num.toB BB X).length<=10000)(hly:(Num.toB BB Y).length<=10000)(w:Wf h):FW SS 162 [.slice a n c,.slice b m d] h (ew h 103 (bl (X - Y))):=by
 have hX:=Num.toB_lt dx X;have hY:=Num.toB_lt dx Y;refine Cj a n c b m d h _ ((zn ra rb hX hY hlx hly w (R:=X - Y) ?_).mono ?_)
 ·have h1:=le_max_left (Num.toB BB X).length (Num.toB BB Y).length;have h2:=le_max_right (Num.toB BB X).length (Num.toB BB Y).length;rw [Num.trimL_eq dx (Num.eachF_lt (fun p q c=>mod_lt _ (by decide)) _ _ _ 0 0)];have h3:=Num.minus_bv dx hX hY (max (Num.toB BB X).length (Num.toB BB Y).length+1) 0 0 (by omega) (by omega) (by omega) (by rw [drop_zero,drop_zero,Num.bv_toB dx,Num.bv_toB dx]; exact hXY);rw [drop_zero,drop_zero,Num.bv_toB dx,Num.bv_toB dx] at h3;congr 1;omega
 ·rintro _ g ⟨a',n',c',rfl,o,ok⟩;exact ⟨_,_,_,rfl,a',n',c',rfl,o,ok⟩
end Go.Proofs.YtoabjjimjldcfaaGreatDoor
end
section
set_option linter.unusedVariables false
namespace Go.Num
theorem qQ (B:Nat)(y:List Nat)(k:Nat):bv B (y.take (k+1))=bv B (y.take k)+B ^ k*y.getD k 0:=by
 rcases lt_or_ge k y.length with h | h
 ·rw [List.take_succ_eq_append_getElem h,bv_snoc,List.length_take,Nat.min_eq_left (by omega),gD,gE h]; rfl
 ·rw [take_of_length_le (by omega),take_of_length_le (by omega),gD,getElem?_eq_none (by omega)]; simp
theorem KI {B:Nat}{x:List Nat}(hB:0 < B)(h: ∀ d∈x,d < B)(i:Nat):x.getD i 0 < B:=by
 rcases lt_or_ge i x.length with g | g
 ·rw [gD,gE g]; exact h _ (List.getElem_mem _)
 ·rw [gD,getElem?_eq_none g]; exact hB
theorem mul_step {B:Nat}(hB:1 < B){L y:List Nat}{i k cy xi P p:Nat}(hL: ∀ d∈L,d < B)(hj:i+k < L.length)(hcy:cy < B)(hxi:xi < B)(hyk:y.getD k 0 < B)(hp:p=L.getD (i+k) 0+cy+xi*y.getD k 0)(eq:bv B L+cy*B ^ (i+k)=P+xi*bv B (y.take k)*B ^ i):
  (∀ d∈L.set (i+k) (p % B),d < B)/\p / B < B/\bv B (L.set (i+k) (p % B))+p / B*B ^ (i+(k+1))=P+xi*bv B (y.take (k+1))*B ^ i:=by
 have hLj:=KI (by omega) hL (i+k);refine ⟨fun d hd=> ?_,?_,?_⟩
 ·rcases List.mem_or_eq_of_mem_set hd with h | h
  ·exact hL d h
  ·rw [h]; exact mod_lt _ (by omega)
 ·rw [Nat.div_lt_iff_lt_mul (by omega),hp];have h1:xi*y.getD k 0<=(B - 1)*(B - 1):=Nat.mul_le_mul (by omega) (by omega);obtain ⟨C,rfl⟩: ∃ C,B=C+1:=⟨B - 1,by omega⟩
  rw [Nat.add_sub_cancel] at h1;have h2:(C+1)*(C+1)=C*C+C+C+1:=by rw [Nat.mul_succ,Nat.succ_mul]; omega
  omega
 ·have h1:=C1 (B:=B) L (i+k) (p % B) hj;have h2:=Nat.mod_add_div p B;have h3:B ^ (i+k)*(p % B)+B ^ (i+k)*(B*(p / B))=B ^ (i+k)*p:=by rw [<-mul_add,h2]
  have h4:p / B*B ^ (i+(k+1))=B ^ (i+k)*(B*(p / B)):=by
   rw [<-Nat.add_assoc,pow_succ,mul_comm (p / B),mul_assoc]
  have h5:B ^ (i+k)*p=B ^ (i+k)*L.getD (i+k) 0+B ^ (i+k)*cy+B ^ (i+k)*(xi*y.getD k 0):=by rw [hp,mul_add,mul_add]
  have h6:xi*bv B (y.take (k+1))*B ^ i=xi*bv B (y.take k)*B ^ i+B ^ (i+k)*(xi*y.getD k 0):=by
   rw [qQ,mul_add,add_mul,pow_add];congr 1;rw [Nat.mul_left_comm xi,mul_comm _ (B ^ i),mul_assoc]
  rw [mul_comm cy] at eq;rw [h4,h6];omega
theorem mul_end {B:Nat}(hB:1 < B){L x y:List Nat}{i cy:Nat}(hx: ∀ d∈x,d < B)(hy: ∀ d∈y,d < B)(hi:i < x.length)(hL: ∀ d∈L,d < B)(eq:bv B L+cy*B ^ (i+(y.length+1))=bv B (x.take i)*bv B y+x.getD i 0*bv B (y.take (y.length+1))*B ^ i):
  bv B L=bv B (x.take (i+1))*bv B y:=by
 have h1:bv B (x.take (i+1))*bv B y=bv B (x.take i)*bv B y+x.getD i 0*bv B y*B ^ i:=by
  rw [qQ,add_mul];congr 1;rw [mul_assoc,mul_comm]
 rw [take_of_length_le (by omega:y.length<=y.length+1),<-h1] at eq;have h2:bv B (x.take (i+1)) < B ^ (i+1):=by
  have:=bv_lt (b:=B) (x:=x.take (i+1)) (fun d hd=>hx d (List.mem_of_mem_take hd));rwa [List.length_take,Nat.min_eq_left (by omega)] at this
 have h3:=bv_lt hy;have h4:bv B (x.take (i+1))*bv B y < B ^ (i+(y.length+1)):=by
  rw [show i+(y.length+1)=(i+1)+y.length by omega,pow_add];exact Nat.mul_lt_mul'' h2 h3
 rcases Nat.eq_zero_or_pos cy with h | h
 ·subst h; omega
 ·have h5:1*B ^ (i+(y.length+1))<=cy*B ^ (i+(y.length+1)):=Nat.mul_le_mul_right _ h;omega
theorem bv_replicate (B n:Nat):bv B (List.replicate n 0)=0:=by
 induction n with
 | zero=>rfl
 | succ n ih=>rw [List.replicate_succ,bv,ih]; simp
end Go.Num
end
section
set_option linter.unusedVariables false
set_option maxRecDepth 100000
namespace Go.Proofs.YtoabjjimjldcfaaGreatDoor
open Go Go.Ab
def jx (X:Nat):Value:=if 1000 < (Num.toDec X).length then wJ [] 2 else wJ (Num.toDec X) 0
def tK (a b:List UInt8):Value:=if Num.valid a=true/\Num.valid b=true then jx (Num.val a+Num.val b) else wJ [] 1
def tU (a b:List UInt8):Value:=if Num.valid a=true/\Num.valid b=true then jx (Num.val a*Num.val b) else wJ [] 1
def tT (a b:List UInt8):Value:=if Num.valid a=true/\Num.valid b=true then (if Num.val a < Num.val b then wJ [] 4 else wJ (Num.toDec (Num.val a - Num.val b)) 0) else wJ [] 1
def tN (a b:List UInt8):Value:=if Num.valid a=true/\Num.valid b=true then .int .i64 (Num.cmpN (Num.val a) (Num.val b)) else .int .i64 0
theorem px {h:Heap}{a:Option Addr}{n c X:Nat}(ra:Rd h 103 (.slice a n c) (bl X))(hlen:(Num.toB BB X).length<=10000)(t:Tab h)(w:Wf h):FW SS 141 [.slice a n c] h (fun v h'=>v=jx X/\Ok h h'):=by
 refine xf a n c h _ ((pE ra hlen t w).mono ?_);rintro _ g ⟨rfl,ok⟩;refine ⟨_,rfl,ae (fun h1=> ?_) (fun h1=> ?_)⟩
 ·have h1:=dT h1;refine ⟨?_,ok⟩;unfold jx; rw [if_pos (by omega)]; rfl
 ·have h1:=dF h1;refine ⟨?_,ok⟩;unfold jx; rw [if_neg (by omega)]; rfl
structure TwoB (a b:List UInt8)(X Y:Nat):Prop where
 va:Num.valid a=true
 vb:Num.valid b=true
 ea:Num.val a=X
 eb:Num.val b=Y
 lx:(Num.toB BB X).length<=112
 ly:(Num.toB BB Y).length<=112
theorem Lp {a b:List UInt8}(va:Num.valid a=true)(vb:Num.valid b=true):TwoB a b (Num.val a) (Num.val b):=by
 obtain ⟨X,_,hX,eX⟩:=Num.valid_ex va;obtain ⟨Y,_,hY,eY⟩:=Num.valid_ex vb;exact ⟨va,vb,rfl,rfl,by rw [eX]; exact j5 hX,by rw [eY]; exact j5 hY⟩
theorem iB {a:List UInt8}(va:Num.valid a=true){h:Heap}(w:Wf h):FW SS 140 [aa a] h (ew h 103 (bl (Num.val a))):=by
 have da:=(Num.valid_iff.1 va)
 exact lG a da.1.2.1 (le_trans da.2 (by omega)) h w
theorem MF {X Y:Nat}(hx:(Num.toB BB X).length<=112)(hy:(Num.toB BB Y).length<=112):(Num.toB BB (X+Y)).length<=10000:=by
 have h1:=Num.bv_lt (Num.toB_lt dx X);have h2:=Num.bv_lt (Num.toB_lt dx Y);rw [Num.bv_toB dx] at h1 h2;have h3:=lt_of_lt_of_le h1 (pow_le_pow_right (show 0 < BB by decide) hx);have h4:=lt_of_lt_of_le h2 (pow_le_pow_right (show 0 < BB by decide) hy);refine le_trans (Num.toB_len_le dx (k:=113) ?_) (by omega);rw [pow_succ];have h5:2*BB ^ 112<=BB ^ 112*BB:=by rw [mul_comm]; exact Nat.mul_le_mul_left _ (by decide)
 generalize BB ^ 112=M at *;omega
theorem KL {m n:Nat}(h:m<=n):(Num.toB BB m).length<=(Num.toB BB n).length:=Nat.le_of_not_lt fun g=>absurd (Num.toB_len_lt dx g) (Nat.not_lt.2 h)
theorem rO (X:Nat): ∃ l n,jx X=wJ l n:=by
 unfold jx; split <;> exact ⟨_,_,rfl⟩
theorem uk {v:Value}(hv: ∃ l n,v=wJ l n){K:Value->Prop}(hK:K v): ∃ (l:List UInt8)(n:Int),v = .tuple ⟨[aa l,.int .i64 n]⟩/\K (.tuple ⟨[aa l,.int .i64 n]⟩):=by
 obtain ⟨l,n,rfl⟩:=hv;exact ⟨l,n,rfl,hK⟩
theorem cmpN_lt {x y:Nat}(h:Num.cmpN x y < 0):x < y:=by
 unfold Num.cmpN at h; split at h <;> omega
theorem cmpN_ge {x y:Nat}(h: ¬ Num.cmpN x y < 0):y<=x:=by
 unfold Num.cmpN at h; split at h <;> omega
theorem Hl (a b:List UInt8){h:Heap}(t:Tab h)(w:Wf h):FW SS 136 [aa a,aa b] h (fun v h'=>v=tK a b/\Ok h h'):=by
 refine Hz a b h _ ((cd a h).mono ?_);rintro _ g0 ⟨rfl,e0⟩;obtain rfl:h=g0:=e0.symm;refine ⟨_,rfl,ae (fun g=> ?_) (fun g=> ?_)⟩
 ·have g:Num.valid a=false:=by simpa using g
  refine ⟨?_,Ok.refl w⟩;unfold tK; rw [if_neg (fun e=>by rw [e.1] at g; cases g)]; rfl
 have g:Num.valid a=true:=by simpa using g
 refine (cd b h).mono ?_;rintro _ g0 ⟨rfl,e0⟩;obtain rfl:h=g0:=e0.symm;refine ⟨_,rfl,ae (fun g2=> ?_) (fun g2=> ?_)⟩
 ·have g2:Num.valid b=false:=by simpa using g2
  refine ⟨?_,Ok.refl w⟩;unfold tK; rw [if_neg (fun e=>by rw [e.2] at g2; cases g2)]; rfl
 have g2:Num.valid b=true:=by simpa using g2
 have tb:=Lp g g2;have lx:=tb.lx;have ly:=tb.ly;refine (iB g w).mono ?_;rintro _ h1 ⟨a1,n1,c1,rfl,o1,ok1⟩;refine ⟨_,_,_,rfl,(iB g2 ok1.wf).mono ?_⟩;rintro _ h2 ⟨a2,n2,c2,rfl,o2,ok2⟩;refine ⟨_,_,_,rfl,?_⟩;have hS:tK a b=jx (Num.val a+Num.val b):=by unfold tK; rw [if_pos ⟨g,g2⟩]
 rw [hS];have r1:=o1.rd.ok ok2;have r2:=o2.rd;have ok:=ok1.trans ok2;refine (C2 r1 r2 (by omega) (by omega) ok.wf).mono ?_;rintro _ h3 ⟨a3,n3,c3,rfl,o3,ok3⟩;refine ⟨_,_,_,rfl,(px o3.rd (MF lx ly) (t.ok (ok.trans ok3)) ok3.wf).mono ?_⟩;rintro _ h4 ⟨rfl,ok4⟩;exact uk (K:=fun v=>v=jx (Num.val a+Num.val b)/\Ok h h4) (rO _) ⟨rfl,(ok.trans ok3).trans ok4⟩
theorem yN (a b:List UInt8){h:Heap}(t:Tab h)(w:Wf h):FW SS 138 [aa a,aa b] h (fun v h'=>v=tT a b/\Ok h h'):=by
 refine Gx a b h _ ((cd a h).mono ?_);rintro _ g0 ⟨rfl,e0⟩;obtain rfl:h=g0:=e0.symm;refine ⟨_,rfl,ae (fun g=> ?_) (fun g=> ?_)⟩
 ·have g:Num.valid a=false:=by simpa using g
  refine ⟨?_,Ok.refl w⟩;unfold tT; rw [if_neg (fun e=>by rw [e.1] at g; cases g)]; rfl
 have g:Num.valid a=true:=by simpa using g
 refine (cd b h).mono ?_;rintro _ g0 ⟨rfl,e0⟩;obtain rfl:h=g0:=e0.symm;refine ⟨_,rfl,ae (fun g2=> ?_) (fun g2=> ?_)⟩
 ·have g2:Num.valid b=false:=by simpa using g2
  refine ⟨?_,Ok.refl w⟩;unfold tT; rw [if_neg (fun e=>by rw [e.2] at g2; cases g2)]; rfl
 have g2:Num.valid b=true:=by simpa using g2
 have tb:=Lp g g2;have lx:=tb.lx;have ly:=tb.ly;refine (iB g w).mono ?_;rintro _ h1 ⟨a1,n1,c1,rfl,o1,ok1⟩;refine ⟨_,_,_,rfl,(iB g2 ok1.wf).mono ?_⟩;rintro _ h2 ⟨a2,n2,c2,rfl,o2,ok2⟩;refine ⟨_,_,_,rfl,?_⟩;have hS:tT a b=(if Num.val a < Num.val b then wJ [] 4 else wJ (Num.toDec (Num.val a - Num.val b)) 0):=by unfold tT; rw [if_pos ⟨g,g2⟩]
 rw [hS];have r1:=o1.rd.ok ok2;have r2:=o2.rd;have ok:=ok1.trans ok2;refine (kj r1 r2 (by omega) ok.wf).mono ?_;rintro _ h3 ⟨rfl,ok3⟩;refine ⟨_,rfl,ae (fun h6=> ?_) (fun h6=> ?_)⟩
 ·have h6:=dT h6;rw [if_pos (cmpN_lt h6)];exact ⟨rfl,ok.trans ok3⟩
 ·have h6:=dF h6;have hle:=cmpN_ge h6;rw [if_neg (Nat.not_lt.2 hle)];refine (Cc (r1.ok ok3) (r2.ok ok3) hle (by omega) (by omega) ok3.wf).mono ?_;rintro _ h4 ⟨a3,n3,c3,rfl,o3,ok4⟩;refine ⟨_,_,_,rfl,(pE o3.rd (le_trans (KL (Nat.sub_le _ _)) (by omega)) (t.ok ((ok.trans ok3).trans ok4)) ok4.wf).mono ?_⟩;rintro _ h5 ⟨rfl,ok5⟩;exact ⟨_,rfl,rfl,((ok.trans ok3).trans ok4).trans ok5⟩
theorem H5 (a b:List UInt8){h:Heap}(t:Tab h)(w:Wf h):FW SS 137 [aa a,aa b] h (fun v h'=>v=tN a b/\Ok h h'):=by
 refine HW a b h _ ((cd a h).mono ?_);rintro _ g0 ⟨rfl,e0⟩;obtain rfl:h=g0:=e0.symm;refine ⟨_,rfl,ae (fun g=> ?_) (fun g=> ?_)⟩
 ·have g:Num.valid a=false:=by simpa using g
  refine ⟨?_,Ok.refl w⟩;unfold tN; rw [if_neg (fun e=>by rw [e.1] at g; cases g)]
 have g:Num.valid a=true:=by simpa using g
 refine (cd b h).mono ?_;rintro _ g0 ⟨rfl,e0⟩;obtain rfl:h=g0:=e0.symm;refine ⟨_,rfl,ae (fun g2=> ?_) (fun g2=> ?_)⟩
 ·have g2:Num.valid b=false:=by simpa using g2
  refine ⟨?_,Ok.refl w⟩;unfold tN; rw [if_neg (fun e=>by rw [e.2] at g2; cases g2)]
 have g2:Num.valid b=true:=by simpa using g2
 have tb:=Lp g g2;have lx:=tb.lx;have ly:=tb.ly;refine (iB g w).mono ?_;rintro _ h1 ⟨a1,n1,c1,rfl,o1,ok1⟩;refine ⟨_,_,_,rfl,(iB g2 ok1.wf).mono ?_⟩;rintro _ h2 ⟨a2,n2,c2,rfl,o2,ok2⟩;refine ⟨_,_,_,rfl,?_⟩;have hS:tN a b = .int .i64 (Num.cmpN (Num.val a) (Num.val b)):=by unfold tN; rw [if_pos ⟨g,g2⟩]
 rw [hS];have r1:=o1.rd.ok ok2;have r2:=o2.rd;have ok:=ok1.trans ok2;refine (kj r1 r2 (by omega) ok.wf).mono ?_;rintro _ h3 ⟨rfl,ok3⟩;exact ⟨_,rfl,rfl,ok.trans ok3⟩
end Go.Proofs.YtoabjjimjldcfaaGreatDoor
end
section
namespace Go.Num
def idxB (c:UInt8):List UInt8->Nat
 | []=>0
 | x::l=>if x=c then 0 else idxB c l+1
theorem idxB_iff (c:UInt8): ∀ (l:List UInt8)(i:Nat),i<=l.length->(∀ j,j < i->l.getD j 0≠c)->(i < l.length->l.getD i 0=c)->idxB c l=i
 | [],i,h,_,_=>by simp at h; subst h; rfl
 | x::l,0,h,_,h2=>by
  have:=h2 (by simp);unfold idxB; rw [if_pos (by simpa using this)]
 | x::l,i+1,h,h1,h2=>by
  have h0:=h1 0 (by omega);unfold idxB; rw [if_neg (by simpa using h0)];rw [idxB_iff c l i (by simpa using h) (fun j hj=>by simpa using h1 (j+1) (by omega)) (fun hi=>by simpa using h2 (by simpa using hi))]
def isNeg (a:List UInt8):Bool:=a.head? == some 45
def afterNeg (a:List UInt8):List UInt8:=if isNeg a then a.drop 1 else a
def numOf (a:List UInt8):List UInt8:=(afterNeg a).take (idxB 47 (afterNeg a))
def hasStroke (a:List UInt8):Bool:=decide (idxB 47 (afterNeg a) < (afterNeg a).length)
def denOf (a:List UInt8):List UInt8:=if hasStroke a then (afterNeg a).drop (idxB 47 (afterNeg a)+1) else [49]
def isRat (a:List UInt8):Bool:=valid (numOf a) && valid (denOf a) && decide ((numOf a).length<=400) && decide ((denOf a).length<=400) && !(isNeg a && numOf a == [48]) && !(hasStroke a && (denOf a == [48] || denOf a == [49])) && decide (Nat.gcd (val (numOf a)) (val (denOf a))=1)
structure IsRat (a:List UInt8):Prop where
 num:valid (numOf a)=true
 den:valid (denOf a)=true
 ln:(numOf a).length<=400
 ld:(denOf a).length<=400
 neg: ¬ (isNeg a=true/\numOf a=[48])
 fr: ¬ (hasStroke a=true/\(denOf a=[48]\/denOf a=[49]))
 one:Nat.gcd (val (numOf a)) (val (denOf a))=1
theorem isRat_iff {a:List UInt8}:isRat a=true↔IsRat a:=by
 unfold isRat;simp only [and_eq_true,not_eq_true',Bool.and_eq_false_iff,Bool.or_eq_false_iff,decide_eq_true_eq,beq_eq_false_iff_ne];constructor
 ·rintro ⟨⟨⟨⟨⟨⟨h1,h2⟩,h3⟩,h4⟩,h5⟩,h6⟩,h7⟩;refine ⟨h1,h2,h3,h4,fun ⟨e1,e2⟩=> ?_,fun ⟨e1,e2⟩=> ?_,h7⟩
  ·rcases h5 with h5 | h5
   ·rw [e1] at h5; cases h5
   ·exact h5 e2
  ·rcases h6 with h6 | h6
   ·rw [e1] at h6; cases h6
   ·rcases e2 with e2 | e2
    ·exact h6.1 e2
    ·exact h6.2 e2
 ·rintro ⟨h1,h2,h3,h4,h5,h6,h7⟩;refine ⟨⟨⟨⟨⟨⟨h1,h2⟩,h3⟩,h4⟩,?_⟩,?_⟩,h7⟩
  ·cases hn:isNeg a with
   | false=>exact .inl rfl
   | true=>exact .inr fun e=>h5 ⟨hn,e⟩
  ·cases hn:hasStroke a with
   | false=>exact .inl rfl
   | true=>exact .inr ⟨fun e=>h6 ⟨hn,.inl e⟩,fun e=>h6 ⟨hn,.inr e⟩⟩
theorem jP {a:List UInt8}(h:valid a=true):a=[48]↔val a=0:=by
 obtain ⟨n,rfl,_,e⟩:=valid_ex h;rw [e,toDec_eq_zero]
theorem yM {a:List UInt8}(h:valid a=true):a=[49]↔val a=1:=by
 obtain ⟨n,rfl,_,e⟩:=valid_ex h;rw [e,toDec_eq_one]
theorem N3:val [49]=1:=by decide
theorem valid_lt {a:List UInt8}{k:Nat}(h:valid a=true)(hk:0 < k)(hl:a.length<=k):val a < 10 ^ k:=by
 obtain ⟨n,rfl,_,e⟩:=valid_ex h;rw [e]; exact (toDec_len_le hk).1 hl
theorem isRat_ref {a:List UInt8}:IsRat a↔(valid (numOf a)=true/\(numOf a).length<=400)/\(valid (denOf a)=true/\(denOf a).length<=400)/\denOf a≠[48]/\ ¬ (numOf a=[48]/\(isNeg a=true\/hasStroke a=true))/\ ¬ (denOf a=[49]/\hasStroke a=true)/\(Nat.gcd (val (numOf a)) (val (denOf a))=1\/denOf a=[49]):=by
 constructor
 ·rintro ⟨h1,h2,h3,h4,h5,h6,h7⟩;have hd:hasStroke a=false->denOf a=[49]:=fun h=>by unfold denOf; rw [h]; rfl
  refine ⟨⟨h1,h3⟩,⟨h2,h4⟩,fun e=> ?_,?_,fun ⟨e1,e2⟩=>h6 ⟨e2,.inr e1⟩,.inl h7⟩
  ·cases hs:hasStroke a with
   | false=>rw [hd hs] at e; cases e
   | true=>exact h6 ⟨hs,.inl e⟩
  ·rintro ⟨e1,e2 | e2⟩
   ·exact h5 ⟨e2,e1⟩
   ·have e3:=(jP h1).1 e1;rw [e3,Nat.gcd_zero_left] at h7;exact h6 ⟨e2,.inr ((yM h2).2 h7)⟩
 ·rintro ⟨⟨h1,h3⟩,⟨h2,h4⟩,h5,h6,h7,h8⟩;refine ⟨h1,h2,h3,h4,fun ⟨e1,e2⟩=>h6 ⟨e2,.inl e1⟩,fun ⟨e1,e2⟩=> ?_,?_⟩
  ·rcases e2 with e2 | e2
   ·exact h5 e2
   ·exact h7 ⟨e2,e1⟩
  ·rcases h8 with h8 | h8
   ·exact h8
   ·rw [h8,N3,Nat.gcd_one_right]
def plusS (s:Bool)(A:Nat)(t:Bool)(B:Nat):Bool×Nat:=if s=t then (s,A+B) else if A < B then (t,B - A) else (s,A - B)
def cmpRat (a b:List UInt8):Int:=
 if isRat a=true/\isRat b=true then
  if (plusS (isNeg a) (val (numOf a)*val (denOf b)) (!isNeg b) (val (numOf b)*val (denOf a))).2=0 then 0
  else if (plusS (isNeg a) (val (numOf a)*val (denOf b)) (!isNeg b) (val (numOf b)*val (denOf a))).1=true then -1 else 1
 else 0
theorem Mt {A B k m:Nat}(e:k+k=m)(hA:A < 10 ^ k)(hB:B < 10 ^ k):A*B < 10 ^ m:=by
 subst e;rw [pow_add];exact Nat.mul_lt_mul'' hA hB
theorem pow_400_800 {A B:Nat}(hA:A < 10 ^ 400)(hB:B < 10 ^ 400):A*B < 10 ^ 800:=Mt (k:=400) (m:=800) rfl hA hB
theorem pow_mono10 {k m:Nat}(h:k<=m):10 ^ k<=10 ^ m:=pow_le_pow_right (by decide) h
theorem HB {k m:Nat}(h:k+1<=m):10 ^ k+10 ^ k<=10 ^ m:=by
 have h1:=pow_mono10 h;rw [pow_succ] at h1;omega
theorem pow_800:(10:Nat) ^ 800+10 ^ 800<=10 ^ 1000:=HB (k:=800) (m:=1000) (by decide)
end Go.Num
end
section
set_option linter.unusedVariables false
set_option maxRecDepth 100000
namespace Go.Proofs.YtoabjjimjldcfaaGreatDoor
open Go Go.Ab
theorem Ir:SS.P.underlying 9=some .string:=Tryz.underlying9
theorem AD (l:List UInt8)(h:Heap){b:Nat}(hb:b<=l.length):aH SS.P 9 (aa l) none (some (.int .i64 (b:Int))) none h=some (aa (l.take b)):=by
 have:=ji (h:=h) Ir l (lo:=none) (hi:=some (.int .i64 (b:Int))) (a:=0) (b:=b) rfl rfl (by omega) hb;simpa using this
theorem nH (l:List UInt8)(h:Heap){a:Nat}(ha:a<=l.length):aH SS.P 9 (aa l) (some (.int .i64 (a:Int))) none none h=some (aa (l.drop a)):=by
 have:=ji (h:=h) Ir l (lo:=some (.int .i64 (a:Int))) (hi:=none) (a:=a) (b:=l.length) rfl rfl ha (le_refl _);rw [this,take_of_length_le (by simp)]
theorem H2 (l:List UInt8)(h:Heap):FW SS 177 [aa l,aa [45]] h (fun v h'=>v = .bool (Num.isNeg l)/\h'=h):=by
 refine G4 l [45] h _ (ae (fun h1=> ?_) (fun h1=> ?_))
 ·have h1:=dT h1;have h2:1<=l.length:=by simp only [List.length_cons,List.length_nil] at h1; omega
  refine ⟨_,AD l h (b:=1) h2,?_,rfl⟩
  cases l with
  | nil=>simp at h2
  | cons c l=>
   unfold Num.isNeg;simp only [List.take_succ_cons,take_zero,List.head?_cons];congr 1
   cases hc:c == 45 <;> simp_all
 ·have h1:=dF h1;have h2:l=[]:=List.eq_nil_of_length_eq_zero (by simp at h1; omega);subst h2;exact ⟨rfl,rfl⟩
theorem Dt (l:List UInt8)(h:Heap):FW SS 165 [aa l,aa [45]] h (fun v h'=>v = .tuple ⟨[aa (Num.afterNeg l),.bool (Num.isNeg l)]⟩/\h'=h):=by
 refine DS l [45] h _ ((H2 l h).mono ?_);rintro _ g0 ⟨rfl,e0⟩;obtain rfl:h=g0:=e0.symm;refine ⟨_,rfl,ae (fun g=> ?_) (fun g=> ?_)⟩
 ·have g:Num.isNeg l=false:=by simpa using g
  unfold Num.afterNeg; rw [g]; exact ⟨rfl,rfl⟩
 ·have g:Num.isNeg l=true:=by simpa using g
  have h2:1<=l.length:=by
   cases l with
   | nil=>cases g
   | cons=>simp
  refine ⟨_,nH l h (a:=1) h2,?_,rfl⟩;unfold Num.afterNeg; rw [g]; rfl
theorem GW (l:List UInt8)(h:Heap):FW SS 145 [aa l,aa [45]] h (fun v h'=>v = .tuple ⟨[aa (Num.afterNeg l),.bool (Num.isNeg l)]⟩/\h'=h):=by
 refine G1 l [45] h _ ((Dt l h).mono ?_);rintro _ g0 ⟨rfl,e0⟩;exact ⟨_,_,rfl,rfl,e0⟩
theorem Dv (l:List UInt8): ∀ i:Nat,nG 47 l i=if Num.idxB 47 l < l.length then ((i+Num.idxB 47 l:Nat):Int) else -1:=by
 induction l with
 | nil=>intro i; rfl
 | cons c l ih=>
  intro i;unfold nG Num.idxB;have hc:c.toNat=47↔c=47:=by rw [<-UInt8.toNat_inj]; rfl
  by_cases h:c=47
  ·rw [if_pos (hc.2 h),if_pos h,if_pos (by simp)]; rfl
  ·rw [if_neg (fun e=>h (hc.1 e)),if_neg h,ih (i+1)];have:(Num.idxB 47 l+1 < (c::l).length)↔Num.idxB 47 l < l.length:=by simp
   simp only [this];split
   ·congr 1; omega
   ·rfl
def xn (l:List UInt8):Int:=if Num.idxB 47 l < l.length then (Num.idxB 47 l:Int) else -1
theorem Cl (l:List UInt8)(h:Heap):FW SS 186 [aa l,.int .u8 47] h (fun v h'=>v = .int .i64 (xn l)/\h'=h):=by
 refine AS l 47 h _ (uh (p:=jH) (v:= .int .i64 (xn l)) (h':=h) (by decide +kernel) (by kernel_rfl) (fun cf=> ?_) ⟨_,rfl,rfl,rfl⟩);show (if (0:Int)<=47/\(47:Int) < 256 then some (Value.int .i64 (nG 47 l 0),h) else none)=_;rw [if_pos (by decide),Dv,zero_add]; rfl
theorem HS (l:List UInt8)(h:Heap):FW SS 178 [aa l,aa [47]] h (fun v h'=>v = .int .i64 (xn l)/\h'=h):=by
 refine Hn l h _ (ae (fun h1=> ?_) (fun h1=> ?_))
 ·have h1:([47]:List UInt8)=l:=by simpa using h1
  subst h1;exact ⟨rfl,rfl⟩
 ·refine ⟨47,rfl,(Cl l h).mono ?_⟩;rintro _ g0 ⟨rfl,e0⟩;exact ⟨_,rfl,rfl,e0⟩
def GN (l:List UInt8):Value:=if Num.idxB 47 l < l.length then .tuple ⟨[aa (l.take (Num.idxB 47 l)),aa (l.drop (Num.idxB 47 l+1)),.bool true]⟩ else .tuple ⟨[aa l,aa [],.bool false]⟩
theorem Lx (l:List UInt8)(hl:l.length<=1000000000){h:Heap}(w:Wf h):FW SS 166 [aa l,aa [47]] h (fun v h'=>v=GN l/\Ok h h'):=by
 refine Ln l h _ ((HS l h).mono ?_);rintro _ g0 ⟨rfl,e0⟩;obtain rfl:h=g0:=e0.symm;refine ⟨_,rfl,ae (fun g=> ?_) (fun g=> ?_)⟩
 ·have g:=dT g;unfold xn GN at *;by_cases h1:Num.idxB 47 l < l.length
  ·rw [if_pos h1,if_pos h1];have hw:wrap .i64 ((Num.idxB 47 l:Int)+1)=((Num.idxB 47 l+1:Nat):Int):=by rw [am (by omega) (by omega)]; omega
   rw [hw];exact ⟨_,AD l _ (le_of_lt h1),_,nH l _ h1,rfl,(Ok.refl w).room 12⟩
  ·rw [if_neg h1] at g; omega
 ·have g:=dF g;unfold xn GN at *;by_cases h1:Num.idxB 47 l < l.length
  ·rw [if_pos h1] at g; omega
  ·rw [if_neg h1]; exact ⟨rfl,Ok.refl w⟩
theorem NY (l:List UInt8)(hl:l.length<=1000000000){h:Heap}(w:Wf h):FW SS 146 [aa l,aa [47]] h (fun v h'=>v=GN l/\Ok h h'):=by
 refine OM l h _ ((Lx l hl w).mono ?_);rintro _ g0 ⟨rfl,e0⟩;unfold GN;split
 ·exact ⟨_,_,_,rfl,rfl,e0⟩
 ·exact ⟨_,_,_,rfl,rfl,e0⟩
theorem Av (l:List UInt8)(hl:l.length<=1000000000)(h:Heap):FW SS 126 [aa l,.int .u8 47] h (fun v h'=>v = .int .i64 (xn l)/\h'=h):=by
 refine zj l 47 h _ (mZ l 47 (fun mz i g=>g=h/\i<=l.length/\mz=l.length - i/\ ∀ j,j < i->l.getD j 0≠47) _ (fun mz i=> ?_) l.length (i:=0) ⟨rfl,by omega,rfl,fun j hj=>by omega⟩);intros; rename_i g hi;obtain ⟨rfl,h1,h2,h3⟩:=hi;refine ae (fun g1=> ?_) (fun g1=> ?_)
 ·have g1:=dT g1;have e:aQ SS.P 9 (aa l) (.int .i64 (i:Int))=some (.int .u8 (((l.getD i 0).toNat:Nat):Int)):=by
   have:=jh Ir l .i64 (i:=(i:Int)) (by omega) g1;simpa using this
  refine ⟨_,e,ae (fun g2=> ?_) (fun g2=> ?_)⟩
  ·have g2:(l.getD i 0).toNat=47:=by have:=dT g2; omega
   have g3:l.getD i 0=47:=by rw [<-UInt8.toNat_inj]; exact g2
   have:=Num.idxB_iff 47 l i h1 h3 (fun _=>g3);refine ⟨?_,rfl⟩;unfold xn; rw [this,if_pos (by omega)]
  ·have g2:((l.getD i 0).toNat:Int)≠47:=by simpa using g2
   have hw:wrap .i64 ((i:Int)+1)=((i+1:Nat):Int):=by rw [am (by omega) (by omega)]; omega
   rw [hw];refine bp (mz - 1) (by omega) ⟨rfl,by omega,by omega,fun j hj=> ?_⟩;rcases lt_or_ge j i with hj2 | hj2
   ·exact h3 j hj2
   ·obtain rfl:j=i:=by omega
    intro e3; rw [e3] at g2; exact g2 rfl
 ·have g1:=dF g1;obtain rfl:i=l.length:=by omega
  have:=Num.idxB_iff 47 l l.length (le_refl _) h3 (fun hh=>by omega);refine ⟨?_,rfl⟩;unfold xn; rw [this,if_neg (by omega)]
noncomputable def zr:FD:=bF Tryz.f153 []
theorem w9 (l:LB)(h:Heap)(Q:VH)(hx:au (decide ((((l:LB).length:Int):Int) > 1000)) (Q (.tuple ⟨[(aa []),(.int .i64 2)]⟩) h) (Q (.tuple ⟨[(aa l),(.int .i64 0)]⟩) h)):FW SS 153 [(aa l)] h Q:=bG zr Tryz.func153 (aj hx)
noncomputable def Ju:FD:=bF Tryz.f130 []
theorem H3 (l m:LB)(h:Heap)(Q:VH)(hx:FW SS 149 [(aa l)] h fun v1 h2=>yB v1 fun b3=>au (!b3) (Q (.int .i64 0) h2) (FW SS 149 [(aa m)] h2 fun v4 h5=>yB v4 fun b6=>au (!b6) (Q (.int .i64 0) h5) (FW SS 155 [(aa l),(aa m)] h5 fun v7 h8=>yI .i64 v7 fun n9=>Q (.int .i64 n9) h8))):FW SS 130 [(aa l),(aa m)] h Q:=bG Ju Tryz.func130 (aj hx)
noncomputable def K5:FD:=bF Tryz.f131 []
theorem Hq (l m:LB)(h:Heap)(Q:VH)(hx:FW SS 149 [(aa l)] h fun v1 h2=>yB v1 fun b3=>au (!b3) (Q (.tuple ⟨[(aa []),(.int .i64 1)]⟩) h2) (FW SS 149 [(aa m)] h2 fun v4 h5=>yB v4 fun b6=>au (!b6) (Q (.tuple ⟨[(aa []),(.int .i64 1)]⟩) h5) (FW SS 155 [(aa l),(aa m)] h5 fun v7 h8=>yI .i64 v7 fun n9=>au (decide ((n9:Int) < 0)) (Q (.tuple ⟨[(aa []),(.int .i64 4)]⟩) h8) (FW SS 151 [(aa l)] h8 fun v10 h11=>yL v10 fun a12 n13 c14=>FW SS 151 [(aa m)] h11 fun v15 h16=>yL v15 fun a17 n18 c19=>FW SS 156 [(.slice a12 n13 c14),(.slice a17 n18 c19)] h16 fun v20 h21=>yL v20 fun a22 n23 c24=>FW SS 154 [(.slice a22 n23 c24)] h21 fun v25 h26=>yS v25 fun l27=>Q (.tuple ⟨[(aa l27),(.int .i64 0)]⟩) h26)))):FW SS 131 [(aa l),(aa m)] h Q:=bG K5 Tryz.func131 (aj hx)
noncomputable def jL:FD:=bF Tryz.f129 [([1,1,1,1,1,0,1,0,0],[6,7,8,9,10])]
abbrev eR (a:OA)(n c:Nat)(b:OA)(k d:Nat)(i:Nat)(cy:Int)(r:OA)(rn rc:Nat):LV:=[(.slice a n c),(.slice b k d),(.slice r rn rc),(.int .i64 cy),(iA i)]
theorem Ia (l m:LB)(h:Heap)(Q:VH)(hx:FW SS 149 [(aa l)] h fun v1 h2=>yB v1 fun b3=>au (!b3) (Q (.tuple ⟨[(aa []),(.int .i64 1)]⟩) h2) (FW SS 149 [(aa m)] h2 fun v4 h5=>yB v4 fun b6=>au (!b6) (Q (.tuple ⟨[(aa []),(.int .i64 1)]⟩) h5) (FW SS 151 [(aa l)] h5 fun v7 h8=>yL v7 fun a9 n10 c11=>FW SS 151 [(aa m)] h8 fun v12 h13=>yL v12 fun a14 n15 c16=>LL SS jL [1,1,1,1,1,0,1,0,0] (eR a9 n10 c11 a14 n15 c16 0 0 none 0 0) h13 (KK SS jL [1,1,1,1,1,0,1,0] [] (EE SS jL Q))))):FW SS 129 [(aa l),(aa m)] h Q:=bG jL Tryz.func129 (aj hx)
theorem rR (l m:LB)(a:OA)(n c:Nat)(b:OA)(k d:Nat)(Inv:Nat->Nat->Int->OA->Nat->Nat->Heap->Prop)(Q:VH)(step: ∀ (mz:Nat) (i:Nat) (cy:Int) (r:OA) (rn rc:Nat) (zz:Nat->Value) (h:Heap),Inv mz i cy r rn rc h->au (decide (((i:Int):Int)<=(n:Int))) (FW SS 152 [(.slice a n c),(iA i)] h fun v17 h18=>yI .i64 v17 fun n19=>FW SS 152 [(.slice b k d),(iA i)] h18 fun v20 h21=>yI .i64 v20 fun n22=>xI .i64 (al SS.P .rem 3 (.int .i64 (wrap .i64 (wrap .i64 (n19+n22)+cy))) (.int .i64 10)) fun n23=>xR (ak SS.P 48 1 [(0,(.int .i64 n23))]) h21 fun eG n25 c26 g27=>xE (ay SS.P 48 48 (.slice r rn rc) (sA (h21.next) n25 c26) g27) g27 fun a28 n29 c30 u31 g32=>xI .i64 (al SS.P .quo 3 (.int .i64 (wrap .i64 (wrap .i64 (n19+n22)+cy))) (.int .i64 10)) fun n33=>ax (wp (eR a n c b k d) Inv) mz [(.slice a n c),(.slice b k d),(.slice a28 n29 c30),(.int .i64 n33),(.int .i64 (wrap .i64 ((i:Int)+1)))] g32) (au (decide (((i:Int):Int)<=(k:Int))) (FW SS 152 [(.slice a n c),(iA i)] h fun v34 h35=>yI .i64 v34 fun n36=>FW SS 152 [(.slice b k d),(iA i)] h35 fun v37 h38=>yI .i64 v37 fun n39=>xI .i64 (al SS.P .rem 3 (.int .i64 (wrap .i64 (wrap .i64 (n36+n39)+cy))) (.int .i64 10)) fun n40=>xR (ak SS.P 48 1 [(0,(.int .i64 n40))]) h38 fun B41 n42 c43 g44=>xE (ay SS.P 48 48 (.slice r rn rc) (sA (h38.next) n42 c43) g44) g44 fun a45 n46 c47 u48 g49=>xI .i64 (al SS.P .quo 3 (.int .i64 (wrap .i64 (wrap .i64 (n36+n39)+cy))) (.int .i64 10)) fun n50=>ax (wp (eR a n c b k d) Inv) mz [(.slice a n c),(.slice b k d),(.slice a45 n46 c47),(.int .i64 n50),(.int .i64 (wrap .i64 ((i:Int)+1)))] g49) (FW SS 154 [(.slice r rn rc)] h fun v51 h52=>yS v51 fun l53=>FW SS 153 [(aa l53)] h52 fun v54 h55=> ∃ l56:LB,∃ n57:Int,v54=(.tuple ⟨[(aa l56),(.int .i64 n57)]⟩)/\Q (.tuple ⟨[(aa l56),(.int .i64 n57)]⟩) h55)))(mz:Nat){i:Nat}{cy:Int}{r:OA}{rn rc:Nat}{h:Heap}(hi:Inv mz i cy r rn rc h):LL SS jL [1,1,1,1,1,0,1,0,0] (eR a n c b k d i cy r rn rc) h (KK SS jL [1,1,1,1,1,0,1,0] [] (EE SS jL Q)):=
 xK (eR a n c b k d) Inv (fun mz i cy r rn rc zz h hi=>aj (step mz i cy r rn rc zz h hi)) mz hi
noncomputable def cq:FD:=bF Tryz.f132 [([1,1,1,1,0,1,0,0],[6,7,8,9]),([1,1,1,1,0,1,0,0,1,0,0,1,1,0,0],[6,7,8,9,10,11])]
abbrev dO (a:OA)(n c:Nat)(b:OA)(k d:Nat)(t:OA)(tn tc:Nat)(i:Nat):LV:=[(.slice a n c),(.slice b k d),(.slice t tn tc),(iA i)]
abbrev gI (a:OA)(n c:Nat)(b:OA)(k d:Nat)(t:OA)(tn tc i:Nat)(j:Nat)(cy:Int):LV:=[(.slice a n c),(.slice b k d),(.slice t tn tc),(iA i),(.int .i64 cy),(iA j)]
theorem Ii (l m:LB)(h:Heap)(Q:VH)(hx:FW SS 149 [(aa l)] h fun v1 h2=>yB v1 fun b3=>au (!b3) (Q (.tuple ⟨[(aa []),(.int .i64 1)]⟩) h2) (FW SS 149 [(aa m)] h2 fun v4 h5=>yB v4 fun b6=>au (!b6) (Q (.tuple ⟨[(aa []),(.int .i64 1)]⟩) h5) (FW SS 151 [(aa l)] h5 fun v7 h8=>yL v7 fun a9 n10 c11=>FW SS 151 [(aa m)] h8 fun v12 h13=>yL v12 fun a14 n15 c16=>xR (aP SS.P 48 (.int .i64 (wrap .i64 (wrap .i64 ((n10:Int)+(n15:Int))+1))) (.int .i64 (wrap .i64 (wrap .i64 ((n10:Int)+(n15:Int))+1)))) h13 fun B17 n18 c19 g20=>LL SS cq [1,1,1,1,0,1,0,0] (dO a9 n10 c11 a14 n15 c16 (some ⟨h13.next,0,none⟩) n18 c19 0) g20 (KK SS cq [1,1,1,1,0,1,0] [] (EE SS cq Q))))):FW SS 132 [(aa l),(aa m)] h Q:=bG cq Tryz.func132 (aj hx)
theorem rx (l m:LB)(a:OA)(n c:Nat)(b:OA)(k d:Nat)(t:OA)(tn tc:Nat)(Inv:Nat->Nat->Heap->Prop)(Q:VH)(step: ∀ (mz:Nat) (i:Nat) (zz:Nat->Value) (h:Heap),Inv mz i h->au (decide (((i:Int):Int) < (n:Int))) (LL SS cq [1,1,1,1,0,1,0,0,1,0,0,1,1,0,0] (gI a n c b k d t tn tc i 0 0) h (KK SS cq [1,0,0,1,1,0] [1,1,1,1,0,1,0,0] (RR cq [1,1,1,1,0,1,0,0] (fA (dO a n c b k d t tn tc) Inv) mz (KK SS cq [1,1,1,1,0,1,0] [] (EE SS cq Q))))) (FW SS 154 [(.slice t tn tc)] h fun v21 h22=>yS v21 fun l23=>FW SS 153 [(aa l23)] h22 fun v24 h25=> ∃ l26:LB,∃ n27:Int,v24=(.tuple ⟨[(aa l26),(.int .i64 n27)]⟩)/\Q (.tuple ⟨[(aa l26),(.int .i64 n27)]⟩) h25))(mz:Nat){i:Nat}{h:Heap}(hi:Inv mz i h):LL SS cq [1,1,1,1,0,1,0,0] (dO a n c b k d t tn tc i) h (KK SS cq [1,1,1,1,0,1,0] [] (EE SS cq Q)):=
 bH (dO a n c b k d t tn tc) Inv (fun mz i zz h hi=>aj (step mz i zz h hi)) mz hi
theorem qo (l m:LB)(a:OA)(n c:Nat)(b:OA)(k d:Nat)(t:OA)(tn tc:Nat)(Inv:Nat->Nat->Heap->Prop)(mz i:Nat)(Inv2:Nat->Nat->Int->Heap->Prop)(Q:VH)(step: ∀ (mz2:Nat) (j:Nat) (cy:Int) (zz:Nat->Value) (h:Heap),Inv2 mz2 j cy h->au (decide (((j:Int):Int)<=(k:Int))) (xP (ag SS.P 48 (.slice t tn tc) (.int .i64 (wrap .i64 ((i:Int)+(j:Int))))) fun p28=>xI .i64 (ah SS.P 3 (room h 18) (.pointer (some p28))) fun n29=>xP (ag SS.P 48 (.slice a n c) (iA i)) fun p30=>xI .i64 (ah SS.P 3 (room h 18) (.pointer (some p30))) fun n31=>FW SS 152 [(.slice b k d),(iA j)] (room h 18) fun v32 h33=>yI .i64 v32 fun n34=>(ah SS.P 3 h33 (.pointer (some p28))=some (.int .i64 n29)/\dY 4 (.int .i64 n29) (.int .i64 n29)=true)/\(ah SS.P 3 h33 (.pointer (some p30))=some (.int .i64 n31)/\dY 4 (.int .i64 n31) (.int .i64 n31)=true)/\xI .i64 (al SS.P .rem 3 (.int .i64 (wrap .i64 (wrap .i64 (n29+wrap .i64 (n31*n34))+cy))) (.int .i64 10)) fun n35=>xP (ag SS.P 48 (.slice t tn tc) (.int .i64 (wrap .i64 ((i:Int)+(j:Int))))) fun p36=>xU (ai SS.P 3 (.pointer (some p36)) (.int .i64 n35) h33) h33 fun u37 g38=>xI .i64 (al SS.P .quo 3 (.int .i64 (wrap .i64 (wrap .i64 (n29+wrap .i64 (n31*n34))+cy))) (.int .i64 10)) fun n39=>ax (qh (gI a n c b k d t tn tc i) Inv2) mz2 [(.slice a n c),(.slice b k d),(.slice t tn tc),(iA i),(.int .i64 n39),(.int .i64 (wrap .i64 ((j:Int)+1)))] g38) (ax (fA (dO a n c b k d t tn tc) Inv) mz [(.slice a n c),(.slice b k d),(.slice t tn tc),(.int .i64 (wrap .i64 ((i:Int)+1)))] h))(mz2:Nat){j:Nat}{cy:Int}{h:Heap}(hi:Inv2 mz2 j cy h):LL SS cq [1,1,1,1,0,1,0,0,1,0,0,1,1,0,0] (gI a n c b k d t tn tc i j cy) h (KK SS cq [1,0,0,1,1,0] [1,1,1,1,0,1,0,0] (RR cq [1,1,1,1,0,1,0,0] (fA (dO a n c b k d t tn tc) Inv) mz (KK SS cq [1,1,1,1,0,1,0] [] (EE SS cq Q)))):=
 ki (gI a n c b k d t tn tc i) Inv2 (fun mz2 j cy zz h hi=>aj (step mz2 j cy zz h hi)) mz2 hi
theorem pc (X:Nat)(h:Heap):FW SS 153 [aa (Num.toDec X)] h (fun v h'=>v=jx X/\h'=h):=by
 refine w9 _ h _ (ae (fun h1=> ?_) (fun h1=> ?_))
 ·have h1:=dT h1;refine ⟨?_,rfl⟩;unfold jx; rw [if_pos (by omega)]; rfl
 ·have h1:=dF h1;refine ⟨?_,rfl⟩;unfold jx; rw [if_neg (by omega)]; rfl
theorem Gw (a b:List UInt8){h:Heap}(w:Wf h):FW SS 130 [aa a,aa b] h (fun v h'=>v=tN a b/\Ok h h'):=by
 refine H3 a b h _ ((bL a h).mono ?_);rintro _ g0 ⟨rfl,e0⟩;obtain rfl:h=g0:=e0.symm;refine ⟨_,rfl,ae (fun g=> ?_) (fun g=> ?_)⟩
 ·have g:Num.valid a=false:=by simpa using g
  refine ⟨?_,Ok.refl w⟩;unfold tN; rw [if_neg (fun e=>by rw [e.1] at g; cases g)]
 have g:Num.valid a=true:=by simpa using g
 refine (bL b h).mono ?_;rintro _ g0 ⟨rfl,e0⟩;obtain rfl:h=g0:=e0.symm;refine ⟨_,rfl,ae (fun g2=> ?_) (fun g2=> ?_)⟩
 ·have g2:Num.valid b=false:=by simpa using g2
  refine ⟨?_,Ok.refl w⟩;unfold tN; rw [if_neg (fun e=>by rw [e.2] at g2; cases g2)]
 have g2:Num.valid b=true:=by simpa using g2
 have hS:tN a b = .int .i64 (Num.cmpN (Num.val a) (Num.val b)):=by unfold tN; rw [if_pos ⟨g,g2⟩]
 rw [hS];obtain ⟨m,rfl,hm,em⟩:=Num.valid_ex g;obtain ⟨n,rfl,hn,en⟩:=Num.valid_ex g2;have lm:=cV hm;have ln:=cV hn;rw [em,en];refine (kH m n (by omega) (by omega) h w).mono ?_;rintro _ g ⟨rfl,ok⟩;exact ⟨_,rfl,rfl,ok⟩
theorem kL {a:List UInt8}(va:Num.valid a=true){h:Heap}(w:Wf h):FW SS 151 [aa a] h (ew h 3 ((Num.digs a).map iv)):=by
 have da:=(Num.valid_iff.1 va)
 exact lz a da.1.2.1 (le_trans da.2 (by omega)) h w
theorem fM {a:List UInt8}(va:Num.valid a=true): ∀ d∈Num.digs a,d < 10:=Num.digs_lt (Num.valid_iff.1 va).1.2.1
theorem jk {a:List UInt8}(va:Num.valid a=true):(Num.digs a).length<=1000:=by
 rw [Num.digs_len]; exact (Num.valid_iff.1 va).2
theorem w8 {a b:List UInt8}(va:Num.valid a=true)(vb:Num.valid b=true)(h:Num.val b<=Num.val a):b.length<=a.length:=by
 obtain ⟨m,rfl,_,em⟩:=Num.valid_ex va;obtain ⟨n,rfl,_,en⟩:=Num.valid_ex vb;exact Nat.le_of_not_lt fun g=>by have:=Num.toDec_len_lt g; omega
theorem yr (a b:List UInt8){h:Heap}(w:Wf h):FW SS 131 [aa a,aa b] h (fun v h'=>v=tT a b/\Ok h h'):=by
 refine Hq a b h _ ((bL a h).mono ?_);rintro _ g0 ⟨rfl,e0⟩;obtain rfl:h=g0:=e0.symm;refine ⟨_,rfl,ae (fun g=> ?_) (fun g=> ?_)⟩
 ·have g:Num.valid a=false:=by simpa using g
  refine ⟨?_,Ok.refl w⟩;unfold tT; rw [if_neg (fun e=>by rw [e.1] at g; cases g)]; rfl
 have g:Num.valid a=true:=by simpa using g
 refine (bL b h).mono ?_;rintro _ g0 ⟨rfl,e0⟩;obtain rfl:h=g0:=e0.symm;refine ⟨_,rfl,ae (fun g2=> ?_) (fun g2=> ?_)⟩
 ·have g2:Num.valid b=false:=by simpa using g2
  refine ⟨?_,Ok.refl w⟩;unfold tT; rw [if_neg (fun e=>by rw [e.2] at g2; cases g2)]; rfl
 have g2:Num.valid b=true:=by simpa using g2
 have hS:tT a b=(if Num.val a < Num.val b then wJ [] 4 else wJ (Num.toDec (Num.val a - Num.val b)) 0):=by unfold tT; rw [if_pos ⟨g,g2⟩]
 rw [hS];have hc:FW SS 155 [aa a,aa b] h (fun v h'=>v = .int .i64 (Num.cmpN (Num.val a) (Num.val b))/\Ok h h'):=by
  obtain ⟨m,rfl,hm,em⟩:=Num.valid_ex g;obtain ⟨n,rfl,hn,en⟩:=Num.valid_ex g2;have lm:=cV hm;have ln:=cV hn;rw [em,en];exact kH m n (by omega) (by omega) h w
 refine hc.mono ?_;rintro _ h1 ⟨rfl,ok1⟩;refine ⟨_,rfl,ae (fun h6=> ?_) (fun h6=> ?_)⟩
 ·have h6:=dT h6;rw [if_pos (cmpN_lt h6)];exact ⟨rfl,ok1⟩
 have h6:=dF h6;have hle:=cmpN_ge h6;rw [if_neg (Nat.not_lt.2 hle)];refine (kL g ok1.wf).mono ?_;rintro _ h2 ⟨a2,n2,c2,rfl,o2,ok2⟩;refine ⟨_,_,_,rfl,(kL g2 ok2.wf).mono ?_⟩;rintro _ h3 ⟨a3,n3,c3,rfl,o3,ok3⟩;refine ⟨_,_,_,rfl,(vM (o2.rd.ok ok3) o3.rd (fM g) (fM g2) (le_trans (jk g) (by omega)) ok3.wf).mono ?_⟩;rintro _ h4 ⟨a4,n4,c4,rfl,o4,ok4⟩;refine ⟨_,_,_,rfl,(lA o4.rd (Num.less_lt (fM g) (fM g2) _ _ _ (by omega)) (by rw [Num.eachF_len]; exact le_trans (jk g) (by omega)) ok4.wf).mono ?_⟩;rintro _ h5 ⟨rfl,ok5⟩;refine ⟨_,rfl,?_,(((ok1.trans ok2).trans ok3).trans ok4).trans ok5⟩;rw [Num.less_bv (fM g) (fM g2) (by rw [Num.digs_len,Num.digs_len]; exact w8 g g2 hle) (by rw [Num.bv_digs,Num.bv_digs]; exact hle),Num.bv_digs,Num.bv_digs];rfl
theorem Kj {d:Nat}:al SS.P .rem 3 (.int .i64 (d:Int)) (.int .i64 10)=some (.int .i64 ((d % 10:Nat):Int)):=by
 rw [show (10:Int)=((10:Nat):Int) from rfl,dy (by omega) (by decide),Int.natCast_emod]
theorem Iv {d:Nat}(h:d < 1000000):al SS.P .quo 3 (.int .i64 (d:Int)) (.int .i64 10)=some (.int .i64 ((d / 10:Nat):Int)):=by
 have h2:(d:Int).tdiv 10=((d / 10:Nat):Int):=by
  rw [Int.tdiv_eq_ediv_of_nonneg (by omega)]; rfl
 rw [Ao SS.P 3 .i64 _ _ (by omega),h2,am (by omega) (by omega)]
theorem Ie {p q c:Nat}(hp:p < 10)(hq:q < 10)(hc:c<=1):(Num.plusF 10 p q c).2<=1:=by
 show (p+q+c) / 10<=1;omega
theorem Gs (a b:List UInt8){h:Heap}(w:Wf h):FW SS 129 [aa a,aa b] h (fun v h'=>v=tK a b/\Ok h h'):=by
 refine Ia a b h _ ((bL a h).mono ?_);rintro _ g0 ⟨rfl,e0⟩;obtain rfl:h=g0:=e0.symm;refine ⟨_,rfl,ae (fun g=> ?_) (fun g=> ?_)⟩
 ·have g:Num.valid a=false:=by simpa using g
  refine ⟨?_,Ok.refl w⟩;unfold tK; rw [if_neg (fun e=>by rw [e.1] at g; cases g)]; rfl
 have g:Num.valid a=true:=by simpa using g
 refine (bL b h).mono ?_;rintro _ g0 ⟨rfl,e0⟩;obtain rfl:h=g0:=e0.symm;refine ⟨_,rfl,ae (fun g2=> ?_) (fun g2=> ?_)⟩
 ·have g2:Num.valid b=false:=by simpa using g2
  refine ⟨?_,Ok.refl w⟩;unfold tK; rw [if_neg (fun e=>by rw [e.2] at g2; cases g2)]; rfl
 have g2:Num.valid b=true:=by simpa using g2
 have hS:tK a b=jx (Num.val a+Num.val b):=by unfold tK; rw [if_pos ⟨g,g2⟩]
 rw [hS];refine (kL g w).mono ?_;rintro _ h2 ⟨a2,n2,c2,rfl,o2,ok2⟩;refine ⟨_,_,_,rfl,(kL g2 ok2.wf).mono ?_⟩;rintro _ h3 ⟨a3,n3,c3,rfl,o3,ok3⟩;refine ⟨_,_,_,rfl,?_⟩;have r1:=o2.rd.ok ok3;have r2:=o3.rd;have ok:=ok2.trans ok3;have w3:=ok3.wf;have hn1:n2=(Num.digs a).length:=by have:=r1.len; rwa [lM] at this
 have hn2:n3=(Num.digs b).length:=by have:=r2.len; rwa [lM] at this
 have l1:=jk g;have l2:=jk g2;have hx:=fM g;have hy:=fM g2;have e1:=Num.bv_digs a;have e2:=Num.bv_digs b;generalize Num.digs a=x at *;generalize Num.digs b=y at *;have hcr: ∀ j,Num.cr (Num.plusF 10) x y 0 0 j<=1:=by
  intro j
  induction j with
  | zero=>exact Nat.zero_le _
  | succ j ih=>exact Ie (Num.getD_lt (by decide) hx _) (Num.getD_lt (by decide) hy _) ih
 have hbv:=Num.plus_bv (b:=10) (by decide) hx hy (max x.length y.length+1) 0 0 (by omega) (by omega) (by omega) (by omega);rw [drop_zero,drop_zero,e1,e2,add_zero] at hbv;rw [<-hn1,<-hn2] at hbv;have hmx1:=le_max_left n2 n3;have hmx2:=le_max_right n2 n3;have hmx3:max n2 n3<=1000:=max_le.2 ⟨by omega,by omega⟩;have hmx4:n2=max n2 n3\/n3=max n2 n3:=by omega
 generalize max n2 n3=N at *;refine rR a b a2 n2 c2 a3 n3 c3 (fun mz i cy r rn rc g=>i<=N+1/\mz=N+1 - i/\cy=(Num.cr (Num.plusF 10) x y 0 0 i:Nat)/\OwnR h3 g 3 (.slice r rn rc) ((Num.eachF (Num.plusF 10) x y 0 i 0).map iv)/\Ok h3 g) (fun v h'=>v=jx (Num.val a+Num.val b)/\Ok h h') (by
  intro mz i cy r rn rc; intros; rename_i gg hi;obtain ⟨f1,f2,rfl,ho,okg⟩:=hi;have hw3:wrap .i64 ((i:Int)+1)=((i+1:Nat):Int):=by rw [am (by omega) (by omega)]; omega
  rw [hw3];have hel:(Num.eachF (Num.plusF 10) x y 0 i 0).length=i:=Num.eachF_len _ _ _ _ _ _;have hsn:=Num.eachF_snoc (Num.plusF 10) x y i 0 0;rw [zero_add] at hsn;have hcr1:Num.cr (Num.plusF 10) x y 0 0 (i+1)=(Num.plusF 10 (x.getD i 0) (y.getD i 0) (Num.cr (Num.plusF 10) x y 0 0 i)).2:=by
   show (Num.plusF 10 (x.getD (0+i) 0) (y.getD (0+i) 0) _).2=_;rw [zero_add]
  have hci:=hcr i;have hp:=Num.getD_lt (by omega) hx i;have hq:=Num.getD_lt (by omega) hy i;generalize Num.cr (Num.plusF 10) x y 0 0 i=ci at *;have hstep: ∀ hg:i < N+1,FW SS 152 [(.slice a2 n2 c2),(.int .i64 (i:Int))] gg (fun v h'=>v = .int .i64 (x.getD i 0:Nat)/\h'=gg)/\FW SS 152 [(.slice a3 n3 c3),(.int .i64 (i:Int))] gg (fun v h'=>v = .int .i64 (y.getD i 0:Nat)/\h'=gg):=fun _=>⟨mQ (r1.ok okg) i,mQ (r2.ok okg) i⟩
  have hw1:wrap .i64 (((x.getD i 0:Nat):Int)+((y.getD i 0:Nat):Int))=((x.getD i 0+y.getD i 0:Nat):Int):=by rw [am (by omega) (by omega)]; omega
  have hw2:wrap .i64 (((x.getD i 0+y.getD i 0:Nat):Int)+(ci:Int))=((x.getD i 0+y.getD i 0+ci:Nat):Int):=by rw [am (by omega) (by omega)]; omega
  refine ae (fun h5=> ?_) (fun h5=>ae (fun h6=> ?_) (fun h6=> ?_))
  ·have h5:=dT h5;obtain ⟨s1,s2⟩:=hstep (by omega);refine s1.mono ?_;rintro _ _ ⟨rfl,rfl⟩;refine ⟨_,rfl,s2.mono ?_⟩;rintro _ _ ⟨rfl,rfl⟩;rename_i gg;refine ⟨_,rfl,?_⟩;dsimp only;rw [hw1,hw2];obtain ⟨b',m',d',u,g6,g7,g8,g9⟩:=vF w3 okg ho (((x.getD i 0+y.getD i 0+ci) % 10:Nat):Int) (by rw [lM,hel]; omega);refine ⟨_,Kj,_,_,_,jR _,b',m',d',u,g6,_,Iv (by omega),jF (mz - 1) (by omega) ⟨by omega,by omega,by rw [hcr1]; rfl,?_,g9⟩⟩;rw [hsn,map_append];exact g8
  ·have h6:=dT h6;obtain ⟨s1,s2⟩:=hstep (by omega);refine s1.mono ?_;rintro _ _ ⟨rfl,rfl⟩;refine ⟨_,rfl,s2.mono ?_⟩;rintro _ _ ⟨rfl,rfl⟩;rename_i gg;refine ⟨_,rfl,?_⟩;dsimp only;rw [hw1,hw2];obtain ⟨b',m',d',u,g6,g7,g8,g9⟩:=vF w3 okg ho (((x.getD i 0+y.getD i 0+ci) % 10:Nat):Int) (by rw [lM,hel]; omega);refine ⟨_,Kj,_,_,_,jR _,b',m',d',u,g6,_,Iv (by omega),jF (mz - 1) (by omega) ⟨by omega,by omega,by rw [hcr1]; rfl,?_,g9⟩⟩;rw [hsn,map_append];exact g8
  ·have h5:=dF h5;have h6:=dF h6;obtain rfl:i=N+1:=by omega
   refine (lA ho.rd (Num.eachF_lt (fun p q c=>mod_lt _ (by decide)) _ _ _ 0 0) (by rw [hel]; omega) okg.wf).mono ?_;rintro _ h4 ⟨rfl,ok4⟩;refine ⟨_,rfl,?_⟩;rw [hbv];refine (pc _ h4).mono ?_;rintro _ _ ⟨rfl,rfl⟩;exact uk (K:=fun v=>v=jx (Num.val a+Num.val b)/\Ok h _) (rO _) ⟨rfl,(ok.trans okg).trans ok4⟩)
  (N+1) (i:=0) ⟨by omega,by omega,rfl,.inl ⟨rfl,rfl⟩,Ok.refl w3⟩
end Go.Proofs.YtoabjjimjldcfaaGreatDoor
end
section
namespace Go.Ab
open Go
theorem Hg (k i j:Nat):Addr.add ⟨k,i,none⟩ j=⟨k,i+j,none⟩:=by simp [Addr.add]
theorem zD {P:Program}{t e:TypeId}{sz:Nat}(hU:P.underlying t=some (.slice e))(hs:an P e=some sz){k off n c:Nat}{ik:IntKind}{i:Int}(h0:0<=i)(h1:i < n):ag P t (.slice (some ⟨k,off,none⟩) n c) (.int ik i)=some (.pointer (some ⟨k,off+i.toNat*sz,none⟩)):=by
 unfold ag;rw [hU]; dsimp only;rw [hs]; dsimp only;rw [if_pos ⟨h0,h1⟩,Hg]
theorem cH {P:Program}{t:TypeId}{d:TypeDesc}(hU:P.underlying t=some d)(ha:isAgg P t=false){h:Heap}{k i:Nat}{cs:List Value}{e:TypeId}{sz:Nat}{wr:Bool}(hg:h.get k=some (.cells cs e sz wr))(hi:i < cs.length):ah P t h (.pointer (some ⟨k,i,none⟩))=some (cs.getD i undef):=by
 unfold ah;rw [hU]; dsimp only;rw [hg]; dsimp only;rw [ha];simp only [Bool.false_eq_true,if_false];rw [gD,gE hi]; rfl
theorem fJ {P:Program}{t:TypeId}{d:TypeDesc}{sz:Nat}(hU:P.underlying t=some d)(ha:isAgg P t=true)(hs:an P t=some sz){h:Heap}{k i:Nat}{cs:List Value}{e:TypeId}{z:Nat}{wr:Bool}(hg:h.get k=some (.cells cs e z wr))(hi:i+sz<=cs.length):ah P t h (.pointer (some ⟨k,i,none⟩))=some (.agg ⟨(cs.drop i).take sz⟩):=by
 unfold ah;rw [hU]; dsimp only;rw [hg]; dsimp only;rw [ha];simp only [if_true];rw [hs]; dsimp only;rw [if_pos (by rw [List.length_take,List.length_drop]; omega)]
theorem fB {P:Program}{t:TypeId}(hs:an P t=some 1){h:Heap}{k i:Nat}{cs:List Value}{e:TypeId}{sz:Nat}(hg:h.get k=some (.cells cs e sz true))(hi:i < cs.length){v:Value}(hv:bw v=true)(hc:v.cells = #[v]):ai P t (.pointer (some ⟨k,i,none⟩)) v h=some (undef,.set k (.cells (cs.set i v) e sz true)):=by
 unfold ai;dsimp only;rw [hc,if_pos (show an P t=some (#[v]:Array Value).size from hs)];unfold storeAt;rw [hg]; dsimp only;rw [if_pos ⟨by simp; omega,by simp [hv]⟩];have e0:cs.take i++[v]++cs.drop (i+1)=cs.set i v:=by
  rw [List.set_eq_take_append_cons_drop,if_pos hi,List.append_assoc]; rfl
 show some (undef,Upd.set k (.cells (cs.take i++[v]++cs.drop (i+1)) e sz true))=_;rw [e0]
structure IRow (hb:Heap)(kt:Nat)(e:TypeId)(vs:List Value)(g:Heap):Prop where
 row:g.get kt=some (.cells vs e 1 true)
 new:hb.next<=kt
 ok:Ok hb g
theorem IRow.lt {hb:Heap}{kt:Nat}{e:TypeId}{vs:List Value}{g:Heap}(m:IRow hb kt e vs g):kt < g.next:=m.ok.wf _ _ m.row
theorem IRow.rd {hb:Heap}{kt:Nat}{e:TypeId}{vs:List Value}{g:Heap}(m:IRow hb kt e vs g)(c:Nat):Rd g e (.slice (some ⟨kt,0,none⟩) vs.length c) vs:= .inr ⟨kt,0,vs,c,true,rfl,m.row,by simp⟩
theorem IRow.trans {hb:Heap}{kt:Nat}{e:TypeId}{vs:List Value}{g g':Heap}(m:IRow hb kt e vs g)(o:Ok g g'):IRow hb kt e vs g':=⟨o.ext _ _ m.row,m.new,m.ok.trans o⟩
theorem IRow.set {hb:Heap}(w:Wf hb){kt:Nat}{e:TypeId}{vs:List Value}{g:Heap}(m:IRow hb kt e vs g)(j:Nat)(v:Value):IRow hb kt e (vs.set j v) ((Upd.set kt (.cells (vs.set j v) e 1 true)).app g):=by
 refine ⟨?_,m.new,m.ok.set _ m.new m.lt w⟩;show (g.set kt _).get kt=_;rw [Heap.get_set,if_pos rfl]
theorem mO (z:Value)(n:Nat):be [z] n=List.replicate n z:=by
 induction n with
 | zero=>rfl
 | succ n ih=>rw [be,ih,List.replicate_succ]; rfl
theorem zu {α:Type}(f:α->Value)(L:List α)(j:Nat)(d:α):(L.map f).set j (f d)=(L.set j d).map f:=by rw [List.map_set]
end Go.Ab
end
section
set_option linter.defProp false
set_option linter.unusedVariables false
set_option maxRecDepth 100000
namespace Go.Proofs.YtoabjjimjldcfaaGreatDoor
open Go Go.Ab
noncomputable def ti3:TypeInfo:=(SS.P.info? 3).getD default
theorem ON:SS.P.info? 3=some ti3:=by kernel_rfl
theorem Kz:ti3.size=1:=by kernel_rfl
theorem Hu:ti3.bytes=8:=by kernel_rfl
theorem Pq:cF SS.P 3=some (iv 0):=by kernel_rfl
theorem M5 (n:Nat)(hn:n<=100000):aP SS.P 48 (.int .i64 (n:Int)) (.int .i64 (n:Int))=some (.cells ((List.replicate n 0).map iv) 3 1 true,gU n n):=by
 unfold aP aT;dsimp only;rw [gP]
 try dsimp only
 change (match SS.P.info? 3,cF SS.P 3 with
  | some i,some z=>(if z.cells.size=i.size/\0 < i.size/\(0:Int)<=(n:Int)/\(n:Int)<=(n:Int)/\(n:Int)*i.bytes<=140737488355328/\(n:Int)<=1099511627776 then some (Blk.cells (be z.cells.toList (n:Int).toNat) 3 i.size true,fun k=>Value.slice (some ⟨k,0,none⟩) (n:Int).toNat (n:Int).toNat) else none)
  | _,_=>none)=_
 rw [ON,Pq];dsimp only;rw [Kz,Hu,if_pos ⟨rfl,by omega,by omega,Int.le_refl _,by omega,by omega⟩];have e:((n:Int)).toNat=n:=by omega
 rw [e,show (iv 0).cells.toList=[iv 0] from rfl,mO,List.map_replicate]; rfl
theorem P2 {k off n c:Nat}{i:Int}(h0:0<=i)(h1:i < n):ag SS.P 48 (.slice (some ⟨k,off,none⟩) n c) (.int .i64 i)=some (.pointer (some ⟨k,off+i.toNat*1,none⟩)):=zD gP tF h0 h1
theorem Ry {h:Heap}{a:Option Addr}{n c:Nat}{l:List Nat}(r:Rd h 3 (.slice a n c) (l.map iv)){i:Int}(h0:0<=i)(h1:i < l.length): ∃ p:Addr,ag SS.P 48 (.slice a n c) (.int .i64 i)=some (.pointer (some p))/\ah SS.P 3 h (.pointer (some p))=some (.int .i64 (l.getD i.toNat 0:Nat)):=by
 obtain ⟨p,h2,h3⟩:=r.at_ gP tF CU BW (k:= .i64) (i:=i) h0 (by rw [lM]; omega);rw [mW l i.toNat (by omega)] at h3;exact ⟨p,h2,h3⟩
theorem gz (n:Int):dY 4 (.int .i64 n) (.int .i64 n)=true:=by simp [dY]
structure RP (hb:Heap)(kt N:Nat)(L:List Nat)(g:Heap):Prop where
 len:L.length=N
 lt: ∀ d∈L,d < 10
 row:IRow hb kt 3 (L.map iv) g
theorem RP.get {hb:Heap}{kt N c:Nat}{L:List Nat}{g:Heap}(m:RP hb kt N L g){jn:Nat}(hl:jn < N):ag SS.P 48 (.slice (some ⟨kt,0,none⟩) N c) (.int .i64 (jn:Int))=some (.pointer (some ⟨kt,0+(jn:Int).toNat*1,none⟩))/\ah SS.P 3 g (.pointer (some ⟨kt,0+(jn:Int).toNat*1,none⟩))=some (.int .i64 (L.getD jn 0:Nat))/\
  ∀ d:Nat,d < 10->Wf hb-> ∃ u:Upd,ai SS.P 3 (.pointer (some ⟨kt,0+(jn:Int).toNat*1,none⟩)) (.int .i64 (d:Int)) g=some (undef,u)/\RP hb kt N (L.set jn d) (u.app g):=by
 have e:0+(jn:Int).toNat*1=jn:=by omega
 refine ⟨P2 (by omega) (by omega),?_,?_⟩
 ·rw [e,cH CU BW m.row.row (by rw [lM,m.len]; exact hl),mW L jn (by rw [m.len]; exact hl)]
 ·intro d hd w;rw [e];refine ⟨_,fB tF m.row.row (by rw [lM,m.len]; exact hl) rfl rfl,by rw [List.length_set]; exact m.len,fun e he=> ?_,?_⟩
  ·rcases List.mem_or_eq_of_mem_set he with h | h
   ·exact m.lt e h
   ·rw [h]; exact hd
  ·have:=m.row.set w jn (.int .i64 (d:Int));rw [show (Value.int .i64 (d:Int))=iv d from rfl,zu iv L jn d] at this;rw [show (Value.int .i64 (d:Int))=iv d from rfl,zu iv L jn d];exact this
def NC (hb:Heap)(kt N n:Nat)(x y:List Nat)(mz i:Nat)(g:Heap):Prop:=i<=n/\mz=n - i/\ ∃ L,RP hb kt N L g/\Num.bv 10 L=Num.bv 10 (x.take i)*Num.bv 10 y
def QA (hb:Heap)(kt N k:Nat)(x y:List Nat)(i mz j:Nat)(cy:Int)(g:Heap):Prop:=j<=k+1/\mz=k+1 - j/\ ∃ (L:List Nat)(cn:Nat),cy=(cn:Int)/\cn < 10/\RP hb kt N L g/\Num.bv 10 L+cn*10 ^ (i+j)=Num.bv 10 (x.take i)*Num.bv 10 y+x.getD i 0*Num.bv 10 (y.take j)*10 ^ i
def Lb {hb:Heap}(w:Wf hb){a:Option Addr}{n c:Nat}{b:Option Addr}{k d:Nat}{kt N tc:Nat}{x y:List Nat}(ra:Rd hb 3 (.slice a n c) (x.map iv))(rb:Rd hb 3 (.slice b k d) (y.map iv))(hx: ∀ d∈x,d < 10)(hy: ∀ d∈y,d < 10){i:Nat}(hi:i < n)(hn:n=x.length)(hk:k=y.length)(hN:N=n+k+1)(hN2:N<=10000)(l m:List UInt8)(Q:VH)(mz:Nat)(hmz:mz=n - i):=
 qo l m a n c b k d (some ⟨kt,0,none⟩) N tc (NC hb kt N n x y) mz i (QA hb kt N k x y i) Q (by
  intro mz2 j cy; intros; rename_i g hin;obtain ⟨h1,h2,L,cn,rfl,h3,mr,h4⟩:=hin;have e1:wrap .i64 ((i:Int)+(j:Int))=((i+j:Nat):Int):=by rw [am (by omega) (by omega)]; omega
  have e2:wrap .i64 ((j:Int)+1)=((j+1:Nat):Int):=by rw [am (by omega) (by omega)]; omega
  have e3:wrap .i64 ((i:Int)+1)=((i+1:Nat):Int):=by rw [am (by omega) (by omega)]; omega
  rw [e1,e2,e3];refine ae (fun h5=> ?_) (fun h5=> ?_)
  ·have h5:=dT h5;have mr1:RP hb kt N L (Go.Ab.room g 18):=⟨mr.len,mr.lt,⟨mr.row.row,mr.row.new,mr.row.ok.room 18⟩⟩
   obtain ⟨g1,g2,g3⟩:=mr1.get (c:=tc) (jn:=i+j) (by omega);obtain ⟨p2,f1,f2⟩:=Ry (ra.ok mr1.row.ok) (i:=(i:Int)) (by omega) (by omega);rw [toNat_natCast] at f2;refine ⟨_,g1,_,g2,p2,f1,_,f2,(mQ (rb.ok mr1.row.ok) j).mono ?_⟩;rintro _ _ ⟨rfl,rfl⟩;refine ⟨_,rfl,⟨g2,gz _⟩,⟨f2,gz _⟩,?_⟩;have hxi:=Num.getD_lt (b:=10) (by decide) hx i;have hyj:=Num.getD_lt (b:=10) (by decide) hy j;have hLj:=Num.getD_lt (b:=10) (by decide) mr.lt (i+j);obtain ⟨q,hq⟩: ∃ q,q=x.getD i 0*y.getD j 0:=⟨_,rfl⟩
   have hq2:q<=81:=by rw [hq]; exact le_trans (Nat.mul_le_mul (Nat.le_of_lt_succ hxi) (Nat.le_of_lt_succ hyj)) (by decide)
   have ms:=Num.mul_step (B:=10) (by decide) (L:=L) (y:=y) (i:=i) (k:=j) (cy:=cn) (xi:=x.getD i 0) (P:=Num.bv 10 (x.take i)*Num.bv 10 y) (p:=L.getD (i+j) 0+cn+q) mr.lt (by rw [mr.len]; omega) h3 hxi hyj (by rw [hq]) h4;have e4:wrap .i64 (((x.getD i 0:Nat):Int)*((y.getD j 0:Nat):Int))=(q:Int):=by rw [<-Int.natCast_mul,<-hq]; exact am (by omega) (by omega)
   rw [e4];have e5:wrap .i64 (((L.getD (i+j) 0:Nat):Int)+(q:Int))=((L.getD (i+j) 0+q:Nat):Int):=by rw [am (by omega) (by omega)]; omega
   rw [e5];have e6:wrap .i64 (((L.getD (i+j) 0+q:Nat):Int)+(cn:Int))=((L.getD (i+j) 0+cn+q:Nat):Int):=by rw [am (by omega) (by omega)]; omega
   rw [e6];generalize L.getD (i+j) 0+cn+q=pp at *;obtain ⟨u,g6,g7⟩:=g3 (pp % 10) (mod_lt _ (by decide)) w;refine ⟨_,Kj,_,g1,u,g6,_,Iv (by omega),gO (mz2 - 1) (by omega) ⟨by omega,by omega,_,_,rfl,ms.2.1,g7,ms.2.2⟩⟩
  ·have h5:=dF h5;obtain rfl:j=k+1:=by omega
   refine bp (n - (i+1)) (by omega) ⟨by omega,rfl,L,mr,?_⟩;exact Num.mul_end (by decide) hx hy (by omega) mr.lt (by rw [<-hk]; exact h4))
theorem Gd (a b:List UInt8){h:Heap}(w:Wf h):FW SS 132 [aa a,aa b] h (fun v h'=>v=tU a b/\Ok h h'):=by
 refine Ii a b h _ ((bL a h).mono ?_);rintro _ g0 ⟨rfl,e0⟩;obtain rfl:h=g0:=e0.symm;refine ⟨_,rfl,ae (fun g=> ?_) (fun g=> ?_)⟩
 ·have g:Num.valid a=false:=by simpa using g
  refine ⟨?_,Ok.refl w⟩;unfold tU; rw [if_neg (fun e=>by rw [e.1] at g; cases g)]; rfl
 have g:Num.valid a=true:=by simpa using g
 refine (bL b h).mono ?_;rintro _ g0 ⟨rfl,e0⟩;obtain rfl:h=g0:=e0.symm;refine ⟨_,rfl,ae (fun g2=> ?_) (fun g2=> ?_)⟩
 ·have g2:Num.valid b=false:=by simpa using g2
  refine ⟨?_,Ok.refl w⟩;unfold tU; rw [if_neg (fun e=>by rw [e.2] at g2; cases g2)]; rfl
 have g2:Num.valid b=true:=by simpa using g2
 have hS:tU a b=jx (Num.val a*Num.val b):=by unfold tU; rw [if_pos ⟨g,g2⟩]
 rw [hS];refine (kL g w).mono ?_;rintro _ h2 ⟨a2,n2,c2,rfl,o2,ok2⟩;refine ⟨_,_,_,rfl,(kL g2 ok2.wf).mono ?_⟩;rintro _ h3 ⟨a3,n3,c3,rfl,o3,ok3⟩;refine ⟨_,_,_,rfl,?_⟩;have r1:=o2.rd.ok ok3;have r2:=o3.rd;have ok:=ok2.trans ok3;have w3:=ok3.wf;have hn1:n2=(Num.digs a).length:=by have:=r1.len; rwa [lM] at this
 have hn2:n3=(Num.digs b).length:=by have:=r2.len; rwa [lM] at this
 have l1:=jk g;have l2:=jk g2;have hx:=fM g;have hy:=fM g2;have bX:=Num.bv_digs a;have bY:=Num.bv_digs b;generalize Num.digs a=x at *;generalize Num.digs b=y at *;generalize Num.val a=X at *;generalize Num.val b=Y at *;have e1:wrap .i64 (wrap .i64 ((n2:Int)+(n3:Int))+1)=((n2+n3+1:Nat):Int):=by
  rw [am (n:=(n2:Int)+(n3:Int)) (by omega) (by omega),am (by omega) (by omega)]; omega
 dsimp only;rw [e1];refine ⟨_,_,_,M5 _ (by omega),?_⟩;have m0:RP h3 h3.next (n2+n3+1) (List.replicate (n2+n3+1) 0) (h3.push (.cells ((List.replicate (n2+n3+1) 0).map iv) 3 1 true)):=by
  refine ⟨length_replicate,fun d hd=>by rw [(List.mem_replicate.1 hd).2]; decide,?_,le_refl _,(Ok.refl w3).push _⟩;rw [Heap.get_push,if_pos rfl]
 refine rx a b a2 n2 c2 a3 n3 c3 (some ⟨h3.next,0,none⟩) (n2+n3+1) (n2+n3+1) (NC h3 h3.next (n2+n3+1) n2 x y) (fun v h'=>v=jx (X*Y)/\Ok h h') (fun mz i=> ?_) n2 (i:=0) ⟨by omega,by omega,_,m0,by rw [Num.bv_replicate,take_zero]; simp [Num.bv]⟩;intros; rename_i gg hi;obtain ⟨f1,f2,L,mr,f3⟩:=hi;refine ae (fun h5=> ?_) (fun h5=> ?_)
 ·have h5:=dT h5;exact Lb w3 r1 r2 hx hy (i:=i) (by omega) hn1 hn2 rfl (by omega) a b _ mz f2 (n3+1) (j:=0) (cy:=0) ⟨by omega,by omega,L,0,rfl,by decide,mr,by rw [f3,take_zero]; simp [Num.bv]⟩
 ·have h5:=dF h5;obtain rfl:n2=i:=by omega
  rw [take_of_length_le (by omega),bX,bY] at f3;have hr:=mr.row.rd (n2+n3+1);rw [lM,mr.len] at hr;refine (lA hr mr.lt (by rw [mr.len]; omega) mr.row.ok.wf).mono ?_;rintro _ h6 ⟨rfl,ok6⟩;refine ⟨_,rfl,?_⟩;rw [f3];refine (pc _ h6).mono ?_;rintro _ _ ⟨rfl,rfl⟩;exact uk (K:=fun v=>v=jx (X*Y)/\Ok h _) (rO _) ⟨rfl,(ok.trans mr.row.ok).trans ok6⟩
end Go.Proofs.YtoabjjimjldcfaaGreatDoor
end
section
set_option linter.unusedVariables false
set_option maxRecDepth 100000
namespace Go.Proofs.YtoabjjimjldcfaaGreatDoor
open Go Go.Ab
theorem rC (l:List UInt8)(h:Heap):FW SS 127 [aa l] h (fun v h'=>v = .bool (decide (l.length<=400) && Num.valid l)/\h'=h):=by
 refine Az l h _ (ae (fun g=> ?_) (fun g=> ?_))
 ·have g:=dT g;refine (bL l h).mono ?_;rintro _ g0 ⟨rfl,e0⟩;refine ⟨_,rfl,?_,e0⟩;rw [decide_eq_true (show l.length<=400 by omega),Bool.true_and]
 ·have g:=dF g;refine ⟨?_,rfl⟩;rw [decide_eq_false (show ¬ l.length<=400 by omega),Bool.false_and]
def Mw (n d:List UInt8)(neg stroke:Bool):Prop:=(Num.valid n=true/\n.length<=400)/\(Num.valid d=true/\d.length<=400)/\d≠[48]/\ ¬ (n=[48]/\(neg=true\/stroke=true))/\ ¬ (d=[49]/\stroke=true)/\(Nat.gcd (Num.val n) (Num.val d)=1\/d=[49])
def lg:Value:= .tuple ⟨[.bool false,aa [],aa [],.bool false]⟩
def hG (neg:Bool)(n d:List UInt8):Value:= .tuple ⟨[.bool neg,aa n,aa d,.bool true]⟩
def jM (h:Heap)(C:Prop)(G B:Value):VH:=fun v h'=>Ok h h'/\(C->v=G)/\(¬ C->v=B)
theorem fh {h h':Heap}{C:Prop}{G B:Value}(o:Ok h h')(hc: ¬ C):jM h C G B B h':=⟨o,fun c=>absurd c hc,fun _=>rfl⟩
theorem pF {h h':Heap}{C:Prop}{G B:Value}(o:Ok h h')(hc:C):jM h C G B G h':=⟨o,fun _=>rfl,fun c=>absurd hc c⟩
theorem xQ {n:List UInt8}(g:(decide (n.length<=400) && Num.valid n)=true):Num.valid n=true/\n.length<=400:=by
 rw [and_eq_true,decide_eq_true_eq] at g; exact ⟨g.2,g.1⟩
theorem BY {n d:List UInt8}(hn:Num.valid n=true)(hd:Num.valid d=true):tL n d=wJ (Num.toDec (Nat.gcd (Num.val n) (Num.val d))) 0:=by unfold tL; rw [if_pos ⟨hn,hd⟩]
theorem kW (n d:List UInt8)(neg:Bool)(st:Int)(stroke:Bool)(hst:stroke=decide (st>=0)){h:Heap}(w:Wf h){x0 x1 x2 x3 x4 x5 x10 x11 x12 x13 x14 x15 x16 x17 x18 x19 x20 x21 x22 x23 x24 x25 x26 x27 x28 x29 x30 x31 x32 x33 x34 x35 x36 x37 x38 x39 x40 x41 x42 x43 x44 x45 x46 x47 x48 x49 x50 x51 x52 x53 x54 x55 x56 x57 x58 x59 x60 x61 x62 x63 x64 x65 x66 x67 x68 x69 x70 x71 x72 x73 x74 x75 x76 x77 x78 x79 x80:Value}:
  TT SS ref3Parts_F [1,1,1,1,1,1] [x0,x1,x2,x3,x4,x5,aa n,aa d,.bool neg,.int .i64 st,x10,x11,x12,x13,x14,x15,x16,x17,x18,x19,x20,x21,x22,x23,x24,x25,x26,x27,x28,x29,x30,x31,x32,x33,x34,x35,x36,x37,x38,x39,x40,x41,x42,x43,x44,x45,x46,x47,x48,x49,x50,x51,x52,x53,x54,x55,x56,x57,x58,x59,x60,x61,x62,x63,x64,x65,x66,x67,x68,x69,x70,x71,x72,x73,x74,x75,x76,x77,x78,x79,x80] h (EE SS ref3Parts_F (jM h (Mw n d neg stroke) (hG neg n d) lg)):=by
 refine ud ((rC n h).mono ?_);rintro _ g0 ⟨rfl,e0⟩;obtain rfl:h=g0:=e0.symm;refine ⟨_,rfl,ae (fun g=>fh (Ok.refl w) fun c=> ?_) (fun g=> ?_)⟩
 ·obtain ⟨⟨c1,c2⟩,_⟩:=c;rw [c1,decide_eq_true c2] at g; cases g
 have hn:=xQ (n:=n) (by simpa using g);refine (rC d h).mono ?_;rintro _ g0 ⟨rfl,e0⟩;obtain rfl:h=g0:=e0.symm;refine ⟨_,rfl,ae (fun g=>fh (Ok.refl w) fun c=> ?_) (fun g=> ?_)⟩
 ·obtain ⟨_,⟨c1,c2⟩,_⟩:=c;rw [c1,decide_eq_true c2] at g; cases g
 have hd:=xQ (n:=d) (by simpa using g);have fin:d≠[48]-> ¬ (n=[48]/\(neg=true\/stroke=true))-> ¬ (d=[49]/\stroke=true)-> ∀ {x0 x1 x2 x3 x4 x5 x10 x11 x12 x13 x14 x15 x16 x17 x18 x19 x20 x21 x22 x23 x24 x25 x26 x27 x28 x29 x30 x31 x32 x33 x34 x35 x36 x37 x38 x39 x40 x41 x42 x43 x44 x45 x46 x47 x48 x49 x50 x51 x52 x53 x54 x55 x56 x57 x58 x59 x60 x61 x62 x63 x64 x65 x66 x67 x68 x69 x70 x71 x72 x73 x74 x75 x76 x77 x78 x79 x80:Value},
   TT SS ref3Parts_F [1,1,1,1,1,1,1] [x0,x1,x2,x3,x4,x5,aa n,aa d,.bool neg,.int .i64 st,x10,x11,x12,x13,x14,x15,x16,x17,x18,x19,x20,x21,x22,x23,x24,x25,x26,x27,x28,x29,x30,x31,x32,x33,x34,x35,x36,x37,x38,x39,x40,x41,x42,x43,x44,x45,x46,x47,x48,x49,x50,x51,x52,x53,x54,x55,x56,x57,x58,x59,x60,x61,x62,x63,x64,x65,x66,x67,x68,x69,x70,x71,x72,x73,x74,x75,x76,x77,x78,x79,x80] h (EE SS ref3Parts_F (jM h (Mw n d neg stroke) (hG neg n d) lg)):=by
  intro c3 c4 c5;intros;refine tW ((GT n d h w).mono ?_);rintro _ h1 ⟨rfl,o1⟩;rw [BY hn.1 hd.1];refine ⟨_,_,rfl,?_⟩;have e1:Num.toDec (Nat.gcd (Num.val n) (Num.val d))=[49]↔Nat.gcd (Num.val n) (Num.val d)=1:=Num.toDec_eq_one;refine ae (fun g1=>ae (fun g2=>fh o1 fun c=> ?_) (fun g2=>pF o1 ?_)) (fun g1=>pF o1 ?_)
  ·have g1: ¬ Num.toDec (Nat.gcd (Num.val n) (Num.val d))=[49]:=by simpa using g1
   have g2: ¬ d=[49]:=by simpa using g2
   rcases c.2.2.2.2.2 with c | c
   ·exact g1 (e1.2 c)
   ·exact g2 c
  ·have g2:d=[49]:=by simpa using g2
   exact ⟨hn,hd,c3,c4,c5,.inr g2⟩
  ·have g1:Num.toDec (Nat.gcd (Num.val n) (Num.val d))=[49]:=by simpa using g1
   exact ⟨hn,hd,c3,c4,c5,.inl (e1.1 g1)⟩
 refine ae (fun g1=>fh (Ok.refl w) fun c=> ?_) (fun g1=> ?_)
 ·exact c.2.2.1 (by simpa using g1)
 have g1:d≠[48]:=by simpa using g1
 have k49: ∀ {x:Bool},(x=true->st>=0)->True:=fun _=>trivial;have nst:decide (st>=0)=false-> ¬ stroke=true:=fun e f=>by rw [hst] at f; rw [f] at e; cases e
 have yst:decide (st>=0)=true->stroke=true:=fun e=>by rw [hst,e]
 refine ae (fun g2=> ?_) (fun g2=> ?_)
 ·have g2:n=[48]:=by simpa using g2
  refine ae (fun g3=>fh (Ok.refl w) fun c=>c.2.2.2.1 ⟨g2,.inl g3⟩) (fun g3=> ?_);have g3: ¬ neg=true:=by rw [g3]; simp
  refine ae (fun g4=>fh (Ok.refl w) fun c=>c.2.2.2.1 ⟨g2,.inr (yst g4)⟩) (fun g4=> ?_);have f4: ¬ (n=[48]/\(neg=true\/stroke=true)):=fun c=>c.2.elim g3 (nst g4);refine ae (fun g5=> ?_) (fun g5=> ?_)
  ·refine ae (fun g6=>fh (Ok.refl w) fun c=>c.2.2.2.2.1 ⟨by simpa using g5,yst g6⟩) (fun g6=> ?_);exact fin g1 f4 (fun c=>nst g6 c.2)
  ·exact fin g1 f4 (fun c=>(by
    have: ¬ d=[49]:=by simpa using g5
    exact this c.1))
 ·have f4: ¬ (n=[48]/\(neg=true\/stroke=true)):=fun c=>by
   have: ¬ n=[48]:=by simpa using g2
   exact this c.1
  refine ae (fun g5=> ?_) (fun g5=> ?_)
  ·refine ae (fun g6=>fh (Ok.refl w) fun c=>c.2.2.2.2.1 ⟨by simpa using g5,yst g6⟩) (fun g6=> ?_);exact fin g1 f4 (fun c=>nst g6 c.2)
  ·exact fin g1 f4 (fun c=>(by
    have: ¬ d=[49]:=by simpa using g5
    exact this c.1))
def gx (l:List UInt8):Value:=if Num.isRat l=true then hG (Num.isNeg l) (Num.numOf l) (Num.denOf l) else lg
theorem Ay {h:Heap}{l:List UInt8}{v:Value}{h':Heap}(q:jM h (Mw (Num.numOf l) (Num.denOf l) (Num.isNeg l) (Num.hasStroke l)) (hG (Num.isNeg l) (Num.numOf l) (Num.denOf l)) lg v h'):v=gx l/\Ok h h':=by
 obtain ⟨o,q1,q2⟩:=q;refine ⟨?_,o⟩;unfold gx;by_cases g:Num.isRat l=true
 ·rw [if_pos g]; exact q1 (Num.isRat_ref.1 (Num.isRat_iff.1 g))
 ·rw [if_neg g]; exact q2 fun c=>g (Num.isRat_iff.2 (Num.isRat_ref.2 c))
theorem i7 (l:List UInt8)(hl:l.length<=1000000000){h:Heap}(w:Wf h):FW SS 104 [aa l] h (fun v h'=>v=gx l/\Ok h h'):=by
 refine FW.mono (Q:=jM h (Mw (Num.numOf l) (Num.denOf l) (Num.isNeg l) (Num.hasStroke l)) (hG (Num.isNeg l) (Num.numOf l) (Num.denOf l)) lg) ?_ (fun _ _ q=>Ay q);have hs: ∀ m:List UInt8,m.length<=1000000000-> ∀ (K:VH),(∀ (n5:Int),n5=xn m->(if n5>=0 then ∃ i:Nat,n5=(i:Int)/\wrap .i64 (n5+1)=((i+1:Nat):Int)/\i=Num.idxB 47 m/\i < m.length else ¬ Num.idxB 47 m < m.length)  ->K (.int .i64 n5) h)->FW SS 126 [aa m,.int .u8 47] h K:=by
  intro m hm K hK;refine (Av m hm h).mono ?_;rintro _ g0 ⟨rfl,e0⟩;obtain rfl:h=g0:=e0.symm;refine hK _ rfl ?_;unfold xn;by_cases g:Num.idxB 47 m < m.length
  ·rw [if_pos g,if_pos (by omega)];exact ⟨_,rfl,by rw [am (by omega) (by omega)]; omega,rfl,g⟩
  ·rw [if_neg g,if_neg (by omega)]; exact g
 have body: ∀ (m:List UInt8),m=Num.afterNeg l->m.length<=1000000000-> ∀ (n5:Int),(if n5>=0 then ∃ i:Nat,n5=(i:Int)/\wrap .i64 (n5+1)=((i+1:Nat):Int)/\i=Num.idxB 47 m/\i < m.length else ¬ Num.idxB 47 m < m.length)->
   (decide (n5>=0)=true->Num.hasStroke l=true/\aH SS.P 9 (aa m) (some (.int .i64 (wrap .i64 (n5+1)))) none none h=some (aa (Num.denOf l))/\aH SS.P 9 (aa m) none (some (.int .i64 n5)) none h=some (aa (Num.numOf l)))/\
   (decide (n5>=0)=false->Num.hasStroke l=false/\m=Num.numOf l/\Num.denOf l=[49]):=by
  intro m em hm n5 hi;refine ⟨fun g=> ?_,fun g=> ?_⟩
  ·rw [if_pos (dT g)] at hi;obtain ⟨i,rfl,e1,rfl,h2⟩:=hi;have hst:Num.hasStroke l=true:=by unfold Num.hasStroke; rw [<-em]; exact decide_eq_true h2
   refine ⟨hst,?_,?_⟩
   ·rw [e1,nH m h h2]; unfold Num.denOf; rw [if_pos hst,em]
   ·rw [AD m h (le_of_lt h2)]; unfold Num.numOf; rw [em]
  ·rw [if_neg (dF g)] at hi;have hst:Num.hasStroke l=false:=by unfold Num.hasStroke; rw [<-em]; exact decide_eq_false hi
   refine ⟨hst,?_,?_⟩
   ·unfold Num.numOf; rw [<-em,take_of_length_le (by omega)]
   ·unfold Num.denOf; rw [hst]; rfl
 have cont: ∀ (m:List UInt8),m=Num.afterNeg l->m.length<=1000000000:=fun m em=>by
  rw [em]; unfold Num.afterNeg; split
  ·rw [List.length_drop]; omega
  ·exact hl
 refine y6 l h _ (ae (fun g=> ?_) (fun g=> ?_))
 ·have g:=dT g
  cases l with
  | nil=>simp at g
  | cons c l'=>
   have e:aQ SS.P 9 (aa (c::l')) (.int .i64 0)=some (.int .u8 ((c.toNat:Nat):Int)):=by
    have:=jh Ir (c::l') .i64 (i:=0) (by omega) g;simpa using this
   refine ⟨_,e,ae (fun g2=> ?_) (fun g2=> ?_)⟩
   ·have g2:c=45:=by
     have:((c.toNat:Nat):Int)=45:=by simpa using g2
     rw [<-UInt8.toNat_inj]; show c.toNat=45; omega
    have hneg:Num.isNeg (c::l')=true:=by unfold Num.isNeg; rw [g2]; rfl
    have em:l'=Num.afterNeg (c::l'):=by unfold Num.afterNeg; rw [if_pos hneg]; rfl
    have hs1:aH SS.P 9 (aa (c::l')) (some (.int .i64 1)) none none h=some (aa l'):=nH (c::l') h (a:=1) (by simp);refine ⟨_,hs1,hs l' (cont _ em) _ (fun n5 h5 hi=>⟨n5,rfl,?_⟩)⟩;obtain ⟨b1,b2⟩:=body l' em (cont _ em) n5 hi;have e2:(((c.toNat:Nat):Int) == 45)=true:=g2 ▸ rfl;rw [hneg,e2];refine ae (fun g=> ?_) (fun g=> ?_)
    ·obtain ⟨s1,s2,s3⟩:=b1 g;exact ⟨_,s2,_,s3,kW _ _ true n5 _ (by rw [s1,g]) w⟩
    ·obtain ⟨s1,s2,s3⟩:=b2 g;rw [s3,<-s2];exact kW _ _ true n5 _ (by rw [s1,g]) w
   ·have g2: ¬ c=45:=fun e=>by rw [e] at g2; cases g2
    have hneg:Num.isNeg (c::l')=false:=by
     unfold Num.isNeg;simp [g2]
    have em:c::l'=Num.afterNeg (c::l'):=by unfold Num.afterNeg; rw [hneg]; rfl
    have e2:(((c.toNat:Nat):Int) == 45)=false:=by
     have:((c.toNat:Nat):Int)≠45:=fun e=>g2 (by rw [<-UInt8.toNat_inj]; show c.toNat=45; omega);simpa using this
    refine hs (c::l') hl _ (fun n5 h5 hi=>⟨n5,rfl,?_⟩);obtain ⟨b1,b2⟩:=body _ em hl n5 hi;rw [hneg,e2];refine ae (fun g=> ?_) (fun g=> ?_)
    ·obtain ⟨s1,s2,s3⟩:=b1 g;exact ⟨_,s2,_,s3,kW _ _ false n5 _ (by rw [s1,g]) w⟩
    ·obtain ⟨s1,s2,s3⟩:=b2 g;rw [s3,<-s2];exact kW _ _ false n5 _ (by rw [s1,g]) w
 ·have g:=dF g;obtain rfl:l=[]:=List.eq_nil_of_length_eq_zero (by omega);have em:[]=Num.afterNeg []:=rfl;refine hs [] (by simp) _ (fun n5 h5 hi=>⟨n5,rfl,?_⟩);obtain ⟨b1,b2⟩:=body _ em (by simp) n5 hi;refine ae (fun g=> ?_) (fun g=> ?_)
  ·obtain ⟨s1,s2,s3⟩:=b1 g;exact ⟨_,s2,_,s3,kW _ _ false n5 _ (by rw [s1,g]) w⟩
  ·obtain ⟨s1,s2,s3⟩:=b2 g;rw [s3,<-s2];exact kW _ _ false n5 _ (by rw [s1,g]) w
theorem xD {l:List UInt8}{K:Value->Prop}(hK:K (gx l)): ∃ (b3:Bool)(l4 l5:List UInt8)(b6:Bool),gx l=(.tuple ⟨[.bool b3,aa l4,aa l5,.bool b6]⟩)/\K (.tuple ⟨[.bool b3,aa l4,aa l5,.bool b6]⟩)/\b6=Num.isRat l:=by
 unfold gx at *
 cases g:Num.isRat l with
 | true=>rw [g] at hK; exact ⟨_,_,_,_,rfl,hK,rfl⟩
 | false=>rw [g] at hK; exact ⟨_,_,_,_,rfl,hK,rfl⟩
theorem Ap (l:List UInt8)(hl:l.length<=1000000000){h:Heap}(w:Wf h):FW SS 76 [aa l] h (fun v h'=>v = .bool (Num.isRat l)/\Ok h h'):=by
 refine zx l h _ ((i7 l hl w).mono ?_);rintro _ h1 ⟨rfl,o1⟩;obtain ⟨b3,l4,l5,b6,e,_,e6⟩:=xD (l:=l) (K:=fun _=>True) trivial;exact ⟨b3,l4,l5,b6,e,by rw [e6],o1⟩
theorem jg {X:Nat}(h:X < 10 ^ 800):Num.valid (Num.toDec X)=true:=Num.valid_toDec.2 (lt_of_lt_of_le h (Num.pow_mono10 (k:=800) (m:=1000) (by decide)))
theorem FM {X:Nat}(h:X < 10 ^ 1000):jx X=wJ (Num.toDec X) 0:=by
 unfold jx;rw [if_neg];have:=(Num.toDec_len_le (n:=X) (k:=1000) (by decide)).2 h;omega
theorem CF {A B:Nat}(hA:A < 10 ^ 800)(hB:B < 10 ^ 800):tK (Num.toDec A) (Num.toDec B)=wJ (Num.toDec (A+B)) 0:=by
 unfold tK;rw [if_pos ⟨jg hA,jg hB⟩,Num.val_toDec,Num.val_toDec];exact FM (lt_of_lt_of_le (Nat.add_lt_add hA hB) Num.pow_800)
theorem qr {A B:Nat}(hA:A < 10 ^ 800)(hB:B < 10 ^ 800)(h:B<=A):tT (Num.toDec A) (Num.toDec B)=wJ (Num.toDec (A - B)) 0:=by
 unfold tT;rw [if_pos ⟨jg hA,jg hB⟩,Num.val_toDec,Num.val_toDec,if_neg (Nat.not_lt.2 h)]
theorem By {A B:Nat}(hA:A < 10 ^ 800)(hB:B < 10 ^ 800):tN (Num.toDec A) (Num.toDec B) = .int .i64 (Num.cmpN A B):=by
 unfold tN;rw [if_pos ⟨jg hA,jg hB⟩,Num.val_toDec,Num.val_toDec]
theorem jz {a b:List UInt8}(ha:Num.valid a=true)(hb:Num.valid b=true)(la:a.length<=400)(lb:b.length<=400):tU a b=wJ (Num.toDec (Num.val a*Num.val b)) 0/\Num.val a*Num.val b < 10 ^ 800:=by
 have h:=Num.pow_400_800 (Num.valid_lt (k:=400) ha (by decide) la) (Num.valid_lt (k:=400) hb (by decide) lb);refine ⟨?_,h⟩;unfold tU;rw [if_pos ⟨ha,hb⟩];exact FM (lt_of_lt_of_le h (Num.pow_mono10 (k:=800) (m:=1000) (by decide)))
def tx (s:Bool)(A:Nat)(t:Bool)(B:Nat):Value:= .tuple ⟨[.bool (Num.plusS s A t B).1,aa (Num.toDec (Num.plusS s A t B).2)]⟩
theorem cmpN_lt0 {A B:Nat}:Num.cmpN A B < 0↔A < B:=Num.cmpN_neg
theorem Ej (s:Bool)(A:Nat)(t:Bool)(B:Nat)(hA:A < 10 ^ 800)(hB:B < 10 ^ 800){h:Heap}(w:Wf h):FW SS 105 [.bool s,aa (Num.toDec A),.bool t,aa (Num.toDec B)] h (fun v h'=>v=tx s A t B/\Ok h h'):=by
 refine ED s _ t _ h _ (ae (fun g=> ?_) (fun g=> ?_))
 ·have g:s=t:=by simpa using g
  refine (Gs _ _ w).mono ?_;rintro _ h1 ⟨rfl,o1⟩;rw [CF hA hB];refine ⟨_,_,rfl,?_,o1⟩;unfold tx Num.plusS; rw [if_pos g]
 ·have g: ¬ s=t:=by simpa using g
  refine (Gw _ _ w).mono ?_;rintro _ h1 ⟨rfl,o1⟩;rw [By hA hB];refine ⟨_,rfl,ae (fun g1=> ?_) (fun g1=> ?_)⟩
  ·have g1:=dT g1;have g2: ¬ A < B:=fun c=>by have:=cmpN_lt0.2 c; omega
   refine (yr _ _ o1.wf).mono ?_;rintro _ h2 ⟨rfl,o2⟩;rw [qr hA hB (Nat.not_lt.1 g2)];refine ⟨_,_,rfl,?_,o1.trans o2⟩;unfold tx Num.plusS; rw [if_neg g,if_neg g2]
  ·have g1:=dF g1;have g2:A < B:=cmpN_lt0.1 (by omega);refine (yr _ _ o1.wf).mono ?_;rintro _ h2 ⟨rfl,o2⟩;rw [qr hB hA (le_of_lt g2)];refine ⟨_,_,rfl,?_,o1.trans o2⟩;unfold tx Num.plusS; rw [if_neg g,if_pos g2]
theorem qN {a b:List UInt8}(ha:Num.valid a=true)(hb:Num.valid b=true)(la:a.length<=400)(lb:b.length<=400){h:Heap}(w:Wf h):FW SS 106 [aa a,aa b] h (fun v h'=>v=aa (Num.toDec (Num.val a*Num.val b))/\Ok h h'):=by
 refine Aw a b h _ ((Gd a b w).mono ?_);rintro _ h1 ⟨rfl,o1⟩;rw [(jz ha hb la lb).1];exact ⟨_,_,rfl,rfl,o1⟩
theorem EK (l m:List UInt8)(hl:l.length<=1000000000)(hm:m.length<=1000000000){h:Heap}(w:Wf h):FW SS 77 [aa l,aa m] h (fun v h'=>v = .int .i64 (Num.cmpRat l m)/\Ok h h'):=by
 refine DY l m h _ ((i7 l hl w).mono ?_);rintro _ h1 ⟨rfl,o1⟩
 cases g:Num.isRat l with
 | false=>
  have e:gx l=lg:=by unfold gx; rw [g]; rfl
  refine ⟨_,_,_,_,e,(i7 m hm o1.wf).mono ?_⟩;rintro _ h2 ⟨rfl,o2⟩;obtain ⟨b3,l4,l5,b6,e2,_,e6⟩:=xD (l:=m) (K:=fun _=>True) trivial;refine ⟨b3,l4,l5,b6,e2,?_,o1.trans o2⟩;unfold Num.cmpRat; rw [if_neg (fun c=>by rw [c.1] at g; cases g)]
 | true=>
  have e:gx l=hG (Num.isNeg l) (Num.numOf l) (Num.denOf l):=by unfold gx; rw [g]; rfl
  refine ⟨_,_,_,_,e,(i7 m hm o1.wf).mono ?_⟩;rintro _ h2 ⟨rfl,o2⟩
  cases g2:Num.isRat m with
  | false=>
   have e2:gx m=lg:=by unfold gx; rw [g2]; rfl
   refine ⟨_,_,_,_,e2,?_,o1.trans o2⟩;unfold Num.cmpRat; rw [if_neg (fun c=>by rw [c.2] at g2; cases g2)]
  | true=>
   have e2:gx m=hG (Num.isNeg m) (Num.numOf m) (Num.denOf m):=by unfold gx; rw [g2]; rfl
   have r1:=Num.isRat_iff.1 g;have r2:=Num.isRat_iff.1 g2;refine ⟨_,_,_,_,e2,(qN r1.num r2.den r1.ln r2.ld o2.wf).mono ?_⟩;rintro _ h3 ⟨rfl,o3⟩;refine ⟨_,rfl,(qN r2.num r1.den r2.ln r1.ld o3.wf).mono ?_⟩;rintro _ h4 ⟨rfl,o4⟩;refine ⟨_,rfl,(Ej _ _ _ _ (jz r1.num r2.den r1.ln r2.ld).2 (jz r2.num r1.den r2.ln r1.ld).2 o4.wf).mono ?_⟩;rintro _ h5 ⟨rfl,o5⟩;have ok:=(((o1.trans o2).trans o3).trans o4).trans o5;refine ⟨_,_,rfl,?_⟩;unfold Num.cmpRat;rw [if_pos ⟨g,g2⟩];generalize Num.plusS _ _ _ _=z;refine ae (fun g3=>⟨?_,ok⟩) (fun g3=> ?_)
   ·have g3:Num.toDec z.2=[48]:=by simpa using g3
    rw [if_pos (Num.toDec_eq_zero.1 g3)]
   ·have g3: ¬ Num.toDec z.2=[48]:=by simpa using g3
    rw [if_neg (fun c=>g3 (Num.toDec_eq_zero.2 c))];refine ae (fun g4=>⟨?_,ok⟩) (fun g4=>⟨?_,ok⟩)
    ·rw [if_pos g4]
    ·rw [if_neg (by rw [g4]; simp)]
end Go.Proofs.YtoabjjimjldcfaaGreatDoor
end
section
set_option linter.defProp false
set_option linter.unusedVariables false
set_option maxRecDepth 100000
namespace Go.Proofs.YtoabjjimjldcfaaGreatDoor
open Go Go.Ab
structure MR (hb:Heap)(kt N:Nat)(L:List Nat)(g:Heap):Prop where
 len:L.length=N
 lt: ∀ d∈L,d < BB
 row:g.get kt=some (.cells (bh ((List.replicate N 0).map uv) 0 L) 103 1 true)
 ok:Ok hb g
theorem MR.room {hb:Heap}{kt N:Nat}{L:List Nat}{g:Heap}(m:MR hb kt N L g)(r:Nat):MR hb kt N L (Go.Ab.room g r):=⟨m.len,m.lt,m.row,m.ok.room r⟩
theorem MR.get {hb:Heap}{kt N c:Nat}{L:List Nat}{g:Heap}(m:MR hb kt N L g){j:Int}{jn:Nat}(hj:j=(jn:Int))(hl:jn < N): ∃ p:Addr,ag SS.P 136 (.slice (some ⟨kt,0,none⟩) N c) (.int .i64 j)=some (.pointer (some p))/\ah SS.P 103 g (.pointer (some p))=some (.int .u64 (L.getD jn 0:Nat))/\
  ∀ d:Nat,d < BB->kt < g.next->hb.next<=kt->Wf hb-> ∃ u:Upd,ai SS.P 103 (.pointer (some p)) (.int .u64 (d:Int)) g=some (undef,u)/\MR hb kt N (L.set jn d) (u.app g):=by
 subst hj;have hc:(0:Nat)+L.length<=((List.replicate N 0).map uv).length:=by rw [lM,length_replicate,m.len]; omega
 refine ⟨⟨kt,0+(jn:Int).toNat,none⟩,qK (by omega) (by omega),?_,?_⟩
 ·rw [toNat_natCast];exact ws m.row hc (by rw [m.len]; exact hl)
 ·intro d hd hk hn w;rw [toNat_natCast];refine ⟨_,wh m.row hc (by rw [m.len]; exact hl) d,by rw [List.length_set]; exact m.len,fun e he=> ?_,?_,m.ok.set _ hn hk w⟩
  ·rcases List.mem_or_eq_of_mem_set he with h | h
   ·exact m.lt e h
   ·rw [h]; exact hd
  ·show (g.set kt _).get kt=_;rw [Heap.get_set,if_pos rfl]
def JU (hb:Heap)(kt N n:Nat)(x y:List Nat)(mz i:Nat)(g:Heap):Prop:=i<=n/\mz=n - i/\ ∃ L,MR hb kt N L g/\Num.bv BB L=Num.bv BB (x.take i)*Num.bv BB y
def Np (hb:Heap)(kt N k:Nat)(x y:List Nat)(i mz j:Nat)(cy:Int)(g:Heap):Prop:=j<=k+1/\mz=k+1 - j/\ ∃ (L:List Nat)(cn:Nat),cy=(cn:Int)/\cn < BB/\MR hb kt N L g/\Num.bv BB L+cn*BB ^ (i+j)=Num.bv BB (x.take i)*Num.bv BB y+x.getD i 0*Num.bv BB (y.take j)*BB ^ i
theorem Du {hb:Heap}(w:Wf hb){kt N k:Nat}{x y:List Nat}(hkt:hb.next<=kt)(hx: ∀ d∈x,d < BB)(hy: ∀ d∈y,d < BB){i mz j:Nat}{cn:Nat}{L:List Nat}{g:Heap}(hj:j < k+1)(hij:i+j < N)(hmz:mz=k+1 - j)(hcn:cn < BB)(m:MR hb kt N L g)(he:Num.bv BB L+cn*BB ^ (i+j)=Num.bv BB (x.take i)*Num.bv BB y+x.getD i 0*Num.bv BB (y.take j)*BB ^ i){q:Nat}(hq:q=x.getD i 0*y.getD j 0):
  q<=999999998000000001/\L.getD (i+j) 0 < BB/\(∀ g',MR hb kt N (L.set (i+j) ((L.getD (i+j) 0+cn+q) % BB)) g'->mz - 1 < mz/\Np hb kt N k x y i (mz - 1) (j+1) (((L.getD (i+j) 0+cn+q) / BB:Nat):Int) g')/\(L.getD (i+j) 0+cn+q) % BB < BB/\kt < g.next:=by
 have hxi:=Num.getD_lt (b:=BB) (by decide) hx i;have hyj:=Num.getD_lt (b:=BB) (by decide) hy j;have hLj:=Num.getD_lt (b:=BB) (by decide) m.lt (i+j);refine ⟨?_,hLj,fun g' m'=>⟨by omega,by omega,by omega,_,_,rfl,?_,m',?_⟩,mod_lt _ (by decide),m.ok.wf _ _ m.row⟩
 ·rw [hq];exact le_trans (Nat.mul_le_mul (Nat.le_of_lt_succ hxi) (Nat.le_of_lt_succ hyj)) (by decide)
 ·exact (Num.mul_step dx m.lt (by rw [m.len]; exact hij) hcn hxi hyj (by rw [hq]) he).2.1
 ·exact (Num.mul_step dx m.lt (by rw [m.len]; exact hij) hcn hxi hyj (by rw [hq]) he).2.2
def HI {hb:Heap}(w:Wf hb){a:Option Addr}{n c:Nat}{b:Option Addr}{k d:Nat}{kt N tc:Nat}{x y:List Nat}(ra:Rd hb 103 (.slice a n c) (x.map uv))(rb:Rd hb 103 (.slice b k d) (y.map uv))(hx: ∀ d∈x,d < BB)(hy: ∀ d∈y,d < BB)(hkt:hb.next<=kt){i:Nat}(hi:i < n)(hn:n=x.length)(hk:k=y.length)(hN:N=n+k+1)(hN2:N<=1000)(l m:List UInt8)(Q:VH)(mz:Nat)(hmz:mz=n - i):=
 rI l m a n c b k d (some ⟨kt,0,none⟩) N tc (n:Int) (JU hb kt N n x y) mz i ((k:Int)+1) (Np hb kt N k x y i) Q (by
  intro mz2 j cy; intros; rename_i g hin;obtain ⟨h1,h2,L,cn,rfl,h3,mr,h4⟩:=hin;have hBv:BB=1000000000:=rfl;have e1:wrap .i64 ((i:Int)+(j:Int))=((i+j:Nat):Int):=by rw [am (by omega) (by omega)]; omega
  have e2:wrap .i64 ((j:Int)+1)=((j+1:Nat):Int):=by rw [am (by omega) (by omega)]; omega
  have e3:wrap .i64 ((i:Int)+1)=((i+1:Nat):Int):=by rw [am (by omega) (by omega)]; omega
  rw [e1,e2,e3];refine ae (fun h5=> ?_) (fun h5=> ?_)
  ·have h5:=dT h5;obtain ⟨q,hq⟩: ∃ q,q=x.getD i 0*y.getD j 0:=⟨_,rfl⟩
   obtain ⟨s1,s2,s3,s4,s5⟩:=Du w hkt hx hy (by omega) (by omega) h2 h3 mr h4 hq;obtain ⟨p,g1,g2,_⟩:=mr.get (c:=tc) (j:=((i+j:Nat):Int)) rfl (by omega);have e4:wrap .u64 (((L.getD (i+j) 0:Nat):Int)+(cn:Int))=((L.getD (i+j) 0+cn:Nat):Int):=by rw [cJ (by omega) (by omega)]; omega
   refine ⟨p,g1,_,g2,ae (fun h6=> ?_) (fun h6=> ?_)⟩
   ·have h6:=dT h6;obtain ⟨p1,f1,f2⟩:=xJ (ra.ok (mr.room 12).ok) (i:=(i:Int)) (by omega) (by omega);obtain ⟨p2,f3,f4⟩:=xJ (rb.ok (mr.room 12).ok) (i:=(j:Int)) (by omega) (by omega);rw [toNat_natCast] at f2 f4;have e5:wrap .u64 (((x.getD i 0:Nat):Int)*((y.getD j 0:Nat):Int))=(q:Int):=by rw [<-Int.natCast_mul,<-hq]; exact cJ (by omega) (by omega)
    have e6:wrap .u64 (((L.getD (i+j) 0+cn:Nat):Int)+(q:Int))=((L.getD (i+j) 0+cn+q:Nat):Int):=by rw [cJ (by omega) (by omega)]; omega
    rw [e4];refine ⟨p1,f1,_,f2,p2,f3,_,f4,?_⟩;dsimp only;rw [e5,e6];obtain ⟨p3,g3,_,g5⟩:=(mr.room 12).get (c:=tc) (j:=((i+j:Nat):Int)) rfl (by omega);obtain ⟨u,g6,g7⟩:=g5 _ s4 (lt_of_lt_of_le s5 (Nat.le_add_right _ _)) hkt w;obtain ⟨t1,t2⟩:=s3 _ g7;refine ⟨_,dy (b:=BB) (by omega) (by decide),_,jT (b:=BB) (by omega) (by omega) (by decide),p3,g3,u,g6,gO (mz2 - 1) t1 ?_⟩;rw [Int.natCast_ediv] at t2;exact t2
   ·have h6:=dF h6;have y0:y.getD j 0=0:=by rw [gD,getElem?_eq_none (by omega)]; rfl
    have hq0:q=0:=by rw [hq,y0,Nat.mul_zero]
    rw [e4];obtain ⟨p3,g3,_,g5⟩:=mr.get (c:=tc) (j:=((i+j:Nat):Int)) rfl (by omega);rw [hq0,add_zero] at s3 s4;obtain ⟨u,g6,g7⟩:=g5 _ s4 s5 hkt w;obtain ⟨t1,t2⟩:=s3 _ g7;refine ⟨_,dy (b:=BB) (by omega) (by decide),_,jT (b:=BB) (by omega) (by omega) (by decide),p3,g3,u,g6,gO (mz2 - 1) t1 ?_⟩;rw [Int.natCast_ediv] at t2;exact t2
  ·have h5:=dF h5;obtain rfl:j=k+1:=by omega
   refine bp (n - (i+1)) (by omega) ⟨by omega,rfl,L,mr,?_⟩;exact Num.mul_end dx hx hy (by omega) mr.lt (by rw [<-hk]; exact h4))
theorem Kg {X Y:Nat}(hx:(Num.toB BB X).length<=112)(hy:(Num.toB BB Y).length<=112):(Num.toB BB (X*Y)).length<=10000:=by
 have h1:=Num.bv_lt (Num.toB_lt dx X);have h2:=Num.bv_lt (Num.toB_lt dx Y);rw [Num.bv_toB dx] at h1 h2;have h3:=lt_of_lt_of_le h1 (pow_le_pow_right (show 0 < BB by decide) hx);have h4:=lt_of_lt_of_le h2 (pow_le_pow_right (show 0 < BB by decide) hy);refine le_trans (Num.toB_len_le dx (k:=224) ?_) (by omega);rw [show 224=112+112 from rfl,pow_add];exact Nat.mul_lt_mul'' h3 h4
theorem yC (a b:List UInt8){h:Heap}(t:Tab h)(w:Wf h):FW SS 119 [aa a,aa b] h (fun v h'=>v=tU a b/\Ok h h'):=by
 refine HE a b h _ ((cd a h).mono ?_);rintro _ g0 ⟨rfl,e0⟩;obtain rfl:h=g0:=e0.symm;refine ⟨_,rfl,ae (fun g=> ?_) (fun g=> ?_)⟩
 ·have g:Num.valid a=false:=by simpa using g
  refine ⟨?_,Ok.refl w⟩;unfold tU; rw [if_neg (fun e=>by rw [e.1] at g; cases g)]; rfl
 have g:Num.valid a=true:=by simpa using g
 refine (cd b h).mono ?_;rintro _ g0 ⟨rfl,e0⟩;obtain rfl:h=g0:=e0.symm;refine ⟨_,rfl,ae (fun g2=> ?_) (fun g2=> ?_)⟩
 ·have g2:Num.valid b=false:=by simpa using g2
  refine ⟨?_,Ok.refl w⟩;unfold tU; rw [if_neg (fun e=>by rw [e.2] at g2; cases g2)]; rfl
 have g2:Num.valid b=true:=by simpa using g2
 have tb:=Lp g g2;have lx:=tb.lx;have ly:=tb.ly;refine (iB g w).mono ?_;rintro _ h1 ⟨a1,n1,c1,rfl,o1,ok1⟩;refine ⟨_,_,_,rfl,(iB g2 ok1.wf).mono ?_⟩;rintro _ h2 ⟨a2,n2,c2,rfl,o2,ok2⟩;refine ⟨_,_,_,rfl,?_⟩;have hS:tU a b=jx (Num.val a*Num.val b):=by unfold tU; rw [if_pos ⟨g,g2⟩]
 rw [hS];have r1:=o1.rd.ok ok2;have r2:=o2.rd;have ok:=ok1.trans ok2;have hn1:n1=(Num.toB BB (Num.val a)).length:=by have:=r1.len; rwa [lM] at this
 have hn2:n2=(Num.toB BB (Num.val b)).length:=by have:=r2.len; rwa [lM] at this
 have hX:=Num.toB_lt dx (Num.val a);have hY:=Num.toB_lt dx (Num.val b);have bX:=Num.bv_toB dx (Num.val a);have bY:=Num.bv_toB dx (Num.val b);have r1:Rd h2 103 (.slice a1 n1 c1) ((Num.toB BB (Num.val a)).map uv):=r1;have r2:Rd h2 103 (.slice a2 n2 c2) ((Num.toB BB (Num.val b)).map uv):=r2;have hsz:(Num.toB BB (Num.val a*Num.val b)).length<=10000:=Kg lx ly;generalize Num.val a=X at *;generalize Num.val b=Y at *;generalize Num.toB BB X=x at *;generalize Num.toB BB Y=y at *;have e1:wrap .i64 (wrap .i64 ((n1:Int)+(n2:Int))+1)=((n1+n2+1:Nat):Int):=by
  rw [am (n:=(n1:Int)+(n2:Int)) (by omega) (by omega),am (by omega) (by omega)]; omega
 dsimp only;rw [e1];refine ⟨_,_,_,NG _ (by omega),?_⟩;have okp:=(Ok.refl ok.wf).push (.cells ((List.replicate (n1+n2+1) 0).map uv) 103 1 true);have m0:MR h2 h2.next (n1+n2+1) (List.replicate (n1+n2+1) 0) (h2.push (.cells ((List.replicate (n1+n2+1) 0).map uv) 103 1 true)):=by
  refine ⟨length_replicate,fun d hd=>by rw [(List.mem_replicate.1 hd).2]; decide,?_,okp⟩;rw [Heap.get_push,if_pos rfl,iH (by rw [drop_zero,length_replicate,take_of_length_le (by rw [lM,length_replicate]; omega)])]
 refine rM a b a1 n1 c1 a2 n2 c2 (some ⟨h2.next,0,none⟩) (n1+n2+1) (n1+n2+1) (n1:Int) (JU h2 h2.next (n1+n2+1) n1 x y) (fun v h'=>v=jx (X*Y)/\Ok h h') (fun mz i=> ?_) n1 (i:=0) ⟨by omega,by omega,_,m0,by rw [Num.bv_replicate,take_zero]; simp [Num.bv]⟩;intros; rename_i g hi;obtain ⟨f1,f2,L,mr,f3⟩:=hi;refine ae (fun h5=> ?_) (fun h5=> ?_)
 ·have h5:=dT h5;have e2:wrap .i64 ((n2:Int)+1)=(n2:Int)+1:=am (by omega) (by omega);rw [e2];exact HI ok.wf r1 r2 hX hY (le_refl _) (i:=i) (by omega) hn1 hn2 rfl (by omega) a b _ mz f2 (n2+1) (j:=0) (cy:=0) ⟨by omega,by omega,L,0,rfl,by decide,mr,by rw [f3,take_zero]; simp [Num.bv]⟩
 ·have h5:=dF h5;obtain rfl:n1=i:=by omega
  rw [take_of_length_le (by omega),bX,bY] at f3;have hcap:n1+n2+1<=aK (n1+n2+1):=by unfold aK; rw [if_neg (by unfold bi; omega)]; omega
  have rc:=uw mr.row (n:=n1+n2+1) (c:=n1+n2+1) mr.len.symm hcap;refine (j6 rc (by rw [mr.len]; omega)).mono ?_;rintro _ h6 ⟨rfl,e6⟩;subst e6;have rt:=ss rc mr.lt;rw [f3] at rt;refine ⟨_,_,_,rfl,(px rt hsz (t.ok (ok.trans mr.ok)) mr.ok.wf).mono ?_⟩;rintro _ h7 ⟨rfl,ok7⟩;exact uk (K:=fun v=>v=jx (X*Y)/\Ok h h7) (rO _) ⟨rfl,(ok.trans mr.ok).trans ok7⟩
end Go.Proofs.YtoabjjimjldcfaaGreatDoor
end
section
set_option linter.unusedVariables false
set_option maxRecDepth 100000
namespace Go.Proofs.YtoabjjimjldcfaaGreatDoor
open Go Go.Ab
def wQ:Blk:= .cells [.bool false,aa [],aa []] 122 0 true
theorem Jc:aF SS.P 122=some (wQ,iy):=by kernel_rfl
theorem Pw (neg:Bool)(n d:List UInt8):aI SS.P 122 [(0,(.bool neg)),(1,(aa n)),(2,(aa d))]=some (.agg ⟨[.bool neg,aa n,aa d]⟩):=by kernel_rfl
theorem kF:aI SS.P 122 []=some (.agg ⟨[.bool false,aa [],aa []]⟩):=by kernel_rfl
theorem JW:an SS.P 122=some 3:=by kernel_rfl
theorem O3:Go.Ab.isAgg SS.P 122=true:=by kernel_rfl
noncomputable def NX:TypeDesc:=(SS.P.underlying 122).getD .bool
theorem Pb:SS.P.underlying 122=some NX:=by kernel_rfl
theorem Nk {h:Heap}{k:Nat}{cs0:List Value}(hl:cs0.length=3)(hk:h.get k=some (.cells cs0 122 0 true))(b:Bool)(n d:List UInt8):ai SS.P 122 (.pointer (some ⟨k,0,none⟩)) (.agg ⟨[.bool b,aa n,aa d]⟩) h=some (undef,.set k (.cells [.bool b,aa n,aa d] 122 0 true)):=by
 unfold ai;dsimp only;rw [if_pos (show an SS.P 122=some ((Value.agg ⟨[.bool b,aa n,aa d]⟩).cells).size from JW)];unfold storeAt;rw [hk]; dsimp only;have hs:([.bool b,aa n,aa d]:List Value).all bw=true:=rfl;rw [show (Value.agg ⟨[.bool b,aa n,aa d]⟩).cells.toList=[.bool b,aa n,aa d] from rfl,if_pos ⟨by simp [hl],hs⟩,drop_eq_nil_of_le (by simp [hl])];rfl
theorem PS {h:Heap}{k:Nat}{b:Bool}{n d:List UInt8}(hk:h.get k=some (.cells [.bool b,aa n,aa d] 122 0 true)):ah SS.P 122 h (.pointer (some ⟨k,0,none⟩))=some (.agg ⟨[.bool b,aa n,aa d]⟩):=fJ Pb O3 JW hk (by simp)
theorem jI (l:List UInt8)(h:Heap):FW SS 118 [aa l,.int .i64 0] h (fun v h'=>v=aa l/\h'=h):=
 D6 l 0 h _ (ae (fun g=>by cases g) (fun _=>⟨rfl,rfl⟩))
theorem Eb (s:Bool)(A:Nat)(t:Bool)(B:Nat)(hA:A < 10 ^ 800)(hB:B < 10 ^ 800){h:Heap}(tb:Tab h)(w:Wf h):FW SS 117 [.bool s,aa (Num.toDec A),.bool t,aa (Num.toDec B)] h (fun v h'=>v=tx s A t B/\Ok h h'):=by
 refine DQ s _ t _ h _ (ae (fun g=> ?_) (fun g=> ?_))
 ·have g:s=t:=by simpa using g
  refine (Hl _ _ tb w).mono ?_;rintro _ h1 ⟨rfl,o1⟩;rw [CF hA hB];refine ⟨_,_,rfl,(jI _ _).mono ?_⟩;rintro _ _ ⟨rfl,rfl⟩;refine ⟨_,rfl,?_,o1⟩;unfold tx Num.plusS; rw [if_pos g]
 ·have g: ¬ s=t:=by simpa using g
  refine (H5 _ _ tb w).mono ?_;rintro _ h1 ⟨rfl,o1⟩;rw [By hA hB];refine ⟨_,rfl,ae (fun g1=> ?_) (fun g1=> ?_)⟩
  ·have g1:=dT g1;have g2:A < B:=cmpN_lt0.1 (by omega);refine (yN _ _ (tb.ok o1) o1.wf).mono ?_;rintro _ h2 ⟨rfl,o2⟩;rw [qr hB hA (le_of_lt g2)];refine ⟨_,_,rfl,(jI _ _).mono ?_⟩;rintro _ _ ⟨rfl,rfl⟩;refine ⟨_,rfl,?_,o1.trans o2⟩;unfold tx Num.plusS; rw [if_neg g,if_pos g2]
  ·have g1:=dF g1;have g2: ¬ A < B:=fun c=>by have:=cmpN_lt0.2 c; omega
   refine (yN _ _ (tb.ok o1) o1.wf).mono ?_;rintro _ h2 ⟨rfl,o2⟩;rw [qr hA hB (Nat.not_lt.1 g2)];refine ⟨_,_,rfl,(jI _ _).mono ?_⟩;rintro _ _ ⟨rfl,rfl⟩;refine ⟨_,rfl,?_,o1.trans o2⟩;unfold tx Num.plusS; rw [if_neg g,if_neg g2]
def Gn (b:Bool)(n d:List UInt8):Value:= .agg ⟨[.bool b,aa n,aa d]⟩
def pN (l:List UInt8):Value:=if Num.isRat l=true then .tuple ⟨[Gn (Num.isNeg l) (Num.numOf l) (Num.denOf l),.bool true]⟩ else .tuple ⟨[Gn false [] [],.bool false]⟩
def nU (b:Bool)(n d:List UInt8):Value:= .tuple ⟨[Gn b n d,.bool true]⟩
def ni:Value:= .tuple ⟨[Gn false [] [],.bool false]⟩
structure NBox (h0:Heap)(k:Nat)(g:Heap):Prop where
 row: ∃ cs0:List Value,cs0.length=3/\g.get k=some (.cells cs0 122 0 true)
 new:h0.next<=k
 ok:Ok h0 g
theorem NBox.trans {h0:Heap}{k:Nat}{g g':Heap}(m:NBox h0 k g)(o:Ok g g'):NBox h0 k g':=by
 obtain ⟨⟨cs,h1,h2⟩,h3,h4⟩:=m;exact ⟨⟨cs,h1,o.ext _ _ h2⟩,h3,h4.trans o⟩
theorem BN {h0:Heap}(w:Wf h0){k:Nat}{g:Heap}(m:NBox h0 k g)(b:Bool)(n d:List UInt8)(okb:Bool){Q:VH}(hq: ∀ g',Ok h0 g'->Q (.tuple ⟨[Gn b n d,.bool okb]⟩) g'):
  ∃ u:Upd,ai SS.P 122 (.pointer (some ⟨k,0,none⟩)) (.agg ⟨[.bool b,aa n,aa d]⟩) g=some (undef,u)/\cX SS [(.pointer (some ⟨k,0,none⟩),some 122),(.bool okb,none)] (u.app g) Q:=by
 obtain ⟨⟨cs,hl,hk⟩,h4,h5⟩:=m;refine ⟨_,Nk hl hk b n d,?_⟩;have o:Ok h0 ((Upd.set k (.cells [.bool b,aa n,aa d] 122 0 true)).app g):=h5.set _ h4 (h5.wf _ _ hk) w;have hg:((Upd.set k (.cells [.bool b,aa n,aa d] 122 0 true)).app g).get k=some (.cells [.bool b,aa n,aa d] 122 0 true):=by
  show (g.set k _).get k=_;rw [Heap.get_set,if_pos rfl]
 refine rH (v:=Gn b n d) (PS hg) ?_;exact hq _ o
def Mr (n d:List UInt8)(neg fnd:Bool):Prop:=Num.valid n=true/\Num.valid d=true/\n.length<=400/\d.length<=400/\ ¬ (neg=true/\n=[48])/\ ¬ (fnd=true/\(d=[48]\/d=[49]))/\Nat.gcd (Num.val n) (Num.val d)=1
theorem il {h0:Heap}(w:Wf h0){k:Nat}{g:Heap}(m:NBox h0 k g){C:Prop}(hc: ¬ C){G:Value}:
  ∃ u:Upd,ai SS.P 122 (.pointer (some ⟨k,0,none⟩)) (.agg ⟨[.bool false,aa [],aa []]⟩) g=some (undef,u)/\cX SS [(.pointer (some ⟨k,0,none⟩),some 122),(.bool false,none)] (u.app g) (jM h0 C G ni):=
 BN w m false [] [] false (fun _ o=>fh o hc)
theorem ES (n d:List UInt8)(neg fnd:Bool)(k:Nat){h0 g:Heap}(w:Wf h0)(m:NBox h0 k g)(tb:Tab g){x0 x1 x3 x4 x9 x10 x11 x12 x13 x14 x15 x16 x17 x18 x19 x20 x21 x22 x23 x24 x25 x26 x27 x28 x29 x30 x31 x32 x33 x34 x35 x36 x37 x38 x39 x40 x41 x42 x43 x44 x45 x46 x47 x48 x49 x50 x51 x52 x53 x54 x55 x56 x57 x58 x59 x60 x61 x62 x63 x64 x65 x66 x67 x68 x69 x70 x71 x72 x73 x74 x75 x76:Value}:
  TT SS ratParse_F [1,1,1,1] [x0,x1,.pointer (some ⟨k,0,none⟩),x3,x4,.bool neg,aa n,aa d,.bool fnd,x9,x10,x11,x12,x13,x14,x15,x16,x17,x18,x19,x20,x21,x22,x23,x24,x25,x26,x27,x28,x29,x30,x31,x32,x33,x34,x35,x36,x37,x38,x39,x40,x41,x42,x43,x44,x45,x46,x47,x48,x49,x50,x51,x52,x53,x54,x55,x56,x57,x58,x59,x60,x61,x62,x63,x64,x65,x66,x67,x68,x69,x70,x71,x72,x73,x74,x75,x76] g (EE SS ratParse_F (jM h0 (Mr n d neg fnd) (nU neg n d) ni)):=by
 refine vB ((cd n g).mono ?_);rintro _ g0 ⟨rfl,e0⟩;obtain rfl:g=g0:=e0.symm;refine ⟨_,rfl,ae (fun g1=>⟨_,kF,il w m (fun c=> ?_)⟩) (fun g1=> ?_)⟩
 ·rw [c.1] at g1; cases g1
 have g1:Num.valid n=true:=by simpa using g1
 refine (cd d g).mono ?_;rintro _ g0 ⟨rfl,e0⟩;obtain rfl:g=g0:=e0.symm;refine ⟨_,rfl,ae (fun g2=>⟨_,kF,il w m (fun c=> ?_)⟩) (fun g2=> ?_)⟩
 ·rw [c.2.1] at g2; cases g2
 have g2:Num.valid d=true:=by simpa using g2
 refine ae (fun g3=>⟨_,kF,il w m (fun c=> ?_)⟩) (fun g3=> ?_)
 ·have:=c.2.2.1; have g3:=dT g3; omega
 have g3:n.length<=400:=by have g3:=dF g3; omega
 refine ae (fun g4=>⟨_,kF,il w m (fun c=> ?_)⟩) (fun g4=> ?_)
 ·have:=c.2.2.2.1; have g4:=dT g4; omega
 have g4:d.length<=400:=by have g4:=dF g4; omega
 have fin: ¬ (neg=true/\n=[48])-> ¬ (fnd=true/\(d=[48]\/d=[49]))-> ∀ {x0 x1 x3 x4 x9 x10 x11 x12 x13 x14 x15 x16 x17 x18 x19 x20 x21 x22 x23 x24 x25 x26 x27 x28 x29 x30 x31 x32 x33 x34 x35 x36 x37 x38 x39 x40 x41 x42 x43 x44 x45 x46 x47 x48 x49 x50 x51 x52 x53 x54 x55 x56 x57 x58 x59 x60 x61 x62 x63 x64 x65 x66 x67 x68 x69 x70 x71 x72 x73 x74 x75 x76:Value},TT SS ratParse_F [1,1,1,1,1,1] [x0,x1,.pointer (some ⟨k,0,none⟩),x3,x4,.bool neg,aa n,aa d,.bool fnd,x9,x10,x11,x12,x13,x14,x15,x16,x17,x18,x19,x20,x21,x22,x23,x24,x25,x26,x27,x28,x29,x30,x31,x32,x33,x34,x35,x36,x37,x38,x39,x40,x41,x42,x43,x44,x45,x46,x47,x48,x49,x50,x51,x52,x53,x54,x55,x56,x57,x58,x59,x60,x61,x62,x63,x64,x65,x66,x67,x68,x69,x70,x71,x72,x73,x74,x75,x76] g (EE SS ratParse_F (jM h0 (Mr n d neg fnd) (nU neg n d) ni)):=by
  intro c5 c6;intros;refine vj ((H0 n d tb m.ok.wf).mono ?_);rintro _ h1 ⟨rfl,o1⟩;have m1:=m.trans o1;rw [BY g1 g2];refine ⟨_,_,rfl,ae (fun e=>by cases e) (fun _=> ?_)⟩;refine ae (fun e=>⟨_,kF,il w m1 (fun c=> ?_)⟩) (fun e=> ?_)
  ·have e: ¬ Num.toDec (Nat.gcd (Num.val n) (Num.val d))=[49]:=by simpa using e
   exact e (Num.toDec_eq_one.2 c.2.2.2.2.2.2)
  ·have e:Num.toDec (Nat.gcd (Num.val n) (Num.val d))=[49]:=by simpa using e
   refine wH ⟨_,Pw neg n d,BN w m1 neg n d true (fun _ o=>pF o ?_)⟩;exact ⟨g1,g2,g3,g4,c5,c6,Num.toDec_eq_one.1 e⟩
 refine uV (ae (fun g5=>ae (fun g6=>⟨_,kF,il w m (fun c=> ?_)⟩) (fun g6=> ?_)) (fun g5=> ?_))
 ·exact c.2.2.2.2.1 ⟨g5,by simpa using g6⟩
 ·have c5: ¬ (neg=true/\n=[48]):=fun c=>by
   have: ¬ n=[48]:=by simpa using g6
   exact this c.2
  refine ae (fun g7=>ae (fun g8=>⟨_,kF,il w m (fun c=> ?_)⟩) (fun g8=>ae (fun g9=>⟨_,kF,il w m (fun c=> ?_)⟩) (fun g9=> ?_))) (fun g7=> ?_)
  ·exact c.2.2.2.2.2.1 ⟨g7,.inl (by simpa using g8)⟩
  ·exact c.2.2.2.2.2.1 ⟨g7,.inr (by simpa using g9)⟩
  ·refine fin c5 (fun c=> ?_);have g8: ¬ d=[48]:=by simpa using g8
   have g9: ¬ d=[49]:=by simpa using g9
   exact c.2.elim g8 g9
  ·exact fin c5 (fun c=>by rw [c.1] at g7; cases g7)
 ·have c5: ¬ (neg=true/\n=[48]):=fun c=>by rw [c.1] at g5; cases g5
  refine ae (fun g7=>ae (fun g8=>⟨_,kF,il w m (fun c=> ?_)⟩) (fun g8=>ae (fun g9=>⟨_,kF,il w m (fun c=> ?_)⟩) (fun g9=> ?_))) (fun g7=> ?_)
  ·exact c.2.2.2.2.2.1 ⟨g7,.inl (by simpa using g8)⟩
  ·exact c.2.2.2.2.2.1 ⟨g7,.inr (by simpa using g9)⟩
  ·refine fin c5 (fun c=> ?_);have g8: ¬ d=[48]:=by simpa using g8
   have g9: ¬ d=[49]:=by simpa using g9
   exact c.2.elim g8 g9
  ·exact fin c5 (fun c=>by rw [c.1] at g7; cases g7)
theorem y5 {h:Heap}{l:List UInt8}{v:Value}{h':Heap}(q:jM h (Mr (Num.numOf l) (Num.denOf l) (Num.isNeg l) (Num.hasStroke l)) (nU (Num.isNeg l) (Num.numOf l) (Num.denOf l)) ni v h'):v=pN l/\Ok h h':=by
 obtain ⟨o,q1,q2⟩:=q;refine ⟨?_,o⟩;unfold pN;by_cases g:Num.isRat l=true
 ·rw [if_pos g];have r:=Num.isRat_iff.1 g;exact q1 ⟨r.num,r.den,r.ln,r.ld,r.neg,r.fr,r.one⟩
 ·rw [if_neg g];exact q2 fun c=>g (Num.isRat_iff.2 ⟨c.1,c.2.1,c.2.2.1,c.2.2.2.1,c.2.2.2.2.1,c.2.2.2.2.2.1,c.2.2.2.2.2.2⟩)
theorem mS (l:List UInt8)(hl:l.length<=1000000000){h:Heap}(tb:Tab h)(w:Wf h):FW SS 121 [aa l] h (fun v h'=>v=pN l/\Ok h h'):=by
 refine FW.mono (Q:=jM h (Mr (Num.numOf l) (Num.denOf l) (Num.isNeg l) (Num.hasStroke l)) (nU (Num.isNeg l) (Num.numOf l) (Num.denOf l)) ni) ?_ (fun _ _ q=>y5 q);have m0:NBox h h.next (h.push wQ):=⟨⟨_,rfl,by rw [Heap.get_push,if_pos rfl]; rfl⟩,le_refl _,(Ok.refl w).push _⟩
 refine AP l h _ ⟨_,Jc,(GW l _).mono ?_⟩;rintro _ g0 ⟨rfl,rfl⟩;have hm:(Num.afterNeg l).length<=1000000000:=by
  unfold Num.afterNeg; split
  ·rw [List.length_drop]; omega
  ·exact hl
 refine ⟨_,_,rfl,(NY _ hm m0.ok.wf).mono ?_⟩;rintro _ g1 ⟨rfl,o1⟩;have m1:=m0.trans o1;have t1:=tb.ok m1.ok;unfold GN;by_cases hs:Num.idxB 47 (Num.afterNeg l) < (Num.afterNeg l).length
 ·rw [if_pos hs];have hst:Num.hasStroke l=true:=decide_eq_true hs;have e2:Num.denOf l=(Num.afterNeg l).drop (Num.idxB 47 (Num.afterNeg l)+1):=by unfold Num.denOf; rw [if_pos hst]
  rw [hst];refine ⟨_,_,_,rfl,ae (fun e=>by cases e) (fun _=> ?_)⟩;rw [<-e2];exact ES _ _ _ true _ w m1 t1
 ·rw [if_neg hs];have hst:Num.hasStroke l=false:=decide_eq_false hs;have e2:Num.denOf l=[49]:=by unfold Num.denOf; rw [hst]; rfl
  have e1:Num.numOf l=Num.afterNeg l:=by unfold Num.numOf; rw [take_of_length_le (by omega)]
  rw [hst,e1,e2];refine ⟨_,_,_,rfl,ae (fun _=> ?_) (fun e=>by cases e)⟩;exact ES _ _ _ false _ w m1 t1
theorem De (l:List UInt8): ∃ (cs:List Value)(b:Bool),pN l = .tuple ⟨[.agg ⟨cs⟩,.bool b]⟩/\b=Num.isRat l:=by
 unfold pN
 cases g:Num.isRat l with
 | true=>exact ⟨_,_,rfl,rfl⟩
 | false=>exact ⟨_,_,rfl,rfl⟩
theorem sX (l:List UInt8)(hl:l.length<=1000000000){h:Heap}(tb:Tab h)(w:Wf h):FW SS 97 [aa l] h (fun v h'=>v = .bool (Num.isRat l)/\Ok h h'):=by
 refine BH l h _ ((mS l hl tb w).mono ?_);rintro _ h1 ⟨rfl,o1⟩;obtain ⟨cs,b,e,e2⟩:=De l;exact ⟨cs,b,e,by rw [e2],o1⟩
theorem FK (k:Nat):af SS.P 122 (.pointer (some ⟨k,0,none⟩)) 0=some (.pointer (some ⟨k,0,none⟩)):=by kernel_rfl
theorem EU (k:Nat):af SS.P 122 (.pointer (some ⟨k,0,none⟩)) 1=some (.pointer (some ⟨k,1,none⟩)):=by kernel_rfl
theorem E9 (k:Nat):af SS.P 122 (.pointer (some ⟨k,0,none⟩)) 2=some (.pointer (some ⟨k,2,none⟩)):=by kernel_rfl
theorem Qk:SS.P.underlying 4=some .bool:=Tryz.underlying4
theorem QT:Go.Ab.isAgg SS.P 4=false:=by kernel_rfl
theorem Nl:Go.Ab.isAgg SS.P 9=false:=by kernel_rfl
def HasNum (g:Heap)(k:Nat)(b:Bool)(n d:List UInt8):Prop:=g.get k=some (.cells [.bool b,aa n,aa d] 122 0 true)
theorem HasNum.ok {g g':Heap}{k:Nat}{b:Bool}{n d:List UInt8}(x:HasNum g k b n d)(o:Ok g g'):HasNum g' k b n d:=o.ext _ _ x
theorem HasNum.l0 {g:Heap}{k:Nat}{b:Bool}{n d:List UInt8}(x:HasNum g k b n d):ah SS.P 4 g (.pointer (some ⟨k,0,none⟩))=some (.bool b):=cH Qk QT x (by simp)
theorem HasNum.l1 {g:Heap}{k:Nat}{b:Bool}{n d:List UInt8}(x:HasNum g k b n d):ah SS.P 9 g (.pointer (some ⟨k,1,none⟩))=some (aa n):=cH Ir Nl x (by simp)
theorem HasNum.l2 {g:Heap}{k:Nat}{b:Bool}{n d:List UInt8}(x:HasNum g k b n d):ah SS.P 9 g (.pointer (some ⟨k,2,none⟩))=some (aa d):=cH Ir Nl x (by simp)
theorem KS {h:Heap}(w:Wf h)(b:Bool)(n d:List UInt8): ∃ u:Upd,ai SS.P 122 (.pointer (some ⟨h.next,0,none⟩)) (.agg ⟨[.bool b,aa n,aa d]⟩) (h.push wQ)=some (undef,u)/\Ok h (u.app (h.push wQ))/\HasNum (u.app (h.push wQ)) h.next b n d:=by
 have hk:(h.push wQ).get h.next=some wQ:=by rw [Heap.get_push,if_pos rfl]
 refine ⟨_,Nk (cs0:=[.bool false,aa [],aa []]) rfl hk b n d,?_,?_⟩
 ·exact ((Ok.refl w).push _).set _ (le_refl _) (Nat.lt_succ_self _) w
 ·show ((h.push wQ).set h.next _).get h.next=_;rw [Heap.get_set,if_pos rfl]
theorem yl (l:List UInt8): ∃ (b:Bool)(n d:List UInt8),pN l = .tuple ⟨[.agg ⟨[.bool b,aa n,aa d]⟩,.bool (Num.isRat l)]⟩/\(Num.isRat l=true->b=Num.isNeg l/\n=Num.numOf l/\d=Num.denOf l):=by
 unfold pN
 cases g:Num.isRat l with
 | true=>exact ⟨_,_,_,rfl,fun _=>⟨rfl,rfl,rfl⟩⟩
 | false=>exact ⟨_,_,_,rfl,fun e=>by cases e⟩
theorem sR (b:Bool):dY 4 (.bool b) (.bool b)=true:=by simp [dY]
theorem qk (l:List UInt8):dY 4 (aa l) (aa l)=true:=by simp [dY,aa]
theorem HK (l m:List UInt8)(hl:l.length<=1000000000)(hm:m.length<=1000000000){h:Heap}(tb:Tab h)(w:Wf h):FW SS 125 [aa l,aa m] h (fun v h'=>v = .int .i64 (Num.cmpRat l m)/\Ok h h'):=by
 refine GO l m h _ ((mS l hl tb w).mono ?_);rintro _ h1 ⟨rfl,o1⟩;obtain ⟨b,n,d,e1,f1⟩:=yl l;obtain ⟨u1,s1,s2,s3⟩:=KS o1.wf b n d;refine ⟨_,_,e1,_,Jc,u1,s1,?_⟩;have ok1:=o1.trans s2;generalize u1.app (h1.push wQ)=g1 at *;refine (mS m hm (tb.ok ok1) ok1.wf).mono ?_;rintro _ h2 ⟨rfl,o2⟩;obtain ⟨b',n',d',e2,f2⟩:=yl m;obtain ⟨u2,r1,r2,r3⟩:=KS o2.wf b' n' d';refine ⟨_,_,e2,_,Jc,u2,r1,?_⟩;have ok2:=(ok1.trans o2).trans r2;have x1:=(s3.ok o2).ok r2;generalize u2.app (h2.push wQ)=g2 at *;generalize h1.next=k1 at *;generalize h2.next=k2 at *;refine ae (fun q=>⟨?_,ok2⟩) (fun q=>ae (fun q2=>⟨?_,ok2⟩) (fun q2=> ?_))
 ·have q:Num.isRat l=false:=by simpa using q
  unfold Num.cmpRat; rw [if_neg (fun c=>by rw [c.1] at q; cases q)]
 ·have q2:Num.isRat m=false:=by simpa using q2
  unfold Num.cmpRat; rw [if_neg (fun c=>by rw [c.2] at q2; cases q2)]
 have q:Num.isRat l=true:=by simpa using q
 have q2:Num.isRat m=true:=by simpa using q2
 obtain ⟨rfl,rfl,rfl⟩:=f1 q;obtain ⟨rfl,rfl,rfl⟩:=f2 q2;have i1:=Num.isRat_iff.1 q;have i2:=Num.isRat_iff.1 q2;have or:Ok g2 (Go.Ab.room g2 27):=(Ok.refl ok2.wf).room 27;refine ⟨_,FK _,_,(x1.ok or).l0,_,EU _,_,(x1.ok or).l1,_,E9 _,_,(r3.ok or).l2,?_⟩;have okr:=ok2.trans or;refine (yC _ _ (tb.ok okr) okr.wf).mono ?_;rintro _ h3 ⟨rfl,o3⟩;rw [(jz i1.num i2.den i1.ln i2.ld).1];refine ⟨_,_,rfl,(jI _ _).mono ?_⟩;rintro _ h3' ⟨rfl,eh⟩;obtain rfl:h3=h3':=eh.symm;have p3:=or.trans o3;refine ⟨_,rfl,_,FK _,_,(r3.ok p3).l0,_,EU _,_,(r3.ok p3).l1,_,E9 _,_,(x1.ok p3).l2,?_⟩;have ok3:=ok2.trans p3;refine (yC _ _ (tb.ok ok3) ok3.wf).mono ?_;rintro _ h4 ⟨rfl,o4⟩;rw [(jz i2.num i1.den i2.ln i1.ld).1];refine ⟨_,_,rfl,(jI _ _).mono ?_⟩;rintro _ h4' ⟨rfl,eh⟩;obtain rfl:h4=h4':=eh.symm;have p4:=p3.trans o4;have ok4:=ok2.trans p4;refine ⟨_,rfl,(Eb _ _ _ _ (jz i1.num i2.den i1.ln i2.ld).2 (jz i2.num i1.den i2.ln i1.ld).2 (tb.ok ok4) ok4.wf).mono ?_⟩;rintro _ h5 ⟨rfl,o5⟩;have ok5:=ok4.trans o5;refine ⟨_,_,rfl,⟨(x1.ok p3).l0,sR _⟩,⟨(x1.ok p3).l0,sR _⟩,⟨(x1.ok p4).l0,sR _⟩,⟨(x1.ok p4).l0,sR _⟩,⟨(r3.ok or).l0,sR _⟩,⟨(r3.ok p3).l0,sR _⟩,⟨(r3.ok p4).l0,sR _⟩,⟨(r3.ok p4).l0,sR _⟩,⟨(r3.ok or).l1,qk _⟩,⟨(r3.ok p3).l1,qk _⟩,⟨(x1.ok or).l2,qk _⟩,⟨(x1.ok p3).l2,qk _⟩,?_⟩;unfold Num.cmpRat;rw [if_pos ⟨q,q2⟩];generalize Num.plusS _ _ _ _=z;refine ae (fun g3=>⟨?_,ok5⟩) (fun g3=> ?_)
 ·have g3:Num.toDec z.2=[48]:=by simpa using g3
  rw [if_pos (Num.toDec_eq_zero.1 g3)]
 ·have g3: ¬ Num.toDec z.2=[48]:=by simpa using g3
  rw [if_neg (fun c=>g3 (Num.toDec_eq_zero.2 c))];refine ae (fun g4=>⟨?_,ok5⟩) (fun g4=>⟨?_,ok5⟩)
  ·rw [if_pos g4]
  ·rw [if_neg (by rw [g4]; simp)]
noncomputable def Dl:FD:=bF Tryz.f75 []
theorem CS  (h:Heap) (Q:VH) (hx:xN (aF SS.P 85) h fun B1 g2=>xA (aI SS.P 68 [(0,(aa [105,110,102])),(1,(aa [48])),(2,(.bool true)),(3,(.func (.func 94) ⟨[]⟩ ⟨[]⟩)),(4,(.func (.func 95) ⟨[]⟩ ⟨[]⟩)),(5,(.func (.func 96) ⟨[]⟩ ⟨[]⟩)),(6,(.func (.func 97) ⟨[]⟩ ⟨[]⟩)),(7,(.func (.func 97) ⟨[]⟩ ⟨[]⟩))]) fun c3=>xA (aI SS.P 68 [(0,(aa [48])),(1,(aa [49])),(2,(.bool false)),(3,(.func (.func 98) ⟨[]⟩ ⟨[]⟩)),(4,(.func (.func 99) ⟨[]⟩ ⟨[]⟩)),(5,(.func (.func 100) ⟨[]⟩ ⟨[]⟩)),(6,(.func (.func 101) ⟨[]⟩ ⟨[]⟩)),(7,(.func (.func 102) ⟨[]⟩ ⟨[]⟩))]) fun c4=>xA (aI SS.P 68 [(0,(aa [48])),(1,(aa [49])),(2,(.bool false)),(3,(.func (.func 94) ⟨[]⟩ ⟨[]⟩)),(4,(.func (.func 99) ⟨[]⟩ ⟨[]⟩)),(5,(.func (.func 103) ⟨[]⟩ ⟨[]⟩)),(6,(.func (.func 101) ⟨[]⟩ ⟨[]⟩)),(7,(.func (.func 102) ⟨[]⟩ ⟨[]⟩))]) fun c5=>xA (aI SS.P 85 [(1,(.agg ⟨c3⟩)),(2,(.agg ⟨c4⟩)),(3,(.agg ⟨c5⟩))]) fun c6=>xU (ai SS.P 85 (pA (h.next)) (.agg ⟨c6⟩) g2) g2 fun u7 g8=>cX SS [((pA (h.next)),some 85)] g8 Q):FW SS 75 [] h Q:=bG Dl Tryz.func75 (aj hx)
noncomputable def M0:FD:=bF Tryz.f57 []
theorem JP (kind:Int)(h:Heap)(Q:VH)(hx:xN (aF SS.P 68) h fun B1 g2=>au (decide ((kind:Int) < 1)) (xA (aI SS.P 68 []) fun c3=>xU (ai SS.P 68 (pA (h.next)) (.agg ⟨c3⟩) g2) g2 fun u4 g5=>cX SS [((pA (h.next)),some 68),((.bool false),none)] g5 Q) (au (decide ((kind:Int) > 3)) (xA (aI SS.P 68 []) fun c6=>xU (ai SS.P 68 (pA (h.next)) (.agg ⟨c6⟩) g2) g2 fun u7 g8=>cX SS [((pA (h.next)),some 68),((.bool false),none)] g8 Q) (FW SS 75 [] g2 fun v9 h10=>yA v9 fun c11=>xA (aQ SS.P 85 (.agg ⟨c11⟩) (.int .i64 kind)) fun c12=>xU (ai SS.P 68 (pA (h.next)) (.agg ⟨c12⟩) h10) h10 fun u13 g14=>cX SS [((pA (h.next)),some 68),((.bool true),none)] g14 Q))):FW SS 57 [(.int .i64 kind)] h Q:=bG M0 Tryz.func57 (aj hx)
noncomputable def wV:FD:=bF Tryz.f102 []
theorem wv (l:LB)(h:Heap)(Q:VH)(hx:FW SS 97 [(aa l)] h fun v1 h2=>yB v1 fun b3=>au b3 (FW SS 125 [(aa l),(aa [48])] h2 fun v4 h5=>yI .i64 v4 fun n6=>Q (.bool (decide ((n6:Int) > 0))) h5) (Q (.bool false) h2)):FW SS 102 [(aa l)] h Q:=bG wV Tryz.func102 (aj hx)
noncomputable def A7:FD:=bF Tryz.f34 []
theorem zM (kind:Int)(l:LB)(h:Heap)(Q:VH)(hx:FW SS 57 [(.int .i64 kind)] h fun v1 h2=> ∃ cs3:LV,∃ b4:Bool,v1=(.tuple ⟨[(.agg ⟨cs3⟩),(.bool b4)]⟩)/\xN (aF SS.P 68) h2 fun B5 g6=>xU (ai SS.P 68 (pA (h2.next)) (.agg ⟨cs3⟩) g6) g6 fun u7 g8=>au b4 (xP (af SS.P 68 (pA (h2.next)) 7) fun p9=>xF (ah SS.P 66 g8 (.pointer (some p9))) fun g10 a11 c12=>au (Nat.blt g10 YB) (FW SS g10 (a11++[(aa l)]++c12) g8 fun v13 h14=>yB v13 fun b15=>Q (.bool b15) h14) False) (Q (.bool false) g8)):FW SS 34 [(.int .i64 kind),(aa l)] h Q:=bG A7 Tryz.func34 (aj hx)
noncomputable def DP:FD:=bF Tryz.f36 []
theorem th (kind:Int)(h:Heap)(Q:VH)(hx:au (decide ((kind:Int)>=1)) (Q (.bool (decide ((kind:Int)<=3))) h) (Q (.bool false) h)):FW SS 36 [(.int .i64 kind)] h Q:=bG DP Tryz.func36 (aj hx)
noncomputable def Ce:FD:=bF Tryz.f58 []
theorem AE (kind:Int)(l:LB)(h:Heap)(Q:VH)(hx:FW SS 36 [(.int .i64 kind)] h fun v1 h2=>yB v1 fun b3=>au (!b3) (Q (.bool false) h2) (au ((l:LB) == [105,110,102]) (au ((l:LB) == [105,110,102]) (Q (.bool true) h2) (Q (.bool (((kind:Int) == 1))) h2)) (au ((l:LB) == [45,105,110,102]) (au ((l:LB) == [105,110,102]) (Q (.bool true) h2) (Q (.bool (((kind:Int) == 1))) h2)) (FW SS 76 [(aa l)] h2 fun v4 h5=>yB v4 fun b6=>au b6 (au (((kind:Int) == 1)) (Q (.bool true) h5) (FW SS 77 [(aa l),(aa [48])] h5 fun v7 h8=>yI .i64 v7 fun n9=>Q (.bool (decide ((n9:Int)>=0))) h8)) (Q (.bool false) h5))))):FW SS 58 [(.int .i64 kind),(aa l)] h Q:=bG Ce Tryz.func58 (aj hx)
noncomputable def zX:FD:=bF Tryz.f37 []
theorem wX (kind:Int)(l:LB)(h:Heap)(Q:VH)(hx:FW SS 58 [(.int .i64 kind),(aa l)] h fun v1 h2=>yB v1 fun b3=>au b3 (au (!((l:LB) == [105,110,102])) (au (!((l:LB) == [45,105,110,102])) (au (((kind:Int) == 1)) (Q (.bool true) h2) (Q (.bool (!((l:LB) == [48]))) h2)) (Q (.bool false) h2)) (Q (.bool false) h2)) (Q (.bool false) h2)):FW SS 37 [(.int .i64 kind),(aa l)] h Q:=bG zX Tryz.func37 (aj hx)
end Go.Proofs.YtoabjjimjldcfaaGreatDoor
end
section
namespace Go.Num
theorem isRat_inf:isRat [105,110,102]=false:=by rfl
theorem isRat_below:isRat [45,105,110,102]=false:=by rfl
theorem Ei:isRat [48]=true:=by decide
theorem cmpRat_zero {a:List UInt8}(h:isRat a=true):cmpRat a [48]=0↔a=[48]:=by
 constructor
 ·intro e;unfold cmpRat at e;rw [if_pos ⟨h,Ei⟩] at e;have r:=isRat_iff.1 h;have e1:val (denOf [48])=1:=by decide
  have e2:val (numOf [48])=0:=by decide
  rw [e1,e2,Nat.mul_one,Nat.zero_mul,show isNeg [48]=false from rfl,Bool.not_false] at e;have hz:val (numOf a)=0:=by
   unfold plusS at e;by_cases hn:isNeg a=true
   ·rw [if_pos hn] at e;dsimp only at e;rw [add_zero] at e;by_cases h0:val (numOf a)=0
    ·exact h0
    ·rw [if_neg h0,if_pos hn] at e; exact absurd e (by decide)
   ·rw [if_neg hn,if_neg (Nat.not_lt_zero _)] at e;dsimp only at e;rw [Nat.sub_zero] at e;by_cases h0:val (numOf a)=0
    ·exact h0
    ·rw [if_neg h0,if_neg hn] at e; exact absurd e (by decide)
  have hn:=(jP r.num).2 hz;have hneg:isNeg a=false:=by
   cases g:isNeg a with
   | false=>rfl
   | true=>exact absurd ⟨g,hn⟩ r.neg
  have hd:denOf a=[49]:=by
   refine (yM r.den).2 ?_;have:=r.one;rw [hz,Nat.gcd_zero_left] at this;exact this
  have hs:hasStroke a=false:=by
   cases g:hasStroke a with
   | false=>rfl
   | true=>exact absurd ⟨g,.inr hd⟩ r.fr
  have ha:afterNeg a=a:=by unfold afterNeg; rw [hneg]; rfl
  unfold numOf at hn;unfold hasStroke at hs;rw [ha] at hn hs;rw [take_of_length_le (by have:=dF hs; omega)] at hn;exact hn
 ·rintro rfl; decide
def weightOk (kind:Int)(a:List UInt8):Bool:=decide (1<=kind/\kind<=3) && isRat a && (kind == 1 || decide (0 < cmpRat a [48]))
end Go.Num
end
section
set_option linter.unusedVariables false
set_option maxRecDepth 100000
namespace Go.Proofs.YtoabjjimjldcfaaGreatDoor
open Go Go.Ab
theorem bO {P:Program}{t:TypeId}{n:Nat}(hs:an P t=some n){h:Heap}{k:Nat}{cs0:List Value}(hl:cs0.length=n)(hk:h.get k=some (.cells cs0 t 0 true)){cs:List Value}(hc:cs.length=n)(hv:cs.all bw=true):ai P t (.pointer (some ⟨k,0,none⟩)) (.agg ⟨cs⟩) h=some (undef,.set k (.cells cs t 0 true)):=by
 unfold ai;dsimp only;have e1:(Value.agg ⟨cs⟩).cells.size=n:=by show cs.toArray.size=n; simpa using hc
 have e2:(Value.agg ⟨cs⟩).cells.toList=cs:=rfl;rw [if_pos (by rw [e1,hs])];unfold storeAt;rw [hk,e2]; dsimp only;rw [if_pos ⟨by omega,hv⟩,drop_eq_nil_of_le (by omega)];simp
theorem cG {h0 h:Heap}(w:Wf h0)(o:Ok h0 h){k:Nat}{t:TypeId}{cs0 cs:List Value}(hk:h.get k=some (.cells cs0 t 0 true))(hn:h0.next<=k):Ok h0 ((Upd.set k (.cells cs t 0 true)).app h)/\((Upd.set k (.cells cs t 0 true)).app h).get k=some (.cells cs t 0 true):=by
 refine ⟨o.set _ hn (o.wf _ _ hk) w,?_⟩;show (h.set k _).get k=_;rw [Heap.get_set,if_pos rfl]
theorem aq (h:Heap)(B:Blk):(h.push B).get h.next=some B:=by rw [Heap.get_push,if_pos rfl]
def wK (i:Nat):Value:= .func (.func i) ⟨[]⟩ ⟨[]⟩
def iz:List Value:=[aa [],aa [],.bool false,.nilFunc,.nilFunc,.nilFunc,.nilFunc,.nilFunc]
def sY:List Value:=[aa [105,110,102],aa [48],.bool true,wK 94,wK 95,wK 96,wK 97,wK 97]
def sU:List Value:=[aa [48],aa [49],.bool false,wK 98,wK 99,wK 100,wK 101,wK 102]
def tj:List Value:=[aa [48],aa [49],.bool false,wK 94,wK 99,wK 103,wK 101,wK 102]
def sj:List Value:=iz++sY++sU++tj
def Pr:Blk:= .cells (iz++iz++iz++iz) 85 0 true
def FI:Blk:= .cells iz 68 0 true
theorem Qp:aF SS.P 85=some (Pr,iy):=by kernel_rfl
theorem Mz:aF SS.P 68=some (FI,iy):=by kernel_rfl
theorem Nm:an SS.P 85=some 32:=by kernel_rfl
theorem Bs:an SS.P 68=some 8:=by kernel_rfl
theorem QZ:Go.Ab.isAgg SS.P 85=true:=by kernel_rfl
theorem Q5:Go.Ab.isAgg SS.P 68=true:=by kernel_rfl
noncomputable def PA:TypeDesc:=(SS.P.underlying 85).getD .bool
theorem Q4:SS.P.underlying 85=some PA:=by kernel_rfl
noncomputable def PD:TypeDesc:=(SS.P.underlying 68).getD .bool
theorem QY:SS.P.underlying 68=some PD:=by kernel_rfl
noncomputable def Pg:TypeDesc:=(SS.P.underlying 66).getD .bool
theorem Qt:SS.P.underlying 66=some Pg:=by kernel_rfl
theorem QW:Go.Ab.isAgg SS.P 66=false:=by kernel_rfl
theorem Ou:aI SS.P 68 [(0,(aa [105,110,102])),(1,(aa [48])),(2,(.bool true)),(3,(.func (.func 94) ⟨[]⟩ ⟨[]⟩)),(4,(.func (.func 95) ⟨[]⟩ ⟨[]⟩)),(5,(.func (.func 96) ⟨[]⟩ ⟨[]⟩)),(6,(.func (.func 97) ⟨[]⟩ ⟨[]⟩)),(7,(.func (.func 97) ⟨[]⟩ ⟨[]⟩))]=some (.agg ⟨sY⟩):=by kernel_rfl
theorem Ol:aI SS.P 68 [(0,(aa [48])),(1,(aa [49])),(2,(.bool false)),(3,(.func (.func 98) ⟨[]⟩ ⟨[]⟩)),(4,(.func (.func 99) ⟨[]⟩ ⟨[]⟩)),(5,(.func (.func 100) ⟨[]⟩ ⟨[]⟩)),(6,(.func (.func 101) ⟨[]⟩ ⟨[]⟩)),(7,(.func (.func 102) ⟨[]⟩ ⟨[]⟩))]=some (.agg ⟨sU⟩):=by kernel_rfl
theorem Oj:aI SS.P 68 [(0,(aa [48])),(1,(aa [49])),(2,(.bool false)),(3,(.func (.func 94) ⟨[]⟩ ⟨[]⟩)),(4,(.func (.func 99) ⟨[]⟩ ⟨[]⟩)),(5,(.func (.func 103) ⟨[]⟩ ⟨[]⟩)),(6,(.func (.func 101) ⟨[]⟩ ⟨[]⟩)),(7,(.func (.func 102) ⟨[]⟩ ⟨[]⟩))]=some (.agg ⟨tj⟩):=by kernel_rfl
theorem Jq:aI SS.P 68 []=some (.agg ⟨iz⟩):=by kernel_rfl
theorem QH:aI SS.P 85 [(1,(.agg ⟨sY⟩)),(2,(.agg ⟨sU⟩)),(3,(.agg ⟨tj⟩))]=some (.agg ⟨sj⟩):=by kernel_rfl
theorem Bz {h:Heap}(w:Wf h):FW SS 75 [] h (fun v h'=>v = .agg ⟨sj⟩/\Ok h h'):=by
 have hk:(h.push Pr).get h.next=some (.cells (iz++iz++iz++iz) 85 0 true):=aq h Pr;refine CS h _ ⟨_,Qp,_,Ou,_,Ol,_,Oj,_,QH,_,bO Nm (by rfl) hk (cs:=sj) (by rfl) (by rfl),?_⟩;obtain ⟨o,g⟩:=cG (cs:=sj) w ((Ok.refl w).push Pr) hk (le_refl _);refine nC (v:= .agg ⟨sj⟩) (fJ Q4 QZ Nm g (by simp [sj,iz,sY,sU,tj])) ?_;exact ⟨rfl,o⟩
def Nj (kind:Int):Value:=if kind=1 then .tuple ⟨[.agg ⟨sY⟩,.bool true]⟩ else if kind=2 then .tuple ⟨[.agg ⟨sU⟩,.bool true]⟩ else if kind=3 then .tuple ⟨[.agg ⟨tj⟩,.bool true]⟩ else .tuple ⟨[.agg ⟨iz⟩,.bool false]⟩
theorem vv {h0:Heap}(w:Wf h0){g:Heap}(o:Ok h0 g){k:Nat}{cs0:List Value}(hl:cs0.length=8)(hk:g.get k=some (.cells cs0 68 0 true))(hn:h0.next<=k){cs:List Value}(hc:cs.length=8)(hv:cs.all bw=true)(okb:Bool){Q:VH}(hq: ∀ g',Ok h0 g'->Q (.tuple ⟨[.agg ⟨cs⟩,.bool okb]⟩) g'):
  ∃ u:Upd,ai SS.P 68 (.pointer (some ⟨k,0,none⟩)) (.agg ⟨cs⟩) g=some (undef,u)/\cX SS [(.pointer (some ⟨k,0,none⟩),some 68),(.bool okb,none)] (u.app g) Q:=by
 refine ⟨_,bO Bs hl hk hc hv,?_⟩;obtain ⟨o,g⟩:=cG (cs:=cs) w o hk hn;refine rH (v:= .agg ⟨cs⟩) (by rw [fJ QY Q5 Bs g (by omega),drop_zero,take_of_length_le (by omega)]) ?_;exact hq _ o
theorem Cn (kind:Int){h:Heap}(w:Wf h):FW SS 57 [.int .i64 kind] h (fun v h'=>v=Nj kind/\Ok h h'):=by
 have o0:=(Ok.refl w).push FI;have k0:=aq h FI;refine JP kind h _ ⟨_,Mz,ae (fun g=> ?_) (fun g=>ae (fun g2=> ?_) (fun g2=> ?_))⟩
 ·have g:=dT g;refine ⟨_,Jq,vv w o0 rfl k0 (le_refl _) rfl rfl false (fun _ o=>⟨?_,o⟩)⟩;unfold Nj; rw [if_neg (by omega),if_neg (by omega),if_neg (by omega)]
 ·have g2:=dT g2;refine ⟨_,Jq,vv w o0 rfl k0 (le_refl _) rfl rfl false (fun _ o=>⟨?_,o⟩)⟩;unfold Nj; rw [if_neg (by omega),if_neg (by omega),if_neg (by omega)]
 ·have g:=dF g;have g2:=dF g2;refine (Bz o0.wf).mono ?_;rintro _ h1 ⟨rfl,o1⟩;have k1:=o1.ext _ _ k0;have ok:=o0.trans o1;obtain rfl | rfl | rfl:kind=1\/kind=2\/kind=3:=by omega
  ·exact ⟨_,rfl,sY,by kernel_rfl,vv w ok rfl k1 (le_refl _) rfl rfl true (fun _ o=>⟨rfl,o⟩)⟩
  ·exact ⟨_,rfl,sU,by kernel_rfl,vv w ok rfl k1 (le_refl _) rfl rfl true (fun _ o=>⟨rfl,o⟩)⟩
  ·exact ⟨_,rfl,tj,by kernel_rfl,vv w ok rfl k1 (le_refl _) rfl rfl true (fun _ o=>⟨rfl,o⟩)⟩
theorem nw (l:List UInt8)(hl:l.length<=1000000000){h:Heap}(tb:Tab h)(w:Wf h):FW SS 102 [aa l] h (fun v h'=>v = .bool (Num.isRat l && decide (0 < Num.cmpRat l [48]))/\Ok h h'):=by
 refine wv l h _ ((sX l hl tb w).mono ?_);rintro _ h1 ⟨rfl,o1⟩;refine ⟨_,rfl,ae (fun g=> ?_) (fun g=> ?_)⟩
 ·refine (HK l [48] hl (by simp) (tb.ok o1) o1.wf).mono ?_;rintro _ h2 ⟨rfl,o2⟩;refine ⟨_,rfl,?_,o1.trans o2⟩;rw [g,Bool.true_and]
 ·refine ⟨?_,o1⟩;rw [g,Bool.false_and]
theorem PQ {b:Bool}{A B:Prop}(hb:b=true)(a:A):au b A B:=ae (fun _=>a) (fun e=>by rw [hb] at e; cases e)
theorem yg {f:Nat}{args:List Value}{h:Heap}{K:VH}(hf:Nat.blt f YB=true)(hx:FW SS f args h fun v h'=> ∃ b:Bool,v = .bool b/\K (.bool b) h'):au (Nat.blt f YB) (FW SS f ([]++args++[]) h fun v h'=> ∃ b:Bool,v = .bool b/\K (.bool b) h') False:=
 PQ hf (by rw [List.nil_append,List.append_nil]; exact hx)
theorem mg (kind:Int)(l:List UInt8)(hl:l.length<=1000000000){h:Heap}(tb:Tab h)(w:Wf h):FW SS 34 [.int .i64 kind,aa l] h (fun v h'=>v = .bool (Num.weightOk kind l)/\Ok h h'):=by
 refine zM kind l h _ ((Cn kind w).mono ?_);rintro _ h1 ⟨rfl,o1⟩;have key: ∀ (cs:List Value)(f:Nat),cs.length=8->cs.all bw=true->cs.getD 7 undef=wK f->Nat.blt f YB=true->(∀ g,Ok h g->FW SS f [aa l] g (fun v h'=>v = .bool (Num.weightOk kind l)/\Ok g h'))->Nj kind = .tuple ⟨[.agg ⟨cs⟩,.bool true]⟩-> ∃ cs3:List Value,∃ b4:Bool,Nj kind=(.tuple ⟨[(.agg ⟨cs3⟩),(.bool b4)]⟩)/\ ∃ B5:Blk,aF SS.P 68=some (B5,iy)/\ ∃ u6:Upd,ai SS.P 68 (.pointer (some ⟨h1.next,0,none⟩)) (.agg ⟨cs3⟩) (h1.push B5)=some (undef,u6)/\au b4 (∃ p7:Addr,af SS.P 68 (.pointer (some ⟨h1.next,0,none⟩)) 7=some (.pointer (some p7))/\ ∃ (g8:Nat)(a9 c10:List Value),ah SS.P 66 (u6.app (h1.push B5)) (.pointer (some p7))=some (.func (.func g8) ⟨a9⟩ ⟨c10⟩)/\au (Nat.blt g8 YB) (FW SS g8 (a9++[(aa l)]++c10) (u6.app (h1.push B5)) fun v11 h12=> ∃ b13:Bool,v11=(.bool b13)/\(Value.bool b13 = .bool (Num.weightOk kind l)/\Ok h h12)) False) (Value.bool false = .bool (Num.weightOk kind l)/\Ok h (u6.app (h1.push B5))):=by
  intro cs f hc hv hf hY hw e;refine ⟨_,_,e,_,Mz,_,bO Bs rfl (aq h1 FI) hc hv,ae (fun _=> ?_) (fun g=>by cases g)⟩;obtain ⟨o,g⟩:=cG (cs:=cs) o1.wf ((Ok.refl o1.wf).push FI) (aq h1 FI) (le_refl _);have hld:=cH Qt QW g (i:=7) (by omega);rw [hf] at hld;refine ⟨⟨h1.next,7,none⟩,by kernel_rfl,f,[],[],hld,?_⟩;refine yg (K:=fun v h12=>v = .bool (Num.weightOk kind l)/\Ok h h12) hY ((hw _ (o1.trans o)).mono ?_);rintro _ h2 ⟨rfl,o2⟩;exact ⟨_,rfl,rfl,(o1.trans o).trans o2⟩
 by_cases g1:kind=1
 ·subst g1;refine key sY 97 rfl rfl rfl (by decide +kernel) (fun g o=> ?_) rfl;refine (sX l hl (tb.ok o) o.wf).mono ?_;rintro _ h2 ⟨rfl,o2⟩;refine ⟨?_,o2⟩;unfold Num.weightOk; simp
 by_cases g2:kind=2
 ·subst g2;refine key sU 102 rfl rfl rfl (by decide +kernel) (fun g o=> ?_) rfl;refine (nw l hl (tb.ok o) o.wf).mono ?_;rintro _ h2 ⟨rfl,o2⟩;refine ⟨?_,o2⟩;unfold Num.weightOk; simp
 by_cases g3:kind=3
 ·subst g3;refine key tj 102 rfl rfl rfl (by decide +kernel) (fun g o=> ?_) rfl;refine (nw l hl (tb.ok o) o.wf).mono ?_;rintro _ h2 ⟨rfl,o2⟩;refine ⟨?_,o2⟩;unfold Num.weightOk; simp
 ·have e:Nj kind = .tuple ⟨[.agg ⟨iz⟩,.bool false]⟩:=by unfold Nj; rw [if_neg g1,if_neg g2,if_neg g3]
  refine ⟨_,_,e,_,Mz,_,bO Bs rfl (aq h1 FI) (cs:=iz) rfl rfl,ae (fun g=>by cases g) (fun _=> ?_)⟩;obtain ⟨o,g⟩:=cG (cs:=iz) o1.wf ((Ok.refl o1.wf).push FI) (aq h1 FI) (le_refl _);refine ⟨?_,o1.trans o⟩;unfold Num.weightOk;rw [decide_eq_false (by omega)]; rfl
theorem zk (kind:Int)(l:List UInt8)(hl:l.length<=1000000000){h:Heap}(w:Wf h):FW SS 58 [.int .i64 kind,aa l] h (fun v h'=>v = .bool (decide (1<=kind/\kind<=3) && (l == [105,110,102] || l == [45,105,110,102] && kind == 1 || Num.isRat l && (kind == 1 || decide (0<=Num.cmpRat l [48]))))/\Ok h h'):=by
 have hk:FW SS 36 [.int .i64 kind] h (fun v h'=>v = .bool (decide (1<=kind/\kind<=3))/\h'=h):=by
  refine th kind h _ (ae (fun g=>⟨?_,rfl⟩) (fun g=>⟨?_,rfl⟩))
  ·have g:=dT g;congr 1; exact decide_eq_decide.2 ⟨fun c=>⟨g,c⟩,fun c=>c.2⟩
  ·have g:=dF g;rw [decide_eq_false (by omega)]
 refine AE kind l h _ (hk.mono ?_);rintro _ g0 ⟨rfl,e0⟩;obtain rfl:h=g0:=e0.symm;refine ⟨_,rfl,ae (fun g=>⟨?_,Ok.refl w⟩) (fun g=> ?_)⟩
 ·rw [not_eq_true'] at g; rw [g]; rfl
 rw [not_eq_false'] at g;rw [g,Bool.true_and];refine ae (fun g1=>ae (fun _=>⟨?_,Ok.refl w⟩) (fun g2=>by rw [g1] at g2; cases g2)) (fun g1=>ae (fun g2=>ae (fun g3=>by rw [g1] at g3; cases g3) (fun _=>⟨?_,Ok.refl w⟩)) (fun g2=> ?_))
 ·rw [g1]; rfl
 ·rw [g1,g2];rw [show l=[45,105,110,102] by simpa using g2,Num.isRat_below]; simp
 ·rw [g1,g2];refine (Ap l hl w).mono ?_;rintro _ h1 ⟨rfl,o1⟩;refine ⟨_,rfl,ae (fun g3=>ae (fun g4=>⟨?_,o1⟩) (fun g4=> ?_)) (fun g3=>⟨?_,o1⟩)⟩
  ·rw [g3,g4]; rfl
  ·refine (EK l [48] hl (by simp) o1.wf).mono ?_;rintro _ h2 ⟨rfl,o2⟩;refine ⟨_,rfl,?_,o1.trans o2⟩;rw [g3,g4]; simp
  ·rw [g3]; rfl
theorem kG (kind:Int)(l:List UInt8)(hl:l.length<=1000000000){h:Heap}(w:Wf h):FW SS 37 [.int .i64 kind,aa l] h (fun v h'=>v = .bool (Num.weightOk kind l)/\Ok h h'):=by
 refine wX kind l h _ ((zk kind l hl w).mono ?_);rintro _ h1 ⟨rfl,o1⟩;have e1:(l == [105,110,102])=true->Num.isRat l=false:=fun e=>by rw [show l=[105,110,102] by simpa using e]; exact Num.isRat_inf
 have e2:(l == [45,105,110,102])=true->Num.isRat l=false:=fun e=>by rw [show l=[45,105,110,102] by simpa using e]; exact Num.isRat_below
 unfold Num.weightOk;generalize decide (1<=kind/\kind<=3)=K;refine ⟨_,rfl,ae (fun g=> ?_) (fun g=>⟨?_,o1⟩)⟩
 ·refine ae (fun g1=>ae (fun g2=> ?_) (fun g2=>⟨?_,o1⟩)) (fun g1=>⟨?_,o1⟩)
  ·have g1:(l == [105,110,102])=false:=by simpa using g1
   have g2:(l == [45,105,110,102])=false:=by simpa using g2
   rw [g1,g2] at g;simp only [Bool.false_or,Bool.false_and,and_eq_true] at g;obtain ⟨q1,q2,q3⟩:=g;rw [q1,q2];refine ae (fun g3=>⟨?_,o1⟩) (fun g3=>⟨?_,o1⟩)
   ·rw [g3]; rfl
   ·rw [g3] at q3 ⊢;simp only [Bool.false_or,decide_eq_true_eq] at q3;have:=Num.cmpRat_zero q2;congr 1;by_cases h0:l=[48]
    ·have h1:=this.2 h0;rw [h1,h0]; rfl
    ·have h1: ¬ Num.cmpRat l [48]=0:=fun c=>h0 (this.1 c);rw [decide_eq_true (by omega:0 < Num.cmpRat l [48])];simpa using h0
  ·rw [e2 (by simpa using g2)]; simp
  ·rw [e1 (by simpa using g1)]; simp
 ·congr 1
  cases K with
  | false=>rfl
  | true=>
   rw [Bool.true_and] at g ⊢;simp only [Bool.or_eq_false_iff,Bool.and_eq_false_iff] at g;obtain ⟨⟨q1,q2⟩,q3⟩:=g;rcases q3 with q3 | ⟨q3,q4⟩
   ·rw [q3]; rfl
   ·have q4:=dF q4;rw [q3,decide_eq_false (by omega)]; simp
end Go.Proofs.YtoabjjimjldcfaaGreatDoor
end
section
namespace Go.Ab
open Go
def mJ:Value:= .slice (some ⟨0,0,some 0⟩) 0 0
def RdN (h:Heap)(e:TypeId)(sz:Nat)(v:Value)(rs:List (List Value)):Prop:=
 (∀ r∈rs,r.length=sz)/\(((v = .slice none 0 0\/v=mJ)/\rs=[])\/ ∃ k off cs e' z c wr,v = .slice (some ⟨k,off,none⟩) rs.length c/\h.get k=some (.cells cs e' z wr)/\off+rs.length*sz<=cs.length/\ ∀ (i:Nat)(r:List Value),rs[i]?=some r->(cs.drop (off+i*sz)).take sz=r)
theorem RdN.ok {h h':Heap}{e:TypeId}{sz:Nat}{v:Value}{rs:List (List Value)}(r:RdN h e sz v rs)(o:Ok h h'):RdN h' e sz v rs:=by
 obtain ⟨r1,r | ⟨k,off,cs,e',z,c,wr,h1,h2,h3,h4⟩⟩:=r
 ·exact ⟨r1,.inl r⟩
 ·exact ⟨r1,.inr ⟨k,off,cs,e',z,c,wr,h1,o.ext _ _ h2,h3,h4⟩⟩
theorem RdN.len {h:Heap}{e:TypeId}{sz:Nat}{a:Option Addr}{n c:Nat}{rs:List (List Value)}(r:RdN h e sz (.slice a n c) rs):n=rs.length:=by
 obtain ⟨_,⟨h1 | h1,rfl⟩ | ⟨k,off,cs,e',z,c,wr,h1,h2,h3,h4⟩⟩:=r
 ·injection h1
 ·unfold mJ at h1; injection h1
 ·injection h1
theorem RdN.slc {h:Heap}{e:TypeId}{sz:Nat}{v:Value}{rs:List (List Value)}(r:RdN h e sz v rs): ∃ (a:Option Addr)(c:Nat),v = .slice a rs.length c:=by
 obtain ⟨_,⟨h1 | h1,rfl⟩ | ⟨k,off,cs,e',z,c,wr,h1,h2,h3,h4⟩⟩:=r
 ·exact ⟨_,_,h1⟩
 ·exact ⟨_,_,h1⟩
 ·exact ⟨_,_,h1⟩
theorem RdN.at_ {P:Program}{t e:TypeId}{d:TypeDesc}{sz:Nat}(hU:P.underlying t=some (.slice e))(hs:an P e=some sz)(hd:P.underlying e=some d)(hg:isAgg P e=true){h:Heap}{v:Value}{rs:List (List Value)}(r:RdN h e sz v rs){ik:IntKind}{i:Int}(h0:0<=i)(h1:i < rs.length):
  ∃ (k o:Nat),ag P t v (.int ik i)=some (.pointer (some ⟨k,o,none⟩))/\ah P e h (.pointer (some ⟨k,o,none⟩))=some (.agg ⟨rs.getD i.toNat []⟩)/\
   ∀ (t':TypeId)(d':TypeDesc)(j:Nat),P.underlying t'=some d'->isAgg P t'=false->j < sz->ah P t' h (.pointer (some ⟨k,o+j,none⟩))=some ((rs.getD i.toNat []).getD j undef):=by
 obtain ⟨hl,⟨_,rfl⟩ | ⟨b,off,cs,e',z,c,wr,rfl,h3,h4,h5⟩⟩:=r
 ·simp at h1; omega
 ·have hi:i.toNat < rs.length:=by omega
  have h6:rs[i.toNat]?=some (rs.getD i.toNat []):=by rw [gD,gE hi]; rfl
  have h7:=h5 _ _ h6;have h9:(i.toNat+1)*sz<=rs.length*sz:=Nat.mul_le_mul_right _ hi;rw [add_mul,Nat.one_mul] at h9;obtain ⟨q,hq⟩: ∃ q,q=i.toNat*sz:=⟨_,rfl⟩
  rw [<-hq] at h7 h9;refine ⟨b,off+q,?_,?_,fun t' d' j hU' ha' hj=> ?_⟩
  ·have:=zD (P:=P) hU hs (k:=b) (off:=off) (n:=rs.length) (c:=c) (ik:=ik) h0 h1;rw [this,hq]
  ·rw [fJ hd hg hs h3 (by omega),h7]
  ·rw [cH hU' ha' h3 (by omega),<-h7,gD,gD,List.getElem?_take,if_pos hj,List.getElem?_drop]
end Go.Ab
end
section
set_option linter.unusedVariables false
set_option maxRecDepth 100000
namespace Go.Proofs.YtoabjjimjldcfaaGreatDoor
open Go Go.Ab
section
def ArcRow (h:Heap)(v:Value)(l:List MArc):Prop:=RdN h 39 4 v (l.map aD)
def gG (p:MSt×Value):List Value:=[aa p.1.f,p.2]
def StRow (h:Heap)(v:Value)(l:List MSt):Prop:= ∃ ps:List (MSt×Value),ps.map (·.1)=l/\RdN h 37 2 v (ps.map gG)/\(∀ p∈ps,ArcRow h p.2 p.1.arcs)/\v≠mJ
theorem StRow.ok {h h':Heap}{v:Value}{l:List MSt}(r:StRow h v l)(o:Ok h h'):StRow h' v l:=by
 obtain ⟨ps,h1,h2,h3,h4⟩:=r;exact ⟨ps,h1,h2.ok o,fun p hp=>RdN.ok (h3 p hp) o,h4⟩
theorem StRow.len {h:Heap}{a:Option Addr}{n c:Nat}{l:List MSt}(r:StRow h (.slice a n c) l):n=l.length:=by
 obtain ⟨ps,h1,h2,h3,_⟩:=r;rw [h2.len,lM,<-h1,lM]
theorem uU:SS.P.underlying 22=some (.slice 37):=by kernel_rfl
theorem tR:SS.P.underlying 35=some (.slice 39):=by kernel_rfl
theorem wk:an SS.P 37=some 2:=by kernel_rfl
theorem pz:an SS.P 39=some 4:=by kernel_rfl
theorem ej:an SS.P 24=some 4:=by kernel_rfl
theorem Oy:Go.Ab.isAgg SS.P 37=true:=by kernel_rfl
theorem In:Go.Ab.isAgg SS.P 39=true:=by kernel_rfl
theorem vV:Go.Ab.isAgg SS.P 24=true:=by kernel_rfl
theorem Dr:Go.Ab.isAgg SS.P 22=false:=by kernel_rfl
theorem Gv:Go.Ab.isAgg SS.P 35=false:=by kernel_rfl
noncomputable def O8:TypeDesc:=(SS.P.underlying 37).getD .bool
theorem OC:SS.P.underlying 37=some O8:=by kernel_rfl
noncomputable def PL:TypeDesc:=(SS.P.underlying 39).getD .bool
theorem F9:SS.P.underlying 39=some PL:=by kernel_rfl
noncomputable def PN:TypeDesc:=(SS.P.underlying 24).getD .bool
theorem wC:SS.P.underlying 24=some PN:=by kernel_rfl
theorem eu (k:Nat):af SS.P 24 (.pointer (some ⟨k,0,none⟩)) 0=some (.pointer (some ⟨k,0,none⟩)):=by kernel_rfl
theorem dG (k:Nat):af SS.P 24 (.pointer (some ⟨k,0,none⟩)) 1=some (.pointer (some ⟨k,1,none⟩)):=by kernel_rfl
theorem jq (k:Nat):af SS.P 24 (.pointer (some ⟨k,0,none⟩)) 2=some (.pointer (some ⟨k,2,none⟩)):=by kernel_rfl
theorem aM (k:Nat):af SS.P 24 (.pointer (some ⟨k,0,none⟩)) 3=some (.pointer (some ⟨k,3,none⟩)):=by kernel_rfl
theorem fY (k o:Nat):af SS.P 37 (.pointer (some ⟨k,o,none⟩)) 0=some (.pointer (some ⟨k,o+0,none⟩)):=by kernel_rfl
theorem bm (k o:Nat):af SS.P 37 (.pointer (some ⟨k,o,none⟩)) 1=some (.pointer (some ⟨k,o+1,none⟩)):=by kernel_rfl
theorem hJ (k o:Nat):af SS.P 39 (.pointer (some ⟨k,o,none⟩)) 0=some (.pointer (some ⟨k,o+0,none⟩)):=by kernel_rfl
theorem iM (k o:Nat):af SS.P 39 (.pointer (some ⟨k,o,none⟩)) 1=some (.pointer (some ⟨k,o+1,none⟩)):=by kernel_rfl
theorem mh (k o:Nat):af SS.P 39 (.pointer (some ⟨k,o,none⟩)) 2=some (.pointer (some ⟨k,o+2,none⟩)):=by kernel_rfl
theorem cE (k o:Nat):af SS.P 39 (.pointer (some ⟨k,o,none⟩)) 3=some (.pointer (some ⟨k,o+3,none⟩)):=by kernel_rfl
structure MB (g:Heap)(k:Nat)(M:Mach)(a:Option Addr)(n c:Nat):Prop where
 box:g.get k=some (.cells [.int .i64 M.kind,.int .i64 M.start,aa M.lead,.slice a n c] 24 0 true)
 row:StRow g (.slice a n c) M.states
section
variable {g g':Heap} {k:Nat} {M:Mach} {a:Option Addr} {n c:Nat}
theorem MB.ok (m:MB g k M a n c)(o:Ok g g'):MB g' k M a n c:=⟨o.ext _ _ m.box,m.row.ok o⟩
theorem MB.l0 (m:MB g k M a n c):ah SS.P 3 g (.pointer (some ⟨k,0,none⟩))=some (.int .i64 M.kind):=cH CU BW m.box (by simp)
theorem MB.l1 (m:MB g k M a n c):ah SS.P 3 g (.pointer (some ⟨k,1,none⟩))=some (.int .i64 M.start):=cH CU BW m.box (by simp)
theorem MB.l2 (m:MB g k M a n c):ah SS.P 9 g (.pointer (some ⟨k,2,none⟩))=some (aa M.lead):=cH Ir Nl m.box (by simp)
theorem MB.l3 (m:MB g k M a n c):ah SS.P 22 g (.pointer (some ⟨k,3,none⟩))=some (.slice a n c):=cH uU Dr m.box (by simp)
theorem MB.all (m:MB g k M a n c):ah SS.P 24 g (.pointer (some ⟨k,0,none⟩))=some (.agg ⟨[.int .i64 M.kind,.int .i64 M.start,aa M.lead,.slice a n c]⟩):=fJ wC vV ej m.box (by simp)
theorem MB.len (m:MB g k M a n c):n=M.states.length:=m.row.len
end
theorem StRow.at_ {g:Heap}{a:Option Addr}{n c:Nat}{l:List MSt}(r:StRow g (.slice a n c) l){i:Nat}{s:MSt}(hs:l[i]?=some s):
  ∃ (b o:Nat)(x:Option Addr)(y z:Nat),ag SS.P 22 (.slice a n c) (.int .i64 (i:Int))=some (.pointer (some ⟨b,o,none⟩))/\ah SS.P 37 g (.pointer (some ⟨b,o,none⟩))=some (.agg ⟨[aa s.f,.slice x y z]⟩)/\
   ah SS.P 9 g (.pointer (some ⟨b,o+0,none⟩))=some (aa s.f)/\ah SS.P 35 g (.pointer (some ⟨b,o+1,none⟩))=some (.slice x y z)/\ArcRow g (.slice x y z) s.arcs:=by
 obtain ⟨ps,h1,h2,h3,_⟩:=r;rw [<-h1,List.getElem?_map] at hs;obtain ⟨p,hp,rfl⟩:=Option.map_eq_some_iff.1 hs;have hi:=(List.getElem?_eq_some_iff.1 hp).1;obtain ⟨b,o,e1,e2,e3⟩:=h2.at_ uU wk OC Oy (ik:= .i64) (i:=(i:Int)) (by omega) (by rw [lM]; omega);have e4:(ps.map gG).getD (i:Int).toNat []=gG p:=by
  rw [toNat_natCast,gD,List.getElem?_map,hp]; rfl
 rw [e4] at e2 e3;have ha:=h3 p (List.mem_of_getElem? hp);obtain ⟨x,z,hx⟩:=RdN.slc ha;have e5:=e3 9 _ 0 Ir Nl (by omega);have e6:=e3 35 _ 1 tR Gv (by omega);unfold gG at e2 e5 e6;rw [hx] at e2 e6 ha;exact ⟨b,o,x,_,z,e1,e2,e5,e6,ha⟩
theorem ArcRow.len {g:Heap}{x:Option Addr}{y z:Nat}{l:List MArc}(r:ArcRow g (.slice x y z) l):y=l.length:=by
 have:=RdN.len r; rwa [lM] at this
theorem ArcRow.ok {h h':Heap}{v:Value}{l:List MArc}(r:ArcRow h v l)(o:Ok h h'):ArcRow h' v l:=RdN.ok r o
theorem ArcRow.at_ {g:Heap}{x:Option Addr}{y z:Nat}{l:List MArc}(r:ArcRow g (.slice x y z) l){j:Nat}{q:MArc}(hs:l[j]?=some q):
  ∃ (b o:Nat),ag SS.P 35 (.slice x y z) (.int .i64 (j:Int))=some (.pointer (some ⟨b,o,none⟩))/\ah SS.P 39 g (.pointer (some ⟨b,o,none⟩))=some (.agg ⟨aD q⟩)/\
   ah SS.P 3 g (.pointer (some ⟨b,o+0,none⟩))=some (.int .i64 q.i)/\ah SS.P 3 g (.pointer (some ⟨b,o+1,none⟩))=some (.int .i64 q.o)/\ah SS.P 9 g (.pointer (some ⟨b,o+2,none⟩))=some (aa q.w)/\ah SS.P 3 g (.pointer (some ⟨b,o+3,none⟩))=some (.int .i64 q.t):=by
 have hj:=(List.getElem?_eq_some_iff.1 hs).1;obtain ⟨b,o,e1,e2,e3⟩:=RdN.at_ tR pz F9 In r (ik:= .i64) (i:=(j:Int)) (by omega) (by rw [lM]; omega);have e4:(l.map aD).getD (j:Int).toNat []=aD q:=by
  rw [toNat_natCast,gD,List.getElem?_map,hs]; rfl
 rw [e4] at e2 e3;exact ⟨b,o,e1,e2,e3 3 _ 0 CU BW (by omega),e3 3 _ 1 CU BW (by omega),e3 9 _ 2 Ir Nl (by omega),e3 3 _ 3 CU BW (by omega)⟩
def SB (g:Heap)(k:Nat)(f:List UInt8)(x:Option Addr)(y z:Nat):Prop:=g.get k=some (.cells [aa f,.slice x y z] 37 0 true)
theorem SB.ok {g g':Heap}{k:Nat}{f:List UInt8}{x:Option Addr}{y z:Nat}(s:SB g k f x y z)(o:Ok g g'):SB g' k f x y z:=o.ext _ _ s
theorem SB.l0 {g:Heap}{k:Nat}{f:List UInt8}{x:Option Addr}{y z:Nat}(s:SB g k f x y z):ah SS.P 9 g (.pointer (some ⟨k,0+0,none⟩))=some (aa f):=cH Ir Nl s (by simp)
theorem SB.l1 {g:Heap}{k:Nat}{f:List UInt8}{x:Option Addr}{y z:Nat}(s:SB g k f x y z):ah SS.P 35 g (.pointer (some ⟨k,0+1,none⟩))=some (.slice x y z):=cH tR Gv s (by simp)
def AB (g:Heap)(k:Nat)(q:MArc):Prop:=g.get k=some (.cells (aD q) 39 0 true)
theorem AB.ok {g g':Heap}{k:Nat}{q:MArc}(s:AB g k q)(o:Ok g g'):AB g' k q:=o.ext _ _ s
theorem AB.l0 {g:Heap}{k:Nat}{q:MArc}(s:AB g k q):ah SS.P 3 g (.pointer (some ⟨k,0+0,none⟩))=some (.int .i64 q.i):=cH CU BW s (by simp [aD])
theorem AB.l1 {g:Heap}{k:Nat}{q:MArc}(s:AB g k q):ah SS.P 3 g (.pointer (some ⟨k,0+1,none⟩))=some (.int .i64 q.o):=cH CU BW s (by simp [aD])
theorem AB.l2 {g:Heap}{k:Nat}{q:MArc}(s:AB g k q):ah SS.P 9 g (.pointer (some ⟨k,0+2,none⟩))=some (aa q.w):=cH Ir Nl s (by simp [aD])
theorem AB.l3 {g:Heap}{k:Nat}{q:MArc}(s:AB g k q):ah SS.P 3 g (.pointer (some ⟨k,0+3,none⟩))=some (.int .i64 q.t):=cH CU BW s (by simp [aD])
def vr:Blk:= .cells [aa [],.slice none 0 0] 37 0 true
theorem sD:aF SS.P 37=some (vr,iy):=by kernel_rfl
def CY:Blk:= .cells [.int .i64 0,.int .i64 0,aa [],.int .i64 0] 39 0 true
theorem xc:aF SS.P 39=some (CY,iy):=by kernel_rfl
theorem oX {h:Heap}(w:Wf h)(f:List UInt8)(x:Option Addr)(y z:Nat): ∃ u:Upd,ai SS.P 37 (.pointer (some ⟨h.next,0,none⟩)) (.agg ⟨[aa f,.slice x y z]⟩) (h.push vr)=some (undef,u)/\Ok h (u.app (h.push vr))/\SB (u.app (h.push vr)) h.next f x y z:=by
 obtain ⟨o,e⟩:=cG (cs:=[aa f,.slice x y z]) w ((Ok.refl w).push vr) (aq h vr) (le_refl _);exact ⟨_,bO wk rfl (aq h vr) rfl rfl,o,e⟩
theorem oU {h:Heap}(w:Wf h)(q:MArc): ∃ u:Upd,ai SS.P 39 (.pointer (some ⟨h.next,0,none⟩)) (.agg ⟨aD q⟩) (h.push CY)=some (undef,u)/\Ok h (u.app (h.push CY))/\AB (u.app (h.push CY)) h.next q:=by
 obtain ⟨o,e⟩:=cG (cs:=aD q) w ((Ok.refl w).push CY) (aq h CY) (le_refl _);exact ⟨_,bO pz rfl (aq h CY) rfl rfl,o,e⟩
def aC (M:Mach)(a:Option Addr)(n c:Nat):List Value:=[.int .i64 M.kind,.int .i64 M.start,aa M.lead,.slice a n c]
def Bm (M:Mach)(a:Option Addr)(n c:Nat):Blk:= .cells (aC M a n c) 24 0 true
theorem ei (M:Mach)(a:Option Addr)(n c:Nat):dc SS.P 24 (.agg ⟨aC M a n c⟩)=some (Bm M a n c,iy):=by kernel_rfl
theorem cD {h:Heap}(w:Wf h){M:Mach}{a:Option Addr}{n c:Nat}(r:StRow h (.slice a n c) M.states):MB (h.push (Bm M a n c)) h.next M a n c/\Ok h (h.push (Bm M a n c)):=
 ⟨⟨aq h _,r.ok ((Ok.refl w).push _)⟩,(Ok.refl w).push _⟩
def nl (s:Int):Bool:=decide (0<=s) && decide (s<=500)
def fF (kind:Int)(N:Nat)(a:MArc):Bool:=nl a.i && nl a.o && decide (0<=a.t) && decide (a.t < N) && Num.weightOk kind a.w
def my (kind:Int)(N:Nat):Int->List MSt->Bool
 | _,[]=>true
 | acc,s::r=>decide (acc+s.arcs.length<=30000) && (s.f == [] || Num.weightOk kind s.f) && s.arcs.all (fF kind N) && my kind N (acc+s.arcs.length) r
def bq (M:Mach):Bool:=decide (1<=M.kind) && decide (M.kind<=3) && decide (1<=M.states.length) && decide (M.states.length<=3000) && decide (0<=M.start) && decide (M.start < M.states.length) && Num.weightOk M.kind M.lead && my M.kind M.states.length 0 M.states
def kw (l:List MSt):Nat:=(l.map fun s=>s.arcs.length).sum
structure Small (M:Mach):Prop where
 lead:M.lead.length<=900
 sts:M.states.length<=300
 fin: ∀ s∈M.states,s.f.length<=900
 arcs: ∀ s∈M.states,s.arcs.length<=2000
 w: ∀ s∈M.states,∀ q∈s.arcs,q.w.length<=900
 tot:kw M.states<=2000
end
noncomputable def ID:FD:=bF Tryz.f35 []
theorem Gb (s:Int)(h:Heap)(Q:VH)(hx:au (decide ((s:Int)>=0)) (Q (.bool (decide ((s:Int)<=500))) h) (Q (.bool false) h)):FW SS 35 [(.int .i64 s)] h Q:=bG ID Tryz.func35 (aj hx)
noncomputable def bD:FD:=bF Tryz.f10 [([1,1,1,1,0,1,0,0],[1,2,3,4,48,49,50]),([1,1,1,1,0,1,0,0,1,1,0,0,1,1,1,1,0,0],[1,2,3,4,6,48,49,50,75,76,77])]
abbrev dL (k:Nat)(a:OA)(n c:Nat)(i:Nat)(acc:Int):LV:=[(pA k),(.bool false),(iA n),(.int .i64 acc),(.slice a n c),(iA n),(iA i)]
abbrev fb (k:Nat)(a:OA)(n c k2:Nat)(b:OA)(m d i:Nat)(acc:Int)(j:Nat):LV:=[(pA k),(.bool false),(iA n),(.int .i64 acc),(pA k2),(.slice a n c),(iA n),(iA i),(.slice b m d),(iA m),(iA j)]
theorem F3 (mv:LV)(h:Heap)(Q:VH)(hx:xN (dc SS.P 24 (.agg ⟨mv⟩)) h fun B1 g2=>xP (af SS.P 24 (pA (h.next)) 3) fun p3=>xL (ah SS.P 22 g2 (.pointer (some p3))) fun a4 n5 c6=>xP (af SS.P 24 (pA (h.next)) 0) fun p7=>xI .i64 (ah SS.P 3 g2 (.pointer (some p7))) fun n8=>au (decide ((n8:Int) < 1)) (Q (.bool false) g2) (xP (af SS.P 24 (pA (h.next)) 0) fun p9=>xI .i64 (ah SS.P 3 g2 (.pointer (some p9))) fun n10=>au (decide ((n10:Int) > 3)) (Q (.bool false) g2) (au (decide (((n5:Int):Int) < 1)) (Q (.bool false) g2) (au (decide (((n5:Int):Int) > 3000)) (Q (.bool false) g2) (xP (af SS.P 24 (pA (h.next)) 1) fun p11=>xI .i64 (ah SS.P 3 g2 (.pointer (some p11))) fun n12=>au (decide ((n12:Int) < 0)) (Q (.bool false) g2) (xP (af SS.P 24 (pA (h.next)) 1) fun p13=>xI .i64 (ah SS.P 3 g2 (.pointer (some p13))) fun n14=>au (decide ((n14:Int)>=(n5:Int))) (Q (.bool false) g2) (xP (af SS.P 24 (pA (h.next)) 0) fun p15=>xI .i64 (ah SS.P 3 g2 (.pointer (some p15))) fun n16=>xP (af SS.P 24 (pA (h.next)) 2) fun p17=>xS (ah SS.P 9 g2 (.pointer (some p17))) fun l18=>FW SS 34 [(.int .i64 n16),(aa l18)] g2 fun v19 h20=>yB v19 fun b21=>au (!b21) (Q (.bool false) h20) (xP (af SS.P 24 (pA (h.next)) 3) fun p22=>xL (ah SS.P 22 h20 (.pointer (some p22))) fun a23 n24 c25=>LL SS bD [1,1,1,1,0,1,0,0] [(pA (h.next)),(.bool false),(iA n5),(.int .i64 0),(.slice a23 n24 c25),(iA n24),(.int .i64 0)] h20 (KK SS bD [1,1,1,1,0,1,0] [] (EE SS bD Q)))))))))):FW SS 10 [(.agg ⟨mv⟩)] h Q:=bG bD Tryz.func10 (aj hx)
theorem rm (mv:LV)(k:Nat)(a:OA)(n c:Nat)(Inv:Nat->Nat->Int->Heap->Prop)(Q:VH)(step: ∀ (mz:Nat) (i:Nat) (acc:Int) (zz:Nat->Value) (h:Heap),Inv mz i acc h->au (decide (((i:Int):Int) < (n:Int))) (xP (ag SS.P 22 (.slice a n c) (iA i)) fun p26=>xA (ah SS.P 37 h (.pointer (some p26))) fun c27=>xN (aF SS.P 37) h fun B28 g29=>xU (ai SS.P 37 (pA (h.next)) (.agg ⟨c27⟩) g29) g29 fun u30 g31=>xP (af SS.P 37 (pA (h.next)) 1) fun p32=>xL (ah SS.P 35 g31 (.pointer (some p32))) fun a33 n34 c35=>au (decide ((wrap .i64 (acc+(n34:Int)):Int) > 30000)) (Q (.bool false) g31) (xP (af SS.P 37 (pA (h.next)) 0) fun p36=>xS (ah SS.P 9 g31 (.pointer (some p36))) fun l37=>au (!((l37:LB) == [])) (xP (af SS.P 24 (pA k) 0) fun p38=>xI .i64 (ah SS.P 3 g31 (.pointer (some p38))) fun n39=>xP (af SS.P 37 (pA (h.next)) 0) fun p40=>xS (ah SS.P 9 g31 (.pointer (some p40))) fun l41=>FW SS 34 [(.int .i64 n39),(aa l41)] g31 fun v42 h43=>yB v42 fun b44=>au (!b44) (Q (.bool false) h43) (xP (af SS.P 37 (pA (h.next)) 1) fun p45=>xL (ah SS.P 35 h43 (.pointer (some p45))) fun a46 n47 c48=>LL SS bD [1,1,1,1,0,1,0,0,1,1,0,0,1,1,1,1,0,0] (fb k a n c (h.next) a46 n47 c48 i (wrap .i64 (acc+(n34:Int))) 0) h43 (KK SS bD [1,1,0,0,1,1,1,1,0] [1,1,1,1,0,1,0,0] (RR bD [1,1,1,1,0,1,0,0] (qh (dL k a n c) Inv) mz (KK SS bD [1,1,1,1,0,1,0] [] (EE SS bD Q)))))) (xP (af SS.P 37 (pA (h.next)) 1) fun p49=>xL (ah SS.P 35 g31 (.pointer (some p49))) fun a50 n51 c52=>LL SS bD [1,1,1,1,0,1,0,0,1,1,0,0,1,1,1,1,0,0] (fb k a n c (h.next) a50 n51 c52 i (wrap .i64 (acc+(n34:Int))) 0) g31 (KK SS bD [1,1,0,0,1,1,1,1,0] [1,1,1,1,0,1,0,0] (RR bD [1,1,1,1,0,1,0,0] (qh (dL k a n c) Inv) mz (KK SS bD [1,1,1,1,0,1,0] [] (EE SS bD Q))))))) (Q (.bool true) h))(mz:Nat){i:Nat}{acc:Int}{h:Heap}(hi:Inv mz i acc h):LL SS bD [1,1,1,1,0,1,0,0] (dL k a n c i acc) h (KK SS bD [1,1,1,1,0,1,0] [] (EE SS bD Q)):=
 ki (dL k a n c) Inv (fun mz i acc zz h hi=>aj (step mz i acc zz h hi)) mz hi
theorem qJ (mv:LV)(k:Nat)(a:OA)(n c:Nat)(k2:Nat)(b:OA)(m d:Nat)(Inv:Nat->Nat->Int->Heap->Prop)(mz i:Nat)(acc:Int)(Inv2:Nat->Nat->Heap->Prop)(Q:VH)(step: ∀ (mz2:Nat) (j:Nat) (zz:Nat->Value) (h:Heap),Inv2 mz2 j h->au (decide (((j:Int):Int) < (m:Int))) (xP (ag SS.P 35 (.slice b m d) (iA j)) fun p53=>xA (ah SS.P 39 h (.pointer (some p53))) fun c54=>xN (aF SS.P 39) h fun B55 g56=>xU (ai SS.P 39 (pA (h.next)) (.agg ⟨c54⟩) g56) g56 fun u57 g58=>xP (af SS.P 39 (pA (h.next)) 0) fun p59=>xI .i64 (ah SS.P 3 g58 (.pointer (some p59))) fun n60=>FW SS 35 [(.int .i64 n60)] g58 fun v61 h62=>yB v61 fun b63=>au (!b63) (Q (.bool false) h62) (xP (af SS.P 39 (pA (h.next)) 1) fun p64=>xI .i64 (ah SS.P 3 h62 (.pointer (some p64))) fun n65=>FW SS 35 [(.int .i64 n65)] h62 fun v66 h67=>yB v66 fun b68=>au (!b68) (Q (.bool false) h67) (xP (af SS.P 39 (pA (h.next)) 3) fun p69=>xI .i64 (ah SS.P 3 h67 (.pointer (some p69))) fun n70=>au (decide ((n70:Int) < 0)) (Q (.bool false) h67) (xP (af SS.P 39 (pA (h.next)) 3) fun p71=>xI .i64 (ah SS.P 3 h67 (.pointer (some p71))) fun n72=>au (decide ((n72:Int)>=(n:Int))) (Q (.bool false) h67) (xP (af SS.P 24 (pA k) 0) fun p73=>xI .i64 (ah SS.P 3 h67 (.pointer (some p73))) fun n74=>xP (af SS.P 39 (pA (h.next)) 2) fun p75=>xS (ah SS.P 9 h67 (.pointer (some p75))) fun l76=>FW SS 34 [(.int .i64 n74),(aa l76)] h67 fun v77 h78=>yB v77 fun b79=>au (!b79) (Q (.bool false) h78) (ax (fA (fb k a n c k2 b m d i acc) Inv2) mz2 [(pA k),(.bool false),(iA n),(.int .i64 acc),(pA k2),(.slice a n c),(iA n),(iA i),(.slice b m d),(iA m),(.int .i64 (wrap .i64 ((j:Int)+1)))] h78)))))) (ax (qh (dL k a n c) Inv) mz [(pA k),(.bool false),(iA n),(.int .i64 acc),(.slice a n c),(iA n),(.int .i64 (wrap .i64 ((i:Int)+1)))] h))(mz2:Nat){j:Nat}{h:Heap}(hi:Inv2 mz2 j h):LL SS bD [1,1,1,1,0,1,0,0,1,1,0,0,1,1,1,1,0,0] (fb k a n c k2 b m d i acc j) h (KK SS bD [1,1,0,0,1,1,1,1,0] [1,1,1,1,0,1,0,0] (RR bD [1,1,1,1,0,1,0,0] (qh (dL k a n c) Inv) mz (KK SS bD [1,1,1,1,0,1,0] [] (EE SS bD Q)))):=
 bH (fb k a n c k2 b m d i acc) Inv2 (fun mz2 j zz h hi=>aj (step mz2 j zz h hi)) mz2 hi
noncomputable def bB:FD:=bF Tryz.f11 [([1,1,1,0,1,0,0],[1,2,3,4]),([1,1,1,0,1,0,0,1,0,0,1,1,1,1,0,0],[1,2,3,4,5,6])]
abbrev cU (k:Nat)(i:Nat)(acc:Int):LV:=[(pA k),(.bool false),(.int .i64 acc),(iA i)]
abbrev eJ (k k2 i:Nat)(acc:Int)(j:Nat):LV:=[(pA k),(.bool false),(.int .i64 acc),(iA i),(pA k2),(iA j)]
theorem GK (mv:LV)(h:Heap)(Q:VH)(hx:xN (dc SS.P 24 (.agg ⟨mv⟩)) h fun B1 g2=>xP (af SS.P 24 (pA (h.next)) 0) fun p3=>xI .i64 (ah SS.P 3 g2 (.pointer (some p3))) fun n4=>FW SS 36 [(.int .i64 n4)] g2 fun v5 h6=>yB v5 fun b7=>au (!b7) (Q (.bool false) h6) (xP (af SS.P 24 (pA (h.next)) 3) fun p8=>xL (ah SS.P 22 h6 (.pointer (some p8))) fun a9 n10 c11=>au (decide (((n10:Int):Int) < 1)) (Q (.bool false) h6) (xP (af SS.P 24 (pA (h.next)) 3) fun p12=>xL (ah SS.P 22 h6 (.pointer (some p12))) fun a13 n14 c15=>au (decide (((n14:Int):Int) > 3000)) (Q (.bool false) h6) (xP (af SS.P 24 (pA (h.next)) 1) fun p16=>xI .i64 (ah SS.P 3 h6 (.pointer (some p16))) fun n17=>au (decide ((n17:Int) < 0)) (Q (.bool false) h6) (xP (af SS.P 24 (pA (h.next)) 1) fun p18=>xI .i64 (ah SS.P 3 h6 (.pointer (some p18))) fun n19=>xP (af SS.P 24 (pA (h.next)) 3) fun p20=>xL (ah SS.P 22 h6 (.pointer (some p20))) fun a21 n22 c23=>au (decide ((n19:Int)>=(n22:Int))) (Q (.bool false) h6) (xP (af SS.P 24 (pA (h.next)) 0) fun p24=>xI .i64 (ah SS.P 3 h6 (.pointer (some p24))) fun n25=>xP (af SS.P 24 (pA (h.next)) 2) fun p26=>xS (ah SS.P 9 h6 (.pointer (some p26))) fun l27=>FW SS 37 [(.int .i64 n25),(aa l27)] h6 fun v28 h29=>yB v28 fun b30=>au (!b30) (Q (.bool false) h29) (LL SS bB [1,1,1,0,1,0,0] (cU (h.next) 0 0) h29 (KK SS bB [1,1,1,0,1,0] [] (EE SS bB Q))))))))):FW SS 11 [(.agg ⟨mv⟩)] h Q:=bG bB Tryz.func11 (aj hx)
theorem qm (mv:LV)(k:Nat)(Inv:Nat->Nat->Int->Heap->Prop)(Q:VH)(step: ∀ (mz:Nat) (i:Nat) (acc:Int) (zz:Nat->Value) (h:Heap),Inv mz i acc h->xP (af SS.P 24 (pA k) 3) fun p31=>xL (ah SS.P 22 h (.pointer (some p31))) fun a32 n33 c34=>au (decide (((i:Int):Int) < (n33:Int))) (xP (af SS.P 24 (pA k) 3) fun p35=>xL (ah SS.P 22 h (.pointer (some p35))) fun a36 n37 c38=>xP (ag SS.P 22 (.slice a36 n37 c38) (iA i)) fun p39=>xA (ah SS.P 37 h (.pointer (some p39))) fun c40=>xN (aF SS.P 37) h fun B41 g42=>xU (ai SS.P 37 (pA (h.next)) (.agg ⟨c40⟩) g42) g42 fun u43 g44=>xP (af SS.P 37 (pA (h.next)) 1) fun p45=>xL (ah SS.P 35 g44 (.pointer (some p45))) fun a46 n47 c48=>au (decide ((wrap .i64 (acc+(n47:Int)):Int) > 30000)) (Q (.bool false) g44) (xP (af SS.P 37 (pA (h.next)) 0) fun p49=>xS (ah SS.P 9 g44 (.pointer (some p49))) fun l50=>au (!((l50:LB) == [])) (xP (af SS.P 24 (pA k) 0) fun p51=>xI .i64 (ah SS.P 3 g44 (.pointer (some p51))) fun n52=>xP (af SS.P 37 (pA (h.next)) 0) fun p53=>xS (ah SS.P 9 g44 (.pointer (some p53))) fun l54=>FW SS 37 [(.int .i64 n52),(aa l54)] g44 fun v55 h56=>yB v55 fun b57=>au (!b57) (Q (.bool false) h56) (LL SS bB [1,1,1,0,1,0,0,1,0,0,1,1,1,1,0,0] (eJ k (h.next) i (wrap .i64 (acc+(n47:Int))) 0) h56 (KK SS bB [1,0,0,1,1,1,1,0] [1,1,1,0,1,0,0] (RR bB [1,1,1,0,1,0,0] (qh (cU k) Inv) mz (KK SS bB [1,1,1,0,1,0] [] (EE SS bB Q)))))) (LL SS bB [1,1,1,0,1,0,0,1,0,0,1,1,1,1,0,0] (eJ k (h.next) i (wrap .i64 (acc+(n47:Int))) 0) g44 (KK SS bB [1,0,0,1,1,1,1,0] [1,1,1,0,1,0,0] (RR bB [1,1,1,0,1,0,0] (qh (cU k) Inv) mz (KK SS bB [1,1,1,0,1,0] [] (EE SS bB Q))))))) (Q (.bool true) h))(mz:Nat){i:Nat}{acc:Int}{h:Heap}(hi:Inv mz i acc h):LL SS bB [1,1,1,0,1,0,0] (cU k i acc) h (KK SS bB [1,1,1,0,1,0] [] (EE SS bB Q)):=
 ki (cU k) Inv (fun mz i acc zz h hi=>aj (step mz i acc zz h hi)) mz hi
theorem rh (mv:LV)(k k2:Nat)(Inv:Nat->Nat->Int->Heap->Prop)(mz i:Nat)(acc:Int)(Inv2:Nat->Nat->Heap->Prop)(Q:VH)(step: ∀ (mz2:Nat) (j:Nat) (zz:Nat->Value) (h:Heap),Inv2 mz2 j h->xP (af SS.P 37 (pA k2) 1) fun p58=>xL (ah SS.P 35 h (.pointer (some p58))) fun a59 n60 c61=>au (decide (((j:Int):Int) < (n60:Int))) (xP (af SS.P 37 (pA k2) 1) fun p62=>xL (ah SS.P 35 h (.pointer (some p62))) fun a63 n64 c65=>xP (ag SS.P 35 (.slice a63 n64 c65) (iA j)) fun p66=>xA (ah SS.P 39 h (.pointer (some p66))) fun c67=>xN (aF SS.P 39) h fun FI g69=>xU (ai SS.P 39 (pA (h.next)) (.agg ⟨c67⟩) g69) g69 fun u70 g71=>xP (af SS.P 39 (pA (h.next)) 0) fun p72=>xI .i64 (ah SS.P 3 g71 (.pointer (some p72))) fun n73=>au (decide ((n73:Int) < 0)) (Q (.bool false) g71) (xP (af SS.P 39 (pA (h.next)) 0) fun p74=>xI .i64 (ah SS.P 3 g71 (.pointer (some p74))) fun n75=>au (decide ((n75:Int) > 500)) (Q (.bool false) g71) (xP (af SS.P 39 (pA (h.next)) 1) fun p76=>xI .i64 (ah SS.P 3 g71 (.pointer (some p76))) fun n77=>au (decide ((n77:Int) < 0)) (Q (.bool false) g71) (xP (af SS.P 39 (pA (h.next)) 1) fun p78=>xI .i64 (ah SS.P 3 g71 (.pointer (some p78))) fun n79=>au (decide ((n79:Int) > 500)) (Q (.bool false) g71) (xP (af SS.P 39 (pA (h.next)) 3) fun p80=>xI .i64 (ah SS.P 3 g71 (.pointer (some p80))) fun n81=>au (decide ((n81:Int) < 0)) (Q (.bool false) g71) (xP (af SS.P 39 (pA (h.next)) 3) fun p82=>xI .i64 (ah SS.P 3 g71 (.pointer (some p82))) fun n83=>xP (af SS.P 24 (pA k) 3) fun p84=>xL (ah SS.P 22 g71 (.pointer (some p84))) fun a85 n86 c87=>au (decide ((n83:Int)>=(n86:Int))) (Q (.bool false) g71) (xP (af SS.P 24 (pA k) 0) fun p88=>xI .i64 (ah SS.P 3 g71 (.pointer (some p88))) fun n89=>xP (af SS.P 39 (pA (h.next)) 2) fun p90=>xS (ah SS.P 9 g71 (.pointer (some p90))) fun l91=>FW SS 37 [(.int .i64 n89),(aa l91)] g71 fun v92 h93=>yB v92 fun b94=>au (!b94) (Q (.bool false) h93) (ax (fA (eJ k k2 i acc) Inv2) mz2 [(pA k),(.bool false),(.int .i64 acc),(iA i),(pA k2),(.int .i64 (wrap .i64 ((j:Int)+1)))] h93)))))))) (ax (qh (cU k) Inv) mz [(pA k),(.bool false),(.int .i64 acc),(.int .i64 (wrap .i64 ((i:Int)+1)))] h))(mz2:Nat){j:Nat}{h:Heap}(hi:Inv2 mz2 j h):LL SS bB [1,1,1,0,1,0,0,1,0,0,1,1,1,1,0,0] (eJ k k2 i acc j) h (KK SS bB [1,0,0,1,1,1,1,0] [1,1,1,0,1,0,0] (RR bB [1,1,1,0,1,0,0] (qh (cU k) Inv) mz (KK SS bB [1,1,1,0,1,0] [] (EE SS bB Q)))):=
 bH (eJ k k2 i acc) Inv2 (fun mz2 j zz h hi=>aj (step mz2 j zz h hi)) mz2 hi
noncomputable def lW:FD:=bF Tryz.f33 [([1,1,0,1,0,0],[1,3,4])]
abbrev ib (k:Nat)(i:Nat)(acc:Int):LV:=[(pA k),(.int .i64 acc),(iA i)]
theorem Iy (mv:LV)(h:Heap)(Q:VH)(hx:xN (dc SS.P 24 (.agg ⟨mv⟩)) h fun B1 g2=>LL SS lW [1,1,0,1,0,0] (ib (h.next) 0 0) g2 (KK SS lW [1,1,0,1,0] [] (EE SS lW Q))):FW SS 33 [(.agg ⟨mv⟩)] h Q:=bG lW Tryz.func33 (aj hx)
theorem r9 (mv:LV)(k:Nat)(Inv:Nat->Nat->Int->Heap->Prop)(Q:VH)(step: ∀ (mz:Nat) (i:Nat) (acc:Int) (zz:Nat->Value) (h:Heap),Inv mz i acc h->xP (af SS.P 24 (pA k) 3) fun p3=>xL (ah SS.P 22 h (.pointer (some p3))) fun a4 n5 c6=>au (decide (((i:Int):Int) < (n5:Int))) (xP (af SS.P 24 (pA k) 3) fun p7=>xL (ah SS.P 22 h (.pointer (some p7))) fun a8 n9 c10=>xP (ag SS.P 22 (.slice a8 n9 c10) (iA i)) fun p11=>xP (af SS.P 37 (.pointer (some p11)) 1) fun p12=>xL (ah SS.P 35 h (.pointer (some p12))) fun a13 n14 c15=>ax (qh (ib k) Inv) mz [(pA k),(.int .i64 (wrap .i64 (acc+(n14:Int)))),(.int .i64 (wrap .i64 ((i:Int)+1)))] h) (Q (.int .i64 acc) h))(mz:Nat){i:Nat}{acc:Int}{h:Heap}(hi:Inv mz i acc h):LL SS lW [1,1,0,1,0,0] (ib k i acc) h (KK SS lW [1,1,0,1,0] [] (EE SS lW Q)):=
 ki (ib k) Inv (fun mz i acc zz h hi=>aj (step mz i acc zz h hi)) mz hi
noncomputable def dh:FD:=bF Tryz.f8 [([1,1,0,1,0,0],[1,2,3]),([1,1,0,1,0,0,1,0,0,1,1,0,0],[1,2,3,4])]
abbrev ep (k:Nat)(i:Nat):LV:=[(pA k),(.bool false),(iA i)]
abbrev iu (k i:Nat)(j:Nat):LV:=[(pA k),(.bool false),(iA i),(iA j)]
theorem KR (mv:LV)(h:Heap)(Q:VH)(hx:xN (dc SS.P 24 (.agg ⟨mv⟩)) h fun B1 g2=>xP (af SS.P 24 (pA (h.next)) 3) fun p3=>xL (ah SS.P 22 g2 (.pointer (some p3))) fun a4 n5 c6=>au (decide (((n5:Int):Int) > 300)) (Q (.bool true) g2) (xA (ah SS.P 24 g2 (pA (h.next))) fun c7=>FW SS 33 [(.agg ⟨c7⟩)] g2 fun v8 h9=>yI .i64 v8 fun n10=>au (decide ((n10:Int) > 2000)) (Q (.bool true) h9) (xP (af SS.P 24 (pA (h.next)) 2) fun p11=>xS (ah SS.P 9 h9 (.pointer (some p11))) fun l12=>au (decide ((((l12:LB).length:Int):Int) > 900)) (Q (.bool true) h9) (LL SS dh [1,1,0,1,0,0] (ep (h.next) 0) h9 (KK SS dh [1,1,0,1,0] [] (EE SS dh Q)))))):FW SS 8 [(.agg ⟨mv⟩)] h Q:=bG dh Tryz.func8 (aj hx)
theorem sn (mv:LV)(k:Nat)(Inv:Nat->Nat->Heap->Prop)(Q:VH)(step: ∀ (mz:Nat) (i:Nat) (zz:Nat->Value) (h:Heap),Inv mz i h->xP (af SS.P 24 (pA k) 3) fun p13=>xL (ah SS.P 22 h (.pointer (some p13))) fun a14 n15 c16=>au (decide (((i:Int):Int) < (n15:Int))) (xP (af SS.P 24 (pA k) 3) fun p17=>xL (ah SS.P 22 h (.pointer (some p17))) fun a18 n19 c20=>xP (ag SS.P 22 (.slice a18 n19 c20) (iA i)) fun p21=>xP (af SS.P 37 (.pointer (some p21)) 0) fun p22=>xS (ah SS.P 9 h (.pointer (some p22))) fun l23=>au (decide ((((l23:LB).length:Int):Int) > 900)) (Q (.bool true) h) (LL SS dh [1,1,0,1,0,0,1,0,0,1,1,0,0] (iu k i 0) h (KK SS dh [1,0,0,1,1,0] [1,1,0,1,0,0] (RR dh [1,1,0,1,0,0] (fA (ep k) Inv) mz (KK SS dh [1,1,0,1,0] [] (EE SS dh Q)))))) (Q (.bool false) h))(mz:Nat){i:Nat}{h:Heap}(hi:Inv mz i h):LL SS dh [1,1,0,1,0,0] (ep k i) h (KK SS dh [1,1,0,1,0] [] (EE SS dh Q)):=
 bH (ep k) Inv (fun mz i zz h hi=>aj (step mz i zz h hi)) mz hi
theorem sL (mv:LV)(k:Nat)(Inv:Nat->Nat->Heap->Prop)(mz i:Nat)(Inv2:Nat->Nat->Heap->Prop)(Q:VH)(step: ∀ (mz2:Nat) (j:Nat) (zz:Nat->Value) (h:Heap),Inv2 mz2 j h->xP (af SS.P 24 (pA k) 3) fun p24=>xL (ah SS.P 22 h (.pointer (some p24))) fun a25 n26 c27=>xP (ag SS.P 22 (.slice a25 n26 c27) (iA i)) fun p28=>xP (af SS.P 37 (.pointer (some p28)) 1) fun p29=>xL (ah SS.P 35 h (.pointer (some p29))) fun a30 n31 c32=>au (decide (((j:Int):Int) < (n31:Int))) (xP (af SS.P 24 (pA k) 3) fun p33=>xL (ah SS.P 22 h (.pointer (some p33))) fun a34 n35 c36=>xP (ag SS.P 22 (.slice a34 n35 c36) (iA i)) fun p37=>xP (af SS.P 37 (.pointer (some p37)) 1) fun p38=>xL (ah SS.P 35 h (.pointer (some p38))) fun a39 n40 c41=>xP (ag SS.P 35 (.slice a39 n40 c41) (iA j)) fun p42=>xP (af SS.P 39 (.pointer (some p42)) 2) fun p43=>xS (ah SS.P 9 h (.pointer (some p43))) fun l44=>au (decide ((((l44:LB).length:Int):Int) > 900)) (Q (.bool true) h) (ax (fA (iu k i) Inv2) mz2 [(pA k),(.bool false),(iA i),(.int .i64 (wrap .i64 ((j:Int)+1)))] h)) (ax (fA (ep k) Inv) mz [(pA k),(.bool false),(.int .i64 (wrap .i64 ((i:Int)+1)))] h))(mz2:Nat){j:Nat}{h:Heap}(hi:Inv2 mz2 j h):LL SS dh [1,1,0,1,0,0,1,0,0,1,1,0,0] (iu k i j) h (KK SS dh [1,0,0,1,1,0] [1,1,0,1,0,0] (RR dh [1,1,0,1,0,0] (fA (ep k) Inv) mz (KK SS dh [1,1,0,1,0] [] (EE SS dh Q)))):=
 bH (iu k i) Inv2 (fun mz2 j zz h hi=>aj (step mz2 j zz h hi)) mz2 hi
section
theorem cQ {α:Type}{l:List α}{i:Nat}{s:α}(h:l[i]?=some s):l.drop i=s::l.drop (i+1):=by
 obtain ⟨h1,rfl⟩:=List.getElem?_eq_some_iff.1 h;exact List.drop_eq_getElem_cons h1
theorem yK (s:Int)(h:Heap):FW SS 35 [.int .i64 s] h (fun v h'=>v = .bool (nl s)/\h'=h):=by
 refine Gb s h _ (ae (fun g=>⟨?_,rfl⟩) (fun g=>⟨?_,rfl⟩))
 ·have g:=dT g;unfold nl; rw [decide_eq_true (show 0<=s from g),Bool.true_and]
 ·have g:=dF g;unfold nl; rw [decide_eq_false (show ¬ 0<=s from g),Bool.false_and]
section
variable {h:Heap} {k:Nat} {M:Mach} {a:Option Addr} {n c:Nat}
def bQ (h:Heap)(V:Bool):VH:=fun v h'=>v = .bool V/\Ok h h'
def MQ (h:Heap)(k:Nat)(M:Mach)(a:Option Addr)(n c:Nat)(V:Bool)(mz i:Nat)(acc:Int)(g:Heap):Prop:=i<=n/\mz=n - i/\0<=acc/\acc<=30000/\MB g k M a n c/\Ok h g/\my M.kind n acc (M.states.drop i)=V
def Ra (h:Heap)(k:Nat)(M:Mach)(a:Option Addr)(n c:Nat)(s:MSt)(b:Option Addr)(m d i:Nat)(acc:Int)(V:Bool)(mz2 j:Nat)(g:Heap):Prop:=j<=m/\mz2=m - j/\MB g k M a n c/\Ok h g/\ArcRow g (.slice b m d) s.arcs/\((s.arcs.drop j).all (fF M.kind n) && my M.kind n acc (M.states.drop (i+1)))=V
theorem az {i n:Nat}(h:i < n)(hn:n<=1000000000):wrap .i64 ((i:Int)+1)=((i+1:Nat):Int):=by rw [am (by omega) (by omega)]; omega
theorem eD (sm:Small M){s:MSt}{i:Nat}(hs:M.states[i]?=some s):s.arcs.length<=2000/\s.f.length<=1000000000/\ ∀ q∈s.arcs,q.w.length<=1000000000:=by
 have h:=List.mem_of_getElem? hs;exact ⟨sm.arcs s h,le_trans (sm.fin s h) (by decide),fun q hq=>le_trans (sm.w s h q hq) (by decide)⟩
set_option linter.defProp false in
def CI (w:Wf h)(tb:Tab h)(sm:Small M)(V:Bool){s:MSt}{b:Option Addr}{m d i k2:Nat}{acc:Int}(hs:M.states[i]?=some s)(hi:i < n)(h0:0<=acc)(h1:acc<=30000)(mv:List Value)(mz:Nat)(hmz:mz=n - i):=
 qJ mv k a n c k2 b m d (MQ h k M a n c V) mz i acc (Ra h k M a n c s b m d i acc V) (bQ h V) (by
  intro mz2 j; intros; rename_i g hin;obtain ⟨f1,f2,mb,ok,ar,hv⟩:=hin;have hn:n<=300:=by rw [mb.len]; exact sm.sts
  obtain ⟨l1,l2,l3⟩:=eD sm hs;have hm:=ar.len;refine ae (fun g1=> ?_) (fun g1=> ?_)
  ·have g1:=dT g1;obtain ⟨q,hq⟩: ∃ q,s.arcs[j]?=some q:=⟨_,gE (by omega)⟩
   obtain ⟨bb,o,e1,e2,e3⟩:=ar.at_ hq;have lq:=l3 q (List.mem_of_getElem? hq);rw [cQ hq,all_cons] at hv;obtain ⟨u,p1,p2,p3⟩:=oU ok.wf q;refine ⟨_,e1,_,e2,_,xc,u,p1,?_⟩;have okg:=ok.trans p2;have mbg:=mb.ok p2;generalize u.app (g.push CY)=g2 at *;refine ⟨_,hJ _ _,_,p3.l0,(yK _ _).mono ?_⟩;rintro _ g3 ⟨rfl,eg⟩;obtain rfl:g2=g3:=eg.symm;refine ⟨_,rfl,ae (fun t=>⟨?_,okg⟩) (fun t=> ?_)⟩
   ·rw [not_eq_true'] at t;rw [<-hv]; unfold fF; rw [t]; simp
   rw [not_eq_false'] at t;refine ⟨_,iM _ _,_,p3.l1,(yK _ _).mono ?_⟩;rintro _ g3 ⟨rfl,eg⟩;obtain rfl:g2=g3:=eg.symm;refine ⟨_,rfl,ae (fun t2=>⟨?_,okg⟩) (fun t2=> ?_)⟩
   ·rw [not_eq_true'] at t2;rw [<-hv]; unfold fF; rw [t2]; simp
   rw [not_eq_false'] at t2;refine ⟨_,cE _ _,_,p3.l3,ae (fun t3=>⟨?_,okg⟩) (fun t3=> ?_)⟩
   ·have t3:=dT t3;rw [<-hv]; unfold fF; rw [decide_eq_false (show ¬ 0<=q.t by omega)]; simp
   have t3:=dF t3;refine ⟨_,cE _ _,_,p3.l3,ae (fun t4=>⟨?_,okg⟩) (fun t4=> ?_)⟩
   ·have t4:=dT t4;rw [<-hv]; unfold fF; rw [decide_eq_false (show ¬ q.t < n by omega)]; simp
   have t4:=dF t4;refine ⟨_,eu _,_,mbg.l0,_,mh _ _,_,p3.l2,(mg M.kind q.w lq (tb.ok okg) okg.wf).mono ?_⟩;rintro _ g4 ⟨rfl,o4⟩;refine ⟨_,rfl,ae (fun t5=>⟨?_,okg.trans o4⟩) (fun t5=> ?_)⟩
   ·rw [not_eq_true'] at t5;rw [<-hv]; unfold fF; rw [t5]; simp
   rw [not_eq_false'] at t5;have hq1:fF M.kind n q=true:=by
    unfold fF; rw [t,t2,t5,decide_eq_true (show 0<=q.t by omega),decide_eq_true (show q.t < n by omega)]; rfl
   rw [hq1,Bool.true_and] at hv;rw [az (i:=j) (n:=m) (by omega) (by omega)];exact bp (mz2 - 1) (by omega) ⟨by omega,by omega,mbg.ok o4,okg.trans o4,(ar.ok p2).ok o4,hv⟩
  ·have g1:=dF g1;obtain rfl:m=j:=by omega
   rw [drop_eq_nil_of_le (by omega)] at hv;rw [az hi (by omega)];exact gO (n - (i+1)) (by omega) ⟨by omega,rfl,h0,h1,mb,ok,by simpa using hv⟩)
theorem nN {h:Heap}(tb:Tab h)(w:Wf h){M:Mach}(sm:Small M){a:Option Addr}{n c:Nat}(r:StRow h (.slice a n c) M.states):FW SS 10 [.agg ⟨aC M a n c⟩] h (fun v h'=>v = .bool (bq M)/\Ok h h'):=by
 obtain ⟨mb,ok⟩:=cD w r;refine F3 (aC M a n c) h _ ⟨_,ei M a n c,?_⟩;have hl:=mb.len;have hn:n<=300:=by rw [hl]; exact sm.sts
 generalize h.push (Bm M a n c)=g at *;refine ⟨_,aM _,_,_,_,mb.l3,_,eu _,_,mb.l0,ae (fun t1=>⟨?_,ok⟩) (fun t1=> ?_)⟩
 ·have t1:=dT t1;unfold bq; rw [decide_eq_false (show ¬ 1<=M.kind by omega)]; simp
 have t1:=dF t1;refine ⟨_,eu _,_,mb.l0,ae (fun t2=>⟨?_,ok⟩) (fun t2=>ae (fun t3=>⟨?_,ok⟩) (fun t3=>ae (fun t4=>⟨?_,ok⟩) (fun t4=> ?_)))⟩
 ·have t2:=dT t2;unfold bq; rw [decide_eq_false (show ¬ M.kind<=3 by omega)]; simp
 ·have t3:=dT t3;unfold bq; rw [decide_eq_false (show ¬ 1<=M.states.length by omega)]; simp
 ·have t4:=dT t4;omega
 have t2:=dF t2;have t3:=dF t3;refine ⟨_,dG _,_,mb.l1,ae (fun t5=>⟨?_,ok⟩) (fun t5=> ?_)⟩
 ·have t5:=dT t5;unfold bq; rw [decide_eq_false (show ¬ 0<=M.start by omega)]; simp
 have t5:=dF t5;refine ⟨_,dG _,_,mb.l1,ae (fun t6=>⟨?_,ok⟩) (fun t6=> ?_)⟩
 ·have t6:=dT t6;unfold bq; rw [decide_eq_false (show ¬ M.start < M.states.length by omega)]; simp
 have t6:=dF t6;refine ⟨_,eu _,_,mb.l0,_,jq _,_,mb.l2,(mg M.kind M.lead (le_trans sm.lead (by decide)) (tb.ok ok) ok.wf).mono ?_⟩;rintro _ g2 ⟨rfl,o2⟩;have ok2:=ok.trans o2;have mb2:=mb.ok o2;refine ⟨_,rfl,ae (fun t7=>⟨?_,ok2⟩) (fun t7=> ?_)⟩
 ·rw [not_eq_true'] at t7;unfold bq; rw [t7]; simp
 rw [not_eq_false'] at t7;have hV:bq M=my M.kind n 0 M.states:=by
  unfold bq;rw [t7,decide_eq_true (show 1<=M.kind by omega),decide_eq_true (show M.kind<=3 by omega),decide_eq_true (show 1<=M.states.length by omega),decide_eq_true (show M.states.length<=3000 by omega),decide_eq_true (show 0<=M.start by omega),decide_eq_true (show M.start < M.states.length by omega),hl];rfl
 obtain ⟨V,hVd⟩: ∃ V,V=my M.kind n 0 M.states:=⟨_,rfl⟩
 rw [hV,<-hVd];refine ⟨_,aM _,_,_,_,mb2.l3,?_⟩;refine rm (aC M a n c) h.next a n c (MQ h h.next M a n c V) (bQ h V) (fun mz i acc=> ?_) n (i:=0) (acc:=0) ⟨by omega,rfl,by omega,by omega,mb2,ok2,hVd.symm⟩;intros; rename_i gg hi;obtain ⟨f1,f2,f3,f4,mb3,ok3,f5⟩:=hi;refine ae (fun q1=> ?_) (fun q1=> ?_)
 ·have q1:=dT q1;obtain ⟨s,hs⟩: ∃ s,M.states[i]?=some s:=⟨_,gE (by omega)⟩
  obtain ⟨b,o,x,y,z,e1,e2,e3,e4,ar⟩:=mb3.row.at_ hs;obtain ⟨l1,l2,l3⟩:=eD sm hs;have hy:=ar.len;rw [cQ hs] at f5;unfold my at f5;obtain ⟨u,p1,p2,p3⟩:=oX ok3.wf s.f x y z;refine ⟨_,e1,_,e2,_,sD,u,p1,?_⟩;have okg:=ok3.trans p2;have mbg:=mb3.ok p2;have arg:=ar.ok p2;generalize u.app (gg.push vr)=g3 at *;have hw:wrap .i64 (acc+(y:Int))=acc+(s.arcs.length:Int):=by rw [hy,am (by omega) (by omega)]
  refine ⟨_,bm _ _,_,_,_,p3.l1,?_⟩;dsimp only;rw [hw];refine ae (fun q2=>⟨?_,okg⟩) (fun q2=> ?_)
  ·have q2:=dT q2;rw [<-f5,decide_eq_false (show ¬ acc+(s.arcs.length:Int)<=30000 by omega)]; simp
  have q2:=dF q2;rw [decide_eq_true (show acc+(s.arcs.length:Int)<=30000 by omega),Bool.true_and] at f5;refine ⟨_,fY _ _,_,p3.l0,ae (fun q3=> ?_) (fun q3=> ?_)⟩
  ·refine ⟨_,eu _,_,mbg.l0,_,fY _ _,_,p3.l0,(mg M.kind s.f l2 (tb.ok okg) okg.wf).mono ?_⟩;rintro _ g4 ⟨rfl,o4⟩;have q3:(s.f == [])=false:=by simpa using q3
   rw [q3,Bool.false_or] at f5;refine ⟨_,rfl,ae (fun q4=>⟨?_,okg.trans o4⟩) (fun q4=> ?_)⟩
   ·rw [not_eq_true'] at q4;rw [<-f5,q4]; simp
   rw [not_eq_false'] at q4;rw [q4,Bool.true_and] at f5;refine ⟨_,bm _ _,_,_,_,(p3.ok o4).l1,?_⟩;exact CI w tb sm _ hs (by omega) (by omega) (by omega) [] mz f2 y (j:=0) ⟨by omega,rfl,mbg.ok o4,okg.trans o4,arg.ok o4,by rw [drop_zero]; exact f5⟩
  ·have q3:(s.f == [])=true:=by simpa using q3
   rw [q3,Bool.true_or,Bool.true_and] at f5;refine ⟨_,bm _ _,_,_,_,p3.l1,?_⟩;exact CI w tb sm _ hs (by omega) (by omega) (by omega) [] mz f2 y (j:=0) ⟨by omega,rfl,mbg,okg,arg,by rw [drop_zero]; exact f5⟩
 ·have q1:=dF q1;refine ⟨?_,ok3⟩;rw [drop_eq_nil_of_le (by omega)] at f5;rw [<-f5]; rfl
end
end
section
theorem nf (kind:Int)(h:Heap):FW SS 36 [.int .i64 kind] h (fun v h'=>v = .bool (decide (1<=kind) && decide (kind<=3))/\h'=h):=by
 refine th kind h _ (ae (fun g=>⟨?_,rfl⟩) (fun g=>⟨?_,rfl⟩))
 ·have g:=dT g;rw [decide_eq_true (show 1<=kind from g),Bool.true_and]
 ·have g:=dF g;rw [decide_eq_false (show ¬ 1<=kind from g),Bool.false_and]
section
variable {h:Heap} {k:Nat} {M:Mach} {a:Option Addr} {n c:Nat}
set_option linter.defProp false in
def CB (w:Wf h)(sm:Small M)(V:Bool){s:MSt}{b:Option Addr}{m d i k2:Nat}{acc:Int}(hs:M.states[i]?=some s)(hi:i < n)(h0:0<=acc)(h1:acc<=30000)(mv:List Value)(mz:Nat)(hmz:mz=n - i):=
 rh mv k k2 (MQ h k M a n c V) mz i acc (fun mz2 j g=>Ra h k M a n c s b m d i acc V mz2 j g/\SB g k2 s.f b m d) (bQ h V) (by
  intro mz2 j; intros; rename_i g hin;obtain ⟨⟨f1,f2,mb,ok,ar,hv⟩,sb⟩:=hin;have hn:n<=300:=by rw [mb.len]; exact sm.sts
  obtain ⟨l1,l2,l3⟩:=eD sm hs;have hm:=ar.len;refine ⟨_,bm _ _,_,_,_,sb.l1,ae (fun g1=> ?_) (fun g1=> ?_)⟩
  ·have g1:=dT g1;obtain ⟨q,hq⟩: ∃ q,s.arcs[j]?=some q:=⟨_,gE (by omega)⟩
   obtain ⟨bb,o,e1,e2,e3⟩:=ar.at_ hq;have lq:=l3 q (List.mem_of_getElem? hq);rw [cQ hq,all_cons] at hv;obtain ⟨u,p1,p2,p3⟩:=oU ok.wf q;refine ⟨_,bm _ _,_,_,_,sb.l1,_,e1,_,e2,_,xc,u,p1,?_⟩;have okg:=ok.trans p2;have mbg:=mb.ok p2;generalize u.app (g.push CY)=g2 at *;refine ⟨_,hJ _ _,_,p3.l0,ae (fun t=>⟨?_,okg⟩) (fun t=>⟨_,hJ _ _,_,p3.l0,ae (fun t2=>⟨?_,okg⟩) (fun t2=>⟨_,iM _ _,_,p3.l1,ae (fun t3=>⟨?_,okg⟩) (fun t3=>⟨_,iM _ _,_,p3.l1,ae (fun t4=>⟨?_,okg⟩) (fun t4=>⟨_,cE _ _,_,p3.l3,ae (fun t5=>⟨?_,okg⟩) (fun t5=>⟨_,cE _ _,_,p3.l3,_,aM _,_,_,_,mbg.l3,ae (fun t6=>⟨?_,okg⟩) (fun t6=> ?_)⟩)⟩)⟩)⟩)⟩)⟩
   ·have t:=dT t;rw [<-hv]; unfold fF nl; rw [decide_eq_false (show ¬ 0<=q.i by omega)]; simp
   ·have t2:=dT t2;rw [<-hv]; unfold fF nl; rw [decide_eq_false (show ¬ q.i<=500 by omega)]; simp
   ·have t3:=dT t3;rw [<-hv]; unfold fF nl; rw [decide_eq_false (show ¬ 0<=q.o by omega)]; simp
   ·have t4:=dT t4;rw [<-hv]; unfold fF nl; rw [decide_eq_false (show ¬ q.o<=500 by omega)]; simp
   ·have t5:=dT t5;rw [<-hv]; unfold fF; rw [decide_eq_false (show ¬ 0<=q.t by omega)]; simp
   ·have t6:=dT t6;rw [<-hv]; unfold fF; rw [decide_eq_false (show ¬ q.t < n by omega)]; simp
   have t:=dF t;have t2:=dF t2;have t3:=dF t3;have t4:=dF t4;have t5:=dF t5;have t6:=dF t6;refine ⟨_,eu _,_,mbg.l0,_,mh _ _,_,p3.l2,(kG M.kind q.w lq okg.wf).mono ?_⟩;rintro _ g4 ⟨rfl,o4⟩;refine ⟨_,rfl,ae (fun t7=>⟨?_,okg.trans o4⟩) (fun t7=> ?_)⟩
   ·rw [not_eq_true'] at t7;rw [<-hv]; unfold fF; rw [t7]; simp
   rw [not_eq_false'] at t7;have hq1:fF M.kind n q=true:=by
    unfold fF nl; rw [t7,decide_eq_true (show 0<=q.i by omega),decide_eq_true (show q.i<=500 by omega),decide_eq_true (show 0<=q.o by omega),decide_eq_true (show q.o<=500 by omega),decide_eq_true (show 0<=q.t by omega),decide_eq_true (show q.t < n by omega)]; rfl
   rw [hq1,Bool.true_and] at hv;rw [az (i:=j) (n:=m) (by omega) (by omega)];exact bp (mz2 - 1) (by omega) ⟨⟨by omega,by omega,mbg.ok o4,okg.trans o4,(ar.ok p2).ok o4,hv⟩,(sb.ok p2).ok o4⟩
  ·have g1:=dF g1;obtain rfl:m=j:=by omega
   rw [drop_eq_nil_of_le (by omega)] at hv;rw [az hi (by omega)];exact gO (n - (i+1)) (by omega) ⟨by omega,rfl,h0,h1,mb,ok,by simpa using hv⟩)
end
theorem Il {h:Heap}(w:Wf h){M:Mach}(sm:Small M){a:Option Addr}{n c:Nat}(r:StRow h (.slice a n c) M.states):FW SS 11 [.agg ⟨aC M a n c⟩] h (fun v h'=>v = .bool (bq M)/\Ok h h'):=by
 obtain ⟨mb,ok⟩:=cD w r;refine GK (aC M a n c) h _ ⟨_,ei M a n c,?_⟩;have hl:=mb.len;have hn:n<=300:=by rw [hl]; exact sm.sts
 generalize h.push (Bm M a n c)=g at *;refine ⟨_,eu _,_,mb.l0,(nf _ _).mono ?_⟩;rintro _ g1 ⟨rfl,eg⟩;obtain rfl:g=g1:=eg.symm;refine ⟨_,rfl,ae (fun t1=>⟨?_,ok⟩) (fun t1=> ?_)⟩
 ·rw [not_eq_true'] at t1;unfold bq; rw [t1]; simp
 rw [not_eq_false',and_eq_true] at t1;have t1:1<=M.kind/\M.kind<=3:=⟨dT t1.1,dT t1.2⟩
 refine ⟨_,aM _,_,_,_,mb.l3,ae (fun t3=>⟨?_,ok⟩) (fun t3=>⟨_,aM _,_,_,_,mb.l3,ae (fun t4=>⟨?_,ok⟩) (fun t4=> ?_)⟩)⟩
 ·have t3:=dT t3;unfold bq; rw [decide_eq_false (show ¬ 1<=M.states.length by omega)]; simp
 ·have t4:=dT t4;omega
 have t3:=dF t3;refine ⟨_,dG _,_,mb.l1,ae (fun t5=>⟨?_,ok⟩) (fun t5=> ?_)⟩
 ·have t5:=dT t5;unfold bq; rw [decide_eq_false (show ¬ 0<=M.start by omega)]; simp
 have t5:=dF t5;refine ⟨_,dG _,_,mb.l1,_,aM _,_,_,_,mb.l3,ae (fun t6=>⟨?_,ok⟩) (fun t6=> ?_)⟩
 ·have t6:=dT t6;unfold bq; rw [decide_eq_false (show ¬ M.start < M.states.length by omega)]; simp
 have t6:=dF t6;refine ⟨_,eu _,_,mb.l0,_,jq _,_,mb.l2,(kG M.kind M.lead (le_trans sm.lead (by decide)) ok.wf).mono ?_⟩;rintro _ g2 ⟨rfl,o2⟩;have ok2:=ok.trans o2;have mb2:=mb.ok o2;refine ⟨_,rfl,ae (fun t7=>⟨?_,ok2⟩) (fun t7=> ?_)⟩
 ·rw [not_eq_true'] at t7;unfold bq; rw [t7]; simp
 rw [not_eq_false'] at t7;have hV:bq M=my M.kind n 0 M.states:=by
  unfold bq;rw [t7,decide_eq_true (show 1<=M.kind by omega),decide_eq_true (show M.kind<=3 by omega),decide_eq_true (show 1<=M.states.length by omega),decide_eq_true (show M.states.length<=3000 by omega),decide_eq_true (show 0<=M.start by omega),decide_eq_true (show M.start < M.states.length by omega),hl];rfl
 obtain ⟨V,hVd⟩: ∃ V,V=my M.kind n 0 M.states:=⟨_,rfl⟩
 rw [hV,<-hVd];refine qm (aC M a n c) h.next (MQ h h.next M a n c V) (bQ h V) (fun mz i acc=> ?_) n (i:=0) (acc:=0) ⟨by omega,rfl,by omega,by omega,mb2,ok2,hVd.symm⟩;intros; rename_i gg hi;obtain ⟨f1,f2,f3,f4,mb3,ok3,f5⟩:=hi;refine ⟨_,aM _,_,_,_,mb3.l3,ae (fun q1=> ?_) (fun q1=> ?_)⟩
 ·have q1:=dT q1;obtain ⟨s,hs⟩: ∃ s,M.states[i]?=some s:=⟨_,gE (by omega)⟩
  obtain ⟨b,o,x,y,z,e1,e2,e3,e4,ar⟩:=mb3.row.at_ hs;obtain ⟨l1,l2,l3⟩:=eD sm hs;have hy:=ar.len;rw [cQ hs] at f5;unfold my at f5;obtain ⟨u,p1,p2,p3⟩:=oX ok3.wf s.f x y z;refine ⟨_,aM _,_,_,_,mb3.l3,_,e1,_,e2,_,sD,u,p1,?_⟩;have okg:=ok3.trans p2;have mbg:=mb3.ok p2;have arg:=ar.ok p2;generalize u.app (gg.push vr)=g3 at *;have hw:wrap .i64 (acc+(y:Int))=acc+(s.arcs.length:Int):=by rw [hy,am (by omega) (by omega)]
  refine ⟨_,bm _ _,_,_,_,p3.l1,?_⟩;dsimp only;rw [hw];refine ae (fun q2=>⟨?_,okg⟩) (fun q2=> ?_)
  ·have q2:=dT q2;rw [<-f5,decide_eq_false (show ¬ acc+(s.arcs.length:Int)<=30000 by omega)]; simp
  have q2:=dF q2;rw [decide_eq_true (show acc+(s.arcs.length:Int)<=30000 by omega),Bool.true_and] at f5;refine ⟨_,fY _ _,_,p3.l0,ae (fun q3=> ?_) (fun q3=> ?_)⟩
  ·refine ⟨_,eu _,_,mbg.l0,_,fY _ _,_,p3.l0,(kG M.kind s.f l2 okg.wf).mono ?_⟩;rintro _ g4 ⟨rfl,o4⟩;have q3:(s.f == [])=false:=by simpa using q3
   rw [q3,Bool.false_or] at f5;refine ⟨_,rfl,ae (fun q4=>⟨?_,okg.trans o4⟩) (fun q4=> ?_)⟩
   ·rw [not_eq_true'] at q4;rw [<-f5,q4]; simp
   rw [not_eq_false'] at q4;rw [q4,Bool.true_and] at f5;exact CB w sm _ hs (by omega) (by omega) (by omega) [] mz f2 y (j:=0) ⟨⟨by omega,rfl,mbg.ok o4,okg.trans o4,arg.ok o4,by rw [drop_zero]; exact f5⟩,p3.ok o4⟩
  ·have q3:(s.f == [])=true:=by simpa using q3
   rw [q3,Bool.true_or,Bool.true_and] at f5;exact CB w sm _ hs (by omega) (by omega) (by omega) [] mz f2 y (j:=0) ⟨⟨by omega,rfl,mbg,okg,arg,by rw [drop_zero]; exact f5⟩,p3⟩
 ·have q1:=dF q1;refine ⟨?_,ok3⟩;rw [drop_eq_nil_of_le (by omega)] at f5;rw [<-f5]; rfl
end
noncomputable def NZ:FD:=bF Tryz.f39 []
theorem Lu (qv:LV)(h:Heap)(Q:VH)(hx:xN (dc SS.P 39 (.agg ⟨qv⟩)) h fun B1 g2=>xP (af SS.P 39 (pA (h.next)) 0) fun p3=>xI .i64 (ah SS.P 3 g2 (.pointer (some p3))) fun n4=>xP (af SS.P 39 (pA (h.next)) 1) fun p5=>xI .i64 (ah SS.P 3 g2 (.pointer (some p5))) fun n6=>Q (.bool (((n4:Int) == n6))) g2):FW SS 39 [(.agg ⟨qv⟩)] h Q:=bG NZ Tryz.func39 (aj hx)
noncomputable def JD:FD:=bF Tryz.f40 []
theorem Ib (qv:LV)(h:Heap)(Q:VH)(hx:xN (dc SS.P 39 (.agg ⟨qv⟩)) h fun B1 g2=>xP (af SS.P 39 (pA (h.next)) 0) fun p3=>xI .i64 (ah SS.P 3 g2 (.pointer (some p3))) fun n4=>au (((n4:Int) != 0)) (Q (.bool true) g2) (xP (af SS.P 39 (pA (h.next)) 1) fun p5=>xI .i64 (ah SS.P 3 g2 (.pointer (some p5))) fun n6=>Q (.bool (((n6:Int) != 0))) g2)):FW SS 40 [(.agg ⟨qv⟩)] h Q:=bG JD Tryz.func40 (aj hx)
noncomputable def NN:FD:=bF Tryz.f60 []
theorem LC (qv:LV)(k:Nat)(h:Heap)(Q:VH)(hx:xN (dc SS.P 39 (.agg ⟨qv⟩)) h fun B1 g2=>xF (ah SS.P 44 g2 (pA k)) fun g3 a4 c5=>xA (ah SS.P 39 g2 (pA (h.next))) fun c6=>au (Nat.blt g3 YB) (FW SS g3 (a4++[(.agg ⟨c6⟩)]++c5) g2 fun v7 h8=>yB v7 fun b9=>Q (.bool (!b9)) h8) False):FW SS 60 [(.agg ⟨qv⟩),(pA k)] h Q:=bG NN Tryz.func60 (aj hx)
noncomputable def gQ:FD:=bF Tryz.f78 [([1,0,1,0,0],[0,1,7,8])]
abbrev iL (b:OA)(m d k:Nat)(j:Nat):LV:=[(.slice b m d),(.func (.func 60) ⟨[]⟩ ⟨[(pA k)]⟩),(iA m),(iA j)]
theorem EL (b:OA)(m d k:Nat)(h:Heap)(Q:VH)(hx:LL SS gQ [1,0,1,0,0] [(.slice b m d),(.func (.func 60) ⟨[]⟩ ⟨[(pA k)]⟩),(iA m),(.int .i64 0)] h (KK SS gQ [1,0,1,0] [] (EE SS gQ Q))):FW SS 78 [(.slice b m d),(.func (.func 60) ⟨[]⟩ ⟨[(pA k)]⟩)] h Q:=bG gQ Tryz.func78 (aj hx)
theorem pK (b:OA)(m d k:Nat)  (Inv:Nat->Nat->Heap->Prop) (Q:VH) (step: ∀ (mz:Nat)(j:Nat)(zz:Nat->Value)(h:Heap),Inv mz j h->au (decide (((j:Int):Int) < (m:Int))) (xP (ag SS.P 35 (.slice b m d) (iA j)) fun p1=>xA (ah SS.P 39 h (.pointer (some p1))) fun c2=>FW SS 60 [(.agg ⟨c2⟩),(pA k)] h fun v3 h4=>yB v3 fun b5=>au b5 (Q (iA j) h4) (ax (fA (iL b m d k) Inv) mz [(.slice b m d),(.func (.func 60) ⟨[]⟩ ⟨[(pA k)]⟩),(iA m),(.int .i64 (wrap .i64 ((j:Int)+1)))] h4)) (Q (.int .i64 (-1)) h)) (mz:Nat) {j:Nat} {h:Heap} (hi:Inv mz j h):LL SS gQ [1,0,1,0,0] (iL b m d k j) h (KK SS gQ [1,0,1,0] [] (EE SS gQ Q)):=
 bH (iL b m d k) Inv (fun mz j zz h hi=>aj (step mz j zz h hi)) mz hi
noncomputable def HU:FD:=bF Tryz.f59 []
theorem D2 (b:OA)(m d k:Nat)(h:Heap)(Q:VH)(hx:FW SS 78 [(.slice b m d),(.func (.func 60) ⟨[]⟩ ⟨[(pA k)]⟩)] h fun v1 h2=>yI .i64 v1 fun n3=>Q (.bool (decide ((n3:Int)>=0))) h2):FW SS 59 [(.slice b m d),(.func (.func 60) ⟨[]⟩ ⟨[(pA k)]⟩)] h Q:=bG HU Tryz.func59 (aj hx)
noncomputable def pP:FD:=bF Tryz.f38 [([1,1,0,1,0,0],[2,3,4,11,12,13])]
abbrev jc (k k2:Nat)(a:OA)(n c:Nat)(i:Nat):LV:=[(pA k),(pA k2),(.bool false),(.slice a n c),(iA n),(iA i)]
theorem LM (mv:LV)(f:Nat)(h:Heap)(Q:VH)(hx:xN (dc SS.P 24 (.agg ⟨mv⟩)) h fun B1 g2=>xN (dc SS.P 44 (.func (.func f) ⟨[]⟩ ⟨[]⟩)) g2 fun B3 g4=>xA (ah SS.P 24 g4 (pA (h.next))) fun c5=>FW SS 10 [(.agg ⟨c5⟩)] g4 fun v6 h7=>yB v6 fun b8=>au (!b8) (Q (.bool false) h7) (xP (af SS.P 24 (pA (h.next)) 3) fun p9=>xL (ah SS.P 22 h7 (.pointer (some p9))) fun a10 n11 c12=>LL SS pP [1,1,0,1,0,0] (jc (h.next) (g2.next) a10 n11 c12 0) h7 (KK SS pP [1,1,0,1,0] [] (EE SS pP Q)))):FW SS 38 [(.agg ⟨mv⟩),(.func (.func f) ⟨[]⟩ ⟨[]⟩)] h Q:=bG pP Tryz.func38 (aj hx)
theorem ua (mv:LV)(f:Nat)(k k2:Nat)(a:OA)(n c:Nat)(Inv:Nat->Nat->Heap->Prop)(Q:VH)(step: ∀ (mz:Nat) (i:Nat) (zz:Nat->Value) (h:Heap),Inv mz i h->au (decide (((i:Int):Int) < (n:Int))) (xP (ag SS.P 22 (.slice a n c) (iA i)) fun p13=>xA (ah SS.P 37 h (.pointer (some p13))) fun c14=>xN (aF SS.P 37) h fun B15 g16=>xU (ai SS.P 37 (pA (h.next)) (.agg ⟨c14⟩) g16) g16 fun u17 g18=>xP (af SS.P 37 (pA (h.next)) 1) fun p19=>xL (ah SS.P 35 g18 (.pointer (some p19))) fun a20 n21 c22=>FW SS 59 [(.slice a20 n21 c22),(.func (.func 60) ⟨[]⟩ ⟨[(pA k2)]⟩)] g18 fun v23 h24=>yB v23 fun b25=>au b25 (Q (.bool false) h24) (ax (fA (jc k k2 a n c) Inv) mz [(pA k),(pA k2),(.bool false),(.slice a n c),(iA n),(.int .i64 (wrap .i64 ((i:Int)+1)))] h24)) (Q (.bool true) h))(mz:Nat){i:Nat}{h:Heap}(hi:Inv mz i h):LL SS pP [1,1,0,1,0,0] (jc k k2 a n c i) h (KK SS pP [1,1,0,1,0] [] (EE SS pP Q)):=
 bH (jc k k2 a n c) Inv (fun mz i zz h hi=>aj (step mz i zz h hi)) mz hi
noncomputable def Oi:FD:=bF Tryz.f12 []
theorem Mf (mv:LV)(h:Heap)(Q:VH)(hx:xN (dc SS.P 24 (.agg ⟨mv⟩)) h fun B1 g2=>xA (ah SS.P 24 g2 (pA (h.next))) fun c3=>FW SS 38 [(.agg ⟨c3⟩),(.func (.func 39) ⟨[]⟩ ⟨[]⟩)] g2 fun v4 h5=>yB v4 fun b6=>Q (.bool b6) h5):FW SS 12 [(.agg ⟨mv⟩)] h Q:=bG Oi Tryz.func12 (aj hx)
noncomputable def Js:FD:=bF Tryz.f14 []
theorem GX (mv:LV)(h:Heap)(Q:VH)(hx:xN (dc SS.P 24 (.agg ⟨mv⟩)) h fun B1 g2=>xA (ah SS.P 24 g2 (pA (h.next))) fun c3=>FW SS 38 [(.agg ⟨c3⟩),(.func (.func 40) ⟨[]⟩ ⟨[]⟩)] g2 fun v4 h5=>yB v4 fun b6=>Q (.bool b6) h5):FW SS 14 [(.agg ⟨mv⟩)] h Q:=bG Js Tryz.func14 (aj hx)
noncomputable def cz:FD:=bF Tryz.f20 [([1,1,0,1,0,0],[1,2,11,12,13]),([1,1,0,1,0,0,1,1,0,0,1,1,0,0],[1,2,4,11,12,13,18,19,20])]
abbrev dI (k:Nat)(a:OA)(n c:Nat)(i:Nat)(g:Int):LV:=[(pA k),(.int .i64 g),(.slice a n c),(iA n),(iA i)]
abbrev gm (k:Nat)(a:OA)(n c k2:Nat)(b:OA)(m d i:Nat)(j:Nat)(g:Int):LV:=[(pA k),(.int .i64 g),(pA k2),(.slice a n c),(iA n),(iA i),(.slice b m d),(iA m),(iA j)]
theorem F6 (mv:LV)(h:Heap)(Q:VH)(hx:xN (dc SS.P 24 (.agg ⟨mv⟩)) h fun B1 g2=>xA (ah SS.P 24 g2 (pA (h.next))) fun c3=>FW SS 10 [(.agg ⟨c3⟩)] g2 fun v4 h5=>yB v4 fun b6=>au (!b6) (Q (.int .i64 0) h5) (xP (af SS.P 24 (pA (h.next)) 3) fun p7=>xL (ah SS.P 22 h5 (.pointer (some p7))) fun a8 n9 c10=>LL SS cz [1,1,0,1,0,0] (dI (h.next) a8 n9 c10 0 0) h5 (KK SS cz [1,1,0,1,0] [] (EE SS cz Q)))):FW SS 20 [(.agg ⟨mv⟩)] h Q:=bG cz Tryz.func20 (aj hx)
theorem qS (mv:LV)(k:Nat)(a:OA)(n c:Nat)(Inv:Nat->Nat->Int->Heap->Prop)(Q:VH)(step: ∀ (mz:Nat) (i:Nat) (g:Int) (zz:Nat->Value) (h:Heap),Inv mz i g h->au (decide (((i:Int):Int) < (n:Int))) (xP (ag SS.P 22 (.slice a n c) (iA i)) fun p11=>xA (ah SS.P 37 h (.pointer (some p11))) fun c12=>xN (aF SS.P 37) h fun B13 g14=>xU (ai SS.P 37 (pA (h.next)) (.agg ⟨c12⟩) g14) g14 fun u15 g16=>xP (af SS.P 37 (pA (h.next)) 1) fun p17=>xL (ah SS.P 35 g16 (.pointer (some p17))) fun a18 n19 c20=>LL SS cz [1,1,0,1,0,0,1,1,0,0,1,1,0,0] (gm k a n c (h.next) a18 n19 c20 i 0 g) g16 (KK SS cz [1,1,0,0,1,1,0] [1,1,0,1,0,0] (RR cz [1,1,0,1,0,0] (qh (dI k a n c) Inv) mz (KK SS cz [1,1,0,1,0] [] (EE SS cz Q))))) (Q (.int .i64 g) h))(mz:Nat){i:Nat}{g:Int}{h:Heap}(hi:Inv mz i g h):LL SS cz [1,1,0,1,0,0] (dI k a n c i g) h (KK SS cz [1,1,0,1,0] [] (EE SS cz Q)):=
 ki (dI k a n c) Inv (fun mz i g zz h hi=>aj (step mz i g zz h hi)) mz hi
theorem q8 (mv:LV)(k:Nat)(a:OA)(n c k2:Nat)(b:OA)(m d:Nat)(Inv:Nat->Nat->Int->Heap->Prop)(mz i:Nat)(Inv2:Nat->Nat->Int->Heap->Prop)(Q:VH)(step: ∀ (mz2:Nat) (j:Nat) (g:Int) (zz:Nat->Value) (h:Heap),Inv2 mz2 j g h->au (decide (((j:Int):Int) < (m:Int))) (xP (ag SS.P 35 (.slice b m d) (iA j)) fun p21=>xA (ah SS.P 39 h (.pointer (some p21))) fun c22=>xN (aF SS.P 39) h fun B23 g24=>xU (ai SS.P 39 (pA (h.next)) (.agg ⟨c22⟩) g24) g24 fun u25 g26=>xP (af SS.P 39 (pA (h.next)) 0) fun p27=>xI .i64 (ah SS.P 3 g26 (.pointer (some p27))) fun n28=>xP (af SS.P 39 (pA (h.next)) 1) fun p29=>xI .i64 (ah SS.P 3 g26 (.pointer (some p29))) fun n30=>xI .i64 (kz true [(.int .i64 g),(.int .i64 n28),(.int .i64 n30)]) fun n31=>ax (qh (gm k a n c k2 b m d i) Inv2) mz2 [(pA k),(.int .i64 n31),(pA k2),(.slice a n c),(iA n),(iA i),(.slice b m d),(iA m),(.int .i64 (wrap .i64 ((j:Int)+1)))] g26) (ax (qh (dI k a n c) Inv) mz [(pA k),(.int .i64 g),(.slice a n c),(iA n),(.int .i64 (wrap .i64 ((i:Int)+1)))] h))(mz2:Nat){j:Nat}{g:Int}{h:Heap}(hi:Inv2 mz2 j g h):LL SS cz [1,1,0,1,0,0,1,1,0,0,1,1,0,0] (gm k a n c k2 b m d i j g) h (KK SS cz [1,1,0,0,1,1,0] [1,1,0,1,0,0] (RR cz [1,1,0,1,0,0] (qh (dI k a n c) Inv) mz (KK SS cz [1,1,0,1,0] [] (EE SS cz Q)))):=
 ki (gm k a n c k2 b m d i) Inv2 (fun mz2 j g zz h hi=>aj (step mz2 j g zz h hi)) mz2 hi
section
def Hi (t:MArc->Bool)(l:List MSt):Bool:=l.all fun s=>s.arcs.all t
def Pu (q:MArc):Bool:=q.i == q.o
def zm (q:MArc):Bool:=q.i != 0 || q.o != 0
def DZ (f:Nat)(t:MArc->Bool):Prop:= ∀ (q:MArc)(g:Heap),Wf g->FW SS f [.agg ⟨aD q⟩] g (fun v g'=>v = .bool (t q)/\Ok g g')
def Bq (q:MArc):Blk:= .cells (aD q) 39 0 true
theorem vG (q:MArc):dc SS.P 39 (.agg ⟨aD q⟩)=some (Bq q,iy):=by kernel_rfl
theorem LZ:DZ 39 Pu:=fun q g w=>by
 have b:AB (g.push (Bq q)) g.next q:=aq g _;exact Lu _ g _ ⟨_,vG q,_,hJ _ _,_,b.l0,_,iM _ _,_,b.l1,rfl,(Ok.refl w).push _⟩
theorem G2:DZ 40 zm:=fun q g w=>by
 have b:AB (g.push (Bq q)) g.next q:=aq g _;refine Ib _ g _ ⟨_,vG q,_,hJ _ _,_,b.l0,ae (fun t=>⟨?_,(Ok.refl w).push _⟩) (fun t=>⟨_,iM _ _,_,b.l1,?_,(Ok.refl w).push _⟩)⟩
 ·unfold zm; rw [t]; rfl
 ·unfold zm; rw [t]; rfl
noncomputable def Pz:TypeDesc:=(SS.P.underlying 44).getD .bool
theorem Qb:SS.P.underlying 44=some Pz:=by kernel_rfl
theorem QS:Go.Ab.isAgg SS.P 44=false:=by kernel_rfl
def FnB (g:Heap)(k f:Nat):Prop:=g.get k=some (.cells [wK f] 44 0 true)
theorem FnB.ok {g g':Heap}{k f:Nat}(x:FnB g k f)(o:Ok g g'):FnB g' k f:=o.ext _ _ x
section
variable {f:Nat} {t:MArc->Bool} (hf:Nat.blt f YB=true) (ht:DZ f t)
include hf ht
theorem LQ (q:MArc){k:Nat}{g:Heap}(w:Wf g)(b:FnB g k f):FW SS 60 [.agg ⟨aD q⟩,.pointer (some ⟨k,0,none⟩)] g (fun v g'=>v = .bool (!t q)/\Ok g g'):=by
 have o:=(Ok.refl w).push (Bq q);have hk:=aq g (Bq q);refine LC _ k g _ ⟨_,vG q,f,[],[],cH Qb QS (b.ok o) (by simp),_,fJ F9 In pz hk (by simp [aD]),?_⟩;refine yg (K:=fun v g'=>(match v with | .bool x=>Value.bool (!x) = .bool (!t q) | _=>False)/\Ok g g') hf ((ht q _ o.wf).mono ?_);rintro _ g2 ⟨rfl,o2⟩;exact ⟨_,rfl,rfl,o.trans o2⟩
theorem DC {k:Nat}{g:Heap}(w:Wf g)(bx:FnB g k f){b:Option Addr}{m d:Nat}{l:List MArc}(ar:ArcRow g (.slice b m d) l)(hl:l.length<=2000):
  FW SS 78 [.slice b m d,.func (.func 60) ⟨[]⟩ ⟨[.pointer (some ⟨k,0,none⟩)]⟩] g (fun v g'=> ∃ n:Int,v = .int .i64 n/\decide (n>=0)=(!l.all t)/\Ok g g'):=by
 have hm:=ar.len;refine EL b m d k g _ (pK b m d k (fun mz j g'=>j<=m/\mz=m - j/\Ok g g'/\(l.drop j).all t=l.all t) _ (fun mz j=> ?_) m (j:=0) ⟨by omega,rfl,Ok.refl w,rfl⟩);intros; rename_i g' hi;obtain ⟨h1,h2,ok,h3⟩:=hi;refine ae (fun q1=> ?_) (fun q1=> ?_)
 ·have q1:=dT q1;obtain ⟨q,hq⟩: ∃ q,l[j]?=some q:=⟨_,gE (by omega)⟩
  obtain ⟨bb,o,e1,e2,e3⟩:=(ar.ok ok).at_ hq;rw [cQ hq,all_cons] at h3;refine ⟨_,e1,_,e2,(LQ hf ht q ok.wf (bx.ok ok)).mono ?_⟩;rintro _ g2 ⟨rfl,o2⟩;refine ⟨_,rfl,ae (fun t1=>⟨_,rfl,?_,ok.trans o2⟩) (fun t1=> ?_)⟩
  ·rw [not_eq_true'] at t1;rw [<-h3,t1]; simp
  ·rw [not_eq_false'] at t1;rw [t1,Bool.true_and] at h3;rw [az (i:=j) (n:=m) (by omega) (by omega)];exact bp (mz - 1) (by omega) ⟨by omega,by omega,ok.trans o2,h3⟩
 ·have q1:=dF q1;refine ⟨_,rfl,?_,ok⟩;rw [drop_eq_nil_of_le (by omega)] at h3;rw [<-h3]; rfl
theorem Eh {k:Nat}{g:Heap}(w:Wf g)(bx:FnB g k f){b:Option Addr}{m d:Nat}{l:List MArc}(ar:ArcRow g (.slice b m d) l)(hl:l.length<=2000):
  FW SS 59 [.slice b m d,.func (.func 60) ⟨[]⟩ ⟨[.pointer (some ⟨k,0,none⟩)]⟩] g (fun v g'=>v = .bool (!l.all t)/\Ok g g'):=by
 refine D2 b m d k g _ ((DC hf ht w bx ar hl).mono ?_);rintro _ g2 ⟨n,rfl,h1,o⟩;exact ⟨_,rfl,by rw [h1],o⟩
theorem E8 {h:Heap}(tb:Tab h)(w:Wf h){M:Mach}(sm:Small M){a:Option Addr}{n c:Nat}(r:StRow h (.slice a n c) M.states):FW SS 38 [.agg ⟨aC M a n c⟩,wK f] h (fun v h'=>v = .bool (bq M && Hi t M.states)/\Ok h h'):=by
 obtain ⟨mb0,ok0⟩:=cD w r;refine LM (aC M a n c) f h _ ⟨_,ei M a n c,.cells [wK f] 44 0 true,by kernel_rfl,?_⟩;generalize h.push (Bm M a n c)=g0 at *;have o1:=(Ok.refl ok0.wf).push (.cells [wK f] 44 0 true);have bx:FnB (g0.push (.cells [wK f] 44 0 true)) g0.next f:=aq g0 _;have mb:=mb0.ok o1;have ok:=ok0.trans o1;generalize g0.push (.cells [wK f] 44 0 true)=g at *;refine ⟨_,mb.all,(nN (tb.ok ok) ok.wf sm mb.row).mono ?_⟩;rintro _ g2 ⟨rfl,o2⟩;have ok2:=ok.trans o2;have mb2:=mb.ok o2;have bx2:=bx.ok o2;have hn:n<=300:=by rw [mb.len]; exact sm.sts
 refine ⟨_,rfl,ae (fun q=>⟨?_,ok2⟩) (fun q=> ?_)⟩
 ·rw [not_eq_true'] at q;rw [q]; rfl
 rw [not_eq_false'] at q;rw [q,Bool.true_and];refine ⟨_,aM _,_,_,_,mb2.l3,?_⟩;obtain ⟨V,hV⟩: ∃ V,V=Hi t M.states:=⟨_,rfl⟩
 rw [<-hV];refine ua (aC M a n c) f h.next g0.next a n c (fun mz i g'=>i<=n/\mz=n - i/\MB g' h.next M a n c/\FnB g' g0.next f/\Ok h g'/\Hi t (M.states.drop i)=V) (bQ h V) (fun mz i=> ?_) n (i:=0) ⟨by omega,rfl,mb2,bx2,ok2,hV.symm⟩;intros; rename_i gg hi;obtain ⟨f1,f2,mb3,bx3,ok3,f5⟩:=hi;have hl:=mb3.len;refine ae (fun q1=> ?_) (fun q1=> ?_)
 ·have q1:=dT q1;obtain ⟨s,hs⟩: ∃ s,M.states[i]?=some s:=⟨_,gE (by omega)⟩
  obtain ⟨b,o,x,y,z,e1,e2,e3,e4,ar⟩:=mb3.row.at_ hs;obtain ⟨l1,l2,l3⟩:=eD sm hs;rw [cQ hs] at f5;unfold Hi at f5;rw [all_cons] at f5;obtain ⟨u,p1,p2,p3⟩:=oX ok3.wf s.f x y z;refine ⟨_,e1,_,e2,_,sD,u,p1,_,bm _ _,_,_,_,p3.l1,?_⟩;have okg:=ok3.trans p2;refine (Eh hf ht okg.wf (bx3.ok p2) (ar.ok p2) l1).mono ?_;rintro _ g4 ⟨rfl,o4⟩;refine ⟨_,rfl,ae (fun q2=>⟨?_,okg.trans o4⟩) (fun q2=> ?_)⟩
  ·rw [not_eq_true'] at q2;rw [<-f5,q2]; rfl
  ·rw [not_eq_false'] at q2;rw [q2,Bool.true_and] at f5;rw [az (i:=i) (n:=n) (by omega) (by omega)];exact bp (mz - 1) (by omega) ⟨by omega,by omega,(mb3.ok p2).ok o4,(bx3.ok p2).ok o4,okg.trans o4,f5⟩
 ·have q1:=dF q1;refine ⟨?_,ok3⟩;rw [drop_eq_nil_of_le (by omega)] at f5;rw [<-f5]; rfl
end
def PC (M:Mach):Bool:=bq M && Hi Pu M.states
def IG (M:Mach):Bool:=bq M && Hi zm M.states
theorem LE {h:Heap}(tb:Tab h)(w:Wf h){M:Mach}(sm:Small M){a:Option Addr}{n c:Nat}(r:StRow h (.slice a n c) M.states):FW SS 12 [.agg ⟨aC M a n c⟩] h (fun v h'=>v = .bool (PC M)/\Ok h h'):=by
 obtain ⟨mb,ok⟩:=cD w r;refine Mf _ h _ ⟨_,ei M a n c,_,mb.all,(E8 (by decide +kernel) LZ (tb.ok ok) ok.wf sm mb.row).mono ?_⟩;rintro _ g ⟨rfl,o⟩;exact ⟨_,rfl,rfl,ok.trans o⟩
theorem HG {h:Heap}(tb:Tab h)(w:Wf h){M:Mach}(sm:Small M){a:Option Addr}{n c:Nat}(r:StRow h (.slice a n c) M.states):FW SS 14 [.agg ⟨aC M a n c⟩] h (fun v h'=>v = .bool (IG M)/\Ok h h'):=by
 obtain ⟨mb,ok⟩:=cD w r;refine GX _ h _ ⟨_,ei M a n c,_,mb.all,(E8 (by decide +kernel) G2 (tb.ok ok) ok.wf sm mb.row).mono ?_⟩;rintro _ g ⟨rfl,o⟩;exact ⟨_,rfl,rfl,ok.trans o⟩
end
section
def Pa (a b:Int):Int:=if b > a then b else a
theorem PP (a b c:Int):kz true [.int .i64 a,.int .i64 b,.int .i64 c]=some (.int .i64 (Pa (Pa a b) c)):=by simp [kz,Pa]
def Rp (g:Int)(l:List MArc):Int:=l.foldl (fun g q=>Pa (Pa g q.i) q.o) g
def P8 (g:Int)(l:List MSt):Int:=l.foldl (fun g s=>Rp g s.arcs) g
def vi (M:Mach):Int:=if bq M then P8 0 M.states else 0
section
variable {h:Heap} {k:Nat} {M:Mach} {a:Option Addr} {n c:Nat}
def iQ (h:Heap)(V:Int):VH:=fun v h'=>v = .int .i64 V/\Ok h h'
def PT (h:Heap)(k:Nat)(M:Mach)(a:Option Addr)(n c:Nat)(V:Int)(mz i:Nat)(x:Int)(g:Heap):Prop:=i<=n/\mz=n - i/\MB g k M a n c/\Ok h g/\P8 x (M.states.drop i)=V
def RD (h:Heap)(k:Nat)(M:Mach)(a:Option Addr)(n c:Nat)(s:MSt)(i:Nat)(V:Int)(mz2 j:Nat)(x:Int)(g:Heap):Prop:=j<=s.arcs.length/\mz2=s.arcs.length - j/\MB g k M a n c/\Ok h g/\P8 (Rp x (s.arcs.drop j)) (M.states.drop (i+1))=V
set_option linter.defProp false in
def Jk (w:Wf h)(sm:Small M)(V:Int){s:MSt}{b:Option Addr}{m d i k2:Nat}(hs:M.states[i]?=some s)(hi:i < n)(mv:List Value)(mz:Nat)(hmz:mz=n - i):=
 q8 mv k a n c k2 b m d (PT h k M a n c V) mz i (fun mz2 j x g=>RD h k M a n c s i V mz2 j x g/\ArcRow g (.slice b m d) s.arcs) (iQ h V) (by
  intro mz2 j x; intros; rename_i g hin;obtain ⟨⟨f1,f2,mb,ok,hv⟩,ar⟩:=hin;have hn:n<=300:=by rw [mb.len]; exact sm.sts
  obtain ⟨l1,l2,l3⟩:=eD sm hs;have hm:=ar.len;refine ae (fun g1=> ?_) (fun g1=> ?_)
  ·have g1:=dT g1;obtain ⟨q,hq⟩: ∃ q,s.arcs[j]?=some q:=⟨_,gE (by omega)⟩
   obtain ⟨bb,o,e1,e2,e3⟩:=ar.at_ hq;rw [cQ hq] at hv;obtain ⟨u,p1,p2,p3⟩:=oU ok.wf q;refine ⟨_,e1,_,e2,_,xc,u,p1,_,hJ _ _,_,p3.l0,_,iM _ _,_,p3.l1,_,PP _ _ _,?_⟩;rw [az (i:=j) (n:=m) (by omega) (by omega)];exact gO (mz2 - 1) (by omega) ⟨⟨by omega,by omega,mb.ok p2,ok.trans p2,hv⟩,ar.ok p2⟩
  ·have g1:=dF g1;rw [drop_eq_nil_of_le (by omega)] at hv;rw [az hi (by omega)];exact gO (n - (i+1)) (by omega) ⟨by omega,rfl,mb,ok,hv⟩)
theorem Iq {h:Heap}(tb:Tab h)(w:Wf h){M:Mach}(sm:Small M){a:Option Addr}{n c:Nat}(r:StRow h (.slice a n c) M.states):FW SS 20 [.agg ⟨aC M a n c⟩] h (fun v h'=>v = .int .i64 (vi M)/\Ok h h'):=by
 obtain ⟨mb,ok⟩:=cD w r;refine F6 (aC M a n c) h _ ⟨_,ei M a n c,_,mb.all,(nN (tb.ok ok) ok.wf sm mb.row).mono ?_⟩;generalize h.push (Bm M a n c)=g at *;rintro _ g2 ⟨rfl,o2⟩;have ok2:=ok.trans o2;have mb2:=mb.ok o2;have hn:n<=300:=by rw [mb.len]; exact sm.sts
 refine ⟨_,rfl,ae (fun q=>⟨?_,ok2⟩) (fun q=> ?_)⟩
 ·rw [not_eq_true'] at q;unfold vi; rw [q]; rfl
 rw [not_eq_false'] at q;obtain ⟨V,hV⟩: ∃ V,V=P8 0 M.states:=⟨_,rfl⟩
 have:vi M=V:=by unfold vi; rw [if_pos q,hV]
 rw [this];refine ⟨_,aM _,_,_,_,mb2.l3,?_⟩;refine qS (aC M a n c) h.next a n c (PT h h.next M a n c V) (iQ h V) (fun mz i x=> ?_) n (i:=0) (g:=0) ⟨by omega,rfl,mb2,ok2,hV.symm⟩;intros; rename_i gg hi;obtain ⟨f1,f2,mb3,ok3,f5⟩:=hi;have hl:=mb3.len;refine ae (fun q1=> ?_) (fun q1=> ?_)
 ·have q1:=dT q1;obtain ⟨s,hs⟩: ∃ s,M.states[i]?=some s:=⟨_,gE (by omega)⟩
  obtain ⟨b,o,x',y,z,e1,e2,e3,e4,ar⟩:=mb3.row.at_ hs;obtain ⟨l1,l2,l3⟩:=eD sm hs;rw [cQ hs] at f5;obtain ⟨u,p1,p2,p3⟩:=oX ok3.wf s.f x' y z;refine ⟨_,e1,_,e2,_,sD,u,p1,_,bm _ _,_,_,_,p3.l1,?_⟩;have hy:=ar.len;exact Jk w sm V hs (by omega) [] mz f2 y (j:=0) (g:=x) ⟨⟨by omega,by omega,mb3.ok p2,ok3.trans p2,by rw [drop_zero]; exact f5⟩,ar.ok p2⟩
 ·have q1:=dF q1;rw [drop_eq_nil_of_le (by omega)] at f5;exact ⟨by rw [<-f5]; rfl,ok3⟩
end
end
section
theorem kO (s:MSt)(l:List MSt):kw (s::l)=s.arcs.length+kw l:=by simp [kw]
theorem Bi {s:MSt}: ∀ {l:List MSt},s∈l->s.arcs.length<=kw l
 | x::l,h=>by
  rw [kO];rcases List.mem_cons.1 h with rfl | h
  ·omega
  ·have:=Bi h; omega
theorem E6 {B:Nat}: ∀ {l:List MSt},(∀ s∈l,s.arcs.length<=B)->kw l<=l.length*B
 | [],_=>by simp [kw]
 | x::l,h=>by
  rw [kO,List.length_cons,add_mul,Nat.one_mul];have h1:=h x (List.mem_cons_self ..);have h2:=E6 (l:=l) fun s hs=>h s (List.mem_cons_of_mem _ hs);omega
def P4 (M:Mach):Prop:= ∀ s∈M.states,s.arcs.length<=281474976710656
section
variable {h:Heap} {k:Nat} {M:Mach} {a:Option Addr} {n c:Nat}
theorem Jr (w:Wf h)(bd:P4 M)(hst:M.states.length<=300)(r:StRow h (.slice a n c) M.states):FW SS 33 [.agg ⟨aC M a n c⟩] h (fun v h'=>v = .int .i64 (kw M.states:Nat)/\Ok h h'):=by
 obtain ⟨mb,ok⟩:=cD w r;refine Iy (aC M a n c) h _ ⟨_,ei M a n c,?_⟩;generalize h.push (Bm M a n c)=g at *;have hl:=mb.len;have hB:=E6 bd;have hB2:M.states.length*281474976710656<=300*281474976710656:=Nat.mul_le_mul_right _ hst;have hS:kw M.states<=300*281474976710656:=le_trans hB hB2;refine r9 (aC M a n c) h.next (fun mz i acc g'=>i<=n/\mz=n - i/\MB g' h.next M a n c/\Ok h g'/\ ∃ ac:Nat,acc=(ac:Int)/\ac+kw (M.states.drop i)=kw M.states) (iQ h (kw M.states:Nat)) (fun mz i acc=> ?_) n (i:=0) (acc:=0) ⟨by omega,rfl,mb,ok,0,rfl,by rw [drop_zero]; omega⟩;intros; rename_i gg hi;obtain ⟨f1,f2,mb3,ok3,ac,rfl,f5⟩:=hi;refine ⟨_,aM _,_,_,_,mb3.l3,ae (fun q1=> ?_) (fun q1=> ?_)⟩
 ·have q1:=dT q1;obtain ⟨s,hs⟩: ∃ s,M.states[i]?=some s:=⟨_,gE (by omega)⟩
  obtain ⟨b,o,x',y,z,e1,e2,e3,e4,ar⟩:=mb3.row.at_ hs;have hy:=ar.len;rw [cQ hs,kO] at f5;refine ⟨_,aM _,_,_,_,mb3.l3,_,e1,_,bm _ _,_,_,_,e4,?_⟩;have hw:wrap .i64 ((ac:Int)+(y:Int))=((ac+y:Nat):Int):=by rw [am (by omega) (by omega)]; omega
  dsimp only;rw [hw,az (i:=i) (n:=n) (by omega) (by omega)];exact gO (mz - 1) (by omega) ⟨by omega,by omega,mb3,ok3,_,rfl,by omega⟩
 ·have q1:=dF q1;rw [drop_eq_nil_of_le (by omega)] at f5;refine ⟨?_,ok3⟩;rw [show kw []=0 from rfl,add_zero] at f5;rw [f5]
def Rh (M:Mach)(i:Nat):Prop:= ∀ i' s,i' < i->M.states[i']?=some s->s.f.length<=900/\ ∀ q∈s.arcs,q.w.length<=900
def lQ (h:Heap)(M:Mach):VH:=fun v h'=> ∃ b:Bool,v = .bool b/\(b=false->Small M)/\Ok h h'
def P1 (h:Heap)(k:Nat)(M:Mach)(a:Option Addr)(n c:Nat)(mz i:Nat)(g:Heap):Prop:=i<=n/\mz=n - i/\MB g k M a n c/\Ok h g/\Rh M i
def Rt (h:Heap)(k:Nat)(M:Mach)(a:Option Addr)(n c:Nat)(s:MSt)(i:Nat)(mz2 j:Nat)(g:Heap):Prop:=j<=s.arcs.length/\mz2=s.arcs.length - j/\MB g k M a n c/\Ok h g/\Rh M i/\s.f.length<=900/\ ∀ j' q,j' < j->s.arcs[j']?=some q->q.w.length<=900
set_option linter.defProp false in
def MJ (w:Wf h)(hn:n<=300){s:MSt}{i:Nat}(hs:M.states[i]?=some s)(hsl:s.arcs.length<=2000)(hi:i < n)(mv:List Value)(mz:Nat)(hmz:mz=n - i):=
 sL mv k (P1 h k M a n c) mz i (Rt h k M a n c s i) (lQ h M) (by
  intro mz2 j; intros; rename_i g hin;obtain ⟨f1,f2,mb,ok,hv,hf,hw⟩:=hin;obtain ⟨b,o,x',y,z,e1,e2,e3,e4,ar⟩:=mb.row.at_ hs;have hm:=ar.len;refine ⟨_,aM _,_,_,_,mb.l3,_,e1,_,bm _ _,_,_,_,e4,ae (fun g1=> ?_) (fun g1=> ?_)⟩
  ·have g1:=dT g1;obtain ⟨q,hq⟩: ∃ q,s.arcs[j]?=some q:=⟨_,gE (by omega)⟩
   obtain ⟨bb,oo,d1,d2,d3,d4,d5,d6⟩:=ar.at_ hq;refine ⟨_,aM _,_,_,_,mb.l3,_,e1,_,bm _ _,_,_,_,e4,_,d1,_,mh _ _,_,d5,ae (fun g2=>⟨_,rfl,(fun e=>by cases e),ok⟩) (fun g2=> ?_)⟩;have g2:=dF g2;rw [az (i:=j) (n:=s.arcs.length) (by omega) (by omega)];refine bp (mz2 - 1) (by omega) ⟨by omega,by omega,mb,ok,hv,hf,fun j' q' hj hq'=> ?_⟩;rcases lt_or_ge j' j with hj2 | hj2
   ·exact hw j' q' hj2 hq'
   ·obtain rfl:j'=j:=by omega
    rw [hq] at hq';obtain rfl:=oI hq';omega
  ·have g1:=dF g1;rw [az hi (by omega)];refine bp (n - (i+1)) (by omega) ⟨by omega,rfl,mb,ok,fun i' s' hi' hs'=> ?_⟩;rcases lt_or_ge i' i with hj2 | hj2
   ·exact hv i' s' hj2 hs'
   ·obtain rfl:i'=i:=by omega
    rw [hs] at hs';obtain rfl:=oI hs';refine ⟨hf,fun q hq=> ?_⟩;obtain ⟨j',hj',rfl⟩:=List.mem_iff_getElem.1 hq;exact hw j' _ (by omega) (gE hj'))
theorem IN (w:Wf h)(bd:P4 M)(r:StRow h (.slice a n c) M.states):FW SS 8 [.agg ⟨aC M a n c⟩] h (lQ h M):=by
 obtain ⟨mb,ok⟩:=cD w r;refine KR (aC M a n c) h _ ⟨_,ei M a n c,?_⟩;generalize h.push (Bm M a n c)=g at *;have hl:=mb.len;refine ⟨_,aM _,_,_,_,mb.l3,ae (fun q1=>⟨_,rfl,(fun e=>by cases e),ok⟩) (fun q1=> ?_)⟩;have q1:=dF q1;refine ⟨_,mb.all,(Jr ok.wf bd (by omega) mb.row).mono ?_⟩;rintro _ g2 ⟨rfl,o2⟩;have ok2:=ok.trans o2;have mb2:=mb.ok o2;refine ⟨_,rfl,ae (fun q2=>⟨_,rfl,(fun e=>by cases e),ok2⟩) (fun q2=> ?_)⟩;have q2:=dF q2;refine ⟨_,jq _,_,mb2.l2,ae (fun q3=>⟨_,rfl,(fun e=>by cases e),ok2⟩) (fun q3=> ?_)⟩;have q3:=dF q3;have hS: ∀ s∈M.states,s.arcs.length<=2000:=fun s hs=>by have:=Bi hs; omega
 refine sn (aC M a n c) h.next (P1 h h.next M a n c) (lQ h M) (fun mz i=> ?_) n (i:=0) ⟨by omega,rfl,mb2,ok2,fun i' s hi=>by omega⟩;intros; rename_i gg hi;obtain ⟨f1,f2,mb3,ok3,f5⟩:=hi;refine ⟨_,aM _,_,_,_,mb3.l3,ae (fun t1=> ?_) (fun t1=> ?_)⟩
 ·have t1:=dT t1;obtain ⟨s,hs⟩: ∃ s,M.states[i]?=some s:=⟨_,gE (by omega)⟩
  obtain ⟨b,o,x',y,z,e1,e2,e3,e4,ar⟩:=mb3.row.at_ hs;refine ⟨_,aM _,_,_,_,mb3.l3,_,e1,_,fY _ _,_,e3,ae (fun t2=>⟨_,rfl,(fun e=>by cases e),ok3⟩) (fun t2=> ?_)⟩;have t2:=dF t2;exact MJ w (by omega) hs (hS s (List.mem_of_getElem? hs)) (by omega) [] mz f2 s.arcs.length (j:=0) ⟨by omega,by omega,mb3,ok3,f5,by omega,fun j' q hj=>by omega⟩
 ·have t1:=dF t1;have hget: ∀ s∈M.states,s.f.length<=900/\ ∀ q∈s.arcs,q.w.length<=900:=fun s hs=>by
   obtain ⟨i',hi',rfl⟩:=List.mem_iff_getElem.1 hs;exact f5 i' _ (by omega) (gE hi')
  exact ⟨_,rfl,fun _=>⟨by omega,by omega,fun s hs=>(hget s hs).1,hS,fun s hs=>(hget s hs).2,by omega⟩,ok3⟩
end
end
noncomputable def fg:FD:=bF Tryz.f16 [([1,1,0,1,0,0],[1,2,17,18,19]),([1,1,0,1,0,0,1,1,0,0,1,1,0,1,0,0],[1,2,4,5,17,18,19,25,26,27])]
abbrev fq (k:Nat)(a:OA)(n c:Nat)(i:Nat):LV:=[(pA k),(.bool false),(.slice a n c),(iA n),(iA i)]
abbrev i9 (k:Nat)(a:OA)(n c k2 k3:Nat)(b:OA)(m d i:Nat)(j:Nat):LV:=[(pA k),(.bool false),(pA k2),(.map (some k3)),(.slice a n c),(iA n),(iA i),(.slice b m d),(iA m),(iA j)]
theorem Mo (mv:LV)(h:Heap)(Q:VH)(hx:xN (dc SS.P 24 (.agg ⟨mv⟩)) h fun B1 g2=>xA (ah SS.P 24 g2 (pA (h.next))) fun c3=>FW SS 12 [(.agg ⟨c3⟩)] g2 fun v4 h5=>yB v4 fun b6=>au (!b6) (Q (.bool false) h5) (xA (ah SS.P 24 h5 (pA (h.next))) fun c7=>FW SS 14 [(.agg ⟨c7⟩)] h5 fun v8 h9=>yB v8 fun b10=>au (!b10) (Q (.bool false) h9) (xP (af SS.P 24 (pA (h.next)) 3) fun p11=>xL (ah SS.P 22 h9 (.pointer (some p11))) fun a12 n13 c14=>LL SS fg [1,1,0,1,0,0] (fq (h.next) a12 n13 c14 0) h9 (KK SS fg [1,1,0,1,0] [] (EE SS fg Q))))):FW SS 16 [(.agg ⟨mv⟩)] h Q:=bG fg Tryz.func16 (aj hx)
theorem tJ (mv:LV)(k:Nat)(a:OA)(n c:Nat)(Inv:Nat->Nat->Heap->Prop)(Q:VH)(step: ∀ (mz:Nat) (i:Nat) (zz:Nat->Value) (h:Heap),Inv mz i h->au (decide (((i:Int):Int) < (n:Int))) (xP (ag SS.P 22 (.slice a n c) (iA i)) fun p15=>xA (ah SS.P 37 h (.pointer (some p15))) fun c16=>xN (aF SS.P 37) h fun B17 g18=>xU (ai SS.P 37 (pA (h.next)) (.agg ⟨c16⟩) g18) g18 fun u19 g20=> ∃ B21:Blk,qi SS.P 45=some (B21,fun k=> .map (some k))/\xP (af SS.P 37 (pA (h.next)) 1) fun p22=>xL (ah SS.P 35 (g20.push B21) (.pointer (some p22))) fun a23 n24 c25=>LL SS fg [1,1,0,1,0,0,1,1,0,0,1,1,0,1,0,0] (i9 k a n c (h.next) (g20.next) a23 n24 c25 i 0) (g20.push B21) (KK SS fg [1,1,0,0,1,1,0,1,0] [1,1,0,1,0,0] (RR fg [1,1,0,1,0,0] (fA (fq k a n c) Inv) mz (KK SS fg [1,1,0,1,0] [] (EE SS fg Q))))) (Q (.bool true) h))(mz:Nat){i:Nat}{h:Heap}(hi:Inv mz i h):LL SS fg [1,1,0,1,0,0] (fq k a n c i) h (KK SS fg [1,1,0,1,0] [] (EE SS fg Q)):=
 bH (fq k a n c) Inv (fun mz i zz h hi=>aj (step mz i zz h hi)) mz hi
theorem tZ (mv:LV)(k:Nat)(a:OA)(n c k2 k3:Nat)(b:OA)(m d:Nat)(Inv:Nat->Nat->Heap->Prop)(mz i:Nat)(Inv2:Nat->Nat->Heap->Prop)(Q:VH)(step: ∀ (mz2:Nat) (j:Nat) (zz:Nat->Value) (h:Heap),Inv2 mz2 j h->au (decide (((j:Int):Int) < (m:Int))) (xP (ag SS.P 35 (.slice b m d) (iA j)) fun p26=>xA (ah SS.P 39 h (.pointer (some p26))) fun c27=>xN (aF SS.P 39) h fun B28 g29=>xU (ai SS.P 39 (pA (h.next)) (.agg ⟨c27⟩) g29) g29 fun u30 g31=>xP (af SS.P 39 (pA (h.next)) 0) fun p32=>xI .i64 (ah SS.P 3 g31 (.pointer (some p32))) fun n33=>xU (iT SS.P 45 (.map (some k3)) (.int .i64 n33) (.bool true) g31) g31 fun u34 g35=>ax (fA (i9 k a n c k2 k3 b m d i) Inv2) mz2 [(pA k),(.bool false),(pA k2),(.map (some k3)),(.slice a n c),(iA n),(iA i),(.slice b m d),(iA m),(.int .i64 (wrap .i64 ((j:Int)+1)))] g35) (xI .i64 (Cz SS.P 45 (.map (some k3)) h) fun n36=>xP (af SS.P 37 (pA k2) 1) fun p37=>xL (ah SS.P 35 h (.pointer (some p37))) fun a38 n39 c40=>au (((n36:Int) != (n39:Int))) (Q (.bool false) h) (ax (fA (fq k a n c) Inv) mz [(pA k),(.bool false),(.slice a n c),(iA n),(.int .i64 (wrap .i64 ((i:Int)+1)))] h)))(mz2:Nat){j:Nat}{h:Heap}(hi:Inv2 mz2 j h):LL SS fg [1,1,0,1,0,0,1,1,0,0,1,1,0,1,0,0] (i9 k a n c k2 k3 b m d i j) h (KK SS fg [1,1,0,0,1,1,0,1,0] [1,1,0,1,0,0] (RR fg [1,1,0,1,0,0] (fA (fq k a n c) Inv) mz (KK SS fg [1,1,0,1,0] [] (EE SS fg Q)))):=
 bH (i9 k a n c k2 k3 b m d i) Inv2 (fun mz2 j zz h hi=>aj (step mz2 j zz h hi)) mz2 hi
end Go.Proofs.YtoabjjimjldcfaaGreatDoor
end
