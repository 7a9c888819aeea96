/- Laws and walks that the proof leans on (part 4): P25; W10; P23; AbRow; P24; P26 and others. No condition. -/
import Derived.Test.YtoabjjimjldcfaaGreatDoorPart2
import Derived.Test.YtoabjjimjldcfaaGreatDoorPart3
open List (all_cons append_assoc append_nil drop_eq_nil_of_le drop_take drop_zero flatten_cons getElem?_drop getElem?_map getElem?_replicate getElem?_set getElem?_take length_append length_cons length_drop length_nil length_replicate length_set length_singleton length_take mem_append mem_cons mem_cons_of_mem mem_cons_self mem_map mem_singleton nil_append take_add_one take_of_length_le take_zero)
open Nat (add_mul le_refl le_succ le_trans lt_of_lt_of_le lt_or_ge mul_le_mul_right mul_one one_mul zero_add)
open Bool (and_eq_true not_eq_false' not_eq_true')
open Int (toNat_natCast)
open Go.IntKind (wrap)
section
set_option linter.unusedVariables false
set_option maxRecDepth 100000
namespace Go.Proofs.YtoabjjimjldcfaaGreatDoor
open Go Go.Ab
theorem IL:SS.P.underlying 9=some .string:=Tryz.underlying9
theorem CZ (l:List UInt8)(h:Heap){b:Nat}(hb:b<=l.length):bh SS.P 9 (aa l) none (some (.int .i64 (b:Int))) none h=some (aa (l.take b)):=by
 have:=jq (h:=h) IL l (lo:=none) (hi:=some (.int .i64 (b:Int))) (a:=0) (b:=b) rfl rfl (by omega) hb;simpa using this
theorem vK (l:List UInt8)(h:Heap){a:Nat}(ha:a<=l.length):bh SS.P 9 (aa l) (some (.int .i64 (a:Int))) none none h=some (aa (l.drop a)):=by
 have:=jq (h:=h) IL l (lo:=some (.int .i64 (a:Int))) (hi:=none) (a:=a) (b:=l.length) rfl rfl ha (le_refl _);rw [this,take_of_length_le (by simp)]
theorem ED (l:List UInt8)(h:Heap):FW SS 177 [aa l,aa [45]] h (fun v h'=>v = .bool (Num.isNeg l)/\h'=h):=by
 refine Et l [45] h _ (ae (fun h1=> ?_) (fun h1=> ?_))
 ·have h1:=dT h1;have h2:1<=l.length:=by simp only [length_cons,length_nil] at h1; omega
  refine ⟨_,CZ l h (b:=1) h2,?_,rfl⟩
  cases l with
  | nil=>simp at h2
  | cons c l=>
   unfold Num.isNeg;simp only [List.take_succ_cons,take_zero,List.head?_cons];congr 1
   cases hc:c == 45 <;> simp_all
 ·have h1:=dF h1;have h2:l=[]:=List.eq_nil_of_length_eq_zero (by simp at h1; omega);subst h2;exact ⟨rfl,rfl⟩
theorem BG (l:List UInt8)(h:Heap):FW SS 165 [aa l,aa [45]] h (fun v h'=>v = .tuple ⟨[aa (Num.afterNeg l),.bool (Num.isNeg l)]⟩/\h'=h):=by
 refine Am l [45] h _ ((ED l h).mono ?_);rintro _ g0 ⟨rfl,e0⟩;obtain rfl:h=g0:=e0.symm;refine ⟨_,rfl,ae (fun g=> ?_) (fun g=> ?_)⟩
 ·have g:Num.isNeg l=false:=by simpa using g
  unfold Num.afterNeg; rw [g]; exact ⟨rfl,rfl⟩
 ·have g:Num.isNeg l=true:=by simpa using g
  have h2:1<=l.length:=by
   cases l with
   | nil=>cases g
   | cons=>simp
  refine ⟨_,vK l h (a:=1) h2,?_,rfl⟩;unfold Num.afterNeg; rw [g]; rfl
theorem D2 (l:List UInt8)(h:Heap):FW SS 145 [aa l,aa [45]] h (fun v h'=>v = .tuple ⟨[aa (Num.afterNeg l),.bool (Num.isNeg l)]⟩/\h'=h):=by
 refine Fs l [45] h _ ((BG l h).mono ?_);rintro _ g0 ⟨rfl,e0⟩;exact ⟨_,_,rfl,rfl,e0⟩
theorem Ba (l:List UInt8): ∀ i:Nat,lJ 47 l i=if Num.idxB 47 l < l.length then ((i+Num.idxB 47 l:Nat):Int) else -1:=by
 induction l with
 | nil=>intro i; rfl
 | cons c l ih=>
  intro i;unfold lJ Num.idxB;have hc:c.toNat=47↔c=47:=by rw [<-UInt8.toNat_inj]; rfl
  by_cases h:c=47
  ·rw [if_pos (hc.2 h),if_pos h,if_pos (by simp)]; rfl
  ·rw [if_neg (fun e=>h (hc.1 e)),if_neg h,ih (i+1)];have:(Num.idxB 47 l+1 < (c::l).length)↔Num.idxB 47 l < l.length:=by simp
   simp only [this];split
   ·congr 1; omega
   ·rfl
def FY (l:List UInt8):Int:=if Num.idxB 47 l < l.length then (Num.idxB 47 l:Int) else -1
theorem yf (l:List UInt8)(h:Heap):FW SS 186 [aa l,.int .u8 47] h (fun v h'=>v = .int .i64 (FY l)/\h'=h):=by
 refine xZ l 47 h _ (rh (p:=iE) (v:= .int .i64 (FY l)) (h':=h) (by decide +kernel) (by kernel_rfl) (fun cf=> ?_) ⟨_,rfl,rfl,rfl⟩);show (if (0:Int)<=47/\(47:Int) < 256 then some (Value.int .i64 (lJ 47 l 0),h) else none)=_;rw [if_pos (by decide),Ba,zero_add]; rfl
theorem Ex (l:List UInt8)(h:Heap):FW SS 178 [aa l,aa [47]] h (fun v h'=>v = .int .i64 (FY l)/\h'=h):=by
 refine D7 l h _ (ae (fun h1=> ?_) (fun h1=> ?_))
 ·have h1:([47]:List UInt8)=l:=by simpa using h1
  subst h1;exact ⟨rfl,rfl⟩
 ·refine ⟨47,rfl,(yf l h).mono ?_⟩;rintro _ g0 ⟨rfl,e0⟩;exact ⟨_,rfl,rfl,e0⟩
def Dq (l:List UInt8):Value:=if Num.idxB 47 l < l.length then .tuple ⟨[aa (l.take (Num.idxB 47 l)),aa (l.drop (Num.idxB 47 l+1)),.bool true]⟩ else .tuple ⟨[aa l,aa [],.bool false]⟩
theorem JG (l:List UInt8)(hl:l.length<=1000000000){h:Heap}(w:Wf h):FW SS 166 [aa l,aa [47]] h (fun v h'=>v=Dq l/\Ok h h'):=by
 refine Jv l h _ ((Ex l h).mono ?_);rintro _ g0 ⟨rfl,e0⟩;obtain rfl:h=g0:=e0.symm;refine ⟨_,rfl,ae (fun g=> ?_) (fun g=> ?_)⟩
 ·have g:=dT g;unfold FY Dq at *;by_cases h1:Num.idxB 47 l < l.length
  ·rw [if_pos h1,if_pos h1];have hw:wrap .i64 ((Num.idxB 47 l:Int)+1)=((Num.idxB 47 l+1:Nat):Int):=by rw [aq (by omega) (by omega)]; omega
   rw [hw];exact ⟨_,CZ l _ (Nat.le_of_lt h1),_,vK l _ h1,rfl,(Ok.refl w).room 12⟩
  ·rw [if_neg h1] at g; omega
 ·have g:=dF g;unfold FY Dq at *;by_cases h1:Num.idxB 47 l < l.length
  ·rw [if_pos h1] at g; omega
  ·rw [if_neg h1]; exact ⟨rfl,Ok.refl w⟩
theorem LT (l:List UInt8)(hl:l.length<=1000000000){h:Heap}(w:Wf h):FW SS 146 [aa l,aa [47]] h (fun v h'=>v=Dq l/\Ok h h'):=by
 refine Lb l h _ ((JG l hl w).mono ?_);rintro _ g0 ⟨rfl,e0⟩;unfold Dq;split
 ·exact ⟨_,_,_,rfl,rfl,e0⟩
 ·exact ⟨_,_,_,rfl,rfl,e0⟩
end Go.Proofs.YtoabjjimjldcfaaGreatDoor
end
section
namespace Go.Ab
open Go
theorem Ec (k i j:Nat):Addr.add ⟨k,i,none⟩ j=⟨k,i+j,none⟩:=by simp [Addr.add]
theorem Ff {P:Program}{t e:TypeId}{sz:Nat}(hU:P.underlying t=some (.slice e))(hs:al P e=some sz){k off n c:Nat}{ik:IntKind}{i:Int}(h0:0<=i)(h1:i < n):ag P t (.slice (some ⟨k,off,none⟩) n c) (.int ik i)=some (.pointer (some ⟨k,off+i.toNat*sz,none⟩)):=by
 unfold ag;rw [hU]; dsimp only;rw [hs]; dsimp only;rw [if_pos ⟨h0,h1⟩,Ec]
theorem cZ {P:Program}{t:TypeId}{d:TypeDesc}(hU:P.underlying t=some d)(ha:isAgg P t=false){h:Heap}{k i:Nat}{cs:List Value}{e:TypeId}{sz:Nat}{wr:Bool}(hg:h.get k=some (.cells cs e sz wr))(hi:i < cs.length):ah P t h (.pointer (some ⟨k,i,none⟩))=some (cs.getD i undef):=by
 unfold ah;rw [hU]; dsimp only;rw [hg]; dsimp only;rw [ha];simp only [Bool.false_eq_true,if_false];rw [gD,gE hi]; rfl
theorem gj {P:Program}{t:TypeId}{d:TypeDesc}{sz:Nat}(hU:P.underlying t=some d)(ha:isAgg P t=true)(hs:al P t=some sz){h:Heap}{k i:Nat}{cs:List Value}{e:TypeId}{z:Nat}{wr:Bool}(hg:h.get k=some (.cells cs e z wr))(hi:i+sz<=cs.length):ah P t h (.pointer (some ⟨k,i,none⟩))=some (.agg ⟨(cs.drop i).take sz⟩):=by
 unfold ah;rw [hU]; dsimp only;rw [hg]; dsimp only;rw [ha];simp only [if_true];rw [hs]; dsimp only;rw [if_pos (by rw [length_take,length_drop]; omega)]
theorem lI {P:Program}{t:TypeId}(hs:al P t=some 1){h:Heap}{k i:Nat}{cs:List Value}{e:TypeId}{sz:Nat}(hg:h.get k=some (.cells cs e sz true))(hi:i < cs.length){v:Value}(hv:bI v=true)(hc:v.cells = #[v]):ai P t (.pointer (some ⟨k,i,none⟩)) v h=some (undef,.set k (.cells (cs.set i v) e sz true)):=by
 unfold ai;dsimp only;rw [hc,if_pos (show al P t=some (#[v]:Array Value).size from hs)];unfold storeAt;rw [hg]; dsimp only;rw [if_pos ⟨by simp; omega,by simp [hv]⟩];have e0:cs.take i++[v]++cs.drop (i+1)=cs.set i v:=by
  rw [List.set_eq_take_append_cons_drop,if_pos hi,append_assoc]; rfl
 show some (undef,Upd.set k (.cells (cs.take i++[v]++cs.drop (i+1)) e sz true))=_;rw [e0]
structure IRow (hb:Heap)(kt:Nat)(e:TypeId)(vs:List Value)(g:Heap):Prop where
 row:g.get kt=some (.cells vs e 1 true)
 new:hb.next<=kt
 ok:Ok hb g
theorem IRow.lt {hb:Heap}{kt:Nat}{e:TypeId}{vs:List Value}{g:Heap}(m:IRow hb kt e vs g):kt < g.next:=m.ok.wf _ _ m.row
theorem IRow.trans {hb:Heap}{kt:Nat}{e:TypeId}{vs:List Value}{g g':Heap}(m:IRow hb kt e vs g)(o:Ok g g'):IRow hb kt e vs g':=⟨o.ext _ _ m.row,m.new,m.ok.trans o⟩
theorem IRow.set {hb:Heap}(w:Wf hb){kt:Nat}{e:TypeId}{vs:List Value}{g:Heap}(m:IRow hb kt e vs g)(j:Nat)(v:Value):IRow hb kt e (vs.set j v) ((Upd.set kt (.cells (vs.set j v) e 1 true)).app g):=by
 refine ⟨?_,m.new,m.ok.set _ m.new m.lt w⟩;show (g.set kt _).get kt=_;rw [Heap.get_set,if_pos rfl]
theorem lB (z:Value)(n:Nat):aZ [z] n=List.replicate n z:=by
 induction n with
 | zero=>rfl
 | succ n ih=>rw [aZ,ih,List.replicate_succ]; rfl
theorem Jz {α:Type}(f:α->Value)(L:List α)(j:Nat)(d:α):(L.map f).set j (f d)=(L.set j d).map f:=by rw [List.map_set]
end Go.Ab
end
section
set_option linter.defProp false
set_option linter.unusedVariables false
set_option maxRecDepth 100000
namespace Go.Proofs.YtoabjjimjldcfaaGreatDoor
open Go Go.Ab
noncomputable def ti3:TypeInfo:=(SS.P.info? 3).getD default
theorem LI:SS.P.info? 3=some ti3:=by kernel_rfl
theorem GX:ti3.size=1:=by kernel_rfl
theorem DE:ti3.bytes=8:=by kernel_rfl
theorem Ms:cw SS.P 3=some (iv 0):=by kernel_rfl
theorem Nu (n:Nat)(hn:n<=100000):aX SS.P 48 (.int .i64 (n:Int)) (.int .i64 (n:Int))=some (.cells ((List.replicate n 0).map iv) 3 1 true,gH n n):=by
 unfold aX aM;dsimp only;rw [kJ]
 try dsimp only
 change (match SS.P.info? 3,cw SS.P 3 with
  | some i,some z=>(if z.cells.size=i.size/\0 < i.size/\(0:Int)<=(n:Int)/\(n:Int)<=(n:Int)/\(n:Int)*i.bytes<=140737488355328/\(n:Int)<=1099511627776 then some (Blk.cells (aZ z.cells.toList (n:Int).toNat) 3 i.size true,fun k=>Value.slice (some ⟨k,0,none⟩) (n:Int).toNat (n:Int).toNat) else none)
  | _,_=>none)=_
 rw [LI,Ms];dsimp only;rw [GX,DE,if_pos ⟨rfl,by omega,by omega,Int.le_refl _,by omega,by omega⟩];have e:((n:Int)).toNat=n:=by omega
 rw [e,show (iv 0).cells.toList=[iv 0] from rfl,lB,List.map_replicate]; rfl
theorem gW (n:Int):eK 4 (.int .i64 n) (.int .i64 n)=true:=by simp [eK]
end Go.Proofs.YtoabjjimjldcfaaGreatDoor
end
section
set_option linter.unusedVariables false
set_option maxRecDepth 100000
namespace Go.Proofs.YtoabjjimjldcfaaGreatDoor
open Go Go.Ab
def nG (h:Heap)(C:Prop)(G B:Value):VH:=fun v h'=>Ok h h'/\(C->v=G)/\(¬ C->v=B)
theorem Ek {h h':Heap}{C:Prop}{G B:Value}(o:Ok h h')(hc: ¬ C):nG h C G B B h':=⟨o,fun c=>absurd c hc,fun _=>rfl⟩
theorem BT {h h':Heap}{C:Prop}{G B:Value}(o:Ok h h')(hc:C):nG h C G B G h':=⟨o,fun _=>rfl,fun c=>absurd hc c⟩
theorem Gv {n d:List UInt8}(hn:Num.valid n=true)(hd:Num.valid d=true):Bz n d=uY (Num.toDec (Nat.gcd (Num.val n) (Num.val d))) 0:=by unfold Bz; rw [if_pos ⟨hn,hd⟩]
theorem iq {X:Nat}(h:X < 10 ^ 800):Num.valid (Num.toDec X)=true:=Num.valid_toDec.2 (lt_of_lt_of_le h (Num.pow_mono10 (k:=800) (m:=1000) (by decide)))
theorem CS {X:Nat}(h:X < 10 ^ 1000):oc X=uY (Num.toDec X) 0:=by
 unfold oc;rw [if_neg];have:=(Num.toDec_len_le (n:=X) (k:=1000) (by decide)).2 h;omega
theorem GE {A B:Nat}(hA:A < 10 ^ 800)(hB:B < 10 ^ 800):BY (Num.toDec A) (Num.toDec B)=uY (Num.toDec (A+B)) 0:=by
 unfold BY;rw [if_pos ⟨iq hA,iq hB⟩,Num.val_toDec,Num.val_toDec];exact CS (lt_of_lt_of_le (Nat.add_lt_add hA hB) Num.pow_800)
theorem yq {A B:Nat}(hA:A < 10 ^ 800)(hB:B < 10 ^ 800)(h:B<=A):As (Num.toDec A) (Num.toDec B)=uY (Num.toDec (A - B)) 0:=by
 unfold As;rw [if_pos ⟨iq hA,iq hB⟩,Num.val_toDec,Num.val_toDec,if_neg (Nat.not_lt.2 h)]
theorem HZ {A B:Nat}(hA:A < 10 ^ 800)(hB:B < 10 ^ 800):Ch (Num.toDec A) (Num.toDec B) = .int .i64 (Num.cmpN A B):=by
 unfold Ch;rw [if_pos ⟨iq hA,iq hB⟩,Num.val_toDec,Num.val_toDec]
theorem oC {a b:List UInt8}(ha:Num.valid a=true)(hb:Num.valid b=true)(la:a.length<=400)(lb:b.length<=400):Ao a b=uY (Num.toDec (Num.val a*Num.val b)) 0/\Num.val a*Num.val b < 10 ^ 800:=by
 have h:=Num.pow_400_800 (Num.valid_lt (k:=400) ha (by decide) la) (Num.valid_lt (k:=400) hb (by decide) lb);refine ⟨?_,h⟩;unfold Ao;rw [if_pos ⟨ha,hb⟩];exact CS (lt_of_lt_of_le h (Num.pow_mono10 (k:=800) (m:=1000) (by decide)))
def C5 (s:Bool)(A:Nat)(t:Bool)(B:Nat):Value:= .tuple ⟨[.bool (Num.plusS s A t B).1,aa (Num.toDec (Num.plusS s A t B).2)]⟩
theorem cmpN_lt0 {A B:Nat}:Num.cmpN A B < 0↔A < B:=Num.cmpN_neg
end Go.Proofs.YtoabjjimjldcfaaGreatDoor
end
section
set_option linter.defProp false
set_option linter.unusedVariables false
set_option maxRecDepth 100000
namespace Go.Proofs.YtoabjjimjldcfaaGreatDoor
open Go Go.Ab
structure MR (hb:Heap)(kt N:Nat)(L:List Nat)(g:Heap):Prop where
 len:L.length=N
 lt: ∀ d∈L,d < BB
 row:g.get kt=some (.cells (ba ((List.replicate N 0).map uv) 0 L) 103 1 true)
 ok:Ok hb g
theorem MR.room {hb:Heap}{kt N:Nat}{L:List Nat}{g:Heap}(m:MR hb kt N L g)(r:Nat):MR hb kt N L (Go.Ab.room g r):=⟨m.len,m.lt,m.row,m.ok.room r⟩
theorem MR.get {hb:Heap}{kt N c:Nat}{L:List Nat}{g:Heap}(m:MR hb kt N L g){j:Int}{jn:Nat}(hj:j=(jn:Int))(hl:jn < N): ∃ p:Addr,ag SS.P 136 (.slice (some ⟨kt,0,none⟩) N c) (.int .i64 j)=some (.pointer (some p))/\ah SS.P 103 g (.pointer (some p))=some (.int .u64 (L.getD jn 0:Nat))/\
  ∀ d:Nat,d < BB->kt < g.next->hb.next<=kt->Wf hb-> ∃ u:Upd,ai SS.P 103 (.pointer (some p)) (.int .u64 (d:Int)) g=some (undef,u)/\MR hb kt N (L.set jn d) (u.app g):=by
 subst hj;have hc:(0:Nat)+L.length<=((List.replicate N 0).map uv).length:=by rw [lM,length_replicate,m.len]; omega
 refine ⟨⟨kt,0+(jn:Int).toNat,none⟩,oH (by omega) (by omega),?_,?_⟩
 ·rw [toNat_natCast];exact rX m.row hc (by rw [m.len]; exact hl)
 ·intro d hd hk hn w;rw [toNat_natCast];refine ⟨_,sU m.row hc (by rw [m.len]; exact hl) d,by rw [length_set]; exact m.len,fun e he=> ?_,?_,m.ok.set _ hn hk w⟩
  ·rcases List.mem_or_eq_of_mem_set he with h | h
   ·exact m.lt e h
   ·rw [h]; exact hd
  ·show (g.set kt _).get kt=_;rw [Heap.get_set,if_pos rfl]
def H5 (hb:Heap)(kt N n:Nat)(x y:List Nat)(mz i:Nat)(g:Heap):Prop:=i<=n/\mz=n - i/\ ∃ L,MR hb kt N L g/\Num.bv BB L=Num.bv BB (x.take i)*Num.bv BB y
def KT (hb:Heap)(kt N k:Nat)(x y:List Nat)(i mz j:Nat)(cy:Int)(g:Heap):Prop:=j<=k+1/\mz=k+1 - j/\ ∃ (L:List Nat)(cn:Nat),cy=(cn:Int)/\cn < BB/\MR hb kt N L g/\Num.bv BB L+cn*BB ^ (i+j)=Num.bv BB (x.take i)*Num.bv BB y+x.getD i 0*Num.bv BB (y.take j)*BB ^ i
theorem BK {hb:Heap}(w:Wf hb){kt N k:Nat}{x y:List Nat}(hkt:hb.next<=kt)(hx: ∀ d∈x,d < BB)(hy: ∀ d∈y,d < BB){i mz j:Nat}{cn:Nat}{L:List Nat}{g:Heap}(hj:j < k+1)(hij:i+j < N)(hmz:mz=k+1 - j)(hcn:cn < BB)(m:MR hb kt N L g)(he:Num.bv BB L+cn*BB ^ (i+j)=Num.bv BB (x.take i)*Num.bv BB y+x.getD i 0*Num.bv BB (y.take j)*BB ^ i){q:Nat}(hq:q=x.getD i 0*y.getD j 0):
  q<=999999998000000001/\L.getD (i+j) 0 < BB/\(∀ g',MR hb kt N (L.set (i+j) ((L.getD (i+j) 0+cn+q) % BB)) g'->mz - 1 < mz/\KT hb kt N k x y i (mz - 1) (j+1) (((L.getD (i+j) 0+cn+q) / BB:Nat):Int) g')/\(L.getD (i+j) 0+cn+q) % BB < BB/\kt < g.next:=by
 have hxi:=Num.getD_lt (b:=BB) (by decide) hx i;have hyj:=Num.getD_lt (b:=BB) (by decide) hy j;have hLj:=Num.getD_lt (b:=BB) (by decide) m.lt (i+j);refine ⟨?_,hLj,fun g' m'=>⟨by omega,by omega,by omega,_,_,rfl,?_,m',?_⟩,Nat.mod_lt _ (by decide),m.ok.wf _ _ m.row⟩
 ·rw [hq];exact le_trans (Nat.mul_le_mul (Nat.le_of_lt_succ hxi) (Nat.le_of_lt_succ hyj)) (by decide)
 ·exact (Num.mul_step cX m.lt (by rw [m.len]; exact hij) hcn hxi hyj (by rw [hq]) he).2.1
 ·exact (Num.mul_step cX m.lt (by rw [m.len]; exact hij) hcn hxi hyj (by rw [hq]) he).2.2
def EK {hb:Heap}(w:Wf hb){a:Option Addr}{n c:Nat}{b:Option Addr}{k d:Nat}{kt N tc:Nat}{x y:List Nat}(ra:Rd hb 103 (.slice a n c) (x.map uv))(rb:Rd hb 103 (.slice b k d) (y.map uv))(hx: ∀ d∈x,d < BB)(hy: ∀ d∈y,d < BB)(hkt:hb.next<=kt){i:Nat}(hi:i < n)(hn:n=x.length)(hk:k=y.length)(hN:N=n+k+1)(hN2:N<=1000)(l m:List UInt8)(Q:VH)(mz:Nat)(hmz:mz=n - i):=
 oZ l m a n c b k d (some ⟨kt,0,none⟩) N tc (n:Int) (H5 hb kt N n x y) mz i ((k:Int)+1) (KT hb kt N k x y i) Q (by
  intro mz2 j cy; intros; rename_i g hin;obtain ⟨h1,h2,L,cn,rfl,h3,mr,h4⟩:=hin;have hBv:BB=1000000000:=rfl;have e1:wrap .i64 ((i:Int)+(j:Int))=((i+j:Nat):Int):=by rw [aq (by omega) (by omega)]; omega
  have e2:wrap .i64 ((j:Int)+1)=((j+1:Nat):Int):=by rw [aq (by omega) (by omega)]; omega
  have e3:wrap .i64 ((i:Int)+1)=((i+1:Nat):Int):=by rw [aq (by omega) (by omega)]; omega
  rw [e1,e2,e3];refine ae (fun h5=> ?_) (fun h5=> ?_)
  ·have h5:=dT h5;obtain ⟨q,hq⟩: ∃ q,q=x.getD i 0*y.getD j 0:=⟨_,rfl⟩
   obtain ⟨s1,s2,s3,s4,s5⟩:=BK w hkt hx hy (by omega) (by omega) h2 h3 mr h4 hq;obtain ⟨p,g1,g2,_⟩:=mr.get (c:=tc) (j:=((i+j:Nat):Int)) rfl (by omega);have e4:wrap .u64 (((L.getD (i+j) 0:Nat):Int)+(cn:Int))=((L.getD (i+j) 0+cn:Nat):Int):=by rw [cC (by omega) (by omega)]; omega
   refine ⟨p,g1,_,g2,ae (fun h6=> ?_) (fun h6=> ?_)⟩
   ·have h6:=dT h6;obtain ⟨p1,f1,f2⟩:=vw (ra.ok (mr.room 12).ok) (i:=(i:Int)) (by omega) (by omega);obtain ⟨p2,f3,f4⟩:=vw (rb.ok (mr.room 12).ok) (i:=(j:Int)) (by omega) (by omega);rw [toNat_natCast] at f2 f4;have e5:wrap .u64 (((x.getD i 0:Nat):Int)*((y.getD j 0:Nat):Int))=(q:Int):=by rw [<-Int.natCast_mul,<-hq]; exact cC (by omega) (by omega)
    have e6:wrap .u64 (((L.getD (i+j) 0+cn:Nat):Int)+(q:Int))=((L.getD (i+j) 0+cn+q:Nat):Int):=by rw [cC (by omega) (by omega)]; omega
    rw [e4];refine ⟨p1,f1,_,f2,p2,f3,_,f4,?_⟩;dsimp only;rw [e5,e6];obtain ⟨p3,g3,_,g5⟩:=(mr.room 12).get (c:=tc) (j:=((i+j:Nat):Int)) rfl (by omega);obtain ⟨u,g6,g7⟩:=g5 _ s4 (lt_of_lt_of_le s5 (Nat.le_add_right _ _)) hkt w;obtain ⟨t1,t2⟩:=s3 _ g7;refine ⟨_,cP (b:=BB) (by omega) (by decide),_,jd (b:=BB) (by omega) (by omega) (by decide),p3,g3,u,g6,iL (mz2 - 1) t1 ?_⟩;rw [Int.natCast_ediv] at t2;exact t2
   ·have h6:=dF h6;have y0:y.getD j 0=0:=by rw [gD,List.getElem?_eq_none (by omega)]; rfl
    have hq0:q=0:=by rw [hq,y0,Nat.mul_zero]
    rw [e4];obtain ⟨p3,g3,_,g5⟩:=mr.get (c:=tc) (j:=((i+j:Nat):Int)) rfl (by omega);rw [hq0,Nat.add_zero] at s3 s4;obtain ⟨u,g6,g7⟩:=g5 _ s4 s5 hkt w;obtain ⟨t1,t2⟩:=s3 _ g7;refine ⟨_,cP (b:=BB) (by omega) (by decide),_,jd (b:=BB) (by omega) (by omega) (by decide),p3,g3,u,g6,iL (mz2 - 1) t1 ?_⟩;rw [Int.natCast_ediv] at t2;exact t2
  ·have h5:=dF h5;obtain rfl:j=k+1:=by omega
   refine cA (n - (i+1)) (by omega) ⟨by omega,rfl,L,mr,?_⟩;exact Num.mul_end cX hx hy (by omega) mr.lt (by rw [<-hk]; exact h4))
theorem FT {X Y:Nat}(hx:(Num.toB BB X).length<=112)(hy:(Num.toB BB Y).length<=112):(Num.toB BB (X*Y)).length<=10000:=by
 have h1:=Num.bv_lt (Num.toB_lt cX X);have h2:=Num.bv_lt (Num.toB_lt cX Y);rw [Num.bv_toB cX] at h1 h2;have h3:=lt_of_lt_of_le h1 (Nat.pow_le_pow_right (show 0 < BB by decide) hx);have h4:=lt_of_lt_of_le h2 (Nat.pow_le_pow_right (show 0 < BB by decide) hy);refine le_trans (Num.toB_len_le cX (k:=224) ?_) (by omega);rw [show 224=112+112 from rfl,Nat.pow_add];exact Nat.mul_lt_mul'' h3 h4
theorem uz (a b:List UInt8){h:Heap}(t:Tab h)(w:Wf h):FW SS 119 [aa a,aa b] h (fun v h'=>v=Ao a b/\Ok h h'):=by
 refine Fm a b h _ ((bT a h).mono ?_);rintro _ g0 ⟨rfl,e0⟩;obtain rfl:h=g0:=e0.symm;refine ⟨_,rfl,ae (fun g=> ?_) (fun g=> ?_)⟩
 ·have g:Num.valid a=false:=by simpa using g
  refine ⟨?_,Ok.refl w⟩;unfold Ao; rw [if_neg (fun e=>by rw [e.1] at g; cases g)]; rfl
 have g:Num.valid a=true:=by simpa using g
 refine (bT b h).mono ?_;rintro _ g0 ⟨rfl,e0⟩;obtain rfl:h=g0:=e0.symm;refine ⟨_,rfl,ae (fun g2=> ?_) (fun g2=> ?_)⟩
 ·have g2:Num.valid b=false:=by simpa using g2
  refine ⟨?_,Ok.refl w⟩;unfold Ao; rw [if_neg (fun e=>by rw [e.2] at g2; cases g2)]; rfl
 have g2:Num.valid b=true:=by simpa using g2
 have tb:=Jx g g2;have lx:=tb.lx;have ly:=tb.ly;refine (gw g w).mono ?_;rintro _ h1 ⟨a1,n1,c1,rfl,o1,ok1⟩;refine ⟨_,_,_,rfl,(gw g2 ok1.wf).mono ?_⟩;rintro _ h2 ⟨a2,n2,c2,rfl,o2,ok2⟩;refine ⟨_,_,_,rfl,?_⟩;have hS:Ao a b=oc (Num.val a*Num.val b):=by unfold Ao; rw [if_pos ⟨g,g2⟩]
 rw [hS];have r1:=o1.rd.ok ok2;have r2:=o2.rd;have ok:=ok1.trans ok2;have hn1:n1=(Num.toB BB (Num.val a)).length:=by have:=r1.len; rwa [lM] at this
 have hn2:n2=(Num.toB BB (Num.val b)).length:=by have:=r2.len; rwa [lM] at this
 have hX:=Num.toB_lt cX (Num.val a);have hY:=Num.toB_lt cX (Num.val b);have bX:=Num.bv_toB cX (Num.val a);have bY:=Num.bv_toB cX (Num.val b);have r1:Rd h2 103 (.slice a1 n1 c1) ((Num.toB BB (Num.val a)).map uv):=r1;have r2:Rd h2 103 (.slice a2 n2 c2) ((Num.toB BB (Num.val b)).map uv):=r2;have hsz:(Num.toB BB (Num.val a*Num.val b)).length<=10000:=FT lx ly;generalize Num.val a=X at *;generalize Num.val b=Y at *;generalize Num.toB BB X=x at *;generalize Num.toB BB Y=y at *;have e1:wrap .i64 (wrap .i64 ((n1:Int)+(n2:Int))+1)=((n1+n2+1:Nat):Int):=by
  rw [aq (n:=(n1:Int)+(n2:Int)) (by omega) (by omega),aq (by omega) (by omega)]; omega
 dsimp only;rw [e1];refine ⟨_,_,_,Ky _ (by omega),?_⟩;have okp:=(Ok.refl ok.wf).push (.cells ((List.replicate (n1+n2+1) 0).map uv) 103 1 true);have m0:MR h2 h2.next (n1+n2+1) (List.replicate (n1+n2+1) 0) (h2.push (.cells ((List.replicate (n1+n2+1) 0).map uv) 103 1 true)):=by
  refine ⟨length_replicate,fun d hd=>by rw [(List.mem_replicate.1 hd).2]; decide,?_,okp⟩;rw [Heap.get_push,if_pos rfl,ga (by rw [drop_zero,length_replicate,take_of_length_le (by rw [lM,length_replicate]; omega)])]
 refine nU a b a1 n1 c1 a2 n2 c2 (some ⟨h2.next,0,none⟩) (n1+n2+1) (n1+n2+1) (n1:Int) (H5 h2 h2.next (n1+n2+1) n1 x y) (fun v h'=>v=oc (X*Y)/\Ok h h') (fun mz i=> ?_) n1 (i:=0) ⟨by omega,by omega,_,m0,by rw [Num.bv_replicate,take_zero]; simp [Num.bv]⟩;intros; rename_i g hi;obtain ⟨f1,f2,L,mr,f3⟩:=hi;refine ae (fun h5=> ?_) (fun h5=> ?_)
 ·have h5:=dT h5;have e2:wrap .i64 ((n2:Int)+1)=(n2:Int)+1:=aq (by omega) (by omega);rw [e2];exact EK ok.wf r1 r2 hX hY (le_refl _) (i:=i) (by omega) hn1 hn2 rfl (by omega) a b _ mz f2 (n2+1) (j:=0) (cy:=0) ⟨by omega,by omega,L,0,rfl,by decide,mr,by rw [f3,take_zero]; simp [Num.bv]⟩
 ·have h5:=dF h5;obtain rfl:n1=i:=by omega
  rw [take_of_length_le (by omega),bX,bY] at f3;have hcap:n1+n2+1<=aI (n1+n2+1):=by unfold aI; rw [if_neg (by unfold bj; omega)]; omega
  have rc:=rm mr.row (n:=n1+n2+1) (c:=n1+n2+1) mr.len.symm hcap;refine (i8 rc (by rw [mr.len]; omega)).mono ?_;rintro _ h6 ⟨rfl,e6⟩;subst e6;have rt:=qj rc mr.lt;rw [f3] at rt;refine ⟨_,_,_,rfl,(mK rt hsz (t.ok (ok.trans mr.ok)) mr.ok.wf).mono ?_⟩;rintro _ h7 ⟨rfl,ok7⟩;exact Dg (K:=fun v=>v=oc (X*Y)/\Ok h h7) (zt _) ⟨rfl,(ok.trans mr.ok).trans ok7⟩
end Go.Proofs.YtoabjjimjldcfaaGreatDoor
end
section
set_option linter.unusedVariables false
set_option maxRecDepth 100000
namespace Go.Proofs.YtoabjjimjldcfaaGreatDoor
open Go Go.Ab
def uj:Blk:= .cells [.bool false,aa [],aa []] 122 0 true
theorem IH:aD SS.P 122=some (uj,gb):=by kernel_rfl
theorem MU (neg:Bool)(n d:List UInt8):aC SS.P 122 [(0,(.bool neg)),(1,(aa n)),(2,(aa d))]=some (.agg ⟨[.bool neg,aa n,aa d]⟩):=by kernel_rfl
theorem jk:aC SS.P 122 []=some (.agg ⟨[.bool false,aa [],aa []]⟩):=by kernel_rfl
theorem Ic:al SS.P 122=some 3:=by kernel_rfl
theorem M5:Go.Ab.isAgg SS.P 122=true:=by kernel_rfl
noncomputable def Lq:TypeDesc:=(SS.P.underlying 122).getD .bool
theorem M0:SS.P.underlying 122=some Lq:=by kernel_rfl
theorem KG {h:Heap}{k:Nat}{cs0:List Value}(hl:cs0.length=3)(hk:h.get k=some (.cells cs0 122 0 true))(b:Bool)(n d:List UInt8):ai SS.P 122 (.pointer (some ⟨k,0,none⟩)) (.agg ⟨[.bool b,aa n,aa d]⟩) h=some (undef,.set k (.cells [.bool b,aa n,aa d] 122 0 true)):=by
 unfold ai;dsimp only;rw [if_pos (show al SS.P 122=some ((Value.agg ⟨[.bool b,aa n,aa d]⟩).cells).size from Ic)];unfold storeAt;rw [hk]; dsimp only;have hs:([.bool b,aa n,aa d]:List Value).all bI=true:=rfl;rw [show (Value.agg ⟨[.bool b,aa n,aa d]⟩).cells.toList=[.bool b,aa n,aa d] from rfl,if_pos ⟨by simp [hl],hs⟩,drop_eq_nil_of_le (by simp [hl])];rfl
theorem MA {h:Heap}{k:Nat}{b:Bool}{n d:List UInt8}(hk:h.get k=some (.cells [.bool b,aa n,aa d] 122 0 true)):ah SS.P 122 h (.pointer (some ⟨k,0,none⟩))=some (.agg ⟨[.bool b,aa n,aa d]⟩):=gj M0 M5 Ic hk (by simp)
theorem iP (l:List UInt8)(h:Heap):FW SS 118 [aa l,.int .i64 0] h (fun v h'=>v=aa l/\h'=h):=
 Au l 0 h _ (ae (fun g=>by cases g) (fun _=>⟨rfl,rfl⟩))
theorem AZ (s:Bool)(A:Nat)(t:Bool)(B:Nat)(hA:A < 10 ^ 800)(hB:B < 10 ^ 800){h:Heap}(tb:Tab h)(w:Wf h):FW SS 117 [.bool s,aa (Num.toDec A),.bool t,aa (Num.toDec B)] h (fun v h'=>v=C5 s A t B/\Ok h h'):=by
 refine Bl s _ t _ h _ (ae (fun g=> ?_) (fun g=> ?_))
 ·have g:s=t:=by simpa using g
  refine (Fv _ _ tb w).mono ?_;rintro _ h1 ⟨rfl,o1⟩;rw [GE hA hB];refine ⟨_,_,rfl,(iP _ _).mono ?_⟩;rintro _ _ ⟨rfl,rfl⟩;refine ⟨_,rfl,?_,o1⟩;unfold C5 Num.plusS; rw [if_pos g]
 ·have g: ¬ s=t:=by simpa using g
  refine (Eo _ _ tb w).mono ?_;rintro _ h1 ⟨rfl,o1⟩;rw [HZ hA hB];refine ⟨_,rfl,ae (fun g1=> ?_) (fun g1=> ?_)⟩
  ·have g1:=dT g1;have g2:A < B:=cmpN_lt0.1 (by omega);refine (uH _ _ (tb.ok o1) o1.wf).mono ?_;rintro _ h2 ⟨rfl,o2⟩;rw [yq hB hA (Nat.le_of_lt g2)];refine ⟨_,_,rfl,(iP _ _).mono ?_⟩;rintro _ _ ⟨rfl,rfl⟩;refine ⟨_,rfl,?_,o1.trans o2⟩;unfold C5 Num.plusS; rw [if_neg g,if_pos g2]
  ·have g1:=dF g1;have g2: ¬ A < B:=fun c=>by have:=cmpN_lt0.2 c; omega
   refine (uH _ _ (tb.ok o1) o1.wf).mono ?_;rintro _ h2 ⟨rfl,o2⟩;rw [yq hA hB (Nat.not_lt.1 g2)];refine ⟨_,_,rfl,(iP _ _).mono ?_⟩;rintro _ _ ⟨rfl,rfl⟩;refine ⟨_,rfl,?_,o1.trans o2⟩;unfold C5 Num.plusS; rw [if_neg g,if_neg g2]
def Dx (b:Bool)(n d:List UInt8):Value:= .agg ⟨[.bool b,aa n,aa d]⟩
def nF (l:List UInt8):Value:=if Num.isRat l=true then .tuple ⟨[Dx (Num.isNeg l) (Num.numOf l) (Num.denOf l),.bool true]⟩ else .tuple ⟨[Dx false [] [],.bool false]⟩
def mq (b:Bool)(n d:List UInt8):Value:= .tuple ⟨[Dx b n d,.bool true]⟩
def li:Value:= .tuple ⟨[Dx false [] [],.bool false]⟩
structure NBox (h0:Heap)(k:Nat)(g:Heap):Prop where
 row: ∃ cs0:List Value,cs0.length=3/\g.get k=some (.cells cs0 122 0 true)
 new:h0.next<=k
 ok:Ok h0 g
theorem NBox.trans {h0:Heap}{k:Nat}{g g':Heap}(m:NBox h0 k g)(o:Ok g g'):NBox h0 k g':=by
 obtain ⟨⟨cs,h1,h2⟩,h3,h4⟩:=m;exact ⟨⟨cs,h1,o.ext _ _ h2⟩,h3,h4.trans o⟩
theorem zs {h0:Heap}(w:Wf h0){k:Nat}{g:Heap}(m:NBox h0 k g)(b:Bool)(n d:List UInt8)(okb:Bool){Q:VH}(hq: ∀ g',Ok h0 g'->Q (.tuple ⟨[Dx b n d,.bool okb]⟩) g'):
  ∃ u:Upd,ai SS.P 122 (.pointer (some ⟨k,0,none⟩)) (.agg ⟨[.bool b,aa n,aa d]⟩) g=some (undef,u)/\dH SS [(.pointer (some ⟨k,0,none⟩),some 122),(.bool okb,none)] (u.app g) Q:=by
 obtain ⟨⟨cs,hl,hk⟩,h4,h5⟩:=m;refine ⟨_,KG hl hk b n d,?_⟩;have o:Ok h0 ((Upd.set k (.cells [.bool b,aa n,aa d] 122 0 true)).app g):=h5.set _ h4 (h5.wf _ _ hk) w;have hg:((Upd.set k (.cells [.bool b,aa n,aa d] 122 0 true)).app g).get k=some (.cells [.bool b,aa n,aa d] 122 0 true):=by
  show (g.set k _).get k=_;rw [Heap.get_set,if_pos rfl]
 refine oX (v:=Dx b n d) (MA hg) ?_;exact hq _ o
def JD (n d:List UInt8)(neg fnd:Bool):Prop:=Num.valid n=true/\Num.valid d=true/\n.length<=400/\d.length<=400/\ ¬ (neg=true/\n=[48])/\ ¬ (fnd=true/\(d=[48]\/d=[49]))/\Nat.gcd (Num.val n) (Num.val d)=1
theorem fU {h0:Heap}(w:Wf h0){k:Nat}{g:Heap}(m:NBox h0 k g){C:Prop}(hc: ¬ C){G:Value}:
  ∃ u:Upd,ai SS.P 122 (.pointer (some ⟨k,0,none⟩)) (.agg ⟨[.bool false,aa [],aa []]⟩) g=some (undef,u)/\dH SS [(.pointer (some ⟨k,0,none⟩),some 122),(.bool false,none)] (u.app g) (nG h0 C G li):=
 zs w m false [] [] false (fun _ o=>Ek o hc)
theorem Df (n d:List UInt8)(neg fnd:Bool)(k:Nat){h0 g:Heap}(w:Wf h0)(m:NBox h0 k g)(tb:Tab g){x0 x1 x3 x4 x9 x10 x11 x12 x13 x14 x15 x16 x17 x18 x19 x20 x21 x22 x23 x24 x25 x26 x27 x28 x29 x30 x31 x32 x33 x34 x35 x36 x37 x38 x39 x40 x41 x42 x43 x44 x45 x46 x47 x48 x49 x50 x51 x52 x53 x54 x55 x56 x57 x58 x59 x60 x61 x62 x63 x64 x65 x66 x67 x68 x69 x70 x71 x72 x73 x74 x75 x76:Value}:
  TT SS ratParse_F [1,1,1,1] [x0,x1,.pointer (some ⟨k,0,none⟩),x3,x4,.bool neg,aa n,aa d,.bool fnd,x9,x10,x11,x12,x13,x14,x15,x16,x17,x18,x19,x20,x21,x22,x23,x24,x25,x26,x27,x28,x29,x30,x31,x32,x33,x34,x35,x36,x37,x38,x39,x40,x41,x42,x43,x44,x45,x46,x47,x48,x49,x50,x51,x52,x53,x54,x55,x56,x57,x58,x59,x60,x61,x62,x63,x64,x65,x66,x67,x68,x69,x70,x71,x72,x73,x74,x75,x76] g (EE SS ratParse_F (nG h0 (JD n d neg fnd) (mq neg n d) li)):=by
 refine tB ((bT n g).mono ?_);rintro _ g0 ⟨rfl,e0⟩;obtain rfl:g=g0:=e0.symm;refine ⟨_,rfl,ae (fun g1=>⟨_,jk,fU w m (fun c=> ?_)⟩) (fun g1=> ?_)⟩
 ·rw [c.1] at g1; cases g1
 have g1:Num.valid n=true:=by simpa using g1
 refine (bT d g).mono ?_;rintro _ g0 ⟨rfl,e0⟩;obtain rfl:g=g0:=e0.symm;refine ⟨_,rfl,ae (fun g2=>⟨_,jk,fU w m (fun c=> ?_)⟩) (fun g2=> ?_)⟩
 ·rw [c.2.1] at g2; cases g2
 have g2:Num.valid d=true:=by simpa using g2
 refine ae (fun g3=>⟨_,jk,fU w m (fun c=> ?_)⟩) (fun g3=> ?_)
 ·have:=c.2.2.1; have g3:=dT g3; omega
 have g3:n.length<=400:=by have g3:=dF g3; omega
 refine ae (fun g4=>⟨_,jk,fU w m (fun c=> ?_)⟩) (fun g4=> ?_)
 ·have:=c.2.2.2.1; have g4:=dT g4; omega
 have g4:d.length<=400:=by have g4:=dF g4; omega
 have fin: ¬ (neg=true/\n=[48])-> ¬ (fnd=true/\(d=[48]\/d=[49]))-> ∀ {x0 x1 x3 x4 x9 x10 x11 x12 x13 x14 x15 x16 x17 x18 x19 x20 x21 x22 x23 x24 x25 x26 x27 x28 x29 x30 x31 x32 x33 x34 x35 x36 x37 x38 x39 x40 x41 x42 x43 x44 x45 x46 x47 x48 x49 x50 x51 x52 x53 x54 x55 x56 x57 x58 x59 x60 x61 x62 x63 x64 x65 x66 x67 x68 x69 x70 x71 x72 x73 x74 x75 x76:Value},TT SS ratParse_F [1,1,1,1,1,1] [x0,x1,.pointer (some ⟨k,0,none⟩),x3,x4,.bool neg,aa n,aa d,.bool fnd,x9,x10,x11,x12,x13,x14,x15,x16,x17,x18,x19,x20,x21,x22,x23,x24,x25,x26,x27,x28,x29,x30,x31,x32,x33,x34,x35,x36,x37,x38,x39,x40,x41,x42,x43,x44,x45,x46,x47,x48,x49,x50,x51,x52,x53,x54,x55,x56,x57,x58,x59,x60,x61,x62,x63,x64,x65,x66,x67,x68,x69,x70,x71,x72,x73,x74,x75,x76] g (EE SS ratParse_F (nG h0 (JD n d neg fnd) (mq neg n d) li)):=by
  intro c5 c6;intros;refine sZ ((D8 n d tb m.ok.wf).mono ?_);rintro _ h1 ⟨rfl,o1⟩;have m1:=m.trans o1;rw [Gv g1 g2];refine ⟨_,_,rfl,ae (fun e=>by cases e) (fun _=> ?_)⟩;refine ae (fun e=>⟨_,jk,fU w m1 (fun c=> ?_)⟩) (fun e=> ?_)
  ·have e: ¬ Num.toDec (Nat.gcd (Num.val n) (Num.val d))=[49]:=by simpa using e
   exact e (Num.toDec_eq_one.2 c.2.2.2.2.2.2)
  ·have e:Num.toDec (Nat.gcd (Num.val n) (Num.val d))=[49]:=by simpa using e
   refine rM ⟨_,MU neg n d,zs w m1 neg n d true (fun _ o=>BT o ?_)⟩;exact ⟨g1,g2,g3,g4,c5,c6,Num.toDec_eq_one.1 e⟩
 refine tx (ae (fun g5=>ae (fun g6=>⟨_,jk,fU w m (fun c=> ?_)⟩) (fun g6=> ?_)) (fun g5=> ?_))
 ·exact c.2.2.2.2.1 ⟨g5,by simpa using g6⟩
 ·have c5: ¬ (neg=true/\n=[48]):=fun c=>by
   have: ¬ n=[48]:=by simpa using g6
   exact this c.2
  refine ae (fun g7=>ae (fun g8=>⟨_,jk,fU w m (fun c=> ?_)⟩) (fun g8=>ae (fun g9=>⟨_,jk,fU w m (fun c=> ?_)⟩) (fun g9=> ?_))) (fun g7=> ?_)
  ·exact c.2.2.2.2.2.1 ⟨g7,.inl (by simpa using g8)⟩
  ·exact c.2.2.2.2.2.1 ⟨g7,.inr (by simpa using g9)⟩
  ·refine fin c5 (fun c=> ?_);have g8: ¬ d=[48]:=by simpa using g8
   have g9: ¬ d=[49]:=by simpa using g9
   exact c.2.elim g8 g9
  ·exact fin c5 (fun c=>by rw [c.1] at g7; cases g7)
 ·have c5: ¬ (neg=true/\n=[48]):=fun c=>by rw [c.1] at g5; cases g5
  refine ae (fun g7=>ae (fun g8=>⟨_,jk,fU w m (fun c=> ?_)⟩) (fun g8=>ae (fun g9=>⟨_,jk,fU w m (fun c=> ?_)⟩) (fun g9=> ?_))) (fun g7=> ?_)
  ·exact c.2.2.2.2.2.1 ⟨g7,.inl (by simpa using g8)⟩
  ·exact c.2.2.2.2.2.1 ⟨g7,.inr (by simpa using g9)⟩
  ·refine fin c5 (fun c=> ?_);have g8: ¬ d=[48]:=by simpa using g8
   have g9: ¬ d=[49]:=by simpa using g9
   exact c.2.elim g8 g9
  ·exact fin c5 (fun c=>by rw [c.1] at g7; cases g7)
theorem xf {h:Heap}{l:List UInt8}{v:Value}{h':Heap}(q:nG h (JD (Num.numOf l) (Num.denOf l) (Num.isNeg l) (Num.hasStroke l)) (mq (Num.isNeg l) (Num.numOf l) (Num.denOf l)) li v h'):v=nF l/\Ok h h':=by
 obtain ⟨o,q1,q2⟩:=q;refine ⟨?_,o⟩;unfold nF;by_cases g:Num.isRat l=true
 ·rw [if_pos g];have r:=Num.isRat_iff.1 g;exact q1 ⟨r.num,r.den,r.ln,r.ld,r.neg,r.fr,r.one⟩
 ·rw [if_neg g];exact q2 fun c=>g (Num.isRat_iff.2 ⟨c.1,c.2.1,c.2.2.1,c.2.2.2.1,c.2.2.2.2.1,c.2.2.2.2.2.1,c.2.2.2.2.2.2⟩)
theorem lh (l:List UInt8)(hl:l.length<=1000000000){h:Heap}(tb:Tab h)(w:Wf h):FW SS 121 [aa l] h (fun v h'=>v=nF l/\Ok h h'):=by
 refine FW.mono (Q:=nG h (JD (Num.numOf l) (Num.denOf l) (Num.isNeg l) (Num.hasStroke l)) (mq (Num.isNeg l) (Num.numOf l) (Num.denOf l)) li) ?_ (fun _ _ q=>xf q);have m0:NBox h h.next (h.push uj):=⟨⟨_,rfl,by rw [Heap.get_push,if_pos rfl]; rfl⟩,le_refl _,(Ok.refl w).push _⟩
 refine zx l h _ ⟨_,IH,(D2 l _).mono ?_⟩;rintro _ g0 ⟨rfl,rfl⟩;have hm:(Num.afterNeg l).length<=1000000000:=by
  unfold Num.afterNeg; split
  ·rw [length_drop]; omega
  ·exact hl
 refine ⟨_,_,rfl,(LT _ hm m0.ok.wf).mono ?_⟩;rintro _ g1 ⟨rfl,o1⟩;have m1:=m0.trans o1;have t1:=tb.ok m1.ok;unfold Dq;by_cases hs:Num.idxB 47 (Num.afterNeg l) < (Num.afterNeg l).length
 ·rw [if_pos hs];have hst:Num.hasStroke l=true:=decide_eq_true hs;have e2:Num.denOf l=(Num.afterNeg l).drop (Num.idxB 47 (Num.afterNeg l)+1):=by unfold Num.denOf; rw [if_pos hst]
  rw [hst];refine ⟨_,_,_,rfl,ae (fun e=>by cases e) (fun _=> ?_)⟩;rw [<-e2];exact Df _ _ _ true _ w m1 t1
 ·rw [if_neg hs];have hst:Num.hasStroke l=false:=decide_eq_false hs;have e2:Num.denOf l=[49]:=by unfold Num.denOf; rw [hst]; rfl
  have e1:Num.numOf l=Num.afterNeg l:=by unfold Num.numOf; rw [take_of_length_le (by omega)]
  rw [hst,e1,e2];refine ⟨_,_,_,rfl,ae (fun _=> ?_) (fun e=>by cases e)⟩;exact Df _ _ _ false _ w m1 t1
theorem Bg (l:List UInt8): ∃ (cs:List Value)(b:Bool),nF l = .tuple ⟨[.agg ⟨cs⟩,.bool b]⟩/\b=Num.isRat l:=by
 unfold nF
 cases g:Num.isRat l with
 | true=>exact ⟨_,_,rfl,rfl⟩
 | false=>exact ⟨_,_,rfl,rfl⟩
theorem qN (l:List UInt8)(hl:l.length<=1000000000){h:Heap}(tb:Tab h)(w:Wf h):FW SS 97 [aa l] h (fun v h'=>v = .bool (Num.isRat l)/\Ok h h'):=by
 refine zO l h _ ((lh l hl tb w).mono ?_);rintro _ h1 ⟨rfl,o1⟩;obtain ⟨cs,b,e,e2⟩:=Bg l;exact ⟨cs,b,e,by rw [e2],o1⟩
theorem Di (k:Nat):af SS.P 122 (.pointer (some ⟨k,0,none⟩)) 0=some (.pointer (some ⟨k,0,none⟩)):=by kernel_rfl
theorem C9 (k:Nat):af SS.P 122 (.pointer (some ⟨k,0,none⟩)) 1=some (.pointer (some ⟨k,1,none⟩)):=by kernel_rfl
theorem Dk (k:Nat):af SS.P 122 (.pointer (some ⟨k,0,none⟩)) 2=some (.pointer (some ⟨k,2,none⟩)):=by kernel_rfl
theorem N6:SS.P.underlying 4=some .bool:=Tryz.underlying4
theorem Nw:Go.Ab.isAgg SS.P 4=false:=by kernel_rfl
theorem KB:Go.Ab.isAgg SS.P 9=false:=by kernel_rfl
def HasNum (g:Heap)(k:Nat)(b:Bool)(n d:List UInt8):Prop:=g.get k=some (.cells [.bool b,aa n,aa d] 122 0 true)
theorem HasNum.ok {g g':Heap}{k:Nat}{b:Bool}{n d:List UInt8}(x:HasNum g k b n d)(o:Ok g g'):HasNum g' k b n d:=o.ext _ _ x
theorem HasNum.l0 {g:Heap}{k:Nat}{b:Bool}{n d:List UInt8}(x:HasNum g k b n d):ah SS.P 4 g (.pointer (some ⟨k,0,none⟩))=some (.bool b):=cZ N6 Nw x (by simp)
theorem HasNum.l1 {g:Heap}{k:Nat}{b:Bool}{n d:List UInt8}(x:HasNum g k b n d):ah SS.P 9 g (.pointer (some ⟨k,1,none⟩))=some (aa n):=cZ IL KB x (by simp)
theorem HasNum.l2 {g:Heap}{k:Nat}{b:Bool}{n d:List UInt8}(x:HasNum g k b n d):ah SS.P 9 g (.pointer (some ⟨k,2,none⟩))=some (aa d):=cZ IL KB x (by simp)
theorem HN {h:Heap}(w:Wf h)(b:Bool)(n d:List UInt8): ∃ u:Upd,ai SS.P 122 (.pointer (some ⟨h.next,0,none⟩)) (.agg ⟨[.bool b,aa n,aa d]⟩) (h.push uj)=some (undef,u)/\Ok h (u.app (h.push uj))/\HasNum (u.app (h.push uj)) h.next b n d:=by
 have hk:(h.push uj).get h.next=some uj:=by rw [Heap.get_push,if_pos rfl]
 refine ⟨_,KG (cs0:=[.bool false,aa [],aa []]) rfl hk b n d,?_,?_⟩
 ·exact ((Ok.refl w).push _).set _ (le_refl _) (Nat.lt_succ_self _) w
 ·show ((h.push uj).set h.next _).get h.next=_;rw [Heap.get_set,if_pos rfl]
theorem vH (l:List UInt8): ∃ (b:Bool)(n d:List UInt8),nF l = .tuple ⟨[.agg ⟨[.bool b,aa n,aa d]⟩,.bool (Num.isRat l)]⟩/\(Num.isRat l=true->b=Num.isNeg l/\n=Num.numOf l/\d=Num.denOf l):=by
 unfold nF
 cases g:Num.isRat l with
 | true=>exact ⟨_,_,_,rfl,fun _=>⟨rfl,rfl,rfl⟩⟩
 | false=>exact ⟨_,_,_,rfl,fun e=>by cases e⟩
theorem qM (b:Bool):eK 4 (.bool b) (.bool b)=true:=by simp [eK]
theorem qK (l:List UInt8):eK 4 (aa l) (aa l)=true:=by simp [eK,aa]
theorem Fi (l m:List UInt8)(hl:l.length<=1000000000)(hm:m.length<=1000000000){h:Heap}(tb:Tab h)(w:Wf h):FW SS 125 [aa l,aa m] h (fun v h'=>v = .int .i64 (Num.cmpRat l m)/\Ok h h'):=by
 refine E3 l m h _ ((lh l hl tb w).mono ?_);rintro _ h1 ⟨rfl,o1⟩;obtain ⟨b,n,d,e1,f1⟩:=vH l;obtain ⟨u1,s1,s2,s3⟩:=HN o1.wf b n d;refine ⟨_,_,e1,_,IH,u1,s1,?_⟩;have ok1:=o1.trans s2;generalize u1.app (h1.push uj)=g1 at *;refine (lh m hm (tb.ok ok1) ok1.wf).mono ?_;rintro _ h2 ⟨rfl,o2⟩;obtain ⟨b',n',d',e2,f2⟩:=vH m;obtain ⟨u2,r1,r2,r3⟩:=HN o2.wf b' n' d';refine ⟨_,_,e2,_,IH,u2,r1,?_⟩;have ok2:=(ok1.trans o2).trans r2;have x1:=(s3.ok o2).ok r2;generalize u2.app (h2.push uj)=g2 at *;generalize h1.next=k1 at *;generalize h2.next=k2 at *;refine ae (fun q=>⟨?_,ok2⟩) (fun q=>ae (fun q2=>⟨?_,ok2⟩) (fun q2=> ?_))
 ·have q:Num.isRat l=false:=by simpa using q
  unfold Num.cmpRat; rw [if_neg (fun c=>by rw [c.1] at q; cases q)]
 ·have q2:Num.isRat m=false:=by simpa using q2
  unfold Num.cmpRat; rw [if_neg (fun c=>by rw [c.2] at q2; cases q2)]
 have q:Num.isRat l=true:=by simpa using q
 have q2:Num.isRat m=true:=by simpa using q2
 obtain ⟨rfl,rfl,rfl⟩:=f1 q;obtain ⟨rfl,rfl,rfl⟩:=f2 q2;have i1:=Num.isRat_iff.1 q;have i2:=Num.isRat_iff.1 q2;have or:Ok g2 (Go.Ab.room g2 27):=(Ok.refl ok2.wf).room 27;refine ⟨_,Di _,_,(x1.ok or).l0,_,C9 _,_,(x1.ok or).l1,_,Dk _,_,(r3.ok or).l2,?_⟩;have okr:=ok2.trans or;refine (uz _ _ (tb.ok okr) okr.wf).mono ?_;rintro _ h3 ⟨rfl,o3⟩;rw [(oC i1.num i2.den i1.ln i2.ld).1];refine ⟨_,_,rfl,(iP _ _).mono ?_⟩;rintro _ h3' ⟨rfl,eh⟩;obtain rfl:h3=h3':=eh.symm;have p3:=or.trans o3;refine ⟨_,rfl,_,Di _,_,(r3.ok p3).l0,_,C9 _,_,(r3.ok p3).l1,_,Dk _,_,(x1.ok p3).l2,?_⟩;have ok3:=ok2.trans p3;refine (uz _ _ (tb.ok ok3) ok3.wf).mono ?_;rintro _ h4 ⟨rfl,o4⟩;rw [(oC i2.num i1.den i2.ln i1.ld).1];refine ⟨_,_,rfl,(iP _ _).mono ?_⟩;rintro _ h4' ⟨rfl,eh⟩;obtain rfl:h4=h4':=eh.symm;have p4:=p3.trans o4;have ok4:=ok2.trans p4;refine ⟨_,rfl,(AZ _ _ _ _ (oC i1.num i2.den i1.ln i2.ld).2 (oC i2.num i1.den i2.ln i1.ld).2 (tb.ok ok4) ok4.wf).mono ?_⟩;rintro _ h5 ⟨rfl,o5⟩;have ok5:=ok4.trans o5;refine ⟨_,_,rfl,⟨(x1.ok p3).l0,qM _⟩,⟨(x1.ok p3).l0,qM _⟩,⟨(x1.ok p4).l0,qM _⟩,⟨(x1.ok p4).l0,qM _⟩,⟨(r3.ok or).l0,qM _⟩,⟨(r3.ok p3).l0,qM _⟩,⟨(r3.ok p4).l0,qM _⟩,⟨(r3.ok p4).l0,qM _⟩,⟨(r3.ok or).l1,qK _⟩,⟨(r3.ok p3).l1,qK _⟩,⟨(x1.ok or).l2,qK _⟩,⟨(x1.ok p3).l2,qK _⟩,?_⟩;unfold Num.cmpRat;rw [if_pos ⟨q,q2⟩];generalize Num.plusS _ _ _ _=z;refine ae (fun g3=>⟨?_,ok5⟩) (fun g3=> ?_)
 ·have g3:Num.toDec z.2=[48]:=by simpa using g3
  rw [if_pos (Num.toDec_eq_zero.1 g3)]
 ·have g3: ¬ Num.toDec z.2=[48]:=by simpa using g3
  rw [if_neg (fun c=>g3 (Num.toDec_eq_zero.2 c))];refine ae (fun g4=>⟨?_,ok5⟩) (fun g4=>⟨?_,ok5⟩)
  ·rw [if_pos g4]
  ·rw [if_neg (by rw [g4]; simp)]
noncomputable def Bp:FD:=cB Tryz.f75 []
theorem xn  (h:Heap) (Q:VH) (hx:xN (aD SS.P 85) h fun B1 g2=>xA (aC SS.P 68 [(0,(aa [105,110,102])),(1,(aa [48])),(2,(.bool true)),(3,(.func (.func 94) ⟨[]⟩ ⟨[]⟩)),(4,(.func (.func 95) ⟨[]⟩ ⟨[]⟩)),(5,(.func (.func 96) ⟨[]⟩ ⟨[]⟩)),(6,(.func (.func 97) ⟨[]⟩ ⟨[]⟩)),(7,(.func (.func 97) ⟨[]⟩ ⟨[]⟩))]) fun c3=>xA (aC SS.P 68 [(0,(aa [48])),(1,(aa [49])),(2,(.bool false)),(3,(.func (.func 98) ⟨[]⟩ ⟨[]⟩)),(4,(.func (.func 99) ⟨[]⟩ ⟨[]⟩)),(5,(.func (.func 100) ⟨[]⟩ ⟨[]⟩)),(6,(.func (.func 101) ⟨[]⟩ ⟨[]⟩)),(7,(.func (.func 102) ⟨[]⟩ ⟨[]⟩))]) fun c4=>xA (aC SS.P 68 [(0,(aa [48])),(1,(aa [49])),(2,(.bool false)),(3,(.func (.func 94) ⟨[]⟩ ⟨[]⟩)),(4,(.func (.func 99) ⟨[]⟩ ⟨[]⟩)),(5,(.func (.func 103) ⟨[]⟩ ⟨[]⟩)),(6,(.func (.func 101) ⟨[]⟩ ⟨[]⟩)),(7,(.func (.func 102) ⟨[]⟩ ⟨[]⟩))]) fun c5=>xA (aC SS.P 85 [(1,(.agg ⟨c3⟩)),(2,(.agg ⟨c4⟩)),(3,(.agg ⟨c5⟩))]) fun c6=>xU (ai SS.P 85 (pA (h.next)) (.agg ⟨c6⟩) g2) g2 fun u7 g8=>dH SS [((pA (h.next)),some 85)] g8 Q):FW SS 75 [] h Q:=cE Bp Tryz.func75 (aj hx)
noncomputable def Ko:FD:=cB Tryz.f57 []
theorem FK (kind:Int)(h:Heap)(Q:VH)(hx:xN (aD SS.P 68) h fun B1 g2=>aB (decide ((kind:Int) < 1)) (xA (aC SS.P 68 []) fun c3=>xU (ai SS.P 68 (pA (h.next)) (.agg ⟨c3⟩) g2) g2 fun u4 g5=>dH SS [((pA (h.next)),some 68),((.bool false),none)] g5 Q) (aB (decide ((kind:Int) > 3)) (xA (aC SS.P 68 []) fun c6=>xU (ai SS.P 68 (pA (h.next)) (.agg ⟨c6⟩) g2) g2 fun u7 g8=>dH SS [((pA (h.next)),some 68),((.bool false),none)] g8 Q) (FW SS 75 [] g2 fun v9 h10=>yA v9 fun c11=>xA (be SS.P 85 (.agg ⟨c11⟩) (.int .i64 kind)) fun c12=>xU (ai SS.P 68 (pA (h.next)) (.agg ⟨c12⟩) h10) h10 fun u13 g14=>dH SS [((pA (h.next)),some 68),((.bool true),none)] g14 Q))):FW SS 57 [(.int .i64 kind)] h Q:=cE Ko Tryz.func57 (aj hx)
noncomputable def tR:FD:=cB Tryz.f102 []
theorem sD (l:LB)(h:Heap)(Q:VH)(hx:FW SS 97 [(aa l)] h fun v1 h2=>yB v1 fun b3=>aB b3 (FW SS 125 [(aa l),(aa [48])] h2 fun v4 h5=>yI .i64 v4 fun n6=>Q (.bool (decide ((n6:Int) > 0))) h5) (Q (.bool false) h2)):FW SS 102 [(aa l)] h Q:=cE tR Tryz.func102 (aj hx)
noncomputable def yO:FD:=cB Tryz.f34 []
theorem wW (kind:Int)(l:LB)(h:Heap)(Q:VH)(hx:FW SS 57 [(.int .i64 kind)] h fun v1 h2=> ∃ cs3:LV,∃ b4:Bool,v1=(.tuple ⟨[(.agg ⟨cs3⟩),(.bool b4)]⟩)/\xN (aD SS.P 68) h2 fun B5 g6=>xU (ai SS.P 68 (pA (h2.next)) (.agg ⟨cs3⟩) g6) g6 fun u7 g8=>aB b4 (xP (af SS.P 68 (pA (h2.next)) 7) fun p9=>xF (ah SS.P 66 g8 (.pointer (some p9))) fun g10 a11 c12=>aB (Nat.blt g10 YB) (FW SS g10 (a11++[(aa l)]++c12) g8 fun v13 h14=>yB v13 fun b15=>Q (.bool b15) h14) False) (Q (.bool false) g8)):FW SS 34 [(.int .i64 kind),(aa l)] h Q:=cE yO Tryz.func34 (aj hx)
end Go.Proofs.YtoabjjimjldcfaaGreatDoor
end
section
namespace Go.Num
def weightOk (kind:Int)(a:List UInt8):Bool:=decide (1<=kind/\kind<=3) && isRat a && (kind == 1 || decide (0 < cmpRat a [48]))
end Go.Num
end
section
set_option linter.unusedVariables false
set_option maxRecDepth 100000
namespace Go.Proofs.YtoabjjimjldcfaaGreatDoor
open Go Go.Ab
theorem cL {P:Program}{t:TypeId}{n:Nat}(hs:al P t=some n){h:Heap}{k:Nat}{cs0:List Value}(hl:cs0.length=n)(hk:h.get k=some (.cells cs0 t 0 true)){cs:List Value}(hc:cs.length=n)(hv:cs.all bI=true):ai P t (.pointer (some ⟨k,0,none⟩)) (.agg ⟨cs⟩) h=some (undef,.set k (.cells cs t 0 true)):=by
 unfold ai;dsimp only;have e1:(Value.agg ⟨cs⟩).cells.size=n:=by show cs.toArray.size=n; simpa using hc
 have e2:(Value.agg ⟨cs⟩).cells.toList=cs:=rfl;rw [if_pos (by rw [e1,hs])];unfold storeAt;rw [hk,e2]; dsimp only;rw [if_pos ⟨by omega,hv⟩,drop_eq_nil_of_le (by omega)];simp
theorem dG {h0 h:Heap}(w:Wf h0)(o:Ok h0 h){k:Nat}{t:TypeId}{cs0 cs:List Value}(hk:h.get k=some (.cells cs0 t 0 true))(hn:h0.next<=k):Ok h0 ((Upd.set k (.cells cs t 0 true)).app h)/\((Upd.set k (.cells cs t 0 true)).app h).get k=some (.cells cs t 0 true):=by
 refine ⟨o.set _ hn (o.wf _ _ hk) w,?_⟩;show (h.set k _).get k=_;rw [Heap.get_set,if_pos rfl]
theorem ay (h:Heap)(B:Blk):(h.push B).get h.next=some B:=by rw [Heap.get_push,if_pos rfl]
def tJ (i:Nat):Value:= .func (.func i) ⟨[]⟩ ⟨[]⟩
def gm:List Value:=[aa [],aa [],.bool false,.nilFunc,.nilFunc,.nilFunc,.nilFunc,.nilFunc]
def qF:List Value:=[aa [105,110,102],aa [48],.bool true,tJ 94,tJ 95,tJ 96,tJ 97,tJ 97]
def qu:List Value:=[aa [48],aa [49],.bool false,tJ 98,tJ 99,tJ 100,tJ 101,tJ 102]
def qy:List Value:=[aa [48],aa [49],.bool false,tJ 94,tJ 99,tJ 103,tJ 101,tJ 102]
def pD:List Value:=gm++qF++qu++qy
def Nl:Blk:= .cells (gm++gm++gm++gm) 85 0 true
def FI:Blk:= .cells gm 68 0 true
theorem Oc:aD SS.P 85=some (Nl,gb):=by kernel_rfl
theorem Jj:aD SS.P 68=some (FI,gb):=by kernel_rfl
theorem KN:al SS.P 85=some 32:=by kernel_rfl
theorem xp:al SS.P 68=some 8:=by kernel_rfl
theorem N2:Go.Ab.isAgg SS.P 85=true:=by kernel_rfl
theorem N8:Go.Ab.isAgg SS.P 68=true:=by kernel_rfl
noncomputable def Ng:TypeDesc:=(SS.P.underlying 85).getD .bool
theorem Ny:SS.P.underlying 85=some Ng:=by kernel_rfl
noncomputable def Mw:TypeDesc:=(SS.P.underlying 68).getD .bool
theorem Od:SS.P.underlying 68=some Mw:=by kernel_rfl
noncomputable def Mi:TypeDesc:=(SS.P.underlying 66).getD .bool
theorem Oo:SS.P.underlying 66=some Mi:=by kernel_rfl
theorem NA:Go.Ab.isAgg SS.P 66=false:=by kernel_rfl
theorem LA:aC SS.P 68 [(0,(aa [105,110,102])),(1,(aa [48])),(2,(.bool true)),(3,(.func (.func 94) ⟨[]⟩ ⟨[]⟩)),(4,(.func (.func 95) ⟨[]⟩ ⟨[]⟩)),(5,(.func (.func 96) ⟨[]⟩ ⟨[]⟩)),(6,(.func (.func 97) ⟨[]⟩ ⟨[]⟩)),(7,(.func (.func 97) ⟨[]⟩ ⟨[]⟩))]=some (.agg ⟨qF⟩):=by kernel_rfl
theorem K1:aC SS.P 68 [(0,(aa [48])),(1,(aa [49])),(2,(.bool false)),(3,(.func (.func 98) ⟨[]⟩ ⟨[]⟩)),(4,(.func (.func 99) ⟨[]⟩ ⟨[]⟩)),(5,(.func (.func 100) ⟨[]⟩ ⟨[]⟩)),(6,(.func (.func 101) ⟨[]⟩ ⟨[]⟩)),(7,(.func (.func 102) ⟨[]⟩ ⟨[]⟩))]=some (.agg ⟨qu⟩):=by kernel_rfl
theorem Lp:aC SS.P 68 [(0,(aa [48])),(1,(aa [49])),(2,(.bool false)),(3,(.func (.func 94) ⟨[]⟩ ⟨[]⟩)),(4,(.func (.func 99) ⟨[]⟩ ⟨[]⟩)),(5,(.func (.func 103) ⟨[]⟩ ⟨[]⟩)),(6,(.func (.func 101) ⟨[]⟩ ⟨[]⟩)),(7,(.func (.func 102) ⟨[]⟩ ⟨[]⟩))]=some (.agg ⟨qy⟩):=by kernel_rfl
theorem HJ:aC SS.P 68 []=some (.agg ⟨gm⟩):=by kernel_rfl
theorem NL:aC SS.P 85 [(1,(.agg ⟨qF⟩)),(2,(.agg ⟨qu⟩)),(3,(.agg ⟨qy⟩))]=some (.agg ⟨pD⟩):=by kernel_rfl
theorem Ae {h:Heap}(w:Wf h):FW SS 75 [] h (fun v h'=>v = .agg ⟨pD⟩/\Ok h h'):=by
 have hk:(h.push Nl).get h.next=some (.cells (gm++gm++gm++gm) 85 0 true):=ay h Nl;refine xn h _ ⟨_,Oc,_,LA,_,K1,_,Lp,_,NL,_,cL KN (by rfl) hk (cs:=pD) (by rfl) (by rfl),?_⟩;obtain ⟨o,g⟩:=dG (cs:=pD) w ((Ok.refl w).push Nl) hk (le_refl _);refine tw (v:= .agg ⟨pD⟩) (gj Ny N2 KN g (by simp [pD,gm,qF,qu,qy])) ?_;exact ⟨rfl,o⟩
def KO (kind:Int):Value:=if kind=1 then .tuple ⟨[.agg ⟨qF⟩,.bool true]⟩ else if kind=2 then .tuple ⟨[.agg ⟨qu⟩,.bool true]⟩ else if kind=3 then .tuple ⟨[.agg ⟨qy⟩,.bool true]⟩ else .tuple ⟨[.agg ⟨gm⟩,.bool false]⟩
theorem rG {h0:Heap}(w:Wf h0){g:Heap}(o:Ok h0 g){k:Nat}{cs0:List Value}(hl:cs0.length=8)(hk:g.get k=some (.cells cs0 68 0 true))(hn:h0.next<=k){cs:List Value}(hc:cs.length=8)(hv:cs.all bI=true)(okb:Bool){Q:VH}(hq: ∀ g',Ok h0 g'->Q (.tuple ⟨[.agg ⟨cs⟩,.bool okb]⟩) g'):
  ∃ u:Upd,ai SS.P 68 (.pointer (some ⟨k,0,none⟩)) (.agg ⟨cs⟩) g=some (undef,u)/\dH SS [(.pointer (some ⟨k,0,none⟩),some 68),(.bool okb,none)] (u.app g) Q:=by
 refine ⟨_,cL xp hl hk hc hv,?_⟩;obtain ⟨o,g⟩:=dG (cs:=cs) w o hk hn;refine oX (v:= .agg ⟨cs⟩) (by rw [gj Od N8 xp g (by omega),drop_zero,take_of_length_le (by omega)]) ?_;exact hq _ o
theorem yw (kind:Int){h:Heap}(w:Wf h):FW SS 57 [.int .i64 kind] h (fun v h'=>v=KO kind/\Ok h h'):=by
 have o0:=(Ok.refl w).push FI;have k0:=ay h FI;refine FK kind h _ ⟨_,Jj,ae (fun g=> ?_) (fun g=>ae (fun g2=> ?_) (fun g2=> ?_))⟩
 ·have g:=dT g;refine ⟨_,HJ,rG w o0 rfl k0 (le_refl _) rfl rfl false (fun _ o=>⟨?_,o⟩)⟩;unfold KO; rw [if_neg (by omega),if_neg (by omega),if_neg (by omega)]
 ·have g2:=dT g2;refine ⟨_,HJ,rG w o0 rfl k0 (le_refl _) rfl rfl false (fun _ o=>⟨?_,o⟩)⟩;unfold KO; rw [if_neg (by omega),if_neg (by omega),if_neg (by omega)]
 ·have g:=dF g;have g2:=dF g2;refine (Ae o0.wf).mono ?_;rintro _ h1 ⟨rfl,o1⟩;have k1:=o1.ext _ _ k0;have ok:=o0.trans o1;obtain rfl | rfl | rfl:kind=1\/kind=2\/kind=3:=by omega
  ·exact ⟨_,rfl,qF,by kernel_rfl,rG w ok rfl k1 (le_refl _) rfl rfl true (fun _ o=>⟨rfl,o⟩)⟩
  ·exact ⟨_,rfl,qu,by kernel_rfl,rG w ok rfl k1 (le_refl _) rfl rfl true (fun _ o=>⟨rfl,o⟩)⟩
  ·exact ⟨_,rfl,qy,by kernel_rfl,rG w ok rfl k1 (le_refl _) rfl rfl true (fun _ o=>⟨rfl,o⟩)⟩
theorem lg (l:List UInt8)(hl:l.length<=1000000000){h:Heap}(tb:Tab h)(w:Wf h):FW SS 102 [aa l] h (fun v h'=>v = .bool (Num.isRat l && decide (0 < Num.cmpRat l [48]))/\Ok h h'):=by
 refine sD l h _ ((qN l hl tb w).mono ?_);rintro _ h1 ⟨rfl,o1⟩;refine ⟨_,rfl,ae (fun g=> ?_) (fun g=> ?_)⟩
 ·refine (Fi l [48] hl (by simp) (tb.ok o1) o1.wf).mono ?_;rintro _ h2 ⟨rfl,o2⟩;refine ⟨_,rfl,?_,o1.trans o2⟩;rw [g,Bool.true_and]
 ·refine ⟨?_,o1⟩;rw [g,Bool.false_and]
theorem M3 {b:Bool}{A B:Prop}(hb:b=true)(a:A):aB b A B:=ae (fun _=>a) (fun e=>by rw [hb] at e; cases e)
theorem uW {f:Nat}{args:List Value}{h:Heap}{K:VH}(hf:Nat.blt f YB=true)(hx:FW SS f args h fun v h'=> ∃ b:Bool,v = .bool b/\K (.bool b) h'):aB (Nat.blt f YB) (FW SS f ([]++args++[]) h fun v h'=> ∃ b:Bool,v = .bool b/\K (.bool b) h') False:=
 M3 hf (by rw [nil_append,append_nil]; exact hx)
theorem jE (kind:Int)(l:List UInt8)(hl:l.length<=1000000000){h:Heap}(tb:Tab h)(w:Wf h):FW SS 34 [.int .i64 kind,aa l] h (fun v h'=>v = .bool (Num.weightOk kind l)/\Ok h h'):=by
 refine wW kind l h _ ((yw kind w).mono ?_);rintro _ h1 ⟨rfl,o1⟩;have key: ∀ (cs:List Value)(f:Nat),cs.length=8->cs.all bI=true->cs.getD 7 undef=tJ f->Nat.blt f YB=true->(∀ g,Ok h g->FW SS f [aa l] g (fun v h'=>v = .bool (Num.weightOk kind l)/\Ok g h'))->KO kind = .tuple ⟨[.agg ⟨cs⟩,.bool true]⟩-> ∃ cs3:List Value,∃ b4:Bool,KO kind=(.tuple ⟨[(.agg ⟨cs3⟩),(.bool b4)]⟩)/\ ∃ B5:Blk,aD SS.P 68=some (B5,gb)/\ ∃ u6:Upd,ai SS.P 68 (.pointer (some ⟨h1.next,0,none⟩)) (.agg ⟨cs3⟩) (h1.push B5)=some (undef,u6)/\aB b4 (∃ p7:Addr,af SS.P 68 (.pointer (some ⟨h1.next,0,none⟩)) 7=some (.pointer (some p7))/\ ∃ (g8:Nat)(a9 c10:List Value),ah SS.P 66 (u6.app (h1.push B5)) (.pointer (some p7))=some (.func (.func g8) ⟨a9⟩ ⟨c10⟩)/\aB (Nat.blt g8 YB) (FW SS g8 (a9++[(aa l)]++c10) (u6.app (h1.push B5)) fun v11 h12=> ∃ b13:Bool,v11=(.bool b13)/\(Value.bool b13 = .bool (Num.weightOk kind l)/\Ok h h12)) False) (Value.bool false = .bool (Num.weightOk kind l)/\Ok h (u6.app (h1.push B5))):=by
  intro cs f hc hv hf hY hw e;refine ⟨_,_,e,_,Jj,_,cL xp rfl (ay h1 FI) hc hv,ae (fun _=> ?_) (fun g=>by cases g)⟩;obtain ⟨o,g⟩:=dG (cs:=cs) o1.wf ((Ok.refl o1.wf).push FI) (ay h1 FI) (le_refl _);have hld:=cZ Oo NA g (i:=7) (by omega);rw [hf] at hld;refine ⟨⟨h1.next,7,none⟩,by kernel_rfl,f,[],[],hld,?_⟩;refine uW (K:=fun v h12=>v = .bool (Num.weightOk kind l)/\Ok h h12) hY ((hw _ (o1.trans o)).mono ?_);rintro _ h2 ⟨rfl,o2⟩;exact ⟨_,rfl,rfl,(o1.trans o).trans o2⟩
 by_cases g1:kind=1
 ·subst g1;refine key qF 97 rfl rfl rfl (by decide +kernel) (fun g o=> ?_) rfl;refine (qN l hl (tb.ok o) o.wf).mono ?_;rintro _ h2 ⟨rfl,o2⟩;refine ⟨?_,o2⟩;unfold Num.weightOk; simp
 by_cases g2:kind=2
 ·subst g2;refine key qu 102 rfl rfl rfl (by decide +kernel) (fun g o=> ?_) rfl;refine (lg l hl (tb.ok o) o.wf).mono ?_;rintro _ h2 ⟨rfl,o2⟩;refine ⟨?_,o2⟩;unfold Num.weightOk; simp
 by_cases g3:kind=3
 ·subst g3;refine key qy 102 rfl rfl rfl (by decide +kernel) (fun g o=> ?_) rfl;refine (lg l hl (tb.ok o) o.wf).mono ?_;rintro _ h2 ⟨rfl,o2⟩;refine ⟨?_,o2⟩;unfold Num.weightOk; simp
 ·have e:KO kind = .tuple ⟨[.agg ⟨gm⟩,.bool false]⟩:=by unfold KO; rw [if_neg g1,if_neg g2,if_neg g3]
  refine ⟨_,_,e,_,Jj,_,cL xp rfl (ay h1 FI) (cs:=gm) rfl rfl,ae (fun g=>by cases g) (fun _=> ?_)⟩;obtain ⟨o,g⟩:=dG (cs:=gm) o1.wf ((Ok.refl o1.wf).push FI) (ay h1 FI) (le_refl _);refine ⟨?_,o1.trans o⟩;unfold Num.weightOk;rw [decide_eq_false (by omega)]; rfl
end Go.Proofs.YtoabjjimjldcfaaGreatDoor
end
section
namespace Go.Ab
open Go
def kN:Value:= .slice (some ⟨0,0,some 0⟩) 0 0
def RdN (h:Heap)(e:TypeId)(sz:Nat)(v:Value)(rs:List (List Value)):Prop:=
 (∀ r∈rs,r.length=sz)/\(((v = .slice none 0 0\/v=kN)/\rs=[])\/ ∃ k off cs e' z c wr,v = .slice (some ⟨k,off,none⟩) rs.length c/\h.get k=some (.cells cs e' z wr)/\off+rs.length*sz<=cs.length/\ ∀ (i:Nat)(r:List Value),rs[i]?=some r->(cs.drop (off+i*sz)).take sz=r)
theorem RdN.ok {h h':Heap}{e:TypeId}{sz:Nat}{v:Value}{rs:List (List Value)}(r:RdN h e sz v rs)(o:Ok h h'):RdN h' e sz v rs:=by
 obtain ⟨r1,r | ⟨k,off,cs,e',z,c,wr,h1,h2,h3,h4⟩⟩:=r
 ·exact ⟨r1,.inl r⟩
 ·exact ⟨r1,.inr ⟨k,off,cs,e',z,c,wr,h1,o.ext _ _ h2,h3,h4⟩⟩
theorem RdN.len {h:Heap}{e:TypeId}{sz:Nat}{a:Option Addr}{n c:Nat}{rs:List (List Value)}(r:RdN h e sz (.slice a n c) rs):n=rs.length:=by
 obtain ⟨_,⟨h1 | h1,rfl⟩ | ⟨k,off,cs,e',z,c,wr,h1,h2,h3,h4⟩⟩:=r
 ·injection h1
 ·unfold kN at h1; injection h1
 ·injection h1
theorem RdN.slc {h:Heap}{e:TypeId}{sz:Nat}{v:Value}{rs:List (List Value)}(r:RdN h e sz v rs): ∃ (a:Option Addr)(c:Nat),v = .slice a rs.length c:=by
 obtain ⟨_,⟨h1 | h1,rfl⟩ | ⟨k,off,cs,e',z,c,wr,h1,h2,h3,h4⟩⟩:=r
 ·exact ⟨_,_,h1⟩
 ·exact ⟨_,_,h1⟩
 ·exact ⟨_,_,h1⟩
theorem RdN.at_ {P:Program}{t e:TypeId}{d:TypeDesc}{sz:Nat}(hU:P.underlying t=some (.slice e))(hs:al P e=some sz)(hd:P.underlying e=some d)(hg:isAgg P e=true){h:Heap}{v:Value}{rs:List (List Value)}(r:RdN h e sz v rs){ik:IntKind}{i:Int}(h0:0<=i)(h1:i < rs.length):
  ∃ (k o:Nat),ag P t v (.int ik i)=some (.pointer (some ⟨k,o,none⟩))/\ah P e h (.pointer (some ⟨k,o,none⟩))=some (.agg ⟨rs.getD i.toNat []⟩)/\
   ∀ (t':TypeId)(d':TypeDesc)(j:Nat),P.underlying t'=some d'->isAgg P t'=false->j < sz->ah P t' h (.pointer (some ⟨k,o+j,none⟩))=some ((rs.getD i.toNat []).getD j undef):=by
 obtain ⟨hl,⟨_,rfl⟩ | ⟨b,off,cs,e',z,c,wr,rfl,h3,h4,h5⟩⟩:=r
 ·simp at h1; omega
 ·have hi:i.toNat < rs.length:=by omega
  have h6:rs[i.toNat]?=some (rs.getD i.toNat []):=by rw [gD,gE hi]; rfl
  have h7:=h5 _ _ h6;have h9:(i.toNat+1)*sz<=rs.length*sz:=mul_le_mul_right _ hi;rw [add_mul,one_mul] at h9;obtain ⟨q,hq⟩: ∃ q,q=i.toNat*sz:=⟨_,rfl⟩
  rw [<-hq] at h7 h9;refine ⟨b,off+q,?_,?_,fun t' d' j hU' ha' hj=> ?_⟩
  ·have:=Ff (P:=P) hU hs (k:=b) (off:=off) (n:=rs.length) (c:=c) (ik:=ik) h0 h1;rw [this,hq]
  ·rw [gj hd hg hs h3 (by omega),h7]
  ·rw [cZ hU' ha' h3 (by omega),<-h7,gD,gD,getElem?_take,if_pos hj,getElem?_drop]
end Go.Ab
end
section
set_option linter.unusedVariables false
set_option maxRecDepth 100000
namespace Go.Proofs.YtoabjjimjldcfaaGreatDoor
open Go Go.Ab
section
def ArcRow (h:Heap)(v:Value)(l:List MArc):Prop:=RdN h 39 4 v (l.map aO)
def fg (p:MSt×Value):List Value:=[aa p.1.f,p.2]
def StRow (h:Heap)(v:Value)(l:List MSt):Prop:= ∃ ps:List (MSt×Value),ps.map (·.1)=l/\RdN h 37 2 v (ps.map fg)/\(∀ p∈ps,ArcRow h p.2 p.1.arcs)/\v≠kN
theorem StRow.ok {h h':Heap}{v:Value}{l:List MSt}(r:StRow h v l)(o:Ok h h'):StRow h' v l:=by
 obtain ⟨ps,h1,h2,h3,h4⟩:=r;exact ⟨ps,h1,h2.ok o,fun p hp=>RdN.ok (h3 p hp) o,h4⟩
theorem StRow.len {h:Heap}{a:Option Addr}{n c:Nat}{l:List MSt}(r:StRow h (.slice a n c) l):n=l.length:=by
 obtain ⟨ps,h1,h2,h3,_⟩:=r;rw [h2.len,lM,<-h1,lM]
theorem EJ:SS.P.underlying 22=some (.slice 37):=by kernel_rfl
theorem xX:SS.P.underlying 35=some (.slice 39):=by kernel_rfl
theorem rF:al SS.P 37=some 2:=by kernel_rfl
theorem uP:al SS.P 39=some 4:=by kernel_rfl
theorem gK:al SS.P 24=some 4:=by kernel_rfl
theorem LF:Go.Ab.isAgg SS.P 37=true:=by kernel_rfl
theorem Id:Go.Ab.isAgg SS.P 39=true:=by kernel_rfl
theorem Cg:Go.Ab.isAgg SS.P 24=true:=by kernel_rfl
theorem LO:Go.Ab.isAgg SS.P 22=false:=by kernel_rfl
theorem Fu:Go.Ab.isAgg SS.P 35=false:=by kernel_rfl
noncomputable def MH:TypeDesc:=(SS.P.underlying 37).getD .bool
theorem LQ:SS.P.underlying 37=some MH:=by kernel_rfl
noncomputable def M7:TypeDesc:=(SS.P.underlying 39).getD .bool
theorem He:SS.P.underlying 39=some M7:=by kernel_rfl
noncomputable def MM:TypeDesc:=(SS.P.underlying 24).getD .bool
theorem BO:SS.P.underlying 24=some MM:=by kernel_rfl
theorem gJ (k:Nat):af SS.P 24 (.pointer (some ⟨k,0,none⟩)) 0=some (.pointer (some ⟨k,0,none⟩)):=by kernel_rfl
theorem gx (k:Nat):af SS.P 24 (.pointer (some ⟨k,0,none⟩)) 1=some (.pointer (some ⟨k,1,none⟩)):=by kernel_rfl
theorem jM (k:Nat):af SS.P 24 (.pointer (some ⟨k,0,none⟩)) 2=some (.pointer (some ⟨k,2,none⟩)):=by kernel_rfl
theorem bA (k:Nat):af SS.P 24 (.pointer (some ⟨k,0,none⟩)) 3=some (.pointer (some ⟨k,3,none⟩)):=by kernel_rfl
theorem iG (k o:Nat):af SS.P 37 (.pointer (some ⟨k,o,none⟩)) 0=some (.pointer (some ⟨k,o+0,none⟩)):=by kernel_rfl
theorem bW (k o:Nat):af SS.P 37 (.pointer (some ⟨k,o,none⟩)) 1=some (.pointer (some ⟨k,o+1,none⟩)):=by kernel_rfl
theorem nq (k o:Nat):af SS.P 39 (.pointer (some ⟨k,o,none⟩)) 0=some (.pointer (some ⟨k,o+0,none⟩)):=by kernel_rfl
theorem pM (k o:Nat):af SS.P 39 (.pointer (some ⟨k,o,none⟩)) 1=some (.pointer (some ⟨k,o+1,none⟩)):=by kernel_rfl
theorem wt (k o:Nat):af SS.P 39 (.pointer (some ⟨k,o,none⟩)) 2=some (.pointer (some ⟨k,o+2,none⟩)):=by kernel_rfl
theorem eW (k o:Nat):af SS.P 39 (.pointer (some ⟨k,o,none⟩)) 3=some (.pointer (some ⟨k,o+3,none⟩)):=by kernel_rfl
structure MB (g:Heap)(k:Nat)(M:Mach)(a:Option Addr)(n c:Nat):Prop where
 box:g.get k=some (.cells [.int .i64 M.kind,.int .i64 M.start,aa M.lead,.slice a n c] 24 0 true)
 row:StRow g (.slice a n c) M.states
section
variable {g g':Heap} {k:Nat} {M:Mach} {a:Option Addr} {n c:Nat}
theorem MB.ok (m:MB g k M a n c)(o:Ok g g'):MB g' k M a n c:=⟨o.ext _ _ m.box,m.row.ok o⟩
theorem MB.l0 (m:MB g k M a n c):ah SS.P 3 g (.pointer (some ⟨k,0,none⟩))=some (.int .i64 M.kind):=cZ HO Ij m.box (by simp)
theorem MB.l1 (m:MB g k M a n c):ah SS.P 3 g (.pointer (some ⟨k,1,none⟩))=some (.int .i64 M.start):=cZ HO Ij m.box (by simp)
theorem MB.l2 (m:MB g k M a n c):ah SS.P 9 g (.pointer (some ⟨k,2,none⟩))=some (aa M.lead):=cZ IL KB m.box (by simp)
theorem MB.l3 (m:MB g k M a n c):ah SS.P 22 g (.pointer (some ⟨k,3,none⟩))=some (.slice a n c):=cZ EJ LO m.box (by simp)
theorem MB.all (m:MB g k M a n c):ah SS.P 24 g (.pointer (some ⟨k,0,none⟩))=some (.agg ⟨[.int .i64 M.kind,.int .i64 M.start,aa M.lead,.slice a n c]⟩):=gj BO Cg gK m.box (by simp)
theorem MB.len (m:MB g k M a n c):n=M.states.length:=m.row.len
end
theorem StRow.at_ {g:Heap}{a:Option Addr}{n c:Nat}{l:List MSt}(r:StRow g (.slice a n c) l){i:Nat}{s:MSt}(hs:l[i]?=some s):
  ∃ (b o:Nat)(x:Option Addr)(y z:Nat),ag SS.P 22 (.slice a n c) (.int .i64 (i:Int))=some (.pointer (some ⟨b,o,none⟩))/\ah SS.P 37 g (.pointer (some ⟨b,o,none⟩))=some (.agg ⟨[aa s.f,.slice x y z]⟩)/\
   ah SS.P 9 g (.pointer (some ⟨b,o+0,none⟩))=some (aa s.f)/\ah SS.P 35 g (.pointer (some ⟨b,o+1,none⟩))=some (.slice x y z)/\ArcRow g (.slice x y z) s.arcs:=by
 obtain ⟨ps,h1,h2,h3,_⟩:=r;rw [<-h1,getElem?_map] at hs;obtain ⟨p,hp,rfl⟩:=Option.map_eq_some_iff.1 hs;have hi:=(List.getElem?_eq_some_iff.1 hp).1;obtain ⟨b,o,e1,e2,e3⟩:=h2.at_ EJ rF LQ LF (ik:= .i64) (i:=(i:Int)) (by omega) (by rw [lM]; omega);have e4:(ps.map fg).getD (i:Int).toNat []=fg p:=by
  rw [toNat_natCast,gD,getElem?_map,hp]; rfl
 rw [e4] at e2 e3;have ha:=h3 p (List.mem_of_getElem? hp);obtain ⟨x,z,hx⟩:=RdN.slc ha;have e5:=e3 9 _ 0 IL KB (by omega);have e6:=e3 35 _ 1 xX Fu (by omega);unfold fg at e2 e5 e6;rw [hx] at e2 e6 ha;exact ⟨b,o,x,_,z,e1,e2,e5,e6,ha⟩
theorem ArcRow.len {g:Heap}{x:Option Addr}{y z:Nat}{l:List MArc}(r:ArcRow g (.slice x y z) l):y=l.length:=by
 have:=RdN.len r; rwa [lM] at this
theorem ArcRow.ok {h h':Heap}{v:Value}{l:List MArc}(r:ArcRow h v l)(o:Ok h h'):ArcRow h' v l:=RdN.ok r o
theorem ArcRow.at_ {g:Heap}{x:Option Addr}{y z:Nat}{l:List MArc}(r:ArcRow g (.slice x y z) l){j:Nat}{q:MArc}(hs:l[j]?=some q):
  ∃ (b o:Nat),ag SS.P 35 (.slice x y z) (.int .i64 (j:Int))=some (.pointer (some ⟨b,o,none⟩))/\ah SS.P 39 g (.pointer (some ⟨b,o,none⟩))=some (.agg ⟨aO q⟩)/\
   ah SS.P 3 g (.pointer (some ⟨b,o+0,none⟩))=some (.int .i64 q.i)/\ah SS.P 3 g (.pointer (some ⟨b,o+1,none⟩))=some (.int .i64 q.o)/\ah SS.P 9 g (.pointer (some ⟨b,o+2,none⟩))=some (aa q.w)/\ah SS.P 3 g (.pointer (some ⟨b,o+3,none⟩))=some (.int .i64 q.t):=by
 have hj:=(List.getElem?_eq_some_iff.1 hs).1;obtain ⟨b,o,e1,e2,e3⟩:=RdN.at_ xX uP He Id r (ik:= .i64) (i:=(j:Int)) (by omega) (by rw [lM]; omega);have e4:(l.map aO).getD (j:Int).toNat []=aO q:=by
  rw [toNat_natCast,gD,getElem?_map,hs]; rfl
 rw [e4] at e2 e3;exact ⟨b,o,e1,e2,e3 3 _ 0 HO Ij (by omega),e3 3 _ 1 HO Ij (by omega),e3 9 _ 2 IL KB (by omega),e3 3 _ 3 HO Ij (by omega)⟩
def SB (g:Heap)(k:Nat)(f:List UInt8)(x:Option Addr)(y z:Nat):Prop:=g.get k=some (.cells [aa f,.slice x y z] 37 0 true)
theorem SB.ok {g g':Heap}{k:Nat}{f:List UInt8}{x:Option Addr}{y z:Nat}(s:SB g k f x y z)(o:Ok g g'):SB g' k f x y z:=o.ext _ _ s
theorem SB.l0 {g:Heap}{k:Nat}{f:List UInt8}{x:Option Addr}{y z:Nat}(s:SB g k f x y z):ah SS.P 9 g (.pointer (some ⟨k,0+0,none⟩))=some (aa f):=cZ IL KB s (by simp)
theorem SB.l1 {g:Heap}{k:Nat}{f:List UInt8}{x:Option Addr}{y z:Nat}(s:SB g k f x y z):ah SS.P 35 g (.pointer (some ⟨k,0+1,none⟩))=some (.slice x y z):=cZ xX Fu s (by simp)
def AB (g:Heap)(k:Nat)(q:MArc):Prop:=g.get k=some (.cells (aO q) 39 0 true)
theorem AB.ok {g g':Heap}{k:Nat}{q:MArc}(s:AB g k q)(o:Ok g g'):AB g' k q:=o.ext _ _ s
theorem AB.l0 {g:Heap}{k:Nat}{q:MArc}(s:AB g k q):ah SS.P 3 g (.pointer (some ⟨k,0+0,none⟩))=some (.int .i64 q.i):=cZ HO Ij s (by simp [aO])
theorem AB.l1 {g:Heap}{k:Nat}{q:MArc}(s:AB g k q):ah SS.P 3 g (.pointer (some ⟨k,0+1,none⟩))=some (.int .i64 q.o):=cZ HO Ij s (by simp [aO])
theorem AB.l2 {g:Heap}{k:Nat}{q:MArc}(s:AB g k q):ah SS.P 9 g (.pointer (some ⟨k,0+2,none⟩))=some (aa q.w):=cZ IL KB s (by simp [aO])
theorem AB.l3 {g:Heap}{k:Nat}{q:MArc}(s:AB g k q):ah SS.P 3 g (.pointer (some ⟨k,0+3,none⟩))=some (.int .i64 q.t):=cZ HO Ij s (by simp [aO])
def uh:Blk:= .cells [aa [],.slice none 0 0] 37 0 true
theorem rJ:aD SS.P 37=some (uh,gb):=by kernel_rfl
def A0:Blk:= .cells [.int .i64 0,.int .i64 0,aa [],.int .i64 0] 39 0 true
theorem wn:aD SS.P 39=some (A0,gb):=by kernel_rfl
theorem pe {h:Heap}(w:Wf h)(f:List UInt8)(x:Option Addr)(y z:Nat): ∃ u:Upd,ai SS.P 37 (.pointer (some ⟨h.next,0,none⟩)) (.agg ⟨[aa f,.slice x y z]⟩) (h.push uh)=some (undef,u)/\Ok h (u.app (h.push uh))/\SB (u.app (h.push uh)) h.next f x y z:=by
 obtain ⟨o,e⟩:=dG (cs:=[aa f,.slice x y z]) w ((Ok.refl w).push uh) (ay h uh) (le_refl _);exact ⟨_,cL rF rfl (ay h uh) rfl rfl,o,e⟩
theorem oz {h:Heap}(w:Wf h)(q:MArc): ∃ u:Upd,ai SS.P 39 (.pointer (some ⟨h.next,0,none⟩)) (.agg ⟨aO q⟩) (h.push A0)=some (undef,u)/\Ok h (u.app (h.push A0))/\AB (u.app (h.push A0)) h.next q:=by
 obtain ⟨o,e⟩:=dG (cs:=aO q) w ((Ok.refl w).push A0) (ay h A0) (le_refl _);exact ⟨_,cL uP rfl (ay h A0) rfl rfl,o,e⟩
def aQ (M:Mach)(a:Option Addr)(n c:Nat):List Value:=[.int .i64 M.kind,.int .i64 M.start,aa M.lead,.slice a n c]
def Bm (M:Mach)(a:Option Addr)(n c:Nat):Blk:= .cells (aQ M a n c) 24 0 true
theorem gi (M:Mach)(a:Option Addr)(n c:Nat):dY SS.P 24 (.agg ⟨aQ M a n c⟩)=some (Bm M a n c,gb):=by kernel_rfl
theorem ef {h:Heap}(w:Wf h){M:Mach}{a:Option Addr}{n c:Nat}(r:StRow h (.slice a n c) M.states):MB (h.push (Bm M a n c)) h.next M a n c/\Ok h (h.push (Bm M a n c)):=
 ⟨⟨ay h _,r.ok ((Ok.refl w).push _)⟩,(Ok.refl w).push _⟩
def vd (s:Int):Bool:=decide (0<=s) && decide (s<=500)
def iM (kind:Int)(N:Nat)(a:MArc):Bool:=vd a.i && vd a.o && decide (0<=a.t) && decide (a.t < N) && Num.weightOk kind a.w
def gL (kind:Int)(N:Nat):Int->List MSt->Bool
 | _,[]=>true
 | acc,s::r=>decide (acc+s.arcs.length<=30000) && (s.f == [] || Num.weightOk kind s.f) && s.arcs.all (iM kind N) && gL kind N (acc+s.arcs.length) r
def aN (M:Mach):Bool:=decide (1<=M.kind) && decide (M.kind<=3) && decide (1<=M.states.length) && decide (M.states.length<=3000) && decide (0<=M.start) && decide (M.start < M.states.length) && Num.weightOk M.kind M.lead && gL M.kind M.states.length 0 M.states
def fe (l:List MSt):Nat:=(l.map fun s=>s.arcs.length).sum
structure Small (M:Mach):Prop where
 lead:M.lead.length<=900
 sts:M.states.length<=300
 fin: ∀ s∈M.states,s.f.length<=900
 arcs: ∀ s∈M.states,s.arcs.length<=2000
 w: ∀ s∈M.states,∀ q∈s.arcs,q.w.length<=900
 tot:fe M.states<=2000
end
noncomputable def Hk:FD:=cB Tryz.f35 []
theorem Eh (s:Int)(h:Heap)(Q:VH)(hx:aB (decide ((s:Int)>=0)) (Q (.bool (decide ((s:Int)<=500))) h) (Q (.bool false) h)):FW SS 35 [(.int .i64 s)] h Q:=cE Hk Tryz.func35 (aj hx)
noncomputable def bw:FD:=cB Tryz.f10 [([1,1,1,1,0,1,0,0],[1,2,3,4,48,49,50]),([1,1,1,1,0,1,0,0,1,1,0,0,1,1,1,1,0,0],[1,2,3,4,6,48,49,50,75,76,77])]
abbrev dj (k:Nat)(a:OA)(n c:Nat)(i:Nat)(acc:Int):LV:=[(pA k),(.bool false),(iA n),(.int .i64 acc),(.slice a n c),(iA n),(iA i)]
abbrev dV (k:Nat)(a:OA)(n c k2:Nat)(b:OA)(m d i:Nat)(acc:Int)(j:Nat):LV:=[(pA k),(.bool false),(iA n),(.int .i64 acc),(pA k2),(.slice a n c),(iA n),(iA i),(.slice b m d),(iA m),(iA j)]
theorem Fq (mv:LV)(h:Heap)(Q:VH)(hx:xN (dY SS.P 24 (.agg ⟨mv⟩)) h fun B1 g2=>xP (af SS.P 24 (pA (h.next)) 3) fun p3=>xL (ah SS.P 22 g2 (.pointer (some p3))) fun a4 n5 c6=>xP (af SS.P 24 (pA (h.next)) 0) fun p7=>xI .i64 (ah SS.P 3 g2 (.pointer (some p7))) fun n8=>aB (decide ((n8:Int) < 1)) (Q (.bool false) g2) (xP (af SS.P 24 (pA (h.next)) 0) fun p9=>xI .i64 (ah SS.P 3 g2 (.pointer (some p9))) fun n10=>aB (decide ((n10:Int) > 3)) (Q (.bool false) g2) (aB (decide (((n5:Int):Int) < 1)) (Q (.bool false) g2) (aB (decide (((n5:Int):Int) > 3000)) (Q (.bool false) g2) (xP (af SS.P 24 (pA (h.next)) 1) fun p11=>xI .i64 (ah SS.P 3 g2 (.pointer (some p11))) fun n12=>aB (decide ((n12:Int) < 0)) (Q (.bool false) g2) (xP (af SS.P 24 (pA (h.next)) 1) fun p13=>xI .i64 (ah SS.P 3 g2 (.pointer (some p13))) fun n14=>aB (decide ((n14:Int)>=(n5:Int))) (Q (.bool false) g2) (xP (af SS.P 24 (pA (h.next)) 0) fun p15=>xI .i64 (ah SS.P 3 g2 (.pointer (some p15))) fun n16=>xP (af SS.P 24 (pA (h.next)) 2) fun p17=>xS (ah SS.P 9 g2 (.pointer (some p17))) fun l18=>FW SS 34 [(.int .i64 n16),(aa l18)] g2 fun v19 h20=>yB v19 fun b21=>aB (!b21) (Q (.bool false) h20) (xP (af SS.P 24 (pA (h.next)) 3) fun p22=>xL (ah SS.P 22 h20 (.pointer (some p22))) fun a23 n24 c25=>LL SS bw [1,1,1,1,0,1,0,0] [(pA (h.next)),(.bool false),(iA n5),(.int .i64 0),(.slice a23 n24 c25),(iA n24),(.int .i64 0)] h20 (KK SS bw [1,1,1,1,0,1,0] [] (EE SS bw Q)))))))))):FW SS 10 [(.agg ⟨mv⟩)] h Q:=cE bw Tryz.func10 (aj hx)
theorem oJ (mv:LV)(k:Nat)(a:OA)(n c:Nat)(Inv:Nat->Nat->Int->Heap->Prop)(Q:VH)(step: ∀ (mz:Nat) (i:Nat) (acc:Int) (zz:Nat->Value) (h:Heap),Inv mz i acc h->aB (decide (((i:Int):Int) < (n:Int))) (xP (ag SS.P 22 (.slice a n c) (iA i)) fun p26=>xA (ah SS.P 37 h (.pointer (some p26))) fun c27=>xN (aD SS.P 37) h fun B28 g29=>xU (ai SS.P 37 (pA (h.next)) (.agg ⟨c27⟩) g29) g29 fun u30 g31=>xP (af SS.P 37 (pA (h.next)) 1) fun p32=>xL (ah SS.P 35 g31 (.pointer (some p32))) fun a33 n34 c35=>aB (decide ((wrap .i64 (acc+(n34:Int)):Int) > 30000)) (Q (.bool false) g31) (xP (af SS.P 37 (pA (h.next)) 0) fun p36=>xS (ah SS.P 9 g31 (.pointer (some p36))) fun l37=>aB (!((l37:LB) == [])) (xP (af SS.P 24 (pA k) 0) fun p38=>xI .i64 (ah SS.P 3 g31 (.pointer (some p38))) fun n39=>xP (af SS.P 37 (pA (h.next)) 0) fun p40=>xS (ah SS.P 9 g31 (.pointer (some p40))) fun l41=>FW SS 34 [(.int .i64 n39),(aa l41)] g31 fun v42 h43=>yB v42 fun b44=>aB (!b44) (Q (.bool false) h43) (xP (af SS.P 37 (pA (h.next)) 1) fun p45=>xL (ah SS.P 35 h43 (.pointer (some p45))) fun a46 n47 c48=>LL SS bw [1,1,1,1,0,1,0,0,1,1,0,0,1,1,1,1,0,0] (dV k a n c (h.next) a46 n47 c48 i (wrap .i64 (acc+(n34:Int))) 0) h43 (KK SS bw [1,1,0,0,1,1,1,1,0] [1,1,1,1,0,1,0,0] (RR bw [1,1,1,1,0,1,0,0] (sy (dj k a n c) Inv) mz (KK SS bw [1,1,1,1,0,1,0] [] (EE SS bw Q)))))) (xP (af SS.P 37 (pA (h.next)) 1) fun p49=>xL (ah SS.P 35 g31 (.pointer (some p49))) fun a50 n51 c52=>LL SS bw [1,1,1,1,0,1,0,0,1,1,0,0,1,1,1,1,0,0] (dV k a n c (h.next) a50 n51 c52 i (wrap .i64 (acc+(n34:Int))) 0) g31 (KK SS bw [1,1,0,0,1,1,1,1,0] [1,1,1,1,0,1,0,0] (RR bw [1,1,1,1,0,1,0,0] (sy (dj k a n c) Inv) mz (KK SS bw [1,1,1,1,0,1,0] [] (EE SS bw Q))))))) (Q (.bool true) h))(mz:Nat){i:Nat}{acc:Int}{h:Heap}(hi:Inv mz i acc h):LL SS bw [1,1,1,1,0,1,0,0] (dj k a n c i acc) h (KK SS bw [1,1,1,1,0,1,0] [] (EE SS bw Q)):=
 mT (dj k a n c) Inv (fun mz i acc zz h hi=>aj (step mz i acc zz h hi)) mz hi
theorem pv (mv:LV)(k:Nat)(a:OA)(n c:Nat)(k2:Nat)(b:OA)(m d:Nat)(Inv:Nat->Nat->Int->Heap->Prop)(mz i:Nat)(acc:Int)(Inv2:Nat->Nat->Heap->Prop)(Q:VH)(step: ∀ (mz2:Nat) (j:Nat) (zz:Nat->Value) (h:Heap),Inv2 mz2 j h->aB (decide (((j:Int):Int) < (m:Int))) (xP (ag SS.P 35 (.slice b m d) (iA j)) fun p53=>xA (ah SS.P 39 h (.pointer (some p53))) fun c54=>xN (aD SS.P 39) h fun B55 g56=>xU (ai SS.P 39 (pA (h.next)) (.agg ⟨c54⟩) g56) g56 fun u57 g58=>xP (af SS.P 39 (pA (h.next)) 0) fun p59=>xI .i64 (ah SS.P 3 g58 (.pointer (some p59))) fun n60=>FW SS 35 [(.int .i64 n60)] g58 fun v61 h62=>yB v61 fun b63=>aB (!b63) (Q (.bool false) h62) (xP (af SS.P 39 (pA (h.next)) 1) fun p64=>xI .i64 (ah SS.P 3 h62 (.pointer (some p64))) fun n65=>FW SS 35 [(.int .i64 n65)] h62 fun v66 h67=>yB v66 fun b68=>aB (!b68) (Q (.bool false) h67) (xP (af SS.P 39 (pA (h.next)) 3) fun p69=>xI .i64 (ah SS.P 3 h67 (.pointer (some p69))) fun n70=>aB (decide ((n70:Int) < 0)) (Q (.bool false) h67) (xP (af SS.P 39 (pA (h.next)) 3) fun p71=>xI .i64 (ah SS.P 3 h67 (.pointer (some p71))) fun n72=>aB (decide ((n72:Int)>=(n:Int))) (Q (.bool false) h67) (xP (af SS.P 24 (pA k) 0) fun p73=>xI .i64 (ah SS.P 3 h67 (.pointer (some p73))) fun n74=>xP (af SS.P 39 (pA (h.next)) 2) fun p75=>xS (ah SS.P 9 h67 (.pointer (some p75))) fun l76=>FW SS 34 [(.int .i64 n74),(aa l76)] h67 fun v77 h78=>yB v77 fun b79=>aB (!b79) (Q (.bool false) h78) (aF (gM (dV k a n c k2 b m d i acc) Inv2) mz2 [(pA k),(.bool false),(iA n),(.int .i64 acc),(pA k2),(.slice a n c),(iA n),(iA i),(.slice b m d),(iA m),(.int .i64 (wrap .i64 ((j:Int)+1)))] h78)))))) (aF (sy (dj k a n c) Inv) mz [(pA k),(.bool false),(iA n),(.int .i64 acc),(.slice a n c),(iA n),(.int .i64 (wrap .i64 ((i:Int)+1)))] h))(mz2:Nat){j:Nat}{h:Heap}(hi:Inv2 mz2 j h):LL SS bw [1,1,1,1,0,1,0,0,1,1,0,0,1,1,1,1,0,0] (dV k a n c k2 b m d i acc j) h (KK SS bw [1,1,0,0,1,1,1,1,0] [1,1,1,1,0,1,0,0] (RR bw [1,1,1,1,0,1,0,0] (sy (dj k a n c) Inv) mz (KK SS bw [1,1,1,1,0,1,0] [] (EE SS bw Q)))):=
 cQ (dV k a n c k2 b m d i acc) Inv2 (fun mz2 j zz h hi=>aj (step mz2 j zz h hi)) mz2 hi
noncomputable def jI:FD:=cB Tryz.f33 [([1,1,0,1,0,0],[1,3,4])]
abbrev fM (k:Nat)(i:Nat)(acc:Int):LV:=[(pA k),(.int .i64 acc),(iA i)]
theorem Hy (mv:LV)(h:Heap)(Q:VH)(hx:xN (dY SS.P 24 (.agg ⟨mv⟩)) h fun B1 g2=>LL SS jI [1,1,0,1,0,0] (fM (h.next) 0 0) g2 (KK SS jI [1,1,0,1,0] [] (EE SS jI Q))):FW SS 33 [(.agg ⟨mv⟩)] h Q:=cE jI Tryz.func33 (aj hx)
theorem pH (mv:LV)(k:Nat)(Inv:Nat->Nat->Int->Heap->Prop)(Q:VH)(step: ∀ (mz:Nat) (i:Nat) (acc:Int) (zz:Nat->Value) (h:Heap),Inv mz i acc h->xP (af SS.P 24 (pA k) 3) fun p3=>xL (ah SS.P 22 h (.pointer (some p3))) fun a4 n5 c6=>aB (decide (((i:Int):Int) < (n5:Int))) (xP (af SS.P 24 (pA k) 3) fun p7=>xL (ah SS.P 22 h (.pointer (some p7))) fun a8 n9 c10=>xP (ag SS.P 22 (.slice a8 n9 c10) (iA i)) fun p11=>xP (af SS.P 37 (.pointer (some p11)) 1) fun p12=>xL (ah SS.P 35 h (.pointer (some p12))) fun a13 n14 c15=>aF (sy (fM k) Inv) mz [(pA k),(.int .i64 (wrap .i64 (acc+(n14:Int)))),(.int .i64 (wrap .i64 ((i:Int)+1)))] h) (Q (.int .i64 acc) h))(mz:Nat){i:Nat}{acc:Int}{h:Heap}(hi:Inv mz i acc h):LL SS jI [1,1,0,1,0,0] (fM k i acc) h (KK SS jI [1,1,0,1,0] [] (EE SS jI Q)):=
 mT (fM k) Inv (fun mz i acc zz h hi=>aj (step mz i acc zz h hi)) mz hi
noncomputable def cT:FD:=cB Tryz.f8 [([1,1,0,1,0,0],[1,2,3]),([1,1,0,1,0,0,1,0,0,1,1,0,0],[1,2,3,4])]
abbrev dK (k:Nat)(i:Nat):LV:=[(pA k),(.bool false),(iA i)]
abbrev fR (k i:Nat)(j:Nat):LV:=[(pA k),(.bool false),(iA i),(iA j)]
theorem Hs (mv:LV)(h:Heap)(Q:VH)(hx:xN (dY SS.P 24 (.agg ⟨mv⟩)) h fun B1 g2=>xP (af SS.P 24 (pA (h.next)) 3) fun p3=>xL (ah SS.P 22 g2 (.pointer (some p3))) fun a4 n5 c6=>aB (decide (((n5:Int):Int) > 300)) (Q (.bool true) g2) (xA (ah SS.P 24 g2 (pA (h.next))) fun c7=>FW SS 33 [(.agg ⟨c7⟩)] g2 fun v8 h9=>yI .i64 v8 fun n10=>aB (decide ((n10:Int) > 2000)) (Q (.bool true) h9) (xP (af SS.P 24 (pA (h.next)) 2) fun p11=>xS (ah SS.P 9 h9 (.pointer (some p11))) fun l12=>aB (decide ((((l12:LB).length:Int):Int) > 900)) (Q (.bool true) h9) (LL SS cT [1,1,0,1,0,0] (dK (h.next) 0) h9 (KK SS cT [1,1,0,1,0] [] (EE SS cT Q)))))):FW SS 8 [(.agg ⟨mv⟩)] h Q:=cE cT Tryz.func8 (aj hx)
theorem qm (mv:LV)(k:Nat)(Inv:Nat->Nat->Heap->Prop)(Q:VH)(step: ∀ (mz:Nat) (i:Nat) (zz:Nat->Value) (h:Heap),Inv mz i h->xP (af SS.P 24 (pA k) 3) fun p13=>xL (ah SS.P 22 h (.pointer (some p13))) fun a14 n15 c16=>aB (decide (((i:Int):Int) < (n15:Int))) (xP (af SS.P 24 (pA k) 3) fun p17=>xL (ah SS.P 22 h (.pointer (some p17))) fun a18 n19 c20=>xP (ag SS.P 22 (.slice a18 n19 c20) (iA i)) fun p21=>xP (af SS.P 37 (.pointer (some p21)) 0) fun p22=>xS (ah SS.P 9 h (.pointer (some p22))) fun l23=>aB (decide ((((l23:LB).length:Int):Int) > 900)) (Q (.bool true) h) (LL SS cT [1,1,0,1,0,0,1,0,0,1,1,0,0] (fR k i 0) h (KK SS cT [1,0,0,1,1,0] [1,1,0,1,0,0] (RR cT [1,1,0,1,0,0] (gM (dK k) Inv) mz (KK SS cT [1,1,0,1,0] [] (EE SS cT Q)))))) (Q (.bool false) h))(mz:Nat){i:Nat}{h:Heap}(hi:Inv mz i h):LL SS cT [1,1,0,1,0,0] (dK k i) h (KK SS cT [1,1,0,1,0] [] (EE SS cT Q)):=
 cQ (dK k) Inv (fun mz i zz h hi=>aj (step mz i zz h hi)) mz hi
theorem pV (mv:LV)(k:Nat)(Inv:Nat->Nat->Heap->Prop)(mz i:Nat)(Inv2:Nat->Nat->Heap->Prop)(Q:VH)(step: ∀ (mz2:Nat) (j:Nat) (zz:Nat->Value) (h:Heap),Inv2 mz2 j h->xP (af SS.P 24 (pA k) 3) fun p24=>xL (ah SS.P 22 h (.pointer (some p24))) fun a25 n26 c27=>xP (ag SS.P 22 (.slice a25 n26 c27) (iA i)) fun p28=>xP (af SS.P 37 (.pointer (some p28)) 1) fun p29=>xL (ah SS.P 35 h (.pointer (some p29))) fun a30 n31 c32=>aB (decide (((j:Int):Int) < (n31:Int))) (xP (af SS.P 24 (pA k) 3) fun p33=>xL (ah SS.P 22 h (.pointer (some p33))) fun a34 n35 c36=>xP (ag SS.P 22 (.slice a34 n35 c36) (iA i)) fun p37=>xP (af SS.P 37 (.pointer (some p37)) 1) fun p38=>xL (ah SS.P 35 h (.pointer (some p38))) fun a39 n40 c41=>xP (ag SS.P 35 (.slice a39 n40 c41) (iA j)) fun p42=>xP (af SS.P 39 (.pointer (some p42)) 2) fun p43=>xS (ah SS.P 9 h (.pointer (some p43))) fun l44=>aB (decide ((((l44:LB).length:Int):Int) > 900)) (Q (.bool true) h) (aF (gM (fR k i) Inv2) mz2 [(pA k),(.bool false),(iA i),(.int .i64 (wrap .i64 ((j:Int)+1)))] h)) (aF (gM (dK k) Inv) mz [(pA k),(.bool false),(.int .i64 (wrap .i64 ((i:Int)+1)))] h))(mz2:Nat){j:Nat}{h:Heap}(hi:Inv2 mz2 j h):LL SS cT [1,1,0,1,0,0,1,0,0,1,1,0,0] (fR k i j) h (KK SS cT [1,0,0,1,1,0] [1,1,0,1,0,0] (RR cT [1,1,0,1,0,0] (gM (dK k) Inv) mz (KK SS cT [1,1,0,1,0] [] (EE SS cT Q)))):=
 cQ (fR k i) Inv2 (fun mz2 j zz h hi=>aj (step mz2 j zz h hi)) mz2 hi
section
theorem dI {α:Type}{l:List α}{i:Nat}{s:α}(h:l[i]?=some s):l.drop i=s::l.drop (i+1):=by
 obtain ⟨h1,rfl⟩:=List.getElem?_eq_some_iff.1 h;exact List.drop_eq_getElem_cons h1
theorem uu (s:Int)(h:Heap):FW SS 35 [.int .i64 s] h (fun v h'=>v = .bool (vd s)/\h'=h):=by
 refine Eh s h _ (ae (fun g=>⟨?_,rfl⟩) (fun g=>⟨?_,rfl⟩))
 ·have g:=dT g;unfold vd; rw [decide_eq_true (show 0<=s from g),Bool.true_and]
 ·have g:=dF g;unfold vd; rw [decide_eq_false (show ¬ 0<=s from g),Bool.false_and]
section
variable {h:Heap} {k:Nat} {M:Mach} {a:Option Addr} {n c:Nat}
def bQ (h:Heap)(V:Bool):VH:=fun v h'=>v = .bool V/\Ok h h'
def M6 (h:Heap)(k:Nat)(M:Mach)(a:Option Addr)(n c:Nat)(V:Bool)(mz i:Nat)(acc:Int)(g:Heap):Prop:=i<=n/\mz=n - i/\0<=acc/\acc<=30000/\MB g k M a n c/\Ok h g/\gL M.kind n acc (M.states.drop i)=V
def OR (h:Heap)(k:Nat)(M:Mach)(a:Option Addr)(n c:Nat)(s:MSt)(b:Option Addr)(m d i:Nat)(acc:Int)(V:Bool)(mz2 j:Nat)(g:Heap):Prop:=j<=m/\mz2=m - j/\MB g k M a n c/\Ok h g/\ArcRow g (.slice b m d) s.arcs/\((s.arcs.drop j).all (iM M.kind n) && gL M.kind n acc (M.states.drop (i+1)))=V
theorem aH {i n:Nat}(h:i < n)(hn:n<=1000000000):wrap .i64 ((i:Int)+1)=((i+1:Nat):Int):=by rw [aq (by omega) (by omega)]; omega
theorem gZ (sm:Small M){s:MSt}{i:Nat}(hs:M.states[i]?=some s):s.arcs.length<=2000/\s.f.length<=1000000000/\ ∀ q∈s.arcs,q.w.length<=1000000000:=by
 have h:=List.mem_of_getElem? hs;exact ⟨sm.arcs s h,le_trans (sm.fin s h) (by decide),fun q hq=>le_trans (sm.w s h q hq) (by decide)⟩
set_option linter.defProp false in
def yr (w:Wf h)(tb:Tab h)(sm:Small M)(V:Bool){s:MSt}{b:Option Addr}{m d i k2:Nat}{acc:Int}(hs:M.states[i]?=some s)(hi:i < n)(h0:0<=acc)(h1:acc<=30000)(mv:List Value)(mz:Nat)(hmz:mz=n - i):=
 pv mv k a n c k2 b m d (M6 h k M a n c V) mz i acc (OR h k M a n c s b m d i acc V) (bQ h V) (by
  intro mz2 j; intros; rename_i g hin;obtain ⟨f1,f2,mb,ok,ar,hv⟩:=hin;have hn:n<=300:=by rw [mb.len]; exact sm.sts
  obtain ⟨l1,l2,l3⟩:=gZ sm hs;have hm:=ar.len;refine ae (fun g1=> ?_) (fun g1=> ?_)
  ·have g1:=dT g1;obtain ⟨q,hq⟩: ∃ q,s.arcs[j]?=some q:=⟨_,gE (by omega)⟩
   obtain ⟨bb,o,e1,e2,e3⟩:=ar.at_ hq;have lq:=l3 q (List.mem_of_getElem? hq);rw [dI hq,all_cons] at hv;obtain ⟨u,p1,p2,p3⟩:=oz ok.wf q;refine ⟨_,e1,_,e2,_,wn,u,p1,?_⟩;have okg:=ok.trans p2;have mbg:=mb.ok p2;generalize u.app (g.push A0)=g2 at *;refine ⟨_,nq _ _,_,p3.l0,(uu _ _).mono ?_⟩;rintro _ g3 ⟨rfl,eg⟩;obtain rfl:g2=g3:=eg.symm;refine ⟨_,rfl,ae (fun t=>⟨?_,okg⟩) (fun t=> ?_)⟩
   ·rw [not_eq_true'] at t;rw [<-hv]; unfold iM; rw [t]; simp
   rw [not_eq_false'] at t;refine ⟨_,pM _ _,_,p3.l1,(uu _ _).mono ?_⟩;rintro _ g3 ⟨rfl,eg⟩;obtain rfl:g2=g3:=eg.symm;refine ⟨_,rfl,ae (fun t2=>⟨?_,okg⟩) (fun t2=> ?_)⟩
   ·rw [not_eq_true'] at t2;rw [<-hv]; unfold iM; rw [t2]; simp
   rw [not_eq_false'] at t2;refine ⟨_,eW _ _,_,p3.l3,ae (fun t3=>⟨?_,okg⟩) (fun t3=> ?_)⟩
   ·have t3:=dT t3;rw [<-hv]; unfold iM; rw [decide_eq_false (show ¬ 0<=q.t by omega)]; simp
   have t3:=dF t3;refine ⟨_,eW _ _,_,p3.l3,ae (fun t4=>⟨?_,okg⟩) (fun t4=> ?_)⟩
   ·have t4:=dT t4;rw [<-hv]; unfold iM; rw [decide_eq_false (show ¬ q.t < n by omega)]; simp
   have t4:=dF t4;refine ⟨_,gJ _,_,mbg.l0,_,wt _ _,_,p3.l2,(jE M.kind q.w lq (tb.ok okg) okg.wf).mono ?_⟩;rintro _ g4 ⟨rfl,o4⟩;refine ⟨_,rfl,ae (fun t5=>⟨?_,okg.trans o4⟩) (fun t5=> ?_)⟩
   ·rw [not_eq_true'] at t5;rw [<-hv]; unfold iM; rw [t5]; simp
   rw [not_eq_false'] at t5;have hq1:iM M.kind n q=true:=by
    unfold iM; rw [t,t2,t5,decide_eq_true (show 0<=q.t by omega),decide_eq_true (show q.t < n by omega)]; rfl
   rw [hq1,Bool.true_and] at hv;rw [aH (i:=j) (n:=m) (by omega) (by omega)];exact cA (mz2 - 1) (by omega) ⟨by omega,by omega,mbg.ok o4,okg.trans o4,(ar.ok p2).ok o4,hv⟩
  ·have g1:=dF g1;obtain rfl:m=j:=by omega
   rw [drop_eq_nil_of_le (by omega)] at hv;rw [aH hi (by omega)];exact iL (n - (i+1)) (by omega) ⟨by omega,rfl,h0,h1,mb,ok,by simpa using hv⟩)
theorem lR {h:Heap}(tb:Tab h)(w:Wf h){M:Mach}(sm:Small M){a:Option Addr}{n c:Nat}(r:StRow h (.slice a n c) M.states):FW SS 10 [.agg ⟨aQ M a n c⟩] h (fun v h'=>v = .bool (aN M)/\Ok h h'):=by
 obtain ⟨mb,ok⟩:=ef w r;refine Fq (aQ M a n c) h _ ⟨_,gi M a n c,?_⟩;have hl:=mb.len;have hn:n<=300:=by rw [hl]; exact sm.sts
 generalize h.push (Bm M a n c)=g at *;refine ⟨_,bA _,_,_,_,mb.l3,_,gJ _,_,mb.l0,ae (fun t1=>⟨?_,ok⟩) (fun t1=> ?_)⟩
 ·have t1:=dT t1;unfold aN; rw [decide_eq_false (show ¬ 1<=M.kind by omega)]; simp
 have t1:=dF t1;refine ⟨_,gJ _,_,mb.l0,ae (fun t2=>⟨?_,ok⟩) (fun t2=>ae (fun t3=>⟨?_,ok⟩) (fun t3=>ae (fun t4=>⟨?_,ok⟩) (fun t4=> ?_)))⟩
 ·have t2:=dT t2;unfold aN; rw [decide_eq_false (show ¬ M.kind<=3 by omega)]; simp
 ·have t3:=dT t3;unfold aN; rw [decide_eq_false (show ¬ 1<=M.states.length by omega)]; simp
 ·have t4:=dT t4;omega
 have t2:=dF t2;have t3:=dF t3;refine ⟨_,gx _,_,mb.l1,ae (fun t5=>⟨?_,ok⟩) (fun t5=> ?_)⟩
 ·have t5:=dT t5;unfold aN; rw [decide_eq_false (show ¬ 0<=M.start by omega)]; simp
 have t5:=dF t5;refine ⟨_,gx _,_,mb.l1,ae (fun t6=>⟨?_,ok⟩) (fun t6=> ?_)⟩
 ·have t6:=dT t6;unfold aN; rw [decide_eq_false (show ¬ M.start < M.states.length by omega)]; simp
 have t6:=dF t6;refine ⟨_,gJ _,_,mb.l0,_,jM _,_,mb.l2,(jE M.kind M.lead (le_trans sm.lead (by decide)) (tb.ok ok) ok.wf).mono ?_⟩;rintro _ g2 ⟨rfl,o2⟩;have ok2:=ok.trans o2;have mb2:=mb.ok o2;refine ⟨_,rfl,ae (fun t7=>⟨?_,ok2⟩) (fun t7=> ?_)⟩
 ·rw [not_eq_true'] at t7;unfold aN; rw [t7]; simp
 rw [not_eq_false'] at t7;have hV:aN M=gL M.kind n 0 M.states:=by
  unfold aN;rw [t7,decide_eq_true (show 1<=M.kind by omega),decide_eq_true (show M.kind<=3 by omega),decide_eq_true (show 1<=M.states.length by omega),decide_eq_true (show M.states.length<=3000 by omega),decide_eq_true (show 0<=M.start by omega),decide_eq_true (show M.start < M.states.length by omega),hl];rfl
 obtain ⟨V,hVd⟩: ∃ V,V=gL M.kind n 0 M.states:=⟨_,rfl⟩
 rw [hV,<-hVd];refine ⟨_,bA _,_,_,_,mb2.l3,?_⟩;refine oJ (aQ M a n c) h.next a n c (M6 h h.next M a n c V) (bQ h V) (fun mz i acc=> ?_) n (i:=0) (acc:=0) ⟨by omega,rfl,by omega,by omega,mb2,ok2,hVd.symm⟩;intros; rename_i gg hi;obtain ⟨f1,f2,f3,f4,mb3,ok3,f5⟩:=hi;refine ae (fun q1=> ?_) (fun q1=> ?_)
 ·have q1:=dT q1;obtain ⟨s,hs⟩: ∃ s,M.states[i]?=some s:=⟨_,gE (by omega)⟩
  obtain ⟨b,o,x,y,z,e1,e2,e3,e4,ar⟩:=mb3.row.at_ hs;obtain ⟨l1,l2,l3⟩:=gZ sm hs;have hy:=ar.len;rw [dI hs] at f5;unfold gL at f5;obtain ⟨u,p1,p2,p3⟩:=pe ok3.wf s.f x y z;refine ⟨_,e1,_,e2,_,rJ,u,p1,?_⟩;have okg:=ok3.trans p2;have mbg:=mb3.ok p2;have arg:=ar.ok p2;generalize u.app (gg.push uh)=g3 at *;have hw:wrap .i64 (acc+(y:Int))=acc+(s.arcs.length:Int):=by rw [hy,aq (by omega) (by omega)]
  refine ⟨_,bW _ _,_,_,_,p3.l1,?_⟩;dsimp only;rw [hw];refine ae (fun q2=>⟨?_,okg⟩) (fun q2=> ?_)
  ·have q2:=dT q2;rw [<-f5,decide_eq_false (show ¬ acc+(s.arcs.length:Int)<=30000 by omega)]; simp
  have q2:=dF q2;rw [decide_eq_true (show acc+(s.arcs.length:Int)<=30000 by omega),Bool.true_and] at f5;refine ⟨_,iG _ _,_,p3.l0,ae (fun q3=> ?_) (fun q3=> ?_)⟩
  ·refine ⟨_,gJ _,_,mbg.l0,_,iG _ _,_,p3.l0,(jE M.kind s.f l2 (tb.ok okg) okg.wf).mono ?_⟩;rintro _ g4 ⟨rfl,o4⟩;have q3:(s.f == [])=false:=by simpa using q3
   rw [q3,Bool.false_or] at f5;refine ⟨_,rfl,ae (fun q4=>⟨?_,okg.trans o4⟩) (fun q4=> ?_)⟩
   ·rw [not_eq_true'] at q4;rw [<-f5,q4]; simp
   rw [not_eq_false'] at q4;rw [q4,Bool.true_and] at f5;refine ⟨_,bW _ _,_,_,_,(p3.ok o4).l1,?_⟩;exact yr w tb sm _ hs (by omega) (by omega) (by omega) [] mz f2 y (j:=0) ⟨by omega,rfl,mbg.ok o4,okg.trans o4,arg.ok o4,by rw [drop_zero]; exact f5⟩
  ·have q3:(s.f == [])=true:=by simpa using q3
   rw [q3,Bool.true_or,Bool.true_and] at f5;refine ⟨_,bW _ _,_,_,_,p3.l1,?_⟩;exact yr w tb sm _ hs (by omega) (by omega) (by omega) [] mz f2 y (j:=0) ⟨by omega,rfl,mbg,okg,arg,by rw [drop_zero]; exact f5⟩
 ·have q1:=dF q1;refine ⟨?_,ok3⟩;rw [drop_eq_nil_of_le (by omega)] at f5;rw [<-f5]; rfl
end
end
noncomputable def Lh:FD:=cB Tryz.f39 []
theorem JF (qv:LV)(h:Heap)(Q:VH)(hx:xN (dY SS.P 39 (.agg ⟨qv⟩)) h fun B1 g2=>xP (af SS.P 39 (pA (h.next)) 0) fun p3=>xI .i64 (ah SS.P 3 g2 (.pointer (some p3))) fun n4=>xP (af SS.P 39 (pA (h.next)) 1) fun p5=>xI .i64 (ah SS.P 3 g2 (.pointer (some p5))) fun n6=>Q (.bool (((n4:Int) == n6))) g2):FW SS 39 [(.agg ⟨qv⟩)] h Q:=cE Lh Tryz.func39 (aj hx)
noncomputable def Ie:FD:=cB Tryz.f40 []
theorem Fp (qv:LV)(h:Heap)(Q:VH)(hx:xN (dY SS.P 39 (.agg ⟨qv⟩)) h fun B1 g2=>xP (af SS.P 39 (pA (h.next)) 0) fun p3=>xI .i64 (ah SS.P 3 g2 (.pointer (some p3))) fun n4=>aB (((n4:Int) != 0)) (Q (.bool true) g2) (xP (af SS.P 39 (pA (h.next)) 1) fun p5=>xI .i64 (ah SS.P 3 g2 (.pointer (some p5))) fun n6=>Q (.bool (((n6:Int) != 0))) g2)):FW SS 40 [(.agg ⟨qv⟩)] h Q:=cE Ie Tryz.func40 (aj hx)
noncomputable def LG:FD:=cB Tryz.f60 []
theorem Kr (qv:LV)(k:Nat)(h:Heap)(Q:VH)(hx:xN (dY SS.P 39 (.agg ⟨qv⟩)) h fun B1 g2=>xF (ah SS.P 44 g2 (pA k)) fun g3 a4 c5=>xA (ah SS.P 39 g2 (pA (h.next))) fun c6=>aB (Nat.blt g3 YB) (FW SS g3 (a4++[(.agg ⟨c6⟩)]++c5) g2 fun v7 h8=>yB v7 fun b9=>Q (.bool (!b9)) h8) False):FW SS 60 [(.agg ⟨qv⟩),(pA k)] h Q:=cE LG Tryz.func60 (aj hx)
noncomputable def fu:FD:=cB Tryz.f78 [([1,0,1,0,0],[0,1,7,8])]
abbrev gG (b:OA)(m d k:Nat)(j:Nat):LV:=[(.slice b m d),(.func (.func 60) ⟨[]⟩ ⟨[(pA k)]⟩),(iA m),(iA j)]
theorem BE (b:OA)(m d k:Nat)(h:Heap)(Q:VH)(hx:LL SS fu [1,0,1,0,0] [(.slice b m d),(.func (.func 60) ⟨[]⟩ ⟨[(pA k)]⟩),(iA m),(.int .i64 0)] h (KK SS fu [1,0,1,0] [] (EE SS fu Q))):FW SS 78 [(.slice b m d),(.func (.func 60) ⟨[]⟩ ⟨[(pA k)]⟩)] h Q:=cE fu Tryz.func78 (aj hx)
theorem ni (b:OA)(m d k:Nat)  (Inv:Nat->Nat->Heap->Prop) (Q:VH) (step: ∀ (mz:Nat)(j:Nat)(zz:Nat->Value)(h:Heap),Inv mz j h->aB (decide (((j:Int):Int) < (m:Int))) (xP (ag SS.P 35 (.slice b m d) (iA j)) fun p1=>xA (ah SS.P 39 h (.pointer (some p1))) fun c2=>FW SS 60 [(.agg ⟨c2⟩),(pA k)] h fun v3 h4=>yB v3 fun b5=>aB b5 (Q (iA j) h4) (aF (gM (gG b m d k) Inv) mz [(.slice b m d),(.func (.func 60) ⟨[]⟩ ⟨[(pA k)]⟩),(iA m),(.int .i64 (wrap .i64 ((j:Int)+1)))] h4)) (Q (.int .i64 (-1)) h)) (mz:Nat) {j:Nat} {h:Heap} (hi:Inv mz j h):LL SS fu [1,0,1,0,0] (gG b m d k j) h (KK SS fu [1,0,1,0] [] (EE SS fu Q)):=
 cQ (gG b m d k) Inv (fun mz j zz h hi=>aj (step mz j zz h hi)) mz hi
noncomputable def Fk:FD:=cB Tryz.f59 []
theorem Cn (b:OA)(m d k:Nat)(h:Heap)(Q:VH)(hx:FW SS 78 [(.slice b m d),(.func (.func 60) ⟨[]⟩ ⟨[(pA k)]⟩)] h fun v1 h2=>yI .i64 v1 fun n3=>Q (.bool (decide ((n3:Int)>=0))) h2):FW SS 59 [(.slice b m d),(.func (.func 60) ⟨[]⟩ ⟨[(pA k)]⟩)] h Q:=cE Fk Tryz.func59 (aj hx)
noncomputable def nj:FD:=cB Tryz.f38 [([1,1,0,1,0,0],[2,3,4,11,12,13])]
abbrev gY (k k2:Nat)(a:OA)(n c:Nat)(i:Nat):LV:=[(pA k),(pA k2),(.bool false),(.slice a n c),(iA n),(iA i)]
theorem J8 (mv:LV)(f:Nat)(h:Heap)(Q:VH)(hx:xN (dY SS.P 24 (.agg ⟨mv⟩)) h fun B1 g2=>xN (dY SS.P 44 (.func (.func f) ⟨[]⟩ ⟨[]⟩)) g2 fun B3 g4=>xA (ah SS.P 24 g4 (pA (h.next))) fun c5=>FW SS 10 [(.agg ⟨c5⟩)] g4 fun v6 h7=>yB v6 fun b8=>aB (!b8) (Q (.bool false) h7) (xP (af SS.P 24 (pA (h.next)) 3) fun p9=>xL (ah SS.P 22 h7 (.pointer (some p9))) fun a10 n11 c12=>LL SS nj [1,1,0,1,0,0] (gY (h.next) (g2.next) a10 n11 c12 0) h7 (KK SS nj [1,1,0,1,0] [] (EE SS nj Q)))):FW SS 38 [(.agg ⟨mv⟩),(.func (.func f) ⟨[]⟩ ⟨[]⟩)] h Q:=cE nj Tryz.func38 (aj hx)
theorem qV (mv:LV)(f:Nat)(k k2:Nat)(a:OA)(n c:Nat)(Inv:Nat->Nat->Heap->Prop)(Q:VH)(step: ∀ (mz:Nat) (i:Nat) (zz:Nat->Value) (h:Heap),Inv mz i h->aB (decide (((i:Int):Int) < (n:Int))) (xP (ag SS.P 22 (.slice a n c) (iA i)) fun p13=>xA (ah SS.P 37 h (.pointer (some p13))) fun c14=>xN (aD SS.P 37) h fun B15 g16=>xU (ai SS.P 37 (pA (h.next)) (.agg ⟨c14⟩) g16) g16 fun u17 g18=>xP (af SS.P 37 (pA (h.next)) 1) fun p19=>xL (ah SS.P 35 g18 (.pointer (some p19))) fun a20 n21 c22=>FW SS 59 [(.slice a20 n21 c22),(.func (.func 60) ⟨[]⟩ ⟨[(pA k2)]⟩)] g18 fun v23 h24=>yB v23 fun b25=>aB b25 (Q (.bool false) h24) (aF (gM (gY k k2 a n c) Inv) mz [(pA k),(pA k2),(.bool false),(.slice a n c),(iA n),(.int .i64 (wrap .i64 ((i:Int)+1)))] h24)) (Q (.bool true) h))(mz:Nat){i:Nat}{h:Heap}(hi:Inv mz i h):LL SS nj [1,1,0,1,0,0] (gY k k2 a n c i) h (KK SS nj [1,1,0,1,0] [] (EE SS nj Q)):=
 cQ (gY k k2 a n c) Inv (fun mz i zz h hi=>aj (step mz i zz h hi)) mz hi
noncomputable def K8:FD:=cB Tryz.f12 []
theorem JI (mv:LV)(h:Heap)(Q:VH)(hx:xN (dY SS.P 24 (.agg ⟨mv⟩)) h fun B1 g2=>xA (ah SS.P 24 g2 (pA (h.next))) fun c3=>FW SS 38 [(.agg ⟨c3⟩),(.func (.func 39) ⟨[]⟩ ⟨[]⟩)] g2 fun v4 h5=>yB v4 fun b6=>Q (.bool b6) h5):FW SS 12 [(.agg ⟨mv⟩)] h Q:=cE K8 Tryz.func12 (aj hx)
noncomputable def Gj:FD:=cB Tryz.f14 []
theorem EZ (mv:LV)(h:Heap)(Q:VH)(hx:xN (dY SS.P 24 (.agg ⟨mv⟩)) h fun B1 g2=>xA (ah SS.P 24 g2 (pA (h.next))) fun c3=>FW SS 38 [(.agg ⟨c3⟩),(.func (.func 40) ⟨[]⟩ ⟨[]⟩)] g2 fun v4 h5=>yB v4 fun b6=>Q (.bool b6) h5):FW SS 14 [(.agg ⟨mv⟩)] h Q:=cE Gj Tryz.func14 (aj hx)
noncomputable def cm:FD:=cB Tryz.f20 [([1,1,0,1,0,0],[1,2,11,12,13]),([1,1,0,1,0,0,1,1,0,0,1,1,0,0],[1,2,4,11,12,13,18,19,20])]
abbrev dg (k:Nat)(a:OA)(n c:Nat)(i:Nat)(g:Int):LV:=[(pA k),(.int .i64 g),(.slice a n c),(iA n),(iA i)]
abbrev ft (k:Nat)(a:OA)(n c k2:Nat)(b:OA)(m d i:Nat)(j:Nat)(g:Int):LV:=[(pA k),(.int .i64 g),(pA k2),(.slice a n c),(iA n),(iA i),(.slice b m d),(iA m),(iA j)]
theorem EP (mv:LV)(h:Heap)(Q:VH)(hx:xN (dY SS.P 24 (.agg ⟨mv⟩)) h fun B1 g2=>xA (ah SS.P 24 g2 (pA (h.next))) fun c3=>FW SS 10 [(.agg ⟨c3⟩)] g2 fun v4 h5=>yB v4 fun b6=>aB (!b6) (Q (.int .i64 0) h5) (xP (af SS.P 24 (pA (h.next)) 3) fun p7=>xL (ah SS.P 22 h5 (.pointer (some p7))) fun a8 n9 c10=>LL SS cm [1,1,0,1,0,0] (dg (h.next) a8 n9 c10 0 0) h5 (KK SS cm [1,1,0,1,0] [] (EE SS cm Q)))):FW SS 20 [(.agg ⟨mv⟩)] h Q:=cE cm Tryz.func20 (aj hx)
theorem oN (mv:LV)(k:Nat)(a:OA)(n c:Nat)(Inv:Nat->Nat->Int->Heap->Prop)(Q:VH)(step: ∀ (mz:Nat) (i:Nat) (g:Int) (zz:Nat->Value) (h:Heap),Inv mz i g h->aB (decide (((i:Int):Int) < (n:Int))) (xP (ag SS.P 22 (.slice a n c) (iA i)) fun p11=>xA (ah SS.P 37 h (.pointer (some p11))) fun c12=>xN (aD SS.P 37) h fun B13 g14=>xU (ai SS.P 37 (pA (h.next)) (.agg ⟨c12⟩) g14) g14 fun u15 g16=>xP (af SS.P 37 (pA (h.next)) 1) fun p17=>xL (ah SS.P 35 g16 (.pointer (some p17))) fun a18 n19 c20=>LL SS cm [1,1,0,1,0,0,1,1,0,0,1,1,0,0] (ft k a n c (h.next) a18 n19 c20 i 0 g) g16 (KK SS cm [1,1,0,0,1,1,0] [1,1,0,1,0,0] (RR cm [1,1,0,1,0,0] (sy (dg k a n c) Inv) mz (KK SS cm [1,1,0,1,0] [] (EE SS cm Q))))) (Q (.int .i64 g) h))(mz:Nat){i:Nat}{g:Int}{h:Heap}(hi:Inv mz i g h):LL SS cm [1,1,0,1,0,0] (dg k a n c i g) h (KK SS cm [1,1,0,1,0] [] (EE SS cm Q)):=
 mT (dg k a n c) Inv (fun mz i g zz h hi=>aj (step mz i g zz h hi)) mz hi
theorem oT (mv:LV)(k:Nat)(a:OA)(n c k2:Nat)(b:OA)(m d:Nat)(Inv:Nat->Nat->Int->Heap->Prop)(mz i:Nat)(Inv2:Nat->Nat->Int->Heap->Prop)(Q:VH)(step: ∀ (mz2:Nat) (j:Nat) (g:Int) (zz:Nat->Value) (h:Heap),Inv2 mz2 j g h->aB (decide (((j:Int):Int) < (m:Int))) (xP (ag SS.P 35 (.slice b m d) (iA j)) fun p21=>xA (ah SS.P 39 h (.pointer (some p21))) fun c22=>xN (aD SS.P 39) h fun B23 g24=>xU (ai SS.P 39 (pA (h.next)) (.agg ⟨c22⟩) g24) g24 fun u25 g26=>xP (af SS.P 39 (pA (h.next)) 0) fun p27=>xI .i64 (ah SS.P 3 g26 (.pointer (some p27))) fun n28=>xP (af SS.P 39 (pA (h.next)) 1) fun p29=>xI .i64 (ah SS.P 3 g26 (.pointer (some p29))) fun n30=>xI .i64 (jl true [(.int .i64 g),(.int .i64 n28),(.int .i64 n30)]) fun n31=>aF (sy (ft k a n c k2 b m d i) Inv2) mz2 [(pA k),(.int .i64 n31),(pA k2),(.slice a n c),(iA n),(iA i),(.slice b m d),(iA m),(.int .i64 (wrap .i64 ((j:Int)+1)))] g26) (aF (sy (dg k a n c) Inv) mz [(pA k),(.int .i64 g),(.slice a n c),(iA n),(.int .i64 (wrap .i64 ((i:Int)+1)))] h))(mz2:Nat){j:Nat}{g:Int}{h:Heap}(hi:Inv2 mz2 j g h):LL SS cm [1,1,0,1,0,0,1,1,0,0,1,1,0,0] (ft k a n c k2 b m d i j g) h (KK SS cm [1,1,0,0,1,1,0] [1,1,0,1,0,0] (RR cm [1,1,0,1,0,0] (sy (dg k a n c) Inv) mz (KK SS cm [1,1,0,1,0] [] (EE SS cm Q)))):=
 mT (ft k a n c k2 b m d i) Inv2 (fun mz2 j g zz h hi=>aj (step mz2 j g zz h hi)) mz2 hi
section
def DW (t:MArc->Bool)(l:List MSt):Bool:=l.all fun s=>s.arcs.all t
def MS (q:MArc):Bool:=q.i == q.o
def wK (q:MArc):Bool:=q.i != 0 || q.o != 0
def BU (f:Nat)(t:MArc->Bool):Prop:= ∀ (q:MArc)(g:Heap),Wf g->FW SS f [.agg ⟨aO q⟩] g (fun v g'=>v = .bool (t q)/\Ok g g')
def Bq (q:MArc):Blk:= .cells (aO q) 39 0 true
theorem zg (q:MArc):dY SS.P 39 (.agg ⟨aO q⟩)=some (Bq q,gb):=by kernel_rfl
theorem JP:BU 39 MS:=fun q g w=>by
 have b:AB (g.push (Bq q)) g.next q:=ay g _;exact JF _ g _ ⟨_,zg q,_,nq _ _,_,b.l0,_,pM _ _,_,b.l1,rfl,(Ok.refl w).push _⟩
theorem Ef:BU 40 wK:=fun q g w=>by
 have b:AB (g.push (Bq q)) g.next q:=ay g _;refine Fp _ g _ ⟨_,zg q,_,nq _ _,_,b.l0,ae (fun t=>⟨?_,(Ok.refl w).push _⟩) (fun t=>⟨_,pM _ _,_,b.l1,?_,(Ok.refl w).push _⟩)⟩
 ·unfold wK; rw [t]; rfl
 ·unfold wK; rw [t]; rfl
noncomputable def Mq:TypeDesc:=(SS.P.underlying 44).getD .bool
theorem NR:SS.P.underlying 44=some Mq:=by kernel_rfl
theorem NU:Go.Ab.isAgg SS.P 44=false:=by kernel_rfl
def FnB (g:Heap)(k f:Nat):Prop:=g.get k=some (.cells [tJ f] 44 0 true)
theorem FnB.ok {g g':Heap}{k f:Nat}(x:FnB g k f)(o:Ok g g'):FnB g' k f:=o.ext _ _ x
section
variable {f:Nat} {t:MArc->Bool} (hf:Nat.blt f YB=true) (ht:BU f t)
include hf ht
theorem JV (q:MArc){k:Nat}{g:Heap}(w:Wf g)(b:FnB g k f):FW SS 60 [.agg ⟨aO q⟩,.pointer (some ⟨k,0,none⟩)] g (fun v g'=>v = .bool (!t q)/\Ok g g'):=by
 have o:=(Ok.refl w).push (Bq q);have hk:=ay g (Bq q);refine Kr _ k g _ ⟨_,zg q,f,[],[],cZ NR NU (b.ok o) (by simp),_,gj He Id uP hk (by simp [aO]),?_⟩;refine uW (K:=fun v g'=>(match v with | .bool x=>Value.bool (!x) = .bool (!t q) | _=>False)/\Ok g g') hf ((ht q _ o.wf).mono ?_);rintro _ g2 ⟨rfl,o2⟩;exact ⟨_,rfl,rfl,o.trans o2⟩
theorem Ar {k:Nat}{g:Heap}(w:Wf g)(bx:FnB g k f){b:Option Addr}{m d:Nat}{l:List MArc}(ar:ArcRow g (.slice b m d) l)(hl:l.length<=2000):
  FW SS 78 [.slice b m d,.func (.func 60) ⟨[]⟩ ⟨[.pointer (some ⟨k,0,none⟩)]⟩] g (fun v g'=> ∃ n:Int,v = .int .i64 n/\decide (n>=0)=(!l.all t)/\Ok g g'):=by
 have hm:=ar.len;refine BE b m d k g _ (ni b m d k (fun mz j g'=>j<=m/\mz=m - j/\Ok g g'/\(l.drop j).all t=l.all t) _ (fun mz j=> ?_) m (j:=0) ⟨by omega,rfl,Ok.refl w,rfl⟩);intros; rename_i g' hi;obtain ⟨h1,h2,ok,h3⟩:=hi;refine ae (fun q1=> ?_) (fun q1=> ?_)
 ·have q1:=dT q1;obtain ⟨q,hq⟩: ∃ q,l[j]?=some q:=⟨_,gE (by omega)⟩
  obtain ⟨bb,o,e1,e2,e3⟩:=(ar.ok ok).at_ hq;rw [dI hq,all_cons] at h3;refine ⟨_,e1,_,e2,(JV hf ht q ok.wf (bx.ok ok)).mono ?_⟩;rintro _ g2 ⟨rfl,o2⟩;refine ⟨_,rfl,ae (fun t1=>⟨_,rfl,?_,ok.trans o2⟩) (fun t1=> ?_)⟩
  ·rw [not_eq_true'] at t1;rw [<-h3,t1]; simp
  ·rw [not_eq_false'] at t1;rw [t1,Bool.true_and] at h3;rw [aH (i:=j) (n:=m) (by omega) (by omega)];exact cA (mz - 1) (by omega) ⟨by omega,by omega,ok.trans o2,h3⟩
 ·have q1:=dF q1;refine ⟨_,rfl,?_,ok⟩;rw [drop_eq_nil_of_le (by omega)] at h3;rw [<-h3]; rfl
theorem AE {k:Nat}{g:Heap}(w:Wf g)(bx:FnB g k f){b:Option Addr}{m d:Nat}{l:List MArc}(ar:ArcRow g (.slice b m d) l)(hl:l.length<=2000):
  FW SS 59 [.slice b m d,.func (.func 60) ⟨[]⟩ ⟨[.pointer (some ⟨k,0,none⟩)]⟩] g (fun v g'=>v = .bool (!l.all t)/\Ok g g'):=by
 refine Cn b m d k g _ ((Ar hf ht w bx ar hl).mono ?_);rintro _ g2 ⟨n,rfl,h1,o⟩;exact ⟨_,rfl,by rw [h1],o⟩
theorem CH {h:Heap}(tb:Tab h)(w:Wf h){M:Mach}(sm:Small M){a:Option Addr}{n c:Nat}(r:StRow h (.slice a n c) M.states):FW SS 38 [.agg ⟨aQ M a n c⟩,tJ f] h (fun v h'=>v = .bool (aN M && DW t M.states)/\Ok h h'):=by
 obtain ⟨mb0,ok0⟩:=ef w r;refine J8 (aQ M a n c) f h _ ⟨_,gi M a n c,.cells [tJ f] 44 0 true,by kernel_rfl,?_⟩;generalize h.push (Bm M a n c)=g0 at *;have o1:=(Ok.refl ok0.wf).push (.cells [tJ f] 44 0 true);have bx:FnB (g0.push (.cells [tJ f] 44 0 true)) g0.next f:=ay g0 _;have mb:=mb0.ok o1;have ok:=ok0.trans o1;generalize g0.push (.cells [tJ f] 44 0 true)=g at *;refine ⟨_,mb.all,(lR (tb.ok ok) ok.wf sm mb.row).mono ?_⟩;rintro _ g2 ⟨rfl,o2⟩;have ok2:=ok.trans o2;have mb2:=mb.ok o2;have bx2:=bx.ok o2;have hn:n<=300:=by rw [mb.len]; exact sm.sts
 refine ⟨_,rfl,ae (fun q=>⟨?_,ok2⟩) (fun q=> ?_)⟩
 ·rw [not_eq_true'] at q;rw [q]; rfl
 rw [not_eq_false'] at q;rw [q,Bool.true_and];refine ⟨_,bA _,_,_,_,mb2.l3,?_⟩;obtain ⟨V,hV⟩: ∃ V,V=DW t M.states:=⟨_,rfl⟩
 rw [<-hV];refine qV (aQ M a n c) f h.next g0.next a n c (fun mz i g'=>i<=n/\mz=n - i/\MB g' h.next M a n c/\FnB g' g0.next f/\Ok h g'/\DW t (M.states.drop i)=V) (bQ h V) (fun mz i=> ?_) n (i:=0) ⟨by omega,rfl,mb2,bx2,ok2,hV.symm⟩;intros; rename_i gg hi;obtain ⟨f1,f2,mb3,bx3,ok3,f5⟩:=hi;have hl:=mb3.len;refine ae (fun q1=> ?_) (fun q1=> ?_)
 ·have q1:=dT q1;obtain ⟨s,hs⟩: ∃ s,M.states[i]?=some s:=⟨_,gE (by omega)⟩
  obtain ⟨b,o,x,y,z,e1,e2,e3,e4,ar⟩:=mb3.row.at_ hs;obtain ⟨l1,l2,l3⟩:=gZ sm hs;rw [dI hs] at f5;unfold DW at f5;rw [all_cons] at f5;obtain ⟨u,p1,p2,p3⟩:=pe ok3.wf s.f x y z;refine ⟨_,e1,_,e2,_,rJ,u,p1,_,bW _ _,_,_,_,p3.l1,?_⟩;have okg:=ok3.trans p2;refine (AE hf ht okg.wf (bx3.ok p2) (ar.ok p2) l1).mono ?_;rintro _ g4 ⟨rfl,o4⟩;refine ⟨_,rfl,ae (fun q2=>⟨?_,okg.trans o4⟩) (fun q2=> ?_)⟩
  ·rw [not_eq_true'] at q2;rw [<-f5,q2]; rfl
  ·rw [not_eq_false'] at q2;rw [q2,Bool.true_and] at f5;rw [aH (i:=i) (n:=n) (by omega) (by omega)];exact cA (mz - 1) (by omega) ⟨by omega,by omega,(mb3.ok p2).ok o4,(bx3.ok p2).ok o4,okg.trans o4,f5⟩
 ·have q1:=dF q1;refine ⟨?_,ok3⟩;rw [drop_eq_nil_of_le (by omega)] at f5;rw [<-f5]; rfl
end
def Lo (M:Mach):Bool:=aN M && DW MS M.states
def FP (M:Mach):Bool:=aN M && DW wK M.states
theorem I8 {h:Heap}(tb:Tab h)(w:Wf h){M:Mach}(sm:Small M){a:Option Addr}{n c:Nat}(r:StRow h (.slice a n c) M.states):FW SS 12 [.agg ⟨aQ M a n c⟩] h (fun v h'=>v = .bool (Lo M)/\Ok h h'):=by
 obtain ⟨mb,ok⟩:=ef w r;refine JI _ h _ ⟨_,gi M a n c,_,mb.all,(CH (by decide +kernel) JP (tb.ok ok) ok.wf sm mb.row).mono ?_⟩;rintro _ g ⟨rfl,o⟩;exact ⟨_,rfl,rfl,ok.trans o⟩
theorem EM {h:Heap}(tb:Tab h)(w:Wf h){M:Mach}(sm:Small M){a:Option Addr}{n c:Nat}(r:StRow h (.slice a n c) M.states):FW SS 14 [.agg ⟨aQ M a n c⟩] h (fun v h'=>v = .bool (FP M)/\Ok h h'):=by
 obtain ⟨mb,ok⟩:=ef w r;refine EZ _ h _ ⟨_,gi M a n c,_,mb.all,(CH (by decide +kernel) Ef (tb.ok ok) ok.wf sm mb.row).mono ?_⟩;rintro _ g ⟨rfl,o⟩;exact ⟨_,rfl,rfl,ok.trans o⟩
end
section
def MX (a b:Int):Int:=if b > a then b else a
theorem M4 (a b c:Int):jl true [.int .i64 a,.int .i64 b,.int .i64 c]=some (.int .i64 (MX (MX a b) c)):=by simp [jl,MX]
def OI (g:Int)(l:List MArc):Int:=l.foldl (fun g q=>MX (MX g q.i) q.o) g
def Np (g:Int)(l:List MSt):Int:=l.foldl (fun g s=>OI g s.arcs) g
def tC (M:Mach):Int:=if aN M then Np 0 M.states else 0
section
variable {h:Heap} {k:Nat} {M:Mach} {a:Option Addr} {n c:Nat}
def iQ (h:Heap)(V:Int):VH:=fun v h'=>v = .int .i64 V/\Ok h h'
def Mv (h:Heap)(k:Nat)(M:Mach)(a:Option Addr)(n c:Nat)(V:Int)(mz i:Nat)(x:Int)(g:Heap):Prop:=i<=n/\mz=n - i/\MB g k M a n c/\Ok h g/\Np x (M.states.drop i)=V
def OY (h:Heap)(k:Nat)(M:Mach)(a:Option Addr)(n c:Nat)(s:MSt)(i:Nat)(V:Int)(mz2 j:Nat)(x:Int)(g:Heap):Prop:=j<=s.arcs.length/\mz2=s.arcs.length - j/\MB g k M a n c/\Ok h g/\Np (OI x (s.arcs.drop j)) (M.states.drop (i+1))=V
set_option linter.defProp false in
def GQ (w:Wf h)(sm:Small M)(V:Int){s:MSt}{b:Option Addr}{m d i k2:Nat}(hs:M.states[i]?=some s)(hi:i < n)(mv:List Value)(mz:Nat)(hmz:mz=n - i):=
 oT mv k a n c k2 b m d (Mv h k M a n c V) mz i (fun mz2 j x g=>OY h k M a n c s i V mz2 j x g/\ArcRow g (.slice b m d) s.arcs) (iQ h V) (by
  intro mz2 j x; intros; rename_i g hin;obtain ⟨⟨f1,f2,mb,ok,hv⟩,ar⟩:=hin;have hn:n<=300:=by rw [mb.len]; exact sm.sts
  obtain ⟨l1,l2,l3⟩:=gZ sm hs;have hm:=ar.len;refine ae (fun g1=> ?_) (fun g1=> ?_)
  ·have g1:=dT g1;obtain ⟨q,hq⟩: ∃ q,s.arcs[j]?=some q:=⟨_,gE (by omega)⟩
   obtain ⟨bb,o,e1,e2,e3⟩:=ar.at_ hq;rw [dI hq] at hv;obtain ⟨u,p1,p2,p3⟩:=oz ok.wf q;refine ⟨_,e1,_,e2,_,wn,u,p1,_,nq _ _,_,p3.l0,_,pM _ _,_,p3.l1,_,M4 _ _ _,?_⟩;rw [aH (i:=j) (n:=m) (by omega) (by omega)];exact iL (mz2 - 1) (by omega) ⟨⟨by omega,by omega,mb.ok p2,ok.trans p2,hv⟩,ar.ok p2⟩
  ·have g1:=dF g1;rw [drop_eq_nil_of_le (by omega)] at hv;rw [aH hi (by omega)];exact iL (n - (i+1)) (by omega) ⟨by omega,rfl,mb,ok,hv⟩)
theorem DA {h:Heap}(tb:Tab h)(w:Wf h){M:Mach}(sm:Small M){a:Option Addr}{n c:Nat}(r:StRow h (.slice a n c) M.states):FW SS 20 [.agg ⟨aQ M a n c⟩] h (fun v h'=>v = .int .i64 (tC M)/\Ok h h'):=by
 obtain ⟨mb,ok⟩:=ef w r;refine EP (aQ M a n c) h _ ⟨_,gi M a n c,_,mb.all,(lR (tb.ok ok) ok.wf sm mb.row).mono ?_⟩;generalize h.push (Bm M a n c)=g at *;rintro _ g2 ⟨rfl,o2⟩;have ok2:=ok.trans o2;have mb2:=mb.ok o2;have hn:n<=300:=by rw [mb.len]; exact sm.sts
 refine ⟨_,rfl,ae (fun q=>⟨?_,ok2⟩) (fun q=> ?_)⟩
 ·rw [not_eq_true'] at q;unfold tC; rw [q]; rfl
 rw [not_eq_false'] at q;obtain ⟨V,hV⟩: ∃ V,V=Np 0 M.states:=⟨_,rfl⟩
 have:tC M=V:=by unfold tC; rw [if_pos q,hV]
 rw [this];refine ⟨_,bA _,_,_,_,mb2.l3,?_⟩;refine oN (aQ M a n c) h.next a n c (Mv h h.next M a n c V) (iQ h V) (fun mz i x=> ?_) n (i:=0) (g:=0) ⟨by omega,rfl,mb2,ok2,hV.symm⟩;intros; rename_i gg hi;obtain ⟨f1,f2,mb3,ok3,f5⟩:=hi;have hl:=mb3.len;refine ae (fun q1=> ?_) (fun q1=> ?_)
 ·have q1:=dT q1;obtain ⟨s,hs⟩: ∃ s,M.states[i]?=some s:=⟨_,gE (by omega)⟩
  obtain ⟨b,o,x',y,z,e1,e2,e3,e4,ar⟩:=mb3.row.at_ hs;obtain ⟨l1,l2,l3⟩:=gZ sm hs;rw [dI hs] at f5;obtain ⟨u,p1,p2,p3⟩:=pe ok3.wf s.f x' y z;refine ⟨_,e1,_,e2,_,rJ,u,p1,_,bW _ _,_,_,_,p3.l1,?_⟩;have hy:=ar.len;exact GQ w sm V hs (by omega) [] mz f2 y (j:=0) (g:=x) ⟨⟨by omega,by omega,mb3.ok p2,ok3.trans p2,by rw [drop_zero]; exact f5⟩,ar.ok p2⟩
 ·have q1:=dF q1;rw [drop_eq_nil_of_le (by omega)] at f5;exact ⟨by rw [<-f5]; rfl,ok3⟩
end
end
section
theorem fJ (s:MSt)(l:List MSt):fe (s::l)=s.arcs.length+fe l:=by simp [fe]
theorem zn {s:MSt}: ∀ {l:List MSt},s∈l->s.arcs.length<=fe l
 | x::l,h=>by
  rw [fJ];rcases mem_cons.1 h with rfl | h
  ·omega
  ·have:=zn h; omega
theorem CF {B:Nat}: ∀ {l:List MSt},(∀ s∈l,s.arcs.length<=B)->fe l<=l.length*B
 | [],_=>by simp [fe]
 | x::l,h=>by
  rw [fJ,length_cons,add_mul,one_mul];have h1:=h x (mem_cons_self ..);have h2:=CF (l:=l) fun s hs=>h s (mem_cons_of_mem _ hs);omega
def Nm (M:Mach):Prop:= ∀ s∈M.states,s.arcs.length<=281474976710656
section
variable {h:Heap} {k:Nat} {M:Mach} {a:Option Addr} {n c:Nat}
theorem G5 (w:Wf h)(bd:Nm M)(hst:M.states.length<=300)(r:StRow h (.slice a n c) M.states):FW SS 33 [.agg ⟨aQ M a n c⟩] h (fun v h'=>v = .int .i64 (fe M.states:Nat)/\Ok h h'):=by
 obtain ⟨mb,ok⟩:=ef w r;refine Hy (aQ M a n c) h _ ⟨_,gi M a n c,?_⟩;generalize h.push (Bm M a n c)=g at *;have hl:=mb.len;have hB:=CF bd;have hB2:M.states.length*281474976710656<=300*281474976710656:=mul_le_mul_right _ hst;have hS:fe M.states<=300*281474976710656:=le_trans hB hB2;refine pH (aQ M a n c) h.next (fun mz i acc g'=>i<=n/\mz=n - i/\MB g' h.next M a n c/\Ok h g'/\ ∃ ac:Nat,acc=(ac:Int)/\ac+fe (M.states.drop i)=fe M.states) (iQ h (fe M.states:Nat)) (fun mz i acc=> ?_) n (i:=0) (acc:=0) ⟨by omega,rfl,mb,ok,0,rfl,by rw [drop_zero]; omega⟩;intros; rename_i gg hi;obtain ⟨f1,f2,mb3,ok3,ac,rfl,f5⟩:=hi;refine ⟨_,bA _,_,_,_,mb3.l3,ae (fun q1=> ?_) (fun q1=> ?_)⟩
 ·have q1:=dT q1;obtain ⟨s,hs⟩: ∃ s,M.states[i]?=some s:=⟨_,gE (by omega)⟩
  obtain ⟨b,o,x',y,z,e1,e2,e3,e4,ar⟩:=mb3.row.at_ hs;have hy:=ar.len;rw [dI hs,fJ] at f5;refine ⟨_,bA _,_,_,_,mb3.l3,_,e1,_,bW _ _,_,_,_,e4,?_⟩;have hw:wrap .i64 ((ac:Int)+(y:Int))=((ac+y:Nat):Int):=by rw [aq (by omega) (by omega)]; omega
  dsimp only;rw [hw,aH (i:=i) (n:=n) (by omega) (by omega)];exact iL (mz - 1) (by omega) ⟨by omega,by omega,mb3,ok3,_,rfl,by omega⟩
 ·have q1:=dF q1;rw [drop_eq_nil_of_le (by omega)] at f5;refine ⟨?_,ok3⟩;rw [show fe []=0 from rfl,Nat.add_zero] at f5;rw [f5]
def Ov (M:Mach)(i:Nat):Prop:= ∀ i' s,i' < i->M.states[i']?=some s->s.f.length<=900/\ ∀ q∈s.arcs,q.w.length<=900
def lQ (h:Heap)(M:Mach):VH:=fun v h'=> ∃ b:Bool,v = .bool b/\(b=false->Small M)/\Ok h h'
def Nh (h:Heap)(k:Nat)(M:Mach)(a:Option Addr)(n c:Nat)(mz i:Nat)(g:Heap):Prop:=i<=n/\mz=n - i/\MB g k M a n c/\Ok h g/\Ov M i
def OV (h:Heap)(k:Nat)(M:Mach)(a:Option Addr)(n c:Nat)(s:MSt)(i:Nat)(mz2 j:Nat)(g:Heap):Prop:=j<=s.arcs.length/\mz2=s.arcs.length - j/\MB g k M a n c/\Ok h g/\Ov M i/\s.f.length<=900/\ ∀ j' q,j' < j->s.arcs[j']?=some q->q.w.length<=900
set_option linter.defProp false in
def I7 (w:Wf h)(hn:n<=300){s:MSt}{i:Nat}(hs:M.states[i]?=some s)(hsl:s.arcs.length<=2000)(hi:i < n)(mv:List Value)(mz:Nat)(hmz:mz=n - i):=
 pV mv k (Nh h k M a n c) mz i (OV h k M a n c s i) (lQ h M) (by
  intro mz2 j; intros; rename_i g hin;obtain ⟨f1,f2,mb,ok,hv,hf,hw⟩:=hin;obtain ⟨b,o,x',y,z,e1,e2,e3,e4,ar⟩:=mb.row.at_ hs;have hm:=ar.len;refine ⟨_,bA _,_,_,_,mb.l3,_,e1,_,bW _ _,_,_,_,e4,ae (fun g1=> ?_) (fun g1=> ?_)⟩
  ·have g1:=dT g1;obtain ⟨q,hq⟩: ∃ q,s.arcs[j]?=some q:=⟨_,gE (by omega)⟩
   obtain ⟨bb,oo,d1,d2,d3,d4,d5,d6⟩:=ar.at_ hq;refine ⟨_,bA _,_,_,_,mb.l3,_,e1,_,bW _ _,_,_,_,e4,_,d1,_,wt _ _,_,d5,ae (fun g2=>⟨_,rfl,(fun e=>by cases e),ok⟩) (fun g2=> ?_)⟩;have g2:=dF g2;rw [aH (i:=j) (n:=s.arcs.length) (by omega) (by omega)];refine cA (mz2 - 1) (by omega) ⟨by omega,by omega,mb,ok,hv,hf,fun j' q' hj hq'=> ?_⟩;rcases lt_or_ge j' j with hj2 | hj2
   ·exact hw j' q' hj2 hq'
   ·obtain rfl:j'=j:=by omega
    rw [hq] at hq';obtain rfl:=oI hq';omega
  ·have g1:=dF g1;rw [aH hi (by omega)];refine cA (n - (i+1)) (by omega) ⟨by omega,rfl,mb,ok,fun i' s' hi' hs'=> ?_⟩;rcases lt_or_ge i' i with hj2 | hj2
   ·exact hv i' s' hj2 hs'
   ·obtain rfl:i'=i:=by omega
    rw [hs] at hs';obtain rfl:=oI hs';refine ⟨hf,fun q hq=> ?_⟩;obtain ⟨j',hj',rfl⟩:=List.mem_iff_getElem.1 hq;exact hw j' _ (by omega) (gE hj'))
theorem Gx (w:Wf h)(bd:Nm M)(r:StRow h (.slice a n c) M.states):FW SS 8 [.agg ⟨aQ M a n c⟩] h (lQ h M):=by
 obtain ⟨mb,ok⟩:=ef w r;refine Hs (aQ M a n c) h _ ⟨_,gi M a n c,?_⟩;generalize h.push (Bm M a n c)=g at *;have hl:=mb.len;refine ⟨_,bA _,_,_,_,mb.l3,ae (fun q1=>⟨_,rfl,(fun e=>by cases e),ok⟩) (fun q1=> ?_)⟩;have q1:=dF q1;refine ⟨_,mb.all,(G5 ok.wf bd (by omega) mb.row).mono ?_⟩;rintro _ g2 ⟨rfl,o2⟩;have ok2:=ok.trans o2;have mb2:=mb.ok o2;refine ⟨_,rfl,ae (fun q2=>⟨_,rfl,(fun e=>by cases e),ok2⟩) (fun q2=> ?_)⟩;have q2:=dF q2;refine ⟨_,jM _,_,mb2.l2,ae (fun q3=>⟨_,rfl,(fun e=>by cases e),ok2⟩) (fun q3=> ?_)⟩;have q3:=dF q3;have hS: ∀ s∈M.states,s.arcs.length<=2000:=fun s hs=>by have:=zn hs; omega
 refine qm (aQ M a n c) h.next (Nh h h.next M a n c) (lQ h M) (fun mz i=> ?_) n (i:=0) ⟨by omega,rfl,mb2,ok2,fun i' s hi=>by omega⟩;intros; rename_i gg hi;obtain ⟨f1,f2,mb3,ok3,f5⟩:=hi;refine ⟨_,bA _,_,_,_,mb3.l3,ae (fun t1=> ?_) (fun t1=> ?_)⟩
 ·have t1:=dT t1;obtain ⟨s,hs⟩: ∃ s,M.states[i]?=some s:=⟨_,gE (by omega)⟩
  obtain ⟨b,o,x',y,z,e1,e2,e3,e4,ar⟩:=mb3.row.at_ hs;refine ⟨_,bA _,_,_,_,mb3.l3,_,e1,_,iG _ _,_,e3,ae (fun t2=>⟨_,rfl,(fun e=>by cases e),ok3⟩) (fun t2=> ?_)⟩;have t2:=dF t2;exact I7 w (by omega) hs (hS s (List.mem_of_getElem? hs)) (by omega) [] mz f2 s.arcs.length (j:=0) ⟨by omega,by omega,mb3,ok3,f5,by omega,fun j' q hj=>by omega⟩
 ·have t1:=dF t1;have hget: ∀ s∈M.states,s.f.length<=900/\ ∀ q∈s.arcs,q.w.length<=900:=fun s hs=>by
   obtain ⟨i',hi',rfl⟩:=List.mem_iff_getElem.1 hs;exact f5 i' _ (by omega) (gE hi')
  exact ⟨_,rfl,fun _=>⟨by omega,by omega,fun s hs=>(hget s hs).1,hS,fun s hs=>(hget s hs).2,by omega⟩,ok3⟩
end
end
noncomputable def dZ:FD:=cB Tryz.f16 [([1,1,0,1,0,0],[1,2,17,18,19]),([1,1,0,1,0,0,1,1,0,0,1,1,0,1,0,0],[1,2,4,5,17,18,19,25,26,27])]
abbrev eu (k:Nat)(a:OA)(n c:Nat)(i:Nat):LV:=[(pA k),(.bool false),(.slice a n c),(iA n),(iA i)]
abbrev ia (k:Nat)(a:OA)(n c k2 k3:Nat)(b:OA)(m d i:Nat)(j:Nat):LV:=[(pA k),(.bool false),(pA k2),(.map (some k3)),(.slice a n c),(iA n),(iA i),(.slice b m d),(iA m),(iA j)]
theorem I0 (mv:LV)(h:Heap)(Q:VH)(hx:xN (dY SS.P 24 (.agg ⟨mv⟩)) h fun B1 g2=>xA (ah SS.P 24 g2 (pA (h.next))) fun c3=>FW SS 12 [(.agg ⟨c3⟩)] g2 fun v4 h5=>yB v4 fun b6=>aB (!b6) (Q (.bool false) h5) (xA (ah SS.P 24 h5 (pA (h.next))) fun c7=>FW SS 14 [(.agg ⟨c7⟩)] h5 fun v8 h9=>yB v8 fun b10=>aB (!b10) (Q (.bool false) h9) (xP (af SS.P 24 (pA (h.next)) 3) fun p11=>xL (ah SS.P 22 h9 (.pointer (some p11))) fun a12 n13 c14=>LL SS dZ [1,1,0,1,0,0] (eu (h.next) a12 n13 c14 0) h9 (KK SS dZ [1,1,0,1,0] [] (EE SS dZ Q))))):FW SS 16 [(.agg ⟨mv⟩)] h Q:=cE dZ Tryz.func16 (aj hx)
theorem qS (mv:LV)(k:Nat)(a:OA)(n c:Nat)(Inv:Nat->Nat->Heap->Prop)(Q:VH)(step: ∀ (mz:Nat) (i:Nat) (zz:Nat->Value) (h:Heap),Inv mz i h->aB (decide (((i:Int):Int) < (n:Int))) (xP (ag SS.P 22 (.slice a n c) (iA i)) fun p15=>xA (ah SS.P 37 h (.pointer (some p15))) fun c16=>xN (aD SS.P 37) h fun B17 g18=>xU (ai SS.P 37 (pA (h.next)) (.agg ⟨c16⟩) g18) g18 fun u19 g20=> ∃ B21:Blk,oh SS.P 45=some (B21,fun k=> .map (some k))/\xP (af SS.P 37 (pA (h.next)) 1) fun p22=>xL (ah SS.P 35 (g20.push B21) (.pointer (some p22))) fun a23 n24 c25=>LL SS dZ [1,1,0,1,0,0,1,1,0,0,1,1,0,1,0,0] (ia k a n c (h.next) (g20.next) a23 n24 c25 i 0) (g20.push B21) (KK SS dZ [1,1,0,0,1,1,0,1,0] [1,1,0,1,0,0] (RR dZ [1,1,0,1,0,0] (gM (eu k a n c) Inv) mz (KK SS dZ [1,1,0,1,0] [] (EE SS dZ Q))))) (Q (.bool true) h))(mz:Nat){i:Nat}{h:Heap}(hi:Inv mz i h):LL SS dZ [1,1,0,1,0,0] (eu k a n c i) h (KK SS dZ [1,1,0,1,0] [] (EE SS dZ Q)):=
 cQ (eu k a n c) Inv (fun mz i zz h hi=>aj (step mz i zz h hi)) mz hi
theorem q6 (mv:LV)(k:Nat)(a:OA)(n c k2 k3:Nat)(b:OA)(m d:Nat)(Inv:Nat->Nat->Heap->Prop)(mz i:Nat)(Inv2:Nat->Nat->Heap->Prop)(Q:VH)(step: ∀ (mz2:Nat) (j:Nat) (zz:Nat->Value) (h:Heap),Inv2 mz2 j h->aB (decide (((j:Int):Int) < (m:Int))) (xP (ag SS.P 35 (.slice b m d) (iA j)) fun p26=>xA (ah SS.P 39 h (.pointer (some p26))) fun c27=>xN (aD SS.P 39) h fun B28 g29=>xU (ai SS.P 39 (pA (h.next)) (.agg ⟨c27⟩) g29) g29 fun u30 g31=>xP (af SS.P 39 (pA (h.next)) 0) fun p32=>xI .i64 (ah SS.P 3 g31 (.pointer (some p32))) fun n33=>xU (hZ SS.P 45 (.map (some k3)) (.int .i64 n33) (.bool true) g31) g31 fun u34 g35=>aF (gM (ia k a n c k2 k3 b m d i) Inv2) mz2 [(pA k),(.bool false),(pA k2),(.map (some k3)),(.slice a n c),(iA n),(iA i),(.slice b m d),(iA m),(.int .i64 (wrap .i64 ((j:Int)+1)))] g35) (xI .i64 (yu SS.P 45 (.map (some k3)) h) fun n36=>xP (af SS.P 37 (pA k2) 1) fun p37=>xL (ah SS.P 35 h (.pointer (some p37))) fun a38 n39 c40=>aB (((n36:Int) != (n39:Int))) (Q (.bool false) h) (aF (gM (eu k a n c) Inv) mz [(pA k),(.bool false),(.slice a n c),(iA n),(.int .i64 (wrap .i64 ((i:Int)+1)))] h)))(mz2:Nat){j:Nat}{h:Heap}(hi:Inv2 mz2 j h):LL SS dZ [1,1,0,1,0,0,1,1,0,0,1,1,0,1,0,0] (ia k a n c k2 k3 b m d i j) h (KK SS dZ [1,1,0,0,1,1,0,1,0] [1,1,0,1,0,0] (RR dZ [1,1,0,1,0,0] (gM (eu k a n c) Inv) mz (KK SS dZ [1,1,0,1,0] [] (EE SS dZ Q)))):=
 cQ (ia k a n c k2 k3 b m d i) Inv2 (fun mz2 j zz h hi=>aj (step mz2 j zz h hi)) mz2 hi
section
theorem fE {kind:Int}{N:Nat}: ∀ {l:List MSt}{acc:Int},gL kind N acc l=true-> ∀ s∈l,(s.f == [] || Num.weightOk kind s.f)=true/\ ∀ q∈s.arcs,iM kind N q=true
 | [],_,_,s,hs=>by cases hs
 | x::l,acc,h,s,hs=>by
  unfold gL at h;simp only [and_eq_true] at h;obtain ⟨⟨⟨h1,h2⟩,h3⟩,h4⟩:=h;rcases mem_cons.1 hs with rfl | hs
  ·exact ⟨h2,fun q hq=>List.all_eq_true.1 h3 q hq⟩
  ·exact fE h4 s hs
structure ArcIn (N:Nat)(q:MArc):Prop where
 i0:0<=q.i
 i1:q.i<=500
 o0:0<=q.o
 o1:q.o<=500
 t0:0<=q.t
 t1:q.t < N
theorem F2 {kind:Int}{N:Nat}{q:MArc}(h:iM kind N q=true):ArcIn N q:=by
 unfold iM vd at h;simp only [and_eq_true,decide_eq_true_eq] at h;obtain ⟨⟨⟨⟨⟨h1,h2⟩,h3,h4⟩,h5⟩,h6⟩,h7⟩:=h;exact ⟨h1,h2,h3,h4,h5,h6⟩
structure Good (M:Mach):Prop where
 start0:0<=M.start
 start1:M.start < M.states.length
 arcs: ∀ s∈M.states,∀ q∈s.arcs,ArcIn M.states.length q
theorem bC {M:Mach}(h:aN M=true):Good M:=by
 unfold aN at h;simp only [and_eq_true,decide_eq_true_eq] at h;obtain ⟨⟨⟨⟨⟨⟨⟨h1,h2⟩,h3⟩,h4⟩,h5⟩,h6⟩,h7⟩,h8⟩:=h;exact ⟨h5,h6,fun s hs q hq=>F2 ((fE h8 s hs).2 q hq)⟩
theorem G2 (a b:Int):nR SS.P 3 (.int .i64 a) (.int .i64 b)=some (decide (a=b)):=by
 by_cases h:a=b
 ·subst h;have e:e9 SS.P 3 3 (.int .i64 a) (.int .i64 a)=some (a == a):=by kernel_rfl
  unfold nR;rw [if_pos (show pF (Value.int .i64 a)=true from rfl),e];simp [Cx,xl]
 ·have e:e9 SS.P 3 3 (.int .i64 a) (.int .i64 b)=some (a == b):=by kernel_rfl
  unfold nR;rw [if_pos (show pF (Value.int .i64 b)=true from rfl),e,show (a == b)=false by simpa using h];simp [h]
def jy (l:List Int)(k:Int):List Int:=if k∈l then l else l++[k]
def ji (x:Int):Value×Value:=(.int .i64 x,.bool true)
theorem zS (k:Int): ∀ l:List Int,hJ SS.P 3 (.int .i64 k) (.bool true) (l.map ji)=some ((jy l k).map ji)
 | []=>rfl
 | x::l=>by
  show (match nR SS.P 3 (.int .i64 k) (.int .i64 x) with | some true=>some ((Value.int .i64 k,Value.bool true)::l.map ji) | some false=>(hJ SS.P 3 (.int .i64 k) (.bool true) (l.map ji)).map (ji x :: ·) | none=>none)=_;rw [G2];by_cases h:k=x
  ·subst h;simp [jy,ji]
  ·rw [show decide (k=x)=false by simpa using h];dsimp only;rw [zS k l];unfold jy;by_cases h2:k∈l
   ·rw [if_pos h2,if_pos (mem_cons_of_mem _ h2)]; rfl
   ·rw [if_neg h2,if_neg (fun e=>by rcases mem_cons.1 e with e | e; exact h e; exact h2 e)]; rfl
theorem s8: ∀ (l acc:List Int),acc.Nodup->((l.foldl jy acc).length=acc.length+l.length↔(acc++l).Nodup)/\(l.foldl jy acc).length<=acc.length+l.length
 | [],acc,h=>by simp [h]
 | x::l,acc,h=>by
  rw [List.foldl_cons];by_cases hx:x∈acc
  ·have e:jy acc x=acc:=by unfold jy; rw [if_pos hx]
   rw [e];obtain ⟨h1,h2⟩:=s8 l acc h;refine ⟨⟨fun h3=>by simp at h3; omega,fun h3=> ?_⟩,by simp; omega⟩;rw [List.nodup_append] at h3;exact absurd rfl (h3.2.2 x hx x (mem_cons_self ..))
  ·have e:jy acc x=acc++[x]:=by unfold jy; rw [if_neg hx]
   rw [e];have hn:(acc++[x]).Nodup:=by
    rw [List.nodup_append];refine ⟨h,by simp,fun a ha b hb=> ?_⟩;rw [mem_singleton] at hb;rintro rfl;exact hx (hb ▸ ha)
   obtain ⟨h1,h2⟩:=s8 l (acc++[x]) hn;rw [append_assoc] at h1;simp only [length_append,length_cons,length_nil,List.singleton_append] at h1 h2 ⊢;refine ⟨⟨fun h3=>h1.1 (by omega),fun h3=> ?_⟩,by omega⟩;have:=h1.2 h3; omega
theorem LZ:SS.P.underlying 45=some (.map 3 4):=by kernel_rfl
theorem GZ {h:Heap}{k:Nat}{l:List Int}(hk:h.get k=some (.map (l.map ji)))(x:Int):hZ SS.P 45 (.map (some k)) (.int .i64 x) (.bool true) h=some (undef,.set k (.map ((jy l x).map ji))):=by
 unfold hZ;rw [LZ]; dsimp only;rw [hk]; dsimp only;rw [show i4 SS.P 3 (.int .i64 x)=true by kernel_rfl,if_pos rfl,zS]; rfl
theorem MC {h:Heap}{k:Nat}{es:List (Value×Value)}(hk:h.get k=some (.map es)):yu SS.P 45 (.map (some k)) h=some (.int .i64 (es.length:Int)):=by
 unfold yu;rw [LZ]; dsimp only;rw [hk]
theorem KJ:oh SS.P 45=some (.map [],fun k=> .map (some k)):=by kernel_rfl
def kE (s:MSt):List Int:=s.arcs.map (·.i)
def AR (s:MSt):Bool:=decide (kE s).Nodup
def tP (M:Mach):Bool:=Lo M && FP M && M.states.all AR
section
variable {h:Heap} {k:Nat} {M:Mach} {a:Option Addr} {n c:Nat}
def Mm (h:Heap)(k:Nat)(M:Mach)(a:Option Addr)(n c:Nat)(V:Bool)(mz i:Nat)(g:Heap):Prop:=i<=n/\mz=n - i/\MB g k M a n c/\Ok h g/\(M.states.drop i).all AR=V
set_option linter.defProp false in
def Hh {hb:Heap}(w:Wf hb)(okb:Ok h hb)(sm:Small M)(V:Bool){s:MSt}{b:Option Addr}{m d i k2 k3:Nat}(hs:M.states[i]?=some s)(hi:i < n)(mb0:MB hb k M a n c)(hv:(AR s && (M.states.drop (i+1)).all AR)=V)(hk3:hb.next<=k3)(mv:List Value)(mz:Nat)(hmz:mz=n - i):=
 q6 mv k a n c k2 k3 b m d (Mm h k M a n c V) mz i (fun mz2 j g=>j<=m/\mz2=m - j/\Ok hb g/\ArcRow g (.slice b m d) s.arcs/\g.get k2=some (.cells [aa s.f,.slice b m d] 37 0 true)/\k3≠k2/\hb.next<=k2/\g.get k3=some (.map ((((kE s).take j).foldl jy []).map ji))) (bQ h V) (by
  intro mz2 j; intros; rename_i g hin;obtain ⟨f1,f2,ok,ar,sb,hne,hk2,hm⟩:=hin;have mb:=mb0.ok ok;have hn:n<=300:=by rw [mb.len]; exact sm.sts
  obtain ⟨l1,l2,l3⟩:=gZ sm hs;have hml:=ar.len;refine ae (fun g1=> ?_) (fun g1=> ?_)
  ·have g1:=dT g1;obtain ⟨q,hq⟩: ∃ q,s.arcs[j]?=some q:=⟨_,gE (by omega)⟩
   obtain ⟨bb,o,e1,e2,e3⟩:=ar.at_ hq;obtain ⟨u,p1,p2,p3⟩:=oz ok.wf q;have hm2:=p2.ext _ _ hm;refine ⟨_,e1,_,e2,_,wn,u,p1,_,nq _ _,_,p3.l0,_,GZ hm2 q.i,?_⟩;have okg:=ok.trans p2;have sb2:=p2.ext _ _ sb;have ar2:=ar.ok p2;generalize u.app (g.push A0)=g2 at *;rw [aH (i:=j) (n:=m) (by omega) (by omega)];have ok3:Ok hb ((Upd.set k3 (.map ((jy (((kE s).take j).foldl jy []) q.i).map ji))).app g2):=okg.set _ hk3 (okg.wf _ _ hm2) w;have hq':(kE s)[j]?=some q.i:=by unfold kE; rw [getElem?_map,hq]; rfl
   have ht:(kE s).take (j+1)=(kE s).take j++[q.i]:=by rw [take_add_one,hq']; rfl
   refine cA (mz2 - 1) (by omega) ⟨by omega,by omega,ok3,?_,?_,hne,hk2,?_⟩
   ·
    obtain ⟨bb',oo',xx,yy,zz,_,_,_,w4,ar0⟩:=(mb0.ok ok3).row.at_ hs;obtain ⟨bb2,oo2,xx2,yy2,zz2,v1,_,_,v4,ar02⟩:=(mb0.ok okg).row.at_ hs;obtain ⟨r1,⟨r2,r3⟩ | ⟨kk,off,cs,e',z',cc,wr,r2,r3,r4,r5⟩⟩:=ar2
    ·exact ⟨r1,.inl ⟨r2,r3⟩⟩
    ·refine ⟨r1,.inr ⟨kk,off,cs,e',z',cc,wr,r2,?_,r4,r5⟩⟩;show (g2.set k3 _).get kk=_;rw [Heap.get_set,if_neg (fun e=>by rw [e,hm2] at r3; cases r3)];exact r3
   ·show (g2.set k3 _).get k2=_;rw [Heap.get_set,if_neg (fun e=>hne e.symm)];exact sb2
   ·show (g2.set k3 _).get k3=_;rw [Heap.get_set,if_pos rfl,ht,List.foldl_append]; rfl
  ·have g1:=dF g1;obtain rfl:m=j:=by omega
   have sbl:SB g k2 s.f b m d:=sb;refine ⟨_,MC hm,_,bW _ _,_,_,_,sbl.l1,?_⟩;have hlen:(kE s).length=m:=by unfold kE; rw [lM]; exact hml.symm
   obtain ⟨q1,q2⟩:=s8 (kE s) [] List.nodup_nil;rw [nil_append,length_nil,zero_add,hlen] at q1;rw [lM,take_of_length_le (by omega)];refine ae (fun t=>⟨?_,okb.trans ok⟩) (fun t=> ?_)
   ·have t: ¬ (((kE s).foldl jy []).length:Int)=(m:Int):=by simpa using t
    rw [<-hv,show AR s=false from decide_eq_false fun e=>t (by rw [q1.2 e])]; rfl
   ·have t:(((kE s).foldl jy []).length:Int)=(m:Int):=by simpa using t
    rw [show AR s=true from decide_eq_true (q1.1 (by omega)),Bool.true_and] at hv;rw [aH hi (by omega)];exact cA (n - (i+1)) (by omega) ⟨by omega,rfl,mb,okb.trans ok,hv⟩)
theorem CM (tb:Tab h)(w:Wf h)(sm:Small M)(r:StRow h (.slice a n c) M.states):FW SS 16 [.agg ⟨aQ M a n c⟩] h (fun v h'=>v = .bool (tP M)/\Ok h h'):=by
 obtain ⟨mb,ok⟩:=ef w r;refine I0 (aQ M a n c) h _ ⟨_,gi M a n c,_,mb.all,(I8 (tb.ok ok) ok.wf sm mb.row).mono ?_⟩;generalize h.push (Bm M a n c)=g at *;rintro _ g2 ⟨rfl,o2⟩;have ok2:=ok.trans o2;have mb2:=mb.ok o2;have hn:n<=300:=by rw [mb.len]; exact sm.sts
 refine ⟨_,rfl,ae (fun q=>⟨?_,ok2⟩) (fun q=> ?_)⟩
 ·rw [not_eq_true'] at q;unfold tP; rw [q]; rfl
 rw [not_eq_false'] at q;refine ⟨_,mb2.all,(EM (tb.ok ok2) ok2.wf sm mb2.row).mono ?_⟩;rintro _ g3 ⟨rfl,o3⟩;have ok3:=ok2.trans o3;have mb3:=mb2.ok o3;refine ⟨_,rfl,ae (fun t=>⟨?_,ok3⟩) (fun t=> ?_)⟩
 ·rw [not_eq_true'] at t;unfold tP; rw [t,Bool.and_false]; rfl
 rw [not_eq_false'] at t;obtain ⟨V,hV⟩: ∃ V,V=M.states.all AR:=⟨_,rfl⟩
 have:tP M=V:=by unfold tP; rw [q,t,hV]; rfl
 rw [this];refine ⟨_,bA _,_,_,_,mb3.l3,?_⟩;refine qS (aQ M a n c) h.next a n c (Mm h h.next M a n c V) (bQ h V) (fun mz i=> ?_) n (i:=0) ⟨by omega,rfl,mb3,ok3,hV.symm⟩;intros; rename_i gg hi;obtain ⟨f1,f2,mb4,ok4,f5⟩:=hi;have hl:=mb4.len;refine ae (fun q1=> ?_) (fun q1=> ?_)
 ·have q1:=dT q1;obtain ⟨s,hs⟩: ∃ s,M.states[i]?=some s:=⟨_,gE (by omega)⟩
  obtain ⟨b,o,x',y,z,e1,e2,e3,e4,ar⟩:=mb4.row.at_ hs;rw [dI hs,all_cons] at f5;obtain ⟨u,p1,p2,p3⟩:=pe ok4.wf s.f x' y z;have p4:=(Ok.refl p2.wf).push (.map []);have hk3:=ay (u.app (gg.push uh)) (.map []);have hlt:gg.next < (u.app (gg.push uh)).next:=p2.wf _ _ p3;refine ⟨_,e1,_,e2,_,rJ,u,p1,_,KJ,_,bW _ _,_,_,_,(p3.ok p4).l1,?_⟩;generalize u.app (gg.push uh)=g5 at *;exact Hh ok4.wf ok4 sm V hs (by omega) mb4 f5 (by omega) [] mz f2 y (j:=0) ⟨by omega,rfl,p2.trans p4,(ar.ok p2).ok p4,p3.ok p4,by omega,le_refl _,hk3⟩
 ·have q1:=dF q1;rw [drop_eq_nil_of_le (by omega)] at f5;exact ⟨by rw [<-f5]; rfl,ok4⟩
end
end
theorem Fy:SS.P.underlying 46=some (.slice 4):=by kernel_rfl
theorem Ls:al SS.P 4=some 1:=by kernel_rfl
noncomputable def ti4:TypeInfo:=(SS.P.info? 4).getD default
theorem KW:SS.P.info? 4=some ti4:=by kernel_rfl
theorem FL:ti4.size=1:=by kernel_rfl
theorem Fz:ti4.bytes=1:=by kernel_rfl
theorem Mt:cw SS.P 4=some (.bool false):=by kernel_rfl
theorem NC (n:Nat)(hn:n<=100000):aX SS.P 46 (.int .i64 (n:Int)) (.int .i64 (n:Int))=some (.cells ((List.replicate n false).map Value.bool) 4 1 true,gH n n):=by
 unfold aX aM;dsimp only;rw [Fy]
 try dsimp only
 change (match SS.P.info? 4,cw SS.P 4 with
  | some i,some z=>(if z.cells.size=i.size/\0 < i.size/\(0:Int)<=(n:Int)/\(n:Int)<=(n:Int)/\(n:Int)*i.bytes<=140737488355328/\(n:Int)<=1099511627776 then some (Blk.cells (aZ z.cells.toList (n:Int).toNat) 4 i.size true,fun k=>Value.slice (some ⟨k,0,none⟩) (n:Int).toNat (n:Int).toNat) else none)
  | _,_=>none)=_
 rw [KW,Mt];dsimp only;rw [FL,Fz,if_pos ⟨rfl,by omega,by omega,Int.le_refl _,by omega,by omega⟩];have e:((n:Int)).toNat=n:=by omega
 rw [e,show (Value.bool false).cells.toList=[Value.bool false] from rfl,lB,List.map_replicate]; rfl
structure BR (hb:Heap)(kt N:Nat)(L:List Bool)(g:Heap):Prop where
 len:L.length=N
 row:IRow hb kt 4 (L.map Value.bool) g
theorem BR.trans {hb:Heap}{kt N:Nat}{L:List Bool}{g g':Heap}(m:BR hb kt N L g)(o:Ok g g'):BR hb kt N L g':=⟨m.len,m.row.trans o⟩
theorem BR.get {hb:Heap}{kt N c:Nat}{L:List Bool}{g:Heap}(m:BR hb kt N L g){x:Int}(h0:0<=x)(h1:x < N):ag SS.P 46 (.slice (some ⟨kt,0,none⟩) N c) (.int .i64 x)=some (.pointer (some ⟨kt,x.toNat,none⟩))/\ah SS.P 4 g (.pointer (some ⟨kt,x.toNat,none⟩))=some (.bool (L.getD x.toNat false))/\
  ∀ b:Bool,Wf hb-> ∃ u:Upd,ai SS.P 4 (.pointer (some ⟨kt,x.toNat,none⟩)) (.bool b) g=some (undef,u)/\BR hb kt N (L.set x.toNat b) (u.app g)/\(∀ k' B,g.get k'=some B->k'≠kt->(u.app g).get k'=some B):=by
 have e:0+x.toNat*1=x.toNat:=by omega
 have hl:x.toNat < L.length:=by rw [m.len]; omega
 refine ⟨by rw [<-e]; exact Ff Fy Ls h0 h1,?_,?_⟩
 ·rw [cZ N6 Nw m.row.row (by rw [lM]; exact hl),gD,getElem?_map,gD,gE hl]; rfl
 ·intro b w;refine ⟨_,lI Ls m.row.row (by rw [lM]; exact hl) rfl rfl,⟨by rw [length_set]; exact m.len,?_⟩,fun k' B hk hne=> ?_⟩
  ·have:=m.row.set w x.toNat (.bool b);rw [Jz Value.bool L x.toNat b] at this ⊢;exact this
  ·show (g.set kt _).get k'=_;rw [Heap.get_set,if_neg hne]; exact hk
theorem BR.new {h:Heap}(w:Wf h)(n:Nat):BR h h.next n (List.replicate n false) (h.push (.cells ((List.replicate n false).map Value.bool) 4 1 true)):=
 ⟨length_replicate,ay h _,le_refl _,(Ok.refl w).push _⟩
theorem AL {L:List Bool}{x y:Nat}{b:Bool}(hx:x < L.length):(L.set x b).getD y false=if y=x then b else L.getD y false:=by
 rw [gD,getElem?_set,gD];split
 ·next e=>subst e; simp
 ·next e=>rw [if_neg (fun c=>e c.symm)]
noncomputable def Jc:FD:=cB Tryz.f79 []
theorem Gg (s:Int)(k7 k8:Nat)(h:Heap)(Q:VH)(hx:xL (ah SS.P 46 h (pA k7)) fun a1 n2 c3=>xP (ag SS.P 46 (.slice a1 n2 c3) (.int .i64 s)) fun p4=>xB (ah SS.P 4 h (.pointer (some p4))) fun b5=>aB (!b5) (xL (ah SS.P 46 h (pA k7)) fun a6 n7 c8=>xP (ag SS.P 46 (.slice a6 n7 c8) (.int .i64 s)) fun p9=>xU (ai SS.P 4 (.pointer (some p9)) (.bool true) h) h fun u10 g11=>xL (ah SS.P 48 g11 (pA k8)) fun a12 n13 c14=>xR (an SS.P 48 1 [(0,(.int .i64 s))]) g11 fun B15 n16 c17 g18=>xE (aJ SS.P 48 48 (.slice a12 n13 c14) (sA (g11.next) n16 c17) g18) g18 fun a19 n20 c21 u22 g23=>xU (ai SS.P 48 (pA k8) (.slice a19 n20 c21) g23) g23 fun u24 g25=>Q (.tuple ⟨[]⟩) g25) (Q (.tuple ⟨[]⟩) h)):FW SS 79 [(.int .i64 s),(pA k7),(pA k8)] h Q:=cE Jc Tryz.func79 (aj hx)
noncomputable def IW:FD:=cB Tryz.f62 []
theorem GO (s:Int)(k:Nat)(h:Heap)(Q:VH)(hx:xL (ah SS.P 72 h (pA k)) fun a1 n2 c3=>xP (ag SS.P 72 (.slice a1 n2 c3) (.int .i64 s)) fun p4=>xL (ah SS.P 48 h (.pointer (some p4))) fun a5 n6 c7=>Q (.slice a5 n6 c7) h):FW SS 62 [(.int .i64 s),(pA k)] h Q:=cE IW Tryz.func62 (aj hx)
noncomputable def Ji:FD:=cB Tryz.f63 []
theorem HP (s:Int)(k:Nat)(h:Heap)(Q:VH)(hx:xL (ah SS.P 72 h (pA k)) fun a1 n2 c3=>xP (ag SS.P 72 (.slice a1 n2 c3) (.int .i64 s)) fun p4=>xL (ah SS.P 48 h (.pointer (some p4))) fun a5 n6 c7=>Q (.slice a5 n6 c7) h):FW SS 63 [(.int .i64 s),(pA k)] h Q:=cE Ji Tryz.func63 (aj hx)
noncomputable def bp:FD:=cB Tryz.f61 [([1,1,1,1,0,1,0,0],[0,1,2,7,8,9,18,19,20]),([1,1,1,1,1,0,0,0],[0,1,2,7,8,9]),([1,1,1,1,1,0,0,0,1,0,1,1,1,0,0],[0,1,2,7,8,9,44,45,46])]
abbrev iy (N:Int)(a:OA)(n c f kn k7 k8:Nat)(i:Nat):LV:=[(.int .i64 N),(.slice a n c),(.func (.func f) ⟨[]⟩ ⟨[(.pointer (some ⟨kn,0,none⟩))]⟩),(pA k7),(pA k8),(.func (.func 79) ⟨[]⟩ ⟨[(pA k7),(pA k8)]⟩),(.slice a n c),(iA n),(iA i)]
abbrev dU (N:Int)(a:OA)(n c f kn k7 k8:Nat)(dm:Nat):LV:=[(.int .i64 N),(.slice a n c),(.func (.func f) ⟨[]⟩ ⟨[(.pointer (some ⟨kn,0,none⟩))]⟩),(pA k7),(pA k8),(.func (.func 79) ⟨[]⟩ ⟨[(pA k7),(pA k8)]⟩)]
abbrev iI (N:Int)(a:OA)(n c f kn k7 k8:Nat)(b:OA)(m d:Nat)(j:Nat):LV:=[(.int .i64 N),(.slice a n c),(.func (.func f) ⟨[]⟩ ⟨[(.pointer (some ⟨kn,0,none⟩))]⟩),(pA k7),(pA k8),(.func (.func 79) ⟨[]⟩ ⟨[(pA k7),(pA k8)]⟩),(.slice b m d),(iA m),(iA j)]
theorem EV (N:Int)(a:OA)(n c f kn:Nat)(h:Heap)(Q:VH)(hx:xR (aX SS.P 46 (.int .i64 N) (.int .i64 N)) h fun B1 n2 c3 g4=>xN (aD SS.P 46) g4 fun B5 g6=>xU (ai SS.P 46 (pA (g4.next)) (sA (h.next) n2 c3) g6) g6 fun u7 g8=>xN (aD SS.P 48) g8 fun B9 g10=>LL SS bp [1,1,1,1,0,1,0,0] [(.int .i64 N),(.slice a n c),(.func (.func f) ⟨[]⟩ ⟨[(.pointer (some ⟨kn,0,none⟩))]⟩),(pA (g4.next)),(pA (g8.next)),(.func (.func 79) ⟨[]⟩ ⟨[(pA (g4.next)),(pA (g8.next))]⟩),(.slice a n c),(iA n),(.int .i64 0)] g10 (KK SS bp [1,1,1,1,0,1,0] [] (EE SS bp Q))):FW SS 61 [(.int .i64 N),(.slice a n c),(.func (.func f) ⟨[]⟩ ⟨[(.pointer (some ⟨kn,0,none⟩))]⟩)] h Q:=cE bp Tryz.func61 (aj hx)
theorem oq (N:Int)(a:OA)(n c f kn:Nat)(k7 k8:Nat)(Inv:Nat->Nat->Heap->Prop)(Q:VH)(step: ∀ (mz:Nat) (i:Nat) (zz:Nat->Value) (h:Heap),Inv mz i h->aB (decide (((i:Int):Int) < (n:Int))) (xP (ag SS.P 48 (.slice a n c) (iA i)) fun p11=>xI .i64 (ah SS.P 3 h (.pointer (some p11))) fun n12=>FW SS 79 [(.int .i64 n12),(pA k7),(pA k8)] h fun v13 h14=>v13=(.tuple ⟨[]⟩)/\aF (gM (iy N a n c f kn k7 k8) Inv) mz [(.int .i64 N),(.slice a n c),(.func (.func f) ⟨[]⟩ ⟨[(.pointer (some ⟨kn,0,none⟩))]⟩),(pA k7),(pA k8),(.func (.func 79) ⟨[]⟩ ⟨[(pA k7),(pA k8)]⟩),(.slice a n c),(iA n),(.int .i64 (wrap .i64 ((i:Int)+1)))] h14) (LL SS bp [1,1,1,1,1,0,0,0] [(.int .i64 N),(.slice a n c),(.func (.func f) ⟨[]⟩ ⟨[(.pointer (some ⟨kn,0,none⟩))]⟩),(pA k7),(pA k8),(.func (.func 79) ⟨[]⟩ ⟨[(pA k7),(pA k8)]⟩)] h (KK SS bp [1,1,1,1,1,0,0] [] (EE SS bp Q))))(mz:Nat){i:Nat}{h:Heap}(hi:Inv mz i h):LL SS bp [1,1,1,1,0,1,0,0] (iy N a n c f kn k7 k8 i) h (KK SS bp [1,1,1,1,0,1,0] [] (EE SS bp Q)):=
 cQ (iy N a n c f kn k7 k8) Inv (fun mz i zz h hi=>aj (step mz i zz h hi)) mz hi
theorem oE (N:Int)(a:OA)(n c f kn:Nat)(k7 k8:Nat)(Inv2:Nat->Nat->Heap->Prop)(Q:VH)(step: ∀ (mz2:Nat) (dm:Nat) (zz:Nat->Value) (h:Heap),Inv2 mz2 dm h->xL (ah SS.P 48 h (pA k8)) fun a15 n16 c17=>aB (decide (((n16:Int):Int) > 0)) (xL (ah SS.P 48 h (pA k8)) fun a18 n19 c20=>xL (ah SS.P 48 h (pA k8)) fun a21 n22 c23=>xP (ag SS.P 48 (.slice a18 n19 c20) (.int .i64 (wrap .i64 ((n22:Int) - 1)))) fun p24=>xI .i64 (ah SS.P 3 h (.pointer (some p24))) fun n25=>xL (ah SS.P 48 h (pA k8)) fun a26 n27 c28=>xL (ah SS.P 48 h (pA k8)) fun a29 n30 c31=>xL (bh SS.P 48 (.slice a26 n27 c28) none (some (.int .i64 (wrap .i64 ((n30:Int) - 1)))) none h) fun a32 n33 c34=>xU (ai SS.P 48 (pA k8) (.slice a32 n33 c34) h) h fun u35 g36=>aB (Nat.blt f YB) (FW SS f ([]++[(.int .i64 n25)]++[(.pointer (some ⟨kn,0,none⟩))]) g36 fun v37 h38=>yL v37 fun a39 n40 c41=>LL SS bp [1,1,1,1,1,0,0,0,1,0,1,1,1,0,0] [(.int .i64 N),(.slice a n c),(.func (.func f) ⟨[]⟩ ⟨[(.pointer (some ⟨kn,0,none⟩))]⟩),(pA k7),(pA k8),(.func (.func 79) ⟨[]⟩ ⟨[(pA k7),(pA k8)]⟩),(.slice a39 n40 c41),(iA n40),(.int .i64 0)] h38 (KK SS bp [1,0,1,1,1,0] [1,1,1,1,1,0,0,0] (RR bp [1,1,1,1,1,0,0,0] (gM (dU N a n c f kn k7 k8) Inv2) mz2 (KK SS bp [1,1,1,1,1,0,0] [] (EE SS bp Q))))) False) (xL (ah SS.P 46 h (pA k7)) fun a42 n43 c44=>Q (.slice a42 n43 c44) h))(mz2:Nat){dm:Nat}{h:Heap}(hi:Inv2 mz2 dm h):LL SS bp [1,1,1,1,1,0,0,0] (dU N a n c f kn k7 k8 dm) h (KK SS bp [1,1,1,1,1,0,0] [] (EE SS bp Q)):=
 cQ (dU N a n c f kn k7 k8) Inv2 (fun mz2 dm zz h hi=>aj (step mz2 dm zz h hi)) mz2 hi
theorem od (N:Int)(a:OA)(n c f kn:Nat)(k7 k8:Nat)(b:OA)(m d:Nat)(Inv2:Nat->Nat->Heap->Prop)(mz2:Nat)(Inv3:Nat->Nat->Heap->Prop)(Q:VH)(step: ∀ (mz3:Nat) (j:Nat) (zz:Nat->Value) (h:Heap),Inv3 mz3 j h->aB (decide (((j:Int):Int) < (m:Int))) (xP (ag SS.P 48 (.slice b m d) (iA j)) fun p45=>xI .i64 (ah SS.P 3 h (.pointer (some p45))) fun n46=>FW SS 79 [(.int .i64 n46),(pA k7),(pA k8)] h fun v47 h48=>v47=(.tuple ⟨[]⟩)/\aF (gM (iI N a n c f kn k7 k8 b m d) Inv3) mz3 [(.int .i64 N),(.slice a n c),(.func (.func f) ⟨[]⟩ ⟨[(.pointer (some ⟨kn,0,none⟩))]⟩),(pA k7),(pA k8),(.func (.func 79) ⟨[]⟩ ⟨[(pA k7),(pA k8)]⟩),(.slice b m d),(iA m),(.int .i64 (wrap .i64 ((j:Int)+1)))] h48) (aF (gM (dU N a n c f kn k7 k8) Inv2) mz2 [(.int .i64 N),(.slice a n c),(.func (.func f) ⟨[]⟩ ⟨[(.pointer (some ⟨kn,0,none⟩))]⟩),(pA k7),(pA k8),(.func (.func 79) ⟨[]⟩ ⟨[(pA k7),(pA k8)]⟩)] h))(mz3:Nat){j:Nat}{h:Heap}(hi:Inv3 mz3 j h):LL SS bp [1,1,1,1,1,0,0,0,1,0,1,1,1,0,0] (iI N a n c f kn k7 k8 b m d j) h (KK SS bp [1,0,1,1,1,0] [1,1,1,1,1,0,0,0] (RR bp [1,1,1,1,1,0,0,0] (gM (dU N a n c f kn k7 k8) Inv2) mz2 (KK SS bp [1,1,1,1,1,0,0] [] (EE SS bp Q)))):=
 cQ (iI N a n c f kn k7 k8 b m d) Inv3 (fun mz3 j zz h hi=>aj (step mz3 j zz h hi)) mz3 hi
end Go.Proofs.YtoabjjimjldcfaaGreatDoor
end
section
set_option linter.unusedVariables false
namespace Go.Ab
open Go
def aK:Value->Option Nat
 | .slice (some a) _ _=>some a.block
 | _=>none
def OwnG (h0 h:Heap)(e:TypeId)(v:Value)(vs:List Value):Prop:=
 (v = .slice none 0 0/\vs=[])\/ ∃ k off cs c,v = .slice (some ⟨k,off,none⟩) vs.length c/\h0.next<=k/\h.get k=some (.cells cs e 1 true)/\(cs.drop off).take vs.length=vs/\aI c+off=cs.length/\vs.length<=aI c
theorem OwnG.rd {h0 h:Heap}{e:TypeId}{v:Value}{vs:List Value}(o:OwnG h0 h e v vs):Rd h e v vs:=by
 rcases o with o | ⟨k,off,cs,c,h1,h2,h3,h4,h5,h6⟩
 ·exact .inl o
 ·exact .inr ⟨k,off,cs,c,true,h1,h3,h4⟩
theorem OwnG.keep {h0 h h':Heap}{e:TypeId}{v:Value}{vs:List Value}(o:OwnG h0 h e v vs)(hk: ∀ (k:Nat) (B:Blk),aK v=some k->h.get k=some B->h'.get k=some B):OwnG h0 h' e v vs:=by
 rcases o with o | ⟨k,off,cs,c,h1,h2,h3,h4,h5,h6⟩
 ·exact .inl o
 ·exact .inr ⟨k,off,cs,c,h1,h2,hk k _ (by rw [h1]; rfl) h3,h4,h5,h6⟩
theorem OwnG.ok {h0 h h':Heap}{e:TypeId}{v:Value}{vs:List Value}(r:OwnG h0 h e v vs)(o:Ok h h'):OwnG h0 h' e v vs:=r.keep fun k B _ hk=>o.ext _ _ hk
theorem OwnG.lt {h0 h:Heap}{e:TypeId}{v:Value}{vs:List Value}(o:OwnG h0 h e v vs)(w:Wf h){k:Nat}(hk:aK v=some k):k < h.next/\h0.next<=k:=by
 rcases o with ⟨rfl,_⟩ | ⟨k',off,cs,c,h1,h2,h3,h4,h5,h6⟩
 ·cases hk
 ·rw [h1] at hk;obtain rfl:k'=k:=oI hk;exact ⟨w _ _ h3,h2⟩
theorem OwnG.nil (h0 h:Heap)(e:TypeId):OwnG h0 h e (.slice none 0 0) []:= .inl ⟨rfl,rfl⟩
theorem OwnG.slc {h0 h:Heap}{e:TypeId}{v:Value}{vs:List Value}(o:OwnG h0 h e v vs): ∃ (a:Option Addr)(c:Nat),v = .slice a vs.length c:=by
 rcases o with ⟨rfl,rfl⟩ | ⟨k,off,cs,c,h1,h2,h3,h4,h5,h6⟩
 ·exact ⟨_,_,rfl⟩
 ·exact ⟨_,_,h1⟩
theorem OwnG.snoc {P:Program}{t e:TypeId}{i:TypeInfo}(hU:P.underlying t=some (.slice e))(hE:dA P e=some i)(hs:i.size=1){h0 g:Heap}(w0:Wf h0)(a:Ok h0 g){v:Value}{vs:List Value}(o:OwnG h0 g e v vs){x:Value}(hx:bI x=true){kx:Nat}(hkx:g.get kx=some (.cells [x] e 1 true))(hl:(vs.length+1)*i.bytes<=70368744177664)(hl2:vs.length+1<=1099511627776):
  ∃ (b:Option Addr)(n c:Nat)(u:Upd),aJ P t t v (.slice (some ⟨kx,0,none⟩) 1 1) g=some (.slice b n c,u)/\n=vs.length+1/\OwnG h0 (u.app g) e (.slice b n c) (vs++[x])/\Ok h0 (u.app g)/\
   (∀ j B,g.get j=some B->aK v≠some j->(u.app g).get j=some B)/\
   (∀ j,aK (.slice b n c)=some j->g.next<=j\/aK v=some j)/\g.next<=(u.app g).next:=by
 have hT:ca P t=true:=by unfold ca; rw [hU]
 have hsrc:cz g i.size (.slice (some ⟨kx,0,none⟩) 1 1)=some ([x],1):=by
  show (match g.get kx with | some (.cells cs ..)=>if ((cs.drop 0).take (1*i.size)).length=1*i.size then some ((cs.drop 0).take (1*i.size),1) else none | _=>none)=_;rw [hkx,hs]; rfl
 unfold aJ;rw [hU]; dsimp only;rw [hE]; dsimp only;rw [if_pos hT,hsrc]; dsimp only;rw [if_pos (by simp [hx,hs])];rcases o with ⟨rfl,rfl⟩ | ⟨k,off,cs,c,rfl,h2,h3,h4,h5,h6⟩
 ·show ∃ b n c u,(if 1=0 then some (Value.slice none 0 0,Upd.no) else if 1*i.bytes<=70368744177664/\1<=1099511627776 then some (Value.slice (some ⟨g.next,0,none⟩) 1 (bj+1),Upd.push (.cells [x] e i.size true)) else none)=_/\_;rw [if_neg (by omega),if_pos (by simpa using And.intro hl hl2)];refine ⟨_,_,_,_,rfl,rfl,.inr ⟨g.next,0,[x],bj+1,rfl,a.nx,?_,rfl,by rw [bH]; rfl,by rw [bH]; exact le_refl _⟩,a.push _,fun j B hj _=> ?_,fun j e=> .inl ?_,le_succ _⟩
  ·show (g.push (.cells [x] e i.size true)).get g.next=_;rw [Heap.get_push,if_pos rfl,hs]
  ·show (g.push _).get j=_;rw [Heap.get_push,if_neg (fun e=>by have:=a.wf _ _ hj; omega)];exact hj
  ·have:g.next=j:=oI e;omega
 ·dsimp only;rw [if_neg (by omega),hs,mul_one];have hkn:=a.wf _ _ h3;by_cases hroom:vs.length+1<=aI c
  ·rw [if_pos hroom];unfold storeAt;rw [h3];dsimp only;rw [if_pos ⟨by simp; omega,by simp [hx]⟩];refine ⟨_,_,_,_,rfl,rfl,.inr ⟨k,off,cs.take (off+vs.length)++[x]++cs.drop (off+vs.length+1),c,?_,h2,?_,?_,?_,?_⟩,?_,fun j B hj hne=> ?_,fun j e=> .inr e,le_refl _⟩
   ·simp
   ·show (g.set k _).get k=_;rw [Heap.get_set,if_pos rfl]; rfl
   ·have h7:(cs.take (off+vs.length)).length=off+vs.length:=by rw [length_take]; omega
    rw [append_assoc,List.drop_append_of_le_length (by rw [h7]; omega),drop_take,show off+vs.length - off=vs.length by omega,h4,length_append,length_cons,length_nil,List.take_append,take_of_length_le (by omega)];congr 1;rw [show vs.length+(0+1) - vs.length=1 by omega]; rfl
   ·simp; omega
   ·simp; omega
   ·exact a.set _ h2 hkn w0
   ·show (g.set k _).get j=_;rw [Heap.get_set,if_neg (fun e=>hne (by rw [e]; rfl))];exact hj
  ·rw [if_neg hroom];have hcl:aI c=vs.length:=by omega
   have h7:((cs.drop off).take vs.length).length=vs.length:=by rw [h4]
   unfold eZ;rw [if_pos ⟨hl,hl2⟩,h3];dsimp only;rw [mul_one,if_pos ⟨rfl,rfl,h7⟩];have hnew: ∀ B:Blk,OwnG h0 ((g.push (.cells (vs++[x]) e 1 true))) e (.slice (some ⟨g.next,0,none⟩) (vs.length+1) (bj+(vs.length+1))) (vs++[x]):=fun _=>
    .inr ⟨g.next,0,vs++[x],bj+(vs.length+1),by rw [length_append]; rfl,a.nx,by rw [Heap.get_push,if_pos rfl],by rw [drop_zero,List.take_length],by rw [bH,length_append]; rfl,by rw [bH,length_append]; exact le_refl _⟩
   by_cases hc:c < bj
   ·rw [if_pos hc,h4];refine ⟨_,_,_,_,rfl,rfl,hnew (.map []),a.push _,fun j B hj _=> ?_,fun j e=> .inl ?_,le_succ _⟩
    ·show (g.push _).get j=_;rw [Heap.get_push,if_neg (fun e=>by have:=a.wf _ _ hj; omega)];exact hj
    ·have:g.next=j:=oI e;omega
   ·rw [if_neg hc,if_pos ⟨rfl,by omega⟩,h4];refine ⟨_,_,_,_,rfl,rfl,.inr ⟨g.next,0,vs++[x],bj+(vs.length+1),by rw [length_append]; rfl,a.nx,?_,by rw [drop_zero,List.take_length],by rw [bH,length_append]; rfl,by rw [bH,length_append]; exact le_refl _⟩,?_,fun j B hj hne=> ?_,fun j e=> .inl ?_,le_succ _⟩
    ·show ((g.del k).push _).get g.next=_;rw [Heap.get_push,if_pos (show g.next=(g.del k).next from rfl)]
    ·refine ⟨?_,fun j C hj=> ?_,le_trans a.nx (le_succ _)⟩
     ·refine Heap.wf_push (fun j C hj=> ?_) _;rw [Heap.get_del] at hj;split at hj
      ·cases hj
      ·exact a.wf _ _ hj
     ·have h7:=a.ext _ _ hj;have h8:=a.wf _ _ h7;show ((g.del k).push _).get j=_;rw [Heap.get_push,if_neg (fun e=>by have:j=g.next:=e; omega),Heap.get_del,if_neg (fun e=>by have:=w0 _ _ hj; omega)];exact h7
    ·have h8:=a.wf _ _ hj;show ((g.del k).push _).get j=_;rw [Heap.get_push,if_neg (fun e=>by have:j=g.next:=e; omega),Heap.get_del,if_neg (fun e=>hne (by rw [e]; rfl))];exact hj
    ·have:g.next=j:=oI e;omega
theorem OwnG.upto {P:Program}{t e:TypeId}(hU:P.underlying t=some (.slice e))(hs:al P e=some 1){h0 h:Heap}{v:Value}{vs:List Value}(r:OwnG h0 h e v vs){z:Nat}(hz:z<=vs.length)(hp:0 < vs.length):
  ∃ a n c,bh P t v none (some (.int .i64 (z:Int))) none h=some (.slice a n c)/\OwnG h0 h e (.slice a n c) (vs.take z)/\aK (.slice a n c)=aK v:=by
 rcases r with ⟨rfl,rfl⟩ | ⟨k,off,cs,c,rfl,h2,h3,h4,h5,h6⟩
 ·simp at hp
 ·refine ⟨some ⟨k,off+0*1,none⟩,z,c,?_,.inr ⟨k,off,cs,c,?_,h2,h3,?_,h5,?_⟩,rfl⟩
  ·unfold bh;dsimp only;rw [hU];dsimp only [bZ];rw [hs,h3];dsimp only;rw [if_pos (by simp),if_pos (by omega)];have e2:((z:Int) - ((0:Nat):Int)).toNat=z:=by omega
   have e0:((0:Nat):Int).toNat=0:=rfl;rw [e2,e0]; rfl
  ·rw [length_take,Nat.min_eq_left hz]; rfl
  ·rw [length_take,Nat.min_eq_left hz,<-h4,List.take_take,Nat.min_eq_left hz]
  ·rw [length_take]; omega
theorem OwnG.built {h0 h:Heap}{e:TypeId}{k:Nat}{vs:List Value}(hk:h.get k=some (.cells vs e 1 true))(h0k:h0.next<=k)(hl:vs.length < bj):OwnG h0 h e (.slice (some ⟨k,0,none⟩) vs.length vs.length) vs:=
 .inr ⟨k,0,vs,vs.length,rfl,h0k,hk,by simp,by unfold aI; rw [if_neg (by omega)]; rfl,by unfold aI; rw [if_neg (by omega)]; exact le_refl _⟩
end Go.Ab
end
section
namespace Go.Num
section
inductive Rch (E:Nat->Nat->Prop)(F:Nat->Prop):Nat->Prop where
 | base {x:Nat} (h:F x):Rch E F x
 | step {y x:Nat} (h:Rch E F y) (e:E y x):Rch E F x
def cntF (L:List Bool):Nat:=(L.filter fun b=> !b).length
theorem zq: ∀ {L:List Bool}{s:Nat},s < L.length->L.getD s false=false->cntF (L.set s true)+1=cntF L
 | [],s,h,_=>by simp at h
 | b::L,0,h,h0=>by
  have:b=false:=by simpa using h0
  subst this;simp [cntF]
 | b::L,s+1,h,h0=>by
  have ih:=zq (L:=L) (s:=s) (by simpa using h) (by simpa using h0);unfold cntF at ih ⊢
  cases b <;> simp at ih ⊢ <;> omega
theorem getD_setT {L:List Bool}{s x:Nat}(hs:s < L.length):(L.set s true).getD x false=if x=s then true else L.getD x false:=by
 rw [gD,getElem?_set,gD];split
 ·next e=>subst e; simp
 ·next e=>rw [if_neg (fun c=>e c.symm)]
structure SInv (E:Nat->Nat->Prop)(F:Nat->Prop)(N:Nat)(L:List Bool)(T:List Nat)(ex:Nat->Prop):Prop where
 len:L.length=N
 tin: ∀ x∈T,x < N/\L.getD x false=true
 snd: ∀ x,L.getD x false=true->Rch E F x
 cls: ∀ y,L.getD y false=true->y ∉ T-> ¬ ex y-> ∀ z,E y z->L.getD z false=true
section
variable {E:Nat->Nat->Prop} {F:Nat->Prop} {N:Nat} {L:List Bool} {T:List Nat} {ex:Nat->Prop}
theorem sinv_new (n:Nat)(ex:Nat->Prop):SInv E F n (List.replicate n false) [] ex:=by
 have h: ∀ x,(List.replicate n false).getD x false=false:=fun x=>by
  rw [gD,getElem?_replicate]; split <;> rfl
 exact ⟨length_replicate,fun x hx=>(by cases hx),fun x hx=>(by rw [h] at hx; cases hx),fun y hy=>(by rw [h] at hy; cases hy)⟩
theorem SInv.see (v:SInv E F N L T ex){s:Nat}(hs:s < N)(hr:Rch E F s)(h0:L.getD s false=false):SInv E F N (L.set s true) (T++[s]) ex/\cntF (L.set s true)+1=cntF L:=by
 have hl:s < L.length:=by rw [v.len]; exact hs
 refine ⟨⟨by rw [length_set]; exact v.len,fun x hx=> ?_,fun x hx=> ?_,fun y hy hyT he z hz=> ?_⟩,zq hl h0⟩
 ·rcases mem_append.1 hx with h | h
  ·obtain ⟨h1,h2⟩:=v.tin x h;refine ⟨h1,?_⟩;rw [getD_setT hl]; split
   ·rfl
   ·exact h2
  ·rw [mem_singleton] at h;subst h;exact ⟨hs,by rw [getD_setT hl,if_pos rfl]⟩
 ·rw [getD_setT hl] at hx;split at hx
  ·next e=>rw [e]; exact hr
  ·exact v.snd x hx
 ·rw [getD_setT hl] at hy ⊢;split
  ·rfl
  ·split at hy
   ·next e=>exact absurd (mem_append.2 (.inr (by rw [mem_singleton]; exact e))) hyT
   ·exact v.cls y hy (fun c=>hyT (mem_append.2 (.inl c))) he z hz
theorem SInv.take {T':List Nat}{s:Nat}(v:SInv E F N L T (fun _=>False))(h1: ∀ x∈T',x∈T)(h2: ∀ x∈T,x∈T'\/x=s):SInv E F N L T' (fun y=>y=s):=
 ⟨v.len,fun x hx=>v.tin x (h1 x hx),v.snd,fun y hy hyT he z hz=>v.cls y hy (fun c=>(h2 y c).elim hyT he) (fun c=>c) z hz⟩
theorem SInv.done {s:Nat}(v:SInv E F N L T (fun y=>y=s))(h: ∀ z,E s z->L.getD z false=true):SInv E F N L T (fun _=>False):=
 ⟨v.len,v.tin,v.snd,fun y hy hyT _ z hz=>by
  by_cases e:y=s
  ·subst e; exact h z hz
  ·exact v.cls y hy hyT e z hz⟩
theorem SInv.final (v:SInv E F N L [] (fun _=>False))(hF: ∀ x,F x->L.getD x false=true)(x:Nat):L.getD x false=true↔Rch E F x:=by
 refine ⟨v.snd x,fun h=> ?_⟩
 induction h with
 | base h=>exact hF _ h
 | step _ e ih=>exact v.cls _ ih (fun c=>(by cases c)) (fun c=>c) _ e
end
end
end Go.Num
end
section
set_option linter.unusedVariables false
set_option maxRecDepth 100000
namespace Go.Proofs.YtoabjjimjldcfaaGreatDoor
open Go Go.Ab
section
theorem CG {h0 g:Heap}(w0:Wf h0)(ok:Ok h0 g){v:Value}{vs:List Value}(o:OwnG h0 g 3 v vs){z:Int}{kx:Nat}(hkx:g.get kx=some (.cells [.int .i64 z] 3 1 true))(hl:vs.length<=100000):
  ∃ (b:Option Addr)(n c:Nat)(u:Upd),aJ SS.P 48 48 v (.slice (some ⟨kx,0,none⟩) 1 1) g=some (.slice b n c,u)/\n=vs.length+1/\OwnG h0 (u.app g) 3 (.slice b n c) (vs++[.int .i64 z])/\Ok h0 (u.app g)/\
   (∀ j B,g.get j=some B->aK v≠some j->(u.app g).get j=some B)/\
   (∀ j,aK (.slice b n c)=some j->g.next<=j\/aK v=some j)/\g.next<=(u.app g).next:=
 OwnG.snoc kJ K0 Hw w0 ok o rfl hkx (by rw [EA]; omega) (by omega)
theorem za:al SS.P 48=some 1:=by kernel_rfl
theorem Nj:al SS.P 46=some 1:=by kernel_rfl
theorem zU:Go.Ab.isAgg SS.P 48=false:=by kernel_rfl
theorem KY:Go.Ab.isAgg SS.P 46=false:=by kernel_rfl
theorem rN:SS.P.underlying 72=some (.slice 48):=by kernel_rfl
theorem KA:al SS.P 72=some 1:=by kernel_rfl
theorem zM:Go.Ab.isAgg SS.P 72=false:=by kernel_rfl
theorem d7 (a:Option Addr)(n c:Nat):bI (.slice a n c)=true:=by cases a <;> rfl
def Bx1 (g:Heap)(k:Nat)(t:TypeId)(v:Value):Prop:=g.get k=some (.cells [v] t 0 true)
theorem Bx1.ok {g g':Heap}{k:Nat}{t:TypeId}{v:Value}(b:Bx1 g k t v)(o:Ok g g'):Bx1 g' k t v:=o.ext _ _ b
theorem Bx1.ld {g:Heap}{k:Nat}{t:TypeId}{v:Value}{d:TypeDesc}(hU:SS.P.underlying t=some d)(ha:Go.Ab.isAgg SS.P t=false)(b:Bx1 g k t v):ah SS.P t g (.pointer (some ⟨k,0,none⟩))=some v:=cZ hU ha b (by simp)
theorem Bx1.st {g:Heap}{k:Nat}{t:TypeId}{v:Value}(hs:al SS.P t=some 1)(b:Bx1 g k t v){v':Value}(hv:bI v'=true)(hc:v'.cells = #[v']):ai SS.P t (.pointer (some ⟨k,0,none⟩)) v' g=some (undef,.set k (.cells [v'] t 0 true)):=lI hs b (by simp) hv hc
structure Sst (h:Heap)(k7 k8 kt N:Nat)(L:List Bool)(T:List Nat)(g:Heap):Prop where
 b7:Bx1 g k7 46 (.slice (some ⟨kt,0,none⟩) N N)
 b8: ∃ tv,Bx1 g k8 48 tv/\OwnG h g 3 tv (T.map iv)/\aK tv≠some kt/\aK tv≠some k7/\aK tv≠some k8
 row:BR h kt N L g
 n7:h.next<=k7
 n8:h.next<=k8
 d1:k7≠kt
 d2:k8≠kt
 d3:k7≠k8
section
variable {h:Heap} {k7 k8 kt N:Nat} {L:List Bool} {T:List Nat} {g:Heap}
theorem GU (w:Wf h)(st:Sst h k7 k8 kt N L T g){s:Nat}(hs:s < N)(hT:T.length<=100000):
  FW SS 79 [.int .i64 (s:Int),.pointer (some ⟨k7,0,none⟩),.pointer (some ⟨k8,0,none⟩)] g (fun v g'=>v = .tuple ⟨[]⟩/\((L.getD s false=true/\Sst h k7 k8 kt N L T g')\/(L.getD s false=false/\Sst h k7 k8 kt N (L.set s true) (T++[s]) g'))):=by
 obtain ⟨tv,t1,t2,t3,t4,t5⟩:=st.b8;obtain ⟨r1,r2,r3⟩:=st.row.get (c:=N) (x:=(s:Int)) (by omega) (by omega);rw [toNat_natCast] at r1 r2 r3;refine Gg s k7 k8 g _ ⟨_,_,_,st.b7.ld Fy KY,_,r1,_,r2,ae (fun q=> ?_) (fun q=> ?_)⟩
 ·rw [not_eq_true'] at q;obtain ⟨u,s1,s2,s3⟩:=r3 true w;refine ⟨_,_,_,st.b7.ld Fy KY,_,r1,u,s1,?_⟩;have b7':Bx1 (u.app g) k7 46 (.slice (some ⟨kt,0,none⟩) N N):=s3 _ _ st.b7 st.d1;have b8':Bx1 (u.app g) k8 48 tv:=s3 _ _ t1 st.d2;have ow:OwnG h (u.app g) 3 tv (T.map iv):=t2.keep fun j B hj hB=>s3 j B hB (fun e=>t3 (by rw [hj,e]));generalize u.app g=g1 at *;obtain ⟨ta,tc,rfl⟩:=ow.slc;rw [lM] at *;refine ⟨_,_,_,b8'.ld kJ zU,?_⟩;have ok1:=s2.row.ok;have op:=(Ok.refl ok1.wf).push (.cells [.int .i64 (s:Int)] 3 1 true);have hk:=ay g1 (.cells [.int .i64 (s:Int)] 3 1 true);obtain ⟨b,n',c',u2,a1,a2,a3,a4,a5,a6,a7⟩:=CG w (ok1.trans op) (ow.ok op) hk (by rw [lM]; exact hT);refine ⟨_,_,_,vP _,b,n',c',u2,a1,?_⟩;have b7'':=a5 _ _ (b7'.ok op) t4;have b8'':Bx1 (u2.app (g1.push (.cells [.int .i64 (s:Int)] 3 1 true))) k8 48 _:=a5 _ _ (b8'.ok op) t5;have rw2:=a5 _ _ (op.ext _ _ s2.row.row) t3;have hgn:g1.next<=(g1.push (.cells [.int .i64 (s:Int)] 3 1 true)).next:=le_succ _;have l7:=ok1.wf _ _ b7';have l8:=ok1.wf _ _ b8';have lt:=s2.row.lt;generalize g1.push (.cells [.int .i64 (s:Int)] 3 1 true)=gp at *;generalize u2.app gp=g2 at *;refine ⟨_,b8''.st za (d7 _ _ _) rfl,rfl,.inr ⟨q,?_⟩⟩;have okf:Ok h ((Upd.set k8 (.cells [.slice b n' c'] 48 0 true)).app g2):=a4.set _ st.n8 (a4.wf _ _ b8'') w;have hset: ∀ j,j≠k8->((Upd.set k8 (.cells [.slice b n' c'] 48 0 true)).app g2).get j=g2.get j:=fun j hj=>by
   show (g2.set k8 _).get j=_;rw [Heap.get_set,if_neg hj]
  have hself:((Upd.set k8 (.cells [.slice b n' c'] 48 0 true)).app g2).get k8=some (.cells [.slice b n' c'] 48 0 true):=by
   show (g2.set k8 _).get k8=_;rw [Heap.get_set,if_pos rfl]
  have nb: ∀ j,aK (.slice ta T.length tc)≠some j->j < g1.next->aK (.slice b n' c')≠some j:=fun j h1 h2 e=>by
   rcases a6 j e with h3 | h3
   ·omega
   ·exact h1 h3
  refine ⟨?_,⟨_,hself,?_,nb _ t3 lt,nb _ t4 l7,nb _ t5 l8⟩,⟨s2.len,?_,s2.row.new,okf⟩,st.n7,st.n8,st.d1,st.d2,st.d3⟩
  ·show _=_;rw [hset _ st.d3]; exact b7''
  ·rw [List.map_append];exact a3.keep fun j B hj hB=>by rw [hset j (fun e=>nb _ t5 l8 (by rw [hj,e]))]; exact hB
  ·rw [hset _ (fun e=>st.d2 e.symm)]; exact rw2
 ·rw [not_eq_false'] at q;exact ⟨rfl,.inl ⟨q,st⟩⟩
def AdjR (g:Heap)(a:Option Addr)(N c:Nat)(A:List (List Nat)):Prop:=A.length=N/\ ∃ vs:List Value,Rd g 48 (.slice a N c) vs/\vs.length=N/\ ∀ (i:Nat)(l:List Nat),A[i]?=some l-> ∃ (b:Option Addr)(m d:Nat),vs[i]?=some (.slice b m d)/\Rd g 3 (.slice b m d) (l.map iv)
theorem AdjR.ok {g g':Heap}{a:Option Addr}{N c:Nat}{A:List (List Nat)}(r:AdjR g a N c A)(o:Ok g g'):AdjR g' a N c A:=by
 obtain ⟨h1,vs,h2,h3,h4⟩:=r;exact ⟨h1,vs,h2.ok o,h3,fun i l hl=>let ⟨b,m,d,e1,e2⟩:=h4 i l hl; ⟨b,m,d,e1,e2.ok o⟩⟩
theorem AdjR.at2 {h g:Heap}{a:Option Addr}{N c:Nat}{A:List (List Nat)}(r:AdjR h a N c A)(o:Ok h g){i:Nat}{l:List Nat}(hl:A[i]?=some l):
  ∃ (p:Addr)(b:Option Addr)(m d:Nat),ag SS.P 72 (.slice a N c) (.int .i64 (i:Int))=some (.pointer (some p))/\ah SS.P 48 g (.pointer (some p))=some (.slice b m d)/\Rd h 3 (.slice b m d) (l.map iv):=by
 obtain ⟨h1,vs,h2,h3,h4⟩:=r;obtain ⟨b,m,d,e1,e2⟩:=h4 i l hl;have hi:=(List.getElem?_eq_some_iff.1 hl).1;obtain ⟨p,q1,q2⟩:=(h2.ok o).at_ rN za kJ zU (k:= .i64) (i:=(i:Int)) (by omega) (by omega);rw [toNat_natCast,gD,e1] at q2;exact ⟨p,b,m,d,q1,q2,e2⟩
def wV (h:Heap)(f kn:Nat)(A:List (List Nat)):Prop:=Nat.blt f YB=true/\ ∀ (g:Heap),Ok h g-> ∀ (s:Nat)(l:List Nat),A[s]?=some l->FW SS f [.int .i64 (s:Int),.pointer (some ⟨kn,0,none⟩)] g (fun v g'=> ∃ (b:Option Addr)(m d:Nat),v = .slice b m d/\Rd h 3 (.slice b m d) (l.map iv)/\g'=g)
theorem Hc {kn c:Nat}{a:Option Addr}{A:List (List Nat)}(w:Wf h)(bx:Bx1 h kn 72 (.slice a N c))(r:AdjR h a N c A):wV h 62 kn A:=by
 refine ⟨by decide +kernel,fun g o s l hl=> ?_⟩;obtain ⟨p,b,m,d,e1,e2,e3⟩:=r.at2 o hl;exact GO s kn g _ ⟨_,_,_,(bx.ok o).ld rN zM,_,e1,_,_,_,e2,b,m,d,rfl,e3,rfl⟩
theorem IC {kn c:Nat}{a:Option Addr}{A:List (List Nat)}(w:Wf h)(bx:Bx1 h kn 72 (.slice a N c))(r:AdjR h a N c A):wV h 63 kn A:=by
 refine ⟨by decide +kernel,fun g o s l hl=> ?_⟩;obtain ⟨p,b,m,d,e1,e2,e3⟩:=r.at2 o hl;exact HP s kn g _ ⟨_,_,_,(bx.ok o).ld rN zM,_,e1,_,_,_,e2,b,m,d,rfl,e3,rfl⟩
def uo (A:List (List Nat))(y x:Nat):Prop:=x∈A.getD y []
end
end
section
theorem Mg {h:Heap}{a:Option Addr}{n c:Nat}{l:List Nat}(r:Rd h 3 (.slice a n c) (l.map iv)){i:Nat}{x:Nat}(hx:l[i]?=some x): ∃ p:Addr,ag SS.P 48 (.slice a n c) (.int .i64 (i:Int))=some (.pointer (some p))/\ah SS.P 3 h (.pointer (some p))=some (.int .i64 (x:Int)):=by
 have hi:=(List.getElem?_eq_some_iff.1 hx).1;obtain ⟨p,h2,h3⟩:=r.at_ kJ IJ HO Ij (k:= .i64) (i:=(i:Int)) (by omega) (by rw [lM]; omega);rw [toNat_natCast,gD,getElem?_map,hx] at h3;exact ⟨p,h2,h3⟩
theorem Ir {h:Heap}{a:Option Addr}{n c:Nat}{l:List Nat}(r:Rd h 3 (.slice a n c) (l.map iv)):n=l.length:=by have:=r.len; rwa [lM] at this
theorem Fd {T:List Nat}(h:0 < T.length): ∃ s,T[T.length - 1]?=some s/\(∀ x∈T.take (T.length - 1),x∈T)/\(∀ x∈T,x∈T.take (T.length - 1)\/x=s)/\s∈T:=by
 obtain ⟨s,hs⟩: ∃ s,T[T.length - 1]?=some s:=⟨_,gE (by omega)⟩
 have e:T=T.take (T.length - 1)++[s]:=by
  have h1:(T.take (T.length - 1+1))=T:=take_of_length_le (by omega);rw [take_add_one,hs] at h1;exact h1.symm
 refine ⟨s,hs,fun x hx=>List.mem_of_mem_take hx,fun x hx=> ?_,List.mem_of_getElem? hs⟩;rw [e] at hx;rcases mem_append.1 hx with h1 | h1
 ·exact .inl h1
 ·rw [mem_singleton] at h1; exact .inr h1
structure Sq (h:Heap)(E:Nat->Nat->Prop)(F:List Nat)(k7 k8 kt N:Nat)(ex:Nat->Prop)(L:List Bool)(T:List Nat)(g:Heap):Prop where
 st:Sst h k7 k8 kt N L T g
 inv:Num.SInv E (· ∈F) N L T ex
 bd:2*Num.cntF L+T.length<=2*N
section
variable {h:Heap} {E:Nat->Nat->Prop} {F:List Nat} {k7 k8 kt N:Nat} {ex:Nat->Prop} {L:List Bool} {T:List Nat} {g:Heap}
theorem zL (w:Wf h)(hN:N<=1000)(q:Sq h E F k7 k8 kt N ex L T g){s:Nat}(hs:s < N)(hr:Num.Rch E (· ∈F) s):
  FW SS 79 [.int .i64 (s:Int),.pointer (some ⟨k7,0,none⟩),.pointer (some ⟨k8,0,none⟩)] g (fun v g'=>v = .tuple ⟨[]⟩/\ ∃ L' T',Sq h E F k7 k8 kt N ex L' T' g'/\(∀ x,L.getD x false=true->L'.getD x false=true)/\L'.getD s false=true/\2*Num.cntF L'+T'.length<=2*Num.cntF L+T.length):=by
 have hb:=q.bd;refine (GU w q.st hs (by omega)).mono ?_;rintro _ g' ⟨rfl,⟨h1,h2⟩ | ⟨h1,h2⟩⟩
 ·exact ⟨rfl,L,T,⟨h2,q.inv,q.bd⟩,fun _ h=>h,h1,le_refl _⟩
 ·obtain ⟨i1,i2⟩:=q.inv.see hs hr h1;have hl:s < L.length:=by rw [q.inv.len]; exact hs
  refine ⟨rfl,_,_,⟨h2,i1,?_⟩,fun x hx=> ?_,?_,?_⟩
  ·rw [length_append,length_singleton]; omega
  ·rw [Num.getD_setT hl]; split
   ·rfl
   ·exact hx
  ·rw [Num.getD_setT hl,if_pos rfl]
  ·rw [length_append,length_singleton]; omega
theorem Sst.put (w:Wf h)(st:Sst h k7 k8 kt N L T g){T':List Nat}{b:Option Addr}{m d:Nat}(ow:OwnG h g 3 (.slice b m d) (T'.map iv))(hb: ∀ tv,Bx1 g k8 48 tv->aK (.slice b m d)=aK tv):
  ∃ u:Upd,ai SS.P 48 (.pointer (some ⟨k8,0,none⟩)) (.slice b m d) g=some (undef,u)/\Sst h k7 k8 kt N L T' (u.app g)/\Ok h (u.app g):=by
 obtain ⟨tv,t1,t2,t3,t4,t5⟩:=st.b8;have e:=hb tv t1;refine ⟨_,t1.st za (d7 _ _ _) rfl,?_⟩;have ok:=st.row.row.ok;have okf:Ok h ((Upd.set k8 (.cells [.slice b m d] 48 0 true)).app g):=ok.set _ st.n8 (ok.wf _ _ t1) w;have hset: ∀ j,j≠k8->((Upd.set k8 (.cells [.slice b m d] 48 0 true)).app g).get j=g.get j:=fun j hj=>by
  show (g.set k8 _).get j=_;rw [Heap.get_set,if_neg hj]
 refine ⟨⟨?_,⟨.slice b m d,?_,ow.keep fun j B hj hB=>by rw [hset j (fun c=>t5 (by rw [<-e,hj,c]))]; exact hB,by rw [e]; exact t3,by rw [e]; exact t4,by rw [e]; exact t5⟩,⟨st.row.len,?_,st.row.row.new,okf⟩,st.n7,st.n8,st.d1,st.d2,st.d3⟩,okf⟩
 ·show _=_;rw [hset _ st.d3]; exact st.b7
 ·show (g.set k8 _).get k8=_;rw [Heap.get_set,if_pos rfl]
 ·rw [hset _ (fun c=>st.d2 c.symm)]; exact st.row.row.row
end
section
variable {h:Heap} {N:Nat} {A:List (List Nat)} {f kn:Nat} {a:Option Addr} {n c:Nat} {F:List Nat} {k7 k8 kt:Nat}
def OL (h:Heap)(A:List (List Nat))(F:List Nat)(k7 k8 kt N n:Nat)(mz i:Nat)(g:Heap):Prop:=i<=n/\mz=n - i/\ ∃ L T,Sq h (uo A) F k7 k8 kt N (fun _=>False) L T g/\ ∀ x∈F.take i,L.getD x false=true
def OG (h:Heap)(A:List (List Nat))(F:List Nat)(k7 k8 kt N:Nat)(mz2 dm:Nat)(g:Heap):Prop:= ∃ L T,Sq h (uo A) F k7 k8 kt N (fun _=>False) L T g/\(∀ x∈F,L.getD x false=true)/\2*Num.cntF L+T.length<=mz2
def OO (h:Heap)(A:List (List Nat))(F:List Nat)(k7 k8 kt N:Nat)(l:List Nat)(s m mz2:Nat)(mz3 j:Nat)(g:Heap):Prop:=j<=m/\mz3=m - j/\ ∃ L T,Sq h (uo A) F k7 k8 kt N (fun y=>y=s) L T g/\(∀ x∈F,L.getD x false=true)/\2*Num.cntF L+T.length+1<=mz2/\(∀ z∈l.take j,L.getD z false=true)/\Num.Rch (uo A) (· ∈F) s
def sQ (h:Heap)(A:List (List Nat))(F:List Nat)(N:Nat):VH:=fun v h'=> ∃ kt L,v = .slice (some ⟨kt,0,none⟩) N N/\BR h kt N L h'/\ ∀ x,L.getD x false=true↔Num.Rch (uo A) (· ∈F) x
set_option linter.defProp false in
def Jo (w:Wf h)(hN:N<=1000)(hAin: ∀ l∈A,∀ x∈l,x < N){s:Nat}{l:List Nat}(hl:A[s]?=some l)(hll:l.length<=100000){b:Option Addr}{m d:Nat}(rd:Rd h 3 (.slice b m d) (l.map iv))(mz2:Nat)(hmz:0 < mz2):=
 od (N:Int) a n c f kn k7 k8 b m d (OG h A F k7 k8 kt N) mz2 (OO h A F k7 k8 kt N l s m mz2) (sQ h A F N) (by
  intro mz3 j; intros; rename_i g hin;obtain ⟨f1,f2,L,T,q,hF,hm2,hz,hr⟩:=hin;have hm:=Ir rd;refine ae (fun g1=> ?_) (fun g1=> ?_)
  ·have g1:=dT g1;obtain ⟨x,hx⟩: ∃ x,l[j]?=some x:=⟨_,gE (by omega)⟩
   obtain ⟨p,e1,e2⟩:=Mg (rd.ok q.st.row.row.ok) hx;have hxl:=List.mem_of_getElem? hx;have hE:uo A s x:=by
    show x∈A.getD s [];rw [gD,hl]; exact hxl
   refine ⟨_,e1,_,e2,(zL w hN q (hAin l (List.mem_of_getElem? hl) x hxl) (.step hr hE)).mono ?_⟩;rintro _ g2 ⟨rfl,L',T',q',h1,h2,h3⟩;refine ⟨rfl,?_⟩;rw [aH (i:=j) (n:=m) (by omega) (by omega)];refine cA (mz3 - 1) (by omega) ⟨by omega,by omega,L',T',q',fun y hy=>h1 y (hF y hy),by omega,fun z hz'=> ?_,hr⟩;rw [take_add_one,hx] at hz';rcases mem_append.1 hz' with h4 | h4
   ·exact h1 z (hz z h4)
   ·have:z=x:=by simpa using h4
    rw [this]; exact h2
  ·have g1:=dF g1;rw [take_of_length_le (by omega)] at hz;refine cA (mz2 - 1) (a:=0) (by omega) ⟨L,T,⟨q.st,q.inv.done fun z hE=>hz z ?_,q.bd⟩,hF,by omega⟩;have:z∈A.getD s []:=hE;rw [gD,hl] at this;exact this)
set_option linter.defProp false in
def JJ (w:Wf h)(hN:N<=1000)(hA:A.length=N)(hAin: ∀ l∈A,∀ x∈l,x < N)(hAl: ∀ l∈A,l.length<=100000)(nx:wV h f kn A):=
 oE (N:Int) a n c f kn k7 k8 (OG h A F k7 k8 kt N) (sQ h A F N) (by
  intro mz2 dm; intros; rename_i g hin;obtain ⟨L,T,q,hF,hm2⟩:=hin;obtain ⟨tv,t1,t2,t3,t4,t5⟩:=q.st.b8;obtain ⟨ta,tc,htv⟩:=t2.slc;rw [lM] at htv;subst htv;refine ⟨_,_,_,t1.ld kJ zU,ae (fun g1=> ?_) (fun g1=> ?_)⟩
  ·have g1:=dT g1;obtain ⟨s,hs,p1,p2,p3⟩:=Fd (T:=T) (by omega);have hb:=q.bd;have hw:wrap .i64 ((T.length:Int) - 1)=((T.length - 1:Nat):Int):=by rw [aq (by omega) (by omega)]; omega
   obtain ⟨p,e1,e2⟩:=Mg t2.rd hs;refine ⟨_,_,_,t1.ld kJ zU,_,_,_,t1.ld kJ zU,p,by rw [hw]; exact e1,_,e2,_,_,_,t1.ld kJ zU,_,_,_,t1.ld kJ zU,?_⟩;dsimp only;rw [hw];obtain ⟨b,m,d,x1,x2,x3⟩:=t2.upto kJ IJ (z:=T.length - 1) (by rw [lM]; omega) (by rw [lM]; omega);rw [<-List.map_take] at x2;obtain ⟨u,y1,y2,y3⟩:=q.st.put w x2 (fun tv' ht'=>by
    have:Value.slice ta T.length tc=tv':=by
     have:=t1.symm.trans ht';injection this with this; injection this with this; injection this with this
    rw [<-this]; exact x3)
   refine ⟨b,m,d,x1,u,y1,M3 nx.1 ?_⟩;have hsN:=(q.inv.tin s p3).1;obtain ⟨l,hl⟩: ∃ l,A[s]?=some l:=⟨_,gE (by omega)⟩
   refine (nx.2 _ y3 s l hl).mono ?_;rintro _ g2 ⟨b',m',d',rfl,rd,rfl⟩;refine ⟨b',m',d',rfl,?_⟩;have hT':(T.take (T.length - 1)).length=T.length - 1:=by rw [length_take]; omega
   exact Jo w hN hAin hl (hAl l (List.mem_of_getElem? hl)) rd mz2 (by omega) m' (j:=0) ⟨by omega,by omega,L,T.take (T.length - 1),⟨y2,q.inv.take p1 p2,by omega⟩,hF,by omega,fun z hz=>(by rw [take_zero] at hz; cases hz),q.inv.snd s (q.inv.tin s p3).2⟩
  ·have g1:=dF g1;obtain rfl:T=[]:=List.eq_nil_of_length_eq_zero (by omega);exact ⟨_,_,_,q.st.b7.ld Fy KY,kt,L,rfl,q.st.row,q.inv.final hF⟩)
theorem vf (w:Wf h)(hN:N<=1000)(hA:A.length=N)(hAin: ∀ l∈A,∀ x∈l,x < N)(hAl: ∀ l∈A,l.length<=100000)(nx:wV h f kn A)(rf:Rd h 3 (.slice a n c) (F.map iv))(hF: ∀ x∈F,x < N)(hFl:F.length<=100000):
  FW SS 61 [.int .i64 (N:Int),.slice a n c,.func (.func f) ⟨[]⟩ ⟨[.pointer (some ⟨kn,0,none⟩)]⟩] h (sQ h A F N):=by
 have b0:=BR.new w N;have hal46:aD SS.P 46=some (.cells [.slice none 0 0] 46 0 true,gb):=by kernel_rfl
 have hal48:aD SS.P 48=some (.cells [.slice none 0 0] 48 0 true,gb):=by kernel_rfl
 refine EV (N:Int) a n c f kn h _ ⟨_,_,_,NC N (by omega),_,hal46,?_⟩;have o0:=b0.row.ok;have lt0:=b0.row.lt;have n0:=b0.row.new;generalize h.push (.cells ((List.replicate N false).map Value.bool) 4 1 true)=g0 at *;have o1:=(Ok.refl o0.wf).push (.cells [.slice none 0 0] 46 0 true);have k1:Bx1 (g0.push (.cells [.slice none 0 0] 46 0 true)) g0.next 46 (.slice none 0 0):=ay g0 _;refine ⟨_,k1.st Nj (d7 _ _ _) rfl,_,hal48,?_⟩;obtain ⟨o2,k2⟩:=dG (cs:=[.slice (some ⟨h.next,0,none⟩) N N]) o0.wf o1 k1 (le_refl _);generalize (Upd.set g0.next (.cells [.slice (some ⟨h.next,0,none⟩) N N] 46 0 true)).app (g0.push (.cells [.slice none 0 0] 46 0 true))=g1 at *;have o3:=(Ok.refl o2.wf).push (.cells [.slice none 0 0] 48 0 true);have k3:Bx1 (g1.push (.cells [.slice none 0 0] 48 0 true)) g1.next 48 (.slice none 0 0):=ay g1 _;have l1:=o2.nx;have l2:=o2.wf _ _ k2;have l0:=o0.nx;have st:Sst h g0.next g1.next h.next N (List.replicate N false) [] (g1.push (.cells [.slice none 0 0] 48 0 true)):=
  ⟨Bx1.ok (show Bx1 g1 g0.next 46 _ from k2) o3,⟨_,k3,OwnG.nil _ _ _,by simp [aK],by simp [aK],by simp [aK]⟩,(b0.trans o2).trans o3,by omega,by omega,by omega,by omega,by omega⟩
 generalize g1.push (.cells [.slice none 0 0] 48 0 true)=g2 at *;have hc:Num.cntF (List.replicate N false)=N:=by simp [Num.cntF]
 refine oq (N:Int) a n c f kn g0.next g1.next (OL h A F g0.next g1.next h.next N n) (sQ h A F N) (fun mz i=> ?_) n (i:=0) ⟨by omega,rfl,_,_,⟨st,Num.sinv_new N _,by rw [hc]; simp⟩,fun x hx=>(by rw [take_zero] at hx; cases hx)⟩;intros; rename_i gg hi;obtain ⟨f1,f2,L,T,q,hz⟩:=hi;have hn:=Ir rf;refine ae (fun q1=> ?_) (fun q1=> ?_)
 ·have q1:=dT q1;obtain ⟨x,hx⟩: ∃ x,F[i]?=some x:=⟨_,gE (by omega)⟩
  obtain ⟨p,e1,e2⟩:=Mg (rf.ok q.st.row.row.ok) hx;have hxF:=List.mem_of_getElem? hx;refine ⟨_,e1,_,e2,(zL w hN q (hF x hxF) (.base hxF)).mono ?_⟩;rintro _ g3 ⟨rfl,L',T',q',h1,h2,h3⟩;refine ⟨rfl,?_⟩;rw [aH (i:=i) (n:=n) (by omega) (by omega)];refine cA (mz - 1) (by omega) ⟨by omega,by omega,L',T',q',fun z hz'=> ?_⟩;rw [take_add_one,hx] at hz';rcases mem_append.1 hz' with h4 | h4
  ·exact h1 z (hz z h4)
  ·have:z=x:=by simpa using h4
   rw [this]; exact h2
 ·have q1:=dF q1;rw [take_of_length_le (by omega)] at hz;exact JJ w hN hA hAin hAl nx (2*Num.cntF L+T.length) (dm:=0) ⟨L,T,q,hz,le_refl _⟩
end
end
section
theorem az {α:Type}{l:List α}{i j:Nat}{x y:α}(h:(l.set i x)[j]?=some y):(j=i/\y=x)\/(j≠i/\l[j]?=some y):=by
 rw [getElem?_set] at h;split at h
 ·next e=>
  split at h
  ·exact .inl ⟨e.symm,(oI h).symm⟩
  ·cases h
 ·next e=>exact .inr ⟨fun c=>e c.symm,h⟩
structure Fam (hb g:Heap)(X:Nat->Prop)(vs:List Value)(F:List (List Nat)):Prop where
 len:vs.length=F.length
 own: ∀ (i:Nat)(v:Value)(l:List Nat),vs[i]?=some v->F[i]?=some l->OwnG hb g 3 v (l.map iv)
 dis: ∀ (i j:Nat)(v v':Value),i≠j->vs[i]?=some v->vs[j]?=some v'-> ∀ k,aK v=some k->aK v'≠some k
 out: ∀ (i:Nat)(v:Value),vs[i]?=some v-> ∀ k,aK v=some k-> ¬ X k
section
variable {hb g:Heap} {X:Nat->Prop} {vs:List Value} {F:List (List Nat)}
theorem Fam.keep (f:Fam hb g X vs F){g':Heap}(h: ∀ (k:Nat) (B:Blk),¬ X k->g.get k=some B->g'.get k=some B):Fam hb g' X vs F:=
 ⟨f.len,fun i v l hv hl=>(f.own i v l hv hl).keep fun k B hk hB=>h k B (f.out i v hv k hk) hB,f.dis,f.out⟩
theorem Fam.ok (f:Fam hb g X vs F){g':Heap}(o:Ok g g'):Fam hb g' X vs F:=f.keep fun k B _ hB=>o.ext k B hB
theorem Fam.at_ (f:Fam hb g X vs F){i:Nat}{l:List Nat}(hl:F[i]?=some l): ∃ (a:Option Addr)(c:Nat),vs[i]?=some (.slice a l.length c)/\OwnG hb g 3 (.slice a l.length c) (l.map iv):=by
 have hi:=(List.getElem?_eq_some_iff.1 hl).1;obtain ⟨v,hv⟩: ∃ v,vs[i]?=some v:=⟨_,gE (by rw [f.len]; exact hi)⟩
 have o:=f.own i v l hv hl;obtain ⟨a,c,rfl⟩:=o.slc;rw [lM] at *;exact ⟨a,c,hv,o⟩
theorem Fam.snoc (w:Wf hb)(ok:Ok hb g)(f:Fam hb g X vs F)(hX: ∀ k,X k->k < g.next){idx:Nat}{v:Value}{l:List Nat}(hv:vs[idx]?=some v)(hl:F[idx]?=some l){x:Nat}{kx:Nat}(hkx:g.get kx=some (.cells [.int .i64 (x:Int)] 3 1 true))(hll:l.length<=100000):
  ∃ (b:Option Addr)(n c:Nat)(u:Upd),aJ SS.P 48 48 v (.slice (some ⟨kx,0,none⟩) 1 1) g=some (.slice b n c,u)/\n=l.length+1/\Fam hb (u.app g) X (vs.set idx (.slice b n c)) (F.set idx (l++[x]))/\Ok hb (u.app g)/\
   (∀ j B,g.get j=some B->aK v≠some j->(u.app g).get j=some B)/\g.next<=(u.app g).next:=by
 have ov:=f.own idx v l hv hl;obtain ⟨b,n,c,u,a1,a2,a3,a4,a5,a6,a7⟩:=CG w ok ov hkx (by rw [lM]; exact hll);rw [lM] at a2;refine ⟨b,n,c,u,a1,a2,⟨by rw [length_set,length_set]; exact f.len,fun i v' l' hv' hl'=> ?_,fun i j v1 v2 hij h1 h2 k hk1 hk2=> ?_,fun i v' hv' k hk hXk=> ?_⟩,a4,a5,a7⟩
 ·rcases az hv' with ⟨e1,rfl⟩ | ⟨e1,h1⟩
  ·rcases az hl' with ⟨_,rfl⟩ | ⟨e2,_⟩
   ·rw [List.map_append]; exact a3
   ·exact absurd e1 e2
  ·rcases az hl' with ⟨e2,_⟩ | ⟨_,h2⟩
   ·exact absurd e2 e1
   ·exact (f.own i v' l' h1 h2).keep fun k B hk hB=>a5 k B hB fun c=>f.dis i idx v' v e1 h1 hv k hk c
 ·have lt: ∀ (j:Nat)(v2:Value),vs[j]?=some v2->aK v2=some k->k < g.next:=fun j v2 h2 hk2=>by
   obtain ⟨l2,hl2⟩: ∃ l2,F[j]?=some l2:=⟨_,gE (by rw [<-f.len]; exact (List.getElem?_eq_some_iff.1 h2).1)⟩
   exact ((f.own j v2 l2 h2 hl2).lt ok.wf hk2).1
  rcases az h1 with ⟨e1,rfl⟩ | ⟨e1,h1⟩
  ·rcases az h2 with ⟨e2,_⟩ | ⟨e2,h2⟩
   ·exact hij (by rw [e1,e2])
   ·rcases a6 k hk1 with h3 | h3
    ·have:=lt j v2 h2 hk2; omega
    ·exact f.dis idx j v v2 (fun c=>e2 c.symm) hv h2 k h3 hk2
  ·rcases az h2 with ⟨e2,rfl⟩ | ⟨e2,h2⟩
   ·rcases a6 k hk2 with h3 | h3
    ·have:=lt i v1 h1 hk1; omega
    ·exact f.dis idx i v v1 (fun c=>e1 c.symm) hv h1 k h3 hk1
   ·exact f.dis i j v1 v2 hij h1 h2 k hk1 hk2
 ·rcases az hv' with ⟨e1,rfl⟩ | ⟨e1,h1⟩
  ·rcases a6 k hk with h3 | h3
   ·have:=hX k hXk; omega
   ·exact f.out idx v hv k h3 hXk
  ·exact f.out i v' h1 k hk hXk
end
structure Us (hb:Heap)(R:Nat)(kt:Nat->Nat)(N:Nat)(X:Nat->Prop)(vs:List Value)(F:List (List Nat))(g:Heap):Prop where
 cc: ∀ r,r < R->g.get (kt r)=some (.cells ((vs.drop (r*N)).take N) 48 1 true)
 fam:Fam hb g X vs F
 ok:Ok hb g
 len:F.length=R*N+1
 xt: ∀ r,r < R->X (kt r)/\hb.next<=kt r
 inj: ∀ r r',r < R->r' < R->r≠r'->kt r≠kt r'
 xlt: ∀ k,X k->k < g.next
section
variable {hb g:Heap} {R:Nat} {kt:Nat->Nat} {N:Nat} {X:Nat->Prop} {vs:List Value} {F:List (List Nat)}
theorem Us.ext (s:Us hb R kt N X vs F g){g':Heap}(o:Ok g g'):Us hb R kt N X vs F g':=
 ⟨fun r hr=>o.ext _ _ (s.cc r hr),s.fam.ok o,s.ok.trans o,s.len,s.xt,s.inj,fun k hk=>lt_of_lt_of_le (s.xlt k hk) o.nx⟩
theorem F5 {r i:Nat}(hr:r < R)(hi:i < N):r*N+i < R*N+1:=by
 have:(r+1)*N<=R*N:=mul_le_mul_right _ hr;rw [add_mul,one_mul] at this;omega
theorem Us.ld (s:Us hb R kt N X vs F g){r i:Nat}(hr:r < R)(hi:i < N): ∃ (l:List Nat)(a:Option Addr)(c:Nat),F[r*N+i]?=some l/\vs[r*N+i]?=some (.slice a l.length c)/\ag SS.P 72 (.slice (some ⟨kt r,0,none⟩) N N) (.int .i64 (i:Int))=some (.pointer (some ⟨kt r,i,none⟩))/\ ∀ g',Us hb R kt N X vs F g'->ah SS.P 48 g' (.pointer (some ⟨kt r,i,none⟩))=some (.slice a l.length c)/\Rd g' 3 (.slice a l.length c) (l.map iv):=by
 have hlt:=F5 hr hi;obtain ⟨l,hl⟩: ∃ l,F[r*N+i]?=some l:=⟨_,gE (by rw [s.len]; exact hlt)⟩
 obtain ⟨a,c,hv,_⟩:=s.fam.at_ hl;refine ⟨l,a,c,hl,hv,?_,fun g' s'=>⟨?_,?_⟩⟩
 ·have:=Ff (P:=SS.P) rN za (k:=kt r) (off:=0) (n:=N) (c:=N) (ik:= .i64) (i:=(i:Int)) (by omega) (by omega);rw [this,toNat_natCast,zero_add,mul_one]
 ·have h1:((vs.drop (r*N)).take N)[i]?=some (.slice a l.length c):=by rw [getElem?_take,if_pos hi,getElem?_drop]; exact hv
  rw [cZ kJ zU (s'.cc r hr) (List.getElem?_eq_some_iff.1 h1).1,gD,h1]; rfl
 ·exact (s'.fam.own _ _ _ hv hl).rd
theorem tY {α:Type}(vs:List α)(o N i:Nat)(x:α)(hi:i < N):((vs.set (o+i) x).drop o).take N=((vs.drop o).take N).set i x:=by
 rw [List.drop_set,if_neg (by omega),show o+i - o=i by omega,List.take_set]
theorem oB {α:Type}(vs:List α)(o N j:Nat)(x:α)(h:j < o\/o+N<=j):((vs.set j x).drop o).take N=(vs.drop o).take N:=by
 apply List.ext_getElem?;intro i;rw [getElem?_take,getElem?_take,getElem?_drop,getElem?_drop];split
 ·rw [getElem?_set,if_neg (by omega)]
 ·rfl
theorem Us.put (w:Wf hb)(s:Us hb R kt N X vs F g){r i:Nat}(hr:r < R)(hi:i < N){vs':List Value}{F':List (List Nat)}{b:Option Addr}{n c:Nat}{l':List Nat}(ev:vs'=vs.set (r*N+i) (.slice b n c))(eF:F'=F.set (r*N+i) l'){g2:Heap}(fm:Fam hb g2 X vs' F')(ok2:Ok hb g2)(hk: ∀ j B,g.get j=some B->X j->g2.get j=some B)(hn:g.next<=g2.next):
  ∃ u:Upd,ai SS.P 48 (.pointer (some ⟨kt r,i,none⟩)) (.slice b n c) g2=some (undef,u)/\Us hb R kt N X vs' F' (u.app g2)/\(∀ j B,g2.get j=some B->j≠kt r->(u.app g2).get j=some B):=by
 have hc:=hk _ _ (s.cc r hr) (s.xt r hr).1;have hlt:=F5 hr hi;have hl:i < ((vs.drop (r*N)).take N).length:=by
  have h1:(R*N+1)=vs.length:=by rw [s.fam.len,s.len]
  have h2:(r+1)*N<=R*N:=mul_le_mul_right _ hr;rw [add_mul,one_mul] at h2;rw [length_take,length_drop]; omega
 refine ⟨_,lI za hc hl (d7 _ _ _) rfl,?_,fun j B hj hne=> ?_⟩
 ·have hset: ∀ j,j≠kt r->((Upd.set (kt r) (.cells (((vs.drop (r*N)).take N).set i (.slice b n c)) 48 1 true)).app g2).get j=g2.get j:=fun j hj=>by
   show (g2.set (kt r) _).get j=_;rw [Heap.get_set,if_neg hj]
  refine ⟨fun r' hr'=> ?_,fm.keep fun k B hX hB=> ?_,ok2.set _ (s.xt r hr).2 (ok2.wf _ _ hc) w,by rw [eF,length_set]; exact s.len,s.xt,s.inj,fun k hX=>lt_of_lt_of_le (s.xlt k hX) hn⟩
  ·by_cases e:r'=r
   ·subst e;show (g2.set (kt r') _).get (kt r')=_;rw [Heap.get_set,if_pos rfl,ev,tY _ _ _ _ _ hi]
   ·rw [hset _ (s.inj r' r hr' hr e),hk _ _ (s.cc r' hr') (s.xt r' hr').1,ev,oB];rcases lt_or_ge r r' with h1 | h1
    ·have:=mul_le_mul_right N (show r+1<=r' from h1);rw [add_mul,one_mul] at this;exact .inl (by omega)
    ·have:=mul_le_mul_right N (show r'+1<=r by omega);rw [add_mul,one_mul] at this;exact .inr (by omega)
  ·rw [hset k (fun c=>hX (c ▸ (s.xt r hr).1))]; exact hB
 ·show (g2.set (kt r) _).get j=_;rw [Heap.get_set,if_neg hne]; exact hj
theorem Us.adj (s:Us hb R kt N X vs F g){r:Nat}(hr:r < R):AdjR g (some ⟨kt r,0,none⟩) N N ((F.drop (r*N)).take N):=by
 have h2:(r+1)*N<=R*N:=mul_le_mul_right _ hr;rw [add_mul,one_mul] at h2;have hF:=s.len;have hv:=s.fam.len;have l1:((vs.drop (r*N)).take N).length=N:=by rw [length_take,length_drop]; omega
 refine ⟨by rw [length_take,length_drop]; omega,(vs.drop (r*N)).take N,.inr ⟨kt r,0,_,N,true,by rw [l1],s.cc r hr,by rw [drop_zero,List.take_length]⟩,l1,fun i l hl=> ?_⟩;rw [getElem?_take] at hl;split at hl
 ·next hi=>
  rw [getElem?_drop] at hl;obtain ⟨a,c,h3,h4⟩:=s.fam.at_ hl;exact ⟨a,_,c,by rw [getElem?_take,if_pos hi,getElem?_drop]; exact h3,h4.rd⟩
 ·cases hl
end
theorem rE {g:Heap}(w:Wf g){n j:Nat}(hj:j < n)(B:Blk):Ok g (ax (Go.Ab.room g n) g.next [(j,B)])/\(ax (Go.Ab.room g n) g.next [(j,B)]).get (g.next+j)=some B:=by
 refine ⟨((Ok.refl w).room n).set B (Nat.le_add_right _ _) (Nat.add_lt_add_left hj _) w,?_⟩;show ((Go.Ab.room g n).set (g.next+j) B).get (g.next+j)=_;rw [Heap.get_set,if_pos rfl]
end
noncomputable def aY:FD:=cB Tryz.f41 [([1,1,1,1,0,1,0,0],[1,2,3,4,5,6,22,23,24]),([1,1,1,1,0,1,0,0,1,1,0,0,1,1,1,0,0],[1,2,3,4,5,6,7,8,22,23,24,37,38,39]),([1,1,1,1,1,1,0,1,0,0],[11,77,78,79])]
abbrev di (k k4 k5:Nat)(a:OA)(n c:Nat)(i:Nat)(e:OA)(en ec:Nat):LV:=[(pA k),nA,(iA n),(pA k4),(pA k5),(.slice e en ec),(.slice a n c),(iA n),(iA i)]
abbrev dR (k k4 k5:Nat)(a:OA)(n c k8:Nat)(e:OA)(en ec:Nat)(b:OA)(m d i:Nat)(j:Nat):LV:=[(pA k),nA,(iA n),(pA k4),(pA k5),(.slice e en ec),(iA i),(pA k8),(.slice a n c),(iA n),(iA i),(.slice b m d),(iA m),(iA j)]
abbrev fk (n kl kr:Nat)(i:Nat):LV:=[(sA kl n n),(sA kr n n),(iA n),(iA i)]
theorem Fx (mv:LV)(h:Heap)(Q:VH)(hx:xN (dY SS.P 24 (.agg ⟨mv⟩)) h fun B1 g2=>xP (af SS.P 24 (pA (h.next)) 3) fun p3=>xL (ah SS.P 22 g2 (.pointer (some p3))) fun a4 n5 c6=>zR (aX SS.P 72 (iA n5) (iA n5)) fun B7 n8 c9=>zR (aX SS.P 72 (iA n5) (iA n5)) fun B10 n11 c12=>zN (aD SS.P 72) fun B13=>zN (aD SS.P 72) fun B14=>xU (ai SS.P 72 (pA (g2.next+4)) (sA (g2.next+1) n8 c9) (ax (room g2 8) g2.next [(5,B14),(4,B13),(1,B7)])) (ax (room g2 8) g2.next [(5,B14),(4,B13),(1,B7)]) fun u15 g16=>xU (ai SS.P 72 (pA (g2.next+5)) (sA (g2.next+3) n11 c12) (ax g16 g2.next [(3,B10)])) (ax g16 g2.next [(3,B10)]) fun u17 g18=>xP (af SS.P 24 (pA (h.next)) 3) fun p19=>xL (ah SS.P 22 g18 (.pointer (some p19))) fun a20 n21 c22=>LL SS aY [1,1,1,1,0,1,0,0] [(pA (h.next)),nA,(iA n5),(pA (g2.next+4)),(pA (g2.next+5)),nA,(.slice a20 n21 c22),(iA n21),(.int .i64 0)] g18 (KK SS aY [1,1,1,1,0,1,0] [] (EE SS aY Q))):FW SS 41 [(.agg ⟨mv⟩)] h Q:=cE aY Tryz.func41 (aj hx)
theorem nO (mv:LV)(k k4 k5:Nat)(a:OA)(n c:Nat)(Inv:Nat->Nat->OA->Nat->Nat->Heap->Prop)(Q:VH)(step: ∀ (mz:Nat) (i:Nat) (e:OA) (en ec:Nat) (zz:Nat->Value) (h:Heap),Inv mz i e en ec h->aB (decide (((i:Int):Int) < (n:Int))) (xP (ag SS.P 22 (.slice a n c) (iA i)) fun p23=>xA (ah SS.P 37 h (.pointer (some p23))) fun c24=>xN (aD SS.P 37) h fun B25 g26=>xU (ai SS.P 37 (pA (h.next)) (.agg ⟨c24⟩) g26) g26 fun u27 g28=>xP (af SS.P 37 (pA (h.next)) 0) fun p29=>xS (ah SS.P 9 g28 (.pointer (some p29))) fun l30=>aB (!((l30:LB) == [])) (xR (an SS.P 48 1 [(0,(iA i))]) g28 fun B31 n32 c33 g34=>xE (aJ SS.P 48 48 (.slice e en ec) (sA (g28.next) n32 c33) g34) g34 fun a35 n36 c37 u38 g39=>xP (af SS.P 37 (pA (h.next)) 1) fun p40=>xL (ah SS.P 35 g39 (.pointer (some p40))) fun a41 n42 c43=>LL SS aY [1,1,1,1,0,1,0,0,1,1,0,0,1,1,1,0,0] (dR k k4 k5 a n c (h.next) a35 n36 c37 a41 n42 c43 i 0) g39 (KK SS aY [1,1,0,0,1,1,1,0] [1,1,1,1,0,1,0,0] (RR aY [1,1,1,1,0,1,0,0] (xh (di k k4 k5 a n c) Inv) mz (KK SS aY [1,1,1,1,0,1,0] [] (EE SS aY Q))))) (xP (af SS.P 37 (pA (h.next)) 1) fun p44=>xL (ah SS.P 35 g28 (.pointer (some p44))) fun a45 n46 c47=>LL SS aY [1,1,1,1,0,1,0,0,1,1,0,0,1,1,1,0,0] (dR k k4 k5 a n c (h.next) e en ec a45 n46 c47 i 0) g28 (KK SS aY [1,1,0,0,1,1,1,0] [1,1,1,1,0,1,0,0] (RR aY [1,1,1,1,0,1,0,0] (xh (di k k4 k5 a n c) Inv) mz (KK SS aY [1,1,1,1,0,1,0] [] (EE SS aY Q)))))) (xP (af SS.P 24 (pA k) 1) fun p48=>xI .i64 (ah SS.P 3 h (.pointer (some p48))) fun n49=>xR (an SS.P 48 1 [(0,(.int .i64 n49))]) h fun B50 n51 c52 g53=>FW SS 61 [(iA n),(sA (h.next) n51 c52),(.func (.func 62) ⟨[]⟩ ⟨[(pA k4)]⟩)] g53 fun v54 h55=>yL v54 fun a56 n57 c58=>FW SS 61 [(iA n),(.slice e en ec),(.func (.func 63) ⟨[]⟩ ⟨[(pA k5)]⟩)] h55 fun v59 h60=>yL v59 fun a61 n62 c63=>LL SS aY [1,1,1,1,1,1,0,1,0,0] [(.slice a56 n57 c58),(.slice a61 n62 c63),(iA n62),(.int .i64 0)] h60 (KK SS aY [1,1,1,1,1,1,0,1,0] [] (EE SS aY Q))))(mz:Nat){i:Nat}{e:OA}{en ec:Nat}{h:Heap}(hi:Inv mz i e en ec h):LL SS aY [1,1,1,1,0,1,0,0] (di k k4 k5 a n c i e en ec) h (KK SS aY [1,1,1,1,0,1,0] [] (EE SS aY Q)):=
 zr (di k k4 k5 a n c) Inv (fun mz i e en ec zz h hi=>aj (step mz i e en ec zz h hi)) mz hi
theorem nZ (mv:LV)(k k4 k5:Nat)(a:OA)(n c:Nat)(k8:Nat)(e:OA)(en ec:Nat)(b:OA)(m d:Nat)(Inv:Nat->Nat->OA->Nat->Nat->Heap->Prop)(mz i:Nat)(Inv2:Nat->Nat->Heap->Prop)(Q:VH)(step: ∀ (mz2:Nat) (j:Nat) (zz:Nat->Value) (h:Heap),Inv2 mz2 j h->aB (decide (((j:Int):Int) < (m:Int))) (xP (ag SS.P 35 (.slice b m d) (iA j)) fun p64=>xA (ah SS.P 39 h (.pointer (some p64))) fun c65=>xN (aD SS.P 39) h fun B66 g67=>xU (ai SS.P 39 (pA (h.next)) (.agg ⟨c65⟩) g67) g67 fun u68 g69=>xL (ah SS.P 72 (room g69 12) (pA k4)) fun a70 n71 c72=>xL (ah SS.P 72 (room g69 12) (pA k4)) fun a73 n74 c75=>xP (ag SS.P 72 (.slice a73 n74 c75) (iA i)) fun p76=>xL (ah SS.P 48 (room g69 12) (.pointer (some p76))) fun a77 n78 c79=>xP (af SS.P 39 (pA (h.next)) 3) fun p80=>xI .i64 (ah SS.P 3 (room g69 12) (.pointer (some p80))) fun n81=>zR (an SS.P 48 1 [(0,(.int .i64 n81))]) fun B82 n83 c84=>xE (aJ SS.P 48 48 (.slice a77 n78 c79) (sA (g69.next+8) n83 c84) (ax (room g69 12) g69.next [(8,B82)])) (ax (room g69 12) g69.next [(8,B82)]) fun a85 n86 c87 u88 g89=>xP (ag SS.P 72 (.slice a70 n71 c72) (iA i)) fun p90=>xU (ai SS.P 48 (.pointer (some p90)) (.slice a85 n86 c87) g89) g89 fun u91 g92=>(ah SS.P 72 g89 (pA k4)=some (.slice a70 n71 c72)/\eK 4 (.slice a70 n71 c72) (.slice a70 n71 c72)=true)/\xL (ah SS.P 72 (room g92 13) (pA k5)) fun a93 n94 c95=>xP (af SS.P 39 (pA (h.next)) 3) fun p96=>xI .i64 (ah SS.P 3 (room g92 13) (.pointer (some p96))) fun n97=>xL (ah SS.P 72 (room g92 13) (pA k5)) fun a98 n99 c100=>xP (af SS.P 39 (pA (h.next)) 3) fun p101=>xI .i64 (ah SS.P 3 (room g92 13) (.pointer (some p101))) fun n102=>xP (ag SS.P 72 (.slice a98 n99 c100) (.int .i64 n102)) fun p103=>xL (ah SS.P 48 (room g92 13) (.pointer (some p103))) fun a104 n105 c106=>zR (an SS.P 48 1 [(0,(iA i))]) fun B107 n108 c109=>xE (aJ SS.P 48 48 (.slice a104 n105 c106) (sA (g92.next+9) n108 c109) (ax (room g92 13) g92.next [(9,B107)])) (ax (room g92 13) g92.next [(9,B107)]) fun a110 n111 c112 u113 g114=>xP (ag SS.P 72 (.slice a93 n94 c95) (.int .i64 n97)) fun p115=>xU (ai SS.P 48 (.pointer (some p115)) (.slice a110 n111 c112) g114) g114 fun u116 g117=>(ah SS.P 72 g114 (pA k5)=some (.slice a93 n94 c95)/\eK 4 (.slice a93 n94 c95) (.slice a93 n94 c95)=true)/\(ah SS.P 3 g114 (.pointer (some p96))=some (.int .i64 n97)/\eK 4 (.int .i64 n97) (.int .i64 n97)=true)/\aF (gM (dR k k4 k5 a n c k8 e en ec b m d i) Inv2) mz2 [(pA k),nA,(iA n),(pA k4),(pA k5),(.slice e en ec),(iA i),(pA k8),(.slice a n c),(iA n),(iA i),(.slice b m d),(iA m),(.int .i64 (wrap .i64 ((j:Int)+1)))] g117) (aF (xh (di k k4 k5 a n c) Inv) mz [(pA k),nA,(iA n),(pA k4),(pA k5),(.slice e en ec),(.slice a n c),(iA n),(.int .i64 (wrap .i64 ((i:Int)+1)))] h))(mz2:Nat){j:Nat}{h:Heap}(hi:Inv2 mz2 j h):LL SS aY [1,1,1,1,0,1,0,0,1,1,0,0,1,1,1,0,0] (dR k k4 k5 a n c k8 e en ec b m d i j) h (KK SS aY [1,1,0,0,1,1,1,0] [1,1,1,1,0,1,0,0] (RR aY [1,1,1,1,0,1,0,0] (xh (di k k4 k5 a n c) Inv) mz (KK SS aY [1,1,1,1,0,1,0] [] (EE SS aY Q)))):=
 cQ (dR k k4 k5 a n c k8 e en ec b m d i) Inv2 (fun mz2 j zz h hi=>aj (step mz2 j zz h hi)) mz2 hi
theorem nN (mv:LV)(n kl kr:Nat)(Inv3:Nat->Nat->Heap->Prop)(Q:VH)(step: ∀ (mz3:Nat) (i:Nat) (zz:Nat->Value) (h:Heap),Inv3 mz3 i h->aB (decide (((i:Int):Int) < (n:Int))) (xP (ag SS.P 46 (sA kr n n) (iA i)) fun p118=>xB (ah SS.P 4 h (.pointer (some p118))) fun b119=>xP (ag SS.P 46 (sA kl n n) (iA i)) fun p120=>xB (ah SS.P 4 h (.pointer (some p120))) fun b121=>aB b121 (xP (ag SS.P 46 (sA kl n n) (iA i)) fun p122=>xU (ai SS.P 4 (.pointer (some p122)) (.bool b119) h) h fun u123 g124=>aF (gM (fk n kl kr) Inv3) mz3 [(sA kl n n),(sA kr n n),(iA n),(.int .i64 (wrap .i64 ((i:Int)+1)))] g124) (xP (ag SS.P 46 (sA kl n n) (iA i)) fun p125=>xU (ai SS.P 4 (.pointer (some p125)) (.bool false) h) h fun u126 g127=>aF (gM (fk n kl kr) Inv3) mz3 [(sA kl n n),(sA kr n n),(iA n),(.int .i64 (wrap .i64 ((i:Int)+1)))] g127)) (Q (sA kl n n) h))(mz3:Nat){i:Nat}{h:Heap}(hi:Inv3 mz3 i h):LL SS aY [1,1,1,1,1,1,0,1,0,0] (fk n kl kr i) h (KK SS aY [1,1,1,1,1,1,0,1,0] [] (EE SS aY Q)):=
 cQ (fk n kl kr) Inv3 (fun mz3 i zz h hi=>aj (step mz3 i zz h hi)) mz3 hi
theorem xa {P:Program}{t:TypeId}{g g':Heap}(o:Ok g g'){a v:Value}(h:ah P t g a=some v):ah P t g' a=some v:=by
 unfold ah at h ⊢;split at h
 ·next d k i hd=>
  split at h
  ·next cs e sz wr hk=>
   rw [o.ext _ _ hk];exact h
  ·cases h
 ·cases h
theorem StRow.at2 {g0 g:Heap}{a:Option Addr}{n c:Nat}{l:List MSt}(r:StRow g0 (.slice a n c) l)(ok:Ok g0 g){i:Nat}{s:MSt}(hs:l[i]?=some s):
  ∃ (b o:Nat)(x:Option Addr)(y z:Nat),ag SS.P 22 (.slice a n c) (.int .i64 (i:Int))=some (.pointer (some ⟨b,o,none⟩))/\ah SS.P 37 g (.pointer (some ⟨b,o,none⟩))=some (.agg ⟨[aa s.f,.slice x y z]⟩)/\
   ah SS.P 9 g (.pointer (some ⟨b,o+0,none⟩))=some (aa s.f)/\ah SS.P 35 g (.pointer (some ⟨b,o+1,none⟩))=some (.slice x y z)/\ArcRow g0 (.slice x y z) s.arcs:=by
 obtain ⟨b,o,x,y,z,e1,e2,e3,e4,ar⟩:=r.at_ hs;exact ⟨b,o,x,y,z,e1,xa ok e2,xa ok e3,xa ok e4,ar⟩
noncomputable def ti48:TypeInfo:=(SS.P.info? 48).getD default
theorem I6:SS.P.info? 48=some ti48:=by kernel_rfl
theorem Fo:ti48.size=1:=by kernel_rfl
theorem Bx:ti48.bytes=24:=by kernel_rfl
def tK:Value:= .slice none 0 0
theorem LC:cw SS.P 48=some tK:=by kernel_rfl
theorem MY (n:Nat)(hn:n<=100000):aX SS.P 72 (.int .i64 (n:Int)) (.int .i64 (n:Int))=some (.cells (List.replicate n tK) 48 1 true,gH n n):=by
 unfold aX aM;dsimp only;rw [rN]
 try dsimp only
 change (match SS.P.info? 48,cw SS.P 48 with
  | some i,some z=>(if z.cells.size=i.size/\0 < i.size/\(0:Int)<=(n:Int)/\(n:Int)<=(n:Int)/\(n:Int)*i.bytes<=140737488355328/\(n:Int)<=1099511627776 then some (Blk.cells (aZ z.cells.toList (n:Int).toNat) 48 i.size true,fun k=>Value.slice (some ⟨k,0,none⟩) (n:Int).toNat (n:Int).toNat) else none)
  | _,_=>none)=_
 rw [I6,LC];dsimp only;rw [Fo,Bx,if_pos ⟨rfl,by omega,by omega,Int.le_refl _,by omega,by omega⟩];have e:((n:Int)).toNat=n:=by omega
 rw [e,show (tK).cells.toList=[tK] from rfl,lB]; rfl
def qw (s:MSt):List Nat:=s.arcs.map fun q=>q.t.toNat
def bn (M:Mach)(y x:Nat):Prop:= ∃ s,M.states[y]?=some s/\x∈qw s
def iC (M:Mach)(x:Nat):Prop:= ∃ s,M.states[x]?=some s/\s.f≠[]
def bD (M:Mach)(x:Nat):Prop:=Num.Rch (bn M) (fun y=>y=M.start.toNat) x/\Num.Rch (fun y x=>bn M x y) (iC M) x
def IN (M:Mach)(i j y x:Nat):Prop:=(y < i/\bn M y x)\/(y=i/\ ∃ s,M.states[i]?=some s/\x∈(qw s).take j)
theorem jw {M:Mach}{i y x:Nat}:IN M i 0 y x↔y < i/\bn M y x:=by
 unfold IN;constructor
 ·rintro (h | ⟨_,s,_,h⟩)
  ·exact h
  ·rw [take_zero] at h; cases h
 ·exact .inl
theorem yl {M:Mach}{i j y x:Nat}{s:MSt}(hs:M.states[i]?=some s)(hj:s.arcs.length<=j):IN M i j y x↔y < i+1/\bn M y x:=by
 unfold IN;constructor
 ·rintro (⟨h1,h2⟩ | ⟨rfl,s',h1,h2⟩)
  ·exact ⟨by omega,h2⟩
  ·exact ⟨by omega,s',h1,List.mem_of_mem_take h2⟩
 ·rintro ⟨h1,h2⟩;rcases lt_or_ge y i with h3 | h3
  ·exact .inl ⟨h3,h2⟩
  ·obtain rfl:y=i:=by omega
   obtain ⟨s',h4,h5⟩:=h2;refine .inr ⟨rfl,s',h4,?_⟩;rw [hs] at h4;obtain rfl:=oI h4;rw [take_of_length_le (by unfold qw; rw [lM]; exact hj)];exact h5
theorem ze {M:Mach}{i j y x:Nat}{s:MSt}{q:MArc}(hs:M.states[i]?=some s)(hq:s.arcs[j]?=some q):IN M i (j+1) y x↔IN M i j y x\/(y=i/\x=q.t.toNat):=by
 have hq':(qw s)[j]?=some q.t.toNat:=by unfold qw; rw [getElem?_map,hq]; rfl
 have ht:(qw s).take (j+1)=(qw s).take j++[q.t.toNat]:=by rw [take_add_one,hq']; rfl
 unfold IN;constructor
 ·rintro (h | ⟨h1,s',h2,h3⟩)
  ·exact .inl (.inl h)
  ·rw [hs] at h2;obtain rfl:=oI h2;rw [ht,mem_append,mem_singleton] at h3;rcases h3 with h3 | h3
   ·exact .inl (.inr ⟨h1,s,hs,h3⟩)
   ·exact .inr ⟨h1,h3⟩
 ·rintro ((h | ⟨h1,s',h2,h3⟩) | ⟨h1,h2⟩)
  ·exact .inl h
  ·rw [hs] at h2;obtain rfl:=oI h2;exact .inr ⟨h1,s,hs,by rw [ht]; exact mem_append.2 (.inl h3)⟩
  ·exact .inr ⟨h1,s,hs,by rw [ht,h2]; exact mem_append.2 (.inr (mem_singleton.2 rfl))⟩
structure Dn (M:Mach)(n i j i' cN:Nat)(F:List (List Nat)):Prop where
 fw: ∀ y l,y < n->F[0*n+y]?=some l-> ∀ x,x∈l↔IN M i j y x
 bk: ∀ t l,t < n->F[1*n+t]?=some l-> ∀ x,x∈l↔IN M i j x t
 en: ∀ l,F[2*n]?=some l-> ∀ x,x∈l↔x < i'/\iC M x
 ln: ∀ l∈F,l.length<=cN
theorem AO {F:List (List Nat)}{idx:Nat}{l':List Nat}{c:Nat}(h: ∀ l∈F,l.length<=c)(h2:l'.length<=c+1): ∀ l∈F.set idx l',l.length<=c+1:=fun l hl=>by
 rcases List.mem_or_eq_of_mem_set hl with h1 | h1
 ·exact Nat.le_succ_of_le (h l h1)
 ·rw [h1]; exact h2
theorem Dn.arc {M:Mach}{n i j i' cN:Nat}{F:List (List Nat)}(d:Dn M n i j i' cN F)(hi:i < n){s:MSt}{q:MArc}(hs:M.states[i]?=some s)(hq:s.arcs[j]?=some q)(ht:q.t.toNat < n){l1 l2:List Nat}(h1:F[0*n+i]?=some l1)(h2:F[1*n+q.t.toNat]?=some l2):
  Dn M n i (j+1) i' (cN+1) ((F.set (0*n+i) (l1++[q.t.toNat])).set (1*n+q.t.toNat) (l2++[i])):=by
 have b1:=d.ln l1 (List.mem_of_getElem? h1);have b2:=d.ln l2 (List.mem_of_getElem? h2);refine ⟨fun y l hy hl x=> ?_,fun t l ht' hl x=> ?_,fun l hl x=> ?_,fun l hl=> ?_⟩
 ·rw [ze hs hq];rcases az hl with ⟨e,_⟩ | ⟨_,hl⟩
  ·omega
  ·rcases az hl with ⟨e,rfl⟩ | ⟨e,hl⟩
   ·obtain rfl:y=i:=by omega
    rw [mem_append,mem_singleton,d.fw y l1 hy h1 x];exact ⟨fun c=>c.imp id fun c=>⟨rfl,c⟩,fun c=>c.imp id fun c=>c.2⟩
   ·rw [d.fw y l hy hl x];exact ⟨.inl,fun c=>c.elim id fun c=>absurd (by rw [c.1]) e⟩
 ·rw [ze hs hq];rcases az hl with ⟨e,rfl⟩ | ⟨e,hl⟩
  ·obtain rfl:t=q.t.toNat:=by omega
   rw [mem_append,mem_singleton,d.bk _ l2 ht' h2 x];exact ⟨fun c=>c.imp id fun c=>⟨c,rfl⟩,fun c=>c.imp id fun c=>c.1⟩
  ·rcases az hl with ⟨e',_⟩ | ⟨_,hl⟩
   ·omega
   ·rw [d.bk t l ht' hl x];exact ⟨.inl,fun c=>c.elim id fun c=>absurd (by rw [c.2]) e⟩
 ·rcases az hl with ⟨e,_⟩ | ⟨_,hl⟩
  ·omega
  ·rcases az hl with ⟨e,_⟩ | ⟨_,hl⟩
   ·omega
   ·exact d.en l hl x
 ·rcases List.mem_or_eq_of_mem_set hl with h3 | h3
  ·rcases List.mem_or_eq_of_mem_set h3 with h4 | h4
   ·have:=d.ln l h4; omega
   ·rw [h4,length_append,length_singleton]; omega
  ·rw [h3,length_append,length_singleton]; omega
theorem Dn.fin {M:Mach}{n i cN:Nat}{F:List (List Nat)}(d:Dn M n i 0 i cN F)(hi:i < n){s:MSt}(hs:M.states[i]?=some s)(hf:s.f≠[]){l:List Nat}(hl:F[2*n]?=some l):Dn M n i 0 (i+1) (cN+1) (F.set (2*n) (l++[i])):=by
 have b1:=d.ln l (List.mem_of_getElem? hl);refine ⟨fun y l' hy hl' x=> ?_,fun t l' ht hl' x=> ?_,fun l' hl' x=> ?_,AO d.ln (by rw [length_append,length_singleton]; omega)⟩
 ·rcases az hl' with ⟨e,_⟩ | ⟨_,h⟩
  ·omega
  ·exact d.fw y l' hy h x
 ·rcases az hl' with ⟨e,_⟩ | ⟨_,h⟩
  ·omega
  ·exact d.bk t l' ht h x
 ·rcases az hl' with ⟨_,rfl⟩ | ⟨e,_⟩
  ·rw [mem_append,mem_singleton,d.en l hl x];constructor
   ·rintro (⟨h1,h2⟩ | rfl)
    ·exact ⟨by omega,h2⟩
    ·exact ⟨by omega,s,hs,hf⟩
   ·rintro ⟨h1,h2⟩;rcases lt_or_ge x i with h3 | h3
    ·exact .inl ⟨h3,h2⟩
    ·exact .inr (by omega)
  ·exact absurd rfl e
theorem Dn.nofin {M:Mach}{n i cN:Nat}{F:List (List Nat)}(d:Dn M n i 0 i cN F){s:MSt}(hs:M.states[i]?=some s)(hf:s.f=[]):Dn M n i 0 (i+1) (cN+1) F:=by
 refine ⟨d.fw,d.bk,fun l hl x=> ?_,fun l hl=>Nat.le_succ_of_le (d.ln l hl)⟩;rw [d.en l hl x];constructor
 ·rintro ⟨h1,h2⟩; exact ⟨by omega,h2⟩
 ·rintro ⟨h1,h2⟩;refine ⟨?_,h2⟩;rcases lt_or_ge x i with h3 | h3
  ·exact h3
  ·obtain rfl:x=i:=by omega
   obtain ⟨s',h4,h5⟩:=h2;rw [hs] at h4;obtain rfl:=oI h4;exact absurd hf h5
theorem Dn.next {M:Mach}{n i j cN:Nat}{F:List (List Nat)}(d:Dn M n i j (i+1) cN F){s:MSt}(hs:M.states[i]?=some s)(hj:s.arcs.length<=j):Dn M n (i+1) 0 (i+1) cN F:=by
 refine ⟨fun y l hy hl x=> ?_,fun t l ht hl x=> ?_,d.en,d.ln⟩
 ·rw [d.fw y l hy hl x,yl hs hj,jw]
 ·rw [d.bk t l ht hl x,yl hs hj,jw]
theorem Dn.new (M:Mach)(n:Nat):Dn M n 0 0 0 0 (List.replicate (2*n+1) []):=by
 have h: ∀ {i:Nat}{l:List Nat},(List.replicate (2*n+1) ([]:List Nat))[i]?=some l->l=[]:=fun {i l} hl=>by
  rw [getElem?_replicate] at hl;split at hl
  ·exact (oI hl).symm
  ·cases hl
 refine ⟨fun y l hy hl x=> ?_,fun t l ht hl x=> ?_,fun l hl x=> ?_,fun l hl=> ?_⟩
 ·rw [h hl,jw]; exact ⟨fun c=>(by cases c),fun c=>absurd c.1 (Nat.not_lt_zero _)⟩
 ·rw [h hl,jw]; exact ⟨fun c=>(by cases c),fun c=>absurd c.1 (Nat.not_lt_zero _)⟩
 ·rw [h hl]; exact ⟨fun c=>(by cases c),fun c=>absurd c.1 (Nat.not_lt_zero _)⟩
 ·rw [List.eq_of_mem_replicate hl]; exact le_refl _
theorem Us.tail {hb g:Heap}{R:Nat}{kt:Nat->Nat}{N:Nat}{X:Nat->Prop}{vs:List Value}{F:List (List Nat)}(s:Us hb R kt N X vs F g){vs':List Value}{F':List (List Nat)}{v:Value}{l':List Nat}(ev:vs'=vs.set (R*N) v)(eF:F'=F.set (R*N) l'){g2:Heap}(fm:Fam hb g2 X vs' F')(ok2:Ok hb g2)(hk: ∀ j B,g.get j=some B->X j->g2.get j=some B)(hn:g.next<=g2.next):Us hb R kt N X vs' F' g2:=by
 refine ⟨fun r hr=> ?_,fm,ok2,by rw [eF,length_set]; exact s.len,s.xt,s.inj,fun k hX=>lt_of_lt_of_le (s.xlt k hX) hn⟩;have h2:(r+1)*N<=R*N:=mul_le_mul_right _ hr;rw [add_mul,one_mul] at h2;rw [hk _ _ (s.cc r hr) (s.xt r hr).1,ev,oB _ _ _ _ _ (.inr h2)]
theorem H2 (k o n c:Nat):eK 4 (.slice (some ⟨k,o,none⟩) n c) (.slice (some ⟨k,o,none⟩) n c)=true:=by simp [eK]
section
theorem Fam.lt {hb g:Heap}{X:Nat->Prop}{vs:List Value}{F:List (List Nat)}(f:Fam hb g X vs F)(w:Wf g){i:Nat}{v:Value}(hv:vs[i]?=some v){k:Nat}(hk:aK v=some k):k < g.next:=by
 obtain ⟨l2,hl2⟩: ∃ l2,F[i]?=some l2:=⟨_,gE (by rw [<-f.len]; exact (List.getElem?_eq_some_iff.1 hv).1)⟩
 exact ((f.own i v l2 hv hl2).lt w hk).1
def Mc (hb:Heap):Nat->Prop:=fun k=>k=hb.next+1\/k=hb.next+3\/k=hb.next+4\/k=hb.next+5
def Ej (hb:Heap):Nat->Nat:=fun r=>hb.next+1+2*r
structure Ub (hb:Heap)(M:Mach)(n i j i' cN:Nat)(vs:List Value)(F:List (List Nat))(g:Heap):Prop where
 us:Us hb 2 (Ej hb) n (Mc hb) vs F g
 b4:Bx1 g (hb.next+4) 72 (.slice (some ⟨Ej hb 0,0,none⟩) n n)
 b5:Bx1 g (hb.next+5) 72 (.slice (some ⟨Ej hb 1,0,none⟩) n n)
 dn:Dn M n i j i' cN F
section
variable {hb:Heap} {M:Mach} {a:Option Addr} {n c k:Nat}
def MF (hb:Heap)(M:Mach)(n:Nat)(mz i:Nat)(e:Option Addr)(en ec:Nat)(g:Heap):Prop:=i<=n/\mz=n - i/\ ∃ vs F cN,Ub hb M n i 0 i cN vs F g/\vs[2*n]?=some (.slice e en ec)/\cN+fe (M.states.drop i)+(n - i)<=2300
def OP (hb:Heap)(M:Mach)(n:Nat)(e:Option Addr)(en ec m i:Nat)(mz2 j:Nat)(g:Heap):Prop:=j<=m/\mz2=m - j/\ ∃ vs F cN,Ub hb M n i j (i+1) cN vs F g/\vs[2*n]?=some (.slice e en ec)/\cN+(m - j)+fe (M.states.drop (i+1))+(n - (i+1))<=2300
set_option linter.defProp false in
def zm (w:Wf hb)(gd:Good M)(hnM:n=M.states.length)(hn:n<=300){s:MSt}{b:Option Addr}{m d i k8:Nat}(hs:M.states[i]?=some s)(hi:i < n)(ar:ArcRow hb (.slice b m d) s.arcs)(hsl:s.arcs.length<=2000)(mv:List Value)(e:Option Addr)(en ec mz:Nat)(hmz:mz=n - i)(Q:VH):=
 nZ mv k (hb.next+4) (hb.next+5) a n c k8 e en ec b m d (MF hb M n) mz i (OP hb M n e en ec m i) Q (by
  intro mz2 j; intros; rename_i g hin;obtain ⟨f1,f2,vs,F,cN,ub,hve,hcN⟩:=hin;have hm:=ar.len;have ok:=ub.us.ok;refine ae (fun g1=> ?_) (fun g1=> ?_)
  ·have g1:=dT g1;obtain ⟨q,hq⟩: ∃ q,s.arcs[j]?=some q:=⟨_,gE (by omega)⟩
   obtain ⟨bb,o,e1,e2,_⟩:=(ar.ok ok).at_ hq;have hin:=gd.arcs s (List.mem_of_getElem? hs) q (List.mem_of_getElem? hq);obtain ⟨T,hT⟩: ∃ T:Nat,q.t=(T:Int):=⟨q.t.toNat,by have:=hin.t0; omega⟩
   have hTn:T < n:=by have:=hin.t1; omega
   have hTq:q.t.toNat=T:=by omega
   obtain ⟨u1,p1,p2,p3⟩:=oz ok.wf q;have l3: ∀ g',AB g' g.next q->ah SS.P 3 g' (.pointer (some ⟨g.next,0+3,none⟩))=some (.int .i64 (T:Int)):=fun g' h=>by rw [<-hT]; exact AB.l3 h
   have hlt: ∀ (idx:Nat)(v:Value),vs[idx]?=some v->aK v≠some g.next:=fun idx v hv e=>by have:=ub.us.fam.lt ok.wf hv e; omega
   have xlt:=ub.us.xlt;have U2:=ub.us.ext p2;have B4:=ub.b4.ok p2;have B5:=ub.b5.ok p2;refine ⟨_,e1,_,e2,_,wn,u1,p1,?_⟩;generalize u1.app (g.push A0)=g2 at *;have w2:=U2.ok.wf;have oR:=(Ok.refl w2).room 12;obtain ⟨r1,a1,c1,hF1,hv1,ix1,Md⟩:=U2.ld (r:=0) (i:=i) (by omega) hi;have hr1:=ub.dn.ln r1 (List.mem_of_getElem? hF1);obtain ⟨o8,k8'⟩:=rE w2 (n:=12) (j:=8) (by omega) (.cells [.int .i64 (T:Int)] 3 1 true);have ldR:=(Md _ (U2.ext oR)).1;have U3:=U2.ext o8;have B43:=B4.ok o8;have B53:=B5.ok o8;have A3:=AB.ok p3 o8;obtain ⟨b',n',c',u78,ap1,en1,fm4,ok4,kp4,nx4⟩:=U3.fam.snoc w U3.ok U3.xlt hv1 hF1 k8' (by omega);have ne1:aK (.slice a1 r1.length c1)≠some g.next:=hlt _ _ hv1;have nX1: ∀ k,Mc hb k->aK (.slice a1 r1.length c1)≠some k:=fun k hX e=>U3.fam.out _ _ hv1 k e hX;refine ⟨_,_,_,(B4.ok oR).ld rN zM,_,_,_,(B4.ok oR).ld rN zM,_,ix1,_,_,_,ldR,_,eW _ _,_,l3 _ (p3.ok oR),_,_,_,vP _,b',n',c',u78,ap1,_,ix1,?_⟩;generalize ax (Go.Ab.room g2 12) g2.next [(8,.cells [.int .i64 (T:Int)] 3 1 true)]=S at *;have B44:=kp4 _ _ B43 (nX1 _ (.inr (.inr (.inl rfl))));have B54:=kp4 _ _ B53 (nX1 _ (.inr (.inr (.inr rfl))));have A4:=kp4 _ _ A3 ne1;obtain ⟨u80,st1,U5,kp5⟩:=U3.put w (r:=0) (i:=i) (by omega) hi rfl rfl fm4 ok4 (fun j' B' hj hX=>kp4 j' B' hj (nX1 j' hX)) nx4;refine ⟨u80,st1,⟨Bx1.ld rN zM B44,H2 _ _ _ _⟩,?_⟩;have B45:Bx1 _ _ _ _:=kp5 _ _ B44 (by unfold Ej; omega);have B55:Bx1 _ _ _ _:=kp5 _ _ B54 (by unfold Ej; omega);have A5:AB _ _ q:=kp5 _ _ A4 (by have:=xlt _ (ub.us.xt 0 (by omega)).1; omega);generalize u78.app S=g4 at *;generalize u80.app g4=g5 at *;have w5:=U5.ok.wf;have oR2:=(Ok.refl w5).room 13;obtain ⟨r2,a2,c2,hF2,hv2,ix2,ld2⟩:=U5.ld (r:=1) (i:=T) (by omega) hTn;obtain ⟨o9,k9⟩:=rE w5 (n:=13) (j:=9) (by omega) (.cells [.int .i64 (i:Int)] 3 1 true);have ldR2:=(ld2 _ (U5.ext oR2)).1;have U6:=U5.ext o9;have hv2':vs[1*n+T]?=some (.slice a2 r2.length c2):=by
    rcases az hv2 with ⟨e,_⟩ | ⟨_,h⟩
    ·omega
    ·exact h
   have hF2':F[1*n+T]?=some r2:=by
    rcases az hF2 with ⟨e,_⟩ | ⟨_,h⟩
    ·omega
    ·exact h
   have hr2:=ub.dn.ln r2 (List.mem_of_getElem? hF2');have ne2:=hlt _ _ hv2';have nX2: ∀ k,Mc hb k->aK (.slice a2 r2.length c2)≠some k:=fun k hX e=>ub.us.fam.out _ _ hv2' k e hX;obtain ⟨b2',n2',c2',u101,ap2,en2,fm7,ok7,kp7,nx7⟩:=U6.fam.snoc w U6.ok U6.xlt hv2 hF2 k9 (by omega);refine ⟨_,_,_,(B55.ok oR2).ld rN zM,_,eW _ _,_,l3 _ (A5.ok oR2),_,_,_,(B55.ok oR2).ld rN zM,_,eW _ _,_,l3 _ (A5.ok oR2),_,ix2,_,_,_,ldR2,_,_,_,vP _,b2',n2',c2',u101,ap2,_,ix2,?_⟩;have B46:=kp7 _ _ (B45.ok o9) (nX2 _ (.inr (.inr (.inl rfl))));have B56:=kp7 _ _ (B55.ok o9) (nX2 _ (.inr (.inr (.inr rfl))));have A6:AB _ _ q:=kp7 _ _ (A5.ok o9) ne2;obtain ⟨u103,st2,U8,kp8⟩:=U6.put w (r:=1) (i:=T) (by omega) hTn rfl rfl fm7 ok7 (fun j' B' hj hX=>kp7 j' B' hj (nX2 j' hX)) nx7;refine ⟨u103,st2,⟨Bx1.ld rN zM B56,H2 _ _ _ _⟩,⟨l3 _ A6,gW _⟩,?_⟩;rw [aH (i:=j) (n:=m) (by omega) (by omega)];have B48:=kp8 _ _ B46 (by unfold Ej; omega);have B58:=kp8 _ _ B56 (by unfold Ej; omega);have D:=ub.dn.arc hi hs hq (by rw [hTq]; exact hTn) hF1 (by rw [hTq]; exact hF2');rw [hTq] at D;refine cA (mz2 - 1) (by omega) ⟨by omega,by omega,_,_,cN+1,⟨U8,B48,B58,D⟩,?_,by omega⟩;rw [getElem?_set,if_neg (by omega),getElem?_set,if_neg (by omega)];exact hve
  ·have g1:=dF g1;obtain rfl:m=j:=by omega
   rw [aH hi (by omega)];exact tp (n - (i+1)) (by omega) ⟨by omega,rfl,vs,F,cN,⟨ub.us,ub.b4,ub.b5,ub.dn.next hs (by omega)⟩,hve,by omega⟩)
end
end
def iX (n:Nat):Blk:= .cells (List.replicate n tK) 48 1 true
def qD:Blk:= .cells [.slice none 0 0] 72 0 true
theorem Mz:aD SS.P 72=some (qD,gb):=by kernel_rfl
theorem vt {E E':Nat->Nat->Prop}{F F':Nat->Prop}(hE: ∀ y x,E y x↔E' y x)(hF: ∀ x,F x↔F' x)(x:Nat):Num.Rch E F x↔Num.Rch E' F' x:=by
 have e1:E=E':=funext fun y=>funext fun x=>propext (hE y x);have e2:F=F':=funext fun x=>propext (hF x);rw [e1,e2]
theorem wO {g0:Heap}(w:Wf g0)(M:Mach)(n:Nat):
  ∃ u14:Upd,ai SS.P 72 (.pointer (some ⟨g0.next+4,0,none⟩)) (.slice (some ⟨g0.next+1,0,none⟩) n n) (ax (Go.Ab.room g0 8) g0.next [(5,qD),(4,qD),(1,iX n)])=some (undef,u14)/\
  ∃ u15:Upd,ai SS.P 72 (.pointer (some ⟨g0.next+5,0,none⟩)) (.slice (some ⟨g0.next+3,0,none⟩) n n) (ax (u14.app (ax (Go.Ab.room g0 8) g0.next [(5,qD),(4,qD),(1,iX n)])) g0.next [(3,iX n)])=some (undef,u15)/\
   Ub g0 M n 0 0 0 0 (List.replicate (2*n+1) tK) (List.replicate (2*n+1) []) (u15.app (ax (u14.app (ax (Go.Ab.room g0 8) g0.next [(5,qD),(4,qD),(1,iX n)])) g0.next [(3,iX n)])):=by
 obtain ⟨N,hN⟩: ∃ N,g0.next=N:=⟨_,rfl⟩
 have hnx:(Go.Ab.room g0 8).next=N+8:=by rw [<-hN]; rfl
 rw [hN];have h4:Bx1 (ax (Go.Ab.room g0 8) N [(5,qD),(4,qD),(1,iX n)]) (N+4) 72 (.slice none 0 0):=by
  show (((Go.Ab.room g0 8).set (N+1) _).set (N+4) qD |>.set (N+5) qD).get (N+4)=_;rw [Heap.get_set,if_neg (by omega),Heap.get_set,if_pos rfl]; rfl
 refine ⟨_,h4.st KA (d7 _ _ _) rfl,?_⟩;have h5:Bx1 (ax ((Upd.set (N+4) (.cells [.slice (some ⟨N+1,0,none⟩) n n] 72 0 true)).app (ax (Go.Ab.room g0 8) N [(5,qD),(4,qD),(1,iX n)])) N [(3,iX n)]) (N+5) 72 (.slice none 0 0):=by
  show (((((Go.Ab.room g0 8).set (N+1) (iX n)).set (N+4) qD |>.set (N+5) qD).set (N+4) _).set (N+3) (iX n)).get (N+5)=_;rw [Heap.get_set,if_neg (by omega),Heap.get_set,if_neg (by omega),Heap.get_set,if_pos rfl]; rfl
 refine ⟨_,h5.st KA (d7 _ _ _) rfl,?_⟩;show Ub g0 M n 0 0 0 0 _ _ ((((((Go.Ab.room g0 8).set (N+1) (iX n)).set (N+4) qD |>.set (N+5) qD).set (N+4) (.cells [.slice (some ⟨N+1,0,none⟩) n n] 72 0 true)).set (N+3) (iX n)).set (N+5) (.cells [.slice (some ⟨N+3,0,none⟩) n n] 72 0 true));have hget: ∀ j,((((((Go.Ab.room g0 8).set (N+1) (iX n)).set (N+4) qD |>.set (N+5) qD).set (N+4) (.cells [.slice (some ⟨N+1,0,none⟩) n n] 72 0 true)).set (N+3) (iX n)).set (N+5) (.cells [.slice (some ⟨N+3,0,none⟩) n n] 72 0 true)).get j =
   if j=N+5 then some (.cells [.slice (some ⟨N+3,0,none⟩) n n] 72 0 true) else if j=N+3 then some (iX n) else if j=N+4 then some (.cells [.slice (some ⟨N+1,0,none⟩) n n] 72 0 true) else if j=N+5 then some qD else if j=N+4 then some qD else if j=N+1 then some (iX n) else g0.get j:=fun j=>by
  rw [Heap.get_set,Heap.get_set,Heap.get_set,Heap.get_set,Heap.get_set,Heap.get_set]; rfl
 have hok:Ok g0 ((((((Go.Ab.room g0 8).set (N+1) (iX n)).set (N+4) qD |>.set (N+5) qD).set (N+4) (.cells [.slice (some ⟨N+1,0,none⟩) n n] 72 0 true)).set (N+3) (iX n)).set (N+5) (.cells [.slice (some ⟨N+3,0,none⟩) n n] 72 0 true)):=by
  refine ((((((Ok.refl w).room 8).set _ ?_ ?_ w).set _ ?_ ?_ w).set _ ?_ ?_ w).set _ ?_ ?_ w).set _ ?_ ?_ w |>.set _ ?_ ?_ w
  all_goals first
   | (rw [hN]; omega)
   | (show _ < (Go.Ab.room g0 8).next; rw [hnx]; omega)
 generalize ((((((Go.Ab.room g0 8).set (N+1) (iX n)).set (N+4) qD |>.set (N+5) qD).set (N+4) (.cells [.slice (some ⟨N+1,0,none⟩) n n] 72 0 true)).set (N+3) (iX n)).set (N+5) (.cells [.slice (some ⟨N+3,0,none⟩) n n] 72 0 true))=gF at *;have g1:gF.get (N+1)=some (iX n):=by rw [hget,if_neg (by omega),if_neg (by omega),if_neg (by omega),if_neg (by omega),if_neg (by omega),if_pos rfl]
 have g3:gF.get (N+3)=some (iX n):=by rw [hget,if_neg (by omega),if_pos rfl]
 have g4:gF.get (N+4)=some (.cells [.slice (some ⟨N+1,0,none⟩) n n] 72 0 true):=by rw [hget,if_neg (by omega),if_neg (by omega),if_pos rfl]
 have g5:gF.get (N+5)=some (.cells [.slice (some ⟨N+3,0,none⟩) n n] 72 0 true):=by rw [hget,if_pos rfl]
 have hrep: ∀ {i:Nat}{v:Value},(List.replicate (2*n+1) tK)[i]?=some v->v=tK:=fun {i v} hl=>by
  rw [getElem?_replicate] at hl;split at hl
  ·exact (oI hl).symm
  ·cases hl
 have hrepF: ∀ {i:Nat}{l:List Nat},(List.replicate (2*n+1) ([]:List Nat))[i]?=some l->l=[]:=fun {i l} hl=>by
  rw [getElem?_replicate] at hl;split at hl
  ·exact (oI hl).symm
  ·cases hl
 refine ⟨⟨fun r hr=> ?_,⟨by rw [length_replicate,length_replicate],fun i v l hv hl=> ?_,fun i j v v' _ hv _ k hk=> ?_,fun i v hv k hk=> ?_⟩,hok,length_replicate,fun r hr=>⟨?_,?_⟩,fun r r' _ _ hne=> ?_,fun k hX=> ?_⟩,?_,?_,Dn.new M n⟩
 ·have e:((List.replicate (2*n+1) tK).drop (r*n)).take n=List.replicate n tK:=by
   rw [List.drop_replicate,List.take_replicate];congr 1;have:r=0\/r=1:=by omega
   rcases this with rfl | rfl <;> omega
  rw [e];have:r=0\/r=1:=by omega
  unfold Ej;rw [hN];rcases this with rfl | rfl
  ·exact g1
  ·exact g3
 ·rw [hrep hv,hrepF hl]; exact OwnG.nil _ _ _
 ·rw [hrep hv] at hk; cases hk
 ·rw [hrep hv] at hk; cases hk
 ·unfold Mc Ej; rw [hN];have:r=0\/r=1:=by omega
  rcases this with rfl | rfl <;> omega
 ·unfold Ej; omega
 ·unfold Ej; omega
 ·unfold Mc at hX;rw [hN] at hX;rcases hX with rfl | rfl | rfl | rfl
  ·exact hok.wf _ _ g1
  ·exact hok.wf _ _ g3
  ·exact hok.wf _ _ g4
  ·exact hok.wf _ _ g5
 ·rw [hN]; show gF.get (N+4)=_; rw [g4]; unfold Ej; rw [hN]
 ·rw [hN]; show gF.get (N+5)=_; rw [g5]; unfold Ej; rw [hN]
theorem oF {g:Heap}{kt N c:Nat}{L:List Bool}(hg:g.get kt=some (.cells (L.map Value.bool) 4 1 true))(hl:L.length=N){x:Nat}(h1:x < N):ag SS.P 46 (.slice (some ⟨kt,0,none⟩) N c) (.int .i64 (x:Int))=some (.pointer (some ⟨kt,x,none⟩))/\ah SS.P 4 g (.pointer (some ⟨kt,x,none⟩))=some (.bool (L.getD x false)):=by
 refine ⟨?_,?_⟩
 ·have:=Ff (P:=SS.P) Fy Ls (k:=kt) (off:=0) (n:=N) (c:=c) (ik:= .i64) (i:=(x:Int)) (by omega) (by omega);rw [this,toNat_natCast,zero_add,mul_one]
 ·rw [cZ N6 Nw hg (by rw [lM]; omega),gD,getElem?_map,gD,gE (by omega)]; rfl
def LD (h1:Heap)(kl kr n:Nat)(L1 L2:List Bool)(mz i:Nat)(g:Heap):Prop:=i<=n/\mz=n - i/\ ∃ L,BR h1 kl n L g/\g.get kr=some (.cells (L2.map Value.bool) 4 1 true)/\ ∀ x,L.getD x false=if x < i then (L1.getD x false && L2.getD x false) else L1.getD x false
theorem uL {h1:Heap}(w:Wf h1){kl kr n:Nat}{L1 L2:List Bool}{mz i:Nat}{g:Heap}(h:LD h1 kl kr n L1 L2 mz i g)(hL2:L2.length=n)(hne:kr≠kl)(hi:i < n){b:Bool}(hb:b=(L1.getD i false && L2.getD i false)):
  ∃ u:Upd,ai SS.P 4 (.pointer (some ⟨kl,i,none⟩)) (.bool b) g=some (undef,u)/\LD h1 kl kr n L1 L2 (mz - 1) (i+1) (u.app g):=by
 obtain ⟨f1,f2,L,br,hr,hL⟩:=h;obtain ⟨r1,r2,r3⟩:=br.get (c:=n) (x:=(i:Int)) (by omega) (by omega);rw [toNat_natCast] at r3;obtain ⟨u,s1,s2,s3⟩:=r3 b w;refine ⟨u,s1,by omega,by omega,_,s2,s3 _ _ hr hne,fun x=> ?_⟩;rw [AL (by rw [br.len]; exact hi),hL x];by_cases e:x=i
 ·subst e;rw [if_pos rfl,if_pos (by omega),hb]
 ·rw [if_neg e];by_cases e2:x < i
  ·rw [if_pos e2,if_pos (by omega)]
  ·rw [if_neg e2,if_neg (by omega)]
def uQ (h:Heap)(M:Mach)(n:Nat):VH:=fun v h'=> ∃ kl L,v = .slice (some ⟨kl,0,none⟩) n n/\BR h kl n L h'/\ ∀ x,x < n->(L.getD x false=true↔bD M x)
theorem BR.base {h h1 g:Heap}{kl n:Nat}{L:List Bool}(b:BR h1 kl n L g)(o:Ok h h1):BR h kl n L g:=⟨b.len,b.row.row,le_trans o.nx b.row.new,o.trans b.row.ok⟩
section
section
variable {h:Heap} {M:Mach} {a:Option Addr} {n c:Nat}
theorem lU {i:Nat}(hi:i < M.states.length): ∃ s,M.states[i]?=some s:=⟨_,gE hi⟩
theorem Dm (gd:Good M){y x:Nat}(h:bn M y x):x < M.states.length:=by
 obtain ⟨s,h1,h2⟩:=h;unfold qw at h2;obtain ⟨q,h3,rfl⟩:=mem_map.1 h2;have:=gd.arcs s (List.mem_of_getElem? h1) q h3;have:=this.t1;have:= ‹ArcIn _ q›.t0;omega
theorem r8 {y x:Nat}(h:bn M y x):y < M.states.length:=by
 obtain ⟨s,h1,h2⟩:=h;exact (List.getElem?_eq_some_iff.1 h1).1
set_option linter.defProp false in
def yC (w1:Wf h){kl kr:Nat}{L1 L2:List Bool}(hL1: ∀ x,L1.getD x false=true↔Num.Rch (bn M) (fun y=>y=M.start.toNat) x)(hL2: ∀ x,L2.getD x false=true↔Num.Rch (fun y x=>bn M x y) (iC M) x)(hl2:L2.length=n)(hne:kr≠kl)(hn:n<=300)(Q:VH)(hQ: ∀ v g',uQ h M n v g'->Q v g')(mv:List Value):=
 nN mv n kl kr (LD h kl kr n L1 L2) Q (by
  intro mz3 i; intros; rename_i g hin;have h3:=hin;obtain ⟨f1,f2,L,br,hr,hL⟩:=h3;refine ae (fun q1=> ?_) (fun q1=> ?_)
  ·have q1:=dT q1;have hi:i < n:=by omega
   obtain ⟨x1,x2⟩:=oF (c:=n) hr hl2 hi;obtain ⟨y1,y2⟩:=oF (c:=n) br.row.row br.len hi;have e:=hL i;rw [if_neg (Nat.lt_irrefl i)] at e;rw [e] at y2;refine ⟨_,x1,_,x2,_,y1,_,y2,ae (fun t=> ?_) (fun t=> ?_)⟩
   ·obtain ⟨u,s1,s2⟩:=uL w1 hin hl2 hne hi (b:=L2.getD i false) (by rw [t]; rfl);refine ⟨_,y1,u,s1,?_⟩;rw [aH hi (by omega)];exact cA (mz3 - 1) (by omega) s2
   ·obtain ⟨u,s1,s2⟩:=uL w1 hin hl2 hne hi (b:=false) (by rw [t]; rfl);refine ⟨_,y1,u,s1,?_⟩;rw [aH hi (by omega)];exact cA (mz3 - 1) (by omega) s2
  ·have q1:=dF q1;refine hQ _ _ ⟨kl,L,rfl,br,fun x hx=> ?_⟩;rw [hL x,if_pos (by omega),and_eq_true,hL1,hL2];exact Iff.rfl)
theorem El (w:Wf h)(sm:Small M)(gd:Good M)(r:StRow h (.slice a n c) M.states):FW SS 41 [.agg ⟨aQ M a n c⟩] h (uQ h M n):=by
 obtain ⟨mb,ok⟩:=ef w r;have hl:=mb.len;have hn:n<=300:=by rw [hl]; exact sm.sts
 refine Fx (aQ M a n c) h _ ⟨_,gi M a n c,_,bA _,_,_,_,mb.l3,_,_,_,MY n (by omega),_,_,_,MY n (by omega),_,Mz,_,Mz,?_⟩;generalize h.push (Bm M a n c)=g0 at *;have w0:=ok.wf;obtain ⟨u14,s14,u15,s15,ub0⟩:=wO w0 M n;refine ⟨u14,s14,u15,s15,?_⟩;have mbF:=mb.ok ub0.us.ok;refine ⟨_,bA _,_,_,_,mbF.l3,?_⟩;refine nO (aQ M a n c) h.next (g0.next+4) (g0.next+5) a n c (MF g0 M n) (uQ h M n) (fun mz i e en ec=> ?_) n (i:=0) (e:=none) (en:=0) (ec:=0) ⟨by omega,rfl,_,_,0,ub0,?_,?_⟩
 rotate_left
 ·rw [getElem?_replicate,if_pos (by omega)]; rfl
 ·rw [drop_zero]; have:=sm.tot; omega
 intros; rename_i gg hi;obtain ⟨f1,f2,vs,F,cN,ub,hve,hcN⟩:=hi;have okg:=ub.us.ok;refine ae (fun q1=> ?_) (fun q1=> ?_)
 ·have q1:=dT q1;obtain ⟨s,hs⟩:=lU (M:=M) (i:=i) (by omega);obtain ⟨b,o,x',y,z,e1,e2,e3,e4,ar⟩:=mb.row.at2 okg hs;obtain ⟨l1,l2,l3⟩:=gZ sm hs;have hy:=ar.len;have hd:fe (M.states.drop i)=s.arcs.length+fe (M.states.drop (i+1)):=by rw [dI hs,fJ]
  obtain ⟨u,p1,p2,p3⟩:=pe okg.wf s.f x' y z;refine ⟨_,e1,_,e2,_,rJ,u,p1,_,iG _ _,_,p3.l0,?_⟩;have U2:=ub.us.ext p2;have B4:=ub.b4.ok p2;have B5:=ub.b5.ok p2;have xlt:=ub.us.xlt;have hfl:=ub.us.fam;have wgg:=okg.wf;generalize u.app (gg.push uh)=g2 at *;refine ae (fun q2=> ?_) (fun q2=> ?_)
  ·have q2:s.f≠[]:=by simpa using q2
   have op:=(Ok.refl U2.ok.wf).push (.cells [.int .i64 (i:Int)] 3 1 true);have kp:=ay g2 (.cells [.int .i64 (i:Int)] 3 1 true);have U3:=U2.ext op;obtain ⟨le,hle⟩: ∃ le,F[2*n]?=some le:=⟨_,gE (by rw [ub.us.len]; omega)⟩
   have hlel:=ub.dn.ln le (List.mem_of_getElem? hle);obtain ⟨b',n',c',u32,ap1,en1,fm4,ok4,kp4,nx4⟩:=U3.fam.snoc w0 U3.ok U3.xlt hve hle kp (by omega);have nX: ∀ k,Mc g0 k->aK (.slice e en ec)≠some k:=fun k hX e'=>U3.fam.out _ _ hve k e' hX;have U4:=U3.tail rfl rfl fm4 ok4 (fun j' B' hj hX=>kp4 j' B' hj (nX j' hX)) nx4;have B44:=kp4 _ _ (B4.ok op) (nX _ (.inr (.inr (.inl rfl))));have B54:=kp4 _ _ (B5.ok op) (nX _ (.inr (.inr (.inr rfl))));have S4:=kp4 _ _ (p3.ok op) (fun e'=>by have:=hfl.lt wgg hve e'; omega);refine ⟨_,_,_,vP _,b',n',c',u32,ap1,_,bW _ _,_,_,_,SB.l1 S4,?_⟩;have hlen:(vs.length)=2*n+1:=by rw [ub.us.fam.len]; exact ub.us.len
   exact zm w0 gd hl hn hs (by omega) ar l1 [] b' n' c' mz f2 _ y (j:=0) ⟨by omega,by omega,_,_,cN+1,⟨U4,B44,B54,ub.dn.fin (by omega) hs q2 hle⟩,by rw [getElem?_set,if_pos rfl,if_pos (by omega)],by omega⟩
  ·have q2:s.f=[]:=by simpa using q2
   refine ⟨_,bW _ _,_,_,_,p3.l1,?_⟩;exact zm w0 gd hl hn hs (by omega) ar l1 [] e en ec mz f2 _ y (j:=0) ⟨by omega,by omega,vs,F,cN+1,⟨U2,B4,B5,ub.dn.nofin hs q2⟩,hve,by omega⟩
 ·have q1:=dF q1;obtain rfl:n=i:=by omega
  have mb2:=mb.ok okg;have hst0:=gd.start0;have hst1:=gd.start1;obtain ⟨S,hS⟩: ∃ S:Nat,M.start=(S:Int):=⟨M.start.toNat,by omega⟩
  have hSn:S < n:=by omega
  have hSt:M.start.toNat=S:=by omega
  have l1:=mb2.l1;rw [hS] at l1;have op:=(Ok.refl okg.wf).push (.cells [.int .i64 (S:Int)] 3 1 true);have kp:=ay gg (.cells [.int .i64 (S:Int)] 3 1 true);refine ⟨_,gx _,_,l1,_,_,_,vP _,?_⟩;have U3:=ub.us.ext op;have B4:=ub.b4.ok op;have B5:=ub.b5.ok op;have rf:Rd (gg.push (.cells [.int .i64 (S:Int)] 3 1 true)) 3 (.slice (some ⟨gg.next,0,none⟩) 1 1) ([S].map iv):= .inr ⟨gg.next,0,_,1,true,rfl,kp,rfl⟩;have okh:=ok.trans (okg.trans op);generalize gg.push (.cells [.int .i64 (S:Int)] 3 1 true)=h1 at *;have w1:=okh.wf;have adj1:=U3.adj (r:=0) (by omega);have adj2:=U3.adj (r:=1) (by omega);have hA1: ∀ {y:Nat}{l:List Nat},((F.drop (0*n)).take n)[y]?=some l->y < n/\l.length<=2300/\ ∀ x,x∈l↔bn M y x:=fun {y l} hy=>by
   rw [getElem?_take] at hy;split at hy
   ·next hyn=>
    rw [getElem?_drop] at hy;refine ⟨hyn,by have:=ub.dn.ln l (List.mem_of_getElem? hy); omega,fun x=> ?_⟩;rw [ub.dn.fw y l hyn hy x,jw];exact ⟨fun c=>c.2,fun c=>⟨hyn,c⟩⟩
   ·cases hy
  have hA2: ∀ {y:Nat}{l:List Nat},((F.drop (1*n)).take n)[y]?=some l->y < n/\l.length<=2300/\ ∀ x,x∈l↔bn M x y:=fun {y l} hy=>by
   rw [getElem?_take] at hy;split at hy
   ·next hyn=>
    rw [getElem?_drop] at hy;refine ⟨hyn,by have:=ub.dn.ln l (List.mem_of_getElem? hy); omega,fun x=> ?_⟩;rw [ub.dn.bk y l hyn hy x,jw];exact ⟨fun c=>c.2,fun c=>⟨by rw [hl]; exact r8 c,c⟩⟩
   ·cases hy
  have hE1: ∀ y x,uo ((F.drop (0*n)).take n) y x↔bn M y x:=fun y x=>by
   unfold uo;rw [gD]
   cases he:((F.drop (0*n)).take n)[y]? with
   | some l=>exact (hA1 he).2.2 x
   | none=>
    refine ⟨fun c=>(by cases c),fun c=> ?_⟩;have:=r8 c;rw [List.getElem?_eq_none_iff,adj1.1] at he;omega
  have hE2: ∀ y x,uo ((F.drop (1*n)).take n) y x↔bn M x y:=fun y x=>by
   unfold uo;rw [gD]
   cases he:((F.drop (1*n)).take n)[y]? with
   | some l=>exact (hA2 he).2.2 x
   | none=>
    refine ⟨fun c=>(by cases c),fun c=> ?_⟩;have:=Dm gd c;rw [List.getElem?_eq_none_iff,adj2.1] at he;omega
  obtain ⟨le,hle⟩: ∃ le,F[2*n]?=some le:=⟨_,gE (by rw [ub.us.len]; omega)⟩
  have hlel:=ub.dn.ln le (List.mem_of_getElem? hle);have ren:Rd h1 3 (.slice e en ec) (le.map iv):=(U3.fam.own _ _ _ hve hle).rd;have hmem: ∀ x,x∈le↔iC M x:=fun x=>by
   rw [ub.dn.en le hle x];refine ⟨fun c=>c.2,fun c=>⟨?_,c⟩⟩;obtain ⟨s,h2,_⟩:=c;have:=(List.getElem?_eq_some_iff.1 h2).1;omega
  refine (vf w1 (by omega) adj1.1 (fun l hl' x hx=> ?_) (fun l hl'=> ?_) (Hc w1 B4 adj1) rf (fun x hx=> ?_) (by simp)).mono ?_
  ·obtain ⟨y,hy⟩:=List.mem_iff_getElem?.1 hl';have:=Dm gd ((hA1 hy).2.2 x |>.1 hx); omega
  ·obtain ⟨y,hy⟩:=List.mem_iff_getElem?.1 hl';have:=(hA1 hy).2.1; omega
  ·rw [mem_singleton] at hx; omega
  rintro _ g3 ⟨kl,L1,rfl,br1,hL1⟩;refine ⟨_,_,_,rfl,?_⟩;have o3:=br1.row.ok;refine (vf o3.wf (by omega) adj2.1 (fun l hl' x hx=> ?_) (fun l hl'=> ?_) (IC o3.wf (B5.ok o3) (adj2.ok o3)) (ren.ok o3) (fun x hx=> ?_) (by omega)).mono ?_
  ·obtain ⟨y,hy⟩:=List.mem_iff_getElem?.1 hl';have:=r8 ((hA2 hy).2.2 x |>.1 hx); omega
  ·obtain ⟨y,hy⟩:=List.mem_iff_getElem?.1 hl';have:=(hA2 hy).2.1; omega
  ·obtain ⟨s,h2,_⟩:=(hmem x).1 hx;have:=(List.getElem?_eq_some_iff.1 h2).1;omega
  rintro _ g4 ⟨kr,L2,rfl,br2,hL2⟩;refine ⟨_,_,_,rfl,?_⟩;have hne:kr≠kl:=by have:=br1.row.lt; have:=br2.row.new; omega
  have q1: ∀ x,L1.getD x false=true↔Num.Rch (bn M) (fun y=>y=M.start.toNat) x:=fun x=>by
   rw [hL1 x]; exact vt hE1 (fun x=>by rw [mem_singleton,hSt]) x
  have q2: ∀ x,L2.getD x false=true↔Num.Rch (fun y x=>bn M x y) (iC M) x:=fun x=>by
   rw [hL2 x]; exact vt hE2 hmem x
  exact yC (n:=n) w1 q1 q2 br2.len hne hn (uQ h M n) (fun v g' ⟨k1,L,e1,e2,e3⟩=>⟨k1,L,e1,e2.base okh,e3⟩) (aQ M a n c) n (i:=0) ⟨by omega,rfl,L1,br1.trans br2.row.ok,br2.row.row,fun x=>by rw [if_neg (Nat.not_lt_zero _)]⟩
theorem Hp {b:Bool}{p:Prop}(h:b=true↔p):b=@decide p (Classical.propDecidable _):=by
 cases b with
 | true=>exact (@decide_eq_true p (Classical.propDecidable _) (h.1 rfl)).symm
 | false=>exact (@decide_eq_false p (Classical.propDecidable _) (fun c=>by cases h.2 c)).symm
end
end
end Go.Proofs.YtoabjjimjldcfaaGreatDoor
end
section
set_option linter.unusedVariables false
namespace Go.Ab
open Go
theorem fF {sz:Nat}: ∀ {l:List (List Value)},(∀ r∈l,r.length=sz)->l.flatten.length=l.length*sz
 | [],_=>by simp
 | r::l,h=>by
  rw [flatten_cons,length_append,fF fun x hx=>h x (mem_cons_of_mem _ hx),h r (mem_cons_self ..),length_cons,add_mul,one_mul,Nat.add_comm]
theorem xq {sz:Nat}: ∀ {l:List (List Value)},(∀ r∈l,r.length=sz)-> ∀ {i:Nat}{r:List Value},l[i]?=some r->(l.flatten.drop (i*sz)).take sz=r
 | [],_,i,r,h=>by simp at h
 | x::l,hl,0,r,h=>by
  obtain rfl:x=r:=by simpa using h
  have hx:=hl x (mem_cons_self ..);rw [Nat.zero_mul,drop_zero,flatten_cons,List.take_append_of_le_length (by omega),take_of_length_le (by omega)]
 | x::l,hl,i+1,r,h=>by
  have hx:=hl x (mem_cons_self ..);rw [flatten_cons,add_mul,one_mul,List.drop_append,drop_eq_nil_of_le (by omega),nil_append,hx,show i*sz+sz - sz=i*sz by omega];exact xq (fun y hy=>hl y (mem_cons_of_mem _ hy)) (by simpa using h)
theorem uD {sz:Nat}: ∀ {l:List (List Value)},(∀ r∈l,r.length=sz)-> ∀ {i j:Nat}{r:List Value}{v:Value},l[i]?=some r->j < sz->(l.set i (r.set j v)).flatten=l.flatten.set (i*sz+j) v
 | [],_,i,j,r,v,h,_=>by simp at h
 | x::l,hl,0,j,r,v,h,hj=>by
  obtain rfl:x=r:=by simpa using h
  have hx:=hl x (mem_cons_self ..);rw [List.set_cons_zero,flatten_cons,flatten_cons,Nat.zero_mul,zero_add,List.set_append,if_pos (by omega)]
 | x::l,hl,i+1,j,r,v,h,hj=>by
  have hx:=hl x (mem_cons_self ..);rw [List.set_cons_succ,flatten_cons,flatten_cons,uD (fun y hy=>hl y (mem_cons_of_mem _ hy)) (by simpa using h) hj,List.set_append,if_neg (by rw [add_mul]; omega),add_mul,one_mul,hx,show i*sz+sz+j - sz=i*sz+j by omega]
def OwnK (h0 h:Heap)(e:TypeId)(sz:Nat)(v:Value)(rs:List (List Value)):Prop:=
 (∀ r∈rs,r.length=sz)/\((v = .slice none 0 0/\rs=[])\/ ∃ k off cs c,v = .slice (some ⟨k,off,none⟩) rs.length c/\h0.next<=k/\h.get k=some (.cells cs e sz true)/\(cs.drop off).take (rs.length*sz)=rs.flatten/\aI c*sz+off=cs.length/\rs.length<=aI c)
theorem OwnK.rd {h0 h:Heap}{e:TypeId}{sz:Nat}{v:Value}{rs:List (List Value)}(o:OwnK h0 h e sz v rs):RdN h e sz v rs:=by
 obtain ⟨hl,⟨h1,h2⟩ | ⟨k,off,cs,c,h1,h2,h3,h4,h5,h6⟩⟩:=o
 ·exact ⟨hl,.inl ⟨.inl h1,h2⟩⟩
 ·have h7:=mul_le_mul_right sz h6;refine ⟨hl,.inr ⟨k,off,cs,e,sz,c,true,h1,h3,by omega,fun i r hi=> ?_⟩⟩;have h8:=xq hl hi;have hlt:i < rs.length:=(List.getElem?_eq_some_iff.1 hi).1;have h9:(i+1)*sz<=rs.length*sz:=mul_le_mul_right _ hlt;rw [add_mul,one_mul] at h9;rw [<-h4,drop_take,List.take_take,Nat.min_eq_left (by omega),List.drop_drop] at h8;exact h8
theorem OwnK.keep {h0 h h':Heap}{e:TypeId}{sz:Nat}{v:Value}{rs:List (List Value)}(o:OwnK h0 h e sz v rs)(hk: ∀ (k:Nat) (B:Blk),aK v=some k->h.get k=some B->h'.get k=some B):OwnK h0 h' e sz v rs:=by
 obtain ⟨hl,o | ⟨k,off,cs,c,h1,h2,h3,h4,h5,h6⟩⟩:=o
 ·exact ⟨hl,.inl o⟩
 ·exact ⟨hl,.inr ⟨k,off,cs,c,h1,h2,hk k _ (by rw [h1]; rfl) h3,h4,h5,h6⟩⟩
theorem OwnK.ok {h0 h h':Heap}{e:TypeId}{sz:Nat}{v:Value}{rs:List (List Value)}(r:OwnK h0 h e sz v rs)(o:Ok h h'):OwnK h0 h' e sz v rs:=r.keep fun k B _ hk=>o.ext _ _ hk
theorem OwnK.base {h0 h1 h:Heap}{e:TypeId}{sz:Nat}{v:Value}{rs:List (List Value)}(r:OwnK h1 h e sz v rs)(o:Ok h0 h1):OwnK h0 h e sz v rs:=by
 obtain ⟨hl,r | ⟨k,off,cs,c,h1,h2,h3,h4,h5,h6⟩⟩:=r
 ·exact ⟨hl,.inl r⟩
 ·exact ⟨hl,.inr ⟨k,off,cs,c,h1,le_trans o.nx h2,h3,h4,h5,h6⟩⟩
theorem OwnK.lt {h0 h:Heap}{e:TypeId}{sz:Nat}{v:Value}{rs:List (List Value)}(o:OwnK h0 h e sz v rs)(w:Wf h){k:Nat}(hk:aK v=some k):k < h.next/\h0.next<=k:=by
 obtain ⟨_,⟨rfl,_⟩ | ⟨k',off,cs,c,h1,h2,h3,h4,h5,h6⟩⟩:=o
 ·cases hk
 ·rw [h1] at hk;obtain rfl:k'=k:=oI hk;exact ⟨w _ _ h3,h2⟩
theorem OwnK.nil (h0 h:Heap)(e:TypeId)(sz:Nat):OwnK h0 h e sz (.slice none 0 0) []:=⟨fun r hr=>(by cases hr),.inl ⟨rfl,rfl⟩⟩
theorem OwnK.slc {h0 h:Heap}{e:TypeId}{sz:Nat}{v:Value}{rs:List (List Value)}(o:OwnK h0 h e sz v rs): ∃ (a:Option Addr)(c:Nat),v = .slice a rs.length c:=o.rd.slc
theorem OwnK.blk {h0 h:Heap}{e:TypeId}{sz:Nat}{v:Value}{rs:List (List Value)}(o:OwnK h0 h e sz v rs)(hp:0 < rs.length): ∃ (k off c:Nat),v = .slice (some ⟨k,off,none⟩) rs.length c/\h0.next<=k:=by
 obtain ⟨_,⟨_,rfl⟩ | ⟨k,off,cs,c,h1,h2,_⟩⟩:=o
 ·exact absurd hp (Nat.lt_irrefl 0)
 ·exact ⟨k,off,c,h1,h2⟩
theorem OwnK.made {h0 h:Heap}{e:TypeId}{sz k:Nat}{rs:List (List Value)}(hk:h.get k=some (.cells rs.flatten e sz true))(hr: ∀ r∈rs,r.length=sz)(h0k:h0.next<=k)(hl:rs.length < bj):OwnK h0 h e sz (.slice (some ⟨k,0,none⟩) rs.length rs.length) rs:=by
 have hc:aI rs.length=rs.length:=by unfold aI; rw [if_neg (by omega)]
 have hf:=fF hr;exact ⟨hr,.inr ⟨k,0,rs.flatten,rs.length,rfl,h0k,hk,by rw [drop_zero,take_of_length_le (by omega)],by rw [hc,hf]; rfl,by rw [hc]; exact le_refl _⟩⟩
theorem OwnK.add {P:Program}{t t' e:TypeId}{i:TypeInfo}{sz:Nat}(hU:P.underlying t=some (.slice e))(hE:dA P e=some i)(hs:i.size=sz)(hT:ca P t'=true){h0 g:Heap}(w0:Wf h0)(a:Ok h0 g){v:Value}{rs:List (List Value)}(o:OwnK h0 g e sz v rs){x:Value}{ns:List (List Value)}(hsrc:cz g sz x=some (ns.flatten,ns.length))(hns: ∀ r∈ns,r.length=sz)(hx:ns.flatten.all bI=true)(hl:(rs.length+ns.length)*i.bytes<=70368744177664)(hl2:rs.length+ns.length<=1099511627776)(h1m:ns.length<=1\/v = .slice none 0 0):
  ∃ (b:Option Addr)(n c:Nat)(u:Upd),aJ P t t' v x g=some (.slice b n c,u)/\n=rs.length+ns.length/\OwnK h0 (u.app g) e sz (.slice b n c) (rs++ns)/\Ok h0 (u.app g)/\
   (∀ j B,g.get j=some B->aK v≠some j->(u.app g).get j=some B)/\
   (∀ j,aK (.slice b n c)=some j->g.next<=j\/aK v=some j)/\g.next<=(u.app g).next:=by
 obtain ⟨hr,o⟩:=o;have hrn: ∀ r∈rs++ns,r.length=sz:=fun r h=>(mem_append.1 h).elim (hr r) (hns r);have f1:=fF hr;have f2:=fF hns;unfold aJ;rw [hU]; dsimp only;rw [hE]; dsimp only;rw [hs,if_pos hT,hsrc]; dsimp only;rw [if_pos ⟨hx,f2⟩];have pl: ∀ B:Blk,∀ j B',g.get j=some B'->(g.push B).get j=some B':=fun B j B' hj=>by
  rw [Heap.get_push,if_neg (fun e=>by have:=a.wf _ _ hj; omega)]; exact hj
 rcases o with ⟨rfl,rfl⟩ | ⟨k,off,cs,c,rfl,h2,h3,h4,h5,h6⟩
 ·by_cases hm:ns.length=0
  ·rw [if_pos hm];obtain rfl:=List.eq_nil_of_length_eq_zero hm;exact ⟨_,_,_,_,rfl,rfl,⟨hrn,.inl ⟨rfl,rfl⟩⟩,a,fun j B hj _=>hj,fun j e=> .inr e,le_refl _⟩
  ·rw [length_nil,zero_add] at hl hl2;rw [if_neg hm,if_pos ⟨hl,hl2⟩];refine ⟨_,_,_,_,rfl,(zero_add _).symm,⟨hrn,.inr ⟨g.next,0,ns.flatten,bj+ns.length,rfl,a.nx,?_,?_,by rw [bH,f2]; rfl,by rw [bH]; exact le_refl _⟩⟩,a.push _,fun j B hj _=>pl _ j B hj,fun j e=> .inl (Nat.le_of_eq (oI e)),le_succ _⟩
   ·show (g.push _).get g.next=_;rw [Heap.get_push,if_pos rfl]
   ·rw [drop_zero,nil_append,take_of_length_le (by omega)]
 ·dsimp only;by_cases hm:ns.length=0
  ·rw [if_pos hm];obtain rfl:=List.eq_nil_of_length_eq_zero hm;exact ⟨_,_,_,_,rfl,rfl,⟨hrn,.inr ⟨k,off,cs,c,by rw [append_nil],h2,h3,by rw [append_nil]; exact h4,h5,by rw [append_nil]; exact h6⟩⟩,a,fun j B hj _=>hj,fun j e=> .inr e,le_refl _⟩
  have hkn:=a.wf _ _ h3;have m1:(rs.length+ns.length)*sz=rs.length*sz+ns.length*sz:=add_mul ..;rw [if_neg hm];by_cases hroom:rs.length+ns.length<=aI c
  ·rw [if_pos hroom];have m2:(rs.length+ns.length)*sz<=aI c*sz:=mul_le_mul_right _ hroom;unfold storeAt;rw [h3];dsimp only;rw [if_pos ⟨by omega,hx⟩];refine ⟨_,_,_,_,rfl,rfl,⟨hrn,.inr ⟨k,off,cs.take (off+rs.length*sz)++ns.flatten++cs.drop (off+rs.length*sz+ns.flatten.length),c,?_,h2,?_,?_,?_,?_⟩⟩,?_,fun j B hj hne=> ?_,fun j e=> .inr e,le_refl _⟩
   ·rw [length_append]
   ·show (g.set k _).get k=_;rw [Heap.get_set,if_pos rfl]
   ·have h7:(cs.take (off+rs.length*sz)).length=off+rs.length*sz:=by rw [length_take]; omega
    rw [append_assoc,List.drop_append_of_le_length (by rw [h7]; omega),drop_take,show off+rs.length*sz - off=rs.length*sz by omega,h4,length_append,m1,List.take_append,f1,show rs.length*sz+ns.length*sz - rs.length*sz=ns.length*sz by omega,take_of_length_le (by omega),List.take_append_of_le_length (by omega),take_of_length_le (by omega),List.flatten_append]
   ·rw [length_append,length_append,length_take,length_drop]; omega
   ·rw [length_append]; exact hroom
   ·exact a.set _ h2 hkn w0
   ·show (g.set k _).get j=_;rw [Heap.get_set,if_neg (fun e=>hne (by rw [e]; rfl))];exact hj
  ·rw [if_neg hroom];have h7:((cs.drop off).take (rs.length*sz)).length=rs.length*sz:=by rw [h4,f1]
   unfold eZ;rw [if_pos ⟨hl,hl2⟩,h3];dsimp only;rw [if_pos ⟨rfl,rfl,h7⟩];have fl:rs.flatten++ns.flatten=(rs++ns).flatten:=List.flatten_append.symm;have f3:=fF hrn;rw [length_append] at f3;by_cases hc:c < bj
   ·rw [if_pos hc,h4,fl];refine ⟨_,_,_,_,rfl,rfl,⟨hrn,.inr ⟨g.next,0,(rs++ns).flatten,bj+(rs.length+ns.length),by rw [length_append],a.nx,?_,?_,by rw [bH,f3]; rfl,by rw [bH,length_append]; exact le_refl _⟩⟩,a.push _,fun j B hj _=>pl _ j B hj,fun j e=> .inl (Nat.le_of_eq (oI e)),le_succ _⟩
    ·show (g.push _).get g.next=_;rw [Heap.get_push,if_pos rfl]
    ·rw [drop_zero,length_append,take_of_length_le (by omega)]
   ·rw [if_neg hc];have hcap:aI c=rs.length:=by
     rcases h1m with h | h
     ·omega
     ·cases h
    rw [if_pos ⟨rfl,by rw [<-h5,hcap]; omega⟩,h4,fl];refine ⟨_,_,_,_,rfl,rfl,⟨hrn,.inr ⟨g.next,0,(rs++ns).flatten,bj+(rs.length+ns.length),by rw [length_append],a.nx,?_,?_,by rw [bH,f3]; rfl,by rw [bH,length_append]; exact le_refl _⟩⟩,?_,fun j B hj hne=> ?_,fun j e=> .inl (Nat.le_of_eq (oI e)),le_succ _⟩
    ·show ((g.del k).push _).get g.next=_;rw [Heap.get_push,if_pos (show g.next=(g.del k).next from rfl)]
    ·rw [drop_zero,length_append,take_of_length_le (by omega)]
    ·refine ⟨?_,fun j C hj=> ?_,le_trans a.nx (le_succ _)⟩
     ·refine Heap.wf_push (fun j C hj=> ?_) _;rw [Heap.get_del] at hj;split at hj
      ·cases hj
      ·exact a.wf _ _ hj
     ·have h7:=a.ext _ _ hj;have h8:=a.wf _ _ h7;show ((g.del k).push _).get j=_;rw [Heap.get_push,if_neg (fun e=>by have:j=g.next:=e; omega),Heap.get_del,if_neg (fun e=>by have:=w0 _ _ hj; omega)];exact h7
    ·have h8:=a.wf _ _ hj;show ((g.del k).push _).get j=_;rw [Heap.get_push,if_neg (fun e=>by have:j=g.next:=e; omega),Heap.get_del,if_neg (fun e=>hne (by rw [e]; rfl))];exact hj
theorem OwnK.put {P:Program}{e t':TypeId}{sz:Nat}(hs:al P t'=some 1){h0 g:Heap}(w0:Wf h0)(a:Ok h0 g){k off n c:Nat}{rs:List (List Value)}(o:OwnK h0 g e sz (.slice (some ⟨k,off,none⟩) n c) rs){i j:Nat}{r:List Value}(hi:rs[i]?=some r)(hj:j < sz){v':Value}(hv:bI v'=true)(hc:v'.cells = #[v']):
  ∃ u:Upd,ai P t' (.pointer (some ⟨k,off+i*sz+j,none⟩)) v' g=some (undef,u)/\OwnK h0 (u.app g) e sz (.slice (some ⟨k,off,none⟩) n c) (rs.set i (r.set j v'))/\Ok h0 (u.app g)/\(∀ j B,g.get j=some B->k≠j->(u.app g).get j=some B)/\(u.app g).next=g.next:=by
 obtain ⟨hr,⟨h1,_⟩ | ⟨k',off',cs,c',h1,h2,h3,h4,h5,h6⟩⟩:=o
 ·injection h1 with h1 _ _; cases h1
 ·injection h1 with h1 hn hc'
  injection h1 with h1
  injection h1 with h1 ho _
  subst h1; subst ho; subst hc';have hlt:i < rs.length:=(List.getElem?_eq_some_iff.1 hi).1;have h9:(i+1)*sz<=rs.length*sz:=mul_le_mul_right _ hlt;have h10:=mul_le_mul_right sz h6;have hrl:=hr r (List.mem_of_getElem? hi);rw [add_mul,one_mul] at h9;refine ⟨_,lI hs h3 (by omega) hv hc,⟨fun r' hr'=> ?_,.inr ⟨k,off,cs.set (off+i*sz+j) v',c,?_,h2,?_,?_,?_,?_⟩⟩,a.set _ h2 (a.wf _ _ h3) w0,fun j' B hj' hne=> ?_,rfl⟩
  ·rcases List.mem_or_eq_of_mem_set hr' with h | h
   ·exact hr _ h
   ·rw [h,length_set]; exact hrl
  ·rw [length_set,hn]
  ·show (g.set k _).get k=_;rw [Heap.get_set,if_pos rfl]
  ·rw [length_set,uD hr hi hj,<-h4,List.drop_set,if_neg (by omega),List.take_set,show off+i*sz+j - off=i*sz+j by omega]
  ·rw [length_set]; exact h5
  ·rw [length_set]; exact h6
  ·show (g.set k _).get j'=_;rw [Heap.get_set,if_neg (fun e=>hne e.symm)];exact hj'
theorem OwnK.at_ {P:Program}{t e:TypeId}{sz:Nat}(hU:P.underlying t=some (.slice e))(hs:al P e=some sz){h0 g:Heap}{k off n c:Nat}{rs:List (List Value)}(o:OwnK h0 g e sz (.slice (some ⟨k,off,none⟩) n c) rs){i:Nat}{r:List Value}(hi:rs[i]?=some r)(ik:IntKind):
  ag P t (.slice (some ⟨k,off,none⟩) n c) (.int ik (i:Int))=some (.pointer (some ⟨k,off+i*sz,none⟩))/\(∀ (t':TypeId)(d':TypeDesc)(j:Nat),P.underlying t'=some d'->isAgg P t'=false->j < sz->ah P t' g (.pointer (some ⟨k,off+i*sz+j,none⟩))=some (r.getD j undef))/\
   (∀ d,P.underlying e=some d->isAgg P e=true->ah P e g (.pointer (some ⟨k,off+i*sz,none⟩))=some (.agg ⟨r⟩)):=by
 have hn:=o.rd.len;have hlt:i < rs.length:=(List.getElem?_eq_some_iff.1 hi).1;have hx:=Ff (P:=P) hU hs (k:=k) (off:=off) (n:=n) (c:=c) (ik:=ik) (i:=(i:Int)) (by omega) (by omega);rw [toNat_natCast] at hx;obtain ⟨hr,⟨h1,_⟩ | ⟨k',off',cs,e',z,c',wr,h1,h2,h3,h4⟩⟩:=o.rd
 ·rcases h1 with h1 | h1
  ·injection h1 with h1 _ _; cases h1
  ·unfold kN at h1; injection h1 with h1 _ _; injection h1 with h1; injection h1 with _ _ h1; cases h1
 ·injection h1 with h1 _ hc'
  injection h1 with h1
  injection h1 with h1 ho _
  subst h1; subst ho; subst hc';have h9:(i+1)*sz<=rs.length*sz:=mul_le_mul_right _ hlt;rw [add_mul,one_mul] at h9;have h5:=h4 i r hi;refine ⟨hx,fun t' d' j hU' ha' hj=> ?_,fun d hd ha=> ?_⟩
  ·rw [cZ hU' ha' h2 (by omega),<-h5,gD,gD,getElem?_take,if_pos hj,getElem?_drop]
  ·rw [gj hd ha hs h2 (by omega),h5]
theorem wX (z:List Value): ∀ n,aZ z n=(List.replicate n z).flatten:=by
 intro n
 induction n with
 | zero=>simp [aZ]
 | succ n ih=>rw [aZ,ih,List.replicate_succ,flatten_cons]
end Go.Ab
end
section
set_option linter.unusedVariables false
set_option maxRecDepth 100000
namespace Go.Proofs.YtoabjjimjldcfaaGreatDoor
open Go Go.Ab
section
noncomputable def re39:TypeInfo:=(dA SS.P 39).getD default
theorem Jq:dA SS.P 39=some re39:=by kernel_rfl
theorem Du:re39.size=4:=by kernel_rfl
theorem AF:re39.bytes=40:=by kernel_rfl
theorem N5:ca SS.P 35=true:=by kernel_rfl
theorem KX (q:MArc):an SS.P 35 1 [(0,.agg ⟨aO q⟩)]=some (.cells (aO q) 39 4 true,gH 1 1):=by kernel_rfl
theorem Gz {l:List MArc}: ∀ r∈l.map aO,r.length=4:=fun r hr=>by
 obtain ⟨q,_,rfl⟩:=mem_map.1 hr; rfl
theorem C8 {l:List (MSt×Value)}: ∀ r∈l.map fg,r.length=2:=fun r hr=>by
 obtain ⟨q,_,rfl⟩:=mem_map.1 hr; rfl
structure OwnM (h0 h:Heap)(v:Value)(ps:List (MSt×Value)):Prop where
 row:OwnK h0 h 37 2 v (ps.map fg)
 arcs: ∀ (i:Nat)(p:MSt×Value),ps[i]?=some p->OwnK h0 h 39 4 p.2 (p.1.arcs.map aO)
 ne: ∀ (i:Nat)(p:MSt×Value),ps[i]?=some p-> ∀ k,aK p.2=some k->aK v≠some k
 dis: ∀ (i j:Nat)(p q:MSt×Value),i≠j->ps[i]?=some p->ps[j]?=some q-> ∀ k,aK p.2=some k->aK q.2≠some k
section
variable {hb g g':Heap} {v:Value} {ps:List (MSt×Value)}
theorem OwnM.ok (m:OwnM hb g v ps)(o:Ok g g'):OwnM hb g' v ps:=⟨m.row.ok o,fun i p hp=>(m.arcs i p hp).ok o,m.ne,m.dis⟩
theorem OwnM.nd (m:OwnM hb g v ps):v≠kN:=by
 obtain ⟨_,⟨h1,_⟩ | ⟨k,off,cs,c,h1,_⟩⟩:=m.row
 ·rw [h1]; intro e; unfold kN at e; injection e with e _ _; cases e
 ·rw [h1]; intro e; unfold kN at e; injection e with e _ _; injection e with e; injection e with _ _ e; cases e
theorem OwnM.st (m:OwnM hb g v ps):StRow g v (ps.map (·.1)):=
 ⟨ps,rfl,m.row.rd,fun p hp=>by
  obtain ⟨i,hi,e⟩:=List.mem_iff_getElem.1 hp;exact (m.arcs i p (by rw [gE hi,e])).rd,m.nd⟩
theorem OwnM.nil (hb g:Heap):OwnM hb g (.slice none 0 0) []:=⟨OwnK.nil _ _ _ _,fun i p hp=>by simp at hp,fun i p hp=>by simp at hp,fun i j p q _ hp=>by simp at hp⟩
theorem IP {kx:Nat}{cs:List Value}{e:TypeId}{z sz:Nat}{wr:Bool}(hkx:g.get kx=some (.cells cs e z wr))(hl:cs.length=sz):cz g sz (.slice (some ⟨kx,0,none⟩) 1 1)=some (([cs]:List (List Value)).flatten,1):=by
 show (match g.get kx with | some (.cells cs ..)=>if ((cs.drop 0).take (1*sz)).length=1*sz then some ((cs.drop 0).take (1*sz),1) else none | _=>none)=_;rw [hkx];dsimp only;rw [drop_zero,one_mul,take_of_length_le (by omega),if_pos hl];simp
theorem rK (w:Wf hb)(ok:Ok hb g){x:Value}{arcs:List MArc}(ox:OwnK hb g 39 4 x (arcs.map aO)){q:MArc}{kx:Nat}(hkx:g.get kx=some (.cells (aO q) 39 4 true))(hl:arcs.length<=100000):
  ∃ (b:Option Addr)(n c:Nat)(u:Upd),aJ SS.P 35 35 x (.slice (some ⟨kx,0,none⟩) 1 1) g=some (.slice b n c,u)/\OwnK hb (u.app g) 39 4 (.slice b n c) ((arcs++[q]).map aO)/\Ok hb (u.app g)/\
   (∀ j B,g.get j=some B->aK x≠some j->(u.app g).get j=some B)/\(∀ j,aK (.slice b n c)=some j->g.next<=j\/aK x=some j)/\g.next<=(u.app g).next:=by
 have hlen:(arcs.map aO).length=arcs.length:=lM ..;obtain ⟨b,n,c,u,h1,h2,h3,h4⟩:=OwnK.add xX Jq Du N5 w ok ox (ns:=[aO q]) (IP hkx rfl) (fun r hr=>by rw [mem_singleton.1 hr]; rfl) rfl (by rw [AF,hlen,length_singleton]; omega) (by rw [hlen,length_singleton]; omega) (.inl (le_refl _));exact ⟨b,n,c,u,h1,by rw [List.map_append]; exact h3,h4⟩
end
end
noncomputable def Co:FD:=cB Tryz.f27 []
theorem y9 (kind:Int)(h:Heap)(Q:VH)(hx:xN (aD SS.P 24) h fun B1 g2=>aB (decide ((kind:Int) < 1)) (xA (aC SS.P 24 []) fun c3=>xU (ai SS.P 24 (pA (h.next)) (.agg ⟨c3⟩) g2) g2 fun u4 g5=>dH SS [((pA (h.next)),some 24),((.int .i64 1),none)] g5 Q) (aB (decide ((kind:Int) > 3)) (xA (aC SS.P 24 []) fun c6=>xU (ai SS.P 24 (pA (h.next)) (.agg ⟨c6⟩) g2) g2 fun u7 g8=>dH SS [((pA (h.next)),some 24),((.int .i64 1),none)] g8 Q) (FW SS 50 [(.int .i64 kind)] (room g2 7) fun v9 h10=>yS v9 fun l11=>zR (aX SS.P 22 (.int .i64 1) (.int .i64 1)) fun B12 n13 c14=>xA (aC SS.P 24 [(0,(.int .i64 kind)),(2,(aa l11)),(3,(sA (g2.next+3) n13 c14))]) fun c15=>xU (ai SS.P 24 (pA (h.next)) (.agg ⟨c15⟩) (ax h10 g2.next [(3,B12)])) (ax h10 g2.next [(3,B12)]) fun u16 g17=>dH SS [((pA (h.next)),some 24),((.int .i64 0),none)] g17 Q))):FW SS 27 [(.int .i64 kind)] h Q:=cE Co Tryz.func27 (aj hx)
noncomputable def L9:FD:=cB Tryz.f50 []
theorem Ks (kind:Int)(h:Heap)(Q:VH)(hx:FW SS 57 [(.int .i64 kind)] h fun v1 h2=> ∃ cs3:LV,∃ b4:Bool,v1=(.tuple ⟨[(.agg ⟨cs3⟩),(.bool b4)]⟩)/\xN (aD SS.P 68) h2 fun B5 g6=>xU (ai SS.P 68 (pA (h2.next)) (.agg ⟨cs3⟩) g6) g6 fun u7 g8=>xP (af SS.P 68 (pA (h2.next)) 1) fun p9=>xS (ah SS.P 9 g8 (.pointer (some p9))) fun l10=>Q (aa l10) g8):FW SS 50 [(.int .i64 kind)] h Q:=cE L9 Tryz.func50 (aj hx)
noncomputable def La:FD:=cB Tryz.f80 []
theorem JQ (x y:Int)(h:Heap)(Q:VH)(hx:FW SS 108 [(.int .u64 x),(.int .u64 y)] h fun v1 h2=> ∃ n3:Int,∃ n4:Int,v1=(.tuple ⟨[(.int .u64 n3),(.int .u64 n4)]⟩)/\Q (.tuple ⟨[(.int .u64 n3),(.int .u64 n4)]⟩) h2):FW SS 80 [(.int .u64 x),(.int .u64 y)] h Q:=cE La Tryz.func80 (aj hx)
noncomputable def eM:FD:=cB Tryz.f66 [([1,1,1,1,1,1,0,0,0],[7,8])]
abbrev iF (e:OA)(en ec:Nat)(j:Int):LV:=[(.slice e en ec),(.int .i64 j)]
theorem Eu (a:OA)(n c:Nat)(x:Int)(h:Heap)(Q:VH)(hx:aB (decide ((x:Int) < 0)) (False) (FW SS 80 [(.int .u64 (wrap .u64 (n:Int))),(.int .u64 (wrap .u64 x))] h fun v1 h2=> ∃ n3:Int,∃ n4:Int,v1=(.tuple ⟨[(.int .u64 n3),(.int .u64 n4)]⟩)/\aB (decide ((n3:Int) > 0)) (False) (aB (decide ((n4:Int) > 9223372036854775807)) (False) (xR (aX SS.P 48 (.int .i64 (wrap .i64 n4)) (.int .i64 (wrap .i64 n4))) h2 fun B5 n6 c7 g8=>xC (lj SS.P 48 (sA (h2.next) n6 c7) (.slice a n c) g8) g8 fun n9 u10 g11=>LL SS eM [1,1,1,1,1,1,0,0,0] [(sA (h2.next) n6 c7),(.int .i64 n9)] g11 (KK SS eM [1,1,1,1,1,1,0,0] [] (EE SS eM Q)))))):FW SS 66 [(.slice a n c),(.int .i64 x)] h Q:=cE eM Tryz.func66 (aj hx)
theorem nV (a:OA)(n c:Nat)(x:Int)(e:OA)(en ec:Nat)(Inv:Nat->Int->Heap->Prop)(Q:VH)(step: ∀ (mz:Nat) (j:Int) (zz:Nat->Value) (h:Heap),Inv mz j h->aB (decide ((j:Int) < (en:Int))) (xL (bh SS.P 48 (.slice e en ec) (some (.int .i64 j)) none none (room h 10)) fun a12 n13 c14=>xL (bh SS.P 48 (.slice e en ec) none (some (.int .i64 j)) none (room h 10)) fun a15 n16 c17=>xC (lj SS.P 48 (.slice a12 n13 c14) (.slice a15 n16 c17) (room h 10)) (room h 10) fun n18 u19 g20=>aF (gM (iF e en ec) Inv) mz [(.slice e en ec),(.int .i64 (wrap .i64 (j+n18)))] g20) (Q (.slice e en ec) h))(mz:Nat){j:Int}{h:Heap}(hi:Inv mz j h):LL SS eM [1,1,1,1,1,1,0,0,0] (iF e en ec j) h (KK SS eM [1,1,1,1,1,1,0,0] [] (EE SS eM Q)):=
 cQ (iF e en ec) Inv (fun mz j zz h hi=>aj (step mz j zz h hi)) mz hi
noncomputable def cI:FD:=cB Tryz.f43 [([1,1,0,1,0,0],[1,2,4,5,19,20,21]),([1,1,1,1,0,1,0,0],[2,4,5,8,44,45,46]),([1,1,1,1,0,1,0,0,1,1,0,0,1,1,1,1,0,0],[2,4,5,8,11,44,45,46,69,70,71])]
abbrev ig (a:OA)(n c k k4:Nat)(e:OA)(en ec:Nat)(i:Nat):LV:=[(.slice a n c),(pA k),(pA k4),(.slice e en ec),(.slice a n c),(iA n),(iA i)]
abbrev eG (a:OA)(n c k k4 k8:Nat)(e:OA)(en ec:Nat)(i:Nat):LV:=[(pA k),(pA k4),(.slice e en ec),(pA k8),(.slice a n c),(iA n),(iA i)]
abbrev ic (a:OA)(n c k k4 k8 ks po:Nat)(e:OA)(en ec:Nat)(b:OA)(m d i:Nat)(j:Nat):LV:=[(pA k),(pA k4),(.slice e en ec),(pA k8),(.pointer (some ⟨ks,po,none⟩)),(.slice a n c),(iA n),(iA i),(.slice b m d),(iA m),(iA j)]
theorem JX (mv:LV)(a:OA)(n c:Nat)(h:Heap)(Q:VH)(hx:xN (dY SS.P 24 (.agg ⟨mv⟩)) h fun B1 g2=>xN (aD SS.P 24) g2 fun B3 g4=>xR (an SS.P 48 1 [(0,(.int .i64 (-1)))]) g4 fun B5 n6 c7 g8=>xP (af SS.P 24 (pA (h.next)) 3) fun p9=>xL (ah SS.P 22 g8 (.pointer (some p9))) fun a10 n11 c12=>FW SS 66 [(sA (g4.next) n6 c7),(iA n11)] g8 fun v13 h14=>yL v13 fun a15 n16 c17=>LL SS cI [1,1,0,1,0,0] (ig a n c (h.next) (g2.next) a15 n16 c17 0) h14 (KK SS cI [1,1,0,1,0] [] (EE SS cI Q))):FW SS 43 [(.agg ⟨mv⟩),(.slice a n c)] h Q:=cE cI Tryz.func43 (aj hx)
theorem qU (mv:LV)(a:OA)(n c:Nat)(k k4:Nat)(e:OA)(en ec:Nat)(Inv:Nat->Nat->Heap->Prop)(Q:VH)(step: ∀ (mz:Nat) (i:Nat) (zz:Nat->Value) (h:Heap),Inv mz i h->aB (decide (((i:Int):Int) < (n:Int))) (xP (ag SS.P 48 (.slice a n c) (iA i)) fun p18=>xI .i64 (ah SS.P 3 h (.pointer (some p18))) fun n19=>xP (ag SS.P 48 (.slice e en ec) (.int .i64 n19)) fun p20=>xU (ai SS.P 3 (.pointer (some p20)) (iA i) h) h fun u21 g22=>aF (gM (ig a n c k k4 e en ec) Inv) mz [(.slice a n c),(pA k),(pA k4),(.slice e en ec),(.slice a n c),(iA n),(.int .i64 (wrap .i64 ((i:Int)+1)))] g22) (xP (af SS.P 24 (pA k) 0) fun p23=>xI .i64 (ah SS.P 3 (room h 15) (.pointer (some p23))) fun n24=>xP (af SS.P 24 (pA k) 1) fun p25=>xI .i64 (ah SS.P 3 (room h 15) (.pointer (some p25))) fun n26=>xP (ag SS.P 48 (.slice e en ec) (.int .i64 n26)) fun p27=>xI .i64 (ah SS.P 3 (room h 15) (.pointer (some p27))) fun n28=>xP (af SS.P 24 (pA k) 2) fun p29=>xS (ah SS.P 9 (room h 15) (.pointer (some p29))) fun l30=>zR (aX SS.P 22 (iA n) (iA n)) fun B31 n32 c33=>xA (aC SS.P 24 [(0,(.int .i64 n24)),(1,(.int .i64 n28)),(2,(aa l30)),(3,(sA (h.next+11) n32 c33))]) fun c34=>zN (aD SS.P 24) fun B35=>xU (ai SS.P 24 (pA (h.next+13)) (.agg ⟨c34⟩) (ax (room h 15) h.next [(13,B35),(11,B31)])) (ax (room h 15) h.next [(13,B35),(11,B31)]) fun u36 g37=>LL SS cI [1,1,1,1,0,1,0,0] (eG a n c k k4 (h.next+13) e en ec 0) g37 (KK SS cI [1,1,1,1,0,1,0] [] (EE SS cI Q))))(mz:Nat){i:Nat}{h:Heap}(hi:Inv mz i h):LL SS cI [1,1,0,1,0,0] (ig a n c k k4 e en ec i) h (KK SS cI [1,1,0,1,0] [] (EE SS cI Q)):=
 cQ (ig a n c k k4 e en ec) Inv (fun mz i zz h hi=>aj (step mz i zz h hi)) mz hi
theorem qZ (mv:LV)(a:OA)(n c:Nat)(k k4 k8:Nat)(e:OA)(en ec:Nat)(Inv2:Nat->Nat->Heap->Prop)(Q:VH)(step: ∀ (mz2:Nat) (i:Nat) (zz:Nat->Value) (h:Heap),Inv2 mz2 i h->aB (decide (((i:Int):Int) < (n:Int))) (xP (ag SS.P 48 (.slice a n c) (iA i)) fun p38=>xI .i64 (ah SS.P 3 h (.pointer (some p38))) fun n39=>xP (af SS.P 24 (pA k8) 3) fun p40=>xL (ah SS.P 22 h (.pointer (some p40))) fun a41 n42 c43=>xP (ag SS.P 22 (.slice a41 n42 c43) (iA i)) fun p44=>xP (af SS.P 24 (pA k) 3) fun p45=>xL (ah SS.P 22 h (.pointer (some p45))) fun a46 n47 c48=>xP (ag SS.P 22 (.slice a46 n47 c48) (.int .i64 n39)) fun p49=>xP (af SS.P 37 (.pointer (some p49)) 0) fun p50=>xS (ah SS.P 9 h (.pointer (some p50))) fun l51=>xP (af SS.P 37 (.pointer (some p44)) 0) fun p52=>xU (ai SS.P 9 (.pointer (some p52)) (aa l51) h) h fun u53 g54=>xP (af SS.P 24 (pA k) 3) fun p55=>xL (ah SS.P 22 g54 (.pointer (some p55))) fun a56 n57 c58=>xP (ag SS.P 22 (.slice a56 n57 c58) (.int .i64 n39)) fun p59=>xP (af SS.P 37 (.pointer (some p59)) 1) fun p60=>xL (ah SS.P 35 g54 (.pointer (some p60))) fun a61 n62 c63=>LL SS cI [1,1,1,1,0,1,0,0,1,1,0,0,1,1,1,1,0,0] [(pA k),(pA k4),(.slice e en ec),(pA k8),(.pointer (some p44)),(.slice a n c),(iA n),(iA i),(.slice a61 n62 c63),(iA n62),(.int .i64 0)] g54 (KK SS cI [1,1,0,0,1,1,1,1,0] [1,1,1,1,0,1,0,0] (RR cI [1,1,1,1,0,1,0,0] (gM (eG a n c k k4 k8 e en ec) Inv2) mz2 (KK SS cI [1,1,1,1,0,1,0] [] (EE SS cI Q))))) (xA (ah SS.P 24 h (pA k8)) fun c64=>xU (ai SS.P 24 (pA k4) (.agg ⟨c64⟩) h) h fun u65 g66=>dH SS [((pA k4),some 24)] g66 Q))(mz2:Nat){i:Nat}{h:Heap}(hi:Inv2 mz2 i h):LL SS cI [1,1,1,1,0,1,0,0] (eG a n c k k4 k8 e en ec i) h (KK SS cI [1,1,1,1,0,1,0] [] (EE SS cI Q)):=
 cQ (eG a n c k k4 k8 e en ec) Inv2 (fun mz2 i zz h hi=>aj (step mz2 i zz h hi)) mz2 hi
theorem qT (mv:LV)(a:OA)(n c:Nat)(k k4 k8 ks po:Nat)(e:OA)(en ec:Nat)(b:OA)(m d:Nat)(Inv2:Nat->Nat->Heap->Prop)(mz2 i:Nat)(Inv3:Nat->Nat->Heap->Prop)(Q:VH)(step: ∀ (mz3:Nat) (j:Nat) (zz:Nat->Value) (h:Heap),Inv3 mz3 j h->aB (decide (((j:Int):Int) < (m:Int))) (xP (ag SS.P 35 (.slice b m d) (iA j)) fun p67=>xA (ah SS.P 39 h (.pointer (some p67))) fun c68=>xN (aD SS.P 39) h fun B69 g70=>xU (ai SS.P 39 (pA (h.next)) (.agg ⟨c68⟩) g70) g70 fun u71 g72=>xP (af SS.P 39 (pA (h.next)) 3) fun p73=>xI .i64 (ah SS.P 3 g72 (.pointer (some p73))) fun n74=>xP (ag SS.P 48 (.slice e en ec) (.int .i64 n74)) fun p75=>xI .i64 (ah SS.P 3 g72 (.pointer (some p75))) fun n76=>xP (af SS.P 39 (pA (h.next)) 3) fun p77=>xU (ai SS.P 3 (.pointer (some p77)) (.int .i64 n76) g72) g72 fun u78 g79=>xP (af SS.P 39 (pA (h.next)) 3) fun p80=>xI .i64 (ah SS.P 3 g79 (.pointer (some p80))) fun n81=>aB (((n81:Int) != (-1))) (xP (af SS.P 37 (.pointer (some ⟨ks,po,none⟩)) 1) fun p82=>xL (ah SS.P 35 (room g79 11) (.pointer (some p82))) fun a83 n84 c85=>xA (ah SS.P 39 (room g79 11) (pA (h.next))) fun c86=>zR (an SS.P 35 1 [(0,(.agg ⟨c86⟩))]) fun B87 n88 c89=>xE (aJ SS.P 35 35 (.slice a83 n84 c85) (sA (g79.next+6) n88 c89) (ax (room g79 11) g79.next [(6,B87)])) (ax (room g79 11) g79.next [(6,B87)]) fun a90 n91 c92 u93 g94=>xP (af SS.P 37 (.pointer (some ⟨ks,po,none⟩)) 1) fun p95=>xU (ai SS.P 35 (.pointer (some p95)) (.slice a90 n91 c92) g94) g94 fun u96 g97=>aF (gM (ic a n c k k4 k8 ks po e en ec b m d i) Inv3) mz3 [(pA k),(pA k4),(.slice e en ec),(pA k8),(.pointer (some ⟨ks,po,none⟩)),(.slice a n c),(iA n),(iA i),(.slice b m d),(iA m),(.int .i64 (wrap .i64 ((j:Int)+1)))] g97) (aF (gM (ic a n c k k4 k8 ks po e en ec b m d i) Inv3) mz3 [(pA k),(pA k4),(.slice e en ec),(pA k8),(.pointer (some ⟨ks,po,none⟩)),(.slice a n c),(iA n),(iA i),(.slice b m d),(iA m),(.int .i64 (wrap .i64 ((j:Int)+1)))] g79)) (aF (gM (eG a n c k k4 k8 e en ec) Inv2) mz2 [(pA k),(pA k4),(.slice e en ec),(pA k8),(.slice a n c),(iA n),(.int .i64 (wrap .i64 ((i:Int)+1)))] h))(mz3:Nat){j:Nat}{h:Heap}(hi:Inv3 mz3 j h):LL SS cI [1,1,1,1,0,1,0,0,1,1,0,0,1,1,1,1,0,0] (ic a n c k k4 k8 ks po e en ec b m d i j) h (KK SS cI [1,1,0,0,1,1,1,1,0] [1,1,1,1,0,1,0,0] (RR cI [1,1,1,1,0,1,0,0] (gM (eG a n c k k4 k8 e en ec) Inv2) mz2 (KK SS cI [1,1,1,1,0,1,0] [] (EE SS cI Q)))):=
 cQ (ic a n c k k4 k8 ks po e en ec b m d i) Inv3 (fun mz3 j zz h hi=>aj (step mz3 j zz h hi)) mz3 hi
noncomputable def jH:FD:=cB Tryz.f23 [([1,1,1,1,1,0,1,0,0],[1,2,5,25,26,27])]
abbrev eS (k k2:Nat)(a:OA)(n c:Nat)(i:Nat)(t:OA)(tn tc:Nat):LV:=[(pA k),(pA k2),(.slice t tn tc),(.slice a n c),(iA n),(iA i)]
theorem GD (mv:LV)(h:Heap)(Q:VH)(hx:xN (dY SS.P 24 (.agg ⟨mv⟩)) h fun B1 g2=>xN (aD SS.P 24) g2 fun B3 g4=>xA (ah SS.P 24 g4 (pA (h.next))) fun c5=>FW SS 10 [(.agg ⟨c5⟩)] g4 fun v6 h7=>yB v6 fun b8=>aB (!b8) (xA (aC SS.P 24 []) fun c9=>xU (ai SS.P 24 (pA (g2.next)) (.agg ⟨c9⟩) h7) h7 fun u10 g11=>dH SS [((pA (g2.next)),some 24),((.int .i64 1),none)] g11 Q) (xA (ah SS.P 24 h7 (pA (h.next))) fun c12=>FW SS 41 [(.agg ⟨c12⟩)] h7 fun v13 h14=>yL v13 fun a15 n16 c17=>xP (af SS.P 24 (pA (h.next)) 1) fun p18=>xI .i64 (ah SS.P 3 h14 (.pointer (some p18))) fun n19=>xP (ag SS.P 46 (.slice a15 n16 c17) (.int .i64 n19)) fun p20=>xB (ah SS.P 4 h14 (.pointer (some p20))) fun b21=>aB (!b21) (xP (af SS.P 24 (pA (h.next)) 0) fun p22=>xI .i64 (ah SS.P 3 h14 (.pointer (some p22))) fun n23=>FW SS 27 [(.int .i64 n23)] h14 fun v24 h25=> ∃ cs26:LV,∃ n27:Int,v24=(.tuple ⟨[(.agg ⟨cs26⟩),(.int .i64 n27)]⟩)/\xU (ai SS.P 24 (pA (g2.next)) (.agg ⟨cs26⟩) h25) h25 fun u28 g29=>dH SS [((pA (g2.next)),some 24),((.int .i64 n27),none)] g29 Q) (LL SS jH [1,1,1,1,1,0,1,0,0] (eS (h.next) (g2.next) a15 n16 c17 0 none 0 0) h14 (KK SS jH [1,1,1,1,1,0,1,0] [] (EE SS jH Q))))):FW SS 23 [(.agg ⟨mv⟩)] h Q:=cE jH Tryz.func23 (aj hx)
theorem pI (mv:LV)(k k2:Nat)(a:OA)(n c:Nat)(Inv:Nat->Nat->OA->Nat->Nat->Heap->Prop)(Q:VH)(step: ∀ (mz:Nat) (i:Nat) (t:OA) (tn tc:Nat) (zz:Nat->Value) (h:Heap),Inv mz i t tn tc h->aB (decide (((i:Int):Int) < (n:Int))) (xP (ag SS.P 46 (.slice a n c) (iA i)) fun p30=>xB (ah SS.P 4 h (.pointer (some p30))) fun b31=>aB b31 (xR (an SS.P 48 1 [(0,(iA i))]) h fun B32 n33 c34 g35=>xE (aJ SS.P 48 48 (.slice t tn tc) (sA (h.next) n33 c34) g35) g35 fun a36 n37 c38 u39 g40=>aF (xh (eS k k2 a n c) Inv) mz [(pA k),(pA k2),(.slice a36 n37 c38),(.slice a n c),(iA n),(.int .i64 (wrap .i64 ((i:Int)+1)))] g40) (aF (xh (eS k k2 a n c) Inv) mz [(pA k),(pA k2),(.slice t tn tc),(.slice a n c),(iA n),(.int .i64 (wrap .i64 ((i:Int)+1)))] h)) (xA (ah SS.P 24 h (pA k)) fun c41=>FW SS 43 [(.agg ⟨c41⟩),(.slice t tn tc)] h fun v42 h43=>yA v42 fun c44=>xU (ai SS.P 24 (pA k2) (.agg ⟨c44⟩) h43) h43 fun u45 g46=>dH SS [((pA k2),some 24),((.int .i64 0),none)] g46 Q))(mz:Nat){i:Nat}{t:OA}{tn tc:Nat}{h:Heap}(hi:Inv mz i t tn tc h):LL SS jH [1,1,1,1,1,0,1,0,0] (eS k k2 a n c i t tn tc) h (KK SS jH [1,1,1,1,1,0,1,0] [] (EE SS jH Q)):=
 zr (eS k k2 a n c) Inv (fun mz i t tn tc zz h hi=>aj (step mz i t tn tc zz h hi)) mz hi
section
section
variable {hb g g':Heap} {k off n c:Nat} {ps:List (MSt×Value)}
theorem nJ {ps:List (MSt×Value)}{i:Nat}(p:MSt×Value):(ps.set i p).map fg=(ps.map fg).set i (fg p):=by rw [List.map_set]
theorem OwnM.setF (w:Wf hb)(ok:Ok hb g)(m:OwnM hb g (.slice (some ⟨k,off,none⟩) n c) ps){i:Nat}{p:MSt×Value}(hp:ps[i]?=some p)(f:List UInt8):
  ∃ u:Upd,ai SS.P 9 (.pointer (some ⟨k,off+i*2+0,none⟩)) (aa f) g=some (undef,u)/\OwnM hb (u.app g) (.slice (some ⟨k,off,none⟩) n c) (ps.set i (⟨f,p.1.arcs⟩,p.2))/\Ok hb (u.app g)/\(∀ j B,g.get j=some B->k≠j->(u.app g).get j=some B)/\(u.app g).next=g.next:=by
 obtain ⟨u,h1,h2,h3,h4,h5⟩:=m.row.put (e:=37) (t':=9) (by kernel_rfl) w ok (i:=i) (j:=0) (r:=fg p) (by rw [getElem?_map,hp]; rfl) (by omega) (v':=aa f) rfl rfl;have key: ∀ {j:Nat}{q:MSt×Value},(ps.set i (⟨f,p.1.arcs⟩,p.2))[j]?=some q-> ∃ q',ps[j]?=some q'/\q.2=q'.2/\q.1.arcs=q'.1.arcs:=fun {j q} hq=>by
  rw [getElem?_set] at hq;split at hq
  ·next e=>
   subst e;split at hq
   ·obtain rfl:=oI hq; exact ⟨p,hp,rfl,rfl⟩
   ·cases hq
  ·exact ⟨q,hq,rfl,rfl⟩
 refine ⟨u,h1,⟨by rw [nJ]; exact h2,fun j q hq=> ?_,fun j q hq k' hk'=> ?_,fun j1 j2 q1 q2 hne hq1 hq2 k' hk'=> ?_⟩,h3,h4,h5⟩
 ·obtain ⟨q',e1,e2,e3⟩:=key hq;rw [e2,e3];exact (m.arcs j q' e1).keep fun k' B hk' hB=>h4 k' B hB (fun e=>m.ne j q' e1 k' hk' (by rw [<-e]; rfl))
 ·obtain ⟨q',e1,e2,e3⟩:=key hq;rw [e2] at hk';exact m.ne j q' e1 k' hk'
 ·obtain ⟨q1',e1,e2,e3⟩:=key hq1;obtain ⟨q2',e4,e5,e6⟩:=key hq2;rw [e2] at hk'; rw [e5];exact m.dis j1 j2 q1' q2' hne e1 e4 k' hk'
theorem OwnM.setA (w:Wf hb)(ok':Ok hb g')(m:OwnM hb g (.slice (some ⟨k,off,none⟩) n c) ps){i:Nat}{p:MSt×Value}(hp:ps[i]?=some p)(kp: ∀ j B,g.get j=some B->aK p.2≠some j->g'.get j=some B){b:Option Addr}{n' c':Nat}{arcs:List MArc}(ox:OwnK hb g' 39 4 (.slice b n' c') (arcs.map aO))(nx: ∀ j,aK (.slice b n' c')=some j->g.next<=j\/aK p.2=some j)(wg:Wf g):
  ∃ u:Upd,ai SS.P 35 (.pointer (some ⟨k,off+i*2+1,none⟩)) (.slice b n' c') g'=some (undef,u)/\OwnM hb (u.app g') (.slice (some ⟨k,off,none⟩) n c) (ps.set i (⟨p.1.f,arcs⟩,.slice b n' c'))/\Ok hb (u.app g')/\(∀ j B,g'.get j=some B->k≠j->(u.app g').get j=some B)/\(u.app g').next=g'.next:=by
 have hpk:aK p.2≠some k:=fun e=>m.ne i p hp k e rfl;have row':OwnK hb g' 37 2 (.slice (some ⟨k,off,none⟩) n c) (ps.map fg):=m.row.keep fun k' B hk' hB=>kp k' B hB (fun e=>m.ne i p hp k' e hk');obtain ⟨u,h1,h2,h3,h4,h5⟩:=row'.put (e:=37) (t':=35) (by kernel_rfl) w ok' (i:=i) (j:=1) (r:=fg p) (by rw [getElem?_map,hp]; rfl) (by omega) (v':= .slice b n' c') (d7 ..) (by cases b <;> rfl);have hlt:i < ps.length:=(List.getElem?_eq_some_iff.1 hp).1;have hkb:aK (.slice b n' c')≠some k:=fun e=>by
  rcases nx k e with h | h
  ·have:=(m.row.lt wg (k:=k) rfl).1; omega
  ·exact hpk h
 have key: ∀ {j:Nat}{q:MSt×Value},(ps.set i (⟨p.1.f,arcs⟩,.slice b n' c'))[j]?=some q->(j=i/\q=(⟨p.1.f,arcs⟩,.slice b n' c'))\/(j≠i/\ps[j]?=some q):=fun {j q} hq=>by
  rcases az hq with ⟨e,e2⟩ | ⟨e,hq⟩
  ·exact .inl ⟨e,e2⟩
  ·exact .inr ⟨e,hq⟩
 have old: ∀ {j:Nat}{q:MSt×Value},j≠i->ps[j]?=some q-> ∀ k',aK q.2=some k'->aK (.slice b n' c')≠some k':=fun {j q} hj hq k' hk' e=>by
  rcases nx k' e with h | h
  ·have:=((m.arcs j q hq).lt wg hk').1; omega
  ·exact m.dis j i q p hj hq hp k' hk' h
 refine ⟨u,h1,⟨by rw [nJ]; exact h2,fun j q hq=> ?_,fun j q hq k' hk'=> ?_,fun j1 j2 q1 q2 hne hq1 hq2 k' hk'=> ?_⟩,h3,h4,h5⟩
 ·rcases key hq with ⟨rfl,rfl⟩ | ⟨hj,hq⟩
  ·exact ox.keep fun k' B hk' hB=>h4 k' B hB (fun e=>hkb (by rw [e]; exact hk'))
  ·exact (m.arcs j q hq).keep fun k' B hk' hB=>h4 k' B (kp k' B hB (fun e=>m.dis j i q p hj hq hp k' hk' e)) (fun e=>m.ne j q hq k' hk' (by rw [<-e]; rfl))
 ·rcases key hq with ⟨rfl,rfl⟩ | ⟨hj,hq⟩
  ·exact fun e=>hkb (by rw [hk',<-e]; rfl)
  ·exact m.ne j q hq k' hk'
 ·rcases key hq1 with ⟨e1,e2⟩ | ⟨hj,f1⟩ <;> rcases key hq2 with ⟨e3,e4⟩ | ⟨hj2,f2⟩
  ·exact absurd (e1.trans e3.symm) hne
  ·rw [e2] at hk'; exact fun e=>old hj2 f2 k' e hk'
  ·rw [e4]; exact old hj f1 k' hk'
  ·exact m.dis j1 j2 q1 q2 hne f1 f2 k' hk'
theorem OwnM.at_ (m:OwnM hb g (.slice (some ⟨k,off,none⟩) n c) ps){i:Nat}{p:MSt×Value}(hp:ps[i]?=some p):
  ag SS.P 22 (.slice (some ⟨k,off,none⟩) n c) (.int .i64 (i:Int))=some (.pointer (some ⟨k,off+i*2,none⟩))/\ah SS.P 35 g (.pointer (some ⟨k,off+i*2+1,none⟩))=some p.2/\ah SS.P 37 g (.pointer (some ⟨k,off+i*2,none⟩))=some (.agg ⟨fg p⟩):=by
 obtain ⟨h1,h2,h3⟩:=m.row.at_ EJ rF (i:=i) (r:=fg p) (by rw [getElem?_map,hp]; rfl) .i64;exact ⟨h1,by rw [h2 35 _ 1 xX Fu (by omega)]; rfl,h3 _ LQ LF⟩
end
noncomputable def ti37:TypeInfo:=(SS.P.info? 37).getD default
theorem I5:SS.P.info? 37=some ti37:=by kernel_rfl
theorem Em:ti37.size=2:=by kernel_rfl
theorem A8:ti37.bytes=40:=by kernel_rfl
def zst:MSt×Value:=(⟨[],[]⟩,.slice none 0 0)
theorem L8:cw SS.P 37=some (.agg ⟨fg zst⟩):=by kernel_rfl
theorem LX (n:Nat)(hn:n<=100000):aX SS.P 22 (.int .i64 (n:Int)) (.int .i64 (n:Int))=some (.cells ((List.replicate n zst).map fg).flatten 37 2 true,gH n n):=by
 unfold aX aM;dsimp only;rw [EJ]
 try dsimp only
 change (match SS.P.info? 37,cw SS.P 37 with
  | some i,some z=>(if z.cells.size=i.size/\0 < i.size/\(0:Int)<=(n:Int)/\(n:Int)<=(n:Int)/\(n:Int)*i.bytes<=140737488355328/\(n:Int)<=1099511627776 then some (Blk.cells (aZ z.cells.toList (n:Int).toNat) 37 i.size true,fun k=>Value.slice (some ⟨k,0,none⟩) (n:Int).toNat (n:Int).toNat) else none)
  | _,_=>none)=_
 rw [I5,L8];dsimp only;rw [Em,A8,if_pos ⟨rfl,by omega,by omega,Int.le_refl _,by omega,by omega⟩];have e:((n:Int)).toNat=n:=by omega
 rw [e,show (Value.agg ⟨fg zst⟩).cells.toList=fg zst from rfl,wX,List.map_replicate]; rfl
theorem OwnM.made {hb g:Heap}{k n:Nat}(hk:g.get k=some (.cells ((List.replicate n zst).map fg).flatten 37 2 true))(h0k:hb.next<=k)(hn:n<=100000):OwnM hb g (.slice (some ⟨k,0,none⟩) n n) (List.replicate n zst):=by
 have key: ∀ {i:Nat}{p:MSt×Value},(List.replicate n zst)[i]?=some p->p=zst:=fun {i p} hp=>by
  rw [getElem?_replicate] at hp;split at hp
  ·exact (oI hp).symm
  ·cases hp
 have hl:((List.replicate n zst).map fg).length=n:=by simp
 have:=OwnK.made (h0:=hb) hk C8 h0k (by rw [hl]; unfold bj; omega);rw [hl] at this;exact ⟨this,fun i p hp=>(by rw [key hp]; exact OwnK.nil _ _ _ _),fun i p hp k' hk'=>(by rw [key hp] at hk'; cases hk'),fun i j p q _ hp hq k' hk'=>(by rw [key hp] at hk'; cases hk')⟩
def bK:List Nat->Nat->Nat->Int
 | [],_,_=> -1
 | o::r,i,x=>if o=x then (i:Int) else bK r (i+1) x
theorem uR: ∀ (l:List Nat)(i o x:Nat),o ∉ l->bK (l++[o]) i x=if x=o then ((i+l.length:Nat):Int) else bK l i x
 | [],i,o,x,_=>by
  show (if o=x then (i:Int) else -1)=if x=o then ((i+0:Nat):Int) else -1;by_cases h:x=o
  ·rw [if_pos h,if_pos h.symm]; rfl
  ·rw [if_neg h,if_neg (fun e=>h e.symm)]
 | y::l,i,o,x,hn=>by
  have h1: ¬ o=y:=fun e=>hn (e ▸ mem_cons_self ..);have ih:=uR l (i+1) o x (fun h=>hn (mem_cons_of_mem _ h));show (if y=x then (i:Int) else bK (l++[o]) (i+1) x)=if x=o then _ else (if y=x then (i:Int) else bK l (i+1) x);rw [ih,length_cons];by_cases h:x=o
  ·rw [if_pos h,if_pos h,if_neg (by rw [h]; exact fun e=>h1 e.symm)]; congr 1; omega
  ·rw [if_neg h,if_neg h]
theorem iH: ∀ (l:List Nat)(i x:Nat),bK l i x = -1\/((i:Int)<=bK l i x/\bK l i x < ((i+l.length:Nat):Int))
 | [],i,x=> .inl rfl
 | o::l,i,x=>by
  unfold bK;split
  ·right; rw [length_cons]; omega
  ·rcases iH l (i+1) x with h | h
   ·exact .inl h
   ·right; rw [length_cons]; omega
theorem iN: ∀ (l:List Nat)(i x:Nat),bK l i x≠ -1↔x∈l
 | [],i,x=>by simp [bK]
 | o::l,i,x=>by
  unfold bK;split
  ·next h=>exact ⟨fun _=>h ▸ mem_cons_self ..,fun _=>by omega⟩
  ·next h=>
   rw [iN l (i+1) x];exact ⟨fun h'=>mem_cons_of_mem _ h',fun h'=>(mem_cons.1 h').resolve_left fun e=>h e.symm⟩
def ci (ord:List Nat)(q:MArc):Option MArc:=if bK ord 0 q.t.toNat = -1 then none else some ⟨q.i,q.o,q.w,bK ord 0 q.t.toNat⟩
def eL (M:Mach)(ord:List Nat)(s:Nat):MSt:=⟨(M.states.getD s ⟨[],[]⟩).f,(M.states.getD s ⟨[],[]⟩).arcs.filterMap (ci ord)⟩
def bi (M:Mach)(ord:List Nat):Mach:=⟨M.kind,bK ord 0 M.start.toNat,M.lead,ord.map (eL M ord)⟩
def Lv (h:Heap)(M:Mach):VH:=fun v h'=> ∃ (a:Option Addr)(n c:Nat)(ps:List (MSt×Value)),v = .agg ⟨aQ M a n c⟩/\ps.map (·.1)=M.states/\OwnM h h' (.slice a n c) ps/\Ok h h'
structure OrdOk (N:Nat)(ord:List Nat):Prop where
 lt: ∀ x∈ord,x < N
 nd:ord.Nodup
end
end Go.Proofs.YtoabjjimjldcfaaGreatDoor
end
