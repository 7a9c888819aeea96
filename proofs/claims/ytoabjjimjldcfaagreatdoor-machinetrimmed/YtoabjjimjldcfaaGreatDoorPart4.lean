/- Laws and walks that the proof leans on (part 4): P25; W10; P23; AbRow; P24; P26 and others. No condition. -/
import Derived.Test.YtoabjjimjldcfaaGreatDoorPart2
import Derived.Test.YtoabjjimjldcfaaGreatDoorPart3
open List (all_cons append_assoc append_nil drop_eq_nil_of_le drop_take drop_zero flatten_cons getElem?_drop getElem?_map getElem?_replicate getElem?_set getElem?_take length_append length_cons length_drop length_nil length_replicate length_set length_singleton length_take mem_append mem_cons mem_cons_of_mem mem_cons_self mem_map mem_singleton nil_append take_add_one take_of_length_le take_zero)
open Nat (add_mul le_refl le_succ le_trans lt_of_lt_of_le lt_or_ge mul_le_mul_right mul_one one_mul zero_add)
open Bool (and_eq_true not_eq_false' not_eq_true')
open Int (toNat_natCast)
open Go.IntKind (wrap)
section
set_option linter.unusedVariables false
set_option maxRecDepth 100000
namespace Go.Proofs.YtoabjjimjldcfaaGreatDoor
open Go Go.Ab
theorem IK:SS.P.underlying 9=some .string:=Tryz.underlying9
theorem Cs (l:List UInt8)(h:Heap){b:Nat}(hb:b<=l.length):bm SS.P 9 (aa l) none (some (.int .i64 (b:Int))) none h=some (aa (l.take b)):=by
 have:=jk (h:=h) IK l (lo:=none) (hi:=some (.int .i64 (b:Int))) (a:=0) (b:=b) rfl rfl (by omega) hb;simpa using this
theorem uZ (l:List UInt8)(h:Heap){a:Nat}(ha:a<=l.length):bm SS.P 9 (aa l) (some (.int .i64 (a:Int))) none none h=some (aa (l.drop a)):=by
 have:=jk (h:=h) IK l (lo:=some (.int .i64 (a:Int))) (hi:=none) (a:=a) (b:=l.length) rfl rfl ha (le_refl _);rw [this,take_of_length_le (by simp)]
theorem E6 (l:List UInt8)(h:Heap):FW SS 177 [aa l,aa [45]] h (fun v h'=>v = .bool (Num.isNeg l)/\h'=h):=by
 refine EP l [45] h _ (ae (fun h1=> ?_) (fun h1=> ?_))
 ·have h1:=dT h1;have h2:1<=l.length:=by simp only [length_cons,length_nil] at h1; omega
  refine ⟨_,Cs l h (b:=1) h2,?_,rfl⟩
  cases l with
  | nil=>simp at h2
  | cons c l=>
   unfold Num.isNeg;simp only [List.take_succ_cons,take_zero,List.head?_cons];congr 1
   cases hc:c == 45 <;> simp_all
 ·have h1:=dF h1;have h2:l=[]:=List.eq_nil_of_length_eq_zero (by simp at h1; omega);subst h2;exact ⟨rfl,rfl⟩
theorem Ax (l:List UInt8)(h:Heap):FW SS 165 [aa l,aa [45]] h (fun v h'=>v = .tuple ⟨[aa (Num.afterNeg l),.bool (Num.isNeg l)]⟩/\h'=h):=by
 refine Ca l [45] h _ ((E6 l h).mono ?_);rintro _ g0 ⟨rfl,e0⟩;obtain rfl:h=g0:=e0.symm;refine ⟨_,rfl,ae (fun g=> ?_) (fun g=> ?_)⟩
 ·have g:Num.isNeg l=false:=by simpa using g
  unfold Num.afterNeg; rw [g]; exact ⟨rfl,rfl⟩
 ·have g:Num.isNeg l=true:=by simpa using g
  have h2:1<=l.length:=by
   cases l with
   | nil=>cases g
   | cons=>simp
  refine ⟨_,uZ l h (a:=1) h2,?_,rfl⟩;unfold Num.afterNeg; rw [g]; rfl
theorem DJ (l:List UInt8)(h:Heap):FW SS 145 [aa l,aa [45]] h (fun v h'=>v = .tuple ⟨[aa (Num.afterNeg l),.bool (Num.isNeg l)]⟩/\h'=h):=by
 refine Et l [45] h _ ((Ax l h).mono ?_);rintro _ g0 ⟨rfl,e0⟩;exact ⟨_,_,rfl,rfl,e0⟩
theorem AH (l:List UInt8): ∀ i:Nat,lm 47 l i=if Num.idxB 47 l < l.length then ((i+Num.idxB 47 l:Nat):Int) else -1:=by
 induction l with
 | nil=>intro i; rfl
 | cons c l ih=>
  intro i;unfold lm Num.idxB;have hc:c.toNat=47↔c=47:=by rw [<-UInt8.toNat_inj]; rfl
  by_cases h:c=47
  ·rw [if_pos (hc.2 h),if_pos h,if_pos (by simp)]; rfl
  ·rw [if_neg (fun e=>h (hc.1 e)),if_neg h,ih (i+1)];have:(Num.idxB 47 l+1 < (c::l).length)↔Num.idxB 47 l < l.length:=by simp
   simp only [this];split
   ·congr 1; omega
   ·rfl
def HA (l:List UInt8):Int:=if Num.idxB 47 l < l.length then (Num.idxB 47 l:Int) else -1
theorem zr (l:List UInt8)(h:Heap):FW SS 186 [aa l,.int .u8 47] h (fun v h'=>v = .int .i64 (HA l)/\h'=h):=by
 refine y7 l 47 h _ (rz (p:=iJ) (v:= .int .i64 (HA l)) (h':=h) (by decide +kernel) (by kernel_rfl) (fun cf=> ?_) ⟨_,rfl,rfl,rfl⟩);show (if (0:Int)<=47/\(47:Int) < 256 then some (Value.int .i64 (lm 47 l 0),h) else none)=_;rw [if_pos (by decide),AH,zero_add]; rfl
theorem El (l:List UInt8)(h:Heap):FW SS 178 [aa l,aa [47]] h (fun v h'=>v = .int .i64 (HA l)/\h'=h):=by
 refine Eu l h _ (ae (fun h1=> ?_) (fun h1=> ?_))
 ·have h1:([47]:List UInt8)=l:=by simpa using h1
  subst h1;exact ⟨rfl,rfl⟩
 ·refine ⟨47,rfl,(zr l h).mono ?_⟩;rintro _ g0 ⟨rfl,e0⟩;exact ⟨_,rfl,rfl,e0⟩
def Fg (l:List UInt8):Value:=if Num.idxB 47 l < l.length then .tuple ⟨[aa (l.take (Num.idxB 47 l)),aa (l.drop (Num.idxB 47 l+1)),.bool true]⟩ else .tuple ⟨[aa l,aa [],.bool false]⟩
theorem Jw (l:List UInt8)(hl:l.length<=1000000000){h:Heap}(w:Wf h):FW SS 166 [aa l,aa [47]] h (fun v h'=>v=Fg l/\Ok h h'):=by
 refine Jr l h _ ((El l h).mono ?_);rintro _ g0 ⟨rfl,e0⟩;obtain rfl:h=g0:=e0.symm;refine ⟨_,rfl,ae (fun g=> ?_) (fun g=> ?_)⟩
 ·have g:=dT g;unfold HA Fg at *;by_cases h1:Num.idxB 47 l < l.length
  ·rw [if_pos h1,if_pos h1];have hw:wrap .i64 ((Num.idxB 47 l:Int)+1)=((Num.idxB 47 l+1:Nat):Int):=by rw [ax (by omega) (by omega)]; omega
   rw [hw];exact ⟨_,Cs l _ (Nat.le_of_lt h1),_,uZ l _ h1,rfl,(Ok.refl w).room 12⟩
  ·rw [if_neg h1] at g; omega
 ·have g:=dF g;unfold HA Fg at *;by_cases h1:Num.idxB 47 l < l.length
  ·rw [if_pos h1] at g; omega
  ·rw [if_neg h1]; exact ⟨rfl,Ok.refl w⟩
theorem Lz (l:List UInt8)(hl:l.length<=1000000000){h:Heap}(w:Wf h):FW SS 146 [aa l,aa [47]] h (fun v h'=>v=Fg l/\Ok h h'):=by
 refine LI l h _ ((Jw l hl w).mono ?_);rintro _ g0 ⟨rfl,e0⟩;unfold Fg;split
 ·exact ⟨_,_,_,rfl,rfl,e0⟩
 ·exact ⟨_,_,_,rfl,rfl,e0⟩
end Go.Proofs.YtoabjjimjldcfaaGreatDoor
end
section
namespace Go.Ab
open Go
theorem Ex (k i j:Nat):Addr.add ⟨k,i,none⟩ j=⟨k,i+j,none⟩:=by simp [Addr.add]
theorem FF {P:Program}{t e:TypeId}{sz:Nat}(hU:P.underlying t=some (.slice e))(hs:ak P e=some sz){k off n c:Nat}{ik:IntKind}{i:Int}(h0:0<=i)(h1:i < n):ah P t (.slice (some ⟨k,off,none⟩) n c) (.int ik i)=some (.pointer (some ⟨k,off+i.toNat*sz,none⟩)):=by
 unfold ah;rw [hU]; dsimp only;rw [hs]; dsimp only;rw [if_pos ⟨h0,h1⟩,Ex]
theorem cM {P:Program}{t:TypeId}{d:TypeDesc}(hU:P.underlying t=some d)(ha:isAgg P t=false){h:Heap}{k i:Nat}{cs:List Value}{e:TypeId}{sz:Nat}{wr:Bool}(hg:h.get k=some (.cells cs e sz wr))(hi:i < cs.length):ag P t h (.pointer (some ⟨k,i,none⟩))=some (cs.getD i undef):=by
 unfold ag;rw [hU]; dsimp only;rw [hg]; dsimp only;rw [ha];simp only [Bool.false_eq_true,if_false];rw [gD,gE hi]; rfl
theorem ft {P:Program}{t:TypeId}{d:TypeDesc}{sz:Nat}(hU:P.underlying t=some d)(ha:isAgg P t=true)(hs:ak P t=some sz){h:Heap}{k i:Nat}{cs:List Value}{e:TypeId}{z:Nat}{wr:Bool}(hg:h.get k=some (.cells cs e z wr))(hi:i+sz<=cs.length):ag P t h (.pointer (some ⟨k,i,none⟩))=some (.agg ⟨(cs.drop i).take sz⟩):=by
 unfold ag;rw [hU]; dsimp only;rw [hg]; dsimp only;rw [ha];simp only [if_true];rw [hs]; dsimp only;rw [if_pos (by rw [length_take,length_drop]; omega)]
theorem j6 {P:Program}{t:TypeId}(hs:ak P t=some 1){h:Heap}{k i:Nat}{cs:List Value}{e:TypeId}{sz:Nat}(hg:h.get k=some (.cells cs e sz true))(hi:i < cs.length){v:Value}(hv:bA v=true)(hc:v.cells = #[v]):ai P t (.pointer (some ⟨k,i,none⟩)) v h=some (undef,.set k (.cells (cs.set i v) e sz true)):=by
 unfold ai;dsimp only;rw [hc,if_pos (show ak P t=some (#[v]:Array Value).size from hs)];unfold storeAt;rw [hg]; dsimp only;rw [if_pos ⟨by simp; omega,by simp [hv]⟩];have e0:cs.take i++[v]++cs.drop (i+1)=cs.set i v:=by
  rw [List.set_eq_take_append_cons_drop,if_pos hi,append_assoc]; rfl
 show some (undef,Upd.set k (.cells (cs.take i++[v]++cs.drop (i+1)) e sz true))=_;rw [e0]
structure IRow (hb:Heap)(kt:Nat)(e:TypeId)(vs:List Value)(g:Heap):Prop where
 row:g.get kt=some (.cells vs e 1 true)
 new:hb.next<=kt
 ok:Ok hb g
theorem IRow.lt {hb:Heap}{kt:Nat}{e:TypeId}{vs:List Value}{g:Heap}(m:IRow hb kt e vs g):kt < g.next:=m.ok.wf _ _ m.row
theorem IRow.trans {hb:Heap}{kt:Nat}{e:TypeId}{vs:List Value}{g g':Heap}(m:IRow hb kt e vs g)(o:Ok g g'):IRow hb kt e vs g':=⟨o.ext _ _ m.row,m.new,m.ok.trans o⟩
theorem IRow.set {hb:Heap}(w:Wf hb){kt:Nat}{e:TypeId}{vs:List Value}{g:Heap}(m:IRow hb kt e vs g)(j:Nat)(v:Value):IRow hb kt e (vs.set j v) ((Upd.set kt (.cells (vs.set j v) e 1 true)).app g):=by
 refine ⟨?_,m.new,m.ok.set _ m.new m.lt w⟩;show (g.set kt _).get kt=_;rw [Heap.get_set,if_pos rfl]
theorem lc (z:Value)(n:Nat):bc [z] n=List.replicate n z:=by
 induction n with
 | zero=>rfl
 | succ n ih=>rw [bc,ih,List.replicate_succ]; rfl
theorem IX {α:Type}(f:α->Value)(L:List α)(j:Nat)(d:α):(L.map f).set j (f d)=(L.set j d).map f:=by rw [List.map_set]
end Go.Ab
end
section
set_option linter.defProp false
set_option linter.unusedVariables false
set_option maxRecDepth 100000
namespace Go.Proofs.YtoabjjimjldcfaaGreatDoor
open Go Go.Ab
noncomputable def ti3:TypeInfo:=(SS.P.info? 3).getD default
theorem Lx:SS.P.info? 3=some ti3:=by kernel_rfl
theorem G6:ti3.size=1:=by kernel_rfl
theorem DP:ti3.bytes=8:=by kernel_rfl
theorem Nk:bW SS.P 3=some (iv 0):=by kernel_rfl
theorem Og (n:Nat)(hn:n<=100000):aU SS.P 48 (.int .i64 (n:Int)) (.int .i64 (n:Int))=some (.cells ((List.replicate n 0).map iv) 3 1 true,gm n n):=by
 unfold aU aP;dsimp only;rw [kE]
 try dsimp only
 change (match SS.P.info? 3,bW SS.P 3 with
  | some i,some z=>(if z.cells.size=i.size/\0 < i.size/\(0:Int)<=(n:Int)/\(n:Int)<=(n:Int)/\(n:Int)*i.bytes<=140737488355328/\(n:Int)<=1099511627776 then some (Blk.cells (bc z.cells.toList (n:Int).toNat) 3 i.size true,fun k=>Value.slice (some ⟨k,0,none⟩) (n:Int).toNat (n:Int).toNat) else none)
  | _,_=>none)=_
 rw [Lx,Nk];dsimp only;rw [G6,DP,if_pos ⟨rfl,by omega,by omega,Int.le_refl _,by omega,by omega⟩];have e:((n:Int)).toNat=n:=by omega
 rw [e,show (iv 0).cells.toList=[iv 0] from rfl,lc,List.map_replicate]; rfl
theorem fM (n:Int):d7 4 (.int .i64 n) (.int .i64 n)=true:=by simp [d7]
end Go.Proofs.YtoabjjimjldcfaaGreatDoor
end
section
set_option linter.unusedVariables false
set_option maxRecDepth 100000
namespace Go.Proofs.YtoabjjimjldcfaaGreatDoor
open Go Go.Ab
def nG (h:Heap)(C:Prop)(G B:Value):VH:=fun v h'=>Ok h h'/\(C->v=G)/\(¬ C->v=B)
theorem Eg {h h':Heap}{C:Prop}{G B:Value}(o:Ok h h')(hc: ¬ C):nG h C G B B h':=⟨o,fun c=>absurd c hc,fun _=>rfl⟩
theorem AW {h h':Heap}{C:Prop}{G B:Value}(o:Ok h h')(hc:C):nG h C G B G h':=⟨o,fun _=>rfl,fun c=>absurd hc c⟩
theorem HW {n d:List UInt8}(hn:Num.valid n=true)(hd:Num.valid d=true):AU n d=uC (Num.toDec (Nat.gcd (Num.val n) (Num.val d))) 0:=by unfold AU; rw [if_pos ⟨hn,hd⟩]
theorem im {X:Nat}(h:X < 10 ^ 800):Num.valid (Num.toDec X)=true:=Num.valid_toDec.2 (lt_of_lt_of_le h (Num.pow_mono10 (k:=800) (m:=1000) (by decide)))
theorem CT {X:Nat}(h:X < 10 ^ 1000):pf X=uC (Num.toDec X) 0:=by
 unfold pf;rw [if_neg];have:=(Num.toDec_len_le (n:=X) (k:=1000) (by decide)).2 h;omega
theorem Gz {A B:Nat}(hA:A < 10 ^ 800)(hB:B < 10 ^ 800):Cl (Num.toDec A) (Num.toDec B)=uC (Num.toDec (A+B)) 0:=by
 unfold Cl;rw [if_pos ⟨im hA,im hB⟩,Num.val_toDec,Num.val_toDec];exact CT (lt_of_lt_of_le (Nat.add_lt_add hA hB) Num.pow_800)
theorem yu {A B:Nat}(hA:A < 10 ^ 800)(hB:B < 10 ^ 800)(h:B<=A):BC (Num.toDec A) (Num.toDec B)=uC (Num.toDec (A - B)) 0:=by
 unfold BC;rw [if_pos ⟨im hA,im hB⟩,Num.val_toDec,Num.val_toDec,if_neg (Nat.not_lt.2 h)]
theorem GP {A B:Nat}(hA:A < 10 ^ 800)(hB:B < 10 ^ 800):Bg (Num.toDec A) (Num.toDec B) = .int .i64 (Num.cmpN A B):=by
 unfold Bg;rw [if_pos ⟨im hA,im hB⟩,Num.val_toDec,Num.val_toDec]
theorem oe {a b:List UInt8}(ha:Num.valid a=true)(hb:Num.valid b=true)(la:a.length<=400)(lb:b.length<=400):Bi a b=uC (Num.toDec (Num.val a*Num.val b)) 0/\Num.val a*Num.val b < 10 ^ 800:=by
 have h:=Num.pow_400_800 (Num.valid_lt (k:=400) ha (by decide) la) (Num.valid_lt (k:=400) hb (by decide) lb);refine ⟨?_,h⟩;unfold Bi;rw [if_pos ⟨ha,hb⟩];exact CT (lt_of_lt_of_le h (Num.pow_mono10 (k:=800) (m:=1000) (by decide)))
def C6 (s:Bool)(A:Nat)(t:Bool)(B:Nat):Value:= .tuple ⟨[.bool (Num.plusS s A t B).1,aa (Num.toDec (Num.plusS s A t B).2)]⟩
theorem cmpN_lt0 {A B:Nat}:Num.cmpN A B < 0↔A < B:=Num.cmpN_neg
end Go.Proofs.YtoabjjimjldcfaaGreatDoor
end
section
set_option linter.defProp false
set_option linter.unusedVariables false
set_option maxRecDepth 100000
namespace Go.Proofs.YtoabjjimjldcfaaGreatDoor
open Go Go.Ab
structure MR (hb:Heap)(kt N:Nat)(L:List Nat)(g:Heap):Prop where
 len:L.length=N
 lt: ∀ d∈L,d < BB
 row:g.get kt=some (.cells (bh ((List.replicate N 0).map uv) 0 L) 103 1 true)
 ok:Ok hb g
theorem MR.room {hb:Heap}{kt N:Nat}{L:List Nat}{g:Heap}(m:MR hb kt N L g)(r:Nat):MR hb kt N L (Go.Ab.room g r):=⟨m.len,m.lt,m.row,m.ok.room r⟩
theorem MR.get {hb:Heap}{kt N c:Nat}{L:List Nat}{g:Heap}(m:MR hb kt N L g){j:Int}{jn:Nat}(hj:j=(jn:Int))(hl:jn < N): ∃ p:Addr,ah SS.P 136 (.slice (some ⟨kt,0,none⟩) N c) (.int .i64 j)=some (.pointer (some p))/\ag SS.P 103 g (.pointer (some p))=some (.int .u64 (L.getD jn 0:Nat))/\
  ∀ d:Nat,d < BB->kt < g.next->hb.next<=kt->Wf hb-> ∃ u:Upd,ai SS.P 103 (.pointer (some p)) (.int .u64 (d:Int)) g=some (undef,u)/\MR hb kt N (L.set jn d) (u.app g):=by
 subst hj;have hc:(0:Nat)+L.length<=((List.replicate N 0).map uv).length:=by rw [lM,length_replicate,m.len]; omega
 refine ⟨⟨kt,0+(jn:Int).toNat,none⟩,oT (by omega) (by omega),?_,?_⟩
 ·rw [toNat_natCast];exact sY m.row hc (by rw [m.len]; exact hl)
 ·intro d hd hk hn w;rw [toNat_natCast];refine ⟨_,sj m.row hc (by rw [m.len]; exact hl) d,by rw [length_set]; exact m.len,fun e he=> ?_,?_,m.ok.set _ hn hk w⟩
  ·rcases List.mem_or_eq_of_mem_set he with h | h
   ·exact m.lt e h
   ·rw [h]; exact hd
  ·show (g.set kt _).get kt=_;rw [Heap.get_set,if_pos rfl]
def HE (hb:Heap)(kt N n:Nat)(x y:List Nat)(mz i:Nat)(g:Heap):Prop:=i<=n/\mz=n - i/\ ∃ L,MR hb kt N L g/\Num.bv BB L=Num.bv BB (x.take i)*Num.bv BB y
def KJ (hb:Heap)(kt N k:Nat)(x y:List Nat)(i mz j:Nat)(cy:Int)(g:Heap):Prop:=j<=k+1/\mz=k+1 - j/\ ∃ (L:List Nat)(cn:Nat),cy=(cn:Int)/\cn < BB/\MR hb kt N L g/\Num.bv BB L+cn*BB ^ (i+j)=Num.bv BB (x.take i)*Num.bv BB y+x.getD i 0*Num.bv BB (y.take j)*BB ^ i
theorem Bu {hb:Heap}(w:Wf hb){kt N k:Nat}{x y:List Nat}(hkt:hb.next<=kt)(hx: ∀ d∈x,d < BB)(hy: ∀ d∈y,d < BB){i mz j:Nat}{cn:Nat}{L:List Nat}{g:Heap}(hj:j < k+1)(hij:i+j < N)(hmz:mz=k+1 - j)(hcn:cn < BB)(m:MR hb kt N L g)(he:Num.bv BB L+cn*BB ^ (i+j)=Num.bv BB (x.take i)*Num.bv BB y+x.getD i 0*Num.bv BB (y.take j)*BB ^ i){q:Nat}(hq:q=x.getD i 0*y.getD j 0):
  q<=999999998000000001/\L.getD (i+j) 0 < BB/\(∀ g',MR hb kt N (L.set (i+j) ((L.getD (i+j) 0+cn+q) % BB)) g'->mz - 1 < mz/\KJ hb kt N k x y i (mz - 1) (j+1) (((L.getD (i+j) 0+cn+q) / BB:Nat):Int) g')/\(L.getD (i+j) 0+cn+q) % BB < BB/\kt < g.next:=by
 have hxi:=Num.getD_lt (b:=BB) (by decide) hx i;have hyj:=Num.getD_lt (b:=BB) (by decide) hy j;have hLj:=Num.getD_lt (b:=BB) (by decide) m.lt (i+j);refine ⟨?_,hLj,fun g' m'=>⟨by omega,by omega,by omega,_,_,rfl,?_,m',?_⟩,Nat.mod_lt _ (by decide),m.ok.wf _ _ m.row⟩
 ·rw [hq];exact le_trans (Nat.mul_le_mul (Nat.le_of_lt_succ hxi) (Nat.le_of_lt_succ hyj)) (by decide)
 ·exact (Num.mul_step dc m.lt (by rw [m.len]; exact hij) hcn hxi hyj (by rw [hq]) he).2.1
 ·exact (Num.mul_step dc m.lt (by rw [m.len]; exact hij) hcn hxi hyj (by rw [hq]) he).2.2
def Ds {hb:Heap}(w:Wf hb){a:Option Addr}{n c:Nat}{b:Option Addr}{k d:Nat}{kt N tc:Nat}{x y:List Nat}(ra:Rd hb 103 (.slice a n c) (x.map uv))(rb:Rd hb 103 (.slice b k d) (y.map uv))(hx: ∀ d∈x,d < BB)(hy: ∀ d∈y,d < BB)(hkt:hb.next<=kt){i:Nat}(hi:i < n)(hn:n=x.length)(hk:k=y.length)(hN:N=n+k+1)(hN2:N<=1000)(l m:List UInt8)(Q:VH)(mz:Nat)(hmz:mz=n - i):=
 oq l m a n c b k d (some ⟨kt,0,none⟩) N tc (n:Int) (HE hb kt N n x y) mz i ((k:Int)+1) (KJ hb kt N k x y i) Q (by
  intro mz2 j cy; intros; rename_i g hin;obtain ⟨h1,h2,L,cn,rfl,h3,mr,h4⟩:=hin;have hBv:BB=1000000000:=rfl;have e1:wrap .i64 ((i:Int)+(j:Int))=((i+j:Nat):Int):=by rw [ax (by omega) (by omega)]; omega
  have e2:wrap .i64 ((j:Int)+1)=((j+1:Nat):Int):=by rw [ax (by omega) (by omega)]; omega
  have e3:wrap .i64 ((i:Int)+1)=((i+1:Nat):Int):=by rw [ax (by omega) (by omega)]; omega
  rw [e1,e2,e3];refine ae (fun h5=> ?_) (fun h5=> ?_)
  ·have h5:=dT h5;obtain ⟨q,hq⟩: ∃ q,q=x.getD i 0*y.getD j 0:=⟨_,rfl⟩
   obtain ⟨s1,s2,s3,s4,s5⟩:=Bu w hkt hx hy (by omega) (by omega) h2 h3 mr h4 hq;obtain ⟨p,g1,g2,_⟩:=mr.get (c:=tc) (j:=((i+j:Nat):Int)) rfl (by omega);have e4:wrap .u64 (((L.getD (i+j) 0:Nat):Int)+(cn:Int))=((L.getD (i+j) 0+cn:Nat):Int):=by rw [cI (by omega) (by omega)]; omega
   refine ⟨p,g1,_,g2,ae (fun h6=> ?_) (fun h6=> ?_)⟩
   ·have h6:=dT h6;obtain ⟨p1,f1,f2⟩:=vf (ra.ok (mr.room 12).ok) (i:=(i:Int)) (by omega) (by omega);obtain ⟨p2,f3,f4⟩:=vf (rb.ok (mr.room 12).ok) (i:=(j:Int)) (by omega) (by omega);rw [toNat_natCast] at f2 f4;have e5:wrap .u64 (((x.getD i 0:Nat):Int)*((y.getD j 0:Nat):Int))=(q:Int):=by rw [<-Int.natCast_mul,<-hq]; exact cI (by omega) (by omega)
    have e6:wrap .u64 (((L.getD (i+j) 0+cn:Nat):Int)+(q:Int))=((L.getD (i+j) 0+cn+q:Nat):Int):=by rw [cI (by omega) (by omega)]; omega
    rw [e4];refine ⟨p1,f1,_,f2,p2,f3,_,f4,?_⟩;dsimp only;rw [e5,e6];obtain ⟨p3,g3,_,g5⟩:=(mr.room 12).get (c:=tc) (j:=((i+j:Nat):Int)) rfl (by omega);obtain ⟨u,g6,g7⟩:=g5 _ s4 (lt_of_lt_of_le s5 (Nat.le_add_right _ _)) hkt w;obtain ⟨t1,t2⟩:=s3 _ g7;refine ⟨_,dK (b:=BB) (by omega) (by decide),_,iR (b:=BB) (by omega) (by omega) (by decide),p3,g3,u,g6,iC (mz2 - 1) t1 ?_⟩;rw [Int.natCast_ediv] at t2;exact t2
   ·have h6:=dF h6;have y0:y.getD j 0=0:=by rw [gD,List.getElem?_eq_none (by omega)]; rfl
    have hq0:q=0:=by rw [hq,y0,Nat.mul_zero]
    rw [e4];obtain ⟨p3,g3,_,g5⟩:=mr.get (c:=tc) (j:=((i+j:Nat):Int)) rfl (by omega);rw [hq0,Nat.add_zero] at s3 s4;obtain ⟨u,g6,g7⟩:=g5 _ s4 s5 hkt w;obtain ⟨t1,t2⟩:=s3 _ g7;refine ⟨_,dK (b:=BB) (by omega) (by decide),_,iR (b:=BB) (by omega) (by omega) (by decide),p3,g3,u,g6,iC (mz2 - 1) t1 ?_⟩;rw [Int.natCast_ediv] at t2;exact t2
  ·have h5:=dF h5;obtain rfl:j=k+1:=by omega
   refine cA (n - (i+1)) (by omega) ⟨by omega,rfl,L,mr,?_⟩;exact Num.mul_end dc hx hy (by omega) mr.lt (by rw [<-hk]; exact h4))
theorem Is {X Y:Nat}(hx:(Num.toB BB X).length<=112)(hy:(Num.toB BB Y).length<=112):(Num.toB BB (X*Y)).length<=10000:=by
 have h1:=Num.bv_lt (Num.toB_lt dc X);have h2:=Num.bv_lt (Num.toB_lt dc Y);rw [Num.bv_toB dc] at h1 h2;have h3:=lt_of_lt_of_le h1 (Nat.pow_le_pow_right (show 0 < BB by decide) hx);have h4:=lt_of_lt_of_le h2 (Nat.pow_le_pow_right (show 0 < BB by decide) hy);refine le_trans (Num.toB_len_le dc (k:=224) ?_) (by omega);rw [show 224=112+112 from rfl,Nat.pow_add];exact Nat.mul_lt_mul'' h3 h4
theorem ve (a b:List UInt8){h:Heap}(t:Tab h)(w:Wf h):FW SS 119 [aa a,aa b] h (fun v h'=>v=Bi a b/\Ok h h'):=by
 refine D3 a b h _ ((bT a h).mono ?_);rintro _ g0 ⟨rfl,e0⟩;obtain rfl:h=g0:=e0.symm;refine ⟨_,rfl,ae (fun g=> ?_) (fun g=> ?_)⟩
 ·have g:Num.valid a=false:=by simpa using g
  refine ⟨?_,Ok.refl w⟩;unfold Bi; rw [if_neg (fun e=>by rw [e.1] at g; cases g)]; rfl
 have g:Num.valid a=true:=by simpa using g
 refine (bT b h).mono ?_;rintro _ g0 ⟨rfl,e0⟩;obtain rfl:h=g0:=e0.symm;refine ⟨_,rfl,ae (fun g2=> ?_) (fun g2=> ?_)⟩
 ·have g2:Num.valid b=false:=by simpa using g2
  refine ⟨?_,Ok.refl w⟩;unfold Bi; rw [if_neg (fun e=>by rw [e.2] at g2; cases g2)]; rfl
 have g2:Num.valid b=true:=by simpa using g2
 have tb:=Jx g g2;have lx:=tb.lx;have ly:=tb.ly;refine (gj g w).mono ?_;rintro _ h1 ⟨a1,n1,c1,rfl,o1,ok1⟩;refine ⟨_,_,_,rfl,(gj g2 ok1.wf).mono ?_⟩;rintro _ h2 ⟨a2,n2,c2,rfl,o2,ok2⟩;refine ⟨_,_,_,rfl,?_⟩;have hS:Bi a b=pf (Num.val a*Num.val b):=by unfold Bi; rw [if_pos ⟨g,g2⟩]
 rw [hS];have r1:=o1.rd.ok ok2;have r2:=o2.rd;have ok:=ok1.trans ok2;have hn1:n1=(Num.toB BB (Num.val a)).length:=by have:=r1.len; rwa [lM] at this
 have hn2:n2=(Num.toB BB (Num.val b)).length:=by have:=r2.len; rwa [lM] at this
 have hX:=Num.toB_lt dc (Num.val a);have hY:=Num.toB_lt dc (Num.val b);have bX:=Num.bv_toB dc (Num.val a);have bY:=Num.bv_toB dc (Num.val b);have r1:Rd h2 103 (.slice a1 n1 c1) ((Num.toB BB (Num.val a)).map uv):=r1;have r2:Rd h2 103 (.slice a2 n2 c2) ((Num.toB BB (Num.val b)).map uv):=r2;have hsz:(Num.toB BB (Num.val a*Num.val b)).length<=10000:=Is lx ly;generalize Num.val a=X at *;generalize Num.val b=Y at *;generalize Num.toB BB X=x at *;generalize Num.toB BB Y=y at *;have e1:wrap .i64 (wrap .i64 ((n1:Int)+(n2:Int))+1)=((n1+n2+1:Nat):Int):=by
  rw [ax (n:=(n1:Int)+(n2:Int)) (by omega) (by omega),ax (by omega) (by omega)]; omega
 dsimp only;rw [e1];refine ⟨_,_,_,KI _ (by omega),?_⟩;have okp:=(Ok.refl ok.wf).push (.cells ((List.replicate (n1+n2+1) 0).map uv) 103 1 true);have m0:MR h2 h2.next (n1+n2+1) (List.replicate (n1+n2+1) 0) (h2.push (.cells ((List.replicate (n1+n2+1) 0).map uv) 103 1 true)):=by
  refine ⟨length_replicate,fun d hd=>by rw [(List.mem_replicate.1 hd).2]; decide,?_,okp⟩;rw [Heap.get_push,if_pos rfl,gw (by rw [drop_zero,length_replicate,take_of_length_le (by rw [lM,length_replicate]; omega)])]
 refine pn a b a1 n1 c1 a2 n2 c2 (some ⟨h2.next,0,none⟩) (n1+n2+1) (n1+n2+1) (n1:Int) (HE h2 h2.next (n1+n2+1) n1 x y) (fun v h'=>v=pf (X*Y)/\Ok h h') (fun mz i=> ?_) n1 (i:=0) ⟨by omega,by omega,_,m0,by rw [Num.bv_replicate,take_zero]; simp [Num.bv]⟩;intros; rename_i g hi;obtain ⟨f1,f2,L,mr,f3⟩:=hi;refine ae (fun h5=> ?_) (fun h5=> ?_)
 ·have h5:=dT h5;have e2:wrap .i64 ((n2:Int)+1)=(n2:Int)+1:=ax (by omega) (by omega);rw [e2];exact Ds ok.wf r1 r2 hX hY (le_refl _) (i:=i) (by omega) hn1 hn2 rfl (by omega) a b _ mz f2 (n2+1) (j:=0) (cy:=0) ⟨by omega,by omega,L,0,rfl,by decide,mr,by rw [f3,take_zero]; simp [Num.bv]⟩
 ·have h5:=dF h5;obtain rfl:n1=i:=by omega
  rw [take_of_length_le (by omega),bX,bY] at f3;have hcap:n1+n2+1<=aK (n1+n2+1):=by unfold aK; rw [if_neg (by unfold bp; omega)]; omega
  have rc:=q7 mr.row (n:=n1+n2+1) (c:=n1+n2+1) mr.len.symm hcap;refine (iS rc (by rw [mr.len]; omega)).mono ?_;rintro _ h6 ⟨rfl,e6⟩;subst e6;have rt:=qf rc mr.lt;rw [f3] at rt;refine ⟨_,_,_,rfl,(nh rt hsz (t.ok (ok.trans mr.ok)) mr.ok.wf).mono ?_⟩;rintro _ h7 ⟨rfl,ok7⟩;exact Dm (K:=fun v=>v=pf (X*Y)/\Ok h h7) (zF _) ⟨rfl,(ok.trans mr.ok).trans ok7⟩
end Go.Proofs.YtoabjjimjldcfaaGreatDoor
end
section
set_option linter.unusedVariables false
set_option maxRecDepth 100000
namespace Go.Proofs.YtoabjjimjldcfaaGreatDoor
open Go Go.Ab
def tO:Blk:= .cells [.bool false,aa [],aa []] 122 0 true
theorem G7:aB SS.P 122=some (tO,gk):=by kernel_rfl
theorem M7 (neg:Bool)(n d:List UInt8):aH SS.P 122 [(0,(.bool neg)),(1,(aa n)),(2,(aa d))]=some (.agg ⟨[.bool neg,aa n,aa d]⟩):=by kernel_rfl
theorem ja:aH SS.P 122 []=some (.agg ⟨[.bool false,aa [],aa []]⟩):=by kernel_rfl
theorem GN:ak SS.P 122=some 3:=by kernel_rfl
theorem MZ:Go.Ab.isAgg SS.P 122=true:=by kernel_rfl
noncomputable def LY:TypeDesc:=(SS.P.underlying 122).getD .bool
theorem Mx:SS.P.underlying 122=some LY:=by kernel_rfl
theorem KG {h:Heap}{k:Nat}{cs0:List Value}(hl:cs0.length=3)(hk:h.get k=some (.cells cs0 122 0 true))(b:Bool)(n d:List UInt8):ai SS.P 122 (.pointer (some ⟨k,0,none⟩)) (.agg ⟨[.bool b,aa n,aa d]⟩) h=some (undef,.set k (.cells [.bool b,aa n,aa d] 122 0 true)):=by
 unfold ai;dsimp only;rw [if_pos (show ak SS.P 122=some ((Value.agg ⟨[.bool b,aa n,aa d]⟩).cells).size from GN)];unfold storeAt;rw [hk]; dsimp only;have hs:([.bool b,aa n,aa d]:List Value).all bA=true:=rfl;rw [show (Value.agg ⟨[.bool b,aa n,aa d]⟩).cells.toList=[.bool b,aa n,aa d] from rfl,if_pos ⟨by simp [hl],hs⟩,drop_eq_nil_of_le (by simp [hl])];rfl
theorem MO {h:Heap}{k:Nat}{b:Bool}{n d:List UInt8}(hk:h.get k=some (.cells [.bool b,aa n,aa d] 122 0 true)):ag SS.P 122 h (.pointer (some ⟨k,0,none⟩))=some (.agg ⟨[.bool b,aa n,aa d]⟩):=ft Mx MZ GN hk (by simp)
theorem iB (l:List UInt8)(h:Heap):FW SS 118 [aa l,.int .i64 0] h (fun v h'=>v=aa l/\h'=h):=
 BE l 0 h _ (ae (fun g=>by cases g) (fun _=>⟨rfl,rfl⟩))
theorem AN (s:Bool)(A:Nat)(t:Bool)(B:Nat)(hA:A < 10 ^ 800)(hB:B < 10 ^ 800){h:Heap}(tb:Tab h)(w:Wf h):FW SS 117 [.bool s,aa (Num.toDec A),.bool t,aa (Num.toDec B)] h (fun v h'=>v=C6 s A t B/\Ok h h'):=by
 refine Bw s _ t _ h _ (ae (fun g=> ?_) (fun g=> ?_))
 ·have g:s=t:=by simpa using g
  refine (D4 _ _ tb w).mono ?_;rintro _ h1 ⟨rfl,o1⟩;rw [Gz hA hB];refine ⟨_,_,rfl,(iB _ _).mono ?_⟩;rintro _ _ ⟨rfl,rfl⟩;refine ⟨_,rfl,?_,o1⟩;unfold C6 Num.plusS; rw [if_pos g]
 ·have g: ¬ s=t:=by simpa using g
  refine (EQ _ _ tb w).mono ?_;rintro _ h1 ⟨rfl,o1⟩;rw [GP hA hB];refine ⟨_,rfl,ae (fun g1=> ?_) (fun g1=> ?_)⟩
  ·have g1:=dT g1;have g2:A < B:=cmpN_lt0.1 (by omega);refine (uT _ _ (tb.ok o1) o1.wf).mono ?_;rintro _ h2 ⟨rfl,o2⟩;rw [yu hB hA (Nat.le_of_lt g2)];refine ⟨_,_,rfl,(iB _ _).mono ?_⟩;rintro _ _ ⟨rfl,rfl⟩;refine ⟨_,rfl,?_,o1.trans o2⟩;unfold C6 Num.plusS; rw [if_neg g,if_pos g2]
  ·have g1:=dF g1;have g2: ¬ A < B:=fun c=>by have:=cmpN_lt0.2 c; omega
   refine (uT _ _ (tb.ok o1) o1.wf).mono ?_;rintro _ h2 ⟨rfl,o2⟩;rw [yu hA hB (Nat.not_lt.1 g2)];refine ⟨_,_,rfl,(iB _ _).mono ?_⟩;rintro _ _ ⟨rfl,rfl⟩;refine ⟨_,rfl,?_,o1.trans o2⟩;unfold C6 Num.plusS; rw [if_neg g,if_neg g2]
def ET (b:Bool)(n d:List UInt8):Value:= .agg ⟨[.bool b,aa n,aa d]⟩
def nl (l:List UInt8):Value:=if Num.isRat l=true then .tuple ⟨[ET (Num.isNeg l) (Num.numOf l) (Num.denOf l),.bool true]⟩ else .tuple ⟨[ET false [] [],.bool false]⟩
def me (b:Bool)(n d:List UInt8):Value:= .tuple ⟨[ET b n d,.bool true]⟩
def lG:Value:= .tuple ⟨[ET false [] [],.bool false]⟩
structure NBox (h0:Heap)(k:Nat)(g:Heap):Prop where
 row: ∃ cs0:List Value,cs0.length=3/\g.get k=some (.cells cs0 122 0 true)
 new:h0.next<=k
 ok:Ok h0 g
theorem NBox.trans {h0:Heap}{k:Nat}{g g':Heap}(m:NBox h0 k g)(o:Ok g g'):NBox h0 k g':=by
 obtain ⟨⟨cs,h1,h2⟩,h3,h4⟩:=m;exact ⟨⟨cs,h1,o.ext _ _ h2⟩,h3,h4.trans o⟩
theorem zS {h0:Heap}(w:Wf h0){k:Nat}{g:Heap}(m:NBox h0 k g)(b:Bool)(n d:List UInt8)(okb:Bool){Q:VH}(hq: ∀ g',Ok h0 g'->Q (.tuple ⟨[ET b n d,.bool okb]⟩) g'):
  ∃ u:Upd,ai SS.P 122 (.pointer (some ⟨k,0,none⟩)) (.agg ⟨[.bool b,aa n,aa d]⟩) g=some (undef,u)/\dG SS [(.pointer (some ⟨k,0,none⟩),some 122),(.bool okb,none)] (u.app g) Q:=by
 obtain ⟨⟨cs,hl,hk⟩,h4,h5⟩:=m;refine ⟨_,KG hl hk b n d,?_⟩;have o:Ok h0 ((Upd.set k (.cells [.bool b,aa n,aa d] 122 0 true)).app g):=h5.set _ h4 (h5.wf _ _ hk) w;have hg:((Upd.set k (.cells [.bool b,aa n,aa d] 122 0 true)).app g).get k=some (.cells [.bool b,aa n,aa d] 122 0 true):=by
  show (g.set k _).get k=_;rw [Heap.get_set,if_pos rfl]
 refine oB (v:=ET b n d) (MO hg) ?_;exact hq _ o
def IR (n d:List UInt8)(neg fnd:Bool):Prop:=Num.valid n=true/\Num.valid d=true/\n.length<=400/\d.length<=400/\ ¬ (neg=true/\n=[48])/\ ¬ (fnd=true/\(d=[48]\/d=[49]))/\Nat.gcd (Num.val n) (Num.val d)=1
theorem fV {h0:Heap}(w:Wf h0){k:Nat}{g:Heap}(m:NBox h0 k g){C:Prop}(hc: ¬ C){G:Value}:
  ∃ u:Upd,ai SS.P 122 (.pointer (some ⟨k,0,none⟩)) (.agg ⟨[.bool false,aa [],aa []]⟩) g=some (undef,u)/\dG SS [(.pointer (some ⟨k,0,none⟩),some 122),(.bool false,none)] (u.app g) (nG h0 C G lG):=
 zS w m false [] [] false (fun _ o=>Eg o hc)
theorem CN (n d:List UInt8)(neg fnd:Bool)(k:Nat){h0 g:Heap}(w:Wf h0)(m:NBox h0 k g)(tb:Tab g){x0 x1 x3 x4 x9 x10 x11 x12 x13 x14 x15 x16 x17 x18 x19 x20 x21 x22 x23 x24 x25 x26 x27 x28 x29 x30 x31 x32 x33 x34 x35 x36 x37 x38 x39 x40 x41 x42 x43 x44 x45 x46 x47 x48 x49 x50 x51 x52 x53 x54 x55 x56 x57 x58 x59 x60 x61 x62 x63 x64 x65 x66 x67 x68 x69 x70 x71 x72 x73 x74 x75 x76:Value}:
  TT SS ratParse_F [1,1,1,1] [x0,x1,.pointer (some ⟨k,0,none⟩),x3,x4,.bool neg,aa n,aa d,.bool fnd,x9,x10,x11,x12,x13,x14,x15,x16,x17,x18,x19,x20,x21,x22,x23,x24,x25,x26,x27,x28,x29,x30,x31,x32,x33,x34,x35,x36,x37,x38,x39,x40,x41,x42,x43,x44,x45,x46,x47,x48,x49,x50,x51,x52,x53,x54,x55,x56,x57,x58,x59,x60,x61,x62,x63,x64,x65,x66,x67,x68,x69,x70,x71,x72,x73,x74,x75,x76] g (EE SS ratParse_F (nG h0 (IR n d neg fnd) (me neg n d) lG)):=by
 refine tx ((bT n g).mono ?_);rintro _ g0 ⟨rfl,e0⟩;obtain rfl:g=g0:=e0.symm;refine ⟨_,rfl,ae (fun g1=>⟨_,ja,fV w m (fun c=> ?_)⟩) (fun g1=> ?_)⟩
 ·rw [c.1] at g1; cases g1
 have g1:Num.valid n=true:=by simpa using g1
 refine (bT d g).mono ?_;rintro _ g0 ⟨rfl,e0⟩;obtain rfl:g=g0:=e0.symm;refine ⟨_,rfl,ae (fun g2=>⟨_,ja,fV w m (fun c=> ?_)⟩) (fun g2=> ?_)⟩
 ·rw [c.2.1] at g2; cases g2
 have g2:Num.valid d=true:=by simpa using g2
 refine ae (fun g3=>⟨_,ja,fV w m (fun c=> ?_)⟩) (fun g3=> ?_)
 ·have:=c.2.2.1; have g3:=dT g3; omega
 have g3:n.length<=400:=by have g3:=dF g3; omega
 refine ae (fun g4=>⟨_,ja,fV w m (fun c=> ?_)⟩) (fun g4=> ?_)
 ·have:=c.2.2.2.1; have g4:=dT g4; omega
 have g4:d.length<=400:=by have g4:=dF g4; omega
 have fin: ¬ (neg=true/\n=[48])-> ¬ (fnd=true/\(d=[48]\/d=[49]))-> ∀ {x0 x1 x3 x4 x9 x10 x11 x12 x13 x14 x15 x16 x17 x18 x19 x20 x21 x22 x23 x24 x25 x26 x27 x28 x29 x30 x31 x32 x33 x34 x35 x36 x37 x38 x39 x40 x41 x42 x43 x44 x45 x46 x47 x48 x49 x50 x51 x52 x53 x54 x55 x56 x57 x58 x59 x60 x61 x62 x63 x64 x65 x66 x67 x68 x69 x70 x71 x72 x73 x74 x75 x76:Value},TT SS ratParse_F [1,1,1,1,1,1] [x0,x1,.pointer (some ⟨k,0,none⟩),x3,x4,.bool neg,aa n,aa d,.bool fnd,x9,x10,x11,x12,x13,x14,x15,x16,x17,x18,x19,x20,x21,x22,x23,x24,x25,x26,x27,x28,x29,x30,x31,x32,x33,x34,x35,x36,x37,x38,x39,x40,x41,x42,x43,x44,x45,x46,x47,x48,x49,x50,x51,x52,x53,x54,x55,x56,x57,x58,x59,x60,x61,x62,x63,x64,x65,x66,x67,x68,x69,x70,x71,x72,x73,x74,x75,x76] g (EE SS ratParse_F (nG h0 (IR n d neg fnd) (me neg n d) lG)):=by
  intro c5 c6;intros;refine sk ((Ey n d tb m.ok.wf).mono ?_);rintro _ h1 ⟨rfl,o1⟩;have m1:=m.trans o1;rw [HW g1 g2];refine ⟨_,_,rfl,ae (fun e=>by cases e) (fun _=> ?_)⟩;refine ae (fun e=>⟨_,ja,fV w m1 (fun c=> ?_)⟩) (fun e=> ?_)
  ·have e: ¬ Num.toDec (Nat.gcd (Num.val n) (Num.val d))=[49]:=by simpa using e
   exact e (Num.toDec_eq_one.2 c.2.2.2.2.2.2)
  ·have e:Num.toDec (Nat.gcd (Num.val n) (Num.val d))=[49]:=by simpa using e
   refine sa ⟨_,M7 neg n d,zS w m1 neg n d true (fun _ o=>AW o ?_)⟩;exact ⟨g1,g2,g3,g4,c5,c6,Num.toDec_eq_one.1 e⟩
 refine sc (ae (fun g5=>ae (fun g6=>⟨_,ja,fV w m (fun c=> ?_)⟩) (fun g6=> ?_)) (fun g5=> ?_))
 ·exact c.2.2.2.2.1 ⟨g5,by simpa using g6⟩
 ·have c5: ¬ (neg=true/\n=[48]):=fun c=>by
   have: ¬ n=[48]:=by simpa using g6
   exact this c.2
  refine ae (fun g7=>ae (fun g8=>⟨_,ja,fV w m (fun c=> ?_)⟩) (fun g8=>ae (fun g9=>⟨_,ja,fV w m (fun c=> ?_)⟩) (fun g9=> ?_))) (fun g7=> ?_)
  ·exact c.2.2.2.2.2.1 ⟨g7,.inl (by simpa using g8)⟩
  ·exact c.2.2.2.2.2.1 ⟨g7,.inr (by simpa using g9)⟩
  ·refine fin c5 (fun c=> ?_);have g8: ¬ d=[48]:=by simpa using g8
   have g9: ¬ d=[49]:=by simpa using g9
   exact c.2.elim g8 g9
  ·exact fin c5 (fun c=>by rw [c.1] at g7; cases g7)
 ·have c5: ¬ (neg=true/\n=[48]):=fun c=>by rw [c.1] at g5; cases g5
  refine ae (fun g7=>ae (fun g8=>⟨_,ja,fV w m (fun c=> ?_)⟩) (fun g8=>ae (fun g9=>⟨_,ja,fV w m (fun c=> ?_)⟩) (fun g9=> ?_))) (fun g7=> ?_)
  ·exact c.2.2.2.2.2.1 ⟨g7,.inl (by simpa using g8)⟩
  ·exact c.2.2.2.2.2.1 ⟨g7,.inr (by simpa using g9)⟩
  ·refine fin c5 (fun c=> ?_);have g8: ¬ d=[48]:=by simpa using g8
   have g9: ¬ d=[49]:=by simpa using g9
   exact c.2.elim g8 g9
  ·exact fin c5 (fun c=>by rw [c.1] at g7; cases g7)
theorem wS {h:Heap}{l:List UInt8}{v:Value}{h':Heap}(q:nG h (IR (Num.numOf l) (Num.denOf l) (Num.isNeg l) (Num.hasStroke l)) (me (Num.isNeg l) (Num.numOf l) (Num.denOf l)) lG v h'):v=nl l/\Ok h h':=by
 obtain ⟨o,q1,q2⟩:=q;refine ⟨?_,o⟩;unfold nl;by_cases g:Num.isRat l=true
 ·rw [if_pos g];have r:=Num.isRat_iff.1 g;exact q1 ⟨r.num,r.den,r.ln,r.ld,r.neg,r.fr,r.one⟩
 ·rw [if_neg g];exact q2 fun c=>g (Num.isRat_iff.2 ⟨c.1,c.2.1,c.2.2.1,c.2.2.2.1,c.2.2.2.2.1,c.2.2.2.2.2.1,c.2.2.2.2.2.2⟩)
theorem kU (l:List UInt8)(hl:l.length<=1000000000){h:Heap}(tb:Tab h)(w:Wf h):FW SS 121 [aa l] h (fun v h'=>v=nl l/\Ok h h'):=by
 refine FW.mono (Q:=nG h (IR (Num.numOf l) (Num.denOf l) (Num.isNeg l) (Num.hasStroke l)) (me (Num.isNeg l) (Num.numOf l) (Num.denOf l)) lG) ?_ (fun _ _ q=>wS q);have m0:NBox h h.next (h.push tO):=⟨⟨_,rfl,by rw [Heap.get_push,if_pos rfl]; rfl⟩,le_refl _,(Ok.refl w).push _⟩
 refine ym l h _ ⟨_,G7,(DJ l _).mono ?_⟩;rintro _ g0 ⟨rfl,rfl⟩;have hm:(Num.afterNeg l).length<=1000000000:=by
  unfold Num.afterNeg; split
  ·rw [length_drop]; omega
  ·exact hl
 refine ⟨_,_,rfl,(Lz _ hm m0.ok.wf).mono ?_⟩;rintro _ g1 ⟨rfl,o1⟩;have m1:=m0.trans o1;have t1:=tb.ok m1.ok;unfold Fg;by_cases hs:Num.idxB 47 (Num.afterNeg l) < (Num.afterNeg l).length
 ·rw [if_pos hs];have hst:Num.hasStroke l=true:=decide_eq_true hs;have e2:Num.denOf l=(Num.afterNeg l).drop (Num.idxB 47 (Num.afterNeg l)+1):=by unfold Num.denOf; rw [if_pos hst]
  rw [hst];refine ⟨_,_,_,rfl,ae (fun e=>by cases e) (fun _=> ?_)⟩;rw [<-e2];exact CN _ _ _ true _ w m1 t1
 ·rw [if_neg hs];have hst:Num.hasStroke l=false:=decide_eq_false hs;have e2:Num.denOf l=[49]:=by unfold Num.denOf; rw [hst]; rfl
  have e1:Num.numOf l=Num.afterNeg l:=by unfold Num.numOf; rw [take_of_length_le (by omega)]
  rw [hst,e1,e2];refine ⟨_,_,_,rfl,ae (fun _=> ?_) (fun e=>by cases e)⟩;exact CN _ _ _ false _ w m1 t1
theorem BQ (l:List UInt8): ∃ (cs:List Value)(b:Bool),nl l = .tuple ⟨[.agg ⟨cs⟩,.bool b]⟩/\b=Num.isRat l:=by
 unfold nl
 cases g:Num.isRat l with
 | true=>exact ⟨_,_,rfl,rfl⟩
 | false=>exact ⟨_,_,rfl,rfl⟩
theorem qw (l:List UInt8)(hl:l.length<=1000000000){h:Heap}(tb:Tab h)(w:Wf h):FW SS 97 [aa l] h (fun v h'=>v = .bool (Num.isRat l)/\Ok h h'):=by
 refine xz l h _ ((kU l hl tb w).mono ?_);rintro _ h1 ⟨rfl,o1⟩;obtain ⟨cs,b,e,e2⟩:=BQ l;exact ⟨cs,b,e,by rw [e2],o1⟩
theorem CK (k:Nat):af SS.P 122 (.pointer (some ⟨k,0,none⟩)) 0=some (.pointer (some ⟨k,0,none⟩)):=by kernel_rfl
theorem Cw (k:Nat):af SS.P 122 (.pointer (some ⟨k,0,none⟩)) 1=some (.pointer (some ⟨k,1,none⟩)):=by kernel_rfl
theorem CR (k:Nat):af SS.P 122 (.pointer (some ⟨k,0,none⟩)) 2=some (.pointer (some ⟨k,2,none⟩)):=by kernel_rfl
theorem NZ:SS.P.underlying 4=some .bool:=Tryz.underlying4
theorem Oj:Go.Ab.isAgg SS.P 4=false:=by kernel_rfl
theorem KB:Go.Ab.isAgg SS.P 9=false:=by kernel_rfl
def HasNum (g:Heap)(k:Nat)(b:Bool)(n d:List UInt8):Prop:=g.get k=some (.cells [.bool b,aa n,aa d] 122 0 true)
theorem HasNum.ok {g g':Heap}{k:Nat}{b:Bool}{n d:List UInt8}(x:HasNum g k b n d)(o:Ok g g'):HasNum g' k b n d:=o.ext _ _ x
theorem HasNum.l0 {g:Heap}{k:Nat}{b:Bool}{n d:List UInt8}(x:HasNum g k b n d):ag SS.P 4 g (.pointer (some ⟨k,0,none⟩))=some (.bool b):=cM NZ Oj x (by simp)
theorem HasNum.l1 {g:Heap}{k:Nat}{b:Bool}{n d:List UInt8}(x:HasNum g k b n d):ag SS.P 9 g (.pointer (some ⟨k,1,none⟩))=some (aa n):=cM IK KB x (by simp)
theorem HasNum.l2 {g:Heap}{k:Nat}{b:Bool}{n d:List UInt8}(x:HasNum g k b n d):ag SS.P 9 g (.pointer (some ⟨k,2,none⟩))=some (aa d):=cM IK KB x (by simp)
theorem IH {h:Heap}(w:Wf h)(b:Bool)(n d:List UInt8): ∃ u:Upd,ai SS.P 122 (.pointer (some ⟨h.next,0,none⟩)) (.agg ⟨[.bool b,aa n,aa d]⟩) (h.push tO)=some (undef,u)/\Ok h (u.app (h.push tO))/\HasNum (u.app (h.push tO)) h.next b n d:=by
 have hk:(h.push tO).get h.next=some tO:=by rw [Heap.get_push,if_pos rfl]
 refine ⟨_,KG (cs0:=[.bool false,aa [],aa []]) rfl hk b n d,?_,?_⟩
 ·exact ((Ok.refl w).push _).set _ (le_refl _) (Nat.lt_succ_self _) w
 ·show ((h.push tO).set h.next _).get h.next=_;rw [Heap.get_set,if_pos rfl]
theorem uO (l:List UInt8): ∃ (b:Bool)(n d:List UInt8),nl l = .tuple ⟨[.agg ⟨[.bool b,aa n,aa d]⟩,.bool (Num.isRat l)]⟩/\(Num.isRat l=true->b=Num.isNeg l/\n=Num.numOf l/\d=Num.denOf l):=by
 unfold nl
 cases g:Num.isRat l with
 | true=>exact ⟨_,_,_,rfl,fun _=>⟨rfl,rfl,rfl⟩⟩
 | false=>exact ⟨_,_,_,rfl,fun e=>by cases e⟩
theorem qJ (b:Bool):d7 4 (.bool b) (.bool b)=true:=by simp [d7]
theorem qq (l:List UInt8):d7 4 (aa l) (aa l)=true:=by simp [d7,aa]
theorem Ed (l m:List UInt8)(hl:l.length<=1000000000)(hm:m.length<=1000000000){h:Heap}(tb:Tab h)(w:Wf h):FW SS 125 [aa l,aa m] h (fun v h'=>v = .int .i64 (Num.cmpRat l m)/\Ok h h'):=by
 refine En l m h _ ((kU l hl tb w).mono ?_);rintro _ h1 ⟨rfl,o1⟩;obtain ⟨b,n,d,e1,f1⟩:=uO l;obtain ⟨u1,s1,s2,s3⟩:=IH o1.wf b n d;refine ⟨_,_,e1,_,G7,u1,s1,?_⟩;have ok1:=o1.trans s2;generalize u1.app (h1.push tO)=g1 at *;refine (kU m hm (tb.ok ok1) ok1.wf).mono ?_;rintro _ h2 ⟨rfl,o2⟩;obtain ⟨b',n',d',e2,f2⟩:=uO m;obtain ⟨u2,r1,r2,r3⟩:=IH o2.wf b' n' d';refine ⟨_,_,e2,_,G7,u2,r1,?_⟩;have ok2:=(ok1.trans o2).trans r2;have x1:=(s3.ok o2).ok r2;generalize u2.app (h2.push tO)=g2 at *;generalize h1.next=k1 at *;generalize h2.next=k2 at *;refine ae (fun q=>⟨?_,ok2⟩) (fun q=>ae (fun q2=>⟨?_,ok2⟩) (fun q2=> ?_))
 ·have q:Num.isRat l=false:=by simpa using q
  unfold Num.cmpRat; rw [if_neg (fun c=>by rw [c.1] at q; cases q)]
 ·have q2:Num.isRat m=false:=by simpa using q2
  unfold Num.cmpRat; rw [if_neg (fun c=>by rw [c.2] at q2; cases q2)]
 have q:Num.isRat l=true:=by simpa using q
 have q2:Num.isRat m=true:=by simpa using q2
 obtain ⟨rfl,rfl,rfl⟩:=f1 q;obtain ⟨rfl,rfl,rfl⟩:=f2 q2;have i1:=Num.isRat_iff.1 q;have i2:=Num.isRat_iff.1 q2;have or:Ok g2 (Go.Ab.room g2 27):=(Ok.refl ok2.wf).room 27;refine ⟨_,CK _,_,(x1.ok or).l0,_,Cw _,_,(x1.ok or).l1,_,CR _,_,(r3.ok or).l2,?_⟩;have okr:=ok2.trans or;refine (ve _ _ (tb.ok okr) okr.wf).mono ?_;rintro _ h3 ⟨rfl,o3⟩;rw [(oe i1.num i2.den i1.ln i2.ld).1];refine ⟨_,_,rfl,(iB _ _).mono ?_⟩;rintro _ h3' ⟨rfl,eh⟩;obtain rfl:h3=h3':=eh.symm;have p3:=or.trans o3;refine ⟨_,rfl,_,CK _,_,(r3.ok p3).l0,_,Cw _,_,(r3.ok p3).l1,_,CR _,_,(x1.ok p3).l2,?_⟩;have ok3:=ok2.trans p3;refine (ve _ _ (tb.ok ok3) ok3.wf).mono ?_;rintro _ h4 ⟨rfl,o4⟩;rw [(oe i2.num i1.den i2.ln i1.ld).1];refine ⟨_,_,rfl,(iB _ _).mono ?_⟩;rintro _ h4' ⟨rfl,eh⟩;obtain rfl:h4=h4':=eh.symm;have p4:=p3.trans o4;have ok4:=ok2.trans p4;refine ⟨_,rfl,(AN _ _ _ _ (oe i1.num i2.den i1.ln i2.ld).2 (oe i2.num i1.den i2.ln i1.ld).2 (tb.ok ok4) ok4.wf).mono ?_⟩;rintro _ h5 ⟨rfl,o5⟩;have ok5:=ok4.trans o5;refine ⟨_,_,rfl,⟨(x1.ok p3).l0,qJ _⟩,⟨(x1.ok p3).l0,qJ _⟩,⟨(x1.ok p4).l0,qJ _⟩,⟨(x1.ok p4).l0,qJ _⟩,⟨(r3.ok or).l0,qJ _⟩,⟨(r3.ok p3).l0,qJ _⟩,⟨(r3.ok p4).l0,qJ _⟩,⟨(r3.ok p4).l0,qJ _⟩,⟨(r3.ok or).l1,qq _⟩,⟨(r3.ok p3).l1,qq _⟩,⟨(x1.ok or).l2,qq _⟩,⟨(x1.ok p3).l2,qq _⟩,?_⟩;unfold Num.cmpRat;rw [if_pos ⟨q,q2⟩];generalize Num.plusS _ _ _ _=z;refine ae (fun g3=>⟨?_,ok5⟩) (fun g3=> ?_)
 ·have g3:Num.toDec z.2=[48]:=by simpa using g3
  rw [if_pos (Num.toDec_eq_zero.1 g3)]
 ·have g3: ¬ Num.toDec z.2=[48]:=by simpa using g3
  rw [if_neg (fun c=>g3 (Num.toDec_eq_zero.2 c))];refine ae (fun g4=>⟨?_,ok5⟩) (fun g4=>⟨?_,ok5⟩)
  ·rw [if_pos g4]
  ·rw [if_neg (by rw [g4]; simp)]
noncomputable def Bj:FD:=cD Tryz.f75 []
theorem xH  (h:Heap) (Q:VH) (hx:xN (aB SS.P 85) h fun B1 g2=>xA (aH SS.P 68 [(0,(aa [105,110,102])),(1,(aa [48])),(2,(.bool true)),(3,(.func (.func 94) ⟨[]⟩ ⟨[]⟩)),(4,(.func (.func 95) ⟨[]⟩ ⟨[]⟩)),(5,(.func (.func 96) ⟨[]⟩ ⟨[]⟩)),(6,(.func (.func 97) ⟨[]⟩ ⟨[]⟩)),(7,(.func (.func 97) ⟨[]⟩ ⟨[]⟩))]) fun c3=>xA (aH SS.P 68 [(0,(aa [48])),(1,(aa [49])),(2,(.bool false)),(3,(.func (.func 98) ⟨[]⟩ ⟨[]⟩)),(4,(.func (.func 99) ⟨[]⟩ ⟨[]⟩)),(5,(.func (.func 100) ⟨[]⟩ ⟨[]⟩)),(6,(.func (.func 101) ⟨[]⟩ ⟨[]⟩)),(7,(.func (.func 102) ⟨[]⟩ ⟨[]⟩))]) fun c4=>xA (aH SS.P 68 [(0,(aa [48])),(1,(aa [49])),(2,(.bool false)),(3,(.func (.func 94) ⟨[]⟩ ⟨[]⟩)),(4,(.func (.func 99) ⟨[]⟩ ⟨[]⟩)),(5,(.func (.func 103) ⟨[]⟩ ⟨[]⟩)),(6,(.func (.func 101) ⟨[]⟩ ⟨[]⟩)),(7,(.func (.func 102) ⟨[]⟩ ⟨[]⟩))]) fun c5=>xA (aH SS.P 85 [(1,(.agg ⟨c3⟩)),(2,(.agg ⟨c4⟩)),(3,(.agg ⟨c5⟩))]) fun c6=>xU (ai SS.P 85 (pA (h.next)) (.agg ⟨c6⟩) g2) g2 fun u7 g8=>dG SS [((pA (h.next)),some 85)] g8 Q):FW SS 75 [] h Q:=cE Bj Tryz.func75 (aj hx)
noncomputable def J1:FD:=cD Tryz.f57 []
theorem HO (kind:Int)(h:Heap)(Q:VH)(hx:xN (aB SS.P 68) h fun B1 g2=>az (decide ((kind:Int) < 1)) (xA (aH SS.P 68 []) fun c3=>xU (ai SS.P 68 (pA (h.next)) (.agg ⟨c3⟩) g2) g2 fun u4 g5=>dG SS [((pA (h.next)),some 68),((.bool false),none)] g5 Q) (az (decide ((kind:Int) > 3)) (xA (aH SS.P 68 []) fun c6=>xU (ai SS.P 68 (pA (h.next)) (.agg ⟨c6⟩) g2) g2 fun u7 g8=>dG SS [((pA (h.next)),some 68),((.bool false),none)] g8 Q) (FW SS 75 [] g2 fun v9 h10=>yA v9 fun c11=>xA (bi SS.P 85 (.agg ⟨c11⟩) (.int .i64 kind)) fun c12=>xU (ai SS.P 68 (pA (h.next)) (.agg ⟨c12⟩) h10) h10 fun u13 g14=>dG SS [((pA (h.next)),some 68),((.bool true),none)] g14 Q))):FW SS 57 [(.int .i64 kind)] h Q:=cE J1 Tryz.func57 (aj hx)
noncomputable def tH:FD:=cD Tryz.f102 []
theorem te (l:LB)(h:Heap)(Q:VH)(hx:FW SS 97 [(aa l)] h fun v1 h2=>yB v1 fun b3=>az b3 (FW SS 125 [(aa l),(aa [48])] h2 fun v4 h5=>yI .i64 v4 fun n6=>Q (.bool (decide ((n6:Int) > 0))) h5) (Q (.bool false) h2)):FW SS 102 [(aa l)] h Q:=cE tH Tryz.func102 (aj hx)
noncomputable def xj:FD:=cD Tryz.f34 []
theorem wC (kind:Int)(l:LB)(h:Heap)(Q:VH)(hx:FW SS 57 [(.int .i64 kind)] h fun v1 h2=> ∃ cs3:LV,∃ b4:Bool,v1=(.tuple ⟨[(.agg ⟨cs3⟩),(.bool b4)]⟩)/\xN (aB SS.P 68) h2 fun B5 g6=>xU (ai SS.P 68 (pA (h2.next)) (.agg ⟨cs3⟩) g6) g6 fun u7 g8=>az b4 (xP (af SS.P 68 (pA (h2.next)) 7) fun p9=>xF (ag SS.P 66 g8 (.pointer (some p9))) fun g10 a11 c12=>az (Nat.blt g10 YB) (FW SS g10 (a11++[(aa l)]++c12) g8 fun v13 h14=>yB v13 fun b15=>Q (.bool b15) h14) False) (Q (.bool false) g8)):FW SS 34 [(.int .i64 kind),(aa l)] h Q:=cE xj Tryz.func34 (aj hx)
end Go.Proofs.YtoabjjimjldcfaaGreatDoor
end
section
namespace Go.Num
def weightOk (kind:Int)(a:List UInt8):Bool:=decide (1<=kind/\kind<=3) && isRat a && (kind == 1 || decide (0 < cmpRat a [48]))
end Go.Num
end
section
set_option linter.unusedVariables false
set_option maxRecDepth 100000
namespace Go.Proofs.YtoabjjimjldcfaaGreatDoor
open Go Go.Ab
theorem cC {P:Program}{t:TypeId}{n:Nat}(hs:ak P t=some n){h:Heap}{k:Nat}{cs0:List Value}(hl:cs0.length=n)(hk:h.get k=some (.cells cs0 t 0 true)){cs:List Value}(hc:cs.length=n)(hv:cs.all bA=true):ai P t (.pointer (some ⟨k,0,none⟩)) (.agg ⟨cs⟩) h=some (undef,.set k (.cells cs t 0 true)):=by
 unfold ai;dsimp only;have e1:(Value.agg ⟨cs⟩).cells.size=n:=by show cs.toArray.size=n; simpa using hc
 have e2:(Value.agg ⟨cs⟩).cells.toList=cs:=rfl;rw [if_pos (by rw [e1,hs])];unfold storeAt;rw [hk,e2]; dsimp only;rw [if_pos ⟨by omega,hv⟩,drop_eq_nil_of_le (by omega)];simp
theorem dL {h0 h:Heap}(w:Wf h0)(o:Ok h0 h){k:Nat}{t:TypeId}{cs0 cs:List Value}(hk:h.get k=some (.cells cs0 t 0 true))(hn:h0.next<=k):Ok h0 ((Upd.set k (.cells cs t 0 true)).app h)/\((Upd.set k (.cells cs t 0 true)).app h).get k=some (.cells cs t 0 true):=by
 refine ⟨o.set _ hn (o.wf _ _ hk) w,?_⟩;show (h.set k _).get k=_;rw [Heap.get_set,if_pos rfl]
theorem aq (h:Heap)(B:Blk):(h.push B).get h.next=some B:=by rw [Heap.get_push,if_pos rfl]
def tE (i:Nat):Value:= .func (.func i) ⟨[]⟩ ⟨[]⟩
def gx:List Value:=[aa [],aa [],.bool false,.nilFunc,.nilFunc,.nilFunc,.nilFunc,.nilFunc]
def qM:List Value:=[aa [105,110,102],aa [48],.bool true,tE 94,tE 95,tE 96,tE 97,tE 97]
def qh:List Value:=[aa [48],aa [49],.bool false,tE 98,tE 99,tE 100,tE 101,tE 102]
def qA:List Value:=[aa [48],aa [49],.bool false,tE 94,tE 99,tE 103,tE 101,tE 102]
def pM:List Value:=gx++qM++qh++qA
def Nv:Blk:= .cells (gx++gx++gx++gx) 85 0 true
def FI:Blk:= .cells gx 68 0 true
theorem Oc:aB SS.P 85=some (Nv,gk):=by kernel_rfl
theorem JO:aB SS.P 68=some (FI,gk):=by kernel_rfl
theorem KS:ak SS.P 85=some 32:=by kernel_rfl
theorem zO:ak SS.P 68=some 8:=by kernel_rfl
theorem NF:Go.Ab.isAgg SS.P 85=true:=by kernel_rfl
theorem Of:Go.Ab.isAgg SS.P 68=true:=by kernel_rfl
noncomputable def Nn:TypeDesc:=(SS.P.underlying 85).getD .bool
theorem Ou:SS.P.underlying 85=some Nn:=by kernel_rfl
noncomputable def ME:TypeDesc:=(SS.P.underlying 68).getD .bool
theorem Oh:SS.P.underlying 68=some ME:=by kernel_rfl
noncomputable def MD:TypeDesc:=(SS.P.underlying 66).getD .bool
theorem N3:SS.P.underlying 66=some MD:=by kernel_rfl
theorem Nx:Go.Ab.isAgg SS.P 66=false:=by kernel_rfl
theorem Lg:aH SS.P 68 [(0,(aa [105,110,102])),(1,(aa [48])),(2,(.bool true)),(3,(.func (.func 94) ⟨[]⟩ ⟨[]⟩)),(4,(.func (.func 95) ⟨[]⟩ ⟨[]⟩)),(5,(.func (.func 96) ⟨[]⟩ ⟨[]⟩)),(6,(.func (.func 97) ⟨[]⟩ ⟨[]⟩)),(7,(.func (.func 97) ⟨[]⟩ ⟨[]⟩))]=some (.agg ⟨qM⟩):=by kernel_rfl
theorem LN:aH SS.P 68 [(0,(aa [48])),(1,(aa [49])),(2,(.bool false)),(3,(.func (.func 98) ⟨[]⟩ ⟨[]⟩)),(4,(.func (.func 99) ⟨[]⟩ ⟨[]⟩)),(5,(.func (.func 100) ⟨[]⟩ ⟨[]⟩)),(6,(.func (.func 101) ⟨[]⟩ ⟨[]⟩)),(7,(.func (.func 102) ⟨[]⟩ ⟨[]⟩))]=some (.agg ⟨qh⟩):=by kernel_rfl
theorem Ll:aH SS.P 68 [(0,(aa [48])),(1,(aa [49])),(2,(.bool false)),(3,(.func (.func 94) ⟨[]⟩ ⟨[]⟩)),(4,(.func (.func 99) ⟨[]⟩ ⟨[]⟩)),(5,(.func (.func 103) ⟨[]⟩ ⟨[]⟩)),(6,(.func (.func 101) ⟨[]⟩ ⟨[]⟩)),(7,(.func (.func 102) ⟨[]⟩ ⟨[]⟩))]=some (.agg ⟨qA⟩):=by kernel_rfl
theorem Iv:aH SS.P 68 []=some (.agg ⟨gx⟩):=by kernel_rfl
theorem NU:aH SS.P 85 [(1,(.agg ⟨qM⟩)),(2,(.agg ⟨qh⟩)),(3,(.agg ⟨qA⟩))]=some (.agg ⟨pM⟩):=by kernel_rfl
theorem xZ {h:Heap}(w:Wf h):FW SS 75 [] h (fun v h'=>v = .agg ⟨pM⟩/\Ok h h'):=by
 have hk:(h.push Nv).get h.next=some (.cells (gx++gx++gx++gx) 85 0 true):=aq h Nv;refine xH h _ ⟨_,Oc,_,Lg,_,LN,_,Ll,_,NU,_,cC KS (by rfl) hk (cs:=pM) (by rfl) (by rfl),?_⟩;obtain ⟨o,g⟩:=dL (cs:=pM) w ((Ok.refl w).push Nv) hk (le_refl _);refine oX (v:= .agg ⟨pM⟩) (ft Ou NF KS g (by simp [pM,gx,qM,qh,qA])) ?_;exact ⟨rfl,o⟩
def KF (kind:Int):Value:=if kind=1 then .tuple ⟨[.agg ⟨qM⟩,.bool true]⟩ else if kind=2 then .tuple ⟨[.agg ⟨qh⟩,.bool true]⟩ else if kind=3 then .tuple ⟨[.agg ⟨qA⟩,.bool true]⟩ else .tuple ⟨[.agg ⟨gx⟩,.bool false]⟩
theorem sK {h0:Heap}(w:Wf h0){g:Heap}(o:Ok h0 g){k:Nat}{cs0:List Value}(hl:cs0.length=8)(hk:g.get k=some (.cells cs0 68 0 true))(hn:h0.next<=k){cs:List Value}(hc:cs.length=8)(hv:cs.all bA=true)(okb:Bool){Q:VH}(hq: ∀ g',Ok h0 g'->Q (.tuple ⟨[.agg ⟨cs⟩,.bool okb]⟩) g'):
  ∃ u:Upd,ai SS.P 68 (.pointer (some ⟨k,0,none⟩)) (.agg ⟨cs⟩) g=some (undef,u)/\dG SS [(.pointer (some ⟨k,0,none⟩),some 68),(.bool okb,none)] (u.app g) Q:=by
 refine ⟨_,cC zO hl hk hc hv,?_⟩;obtain ⟨o,g⟩:=dL (cs:=cs) w o hk hn;refine oB (v:= .agg ⟨cs⟩) (by rw [ft Oh Of zO g (by omega),drop_zero,take_of_length_le (by omega)]) ?_;exact hq _ o
theorem z7 (kind:Int){h:Heap}(w:Wf h):FW SS 57 [.int .i64 kind] h (fun v h'=>v=KF kind/\Ok h h'):=by
 have o0:=(Ok.refl w).push FI;have k0:=aq h FI;refine HO kind h _ ⟨_,JO,ae (fun g=> ?_) (fun g=>ae (fun g2=> ?_) (fun g2=> ?_))⟩
 ·have g:=dT g;refine ⟨_,Iv,sK w o0 rfl k0 (le_refl _) rfl rfl false (fun _ o=>⟨?_,o⟩)⟩;unfold KF; rw [if_neg (by omega),if_neg (by omega),if_neg (by omega)]
 ·have g2:=dT g2;refine ⟨_,Iv,sK w o0 rfl k0 (le_refl _) rfl rfl false (fun _ o=>⟨?_,o⟩)⟩;unfold KF; rw [if_neg (by omega),if_neg (by omega),if_neg (by omega)]
 ·have g:=dF g;have g2:=dF g2;refine (xZ o0.wf).mono ?_;rintro _ h1 ⟨rfl,o1⟩;have k1:=o1.ext _ _ k0;have ok:=o0.trans o1;obtain rfl | rfl | rfl:kind=1\/kind=2\/kind=3:=by omega
  ·exact ⟨_,rfl,qM,by kernel_rfl,sK w ok rfl k1 (le_refl _) rfl rfl true (fun _ o=>⟨rfl,o⟩)⟩
  ·exact ⟨_,rfl,qh,by kernel_rfl,sK w ok rfl k1 (le_refl _) rfl rfl true (fun _ o=>⟨rfl,o⟩)⟩
  ·exact ⟨_,rfl,qA,by kernel_rfl,sK w ok rfl k1 (le_refl _) rfl rfl true (fun _ o=>⟨rfl,o⟩)⟩
theorem kW (l:List UInt8)(hl:l.length<=1000000000){h:Heap}(tb:Tab h)(w:Wf h):FW SS 102 [aa l] h (fun v h'=>v = .bool (Num.isRat l && decide (0 < Num.cmpRat l [48]))/\Ok h h'):=by
 refine te l h _ ((qw l hl tb w).mono ?_);rintro _ h1 ⟨rfl,o1⟩;refine ⟨_,rfl,ae (fun g=> ?_) (fun g=> ?_)⟩
 ·refine (Ed l [48] hl (by simp) (tb.ok o1) o1.wf).mono ?_;rintro _ h2 ⟨rfl,o2⟩;refine ⟨_,rfl,?_,o1.trans o2⟩;rw [g,Bool.true_and]
 ·refine ⟨?_,o1⟩;rw [g,Bool.false_and]
theorem M9 {b:Bool}{A B:Prop}(hb:b=true)(a:A):az b A B:=ae (fun _=>a) (fun e=>by rw [hb] at e; cases e)
theorem uw {f:Nat}{args:List Value}{h:Heap}{K:VH}(hf:Nat.blt f YB=true)(hx:FW SS f args h fun v h'=> ∃ b:Bool,v = .bool b/\K (.bool b) h'):az (Nat.blt f YB) (FW SS f ([]++args++[]) h fun v h'=> ∃ b:Bool,v = .bool b/\K (.bool b) h') False:=
 M9 hf (by rw [nil_append,append_nil]; exact hx)
theorem jw (kind:Int)(l:List UInt8)(hl:l.length<=1000000000){h:Heap}(tb:Tab h)(w:Wf h):FW SS 34 [.int .i64 kind,aa l] h (fun v h'=>v = .bool (Num.weightOk kind l)/\Ok h h'):=by
 refine wC kind l h _ ((z7 kind w).mono ?_);rintro _ h1 ⟨rfl,o1⟩;have key: ∀ (cs:List Value)(f:Nat),cs.length=8->cs.all bA=true->cs.getD 7 undef=tE f->Nat.blt f YB=true->(∀ g,Ok h g->FW SS f [aa l] g (fun v h'=>v = .bool (Num.weightOk kind l)/\Ok g h'))->KF kind = .tuple ⟨[.agg ⟨cs⟩,.bool true]⟩-> ∃ cs3:List Value,∃ b4:Bool,KF kind=(.tuple ⟨[(.agg ⟨cs3⟩),(.bool b4)]⟩)/\ ∃ B5:Blk,aB SS.P 68=some (B5,gk)/\ ∃ u6:Upd,ai SS.P 68 (.pointer (some ⟨h1.next,0,none⟩)) (.agg ⟨cs3⟩) (h1.push B5)=some (undef,u6)/\az b4 (∃ p7:Addr,af SS.P 68 (.pointer (some ⟨h1.next,0,none⟩)) 7=some (.pointer (some p7))/\ ∃ (g8:Nat)(a9 c10:List Value),ag SS.P 66 (u6.app (h1.push B5)) (.pointer (some p7))=some (.func (.func g8) ⟨a9⟩ ⟨c10⟩)/\az (Nat.blt g8 YB) (FW SS g8 (a9++[(aa l)]++c10) (u6.app (h1.push B5)) fun v11 h12=> ∃ b13:Bool,v11=(.bool b13)/\(Value.bool b13 = .bool (Num.weightOk kind l)/\Ok h h12)) False) (Value.bool false = .bool (Num.weightOk kind l)/\Ok h (u6.app (h1.push B5))):=by
  intro cs f hc hv hf hY hw e;refine ⟨_,_,e,_,JO,_,cC zO rfl (aq h1 FI) hc hv,ae (fun _=> ?_) (fun g=>by cases g)⟩;obtain ⟨o,g⟩:=dL (cs:=cs) o1.wf ((Ok.refl o1.wf).push FI) (aq h1 FI) (le_refl _);have hld:=cM N3 Nx g (i:=7) (by omega);rw [hf] at hld;refine ⟨⟨h1.next,7,none⟩,by kernel_rfl,f,[],[],hld,?_⟩;refine uw (K:=fun v h12=>v = .bool (Num.weightOk kind l)/\Ok h h12) hY ((hw _ (o1.trans o)).mono ?_);rintro _ h2 ⟨rfl,o2⟩;exact ⟨_,rfl,rfl,(o1.trans o).trans o2⟩
 by_cases g1:kind=1
 ·subst g1;refine key qM 97 rfl rfl rfl (by decide +kernel) (fun g o=> ?_) rfl;refine (qw l hl (tb.ok o) o.wf).mono ?_;rintro _ h2 ⟨rfl,o2⟩;refine ⟨?_,o2⟩;unfold Num.weightOk; simp
 by_cases g2:kind=2
 ·subst g2;refine key qh 102 rfl rfl rfl (by decide +kernel) (fun g o=> ?_) rfl;refine (kW l hl (tb.ok o) o.wf).mono ?_;rintro _ h2 ⟨rfl,o2⟩;refine ⟨?_,o2⟩;unfold Num.weightOk; simp
 by_cases g3:kind=3
 ·subst g3;refine key qA 102 rfl rfl rfl (by decide +kernel) (fun g o=> ?_) rfl;refine (kW l hl (tb.ok o) o.wf).mono ?_;rintro _ h2 ⟨rfl,o2⟩;refine ⟨?_,o2⟩;unfold Num.weightOk; simp
 ·have e:KF kind = .tuple ⟨[.agg ⟨gx⟩,.bool false]⟩:=by unfold KF; rw [if_neg g1,if_neg g2,if_neg g3]
  refine ⟨_,_,e,_,JO,_,cC zO rfl (aq h1 FI) (cs:=gx) rfl rfl,ae (fun g=>by cases g) (fun _=> ?_)⟩;obtain ⟨o,g⟩:=dL (cs:=gx) o1.wf ((Ok.refl o1.wf).push FI) (aq h1 FI) (le_refl _);refine ⟨?_,o1.trans o⟩;unfold Num.weightOk;rw [decide_eq_false (by omega)]; rfl
end Go.Proofs.YtoabjjimjldcfaaGreatDoor
end
section
namespace Go.Ab
open Go
def lf:Value:= .slice (some ⟨0,0,some 0⟩) 0 0
def RdN (h:Heap)(e:TypeId)(sz:Nat)(v:Value)(rs:List (List Value)):Prop:=
 (∀ r∈rs,r.length=sz)/\(((v = .slice none 0 0\/v=lf)/\rs=[])\/ ∃ k off cs e' z c wr,v = .slice (some ⟨k,off,none⟩) rs.length c/\h.get k=some (.cells cs e' z wr)/\off+rs.length*sz<=cs.length/\ ∀ (i:Nat)(r:List Value),rs[i]?=some r->(cs.drop (off+i*sz)).take sz=r)
theorem RdN.ok {h h':Heap}{e:TypeId}{sz:Nat}{v:Value}{rs:List (List Value)}(r:RdN h e sz v rs)(o:Ok h h'):RdN h' e sz v rs:=by
 obtain ⟨r1,r | ⟨k,off,cs,e',z,c,wr,h1,h2,h3,h4⟩⟩:=r
 ·exact ⟨r1,.inl r⟩
 ·exact ⟨r1,.inr ⟨k,off,cs,e',z,c,wr,h1,o.ext _ _ h2,h3,h4⟩⟩
theorem RdN.len {h:Heap}{e:TypeId}{sz:Nat}{a:Option Addr}{n c:Nat}{rs:List (List Value)}(r:RdN h e sz (.slice a n c) rs):n=rs.length:=by
 obtain ⟨_,⟨h1 | h1,rfl⟩ | ⟨k,off,cs,e',z,c,wr,h1,h2,h3,h4⟩⟩:=r
 ·injection h1
 ·unfold lf at h1; injection h1
 ·injection h1
theorem RdN.slc {h:Heap}{e:TypeId}{sz:Nat}{v:Value}{rs:List (List Value)}(r:RdN h e sz v rs): ∃ (a:Option Addr)(c:Nat),v = .slice a rs.length c:=by
 obtain ⟨_,⟨h1 | h1,rfl⟩ | ⟨k,off,cs,e',z,c,wr,h1,h2,h3,h4⟩⟩:=r
 ·exact ⟨_,_,h1⟩
 ·exact ⟨_,_,h1⟩
 ·exact ⟨_,_,h1⟩
theorem RdN.at_ {P:Program}{t e:TypeId}{d:TypeDesc}{sz:Nat}(hU:P.underlying t=some (.slice e))(hs:ak P e=some sz)(hd:P.underlying e=some d)(hg:isAgg P e=true){h:Heap}{v:Value}{rs:List (List Value)}(r:RdN h e sz v rs){ik:IntKind}{i:Int}(h0:0<=i)(h1:i < rs.length):
  ∃ (k o:Nat),ah P t v (.int ik i)=some (.pointer (some ⟨k,o,none⟩))/\ag P e h (.pointer (some ⟨k,o,none⟩))=some (.agg ⟨rs.getD i.toNat []⟩)/\
   ∀ (t':TypeId)(d':TypeDesc)(j:Nat),P.underlying t'=some d'->isAgg P t'=false->j < sz->ag P t' h (.pointer (some ⟨k,o+j,none⟩))=some ((rs.getD i.toNat []).getD j undef):=by
 obtain ⟨hl,⟨_,rfl⟩ | ⟨b,off,cs,e',z,c,wr,rfl,h3,h4,h5⟩⟩:=r
 ·simp at h1; omega
 ·have hi:i.toNat < rs.length:=by omega
  have h6:rs[i.toNat]?=some (rs.getD i.toNat []):=by rw [gD,gE hi]; rfl
  have h7:=h5 _ _ h6;have h9:(i.toNat+1)*sz<=rs.length*sz:=mul_le_mul_right _ hi;rw [add_mul,one_mul] at h9;obtain ⟨q,hq⟩: ∃ q,q=i.toNat*sz:=⟨_,rfl⟩
  rw [<-hq] at h7 h9;refine ⟨b,off+q,?_,?_,fun t' d' j hU' ha' hj=> ?_⟩
  ·have:=FF (P:=P) hU hs (k:=b) (off:=off) (n:=rs.length) (c:=c) (ik:=ik) h0 h1;rw [this,hq]
  ·rw [ft hd hg hs h3 (by omega),h7]
  ·rw [cM hU' ha' h3 (by omega),<-h7,gD,gD,getElem?_take,if_pos hj,getElem?_drop]
end Go.Ab
end
section
set_option linter.unusedVariables false
set_option maxRecDepth 100000
namespace Go.Proofs.YtoabjjimjldcfaaGreatDoor
open Go Go.Ab
section
def ArcRow (h:Heap)(v:Value)(l:List MArc):Prop:=RdN h 39 4 v (l.map aI)
def dg (p:MSt×Value):List Value:=[aa p.1.f,p.2]
def StRow (h:Heap)(v:Value)(l:List MSt):Prop:= ∃ ps:List (MSt×Value),ps.map (·.1)=l/\RdN h 37 2 v (ps.map dg)/\(∀ p∈ps,ArcRow h p.2 p.1.arcs)/\v≠lf
theorem StRow.ok {h h':Heap}{v:Value}{l:List MSt}(r:StRow h v l)(o:Ok h h'):StRow h' v l:=by
 obtain ⟨ps,h1,h2,h3,h4⟩:=r;exact ⟨ps,h1,h2.ok o,fun p hp=>RdN.ok (h3 p hp) o,h4⟩
theorem StRow.len {h:Heap}{a:Option Addr}{n c:Nat}{l:List MSt}(r:StRow h (.slice a n c) l):n=l.length:=by
 obtain ⟨ps,h1,h2,h3,_⟩:=r;rw [h2.len,lM,<-h1,lM]
theorem qS:SS.P.underlying 22=some (.slice 37):=by kernel_rfl
theorem ti:SS.P.underlying 35=some (.slice 39):=by kernel_rfl
theorem qj:ak SS.P 37=some 2:=by kernel_rfl
theorem rI:ak SS.P 39=some 4:=by kernel_rfl
theorem fg:ak SS.P 24=some 4:=by kernel_rfl
theorem Lq:Go.Ab.isAgg SS.P 37=true:=by kernel_rfl
theorem F9:Go.Ab.isAgg SS.P 39=true:=by kernel_rfl
theorem wB:Go.Ab.isAgg SS.P 24=true:=by kernel_rfl
theorem Bl:Go.Ab.isAgg SS.P 22=false:=by kernel_rfl
theorem A2:Go.Ab.isAgg SS.P 35=false:=by kernel_rfl
noncomputable def Mo:TypeDesc:=(SS.P.underlying 37).getD .bool
theorem LU:SS.P.underlying 37=some Mo:=by kernel_rfl
noncomputable def Mz:TypeDesc:=(SS.P.underlying 39).getD .bool
theorem G0:SS.P.underlying 39=some Mz:=by kernel_rfl
noncomputable def Mq:TypeDesc:=(SS.P.underlying 24).getD .bool
theorem wx:SS.P.underlying 24=some Mq:=by kernel_rfl
theorem gH (k:Nat):af SS.P 24 (.pointer (some ⟨k,0,none⟩)) 0=some (.pointer (some ⟨k,0,none⟩)):=by kernel_rfl
theorem fF (k:Nat):af SS.P 24 (.pointer (some ⟨k,0,none⟩)) 1=some (.pointer (some ⟨k,1,none⟩)):=by kernel_rfl
theorem jM (k:Nat):af SS.P 24 (.pointer (some ⟨k,0,none⟩)) 2=some (.pointer (some ⟨k,2,none⟩)):=by kernel_rfl
theorem bn (k:Nat):af SS.P 24 (.pointer (some ⟨k,0,none⟩)) 3=some (.pointer (some ⟨k,3,none⟩)):=by kernel_rfl
theorem gG (k o:Nat):af SS.P 37 (.pointer (some ⟨k,o,none⟩)) 0=some (.pointer (some ⟨k,o+0,none⟩)):=by kernel_rfl
theorem cw (k o:Nat):af SS.P 37 (.pointer (some ⟨k,o,none⟩)) 1=some (.pointer (some ⟨k,o+1,none⟩)):=by kernel_rfl
theorem np (k o:Nat):af SS.P 39 (.pointer (some ⟨k,o,none⟩)) 0=some (.pointer (some ⟨k,o+0,none⟩)):=by kernel_rfl
theorem px (k o:Nat):af SS.P 39 (.pointer (some ⟨k,o,none⟩)) 1=some (.pointer (some ⟨k,o+1,none⟩)):=by kernel_rfl
theorem vX (k o:Nat):af SS.P 39 (.pointer (some ⟨k,o,none⟩)) 2=some (.pointer (some ⟨k,o+2,none⟩)):=by kernel_rfl
theorem fz (k o:Nat):af SS.P 39 (.pointer (some ⟨k,o,none⟩)) 3=some (.pointer (some ⟨k,o+3,none⟩)):=by kernel_rfl
structure MB (g:Heap)(k:Nat)(M:Mach)(a:Option Addr)(n c:Nat):Prop where
 box:g.get k=some (.cells [.int .i64 M.kind,.int .i64 M.start,aa M.lead,.slice a n c] 24 0 true)
 row:StRow g (.slice a n c) M.states
section
variable {g g':Heap} {k:Nat} {M:Mach} {a:Option Addr} {n c:Nat}
theorem MB.ok (m:MB g k M a n c)(o:Ok g g'):MB g' k M a n c:=⟨o.ext _ _ m.box,m.row.ok o⟩
theorem MB.l0 (m:MB g k M a n c):ag SS.P 3 g (.pointer (some ⟨k,0,none⟩))=some (.int .i64 M.kind):=cM Hg GS m.box (by simp)
theorem MB.l1 (m:MB g k M a n c):ag SS.P 3 g (.pointer (some ⟨k,1,none⟩))=some (.int .i64 M.start):=cM Hg GS m.box (by simp)
theorem MB.l2 (m:MB g k M a n c):ag SS.P 9 g (.pointer (some ⟨k,2,none⟩))=some (aa M.lead):=cM IK KB m.box (by simp)
theorem MB.l3 (m:MB g k M a n c):ag SS.P 22 g (.pointer (some ⟨k,3,none⟩))=some (.slice a n c):=cM qS Bl m.box (by simp)
theorem MB.all (m:MB g k M a n c):ag SS.P 24 g (.pointer (some ⟨k,0,none⟩))=some (.agg ⟨[.int .i64 M.kind,.int .i64 M.start,aa M.lead,.slice a n c]⟩):=ft wx wB fg m.box (by simp)
theorem MB.len (m:MB g k M a n c):n=M.states.length:=m.row.len
end
theorem StRow.at_ {g:Heap}{a:Option Addr}{n c:Nat}{l:List MSt}(r:StRow g (.slice a n c) l){i:Nat}{s:MSt}(hs:l[i]?=some s):
  ∃ (b o:Nat)(x:Option Addr)(y z:Nat),ah SS.P 22 (.slice a n c) (.int .i64 (i:Int))=some (.pointer (some ⟨b,o,none⟩))/\ag SS.P 37 g (.pointer (some ⟨b,o,none⟩))=some (.agg ⟨[aa s.f,.slice x y z]⟩)/\
   ag SS.P 9 g (.pointer (some ⟨b,o+0,none⟩))=some (aa s.f)/\ag SS.P 35 g (.pointer (some ⟨b,o+1,none⟩))=some (.slice x y z)/\ArcRow g (.slice x y z) s.arcs:=by
 obtain ⟨ps,h1,h2,h3,_⟩:=r;rw [<-h1,getElem?_map] at hs;obtain ⟨p,hp,rfl⟩:=Option.map_eq_some_iff.1 hs;have hi:=(List.getElem?_eq_some_iff.1 hp).1;obtain ⟨b,o,e1,e2,e3⟩:=h2.at_ qS qj LU Lq (ik:= .i64) (i:=(i:Int)) (by omega) (by rw [lM]; omega);have e4:(ps.map dg).getD (i:Int).toNat []=dg p:=by
  rw [toNat_natCast,gD,getElem?_map,hp]; rfl
 rw [e4] at e2 e3;have ha:=h3 p (List.mem_of_getElem? hp);obtain ⟨x,z,hx⟩:=RdN.slc ha;have e5:=e3 9 _ 0 IK KB (by omega);have e6:=e3 35 _ 1 ti A2 (by omega);unfold dg at e2 e5 e6;rw [hx] at e2 e6 ha;exact ⟨b,o,x,_,z,e1,e2,e5,e6,ha⟩
theorem ArcRow.len {g:Heap}{x:Option Addr}{y z:Nat}{l:List MArc}(r:ArcRow g (.slice x y z) l):y=l.length:=by
 have:=RdN.len r; rwa [lM] at this
theorem ArcRow.ok {h h':Heap}{v:Value}{l:List MArc}(r:ArcRow h v l)(o:Ok h h'):ArcRow h' v l:=RdN.ok r o
theorem ArcRow.at_ {g:Heap}{x:Option Addr}{y z:Nat}{l:List MArc}(r:ArcRow g (.slice x y z) l){j:Nat}{q:MArc}(hs:l[j]?=some q):
  ∃ (b o:Nat),ah SS.P 35 (.slice x y z) (.int .i64 (j:Int))=some (.pointer (some ⟨b,o,none⟩))/\ag SS.P 39 g (.pointer (some ⟨b,o,none⟩))=some (.agg ⟨aI q⟩)/\
   ag SS.P 3 g (.pointer (some ⟨b,o+0,none⟩))=some (.int .i64 q.i)/\ag SS.P 3 g (.pointer (some ⟨b,o+1,none⟩))=some (.int .i64 q.o)/\ag SS.P 9 g (.pointer (some ⟨b,o+2,none⟩))=some (aa q.w)/\ag SS.P 3 g (.pointer (some ⟨b,o+3,none⟩))=some (.int .i64 q.t):=by
 have hj:=(List.getElem?_eq_some_iff.1 hs).1;obtain ⟨b,o,e1,e2,e3⟩:=RdN.at_ ti rI G0 F9 r (ik:= .i64) (i:=(j:Int)) (by omega) (by rw [lM]; omega);have e4:(l.map aI).getD (j:Int).toNat []=aI q:=by
  rw [toNat_natCast,gD,getElem?_map,hs]; rfl
 rw [e4] at e2 e3;exact ⟨b,o,e1,e2,e3 3 _ 0 Hg GS (by omega),e3 3 _ 1 Hg GS (by omega),e3 9 _ 2 IK KB (by omega),e3 3 _ 3 Hg GS (by omega)⟩
def SB (g:Heap)(k:Nat)(f:List UInt8)(x:Option Addr)(y z:Nat):Prop:=g.get k=some (.cells [aa f,.slice x y z] 37 0 true)
theorem SB.ok {g g':Heap}{k:Nat}{f:List UInt8}{x:Option Addr}{y z:Nat}(s:SB g k f x y z)(o:Ok g g'):SB g' k f x y z:=o.ext _ _ s
theorem SB.l0 {g:Heap}{k:Nat}{f:List UInt8}{x:Option Addr}{y z:Nat}(s:SB g k f x y z):ag SS.P 9 g (.pointer (some ⟨k,0+0,none⟩))=some (aa f):=cM IK KB s (by simp)
theorem SB.l1 {g:Heap}{k:Nat}{f:List UInt8}{x:Option Addr}{y z:Nat}(s:SB g k f x y z):ag SS.P 35 g (.pointer (some ⟨k,0+1,none⟩))=some (.slice x y z):=cM ti A2 s (by simp)
def AB (g:Heap)(k:Nat)(q:MArc):Prop:=g.get k=some (.cells (aI q) 39 0 true)
theorem AB.ok {g g':Heap}{k:Nat}{q:MArc}(s:AB g k q)(o:Ok g g'):AB g' k q:=o.ext _ _ s
theorem AB.l0 {g:Heap}{k:Nat}{q:MArc}(s:AB g k q):ag SS.P 3 g (.pointer (some ⟨k,0+0,none⟩))=some (.int .i64 q.i):=cM Hg GS s (by simp [aI])
theorem AB.l1 {g:Heap}{k:Nat}{q:MArc}(s:AB g k q):ag SS.P 3 g (.pointer (some ⟨k,0+1,none⟩))=some (.int .i64 q.o):=cM Hg GS s (by simp [aI])
theorem AB.l2 {g:Heap}{k:Nat}{q:MArc}(s:AB g k q):ag SS.P 9 g (.pointer (some ⟨k,0+2,none⟩))=some (aa q.w):=cM IK KB s (by simp [aI])
theorem AB.l3 {g:Heap}{k:Nat}{q:MArc}(s:AB g k q):ag SS.P 3 g (.pointer (some ⟨k,0+3,none⟩))=some (.int .i64 q.t):=cM Hg GS s (by simp [aI])
def uy:Blk:= .cells [aa [],.slice none 0 0] 37 0 true
theorem tJ:aB SS.P 37=some (uy,gk):=by kernel_rfl
def C7:Blk:= .cells [.int .i64 0,.int .i64 0,aa [],.int .i64 0] 39 0 true
theorem zJ:aB SS.P 39=some (C7,gk):=by kernel_rfl
theorem qx {h:Heap}(w:Wf h)(f:List UInt8)(x:Option Addr)(y z:Nat): ∃ u:Upd,ai SS.P 37 (.pointer (some ⟨h.next,0,none⟩)) (.agg ⟨[aa f,.slice x y z]⟩) (h.push uy)=some (undef,u)/\Ok h (u.app (h.push uy))/\SB (u.app (h.push uy)) h.next f x y z:=by
 obtain ⟨o,e⟩:=dL (cs:=[aa f,.slice x y z]) w ((Ok.refl w).push uy) (aq h uy) (le_refl _);exact ⟨_,cC qj rfl (aq h uy) rfl rfl,o,e⟩
theorem qH {h:Heap}(w:Wf h)(q:MArc): ∃ u:Upd,ai SS.P 39 (.pointer (some ⟨h.next,0,none⟩)) (.agg ⟨aI q⟩) (h.push C7)=some (undef,u)/\Ok h (u.app (h.push C7))/\AB (u.app (h.push C7)) h.next q:=by
 obtain ⟨o,e⟩:=dL (cs:=aI q) w ((Ok.refl w).push C7) (aq h C7) (le_refl _);exact ⟨_,cC rI rfl (aq h C7) rfl rfl,o,e⟩
def aA (M:Mach)(a:Option Addr)(n c:Nat):List Value:=[.int .i64 M.kind,.int .i64 M.start,aa M.lead,.slice a n c]
def Bm (M:Mach)(a:Option Addr)(n c:Nat):Blk:= .cells (aA M a n c) 24 0 true
theorem fo (M:Mach)(a:Option Addr)(n c:Nat):dU SS.P 24 (.agg ⟨aA M a n c⟩)=some (Bm M a n c,gk):=by kernel_rfl
theorem dM {h:Heap}(w:Wf h){M:Mach}{a:Option Addr}{n c:Nat}(r:StRow h (.slice a n c) M.states):MB (h.push (Bm M a n c)) h.next M a n c/\Ok h (h.push (Bm M a n c)):=
 ⟨⟨aq h _,r.ok ((Ok.refl w).push _)⟩,(Ok.refl w).push _⟩
def ut (s:Int):Bool:=decide (0<=s) && decide (s<=500)
def iV (kind:Int)(N:Nat)(a:MArc):Bool:=ut a.i && ut a.o && decide (0<=a.t) && decide (a.t < N) && Num.weightOk kind a.w
def gM (kind:Int)(N:Nat):Int->List MSt->Bool
 | _,[]=>true
 | acc,s::r=>decide (acc+s.arcs.length<=30000) && (s.f == [] || Num.weightOk kind s.f) && s.arcs.all (iV kind N) && gM kind N (acc+s.arcs.length) r
def aL (M:Mach):Bool:=decide (1<=M.kind) && decide (M.kind<=3) && decide (1<=M.states.length) && decide (M.states.length<=3000) && decide (0<=M.start) && decide (M.start < M.states.length) && Num.weightOk M.kind M.lead && gM M.kind M.states.length 0 M.states
def eO (l:List MSt):Nat:=(l.map fun s=>s.arcs.length).sum
structure Small (M:Mach):Prop where
 lead:M.lead.length<=900
 sts:M.states.length<=300
 fin: ∀ s∈M.states,s.f.length<=900
 arcs: ∀ s∈M.states,s.arcs.length<=2000
 w: ∀ s∈M.states,∀ q∈s.arcs,q.w.length<=900
 tot:eO M.states<=2000
end
noncomputable def Gj:FD:=cD Tryz.f35 []
theorem E9 (s:Int)(h:Heap)(Q:VH)(hx:az (decide ((s:Int)>=0)) (Q (.bool (decide ((s:Int)<=500))) h) (Q (.bool false) h)):FW SS 35 [(.int .i64 s)] h Q:=cE Gj Tryz.func35 (aj hx)
noncomputable def bB:FD:=cD Tryz.f10 [([1,1,1,1,0,1,0,0],[1,2,3,4,48,49,50]),([1,1,1,1,0,1,0,0,1,1,0,0,1,1,1,1,0,0],[1,2,3,4,6,48,49,50,75,76,77])]
abbrev dj (k:Nat)(a:OA)(n c:Nat)(i:Nat)(acc:Int):LV:=[(pA k),(.bool false),(iA n),(.int .i64 acc),(.slice a n c),(iA n),(iA i)]
abbrev ew (k:Nat)(a:OA)(n c k2:Nat)(b:OA)(m d i:Nat)(acc:Int)(j:Nat):LV:=[(pA k),(.bool false),(iA n),(.int .i64 acc),(pA k2),(.slice a n c),(iA n),(iA i),(.slice b m d),(iA m),(iA j)]
theorem EN (mv:LV)(h:Heap)(Q:VH)(hx:xN (dU SS.P 24 (.agg ⟨mv⟩)) h fun B1 g2=>xP (af SS.P 24 (pA (h.next)) 3) fun p3=>xL (ag SS.P 22 g2 (.pointer (some p3))) fun a4 n5 c6=>xP (af SS.P 24 (pA (h.next)) 0) fun p7=>xI .i64 (ag SS.P 3 g2 (.pointer (some p7))) fun n8=>az (decide ((n8:Int) < 1)) (Q (.bool false) g2) (xP (af SS.P 24 (pA (h.next)) 0) fun p9=>xI .i64 (ag SS.P 3 g2 (.pointer (some p9))) fun n10=>az (decide ((n10:Int) > 3)) (Q (.bool false) g2) (az (decide (((n5:Int):Int) < 1)) (Q (.bool false) g2) (az (decide (((n5:Int):Int) > 3000)) (Q (.bool false) g2) (xP (af SS.P 24 (pA (h.next)) 1) fun p11=>xI .i64 (ag SS.P 3 g2 (.pointer (some p11))) fun n12=>az (decide ((n12:Int) < 0)) (Q (.bool false) g2) (xP (af SS.P 24 (pA (h.next)) 1) fun p13=>xI .i64 (ag SS.P 3 g2 (.pointer (some p13))) fun n14=>az (decide ((n14:Int)>=(n5:Int))) (Q (.bool false) g2) (xP (af SS.P 24 (pA (h.next)) 0) fun p15=>xI .i64 (ag SS.P 3 g2 (.pointer (some p15))) fun n16=>xP (af SS.P 24 (pA (h.next)) 2) fun p17=>xS (ag SS.P 9 g2 (.pointer (some p17))) fun l18=>FW SS 34 [(.int .i64 n16),(aa l18)] g2 fun v19 h20=>yB v19 fun b21=>az (!b21) (Q (.bool false) h20) (xP (af SS.P 24 (pA (h.next)) 3) fun p22=>xL (ag SS.P 22 h20 (.pointer (some p22))) fun a23 n24 c25=>LL SS bB [1,1,1,1,0,1,0,0] [(pA (h.next)),(.bool false),(iA n5),(.int .i64 0),(.slice a23 n24 c25),(iA n24),(.int .i64 0)] h20 (KK SS bB [1,1,1,1,0,1,0] [] (EE SS bB Q)))))))))):FW SS 10 [(.agg ⟨mv⟩)] h Q:=cE bB Tryz.func10 (aj hx)
theorem oH (mv:LV)(k:Nat)(a:OA)(n c:Nat)(Inv:Nat->Nat->Int->Heap->Prop)(Q:VH)(step: ∀ (mz:Nat) (i:Nat) (acc:Int) (zz:Nat->Value) (h:Heap),Inv mz i acc h->az (decide (((i:Int):Int) < (n:Int))) (xP (ah SS.P 22 (.slice a n c) (iA i)) fun p26=>xA (ag SS.P 37 h (.pointer (some p26))) fun c27=>xN (aB SS.P 37) h fun B28 g29=>xU (ai SS.P 37 (pA (h.next)) (.agg ⟨c27⟩) g29) g29 fun u30 g31=>xP (af SS.P 37 (pA (h.next)) 1) fun p32=>xL (ag SS.P 35 g31 (.pointer (some p32))) fun a33 n34 c35=>az (decide ((wrap .i64 (acc+(n34:Int)):Int) > 30000)) (Q (.bool false) g31) (xP (af SS.P 37 (pA (h.next)) 0) fun p36=>xS (ag SS.P 9 g31 (.pointer (some p36))) fun l37=>az (!((l37:LB) == [])) (xP (af SS.P 24 (pA k) 0) fun p38=>xI .i64 (ag SS.P 3 g31 (.pointer (some p38))) fun n39=>xP (af SS.P 37 (pA (h.next)) 0) fun p40=>xS (ag SS.P 9 g31 (.pointer (some p40))) fun l41=>FW SS 34 [(.int .i64 n39),(aa l41)] g31 fun v42 h43=>yB v42 fun b44=>az (!b44) (Q (.bool false) h43) (xP (af SS.P 37 (pA (h.next)) 1) fun p45=>xL (ag SS.P 35 h43 (.pointer (some p45))) fun a46 n47 c48=>LL SS bB [1,1,1,1,0,1,0,0,1,1,0,0,1,1,1,1,0,0] (ew k a n c (h.next) a46 n47 c48 i (wrap .i64 (acc+(n34:Int))) 0) h43 (KK SS bB [1,1,0,0,1,1,1,1,0] [1,1,1,1,0,1,0,0] (RR bB [1,1,1,1,0,1,0,0] (sZ (dj k a n c) Inv) mz (KK SS bB [1,1,1,1,0,1,0] [] (EE SS bB Q)))))) (xP (af SS.P 37 (pA (h.next)) 1) fun p49=>xL (ag SS.P 35 g31 (.pointer (some p49))) fun a50 n51 c52=>LL SS bB [1,1,1,1,0,1,0,0,1,1,0,0,1,1,1,1,0,0] (ew k a n c (h.next) a50 n51 c52 i (wrap .i64 (acc+(n34:Int))) 0) g31 (KK SS bB [1,1,0,0,1,1,1,1,0] [1,1,1,1,0,1,0,0] (RR bB [1,1,1,1,0,1,0,0] (sZ (dj k a n c) Inv) mz (KK SS bB [1,1,1,1,0,1,0] [] (EE SS bB Q))))))) (Q (.bool true) h))(mz:Nat){i:Nat}{acc:Int}{h:Heap}(hi:Inv mz i acc h):LL SS bB [1,1,1,1,0,1,0,0] (dj k a n c i acc) h (KK SS bB [1,1,1,1,0,1,0] [] (EE SS bB Q)):=
 mT (dj k a n c) Inv (fun mz i acc zz h hi=>aj (step mz i acc zz h hi)) mz hi
theorem oZ (mv:LV)(k:Nat)(a:OA)(n c:Nat)(k2:Nat)(b:OA)(m d:Nat)(Inv:Nat->Nat->Int->Heap->Prop)(mz i:Nat)(acc:Int)(Inv2:Nat->Nat->Heap->Prop)(Q:VH)(step: ∀ (mz2:Nat) (j:Nat) (zz:Nat->Value) (h:Heap),Inv2 mz2 j h->az (decide (((j:Int):Int) < (m:Int))) (xP (ah SS.P 35 (.slice b m d) (iA j)) fun p53=>xA (ag SS.P 39 h (.pointer (some p53))) fun c54=>xN (aB SS.P 39) h fun B55 g56=>xU (ai SS.P 39 (pA (h.next)) (.agg ⟨c54⟩) g56) g56 fun u57 g58=>xP (af SS.P 39 (pA (h.next)) 0) fun p59=>xI .i64 (ag SS.P 3 g58 (.pointer (some p59))) fun n60=>FW SS 35 [(.int .i64 n60)] g58 fun v61 h62=>yB v61 fun b63=>az (!b63) (Q (.bool false) h62) (xP (af SS.P 39 (pA (h.next)) 1) fun p64=>xI .i64 (ag SS.P 3 h62 (.pointer (some p64))) fun n65=>FW SS 35 [(.int .i64 n65)] h62 fun v66 h67=>yB v66 fun b68=>az (!b68) (Q (.bool false) h67) (xP (af SS.P 39 (pA (h.next)) 3) fun p69=>xI .i64 (ag SS.P 3 h67 (.pointer (some p69))) fun n70=>az (decide ((n70:Int) < 0)) (Q (.bool false) h67) (xP (af SS.P 39 (pA (h.next)) 3) fun p71=>xI .i64 (ag SS.P 3 h67 (.pointer (some p71))) fun n72=>az (decide ((n72:Int)>=(n:Int))) (Q (.bool false) h67) (xP (af SS.P 24 (pA k) 0) fun p73=>xI .i64 (ag SS.P 3 h67 (.pointer (some p73))) fun n74=>xP (af SS.P 39 (pA (h.next)) 2) fun p75=>xS (ag SS.P 9 h67 (.pointer (some p75))) fun l76=>FW SS 34 [(.int .i64 n74),(aa l76)] h67 fun v77 h78=>yB v77 fun b79=>az (!b79) (Q (.bool false) h78) (aF (ga (ew k a n c k2 b m d i acc) Inv2) mz2 [(pA k),(.bool false),(iA n),(.int .i64 acc),(pA k2),(.slice a n c),(iA n),(iA i),(.slice b m d),(iA m),(.int .i64 (wrap .i64 ((j:Int)+1)))] h78)))))) (aF (sZ (dj k a n c) Inv) mz [(pA k),(.bool false),(iA n),(.int .i64 acc),(.slice a n c),(iA n),(.int .i64 (wrap .i64 ((i:Int)+1)))] h))(mz2:Nat){j:Nat}{h:Heap}(hi:Inv2 mz2 j h):LL SS bB [1,1,1,1,0,1,0,0,1,1,0,0,1,1,1,1,0,0] (ew k a n c k2 b m d i acc j) h (KK SS bB [1,1,0,0,1,1,1,1,0] [1,1,1,1,0,1,0,0] (RR bB [1,1,1,1,0,1,0,0] (sZ (dj k a n c) Inv) mz (KK SS bB [1,1,1,1,0,1,0] [] (EE SS bB Q)))):=
 cP (ew k a n c k2 b m d i acc) Inv2 (fun mz2 j zz h hi=>aj (step mz2 j zz h hi)) mz2 hi
noncomputable def jU:FD:=cD Tryz.f33 [([1,1,0,1,0,0],[1,3,4])]
abbrev fU (k:Nat)(i:Nat)(acc:Int):LV:=[(pA k),(.int .i64 acc),(iA i)]
theorem Ij (mv:LV)(h:Heap)(Q:VH)(hx:xN (dU SS.P 24 (.agg ⟨mv⟩)) h fun B1 g2=>LL SS jU [1,1,0,1,0,0] (fU (h.next) 0 0) g2 (KK SS jU [1,1,0,1,0] [] (EE SS jU Q))):FW SS 33 [(.agg ⟨mv⟩)] h Q:=cE jU Tryz.func33 (aj hx)
theorem pB (mv:LV)(k:Nat)(Inv:Nat->Nat->Int->Heap->Prop)(Q:VH)(step: ∀ (mz:Nat) (i:Nat) (acc:Int) (zz:Nat->Value) (h:Heap),Inv mz i acc h->xP (af SS.P 24 (pA k) 3) fun p3=>xL (ag SS.P 22 h (.pointer (some p3))) fun a4 n5 c6=>az (decide (((i:Int):Int) < (n5:Int))) (xP (af SS.P 24 (pA k) 3) fun p7=>xL (ag SS.P 22 h (.pointer (some p7))) fun a8 n9 c10=>xP (ah SS.P 22 (.slice a8 n9 c10) (iA i)) fun p11=>xP (af SS.P 37 (.pointer (some p11)) 1) fun p12=>xL (ag SS.P 35 h (.pointer (some p12))) fun a13 n14 c15=>aF (sZ (fU k) Inv) mz [(pA k),(.int .i64 (wrap .i64 (acc+(n14:Int)))),(.int .i64 (wrap .i64 ((i:Int)+1)))] h) (Q (.int .i64 acc) h))(mz:Nat){i:Nat}{acc:Int}{h:Heap}(hi:Inv mz i acc h):LL SS jU [1,1,0,1,0,0] (fU k i acc) h (KK SS jU [1,1,0,1,0] [] (EE SS jU Q)):=
 mT (fU k) Inv (fun mz i acc zz h hi=>aj (step mz i acc zz h hi)) mz hi
noncomputable def cW:FD:=cD Tryz.f8 [([1,1,0,1,0,0],[1,2,3]),([1,1,0,1,0,0,1,0,0,1,1,0,0],[1,2,3,4])]
abbrev dS (k:Nat)(i:Nat):LV:=[(pA k),(.bool false),(iA i)]
abbrev fP (k i:Nat)(j:Nat):LV:=[(pA k),(.bool false),(iA i),(iA j)]
theorem Gw (mv:LV)(h:Heap)(Q:VH)(hx:xN (dU SS.P 24 (.agg ⟨mv⟩)) h fun B1 g2=>xP (af SS.P 24 (pA (h.next)) 3) fun p3=>xL (ag SS.P 22 g2 (.pointer (some p3))) fun a4 n5 c6=>az (decide (((n5:Int):Int) > 300)) (Q (.bool true) g2) (xA (ag SS.P 24 g2 (pA (h.next))) fun c7=>FW SS 33 [(.agg ⟨c7⟩)] g2 fun v8 h9=>yI .i64 v8 fun n10=>az (decide ((n10:Int) > 2000)) (Q (.bool true) h9) (xP (af SS.P 24 (pA (h.next)) 2) fun p11=>xS (ag SS.P 9 h9 (.pointer (some p11))) fun l12=>az (decide ((((l12:LB).length:Int):Int) > 900)) (Q (.bool true) h9) (LL SS cW [1,1,0,1,0,0] (dS (h.next) 0) h9 (KK SS cW [1,1,0,1,0] [] (EE SS cW Q)))))):FW SS 8 [(.agg ⟨mv⟩)] h Q:=cE cW Tryz.func8 (aj hx)
theorem pz (mv:LV)(k:Nat)(Inv:Nat->Nat->Heap->Prop)(Q:VH)(step: ∀ (mz:Nat) (i:Nat) (zz:Nat->Value) (h:Heap),Inv mz i h->xP (af SS.P 24 (pA k) 3) fun p13=>xL (ag SS.P 22 h (.pointer (some p13))) fun a14 n15 c16=>az (decide (((i:Int):Int) < (n15:Int))) (xP (af SS.P 24 (pA k) 3) fun p17=>xL (ag SS.P 22 h (.pointer (some p17))) fun a18 n19 c20=>xP (ah SS.P 22 (.slice a18 n19 c20) (iA i)) fun p21=>xP (af SS.P 37 (.pointer (some p21)) 0) fun p22=>xS (ag SS.P 9 h (.pointer (some p22))) fun l23=>az (decide ((((l23:LB).length:Int):Int) > 900)) (Q (.bool true) h) (LL SS cW [1,1,0,1,0,0,1,0,0,1,1,0,0] (fP k i 0) h (KK SS cW [1,0,0,1,1,0] [1,1,0,1,0,0] (RR cW [1,1,0,1,0,0] (ga (dS k) Inv) mz (KK SS cW [1,1,0,1,0] [] (EE SS cW Q)))))) (Q (.bool false) h))(mz:Nat){i:Nat}{h:Heap}(hi:Inv mz i h):LL SS cW [1,1,0,1,0,0] (dS k i) h (KK SS cW [1,1,0,1,0] [] (EE SS cW Q)):=
 cP (dS k) Inv (fun mz i zz h hi=>aj (step mz i zz h hi)) mz hi
theorem pu (mv:LV)(k:Nat)(Inv:Nat->Nat->Heap->Prop)(mz i:Nat)(Inv2:Nat->Nat->Heap->Prop)(Q:VH)(step: ∀ (mz2:Nat) (j:Nat) (zz:Nat->Value) (h:Heap),Inv2 mz2 j h->xP (af SS.P 24 (pA k) 3) fun p24=>xL (ag SS.P 22 h (.pointer (some p24))) fun a25 n26 c27=>xP (ah SS.P 22 (.slice a25 n26 c27) (iA i)) fun p28=>xP (af SS.P 37 (.pointer (some p28)) 1) fun p29=>xL (ag SS.P 35 h (.pointer (some p29))) fun a30 n31 c32=>az (decide (((j:Int):Int) < (n31:Int))) (xP (af SS.P 24 (pA k) 3) fun p33=>xL (ag SS.P 22 h (.pointer (some p33))) fun a34 n35 c36=>xP (ah SS.P 22 (.slice a34 n35 c36) (iA i)) fun p37=>xP (af SS.P 37 (.pointer (some p37)) 1) fun p38=>xL (ag SS.P 35 h (.pointer (some p38))) fun a39 n40 c41=>xP (ah SS.P 35 (.slice a39 n40 c41) (iA j)) fun p42=>xP (af SS.P 39 (.pointer (some p42)) 2) fun p43=>xS (ag SS.P 9 h (.pointer (some p43))) fun l44=>az (decide ((((l44:LB).length:Int):Int) > 900)) (Q (.bool true) h) (aF (ga (fP k i) Inv2) mz2 [(pA k),(.bool false),(iA i),(.int .i64 (wrap .i64 ((j:Int)+1)))] h)) (aF (ga (dS k) Inv) mz [(pA k),(.bool false),(.int .i64 (wrap .i64 ((i:Int)+1)))] h))(mz2:Nat){j:Nat}{h:Heap}(hi:Inv2 mz2 j h):LL SS cW [1,1,0,1,0,0,1,0,0,1,1,0,0] (fP k i j) h (KK SS cW [1,0,0,1,1,0] [1,1,0,1,0,0] (RR cW [1,1,0,1,0,0] (ga (dS k) Inv) mz (KK SS cW [1,1,0,1,0] [] (EE SS cW Q)))):=
 cP (fP k i) Inv2 (fun mz2 j zz h hi=>aj (step mz2 j zz h hi)) mz2 hi
section
theorem dP {α:Type}{l:List α}{i:Nat}{s:α}(h:l[i]?=some s):l.drop i=s::l.drop (i+1):=by
 obtain ⟨h1,rfl⟩:=List.getElem?_eq_some_iff.1 h;exact List.drop_eq_getElem_cons h1
theorem vw (s:Int)(h:Heap):FW SS 35 [.int .i64 s] h (fun v h'=>v = .bool (ut s)/\h'=h):=by
 refine E9 s h _ (ae (fun g=>⟨?_,rfl⟩) (fun g=>⟨?_,rfl⟩))
 ·have g:=dT g;unfold ut; rw [decide_eq_true (show 0<=s from g),Bool.true_and]
 ·have g:=dF g;unfold ut; rw [decide_eq_false (show ¬ 0<=s from g),Bool.false_and]
section
variable {h:Heap} {k:Nat} {M:Mach} {a:Option Addr} {n c:Nat}
def bQ (h:Heap)(V:Bool):VH:=fun v h'=>v = .bool V/\Ok h h'
def MX (h:Heap)(k:Nat)(M:Mach)(a:Option Addr)(n c:Nat)(V:Bool)(mz i:Nat)(acc:Int)(g:Heap):Prop:=i<=n/\mz=n - i/\0<=acc/\acc<=30000/\MB g k M a n c/\Ok h g/\gM M.kind n acc (M.states.drop i)=V
def OL (h:Heap)(k:Nat)(M:Mach)(a:Option Addr)(n c:Nat)(s:MSt)(b:Option Addr)(m d i:Nat)(acc:Int)(V:Bool)(mz2 j:Nat)(g:Heap):Prop:=j<=m/\mz2=m - j/\MB g k M a n c/\Ok h g/\ArcRow g (.slice b m d) s.arcs/\((s.arcs.drop j).all (iV M.kind n) && gM M.kind n acc (M.states.drop (i+1)))=V
theorem aG {i n:Nat}(h:i < n)(hn:n<=1000000000):wrap .i64 ((i:Int)+1)=((i+1:Nat):Int):=by rw [ax (by omega) (by omega)]; omega
theorem hG (sm:Small M){s:MSt}{i:Nat}(hs:M.states[i]?=some s):s.arcs.length<=2000/\s.f.length<=1000000000/\ ∀ q∈s.arcs,q.w.length<=1000000000:=by
 have h:=List.mem_of_getElem? hs;exact ⟨sm.arcs s h,le_trans (sm.fin s h) (by decide),fun q hq=>le_trans (sm.w s h q hq) (by decide)⟩
set_option linter.defProp false in
def xn (w:Wf h)(tb:Tab h)(sm:Small M)(V:Bool){s:MSt}{b:Option Addr}{m d i k2:Nat}{acc:Int}(hs:M.states[i]?=some s)(hi:i < n)(h0:0<=acc)(h1:acc<=30000)(mv:List Value)(mz:Nat)(hmz:mz=n - i):=
 oZ mv k a n c k2 b m d (MX h k M a n c V) mz i acc (OL h k M a n c s b m d i acc V) (bQ h V) (by
  intro mz2 j; intros; rename_i g hin;obtain ⟨f1,f2,mb,ok,ar,hv⟩:=hin;have hn:n<=300:=by rw [mb.len]; exact sm.sts
  obtain ⟨l1,l2,l3⟩:=hG sm hs;have hm:=ar.len;refine ae (fun g1=> ?_) (fun g1=> ?_)
  ·have g1:=dT g1;obtain ⟨q,hq⟩: ∃ q,s.arcs[j]?=some q:=⟨_,gE (by omega)⟩
   obtain ⟨bb,o,e1,e2,e3⟩:=ar.at_ hq;have lq:=l3 q (List.mem_of_getElem? hq);rw [dP hq,all_cons] at hv;obtain ⟨u,p1,p2,p3⟩:=qH ok.wf q;refine ⟨_,e1,_,e2,_,zJ,u,p1,?_⟩;have okg:=ok.trans p2;have mbg:=mb.ok p2;generalize u.app (g.push C7)=g2 at *;refine ⟨_,np _ _,_,p3.l0,(vw _ _).mono ?_⟩;rintro _ g3 ⟨rfl,eg⟩;obtain rfl:g2=g3:=eg.symm;refine ⟨_,rfl,ae (fun t=>⟨?_,okg⟩) (fun t=> ?_)⟩
   ·rw [not_eq_true'] at t;rw [<-hv]; unfold iV; rw [t]; simp
   rw [not_eq_false'] at t;refine ⟨_,px _ _,_,p3.l1,(vw _ _).mono ?_⟩;rintro _ g3 ⟨rfl,eg⟩;obtain rfl:g2=g3:=eg.symm;refine ⟨_,rfl,ae (fun t2=>⟨?_,okg⟩) (fun t2=> ?_)⟩
   ·rw [not_eq_true'] at t2;rw [<-hv]; unfold iV; rw [t2]; simp
   rw [not_eq_false'] at t2;refine ⟨_,fz _ _,_,p3.l3,ae (fun t3=>⟨?_,okg⟩) (fun t3=> ?_)⟩
   ·have t3:=dT t3;rw [<-hv]; unfold iV; rw [decide_eq_false (show ¬ 0<=q.t by omega)]; simp
   have t3:=dF t3;refine ⟨_,fz _ _,_,p3.l3,ae (fun t4=>⟨?_,okg⟩) (fun t4=> ?_)⟩
   ·have t4:=dT t4;rw [<-hv]; unfold iV; rw [decide_eq_false (show ¬ q.t < n by omega)]; simp
   have t4:=dF t4;refine ⟨_,gH _,_,mbg.l0,_,vX _ _,_,p3.l2,(jw M.kind q.w lq (tb.ok okg) okg.wf).mono ?_⟩;rintro _ g4 ⟨rfl,o4⟩;refine ⟨_,rfl,ae (fun t5=>⟨?_,okg.trans o4⟩) (fun t5=> ?_)⟩
   ·rw [not_eq_true'] at t5;rw [<-hv]; unfold iV; rw [t5]; simp
   rw [not_eq_false'] at t5;have hq1:iV M.kind n q=true:=by
    unfold iV; rw [t,t2,t5,decide_eq_true (show 0<=q.t by omega),decide_eq_true (show q.t < n by omega)]; rfl
   rw [hq1,Bool.true_and] at hv;rw [aG (i:=j) (n:=m) (by omega) (by omega)];exact cA (mz2 - 1) (by omega) ⟨by omega,by omega,mbg.ok o4,okg.trans o4,(ar.ok p2).ok o4,hv⟩
  ·have g1:=dF g1;obtain rfl:m=j:=by omega
   rw [drop_eq_nil_of_le (by omega)] at hv;rw [aG hi (by omega)];exact iC (n - (i+1)) (by omega) ⟨by omega,rfl,h0,h1,mb,ok,by simpa using hv⟩)
theorem fc {h:Heap}(tb:Tab h)(w:Wf h){M:Mach}(sm:Small M){a:Option Addr}{n c:Nat}(r:StRow h (.slice a n c) M.states):FW SS 10 [.agg ⟨aA M a n c⟩] h (fun v h'=>v = .bool (aL M)/\Ok h h'):=by
 obtain ⟨mb,ok⟩:=dM w r;refine EN (aA M a n c) h _ ⟨_,fo M a n c,?_⟩;have hl:=mb.len;have hn:n<=300:=by rw [hl]; exact sm.sts
 generalize h.push (Bm M a n c)=g at *;refine ⟨_,bn _,_,_,_,mb.l3,_,gH _,_,mb.l0,ae (fun t1=>⟨?_,ok⟩) (fun t1=> ?_)⟩
 ·have t1:=dT t1;unfold aL; rw [decide_eq_false (show ¬ 1<=M.kind by omega)]; simp
 have t1:=dF t1;refine ⟨_,gH _,_,mb.l0,ae (fun t2=>⟨?_,ok⟩) (fun t2=>ae (fun t3=>⟨?_,ok⟩) (fun t3=>ae (fun t4=>⟨?_,ok⟩) (fun t4=> ?_)))⟩
 ·have t2:=dT t2;unfold aL; rw [decide_eq_false (show ¬ M.kind<=3 by omega)]; simp
 ·have t3:=dT t3;unfold aL; rw [decide_eq_false (show ¬ 1<=M.states.length by omega)]; simp
 ·have t4:=dT t4;omega
 have t2:=dF t2;have t3:=dF t3;refine ⟨_,fF _,_,mb.l1,ae (fun t5=>⟨?_,ok⟩) (fun t5=> ?_)⟩
 ·have t5:=dT t5;unfold aL; rw [decide_eq_false (show ¬ 0<=M.start by omega)]; simp
 have t5:=dF t5;refine ⟨_,fF _,_,mb.l1,ae (fun t6=>⟨?_,ok⟩) (fun t6=> ?_)⟩
 ·have t6:=dT t6;unfold aL; rw [decide_eq_false (show ¬ M.start < M.states.length by omega)]; simp
 have t6:=dF t6;refine ⟨_,gH _,_,mb.l0,_,jM _,_,mb.l2,(jw M.kind M.lead (le_trans sm.lead (by decide)) (tb.ok ok) ok.wf).mono ?_⟩;rintro _ g2 ⟨rfl,o2⟩;have ok2:=ok.trans o2;have mb2:=mb.ok o2;refine ⟨_,rfl,ae (fun t7=>⟨?_,ok2⟩) (fun t7=> ?_)⟩
 ·rw [not_eq_true'] at t7;unfold aL; rw [t7]; simp
 rw [not_eq_false'] at t7;have hV:aL M=gM M.kind n 0 M.states:=by
  unfold aL;rw [t7,decide_eq_true (show 1<=M.kind by omega),decide_eq_true (show M.kind<=3 by omega),decide_eq_true (show 1<=M.states.length by omega),decide_eq_true (show M.states.length<=3000 by omega),decide_eq_true (show 0<=M.start by omega),decide_eq_true (show M.start < M.states.length by omega),hl];rfl
 obtain ⟨V,hVd⟩: ∃ V,V=gM M.kind n 0 M.states:=⟨_,rfl⟩
 rw [hV,<-hVd];refine ⟨_,bn _,_,_,_,mb2.l3,?_⟩;refine oH (aA M a n c) h.next a n c (MX h h.next M a n c V) (bQ h V) (fun mz i acc=> ?_) n (i:=0) (acc:=0) ⟨by omega,rfl,by omega,by omega,mb2,ok2,hVd.symm⟩;intros; rename_i gg hi;obtain ⟨f1,f2,f3,f4,mb3,ok3,f5⟩:=hi;refine ae (fun q1=> ?_) (fun q1=> ?_)
 ·have q1:=dT q1;obtain ⟨s,hs⟩: ∃ s,M.states[i]?=some s:=⟨_,gE (by omega)⟩
  obtain ⟨b,o,x,y,z,e1,e2,e3,e4,ar⟩:=mb3.row.at_ hs;obtain ⟨l1,l2,l3⟩:=hG sm hs;have hy:=ar.len;rw [dP hs] at f5;unfold gM at f5;obtain ⟨u,p1,p2,p3⟩:=qx ok3.wf s.f x y z;refine ⟨_,e1,_,e2,_,tJ,u,p1,?_⟩;have okg:=ok3.trans p2;have mbg:=mb3.ok p2;have arg:=ar.ok p2;generalize u.app (gg.push uy)=g3 at *;have hw:wrap .i64 (acc+(y:Int))=acc+(s.arcs.length:Int):=by rw [hy,ax (by omega) (by omega)]
  refine ⟨_,cw _ _,_,_,_,p3.l1,?_⟩;dsimp only;rw [hw];refine ae (fun q2=>⟨?_,okg⟩) (fun q2=> ?_)
  ·have q2:=dT q2;rw [<-f5,decide_eq_false (show ¬ acc+(s.arcs.length:Int)<=30000 by omega)]; simp
  have q2:=dF q2;rw [decide_eq_true (show acc+(s.arcs.length:Int)<=30000 by omega),Bool.true_and] at f5;refine ⟨_,gG _ _,_,p3.l0,ae (fun q3=> ?_) (fun q3=> ?_)⟩
  ·refine ⟨_,gH _,_,mbg.l0,_,gG _ _,_,p3.l0,(jw M.kind s.f l2 (tb.ok okg) okg.wf).mono ?_⟩;rintro _ g4 ⟨rfl,o4⟩;have q3:(s.f == [])=false:=by simpa using q3
   rw [q3,Bool.false_or] at f5;refine ⟨_,rfl,ae (fun q4=>⟨?_,okg.trans o4⟩) (fun q4=> ?_)⟩
   ·rw [not_eq_true'] at q4;rw [<-f5,q4]; simp
   rw [not_eq_false'] at q4;rw [q4,Bool.true_and] at f5;refine ⟨_,cw _ _,_,_,_,(p3.ok o4).l1,?_⟩;exact xn w tb sm _ hs (by omega) (by omega) (by omega) [] mz f2 y (j:=0) ⟨by omega,rfl,mbg.ok o4,okg.trans o4,arg.ok o4,by rw [drop_zero]; exact f5⟩
  ·have q3:(s.f == [])=true:=by simpa using q3
   rw [q3,Bool.true_or,Bool.true_and] at f5;refine ⟨_,cw _ _,_,_,_,p3.l1,?_⟩;exact xn w tb sm _ hs (by omega) (by omega) (by omega) [] mz f2 y (j:=0) ⟨by omega,rfl,mbg,okg,arg,by rw [drop_zero]; exact f5⟩
 ·have q1:=dF q1;refine ⟨?_,ok3⟩;rw [drop_eq_nil_of_le (by omega)] at f5;rw [<-f5]; rfl
end
end
noncomputable def Lm:FD:=cD Tryz.f39 []
theorem Jo (qv:LV)(h:Heap)(Q:VH)(hx:xN (dU SS.P 39 (.agg ⟨qv⟩)) h fun B1 g2=>xP (af SS.P 39 (pA (h.next)) 0) fun p3=>xI .i64 (ag SS.P 3 g2 (.pointer (some p3))) fun n4=>xP (af SS.P 39 (pA (h.next)) 1) fun p5=>xI .i64 (ag SS.P 3 g2 (.pointer (some p5))) fun n6=>Q (.bool (((n4:Int) == n6))) g2):FW SS 39 [(.agg ⟨qv⟩)] h Q:=cE Lm Tryz.func39 (aj hx)
noncomputable def H9:FD:=cD Tryz.f40 []
theorem Ez (qv:LV)(h:Heap)(Q:VH)(hx:xN (dU SS.P 39 (.agg ⟨qv⟩)) h fun B1 g2=>xP (af SS.P 39 (pA (h.next)) 0) fun p3=>xI .i64 (ag SS.P 3 g2 (.pointer (some p3))) fun n4=>az (((n4:Int) != 0)) (Q (.bool true) g2) (xP (af SS.P 39 (pA (h.next)) 1) fun p5=>xI .i64 (ag SS.P 3 g2 (.pointer (some p5))) fun n6=>Q (.bool (((n6:Int) != 0))) g2)):FW SS 40 [(.agg ⟨qv⟩)] h Q:=cE H9 Tryz.func40 (aj hx)
noncomputable def K7:FD:=cD Tryz.f60 []
theorem JZ (qv:LV)(k:Nat)(h:Heap)(Q:VH)(hx:xN (dU SS.P 39 (.agg ⟨qv⟩)) h fun B1 g2=>xF (ag SS.P 44 g2 (pA k)) fun g3 a4 c5=>xA (ag SS.P 39 g2 (pA (h.next))) fun c6=>az (Nat.blt g3 YB) (FW SS g3 (a4++[(.agg ⟨c6⟩)]++c5) g2 fun v7 h8=>yB v7 fun b9=>Q (.bool (!b9)) h8) False):FW SS 60 [(.agg ⟨qv⟩),(pA k)] h Q:=cE K7 Tryz.func60 (aj hx)
noncomputable def fE:FD:=cD Tryz.f78 [([1,0,1,0,0],[0,1,7,8])]
abbrev gJ (b:OA)(m d k:Nat)(j:Nat):LV:=[(.slice b m d),(.func (.func 60) ⟨[]⟩ ⟨[(pA k)]⟩),(iA m),(iA j)]
theorem Be (b:OA)(m d k:Nat)(h:Heap)(Q:VH)(hx:LL SS fE [1,0,1,0,0] [(.slice b m d),(.func (.func 60) ⟨[]⟩ ⟨[(pA k)]⟩),(iA m),(.int .i64 0)] h (KK SS fE [1,0,1,0] [] (EE SS fE Q))):FW SS 78 [(.slice b m d),(.func (.func 60) ⟨[]⟩ ⟨[(pA k)]⟩)] h Q:=cE fE Tryz.func78 (aj hx)
theorem nH (b:OA)(m d k:Nat)  (Inv:Nat->Nat->Heap->Prop) (Q:VH) (step: ∀ (mz:Nat)(j:Nat)(zz:Nat->Value)(h:Heap),Inv mz j h->az (decide (((j:Int):Int) < (m:Int))) (xP (ah SS.P 35 (.slice b m d) (iA j)) fun p1=>xA (ag SS.P 39 h (.pointer (some p1))) fun c2=>FW SS 60 [(.agg ⟨c2⟩),(pA k)] h fun v3 h4=>yB v3 fun b5=>az b5 (Q (iA j) h4) (aF (ga (gJ b m d k) Inv) mz [(.slice b m d),(.func (.func 60) ⟨[]⟩ ⟨[(pA k)]⟩),(iA m),(.int .i64 (wrap .i64 ((j:Int)+1)))] h4)) (Q (.int .i64 (-1)) h)) (mz:Nat) {j:Nat} {h:Heap} (hi:Inv mz j h):LL SS fE [1,0,1,0,0] (gJ b m d k j) h (KK SS fE [1,0,1,0] [] (EE SS fE Q)):=
 cP (gJ b m d k) Inv (fun mz j zz h hi=>aj (step mz j zz h hi)) mz hi
noncomputable def DV:FD:=cD Tryz.f59 []
theorem BU (b:OA)(m d k:Nat)(h:Heap)(Q:VH)(hx:FW SS 78 [(.slice b m d),(.func (.func 60) ⟨[]⟩ ⟨[(pA k)]⟩)] h fun v1 h2=>yI .i64 v1 fun n3=>Q (.bool (decide ((n3:Int)>=0))) h2):FW SS 59 [(.slice b m d),(.func (.func 60) ⟨[]⟩ ⟨[(pA k)]⟩)] h Q:=cE DV Tryz.func59 (aj hx)
noncomputable def nw:FD:=cD Tryz.f38 [([1,1,0,1,0,0],[2,3,4,11,12,13])]
abbrev gN (k k2:Nat)(a:OA)(n c:Nat)(i:Nat):LV:=[(pA k),(pA k2),(.bool false),(.slice a n c),(iA n),(iA i)]
theorem Js (mv:LV)(f:Nat)(h:Heap)(Q:VH)(hx:xN (dU SS.P 24 (.agg ⟨mv⟩)) h fun B1 g2=>xN (dU SS.P 44 (.func (.func f) ⟨[]⟩ ⟨[]⟩)) g2 fun B3 g4=>xA (ag SS.P 24 g4 (pA (h.next))) fun c5=>FW SS 10 [(.agg ⟨c5⟩)] g4 fun v6 h7=>yB v6 fun b8=>az (!b8) (Q (.bool false) h7) (xP (af SS.P 24 (pA (h.next)) 3) fun p9=>xL (ag SS.P 22 h7 (.pointer (some p9))) fun a10 n11 c12=>LL SS nw [1,1,0,1,0,0] (gN (h.next) (g2.next) a10 n11 c12 0) h7 (KK SS nw [1,1,0,1,0] [] (EE SS nw Q)))):FW SS 38 [(.agg ⟨mv⟩),(.func (.func f) ⟨[]⟩ ⟨[]⟩)] h Q:=cE nw Tryz.func38 (aj hx)
theorem qP (mv:LV)(f:Nat)(k k2:Nat)(a:OA)(n c:Nat)(Inv:Nat->Nat->Heap->Prop)(Q:VH)(step: ∀ (mz:Nat) (i:Nat) (zz:Nat->Value) (h:Heap),Inv mz i h->az (decide (((i:Int):Int) < (n:Int))) (xP (ah SS.P 22 (.slice a n c) (iA i)) fun p13=>xA (ag SS.P 37 h (.pointer (some p13))) fun c14=>xN (aB SS.P 37) h fun B15 g16=>xU (ai SS.P 37 (pA (h.next)) (.agg ⟨c14⟩) g16) g16 fun u17 g18=>xP (af SS.P 37 (pA (h.next)) 1) fun p19=>xL (ag SS.P 35 g18 (.pointer (some p19))) fun a20 n21 c22=>FW SS 59 [(.slice a20 n21 c22),(.func (.func 60) ⟨[]⟩ ⟨[(pA k2)]⟩)] g18 fun v23 h24=>yB v23 fun b25=>az b25 (Q (.bool false) h24) (aF (ga (gN k k2 a n c) Inv) mz [(pA k),(pA k2),(.bool false),(.slice a n c),(iA n),(.int .i64 (wrap .i64 ((i:Int)+1)))] h24)) (Q (.bool true) h))(mz:Nat){i:Nat}{h:Heap}(hi:Inv mz i h):LL SS nw [1,1,0,1,0,0] (gN k k2 a n c i) h (KK SS nw [1,1,0,1,0] [] (EE SS nw Q)):=
 cP (gN k k2 a n c) Inv (fun mz i zz h hi=>aj (step mz i zz h hi)) mz hi
noncomputable def Lr:FD:=cD Tryz.f12 []
theorem Jh (mv:LV)(h:Heap)(Q:VH)(hx:xN (dU SS.P 24 (.agg ⟨mv⟩)) h fun B1 g2=>xA (ag SS.P 24 g2 (pA (h.next))) fun c3=>FW SS 38 [(.agg ⟨c3⟩),(.func (.func 39) ⟨[]⟩ ⟨[]⟩)] g2 fun v4 h5=>yB v4 fun b6=>Q (.bool b6) h5):FW SS 12 [(.agg ⟨mv⟩)] h Q:=cE Lr Tryz.func12 (aj hx)
noncomputable def FZ:FD:=cD Tryz.f14 []
theorem Dp (mv:LV)(h:Heap)(Q:VH)(hx:xN (dU SS.P 24 (.agg ⟨mv⟩)) h fun B1 g2=>xA (ag SS.P 24 g2 (pA (h.next))) fun c3=>FW SS 38 [(.agg ⟨c3⟩),(.func (.func 40) ⟨[]⟩ ⟨[]⟩)] g2 fun v4 h5=>yB v4 fun b6=>Q (.bool b6) h5):FW SS 14 [(.agg ⟨mv⟩)] h Q:=cE FZ Tryz.func14 (aj hx)
noncomputable def ck:FD:=cD Tryz.f20 [([1,1,0,1,0,0],[1,2,11,12,13]),([1,1,0,1,0,0,1,1,0,0,1,1,0,0],[1,2,4,11,12,13,18,19,20])]
abbrev dp (k:Nat)(a:OA)(n c:Nat)(i:Nat)(g:Int):LV:=[(pA k),(.int .i64 g),(.slice a n c),(iA n),(iA i)]
abbrev fu (k:Nat)(a:OA)(n c k2:Nat)(b:OA)(m d i:Nat)(j:Nat)(g:Int):LV:=[(pA k),(.int .i64 g),(pA k2),(.slice a n c),(iA n),(iA i),(.slice b m d),(iA m),(iA j)]
theorem DK (mv:LV)(h:Heap)(Q:VH)(hx:xN (dU SS.P 24 (.agg ⟨mv⟩)) h fun B1 g2=>xA (ag SS.P 24 g2 (pA (h.next))) fun c3=>FW SS 10 [(.agg ⟨c3⟩)] g2 fun v4 h5=>yB v4 fun b6=>az (!b6) (Q (.int .i64 0) h5) (xP (af SS.P 24 (pA (h.next)) 3) fun p7=>xL (ag SS.P 22 h5 (.pointer (some p7))) fun a8 n9 c10=>LL SS ck [1,1,0,1,0,0] (dp (h.next) a8 n9 c10 0 0) h5 (KK SS ck [1,1,0,1,0] [] (EE SS ck Q)))):FW SS 20 [(.agg ⟨mv⟩)] h Q:=cE ck Tryz.func20 (aj hx)
theorem pi (mv:LV)(k:Nat)(a:OA)(n c:Nat)(Inv:Nat->Nat->Int->Heap->Prop)(Q:VH)(step: ∀ (mz:Nat) (i:Nat) (g:Int) (zz:Nat->Value) (h:Heap),Inv mz i g h->az (decide (((i:Int):Int) < (n:Int))) (xP (ah SS.P 22 (.slice a n c) (iA i)) fun p11=>xA (ag SS.P 37 h (.pointer (some p11))) fun c12=>xN (aB SS.P 37) h fun B13 g14=>xU (ai SS.P 37 (pA (h.next)) (.agg ⟨c12⟩) g14) g14 fun u15 g16=>xP (af SS.P 37 (pA (h.next)) 1) fun p17=>xL (ag SS.P 35 g16 (.pointer (some p17))) fun a18 n19 c20=>LL SS ck [1,1,0,1,0,0,1,1,0,0,1,1,0,0] (fu k a n c (h.next) a18 n19 c20 i 0 g) g16 (KK SS ck [1,1,0,0,1,1,0] [1,1,0,1,0,0] (RR ck [1,1,0,1,0,0] (sZ (dp k a n c) Inv) mz (KK SS ck [1,1,0,1,0] [] (EE SS ck Q))))) (Q (.int .i64 g) h))(mz:Nat){i:Nat}{g:Int}{h:Heap}(hi:Inv mz i g h):LL SS ck [1,1,0,1,0,0] (dp k a n c i g) h (KK SS ck [1,1,0,1,0] [] (EE SS ck Q)):=
 mT (dp k a n c) Inv (fun mz i g zz h hi=>aj (step mz i g zz h hi)) mz hi
theorem nM (mv:LV)(k:Nat)(a:OA)(n c k2:Nat)(b:OA)(m d:Nat)(Inv:Nat->Nat->Int->Heap->Prop)(mz i:Nat)(Inv2:Nat->Nat->Int->Heap->Prop)(Q:VH)(step: ∀ (mz2:Nat) (j:Nat) (g:Int) (zz:Nat->Value) (h:Heap),Inv2 mz2 j g h->az (decide (((j:Int):Int) < (m:Int))) (xP (ah SS.P 35 (.slice b m d) (iA j)) fun p21=>xA (ag SS.P 39 h (.pointer (some p21))) fun c22=>xN (aB SS.P 39) h fun B23 g24=>xU (ai SS.P 39 (pA (h.next)) (.agg ⟨c22⟩) g24) g24 fun u25 g26=>xP (af SS.P 39 (pA (h.next)) 0) fun p27=>xI .i64 (ag SS.P 3 g26 (.pointer (some p27))) fun n28=>xP (af SS.P 39 (pA (h.next)) 1) fun p29=>xI .i64 (ag SS.P 3 g26 (.pointer (some p29))) fun n30=>xI .i64 (je true [(.int .i64 g),(.int .i64 n28),(.int .i64 n30)]) fun n31=>aF (sZ (fu k a n c k2 b m d i) Inv2) mz2 [(pA k),(.int .i64 n31),(pA k2),(.slice a n c),(iA n),(iA i),(.slice b m d),(iA m),(.int .i64 (wrap .i64 ((j:Int)+1)))] g26) (aF (sZ (dp k a n c) Inv) mz [(pA k),(.int .i64 g),(.slice a n c),(iA n),(.int .i64 (wrap .i64 ((i:Int)+1)))] h))(mz2:Nat){j:Nat}{g:Int}{h:Heap}(hi:Inv2 mz2 j g h):LL SS ck [1,1,0,1,0,0,1,1,0,0,1,1,0,0] (fu k a n c k2 b m d i j g) h (KK SS ck [1,1,0,0,1,1,0] [1,1,0,1,0,0] (RR ck [1,1,0,1,0,0] (sZ (dp k a n c) Inv) mz (KK SS ck [1,1,0,1,0] [] (EE SS ck Q)))):=
 mT (fu k a n c k2 b m d i) Inv2 (fun mz2 j g zz h hi=>aj (step mz2 j g zz h hi)) mz2 hi
section
def Ec (t:MArc->Bool)(l:List MSt):Bool:=l.all fun s=>s.arcs.all t
def MQ (q:MArc):Bool:=q.i == q.o
def vY (q:MArc):Bool:=q.i != 0 || q.o != 0
def Bo (f:Nat)(t:MArc->Bool):Prop:= ∀ (q:MArc)(g:Heap),Wf g->FW SS f [.agg ⟨aI q⟩] g (fun v g'=>v = .bool (t q)/\Ok g g')
def Bq (q:MArc):Blk:= .cells (aI q) 39 0 true
theorem xk (q:MArc):dU SS.P 39 (.agg ⟨aI q⟩)=some (Bq q,gk):=by kernel_rfl
theorem Jd:Bo 39 MQ:=fun q g w=>by
 have b:AB (g.push (Bq q)) g.next q:=aq g _;exact Jo _ g _ ⟨_,xk q,_,np _ _,_,b.l0,_,px _ _,_,b.l1,rfl,(Ok.refl w).push _⟩
theorem Dw:Bo 40 vY:=fun q g w=>by
 have b:AB (g.push (Bq q)) g.next q:=aq g _;refine Ez _ g _ ⟨_,xk q,_,np _ _,_,b.l0,ae (fun t=>⟨?_,(Ok.refl w).push _⟩) (fun t=>⟨_,px _ _,_,b.l1,?_,(Ok.refl w).push _⟩)⟩
 ·unfold vY; rw [t]; rfl
 ·unfold vY; rw [t]; rfl
noncomputable def Ml:TypeDesc:=(SS.P.underlying 44).getD .bool
theorem N2:SS.P.underlying 44=some Ml:=by kernel_rfl
theorem NB:Go.Ab.isAgg SS.P 44=false:=by kernel_rfl
def FnB (g:Heap)(k f:Nat):Prop:=g.get k=some (.cells [tE f] 44 0 true)
theorem FnB.ok {g g':Heap}{k f:Nat}(x:FnB g k f)(o:Ok g g'):FnB g' k f:=o.ext _ _ x
section
variable {f:Nat} {t:MArc->Bool} (hf:Nat.blt f YB=true) (ht:Bo f t)
include hf ht
theorem IW (q:MArc){k:Nat}{g:Heap}(w:Wf g)(b:FnB g k f):FW SS 60 [.agg ⟨aI q⟩,.pointer (some ⟨k,0,none⟩)] g (fun v g'=>v = .bool (!t q)/\Ok g g'):=by
 have o:=(Ok.refl w).push (Bq q);have hk:=aq g (Bq q);refine JZ _ k g _ ⟨_,xk q,f,[],[],cM N2 NB (b.ok o) (by simp),_,ft G0 F9 rI hk (by simp [aI]),?_⟩;refine uw (K:=fun v g'=>(match v with | .bool x=>Value.bool (!x) = .bool (!t q) | _=>False)/\Ok g g') hf ((ht q _ o.wf).mono ?_);rintro _ g2 ⟨rfl,o2⟩;exact ⟨_,rfl,rfl,o.trans o2⟩
theorem AP {k:Nat}{g:Heap}(w:Wf g)(bx:FnB g k f){b:Option Addr}{m d:Nat}{l:List MArc}(ar:ArcRow g (.slice b m d) l)(hl:l.length<=2000):
  FW SS 78 [.slice b m d,.func (.func 60) ⟨[]⟩ ⟨[.pointer (some ⟨k,0,none⟩)]⟩] g (fun v g'=> ∃ n:Int,v = .int .i64 n/\decide (n>=0)=(!l.all t)/\Ok g g'):=by
 have hm:=ar.len;refine Be b m d k g _ (nH b m d k (fun mz j g'=>j<=m/\mz=m - j/\Ok g g'/\(l.drop j).all t=l.all t) _ (fun mz j=> ?_) m (j:=0) ⟨by omega,rfl,Ok.refl w,rfl⟩);intros; rename_i g' hi;obtain ⟨h1,h2,ok,h3⟩:=hi;refine ae (fun q1=> ?_) (fun q1=> ?_)
 ·have q1:=dT q1;obtain ⟨q,hq⟩: ∃ q,l[j]?=some q:=⟨_,gE (by omega)⟩
  obtain ⟨bb,o,e1,e2,e3⟩:=(ar.ok ok).at_ hq;rw [dP hq,all_cons] at h3;refine ⟨_,e1,_,e2,(IW hf ht q ok.wf (bx.ok ok)).mono ?_⟩;rintro _ g2 ⟨rfl,o2⟩;refine ⟨_,rfl,ae (fun t1=>⟨_,rfl,?_,ok.trans o2⟩) (fun t1=> ?_)⟩
  ·rw [not_eq_true'] at t1;rw [<-h3,t1]; simp
  ·rw [not_eq_false'] at t1;rw [t1,Bool.true_and] at h3;rw [aG (i:=j) (n:=m) (by omega) (by omega)];exact cA (mz - 1) (by omega) ⟨by omega,by omega,ok.trans o2,h3⟩
 ·have q1:=dF q1;refine ⟨_,rfl,?_,ok⟩;rw [drop_eq_nil_of_le (by omega)] at h3;rw [<-h3]; rfl
theorem Al {k:Nat}{g:Heap}(w:Wf g)(bx:FnB g k f){b:Option Addr}{m d:Nat}{l:List MArc}(ar:ArcRow g (.slice b m d) l)(hl:l.length<=2000):
  FW SS 59 [.slice b m d,.func (.func 60) ⟨[]⟩ ⟨[.pointer (some ⟨k,0,none⟩)]⟩] g (fun v g'=>v = .bool (!l.all t)/\Ok g g'):=by
 refine BU b m d k g _ ((AP hf ht w bx ar hl).mono ?_);rintro _ g2 ⟨n,rfl,h1,o⟩;exact ⟨_,rfl,by rw [h1],o⟩
theorem Cy {h:Heap}(tb:Tab h)(w:Wf h){M:Mach}(sm:Small M){a:Option Addr}{n c:Nat}(r:StRow h (.slice a n c) M.states):FW SS 38 [.agg ⟨aA M a n c⟩,tE f] h (fun v h'=>v = .bool (aL M && Ec t M.states)/\Ok h h'):=by
 obtain ⟨mb0,ok0⟩:=dM w r;refine Js (aA M a n c) f h _ ⟨_,fo M a n c,.cells [tE f] 44 0 true,by kernel_rfl,?_⟩;generalize h.push (Bm M a n c)=g0 at *;have o1:=(Ok.refl ok0.wf).push (.cells [tE f] 44 0 true);have bx:FnB (g0.push (.cells [tE f] 44 0 true)) g0.next f:=aq g0 _;have mb:=mb0.ok o1;have ok:=ok0.trans o1;generalize g0.push (.cells [tE f] 44 0 true)=g at *;refine ⟨_,mb.all,(fc (tb.ok ok) ok.wf sm mb.row).mono ?_⟩;rintro _ g2 ⟨rfl,o2⟩;have ok2:=ok.trans o2;have mb2:=mb.ok o2;have bx2:=bx.ok o2;have hn:n<=300:=by rw [mb.len]; exact sm.sts
 refine ⟨_,rfl,ae (fun q=>⟨?_,ok2⟩) (fun q=> ?_)⟩
 ·rw [not_eq_true'] at q;rw [q]; rfl
 rw [not_eq_false'] at q;rw [q,Bool.true_and];refine ⟨_,bn _,_,_,_,mb2.l3,?_⟩;obtain ⟨V,hV⟩: ∃ V,V=Ec t M.states:=⟨_,rfl⟩
 rw [<-hV];refine qP (aA M a n c) f h.next g0.next a n c (fun mz i g'=>i<=n/\mz=n - i/\MB g' h.next M a n c/\FnB g' g0.next f/\Ok h g'/\Ec t (M.states.drop i)=V) (bQ h V) (fun mz i=> ?_) n (i:=0) ⟨by omega,rfl,mb2,bx2,ok2,hV.symm⟩;intros; rename_i gg hi;obtain ⟨f1,f2,mb3,bx3,ok3,f5⟩:=hi;have hl:=mb3.len;refine ae (fun q1=> ?_) (fun q1=> ?_)
 ·have q1:=dT q1;obtain ⟨s,hs⟩: ∃ s,M.states[i]?=some s:=⟨_,gE (by omega)⟩
  obtain ⟨b,o,x,y,z,e1,e2,e3,e4,ar⟩:=mb3.row.at_ hs;obtain ⟨l1,l2,l3⟩:=hG sm hs;rw [dP hs] at f5;unfold Ec at f5;rw [all_cons] at f5;obtain ⟨u,p1,p2,p3⟩:=qx ok3.wf s.f x y z;refine ⟨_,e1,_,e2,_,tJ,u,p1,_,cw _ _,_,_,_,p3.l1,?_⟩;have okg:=ok3.trans p2;refine (Al hf ht okg.wf (bx3.ok p2) (ar.ok p2) l1).mono ?_;rintro _ g4 ⟨rfl,o4⟩;refine ⟨_,rfl,ae (fun q2=>⟨?_,okg.trans o4⟩) (fun q2=> ?_)⟩
  ·rw [not_eq_true'] at q2;rw [<-f5,q2]; rfl
  ·rw [not_eq_false'] at q2;rw [q2,Bool.true_and] at f5;rw [aG (i:=i) (n:=n) (by omega) (by omega)];exact cA (mz - 1) (by omega) ⟨by omega,by omega,(mb3.ok p2).ok o4,(bx3.ok p2).ok o4,okg.trans o4,f5⟩
 ·have q1:=dF q1;refine ⟨?_,ok3⟩;rw [drop_eq_nil_of_le (by omega)] at f5;rw [<-f5]; rfl
end
def Mk (M:Mach):Bool:=aL M && Ec MQ M.states
def Gk (M:Mach):Bool:=aL M && Ec vY M.states
theorem Kk {h:Heap}(tb:Tab h)(w:Wf h){M:Mach}(sm:Small M){a:Option Addr}{n c:Nat}(r:StRow h (.slice a n c) M.states):FW SS 12 [.agg ⟨aA M a n c⟩] h (fun v h'=>v = .bool (Mk M)/\Ok h h'):=by
 obtain ⟨mb,ok⟩:=dM w r;refine Jh _ h _ ⟨_,fo M a n c,_,mb.all,(Cy (by decide +kernel) Jd (tb.ok ok) ok.wf sm mb.row).mono ?_⟩;rintro _ g ⟨rfl,o⟩;exact ⟨_,rfl,rfl,ok.trans o⟩
theorem DT {h:Heap}(tb:Tab h)(w:Wf h){M:Mach}(sm:Small M){a:Option Addr}{n c:Nat}(r:StRow h (.slice a n c) M.states):FW SS 14 [.agg ⟨aA M a n c⟩] h (fun v h'=>v = .bool (Gk M)/\Ok h h'):=by
 obtain ⟨mb,ok⟩:=dM w r;refine Dp _ h _ ⟨_,fo M a n c,_,mb.all,(Cy (by decide +kernel) Dw (tb.ok ok) ok.wf sm mb.row).mono ?_⟩;rintro _ g ⟨rfl,o⟩;exact ⟨_,rfl,rfl,ok.trans o⟩
end
section
def My (a b:Int):Int:=if b > a then b else a
theorem MY (a b c:Int):je true [.int .i64 a,.int .i64 b,.int .i64 c]=some (.int .i64 (My (My a b) c)):=by simp [je,My]
def OB (g:Int)(l:List MArc):Int:=l.foldl (fun g q=>My (My g q.i) q.o) g
def Nq (g:Int)(l:List MSt):Int:=l.foldl (fun g s=>OB g s.arcs) g
def sP (M:Mach):Int:=if aL M then Nq 0 M.states else 0
section
variable {h:Heap} {k:Nat} {M:Mach} {a:Option Addr} {n c:Nat}
def iQ (h:Heap)(V:Int):VH:=fun v h'=>v = .int .i64 V/\Ok h h'
def Mr (h:Heap)(k:Nat)(M:Mach)(a:Option Addr)(n c:Nat)(V:Int)(mz i:Nat)(x:Int)(g:Heap):Prop:=i<=n/\mz=n - i/\MB g k M a n c/\Ok h g/\Nq x (M.states.drop i)=V
def OQ (h:Heap)(k:Nat)(M:Mach)(a:Option Addr)(n c:Nat)(s:MSt)(i:Nat)(V:Int)(mz2 j:Nat)(x:Int)(g:Heap):Prop:=j<=s.arcs.length/\mz2=s.arcs.length - j/\MB g k M a n c/\Ok h g/\Nq (OB x (s.arcs.drop j)) (M.states.drop (i+1))=V
set_option linter.defProp false in
def GF (w:Wf h)(sm:Small M)(V:Int){s:MSt}{b:Option Addr}{m d i k2:Nat}(hs:M.states[i]?=some s)(hi:i < n)(mv:List Value)(mz:Nat)(hmz:mz=n - i):=
 nM mv k a n c k2 b m d (Mr h k M a n c V) mz i (fun mz2 j x g=>OQ h k M a n c s i V mz2 j x g/\ArcRow g (.slice b m d) s.arcs) (iQ h V) (by
  intro mz2 j x; intros; rename_i g hin;obtain ⟨⟨f1,f2,mb,ok,hv⟩,ar⟩:=hin;have hn:n<=300:=by rw [mb.len]; exact sm.sts
  obtain ⟨l1,l2,l3⟩:=hG sm hs;have hm:=ar.len;refine ae (fun g1=> ?_) (fun g1=> ?_)
  ·have g1:=dT g1;obtain ⟨q,hq⟩: ∃ q,s.arcs[j]?=some q:=⟨_,gE (by omega)⟩
   obtain ⟨bb,o,e1,e2,e3⟩:=ar.at_ hq;rw [dP hq] at hv;obtain ⟨u,p1,p2,p3⟩:=qH ok.wf q;refine ⟨_,e1,_,e2,_,zJ,u,p1,_,np _ _,_,p3.l0,_,px _ _,_,p3.l1,_,MY _ _ _,?_⟩;rw [aG (i:=j) (n:=m) (by omega) (by omega)];exact iC (mz2 - 1) (by omega) ⟨⟨by omega,by omega,mb.ok p2,ok.trans p2,hv⟩,ar.ok p2⟩
  ·have g1:=dF g1;rw [drop_eq_nil_of_le (by omega)] at hv;rw [aG hi (by omega)];exact iC (n - (i+1)) (by omega) ⟨by omega,rfl,mb,ok,hv⟩)
theorem Ei {h:Heap}(tb:Tab h)(w:Wf h){M:Mach}(sm:Small M){a:Option Addr}{n c:Nat}(r:StRow h (.slice a n c) M.states):FW SS 20 [.agg ⟨aA M a n c⟩] h (fun v h'=>v = .int .i64 (sP M)/\Ok h h'):=by
 obtain ⟨mb,ok⟩:=dM w r;refine DK (aA M a n c) h _ ⟨_,fo M a n c,_,mb.all,(fc (tb.ok ok) ok.wf sm mb.row).mono ?_⟩;generalize h.push (Bm M a n c)=g at *;rintro _ g2 ⟨rfl,o2⟩;have ok2:=ok.trans o2;have mb2:=mb.ok o2;have hn:n<=300:=by rw [mb.len]; exact sm.sts
 refine ⟨_,rfl,ae (fun q=>⟨?_,ok2⟩) (fun q=> ?_)⟩
 ·rw [not_eq_true'] at q;unfold sP; rw [q]; rfl
 rw [not_eq_false'] at q;obtain ⟨V,hV⟩: ∃ V,V=Nq 0 M.states:=⟨_,rfl⟩
 have:sP M=V:=by unfold sP; rw [if_pos q,hV]
 rw [this];refine ⟨_,bn _,_,_,_,mb2.l3,?_⟩;refine pi (aA M a n c) h.next a n c (Mr h h.next M a n c V) (iQ h V) (fun mz i x=> ?_) n (i:=0) (g:=0) ⟨by omega,rfl,mb2,ok2,hV.symm⟩;intros; rename_i gg hi;obtain ⟨f1,f2,mb3,ok3,f5⟩:=hi;have hl:=mb3.len;refine ae (fun q1=> ?_) (fun q1=> ?_)
 ·have q1:=dT q1;obtain ⟨s,hs⟩: ∃ s,M.states[i]?=some s:=⟨_,gE (by omega)⟩
  obtain ⟨b,o,x',y,z,e1,e2,e3,e4,ar⟩:=mb3.row.at_ hs;obtain ⟨l1,l2,l3⟩:=hG sm hs;rw [dP hs] at f5;obtain ⟨u,p1,p2,p3⟩:=qx ok3.wf s.f x' y z;refine ⟨_,e1,_,e2,_,tJ,u,p1,_,cw _ _,_,_,_,p3.l1,?_⟩;have hy:=ar.len;exact GF w sm V hs (by omega) [] mz f2 y (j:=0) (g:=x) ⟨⟨by omega,by omega,mb3.ok p2,ok3.trans p2,by rw [drop_zero]; exact f5⟩,ar.ok p2⟩
 ·have q1:=dF q1;rw [drop_eq_nil_of_le (by omega)] at f5;exact ⟨by rw [<-f5]; rfl,ok3⟩
end
end
section
theorem fG (s:MSt)(l:List MSt):eO (s::l)=s.arcs.length+eO l:=by simp [eO]
theorem yU {s:MSt}: ∀ {l:List MSt},s∈l->s.arcs.length<=eO l
 | x::l,h=>by
  rw [fG];rcases mem_cons.1 h with rfl | h
  ·omega
  ·have:=yU h; omega
theorem CF {B:Nat}: ∀ {l:List MSt},(∀ s∈l,s.arcs.length<=B)->eO l<=l.length*B
 | [],_=>by simp [eO]
 | x::l,h=>by
  rw [fG,length_cons,add_mul,one_mul];have h1:=h x (mem_cons_self ..);have h2:=CF (l:=l) fun s hs=>h s (mem_cons_of_mem _ hs);omega
def Np (M:Mach):Prop:= ∀ s∈M.states,s.arcs.length<=281474976710656
section
variable {h:Heap} {k:Nat} {M:Mach} {a:Option Addr} {n c:Nat}
theorem Hu (w:Wf h)(bd:Np M)(hst:M.states.length<=300)(r:StRow h (.slice a n c) M.states):FW SS 33 [.agg ⟨aA M a n c⟩] h (fun v h'=>v = .int .i64 (eO M.states:Nat)/\Ok h h'):=by
 obtain ⟨mb,ok⟩:=dM w r;refine Ij (aA M a n c) h _ ⟨_,fo M a n c,?_⟩;generalize h.push (Bm M a n c)=g at *;have hl:=mb.len;have hB:=CF bd;have hB2:M.states.length*281474976710656<=300*281474976710656:=mul_le_mul_right _ hst;have hS:eO M.states<=300*281474976710656:=le_trans hB hB2;refine pB (aA M a n c) h.next (fun mz i acc g'=>i<=n/\mz=n - i/\MB g' h.next M a n c/\Ok h g'/\ ∃ ac:Nat,acc=(ac:Int)/\ac+eO (M.states.drop i)=eO M.states) (iQ h (eO M.states:Nat)) (fun mz i acc=> ?_) n (i:=0) (acc:=0) ⟨by omega,rfl,mb,ok,0,rfl,by rw [drop_zero]; omega⟩;intros; rename_i gg hi;obtain ⟨f1,f2,mb3,ok3,ac,rfl,f5⟩:=hi;refine ⟨_,bn _,_,_,_,mb3.l3,ae (fun q1=> ?_) (fun q1=> ?_)⟩
 ·have q1:=dT q1;obtain ⟨s,hs⟩: ∃ s,M.states[i]?=some s:=⟨_,gE (by omega)⟩
  obtain ⟨b,o,x',y,z,e1,e2,e3,e4,ar⟩:=mb3.row.at_ hs;have hy:=ar.len;rw [dP hs,fG] at f5;refine ⟨_,bn _,_,_,_,mb3.l3,_,e1,_,cw _ _,_,_,_,e4,?_⟩;have hw:wrap .i64 ((ac:Int)+(y:Int))=((ac+y:Nat):Int):=by rw [ax (by omega) (by omega)]; omega
  dsimp only;rw [hw,aG (i:=i) (n:=n) (by omega) (by omega)];exact iC (mz - 1) (by omega) ⟨by omega,by omega,mb3,ok3,_,rfl,by omega⟩
 ·have q1:=dF q1;rw [drop_eq_nil_of_le (by omega)] at f5;refine ⟨?_,ok3⟩;rw [show eO []=0 from rfl,Nat.add_zero] at f5;rw [f5]
def OD (M:Mach)(i:Nat):Prop:= ∀ i' s,i' < i->M.states[i']?=some s->s.f.length<=900/\ ∀ q∈s.arcs,q.w.length<=900
def lQ (h:Heap)(M:Mach):VH:=fun v h'=> ∃ b:Bool,v = .bool b/\(b=false->Small M)/\Ok h h'
def MU (h:Heap)(k:Nat)(M:Mach)(a:Option Addr)(n c:Nat)(mz i:Nat)(g:Heap):Prop:=i<=n/\mz=n - i/\MB g k M a n c/\Ok h g/\OD M i
def OY (h:Heap)(k:Nat)(M:Mach)(a:Option Addr)(n c:Nat)(s:MSt)(i:Nat)(mz2 j:Nat)(g:Heap):Prop:=j<=s.arcs.length/\mz2=s.arcs.length - j/\MB g k M a n c/\Ok h g/\OD M i/\s.f.length<=900/\ ∀ j' q,j' < j->s.arcs[j']?=some q->q.w.length<=900
set_option linter.defProp false in
def Ka (w:Wf h)(hn:n<=300){s:MSt}{i:Nat}(hs:M.states[i]?=some s)(hsl:s.arcs.length<=2000)(hi:i < n)(mv:List Value)(mz:Nat)(hmz:mz=n - i):=
 pu mv k (MU h k M a n c) mz i (OY h k M a n c s i) (lQ h M) (by
  intro mz2 j; intros; rename_i g hin;obtain ⟨f1,f2,mb,ok,hv,hf,hw⟩:=hin;obtain ⟨b,o,x',y,z,e1,e2,e3,e4,ar⟩:=mb.row.at_ hs;have hm:=ar.len;refine ⟨_,bn _,_,_,_,mb.l3,_,e1,_,cw _ _,_,_,_,e4,ae (fun g1=> ?_) (fun g1=> ?_)⟩
  ·have g1:=dT g1;obtain ⟨q,hq⟩: ∃ q,s.arcs[j]?=some q:=⟨_,gE (by omega)⟩
   obtain ⟨bb,oo,d1,d2,d3,d4,d5,d6⟩:=ar.at_ hq;refine ⟨_,bn _,_,_,_,mb.l3,_,e1,_,cw _ _,_,_,_,e4,_,d1,_,vX _ _,_,d5,ae (fun g2=>⟨_,rfl,(fun e=>by cases e),ok⟩) (fun g2=> ?_)⟩;have g2:=dF g2;rw [aG (i:=j) (n:=s.arcs.length) (by omega) (by omega)];refine cA (mz2 - 1) (by omega) ⟨by omega,by omega,mb,ok,hv,hf,fun j' q' hj hq'=> ?_⟩;rcases lt_or_ge j' j with hj2 | hj2
   ·exact hw j' q' hj2 hq'
   ·obtain rfl:j'=j:=by omega
    rw [hq] at hq';obtain rfl:=oI hq';omega
  ·have g1:=dF g1;rw [aG hi (by omega)];refine cA (n - (i+1)) (by omega) ⟨by omega,rfl,mb,ok,fun i' s' hi' hs'=> ?_⟩;rcases lt_or_ge i' i with hj2 | hj2
   ·exact hv i' s' hj2 hs'
   ·obtain rfl:i'=i:=by omega
    rw [hs] at hs';obtain rfl:=oI hs';refine ⟨hf,fun q hq=> ?_⟩;obtain ⟨j',hj',rfl⟩:=List.mem_iff_getElem.1 hq;exact hw j' _ (by omega) (gE hj'))
theorem FQ (w:Wf h)(bd:Np M)(r:StRow h (.slice a n c) M.states):FW SS 8 [.agg ⟨aA M a n c⟩] h (lQ h M):=by
 obtain ⟨mb,ok⟩:=dM w r;refine Gw (aA M a n c) h _ ⟨_,fo M a n c,?_⟩;generalize h.push (Bm M a n c)=g at *;have hl:=mb.len;refine ⟨_,bn _,_,_,_,mb.l3,ae (fun q1=>⟨_,rfl,(fun e=>by cases e),ok⟩) (fun q1=> ?_)⟩;have q1:=dF q1;refine ⟨_,mb.all,(Hu ok.wf bd (by omega) mb.row).mono ?_⟩;rintro _ g2 ⟨rfl,o2⟩;have ok2:=ok.trans o2;have mb2:=mb.ok o2;refine ⟨_,rfl,ae (fun q2=>⟨_,rfl,(fun e=>by cases e),ok2⟩) (fun q2=> ?_)⟩;have q2:=dF q2;refine ⟨_,jM _,_,mb2.l2,ae (fun q3=>⟨_,rfl,(fun e=>by cases e),ok2⟩) (fun q3=> ?_)⟩;have q3:=dF q3;have hS: ∀ s∈M.states,s.arcs.length<=2000:=fun s hs=>by have:=yU hs; omega
 refine pz (aA M a n c) h.next (MU h h.next M a n c) (lQ h M) (fun mz i=> ?_) n (i:=0) ⟨by omega,rfl,mb2,ok2,fun i' s hi=>by omega⟩;intros; rename_i gg hi;obtain ⟨f1,f2,mb3,ok3,f5⟩:=hi;refine ⟨_,bn _,_,_,_,mb3.l3,ae (fun t1=> ?_) (fun t1=> ?_)⟩
 ·have t1:=dT t1;obtain ⟨s,hs⟩: ∃ s,M.states[i]?=some s:=⟨_,gE (by omega)⟩
  obtain ⟨b,o,x',y,z,e1,e2,e3,e4,ar⟩:=mb3.row.at_ hs;refine ⟨_,bn _,_,_,_,mb3.l3,_,e1,_,gG _ _,_,e3,ae (fun t2=>⟨_,rfl,(fun e=>by cases e),ok3⟩) (fun t2=> ?_)⟩;have t2:=dF t2;exact Ka w (by omega) hs (hS s (List.mem_of_getElem? hs)) (by omega) [] mz f2 s.arcs.length (j:=0) ⟨by omega,by omega,mb3,ok3,f5,by omega,fun j' q hj=>by omega⟩
 ·have t1:=dF t1;have hget: ∀ s∈M.states,s.f.length<=900/\ ∀ q∈s.arcs,q.w.length<=900:=fun s hs=>by
   obtain ⟨i',hi',rfl⟩:=List.mem_iff_getElem.1 hs;exact f5 i' _ (by omega) (gE hi')
  exact ⟨_,rfl,fun _=>⟨by omega,by omega,fun s hs=>(hget s hs).1,hS,fun s hs=>(hget s hs).2,by omega⟩,ok3⟩
end
end
noncomputable def ef:FD:=cD Tryz.f16 [([1,1,0,1,0,0],[1,2,17,18,19]),([1,1,0,1,0,0,1,1,0,0,1,1,0,1,0,0],[1,2,4,5,17,18,19,25,26,27])]
abbrev eK (k:Nat)(a:OA)(n c:Nat)(i:Nat):LV:=[(pA k),(.bool false),(.slice a n c),(iA n),(iA i)]
abbrev il (k:Nat)(a:OA)(n c k2 k3:Nat)(b:OA)(m d i:Nat)(j:Nat):LV:=[(pA k),(.bool false),(pA k2),(.map (some k3)),(.slice a n c),(iA n),(iA i),(.slice b m d),(iA m),(iA j)]
theorem JX (mv:LV)(h:Heap)(Q:VH)(hx:xN (dU SS.P 24 (.agg ⟨mv⟩)) h fun B1 g2=>xA (ag SS.P 24 g2 (pA (h.next))) fun c3=>FW SS 12 [(.agg ⟨c3⟩)] g2 fun v4 h5=>yB v4 fun b6=>az (!b6) (Q (.bool false) h5) (xA (ag SS.P 24 h5 (pA (h.next))) fun c7=>FW SS 14 [(.agg ⟨c7⟩)] h5 fun v8 h9=>yB v8 fun b10=>az (!b10) (Q (.bool false) h9) (xP (af SS.P 24 (pA (h.next)) 3) fun p11=>xL (ag SS.P 22 h9 (.pointer (some p11))) fun a12 n13 c14=>LL SS ef [1,1,0,1,0,0] (eK (h.next) a12 n13 c14 0) h9 (KK SS ef [1,1,0,1,0] [] (EE SS ef Q))))):FW SS 16 [(.agg ⟨mv⟩)] h Q:=cE ef Tryz.func16 (aj hx)
theorem qX (mv:LV)(k:Nat)(a:OA)(n c:Nat)(Inv:Nat->Nat->Heap->Prop)(Q:VH)(step: ∀ (mz:Nat) (i:Nat) (zz:Nat->Value) (h:Heap),Inv mz i h->az (decide (((i:Int):Int) < (n:Int))) (xP (ah SS.P 22 (.slice a n c) (iA i)) fun p15=>xA (ag SS.P 37 h (.pointer (some p15))) fun c16=>xN (aB SS.P 37) h fun B17 g18=>xU (ai SS.P 37 (pA (h.next)) (.agg ⟨c16⟩) g18) g18 fun u19 g20=> ∃ B21:Blk,oJ SS.P 45=some (B21,fun k=> .map (some k))/\xP (af SS.P 37 (pA (h.next)) 1) fun p22=>xL (ag SS.P 35 (g20.push B21) (.pointer (some p22))) fun a23 n24 c25=>LL SS ef [1,1,0,1,0,0,1,1,0,0,1,1,0,1,0,0] (il k a n c (h.next) (g20.next) a23 n24 c25 i 0) (g20.push B21) (KK SS ef [1,1,0,0,1,1,0,1,0] [1,1,0,1,0,0] (RR ef [1,1,0,1,0,0] (ga (eK k a n c) Inv) mz (KK SS ef [1,1,0,1,0] [] (EE SS ef Q))))) (Q (.bool true) h))(mz:Nat){i:Nat}{h:Heap}(hi:Inv mz i h):LL SS ef [1,1,0,1,0,0] (eK k a n c i) h (KK SS ef [1,1,0,1,0] [] (EE SS ef Q)):=
 cP (eK k a n c) Inv (fun mz i zz h hi=>aj (step mz i zz h hi)) mz hi
theorem qV (mv:LV)(k:Nat)(a:OA)(n c k2 k3:Nat)(b:OA)(m d:Nat)(Inv:Nat->Nat->Heap->Prop)(mz i:Nat)(Inv2:Nat->Nat->Heap->Prop)(Q:VH)(step: ∀ (mz2:Nat) (j:Nat) (zz:Nat->Value) (h:Heap),Inv2 mz2 j h->az (decide (((j:Int):Int) < (m:Int))) (xP (ah SS.P 35 (.slice b m d) (iA j)) fun p26=>xA (ag SS.P 39 h (.pointer (some p26))) fun c27=>xN (aB SS.P 39) h fun B28 g29=>xU (ai SS.P 39 (pA (h.next)) (.agg ⟨c27⟩) g29) g29 fun u30 g31=>xP (af SS.P 39 (pA (h.next)) 0) fun p32=>xI .i64 (ag SS.P 3 g31 (.pointer (some p32))) fun n33=>xU (ic SS.P 45 (.map (some k3)) (.int .i64 n33) (.bool true) g31) g31 fun u34 g35=>aF (ga (il k a n c k2 k3 b m d i) Inv2) mz2 [(pA k),(.bool false),(pA k2),(.map (some k3)),(.slice a n c),(iA n),(iA i),(.slice b m d),(iA m),(.int .i64 (wrap .i64 ((j:Int)+1)))] g35) (xI .i64 (zX SS.P 45 (.map (some k3)) h) fun n36=>xP (af SS.P 37 (pA k2) 1) fun p37=>xL (ag SS.P 35 h (.pointer (some p37))) fun a38 n39 c40=>az (((n36:Int) != (n39:Int))) (Q (.bool false) h) (aF (ga (eK k a n c) Inv) mz [(pA k),(.bool false),(.slice a n c),(iA n),(.int .i64 (wrap .i64 ((i:Int)+1)))] h)))(mz2:Nat){j:Nat}{h:Heap}(hi:Inv2 mz2 j h):LL SS ef [1,1,0,1,0,0,1,1,0,0,1,1,0,1,0,0] (il k a n c k2 k3 b m d i j) h (KK SS ef [1,1,0,0,1,1,0,1,0] [1,1,0,1,0,0] (RR ef [1,1,0,1,0,0] (ga (eK k a n c) Inv) mz (KK SS ef [1,1,0,1,0] [] (EE SS ef Q)))):=
 cP (il k a n c k2 k3 b m d i) Inv2 (fun mz2 j zz h hi=>aj (step mz2 j zz h hi)) mz2 hi
section
theorem iq {kind:Int}{N:Nat}: ∀ {l:List MSt}{acc:Int},gM kind N acc l=true-> ∀ s∈l,(s.f == [] || Num.weightOk kind s.f)=true/\ ∀ q∈s.arcs,iV kind N q=true
 | [],_,_,s,hs=>by cases hs
 | x::l,acc,h,s,hs=>by
  unfold gM at h;simp only [and_eq_true] at h;obtain ⟨⟨⟨h1,h2⟩,h3⟩,h4⟩:=h;rcases mem_cons.1 hs with rfl | hs
  ·exact ⟨h2,fun q hq=>List.all_eq_true.1 h3 q hq⟩
  ·exact iq h4 s hs
structure ArcIn (N:Nat)(q:MArc):Prop where
 i0:0<=q.i
 i1:q.i<=500
 o0:0<=q.o
 o1:q.o<=500
 t0:0<=q.t
 t1:q.t < N
theorem HX {kind:Int}{N:Nat}{q:MArc}(h:iV kind N q=true):ArcIn N q:=by
 unfold iV ut at h;simp only [and_eq_true,decide_eq_true_eq] at h;obtain ⟨⟨⟨⟨⟨h1,h2⟩,h3,h4⟩,h5⟩,h6⟩,h7⟩:=h;exact ⟨h1,h2,h3,h4,h5,h6⟩
structure Good (M:Mach):Prop where
 start0:0<=M.start
 start1:M.start < M.states.length
 arcs: ∀ s∈M.states,∀ q∈s.arcs,ArcIn M.states.length q
theorem cL {M:Mach}(h:aL M=true):Good M:=by
 unfold aL at h;simp only [and_eq_true,decide_eq_true_eq] at h;obtain ⟨⟨⟨⟨⟨⟨⟨h1,h2⟩,h3⟩,h4⟩,h5⟩,h6⟩,h7⟩,h8⟩:=h;exact ⟨h5,h6,fun s hs q hq=>HX ((iq h8 s hs).2 q hq)⟩
theorem FP (a b:Int):pj SS.P 3 (.int .i64 a) (.int .i64 b)=some (decide (a=b)):=by
 by_cases h:a=b
 ·subst h;have e:fa SS.P 3 3 (.int .i64 a) (.int .i64 a)=some (a == a):=by kernel_rfl
  unfold pj;rw [if_pos (show pv (Value.int .i64 a)=true from rfl),e];simp [Db,za]
 ·have e:fa SS.P 3 3 (.int .i64 a) (.int .i64 b)=some (a == b):=by kernel_rfl
  unfold pj;rw [if_pos (show pv (Value.int .i64 b)=true from rfl),e,show (a == b)=false by simpa using h];simp [h]
def jr (l:List Int)(k:Int):List Int:=if k∈l then l else l++[k]
def i9 (x:Int):Value×Value:=(.int .i64 x,.bool true)
theorem zT (k:Int): ∀ l:List Int,gQ SS.P 3 (.int .i64 k) (.bool true) (l.map i9)=some ((jr l k).map i9)
 | []=>rfl
 | x::l=>by
  show (match pj SS.P 3 (.int .i64 k) (.int .i64 x) with | some true=>some ((Value.int .i64 k,Value.bool true)::l.map i9) | some false=>(gQ SS.P 3 (.int .i64 k) (.bool true) (l.map i9)).map (i9 x :: ·) | none=>none)=_;rw [FP];by_cases h:k=x
  ·subst h;simp [jr,i9]
  ·rw [show decide (k=x)=false by simpa using h];dsimp only;rw [zT k l];unfold jr;by_cases h2:k∈l
   ·rw [if_pos h2,if_pos (mem_cons_of_mem _ h2)]; rfl
   ·rw [if_neg h2,if_neg (fun e=>by rcases mem_cons.1 e with e | e; exact h e; exact h2 e)]; rfl
theorem rH: ∀ (l acc:List Int),acc.Nodup->((l.foldl jr acc).length=acc.length+l.length↔(acc++l).Nodup)/\(l.foldl jr acc).length<=acc.length+l.length
 | [],acc,h=>by simp [h]
 | x::l,acc,h=>by
  rw [List.foldl_cons];by_cases hx:x∈acc
  ·have e:jr acc x=acc:=by unfold jr; rw [if_pos hx]
   rw [e];obtain ⟨h1,h2⟩:=rH l acc h;refine ⟨⟨fun h3=>by simp at h3; omega,fun h3=> ?_⟩,by simp; omega⟩;rw [List.nodup_append] at h3;exact absurd rfl (h3.2.2 x hx x (mem_cons_self ..))
  ·have e:jr acc x=acc++[x]:=by unfold jr; rw [if_neg hx]
   rw [e];have hn:(acc++[x]).Nodup:=by
    rw [List.nodup_append];refine ⟨h,by simp,fun a ha b hb=> ?_⟩;rw [mem_singleton] at hb;rintro rfl;exact hx (hb ▸ ha)
   obtain ⟨h1,h2⟩:=rH l (acc++[x]) hn;rw [append_assoc] at h1;simp only [length_append,length_cons,length_nil,List.singleton_append] at h1 h2 ⊢;refine ⟨⟨fun h3=>h1.1 (by omega),fun h3=> ?_⟩,by omega⟩;have:=h1.2 h3; omega
theorem LC:SS.P.underlying 45=some (.map 3 4):=by kernel_rfl
theorem Ge {h:Heap}{k:Nat}{l:List Int}(hk:h.get k=some (.map (l.map i9)))(x:Int):ic SS.P 45 (.map (some k)) (.int .i64 x) (.bool true) h=some (undef,.set k (.map ((jr l x).map i9))):=by
 unfold ic;rw [LC]; dsimp only;rw [hk]; dsimp only;rw [show iX SS.P 3 (.int .i64 x)=true by kernel_rfl,if_pos rfl,zT]; rfl
theorem Mu {h:Heap}{k:Nat}{es:List (Value×Value)}(hk:h.get k=some (.map es)):zX SS.P 45 (.map (some k)) h=some (.int .i64 (es.length:Int)):=by
 unfold zX;rw [LC]; dsimp only;rw [hk]
theorem KN:oJ SS.P 45=some (.map [],fun k=> .map (some k)):=by kernel_rfl
def km (s:MSt):List Int:=s.arcs.map (·.i)
def AL (s:MSt):Bool:=decide (km s).Nodup
def E4 (M:Mach):Bool:=Mk M && Gk M && M.states.all AL
section
variable {h:Heap} {k:Nat} {M:Mach} {a:Option Addr} {n c:Nat}
def M5 (h:Heap)(k:Nat)(M:Mach)(a:Option Addr)(n c:Nat)(V:Bool)(mz i:Nat)(g:Heap):Prop:=i<=n/\mz=n - i/\MB g k M a n c/\Ok h g/\(M.states.drop i).all AL=V
set_option linter.defProp false in
def GG {hb:Heap}(w:Wf hb)(okb:Ok h hb)(sm:Small M)(V:Bool){s:MSt}{b:Option Addr}{m d i k2 k3:Nat}(hs:M.states[i]?=some s)(hi:i < n)(mb0:MB hb k M a n c)(hv:(AL s && (M.states.drop (i+1)).all AL)=V)(hk3:hb.next<=k3)(mv:List Value)(mz:Nat)(hmz:mz=n - i):=
 qV mv k a n c k2 k3 b m d (M5 h k M a n c V) mz i (fun mz2 j g=>j<=m/\mz2=m - j/\Ok hb g/\ArcRow g (.slice b m d) s.arcs/\g.get k2=some (.cells [aa s.f,.slice b m d] 37 0 true)/\k3≠k2/\hb.next<=k2/\g.get k3=some (.map ((((km s).take j).foldl jr []).map i9))) (bQ h V) (by
  intro mz2 j; intros; rename_i g hin;obtain ⟨f1,f2,ok,ar,sb,hne,hk2,hm⟩:=hin;have mb:=mb0.ok ok;have hn:n<=300:=by rw [mb.len]; exact sm.sts
  obtain ⟨l1,l2,l3⟩:=hG sm hs;have hml:=ar.len;refine ae (fun g1=> ?_) (fun g1=> ?_)
  ·have g1:=dT g1;obtain ⟨q,hq⟩: ∃ q,s.arcs[j]?=some q:=⟨_,gE (by omega)⟩
   obtain ⟨bb,o,e1,e2,e3⟩:=ar.at_ hq;obtain ⟨u,p1,p2,p3⟩:=qH ok.wf q;have hm2:=p2.ext _ _ hm;refine ⟨_,e1,_,e2,_,zJ,u,p1,_,np _ _,_,p3.l0,_,Ge hm2 q.i,?_⟩;have okg:=ok.trans p2;have sb2:=p2.ext _ _ sb;have ar2:=ar.ok p2;generalize u.app (g.push C7)=g2 at *;rw [aG (i:=j) (n:=m) (by omega) (by omega)];have ok3:Ok hb ((Upd.set k3 (.map ((jr (((km s).take j).foldl jr []) q.i).map i9))).app g2):=okg.set _ hk3 (okg.wf _ _ hm2) w;have hq':(km s)[j]?=some q.i:=by unfold km; rw [getElem?_map,hq]; rfl
   have ht:(km s).take (j+1)=(km s).take j++[q.i]:=by rw [take_add_one,hq']; rfl
   refine cA (mz2 - 1) (by omega) ⟨by omega,by omega,ok3,?_,?_,hne,hk2,?_⟩
   ·
    obtain ⟨bb',oo',xx,yy,zz,_,_,_,w4,ar0⟩:=(mb0.ok ok3).row.at_ hs;obtain ⟨bb2,oo2,xx2,yy2,zz2,v1,_,_,v4,ar02⟩:=(mb0.ok okg).row.at_ hs;obtain ⟨r1,⟨r2,r3⟩ | ⟨kk,off,cs,e',z',cc,wr,r2,r3,r4,r5⟩⟩:=ar2
    ·exact ⟨r1,.inl ⟨r2,r3⟩⟩
    ·refine ⟨r1,.inr ⟨kk,off,cs,e',z',cc,wr,r2,?_,r4,r5⟩⟩;show (g2.set k3 _).get kk=_;rw [Heap.get_set,if_neg (fun e=>by rw [e,hm2] at r3; cases r3)];exact r3
   ·show (g2.set k3 _).get k2=_;rw [Heap.get_set,if_neg (fun e=>hne e.symm)];exact sb2
   ·show (g2.set k3 _).get k3=_;rw [Heap.get_set,if_pos rfl,ht,List.foldl_append]; rfl
  ·have g1:=dF g1;obtain rfl:m=j:=by omega
   have sbl:SB g k2 s.f b m d:=sb;refine ⟨_,Mu hm,_,cw _ _,_,_,_,sbl.l1,?_⟩;have hlen:(km s).length=m:=by unfold km; rw [lM]; exact hml.symm
   obtain ⟨q1,q2⟩:=rH (km s) [] List.nodup_nil;rw [nil_append,length_nil,zero_add,hlen] at q1;rw [lM,take_of_length_le (by omega)];refine ae (fun t=>⟨?_,okb.trans ok⟩) (fun t=> ?_)
   ·have t: ¬ (((km s).foldl jr []).length:Int)=(m:Int):=by simpa using t
    rw [<-hv,show AL s=false from decide_eq_false fun e=>t (by rw [q1.2 e])]; rfl
   ·have t:(((km s).foldl jr []).length:Int)=(m:Int):=by simpa using t
    rw [show AL s=true from decide_eq_true (q1.1 (by omega)),Bool.true_and] at hv;rw [aG hi (by omega)];exact cA (n - (i+1)) (by omega) ⟨by omega,rfl,mb,okb.trans ok,hv⟩)
theorem Ju (tb:Tab h)(w:Wf h)(sm:Small M)(r:StRow h (.slice a n c) M.states):FW SS 16 [.agg ⟨aA M a n c⟩] h (fun v h'=>v = .bool (E4 M)/\Ok h h'):=by
 obtain ⟨mb,ok⟩:=dM w r;refine JX (aA M a n c) h _ ⟨_,fo M a n c,_,mb.all,(Kk (tb.ok ok) ok.wf sm mb.row).mono ?_⟩;generalize h.push (Bm M a n c)=g at *;rintro _ g2 ⟨rfl,o2⟩;have ok2:=ok.trans o2;have mb2:=mb.ok o2;have hn:n<=300:=by rw [mb.len]; exact sm.sts
 refine ⟨_,rfl,ae (fun q=>⟨?_,ok2⟩) (fun q=> ?_)⟩
 ·rw [not_eq_true'] at q;unfold E4; rw [q]; rfl
 rw [not_eq_false'] at q;refine ⟨_,mb2.all,(DT (tb.ok ok2) ok2.wf sm mb2.row).mono ?_⟩;rintro _ g3 ⟨rfl,o3⟩;have ok3:=ok2.trans o3;have mb3:=mb2.ok o3;refine ⟨_,rfl,ae (fun t=>⟨?_,ok3⟩) (fun t=> ?_)⟩
 ·rw [not_eq_true'] at t;unfold E4; rw [t,Bool.and_false]; rfl
 rw [not_eq_false'] at t;obtain ⟨V,hV⟩: ∃ V,V=M.states.all AL:=⟨_,rfl⟩
 have:E4 M=V:=by unfold E4; rw [q,t,hV]; rfl
 rw [this];refine ⟨_,bn _,_,_,_,mb3.l3,?_⟩;refine qX (aA M a n c) h.next a n c (M5 h h.next M a n c V) (bQ h V) (fun mz i=> ?_) n (i:=0) ⟨by omega,rfl,mb3,ok3,hV.symm⟩;intros; rename_i gg hi;obtain ⟨f1,f2,mb4,ok4,f5⟩:=hi;have hl:=mb4.len;refine ae (fun q1=> ?_) (fun q1=> ?_)
 ·have q1:=dT q1;obtain ⟨s,hs⟩: ∃ s,M.states[i]?=some s:=⟨_,gE (by omega)⟩
  obtain ⟨b,o,x',y,z,e1,e2,e3,e4,ar⟩:=mb4.row.at_ hs;rw [dP hs,all_cons] at f5;obtain ⟨u,p1,p2,p3⟩:=qx ok4.wf s.f x' y z;have p4:=(Ok.refl p2.wf).push (.map []);have hk3:=aq (u.app (gg.push uy)) (.map []);have hlt:gg.next < (u.app (gg.push uy)).next:=p2.wf _ _ p3;refine ⟨_,e1,_,e2,_,tJ,u,p1,_,KN,_,cw _ _,_,_,_,(p3.ok p4).l1,?_⟩;generalize u.app (gg.push uy)=g5 at *;exact GG ok4.wf ok4 sm V hs (by omega) mb4 f5 (by omega) [] mz f2 y (j:=0) ⟨by omega,rfl,p2.trans p4,(ar.ok p2).ok p4,p3.ok p4,by omega,le_refl _,hk3⟩
 ·have q1:=dF q1;rw [drop_eq_nil_of_le (by omega)] at f5;exact ⟨by rw [<-f5]; rfl,ok4⟩
end
end
theorem Fw:SS.P.underlying 46=some (.slice 4):=by kernel_rfl
theorem Ls:ak SS.P 4=some 1:=by kernel_rfl
noncomputable def ti4:TypeInfo:=(SS.P.info? 4).getD default
theorem LH:SS.P.info? 4=some ti4:=by kernel_rfl
theorem F5:ti4.size=1:=by kernel_rfl
theorem Fq:ti4.bytes=1:=by kernel_rfl
theorem MJ:bW SS.P 4=some (.bool false):=by kernel_rfl
theorem NJ (n:Nat)(hn:n<=100000):aU SS.P 46 (.int .i64 (n:Int)) (.int .i64 (n:Int))=some (.cells ((List.replicate n false).map Value.bool) 4 1 true,gm n n):=by
 unfold aU aP;dsimp only;rw [Fw]
 try dsimp only
 change (match SS.P.info? 4,bW SS.P 4 with
  | some i,some z=>(if z.cells.size=i.size/\0 < i.size/\(0:Int)<=(n:Int)/\(n:Int)<=(n:Int)/\(n:Int)*i.bytes<=140737488355328/\(n:Int)<=1099511627776 then some (Blk.cells (bc z.cells.toList (n:Int).toNat) 4 i.size true,fun k=>Value.slice (some ⟨k,0,none⟩) (n:Int).toNat (n:Int).toNat) else none)
  | _,_=>none)=_
 rw [LH,MJ];dsimp only;rw [F5,Fq,if_pos ⟨rfl,by omega,by omega,Int.le_refl _,by omega,by omega⟩];have e:((n:Int)).toNat=n:=by omega
 rw [e,show (Value.bool false).cells.toList=[Value.bool false] from rfl,lc,List.map_replicate]; rfl
structure BR (hb:Heap)(kt N:Nat)(L:List Bool)(g:Heap):Prop where
 len:L.length=N
 row:IRow hb kt 4 (L.map Value.bool) g
theorem BR.trans {hb:Heap}{kt N:Nat}{L:List Bool}{g g':Heap}(m:BR hb kt N L g)(o:Ok g g'):BR hb kt N L g':=⟨m.len,m.row.trans o⟩
theorem BR.get {hb:Heap}{kt N c:Nat}{L:List Bool}{g:Heap}(m:BR hb kt N L g){x:Int}(h0:0<=x)(h1:x < N):ah SS.P 46 (.slice (some ⟨kt,0,none⟩) N c) (.int .i64 x)=some (.pointer (some ⟨kt,x.toNat,none⟩))/\ag SS.P 4 g (.pointer (some ⟨kt,x.toNat,none⟩))=some (.bool (L.getD x.toNat false))/\
  ∀ b:Bool,Wf hb-> ∃ u:Upd,ai SS.P 4 (.pointer (some ⟨kt,x.toNat,none⟩)) (.bool b) g=some (undef,u)/\BR hb kt N (L.set x.toNat b) (u.app g)/\(∀ k' B,g.get k'=some B->k'≠kt->(u.app g).get k'=some B):=by
 have e:0+x.toNat*1=x.toNat:=by omega
 have hl:x.toNat < L.length:=by rw [m.len]; omega
 refine ⟨by rw [<-e]; exact FF Fw Ls h0 h1,?_,?_⟩
 ·rw [cM NZ Oj m.row.row (by rw [lM]; exact hl),gD,getElem?_map,gD,gE hl]; rfl
 ·intro b w;refine ⟨_,j6 Ls m.row.row (by rw [lM]; exact hl) rfl rfl,⟨by rw [length_set]; exact m.len,?_⟩,fun k' B hk hne=> ?_⟩
  ·have:=m.row.set w x.toNat (.bool b);rw [IX Value.bool L x.toNat b] at this ⊢;exact this
  ·show (g.set kt _).get k'=_;rw [Heap.get_set,if_neg hne]; exact hk
theorem BR.new {h:Heap}(w:Wf h)(n:Nat):BR h h.next n (List.replicate n false) (h.push (.cells ((List.replicate n false).map Value.bool) 4 1 true)):=
 ⟨length_replicate,aq h _,le_refl _,(Ok.refl w).push _⟩
theorem A7 {L:List Bool}{x y:Nat}{b:Bool}(hx:x < L.length):(L.set x b).getD y false=if y=x then b else L.getD y false:=by
 rw [gD,getElem?_set,gD];split
 ·next e=>subst e; simp
 ·next e=>rw [if_neg (fun c=>e c.symm)]
noncomputable def Kn:FD:=cD Tryz.f79 []
theorem G5 (s:Int)(k7 k8:Nat)(h:Heap)(Q:VH)(hx:xL (ag SS.P 46 h (pA k7)) fun a1 n2 c3=>xP (ah SS.P 46 (.slice a1 n2 c3) (.int .i64 s)) fun p4=>xB (ag SS.P 4 h (.pointer (some p4))) fun b5=>az (!b5) (xL (ag SS.P 46 h (pA k7)) fun a6 n7 c8=>xP (ah SS.P 46 (.slice a6 n7 c8) (.int .i64 s)) fun p9=>xU (ai SS.P 4 (.pointer (some p9)) (.bool true) h) h fun u10 g11=>xL (ag SS.P 48 g11 (pA k8)) fun a12 n13 c14=>xR (an SS.P 48 1 [(0,(.int .i64 s))]) g11 fun B15 n16 c17 g18=>xE (aO SS.P 48 48 (.slice a12 n13 c14) (sA (g11.next) n16 c17) g18) g18 fun a19 n20 c21 u22 g23=>xU (ai SS.P 48 (pA k8) (.slice a19 n20 c21) g23) g23 fun u24 g25=>Q (.tuple ⟨[]⟩) g25) (Q (.tuple ⟨[]⟩) h)):FW SS 79 [(.int .i64 s),(pA k7),(pA k8)] h Q:=cE Kn Tryz.func79 (aj hx)
noncomputable def Jc:FD:=cD Tryz.f62 []
theorem H7 (s:Int)(k:Nat)(h:Heap)(Q:VH)(hx:xL (ag SS.P 72 h (pA k)) fun a1 n2 c3=>xP (ah SS.P 72 (.slice a1 n2 c3) (.int .i64 s)) fun p4=>xL (ag SS.P 48 h (.pointer (some p4))) fun a5 n6 c7=>Q (.slice a5 n6 c7) h):FW SS 62 [(.int .i64 s),(pA k)] h Q:=cE Jc Tryz.func62 (aj hx)
noncomputable def IP:FD:=cD Tryz.f63 []
theorem H5 (s:Int)(k:Nat)(h:Heap)(Q:VH)(hx:xL (ag SS.P 72 h (pA k)) fun a1 n2 c3=>xP (ah SS.P 72 (.slice a1 n2 c3) (.int .i64 s)) fun p4=>xL (ag SS.P 48 h (.pointer (some p4))) fun a5 n6 c7=>Q (.slice a5 n6 c7) h):FW SS 63 [(.int .i64 s),(pA k)] h Q:=cE IP Tryz.func63 (aj hx)
noncomputable def bu:FD:=cD Tryz.f61 [([1,1,1,1,0,1,0,0],[0,1,2,7,8,9,18,19,20]),([1,1,1,1,1,0,0,0],[0,1,2,7,8,9]),([1,1,1,1,1,0,0,0,1,0,1,1,1,0,0],[0,1,2,7,8,9,44,45,46])]
abbrev iu (N:Int)(a:OA)(n c f kn k7 k8:Nat)(i:Nat):LV:=[(.int .i64 N),(.slice a n c),(.func (.func f) ⟨[]⟩ ⟨[(.pointer (some ⟨kn,0,none⟩))]⟩),(pA k7),(pA k8),(.func (.func 79) ⟨[]⟩ ⟨[(pA k7),(pA k8)]⟩),(.slice a n c),(iA n),(iA i)]
abbrev eu (N:Int)(a:OA)(n c f kn k7 k8:Nat)(dm:Nat):LV:=[(.int .i64 N),(.slice a n c),(.func (.func f) ⟨[]⟩ ⟨[(.pointer (some ⟨kn,0,none⟩))]⟩),(pA k7),(pA k8),(.func (.func 79) ⟨[]⟩ ⟨[(pA k7),(pA k8)]⟩)]
abbrev ix (N:Int)(a:OA)(n c f kn k7 k8:Nat)(b:OA)(m d:Nat)(j:Nat):LV:=[(.int .i64 N),(.slice a n c),(.func (.func f) ⟨[]⟩ ⟨[(.pointer (some ⟨kn,0,none⟩))]⟩),(pA k7),(pA k8),(.func (.func 79) ⟨[]⟩ ⟨[(pA k7),(pA k8)]⟩),(.slice b m d),(iA m),(iA j)]
theorem EL (N:Int)(a:OA)(n c f kn:Nat)(h:Heap)(Q:VH)(hx:xR (aU SS.P 46 (.int .i64 N) (.int .i64 N)) h fun B1 n2 c3 g4=>xN (aB SS.P 46) g4 fun B5 g6=>xU (ai SS.P 46 (pA (g4.next)) (sA (h.next) n2 c3) g6) g6 fun u7 g8=>xN (aB SS.P 48) g8 fun B9 g10=>LL SS bu [1,1,1,1,0,1,0,0] [(.int .i64 N),(.slice a n c),(.func (.func f) ⟨[]⟩ ⟨[(.pointer (some ⟨kn,0,none⟩))]⟩),(pA (g4.next)),(pA (g8.next)),(.func (.func 79) ⟨[]⟩ ⟨[(pA (g4.next)),(pA (g8.next))]⟩),(.slice a n c),(iA n),(.int .i64 0)] g10 (KK SS bu [1,1,1,1,0,1,0] [] (EE SS bu Q))):FW SS 61 [(.int .i64 N),(.slice a n c),(.func (.func f) ⟨[]⟩ ⟨[(.pointer (some ⟨kn,0,none⟩))]⟩)] h Q:=cE bu Tryz.func61 (aj hx)
theorem oF (N:Int)(a:OA)(n c f kn:Nat)(k7 k8:Nat)(Inv:Nat->Nat->Heap->Prop)(Q:VH)(step: ∀ (mz:Nat) (i:Nat) (zz:Nat->Value) (h:Heap),Inv mz i h->az (decide (((i:Int):Int) < (n:Int))) (xP (ah SS.P 48 (.slice a n c) (iA i)) fun p11=>xI .i64 (ag SS.P 3 h (.pointer (some p11))) fun n12=>FW SS 79 [(.int .i64 n12),(pA k7),(pA k8)] h fun v13 h14=>v13=(.tuple ⟨[]⟩)/\aF (ga (iu N a n c f kn k7 k8) Inv) mz [(.int .i64 N),(.slice a n c),(.func (.func f) ⟨[]⟩ ⟨[(.pointer (some ⟨kn,0,none⟩))]⟩),(pA k7),(pA k8),(.func (.func 79) ⟨[]⟩ ⟨[(pA k7),(pA k8)]⟩),(.slice a n c),(iA n),(.int .i64 (wrap .i64 ((i:Int)+1)))] h14) (LL SS bu [1,1,1,1,1,0,0,0] [(.int .i64 N),(.slice a n c),(.func (.func f) ⟨[]⟩ ⟨[(.pointer (some ⟨kn,0,none⟩))]⟩),(pA k7),(pA k8),(.func (.func 79) ⟨[]⟩ ⟨[(pA k7),(pA k8)]⟩)] h (KK SS bu [1,1,1,1,1,0,0] [] (EE SS bu Q))))(mz:Nat){i:Nat}{h:Heap}(hi:Inv mz i h):LL SS bu [1,1,1,1,0,1,0,0] (iu N a n c f kn k7 k8 i) h (KK SS bu [1,1,1,1,0,1,0] [] (EE SS bu Q)):=
 cP (iu N a n c f kn k7 k8) Inv (fun mz i zz h hi=>aj (step mz i zz h hi)) mz hi
theorem nQ (N:Int)(a:OA)(n c f kn:Nat)(k7 k8:Nat)(Inv2:Nat->Nat->Heap->Prop)(Q:VH)(step: ∀ (mz2:Nat) (dm:Nat) (zz:Nat->Value) (h:Heap),Inv2 mz2 dm h->xL (ag SS.P 48 h (pA k8)) fun a15 n16 c17=>az (decide (((n16:Int):Int) > 0)) (xL (ag SS.P 48 h (pA k8)) fun a18 n19 c20=>xL (ag SS.P 48 h (pA k8)) fun a21 n22 c23=>xP (ah SS.P 48 (.slice a18 n19 c20) (.int .i64 (wrap .i64 ((n22:Int) - 1)))) fun p24=>xI .i64 (ag SS.P 3 h (.pointer (some p24))) fun n25=>xL (ag SS.P 48 h (pA k8)) fun a26 n27 c28=>xL (ag SS.P 48 h (pA k8)) fun a29 n30 c31=>xL (bm SS.P 48 (.slice a26 n27 c28) none (some (.int .i64 (wrap .i64 ((n30:Int) - 1)))) none h) fun a32 n33 c34=>xU (ai SS.P 48 (pA k8) (.slice a32 n33 c34) h) h fun u35 g36=>az (Nat.blt f YB) (FW SS f ([]++[(.int .i64 n25)]++[(.pointer (some ⟨kn,0,none⟩))]) g36 fun v37 h38=>yL v37 fun a39 n40 c41=>LL SS bu [1,1,1,1,1,0,0,0,1,0,1,1,1,0,0] [(.int .i64 N),(.slice a n c),(.func (.func f) ⟨[]⟩ ⟨[(.pointer (some ⟨kn,0,none⟩))]⟩),(pA k7),(pA k8),(.func (.func 79) ⟨[]⟩ ⟨[(pA k7),(pA k8)]⟩),(.slice a39 n40 c41),(iA n40),(.int .i64 0)] h38 (KK SS bu [1,0,1,1,1,0] [1,1,1,1,1,0,0,0] (RR bu [1,1,1,1,1,0,0,0] (ga (eu N a n c f kn k7 k8) Inv2) mz2 (KK SS bu [1,1,1,1,1,0,0] [] (EE SS bu Q))))) False) (xL (ag SS.P 46 h (pA k7)) fun a42 n43 c44=>Q (.slice a42 n43 c44) h))(mz2:Nat){dm:Nat}{h:Heap}(hi:Inv2 mz2 dm h):LL SS bu [1,1,1,1,1,0,0,0] (eu N a n c f kn k7 k8 dm) h (KK SS bu [1,1,1,1,1,0,0] [] (EE SS bu Q)):=
 cP (eu N a n c f kn k7 k8) Inv2 (fun mz2 dm zz h hi=>aj (step mz2 dm zz h hi)) mz2 hi
theorem oK (N:Int)(a:OA)(n c f kn:Nat)(k7 k8:Nat)(b:OA)(m d:Nat)(Inv2:Nat->Nat->Heap->Prop)(mz2:Nat)(Inv3:Nat->Nat->Heap->Prop)(Q:VH)(step: ∀ (mz3:Nat) (j:Nat) (zz:Nat->Value) (h:Heap),Inv3 mz3 j h->az (decide (((j:Int):Int) < (m:Int))) (xP (ah SS.P 48 (.slice b m d) (iA j)) fun p45=>xI .i64 (ag SS.P 3 h (.pointer (some p45))) fun n46=>FW SS 79 [(.int .i64 n46),(pA k7),(pA k8)] h fun v47 h48=>v47=(.tuple ⟨[]⟩)/\aF (ga (ix N a n c f kn k7 k8 b m d) Inv3) mz3 [(.int .i64 N),(.slice a n c),(.func (.func f) ⟨[]⟩ ⟨[(.pointer (some ⟨kn,0,none⟩))]⟩),(pA k7),(pA k8),(.func (.func 79) ⟨[]⟩ ⟨[(pA k7),(pA k8)]⟩),(.slice b m d),(iA m),(.int .i64 (wrap .i64 ((j:Int)+1)))] h48) (aF (ga (eu N a n c f kn k7 k8) Inv2) mz2 [(.int .i64 N),(.slice a n c),(.func (.func f) ⟨[]⟩ ⟨[(.pointer (some ⟨kn,0,none⟩))]⟩),(pA k7),(pA k8),(.func (.func 79) ⟨[]⟩ ⟨[(pA k7),(pA k8)]⟩)] h))(mz3:Nat){j:Nat}{h:Heap}(hi:Inv3 mz3 j h):LL SS bu [1,1,1,1,1,0,0,0,1,0,1,1,1,0,0] (ix N a n c f kn k7 k8 b m d j) h (KK SS bu [1,0,1,1,1,0] [1,1,1,1,1,0,0,0] (RR bu [1,1,1,1,1,0,0,0] (ga (eu N a n c f kn k7 k8) Inv2) mz2 (KK SS bu [1,1,1,1,1,0,0] [] (EE SS bu Q)))):=
 cP (ix N a n c f kn k7 k8 b m d) Inv3 (fun mz3 j zz h hi=>aj (step mz3 j zz h hi)) mz3 hi
end Go.Proofs.YtoabjjimjldcfaaGreatDoor
end
section
set_option linter.unusedVariables false
namespace Go.Ab
open Go
def aM:Value->Option Nat
 | .slice (some a) _ _=>some a.block
 | _=>none
def OwnG (h0 h:Heap)(e:TypeId)(v:Value)(vs:List Value):Prop:=
 (v = .slice none 0 0/\vs=[])\/ ∃ k off cs c,v = .slice (some ⟨k,off,none⟩) vs.length c/\h0.next<=k/\h.get k=some (.cells cs e 1 true)/\(cs.drop off).take vs.length=vs/\aK c+off=cs.length/\vs.length<=aK c
theorem OwnG.rd {h0 h:Heap}{e:TypeId}{v:Value}{vs:List Value}(o:OwnG h0 h e v vs):Rd h e v vs:=by
 rcases o with o | ⟨k,off,cs,c,h1,h2,h3,h4,h5,h6⟩
 ·exact .inl o
 ·exact .inr ⟨k,off,cs,c,true,h1,h3,h4⟩
theorem OwnG.keep {h0 h h':Heap}{e:TypeId}{v:Value}{vs:List Value}(o:OwnG h0 h e v vs)(hk: ∀ (k:Nat) (B:Blk),aM v=some k->h.get k=some B->h'.get k=some B):OwnG h0 h' e v vs:=by
 rcases o with o | ⟨k,off,cs,c,h1,h2,h3,h4,h5,h6⟩
 ·exact .inl o
 ·exact .inr ⟨k,off,cs,c,h1,h2,hk k _ (by rw [h1]; rfl) h3,h4,h5,h6⟩
theorem OwnG.ok {h0 h h':Heap}{e:TypeId}{v:Value}{vs:List Value}(r:OwnG h0 h e v vs)(o:Ok h h'):OwnG h0 h' e v vs:=r.keep fun k B _ hk=>o.ext _ _ hk
theorem OwnG.lt {h0 h:Heap}{e:TypeId}{v:Value}{vs:List Value}(o:OwnG h0 h e v vs)(w:Wf h){k:Nat}(hk:aM v=some k):k < h.next/\h0.next<=k:=by
 rcases o with ⟨rfl,_⟩ | ⟨k',off,cs,c,h1,h2,h3,h4,h5,h6⟩
 ·cases hk
 ·rw [h1] at hk;obtain rfl:k'=k:=oI hk;exact ⟨w _ _ h3,h2⟩
theorem OwnG.nil (h0 h:Heap)(e:TypeId):OwnG h0 h e (.slice none 0 0) []:= .inl ⟨rfl,rfl⟩
theorem OwnG.slc {h0 h:Heap}{e:TypeId}{v:Value}{vs:List Value}(o:OwnG h0 h e v vs): ∃ (a:Option Addr)(c:Nat),v = .slice a vs.length c:=by
 rcases o with ⟨rfl,rfl⟩ | ⟨k,off,cs,c,h1,h2,h3,h4,h5,h6⟩
 ·exact ⟨_,_,rfl⟩
 ·exact ⟨_,_,h1⟩
theorem OwnG.snoc {P:Program}{t e:TypeId}{i:TypeInfo}(hU:P.underlying t=some (.slice e))(hE:dC P e=some i)(hs:i.size=1){h0 g:Heap}(w0:Wf h0)(a:Ok h0 g){v:Value}{vs:List Value}(o:OwnG h0 g e v vs){x:Value}(hx:bA x=true){kx:Nat}(hkx:g.get kx=some (.cells [x] e 1 true))(hl:(vs.length+1)*i.bytes<=70368744177664)(hl2:vs.length+1<=1099511627776):
  ∃ (b:Option Addr)(n c:Nat)(u:Upd),aO P t t v (.slice (some ⟨kx,0,none⟩) 1 1) g=some (.slice b n c,u)/\n=vs.length+1/\OwnG h0 (u.app g) e (.slice b n c) (vs++[x])/\Ok h0 (u.app g)/\
   (∀ j B,g.get j=some B->aM v≠some j->(u.app g).get j=some B)/\
   (∀ j,aM (.slice b n c)=some j->g.next<=j\/aM v=some j)/\g.next<=(u.app g).next:=by
 have hT:ce P t=true:=by unfold ce; rw [hU]
 have hsrc:cm g i.size (.slice (some ⟨kx,0,none⟩) 1 1)=some ([x],1):=by
  show (match g.get kx with | some (.cells cs ..)=>if ((cs.drop 0).take (1*i.size)).length=1*i.size then some ((cs.drop 0).take (1*i.size),1) else none | _=>none)=_;rw [hkx,hs]; rfl
 unfold aO;rw [hU]; dsimp only;rw [hE]; dsimp only;rw [if_pos hT,hsrc]; dsimp only;rw [if_pos (by simp [hx,hs])];rcases o with ⟨rfl,rfl⟩ | ⟨k,off,cs,c,rfl,h2,h3,h4,h5,h6⟩
 ·show ∃ b n c u,(if 1=0 then some (Value.slice none 0 0,Upd.no) else if 1*i.bytes<=70368744177664/\1<=1099511627776 then some (Value.slice (some ⟨g.next,0,none⟩) 1 (bp+1),Upd.push (.cells [x] e i.size true)) else none)=_/\_;rw [if_neg (by omega),if_pos (by simpa using And.intro hl hl2)];refine ⟨_,_,_,_,rfl,rfl,.inr ⟨g.next,0,[x],bp+1,rfl,a.nx,?_,rfl,by rw [bH]; rfl,by rw [bH]; exact le_refl _⟩,a.push _,fun j B hj _=> ?_,fun j e=> .inl ?_,le_succ _⟩
  ·show (g.push (.cells [x] e i.size true)).get g.next=_;rw [Heap.get_push,if_pos rfl,hs]
  ·show (g.push _).get j=_;rw [Heap.get_push,if_neg (fun e=>by have:=a.wf _ _ hj; omega)];exact hj
  ·have:g.next=j:=oI e;omega
 ·dsimp only;rw [if_neg (by omega),hs,mul_one];have hkn:=a.wf _ _ h3;by_cases hroom:vs.length+1<=aK c
  ·rw [if_pos hroom];unfold storeAt;rw [h3];dsimp only;rw [if_pos ⟨by simp; omega,by simp [hx]⟩];refine ⟨_,_,_,_,rfl,rfl,.inr ⟨k,off,cs.take (off+vs.length)++[x]++cs.drop (off+vs.length+1),c,?_,h2,?_,?_,?_,?_⟩,?_,fun j B hj hne=> ?_,fun j e=> .inr e,le_refl _⟩
   ·simp
   ·show (g.set k _).get k=_;rw [Heap.get_set,if_pos rfl]; rfl
   ·have h7:(cs.take (off+vs.length)).length=off+vs.length:=by rw [length_take]; omega
    rw [append_assoc,List.drop_append_of_le_length (by rw [h7]; omega),drop_take,show off+vs.length - off=vs.length by omega,h4,length_append,length_cons,length_nil,List.take_append,take_of_length_le (by omega)];congr 1;rw [show vs.length+(0+1) - vs.length=1 by omega]; rfl
   ·simp; omega
   ·simp; omega
   ·exact a.set _ h2 hkn w0
   ·show (g.set k _).get j=_;rw [Heap.get_set,if_neg (fun e=>hne (by rw [e]; rfl))];exact hj
  ·rw [if_neg hroom];have hcl:aK c=vs.length:=by omega
   have h7:((cs.drop off).take vs.length).length=vs.length:=by rw [h4]
   unfold e9;rw [if_pos ⟨hl,hl2⟩,h3];dsimp only;rw [mul_one,if_pos ⟨rfl,rfl,h7⟩];have hnew: ∀ B:Blk,OwnG h0 ((g.push (.cells (vs++[x]) e 1 true))) e (.slice (some ⟨g.next,0,none⟩) (vs.length+1) (bp+(vs.length+1))) (vs++[x]):=fun _=>
    .inr ⟨g.next,0,vs++[x],bp+(vs.length+1),by rw [length_append]; rfl,a.nx,by rw [Heap.get_push,if_pos rfl],by rw [drop_zero,List.take_length],by rw [bH,length_append]; rfl,by rw [bH,length_append]; exact le_refl _⟩
   by_cases hc:c < bp
   ·rw [if_pos hc,h4];refine ⟨_,_,_,_,rfl,rfl,hnew (.map []),a.push _,fun j B hj _=> ?_,fun j e=> .inl ?_,le_succ _⟩
    ·show (g.push _).get j=_;rw [Heap.get_push,if_neg (fun e=>by have:=a.wf _ _ hj; omega)];exact hj
    ·have:g.next=j:=oI e;omega
   ·rw [if_neg hc,if_pos ⟨rfl,by omega⟩,h4];refine ⟨_,_,_,_,rfl,rfl,.inr ⟨g.next,0,vs++[x],bp+(vs.length+1),by rw [length_append]; rfl,a.nx,?_,by rw [drop_zero,List.take_length],by rw [bH,length_append]; rfl,by rw [bH,length_append]; exact le_refl _⟩,?_,fun j B hj hne=> ?_,fun j e=> .inl ?_,le_succ _⟩
    ·show ((g.del k).push _).get g.next=_;rw [Heap.get_push,if_pos (show g.next=(g.del k).next from rfl)]
    ·refine ⟨?_,fun j C hj=> ?_,le_trans a.nx (le_succ _)⟩
     ·refine Heap.wf_push (fun j C hj=> ?_) _;rw [Heap.get_del] at hj;split at hj
      ·cases hj
      ·exact a.wf _ _ hj
     ·have h7:=a.ext _ _ hj;have h8:=a.wf _ _ h7;show ((g.del k).push _).get j=_;rw [Heap.get_push,if_neg (fun e=>by have:j=g.next:=e; omega),Heap.get_del,if_neg (fun e=>by have:=w0 _ _ hj; omega)];exact h7
    ·have h8:=a.wf _ _ hj;show ((g.del k).push _).get j=_;rw [Heap.get_push,if_neg (fun e=>by have:j=g.next:=e; omega),Heap.get_del,if_neg (fun e=>hne (by rw [e]; rfl))];exact hj
    ·have:g.next=j:=oI e;omega
theorem OwnG.upto {P:Program}{t e:TypeId}(hU:P.underlying t=some (.slice e))(hs:ak P e=some 1){h0 h:Heap}{v:Value}{vs:List Value}(r:OwnG h0 h e v vs){z:Nat}(hz:z<=vs.length)(hp:0 < vs.length):
  ∃ a n c,bm P t v none (some (.int .i64 (z:Int))) none h=some (.slice a n c)/\OwnG h0 h e (.slice a n c) (vs.take z)/\aM (.slice a n c)=aM v:=by
 rcases r with ⟨rfl,rfl⟩ | ⟨k,off,cs,c,rfl,h2,h3,h4,h5,h6⟩
 ·simp at hp
 ·refine ⟨some ⟨k,off+0*1,none⟩,z,c,?_,.inr ⟨k,off,cs,c,?_,h2,h3,?_,h5,?_⟩,rfl⟩
  ·unfold bm;dsimp only;rw [hU];dsimp only [bU];rw [hs,h3];dsimp only;rw [if_pos (by simp),if_pos (by omega)];have e2:((z:Int) - ((0:Nat):Int)).toNat=z:=by omega
   have e0:((0:Nat):Int).toNat=0:=rfl;rw [e2,e0]; rfl
  ·rw [length_take,Nat.min_eq_left hz]; rfl
  ·rw [length_take,Nat.min_eq_left hz,<-h4,List.take_take,Nat.min_eq_left hz]
  ·rw [length_take]; omega
theorem OwnG.built {h0 h:Heap}{e:TypeId}{k:Nat}{vs:List Value}(hk:h.get k=some (.cells vs e 1 true))(h0k:h0.next<=k)(hl:vs.length < bp):OwnG h0 h e (.slice (some ⟨k,0,none⟩) vs.length vs.length) vs:=
 .inr ⟨k,0,vs,vs.length,rfl,h0k,hk,by simp,by unfold aK; rw [if_neg (by omega)]; rfl,by unfold aK; rw [if_neg (by omega)]; exact le_refl _⟩
end Go.Ab
end
section
namespace Go.Num
section
inductive Rch (E:Nat->Nat->Prop)(F:Nat->Prop):Nat->Prop where
 | base {x:Nat} (h:F x):Rch E F x
 | step {y x:Nat} (h:Rch E F y) (e:E y x):Rch E F x
def cntF (L:List Bool):Nat:=(L.filter fun b=> !b).length
theorem zp: ∀ {L:List Bool}{s:Nat},s < L.length->L.getD s false=false->cntF (L.set s true)+1=cntF L
 | [],s,h,_=>by simp at h
 | b::L,0,h,h0=>by
  have:b=false:=by simpa using h0
  subst this;simp [cntF]
 | b::L,s+1,h,h0=>by
  have ih:=zp (L:=L) (s:=s) (by simpa using h) (by simpa using h0);unfold cntF at ih ⊢
  cases b <;> simp at ih ⊢ <;> omega
theorem getD_setT {L:List Bool}{s x:Nat}(hs:s < L.length):(L.set s true).getD x false=if x=s then true else L.getD x false:=by
 rw [gD,getElem?_set,gD];split
 ·next e=>subst e; simp
 ·next e=>rw [if_neg (fun c=>e c.symm)]
structure SInv (E:Nat->Nat->Prop)(F:Nat->Prop)(N:Nat)(L:List Bool)(T:List Nat)(ex:Nat->Prop):Prop where
 len:L.length=N
 tin: ∀ x∈T,x < N/\L.getD x false=true
 snd: ∀ x,L.getD x false=true->Rch E F x
 cls: ∀ y,L.getD y false=true->y ∉ T-> ¬ ex y-> ∀ z,E y z->L.getD z false=true
section
variable {E:Nat->Nat->Prop} {F:Nat->Prop} {N:Nat} {L:List Bool} {T:List Nat} {ex:Nat->Prop}
theorem sinv_new (n:Nat)(ex:Nat->Prop):SInv E F n (List.replicate n false) [] ex:=by
 have h: ∀ x,(List.replicate n false).getD x false=false:=fun x=>by
  rw [gD,getElem?_replicate]; split <;> rfl
 exact ⟨length_replicate,fun x hx=>(by cases hx),fun x hx=>(by rw [h] at hx; cases hx),fun y hy=>(by rw [h] at hy; cases hy)⟩
theorem SInv.see (v:SInv E F N L T ex){s:Nat}(hs:s < N)(hr:Rch E F s)(h0:L.getD s false=false):SInv E F N (L.set s true) (T++[s]) ex/\cntF (L.set s true)+1=cntF L:=by
 have hl:s < L.length:=by rw [v.len]; exact hs
 refine ⟨⟨by rw [length_set]; exact v.len,fun x hx=> ?_,fun x hx=> ?_,fun y hy hyT he z hz=> ?_⟩,zp hl h0⟩
 ·rcases mem_append.1 hx with h | h
  ·obtain ⟨h1,h2⟩:=v.tin x h;refine ⟨h1,?_⟩;rw [getD_setT hl]; split
   ·rfl
   ·exact h2
  ·rw [mem_singleton] at h;subst h;exact ⟨hs,by rw [getD_setT hl,if_pos rfl]⟩
 ·rw [getD_setT hl] at hx;split at hx
  ·next e=>rw [e]; exact hr
  ·exact v.snd x hx
 ·rw [getD_setT hl] at hy ⊢;split
  ·rfl
  ·split at hy
   ·next e=>exact absurd (mem_append.2 (.inr (by rw [mem_singleton]; exact e))) hyT
   ·exact v.cls y hy (fun c=>hyT (mem_append.2 (.inl c))) he z hz
theorem SInv.take {T':List Nat}{s:Nat}(v:SInv E F N L T (fun _=>False))(h1: ∀ x∈T',x∈T)(h2: ∀ x∈T,x∈T'\/x=s):SInv E F N L T' (fun y=>y=s):=
 ⟨v.len,fun x hx=>v.tin x (h1 x hx),v.snd,fun y hy hyT he z hz=>v.cls y hy (fun c=>(h2 y c).elim hyT he) (fun c=>c) z hz⟩
theorem SInv.done {s:Nat}(v:SInv E F N L T (fun y=>y=s))(h: ∀ z,E s z->L.getD z false=true):SInv E F N L T (fun _=>False):=
 ⟨v.len,v.tin,v.snd,fun y hy hyT _ z hz=>by
  by_cases e:y=s
  ·subst e; exact h z hz
  ·exact v.cls y hy hyT e z hz⟩
theorem SInv.final (v:SInv E F N L [] (fun _=>False))(hF: ∀ x,F x->L.getD x false=true)(x:Nat):L.getD x false=true↔Rch E F x:=by
 refine ⟨v.snd x,fun h=> ?_⟩
 induction h with
 | base h=>exact hF _ h
 | step _ e ih=>exact v.cls _ ih (fun c=>(by cases c)) (fun c=>c) _ e
end
end
end Go.Num
end
section
set_option linter.unusedVariables false
set_option maxRecDepth 100000
namespace Go.Proofs.YtoabjjimjldcfaaGreatDoor
open Go Go.Ab
section
theorem CG {h0 g:Heap}(w0:Wf h0)(ok:Ok h0 g){v:Value}{vs:List Value}(o:OwnG h0 g 3 v vs){z:Int}{kx:Nat}(hkx:g.get kx=some (.cells [.int .i64 z] 3 1 true))(hl:vs.length<=100000):
  ∃ (b:Option Addr)(n c:Nat)(u:Upd),aO SS.P 48 48 v (.slice (some ⟨kx,0,none⟩) 1 1) g=some (.slice b n c,u)/\n=vs.length+1/\OwnG h0 (u.app g) 3 (.slice b n c) (vs++[.int .i64 z])/\Ok h0 (u.app g)/\
   (∀ j B,g.get j=some B->aM v≠some j->(u.app g).get j=some B)/\
   (∀ j,aM (.slice b n c)=some j->g.next<=j\/aM v=some j)/\g.next<=(u.app g).next:=
 OwnG.snoc kE K5 Gd w0 ok o rfl hkx (by rw [DX]; omega) (by omega)
theorem Af:ak SS.P 48=some 1:=by kernel_rfl
theorem Na:ak SS.P 46=some 1:=by kernel_rfl
theorem zq:Go.Ab.isAgg SS.P 48=false:=by kernel_rfl
theorem L9:Go.Ab.isAgg SS.P 46=false:=by kernel_rfl
theorem s9:SS.P.underlying 72=some (.slice 48):=by kernel_rfl
theorem KX:ak SS.P 72=some 1:=by kernel_rfl
theorem zt:Go.Ab.isAgg SS.P 72=false:=by kernel_rfl
theorem cY (a:Option Addr)(n c:Nat):bA (.slice a n c)=true:=by cases a <;> rfl
def Bx1 (g:Heap)(k:Nat)(t:TypeId)(v:Value):Prop:=g.get k=some (.cells [v] t 0 true)
theorem Bx1.ok {g g':Heap}{k:Nat}{t:TypeId}{v:Value}(b:Bx1 g k t v)(o:Ok g g'):Bx1 g' k t v:=o.ext _ _ b
theorem Bx1.ld {g:Heap}{k:Nat}{t:TypeId}{v:Value}{d:TypeDesc}(hU:SS.P.underlying t=some d)(ha:Go.Ab.isAgg SS.P t=false)(b:Bx1 g k t v):ag SS.P t g (.pointer (some ⟨k,0,none⟩))=some v:=cM hU ha b (by simp)
theorem Bx1.st {g:Heap}{k:Nat}{t:TypeId}{v:Value}(hs:ak SS.P t=some 1)(b:Bx1 g k t v){v':Value}(hv:bA v'=true)(hc:v'.cells = #[v']):ai SS.P t (.pointer (some ⟨k,0,none⟩)) v' g=some (undef,.set k (.cells [v'] t 0 true)):=j6 hs b (by simp) hv hc
structure Sst (h:Heap)(k7 k8 kt N:Nat)(L:List Bool)(T:List Nat)(g:Heap):Prop where
 b7:Bx1 g k7 46 (.slice (some ⟨kt,0,none⟩) N N)
 b8: ∃ tv,Bx1 g k8 48 tv/\OwnG h g 3 tv (T.map iv)/\aM tv≠some kt/\aM tv≠some k7/\aM tv≠some k8
 row:BR h kt N L g
 n7:h.next<=k7
 n8:h.next<=k8
 d1:k7≠kt
 d2:k8≠kt
 d3:k7≠k8
section
variable {h:Heap} {k7 k8 kt N:Nat} {L:List Bool} {T:List Nat} {g:Heap}
theorem IA (w:Wf h)(st:Sst h k7 k8 kt N L T g){s:Nat}(hs:s < N)(hT:T.length<=100000):
  FW SS 79 [.int .i64 (s:Int),.pointer (some ⟨k7,0,none⟩),.pointer (some ⟨k8,0,none⟩)] g (fun v g'=>v = .tuple ⟨[]⟩/\((L.getD s false=true/\Sst h k7 k8 kt N L T g')\/(L.getD s false=false/\Sst h k7 k8 kt N (L.set s true) (T++[s]) g'))):=by
 obtain ⟨tv,t1,t2,t3,t4,t5⟩:=st.b8;obtain ⟨r1,r2,r3⟩:=st.row.get (c:=N) (x:=(s:Int)) (by omega) (by omega);rw [toNat_natCast] at r1 r2 r3;refine G5 s k7 k8 g _ ⟨_,_,_,st.b7.ld Fw L9,_,r1,_,r2,ae (fun q=> ?_) (fun q=> ?_)⟩
 ·rw [not_eq_true'] at q;obtain ⟨u,s1,s2,s3⟩:=r3 true w;refine ⟨_,_,_,st.b7.ld Fw L9,_,r1,u,s1,?_⟩;have b7':Bx1 (u.app g) k7 46 (.slice (some ⟨kt,0,none⟩) N N):=s3 _ _ st.b7 st.d1;have b8':Bx1 (u.app g) k8 48 tv:=s3 _ _ t1 st.d2;have ow:OwnG h (u.app g) 3 tv (T.map iv):=t2.keep fun j B hj hB=>s3 j B hB (fun e=>t3 (by rw [hj,e]));generalize u.app g=g1 at *;obtain ⟨ta,tc,rfl⟩:=ow.slc;rw [lM] at *;refine ⟨_,_,_,b8'.ld kE zq,?_⟩;have ok1:=s2.row.ok;have op:=(Ok.refl ok1.wf).push (.cells [.int .i64 (s:Int)] 3 1 true);have hk:=aq g1 (.cells [.int .i64 (s:Int)] 3 1 true);obtain ⟨b,n',c',u2,a1,a2,a3,a4,a5,a6,a7⟩:=CG w (ok1.trans op) (ow.ok op) hk (by rw [lM]; exact hT);refine ⟨_,_,_,xd _,b,n',c',u2,a1,?_⟩;have b7'':=a5 _ _ (b7'.ok op) t4;have b8'':Bx1 (u2.app (g1.push (.cells [.int .i64 (s:Int)] 3 1 true))) k8 48 _:=a5 _ _ (b8'.ok op) t5;have rw2:=a5 _ _ (op.ext _ _ s2.row.row) t3;have hgn:g1.next<=(g1.push (.cells [.int .i64 (s:Int)] 3 1 true)).next:=le_succ _;have l7:=ok1.wf _ _ b7';have l8:=ok1.wf _ _ b8';have lt:=s2.row.lt;generalize g1.push (.cells [.int .i64 (s:Int)] 3 1 true)=gp at *;generalize u2.app gp=g2 at *;refine ⟨_,b8''.st Af (cY _ _ _) rfl,rfl,.inr ⟨q,?_⟩⟩;have okf:Ok h ((Upd.set k8 (.cells [.slice b n' c'] 48 0 true)).app g2):=a4.set _ st.n8 (a4.wf _ _ b8'') w;have hset: ∀ j,j≠k8->((Upd.set k8 (.cells [.slice b n' c'] 48 0 true)).app g2).get j=g2.get j:=fun j hj=>by
   show (g2.set k8 _).get j=_;rw [Heap.get_set,if_neg hj]
  have hself:((Upd.set k8 (.cells [.slice b n' c'] 48 0 true)).app g2).get k8=some (.cells [.slice b n' c'] 48 0 true):=by
   show (g2.set k8 _).get k8=_;rw [Heap.get_set,if_pos rfl]
  have nb: ∀ j,aM (.slice ta T.length tc)≠some j->j < g1.next->aM (.slice b n' c')≠some j:=fun j h1 h2 e=>by
   rcases a6 j e with h3 | h3
   ·omega
   ·exact h1 h3
  refine ⟨?_,⟨_,hself,?_,nb _ t3 lt,nb _ t4 l7,nb _ t5 l8⟩,⟨s2.len,?_,s2.row.new,okf⟩,st.n7,st.n8,st.d1,st.d2,st.d3⟩
  ·show _=_;rw [hset _ st.d3]; exact b7''
  ·rw [List.map_append];exact a3.keep fun j B hj hB=>by rw [hset j (fun e=>nb _ t5 l8 (by rw [hj,e]))]; exact hB
  ·rw [hset _ (fun e=>st.d2 e.symm)]; exact rw2
 ·rw [not_eq_false'] at q;exact ⟨rfl,.inl ⟨q,st⟩⟩
def AdjR (g:Heap)(a:Option Addr)(N c:Nat)(A:List (List Nat)):Prop:=A.length=N/\ ∃ vs:List Value,Rd g 48 (.slice a N c) vs/\vs.length=N/\ ∀ (i:Nat)(l:List Nat),A[i]?=some l-> ∃ (b:Option Addr)(m d:Nat),vs[i]?=some (.slice b m d)/\Rd g 3 (.slice b m d) (l.map iv)
theorem AdjR.ok {g g':Heap}{a:Option Addr}{N c:Nat}{A:List (List Nat)}(r:AdjR g a N c A)(o:Ok g g'):AdjR g' a N c A:=by
 obtain ⟨h1,vs,h2,h3,h4⟩:=r;exact ⟨h1,vs,h2.ok o,h3,fun i l hl=>let ⟨b,m,d,e1,e2⟩:=h4 i l hl; ⟨b,m,d,e1,e2.ok o⟩⟩
theorem AdjR.at2 {h g:Heap}{a:Option Addr}{N c:Nat}{A:List (List Nat)}(r:AdjR h a N c A)(o:Ok h g){i:Nat}{l:List Nat}(hl:A[i]?=some l):
  ∃ (p:Addr)(b:Option Addr)(m d:Nat),ah SS.P 72 (.slice a N c) (.int .i64 (i:Int))=some (.pointer (some p))/\ag SS.P 48 g (.pointer (some p))=some (.slice b m d)/\Rd h 3 (.slice b m d) (l.map iv):=by
 obtain ⟨h1,vs,h2,h3,h4⟩:=r;obtain ⟨b,m,d,e1,e2⟩:=h4 i l hl;have hi:=(List.getElem?_eq_some_iff.1 hl).1;obtain ⟨p,q1,q2⟩:=(h2.ok o).at_ s9 Af kE zq (k:= .i64) (i:=(i:Int)) (by omega) (by omega);rw [toNat_natCast,gD,e1] at q2;exact ⟨p,b,m,d,q1,q2,e2⟩
def xf (h:Heap)(f kn:Nat)(A:List (List Nat)):Prop:=Nat.blt f YB=true/\ ∀ (g:Heap),Ok h g-> ∀ (s:Nat)(l:List Nat),A[s]?=some l->FW SS f [.int .i64 (s:Int),.pointer (some ⟨kn,0,none⟩)] g (fun v g'=> ∃ (b:Option Addr)(m d:Nat),v = .slice b m d/\Rd h 3 (.slice b m d) (l.map iv)/\g'=g)
theorem Hk {kn c:Nat}{a:Option Addr}{A:List (List Nat)}(w:Wf h)(bx:Bx1 h kn 72 (.slice a N c))(r:AdjR h a N c A):xf h 62 kn A:=by
 refine ⟨by decide +kernel,fun g o s l hl=> ?_⟩;obtain ⟨p,b,m,d,e1,e2,e3⟩:=r.at2 o hl;exact H7 s kn g _ ⟨_,_,_,(bx.ok o).ld s9 zt,_,e1,_,_,_,e2,b,m,d,rfl,e3,rfl⟩
theorem G8 {kn c:Nat}{a:Option Addr}{A:List (List Nat)}(w:Wf h)(bx:Bx1 h kn 72 (.slice a N c))(r:AdjR h a N c A):xf h 63 kn A:=by
 refine ⟨by decide +kernel,fun g o s l hl=> ?_⟩;obtain ⟨p,b,m,d,e1,e2,e3⟩:=r.at2 o hl;exact H5 s kn g _ ⟨_,_,_,(bx.ok o).ld s9 zt,_,e1,_,_,_,e2,b,m,d,rfl,e3,rfl⟩
def tK (A:List (List Nat))(y x:Nat):Prop:=x∈A.getD y []
end
end
section
theorem Mi {h:Heap}{a:Option Addr}{n c:Nat}{l:List Nat}(r:Rd h 3 (.slice a n c) (l.map iv)){i:Nat}{x:Nat}(hx:l[i]?=some x): ∃ p:Addr,ah SS.P 48 (.slice a n c) (.int .i64 (i:Int))=some (.pointer (some p))/\ag SS.P 3 h (.pointer (some p))=some (.int .i64 (x:Int)):=by
 have hi:=(List.getElem?_eq_some_iff.1 hx).1;obtain ⟨p,h2,h3⟩:=r.at_ kE Hz Hg GS (k:= .i64) (i:=(i:Int)) (by omega) (by rw [lM]; omega);rw [toNat_natCast,gD,getElem?_map,hx] at h3;exact ⟨p,h2,h3⟩
theorem Hr {h:Heap}{a:Option Addr}{n c:Nat}{l:List Nat}(r:Rd h 3 (.slice a n c) (l.map iv)):n=l.length:=by have:=r.len; rwa [lM] at this
theorem EJ {T:List Nat}(h:0 < T.length): ∃ s,T[T.length - 1]?=some s/\(∀ x∈T.take (T.length - 1),x∈T)/\(∀ x∈T,x∈T.take (T.length - 1)\/x=s)/\s∈T:=by
 obtain ⟨s,hs⟩: ∃ s,T[T.length - 1]?=some s:=⟨_,gE (by omega)⟩
 have e:T=T.take (T.length - 1)++[s]:=by
  have h1:(T.take (T.length - 1+1))=T:=take_of_length_le (by omega);rw [take_add_one,hs] at h1;exact h1.symm
 refine ⟨s,hs,fun x hx=>List.mem_of_mem_take hx,fun x hx=> ?_,List.mem_of_getElem? hs⟩;rw [e] at hx;rcases mem_append.1 hx with h1 | h1
 ·exact .inl h1
 ·rw [mem_singleton] at h1; exact .inr h1
structure Sq (h:Heap)(E:Nat->Nat->Prop)(F:List Nat)(k7 k8 kt N:Nat)(ex:Nat->Prop)(L:List Bool)(T:List Nat)(g:Heap):Prop where
 st:Sst h k7 k8 kt N L T g
 inv:Num.SInv E (· ∈F) N L T ex
 bd:2*Num.cntF L+T.length<=2*N
section
variable {h:Heap} {E:Nat->Nat->Prop} {F:List Nat} {k7 k8 kt N:Nat} {ex:Nat->Prop} {L:List Bool} {T:List Nat} {g:Heap}
theorem zG (w:Wf h)(hN:N<=1000)(q:Sq h E F k7 k8 kt N ex L T g){s:Nat}(hs:s < N)(hr:Num.Rch E (· ∈F) s):
  FW SS 79 [.int .i64 (s:Int),.pointer (some ⟨k7,0,none⟩),.pointer (some ⟨k8,0,none⟩)] g (fun v g'=>v = .tuple ⟨[]⟩/\ ∃ L' T',Sq h E F k7 k8 kt N ex L' T' g'/\(∀ x,L.getD x false=true->L'.getD x false=true)/\L'.getD s false=true/\2*Num.cntF L'+T'.length<=2*Num.cntF L+T.length):=by
 have hb:=q.bd;refine (IA w q.st hs (by omega)).mono ?_;rintro _ g' ⟨rfl,⟨h1,h2⟩ | ⟨h1,h2⟩⟩
 ·exact ⟨rfl,L,T,⟨h2,q.inv,q.bd⟩,fun _ h=>h,h1,le_refl _⟩
 ·obtain ⟨i1,i2⟩:=q.inv.see hs hr h1;have hl:s < L.length:=by rw [q.inv.len]; exact hs
  refine ⟨rfl,_,_,⟨h2,i1,?_⟩,fun x hx=> ?_,?_,?_⟩
  ·rw [length_append,length_singleton]; omega
  ·rw [Num.getD_setT hl]; split
   ·rfl
   ·exact hx
  ·rw [Num.getD_setT hl,if_pos rfl]
  ·rw [length_append,length_singleton]; omega
theorem Sst.put (w:Wf h)(st:Sst h k7 k8 kt N L T g){T':List Nat}{b:Option Addr}{m d:Nat}(ow:OwnG h g 3 (.slice b m d) (T'.map iv))(hb: ∀ tv,Bx1 g k8 48 tv->aM (.slice b m d)=aM tv):
  ∃ u:Upd,ai SS.P 48 (.pointer (some ⟨k8,0,none⟩)) (.slice b m d) g=some (undef,u)/\Sst h k7 k8 kt N L T' (u.app g)/\Ok h (u.app g):=by
 obtain ⟨tv,t1,t2,t3,t4,t5⟩:=st.b8;have e:=hb tv t1;refine ⟨_,t1.st Af (cY _ _ _) rfl,?_⟩;have ok:=st.row.row.ok;have okf:Ok h ((Upd.set k8 (.cells [.slice b m d] 48 0 true)).app g):=ok.set _ st.n8 (ok.wf _ _ t1) w;have hset: ∀ j,j≠k8->((Upd.set k8 (.cells [.slice b m d] 48 0 true)).app g).get j=g.get j:=fun j hj=>by
  show (g.set k8 _).get j=_;rw [Heap.get_set,if_neg hj]
 refine ⟨⟨?_,⟨.slice b m d,?_,ow.keep fun j B hj hB=>by rw [hset j (fun c=>t5 (by rw [<-e,hj,c]))]; exact hB,by rw [e]; exact t3,by rw [e]; exact t4,by rw [e]; exact t5⟩,⟨st.row.len,?_,st.row.row.new,okf⟩,st.n7,st.n8,st.d1,st.d2,st.d3⟩,okf⟩
 ·show _=_;rw [hset _ st.d3]; exact st.b7
 ·show (g.set k8 _).get k8=_;rw [Heap.get_set,if_pos rfl]
 ·rw [hset _ (fun c=>st.d2 c.symm)]; exact st.row.row.row
end
section
variable {h:Heap} {N:Nat} {A:List (List Nat)} {f kn:Nat} {a:Option Addr} {n c:Nat} {F:List Nat} {k7 k8 kt:Nat}
def OR (h:Heap)(A:List (List Nat))(F:List Nat)(k7 k8 kt N n:Nat)(mz i:Nat)(g:Heap):Prop:=i<=n/\mz=n - i/\ ∃ L T,Sq h (tK A) F k7 k8 kt N (fun _=>False) L T g/\ ∀ x∈F.take i,L.getD x false=true
def OF (h:Heap)(A:List (List Nat))(F:List Nat)(k7 k8 kt N:Nat)(mz2 dm:Nat)(g:Heap):Prop:= ∃ L T,Sq h (tK A) F k7 k8 kt N (fun _=>False) L T g/\(∀ x∈F,L.getD x false=true)/\2*Num.cntF L+T.length<=mz2
def OS (h:Heap)(A:List (List Nat))(F:List Nat)(k7 k8 kt N:Nat)(l:List Nat)(s m mz2:Nat)(mz3 j:Nat)(g:Heap):Prop:=j<=m/\mz3=m - j/\ ∃ L T,Sq h (tK A) F k7 k8 kt N (fun y=>y=s) L T g/\(∀ x∈F,L.getD x false=true)/\2*Num.cntF L+T.length+1<=mz2/\(∀ z∈l.take j,L.getD z false=true)/\Num.Rch (tK A) (· ∈F) s
def sQ (h:Heap)(A:List (List Nat))(F:List Nat)(N:Nat):VH:=fun v h'=> ∃ kt L,v = .slice (some ⟨kt,0,none⟩) N N/\BR h kt N L h'/\ ∀ x,L.getD x false=true↔Num.Rch (tK A) (· ∈F) x
set_option linter.defProp false in
def Ko (w:Wf h)(hN:N<=1000)(hAin: ∀ l∈A,∀ x∈l,x < N){s:Nat}{l:List Nat}(hl:A[s]?=some l)(hll:l.length<=100000){b:Option Addr}{m d:Nat}(rd:Rd h 3 (.slice b m d) (l.map iv))(mz2:Nat)(hmz:0 < mz2):=
 oK (N:Int) a n c f kn k7 k8 b m d (OF h A F k7 k8 kt N) mz2 (OS h A F k7 k8 kt N l s m mz2) (sQ h A F N) (by
  intro mz3 j; intros; rename_i g hin;obtain ⟨f1,f2,L,T,q,hF,hm2,hz,hr⟩:=hin;have hm:=Hr rd;refine ae (fun g1=> ?_) (fun g1=> ?_)
  ·have g1:=dT g1;obtain ⟨x,hx⟩: ∃ x,l[j]?=some x:=⟨_,gE (by omega)⟩
   obtain ⟨p,e1,e2⟩:=Mi (rd.ok q.st.row.row.ok) hx;have hxl:=List.mem_of_getElem? hx;have hE:tK A s x:=by
    show x∈A.getD s [];rw [gD,hl]; exact hxl
   refine ⟨_,e1,_,e2,(zG w hN q (hAin l (List.mem_of_getElem? hl) x hxl) (.step hr hE)).mono ?_⟩;rintro _ g2 ⟨rfl,L',T',q',h1,h2,h3⟩;refine ⟨rfl,?_⟩;rw [aG (i:=j) (n:=m) (by omega) (by omega)];refine cA (mz3 - 1) (by omega) ⟨by omega,by omega,L',T',q',fun y hy=>h1 y (hF y hy),by omega,fun z hz'=> ?_,hr⟩;rw [take_add_one,hx] at hz';rcases mem_append.1 hz' with h4 | h4
   ·exact h1 z (hz z h4)
   ·have:z=x:=by simpa using h4
    rw [this]; exact h2
  ·have g1:=dF g1;rw [take_of_length_le (by omega)] at hz;refine cA (mz2 - 1) (a:=0) (by omega) ⟨L,T,⟨q.st,q.inv.done fun z hE=>hz z ?_,q.bd⟩,hF,by omega⟩;have:z∈A.getD s []:=hE;rw [gD,hl] at this;exact this)
set_option linter.defProp false in
def JD (w:Wf h)(hN:N<=1000)(hA:A.length=N)(hAin: ∀ l∈A,∀ x∈l,x < N)(hAl: ∀ l∈A,l.length<=100000)(nx:xf h f kn A):=
 nQ (N:Int) a n c f kn k7 k8 (OF h A F k7 k8 kt N) (sQ h A F N) (by
  intro mz2 dm; intros; rename_i g hin;obtain ⟨L,T,q,hF,hm2⟩:=hin;obtain ⟨tv,t1,t2,t3,t4,t5⟩:=q.st.b8;obtain ⟨ta,tc,htv⟩:=t2.slc;rw [lM] at htv;subst htv;refine ⟨_,_,_,t1.ld kE zq,ae (fun g1=> ?_) (fun g1=> ?_)⟩
  ·have g1:=dT g1;obtain ⟨s,hs,p1,p2,p3⟩:=EJ (T:=T) (by omega);have hb:=q.bd;have hw:wrap .i64 ((T.length:Int) - 1)=((T.length - 1:Nat):Int):=by rw [ax (by omega) (by omega)]; omega
   obtain ⟨p,e1,e2⟩:=Mi t2.rd hs;refine ⟨_,_,_,t1.ld kE zq,_,_,_,t1.ld kE zq,p,by rw [hw]; exact e1,_,e2,_,_,_,t1.ld kE zq,_,_,_,t1.ld kE zq,?_⟩;dsimp only;rw [hw];obtain ⟨b,m,d,x1,x2,x3⟩:=t2.upto kE Hz (z:=T.length - 1) (by rw [lM]; omega) (by rw [lM]; omega);rw [<-List.map_take] at x2;obtain ⟨u,y1,y2,y3⟩:=q.st.put w x2 (fun tv' ht'=>by
    have:Value.slice ta T.length tc=tv':=by
     have:=t1.symm.trans ht';injection this with this; injection this with this; injection this with this
    rw [<-this]; exact x3)
   refine ⟨b,m,d,x1,u,y1,M9 nx.1 ?_⟩;have hsN:=(q.inv.tin s p3).1;obtain ⟨l,hl⟩: ∃ l,A[s]?=some l:=⟨_,gE (by omega)⟩
   refine (nx.2 _ y3 s l hl).mono ?_;rintro _ g2 ⟨b',m',d',rfl,rd,rfl⟩;refine ⟨b',m',d',rfl,?_⟩;have hT':(T.take (T.length - 1)).length=T.length - 1:=by rw [length_take]; omega
   exact Ko w hN hAin hl (hAl l (List.mem_of_getElem? hl)) rd mz2 (by omega) m' (j:=0) ⟨by omega,by omega,L,T.take (T.length - 1),⟨y2,q.inv.take p1 p2,by omega⟩,hF,by omega,fun z hz=>(by rw [take_zero] at hz; cases hz),q.inv.snd s (q.inv.tin s p3).2⟩
  ·have g1:=dF g1;obtain rfl:T=[]:=List.eq_nil_of_length_eq_zero (by omega);exact ⟨_,_,_,q.st.b7.ld Fw L9,kt,L,rfl,q.st.row,q.inv.final hF⟩)
theorem uW (w:Wf h)(hN:N<=1000)(hA:A.length=N)(hAin: ∀ l∈A,∀ x∈l,x < N)(hAl: ∀ l∈A,l.length<=100000)(nx:xf h f kn A)(rf:Rd h 3 (.slice a n c) (F.map iv))(hF: ∀ x∈F,x < N)(hFl:F.length<=100000):
  FW SS 61 [.int .i64 (N:Int),.slice a n c,.func (.func f) ⟨[]⟩ ⟨[.pointer (some ⟨kn,0,none⟩)]⟩] h (sQ h A F N):=by
 have b0:=BR.new w N;have hal46:aB SS.P 46=some (.cells [.slice none 0 0] 46 0 true,gk):=by kernel_rfl
 have hal48:aB SS.P 48=some (.cells [.slice none 0 0] 48 0 true,gk):=by kernel_rfl
 refine EL (N:Int) a n c f kn h _ ⟨_,_,_,NJ N (by omega),_,hal46,?_⟩;have o0:=b0.row.ok;have lt0:=b0.row.lt;have n0:=b0.row.new;generalize h.push (.cells ((List.replicate N false).map Value.bool) 4 1 true)=g0 at *;have o1:=(Ok.refl o0.wf).push (.cells [.slice none 0 0] 46 0 true);have k1:Bx1 (g0.push (.cells [.slice none 0 0] 46 0 true)) g0.next 46 (.slice none 0 0):=aq g0 _;refine ⟨_,k1.st Na (cY _ _ _) rfl,_,hal48,?_⟩;obtain ⟨o2,k2⟩:=dL (cs:=[.slice (some ⟨h.next,0,none⟩) N N]) o0.wf o1 k1 (le_refl _);generalize (Upd.set g0.next (.cells [.slice (some ⟨h.next,0,none⟩) N N] 46 0 true)).app (g0.push (.cells [.slice none 0 0] 46 0 true))=g1 at *;have o3:=(Ok.refl o2.wf).push (.cells [.slice none 0 0] 48 0 true);have k3:Bx1 (g1.push (.cells [.slice none 0 0] 48 0 true)) g1.next 48 (.slice none 0 0):=aq g1 _;have l1:=o2.nx;have l2:=o2.wf _ _ k2;have l0:=o0.nx;have st:Sst h g0.next g1.next h.next N (List.replicate N false) [] (g1.push (.cells [.slice none 0 0] 48 0 true)):=
  ⟨Bx1.ok (show Bx1 g1 g0.next 46 _ from k2) o3,⟨_,k3,OwnG.nil _ _ _,by simp [aM],by simp [aM],by simp [aM]⟩,(b0.trans o2).trans o3,by omega,by omega,by omega,by omega,by omega⟩
 generalize g1.push (.cells [.slice none 0 0] 48 0 true)=g2 at *;have hc:Num.cntF (List.replicate N false)=N:=by simp [Num.cntF]
 refine oF (N:Int) a n c f kn g0.next g1.next (OR h A F g0.next g1.next h.next N n) (sQ h A F N) (fun mz i=> ?_) n (i:=0) ⟨by omega,rfl,_,_,⟨st,Num.sinv_new N _,by rw [hc]; simp⟩,fun x hx=>(by rw [take_zero] at hx; cases hx)⟩;intros; rename_i gg hi;obtain ⟨f1,f2,L,T,q,hz⟩:=hi;have hn:=Hr rf;refine ae (fun q1=> ?_) (fun q1=> ?_)
 ·have q1:=dT q1;obtain ⟨x,hx⟩: ∃ x,F[i]?=some x:=⟨_,gE (by omega)⟩
  obtain ⟨p,e1,e2⟩:=Mi (rf.ok q.st.row.row.ok) hx;have hxF:=List.mem_of_getElem? hx;refine ⟨_,e1,_,e2,(zG w hN q (hF x hxF) (.base hxF)).mono ?_⟩;rintro _ g3 ⟨rfl,L',T',q',h1,h2,h3⟩;refine ⟨rfl,?_⟩;rw [aG (i:=i) (n:=n) (by omega) (by omega)];refine cA (mz - 1) (by omega) ⟨by omega,by omega,L',T',q',fun z hz'=> ?_⟩;rw [take_add_one,hx] at hz';rcases mem_append.1 hz' with h4 | h4
  ·exact h1 z (hz z h4)
  ·have:z=x:=by simpa using h4
   rw [this]; exact h2
 ·have q1:=dF q1;rw [take_of_length_le (by omega)] at hz;exact JD w hN hA hAin hAl nx (2*Num.cntF L+T.length) (dm:=0) ⟨L,T,q,hz,le_refl _⟩
end
end
section
theorem aN {α:Type}{l:List α}{i j:Nat}{x y:α}(h:(l.set i x)[j]?=some y):(j=i/\y=x)\/(j≠i/\l[j]?=some y):=by
 rw [getElem?_set] at h;split at h
 ·next e=>
  split at h
  ·exact .inl ⟨e.symm,(oI h).symm⟩
  ·cases h
 ·next e=>exact .inr ⟨fun c=>e c.symm,h⟩
structure Fam (hb g:Heap)(X:Nat->Prop)(vs:List Value)(F:List (List Nat)):Prop where
 len:vs.length=F.length
 own: ∀ (i:Nat)(v:Value)(l:List Nat),vs[i]?=some v->F[i]?=some l->OwnG hb g 3 v (l.map iv)
 dis: ∀ (i j:Nat)(v v':Value),i≠j->vs[i]?=some v->vs[j]?=some v'-> ∀ k,aM v=some k->aM v'≠some k
 out: ∀ (i:Nat)(v:Value),vs[i]?=some v-> ∀ k,aM v=some k-> ¬ X k
section
variable {hb g:Heap} {X:Nat->Prop} {vs:List Value} {F:List (List Nat)}
theorem Fam.keep (f:Fam hb g X vs F){g':Heap}(h: ∀ (k:Nat) (B:Blk),¬ X k->g.get k=some B->g'.get k=some B):Fam hb g' X vs F:=
 ⟨f.len,fun i v l hv hl=>(f.own i v l hv hl).keep fun k B hk hB=>h k B (f.out i v hv k hk) hB,f.dis,f.out⟩
theorem Fam.ok (f:Fam hb g X vs F){g':Heap}(o:Ok g g'):Fam hb g' X vs F:=f.keep fun k B _ hB=>o.ext k B hB
theorem Fam.at_ (f:Fam hb g X vs F){i:Nat}{l:List Nat}(hl:F[i]?=some l): ∃ (a:Option Addr)(c:Nat),vs[i]?=some (.slice a l.length c)/\OwnG hb g 3 (.slice a l.length c) (l.map iv):=by
 have hi:=(List.getElem?_eq_some_iff.1 hl).1;obtain ⟨v,hv⟩: ∃ v,vs[i]?=some v:=⟨_,gE (by rw [f.len]; exact hi)⟩
 have o:=f.own i v l hv hl;obtain ⟨a,c,rfl⟩:=o.slc;rw [lM] at *;exact ⟨a,c,hv,o⟩
theorem Fam.snoc (w:Wf hb)(ok:Ok hb g)(f:Fam hb g X vs F)(hX: ∀ k,X k->k < g.next){idx:Nat}{v:Value}{l:List Nat}(hv:vs[idx]?=some v)(hl:F[idx]?=some l){x:Nat}{kx:Nat}(hkx:g.get kx=some (.cells [.int .i64 (x:Int)] 3 1 true))(hll:l.length<=100000):
  ∃ (b:Option Addr)(n c:Nat)(u:Upd),aO SS.P 48 48 v (.slice (some ⟨kx,0,none⟩) 1 1) g=some (.slice b n c,u)/\n=l.length+1/\Fam hb (u.app g) X (vs.set idx (.slice b n c)) (F.set idx (l++[x]))/\Ok hb (u.app g)/\
   (∀ j B,g.get j=some B->aM v≠some j->(u.app g).get j=some B)/\g.next<=(u.app g).next:=by
 have ov:=f.own idx v l hv hl;obtain ⟨b,n,c,u,a1,a2,a3,a4,a5,a6,a7⟩:=CG w ok ov hkx (by rw [lM]; exact hll);rw [lM] at a2;refine ⟨b,n,c,u,a1,a2,⟨by rw [length_set,length_set]; exact f.len,fun i v' l' hv' hl'=> ?_,fun i j v1 v2 hij h1 h2 k hk1 hk2=> ?_,fun i v' hv' k hk hXk=> ?_⟩,a4,a5,a7⟩
 ·rcases aN hv' with ⟨e1,rfl⟩ | ⟨e1,h1⟩
  ·rcases aN hl' with ⟨_,rfl⟩ | ⟨e2,_⟩
   ·rw [List.map_append]; exact a3
   ·exact absurd e1 e2
  ·rcases aN hl' with ⟨e2,_⟩ | ⟨_,h2⟩
   ·exact absurd e2 e1
   ·exact (f.own i v' l' h1 h2).keep fun k B hk hB=>a5 k B hB fun c=>f.dis i idx v' v e1 h1 hv k hk c
 ·have lt: ∀ (j:Nat)(v2:Value),vs[j]?=some v2->aM v2=some k->k < g.next:=fun j v2 h2 hk2=>by
   obtain ⟨l2,hl2⟩: ∃ l2,F[j]?=some l2:=⟨_,gE (by rw [<-f.len]; exact (List.getElem?_eq_some_iff.1 h2).1)⟩
   exact ((f.own j v2 l2 h2 hl2).lt ok.wf hk2).1
  rcases aN h1 with ⟨e1,rfl⟩ | ⟨e1,h1⟩
  ·rcases aN h2 with ⟨e2,_⟩ | ⟨e2,h2⟩
   ·exact hij (by rw [e1,e2])
   ·rcases a6 k hk1 with h3 | h3
    ·have:=lt j v2 h2 hk2; omega
    ·exact f.dis idx j v v2 (fun c=>e2 c.symm) hv h2 k h3 hk2
  ·rcases aN h2 with ⟨e2,rfl⟩ | ⟨e2,h2⟩
   ·rcases a6 k hk2 with h3 | h3
    ·have:=lt i v1 h1 hk1; omega
    ·exact f.dis idx i v v1 (fun c=>e1 c.symm) hv h1 k h3 hk1
   ·exact f.dis i j v1 v2 hij h1 h2 k hk1 hk2
 ·rcases aN hv' with ⟨e1,rfl⟩ | ⟨e1,h1⟩
  ·rcases a6 k hk with h3 | h3
   ·have:=hX k hXk; omega
   ·exact f.out idx v hv k h3 hXk
  ·exact f.out i v' h1 k hk hXk
end
structure Us (hb:Heap)(R:Nat)(kt:Nat->Nat)(N:Nat)(X:Nat->Prop)(vs:List Value)(F:List (List Nat))(g:Heap):Prop where
 cc: ∀ r,r < R->g.get (kt r)=some (.cells ((vs.drop (r*N)).take N) 48 1 true)
 fam:Fam hb g X vs F
 ok:Ok hb g
 len:F.length=R*N+1
 xt: ∀ r,r < R->X (kt r)/\hb.next<=kt r
 inj: ∀ r r',r < R->r' < R->r≠r'->kt r≠kt r'
 xlt: ∀ k,X k->k < g.next
section
variable {hb g:Heap} {R:Nat} {kt:Nat->Nat} {N:Nat} {X:Nat->Prop} {vs:List Value} {F:List (List Nat)}
theorem Us.ext (s:Us hb R kt N X vs F g){g':Heap}(o:Ok g g'):Us hb R kt N X vs F g':=
 ⟨fun r hr=>o.ext _ _ (s.cc r hr),s.fam.ok o,s.ok.trans o,s.len,s.xt,s.inj,fun k hk=>lt_of_lt_of_le (s.xlt k hk) o.nx⟩
theorem IG {r i:Nat}(hr:r < R)(hi:i < N):r*N+i < R*N+1:=by
 have:(r+1)*N<=R*N:=mul_le_mul_right _ hr;rw [add_mul,one_mul] at this;omega
theorem Us.ld (s:Us hb R kt N X vs F g){r i:Nat}(hr:r < R)(hi:i < N): ∃ (l:List Nat)(a:Option Addr)(c:Nat),F[r*N+i]?=some l/\vs[r*N+i]?=some (.slice a l.length c)/\ah SS.P 72 (.slice (some ⟨kt r,0,none⟩) N N) (.int .i64 (i:Int))=some (.pointer (some ⟨kt r,i,none⟩))/\ ∀ g',Us hb R kt N X vs F g'->ag SS.P 48 g' (.pointer (some ⟨kt r,i,none⟩))=some (.slice a l.length c)/\Rd g' 3 (.slice a l.length c) (l.map iv):=by
 have hlt:=IG hr hi;obtain ⟨l,hl⟩: ∃ l,F[r*N+i]?=some l:=⟨_,gE (by rw [s.len]; exact hlt)⟩
 obtain ⟨a,c,hv,_⟩:=s.fam.at_ hl;refine ⟨l,a,c,hl,hv,?_,fun g' s'=>⟨?_,?_⟩⟩
 ·have:=FF (P:=SS.P) s9 Af (k:=kt r) (off:=0) (n:=N) (c:=N) (ik:= .i64) (i:=(i:Int)) (by omega) (by omega);rw [this,toNat_natCast,zero_add,mul_one]
 ·have h1:((vs.drop (r*N)).take N)[i]?=some (.slice a l.length c):=by rw [getElem?_take,if_pos hi,getElem?_drop]; exact hv
  rw [cM kE zq (s'.cc r hr) (List.getElem?_eq_some_iff.1 h1).1,gD,h1]; rfl
 ·exact (s'.fam.own _ _ _ hv hl).rd
theorem tU {α:Type}(vs:List α)(o N i:Nat)(x:α)(hi:i < N):((vs.set (o+i) x).drop o).take N=((vs.drop o).take N).set i x:=by
 rw [List.drop_set,if_neg (by omega),show o+i - o=i by omega,List.take_set]
theorem pg {α:Type}(vs:List α)(o N j:Nat)(x:α)(h:j < o\/o+N<=j):((vs.set j x).drop o).take N=(vs.drop o).take N:=by
 apply List.ext_getElem?;intro i;rw [getElem?_take,getElem?_take,getElem?_drop,getElem?_drop];split
 ·rw [getElem?_set,if_neg (by omega)]
 ·rfl
theorem Us.put (w:Wf hb)(s:Us hb R kt N X vs F g){r i:Nat}(hr:r < R)(hi:i < N){vs':List Value}{F':List (List Nat)}{b:Option Addr}{n c:Nat}{l':List Nat}(ev:vs'=vs.set (r*N+i) (.slice b n c))(eF:F'=F.set (r*N+i) l'){g2:Heap}(fm:Fam hb g2 X vs' F')(ok2:Ok hb g2)(hk: ∀ j B,g.get j=some B->X j->g2.get j=some B)(hn:g.next<=g2.next):
  ∃ u:Upd,ai SS.P 48 (.pointer (some ⟨kt r,i,none⟩)) (.slice b n c) g2=some (undef,u)/\Us hb R kt N X vs' F' (u.app g2)/\(∀ j B,g2.get j=some B->j≠kt r->(u.app g2).get j=some B):=by
 have hc:=hk _ _ (s.cc r hr) (s.xt r hr).1;have hlt:=IG hr hi;have hl:i < ((vs.drop (r*N)).take N).length:=by
  have h1:(R*N+1)=vs.length:=by rw [s.fam.len,s.len]
  have h2:(r+1)*N<=R*N:=mul_le_mul_right _ hr;rw [add_mul,one_mul] at h2;rw [length_take,length_drop]; omega
 refine ⟨_,j6 Af hc hl (cY _ _ _) rfl,?_,fun j B hj hne=> ?_⟩
 ·have hset: ∀ j,j≠kt r->((Upd.set (kt r) (.cells (((vs.drop (r*N)).take N).set i (.slice b n c)) 48 1 true)).app g2).get j=g2.get j:=fun j hj=>by
   show (g2.set (kt r) _).get j=_;rw [Heap.get_set,if_neg hj]
  refine ⟨fun r' hr'=> ?_,fm.keep fun k B hX hB=> ?_,ok2.set _ (s.xt r hr).2 (ok2.wf _ _ hc) w,by rw [eF,length_set]; exact s.len,s.xt,s.inj,fun k hX=>lt_of_lt_of_le (s.xlt k hX) hn⟩
  ·by_cases e:r'=r
   ·subst e;show (g2.set (kt r') _).get (kt r')=_;rw [Heap.get_set,if_pos rfl,ev,tU _ _ _ _ _ hi]
   ·rw [hset _ (s.inj r' r hr' hr e),hk _ _ (s.cc r' hr') (s.xt r' hr').1,ev,pg];rcases lt_or_ge r r' with h1 | h1
    ·have:=mul_le_mul_right N (show r+1<=r' from h1);rw [add_mul,one_mul] at this;exact .inl (by omega)
    ·have:=mul_le_mul_right N (show r'+1<=r by omega);rw [add_mul,one_mul] at this;exact .inr (by omega)
  ·rw [hset k (fun c=>hX (c ▸ (s.xt r hr).1))]; exact hB
 ·show (g2.set (kt r) _).get j=_;rw [Heap.get_set,if_neg hne]; exact hj
theorem Us.adj (s:Us hb R kt N X vs F g){r:Nat}(hr:r < R):AdjR g (some ⟨kt r,0,none⟩) N N ((F.drop (r*N)).take N):=by
 have h2:(r+1)*N<=R*N:=mul_le_mul_right _ hr;rw [add_mul,one_mul] at h2;have hF:=s.len;have hv:=s.fam.len;have l1:((vs.drop (r*N)).take N).length=N:=by rw [length_take,length_drop]; omega
 refine ⟨by rw [length_take,length_drop]; omega,(vs.drop (r*N)).take N,.inr ⟨kt r,0,_,N,true,by rw [l1],s.cc r hr,by rw [drop_zero,List.take_length]⟩,l1,fun i l hl=> ?_⟩;rw [getElem?_take] at hl;split at hl
 ·next hi=>
  rw [getElem?_drop] at hl;obtain ⟨a,c,h3,h4⟩:=s.fam.at_ hl;exact ⟨a,_,c,by rw [getElem?_take,if_pos hi,getElem?_drop]; exact h3,h4.rd⟩
 ·cases hl
end
theorem rA {g:Heap}(w:Wf g){n j:Nat}(hj:j < n)(B:Blk):Ok g (ay (Go.Ab.room g n) g.next [(j,B)])/\(ay (Go.Ab.room g n) g.next [(j,B)]).get (g.next+j)=some B:=by
 refine ⟨((Ok.refl w).room n).set B (Nat.le_add_right _ _) (Nat.add_lt_add_left hj _) w,?_⟩;show ((Go.Ab.room g n).set (g.next+j) B).get (g.next+j)=_;rw [Heap.get_set,if_pos rfl]
end
noncomputable def be:FD:=cD Tryz.f41 [([1,1,1,1,0,1,0,0],[1,2,3,4,5,6,22,23,24]),([1,1,1,1,0,1,0,0,1,1,0,0,1,1,1,0,0],[1,2,3,4,5,6,7,8,22,23,24,37,38,39]),([1,1,1,1,1,1,0,1,0,0],[11,77,78,79])]
abbrev dt (k k4 k5:Nat)(a:OA)(n c:Nat)(i:Nat)(e:OA)(en ec:Nat):LV:=[(pA k),nA,(iA n),(pA k4),(pA k5),(.slice e en ec),(.slice a n c),(iA n),(iA i)]
abbrev ei (k k4 k5:Nat)(a:OA)(n c k8:Nat)(e:OA)(en ec:Nat)(b:OA)(m d i:Nat)(j:Nat):LV:=[(pA k),nA,(iA n),(pA k4),(pA k5),(.slice e en ec),(iA i),(pA k8),(.slice a n c),(iA n),(iA i),(.slice b m d),(iA m),(iA j)]
abbrev fq (n kl kr:Nat)(i:Nat):LV:=[(sA kl n n),(sA kr n n),(iA n),(iA i)]
theorem E3 (mv:LV)(h:Heap)(Q:VH)(hx:xN (dU SS.P 24 (.agg ⟨mv⟩)) h fun B1 g2=>xP (af SS.P 24 (pA (h.next)) 3) fun p3=>xL (ag SS.P 22 g2 (.pointer (some p3))) fun a4 n5 c6=>zR (aU SS.P 72 (iA n5) (iA n5)) fun B7 n8 c9=>zR (aU SS.P 72 (iA n5) (iA n5)) fun B10 n11 c12=>zN (aB SS.P 72) fun B13=>zN (aB SS.P 72) fun B14=>xU (ai SS.P 72 (pA (g2.next+4)) (sA (g2.next+1) n8 c9) (ay (room g2 8) g2.next [(5,B14),(4,B13),(1,B7)])) (ay (room g2 8) g2.next [(5,B14),(4,B13),(1,B7)]) fun u15 g16=>xU (ai SS.P 72 (pA (g2.next+5)) (sA (g2.next+3) n11 c12) (ay g16 g2.next [(3,B10)])) (ay g16 g2.next [(3,B10)]) fun u17 g18=>xP (af SS.P 24 (pA (h.next)) 3) fun p19=>xL (ag SS.P 22 g18 (.pointer (some p19))) fun a20 n21 c22=>LL SS be [1,1,1,1,0,1,0,0] [(pA (h.next)),nA,(iA n5),(pA (g2.next+4)),(pA (g2.next+5)),nA,(.slice a20 n21 c22),(iA n21),(.int .i64 0)] g18 (KK SS be [1,1,1,1,0,1,0] [] (EE SS be Q))):FW SS 41 [(.agg ⟨mv⟩)] h Q:=cE be Tryz.func41 (aj hx)
theorem oN (mv:LV)(k k4 k5:Nat)(a:OA)(n c:Nat)(Inv:Nat->Nat->OA->Nat->Nat->Heap->Prop)(Q:VH)(step: ∀ (mz:Nat) (i:Nat) (e:OA) (en ec:Nat) (zz:Nat->Value) (h:Heap),Inv mz i e en ec h->az (decide (((i:Int):Int) < (n:Int))) (xP (ah SS.P 22 (.slice a n c) (iA i)) fun p23=>xA (ag SS.P 37 h (.pointer (some p23))) fun c24=>xN (aB SS.P 37) h fun B25 g26=>xU (ai SS.P 37 (pA (h.next)) (.agg ⟨c24⟩) g26) g26 fun u27 g28=>xP (af SS.P 37 (pA (h.next)) 0) fun p29=>xS (ag SS.P 9 g28 (.pointer (some p29))) fun l30=>az (!((l30:LB) == [])) (xR (an SS.P 48 1 [(0,(iA i))]) g28 fun B31 n32 c33 g34=>xE (aO SS.P 48 48 (.slice e en ec) (sA (g28.next) n32 c33) g34) g34 fun a35 n36 c37 u38 g39=>xP (af SS.P 37 (pA (h.next)) 1) fun p40=>xL (ag SS.P 35 g39 (.pointer (some p40))) fun a41 n42 c43=>LL SS be [1,1,1,1,0,1,0,0,1,1,0,0,1,1,1,0,0] (ei k k4 k5 a n c (h.next) a35 n36 c37 a41 n42 c43 i 0) g39 (KK SS be [1,1,0,0,1,1,1,0] [1,1,1,1,0,1,0,0] (RR be [1,1,1,1,0,1,0,0] (xg (dt k k4 k5 a n c) Inv) mz (KK SS be [1,1,1,1,0,1,0] [] (EE SS be Q))))) (xP (af SS.P 37 (pA (h.next)) 1) fun p44=>xL (ag SS.P 35 g28 (.pointer (some p44))) fun a45 n46 c47=>LL SS be [1,1,1,1,0,1,0,0,1,1,0,0,1,1,1,0,0] (ei k k4 k5 a n c (h.next) e en ec a45 n46 c47 i 0) g28 (KK SS be [1,1,0,0,1,1,1,0] [1,1,1,1,0,1,0,0] (RR be [1,1,1,1,0,1,0,0] (xg (dt k k4 k5 a n c) Inv) mz (KK SS be [1,1,1,1,0,1,0] [] (EE SS be Q)))))) (xP (af SS.P 24 (pA k) 1) fun p48=>xI .i64 (ag SS.P 3 h (.pointer (some p48))) fun n49=>xR (an SS.P 48 1 [(0,(.int .i64 n49))]) h fun B50 n51 c52 g53=>FW SS 61 [(iA n),(sA (h.next) n51 c52),(.func (.func 62) ⟨[]⟩ ⟨[(pA k4)]⟩)] g53 fun v54 h55=>yL v54 fun a56 n57 c58=>FW SS 61 [(iA n),(.slice e en ec),(.func (.func 63) ⟨[]⟩ ⟨[(pA k5)]⟩)] h55 fun v59 h60=>yL v59 fun a61 n62 c63=>LL SS be [1,1,1,1,1,1,0,1,0,0] [(.slice a56 n57 c58),(.slice a61 n62 c63),(iA n62),(.int .i64 0)] h60 (KK SS be [1,1,1,1,1,1,0,1,0] [] (EE SS be Q))))(mz:Nat){i:Nat}{e:OA}{en ec:Nat}{h:Heap}(hi:Inv mz i e en ec h):LL SS be [1,1,1,1,0,1,0,0] (dt k k4 k5 a n c i e en ec) h (KK SS be [1,1,1,1,0,1,0] [] (EE SS be Q)):=
 xp (dt k k4 k5 a n c) Inv (fun mz i e en ec zz h hi=>aj (step mz i e en ec zz h hi)) mz hi
theorem nU (mv:LV)(k k4 k5:Nat)(a:OA)(n c:Nat)(k8:Nat)(e:OA)(en ec:Nat)(b:OA)(m d:Nat)(Inv:Nat->Nat->OA->Nat->Nat->Heap->Prop)(mz i:Nat)(Inv2:Nat->Nat->Heap->Prop)(Q:VH)(step: ∀ (mz2:Nat) (j:Nat) (zz:Nat->Value) (h:Heap),Inv2 mz2 j h->az (decide (((j:Int):Int) < (m:Int))) (xP (ah SS.P 35 (.slice b m d) (iA j)) fun p64=>xA (ag SS.P 39 h (.pointer (some p64))) fun c65=>xN (aB SS.P 39) h fun B66 g67=>xU (ai SS.P 39 (pA (h.next)) (.agg ⟨c65⟩) g67) g67 fun u68 g69=>xL (ag SS.P 72 (room g69 12) (pA k4)) fun a70 n71 c72=>xL (ag SS.P 72 (room g69 12) (pA k4)) fun a73 n74 c75=>xP (ah SS.P 72 (.slice a73 n74 c75) (iA i)) fun p76=>xL (ag SS.P 48 (room g69 12) (.pointer (some p76))) fun a77 n78 c79=>xP (af SS.P 39 (pA (h.next)) 3) fun p80=>xI .i64 (ag SS.P 3 (room g69 12) (.pointer (some p80))) fun n81=>zR (an SS.P 48 1 [(0,(.int .i64 n81))]) fun B82 n83 c84=>xE (aO SS.P 48 48 (.slice a77 n78 c79) (sA (g69.next+8) n83 c84) (ay (room g69 12) g69.next [(8,B82)])) (ay (room g69 12) g69.next [(8,B82)]) fun a85 n86 c87 u88 g89=>xP (ah SS.P 72 (.slice a70 n71 c72) (iA i)) fun p90=>xU (ai SS.P 48 (.pointer (some p90)) (.slice a85 n86 c87) g89) g89 fun u91 g92=>(ag SS.P 72 g89 (pA k4)=some (.slice a70 n71 c72)/\d7 4 (.slice a70 n71 c72) (.slice a70 n71 c72)=true)/\xL (ag SS.P 72 (room g92 13) (pA k5)) fun a93 n94 c95=>xP (af SS.P 39 (pA (h.next)) 3) fun p96=>xI .i64 (ag SS.P 3 (room g92 13) (.pointer (some p96))) fun n97=>xL (ag SS.P 72 (room g92 13) (pA k5)) fun a98 n99 c100=>xP (af SS.P 39 (pA (h.next)) 3) fun p101=>xI .i64 (ag SS.P 3 (room g92 13) (.pointer (some p101))) fun n102=>xP (ah SS.P 72 (.slice a98 n99 c100) (.int .i64 n102)) fun p103=>xL (ag SS.P 48 (room g92 13) (.pointer (some p103))) fun a104 n105 c106=>zR (an SS.P 48 1 [(0,(iA i))]) fun B107 n108 c109=>xE (aO SS.P 48 48 (.slice a104 n105 c106) (sA (g92.next+9) n108 c109) (ay (room g92 13) g92.next [(9,B107)])) (ay (room g92 13) g92.next [(9,B107)]) fun a110 n111 c112 u113 g114=>xP (ah SS.P 72 (.slice a93 n94 c95) (.int .i64 n97)) fun p115=>xU (ai SS.P 48 (.pointer (some p115)) (.slice a110 n111 c112) g114) g114 fun u116 g117=>(ag SS.P 72 g114 (pA k5)=some (.slice a93 n94 c95)/\d7 4 (.slice a93 n94 c95) (.slice a93 n94 c95)=true)/\(ag SS.P 3 g114 (.pointer (some p96))=some (.int .i64 n97)/\d7 4 (.int .i64 n97) (.int .i64 n97)=true)/\aF (ga (ei k k4 k5 a n c k8 e en ec b m d i) Inv2) mz2 [(pA k),nA,(iA n),(pA k4),(pA k5),(.slice e en ec),(iA i),(pA k8),(.slice a n c),(iA n),(iA i),(.slice b m d),(iA m),(.int .i64 (wrap .i64 ((j:Int)+1)))] g117) (aF (xg (dt k k4 k5 a n c) Inv) mz [(pA k),nA,(iA n),(pA k4),(pA k5),(.slice e en ec),(.slice a n c),(iA n),(.int .i64 (wrap .i64 ((i:Int)+1)))] h))(mz2:Nat){j:Nat}{h:Heap}(hi:Inv2 mz2 j h):LL SS be [1,1,1,1,0,1,0,0,1,1,0,0,1,1,1,0,0] (ei k k4 k5 a n c k8 e en ec b m d i j) h (KK SS be [1,1,0,0,1,1,1,0] [1,1,1,1,0,1,0,0] (RR be [1,1,1,1,0,1,0,0] (xg (dt k k4 k5 a n c) Inv) mz (KK SS be [1,1,1,1,0,1,0] [] (EE SS be Q)))):=
 cP (ei k k4 k5 a n c k8 e en ec b m d i) Inv2 (fun mz2 j zz h hi=>aj (step mz2 j zz h hi)) mz2 hi
theorem nY (mv:LV)(n kl kr:Nat)(Inv3:Nat->Nat->Heap->Prop)(Q:VH)(step: ∀ (mz3:Nat) (i:Nat) (zz:Nat->Value) (h:Heap),Inv3 mz3 i h->az (decide (((i:Int):Int) < (n:Int))) (xP (ah SS.P 46 (sA kr n n) (iA i)) fun p118=>xB (ag SS.P 4 h (.pointer (some p118))) fun b119=>xP (ah SS.P 46 (sA kl n n) (iA i)) fun p120=>xB (ag SS.P 4 h (.pointer (some p120))) fun b121=>az b121 (xP (ah SS.P 46 (sA kl n n) (iA i)) fun p122=>xU (ai SS.P 4 (.pointer (some p122)) (.bool b119) h) h fun u123 g124=>aF (ga (fq n kl kr) Inv3) mz3 [(sA kl n n),(sA kr n n),(iA n),(.int .i64 (wrap .i64 ((i:Int)+1)))] g124) (xP (ah SS.P 46 (sA kl n n) (iA i)) fun p125=>xU (ai SS.P 4 (.pointer (some p125)) (.bool false) h) h fun u126 g127=>aF (ga (fq n kl kr) Inv3) mz3 [(sA kl n n),(sA kr n n),(iA n),(.int .i64 (wrap .i64 ((i:Int)+1)))] g127)) (Q (sA kl n n) h))(mz3:Nat){i:Nat}{h:Heap}(hi:Inv3 mz3 i h):LL SS be [1,1,1,1,1,1,0,1,0,0] (fq n kl kr i) h (KK SS be [1,1,1,1,1,1,0,1,0] [] (EE SS be Q)):=
 cP (fq n kl kr) Inv3 (fun mz3 i zz h hi=>aj (step mz3 i zz h hi)) mz3 hi
noncomputable def HK:FD:=cD Tryz.f18 []
theorem DN (mv:LV)(h:Heap)(Q:VH)(hx:xN (dU SS.P 24 (.agg ⟨mv⟩)) h fun B1 g2=>xA (ag SS.P 24 (room g2 12) (pA (h.next))) fun c3=>FW SS 10 [(.agg ⟨c3⟩)] (room g2 12) fun v4 h5=>yB v4 fun b6=>az b6 (xA (ag SS.P 24 h5 (pA (h.next))) fun c7=>FW SS 41 [(.agg ⟨c7⟩)] h5 fun v8 h9=>yL v8 fun a10 n11 c12=>xP (af SS.P 24 (pA (h.next)) 1) fun p13=>xI .i64 (ag SS.P 3 h9 (.pointer (some p13))) fun n14=>xP (ah SS.P 46 (.slice a10 n11 c12) (.int .i64 n14)) fun p15=>xB (ag SS.P 4 h9 (.pointer (some p15))) fun b16=>(ag SS.P 3 h5 (.pointer (some p13))=some (.int .i64 n14)/\d7 4 (.int .i64 n14) (.int .i64 n14)=true)/\Q (.bool (!b16)) h9) (Q (.bool false) h5)):FW SS 18 [(.agg ⟨mv⟩)] h Q:=cE HK Tryz.func18 (aj hx)
theorem w6 {P:Program}{t:TypeId}{g g':Heap}(o:Ok g g'){a v:Value}(h:ag P t g a=some v):ag P t g' a=some v:=by
 unfold ag at h ⊢;split at h
 ·next d k i hd=>
  split at h
  ·next cs e sz wr hk=>
   rw [o.ext _ _ hk];exact h
  ·cases h
 ·cases h
theorem StRow.at2 {g0 g:Heap}{a:Option Addr}{n c:Nat}{l:List MSt}(r:StRow g0 (.slice a n c) l)(ok:Ok g0 g){i:Nat}{s:MSt}(hs:l[i]?=some s):
  ∃ (b o:Nat)(x:Option Addr)(y z:Nat),ah SS.P 22 (.slice a n c) (.int .i64 (i:Int))=some (.pointer (some ⟨b,o,none⟩))/\ag SS.P 37 g (.pointer (some ⟨b,o,none⟩))=some (.agg ⟨[aa s.f,.slice x y z]⟩)/\
   ag SS.P 9 g (.pointer (some ⟨b,o+0,none⟩))=some (aa s.f)/\ag SS.P 35 g (.pointer (some ⟨b,o+1,none⟩))=some (.slice x y z)/\ArcRow g0 (.slice x y z) s.arcs:=by
 obtain ⟨b,o,x,y,z,e1,e2,e3,e4,ar⟩:=r.at_ hs;exact ⟨b,o,x,y,z,e1,w6 ok e2,w6 ok e3,w6 ok e4,ar⟩
noncomputable def ti48:TypeInfo:=(SS.P.info? 48).getD default
theorem Jf:SS.P.info? 48=some ti48:=by kernel_rfl
theorem Ev:ti48.size=1:=by kernel_rfl
theorem Aq:ti48.bytes=24:=by kernel_rfl
def tZ:Value:= .slice none 0 0
theorem K8:bW SS.P 48=some tZ:=by kernel_rfl
theorem Nj (n:Nat)(hn:n<=100000):aU SS.P 72 (.int .i64 (n:Int)) (.int .i64 (n:Int))=some (.cells (List.replicate n tZ) 48 1 true,gm n n):=by
 unfold aU aP;dsimp only;rw [s9]
 try dsimp only
 change (match SS.P.info? 48,bW SS.P 48 with
  | some i,some z=>(if z.cells.size=i.size/\0 < i.size/\(0:Int)<=(n:Int)/\(n:Int)<=(n:Int)/\(n:Int)*i.bytes<=140737488355328/\(n:Int)<=1099511627776 then some (Blk.cells (bc z.cells.toList (n:Int).toNat) 48 i.size true,fun k=>Value.slice (some ⟨k,0,none⟩) (n:Int).toNat (n:Int).toNat) else none)
  | _,_=>none)=_
 rw [Jf,K8];dsimp only;rw [Ev,Aq,if_pos ⟨rfl,by omega,by omega,Int.le_refl _,by omega,by omega⟩];have e:((n:Int)).toNat=n:=by omega
 rw [e,show (tZ).cells.toList=[tZ] from rfl,lc]; rfl
def nL (s:MSt):List Nat:=s.arcs.map fun q=>q.t.toNat
def bF (M:Mach)(y x:Nat):Prop:= ∃ s,M.states[y]?=some s/\x∈nL s
def jO (M:Mach)(x:Nat):Prop:= ∃ s,M.states[x]?=some s/\s.f≠[]
def bI (M:Mach)(x:Nat):Prop:=Num.Rch (bF M) (fun y=>y=M.start.toNat) x/\Num.Rch (fun y x=>bF M x y) (jO M) x
def I4 (M:Mach)(i j y x:Nat):Prop:=(y < i/\bF M y x)\/(y=i/\ ∃ s,M.states[i]?=some s/\x∈(nL s).take j)
theorem jm {M:Mach}{i y x:Nat}:I4 M i 0 y x↔y < i/\bF M y x:=by
 unfold I4;constructor
 ·rintro (h | ⟨_,s,_,h⟩)
  ·exact h
  ·rw [take_zero] at h; cases h
 ·exact .inl
theorem y8 {M:Mach}{i j y x:Nat}{s:MSt}(hs:M.states[i]?=some s)(hj:s.arcs.length<=j):I4 M i j y x↔y < i+1/\bF M y x:=by
 unfold I4;constructor
 ·rintro (⟨h1,h2⟩ | ⟨rfl,s',h1,h2⟩)
  ·exact ⟨by omega,h2⟩
  ·exact ⟨by omega,s',h1,List.mem_of_mem_take h2⟩
 ·rintro ⟨h1,h2⟩;rcases lt_or_ge y i with h3 | h3
  ·exact .inl ⟨h3,h2⟩
  ·obtain rfl:y=i:=by omega
   obtain ⟨s',h4,h5⟩:=h2;refine .inr ⟨rfl,s',h4,?_⟩;rw [hs] at h4;obtain rfl:=oI h4;rw [take_of_length_le (by unfold nL; rw [lM]; exact hj)];exact h5
theorem yn {M:Mach}{i j y x:Nat}{s:MSt}{q:MArc}(hs:M.states[i]?=some s)(hq:s.arcs[j]?=some q):I4 M i (j+1) y x↔I4 M i j y x\/(y=i/\x=q.t.toNat):=by
 have hq':(nL s)[j]?=some q.t.toNat:=by unfold nL; rw [getElem?_map,hq]; rfl
 have ht:(nL s).take (j+1)=(nL s).take j++[q.t.toNat]:=by rw [take_add_one,hq']; rfl
 unfold I4;constructor
 ·rintro (h | ⟨h1,s',h2,h3⟩)
  ·exact .inl (.inl h)
  ·rw [hs] at h2;obtain rfl:=oI h2;rw [ht,mem_append,mem_singleton] at h3;rcases h3 with h3 | h3
   ·exact .inl (.inr ⟨h1,s,hs,h3⟩)
   ·exact .inr ⟨h1,h3⟩
 ·rintro ((h | ⟨h1,s',h2,h3⟩) | ⟨h1,h2⟩)
  ·exact .inl h
  ·rw [hs] at h2;obtain rfl:=oI h2;exact .inr ⟨h1,s,hs,by rw [ht]; exact mem_append.2 (.inl h3)⟩
  ·exact .inr ⟨h1,s,hs,by rw [ht,h2]; exact mem_append.2 (.inr (mem_singleton.2 rfl))⟩
structure Dn (M:Mach)(n i j i' cN:Nat)(F:List (List Nat)):Prop where
 fw: ∀ y l,y < n->F[0*n+y]?=some l-> ∀ x,x∈l↔I4 M i j y x
 bk: ∀ t l,t < n->F[1*n+t]?=some l-> ∀ x,x∈l↔I4 M i j x t
 en: ∀ l,F[2*n]?=some l-> ∀ x,x∈l↔x < i'/\jO M x
 ln: ∀ l∈F,l.length<=cN
theorem Cb {F:List (List Nat)}{idx:Nat}{l':List Nat}{c:Nat}(h: ∀ l∈F,l.length<=c)(h2:l'.length<=c+1): ∀ l∈F.set idx l',l.length<=c+1:=fun l hl=>by
 rcases List.mem_or_eq_of_mem_set hl with h1 | h1
 ·exact Nat.le_succ_of_le (h l h1)
 ·rw [h1]; exact h2
theorem Dn.arc {M:Mach}{n i j i' cN:Nat}{F:List (List Nat)}(d:Dn M n i j i' cN F)(hi:i < n){s:MSt}{q:MArc}(hs:M.states[i]?=some s)(hq:s.arcs[j]?=some q)(ht:q.t.toNat < n){l1 l2:List Nat}(h1:F[0*n+i]?=some l1)(h2:F[1*n+q.t.toNat]?=some l2):
  Dn M n i (j+1) i' (cN+1) ((F.set (0*n+i) (l1++[q.t.toNat])).set (1*n+q.t.toNat) (l2++[i])):=by
 have b1:=d.ln l1 (List.mem_of_getElem? h1);have b2:=d.ln l2 (List.mem_of_getElem? h2);refine ⟨fun y l hy hl x=> ?_,fun t l ht' hl x=> ?_,fun l hl x=> ?_,fun l hl=> ?_⟩
 ·rw [yn hs hq];rcases aN hl with ⟨e,_⟩ | ⟨_,hl⟩
  ·omega
  ·rcases aN hl with ⟨e,rfl⟩ | ⟨e,hl⟩
   ·obtain rfl:y=i:=by omega
    rw [mem_append,mem_singleton,d.fw y l1 hy h1 x];exact ⟨fun c=>c.imp id fun c=>⟨rfl,c⟩,fun c=>c.imp id fun c=>c.2⟩
   ·rw [d.fw y l hy hl x];exact ⟨.inl,fun c=>c.elim id fun c=>absurd (by rw [c.1]) e⟩
 ·rw [yn hs hq];rcases aN hl with ⟨e,rfl⟩ | ⟨e,hl⟩
  ·obtain rfl:t=q.t.toNat:=by omega
   rw [mem_append,mem_singleton,d.bk _ l2 ht' h2 x];exact ⟨fun c=>c.imp id fun c=>⟨c,rfl⟩,fun c=>c.imp id fun c=>c.1⟩
  ·rcases aN hl with ⟨e',_⟩ | ⟨_,hl⟩
   ·omega
   ·rw [d.bk t l ht' hl x];exact ⟨.inl,fun c=>c.elim id fun c=>absurd (by rw [c.2]) e⟩
 ·rcases aN hl with ⟨e,_⟩ | ⟨_,hl⟩
  ·omega
  ·rcases aN hl with ⟨e,_⟩ | ⟨_,hl⟩
   ·omega
   ·exact d.en l hl x
 ·rcases List.mem_or_eq_of_mem_set hl with h3 | h3
  ·rcases List.mem_or_eq_of_mem_set h3 with h4 | h4
   ·have:=d.ln l h4; omega
   ·rw [h4,length_append,length_singleton]; omega
  ·rw [h3,length_append,length_singleton]; omega
theorem Dn.fin {M:Mach}{n i cN:Nat}{F:List (List Nat)}(d:Dn M n i 0 i cN F)(hi:i < n){s:MSt}(hs:M.states[i]?=some s)(hf:s.f≠[]){l:List Nat}(hl:F[2*n]?=some l):Dn M n i 0 (i+1) (cN+1) (F.set (2*n) (l++[i])):=by
 have b1:=d.ln l (List.mem_of_getElem? hl);refine ⟨fun y l' hy hl' x=> ?_,fun t l' ht hl' x=> ?_,fun l' hl' x=> ?_,Cb d.ln (by rw [length_append,length_singleton]; omega)⟩
 ·rcases aN hl' with ⟨e,_⟩ | ⟨_,h⟩
  ·omega
  ·exact d.fw y l' hy h x
 ·rcases aN hl' with ⟨e,_⟩ | ⟨_,h⟩
  ·omega
  ·exact d.bk t l' ht h x
 ·rcases aN hl' with ⟨_,rfl⟩ | ⟨e,_⟩
  ·rw [mem_append,mem_singleton,d.en l hl x];constructor
   ·rintro (⟨h1,h2⟩ | rfl)
    ·exact ⟨by omega,h2⟩
    ·exact ⟨by omega,s,hs,hf⟩
   ·rintro ⟨h1,h2⟩;rcases lt_or_ge x i with h3 | h3
    ·exact .inl ⟨h3,h2⟩
    ·exact .inr (by omega)
  ·exact absurd rfl e
theorem Dn.nofin {M:Mach}{n i cN:Nat}{F:List (List Nat)}(d:Dn M n i 0 i cN F){s:MSt}(hs:M.states[i]?=some s)(hf:s.f=[]):Dn M n i 0 (i+1) (cN+1) F:=by
 refine ⟨d.fw,d.bk,fun l hl x=> ?_,fun l hl=>Nat.le_succ_of_le (d.ln l hl)⟩;rw [d.en l hl x];constructor
 ·rintro ⟨h1,h2⟩; exact ⟨by omega,h2⟩
 ·rintro ⟨h1,h2⟩;refine ⟨?_,h2⟩;rcases lt_or_ge x i with h3 | h3
  ·exact h3
  ·obtain rfl:x=i:=by omega
   obtain ⟨s',h4,h5⟩:=h2;rw [hs] at h4;obtain rfl:=oI h4;exact absurd hf h5
theorem Dn.next {M:Mach}{n i j cN:Nat}{F:List (List Nat)}(d:Dn M n i j (i+1) cN F){s:MSt}(hs:M.states[i]?=some s)(hj:s.arcs.length<=j):Dn M n (i+1) 0 (i+1) cN F:=by
 refine ⟨fun y l hy hl x=> ?_,fun t l ht hl x=> ?_,d.en,d.ln⟩
 ·rw [d.fw y l hy hl x,y8 hs hj,jm]
 ·rw [d.bk t l ht hl x,y8 hs hj,jm]
theorem Dn.new (M:Mach)(n:Nat):Dn M n 0 0 0 0 (List.replicate (2*n+1) []):=by
 have h: ∀ {i:Nat}{l:List Nat},(List.replicate (2*n+1) ([]:List Nat))[i]?=some l->l=[]:=fun {i l} hl=>by
  rw [getElem?_replicate] at hl;split at hl
  ·exact (oI hl).symm
  ·cases hl
 refine ⟨fun y l hy hl x=> ?_,fun t l ht hl x=> ?_,fun l hl x=> ?_,fun l hl=> ?_⟩
 ·rw [h hl,jm]; exact ⟨fun c=>(by cases c),fun c=>absurd c.1 (Nat.not_lt_zero _)⟩
 ·rw [h hl,jm]; exact ⟨fun c=>(by cases c),fun c=>absurd c.1 (Nat.not_lt_zero _)⟩
 ·rw [h hl]; exact ⟨fun c=>(by cases c),fun c=>absurd c.1 (Nat.not_lt_zero _)⟩
 ·rw [List.eq_of_mem_replicate hl]; exact le_refl _
theorem Us.tail {hb g:Heap}{R:Nat}{kt:Nat->Nat}{N:Nat}{X:Nat->Prop}{vs:List Value}{F:List (List Nat)}(s:Us hb R kt N X vs F g){vs':List Value}{F':List (List Nat)}{v:Value}{l':List Nat}(ev:vs'=vs.set (R*N) v)(eF:F'=F.set (R*N) l'){g2:Heap}(fm:Fam hb g2 X vs' F')(ok2:Ok hb g2)(hk: ∀ j B,g.get j=some B->X j->g2.get j=some B)(hn:g.next<=g2.next):Us hb R kt N X vs' F' g2:=by
 refine ⟨fun r hr=> ?_,fm,ok2,by rw [eF,length_set]; exact s.len,s.xt,s.inj,fun k hX=>lt_of_lt_of_le (s.xlt k hX) hn⟩;have h2:(r+1)*N<=R*N:=mul_le_mul_right _ hr;rw [add_mul,one_mul] at h2;rw [hk _ _ (s.cc r hr) (s.xt r hr).1,ev,pg _ _ _ _ _ (.inr h2)]
theorem Bz (k o n c:Nat):d7 4 (.slice (some ⟨k,o,none⟩) n c) (.slice (some ⟨k,o,none⟩) n c)=true:=by simp [d7]
section
theorem Fam.lt {hb g:Heap}{X:Nat->Prop}{vs:List Value}{F:List (List Nat)}(f:Fam hb g X vs F)(w:Wf g){i:Nat}{v:Value}(hv:vs[i]?=some v){k:Nat}(hk:aM v=some k):k < g.next:=by
 obtain ⟨l2,hl2⟩: ∃ l2,F[i]?=some l2:=⟨_,gE (by rw [<-f.len]; exact (List.getElem?_eq_some_iff.1 hv).1)⟩
 exact ((f.own i v l2 hv hl2).lt w hk).1
def Me (hb:Heap):Nat->Prop:=fun k=>k=hb.next+1\/k=hb.next+3\/k=hb.next+4\/k=hb.next+5
def Ek (hb:Heap):Nat->Nat:=fun r=>hb.next+1+2*r
structure Ub (hb:Heap)(M:Mach)(n i j i' cN:Nat)(vs:List Value)(F:List (List Nat))(g:Heap):Prop where
 us:Us hb 2 (Ek hb) n (Me hb) vs F g
 b4:Bx1 g (hb.next+4) 72 (.slice (some ⟨Ek hb 0,0,none⟩) n n)
 b5:Bx1 g (hb.next+5) 72 (.slice (some ⟨Ek hb 1,0,none⟩) n n)
 dn:Dn M n i j i' cN F
section
variable {hb:Heap} {M:Mach} {a:Option Addr} {n c k:Nat}
def Mt (hb:Heap)(M:Mach)(n:Nat)(mz i:Nat)(e:Option Addr)(en ec:Nat)(g:Heap):Prop:=i<=n/\mz=n - i/\ ∃ vs F cN,Ub hb M n i 0 i cN vs F g/\vs[2*n]?=some (.slice e en ec)/\cN+eO (M.states.drop i)+(n - i)<=2300
def OU (hb:Heap)(M:Mach)(n:Nat)(e:Option Addr)(en ec m i:Nat)(mz2 j:Nat)(g:Heap):Prop:=j<=m/\mz2=m - j/\ ∃ vs F cN,Ub hb M n i j (i+1) cN vs F g/\vs[2*n]?=some (.slice e en ec)/\cN+(m - j)+eO (M.states.drop (i+1))+(n - (i+1))<=2300
set_option linter.defProp false in
def xl (w:Wf hb)(gd:Good M)(hnM:n=M.states.length)(hn:n<=300){s:MSt}{b:Option Addr}{m d i k8:Nat}(hs:M.states[i]?=some s)(hi:i < n)(ar:ArcRow hb (.slice b m d) s.arcs)(hsl:s.arcs.length<=2000)(mv:List Value)(e:Option Addr)(en ec mz:Nat)(hmz:mz=n - i)(Q:VH):=
 nU mv k (hb.next+4) (hb.next+5) a n c k8 e en ec b m d (Mt hb M n) mz i (OU hb M n e en ec m i) Q (by
  intro mz2 j; intros; rename_i g hin;obtain ⟨f1,f2,vs,F,cN,ub,hve,hcN⟩:=hin;have hm:=ar.len;have ok:=ub.us.ok;refine ae (fun g1=> ?_) (fun g1=> ?_)
  ·have g1:=dT g1;obtain ⟨q,hq⟩: ∃ q,s.arcs[j]?=some q:=⟨_,gE (by omega)⟩
   obtain ⟨bb,o,e1,e2,_⟩:=(ar.ok ok).at_ hq;have hin:=gd.arcs s (List.mem_of_getElem? hs) q (List.mem_of_getElem? hq);obtain ⟨T,hT⟩: ∃ T:Nat,q.t=(T:Int):=⟨q.t.toNat,by have:=hin.t0; omega⟩
   have hTn:T < n:=by have:=hin.t1; omega
   have hTq:q.t.toNat=T:=by omega
   obtain ⟨u1,p1,p2,p3⟩:=qH ok.wf q;have l3: ∀ g',AB g' g.next q->ag SS.P 3 g' (.pointer (some ⟨g.next,0+3,none⟩))=some (.int .i64 (T:Int)):=fun g' h=>by rw [<-hT]; exact AB.l3 h
   have hlt: ∀ (idx:Nat)(v:Value),vs[idx]?=some v->aM v≠some g.next:=fun idx v hv e=>by have:=ub.us.fam.lt ok.wf hv e; omega
   have xlt:=ub.us.xlt;have U2:=ub.us.ext p2;have B4:=ub.b4.ok p2;have B5:=ub.b5.ok p2;refine ⟨_,e1,_,e2,_,zJ,u1,p1,?_⟩;generalize u1.app (g.push C7)=g2 at *;have w2:=U2.ok.wf;have oR:=(Ok.refl w2).room 12;obtain ⟨r1,a1,c1,hF1,hv1,ix1,Mh⟩:=U2.ld (r:=0) (i:=i) (by omega) hi;have hr1:=ub.dn.ln r1 (List.mem_of_getElem? hF1);obtain ⟨o8,k8'⟩:=rA w2 (n:=12) (j:=8) (by omega) (.cells [.int .i64 (T:Int)] 3 1 true);have ldR:=(Mh _ (U2.ext oR)).1;have U3:=U2.ext o8;have B43:=B4.ok o8;have B53:=B5.ok o8;have A3:=AB.ok p3 o8;obtain ⟨b',n',c',u78,ap1,en1,fm4,ok4,kp4,nx4⟩:=U3.fam.snoc w U3.ok U3.xlt hv1 hF1 k8' (by omega);have ne1:aM (.slice a1 r1.length c1)≠some g.next:=hlt _ _ hv1;have nX1: ∀ k,Me hb k->aM (.slice a1 r1.length c1)≠some k:=fun k hX e=>U3.fam.out _ _ hv1 k e hX;refine ⟨_,_,_,(B4.ok oR).ld s9 zt,_,_,_,(B4.ok oR).ld s9 zt,_,ix1,_,_,_,ldR,_,fz _ _,_,l3 _ (p3.ok oR),_,_,_,xd _,b',n',c',u78,ap1,_,ix1,?_⟩;generalize ay (Go.Ab.room g2 12) g2.next [(8,.cells [.int .i64 (T:Int)] 3 1 true)]=S at *;have B44:=kp4 _ _ B43 (nX1 _ (.inr (.inr (.inl rfl))));have B54:=kp4 _ _ B53 (nX1 _ (.inr (.inr (.inr rfl))));have A4:=kp4 _ _ A3 ne1;obtain ⟨u80,st1,U5,kp5⟩:=U3.put w (r:=0) (i:=i) (by omega) hi rfl rfl fm4 ok4 (fun j' B' hj hX=>kp4 j' B' hj (nX1 j' hX)) nx4;refine ⟨u80,st1,⟨Bx1.ld s9 zt B44,Bz _ _ _ _⟩,?_⟩;have B45:Bx1 _ _ _ _:=kp5 _ _ B44 (by unfold Ek; omega);have B55:Bx1 _ _ _ _:=kp5 _ _ B54 (by unfold Ek; omega);have A5:AB _ _ q:=kp5 _ _ A4 (by have:=xlt _ (ub.us.xt 0 (by omega)).1; omega);generalize u78.app S=g4 at *;generalize u80.app g4=g5 at *;have w5:=U5.ok.wf;have oR2:=(Ok.refl w5).room 13;obtain ⟨r2,a2,c2,hF2,hv2,ix2,ld2⟩:=U5.ld (r:=1) (i:=T) (by omega) hTn;obtain ⟨o9,k9⟩:=rA w5 (n:=13) (j:=9) (by omega) (.cells [.int .i64 (i:Int)] 3 1 true);have ldR2:=(ld2 _ (U5.ext oR2)).1;have U6:=U5.ext o9;have hv2':vs[1*n+T]?=some (.slice a2 r2.length c2):=by
    rcases aN hv2 with ⟨e,_⟩ | ⟨_,h⟩
    ·omega
    ·exact h
   have hF2':F[1*n+T]?=some r2:=by
    rcases aN hF2 with ⟨e,_⟩ | ⟨_,h⟩
    ·omega
    ·exact h
   have hr2:=ub.dn.ln r2 (List.mem_of_getElem? hF2');have ne2:=hlt _ _ hv2';have nX2: ∀ k,Me hb k->aM (.slice a2 r2.length c2)≠some k:=fun k hX e=>ub.us.fam.out _ _ hv2' k e hX;obtain ⟨b2',n2',c2',u101,ap2,en2,fm7,ok7,kp7,nx7⟩:=U6.fam.snoc w U6.ok U6.xlt hv2 hF2 k9 (by omega);refine ⟨_,_,_,(B55.ok oR2).ld s9 zt,_,fz _ _,_,l3 _ (A5.ok oR2),_,_,_,(B55.ok oR2).ld s9 zt,_,fz _ _,_,l3 _ (A5.ok oR2),_,ix2,_,_,_,ldR2,_,_,_,xd _,b2',n2',c2',u101,ap2,_,ix2,?_⟩;have B46:=kp7 _ _ (B45.ok o9) (nX2 _ (.inr (.inr (.inl rfl))));have B56:=kp7 _ _ (B55.ok o9) (nX2 _ (.inr (.inr (.inr rfl))));have A6:AB _ _ q:=kp7 _ _ (A5.ok o9) ne2;obtain ⟨u103,st2,U8,kp8⟩:=U6.put w (r:=1) (i:=T) (by omega) hTn rfl rfl fm7 ok7 (fun j' B' hj hX=>kp7 j' B' hj (nX2 j' hX)) nx7;refine ⟨u103,st2,⟨Bx1.ld s9 zt B56,Bz _ _ _ _⟩,⟨l3 _ A6,fM _⟩,?_⟩;rw [aG (i:=j) (n:=m) (by omega) (by omega)];have B48:=kp8 _ _ B46 (by unfold Ek; omega);have B58:=kp8 _ _ B56 (by unfold Ek; omega);have D:=ub.dn.arc hi hs hq (by rw [hTq]; exact hTn) hF1 (by rw [hTq]; exact hF2');rw [hTq] at D;refine cA (mz2 - 1) (by omega) ⟨by omega,by omega,_,_,cN+1,⟨U8,B48,B58,D⟩,?_,by omega⟩;rw [getElem?_set,if_neg (by omega),getElem?_set,if_neg (by omega)];exact hve
  ·have g1:=dF g1;obtain rfl:m=j:=by omega
   rw [aG hi (by omega)];exact tf (n - (i+1)) (by omega) ⟨by omega,rfl,vs,F,cN,⟨ub.us,ub.b4,ub.b5,ub.dn.next hs (by omega)⟩,hve,by omega⟩)
end
end
def iP (n:Nat):Blk:= .cells (List.replicate n tZ) 48 1 true
def qG:Blk:= .cells [.slice none 0 0] 72 0 true
theorem Nm:aB SS.P 72=some (qG,gk):=by kernel_rfl
theorem uG {E E':Nat->Nat->Prop}{F F':Nat->Prop}(hE: ∀ y x,E y x↔E' y x)(hF: ∀ x,F x↔F' x)(x:Nat):Num.Rch E F x↔Num.Rch E' F' x:=by
 have e1:E=E':=funext fun y=>funext fun x=>propext (hE y x);have e2:F=F':=funext fun x=>propext (hF x);rw [e1,e2]
theorem wX {g0:Heap}(w:Wf g0)(M:Mach)(n:Nat):
  ∃ u14:Upd,ai SS.P 72 (.pointer (some ⟨g0.next+4,0,none⟩)) (.slice (some ⟨g0.next+1,0,none⟩) n n) (ay (Go.Ab.room g0 8) g0.next [(5,qG),(4,qG),(1,iP n)])=some (undef,u14)/\
  ∃ u15:Upd,ai SS.P 72 (.pointer (some ⟨g0.next+5,0,none⟩)) (.slice (some ⟨g0.next+3,0,none⟩) n n) (ay (u14.app (ay (Go.Ab.room g0 8) g0.next [(5,qG),(4,qG),(1,iP n)])) g0.next [(3,iP n)])=some (undef,u15)/\
   Ub g0 M n 0 0 0 0 (List.replicate (2*n+1) tZ) (List.replicate (2*n+1) []) (u15.app (ay (u14.app (ay (Go.Ab.room g0 8) g0.next [(5,qG),(4,qG),(1,iP n)])) g0.next [(3,iP n)])):=by
 obtain ⟨N,hN⟩: ∃ N,g0.next=N:=⟨_,rfl⟩
 have hnx:(Go.Ab.room g0 8).next=N+8:=by rw [<-hN]; rfl
 rw [hN];have h4:Bx1 (ay (Go.Ab.room g0 8) N [(5,qG),(4,qG),(1,iP n)]) (N+4) 72 (.slice none 0 0):=by
  show (((Go.Ab.room g0 8).set (N+1) _).set (N+4) qG |>.set (N+5) qG).get (N+4)=_;rw [Heap.get_set,if_neg (by omega),Heap.get_set,if_pos rfl]; rfl
 refine ⟨_,h4.st KX (cY _ _ _) rfl,?_⟩;have h5:Bx1 (ay ((Upd.set (N+4) (.cells [.slice (some ⟨N+1,0,none⟩) n n] 72 0 true)).app (ay (Go.Ab.room g0 8) N [(5,qG),(4,qG),(1,iP n)])) N [(3,iP n)]) (N+5) 72 (.slice none 0 0):=by
  show (((((Go.Ab.room g0 8).set (N+1) (iP n)).set (N+4) qG |>.set (N+5) qG).set (N+4) _).set (N+3) (iP n)).get (N+5)=_;rw [Heap.get_set,if_neg (by omega),Heap.get_set,if_neg (by omega),Heap.get_set,if_pos rfl]; rfl
 refine ⟨_,h5.st KX (cY _ _ _) rfl,?_⟩;show Ub g0 M n 0 0 0 0 _ _ ((((((Go.Ab.room g0 8).set (N+1) (iP n)).set (N+4) qG |>.set (N+5) qG).set (N+4) (.cells [.slice (some ⟨N+1,0,none⟩) n n] 72 0 true)).set (N+3) (iP n)).set (N+5) (.cells [.slice (some ⟨N+3,0,none⟩) n n] 72 0 true));have hget: ∀ j,((((((Go.Ab.room g0 8).set (N+1) (iP n)).set (N+4) qG |>.set (N+5) qG).set (N+4) (.cells [.slice (some ⟨N+1,0,none⟩) n n] 72 0 true)).set (N+3) (iP n)).set (N+5) (.cells [.slice (some ⟨N+3,0,none⟩) n n] 72 0 true)).get j =
   if j=N+5 then some (.cells [.slice (some ⟨N+3,0,none⟩) n n] 72 0 true) else if j=N+3 then some (iP n) else if j=N+4 then some (.cells [.slice (some ⟨N+1,0,none⟩) n n] 72 0 true) else if j=N+5 then some qG else if j=N+4 then some qG else if j=N+1 then some (iP n) else g0.get j:=fun j=>by
  rw [Heap.get_set,Heap.get_set,Heap.get_set,Heap.get_set,Heap.get_set,Heap.get_set]; rfl
 have hok:Ok g0 ((((((Go.Ab.room g0 8).set (N+1) (iP n)).set (N+4) qG |>.set (N+5) qG).set (N+4) (.cells [.slice (some ⟨N+1,0,none⟩) n n] 72 0 true)).set (N+3) (iP n)).set (N+5) (.cells [.slice (some ⟨N+3,0,none⟩) n n] 72 0 true)):=by
  refine ((((((Ok.refl w).room 8).set _ ?_ ?_ w).set _ ?_ ?_ w).set _ ?_ ?_ w).set _ ?_ ?_ w).set _ ?_ ?_ w |>.set _ ?_ ?_ w
  all_goals first
   | (rw [hN]; omega)
   | (show _ < (Go.Ab.room g0 8).next; rw [hnx]; omega)
 generalize ((((((Go.Ab.room g0 8).set (N+1) (iP n)).set (N+4) qG |>.set (N+5) qG).set (N+4) (.cells [.slice (some ⟨N+1,0,none⟩) n n] 72 0 true)).set (N+3) (iP n)).set (N+5) (.cells [.slice (some ⟨N+3,0,none⟩) n n] 72 0 true))=gF at *;have g1:gF.get (N+1)=some (iP n):=by rw [hget,if_neg (by omega),if_neg (by omega),if_neg (by omega),if_neg (by omega),if_neg (by omega),if_pos rfl]
 have g3:gF.get (N+3)=some (iP n):=by rw [hget,if_neg (by omega),if_pos rfl]
 have g4:gF.get (N+4)=some (.cells [.slice (some ⟨N+1,0,none⟩) n n] 72 0 true):=by rw [hget,if_neg (by omega),if_neg (by omega),if_pos rfl]
 have g5:gF.get (N+5)=some (.cells [.slice (some ⟨N+3,0,none⟩) n n] 72 0 true):=by rw [hget,if_pos rfl]
 have hrep: ∀ {i:Nat}{v:Value},(List.replicate (2*n+1) tZ)[i]?=some v->v=tZ:=fun {i v} hl=>by
  rw [getElem?_replicate] at hl;split at hl
  ·exact (oI hl).symm
  ·cases hl
 have hrepF: ∀ {i:Nat}{l:List Nat},(List.replicate (2*n+1) ([]:List Nat))[i]?=some l->l=[]:=fun {i l} hl=>by
  rw [getElem?_replicate] at hl;split at hl
  ·exact (oI hl).symm
  ·cases hl
 refine ⟨⟨fun r hr=> ?_,⟨by rw [length_replicate,length_replicate],fun i v l hv hl=> ?_,fun i j v v' _ hv _ k hk=> ?_,fun i v hv k hk=> ?_⟩,hok,length_replicate,fun r hr=>⟨?_,?_⟩,fun r r' _ _ hne=> ?_,fun k hX=> ?_⟩,?_,?_,Dn.new M n⟩
 ·have e:((List.replicate (2*n+1) tZ).drop (r*n)).take n=List.replicate n tZ:=by
   rw [List.drop_replicate,List.take_replicate];congr 1;have:r=0\/r=1:=by omega
   rcases this with rfl | rfl <;> omega
  rw [e];have:r=0\/r=1:=by omega
  unfold Ek;rw [hN];rcases this with rfl | rfl
  ·exact g1
  ·exact g3
 ·rw [hrep hv,hrepF hl]; exact OwnG.nil _ _ _
 ·rw [hrep hv] at hk; cases hk
 ·rw [hrep hv] at hk; cases hk
 ·unfold Me Ek; rw [hN];have:r=0\/r=1:=by omega
  rcases this with rfl | rfl <;> omega
 ·unfold Ek; omega
 ·unfold Ek; omega
 ·unfold Me at hX;rw [hN] at hX;rcases hX with rfl | rfl | rfl | rfl
  ·exact hok.wf _ _ g1
  ·exact hok.wf _ _ g3
  ·exact hok.wf _ _ g4
  ·exact hok.wf _ _ g5
 ·rw [hN]; show gF.get (N+4)=_; rw [g4]; unfold Ek; rw [hN]
 ·rw [hN]; show gF.get (N+5)=_; rw [g5]; unfold Ek; rw [hN]
theorem lA {g:Heap}{kt N c:Nat}{L:List Bool}(hg:g.get kt=some (.cells (L.map Value.bool) 4 1 true))(hl:L.length=N){x:Nat}(h1:x < N):ah SS.P 46 (.slice (some ⟨kt,0,none⟩) N c) (.int .i64 (x:Int))=some (.pointer (some ⟨kt,x,none⟩))/\ag SS.P 4 g (.pointer (some ⟨kt,x,none⟩))=some (.bool (L.getD x false)):=by
 refine ⟨?_,?_⟩
 ·have:=FF (P:=SS.P) Fw Ls (k:=kt) (off:=0) (n:=N) (c:=c) (ik:= .i64) (i:=(x:Int)) (by omega) (by omega);rw [this,toNat_natCast,zero_add,mul_one]
 ·rw [cM NZ Oj hg (by rw [lM]; omega),gD,getElem?_map,gD,gE (by omega)]; rfl
def Ly (h1:Heap)(kl kr n:Nat)(L1 L2:List Bool)(mz i:Nat)(g:Heap):Prop:=i<=n/\mz=n - i/\ ∃ L,BR h1 kl n L g/\g.get kr=some (.cells (L2.map Value.bool) 4 1 true)/\ ∀ x,L.getD x false=if x < i then (L1.getD x false && L2.getD x false) else L1.getD x false
theorem uU {h1:Heap}(w:Wf h1){kl kr n:Nat}{L1 L2:List Bool}{mz i:Nat}{g:Heap}(h:Ly h1 kl kr n L1 L2 mz i g)(hL2:L2.length=n)(hne:kr≠kl)(hi:i < n){b:Bool}(hb:b=(L1.getD i false && L2.getD i false)):
  ∃ u:Upd,ai SS.P 4 (.pointer (some ⟨kl,i,none⟩)) (.bool b) g=some (undef,u)/\Ly h1 kl kr n L1 L2 (mz - 1) (i+1) (u.app g):=by
 obtain ⟨f1,f2,L,br,hr,hL⟩:=h;obtain ⟨r1,r2,r3⟩:=br.get (c:=n) (x:=(i:Int)) (by omega) (by omega);rw [toNat_natCast] at r3;obtain ⟨u,s1,s2,s3⟩:=r3 b w;refine ⟨u,s1,by omega,by omega,_,s2,s3 _ _ hr hne,fun x=> ?_⟩;rw [A7 (by rw [br.len]; exact hi),hL x];by_cases e:x=i
 ·subst e;rw [if_pos rfl,if_pos (by omega),hb]
 ·rw [if_neg e];by_cases e2:x < i
  ·rw [if_pos e2,if_pos (by omega)]
  ·rw [if_neg e2,if_neg (by omega)]
def uQ (h:Heap)(M:Mach)(n:Nat):VH:=fun v h'=> ∃ kl L,v = .slice (some ⟨kl,0,none⟩) n n/\BR h kl n L h'/\ ∀ x,x < n->(L.getD x false=true↔bI M x)
theorem BR.base {h h1 g:Heap}{kl n:Nat}{L:List Bool}(b:BR h1 kl n L g)(o:Ok h h1):BR h kl n L g:=⟨b.len,b.row.row,le_trans o.nx b.row.new,o.trans b.row.ok⟩
section
section
variable {h:Heap} {M:Mach} {a:Option Addr} {n c:Nat}
theorem md {i:Nat}(hi:i < M.states.length): ∃ s,M.states[i]?=some s:=⟨_,gE hi⟩
theorem Cz (gd:Good M){y x:Nat}(h:bF M y x):x < M.states.length:=by
 obtain ⟨s,h1,h2⟩:=h;unfold nL at h2;obtain ⟨q,h3,rfl⟩:=mem_map.1 h2;have:=gd.arcs s (List.mem_of_getElem? h1) q h3;have:=this.t1;have:= ‹ArcIn _ q›.t0;omega
theorem sU {y x:Nat}(h:bF M y x):y < M.states.length:=by
 obtain ⟨s,h1,h2⟩:=h;exact (List.getElem?_eq_some_iff.1 h1).1
set_option linter.defProp false in
def Ae (w1:Wf h){kl kr:Nat}{L1 L2:List Bool}(hL1: ∀ x,L1.getD x false=true↔Num.Rch (bF M) (fun y=>y=M.start.toNat) x)(hL2: ∀ x,L2.getD x false=true↔Num.Rch (fun y x=>bF M x y) (jO M) x)(hl2:L2.length=n)(hne:kr≠kl)(hn:n<=300)(Q:VH)(hQ: ∀ v g',uQ h M n v g'->Q v g')(mv:List Value):=
 nY mv n kl kr (Ly h kl kr n L1 L2) Q (by
  intro mz3 i; intros; rename_i g hin;have h3:=hin;obtain ⟨f1,f2,L,br,hr,hL⟩:=h3;refine ae (fun q1=> ?_) (fun q1=> ?_)
  ·have q1:=dT q1;have hi:i < n:=by omega
   obtain ⟨x1,x2⟩:=lA (c:=n) hr hl2 hi;obtain ⟨y1,y2⟩:=lA (c:=n) br.row.row br.len hi;have e:=hL i;rw [if_neg (Nat.lt_irrefl i)] at e;rw [e] at y2;refine ⟨_,x1,_,x2,_,y1,_,y2,ae (fun t=> ?_) (fun t=> ?_)⟩
   ·obtain ⟨u,s1,s2⟩:=uU w1 hin hl2 hne hi (b:=L2.getD i false) (by rw [t]; rfl);refine ⟨_,y1,u,s1,?_⟩;rw [aG hi (by omega)];exact cA (mz3 - 1) (by omega) s2
   ·obtain ⟨u,s1,s2⟩:=uU w1 hin hl2 hne hi (b:=false) (by rw [t]; rfl);refine ⟨_,y1,u,s1,?_⟩;rw [aG hi (by omega)];exact cA (mz3 - 1) (by omega) s2
  ·have q1:=dF q1;refine hQ _ _ ⟨kl,L,rfl,br,fun x hx=> ?_⟩;rw [hL x,if_pos (by omega),and_eq_true,hL1,hL2];exact Iff.rfl)
theorem uI (w:Wf h)(sm:Small M)(gd:Good M)(r:StRow h (.slice a n c) M.states):FW SS 41 [.agg ⟨aA M a n c⟩] h (uQ h M n):=by
 obtain ⟨mb,ok⟩:=dM w r;have hl:=mb.len;have hn:n<=300:=by rw [hl]; exact sm.sts
 refine E3 (aA M a n c) h _ ⟨_,fo M a n c,_,bn _,_,_,_,mb.l3,_,_,_,Nj n (by omega),_,_,_,Nj n (by omega),_,Nm,_,Nm,?_⟩;generalize h.push (Bm M a n c)=g0 at *;have w0:=ok.wf;obtain ⟨u14,s14,u15,s15,ub0⟩:=wX w0 M n;refine ⟨u14,s14,u15,s15,?_⟩;have mbF:=mb.ok ub0.us.ok;refine ⟨_,bn _,_,_,_,mbF.l3,?_⟩;refine oN (aA M a n c) h.next (g0.next+4) (g0.next+5) a n c (Mt g0 M n) (uQ h M n) (fun mz i e en ec=> ?_) n (i:=0) (e:=none) (en:=0) (ec:=0) ⟨by omega,rfl,_,_,0,ub0,?_,?_⟩
 rotate_left
 ·rw [getElem?_replicate,if_pos (by omega)]; rfl
 ·rw [drop_zero]; have:=sm.tot; omega
 intros; rename_i gg hi;obtain ⟨f1,f2,vs,F,cN,ub,hve,hcN⟩:=hi;have okg:=ub.us.ok;refine ae (fun q1=> ?_) (fun q1=> ?_)
 ·have q1:=dT q1;obtain ⟨s,hs⟩:=md (M:=M) (i:=i) (by omega);obtain ⟨b,o,x',y,z,e1,e2,e3,e4,ar⟩:=mb.row.at2 okg hs;obtain ⟨l1,l2,l3⟩:=hG sm hs;have hy:=ar.len;have hd:eO (M.states.drop i)=s.arcs.length+eO (M.states.drop (i+1)):=by rw [dP hs,fG]
  obtain ⟨u,p1,p2,p3⟩:=qx okg.wf s.f x' y z;refine ⟨_,e1,_,e2,_,tJ,u,p1,_,gG _ _,_,p3.l0,?_⟩;have U2:=ub.us.ext p2;have B4:=ub.b4.ok p2;have B5:=ub.b5.ok p2;have xlt:=ub.us.xlt;have hfl:=ub.us.fam;have wgg:=okg.wf;generalize u.app (gg.push uy)=g2 at *;refine ae (fun q2=> ?_) (fun q2=> ?_)
  ·have q2:s.f≠[]:=by simpa using q2
   have op:=(Ok.refl U2.ok.wf).push (.cells [.int .i64 (i:Int)] 3 1 true);have kp:=aq g2 (.cells [.int .i64 (i:Int)] 3 1 true);have U3:=U2.ext op;obtain ⟨le,hle⟩: ∃ le,F[2*n]?=some le:=⟨_,gE (by rw [ub.us.len]; omega)⟩
   have hlel:=ub.dn.ln le (List.mem_of_getElem? hle);obtain ⟨b',n',c',u32,ap1,en1,fm4,ok4,kp4,nx4⟩:=U3.fam.snoc w0 U3.ok U3.xlt hve hle kp (by omega);have nX: ∀ k,Me g0 k->aM (.slice e en ec)≠some k:=fun k hX e'=>U3.fam.out _ _ hve k e' hX;have U4:=U3.tail rfl rfl fm4 ok4 (fun j' B' hj hX=>kp4 j' B' hj (nX j' hX)) nx4;have B44:=kp4 _ _ (B4.ok op) (nX _ (.inr (.inr (.inl rfl))));have B54:=kp4 _ _ (B5.ok op) (nX _ (.inr (.inr (.inr rfl))));have S4:=kp4 _ _ (p3.ok op) (fun e'=>by have:=hfl.lt wgg hve e'; omega);refine ⟨_,_,_,xd _,b',n',c',u32,ap1,_,cw _ _,_,_,_,SB.l1 S4,?_⟩;have hlen:(vs.length)=2*n+1:=by rw [ub.us.fam.len]; exact ub.us.len
   exact xl w0 gd hl hn hs (by omega) ar l1 [] b' n' c' mz f2 _ y (j:=0) ⟨by omega,by omega,_,_,cN+1,⟨U4,B44,B54,ub.dn.fin (by omega) hs q2 hle⟩,by rw [getElem?_set,if_pos rfl,if_pos (by omega)],by omega⟩
  ·have q2:s.f=[]:=by simpa using q2
   refine ⟨_,cw _ _,_,_,_,p3.l1,?_⟩;exact xl w0 gd hl hn hs (by omega) ar l1 [] e en ec mz f2 _ y (j:=0) ⟨by omega,by omega,vs,F,cN+1,⟨U2,B4,B5,ub.dn.nofin hs q2⟩,hve,by omega⟩
 ·have q1:=dF q1;obtain rfl:n=i:=by omega
  have mb2:=mb.ok okg;have hst0:=gd.start0;have hst1:=gd.start1;obtain ⟨S,hS⟩: ∃ S:Nat,M.start=(S:Int):=⟨M.start.toNat,by omega⟩
  have hSn:S < n:=by omega
  have hSt:M.start.toNat=S:=by omega
  have l1:=mb2.l1;rw [hS] at l1;have op:=(Ok.refl okg.wf).push (.cells [.int .i64 (S:Int)] 3 1 true);have kp:=aq gg (.cells [.int .i64 (S:Int)] 3 1 true);refine ⟨_,fF _,_,l1,_,_,_,xd _,?_⟩;have U3:=ub.us.ext op;have B4:=ub.b4.ok op;have B5:=ub.b5.ok op;have rf:Rd (gg.push (.cells [.int .i64 (S:Int)] 3 1 true)) 3 (.slice (some ⟨gg.next,0,none⟩) 1 1) ([S].map iv):= .inr ⟨gg.next,0,_,1,true,rfl,kp,rfl⟩;have okh:=ok.trans (okg.trans op);generalize gg.push (.cells [.int .i64 (S:Int)] 3 1 true)=h1 at *;have w1:=okh.wf;have adj1:=U3.adj (r:=0) (by omega);have adj2:=U3.adj (r:=1) (by omega);have hA1: ∀ {y:Nat}{l:List Nat},((F.drop (0*n)).take n)[y]?=some l->y < n/\l.length<=2300/\ ∀ x,x∈l↔bF M y x:=fun {y l} hy=>by
   rw [getElem?_take] at hy;split at hy
   ·next hyn=>
    rw [getElem?_drop] at hy;refine ⟨hyn,by have:=ub.dn.ln l (List.mem_of_getElem? hy); omega,fun x=> ?_⟩;rw [ub.dn.fw y l hyn hy x,jm];exact ⟨fun c=>c.2,fun c=>⟨hyn,c⟩⟩
   ·cases hy
  have hA2: ∀ {y:Nat}{l:List Nat},((F.drop (1*n)).take n)[y]?=some l->y < n/\l.length<=2300/\ ∀ x,x∈l↔bF M x y:=fun {y l} hy=>by
   rw [getElem?_take] at hy;split at hy
   ·next hyn=>
    rw [getElem?_drop] at hy;refine ⟨hyn,by have:=ub.dn.ln l (List.mem_of_getElem? hy); omega,fun x=> ?_⟩;rw [ub.dn.bk y l hyn hy x,jm];exact ⟨fun c=>c.2,fun c=>⟨by rw [hl]; exact sU c,c⟩⟩
   ·cases hy
  have hE1: ∀ y x,tK ((F.drop (0*n)).take n) y x↔bF M y x:=fun y x=>by
   unfold tK;rw [gD]
   cases he:((F.drop (0*n)).take n)[y]? with
   | some l=>exact (hA1 he).2.2 x
   | none=>
    refine ⟨fun c=>(by cases c),fun c=> ?_⟩;have:=sU c;rw [List.getElem?_eq_none_iff,adj1.1] at he;omega
  have hE2: ∀ y x,tK ((F.drop (1*n)).take n) y x↔bF M x y:=fun y x=>by
   unfold tK;rw [gD]
   cases he:((F.drop (1*n)).take n)[y]? with
   | some l=>exact (hA2 he).2.2 x
   | none=>
    refine ⟨fun c=>(by cases c),fun c=> ?_⟩;have:=Cz gd c;rw [List.getElem?_eq_none_iff,adj2.1] at he;omega
  obtain ⟨le,hle⟩: ∃ le,F[2*n]?=some le:=⟨_,gE (by rw [ub.us.len]; omega)⟩
  have hlel:=ub.dn.ln le (List.mem_of_getElem? hle);have ren:Rd h1 3 (.slice e en ec) (le.map iv):=(U3.fam.own _ _ _ hve hle).rd;have hmem: ∀ x,x∈le↔jO M x:=fun x=>by
   rw [ub.dn.en le hle x];refine ⟨fun c=>c.2,fun c=>⟨?_,c⟩⟩;obtain ⟨s,h2,_⟩:=c;have:=(List.getElem?_eq_some_iff.1 h2).1;omega
  refine (uW w1 (by omega) adj1.1 (fun l hl' x hx=> ?_) (fun l hl'=> ?_) (Hk w1 B4 adj1) rf (fun x hx=> ?_) (by simp)).mono ?_
  ·obtain ⟨y,hy⟩:=List.mem_iff_getElem?.1 hl';have:=Cz gd ((hA1 hy).2.2 x |>.1 hx); omega
  ·obtain ⟨y,hy⟩:=List.mem_iff_getElem?.1 hl';have:=(hA1 hy).2.1; omega
  ·rw [mem_singleton] at hx; omega
  rintro _ g3 ⟨kl,L1,rfl,br1,hL1⟩;refine ⟨_,_,_,rfl,?_⟩;have o3:=br1.row.ok;refine (uW o3.wf (by omega) adj2.1 (fun l hl' x hx=> ?_) (fun l hl'=> ?_) (G8 o3.wf (B5.ok o3) (adj2.ok o3)) (ren.ok o3) (fun x hx=> ?_) (by omega)).mono ?_
  ·obtain ⟨y,hy⟩:=List.mem_iff_getElem?.1 hl';have:=sU ((hA2 hy).2.2 x |>.1 hx); omega
  ·obtain ⟨y,hy⟩:=List.mem_iff_getElem?.1 hl';have:=(hA2 hy).2.1; omega
  ·obtain ⟨s,h2,_⟩:=(hmem x).1 hx;have:=(List.getElem?_eq_some_iff.1 h2).1;omega
  rintro _ g4 ⟨kr,L2,rfl,br2,hL2⟩;refine ⟨_,_,_,rfl,?_⟩;have hne:kr≠kl:=by have:=br1.row.lt; have:=br2.row.new; omega
  have q1: ∀ x,L1.getD x false=true↔Num.Rch (bF M) (fun y=>y=M.start.toNat) x:=fun x=>by
   rw [hL1 x]; exact uG hE1 (fun x=>by rw [mem_singleton,hSt]) x
  have q2: ∀ x,L2.getD x false=true↔Num.Rch (fun y x=>bF M x y) (jO M) x:=fun x=>by
   rw [hL2 x]; exact uG hE2 hmem x
  exact Ae (n:=n) w1 q1 q2 br2.len hne hn (uQ h M n) (fun v g' ⟨k1,L,e1,e2,e3⟩=>⟨k1,L,e1,e2.base okh,e3⟩) (aA M a n c) n (i:=0) ⟨by omega,rfl,L1,br1.trans br2.row.ok,br2.row.row,fun x=>by rw [if_neg (Nat.not_lt_zero _)]⟩
noncomputable def iE (M:Mach):Bool:=aL M && !(@decide (bI M M.start.toNat) (Classical.propDecidable _))
theorem ye {b:Bool}{p:Prop}(h:b=true↔p):b=@decide p (Classical.propDecidable _):=by
 cases b with
 | true=>exact (@decide_eq_true p (Classical.propDecidable _) (h.1 rfl)).symm
 | false=>exact (@decide_eq_false p (Classical.propDecidable _) (fun c=>by cases h.2 c)).symm
theorem pC (tb:Tab h)(w:Wf h)(sm:Small M)(r:StRow h (.slice a n c) M.states):FW SS 18 [.agg ⟨aA M a n c⟩] h (fun v h'=>v = .bool (iE M)/\Ok h h'):=by
 obtain ⟨mb,ok⟩:=dM w r;refine DN (aA M a n c) h _ ⟨_,fo M a n c,?_⟩;generalize h.push (Bm M a n c)=g at *;have oR:=(Ok.refl ok.wf).room 12;have mbR:=mb.ok oR;have okR:=ok.trans oR;refine ⟨_,mbR.all,(fc (tb.ok okR) okR.wf sm mbR.row).mono ?_⟩;rintro _ g2 ⟨rfl,o2⟩;have ok2:=okR.trans o2;have mb2:=mbR.ok o2;refine ⟨_,rfl,ae (fun q=> ?_) (fun q=>⟨?_,ok2⟩)⟩
 rotate_left
 ·unfold iE; rw [q]; rfl
 have gd:=cL q;have hl:=mb2.len;have h0:=gd.start0;have h1:=gd.start1;refine ⟨_,mb2.all,(uI ok2.wf sm gd mb2.row).mono ?_⟩;rintro _ g3 ⟨kl,L,rfl,br,hL⟩;have mb3:=mb2.ok br.row.ok;obtain ⟨x1,x2⟩:=lA (c:=n) br.row.row br.len (x:=M.start.toNat) (by omega);rw [show ((M.start.toNat:Nat):Int)=M.start by omega] at x1;refine ⟨_,_,_,rfl,_,fF _,_,mb3.l1,_,x1,_,x2,⟨mb2.l1,fM _⟩,?_,ok2.trans br.row.ok⟩;unfold iE;rw [q,Bool.true_and,ye (hL M.start.toNat (by omega))]
end
end
section
section
variable {h:Heap} {M:Mach} {a:Option Addr} {n c:Nat}
theorem Hv {g:Heap}(r:StRow g (.slice a n c) M.states):d7 4 (.agg ⟨aA M a n c⟩) (.agg ⟨aA M a n c⟩)=true:=by
 obtain ⟨ps,h1,⟨_,⟨h2 | h2,_⟩ | ⟨k,off,cs,e',z,c',wr,h2,_⟩⟩,_,hnd⟩:=r
 ·rw [show aA M a n c=[.int .i64 M.kind,.int .i64 M.start,aa M.lead,.slice none 0 0] by unfold aA; rw [h2]];simp [d7,Aj,aa]
 ·exact absurd h2 hnd
 ·rw [show aA M a n c=[.int .i64 M.kind,.int .i64 M.start,aa M.lead,.slice (some ⟨k,off,none⟩) (ps.map dg).length c'] by unfold aA; rw [h2]];simp [d7,Aj,aa]
end
end
end Go.Proofs.YtoabjjimjldcfaaGreatDoor
end
section
set_option linter.unusedVariables false
namespace Go.Ab
open Go
theorem eH {sz:Nat}: ∀ {l:List (List Value)},(∀ r∈l,r.length=sz)->l.flatten.length=l.length*sz
 | [],_=>by simp
 | r::l,h=>by
  rw [flatten_cons,length_append,eH fun x hx=>h x (mem_cons_of_mem _ hx),h r (mem_cons_self ..),length_cons,add_mul,one_mul,Nat.add_comm]
theorem yO {sz:Nat}: ∀ {l:List (List Value)},(∀ r∈l,r.length=sz)-> ∀ {i:Nat}{r:List Value},l[i]?=some r->(l.flatten.drop (i*sz)).take sz=r
 | [],_,i,r,h=>by simp at h
 | x::l,hl,0,r,h=>by
  obtain rfl:x=r:=by simpa using h
  have hx:=hl x (mem_cons_self ..);rw [Nat.zero_mul,drop_zero,flatten_cons,List.take_append_of_le_length (by omega),take_of_length_le (by omega)]
 | x::l,hl,i+1,r,h=>by
  have hx:=hl x (mem_cons_self ..);rw [flatten_cons,add_mul,one_mul,List.drop_append,drop_eq_nil_of_le (by omega),nil_append,hx,show i*sz+sz - sz=i*sz by omega];exact yO (fun y hy=>hl y (mem_cons_of_mem _ hy)) (by simpa using h)
theorem vD {sz:Nat}: ∀ {l:List (List Value)},(∀ r∈l,r.length=sz)-> ∀ {i j:Nat}{r:List Value}{v:Value},l[i]?=some r->j < sz->(l.set i (r.set j v)).flatten=l.flatten.set (i*sz+j) v
 | [],_,i,j,r,v,h,_=>by simp at h
 | x::l,hl,0,j,r,v,h,hj=>by
  obtain rfl:x=r:=by simpa using h
  have hx:=hl x (mem_cons_self ..);rw [List.set_cons_zero,flatten_cons,flatten_cons,Nat.zero_mul,zero_add,List.set_append,if_pos (by omega)]
 | x::l,hl,i+1,j,r,v,h,hj=>by
  have hx:=hl x (mem_cons_self ..);rw [List.set_cons_succ,flatten_cons,flatten_cons,vD (fun y hy=>hl y (mem_cons_of_mem _ hy)) (by simpa using h) hj,List.set_append,if_neg (by rw [add_mul]; omega),add_mul,one_mul,hx,show i*sz+sz+j - sz=i*sz+j by omega]
theorem vL {sz:Nat}: ∀ {l:List (List Value)}{cs:List Value}{off:Nat},(∀ r∈l,r.length=sz)->off+l.length*sz<=cs.length->(∀ (i:Nat)(r:List Value),l[i]?=some r->(cs.drop (off+i*sz)).take sz=r)->(cs.drop off).take (l.length*sz)=l.flatten
 | [],_,_,_,_,_=>by simp
 | x::l,cs,off,hl,hb,h=>by
  rw [length_cons,add_mul,one_mul] at hb;have h0:=h 0 x rfl;rw [Nat.zero_mul,Nat.add_zero] at h0;have ih:=vL (l:=l) (cs:=cs) (off:=off+sz) (fun r hr=>hl r (mem_cons_of_mem _ hr)) (by omega) (fun i r hi=>by
   have:=h (i+1) r (by simpa using hi);rw [add_mul,one_mul] at this;rw [show off+sz+i*sz=off+(i*sz+sz) by omega];exact this)
  rw [flatten_cons,<-ih,length_cons,add_mul,one_mul,Nat.add_comm (l.length*sz) sz,List.take_add,h0,List.drop_drop]
def OwnK (h0 h:Heap)(e:TypeId)(sz:Nat)(v:Value)(rs:List (List Value)):Prop:=
 (∀ r∈rs,r.length=sz)/\((v = .slice none 0 0/\rs=[])\/ ∃ k off cs c,v = .slice (some ⟨k,off,none⟩) rs.length c/\h0.next<=k/\h.get k=some (.cells cs e sz true)/\(cs.drop off).take (rs.length*sz)=rs.flatten/\aK c*sz+off=cs.length/\rs.length<=aK c)
theorem OwnK.rd {h0 h:Heap}{e:TypeId}{sz:Nat}{v:Value}{rs:List (List Value)}(o:OwnK h0 h e sz v rs):RdN h e sz v rs:=by
 obtain ⟨hl,⟨h1,h2⟩ | ⟨k,off,cs,c,h1,h2,h3,h4,h5,h6⟩⟩:=o
 ·exact ⟨hl,.inl ⟨.inl h1,h2⟩⟩
 ·have h7:=mul_le_mul_right sz h6;refine ⟨hl,.inr ⟨k,off,cs,e,sz,c,true,h1,h3,by omega,fun i r hi=> ?_⟩⟩;have h8:=yO hl hi;have hlt:i < rs.length:=(List.getElem?_eq_some_iff.1 hi).1;have h9:(i+1)*sz<=rs.length*sz:=mul_le_mul_right _ hlt;rw [add_mul,one_mul] at h9;rw [<-h4,drop_take,List.take_take,Nat.min_eq_left (by omega),List.drop_drop] at h8;exact h8
theorem OwnK.keep {h0 h h':Heap}{e:TypeId}{sz:Nat}{v:Value}{rs:List (List Value)}(o:OwnK h0 h e sz v rs)(hk: ∀ (k:Nat) (B:Blk),aM v=some k->h.get k=some B->h'.get k=some B):OwnK h0 h' e sz v rs:=by
 obtain ⟨hl,o | ⟨k,off,cs,c,h1,h2,h3,h4,h5,h6⟩⟩:=o
 ·exact ⟨hl,.inl o⟩
 ·exact ⟨hl,.inr ⟨k,off,cs,c,h1,h2,hk k _ (by rw [h1]; rfl) h3,h4,h5,h6⟩⟩
theorem OwnK.ok {h0 h h':Heap}{e:TypeId}{sz:Nat}{v:Value}{rs:List (List Value)}(r:OwnK h0 h e sz v rs)(o:Ok h h'):OwnK h0 h' e sz v rs:=r.keep fun k B _ hk=>o.ext _ _ hk
theorem OwnK.base {h0 h1 h:Heap}{e:TypeId}{sz:Nat}{v:Value}{rs:List (List Value)}(r:OwnK h1 h e sz v rs)(o:Ok h0 h1):OwnK h0 h e sz v rs:=by
 obtain ⟨hl,r | ⟨k,off,cs,c,h1,h2,h3,h4,h5,h6⟩⟩:=r
 ·exact ⟨hl,.inl r⟩
 ·exact ⟨hl,.inr ⟨k,off,cs,c,h1,le_trans o.nx h2,h3,h4,h5,h6⟩⟩
theorem OwnK.lt {h0 h:Heap}{e:TypeId}{sz:Nat}{v:Value}{rs:List (List Value)}(o:OwnK h0 h e sz v rs)(w:Wf h){k:Nat}(hk:aM v=some k):k < h.next/\h0.next<=k:=by
 obtain ⟨_,⟨rfl,_⟩ | ⟨k',off,cs,c,h1,h2,h3,h4,h5,h6⟩⟩:=o
 ·cases hk
 ·rw [h1] at hk;obtain rfl:k'=k:=oI hk;exact ⟨w _ _ h3,h2⟩
theorem OwnK.nil (h0 h:Heap)(e:TypeId)(sz:Nat):OwnK h0 h e sz (.slice none 0 0) []:=⟨fun r hr=>(by cases hr),.inl ⟨rfl,rfl⟩⟩
theorem OwnK.slc {h0 h:Heap}{e:TypeId}{sz:Nat}{v:Value}{rs:List (List Value)}(o:OwnK h0 h e sz v rs): ∃ (a:Option Addr)(c:Nat),v = .slice a rs.length c:=o.rd.slc
theorem OwnK.blk {h0 h:Heap}{e:TypeId}{sz:Nat}{v:Value}{rs:List (List Value)}(o:OwnK h0 h e sz v rs)(hp:0 < rs.length): ∃ (k off c:Nat),v = .slice (some ⟨k,off,none⟩) rs.length c/\h0.next<=k:=by
 obtain ⟨_,⟨_,rfl⟩ | ⟨k,off,cs,c,h1,h2,_⟩⟩:=o
 ·exact absurd hp (Nat.lt_irrefl 0)
 ·exact ⟨k,off,c,h1,h2⟩
theorem OwnK.made {h0 h:Heap}{e:TypeId}{sz k:Nat}{rs:List (List Value)}(hk:h.get k=some (.cells rs.flatten e sz true))(hr: ∀ r∈rs,r.length=sz)(h0k:h0.next<=k)(hl:rs.length < bp):OwnK h0 h e sz (.slice (some ⟨k,0,none⟩) rs.length rs.length) rs:=by
 have hc:aK rs.length=rs.length:=by unfold aK; rw [if_neg (by omega)]
 have hf:=eH hr;exact ⟨hr,.inr ⟨k,0,rs.flatten,rs.length,rfl,h0k,hk,by rw [drop_zero,take_of_length_le (by omega)],by rw [hc,hf]; rfl,by rw [hc]; exact le_refl _⟩⟩
theorem OwnK.add {P:Program}{t t' e:TypeId}{i:TypeInfo}{sz:Nat}(hU:P.underlying t=some (.slice e))(hE:dC P e=some i)(hs:i.size=sz)(hT:ce P t'=true){h0 g:Heap}(w0:Wf h0)(a:Ok h0 g){v:Value}{rs:List (List Value)}(o:OwnK h0 g e sz v rs){x:Value}{ns:List (List Value)}(hsrc:cm g sz x=some (ns.flatten,ns.length))(hns: ∀ r∈ns,r.length=sz)(hx:ns.flatten.all bA=true)(hl:(rs.length+ns.length)*i.bytes<=70368744177664)(hl2:rs.length+ns.length<=1099511627776)(h1m:ns.length<=1\/v = .slice none 0 0):
  ∃ (b:Option Addr)(n c:Nat)(u:Upd),aO P t t' v x g=some (.slice b n c,u)/\n=rs.length+ns.length/\OwnK h0 (u.app g) e sz (.slice b n c) (rs++ns)/\Ok h0 (u.app g)/\
   (∀ j B,g.get j=some B->aM v≠some j->(u.app g).get j=some B)/\
   (∀ j,aM (.slice b n c)=some j->g.next<=j\/aM v=some j)/\g.next<=(u.app g).next:=by
 obtain ⟨hr,o⟩:=o;have hrn: ∀ r∈rs++ns,r.length=sz:=fun r h=>(mem_append.1 h).elim (hr r) (hns r);have f1:=eH hr;have f2:=eH hns;unfold aO;rw [hU]; dsimp only;rw [hE]; dsimp only;rw [hs,if_pos hT,hsrc]; dsimp only;rw [if_pos ⟨hx,f2⟩];have pl: ∀ B:Blk,∀ j B',g.get j=some B'->(g.push B).get j=some B':=fun B j B' hj=>by
  rw [Heap.get_push,if_neg (fun e=>by have:=a.wf _ _ hj; omega)]; exact hj
 rcases o with ⟨rfl,rfl⟩ | ⟨k,off,cs,c,rfl,h2,h3,h4,h5,h6⟩
 ·by_cases hm:ns.length=0
  ·rw [if_pos hm];obtain rfl:=List.eq_nil_of_length_eq_zero hm;exact ⟨_,_,_,_,rfl,rfl,⟨hrn,.inl ⟨rfl,rfl⟩⟩,a,fun j B hj _=>hj,fun j e=> .inr e,le_refl _⟩
  ·rw [length_nil,zero_add] at hl hl2;rw [if_neg hm,if_pos ⟨hl,hl2⟩];refine ⟨_,_,_,_,rfl,(zero_add _).symm,⟨hrn,.inr ⟨g.next,0,ns.flatten,bp+ns.length,rfl,a.nx,?_,?_,by rw [bH,f2]; rfl,by rw [bH]; exact le_refl _⟩⟩,a.push _,fun j B hj _=>pl _ j B hj,fun j e=> .inl (Nat.le_of_eq (oI e)),le_succ _⟩
   ·show (g.push _).get g.next=_;rw [Heap.get_push,if_pos rfl]
   ·rw [drop_zero,nil_append,take_of_length_le (by omega)]
 ·dsimp only;by_cases hm:ns.length=0
  ·rw [if_pos hm];obtain rfl:=List.eq_nil_of_length_eq_zero hm;exact ⟨_,_,_,_,rfl,rfl,⟨hrn,.inr ⟨k,off,cs,c,by rw [append_nil],h2,h3,by rw [append_nil]; exact h4,h5,by rw [append_nil]; exact h6⟩⟩,a,fun j B hj _=>hj,fun j e=> .inr e,le_refl _⟩
  have hkn:=a.wf _ _ h3;have m1:(rs.length+ns.length)*sz=rs.length*sz+ns.length*sz:=add_mul ..;rw [if_neg hm];by_cases hroom:rs.length+ns.length<=aK c
  ·rw [if_pos hroom];have m2:(rs.length+ns.length)*sz<=aK c*sz:=mul_le_mul_right _ hroom;unfold storeAt;rw [h3];dsimp only;rw [if_pos ⟨by omega,hx⟩];refine ⟨_,_,_,_,rfl,rfl,⟨hrn,.inr ⟨k,off,cs.take (off+rs.length*sz)++ns.flatten++cs.drop (off+rs.length*sz+ns.flatten.length),c,?_,h2,?_,?_,?_,?_⟩⟩,?_,fun j B hj hne=> ?_,fun j e=> .inr e,le_refl _⟩
   ·rw [length_append]
   ·show (g.set k _).get k=_;rw [Heap.get_set,if_pos rfl]
   ·have h7:(cs.take (off+rs.length*sz)).length=off+rs.length*sz:=by rw [length_take]; omega
    rw [append_assoc,List.drop_append_of_le_length (by rw [h7]; omega),drop_take,show off+rs.length*sz - off=rs.length*sz by omega,h4,length_append,m1,List.take_append,f1,show rs.length*sz+ns.length*sz - rs.length*sz=ns.length*sz by omega,take_of_length_le (by omega),List.take_append_of_le_length (by omega),take_of_length_le (by omega),List.flatten_append]
   ·rw [length_append,length_append,length_take,length_drop]; omega
   ·rw [length_append]; exact hroom
   ·exact a.set _ h2 hkn w0
   ·show (g.set k _).get j=_;rw [Heap.get_set,if_neg (fun e=>hne (by rw [e]; rfl))];exact hj
  ·rw [if_neg hroom];have h7:((cs.drop off).take (rs.length*sz)).length=rs.length*sz:=by rw [h4,f1]
   unfold e9;rw [if_pos ⟨hl,hl2⟩,h3];dsimp only;rw [if_pos ⟨rfl,rfl,h7⟩];have fl:rs.flatten++ns.flatten=(rs++ns).flatten:=List.flatten_append.symm;have f3:=eH hrn;rw [length_append] at f3;by_cases hc:c < bp
   ·rw [if_pos hc,h4,fl];refine ⟨_,_,_,_,rfl,rfl,⟨hrn,.inr ⟨g.next,0,(rs++ns).flatten,bp+(rs.length+ns.length),by rw [length_append],a.nx,?_,?_,by rw [bH,f3]; rfl,by rw [bH,length_append]; exact le_refl _⟩⟩,a.push _,fun j B hj _=>pl _ j B hj,fun j e=> .inl (Nat.le_of_eq (oI e)),le_succ _⟩
    ·show (g.push _).get g.next=_;rw [Heap.get_push,if_pos rfl]
    ·rw [drop_zero,length_append,take_of_length_le (by omega)]
   ·rw [if_neg hc];have hcap:aK c=rs.length:=by
     rcases h1m with h | h
     ·omega
     ·cases h
    rw [if_pos ⟨rfl,by rw [<-h5,hcap]; omega⟩,h4,fl];refine ⟨_,_,_,_,rfl,rfl,⟨hrn,.inr ⟨g.next,0,(rs++ns).flatten,bp+(rs.length+ns.length),by rw [length_append],a.nx,?_,?_,by rw [bH,f3]; rfl,by rw [bH,length_append]; exact le_refl _⟩⟩,?_,fun j B hj hne=> ?_,fun j e=> .inl (Nat.le_of_eq (oI e)),le_succ _⟩
    ·show ((g.del k).push _).get g.next=_;rw [Heap.get_push,if_pos (show g.next=(g.del k).next from rfl)]
    ·rw [drop_zero,length_append,take_of_length_le (by omega)]
    ·refine ⟨?_,fun j C hj=> ?_,le_trans a.nx (le_succ _)⟩
     ·refine Heap.wf_push (fun j C hj=> ?_) _;rw [Heap.get_del] at hj;split at hj
      ·cases hj
      ·exact a.wf _ _ hj
     ·have h7:=a.ext _ _ hj;have h8:=a.wf _ _ h7;show ((g.del k).push _).get j=_;rw [Heap.get_push,if_neg (fun e=>by have:j=g.next:=e; omega),Heap.get_del,if_neg (fun e=>by have:=w0 _ _ hj; omega)];exact h7
    ·have h8:=a.wf _ _ hj;show ((g.del k).push _).get j=_;rw [Heap.get_push,if_neg (fun e=>by have:j=g.next:=e; omega),Heap.get_del,if_neg (fun e=>hne (by rw [e]; rfl))];exact hj
theorem OwnK.put {P:Program}{e t':TypeId}{sz:Nat}(hs:ak P t'=some 1){h0 g:Heap}(w0:Wf h0)(a:Ok h0 g){k off n c:Nat}{rs:List (List Value)}(o:OwnK h0 g e sz (.slice (some ⟨k,off,none⟩) n c) rs){i j:Nat}{r:List Value}(hi:rs[i]?=some r)(hj:j < sz){v':Value}(hv:bA v'=true)(hc:v'.cells = #[v']):
  ∃ u:Upd,ai P t' (.pointer (some ⟨k,off+i*sz+j,none⟩)) v' g=some (undef,u)/\OwnK h0 (u.app g) e sz (.slice (some ⟨k,off,none⟩) n c) (rs.set i (r.set j v'))/\Ok h0 (u.app g)/\(∀ j B,g.get j=some B->k≠j->(u.app g).get j=some B)/\(u.app g).next=g.next:=by
 obtain ⟨hr,⟨h1,_⟩ | ⟨k',off',cs,c',h1,h2,h3,h4,h5,h6⟩⟩:=o
 ·injection h1 with h1 _ _; cases h1
 ·injection h1 with h1 hn hc'
  injection h1 with h1
  injection h1 with h1 ho _
  subst h1; subst ho; subst hc';have hlt:i < rs.length:=(List.getElem?_eq_some_iff.1 hi).1;have h9:(i+1)*sz<=rs.length*sz:=mul_le_mul_right _ hlt;have h10:=mul_le_mul_right sz h6;have hrl:=hr r (List.mem_of_getElem? hi);rw [add_mul,one_mul] at h9;refine ⟨_,j6 hs h3 (by omega) hv hc,⟨fun r' hr'=> ?_,.inr ⟨k,off,cs.set (off+i*sz+j) v',c,?_,h2,?_,?_,?_,?_⟩⟩,a.set _ h2 (a.wf _ _ h3) w0,fun j' B hj' hne=> ?_,rfl⟩
  ·rcases List.mem_or_eq_of_mem_set hr' with h | h
   ·exact hr _ h
   ·rw [h,length_set]; exact hrl
  ·rw [length_set,hn]
  ·show (g.set k _).get k=_;rw [Heap.get_set,if_pos rfl]
  ·rw [length_set,vD hr hi hj,<-h4,List.drop_set,if_neg (by omega),List.take_set,show off+i*sz+j - off=i*sz+j by omega]
  ·rw [length_set]; exact h5
  ·rw [length_set]; exact h6
  ·show (g.set k _).get j'=_;rw [Heap.get_set,if_neg (fun e=>hne e.symm)];exact hj'
theorem OwnK.at_ {P:Program}{t e:TypeId}{sz:Nat}(hU:P.underlying t=some (.slice e))(hs:ak P e=some sz){h0 g:Heap}{k off n c:Nat}{rs:List (List Value)}(o:OwnK h0 g e sz (.slice (some ⟨k,off,none⟩) n c) rs){i:Nat}{r:List Value}(hi:rs[i]?=some r)(ik:IntKind):
  ah P t (.slice (some ⟨k,off,none⟩) n c) (.int ik (i:Int))=some (.pointer (some ⟨k,off+i*sz,none⟩))/\(∀ (t':TypeId)(d':TypeDesc)(j:Nat),P.underlying t'=some d'->isAgg P t'=false->j < sz->ag P t' g (.pointer (some ⟨k,off+i*sz+j,none⟩))=some (r.getD j undef))/\
   (∀ d,P.underlying e=some d->isAgg P e=true->ag P e g (.pointer (some ⟨k,off+i*sz,none⟩))=some (.agg ⟨r⟩)):=by
 have hn:=o.rd.len;have hlt:i < rs.length:=(List.getElem?_eq_some_iff.1 hi).1;have hx:=FF (P:=P) hU hs (k:=k) (off:=off) (n:=n) (c:=c) (ik:=ik) (i:=(i:Int)) (by omega) (by omega);rw [toNat_natCast] at hx;obtain ⟨hr,⟨h1,_⟩ | ⟨k',off',cs,e',z,c',wr,h1,h2,h3,h4⟩⟩:=o.rd
 ·rcases h1 with h1 | h1
  ·injection h1 with h1 _ _; cases h1
  ·unfold lf at h1; injection h1 with h1 _ _; injection h1 with h1; injection h1 with _ _ h1; cases h1
 ·injection h1 with h1 _ hc'
  injection h1 with h1
  injection h1 with h1 ho _
  subst h1; subst ho; subst hc';have h9:(i+1)*sz<=rs.length*sz:=mul_le_mul_right _ hlt;rw [add_mul,one_mul] at h9;have h5:=h4 i r hi;refine ⟨hx,fun t' d' j hU' ha' hj=> ?_,fun d hd ha=> ?_⟩
  ·rw [cM hU' ha' h2 (by omega),<-h5,gD,gD,getElem?_take,if_pos hj,getElem?_drop]
  ·rw [ft hd ha hs h2 (by omega),h5]
theorem nN (z:List Value): ∀ n,bc z n=(List.replicate n z).flatten:=by
 intro n
 induction n with
 | zero=>simp [bc]
 | succ n ih=>rw [bc,ih,List.replicate_succ,flatten_cons]
end Go.Ab
end
section
set_option linter.unusedVariables false
set_option maxRecDepth 100000
namespace Go.Proofs.YtoabjjimjldcfaaGreatDoor
open Go Go.Ab
section
noncomputable def re39:TypeInfo:=(dC SS.P 39).getD default
theorem IN:dC SS.P 39=some re39:=by kernel_rfl
theorem EH:re39.size=4:=by kernel_rfl
theorem BN:re39.bytes=40:=by kernel_rfl
theorem NY:ce SS.P 35=true:=by kernel_rfl
theorem M3 (q:MArc):an SS.P 35 1 [(0,.agg ⟨aI q⟩)]=some (.cells (aI q) 39 4 true,gm 1 1):=by kernel_rfl
theorem GH {l:List MArc}: ∀ r∈l.map aI,r.length=4:=fun r hr=>by
 obtain ⟨q,_,rfl⟩:=mem_map.1 hr; rfl
theorem rC {l:List (MSt×Value)}: ∀ r∈l.map dg,r.length=2:=fun r hr=>by
 obtain ⟨q,_,rfl⟩:=mem_map.1 hr; rfl
theorem vo: ∀ l:List MArc,(l.map aI).flatten.all bA=true
 | []=>rfl
 | q::l=>by rw [List.map_cons,flatten_cons,List.all_append,vo l]; rfl
structure OwnM (h0 h:Heap)(v:Value)(ps:List (MSt×Value)):Prop where
 row:OwnK h0 h 37 2 v (ps.map dg)
 arcs: ∀ (i:Nat)(p:MSt×Value),ps[i]?=some p->OwnK h0 h 39 4 p.2 (p.1.arcs.map aI)
 ne: ∀ (i:Nat)(p:MSt×Value),ps[i]?=some p-> ∀ k,aM p.2=some k->aM v≠some k
 dis: ∀ (i j:Nat)(p q:MSt×Value),i≠j->ps[i]?=some p->ps[j]?=some q-> ∀ k,aM p.2=some k->aM q.2≠some k
section
variable {hb g g':Heap} {v:Value} {ps:List (MSt×Value)}
theorem OwnM.ok (m:OwnM hb g v ps)(o:Ok g g'):OwnM hb g' v ps:=⟨m.row.ok o,fun i p hp=>(m.arcs i p hp).ok o,m.ne,m.dis⟩
theorem OwnM.nd (m:OwnM hb g v ps):v≠lf:=by
 obtain ⟨_,⟨h1,_⟩ | ⟨k,off,cs,c,h1,_⟩⟩:=m.row
 ·rw [h1]; intro e; unfold lf at e; injection e with e _ _; cases e
 ·rw [h1]; intro e; unfold lf at e; injection e with e _ _; injection e with e; injection e with _ _ e; cases e
theorem OwnM.st (m:OwnM hb g v ps):StRow g v (ps.map (·.1)):=
 ⟨ps,rfl,m.row.rd,fun p hp=>by
  obtain ⟨i,hi,e⟩:=List.mem_iff_getElem.1 hp;exact (m.arcs i p (by rw [gE hi,e])).rd,m.nd⟩
theorem OwnM.nil (hb g:Heap):OwnM hb g (.slice none 0 0) []:=⟨OwnK.nil _ _ _ _,fun i p hp=>by simp at hp,fun i p hp=>by simp at hp,fun i j p q _ hp=>by simp at hp⟩
theorem Kt {kx:Nat}{cs:List Value}{e:TypeId}{z sz:Nat}{wr:Bool}(hkx:g.get kx=some (.cells cs e z wr))(hl:cs.length=sz):cm g sz (.slice (some ⟨kx,0,none⟩) 1 1)=some (([cs]:List (List Value)).flatten,1):=by
 show (match g.get kx with | some (.cells cs ..)=>if ((cs.drop 0).take (1*sz)).length=1*sz then some ((cs.drop 0).take (1*sz),1) else none | _=>none)=_;rw [hkx];dsimp only;rw [drop_zero,one_mul,take_of_length_le (by omega),if_pos hl];simp
theorem zv (w:Wf hb)(ok:Ok hb g){x:Value}{arcs:List MArc}(ox:OwnK hb g 39 4 x (arcs.map aI)){q:MArc}{kx:Nat}(hkx:g.get kx=some (.cells (aI q) 39 4 true))(hl:arcs.length<=100000):
  ∃ (b:Option Addr)(n c:Nat)(u:Upd),aO SS.P 35 35 x (.slice (some ⟨kx,0,none⟩) 1 1) g=some (.slice b n c,u)/\OwnK hb (u.app g) 39 4 (.slice b n c) ((arcs++[q]).map aI)/\Ok hb (u.app g)/\
   (∀ j B,g.get j=some B->aM x≠some j->(u.app g).get j=some B)/\(∀ j,aM (.slice b n c)=some j->g.next<=j\/aM x=some j)/\g.next<=(u.app g).next:=by
 have hlen:(arcs.map aI).length=arcs.length:=lM ..;obtain ⟨b,n,c,u,h1,h2,h3,h4⟩:=OwnK.add ti IN EH NY w ok ox (ns:=[aI q]) (Kt hkx rfl) (fun r hr=>by rw [mem_singleton.1 hr]; rfl) rfl (by rw [BN,hlen,length_singleton]; omega) (by rw [hlen,length_singleton]; omega) (.inl (le_refl _));exact ⟨b,n,c,u,h1,by rw [List.map_append]; exact h3,h4⟩
end
end
noncomputable def Cq:FD:=cD Tryz.f27 []
theorem zs (kind:Int)(h:Heap)(Q:VH)(hx:xN (aB SS.P 24) h fun B1 g2=>az (decide ((kind:Int) < 1)) (xA (aH SS.P 24 []) fun c3=>xU (ai SS.P 24 (pA (h.next)) (.agg ⟨c3⟩) g2) g2 fun u4 g5=>dG SS [((pA (h.next)),some 24),((.int .i64 1),none)] g5 Q) (az (decide ((kind:Int) > 3)) (xA (aH SS.P 24 []) fun c6=>xU (ai SS.P 24 (pA (h.next)) (.agg ⟨c6⟩) g2) g2 fun u7 g8=>dG SS [((pA (h.next)),some 24),((.int .i64 1),none)] g8 Q) (FW SS 50 [(.int .i64 kind)] (room g2 7) fun v9 h10=>yS v9 fun l11=>zR (aU SS.P 22 (.int .i64 1) (.int .i64 1)) fun B12 n13 c14=>xA (aH SS.P 24 [(0,(.int .i64 kind)),(2,(aa l11)),(3,(sA (g2.next+3) n13 c14))]) fun c15=>xU (ai SS.P 24 (pA (h.next)) (.agg ⟨c15⟩) (ay h10 g2.next [(3,B12)])) (ay h10 g2.next [(3,B12)]) fun u16 g17=>dG SS [((pA (h.next)),some 24),((.int .i64 0),none)] g17 Q))):FW SS 27 [(.int .i64 kind)] h Q:=cE Cq Tryz.func27 (aj hx)
noncomputable def LJ:FD:=cD Tryz.f50 []
theorem IU (kind:Int)(h:Heap)(Q:VH)(hx:FW SS 57 [(.int .i64 kind)] h fun v1 h2=> ∃ cs3:LV,∃ b4:Bool,v1=(.tuple ⟨[(.agg ⟨cs3⟩),(.bool b4)]⟩)/\xN (aB SS.P 68) h2 fun B5 g6=>xU (ai SS.P 68 (pA (h2.next)) (.agg ⟨cs3⟩) g6) g6 fun u7 g8=>xP (af SS.P 68 (pA (h2.next)) 1) fun p9=>xS (ag SS.P 9 g8 (.pointer (some p9))) fun l10=>Q (aa l10) g8):FW SS 50 [(.int .i64 kind)] h Q:=cE LJ Tryz.func50 (aj hx)
noncomputable def LS:FD:=cD Tryz.f80 []
theorem I1 (x y:Int)(h:Heap)(Q:VH)(hx:FW SS 108 [(.int .u64 x),(.int .u64 y)] h fun v1 h2=> ∃ n3:Int,∃ n4:Int,v1=(.tuple ⟨[(.int .u64 n3),(.int .u64 n4)]⟩)/\Q (.tuple ⟨[(.int .u64 n3),(.int .u64 n4)]⟩) h2):FW SS 80 [(.int .u64 x),(.int .u64 y)] h Q:=cE LS Tryz.func80 (aj hx)
noncomputable def eS:FD:=cD Tryz.f66 [([1,1,1,1,1,1,0,0,0],[7,8])]
abbrev iF (e:OA)(en ec:Nat)(j:Int):LV:=[(.slice e en ec),(.int .i64 j)]
theorem DR (a:OA)(n c:Nat)(x:Int)(h:Heap)(Q:VH)(hx:az (decide ((x:Int) < 0)) (False) (FW SS 80 [(.int .u64 (wrap .u64 (n:Int))),(.int .u64 (wrap .u64 x))] h fun v1 h2=> ∃ n3:Int,∃ n4:Int,v1=(.tuple ⟨[(.int .u64 n3),(.int .u64 n4)]⟩)/\az (decide ((n3:Int) > 0)) (False) (az (decide ((n4:Int) > 9223372036854775807)) (False) (xR (aU SS.P 48 (.int .i64 (wrap .i64 n4)) (.int .i64 (wrap .i64 n4))) h2 fun B5 n6 c7 g8=>xC (iz SS.P 48 (sA (h2.next) n6 c7) (.slice a n c) g8) g8 fun n9 u10 g11=>LL SS eS [1,1,1,1,1,1,0,0,0] [(sA (h2.next) n6 c7),(.int .i64 n9)] g11 (KK SS eS [1,1,1,1,1,1,0,0] [] (EE SS eS Q)))))):FW SS 66 [(.slice a n c),(.int .i64 x)] h Q:=cE eS Tryz.func66 (aj hx)
theorem pk (a:OA)(n c:Nat)(x:Int)(e:OA)(en ec:Nat)(Inv:Nat->Int->Heap->Prop)(Q:VH)(step: ∀ (mz:Nat) (j:Int) (zz:Nat->Value) (h:Heap),Inv mz j h->az (decide ((j:Int) < (en:Int))) (xL (bm SS.P 48 (.slice e en ec) (some (.int .i64 j)) none none (room h 10)) fun a12 n13 c14=>xL (bm SS.P 48 (.slice e en ec) none (some (.int .i64 j)) none (room h 10)) fun a15 n16 c17=>xC (iz SS.P 48 (.slice a12 n13 c14) (.slice a15 n16 c17) (room h 10)) (room h 10) fun n18 u19 g20=>aF (ga (iF e en ec) Inv) mz [(.slice e en ec),(.int .i64 (wrap .i64 (j+n18)))] g20) (Q (.slice e en ec) h))(mz:Nat){j:Int}{h:Heap}(hi:Inv mz j h):LL SS eS [1,1,1,1,1,1,0,0,0] (iF e en ec j) h (KK SS eS [1,1,1,1,1,1,0,0] [] (EE SS eS Q)):=
 cP (iF e en ec) Inv (fun mz j zz h hi=>aj (step mz j zz h hi)) mz hi
noncomputable def cQ:FD:=cD Tryz.f43 [([1,1,0,1,0,0],[1,2,4,5,19,20,21]),([1,1,1,1,0,1,0,0],[2,4,5,8,44,45,46]),([1,1,1,1,0,1,0,0,1,1,0,0,1,1,1,1,0,0],[2,4,5,8,11,44,45,46,69,70,71])]
abbrev gP (a:OA)(n c k k4:Nat)(e:OA)(en ec:Nat)(i:Nat):LV:=[(.slice a n c),(pA k),(pA k4),(.slice e en ec),(.slice a n c),(iA n),(iA i)]
abbrev eC (a:OA)(n c k k4 k8:Nat)(e:OA)(en ec:Nat)(i:Nat):LV:=[(pA k),(pA k4),(.slice e en ec),(pA k8),(.slice a n c),(iA n),(iA i)]
abbrev gY (a:OA)(n c k k4 k8 ks po:Nat)(e:OA)(en ec:Nat)(b:OA)(m d i:Nat)(j:Nat):LV:=[(pA k),(pA k4),(.slice e en ec),(pA k8),(.pointer (some ⟨ks,po,none⟩)),(.slice a n c),(iA n),(iA i),(.slice b m d),(iA m),(iA j)]
theorem JT (mv:LV)(a:OA)(n c:Nat)(h:Heap)(Q:VH)(hx:xN (dU SS.P 24 (.agg ⟨mv⟩)) h fun B1 g2=>xN (aB SS.P 24) g2 fun B3 g4=>xR (an SS.P 48 1 [(0,(.int .i64 (-1)))]) g4 fun B5 n6 c7 g8=>xP (af SS.P 24 (pA (h.next)) 3) fun p9=>xL (ag SS.P 22 g8 (.pointer (some p9))) fun a10 n11 c12=>FW SS 66 [(sA (g4.next) n6 c7),(iA n11)] g8 fun v13 h14=>yL v13 fun a15 n16 c17=>LL SS cQ [1,1,0,1,0,0] (gP a n c (h.next) (g2.next) a15 n16 c17 0) h14 (KK SS cQ [1,1,0,1,0] [] (EE SS cQ Q))):FW SS 43 [(.agg ⟨mv⟩),(.slice a n c)] h Q:=cE cQ Tryz.func43 (aj hx)
theorem qT (mv:LV)(a:OA)(n c:Nat)(k k4:Nat)(e:OA)(en ec:Nat)(Inv:Nat->Nat->Heap->Prop)(Q:VH)(step: ∀ (mz:Nat) (i:Nat) (zz:Nat->Value) (h:Heap),Inv mz i h->az (decide (((i:Int):Int) < (n:Int))) (xP (ah SS.P 48 (.slice a n c) (iA i)) fun p18=>xI .i64 (ag SS.P 3 h (.pointer (some p18))) fun n19=>xP (ah SS.P 48 (.slice e en ec) (.int .i64 n19)) fun p20=>xU (ai SS.P 3 (.pointer (some p20)) (iA i) h) h fun u21 g22=>aF (ga (gP a n c k k4 e en ec) Inv) mz [(.slice a n c),(pA k),(pA k4),(.slice e en ec),(.slice a n c),(iA n),(.int .i64 (wrap .i64 ((i:Int)+1)))] g22) (xP (af SS.P 24 (pA k) 0) fun p23=>xI .i64 (ag SS.P 3 (room h 15) (.pointer (some p23))) fun n24=>xP (af SS.P 24 (pA k) 1) fun p25=>xI .i64 (ag SS.P 3 (room h 15) (.pointer (some p25))) fun n26=>xP (ah SS.P 48 (.slice e en ec) (.int .i64 n26)) fun p27=>xI .i64 (ag SS.P 3 (room h 15) (.pointer (some p27))) fun n28=>xP (af SS.P 24 (pA k) 2) fun p29=>xS (ag SS.P 9 (room h 15) (.pointer (some p29))) fun l30=>zR (aU SS.P 22 (iA n) (iA n)) fun B31 n32 c33=>xA (aH SS.P 24 [(0,(.int .i64 n24)),(1,(.int .i64 n28)),(2,(aa l30)),(3,(sA (h.next+11) n32 c33))]) fun c34=>zN (aB SS.P 24) fun B35=>xU (ai SS.P 24 (pA (h.next+13)) (.agg ⟨c34⟩) (ay (room h 15) h.next [(13,B35),(11,B31)])) (ay (room h 15) h.next [(13,B35),(11,B31)]) fun u36 g37=>LL SS cQ [1,1,1,1,0,1,0,0] (eC a n c k k4 (h.next+13) e en ec 0) g37 (KK SS cQ [1,1,1,1,0,1,0] [] (EE SS cQ Q))))(mz:Nat){i:Nat}{h:Heap}(hi:Inv mz i h):LL SS cQ [1,1,0,1,0,0] (gP a n c k k4 e en ec i) h (KK SS cQ [1,1,0,1,0] [] (EE SS cQ Q)):=
 cP (gP a n c k k4 e en ec) Inv (fun mz i zz h hi=>aj (step mz i zz h hi)) mz hi
theorem qZ (mv:LV)(a:OA)(n c:Nat)(k k4 k8:Nat)(e:OA)(en ec:Nat)(Inv2:Nat->Nat->Heap->Prop)(Q:VH)(step: ∀ (mz2:Nat) (i:Nat) (zz:Nat->Value) (h:Heap),Inv2 mz2 i h->az (decide (((i:Int):Int) < (n:Int))) (xP (ah SS.P 48 (.slice a n c) (iA i)) fun p38=>xI .i64 (ag SS.P 3 h (.pointer (some p38))) fun n39=>xP (af SS.P 24 (pA k8) 3) fun p40=>xL (ag SS.P 22 h (.pointer (some p40))) fun a41 n42 c43=>xP (ah SS.P 22 (.slice a41 n42 c43) (iA i)) fun p44=>xP (af SS.P 24 (pA k) 3) fun p45=>xL (ag SS.P 22 h (.pointer (some p45))) fun a46 n47 c48=>xP (ah SS.P 22 (.slice a46 n47 c48) (.int .i64 n39)) fun p49=>xP (af SS.P 37 (.pointer (some p49)) 0) fun p50=>xS (ag SS.P 9 h (.pointer (some p50))) fun l51=>xP (af SS.P 37 (.pointer (some p44)) 0) fun p52=>xU (ai SS.P 9 (.pointer (some p52)) (aa l51) h) h fun u53 g54=>xP (af SS.P 24 (pA k) 3) fun p55=>xL (ag SS.P 22 g54 (.pointer (some p55))) fun a56 n57 c58=>xP (ah SS.P 22 (.slice a56 n57 c58) (.int .i64 n39)) fun p59=>xP (af SS.P 37 (.pointer (some p59)) 1) fun p60=>xL (ag SS.P 35 g54 (.pointer (some p60))) fun a61 n62 c63=>LL SS cQ [1,1,1,1,0,1,0,0,1,1,0,0,1,1,1,1,0,0] [(pA k),(pA k4),(.slice e en ec),(pA k8),(.pointer (some p44)),(.slice a n c),(iA n),(iA i),(.slice a61 n62 c63),(iA n62),(.int .i64 0)] g54 (KK SS cQ [1,1,0,0,1,1,1,1,0] [1,1,1,1,0,1,0,0] (RR cQ [1,1,1,1,0,1,0,0] (ga (eC a n c k k4 k8 e en ec) Inv2) mz2 (KK SS cQ [1,1,1,1,0,1,0] [] (EE SS cQ Q))))) (xA (ag SS.P 24 h (pA k8)) fun c64=>xU (ai SS.P 24 (pA k4) (.agg ⟨c64⟩) h) h fun u65 g66=>dG SS [((pA k4),some 24)] g66 Q))(mz2:Nat){i:Nat}{h:Heap}(hi:Inv2 mz2 i h):LL SS cQ [1,1,1,1,0,1,0,0] (eC a n c k k4 k8 e en ec i) h (KK SS cQ [1,1,1,1,0,1,0] [] (EE SS cQ Q)):=
 cP (eC a n c k k4 k8 e en ec) Inv2 (fun mz2 i zz h hi=>aj (step mz2 i zz h hi)) mz2 hi
theorem qW (mv:LV)(a:OA)(n c:Nat)(k k4 k8 ks po:Nat)(e:OA)(en ec:Nat)(b:OA)(m d:Nat)(Inv2:Nat->Nat->Heap->Prop)(mz2 i:Nat)(Inv3:Nat->Nat->Heap->Prop)(Q:VH)(step: ∀ (mz3:Nat) (j:Nat) (zz:Nat->Value) (h:Heap),Inv3 mz3 j h->az (decide (((j:Int):Int) < (m:Int))) (xP (ah SS.P 35 (.slice b m d) (iA j)) fun p67=>xA (ag SS.P 39 h (.pointer (some p67))) fun c68=>xN (aB SS.P 39) h fun B69 g70=>xU (ai SS.P 39 (pA (h.next)) (.agg ⟨c68⟩) g70) g70 fun u71 g72=>xP (af SS.P 39 (pA (h.next)) 3) fun p73=>xI .i64 (ag SS.P 3 g72 (.pointer (some p73))) fun n74=>xP (ah SS.P 48 (.slice e en ec) (.int .i64 n74)) fun p75=>xI .i64 (ag SS.P 3 g72 (.pointer (some p75))) fun n76=>xP (af SS.P 39 (pA (h.next)) 3) fun p77=>xU (ai SS.P 3 (.pointer (some p77)) (.int .i64 n76) g72) g72 fun u78 g79=>xP (af SS.P 39 (pA (h.next)) 3) fun p80=>xI .i64 (ag SS.P 3 g79 (.pointer (some p80))) fun n81=>az (((n81:Int) != (-1))) (xP (af SS.P 37 (.pointer (some ⟨ks,po,none⟩)) 1) fun p82=>xL (ag SS.P 35 (room g79 11) (.pointer (some p82))) fun a83 n84 c85=>xA (ag SS.P 39 (room g79 11) (pA (h.next))) fun c86=>zR (an SS.P 35 1 [(0,(.agg ⟨c86⟩))]) fun B87 n88 c89=>xE (aO SS.P 35 35 (.slice a83 n84 c85) (sA (g79.next+6) n88 c89) (ay (room g79 11) g79.next [(6,B87)])) (ay (room g79 11) g79.next [(6,B87)]) fun a90 n91 c92 u93 g94=>xP (af SS.P 37 (.pointer (some ⟨ks,po,none⟩)) 1) fun p95=>xU (ai SS.P 35 (.pointer (some p95)) (.slice a90 n91 c92) g94) g94 fun u96 g97=>aF (ga (gY a n c k k4 k8 ks po e en ec b m d i) Inv3) mz3 [(pA k),(pA k4),(.slice e en ec),(pA k8),(.pointer (some ⟨ks,po,none⟩)),(.slice a n c),(iA n),(iA i),(.slice b m d),(iA m),(.int .i64 (wrap .i64 ((j:Int)+1)))] g97) (aF (ga (gY a n c k k4 k8 ks po e en ec b m d i) Inv3) mz3 [(pA k),(pA k4),(.slice e en ec),(pA k8),(.pointer (some ⟨ks,po,none⟩)),(.slice a n c),(iA n),(iA i),(.slice b m d),(iA m),(.int .i64 (wrap .i64 ((j:Int)+1)))] g79)) (aF (ga (eC a n c k k4 k8 e en ec) Inv2) mz2 [(pA k),(pA k4),(.slice e en ec),(pA k8),(.slice a n c),(iA n),(.int .i64 (wrap .i64 ((i:Int)+1)))] h))(mz3:Nat){j:Nat}{h:Heap}(hi:Inv3 mz3 j h):LL SS cQ [1,1,1,1,0,1,0,0,1,1,0,0,1,1,1,1,0,0] (gY a n c k k4 k8 ks po e en ec b m d i j) h (KK SS cQ [1,1,0,0,1,1,1,1,0] [1,1,1,1,0,1,0,0] (RR cQ [1,1,1,1,0,1,0,0] (ga (eC a n c k k4 k8 e en ec) Inv2) mz2 (KK SS cQ [1,1,1,1,0,1,0] [] (EE SS cQ Q)))):=
 cP (gY a n c k k4 k8 ks po e en ec b m d i) Inv3 (fun mz3 j zz h hi=>aj (step mz3 j zz h hi)) mz3 hi
noncomputable def j5:FD:=cD Tryz.f23 [([1,1,1,1,1,0,1,0,0],[1,2,5,25,26,27])]
abbrev eT (k k2:Nat)(a:OA)(n c:Nat)(i:Nat)(t:OA)(tn tc:Nat):LV:=[(pA k),(pA k2),(.slice t tn tc),(.slice a n c),(iA n),(iA i)]
theorem GX (mv:LV)(h:Heap)(Q:VH)(hx:xN (dU SS.P 24 (.agg ⟨mv⟩)) h fun B1 g2=>xN (aB SS.P 24) g2 fun B3 g4=>xA (ag SS.P 24 g4 (pA (h.next))) fun c5=>FW SS 10 [(.agg ⟨c5⟩)] g4 fun v6 h7=>yB v6 fun b8=>az (!b8) (xA (aH SS.P 24 []) fun c9=>xU (ai SS.P 24 (pA (g2.next)) (.agg ⟨c9⟩) h7) h7 fun u10 g11=>dG SS [((pA (g2.next)),some 24),((.int .i64 1),none)] g11 Q) (xA (ag SS.P 24 h7 (pA (h.next))) fun c12=>FW SS 41 [(.agg ⟨c12⟩)] h7 fun v13 h14=>yL v13 fun a15 n16 c17=>xP (af SS.P 24 (pA (h.next)) 1) fun p18=>xI .i64 (ag SS.P 3 h14 (.pointer (some p18))) fun n19=>xP (ah SS.P 46 (.slice a15 n16 c17) (.int .i64 n19)) fun p20=>xB (ag SS.P 4 h14 (.pointer (some p20))) fun b21=>az (!b21) (xP (af SS.P 24 (pA (h.next)) 0) fun p22=>xI .i64 (ag SS.P 3 h14 (.pointer (some p22))) fun n23=>FW SS 27 [(.int .i64 n23)] h14 fun v24 h25=> ∃ cs26:LV,∃ n27:Int,v24=(.tuple ⟨[(.agg ⟨cs26⟩),(.int .i64 n27)]⟩)/\xU (ai SS.P 24 (pA (g2.next)) (.agg ⟨cs26⟩) h25) h25 fun u28 g29=>dG SS [((pA (g2.next)),some 24),((.int .i64 n27),none)] g29 Q) (LL SS j5 [1,1,1,1,1,0,1,0,0] (eT (h.next) (g2.next) a15 n16 c17 0 none 0 0) h14 (KK SS j5 [1,1,1,1,1,0,1,0] [] (EE SS j5 Q))))):FW SS 23 [(.agg ⟨mv⟩)] h Q:=cE j5 Tryz.func23 (aj hx)
theorem pZ (mv:LV)(k k2:Nat)(a:OA)(n c:Nat)(Inv:Nat->Nat->OA->Nat->Nat->Heap->Prop)(Q:VH)(step: ∀ (mz:Nat) (i:Nat) (t:OA) (tn tc:Nat) (zz:Nat->Value) (h:Heap),Inv mz i t tn tc h->az (decide (((i:Int):Int) < (n:Int))) (xP (ah SS.P 46 (.slice a n c) (iA i)) fun p30=>xB (ag SS.P 4 h (.pointer (some p30))) fun b31=>az b31 (xR (an SS.P 48 1 [(0,(iA i))]) h fun B32 n33 c34 g35=>xE (aO SS.P 48 48 (.slice t tn tc) (sA (h.next) n33 c34) g35) g35 fun a36 n37 c38 u39 g40=>aF (xg (eT k k2 a n c) Inv) mz [(pA k),(pA k2),(.slice a36 n37 c38),(.slice a n c),(iA n),(.int .i64 (wrap .i64 ((i:Int)+1)))] g40) (aF (xg (eT k k2 a n c) Inv) mz [(pA k),(pA k2),(.slice t tn tc),(.slice a n c),(iA n),(.int .i64 (wrap .i64 ((i:Int)+1)))] h)) (xA (ag SS.P 24 h (pA k)) fun c41=>FW SS 43 [(.agg ⟨c41⟩),(.slice t tn tc)] h fun v42 h43=>yA v42 fun c44=>xU (ai SS.P 24 (pA k2) (.agg ⟨c44⟩) h43) h43 fun u45 g46=>dG SS [((pA k2),some 24),((.int .i64 0),none)] g46 Q))(mz:Nat){i:Nat}{t:OA}{tn tc:Nat}{h:Heap}(hi:Inv mz i t tn tc h):LL SS j5 [1,1,1,1,1,0,1,0,0] (eT k k2 a n c i t tn tc) h (KK SS j5 [1,1,1,1,1,0,1,0] [] (EE SS j5 Q)):=
 xp (eT k k2 a n c) Inv (fun mz i t tn tc zz h hi=>aj (step mz i t tn tc zz h hi)) mz hi
end Go.Proofs.YtoabjjimjldcfaaGreatDoor
end
