/- Laws and walks that the proof leans on (part 5): P51; P52; P53; P54; P55; P56 and others. No condition. -/
import Derived.Test.YtoabjjimjldcfaaGreatDoorPart4
import Derived.Test.YtoabjjimjldcfaaGreatDoorPart2
import Derived.ChangeArms
import Derived.DataElems
import Derived.Shelf.SlSortCmp.NoneTotal
import Derived.Test.YtoabjjimjldcfaaGreatDoorProg
import Derived.OpenShut
import Derived.MakeChecks
import Derived.FnData
import Derived.ChangeSame
import Derived.Test.YtoabjjimjldcfaaGreatDoorRows
import Derived.ProofKit
import Derived.LaidLaws
import Derived.LaidHandle
import Derived.ChangeVars
open List (all_eq_true append_assoc append_nil drop_append drop_eq_nil_of_le eq_nil_of_length_eq_zero filterMap_cons flatten_cons foldl_append foldl_cons getElem?_eq_none getElem?_map getElem?_of_mem getElem?_range getElem?_set getElem?_take length_append length_drop length_replicate length_set length_take map_append map_congr_left map_map map_set mem_append mem_cons mem_cons_of_mem mem_cons_self mem_filterMap mem_map mem_range mem_singleton nil_append nodup_cons nodup_range pairwise_map prefix_rfl sum_cons take_add_one take_of_length_le)
open Nat (add_mul eq_zero_or_pos le_add_right le_refl le_trans mod_lt mul_one one_mul sub_self zero_add zero_le)
open Option (map_eq_some_iff map_some)
open Bool (and_eq_true eq_false_iff)
open Go.IntKind (wrap)
section
set_option linter.unusedVariables false
set_option maxRecDepth 100000
namespace Go.Proofs.YtoabjjimjldcfaaGreatDoor
open Go Go.Ab
theorem Iw {v:Nat}(hv:v < 4294967296):(((BitVec.ofInt (IntKind.bits .u64) (v:Int) &&& BitVec.ofInt (IntKind.bits .u64) 4294967295).toNat:Nat):Int)=(v:Int):=by
 have e:IntKind.bits .u64=64:=rfl;rw [e,BitVec.toNat_and];have h1:(BitVec.ofInt 64 (v:Int)).toNat=v:=by
  rw [BitVec.toNat_ofInt]; omega
 have h2:(BitVec.ofInt 64 4294967295).toNat=2 ^ 32 - 1:=rfl;rw [h1,h2,Nat.and_two_pow_sub_one_eq_mod,Nat.mod_eq_of_lt hv]
theorem Hu {v:Nat}(hv:v < 4294967296):ak SS.P .shr 103 (.int .u64 (v:Int)) (.int .u64 32)=some (.int .u64 ((0:Nat):Int)):=by
 have e:((v:Int)).fdiv (2 ^ (min ((32:Int)).toNat (IntKind.bits .u64)))=((0:Nat):Int):=by
  rw [show min ((32:Int)).toNat (IntKind.bits .u64)=32 from rfl,Int.fdiv_eq_ediv_of_nonneg _ (by decide),show (2:Int) ^ 32=4294967296 from rfl];omega
 show (if (0:Int)<=32 then some (Value.int .u64 (((v:Int)).fdiv (2 ^ (min ((32:Int)).toNat (IntKind.bits .u64))))) else none)=_;rw [if_pos (by decide),e]
theorem EB {y:Nat}(hy:y < 4294967296)(h:Heap):FW SS 108 [.int .u64 1,.int .u64 (y:Int)] h (fun v h'=>v = .tuple ⟨[.int .u64 0,.int .u64 (y:Int)]⟩/\h'=h):=by
 refine HI 1 (y:Int) h _ ?_;have w0: ∀ z:Nat,z < 4294967296->wrap .u64 (z:Int)=(z:Int):=fun z hz=>cC (by omega) (by omega);have e1:(((BitVec.ofInt (IntKind.bits .u64) 1 &&& BitVec.ofInt (IntKind.bits .u64) 4294967295).toNat:Nat):Int)=((1:Nat):Int):=Iw (v:=1) (by decide);have ey:=Iw hy;have z1:=Hu (v:=1) (by decide);have zy:=Hu hy;have z0:=Hu (v:=0) (by decide);have a0:=Iw (v:=0) (by decide);have m0:wrap .u64 (((1:Nat):Int)*(y:Int))=(y:Int):=by rw [show ((1:Nat):Int)*(y:Int)=((y:Nat):Int) by omega]; exact w0 y hy
 have m1:wrap .u64 (((0:Nat):Int)*(y:Int))=((0:Nat):Int):=by rw [show ((0:Nat):Int)*(y:Int)=((0:Nat):Int) by omega]; exact w0 0 (by decide)
 have m2:wrap .u64 (((0:Nat):Int)+((0:Nat):Int))=((0:Nat):Int):=w0 0 (by decide);have m3:wrap .u64 (((1:Nat):Int)*((0:Nat):Int))=((0:Nat):Int):=w0 0 (by decide);have m4:wrap .u64 (((0:Nat):Int)*((0:Nat):Int))=((0:Nat):Int):=w0 0 (by decide);have m5:wrap .u64 ((1:Int)*(y:Int))=(y:Int):=by rw [Int.one_mul]; exact w0 y hy
 refine ⟨((0:Nat):Int),z1,((0:Nat):Int),zy,((0:Nat):Int),?_,((0:Nat):Int),?_,((0:Nat):Int),?_,?_⟩
 ·rw [e1,ey,w0 1 (by decide),w0 y hy,m0]; exact zy
 ·rw [ey,w0 y hy,m1,m2]; exact z0
 ·rw [e1,ey,w0 1 (by decide),w0 y hy,m1,m2,a0,w0 0 (by decide),m3,m2]; exact z0
 ·rw [m4,m2]; dsimp only; rw [m2,m5]; exact ⟨rfl,rfl⟩
theorem Ip {y:Nat}(hy:y < 4294967296)(h:Heap):FW SS 80 [.int .u64 1,.int .u64 (y:Int)] h (fun v h'=>v = .tuple ⟨[.int .u64 0,.int .u64 (y:Int)]⟩/\h'=h):=by
 refine JQ 1 (y:Int) h _ ((EB hy h).mono ?_);rintro _ _ ⟨rfl,rfl⟩;exact ⟨_,_,rfl,rfl,rfl⟩
theorem Gp {g:Heap}{kt n j:Nat}{cs:List Value}(hk:g.get kt=some (.cells cs 3 1 true))(hl:cs.length=n)(hn:n < bj)(hj:j<=n):
  bh SS.P 48 (.slice (some ⟨kt,0,none⟩) n n) (some (.int .i64 (j:Int))) none none g=some (.slice (some ⟨kt,j,none⟩) (n - j) (n - j))/\
  bh SS.P 48 (.slice (some ⟨kt,0,none⟩) n n) none (some (.int .i64 (j:Int))) none g=some (.slice (some ⟨kt,0,none⟩) j n):=by
 have hcap:aI n=n:=by unfold aI; rw [if_neg (by omega)]
 constructor
 ·unfold bh;dsimp only;rw [kJ];dsimp only [bZ];rw [IJ,hk];dsimp only;rw [if_pos (by omega),hcap,if_pos (by omega)];have e1:((j:Int)).toNat=j:=by omega
  have e2:((n:Int) - (j:Int)).toNat=n - j:=by omega
  rw [e1,e2,mul_one,zero_add]
 ·unfold bh;dsimp only;rw [kJ];dsimp only [bZ];rw [IJ,hk];dsimp only;rw [if_pos (by omega),hcap,if_pos (by omega)];have e2:((j:Int) - ((0:Nat):Int)).toNat=j:=by omega
  have e0:((0:Nat):Int).toNat=0:=rfl;rw [e2,e0]; rfl
theorem Da {g:Heap}{kt i m:Nat}{n:Nat}{c:Nat}{cs:List Value}(hk:g.get kt=some (.cells cs 3 1 true))(hb:i+n<=cs.length){src:Value}{news:List Value}(hs:cz g 1 src=some (news,m))(hm:news.length=m)(hn0:n≠0)(hm0:m≠0)(hsc:news.all bI=true):
  lj SS.P 48 (.slice (some ⟨kt,i,none⟩) n c) src g=some (.int .i64 ((min m n:Nat):Int),.set kt (.cells (cs.take i++news.take (min m n)++cs.drop (i+min m n)) 3 1 true)):=by
 have hmin:=Nat.min_le_right m n;have hmin2:=Nat.min_le_left m n;have hlen:(news.take (min m n)).length=min m n:=by rw [length_take]; omega
 have hall:(news.take (min m n)).all bI=true:=all_eq_true.2 fun x hx=>all_eq_true.1 hsc x (List.mem_of_mem_take hx);unfold lj;rw [kJ];dsimp only;rw [IJ];dsimp only;rw [hs];dsimp only;rw [if_neg (by omega),mul_one];unfold storeAt;rw [hk];dsimp only;rw [if_pos ⟨by omega,hall⟩,hlen];rfl
def fc (x z:Value)(j n:Nat):List Value:=List.replicate j x++List.replicate (n - j) z
theorem FC {x z:Value}{j n:Nat}(hj:j<=n):(fc x z j n).take j++(List.replicate j x).take (min j (n - j))++(fc x z j n).drop (j+min j (n - j))=fc x z (j+min j (n - j)) n:=by
 have hmin:=Nat.min_le_right j (n - j);have hmin2:=Nat.min_le_left j (n - j);generalize min j (n - j)=m at *;unfold fc;rw [List.take_append_of_le_length (by simp),take_of_length_le (by simp),List.take_replicate,Nat.min_eq_left hmin2,drop_append,drop_eq_nil_of_le (by simp),nil_append,length_replicate,List.drop_replicate,List.replicate_append_replicate];congr 1;congr 1; omega
theorem vN {h:Heap}(w:Wf h){kx n:Nat}(hkx:h.get kx=some (.cells [.int .i64 (-1)] 3 1 true))(hn:n<=100000):FW SS 66 [.slice (some ⟨kx,0,none⟩) 1 1,.int .i64 (n:Int)] h (fun v h'=> ∃ kn,v = .slice (some ⟨kn,0,none⟩) n n/\IRow h kn 3 (List.replicate n (.int .i64 (-1))) h'):=by
 have wr:wrap .u64 (n:Int)=(n:Int):=cC (by omega) (by omega);have wr1:wrap .u64 ((1:Nat):Int)=((1:Nat):Int):=cC (by omega) (by omega);have wr2:wrap .i64 (n:Int)=(n:Int):=aq (by omega) (by omega);refine Eu (some ⟨kx,0,none⟩) 1 1 (n:Int) h _ (ae (fun g=> ?_) (fun _=> ?_))
 ·have g:=dT g; omega
 rw [wr,wr1];refine (Ip (by omega) h).mono ?_;rintro _ g0 ⟨rfl,e0⟩;rw [e0];refine ⟨_,_,rfl,ae (fun g=> ?_) (fun _=>ae (fun g=> ?_) (fun _=> ?_))⟩
 ·exact absurd (dT g) (by omega)
 ·have g:=dT g; omega
 rw [wr2];have mk:=Nu n hn;rw [show (List.replicate n 0).map iv=fc (.int .i64 (-1)) (.int .i64 0) 0 n by unfold fc; rw [List.map_replicate]; rfl] at mk;refine ⟨_,_,_,mk,?_⟩;have op:=(Ok.refl w).push (.cells (fc (.int .i64 (-1)) (.int .i64 0) 0 n) 3 1 true);have kt:=ay h (.cells (fc (.int .i64 (-1)) (.int .i64 0) 0 n) 3 1 true);have hx:=op.ext _ _ hkx;generalize h.push (.cells (fc (.int .i64 (-1)) (.int .i64 0) 0 n) 3 1 true)=g at *;have hfl: ∀ j,j<=n->(fc (.int .i64 (-1)) (.int .i64 0) j n).length=n:=fun j hj=>by unfold fc; simp; omega
 have loop: ∀ (j:Nat)(g:Heap),j<=n->(j=0->n=0)->IRow h h.next 3 (fc (.int .i64 (-1)) (.int .i64 0) j n) g->LL SS eM [1,1,1,1,1,1,0,0,0] [(sA (h.next) n n),(.int .i64 (j:Int))] g (KK SS eM [1,1,1,1,1,1,0,0] [] (EE SS eM fun v h'=> ∃ kn,v = .slice (some ⟨kn,0,none⟩) n n/\IRow h kn 3 (List.replicate n (.int .i64 (-1))) h')):=by
  intro j g hj h0 ir;refine nV (some ⟨kx,0,none⟩) 1 1 (n:Int) (some ⟨h.next,0,none⟩) n n (fun mz j g=> ∃ i:Nat,j=(i:Int)/\i<=n/\(i=0->n=0)/\mz=n - i/\IRow h h.next 3 (fc (.int .i64 (-1)) (.int .i64 0) i n) g) _ (fun mz j=> ?_) (n - j) (j:=(j:Int)) ⟨j,rfl,hj,h0,rfl,ir⟩;intros; rename_i gg hi;obtain ⟨i,rfl,i1,i2,rfl,ir⟩:=hi;refine ae (fun q=> ?_) (fun q=> ?_)
  ·have q:=dT q;have oR:=(Ok.refl ir.ok.wf).room 10;have hk:=oR.ext _ _ ir.row;obtain ⟨s1,s2⟩:=Gp hk (hfl i i1) (by unfold bj; omega) i1;have src:cz (Go.Ab.room gg 10) 1 (.slice (some ⟨h.next,0,none⟩) i n)=some (List.replicate i (.int .i64 (-1)),i):=by
    show (match (Go.Ab.room gg 10).get h.next with | some (.cells cs ..)=>if ((cs.drop 0).take (i*1)).length=i*1 then some ((cs.drop 0).take (i*1),i) else none | _=>none)=_;rw [hk];dsimp only;rw [mul_one,List.drop_zero,if_pos (by rw [length_take,hfl i i1]; omega)];unfold fc;rw [List.take_append_of_le_length (by simp),take_of_length_le (by simp)]
   have cp:=Da (c:=n - i) hk (by rw [hfl i i1]; omega) (i:=i) (n:=n - i) src (by simp) (by omega) (by omega) (all_eq_true.2 fun x hx=>by rw [List.eq_of_mem_replicate hx]; rfl);rw [FC i1] at cp;refine ⟨_,_,_,s1,_,_,_,s2,_,_,cp,?_⟩;have hmin:min i (n - i)<=n - i:=Nat.min_le_right _ _;have hmin2:0 < min i (n - i):=by omega
   have hmin3:min i (n - i)<=i:=Nat.min_le_left _ _;generalize min i (n - i)=m at *;dsimp only;rw [show wrap .i64 ((i:Int)+(m:Int))=((i+m:Nat):Int) by rw [aq (by omega) (by omega)]; omega];refine cA (n - (i+m)) (by omega) ⟨i+m,rfl,by omega,by omega,rfl,?_,ir.new,?_⟩
   ·show ((Go.Ab.room gg 10).set h.next _).get h.next=_;rw [Heap.get_set,if_pos rfl]
   ·exact (ir.ok.trans oR).set _ (le_refl _) (oR.wf _ _ hk) w
  ·have q:=dF q;obtain rfl:i=n:=by omega
   refine ⟨h.next,rfl,?_⟩;have e:fc (.int .i64 (-1)) (.int .i64 0) i i=List.replicate i (.int .i64 (-1)):=by unfold fc; rw [sub_self]; simp
   rw [e] at ir;exact ir
 have src1:cz g 1 (.slice (some ⟨kx,0,none⟩) 1 1)=some ([.int .i64 (-1)],1):=by
  show (match g.get kx with | some (.cells cs ..)=>if ((cs.drop 0).take (1*1)).length=1*1 then some ((cs.drop 0).take (1*1),1) else none | _=>none)=_;rw [hx]; rfl
 by_cases h0:n=0
 ·subst h0;have cp:lj SS.P 48 (.slice (some ⟨h.next,0,none⟩) 0 0) (.slice (some ⟨kx,0,none⟩) 1 1) g=some (.int .i64 0,.no):=by
   unfold lj;rw [kJ]; dsimp only;rw [IJ]; dsimp only;rw [src1]; dsimp only;rw [if_pos (.inl rfl)]
  exact ⟨_,_,cp,loop 0 _ (le_refl _) (fun _=>rfl) ⟨kt,le_refl _,op⟩⟩
 ·have cp:=Da (c:=n) kt (by rw [hfl 0 (by omega)]; omega) (i:=0) (n:=n) src1 rfl h0 (by decide) rfl;have e:(fc (.int .i64 (-1)) (.int .i64 0) 0 n).take 0++([.int .i64 (-1)]:List Value).take (min 1 n)++(fc (.int .i64 (-1)) (.int .i64 0) 0 n).drop (0+min 1 n)=fc (.int .i64 (-1)) (.int .i64 0) 1 n:=by
   rw [show min 1 n=1 by omega];unfold fc;rw [drop_append];simp
  rw [e,show min 1 n=1 by omega] at cp;refine ⟨_,_,cp,loop 1 _ (by omega) (by omega) ⟨?_,le_refl _,op.set _ (le_refl _) (op.wf _ _ kt) w⟩⟩;show (g.set h.next _).get h.next=_;rw [Heap.get_set,if_pos rfl]
section
def jp:Blk:= .cells [.int .i64 0,.int .i64 0,aa [],.slice none 0 0] 24 0 true
theorem qY:aD SS.P 24=some (jp,gb):=by kernel_rfl
theorem G3 (k s:Int)(l:List UInt8)(a:Option Addr)(n c:Nat):aC SS.P 24 [(0,(.int .i64 k)),(1,(.int .i64 s)),(2,(aa l)),(3,(.slice a n c))]=some (.agg ⟨[.int .i64 k,.int .i64 s,aa l,.slice a n c]⟩):=by cases a <;> kernel_rfl
theorem fy (M:Mach)(a:Option Addr)(n c:Nat):(aQ M a n c).all bI=true:=by cases a <;> rfl
section
variable {hb g g':Heap} {k8 k22 N:Nat} {M':Mach} {ps:List (MSt×Value)}
structure RenI (hb:Heap)(k8 k22 N:Nat)(M':Mach)(ps:List (MSt×Value))(g:Heap):Prop where
 own:OwnM hb g (.slice (some ⟨k22,0,none⟩) N N) ps
 ok:Ok hb g
 box:g.get k8=some (Bm M' (some ⟨k22,0,none⟩) N N)
 hi: ∀ (i:Nat)(p:MSt×Value),ps[i]?=some p-> ∀ j,aK p.2=some j->k8 < j
 nk:k22≠k8
theorem RenI.ext (r:RenI hb k8 k22 N M' ps g)(o:Ok g g'):RenI hb k8 k22 N M' ps g':=⟨r.own.ok o,r.ok.trans o,o.ext _ _ r.box,r.hi,r.nk⟩
theorem RenI.l3 (r:RenI hb k8 k22 N M' ps g):ah SS.P 22 g (.pointer (some ⟨k8,3,none⟩))=some (.slice (some ⟨k22,0,none⟩) N N):=cZ EJ LO r.box (by simp [aQ])
theorem RenI.all (r:RenI hb k8 k22 N M' ps g):ah SS.P 24 g (.pointer (some ⟨k8,0,none⟩))=some (.agg ⟨aQ M' (some ⟨k22,0,none⟩) N N⟩):=gj BO Cg gK r.box (by simp [aQ])
theorem RenI.setF (w:Wf hb)(r:RenI hb k8 k22 N M' ps g){i:Nat}{p:MSt×Value}(hp:ps[i]?=some p)(f:List UInt8):
  ∃ u:Upd,ai SS.P 9 (.pointer (some ⟨k22,i*2+0,none⟩)) (aa f) g=some (undef,u)/\RenI hb k8 k22 N M' (ps.set i (⟨f,p.1.arcs⟩,p.2)) (u.app g)/\g.next<=(u.app g).next:=by
 obtain ⟨u,h1,h2,h3,h4,h5⟩:=r.own.setF w r.ok hp f;rw [zero_add] at h1;refine ⟨u,h1,⟨h2,h3,h4 _ _ r.box r.nk,fun j q hq k hk=> ?_,r.nk⟩,Nat.le_of_eq h5.symm⟩;rcases az hq with ⟨_,e⟩ | ⟨_,hq⟩
 ·rw [e] at hk; exact r.hi i p hp k hk
 ·exact r.hi j q hq k hk
theorem RenI.arc (w:Wf hb)(r:RenI hb k8 k22 N M' ps g){i:Nat}{p:MSt×Value}(hp:ps[i]?=some p){q:MArc}{kx:Nat}(hkx:g.get kx=some (.cells (aO q) 39 4 true))(hl:p.1.arcs.length<=100000):
  ∃ (x:Option Addr)(y z:Nat),ah SS.P 35 g (.pointer (some ⟨k22,i*2+1,none⟩))=some (.slice x y z)/\p.2 = .slice x y z/\ ∃ (b:Option Addr)(n c:Nat)(u:Upd),aJ SS.P 35 35 (.slice x y z) (.slice (some ⟨kx,0,none⟩) 1 1) g=some (.slice b n c,u)/\
   ∃ u2:Upd,ai SS.P 35 (.pointer (some ⟨k22,i*2+1,none⟩)) (.slice b n c) (u.app g)=some (undef,u2)/\RenI hb k8 k22 N M' (ps.set i (⟨p.1.f,p.1.arcs++[q]⟩,.slice b n c)) (u2.app (u.app g)):=by
 obtain ⟨a1,a2,_⟩:=r.own.at_ hp;rw [zero_add] at a1 a2;have ao:=r.own.arcs i p hp;obtain ⟨x,z,e⟩:=ao.slc;obtain ⟨b,n,c,u,h1,h2,h3,h4,h5,h6⟩:=rK w r.ok ao hkx hl;obtain ⟨u2,s1,s2,s3,s4,s5⟩:=r.own.setA w h3 hp h4 h2 h5 r.ok.wf;rw [zero_add] at s1;rw [e] at h1 a2;refine ⟨x,_,z,a2,e,b,n,c,u,h1,u2,s1,⟨s2,s3,s4 _ _ (h4 _ _ r.box (fun e'=>by have:=r.hi i p hp _ e'; omega)) r.nk,fun j q' hq' k hk=> ?_,r.nk⟩⟩;have h8:k8 < g.next:=r.ok.wf _ _ r.box;rcases az hq' with ⟨_,e⟩ | ⟨_,hq'⟩
 ·rw [e] at hk;rcases h5 k hk with h | h
  ·omega
  ·exact r.hi i p hp k h
 ·exact r.hi j q' hq' k hk
end
theorem AB.setT {hb g:Heap}(w:Wf hb)(ok:Ok hb g){k:Nat}{q:MArc}(b:AB g k q)(hk:hb.next<=k)(z:Int): ∃ u:Upd,ai SS.P 3 (.pointer (some ⟨k,0+3,none⟩)) (.int .i64 z) g=some (undef,u)/\Ok hb (u.app g)/\AB (u.app g) k ⟨q.i,q.o,q.w,z⟩:=by
 refine ⟨_,lI IJ b (by simp [aO]) rfl rfl,ok.set _ hk (ok.wf _ _ b) w,?_⟩;show (g.set k _).get k=_;rw [Heap.get_set,if_pos rfl]; rfl
theorem AB.all {g:Heap}{k:Nat}{q:MArc}(b:AB g k q):ah SS.P 39 g (.pointer (some ⟨k,0,none⟩))=some (.agg ⟨aO q⟩):=gj He Id uP b (by simp [aO])
def Gf (N:Nat)(ord:List Nat):List Value:=(List.range N).map fun x=> .int .i64 (bK ord 0 x)
theorem CE (N:Nat)(ord:List Nat):(Gf N ord).length=N:=by simp [Gf]
theorem Jf (N:Nat):Gf N []=List.replicate N (.int .i64 (-1)):=by
 refine List.ext_getElem? fun i=> ?_;unfold Gf;rw [getElem?_map,List.getElem?_replicate];by_cases h:i < N
 ·rw [getElem?_range h,if_pos h]; rfl
 ·rw [getElem?_eq_none (by simpa using h),if_neg h]; rfl
theorem F8 {N:Nat}{ord:List Nat}{s:Nat}(hs:s ∉ ord):Gf N (ord++[s])=(Gf N ord).set s (.int .i64 ((ord.length:Nat):Int)):=by
 refine List.ext_getElem? fun i=> ?_;unfold Gf;rw [getElem?_set,getElem?_map,getElem?_map,lM,List.length_range];by_cases h:i < N
 ·rw [getElem?_range h];simp only [map_some];rw [uR _ _ _ _ hs,zero_add];by_cases h2:i=s
  ·rw [if_pos h2,if_pos h2.symm,if_pos (by omega)]
  ·rw [if_neg h2,if_neg (fun e=>h2 e.symm)]
 ·rw [getElem?_eq_none (by simpa using h)];by_cases h2:s=i
  ·rw [if_pos h2,if_neg (by omega)]; rfl
  ·rw [if_neg h2]; rfl
theorem Bv {g:Heap}{kn N c:Nat}{ord:List Nat}(hg:g.get kn=some (.cells (Gf N ord) 3 1 true)){x:Nat}(hx:x < N):ag SS.P 48 (.slice (some ⟨kn,0,none⟩) N c) (.int .i64 (x:Int))=some (.pointer (some ⟨kn,x,none⟩))/\ah SS.P 3 g (.pointer (some ⟨kn,x,none⟩))=some (.int .i64 (bK ord 0 x)):=by
 have h1:=Ff (P:=SS.P) kJ IJ (k:=kn) (off:=0) (n:=N) (c:=c) (ik:= .i64) (i:=(x:Int)) (by omega) (by omega);rw [Int.toNat_natCast,zero_add,mul_one] at h1;refine ⟨h1,?_⟩;rw [cZ HO Ij hg (by rw [CE]; exact hx)];unfold Gf;rw [gD,getElem?_map,getElem?_range hx]; rfl
theorem el: ∀ {l:List Nat},l.Nodup-> ∀ {i j x:Nat},l[i]?=some x->l[j]?=some x->i=j
 | [],_,i,j,x,h,_=>by simp at h
 | y::l,hn,0,0,x,_,_=>rfl
 | y::l,hn,0,j+1,x,h,h'=>by
  obtain rfl:y=x:=by simpa using h
  exact absurd (List.mem_of_getElem? (by simpa using h')) (nodup_cons.1 hn).1
 | y::l,hn,i+1,0,x,h,h'=>by
  obtain rfl:y=x:=by simpa using h'
  exact absurd (List.mem_of_getElem? (by simpa using h)) (nodup_cons.1 hn).1
 | y::l,hn,i+1,j+1,x,h,h'=>by
  exact congrArg (· + 1) (el (nodup_cons.1 hn).2 (x:=x) (by simpa using h) (by simpa using h'))
theorem dp: ∀ (N:Nat){l:List Nat},l.Nodup->(∀ x∈l,x < N)->l.length<=N
 | 0,l,_,h=>by
  cases l with
  | nil=>exact le_refl _
  | cons x l=>exact absurd (h x (mem_cons_self ..)) (Nat.not_lt_zero _)
 | N+1,l,hn,h=>by
  by_cases hm:N∈l
  ·have h1:=List.length_erase_of_mem hm;have h2:=dp N (hn.erase N) (fun x hx=>by
    have h3:=(hn.mem_erase_iff).1 hx;have:=h x h3.2;omega)
   have h4:0 < l.length:=List.length_pos_of_mem hm;omega
  ·exact Nat.le_succ_of_le (dp N hn fun x hx=>by
    have:=h x hx;have:x≠N:=fun e=>hm (e ▸ hx);omega)
theorem wq {g:Heap}(w:Wf g){n i j:Nat}(hi:i < n)(hj:j < n)(hne:i≠j)(A B:Blk):Ok g (ax (Go.Ab.room g n) g.next [(j,B),(i,A)])/\(ax (Go.Ab.room g n) g.next [(j,B),(i,A)]).get (g.next+i)=some A/\(ax (Go.Ab.room g n) g.next [(j,B),(i,A)]).get (g.next+j)=some B:=by
 have o1:Ok g ((Go.Ab.room g n).set (g.next+i) A):=((Ok.refl w).room n).set A (le_add_right _ _) (Nat.add_lt_add_left hi _) w;refine ⟨o1.set B (le_add_right _ _) (Nat.add_lt_add_left hj _) w,?_,?_⟩
 ·show (((Go.Ab.room g n).set (g.next+i) A).set (g.next+j) B).get (g.next+i)=_;rw [Heap.get_set,if_neg (by omega),Heap.get_set,if_pos rfl]
 ·show (((Go.Ab.room g n).set (g.next+i) A).set (g.next+j) B).get (g.next+j)=_;rw [Heap.get_set,if_pos rfl]
def qX (M:Mach)(ord:List Nat)(i:Nat):List MSt:=(ord.take i).map (eL M ord)++List.replicate (ord.length - i) zst.1
theorem Ee (M:Mach)(ord:List Nat):qX M ord 0=List.replicate ord.length zst.1:=by simp [qX]
theorem EC (M:Mach)(ord:List Nat):qX M ord ord.length=ord.map (eL M ord):=by simp [qX]
theorem CB {M:Mach}{ord:List Nat}{i:Nat}(hi:i < ord.length):(qX M ord i)[i]?=some zst.1:=by
 unfold qX;rw [List.getElem?_append_right (by rw [lM,length_take]; omega),lM,length_take,Nat.min_eq_left (by omega),sub_self,List.getElem?_replicate,if_pos (by omega)]
theorem FE {M:Mach}{ord:List Nat}{i s:Nat}(hs:ord[i]?=some s):(qX M ord i).set i (eL M ord s)=qX M ord (i+1):=by
 have hi:i < ord.length:=(List.getElem?_eq_some_iff.1 hs).1;unfold qX;have e1:((ord.take i).map (eL M ord)).length=i:=by simp; omega
 rw [List.set_append,if_neg (by omega),e1,sub_self,take_add_one,hs,map_append,append_assoc];congr 1;rw [show ord.length - i=(ord.length - (i+1))+1 by omega,List.replicate_succ,List.set_cons_zero];rfl
theorem OwnM.low {h hb g g':Heap}{v:Value}{ps:List (MSt×Value)}(m:OwnM hb g v ps)(o:Ok h hb)(kp: ∀ j B,g.get j=some B->hb.next<=j->g'.get j=some B):OwnM h g' v ps:=by
 have key: ∀ {e:TypeId}{sz:Nat}{v:Value}{rs:List (List Value)},OwnK hb g e sz v rs->OwnK h g' e sz v rs:=fun {e sz v rs} r=>by
  obtain ⟨hl,r | ⟨k,off,cs,c,h1,h2,h3,h4⟩⟩:=r
  ·exact ⟨hl,.inl r⟩
  ·exact ⟨hl,.inr ⟨k,off,cs,c,h1,le_trans o.nx h2,kp _ _ h3 h2,h4⟩⟩
 exact ⟨key m.row,fun i p hp=>key (m.arcs i p hp),m.ne,m.dis⟩
section
variable {h:Heap} {M:Mach} {a:Option Addr} {n c:Nat} {b:Option Addr} {m d:Nat} {ord:List Nat}
theorem CW {M:Mach}{x:Nat}{s:MSt}(hs:M.states[x]?=some s):M.states.getD x ⟨[],[]⟩=s:=by rw [gD,hs]; rfl
def wM (M:Mach)(ord:List Nat)(i j:Nat)(s:MSt):List MSt:=(qX M ord i).set i ⟨s.f,(s.arcs.take j).filterMap (ci ord)⟩
def Ox (hb:Heap)(M:Mach)(ord:List Nat)(k8 k22:Nat)(mz2 i:Nat)(g:Heap):Prop:=i<=ord.length/\mz2=ord.length - i/\ ∃ ps,ps.map (·.1)=qX M ord i/\RenI hb k8 k22 ord.length (bi M ord) ps g
def O1 (hb:Heap)(M:Mach)(ord:List Nat)(k8 k22 i:Nat)(s:MSt)(mz3 j:Nat)(g:Heap):Prop:=j<=s.arcs.length/\mz3=s.arcs.length - j/\ ∃ ps,ps.map (·.1)=wM M ord i j s/\RenI hb k8 k22 ord.length (bi M ord) ps g
theorem yQ {M:Mach}{ord:List Nat}{i j:Nat}{s:MSt}{q:MArc}(hq:s.arcs[j]?=some q)(hi:i < ord.length):wM M ord i (j+1) s=(match ci ord q with | none=>wM M ord i j s | some q'=>(wM M ord i j s).set i ⟨s.f,(s.arcs.take j).filterMap (ci ord)++[q']⟩):=by
 unfold wM;rw [take_add_one,hq,List.filterMap_append];show (qX M ord i).set i ⟨s.f,_++List.filterMap (ci ord) [q]⟩=_
 cases he:ci ord q with
 | none=>simp [he]
 | some q'=>simp [he,List.set_set]
theorem Js {M:Mach}{ord:List Nat}{i j:Nat}{s:MSt}(hi:i < ord.length):(wM M ord i j s)[i]?=some ⟨s.f,(s.arcs.take j).filterMap (ci ord)⟩:=by
 unfold wM;rw [getElem?_set,if_pos rfl,if_pos];exact (List.getElem?_eq_some_iff.1 (CB (M:=M) hi)).1
theorem AG {ps:List (MSt×Value)}{L:List MSt}(h:ps.map (·.1)=L){i:Nat}{s:MSt}(hs:L[i]?=some s): ∃ p,ps[i]?=some p/\p.1=s:=by
 rw [<-h,getElem?_map] at hs;obtain ⟨p,h1,h2⟩:=map_eq_some_iff.1 hs;exact ⟨p,h1,h2⟩
set_option linter.defProp false in
def Ce {hb h0:Heap}(w:Wf hb)(gd:Good M){k k4 k8 k22 kn:Nat}(mb0:MB h0 k M a n c)(o0:Ok h0 hb)(hn:n<=300)(nb:hb.get kn=some (.cells (Gf n ord) 3 1 true)){i x:Nat}{s:MSt}(hx:ord[i]?=some x)(hs:M.states[x]?=some s)(hsl:s.arcs.length<=2000)(hol:ord.length<=300){b':Option Addr}{m' d':Nat}(ar:ArcRow hb (.slice b' m' d') s.arcs)(e:Option Addr)(en ec:Nat)(mz2:Nat)(hmz:mz2=ord.length - i)(mv:List Value)(Q:VH):=
 qT mv b m d k k4 k8 k22 (i*2) (some ⟨kn,0,none⟩) n n b' m' d' (Ox hb M ord k8 k22) mz2 i (O1 hb M ord k8 k22 i s) Q (by
  intro mz3 j; intros; rename_i g hin;obtain ⟨f1,rfl,ps,hps,ri⟩:=hin;have hi:i < ord.length:=(List.getElem?_eq_some_iff.1 hx).1;have hnl:n=M.states.length:=mb0.len;have hml:=ar.len;refine ae (fun g1=> ?_) (fun g1=> ?_)
  ·have g1:=dT g1;obtain ⟨q,hq⟩: ∃ q,s.arcs[j]?=some q:=⟨_,gE (by omega)⟩
   obtain ⟨bb,oo,d1,d2,d3,d4,d5,d6⟩:=(ar.ok ri.ok).at_ hq;have hin:=gd.arcs s (List.mem_of_getElem? hs) q (List.mem_of_getElem? hq);obtain ⟨Y,hY⟩: ∃ Y:Nat,q.t=(Y:Int):=⟨q.t.toNat,by have:=hin.t0; omega⟩
   have hYn:Y < n:=by have:=hin.t1; omega
   have wg:=ri.ok.wf;obtain ⟨u,p1,p2,p3⟩:=oz wg q;refine ⟨_,d1,_,d2,_,wn,u,p1,_,eW _ _,_,p3.l3,?_⟩;have nbg:=p2.ext _ _ (ri.ok.ext _ _ nb);generalize u.app (g.push A0)=g72 at *;obtain ⟨n1,n2⟩:=Bv (c:=n) nbg hYn;rw [hY];obtain ⟨u2,t1,t2,t3⟩:=p3.setT wg p2 (le_refl _) (bK ord 0 Y);refine ⟨_,n1,_,n2,_,eW _ _,u2,t1,_,eW _ _,_,t3.l3,?_⟩;have ri2:=ri.ext t2;generalize u2.app g72=g79 at *;have hw:wrap .i64 ((j:Int)+1)=((j+1:Nat):Int):=aH (n:=s.arcs.length) (by omega) (by omega);have hrl:s.arcs.length - (j+1) < s.arcs.length - j:=by omega
   have hYt:q.t.toNat=Y:=by omega
   refine ae (fun g2=> ?_) (fun g2=> ?_)
   ·have g2: ¬ bK ord 0 Y = -1:=by simpa using g2
    have hra:ci ord q=some ⟨q.i,q.o,q.w,bK ord 0 Y⟩:=by unfold ci; rw [hYt,if_neg g2]
    obtain ⟨p,hp,hp1⟩:=AG hps (Js (M:=M) (j:=j) (s:=s) hi);obtain ⟨o6,k6⟩:=rE ri2.ok.wf (n:=11) (j:=6) (by omega) (.cells (aO ⟨q.i,q.o,q.w,bK ord 0 Y⟩) 39 4 true);have oR:=(Ok.refl ri2.ok.wf).room 11;have ri3:=ri2.ext o6;have hlen:p.1.arcs.length<=2000:=by rw [hp1]; exact le_trans (List.length_filterMap_le ..) (by rw [length_take]; omega)
    obtain ⟨x1,y1,z1,a1,e1,b2,n2',c2,u3,a2,u4,a3,ri4⟩:=ri3.arc w hp k6 (by omega);have ld:=((ri2.ext oR).own.at_ hp).2.1;rw [zero_add,e1] at ld;refine ⟨_,bW _ _,x1,y1,z1,ld,_,(t3.ok oR).all,_,_,_,KX _,b2,n2',c2,u3,a2,_,bW _ _,u4,a3,?_⟩;dsimp only;rw [hw];refine cA (s.arcs.length - (j+1)) hrl ⟨by omega,rfl,_,?_,ri4⟩;rw [map_set,hps,yQ hq hi,hra,hp1]
   ·have g2:bK ord 0 Y = -1:=by simpa using g2
    have hra:ci ord q=none:=by unfold ci; rw [hYt,if_pos g2]
    rw [hw];exact cA (s.arcs.length - (j+1)) hrl ⟨by omega,rfl,ps,by rw [hps,yQ hq hi,hra],ri2⟩
  ·have g1:=dF g1;rw [aH hi (by omega)];refine cA (ord.length - (i+1)) (by omega) ⟨by omega,rfl,ps,?_,ri⟩;rw [hps,<-FE hx];unfold wM eL;rw [CW hs,take_of_length_le (by omega)])
theorem C4 (w:Wf h)(gd:Good M)(hN:M.states.length<=300)(hA: ∀ s∈M.states,s.arcs.length<=2000)(r:StRow h (.slice a n c) M.states)(ro:Rd h 3 (.slice b m d) (ord.map iv))(oo:OrdOk M.states.length ord):FW SS 43 [.agg ⟨aQ M a n c⟩,.slice b m d] h (Lv h (bi M ord)):=by
 obtain ⟨mb0,ok0⟩:=ef w r;have hnl:n=M.states.length:=mb0.len;have hm:m=ord.length:=by have:=ro.len; rwa [lM] at this
 have hol:ord.length<=300:=by
  have:=dp M.states.length oo.nd oo.lt;omega
 refine JX (aQ M a n c) b m d h _ ⟨_,gi M a n c,_,qY,_,_,_,vP _,?_⟩;have ok4:=ok0.push jp;have k4:=ay (h.push (Bm M a n c)) jp;have mb4:=mb0.ok ((Ok.refl ok0.wf).push jp);have n4:h.next<=(h.push (Bm M a n c)).next:=ok0.nx;generalize h.push (Bm M a n c)=g0 at *;generalize hK4:g0.next=K4 at *;generalize g0.push jp=g4 at *;have o8:=(Ok.refl ok4.wf).push (.cells [.int .i64 (-1)] 3 1 true);have ok8:=ok4.trans o8;have kx:=ay g4 (.cells [.int .i64 (-1)] 3 1 true);have mb8:=mb4.ok o8;have k48:=o8.ext _ _ k4;generalize g4.push (.cells [.int .i64 (-1)] 3 1 true)=g8 at *;refine ⟨_,bA _,_,_,_,mb8.l3,(vN ok8.wf kx (n:=n) (by omega)).mono ?_⟩;rintro _ g9 ⟨kn,rfl,ir⟩;refine ⟨_,_,_,rfl,?_⟩;rw [<-Jf n] at ir;have mx: ∀ {i x:Nat},ord[i]?=some x->x < n:=fun hx=>by have:=oo.lt _ (List.mem_of_getElem? hx); omega
 refine qU (aQ M a n c) b m d h.next K4 (some ⟨kn,0,none⟩) n n (fun mz i g=>i<=m/\mz=m - i/\IRow g8 kn 3 (Gf n (ord.take i)) g) _ (fun mz i=> ?_) m (i:=0) ⟨zero_le _,rfl,ir⟩;intros; rename_i g hin;obtain ⟨f1,rfl,ir⟩:=hin;have okg:=ok8.trans ir.ok;refine ae (fun q1=> ?_) (fun q1=> ?_)
 ·have q1:=dT q1;obtain ⟨x,hx⟩: ∃ x,ord[i]?=some x:=⟨_,gE (by omega)⟩
  obtain ⟨p,e1,e2⟩:=Mg (ro.ok okg) hx;have hxn:=mx hx;obtain ⟨n1,_⟩:=Bv (c:=n) ir.row hxn;have st:=lI (t:=3) IJ ir.row (i:=x) (by rw [CE]; exact hxn) (v:= .int .i64 (i:Int)) rfl rfl;have hnx:x ∉ ord.take i:=fun hmem=>by
   obtain ⟨j,hj,e⟩:=List.mem_iff_getElem.1 hmem;rw [length_take] at hj;rw [List.getElem_take] at e;have e':ord[j]?=some x:=by rw [gE (by omega),e]
   have:=el oo.nd e' hx;omega
  have hl:(ord.take i).length=i:=by rw [length_take]; omega
  refine ⟨_,e1,_,e2,_,n1,_,st,?_⟩;rw [aH (n:=m) (by omega) (by omega)];refine cA (m - (i+1)) (by omega) ⟨by omega,rfl,?_⟩;have e3:ord.take (i+1)=ord.take i++[x]:=by rw [take_add_one,hx]; rfl
  rw [e3,F8 hnx,hl];exact ir.set ok8.wf x _
 ·have q1:=dF q1;obtain rfl:m=i:=by omega
  rw [take_of_length_le (by omega)] at ir;have mbg:=mb8.ok ir.ok;have oR:=(Ok.refl okg.wf).room 15;have mbR:=mbg.ok oR;have hst0:=gd.start0;have hst1:=gd.start1;obtain ⟨S,hS⟩: ∃ S:Nat,M.start=(S:Int):=⟨M.start.toNat,by omega⟩
  have hSn:S < n:=by omega
  have lS:=mbR.l1;rw [hS] at lS;obtain ⟨n1,n2⟩:=Bv (c:=n) (oR.ext _ _ ir.row) hSn;have mk:=LX m (by omega);refine ⟨_,gJ _,_,mbR.l0,_,gx _,_,lS,_,n1,_,n2,_,jM _,_,mbR.l2,_,_,_,mk,_,G3 _ _ _ _ _ _,_,qY,?_⟩;obtain ⟨o2,k11,k13⟩:=wq okg.wf (n:=15) (i:=11) (j:=13) (by omega) (by omega) (by omega) (.cells ((List.replicate m zst).map fg).flatten 37 2 true) jp;have k4g:=okg.ext;generalize hS2:ax (Go.Ab.room g 15) g.next [(13,jp),(11,.cells ((List.replicate m zst).map fg).flatten 37 2 true)]=S2 at *;have pa:=cL (t:=24) gK (cs0:=[.int .i64 0,.int .i64 0,aa [],.slice none 0 0]) rfl k13 (cs:=[.int .i64 M.kind,.int .i64 (bK ord 0 S),aa M.lead,.slice (some ⟨g.next+11,0,none⟩) m m]) rfl rfl;refine ⟨_,pa,?_⟩;obtain ⟨o3,k13'⟩:=dG (cs:=[.int .i64 M.kind,.int .i64 (bK ord 0 S),aa M.lead,.slice (some ⟨g.next+11,0,none⟩) m m]) okg.wf o2 k13 (by omega);have k11':((Upd.set (g.next+13) (.cells [.int .i64 M.kind,.int .i64 (bK ord 0 S),aa M.lead,.slice (some ⟨g.next+11,0,none⟩) m m] 24 0 true)).app S2).get (g.next+11)=some (.cells ((List.replicate m zst).map fg).flatten 37 2 true):=by
   show (S2.set (g.next+13) _).get (g.next+11)=_;rw [Heap.get_set,if_neg (by omega)]; exact k11
  generalize (Upd.set (g.next+13) (.cells [.int .i64 M.kind,.int .i64 (bK ord 0 S),aa M.lead,.slice (some ⟨g.next+11,0,none⟩) m m] 24 0 true)).app S2=g37 at *;have hMst:M.start.toNat=S:=by omega
  have ri:RenI g (g.next+13) (g.next+11) m (bi M ord) (List.replicate m zst) g37:=⟨OwnM.made k11' (by omega) (by omega),o3,by unfold Bm aQ bi; rw [hMst]; exact k13',fun i p hp j hj=>(by
   rw [List.getElem?_replicate] at hp;split at hp
   ·obtain rfl:=oI hp; cases hj
   ·cases hp),by omega⟩
  subst hm;refine qZ (aQ M a n c) b ord.length d h.next K4 (g.next+13) (some ⟨kn,0,none⟩) n n (Ox g M ord (g.next+13) (g.next+11)) _ (fun mz2 i=> ?_) ord.length (i:=0) ⟨zero_le _,rfl,_,by rw [Ee,List.map_replicate],ri⟩;intros; rename_i gg hin;obtain ⟨f2,rfl,ps,hps,ri⟩:=hin;have mbG:=mbg.ok ri.ok;refine ae (fun q2=> ?_) (fun q2=> ?_)
  ·have q2:=dT q2;have hi:i < ord.length:=by omega
   obtain ⟨x,hx⟩: ∃ x,ord[i]?=some x:=⟨_,gE hi⟩
   have hxn:=mx hx;obtain ⟨s,hs⟩:=lU (M:=M) (i:=x) (by omega);obtain ⟨p,e1,e2⟩:=Mg (ro.ok (okg.trans ri.ok)) hx;obtain ⟨p0,hp0,hp1⟩:=AG hps (CB (M:=M) hi);obtain ⟨i1,i2,i3⟩:=ri.own.at_ hp0;rw [zero_add] at i1;obtain ⟨u,s1,ri2,_⟩:=ri.setF okg.wf hp0 s.f;obtain ⟨bb,o,x',y,z,j1,j2,j3,j4,ar⟩:=mbg.row.at2 ri.ok hs;obtain ⟨bb2,o',x'2,y2,z2,l1,l2,l3,l4,ar2⟩:=mbg.row.at2 ri2.ok hs;have mbG2:=mbg.ok ri2.ok;refine ⟨_,e1,_,e2,_,bA _,_,_,_,ri.l3,_,i1,_,bA _,_,_,_,mbG.l3,_,j1,_,iG _ _,_,j3,_,iG _ _,u,s1,_,bA _,_,_,_,mbG2.l3,_,l1,_,bW _ _,_,_,_,l4,?_⟩;refine Ce (h0:=g) okg.wf gd mbg (Ok.refl okg.wf) (by omega) ir.row hx hs (hA s (List.mem_of_getElem? hs)) hol ar2 none 0 0 _ rfl (aQ M a n c) _ y2 (j:=0) ⟨zero_le _,ar2.len.trans rfl,_,?_,ri2⟩;rw [map_set,hps];unfold wM;rw [List.take_zero,hp1]; rfl
  ·have q2:=dF q2;obtain rfl:i=ord.length:=by omega
   rw [EC] at hps;have oG:=okg.trans ri.ok;have k4G:=ri.ok.ext _ _ (ir.ok.ext _ _ k48);have hK:K4 < g.next:=okg.wf _ _ (ir.ok.ext _ _ k48);have pa2:=cL (t:=24) gK (cs0:=[.int .i64 0,.int .i64 0,aa [],.slice none 0 0]) rfl k4G (cs:=aQ (bi M ord) (some ⟨g.next+11,0,none⟩) ord.length ord.length) rfl (fy _ _ _ _);obtain ⟨o5,k5⟩:=dG (cs:=aQ (bi M ord) (some ⟨g.next+11,0,none⟩) ord.length ord.length) w oG k4G (by omega);refine ⟨_,ri.all,_,pa2,tw (v:= .agg ⟨aQ (bi M ord) (some ⟨g.next+11,0,none⟩) ord.length ord.length⟩) (gj BO Cg gK k5 (by simp [aQ])) ?_⟩;refine ⟨_,_,_,ps,rfl,by rw [hps]; rfl,?_,o5⟩;exact ri.own.low okg (fun j B hj hne=>by
    show (gg.set K4 _).get j=_;rw [Heap.get_set,if_neg (by omega)]; exact hj)
end
end
section
theorem SB.setA {hb g:Heap}(w:Wf hb)(ok:Ok hb g){k:Nat}{f:List UInt8}{x:Option Addr}{y z:Nat}(b:SB g k f x y z)(hk:hb.next<=k)(x':Option Addr)(y' z':Nat): ∃ u:Upd,ai SS.P 35 (.pointer (some ⟨k,0+1,none⟩)) (.slice x' y' z') g=some (undef,u)/\Ok hb (u.app g)/\SB (u.app g) k f x' y' z'/\ ∀ j B,g.get j=some B->j≠k->(u.app g).get j=some B:=by
 refine ⟨_,lI (by kernel_rfl) b (by simp) (d7 ..) (by cases x' <;> rfl),ok.set _ hk (ok.wf _ _ b) w,?_,fun j B hj hne=> ?_⟩
 ·show (g.set k _).get k=_;rw [Heap.get_set,if_pos rfl]; rfl
 ·show (g.set k _).get j=_;rw [Heap.get_set,if_neg hne]; exact hj
theorem SB.all {g:Heap}{k:Nat}{f:List UInt8}{x:Option Addr}{y z:Nat}(b:SB g k f x y z):ah SS.P 37 g (.pointer (some ⟨k,0,none⟩))=some (.agg ⟨[aa f,.slice x y z]⟩):=gj LQ LF rF b (by simp)
section
variable {h:Heap} {M:Mach} {a:Option Addr} {n c:Nat} {b:Option Addr} {m d:Nat} {e:Option Addr} {en ec:Nat} {ord:List Nat}
theorem K9 (l:List UInt8):aC SS.P 37 [(0,(aa l))]=some (.agg ⟨[aa l,.slice none 0 0]⟩):=by kernel_rfl
end
end
def qg (kind:Int):List UInt8:=if kind=1 then [48] else if kind=2\/kind=3 then [49] else []
theorem L4 (k:Nat):af SS.P 68 (.pointer (some ⟨k,0,none⟩)) 1=some (.pointer (some ⟨k,1,none⟩)):=by kernel_rfl
theorem Jt (kind:Int){h:Heap}(w:Wf h):FW SS 50 [.int .i64 kind] h (fun v h'=>v=aa (qg kind)/\Ok h h'):=by
 refine Ks kind h _ ((yw kind w).mono ?_);rintro _ g ⟨rfl,o⟩;have key: ∀ (ring:List Value)(b:Bool),ring.length=8->ring.all bI=true->ring.getD 1 undef=aa (qg kind)-> ∃ cs:List Value,∃ b':Bool,(Value.tuple ⟨[.agg ⟨ring⟩,.bool b]⟩)=(.tuple ⟨[.agg ⟨cs⟩,.bool b']⟩)/\ ∃ B:Blk,aD SS.P 68=some (B,gb)/\ ∃ u:Upd,ai SS.P 68 (.pointer (some ⟨g.next,0,none⟩)) (.agg ⟨cs⟩) (g.push B)=some (undef,u)/\ ∃ p:Addr,af SS.P 68 (.pointer (some ⟨g.next,0,none⟩)) 1=some (.pointer (some p))/\ ∃ l:List UInt8,ah SS.P 9 (u.app (g.push B)) (.pointer (some p))=some (aa l)/\(aa l=aa (qg kind)/\Ok h (u.app (g.push B))):=by
  intro ring b hl hs h1;have k0:=ay g FI;have o1:=(Ok.refl o.wf).push FI;obtain ⟨o2,k2⟩:=dG (cs:=ring) o.wf o1 k0 (le_refl _);refine ⟨ring,b,rfl,FI,Jj,_,cL xp rfl k0 hl hs,_,L4 _,qg kind,?_,rfl,o.trans o2⟩;rw [cZ IL KB k2 (by omega),h1]
 unfold KO;split
 ·next hk=>exact key qF true rfl rfl (by unfold qg; rw [if_pos hk]; rfl)
 ·next hk=>
  split
  ·next hk2=>exact key qu true rfl rfl (by unfold qg; rw [if_neg hk,if_pos (.inl hk2)]; rfl)
  ·next hk2=>
   split
   ·next hk3=>exact key qy true rfl rfl (by unfold qg; rw [if_neg hk,if_pos (.inr hk3)]; rfl)
   ·next hk3=>exact key gm false rfl rfl (by unfold qg; rw [if_neg hk,if_neg (by rintro (h | h) <;> contradiction)]; rfl)
def sB (h:Heap)(R:Mach×Int):VH:=fun v h'=> ∃ (a:Option Addr)(n c:Nat)(ps:List (MSt×Value)),v = .tuple ⟨[.agg ⟨aQ R.1 a n c⟩,.int .i64 R.2]⟩/\ps.map (·.1)=R.1.states/\OwnM h h' (.slice a n c) ps/\Ok h h'
def mW:Mach:=⟨0,0,[],[]⟩
def kG (kind:Int):Mach×Int:=if 1<=kind/\kind<=3 then (⟨kind,0,qg kind,[⟨[],[]⟩]⟩,0) else (mW,1)
theorem AT:aC SS.P 24 []=some (.agg ⟨aQ mW none 0 0⟩):=by kernel_rfl
theorem Gc (k:Int)(l:List UInt8)(a:Option Addr)(n c:Nat):aC SS.P 24 [(0,(.int .i64 k)),(2,(aa l)),(3,(.slice a n c))]=some (.agg ⟨[.int .i64 k,.int .i64 0,aa l,.slice a n c]⟩):=by cases a <;> kernel_rfl
theorem ml {h g:Heap}(w:Wf h)(o:Ok h g){k:Nat}(hk:g.get k=some jp)(hn:h.next<=k){R:Mach×Int}{a:Option Addr}{n c:Nat}{ps:List (MSt×Value)}(hps:ps.map (·.1)=R.1.states){hb:Heap}(om:OwnM hb g (.slice a n c) ps)(ob:Ok h hb)(hkb:k < hb.next\/ps=[]/\a=none/\n=0/\c=0):
  ∃ u:Upd,ai SS.P 24 (.pointer (some ⟨k,0,none⟩)) (.agg ⟨aQ R.1 a n c⟩) g=some (undef,u)/\dH SS [(.pointer (some ⟨k,0,none⟩),some 24),(.int .i64 R.2,none)] (u.app g) (sB h R):=by
 refine ⟨_,cL (t:=24) gK (cs0:=[.int .i64 0,.int .i64 0,aa [],.slice none 0 0]) rfl hk (cs:=aQ R.1 a n c) rfl (fy ..),?_⟩;obtain ⟨o5,k5⟩:=dG (cs:=aQ R.1 a n c) w o hk hn;refine oX (v:= .agg ⟨aQ R.1 a n c⟩) (gj BO Cg gK k5 (by simp [aQ])) ⟨a,n,c,ps,rfl,hps,?_,o5⟩;rcases hkb with hkb | ⟨rfl,rfl,rfl,rfl⟩
 ·exact om.low ob (fun j B hj hne=>by
   show (g.set k _).get j=_;rw [Heap.get_set,if_neg (by omega)]; exact hj)
 ·exact OwnM.nil _ _
theorem qB {h g:Heap}(w:Wf h)(o:Ok h g){k:Nat}(hk:g.get k=some jp)(hn:h.next<=k){kind:Int}(hkd: ¬ (1<=kind/\kind<=3)): ∃ cs:List Value,aC SS.P 24 []=some (.agg ⟨cs⟩)/\ ∃ u:Upd,ai SS.P 24 (.pointer (some ⟨k,0,none⟩)) (.agg ⟨cs⟩) g=some (undef,u)/\dH SS [(.pointer (some ⟨k,0,none⟩),some 24),(.int .i64 1,none)] (u.app g) (sB h (kG kind)):=by
 have e:kG kind=(mW,1):=by unfold kG; rw [if_neg hkd]
 rw [e];exact ⟨_,AT,ml w o hk hn (R:=(mW,1)) (ps:=[]) rfl (OwnM.nil h g) (Ok.refl w) (.inr ⟨rfl,rfl,rfl,rfl⟩)⟩
theorem Bw {h g:Heap}(w:Wf h)(o:Ok h g){k:Nat}(hk:g.get k=some jp)(hn:h.next<=k){g0:Heap}(wg0:Wf g0)(o0:Ok h g0)(oS:Ok g0 g)(hk0:k < g0.next){kx:Nat}(hx:g0.next<=kx)(hkx:g.get kx=some (.cells ((List.replicate 1 zst).map fg).flatten 37 2 true)){kind:Int}(hkd:1<=kind/\kind<=3):
  ∃ cs:List Value,aC SS.P 24 [(0,(.int .i64 kind)),(2,(aa (qg kind))),(3,(.slice (some ⟨kx,0,none⟩) 1 1))]=some (.agg ⟨cs⟩)/\ ∃ u:Upd,ai SS.P 24 (.pointer (some ⟨k,0,none⟩)) (.agg ⟨cs⟩) g=some (undef,u)/\dH SS [(.pointer (some ⟨k,0,none⟩),some 24),(.int .i64 0,none)] (u.app g) (sB h (kG kind)):=by
 have e:kG kind=(⟨kind,0,qg kind,[⟨[],[]⟩]⟩,0):=by unfold kG; rw [if_pos hkd]
 rw [e];exact ⟨_,Gc _ _ _ _ _,ml w o hk hn (R:=(⟨kind,0,qg kind,[⟨[],[]⟩]⟩,0)) (ps:=[zst]) rfl (OwnM.made (hb:=g0) (n:=1) hkx hx (by omega)) o0 (.inl hk0)⟩
theorem J5 {g g2:Heap}(w:Wf g){n j:Nat}(hj:j < n)(o:Ok (Go.Ab.room g n) g2)(B:Blk):Ok g (ax g2 g.next [(j,B)])/\(ax g2 g.next [(j,B)]).get (g.next+j)=some B:=by
 have h1:g.next+n<=g2.next:=o.nx;refine ⟨(((Ok.refl w).room n).trans o).set B (le_add_right _ _) (by omega) w,?_⟩;show (g2.set (g.next+j) B).get (g.next+j)=_;rw [Heap.get_set,if_pos rfl]
theorem qp (kind:Int){h:Heap}(w:Wf h):FW SS 27 [.int .i64 kind] h (sB h (kG kind)):=by
 have o1:=(Ok.refl w).push jp;have k1:=ay h jp;refine y9 kind h _ ⟨_,qY,ae (fun q=> ?_) (fun q=>ae (fun q2=> ?_) (fun q2=> ?_))⟩
 ·have q:=dT q;exact qB w o1 k1 (le_refl _) (by omega)
 ·have q2:=dT q2;exact qB w o1 k1 (le_refl _) (by omega)
 ·have q:=dF q;have q2:=dF q2;have hn1:(h.push jp).next=h.next+1:=rfl;generalize h.push jp=g at *;have oR:=(Ok.refl o1.wf).room 7;refine (Jt kind oR.wf).mono ?_;rintro _ g2 ⟨rfl,o2⟩;obtain ⟨s1,s2⟩:=J5 o1.wf (n:=7) (j:=3) (by omega) o2 (.cells ((List.replicate 1 zst).map fg).flatten 37 2 true);have k2:=s1.ext _ _ k1;refine ⟨_,rfl,_,_,_,LX 1 (by omega),?_⟩;exact Bw w (o1.trans s1) k2 (le_refl _) o1.wf o1 s1 (by omega) (by omega) s2 (by omega)
section
noncomputable def iV (M:Mach):List Nat:=(List.range M.states.length).filter fun x=>@decide (bD M x) (Classical.propDecidable _)
noncomputable def bF (M:Mach):Mach×Int:=@ite _ (aN M=true) _ (@ite _ (bD M M.start.toNat) (Classical.propDecidable _) (bi M (iV M),0) (kG M.kind)) (mW,1)
theorem uS {M:Mach}(h:aN M=false):bF M=(mW,1):=by unfold bF; rw [h]; rfl
theorem fA {M:Mach}(h:aN M=true)(hu: ¬ bD M M.start.toNat):bF M=kG M.kind:=by unfold bF; rw [if_pos h,if_neg hu]
theorem f7 {M:Mach}(h:aN M=true)(hu:bD M M.start.toNat):bF M=(bi M (iV M),0):=by unfold bF; rw [if_pos h,if_pos hu]
theorem i5 (M:Mach):OrdOk M.states.length (iV M):=⟨fun x hx=>mem_range.1 (List.mem_filter.1 hx).1,nodup_range.filter _⟩
theorem Do {M:Mach}{L:List Bool}{N:Nat}(hN:N=M.states.length)(hL: ∀ x,x < N->(L.getD x false=true↔bD M x)):(List.range N).filter (fun x=>L.getD x false)=iV M:=by
 unfold iV;subst hN;refine List.filter_congr fun x hx=> ?_;exact Hp (hL x (mem_range.1 hx))
section
variable {h:Heap} {M:Mach} {a:Option Addr} {n c:Nat}
def EI (L:List Bool)(i:Nat):List Nat:=(List.range i).filter fun x=>L.getD x false
theorem Es (L:List Bool)(i:Nat):EI L (i+1)=EI L i++(if L.getD i false=true then [i] else []):=by
 unfold EI;rw [List.range_succ,List.filter_append];congr 1;split <;> simp_all
theorem F7 (L:List Bool)(i:Nat):(EI L i).length<=i:=by
 have:=List.length_filter_le (fun x=>L.getD x false) (List.range i);rwa [List.length_range] at this
theorem G6 {h g g':Heap}(w:Wf h)(o:Ok h g){k2:Nat}(hk:g.get k2=some jp)(hk2:h.next<=k2){R:Mach}{v:Value}(hq:Lv g R v g'): ∃ cs:List Value,v = .agg ⟨cs⟩/\ ∃ u:Upd,ai SS.P 24 (.pointer (some ⟨k2,0,none⟩)) (.agg ⟨cs⟩) g'=some (undef,u)/\dH SS [(.pointer (some ⟨k2,0,none⟩),some 24),(.int .i64 0,none)] (u.app g') (sB h (R,0)):=by
 obtain ⟨a,n,c,ps,rfl,hps,om,ok⟩:=hq;exact ⟨_,rfl,ml w (o.trans ok) (ok.ext _ _ hk) hk2 (R:=(R,0)) hps om o (.inl (o.wf _ _ hk))⟩
theorem Iy {h g g':Heap}(w:Wf h)(o:Ok h g){k2:Nat}(hk:g.get k2=some jp)(hk2:h.next<=k2){R:Mach×Int}{v:Value}(hq:sB g R v g'): ∃ cs:List Value,∃ e:Int,v = .tuple ⟨[.agg ⟨cs⟩,.int .i64 e]⟩/\ ∃ u:Upd,ai SS.P 24 (.pointer (some ⟨k2,0,none⟩)) (.agg ⟨cs⟩) g'=some (undef,u)/\dH SS [(.pointer (some ⟨k2,0,none⟩),some 24),(.int .i64 e,none)] (u.app g') (sB h R):=by
 obtain ⟨a,n,c,ps,rfl,hps,om,ok⟩:=hq;exact ⟨_,_,rfl,ml w (o.trans ok) (ok.ext _ _ hk) hk2 hps om o (.inl (o.wf _ _ hk))⟩
def tI (hb:Heap)(L:List Bool)(n:Nat)(mz i:Nat)(t:Option Addr)(tn tc:Nat)(g:Heap):Prop:=i<=n/\mz=n - i/\OwnG hb g 3 (.slice t tn tc) ((EI L i).map iv)/\Ok hb g
theorem ya (tb:Tab h)(w:Wf h)(sm:Small M)(r:StRow h (.slice a n c) M.states):FW SS 23 [.agg ⟨aQ M a n c⟩] h (sB h (bF M)):=by
 obtain ⟨mb0,ok0⟩:=ef w r;have hnl:n=M.states.length:=mb0.len;have hn:n<=300:=by rw [hnl]; exact sm.sts
 refine GD (aQ M a n c) h _ ⟨_,gi M a n c,_,qY,?_⟩;have n0:h.next<=(h.push (Bm M a n c)).next:=ok0.nx;generalize h.push (Bm M a n c)=g0 at *;have k4:=ay g0 jp;have o1:=(Ok.refl ok0.wf).push jp;have ok1:=ok0.trans o1;have mb1:=mb0.ok o1;generalize g0.push jp=g1 at *;generalize g0.next=K at *;refine ⟨_,mb1.all,(lR (tb.ok ok1) ok1.wf sm mb1.row).mono ?_⟩;rintro _ g2 ⟨rfl,o2⟩;have ok2:=ok1.trans o2;have mb2:=mb1.ok o2;have k42:=o2.ext _ _ k4;refine ⟨_,rfl,ae (fun q=> ?_) (fun q=> ?_)⟩
 ·have q:aN M=false:=by simpa using q
  rw [uS q];exact ⟨_,AT,ml w ok2 k42 n0 (R:=(mW,1)) (ps:=[]) rfl (OwnM.nil h g2) (Ok.refl w) (.inr ⟨rfl,rfl,rfl,rfl⟩)⟩
 have q:aN M=true:=by simpa using q
 have gd:=bC q;have h0:=gd.start0;have h1:=gd.start1;refine ⟨_,mb2.all,(El ok2.wf sm gd mb2.row).mono ?_⟩;rintro _ g3 ⟨kl,L,rfl,br,hL⟩;have o3:=br.row.ok;have ok3:=ok2.trans o3;have mb3:=mb2.ok o3;have k43:=o3.ext _ _ k42;obtain ⟨S,hS⟩: ∃ S:Nat,M.start=(S:Int):=⟨M.start.toNat,by omega⟩
 have hSt:M.start.toNat=S:=by omega
 have hSn:S < n:=by omega
 have lS:=mb3.l1;rw [hS] at lS;obtain ⟨x1,x2⟩:=oF (c:=n) br.row.row br.len hSn;refine ⟨_,_,_,rfl,_,gx _,_,lS,_,x1,_,x2,ae (fun q1=> ?_) (fun q1=> ?_)⟩
 ·have q1:L.getD S false=false:=by simpa using q1
  have hu: ¬ bD M M.start.toNat:=by rw [hSt,<-hL S hSn,q1]; exact Bool.false_ne_true
  rw [fA q hu];refine ⟨_,gJ _,_,mb3.l0,(qp M.kind ok3.wf).mono ?_⟩;intro v g4 hq;exact Iy w ok3 k43 n0 hq
 ·have q1:L.getD S false=true:=by simpa using q1
  have hu:bD M M.start.toNat:=by rw [hSt,<-hL S hSn]; exact q1
  rw [f7 q hu];refine pI (aQ M a n c) h.next K (some ⟨kl,0,none⟩) n n (tI g3 L n) _ (fun mz i t tn tc=> ?_) n (i:=0) ⟨zero_le _,rfl,OwnG.nil _ _ _,Ok.refl ok3.wf⟩;intros; rename_i g hin;obtain ⟨f1,rfl,ot,ok⟩:=hin;refine ae (fun q2=> ?_) (fun q2=> ?_)
  ·have q2:=dT q2;have hi:i < n:=by omega
   obtain ⟨y1,y2⟩:=oF (c:=n) (ok.ext _ _ br.row.row) br.len hi;have hsu:=Es L i;refine ⟨_,y1,_,y2,ae (fun q3=> ?_) (fun q3=> ?_)⟩
   ·rw [if_pos q3] at hsu;have oP:=(Ok.refl ok.wf).push (.cells [.int .i64 (i:Int)] 3 1 true);have kP:=ay g (.cells [.int .i64 (i:Int)] 3 1 true);have hl:=F7 L i;obtain ⟨b,n',c',u,a1,a2,a3,a4,_⟩:=CG ok3.wf (ok.trans oP) (ot.ok oP) kP (by rw [lM]; omega);refine ⟨_,_,_,vP _,b,n',c',u,a1,?_⟩;dsimp only;rw [aH hi (by omega)];refine tp (n - (i+1)) (by omega) ⟨by omega,rfl,?_,a4⟩;rw [hsu,map_append];exact a3
   ·rw [if_neg (by rw [q3]; exact Bool.false_ne_true),append_nil] at hsu;rw [aH hi (by omega)];exact tp (n - (i+1)) (by omega) ⟨by omega,rfl,by rw [hsu]; exact ot,ok⟩
  ·have q2:=dF q2;obtain rfl:n=i:=by omega
   have okg:=ok3.trans ok;have mbg:=mb3.ok ok;have eo:EI L n=iV M:=Do hnl hL;rw [eo] at ot;refine ⟨_,mbg.all,(C4 okg.wf gd sm.sts (fun s hs=> ?_) mbg.row ot.rd (i5 M)).mono ?_⟩
   ·obtain ⟨j,hj,e⟩:=List.mem_iff_getElem.1 hs;exact (gZ sm (i:=j) (by rw [gE hj,e])).1
   ·intro v g5 hq;exact G6 w okg (ok.ext _ _ k43) n0 hq
end
end
theorem Jm {hb g:Heap}{v:Value}{ps:List (MSt×Value)}(m:OwnM hb g v ps):eK 4 v v=true:=by
 obtain ⟨_,⟨h1,_⟩ | ⟨k,off,cs,c,h1,_⟩⟩:=m.row
 ·rw [h1]; simp [eK]
 ·rw [h1]; simp [eK]
noncomputable def cS:FD:=cB Tryz.f29 [([1,1,0,1,0,0],[2,3,5]),([1,1,0,1,0,0,1,0,0,1,1,1,0,0],[2,3,5,6,7,8])]
abbrev dJ (k2 k3:Nat)(i:Nat):LV:=[(pA k2),(pA k3),(iA i)]
abbrev fL (k2 k3 k6 k7 i:Nat)(j:Nat):LV:=[(pA k2),(pA k3),(iA i),(pA k6),(pA k7),(iA j)]
theorem FQ (mv nv:LV)(h:Heap)(Q:VH)(hx:xN (dY SS.P 24 (.agg ⟨mv⟩)) h fun B1 g2=>xN (dY SS.P 24 (.agg ⟨nv⟩)) g2 fun B3 g4=>xP (af SS.P 24 (pA (h.next)) 0) fun p5=>xI .i64 (ah SS.P 3 g4 (.pointer (some p5))) fun n6=>xP (af SS.P 24 (pA (g2.next)) 0) fun p7=>xI .i64 (ah SS.P 3 g4 (.pointer (some p7))) fun n8=>aB (((n6:Int) != n8)) (Q (.bool false) g4) (xP (af SS.P 24 (pA (h.next)) 1) fun p9=>xI .i64 (ah SS.P 3 g4 (.pointer (some p9))) fun n10=>xP (af SS.P 24 (pA (g2.next)) 1) fun p11=>xI .i64 (ah SS.P 3 g4 (.pointer (some p11))) fun n12=>aB (((n10:Int) != n12)) (Q (.bool false) g4) (xP (af SS.P 24 (pA (h.next)) 2) fun p13=>xS (ah SS.P 9 g4 (.pointer (some p13))) fun l14=>xP (af SS.P 24 (pA (g2.next)) 2) fun p15=>xS (ah SS.P 9 g4 (.pointer (some p15))) fun l16=>aB (!((l14:LB) == l16)) (Q (.bool false) g4) (xP (af SS.P 24 (pA (h.next)) 3) fun p17=>xL (ah SS.P 22 g4 (.pointer (some p17))) fun a18 n19 c20=>xP (af SS.P 24 (pA (g2.next)) 3) fun p21=>xL (ah SS.P 22 g4 (.pointer (some p21))) fun a22 n23 c24=>aB ((((n19:Int):Int) != (n23:Int))) (Q (.bool false) g4) (LL SS cS [1,1,0,1,0,0] (dJ (h.next) (g2.next) 0) g4 (KK SS cS [1,1,0,1,0] [] (EE SS cS Q))))))):FW SS 29 [(.agg ⟨mv⟩),(.agg ⟨nv⟩)] h Q:=cE cS Tryz.func29 (aj hx)
theorem qd (mv nv:LV)(k2 k3:Nat)(Inv:Nat->Nat->Heap->Prop)(Q:VH)(step: ∀ (mz:Nat) (i:Nat) (zz:Nat->Value) (h:Heap),Inv mz i h->xP (af SS.P 24 (pA k2) 3) fun p25=>xL (ah SS.P 22 h (.pointer (some p25))) fun a26 n27 c28=>aB (decide (((i:Int):Int) < (n27:Int))) (xP (af SS.P 24 (pA k2) 3) fun p29=>xL (ah SS.P 22 (room h 14) (.pointer (some p29))) fun a30 n31 c32=>xP (ag SS.P 22 (.slice a30 n31 c32) (iA i)) fun p33=>xA (ah SS.P 37 (room h 14) (.pointer (some p33))) fun c34=>xP (af SS.P 24 (pA k3) 3) fun p35=>xL (ah SS.P 22 (room h 14) (.pointer (some p35))) fun a36 n37 c38=>xP (ag SS.P 22 (.slice a36 n37 c38) (iA i)) fun p39=>xA (ah SS.P 37 (room h 14) (.pointer (some p39))) fun c40=>zN (aD SS.P 37) fun B41=>zN (aD SS.P 37) fun B42=>xU (ai SS.P 37 (pA (h.next+10)) (.agg ⟨c34⟩) (ax (room h 14) h.next [(11,B42),(10,B41)])) (ax (room h 14) h.next [(11,B42),(10,B41)]) fun u43 g44=>xU (ai SS.P 37 (pA (h.next+11)) (.agg ⟨c40⟩) g44) g44 fun u45 g46=>(ah SS.P 22 g44 (.pointer (some p35))=some (.slice a36 n37 c38)/\eK 4 (.slice a36 n37 c38) (.slice a36 n37 c38)=true)/\(ah SS.P 37 g44 (.pointer (some p39))=some (.agg ⟨c40⟩)/\eK 4 (.agg ⟨c40⟩) (.agg ⟨c40⟩)=true)/\xP (af SS.P 37 (pA (h.next+10)) 0) fun p47=>xS (ah SS.P 9 g46 (.pointer (some p47))) fun l48=>xP (af SS.P 37 (pA (h.next+11)) 0) fun p49=>xS (ah SS.P 9 g46 (.pointer (some p49))) fun l50=>aB (!((l48:LB) == l50)) (Q (.bool false) g46) (xP (af SS.P 37 (pA (h.next+10)) 1) fun p51=>xL (ah SS.P 35 g46 (.pointer (some p51))) fun a52 n53 c54=>xP (af SS.P 37 (pA (h.next+11)) 1) fun p55=>xL (ah SS.P 35 g46 (.pointer (some p55))) fun a56 n57 c58=>aB ((((n53:Int):Int) != (n57:Int))) (Q (.bool false) g46) (LL SS cS [1,1,0,1,0,0,1,0,0,1,1,1,0,0] (fL k2 k3 (h.next+10) (h.next+11) i 0) g46 (KK SS cS [1,0,0,1,1,1,0] [1,1,0,1,0,0] (RR cS [1,1,0,1,0,0] (gM (dJ k2 k3) Inv) mz (KK SS cS [1,1,0,1,0] [] (EE SS cS Q))))))) (Q (.bool true) h))(mz:Nat){i:Nat}{h:Heap}(hi:Inv mz i h):LL SS cS [1,1,0,1,0,0] (dJ k2 k3 i) h (KK SS cS [1,1,0,1,0] [] (EE SS cS Q)):=
 cQ (dJ k2 k3) Inv (fun mz i zz h hi=>aj (step mz i zz h hi)) mz hi
theorem qb (mv nv:LV)(k2 k3 k6 k7:Nat)(Inv:Nat->Nat->Heap->Prop)(mz i:Nat)(Inv2:Nat->Nat->Heap->Prop)(Q:VH)(step: ∀ (mz2:Nat) (j:Nat) (zz:Nat->Value) (h:Heap),Inv2 mz2 j h->xP (af SS.P 37 (pA k6) 1) fun p59=>xL (ah SS.P 35 h (.pointer (some p59))) fun a60 n61 c62=>aB (decide (((j:Int):Int) < (n61:Int))) (xP (af SS.P 37 (pA k6) 1) fun p63=>xL (ah SS.P 35 (room h 11) (.pointer (some p63))) fun a64 n65 c66=>xP (ag SS.P 35 (.slice a64 n65 c66) (iA j)) fun p67=>xA (ah SS.P 39 (room h 11) (.pointer (some p67))) fun c68=>xP (af SS.P 37 (pA k7) 1) fun p69=>xL (ah SS.P 35 (room h 11) (.pointer (some p69))) fun a70 n71 c72=>xP (ag SS.P 35 (.slice a70 n71 c72) (iA j)) fun p73=>xA (ah SS.P 39 (room h 11) (.pointer (some p73))) fun c74=>xB (ak SS.P .neq 39 (.agg ⟨c68⟩) (.agg ⟨c74⟩)) fun b75=>aB b75 (Q (.bool false) (room h 11)) (aF (gM (fL k2 k3 k6 k7 i) Inv2) mz2 [(pA k2),(pA k3),(iA i),(pA k6),(pA k7),(.int .i64 (wrap .i64 ((j:Int)+1)))] (room h 11))) (aF (gM (dJ k2 k3) Inv) mz [(pA k2),(pA k3),(.int .i64 (wrap .i64 ((i:Int)+1)))] h))(mz2:Nat){j:Nat}{h:Heap}(hi:Inv2 mz2 j h):LL SS cS [1,1,0,1,0,0,1,0,0,1,1,1,0,0] (fL k2 k3 k6 k7 i j) h (KK SS cS [1,0,0,1,1,1,0] [1,1,0,1,0,0] (RR cS [1,1,0,1,0,0] (gM (dJ k2 k3) Inv) mz (KK SS cS [1,1,0,1,0] [] (EE SS cS Q)))):=
 cQ (fL k2 k3 k6 k7 i) Inv2 (fun mz2 j zz h hi=>aj (step mz2 j zz h hi)) mz2 hi
section
theorem NV (p q:MArc):iu SS.P 39 (.agg ⟨aO p⟩) (.agg ⟨aO q⟩)=cond (p.i == q.i) (cond (p.o == q.o) (cond (p.w == q.w) (cond (p.t == q.t) (some true) (some false)) (some false)) (some false)) (some false):=by kernel_rfl
noncomputable def II {α:Type}(x y:α):Bool:=@decide (x=y) (Classical.propDecidable _)
theorem jf {α:Type}{x y:α}(h:x=y):II x y=true:=@decide_eq_true _ (Classical.propDecidable _) h
theorem eN {α:Type}{x y:α}(h:x≠y):II x y=false:=@decide_eq_false _ (Classical.propDecidable _) h
theorem KF (p q:MArc):ak SS.P .neq 39 (.agg ⟨aO p⟩) (.agg ⟨aO q⟩)=some (.bool (!II p q)):=by
 show (iu SS.P 39 (.agg ⟨aO p⟩) (.agg ⟨aO q⟩)).map (fun b=>Value.bool !b)=_;rw [NV];by_cases h:p=q
 ·subst h;rw [jf rfl];simp
 ·rw [eN h]
  cases h1:p.i == q.i with
  | false=>rfl
  | true=>
   cases h2:p.o == q.o with
   | false=>rfl
   | true=>
    cases h3:p.w == q.w with
    | false=>rfl
    | true=>
     cases h4:p.t == q.t with
     | false=>rfl
     | true=>
      refine absurd ?_ h
      cases p; cases q
      simp at h1 h2 h3 h4;simp [h1,h2,h3,h4]
theorem JN {hb g:Heap}{p:MSt×Value}{rs:List (List Value)}(o:OwnK hb g 39 4 p.2 rs):eK 4 (.agg ⟨fg p⟩) (.agg ⟨fg p⟩)=true:=by
 obtain ⟨_,⟨h1,_⟩ | ⟨k,off,cs,c,h1,_⟩⟩:=o
 ·unfold fg; rw [h1]; simp [eK,Cy,aa]
 ·unfold fg; rw [h1]; simp [eK,Cy,aa]
section
variable {h:Heap} {A B:Mach} {a:Option Addr} {n c:Nat} {b:Option Addr} {m d:Nat}
theorem jG {A B:Mach}(h:A=B):A.kind=B.kind/\A.start=B.start/\A.lead=B.lead/\A.states=B.states:=by subst h; exact ⟨rfl,rfl,rfl,rfl⟩
theorem C1 {A B:Mach}(h1:A.kind=B.kind)(h2:A.start=B.start)(h3:A.lead=B.lead)(h4:A.states=B.states):A=B:=by cases A; cases B; simp_all
def Ml (hb:Heap)(A B:Mach)(mz i:Nat)(g:Heap):Prop:=i<=A.states.length/\mz=A.states.length - i/\Ok hb g/\A.states.take i=B.states.take i
def NY (hb:Heap)(s s':MSt)(mz j:Nat)(g:Heap):Prop:=j<=s.arcs.length/\mz=s.arcs.length - j/\Ok hb g/\s.arcs.take j=s'.arcs.take j
def Fh (h:Heap)(b:Bool):VH:=fun v h'=>v = .bool b/\Ok h h'
set_option linter.defProp false in
def zI {h0 hb hI:Heap}(w:Wf h0)(ok0:Ok h0 hb){k2 k3 k6 k7 i:Nat}{s s':MSt}(hs:A.states[i]?=some s)(hs':B.states[i]?=some s')(hf:s.f=s'.f)(hl:s.arcs.length=s'.arcs.length)(hpre:A.states.take i=B.states.take i)(hA:s.arcs.length<=100000)(hN:A.states.length<=100000)(okb:Ok hb hI){x:Option Addr}{y z:Nat}{x':Option Addr}{y' z':Nat}(s6:SB hI k6 s.f x y z)(s7:SB hI k7 s'.f x' y' z')(ar:ArcRow hI (.slice x y z) s.arcs)(ar':ArcRow hI (.slice x' y' z') s'.arcs)(mz:Nat)(hmz:mz=A.states.length - i)(mv nv:List Value):=
 qb mv nv k2 k3 k6 k7 (Ml hb A B) mz i (NY hI s s') (Fh h0 (II A B)) (by
  intro mz2 j; intros; rename_i g hin;obtain ⟨f1,rfl,ok,hp⟩:=hin;have hi:i < A.states.length:=(List.getElem?_eq_some_iff.1 hs).1;have l1:=ar.len;have l2:=ar'.len;refine ⟨_,bW _ _,_,_,_,(s6.ok ok).l1,ae (fun q=> ?_) (fun q=> ?_)⟩
  ·have q:=dT q;have oR:=(Ok.refl ok.wf).room 11;have okR:=ok.trans oR;obtain ⟨p1,hp1⟩: ∃ p,s.arcs[j]?=some p:=⟨_,gE (by omega)⟩
   obtain ⟨p2,hp2⟩: ∃ p,s'.arcs[j]?=some p:=⟨_,gE (by omega)⟩
   obtain ⟨b1,o1,d1,d2,_⟩:=(ar.ok okR).at_ hp1;obtain ⟨b2,o2,e1,e2,_⟩:=(ar'.ok okR).at_ hp2;refine ⟨_,bW _ _,_,_,_,(s6.ok okR).l1,_,d1,_,d2,_,bW _ _,_,_,_,(s7.ok okR).l1,_,e1,_,e2,_,KF _ _,ae (fun q2=> ?_) (fun q2=> ?_)⟩
   ·have hne:p1≠p2:=fun e=>by rw [jf e] at q2; cases q2
    refine ⟨?_,(ok0.trans okb).trans okR⟩;rw [eN];intro e;have:=(jG e).2.2.2;rw [this,hs'] at hs;obtain rfl:=oI hs;rw [hp1] at hp2;exact hne (oI hp2)
   ·have hne:p1=p2:=Classical.byContradiction fun e=>by rw [eN e] at q2; cases q2
    rw [aH (n:=s.arcs.length) (by omega) (by omega)];refine cA (s.arcs.length - (j+1)) (by omega) ⟨by omega,rfl,okR,?_⟩;rw [take_add_one,take_add_one,hp1,hp2,hp,hne]
  ·have q:=dF q;have hj:j=s.arcs.length:=by omega
   rw [take_of_length_le (by omega),take_of_length_le (by omega)] at hp;rw [aH hi (by omega)];refine cA (A.states.length - (i+1)) (by omega) ⟨by omega,rfl,okb.trans ok,?_⟩;have hss:s=s':=by cases s; cases s'; simp_all
   rw [take_add_one,take_add_one,hs,hs',hpre,hss])
theorem GR (w:Wf h)(hN:A.states.length<=100000)(hA: ∀ s∈A.states,s.arcs.length<=100000)(r:StRow h (.slice a n c) A.states){h1:Heap}{ps:List (MSt×Value)}(om:OwnM h1 h (.slice b m d) ps)(hps:ps.map (·.1)=B.states):FW SS 29 [.agg ⟨aQ A a n c⟩,.agg ⟨aQ B b m d⟩] h (Fh h (II A B)):=by
 have rB:StRow h (.slice b m d) B.states:=hps ▸ om.st;obtain ⟨mb0,ok0⟩:=ef w r;have om0:=om.ok ok0;have rB0:=rB.ok ok0;refine FQ (aQ A a n c) (aQ B b m d) h _ ⟨_,gi A a n c,_,gi B b m d,?_⟩;generalize h.push (Bm A a n c)=g0 at *;obtain ⟨mc1,ok1⟩:=ef ok0.wf rB0;have mb1:=mb0.ok ok1;have om1:=om0.ok ok1;have okB:=ok0.trans ok1;generalize g0.push (Bm B b m d)=g1 at *;generalize g0.next=K3 at *;have hnl:=mb1.len;have hml:=mc1.len;have nk: ∀ {P:Prop},(A=B->P)-> ¬ P->II A B=false:=fun f hP=>eN fun e=>hP (f e);refine ⟨_,gJ _,_,mb1.l0,_,gJ _,_,mc1.l0,ae (fun q=> ?_) (fun q=> ?_)⟩
 ·exact ⟨by rw [nk (fun e=>(jG e).1) (by simpa using q)],okB⟩
 have e0:A.kind=B.kind:=by simpa using q
 refine ⟨_,gx _,_,mb1.l1,_,gx _,_,mc1.l1,ae (fun q=> ?_) (fun q=> ?_)⟩
 ·exact ⟨by rw [nk (fun e=>(jG e).2.1) (by simpa using q)],okB⟩
 have e1:A.start=B.start:=by simpa using q
 refine ⟨_,jM _,_,mb1.l2,_,jM _,_,mc1.l2,ae (fun q=> ?_) (fun q=> ?_)⟩
 ·exact ⟨by rw [nk (fun e=>(jG e).2.2.1) (by simpa using q)],okB⟩
 have e2:A.lead=B.lead:=by simpa using q
 refine ⟨_,bA _,_,_,_,mb1.l3,_,bA _,_,_,_,mc1.l3,ae (fun q=> ?_) (fun q=> ?_)⟩
 ·refine ⟨?_,okB⟩;rw [eN];intro e;have:=(jG e).2.2.2;rw [hnl,hml,this] at q;simp at q
 have e3:A.states.length=B.states.length:=by
  have:(n:Int)=(m:Int):=by simpa using q
  omega
 refine qd (aQ A a n c) (aQ B b m d) h.next K3 (Ml g1 A B) _ (fun mz i=> ?_) A.states.length (i:=0) ⟨zero_le _,rfl,Ok.refl okB.wf,rfl⟩;intros; rename_i g hin;obtain ⟨f1,rfl,ok,hpre⟩:=hin;have okg:=okB.trans ok;have mbg:=mb1.ok ok;refine ⟨_,bA _,_,_,_,mbg.l3,ae (fun q1=> ?_) (fun q1=> ?_)⟩
 ·have q1:=dT q1;have hi:i < A.states.length:=by omega
  obtain ⟨s,hs⟩:=lU (M:=A) (i:=i) hi;obtain ⟨s',hs'⟩:=lU (M:=B) (i:=i) (by omega);obtain ⟨p,hp,hp1⟩:=AG hps hs';have oR:=(Ok.refl okg.wf).room 14;have mbR:=mbg.ok oR;have mcR:=(mc1.ok ok).ok oR;have omR:=(om1.ok ok).ok oR;have hpl:0 < (ps.map fg).length:=by
   have:=(List.getElem?_eq_some_iff.1 hp).1;rw [lM]; omega
  obtain ⟨kb,off,cb,ev,_⟩:=omR.row.blk hpl;injection ev with ev1 ev2 ev3
  subst ev1;obtain ⟨i1,i2,i3⟩:=omR.at_ hp;obtain ⟨x',z',ex⟩:=(omR.arcs i p hp).slc;obtain ⟨bb,o,x,y,z,j1,j2,j3,j4,ar⟩:=mb1.row.at2 (ok.trans oR) hs;obtain ⟨o2,kA,kB⟩:=wq okg.wf (n:=14) (i:=10) (j:=11) (by omega) (by omega) (by omega) uh uh;refine ⟨_,bA _,_,_,_,mbR.l3,_,j1,_,j2,_,bA _,_,_,_,mcR.l3,_,i1,_,i3,_,rJ,_,rJ,?_⟩;dsimp only;generalize ax (Go.Ab.room g 14) g.next [(11,uh),(10,uh)]=S at *;have hal:=hA s (List.mem_of_getElem? hs);have pa:=cL (t:=37) rF (cs0:=[aa [],.slice none 0 0]) rfl kA (cs:=[aa s.f,.slice x y z]) rfl (by cases x <;> rfl);obtain ⟨o3,kA'⟩:=dG (cs:=[aa s.f,.slice x y z]) okg.wf o2 kA (by omega);have kB':((Upd.set (g.next+10) (.cells [aa s.f,.slice x y z] 37 0 true)).app S).get (g.next+11)=some uh:=by
   show (S.set (g.next+10) _).get (g.next+11)=_;rw [Heap.get_set,if_neg (by omega)]; exact kB
  refine ⟨_,pa,?_⟩;generalize (Upd.set (g.next+10) (.cells [aa s.f,.slice x y z] 37 0 true)).app S=g44 at *;have es:fg p=[aa s'.f,p.2]:=by unfold fg; rw [hp1]
  have pb:=cL (t:=37) rF (cs0:=[aa [],.slice none 0 0]) rfl kB' (cs:=fg p) rfl (by rw [es,ex]; cases x' <;> rfl);obtain ⟨o4,kB''⟩:=dG (cs:=fg p) okg.wf o3 kB' (by omega);have kA'':((Upd.set (g.next+11) (.cells (fg p) 37 0 true)).app g44).get (g.next+10)=some (.cells [aa s.f,.slice x y z] 37 0 true):=by
   show (g44.set (g.next+11) _).get (g.next+10)=_;rw [Heap.get_set,if_neg (by omega)]; exact kA'
  refine ⟨_,pb,⟨((mc1.ok ok).ok o3).l3,Jm (om1.ok ok)⟩,⟨(((om1.ok ok).ok o3).at_ hp).2.2,JN (omR.arcs i p hp)⟩,?_⟩;generalize (Upd.set (g.next+11) (.cells (fg p) 37 0 true)).app g44=g46 at *;have s6:SB g46 (g.next+10) s.f x y z:=kA'';have s7:SB g46 (g.next+11) s'.f x' (p.1.arcs.map aO).length z':=by
   have:=kB'';rw [es,ex] at this; exact this
  have ar':ArcRow g46 (.slice x' (p.1.arcs.map aO).length z') s'.arcs:=by
   have:=(((om1.ok ok).ok o4).arcs i p hp).rd;rw [ex,hp1] at this;rw [hp1]; exact this
  have la:=ar.len;have la':=ar'.len;refine ⟨_,iG _ _,_,s6.l0,_,iG _ _,_,s7.l0,ae (fun q2=> ?_) (fun q2=> ?_)⟩
  ·refine ⟨?_,okg.trans o4⟩;rw [eN];intro e;have:=(jG e).2.2.2;rw [this,hs'] at hs;obtain rfl:=oI hs;simp at q2
  have hf:s.f=s'.f:=by simpa using q2
  refine ⟨_,bW _ _,_,_,_,s6.l1,_,bW _ _,_,_,_,s7.l1,ae (fun q3=> ?_) (fun q3=> ?_)⟩
  ·refine ⟨?_,okg.trans o4⟩;rw [eN];intro e;have:=(jG e).2.2.2;rw [this,hs'] at hs;obtain rfl:=oI hs;rw [la,la'] at q3;simp at q3
  have hl:s.arcs.length=s'.arcs.length:=by
   have:(y:Int)=(((p.1.arcs.map aO).length:Nat):Int):=by simpa using q3
   omega
  exact zI w okB hs hs' hf hl hpre hal hN (ok.trans o4) s6 s7 (ar.ok (ok.trans o4)) ar' _ rfl [] [] s.arcs.length (j:=0) ⟨zero_le _,rfl,Ok.refl (okg.trans o4).wf,rfl⟩
 ·have q1:=dF q1;obtain rfl:i=A.states.length:=by omega
  rw [take_of_length_le (le_refl _),take_of_length_le (by omega)] at hpre;exact ⟨by rw [jf (C1 e0 e1 e2 hpre)],okg⟩
end
end
noncomputable def G8:FD:=cB Tryz.f82 []
theorem DS (x:Int)(h:Heap)(Q:VH)(hx:Q (.bool (((x:Int) != x))) h):FW SS0 82 [(.int .i64 x)] h Q:=cE G8 Tryz.func82 (aj hx)
noncomputable def Ho:FD:=cB Tryz.f83 []
theorem Eb (x:LB)(h:Heap)(Q:VH)(hx:Q (.bool (!((x:LB) == x))) h):FW SS0 83 [(aa x)] h Q:=cE Ho Tryz.func83 (aj hx)
noncomputable def Hv:FD:=cB Tryz.f70 []
theorem Ft (x y:Int)(h:Heap)(Q:VH)(hx:FW SS0 82 [(.int .i64 x)] h fun v1 h2=>yB v1 fun b3=>FW SS0 82 [(.int .i64 y)] h2 fun v4 h5=>yB v4 fun b6=>aB b3 (aB b6 (Q (.int .i64 0) h5) (Q (.int .i64 (-1)) h5)) (aB b6 (Q (.int .i64 1) h5) (aB (decide ((x:Int) < y)) (Q (.int .i64 (-1)) h5) (aB (decide ((x:Int) > y)) (Q (.int .i64 1) h5) (Q (.int .i64 0) h5))))):FW SS0 70 [(.int .i64 x),(.int .i64 y)] h Q:=cE Hv Tryz.func70 (aj hx)
noncomputable def Hi:FD:=cB Tryz.f71 []
theorem Fb (x y:LB)(h:Heap)(Q:VH)(hx:FW SS0 83 [(aa x)] h fun v1 h2=>yB v1 fun b3=>FW SS0 83 [(aa y)] h2 fun v4 h5=>yB v4 fun b6=>aB b3 (aB b6 (Q (.int .i64 0) h5) (Q (.int .i64 (-1)) h5)) (aB b6 (Q (.int .i64 1) h5) (aB (aV x y) (Q (.int .i64 (-1)) h5) (aB (!(aV x y || (x:LB) == y)) (Q (.int .i64 1) h5) (Q (.int .i64 0) h5))))):FW SS0 71 [(aa x),(aa y)] h Q:=cE Hi Tryz.func71 (aj hx)
noncomputable def jS:FD:=cB Tryz.f69 [([1,1,0,1,0,0],[3,6,7,8])]
abbrev fP (a:OA)(n c:Nat)(i:Nat):LV:=[(.int .i64 0),(.slice a n c),(iA n),(iA i)]
theorem Gi (a:OA)(n c:Nat)(h:Heap)(Q:VH)(hx:LL SS0 jS [1,1,0,1,0,0] (fP a n c 0) h (KK SS0 jS [1,1,0,1,0] [] (EE SS0 jS Q))):FW SS0 69 [(.slice a n c)] h Q:=cE jS Tryz.func69 (aj hx)
theorem qe (a:OA)(n c:Nat)  (Inv:Nat->Nat->Heap->Prop) (Q:VH) (step: ∀ (mz:Nat)(i:Nat)(zz:Nat->Value)(h:Heap),Inv mz i h->aB (decide (((i:Int):Int) < (n:Int))) (xP (ag SS0.P 48 (.slice a n c) (iA i)) fun p1=>xI .i64 (ah SS0.P 3 h (.pointer (some p1))) fun n2=>aB (((n2:Int) != 0)) (Q (.int .i64 n2) h) (aF (gM (fP a n c) Inv) mz [(.int .i64 0),(.slice a n c),(iA n),(.int .i64 (wrap .i64 ((i:Int)+1)))] h)) (Q (.int .i64 0) h)) (mz:Nat) {i:Nat} {h:Heap} (hi:Inv mz i h):LL SS0 jS [1,1,0,1,0,0] (fP a n c i) h (KK SS0 jS [1,1,0,1,0] [] (EE SS0 jS Q)):=
 cQ (fP a n c) Inv (fun mz i zz h hi=>aj (step mz i zz h hi)) mz hi
noncomputable def Lk:FD:=cB Tryz.f47 []
theorem Jd (av bv:LV)(h:Heap)(Q:VH)(hx:xN (dY SS0.P 39 (.agg ⟨av⟩)) h fun B1 g2=>xN (dY SS0.P 39 (.agg ⟨bv⟩)) g2 fun B3 g4=>xP (af SS0.P 39 (pA (h.next)) 0) fun p5=>xI .i64 (ah SS0.P 3 (room g4 23) (.pointer (some p5))) fun n6=>xP (af SS0.P 39 (pA (g2.next)) 0) fun p7=>xI .i64 (ah SS0.P 3 (room g4 23) (.pointer (some p7))) fun n8=>FW SS0 70 [(.int .i64 n6),(.int .i64 n8)] (room g4 23) fun v9 h10=>yI .i64 v9 fun n11=>xP (af SS0.P 39 (pA (h.next)) 1) fun p12=>xI .i64 (ah SS0.P 3 h10 (.pointer (some p12))) fun n13=>xP (af SS0.P 39 (pA (g2.next)) 1) fun p14=>xI .i64 (ah SS0.P 3 h10 (.pointer (some p14))) fun n15=>FW SS0 70 [(.int .i64 n13),(.int .i64 n15)] h10 fun v16 h17=>yI .i64 v16 fun n18=>xP (af SS0.P 39 (pA (h.next)) 2) fun p19=>xS (ah SS0.P 9 h17 (.pointer (some p19))) fun l20=>xP (af SS0.P 39 (pA (g2.next)) 2) fun p21=>xS (ah SS0.P 9 h17 (.pointer (some p21))) fun l22=>FW SS0 71 [(aa l20),(aa l22)] h17 fun v23 h24=>yI .i64 v23 fun n25=>xP (af SS0.P 39 (pA (h.next)) 3) fun p26=>xI .i64 (ah SS0.P 3 h24 (.pointer (some p26))) fun n27=>xP (af SS0.P 39 (pA (g2.next)) 3) fun p28=>xI .i64 (ah SS0.P 3 h24 (.pointer (some p28))) fun n29=>FW SS0 70 [(.int .i64 n27),(.int .i64 n29)] h24 fun v30 h31=>yI .i64 v30 fun n32=>zR (an SS0.P 48 4 [(0,(.int .i64 n11)),(1,(.int .i64 n18)),(2,(.int .i64 n25)),(3,(.int .i64 n32))]) fun B33 n34 c35=>FW SS0 69 [(sA (g4.next+20) n34 c35)] (ax h31 g4.next [(20,B33)]) fun v36 h37=>yI .i64 v36 fun n38=>(ah SS0.P 3 (room g4 23) (.pointer (some p12))=some (.int .i64 n13)/\eK 4 (.int .i64 n13) (.int .i64 n13)=true)/\(ah SS0.P 3 (room g4 23) (.pointer (some p14))=some (.int .i64 n15)/\eK 4 (.int .i64 n15) (.int .i64 n15)=true)/\(ah SS0.P 9 (room g4 23) (.pointer (some p19))=some (aa l20)/\eK 4 (aa l20) (aa l20)=true)/\(ah SS0.P 9 h10 (.pointer (some p19))=some (aa l20)/\eK 4 (aa l20) (aa l20)=true)/\(ah SS0.P 9 (room g4 23) (.pointer (some p21))=some (aa l22)/\eK 4 (aa l22) (aa l22)=true)/\(ah SS0.P 9 h10 (.pointer (some p21))=some (aa l22)/\eK 4 (aa l22) (aa l22)=true)/\(ah SS0.P 3 (room g4 23) (.pointer (some p26))=some (.int .i64 n27)/\eK 4 (.int .i64 n27) (.int .i64 n27)=true)/\(ah SS0.P 3 h10 (.pointer (some p26))=some (.int .i64 n27)/\eK 4 (.int .i64 n27) (.int .i64 n27)=true)/\(ah SS0.P 3 h17 (.pointer (some p26))=some (.int .i64 n27)/\eK 4 (.int .i64 n27) (.int .i64 n27)=true)/\(ah SS0.P 3 (room g4 23) (.pointer (some p28))=some (.int .i64 n29)/\eK 4 (.int .i64 n29) (.int .i64 n29)=true)/\(ah SS0.P 3 h10 (.pointer (some p28))=some (.int .i64 n29)/\eK 4 (.int .i64 n29) (.int .i64 n29)=true)/\(ah SS0.P 3 h17 (.pointer (some p28))=some (.int .i64 n29)/\eK 4 (.int .i64 n29) (.int .i64 n29)=true)/\Q (.int .i64 n38) h37):FW SS0 47 [(.agg ⟨av⟩),(.agg ⟨bv⟩)] h Q:=cE Lk Tryz.func47 (aj hx)
theorem Ia (q:MArc){g:Heap}(w:Wf g):Ok g (g.push (Bq q))/\AB (g.push (Bq q)) g.next q:=⟨(Ok.refl w).push _,ay g (Bq q)⟩
theorem vM (x:Int)(h:Heap):FW SS0 82 [.int .i64 x] h (fun v h'=>v = .bool false/\h'=h):=by
 refine DS x h _ ?_
 first
  | exact ⟨by simp,rfl⟩
  | simp
theorem uF (x:List UInt8)(h:Heap):FW SS0 83 [aa x] h (fun v h'=>v = .bool false/\h'=h):=by
 refine Eb x h _ ?_
 first
  | exact ⟨by simp,rfl⟩
  | simp
theorem pE (x y:Int)(h:Heap):FW SS0 70 [.int .i64 x,.int .i64 y] h (fun v h'=>v = .int .i64 (lz x y)/\h'=h):=by
 refine Ft x y h _ ((vM x h).mono ?_);rintro _ _ ⟨rfl,rfl⟩;refine ⟨_,rfl,(vM y _).mono ?_⟩;rintro _ _ ⟨rfl,rfl⟩;refine ⟨_,rfl,ae (fun c=>by cases c) (fun _=>ae (fun c=>by cases c) (fun _=>ae (fun c=> ?_) (fun c=>ae (fun c2=> ?_) (fun c2=> ?_))))⟩
 ·exact ⟨by unfold lz; rw [if_pos (dT c)],rfl⟩
 ·exact ⟨by unfold lz; rw [if_neg (dF c),if_pos (dT c2)],rfl⟩
 ·exact ⟨by unfold lz; rw [if_neg (dF c),if_neg (dF c2)],rfl⟩
theorem Eg (x y:List UInt8)(h:Heap):FW SS0 71 [aa x,aa y] h (fun v h'=>v = .int .i64 (rO x y)/\h'=h):=by
 refine Fb x y h _ ((uF x h).mono ?_);rintro _ _ ⟨rfl,rfl⟩;refine ⟨_,rfl,(uF y _).mono ?_⟩;rintro _ _ ⟨rfl,rfl⟩;refine ⟨_,rfl,ae (fun c=>by cases c) (fun _=>ae (fun c=>by cases c) (fun _=>ae (fun c=> ?_) (fun c=>ae (fun c2=> ?_) (fun c2=> ?_))))⟩
 ·exact ⟨by unfold rO; rw [if_pos c],rfl⟩
 ·exact ⟨by unfold rO; rw [if_neg (by rw [c]; exact Bool.false_ne_true),if_pos (by simpa using c2)],rfl⟩
 ·exact ⟨by unfold rO; rw [if_neg (by rw [c]; exact Bool.false_ne_true),if_neg (by simpa using c2)],rfl⟩
theorem If {l:List Int}{h:Heap}{a:Option Addr}{n c:Nat}(w:Wf h)(r:Rd h 3 (.slice a n c) (l.map (Value.int .i64)))(hl:l.length<=100000):FW SS0 69 [.slice a n c] h (fun v h'=>v = .int .i64 (FG l)/\h'=h):=by
 have hn:n=l.length:=by have:=r.len; rwa [lM] at this
 refine Gi a n c h _ ?_;refine qe a n c (fun mz i g=>i<=n/\mz=n - i/\g=h/\FG (l.drop i)=FG l) _ (fun mz i=> ?_) n (i:=0) ⟨zero_le _,rfl,rfl,rfl⟩;intros; rename_i g hin;obtain ⟨f1,rfl,rfl,ho⟩:=hin;refine ae (fun q=> ?_) (fun q=> ?_)
 ·have q:=dT q;obtain ⟨x,hx⟩: ∃ x,l[i]?=some x:=⟨_,gE (by omega)⟩
  obtain ⟨p,e1,e2⟩:=Rd.at_ kJ IJ HO Ij r (k:= .i64) (i:=(i:Int)) (by omega) (by rw [lM]; omega);rw [Int.toNat_natCast,gD,getElem?_map,hx] at e2;have e2:ah SS.P 3 g (.pointer (some p))=some (.int .i64 x):=e2;rw [dI hx] at ho;refine ⟨_,e1,_,e2,ae (fun q2=> ?_) (fun q2=> ?_)⟩
  ·have q2:x≠0:=by simpa using q2
   refine ⟨?_,rfl⟩;rw [<-ho];show _=Value.int .i64 (if x≠0 then x else _);rw [if_pos q2]
  ·have q2: ¬ x≠0:=by simpa using q2
   rw [aH (n:=n) (by omega) (by omega)];refine cA (n - (i+1)) (by omega) ⟨by omega,rfl,rfl,?_⟩;rw [<-ho];show _=(if x≠0 then x else _);rw [if_neg q2]
 ·have q:=dF q;rw [drop_eq_nil_of_le (by omega)] at ho;exact ⟨by rw [<-ho]; rfl,rfl⟩
theorem K5 (x y z t:Int):an SS.P 48 4 [(0,(.int .i64 x)),(1,(.int .i64 y)),(2,(.int .i64 z)),(3,(.int .i64 t))]=some (.cells [.int .i64 x,.int .i64 y,.int .i64 z,.int .i64 t] 3 1 true,gH 4 4):=by kernel_rfl
theorem Kg (p q:MArc){h:Heap}(w:Wf h):FW SS0 47 [.agg ⟨aO p⟩,.agg ⟨aO q⟩] h (fun v h'=>v = .int .i64 (ur p q)/\Ok h h'):=by
 refine Jd (aO p) (aO q) h _ ⟨_,zg p,_,zg q,?_⟩;obtain ⟨o1,a1⟩:=Ia p w;obtain ⟨o2,b2⟩:=Ia q o1.wf;have a2:=a1.ok o2;have ok:=o1.trans o2;have oR:=(Ok.refl ok.wf).room 23;have aR:=a2.ok oR;have bR:=b2.ok oR;obtain ⟨oS,kS⟩:=rE ok.wf (n:=23) (j:=20) (by omega) (.cells [.int .i64 (lz p.i q.i),.int .i64 (lz p.o q.o),.int .i64 (rO p.w q.w),.int .i64 (lz p.t q.t)] 3 1 true);refine ⟨_,nq _ _,_,aR.l0,_,nq _ _,_,bR.l0,(pE _ _ _).mono ?_⟩;rintro _ _ ⟨rfl,rfl⟩;refine ⟨_,rfl,_,pM _ _,_,aR.l1,_,pM _ _,_,bR.l1,(pE _ _ _).mono ?_⟩;rintro _ _ ⟨rfl,rfl⟩;refine ⟨_,rfl,_,wt _ _,_,aR.l2,_,wt _ _,_,bR.l2,(Eg _ _ _).mono ?_⟩;rintro _ _ ⟨rfl,rfl⟩;refine ⟨_,rfl,_,eW _ _,_,aR.l3,_,eW _ _,_,bR.l3,(pE _ _ _).mono ?_⟩;rintro _ _ ⟨rfl,rfl⟩;refine ⟨_,rfl,_,_,_,K5 _ _ _ _,?_⟩;refine (If (l:=[lz p.i q.i,lz p.o q.o,rO p.w q.w,lz p.t q.t]) oS.wf (.inr ⟨_,0,_,_,true,rfl,kS,rfl⟩) (show 4<=100000 by decide)).mono ?_;rintro _ _ ⟨rfl,rfl⟩;exact ⟨_,rfl,⟨aR.l1,gW _⟩,⟨bR.l1,gW _⟩,⟨aR.l2,qK _⟩,⟨aR.l2,qK _⟩,⟨bR.l2,qK _⟩,⟨bR.l2,qK _⟩,⟨aR.l3,gW _⟩,⟨aR.l3,gW _⟩,⟨aR.l3,gW _⟩,⟨bR.l3,gW _⟩,⟨bR.l3,gW _⟩,⟨bR.l3,gW _⟩,rfl,ok.trans oS⟩
end Go.Proofs.YtoabjjimjldcfaaGreatDoor
end
section
set_option linter.unusedVariables false
namespace Go.Ab
open Go
theorem rP {sz:Nat}: ∀ {l:List (List Value)},(∀ r∈l,r.length=sz)-> ∀ k,(l.take k).flatten=l.flatten.take (k*sz)
 | [],_,k=>by simp
 | x::l,h,0=>by simp
 | x::l,h,k+1=>by
  have hx:=h x (mem_cons_self ..);rw [List.take_succ_cons,flatten_cons,flatten_cons,rP (fun r hr=>h r (mem_cons_of_mem _ hr)) k,List.take_append,take_of_length_le (show x.length<=(k+1)*sz by rw [hx,add_mul]; omega),hx,add_mul,one_mul,Nat.add_sub_cancel]
theorem sF {sz:Nat}: ∀ {l:List (List Value)},(∀ r∈l,r.length=sz)-> ∀ k,(l.drop k).flatten=l.flatten.drop (k*sz)
 | [],_,k=>by simp
 | x::l,h,0=>by simp
 | x::l,h,k+1=>by
  have hx:=h x (mem_cons_self ..);rw [List.drop_succ_cons,flatten_cons,sF (fun r hr=>h r (mem_cons_of_mem _ hr)) k,drop_append,drop_eq_nil_of_le (show x.length<=(k+1)*sz by rw [hx,add_mul]; omega),nil_append,hx,add_mul,one_mul,Nat.add_sub_cancel]
theorem OwnK.putR {P:Program}{e:TypeId}{sz:Nat}(hs:al P e=some sz){h0 g:Heap}(w0:Wf h0)(a:Ok h0 g){k off n c:Nat}{rs:List (List Value)}(o:OwnK h0 g e sz (.slice (some ⟨k,off,none⟩) n c) rs){i:Nat}(hi:i < rs.length){x:List Value}(hx:x.length=sz)(hv:x.all bI=true):
  ∃ u:Upd,ai P e (.pointer (some ⟨k,off+i*sz,none⟩)) (.agg ⟨x⟩) g=some (undef,u)/\OwnK h0 (u.app g) e sz (.slice (some ⟨k,off,none⟩) n c) (rs.set i x)/\Ok h0 (u.app g)/\(∀ j B,g.get j=some B->k≠j->(u.app g).get j=some B)/\(u.app g).next=g.next:=by
 obtain ⟨hr,⟨h1,_⟩ | ⟨k',off',cs,c',h1,h2,h3,h4,h5,h6⟩⟩:=o
 ·injection h1 with h1 _ _; cases h1
 injection h1 with h1 hn hc'
 injection h1 with h1
 injection h1 with h1 ho _
 subst h1; subst ho; subst hc';have h9:(i+1)*sz<=rs.length*sz:=Nat.mul_le_mul_right _ hi;have h10:=Nat.mul_le_mul_right sz h6;have m3:(i+1)*sz=i*sz+sz:=by rw [add_mul,one_mul]
 have hF:=fF hr;have st:ai P e (.pointer (some ⟨k,off+i*sz,none⟩)) (.agg ⟨x⟩) g=some (undef,.set k (.cells (cs.take (off+i*sz)++x++cs.drop (off+i*sz+x.length)) e sz true)):=by
  unfold ai;dsimp only;have e1:(Value.agg ⟨x⟩).cells.size=sz:=by show x.toArray.size=sz; simpa using hx
  have e2:(Value.agg ⟨x⟩).cells.toList=x:=rfl;rw [if_pos (by rw [e1,hs])];unfold storeAt;rw [h3,e2]; dsimp only;rw [if_pos ⟨by omega,hv⟩];rfl
 have hrs: ∀ r∈rs.set i x,r.length=sz:=fun r hr'=>by
  rcases List.mem_or_eq_of_mem_set hr' with h | h
  ·exact hr r h
  ·rw [h]; exact hx
 refine ⟨_,st,⟨hrs,.inr ⟨k,off,_,c,by rw [length_set,hn],h2,by show (g.set k _).get k=_; rw [Heap.get_set,if_pos rfl],?_,?_,by rw [length_set]; exact h6⟩⟩,a.set _ h2 (a.wf _ _ h3) w0,fun j B hj hne=> ?_,rfl⟩
 ·have e1:(cs.take (off+i*sz)).length=off+i*sz:=by rw [length_take]; omega
  have hW:(cs.take (off+i*sz)).drop off=(cs.drop off).take (i*sz):=by rw [List.drop_take,show off+i*sz - off=i*sz by omega]
  have hWl:((cs.drop off).take (i*sz)).length=i*sz:=by rw [length_take,length_drop]; omega
  have hA:(rs.take i).flatten=(cs.drop off).take (i*sz):=by rw [rP hr,<-h4,List.take_take,Nat.min_eq_left (by omega)]
  have hB:(rs.drop (i+1)).flatten=(cs.drop (off+i*sz+x.length)).take ((rs.length - (i+1))*sz):=by
   have m4:rs.length*sz=(i+1)*sz+(rs.length - (i+1))*sz:=by rw [<-add_mul]; congr 1; omega
   rw [sF hr,<-h4,List.drop_take,List.drop_drop,m4,Nat.add_sub_cancel_left,hx,show off+(i+1)*sz=off+i*sz+sz by omega]
  have m4:rs.length*sz=(i+1)*sz+(rs.length - (i+1))*sz:=by rw [<-add_mul]; congr 1; omega
  rw [length_set,List.set_eq_take_append_cons_drop,if_pos hi,List.flatten_append,flatten_cons,hA,hB,append_assoc,List.drop_append_of_le_length (by rw [e1]; omega),hW,List.take_append,hWl,take_of_length_le (by omega)];congr 1;rw [List.take_append,take_of_length_le (by omega)];congr 2;omega
 ·rw [length_append,length_append,length_take,length_drop]; omega
 ·show (g.set k _).get j=_;rw [Heap.get_set,if_neg (fun e=>hne e.symm)];exact hj
end Go.Ab
end
section
set_option linter.unusedVariables false
set_option maxRecDepth 100000
namespace Go.Proofs.YtoabjjimjldcfaaGreatDoor
open Go Go.Ab
def bM (ord:List Nat)(q:MArc):List Nat:=if q.t.toNat∈ord then ord else ord++[q.t.toNat]
def fj (M:Mach)(ord:List Nat)(s:Nat):List Nat:=(bU (M.states.getD s ⟨[],[]⟩).arcs).foldl bM ord
def iW (M:Mach):Nat->Nat->List Nat->List Nat
 | 0,_,ord=>ord
 | f+1,i,ord=>match ord[i]? with
  | none=>ord
  | some s=>iW M f (i+1) (fj M ord s)
def bE (M:Mach):List Nat:=iW M (M.states.length+1) 0 [M.start.toNat]
def bq (M:Mach):Mach:=⟨M.kind,M.start,M.lead,M.states.map fun s=>⟨s.f,bU s.arcs⟩⟩
noncomputable def cJ (M:Mach):Mach×Int:=if (bF M).2≠0 then (mW,(bF M).2) else (bq (bi (bF M).1 (bE (bF M).1)),0)
theorem HM {out:List MArc}{x y:MArc}:y∈ph out x↔y=x\/y∈out:=by
 unfold ph;have:y∈out↔y∈out.take (lG x out out.length)\/y∈out.drop (lG x out out.length):=by
  rw [<-mem_append,List.take_append_drop]
 rw [this];simp only [mem_append,mem_singleton];constructor
 ·rintro ((h | h) | h)
  ·exact .inr (.inl h)
  ·exact .inl h
  ·exact .inr (.inr h)
 ·rintro (h | h | h)
  ·exact .inl (.inr h)
  ·exact .inl (.inl h)
  ·exact .inr h
theorem mY {y:MArc}: ∀ {l out:List MArc},y∈l.foldl ph out↔y∈l\/y∈out
 | [],out=>by simp
 | x::l,out=>by
  rw [foldl_cons,mY,HM,mem_cons];constructor
  ·rintro (h | h | h)
   ·exact .inl (.inr h)
   ·exact .inl (.inl h)
   ·exact .inr h
  ·rintro ((h | h) | h)
   ·exact .inr (.inl h)
   ·exact .inl h
   ·exact .inr (.inr h)
theorem sortA_mem {l:List MArc}{y:MArc}:y∈bU l↔y∈l:=by
 unfold bU; rw [mY]; simp
theorem Jl {N:Nat}{ord:List Nat}(o:OrdOk N ord){q:MArc}(hq:q.t.toNat < N):OrdOk N (bM ord q):=by
 unfold bM; split
 ·exact o
 ·next h=>
  refine ⟨fun x hx=> ?_,?_⟩
  ·rcases mem_append.1 hx with h' | h'
   ·exact o.lt x h'
   ·rw [mem_singleton.1 h']; exact hq
  ·rw [List.nodup_append];refine ⟨o.nd,by simp,fun a ha b hb=> ?_⟩;rw [mem_singleton.1 hb];exact fun e=>h (e ▸ ha)
theorem rU {N:Nat}: ∀ {l:List MArc}{ord:List Nat},OrdOk N ord->(∀ q∈l,q.t.toNat < N)->OrdOk N (l.foldl bM ord)
 | [],_,o,_=>o
 | q::l,ord,o,h=>by
  rw [foldl_cons];exact rU (Jl o (h q (mem_cons_self ..))) fun x hx=>h x (mem_cons_of_mem _ hx)
theorem Good.tn {M:Mach}(gd:Good M){s:Nat}{q:MArc}(hq:q∈(M.states.getD s ⟨[],[]⟩).arcs):q.t.toNat < M.states.length:=by
 rw [gD] at hq
 cases hs:M.states[s]? with
 | none=>rw [hs] at hq; cases hq
 | some st=>
  rw [hs] at hq;have:=gd.arcs st (List.mem_of_getElem? hs) q hq;have h0:=this.t0;have h1:=this.t1;omega
theorem nC {M:Mach}(gd:Good M){ord:List Nat}(o:OrdOk M.states.length ord)(s:Nat):OrdOk M.states.length (fj M ord s):=
 rU o fun q hq=>gd.tn (s:=s) (sortA_mem.1 hq)
theorem Dp {M:Mach}(gd:Good M): ∀ (f i:Nat){ord:List Nat},OrdOk M.states.length ord->OrdOk M.states.length (iW M f i ord)
 | 0,_,_,o=>o
 | f+1,i,ord,o=>by
  unfold iW; split
  ·exact o
  ·exact Dp gd f (i+1) (nC gd o _)
theorem wG {M:Mach}(gd:Good M):OrdOk M.states.length [M.start.toNat]:=by
 have h0:=gd.start0;have h1:=gd.start1;exact ⟨fun x hx=>by rw [mem_singleton.1 hx]; omega,by simp⟩
theorem il {M:Mach}(gd:Good M):OrdOk M.states.length (bE M):=Dp gd _ _ (wG gd)
theorem lP {M:Mach}{ord:List Nat}(gd:Good M)(hs:M.start.toNat∈ord):Good (bi M ord):=by
 have hl:(bi M ord).states.length=ord.length:=by unfold bi; simp
 have h1:=(iN ord 0 M.start.toNat).2 hs;have h2:=iH ord 0 M.start.toNat;refine ⟨?_,?_,fun s hs q hq=> ?_⟩
 ·show 0<=bK ord 0 M.start.toNat;rcases h2 with h | h
  ·exact absurd h h1
  ·omega
 ·show bK ord 0 M.start.toNat < _;rw [hl];rcases h2 with h | h
  ·exact absurd h h1
  ·omega
 ·obtain ⟨x,hx,rfl⟩:=mem_map.1 hs;obtain ⟨p,hp,he⟩:=mem_filterMap.1 hq;unfold ci at he;split at he
  ·cases he
  ·next hne=>
   obtain rfl:=oI he;have h3:=iH ord 0 p.t.toNat;rw [hl];rcases h3 with h | h
   ·exact absurd h hne
   ·have ap:ArcIn M.states.length p:=by
     rw [gD] at hp
     cases hx2:M.states[x]? with
     | none=>rw [hx2] at hp; cases hp
     | some s2=>rw [hx2] at hp; exact gd.arcs s2 (List.mem_of_getElem? hx2) p hp
    exact ⟨ap.i0,ap.i1,ap.o0,ap.o1,by show 0<=bK ord 0 p.t.toNat; omega,by show bK ord 0 p.t.toNat < _; omega⟩
theorem CL {M:Mach}{ord:List Nat}{n:Nat}(hA: ∀ s∈M.states,s.arcs.length<=n): ∀ s∈(bi M ord).states,s.arcs.length<=n:=fun s hs=>by
 obtain ⟨x,hx,rfl⟩:=mem_map.1 hs;refine le_trans (List.length_filterMap_le ..) ?_;rw [gD]
 cases h:M.states[x]? with
 | none=>exact zero_le _
 | some s=>exact hA s (List.mem_of_getElem? h)
theorem AH {M:Mach}(sm:Small M)(h:(bF M).2=0):Good (bF M).1/\(bF M).1.states.length<=300/\ ∀ s∈(bF M).1.states,s.arcs.length<=2000:=by
 cases hv:aN M with
 | false=>rw [uS hv] at h; cases h
 | true=>
  by_cases hu:bD M M.start.toNat
  ·rw [f7 hv hu];have gd:=bC hv;have h0:=gd.start0;have h1:=gd.start1;have hm:M.start.toNat∈iV M:=by
    unfold iV;exact List.mem_filter.2 ⟨mem_range.2 (by omega),@decide_eq_true _ (Classical.propDecidable _) hu⟩
   refine ⟨lP gd hm,?_,CL fun s hs=> ?_⟩
   ·show ((iV M).map _).length<=300;rw [lM];have h3:=dp M.states.length (i5 M).nd (i5 M).lt;have h4:=sm.sts;omega
   ·obtain ⟨j,hj,e⟩:=List.mem_iff_getElem.1 hs;exact (gZ sm (i:=j) (by rw [gE hj,e])).1
  ·rw [fA hv hu] at h ⊢;unfold kG at h ⊢;split at h
   ·next hk=>
    rw [if_pos hk];refine ⟨⟨Int.le_refl _,by show (0:Int) < (1:Nat); omega,fun s hs q hq=> ?_⟩,by show 1<=300; decide,fun s hs=> ?_⟩
    ·rw [mem_singleton.1 hs] at hq; cases hq
    ·rw [mem_singleton.1 hs]; exact zero_le _
   ·cases h
def qq (s:MSt):MSt:=⟨s.f,bU s.arcs⟩
def zZ (l:List MSt)(i:Nat):List MSt:=(l.take i).map qq++l.drop i
theorem Jh {l:List MSt}{i:Nat}{s:MSt}(hs:l[i]?=some s):(zZ l i)[i]?=some s/\zZ l (i+1)=(zZ l i).set i (qq s):=by
 have hi:=(List.getElem?_eq_some_iff.1 hs).1;have e:l.drop i=s::l.drop (i+1):=by rw [List.drop_eq_getElem_cons hi,(List.getElem?_eq_some_iff.1 hs).2]
 have hl:((l.take i).map qq).length=i:=by rw [lM,length_take]; omega
 have ht:l.take (i+1)=l.take i++[s]:=by rw [take_add_one,hs]; rfl
 unfold zZ;refine ⟨?_,?_⟩
 ·rw [List.getElem?_append_right (by omega),hl,sub_self,e]; rfl
 ·rw [List.set_append_right _ _ (by omega),hl,sub_self,e,ht,map_append];simp
theorem pZ: ∀ (l:List MArc)(ord:List Nat),ord.length<=(l.foldl bM ord).length
 | [],_=>le_refl _
 | q::l,ord=>by
  rw [foldl_cons];refine le_trans ?_ (pZ l (bM ord q));unfold bM; split
  ·exact le_refl _
  ·rw [length_append]; omega
theorem G0 {hb g:Heap}{t:Option Addr}{tn tc:Nat}{ord:List Nat}(o:OwnG hb g 3 (.slice t tn tc) (ord.map iv)):tn=ord.length:=by
 obtain ⟨a',c',e⟩:=o.slc;injection e with _ e _
 rw [e,lM]
theorem ip {M:Mach}{f i x:Nat}{ord:List Nat}(hx:ord[i]?=some x):iW M (f+1) i ord=iW M f (i+1) (fj M ord x):=by
 rw [iW,hx]
theorem nP {M:Mach}{i:Nat}{ord:List Nat}(h:ord.length<=i): ∀ f,iW M f i ord=ord
 | 0=>rfl
 | f+1=>by rw [iW,getElem?_eq_none h]
section
section
variable {h:Heap} {M:Mach} {a:Option Addr} {n c:Nat}
theorem BD (h:(bF M).2≠0):cJ M=(mW,(bF M).2):=by unfold cJ; rw [if_pos h]
theorem eC (h:(bF M).2=0):cJ M=(bq (bi (bF M).1 (bE (bF M).1)),0):=by unfold cJ; rw [if_neg (by rw [h]; exact fun e=>e rfl)]
end
end
noncomputable def iU:FD:=cB Tryz.f54 [([1,1,0,1,0,0],[0,1,12,13])]
abbrev fo (a:OA)(n c:Nat)(b:OA)(m d:Nat)(i:Nat):LV:=[(.slice a n c),(.slice b m d),(iA n),(iA i)]
theorem Fw (a:OA)(n c:Nat)(b:OA)(m d:Nat)(h:Heap)(Q:VH)(hx:aB ((((n:Int):Int) != (m:Int))) (Q (.bool false) h) (LL SS iU [1,1,0,1,0,0] (fo a n c b m d 0) h (KK SS iU [1,1,0,1,0] [] (EE SS iU Q)))):FW SS 54 [(.slice a n c),(.slice b m d)] h Q:=cE iU Tryz.func54 (aj hx)
theorem pc (a:OA)(n c:Nat)(b:OA)(m d:Nat)  (Inv:Nat->Nat->Heap->Prop) (Q:VH) (step: ∀ (mz:Nat)(i:Nat)(zz:Nat->Value)(h:Heap),Inv mz i h->aB (decide (((i:Int):Int) < (n:Int))) (xP (ag SS.P 35 (.slice a n c) (iA i)) fun p1=>xA (ah SS.P 39 (room h 9) (.pointer (some p1))) fun c2=>xP (ag SS.P 35 (.slice b m d) (iA i)) fun p3=>xA (ah SS.P 39 (room h 9) (.pointer (some p3))) fun c4=>xB (ak SS.P .neq 39 (.agg ⟨c2⟩) (.agg ⟨c4⟩)) fun b5=>aB b5 (Q (.bool false) (room h 9)) (aF (gM (fo a n c b m d) Inv) mz [(.slice a n c),(.slice b m d),(iA n),(.int .i64 (wrap .i64 ((i:Int)+1)))] (room h 9))) (Q (.bool true) h)) (mz:Nat) {i:Nat} {h:Heap} (hi:Inv mz i h):LL SS iU [1,1,0,1,0,0] (fo a n c b m d i) h (KK SS iU [1,1,0,1,0] [] (EE SS iU Q)):=
 cQ (fo a n c b m d) Inv (fun mz i zz h hi=>aj (step mz i zz h hi)) mz hi
noncomputable def IR:FD:=cB Tryz.f53 []
theorem IF (xv yv:LV)(h:Heap)(Q:VH)(hx:xN (dY SS.P 37 (.agg ⟨xv⟩)) h fun B1 g2=>xN (dY SS.P 37 (.agg ⟨yv⟩)) g2 fun B3 g4=>xP (af SS.P 37 (pA (h.next)) 0) fun p5=>xS (ah SS.P 9 g4 (.pointer (some p5))) fun l6=>xP (af SS.P 37 (pA (g2.next)) 0) fun p7=>xS (ah SS.P 9 g4 (.pointer (some p7))) fun l8=>aB ((l6:LB) == l8) (xP (af SS.P 37 (pA (h.next)) 1) fun p9=>xL (ah SS.P 35 g4 (.pointer (some p9))) fun a10 n11 c12=>xP (af SS.P 37 (pA (g2.next)) 1) fun p13=>xL (ah SS.P 35 g4 (.pointer (some p13))) fun a14 n15 c16=>FW SS 54 [(.slice a10 n11 c12),(.slice a14 n15 c16)] g4 fun v17 h18=>yB v17 fun b19=>Q (.bool b19) h18) (Q (.bool false) g4)):FW SS 53 [(.agg ⟨xv⟩),(.agg ⟨yv⟩)] h Q:=cE IR Tryz.func53 (aj hx)
section
section
variable {h:Heap} {l l':List MArc} {a:Option Addr} {n c:Nat} {b:Option Addr} {m d:Nat}
theorem E7 (w:Wf h)(r:ArcRow h (.slice a n c) l)(r':ArcRow h (.slice b m d) l')(hl:l.length<=100000):FW SS 54 [.slice a n c,.slice b m d] h (Fh h (II l l')):=by
 have hn:=r.len;have hm:=r'.len;refine Fw a n c b m d h _ (ae (fun q=> ?_) (fun q=> ?_))
 ·refine ⟨?_,Ok.refl w⟩;rw [eN];intro e;subst e;rw [hn,hm] at q;simp at q
 ·have hnm:n=m:=by
   have:(n:Int)=m:=by simpa using q
   omega
  refine pc a n c b m d (fun mz i g=>i<=l.length/\mz=l.length - i/\Ok h g/\l.take i=l'.take i) _ (fun mz i=> ?_) l.length (i:=0) ⟨zero_le _,rfl,Ok.refl w,by simp⟩;intros; rename_i g hin;obtain ⟨f1,rfl,ok,hp⟩:=hin;refine ae (fun q=> ?_) (fun q=> ?_)
  ·have q:=dT q;have oR:=(Ok.refl ok.wf).room 9;have okR:=ok.trans oR;obtain ⟨p1,hp1⟩: ∃ p,l[i]?=some p:=⟨_,gE (by omega)⟩
   obtain ⟨p2,hp2⟩: ∃ p,l'[i]?=some p:=⟨_,gE (by omega)⟩
   obtain ⟨b1,o1,d1,d2,_⟩:=(r.ok okR).at_ hp1;obtain ⟨b2,o2,e1,e2,_⟩:=(r'.ok okR).at_ hp2;refine ⟨_,d1,_,d2,_,e1,_,e2,_,KF _ _,ae (fun q2=> ?_) (fun q2=> ?_)⟩
   ·have hne:p1≠p2:=fun e=>by rw [jf e] at q2; cases q2
    refine ⟨?_,okR⟩;rw [eN];intro e;rw [e,hp2] at hp1;exact hne (oI hp1).symm
   ·have hne:p1=p2:=Classical.byContradiction fun e=>by rw [eN e] at q2; cases q2
    rw [aH (n:=l.length) (by omega) (by omega)];refine cA (l.length - (i+1)) (by omega) ⟨by omega,rfl,okR,?_⟩;rw [take_add_one,take_add_one,hp1,hp2,hp,hne]
  ·have q:=dF q;rw [take_of_length_le (by omega),take_of_length_le (by omega)] at hp;exact ⟨by rw [jf hp],ok⟩
end
end
theorem KC (f:List UInt8)(x:Option Addr)(y z:Nat):dY SS.P 37 (.agg ⟨[aa f,.slice x y z]⟩)=some (.cells [aa f,.slice x y z] 37 0 true,gb):=by cases x <;> kernel_rfl
theorem HU {h:Heap}{s s':MSt}{x x':Option Addr}{y z y' z':Nat}(w:Wf h)(r:ArcRow h (.slice x y z) s.arcs)(r':ArcRow h (.slice x' y' z') s'.arcs)(hl:s.arcs.length<=100000):FW SS 53 [.agg ⟨[aa s.f,.slice x y z]⟩,.agg ⟨[aa s'.f,.slice x' y' z']⟩] h (Fh h (II s s')):=by
 have o1:=(Ok.refl w).push (.cells [aa s.f,.slice x y z] 37 0 true);have k1:SB (h.push (.cells [aa s.f,.slice x y z] 37 0 true)) h.next s.f x y z:=ay h _;refine IF [aa s.f,.slice x y z] [aa s'.f,.slice x' y' z'] h _ ⟨_,KC ..,_,KC ..,?_⟩;generalize h.push (.cells [aa s.f,.slice x y z] 37 0 true)=g1 at *;have o2:=(Ok.refl o1.wf).push (.cells [aa s'.f,.slice x' y' z'] 37 0 true);have k2:SB (g1.push (.cells [aa s'.f,.slice x' y' z'] 37 0 true)) g1.next s'.f x' y' z':=ay g1 _;have k12:=k1.ok o2;have ok:=o1.trans o2;generalize g1.push (.cells [aa s'.f,.slice x' y' z'] 37 0 true)=g2 at *;refine ⟨_,iG _ _,_,k12.l0,_,iG _ _,_,k2.l0,ae (fun q=> ?_) (fun q=> ?_)⟩
 ·have q:s.f=s'.f:=by simpa using q
  refine ⟨_,bW _ _,_,_,_,k12.l1,_,bW _ _,_,_,_,k2.l1,(E7 ok.wf (r.ok ok) (r'.ok ok) hl).mono ?_⟩;rintro v h' ⟨rfl,o3⟩;refine ⟨_,rfl,?_,ok.trans o3⟩;congr 1;by_cases e:s.arcs=s'.arcs
  ·have:s=s':=by cases s; cases s'; simp_all
   rw [jf e,jf this]
  ·rw [eN e,eN fun e'=>e (by rw [e'])]
 ·have q:s.f≠s'.f:=by simpa using q
  exact ⟨by rw [eN fun e=>q (by rw [e])],ok⟩
noncomputable def jO:FD:=cB Tryz.f52 [([1,1,0,1,0,0],[0,1,2,15,16,17])]
abbrev fK (a:OA)(n c:Nat)(b:OA)(m d:Nat)(i:Nat):LV:=[(.slice a n c),(.slice b m d),(.func (.func 53) ⟨[]⟩ ⟨[]⟩),(.slice a n c),(iA n),(iA i)]
theorem GB (a:OA)(n c:Nat)(b:OA)(m d:Nat)(h:Heap)(Q:VH)(hx:aB ((((n:Int):Int) != (m:Int))) (Q (.bool false) h) (LL SS jO [1,1,0,1,0,0] (fK a n c b m d 0) h (KK SS jO [1,1,0,1,0] [] (EE SS jO Q)))):FW SS 52 [(.slice a n c),(.slice b m d),(.func (.func 53) ⟨[]⟩ ⟨[]⟩)] h Q:=cE jO Tryz.func52 (aj hx)
theorem pG (a:OA)(n c:Nat)(b:OA)(m d:Nat)  (Inv:Nat->Nat->Heap->Prop) (Q:VH) (step: ∀ (mz:Nat)(i:Nat)(zz:Nat->Value)(h:Heap),Inv mz i h->aB (decide (((i:Int):Int) < (n:Int))) (xP (ag SS.P 22 (.slice a n c) (iA i)) fun p1=>xA (ah SS.P 37 h (.pointer (some p1))) fun c2=>xN (aD SS.P 37) h fun B3 g4=>xU (ai SS.P 37 (pA (h.next)) (.agg ⟨c2⟩) g4) g4 fun u5 g6=>xP (ag SS.P 22 (.slice b m d) (iA i)) fun p7=>xA (ah SS.P 37 g6 (.pointer (some p7))) fun c8=>xN (aD SS.P 37) g6 fun B9 g10=>xU (ai SS.P 37 (pA (g6.next)) (.agg ⟨c8⟩) g10) g10 fun u11 g12=>xA (ah SS.P 37 g12 (pA (h.next))) fun c13=>xA (ah SS.P 37 g12 (pA (g6.next))) fun c14=>FW SS 53 [(.agg ⟨c13⟩),(.agg ⟨c14⟩)] g12 fun v15 h16=>yB v15 fun b17=>aB (!b17) (Q (.bool false) h16) (aF (gM (fK a n c b m d) Inv) mz [(.slice a n c),(.slice b m d),(.func (.func 53) ⟨[]⟩ ⟨[]⟩),(.slice a n c),(iA n),(.int .i64 (wrap .i64 ((i:Int)+1)))] h16)) (Q (.bool true) h)) (mz:Nat) {i:Nat} {h:Heap} (hi:Inv mz i h):LL SS jO [1,1,0,1,0,0] (fK a n c b m d i) h (KK SS jO [1,1,0,1,0] [] (EE SS jO Q)):=
 cQ (fK a n c b m d) Inv (fun mz i zz h hi=>aj (step mz i zz h hi)) mz hi
noncomputable def J0:FD:=cB Tryz.f30 []
theorem GP (mv nv:LV)(h:Heap)(Q:VH)(hx:xN (dY SS.P 24 (.agg ⟨mv⟩)) h fun B1 g2=>xN (dY SS.P 24 (.agg ⟨nv⟩)) g2 fun B3 g4=>xP (af SS.P 24 (pA (h.next)) 0) fun p5=>xI .i64 (ah SS.P 3 g4 (.pointer (some p5))) fun n6=>xP (af SS.P 24 (pA (g2.next)) 0) fun p7=>xI .i64 (ah SS.P 3 g4 (.pointer (some p7))) fun n8=>aB (((n6:Int) == n8)) (xP (af SS.P 24 (pA (h.next)) 1) fun p9=>xI .i64 (ah SS.P 3 g4 (.pointer (some p9))) fun n10=>xP (af SS.P 24 (pA (g2.next)) 1) fun p11=>xI .i64 (ah SS.P 3 g4 (.pointer (some p11))) fun n12=>aB (((n10:Int) == n12)) (xP (af SS.P 24 (pA (h.next)) 2) fun p13=>xS (ah SS.P 9 g4 (.pointer (some p13))) fun l14=>xP (af SS.P 24 (pA (g2.next)) 2) fun p15=>xS (ah SS.P 9 g4 (.pointer (some p15))) fun l16=>aB ((l14:LB) == l16) (xP (af SS.P 24 (pA (h.next)) 3) fun p17=>xL (ah SS.P 22 g4 (.pointer (some p17))) fun a18 n19 c20=>xP (af SS.P 24 (pA (g2.next)) 3) fun p21=>xL (ah SS.P 22 g4 (.pointer (some p21))) fun a22 n23 c24=>FW SS 52 [(.slice a18 n19 c20),(.slice a22 n23 c24),(.func (.func 53) ⟨[]⟩ ⟨[]⟩)] g4 fun v25 h26=>yB v25 fun b27=>Q (.bool b27) h26) (Q (.bool false) g4)) (Q (.bool false) g4)) (Q (.bool false) g4)):FW SS 30 [(.agg ⟨mv⟩),(.agg ⟨nv⟩)] h Q:=cE J0 Tryz.func30 (aj hx)
section
section
variable {h:Heap} {l l':List MSt} {a:Option Addr} {n c:Nat} {b:Option Addr} {m d:Nat}
theorem Gr (w:Wf h)(r:StRow h (.slice a n c) l)(r':StRow h (.slice b m d) l')(hl:l.length<=100000)(hA: ∀ s∈l,s.arcs.length<=100000):FW SS 52 [.slice a n c,.slice b m d,.func (.func 53) ⟨[]⟩ ⟨[]⟩] h (Fh h (II l l')):=by
 have hn:=r.len;have hm:=r'.len;refine GB a n c b m d h _ (ae (fun q=> ?_) (fun q=> ?_))
 ·refine ⟨?_,Ok.refl w⟩;rw [eN];intro e;subst e;rw [hn,hm] at q;simp at q
 ·have hnm:n=m:=by
   have:(n:Int)=m:=by simpa using q
   omega
  refine pG a n c b m d (fun mz i g=>i<=l.length/\mz=l.length - i/\Ok h g/\l.take i=l'.take i) _ (fun mz i=> ?_) l.length (i:=0) ⟨zero_le _,rfl,Ok.refl w,by simp⟩;intros; rename_i g hin;obtain ⟨f1,rfl,ok,hp⟩:=hin;refine ae (fun q=> ?_) (fun q=> ?_)
  ·have q:=dT q;obtain ⟨s1,hs1⟩: ∃ p,l[i]?=some p:=⟨_,gE (by omega)⟩
   obtain ⟨s2,hs2⟩: ∃ p,l'[i]?=some p:=⟨_,gE (by omega)⟩
   obtain ⟨b1,o1,x,y,z,d1,d2,_,_,ar⟩:=r.at2 ok hs1;obtain ⟨u,p1,p2,p3⟩:=pe ok.wf s1.f x y z;refine ⟨_,d1,_,d2,_,rJ,u,p1,?_⟩;have okA:=ok.trans p2;generalize u.app (g.push uh)=gA at *;obtain ⟨b2,o2,x',y',z',e1,e2,_,_,ar'⟩:=r'.at2 okA hs2;obtain ⟨u2,t1,t2,t3⟩:=pe p2.wf s2.f x' y' z';refine ⟨_,e1,_,e2,_,rJ,u2,t1,?_⟩;have okB:=okA.trans t2;have p3B:=p3.ok t2;generalize u2.app (gA.push uh)=gB at *;refine ⟨_,p3B.all,_,t3.all,(HU okB.wf (ar.ok okB) (ar'.ok okB) (hA _ (List.mem_of_getElem? hs1))).mono ?_⟩;rintro v h' ⟨rfl,o5⟩;have okE:=okB.trans o5;refine ⟨_,rfl,ae (fun q2=> ?_) (fun q2=> ?_)⟩
   ·have hne:s1≠s2:=fun e=>by rw [jf e] at q2; cases q2
    refine ⟨?_,okE⟩;rw [eN];intro e;rw [e,hs2] at hs1;exact hne (oI hs1).symm
   ·have hne:s1=s2:=Classical.byContradiction fun e=>by rw [eN e] at q2; cases q2
    rw [aH (n:=l.length) (by omega) (by omega)];refine cA (l.length - (i+1)) (by omega) ⟨by omega,rfl,okE,?_⟩;rw [take_add_one,take_add_one,hs1,hs2,hp,hne]
  ·have q:=dF q;rw [take_of_length_le (by omega),take_of_length_le (by omega)] at hp;exact ⟨by rw [jf hp],ok⟩
theorem yh {A B:Mach}(w:Wf h)(r:StRow h (.slice a n c) A.states)(r':StRow h (.slice b m d) B.states)(hl:A.states.length<=100000)(hA: ∀ s∈A.states,s.arcs.length<=100000):FW SS 30 [.agg ⟨aQ A a n c⟩,.agg ⟨aQ B b m d⟩] h (Fh h (II A B)):=by
 obtain ⟨mb0,ok0⟩:=ef w r;refine GP (aQ A a n c) (aQ B b m d) h _ ⟨_,gi A a n c,_,gi B b m d,?_⟩;generalize h.push (Bm A a n c)=g0 at *;obtain ⟨mc,ok1⟩:=ef ok0.wf (r'.ok ok0);have ma:=mb0.ok ok1;have ok:=ok0.trans ok1;generalize g0.push (Bm B b m d)=g1 at *;refine ⟨_,gJ _,_,ma.l0,_,gJ _,_,mc.l0,ae (fun q1=> ?_) (fun q1=> ?_)⟩
 ·have q1:A.kind=B.kind:=by simpa using q1
  refine ⟨_,gx _,_,ma.l1,_,gx _,_,mc.l1,ae (fun q2=> ?_) (fun q2=> ?_)⟩
  ·have q2:A.start=B.start:=by simpa using q2
   refine ⟨_,jM _,_,ma.l2,_,jM _,_,mc.l2,ae (fun q3=> ?_) (fun q3=> ?_)⟩
   ·have q3:A.lead=B.lead:=by simpa using q3
    refine ⟨_,bA _,_,_,_,ma.l3,_,bA _,_,_,_,mc.l3,(Gr ok.wf ma.row mc.row hl hA).mono ?_⟩;rintro v h' ⟨rfl,o3⟩;refine ⟨_,rfl,?_,ok.trans o3⟩;congr 1;by_cases e:A.states=B.states
    ·rw [jf e,jf (C1 q1 q2 q3 e)]
    ·rw [eN e,eN fun e'=>e (by rw [e'])]
   ·have q3:A.lead≠B.lead:=by simpa using q3
    exact ⟨by rw [eN fun e=>q3 (by rw [e])],ok⟩
  ·have q2:A.start≠B.start:=by simpa using q2
   exact ⟨by rw [eN fun e=>q2 (by rw [e])],ok⟩
 ·have q1:A.kind≠B.kind:=by simpa using q1
  exact ⟨by rw [eN fun e=>q1 (by rw [e])],ok⟩
end
end
noncomputable def K6:FD:=cB Tryz.f31 []
theorem JU  (h:Heap) (Q:VH) (hx:xN (aD SS.P 24) h fun B1 g2=>xA (aC SS.P 37 []) fun c3=>xA (aC SS.P 39 [(0,(.int .i64 2)),(1,(.int .i64 2)),(2,(aa [49])),(3,(.int .i64 2))]) fun c4=>xA (aC SS.P 39 [(0,(.int .i64 1)),(1,(.int .i64 1)),(2,(aa [48])),(3,(.int .i64 2))]) fun c5=>xA (aC SS.P 39 [(0,(.int .i64 1)),(1,(.int .i64 1)),(2,(aa [48])),(3,(.int .i64 0))]) fun c6=>xR (an SS.P 35 3 [(0,(.agg ⟨c4⟩)),(1,(.agg ⟨c5⟩)),(2,(.agg ⟨c6⟩))]) g2 fun B7 n8 c9 g10=>xA (aC SS.P 37 [(1,(sA (g2.next) n8 c9))]) fun c11=>xA (aC SS.P 37 [(0,(aa [51]))]) fun c12=>xR (an SS.P 22 3 [(0,(.agg ⟨c3⟩)),(1,(.agg ⟨c11⟩)),(2,(.agg ⟨c12⟩))]) g10 fun B13 n14 c15 g16=>xA (aC SS.P 24 [(0,(.int .i64 1)),(1,(.int .i64 1)),(2,(aa [50])),(3,(sA (g10.next) n14 c15))]) fun c17=>xU (ai SS.P 24 (pA (h.next)) (.agg ⟨c17⟩) g16) g16 fun u18 g19=>dH SS [((pA (h.next)),some 24)] g19 Q):FW SS 31 [] h Q:=cE K6 Tryz.func31 (aj hx)
noncomputable def LN:FD:=cB Tryz.f9 []
theorem IS  (h:Heap) (Q:VH) (hx:FW SS 31 [] h fun v1 h2=>yA v1 fun c3=>FW SS 23 [(.agg ⟨c3⟩)] h2 fun v4 h5=> ∃ cs6:LV,∃ n7:Int,v4=(.tuple ⟨[(.agg ⟨cs6⟩),(.int .i64 n7)]⟩)/\xN (aD SS.P 24) h5 fun B8 g9=>xU (ai SS.P 24 (pA (h5.next)) (.agg ⟨cs6⟩) g9) g9 fun u10 g11=>FW SS 27 [(.int .i64 3)] g11 fun v12 h13=> ∃ cs14:LV,∃ n15:Int,v12=(.tuple ⟨[(.agg ⟨cs14⟩),(.int .i64 n15)]⟩)/\xN (aD SS.P 24) h13 fun B16 g17=>xU (ai SS.P 24 (pA (h13.next)) (.agg ⟨cs14⟩) g17) g17 fun u18 g19=>xA (aC SS.P 39 [(0,(.int .i64 2)),(1,(.int .i64 2)),(2,(aa [49])),(3,(.int .i64 1))]) fun c20=>xA (aC SS.P 39 [(0,(.int .i64 1)),(1,(.int .i64 1)),(2,(aa [48])),(3,(.int .i64 1))]) fun c21=>xR (an SS.P 35 2 [(0,(.agg ⟨c20⟩)),(1,(.agg ⟨c21⟩))]) g19 fun B22 n23 c24 g25=>xA (aC SS.P 37 [(1,(sA (g19.next) n23 c24))]) fun c26=>xA (aC SS.P 37 [(0,(aa [51]))]) fun c27=>xR (an SS.P 22 2 [(0,(.agg ⟨c26⟩)),(1,(.agg ⟨c27⟩))]) g25 fun B28 n29 c30 g31=>xA (aC SS.P 24 [(0,(.int .i64 1)),(2,(aa [50])),(3,(sA (g25.next) n29 c30))]) fun c32=>xN (aD SS.P 24) g31 fun B33 g34=>xU (ai SS.P 24 (pA (g31.next)) (.agg ⟨c32⟩) g34) g34 fun u35 g36=>aB (((n7:Int) == 0)) (aB (((n15:Int) == 0)) (xA (ah SS.P 24 g36 (pA (h5.next))) fun c37=>xA (ah SS.P 24 g36 (pA (g31.next))) fun c38=>FW SS 29 [(.agg ⟨c37⟩),(.agg ⟨c38⟩)] g36 fun v39 h40=>yB v39 fun b41=>aB b41 (xP (af SS.P 24 (pA (h13.next)) 2) fun p42=>xS (ah SS.P 9 h40 (.pointer (some p42))) fun l43=>aB ((l43:LB) == [49]) (xP (af SS.P 24 (pA (h13.next)) 3) fun p44=>xL (ah SS.P 22 h40 (.pointer (some p44))) fun a45 n46 c47=>aB ((((n46:Int):Int) == 1)) (xA (ah SS.P 24 h40 (pA (g31.next))) fun c48=>FW SS 10 [(.agg ⟨c48⟩)] h40 fun v49 h50=>yB v49 fun b51=>aB b51 (xA (ah SS.P 24 h50 (pA (g31.next))) fun c52=>xA (ah SS.P 24 h50 (pA (g31.next))) fun c53=>FW SS 30 [(.agg ⟨c52⟩),(.agg ⟨c53⟩)] h50 fun v54 h55=>yB v54 fun b56=>aB b56 (xA (ah SS.P 24 h55 (pA (g31.next))) fun c57=>FW SS 16 [(.agg ⟨c57⟩)] h55 fun v58 h59=>yB v58 fun b60=>aB b60 (xA (ah SS.P 24 h59 (pA (g31.next))) fun c61=>FW SS 20 [(.agg ⟨c61⟩)] h59 fun v62 h63=>yI .i64 v62 fun n64=>Q (.bool (((n64:Int) == 2))) h63) (Q (.bool false) h59)) (Q (.bool false) h55)) (Q (.bool false) h50)) (Q (.bool false) h40)) (Q (.bool false) h40)) (Q (.bool false) h40)) (Q (.bool false) g36)) (Q (.bool false) g36)):FW SS 9 [] h Q:=cE LN Tryz.func9 (aj hx)
def EX:Mach:=⟨1,1,[50],[⟨[],[]⟩,⟨[],[⟨2,2,[49],2⟩,⟨1,1,[48],2⟩,⟨1,1,[48],0⟩]⟩,⟨[51],[]⟩]⟩
def WN:Mach:=⟨1,0,[50],[⟨[],[⟨2,2,[49],1⟩,⟨1,1,[48],1⟩]⟩,⟨[51],[]⟩]⟩
theorem ON:aN EX=true:=by decide +kernel
theorem OQ:aN WN=true:=by decide +kernel
theorem OU:tP WN=true:=by decide +kernel
theorem OT:tC WN=2:=by decide +kernel
theorem NO:Small EX:=⟨by decide +kernel,by decide +kernel,by decide +kernel,by decide +kernel,by decide +kernel,by decide +kernel⟩
theorem wnSm:Small WN:=⟨by decide +kernel,by decide +kernel,by decide +kernel,by decide +kernel,by decide +kernel,by decide +kernel⟩
theorem KL (x:Nat):bD EX x↔x=1\/x=2:=by
 have r1:Num.Rch (bn EX) (fun y=>y=EX.start.toNat) 1:= .base rfl;have e12:bn EX 1 2:=⟨_,rfl,by decide⟩
 have f2:iC EX 2:=⟨_,rfl,by decide⟩
 constructor
 ·rintro ⟨h1,h2⟩;have key: ∀ y,Num.Rch (fun y x=>bn EX x y) (iC EX) y->y=1\/y=2:=fun y hy=>by
   induction hy with
   | @base y hf=>
    obtain ⟨s,hs,hne⟩:=hf
    match y,hs with
    | 0,hs=>obtain rfl:=oI hs; exact absurd rfl hne
    | 1,hs=>exact .inl rfl
    | 2,hs=>exact .inr rfl
    | y+3,hs=>cases hs
   | @step y x _ e _=>
    obtain ⟨s,hs,hm⟩:=e
    match x,hs with
    | 0,hs=>obtain rfl:=oI hs; cases hm
    | 1,hs=>exact .inl rfl
    | 2,hs=>exact .inr rfl
    | x+3,hs=>cases hs
  exact key x h2
 ·rintro (rfl | rfl)
  ·exact ⟨r1,.step (.base f2) e12⟩
  ·exact ⟨.step r1 e12,.base f2⟩
theorem OK:iV EX=[1,2]:=by
 rw [<-Do (M:=EX) (L:=[false,true,true]) (N:=3) rfl fun x hx=> ?_]
 ·rfl
 ·rw [KL]
  match x,hx with
  | 0,_=>simp
  | 1,_=>simp
  | 2,_=>simp
theorem xe:bF EX=(WN,0):=by
 rw [f7 ON ((KL _).2 (.inl rfl)),OK]; rfl
theorem Dd {hb g:Heap}{ps:List (MSt×Value)}{ka ks:Nat}{j:Nat}{arcs:List MArc}{f:List UInt8}(hk:g.get ks=some (.cells (ps.map fg).flatten 37 2 true))(h0:hb.next<=ks)(hl:ps.length < 100)(hj:ps[j]?=some (⟨f,arcs⟩,sA ka arcs.length arcs.length))(ho: ∀ (i:Nat) (p:MSt×Value),ps[i]?=some p->i≠j->p.2=nA/\p.1.arcs=[])(ka0:g.get ka=some (.cells (arcs.map aO).flatten 39 4 true))(h1:hb.next<=ka)(ne:ka≠ks)(hla:arcs.length < 100):OwnM hb g (sA ks ps.length ps.length) ps:=by
 have om:=OwnK.made (h0:=hb) hk C8 h0 (by rw [lM]; exact Nat.lt_trans hl (by decide));rw [lM] at om;have oa:=OwnK.made (h0:=hb) ka0 Gz h1 (by rw [lM]; exact Nat.lt_trans hla (by decide));rw [lM] at oa;have bl: ∀ (i:Nat)(p:MSt×Value),ps[i]?=some p-> ∀ k,aK p.2=some k->i=j/\k=ka:=fun i p hp k e=>by
  by_cases h:i=j
  ·subst h;rw [hj] at hp;obtain rfl:=oI hp;exact ⟨rfl,(oI e).symm⟩
  ·rw [(ho i p hp h).1] at e; cases e
 refine ⟨om,fun i p hp=> ?_,fun i p hp k e=> ?_,fun i i' p q hne hp hq k e e'=>hne ((bl i p hp k e).1.trans (bl i' q hq k e').1.symm)⟩
 ·by_cases h:i=j
  ·subst h;rw [hj] at hp;obtain rfl:=oI hp;exact oa
  ·obtain ⟨h2,h3⟩:=ho i p hp h;rw [h2,h3];exact OwnK.nil ..
 ·obtain ⟨_,rfl⟩:=bl i p hp k e;intro e2;exact ne (oI e2).symm
theorem oA {h g:Heap}{M:Mach}{a:Option Addr}{n c:Nat}{ps:List (MSt×Value)}(hps:ps.map (·.1)=M.states)(om:OwnM h g (.slice a n c) ps)(ok:Ok h g):
  ∃ u:Upd,ai SS.P 24 (pA g.next) (.agg ⟨aQ M a n c⟩) (g.push jp)=some (undef,u)/\Ok g (u.app (g.push jp))/\MB (u.app (g.push jp)) g.next M a n c/\OwnM h (u.app (g.push jp)) (.slice a n c) ps:=by
 have o1:=(Ok.refl ok.wf).push jp;have k1:=ay g jp;have pa:=cL (t:=24) gK (cs0:=[.int .i64 0,.int .i64 0,aa [],.slice none 0 0]) rfl k1 (cs:=aQ M a n c) rfl (fy ..);obtain ⟨o2,k2⟩:=dG (cs:=aQ M a n c) ok.wf o1 k1 (le_refl _);refine ⟨_,pa,o2,⟨k2,?_⟩,om.ok o2⟩;have:=(om.ok o2).st;rwa [hps] at this
theorem Ly:aC SS.P 37 []=some (.agg ⟨[aa [],nA]⟩):=by kernel_rfl
theorem yz (q:MArc):aC SS.P 39 [(0,(.int .i64 q.i)),(1,(.int .i64 q.o)),(2,(aa q.w)),(3,(.int .i64 q.t))]=some (.agg ⟨aO q⟩):=by kernel_rfl
theorem HV (k n c:Nat):aC SS.P 37 [(1,(sA k n c))]=some (.agg ⟨[aa [],sA k n c]⟩):=by kernel_rfl
def eA:List MArc:=[⟨2,2,[49],2⟩,⟨1,1,[48],2⟩,⟨1,1,[48],0⟩]
def eP (k:Nat):List (MSt×Value):=[(⟨[],[]⟩,nA),(⟨[],eA⟩,sA k 3 3),(⟨[51],[]⟩,nA)]
theorem O0:an SS.P 35 3 [(0,(.agg ⟨aO ⟨2,2,[49],2⟩⟩)),(1,(.agg ⟨aO ⟨1,1,[48],2⟩⟩)),(2,(.agg ⟨aO ⟨1,1,[48],0⟩⟩))]=some (.cells (eA.map aO).flatten 39 4 true,gH 3 3):=by kernel_rfl
theorem OZ (k:Nat):an SS.P 22 3 [(0,(.agg ⟨[aa [],nA]⟩)),(1,(.agg ⟨[aa [],sA k 3 3]⟩)),(2,(.agg ⟨[aa [51],nA]⟩))]=some (.cells ((eP k).map fg).flatten 37 2 true,gH 3 3):=by kernel_rfl
theorem GJ:aC SS.P 37 [(0,(aa [51]))]=some (.agg ⟨[aa [51],nA]⟩):=by kernel_rfl
theorem Jn {h:Heap}(w:Wf h):FW SS 31 [] h (Lv h EX):=by
 refine JU h _ ⟨_,qY,_,Ly,_,yz ⟨2,2,[49],2⟩,_,yz ⟨1,1,[48],2⟩,_,yz ⟨1,1,[48],0⟩,_,_,_,O0,?_⟩;have o1:=(Ok.refl w).push jp;have k1:=ay h jp;have hn1:(h.push jp).next=h.next+1:=rfl;generalize h.push jp=g1 at *;have o2:=(Ok.refl o1.wf).push (.cells (eA.map aO).flatten 39 4 true);have k2:=ay g1 (.cells (eA.map aO).flatten 39 4 true);have hn2:(g1.push (.cells (eA.map aO).flatten 39 4 true)).next=g1.next+1:=rfl;refine ⟨_,HV g1.next 3 3,_,GJ,_,_,_,OZ g1.next,?_⟩;generalize g1.push (.cells (eA.map aO).flatten 39 4 true)=g2 at *;have o3:=(Ok.refl o2.wf).push (.cells ((eP g1.next).map fg).flatten 37 2 true);have k3:=ay g2 (.cells ((eP g1.next).map fg).flatten 37 2 true);have k13:=o3.ext _ _ (o2.ext _ _ k1);have k23:=o3.ext _ _ k2;have ok:=(o1.trans o2).trans o3;generalize g2.push (.cells ((eP g1.next).map fg).flatten 37 2 true)=g3 at *;have om:OwnM h g3 (sA g2.next 3 3) (eP g1.next):=Dd (ps:=eP g1.next) (j:=1) k3 (by omega) (show 3 < 100 by decide) rfl (fun i p hp hne=>by
  match i,hp with
  | 0,hp=>obtain rfl:=oI hp; exact ⟨rfl,rfl⟩
  | 1,_=>exact absurd rfl hne
  | 2,hp=>obtain rfl:=oI hp; exact ⟨rfl,rfl⟩
  | i+3,hp=>cases hp) k23 (by omega) (by omega) (show 3 < 100 by decide)
 have pa:=cL (t:=24) gK (cs0:=[.int .i64 0,.int .i64 0,aa [],.slice none 0 0]) rfl k13 (cs:=aQ EX (some ⟨g2.next,0,none⟩) 3 3) rfl (fy ..);obtain ⟨o4,k4⟩:=dG (cs:=aQ EX (some ⟨g2.next,0,none⟩) 3 3) w ok k13 (le_refl _);refine ⟨_,G3 1 1 [50] _ _ _,_,pa,tw (v:= .agg ⟨aQ EX (some ⟨g2.next,0,none⟩) 3 3⟩) (gj BO Cg gK k4 (by simp [aQ])) ⟨_,_,_,eP g1.next,rfl,rfl,?_,o4⟩⟩;have ge:=om.row;exact ⟨om.row.keep fun j B hj hB=>(by
  obtain rfl:=oI hj;show (g3.set h.next _).get _=_;rw [Heap.get_set,if_neg (show ¬ g2.next=h.next by omega)]; exact hB),fun i p hp=>(om.arcs i p hp).keep fun j B hj hB=>(by
  show (g3.set h.next _).get _=_;rw [Heap.get_set,if_neg (fun e=> ?_)]
  ·exact hB
  ·match i,hp with
   | 0,hp=>obtain rfl:=oI hp; cases hj
   | 1,hp=>
    obtain rfl:=oI hp;have e2:g1.next=j:=oI hj;omega
   | 2,hp=>obtain rfl:=oI hp; cases hj
   | i+3,hp=>cases hp),om.ne,om.dis⟩
def wA:List MArc:=[⟨2,2,[49],1⟩,⟨1,1,[48],1⟩]
def wP (k:Nat):List (MSt×Value):=[(⟨[],wA⟩,sA k 2 2),(⟨[51],[]⟩,nA)]
theorem Oe:an SS.P 35 2 [(0,(.agg ⟨aO ⟨2,2,[49],1⟩⟩)),(1,(.agg ⟨aO ⟨1,1,[48],1⟩⟩))]=some (.cells (wA.map aO).flatten 39 4 true,gH 2 2):=by kernel_rfl
theorem NN (k:Nat):an SS.P 22 2 [(0,(.agg ⟨[aa [],sA k 2 2]⟩)),(1,(.agg ⟨[aa [51],nA]⟩))]=some (.cells ((wP k).map fg).flatten 37 2 true,gH 2 2):=by kernel_rfl
theorem xy {h:Heap}(tb:Tab h)(w:Wf h):FW SS 9 [] h (fun v h'=>v = .bool true/\Ok h h'):=by
 refine IS h _ ((Jn w).mono ?_);rintro _ g1 ⟨a,n,c,ps,rfl,hps,om,o1⟩;have st1:=om.st;rw [hps] at st1;refine ⟨_,rfl,(ya (tb.ok o1) o1.wf NO st1).mono ?_⟩;rw [xe];rintro _ g2 ⟨a2,n2,c2,ps2,rfl,e2,om2,o2⟩;obtain ⟨u1,s1,p1,b1,om1⟩:=oA e2 om2 o2;refine ⟨_,_,rfl,_,qY,u1,s1,?_⟩;have ok3:=(o1.trans o2).trans p1;generalize hg3:u1.app (g2.push jp)=g3 at *;generalize hk3:g2.next=k3 at *;refine (qp 3 ok3.wf).mono ?_;rintro _ g4 ⟨a4,n4,c4,ps4,rfl,e4,om4,o4⟩;obtain ⟨u2,s2,p2,b2,om42⟩:=oA e4 om4 o4;refine ⟨_,_,rfl,_,qY,u2,s2,_,yz ⟨2,2,[49],1⟩,_,yz ⟨1,1,[48],1⟩,_,_,_,Oe,_,HV _ 2 2,_,GJ,_,_,_,NN _,_,Gc 1 [50] _ _ _,_,qY,?_⟩;have ok5:=(ok3.trans o4).trans p2;have x5:=o4.trans p2;have b15:=b1.ok x5;have om15:=om1.ok x5;generalize u2.app (g4.push jp)=g5 at *;have o6:=(Ok.refl ok5.wf).push (.cells (wA.map aO).flatten 39 4 true);have k6:=ay g5 (.cells (wA.map aO).flatten 39 4 true);have hn6:(g5.push (.cells (wA.map aO).flatten 39 4 true)).next=g5.next+1:=rfl;generalize g5.push (.cells (wA.map aO).flatten 39 4 true)=g6 at *;have o7:=(Ok.refl o6.wf).push (.cells ((wP g5.next).map fg).flatten 37 2 true);have k7:=ay g6 (.cells ((wP g5.next).map fg).flatten 37 2 true);have k67:=o7.ext _ _ k6;have ok7:=o6.trans o7;generalize g6.push (.cells ((wP g5.next).map fg).flatten 37 2 true)=g7 at *;have om3:OwnM g5 g7 (sA g6.next 2 2) (wP g5.next):=Dd (ps:=wP g5.next) (j:=0) k7 (by omega) (show 2 < 100 by decide) rfl (fun i p hp hne=>by
  match i,hp with
  | 0,_=>exact absurd rfl hne
  | 1,hp=>obtain rfl:=oI hp; exact ⟨rfl,rfl⟩
  | i+2,hp=>cases hp) k67 (le_refl _) (by omega) (show 2 < 100 by decide)
 obtain ⟨u3,s3,p3,b3,om33⟩:=oA (M:=WN) (ps:=wP g5.next) rfl om3 ok7;refine ⟨u3,s3,?_⟩;have x8:=ok7.trans p3;have ok8:=ok5.trans x8;have b18:=b15.ok x8;have b28:=b2.ok x8;generalize u3.app (g7.push jp)=g8 at *;refine ae (fun _=> ?_) (fun q=>by cases q);refine ae (fun _=> ?_) (fun q=>by cases q);have wz: ∀ s∈WN.states,s.arcs.length<=100000:=fun s hs=>le_trans (wnSm.arcs s hs) (by decide);refine ⟨_,b18.all,_,b3.all,(GR (A:=WN) (B:=WN) ok8.wf (by decide) wz b18.row om33 rfl).mono ?_⟩;rintro _ g9 ⟨rfl,o9⟩;rw [jf rfl];refine ⟨_,rfl,ae (fun _=> ?_) (fun q=>by cases q)⟩;have ok9:=ok8.trans o9;have b29:=b28.ok o9;have b39:=b3.ok o9;refine ⟨_,jM _,_,b29.l2,ae (fun _=> ?_) (fun q=>by cases q)⟩;have hn4:n4=1:=b29.len;refine ⟨_,bA _,_,_,_,b29.l3,ae (fun _=> ?_) (fun q=>by rw [hn4] at q; cases q)⟩;refine ⟨_,b39.all,(lR (tb.ok ok9) ok9.wf wnSm b39.row).mono ?_⟩;rw [OQ];rintro _ g10 ⟨rfl,o10⟩;have ok10:=ok9.trans o10;have b310:=b39.ok o10;refine ⟨_,rfl,ae (fun _=> ?_) (fun q=>by cases q)⟩;refine ⟨_,b310.all,_,b310.all,(yh (A:=WN) (B:=WN) ok10.wf b310.row b310.row (by decide) wz).mono ?_⟩;rw [jf rfl];rintro _ g11 ⟨rfl,o11⟩;have ok11:=ok10.trans o11;have b311:=b310.ok o11;refine ⟨_,rfl,ae (fun _=> ?_) (fun q=>by cases q)⟩;refine ⟨_,b311.all,(CM (tb.ok ok11) ok11.wf wnSm b311.row).mono ?_⟩;rw [OU];rintro _ g12 ⟨rfl,o12⟩;have ok12:=ok11.trans o12;have b312:=b311.ok o12;refine ⟨_,rfl,ae (fun _=> ?_) (fun q=>by cases q)⟩;refine ⟨_,b312.all,(DA (tb.ok ok12) ok12.wf wnSm b312.row).mono ?_⟩;rw [OT];rintro _ g13 ⟨rfl,o13⟩;exact ⟨_,rfl,rfl,ok12.trans o13⟩
end Go.Proofs.YtoabjjimjldcfaaGreatDoor
end
section
namespace Go.Ab
open Go Go.RowKit
section
variable {β:Inj} {P:Program} {h:Heap} {w:World}
theorem w9 {α:Type}{sz:Nat}: ∀ {rs:List (List α)},(∀ r∈rs,r.length=sz)-> ∀ {i:Nat}{r:List α},rs[i]?=some r-> ∀ {j:Nat},j < sz->rs.flatten[i*sz+j]?=r[j]?
 | [],_,i,r,hi,_,_=>by simp at hi
 | x::rs,hl,0,r,hi,j,hj=>by
  have hx:=hl x (mem_cons_self ..);simp only [List.getElem?_cons_zero,Option.some.injEq] at hi;subst hi;rw [flatten_cons,Nat.zero_mul,zero_add,List.getElem?_append_left (by omega)]
 | x::rs,hl,i+1,r,hi,j,hj=>by
  have hx:=hl x (mem_cons_self ..);rw [List.getElem?_cons_succ] at hi;have ih:=w9 (fun r hr=>hl r (mem_cons_of_mem _ hr)) hi hj;rw [flatten_cons,List.getElem?_append_right (by rw [add_mul]; omega),hx,<-ih];congr 1;rw [add_mul]; omega
theorem sq {α:Type}{sz:Nat}: ∀ {rs:List (List α)},(∀ r∈rs,r.length=sz)->rs.flatten.length=rs.length*sz
 | [],_=>by simp
 | x::rs,hl=>by
  have hx:=hl x (mem_cons_self ..);rw [flatten_cons,length_append,sq fun r hr=>hl r (mem_cons_of_mem _ hr),hx,List.length_cons,add_mul]; omega
theorem FJ {α:Type}{sz:Nat}{rs:List (List α)}(hl: ∀ r∈rs,r.length=sz){i:Nat}{r:List α}(hi:rs[i]?=some r):(rs.flatten.drop (i*sz)).take sz=r:=by
 have hr:=hl r (List.mem_of_getElem? hi);refine List.ext_getElem? fun j=> ?_;rw [getElem?_take];split
 ·next hj=>rw [List.getElem?_drop]; exact w9 hl hi hj
 ·next hj=>rw [getElem?_eq_none (by omega)]
structure Ini (β:Inj)(h:Heap)(w:World):Prop where
 sim:Sim β h w
 ro: ∀ k B,h.get k=some B->B.wr=false
theorem On (n:Nat)(w:World):Ini β0 ⟨n,.nil⟩ w:=⟨wJ n w,fun k B h=>by rw [Heap.get_nil] at h; cases h⟩
theorem Ini.wf (i:Ini β h w):Wf h:=i.sim.wf
theorem Ini.below (i:Ini β h w){β':Inj}{h':Heap}{w':World}(s:Step β h w β' h' w'):Below w.heap.size w w':=
 ⟨s.os,s.tape.1,s.output,s.size,fun k hk=>s.kept k hk fun ⟨k,B,sl,h1,h2,_⟩=>by rw [i.ro k B h1] at h2; cases h2⟩
abbrev wd (b n:Nat)(t:TypeId):Slot:=⟨b,0,n,t,0,false⟩
theorem Ini.fresh (i:Ini β h w):β h.next=none:=i.sim.none_of_ge (le_refl _)
theorem Ini.le (i:Ini β h w)(sl:Slot):β.le (β.ext h.next sl):=Inj.le_ext sl i.fresh
theorem Ini.push (i:Ini β h w){cs:List Value}{t:TypeId}{cs':Array Value}{fr:Nat×Nat}{b:Nat}(hb:w.heap[b]?=some (.cells cs' t fr))(hc:CellsAt β cs 0 cs'):
  Ini (β.ext h.next (wd b cs'.size t)) (h.push (.cells cs t 0 false)) w:=by
 have hle:=i.le (wd b cs'.size t);have hlt:b < w.heap.size:=(Array.getElem?_eq_some_iff.1 hb).1;have hro: ∀ k B,(h.push (.cells cs t 0 false)).get k=some B->B.wr=false:=fun k B hk=>by
  rw [Heap.get_push] at hk;split at hk
  ·obtain rfl:=oI hk; rfl
  ·exact i.ro k B hk
 refine ⟨⟨fun k sl hk=> ?_,fun k B sl h1 h2=> ?_,fun k k' B B' sl sl' _ h1 _ _ _ hw=> ?_,Heap.wf_push i.sim.wf _⟩,hro⟩
 ·by_cases e:k=h.next
  ·subst e;rw [Inj.ext_same] at hk;obtain rfl:=oI hk;exact ⟨by simp,hlt⟩
  ·rw [Inj.ext_ne _ _ e] at hk;have:=i.sim.lt k sl hk;exact ⟨by simp; omega,this.2⟩
 ·rw [Heap.get_push] at h1;split at h1
  ·next e=>
   subst e;rw [Inj.ext_same] at h2;obtain rfl:=oI h2;obtain rfl:=oI h1;exact ⟨rfl,rfl,⟨rfl,fun _=>rfl⟩,cs',fr,hb,rfl,hc.mono hle,fun hw=>by cases hw⟩
  ·next e=>
   rw [Inj.ext_ne _ _ e] at h2;exact (i.sim.blk k B sl h1 h2).mono hle
 ·rw [hro k B h1] at hw; cases hw
theorem yg (ht:TextOk P){pr:FuncId->Option mA}{gl:Nat->Bool}(hl:j9 P gl pr){f:FuncId}{fn:Func}{args:List Value}{Q:Value->Heap->Prop}(hfw:FW ⟨P,gl,pr⟩ f args h Q)(hY:f < YB)(hf:P.funcs[f]?=some fn)(hb:fn.body.isSome=true)
  {args':Array Value} (i:Ini β h w) (hg:Gl gl β) (ha:LRel β args args'.toList):
  Calls P f args' w fun e w'=> ∃ v v' h' β',e = .returned v'/\Q v h'/\VRel β' v v'/\Step β h w β' h' w'/\Below w.heap.size w w':=by
 obtain ⟨v,h',⟨n,hr⟩,hq⟩:=hfw;obtain ⟨fn',hfn,hc⟩:=(ht.runP hl n).fn f args h v h' hY (hr n (le_refl _)) β w args' i.sim hg ha;rw [hf] at hfn;obtain rfl:=oI hfn;rcases hc with ⟨_,hc⟩ | ⟨v',w',β',h1,_,_⟩
 ·refine hc.mono ?_;rintro e w' ⟨v',β',rfl,h2,h3⟩;exact ⟨v,v',h',β',rfl,hq,h3,h2,i.below h2⟩
 ·rw [cK ht.names hf hb] at h1
  cases h1
theorem wL (ht:TextOk P){f:FuncId}{fn:Func}{args:List Value}{Q:Value->Heap->Prop}(hfw:FW ⟨P,wN,fun _=>none⟩ f args ⟨0,.nil⟩ Q)(hY:f < YB)(hf:P.funcs[f]?=some fn)(hb:fn.body.isSome=true){args':Array Value}(ha:LRel β0 args args'.toList)(w:World):
  Calls P f args' w fun e w'=> ∃ v v' h' β',e = .returned v'/\Q v h'/\VRel β' v v'/\Below w.heap.size w w'/\w.drawn<=w'.drawn:=by
 obtain ⟨v,h',⟨n,hr⟩,hq⟩:=hfw;obtain ⟨fn',hfn,hc⟩:=(ht.runP (gl:=wN) (pr:=fun _=>none) (fun _ _ h=>by cases h) n).fn f args _ v h' hY (hr n (le_refl _)) β0 w args' (wJ 0 w) gl_nil ha;rw [hf] at hfn;obtain rfl:=oI hfn;rcases hc with ⟨_,hc⟩ | ⟨v',w',β',h1,_,_⟩
 ·refine hc.mono ?_;rintro e w' ⟨v',β',rfl,h2,h3⟩;exact ⟨v,v',h',β',rfl,hq,h3,na h2,h2.tape.2⟩
 ·rw [cK ht.names hf hb] at h1
  cases h1
def vp (w:World)(v:Value)(sz:Nat)(rs:List (List Value)):Prop:=
 (∀ r∈rs,r.length=sz)/\((v = .slice none 0 0/\rs=[])\/(∃ a,v = .slice (some a) 0 0/\rs=[])\/
  ∃ b off cap cs t fr,v = .slice (some ⟨b,off,none⟩) rs.length cap/\rs.length<=cap/\cap < bj/\w.heap[b]?=some (.cells cs t fr)/\off<=cs.size/\
   ∀ (i:Nat)(r:List Value),rs[i]?=some r-> ∀ j,j < sz->cs[off+(i*sz+j)]?=r[j]?)
theorem Ini.row_at (i:Ini β h w){sz:Nat}{e:TypeId}{rs rs':List (List Value)}{b off cap:Nat}{cs:Array Value}{t:TypeId}{fr:Nat×Nat}(hsz: ∀ r∈rs',r.length=sz)(hlen:rs.length=rs'.length)
  (hrel: ∀ (k:Nat) r r',rs[k]?=some r->rs'[k]?=some r'->LRel β r r') (h2:rs'.length<=cap) (h3:cap < bj) (hb:w.heap[b]?=some (.cells cs t fr)) (ho:off<=cs.size)
  (hc: ∀ (i:Nat)(r:List Value),rs'[i]?=some r-> ∀ j,j < sz->cs[off+(i*sz+j)]?=r[j]?):
  ∃ β' h',Ini β' h' w/\β.le β'/\Ok h h'/\VRel β' (.slice (some ⟨h.next,off,none⟩) rs.length cap) (.slice (some ⟨b,off,none⟩) rs'.length cap)/\RdN h' e sz (.slice (some ⟨h.next,off,none⟩) rs.length cap) rs:=by
 have hsz': ∀ r∈rs,r.length=sz:=fun r hr=>by
  obtain ⟨k,hk,rfl⟩:=List.getElem_of_mem hr;have h1:rs'[k]?=some rs'[k]:=gE (by omega);rw [(hrel k _ _ (gE hk) h1).1];exact hsz _ (List.mem_of_getElem? h1)
 have hcells:CellsAt β (List.replicate off junk++rs.flatten) 0 cs:=fun k v hv=>by
  rw [zero_add];rw [List.getElem?_append] at hv;split at hv
  ·next hk=>
   rw [length_replicate] at hk;rw [List.getElem?_replicate,if_pos hk] at hv;obtain rfl:=oI hv;exact ⟨_,Array.getElem?_eq_getElem (by omega),.junk _⟩
  ·next hk=>
   rw [length_replicate] at hk hv;have hlt:=(List.getElem?_eq_some_iff.1 hv).1;rw [sq hsz'] at hlt;rcases eq_zero_or_pos sz with hz | hz
   ·subst hz; simp at hlt
   have e1:k - off=(k - off) / sz*sz+(k - off) % sz:=by rw [Nat.mul_comm]; exact (Nat.div_add_mod _ _).symm
   have hj:=mod_lt (k - off) hz;have hi:(k - off) / sz < rs.length:=Nat.div_lt_of_lt_mul (by rw [Nat.mul_comm]; exact hlt);have g1:rs[(k - off) / sz]?=some rs[(k - off) / sz]:=gE hi;have g2:rs'[(k - off) / sz]?=some rs'[(k - off) / sz]:=gE (by omega);rw [e1,w9 hsz' g1 hj] at hv;have hr:=hrel _ _ _ g1 g2;have hl':=hsz _ (List.mem_of_getElem? g2);have g3:rs'[(k - off) / sz][(k - off) % sz]?=some rs'[(k - off) / sz][(k - off) % sz]:=gE (by omega);refine ⟨_,?_,hr.2 _ _ _ hv g3⟩;rw [<-g3,<-hc _ _ g2 _ hj,<-e1];congr 1;omega
 refine ⟨_,_,i.push hb hcells,i.le _,(Ok.refl i.wf).push _,?_,hsz',.inr ⟨h.next,off,_,t,0,cap,false,rfl,Heap.get_push_same _ _,?_,fun k r hk=> ?_⟩⟩
 ·have:=VRel.slice (β:=β.ext h.next (wd b cs.size t)) (i:=off) (n:=rs.length) (c:=cap) (i':=off) (c':=cap) (Inj.ext_same _ _ _) rfl (fun _=>rfl) (fun h=>by omega) (by unfold aI; split <;> omega) (.inl (by simp)) (.inl rfl);rw [<-hlen];exact this
 ·rw [length_append,length_replicate,sq hsz']; omega
 ·rw [drop_append,length_replicate,drop_eq_nil_of_le (by simp),nil_append,Nat.add_sub_cancel_left];exact FJ hsz' hk
theorem Ini.row (i:Ini β h w){sz:Nat}{e:TypeId}{v':Value}{rs rs':List (List Value)}(r:vp w v' sz rs')(hlen:rs.length=rs'.length)(hrel: ∀ (k:Nat) r r',rs[k]?=some r->rs'[k]?=some r'->LRel β r r'):
  ∃ β' h' v,Ini β' h' w/\β.le β'/\Ok h h'/\VRel β' v v'/\RdN h' e sz v rs:=by
 obtain ⟨hsz,⟨rfl,rfl⟩ | ⟨a,rfl,rfl⟩ | ⟨b,off,cap,cs,t,fr,rfl,h2,h3,hb,ho,hc⟩⟩:=r
 ·obtain rfl:rs=[]:=eq_nil_of_length_eq_zero hlen;exact ⟨β,h,_,i,β.le_refl,Ok.refl i.wf,.nilSlice,⟨fun _ hm=>absurd hm (by simp),.inl ⟨.inl rfl,rfl⟩⟩⟩
 ·obtain rfl:rs=[]:=eq_nil_of_length_eq_zero hlen;exact ⟨β,h,kN,i,β.le_refl,Ok.refl i.wf,.dead a,⟨fun _ hm=>absurd hm (by simp),.inl ⟨.inr rfl,rfl⟩⟩⟩
 ·obtain ⟨β',h',h4,h5,h6,h7,h8⟩:=i.row_at (e:=e) hsz hlen hrel h2 h3 hb ho hc;exact ⟨β',h',_,h4,h5,h6,h7,h8⟩
theorem Ini.row_live (i:Ini β h w){sz:Nat}{e:TypeId}{v':Value}{rs rs':List (List Value)}(r:vp w v' sz rs')(hlen:rs.length=rs'.length)(hrel: ∀ (k:Nat) r r',rs[k]?=some r->rs'[k]?=some r'->LRel β r r')
  (hd: ∀ a,v' = .slice (some a) 0 0->a.spot=none/\ ∃ cs t fr,w.heap[a.block]?=some (.cells cs t fr)):
  ∃ β' h' v,Ini β' h' w/\β.le β'/\Ok h h'/\VRel β' v v'/\RdN h' e sz v rs/\v≠kN:=by
 obtain ⟨hsz,⟨rfl,rfl⟩ | ⟨a,rfl,rfl⟩ | ⟨b,off,cap,cs,t,fr,rfl,h2,h3,hb,ho,hc⟩⟩:=r
 ·obtain rfl:rs=[]:=eq_nil_of_length_eq_zero hlen;exact ⟨β,h,_,i,β.le_refl,Ok.refl i.wf,.nilSlice,⟨fun _ hm=>absurd hm (by simp),.inl ⟨.inl rfl,rfl⟩⟩,fun e=>by cases e⟩
 ·obtain rfl:rs=[]:=eq_nil_of_length_eq_zero hlen;obtain ⟨hs,cs,t,fr,hb⟩:=hd a rfl;obtain ⟨b,off,spot⟩:=a
  cases (show spot=none from hs)
  have i':=i.push (cs:=[]) hb (fun k v hv=>by simp at hv);refine ⟨_,_,.slice (some ⟨h.next,0,none⟩) 0 0,i',i.le _,(Ok.refl i.wf).push _,?_,⟨fun _ hm=>absurd hm (by simp),.inr ⟨h.next,0,_,t,0,0,false,rfl,Heap.get_push_same _ _,by simp,fun k r hk=>by simp at hk⟩⟩,fun e=>by simp [kN] at e⟩;exact VRel.slice (sl:=wd b cs.size t) (Inj.ext_same _ _ _) rfl (fun _=>rfl) (fun h=>by unfold bj at h; omega) (by unfold aI; split <;> omega) (.inr ⟨rfl,rfl⟩) (.inl rfl)
 ·obtain ⟨β',h',h4,h5,h6,h7,h8⟩:=i.row_at (e:=e) hsz hlen hrel h2 h3 hb ho hc;exact ⟨β',h',_,h4,h5,h6,h7,h8,fun e=>by simp [kN] at e⟩
section
variable {H:Type} {enc:TypeId×Value->H} {held:Bool}
theorem Gk {a:Addr}{v:Value}(hv:w.cell? a=some v):a.spot=none/\ ∃ cs t fr,w.heap[a.block]?=some (.cells cs t fr)/\cs[a.off]?=some v:=by
 unfold World.cell? at hv;split at hv
 ·next c t fr hb=>
  split at hv
  ·cases hv
  ·next hs=>exact ⟨by simpa using hs,c,t,fr,hb,hv⟩
 ·cases hv
theorem pick {α:Type}{p:Nat->α->Prop}: ∀ n,(∀ i,i < n-> ∃ q,p i q)-> ∃ l:List α,l.length=n/\ ∀ i q,l[i]?=some q->p i q
 | 0,_=>⟨[],rfl,fun i q hi=>by simp at hi⟩
 | n+1,hp=>by
  obtain ⟨l,hl,hq⟩:=pick n fun i hi=>hp i (by omega);obtain ⟨q,hq'⟩:=hp n (by omega);refine ⟨l++[q],by simp [hl],fun i x hi=> ?_⟩;rw [List.getElem?_append] at hi;split at hi
  ·exact hq i x hi
  ·next hn=>
   have:i=n:=by
    have:=(List.getElem?_eq_some_iff.1 hi).1;simp at this; omega
   subst this;simp [hl] at hi;rw [<-hi]; exact hq'
theorem lK {e:TypeId}{d:DataW H}{n:Nat}: ∀ {l:List (DataW H)},d∈l->n∈d.weights P e->n∈DataW.weightsAll P e l
 | [],h,_=>by cases h
 | x::l,h,hn=>by
  rw [DataW.weightsAll,mem_append];rcases mem_cons.1 h with rfl | h
  ·exact .inl hn
  ·exact .inr (lK h hn)
theorem vx {t e:TypeId}{sz:Nat}(ht:P.underlying t=some (.slice e))(hsz:P.cellsOf e=sz)(hpos:0 < sz){p:List Value->Prop}
  (hp: ∀ n cs y,DataW.trod enc P w 0 (fun _=>true) held n e cs=some y->(y.1.weights P e).all (· <=reachBytes)=true->p cs) {fuel:Nat} {cv:List Value} {x:DataW H×List MemPlace}
  (h:DataW.trod enc P w 0 (fun _=>true) held fuel t cv=some x) (hw:(x.1.weights P t).all (· <=reachBytes)=true):
  ∃ v rs,cv=[v]/\vp w v sz rs/\(∀ r∈rs,p r)/\rs.length*P.bytesOf e<=reachBytes:=by
 rcases DataW.trod_slice ht h with ⟨rfl,rfl⟩ | ⟨a,len,cap,elems,rest,n,_,rfl,rfl,hb,hlc,hcm,hel,hE,hR,_⟩
 ·exact ⟨_,[],rfl,⟨fun _ hm=>absurd hm (by simp),.inl ⟨rfl,rfl⟩⟩,fun _ hm=>absurd hm (by simp),by simp⟩
 obtain ⟨hrl,hR⟩:=hR rfl;simp only [DataW.weights,ht,List.all_cons,and_eq_true,decide_eq_true_eq,List.all_append,lM] at hw;obtain ⟨hw1,hw2,hw3⟩:=hw;have hcap:cap < bj:=by unfold maxLen at hcm; unfold bj; omega
 have key: ∀ i,i < len-> ∃ r:List Value,(r.length=sz/\p r)/\ ∀ j,j < sz->w.cell? (a.add (i*sz+j))=r[j]?:=fun i hi=>by
  have h1:=hE i hi;have h2:elems[i]?=some elems[i]:=gE (by omega);rw [h2,hsz,Option.bind_eq_some_iff] at h1;obtain ⟨r,h3,h4⟩:=h1;obtain ⟨_,h5,h6⟩:=World.cells?_some h3;refine ⟨r,⟨h5,hp n r _ h4 ?_⟩,fun j hj=> ?_⟩
  ·rw [all_eq_true] at hw2 ⊢;exact fun m hm=>hw2 m (lK (mem_map.2 ⟨elems[i],List.mem_of_getElem? h2,rfl⟩) hm)
  ·rw [<-h6 j hj,Addr.add_add]
 obtain ⟨rs,hrs,hq⟩:=pick len key;have hq': ∀ r∈rs,r.length=sz/\p r:=fun r hr=>by
  obtain ⟨k,hk⟩:=List.mem_iff_getElem?.1 hr;exact (hq k r hk).1
 refine ⟨_,rs,rfl,⟨fun r hr=>(hq' r hr).1,?_⟩,fun r hr=>(hq' r hr).2,?_⟩
 ·rcases eq_zero_or_pos cap with hz | hz
  ·obtain rfl:rs=[]:=eq_nil_of_length_eq_zero (by omega);have:len=0:=by omega
   subst this; subst hz;exact .inr (.inl ⟨a,rfl,rfl⟩)
  ·have h0: ∃ v,w.cell? a=some v:=by
    have add0:a.add (0*sz)=a:=by rw [Nat.zero_mul]; unfold Addr.add; split <;> simp_all
    have fin: ∀ x,(w.cells? 0 (a.add (0*sz)) sz).bind (DataW.trod enc P w 0 (fun _=>true) held n e)=some x-> ∃ v,w.cell? a=some v:=fun x hx=>by
     rw [Option.bind_eq_some_iff,add0] at hx;obtain ⟨r,h3,h4⟩:=hx;obtain ⟨_,h5,h6⟩:=World.cells?_some h3;have:=h6 0 hpos;rw [show a.add 0=a by unfold Addr.add; split <;> simp_all,gE (by omega)] at this;exact ⟨_,this⟩
    rcases eq_zero_or_pos len with hl | hl
    ·have:=hR 0 (by omega);rw [hl,hsz,gE (by omega)] at this;exact fin _ this
    ·have:=hE 0 hl;rw [hsz,gE (by omega)] at this;exact fin _ this
   obtain ⟨v0,hv0⟩:=h0;obtain ⟨hs,cs,tt,fr,hbk,hoff⟩:=Gk hv0;obtain ⟨b,off,spot⟩:=a
   cases (show spot=none from hs)
   have ho:=(Array.getElem?_eq_some_iff.1 hoff).1;refine .inr (.inr ⟨b,off,cap,cs,tt,fr,by rw [hrs],by omega,hcap,hbk,Nat.le_of_lt ho,fun i r hi j hj=> ?_⟩);have:=(hq i r hi).2 j hj;rw [bu,gQ hbk] at this;exact this
 ·rw [hrs];refine le_trans (Nat.mul_le_mul_right _ ?_) hw1;omega
end
end
end Go.Ab
end
section
set_option linter.unusedVariables false
namespace Go.Ab
open Go Go.RowKit Go.Proofs Go.Sort Go.Shelf
section
variable {β:Inj} {P:Program} {gl:Nat->Bool}
theorem xr {k:Nat}: ∀ {l:List (List Value)},(∀ r∈l,r.length=k)-> ∀ j,j < l.length*k->l.flatten[j]?=(l[j / k]?).bind (·[j % k]?)
 | [],_,j,h=>by simp at h
 | r::l,hl,j,h=>by
  have hr:=hl r (mem_cons_self ..);rw [List.length_cons,add_mul,one_mul] at h;rw [flatten_cons];by_cases hj:j < k
  ·rw [List.getElem?_append_left (by omega),Nat.div_eq_of_lt hj,Nat.mod_eq_of_lt hj]; rfl
  ·have hk:0 < k:=by
    rcases eq_zero_or_pos k with h0 | h0
    ·subst h0; omega
    ·exact h0
   rw [List.getElem?_append_right (by omega),hr,xr (fun x hx=>hl x (mem_cons_of_mem _ hx)) (j - k) (by omega)];obtain ⟨m,rfl⟩: ∃ m,j=m+k:=⟨j - k,by omega⟩
   rw [Nat.add_sub_cancel,Nat.add_div_right _ hk,Nat.add_mod_right]; rfl
section
variable {α:Type} [Inhabited α] {enc:α->List Value} {k:Nat}
theorem me (hk: ∀ x,(enc x).length=k)(l:List α)(j:Nat)(hj:j < l.length*k):(l.map enc).flatten[j]?=some (flatK enc k l.toArray)[j]! :=by
 have k0:0 < k:=by
  rcases eq_zero_or_pos k with h0 | h0
  ·subst h0; simp at hj
  ·exact h0
 have hd:j / k < l.length:=Nat.div_lt_of_lt_mul (by rw [Nat.mul_comm]; exact hj);have hm:=mod_lt j k0;rw [xr (fun r hr=>by obtain ⟨x,_,rfl⟩:=mem_map.1 hr; exact hk x) j (by rw [lM]; exact hj),get_flatK _ _ _ _ (by simpa using hj),getElem?_map,gE hd];simp only [map_some,Option.bind_some];rw [getElem!_pos l.toArray (j / k) (by simpa using hd)];have he:j % k < (enc l[j / k]).length:=by rw [hk]; exact hm
 rw [gE he];simp only [List.getElem_toArray];exact congrArg some (getElem!_pos (enc l[j / k]) (j % k) he).symm
omit [Inhabited α] in
theorem H4 (hk: ∀ x,(enc x).length=k): ∀ l:List α,(l.map enc).flatten.length=l.length*k
 | []=>by simp
 | x::l=>by rw [List.map_cons,flatten_cons,length_append,H4 hk l,hk,List.length_cons,add_mul,one_mul,Nat.add_comm]
theorem DB (hk: ∀ x,(enc x).length=k)(hb: ∀ x,(enc x).all np=true){w:World}{b s:Nat}{cs':Array Value}{t:TypeId}{fr:Nat×Nat}{cs:List Value}{off:Nat}{l:List α}(hw:w.heap[b]?=some (.cells cs' t fr))(hc:CellsAt β cs s cs')(hf:H1 fr cs'.size)(ho:off+l.length*k<=cs.length)(hl:(cs.drop off).take (l.length*k)=(l.map enc).flatten):HoldsK enc k w b (s+off) l.toArray:=by
 intro j hj;have hj:j < l.length*k:=by simpa using hj
 have h1:=me hk l j hj;rw [<-hl,getElem?_take,if_pos hj,List.getElem?_drop] at h1;obtain ⟨v',h2,h3⟩:=hc _ _ h1;have hbare:np (flatK enc k l.toArray)[j]! = true:=by
  have h4:=me hk l j hj;have hm:=List.mem_of_getElem? h4;obtain ⟨r,hr,hm⟩:=List.mem_flatten.1 hm;obtain ⟨x,_,rfl⟩:=mem_map.1 hr;exact all_eq_true.1 (hb x) _ hm
 rw [h3.bare_eq hbare] at h2;rw [show s+(off+j)=s+off+j by omega] at h2;refine ⟨by rw [gQ hw]; exact h2,?_⟩;have hlt:s+off+j < cs'.size:=(Array.getElem?_eq_some_iff.1 h2).1;unfold World.frozen?;rw [hw];dsimp only;obtain ⟨lo,hi⟩:=fr;rw [Bool.and_eq_false_iff];by_cases h5:lo<=s+off+j
 ·right;have: ¬ s+off+j < hi:=fun h6=>by
   have:=hf (s+off+j) h5 h6;omega
  simpa using this
 ·left; simpa using h5
theorem AD {cf:α->α->Int}{g:Nat}(hcmp: ∀ x y w,Calls P g #[.agg (enc x).toArray,.agg (enc y).toArray] w fun e w'=>e = .returned (.int .i64 (cf x y))/\Below w.heap.size w w'/\w.drawn<=w'.drawn)(blk off size:Nat)(w:World):CmpLays P g #[] enc k cf blk off size w:=by
 intro m os dk _ x y;refine (hcmp x y _).mono ?_;rintro e w' ⟨rfl,hb,hd⟩;refine ⟨rfl,w'.drawn - (sortWorldK enc k w blk off m dk os).drawn,w'.heap.extract (sortWorldK enc k w blk off m dk os).heap.size w'.heap.size,?_⟩;generalize sortWorldK enc k w blk off m dk os=W at *;have hh:W.heap++w'.heap.extract W.heap.size w'.heap.size=w'.heap:=by
  have h1:=hb.size;refine Array.ext_getElem? fun i=> ?_;rw [Array.getElem?_append];split
  ·next hi=>exact (hb.block i hi).symm
  ·next hi=>
   rw [Array.getElem?_extract];split
   ·congr 1; omega
   ·rw [Array.getElem?_eq_none (by omega)]
 obtain ⟨h0,t0,d0,o0,u0⟩:=w';have e1:=hb.os;have e2:=hb.tape;have e3:=hb.output;dsimp only at e1 e2 e3 hd hh;subst e1; subst e2; subst e3;unfold grow World.drewN;dsimp only;rw [hh];congr 1;omega
end
theorem Dv {n c:Nat}{a:Option Addr}{v:Value}(h:VRel β (.slice a n c) v): ∃ a' c',v = .slice a' n c':=by
 cases h with
 | nilSlice=>exact ⟨_,_,rfl⟩
 | slice=>exact ⟨_,_,rfl⟩
 | dead=>exact ⟨_,_,rfl⟩
theorem F3 {g:Nat}{v:Value}(h:VRel β (.func (.func g) ⟨[]⟩ ⟨[]⟩) v):v = .func (.func g) #[] #[]:=by
 cases h with
 | func hy ha hc=>
  next a c=>
  obtain rfl:=Array.eq_empty_of_size_eq_zero ha.symm;obtain rfl:=Array.eq_empty_of_size_eq_zero hc.symm;rfl
set_option maxHeartbeats 1000000 in
theorem IV {α:Type}[Inhabited α]{ρ:Ren}(L:SlLaysF0.n6 P ρ){k g:Nat}(k0:0 < k)(aE: ∀ w,(Go.isAgg (ρ.t 24)).run P w = .ok true w)(zE: ∀ w,(Go.sizeOf (ρ.t 24)).run P w = .ok k w){enc:α->List Value}(hk: ∀ x,(enc x).length=k)(h1: ∀ x,∀ v∈enc x,v.oneCell'=true)(hb: ∀ x,(enc x).all np=true){cf:α->α->Int}(hO:SWO (ltOf cf))(hT: ∀ x y,(ltOf cf) x y=false->(ltOf cf) y x=false->x=y)
  (eg: ∀ args w,(callFunc g args).run P w = .ok (.enter g args) w) (hcmp: ∀ x y w,Calls P g #[.agg (enc x).toArray,.agg (enc y).toArray] w fun e w'=>e = .returned (.int .i64 (cf x y))/\Below w.heap.size w w'/\w.drawn<=w'.drawn)
  {srt:List Value->Option (List Value)} (hs: ∀ cs cs',srt cs=some cs'-> ∃ l:List α,cs=(l.map enc).flatten/\cs'=((l.mergeSort fun x y=> !(ltOf cf) y x).map enc).flatten) {f6:Func} (hf6:P.funcs[ρ.f 6]?=some f6) (hb6:f6.body.isSome=true):iS P gl (ρ.f 6) (xD g k srt):=by
 intro cf' _ args h v h' hp β w args' hsim _ ha;refine ⟨f6,hf6,.inl ⟨hb6,?_⟩⟩;unfold xD at hp;split at hp
 ·next a n c g'=>
  split at hp
  ·next hg=>
   subst hg;obtain ⟨v1,r1,e1,hv1,ha1⟩:=ha.inv_cons;obtain ⟨v2,r2,e2,hv2,ha2⟩:=ha1.inv_cons;have e3:=ha2.inv_nil;subst e2; subst e3;have hargs:args' = #[v1,v2]:=by
    have:=congrArg List.toArray e1;simpa using this
   subst hargs;obtain rfl:=F3 hv2;split at hp
   ·next hn=>
    subst hn;simp only [Option.some.injEq,Prod.mk.injEq] at hp;obtain ⟨rfl,rfl⟩:=hp;obtain ⟨a',c',rfl⟩:=Dv hv1;refine (AnyF.slices_SortFunc_none L a' c' _ w).mono ?_;rintro e w' ⟨rfl,rfl⟩;exact ⟨_,β,rfl,Step.refl hsim,.tuple rfl fun i v v' h=>by simp at h⟩
   ·next hn=>
    split at hp
    ·next b off=>
     split at hp
     ·next cs t sz hblk=>
      split at hp
      ·next hlim=>
       obtain ⟨cs',hsrt,he⟩:=map_eq_some_iff.1 hp;simp only [Prod.mk.injEq] at he;obtain ⟨rfl,rfl⟩:=he;obtain ⟨l,hl,rfl⟩:=hs _ _ hsrt;obtain ⟨sl,i',c',hβ,hm,_,rfl,hx1,ho1,hn1,hi1,hz1⟩:=hv1.inv_slice;have hi1:i'=sl.s+off:=by
        rcases hi1 with h | ⟨h,_⟩
        ·exact h
        ·exact absurd h hn
       subst hi1;obtain ⟨hm,ht,hsz,csW,fr,hw,hnW,hcW,hfW⟩:=hsim.row hblk hβ;obtain ⟨hm,ht,hz,csW,fr,hw,hnW,hcW,hfW⟩:=hsim.blk _ _ _ hblk hβ;have hlen:((cs.drop off).take (n*k)).length=n*k:=by rw [length_take,length_drop]; omega
       have hn':l.length=n:=by
        rw [hl,H4 hk] at hlen;exact Nat.eq_of_mul_eq_mul_right k0 hlen
       subst hn';have H:=DB (β:=β) hk hb hw hcW (hfW rfl) hlim.2 hl;refine (AnyQ.slices_SortFunc_total L k aE zE enc hk h1 cf hO g' #[] sl.b (sl.s+off) c' l.toArray w eg (AD hcmp _ _ _ _) H (hsim.lt _ _ hβ).2 hlim.1 hT).mono ?_;rintro e w' ⟨rfl,m,os,rfl⟩;have hml:(l.mergeSort fun x y=> !(ltOf cf) y x).length=l.length:=List.length_mergeSort l;have e0:l.toArray.toList=l:=rfl;rw [e0];generalize (l.mergeSort fun x y=> !(ltOf cf) y x)=l' at *;have hoff:off<=cs.length:=by omega
       have hcsz: ∀ i v,cs[i]?=some v-> ∃ v',csW[sl.s+i]?=some v'/\VRel β v v':=hcW;have st1:Step β h w β (h.set b (.cells (cs.take off++(l'.map enc).flatten++cs.drop (off+l.length*k)) t sz true)) (putRowK enc k (Sort.ahead w m) sl.b (sl.s+off) l'.toArray):=by
        refine Step.at_ hsim hblk hβ rfl ⟨by simp [putRowK],rfl,⟨rfl,le_add_right _ _⟩,rfl,fun b' hb'=> ?_⟩ ⟨hm,ht,hz,putCells id (sl.s+off) (flatK enc k l'.toArray) csW,fr,?_,by simp [putCells,hnW],fun i v hv=> ?_,fun _=>by simpa [putCells] using hfW rfl⟩
        ·simp only [putRowK,putRow,mapBlock,Array.getElem?_modify];rw [if_neg (Ne.symm hb')]; rfl
        ·simp only [putRowK,putRow,mapBlock,Array.getElem?_modify,if_true,heap_ahead,hw,map_some,onCells]
        ·have hpc: ∀ j,(putCells id (sl.s+off) (flatK enc k l'.toArray) csW)[j]?=(csW[j]?).map fun x=>if sl.s+off<=j/\j < sl.s+off+l.length*k then (flatK enc k l'.toArray)[j - (sl.s+off)]! else x:=fun j=>by
          simp only [putCells,Array.getElem?_mapIdx,size_flatK,List.size_toArray,hml,id]
         rw [hpc];have hf:(l'.map enc).flatten.length=l.length*k:=by rw [H4 hk,hml]
         have ht1:(cs.take off).length=off:=by rw [length_take]; omega
         rw [append_assoc,List.getElem?_append,ht1] at hv;split at hv
         ·next hi=>
          rw [getElem?_take,if_pos hi] at hv;obtain ⟨v',g1,g2⟩:=hcsz i v hv;rw [g1];exact ⟨v',by simp only [map_some]; rw [if_neg (by omega)],g2⟩
         ·next hi=>
          rw [List.getElem?_append,hf] at hv;split at hv
          ·next hi2=>
           have g0:i < cs.length:=by omega
           obtain ⟨v',g1,g2⟩:=hcsz i _ (gE g0);rw [g1];simp only [map_some];rw [if_pos (by omega)];rw [me hk l' (i - off) (by rw [hml]; exact hi2)] at hv;obtain rfl:=oI hv;refine ⟨_,rfl,?_⟩;rw [show sl.s+i - (sl.s+off)=i - off by omega];refine .of_bare ?_;have hm:=List.mem_of_getElem? (me hk l' (i - off) (by rw [hml]; exact hi2));obtain ⟨r,hr,hm⟩:=List.mem_flatten.1 hm;obtain ⟨x,_,rfl⟩:=mem_map.1 hr;exact all_eq_true.1 (hb x) _ hm
          ·next hi2=>
           rw [List.getElem?_drop,show off+l.length*k+(i - off - l.length*k)=i by omega] at hv;obtain ⟨v',g1,g2⟩:=hcsz i v hv;rw [g1];exact ⟨v',by simp only [map_some]; rw [if_neg (by omega)],g2⟩
       refine ⟨_,β,rfl,st1.trans (nf st1.sim ⟨rfl,rfl,rfl,by rw [show (sortWorldK enc k w sl.b (sl.s+off) m l'.toArray os)=grow (putRowK enc k (Sort.ahead w m) sl.b (sl.s+off) l'.toArray) os from rfl,size_grow]; exact le_add_right _ _,fun j hj=>heap_grow_old _ os hj⟩ (le_refl _)),.tuple rfl fun i v v' h=>by simp at h⟩
      ·cases hp
     ·cases hp
    ·cases hp
  ·cases hp
 ·cases hp
end
end Go.Ab
end
section
set_option linter.unusedVariables false
namespace Go.Ab
open Go Go.Sort Go.Proofs
instance:Inhabited MArc:=⟨q0⟩
theorem Lt (x y:MArc):ltOf ur x y=jF x y:=by
 unfold ltOf;by_cases h:jF x y=true
 ·rw [h]; exact decide_eq_true ((yJ x y).2 h)
 ·rw [Bool.not_eq_true] at h;rw [h];exact decide_eq_false fun h2=>by
   have:=(yJ x y).1 h2;rw [h] at this; cases this
theorem Oq:SWO (ltOf ur) where
 irrefl x:=by rw [Lt]; exact eq_false_iff.2 (tH x)
 trans x y z h1 h2:=by rw [Lt] at *; exact nz h1 h2
 ntrans x y z h1 h2:=by
  rw [Lt] at *;exact eq_false_iff.2 (qa (p:=z) (q:=y) (r:=x) (eq_false_iff.1 h2) (eq_false_iff.1 h1))
theorem NQ (x y:MArc)(h1:ltOf ur x y=false)(h2:ltOf ur y x=false):x=y:=by
 rw [Lt] at *;exact sc (eq_false_iff.1 h1) (eq_false_iff.1 h2)
theorem Lj (l:List MArc):l.mergeSort (fun x y=> !(ltOf ur) y x)=bU l:=by
 refine lE (List.mergeSort_perm ..) ?_;have hs:=List.pairwise_mergeSort (le:=fun x y=> !(ltOf ur) y x) (fun a b c h1 h2=>by
  simp only [Lt,Bool.not_eq_true'] at *;exact eq_false_iff.2 (qa (p:=a) (q:=b) (r:=c) (eq_false_iff.1 h1) (eq_false_iff.1 h2))) (fun a b=>by
  simp only [Lt]
  cases h:jF b a with
  | false=>rfl
  | true=>
   have:=Hg h;unfold ua at this;simp [eq_false_iff.2 this]) l
 refine hs.imp fun h=> ?_;simp only [Lt,Bool.not_eq_true'] at h;exact eq_false_iff.1 h
end Go.Ab
end
section
set_option linter.unusedVariables false
namespace Go.Proofs.YtoabjjimjldcfaaGreatDoor
open Go.Shelf Go.RowKit Go.Lib Go.Sort
def zk:Go.Shelf.Ren:=⟨fun | 6=>48 | 15=>73 | 14=>72 | 28=>92 | 29=>93 | 20=>84 | 21=>85 | 22=>86 | 23=>87 | 24=>88 | 25=>89 | 26=>90 | 27=>91 | 46=>109 | 47=>110 | 48=>111 | 49=>112 | 50=>113 | 57=>133 | n=>n,fun | 22=>35 | 24=>39 | 25=>55 | 3=>3 | 39=>83 | 0=>0 | 53=>101 | 55=>103 | 4=>4 | 46=>94 | 45=>93 | 50=>98 | 5=>5 | 9=>9 | 66=>113 | 70=>117 | 76=>129 | 77=>130 | n=>n,fun | n=>n⟩
theorem Jy:Go.Proofs.SlLaysF0.n6 Tryz.prog zk:={
 mixed:=by kernel_rfl,
 f6:=⟨Tryz.f48.name,by decide,Tryz.func48.trans (congrArg some (by kernel_rfl))⟩,
 f14:=⟨Tryz.f72.name,by decide,Tryz.func72.trans (congrArg some (by kernel_rfl))⟩,
 f15:=Tryz.func73.trans (congrArg some (by kernel_rfl)),
 f20:=⟨Tryz.f84.name,by decide,Tryz.func84.trans (congrArg some (by kernel_rfl))⟩,
 f21:=⟨Tryz.f85.name,by decide,Tryz.func85.trans (congrArg some (by kernel_rfl))⟩,
 f22:=⟨Tryz.f86.name,by decide,Tryz.func86.trans (congrArg some (by kernel_rfl))⟩,
 f23:=⟨Tryz.f87.name,by decide,Tryz.func87.trans (congrArg some (by kernel_rfl))⟩,
 f24:=⟨Tryz.f88.name,by decide,Tryz.func88.trans (congrArg some (by kernel_rfl))⟩,
 f25:=⟨Tryz.f89.name,by decide,Tryz.func89.trans (congrArg some (by kernel_rfl))⟩,
 f26:=⟨Tryz.f90.name,by decide,Tryz.func90.trans (congrArg some (by kernel_rfl))⟩,
 f27:=⟨Tryz.f91.name,by decide,Tryz.func91.trans (congrArg some (by kernel_rfl))⟩,
 f28:=Tryz.func92.trans (congrArg some (by kernel_rfl)),
 f29:=Tryz.func93.trans (congrArg some (by kernel_rfl)),
 f46:=⟨Tryz.f109.name,by decide,Tryz.func109.trans (congrArg some (by kernel_rfl))⟩,
 f47:=Tryz.func110.trans (congrArg some (by kernel_rfl)),
 f48:=Tryz.func111.trans (congrArg some (by kernel_rfl)),
 f49:=⟨Tryz.f112.name,by decide,Tryz.func112.trans (congrArg some (by kernel_rfl))⟩,
 f50:=⟨Tryz.f113.name,by decide,Tryz.func113.trans (congrArg some (by kernel_rfl))⟩,
 f57:=⟨Tryz.f133.name,by decide,Tryz.func133.trans (congrArg some (by kernel_rfl))⟩,
 t0:=Tryz.underlying0,
 a0:=Tryz.isAgg0,
 z0:=Tryz.sizeOf0,
 v0:=Tryz.zeroValue0,
 t3:=Tryz.underlying3,
 a3:=Tryz.isAgg3,
 z3:=Tryz.sizeOf3,
 v3:=Tryz.zeroValue3,
 t4:=Tryz.underlying4,
 a4:=Tryz.isAgg4,
 z4:=Tryz.sizeOf4,
 v4:=Tryz.zeroValue4,
 t5:=Tryz.underlying5,
 a5:=Tryz.isAgg5,
 z5:=Tryz.sizeOf5,
 v5:=Tryz.zeroValue5,
 t9:=Tryz.underlying9,
 a9:=Tryz.isAgg9,
 z9:=Tryz.sizeOf9,
 v9:=Tryz.zeroValue9,
 t22:=Tryz.underlying35,
 a22:=Tryz.isAgg35,
 z22:=Tryz.sizeOf35,
 v22:=Tryz.zeroValue35,
 t25:=Tryz.underlying55,
 a25:=Tryz.isAgg55,
 z25:=Tryz.sizeOf55,
 v25:=Tryz.zeroValue55,
 t39:=Tryz.underlying83,
 a39:=Tryz.isAgg83,
 z39:=Tryz.sizeOf83,
 v39:=Tryz.zeroValue83,
 t45:=Tryz.underlying93,
 a45:=Tryz.isAgg93,
 z45:=Tryz.sizeOf93,
 v45:=Tryz.zeroValue93,
 t46:=Tryz.underlying94,
 a46:=Tryz.isAgg94,
 z46:=Tryz.sizeOf94,
 v46:=Tryz.zeroValue94,
 t50:=Tryz.underlying98,
 a50:=Tryz.isAgg98,
 z50:=Tryz.sizeOf98,
 v50:=Tryz.zeroValue98,
 t53:=Tryz.underlying101,
 a53:=Tryz.isAgg101,
 z53:=Tryz.sizeOf101,
 v53:=Tryz.zeroValue101,
 t55:=Tryz.underlying103,
 a55:=Tryz.isAgg103,
 z55:=Tryz.sizeOf103,
 v55:=Tryz.zeroValue103,
 t66:=Tryz.underlying113,
 a66:=Tryz.isAgg113,
 z66:=Tryz.sizeOf113,
 v66:=Tryz.zeroValue113,
 t70:=Tryz.underlying117,
 a70:=Tryz.isAgg117,
 z70:=Tryz.sizeOf117,
 v70:=Tryz.zeroValue117,
 t76:=Tryz.underlying129,
 a76:=Tryz.isAgg129,
 z76:=Tryz.sizeOf129,
 v76:=Tryz.zeroValue129,
 t77:=Tryz.underlying130,
 a77:=Tryz.isAgg130,
 z77:=Tryz.sizeOf130,
 v77:=Tryz.zeroValue130 }
end Go.Proofs.YtoabjjimjldcfaaGreatDoor
end
section
set_option linter.unusedVariables false
set_option maxRecDepth 100000
namespace Go.Proofs.YtoabjjimjldcfaaGreatDoor
open Go Go.Ab Go.Sort
theorem DZ (p q:MArc)(w:World):Calls Tryz.prog 47 #[.agg (aO p).toArray,.agg (aO q).toArray] w fun e w'=>e = .returned (.int .i64 (ur p q))/\RowKit.Below w.heap.size w w'/\w.drawn<=w'.drawn:=by
 refine (wL text_ok (Kg p q (h:=⟨0,.nil⟩) (fun k B h=>by rw [Heap.get_nil] at h; cases h)) (by unfold YB; decide) Tryz.func47 (by kernel_rfl) (args':= #[.agg (aO p).toArray,.agg (aO q).toArray]) (.cons (.of_plain rfl) (.cons (.of_plain rfl) (.nil _))) w).mono ?_;rintro e w' ⟨v,v',h',β',rfl,⟨rfl,_⟩,h3,h4⟩
 cases h3
 exact ⟨rfl,h4⟩
theorem D3:iS Tryz.prog IM 48 (xD 47 4 D9):=
 IV Jy (by decide) (fun w=>Tryz.isAgg39 w) (fun w=>Tryz.sizeOf39 w) (enc:=aO) (fun _=>rfl) (fun x v hv=>by
  simp only [aO,mem_cons,List.not_mem_nil,or_false] at hv;rcases hv with rfl | rfl | rfl | rfl <;> rfl) (fun _=>rfl) Oq NQ (fun args w=>enters_of Tryz.func47 (by kernel_rfl) rfl args w) DZ (fun cs cs' h=>by
  unfold D9 at h;obtain ⟨l,h1,rfl⟩:=map_eq_some_iff.1 h;exact ⟨l,Ik cs h1,by rw [Lj]⟩) Tryz.func48 (by kernel_rfl)
end Go.Proofs.YtoabjjimjldcfaaGreatDoor
end
section
set_option linter.unusedVariables false
namespace Go.Proofs.YtoabjjimjldcfaaGreatDoor
open Go Go.Ab Go.RowKit
theorem se:iS Tryz.prog IM 194 js:=yR (fn:=(Tryz.prog.funcs[194]?).getD default) (by kernel_rfl) (by kernel_rfl) (by kernel_rfl) (by kernel_rfl) (by kernel_rfl)
theorem q9:iS Tryz.prog IM 196 iE:=vV (fn:=(Tryz.prog.funcs[196]?).getD default) (by kernel_rfl) (by kernel_rfl) (by kernel_rfl) (by kernel_rfl) (by kernel_rfl)
theorem ue:iS Tryz.prog IM 134 (ww Tryz.prog IM Tryz.f134 (seqL Cw) (seqR (seqR Cw)) 5):=
 GF text_ok.names Tryz.func134 rfl rfl rfl rfl rfl rfl rfl Tryz.func157 rfl wv (by kernel_rfl) (by kernel_rfl)
theorem Is:j9 Tryz.prog IM OF:=hH D3 (hH se (hH q9 (hH ue yk)))
end Go.Proofs.YtoabjjimjldcfaaGreatDoor
end
section
set_option linter.unusedVariables false
set_option maxRecDepth 100000
namespace Go.Proofs.YtoabjjimjldcfaaGreatDoor
open Go Go.Ab Go.ChangeShapes Go.RowKit
section
theorem OC:Tryz.prog.cellsOf 3=1:=by kernel_rfl
theorem NI:Tryz.prog.cellsOf 9=1:=by kernel_rfl
theorem N0:Tryz.prog.cellsOf 22=1:=by kernel_rfl
theorem NS:Tryz.prog.cellsOf 24=4:=by kernel_rfl
theorem Oh:Tryz.prog.cellsOf 35=1:=by kernel_rfl
theorem Mu:Tryz.prog.cellsOf 37=2:=by kernel_rfl
theorem MJ:Tryz.prog.cellsOf 39=4:=by kernel_rfl
theorem M9:Tryz.prog.cellsOf 103=1:=by kernel_rfl
theorem Oi:Tryz.prog.bytesOf 39=40:=by kernel_rfl
theorem AJ {α β:Type}{p:α->β}{P:α->Prop}: ∀ {l:List β},(∀ x∈l,∃ q,x=p q/\P q)-> ∃ k:List α,l=k.map p/\ ∀ q∈k,P q
 | [],_=>⟨[],rfl,fun _ h=>by cases h⟩
 | x::l,h=>by
  obtain ⟨q,rfl,hq⟩:=h x (mem_cons_self ..);obtain ⟨k,rfl,hk⟩:=AJ fun x hx=>h x (mem_cons_of_mem _ hx);exact ⟨q::k,rfl,fun y hy=>by
   rcases mem_cons.1 hy with rfl | hy
   ·exact hq
   ·exact hk y hy⟩
def FV (W:World)(q:MSt×Value):Prop:=vp W q.2 4 (q.1.arcs.map aO)/\q.1.arcs.length<=281474976710656
section
variable {H:Type} {enc:TypeId×Value->H} {W:World} {held:Bool}
theorem Gs {n:Nat}{cs:List Value}{y:DataW H×List MemPlace}(h:DataW.trod enc Tryz.prog W 0 (fun _=>true) held n 39 cs=some y): ∃ q:MArc,cs=aO q/\True:=by
 obtain ⟨xs,m,_,_,hl,hlen,hf⟩:=DataW.trod_struct Tryz.underlying39 h;rw [MJ] at hl;have hlen:xs.length=4:=hlen
 match xs,hlen,cs,hl with
 | [y0,y1,y2,y3],_,[c0,c1,c2,c3],_=>
  obtain ⟨i,e0,_,_⟩:=DataW.trod_int (x:=y0) Tryz.underlying3 (show DataW.trod enc Tryz.prog W 0 (fun _=>true) held m 3 (([c0,c1,c2,c3].drop 0).take (Tryz.prog.cellsOf 3))=some y0 from hf 0 _ rfl);obtain ⟨o,e1,_,_⟩:=DataW.trod_int (x:=y1) Tryz.underlying3 (show DataW.trod enc Tryz.prog W 0 (fun _=>true) held m 3 (([c0,c1,c2,c3].drop 1).take (Tryz.prog.cellsOf 3))=some y1 from hf 1 _ rfl);obtain ⟨s,e2,_,_⟩:=DataW.trod_string (x:=y2) Tryz.underlying9 (show DataW.trod enc Tryz.prog W 0 (fun _=>true) held m 9 (([c0,c1,c2,c3].drop 2).take (Tryz.prog.cellsOf 9))=some y2 from hf 2 _ rfl);obtain ⟨t,e3,_,_⟩:=DataW.trod_int (x:=y3) Tryz.underlying3 (show DataW.trod enc Tryz.prog W 0 (fun _=>true) held m 3 (([c0,c1,c2,c3].drop 3).take (Tryz.prog.cellsOf 3))=some y3 from hf 3 _ rfl);simp only [OC,NI,List.drop,List.take,List.cons.injEq,and_true] at e0 e1 e2 e3;subst e0; subst e1; subst e2; subst e3;exact ⟨⟨i,o,s.data.toList,t⟩,rfl,trivial⟩
theorem Cc {n:Nat}{cs:List Value}{y:DataW H×List MemPlace}(h:DataW.trod enc Tryz.prog W 0 (fun _=>true) held n 37 cs=some y)(hw:(y.1.weights Tryz.prog 37).all (· <=reachBytes)=true): ∃ q:MSt×Value,cs=fg q/\FV W q:=by
 obtain ⟨y0,y1,m,rfl,hl,h0,h1⟩:=trod_struct2 Tryz.underlying37 h;rw [Mu] at hl
 match cs,hl with
 | [c0,c1],_=>
  obtain ⟨s,e0,_,_⟩:=DataW.trod_string Tryz.underlying9 h0;simp only [DataW.weights,Tryz.underlying37,DataW.weightsEach,List.map,append_nil,List.all_append,and_eq_true] at hw;obtain ⟨v,rs,e1,r,hr,hb⟩:=vx (P:=Tryz.prog) (p:=fun cs=> ∃ q:MArc,cs=aO q/\True) Tryz.underlying35 MJ (by decide) (fun n cs y h _=>Gs h) h1 hw.2;simp only [NI,Oh,List.drop,List.take,List.cons.injEq,and_true] at e0 e1;subst e0; subst e1;obtain ⟨l,rfl,_⟩:=AJ hr;refine ⟨(⟨s.data.toList,l⟩,c1),rfl,r,?_⟩;rw [Oi,lM] at hb;unfold reachBytes at hb;show l.length<=_;omega
theorem vT {n:Nat}{cs:List Value}{y:DataW H×List MemPlace}(h:DataW.trod enc Tryz.prog W 0 (fun _=>true) held n 24 cs=some y)(hw:(y.1.weights Tryz.prog 24).all (· <=reachBytes)=true):
  ∃ (k s:Int)(ld:List UInt8)(v:Value)(sts:List (MSt×Value)),cs=[.int .i64 k,.int .i64 s,aa ld,v]/\vp W v 2 (sts.map fg)/\ ∀ q∈sts,FV W q:=by
 obtain ⟨xs,m,_,rfl,hl,hlen,hf⟩:=DataW.trod_struct Tryz.underlying24 h;rw [NS] at hl;have hlen:xs.length=4:=hlen
 match xs,hlen,cs,hl with
 | [y0,y1,y2,y3],_,[c0,c1,c2,c3],_=>
  obtain ⟨k,e0,_,_⟩:=DataW.trod_int (x:=y0) Tryz.underlying3 (show DataW.trod enc Tryz.prog W 0 (fun _=>true) held m 3 (([c0,c1,c2,c3].drop 0).take (Tryz.prog.cellsOf 3))=some y0 from hf 0 _ rfl);obtain ⟨s,e1,_,_⟩:=DataW.trod_int (x:=y1) Tryz.underlying3 (show DataW.trod enc Tryz.prog W 0 (fun _=>true) held m 3 (([c0,c1,c2,c3].drop 1).take (Tryz.prog.cellsOf 3))=some y1 from hf 1 _ rfl);obtain ⟨ld,e2,_,_⟩:=DataW.trod_string (x:=y2) Tryz.underlying9 (show DataW.trod enc Tryz.prog W 0 (fun _=>true) held m 9 (([c0,c1,c2,c3].drop 2).take (Tryz.prog.cellsOf 9))=some y2 from hf 2 _ rfl);simp only [DataW.weights,Tryz.underlying24,DataW.weightsEach,List.map,append_nil,List.all_append,and_eq_true] at hw;obtain ⟨v,rs,e3,r,hr,_⟩:=vx (P:=Tryz.prog) (x:=y3) (p:=fun cs=> ∃ q:MSt×Value,cs=fg q/\FV W q) Tryz.underlying22 Mu (by decide) (fun n cs y h hw=>Cc h hw) (show DataW.trod enc Tryz.prog W 0 (fun _=>true) held m 22 (([c0,c1,c2,c3].drop 3).take (Tryz.prog.cellsOf 22))=some y3 from hf 3 _ rfl) hw.2.2.2;simp only [OC,NI,N0,List.drop,List.take,List.cons.injEq,and_true] at e0 e1 e2 e3;subst e0; subst e1; subst e2; subst e3;obtain ⟨l,rfl,hl⟩:=AJ hr;exact ⟨k,s,ld.data.toList,c3,l,rfl,r,hl⟩
end
section
variable {W:World}
theorem Dz (q:MArc):(aO q).all np=true:=rfl
theorem Kj {β:Inj}{f:List UInt8}{v v':Value}(h:VRel β v v'):LRel β [aa f,v] [aa f,v']:= .cons (.string _) (.cons h (.nil β))
theorem vy: ∀ (sts:List (MSt×Value)),(∀ q∈sts,FV W q)-> ∀ {β:Inj}{h:Heap},Ini β h W->
  ∃ (β':Inj)(h':Heap)(ps:List (MSt×Value)),Ini β' h' W/\β.le β'/\Ok h h'/\ps.length=sts.length/\ps.map (·.1)=sts.map (·.1)/\(∀ p∈ps,ArcRow h' p.2 p.1.arcs)/\
   ∀ (k:Nat) r r',(ps.map fg)[k]?=some r->(sts.map fg)[k]?=some r'->LRel β' r r'
 | [],_,β,h,i=>⟨β,h,[],i,β.le_refl,Ok.refl i.wf,rfl,rfl,fun _ hm=>absurd hm (by simp),fun k v q h=>absurd h (by simp)⟩
 | q::sts,hq,β,h,i=>by
  obtain ⟨r,_⟩:=hq q (mem_cons_self ..);obtain ⟨β1,h1,v,i1,l1,o1,r1,a1⟩:=i.row (e:=39) r (rs:=q.1.arcs.map aO) rfl (fun k r r' h1 h2=>by
    rw [h1] at h2;obtain rfl:=oI h2;rw [getElem?_map] at h1;obtain ⟨x,_,rfl⟩:=map_eq_some_iff.1 h1;exact LRel.of_bares (Dz x))
  obtain ⟨β2,h2,ps,i2,l2,o2,hl,hm,ha,hk⟩:=vy sts (fun q hm=>hq q (mem_cons_of_mem _ hm)) i1;refine ⟨β2,h2,(q.1,v)::ps,i2,Inj.le_trans l1 l2,o1.trans o2,by simp [hl],by simp [hm],fun p hp=> ?_,fun k v' q' g1 g2=> ?_⟩
  ·rcases mem_cons.1 hp with rfl | hp
   ·exact ArcRow.ok a1 o2
   ·exact ha p hp
  ·cases k with
   | zero=>
    simp only [List.map_cons,List.getElem?_cons_zero,Option.some.injEq] at g1 g2;subst g1; subst g2;exact Kj (r1.mono l2)
   | succ k=>exact hk k v' q' (by simpa using g1) (by simpa using g2)
theorem y7 {β:Inj}{h:Heap}(i:Ini β h W){v:Value}{sts:List (MSt×Value)}(r:vp W v 2 (sts.map fg))(hq: ∀ q∈sts,FV W q)(hd: ∀ a,v = .slice (some a) 0 0->a.spot=none/\ ∃ cs t fr,W.heap[a.block]?=some (.cells cs t fr)):
  ∃ β' h' v',Ini β' h' W/\β.le β'/\Ok h h'/\VRel β' v' v/\StRow h' v' (sts.map (·.1)):=by
 obtain ⟨β1,h1,ps,i1,l1,o1,hl,hm,ha,hk⟩:=vy sts hq i;obtain ⟨β2,h2,v',i2,l2,o2,r2,a2,ne⟩:=i1.row_live (e:=37) (rs:=ps.map fg) r (by simp [hl]) hk hd;exact ⟨β2,h2,v',i2,Inj.le_trans l1 l2,o1.trans o2,r2,ps,hm,a2,fun p hp=>ArcRow.ok (ha p hp) o2,ne⟩
end
end
end Go.Proofs.YtoabjjimjldcfaaGreatDoor
end
section
namespace Go.Proofs.YtoabjjimjldcfaaGreatDoor
open Go Go.ChangeShapes Go.WideShapes Go.ChangeAt Go.RowKit
theorem H9:ownKnob Tryz.prog.godebug=none:=by kernel_rfl
abbrev fX {H:Type}:List (String×DataW H):=[("math/bits.deBruijn32tab",Rows.laid_math_bits_deBruijn32tab),("math/bits.deBruijn64tab",Rows.laid_math_bits_deBruijn64tab),("internal/strconv.uint64pow10",Rows.laid_internal_strconv_uint64pow10)]
def LE:DataW Unit->Value
 | .lit (.int k n)=> .int k n
 | _=>undef
def sv:DataW Unit->Array Value
 | .agg l=>(l.map LE).toArray
 | _=> #[]
def FM (c:Array Value):Obj->Obj
 | .cells _ t frozen=> .cells c t frozen
 | o=>o
noncomputable def uZ (os:Os):World:=
 { World.holding Tryz.prog os ⟨#[],#[],[]⟩ with heap:=(((World.holding Tryz.prog os ⟨#[],#[],[]⟩).heap.modify 2 (FM (sv Rows.laid_math_bits_deBruijn32tab))).modify 3 (FM (sv Rows.laid_math_bits_deBruijn64tab))).modify 1 (FM (sv Rows.laid_internal_strconv_uint64pow10)) }
theorem tN (os:Os)(args:Array Value):laidMetH Tryz.prog fX ((uZ os).forCall (fun _ _=>0) ⟨#[],args,[]⟩).memory:=
 laidMetH_of_parts (laidMet_of_run' 24 (by kernel_rfl) (by kernel_rfl)) (by kernel_rfl)
end Go.Proofs.YtoabjjimjldcfaaGreatDoor
end
section
set_option linter.unusedVariables false
set_option maxRecDepth 100000
namespace Go.Proofs.YtoabjjimjldcfaaGreatDoor
open Go Go.Ab Go.ChangeShapes Go.WideShapes Go.RowKit
section
theorem tz {P:Program}{w:World}: ∀ {l:List (String×DataW Unit)}{ps:List MemPlace},DataW.LaidVars P w l ps-> ∀ n d,(n,d)∈l->
  ∃ g t cs fuel p,P.globalNamed n=some g/\(P.globals[g]?).map (·.type)=some t/\w.var? P n=some cs/\DataW.trod (fun _=>()) P w 0 (fun _=>true) false fuel t cs.toList=some (d,p)
 | [],_,_,_,_,hm=>by cases hm
 | (n',d')::r,ps,h,n,d,hm=>by
  obtain ⟨g,t,cs,fuel,p,q,h1,h2,h3,h4,h5,_⟩:=h;rcases mem_cons.1 hm with e | e
  ·cases e
   exact ⟨g,t,cs,fuel,p,h1,h2,h3,h4⟩
  ·exact tz h5 n d e
theorem HK:Rows.laid_internal_strconv_uint64pow10=(.agg ((List.range 20).map fun i=>(.lit (.int .u64 ((10 ^ i:Nat):Int)):DataW Unit)):DataW Unit):=by kernel_rfl
section
variable {W:World}
theorem Kn (hL:laidMetH Tryz.prog fX W): ∃ cs t fr,W.heap[1]?=some (.cells cs t fr)/\ ∀ β,CellsAt β yK 0 cs:=by
 rw [MakeChecks.laidMetH_plain _ _ _ (by kernel_rfl)] at hL;obtain ⟨ps,hl,_⟩:=hL;obtain ⟨g,t,cs,fuel,p,hg,ht,hv,hd⟩:=tz hl "internal/strconv.uint64pow10" Rows.laid_internal_strconv_uint64pow10 (by simp [fX]);obtain rfl:=oI ((show Tryz.prog.globalNamed "internal/strconv.uint64pow10" = some 1 by kernel_rfl).symm.trans hg);obtain rfl:=oI ((show (Tryz.prog.globals[1]?).map (·.type)=some 185 by kernel_rfl).symm.trans ht);obtain ⟨xs,m,_,ex,_,hl,hel⟩:=DataW.trod_array Tryz.underlying185 hd;have e3:xs.map (·.1)=(List.range 20).map fun i=>(.lit (.int .u64 ((10 ^ i:Nat):Int)):DataW Unit):=by
  have:=(Prod.mk.inj ex).1.symm.trans HK;exact DataW.agg.inj this
 have hb: ∃ t fr,W.heap[1]?=some (.cells cs t fr):=by
  simp only [World.var?,hg,Option.bind_some] at hv;split at hv
  ·next c t fr hb=>obtain rfl:=oI hv; exact ⟨t,fr,hb⟩
  ·cases hv
 obtain ⟨t,fr,hb⟩:=hb;refine ⟨cs,t,fr,hb,fun β k v hk=> ?_⟩;have hlt:k < 20:=by
  have:=(List.getElem?_eq_some_iff.1 hk).1;simpa [yK] using this
 have hv:v=uv (10 ^ k):=by
  simp [yK,getElem?_range hlt] at hk;exact hk.symm
 have hE:=hel k hlt;rw [M9,mul_one,gE (by omega)] at hE;obtain ⟨z,e1,e2,_⟩:=DataW.trod_int Tryz.underlying103 hE;have e4:(xs.map (·.1))[k]?=some (.lit (.int .u64 ((10 ^ k:Nat):Int))):=by rw [e3]; simp [getElem?_range hlt]
 rw [getElem?_map,gE (by omega:k < xs.length),e2] at e4;have hz:z=((10 ^ k:Nat):Int):=by
  simpa using e4
 subst hz;have:cs.toList[k]?=some (.int .u64 ((10 ^ k:Nat):Int)):=by
  have h0:((cs.toList.drop k).take 1)[0]?=some (.int .u64 ((10 ^ k:Nat):Int)):=by rw [e1]; rfl
  simpa using h0
 refine ⟨.int .u64 ((10 ^ k:Nat):Int),by simpa using this,?_⟩;rw [hv]; exact .int _ _
theorem Kc (hL:laidMetH Tryz.prog fX W): ∃ β h,Ini β h W/\Gl IM β/\Tab h:=by
 obtain ⟨cs,t,fr,hb,hc⟩:=Kn hL;refine ⟨_,_,(On 1 W).push hb (hc _),fun g hg=> ?_,t,false,Heap.get_push_same ⟨1,.nil⟩ _⟩;have:g=1:=by simpa [IM] using hg
 subst this;exact ⟨_,Inj.ext_same _ _ _,rfl,rfl,rfl⟩
theorem HQ {base:Nat}{k s:Int}{ld:List UInt8}{v:Value}(hval:Value.okWide Tryz.prog W .any base 24 (.agg #[.int .i64 k,.int .i64 s,aa ld,v]))(a:Addr)(e:v = .slice (some a) 0 0):a.spot=none/\ ∃ cs t fr,W.heap[a.block]?=some (.cells cs t fr):=by
 simp only [Value.okWide,Tryz.underlying24] at hval;obtain ⟨cs,hcs,_,ts,hts,_,hc⟩:=hval;obtain rfl:=Value.agg.inj hcs;obtain rfl:=oI ((show Tryz.prog.cellTypes Tryz.prog.depth 24=some [3,3,9,22] by kernel_rfl).symm.trans hts);obtain ⟨u,hu,hk⟩:=hc 3 v rfl;obtain rfl:22=u:=oI hu;subst e;simp only [Cell.okWide,Cell.ok,Tryz.underlying22] at hk;obtain ⟨_,_,_,hs,row,cells,hsh,_⟩:=hk;refine ⟨hs,?_⟩;unfold World.shape? at hsh;split at hsh
 ·next c t fr hb=>exact ⟨c,t,fr,hb⟩
 ·cases hsh
end
end
end Go.Proofs.YtoabjjimjldcfaaGreatDoor
end
section
set_option linter.unusedVariables false
set_option maxRecDepth 100000
namespace Go.Proofs.YtoabjjimjldcfaaGreatDoor
open Go Go.Ab
noncomputable def LY:FD:=cB Tryz.f46 []
theorem Ja (a:OA)(n c:Nat)(h:Heap)(Q:VH)(hx:xN (dY SS.P 35 (.slice a n c)) h fun B1 g2=>Q (.func (.func 68) ⟨[]⟩ ⟨[(pA (h.next))]⟩) g2):FW SS 46 [(.slice a n c)] h Q:=cE LY Tryz.func46 (aj hx)
noncomputable def nB:FD:=cB Tryz.f68 [([1,0,0],[0,5,6,7])]
abbrev kj (ky:Nat)(a:OA)(n c:Nat)(i:Nat):LV:=[(.func (.yield ky) ⟨[]⟩ ⟨[]⟩),(.slice a n c),(iA n),(iA i)]
theorem J7 (ky kc:Nat)(h:Heap)(Q:VH)(hx:xL (ah SS.P 35 h (pA kc)) fun a1 n2 c3=>LL SS nB [1,0,0] [(.func (.yield ky) ⟨[]⟩ ⟨[]⟩),(.slice a1 n2 c3),(iA n2),(.int .i64 0)] h (KK SS nB [1,0] [] (EE SS nB Q))):FW SS 68 [(.func (.yield ky) ⟨[]⟩ ⟨[]⟩),(pA kc)] h Q:=cE nB Tryz.func68 (aj hx)
theorem qW (ky kc:Nat)(a:OA)(n c:Nat)(Inv:Nat->Nat->Heap->Prop)(Q:VH)(step: ∀ (mz:Nat) (i:Nat) (zz:Nat->Value) (h:Heap),Inv mz i h->aB (decide (((i:Int):Int) < (n:Int))) (xP (ag SS.P 35 (.slice a n c) (iA i)) fun p4=>xA (ah SS.P 39 h (.pointer (some p4))) fun c5=>xN (aD SS.P 39) h fun B6 g7=>xU (ai SS.P 39 (pA (h.next)) (.agg ⟨c5⟩) g7) g7 fun u8 g9=>xA (ah SS.P 39 g9 (pA (h.next))) fun c10=>FW SS (YB+ky) [(.agg ⟨c10⟩)] g9 fun v11 h12=>yB v11 fun b13=>aB (!b13) (Q (.tuple ⟨[]⟩) h12) (aF (gM (kj ky a n c) Inv) mz [(.func (.yield ky) ⟨[]⟩ ⟨[]⟩),(.slice a n c),(iA n),(.int .i64 (wrap .i64 ((i:Int)+1)))] h12)) (Q (.tuple ⟨[]⟩) h))(mz:Nat){i:Nat}{h:Heap}(hi:Inv mz i h):LL SS nB [1,0,0] (kj ky a n c i) h (KK SS nB [1,0] [] (EE SS nB Q)):=
 cQ (kj ky a n c) Inv (fun mz i zz h hi=>aj (step mz i zz h hi)) mz hi
noncomputable def appSeq_F:FD:=cB Tryz.f81 []
theorem D1 (a:OA)(n c kc:Nat)(h:Heap)(Q:VH)(hx:xN (dY SS.P 35 (.slice a n c)) h fun B1 g2=>RG SS appSeq_F [1,0,1,0] [(.slice a n c),(.func (.func 68) ⟨[]⟩ ⟨[(pA kc)]⟩),(pA (h.next)),undef,nA,undef,(.func (.func 68) ⟨[]⟩ ⟨[(pA kc)]⟩),undef,undef,undef,undef,undef,undef] g2 (KK SS appSeq_F [1,0,1,0] [] (EE SS appSeq_F Q))):FW SS 81 [(.slice a n c),(.func (.func 68) ⟨[]⟩ ⟨[(pA kc)]⟩)] h Q:=cE appSeq_F Tryz.func81 (aj hx)
theorem tL {ks:Nat}{x0 x1 x3 x4 x5 x6 x7 x8 x9 x10 x11 x12:Value}{h:Heap}{Q:VH}(hx:xL (ah SS.P 35 h (pA ks)) fun a1 n2 c3=>Q (.slice a1 n2 c3) h):(KK SS appSeq_F [1,0,1,0] [] (EE SS appSeq_F Q)) .normal [x0,x1,(pA ks),x3,x4,x5,x6,x7,x8,x9,x10,x11,x12] h:=aj hx
theorem uf {ks:Nat}{q:LV}{x0 x1 x3 x4 x5 x6 x8 x9 x10 x11 x12:Value}{h:Heap}{Q:cq}(hx:xN (aD SS.P 39) h fun B1 g2=>xU (ai SS.P 39 (pA (h.next)) (.agg ⟨q⟩) g2) g2 fun u3 g4=>Q .normal [x0,x1,(pA ks),x3,x4,(pA (h.next)),x6,(.agg ⟨q⟩),x8,x9,x10,x11,x12] g4):TT SS appSeq_F [1,0,1,0,0] [x0,x1,(pA ks),x3,x4,x5,x6,(.agg ⟨q⟩),x8,x9,x10,x11,x12] h Q:=aj hx
theorem tT {ks kv:Nat}{x0 x1 x3 x4 x6 x7 x8 x9 x10 x11 x12:Value}{h:Heap}{Q:cq}(hx:xL (ah SS.P 35 h (pA ks)) fun a1 n2 c3=>xA (ah SS.P 39 h (pA kv)) fun c4=>xR (an SS.P 35 1 [(0,(.agg ⟨c4⟩))]) h fun B5 n6 c7 g8=>xE (aJ SS.P 35 35 (.slice a1 n2 c3) (sA (h.next) n6 c7) g8) g8 fun a9 n10 c11 u12 g13=>xU (ai SS.P 35 (pA ks) (.slice a9 n10 c11) g13) g13 fun u14 g15=>Q .normal [x0,x1,(pA ks),x3,x4,(pA kv),x6,x7,(.slice a1 n2 c3),(.agg ⟨c4⟩),(sA (h.next) n6 c7),(.slice a9 n10 c11),x12] g15):TT SS appSeq_F [1,0,1,0,1] [x0,x1,(pA ks),x3,x4,(pA kv),x6,x7,x8,x9,x10,x11,x12] h Q:=aj hx
noncomputable def KU:FD:=cB Tryz.f67 []
theorem Kv (kc:Nat)(h:Heap)(Q:VH)(hx:FW SS 81 [nA,(.func (.func 68) ⟨[]⟩ ⟨[(pA kc)]⟩)] h fun v1 h2=>yL v1 fun a3 n4 c5=>Q (.slice a3 n4 c5) h2):FW SS 67 [(.func (.func 68) ⟨[]⟩ ⟨[(pA kc)]⟩)] h Q:=cE KU Tryz.func67 (aj hx)
noncomputable def EO:FD:=cB Tryz.f45 []
theorem Bu (kc:Nat)(h:Heap)(Q:VH)(hx:FW SS 67 [(.func (.func 68) ⟨[]⟩ ⟨[(pA kc)]⟩)] h fun v1 h2=>yL v1 fun a3 n4 c5=>FW SS 48 [(.slice a3 n4 c5),(.func (.func 47) ⟨[]⟩ ⟨[]⟩)] h2 fun v6 h7=>v6=(.tuple ⟨[]⟩)/\Q (.slice a3 n4 c5) h7):FW SS 45 [(.func (.func 68) ⟨[]⟩ ⟨[(pA kc)]⟩),(.func (.func 47) ⟨[]⟩ ⟨[]⟩)] h Q:=cE EO Tryz.func45 (aj hx)
noncomputable def aL:FD:=cB Tryz.f25 [([1,1,1,1,1,0,1,0,0],[1,2,4,5,6]),([1,1,1,1,1,0,1,0,0,1,0,0,1,0,0],[1,2,4,5,6,43,44,45]),([1,1,1,1,1,1,1,0,1,0,0],[2,67,68,69])]
abbrev co (k k2 ke:Nat)(i:Nat)(t:OA)(tn tc:Nat):LV:=[(pA k),(pA k2),(.slice t tn tc),(.map (some ke)),(iA i)]
abbrev dc (k k2 ke:Nat)(b:OA)(m d i:Nat)(j:Nat)(t:OA)(tn tc:Nat):LV:=[(pA k),(pA k2),(.slice t tn tc),(.map (some ke)),(iA i),(.slice b m d),(iA m),(iA j)]
abbrev dQ (k2:Nat)(a:OA)(n c:Nat)(i:Nat):LV:=[(pA k2),(.slice a n c),(iA n),(iA i)]
theorem DO (mv:LV)(h:Heap)(Q:VH)(hx:xN (dY SS.P 24 (.agg ⟨mv⟩)) h fun B1 g2=>xN (aD SS.P 24) g2 fun B3 g4=>xA (ah SS.P 24 g4 (pA (h.next))) fun c5=>FW SS 23 [(.agg ⟨c5⟩)] g4 fun v6 h7=> ∃ cs8:LV,∃ n9:Int,v6=(.tuple ⟨[(.agg ⟨cs8⟩),(.int .i64 n9)]⟩)/\xU (ai SS.P 24 (pA (h.next)) (.agg ⟨cs8⟩) h7) h7 fun u10 g11=>aB (((n9:Int) != 0)) (xA (aC SS.P 24 []) fun c12=>xU (ai SS.P 24 (pA (g2.next)) (.agg ⟨c12⟩) g11) g11 fun u13 g14=>dH SS [((pA (g2.next)),some 24),((.int .i64 n9),none)] g14 Q) (xP (af SS.P 24 (pA (h.next)) 1) fun p15=>xI .i64 (ah SS.P 3 g11 (.pointer (some p15))) fun n16=>xR (an SS.P 48 1 [(0,(.int .i64 n16))]) g11 fun B17 n18 c19 g20=> ∃ B21:Blk,oh SS.P 45=some (B21,fun k=> .map (some k))/\xP (af SS.P 24 (pA (h.next)) 1) fun p22=>xI .i64 (ah SS.P 3 (g20.push B21) (.pointer (some p22))) fun n23=>xU (hZ SS.P 45 (.map (some g20.next)) (.int .i64 n23) (.bool true) (g20.push B21)) (g20.push B21) fun u24 g25=>LL SS aL [1,1,1,1,1,0,1,0,0] (co (h.next) (g2.next) (g20.next) 0 (some ⟨g11.next,0,none⟩) n18 c19) g25 (KK SS aL [1,1,1,1,1,0,1,0] [] (EE SS aL Q)))):FW SS 25 [(.agg ⟨mv⟩)] h Q:=cE aL Tryz.func25 (aj hx)
theorem oL (mv:LV)(k k2 ke:Nat)(Inv:Nat->Nat->OA->Nat->Nat->Heap->Prop)(Q:VH)(step: ∀ (mz:Nat) (i:Nat) (t:OA) (tn tc:Nat) (zz:Nat->Value) (h:Heap),Inv mz i t tn tc h->aB (decide (((i:Int):Int) < (tn:Int))) (xP (af SS.P 24 (pA k) 3) fun p26=>xL (ah SS.P 22 (room h 13) (.pointer (some p26))) fun a27 n28 c29=>xP (ag SS.P 48 (.slice t tn tc) (iA i)) fun p30=>xI .i64 (ah SS.P 3 (room h 13) (.pointer (some p30))) fun n31=>xP (ag SS.P 22 (.slice a27 n28 c29) (.int .i64 n31)) fun p32=>xP (af SS.P 37 (.pointer (some p32)) 1) fun p33=>xL (ah SS.P 35 (room h 13) (.pointer (some p33))) fun a34 n35 c36=>FW SS 46 [(.slice a34 n35 c36)] (room h 13) fun v37 h38=>yF v37 fun g39 a40 c41=>FW SS 45 [(.func (.func g39) ⟨a40⟩ ⟨c41⟩),(.func (.func 47) ⟨[]⟩ ⟨[]⟩)] h38 fun v42 h43=>yL v42 fun a44 n45 c46=>LL SS aL [1,1,1,1,1,0,1,0,0,1,0,0,1,0,0] (dc k k2 ke a44 n45 c46 i 0 t tn tc) h43 (KK SS aL [1,0,0,1,0] [1,1,1,1,1,0,1,0,0] (RR aL [1,1,1,1,1,0,1,0,0] (xh (co k k2 ke) Inv) mz (KK SS aL [1,1,1,1,1,0,1,0] [] (EE SS aL Q))))) (xA (ah SS.P 24 h (pA k)) fun c47=>FW SS 43 [(.agg ⟨c47⟩),(.slice t tn tc)] h fun v48 h49=>yA v48 fun c50=>xU (ai SS.P 24 (pA k2) (.agg ⟨c50⟩) h49) h49 fun u51 g52=>xP (af SS.P 24 (pA k2) 3) fun p53=>xL (ah SS.P 22 g52 (.pointer (some p53))) fun a54 n55 c56=>LL SS aL [1,1,1,1,1,1,1,0,1,0,0] (dQ k2 a54 n55 c56 0) g52 (KK SS aL [1,1,1,1,1,1,1,0,1,0] [] (EE SS aL Q))))(mz:Nat){i:Nat}{t:OA}{tn tc:Nat}{h:Heap}(hi:Inv mz i t tn tc h):LL SS aL [1,1,1,1,1,0,1,0,0] (co k k2 ke i t tn tc) h (KK SS aL [1,1,1,1,1,0,1,0] [] (EE SS aL Q)):=
 zr (co k k2 ke) Inv (fun mz i t tn tc zz h hi=>aj (step mz i t tn tc zz h hi)) mz hi
theorem pn (mv:LV)(k k2 ke:Nat)(b:OA)(m d:Nat)(Inv:Nat->Nat->OA->Nat->Nat->Heap->Prop)(mz i:Nat)(Inv2:Nat->Nat->OA->Nat->Nat->Heap->Prop)(Q:VH)(step: ∀ (mz2:Nat) (j:Nat) (t:OA) (tn tc:Nat) (zz:Nat->Value) (h:Heap),Inv2 mz2 j t tn tc h->aB (decide (((j:Int):Int) < (m:Int))) (xP (ag SS.P 35 (.slice b m d) (iA j)) fun p57=>xA (ah SS.P 39 h (.pointer (some p57))) fun c58=>xN (aD SS.P 39) h fun B59 g60=>xU (ai SS.P 39 (pA (h.next)) (.agg ⟨c58⟩) g60) g60 fun u61 g62=>xP (af SS.P 39 (pA (h.next)) 3) fun p63=>xI .i64 (ah SS.P 3 g62 (.pointer (some p63))) fun n64=>xB (CJ SS.P 45 (.map (some ke)) (.int .i64 n64) false g62) fun b65=>aB (!b65) (xP (af SS.P 39 (pA (h.next)) 3) fun p66=>xI .i64 (ah SS.P 3 g62 (.pointer (some p66))) fun n67=>xU (hZ SS.P 45 (.map (some ke)) (.int .i64 n67) (.bool true) g62) g62 fun u68 g69=>xP (af SS.P 39 (pA (h.next)) 3) fun p70=>xI .i64 (ah SS.P 3 g69 (.pointer (some p70))) fun n71=>xR (an SS.P 48 1 [(0,(.int .i64 n71))]) g69 fun qD n73 c74 g75=>xE (aJ SS.P 48 48 (.slice t tn tc) (sA (g69.next) n73 c74) g75) g75 fun a76 n77 c78 u79 g80=>aF (xh (dc k k2 ke b m d i) Inv2) mz2 [(pA k),(pA k2),(.slice a76 n77 c78),(.map (some ke)),(iA i),(.slice b m d),(iA m),(.int .i64 (wrap .i64 ((j:Int)+1)))] g80) (aF (xh (dc k k2 ke b m d i) Inv2) mz2 [(pA k),(pA k2),(.slice t tn tc),(.map (some ke)),(iA i),(.slice b m d),(iA m),(.int .i64 (wrap .i64 ((j:Int)+1)))] g62)) (aF (xh (co k k2 ke) Inv) mz [(pA k),(pA k2),(.slice t tn tc),(.map (some ke)),(.int .i64 (wrap .i64 ((i:Int)+1)))] h))(mz2:Nat){j:Nat}{t:OA}{tn tc:Nat}{h:Heap}(hi:Inv2 mz2 j t tn tc h):LL SS aL [1,1,1,1,1,0,1,0,0,1,0,0,1,0,0] (dc k k2 ke b m d i j t tn tc) h (KK SS aL [1,0,0,1,0] [1,1,1,1,1,0,1,0,0] (RR aL [1,1,1,1,1,0,1,0,0] (xh (co k k2 ke) Inv) mz (KK SS aL [1,1,1,1,1,0,1,0] [] (EE SS aL Q)))):=
 zr (dc k k2 ke b m d i) Inv2 (fun mz2 j t tn tc zz h hi=>aj (step mz2 j t tn tc zz h hi)) mz2 hi
theorem pz (mv:LV)(k2:Nat)(a:OA)(n c:Nat)(Inv3:Nat->Nat->Heap->Prop)(Q:VH)(step: ∀ (mz3:Nat) (i:Nat) (zz:Nat->Value) (h:Heap),Inv3 mz3 i h->aB (decide (((i:Int):Int) < (n:Int))) (xP (ag SS.P 22 (.slice a n c) (iA i)) fun p81=>xA (ah SS.P 37 h (.pointer (some p81))) fun c82=>xN (aD SS.P 37) h fun B83 g84=>xU (ai SS.P 37 (pA (h.next)) (.agg ⟨c82⟩) g84) g84 fun u85 g86=>xP (af SS.P 37 (pA (h.next)) 1) fun p87=>xL (ah SS.P 35 g86 (.pointer (some p87))) fun a88 n89 c90=>FW SS 48 [(.slice a88 n89 c90),(.func (.func 47) ⟨[]⟩ ⟨[]⟩)] g86 fun v91 h92=>v91=(.tuple ⟨[]⟩)/\aF (gM (dQ k2 a n c) Inv3) mz3 [(pA k2),(.slice a n c),(iA n),(.int .i64 (wrap .i64 ((i:Int)+1)))] h92) (xA (ah SS.P 24 h (pA k2)) fun c93=>xU (ai SS.P 24 (pA k2) (.agg ⟨c93⟩) h) h fun u94 g95=>dH SS [((pA k2),some 24),((.int .i64 0),none)] g95 Q))(mz3:Nat){i:Nat}{h:Heap}(hi:Inv3 mz3 i h):LL SS aL [1,1,1,1,1,1,1,0,1,0,0] (dQ k2 a n c i) h (KK SS aL [1,1,1,1,1,1,1,0,1,0] [] (EE SS aL Q)):=
 cQ (dQ k2 a n c) Inv3 (fun mz3 i zz h hi=>aj (step mz3 i zz h hi)) mz3 hi
section
theorem Mp:SS.pr 48=some (xD 47 4 D9):=by kernel_rfl
abbrev MP:Value:= .func (.func 47) ⟨[]⟩ ⟨[]⟩
theorem zK {h0 h:Heap}(w0:Wf h0)(ok:Ok h0 h){v:Value}{l:List MArc}(o:OwnK h0 h 39 4 v (l.map aO))(hl:l.length<=100000):FW SS 48 [v,MP] h (fun r h'=>r = .tuple ⟨[]⟩/\OwnK h0 h' 39 4 v ((bU l).map aO)/\Ok h0 h'/\(∀ j B,h.get j=some B->aK v≠some j->h'.get j=some B)/\h'.next=h.next):=by
 have hlen:(l.map aO).length=l.length:=lM ..;by_cases h0l:l.length=0
 ·obtain rfl:=eq_nil_of_length_eq_zero h0l;obtain ⟨a,c,rfl⟩:=o.slc;refine rh (h':=h) (v:= .tuple ⟨[]⟩) (by kernel_rfl) Mp (fun cf=> ?_) ⟨rfl,o,ok,fun j B hj _=>hj,rfl⟩;rfl
 ·obtain ⟨hr,⟨_,he⟩ | ⟨k,off,cs,c,rfl,h2,h3,h4,h5,h6⟩⟩:=o
  ·exact absurd (by rw [<-hlen,he]; rfl) h0l
  rw [hlen] at h4 h6;have h7:=Nat.mul_le_mul_right 4 h6;have hF:((bU l).map aO).flatten.length=l.length*4:=by
   rw [fF (sz:=4) (fun r hr=>by obtain ⟨x,_,rfl⟩:=mem_map.1 hr; rfl),lM,jz]
  have hsl:((bU l).map aO).length=l.length:=by rw [lM,jz]
  refine rh (h':=h.set k (.cells (cs.take off++((bU l).map aO).flatten++cs.drop (off+l.length*4)) 39 4 true)) (v:= .tuple ⟨[]⟩) (by kernel_rfl) Mp (fun cf=> ?_) ⟨rfl,⟨fun r hr=>by obtain ⟨x,_,rfl⟩:=mem_map.1 hr; rfl,.inr ⟨k,off,_,c,by rw [hlen,hsl],h2,by rw [Heap.get_set,if_pos rfl],?_,?_,by rw [hsl]; exact h6⟩⟩,ok.set _ h2 (ok.wf _ _ h3) w0,fun j B hj hne=> ?_,rfl⟩
  ·rw [hlen];show (if 47=47 then (if l.length=0 then some (Value.tuple ⟨[]⟩,h) else match h.get k with
    | some (.cells cs t sz true)=>if l.length < 4611686018427387904/\off+l.length*4<=cs.length then (D9 ((cs.drop off).take (l.length*4))).map fun cs'=>(Value.tuple ⟨[]⟩,h.set k (.cells (cs.take off++cs'++cs.drop (off+l.length*4)) t sz true)) else none
    | _=>none) else none)=_
   rw [if_pos rfl,if_neg h0l,h3];dsimp only;rw [if_pos (⟨Nat.lt_of_le_of_lt hl (by decide),by omega⟩:l.length < 4611686018427387904/\off+l.length*4<=cs.length),h4];unfold D9;rw [y6]; rfl
  ·rw [hsl,append_assoc,drop_append,drop_eq_nil_of_le (by rw [length_take]; omega),nil_append,show off - (cs.take off).length=0 by rw [length_take]; omega,List.drop_zero,List.take_append_of_le_length (by omega),take_of_length_le (by omega)]
  ·rw [length_append,length_append,length_take,length_drop,hF]; omega
  ·rw [Heap.get_set,if_neg (fun e=>hne (by rw [e]; rfl))]; exact hj
theorem Ok.del {h0 h:Heap}(a:Ok h0 h){k:Nat}(hk:h0.next<=k)(w0:Wf h0):Ok h0 (h.del k):=by
 refine ⟨Heap.wf_del a.wf k,fun j B hj=> ?_,a.nx⟩;rw [Heap.get_del,if_neg (fun e=>by have:=w0 _ _ hj; omega)];exact a.ext _ _ hj
abbrev D4 (kc:Nat):Value:= .func (.func 68) ⟨[]⟩ ⟨[pA kc]⟩
abbrev OJ (ks kc:Nat):List Value:=[nA,D4 kc,pA ks,undef,nA,undef,D4 kc,undef,undef,undef,undef,undef,undef]
theorem NP:j5 (dw [1,0,1,0,0] appSeq_F.body) (dw [1,0,1,0,1] appSeq_F.body)=true:=by kernel_rfl
noncomputable def LB (st:LSt)(ks kc:Nat):Blk:= .loop st (OJ ks kc) [7] (dw [1,0,1,0,0] appSeq_F.body) (dw [1,0,1,0,1] appSeq_F.body) NP
structure YI (hb g:Heap)(ks ky kc:Nat)(l:List MArc):Prop where
 ok:Ok hb g
 box: ∃ a n c,g.get ks=some (.cells [.slice a n c] 35 0 true)/\OwnK hb g 39 4 (.slice a n c) (l.map aO)/\ ∀ j,aK (.slice a n c)=some j->j≠ks/\j≠ky
 lp:g.get ky=some (LB .ready ks kc)
 gs:hb.next<=ks
 gy:hb.next<=ky
 ne:ks≠ky
theorem KH (a:Option Addr)(n c:Nat):dY SS.P 35 (.slice a n c)=some (.cells [.slice a n c] 35 0 true,gb):=by cases a <;> kernel_rfl
section
variable {hb g:Heap} {ks ky kc:Nat} {l:List MArc}
theorem Gb (w:Wf hb)(yi:YI hb g ks ky kc l)(q:MArc)(hl:l.length<=100000):FW SS (YB+ky) [.agg ⟨aO q⟩] g (fun v g'=>v = .bool true/\YI hb g' ks ky kc (l++[q])):=by
 obtain ⟨ok,⟨a,n,c,hs,ow,ne⟩,lp,gs,gy,nk⟩:=yi;refine GY (X:=appSeq_F) (p:=[1,0,1,0]) (hc:=NP) lp rfl rfl (by kernel_rfl) (by kernel_rfl) ?_;obtain ⟨u,p1,o1,a1⟩:=oz ok.wf q;have hks:=ok.wf _ _ hs;have hky:=ok.wf _ _ lp;have ok1:=ok.trans o1;refine uf (ks:=ks) (q:=aO q) ⟨_,wn,u,p1,?_⟩;have hs1:=o1.ext _ _ hs;have lp1:=o1.ext _ _ lp;have ow1:=ow.ok o1;have hn1:=o1.nx;have hkv:=ok1.wf _ _ a1;generalize hkvg:g.next=kv at *;generalize u.app (g.push A0)=g1 at *;refine ⟨rfl,lp1,?_⟩;have get2: ∀ j B,j≠ky->g1.get j=some B->(g1.set ky (LB .busy ks kc)).get j=some B:=fun j B hj hB=>by rw [Heap.get_set,if_neg hj]; exact hB
 have ok2:Ok hb (g1.set ky (LB .busy ks kc)):=ok1.set _ gy (by omega) w;have hs2:=get2 ks _ nk hs1;have a2:AB (g1.set ky (LB .busy ks kc)) kv q:=get2 kv _ (by omega) a1;have lp2:(g1.set ky (LB .busy ks kc)).get ky=some (LB .busy ks kc):=by rw [Heap.get_set,if_pos rfl]
 have ow2:=ow1.keep (h':=g1.set ky (LB .busy ks kc)) fun j B hj hB=>get2 j B (ne j hj).2 hB;have hn2:(g1.set ky (LB .busy ks kc)).next=g1.next:=rfl;show TT SS appSeq_F [1,0,1,0,1] _ (g1.set ky (LB .busy ks kc)) _;generalize g1.set ky (LB .busy ks kc)=g2 at *;have o3:=(Ok.refl ok2.wf).push (.cells (aO q) 39 4 true);have k3:=ay g2 (.cells (aO q) 39 4 true);obtain ⟨b',n',c',u4,h4,ow4,ok4,kp4,nw4,nx4⟩:=rK w (ok2.trans o3) (ow2.ok o3) k3 hl;have hs4:=kp4 ks _ (o3.ext _ _ hs2) (fun e=>(ne ks e).1 rfl);have lp4:=kp4 ky _ (o3.ext _ _ lp2) (fun e=>(ne ky e).2 rfl);have hn3:(g2.push (.cells (aO q) 39 4 true)).next=g2.next+1:=rfl;have st:=lI (t:=35) (i:=0) N9 hs4 (by simp) (v:= .slice b' n' c') (by cases b' <;> rfl) (by cases b' <;> rfl);have ld:ah SS.P 35 g2 (pA ks)=some (.slice a n c):=cZ xX Fu hs2 (by simp);refine tT (ks:=ks) (kv:=kv) ⟨a,n,c,ld,_,gj He Id uP a2 (by simp [aO]),_,_,_,KX q,b',n',c',u4,h4,_,st,?_⟩;generalize u4.app (g2.push (.cells (aO q) 39 4 true))=g4 at *;dsimp only [Upd.app];refine ⟨?_,true,.ready,rfl,rfl,?_⟩
 ·rw [Heap.get_set,if_neg (Ne.symm nk)]; exact lp4
 have ne': ∀ j,aK (.slice b' n' c')=some j->j≠ks/\j≠ky:=fun j hj=>by
  rcases nw4 j hj with h | h
  ·omega
  ·exact ne j h
 have hks4:=ok4.wf _ _ hs4;have hky4:=ok4.wf _ _ lp4;refine ⟨(ok4.set _ gs hks4 w).set _ gy hky4 w,⟨b',n',c',?_,ow4.keep fun j B hj hB=> ?_,ne'⟩,?_,gs,gy,nk⟩
 ·rw [Heap.get_set,if_neg nk,Heap.get_set,if_pos rfl]; rfl
 ·rw [Heap.get_set,if_neg (ne' j hj).2,Heap.get_set,if_neg (ne' j hj).1]; exact hB
 ·show (Heap.set _ ky (LB .ready ks kc)).get ky=_;rw [Heap.get_set,if_pos rfl]
theorem Ju {a:Option Addr}{n c:Nat}{L:List MArc}(w:Wf hb)(yi:YI hb g ks ky kc [])(hc:hb.get kc=some (.cells [.slice a n c] 35 0 true))(r:ArcRow hb (.slice a n c) L)(hl:L.length<=100000):FW SS 68 [.func (.yield ky) ⟨[]⟩ ⟨[]⟩,pA kc] g (fun _ g'=>YI hb g' ks ky kc L):=by
 have hn:=r.len;have ld:ah SS.P 35 g (pA kc)=some (.slice a n c):=cZ xX Fu (yi.ok.ext _ _ hc) (by simp);refine J7 ky kc g _ ⟨a,n,c,ld,?_⟩;refine qW ky kc a n c (fun mz i g=>i<=L.length/\mz=L.length - i/\YI hb g ks ky kc (L.take i)) _ (fun mz i=> ?_) L.length (i:=0) ⟨zero_le _,rfl,by simpa using yi⟩;clear ld yi;intros; rename_i gg hin;obtain ⟨f1,rfl,yi⟩:=hin;refine ae (fun q=> ?_) (fun q=> ?_)
 ·have q:=dT q;obtain ⟨x,hx⟩: ∃ x,L[i]?=some x:=⟨_,gE (by omega)⟩
  obtain ⟨b1,o1,d1,d2,_⟩:=(r.ok yi.ok).at_ hx;obtain ⟨u,p1,o2,a2⟩:=oz yi.ok.wf x;refine ⟨_,d1,_,d2,_,wn,u,p1,_,gj He Id uP a2 (by simp [aO]),?_⟩;have y2:YI hb (u.app (gg.push A0)) ks ky kc (L.take i):=by
   obtain ⟨ok,⟨a,n,c,hs,ow,ne⟩,lp,gs,gy,nk⟩:=yi;exact ⟨ok.trans o2,⟨a,n,c,o2.ext _ _ hs,ow.ok o2,ne⟩,o2.ext _ _ lp,gs,gy,nk⟩
  refine (Gb w y2 x (by rw [length_take]; omega)).mono ?_;rintro _ g3 ⟨rfl,y3⟩;refine ⟨_,rfl,ae (fun e=>by cases e) (fun _=> ?_)⟩;rw [aH (n:=L.length) (by omega) (by omega)];refine cA (L.length - (i+1)) (by omega) ⟨by omega,rfl,?_⟩;rw [take_add_one,hx]; exact y3
 ·have q:=dF q;rw [take_of_length_le (by omega)] at yi;exact yi
theorem DN {h:Heap}{a:Option Addr}{n c:Nat}{L:List MArc}(w:Wf h)(hc:h.get kc=some (.cells [.slice a n c] 35 0 true))(r:ArcRow h (.slice a n c) L)(hl:L.length<=100000):FW SS 81 [nA,D4 kc] h (fun v h'=>OwnK h h' 39 4 v (L.map aO)/\Ok h h'):=by
 refine D1 none 0 0 kc h _ ⟨_,KH none 0 0,?_⟩;have o1:=(Ok.refl w).push (.cells [nA] 35 0 true);have k1:=ay h (.cells [nA] 35 0 true);have hn1:(h.push (.cells [nA] 35 0 true)).next=h.next+1:=rfl;generalize h.push (.cells [nA] 35 0 true)=g1 at *;refine My (f:= .tmp 6) (ps:= #[7]) (g:=68) (first:=[]) (cap:=[pA kc]) (hc:=NP) (by kernel_rfl) rfl rfl ⟨by unfold YB; decide,by kernel_rfl⟩ ?_;show FW SS 68 [.func (.yield g1.next) ⟨[]⟩ ⟨[]⟩,pA kc] (g1.push (LB .ready h.next kc)) _;have o2:=(Ok.refl o1.wf).push (LB .ready h.next kc);have k2:=ay g1 (LB .ready h.next kc);have yi:YI h (g1.push (LB .ready h.next kc)) h.next g1.next kc []:=⟨o1.trans o2,⟨none,0,0,o2.ext _ _ k1,OwnK.nil _ _ _ _,fun j e=>by cases e⟩,k2,le_refl _,by omega,by omega⟩
 refine (Ju w yi hc r hl).mono ?_;rintro v g3 ⟨ok,⟨a,n,c,hs,ow,ne⟩,lp,gs,gy,nk⟩;refine ⟨.normal,by rw [lp]; rfl,?_⟩;have ok3:Ok h (g3.del g1.next):=Ok.del ok gy w;have hs3:(g3.del g1.next).get h.next=some (.cells [.slice a n c] 35 0 true):=by rw [Heap.get_del,if_neg nk]; exact hs
 have ld:ah SS.P 35 (g3.del g1.next) (pA h.next)=some (.slice a n c):=cZ xX Fu hs3 (by simp);exact tL (ks:=h.next) ⟨a,n,c,ld,ow.keep fun j B hj hB=>(by rw [Heap.get_del,if_neg (ne j hj).2]; exact hB),ok3⟩
theorem IX {h:Heap}{a:Option Addr}{n c:Nat}{L:List MArc}(w:Wf h)(hc:h.get kc=some (.cells [.slice a n c] 35 0 true))(r:ArcRow h (.slice a n c) L)(hl:L.length<=100000):FW SS 67 [D4 kc] h (fun v h'=>OwnK h h' 39 4 v (L.map aO)/\Ok h h'):=by
 refine Kv kc h _ ((DN w hc r hl).mono ?_);rintro v g ⟨o,ok⟩;obtain ⟨a',c',rfl⟩:=o.slc;exact ⟨_,_,_,rfl,o,ok⟩
theorem Ca {h:Heap}{a:Option Addr}{n c:Nat}{L:List MArc}(w:Wf h)(hc:h.get kc=some (.cells [.slice a n c] 35 0 true))(r:ArcRow h (.slice a n c) L)(hl:L.length<=100000):FW SS 45 [D4 kc,MP] h (fun v h'=>OwnK h h' 39 4 v ((bU L).map aO)/\Ok h h'):=by
 refine Bu kc h _ ((IX w hc r hl).mono ?_);rintro v g ⟨o,ok⟩;obtain ⟨a',c',rfl⟩:=o.slc;refine ⟨_,_,_,rfl,(zK w ok o hl).mono ?_⟩;rintro v g' ⟨rfl,o2,ok2,_⟩;exact ⟨rfl,o2,ok2⟩
theorem Je {h:Heap}{a:Option Addr}{n c:Nat}(w:Wf h):FW SS 46 [.slice a n c] h (fun v h'=>v=D4 h.next/\h'.get h.next=some (.cells [.slice a n c] 35 0 true)/\Ok h h'):=
 Ja a n c h _ ⟨_,KH a n c,rfl,ay h _,(Ok.refl w).push _⟩
end
end
section
theorem Iu (k:Int): ∀ l:List Int,nc SS.P 3 (.int .i64 k) (l.map ji)=some (if k∈l then some (.bool true) else none)
 | []=>rfl
 | x::l=>by
  show (match nR SS.P 3 (.int .i64 k) (.int .i64 x) with | some true=>some (some (Value.bool true)) | some false=>nc SS.P 3 (.int .i64 k) (l.map ji) | none=>none)=_;rw [G2];by_cases h:k=x
  ·subst h;rw [if_pos (mem_cons_self ..)];simp
  ·rw [show decide (k=x)=false by simpa using h];dsimp only;rw [Iu k l];by_cases h2:k∈l
   ·rw [if_pos h2,if_pos (mem_cons_of_mem _ h2)]
   ·rw [if_neg h2,if_neg (fun e=>by rcases mem_cons.1 e with e | e; exact h e; exact h2 e)]
theorem NH:cw SS.P 4=some (.bool false):=by kernel_rfl
theorem KZ {h:Heap}{k:Nat}{l:List Int}(hk:h.get k=some (.map (l.map ji)))(x:Int):CJ SS.P 45 (.map (some k)) (.int .i64 x) false h=some (.bool (decide (x∈l))):=by
 unfold CJ aU;dsimp only;rw [LZ];show (match (match h.get k with | some (.map es)=>some es | _=>none),cw SS.P 4 with
  | some es,some z=>if i4 SS.P 3 (.int .i64 x) then match nc SS.P 3 (.int .i64 x) es with
   | some (some v)=>some v
   | some none=>some z
   | none=>none else none
  | _,_=>none)=_
 rw [hk,NH]; dsimp only;rw [show i4 SS.P 3 (.int .i64 x)=true by kernel_rfl,if_pos rfl,Iu];by_cases h:x∈l
 ·rw [if_pos h]; simp [h]
 ·rw [if_neg h]; simp [h]
structure MI (hb:Heap)(ke:Nat)(ord:List Nat)(g:Heap):Prop where
 row:g.get ke=some (.map ((ord.map fun x:Nat=>(x:Int)).map ji))
 new:hb.next<=ke
 ok:Ok hb g
theorem MI.trans {hb:Heap}{ke:Nat}{ord:List Nat}{g g':Heap}(m:MI hb ke ord g)(o:Ok g g'):MI hb ke ord g':=⟨o.ext _ _ m.row,m.new,m.ok.trans o⟩
theorem ordI_mem {ord:List Nat}{Y:Nat}:(Y:Int)∈ord.map (fun x:Nat=>(x:Int))↔Y∈ord:=by
 rw [mem_map];constructor
 ·rintro ⟨a,h1,h2⟩;obtain rfl:a=Y:=by omega
  exact h1
 ·exact fun h=>⟨Y,h,rfl⟩
theorem F9 {ord:List Nat}{Y:Nat}(h:Y ∉ ord):jy (ord.map fun x:Nat=>(x:Int)) (Y:Int)=(ord++[Y]).map fun x:Nat=>(x:Int):=by
 unfold jy;rw [if_neg (fun e=>h (ordI_mem.1 e)),map_append]; rfl
def Ou (hb:Heap)(ke:Nat)(b:Option Addr)(m d:Nat)(l:List MArc)(ord0:List Nat)(mz3 j:Nat)(t:Option Addr)(tn tc:Nat)(g:Heap):Prop:=j<=l.length/\mz3=l.length - j/\OwnG hb g 3 (.slice t tn tc) (((l.take j).foldl bM ord0).map iv)/\MI hb ke ((l.take j).foldl bM ord0) g/\OwnK hb g 39 4 (.slice b m d) (l.map aO)/\(∀ j,aK (.slice b m d)=some j->j≠ke/\aK (.slice t tn tc)≠some j)/\ ∀ j,aK (.slice t tn tc)=some j->ke≠j
def Nn (hb:Heap)(M:Mach)(N ke:Nat)(mz i:Nat)(t:Option Addr)(tn tc:Nat)(g:Heap):Prop:= ∃ ord:List Nat,OrdOk N ord/\i<=ord.length/\mz=N - i/\iW M (N+1 - i) i ord=bE M/\OwnG hb g 3 (.slice t tn tc) (ord.map iv)/\MI hb ke ord g/\ ∀ j,aK (.slice t tn tc)=some j->ke≠j
section
variable {M:Mach} {b:Option Addr} {m d:Nat}
theorem z7 {hb gS:Heap}(w:Wf hb)(gd:Good M)(hN:M.states.length<=300){ke k k2:Nat}{l:List MArc}(hl: ∀ q∈l,ArcIn M.states.length q)(hll:l.length<=100000){ord0:List Nat}(oo:OrdOk M.states.length ord0){i:Nat}(hi:i < ord0.length)(hg:iW M (M.states.length+1 - (i+1)) (i+1) (l.foldl bM ord0)=bE M){t:Option Addr}{tn tc:Nat}(hin:Ou hb ke b m d l ord0 l.length 0 t tn tc gS)(Q:VH):
  LL SS aL [1,1,1,1,1,0,1,0,0,1,0,0,1,0,0] (dc k k2 ke b m d i 0 t tn tc) gS (KK SS aL [1,0,0,1,0] [1,1,1,1,1,0,1,0,0] (RR aL [1,1,1,1,1,0,1,0,0] (xh (co k k2 ke) (Nn hb M M.states.length ke)) (M.states.length - i) (KK SS aL [1,1,1,1,1,0,1,0] [] (EE SS aL Q)))):=by
 refine pn [] k k2 ke b m d (Nn hb M M.states.length ke) (M.states.length - i) i (Ou hb ke b m d l ord0) Q (fun mz3 j=> ?_) l.length (j:=0) hin;clear hin t tn tc;intro t tn tc;intros; rename_i g hin;obtain ⟨f1,rfl,ot,mi,ar,nb,nt⟩:=hin;have okj:OrdOk M.states.length ((l.take j).foldl bM ord0):=rU oo fun q hq=>by
  have h:=hl q (List.mem_of_mem_take hq);have h0:=h.t0;have h1:=h.t1;omega
 have hlen:=pZ (l.take j) ord0;have hoN:=dp M.states.length okj.nd okj.lt;have hoN0:=dp M.states.length oo.nd oo.lt;have hml:m=l.length:=ArcRow.len ar.rd;refine ae (fun q1=> ?_) (fun q1=> ?_)
 ·have q1:=dT q1;have hj:j < l.length:=by omega
  obtain ⟨q,hq⟩: ∃ q,l[j]?=some q:=⟨_,gE hj⟩
  have hin:=hl q (List.mem_of_getElem? hq);obtain ⟨Y,hY⟩: ∃ Y:Nat,q.t=(Y:Int):=⟨q.t.toNat,by have:=hin.t0; omega⟩
  have hYt:q.t.toNat=Y:=by omega
  have ht:(l.take (j+1)).foldl bM ord0=bM ((l.take j).foldl bM ord0) q:=by
   rw [take_add_one,hq,foldl_append]; rfl
  have hw:wrap .i64 ((j:Int)+1)=((j+1:Nat):Int):=aH (n:=l.length) hj (by omega);obtain ⟨bb,o1,d1,d2,_⟩:=ArcRow.at_ ar.rd hq;generalize (l.take j).foldl bM ord0=ord at *;obtain ⟨u,p1,o2,a2⟩:=oz mi.ok.wf q;have l3:=a2.l3;rw [hY] at l3;have mi2:=mi.trans o2;have ot2:=ot.ok o2;have ar2:=ar.ok o2;have hke:=mi.ok.wf _ _ mi.row;have hnx:=o2.nx;refine ⟨_,d1,_,d2,_,wn,u,p1,_,eW _ _,_,l3,_,KZ mi2.row _,?_⟩;generalize u.app (g.push A0)=g2 at *;rw [hw];refine ae (fun q2=> ?_) (fun q2=> ?_)
  ·have hne:Y ∉ ord:=fun e=>by
    rw [decide_eq_true (ordI_mem.2 e)] at q2; cases q2
   have up:=GZ mi2.row (Y:Int);rw [F9 hne] at up;refine ⟨_,eW _ _,_,l3,_,up,_,eW _ _,?_⟩;dsimp only [Upd.app];have mi3:MI hb ke (ord++[Y]) (g2.set ke (.map (((ord++[Y]).map fun x:Nat=>(x:Int)).map ji))):=⟨by rw [Heap.get_set,if_pos rfl],mi.new,mi2.ok.set _ mi.new (by omega) w⟩
   have kp: ∀ (k':Nat)(B:Blk),k'≠ke->g2.get k'=some B->(g2.set ke (.map (((ord++[Y]).map fun x:Nat=>(x:Int)).map ji))).get k'=some B:=fun k' B hne hB=>by rw [Heap.get_set,if_neg hne]; exact hB
   have ot3:=ot2.keep fun k' B hk' hB=>kp k' B (fun e=>nt k' hk' e.symm) hB;have ar3:=ar2.keep fun k' B hk' hB=>kp k' B (nb k' hk').1 hB;have a3:AB _ g.next q:=kp _ _ (by omega) a2;have l33:=a3.l3;rw [hY] at l33;have hn3:(g2.set ke (.map (((ord++[Y]).map fun x:Nat=>(x:Int)).map ji))).next=g2.next:=rfl;generalize g2.set ke (.map (((ord++[Y]).map fun x:Nat=>(x:Int)).map ji))=g3 at *;have oP:=(Ok.refl mi3.ok.wf).push (.cells [.int .i64 (Y:Int)] 3 1 true);have kP:=ay g3 (.cells [.int .i64 (Y:Int)] 3 1 true);have hn4:(g3.push (.cells [.int .i64 (Y:Int)] 3 1 true)).next=g3.next+1:=rfl;obtain ⟨b',n',c',u2,b1,b2,b3,b4,b5,b6,b7⟩:=CG w (mi3.ok.trans oP) (ot3.ok oP) kP (by rw [lM]; omega);refine ⟨_,l33,_,_,_,vP _,b',n',c',u2,b1,?_⟩;dsimp only;have hA:bM ord q=ord++[Y]:=by unfold bM; rw [hYt,if_neg hne]
   refine tp (l.length - (j+1)) (by omega) ⟨by omega,rfl,?_,?_,(ar3.ok oP).keep fun k' B hk' hB=>b5 _ _ hB (nb k' hk').2,fun k' hk'=>⟨(nb k' hk').1,fun e=> ?_⟩,fun k' hk'=> ?_⟩
   ·rw [ht,hA,map_append]; exact b3
   ·rw [ht,hA];exact ⟨b5 _ _ (oP.ext _ _ mi3.row) (fun e=>nt _ e rfl),mi3.new,b4⟩
   ·rcases b6 k' e with h | h
    ·have h1:=(ar.lt mi.ok.wf hk').1;omega
    ·exact (nb k' hk').2 h
   ·rcases b6 k' hk' with h | h
    ·omega
    ·exact nt k' h
  ·have hm:Y∈ord:=Classical.byContradiction fun e=>by
    rw [decide_eq_false (fun h=>e (ordI_mem.1 h))] at q2; cases q2
   have hA:bM ord q=ord:=by unfold bM; rw [hYt,if_pos hm]
   exact tp (l.length - (j+1)) (by omega) ⟨by omega,rfl,by rw [ht,hA]; exact ot2,by rw [ht,hA]; exact mi2,ar2,nb,nt⟩
 ·have q1:=dF q1;have e:l.take j=l:=take_of_length_le (by omega);rw [e] at ot mi okj hlen hoN;rw [aH (n:=300) (by omega) (by omega)];exact tp (M.states.length - (i+1)) (by omega) ⟨_,okj,by omega,rfl,hg,ot,mi,nt⟩
end
end
section
theorem Jp {hb g g':Heap}{v:Value}{ps:List (MSt×Value)}(m:OwnM hb g v ps){i:Nat}{p:MSt×Value}(hp:ps[i]?=some p)(kp: ∀ j B,g.get j=some B->aK p.2≠some j->g'.get j=some B)(ox:OwnK hb g' 39 4 p.2 ((bU p.1.arcs).map aO)):OwnM hb g' v (ps.set i (qq p.1,p.2)):=by
 have hi:=(List.getElem?_eq_some_iff.1 hp).1;have back: ∀ (j:Nat)(q:MSt×Value),(ps.set i (qq p.1,p.2))[j]?=some q-> ∃ q',ps[j]?=some q'/\q'.2=q.2/\(j≠i->q'=q)/\(j=i->q.1=qq p.1):=fun j q hq=>by
  rw [getElem?_set] at hq;split at hq
  ·next e=>
   subst e;obtain rfl:=oI hq;exact ⟨p,hp,rfl,fun h=>absurd rfl h,fun _=>rfl⟩
  ·next e=>exact ⟨q,hq,rfl,fun _=>rfl,fun h=>absurd h.symm e⟩
 refine ⟨?_,fun j q hq=> ?_,fun j q hq k hk=> ?_,fun j1 j2 q1 q2 hne h1 h2 k hk=> ?_⟩
 ·have e:(ps.set i (qq p.1,p.2)).map fg=ps.map fg:=by
   rw [map_set];refine List.ext_getElem? fun j=> ?_;rw [getElem?_set];split
   ·next e=>
    subst e;rw [getElem?_map,hp];simp [fg,qq,hi]
   ·rfl
  rw [e];exact m.row.keep fun k B hk hB=>kp k B hB fun e=>m.ne i p hp k e hk
 ·obtain ⟨q',h1,h2,h3,h4⟩:=back j q hq;by_cases e:j=i
  ·subst e;rw [h1] at hp;obtain rfl:=oI hp;rw [h4 rfl,<-h2];exact ox
  ·obtain rfl:=h3 e;exact (m.arcs j q' h1).keep fun k B hk hB=>kp k B hB fun e'=>m.dis i j p q' (Ne.symm e) hp h1 k e' hk
 ·obtain ⟨q',h1,h2,_⟩:=back j q hq;rw [<-h2] at hk;exact m.ne j q' h1 k hk
 ·obtain ⟨q1',a1,a2,_⟩:=back j1 q1 h1;obtain ⟨q2',b1,b2,_⟩:=back j2 q2 h2;rw [<-a2] at hk;rw [<-b2];exact m.dis j1 j2 q1' q2' hne a1 b1 k hk
section
variable {h:Heap} {a:Option Addr} {n c:Nat}
def OM (hb:Heap)(R:Mach)(k2:Nat)(a:Option Addr)(n c:Nat)(mz i:Nat)(g:Heap):Prop:=i<=R.states.length/\mz=R.states.length - i/\ ∃ ps,ps.map (·.1)=zZ R.states i/\OwnM hb g (.slice a n c) ps/\Ok hb g/\g.get k2=some (.cells (aQ R a n c) 24 0 true)/\aK (.slice a n c)≠some k2/\ ∀ (i:Nat)(p:MSt×Value),ps[i]?=some p->aK p.2≠some k2
theorem yT {g0:Heap}(w:Wf h){R:Mach}(hR:R.states.length<=300)(hA: ∀ s∈R.states,s.arcs.length<=2000){k2:Nat}(hk2:h.next<=k2){ps:List (MSt×Value)}(hps:ps.map (·.1)=R.states)(om:OwnM h g0 (.slice a n c) ps)(ok:Ok h g0)(hk:g0.get k2=some (.cells (aQ R a n c) 24 0 true))(ne1:aK (.slice a n c)≠some k2)(ne2: ∀ (i:Nat) (p:MSt×Value),ps[i]?=some p->aK p.2≠some k2):
  LL SS aL [1,1,1,1,1,1,1,0,1,0,0] (dQ k2 a n c 0) g0 (KK SS aL [1,1,1,1,1,1,1,0,1,0] [] (EE SS aL (sB h (bq R,0)))):=by
 refine pz [] k2 a n c (OM h R k2 a n c) _ (fun mz i=> ?_) R.states.length (i:=0) ⟨zero_le _,rfl,ps,by simpa [zZ] using hps,om,ok,hk,ne1,ne2⟩;intros; rename_i g hin;clear hps om ok hk ne1 ne2 ps;obtain ⟨f1,rfl,ps,hps,om,ok,k2g,ne1,ne2⟩:=hin;have hn:n=R.states.length:=by
  have h1:=om.st.len;rw [hps] at h1;unfold zZ at h1;rw [length_append,lM,length_take,length_drop] at h1;omega
 refine ae (fun q=> ?_) (fun q=> ?_)
 ·have q:=dT q;have hi:i < R.states.length:=by omega
  obtain ⟨s,hs⟩: ∃ s,R.states[i]?=some s:=⟨_,gE hi⟩
  obtain ⟨m1,m2⟩:=Jh hs;rw [<-hps,getElem?_map] at m1;obtain ⟨p,hp,rfl⟩:=map_eq_some_iff.1 m1;obtain ⟨k,off,c',e,hkb⟩:=om.row.blk (by rw [lM]; have:=(List.getElem?_eq_some_iff.1 hp).1; omega);injection e with e1 e2 e3
  obtain rfl:=e1;obtain ⟨x1,x2,x3⟩:=om.at_ hp;obtain ⟨x,z,hx⟩:=(om.arcs i p hp).slc;obtain ⟨u,t1,t2,t3⟩:=pe ok.wf p.1.f x (p.1.arcs.map aO).length z;unfold fg at x3;rw [hx] at x3;have hal:=hA _ (List.mem_of_getElem? hs);refine ⟨_,x1,_,x3,_,rJ,u,t1,_,bW _ _,_,_,_,t3.l1,?_⟩;have om2:=om.ok t2;have ok2:=ok.trans t2;have k22:=t2.ext _ _ k2g;generalize u.app (g.push uh)=g2 at *;have oa:=om2.arcs i p hp;have sf:=zK w ok2 oa (by omega);rw [hx] at sf;refine sf.mono ?_;rintro v g3 ⟨rfl,o3,ok3,kp,hn3⟩;refine ⟨rfl,?_⟩;rw [aH hi (by omega)];rw [<-hx] at o3 kp;refine cA (R.states.length - (i+1)) (by omega) ⟨by omega,rfl,_,?_,Jp om2 hp kp o3,ok3,kp _ _ k22 (ne2 i p hp),ne1,?_⟩
  ·rw [m2,map_set,hps]
  ·intro i' p' hp';rw [getElem?_set] at hp';split at hp'
   ·split at hp'
    ·obtain rfl:=oI hp';exact ne2 i p hp
    ·cases hp'
   ·exact ne2 i' p' hp'
 ·have q:=dF q;have he:ps.map (·.1)=(bq R).states:=by
   rw [hps]; unfold zZ;rw [take_of_length_le (by omega),List.drop_of_length_le (by omega),append_nil]; rfl
  refine ⟨_,gj BO Cg gK k2g (by simp [aQ]),_,cL (t:=24) gK (cs0:=aQ R a n c) rfl k2g (cs:=aQ R a n c) rfl (fy ..),?_⟩;obtain ⟨o5,k5⟩:=dG (cs:=aQ R a n c) w ok k2g hk2;refine oX (v:= .agg ⟨aQ R a n c⟩) (gj BO Cg gK k5 (by simp [aQ])) ⟨a,n,c,ps,rfl,he,?_,o5⟩;have kq: ∀ j B,j≠k2->g.get j=some B->((Upd.set k2 (.cells (aQ R a n c) 24 0 true)).app g).get j=some B:=fun j B hne hB=>by
   show (g.set k2 _).get j=_;rw [Heap.get_set,if_neg hne]; exact hB
  exact ⟨om.row.keep fun j B hj hB=>kq j B (fun e=>ne1 (by rw [<-e]; exact hj)) hB,fun i p hp=>(om.arcs i p hp).keep fun j B hj hB=>kq j B (fun e=>ne2 i p hp (by rw [<-e]; exact hj)) hB,om.ne,om.dis⟩
end
end
section
section
variable {h:Heap} {M:Mach} {a:Option Addr} {n c:Nat}
theorem AC {hb g0:Heap}(w:Wf h)(o:Ok h hb)(gd:Good M)(hN:M.states.length<=300)(hA: ∀ s∈M.states,s.arcs.length<=2000){k k2 ke:Nat}(mb:MB hb k M a n c)(hk:hb.get k2=some jp)(hk2:h.next<=k2){t:Option Addr}{tn tc:Nat}(hin:Nn hb M M.states.length ke M.states.length 0 t tn tc g0):
  LL SS aL [1,1,1,1,1,0,1,0,0] (co k k2 ke 0 t tn tc) g0 (KK SS aL [1,1,1,1,1,0,1,0] [] (EE SS aL (sB h (bq (bi M (bE M)),0)))):=by
 refine oL [] k k2 ke (Nn hb M M.states.length ke) _ (fun mz i=> ?_) M.states.length (i:=0) hin;clear hin t tn tc;intro t tn tc;intros; rename_i g hin;obtain ⟨ord,oo,f1,rfl,hg,ot,mi,nt⟩:=hin;have htn:=G0 ot;have hoN:=dp M.states.length oo.nd oo.lt;refine ae (fun q=> ?_) (fun q=> ?_)
 ·have q:=dT q;have hi:i < ord.length:=by omega
  obtain ⟨x,hx⟩: ∃ x,ord[i]?=some x:=⟨_,gE hi⟩
  have hxN:x < M.states.length:=oo.lt x (List.mem_of_getElem? hx);obtain ⟨s,hs⟩: ∃ s,M.states[x]?=some s:=⟨_,gE hxN⟩
  have hsm:=List.mem_of_getElem? hs;have hal:=hA s hsm;have oR:=(Ok.refl mi.ok.wf).room 13;have okR:=mi.ok.trans oR;obtain ⟨b,o1,x',y,z,e1,e2,e3,e4,ar⟩:=mb.row.at2 okR hs;obtain ⟨p,p1,p2⟩:=Mg (ot.ok oR).rd hx;refine ⟨_,bA _,_,_,_,(mb.ok okR).l3,_,p1,_,p2,_,e1,_,bW _ _,_,_,_,e4,(Je okR.wf).mono ?_⟩;rintro _ gV ⟨rfl,kV,oV⟩;refine ⟨_,_,_,rfl,(Ca oV.wf kV (ar.ok (okR.trans oV)) (by omega)).mono ?_⟩;rintro v gS ⟨os,o2⟩;obtain ⟨y2,z2,rfl⟩:=os.slc;have okS:=oR.trans (oV.trans o2);have hf:M.states.length+1 - i=(M.states.length+1 - (i+1))+1:=by omega
  rw [hf,ip hx] at hg;unfold fj at hg;rw [CW hs] at hg;have hr:(Go.Ab.room g 13).next=g.next+13:=rfl;have hVn:=oV.nx;have hke:=mi.ok.wf _ _ mi.row;refine ⟨y2,_,z2,rfl,?_⟩;refine z7 o.wf gd hN (l:=bU s.arcs) (fun q hq=>gd.arcs s hsm q (sortA_mem.1 hq)) (by rw [jz]; omega) oo hi hg ⟨zero_le _,rfl,ot.ok okS,mi.trans okS,os.base (okR.trans oV),fun j e=>⟨fun e'=> ?_,fun e'=> ?_⟩,nt⟩ _
  ·have h1:=(os.lt o2.wf e).2;omega
  ·have h1:=(os.lt o2.wf e).2;have h2:=(ot.lt mi.ok.wf e').1;omega
 ·have q:=dF q;have e:ord=bE M:=by rw [<-hg,nP (by omega)]
  rw [e] at ot mi hoN;have mbg:=mb.ok mi.ok;refine ⟨_,mbg.all,(C4 mi.ok.wf gd hN hA mbg.row ot.rd (il gd)).mono ?_⟩;rintro v gR ⟨a',n',c',ps,rfl,hps,om,okR⟩;have kg:=mi.ok.ext _ _ hk;have kR:=okR.ext _ _ kg;have hkg:=mi.ok.wf _ _ kg;have okA:=(o.trans mi.ok).trans okR;have pa:=cL (t:=24) gK (cs0:=[.int .i64 0,.int .i64 0,aa [],.slice none 0 0]) rfl kR (cs:=aQ (bi M (bE M)) a' n' c') rfl (fy ..);obtain ⟨o6,k6⟩:=dG (cs:=aQ (bi M (bE M)) a' n' c') w okA kR hk2;refine ⟨_,rfl,_,pa,?_⟩;have ne1:aK (.slice a' n' c')≠some k2:=fun e=>by
   have:=(om.row.lt okR.wf e).2; omega
  have ne2: ∀ (i:Nat)(p:MSt×Value),ps[i]?=some p->aK p.2≠some k2:=fun i p hp e=>by
   have:=((om.arcs i p hp).lt okR.wf e).2; omega
  have om6:OwnM h ((Upd.set k2 (.cells (aQ (bi M (bE M)) a' n' c') 24 0 true)).app gR) (.slice a' n' c') ps:=om.low (o.trans mi.ok) fun j B hB hj=>by
   show (gR.set k2 _).get j=_;rw [Heap.get_set,if_neg (by omega)]; exact hB
  generalize (Upd.set k2 (.cells (aQ (bi M (bE M)) a' n' c') 24 0 true)).app gR=g6 at *;refine ⟨_,bA _,_,_,_,cZ EJ LO k6 (by simp [aQ]),?_⟩;have hn':n'=(bi M (bE M)).states.length:=by
   have h1:=om6.st.len;rw [hps] at h1; exact h1
  exact yT w (R:=bi M (bE M)) (by unfold bi; rw [lM]; omega) (CL hA) hk2 hps om6 o6 k6 ne1 ne2
theorem uw (tb:Tab h)(w:Wf h)(sm:Small M)(r:StRow h (.slice a n c) M.states):FW SS 25 [.agg ⟨aQ M a n c⟩] h (sB h (cJ M)):=by
 obtain ⟨mb0,ok0⟩:=ef w r;refine DO (aQ M a n c) h _ ⟨_,gi M a n c,_,qY,?_⟩;have n0:h.next < (h.push (Bm M a n c)).next:=ok0.wf _ _ mb0.box;have tb0:=tb.ok ok0;generalize h.push (Bm M a n c)=g0 at *;have k4:=ay g0 jp;have o1:=(Ok.refl ok0.wf).push jp;have ok1:=ok0.trans o1;have mb1:=mb0.ok o1;have tb1:=tb0.ok o1;have hK1:g0.next < (g0.push jp).next:=ok1.wf _ _ k4;generalize g0.push jp=g1 at *;generalize g0.next=K at *;refine ⟨_,mb1.all,(ya tb1 ok1.wf sm mb1.row).mono ?_⟩;rintro _ g2 ⟨a',n',c',ps,rfl,hps,om,o2⟩;have ok2:=ok1.trans o2;have k42:=o2.ext _ _ k4;have mb2:=mb1.ok o2;have pa:=cL (t:=24) gK (cs0:=aQ M a n c) rfl mb2.box (cs:=aQ (bF M).1 a' n' c') rfl (fy ..);obtain ⟨o3,k3⟩:=dG (cs:=aQ (bF M).1 a' n' c') w ok2 mb2.box (le_refl _);refine ⟨_,_,rfl,_,pa,?_⟩;have kp: ∀ (j:Nat)(B:Blk),h.next < j->g2.get j=some B->((Upd.set h.next (.cells (aQ (bF M).1 a' n' c') 24 0 true)).app g2).get j=some B:=fun j B hj hB=>by
  show (g2.set h.next _).get j=_;rw [Heap.get_set,if_neg (by omega)]; exact hB
 have k43:=kp K _ (by omega) k42;have om3:OwnM h ((Upd.set h.next (.cells (aQ (bF M).1 a' n' c') 24 0 true)).app g2) (.slice a' n' c') ps:=om.low ok1 fun j B hB hj=>kp j B (by omega) hB;generalize (Upd.set h.next (.cells (aQ (bF M).1 a' n' c') 24 0 true)).app g2=g3 at *;refine ae (fun q=> ?_) (fun q=> ?_)
 ·have q:(bF M).2≠0:=by simpa using q
  rw [BD q];exact ⟨_,AT,ml w o3 k43 (by omega) (R:=(mW,(bF M).2)) (ps:=[]) rfl (OwnM.nil h g3) (Ok.refl w) (.inr ⟨rfl,rfl,rfl,rfl⟩)⟩
 have q:(bF M).2=0:=by simpa using q
 obtain ⟨gd,hN,hA⟩:=AH sm q;rw [eC q];generalize (bF M).1=T at *;have st3:=om3.st;rw [hps] at st3;have mb3:MB g3 h.next T a' n' c':=⟨k3,st3⟩
 obtain rfl:n'=T.states.length:=mb3.len;have h0:=gd.start0;have h1:=gd.start1;obtain ⟨S,hS⟩: ∃ S:Nat,T.start=(S:Int):=⟨T.start.toNat,by omega⟩
 have hSt:T.start.toNat=S:=by omega
 have hSn:S < T.states.length:=by omega
 have lS:=mb3.l1;rw [hS] at lS;refine ⟨_,gx _,_,lS,_,_,_,vP _,_,KJ,?_⟩;have oP:=(Ok.refl o3.wf).push (.cells [.int .i64 (S:Int)] 3 1 true);have kP:=ay g3 (.cells [.int .i64 (S:Int)] 3 1 true);have hn4:(g3.push (.cells [.int .i64 (S:Int)] 3 1 true)).next=g3.next+1:=rfl;generalize g3.push (.cells [.int .i64 (S:Int)] 3 1 true)=g4 at *;have oM:=(Ok.refl oP.wf).push (.map []);have kM:=ay g4 (.map []);have lS4:=(mb3.ok (oP.trans oM)).l1;rw [hS] at lS4;have up:=GZ (l:=[]) kM (S:Int);refine ⟨_,gx _,_,lS4,_,up,?_⟩;dsimp only [Upd.app];have hn5:(g4.push (.map [])).next=g4.next+1:=rfl;have ok5:=oP.trans oM;have kP5:=oM.ext _ _ kP;have gt6: ∀ j B,j≠g4.next->(g4.push (.map [])).get j=some B->((g4.push (.map [])).set g4.next (.map ((jy [] (S:Int)).map ji))).get j=some B:=fun j B hne hB=>by
  rw [Heap.get_set,if_neg hne]; exact hB
 have mi:MI g3 g4.next [S] ((g4.push (.map [])).set g4.next (.map ((jy [] (S:Int)).map ji))):=⟨by rw [Heap.get_set,if_pos rfl]; rfl,by omega,ok5.set _ (by omega) (by omega) o3.wf⟩
 have og:OwnG g3 ((g4.push (.map [])).set g4.next (.map ((jy [] (S:Int)).map ji))) 3 (.slice (some ⟨g3.next,0,none⟩) 1 1) ([S].map iv):=OwnG.built (gt6 _ _ (by omega) kP5) (le_refl _) (by show 1 < bj; decide);refine AC w o3 gd hN hA mb3 k43 (by omega) ⟨[S],⟨fun x hx=>by rw [mem_singleton.1 hx]; exact hSn,by simp⟩,zero_le _,rfl,?_,og,mi,fun j hj=> ?_⟩
 ·unfold bE;rw [hSt]; rfl
 ·have e:g3.next=j:=oI hj;omega
end
end
end Go.Proofs.YtoabjjimjldcfaaGreatDoor
end
section
set_option linter.unusedVariables false
set_option maxRecDepth 100000
namespace Go.Proofs.YtoabjjimjldcfaaGreatDoor
open Go Go.Ab Go.ChangeShapes Go.WideShapes Go.RowKit
section
section
variable {W:World}
theorem Bt {f:FuncId}{fn:Func}(hf:Tryz.prog.funcs[f]?=some fn)(hb:fn.body.isSome=true)(hY:f < YB){extra:List Value}(hx:extra.all np=true)
  (hfw: ∀ {h:Heap}(_:Tab h)(_:Wf h){M:Mach}(_:Nm M){a:Option Addr}{n c:Nat}(_:StRow h (.slice a n c) M.states),FW SS f ([.agg ⟨aQ M a n c⟩]++extra) h (fun v h'=>v = .bool true/\Ok h h'))
  {H:Type} {enc:TypeId×Value->H} {base:Nat} {v0:Value} {d0:DataW H} {p:List MemPlace} (hL:laidMetH Tryz.prog fX W) (hval:Value.okWide Tryz.prog W .any base 24 v0)
  (hd:DataW.Trod enc Tryz.prog W 0 (fun _=>true) true 24 v0 d0 p) (hw:(d0.weights Tryz.prog 24).all (· <=reachBytes)=true) {args:Array Value} (ha:args.toList=v0::extra):
  Calls Tryz.prog f args W fun e w'=>e = .returned (.bool true)/\Below W.heap.size W w':=by
 obtain ⟨cs,rfl,_⟩:=okWide_struct Tryz.underlying24 hval;obtain ⟨fuel,hd⟩:=hd;obtain ⟨k,s,ld,v,sts,hcs,hr,hq⟩:=vT hd hw;have hcs:cs = #[.int .i64 k,.int .i64 s,aa ld,v]:=by
  rw [<-Array.toList_inj]; exact hcs
 subst hcs;obtain ⟨β0',h0,i0,g0,t0⟩:=Kc hL;obtain ⟨β1,h1,v',i1,l1,o1,r1,st1⟩:=y7 i0 hr hq (HQ hval);obtain ⟨ps,hps,hrd,_,_⟩:=id st1;obtain ⟨a,c,rfl⟩:=hrd.slc;have hfw:=hfw (M:=⟨k,s,ld,sts.map (·.1)⟩) (t0.ok o1) i1.wf (fun x hx=>by
  obtain ⟨q,hq',rfl⟩:=mem_map.1 hx;exact (hq q hq').2) st1
 refine (yg text_ok Is hfw hY hf hb i1 (g0.mono l1) (args':=args) ?_).mono ?_
 ·rw [ha];exact .cons (.agg rfl (ARel.toList.2 (.cons (.int _ _) (.cons (.int _ _) (.cons (.string _) (.cons r1 (.nil _)))))).2) (LRel.of_bares hx)
 ·rintro e w' ⟨x,x',h',β',rfl,⟨rfl,_⟩,hx,_,hb⟩
  cases hx
  exact ⟨rfl,hb⟩
end
end
end Go.Proofs.YtoabjjimjldcfaaGreatDoor
end
section
set_option linter.unusedVariables false
set_option maxRecDepth 100000
namespace Go.Proofs.YtoabjjimjldcfaaGreatDoor
open Go Go.Ab
section
theorem hG: ∀ {l:List Nat}{i j x:Nat},l.Nodup->l[j]?=some x->bK l i x=((i+j:Nat):Int)
 | [],_,_,_,_,h=>by simp at h
 | o::r,i,0,x,hn,h=>by
  obtain rfl:o=x:=by simpa using h
  unfold bK; rw [if_pos rfl]; simp
 | o::r,i,j+1,x,hn,h=>by
  have hx:r[j]?=some x:=by simpa using h
  have hne:o≠x:=fun e=>(nodup_cons.1 hn).1 (e ▸ List.mem_of_getElem? hx);unfold bK;rw [if_neg hne,hG (nodup_cons.1 hn).2 hx];omega
theorem rH: ∀ {l:List Nat}{i j x:Nat},bK l i x=((i+j:Nat):Int)->l[j]?=some x
 | [],i,j,x,h=>by unfold bK at h; omega
 | o::r,i,j,x,h=>by
  unfold bK at h;split at h
  ·next e=>
   obtain rfl:j=0:=by omega
   rw [e]; rfl
  ·have h2:=iH r (i+1) x;obtain ⟨j',rfl⟩: ∃ j',j=j'+1:=⟨j - 1,by omega⟩
   show r[j']?=some x;exact rH (i:=i+1) (by rw [h]; omega)
theorem iO {α β:Type}{f g:α->Option β}: ∀ {l:List α},(∀ q∈l,f q=g q)->l.filterMap f=l.filterMap g
 | [],_=>rfl
 | q::l,h=>by
  rw [filterMap_cons,filterMap_cons,h q (mem_cons_self ..),iO fun x hx=>h x (mem_cons_of_mem _ hx)]
theorem oy {α:Type}{f:α->Option α}: ∀ {l:List α},(∀ q∈l,f q=some q)->l.filterMap f=l
 | [],_=>rfl
 | q::l,h=>by
  rw [filterMap_cons,h q (mem_cons_self ..)];dsimp only;rw [oy fun x hx=>h x (mem_cons_of_mem _ hx)]
section
variable {M:Mach} {ord:List Nat}
theorem nT {i x:Nat}(h:ord[i]?=some x):(bi M ord).states[i]?=some (eL M ord x):=by
 show (ord.map (eL M ord))[i]?=_;rw [getElem?_map,h]; rfl
theorem cx:(bi M ord).states.length=ord.length:=by unfold bi; simp
theorem J3 {i:Nat}{s:MSt}(h:(bi M ord).states[i]?=some s): ∃ x,ord[i]?=some x/\s=eL M ord x:=by
 change (ord.map (eL M ord))[i]?=some s at h;rw [getElem?_map] at h;obtain ⟨x,h1,h2⟩:=map_eq_some_iff.1 h;exact ⟨x,h1,h2.symm⟩
theorem eR {x:Nat}(h:x < M.states.length):M.states[x]?=some (M.states.getD x ⟨[],[]⟩):=by
 rw [gD,gE h]; rfl
theorem xJ (gd:Good M)(oo:OrdOk M.states.length ord){i j:Nat}:bn (bi M ord) i j↔ ∃ x y,ord[i]?=some x/\ord[j]?=some y/\bn M x y:=by
 constructor
 ·rintro ⟨s,hs,hj⟩;obtain ⟨x,hx,rfl⟩:=J3 hs;obtain ⟨q,hq,rfl⟩:=mem_map.1 hj;obtain ⟨p,hp,he⟩:=mem_filterMap.1 hq;have hxn:=oo.lt x (List.mem_of_getElem? hx);unfold ci at he;split at he
  ·cases he
  ·next hne=>
   obtain rfl:=oI he;have hr:=iH ord 0 p.t.toNat;have e:bK ord 0 p.t.toNat=((0+(bK ord 0 p.t.toNat).toNat:Nat):Int):=by omega
   exact ⟨x,p.t.toNat,hx,rH e,_,eR hxn,mem_map.2 ⟨p,hp,rfl⟩⟩
 ·rintro ⟨x,y,hx,hy,s,hs,hm⟩;obtain ⟨p,hp,rfl⟩:=mem_map.1 hm;have hxs:M.states.getD x ⟨[],[]⟩=s:=by rw [gD,hs]; rfl
  have e:=hG (i:=0) oo.nd hy;refine ⟨_,nT hx,mem_map.2 ⟨⟨p.i,p.o,p.w,bK ord 0 p.t.toNat⟩,mem_filterMap.2 ⟨p,by rw [hxs]; exact hp,?_⟩,?_⟩⟩
  ·unfold ci; rw [if_neg (by rw [e]; omega)]
  ·show (bK ord 0 p.t.toNat).toNat=j;rw [e]; omega
theorem JH (oo:OrdOk M.states.length ord){i x:Nat}(hx:ord[i]?=some x):iC (bi M ord) i↔iC M x:=by
 have hxn:=oo.lt x (List.mem_of_getElem? hx);constructor
 ·rintro ⟨s,hs,hf⟩;rw [nT hx] at hs;obtain rfl:=oI hs;exact ⟨_,eR hxn,hf⟩
 ·rintro ⟨s,hs,hf⟩;have hxs:M.states.getD x ⟨[],[]⟩=s:=by rw [gD,hs]; rfl
  refine ⟨_,nT hx,?_⟩;show (M.states.getD x ⟨[],[]⟩).f≠[];rw [hxs]; exact hf
theorem fY (gd:Good M){x y:Nat}(h:bn M x y):x < M.states.length/\y < M.states.length:=by
 obtain ⟨s,hs,hm⟩:=h;obtain ⟨q,hq,rfl⟩:=mem_map.1 hm;have a:=gd.arcs s (List.mem_of_getElem? hs) q hq;have h0:=a.t0;have h1:=a.t1;exact ⟨(List.getElem?_eq_some_iff.1 hs).1,by omega⟩
theorem fZ (gd:Good M):M.start.toNat < M.states.length:=by
 have h0:=gd.start0;have h1:=gd.start1;omega
theorem Ig (gd:Good M){x:Nat}(h:Num.Rch (bn M) (fun y=>y=M.start.toNat) x):x < M.states.length:=by
 cases h with
 | base h=>rw [h]; exact fZ gd
 | step h e=>exact (fY gd e).2
theorem ju (gd:Good M){x:Nat}:x∈iV M↔bD M x:=by
 unfold iV;rw [List.mem_filter,mem_range];constructor
 ·rintro ⟨_,h⟩;exact @of_decide_eq_true _ (Classical.propDecidable _) h
 ·intro h;exact ⟨Ig gd h.1,@decide_eq_true _ (Classical.propDecidable _) h⟩
def oK (M:Mach):Prop:= ∀ x,x < M.states.length->bD M x
theorem Fa (oo:OrdOk M.states.length ord)(hs:M.start.toNat∈ord): ∃ i,ord[i]?=some M.start.toNat/\(bi M ord).start=((i:Nat):Int):=by
 obtain ⟨i,hi⟩:=getElem?_of_mem hs;refine ⟨i,hi,?_⟩;show bK ord 0 M.start.toNat=_;rw [hG oo.nd hi]; simp
theorem yG (gd:Good M)(oo:OrdOk M.states.length ord)(hu: ∀ x,x∈ord↔bD M x)(hs:bD M M.start.toNat):oK (bi M ord):=by
 intro i hi;rw [cx] at hi;obtain ⟨x,hx⟩: ∃ x,ord[i]?=some x:=⟨_,gE hi⟩
 have ux:=(hu x).1 (List.mem_of_getElem? hx);obtain ⟨i0,h0,e0⟩:=Fa oo ((hu _).2 hs);have e0':(bi M ord).start.toNat=i0:=by omega
 constructor
 ·have key: ∀ {x:Nat},Num.Rch (bn M) (fun y=>y=M.start.toNat) x->Num.Rch (fun y x=>bn M x y) (iC M) x-> ∀ i,ord[i]?=some x->Num.Rch (bn (bi M ord)) (fun y=>y=(bi M ord).start.toNat) i:=by
   intro x h1
   induction h1 with
   | @base x hx=>
    subst hx;intro _ i hi;refine .base ?_;rw [e0'];exact el oo.nd hi h0
   | @step y x hy e ih=>
    intro h2 i hi;have h3:Num.Rch (fun y x=>bn M x y) (iC M) y:= .step h2 e;obtain ⟨j,hj⟩:=getElem?_of_mem ((hu y).2 ⟨hy,h3⟩);exact .step (ih h3 j hj) ((xJ gd oo).2 ⟨y,x,hj,hi,e⟩)
  exact key ux.1 ux.2 i hx
 ·have key: ∀ {x:Nat},Num.Rch (fun y x=>bn M x y) (iC M) x->Num.Rch (bn M) (fun y=>y=M.start.toNat) x-> ∀ i,ord[i]?=some x->Num.Rch (fun y x=>bn (bi M ord) x y) (iC (bi M ord)) i:=by
   intro x h1
   induction h1 with
   | @base x hx=>exact fun _ i hi=> .base ((JH oo hi).2 hx)
   | @step y x hy e ih=>
    intro h2 i hi;have h3:Num.Rch (bn M) (fun y=>y=M.start.toNat) y:= .step h2 e;obtain ⟨j,hj⟩:=getElem?_of_mem ((hu y).2 ⟨h3,hy⟩);exact .step (ih h3 j hj) ((xJ gd oo).2 ⟨x,y,hi,hj,e⟩)
  exact key ux.2 ux.1 i hx
theorem vn (gd:Good M):bi M (List.range M.states.length)=M:=by
 have key: ∀ y,y < M.states.length->bK (List.range M.states.length) 0 y=(y:Int):=fun y hy=>by
  rw [hG nodup_range (getElem?_range hy)]; simp
 have hst:(List.range M.states.length).map (eL M (List.range M.states.length))=M.states:=by
  refine List.ext_getElem? fun i=> ?_;rw [getElem?_map];by_cases hi:i < M.states.length
  ·rw [getElem?_range hi,eR hi];show some (eL M _ i)=_;congr 1;unfold eL;have e:(M.states.getD i ⟨[],[]⟩).arcs.filterMap (ci (List.range M.states.length))=(M.states.getD i ⟨[],[]⟩).arcs:=by
    have: ∀ q∈(M.states.getD i ⟨[],[]⟩).arcs,ci (List.range M.states.length) q=some q:=fun q hq=>by
     have a:=gd.arcs _ (List.mem_of_getElem? (eR hi)) q hq;have h0:=a.t0;have h1:=a.t1;unfold ci;rw [key q.t.toNat (by omega),if_neg (by omega)];have e2:((q.t.toNat:Nat):Int)=q.t:=by omega
     rw [e2]
    exact oy this
   rw [e]
  ·rw [getElem?_eq_none (by simpa using hi),getElem?_eq_none (by omega)]; rfl
 have h0:=gd.start0;have h1:=gd.start1;have e1:=key M.start.toNat (by omega);unfold bi;rw [hst,e1];have e2:((M.start.toNat:Nat):Int)=M.start:=by omega
 rw [e2]
theorem sE (hv:aN M=true)(au:oK M):bF M=(M,0):=by
 have gd:=bC hv;rw [f7 hv (au _ (fZ gd))];have e:iV M=List.range M.states.length:=by
  unfold iV;rw [List.filter_eq_self];intro x hx;exact @decide_eq_true _ (Classical.propDecidable _) (au x (mem_range.1 hx))
 rw [e,vn gd]
end
end
section
theorem jV (f:Nat->Nat): ∀ (n:Nat)(l:List Nat),l.Nodup->(∀ x∈l,x < n)->(l.map f).sum<=((List.range n).map f).sum
 | 0,[],_,_=>le_refl _
 | 0,x::l,_,h=>absurd (h x (mem_cons_self ..)) (Nat.not_lt_zero _)
 | n+1,l,hn,h=>by
  rw [List.range_succ,map_append,List.sum_append];by_cases hm:n∈l
  ·have hp:=List.perm_cons_erase hm;rw [(hp.map f).sum_nat];have ih:=jV f n (l.erase n) (hn.erase n) (fun x hx=>by
    have h1:=h x (List.mem_of_mem_erase hx);have h2:x≠n:=fun e=>by subst e; exact (hn.not_mem_erase) hx
    omega)
   simp only [List.map_cons,sum_cons,List.map_nil,List.sum_nil];omega
  ·have ih:=jV f n l hn (fun x hx=>by
    have h1:=h x hx;have h2:x≠n:=fun e=>hm (e ▸ hx);omega)
   omega
theorem ny (M:Mach):fe M.states=((List.range M.states.length).map fun x=>(M.states.getD x ⟨[],[]⟩).arcs.length).sum:=by
 unfold fe;congr 1;refine List.ext_getElem? fun i=> ?_;rw [getElem?_map,getElem?_map];by_cases hi:i < M.states.length
 ·rw [getElem?_range hi,eR hi]; rfl
 ·rw [getElem?_eq_none (by omega),getElem?_eq_none (by simpa using hi)]; rfl
theorem nQ {kind:Int}{N:Nat}: ∀ {l:List MSt}{acc:Int},acc+(fe l:Nat)<=30000->(∀ s∈l,(s.f == [] || Num.weightOk kind s.f)=true/\s.arcs.all (iM kind N)=true)->gL kind N acc l=true
 | [],_,_,_=>rfl
 | s::l,acc,h,hs=>by
  rw [fJ] at h;have h1:=hs s (mem_cons_self ..);unfold gL;rw [h1.1,h1.2,nQ (acc:=acc+s.arcs.length) (by omega) fun x hx=>hs x (mem_cons_of_mem _ hx)];simp;omega
theorem vh {kind:Int}{N:Nat}: ∀ {l:List MSt}{acc:Int},l≠[]->gL kind N acc l=true->acc+(fe l:Nat)<=30000
 | [],_,h,_=>absurd rfl h
 | [s],acc,_,h=>by
  unfold gL at h;simp only [and_eq_true,decide_eq_true_eq] at h;rw [fJ];have:fe []=0:=rfl;omega
 | s::x::l,acc,_,h=>by
  unfold gL at h;simp only [and_eq_true] at h;have ih:=vh (l:=x::l) (by simp) h.2;rw [fJ];omega
section
variable {M:Mach} {ord:List Nat}
theorem De (oo:OrdOk M.states.length ord):fe (bi M ord).states<=fe M.states:=by
 rw [ny M];refine le_trans ?_ (jV _ M.states.length ord oo.nd oo.lt);show ((ord.map (eL M ord)).map fun s=>s.arcs.length).sum<=_;rw [map_map];have: ∀ l:List Nat,(l.map ((fun s:MSt=>s.arcs.length)∘eL M ord)).sum<=(l.map fun x=>(M.states.getD x ⟨[],[]⟩).arcs.length).sum:=fun l=>by
  induction l with
  | nil=>exact le_refl _
  | cons x l ih=>
   rw [List.map_cons,List.map_cons,sum_cons,sum_cons];have:(eL M ord x).arcs.length<=(M.states.getD x ⟨[],[]⟩).arcs.length:=List.length_filterMap_le ..;show (eL M ord x).arcs.length+_<=_;omega
 exact this ord
theorem CI {i:Nat}{s:MSt}{q:MArc}(oo:OrdOk M.states.length ord)(hs:s∈(bi M ord).states)(hq:q∈s.arcs): ∃ s0∈M.states,∃ p∈s0.arcs,s.f=s0.f/\q.i=p.i/\q.o=p.o/\q.w=p.w/\0<=q.t/\q.t < ord.length:=by
 obtain ⟨x,hx,rfl⟩:=mem_map.1 hs;obtain ⟨p,hp,he⟩:=mem_filterMap.1 hq;have h0:=eR (oo.lt x hx);unfold ci at he;split at he
 ·cases he
 ·next hne=>
  obtain rfl:=oI he;have h3:=iH ord 0 p.t.toNat;refine ⟨_,List.mem_of_getElem? h0,p,hp,rfl,rfl,rfl,rfl,?_,?_⟩
  ·show 0<=bK ord 0 p.t.toNat;omega
  ·show bK ord 0 p.t.toNat < _;omega
theorem wx {s:MSt}(oo:OrdOk M.states.length ord)(hs:s∈(bi M ord).states): ∃ s0∈M.states,s.f=s0.f/\s.arcs.length<=s0.arcs.length:=by
 obtain ⟨x,hx,rfl⟩:=mem_map.1 hs;exact ⟨_,List.mem_of_getElem? (eR (oo.lt x hx)),rfl,List.length_filterMap_le ..⟩
theorem cF (h:aN M=true):(1<=M.kind/\M.kind<=3)/\(1<=M.states.length/\M.states.length<=3000)/\(0<=M.start/\M.start < M.states.length)/\Num.weightOk M.kind M.lead=true/\gL M.kind M.states.length 0 M.states=true:=by
 unfold aN at h;simp only [and_eq_true,decide_eq_true_eq] at h;obtain ⟨⟨⟨⟨⟨⟨⟨h1,h2⟩,h3⟩,h4⟩,h5⟩,h6⟩,h7⟩,h8⟩:=h;exact ⟨⟨h1,h2⟩,⟨h3,h4⟩,⟨h5,h6⟩,h7,h8⟩
theorem pT (h1:1<=M.kind/\M.kind<=3)(h2:1<=M.states.length/\M.states.length<=3000)(h3:0<=M.start/\M.start < M.states.length)(h4:Num.weightOk M.kind M.lead=true)(h5:gL M.kind M.states.length 0 M.states=true):aN M=true:=by
 unfold aN;simp only [and_eq_true,decide_eq_true_eq];exact ⟨⟨⟨⟨⟨⟨⟨h1.1,h1.2⟩,h2.1⟩,h2.2⟩,h3.1⟩,h3.2⟩,h4⟩,h5⟩
theorem pY (h:aN M=true):fe M.states<=30000:=by
 obtain ⟨_,h2,_,_,h5⟩:=cF h;have:=vh (fun e=>by rw [e] at h2; exact absurd h2.1 (by decide)) h5;omega
theorem uA (hv:aN M=true)(oo:OrdOk M.states.length ord)(hs:M.start.toNat∈ord):aN (bi M ord)=true:=by
 have gd:=bC hv;have gT:=lP gd hs;obtain ⟨h1,h2,h3,h4,h5⟩:=cF hv;have hl:=dp _ oo.nd oo.lt;have hp:=List.length_pos_of_mem hs;refine pT h1 ⟨by rw [cx]; omega,by rw [cx]; omega⟩ ⟨gT.start0,gT.start1⟩ h4 (nQ ?_ fun s hs=>⟨?_,?_⟩)
 ·have:=De oo;have:=pY hv;omega
 ·obtain ⟨s0,hs0,e,_⟩:=wx oo hs;rw [e];exact (fE h5 s0 hs0).1
 ·rw [all_eq_true];intro q hq;obtain ⟨s0,hs0,p,hp,e1,e2,e3,e4,e5,e6⟩:=CI (i:=0) oo hs hq;have ap:=(fE h5 s0 hs0).2 p hp;unfold iM at ap ⊢;simp only [and_eq_true,decide_eq_true_eq] at ap ⊢;rw [e2,e3,e4,cx];exact ⟨⟨⟨ap.1.1.1,e5⟩,e6⟩,ap.2⟩
theorem vz (sm:Small M)(oo:OrdOk M.states.length ord):Small (bi M ord):=by
 have hl:=dp _ oo.nd oo.lt;refine ⟨sm.lead,by rw [cx]; exact le_trans hl sm.sts,fun s hs=> ?_,fun s hs=> ?_,fun s hs q hq=> ?_,le_trans (De oo) sm.tot⟩
 ·obtain ⟨s0,h0,e,_⟩:=wx oo hs;rw [e]; exact sm.fin s0 h0
 ·obtain ⟨s0,h0,_,e⟩:=wx oo hs;exact le_trans e (sm.arcs s0 h0)
 ·obtain ⟨s0,hs0,p,hp,e1,e2,e3,e4,e5,e6⟩:=CI (i:=0) oo hs hq;rw [e4]; exact sm.w s0 hs0 p hp
theorem zi:fe (bq M).states=fe M.states:=by
 unfold fe bq;rw [map_map];congr 1;exact map_congr_left fun s _=>jz s.arcs
theorem f0:(bq M).states.length=M.states.length:=by unfold bq; simp
theorem BA (hv:aN M=true):aN (bq M)=true:=by
 obtain ⟨h1,h2,h3,h4,h5⟩:=cF hv;refine pT h1 (by rw [f0]; exact h2) (by rw [f0]; exact h3) h4 (nQ ?_ fun s hs=> ?_)
 ·have:=pY hv;rw [zi]; omega
 ·obtain ⟨s0,h0,rfl⟩:=mem_map.1 hs;refine ⟨(fE h5 s0 h0).1,?_⟩;rw [all_eq_true];intro q hq;rw [f0];exact (fE h5 s0 h0).2 q (sortA_mem.1 hq)
theorem Aq (sm:Small M):Small (bq M):=by
 refine ⟨sm.lead,by rw [f0]; exact sm.sts,fun s hs=> ?_,fun s hs=> ?_,fun s hs q hq=> ?_,by rw [zi]; exact sm.tot⟩
 ·obtain ⟨s0,h0,rfl⟩:=mem_map.1 hs;exact sm.fin s0 h0
 ·obtain ⟨s0,h0,rfl⟩:=mem_map.1 hs;show (bU s0.arcs).length<=_;rw [jz]; exact sm.arcs s0 h0
 ·obtain ⟨s0,h0,rfl⟩:=mem_map.1 hs;exact sm.w s0 h0 q (sortA_mem.1 hq)
theorem sort_at_ {x:Nat}{s:MSt}:(bq M).states[x]?=some s↔ ∃ s0,M.states[x]?=some s0/\s=⟨s0.f,bU s0.arcs⟩:=by
 show (M.states.map _)[x]?=some s↔_;rw [getElem?_map,map_eq_some_iff];constructor
 ·rintro ⟨a,h1,h2⟩; exact ⟨a,h1,h2.symm⟩
 ·rintro ⟨a,h1,h2⟩; exact ⟨a,h1,h2.symm⟩
theorem sort_succ {x y:Nat}:bn (bq M) x y↔bn M x y:=by
 constructor
 ·rintro ⟨s,hs,hm⟩;obtain ⟨s0,h0,rfl⟩:=sort_at_.1 hs;obtain ⟨q,hq,rfl⟩:=mem_map.1 hm;exact ⟨s0,h0,mem_map.2 ⟨q,sortA_mem.1 hq,rfl⟩⟩
 ·rintro ⟨s,hs,hm⟩;obtain ⟨q,hq,rfl⟩:=mem_map.1 hm;exact ⟨_,sort_at_.2 ⟨s,hs,rfl⟩,mem_map.2 ⟨q,sortA_mem.2 hq,rfl⟩⟩
theorem sort_fin {x:Nat}:iC (bq M) x↔iC M x:=by
 constructor
 ·rintro ⟨s,hs,hm⟩;obtain ⟨s0,h0,rfl⟩:=sort_at_.1 hs;exact ⟨s0,h0,hm⟩
 ·rintro ⟨s,hs,hm⟩;exact ⟨_,sort_at_.2 ⟨s,hs,rfl⟩,hm⟩
theorem xW {E E':Nat->Nat->Prop}{F F':Nat->Prop}(hE: ∀ x y,E x y->E' x y)(hF: ∀ x,F x->F' x){x:Nat}(h:Num.Rch E F x):Num.Rch E' F' x:=by
 induction h with
 | base h=>exact .base (hF _ h)
 | step _ e ih=>exact .step ih (hE _ _ e)
theorem xY {x:Nat}(h:bD M x):bD (bq M) x:=
 ⟨xW (fun _ _=>sort_succ.2) (fun _ h=>h) h.1,xW (fun _ _=>sort_succ.2) (fun _=>sort_fin.2) h.2⟩
theorem DM (h:oK M):oK (bq M):=fun x hx=>xY (h x (by rw [f0] at hx; exact hx))
end
end
theorem Gh (ord:List Nat)(q:MArc):ord <+: bM ord q:=by
 unfold bM; split
 ·exact prefix_rfl
 ·exact List.prefix_append ..
theorem fx: ∀ (l:List MArc)(ord:List Nat),ord <+: l.foldl bM ord
 | [],_=>prefix_rfl
 | q::l,ord=>(Gh ord q).trans (fx l _)
theorem addT_mem {ord:List Nat}{q:MArc}{y:Nat}:y∈bM ord q↔y∈ord\/q.t.toNat=y:=by
 unfold bM; split
 ·next h=>
  constructor
  ·exact .inl
  ·rintro (h1 | rfl)
   ·exact h1
   ·exact h
 ·rw [mem_append,mem_singleton,eq_comm (a:=y)]
theorem foldT_mem {y:Nat}: ∀ {l:List MArc}{ord:List Nat},y∈l.foldl bM ord↔y∈ord\/ ∃ q∈l,q.t.toNat=y
 | [],ord=>by simp
 | q::l,ord=>by
  rw [foldl_cons,foldT_mem,addT_mem];constructor
  ·rintro ((h | h) | ⟨x,h1,h2⟩)
   ·exact .inl h
   ·exact .inr ⟨q,mem_cons_self ..,h⟩
   ·exact .inr ⟨x,mem_cons_of_mem _ h1,h2⟩
  ·rintro (h | ⟨x,h1,h2⟩)
   ·exact .inl (.inl h)
   ·rcases mem_cons.1 h1 with rfl | h1
    ·exact .inl (.inr h2)
    ·exact .inr ⟨x,h1,h2⟩
theorem nD {α:Type}{a b:List α}(h:a <+: b){i:Nat}{x:α}(hx:a[i]?=some x):b[i]?=some x:=by
 obtain ⟨t,rfl⟩:=h;rw [List.getElem?_append_left (List.getElem?_eq_some_iff.1 hx).1]; exact hx
theorem rV {α:Type}{a b:List α}(h:a <+: b){i:Nat}{x:α}(hx:b[i]?=some x)(hi:i < a.length):a[i]?=some x:=by
 obtain ⟨t,rfl⟩:=h;rw [List.getElem?_append_left hi] at hx; exact hx
theorem lO (M:Mach): ∀ (f i:Nat)(ord:List Nat),ord <+: iW M f i ord
 | 0,_,_=>prefix_rfl
 | f+1,i,ord=>by
  unfold iW; split
  ·exact prefix_rfl
  ·exact (fx _ _).trans (lO M f (i+1) _)
theorem qA {M:Mach}(gd:Good M): ∀ (f i:Nat){ord:List Nat},OrdOk M.states.length ord->(∀ a x,a < i->ord[a]?=some x-> ∀ y,bn M x y->y∈ord)->M.states.length+1<=i+f-> ∀ x∈iW M f i ord,∀ y,bn M x y->y∈iW M f i ord
 | 0,i,ord,o,hc,hf,x,hx,y,hy=>by
  have hx:x∈ord:=hx;obtain ⟨a,ha⟩:=getElem?_of_mem hx;have h1:=dp _ o.nd o.lt;have h2:=(List.getElem?_eq_some_iff.1 ha).1;exact hc a x (by omega) ha y hy
 | f+1,i,ord,o,hc,hf,x,hx,y,hy=>by
  cases hi:ord[i]? with
  | none=>
   unfold iW at hx ⊢;rw [hi] at hx ⊢;dsimp only at hx ⊢;obtain ⟨a,ha⟩:=getElem?_of_mem hx;have h2:=(List.getElem?_eq_some_iff.1 ha).1;have h3:=List.getElem?_eq_none_iff.1 hi;exact hc a x (by omega) ha y hy
  | some s=>
   rw [ip hi] at hx ⊢;refine qA gd f (i+1) (nC gd o s) (fun a z ha hz u hu=> ?_) (by omega) x hx y hy;have hpre:ord <+: fj M ord s:=fx _ _;have hil:=(List.getElem?_eq_some_iff.1 hi).1;by_cases e:a=i
   ·subst e;have hz':=rV hpre hz hil;rw [hi] at hz';obtain rfl:=oI hz';obtain ⟨st,hst,hm⟩:=hu;obtain ⟨q,hq,rfl⟩:=mem_map.1 hm;refine foldT_mem.2 (.inr ⟨q,sortA_mem.2 ?_,rfl⟩);rw [gD,hst]; exact hq
   ·have hz':=rV hpre hz (by omega);exact hpre.subset (hc a z (by omega) hz' u hu)
theorem pf {M:Mach}(gd:Good M)(au:oK M){x:Nat}:x∈bE M↔x < M.states.length:=by
 constructor
 ·exact (il gd).lt x
 ·intro hx;have hcl: ∀ x∈bE M,∀ y,bn M x y->y∈bE M:=fun x hx y hy=>qA gd _ 0 (wG gd) (fun a x ha=>absurd ha (Nat.not_lt_zero _)) (by omega) x hx y hy;have key: ∀ {x:Nat},Num.Rch (bn M) (fun y=>y=M.start.toNat) x->x∈bE M:=fun h=>by
   induction h with
   | base h=>subst h; exact (lO M _ 0 _).subset (mem_singleton.2 rfl)
   | step _ e ih=>exact hcl _ ih _ e
  exact key (au x hx).1
def Hf (ord:List Nat)(q:MArc):MArc:=⟨q.i,q.o,q.w,bK ord 0 q.t.toNat⟩
theorem Cj {ordT:List Nat}{L:List MArc}(hn:(L.foldl bM ordT).Nodup){p1 j j0 y0:Nat}{q:MArc}(hq:L[p1]?=some q)(hj:(L.foldl bM ordT)[j]?=some q.t.toNat)(h0:(L.foldl bM ordT)[j0]?=some y0)(hk:ordT.length<=j0)(hlt:j0 < j): ∃ b∈L.take p1,b.t.toNat=y0:=by
 have hpre:(L.take (p1+1)).foldl bM ordT <+: L.foldl bM ordT:=by
  have:=fx (L.drop (p1+1)) ((L.take (p1+1)).foldl bM ordT);rwa [<-foldl_append,List.take_append_drop] at this
 have e:(L.take (p1+1)).foldl bM ordT=bM ((L.take p1).foldl bM ordT) q:=by
  rw [take_add_one,hq,foldl_append]; rfl
 have hm:q.t.toNat∈(L.take (p1+1)).foldl bM ordT:=by rw [e]; exact addT_mem.2 (.inr rfl)
 obtain ⟨j',hj'⟩:=getElem?_of_mem hm;have ej:j'=j:=el hn (nD hpre hj') hj;subst ej;have h1:=rV hpre h0 (by have:=(List.getElem?_eq_some_iff.1 hj').1; omega);have h2:=List.mem_of_getElem? h1;rw [e,addT_mem] at h2;have hne:q.t.toNat≠y0:=fun e2=>by
  rw [<-e2] at h0;have:=el hn h0 hj;omega
 rcases h2 with h2 | h2
 ·rcases foldT_mem.1 h2 with h3 | h3
  ·obtain ⟨a,ha⟩:=getElem?_of_mem h3;have:=el hn (nD (fx L ordT) ha) h0;have:=(List.getElem?_eq_some_iff.1 ha).1;omega
  ·exact h3
 ·exact absurd h2 hne
theorem BJ {ord ordT:List Nat}(hn:ord.Nodup){L L':List MArc}(hp:L.foldl bM ordT <+: ord)(hs:L.Pairwise ua)(hs':L'.Pairwise ua)(hperm:L'.Perm (L.map (Hf ord))):L'.foldl bM (List.range ordT.length)=List.range (L.foldl bM ordT).length:=by
 have hnR:(L.foldl bM ordT).Nodup:=hn.sublist hp.sublist;have tgt: ∀ q∈L,∃ j,j < (L.foldl bM ordT).length/\(L.foldl bM ordT)[j]?=some q.t.toNat/\(Hf ord q).t=(j:Int):=fun q hq=>by
  obtain ⟨j,hj⟩:=getElem?_of_mem (foldT_mem.2 (.inr ⟨q,hq,rfl⟩):q.t.toNat∈L.foldl bM ordT);refine ⟨j,(List.getElem?_eq_some_iff.1 hj).1,hj,?_⟩;show bK ord 0 q.t.toNat=_;rw [hG hn (nD hp hj)]; simp
 have hkK:ordT.length<=(L.foldl bM ordT).length:=pZ L ordT;have claim: ∀ p,p<=L'.length-> ∃ m,ordT.length<=m/\m<=(L.foldl bM ordT).length/\(L'.take p).foldl bM (List.range ordT.length)=List.range m:=by
  intro p
  induction p with
  | zero=>exact fun _=>⟨ordT.length,le_refl _,hkK,rfl⟩
  | succ p ih=>
   intro hp1;obtain ⟨m,m1,m2,m3⟩:=ih (by omega);obtain ⟨a,ha⟩: ∃ a,L'[p]?=some a:=⟨_,gE (by omega)⟩
   obtain ⟨q,hq,rfl⟩:=mem_map.1 (hperm.subset (List.mem_of_getElem? ha));obtain ⟨j,j1,j2,j3⟩:=tgt q hq;have jt:(Hf ord q).t.toNat=j:=by omega
   have et:(L'.take (p+1)).foldl bM (List.range ordT.length)=bM (List.range m) (Hf ord q):=by
    rw [take_add_one,ha,foldl_append,m3]; rfl
   rw [et];unfold bM;rw [jt];by_cases hjm:j < m
   ·exact ⟨m,m1,m2,by rw [if_pos (mem_range.2 hjm)]⟩
   ·have hj:j=m:=by
     refine Classical.byContradiction fun hne=> ?_;obtain ⟨y0,h0⟩: ∃ y0,(L.foldl bM ordT)[m]?=some y0:=⟨_,gE (by omega)⟩
     obtain ⟨p1,hp1⟩:=getElem?_of_mem hq;obtain ⟨b,hb,hbt⟩:=Cj hnR hp1 j2 h0 m1 (by omega);have hbL:b∈L:=List.mem_of_mem_take hb;have hle:ua b q:=by
      obtain ⟨p2,hp2⟩:=getElem?_of_mem hb;have hlt:p2 < p1:=by
       have:=(List.getElem?_eq_some_iff.1 hp2).1;rw [length_take] at this; omega
      rw [getElem?_take,if_pos hlt] at hp2;obtain ⟨g1,e1⟩:=List.getElem?_eq_some_iff.1 hp2;obtain ⟨g2,e2⟩:=List.getElem?_eq_some_iff.1 hp1;have:=List.pairwise_iff_getElem.1 hs p2 p1 g1 g2 hlt;rw [e1,e2] at this; exact this
     have hbm:(Hf ord b).t=(m:Int):=by
      show bK ord 0 b.t.toNat=_;rw [hbt,hG hn (nD hp h0)]; simp
     have hbef:jF (Hf ord b) (Hf ord q)=true:=by
      unfold ua at hle;rw [iK] at hle ⊢;rw [hbm,j3];show b.i < q.i\/b.i=q.i/\(b.o < q.o\/b.o=q.o/\(aV b.w q.w=true\/b.w=q.w/\(m:Int) < j));by_cases c1:b.i < q.i
      ·exact .inl c1
      ·have e1:b.i=q.i:=by
        have: ¬ q.i < b.i:=fun h=>hle (.inl h);omega
       refine .inr ⟨e1,?_⟩;by_cases c2:b.o < q.o
       ·exact .inl c2
       ·have e2:b.o=q.o:=by
         have: ¬ q.o < b.o:=fun h=>hle (.inr ⟨e1.symm,.inl h⟩);omega
        refine .inr ⟨e2,?_⟩;by_cases c3:aV b.w q.w=true
        ·exact .inl c3
        ·have e3:b.w=q.w:=lD c3 fun h=>hle (.inr ⟨e1.symm,.inr ⟨e2.symm,.inl h⟩⟩);exact .inr ⟨e3,by omega⟩
     obtain ⟨p2,hp2⟩:=getElem?_of_mem (hperm.mem_iff.2 (mem_map.2 ⟨b,hbL,rfl⟩));have hlt:p2 < p:=by
      refine Classical.byContradiction fun hge=> ?_;by_cases e:p2=p
      ·rw [e,ha] at hp2;have:=oI hp2;rw [this] at hbef;exact tH _ hbef
      ·obtain ⟨g1,e1⟩:=List.getElem?_eq_some_iff.1 hp2;obtain ⟨g2,e2⟩:=List.getElem?_eq_some_iff.1 ha;have:=List.pairwise_iff_getElem.1 hs' p p2 g2 g1 (by omega);rw [e1,e2] at this;exact this hbef
     have hmem:m∈(L'.take p).foldl bM (List.range ordT.length):=by
      refine foldT_mem.2 (.inr ⟨Hf ord b,List.mem_of_getElem? (i:=p2) (by rw [getElem?_take,if_pos hlt]; exact hp2),by omega⟩)
     rw [m3,mem_range] at hmem;omega
    rw [hj] at j1;refine ⟨m+1,Nat.le_succ_of_le m1,j1,?_⟩;rw [if_neg (by rw [mem_range]; exact hjm),List.range_succ,hj]
 obtain ⟨m,m1,m2,m3⟩:=claim L'.length (le_refl _);rw [List.take_length] at m3;rw [m3];congr 1;refine Classical.byContradiction fun hne=> ?_;obtain ⟨y0,h0⟩: ∃ y0,(L.foldl bM ordT)[m]?=some y0:=⟨_,gE (by omega)⟩
 rcases foldT_mem.1 (List.mem_of_getElem? h0) with h | ⟨q,hq,e⟩
 ·obtain ⟨a,ha⟩:=getElem?_of_mem h;have:=el hnR (nD (fx L ordT) ha) h0;have:=(List.getElem?_eq_some_iff.1 ha).1;omega
 ·obtain ⟨j,j1,j2,j3⟩:=tgt q hq;rw [e] at j2;have ej:=el hnR j2 h0;have hmem:m∈L'.foldl bM (List.range ordT.length):=foldT_mem.2 (.inr ⟨Hf ord q,hperm.mem_iff.2 (mem_map.2 ⟨q,hq,rfl⟩),by omega⟩);rw [m3,mem_range] at hmem;omega
section
theorem GC: ∀ (n:Nat)(l:List Nat),(∀ x,x < n->x∈l)->n<=l.length
 | 0,_,_=>zero_le _
 | n+1,l,h=>by
  have hn:=h n (Nat.lt_succ_self n);have ih:=GC n (l.erase n) fun x hx=>(List.mem_erase_of_ne (by omega)).2 (h x (by omega));rw [List.length_erase_of_mem hn] at ih;have:=List.length_pos_of_mem hn;omega
theorem Ap (l:List MArc):bU (bU l)=bU l:=(lE (List.Perm.refl _) (dE l)).symm
theorem AX (M:Mach):bq (bq M)=bq M:=by
 unfold bq;rw [map_map];congr 1;exact map_congr_left fun s _=>by show MSt.mk s.f (bU (bU s.arcs))=_; rw [Ap]
section
variable {T:Mach}
theorem rA (gd:Good T)(au:oK T):(bE T).length=T.states.length:=
 Nat.le_antisymm (dp _ (il gd).nd (il gd).lt) (GC _ _ fun x hx=>(pf gd au).2 hx)
theorem HY (gd:Good T)(au:oK T){i x:Nat}(hx:(bE T)[i]?=some x):(bq (bi T (bE T))).states.getD i ⟨[],[]⟩=⟨(T.states.getD x ⟨[],[]⟩).f,bU ((T.states.getD x ⟨[],[]⟩).arcs.map (Hf (bE T)))⟩:=by
 have h1:=sort_at_.2 ⟨_,nT (M:=T) hx,rfl⟩;rw [gD,h1];show MSt.mk _ (bU (eL T (bE T) x).arcs)=_;have e:(eL T (bE T) x).arcs=(T.states.getD x ⟨[],[]⟩).arcs.map (Hf (bE T)):=by
  unfold eL;rw [<-List.filterMap_eq_map];refine iO fun q hq=> ?_;have hm:q.t.toNat∈bE T:=(pf gd au).2 (gd.tn (s:=x) hq);unfold ci;rw [if_neg ((iN _ 0 _).2 hm)]; rfl
 rw [e]; rfl
theorem Cu (gd:Good T)(au:oK T): ∀ (f i:Nat)(ordT:List Nat),iW T f i ordT=bE T->iW (bq (bi T (bE T))) f i (List.range ordT.length)=List.range (bE T).length
 | 0,i,ordT,h=>by
  have h:ordT=bE T:=h;rw [h]; rfl
 | f+1,i,ordT,h=>by
  cases hi:ordT[i]? with
  | none=>
   have e:ordT=bE T:=by
    unfold iW at h; rw [hi] at h; exact h
   have hn:=List.getElem?_eq_none_iff.1 hi;rw [nP (by rw [List.length_range]; exact hn),e]
  | some x=>
   have hlt:=(List.getElem?_eq_some_iff.1 hi).1;rw [ip hi] at h;rw [ip (getElem?_range hlt)];have hpre:fj T ordT x <+: bE T:=by rw [<-h]; exact lO ..
   have hx:(bE T)[i]?=some x:=nD ((fx _ _).trans hpre) hi;have es:fj (bq (bi T (bE T))) (List.range ordT.length) i=List.range (fj T ordT x).length:=by
    unfold fj;rw [HY gd au hx];refine BJ (il gd).nd hpre (dE _) (dE _) ?_;refine (ee _).trans ((ee _).trans ?_);exact ((ee _).map _).symm
   rw [es];exact Cu gd au f (i+1) _ h
theorem yE (gd:Good T)(au:oK T):(bq (bi T (bE T))).start=0:=by
 show bK (bE T) 0 T.start.toNat=0;have h0:(bE T)[0]?=some T.start.toNat:=nD (lO T _ 0 [T.start.toNat]) rfl;rw [hG (il gd).nd h0]; rfl
theorem Fe (gd:Good T)(au:oK T):bE (bq (bi T (bE T)))=List.range T.states.length:=by
 have e1:(bq (bi T (bE T))).states.length=T.states.length:=by rw [f0,cx,rA gd au]
 have h:=Cu gd au (T.states.length+1) 0 [T.start.toNat] rfl;rw [rA gd au] at h;unfold bE;change iW (bq (bi T (bE T))) ((bq (bi T (bE T))).states.length+1) 0 [(bq (bi T (bE T))).start.toNat]=_;rw [e1,yE gd au];exact h
theorem D5 (hv:aN T=true)(au:oK T):aN (bq (bi T (bE T)))=true/\oK (bq (bi T (bE T)))/\cJ (bq (bi T (bE T)))=(bq (bi T (bE T)),0):=by
 have gd:=bC hv;have oo:=il gd;have hs:T.start.toNat∈bE T:=(pf gd au).2 (fZ gd);have v1:=BA (uA hv oo hs);have a1:oK (bq (bi T (bE T))):=DM (yG gd oo (fun x=>⟨fun h=>au x ((pf gd au).1 h),fun h=>(pf gd au).2 (Ig gd h.1)⟩) (au _ (fZ gd)));refine ⟨v1,a1,?_⟩;have ht:=sE v1 a1;rw [eC (by rw [ht])];rw [ht];show (bq (bi (bq (bi T (bE T))) (bE (bq (bi T (bE T))))),0)=_;have e1:(bq (bi T (bE T))).states.length=T.states.length:=by rw [f0,cx,rA gd au]
 rw [Fe gd au,<-e1,vn (bC v1),AX]
end
def T0 (kind:Int):Mach:=⟨kind,0,qg kind,[⟨[],[]⟩]⟩
theorem rY {kind:Int}(h:1<=kind/\kind<=3):aN (T0 kind)=true:=by
 have:kind=1\/kind=2\/kind=3:=by omega
 rcases this with rfl | rfl | rfl <;> decide +kernel
theorem C2 {kind:Int}(h:1<=kind/\kind<=3):kG kind=(T0 kind,0):=by unfold kG; rw [if_pos h]; rfl
theorem LW {kind:Int}(x:Nat): ¬ bD (T0 kind) x:=by
 rintro ⟨_,h⟩;have key: ∀ y,Num.Rch (fun y x=>bn (T0 kind) x y) (iC (T0 kind)) y->False:=fun y hy=>by
  induction hy with
  | @base y hf=>
   obtain ⟨s,hs,hne⟩:=hf
   match y,hs with
   | 0,hs=>obtain rfl:=oI hs; exact hne rfl
   | y+1,hs=>cases hs
  | step _ _ ih=>exact ih
 exact key x h
theorem Dl {kind:Int}(h:1<=kind/\kind<=3):bF (T0 kind)=(T0 kind,0):=by
 rw [fA (rY h) (LW _)];exact C2 h
theorem zY {kind:Int}(h:1<=kind/\kind<=3):cJ (T0 kind)=(T0 kind,0):=by
 have ht:=Dl h;rw [eC (by rw [ht]),ht]; rfl
section
variable {M:Mach}
theorem nI (hv:aN M=true):(∃ T,bF M=(T,0)/\aN T=true/\oK T/\bD M M.start.toNat)\/(bF M=(T0 M.kind,0)/\ ¬ bD M M.start.toNat):=by
 have gd:=bC hv;by_cases hu:bD M M.start.toNat
 ·refine .inl ⟨_,f7 hv hu,uA hv (i5 M) ((ju gd).2 hu),yG gd (i5 M) (fun x=>ju gd) hu,hu⟩
 ·refine .inr ⟨?_,hu⟩;rw [fA hv hu];exact C2 (cF hv).1
theorem tF (hv:aN M=true):bF (bF M).1=bF M/\(bF M).2=0/\aN (bF M).1=true:=by
 rcases nI hv with ⟨T,h1,h2,h3,_⟩ | ⟨h1,_⟩
 ·rw [h1]; exact ⟨sE h2 h3,rfl,h2⟩
 ·rw [h1]; exact ⟨Dl (cF hv).1,rfl,rY (cF hv).1⟩
theorem nH (hv:aN M=true):cJ (bF M).1=cJ M:=by
 obtain ⟨h1,h2,_⟩:=tF hv;rw [eC h2,eC (by rw [h1]; exact h2),h1]
theorem zG (hv:aN M=true):cJ (cJ M).1=cJ M/\(cJ M).2=0/\aN (cJ M).1=true/\(cJ M).1.states.length=(bF M).1.states.length:=by
 rcases nI hv with ⟨T,h1,h2,h3,_⟩ | ⟨h1,_⟩
 ·obtain ⟨c1,c2,c3⟩:=D5 h2 h3;have e:cJ M=(bq (bi T (bE T)),0):=by rw [eC (by rw [h1]),h1]
  rw [e,h1];refine ⟨c3,rfl,c1,?_⟩;show (bq (bi T (bE T))).states.length=_;rw [f0,cx,rA (bC h2) h3]
 ·have hk:=(cF hv).1;have e:cJ M=(T0 M.kind,0):=by
   rw [<-nH hv,h1]; exact zY hk
  rw [e,h1];exact ⟨zY hk,rfl,rY hk,rfl⟩
end
end
section
def tU (φ:Nat->Nat)(q:MArc):MArc:=⟨q.i,q.o,q.w,((φ q.t.toNat:Nat):Int)⟩
def jr (M:Mach)(x:Nat):MSt:=M.states.getD x ⟨[],[]⟩
structure Iso (φ:Nat->Nat)(M O:Mach):Prop where
 kind:O.kind=M.kind
 lead:O.lead=M.lead
 len:O.states.length=M.states.length
 start:O.start=((φ M.start.toNat:Nat):Int)
 lt: ∀ x,x < M.states.length->φ x < M.states.length
 inj: ∀ x y,x < M.states.length->y < M.states.length->φ x=φ y->x=y
 sur: ∀ y,y < M.states.length-> ∃ x,x < M.states.length/\φ x=y
 f: ∀ x,x < M.states.length->(jr O (φ x)).f=(jr M x).f
 arcs: ∀ x,x < M.states.length->(jr O (φ x)).arcs.Perm ((jr M x).arcs.map (tU φ))
def Mb (M:Mach):Prop:= ∀ x,x < M.states.length->((jr M x).arcs.map fun q=>q.i).Nodup
section
variable {φ:Nat->Nat} {M O:Mach}
theorem Good.tg (gd:Good M){x:Nat}(hx:x < M.states.length){q:MArc}(hq:q∈(jr M x).arcs):q.t.toNat < M.states.length:=by
 have a:=gd.arcs _ (List.mem_of_getElem? (eR hx)) q hq;have h0:=a.t0;have h1:=a.t1;omega
theorem ym {x y:Nat}(hx:x < M.states.length):bn M x y↔ ∃ q∈(jr M x).arcs,q.t.toNat=y:=by
 constructor
 ·rintro ⟨s,hs,hm⟩;rw [eR hx] at hs;obtain rfl:=oI hs;exact mem_map.1 hm
 ·intro h;exact ⟨_,eR hx,mem_map.2 h⟩
theorem Iso.succ (i:Iso φ M O)(gd:Good M){x y:Nat}(hx:x < M.states.length)(hy:y < M.states.length):bn O (φ x) (φ y)↔bn M x y:=by
 rw [ym hx,ym (by rw [i.len]; exact i.lt x hx)];constructor
 ·rintro ⟨q,hq,e⟩;obtain ⟨p,hp,rfl⟩:=mem_map.1 ((i.arcs x hx).subset hq);refine ⟨p,hp,i.inj _ _ (gd.tg hx hp) hy ?_⟩;have e:((φ p.t.toNat:Nat):Int).toNat=φ y:=e;omega
 ·rintro ⟨p,hp,rfl⟩;exact ⟨_,(i.arcs x hx).symm.subset (mem_map.2 ⟨p,hp,rfl⟩),show ((φ p.t.toNat:Nat):Int).toNat=_ by omega⟩
theorem Ct {x:Nat}(hx:x < M.states.length):iC M x↔(jr M x).f≠[]:=by
 constructor
 ·rintro ⟨s,hs,hm⟩;rw [eR hx] at hs;obtain rfl:=oI hs;exact hm
 ·exact fun h=>⟨_,eR hx,h⟩
theorem Iso.fin (i:Iso φ M O){x:Nat}(hx:x < M.states.length):iC O (φ x)↔iC M x:=by
 rw [Ct hx,Ct (by rw [i.len]; exact i.lt x hx),i.f x hx]
theorem Iso.st0 (i:Iso φ M O):O.start.toNat=φ M.start.toNat:=by rw [i.start]; omega
theorem Iso.useful (i:Iso φ M O)(gd:Good M)(gO:Good O){x:Nat}(hx:x < M.states.length):bD O (φ x)↔bD M x:=by
 have hs:=fZ gd;have f1: ∀ {z:Nat},Num.Rch (bn O) (fun y=>y=O.start.toNat) z-> ∀ x,x < M.states.length->z=φ x->Num.Rch (bn M) (fun y=>y=M.start.toNat) x:=fun h=>by
  induction h with
  | @base z hz=>exact fun x hx e=> .base (i.inj _ _ hx hs (by rw [<-e,hz,i.st0]))
  | @step y z h e ih=>
   intro x hx ez;subst ez;obtain ⟨y',hy',rfl⟩:=i.sur y (by rw [<-i.len]; exact (fY gO e).1);exact .step (ih y' hy' rfl) ((i.succ gd hy' hx).1 e)
 have f2: ∀ {x:Nat},Num.Rch (bn M) (fun y=>y=M.start.toNat) x->Num.Rch (bn O) (fun y=>y=O.start.toNat) (φ x):=fun h=>by
  induction h with
  | @base z hz=>exact .base (by rw [hz,i.st0])
  | @step y z h e ih=>exact .step ih ((i.succ gd (fY gd e).1 (fY gd e).2).2 e)
 have b1: ∀ {z:Nat},Num.Rch (fun y x=>bn O x y) (iC O) z-> ∀ x,x < M.states.length->z=φ x->Num.Rch (fun y x=>bn M x y) (iC M) x:=fun h=>by
  induction h with
  | @base z hz=>exact fun x hx e=> .base ((i.fin hx).1 (e ▸ hz))
  | @step y z h e ih=>
   intro x hx ez;subst ez;obtain ⟨y',hy',rfl⟩:=i.sur y (by rw [<-i.len]; exact (fY gO e).2);exact .step (ih y' hy' rfl) ((i.succ gd hx hy').1 e)
 have b2: ∀ {x:Nat},Num.Rch (fun y x=>bn M x y) (iC M) x->x < M.states.length->Num.Rch (fun y x=>bn O x y) (iC O) (φ x):=fun h=>by
  induction h with
  | @base z hz=>exact fun hx=> .base ((i.fin hx).2 hz)
  | @step y z h e ih=>exact fun hx=> .step (ih (fY gd e).2) ((i.succ gd (fY gd e).1 (fY gd e).2).2 e)
 exact ⟨fun h=>⟨f1 h.1 x hx rfl,b1 h.2 x hx rfl⟩,fun h=>⟨f2 h.1,b2 h.2 hx⟩⟩
theorem vO {l:List Nat}{x:Nat}(h:x∈l): ∃ j:Nat,l[j]?=some x/\bK l 0 x=(j:Int):=by
 have h1:=(iN l 0 x).2 h;have h2:=iH l 0 x;have e:bK l 0 x=((0+(bK l 0 x).toNat:Nat):Int):=by omega
 exact ⟨_,rH e,by omega⟩
def Jb (φ:Nat->Nat)(om oo:List Nat)(i:Nat):Nat:=(bK oo 0 (φ (om.getD i 0))).toNat
theorem I4 {l:List Nat}{i x:Nat}(h:l[i]?=some x):l.getD i 0=x:=by rw [gD,h]; rfl
theorem AW {om oo:List Nat}(no:oo.Nodup){i j x:Nat}(h:om[i]?=some x)(hj:oo[j]?=some (φ x)):Jb φ om oo i=j:=by
 unfold Jb;rw [I4 h,hG no hj]; omega
theorem pk {ord:List Nat}{i x:Nat}(h:ord[i]?=some x):jr (bi M ord) i=eL M ord x:=by
 unfold jr;rw [gD,nT h]; rfl
theorem Iso.ren (i:Iso φ M O)(gd:Good M){om oo:List Nat}(om_:OrdOk M.states.length om)(oo_:OrdOk M.states.length oo)(hm: ∀ x,x < M.states.length->(x∈om↔φ x∈oo))(hs:M.start.toNat∈om):Iso (Jb φ om oo) (bi M om) (bi O oo):=by
 have ex: ∀ {k x},om[k]?=some x-> ∃ j,oo[j]?=some (φ x)/\Jb φ om oo k=j:=fun {k x} hk=>by
  have hx:=List.mem_of_getElem? hk;obtain ⟨j,hj,_⟩:=vO ((hm x (om_.lt x hx)).1 hx);exact ⟨j,hj,AW oo_.nd hk hj⟩
 have at_: ∀ {k},k < (bi M om).states.length-> ∃ x,om[k]?=some x/\x < M.states.length:=fun {k} hk=>by
  rw [cx] at hk;obtain ⟨x,hx⟩: ∃ x,om[k]?=some x:=⟨_,gE hk⟩
  exact ⟨x,hx,om_.lt x (List.mem_of_getElem? hx)⟩
 have back: ∀ {j y},oo[j]?=some y-> ∃ k x,om[k]?=some x/\φ x=y/\Jb φ om oo k=j:=fun {j y} hj=>by
  have hy:=List.mem_of_getElem? hj;obtain ⟨x,hx,rfl⟩:=i.sur y (oo_.lt y hy);obtain ⟨k,hk,_⟩:=vO ((hm x hx).2 hy);exact ⟨k,x,hk,rfl,AW oo_.nd hk hj⟩
 have hlen:oo.length=om.length:=by
  have h1:(om.map φ).Nodup:=by
   have aux: ∀ l:List Nat,l.Nodup->(∀ x∈l,x < M.states.length)->(l.map φ).Nodup:=fun l=>by
    induction l with
    | nil=>exact fun _ _=>List.nodup_nil
    | cons x l ih=>
     intro hn hl;rw [List.map_cons,nodup_cons];refine ⟨fun h=> ?_,ih (nodup_cons.1 hn).2 fun y hy=>hl y (mem_cons_of_mem _ hy)⟩;obtain ⟨y,hy,e⟩:=mem_map.1 h;exact (nodup_cons.1 hn).1 (i.inj _ _ (hl y (mem_cons_of_mem _ hy)) (hl x (mem_cons_self ..)) e ▸ hy)
   exact aux om om_.nd om_.lt
  have h2:oo.Perm (om.map φ):=(List.perm_ext_iff_of_nodup oo_.nd h1).2 fun y=>by
   constructor
   ·intro hy;obtain ⟨x,hx,rfl⟩:=i.sur y (oo_.lt y hy);exact mem_map.2 ⟨x,(hm x hx).2 hy,rfl⟩
   ·intro hy;obtain ⟨x,hx,rfl⟩:=mem_map.1 hy;exact (hm x (om_.lt x hx)).1 hx
  rw [h2.length_eq,lM]
 have tgt: ∀ {y},y < M.states.length->bK oo 0 (φ y)=if bK om 0 y = -1 then -1 else ((Jb φ om oo (bK om 0 y).toNat:Nat):Int):=fun {y} hy=>by
  by_cases h:y∈om
  ·obtain ⟨k,hk,ek⟩:=vO h;obtain ⟨j,hj,ej⟩:=ex hk;rw [ek,if_neg (by omega),hG oo_.nd hj];have:(k:Int).toNat=k:=by omega
   rw [this,ej]; omega
  ·have h1:bK om 0 y = -1:=Classical.byContradiction fun c=>h ((iN om 0 y).1 c);have h2:bK oo 0 (φ y) = -1:=Classical.byContradiction fun c=>h ((hm y hy).2 ((iN oo 0 _).1 c));rw [h1,if_pos rfl,h2]
 refine ⟨i.kind,i.lead,by rw [cx,cx,hlen],?_,fun k hk=> ?_,fun k k' hk hk' e=> ?_,fun j hj=> ?_,fun k hk=> ?_,fun k hk=> ?_⟩
 ·show bK oo 0 O.start.toNat=_;have h:=(iN om 0 _).2 hs;rw [i.st0,tgt (om_.lt _ hs),if_neg h]; rfl
 ·obtain ⟨x,hx,_⟩:=at_ hk;obtain ⟨j,hj,ej⟩:=ex hx;rw [ej,cx,<-hlen];exact (List.getElem?_eq_some_iff.1 hj).1
 ·obtain ⟨x,hx,x1⟩:=at_ hk;obtain ⟨y,hy,y1⟩:=at_ hk';obtain ⟨j,hj,ej⟩:=ex hx;obtain ⟨j',hj',ej'⟩:=ex hy;rw [ej,ej'] at e;subst e;rw [hj] at hj';have:=i.inj _ _ x1 y1 (oI hj');subst this;exact el om_.nd hx hy
 ·rw [cx,<-hlen] at hj;obtain ⟨k,x,hk,_,e⟩:=back (gE hj);exact ⟨k,by rw [cx]; exact (List.getElem?_eq_some_iff.1 hk).1,e⟩
 ·obtain ⟨x,hx,x1⟩:=at_ hk;obtain ⟨j,hj,ej⟩:=ex hx;rw [ej,pk hx,pk hj];exact i.f x x1
 ·obtain ⟨x,hx,x1⟩:=at_ hk;obtain ⟨j,hj,ej⟩:=ex hx;rw [ej,pk hx,pk hj];show ((jr O (φ x)).arcs.filterMap (ci oo)).Perm (((jr M x).arcs.filterMap (ci om)).map (tU (Jb φ om oo)));refine ((i.arcs x x1).filterMap _).trans ?_;rw [List.filterMap_map,List.map_filterMap];refine List.Perm.of_eq (iO fun q hq=> ?_);have hq1:=gd.tg x1 hq;show ci oo (tU φ q)=(ci om q).map (tU (Jb φ om oo));unfold ci;have e1:(tU φ q).t.toNat=φ q.t.toNat:=show ((φ q.t.toNat:Nat):Int).toNat=_ by omega
  rw [e1,tgt hq1];by_cases h:bK om 0 q.t.toNat = -1
  ·rw [if_pos h,if_pos h,if_pos rfl]; rfl
  ·rw [if_neg h,if_neg h,if_neg (by omega)]; rfl
theorem Mr {p q:MArc}(h:ua p q):p.i<=q.i:=by
 unfold ua at h;rw [iK] at h;have: ¬ q.i < p.i:=fun c=>h (.inl c);omega
theorem Iz {l:List MArc}(hn:(l.map fun q=>q.i).Nodup):bU (l.map (tU φ))=(bU l).map (tU φ):=by
 refine (lE ((ee l).map _) ?_).symm;have h1:=dE l;have h2:((bU l).map fun q=>q.i).Nodup:=((ee l).map _).nodup_iff.2 hn;rw [pairwise_map];have h3:(bU l).Pairwise fun p q=>p.i≠q.i:=pairwise_map.1 h2;refine (h1.and h3).imp fun {p q} h hb=> ?_;have:=Mr h.1;rw [iK] at hb;have e1:(tU φ p).i=p.i:=rfl;have e2:(tU φ q).i=q.i:=rfl;rw [e1,e2] at hb;have:=h.2;rcases hb with hb | ⟨hb,_⟩ <;> omega
theorem ye (N:Nat)(inj: ∀ x y,x < N->y < N->φ x=φ y->x=y): ∀ (l:List MArc)(ord:List Nat),(∀ q∈l,q.t.toNat < N)->(∀ x∈ord,x < N)->(l.map (tU φ)).foldl bM (ord.map φ)=(l.foldl bM ord).map φ
 | [],_,_,_=>rfl
 | q::l,ord,hl,ho=>by
  have hq:=hl q (mem_cons_self ..);have e1:(tU φ q).t.toNat=φ q.t.toNat:=show ((φ q.t.toNat:Nat):Int).toNat=_ by omega
  have e:bM (ord.map φ) (tU φ q)=(bM ord q).map φ:=by
   unfold bM;rw [e1];by_cases h:q.t.toNat∈ord
   ·rw [if_pos h,if_pos (mem_map.2 ⟨_,h,rfl⟩)]
   ·rw [if_neg h,if_neg fun c=> ?_,map_append]; rfl;obtain ⟨y,hy,e2⟩:=mem_map.1 c;exact h (inj _ _ (ho y hy) hq e2 ▸ hy)
  rw [List.map_cons,foldl_cons,foldl_cons,e];refine ye N inj l _ (fun x hx=>hl x (mem_cons_of_mem _ hx)) fun x hx=> ?_;rcases addT_mem.1 hx with h | rfl
  ·exact ho x h
  ·exact hq
theorem Iso.bfs (i:Iso φ M O)(gd:Good M)(dt:Mb M): ∀ (f k:Nat)(ord:List Nat),OrdOk M.states.length ord->iW O f k (ord.map φ)=(iW M f k ord).map φ
 | 0,_,_,_=>rfl
 | f+1,k,ord,o=>by
  cases hk:ord[k]? with
  | none=>
   have hl:=List.getElem?_eq_none_iff.1 hk;rw [nP hl,nP (by rw [lM]; exact hl)]
  | some x=>
   have hx:=o.lt x (List.mem_of_getElem? hk);rw [ip hk,ip (x:=φ x) (by rw [getElem?_map,hk]; rfl)];have e:fj O (ord.map φ) (φ x)=(fj M ord x).map φ:=by
    show (bU (jr O (φ x)).arcs).foldl bM _=((bU (jr M x).arcs).foldl bM ord).map φ;have e1:bU (jr O (φ x)).arcs=(bU (jr M x).arcs).map (tU φ):=by
     rw [<-Iz (dt x hx)];exact lE ((ee _).trans (i.arcs x hx)) (dE _)
    rw [e1];exact ye _ i.inj _ _ (fun q hq=>gd.tg hx (sortA_mem.1 hq)) o.lt
   rw [e];exact i.bfs gd dt f (k+1) _ (nC gd o x)
theorem Iso.bfs0 (i:Iso φ M O)(gd:Good M)(dt:Mb M):bE O=(bE M).map φ:=by
 unfold bE;rw [i.len,i.st0];exact i.bfs gd dt _ 0 [M.start.toNat] (wG gd)
theorem Iso.eq (i:Iso φ M O)(hi: ∀ x,x < M.states.length->φ x=x)(gd:Good M):bq O=bq M:=by
 have hs:O.start=M.start:=by
  have h0:=gd.start0;rw [i.start,hi _ (fZ gd)]; omega
 have hst:(bq O).states=(bq M).states:=by
  refine List.ext_getElem? fun x=> ?_;show (O.states.map _)[x]?=(M.states.map _)[x]?;rw [getElem?_map,getElem?_map];by_cases hx:x < M.states.length
  ·rw [eR hx,eR (M:=O) (by rw [i.len]; exact hx)];have h1:=i.f x hx;have h2:=i.arcs x hx;rw [hi x hx] at h1 h2;have h3:(jr M x).arcs.map (tU φ)=(jr M x).arcs:=by
    conv=>rhs; rw [<-List.map_id (jr M x).arcs]
    refine map_congr_left fun q hq=> ?_;have ht:=gd.tg hx hq;have a:=(gd.arcs _ (List.mem_of_getElem? (eR hx)) q hq).t0;unfold tU;rw [hi _ ht];have:((q.t.toNat:Nat):Int)=q.t:=by omega
    rw [this]; rfl
   rw [h3] at h2;show some (MSt.mk (jr O x).f (bU (jr O x).arcs))=some (MSt.mk (jr M x).f (bU (jr M x).arcs));rw [h1,lE ((ee _).trans h2) (dE _)]
  ·have hl:=i.len;rw [getElem?_eq_none (l:=O.states) (by omega),getElem?_eq_none (l:=M.states) (by omega)]
 have e: ∀ {A B:Mach},A.kind=B.kind->A.start=B.start->A.lead=B.lead->A.states=B.states->A=B:=fun {A B} h1 h2 h3 h4=>by
  cases A; cases B; simp_all
 exact e i.kind hs i.lead hst
theorem J1 {ord:List Nat}(oo:OrdOk M.states.length ord)(dt:Mb M):Mb (bi M ord):=fun k hk=>by
 rw [cx] at hk;have h:=gE hk;rw [pk h];have h2:=dt _ (oo.lt _ (List.mem_of_getElem? h));show ((((jr M ord[k]).arcs.filterMap (ci ord))).map fun q=>q.i).Nodup;have key: ∀ l:List MArc,((l.filterMap (ci ord)).map fun q=>q.i).Sublist (l.map fun q=>q.i):=fun l=>by
  induction l with
  | nil=>exact List.Sublist.refl _
  | cons q l ih=>
   rw [filterMap_cons,List.map_cons];unfold ci;by_cases hq:bK ord 0 q.t.toNat = -1
   ·rw [if_pos hq]; exact ih.cons _
   ·rw [if_neg hq]; exact ih.cons_cons _
 exact h2.sublist (key _)
theorem Iso.canon (i:Iso φ M O)(hM:aN M=true)(hO:aN O=true)(dt:Mb M):cJ O=cJ M:=by
 have gd:=bC hM;have gO:=bC hO;have hs:=fZ gd;by_cases hu:bD M M.start.toNat
 ·have hu':bD O O.start.toNat:=by rw [i.st0]; exact (i.useful gd gO hs).2 hu
  have oM:=i5 M;have oO:=i5 O;rw [i.len] at oO;have j:=i.ren gd oM oO (fun x hx=>by rw [ju gd,ju gO]; exact (i.useful gd gO hx).symm) ((ju gd).2 hu);have tM:=f7 hM hu;have tO:=f7 hO hu';have gT:=lP gd ((ju gd).2 hu);have dT:=J1 oM dt;rw [eC (M:=M) (by rw [tM]),eC (M:=O) (by rw [tO]),tM,tO];show (bq (bi (bi O (iV O)) (bE (bi O (iV O)))),0)=(bq (bi (bi M (iV M)) (bE (bi M (iV M)))),0);have hb:=j.bfs0 gT dT;have ob:=il gT;generalize hTT:bi M (iV M)=T at *;generalize bi O (iV O)=U at *;generalize hψ:Jb φ (iV M) (iV O)=ψ at *;rw [hb];have ndU:((bE T).map ψ).Nodup:=by
   rw [List.Nodup,pairwise_map];exact (List.Pairwise.and_mem.1 ob.nd).imp fun {a b} h e=>h.2.2 (j.inj a b (ob.lt a h.1) (ob.lt b h.2.1) e)
  have oU:OrdOk T.states.length ((bE T).map ψ):=⟨fun y hy=>by
   obtain ⟨x,hx,rfl⟩:=mem_map.1 hy;exact j.lt x (ob.lt x hx),ndU⟩
  have hsT:T.start.toNat∈bE T:=(lO T _ 0 _).subset (mem_singleton.2 rfl);have k:=j.ren gT ob oU (fun x hx=>⟨fun h=>mem_map.2 ⟨x,h,rfl⟩,fun h=>by
   obtain ⟨y,hy,e⟩:=mem_map.1 h;exact j.inj _ _ (ob.lt y hy) hx e ▸ hy⟩) hsT
  rw [k.eq (fun x hx=> ?_) (lP gT hsT)];rw [cx] at hx;have h:=gE hx;exact AW ndU h (by rw [getElem?_map,h]; rfl)
 ·have hu': ¬ bD O O.start.toNat:=by rw [i.st0]; exact fun h=>hu ((i.useful gd gO hs).1 h)
  rw [<-nH hM,<-nH hO,fA hM hu,fA hO hu',i.kind]
end
end
section
def ff (n b x:Nat):Nat:=(x+b) % n
theorem j7 {n b x:Nat}(hb:b < n)(hx:x < n):ff n b x=if x+b < n then x+b else x+b - n:=by
 unfold ff;split
 ·next h=>exact Nat.mod_eq_of_lt h
 ·next h=>rw [Nat.mod_eq_sub_mod (by omega),Nat.mod_eq_of_lt (by omega)]
def Lc (φ:Nat->Nat)(s:MSt):MSt:=⟨s.f,s.arcs.reverse.map (tU φ)⟩
structure TrI (M:Mach)(b i:Nat)(l:List MSt):Prop where
 len:l.length=M.states.length
 st: ∀ x,x < i->l[ff M.states.length b x]?=some (Lc (ff M.states.length b) (jr M x))
section
variable {φ:Nat->Nat} {M O:Mach} {b i:Nat} {l:List MSt}
theorem zP {n b x y:Nat}(hb:b < n)(hx:x < n)(hy:y < n)(e:ff n b x=ff n b y):x=y:=by
 rw [j7 hb hx,j7 hb hy] at e;split at e <;> split at e <;> omega
theorem TrI.succ (hb:b < M.states.length)(t:TrI M b i l)(hi:i < M.states.length):TrI M b (i+1) (l.set (ff M.states.length b i) (Lc (ff M.states.length b) (jr M i))):=by
 refine ⟨by rw [length_set]; exact t.len,fun x hx=> ?_⟩;rw [getElem?_set];by_cases e:x=i
 ·subst e;rw [if_pos rfl,if_pos (by rw [t.len]; exact mod_lt _ (by omega))]
 ·rw [if_neg fun h=>e (zP hb (by omega) hi h.symm)];exact t.st x (by omega)
theorem TrI.iso (hb:b < M.states.length)(t:TrI M b M.states.length l):Iso (ff M.states.length b) M ⟨M.kind,((ff M.states.length b M.start.toNat:Nat):Int),M.lead,l⟩:=by
 have hst: ∀ x,x < M.states.length->jr ⟨M.kind,((ff M.states.length b M.start.toNat:Nat):Int),M.lead,l⟩ (ff M.states.length b x)=Lc (ff M.states.length b) (jr M x):=fun x hx=>by
  show l.getD _ _=_;rw [gD,t.st x hx]; rfl
 refine ⟨rfl,rfl,t.len,rfl,fun x hx=>mod_lt _ (by omega),fun x y hx hy=>zP hb hx hy,fun y hy=> ?_,fun x hx=>by rw [hst x hx]; rfl,fun x hx=> ?_⟩
 ·by_cases h:b<=y
  ·exact ⟨y - b,by omega,by rw [j7 hb (by omega),if_pos (by omega)]; omega⟩
  ·exact ⟨y+M.states.length - b,by omega,by rw [j7 hb (by omega),if_neg (by omega)]; omega⟩
 ·rw [hst x hx];exact (List.reverse_perm _).map _
theorem Iso.mem (i:Iso φ M O){s:MSt}(hs:s∈O.states): ∃ x,x < M.states.length/\s.f=(jr M x).f/\s.arcs.Perm ((jr M x).arcs.map (tU φ)):=by
 obtain ⟨k,hk⟩:=getElem?_of_mem hs;have hkn:=(List.getElem?_eq_some_iff.1 hk).1;obtain ⟨x,hx,e⟩:=i.sur k (by rw [<-i.len]; exact hkn);have hs2:s=jr O (φ x):=by
  unfold jr;rw [gD,e,hk]; rfl
 exact ⟨x,hx,by rw [hs2]; exact i.f x hx,by rw [hs2]; exact i.arcs x hx⟩
theorem Iso.sum (i:Iso φ M O):fe O.states=fe M.states:=by
 rw [ny O,ny M,i.len];have hp:(List.range M.states.length).Perm ((List.range M.states.length).map φ):=by
  refine (List.perm_ext_iff_of_nodup nodup_range ?_).2 fun y=> ?_
  ·rw [List.Nodup,pairwise_map];exact (List.Pairwise.and_mem.1 nodup_range).imp fun {a b} h e=>h.2.2 (i.inj a b (mem_range.1 h.1) (mem_range.1 h.2.1) e)
  ·rw [mem_range,mem_map];constructor
   ·intro hy;obtain ⟨x,hx,e⟩:=i.sur y hy;exact ⟨x,mem_range.2 hx,e⟩
   ·rintro ⟨x,hx,rfl⟩;exact i.lt x (mem_range.1 hx)
 rw [(hp.map _).sum_nat,map_map];congr 1;refine map_congr_left fun x hx=> ?_;have h:=(i.arcs x (mem_range.1 hx)).length_eq;rw [lM] at h;exact h
theorem Iso.valid (i:Iso φ M O)(hv:aN M=true):aN O=true:=by
 have gd:=bC hv;obtain ⟨h1,h2,h3,h4,h5⟩:=cF hv;refine pT (by rw [i.kind]; exact h1) (by rw [i.len]; exact h2) ?_ (by rw [i.kind,i.lead]; exact h4) ?_
 ·have:=i.lt _ (fZ gd);rw [i.start,i.len]; omega
 ·rw [i.kind,i.len];refine nQ ?_ fun s hs=> ?_
  ·have:=pY hv;rw [i.sum]; omega
  ·obtain ⟨x,hx,e1,e2⟩:=i.mem hs;obtain ⟨a1,a2⟩:=fE h5 _ (List.mem_of_getElem? (eR hx));refine ⟨by rw [e1]; exact a1,?_⟩;rw [all_eq_true];intro q hq;obtain ⟨p,hp,rfl⟩:=mem_map.1 (e2.subset hq);have hp2:=a2 p hp;have hl:=i.lt _ (gd.tg hx hp);unfold iM at hp2 ⊢;simp only [and_eq_true,decide_eq_true_eq] at hp2 ⊢;exact ⟨⟨⟨hp2.1.1.1,show (0:Int)<=((φ p.t.toNat:Nat):Int) by omega⟩,show ((φ p.t.toNat:Nat):Int) < (M.states.length:Int) by omega⟩,hp2.2⟩
theorem Iso.small (i:Iso φ M O)(sm:Small M):Small O:=by
 refine ⟨by rw [i.lead]; exact sm.lead,by rw [i.len]; exact sm.sts,fun s hs=> ?_,fun s hs=> ?_,fun s hs q hq=> ?_,by rw [i.sum]; exact sm.tot⟩
 ·obtain ⟨x,hx,e1,e2⟩:=i.mem hs;rw [e1]; exact sm.fin _ (List.mem_of_getElem? (eR hx))
 ·obtain ⟨x,hx,e1,e2⟩:=i.mem hs;rw [e2.length_eq,lM]; exact sm.arcs _ (List.mem_of_getElem? (eR hx))
 ·obtain ⟨x,hx,e1,e2⟩:=i.mem hs;obtain ⟨p,hp,rfl⟩:=mem_map.1 (e2.subset hq);exact sm.w _ (List.mem_of_getElem? (eR hx)) p hp
theorem ID (h:tP M=true):aN M=true/\Mb M:=by
 unfold tP Lo at h;simp only [and_eq_true] at h;refine ⟨h.1.1.1,fun x hx=> ?_⟩;have h2:=all_eq_true.1 h.2 _ (List.mem_of_getElem? (eR hx));exact dT h2
end
end
section
section
variable {T:Mach} {l:List MSt}
theorem zX {M:Mach}(hv:aN M=true)(sm:Small M):Small (bF M).1:=by
 rcases nI hv with ⟨T,h1,h2,h3,hu⟩ | ⟨h1,_⟩
 ·rw [f7 hv hu]; exact vz sm (i5 M)
 ·have hk:M.kind=1\/M.kind=2\/M.kind=3:=by have:=(cF hv).1; omega
  rw [h1];show Small (T0 M.kind);refine ⟨?_,(show 1<=300 by decide),fun s hs=> ?_,fun s hs=> ?_,fun s hs=> ?_,(show 0<=2000 by decide)⟩
  ·rcases hk with e | e | e <;> rw [e] <;> decide +kernel
  ·rw [mem_singleton.1 hs]; exact zero_le _
  ·rw [mem_singleton.1 hs]; exact zero_le _
  ·rw [mem_singleton.1 hs]; exact fun q hq=>by cases hq
theorem wj {M:Mach}(hv:aN M=true)(sm:Small M):Small (cJ M).1:=by
 have h:=(tF hv).2;rw [eC h.1];exact Aq (vz (zX hv sm) (il (bC h.2)))
end
end
end Go.Proofs.YtoabjjimjldcfaaGreatDoor
end
