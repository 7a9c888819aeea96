/- Laws and walks that the proof leans on (part 5): P50; P51; P52; P53; P54; P55 and others. No condition. -/
import Derived.Test.YtoabjjimjldcfaaGreatDoorPart4
import Derived.Test.YtoabjjimjldcfaaGreatDoorPart2
import Derived.ChangeArms
import Derived.DataElems
import Derived.Shelf.SlSortCmp.NoneTotal
import Derived.Test.YtoabjjimjldcfaaGreatDoorProg
import Derived.OpenShut
import Derived.MakeChecks
import Derived.FnData
import Derived.ChangeSame
import Derived.Test.YtoabjjimjldcfaaGreatDoorRows
import Derived.ProofKit
import Derived.LaidLaws
import Derived.LaidHandle
import Derived.ChangeVars
open List (all_append all_eq_true append_nil drop_append drop_eq_nil_of_le eq_nil_of_length_eq_zero flatten_cons foldl_append foldl_cons getElem?_eq_none getElem?_map getElem?_of_mem getElem?_range getElem?_replicate getElem?_set getElem?_take length_append length_cons length_replicate length_take map_append map_map map_replicate map_set mem_append mem_cons mem_cons_of_mem mem_cons_self mem_filterMap mem_map mem_range mem_singleton nil_append nodup_cons prefix_rfl sum_cons take_add_one take_of_length_le)
open Nat (add_mul eq_zero_or_pos le_add_right le_refl le_trans mul_one not_lt_zero sub_self zero_add zero_le)
open Option (map_eq_some_iff map_some)
open Bool (and_eq_true eq_false_iff)
open Go.IntKind (wrap)
section
set_option linter.unusedVariables false
set_option maxRecDepth 100000
namespace Go.Proofs.YtoabjjimjldcfaaGreatDoor
open Go Go.Ab
section
section
variable {hb g g':Heap} {k off n c:Nat} {ps:List (MSt×Value)}
theorem rM {ps:List (MSt×Value)}{i:Nat}(p:MSt×Value):(ps.set i p).map dg=(ps.map dg).set i (dg p):=by rw [map_set]
theorem OwnM.setF (w:Wf hb)(ok:Ok hb g)(m:OwnM hb g (.slice (some ⟨k,off,none⟩) n c) ps){i:Nat}{p:MSt×Value}(hp:ps[i]?=some p)(f:List UInt8):
  ∃ u:Upd,ai SS.P 9 (.pointer (some ⟨k,off+i*2+0,none⟩)) (aa f) g=some (undef,u)/\OwnM hb (u.app g) (.slice (some ⟨k,off,none⟩) n c) (ps.set i (⟨f,p.1.arcs⟩,p.2))/\Ok hb (u.app g)/\(∀ j B,g.get j=some B->k≠j->(u.app g).get j=some B)/\(u.app g).next=g.next:=by
 obtain ⟨u,h1,h2,h3,h4,h5⟩:=m.row.put (e:=37) (t':=9) (by kernel_rfl) w ok (i:=i) (j:=0) (r:=dg p) (by rw [getElem?_map,hp]; rfl) (by omega) (v':=aa f) rfl rfl;have key: ∀ {j:Nat}{q:MSt×Value},(ps.set i (⟨f,p.1.arcs⟩,p.2))[j]?=some q-> ∃ q',ps[j]?=some q'/\q.2=q'.2/\q.1.arcs=q'.1.arcs:=fun {j q} hq=>by
  rw [getElem?_set] at hq;split at hq
  ·next e=>
   subst e;split at hq
   ·obtain rfl:=oI hq; exact ⟨p,hp,rfl,rfl⟩
   ·cases hq
  ·exact ⟨q,hq,rfl,rfl⟩
 refine ⟨u,h1,⟨by rw [rM]; exact h2,fun j q hq=> ?_,fun j q hq k' hk'=> ?_,fun j1 j2 q1 q2 hne hq1 hq2 k' hk'=> ?_⟩,h3,h4,h5⟩
 ·obtain ⟨q',e1,e2,e3⟩:=key hq;rw [e2,e3];exact (m.arcs j q' e1).keep fun k' B hk' hB=>h4 k' B hB (fun e=>m.ne j q' e1 k' hk' (by rw [<-e]; rfl))
 ·obtain ⟨q',e1,e2,e3⟩:=key hq;rw [e2] at hk';exact m.ne j q' e1 k' hk'
 ·obtain ⟨q1',e1,e2,e3⟩:=key hq1;obtain ⟨q2',e4,e5,e6⟩:=key hq2;rw [e2] at hk'; rw [e5];exact m.dis j1 j2 q1' q2' hne e1 e4 k' hk'
theorem OwnM.setA (w:Wf hb)(ok':Ok hb g')(m:OwnM hb g (.slice (some ⟨k,off,none⟩) n c) ps){i:Nat}{p:MSt×Value}(hp:ps[i]?=some p)(kp: ∀ j B,g.get j=some B->aM p.2≠some j->g'.get j=some B){b:Option Addr}{n' c':Nat}{arcs:List MArc}(ox:OwnK hb g' 39 4 (.slice b n' c') (arcs.map aI))(nx: ∀ j,aM (.slice b n' c')=some j->g.next<=j\/aM p.2=some j)(wg:Wf g):
  ∃ u:Upd,ai SS.P 35 (.pointer (some ⟨k,off+i*2+1,none⟩)) (.slice b n' c') g'=some (undef,u)/\OwnM hb (u.app g') (.slice (some ⟨k,off,none⟩) n c) (ps.set i (⟨p.1.f,arcs⟩,.slice b n' c'))/\Ok hb (u.app g')/\(∀ j B,g'.get j=some B->k≠j->(u.app g').get j=some B)/\(u.app g').next=g'.next:=by
 have hpk:aM p.2≠some k:=fun e=>m.ne i p hp k e rfl;have row':OwnK hb g' 37 2 (.slice (some ⟨k,off,none⟩) n c) (ps.map dg):=m.row.keep fun k' B hk' hB=>kp k' B hB (fun e=>m.ne i p hp k' e hk');obtain ⟨u,h1,h2,h3,h4,h5⟩:=row'.put (e:=37) (t':=35) (by kernel_rfl) w ok' (i:=i) (j:=1) (r:=dg p) (by rw [getElem?_map,hp]; rfl) (by omega) (v':= .slice b n' c') (cY ..) (by cases b <;> rfl);have hlt:i < ps.length:=(List.getElem?_eq_some_iff.1 hp).1;have hkb:aM (.slice b n' c')≠some k:=fun e=>by
  rcases nx k e with h | h
  ·have:=(m.row.lt wg (k:=k) rfl).1; omega
  ·exact hpk h
 have key: ∀ {j:Nat}{q:MSt×Value},(ps.set i (⟨p.1.f,arcs⟩,.slice b n' c'))[j]?=some q->(j=i/\q=(⟨p.1.f,arcs⟩,.slice b n' c'))\/(j≠i/\ps[j]?=some q):=fun {j q} hq=>by
  rcases aN hq with ⟨e,e2⟩ | ⟨e,hq⟩
  ·exact .inl ⟨e,e2⟩
  ·exact .inr ⟨e,hq⟩
 have old: ∀ {j:Nat}{q:MSt×Value},j≠i->ps[j]?=some q-> ∀ k',aM q.2=some k'->aM (.slice b n' c')≠some k':=fun {j q} hj hq k' hk' e=>by
  rcases nx k' e with h | h
  ·have:=((m.arcs j q hq).lt wg hk').1; omega
  ·exact m.dis j i q p hj hq hp k' hk' h
 refine ⟨u,h1,⟨by rw [rM]; exact h2,fun j q hq=> ?_,fun j q hq k' hk'=> ?_,fun j1 j2 q1 q2 hne hq1 hq2 k' hk'=> ?_⟩,h3,h4,h5⟩
 ·rcases key hq with ⟨rfl,rfl⟩ | ⟨hj,hq⟩
  ·exact ox.keep fun k' B hk' hB=>h4 k' B hB (fun e=>hkb (by rw [e]; exact hk'))
  ·exact (m.arcs j q hq).keep fun k' B hk' hB=>h4 k' B (kp k' B hB (fun e=>m.dis j i q p hj hq hp k' hk' e)) (fun e=>m.ne j q hq k' hk' (by rw [<-e]; rfl))
 ·rcases key hq with ⟨rfl,rfl⟩ | ⟨hj,hq⟩
  ·exact fun e=>hkb (by rw [hk',<-e]; rfl)
  ·exact m.ne j q hq k' hk'
 ·rcases key hq1 with ⟨e1,e2⟩ | ⟨hj,f1⟩ <;> rcases key hq2 with ⟨e3,e4⟩ | ⟨hj2,f2⟩
  ·exact absurd (e1.trans e3.symm) hne
  ·rw [e2] at hk'; exact fun e=>old hj2 f2 k' e hk'
  ·rw [e4]; exact old hj f1 k' hk'
  ·exact m.dis j1 j2 q1 q2 hne f1 f2 k' hk'
theorem OwnM.at_ (m:OwnM hb g (.slice (some ⟨k,off,none⟩) n c) ps){i:Nat}{p:MSt×Value}(hp:ps[i]?=some p):
  ah SS.P 22 (.slice (some ⟨k,off,none⟩) n c) (.int .i64 (i:Int))=some (.pointer (some ⟨k,off+i*2,none⟩))/\ag SS.P 35 g (.pointer (some ⟨k,off+i*2+1,none⟩))=some p.2/\ag SS.P 37 g (.pointer (some ⟨k,off+i*2,none⟩))=some (.agg ⟨dg p⟩):=by
 obtain ⟨h1,h2,h3⟩:=m.row.at_ qS qj (i:=i) (r:=dg p) (by rw [getElem?_map,hp]; rfl) .i64;exact ⟨h1,by rw [h2 35 _ 1 ti A2 (by omega)]; rfl,h3 _ LU Lq⟩
end
noncomputable def ti37:TypeInfo:=(SS.P.info? 37).getD default
theorem JG:SS.P.info? 37=some ti37:=by kernel_rfl
theorem Eh:ti37.size=2:=by kernel_rfl
theorem BO:ti37.bytes=40:=by kernel_rfl
def zst:MSt×Value:=(⟨[],[]⟩,.slice none 0 0)
theorem L6:bW SS.P 37=some (.agg ⟨dg zst⟩):=by kernel_rfl
theorem LF (n:Nat)(hn:n<=100000):aU SS.P 22 (.int .i64 (n:Int)) (.int .i64 (n:Int))=some (.cells ((List.replicate n zst).map dg).flatten 37 2 true,gm n n):=by
 unfold aU aP;dsimp only;rw [qS]
 try dsimp only
 change (match SS.P.info? 37,bW SS.P 37 with
  | some i,some z=>(if z.cells.size=i.size/\0 < i.size/\(0:Int)<=(n:Int)/\(n:Int)<=(n:Int)/\(n:Int)*i.bytes<=140737488355328/\(n:Int)<=1099511627776 then some (Blk.cells (bc z.cells.toList (n:Int).toNat) 37 i.size true,fun k=>Value.slice (some ⟨k,0,none⟩) (n:Int).toNat (n:Int).toNat) else none)
  | _,_=>none)=_
 rw [JG,L6];dsimp only;rw [Eh,BO,if_pos ⟨rfl,by omega,by omega,Int.le_refl _,by omega,by omega⟩];have e:((n:Int)).toNat=n:=by omega
 rw [e,show (Value.agg ⟨dg zst⟩).cells.toList=dg zst from rfl,nN,map_replicate]; rfl
theorem OwnM.made {hb g:Heap}{k n:Nat}(hk:g.get k=some (.cells ((List.replicate n zst).map dg).flatten 37 2 true))(h0k:hb.next<=k)(hn:n<=100000):OwnM hb g (.slice (some ⟨k,0,none⟩) n n) (List.replicate n zst):=by
 have key: ∀ {i:Nat}{p:MSt×Value},(List.replicate n zst)[i]?=some p->p=zst:=fun {i p} hp=>by
  rw [getElem?_replicate] at hp;split at hp
  ·exact (oI hp).symm
  ·cases hp
 have hl:((List.replicate n zst).map dg).length=n:=by simp
 have:=OwnK.made (h0:=hb) hk rC h0k (by rw [hl]; unfold bp; omega);rw [hl] at this;exact ⟨this,fun i p hp=>(by rw [key hp]; exact OwnK.nil _ _ _ _),fun i p hp k' hk'=>(by rw [key hp] at hk'; cases hk'),fun i j p q _ hp hq k' hk'=>(by rw [key hp] at hk'; cases hk')⟩
def cO:List Nat->Nat->Nat->Int
 | [],_,_=> -1
 | o::r,i,x=>if o=x then (i:Int) else cO r (i+1) x
theorem uu: ∀ (l:List Nat)(i o x:Nat),o ∉ l->cO (l++[o]) i x=if x=o then ((i+l.length:Nat):Int) else cO l i x
 | [],i,o,x,_=>by
  show (if o=x then (i:Int) else -1)=if x=o then ((i+0:Nat):Int) else -1;by_cases h:x=o
  ·rw [if_pos h,if_pos h.symm]; rfl
  ·rw [if_neg h,if_neg (fun e=>h e.symm)]
 | y::l,i,o,x,hn=>by
  have h1: ¬ o=y:=fun e=>hn (e ▸ mem_cons_self ..);have ih:=uu l (i+1) o x (fun h=>hn (mem_cons_of_mem _ h));show (if y=x then (i:Int) else cO (l++[o]) (i+1) x)=if x=o then _ else (if y=x then (i:Int) else cO l (i+1) x);rw [ih,length_cons];by_cases h:x=o
  ·rw [if_pos h,if_pos h,if_neg (by rw [h]; exact fun e=>h1 e.symm)]; congr 1; omega
  ·rw [if_neg h,if_neg h]
theorem jl: ∀ (l:List Nat)(i x:Nat),cO l i x = -1\/((i:Int)<=cO l i x/\cO l i x < ((i+l.length:Nat):Int))
 | [],i,x=> .inl rfl
 | o::l,i,x=>by
  unfold cO;split
  ·right; rw [length_cons]; omega
  ·rcases jl l (i+1) x with h | h
   ·exact .inl h
   ·right; rw [length_cons]; omega
theorem sq: ∀ (l:List Nat)(i x:Nat),cO l i x≠ -1↔x∈l
 | [],i,x=>by simp [cO]
 | o::l,i,x=>by
  unfold cO;split
  ·next h=>exact ⟨fun _=>h ▸ mem_cons_self ..,fun _=>by omega⟩
  ·next h=>
   rw [sq l (i+1) x];exact ⟨fun h'=>mem_cons_of_mem _ h',fun h'=>(mem_cons.1 h').resolve_left fun e=>h e.symm⟩
def dD (ord:List Nat)(q:MArc):Option MArc:=if cO ord 0 q.t.toNat = -1 then none else some ⟨q.i,q.o,q.w,cO ord 0 q.t.toNat⟩
def ff (M:Mach)(ord:List Nat)(s:Nat):MSt:=⟨(M.states.getD s ⟨[],[]⟩).f,(M.states.getD s ⟨[],[]⟩).arcs.filterMap (dD ord)⟩
def bE (M:Mach)(ord:List Nat):Mach:=⟨M.kind,cO ord 0 M.start.toNat,M.lead,ord.map (ff M ord)⟩
def IB (h:Heap)(M:Mach):VH:=fun v h'=> ∃ (a:Option Addr)(n c:Nat)(ps:List (MSt×Value)),v = .agg ⟨aA M a n c⟩/\ps.map (·.1)=M.states/\OwnM h h' (.slice a n c) ps/\Ok h h'
structure OrdOk (N:Nat)(ord:List Nat):Prop where
 lt: ∀ x∈ord,x < N
 nd:ord.Nodup
end
theorem G2 {v:Nat}(hv:v < 4294967296):(((BitVec.ofInt (IntKind.bits .u64) (v:Int) &&& BitVec.ofInt (IntKind.bits .u64) 4294967295).toNat:Nat):Int)=(v:Int):=by
 have e:IntKind.bits .u64=64:=rfl;rw [e,BitVec.toNat_and];have h1:(BitVec.ofInt 64 (v:Int)).toNat=v:=by
  rw [BitVec.toNat_ofInt]; omega
 have h2:(BitVec.ofInt 64 4294967295).toNat=2 ^ 32 - 1:=rfl;rw [h1,h2,Nat.and_two_pow_sub_one_eq_mod,Nat.mod_eq_of_lt hv]
theorem Im {v:Nat}(hv:v < 4294967296):al SS.P .shr 103 (.int .u64 (v:Int)) (.int .u64 32)=some (.int .u64 ((0:Nat):Int)):=by
 have e:((v:Int)).fdiv (2 ^ (min ((32:Int)).toNat (IntKind.bits .u64)))=((0:Nat):Int):=by
  rw [show min ((32:Int)).toNat (IntKind.bits .u64)=32 from rfl,Int.fdiv_eq_ediv_of_nonneg _ (by decide),show (2:Int) ^ 32=4294967296 from rfl];omega
 show (if (0:Int)<=32 then some (Value.int .u64 (((v:Int)).fdiv (2 ^ (min ((32:Int)).toNat (IntKind.bits .u64))))) else none)=_;rw [if_pos (by decide),e]
theorem EW {y:Nat}(hy:y < 4294967296)(h:Heap):FW SS 108 [.int .u64 1,.int .u64 (y:Int)] h (fun v h'=>v = .tuple ⟨[.int .u64 0,.int .u64 (y:Int)]⟩/\h'=h):=by
 refine Gg 1 (y:Int) h _ ?_;have w0: ∀ z:Nat,z < 4294967296->wrap .u64 (z:Int)=(z:Int):=fun z hz=>cI (by omega) (by omega);have e1:(((BitVec.ofInt (IntKind.bits .u64) 1 &&& BitVec.ofInt (IntKind.bits .u64) 4294967295).toNat:Nat):Int)=((1:Nat):Int):=G2 (v:=1) (by decide);have ey:=G2 hy;have z1:=Im (v:=1) (by decide);have zy:=Im hy;have z0:=Im (v:=0) (by decide);have a0:=G2 (v:=0) (by decide);have m0:wrap .u64 (((1:Nat):Int)*(y:Int))=(y:Int):=by rw [show ((1:Nat):Int)*(y:Int)=((y:Nat):Int) by omega]; exact w0 y hy
 have m1:wrap .u64 (((0:Nat):Int)*(y:Int))=((0:Nat):Int):=by rw [show ((0:Nat):Int)*(y:Int)=((0:Nat):Int) by omega]; exact w0 0 (by decide)
 have m2:wrap .u64 (((0:Nat):Int)+((0:Nat):Int))=((0:Nat):Int):=w0 0 (by decide);have m3:wrap .u64 (((1:Nat):Int)*((0:Nat):Int))=((0:Nat):Int):=w0 0 (by decide);have m4:wrap .u64 (((0:Nat):Int)*((0:Nat):Int))=((0:Nat):Int):=w0 0 (by decide);have m5:wrap .u64 ((1:Int)*(y:Int))=(y:Int):=by rw [Int.one_mul]; exact w0 y hy
 refine ⟨((0:Nat):Int),z1,((0:Nat):Int),zy,((0:Nat):Int),?_,((0:Nat):Int),?_,((0:Nat):Int),?_,?_⟩
 ·rw [e1,ey,w0 1 (by decide),w0 y hy,m0]; exact zy
 ·rw [ey,w0 y hy,m1,m2]; exact z0
 ·rw [e1,ey,w0 1 (by decide),w0 y hy,m1,m2,a0,w0 0 (by decide),m3,m2]; exact z0
 ·rw [m4,m2]; dsimp only; rw [m2,m5]; exact ⟨rfl,rfl⟩
theorem II {y:Nat}(hy:y < 4294967296)(h:Heap):FW SS 80 [.int .u64 1,.int .u64 (y:Int)] h (fun v h'=>v = .tuple ⟨[.int .u64 0,.int .u64 (y:Int)]⟩/\h'=h):=by
 refine I1 1 (y:Int) h _ ((EW hy h).mono ?_);rintro _ _ ⟨rfl,rfl⟩;exact ⟨_,_,rfl,rfl,rfl⟩
theorem GR {g:Heap}{kt n j:Nat}{cs:List Value}(hk:g.get kt=some (.cells cs 3 1 true))(hl:cs.length=n)(hn:n < bp)(hj:j<=n):
  bm SS.P 48 (.slice (some ⟨kt,0,none⟩) n n) (some (.int .i64 (j:Int))) none none g=some (.slice (some ⟨kt,j,none⟩) (n - j) (n - j))/\
  bm SS.P 48 (.slice (some ⟨kt,0,none⟩) n n) none (some (.int .i64 (j:Int))) none g=some (.slice (some ⟨kt,0,none⟩) j n):=by
 have hcap:aK n=n:=by unfold aK; rw [if_neg (by omega)]
 constructor
 ·unfold bm;dsimp only;rw [kE];dsimp only [bU];rw [Hz,hk];dsimp only;rw [if_pos (by omega),hcap,if_pos (by omega)];have e1:((j:Int)).toNat=j:=by omega
  have e2:((n:Int) - (j:Int)).toNat=n - j:=by omega
  rw [e1,e2,mul_one,zero_add]
 ·unfold bm;dsimp only;rw [kE];dsimp only [bU];rw [Hz,hk];dsimp only;rw [if_pos (by omega),hcap,if_pos (by omega)];have e2:((j:Int) - ((0:Nat):Int)).toNat=j:=by omega
  have e0:((0:Nat):Int).toNat=0:=rfl;rw [e2,e0]; rfl
theorem C3 {g:Heap}{kt i m:Nat}{n:Nat}{c:Nat}{cs:List Value}(hk:g.get kt=some (.cells cs 3 1 true))(hb:i+n<=cs.length){src:Value}{news:List Value}(hs:cm g 1 src=some (news,m))(hm:news.length=m)(hn0:n≠0)(hm0:m≠0)(hsc:news.all bA=true):
  iz SS.P 48 (.slice (some ⟨kt,i,none⟩) n c) src g=some (.int .i64 ((min m n:Nat):Int),.set kt (.cells (cs.take i++news.take (min m n)++cs.drop (i+min m n)) 3 1 true)):=by
 have hmin:=Nat.min_le_right m n;have hmin2:=Nat.min_le_left m n;have hlen:(news.take (min m n)).length=min m n:=by rw [length_take]; omega
 have hall:(news.take (min m n)).all bA=true:=all_eq_true.2 fun x hx=>all_eq_true.1 hsc x (List.mem_of_mem_take hx);unfold iz;rw [kE];dsimp only;rw [Hz];dsimp only;rw [hs];dsimp only;rw [if_neg (by omega),mul_one];unfold storeAt;rw [hk];dsimp only;rw [if_pos ⟨by omega,hall⟩,hlen];rfl
def fh (x z:Value)(j n:Nat):List Value:=List.replicate j x++List.replicate (n - j) z
theorem Dv {x z:Value}{j n:Nat}(hj:j<=n):(fh x z j n).take j++(List.replicate j x).take (min j (n - j))++(fh x z j n).drop (j+min j (n - j))=fh x z (j+min j (n - j)) n:=by
 have hmin:=Nat.min_le_right j (n - j);have hmin2:=Nat.min_le_left j (n - j);generalize min j (n - j)=m at *;unfold fh;rw [List.take_append_of_le_length (by simp),take_of_length_le (by simp),List.take_replicate,Nat.min_eq_left hmin2,drop_append,drop_eq_nil_of_le (by simp),nil_append,length_replicate,List.drop_replicate,List.replicate_append_replicate];congr 1;congr 1; omega
theorem xc {h:Heap}(w:Wf h){kx n:Nat}(hkx:h.get kx=some (.cells [.int .i64 (-1)] 3 1 true))(hn:n<=100000):FW SS 66 [.slice (some ⟨kx,0,none⟩) 1 1,.int .i64 (n:Int)] h (fun v h'=> ∃ kn,v = .slice (some ⟨kn,0,none⟩) n n/\IRow h kn 3 (List.replicate n (.int .i64 (-1))) h'):=by
 have wr:wrap .u64 (n:Int)=(n:Int):=cI (by omega) (by omega);have wr1:wrap .u64 ((1:Nat):Int)=((1:Nat):Int):=cI (by omega) (by omega);have wr2:wrap .i64 (n:Int)=(n:Int):=ax (by omega) (by omega);refine DR (some ⟨kx,0,none⟩) 1 1 (n:Int) h _ (ae (fun g=> ?_) (fun _=> ?_))
 ·have g:=dT g; omega
 rw [wr,wr1];refine (II (by omega) h).mono ?_;rintro _ g0 ⟨rfl,e0⟩;rw [e0];refine ⟨_,_,rfl,ae (fun g=> ?_) (fun _=>ae (fun g=> ?_) (fun _=> ?_))⟩
 ·exact absurd (dT g) (by omega)
 ·have g:=dT g; omega
 rw [wr2];have mk:=Og n hn;rw [show (List.replicate n 0).map iv=fh (.int .i64 (-1)) (.int .i64 0) 0 n by unfold fh; rw [map_replicate]; rfl] at mk;refine ⟨_,_,_,mk,?_⟩;have op:=(Ok.refl w).push (.cells (fh (.int .i64 (-1)) (.int .i64 0) 0 n) 3 1 true);have kt:=aq h (.cells (fh (.int .i64 (-1)) (.int .i64 0) 0 n) 3 1 true);have hx:=op.ext _ _ hkx;generalize h.push (.cells (fh (.int .i64 (-1)) (.int .i64 0) 0 n) 3 1 true)=g at *;have hfl: ∀ j,j<=n->(fh (.int .i64 (-1)) (.int .i64 0) j n).length=n:=fun j hj=>by unfold fh; simp; omega
 have loop: ∀ (j:Nat)(g:Heap),j<=n->(j=0->n=0)->IRow h h.next 3 (fh (.int .i64 (-1)) (.int .i64 0) j n) g->LL SS eS [1,1,1,1,1,1,0,0,0] [(sA (h.next) n n),(.int .i64 (j:Int))] g (KK SS eS [1,1,1,1,1,1,0,0] [] (EE SS eS fun v h'=> ∃ kn,v = .slice (some ⟨kn,0,none⟩) n n/\IRow h kn 3 (List.replicate n (.int .i64 (-1))) h')):=by
  intro j g hj h0 ir;refine pk (some ⟨kx,0,none⟩) 1 1 (n:Int) (some ⟨h.next,0,none⟩) n n (fun mz j g=> ∃ i:Nat,j=(i:Int)/\i<=n/\(i=0->n=0)/\mz=n - i/\IRow h h.next 3 (fh (.int .i64 (-1)) (.int .i64 0) i n) g) _ (fun mz j=> ?_) (n - j) (j:=(j:Int)) ⟨j,rfl,hj,h0,rfl,ir⟩;intros; rename_i gg hi;obtain ⟨i,rfl,i1,i2,rfl,ir⟩:=hi;refine ae (fun q=> ?_) (fun q=> ?_)
  ·have q:=dT q;have oR:=(Ok.refl ir.ok.wf).room 10;have hk:=oR.ext _ _ ir.row;obtain ⟨s1,s2⟩:=GR hk (hfl i i1) (by unfold bp; omega) i1;have src:cm (Go.Ab.room gg 10) 1 (.slice (some ⟨h.next,0,none⟩) i n)=some (List.replicate i (.int .i64 (-1)),i):=by
    show (match (Go.Ab.room gg 10).get h.next with | some (.cells cs ..)=>if ((cs.drop 0).take (i*1)).length=i*1 then some ((cs.drop 0).take (i*1),i) else none | _=>none)=_;rw [hk];dsimp only;rw [mul_one,List.drop_zero,if_pos (by rw [length_take,hfl i i1]; omega)];unfold fh;rw [List.take_append_of_le_length (by simp),take_of_length_le (by simp)]
   have cp:=C3 (c:=n - i) hk (by rw [hfl i i1]; omega) (i:=i) (n:=n - i) src (by simp) (by omega) (by omega) (all_eq_true.2 fun x hx=>by rw [List.eq_of_mem_replicate hx]; rfl);rw [Dv i1] at cp;refine ⟨_,_,_,s1,_,_,_,s2,_,_,cp,?_⟩;have hmin:min i (n - i)<=n - i:=Nat.min_le_right _ _;have hmin2:0 < min i (n - i):=by omega
   have hmin3:min i (n - i)<=i:=Nat.min_le_left _ _;generalize min i (n - i)=m at *;dsimp only;rw [show wrap .i64 ((i:Int)+(m:Int))=((i+m:Nat):Int) by rw [ax (by omega) (by omega)]; omega];refine cA (n - (i+m)) (by omega) ⟨i+m,rfl,by omega,by omega,rfl,?_,ir.new,?_⟩
   ·show ((Go.Ab.room gg 10).set h.next _).get h.next=_;rw [Heap.get_set,if_pos rfl]
   ·exact (ir.ok.trans oR).set _ (le_refl _) (oR.wf _ _ hk) w
  ·have q:=dF q;obtain rfl:i=n:=by omega
   refine ⟨h.next,rfl,?_⟩;have e:fh (.int .i64 (-1)) (.int .i64 0) i i=List.replicate i (.int .i64 (-1)):=by unfold fh; rw [sub_self]; simp
   rw [e] at ir;exact ir
 have src1:cm g 1 (.slice (some ⟨kx,0,none⟩) 1 1)=some ([.int .i64 (-1)],1):=by
  show (match g.get kx with | some (.cells cs ..)=>if ((cs.drop 0).take (1*1)).length=1*1 then some ((cs.drop 0).take (1*1),1) else none | _=>none)=_;rw [hx]; rfl
 by_cases h0:n=0
 ·subst h0;have cp:iz SS.P 48 (.slice (some ⟨h.next,0,none⟩) 0 0) (.slice (some ⟨kx,0,none⟩) 1 1) g=some (.int .i64 0,.no):=by
   unfold iz;rw [kE]; dsimp only;rw [Hz]; dsimp only;rw [src1]; dsimp only;rw [if_pos (.inl rfl)]
  exact ⟨_,_,cp,loop 0 _ (le_refl _) (fun _=>rfl) ⟨kt,le_refl _,op⟩⟩
 ·have cp:=C3 (c:=n) kt (by rw [hfl 0 (by omega)]; omega) (i:=0) (n:=n) src1 rfl h0 (by decide) rfl;have e:(fh (.int .i64 (-1)) (.int .i64 0) 0 n).take 0++([.int .i64 (-1)]:List Value).take (min 1 n)++(fh (.int .i64 (-1)) (.int .i64 0) 0 n).drop (0+min 1 n)=fh (.int .i64 (-1)) (.int .i64 0) 1 n:=by
   rw [show min 1 n=1 by omega];unfold fh;rw [drop_append];simp
  rw [e,show min 1 n=1 by omega] at cp;refine ⟨_,_,cp,loop 1 _ (by omega) (by omega) ⟨?_,le_refl _,op.set _ (le_refl _) (op.wf _ _ kt) w⟩⟩;show (g.set h.next _).get h.next=_;rw [Heap.get_set,if_pos rfl]
section
def dH:Blk:= .cells [.int .i64 0,.int .i64 0,aa [],.slice none 0 0] 24 0 true
theorem kC:aB SS.P 24=some (dH,gk):=by kernel_rfl
theorem KQ (k s:Int)(l:List UInt8)(a:Option Addr)(n c:Nat):aH SS.P 24 [(0,(.int .i64 k)),(1,(.int .i64 s)),(2,(aa l)),(3,(.slice a n c))]=some (.agg ⟨[.int .i64 k,.int .i64 s,aa l,.slice a n c]⟩):=by cases a <;> kernel_rfl
theorem dQ (M:Mach)(a:Option Addr)(n c:Nat):(aA M a n c).all bA=true:=by cases a <;> rfl
section
variable {hb g g':Heap} {k8 k22 N:Nat} {M':Mach} {ps:List (MSt×Value)}
structure RenI (hb:Heap)(k8 k22 N:Nat)(M':Mach)(ps:List (MSt×Value))(g:Heap):Prop where
 own:OwnM hb g (.slice (some ⟨k22,0,none⟩) N N) ps
 ok:Ok hb g
 box:g.get k8=some (Bm M' (some ⟨k22,0,none⟩) N N)
 hi: ∀ (i:Nat)(p:MSt×Value),ps[i]?=some p-> ∀ j,aM p.2=some j->k8 < j
 nk:k22≠k8
theorem RenI.ext (r:RenI hb k8 k22 N M' ps g)(o:Ok g g'):RenI hb k8 k22 N M' ps g':=⟨r.own.ok o,r.ok.trans o,o.ext _ _ r.box,r.hi,r.nk⟩
theorem RenI.l3 (r:RenI hb k8 k22 N M' ps g):ag SS.P 22 g (.pointer (some ⟨k8,3,none⟩))=some (.slice (some ⟨k22,0,none⟩) N N):=cM qS Bl r.box (by simp [aA])
theorem RenI.all (r:RenI hb k8 k22 N M' ps g):ag SS.P 24 g (.pointer (some ⟨k8,0,none⟩))=some (.agg ⟨aA M' (some ⟨k22,0,none⟩) N N⟩):=ft wx wB fg r.box (by simp [aA])
theorem RenI.setF (w:Wf hb)(r:RenI hb k8 k22 N M' ps g){i:Nat}{p:MSt×Value}(hp:ps[i]?=some p)(f:List UInt8):
  ∃ u:Upd,ai SS.P 9 (.pointer (some ⟨k22,i*2+0,none⟩)) (aa f) g=some (undef,u)/\RenI hb k8 k22 N M' (ps.set i (⟨f,p.1.arcs⟩,p.2)) (u.app g)/\g.next<=(u.app g).next:=by
 obtain ⟨u,h1,h2,h3,h4,h5⟩:=r.own.setF w r.ok hp f;rw [zero_add] at h1;refine ⟨u,h1,⟨h2,h3,h4 _ _ r.box r.nk,fun j q hq k hk=> ?_,r.nk⟩,Nat.le_of_eq h5.symm⟩;rcases aN hq with ⟨_,e⟩ | ⟨_,hq⟩
 ·rw [e] at hk; exact r.hi i p hp k hk
 ·exact r.hi j q hq k hk
theorem RenI.arc (w:Wf hb)(r:RenI hb k8 k22 N M' ps g){i:Nat}{p:MSt×Value}(hp:ps[i]?=some p){q:MArc}{kx:Nat}(hkx:g.get kx=some (.cells (aI q) 39 4 true))(hl:p.1.arcs.length<=100000):
  ∃ (x:Option Addr)(y z:Nat),ag SS.P 35 g (.pointer (some ⟨k22,i*2+1,none⟩))=some (.slice x y z)/\p.2 = .slice x y z/\ ∃ (b:Option Addr)(n c:Nat)(u:Upd),aO SS.P 35 35 (.slice x y z) (.slice (some ⟨kx,0,none⟩) 1 1) g=some (.slice b n c,u)/\
   ∃ u2:Upd,ai SS.P 35 (.pointer (some ⟨k22,i*2+1,none⟩)) (.slice b n c) (u.app g)=some (undef,u2)/\RenI hb k8 k22 N M' (ps.set i (⟨p.1.f,p.1.arcs++[q]⟩,.slice b n c)) (u2.app (u.app g)):=by
 obtain ⟨a1,a2,_⟩:=r.own.at_ hp;rw [zero_add] at a1 a2;have ao:=r.own.arcs i p hp;obtain ⟨x,z,e⟩:=ao.slc;obtain ⟨b,n,c,u,h1,h2,h3,h4,h5,h6⟩:=zv w r.ok ao hkx hl;obtain ⟨u2,s1,s2,s3,s4,s5⟩:=r.own.setA w h3 hp h4 h2 h5 r.ok.wf;rw [zero_add] at s1;rw [e] at h1 a2;refine ⟨x,_,z,a2,e,b,n,c,u,h1,u2,s1,⟨s2,s3,s4 _ _ (h4 _ _ r.box (fun e'=>by have:=r.hi i p hp _ e'; omega)) r.nk,fun j q' hq' k hk=> ?_,r.nk⟩⟩;have h8:k8 < g.next:=r.ok.wf _ _ r.box;rcases aN hq' with ⟨_,e⟩ | ⟨_,hq'⟩
 ·rw [e] at hk;rcases h5 k hk with h | h
  ·omega
  ·exact r.hi i p hp k h
 ·exact r.hi j q' hq' k hk
end
theorem AB.setT {hb g:Heap}(w:Wf hb)(ok:Ok hb g){k:Nat}{q:MArc}(b:AB g k q)(hk:hb.next<=k)(z:Int): ∃ u:Upd,ai SS.P 3 (.pointer (some ⟨k,0+3,none⟩)) (.int .i64 z) g=some (undef,u)/\Ok hb (u.app g)/\AB (u.app g) k ⟨q.i,q.o,q.w,z⟩:=by
 refine ⟨_,j6 Hz b (by simp [aI]) rfl rfl,ok.set _ hk (ok.wf _ _ b) w,?_⟩;show (g.set k _).get k=_;rw [Heap.get_set,if_pos rfl]; rfl
theorem AB.all {g:Heap}{k:Nat}{q:MArc}(b:AB g k q):ag SS.P 39 g (.pointer (some ⟨k,0,none⟩))=some (.agg ⟨aI q⟩):=ft G0 F9 rI b (by simp [aI])
def H6 (N:Nat)(ord:List Nat):List Value:=(List.range N).map fun x=> .int .i64 (cO ord 0 x)
theorem CL (N:Nat)(ord:List Nat):(H6 N ord).length=N:=by simp [H6]
theorem I9 (N:Nat):H6 N []=List.replicate N (.int .i64 (-1)):=by
 refine List.ext_getElem? fun i=> ?_;unfold H6;rw [getElem?_map,getElem?_replicate];by_cases h:i < N
 ·rw [getElem?_range h,if_pos h]; rfl
 ·rw [getElem?_eq_none (by simpa using h),if_neg h]; rfl
theorem Ic {N:Nat}{ord:List Nat}{s:Nat}(hs:s ∉ ord):H6 N (ord++[s])=(H6 N ord).set s (.int .i64 ((ord.length:Nat):Int)):=by
 refine List.ext_getElem? fun i=> ?_;unfold H6;rw [getElem?_set,getElem?_map,getElem?_map,lM,List.length_range];by_cases h:i < N
 ·rw [getElem?_range h];simp only [map_some];rw [uu _ _ _ _ hs,zero_add];by_cases h2:i=s
  ·rw [if_pos h2,if_pos h2.symm,if_pos (by omega)]
  ·rw [if_neg h2,if_neg (fun e=>h2 e.symm)]
 ·rw [getElem?_eq_none (by simpa using h)];by_cases h2:s=i
  ·rw [if_pos h2,if_neg (by omega)]; rfl
  ·rw [if_neg h2]; rfl
theorem Bn {g:Heap}{kn N c:Nat}{ord:List Nat}(hg:g.get kn=some (.cells (H6 N ord) 3 1 true)){x:Nat}(hx:x < N):ah SS.P 48 (.slice (some ⟨kn,0,none⟩) N c) (.int .i64 (x:Int))=some (.pointer (some ⟨kn,x,none⟩))/\ag SS.P 3 g (.pointer (some ⟨kn,x,none⟩))=some (.int .i64 (cO ord 0 x)):=by
 have h1:=FF (P:=SS.P) kE Hz (k:=kn) (off:=0) (n:=N) (c:=c) (ik:= .i64) (i:=(x:Int)) (by omega) (by omega);rw [Int.toNat_natCast,zero_add,mul_one] at h1;refine ⟨h1,?_⟩;rw [cM Hg GS hg (by rw [CL]; exact hx)];unfold H6;rw [gD,getElem?_map,getElem?_range hx]; rfl
theorem fe: ∀ {l:List Nat},l.Nodup-> ∀ {i j x:Nat},l[i]?=some x->l[j]?=some x->i=j
 | [],_,i,j,x,h,_=>by simp at h
 | y::l,hn,0,0,x,_,_=>rfl
 | y::l,hn,0,j+1,x,h,h'=>by
  obtain rfl:y=x:=by simpa using h
  exact absurd (List.mem_of_getElem? (by simpa using h')) (nodup_cons.1 hn).1
 | y::l,hn,i+1,0,x,h,h'=>by
  obtain rfl:y=x:=by simpa using h'
  exact absurd (List.mem_of_getElem? (by simpa using h)) (nodup_cons.1 hn).1
 | y::l,hn,i+1,j+1,x,h,h'=>by
  exact congrArg (· + 1) (fe (nodup_cons.1 hn).2 (x:=x) (by simpa using h) (by simpa using h'))
theorem dy: ∀ (N:Nat){l:List Nat},l.Nodup->(∀ x∈l,x < N)->l.length<=N
 | 0,l,_,h=>by
  cases l with
  | nil=>exact le_refl _
  | cons x l=>exact absurd (h x (mem_cons_self ..)) (not_lt_zero _)
 | N+1,l,hn,h=>by
  by_cases hm:N∈l
  ·have h1:=List.length_erase_of_mem hm;have h2:=dy N (hn.erase N) (fun x hx=>by
    have h3:=(hn.mem_erase_iff).1 hx;have:=h x h3.2;omega)
   have h4:0 < l.length:=List.length_pos_of_mem hm;omega
  ·exact Nat.le_succ_of_le (dy N hn fun x hx=>by
    have:=h x hx;have:x≠N:=fun e=>hm (e ▸ hx);omega)
theorem Dl {g:Heap}(w:Wf g){n i j:Nat}(hi:i < n)(hj:j < n)(hne:i≠j)(A B:Blk):Ok g (ay (Go.Ab.room g n) g.next [(j,B),(i,A)])/\(ay (Go.Ab.room g n) g.next [(j,B),(i,A)]).get (g.next+i)=some A/\(ay (Go.Ab.room g n) g.next [(j,B),(i,A)]).get (g.next+j)=some B:=by
 have o1:Ok g ((Go.Ab.room g n).set (g.next+i) A):=((Ok.refl w).room n).set A (le_add_right _ _) (Nat.add_lt_add_left hi _) w;refine ⟨o1.set B (le_add_right _ _) (Nat.add_lt_add_left hj _) w,?_,?_⟩
 ·show (((Go.Ab.room g n).set (g.next+i) A).set (g.next+j) B).get (g.next+i)=_;rw [Heap.get_set,if_neg (by omega),Heap.get_set,if_pos rfl]
 ·show (((Go.Ab.room g n).set (g.next+i) A).set (g.next+j) B).get (g.next+j)=_;rw [Heap.get_set,if_pos rfl]
def qY (M:Mach)(ord:List Nat)(i:Nat):List MSt:=(ord.take i).map (ff M ord)++List.replicate (ord.length - i) zst.1
theorem DE (M:Mach)(ord:List Nat):qY M ord 0=List.replicate ord.length zst.1:=by simp [qY]
theorem Ea (M:Mach)(ord:List Nat):qY M ord ord.length=ord.map (ff M ord):=by simp [qY]
theorem C8 {M:Mach}{ord:List Nat}{i:Nat}(hi:i < ord.length):(qY M ord i)[i]?=some zst.1:=by
 unfold qY;rw [List.getElem?_append_right (by rw [lM,length_take]; omega),lM,length_take,Nat.min_eq_left (by omega),sub_self,getElem?_replicate,if_pos (by omega)]
theorem Fi {M:Mach}{ord:List Nat}{i s:Nat}(hs:ord[i]?=some s):(qY M ord i).set i (ff M ord s)=qY M ord (i+1):=by
 have hi:i < ord.length:=(List.getElem?_eq_some_iff.1 hs).1;unfold qY;have e1:((ord.take i).map (ff M ord)).length=i:=by simp; omega
 rw [List.set_append,if_neg (by omega),e1,sub_self,take_add_one,hs,map_append,List.append_assoc];congr 1;rw [show ord.length - i=(ord.length - (i+1))+1 by omega,List.replicate_succ,List.set_cons_zero];rfl
theorem OwnM.low {h hb g g':Heap}{v:Value}{ps:List (MSt×Value)}(m:OwnM hb g v ps)(o:Ok h hb)(kp: ∀ j B,g.get j=some B->hb.next<=j->g'.get j=some B):OwnM h g' v ps:=by
 have key: ∀ {e:TypeId}{sz:Nat}{v:Value}{rs:List (List Value)},OwnK hb g e sz v rs->OwnK h g' e sz v rs:=fun {e sz v rs} r=>by
  obtain ⟨hl,r | ⟨k,off,cs,c,h1,h2,h3,h4⟩⟩:=r
  ·exact ⟨hl,.inl r⟩
  ·exact ⟨hl,.inr ⟨k,off,cs,c,h1,le_trans o.nx h2,kp _ _ h3 h2,h4⟩⟩
 exact ⟨key m.row,fun i p hp=>key (m.arcs i p hp),m.ne,m.dis⟩
section
variable {h:Heap} {M:Mach} {a:Option Addr} {n c:Nat} {b:Option Addr} {m d:Nat} {ord:List Nat}
theorem De {M:Mach}{x:Nat}{s:MSt}(hs:M.states[x]?=some s):M.states.getD x ⟨[],[]⟩=s:=by rw [gD,hs]; rfl
def wE (M:Mach)(ord:List Nat)(i j:Nat)(s:MSt):List MSt:=(qY M ord i).set i ⟨s.f,(s.arcs.take j).filterMap (dD ord)⟩
def OK (hb:Heap)(M:Mach)(ord:List Nat)(k8 k22:Nat)(mz2 i:Nat)(g:Heap):Prop:=i<=ord.length/\mz2=ord.length - i/\ ∃ ps,ps.map (·.1)=qY M ord i/\RenI hb k8 k22 ord.length (bE M ord) ps g
def OZ (hb:Heap)(M:Mach)(ord:List Nat)(k8 k22 i:Nat)(s:MSt)(mz3 j:Nat)(g:Heap):Prop:=j<=s.arcs.length/\mz3=s.arcs.length - j/\ ∃ ps,ps.map (·.1)=wE M ord i j s/\RenI hb k8 k22 ord.length (bE M ord) ps g
theorem yG {M:Mach}{ord:List Nat}{i j:Nat}{s:MSt}{q:MArc}(hq:s.arcs[j]?=some q)(hi:i < ord.length):wE M ord i (j+1) s=(match dD ord q with | none=>wE M ord i j s | some q'=>(wE M ord i j s).set i ⟨s.f,(s.arcs.take j).filterMap (dD ord)++[q']⟩):=by
 unfold wE;rw [take_add_one,hq,List.filterMap_append];show (qY M ord i).set i ⟨s.f,_++List.filterMap (dD ord) [q]⟩=_
 cases he:dD ord q with
 | none=>simp [he]
 | some q'=>simp [he,List.set_set]
theorem Kr {M:Mach}{ord:List Nat}{i j:Nat}{s:MSt}(hi:i < ord.length):(wE M ord i j s)[i]?=some ⟨s.f,(s.arcs.take j).filterMap (dD ord)⟩:=by
 unfold wE;rw [getElem?_set,if_pos rfl,if_pos];exact (List.getElem?_eq_some_iff.1 (C8 (M:=M) hi)).1
theorem A9 {ps:List (MSt×Value)}{L:List MSt}(h:ps.map (·.1)=L){i:Nat}{s:MSt}(hs:L[i]?=some s): ∃ p,ps[i]?=some p/\p.1=s:=by
 rw [<-h,getElem?_map] at hs;obtain ⟨p,h1,h2⟩:=map_eq_some_iff.1 hs;exact ⟨p,h1,h2⟩
set_option linter.defProp false in
def BV {hb h0:Heap}(w:Wf hb)(gd:Good M){k k4 k8 k22 kn:Nat}(mb0:MB h0 k M a n c)(o0:Ok h0 hb)(hn:n<=300)(nb:hb.get kn=some (.cells (H6 n ord) 3 1 true)){i x:Nat}{s:MSt}(hx:ord[i]?=some x)(hs:M.states[x]?=some s)(hsl:s.arcs.length<=2000)(hol:ord.length<=300){b':Option Addr}{m' d':Nat}(ar:ArcRow hb (.slice b' m' d') s.arcs)(e:Option Addr)(en ec:Nat)(mz2:Nat)(hmz:mz2=ord.length - i)(mv:List Value)(Q:VH):=
 qW mv b m d k k4 k8 k22 (i*2) (some ⟨kn,0,none⟩) n n b' m' d' (OK hb M ord k8 k22) mz2 i (OZ hb M ord k8 k22 i s) Q (by
  intro mz3 j; intros; rename_i g hin;obtain ⟨f1,rfl,ps,hps,ri⟩:=hin;have hi:i < ord.length:=(List.getElem?_eq_some_iff.1 hx).1;have hnl:n=M.states.length:=mb0.len;have hml:=ar.len;refine ae (fun g1=> ?_) (fun g1=> ?_)
  ·have g1:=dT g1;obtain ⟨q,hq⟩: ∃ q,s.arcs[j]?=some q:=⟨_,gE (by omega)⟩
   obtain ⟨bb,oo,d1,d2,d3,d4,d5,d6⟩:=(ar.ok ri.ok).at_ hq;have hin:=gd.arcs s (List.mem_of_getElem? hs) q (List.mem_of_getElem? hq);obtain ⟨Y,hY⟩: ∃ Y:Nat,q.t=(Y:Int):=⟨q.t.toNat,by have:=hin.t0; omega⟩
   have hYn:Y < n:=by have:=hin.t1; omega
   have wg:=ri.ok.wf;obtain ⟨u,p1,p2,p3⟩:=qH wg q;refine ⟨_,d1,_,d2,_,zJ,u,p1,_,fz _ _,_,p3.l3,?_⟩;have nbg:=p2.ext _ _ (ri.ok.ext _ _ nb);generalize u.app (g.push C7)=g72 at *;obtain ⟨n1,n2⟩:=Bn (c:=n) nbg hYn;rw [hY];obtain ⟨u2,t1,t2,t3⟩:=p3.setT wg p2 (le_refl _) (cO ord 0 Y);refine ⟨_,n1,_,n2,_,fz _ _,u2,t1,_,fz _ _,_,t3.l3,?_⟩;have ri2:=ri.ext t2;generalize u2.app g72=g79 at *;have hw:wrap .i64 ((j:Int)+1)=((j+1:Nat):Int):=aG (n:=s.arcs.length) (by omega) (by omega);have hrl:s.arcs.length - (j+1) < s.arcs.length - j:=by omega
   have hYt:q.t.toNat=Y:=by omega
   refine ae (fun g2=> ?_) (fun g2=> ?_)
   ·have g2: ¬ cO ord 0 Y = -1:=by simpa using g2
    have hra:dD ord q=some ⟨q.i,q.o,q.w,cO ord 0 Y⟩:=by unfold dD; rw [hYt,if_neg g2]
    obtain ⟨p,hp,hp1⟩:=A9 hps (Kr (M:=M) (j:=j) (s:=s) hi);obtain ⟨o6,k6⟩:=rA ri2.ok.wf (n:=11) (j:=6) (by omega) (.cells (aI ⟨q.i,q.o,q.w,cO ord 0 Y⟩) 39 4 true);have oR:=(Ok.refl ri2.ok.wf).room 11;have ri3:=ri2.ext o6;have hlen:p.1.arcs.length<=2000:=by rw [hp1]; exact le_trans (List.length_filterMap_le ..) (by rw [length_take]; omega)
    obtain ⟨x1,y1,z1,a1,e1,b2,n2',c2,u3,a2,u4,a3,ri4⟩:=ri3.arc w hp k6 (by omega);have ld:=((ri2.ext oR).own.at_ hp).2.1;rw [zero_add,e1] at ld;refine ⟨_,cw _ _,x1,y1,z1,ld,_,(t3.ok oR).all,_,_,_,M3 _,b2,n2',c2,u3,a2,_,cw _ _,u4,a3,?_⟩;dsimp only;rw [hw];refine cA (s.arcs.length - (j+1)) hrl ⟨by omega,rfl,_,?_,ri4⟩;rw [map_set,hps,yG hq hi,hra,hp1]
   ·have g2:cO ord 0 Y = -1:=by simpa using g2
    have hra:dD ord q=none:=by unfold dD; rw [hYt,if_pos g2]
    rw [hw];exact cA (s.arcs.length - (j+1)) hrl ⟨by omega,rfl,ps,by rw [hps,yG hq hi,hra],ri2⟩
  ·have g1:=dF g1;rw [aG hi (by omega)];refine cA (ord.length - (i+1)) (by omega) ⟨by omega,rfl,ps,?_,ri⟩;rw [hps,<-Fi hx];unfold wE ff;rw [De hs,take_of_length_le (by omega)])
theorem CA (w:Wf h)(gd:Good M)(hN:M.states.length<=300)(hA: ∀ s∈M.states,s.arcs.length<=2000)(r:StRow h (.slice a n c) M.states)(ro:Rd h 3 (.slice b m d) (ord.map iv))(oo:OrdOk M.states.length ord):FW SS 43 [.agg ⟨aA M a n c⟩,.slice b m d] h (IB h (bE M ord)):=by
 obtain ⟨mb0,ok0⟩:=dM w r;have hnl:n=M.states.length:=mb0.len;have hm:m=ord.length:=by have:=ro.len; rwa [lM] at this
 have hol:ord.length<=300:=by
  have:=dy M.states.length oo.nd oo.lt;omega
 refine JT (aA M a n c) b m d h _ ⟨_,fo M a n c,_,kC,_,_,_,xd _,?_⟩;have ok4:=ok0.push dH;have k4:=aq (h.push (Bm M a n c)) dH;have mb4:=mb0.ok ((Ok.refl ok0.wf).push dH);have n4:h.next<=(h.push (Bm M a n c)).next:=ok0.nx;generalize h.push (Bm M a n c)=g0 at *;generalize hK4:g0.next=K4 at *;generalize g0.push dH=g4 at *;have o8:=(Ok.refl ok4.wf).push (.cells [.int .i64 (-1)] 3 1 true);have ok8:=ok4.trans o8;have kx:=aq g4 (.cells [.int .i64 (-1)] 3 1 true);have mb8:=mb4.ok o8;have k48:=o8.ext _ _ k4;generalize g4.push (.cells [.int .i64 (-1)] 3 1 true)=g8 at *;refine ⟨_,bn _,_,_,_,mb8.l3,(xc ok8.wf kx (n:=n) (by omega)).mono ?_⟩;rintro _ g9 ⟨kn,rfl,ir⟩;refine ⟨_,_,_,rfl,?_⟩;rw [<-I9 n] at ir;have mx: ∀ {i x:Nat},ord[i]?=some x->x < n:=fun hx=>by have:=oo.lt _ (List.mem_of_getElem? hx); omega
 refine qT (aA M a n c) b m d h.next K4 (some ⟨kn,0,none⟩) n n (fun mz i g=>i<=m/\mz=m - i/\IRow g8 kn 3 (H6 n (ord.take i)) g) _ (fun mz i=> ?_) m (i:=0) ⟨zero_le _,rfl,ir⟩;intros; rename_i g hin;obtain ⟨f1,rfl,ir⟩:=hin;have okg:=ok8.trans ir.ok;refine ae (fun q1=> ?_) (fun q1=> ?_)
 ·have q1:=dT q1;obtain ⟨x,hx⟩: ∃ x,ord[i]?=some x:=⟨_,gE (by omega)⟩
  obtain ⟨p,e1,e2⟩:=Mi (ro.ok okg) hx;have hxn:=mx hx;obtain ⟨n1,_⟩:=Bn (c:=n) ir.row hxn;have st:=j6 (t:=3) Hz ir.row (i:=x) (by rw [CL]; exact hxn) (v:= .int .i64 (i:Int)) rfl rfl;have hnx:x ∉ ord.take i:=fun hmem=>by
   obtain ⟨j,hj,e⟩:=List.mem_iff_getElem.1 hmem;rw [length_take] at hj;rw [List.getElem_take] at e;have e':ord[j]?=some x:=by rw [gE (by omega),e]
   have:=fe oo.nd e' hx;omega
  have hl:(ord.take i).length=i:=by rw [length_take]; omega
  refine ⟨_,e1,_,e2,_,n1,_,st,?_⟩;rw [aG (n:=m) (by omega) (by omega)];refine cA (m - (i+1)) (by omega) ⟨by omega,rfl,?_⟩;have e3:ord.take (i+1)=ord.take i++[x]:=by rw [take_add_one,hx]; rfl
  rw [e3,Ic hnx,hl];exact ir.set ok8.wf x _
 ·have q1:=dF q1;obtain rfl:m=i:=by omega
  rw [take_of_length_le (by omega)] at ir;have mbg:=mb8.ok ir.ok;have oR:=(Ok.refl okg.wf).room 15;have mbR:=mbg.ok oR;have hst0:=gd.start0;have hst1:=gd.start1;obtain ⟨S,hS⟩: ∃ S:Nat,M.start=(S:Int):=⟨M.start.toNat,by omega⟩
  have hSn:S < n:=by omega
  have lS:=mbR.l1;rw [hS] at lS;obtain ⟨n1,n2⟩:=Bn (c:=n) (oR.ext _ _ ir.row) hSn;have mk:=LF m (by omega);refine ⟨_,gH _,_,mbR.l0,_,fF _,_,lS,_,n1,_,n2,_,jM _,_,mbR.l2,_,_,_,mk,_,KQ _ _ _ _ _ _,_,kC,?_⟩;obtain ⟨o2,k11,k13⟩:=Dl okg.wf (n:=15) (i:=11) (j:=13) (by omega) (by omega) (by omega) (.cells ((List.replicate m zst).map dg).flatten 37 2 true) dH;have k4g:=okg.ext;generalize hS2:ay (Go.Ab.room g 15) g.next [(13,dH),(11,.cells ((List.replicate m zst).map dg).flatten 37 2 true)]=S2 at *;have pa:=cC (t:=24) fg (cs0:=[.int .i64 0,.int .i64 0,aa [],.slice none 0 0]) rfl k13 (cs:=[.int .i64 M.kind,.int .i64 (cO ord 0 S),aa M.lead,.slice (some ⟨g.next+11,0,none⟩) m m]) rfl rfl;refine ⟨_,pa,?_⟩;obtain ⟨o3,k13'⟩:=dL (cs:=[.int .i64 M.kind,.int .i64 (cO ord 0 S),aa M.lead,.slice (some ⟨g.next+11,0,none⟩) m m]) okg.wf o2 k13 (by omega);have k11':((Upd.set (g.next+13) (.cells [.int .i64 M.kind,.int .i64 (cO ord 0 S),aa M.lead,.slice (some ⟨g.next+11,0,none⟩) m m] 24 0 true)).app S2).get (g.next+11)=some (.cells ((List.replicate m zst).map dg).flatten 37 2 true):=by
   show (S2.set (g.next+13) _).get (g.next+11)=_;rw [Heap.get_set,if_neg (by omega)]; exact k11
  generalize (Upd.set (g.next+13) (.cells [.int .i64 M.kind,.int .i64 (cO ord 0 S),aa M.lead,.slice (some ⟨g.next+11,0,none⟩) m m] 24 0 true)).app S2=g37 at *;have hMst:M.start.toNat=S:=by omega
  have ri:RenI g (g.next+13) (g.next+11) m (bE M ord) (List.replicate m zst) g37:=⟨OwnM.made k11' (by omega) (by omega),o3,by unfold Bm aA bE; rw [hMst]; exact k13',fun i p hp j hj=>(by
   rw [getElem?_replicate] at hp;split at hp
   ·obtain rfl:=oI hp; cases hj
   ·cases hp),by omega⟩
  subst hm;refine qZ (aA M a n c) b ord.length d h.next K4 (g.next+13) (some ⟨kn,0,none⟩) n n (OK g M ord (g.next+13) (g.next+11)) _ (fun mz2 i=> ?_) ord.length (i:=0) ⟨zero_le _,rfl,_,by rw [DE,map_replicate],ri⟩;intros; rename_i gg hin;obtain ⟨f2,rfl,ps,hps,ri⟩:=hin;have mbG:=mbg.ok ri.ok;refine ae (fun q2=> ?_) (fun q2=> ?_)
  ·have q2:=dT q2;have hi:i < ord.length:=by omega
   obtain ⟨x,hx⟩: ∃ x,ord[i]?=some x:=⟨_,gE hi⟩
   have hxn:=mx hx;obtain ⟨s,hs⟩:=md (M:=M) (i:=x) (by omega);obtain ⟨p,e1,e2⟩:=Mi (ro.ok (okg.trans ri.ok)) hx;obtain ⟨p0,hp0,hp1⟩:=A9 hps (C8 (M:=M) hi);obtain ⟨i1,i2,i3⟩:=ri.own.at_ hp0;rw [zero_add] at i1;obtain ⟨u,s1,ri2,_⟩:=ri.setF okg.wf hp0 s.f;obtain ⟨bb,o,x',y,z,j1,j2,j3,j4,ar⟩:=mbg.row.at2 ri.ok hs;obtain ⟨bb2,o',x'2,y2,z2,l1,l2,l3,l4,ar2⟩:=mbg.row.at2 ri2.ok hs;have mbG2:=mbg.ok ri2.ok;refine ⟨_,e1,_,e2,_,bn _,_,_,_,ri.l3,_,i1,_,bn _,_,_,_,mbG.l3,_,j1,_,gG _ _,_,j3,_,gG _ _,u,s1,_,bn _,_,_,_,mbG2.l3,_,l1,_,cw _ _,_,_,_,l4,?_⟩;refine BV (h0:=g) okg.wf gd mbg (Ok.refl okg.wf) (by omega) ir.row hx hs (hA s (List.mem_of_getElem? hs)) hol ar2 none 0 0 _ rfl (aA M a n c) _ y2 (j:=0) ⟨zero_le _,ar2.len.trans rfl,_,?_,ri2⟩;rw [map_set,hps];unfold wE;rw [List.take_zero,hp1]; rfl
  ·have q2:=dF q2;obtain rfl:i=ord.length:=by omega
   rw [Ea] at hps;have oG:=okg.trans ri.ok;have k4G:=ri.ok.ext _ _ (ir.ok.ext _ _ k48);have hK:K4 < g.next:=okg.wf _ _ (ir.ok.ext _ _ k48);have pa2:=cC (t:=24) fg (cs0:=[.int .i64 0,.int .i64 0,aa [],.slice none 0 0]) rfl k4G (cs:=aA (bE M ord) (some ⟨g.next+11,0,none⟩) ord.length ord.length) rfl (dQ _ _ _ _);obtain ⟨o5,k5⟩:=dL (cs:=aA (bE M ord) (some ⟨g.next+11,0,none⟩) ord.length ord.length) w oG k4G (by omega);refine ⟨_,ri.all,_,pa2,oX (v:= .agg ⟨aA (bE M ord) (some ⟨g.next+11,0,none⟩) ord.length ord.length⟩) (ft wx wB fg k5 (by simp [aA])) ?_⟩;refine ⟨_,_,_,ps,rfl,by rw [hps]; rfl,?_,o5⟩;exact ri.own.low okg (fun j B hj hne=>by
    show (gg.set K4 _).get j=_;rw [Heap.get_set,if_neg (by omega)]; exact hj)
end
end
theorem SB.all {g:Heap}{k:Nat}{f:List UInt8}{x:Option Addr}{y z:Nat}(b:SB g k f x y z):ag SS.P 37 g (.pointer (some ⟨k,0,none⟩))=some (.agg ⟨[aa f,.slice x y z]⟩):=ft LU Lq qj b (by simp)
def qd (kind:Int):List UInt8:=if kind=1 then [48] else if kind=2\/kind=3 then [49] else []
theorem Lb (k:Nat):af SS.P 68 (.pointer (some ⟨k,0,none⟩)) 1=some (.pointer (some ⟨k,1,none⟩)):=by kernel_rfl
theorem JL (kind:Int){h:Heap}(w:Wf h):FW SS 50 [.int .i64 kind] h (fun v h'=>v=aa (qd kind)/\Ok h h'):=by
 refine IU kind h _ ((z7 kind w).mono ?_);rintro _ g ⟨rfl,o⟩;have key: ∀ (ring:List Value)(b:Bool),ring.length=8->ring.all bA=true->ring.getD 1 undef=aa (qd kind)-> ∃ cs:List Value,∃ b':Bool,(Value.tuple ⟨[.agg ⟨ring⟩,.bool b]⟩)=(.tuple ⟨[.agg ⟨cs⟩,.bool b']⟩)/\ ∃ B:Blk,aB SS.P 68=some (B,gk)/\ ∃ u:Upd,ai SS.P 68 (.pointer (some ⟨g.next,0,none⟩)) (.agg ⟨cs⟩) (g.push B)=some (undef,u)/\ ∃ p:Addr,af SS.P 68 (.pointer (some ⟨g.next,0,none⟩)) 1=some (.pointer (some p))/\ ∃ l:List UInt8,ag SS.P 9 (u.app (g.push B)) (.pointer (some p))=some (aa l)/\(aa l=aa (qd kind)/\Ok h (u.app (g.push B))):=by
  intro ring b hl hs h1;have k0:=aq g FI;have o1:=(Ok.refl o.wf).push FI;obtain ⟨o2,k2⟩:=dL (cs:=ring) o.wf o1 k0 (le_refl _);refine ⟨ring,b,rfl,FI,JO,_,cC zO rfl k0 hl hs,_,Lb _,qd kind,?_,rfl,o.trans o2⟩;rw [cM IK KB k2 (by omega),h1]
 unfold KF;split
 ·next hk=>exact key qM true rfl rfl (by unfold qd; rw [if_pos hk]; rfl)
 ·next hk=>
  split
  ·next hk2=>exact key qh true rfl rfl (by unfold qd; rw [if_neg hk,if_pos (.inl hk2)]; rfl)
  ·next hk2=>
   split
   ·next hk3=>exact key qA true rfl rfl (by unfold qd; rw [if_neg hk,if_pos (.inr hk3)]; rfl)
   ·next hk3=>exact key gx false rfl rfl (by unfold qd; rw [if_neg hk,if_neg (by rintro (h | h) <;> contradiction)]; rfl)
def sD (h:Heap)(R:Mach×Int):VH:=fun v h'=> ∃ (a:Option Addr)(n c:Nat)(ps:List (MSt×Value)),v = .tuple ⟨[.agg ⟨aA R.1 a n c⟩,.int .i64 R.2]⟩/\ps.map (·.1)=R.1.states/\OwnM h h' (.slice a n c) ps/\Ok h h'
def nc:Mach:=⟨0,0,[],[]⟩
def jh (kind:Int):Mach×Int:=if 1<=kind/\kind<=3 then (⟨kind,0,qd kind,[⟨[],[]⟩]⟩,0) else (nc,1)
theorem AV:aH SS.P 24 []=some (.agg ⟨aA nc none 0 0⟩):=by kernel_rfl
theorem GJ (k:Int)(l:List UInt8)(a:Option Addr)(n c:Nat):aH SS.P 24 [(0,(.int .i64 k)),(2,(aa l)),(3,(.slice a n c))]=some (.agg ⟨[.int .i64 k,.int .i64 0,aa l,.slice a n c]⟩):=by cases a <;> kernel_rfl
theorem lZ {h g:Heap}(w:Wf h)(o:Ok h g){k:Nat}(hk:g.get k=some dH)(hn:h.next<=k){R:Mach×Int}{a:Option Addr}{n c:Nat}{ps:List (MSt×Value)}(hps:ps.map (·.1)=R.1.states){hb:Heap}(om:OwnM hb g (.slice a n c) ps)(ob:Ok h hb)(hkb:k < hb.next\/ps=[]/\a=none/\n=0/\c=0):
  ∃ u:Upd,ai SS.P 24 (.pointer (some ⟨k,0,none⟩)) (.agg ⟨aA R.1 a n c⟩) g=some (undef,u)/\dG SS [(.pointer (some ⟨k,0,none⟩),some 24),(.int .i64 R.2,none)] (u.app g) (sD h R):=by
 refine ⟨_,cC (t:=24) fg (cs0:=[.int .i64 0,.int .i64 0,aa [],.slice none 0 0]) rfl hk (cs:=aA R.1 a n c) rfl (dQ ..),?_⟩;obtain ⟨o5,k5⟩:=dL (cs:=aA R.1 a n c) w o hk hn;refine oB (v:= .agg ⟨aA R.1 a n c⟩) (ft wx wB fg k5 (by simp [aA])) ⟨a,n,c,ps,rfl,hps,?_,o5⟩;rcases hkb with hkb | ⟨rfl,rfl,rfl,rfl⟩
 ·exact om.low ob (fun j B hj hne=>by
   show (g.set k _).get j=_;rw [Heap.get_set,if_neg (by omega)]; exact hj)
 ·exact OwnM.nil _ _
theorem qr {h g:Heap}(w:Wf h)(o:Ok h g){k:Nat}(hk:g.get k=some dH)(hn:h.next<=k){kind:Int}(hkd: ¬ (1<=kind/\kind<=3)): ∃ cs:List Value,aH SS.P 24 []=some (.agg ⟨cs⟩)/\ ∃ u:Upd,ai SS.P 24 (.pointer (some ⟨k,0,none⟩)) (.agg ⟨cs⟩) g=some (undef,u)/\dG SS [(.pointer (some ⟨k,0,none⟩),some 24),(.int .i64 1,none)] (u.app g) (sD h (jh kind)):=by
 have e:jh kind=(nc,1):=by unfold jh; rw [if_neg hkd]
 rw [e];exact ⟨_,AV,lZ w o hk hn (R:=(nc,1)) (ps:=[]) rfl (OwnM.nil h g) (Ok.refl w) (.inr ⟨rfl,rfl,rfl,rfl⟩)⟩
theorem BA {h g:Heap}(w:Wf h)(o:Ok h g){k:Nat}(hk:g.get k=some dH)(hn:h.next<=k){g0:Heap}(wg0:Wf g0)(o0:Ok h g0)(oS:Ok g0 g)(hk0:k < g0.next){kx:Nat}(hx:g0.next<=kx)(hkx:g.get kx=some (.cells ((List.replicate 1 zst).map dg).flatten 37 2 true)){kind:Int}(hkd:1<=kind/\kind<=3):
  ∃ cs:List Value,aH SS.P 24 [(0,(.int .i64 kind)),(2,(aa (qd kind))),(3,(.slice (some ⟨kx,0,none⟩) 1 1))]=some (.agg ⟨cs⟩)/\ ∃ u:Upd,ai SS.P 24 (.pointer (some ⟨k,0,none⟩)) (.agg ⟨cs⟩) g=some (undef,u)/\dG SS [(.pointer (some ⟨k,0,none⟩),some 24),(.int .i64 0,none)] (u.app g) (sD h (jh kind)):=by
 have e:jh kind=(⟨kind,0,qd kind,[⟨[],[]⟩]⟩,0):=by unfold jh; rw [if_pos hkd]
 rw [e];exact ⟨_,GJ _ _ _ _ _,lZ w o hk hn (R:=(⟨kind,0,qd kind,[⟨[],[]⟩]⟩,0)) (ps:=[zst]) rfl (OwnM.made (hb:=g0) (n:=1) hkx hx (by omega)) o0 (.inl hk0)⟩
theorem JJ {g g2:Heap}(w:Wf g){n j:Nat}(hj:j < n)(o:Ok (Go.Ab.room g n) g2)(B:Blk):Ok g (ay g2 g.next [(j,B)])/\(ay g2 g.next [(j,B)]).get (g.next+j)=some B:=by
 have h1:g.next+n<=g2.next:=o.nx;refine ⟨(((Ok.refl w).room n).trans o).set B (le_add_right _ _) (by omega) w,?_⟩;show (g2.set (g.next+j) B).get (g.next+j)=_;rw [Heap.get_set,if_pos rfl]
theorem kL (kind:Int){h:Heap}(w:Wf h):FW SS 27 [.int .i64 kind] h (sD h (jh kind)):=by
 have o1:=(Ok.refl w).push dH;have k1:=aq h dH;refine zs kind h _ ⟨_,kC,ae (fun q=> ?_) (fun q=>ae (fun q2=> ?_) (fun q2=> ?_))⟩
 ·have q:=dT q;exact qr w o1 k1 (le_refl _) (by omega)
 ·have q2:=dT q2;exact qr w o1 k1 (le_refl _) (by omega)
 ·have q:=dF q;have q2:=dF q2;have hn1:(h.push dH).next=h.next+1:=rfl;generalize h.push dH=g at *;have oR:=(Ok.refl o1.wf).room 7;refine (JL kind oR.wf).mono ?_;rintro _ g2 ⟨rfl,o2⟩;obtain ⟨s1,s2⟩:=JJ o1.wf (n:=7) (j:=3) (by omega) o2 (.cells ((List.replicate 1 zst).map dg).flatten 37 2 true);have k2:=s1.ext _ _ k1;refine ⟨_,rfl,_,_,_,LF 1 (by omega),?_⟩;exact BA w (o1.trans s1) k2 (le_refl _) o1.wf o1 s1 (by omega) (by omega) s2 (by omega)
section
noncomputable def od (M:Mach):List Nat:=(List.range M.states.length).filter fun x=>@decide (bI M x) (Classical.propDecidable _)
noncomputable def bt (M:Mach):Mach×Int:=@ite _ (aL M=true) _ (@ite _ (bI M M.start.toNat) (Classical.propDecidable _) (bE M (od M),0) (jh M.kind)) (nc,1)
theorem un {M:Mach}(h:aL M=false):bt M=(nc,1):=by unfold bt; rw [h]; rfl
theorem jE {M:Mach}(h:aL M=true)(hu: ¬ bI M M.start.toNat):bt M=jh M.kind:=by unfold bt; rw [if_pos h,if_neg hu]
theorem jj {M:Mach}(h:aL M=true)(hu:bI M M.start.toNat):bt M=(bE M (od M),0):=by unfold bt; rw [if_pos h,if_pos hu]
theorem lV (M:Mach):OrdOk M.states.length (od M):=⟨fun x hx=>mem_range.1 (List.mem_filter.1 hx).1,List.nodup_range.filter _⟩
theorem Df {M:Mach}{L:List Bool}{N:Nat}(hN:N=M.states.length)(hL: ∀ x,x < N->(L.getD x false=true↔bI M x)):(List.range N).filter (fun x=>L.getD x false)=od M:=by
 unfold od;subst hN;refine List.filter_congr fun x hx=> ?_;exact ye (hL x (mem_range.1 hx))
section
variable {h:Heap} {M:Mach} {a:Option Addr} {n c:Nat}
def DY (L:List Bool)(i:Nat):List Nat:=(List.range i).filter fun x=>L.getD x false
theorem Fo (L:List Bool)(i:Nat):DY L (i+1)=DY L i++(if L.getD i false=true then [i] else []):=by
 unfold DY;rw [List.range_succ,List.filter_append];congr 1;split <;> simp_all
theorem H0 (L:List Bool)(i:Nat):(DY L i).length<=i:=by
 have:=List.length_filter_le (fun x=>L.getD x false) (List.range i);rwa [List.length_range] at this
theorem Hf {h g g':Heap}(w:Wf h)(o:Ok h g){k2:Nat}(hk:g.get k2=some dH)(hk2:h.next<=k2){R:Mach}{v:Value}(hq:IB g R v g'): ∃ cs:List Value,v = .agg ⟨cs⟩/\ ∃ u:Upd,ai SS.P 24 (.pointer (some ⟨k2,0,none⟩)) (.agg ⟨cs⟩) g'=some (undef,u)/\dG SS [(.pointer (some ⟨k2,0,none⟩),some 24),(.int .i64 0,none)] (u.app g') (sD h (R,0)):=by
 obtain ⟨a,n,c,ps,rfl,hps,om,ok⟩:=hq;exact ⟨_,rfl,lZ w (o.trans ok) (ok.ext _ _ hk) hk2 (R:=(R,0)) hps om o (.inl (o.wf _ _ hk))⟩
theorem Ip {h g g':Heap}(w:Wf h)(o:Ok h g){k2:Nat}(hk:g.get k2=some dH)(hk2:h.next<=k2){R:Mach×Int}{v:Value}(hq:sD g R v g'): ∃ cs:List Value,∃ e:Int,v = .tuple ⟨[.agg ⟨cs⟩,.int .i64 e]⟩/\ ∃ u:Upd,ai SS.P 24 (.pointer (some ⟨k2,0,none⟩)) (.agg ⟨cs⟩) g'=some (undef,u)/\dG SS [(.pointer (some ⟨k2,0,none⟩),some 24),(.int .i64 e,none)] (u.app g') (sD h R):=by
 obtain ⟨a,n,c,ps,rfl,hps,om,ok⟩:=hq;exact ⟨_,_,rfl,lZ w (o.trans ok) (ok.ext _ _ hk) hk2 hps om o (.inl (o.wf _ _ hk))⟩
def tI (hb:Heap)(L:List Bool)(n:Nat)(mz i:Nat)(t:Option Addr)(tn tc:Nat)(g:Heap):Prop:=i<=n/\mz=n - i/\OwnG hb g 3 (.slice t tn tc) ((DY L i).map iv)/\Ok hb g
theorem nR (tb:Tab h)(w:Wf h)(sm:Small M)(r:StRow h (.slice a n c) M.states):FW SS 23 [.agg ⟨aA M a n c⟩] h (sD h (bt M)):=by
 obtain ⟨mb0,ok0⟩:=dM w r;have hnl:n=M.states.length:=mb0.len;have hn:n<=300:=by rw [hnl]; exact sm.sts
 refine GX (aA M a n c) h _ ⟨_,fo M a n c,_,kC,?_⟩;have n0:h.next<=(h.push (Bm M a n c)).next:=ok0.nx;generalize h.push (Bm M a n c)=g0 at *;have k4:=aq g0 dH;have o1:=(Ok.refl ok0.wf).push dH;have ok1:=ok0.trans o1;have mb1:=mb0.ok o1;generalize g0.push dH=g1 at *;generalize g0.next=K at *;refine ⟨_,mb1.all,(fc (tb.ok ok1) ok1.wf sm mb1.row).mono ?_⟩;rintro _ g2 ⟨rfl,o2⟩;have ok2:=ok1.trans o2;have mb2:=mb1.ok o2;have k42:=o2.ext _ _ k4;refine ⟨_,rfl,ae (fun q=> ?_) (fun q=> ?_)⟩
 ·have q:aL M=false:=by simpa using q
  rw [un q];exact ⟨_,AV,lZ w ok2 k42 n0 (R:=(nc,1)) (ps:=[]) rfl (OwnM.nil h g2) (Ok.refl w) (.inr ⟨rfl,rfl,rfl,rfl⟩)⟩
 have q:aL M=true:=by simpa using q
 have gd:=cL q;have h0:=gd.start0;have h1:=gd.start1;refine ⟨_,mb2.all,(uI ok2.wf sm gd mb2.row).mono ?_⟩;rintro _ g3 ⟨kl,L,rfl,br,hL⟩;have o3:=br.row.ok;have ok3:=ok2.trans o3;have mb3:=mb2.ok o3;have k43:=o3.ext _ _ k42;obtain ⟨S,hS⟩: ∃ S:Nat,M.start=(S:Int):=⟨M.start.toNat,by omega⟩
 have hSt:M.start.toNat=S:=by omega
 have hSn:S < n:=by omega
 have lS:=mb3.l1;rw [hS] at lS;obtain ⟨x1,x2⟩:=lA (c:=n) br.row.row br.len hSn;refine ⟨_,_,_,rfl,_,fF _,_,lS,_,x1,_,x2,ae (fun q1=> ?_) (fun q1=> ?_)⟩
 ·have q1:L.getD S false=false:=by simpa using q1
  have hu: ¬ bI M M.start.toNat:=by rw [hSt,<-hL S hSn,q1]; exact Bool.false_ne_true
  rw [jE q hu];refine ⟨_,gH _,_,mb3.l0,(kL M.kind ok3.wf).mono ?_⟩;intro v g4 hq;exact Ip w ok3 k43 n0 hq
 ·have q1:L.getD S false=true:=by simpa using q1
  have hu:bI M M.start.toNat:=by rw [hSt,<-hL S hSn]; exact q1
  rw [jj q hu];refine pZ (aA M a n c) h.next K (some ⟨kl,0,none⟩) n n (tI g3 L n) _ (fun mz i t tn tc=> ?_) n (i:=0) ⟨zero_le _,rfl,OwnG.nil _ _ _,Ok.refl ok3.wf⟩;intros; rename_i g hin;obtain ⟨f1,rfl,ot,ok⟩:=hin;refine ae (fun q2=> ?_) (fun q2=> ?_)
  ·have q2:=dT q2;have hi:i < n:=by omega
   obtain ⟨y1,y2⟩:=lA (c:=n) (ok.ext _ _ br.row.row) br.len hi;have hsu:=Fo L i;refine ⟨_,y1,_,y2,ae (fun q3=> ?_) (fun q3=> ?_)⟩
   ·rw [if_pos q3] at hsu;have oP:=(Ok.refl ok.wf).push (.cells [.int .i64 (i:Int)] 3 1 true);have kP:=aq g (.cells [.int .i64 (i:Int)] 3 1 true);have hl:=H0 L i;obtain ⟨b,n',c',u,a1,a2,a3,a4,_⟩:=CG ok3.wf (ok.trans oP) (ot.ok oP) kP (by rw [lM]; omega);refine ⟨_,_,_,xd _,b,n',c',u,a1,?_⟩;dsimp only;rw [aG hi (by omega)];refine tf (n - (i+1)) (by omega) ⟨by omega,rfl,?_,a4⟩;rw [hsu,map_append];exact a3
   ·rw [if_neg (by rw [q3]; exact Bool.false_ne_true),append_nil] at hsu;rw [aG hi (by omega)];exact tf (n - (i+1)) (by omega) ⟨by omega,rfl,by rw [hsu]; exact ot,ok⟩
  ·have q2:=dF q2;obtain rfl:n=i:=by omega
   have okg:=ok3.trans ok;have mbg:=mb3.ok ok;have eo:DY L n=od M:=Df hnl hL;rw [eo] at ot;refine ⟨_,mbg.all,(CA okg.wf gd sm.sts (fun s hs=> ?_) mbg.row ot.rd (lV M)).mono ?_⟩
   ·obtain ⟨j,hj,e⟩:=List.mem_iff_getElem.1 hs;exact (hG sm (i:=j) (by rw [gE hj,e])).1
   ·intro v g5 hq;exact Hf w okg (ok.ext _ _ k43) n0 hq
end
end
theorem I2 {hb g:Heap}{v:Value}{ps:List (MSt×Value)}(m:OwnM hb g v ps):d7 4 v v=true:=by
 obtain ⟨_,⟨h1,_⟩ | ⟨k,off,cs,c,h1,_⟩⟩:=m.row
 ·rw [h1]; simp [d7]
 ·rw [h1]; simp [d7]
noncomputable def cV:FD:=cD Tryz.f29 [([1,1,0,1,0,0],[2,3,5]),([1,1,0,1,0,0,1,0,0,1,1,1,0,0],[2,3,5,6,7,8])]
abbrev dR (k2 k3:Nat)(i:Nat):LV:=[(pA k2),(pA k3),(iA i)]
abbrev fS (k2 k3 k6 k7 i:Nat)(j:Nat):LV:=[(pA k2),(pA k3),(iA i),(pA k6),(pA k7),(iA j)]
theorem G1 (mv nv:LV)(h:Heap)(Q:VH)(hx:xN (dU SS.P 24 (.agg ⟨mv⟩)) h fun B1 g2=>xN (dU SS.P 24 (.agg ⟨nv⟩)) g2 fun B3 g4=>xP (af SS.P 24 (pA (h.next)) 0) fun p5=>xI .i64 (ag SS.P 3 g4 (.pointer (some p5))) fun n6=>xP (af SS.P 24 (pA (g2.next)) 0) fun p7=>xI .i64 (ag SS.P 3 g4 (.pointer (some p7))) fun n8=>az (((n6:Int) != n8)) (Q (.bool false) g4) (xP (af SS.P 24 (pA (h.next)) 1) fun p9=>xI .i64 (ag SS.P 3 g4 (.pointer (some p9))) fun n10=>xP (af SS.P 24 (pA (g2.next)) 1) fun p11=>xI .i64 (ag SS.P 3 g4 (.pointer (some p11))) fun n12=>az (((n10:Int) != n12)) (Q (.bool false) g4) (xP (af SS.P 24 (pA (h.next)) 2) fun p13=>xS (ag SS.P 9 g4 (.pointer (some p13))) fun l14=>xP (af SS.P 24 (pA (g2.next)) 2) fun p15=>xS (ag SS.P 9 g4 (.pointer (some p15))) fun l16=>az (!((l14:LB) == l16)) (Q (.bool false) g4) (xP (af SS.P 24 (pA (h.next)) 3) fun p17=>xL (ag SS.P 22 g4 (.pointer (some p17))) fun a18 n19 c20=>xP (af SS.P 24 (pA (g2.next)) 3) fun p21=>xL (ag SS.P 22 g4 (.pointer (some p21))) fun a22 n23 c24=>az ((((n19:Int):Int) != (n23:Int))) (Q (.bool false) g4) (LL SS cV [1,1,0,1,0,0] (dR (h.next) (g2.next) 0) g4 (KK SS cV [1,1,0,1,0] [] (EE SS cV Q))))))):FW SS 29 [(.agg ⟨mv⟩),(.agg ⟨nv⟩)] h Q:=cE cV Tryz.func29 (aj hx)
theorem py (mv nv:LV)(k2 k3:Nat)(Inv:Nat->Nat->Heap->Prop)(Q:VH)(step: ∀ (mz:Nat) (i:Nat) (zz:Nat->Value) (h:Heap),Inv mz i h->xP (af SS.P 24 (pA k2) 3) fun p25=>xL (ag SS.P 22 h (.pointer (some p25))) fun a26 n27 c28=>az (decide (((i:Int):Int) < (n27:Int))) (xP (af SS.P 24 (pA k2) 3) fun p29=>xL (ag SS.P 22 (room h 14) (.pointer (some p29))) fun a30 n31 c32=>xP (ah SS.P 22 (.slice a30 n31 c32) (iA i)) fun p33=>xA (ag SS.P 37 (room h 14) (.pointer (some p33))) fun c34=>xP (af SS.P 24 (pA k3) 3) fun p35=>xL (ag SS.P 22 (room h 14) (.pointer (some p35))) fun a36 n37 c38=>xP (ah SS.P 22 (.slice a36 n37 c38) (iA i)) fun p39=>xA (ag SS.P 37 (room h 14) (.pointer (some p39))) fun c40=>zN (aB SS.P 37) fun B41=>zN (aB SS.P 37) fun B42=>xU (ai SS.P 37 (pA (h.next+10)) (.agg ⟨c34⟩) (ay (room h 14) h.next [(11,B42),(10,B41)])) (ay (room h 14) h.next [(11,B42),(10,B41)]) fun u43 g44=>xU (ai SS.P 37 (pA (h.next+11)) (.agg ⟨c40⟩) g44) g44 fun u45 g46=>(ag SS.P 22 g44 (.pointer (some p35))=some (.slice a36 n37 c38)/\d7 4 (.slice a36 n37 c38) (.slice a36 n37 c38)=true)/\(ag SS.P 37 g44 (.pointer (some p39))=some (.agg ⟨c40⟩)/\d7 4 (.agg ⟨c40⟩) (.agg ⟨c40⟩)=true)/\xP (af SS.P 37 (pA (h.next+10)) 0) fun p47=>xS (ag SS.P 9 g46 (.pointer (some p47))) fun l48=>xP (af SS.P 37 (pA (h.next+11)) 0) fun p49=>xS (ag SS.P 9 g46 (.pointer (some p49))) fun l50=>az (!((l48:LB) == l50)) (Q (.bool false) g46) (xP (af SS.P 37 (pA (h.next+10)) 1) fun p51=>xL (ag SS.P 35 g46 (.pointer (some p51))) fun a52 n53 c54=>xP (af SS.P 37 (pA (h.next+11)) 1) fun p55=>xL (ag SS.P 35 g46 (.pointer (some p55))) fun a56 n57 c58=>az ((((n53:Int):Int) != (n57:Int))) (Q (.bool false) g46) (LL SS cV [1,1,0,1,0,0,1,0,0,1,1,1,0,0] (fS k2 k3 (h.next+10) (h.next+11) i 0) g46 (KK SS cV [1,0,0,1,1,1,0] [1,1,0,1,0,0] (RR cV [1,1,0,1,0,0] (ga (dR k2 k3) Inv) mz (KK SS cV [1,1,0,1,0] [] (EE SS cV Q))))))) (Q (.bool true) h))(mz:Nat){i:Nat}{h:Heap}(hi:Inv mz i h):LL SS cV [1,1,0,1,0,0] (dR k2 k3 i) h (KK SS cV [1,1,0,1,0] [] (EE SS cV Q)):=
 cP (dR k2 k3) Inv (fun mz i zz h hi=>aj (step mz i zz h hi)) mz hi
theorem pU (mv nv:LV)(k2 k3 k6 k7:Nat)(Inv:Nat->Nat->Heap->Prop)(mz i:Nat)(Inv2:Nat->Nat->Heap->Prop)(Q:VH)(step: ∀ (mz2:Nat) (j:Nat) (zz:Nat->Value) (h:Heap),Inv2 mz2 j h->xP (af SS.P 37 (pA k6) 1) fun p59=>xL (ag SS.P 35 h (.pointer (some p59))) fun a60 n61 c62=>az (decide (((j:Int):Int) < (n61:Int))) (xP (af SS.P 37 (pA k6) 1) fun p63=>xL (ag SS.P 35 (room h 11) (.pointer (some p63))) fun a64 n65 c66=>xP (ah SS.P 35 (.slice a64 n65 c66) (iA j)) fun p67=>xA (ag SS.P 39 (room h 11) (.pointer (some p67))) fun c68=>xP (af SS.P 37 (pA k7) 1) fun p69=>xL (ag SS.P 35 (room h 11) (.pointer (some p69))) fun a70 n71 c72=>xP (ah SS.P 35 (.slice a70 n71 c72) (iA j)) fun p73=>xA (ag SS.P 39 (room h 11) (.pointer (some p73))) fun c74=>xB (al SS.P .neq 39 (.agg ⟨c68⟩) (.agg ⟨c74⟩)) fun b75=>az b75 (Q (.bool false) (room h 11)) (aF (ga (fS k2 k3 k6 k7 i) Inv2) mz2 [(pA k2),(pA k3),(iA i),(pA k6),(pA k7),(.int .i64 (wrap .i64 ((j:Int)+1)))] (room h 11))) (aF (ga (dR k2 k3) Inv) mz [(pA k2),(pA k3),(.int .i64 (wrap .i64 ((i:Int)+1)))] h))(mz2:Nat){j:Nat}{h:Heap}(hi:Inv2 mz2 j h):LL SS cV [1,1,0,1,0,0,1,0,0,1,1,1,0,0] (fS k2 k3 k6 k7 i j) h (KK SS cV [1,0,0,1,1,1,0] [1,1,0,1,0,0] (RR cV [1,1,0,1,0,0] (ga (dR k2 k3) Inv) mz (KK SS cV [1,1,0,1,0] [] (EE SS cV Q)))):=
 cP (fS k2 k3 k6 k7 i) Inv2 (fun mz2 j zz h hi=>aj (step mz2 j zz h hi)) mz2 hi
section
theorem NQ (p q:MArc):iO SS.P 39 (.agg ⟨aI p⟩) (.agg ⟨aI q⟩)=cond (p.i == q.i) (cond (p.o == q.o) (cond (p.w == q.w) (cond (p.t == q.t) (some true) (some false)) (some false)) (some false)) (some false):=by kernel_rfl
noncomputable def IJ {α:Type}(x y:α):Bool:=@decide (x=y) (Classical.propDecidable _)
theorem gb {α:Type}{x y:α}(h:x=y):IJ x y=true:=@decide_eq_true _ (Classical.propDecidable _) h
theorem eM {α:Type}{x y:α}(h:x≠y):IJ x y=false:=@decide_eq_false _ (Classical.propDecidable _) h
theorem KU (p q:MArc):al SS.P .neq 39 (.agg ⟨aI p⟩) (.agg ⟨aI q⟩)=some (.bool (!IJ p q)):=by
 show (iO SS.P 39 (.agg ⟨aI p⟩) (.agg ⟨aI q⟩)).map (fun b=>Value.bool !b)=_;rw [NQ];by_cases h:p=q
 ·subst h;rw [gb rfl];simp
 ·rw [eM h]
  cases h1:p.i == q.i with
  | false=>rfl
  | true=>
   cases h2:p.o == q.o with
   | false=>rfl
   | true=>
    cases h3:p.w == q.w with
    | false=>rfl
    | true=>
     cases h4:p.t == q.t with
     | false=>rfl
     | true=>
      refine absurd ?_ h
      cases p; cases q
      simp at h1 h2 h3 h4;simp [h1,h2,h3,h4]
theorem Jk {hb g:Heap}{p:MSt×Value}{rs:List (List Value)}(o:OwnK hb g 39 4 p.2 rs):d7 4 (.agg ⟨dg p⟩) (.agg ⟨dg p⟩)=true:=by
 obtain ⟨_,⟨h1,_⟩ | ⟨k,off,cs,c,h1,_⟩⟩:=o
 ·unfold dg; rw [h1]; simp [d7,Aj,aa]
 ·unfold dg; rw [h1]; simp [d7,Aj,aa]
section
variable {h:Heap} {A B:Mach} {a:Option Addr} {n c:Nat} {b:Option Addr} {m d:Nat}
theorem jv {A B:Mach}(h:A=B):A.kind=B.kind/\A.start=B.start/\A.lead=B.lead/\A.states=B.states:=by subst h; exact ⟨rfl,rfl,rfl,rfl⟩
theorem CC {A B:Mach}(h1:A.kind=B.kind)(h2:A.start=B.start)(h3:A.lead=B.lead)(h4:A.states=B.states):A=B:=by cases A; cases B; simp_all
def MM (hb:Heap)(A B:Mach)(mz i:Nat)(g:Heap):Prop:=i<=A.states.length/\mz=A.states.length - i/\Ok hb g/\A.states.take i=B.states.take i
def Ov (hb:Heap)(s s':MSt)(mz j:Nat)(g:Heap):Prop:=j<=s.arcs.length/\mz=s.arcs.length - j/\Ok hb g/\s.arcs.take j=s'.arcs.take j
def Ep (h:Heap)(b:Bool):VH:=fun v h'=>v = .bool b/\Ok h h'
set_option linter.defProp false in
def zn {h0 hb hI:Heap}(w:Wf h0)(ok0:Ok h0 hb){k2 k3 k6 k7 i:Nat}{s s':MSt}(hs:A.states[i]?=some s)(hs':B.states[i]?=some s')(hf:s.f=s'.f)(hl:s.arcs.length=s'.arcs.length)(hpre:A.states.take i=B.states.take i)(hA:s.arcs.length<=100000)(hN:A.states.length<=100000)(okb:Ok hb hI){x:Option Addr}{y z:Nat}{x':Option Addr}{y' z':Nat}(s6:SB hI k6 s.f x y z)(s7:SB hI k7 s'.f x' y' z')(ar:ArcRow hI (.slice x y z) s.arcs)(ar':ArcRow hI (.slice x' y' z') s'.arcs)(mz:Nat)(hmz:mz=A.states.length - i)(mv nv:List Value):=
 pU mv nv k2 k3 k6 k7 (MM hb A B) mz i (Ov hI s s') (Ep h0 (IJ A B)) (by
  intro mz2 j; intros; rename_i g hin;obtain ⟨f1,rfl,ok,hp⟩:=hin;have hi:i < A.states.length:=(List.getElem?_eq_some_iff.1 hs).1;have l1:=ar.len;have l2:=ar'.len;refine ⟨_,cw _ _,_,_,_,(s6.ok ok).l1,ae (fun q=> ?_) (fun q=> ?_)⟩
  ·have q:=dT q;have oR:=(Ok.refl ok.wf).room 11;have okR:=ok.trans oR;obtain ⟨p1,hp1⟩: ∃ p,s.arcs[j]?=some p:=⟨_,gE (by omega)⟩
   obtain ⟨p2,hp2⟩: ∃ p,s'.arcs[j]?=some p:=⟨_,gE (by omega)⟩
   obtain ⟨b1,o1,d1,d2,_⟩:=(ar.ok okR).at_ hp1;obtain ⟨b2,o2,e1,e2,_⟩:=(ar'.ok okR).at_ hp2;refine ⟨_,cw _ _,_,_,_,(s6.ok okR).l1,_,d1,_,d2,_,cw _ _,_,_,_,(s7.ok okR).l1,_,e1,_,e2,_,KU _ _,ae (fun q2=> ?_) (fun q2=> ?_)⟩
   ·have hne:p1≠p2:=fun e=>by rw [gb e] at q2; cases q2
    refine ⟨?_,(ok0.trans okb).trans okR⟩;rw [eM];intro e;have:=(jv e).2.2.2;rw [this,hs'] at hs;obtain rfl:=oI hs;rw [hp1] at hp2;exact hne (oI hp2)
   ·have hne:p1=p2:=Classical.byContradiction fun e=>by rw [eM e] at q2; cases q2
    rw [aG (n:=s.arcs.length) (by omega) (by omega)];refine cA (s.arcs.length - (j+1)) (by omega) ⟨by omega,rfl,okR,?_⟩;rw [take_add_one,take_add_one,hp1,hp2,hp,hne]
  ·have q:=dF q;have hj:j=s.arcs.length:=by omega
   rw [take_of_length_le (by omega),take_of_length_le (by omega)] at hp;rw [aG hi (by omega)];refine cA (A.states.length - (i+1)) (by omega) ⟨by omega,rfl,okb.trans ok,?_⟩;have hss:s=s':=by cases s; cases s'; simp_all
   rw [take_add_one,take_add_one,hs,hs',hpre,hss])
theorem GA (w:Wf h)(hN:A.states.length<=100000)(hA: ∀ s∈A.states,s.arcs.length<=100000)(r:StRow h (.slice a n c) A.states){h1:Heap}{ps:List (MSt×Value)}(om:OwnM h1 h (.slice b m d) ps)(hps:ps.map (·.1)=B.states):FW SS 29 [.agg ⟨aA A a n c⟩,.agg ⟨aA B b m d⟩] h (Ep h (IJ A B)):=by
 have rB:StRow h (.slice b m d) B.states:=hps ▸ om.st;obtain ⟨mb0,ok0⟩:=dM w r;have om0:=om.ok ok0;have rB0:=rB.ok ok0;refine G1 (aA A a n c) (aA B b m d) h _ ⟨_,fo A a n c,_,fo B b m d,?_⟩;generalize h.push (Bm A a n c)=g0 at *;obtain ⟨mc1,ok1⟩:=dM ok0.wf rB0;have mb1:=mb0.ok ok1;have om1:=om0.ok ok1;have okB:=ok0.trans ok1;generalize g0.push (Bm B b m d)=g1 at *;generalize g0.next=K3 at *;have hnl:=mb1.len;have hml:=mc1.len;have nk: ∀ {P:Prop},(A=B->P)-> ¬ P->IJ A B=false:=fun f hP=>eM fun e=>hP (f e);refine ⟨_,gH _,_,mb1.l0,_,gH _,_,mc1.l0,ae (fun q=> ?_) (fun q=> ?_)⟩
 ·exact ⟨by rw [nk (fun e=>(jv e).1) (by simpa using q)],okB⟩
 have e0:A.kind=B.kind:=by simpa using q
 refine ⟨_,fF _,_,mb1.l1,_,fF _,_,mc1.l1,ae (fun q=> ?_) (fun q=> ?_)⟩
 ·exact ⟨by rw [nk (fun e=>(jv e).2.1) (by simpa using q)],okB⟩
 have e1:A.start=B.start:=by simpa using q
 refine ⟨_,jM _,_,mb1.l2,_,jM _,_,mc1.l2,ae (fun q=> ?_) (fun q=> ?_)⟩
 ·exact ⟨by rw [nk (fun e=>(jv e).2.2.1) (by simpa using q)],okB⟩
 have e2:A.lead=B.lead:=by simpa using q
 refine ⟨_,bn _,_,_,_,mb1.l3,_,bn _,_,_,_,mc1.l3,ae (fun q=> ?_) (fun q=> ?_)⟩
 ·refine ⟨?_,okB⟩;rw [eM];intro e;have:=(jv e).2.2.2;rw [hnl,hml,this] at q;simp at q
 have e3:A.states.length=B.states.length:=by
  have:(n:Int)=(m:Int):=by simpa using q
  omega
 refine py (aA A a n c) (aA B b m d) h.next K3 (MM g1 A B) _ (fun mz i=> ?_) A.states.length (i:=0) ⟨zero_le _,rfl,Ok.refl okB.wf,rfl⟩;intros; rename_i g hin;obtain ⟨f1,rfl,ok,hpre⟩:=hin;have okg:=okB.trans ok;have mbg:=mb1.ok ok;refine ⟨_,bn _,_,_,_,mbg.l3,ae (fun q1=> ?_) (fun q1=> ?_)⟩
 ·have q1:=dT q1;have hi:i < A.states.length:=by omega
  obtain ⟨s,hs⟩:=md (M:=A) (i:=i) hi;obtain ⟨s',hs'⟩:=md (M:=B) (i:=i) (by omega);obtain ⟨p,hp,hp1⟩:=A9 hps hs';have oR:=(Ok.refl okg.wf).room 14;have mbR:=mbg.ok oR;have mcR:=(mc1.ok ok).ok oR;have omR:=(om1.ok ok).ok oR;have hpl:0 < (ps.map dg).length:=by
   have:=(List.getElem?_eq_some_iff.1 hp).1;rw [lM]; omega
  obtain ⟨kb,off,cb,ev,_⟩:=omR.row.blk hpl;injection ev with ev1 ev2 ev3
  subst ev1;obtain ⟨i1,i2,i3⟩:=omR.at_ hp;obtain ⟨x',z',ex⟩:=(omR.arcs i p hp).slc;obtain ⟨bb,o,x,y,z,j1,j2,j3,j4,ar⟩:=mb1.row.at2 (ok.trans oR) hs;obtain ⟨o2,kA,kB⟩:=Dl okg.wf (n:=14) (i:=10) (j:=11) (by omega) (by omega) (by omega) uy uy;refine ⟨_,bn _,_,_,_,mbR.l3,_,j1,_,j2,_,bn _,_,_,_,mcR.l3,_,i1,_,i3,_,tJ,_,tJ,?_⟩;dsimp only;generalize ay (Go.Ab.room g 14) g.next [(11,uy),(10,uy)]=S at *;have hal:=hA s (List.mem_of_getElem? hs);have pa:=cC (t:=37) qj (cs0:=[aa [],.slice none 0 0]) rfl kA (cs:=[aa s.f,.slice x y z]) rfl (by cases x <;> rfl);obtain ⟨o3,kA'⟩:=dL (cs:=[aa s.f,.slice x y z]) okg.wf o2 kA (by omega);have kB':((Upd.set (g.next+10) (.cells [aa s.f,.slice x y z] 37 0 true)).app S).get (g.next+11)=some uy:=by
   show (S.set (g.next+10) _).get (g.next+11)=_;rw [Heap.get_set,if_neg (by omega)]; exact kB
  refine ⟨_,pa,?_⟩;generalize (Upd.set (g.next+10) (.cells [aa s.f,.slice x y z] 37 0 true)).app S=g44 at *;have es:dg p=[aa s'.f,p.2]:=by unfold dg; rw [hp1]
  have pb:=cC (t:=37) qj (cs0:=[aa [],.slice none 0 0]) rfl kB' (cs:=dg p) rfl (by rw [es,ex]; cases x' <;> rfl);obtain ⟨o4,kB''⟩:=dL (cs:=dg p) okg.wf o3 kB' (by omega);have kA'':((Upd.set (g.next+11) (.cells (dg p) 37 0 true)).app g44).get (g.next+10)=some (.cells [aa s.f,.slice x y z] 37 0 true):=by
   show (g44.set (g.next+11) _).get (g.next+10)=_;rw [Heap.get_set,if_neg (by omega)]; exact kA'
  refine ⟨_,pb,⟨((mc1.ok ok).ok o3).l3,I2 (om1.ok ok)⟩,⟨(((om1.ok ok).ok o3).at_ hp).2.2,Jk (omR.arcs i p hp)⟩,?_⟩;generalize (Upd.set (g.next+11) (.cells (dg p) 37 0 true)).app g44=g46 at *;have s6:SB g46 (g.next+10) s.f x y z:=kA'';have s7:SB g46 (g.next+11) s'.f x' (p.1.arcs.map aI).length z':=by
   have:=kB'';rw [es,ex] at this; exact this
  have ar':ArcRow g46 (.slice x' (p.1.arcs.map aI).length z') s'.arcs:=by
   have:=(((om1.ok ok).ok o4).arcs i p hp).rd;rw [ex,hp1] at this;rw [hp1]; exact this
  have la:=ar.len;have la':=ar'.len;refine ⟨_,gG _ _,_,s6.l0,_,gG _ _,_,s7.l0,ae (fun q2=> ?_) (fun q2=> ?_)⟩
  ·refine ⟨?_,okg.trans o4⟩;rw [eM];intro e;have:=(jv e).2.2.2;rw [this,hs'] at hs;obtain rfl:=oI hs;simp at q2
  have hf:s.f=s'.f:=by simpa using q2
  refine ⟨_,cw _ _,_,_,_,s6.l1,_,cw _ _,_,_,_,s7.l1,ae (fun q3=> ?_) (fun q3=> ?_)⟩
  ·refine ⟨?_,okg.trans o4⟩;rw [eM];intro e;have:=(jv e).2.2.2;rw [this,hs'] at hs;obtain rfl:=oI hs;rw [la,la'] at q3;simp at q3
  have hl:s.arcs.length=s'.arcs.length:=by
   have:(y:Int)=(((p.1.arcs.map aI).length:Nat):Int):=by simpa using q3
   omega
  exact zn w okB hs hs' hf hl hpre hal hN (ok.trans o4) s6 s7 (ar.ok (ok.trans o4)) ar' _ rfl [] [] s.arcs.length (j:=0) ⟨zero_le _,rfl,Ok.refl (okg.trans o4).wf,rfl⟩
 ·have q1:=dF q1;obtain rfl:i=A.states.length:=by omega
  rw [take_of_length_le (le_refl _),take_of_length_le (by omega)] at hpre;exact ⟨by rw [gb (CC e0 e1 e2 hpre)],okg⟩
end
end
noncomputable def Ie:FD:=cD Tryz.f82 []
theorem Em (x:Int)(h:Heap)(Q:VH)(hx:Q (.bool (((x:Int) != x))) h):FW SS0 82 [(.int .i64 x)] h Q:=cE Ie Tryz.func82 (aj hx)
noncomputable def Hp:FD:=cD Tryz.f83 []
theorem D7 (x:LB)(h:Heap)(Q:VH)(hx:Q (.bool (!((x:LB) == x))) h):FW SS0 83 [(aa x)] h Q:=cE Hp Tryz.func83 (aj hx)
noncomputable def Il:FD:=cD Tryz.f70 []
theorem Er (x y:Int)(h:Heap)(Q:VH)(hx:FW SS0 82 [(.int .i64 x)] h fun v1 h2=>yB v1 fun b3=>FW SS0 82 [(.int .i64 y)] h2 fun v4 h5=>yB v4 fun b6=>az b3 (az b6 (Q (.int .i64 0) h5) (Q (.int .i64 (-1)) h5)) (az b6 (Q (.int .i64 1) h5) (az (decide ((x:Int) < y)) (Q (.int .i64 (-1)) h5) (az (decide ((x:Int) > y)) (Q (.int .i64 1) h5) (Q (.int .i64 0) h5))))):FW SS0 70 [(.int .i64 x),(.int .i64 y)] h Q:=cE Il Tryz.func70 (aj hx)
noncomputable def FN:FD:=cD Tryz.f71 []
theorem Dt (x y:LB)(h:Heap)(Q:VH)(hx:FW SS0 83 [(aa x)] h fun v1 h2=>yB v1 fun b3=>FW SS0 83 [(aa y)] h2 fun v4 h5=>yB v4 fun b6=>az b3 (az b6 (Q (.int .i64 0) h5) (Q (.int .i64 (-1)) h5)) (az b6 (Q (.int .i64 1) h5) (az (aX x y) (Q (.int .i64 (-1)) h5) (az (!(aX x y || (x:LB) == y)) (Q (.int .i64 1) h5) (Q (.int .i64 0) h5))))):FW SS0 71 [(aa x),(aa y)] h Q:=cE FN Tryz.func71 (aj hx)
noncomputable def j7:FD:=cD Tryz.f69 [([1,1,0,1,0,0],[3,6,7,8])]
abbrev fO (a:OA)(n c:Nat)(i:Nat):LV:=[(.int .i64 0),(.slice a n c),(iA n),(iA i)]
theorem GL (a:OA)(n c:Nat)(h:Heap)(Q:VH)(hx:LL SS0 j7 [1,1,0,1,0,0] (fO a n c 0) h (KK SS0 j7 [1,1,0,1,0] [] (EE SS0 j7 Q))):FW SS0 69 [(.slice a n c)] h Q:=cE j7 Tryz.func69 (aj hx)
theorem pV (a:OA)(n c:Nat)  (Inv:Nat->Nat->Heap->Prop) (Q:VH) (step: ∀ (mz:Nat)(i:Nat)(zz:Nat->Value)(h:Heap),Inv mz i h->az (decide (((i:Int):Int) < (n:Int))) (xP (ah SS0.P 48 (.slice a n c) (iA i)) fun p1=>xI .i64 (ag SS0.P 3 h (.pointer (some p1))) fun n2=>az (((n2:Int) != 0)) (Q (.int .i64 n2) h) (aF (ga (fO a n c) Inv) mz [(.int .i64 0),(.slice a n c),(iA n),(.int .i64 (wrap .i64 ((i:Int)+1)))] h)) (Q (.int .i64 0) h)) (mz:Nat) {i:Nat} {h:Heap} (hi:Inv mz i h):LL SS0 j7 [1,1,0,1,0,0] (fO a n c i) h (KK SS0 j7 [1,1,0,1,0] [] (EE SS0 j7 Q)):=
 cP (fO a n c) Inv (fun mz i zz h hi=>aj (step mz i zz h hi)) mz hi
noncomputable def La:FD:=cD Tryz.f47 []
theorem Jy (av bv:LV)(h:Heap)(Q:VH)(hx:xN (dU SS0.P 39 (.agg ⟨av⟩)) h fun B1 g2=>xN (dU SS0.P 39 (.agg ⟨bv⟩)) g2 fun B3 g4=>xP (af SS0.P 39 (pA (h.next)) 0) fun p5=>xI .i64 (ag SS0.P 3 (room g4 23) (.pointer (some p5))) fun n6=>xP (af SS0.P 39 (pA (g2.next)) 0) fun p7=>xI .i64 (ag SS0.P 3 (room g4 23) (.pointer (some p7))) fun n8=>FW SS0 70 [(.int .i64 n6),(.int .i64 n8)] (room g4 23) fun v9 h10=>yI .i64 v9 fun n11=>xP (af SS0.P 39 (pA (h.next)) 1) fun p12=>xI .i64 (ag SS0.P 3 h10 (.pointer (some p12))) fun n13=>xP (af SS0.P 39 (pA (g2.next)) 1) fun p14=>xI .i64 (ag SS0.P 3 h10 (.pointer (some p14))) fun n15=>FW SS0 70 [(.int .i64 n13),(.int .i64 n15)] h10 fun v16 h17=>yI .i64 v16 fun n18=>xP (af SS0.P 39 (pA (h.next)) 2) fun p19=>xS (ag SS0.P 9 h17 (.pointer (some p19))) fun l20=>xP (af SS0.P 39 (pA (g2.next)) 2) fun p21=>xS (ag SS0.P 9 h17 (.pointer (some p21))) fun l22=>FW SS0 71 [(aa l20),(aa l22)] h17 fun v23 h24=>yI .i64 v23 fun n25=>xP (af SS0.P 39 (pA (h.next)) 3) fun p26=>xI .i64 (ag SS0.P 3 h24 (.pointer (some p26))) fun n27=>xP (af SS0.P 39 (pA (g2.next)) 3) fun p28=>xI .i64 (ag SS0.P 3 h24 (.pointer (some p28))) fun n29=>FW SS0 70 [(.int .i64 n27),(.int .i64 n29)] h24 fun v30 h31=>yI .i64 v30 fun n32=>zR (an SS0.P 48 4 [(0,(.int .i64 n11)),(1,(.int .i64 n18)),(2,(.int .i64 n25)),(3,(.int .i64 n32))]) fun B33 n34 c35=>FW SS0 69 [(sA (g4.next+20) n34 c35)] (ay h31 g4.next [(20,B33)]) fun v36 h37=>yI .i64 v36 fun n38=>(ag SS0.P 3 (room g4 23) (.pointer (some p12))=some (.int .i64 n13)/\d7 4 (.int .i64 n13) (.int .i64 n13)=true)/\(ag SS0.P 3 (room g4 23) (.pointer (some p14))=some (.int .i64 n15)/\d7 4 (.int .i64 n15) (.int .i64 n15)=true)/\(ag SS0.P 9 (room g4 23) (.pointer (some p19))=some (aa l20)/\d7 4 (aa l20) (aa l20)=true)/\(ag SS0.P 9 h10 (.pointer (some p19))=some (aa l20)/\d7 4 (aa l20) (aa l20)=true)/\(ag SS0.P 9 (room g4 23) (.pointer (some p21))=some (aa l22)/\d7 4 (aa l22) (aa l22)=true)/\(ag SS0.P 9 h10 (.pointer (some p21))=some (aa l22)/\d7 4 (aa l22) (aa l22)=true)/\(ag SS0.P 3 (room g4 23) (.pointer (some p26))=some (.int .i64 n27)/\d7 4 (.int .i64 n27) (.int .i64 n27)=true)/\(ag SS0.P 3 h10 (.pointer (some p26))=some (.int .i64 n27)/\d7 4 (.int .i64 n27) (.int .i64 n27)=true)/\(ag SS0.P 3 h17 (.pointer (some p26))=some (.int .i64 n27)/\d7 4 (.int .i64 n27) (.int .i64 n27)=true)/\(ag SS0.P 3 (room g4 23) (.pointer (some p28))=some (.int .i64 n29)/\d7 4 (.int .i64 n29) (.int .i64 n29)=true)/\(ag SS0.P 3 h10 (.pointer (some p28))=some (.int .i64 n29)/\d7 4 (.int .i64 n29) (.int .i64 n29)=true)/\(ag SS0.P 3 h17 (.pointer (some p28))=some (.int .i64 n29)/\d7 4 (.int .i64 n29) (.int .i64 n29)=true)/\Q (.int .i64 n38) h37):FW SS0 47 [(.agg ⟨av⟩),(.agg ⟨bv⟩)] h Q:=cE La Tryz.func47 (aj hx)
theorem Ha (q:MArc){g:Heap}(w:Wf g):Ok g (g.push (Bq q))/\AB (g.push (Bq q)) g.next q:=⟨(Ok.refl w).push _,aq g (Bq q)⟩
theorem uB (x:Int)(h:Heap):FW SS0 82 [.int .i64 x] h (fun v h'=>v = .bool false/\h'=h):=by
 refine Em x h _ ?_
 first
  | exact ⟨by simp,rfl⟩
  | simp
theorem vG (x:List UInt8)(h:Heap):FW SS0 83 [aa x] h (fun v h'=>v = .bool false/\h'=h):=by
 refine D7 x h _ ?_
 first
  | exact ⟨by simp,rfl⟩
  | simp
theorem qb (x y:Int)(h:Heap):FW SS0 70 [.int .i64 x,.int .i64 y] h (fun v h'=>v = .int .i64 (lg x y)/\h'=h):=by
 refine Er x y h _ ((uB x h).mono ?_);rintro _ _ ⟨rfl,rfl⟩;refine ⟨_,rfl,(uB y _).mono ?_⟩;rintro _ _ ⟨rfl,rfl⟩;refine ⟨_,rfl,ae (fun c=>by cases c) (fun _=>ae (fun c=>by cases c) (fun _=>ae (fun c=> ?_) (fun c=>ae (fun c2=> ?_) (fun c2=> ?_))))⟩
 ·exact ⟨by unfold lg; rw [if_pos (dT c)],rfl⟩
 ·exact ⟨by unfold lg; rw [if_neg (dF c),if_pos (dT c2)],rfl⟩
 ·exact ⟨by unfold lg; rw [if_neg (dF c),if_neg (dF c2)],rfl⟩
theorem Fz (x y:List UInt8)(h:Heap):FW SS0 71 [aa x,aa y] h (fun v h'=>v = .int .i64 (sJ x y)/\h'=h):=by
 refine Dt x y h _ ((vG x h).mono ?_);rintro _ _ ⟨rfl,rfl⟩;refine ⟨_,rfl,(vG y _).mono ?_⟩;rintro _ _ ⟨rfl,rfl⟩;refine ⟨_,rfl,ae (fun c=>by cases c) (fun _=>ae (fun c=>by cases c) (fun _=>ae (fun c=> ?_) (fun c=>ae (fun c2=> ?_) (fun c2=> ?_))))⟩
 ·exact ⟨by unfold sJ; rw [if_pos c],rfl⟩
 ·exact ⟨by unfold sJ; rw [if_neg (by rw [c]; exact Bool.false_ne_true),if_pos (by simpa using c2)],rfl⟩
 ·exact ⟨by unfold sJ; rw [if_neg (by rw [c]; exact Bool.false_ne_true),if_neg (by simpa using c2)],rfl⟩
theorem Gc {l:List Int}{h:Heap}{a:Option Addr}{n c:Nat}(w:Wf h)(r:Rd h 3 (.slice a n c) (l.map (Value.int .i64)))(hl:l.length<=100000):FW SS0 69 [.slice a n c] h (fun v h'=>v = .int .i64 (FJ l)/\h'=h):=by
 have hn:n=l.length:=by have:=r.len; rwa [lM] at this
 refine GL a n c h _ ?_;refine pV a n c (fun mz i g=>i<=n/\mz=n - i/\g=h/\FJ (l.drop i)=FJ l) _ (fun mz i=> ?_) n (i:=0) ⟨zero_le _,rfl,rfl,rfl⟩;intros; rename_i g hin;obtain ⟨f1,rfl,rfl,ho⟩:=hin;refine ae (fun q=> ?_) (fun q=> ?_)
 ·have q:=dT q;obtain ⟨x,hx⟩: ∃ x,l[i]?=some x:=⟨_,gE (by omega)⟩
  obtain ⟨p,e1,e2⟩:=Rd.at_ kE Hz Hg GS r (k:= .i64) (i:=(i:Int)) (by omega) (by rw [lM]; omega);rw [Int.toNat_natCast,gD,getElem?_map,hx] at e2;have e2:ag SS.P 3 g (.pointer (some p))=some (.int .i64 x):=e2;rw [dP hx] at ho;refine ⟨_,e1,_,e2,ae (fun q2=> ?_) (fun q2=> ?_)⟩
  ·have q2:x≠0:=by simpa using q2
   refine ⟨?_,rfl⟩;rw [<-ho];show _=Value.int .i64 (if x≠0 then x else _);rw [if_pos q2]
  ·have q2: ¬ x≠0:=by simpa using q2
   rw [aG (n:=n) (by omega) (by omega)];refine cA (n - (i+1)) (by omega) ⟨by omega,rfl,rfl,?_⟩;rw [<-ho];show _=(if x≠0 then x else _);rw [if_neg q2]
 ·have q:=dF q;rw [drop_eq_nil_of_le (by omega)] at ho;exact ⟨by rw [<-ho]; rfl,rfl⟩
theorem K2 (x y z t:Int):an SS.P 48 4 [(0,(.int .i64 x)),(1,(.int .i64 y)),(2,(.int .i64 z)),(3,(.int .i64 t))]=some (.cells [.int .i64 x,.int .i64 y,.int .i64 z,.int .i64 t] 3 1 true,gm 4 4):=by kernel_rfl
theorem Jt (p q:MArc){h:Heap}(w:Wf h):FW SS0 47 [.agg ⟨aI p⟩,.agg ⟨aI q⟩] h (fun v h'=>v = .int .i64 (tQ p q)/\Ok h h'):=by
 refine Jy (aI p) (aI q) h _ ⟨_,xk p,_,xk q,?_⟩;obtain ⟨o1,a1⟩:=Ha p w;obtain ⟨o2,b2⟩:=Ha q o1.wf;have a2:=a1.ok o2;have ok:=o1.trans o2;have oR:=(Ok.refl ok.wf).room 23;have aR:=a2.ok oR;have bR:=b2.ok oR;obtain ⟨oS,kS⟩:=rA ok.wf (n:=23) (j:=20) (by omega) (.cells [.int .i64 (lg p.i q.i),.int .i64 (lg p.o q.o),.int .i64 (sJ p.w q.w),.int .i64 (lg p.t q.t)] 3 1 true);refine ⟨_,np _ _,_,aR.l0,_,np _ _,_,bR.l0,(qb _ _ _).mono ?_⟩;rintro _ _ ⟨rfl,rfl⟩;refine ⟨_,rfl,_,px _ _,_,aR.l1,_,px _ _,_,bR.l1,(qb _ _ _).mono ?_⟩;rintro _ _ ⟨rfl,rfl⟩;refine ⟨_,rfl,_,vX _ _,_,aR.l2,_,vX _ _,_,bR.l2,(Fz _ _ _).mono ?_⟩;rintro _ _ ⟨rfl,rfl⟩;refine ⟨_,rfl,_,fz _ _,_,aR.l3,_,fz _ _,_,bR.l3,(qb _ _ _).mono ?_⟩;rintro _ _ ⟨rfl,rfl⟩;refine ⟨_,rfl,_,_,_,K2 _ _ _ _,?_⟩;refine (Gc (l:=[lg p.i q.i,lg p.o q.o,sJ p.w q.w,lg p.t q.t]) oS.wf (.inr ⟨_,0,_,_,true,rfl,kS,rfl⟩) (show 4<=100000 by decide)).mono ?_;rintro _ _ ⟨rfl,rfl⟩;exact ⟨_,rfl,⟨aR.l1,fM _⟩,⟨bR.l1,fM _⟩,⟨aR.l2,qq _⟩,⟨aR.l2,qq _⟩,⟨bR.l2,qq _⟩,⟨bR.l2,qq _⟩,⟨aR.l3,fM _⟩,⟨aR.l3,fM _⟩,⟨aR.l3,fM _⟩,⟨bR.l3,fM _⟩,⟨bR.l3,fM _⟩,⟨bR.l3,fM _⟩,rfl,ok.trans oS⟩
def cx (ord:List Nat)(q:MArc):List Nat:=if q.t.toNat∈ord then ord else ord++[q.t.toNat]
def ia (M:Mach)(ord:List Nat)(s:Nat):List Nat:=(dd (M.states.getD s ⟨[],[]⟩).arcs).foldl cx ord
def ji (M:Mach):Nat->Nat->List Nat->List Nat
 | 0,_,ord=>ord
 | f+1,i,ord=>match ord[i]? with
  | none=>ord
  | some s=>ji M f (i+1) (ia M ord s)
def bV (M:Mach):List Nat:=ji M (M.states.length+1) 0 [M.start.toNat]
def bJ (M:Mach):Mach:=⟨M.kind,M.start,M.lead,M.states.map fun s=>⟨s.f,dd s.arcs⟩⟩
noncomputable def cF (M:Mach):Mach×Int:=if (bt M).2≠0 then (nc,(bt M).2) else (bJ (bE (bt M).1 (bV (bt M).1)),0)
theorem G9 {out:List MArc}{x y:MArc}:y∈nP out x↔y=x\/y∈out:=by
 unfold nP;have:y∈out↔y∈out.take (lz x out out.length)\/y∈out.drop (lz x out out.length):=by
  rw [<-mem_append,List.take_append_drop]
 rw [this];simp only [mem_append,mem_singleton];constructor
 ·rintro ((h | h) | h)
  ·exact .inr (.inl h)
  ·exact .inl h
  ·exact .inr (.inr h)
 ·rintro (h | h | h)
  ·exact .inl (.inr h)
  ·exact .inl (.inl h)
  ·exact .inr h
theorem mM {y:MArc}: ∀ {l out:List MArc},y∈l.foldl nP out↔y∈l\/y∈out
 | [],out=>by simp
 | x::l,out=>by
  rw [foldl_cons,mM,G9,mem_cons];constructor
  ·rintro (h | h | h)
   ·exact .inl (.inr h)
   ·exact .inl (.inl h)
   ·exact .inr h
  ·rintro ((h | h) | h)
   ·exact .inr (.inl h)
   ·exact .inl h
   ·exact .inr (.inr h)
theorem sortA_mem {l:List MArc}{y:MArc}:y∈dd l↔y∈l:=by
 unfold dd; rw [mM]; simp
theorem JY {N:Nat}{ord:List Nat}(o:OrdOk N ord){q:MArc}(hq:q.t.toNat < N):OrdOk N (cx ord q):=by
 unfold cx; split
 ·exact o
 ·next h=>
  refine ⟨fun x hx=> ?_,?_⟩
  ·rcases mem_append.1 hx with h' | h'
   ·exact o.lt x h'
   ·rw [mem_singleton.1 h']; exact hq
  ·rw [List.nodup_append];refine ⟨o.nd,by simp,fun a ha b hb=> ?_⟩;rw [mem_singleton.1 hb];exact fun e=>h (e ▸ ha)
theorem rD {N:Nat}: ∀ {l:List MArc}{ord:List Nat},OrdOk N ord->(∀ q∈l,q.t.toNat < N)->OrdOk N (l.foldl cx ord)
 | [],_,o,_=>o
 | q::l,ord,o,h=>by
  rw [foldl_cons];exact rD (JY o (h q (mem_cons_self ..))) fun x hx=>h x (mem_cons_of_mem _ hx)
theorem Good.tn {M:Mach}(gd:Good M){s:Nat}{q:MArc}(hq:q∈(M.states.getD s ⟨[],[]⟩).arcs):q.t.toNat < M.states.length:=by
 rw [gD] at hq
 cases hs:M.states[s]? with
 | none=>rw [hs] at hq; cases hq
 | some st=>
  rw [hs] at hq;have:=gd.arcs st (List.mem_of_getElem? hs) q hq;have h0:=this.t0;have h1:=this.t1;omega
theorem tB {M:Mach}(gd:Good M){ord:List Nat}(o:OrdOk M.states.length ord)(s:Nat):OrdOk M.states.length (ia M ord s):=
 rD o fun q hq=>gd.tn (s:=s) (sortA_mem.1 hq)
theorem C0 {M:Mach}(gd:Good M): ∀ (f i:Nat){ord:List Nat},OrdOk M.states.length ord->OrdOk M.states.length (ji M f i ord)
 | 0,_,_,o=>o
 | f+1,i,ord,o=>by
  unfold ji; split
  ·exact o
  ·exact C0 gd f (i+1) (tB gd o _)
theorem CM {M:Mach}(gd:Good M):OrdOk M.states.length [M.start.toNat]:=by
 have h0:=gd.start0;have h1:=gd.start1;exact ⟨fun x hx=>by rw [mem_singleton.1 hx]; omega,by simp⟩
theorem i5 {M:Mach}(gd:Good M):OrdOk M.states.length (bV M):=C0 gd _ _ (CM gd)
theorem uD {M:Mach}{ord:List Nat}(gd:Good M)(hs:M.start.toNat∈ord):Good (bE M ord):=by
 have hl:(bE M ord).states.length=ord.length:=by unfold bE; simp
 have h1:=(sq ord 0 M.start.toNat).2 hs;have h2:=jl ord 0 M.start.toNat;refine ⟨?_,?_,fun s hs q hq=> ?_⟩
 ·show 0<=cO ord 0 M.start.toNat;rcases h2 with h | h
  ·exact absurd h h1
  ·omega
 ·show cO ord 0 M.start.toNat < _;rw [hl];rcases h2 with h | h
  ·exact absurd h h1
  ·omega
 ·obtain ⟨x,hx,rfl⟩:=mem_map.1 hs;obtain ⟨p,hp,he⟩:=mem_filterMap.1 hq;unfold dD at he;split at he
  ·cases he
  ·next hne=>
   obtain rfl:=oI he;have h3:=jl ord 0 p.t.toNat;rw [hl];rcases h3 with h | h
   ·exact absurd h hne
   ·have ap:ArcIn M.states.length p:=by
     rw [gD] at hp
     cases hx2:M.states[x]? with
     | none=>rw [hx2] at hp; cases hp
     | some s2=>rw [hx2] at hp; exact gd.arcs s2 (List.mem_of_getElem? hx2) p hp
    exact ⟨ap.i0,ap.i1,ap.o0,ap.o1,by show 0<=cO ord 0 p.t.toNat; omega,by show cO ord 0 p.t.toNat < _; omega⟩
theorem Di {M:Mach}{ord:List Nat}{n:Nat}(hA: ∀ s∈M.states,s.arcs.length<=n): ∀ s∈(bE M ord).states,s.arcs.length<=n:=fun s hs=>by
 obtain ⟨x,hx,rfl⟩:=mem_map.1 hs;refine le_trans (List.length_filterMap_le ..) ?_;rw [gD]
 cases h:M.states[x]? with
 | none=>exact zero_le _
 | some s=>exact hA s (List.mem_of_getElem? h)
theorem AI {M:Mach}(sm:Small M)(h:(bt M).2=0):Good (bt M).1/\(bt M).1.states.length<=300/\ ∀ s∈(bt M).1.states,s.arcs.length<=2000:=by
 cases hv:aL M with
 | false=>rw [un hv] at h; cases h
 | true=>
  by_cases hu:bI M M.start.toNat
  ·rw [jj hv hu];have gd:=cL hv;have h0:=gd.start0;have h1:=gd.start1;have hm:M.start.toNat∈od M:=by
    unfold od;exact List.mem_filter.2 ⟨mem_range.2 (by omega),@decide_eq_true _ (Classical.propDecidable _) hu⟩
   refine ⟨uD gd hm,?_,Di fun s hs=> ?_⟩
   ·show ((od M).map _).length<=300;rw [lM];have h3:=dy M.states.length (lV M).nd (lV M).lt;have h4:=sm.sts;omega
   ·obtain ⟨j,hj,e⟩:=List.mem_iff_getElem.1 hs;exact (hG sm (i:=j) (by rw [gE hj,e])).1
  ·rw [jE hv hu] at h ⊢;unfold jh at h ⊢;split at h
   ·next hk=>
    rw [if_pos hk];refine ⟨⟨Int.le_refl _,by show (0:Int) < (1:Nat); omega,fun s hs q hq=> ?_⟩,by show 1<=300; decide,fun s hs=> ?_⟩
    ·rw [mem_singleton.1 hs] at hq; cases hq
    ·rw [mem_singleton.1 hs]; exact zero_le _
   ·cases h
def qi (s:MSt):MSt:=⟨s.f,dd s.arcs⟩
def yc (l:List MSt)(i:Nat):List MSt:=(l.take i).map qi++l.drop i
theorem Ku {l:List MSt}{i:Nat}{s:MSt}(hs:l[i]?=some s):(yc l i)[i]?=some s/\yc l (i+1)=(yc l i).set i (qi s):=by
 have hi:=(List.getElem?_eq_some_iff.1 hs).1;have e:l.drop i=s::l.drop (i+1):=by rw [List.drop_eq_getElem_cons hi,(List.getElem?_eq_some_iff.1 hs).2]
 have hl:((l.take i).map qi).length=i:=by rw [lM,length_take]; omega
 have ht:l.take (i+1)=l.take i++[s]:=by rw [take_add_one,hs]; rfl
 unfold yc;refine ⟨?_,?_⟩
 ·rw [List.getElem?_append_right (by omega),hl,sub_self,e]; rfl
 ·rw [List.set_append_right _ _ (by omega),hl,sub_self,e,ht,map_append];simp
theorem pG: ∀ (l:List MArc)(ord:List Nat),ord.length<=(l.foldl cx ord).length
 | [],_=>le_refl _
 | q::l,ord=>by
  rw [foldl_cons];refine le_trans ?_ (pG l (cx ord q));unfold cx; split
  ·exact le_refl _
  ·rw [length_append]; omega
theorem IE {hb g:Heap}{t:Option Addr}{tn tc:Nat}{ord:List Nat}(o:OwnG hb g 3 (.slice t tn tc) (ord.map iv)):tn=ord.length:=by
 obtain ⟨a',c',e⟩:=o.slc;injection e with _ e _
 rw [e,lM]
theorem mf {M:Mach}{f i x:Nat}{ord:List Nat}(hx:ord[i]?=some x):ji M (f+1) i ord=ji M f (i+1) (ia M ord x):=by
 rw [ji,hx]
theorem zW {M:Mach}{i:Nat}{ord:List Nat}(h:ord.length<=i): ∀ f,ji M f i ord=ord
 | 0=>rfl
 | f+1=>by rw [ji,getElem?_eq_none h]
section
section
variable {h:Heap} {M:Mach} {a:Option Addr} {n c:Nat}
theorem Ce (h:(bt M).2≠0):cF M=(nc,(bt M).2):=by unfold cF; rw [if_pos h]
theorem fH (h:(bt M).2=0):cF M=(bJ (bE (bt M).1 (bV (bt M).1)),0):=by unfold cF; rw [if_neg (by rw [h]; exact fun e=>e rfl)]
end
end
noncomputable def LR:FD:=cD Tryz.f55 []
theorem JM (a:OA)(n c:Nat)(h:Heap)(Q:VH)(hx:az ((((n:Int):Int) == 0)) (Q nA h) (xR (aU SS.P 22 (iA n) (iA n)) h fun B1 n2 c3 g4=>xC (iz SS.P 22 (sA (h.next) n2 c3) (.slice a n c) g4) g4 fun n5 u6 g7=>Q (sA (h.next) n2 c3) g7)):FW SS 55 [(.slice a n c)] h Q:=cE LR Tryz.func55 (aj hx)
noncomputable def Li:FD:=cD Tryz.f56 []
theorem JA (a:OA)(n c:Nat)(h:Heap)(Q:VH)(hx:az ((((n:Int):Int) == 0)) (Q nA h) (xR (aU SS.P 35 (iA n) (iA n)) h fun B1 n2 c3 g4=>xC (iz SS.P 35 (sA (h.next) n2 c3) (.slice a n c) g4) g4 fun n5 u6 g7=>Q (sA (h.next) n2 c3) g7)):FW SS 56 [(.slice a n c)] h Q:=cE Li Tryz.func56 (aj hx)
noncomputable def eQ:FD:=cD Tryz.f32 [([1,1,0,1,0,0],[1,2,10,11])]
abbrev ez (k k2 n:Nat)(i:Nat):LV:=[(pA k),(pA k2),(iA n),(iA i)]
theorem DS (mv:LV)(h:Heap)(Q:VH)(hx:xN (dU SS.P 24 (.agg ⟨mv⟩)) h fun B1 g2=>xN (aB SS.P 24) g2 fun B3 g4=>xP (af SS.P 24 (pA (h.next)) 3) fun p5=>xL (ag SS.P 22 g4 (.pointer (some p5))) fun a6 n7 c8=>FW SS 55 [(.slice a6 n7 c8)] g4 fun v9 h10=>yL v9 fun a11 n12 c13=>xP (af SS.P 24 (pA (h.next)) 3) fun p14=>xU (ai SS.P 22 (.pointer (some p14)) (.slice a11 n12 c13) h10) h10 fun u15 g16=>xP (af SS.P 24 (pA (h.next)) 3) fun p17=>xL (ag SS.P 22 g16 (.pointer (some p17))) fun a18 n19 c20=>LL SS eQ [1,1,0,1,0,0] (ez (h.next) (g2.next) n19 0) g16 (KK SS eQ [1,1,0,1,0] [] (EE SS eQ Q))):FW SS 32 [(.agg ⟨mv⟩)] h Q:=cE eQ Tryz.func32 (aj hx)
theorem oz (mv:LV)(k k2 n:Nat)(Inv:Nat->Nat->Heap->Prop)(Q:VH)(step: ∀ (mz:Nat) (i:Nat) (zz:Nat->Value) (h:Heap),Inv mz i h->az (decide (((i:Int):Int) < (n:Int))) (xP (af SS.P 24 (pA k) 3) fun p21=>xL (ag SS.P 22 (room h 13) (.pointer (some p21))) fun a22 n23 c24=>xP (af SS.P 24 (pA k) 3) fun p25=>xL (ag SS.P 22 (room h 13) (.pointer (some p25))) fun a26 n27 c28=>xP (ah SS.P 22 (.slice a26 n27 c28) (iA i)) fun p29=>xP (af SS.P 37 (.pointer (some p29)) 1) fun p30=>xL (ag SS.P 35 (room h 13) (.pointer (some p30))) fun a31 n32 c33=>FW SS 56 [(.slice a31 n32 c33)] (room h 13) fun v34 h35=>yL v34 fun a36 n37 c38=>xP (ah SS.P 22 (.slice a22 n23 c24) (iA i)) fun p39=>xP (af SS.P 37 (.pointer (some p39)) 1) fun p40=>xU (ai SS.P 35 (.pointer (some p40)) (.slice a36 n37 c38) h35) h35 fun u41 g42=>(ag SS.P 22 h35 (.pointer (some p21))=some (.slice a22 n23 c24)/\d7 4 (.slice a22 n23 c24) (.slice a22 n23 c24)=true)/\aF (ga (ez k k2 n) Inv) mz [(pA k),(pA k2),(iA n),(.int .i64 (wrap .i64 ((i:Int)+1)))] g42) (xA (ag SS.P 24 h (pA k)) fun c43=>xU (ai SS.P 24 (pA k2) (.agg ⟨c43⟩) h) h fun u44 g45=>dG SS [((pA k2),some 24)] g45 Q))(mz:Nat){i:Nat}{h:Heap}(hi:Inv mz i h):LL SS eQ [1,1,0,1,0,0] (ez k k2 n i) h (KK SS eQ [1,1,0,1,0] [] (EE SS eQ Q)):=
 cP (ez k k2 n) Inv (fun mz i zz h hi=>aj (step mz i zz h hi)) mz hi
noncomputable def iL:FD:=cD Tryz.f54 [([1,1,0,1,0,0],[0,1,12,13])]
abbrev fj (a:OA)(n c:Nat)(b:OA)(m d:Nat)(i:Nat):LV:=[(.slice a n c),(.slice b m d),(iA n),(iA i)]
theorem FE (a:OA)(n c:Nat)(b:OA)(m d:Nat)(h:Heap)(Q:VH)(hx:az ((((n:Int):Int) != (m:Int))) (Q (.bool false) h) (LL SS iL [1,1,0,1,0,0] (fj a n c b m d 0) h (KK SS iL [1,1,0,1,0] [] (EE SS iL Q)))):FW SS 54 [(.slice a n c),(.slice b m d)] h Q:=cE iL Tryz.func54 (aj hx)
theorem oC (a:OA)(n c:Nat)(b:OA)(m d:Nat)  (Inv:Nat->Nat->Heap->Prop) (Q:VH) (step: ∀ (mz:Nat)(i:Nat)(zz:Nat->Value)(h:Heap),Inv mz i h->az (decide (((i:Int):Int) < (n:Int))) (xP (ah SS.P 35 (.slice a n c) (iA i)) fun p1=>xA (ag SS.P 39 (room h 9) (.pointer (some p1))) fun c2=>xP (ah SS.P 35 (.slice b m d) (iA i)) fun p3=>xA (ag SS.P 39 (room h 9) (.pointer (some p3))) fun c4=>xB (al SS.P .neq 39 (.agg ⟨c2⟩) (.agg ⟨c4⟩)) fun b5=>az b5 (Q (.bool false) (room h 9)) (aF (ga (fj a n c b m d) Inv) mz [(.slice a n c),(.slice b m d),(iA n),(.int .i64 (wrap .i64 ((i:Int)+1)))] (room h 9))) (Q (.bool true) h)) (mz:Nat) {i:Nat} {h:Heap} (hi:Inv mz i h):LL SS iL [1,1,0,1,0,0] (fj a n c b m d i) h (KK SS iL [1,1,0,1,0] [] (EE SS iL Q)):=
 cP (fj a n c b m d) Inv (fun mz i zz h hi=>aj (step mz i zz h hi)) mz hi
noncomputable def I0:FD:=cD Tryz.f53 []
theorem F8 (xv yv:LV)(h:Heap)(Q:VH)(hx:xN (dU SS.P 37 (.agg ⟨xv⟩)) h fun B1 g2=>xN (dU SS.P 37 (.agg ⟨yv⟩)) g2 fun B3 g4=>xP (af SS.P 37 (pA (h.next)) 0) fun p5=>xS (ag SS.P 9 g4 (.pointer (some p5))) fun l6=>xP (af SS.P 37 (pA (g2.next)) 0) fun p7=>xS (ag SS.P 9 g4 (.pointer (some p7))) fun l8=>az ((l6:LB) == l8) (xP (af SS.P 37 (pA (h.next)) 1) fun p9=>xL (ag SS.P 35 g4 (.pointer (some p9))) fun a10 n11 c12=>xP (af SS.P 37 (pA (g2.next)) 1) fun p13=>xL (ag SS.P 35 g4 (.pointer (some p13))) fun a14 n15 c16=>FW SS 54 [(.slice a10 n11 c12),(.slice a14 n15 c16)] g4 fun v17 h18=>yB v17 fun b19=>Q (.bool b19) h18) (Q (.bool false) g4)):FW SS 53 [(.agg ⟨xv⟩),(.agg ⟨yv⟩)] h Q:=cE I0 Tryz.func53 (aj hx)
section
section
variable {h:Heap} {l l':List MArc} {a:Option Addr} {n c:Nat} {b:Option Addr} {m d:Nat}
theorem Fj (w:Wf h)(r:ArcRow h (.slice a n c) l)(r':ArcRow h (.slice b m d) l')(hl:l.length<=100000):FW SS 54 [.slice a n c,.slice b m d] h (Ep h (IJ l l')):=by
 have hn:=r.len;have hm:=r'.len;refine FE a n c b m d h _ (ae (fun q=> ?_) (fun q=> ?_))
 ·refine ⟨?_,Ok.refl w⟩;rw [eM];intro e;subst e;rw [hn,hm] at q;simp at q
 ·have hnm:n=m:=by
   have:(n:Int)=m:=by simpa using q
   omega
  refine oC a n c b m d (fun mz i g=>i<=l.length/\mz=l.length - i/\Ok h g/\l.take i=l'.take i) _ (fun mz i=> ?_) l.length (i:=0) ⟨zero_le _,rfl,Ok.refl w,by simp⟩;intros; rename_i g hin;obtain ⟨f1,rfl,ok,hp⟩:=hin;refine ae (fun q=> ?_) (fun q=> ?_)
  ·have q:=dT q;have oR:=(Ok.refl ok.wf).room 9;have okR:=ok.trans oR;obtain ⟨p1,hp1⟩: ∃ p,l[i]?=some p:=⟨_,gE (by omega)⟩
   obtain ⟨p2,hp2⟩: ∃ p,l'[i]?=some p:=⟨_,gE (by omega)⟩
   obtain ⟨b1,o1,d1,d2,_⟩:=(r.ok okR).at_ hp1;obtain ⟨b2,o2,e1,e2,_⟩:=(r'.ok okR).at_ hp2;refine ⟨_,d1,_,d2,_,e1,_,e2,_,KU _ _,ae (fun q2=> ?_) (fun q2=> ?_)⟩
   ·have hne:p1≠p2:=fun e=>by rw [gb e] at q2; cases q2
    refine ⟨?_,okR⟩;rw [eM];intro e;rw [e,hp2] at hp1;exact hne (oI hp1).symm
   ·have hne:p1=p2:=Classical.byContradiction fun e=>by rw [eM e] at q2; cases q2
    rw [aG (n:=l.length) (by omega) (by omega)];refine cA (l.length - (i+1)) (by omega) ⟨by omega,rfl,okR,?_⟩;rw [take_add_one,take_add_one,hp1,hp2,hp,hne]
  ·have q:=dF q;rw [take_of_length_le (by omega),take_of_length_le (by omega)] at hp;exact ⟨by rw [gb hp],ok⟩
end
end
end Go.Proofs.YtoabjjimjldcfaaGreatDoor
end
section
set_option linter.unusedVariables false
namespace Go.Ab
open Go
theorem yp {P:Program}{t e:TypeId}{sz:Nat}(hU:P.underlying t=some (.slice e))(hs:ak P e=some sz){g:Heap}{a:Option Addr}{n c c':Nat}{rs:List (List Value)}(r:RdN g e sz (.slice a n c) rs)(hn:n≠0)(hsc:rs.flatten.all bA=true){k:Nat}{cs0:List Value}(hk:g.get k=some (.cells cs0 e sz true))(hl:cs0.length=n*sz):
  iz P t (.slice (some ⟨k,0,none⟩) n c') (.slice a n c) g=some (.int .i64 (n:Int),.set k (.cells rs.flatten e sz true)):=by
 have hnr:=r.len;obtain ⟨hr,⟨h1 | h1,h2⟩ | ⟨k',off,cs,e',z,c2,wr,h1,h2,h3,h4⟩⟩:=r
 ·subst h2; exact absurd hnr hn
 ·subst h2; exact absurd hnr hn
 injection h1 with h1 _ _
 subst h1;subst hnr;have hF:=vL hr h3 h4;have hFl:=eH hr;have hsrc:cm g sz (.slice (some ⟨k',off,none⟩) rs.length c)=some (rs.flatten,rs.length):=by
  show (match g.get k' with | some (.cells cs ..)=>if ((cs.drop off).take (rs.length*sz)).length=rs.length*sz then some ((cs.drop off).take (rs.length*sz),rs.length) else none | _=>none)=_;rw [h2]; dsimp only;rw [hF,if_pos hFl]
 unfold iz;rw [hU]; dsimp only;rw [hs]; dsimp only;rw [hsrc]; dsimp only;rw [if_neg (by omega),Nat.min_self,take_of_length_le (by omega)];unfold storeAt;rw [hk]; dsimp only;rw [if_pos ⟨by omega,hsc⟩];have e1:cs0.take 0++rs.flatten++cs0.drop (0+rs.flatten.length)=rs.flatten:=by
  rw [List.take_zero,nil_append,drop_eq_nil_of_le (by omega),append_nil]
 rw [e1]; rfl
end Go.Ab
end
section
set_option linter.unusedVariables false
set_option maxRecDepth 100000
namespace Go.Proofs.YtoabjjimjldcfaaGreatDoor
open Go Go.Ab
section
noncomputable def ti39:TypeInfo:=(SS.P.info? 39).getD default
theorem Jn:SS.P.info? 39=some ti39:=by kernel_rfl
theorem EF:ti39.size=4:=by kernel_rfl
theorem AT:ti39.bytes=40:=by kernel_rfl
theorem LG:bW SS.P 39=some (.agg ⟨aI q0⟩):=by kernel_rfl
theorem Ol (n:Nat)(hn:n<=100000):aU SS.P 35 (.int .i64 (n:Int)) (.int .i64 (n:Int))=some (.cells ((List.replicate n q0).map aI).flatten 39 4 true,gm n n):=by
 unfold aU aP;dsimp only;rw [ti]
 try dsimp only
 change (match SS.P.info? 39,bW SS.P 39 with
  | some i,some z=>(if z.cells.size=i.size/\0 < i.size/\(0:Int)<=(n:Int)/\(n:Int)<=(n:Int)/\(n:Int)*i.bytes<=140737488355328/\(n:Int)<=1099511627776 then some (Blk.cells (bc z.cells.toList (n:Int).toNat) 39 i.size true,fun k=>Value.slice (some ⟨k,0,none⟩) (n:Int).toNat (n:Int).toNat) else none)
  | _,_=>none)=_
 rw [Jn,LG];dsimp only;rw [EF,AT,if_pos ⟨rfl,by omega,by omega,Int.le_refl _,by omega,by omega⟩];have e:((n:Int)).toNat=n:=by omega
 rw [e,show (Value.agg ⟨aI q0⟩).cells.toList=aI q0 from rfl,nN,map_replicate]; rfl
section
variable {h:Heap} {a:Option Addr} {n c:Nat}
theorem IZ {l:List MArc}(w:Wf h)(r:ArcRow h (.slice a n c) l)(hl:l.length<=100000):FW SS 56 [.slice a n c] h (fun v h'=>OwnK h h' 39 4 v (l.map aI)/\Ok h h'):=by
 have hn:=r.len;refine JA a n c h _ (ae (fun q=> ?_) (fun q=> ?_))
 ·have q:n=0:=by
   have:(n:Int)=0:=by simpa using q
   omega
  have e:l=[]:=eq_nil_of_length_eq_zero (by omega);subst e;exact ⟨OwnK.nil _ _ _ _,Ok.refl w⟩
 ·have q:n≠0:=by
   intro e; subst e; simp at q
  have oP:=(Ok.refl w).push (.cells ((List.replicate n q0).map aI).flatten 39 4 true);have kP:=aq h (.cells ((List.replicate n q0).map aI).flatten 39 4 true);have hln:((List.replicate n q0).map aI).flatten.length=n*4:=by
   rw [eH (sz:=4) (fun r hr=>by obtain ⟨x,_,rfl⟩:=mem_map.1 hr; rfl),lM,length_replicate]
  have cp:=yp (c':=n) ti rI (RdN.ok r oP) q (vo l) kP hln;refine ⟨_,_,_,Ol n (by omega),_,_,cp,?_⟩;have o2:Ok h ((Upd.set h.next (.cells (l.map aI).flatten 39 4 true)).app (h.push (.cells ((List.replicate n q0).map aI).flatten 39 4 true))):=oP.set _ (le_refl _) (oP.wf _ _ kP) w;have k2:((Upd.set h.next (.cells (l.map aI).flatten 39 4 true)).app (h.push (.cells ((List.replicate n q0).map aI).flatten 39 4 true))).get h.next=some (.cells (l.map aI).flatten 39 4 true):=by
   show ((h.push _).set h.next _).get h.next=_;rw [Heap.get_set,if_pos rfl]
  have om:=OwnK.made (h0:=h) k2 (fun r hr=>by obtain ⟨x,_,rfl⟩:=mem_map.1 hr; rfl) (le_refl _) (by rw [lM]; exact Nat.lt_of_le_of_lt hl (by decide));rw [lM,<-hn] at om;exact ⟨om,o2⟩
theorem I7 {ps:List (MSt×Value)}(w:Wf h)(r:RdN h 37 2 (.slice a n c) (ps.map dg))(hs:(ps.map dg).flatten.all bA=true)(hl:ps.length<=100000):FW SS 55 [.slice a n c] h (fun v h'=>OwnK h h' 37 2 v (ps.map dg)/\Ok h h'):=by
 have hn:=r.len;rw [lM] at hn;refine JM a n c h _ (ae (fun q=> ?_) (fun q=> ?_))
 ·have q:n=0:=by
   have:(n:Int)=0:=by simpa using q
   omega
  have e:ps=[]:=eq_nil_of_length_eq_zero (by omega);subst e;exact ⟨OwnK.nil _ _ _ _,Ok.refl w⟩
 ·have q:n≠0:=by
   intro e; subst e; simp at q
  have oP:=(Ok.refl w).push (.cells ((List.replicate n zst).map dg).flatten 37 2 true);have kP:=aq h (.cells ((List.replicate n zst).map dg).flatten 37 2 true);have hln:((List.replicate n zst).map dg).flatten.length=n*2:=by
   rw [eH (sz:=2) rC,lM,length_replicate]
  have cp:=yp (c':=n) qS qj (RdN.ok r oP) q hs kP hln;refine ⟨_,_,_,LF n (by omega),_,_,cp,?_⟩;have o2:Ok h ((Upd.set h.next (.cells (ps.map dg).flatten 37 2 true)).app (h.push (.cells ((List.replicate n zst).map dg).flatten 37 2 true))):=oP.set _ (le_refl _) (oP.wf _ _ kP) w;have k2:((Upd.set h.next (.cells (ps.map dg).flatten 37 2 true)).app (h.push (.cells ((List.replicate n zst).map dg).flatten 37 2 true))).get h.next=some (.cells (ps.map dg).flatten 37 2 true):=by
   show ((h.push _).set h.next _).get h.next=_;rw [Heap.get_set,if_pos rfl]
  have om:=OwnK.made (h0:=h) k2 rC (le_refl _) (by rw [lM]; exact Nat.lt_of_le_of_lt hl (by decide));rw [lM,<-hn] at om;exact ⟨om,o2⟩
end
end
section
section
variable {h:Heap} {M:Mach} {a:Option Addr} {n c:Nat}
structure ClI (h:Heap)(lo k k2:Nat)(M:Mach)(a:Option Addr)(n c i:Nat)(g:Heap)(qs:List (MSt×Value)):Prop where
 nxt:lo<=g.next
 sts:qs.map (·.1)=M.states
 row:OwnK h g 37 2 (.slice a n c) (qs.map dg)
 ok:Ok h g
 box:g.get k=some (.cells (aA M a n c) 24 0 true)
 box2:g.get k2=some dH
 rlo: ∀ b,aM (.slice a n c)=some b->lo<=b
 arcs: ∀ (j:Nat)(q:MSt×Value),qs[j]?=some q->j < i->OwnK h g 39 4 q.2 (q.1.arcs.map aI)/\ ∀ b,aM q.2=some b->lo<=b/\aM (.slice a n c)≠some b
 dis: ∀ (j j':Nat)(q q':MSt×Value),j < i->j' < i->j≠j'->qs[j]?=some q->qs[j']?=some q'-> ∀ b,aM q.2=some b->aM q'.2≠some b
 old: ∀ (j:Nat)(q:MSt×Value),qs[j]?=some q->i<=j->ArcRow h q.2 q.1.arcs
def OO (h:Heap)(lo k k2:Nat)(M:Mach)(a:Option Addr)(n c:Nat)(mz i:Nat)(g:Heap):Prop:=i<=M.states.length/\mz=M.states.length - i/\ ∃ qs,ClI h lo k k2 M a n c i g qs
theorem BK {g0:Heap}(w:Wf h){lo k k2:Nat}(hlo:h.next<=k/\k < lo/\h.next<=k2/\k2 < lo/\k≠k2)(hN:M.states.length<=100000)(hA: ∀ s∈M.states,s.arcs.length<=100000){qs:List (MSt×Value)}(hin:ClI h lo k k2 M a n c 0 g0 qs)(mv:List Value):
  LL SS eQ [1,1,0,1,0,0] (ez k k2 n 0) g0 (KK SS eQ [1,1,0,1,0] [] (EE SS eQ (IB h M))):=by
 refine oz mv k k2 n (OO h lo k k2 M a n c) _ (fun mz i=> ?_) M.states.length (i:=0) ⟨zero_le _,rfl,qs,hin⟩;clear hin qs;intros; rename_i g hin;obtain ⟨f1,rfl,qs,ci⟩:=hin;obtain ⟨hl1,hl2,hl3,hl4,hl5⟩:=hlo;have hqn:qs.length=M.states.length:=by
  have:=congrArg List.length ci.sts;rwa [lM] at this
 have hn:n=M.states.length:=by
  have:=RdN.len ci.row.rd;rw [lM] at this; omega
 have wg:=ci.ok.wf;refine ae (fun q=> ?_) (fun q=> ?_)
 ·have q:=dT q;have hi:i < M.states.length:=by omega
  obtain ⟨p,hp⟩: ∃ p,qs[i]?=some p:=⟨_,gE (by omega)⟩
  have oR:=(Ok.refl wg).room 13;have ar:=ci.old i p hp (le_refl _);obtain ⟨x,z,hx⟩:=RdN.slc ar;obtain ⟨kr,off,c',e,hkb⟩:=ci.row.blk (by rw [lM]; omega);injection e with e1 e2 e3
  obtain rfl:=e1;have hps:(qs.map dg)[i]?=some (dg p):=by rw [getElem?_map,hp]; rfl
  obtain ⟨x1,x2,x3⟩:=(ci.row.ok oR).at_ qS qj hps .i64;have x4:=x2 35 _ 1 ti A2 (by omega);have e5:(dg p).getD 1 undef=p.2:=rfl;have l3:ag SS.P 22 (Go.Ab.room g 13) (.pointer (some ⟨k,3,none⟩))=some (.slice (some ⟨kr,off,none⟩) n c):=cM qS Bl (oR.ext _ _ ci.box) (by simp [aA]);have arR:=RdN.ok ar (ci.ok.trans oR);rw [hx] at arR;have x5:ag SS.P 35 (Go.Ab.room g 13) (.pointer (some ⟨kr,off+i*2+1,none⟩))=some p.2:=x4;rw [hx] at x5;have hsm:p.1∈M.states:=by rw [<-ci.sts]; exact mem_map.2 ⟨p,List.mem_of_getElem? hp,rfl⟩
  refine ⟨_,bn _,_,_,_,l3,_,bn _,_,_,_,l3,_,x1,_,cw _ _,_,_,_,x5,(IZ oR.wf arR (hA _ hsm)).mono ?_⟩;rintro v gS ⟨os,o2⟩;obtain ⟨y,z2,rfl⟩:=os.slc;have okS:=oR.trans o2;have nx: ∀ b,aM (.slice y (p.1.arcs.map aI).length z2)=some b->g.next<=b:=fun b e=>by
   have h1:=(os.lt o2.wf e).2;have h2:(Go.Ab.room g 13).next=g.next+13:=rfl;omega
  obtain ⟨u,s1,s2,s3,s4,s5⟩:=(ci.row.ok okS).put (t':=35) (by kernel_rfl) w (ci.ok.trans okS) (i:=i) (j:=1) hps (by omega) (v':= .slice y (p.1.arcs.map aI).length z2) (cY ..) (by cases y <;> rfl);have l3S:ag SS.P 22 gS (.pointer (some ⟨k,3,none⟩))=some (.slice (some ⟨kr,off,none⟩) n c):=cM qS Bl (okS.ext _ _ ci.box) (by simp [aA]);have hkr:=ci.rlo kr rfl;have hkrg:=(ci.row.lt wg (k:=kr) rfl).1;have hcl:=ci.nxt;have hSx:=okS.nx;refine ⟨_,_,_,rfl,_,x1,_,cw _ _,u,s1,⟨l3S,Bz _ _ _ _⟩,?_⟩;rw [aG hi (by omega)];refine cA (M.states.length - (i+1)) (by omega) ⟨by omega,rfl,qs.set i (p.1,.slice y (p.1.arcs.map aI).length z2),⟨by omega,?_,?_,s3,s4 _ _ (okS.ext _ _ ci.box) (by omega),s4 _ _ (okS.ext _ _ ci.box2) (by omega),ci.rlo,?_,?_,?_⟩⟩
  ·rw [map_set,ci.sts];refine List.ext_getElem? fun j=> ?_;rw [getElem?_set];split
   ·next e=>
    subst e;rw [<-ci.sts,getElem?_map,hp]; rfl
   ·rfl
  ·rw [map_set];exact s2
  ·intro j q' hj hji;rw [getElem?_set] at hj;split at hj
   ·next e=>
    rw [if_pos (by omega)] at hj;obtain rfl:=oI hj;refine ⟨(os.base (ci.ok.trans oR)).keep fun b B hb hB=>s4 _ _ hB (fun e=> ?_),fun b hb=>⟨?_,fun e=> ?_⟩⟩
    ·have:=nx b hb; omega
    ·have:=nx b hb; omega
    ·have h1:=nx b hb;have h2:kr=b:=oI e;omega
   ·next e=>
    obtain ⟨t1,t2⟩:=ci.arcs j q' hj (by omega);exact ⟨(t1.ok okS).keep fun b B hb hB=>s4 _ _ hB (fun e=>(t2 b hb).2 (by rw [<-e]; rfl)),t2⟩
  ·intro j j' q1 q2 hj hj' hne h1 h2 b hb1 hb2;rw [getElem?_set] at h1 h2;split at h1
   ·next e1=>
    rw [if_pos (by omega)] at h1;obtain rfl:=oI h1;rw [if_neg (by omega)] at h2;have t1:=((ci.arcs j' q2 h2 (by omega)).1.lt wg hb2).1;have t2:=nx b hb1;omega
   ·next e1=>
    split at h2
    ·next e2=>
     rw [if_pos (by omega)] at h2;obtain rfl:=oI h2;have t1:=((ci.arcs j q1 h1 (by omega)).1.lt wg hb1).1;have t2:=nx b hb2;omega
    ·exact ci.dis j j' q1 q2 (by omega) (by omega) hne h1 h2 b hb1 hb2
  ·intro j q' hj hji;rw [getElem?_set,if_neg (by omega)] at hj;exact ci.old j q' hj (by omega)
 ·have q:=dF q;obtain rfl:i=M.states.length:=by omega
  have pa2:=cC (t:=24) fg (cs0:=[.int .i64 0,.int .i64 0,aa [],.slice none 0 0]) rfl ci.box2 (cs:=aA M a n c) rfl (dQ _ _ _ _);obtain ⟨o5,k5⟩:=dL (cs:=aA M a n c) w ci.ok ci.box2 hl3;have kp: ∀ (j:Nat)(B:Blk),lo<=j->g.get j=some B->((Upd.set k2 (.cells (aA M a n c) 24 0 true)).app g).get j=some B:=fun j B hj hB=>by
   show (g.set k2 _).get j=_;rw [Heap.get_set,if_neg (by omega)]; exact hB
  have lt: ∀ {j:Nat}{p:MSt×Value},qs[j]?=some p->j < M.states.length:=fun hp=>by
   have:=(List.getElem?_eq_some_iff.1 hp).1;omega
  refine ⟨_,ft wx wB fg ci.box (by simp [aA]),_,pa2,oX (v:= .agg ⟨aA M a n c⟩) (ft wx wB fg k5 (by simp [aA])) ?_⟩;refine ⟨_,_,_,qs,rfl,ci.sts,⟨ci.row.keep fun b B hb hB=>kp b B (ci.rlo b hb) hB,fun j p hp=> ?_,fun j p hp b hb=>((ci.arcs j p hp (lt hp)).2 b hb).2,fun j j' p q' hne hp hq=>ci.dis j j' p q' (lt hp) (lt hq) hne hp hq⟩,o5⟩;obtain ⟨t1,t2⟩:=ci.arcs j p hp (lt hp);exact t1.keep fun b B hb hB=>kp b B (t2 b hb).1 hB
end
end
section
theorem Dh: ∀ {ps:List (MSt×Value)},(∀ p∈ps,bA p.2=true)->(ps.map dg).flatten.all bA=true
 | [],_=>rfl
 | p::ps,hp=>by
  rw [List.map_cons,flatten_cons,all_append,Dh fun q hq=>hp q (mem_cons_of_mem _ hq)];have h1:=hp p (mem_cons_self ..);unfold dg;simp [h1]; rfl
section
variable {h:Heap} {M:Mach} {a:Option Addr} {n c:Nat}
theorem ui (w:Wf h)(hN:M.states.length<=100000)(hA: ∀ s∈M.states,s.arcs.length<=100000)(r:StRow h (.slice a n c) M.states):FW SS 32 [.agg ⟨aA M a n c⟩] h (IB h M):=by
 obtain ⟨mb0,ok0⟩:=dM w r;obtain ⟨ps,hps,hr,har,_⟩:=r;have hpl:ps.length=M.states.length:=by
  have:=congrArg List.length hps;rwa [lM] at this
 have n0:h.next < (h.push (Bm M a n c)).next:=ok0.wf _ _ mb0.box;have o1:=(Ok.refl ok0.wf).push dH;have k4:=aq (h.push (Bm M a n c)) dH;have ok1:=ok0.trans o1;have mb1:=mb0.ok o1;have hK1:=ok1.wf _ _ k4;refine DS (aA M a n c) h _ ⟨_,fo M a n c,_,kC,?_⟩;generalize h.push (Bm M a n c)=g0 at *;generalize g0.push dH=g1 at *;generalize g0.next=K at *;refine ⟨_,bn _,_,_,_,mb1.l3,(I7 ok1.wf (hr.ok ok1) (Dh fun p hp=> ?_) (by omega)).mono ?_⟩
 ·obtain ⟨x,z,e⟩:=RdN.slc (har p hp);rw [e]; exact cY ..
 rintro v g2 ⟨os,o2⟩;obtain ⟨a',c',rfl⟩:=os.slc;have ok2:=ok1.trans o2;have mb2:=mb1.ok o2;have sz22:ak SS.P 22=some 1:=by kernel_rfl
 have st:=j6 (t:=22) sz22 mb2.box (i:=3) (by simp) (v:= .slice a' (ps.map dg).length c') (cY ..) (by cases a' <;> rfl);have e1:([.int .i64 M.kind,.int .i64 M.start,aa M.lead,.slice a n c]:List Value).set 3 (.slice a' (ps.map dg).length c')=aA M a' (ps.map dg).length c':=rfl;rw [e1] at st;have o3:Ok h ((Upd.set h.next (.cells (aA M a' (ps.map dg).length c') 24 0 true)).app g2):=ok2.set _ (le_refl _) (ok2.wf _ _ mb2.box) w;have kp: ∀ (j:Nat)(B:Blk),h.next≠j->g2.get j=some B->((Upd.set h.next (.cells (aA M a' (ps.map dg).length c') 24 0 true)).app g2).get j=some B:=fun j B hne hB=>by
  show (g2.set h.next _).get j=_;rw [Heap.get_set,if_neg (fun e=>hne e.symm)]; exact hB
 have k5:((Upd.set h.next (.cells (aA M a' (ps.map dg).length c') 24 0 true)).app g2).get h.next=some (.cells (aA M a' (ps.map dg).length c') 24 0 true):=by
  show (g2.set h.next _).get h.next=_;rw [Heap.get_set,if_pos rfl]
 have hx:((Upd.set h.next (.cells (aA M a' (ps.map dg).length c') 24 0 true)).app g2).next=g2.next:=rfl;have h2x:=o2.nx;have hK0:h.next < K:=by omega
 refine ⟨_,_,_,rfl,_,bn _,_,st,?_⟩;generalize (Upd.set h.next (.cells (aA M a' (ps.map dg).length c') 24 0 true)).app g2=g3 at *;have l3:ag SS.P 22 g3 (.pointer (some ⟨h.next,3,none⟩))=some (.slice a' (ps.map dg).length c'):=cM qS Bl k5 (by simp [aA]);refine ⟨_,bn _,_,_,_,l3,?_⟩;refine BK (lo:=g1.next) (qs:=ps) w ⟨le_refl _,by omega,by omega,hK1,by omega⟩ hN hA ⟨by omega,hps,(os.base ok1).keep fun b B hb hB=>kp b B (fun e=> ?_) hB,o3,k5,kp _ _ (by omega) (o2.ext _ _ k4),fun b hb=>(os.lt o2.wf hb).2,fun j q _ h0=>absurd h0 (not_lt_zero _),fun j _ q _ h0=>absurd h0 (not_lt_zero _),fun j q hj _=>har q (List.mem_of_getElem? hj)⟩ (aA M a n c);have:=(os.lt o2.wf hb).2;omega
end
end
theorem KR (f:List UInt8)(x:Option Addr)(y z:Nat):dU SS.P 37 (.agg ⟨[aa f,.slice x y z]⟩)=some (.cells [aa f,.slice x y z] 37 0 true,gk):=by cases x <;> kernel_rfl
theorem GV {h:Heap}{s s':MSt}{x x':Option Addr}{y z y' z':Nat}(w:Wf h)(r:ArcRow h (.slice x y z) s.arcs)(r':ArcRow h (.slice x' y' z') s'.arcs)(hl:s.arcs.length<=100000):FW SS 53 [.agg ⟨[aa s.f,.slice x y z]⟩,.agg ⟨[aa s'.f,.slice x' y' z']⟩] h (Ep h (IJ s s')):=by
 have o1:=(Ok.refl w).push (.cells [aa s.f,.slice x y z] 37 0 true);have k1:SB (h.push (.cells [aa s.f,.slice x y z] 37 0 true)) h.next s.f x y z:=aq h _;refine F8 [aa s.f,.slice x y z] [aa s'.f,.slice x' y' z'] h _ ⟨_,KR ..,_,KR ..,?_⟩;generalize h.push (.cells [aa s.f,.slice x y z] 37 0 true)=g1 at *;have o2:=(Ok.refl o1.wf).push (.cells [aa s'.f,.slice x' y' z'] 37 0 true);have k2:SB (g1.push (.cells [aa s'.f,.slice x' y' z'] 37 0 true)) g1.next s'.f x' y' z':=aq g1 _;have k12:=k1.ok o2;have ok:=o1.trans o2;generalize g1.push (.cells [aa s'.f,.slice x' y' z'] 37 0 true)=g2 at *;refine ⟨_,gG _ _,_,k12.l0,_,gG _ _,_,k2.l0,ae (fun q=> ?_) (fun q=> ?_)⟩
 ·have q:s.f=s'.f:=by simpa using q
  refine ⟨_,cw _ _,_,_,_,k12.l1,_,cw _ _,_,_,_,k2.l1,(Fj ok.wf (r.ok ok) (r'.ok ok) hl).mono ?_⟩;rintro v h' ⟨rfl,o3⟩;refine ⟨_,rfl,?_,ok.trans o3⟩;congr 1;by_cases e:s.arcs=s'.arcs
  ·have:s=s':=by cases s; cases s'; simp_all
   rw [gb e,gb this]
  ·rw [eM e,eM fun e'=>e (by rw [e'])]
 ·have q:s.f≠s'.f:=by simpa using q
  exact ⟨by rw [eM fun e=>q (by rw [e])],ok⟩
noncomputable def jS:FD:=cD Tryz.f52 [([1,1,0,1,0,0],[0,1,2,15,16,17])]
abbrev fR (a:OA)(n c:Nat)(b:OA)(m d:Nat)(i:Nat):LV:=[(.slice a n c),(.slice b m d),(.func (.func 53) ⟨[]⟩ ⟨[]⟩),(.slice a n c),(iA n),(iA i)]
theorem It (a:OA)(n c:Nat)(b:OA)(m d:Nat)(h:Heap)(Q:VH)(hx:az ((((n:Int):Int) != (m:Int))) (Q (.bool false) h) (LL SS jS [1,1,0,1,0,0] (fR a n c b m d 0) h (KK SS jS [1,1,0,1,0] [] (EE SS jS Q)))):FW SS 52 [(.slice a n c),(.slice b m d),(.func (.func 53) ⟨[]⟩ ⟨[]⟩)] h Q:=cE jS Tryz.func52 (aj hx)
theorem pK (a:OA)(n c:Nat)(b:OA)(m d:Nat)  (Inv:Nat->Nat->Heap->Prop) (Q:VH) (step: ∀ (mz:Nat)(i:Nat)(zz:Nat->Value)(h:Heap),Inv mz i h->az (decide (((i:Int):Int) < (n:Int))) (xP (ah SS.P 22 (.slice a n c) (iA i)) fun p1=>xA (ag SS.P 37 h (.pointer (some p1))) fun c2=>xN (aB SS.P 37) h fun B3 g4=>xU (ai SS.P 37 (pA (h.next)) (.agg ⟨c2⟩) g4) g4 fun u5 g6=>xP (ah SS.P 22 (.slice b m d) (iA i)) fun p7=>xA (ag SS.P 37 g6 (.pointer (some p7))) fun c8=>xN (aB SS.P 37) g6 fun B9 g10=>xU (ai SS.P 37 (pA (g6.next)) (.agg ⟨c8⟩) g10) g10 fun u11 g12=>xA (ag SS.P 37 g12 (pA (h.next))) fun c13=>xA (ag SS.P 37 g12 (pA (g6.next))) fun c14=>FW SS 53 [(.agg ⟨c13⟩),(.agg ⟨c14⟩)] g12 fun v15 h16=>yB v15 fun b17=>az (!b17) (Q (.bool false) h16) (aF (ga (fR a n c b m d) Inv) mz [(.slice a n c),(.slice b m d),(.func (.func 53) ⟨[]⟩ ⟨[]⟩),(.slice a n c),(iA n),(.int .i64 (wrap .i64 ((i:Int)+1)))] h16)) (Q (.bool true) h)) (mz:Nat) {i:Nat} {h:Heap} (hi:Inv mz i h):LL SS jS [1,1,0,1,0,0] (fR a n c b m d i) h (KK SS jS [1,1,0,1,0] [] (EE SS jS Q)):=
 cP (fR a n c b m d) Inv (fun mz i zz h hi=>aj (step mz i zz h hi)) mz hi
noncomputable def I3:FD:=cD Tryz.f30 []
theorem GW (mv nv:LV)(h:Heap)(Q:VH)(hx:xN (dU SS.P 24 (.agg ⟨mv⟩)) h fun B1 g2=>xN (dU SS.P 24 (.agg ⟨nv⟩)) g2 fun B3 g4=>xP (af SS.P 24 (pA (h.next)) 0) fun p5=>xI .i64 (ag SS.P 3 g4 (.pointer (some p5))) fun n6=>xP (af SS.P 24 (pA (g2.next)) 0) fun p7=>xI .i64 (ag SS.P 3 g4 (.pointer (some p7))) fun n8=>az (((n6:Int) == n8)) (xP (af SS.P 24 (pA (h.next)) 1) fun p9=>xI .i64 (ag SS.P 3 g4 (.pointer (some p9))) fun n10=>xP (af SS.P 24 (pA (g2.next)) 1) fun p11=>xI .i64 (ag SS.P 3 g4 (.pointer (some p11))) fun n12=>az (((n10:Int) == n12)) (xP (af SS.P 24 (pA (h.next)) 2) fun p13=>xS (ag SS.P 9 g4 (.pointer (some p13))) fun l14=>xP (af SS.P 24 (pA (g2.next)) 2) fun p15=>xS (ag SS.P 9 g4 (.pointer (some p15))) fun l16=>az ((l14:LB) == l16) (xP (af SS.P 24 (pA (h.next)) 3) fun p17=>xL (ag SS.P 22 g4 (.pointer (some p17))) fun a18 n19 c20=>xP (af SS.P 24 (pA (g2.next)) 3) fun p21=>xL (ag SS.P 22 g4 (.pointer (some p21))) fun a22 n23 c24=>FW SS 52 [(.slice a18 n19 c20),(.slice a22 n23 c24),(.func (.func 53) ⟨[]⟩ ⟨[]⟩)] g4 fun v25 h26=>yB v25 fun b27=>Q (.bool b27) h26) (Q (.bool false) g4)) (Q (.bool false) g4)) (Q (.bool false) g4)):FW SS 30 [(.agg ⟨mv⟩),(.agg ⟨nv⟩)] h Q:=cE I3 Tryz.func30 (aj hx)
section
section
variable {h:Heap} {l l':List MSt} {a:Option Addr} {n c:Nat} {b:Option Addr} {m d:Nat}
theorem GU (w:Wf h)(r:StRow h (.slice a n c) l)(r':StRow h (.slice b m d) l')(hl:l.length<=100000)(hA: ∀ s∈l,s.arcs.length<=100000):FW SS 52 [.slice a n c,.slice b m d,.func (.func 53) ⟨[]⟩ ⟨[]⟩] h (Ep h (IJ l l')):=by
 have hn:=r.len;have hm:=r'.len;refine It a n c b m d h _ (ae (fun q=> ?_) (fun q=> ?_))
 ·refine ⟨?_,Ok.refl w⟩;rw [eM];intro e;subst e;rw [hn,hm] at q;simp at q
 ·have hnm:n=m:=by
   have:(n:Int)=m:=by simpa using q
   omega
  refine pK a n c b m d (fun mz i g=>i<=l.length/\mz=l.length - i/\Ok h g/\l.take i=l'.take i) _ (fun mz i=> ?_) l.length (i:=0) ⟨zero_le _,rfl,Ok.refl w,by simp⟩;intros; rename_i g hin;obtain ⟨f1,rfl,ok,hp⟩:=hin;refine ae (fun q=> ?_) (fun q=> ?_)
  ·have q:=dT q;obtain ⟨s1,hs1⟩: ∃ p,l[i]?=some p:=⟨_,gE (by omega)⟩
   obtain ⟨s2,hs2⟩: ∃ p,l'[i]?=some p:=⟨_,gE (by omega)⟩
   obtain ⟨b1,o1,x,y,z,d1,d2,_,_,ar⟩:=r.at2 ok hs1;obtain ⟨u,p1,p2,p3⟩:=qx ok.wf s1.f x y z;refine ⟨_,d1,_,d2,_,tJ,u,p1,?_⟩;have okA:=ok.trans p2;generalize u.app (g.push uy)=gA at *;obtain ⟨b2,o2,x',y',z',e1,e2,_,_,ar'⟩:=r'.at2 okA hs2;obtain ⟨u2,t1,t2,t3⟩:=qx p2.wf s2.f x' y' z';refine ⟨_,e1,_,e2,_,tJ,u2,t1,?_⟩;have okB:=okA.trans t2;have p3B:=p3.ok t2;generalize u2.app (gA.push uy)=gB at *;refine ⟨_,p3B.all,_,t3.all,(GV okB.wf (ar.ok okB) (ar'.ok okB) (hA _ (List.mem_of_getElem? hs1))).mono ?_⟩;rintro v h' ⟨rfl,o5⟩;have okE:=okB.trans o5;refine ⟨_,rfl,ae (fun q2=> ?_) (fun q2=> ?_)⟩
   ·have hne:s1≠s2:=fun e=>by rw [gb e] at q2; cases q2
    refine ⟨?_,okE⟩;rw [eM];intro e;rw [e,hs2] at hs1;exact hne (oI hs1).symm
   ·have hne:s1=s2:=Classical.byContradiction fun e=>by rw [eM e] at q2; cases q2
    rw [aG (n:=l.length) (by omega) (by omega)];refine cA (l.length - (i+1)) (by omega) ⟨by omega,rfl,okE,?_⟩;rw [take_add_one,take_add_one,hs1,hs2,hp,hne]
  ·have q:=dF q;rw [take_of_length_le (by omega),take_of_length_le (by omega)] at hp;exact ⟨by rw [gb hp],ok⟩
theorem lK {A B:Mach}(w:Wf h)(r:StRow h (.slice a n c) A.states)(r':StRow h (.slice b m d) B.states)(hl:A.states.length<=100000)(hA: ∀ s∈A.states,s.arcs.length<=100000):FW SS 30 [.agg ⟨aA A a n c⟩,.agg ⟨aA B b m d⟩] h (Ep h (IJ A B)):=by
 obtain ⟨mb0,ok0⟩:=dM w r;refine GW (aA A a n c) (aA B b m d) h _ ⟨_,fo A a n c,_,fo B b m d,?_⟩;generalize h.push (Bm A a n c)=g0 at *;obtain ⟨mc,ok1⟩:=dM ok0.wf (r'.ok ok0);have ma:=mb0.ok ok1;have ok:=ok0.trans ok1;generalize g0.push (Bm B b m d)=g1 at *;refine ⟨_,gH _,_,ma.l0,_,gH _,_,mc.l0,ae (fun q1=> ?_) (fun q1=> ?_)⟩
 ·have q1:A.kind=B.kind:=by simpa using q1
  refine ⟨_,fF _,_,ma.l1,_,fF _,_,mc.l1,ae (fun q2=> ?_) (fun q2=> ?_)⟩
  ·have q2:A.start=B.start:=by simpa using q2
   refine ⟨_,jM _,_,ma.l2,_,jM _,_,mc.l2,ae (fun q3=> ?_) (fun q3=> ?_)⟩
   ·have q3:A.lead=B.lead:=by simpa using q3
    refine ⟨_,bn _,_,_,_,ma.l3,_,bn _,_,_,_,mc.l3,(GU ok.wf ma.row mc.row hl hA).mono ?_⟩;rintro v h' ⟨rfl,o3⟩;refine ⟨_,rfl,?_,ok.trans o3⟩;congr 1;by_cases e:A.states=B.states
    ·rw [gb e,gb (CC q1 q2 q3 e)]
    ·rw [eM e,eM fun e'=>e (by rw [e'])]
   ·have q3:A.lead≠B.lead:=by simpa using q3
    exact ⟨by rw [eM fun e=>q3 (by rw [e])],ok⟩
  ·have q2:A.start≠B.start:=by simpa using q2
   exact ⟨by rw [eM fun e=>q2 (by rw [e])],ok⟩
 ·have q1:A.kind≠B.kind:=by simpa using q1
  exact ⟨by rw [eM fun e=>q1 (by rw [e])],ok⟩
end
end
noncomputable def LP:FD:=cD Tryz.f31 []
theorem JR  (h:Heap) (Q:VH) (hx:xN (aB SS.P 24) h fun B1 g2=>xA (aH SS.P 37 []) fun c3=>xA (aH SS.P 39 [(0,(.int .i64 2)),(1,(.int .i64 2)),(2,(aa [49])),(3,(.int .i64 2))]) fun c4=>xA (aH SS.P 39 [(0,(.int .i64 1)),(1,(.int .i64 1)),(2,(aa [48])),(3,(.int .i64 2))]) fun c5=>xA (aH SS.P 39 [(0,(.int .i64 1)),(1,(.int .i64 1)),(2,(aa [48])),(3,(.int .i64 0))]) fun c6=>xR (an SS.P 35 3 [(0,(.agg ⟨c4⟩)),(1,(.agg ⟨c5⟩)),(2,(.agg ⟨c6⟩))]) g2 fun B7 n8 c9 g10=>xA (aH SS.P 37 [(1,(sA (g2.next) n8 c9))]) fun c11=>xA (aH SS.P 37 [(0,(aa [51]))]) fun c12=>xR (an SS.P 22 3 [(0,(.agg ⟨c3⟩)),(1,(.agg ⟨c11⟩)),(2,(.agg ⟨c12⟩))]) g10 fun B13 n14 c15 g16=>xA (aH SS.P 24 [(0,(.int .i64 1)),(1,(.int .i64 1)),(2,(aa [50])),(3,(sA (g10.next) n14 c15))]) fun c17=>xU (ai SS.P 24 (pA (h.next)) (.agg ⟨c17⟩) g16) g16 fun u18 g19=>dG SS [((pA (h.next)),some 24)] g19 Q):FW SS 31 [] h Q:=cE LP Tryz.func31 (aj hx)
noncomputable def Mc:FD:=cD Tryz.f9 []
theorem JK  (h:Heap) (Q:VH) (hx:FW SS 31 [] h fun v1 h2=>yA v1 fun c3=>FW SS 23 [(.agg ⟨c3⟩)] h2 fun v4 h5=> ∃ cs6:LV,∃ n7:Int,v4=(.tuple ⟨[(.agg ⟨cs6⟩),(.int .i64 n7)]⟩)/\xN (aB SS.P 24) h5 fun B8 g9=>xU (ai SS.P 24 (pA (h5.next)) (.agg ⟨cs6⟩) g9) g9 fun u10 g11=>FW SS 27 [(.int .i64 3)] g11 fun v12 h13=> ∃ cs14:LV,∃ n15:Int,v12=(.tuple ⟨[(.agg ⟨cs14⟩),(.int .i64 n15)]⟩)/\xN (aB SS.P 24) h13 fun B16 g17=>xU (ai SS.P 24 (pA (h13.next)) (.agg ⟨cs14⟩) g17) g17 fun u18 g19=>xA (aH SS.P 39 [(0,(.int .i64 2)),(1,(.int .i64 2)),(2,(aa [49])),(3,(.int .i64 1))]) fun c20=>xA (aH SS.P 39 [(0,(.int .i64 1)),(1,(.int .i64 1)),(2,(aa [48])),(3,(.int .i64 1))]) fun c21=>xR (an SS.P 35 2 [(0,(.agg ⟨c20⟩)),(1,(.agg ⟨c21⟩))]) g19 fun B22 n23 c24 g25=>xA (aH SS.P 37 [(1,(sA (g19.next) n23 c24))]) fun c26=>xA (aH SS.P 37 [(0,(aa [51]))]) fun c27=>xR (an SS.P 22 2 [(0,(.agg ⟨c26⟩)),(1,(.agg ⟨c27⟩))]) g25 fun B28 n29 c30 g31=>xA (aH SS.P 24 [(0,(.int .i64 1)),(2,(aa [50])),(3,(sA (g25.next) n29 c30))]) fun c32=>xN (aB SS.P 24) g31 fun B33 g34=>xU (ai SS.P 24 (pA (g31.next)) (.agg ⟨c32⟩) g34) g34 fun u35 g36=>az (((n7:Int) == 0)) (az (((n15:Int) == 0)) (xA (ag SS.P 24 g36 (pA (h5.next))) fun c37=>xA (ag SS.P 24 g36 (pA (g31.next))) fun c38=>FW SS 29 [(.agg ⟨c37⟩),(.agg ⟨c38⟩)] g36 fun v39 h40=>yB v39 fun b41=>az b41 (xP (af SS.P 24 (pA (h13.next)) 2) fun p42=>xS (ag SS.P 9 h40 (.pointer (some p42))) fun l43=>az ((l43:LB) == [49]) (xP (af SS.P 24 (pA (h13.next)) 3) fun p44=>xL (ag SS.P 22 h40 (.pointer (some p44))) fun a45 n46 c47=>az ((((n46:Int):Int) == 1)) (xA (ag SS.P 24 h40 (pA (g31.next))) fun c48=>FW SS 10 [(.agg ⟨c48⟩)] h40 fun v49 h50=>yB v49 fun b51=>az b51 (xA (ag SS.P 24 h50 (pA (g31.next))) fun c52=>xA (ag SS.P 24 h50 (pA (g31.next))) fun c53=>FW SS 30 [(.agg ⟨c52⟩),(.agg ⟨c53⟩)] h50 fun v54 h55=>yB v54 fun b56=>az b56 (xA (ag SS.P 24 h55 (pA (g31.next))) fun c57=>FW SS 16 [(.agg ⟨c57⟩)] h55 fun v58 h59=>yB v58 fun b60=>az b60 (xA (ag SS.P 24 h59 (pA (g31.next))) fun c61=>FW SS 20 [(.agg ⟨c61⟩)] h59 fun v62 h63=>yI .i64 v62 fun n64=>Q (.bool (((n64:Int) == 2))) h63) (Q (.bool false) h59)) (Q (.bool false) h55)) (Q (.bool false) h50)) (Q (.bool false) h40)) (Q (.bool false) h40)) (Q (.bool false) h40)) (Q (.bool false) g36)) (Q (.bool false) g36)):FW SS 9 [] h Q:=cE Mc Tryz.func9 (aj hx)
def EX:Mach:=⟨1,1,[50],[⟨[],[]⟩,⟨[],[⟨2,2,[49],2⟩,⟨1,1,[48],2⟩,⟨1,1,[48],0⟩]⟩,⟨[51],[]⟩]⟩
def WN:Mach:=⟨1,0,[50],[⟨[],[⟨2,2,[49],1⟩,⟨1,1,[48],1⟩]⟩,⟨[51],[]⟩]⟩
theorem O2:aL EX=true:=by decide +kernel
theorem O6:aL WN=true:=by decide +kernel
theorem ON:E4 WN=true:=by decide +kernel
theorem OM:sP WN=2:=by decide +kernel
theorem Nz:Small EX:=⟨by decide +kernel,by decide +kernel,by decide +kernel,by decide +kernel,by decide +kernel,by decide +kernel⟩
theorem wnSm:Small WN:=⟨by decide +kernel,by decide +kernel,by decide +kernel,by decide +kernel,by decide +kernel,by decide +kernel⟩
theorem KW (x:Nat):bI EX x↔x=1\/x=2:=by
 have r1:Num.Rch (bF EX) (fun y=>y=EX.start.toNat) 1:= .base rfl;have e12:bF EX 1 2:=⟨_,rfl,by decide⟩
 have f2:jO EX 2:=⟨_,rfl,by decide⟩
 constructor
 ·rintro ⟨h1,h2⟩;have key: ∀ y,Num.Rch (fun y x=>bF EX x y) (jO EX) y->y=1\/y=2:=fun y hy=>by
   induction hy with
   | @base y hf=>
    obtain ⟨s,hs,hne⟩:=hf
    match y,hs with
    | 0,hs=>obtain rfl:=oI hs; exact absurd rfl hne
    | 1,hs=>exact .inl rfl
    | 2,hs=>exact .inr rfl
    | y+3,hs=>cases hs
   | @step y x _ e _=>
    obtain ⟨s,hs,hm⟩:=e
    match x,hs with
    | 0,hs=>obtain rfl:=oI hs; cases hm
    | 1,hs=>exact .inl rfl
    | 2,hs=>exact .inr rfl
    | x+3,hs=>cases hs
  exact key x h2
 ·rintro (rfl | rfl)
  ·exact ⟨r1,.step (.base f2) e12⟩
  ·exact ⟨.step r1 e12,.base f2⟩
theorem O3:od EX=[1,2]:=by
 rw [<-Df (M:=EX) (L:=[false,true,true]) (N:=3) rfl fun x hx=> ?_]
 ·rfl
 ·rw [KW]
  match x,hx with
  | 0,_=>simp
  | 1,_=>simp
  | 2,_=>simp
theorem wq:bt EX=(WN,0):=by
 rw [jj O2 ((KW _).2 (.inl rfl)),O3]; rfl
theorem C2 {hb g:Heap}{ps:List (MSt×Value)}{ka ks:Nat}{j:Nat}{arcs:List MArc}{f:List UInt8}(hk:g.get ks=some (.cells (ps.map dg).flatten 37 2 true))(h0:hb.next<=ks)(hl:ps.length < 100)(hj:ps[j]?=some (⟨f,arcs⟩,sA ka arcs.length arcs.length))(ho: ∀ (i:Nat) (p:MSt×Value),ps[i]?=some p->i≠j->p.2=nA/\p.1.arcs=[])(ka0:g.get ka=some (.cells (arcs.map aI).flatten 39 4 true))(h1:hb.next<=ka)(ne:ka≠ks)(hla:arcs.length < 100):OwnM hb g (sA ks ps.length ps.length) ps:=by
 have om:=OwnK.made (h0:=hb) hk rC h0 (by rw [lM]; exact Nat.lt_trans hl (by decide));rw [lM] at om;have oa:=OwnK.made (h0:=hb) ka0 GH h1 (by rw [lM]; exact Nat.lt_trans hla (by decide));rw [lM] at oa;have bl: ∀ (i:Nat)(p:MSt×Value),ps[i]?=some p-> ∀ k,aM p.2=some k->i=j/\k=ka:=fun i p hp k e=>by
  by_cases h:i=j
  ·subst h;rw [hj] at hp;obtain rfl:=oI hp;exact ⟨rfl,(oI e).symm⟩
  ·rw [(ho i p hp h).1] at e; cases e
 refine ⟨om,fun i p hp=> ?_,fun i p hp k e=> ?_,fun i i' p q hne hp hq k e e'=>hne ((bl i p hp k e).1.trans (bl i' q hq k e').1.symm)⟩
 ·by_cases h:i=j
  ·subst h;rw [hj] at hp;obtain rfl:=oI hp;exact oa
  ·obtain ⟨h2,h3⟩:=ho i p hp h;rw [h2,h3];exact OwnK.nil ..
 ·obtain ⟨_,rfl⟩:=bl i p hp k e;intro e2;exact ne (oI e2).symm
theorem ib {h g:Heap}{M:Mach}{a:Option Addr}{n c:Nat}{ps:List (MSt×Value)}(hps:ps.map (·.1)=M.states)(om:OwnM h g (.slice a n c) ps)(ok:Ok h g):
  ∃ u:Upd,ai SS.P 24 (pA g.next) (.agg ⟨aA M a n c⟩) (g.push dH)=some (undef,u)/\Ok g (u.app (g.push dH))/\MB (u.app (g.push dH)) g.next M a n c/\OwnM h (u.app (g.push dH)) (.slice a n c) ps:=by
 have o1:=(Ok.refl ok.wf).push dH;have k1:=aq g dH;have pa:=cC (t:=24) fg (cs0:=[.int .i64 0,.int .i64 0,aa [],.slice none 0 0]) rfl k1 (cs:=aA M a n c) rfl (dQ ..);obtain ⟨o2,k2⟩:=dL (cs:=aA M a n c) ok.wf o1 k1 (le_refl _);refine ⟨_,pa,o2,⟨k2,?_⟩,om.ok o2⟩;have:=(om.ok o2).st;rwa [hps] at this
theorem LK:aH SS.P 37 []=some (.agg ⟨[aa [],nA]⟩):=by kernel_rfl
theorem z6 (q:MArc):aH SS.P 39 [(0,(.int .i64 q.i)),(1,(.int .i64 q.o)),(2,(aa q.w)),(3,(.int .i64 q.t))]=some (.agg ⟨aI q⟩):=by kernel_rfl
theorem HH (k n c:Nat):aH SS.P 37 [(1,(sA k n c))]=some (.agg ⟨[aa [],sA k n c]⟩):=by kernel_rfl
def eA:List MArc:=[⟨2,2,[49],2⟩,⟨1,1,[48],2⟩,⟨1,1,[48],0⟩]
def eP (k:Nat):List (MSt×Value):=[(⟨[],[]⟩,nA),(⟨[],eA⟩,sA k 3 3),(⟨[51],[]⟩,nA)]
theorem O5:an SS.P 35 3 [(0,(.agg ⟨aI ⟨2,2,[49],2⟩⟩)),(1,(.agg ⟨aI ⟨1,1,[48],2⟩⟩)),(2,(.agg ⟨aI ⟨1,1,[48],0⟩⟩))]=some (.cells (eA.map aI).flatten 39 4 true,gm 3 3):=by kernel_rfl
theorem O0 (k:Nat):an SS.P 22 3 [(0,(.agg ⟨[aa [],nA]⟩)),(1,(.agg ⟨[aa [],sA k 3 3]⟩)),(2,(.agg ⟨[aa [51],nA]⟩))]=some (.cells ((eP k).map dg).flatten 37 2 true,gm 3 3):=by kernel_rfl
theorem HG:aH SS.P 37 [(0,(aa [51]))]=some (.agg ⟨[aa [51],nA]⟩):=by kernel_rfl
theorem J8 {h:Heap}(w:Wf h):FW SS 31 [] h (IB h EX):=by
 refine JR h _ ⟨_,kC,_,LK,_,z6 ⟨2,2,[49],2⟩,_,z6 ⟨1,1,[48],2⟩,_,z6 ⟨1,1,[48],0⟩,_,_,_,O5,?_⟩;have o1:=(Ok.refl w).push dH;have k1:=aq h dH;have hn1:(h.push dH).next=h.next+1:=rfl;generalize h.push dH=g1 at *;have o2:=(Ok.refl o1.wf).push (.cells (eA.map aI).flatten 39 4 true);have k2:=aq g1 (.cells (eA.map aI).flatten 39 4 true);have hn2:(g1.push (.cells (eA.map aI).flatten 39 4 true)).next=g1.next+1:=rfl;refine ⟨_,HH g1.next 3 3,_,HG,_,_,_,O0 g1.next,?_⟩;generalize g1.push (.cells (eA.map aI).flatten 39 4 true)=g2 at *;have o3:=(Ok.refl o2.wf).push (.cells ((eP g1.next).map dg).flatten 37 2 true);have k3:=aq g2 (.cells ((eP g1.next).map dg).flatten 37 2 true);have k13:=o3.ext _ _ (o2.ext _ _ k1);have k23:=o3.ext _ _ k2;have ok:=(o1.trans o2).trans o3;generalize g2.push (.cells ((eP g1.next).map dg).flatten 37 2 true)=g3 at *;have om:OwnM h g3 (sA g2.next 3 3) (eP g1.next):=C2 (ps:=eP g1.next) (j:=1) k3 (by omega) (show 3 < 100 by decide) rfl (fun i p hp hne=>by
  match i,hp with
  | 0,hp=>obtain rfl:=oI hp; exact ⟨rfl,rfl⟩
  | 1,_=>exact absurd rfl hne
  | 2,hp=>obtain rfl:=oI hp; exact ⟨rfl,rfl⟩
  | i+3,hp=>cases hp) k23 (by omega) (by omega) (show 3 < 100 by decide)
 have pa:=cC (t:=24) fg (cs0:=[.int .i64 0,.int .i64 0,aa [],.slice none 0 0]) rfl k13 (cs:=aA EX (some ⟨g2.next,0,none⟩) 3 3) rfl (dQ ..);obtain ⟨o4,k4⟩:=dL (cs:=aA EX (some ⟨g2.next,0,none⟩) 3 3) w ok k13 (le_refl _);refine ⟨_,KQ 1 1 [50] _ _ _,_,pa,oX (v:= .agg ⟨aA EX (some ⟨g2.next,0,none⟩) 3 3⟩) (ft wx wB fg k4 (by simp [aA])) ⟨_,_,_,eP g1.next,rfl,rfl,?_,o4⟩⟩;have ge:=om.row;exact ⟨om.row.keep fun j B hj hB=>(by
  obtain rfl:=oI hj;show (g3.set h.next _).get _=_;rw [Heap.get_set,if_neg (show ¬ g2.next=h.next by omega)]; exact hB),fun i p hp=>(om.arcs i p hp).keep fun j B hj hB=>(by
  show (g3.set h.next _).get _=_;rw [Heap.get_set,if_neg (fun e=> ?_)]
  ·exact hB
  ·match i,hp with
   | 0,hp=>obtain rfl:=oI hp; cases hj
   | 1,hp=>
    obtain rfl:=oI hp;have e2:g1.next=j:=oI hj;omega
   | 2,hp=>obtain rfl:=oI hp; cases hj
   | i+3,hp=>cases hp),om.ne,om.dis⟩
def wA:List MArc:=[⟨2,2,[49],1⟩,⟨1,1,[48],1⟩]
def wP (k:Nat):List (MSt×Value):=[(⟨[],wA⟩,sA k 2 2),(⟨[51],[]⟩,nA)]
theorem NT:an SS.P 35 2 [(0,(.agg ⟨aI ⟨2,2,[49],1⟩⟩)),(1,(.agg ⟨aI ⟨1,1,[48],1⟩⟩))]=some (.cells (wA.map aI).flatten 39 4 true,gm 2 2):=by kernel_rfl
theorem Ny (k:Nat):an SS.P 22 2 [(0,(.agg ⟨[aa [],sA k 2 2]⟩)),(1,(.agg ⟨[aa [51],nA]⟩))]=some (.cells ((wP k).map dg).flatten 37 2 true,gm 2 2):=by kernel_rfl
theorem zd {h:Heap}(tb:Tab h)(w:Wf h):FW SS 9 [] h (fun v h'=>v = .bool true/\Ok h h'):=by
 refine JK h _ ((J8 w).mono ?_);rintro _ g1 ⟨a,n,c,ps,rfl,hps,om,o1⟩;have st1:=om.st;rw [hps] at st1;refine ⟨_,rfl,(nR (tb.ok o1) o1.wf Nz st1).mono ?_⟩;rw [wq];rintro _ g2 ⟨a2,n2,c2,ps2,rfl,e2,om2,o2⟩;obtain ⟨u1,s1,p1,b1,om1⟩:=ib e2 om2 o2;refine ⟨_,_,rfl,_,kC,u1,s1,?_⟩;have ok3:=(o1.trans o2).trans p1;generalize hg3:u1.app (g2.push dH)=g3 at *;generalize hk3:g2.next=k3 at *;refine (kL 3 ok3.wf).mono ?_;rintro _ g4 ⟨a4,n4,c4,ps4,rfl,e4,om4,o4⟩;obtain ⟨u2,s2,p2,b2,om42⟩:=ib e4 om4 o4;refine ⟨_,_,rfl,_,kC,u2,s2,_,z6 ⟨2,2,[49],1⟩,_,z6 ⟨1,1,[48],1⟩,_,_,_,NT,_,HH _ 2 2,_,HG,_,_,_,Ny _,_,GJ 1 [50] _ _ _,_,kC,?_⟩;have ok5:=(ok3.trans o4).trans p2;have x5:=o4.trans p2;have b15:=b1.ok x5;have om15:=om1.ok x5;generalize u2.app (g4.push dH)=g5 at *;have o6:=(Ok.refl ok5.wf).push (.cells (wA.map aI).flatten 39 4 true);have k6:=aq g5 (.cells (wA.map aI).flatten 39 4 true);have hn6:(g5.push (.cells (wA.map aI).flatten 39 4 true)).next=g5.next+1:=rfl;generalize g5.push (.cells (wA.map aI).flatten 39 4 true)=g6 at *;have o7:=(Ok.refl o6.wf).push (.cells ((wP g5.next).map dg).flatten 37 2 true);have k7:=aq g6 (.cells ((wP g5.next).map dg).flatten 37 2 true);have k67:=o7.ext _ _ k6;have ok7:=o6.trans o7;generalize g6.push (.cells ((wP g5.next).map dg).flatten 37 2 true)=g7 at *;have om3:OwnM g5 g7 (sA g6.next 2 2) (wP g5.next):=C2 (ps:=wP g5.next) (j:=0) k7 (by omega) (show 2 < 100 by decide) rfl (fun i p hp hne=>by
  match i,hp with
  | 0,_=>exact absurd rfl hne
  | 1,hp=>obtain rfl:=oI hp; exact ⟨rfl,rfl⟩
  | i+2,hp=>cases hp) k67 (le_refl _) (by omega) (show 2 < 100 by decide)
 obtain ⟨u3,s3,p3,b3,om33⟩:=ib (M:=WN) (ps:=wP g5.next) rfl om3 ok7;refine ⟨u3,s3,?_⟩;have x8:=ok7.trans p3;have ok8:=ok5.trans x8;have b18:=b15.ok x8;have b28:=b2.ok x8;generalize u3.app (g7.push dH)=g8 at *;refine ae (fun _=> ?_) (fun q=>by cases q);refine ae (fun _=> ?_) (fun q=>by cases q);have wz: ∀ s∈WN.states,s.arcs.length<=100000:=fun s hs=>le_trans (wnSm.arcs s hs) (by decide);refine ⟨_,b18.all,_,b3.all,(GA (A:=WN) (B:=WN) ok8.wf (by decide) wz b18.row om33 rfl).mono ?_⟩;rintro _ g9 ⟨rfl,o9⟩;rw [gb rfl];refine ⟨_,rfl,ae (fun _=> ?_) (fun q=>by cases q)⟩;have ok9:=ok8.trans o9;have b29:=b28.ok o9;have b39:=b3.ok o9;refine ⟨_,jM _,_,b29.l2,ae (fun _=> ?_) (fun q=>by cases q)⟩;have hn4:n4=1:=b29.len;refine ⟨_,bn _,_,_,_,b29.l3,ae (fun _=> ?_) (fun q=>by rw [hn4] at q; cases q)⟩;refine ⟨_,b39.all,(fc (tb.ok ok9) ok9.wf wnSm b39.row).mono ?_⟩;rw [O6];rintro _ g10 ⟨rfl,o10⟩;have ok10:=ok9.trans o10;have b310:=b39.ok o10;refine ⟨_,rfl,ae (fun _=> ?_) (fun q=>by cases q)⟩;refine ⟨_,b310.all,_,b310.all,(lK (A:=WN) (B:=WN) ok10.wf b310.row b310.row (by decide) wz).mono ?_⟩;rw [gb rfl];rintro _ g11 ⟨rfl,o11⟩;have ok11:=ok10.trans o11;have b311:=b310.ok o11;refine ⟨_,rfl,ae (fun _=> ?_) (fun q=>by cases q)⟩;refine ⟨_,b311.all,(Ju (tb.ok ok11) ok11.wf wnSm b311.row).mono ?_⟩;rw [ON];rintro _ g12 ⟨rfl,o12⟩;have ok12:=ok11.trans o12;have b312:=b311.ok o12;refine ⟨_,rfl,ae (fun _=> ?_) (fun q=>by cases q)⟩;refine ⟨_,b312.all,(Ei (tb.ok ok12) ok12.wf wnSm b312.row).mono ?_⟩;rw [OM];rintro _ g13 ⟨rfl,o13⟩;exact ⟨_,rfl,rfl,ok12.trans o13⟩
end Go.Proofs.YtoabjjimjldcfaaGreatDoor
end
section
namespace Go.Ab
open Go Go.RowKit
section
variable {β:Inj} {P:Program} {h:Heap} {w:World}
theorem wn {α:Type}{sz:Nat}: ∀ {rs:List (List α)},(∀ r∈rs,r.length=sz)-> ∀ {i:Nat}{r:List α},rs[i]?=some r-> ∀ {j:Nat},j < sz->rs.flatten[i*sz+j]?=r[j]?
 | [],_,i,r,hi,_,_=>by simp at hi
 | x::rs,hl,0,r,hi,j,hj=>by
  have hx:=hl x (mem_cons_self ..);simp only [List.getElem?_cons_zero,Option.some.injEq] at hi;subst hi;rw [flatten_cons,Nat.zero_mul,zero_add,List.getElem?_append_left (by omega)]
 | x::rs,hl,i+1,r,hi,j,hj=>by
  have hx:=hl x (mem_cons_self ..);rw [List.getElem?_cons_succ] at hi;have ih:=wn (fun r hr=>hl r (mem_cons_of_mem _ hr)) hi hj;rw [flatten_cons,List.getElem?_append_right (by rw [add_mul]; omega),hx,<-ih];congr 1;rw [add_mul]; omega
theorem sd {α:Type}{sz:Nat}: ∀ {rs:List (List α)},(∀ r∈rs,r.length=sz)->rs.flatten.length=rs.length*sz
 | [],_=>by simp
 | x::rs,hl=>by
  have hx:=hl x (mem_cons_self ..);rw [flatten_cons,length_append,sd fun r hr=>hl r (mem_cons_of_mem _ hr),hx,length_cons,add_mul]; omega
theorem HQ {α:Type}{sz:Nat}{rs:List (List α)}(hl: ∀ r∈rs,r.length=sz){i:Nat}{r:List α}(hi:rs[i]?=some r):(rs.flatten.drop (i*sz)).take sz=r:=by
 have hr:=hl r (List.mem_of_getElem? hi);refine List.ext_getElem? fun j=> ?_;rw [getElem?_take];split
 ·next hj=>rw [List.getElem?_drop]; exact wn hl hi hj
 ·next hj=>rw [getElem?_eq_none (by omega)]
structure Ini (β:Inj)(h:Heap)(w:World):Prop where
 sim:Sim β h w
 ro: ∀ k B,h.get k=some B->B.wr=false
theorem NK (n:Nat)(w:World):Ini β0 ⟨n,.nil⟩ w:=⟨wJ n w,fun k B h=>by rw [Heap.get_nil] at h; cases h⟩
theorem Ini.wf (i:Ini β h w):Wf h:=i.sim.wf
theorem Ini.below (i:Ini β h w){β':Inj}{h':Heap}{w':World}(s:Step β h w β' h' w'):Below w.heap.size w w':=
 ⟨s.os,s.tape.1,s.output,s.size,fun k hk=>s.kept k hk fun ⟨k,B,sl,h1,h2,_⟩=>by rw [i.ro k B h1] at h2; cases h2⟩
abbrev wp (b n:Nat)(t:TypeId):Slot:=⟨b,0,n,t,0,false⟩
theorem Ini.fresh (i:Ini β h w):β h.next=none:=i.sim.none_of_ge (le_refl _)
theorem Ini.le (i:Ini β h w)(sl:Slot):β.le (β.ext h.next sl):=Inj.le_ext sl i.fresh
theorem Ini.push (i:Ini β h w){cs:List Value}{t:TypeId}{cs':Array Value}{fr:Nat×Nat}{b:Nat}(hb:w.heap[b]?=some (.cells cs' t fr))(hc:CellsAt β cs 0 cs'):
  Ini (β.ext h.next (wp b cs'.size t)) (h.push (.cells cs t 0 false)) w:=by
 have hle:=i.le (wp b cs'.size t);have hlt:b < w.heap.size:=(Array.getElem?_eq_some_iff.1 hb).1;have hro: ∀ k B,(h.push (.cells cs t 0 false)).get k=some B->B.wr=false:=fun k B hk=>by
  rw [Heap.get_push] at hk;split at hk
  ·obtain rfl:=oI hk; rfl
  ·exact i.ro k B hk
 refine ⟨⟨fun k sl hk=> ?_,fun k B sl h1 h2=> ?_,fun k k' B B' sl sl' _ h1 _ _ _ hw=> ?_,Heap.wf_push i.sim.wf _⟩,hro⟩
 ·by_cases e:k=h.next
  ·subst e;rw [Inj.ext_same] at hk;obtain rfl:=oI hk;exact ⟨by simp,hlt⟩
  ·rw [Inj.ext_ne _ _ e] at hk;have:=i.sim.lt k sl hk;exact ⟨by simp; omega,this.2⟩
 ·rw [Heap.get_push] at h1;split at h1
  ·next e=>
   subst e;rw [Inj.ext_same] at h2;obtain rfl:=oI h2;obtain rfl:=oI h1;exact ⟨rfl,rfl,⟨rfl,fun _=>rfl⟩,cs',fr,hb,rfl,hc.mono hle,fun hw=>by cases hw⟩
  ·next e=>
   rw [Inj.ext_ne _ _ e] at h2;exact (i.sim.blk k B sl h1 h2).mono hle
 ·rw [hro k B h1] at hw; cases hw
theorem yW (ht:TextOk P){pr:FuncId->Option mH}{gl:Nat->Bool}(hl:jV P gl pr){f:FuncId}{fn:Func}{args:List Value}{Q:Value->Heap->Prop}(hfw:FW ⟨P,gl,pr⟩ f args h Q)(hY:f < YB)(hf:P.funcs[f]?=some fn)(hb:fn.body.isSome=true)
  {args':Array Value} (i:Ini β h w) (hg:Gl gl β) (ha:LRel β args args'.toList):
  Calls P f args' w fun e w'=> ∃ v v' h' β',e = .returned v'/\Q v h'/\VRel β' v v'/\Step β h w β' h' w'/\Below w.heap.size w w':=by
 obtain ⟨v,h',⟨n,hr⟩,hq⟩:=hfw;obtain ⟨fn',hfn,hc⟩:=(ht.runP hl n).fn f args h v h' hY (hr n (le_refl _)) β w args' i.sim hg ha;rw [hf] at hfn;obtain rfl:=oI hfn;rcases hc with ⟨_,hc⟩ | ⟨v',w',β',h1,_,_⟩
 ·refine hc.mono ?_;rintro e w' ⟨v',β',rfl,h2,h3⟩;exact ⟨v,v',h',β',rfl,hq,h3,h2,i.below h2⟩
 ·rw [cR ht.names hf hb] at h1
  cases h1
theorem xe (ht:TextOk P){f:FuncId}{fn:Func}{args:List Value}{Q:Value->Heap->Prop}(hfw:FW ⟨P,wK,fun _=>none⟩ f args ⟨0,.nil⟩ Q)(hY:f < YB)(hf:P.funcs[f]?=some fn)(hb:fn.body.isSome=true){args':Array Value}(ha:LRel β0 args args'.toList)(w:World):
  Calls P f args' w fun e w'=> ∃ v v' h' β',e = .returned v'/\Q v h'/\VRel β' v v'/\Below w.heap.size w w'/\w.drawn<=w'.drawn:=by
 obtain ⟨v,h',⟨n,hr⟩,hq⟩:=hfw;obtain ⟨fn',hfn,hc⟩:=(ht.runP (gl:=wK) (pr:=fun _=>none) (fun _ _ h=>by cases h) n).fn f args _ v h' hY (hr n (le_refl _)) β0 w args' (wJ 0 w) gl_nil ha;rw [hf] at hfn;obtain rfl:=oI hfn;rcases hc with ⟨_,hc⟩ | ⟨v',w',β',h1,_,_⟩
 ·refine hc.mono ?_;rintro e w' ⟨v',β',rfl,h2,h3⟩;exact ⟨v,v',h',β',rfl,hq,h3,mN h2,h2.tape.2⟩
 ·rw [cR ht.names hf hb] at h1
  cases h1
def uF (w:World)(v:Value)(sz:Nat)(rs:List (List Value)):Prop:=
 (∀ r∈rs,r.length=sz)/\((v = .slice none 0 0/\rs=[])\/(∃ a,v = .slice (some a) 0 0/\rs=[])\/
  ∃ b off cap cs t fr,v = .slice (some ⟨b,off,none⟩) rs.length cap/\rs.length<=cap/\cap < bp/\w.heap[b]?=some (.cells cs t fr)/\off<=cs.size/\
   ∀ (i:Nat)(r:List Value),rs[i]?=some r-> ∀ j,j < sz->cs[off+(i*sz+j)]?=r[j]?)
theorem Ini.row_at (i:Ini β h w){sz:Nat}{e:TypeId}{rs rs':List (List Value)}{b off cap:Nat}{cs:Array Value}{t:TypeId}{fr:Nat×Nat}(hsz: ∀ r∈rs',r.length=sz)(hlen:rs.length=rs'.length)
  (hrel: ∀ (k:Nat) r r',rs[k]?=some r->rs'[k]?=some r'->LRel β r r') (h2:rs'.length<=cap) (h3:cap < bp) (hb:w.heap[b]?=some (.cells cs t fr)) (ho:off<=cs.size)
  (hc: ∀ (i:Nat)(r:List Value),rs'[i]?=some r-> ∀ j,j < sz->cs[off+(i*sz+j)]?=r[j]?):
  ∃ β' h',Ini β' h' w/\β.le β'/\Ok h h'/\VRel β' (.slice (some ⟨h.next,off,none⟩) rs.length cap) (.slice (some ⟨b,off,none⟩) rs'.length cap)/\RdN h' e sz (.slice (some ⟨h.next,off,none⟩) rs.length cap) rs:=by
 have hsz': ∀ r∈rs,r.length=sz:=fun r hr=>by
  obtain ⟨k,hk,rfl⟩:=List.getElem_of_mem hr;have h1:rs'[k]?=some rs'[k]:=gE (by omega);rw [(hrel k _ _ (gE hk) h1).1];exact hsz _ (List.mem_of_getElem? h1)
 have hcells:CellsAt β (List.replicate off junk++rs.flatten) 0 cs:=fun k v hv=>by
  rw [zero_add];rw [List.getElem?_append] at hv;split at hv
  ·next hk=>
   rw [length_replicate] at hk;rw [getElem?_replicate,if_pos hk] at hv;obtain rfl:=oI hv;exact ⟨_,Array.getElem?_eq_getElem (by omega),.junk _⟩
  ·next hk=>
   rw [length_replicate] at hk hv;have hlt:=(List.getElem?_eq_some_iff.1 hv).1;rw [sd hsz'] at hlt;rcases eq_zero_or_pos sz with hz | hz
   ·subst hz; simp at hlt
   have e1:k - off=(k - off) / sz*sz+(k - off) % sz:=by rw [Nat.mul_comm]; exact (Nat.div_add_mod _ _).symm
   have hj:=Nat.mod_lt (k - off) hz;have hi:(k - off) / sz < rs.length:=Nat.div_lt_of_lt_mul (by rw [Nat.mul_comm]; exact hlt);have g1:rs[(k - off) / sz]?=some rs[(k - off) / sz]:=gE hi;have g2:rs'[(k - off) / sz]?=some rs'[(k - off) / sz]:=gE (by omega);rw [e1,wn hsz' g1 hj] at hv;have hr:=hrel _ _ _ g1 g2;have hl':=hsz _ (List.mem_of_getElem? g2);have g3:rs'[(k - off) / sz][(k - off) % sz]?=some rs'[(k - off) / sz][(k - off) % sz]:=gE (by omega);refine ⟨_,?_,hr.2 _ _ _ hv g3⟩;rw [<-g3,<-hc _ _ g2 _ hj,<-e1];congr 1;omega
 refine ⟨_,_,i.push hb hcells,i.le _,(Ok.refl i.wf).push _,?_,hsz',.inr ⟨h.next,off,_,t,0,cap,false,rfl,Heap.get_push_same _ _,?_,fun k r hk=> ?_⟩⟩
 ·have:=VRel.slice (β:=β.ext h.next (wp b cs.size t)) (i:=off) (n:=rs.length) (c:=cap) (i':=off) (c':=cap) (Inj.ext_same _ _ _) rfl (fun _=>rfl) (fun h=>by omega) (by unfold aK; split <;> omega) (.inl (by simp)) (.inl rfl);rw [<-hlen];exact this
 ·rw [length_append,length_replicate,sd hsz']; omega
 ·rw [drop_append,length_replicate,drop_eq_nil_of_le (by simp),nil_append,Nat.add_sub_cancel_left];exact HQ hsz' hk
theorem Ini.row (i:Ini β h w){sz:Nat}{e:TypeId}{v':Value}{rs rs':List (List Value)}(r:uF w v' sz rs')(hlen:rs.length=rs'.length)(hrel: ∀ (k:Nat) r r',rs[k]?=some r->rs'[k]?=some r'->LRel β r r'):
  ∃ β' h' v,Ini β' h' w/\β.le β'/\Ok h h'/\VRel β' v v'/\RdN h' e sz v rs:=by
 obtain ⟨hsz,⟨rfl,rfl⟩ | ⟨a,rfl,rfl⟩ | ⟨b,off,cap,cs,t,fr,rfl,h2,h3,hb,ho,hc⟩⟩:=r
 ·obtain rfl:rs=[]:=eq_nil_of_length_eq_zero hlen;exact ⟨β,h,_,i,β.le_refl,Ok.refl i.wf,.nilSlice,⟨fun _ hm=>absurd hm (by simp),.inl ⟨.inl rfl,rfl⟩⟩⟩
 ·obtain rfl:rs=[]:=eq_nil_of_length_eq_zero hlen;exact ⟨β,h,lf,i,β.le_refl,Ok.refl i.wf,.dead a,⟨fun _ hm=>absurd hm (by simp),.inl ⟨.inr rfl,rfl⟩⟩⟩
 ·obtain ⟨β',h',h4,h5,h6,h7,h8⟩:=i.row_at (e:=e) hsz hlen hrel h2 h3 hb ho hc;exact ⟨β',h',_,h4,h5,h6,h7,h8⟩
theorem Ini.row_live (i:Ini β h w){sz:Nat}{e:TypeId}{v':Value}{rs rs':List (List Value)}(r:uF w v' sz rs')(hlen:rs.length=rs'.length)(hrel: ∀ (k:Nat) r r',rs[k]?=some r->rs'[k]?=some r'->LRel β r r')
  (hd: ∀ a,v' = .slice (some a) 0 0->a.spot=none/\ ∃ cs t fr,w.heap[a.block]?=some (.cells cs t fr)):
  ∃ β' h' v,Ini β' h' w/\β.le β'/\Ok h h'/\VRel β' v v'/\RdN h' e sz v rs/\v≠lf:=by
 obtain ⟨hsz,⟨rfl,rfl⟩ | ⟨a,rfl,rfl⟩ | ⟨b,off,cap,cs,t,fr,rfl,h2,h3,hb,ho,hc⟩⟩:=r
 ·obtain rfl:rs=[]:=eq_nil_of_length_eq_zero hlen;exact ⟨β,h,_,i,β.le_refl,Ok.refl i.wf,.nilSlice,⟨fun _ hm=>absurd hm (by simp),.inl ⟨.inl rfl,rfl⟩⟩,fun e=>by cases e⟩
 ·obtain rfl:rs=[]:=eq_nil_of_length_eq_zero hlen;obtain ⟨hs,cs,t,fr,hb⟩:=hd a rfl;obtain ⟨b,off,spot⟩:=a
  cases (show spot=none from hs)
  have i':=i.push (cs:=[]) hb (fun k v hv=>by simp at hv);refine ⟨_,_,.slice (some ⟨h.next,0,none⟩) 0 0,i',i.le _,(Ok.refl i.wf).push _,?_,⟨fun _ hm=>absurd hm (by simp),.inr ⟨h.next,0,_,t,0,0,false,rfl,Heap.get_push_same _ _,by simp,fun k r hk=>by simp at hk⟩⟩,fun e=>by simp [lf] at e⟩;exact VRel.slice (sl:=wp b cs.size t) (Inj.ext_same _ _ _) rfl (fun _=>rfl) (fun h=>by unfold bp at h; omega) (by unfold aK; split <;> omega) (.inr ⟨rfl,rfl⟩) (.inl rfl)
 ·obtain ⟨β',h',h4,h5,h6,h7,h8⟩:=i.row_at (e:=e) hsz hlen hrel h2 h3 hb ho hc;exact ⟨β',h',_,h4,h5,h6,h7,h8,fun e=>by simp [lf] at e⟩
section
variable {H:Type} {enc:TypeId×Value->H} {held:Bool}
theorem H3 {a:Addr}{v:Value}(hv:w.cell? a=some v):a.spot=none/\ ∃ cs t fr,w.heap[a.block]?=some (.cells cs t fr)/\cs[a.off]?=some v:=by
 unfold World.cell? at hv;split at hv
 ·next c t fr hb=>
  split at hv
  ·cases hv
  ·next hs=>exact ⟨by simpa using hs,c,t,fr,hb,hv⟩
 ·cases hv
theorem pick {α:Type}{p:Nat->α->Prop}: ∀ n,(∀ i,i < n-> ∃ q,p i q)-> ∃ l:List α,l.length=n/\ ∀ i q,l[i]?=some q->p i q
 | 0,_=>⟨[],rfl,fun i q hi=>by simp at hi⟩
 | n+1,hp=>by
  obtain ⟨l,hl,hq⟩:=pick n fun i hi=>hp i (by omega);obtain ⟨q,hq'⟩:=hp n (by omega);refine ⟨l++[q],by simp [hl],fun i x hi=> ?_⟩;rw [List.getElem?_append] at hi;split at hi
  ·exact hq i x hi
  ·next hn=>
   have:i=n:=by
    have:=(List.getElem?_eq_some_iff.1 hi).1;simp at this; omega
   subst this;simp [hl] at hi;rw [<-hi]; exact hq'
theorem lF {e:TypeId}{d:DataW H}{n:Nat}: ∀ {l:List (DataW H)},d∈l->n∈d.weights P e->n∈DataW.weightsAll P e l
 | [],h,_=>by cases h
 | x::l,h,hn=>by
  rw [DataW.weightsAll,mem_append];rcases mem_cons.1 h with rfl | h
  ·exact .inl hn
  ·exact .inr (lF h hn)
theorem vk {t e:TypeId}{sz:Nat}(ht:P.underlying t=some (.slice e))(hsz:P.cellsOf e=sz)(hpos:0 < sz){p:List Value->Prop}
  (hp: ∀ n cs y,DataW.trod enc P w 0 (fun _=>true) held n e cs=some y->(y.1.weights P e).all (· <=reachBytes)=true->p cs) {fuel:Nat} {cv:List Value} {x:DataW H×List MemPlace}
  (h:DataW.trod enc P w 0 (fun _=>true) held fuel t cv=some x) (hw:(x.1.weights P t).all (· <=reachBytes)=true):
  ∃ v rs,cv=[v]/\uF w v sz rs/\(∀ r∈rs,p r)/\rs.length*P.bytesOf e<=reachBytes:=by
 rcases DataW.trod_slice ht h with ⟨rfl,rfl⟩ | ⟨a,len,cap,elems,rest,n,_,rfl,rfl,hb,hlc,hcm,hel,hE,hR,_⟩
 ·exact ⟨_,[],rfl,⟨fun _ hm=>absurd hm (by simp),.inl ⟨rfl,rfl⟩⟩,fun _ hm=>absurd hm (by simp),by simp⟩
 obtain ⟨hrl,hR⟩:=hR rfl;simp only [DataW.weights,ht,List.all_cons,and_eq_true,decide_eq_true_eq,all_append,lM] at hw;obtain ⟨hw1,hw2,hw3⟩:=hw;have hcap:cap < bp:=by unfold maxLen at hcm; unfold bp; omega
 have key: ∀ i,i < len-> ∃ r:List Value,(r.length=sz/\p r)/\ ∀ j,j < sz->w.cell? (a.add (i*sz+j))=r[j]?:=fun i hi=>by
  have h1:=hE i hi;have h2:elems[i]?=some elems[i]:=gE (by omega);rw [h2,hsz,Option.bind_eq_some_iff] at h1;obtain ⟨r,h3,h4⟩:=h1;obtain ⟨_,h5,h6⟩:=World.cells?_some h3;refine ⟨r,⟨h5,hp n r _ h4 ?_⟩,fun j hj=> ?_⟩
  ·rw [all_eq_true] at hw2 ⊢;exact fun m hm=>hw2 m (lF (mem_map.2 ⟨elems[i],List.mem_of_getElem? h2,rfl⟩) hm)
  ·rw [<-h6 j hj,Addr.add_add]
 obtain ⟨rs,hrs,hq⟩:=pick len key;have hq': ∀ r∈rs,r.length=sz/\p r:=fun r hr=>by
  obtain ⟨k,hk⟩:=List.mem_iff_getElem?.1 hr;exact (hq k r hk).1
 refine ⟨_,rs,rfl,⟨fun r hr=>(hq' r hr).1,?_⟩,fun r hr=>(hq' r hr).2,?_⟩
 ·rcases eq_zero_or_pos cap with hz | hz
  ·obtain rfl:rs=[]:=eq_nil_of_length_eq_zero (by omega);have:len=0:=by omega
   subst this; subst hz;exact .inr (.inl ⟨a,rfl,rfl⟩)
  ·have h0: ∃ v,w.cell? a=some v:=by
    have add0:a.add (0*sz)=a:=by rw [Nat.zero_mul]; unfold Addr.add; split <;> simp_all
    have fin: ∀ x,(w.cells? 0 (a.add (0*sz)) sz).bind (DataW.trod enc P w 0 (fun _=>true) held n e)=some x-> ∃ v,w.cell? a=some v:=fun x hx=>by
     rw [Option.bind_eq_some_iff,add0] at hx;obtain ⟨r,h3,h4⟩:=hx;obtain ⟨_,h5,h6⟩:=World.cells?_some h3;have:=h6 0 hpos;rw [show a.add 0=a by unfold Addr.add; split <;> simp_all,gE (by omega)] at this;exact ⟨_,this⟩
    rcases eq_zero_or_pos len with hl | hl
    ·have:=hR 0 (by omega);rw [hl,hsz,gE (by omega)] at this;exact fin _ this
    ·have:=hE 0 hl;rw [hsz,gE (by omega)] at this;exact fin _ this
   obtain ⟨v0,hv0⟩:=h0;obtain ⟨hs,cs,tt,fr,hbk,hoff⟩:=H3 hv0;obtain ⟨b,off,spot⟩:=a
   cases (show spot=none from hs)
   have ho:=(Array.getElem?_eq_some_iff.1 hoff).1;refine .inr (.inr ⟨b,off,cap,cs,tt,fr,by rw [hrs],by omega,hcap,hbk,Nat.le_of_lt ho,fun i r hi j hj=> ?_⟩);have:=(hq i r hi).2 j hj;rw [bC,gZ hbk] at this;exact this
 ·rw [hrs];refine le_trans (Nat.mul_le_mul_right _ ?_) hw1;omega
end
end
end Go.Ab
end
section
set_option linter.unusedVariables false
namespace Go.Ab
open Go Go.RowKit Go.Proofs Go.Sort Go.Shelf
section
variable {β:Inj} {P:Program} {gl:Nat->Bool}
theorem zL {k:Nat}: ∀ {l:List (List Value)},(∀ r∈l,r.length=k)-> ∀ j,j < l.length*k->l.flatten[j]?=(l[j / k]?).bind (·[j % k]?)
 | [],_,j,h=>by simp at h
 | r::l,hl,j,h=>by
  have hr:=hl r (mem_cons_self ..);rw [length_cons,add_mul,Nat.one_mul] at h;rw [flatten_cons];by_cases hj:j < k
  ·rw [List.getElem?_append_left (by omega),Nat.div_eq_of_lt hj,Nat.mod_eq_of_lt hj]; rfl
  ·have hk:0 < k:=by
    rcases eq_zero_or_pos k with h0 | h0
    ·subst h0; omega
    ·exact h0
   rw [List.getElem?_append_right (by omega),hr,zL (fun x hx=>hl x (mem_cons_of_mem _ hx)) (j - k) (by omega)];obtain ⟨m,rfl⟩: ∃ m,j=m+k:=⟨j - k,by omega⟩
   rw [Nat.add_sub_cancel,Nat.add_div_right _ hk,Nat.add_mod_right]; rfl
section
variable {α:Type} [Inhabited α] {enc:α->List Value} {k:Nat}
theorem ml (hk: ∀ x,(enc x).length=k)(l:List α)(j:Nat)(hj:j < l.length*k):(l.map enc).flatten[j]?=some (flatK enc k l.toArray)[j]! :=by
 have k0:0 < k:=by
  rcases eq_zero_or_pos k with h0 | h0
  ·subst h0; simp at hj
  ·exact h0
 have hd:j / k < l.length:=Nat.div_lt_of_lt_mul (by rw [Nat.mul_comm]; exact hj);have hm:=Nat.mod_lt j k0;rw [zL (fun r hr=>by obtain ⟨x,_,rfl⟩:=mem_map.1 hr; exact hk x) j (by rw [lM]; exact hj),get_flatK _ _ _ _ (by simpa using hj),getElem?_map,gE hd];simp only [map_some,Option.bind_some];rw [getElem!_pos l.toArray (j / k) (by simpa using hd)];have he:j % k < (enc l[j / k]).length:=by rw [hk]; exact hm
 rw [gE he];simp only [List.getElem_toArray];exact congrArg some (getElem!_pos (enc l[j / k]) (j % k) he).symm
omit [Inhabited α] in
theorem Hh (hk: ∀ x,(enc x).length=k): ∀ l:List α,(l.map enc).flatten.length=l.length*k
 | []=>by simp
 | x::l=>by rw [List.map_cons,flatten_cons,length_append,Hh hk l,hk,length_cons,add_mul,Nat.one_mul,Nat.add_comm]
theorem Ff (hk: ∀ x,(enc x).length=k)(hb: ∀ x,(enc x).all nj=true){w:World}{b s:Nat}{cs':Array Value}{t:TypeId}{fr:Nat×Nat}{cs:List Value}{off:Nat}{l:List α}(hw:w.heap[b]?=some (.cells cs' t fr))(hc:CellsAt β cs s cs')(hf:He fr cs'.size)(ho:off+l.length*k<=cs.length)(hl:(cs.drop off).take (l.length*k)=(l.map enc).flatten):HoldsK enc k w b (s+off) l.toArray:=by
 intro j hj;have hj:j < l.length*k:=by simpa using hj
 have h1:=ml hk l j hj;rw [<-hl,getElem?_take,if_pos hj,List.getElem?_drop] at h1;obtain ⟨v',h2,h3⟩:=hc _ _ h1;have hbare:nj (flatK enc k l.toArray)[j]! = true:=by
  have h4:=ml hk l j hj;have hm:=List.mem_of_getElem? h4;obtain ⟨r,hr,hm⟩:=List.mem_flatten.1 hm;obtain ⟨x,_,rfl⟩:=mem_map.1 hr;exact all_eq_true.1 (hb x) _ hm
 rw [h3.bare_eq hbare] at h2;rw [show s+(off+j)=s+off+j by omega] at h2;refine ⟨by rw [gZ hw]; exact h2,?_⟩;have hlt:s+off+j < cs'.size:=(Array.getElem?_eq_some_iff.1 h2).1;unfold World.frozen?;rw [hw];dsimp only;obtain ⟨lo,hi⟩:=fr;rw [Bool.and_eq_false_iff];by_cases h5:lo<=s+off+j
 ·right;have: ¬ s+off+j < hi:=fun h6=>by
   have:=hf (s+off+j) h5 h6;omega
  simpa using this
 ·left; simpa using h5
theorem An {cf:α->α->Int}{g:Nat}(hcmp: ∀ x y w,Calls P g #[.agg (enc x).toArray,.agg (enc y).toArray] w fun e w'=>e = .returned (.int .i64 (cf x y))/\Below w.heap.size w w'/\w.drawn<=w'.drawn)(blk off size:Nat)(w:World):CmpLays P g #[] enc k cf blk off size w:=by
 intro m os dk _ x y;refine (hcmp x y _).mono ?_;rintro e w' ⟨rfl,hb,hd⟩;refine ⟨rfl,w'.drawn - (sortWorldK enc k w blk off m dk os).drawn,w'.heap.extract (sortWorldK enc k w blk off m dk os).heap.size w'.heap.size,?_⟩;generalize sortWorldK enc k w blk off m dk os=W at *;have hh:W.heap++w'.heap.extract W.heap.size w'.heap.size=w'.heap:=by
  have h1:=hb.size;refine Array.ext_getElem? fun i=> ?_;rw [Array.getElem?_append];split
  ·next hi=>exact (hb.block i hi).symm
  ·next hi=>
   rw [Array.getElem?_extract];split
   ·congr 1; omega
   ·rw [Array.getElem?_eq_none (by omega)]
 obtain ⟨h0,t0,d0,o0,u0⟩:=w';have e1:=hb.os;have e2:=hb.tape;have e3:=hb.output;dsimp only at e1 e2 e3 hd hh;subst e1; subst e2; subst e3;unfold grow World.drewN;dsimp only;rw [hh];congr 1;omega
end
theorem Dz {n c:Nat}{a:Option Addr}{v:Value}(h:VRel β (.slice a n c) v): ∃ a' c',v = .slice a' n c':=by
 cases h with
 | nilSlice=>exact ⟨_,_,rfl⟩
 | slice=>exact ⟨_,_,rfl⟩
 | dead=>exact ⟨_,_,rfl⟩
theorem FM {g:Nat}{v:Value}(h:VRel β (.func (.func g) ⟨[]⟩ ⟨[]⟩) v):v = .func (.func g) #[] #[]:=by
 cases h with
 | func hy ha hc=>
  next a c=>
  obtain rfl:=Array.eq_empty_of_size_eq_zero ha.symm;obtain rfl:=Array.eq_empty_of_size_eq_zero hc.symm;rfl
set_option maxHeartbeats 1000000 in
theorem Ke {α:Type}[Inhabited α]{ρ:Ren}(L:SlLaysF0.n6 P ρ){k g:Nat}(k0:0 < k)(aE: ∀ w,(Go.isAgg (ρ.t 24)).run P w = .ok true w)(zE: ∀ w,(Go.sizeOf (ρ.t 24)).run P w = .ok k w){enc:α->List Value}(hk: ∀ x,(enc x).length=k)(h1: ∀ x,∀ v∈enc x,v.oneCell'=true)(hb: ∀ x,(enc x).all nj=true){cf:α->α->Int}(hO:SWO (ltOf cf))(hT: ∀ x y,(ltOf cf) x y=false->(ltOf cf) y x=false->x=y)
  (eg: ∀ args w,(callFunc g args).run P w = .ok (.enter g args) w) (hcmp: ∀ x y w,Calls P g #[.agg (enc x).toArray,.agg (enc y).toArray] w fun e w'=>e = .returned (.int .i64 (cf x y))/\Below w.heap.size w w'/\w.drawn<=w'.drawn)
  {srt:List Value->Option (List Value)} (hs: ∀ cs cs',srt cs=some cs'-> ∃ l:List α,cs=(l.map enc).flatten/\cs'=((l.mergeSort fun x y=> !(ltOf cf) y x).map enc).flatten) {f6:Func} (hf6:P.funcs[ρ.f 6]?=some f6) (hb6:f6.body.isSome=true):iG P gl (ρ.f 6) (xW g k srt):=by
 intro cf' _ args h v h' hp β w args' hsim _ ha;refine ⟨f6,hf6,.inl ⟨hb6,?_⟩⟩;unfold xW at hp;split at hp
 ·next a n c g'=>
  split at hp
  ·next hg=>
   subst hg;obtain ⟨v1,r1,e1,hv1,ha1⟩:=ha.inv_cons;obtain ⟨v2,r2,e2,hv2,ha2⟩:=ha1.inv_cons;have e3:=ha2.inv_nil;subst e2; subst e3;have hargs:args' = #[v1,v2]:=by
    have:=congrArg List.toArray e1;simpa using this
   subst hargs;obtain rfl:=FM hv2;split at hp
   ·next hn=>
    subst hn;simp only [Option.some.injEq,Prod.mk.injEq] at hp;obtain ⟨rfl,rfl⟩:=hp;obtain ⟨a',c',rfl⟩:=Dz hv1;refine (AnyF.slices_SortFunc_none L a' c' _ w).mono ?_;rintro e w' ⟨rfl,rfl⟩;exact ⟨_,β,rfl,Step.refl hsim,.tuple rfl fun i v v' h=>by simp at h⟩
   ·next hn=>
    split at hp
    ·next b off=>
     split at hp
     ·next cs t sz hblk=>
      split at hp
      ·next hlim=>
       obtain ⟨cs',hsrt,he⟩:=map_eq_some_iff.1 hp;simp only [Prod.mk.injEq] at he;obtain ⟨rfl,rfl⟩:=he;obtain ⟨l,hl,rfl⟩:=hs _ _ hsrt;obtain ⟨sl,i',c',hβ,hm,_,rfl,hx1,ho1,hn1,hi1,hz1⟩:=hv1.inv_slice;have hi1:i'=sl.s+off:=by
        rcases hi1 with h | ⟨h,_⟩
        ·exact h
        ·exact absurd h hn
       subst hi1;obtain ⟨hm,ht,hsz,csW,fr,hw,hnW,hcW,hfW⟩:=hsim.row hblk hβ;obtain ⟨hm,ht,hz,csW,fr,hw,hnW,hcW,hfW⟩:=hsim.blk _ _ _ hblk hβ;have hlen:((cs.drop off).take (n*k)).length=n*k:=by rw [length_take,List.length_drop]; omega
       have hn':l.length=n:=by
        rw [hl,Hh hk] at hlen;exact Nat.eq_of_mul_eq_mul_right k0 hlen
       subst hn';have H:=Ff (β:=β) hk hb hw hcW (hfW rfl) hlim.2 hl;refine (AnyQ.slices_SortFunc_total L k aE zE enc hk h1 cf hO g' #[] sl.b (sl.s+off) c' l.toArray w eg (An hcmp _ _ _ _) H (hsim.lt _ _ hβ).2 hlim.1 hT).mono ?_;rintro e w' ⟨rfl,m,os,rfl⟩;have hml:(l.mergeSort fun x y=> !(ltOf cf) y x).length=l.length:=List.length_mergeSort l;have e0:l.toArray.toList=l:=rfl;rw [e0];generalize (l.mergeSort fun x y=> !(ltOf cf) y x)=l' at *;have hoff:off<=cs.length:=by omega
       have hcsz: ∀ i v,cs[i]?=some v-> ∃ v',csW[sl.s+i]?=some v'/\VRel β v v':=hcW;have st1:Step β h w β (h.set b (.cells (cs.take off++(l'.map enc).flatten++cs.drop (off+l.length*k)) t sz true)) (putRowK enc k (Sort.ahead w m) sl.b (sl.s+off) l'.toArray):=by
        refine Step.at_ hsim hblk hβ rfl ⟨by simp [putRowK],rfl,⟨rfl,le_add_right _ _⟩,rfl,fun b' hb'=> ?_⟩ ⟨hm,ht,hz,putCells id (sl.s+off) (flatK enc k l'.toArray) csW,fr,?_,by simp [putCells,hnW],fun i v hv=> ?_,fun _=>by simpa [putCells] using hfW rfl⟩
        ·simp only [putRowK,putRow,mapBlock,Array.getElem?_modify];rw [if_neg (Ne.symm hb')]; rfl
        ·simp only [putRowK,putRow,mapBlock,Array.getElem?_modify,if_true,heap_ahead,hw,map_some,onCells]
        ·have hpc: ∀ j,(putCells id (sl.s+off) (flatK enc k l'.toArray) csW)[j]?=(csW[j]?).map fun x=>if sl.s+off<=j/\j < sl.s+off+l.length*k then (flatK enc k l'.toArray)[j - (sl.s+off)]! else x:=fun j=>by
          simp only [putCells,Array.getElem?_mapIdx,size_flatK,List.size_toArray,hml,id]
         rw [hpc];have hf:(l'.map enc).flatten.length=l.length*k:=by rw [Hh hk,hml]
         have ht1:(cs.take off).length=off:=by rw [length_take]; omega
         rw [List.append_assoc,List.getElem?_append,ht1] at hv;split at hv
         ·next hi=>
          rw [getElem?_take,if_pos hi] at hv;obtain ⟨v',g1,g2⟩:=hcsz i v hv;rw [g1];exact ⟨v',by simp only [map_some]; rw [if_neg (by omega)],g2⟩
         ·next hi=>
          rw [List.getElem?_append,hf] at hv;split at hv
          ·next hi2=>
           have g0:i < cs.length:=by omega
           obtain ⟨v',g1,g2⟩:=hcsz i _ (gE g0);rw [g1];simp only [map_some];rw [if_pos (by omega)];rw [ml hk l' (i - off) (by rw [hml]; exact hi2)] at hv;obtain rfl:=oI hv;refine ⟨_,rfl,?_⟩;rw [show sl.s+i - (sl.s+off)=i - off by omega];refine .of_bare ?_;have hm:=List.mem_of_getElem? (ml hk l' (i - off) (by rw [hml]; exact hi2));obtain ⟨r,hr,hm⟩:=List.mem_flatten.1 hm;obtain ⟨x,_,rfl⟩:=mem_map.1 hr;exact all_eq_true.1 (hb x) _ hm
          ·next hi2=>
           rw [List.getElem?_drop,show off+l.length*k+(i - off - l.length*k)=i by omega] at hv;obtain ⟨v',g1,g2⟩:=hcsz i v hv;rw [g1];exact ⟨v',by simp only [map_some]; rw [if_neg (by omega)],g2⟩
       refine ⟨_,β,rfl,st1.trans (mW st1.sim ⟨rfl,rfl,rfl,by rw [show (sortWorldK enc k w sl.b (sl.s+off) m l'.toArray os)=grow (putRowK enc k (Sort.ahead w m) sl.b (sl.s+off) l'.toArray) os from rfl,size_grow]; exact le_add_right _ _,fun j hj=>heap_grow_old _ os hj⟩ (le_refl _)),.tuple rfl fun i v v' h=>by simp at h⟩
      ·cases hp
     ·cases hp
    ·cases hp
  ·cases hp
 ·cases hp
end
end Go.Ab
end
section
set_option linter.unusedVariables false
namespace Go.Ab
open Go Go.Sort Go.Proofs
instance:Inhabited MArc:=⟨q0⟩
theorem LT (x y:MArc):ltOf tQ x y=jD x y:=by
 unfold ltOf;by_cases h:jD x y=true
 ·rw [h]; exact decide_eq_true ((zM x y).2 h)
 ·rw [Bool.not_eq_true] at h;rw [h];exact decide_eq_false fun h2=>by
   have:=(zM x y).1 h2;rw [h] at this; cases this
theorem N0:SWO (ltOf tQ) where
 irrefl x:=by rw [LT]; exact eq_false_iff.2 (r8 x)
 trans x y z h1 h2:=by rw [LT] at *; exact nq h1 h2
 ntrans x y z h1 h2:=by
  rw [LT] at *;exact eq_false_iff.2 (pR (p:=z) (q:=y) (r:=x) (eq_false_iff.1 h2) (eq_false_iff.1 h1))
theorem NH (x y:MArc)(h1:ltOf tQ x y=false)(h2:ltOf tQ y x=false):x=y:=by
 rw [LT] at *;exact rT (eq_false_iff.1 h1) (eq_false_iff.1 h2)
theorem Lh (l:List MArc):l.mergeSort (fun x y=> !(ltOf tQ) y x)=dd l:=by
 refine y5 (List.mergeSort_perm ..) ?_;have hs:=List.pairwise_mergeSort (le:=fun x y=> !(ltOf tQ) y x) (fun a b c h1 h2=>by
  simp only [LT,Bool.not_eq_true'] at *;exact eq_false_iff.2 (pR (p:=a) (q:=b) (r:=c) (eq_false_iff.1 h1) (eq_false_iff.1 h2))) (fun a b=>by
  simp only [LT]
  cases h:jD b a with
  | false=>rfl
  | true=>
   have:=HY h;unfold wh at this;simp [eq_false_iff.2 this]) l
 refine hs.imp fun h=> ?_;simp only [LT,Bool.not_eq_true'] at h;exact eq_false_iff.1 h
end Go.Ab
end
section
set_option linter.unusedVariables false
namespace Go.Proofs.YtoabjjimjldcfaaGreatDoor
open Go.Shelf Go.RowKit Go.Lib Go.Sort
def xu:Go.Shelf.Ren:=⟨fun | 6=>48 | 15=>73 | 14=>72 | 28=>92 | 29=>93 | 20=>84 | 21=>85 | 22=>86 | 23=>87 | 24=>88 | 25=>89 | 26=>90 | 27=>91 | 46=>109 | 47=>110 | 48=>111 | 49=>112 | 50=>113 | 57=>133 | n=>n,fun | 22=>35 | 24=>39 | 25=>55 | 3=>3 | 39=>83 | 0=>0 | 53=>101 | 55=>103 | 4=>4 | 46=>94 | 45=>93 | 50=>98 | 5=>5 | 9=>9 | 66=>113 | 70=>117 | 76=>129 | 77=>130 | n=>n,fun | n=>n⟩
theorem IS:Go.Proofs.SlLaysF0.n6 Tryz.prog xu:={
 mixed:=by kernel_rfl,
 f6:=⟨Tryz.f48.name,by decide,Tryz.func48.trans (congrArg some (by kernel_rfl))⟩,
 f14:=⟨Tryz.f72.name,by decide,Tryz.func72.trans (congrArg some (by kernel_rfl))⟩,
 f15:=Tryz.func73.trans (congrArg some (by kernel_rfl)),
 f20:=⟨Tryz.f84.name,by decide,Tryz.func84.trans (congrArg some (by kernel_rfl))⟩,
 f21:=⟨Tryz.f85.name,by decide,Tryz.func85.trans (congrArg some (by kernel_rfl))⟩,
 f22:=⟨Tryz.f86.name,by decide,Tryz.func86.trans (congrArg some (by kernel_rfl))⟩,
 f23:=⟨Tryz.f87.name,by decide,Tryz.func87.trans (congrArg some (by kernel_rfl))⟩,
 f24:=⟨Tryz.f88.name,by decide,Tryz.func88.trans (congrArg some (by kernel_rfl))⟩,
 f25:=⟨Tryz.f89.name,by decide,Tryz.func89.trans (congrArg some (by kernel_rfl))⟩,
 f26:=⟨Tryz.f90.name,by decide,Tryz.func90.trans (congrArg some (by kernel_rfl))⟩,
 f27:=⟨Tryz.f91.name,by decide,Tryz.func91.trans (congrArg some (by kernel_rfl))⟩,
 f28:=Tryz.func92.trans (congrArg some (by kernel_rfl)),
 f29:=Tryz.func93.trans (congrArg some (by kernel_rfl)),
 f46:=⟨Tryz.f109.name,by decide,Tryz.func109.trans (congrArg some (by kernel_rfl))⟩,
 f47:=Tryz.func110.trans (congrArg some (by kernel_rfl)),
 f48:=Tryz.func111.trans (congrArg some (by kernel_rfl)),
 f49:=⟨Tryz.f112.name,by decide,Tryz.func112.trans (congrArg some (by kernel_rfl))⟩,
 f50:=⟨Tryz.f113.name,by decide,Tryz.func113.trans (congrArg some (by kernel_rfl))⟩,
 f57:=⟨Tryz.f133.name,by decide,Tryz.func133.trans (congrArg some (by kernel_rfl))⟩,
 t0:=Tryz.underlying0,
 a0:=Tryz.isAgg0,
 z0:=Tryz.sizeOf0,
 v0:=Tryz.zeroValue0,
 t3:=Tryz.underlying3,
 a3:=Tryz.isAgg3,
 z3:=Tryz.sizeOf3,
 v3:=Tryz.zeroValue3,
 t4:=Tryz.underlying4,
 a4:=Tryz.isAgg4,
 z4:=Tryz.sizeOf4,
 v4:=Tryz.zeroValue4,
 t5:=Tryz.underlying5,
 a5:=Tryz.isAgg5,
 z5:=Tryz.sizeOf5,
 v5:=Tryz.zeroValue5,
 t9:=Tryz.underlying9,
 a9:=Tryz.isAgg9,
 z9:=Tryz.sizeOf9,
 v9:=Tryz.zeroValue9,
 t22:=Tryz.underlying35,
 a22:=Tryz.isAgg35,
 z22:=Tryz.sizeOf35,
 v22:=Tryz.zeroValue35,
 t25:=Tryz.underlying55,
 a25:=Tryz.isAgg55,
 z25:=Tryz.sizeOf55,
 v25:=Tryz.zeroValue55,
 t39:=Tryz.underlying83,
 a39:=Tryz.isAgg83,
 z39:=Tryz.sizeOf83,
 v39:=Tryz.zeroValue83,
 t45:=Tryz.underlying93,
 a45:=Tryz.isAgg93,
 z45:=Tryz.sizeOf93,
 v45:=Tryz.zeroValue93,
 t46:=Tryz.underlying94,
 a46:=Tryz.isAgg94,
 z46:=Tryz.sizeOf94,
 v46:=Tryz.zeroValue94,
 t50:=Tryz.underlying98,
 a50:=Tryz.isAgg98,
 z50:=Tryz.sizeOf98,
 v50:=Tryz.zeroValue98,
 t53:=Tryz.underlying101,
 a53:=Tryz.isAgg101,
 z53:=Tryz.sizeOf101,
 v53:=Tryz.zeroValue101,
 t55:=Tryz.underlying103,
 a55:=Tryz.isAgg103,
 z55:=Tryz.sizeOf103,
 v55:=Tryz.zeroValue103,
 t66:=Tryz.underlying113,
 a66:=Tryz.isAgg113,
 z66:=Tryz.sizeOf113,
 v66:=Tryz.zeroValue113,
 t70:=Tryz.underlying117,
 a70:=Tryz.isAgg117,
 z70:=Tryz.sizeOf117,
 v70:=Tryz.zeroValue117,
 t76:=Tryz.underlying129,
 a76:=Tryz.isAgg129,
 z76:=Tryz.sizeOf129,
 v76:=Tryz.zeroValue129,
 t77:=Tryz.underlying130,
 a77:=Tryz.isAgg130,
 z77:=Tryz.sizeOf130,
 v77:=Tryz.zeroValue130 }
end Go.Proofs.YtoabjjimjldcfaaGreatDoor
end
section
set_option linter.unusedVariables false
set_option maxRecDepth 100000
namespace Go.Proofs.YtoabjjimjldcfaaGreatDoor
open Go Go.Ab Go.Sort
theorem D1 (p q:MArc)(w:World):Calls Tryz.prog 47 #[.agg (aI p).toArray,.agg (aI q).toArray] w fun e w'=>e = .returned (.int .i64 (tQ p q))/\RowKit.Below w.heap.size w w'/\w.drawn<=w'.drawn:=by
 refine (xe text_ok (Jt p q (h:=⟨0,.nil⟩) (fun k B h=>by rw [Heap.get_nil] at h; cases h)) (by unfold YB; decide) Tryz.func47 (by kernel_rfl) (args':= #[.agg (aI p).toArray,.agg (aI q).toArray]) (.cons (.of_plain rfl) (.cons (.of_plain rfl) (.nil _))) w).mono ?_;rintro e w' ⟨v,v',h',β',rfl,⟨rfl,_⟩,h3,h4⟩
 cases h3
 exact ⟨rfl,h4⟩
theorem D5:iG Tryz.prog IM 48 (xW 47 4 FA):=
 Ke IS (by decide) (fun w=>Tryz.isAgg39 w) (fun w=>Tryz.sizeOf39 w) (enc:=aI) (fun _=>rfl) (fun x v hv=>by
  simp only [aI,mem_cons,List.not_mem_nil,or_false] at hv;rcases hv with rfl | rfl | rfl | rfl <;> rfl) (fun _=>rfl) N0 NH (fun args w=>enters_of Tryz.func47 (by kernel_rfl) rfl args w) D1 (fun cs cs' h=>by
  unfold FA at h;obtain ⟨l,h1,rfl⟩:=map_eq_some_iff.1 h;exact ⟨l,Iz cs h1,by rw [Lh]⟩) Tryz.func48 (by kernel_rfl)
end Go.Proofs.YtoabjjimjldcfaaGreatDoor
end
section
set_option linter.unusedVariables false
namespace Go.Proofs.YtoabjjimjldcfaaGreatDoor
open Go Go.Ab Go.RowKit
theorem rU:iG Tryz.prog IM 194 jo:=zH (fn:=(Tryz.prog.funcs[194]?).getD default) (by kernel_rfl) (by kernel_rfl) (by kernel_rfl) (by kernel_rfl) (by kernel_rfl)
theorem qQ:iG Tryz.prog IM 196 iJ:=wd (fn:=(Tryz.prog.funcs[196]?).getD default) (by kernel_rfl) (by kernel_rfl) (by kernel_rfl) (by kernel_rfl) (by kernel_rfl)
theorem tF:iG Tryz.prog IM 134 (vQ Tryz.prog IM Tryz.f134 (seqL Ct) (seqR (seqR Ct)) 5):=
 HM text_ok.names Tryz.func134 rfl rfl rfl rfl rfl rfl rfl Tryz.func157 rfl ws (by kernel_rfl) (by kernel_rfl)
theorem Hi:jV Tryz.prog IM OH:=hJ D5 (hJ rU (hJ qQ (hJ tF zP)))
end Go.Proofs.YtoabjjimjldcfaaGreatDoor
end
section
set_option linter.unusedVariables false
set_option maxRecDepth 100000
namespace Go.Proofs.YtoabjjimjldcfaaGreatDoor
open Go Go.Ab Go.ChangeShapes Go.RowKit
section
theorem OC:Tryz.prog.cellsOf 3=1:=by kernel_rfl
theorem Ob:Tryz.prog.cellsOf 9=1:=by kernel_rfl
theorem Oe:Tryz.prog.cellsOf 22=1:=by kernel_rfl
theorem NO:Tryz.prog.cellsOf 24=4:=by kernel_rfl
theorem Oi:Tryz.prog.cellsOf 35=1:=by kernel_rfl
theorem MS:Tryz.prog.cellsOf 37=2:=by kernel_rfl
theorem M0:Tryz.prog.cellsOf 39=4:=by kernel_rfl
theorem Mj:Tryz.prog.cellsOf 103=1:=by kernel_rfl
theorem NS:Tryz.prog.bytesOf 39=40:=by kernel_rfl
theorem BY {α β:Type}{p:α->β}{P:α->Prop}: ∀ {l:List β},(∀ x∈l,∃ q,x=p q/\P q)-> ∃ k:List α,l=k.map p/\ ∀ q∈k,P q
 | [],_=>⟨[],rfl,fun _ h=>by cases h⟩
 | x::l,h=>by
  obtain ⟨q,rfl,hq⟩:=h x (mem_cons_self ..);obtain ⟨k,rfl,hk⟩:=BY fun x hx=>h x (mem_cons_of_mem _ hx);exact ⟨q::k,rfl,fun y hy=>by
   rcases mem_cons.1 hy with rfl | hy
   ·exact hq
   ·exact hk y hy⟩
def Gn (W:World)(q:MSt×Value):Prop:=uF W q.2 4 (q.1.arcs.map aI)/\q.1.arcs.length<=281474976710656
section
variable {H:Type} {enc:TypeId×Value->H} {W:World} {held:Bool}
theorem GO {n:Nat}{cs:List Value}{y:DataW H×List MemPlace}(h:DataW.trod enc Tryz.prog W 0 (fun _=>true) held n 39 cs=some y): ∃ q:MArc,cs=aI q/\True:=by
 obtain ⟨xs,m,_,_,hl,hlen,hf⟩:=DataW.trod_struct Tryz.underlying39 h;rw [M0] at hl;have hlen:xs.length=4:=hlen
 match xs,hlen,cs,hl with
 | [y0,y1,y2,y3],_,[c0,c1,c2,c3],_=>
  obtain ⟨i,e0,_,_⟩:=DataW.trod_int (x:=y0) Tryz.underlying3 (show DataW.trod enc Tryz.prog W 0 (fun _=>true) held m 3 (([c0,c1,c2,c3].drop 0).take (Tryz.prog.cellsOf 3))=some y0 from hf 0 _ rfl);obtain ⟨o,e1,_,_⟩:=DataW.trod_int (x:=y1) Tryz.underlying3 (show DataW.trod enc Tryz.prog W 0 (fun _=>true) held m 3 (([c0,c1,c2,c3].drop 1).take (Tryz.prog.cellsOf 3))=some y1 from hf 1 _ rfl);obtain ⟨s,e2,_,_⟩:=DataW.trod_string (x:=y2) Tryz.underlying9 (show DataW.trod enc Tryz.prog W 0 (fun _=>true) held m 9 (([c0,c1,c2,c3].drop 2).take (Tryz.prog.cellsOf 9))=some y2 from hf 2 _ rfl);obtain ⟨t,e3,_,_⟩:=DataW.trod_int (x:=y3) Tryz.underlying3 (show DataW.trod enc Tryz.prog W 0 (fun _=>true) held m 3 (([c0,c1,c2,c3].drop 3).take (Tryz.prog.cellsOf 3))=some y3 from hf 3 _ rfl);simp only [OC,Ob,List.drop,List.take,List.cons.injEq,and_true] at e0 e1 e2 e3;subst e0; subst e1; subst e2; subst e3;exact ⟨⟨i,o,s.data.toList,t⟩,rfl,trivial⟩
theorem A1 {n:Nat}{cs:List Value}{y:DataW H×List MemPlace}(h:DataW.trod enc Tryz.prog W 0 (fun _=>true) held n 37 cs=some y)(hw:(y.1.weights Tryz.prog 37).all (· <=reachBytes)=true): ∃ q:MSt×Value,cs=dg q/\Gn W q:=by
 obtain ⟨y0,y1,m,rfl,hl,h0,h1⟩:=trod_struct2 Tryz.underlying37 h;rw [MS] at hl
 match cs,hl with
 | [c0,c1],_=>
  obtain ⟨s,e0,_,_⟩:=DataW.trod_string Tryz.underlying9 h0;simp only [DataW.weights,Tryz.underlying37,DataW.weightsEach,List.map,append_nil,all_append,and_eq_true] at hw;obtain ⟨v,rs,e1,r,hr,hb⟩:=vk (P:=Tryz.prog) (p:=fun cs=> ∃ q:MArc,cs=aI q/\True) Tryz.underlying35 M0 (by decide) (fun n cs y h _=>GO h) h1 hw.2;simp only [Ob,Oi,List.drop,List.take,List.cons.injEq,and_true] at e0 e1;subst e0; subst e1;obtain ⟨l,rfl,_⟩:=BY hr;refine ⟨(⟨s.data.toList,l⟩,c1),rfl,r,?_⟩;rw [NS,lM] at hb;unfold reachBytes at hb;show l.length<=_;omega
theorem vP {n:Nat}{cs:List Value}{y:DataW H×List MemPlace}(h:DataW.trod enc Tryz.prog W 0 (fun _=>true) held n 24 cs=some y)(hw:(y.1.weights Tryz.prog 24).all (· <=reachBytes)=true):
  ∃ (k s:Int)(ld:List UInt8)(v:Value)(sts:List (MSt×Value)),cs=[.int .i64 k,.int .i64 s,aa ld,v]/\uF W v 2 (sts.map dg)/\ ∀ q∈sts,Gn W q:=by
 obtain ⟨xs,m,_,rfl,hl,hlen,hf⟩:=DataW.trod_struct Tryz.underlying24 h;rw [NO] at hl;have hlen:xs.length=4:=hlen
 match xs,hlen,cs,hl with
 | [y0,y1,y2,y3],_,[c0,c1,c2,c3],_=>
  obtain ⟨k,e0,_,_⟩:=DataW.trod_int (x:=y0) Tryz.underlying3 (show DataW.trod enc Tryz.prog W 0 (fun _=>true) held m 3 (([c0,c1,c2,c3].drop 0).take (Tryz.prog.cellsOf 3))=some y0 from hf 0 _ rfl);obtain ⟨s,e1,_,_⟩:=DataW.trod_int (x:=y1) Tryz.underlying3 (show DataW.trod enc Tryz.prog W 0 (fun _=>true) held m 3 (([c0,c1,c2,c3].drop 1).take (Tryz.prog.cellsOf 3))=some y1 from hf 1 _ rfl);obtain ⟨ld,e2,_,_⟩:=DataW.trod_string (x:=y2) Tryz.underlying9 (show DataW.trod enc Tryz.prog W 0 (fun _=>true) held m 9 (([c0,c1,c2,c3].drop 2).take (Tryz.prog.cellsOf 9))=some y2 from hf 2 _ rfl);simp only [DataW.weights,Tryz.underlying24,DataW.weightsEach,List.map,append_nil,all_append,and_eq_true] at hw;obtain ⟨v,rs,e3,r,hr,_⟩:=vk (P:=Tryz.prog) (x:=y3) (p:=fun cs=> ∃ q:MSt×Value,cs=dg q/\Gn W q) Tryz.underlying22 MS (by decide) (fun n cs y h hw=>A1 h hw) (show DataW.trod enc Tryz.prog W 0 (fun _=>true) held m 22 (([c0,c1,c2,c3].drop 3).take (Tryz.prog.cellsOf 22))=some y3 from hf 3 _ rfl) hw.2.2.2;simp only [OC,Ob,Oe,List.drop,List.take,List.cons.injEq,and_true] at e0 e1 e2 e3;subst e0; subst e1; subst e2; subst e3;obtain ⟨l,rfl,hl⟩:=BY hr;exact ⟨k,s,ld.data.toList,c3,l,rfl,r,hl⟩
end
section
variable {W:World}
theorem D6 (q:MArc):(aI q).all nj=true:=rfl
theorem JU {β:Inj}{f:List UInt8}{v v':Value}(h:VRel β v v'):LRel β [aa f,v] [aa f,v']:= .cons (.string _) (.cons h (.nil β))
theorem vc: ∀ (sts:List (MSt×Value)),(∀ q∈sts,Gn W q)-> ∀ {β:Inj}{h:Heap},Ini β h W->
  ∃ (β':Inj)(h':Heap)(ps:List (MSt×Value)),Ini β' h' W/\β.le β'/\Ok h h'/\ps.length=sts.length/\ps.map (·.1)=sts.map (·.1)/\(∀ p∈ps,ArcRow h' p.2 p.1.arcs)/\
   ∀ (k:Nat) r r',(ps.map dg)[k]?=some r->(sts.map dg)[k]?=some r'->LRel β' r r'
 | [],_,β,h,i=>⟨β,h,[],i,β.le_refl,Ok.refl i.wf,rfl,rfl,fun _ hm=>absurd hm (by simp),fun k v q h=>absurd h (by simp)⟩
 | q::sts,hq,β,h,i=>by
  obtain ⟨r,_⟩:=hq q (mem_cons_self ..);obtain ⟨β1,h1,v,i1,l1,o1,r1,a1⟩:=i.row (e:=39) r (rs:=q.1.arcs.map aI) rfl (fun k r r' h1 h2=>by
    rw [h1] at h2;obtain rfl:=oI h2;rw [getElem?_map] at h1;obtain ⟨x,_,rfl⟩:=map_eq_some_iff.1 h1;exact LRel.of_bares (D6 x))
  obtain ⟨β2,h2,ps,i2,l2,o2,hl,hm,ha,hk⟩:=vc sts (fun q hm=>hq q (mem_cons_of_mem _ hm)) i1;refine ⟨β2,h2,(q.1,v)::ps,i2,Inj.le_trans l1 l2,o1.trans o2,by simp [hl],by simp [hm],fun p hp=> ?_,fun k v' q' g1 g2=> ?_⟩
  ·rcases mem_cons.1 hp with rfl | hp
   ·exact ArcRow.ok a1 o2
   ·exact ha p hp
  ·cases k with
   | zero=>
    simp only [List.map_cons,List.getElem?_cons_zero,Option.some.injEq] at g1 g2;subst g1; subst g2;exact JU (r1.mono l2)
   | succ k=>exact hk k v' q' (by simpa using g1) (by simpa using g2)
theorem zu {β:Inj}{h:Heap}(i:Ini β h W){v:Value}{sts:List (MSt×Value)}(r:uF W v 2 (sts.map dg))(hq: ∀ q∈sts,Gn W q)(hd: ∀ a,v = .slice (some a) 0 0->a.spot=none/\ ∃ cs t fr,W.heap[a.block]?=some (.cells cs t fr)):
  ∃ β' h' v',Ini β' h' W/\β.le β'/\Ok h h'/\VRel β' v' v/\StRow h' v' (sts.map (·.1)):=by
 obtain ⟨β1,h1,ps,i1,l1,o1,hl,hm,ha,hk⟩:=vc sts hq i;obtain ⟨β2,h2,v',i2,l2,o2,r2,a2,ne⟩:=i1.row_live (e:=37) (rs:=ps.map dg) r (by simp [hl]) hk hd;exact ⟨β2,h2,v',i2,Inj.le_trans l1 l2,o1.trans o2,r2,ps,hm,a2,fun p hp=>ArcRow.ok (ha p hp) o2,ne⟩
end
end
end Go.Proofs.YtoabjjimjldcfaaGreatDoor
end
section
namespace Go.Proofs.YtoabjjimjldcfaaGreatDoor
open Go Go.ChangeShapes Go.WideShapes Go.ChangeAt Go.RowKit
theorem GK:ownKnob Tryz.prog.godebug=none:=by kernel_rfl
abbrev f0 {H:Type}:List (String×DataW H):=[("math/bits.deBruijn32tab",Rows.laid_math_bits_deBruijn32tab),("math/bits.deBruijn64tab",Rows.laid_math_bits_deBruijn64tab),("internal/strconv.uint64pow10",Rows.laid_internal_strconv_uint64pow10)]
def Lu:DataW Unit->Value
 | .lit (.int k n)=> .int k n
 | _=>undef
def rO:DataW Unit->Array Value
 | .agg l=>(l.map Lu).toArray
 | _=> #[]
def Ir (c:Array Value):Obj->Obj
 | .cells _ t frozen=> .cells c t frozen
 | o=>o
noncomputable def uj (os:Os):World:=
 { World.holding Tryz.prog os ⟨#[],#[],[]⟩ with heap:=(((World.holding Tryz.prog os ⟨#[],#[],[]⟩).heap.modify 2 (Ir (rO Rows.laid_math_bits_deBruijn32tab))).modify 3 (Ir (rO Rows.laid_math_bits_deBruijn64tab))).modify 1 (Ir (rO Rows.laid_internal_strconv_uint64pow10)) }
theorem tX (os:Os)(args:Array Value):laidMetH Tryz.prog f0 ((uj os).forCall (fun _ _=>0) ⟨#[],args,[]⟩).memory:=
 laidMetH_of_parts (laidMet_of_run' 24 (by kernel_rfl) (by kernel_rfl)) (by kernel_rfl)
end Go.Proofs.YtoabjjimjldcfaaGreatDoor
end
section
set_option linter.unusedVariables false
set_option maxRecDepth 100000
namespace Go.Proofs.YtoabjjimjldcfaaGreatDoor
open Go Go.Ab Go.ChangeShapes Go.WideShapes Go.RowKit
section
theorem rV {P:Program}{w:World}: ∀ {l:List (String×DataW Unit)}{ps:List MemPlace},DataW.LaidVars P w l ps-> ∀ n d,(n,d)∈l->
  ∃ g t cs fuel p,P.globalNamed n=some g/\(P.globals[g]?).map (·.type)=some t/\w.var? P n=some cs/\DataW.trod (fun _=>()) P w 0 (fun _=>true) false fuel t cs.toList=some (d,p)
 | [],_,_,_,_,hm=>by cases hm
 | (n',d')::r,ps,h,n,d,hm=>by
  obtain ⟨g,t,cs,fuel,p,q,h1,h2,h3,h4,h5,_⟩:=h;rcases mem_cons.1 hm with e | e
  ·cases e
   exact ⟨g,t,cs,fuel,p,h1,h2,h3,h4⟩
  ·exact rV h5 n d e
theorem Gy:Rows.laid_internal_strconv_uint64pow10=(.agg ((List.range 20).map fun i=>(.lit (.int .u64 ((10 ^ i:Nat):Int)):DataW Unit)):DataW Unit):=by kernel_rfl
section
variable {W:World}
theorem Jz (hL:laidMetH Tryz.prog f0 W): ∃ cs t fr,W.heap[1]?=some (.cells cs t fr)/\ ∀ β,CellsAt β zB 0 cs:=by
 rw [MakeChecks.laidMetH_plain _ _ _ (by kernel_rfl)] at hL;obtain ⟨ps,hl,_⟩:=hL;obtain ⟨g,t,cs,fuel,p,hg,ht,hv,hd⟩:=rV hl "internal/strconv.uint64pow10" Rows.laid_internal_strconv_uint64pow10 (by simp [f0]);obtain rfl:=oI ((show Tryz.prog.globalNamed "internal/strconv.uint64pow10" = some 1 by kernel_rfl).symm.trans hg);obtain rfl:=oI ((show (Tryz.prog.globals[1]?).map (·.type)=some 185 by kernel_rfl).symm.trans ht);obtain ⟨xs,m,_,ex,_,hl,hel⟩:=DataW.trod_array Tryz.underlying185 hd;have e3:xs.map (·.1)=(List.range 20).map fun i=>(.lit (.int .u64 ((10 ^ i:Nat):Int)):DataW Unit):=by
  have:=(Prod.mk.inj ex).1.symm.trans Gy;exact DataW.agg.inj this
 have hb: ∃ t fr,W.heap[1]?=some (.cells cs t fr):=by
  simp only [World.var?,hg,Option.bind_some] at hv;split at hv
  ·next c t fr hb=>obtain rfl:=oI hv; exact ⟨t,fr,hb⟩
  ·cases hv
 obtain ⟨t,fr,hb⟩:=hb;refine ⟨cs,t,fr,hb,fun β k v hk=> ?_⟩;have hlt:k < 20:=by
  have:=(List.getElem?_eq_some_iff.1 hk).1;simpa [zB] using this
 have hv:v=uv (10 ^ k):=by
  simp [zB,getElem?_range hlt] at hk;exact hk.symm
 have hE:=hel k hlt;rw [Mj,mul_one,gE (by omega)] at hE;obtain ⟨z,e1,e2,_⟩:=DataW.trod_int Tryz.underlying103 hE;have e4:(xs.map (·.1))[k]?=some (.lit (.int .u64 ((10 ^ k:Nat):Int))):=by rw [e3]; simp [getElem?_range hlt]
 rw [getElem?_map,gE (by omega:k < xs.length),e2] at e4;have hz:z=((10 ^ k:Nat):Int):=by
  simpa using e4
 subst hz;have:cs.toList[k]?=some (.int .u64 ((10 ^ k:Nat):Int)):=by
  have h0:((cs.toList.drop k).take 1)[0]?=some (.int .u64 ((10 ^ k:Nat):Int)):=by rw [e1]; rfl
  simpa using h0
 refine ⟨.int .u64 ((10 ^ k:Nat):Int),by simpa using this,?_⟩;rw [hv]; exact .int _ _
theorem J2 (hL:laidMetH Tryz.prog f0 W): ∃ β h,Ini β h W/\Gl IM β/\Tab h:=by
 obtain ⟨cs,t,fr,hb,hc⟩:=Jz hL;refine ⟨_,_,(NK 1 W).push hb (hc _),fun g hg=> ?_,t,false,Heap.get_push_same ⟨1,.nil⟩ _⟩;have:g=1:=by simpa [IM] using hg
 subst this;exact ⟨_,Inj.ext_same _ _ _,rfl,rfl,rfl⟩
theorem GZ {base:Nat}{k s:Int}{ld:List UInt8}{v:Value}(hval:Value.okWide Tryz.prog W .any base 24 (.agg #[.int .i64 k,.int .i64 s,aa ld,v]))(a:Addr)(e:v = .slice (some a) 0 0):a.spot=none/\ ∃ cs t fr,W.heap[a.block]?=some (.cells cs t fr):=by
 simp only [Value.okWide,Tryz.underlying24] at hval;obtain ⟨cs,hcs,_,ts,hts,_,hc⟩:=hval;obtain rfl:=Value.agg.inj hcs;obtain rfl:=oI ((show Tryz.prog.cellTypes Tryz.prog.depth 24=some [3,3,9,22] by kernel_rfl).symm.trans hts);obtain ⟨u,hu,hk⟩:=hc 3 v rfl;obtain rfl:22=u:=oI hu;subst e;simp only [Cell.okWide,Cell.ok,Tryz.underlying22] at hk;obtain ⟨_,_,_,hs,row,cells,hsh,_⟩:=hk;refine ⟨hs,?_⟩;unfold World.shape? at hsh;split at hsh
 ·next c t fr hb=>exact ⟨c,t,fr,hb⟩
 ·cases hsh
end
end
end Go.Proofs.YtoabjjimjldcfaaGreatDoor
end
section
set_option linter.unusedVariables false
set_option maxRecDepth 100000
namespace Go.Proofs.YtoabjjimjldcfaaGreatDoor
open Go Go.Ab
noncomputable def L4:FD:=cD Tryz.f46 []
theorem Je (a:OA)(n c:Nat)(h:Heap)(Q:VH)(hx:xN (dU SS.P 35 (.slice a n c)) h fun B1 g2=>Q (.func (.func 68) ⟨[]⟩ ⟨[(pA (h.next))]⟩) g2):FW SS 46 [(.slice a n c)] h Q:=cE L4 Tryz.func46 (aj hx)
noncomputable def nz:FD:=cD Tryz.f68 [([1,0,0],[0,5,6,7])]
abbrev jH (ky:Nat)(a:OA)(n c:Nat)(i:Nat):LV:=[(.func (.yield ky) ⟨[]⟩ ⟨[]⟩),(.slice a n c),(iA n),(iA i)]
theorem Jj (ky kc:Nat)(h:Heap)(Q:VH)(hx:xL (ag SS.P 35 h (pA kc)) fun a1 n2 c3=>LL SS nz [1,0,0] [(.func (.yield ky) ⟨[]⟩ ⟨[]⟩),(.slice a1 n2 c3),(iA n2),(.int .i64 0)] h (KK SS nz [1,0] [] (EE SS nz Q))):FW SS 68 [(.func (.yield ky) ⟨[]⟩ ⟨[]⟩),(pA kc)] h Q:=cE nz Tryz.func68 (aj hx)
theorem qU (ky kc:Nat)(a:OA)(n c:Nat)(Inv:Nat->Nat->Heap->Prop)(Q:VH)(step: ∀ (mz:Nat) (i:Nat) (zz:Nat->Value) (h:Heap),Inv mz i h->az (decide (((i:Int):Int) < (n:Int))) (xP (ah SS.P 35 (.slice a n c) (iA i)) fun p4=>xA (ag SS.P 39 h (.pointer (some p4))) fun c5=>xN (aB SS.P 39) h fun B6 g7=>xU (ai SS.P 39 (pA (h.next)) (.agg ⟨c5⟩) g7) g7 fun u8 g9=>xA (ag SS.P 39 g9 (pA (h.next))) fun c10=>FW SS (YB+ky) [(.agg ⟨c10⟩)] g9 fun v11 h12=>yB v11 fun b13=>az (!b13) (Q (.tuple ⟨[]⟩) h12) (aF (ga (jH ky a n c) Inv) mz [(.func (.yield ky) ⟨[]⟩ ⟨[]⟩),(.slice a n c),(iA n),(.int .i64 (wrap .i64 ((i:Int)+1)))] h12)) (Q (.tuple ⟨[]⟩) h))(mz:Nat){i:Nat}{h:Heap}(hi:Inv mz i h):LL SS nz [1,0,0] (jH ky a n c i) h (KK SS nz [1,0] [] (EE SS nz Q)):=
 cP (jH ky a n c) Inv (fun mz i zz h hi=>aj (step mz i zz h hi)) mz hi
noncomputable def appSeq_F:FD:=cD Tryz.f81 []
theorem Ee (a:OA)(n c kc:Nat)(h:Heap)(Q:VH)(hx:xN (dU SS.P 35 (.slice a n c)) h fun B1 g2=>RG SS appSeq_F [1,0,1,0] [(.slice a n c),(.func (.func 68) ⟨[]⟩ ⟨[(pA kc)]⟩),(pA (h.next)),undef,nA,undef,(.func (.func 68) ⟨[]⟩ ⟨[(pA kc)]⟩),undef,undef,undef,undef,undef,undef] g2 (KK SS appSeq_F [1,0,1,0] [] (EE SS appSeq_F Q))):FW SS 81 [(.slice a n c),(.func (.func 68) ⟨[]⟩ ⟨[(pA kc)]⟩)] h Q:=cE appSeq_F Tryz.func81 (aj hx)
theorem tP {ks:Nat}{x0 x1 x3 x4 x5 x6 x7 x8 x9 x10 x11 x12:Value}{h:Heap}{Q:VH}(hx:xL (ag SS.P 35 h (pA ks)) fun a1 n2 c3=>Q (.slice a1 n2 c3) h):(KK SS appSeq_F [1,0,1,0] [] (EE SS appSeq_F Q)) .normal [x0,x1,(pA ks),x3,x4,x5,x6,x7,x8,x9,x10,x11,x12] h:=aj hx
theorem tY {ks:Nat}{q:LV}{x0 x1 x3 x4 x5 x6 x8 x9 x10 x11 x12:Value}{h:Heap}{Q:cz}(hx:xN (aB SS.P 39) h fun B1 g2=>xU (ai SS.P 39 (pA (h.next)) (.agg ⟨q⟩) g2) g2 fun u3 g4=>Q .normal [x0,x1,(pA ks),x3,x4,(pA (h.next)),x6,(.agg ⟨q⟩),x8,x9,x10,x11,x12] g4):TT SS appSeq_F [1,0,1,0,0] [x0,x1,(pA ks),x3,x4,x5,x6,(.agg ⟨q⟩),x8,x9,x10,x11,x12] h Q:=aj hx
theorem tL {ks kv:Nat}{x0 x1 x3 x4 x6 x7 x8 x9 x10 x11 x12:Value}{h:Heap}{Q:cz}(hx:xL (ag SS.P 35 h (pA ks)) fun a1 n2 c3=>xA (ag SS.P 39 h (pA kv)) fun c4=>xR (an SS.P 35 1 [(0,(.agg ⟨c4⟩))]) h fun B5 n6 c7 g8=>xE (aO SS.P 35 35 (.slice a1 n2 c3) (sA (h.next) n6 c7) g8) g8 fun a9 n10 c11 u12 g13=>xU (ai SS.P 35 (pA ks) (.slice a9 n10 c11) g13) g13 fun u14 g15=>Q .normal [x0,x1,(pA ks),x3,x4,(pA kv),x6,x7,(.slice a1 n2 c3),(.agg ⟨c4⟩),(sA (h.next) n6 c7),(.slice a9 n10 c11),x12] g15):TT SS appSeq_F [1,0,1,0,1] [x0,x1,(pA ks),x3,x4,(pA kv),x6,x7,x8,x9,x10,x11,x12] h Q:=aj hx
noncomputable def Lo:FD:=cD Tryz.f67 []
theorem Kj (kc:Nat)(h:Heap)(Q:VH)(hx:FW SS 81 [nA,(.func (.func 68) ⟨[]⟩ ⟨[(pA kc)]⟩)] h fun v1 h2=>yL v1 fun a3 n4 c5=>Q (.slice a3 n4 c5) h2):FW SS 67 [(.func (.func 68) ⟨[]⟩ ⟨[(pA kc)]⟩)] h Q:=cE Lo Tryz.func67 (aj hx)
noncomputable def FC:FD:=cD Tryz.f45 []
theorem BL (kc:Nat)(h:Heap)(Q:VH)(hx:FW SS 67 [(.func (.func 68) ⟨[]⟩ ⟨[(pA kc)]⟩)] h fun v1 h2=>yL v1 fun a3 n4 c5=>FW SS 48 [(.slice a3 n4 c5),(.func (.func 47) ⟨[]⟩ ⟨[]⟩)] h2 fun v6 h7=>v6=(.tuple ⟨[]⟩)/\Q (.slice a3 n4 c5) h7):FW SS 45 [(.func (.func 68) ⟨[]⟩ ⟨[(pA kc)]⟩),(.func (.func 47) ⟨[]⟩ ⟨[]⟩)] h Q:=cE FC Tryz.func45 (aj hx)
noncomputable def aQ:FD:=cD Tryz.f25 [([1,1,1,1,1,0,1,0,0],[1,2,4,5,6]),([1,1,1,1,1,0,1,0,0,1,0,0,1,0,0],[1,2,4,5,6,43,44,45]),([1,1,1,1,1,1,1,0,1,0,0],[2,67,68,69])]
abbrev cq (k k2 ke:Nat)(i:Nat)(t:OA)(tn tc:Nat):LV:=[(pA k),(pA k2),(.slice t tn tc),(.map (some ke)),(iA i)]
abbrev di (k k2 ke:Nat)(b:OA)(m d i:Nat)(j:Nat)(t:OA)(tn tc:Nat):LV:=[(pA k),(pA k2),(.slice t tn tc),(.map (some ke)),(iA i),(.slice b m d),(iA m),(iA j)]
abbrev d8 (k2:Nat)(a:OA)(n c:Nat)(i:Nat):LV:=[(pA k2),(.slice a n c),(iA n),(iA i)]
theorem Fb (mv:LV)(h:Heap)(Q:VH)(hx:xN (dU SS.P 24 (.agg ⟨mv⟩)) h fun B1 g2=>xN (aB SS.P 24) g2 fun B3 g4=>xA (ag SS.P 24 g4 (pA (h.next))) fun c5=>FW SS 23 [(.agg ⟨c5⟩)] g4 fun v6 h7=> ∃ cs8:LV,∃ n9:Int,v6=(.tuple ⟨[(.agg ⟨cs8⟩),(.int .i64 n9)]⟩)/\xU (ai SS.P 24 (pA (h.next)) (.agg ⟨cs8⟩) h7) h7 fun u10 g11=>az (((n9:Int) != 0)) (xA (aH SS.P 24 []) fun c12=>xU (ai SS.P 24 (pA (g2.next)) (.agg ⟨c12⟩) g11) g11 fun u13 g14=>dG SS [((pA (g2.next)),some 24),((.int .i64 n9),none)] g14 Q) (xP (af SS.P 24 (pA (h.next)) 1) fun p15=>xI .i64 (ag SS.P 3 g11 (.pointer (some p15))) fun n16=>xR (an SS.P 48 1 [(0,(.int .i64 n16))]) g11 fun B17 n18 c19 g20=> ∃ B21:Blk,oJ SS.P 45=some (B21,fun k=> .map (some k))/\xP (af SS.P 24 (pA (h.next)) 1) fun p22=>xI .i64 (ag SS.P 3 (g20.push B21) (.pointer (some p22))) fun n23=>xU (ic SS.P 45 (.map (some g20.next)) (.int .i64 n23) (.bool true) (g20.push B21)) (g20.push B21) fun u24 g25=>LL SS aQ [1,1,1,1,1,0,1,0,0] (cq (h.next) (g2.next) (g20.next) 0 (some ⟨g11.next,0,none⟩) n18 c19) g25 (KK SS aQ [1,1,1,1,1,0,1,0] [] (EE SS aQ Q)))):FW SS 25 [(.agg ⟨mv⟩)] h Q:=cE aQ Tryz.func25 (aj hx)
theorem oA (mv:LV)(k k2 ke:Nat)(Inv:Nat->Nat->OA->Nat->Nat->Heap->Prop)(Q:VH)(step: ∀ (mz:Nat) (i:Nat) (t:OA) (tn tc:Nat) (zz:Nat->Value) (h:Heap),Inv mz i t tn tc h->az (decide (((i:Int):Int) < (tn:Int))) (xP (af SS.P 24 (pA k) 3) fun p26=>xL (ag SS.P 22 (room h 13) (.pointer (some p26))) fun a27 n28 c29=>xP (ah SS.P 48 (.slice t tn tc) (iA i)) fun p30=>xI .i64 (ag SS.P 3 (room h 13) (.pointer (some p30))) fun n31=>xP (ah SS.P 22 (.slice a27 n28 c29) (.int .i64 n31)) fun p32=>xP (af SS.P 37 (.pointer (some p32)) 1) fun p33=>xL (ag SS.P 35 (room h 13) (.pointer (some p33))) fun a34 n35 c36=>FW SS 46 [(.slice a34 n35 c36)] (room h 13) fun v37 h38=>yF v37 fun g39 a40 c41=>FW SS 45 [(.func (.func g39) ⟨a40⟩ ⟨c41⟩),(.func (.func 47) ⟨[]⟩ ⟨[]⟩)] h38 fun v42 h43=>yL v42 fun a44 n45 c46=>LL SS aQ [1,1,1,1,1,0,1,0,0,1,0,0,1,0,0] (di k k2 ke a44 n45 c46 i 0 t tn tc) h43 (KK SS aQ [1,0,0,1,0] [1,1,1,1,1,0,1,0,0] (RR aQ [1,1,1,1,1,0,1,0,0] (xg (cq k k2 ke) Inv) mz (KK SS aQ [1,1,1,1,1,0,1,0] [] (EE SS aQ Q))))) (xA (ag SS.P 24 h (pA k)) fun c47=>FW SS 43 [(.agg ⟨c47⟩),(.slice t tn tc)] h fun v48 h49=>yA v48 fun c50=>xU (ai SS.P 24 (pA k2) (.agg ⟨c50⟩) h49) h49 fun u51 g52=>xP (af SS.P 24 (pA k2) 3) fun p53=>xL (ag SS.P 22 g52 (.pointer (some p53))) fun a54 n55 c56=>LL SS aQ [1,1,1,1,1,1,1,0,1,0,0] (d8 k2 a54 n55 c56 0) g52 (KK SS aQ [1,1,1,1,1,1,1,0,1,0] [] (EE SS aQ Q))))(mz:Nat){i:Nat}{t:OA}{tn tc:Nat}{h:Heap}(hi:Inv mz i t tn tc h):LL SS aQ [1,1,1,1,1,0,1,0,0] (cq k k2 ke i t tn tc) h (KK SS aQ [1,1,1,1,1,0,1,0] [] (EE SS aQ Q)):=
 xp (cq k k2 ke) Inv (fun mz i t tn tc zz h hi=>aj (step mz i t tn tc zz h hi)) mz hi
theorem pe (mv:LV)(k k2 ke:Nat)(b:OA)(m d:Nat)(Inv:Nat->Nat->OA->Nat->Nat->Heap->Prop)(mz i:Nat)(Inv2:Nat->Nat->OA->Nat->Nat->Heap->Prop)(Q:VH)(step: ∀ (mz2:Nat) (j:Nat) (t:OA) (tn tc:Nat) (zz:Nat->Value) (h:Heap),Inv2 mz2 j t tn tc h->az (decide (((j:Int):Int) < (m:Int))) (xP (ah SS.P 35 (.slice b m d) (iA j)) fun p57=>xA (ag SS.P 39 h (.pointer (some p57))) fun c58=>xN (aB SS.P 39) h fun B59 g60=>xU (ai SS.P 39 (pA (h.next)) (.agg ⟨c58⟩) g60) g60 fun u61 g62=>xP (af SS.P 39 (pA (h.next)) 3) fun p63=>xI .i64 (ag SS.P 3 g62 (.pointer (some p63))) fun n64=>xB (Cu SS.P 45 (.map (some ke)) (.int .i64 n64) false g62) fun b65=>az (!b65) (xP (af SS.P 39 (pA (h.next)) 3) fun p66=>xI .i64 (ag SS.P 3 g62 (.pointer (some p66))) fun n67=>xU (ic SS.P 45 (.map (some ke)) (.int .i64 n67) (.bool true) g62) g62 fun u68 g69=>xP (af SS.P 39 (pA (h.next)) 3) fun p70=>xI .i64 (ag SS.P 3 g69 (.pointer (some p70))) fun n71=>xR (an SS.P 48 1 [(0,(.int .i64 n71))]) g69 fun qG n73 c74 g75=>xE (aO SS.P 48 48 (.slice t tn tc) (sA (g69.next) n73 c74) g75) g75 fun a76 n77 c78 u79 g80=>aF (xg (di k k2 ke b m d i) Inv2) mz2 [(pA k),(pA k2),(.slice a76 n77 c78),(.map (some ke)),(iA i),(.slice b m d),(iA m),(.int .i64 (wrap .i64 ((j:Int)+1)))] g80) (aF (xg (di k k2 ke b m d i) Inv2) mz2 [(pA k),(pA k2),(.slice t tn tc),(.map (some ke)),(iA i),(.slice b m d),(iA m),(.int .i64 (wrap .i64 ((j:Int)+1)))] g62)) (aF (xg (cq k k2 ke) Inv) mz [(pA k),(pA k2),(.slice t tn tc),(.map (some ke)),(.int .i64 (wrap .i64 ((i:Int)+1)))] h))(mz2:Nat){j:Nat}{t:OA}{tn tc:Nat}{h:Heap}(hi:Inv2 mz2 j t tn tc h):LL SS aQ [1,1,1,1,1,0,1,0,0,1,0,0,1,0,0] (di k k2 ke b m d i j t tn tc) h (KK SS aQ [1,0,0,1,0] [1,1,1,1,1,0,1,0,0] (RR aQ [1,1,1,1,1,0,1,0,0] (xg (cq k k2 ke) Inv) mz (KK SS aQ [1,1,1,1,1,0,1,0] [] (EE SS aQ Q)))):=
 xp (di k k2 ke b m d i) Inv2 (fun mz2 j t tn tc zz h hi=>aj (step mz2 j t tn tc zz h hi)) mz2 hi
theorem oy (mv:LV)(k2:Nat)(a:OA)(n c:Nat)(Inv3:Nat->Nat->Heap->Prop)(Q:VH)(step: ∀ (mz3:Nat) (i:Nat) (zz:Nat->Value) (h:Heap),Inv3 mz3 i h->az (decide (((i:Int):Int) < (n:Int))) (xP (ah SS.P 22 (.slice a n c) (iA i)) fun p81=>xA (ag SS.P 37 h (.pointer (some p81))) fun c82=>xN (aB SS.P 37) h fun B83 g84=>xU (ai SS.P 37 (pA (h.next)) (.agg ⟨c82⟩) g84) g84 fun u85 g86=>xP (af SS.P 37 (pA (h.next)) 1) fun p87=>xL (ag SS.P 35 g86 (.pointer (some p87))) fun a88 n89 c90=>FW SS 48 [(.slice a88 n89 c90),(.func (.func 47) ⟨[]⟩ ⟨[]⟩)] g86 fun v91 h92=>v91=(.tuple ⟨[]⟩)/\aF (ga (d8 k2 a n c) Inv3) mz3 [(pA k2),(.slice a n c),(iA n),(.int .i64 (wrap .i64 ((i:Int)+1)))] h92) (xA (ag SS.P 24 h (pA k2)) fun c93=>xU (ai SS.P 24 (pA k2) (.agg ⟨c93⟩) h) h fun u94 g95=>dG SS [((pA k2),some 24),((.int .i64 0),none)] g95 Q))(mz3:Nat){i:Nat}{h:Heap}(hi:Inv3 mz3 i h):LL SS aQ [1,1,1,1,1,1,1,0,1,0,0] (d8 k2 a n c i) h (KK SS aQ [1,1,1,1,1,1,1,0,1,0] [] (EE SS aQ Q)):=
 cP (d8 k2 a n c) Inv3 (fun mz3 i zz h hi=>aj (step mz3 i zz h hi)) mz3 hi
section
theorem Nc:SS.pr 48=some (xW 47 4 FA):=by kernel_rfl
abbrev Mm:Value:= .func (.func 47) ⟨[]⟩ ⟨[]⟩
theorem zw {h0 h:Heap}(w0:Wf h0)(ok:Ok h0 h){v:Value}{l:List MArc}(o:OwnK h0 h 39 4 v (l.map aI))(hl:l.length<=100000):FW SS 48 [v,Mm] h (fun r h'=>r = .tuple ⟨[]⟩/\OwnK h0 h' 39 4 v ((dd l).map aI)/\Ok h0 h'/\(∀ j B,h.get j=some B->aM v≠some j->h'.get j=some B)/\h'.next=h.next):=by
 have hlen:(l.map aI).length=l.length:=lM ..;by_cases h0l:l.length=0
 ·obtain rfl:=eq_nil_of_length_eq_zero h0l;obtain ⟨a,c,rfl⟩:=o.slc;refine rz (h':=h) (v:= .tuple ⟨[]⟩) (by kernel_rfl) Nc (fun cf=> ?_) ⟨rfl,o,ok,fun j B hj _=>hj,rfl⟩;rfl
 ·obtain ⟨hr,⟨_,he⟩ | ⟨k,off,cs,c,rfl,h2,h3,h4,h5,h6⟩⟩:=o
  ·exact absurd (by rw [<-hlen,he]; rfl) h0l
  rw [hlen] at h4 h6;have h7:=Nat.mul_le_mul_right 4 h6;have hF:((dd l).map aI).flatten.length=l.length*4:=by
   rw [eH (sz:=4) (fun r hr=>by obtain ⟨x,_,rfl⟩:=mem_map.1 hr; rfl),lM,js]
  have hsl:((dd l).map aI).length=l.length:=by rw [lM,js]
  refine rz (h':=h.set k (.cells (cs.take off++((dd l).map aI).flatten++cs.drop (off+l.length*4)) 39 4 true)) (v:= .tuple ⟨[]⟩) (by kernel_rfl) Nc (fun cf=> ?_) ⟨rfl,⟨fun r hr=>by obtain ⟨x,_,rfl⟩:=mem_map.1 hr; rfl,.inr ⟨k,off,_,c,by rw [hlen,hsl],h2,by rw [Heap.get_set,if_pos rfl],?_,?_,by rw [hsl]; exact h6⟩⟩,ok.set _ h2 (ok.wf _ _ h3) w0,fun j B hj hne=> ?_,rfl⟩
  ·rw [hlen];show (if 47=47 then (if l.length=0 then some (Value.tuple ⟨[]⟩,h) else match h.get k with
    | some (.cells cs t sz true)=>if l.length < 4611686018427387904/\off+l.length*4<=cs.length then (FA ((cs.drop off).take (l.length*4))).map fun cs'=>(Value.tuple ⟨[]⟩,h.set k (.cells (cs.take off++cs'++cs.drop (off+l.length*4)) t sz true)) else none
    | _=>none) else none)=_
   rw [if_pos rfl,if_neg h0l,h3];dsimp only;rw [if_pos (⟨Nat.lt_of_le_of_lt hl (by decide),by omega⟩:l.length < 4611686018427387904/\off+l.length*4<=cs.length),h4];unfold FA;rw [xM]; rfl
  ·rw [hsl,List.append_assoc,drop_append,drop_eq_nil_of_le (by rw [length_take]; omega),nil_append,show off - (cs.take off).length=0 by rw [length_take]; omega,List.drop_zero,List.take_append_of_le_length (by omega),take_of_length_le (by omega)]
  ·rw [length_append,length_append,length_take,List.length_drop,hF]; omega
  ·rw [Heap.get_set,if_neg (fun e=>hne (by rw [e]; rfl))]; exact hj
theorem Ok.del {h0 h:Heap}(a:Ok h0 h){k:Nat}(hk:h0.next<=k)(w0:Wf h0):Ok h0 (h.del k):=by
 refine ⟨Heap.wf_del a.wf k,fun j B hj=> ?_,a.nx⟩;rw [Heap.get_del,if_neg (fun e=>by have:=w0 _ _ hj; omega)];exact a.ext _ _ hj
abbrev Eo (kc:Nat):Value:= .func (.func 68) ⟨[]⟩ ⟨[pA kc]⟩
abbrev OP (ks kc:Nat):List Value:=[nA,Eo kc,pA ks,undef,nA,undef,Eo kc,undef,undef,undef,undef,undef,undef]
theorem Oo:j9 (dz [1,0,1,0,0] appSeq_F.body) (dz [1,0,1,0,1] appSeq_F.body)=true:=by kernel_rfl
noncomputable def LB (st:LSt)(ks kc:Nat):Blk:= .loop st (OP ks kc) [7] (dz [1,0,1,0,0] appSeq_F.body) (dz [1,0,1,0,1] appSeq_F.body) Oo
structure YI (hb g:Heap)(ks ky kc:Nat)(l:List MArc):Prop where
 ok:Ok hb g
 box: ∃ a n c,g.get ks=some (.cells [.slice a n c] 35 0 true)/\OwnK hb g 39 4 (.slice a n c) (l.map aI)/\ ∀ j,aM (.slice a n c)=some j->j≠ks/\j≠ky
 lp:g.get ky=some (LB .ready ks kc)
 gs:hb.next<=ks
 gy:hb.next<=ky
 ne:ks≠ky
theorem KH (a:Option Addr)(n c:Nat):dU SS.P 35 (.slice a n c)=some (.cells [.slice a n c] 35 0 true,gk):=by cases a <;> kernel_rfl
section
variable {hb g:Heap} {ks ky kc:Nat} {l:List MArc}
theorem HD (w:Wf hb)(yi:YI hb g ks ky kc l)(q:MArc)(hl:l.length<=100000):FW SS (YB+ky) [.agg ⟨aI q⟩] g (fun v g'=>v = .bool true/\YI hb g' ks ky kc (l++[q])):=by
 obtain ⟨ok,⟨a,n,c,hs,ow,ne⟩,lp,gs,gy,nk⟩:=yi;refine GB (X:=appSeq_F) (p:=[1,0,1,0]) (hc:=Oo) lp rfl rfl (by kernel_rfl) (by kernel_rfl) ?_;obtain ⟨u,p1,o1,a1⟩:=qH ok.wf q;have hks:=ok.wf _ _ hs;have hky:=ok.wf _ _ lp;have ok1:=ok.trans o1;refine tY (ks:=ks) (q:=aI q) ⟨_,zJ,u,p1,?_⟩;have hs1:=o1.ext _ _ hs;have lp1:=o1.ext _ _ lp;have ow1:=ow.ok o1;have hn1:=o1.nx;have hkv:=ok1.wf _ _ a1;generalize hkvg:g.next=kv at *;generalize u.app (g.push C7)=g1 at *;refine ⟨rfl,lp1,?_⟩;have get2: ∀ j B,j≠ky->g1.get j=some B->(g1.set ky (LB .busy ks kc)).get j=some B:=fun j B hj hB=>by rw [Heap.get_set,if_neg hj]; exact hB
 have ok2:Ok hb (g1.set ky (LB .busy ks kc)):=ok1.set _ gy (by omega) w;have hs2:=get2 ks _ nk hs1;have a2:AB (g1.set ky (LB .busy ks kc)) kv q:=get2 kv _ (by omega) a1;have lp2:(g1.set ky (LB .busy ks kc)).get ky=some (LB .busy ks kc):=by rw [Heap.get_set,if_pos rfl]
 have ow2:=ow1.keep (h':=g1.set ky (LB .busy ks kc)) fun j B hj hB=>get2 j B (ne j hj).2 hB;have hn2:(g1.set ky (LB .busy ks kc)).next=g1.next:=rfl;show TT SS appSeq_F [1,0,1,0,1] _ (g1.set ky (LB .busy ks kc)) _;generalize g1.set ky (LB .busy ks kc)=g2 at *;have o3:=(Ok.refl ok2.wf).push (.cells (aI q) 39 4 true);have k3:=aq g2 (.cells (aI q) 39 4 true);obtain ⟨b',n',c',u4,h4,ow4,ok4,kp4,nw4,nx4⟩:=zv w (ok2.trans o3) (ow2.ok o3) k3 hl;have hs4:=kp4 ks _ (o3.ext _ _ hs2) (fun e=>(ne ks e).1 rfl);have lp4:=kp4 ky _ (o3.ext _ _ lp2) (fun e=>(ne ky e).2 rfl);have hn3:(g2.push (.cells (aI q) 39 4 true)).next=g2.next+1:=rfl;have st:=j6 (t:=35) (i:=0) NP hs4 (by simp) (v:= .slice b' n' c') (by cases b' <;> rfl) (by cases b' <;> rfl);have ld:ag SS.P 35 g2 (pA ks)=some (.slice a n c):=cM ti A2 hs2 (by simp);refine tL (ks:=ks) (kv:=kv) ⟨a,n,c,ld,_,ft G0 F9 rI a2 (by simp [aI]),_,_,_,M3 q,b',n',c',u4,h4,_,st,?_⟩;generalize u4.app (g2.push (.cells (aI q) 39 4 true))=g4 at *;dsimp only [Upd.app];refine ⟨?_,true,.ready,rfl,rfl,?_⟩
 ·rw [Heap.get_set,if_neg (Ne.symm nk)]; exact lp4
 have ne': ∀ j,aM (.slice b' n' c')=some j->j≠ks/\j≠ky:=fun j hj=>by
  rcases nw4 j hj with h | h
  ·omega
  ·exact ne j h
 have hks4:=ok4.wf _ _ hs4;have hky4:=ok4.wf _ _ lp4;refine ⟨(ok4.set _ gs hks4 w).set _ gy hky4 w,⟨b',n',c',?_,ow4.keep fun j B hj hB=> ?_,ne'⟩,?_,gs,gy,nk⟩
 ·rw [Heap.get_set,if_neg nk,Heap.get_set,if_pos rfl]; rfl
 ·rw [Heap.get_set,if_neg (ne' j hj).2,Heap.get_set,if_neg (ne' j hj).1]; exact hB
 ·show (Heap.set _ ky (LB .ready ks kc)).get ky=_;rw [Heap.get_set,if_pos rfl]
theorem Kx {a:Option Addr}{n c:Nat}{L:List MArc}(w:Wf hb)(yi:YI hb g ks ky kc [])(hc:hb.get kc=some (.cells [.slice a n c] 35 0 true))(r:ArcRow hb (.slice a n c) L)(hl:L.length<=100000):FW SS 68 [.func (.yield ky) ⟨[]⟩ ⟨[]⟩,pA kc] g (fun _ g'=>YI hb g' ks ky kc L):=by
 have hn:=r.len;have ld:ag SS.P 35 g (pA kc)=some (.slice a n c):=cM ti A2 (yi.ok.ext _ _ hc) (by simp);refine Jj ky kc g _ ⟨a,n,c,ld,?_⟩;refine qU ky kc a n c (fun mz i g=>i<=L.length/\mz=L.length - i/\YI hb g ks ky kc (L.take i)) _ (fun mz i=> ?_) L.length (i:=0) ⟨zero_le _,rfl,by simpa using yi⟩;clear ld yi;intros; rename_i gg hin;obtain ⟨f1,rfl,yi⟩:=hin;refine ae (fun q=> ?_) (fun q=> ?_)
 ·have q:=dT q;obtain ⟨x,hx⟩: ∃ x,L[i]?=some x:=⟨_,gE (by omega)⟩
  obtain ⟨b1,o1,d1,d2,_⟩:=(r.ok yi.ok).at_ hx;obtain ⟨u,p1,o2,a2⟩:=qH yi.ok.wf x;refine ⟨_,d1,_,d2,_,zJ,u,p1,_,ft G0 F9 rI a2 (by simp [aI]),?_⟩;have y2:YI hb (u.app (gg.push C7)) ks ky kc (L.take i):=by
   obtain ⟨ok,⟨a,n,c,hs,ow,ne⟩,lp,gs,gy,nk⟩:=yi;exact ⟨ok.trans o2,⟨a,n,c,o2.ext _ _ hs,ow.ok o2,ne⟩,o2.ext _ _ lp,gs,gy,nk⟩
  refine (HD w y2 x (by rw [length_take]; omega)).mono ?_;rintro _ g3 ⟨rfl,y3⟩;refine ⟨_,rfl,ae (fun e=>by cases e) (fun _=> ?_)⟩;rw [aG (n:=L.length) (by omega) (by omega)];refine cA (L.length - (i+1)) (by omega) ⟨by omega,rfl,?_⟩;rw [take_add_one,hx]; exact y3
 ·have q:=dF q;rw [take_of_length_le (by omega)] at yi;exact yi
theorem Dy {h:Heap}{a:Option Addr}{n c:Nat}{L:List MArc}(w:Wf h)(hc:h.get kc=some (.cells [.slice a n c] 35 0 true))(r:ArcRow h (.slice a n c) L)(hl:L.length<=100000):FW SS 81 [nA,Eo kc] h (fun v h'=>OwnK h h' 39 4 v (L.map aI)/\Ok h h'):=by
 refine Ee none 0 0 kc h _ ⟨_,KH none 0 0,?_⟩;have o1:=(Ok.refl w).push (.cells [nA] 35 0 true);have k1:=aq h (.cells [nA] 35 0 true);have hn1:(h.push (.cells [nA] 35 0 true)).next=h.next+1:=rfl;generalize h.push (.cells [nA] 35 0 true)=g1 at *;refine Nl (f:= .tmp 6) (ps:= #[7]) (g:=68) (first:=[]) (cap:=[pA kc]) (hc:=Oo) (by kernel_rfl) rfl rfl ⟨by unfold YB; decide,by kernel_rfl⟩ ?_;show FW SS 68 [.func (.yield g1.next) ⟨[]⟩ ⟨[]⟩,pA kc] (g1.push (LB .ready h.next kc)) _;have o2:=(Ok.refl o1.wf).push (LB .ready h.next kc);have k2:=aq g1 (LB .ready h.next kc);have yi:YI h (g1.push (LB .ready h.next kc)) h.next g1.next kc []:=⟨o1.trans o2,⟨none,0,0,o2.ext _ _ k1,OwnK.nil _ _ _ _,fun j e=>by cases e⟩,k2,le_refl _,by omega,by omega⟩
 refine (Kx w yi hc r hl).mono ?_;rintro v g3 ⟨ok,⟨a,n,c,hs,ow,ne⟩,lp,gs,gy,nk⟩;refine ⟨.normal,by rw [lp]; rfl,?_⟩;have ok3:Ok h (g3.del g1.next):=Ok.del ok gy w;have hs3:(g3.del g1.next).get h.next=some (.cells [.slice a n c] 35 0 true):=by rw [Heap.get_del,if_neg nk]; exact hs
 have ld:ag SS.P 35 (g3.del g1.next) (pA h.next)=some (.slice a n c):=cM ti A2 hs3 (by simp);exact tP (ks:=h.next) ⟨a,n,c,ld,ow.keep fun j B hj hB=>(by rw [Heap.get_del,if_neg (ne j hj).2]; exact hB),ok3⟩
theorem Kf {h:Heap}{a:Option Addr}{n c:Nat}{L:List MArc}(w:Wf h)(hc:h.get kc=some (.cells [.slice a n c] 35 0 true))(r:ArcRow h (.slice a n c) L)(hl:L.length<=100000):FW SS 67 [Eo kc] h (fun v h'=>OwnK h h' 39 4 v (L.map aI)/\Ok h h'):=by
 refine Kj kc h _ ((Dy w hc r hl).mono ?_);rintro v g ⟨o,ok⟩;obtain ⟨a',c',rfl⟩:=o.slc;exact ⟨_,_,_,rfl,o,ok⟩
theorem BM {h:Heap}{a:Option Addr}{n c:Nat}{L:List MArc}(w:Wf h)(hc:h.get kc=some (.cells [.slice a n c] 35 0 true))(r:ArcRow h (.slice a n c) L)(hl:L.length<=100000):FW SS 45 [Eo kc,Mm] h (fun v h'=>OwnK h h' 39 4 v ((dd L).map aI)/\Ok h h'):=by
 refine BL kc h _ ((Kf w hc r hl).mono ?_);rintro v g ⟨o,ok⟩;obtain ⟨a',c',rfl⟩:=o.slc;refine ⟨_,_,_,rfl,(zw w ok o hl).mono ?_⟩;rintro v g' ⟨rfl,o2,ok2,_⟩;exact ⟨rfl,o2,ok2⟩
theorem Kb {h:Heap}{a:Option Addr}{n c:Nat}(w:Wf h):FW SS 46 [.slice a n c] h (fun v h'=>v=Eo h.next/\h'.get h.next=some (.cells [.slice a n c] 35 0 true)/\Ok h h'):=
 Je a n c h _ ⟨_,KH a n c,rfl,aq h _,(Ok.refl w).push _⟩
end
end
section
theorem Hl (k:Int): ∀ l:List Int,mV SS.P 3 (.int .i64 k) (l.map i9)=some (if k∈l then some (.bool true) else none)
 | []=>rfl
 | x::l=>by
  show (match pj SS.P 3 (.int .i64 k) (.int .i64 x) with | some true=>some (some (Value.bool true)) | some false=>mV SS.P 3 (.int .i64 k) (l.map i9) | none=>none)=_;rw [FP];by_cases h:k=x
  ·subst h;rw [if_pos (mem_cons_self ..)];simp
  ·rw [show decide (k=x)=false by simpa using h];dsimp only;rw [Hl k l];by_cases h2:k∈l
   ·rw [if_pos h2,if_pos (mem_cons_of_mem _ h2)]
   ·rw [if_neg h2,if_neg (fun e=>by rcases mem_cons.1 e with e | e; exact h e; exact h2 e)]
theorem NX:bW SS.P 4=some (.bool false):=by kernel_rfl
theorem Ln {h:Heap}{k:Nat}{l:List Int}(hk:h.get k=some (.map (l.map i9)))(x:Int):Cu SS.P 45 (.map (some k)) (.int .i64 x) false h=some (.bool (decide (x∈l))):=by
 unfold Cu aZ;dsimp only;rw [LC];show (match (match h.get k with | some (.map es)=>some es | _=>none),bW SS.P 4 with
  | some es,some z=>if iX SS.P 3 (.int .i64 x) then match mV SS.P 3 (.int .i64 x) es with
   | some (some v)=>some v
   | some none=>some z
   | none=>none else none
  | _,_=>none)=_
 rw [hk,NX]; dsimp only;rw [show iX SS.P 3 (.int .i64 x)=true by kernel_rfl,if_pos rfl,Hl];by_cases h:x∈l
 ·rw [if_pos h]; simp [h]
 ·rw [if_neg h]; simp [h]
structure MI (hb:Heap)(ke:Nat)(ord:List Nat)(g:Heap):Prop where
 row:g.get ke=some (.map ((ord.map fun x:Nat=>(x:Int)).map i9))
 new:hb.next<=ke
 ok:Ok hb g
theorem MI.trans {hb:Heap}{ke:Nat}{ord:List Nat}{g g':Heap}(m:MI hb ke ord g)(o:Ok g g'):MI hb ke ord g':=⟨o.ext _ _ m.row,m.new,m.ok.trans o⟩
theorem ordI_mem {ord:List Nat}{Y:Nat}:(Y:Int)∈ord.map (fun x:Nat=>(x:Int))↔Y∈ord:=by
 rw [mem_map];constructor
 ·rintro ⟨a,h1,h2⟩;obtain rfl:a=Y:=by omega
  exact h1
 ·exact fun h=>⟨Y,h,rfl⟩
theorem FX {ord:List Nat}{Y:Nat}(h:Y ∉ ord):jr (ord.map fun x:Nat=>(x:Int)) (Y:Int)=(ord++[Y]).map fun x:Nat=>(x:Int):=by
 unfold jr;rw [if_neg (fun e=>h (ordI_mem.1 e)),map_append]; rfl
def OE (hb:Heap)(ke:Nat)(b:Option Addr)(m d:Nat)(l:List MArc)(ord0:List Nat)(mz3 j:Nat)(t:Option Addr)(tn tc:Nat)(g:Heap):Prop:=j<=l.length/\mz3=l.length - j/\OwnG hb g 3 (.slice t tn tc) (((l.take j).foldl cx ord0).map iv)/\MI hb ke ((l.take j).foldl cx ord0) g/\OwnK hb g 39 4 (.slice b m d) (l.map aI)/\(∀ j,aM (.slice b m d)=some j->j≠ke/\aM (.slice t tn tc)≠some j)/\ ∀ j,aM (.slice t tn tc)=some j->ke≠j
def Nt (hb:Heap)(M:Mach)(N ke:Nat)(mz i:Nat)(t:Option Addr)(tn tc:Nat)(g:Heap):Prop:= ∃ ord:List Nat,OrdOk N ord/\i<=ord.length/\mz=N - i/\ji M (N+1 - i) i ord=bV M/\OwnG hb g 3 (.slice t tn tc) (ord.map iv)/\MI hb ke ord g/\ ∀ j,aM (.slice t tn tc)=some j->ke≠j
section
variable {M:Mach} {b:Option Addr} {m d:Nat}
theorem xD {hb gS:Heap}(w:Wf hb)(gd:Good M)(hN:M.states.length<=300){ke k k2:Nat}{l:List MArc}(hl: ∀ q∈l,ArcIn M.states.length q)(hll:l.length<=100000){ord0:List Nat}(oo:OrdOk M.states.length ord0){i:Nat}(hi:i < ord0.length)(hg:ji M (M.states.length+1 - (i+1)) (i+1) (l.foldl cx ord0)=bV M){t:Option Addr}{tn tc:Nat}(hin:OE hb ke b m d l ord0 l.length 0 t tn tc gS)(Q:VH):
  LL SS aQ [1,1,1,1,1,0,1,0,0,1,0,0,1,0,0] (di k k2 ke b m d i 0 t tn tc) gS (KK SS aQ [1,0,0,1,0] [1,1,1,1,1,0,1,0,0] (RR aQ [1,1,1,1,1,0,1,0,0] (xg (cq k k2 ke) (Nt hb M M.states.length ke)) (M.states.length - i) (KK SS aQ [1,1,1,1,1,0,1,0] [] (EE SS aQ Q)))):=by
 refine pe [] k k2 ke b m d (Nt hb M M.states.length ke) (M.states.length - i) i (OE hb ke b m d l ord0) Q (fun mz3 j=> ?_) l.length (j:=0) hin;clear hin t tn tc;intro t tn tc;intros; rename_i g hin;obtain ⟨f1,rfl,ot,mi,ar,nb,nt⟩:=hin;have okj:OrdOk M.states.length ((l.take j).foldl cx ord0):=rD oo fun q hq=>by
  have h:=hl q (List.mem_of_mem_take hq);have h0:=h.t0;have h1:=h.t1;omega
 have hlen:=pG (l.take j) ord0;have hoN:=dy M.states.length okj.nd okj.lt;have hoN0:=dy M.states.length oo.nd oo.lt;have hml:m=l.length:=ArcRow.len ar.rd;refine ae (fun q1=> ?_) (fun q1=> ?_)
 ·have q1:=dT q1;have hj:j < l.length:=by omega
  obtain ⟨q,hq⟩: ∃ q,l[j]?=some q:=⟨_,gE hj⟩
  have hin:=hl q (List.mem_of_getElem? hq);obtain ⟨Y,hY⟩: ∃ Y:Nat,q.t=(Y:Int):=⟨q.t.toNat,by have:=hin.t0; omega⟩
  have hYt:q.t.toNat=Y:=by omega
  have ht:(l.take (j+1)).foldl cx ord0=cx ((l.take j).foldl cx ord0) q:=by
   rw [take_add_one,hq,foldl_append]; rfl
  have hw:wrap .i64 ((j:Int)+1)=((j+1:Nat):Int):=aG (n:=l.length) hj (by omega);obtain ⟨bb,o1,d1,d2,_⟩:=ArcRow.at_ ar.rd hq;generalize (l.take j).foldl cx ord0=ord at *;obtain ⟨u,p1,o2,a2⟩:=qH mi.ok.wf q;have l3:=a2.l3;rw [hY] at l3;have mi2:=mi.trans o2;have ot2:=ot.ok o2;have ar2:=ar.ok o2;have hke:=mi.ok.wf _ _ mi.row;have hnx:=o2.nx;refine ⟨_,d1,_,d2,_,zJ,u,p1,_,fz _ _,_,l3,_,Ln mi2.row _,?_⟩;generalize u.app (g.push C7)=g2 at *;rw [hw];refine ae (fun q2=> ?_) (fun q2=> ?_)
  ·have hne:Y ∉ ord:=fun e=>by
    rw [decide_eq_true (ordI_mem.2 e)] at q2; cases q2
   have up:=Ge mi2.row (Y:Int);rw [FX hne] at up;refine ⟨_,fz _ _,_,l3,_,up,_,fz _ _,?_⟩;dsimp only [Upd.app];have mi3:MI hb ke (ord++[Y]) (g2.set ke (.map (((ord++[Y]).map fun x:Nat=>(x:Int)).map i9))):=⟨by rw [Heap.get_set,if_pos rfl],mi.new,mi2.ok.set _ mi.new (by omega) w⟩
   have kp: ∀ (k':Nat)(B:Blk),k'≠ke->g2.get k'=some B->(g2.set ke (.map (((ord++[Y]).map fun x:Nat=>(x:Int)).map i9))).get k'=some B:=fun k' B hne hB=>by rw [Heap.get_set,if_neg hne]; exact hB
   have ot3:=ot2.keep fun k' B hk' hB=>kp k' B (fun e=>nt k' hk' e.symm) hB;have ar3:=ar2.keep fun k' B hk' hB=>kp k' B (nb k' hk').1 hB;have a3:AB _ g.next q:=kp _ _ (by omega) a2;have l33:=a3.l3;rw [hY] at l33;have hn3:(g2.set ke (.map (((ord++[Y]).map fun x:Nat=>(x:Int)).map i9))).next=g2.next:=rfl;generalize g2.set ke (.map (((ord++[Y]).map fun x:Nat=>(x:Int)).map i9))=g3 at *;have oP:=(Ok.refl mi3.ok.wf).push (.cells [.int .i64 (Y:Int)] 3 1 true);have kP:=aq g3 (.cells [.int .i64 (Y:Int)] 3 1 true);have hn4:(g3.push (.cells [.int .i64 (Y:Int)] 3 1 true)).next=g3.next+1:=rfl;obtain ⟨b',n',c',u2,b1,b2,b3,b4,b5,b6,b7⟩:=CG w (mi3.ok.trans oP) (ot3.ok oP) kP (by rw [lM]; omega);refine ⟨_,l33,_,_,_,xd _,b',n',c',u2,b1,?_⟩;dsimp only;have hA:cx ord q=ord++[Y]:=by unfold cx; rw [hYt,if_neg hne]
   refine tf (l.length - (j+1)) (by omega) ⟨by omega,rfl,?_,?_,(ar3.ok oP).keep fun k' B hk' hB=>b5 _ _ hB (nb k' hk').2,fun k' hk'=>⟨(nb k' hk').1,fun e=> ?_⟩,fun k' hk'=> ?_⟩
   ·rw [ht,hA,map_append]; exact b3
   ·rw [ht,hA];exact ⟨b5 _ _ (oP.ext _ _ mi3.row) (fun e=>nt _ e rfl),mi3.new,b4⟩
   ·rcases b6 k' e with h | h
    ·have h1:=(ar.lt mi.ok.wf hk').1;omega
    ·exact (nb k' hk').2 h
   ·rcases b6 k' hk' with h | h
    ·omega
    ·exact nt k' h
  ·have hm:Y∈ord:=Classical.byContradiction fun e=>by
    rw [decide_eq_false (fun h=>e (ordI_mem.1 h))] at q2; cases q2
   have hA:cx ord q=ord:=by unfold cx; rw [hYt,if_pos hm]
   exact tf (l.length - (j+1)) (by omega) ⟨by omega,rfl,by rw [ht,hA]; exact ot2,by rw [ht,hA]; exact mi2,ar2,nb,nt⟩
 ·have q1:=dF q1;have e:l.take j=l:=take_of_length_le (by omega);rw [e] at ot mi okj hlen hoN;rw [aG (n:=300) (by omega) (by omega)];exact tf (M.states.length - (i+1)) (by omega) ⟨_,okj,by omega,rfl,hg,ot,mi,nt⟩
end
end
section
theorem Kd {hb g g':Heap}{v:Value}{ps:List (MSt×Value)}(m:OwnM hb g v ps){i:Nat}{p:MSt×Value}(hp:ps[i]?=some p)(kp: ∀ j B,g.get j=some B->aM p.2≠some j->g'.get j=some B)(ox:OwnK hb g' 39 4 p.2 ((dd p.1.arcs).map aI)):OwnM hb g' v (ps.set i (qi p.1,p.2)):=by
 have hi:=(List.getElem?_eq_some_iff.1 hp).1;have back: ∀ (j:Nat)(q:MSt×Value),(ps.set i (qi p.1,p.2))[j]?=some q-> ∃ q',ps[j]?=some q'/\q'.2=q.2/\(j≠i->q'=q)/\(j=i->q.1=qi p.1):=fun j q hq=>by
  rw [getElem?_set] at hq;split at hq
  ·next e=>
   subst e;obtain rfl:=oI hq;exact ⟨p,hp,rfl,fun h=>absurd rfl h,fun _=>rfl⟩
  ·next e=>exact ⟨q,hq,rfl,fun _=>rfl,fun h=>absurd h.symm e⟩
 refine ⟨?_,fun j q hq=> ?_,fun j q hq k hk=> ?_,fun j1 j2 q1 q2 hne h1 h2 k hk=> ?_⟩
 ·have e:(ps.set i (qi p.1,p.2)).map dg=ps.map dg:=by
   rw [map_set];refine List.ext_getElem? fun j=> ?_;rw [getElem?_set];split
   ·next e=>
    subst e;rw [getElem?_map,hp];simp [dg,qi,hi]
   ·rfl
  rw [e];exact m.row.keep fun k B hk hB=>kp k B hB fun e=>m.ne i p hp k e hk
 ·obtain ⟨q',h1,h2,h3,h4⟩:=back j q hq;by_cases e:j=i
  ·subst e;rw [h1] at hp;obtain rfl:=oI hp;rw [h4 rfl,<-h2];exact ox
  ·obtain rfl:=h3 e;exact (m.arcs j q' h1).keep fun k B hk hB=>kp k B hB fun e'=>m.dis i j p q' (Ne.symm e) hp h1 k e' hk
 ·obtain ⟨q',h1,h2,_⟩:=back j q hq;rw [<-h2] at hk;exact m.ne j q' h1 k hk
 ·obtain ⟨q1',a1,a2,_⟩:=back j1 q1 h1;obtain ⟨q2',b1,b2,_⟩:=back j2 q2 h2;rw [<-a2] at hk;rw [<-b2];exact m.dis j1 j2 q1' q2' hne a1 b1 k hk
section
variable {h:Heap} {a:Option Addr} {n c:Nat}
def OX (hb:Heap)(R:Mach)(k2:Nat)(a:Option Addr)(n c:Nat)(mz i:Nat)(g:Heap):Prop:=i<=R.states.length/\mz=R.states.length - i/\ ∃ ps,ps.map (·.1)=yc R.states i/\OwnM hb g (.slice a n c) ps/\Ok hb g/\g.get k2=some (.cells (aA R a n c) 24 0 true)/\aM (.slice a n c)≠some k2/\ ∀ (i:Nat)(p:MSt×Value),ps[i]?=some p->aM p.2≠some k2
theorem zA {g0:Heap}(w:Wf h){R:Mach}(hR:R.states.length<=300)(hA: ∀ s∈R.states,s.arcs.length<=2000){k2:Nat}(hk2:h.next<=k2){ps:List (MSt×Value)}(hps:ps.map (·.1)=R.states)(om:OwnM h g0 (.slice a n c) ps)(ok:Ok h g0)(hk:g0.get k2=some (.cells (aA R a n c) 24 0 true))(ne1:aM (.slice a n c)≠some k2)(ne2: ∀ (i:Nat) (p:MSt×Value),ps[i]?=some p->aM p.2≠some k2):
  LL SS aQ [1,1,1,1,1,1,1,0,1,0,0] (d8 k2 a n c 0) g0 (KK SS aQ [1,1,1,1,1,1,1,0,1,0] [] (EE SS aQ (sD h (bJ R,0)))):=by
 refine oy [] k2 a n c (OX h R k2 a n c) _ (fun mz i=> ?_) R.states.length (i:=0) ⟨zero_le _,rfl,ps,by simpa [yc] using hps,om,ok,hk,ne1,ne2⟩;intros; rename_i g hin;clear hps om ok hk ne1 ne2 ps;obtain ⟨f1,rfl,ps,hps,om,ok,k2g,ne1,ne2⟩:=hin;have hn:n=R.states.length:=by
  have h1:=om.st.len;rw [hps] at h1;unfold yc at h1;rw [length_append,lM,length_take,List.length_drop] at h1;omega
 refine ae (fun q=> ?_) (fun q=> ?_)
 ·have q:=dT q;have hi:i < R.states.length:=by omega
  obtain ⟨s,hs⟩: ∃ s,R.states[i]?=some s:=⟨_,gE hi⟩
  obtain ⟨m1,m2⟩:=Ku hs;rw [<-hps,getElem?_map] at m1;obtain ⟨p,hp,rfl⟩:=map_eq_some_iff.1 m1;obtain ⟨k,off,c',e,hkb⟩:=om.row.blk (by rw [lM]; have:=(List.getElem?_eq_some_iff.1 hp).1; omega);injection e with e1 e2 e3
  obtain rfl:=e1;obtain ⟨x1,x2,x3⟩:=om.at_ hp;obtain ⟨x,z,hx⟩:=(om.arcs i p hp).slc;obtain ⟨u,t1,t2,t3⟩:=qx ok.wf p.1.f x (p.1.arcs.map aI).length z;unfold dg at x3;rw [hx] at x3;have hal:=hA _ (List.mem_of_getElem? hs);refine ⟨_,x1,_,x3,_,tJ,u,t1,_,cw _ _,_,_,_,t3.l1,?_⟩;have om2:=om.ok t2;have ok2:=ok.trans t2;have k22:=t2.ext _ _ k2g;generalize u.app (g.push uy)=g2 at *;have oa:=om2.arcs i p hp;have sf:=zw w ok2 oa (by omega);rw [hx] at sf;refine sf.mono ?_;rintro v g3 ⟨rfl,o3,ok3,kp,hn3⟩;refine ⟨rfl,?_⟩;rw [aG hi (by omega)];rw [<-hx] at o3 kp;refine cA (R.states.length - (i+1)) (by omega) ⟨by omega,rfl,_,?_,Kd om2 hp kp o3,ok3,kp _ _ k22 (ne2 i p hp),ne1,?_⟩
  ·rw [m2,map_set,hps]
  ·intro i' p' hp';rw [getElem?_set] at hp';split at hp'
   ·split at hp'
    ·obtain rfl:=oI hp';exact ne2 i p hp
    ·cases hp'
   ·exact ne2 i' p' hp'
 ·have q:=dF q;have he:ps.map (·.1)=(bJ R).states:=by
   rw [hps]; unfold yc;rw [take_of_length_le (by omega),List.drop_of_length_le (by omega),append_nil]; rfl
  refine ⟨_,ft wx wB fg k2g (by simp [aA]),_,cC (t:=24) fg (cs0:=aA R a n c) rfl k2g (cs:=aA R a n c) rfl (dQ ..),?_⟩;obtain ⟨o5,k5⟩:=dL (cs:=aA R a n c) w ok k2g hk2;refine oB (v:= .agg ⟨aA R a n c⟩) (ft wx wB fg k5 (by simp [aA])) ⟨a,n,c,ps,rfl,he,?_,o5⟩;have kq: ∀ j B,j≠k2->g.get j=some B->((Upd.set k2 (.cells (aA R a n c) 24 0 true)).app g).get j=some B:=fun j B hne hB=>by
   show (g.set k2 _).get j=_;rw [Heap.get_set,if_neg hne]; exact hB
  exact ⟨om.row.keep fun j B hj hB=>kq j B (fun e=>ne1 (by rw [<-e]; exact hj)) hB,fun i p hp=>(om.arcs i p hp).keep fun j B hj hB=>kq j B (fun e=>ne2 i p hp (by rw [<-e]; exact hj)) hB,om.ne,om.dis⟩
end
end
section
section
variable {h:Heap} {M:Mach} {a:Option Addr} {n c:Nat}
theorem AR {hb g0:Heap}(w:Wf h)(o:Ok h hb)(gd:Good M)(hN:M.states.length<=300)(hA: ∀ s∈M.states,s.arcs.length<=2000){k k2 ke:Nat}(mb:MB hb k M a n c)(hk:hb.get k2=some dH)(hk2:h.next<=k2){t:Option Addr}{tn tc:Nat}(hin:Nt hb M M.states.length ke M.states.length 0 t tn tc g0):
  LL SS aQ [1,1,1,1,1,0,1,0,0] (cq k k2 ke 0 t tn tc) g0 (KK SS aQ [1,1,1,1,1,0,1,0] [] (EE SS aQ (sD h (bJ (bE M (bV M)),0)))):=by
 refine oA [] k k2 ke (Nt hb M M.states.length ke) _ (fun mz i=> ?_) M.states.length (i:=0) hin;clear hin t tn tc;intro t tn tc;intros; rename_i g hin;obtain ⟨ord,oo,f1,rfl,hg,ot,mi,nt⟩:=hin;have htn:=IE ot;have hoN:=dy M.states.length oo.nd oo.lt;refine ae (fun q=> ?_) (fun q=> ?_)
 ·have q:=dT q;have hi:i < ord.length:=by omega
  obtain ⟨x,hx⟩: ∃ x,ord[i]?=some x:=⟨_,gE hi⟩
  have hxN:x < M.states.length:=oo.lt x (List.mem_of_getElem? hx);obtain ⟨s,hs⟩: ∃ s,M.states[x]?=some s:=⟨_,gE hxN⟩
  have hsm:=List.mem_of_getElem? hs;have hal:=hA s hsm;have oR:=(Ok.refl mi.ok.wf).room 13;have okR:=mi.ok.trans oR;obtain ⟨b,o1,x',y,z,e1,e2,e3,e4,ar⟩:=mb.row.at2 okR hs;obtain ⟨p,p1,p2⟩:=Mi (ot.ok oR).rd hx;refine ⟨_,bn _,_,_,_,(mb.ok okR).l3,_,p1,_,p2,_,e1,_,cw _ _,_,_,_,e4,(Kb okR.wf).mono ?_⟩;rintro _ gV ⟨rfl,kV,oV⟩;refine ⟨_,_,_,rfl,(BM oV.wf kV (ar.ok (okR.trans oV)) (by omega)).mono ?_⟩;rintro v gS ⟨os,o2⟩;obtain ⟨y2,z2,rfl⟩:=os.slc;have okS:=oR.trans (oV.trans o2);have hf:M.states.length+1 - i=(M.states.length+1 - (i+1))+1:=by omega
  rw [hf,mf hx] at hg;unfold ia at hg;rw [De hs] at hg;have hr:(Go.Ab.room g 13).next=g.next+13:=rfl;have hVn:=oV.nx;have hke:=mi.ok.wf _ _ mi.row;refine ⟨y2,_,z2,rfl,?_⟩;refine xD o.wf gd hN (l:=dd s.arcs) (fun q hq=>gd.arcs s hsm q (sortA_mem.1 hq)) (by rw [js]; omega) oo hi hg ⟨zero_le _,rfl,ot.ok okS,mi.trans okS,os.base (okR.trans oV),fun j e=>⟨fun e'=> ?_,fun e'=> ?_⟩,nt⟩ _
  ·have h1:=(os.lt o2.wf e).2;omega
  ·have h1:=(os.lt o2.wf e).2;have h2:=(ot.lt mi.ok.wf e').1;omega
 ·have q:=dF q;have e:ord=bV M:=by rw [<-hg,zW (by omega)]
  rw [e] at ot mi hoN;have mbg:=mb.ok mi.ok;refine ⟨_,mbg.all,(CA mi.ok.wf gd hN hA mbg.row ot.rd (i5 gd)).mono ?_⟩;rintro v gR ⟨a',n',c',ps,rfl,hps,om,okR⟩;have kg:=mi.ok.ext _ _ hk;have kR:=okR.ext _ _ kg;have hkg:=mi.ok.wf _ _ kg;have okA:=(o.trans mi.ok).trans okR;have pa:=cC (t:=24) fg (cs0:=[.int .i64 0,.int .i64 0,aa [],.slice none 0 0]) rfl kR (cs:=aA (bE M (bV M)) a' n' c') rfl (dQ ..);obtain ⟨o6,k6⟩:=dL (cs:=aA (bE M (bV M)) a' n' c') w okA kR hk2;refine ⟨_,rfl,_,pa,?_⟩;have ne1:aM (.slice a' n' c')≠some k2:=fun e=>by
   have:=(om.row.lt okR.wf e).2; omega
  have ne2: ∀ (i:Nat)(p:MSt×Value),ps[i]?=some p->aM p.2≠some k2:=fun i p hp e=>by
   have:=((om.arcs i p hp).lt okR.wf e).2; omega
  have om6:OwnM h ((Upd.set k2 (.cells (aA (bE M (bV M)) a' n' c') 24 0 true)).app gR) (.slice a' n' c') ps:=om.low (o.trans mi.ok) fun j B hB hj=>by
   show (gR.set k2 _).get j=_;rw [Heap.get_set,if_neg (by omega)]; exact hB
  generalize (Upd.set k2 (.cells (aA (bE M (bV M)) a' n' c') 24 0 true)).app gR=g6 at *;refine ⟨_,bn _,_,_,_,cM qS Bl k6 (by simp [aA]),?_⟩;have hn':n'=(bE M (bV M)).states.length:=by
   have h1:=om6.st.len;rw [hps] at h1; exact h1
  exact zA w (R:=bE M (bV M)) (by unfold bE; rw [lM]; omega) (Di hA) hk2 hps om6 o6 k6 ne1 ne2
theorem pX (tb:Tab h)(w:Wf h)(sm:Small M)(r:StRow h (.slice a n c) M.states):FW SS 25 [.agg ⟨aA M a n c⟩] h (sD h (cF M)):=by
 obtain ⟨mb0,ok0⟩:=dM w r;refine Fb (aA M a n c) h _ ⟨_,fo M a n c,_,kC,?_⟩;have n0:h.next < (h.push (Bm M a n c)).next:=ok0.wf _ _ mb0.box;have tb0:=tb.ok ok0;generalize h.push (Bm M a n c)=g0 at *;have k4:=aq g0 dH;have o1:=(Ok.refl ok0.wf).push dH;have ok1:=ok0.trans o1;have mb1:=mb0.ok o1;have tb1:=tb0.ok o1;have hK1:g0.next < (g0.push dH).next:=ok1.wf _ _ k4;generalize g0.push dH=g1 at *;generalize g0.next=K at *;refine ⟨_,mb1.all,(nR tb1 ok1.wf sm mb1.row).mono ?_⟩;rintro _ g2 ⟨a',n',c',ps,rfl,hps,om,o2⟩;have ok2:=ok1.trans o2;have k42:=o2.ext _ _ k4;have mb2:=mb1.ok o2;have pa:=cC (t:=24) fg (cs0:=aA M a n c) rfl mb2.box (cs:=aA (bt M).1 a' n' c') rfl (dQ ..);obtain ⟨o3,k3⟩:=dL (cs:=aA (bt M).1 a' n' c') w ok2 mb2.box (le_refl _);refine ⟨_,_,rfl,_,pa,?_⟩;have kp: ∀ (j:Nat)(B:Blk),h.next < j->g2.get j=some B->((Upd.set h.next (.cells (aA (bt M).1 a' n' c') 24 0 true)).app g2).get j=some B:=fun j B hj hB=>by
  show (g2.set h.next _).get j=_;rw [Heap.get_set,if_neg (by omega)]; exact hB
 have k43:=kp K _ (by omega) k42;have om3:OwnM h ((Upd.set h.next (.cells (aA (bt M).1 a' n' c') 24 0 true)).app g2) (.slice a' n' c') ps:=om.low ok1 fun j B hB hj=>kp j B (by omega) hB;generalize (Upd.set h.next (.cells (aA (bt M).1 a' n' c') 24 0 true)).app g2=g3 at *;refine ae (fun q=> ?_) (fun q=> ?_)
 ·have q:(bt M).2≠0:=by simpa using q
  rw [Ce q];exact ⟨_,AV,lZ w o3 k43 (by omega) (R:=(nc,(bt M).2)) (ps:=[]) rfl (OwnM.nil h g3) (Ok.refl w) (.inr ⟨rfl,rfl,rfl,rfl⟩)⟩
 have q:(bt M).2=0:=by simpa using q
 obtain ⟨gd,hN,hA⟩:=AI sm q;rw [fH q];generalize (bt M).1=T at *;have st3:=om3.st;rw [hps] at st3;have mb3:MB g3 h.next T a' n' c':=⟨k3,st3⟩
 obtain rfl:n'=T.states.length:=mb3.len;have h0:=gd.start0;have h1:=gd.start1;obtain ⟨S,hS⟩: ∃ S:Nat,T.start=(S:Int):=⟨T.start.toNat,by omega⟩
 have hSt:T.start.toNat=S:=by omega
 have hSn:S < T.states.length:=by omega
 have lS:=mb3.l1;rw [hS] at lS;refine ⟨_,fF _,_,lS,_,_,_,xd _,_,KN,?_⟩;have oP:=(Ok.refl o3.wf).push (.cells [.int .i64 (S:Int)] 3 1 true);have kP:=aq g3 (.cells [.int .i64 (S:Int)] 3 1 true);have hn4:(g3.push (.cells [.int .i64 (S:Int)] 3 1 true)).next=g3.next+1:=rfl;generalize g3.push (.cells [.int .i64 (S:Int)] 3 1 true)=g4 at *;have oM:=(Ok.refl oP.wf).push (.map []);have kM:=aq g4 (.map []);have lS4:=(mb3.ok (oP.trans oM)).l1;rw [hS] at lS4;have up:=Ge (l:=[]) kM (S:Int);refine ⟨_,fF _,_,lS4,_,up,?_⟩;dsimp only [Upd.app];have hn5:(g4.push (.map [])).next=g4.next+1:=rfl;have ok5:=oP.trans oM;have kP5:=oM.ext _ _ kP;have gt6: ∀ j B,j≠g4.next->(g4.push (.map [])).get j=some B->((g4.push (.map [])).set g4.next (.map ((jr [] (S:Int)).map i9))).get j=some B:=fun j B hne hB=>by
  rw [Heap.get_set,if_neg hne]; exact hB
 have mi:MI g3 g4.next [S] ((g4.push (.map [])).set g4.next (.map ((jr [] (S:Int)).map i9))):=⟨by rw [Heap.get_set,if_pos rfl]; rfl,by omega,ok5.set _ (by omega) (by omega) o3.wf⟩
 have og:OwnG g3 ((g4.push (.map [])).set g4.next (.map ((jr [] (S:Int)).map i9))) 3 (.slice (some ⟨g3.next,0,none⟩) 1 1) ([S].map iv):=OwnG.built (gt6 _ _ (by omega) kP5) (le_refl _) (by show 1 < bp; decide);refine AR w o3 gd hN hA mb3 k43 (by omega) ⟨[S],⟨fun x hx=>by rw [mem_singleton.1 hx]; exact hSn,by simp⟩,zero_le _,rfl,?_,og,mi,fun j hj=> ?_⟩
 ·unfold bV;rw [hSt]; rfl
 ·have e:g3.next=j:=oI hj;omega
end
end
end Go.Proofs.YtoabjjimjldcfaaGreatDoor
end
section
set_option linter.unusedVariables false
set_option maxRecDepth 100000
namespace Go.Proofs.YtoabjjimjldcfaaGreatDoor
open Go Go.Ab Go.ChangeShapes Go.WideShapes Go.RowKit
section
section
variable {W:World}
theorem Ap {f:FuncId}{fn:Func}(hf:Tryz.prog.funcs[f]?=some fn)(hb:fn.body.isSome=true)(hY:f < YB){extra:List Value}(hx:extra.all nj=true)
  (hfw: ∀ {h:Heap}(_:Tab h)(_:Wf h){M:Mach}(_:Np M){a:Option Addr}{n c:Nat}(_:StRow h (.slice a n c) M.states),FW SS f ([.agg ⟨aA M a n c⟩]++extra) h (fun v h'=>v = .bool true/\Ok h h'))
  {H:Type} {enc:TypeId×Value->H} {base:Nat} {v0:Value} {d0:DataW H} {p:List MemPlace} (hL:laidMetH Tryz.prog f0 W) (hval:Value.okWide Tryz.prog W .any base 24 v0)
  (hd:DataW.Trod enc Tryz.prog W 0 (fun _=>true) true 24 v0 d0 p) (hw:(d0.weights Tryz.prog 24).all (· <=reachBytes)=true) {args:Array Value} (ha:args.toList=v0::extra):
  Calls Tryz.prog f args W fun e w'=>e = .returned (.bool true)/\Below W.heap.size W w':=by
 obtain ⟨cs,rfl,_⟩:=okWide_struct Tryz.underlying24 hval;obtain ⟨fuel,hd⟩:=hd;obtain ⟨k,s,ld,v,sts,hcs,hr,hq⟩:=vP hd hw;have hcs:cs = #[.int .i64 k,.int .i64 s,aa ld,v]:=by
  rw [<-Array.toList_inj]; exact hcs
 subst hcs;obtain ⟨β0',h0,i0,g0,t0⟩:=J2 hL;obtain ⟨β1,h1,v',i1,l1,o1,r1,st1⟩:=zu i0 hr hq (GZ hval);obtain ⟨ps,hps,hrd,_,_⟩:=id st1;obtain ⟨a,c,rfl⟩:=hrd.slc;have hfw:=hfw (M:=⟨k,s,ld,sts.map (·.1)⟩) (t0.ok o1) i1.wf (fun x hx=>by
  obtain ⟨q,hq',rfl⟩:=mem_map.1 hx;exact (hq q hq').2) st1
 refine (yW text_ok Hi hfw hY hf hb i1 (g0.mono l1) (args':=args) ?_).mono ?_
 ·rw [ha];exact .cons (.agg rfl (ARel.toList.2 (.cons (.int _ _) (.cons (.int _ _) (.cons (.string _) (.cons r1 (.nil _)))))).2) (LRel.of_bares hx)
 ·rintro e w' ⟨x,x',h',β',rfl,⟨rfl,_⟩,hx,_,hb⟩
  cases hx
  exact ⟨rfl,hb⟩
end
end
end Go.Proofs.YtoabjjimjldcfaaGreatDoor
end
section
set_option linter.unusedVariables false
set_option maxRecDepth 100000
namespace Go.Proofs.YtoabjjimjldcfaaGreatDoor
open Go Go.Ab
section
theorem jI: ∀ {l:List Nat}{i j x:Nat},l.Nodup->l[j]?=some x->cO l i x=((i+j:Nat):Int)
 | [],_,_,_,_,h=>by simp at h
 | o::r,i,0,x,hn,h=>by
  obtain rfl:o=x:=by simpa using h
  unfold cO; rw [if_pos rfl]; simp
 | o::r,i,j+1,x,hn,h=>by
  have hx:r[j]?=some x:=by simpa using h
  have hne:o≠x:=fun e=>(nodup_cons.1 hn).1 (e ▸ List.mem_of_getElem? hx);unfold cO;rw [if_neg hne,jI (nodup_cons.1 hn).2 hx];omega
theorem Ac: ∀ {l:List Nat}{i j x:Nat},cO l i x=((i+j:Nat):Int)->l[j]?=some x
 | [],i,j,x,h=>by unfold cO at h; omega
 | o::r,i,j,x,h=>by
  unfold cO at h;split at h
  ·next e=>
   obtain rfl:j=0:=by omega
   rw [e]; rfl
  ·have h2:=jl r (i+1) x;obtain ⟨j',rfl⟩: ∃ j',j=j'+1:=⟨j - 1,by omega⟩
   show r[j']?=some x;exact Ac (i:=i+1) (by rw [h]; omega)
theorem ls {α β:Type}{f g:α->Option β}: ∀ {l:List α},(∀ q∈l,f q=g q)->l.filterMap f=l.filterMap g
 | [],_=>rfl
 | q::l,h=>by
  rw [List.filterMap_cons,List.filterMap_cons,h q (mem_cons_self ..),ls fun x hx=>h x (mem_cons_of_mem _ hx)]
theorem nV {α:Type}{f:α->Option α}: ∀ {l:List α},(∀ q∈l,f q=some q)->l.filterMap f=l
 | [],_=>rfl
 | q::l,h=>by
  rw [List.filterMap_cons,h q (mem_cons_self ..)];dsimp only;rw [nV fun x hx=>h x (mem_cons_of_mem _ hx)]
section
variable {M:Mach} {ord:List Nat}
theorem rg {i x:Nat}(h:ord[i]?=some x):(bE M ord).states[i]?=some (ff M ord x):=by
 show (ord.map (ff M ord))[i]?=_;rw [getElem?_map,h]; rfl
theorem fZ:(bE M ord).states.length=ord.length:=by unfold bE; simp
theorem JF {i:Nat}{s:MSt}(h:(bE M ord).states[i]?=some s): ∃ x,ord[i]?=some x/\s=ff M ord x:=by
 change (ord.map (ff M ord))[i]?=some s at h;rw [getElem?_map] at h;obtain ⟨x,h1,h2⟩:=map_eq_some_iff.1 h;exact ⟨x,h1,h2.symm⟩
theorem si {x:Nat}(h:x < M.states.length):M.states[x]?=some (M.states.getD x ⟨[],[]⟩):=by
 rw [gD,gE h]; rfl
theorem yJ (gd:Good M)(oo:OrdOk M.states.length ord){i j:Nat}:bF (bE M ord) i j↔ ∃ x y,ord[i]?=some x/\ord[j]?=some y/\bF M x y:=by
 constructor
 ·rintro ⟨s,hs,hj⟩;obtain ⟨x,hx,rfl⟩:=JF hs;obtain ⟨q,hq,rfl⟩:=mem_map.1 hj;obtain ⟨p,hp,he⟩:=mem_filterMap.1 hq;have hxn:=oo.lt x (List.mem_of_getElem? hx);unfold dD at he;split at he
  ·cases he
  ·next hne=>
   obtain rfl:=oI he;have hr:=jl ord 0 p.t.toNat;have e:cO ord 0 p.t.toNat=((0+(cO ord 0 p.t.toNat).toNat:Nat):Int):=by omega
   exact ⟨x,p.t.toNat,hx,Ac e,_,si hxn,mem_map.2 ⟨p,hp,rfl⟩⟩
 ·rintro ⟨x,y,hx,hy,s,hs,hm⟩;obtain ⟨p,hp,rfl⟩:=mem_map.1 hm;have hxs:M.states.getD x ⟨[],[]⟩=s:=by rw [gD,hs]; rfl
  have e:=jI (i:=0) oo.nd hy;refine ⟨_,rg hx,mem_map.2 ⟨⟨p.i,p.o,p.w,cO ord 0 p.t.toNat⟩,mem_filterMap.2 ⟨p,by rw [hxs]; exact hp,?_⟩,?_⟩⟩
  ·unfold dD; rw [if_neg (by rw [e]; omega)]
  ·show (cO ord 0 p.t.toNat).toNat=j;rw [e]; omega
theorem Kl (oo:OrdOk M.states.length ord){i x:Nat}(hx:ord[i]?=some x):jO (bE M ord) i↔jO M x:=by
 have hxn:=oo.lt x (List.mem_of_getElem? hx);constructor
 ·rintro ⟨s,hs,hf⟩;rw [rg hx] at hs;obtain rfl:=oI hs;exact ⟨_,si hxn,hf⟩
 ·rintro ⟨s,hs,hf⟩;have hxs:M.states.getD x ⟨[],[]⟩=s:=by rw [gD,hs]; rfl
  refine ⟨_,rg hx,?_⟩;show (M.states.getD x ⟨[],[]⟩).f≠[];rw [hxs]; exact hf
theorem HU (gd:Good M){x y:Nat}(h:bF M x y):x < M.states.length/\y < M.states.length:=by
 obtain ⟨s,hs,hm⟩:=h;obtain ⟨q,hq,rfl⟩:=mem_map.1 hm;have a:=gd.arcs s (List.mem_of_getElem? hs) q hq;have h0:=a.t0;have h1:=a.t1;exact ⟨(List.getElem?_eq_some_iff.1 hs).1,by omega⟩
theorem pp (gd:Good M):M.start.toNat < M.states.length:=by
 have h0:=gd.start0;have h1:=gd.start1;omega
theorem Gi (gd:Good M){x:Nat}(h:Num.Rch (bF M) (fun y=>y=M.start.toNat) x):x < M.states.length:=by
 cases h with
 | base h=>rw [h]; exact pp gd
 | step h e=>exact (HU gd e).2
theorem xX (gd:Good M){x:Nat}:x∈od M↔bI M x:=by
 unfold od;rw [List.mem_filter,mem_range];constructor
 ·rintro ⟨_,h⟩;exact @of_decide_eq_true _ (Classical.propDecidable _) h
 ·intro h;exact ⟨Gi gd h.1,@decide_eq_true _ (Classical.propDecidable _) h⟩
def kF (M:Mach):Prop:= ∀ x,x < M.states.length->bI M x
theorem Ef (oo:OrdOk M.states.length ord)(hs:M.start.toNat∈ord): ∃ i,ord[i]?=some M.start.toNat/\(bE M ord).start=((i:Nat):Int):=by
 obtain ⟨i,hi⟩:=getElem?_of_mem hs;refine ⟨i,hi,?_⟩;show cO ord 0 M.start.toNat=_;rw [jI oo.nd hi]; simp
theorem zK (gd:Good M)(oo:OrdOk M.states.length ord)(hu: ∀ x,x∈ord↔bI M x)(hs:bI M M.start.toNat):kF (bE M ord):=by
 intro i hi;rw [fZ] at hi;obtain ⟨x,hx⟩: ∃ x,ord[i]?=some x:=⟨_,gE hi⟩
 have ux:=(hu x).1 (List.mem_of_getElem? hx);obtain ⟨i0,h0,e0⟩:=Ef oo ((hu _).2 hs);have e0':(bE M ord).start.toNat=i0:=by omega
 constructor
 ·have key: ∀ {x:Nat},Num.Rch (bF M) (fun y=>y=M.start.toNat) x->Num.Rch (fun y x=>bF M x y) (jO M) x-> ∀ i,ord[i]?=some x->Num.Rch (bF (bE M ord)) (fun y=>y=(bE M ord).start.toNat) i:=by
   intro x h1
   induction h1 with
   | @base x hx=>
    subst hx;intro _ i hi;refine .base ?_;rw [e0'];exact fe oo.nd hi h0
   | @step y x hy e ih=>
    intro h2 i hi;have h3:Num.Rch (fun y x=>bF M x y) (jO M) y:= .step h2 e;obtain ⟨j,hj⟩:=getElem?_of_mem ((hu y).2 ⟨hy,h3⟩);exact .step (ih h3 j hj) ((yJ gd oo).2 ⟨y,x,hj,hi,e⟩)
  exact key ux.1 ux.2 i hx
 ·have key: ∀ {x:Nat},Num.Rch (fun y x=>bF M x y) (jO M) x->Num.Rch (bF M) (fun y=>y=M.start.toNat) x-> ∀ i,ord[i]?=some x->Num.Rch (fun y x=>bF (bE M ord) x y) (jO (bE M ord)) i:=by
   intro x h1
   induction h1 with
   | @base x hx=>exact fun _ i hi=> .base ((Kl oo hi).2 hx)
   | @step y x hy e ih=>
    intro h2 i hi;have h3:Num.Rch (bF M) (fun y=>y=M.start.toNat) y:= .step h2 e;obtain ⟨j,hj⟩:=getElem?_of_mem ((hu y).2 ⟨h3,hy⟩);exact .step (ih h3 j hj) ((yJ gd oo).2 ⟨x,y,hi,hj,e⟩)
  exact key ux.2 ux.1 i hx
theorem uo (gd:Good M):bE M (List.range M.states.length)=M:=by
 have key: ∀ y,y < M.states.length->cO (List.range M.states.length) 0 y=(y:Int):=fun y hy=>by
  rw [jI List.nodup_range (getElem?_range hy)]; simp
 have hst:(List.range M.states.length).map (ff M (List.range M.states.length))=M.states:=by
  refine List.ext_getElem? fun i=> ?_;rw [getElem?_map];by_cases hi:i < M.states.length
  ·rw [getElem?_range hi,si hi];show some (ff M _ i)=_;congr 1;unfold ff;have e:(M.states.getD i ⟨[],[]⟩).arcs.filterMap (dD (List.range M.states.length))=(M.states.getD i ⟨[],[]⟩).arcs:=by
    have: ∀ q∈(M.states.getD i ⟨[],[]⟩).arcs,dD (List.range M.states.length) q=some q:=fun q hq=>by
     have a:=gd.arcs _ (List.mem_of_getElem? (si hi)) q hq;have h0:=a.t0;have h1:=a.t1;unfold dD;rw [key q.t.toNat (by omega),if_neg (by omega)];have e2:((q.t.toNat:Nat):Int)=q.t:=by omega
     rw [e2]
    exact nV this
   rw [e]
  ·rw [getElem?_eq_none (by simpa using hi),getElem?_eq_none (by omega)]; rfl
 have h0:=gd.start0;have h1:=gd.start1;have e1:=key M.start.toNat (by omega);unfold bE;rw [hst,e1];have e2:((M.start.toNat:Nat):Int)=M.start:=by omega
 rw [e2]
theorem rL (hv:aL M=true)(au:kF M):bt M=(M,0):=by
 have gd:=cL hv;rw [jj hv (au _ (pp gd))];have e:od M=List.range M.states.length:=by
  unfold od;rw [List.filter_eq_self];intro x hx;exact @decide_eq_true _ (Classical.propDecidable _) (au x (mem_range.1 hx))
 rw [e,uo gd]
end
end
section
theorem jy (f:Nat->Nat): ∀ (n:Nat)(l:List Nat),l.Nodup->(∀ x∈l,x < n)->(l.map f).sum<=((List.range n).map f).sum
 | 0,[],_,_=>le_refl _
 | 0,x::l,_,h=>absurd (h x (mem_cons_self ..)) (not_lt_zero _)
 | n+1,l,hn,h=>by
  rw [List.range_succ,map_append,List.sum_append];by_cases hm:n∈l
  ·have hp:=List.perm_cons_erase hm;rw [(hp.map f).sum_nat];have ih:=jy f n (l.erase n) (hn.erase n) (fun x hx=>by
    have h1:=h x (List.mem_of_mem_erase hx);have h2:x≠n:=fun e=>by subst e; exact (hn.not_mem_erase) hx
    omega)
   simp only [List.map_cons,sum_cons,List.map_nil,List.sum_nil];omega
  ·have ih:=jy f n l hn (fun x hx=>by
    have h1:=h x hx;have h2:x≠n:=fun e=>hm (e ▸ hx);omega)
   omega
theorem As (M:Mach):eO M.states=((List.range M.states.length).map fun x=>(M.states.getD x ⟨[],[]⟩).arcs.length).sum:=by
 unfold eO;congr 1;refine List.ext_getElem? fun i=> ?_;rw [getElem?_map,getElem?_map];by_cases hi:i < M.states.length
 ·rw [getElem?_range hi,si hi]; rfl
 ·rw [getElem?_eq_none (by omega),getElem?_eq_none (by simpa using hi)]; rfl
theorem sN {kind:Int}{N:Nat}: ∀ {l:List MSt}{acc:Int},acc+(eO l:Nat)<=30000->(∀ s∈l,(s.f == [] || Num.weightOk kind s.f)=true/\s.arcs.all (iV kind N)=true)->gM kind N acc l=true
 | [],_,_,_=>rfl
 | s::l,acc,h,hs=>by
  rw [fG] at h;have h1:=hs s (mem_cons_self ..);unfold gM;rw [h1.1,h1.2,sN (acc:=acc+s.arcs.length) (by omega) fun x hx=>hs x (mem_cons_of_mem _ hx)];simp;omega
theorem uP {kind:Int}{N:Nat}: ∀ {l:List MSt}{acc:Int},l≠[]->gM kind N acc l=true->acc+(eO l:Nat)<=30000
 | [],_,h,_=>absurd rfl h
 | [s],acc,_,h=>by
  unfold gM at h;simp only [and_eq_true,decide_eq_true_eq] at h;rw [fG];have:eO []=0:=rfl;omega
 | s::x::l,acc,_,h=>by
  unfold gM at h;simp only [and_eq_true] at h;have ih:=uP (l:=x::l) (by simp) h.2;rw [fG];omega
section
variable {M:Mach} {ord:List Nat}
theorem CP (oo:OrdOk M.states.length ord):eO (bE M ord).states<=eO M.states:=by
 rw [As M];refine le_trans ?_ (jy _ M.states.length ord oo.nd oo.lt);show ((ord.map (ff M ord)).map fun s=>s.arcs.length).sum<=_;rw [map_map];have: ∀ l:List Nat,(l.map ((fun s:MSt=>s.arcs.length)∘ff M ord)).sum<=(l.map fun x=>(M.states.getD x ⟨[],[]⟩).arcs.length).sum:=fun l=>by
  induction l with
  | nil=>exact le_refl _
  | cons x l ih=>
   rw [List.map_cons,List.map_cons,sum_cons,sum_cons];have:(ff M ord x).arcs.length<=(M.states.getD x ⟨[],[]⟩).arcs.length:=List.length_filterMap_le ..;show (ff M ord x).arcs.length+_<=_;omega
 exact this ord
theorem CY {i:Nat}{s:MSt}{q:MArc}(oo:OrdOk M.states.length ord)(hs:s∈(bE M ord).states)(hq:q∈s.arcs): ∃ s0∈M.states,∃ p∈s0.arcs,s.f=s0.f/\q.i=p.i/\q.o=p.o/\q.w=p.w/\0<=q.t/\q.t < ord.length:=by
 obtain ⟨x,hx,rfl⟩:=mem_map.1 hs;obtain ⟨p,hp,he⟩:=mem_filterMap.1 hq;have h0:=si (oo.lt x hx);unfold dD at he;split at he
 ·cases he
 ·next hne=>
  obtain rfl:=oI he;have h3:=jl ord 0 p.t.toNat;refine ⟨_,List.mem_of_getElem? h0,p,hp,rfl,rfl,rfl,rfl,?_,?_⟩
  ·show 0<=cO ord 0 p.t.toNat;omega
  ·show cO ord 0 p.t.toNat < _;omega
theorem vN {s:MSt}(oo:OrdOk M.states.length ord)(hs:s∈(bE M ord).states): ∃ s0∈M.states,s.f=s0.f/\s.arcs.length<=s0.arcs.length:=by
 obtain ⟨x,hx,rfl⟩:=mem_map.1 hs;exact ⟨_,List.mem_of_getElem? (si (oo.lt x hx)),rfl,List.length_filterMap_le ..⟩
theorem cj (h:aL M=true):(1<=M.kind/\M.kind<=3)/\(1<=M.states.length/\M.states.length<=3000)/\(0<=M.start/\M.start < M.states.length)/\Num.weightOk M.kind M.lead=true/\gM M.kind M.states.length 0 M.states=true:=by
 unfold aL at h;simp only [and_eq_true,decide_eq_true_eq] at h;obtain ⟨⟨⟨⟨⟨⟨⟨h1,h2⟩,h3⟩,h4⟩,h5⟩,h6⟩,h7⟩,h8⟩:=h;exact ⟨⟨h1,h2⟩,⟨h3,h4⟩,⟨h5,h6⟩,h7,h8⟩
theorem vB (h1:1<=M.kind/\M.kind<=3)(h2:1<=M.states.length/\M.states.length<=3000)(h3:0<=M.start/\M.start < M.states.length)(h4:Num.weightOk M.kind M.lead=true)(h5:gM M.kind M.states.length 0 M.states=true):aL M=true:=by
 unfold aL;simp only [and_eq_true,decide_eq_true_eq];exact ⟨⟨⟨⟨⟨⟨⟨h1.1,h1.2⟩,h2.1⟩,h2.2⟩,h3.1⟩,h3.2⟩,h4⟩,h5⟩
theorem uX (h:aL M=true):eO M.states<=30000:=by
 obtain ⟨_,h2,_,_,h5⟩:=cj h;have:=uP (fun e=>by rw [e] at h2; exact absurd h2.1 (by decide)) h5;omega
theorem vK (hv:aL M=true)(oo:OrdOk M.states.length ord)(hs:M.start.toNat∈ord):aL (bE M ord)=true:=by
 have gd:=cL hv;have gT:=uD gd hs;obtain ⟨h1,h2,h3,h4,h5⟩:=cj hv;have hl:=dy _ oo.nd oo.lt;have hp:=List.length_pos_of_mem hs;refine vB h1 ⟨by rw [fZ]; omega,by rw [fZ]; omega⟩ ⟨gT.start0,gT.start1⟩ h4 (sN ?_ fun s hs=>⟨?_,?_⟩)
 ·have:=CP oo;have:=uX hv;omega
 ·obtain ⟨s0,hs0,e,_⟩:=vN oo hs;rw [e];exact (iq h5 s0 hs0).1
 ·rw [all_eq_true];intro q hq;obtain ⟨s0,hs0,p,hp,e1,e2,e3,e4,e5,e6⟩:=CY (i:=0) oo hs hq;have ap:=(iq h5 s0 hs0).2 p hp;unfold iV at ap ⊢;simp only [and_eq_true,decide_eq_true_eq] at ap ⊢;rw [e2,e3,e4,fZ];exact ⟨⟨⟨ap.1.1.1,e5⟩,e6⟩,ap.2⟩
theorem vi (sm:Small M)(oo:OrdOk M.states.length ord):Small (bE M ord):=by
 have hl:=dy _ oo.nd oo.lt;refine ⟨sm.lead,by rw [fZ]; exact le_trans hl sm.sts,fun s hs=> ?_,fun s hs=> ?_,fun s hs q hq=> ?_,le_trans (CP oo) sm.tot⟩
 ·obtain ⟨s0,h0,e,_⟩:=vN oo hs;rw [e]; exact sm.fin s0 h0
 ·obtain ⟨s0,h0,_,e⟩:=vN oo hs;exact le_trans e (sm.arcs s0 h0)
 ·obtain ⟨s0,hs0,p,hp,e1,e2,e3,e4,e5,e6⟩:=CY (i:=0) oo hs hq;rw [e4]; exact sm.w s0 hs0 p hp
theorem yY:eO (bJ M).states=eO M.states:=by
 unfold eO bJ;rw [map_map];congr 1;exact List.map_congr_left fun s _=>js s.arcs
theorem gz:(bJ M).states.length=M.states.length:=by unfold bJ; simp
theorem Co (hv:aL M=true):aL (bJ M)=true:=by
 obtain ⟨h1,h2,h3,h4,h5⟩:=cj hv;refine vB h1 (by rw [gz]; exact h2) (by rw [gz]; exact h3) h4 (sN ?_ fun s hs=> ?_)
 ·have:=uX hv;rw [yY]; omega
 ·obtain ⟨s0,h0,rfl⟩:=mem_map.1 hs;refine ⟨(iq h5 s0 h0).1,?_⟩;rw [all_eq_true];intro q hq;rw [gz];exact (iq h5 s0 h0).2 q (sortA_mem.1 hq)
theorem AA (sm:Small M):Small (bJ M):=by
 refine ⟨sm.lead,by rw [gz]; exact sm.sts,fun s hs=> ?_,fun s hs=> ?_,fun s hs q hq=> ?_,by rw [yY]; exact sm.tot⟩
 ·obtain ⟨s0,h0,rfl⟩:=mem_map.1 hs;exact sm.fin s0 h0
 ·obtain ⟨s0,h0,rfl⟩:=mem_map.1 hs;show (dd s0.arcs).length<=_;rw [js]; exact sm.arcs s0 h0
 ·obtain ⟨s0,h0,rfl⟩:=mem_map.1 hs;exact sm.w s0 h0 q (sortA_mem.1 hq)
theorem sort_at_ {x:Nat}{s:MSt}:(bJ M).states[x]?=some s↔ ∃ s0,M.states[x]?=some s0/\s=⟨s0.f,dd s0.arcs⟩:=by
 show (M.states.map _)[x]?=some s↔_;rw [getElem?_map,map_eq_some_iff];constructor
 ·rintro ⟨a,h1,h2⟩; exact ⟨a,h1,h2.symm⟩
 ·rintro ⟨a,h1,h2⟩; exact ⟨a,h1,h2.symm⟩
theorem sort_succ {x y:Nat}:bF (bJ M) x y↔bF M x y:=by
 constructor
 ·rintro ⟨s,hs,hm⟩;obtain ⟨s0,h0,rfl⟩:=sort_at_.1 hs;obtain ⟨q,hq,rfl⟩:=mem_map.1 hm;exact ⟨s0,h0,mem_map.2 ⟨q,sortA_mem.1 hq,rfl⟩⟩
 ·rintro ⟨s,hs,hm⟩;obtain ⟨q,hq,rfl⟩:=mem_map.1 hm;exact ⟨_,sort_at_.2 ⟨s,hs,rfl⟩,mem_map.2 ⟨q,sortA_mem.2 hq,rfl⟩⟩
theorem sort_fin {x:Nat}:jO (bJ M) x↔jO M x:=by
 constructor
 ·rintro ⟨s,hs,hm⟩;obtain ⟨s0,h0,rfl⟩:=sort_at_.1 hs;exact ⟨s0,h0,hm⟩
 ·rintro ⟨s,hs,hm⟩;exact ⟨_,sort_at_.2 ⟨s,hs,rfl⟩,hm⟩
theorem tz {E E':Nat->Nat->Prop}{F F':Nat->Prop}(hE: ∀ x y,E x y->E' x y)(hF: ∀ x,F x->F' x){x:Nat}(h:Num.Rch E F x):Num.Rch E' F' x:=by
 induction h with
 | base h=>exact .base (hF _ h)
 | step _ e ih=>exact .step ih (hE _ _ e)
theorem yj {x:Nat}(h:bI M x):bI (bJ M) x:=
 ⟨tz (fun _ _=>sort_succ.2) (fun _ h=>h) h.1,tz (fun _ _=>sort_succ.2) (fun _=>sort_fin.2) h.2⟩
theorem Fx (h:kF M):kF (bJ M):=fun x hx=>yj (h x (by rw [gz] at hx; exact hx))
end
end
theorem GQ (ord:List Nat)(q:MArc):ord <+: cx ord q:=by
 unfold cx; split
 ·exact prefix_rfl
 ·exact List.prefix_append ..
theorem fA: ∀ (l:List MArc)(ord:List Nat),ord <+: l.foldl cx ord
 | [],_=>prefix_rfl
 | q::l,ord=>(GQ ord q).trans (fA l _)
theorem addT_mem {ord:List Nat}{q:MArc}{y:Nat}:y∈cx ord q↔y∈ord\/q.t.toNat=y:=by
 unfold cx; split
 ·next h=>
  constructor
  ·exact .inl
  ·rintro (h1 | rfl)
   ·exact h1
   ·exact h
 ·rw [mem_append,mem_singleton,eq_comm (a:=y)]
theorem foldT_mem {y:Nat}: ∀ {l:List MArc}{ord:List Nat},y∈l.foldl cx ord↔y∈ord\/ ∃ q∈l,q.t.toNat=y
 | [],ord=>by simp
 | q::l,ord=>by
  rw [foldl_cons,foldT_mem,addT_mem];constructor
  ·rintro ((h | h) | ⟨x,h1,h2⟩)
   ·exact .inl h
   ·exact .inr ⟨q,mem_cons_self ..,h⟩
   ·exact .inr ⟨x,mem_cons_of_mem _ h1,h2⟩
  ·rintro (h | ⟨x,h1,h2⟩)
   ·exact .inl (.inl h)
   ·rcases mem_cons.1 h1 with rfl | h1
    ·exact .inl (.inr h2)
    ·exact .inr ⟨x,h1,h2⟩
theorem nI {α:Type}{a b:List α}(h:a <+: b){i:Nat}{x:α}(hx:a[i]?=some x):b[i]?=some x:=by
 obtain ⟨t,rfl⟩:=h;rw [List.getElem?_append_left (List.getElem?_eq_some_iff.1 hx).1]; exact hx
theorem r9 {α:Type}{a b:List α}(h:a <+: b){i:Nat}{x:α}(hx:b[i]?=some x)(hi:i < a.length):a[i]?=some x:=by
 obtain ⟨t,rfl⟩:=h;rw [List.getElem?_append_left hi] at hx; exact hx
theorem nK (M:Mach): ∀ (f i:Nat)(ord:List Nat),ord <+: ji M f i ord
 | 0,_,_=>prefix_rfl
 | f+1,i,ord=>by
  unfold ji; split
  ·exact prefix_rfl
  ·exact (fA _ _).trans (nK M f (i+1) _)
theorem qC {M:Mach}(gd:Good M): ∀ (f i:Nat){ord:List Nat},OrdOk M.states.length ord->(∀ a x,a < i->ord[a]?=some x-> ∀ y,bF M x y->y∈ord)->M.states.length+1<=i+f-> ∀ x∈ji M f i ord,∀ y,bF M x y->y∈ji M f i ord
 | 0,i,ord,o,hc,hf,x,hx,y,hy=>by
  have hx:x∈ord:=hx;obtain ⟨a,ha⟩:=getElem?_of_mem hx;have h1:=dy _ o.nd o.lt;have h2:=(List.getElem?_eq_some_iff.1 ha).1;exact hc a x (by omega) ha y hy
 | f+1,i,ord,o,hc,hf,x,hx,y,hy=>by
  cases hi:ord[i]? with
  | none=>
   unfold ji at hx ⊢;rw [hi] at hx ⊢;dsimp only at hx ⊢;obtain ⟨a,ha⟩:=getElem?_of_mem hx;have h2:=(List.getElem?_eq_some_iff.1 ha).1;have h3:=List.getElem?_eq_none_iff.1 hi;exact hc a x (by omega) ha y hy
  | some s=>
   rw [mf hi] at hx ⊢;refine qC gd f (i+1) (tB gd o s) (fun a z ha hz u hu=> ?_) (by omega) x hx y hy;have hpre:ord <+: ia M ord s:=fA _ _;have hil:=(List.getElem?_eq_some_iff.1 hi).1;by_cases e:a=i
   ·subst e;have hz':=r9 hpre hz hil;rw [hi] at hz';obtain rfl:=oI hz';obtain ⟨st,hst,hm⟩:=hu;obtain ⟨q,hq,rfl⟩:=mem_map.1 hm;refine foldT_mem.2 (.inr ⟨q,sortA_mem.2 ?_,rfl⟩);rw [gD,hst]; exact hq
   ·have hz':=r9 hpre hz (by omega);exact hpre.subset (hc a z (by omega) hz' u hu)
theorem nW {M:Mach}(gd:Good M)(au:kF M){x:Nat}:x∈bV M↔x < M.states.length:=by
 constructor
 ·exact (i5 gd).lt x
 ·intro hx;have hcl: ∀ x∈bV M,∀ y,bF M x y->y∈bV M:=fun x hx y hy=>qC gd _ 0 (CM gd) (fun a x ha=>absurd ha (not_lt_zero _)) (by omega) x hx y hy;have key: ∀ {x:Nat},Num.Rch (bF M) (fun y=>y=M.start.toNat) x->x∈bV M:=fun h=>by
   induction h with
   | base h=>subst h; exact (nK M _ 0 _).subset (mem_singleton.2 rfl)
   | step _ e ih=>exact hcl _ ih _ e
  exact key (au x hx).1
def H1 (ord:List Nat)(q:MArc):MArc:=⟨q.i,q.o,q.w,cO ord 0 q.t.toNat⟩
theorem AS {ordT:List Nat}{L:List MArc}(hn:(L.foldl cx ordT).Nodup){p1 j j0 y0:Nat}{q:MArc}(hq:L[p1]?=some q)(hj:(L.foldl cx ordT)[j]?=some q.t.toNat)(h0:(L.foldl cx ordT)[j0]?=some y0)(hk:ordT.length<=j0)(hlt:j0 < j): ∃ b∈L.take p1,b.t.toNat=y0:=by
 have hpre:(L.take (p1+1)).foldl cx ordT <+: L.foldl cx ordT:=by
  have:=fA (L.drop (p1+1)) ((L.take (p1+1)).foldl cx ordT);rwa [<-foldl_append,List.take_append_drop] at this
 have e:(L.take (p1+1)).foldl cx ordT=cx ((L.take p1).foldl cx ordT) q:=by
  rw [take_add_one,hq,foldl_append]; rfl
 have hm:q.t.toNat∈(L.take (p1+1)).foldl cx ordT:=by rw [e]; exact addT_mem.2 (.inr rfl)
 obtain ⟨j',hj'⟩:=getElem?_of_mem hm;have ej:j'=j:=fe hn (nI hpre hj') hj;subst ej;have h1:=r9 hpre h0 (by have:=(List.getElem?_eq_some_iff.1 hj').1; omega);have h2:=List.mem_of_getElem? h1;rw [e,addT_mem] at h2;have hne:q.t.toNat≠y0:=fun e2=>by
  rw [<-e2] at h0;have:=fe hn h0 hj;omega
 rcases h2 with h2 | h2
 ·rcases foldT_mem.1 h2 with h3 | h3
  ·obtain ⟨a,ha⟩:=getElem?_of_mem h3;have:=fe hn (nI (fA L ordT) ha) h0;have:=(List.getElem?_eq_some_iff.1 ha).1;omega
  ·exact h3
 ·exact absurd h2 hne
theorem BH {ord ordT:List Nat}(hn:ord.Nodup){L L':List MArc}(hp:L.foldl cx ordT <+: ord)(hs:L.Pairwise wh)(hs':L'.Pairwise wh)(hperm:L'.Perm (L.map (H1 ord))):L'.foldl cx (List.range ordT.length)=List.range (L.foldl cx ordT).length:=by
 have hnR:(L.foldl cx ordT).Nodup:=hn.sublist hp.sublist;have tgt: ∀ q∈L,∃ j,j < (L.foldl cx ordT).length/\(L.foldl cx ordT)[j]?=some q.t.toNat/\(H1 ord q).t=(j:Int):=fun q hq=>by
  obtain ⟨j,hj⟩:=getElem?_of_mem (foldT_mem.2 (.inr ⟨q,hq,rfl⟩):q.t.toNat∈L.foldl cx ordT);refine ⟨j,(List.getElem?_eq_some_iff.1 hj).1,hj,?_⟩;show cO ord 0 q.t.toNat=_;rw [jI hn (nI hp hj)]; simp
 have hkK:ordT.length<=(L.foldl cx ordT).length:=pG L ordT;have claim: ∀ p,p<=L'.length-> ∃ m,ordT.length<=m/\m<=(L.foldl cx ordT).length/\(L'.take p).foldl cx (List.range ordT.length)=List.range m:=by
  intro p
  induction p with
  | zero=>exact fun _=>⟨ordT.length,le_refl _,hkK,rfl⟩
  | succ p ih=>
   intro hp1;obtain ⟨m,m1,m2,m3⟩:=ih (by omega);obtain ⟨a,ha⟩: ∃ a,L'[p]?=some a:=⟨_,gE (by omega)⟩
   obtain ⟨q,hq,rfl⟩:=mem_map.1 (hperm.subset (List.mem_of_getElem? ha));obtain ⟨j,j1,j2,j3⟩:=tgt q hq;have jt:(H1 ord q).t.toNat=j:=by omega
   have et:(L'.take (p+1)).foldl cx (List.range ordT.length)=cx (List.range m) (H1 ord q):=by
    rw [take_add_one,ha,foldl_append,m3]; rfl
   rw [et];unfold cx;rw [jt];by_cases hjm:j < m
   ·exact ⟨m,m1,m2,by rw [if_pos (mem_range.2 hjm)]⟩
   ·have hj:j=m:=by
     refine Classical.byContradiction fun hne=> ?_;obtain ⟨y0,h0⟩: ∃ y0,(L.foldl cx ordT)[m]?=some y0:=⟨_,gE (by omega)⟩
     obtain ⟨p1,hp1⟩:=getElem?_of_mem hq;obtain ⟨b,hb,hbt⟩:=AS hnR hp1 j2 h0 m1 (by omega);have hbL:b∈L:=List.mem_of_mem_take hb;have hle:wh b q:=by
      obtain ⟨p2,hp2⟩:=getElem?_of_mem hb;have hlt:p2 < p1:=by
       have:=(List.getElem?_eq_some_iff.1 hp2).1;rw [length_take] at this; omega
      rw [getElem?_take,if_pos hlt] at hp2;obtain ⟨g1,e1⟩:=List.getElem?_eq_some_iff.1 hp2;obtain ⟨g2,e2⟩:=List.getElem?_eq_some_iff.1 hp1;have:=List.pairwise_iff_getElem.1 hs p2 p1 g1 g2 hlt;rw [e1,e2] at this; exact this
     have hbm:(H1 ord b).t=(m:Int):=by
      show cO ord 0 b.t.toNat=_;rw [hbt,jI hn (nI hp h0)]; simp
     have hbef:jD (H1 ord b) (H1 ord q)=true:=by
      unfold wh at hle;rw [lj] at hle ⊢;rw [hbm,j3];show b.i < q.i\/b.i=q.i/\(b.o < q.o\/b.o=q.o/\(aX b.w q.w=true\/b.w=q.w/\(m:Int) < j));by_cases c1:b.i < q.i
      ·exact .inl c1
      ·have e1:b.i=q.i:=by
        have: ¬ q.i < b.i:=fun h=>hle (.inl h);omega
       refine .inr ⟨e1,?_⟩;by_cases c2:b.o < q.o
       ·exact .inl c2
       ·have e2:b.o=q.o:=by
         have: ¬ q.o < b.o:=fun h=>hle (.inr ⟨e1.symm,.inl h⟩);omega
        refine .inr ⟨e2,?_⟩;by_cases c3:aX b.w q.w=true
        ·exact .inl c3
        ·have e3:b.w=q.w:=kT c3 fun h=>hle (.inr ⟨e1.symm,.inr ⟨e2.symm,.inl h⟩⟩);exact .inr ⟨e3,by omega⟩
     obtain ⟨p2,hp2⟩:=getElem?_of_mem (hperm.mem_iff.2 (mem_map.2 ⟨b,hbL,rfl⟩));have hlt:p2 < p:=by
      refine Classical.byContradiction fun hge=> ?_;by_cases e:p2=p
      ·rw [e,ha] at hp2;have:=oI hp2;rw [this] at hbef;exact r8 _ hbef
      ·obtain ⟨g1,e1⟩:=List.getElem?_eq_some_iff.1 hp2;obtain ⟨g2,e2⟩:=List.getElem?_eq_some_iff.1 ha;have:=List.pairwise_iff_getElem.1 hs' p p2 g2 g1 (by omega);rw [e1,e2] at this;exact this hbef
     have hmem:m∈(L'.take p).foldl cx (List.range ordT.length):=by
      refine foldT_mem.2 (.inr ⟨H1 ord b,List.mem_of_getElem? (i:=p2) (by rw [getElem?_take,if_pos hlt]; exact hp2),by omega⟩)
     rw [m3,mem_range] at hmem;omega
    rw [hj] at j1;refine ⟨m+1,Nat.le_succ_of_le m1,j1,?_⟩;rw [if_neg (by rw [mem_range]; exact hjm),List.range_succ,hj]
 obtain ⟨m,m1,m2,m3⟩:=claim L'.length (le_refl _);rw [List.take_length] at m3;rw [m3];congr 1;refine Classical.byContradiction fun hne=> ?_;obtain ⟨y0,h0⟩: ∃ y0,(L.foldl cx ordT)[m]?=some y0:=⟨_,gE (by omega)⟩
 rcases foldT_mem.1 (List.mem_of_getElem? h0) with h | ⟨q,hq,e⟩
 ·obtain ⟨a,ha⟩:=getElem?_of_mem h;have:=fe hnR (nI (fA L ordT) ha) h0;have:=(List.getElem?_eq_some_iff.1 ha).1;omega
 ·obtain ⟨j,j1,j2,j3⟩:=tgt q hq;rw [e] at j2;have ej:=fe hnR j2 h0;have hmem:m∈L'.foldl cx (List.range ordT.length):=foldT_mem.2 (.inr ⟨H1 ord q,hperm.mem_iff.2 (mem_map.2 ⟨q,hq,rfl⟩),by omega⟩);rw [m3,mem_range] at hmem;omega
section
theorem Ih: ∀ (n:Nat)(l:List Nat),(∀ x,x < n->x∈l)->n<=l.length
 | 0,_,_=>zero_le _
 | n+1,l,h=>by
  have hn:=h n (Nat.lt_succ_self n);have ih:=Ih n (l.erase n) fun x hx=>(List.mem_erase_of_ne (by omega)).2 (h x (by omega));rw [List.length_erase_of_mem hn] at ih;have:=List.length_pos_of_mem hn;omega
theorem Cd (l:List MArc):dd (dd l)=dd l:=(y5 (List.Perm.refl _) (hH l)).symm
theorem By (M:Mach):bJ (bJ M)=bJ M:=by
 unfold bJ;rw [map_map];congr 1;exact List.map_congr_left fun s _=>by show MSt.mk s.f (dd (dd s.arcs))=_; rw [Cd]
section
variable {T:Mach}
theorem rj (gd:Good T)(au:kF T):(bV T).length=T.states.length:=
 Nat.le_antisymm (dy _ (i5 gd).nd (i5 gd).lt) (Ih _ _ fun x hx=>(nW gd au).2 hx)
theorem Gr (gd:Good T)(au:kF T){i x:Nat}(hx:(bV T)[i]?=some x):(bJ (bE T (bV T))).states.getD i ⟨[],[]⟩=⟨(T.states.getD x ⟨[],[]⟩).f,dd ((T.states.getD x ⟨[],[]⟩).arcs.map (H1 (bV T)))⟩:=by
 have h1:=sort_at_.2 ⟨_,rg (M:=T) hx,rfl⟩;rw [gD,h1];show MSt.mk _ (dd (ff T (bV T) x).arcs)=_;have e:(ff T (bV T) x).arcs=(T.states.getD x ⟨[],[]⟩).arcs.map (H1 (bV T)):=by
  unfold ff;rw [<-List.filterMap_eq_map];refine ls fun q hq=> ?_;have hm:q.t.toNat∈bV T:=(nW gd au).2 (gd.tn (s:=x) hq);unfold dD;rw [if_neg ((sq _ 0 _).2 hm)]; rfl
 rw [e]; rfl
theorem CB (gd:Good T)(au:kF T): ∀ (f i:Nat)(ordT:List Nat),ji T f i ordT=bV T->ji (bJ (bE T (bV T))) f i (List.range ordT.length)=List.range (bV T).length
 | 0,i,ordT,h=>by
  have h:ordT=bV T:=h;rw [h]; rfl
 | f+1,i,ordT,h=>by
  cases hi:ordT[i]? with
  | none=>
   have e:ordT=bV T:=by
    unfold ji at h; rw [hi] at h; exact h
   have hn:=List.getElem?_eq_none_iff.1 hi;rw [zW (by rw [List.length_range]; exact hn),e]
  | some x=>
   have hlt:=(List.getElem?_eq_some_iff.1 hi).1;rw [mf hi] at h;rw [mf (getElem?_range hlt)];have hpre:ia T ordT x <+: bV T:=by rw [<-h]; exact nK ..
   have hx:(bV T)[i]?=some x:=nI ((fA _ _).trans hpre) hi;have es:ia (bJ (bE T (bV T))) (List.range ordT.length) i=List.range (ia T ordT x).length:=by
    unfold ia;rw [Gr gd au hx];refine BH (i5 gd).nd hpre (hH _) (hH _) ?_;refine (jX _).trans ((jX _).trans ?_);exact ((jX _).map _).symm
   rw [es];exact CB gd au f (i+1) _ h
theorem zV (gd:Good T)(au:kF T):(bJ (bE T (bV T))).start=0:=by
 show cO (bV T) 0 T.start.toNat=0;have h0:(bV T)[0]?=some T.start.toNat:=nI (nK T _ 0 [T.start.toNat]) rfl;rw [jI (i5 gd).nd h0]; rfl
theorem E5 (gd:Good T)(au:kF T):bV (bJ (bE T (bV T)))=List.range T.states.length:=by
 have e1:(bJ (bE T (bV T))).states.length=T.states.length:=by rw [gz,fZ,rj gd au]
 have h:=CB gd au (T.states.length+1) 0 [T.start.toNat] rfl;rw [rj gd au] at h;unfold bV;change ji (bJ (bE T (bV T))) ((bJ (bE T (bV T))).states.length+1) 0 [(bJ (bE T (bV T))).start.toNat]=_;rw [e1,zV gd au];exact h
theorem Ew (hv:aL T=true)(au:kF T):aL (bJ (bE T (bV T)))=true/\kF (bJ (bE T (bV T)))/\cF (bJ (bE T (bV T)))=(bJ (bE T (bV T)),0):=by
 have gd:=cL hv;have oo:=i5 gd;have hs:T.start.toNat∈bV T:=(nW gd au).2 (pp gd);have v1:=Co (vK hv oo hs);have a1:kF (bJ (bE T (bV T))):=Fx (zK gd oo (fun x=>⟨fun h=>au x ((nW gd au).1 h),fun h=>(nW gd au).2 (Gi gd h.1)⟩) (au _ (pp gd)));refine ⟨v1,a1,?_⟩;have ht:=rL v1 a1;rw [fH (by rw [ht])];rw [ht];show (bJ (bE (bJ (bE T (bV T))) (bV (bJ (bE T (bV T))))),0)=_;have e1:(bJ (bE T (bV T))).states.length=T.states.length:=by rw [gz,fZ,rj gd au]
 rw [E5 gd au,<-e1,uo (cL v1),By]
end
def T0 (kind:Int):Mach:=⟨kind,0,qd kind,[⟨[],[]⟩]⟩
theorem sn {kind:Int}(h:1<=kind/\kind<=3):aL (T0 kind)=true:=by
 have:kind=1\/kind=2\/kind=3:=by omega
 rcases this with rfl | rfl | rfl <;> decide +kernel
theorem w9 {kind:Int}(h:1<=kind/\kind<=3):jh kind=(T0 kind,0):=by unfold jh; rw [if_pos h]; rfl
theorem LM {kind:Int}(x:Nat): ¬ bI (T0 kind) x:=by
 rintro ⟨_,h⟩;have key: ∀ y,Num.Rch (fun y x=>bF (T0 kind) x y) (jO (T0 kind)) y->False:=fun y hy=>by
  induction hy with
  | @base y hf=>
   obtain ⟨s,hs,hne⟩:=hf
   match y,hs with
   | 0,hs=>obtain rfl:=oI hs; exact hne rfl
   | y+1,hs=>cases hs
  | step _ _ ih=>exact ih
 exact key x h
theorem Cv {kind:Int}(h:1<=kind/\kind<=3):bt (T0 kind)=(T0 kind,0):=by
 rw [jE (sn h) (LM _)];exact w9 h
theorem yx {kind:Int}(h:1<=kind/\kind<=3):cF (T0 kind)=(T0 kind,0):=by
 have ht:=Cv h;rw [fH (by rw [ht]),ht]; rfl
section
variable {M:Mach}
theorem iI (hv:aL M=true):(∃ T,bt M=(T,0)/\aL T=true/\kF T/\bI M M.start.toNat)\/(bt M=(T0 M.kind,0)/\ ¬ bI M M.start.toNat):=by
 have gd:=cL hv;by_cases hu:bI M M.start.toNat
 ·refine .inl ⟨_,jj hv hu,vK hv (lV M) ((xX gd).2 hu),zK gd (lV M) (fun x=>xX gd) hu,hu⟩
 ·refine .inr ⟨?_,hu⟩;rw [jE hv hu];exact w9 (cj hv).1
theorem ni (hv:aL M=true):bt (bt M).1=bt M/\(bt M).2=0/\aL (bt M).1=true:=by
 rcases iI hv with ⟨T,h1,h2,h3,_⟩ | ⟨h1,_⟩
 ·rw [h1]; exact ⟨rL h2 h3,rfl,h2⟩
 ·rw [h1]; exact ⟨Cv (cj hv).1,rfl,sn (cj hv).1⟩
theorem sr (hv:aL M=true):cF (bt M).1=cF M:=by
 obtain ⟨h1,h2,_⟩:=ni hv;rw [fH h2,fH (by rw [h1]; exact h2),h1]
theorem yH (hv:aL M=true):cF (cF M).1=cF M/\(cF M).2=0/\aL (cF M).1=true/\(cF M).1.states.length=(bt M).1.states.length:=by
 rcases iI hv with ⟨T,h1,h2,h3,_⟩ | ⟨h1,_⟩
 ·obtain ⟨c1,c2,c3⟩:=Ew h2 h3;have e:cF M=(bJ (bE T (bV T)),0):=by rw [fH (by rw [h1]),h1]
  rw [e,h1];refine ⟨c3,rfl,c1,?_⟩;show (bJ (bE T (bV T))).states.length=_;rw [gz,fZ,rj (cL h2) h3]
 ·have hk:=(cj hv).1;have e:cF M=(T0 M.kind,0):=by
   rw [<-sr hv,h1]; exact yx hk
  rw [e,h1];exact ⟨yx hk,rfl,sn hk,rfl⟩
end
end
end Go.Proofs.YtoabjjimjldcfaaGreatDoor
end
