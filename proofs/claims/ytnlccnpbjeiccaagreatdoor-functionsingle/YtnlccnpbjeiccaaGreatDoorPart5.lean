/- Laws and walks that the proof leans on (part 5): F14; J2; F15; J3; F16; J4 and others. No condition. -/
import Derived.Test.YtnlccnpbjeiccaaGreatDoorPart2
import Derived.Test.YtnlccnpbjeiccaaGreatDoorPart4
import Derived.Shelf.SortM.Plain
import Derived.Shelf.SortM.SortNone
import Derived.Test.YtnlccnpbjeiccaaGreatDoorProg
set_option linter.unusedVariables false
set_option linter.unusedSimpArgs false
set_option maxRecDepth 100000
open Bool renaming and_eq_true → bg, false → aj, not_eq_false' → dc, not_eq_true' → cK, true → af, true_and → dz
open Classical renaming propDecidable → dU
open Go renaming Addr → aJ, TypeId → aF, Value → ag
open Go.IntKind renaming i64 → ak, u8 → aK, wrap → ai
open Go.Value renaming agg → al, bool → ah, func → aN, int → aC, pointer → bj, slice → ae, string → bt, tuple → av
open Int renaming le_refl → gr, toNat_natCast → bc
open List renaming all_eq_true → bY, append_assoc → bP, append_nil → cp, cons_append → fh, drop_eq_nil_of_le → bV, drop_zero → bO, ext_getElem? → dH, length_append → bF, length_cons → bU, length_map → aH, length_set → dt, length_singleton → de, length_take → bq, map_append → bK, map_cons → eK, mem_append → bG, mem_append_left → ey, mem_cons → cW, mem_cons_of_mem → cF, mem_cons_self → cj, mem_filter → fe, mem_map → cI, mem_of_getElem? → aM, mem_of_mem_take → dy, mem_singleton → ba, nil_append → dL, nodup_append → fx, range → dA, replicate → aQ, sum_cons → qI, take_of_length_le → bC, take_zero → dQ
open Nat renaming blt → cQ, le_add_right → du, le_refl → aT, le_trans → bN, lt_succ_self → ff, mul_le_mul → fy, not_lt_zero → dR, pow_le_pow_right → di, zero_add → bJ, zero_le → ck
open Option renaming map_eq_some_iff → bo, some → aa
open Option.some renaming inj → aG
open List (getElem?_append_left getElem?_eq_none getElem?_map getElem?_of_mem)
section
namespace Go.Proofs.YtnlccnpbjeiccaaGreatDoor
open Go Go.Ab Go.Num
noncomputable def eV:FD:=gU Tryz.f117 [((pq 37),[1,2,5]),((pq 2469),[1,2,5,14,15,16]),((pq 151),[10,56,57,58]),((pq 629157),[1,2,5,7,14,15,16,27,28,29])]
abbrev ja(b R a:Nat)(td:Bool):LV:=[(sA b R R),(pA a),(ah td)]
abbrev lE(a R b:Nat)(td:Bool)(q:Nat):LV:=[(sA a R R),(pA b),(ah td),(sA a R R),(iA R),(iA q)]
abbrev nj(a R:Nat)(b:OA)(m d:Nat)(i:Nat):LV:=[(ae b m d),(sA a R R),(iA R),(iA i)]
abbrev jT(b R d q:Nat)(x:Bool)(a:OA)(n c:Nat)(td:Bool)(j:Nat):LV:=[(sA b R R),(pA d),(ah td),(ah x),(sA b R R),(iA R),(iA q),(ae a n c),(iA n),(iA j)]
theorem VG(b:LV)(a R:Nat)(h:au)(Q:VH)(d:xN (jY aq 82 (al ⟨b⟩)) h λe c=>cw eV (pq 37) (ja a R (h.aD) af) c (eu eV (pq 21) Q)):aX 117 [(al ⟨b⟩),(sA a R R)] h Q:=hH eV Tryz.func117 (bD d)
theorem CE(k:LV)(b R:Nat)(c:Nat)(a:Nat->Bool->au->Prop)(Q:VH)(step:∀(mz:Nat) (td:Bool) (e:Nat->ag) (h:au),a mz td h->cq td (cw eV (pq 2469) (lE b R c aj 0) h (fQ eV (pq 45) (pq 37) (RR eV (pq 37) (jg (ja b R c) a) mz (eu eV (pq 21) Q)))) (xR (dD aq 183 (iA R) (iA R)) h λj g i f=>cw eV (pq 151) (nj b R (aa ⟨h.aD,0,none⟩) g i 0) f (eu eV (pq 87) Q)))(mz:Nat){td:Bool}{h:au}(d:a mz td h):cw eV (pq 37) (ja b R c td) h (eu eV (pq 21) Q):=
 gm (ja b R c) a (λmz td e h d=>bD (step mz td e h d)) mz d
theorem CF(v:LV)(c R:Nat)(b:Nat)(e:Nat->Bool->au->Prop)(mz:Nat)(d:Nat->Bool->Nat->au->Prop)(Q:VH)(step:∀(a:Nat) (td:Bool) (q:Nat) (o:Nat->ag) (h:au),d a td q h->cq (decide (((q:Int):Int)<(R:Int))) (xP (aW aq 68 (sA c R R) (iA q)) λt=>xB (aS aq 4 h (bw t)) λs=>xP (aY aq 82 (pA b) 0) λu=>xP (aY aq 24 (bw u) 3) λl=>xL (aS aq 22 h (bw l)) λi p m=>xP (aW aq 22 (ae i p m) (iA q)) λj=>xP (aY aq 44 (bw j) 1) λk=>xL (aS aq 42 h (bw k)) λn r g=>cw eV (pq 629157) (jT c R b q s n r g td 0) h (fQ eV (pq 179) (pq 2469) (RR eV (pq 2469) (pB (lE c R b) d) a (fQ eV (pq 45) (pq 37) (RR eV (pq 37) (jg (ja c R b) e) mz (eu eV (pq 21) Q)))))) (ct (jg (ja c R b) e) mz [(sA c R R),(pA b),(ah td)] h))(a:Nat){td:Bool}{q:Nat}{h:au}(f:d a td q h):cw eV (pq 2469) (lE c R b td q) h (fQ eV (pq 45) (pq 37) (RR eV (pq 37) (jg (ja c R b) e) mz (eu eV (pq 21) Q))):=
 mc (lE c R b) d (λa td q o h f=>bD (step a td q o h f)) a f
theorem CG(q:LV)(e R:Nat)(b:OA)(m d:Nat)(c:Nat->Nat->au->Prop)(Q:VH)(step:∀(a:Nat) (i:Nat) (o:Nat->ag) (h:au),c a i h->cq (decide (((i:Int):Int)<(R:Int))) (xP (aW aq 68 (sA e R R) (iA i)) λk=>xB (aS aq 4 h (bw k)) λn=>cq n (xP (aW aq 183 (ae b m d) (iA i)) λg=>xU (bh aq 5 (bw g) (aC aK 1) h) h λp l=>ct (jg (nj e R b m d) c) a [(ae b m d),(sA e R R),(iA R),(aE (ai ak ((i:Int)+1)))] l) (ct (jg (nj e R b m d) c) a [(ae b m d),(sA e R R),(iA R),(aE (ai ak ((i:Int)+1)))] h)) (xS (AV aq 183 9 (ae b m d) h) λj=>Q (strOf j) h))(a:Nat){i:Nat}{h:au}(f:c a i h):cw eV (pq 151) (nj e R b m d i) h (eu eV (pq 87) Q):=
 gm (nj e R b m d) c (λa i o h f=>bD (step a i o h f)) a f
theorem CH(H:LV)(b R:Nat)(f:Nat)(p:Nat->Bool->au->Prop)(mz:Nat)(i:Nat->Bool->Nat->au->Prop)(k q:Nat)(x:Bool)(a:OA)(n c:Nat)(e:Nat->Bool->Nat->au->Prop)(Q:VH)(step:∀(d:Nat) (td:Bool) (j:Nat) (y:Nat->ag) (h:au),e d td j h->cq (decide (((j:Int):Int)<(n:Int))) (xP (aW aq 42 (ae a n c) (iA j)) λv=>xA (aS aq 46 h (bw v)) λz=>xN (cP aq 46) h λG l=>xU (bh aq 46 (pA (h.aD)) (al ⟨z⟩) l) l λE g=>cq x (xP (aY aq 46 (pA (h.aD)) 0) λo=>xI ak (aS aq 3 g (bw o)) λD=>cq (((D:Int)==0)) (xP (aY aq 46 (pA (h.aD)) 3) λw=>xI ak (aS aq 3 g (bw w)) λr=>xP (aW aq 68 (sA b R R) (aE r)) λA=>xB (aS aq 4 g (bw A)) λt=>cq (!t) (xP (aY aq 46 (pA (h.aD)) 3) λs=>xI ak (aS aq 3 g (bw s)) λC=>xP (aW aq 68 (sA b R R) (aE C)) λu=>xU (bh aq 4 (bw u) (ah af) g) g λF B=>ct (pB (jT b R f q x a n c) e) d [(sA b R R),(pA f),(ah af),(ah x),(sA b R R),(iA R),(iA q),(ae a n c),(iA n),(aE (ai ak ((j:Int)+1)))] B) (ct (pB (jT b R f q x a n c) e) d [(sA b R R),(pA f),(ah td),(ah x),(sA b R R),(iA R),(iA q),(ae a n c),(iA n),(aE (ai ak ((j:Int)+1)))] g)) (ct (pB (jT b R f q x a n c) e) d [(sA b R R),(pA f),(ah td),(ah x),(sA b R R),(iA R),(iA q),(ae a n c),(iA n),(aE (ai ak ((j:Int)+1)))] g)) (ct (pB (jT b R f q x a n c) e) d [(sA b R R),(pA f),(ah td),(ah x),(sA b R R),(iA R),(iA q),(ae a n c),(iA n),(aE (ai ak ((j:Int)+1)))] g)) (ct (pB (lE b R f) i) k [(sA b R R),(pA f),(ah td),(sA b R R),(iA R),(aE (ai ak ((q:Int)+1)))] h))(d:Nat){td:Bool}{j:Nat}{h:au}(m:e d td j h):cw eV (pq 629157) (jT b R f q x a n c td j) h (fQ eV (pq 179) (pq 2469) (RR eV (pq 2469) (pB (lE b R f) i) k (fQ eV (pq 45) (pq 37) (RR eV (pq 37) (jg (ja b R f) p) mz (eu eV (pq 21) Q))))):=
 mc (jT b R f q x a n c) e (λd td j y h m=>bD (step d td j y h m)) d m
section
structure ClI(hb:au)(k2 kt:Nat)(B:eA)(M:cm)(l l':List Bool)(g:au):Prop where
 br:BR hb kt M.aI.length l' g
 bx:g.get k2=aa B
 mid:Ba M l l'
section
variable {hb g g':au} {k2 kt:Nat} {B:eA} {M:cm} {l l':List Bool}
theorem ClI.grow(e:ClI hb k2 kt B M l l' g)(o:Ok g g'):ClI hb k2 kt B M l l' g':=⟨e.br.trans o,o.ext _ _ e.bx,e.mid⟩
theorem ClI.put(w:Wf hb)(o:k2≠kt)(f:Good M)(e:ClI hb k2 kt B M l l' g)(s:l.length=M.aI.length){q:Nat}{a:eC}(m:kQ l' q)(b:a∈dp M q)(p:a.i=0)(c:Nat):
  aW aq 68 (sA kt M.aI.length c) (aE a.t)=aa (df kt a.t.toNat)/\aS aq 4 g (df kt a.t.toNat)=aa (ah (l'.getD a.t.toNat aj))/\
   ∃u:ek,bh aq 4 (df kt a.t.toNat) (ah af) g=aa (undef,u)/\ClI hb k2 kt B M l (l'.set a.t.toNat af) (u.app g):=by
 have d:=lP f b;obtain⟨i,k,h⟩:=e.br.get (c:=c) d.t0 d.t1;obtain⟨u,r,n,j⟩:=h af w;exact⟨i,k,u,r,n,j _ _ e.bx o,e.mid.set m b p (by have:=ox f _ _ b;omega)⟩
end
theorem Sh{l:List Bool}{q:Nat}(a:q<l.length)(h:l.getD q aj=aj):gh (l.set q af)+1=gh l:=zZ a h
section
variable {hb h:au} {M:cm} {a:Option aJ} {n c kt:Nat} {l:List Bool} {sg:Int}
theorem J0(w:Wf hb)(gd:Good M)(hN:M.aI.length<=300)(zA:∀s∈M.aI,s.bB.length<=2000)(X:eY hb (ae a n c) M.aI)(b:BR hb kt M.aI.length l h):
  aX 117 [al ⟨tx M a n c sg⟩,sA kt M.aI.length M.aI.length] h (λv g=>v=strOf (enc 1 0 (Iq M l))/\Ok hb g):=by
 refine VG (tx M a n c sg) kt M.aI.length h _ ⟨_,R8 M a n c sg,?_⟩;have hk:kt<h.aD:=b.row.ok.wf _ _ b.row.row;have e1:=(Ok.refl b.row.ok.wf).push (Bs M a n c sg);have ne:h.aD≠kt:=by omega
 have e0:ClI hb h.aD kt (Bs M a n c sg) M l l (h.push (Bs M a n c sg)):=⟨b.trans e1,cT h _,Ba.refl M l⟩
 have P:=b.len;generalize h.push (Bs M a n c sg)=g0 at*;generalize h.aD=k2 at*;clear b e1 hk;refine CE (tx M a n c sg) kt M.aI.length k2 (λmz td g=>∃l',ClI hb k2 kt (Bs M a n c sg) M l l' g/\(td=aj->∀q,q<M.aI.length->A8 M l' q)/\mz=gh l'+td.toNat) _ (λmz td=>?_) _ (td:=af) ⟨l,e0,λe=>(by cases e),rfl⟩;clear e0 g0;intro R g k;obtain⟨d,e,f,rfl⟩:=k;refine az (λq=>?_) (λq=>?_)
 ·subst q;refine CF (tx M a n c sg) kt M.aI.length k2 _ _ (λmz td q g=>∃l',ClI hb k2 kt (Bs M a n c sg) M l l' g/\(td=aj->l'=d/\∀p,p<q->A8 M d p)/\gh l'+td.toNat<=gh d/\q<=M.aI.length/\mz=M.aI.length-q) _ (λx6 td q=>?_) M.aI.length (td:=aj) (q:=0) ⟨d,e,λ_=>⟨rfl,λp hp=>absurd hp (dR _)⟩,aT _,ck _,rfl⟩;clear e f g R;intro R g k;obtain⟨L,e,f,t,hq,rfl⟩:=k;refine az (λJ=>?_) (λJ=>?_)
  ·have J:=dT J;have V:q<M.aI.length:=by omega
   obtain⟨x,B,ea,_,x0⟩:=oi V;have zx:=zA x x0;obtain⟨F,H,_⟩:=e.br.get (c:=M.aI.length) (x:=(q:Int)) (by omega) (by omega);obtain⟨_,_,b2,m2,d2,d1,_,_,d4,ar⟩:=X.KM e.br.row.ok B;refine⟨_,F,_,H,_,Gx _,_,dC _,_,_,_,Bs.l3 e.bx,_,d1,_,fG _ _,_,_,_,d4,?_⟩;rw[bc];have x8:m2=x.bB.length:=ar.len;generalize G:L.getD q aj=D;have U:td=aj->L=d/\(∀p,p<q->A8 M d p)/\(kQ d q->D=af/\∀s∈x.bB.take 0,s.i=0->kQ d s.t.toNat):=λh=>⟨(f h).1,(f h).2,λh2=>⟨by rw[<-G,(f h).1];exact h2,λs o=>by simp at o⟩⟩
   refine CH (tx M a n c sg) kt M.aI.length k2 _ _ _ _ q D b2 m2 d2 (λmz td j g=>∃l',ClI hb k2 kt (Bs M a n c sg) M l l' g/\(D=af->kQ l' q)/\(td=aj->l'=d/\(∀p,p<q->A8 M d p)/\(kQ d q->D=af/\∀s∈x.bB.take j,s.i=0->kQ d s.t.toNat))/\gh l'+td.toNat<=gh d/\j<=x.bB.length/\mz=x.bB.length-j) _ (λx7 td j=>?_) x.bB.length (td:=td) (j:=0) ⟨L,e,λh=>by rw[<-G]at h;exact h,U,t,ck _,rfl⟩;clear e f t F H U G;intro R g k;obtain⟨T,e,r,f,t,hj,rfl⟩:=k;refine az (λm=>?_) (λm=>?_)
   ·have m:=dT m;obtain⟨s,o⟩:∃s,x.bB[j]?=aa s:=⟨_,gE (by omega)⟩
    have ms:=aM o;have sa:s∈dp M q:=by rw[ea];exact ms
    have ht:=ox gd _ _ sa;obtain⟨_,_,f1,f2,_⟩:=(ar.ok e.br.row.ok).at_ o;obtain⟨u,p1,p2,p3⟩:=wo e.br.row.ok.wf s;refine⟨_,f1,_,f2,_,EP,u,p1,?_⟩;have e:=e.grow p2;generalize u.app (g.push Ks)=g2 at*;rw[cH (n:=x.bB.length) (by omega) (by omega)];have z:(kQ d q->D=af->s.i=0->kQ T s.t.toNat)->td=aj->T=d/\(∀p,p<q->A8 M d p)/\(kQ d q->D=af/\∀s∈x.bB.take (j+1),s.i=0->kQ d s.t.toNat):=λZ h2=>by
     obtain⟨C,K,I⟩:=f h2;refine⟨C,K,λB=>⟨(I B).1,λs' W S=>?_⟩⟩;rw[(nz o).2]at W;rcases bG.1 W with h|h
     ·exact(I B).2 s' h S
     ·obtain rfl:=ba.1 h;rw[<-C];exact Z B (I B).1 S
    refine az (λN=>⟨_,j0 _ _,_,p3.l0,az (λQ=>?_) (λQ=>?_)⟩) (λN=>?_)
    ·have s0:s.i=0:=by simpa using Q
     obtain⟨i1,i2,v,s1,e2⟩:=e.put w ne gd P (r N) sa s0 M.aI.length;refine⟨_,jh _ _,_,p3.l3,_,i1,_,i2,az (λq5=>?_) (λq5=>?_)⟩
     ·refine⟨_,jh _ _,_,p3.l3,_,i1,_,s1,iu (x.bB.length-(j+1)) (by omega) ⟨_,e2,λh=>?_,λh=>(by cases h),?_,by omega,rfl⟩⟩
      ·rw[vy (by rw[e.br.len];exact ht)];exact .inr (r h)
      ·have:=Sh (l:=T) (q:=s.t.toNat) (by rw[e.br.len];exact ht) (by simpa using q5);show gh _+1<=_;omega
     ·exact iu (x.bB.length-(j+1)) (by omega) ⟨_,e,r,z λ_ _ _=>by grind,t,by omega,rfl⟩
    ·exact iu (x.bB.length-(j+1)) (by omega) ⟨_,e,r,z λ_ _ h=>(by rw[h]at Q;simp at Q),t,by omega,rfl⟩
    ·exact iu (x.bB.length-(j+1)) (by omega) ⟨_,e,r,z λ_ h=>(by rw[h]at N;cases N),t,by omega,rfl⟩
   ·have m:=dF m;rw[bC (by omega)]at f;rw[cH V (by omega)];refine iu (M.aI.length-(q+1)) (by omega) ⟨T,e,λh=>?_,t,by omega,rfl⟩;obtain⟨C,K,I⟩:=f h;refine⟨C,λp hp=>?_⟩;by_cases x4:p=q
    ·subst x4;intro Z s o S;rw[ea]at o;exact(I Z).2 s o S
    ·exact K p (by omega)
  ·have J:=dF J;refine fC (gh L+td.toNat) (by show _<gh d+1;omega) ⟨L,e,λh=>?_,rfl⟩;obtain⟨C,K⟩:=f h;rw[C];exact λp hp=>K p (by omega)
 ·subst q;have x5:d=Iq M l:=e.mid.Iq λq=>by
   by_cases hq:q<M.aI.length
   ·exact f rfl q hq
   ·intro h;have:=Du h;rw[e.br.len]at this;omega
  have E:∀i,(FZ 1 0 0 (Iq M l) i).length=M.aI.length:=λi=>by rw[KP,By,P]
  rw[x5]at e;refine⟨_,_,_,adC _ (by omega),?_⟩;have e:=e.br;have w2:Wf g:=e.row.ok.wf;have Y:YR g g.aD _ _:=⟨cT g (.cells ((aQ M.aI.length (0:UInt8)).map uy) 5 1 af),aT _,(Ok.refl w2).push _⟩
  rw[show aQ M.aI.length (0:UInt8)=FZ 1 0 0 (Iq M l) 0 by rw[M9,By,P]]at Y⊢;refine CG (tx M a n c sg) kt M.aI.length (aa ⟨g.aD,0,none⟩) M.aI.length M.aI.length (λmz i g'=>YR g g.aD (FZ 1 0 0 (Iq M l) i) g'/\i<=M.aI.length/\mz=M.aI.length-i) _ (λmz i=>?_) M.aI.length (i:=0) ⟨Y,ck _,rfl⟩;clear Y;intro R g3 k;obtain⟨y,hi,rfl⟩:=k;have e:=e.trans y.ok;refine az (λq=>?_) (λq=>?_)
  ·have q:=dT q;have A:i<M.aI.length:=by omega
   obtain⟨F,H,_⟩:=e.get (c:=M.aI.length) (x:=(i:Int)) (by omega) (by omega);rw[bc]at F H;rw[cH A (by omega)];have O:=M8 1 0 0 (Iq M l) (i:=i) (by rw[<-E 0,KP]at A;exact A);refine⟨_,F,_,H,az (λm=>?_) (λm=>?_)⟩
   ·obtain⟨x1,u,x2,x3⟩:=YR.put w2 y (E i) A M.aI.length 1;rw[m,iP rfl]at O;rw[<-O]at x3;exact⟨_,x1,_,x2,fC (M.aI.length-(i+1)) (by omega) ⟨x3,by omega,rfl⟩⟩
   ·rw[m,iN (by simp),Xg]at O;rw[<-O]at y;exact fC (M.aI.length-(i+1)) (by omega) ⟨y,by omega,rfl⟩
  ·have q:=dF q;have y2:=YR.str (E i) (c:=M.aI.length) y;rw[Sa _ _ _ _ (by rw[By,P];omega)]at y2;exact⟨_,y2,rfl,e.row.ok⟩
end
end
noncomputable def Zo:FD:=gU Tryz.f55 []
theorem VK(n:LV)(h:au)(Q:VH)(q:xN (jY aq 82 (al ⟨n⟩)) h λv b=>xP (aY aq 82 (pA (h.aD)) 0) λs=>xP (aY aq 24 (bw s) 3) λr=>xL (aS aq 22 b (bw r)) λx j u=>xR (dD aq 68 (iA j) (iA j)) b λw f d a=>xP (aY aq 82 (pA (h.aD)) 0) λk=>xP (aY aq 24 (bw k) 1) λl=>xI ak (aS aq 3 a (bw l)) λg=>xP (aW aq 68 (sA (b.aD) f d) (aE g)) λi=>xU (bh aq 4 (bw i) (ah af) a) a λt c=>xA (aS aq 82 c (pA (h.aD))) λe=>aX 117 [(al ⟨e⟩),(sA (b.aD) f d)] c λm p=>yS m λo=>Q (strOf o) p):aX 55 [(al ⟨n⟩)] h Q:=hH Zo Tryz.func55 (bD q)
noncomputable def xW:FD:=gU Tryz.f56 [((pq 37),[1,2,7,8])]
abbrev np(l:LB)(a R:Nat)(i:Nat):LV:=[(strOf l),(pA a),(iA R),(iA i)]
theorem VI(a:LV)(l:LB)(h:au)(Q:VH)(c:xN (jY aq 82 (al ⟨a⟩)) h λd b=>cw xW (pq 37) [(strOf l),(pA (h.aD)),(aE ((l:LB).length:Int)),(aE 0)] b (eu xW (pq 21) Q)):aX 56 [(al ⟨a⟩),(strOf l)] h Q:=hH xW Tryz.func56 (bD c)
theorem CI(q:LV)(l:LB)(b R:Nat)(a:Nat->Nat->au->Prop)(Q:VH)(step:∀(mz:Nat) (i:Nat) (e:Nat->ag) (h:au),a mz i h->cq (decide (((i:Int):Int)<(R:Int))) (xI aK (dE aq 9 (strOf l) (iA i)) λg=>cq (((g:Int)==1)) (xP (aY aq 82 (pA b) 0) λo=>xP (aY aq 24 (bw o) 3) λj=>xL (aS aq 22 h (bw j)) λk n m=>xP (aW aq 22 (ae k n m) (iA i)) λp=>xP (aY aq 44 (bw p) 0) λd=>xS (aS aq 9 h (bw d)) λf=>cq (!((f:LB)==[])) (Q (ah af) h) (ct (jg (np l b R) a) mz [(strOf l),(pA b),(iA R),(aE (ai ak ((i:Int)+1)))] h)) (ct (jg (np l b R) a) mz [(strOf l),(pA b),(iA R),(aE (ai ak ((i:Int)+1)))] h)) (Q (ah aj) h))(mz:Nat){i:Nat}{h:au}(c:a mz i h):cw xW (pq 37) (np l b R i) h (eu xW (pq 21) Q):=
 gm (np l b R) a (λmz i e h c=>bD (step mz i e h c)) mz c
noncomputable def oa:FD:=gU Tryz.f57 [((pq 151),[1,2,3,8,9,17,18]),((pq 39319),[1,2,3,8,9,10,17,18,27,28,29])]
abbrev oE(l:LB)(cc:Int)(b a R:Nat)(an:Bool)(q:Nat):LV:=[(strOf l),(aE cc),(pA b),(sA a R R),(ah an),(iA R),(iA q)]
abbrev mi(l:LB)(cc:Int)(d b R q:Nat)(a:OA)(n c:Nat)(an:Bool)(j:Nat):LV:=[(strOf l),(aE cc),(pA d),(sA b R R),(ah an),(iA q),(iA R),(iA q),(ae a n c),(iA n),(iA j)]
theorem Zp(b:LV)(l:LB)(cc:Int)(h:au)(Q:VH)(c:xN (jY aq 82 (al ⟨b⟩)) h λg a=>xR (dD aq 68 (aE ((l:LB).length:Int)) (aE ((l:LB).length:Int))) a λi e f d=>cw oa (pq 151) [(strOf l),(aE cc),(pA (h.aD)),(sA (a.aD) e f),(ah aj),(aE ((l:LB).length:Int)),(aE 0)] d (eu oa (pq 87) Q)):aX 57 [(al ⟨b⟩),(strOf l),(aE cc)] h Q:=hH oa Tryz.func57 (bD c)
theorem DN(w:LV)(l:LB)(cc:Int)(b c R:Nat)(a:Nat->Bool->Nat->au->Prop)(Q:VH)(step:∀(mz:Nat) (an:Bool) (q:Nat) (o:Nat->ag) (h:au),a mz an q h->cq (decide (((q:Int):Int)<(R:Int))) (xP (aY aq 82 (pA b) 0) λv=>xP (aY aq 24 (bw v) 3) λu=>xL (aS aq 22 h (bw u)) λt k r=>xP (aW aq 22 (ae t k r) (iA q)) λm=>xP (aY aq 44 (bw m) 1) λp=>xL (aS aq 42 h (bw p)) λg j n=>cw oa (pq 39319) (mi l cc b c R q g j n an 0) h (fQ oa (pq 179) (pq 151) (RR oa (pq 151) (pB (oE l cc b c R) a) mz (eu oa (pq 87) Q)))) (xA (aS aq 82 h (pA b)) λe=>aX 117 [(al ⟨e⟩),(sA c R R)] h λi s=>yS i λf=>Q (av ⟨[(strOf f),(ah an)]⟩) s))(mz:Nat){an:Bool}{q:Nat}{h:au}(d:a mz an q h):cw oa (pq 151) (oE l cc b c R an q) h (eu oa (pq 87) Q):=
 mc (oE l cc b c R) a (λmz an q o h d=>bD (step mz an q o h d)) mz d
theorem DO(C:LV)(l:LB)(cc:Int)(f e R:Nat)(i:Nat->Bool->Nat->au->Prop)(mz q:Nat)(a:OA)(n c:Nat)(d:Nat->Bool->Nat->au->Prop)(Q:VH)(step:∀(b:Nat) (an:Bool) (j:Nat) (w:Nat->ag) (h:au),d b an j h->cq (decide (((j:Int):Int)<(n:Int))) (xP (aW aq 42 (ae a n c) (iA j)) λs=>xA (aS aq 46 h (bw s)) λo=>xN (cP aq 46) h λB k=>xU (bh aq 46 (pA (h.aD)) (al ⟨o⟩) k) k λz g=>xI aK (dE aq 9 (strOf l) (iA q)) λv=>cq (((v:Int)==1)) (xP (aY aq 46 (pA (h.aD)) 0) λy=>xI ak (aS aq 3 g (bw y)) λt=>cq (((t:Int)==cc)) (xP (aY aq 46 (pA (h.aD)) 3) λr=>xI ak (aS aq 3 g (bw r)) λu=>xP (aW aq 68 (sA e R R) (aE u)) λx=>xU (bh aq 4 (bw x) (ah af) g) g λA p=>ct (pB (mi l cc f e R q a n c) d) b [(strOf l),(aE cc),(pA f),(sA e R R),(ah af),(iA q),(iA R),(iA q),(ae a n c),(iA n),(aE (ai ak ((j:Int)+1)))] p) (ct (pB (mi l cc f e R q a n c) d) b [(strOf l),(aE cc),(pA f),(sA e R R),(ah an),(iA q),(iA R),(iA q),(ae a n c),(iA n),(aE (ai ak ((j:Int)+1)))] g)) (ct (pB (mi l cc f e R q a n c) d) b [(strOf l),(aE cc),(pA f),(sA e R R),(ah an),(iA q),(iA R),(iA q),(ae a n c),(iA n),(aE (ai ak ((j:Int)+1)))] g)) (ct (pB (oE l cc f e R) i) mz [(strOf l),(aE cc),(pA f),(sA e R R),(ah an),(iA R),(aE (ai ak ((q:Int)+1)))] h))(b:Nat){an:Bool}{j:Nat}{h:au}(m:d b an j h):cw oa (pq 39319) (mi l cc f e R q a n c an j) h (fQ oa (pq 179) (pq 151) (RR oa (pq 151) (pB (oE l cc f e R) i) mz (eu oa (pq 87) Q))):=
 mc (mi l cc f e R q a n c) d (λb an j w h m=>bD (step b an j w h m)) b m
variable{m:Nat}{k:Nat}{j:Nat}
section
theorem Sj(l:List Bool){q n:Nat}(a:l.length=n)(b:q<n){h:au}:dE aq 9 (strOf (enc 1 0 l)) (aE (q:Int))=aa (aC aK (if l.getD q aj then 1 else 0)):=by
 rw[Dl (h:=h) (enc 1 0 l) (by omega) (by rw[BH];omega),bc];unfold enc;rw[gD,getElem?_map,gD,gE (by omega)];dsimp only[Option.map,Option.getD];split<;>rfl
def EG(S:List eC)(l:List Bool)(p:Nat)(c:Int)(r:Nat):Prop:=kQ l p/\∃a∈S,a.i=c/\a.t.toNat=r
def Kv(M:cm)(l:List Bool)(c:Int)(q r:Nat):Prop:=∃p,p<q/\EG (dp M p) l p c r
theorem Jw{M:cm}{l:List Bool}{c:Int}{q:Nat}:Kv M l c (q+1) m↔Kv M l c q m\/EG (dp M q) l q c m:=by
 constructor
 ·rintro⟨p,a,h⟩;by_cases e:p=q
  ·subst e;exact .inr h
  ·exact .inl ⟨p,by omega,h⟩
 ·rintro(⟨p,a,h⟩|h)
  ·exact⟨p,by omega,h⟩
  ·exact⟨q,by omega,h⟩
theorem yz{S:List eC}{l:List Bool}{c:Int}{s:eC}(a:S[j]?=aa s):EG (S.take (j+1)) l m c k↔EG (S.take j) l m c k\/(kQ l m/\s.i=c/\s.t.toNat=k):=by
 unfold EG;rw[(nz a).2]
 grind
theorem NR{M:cm}{l:List Bool}{c:Int}{n:Nat}(g:l.length<=n):Kv M l c n m↔Tr M l c m:=by
 constructor
 ·rintro⟨p,_,b,a,e,d,f⟩;exact⟨p,a,b,e,d,f⟩
 ·rintro⟨p,a,b,e,d,f⟩;exact⟨p,by have:=Du b;omega,b,a,e,d,f⟩
theorem NQ{M:cm}(d:Ts M){l l':List Bool}{c:Int}(f:l.length=M.aI.length)(e:l'.length=M.aI.length)(h:∀r,kQ l' r↔Tr M l c r):Iq M l'=fT M l c:=by
 unfold fT;congr 1;refine Ly (by rw[uF];omega) λq=>?_;rw[h,vz];constructor
 ·intro x;refine⟨?_,x⟩;obtain⟨p,a,_,b,_,rfl⟩:=x;have:=d _ _ b;omega
 ·exact λx=>x.2
section
variable {h:au} {M:cm} {a:Option aJ} {n c:Nat} {l:List Bool} {sg:Int}
theorem VL(w:Wf h)(f:Good M)(t:M.aI.length<=300)(p:∀s∈M.aI,s.bB.length<=2000)(b:eY h (ae a n c) M.aI):aX 55 [al ⟨tx M a n c sg⟩] h (λv g=>v=strOf (enc 1 0 (mL M))/\Ok h g):=by
 have m:n=M.aI.length:=b.len;refine VK (tx M a n c sg) h _ ⟨_,R8 M a n c sg,?_⟩;have d:=(Ok.refl w).push (Bs M a n c sg);have i:=cT h (Bs M a n c sg);generalize h.push (Bs M a n c sg)=y at*;refine⟨_,Gx _,_,dC _,_,_,_,Bs.l3 i,_,_,_,Uy n (by omega),_,Gx _,_,qk _,?_⟩;have q:=(BR.new d.wf n).base d;have k:=((Ok.refl d.wf).push (.cells ((aQ n aj).map ah) 4 1 af)).ext _ _ i;generalize y.push (.cells ((aQ n aj).map ah) 4 1 af)=B at*;have x:=f.uj;have C:=f.uk;obtain⟨o,_,l⟩:=q.get (c:=n) x (by omega);obtain⟨u,A,r,z⟩:=l af w;refine⟨_,Bs.l1 k,_,o,_,A,_,Bs.all (z _ _ k (λe=>by have:=d.wf _ _ i;omega)),?_⟩;subst m;exact(J0 w f t p b r).mono λ_ _ j=>⟨_,j.1,rfl,j.2⟩
theorem VJ(w:Wf h)(C:l.length=M.aI.length)(O:M.aI.length<=300)(u:eY h (ae a n c) M.aI):aX 56 [al ⟨tx M a n c sg⟩,strOf (enc 1 0 l)] h (λv g=>∃b,v=ah b/\Ok h g/\(b=af↔yY M l)):=by
 refine VI (tx M a n c sg) _ h _ ⟨_,R8 M a n c sg,?_⟩;have o:=(Ok.refl w).push (Bs M a n c sg);have J:=cT h (Bs M a n c sg);generalize h.push (Bs M a n c sg)=E at*;rw[BH,C];refine CI (tx M a n c sg) _ _ _ (λmz i g=>Ok E g/\(∀p,p<i->kQ l p->¬jD M p)/\i<=M.aI.length/\mz=M.aI.length-i) _ (λmz i=>?_) M.aI.length (i:=0) ⟨Ok.refl o.wf,λp F=>absurd F (dR _),ck _,rfl⟩;intro P g z;obtain⟨m,A,Q,rfl⟩:=z;refine az (λq=>?_) (λq=>?_)
 ·have q:=dT q;have f:i<M.aI.length:=by omega
  rw[cH f (by omega)];have s:¬(kQ l i/\jD M i)->ct (jg (np (enc 1 0 l) h.aD M.aI.length) (λmz i g=>Ok E g/\(∀p,p<i->kQ l p->¬jD M p)/\i<=M.aI.length/\mz=M.aI.length-i)) (M.aI.length-i) [strOf (enc 1 0 l),pA h.aD,iA M.aI.length,aE ((i+1:Nat):Int)] g:=λG=>
   fC (M.aI.length-(i+1)) (by omega) ⟨m,λp F k r=>by
    by_cases e:p=i
    ·subst e;exact G ⟨k,r⟩
    ·exact A p (by omega) k r,by omega,rfl⟩
  obtain⟨x,H,L,B,N⟩:=oi f;obtain⟨_,_,_,_,_,K,_,I,_,_⟩:=u.KM (o.trans m) H;refine⟨_,Sj (h:=g) l C f,az (λj=>?_) (λj=>?_)⟩
  ·have D:kQ l i:=by
    cases d:l.getD i aj with
    |true=>exact d
    |false=>rw[d]at j;simp at j
   refine⟨_,Gx _,_,dC _,_,_,_,Bs.l3 (m.ext _ _ J),_,K,_,pb _ _,_,I,az (λt=>?_) (λt=>?_)⟩
   ·have y:=rh.1 (by rw[B];exact t);exact⟨af,rfl,o.trans m,λ_=>⟨i,D,y⟩,λ_=>rfl⟩
   ·exact s λd=>by have:=rh.2 d.2;rw[B,t]at this;cases this
  ·exact s λd=>by rw[d.1]at j;simp at j
 ·have q:=dF q;refine⟨aj,rfl,o.trans m,λd=>(by cases d),λ⟨p,k,r⟩=>absurd r (A p ?_ k)⟩;have:=Du k;omega
theorem Zr(w:Wf h)(J:Good M)(O:l.length=M.aI.length)(hN:M.aI.length<=300)(U:∀s∈M.aI,s.bB.length<=2000)(B:eY h (ae a n c) M.aI)(cc:Int):aX 57 [al ⟨tx M a n c sg⟩,strOf (enc 1 0 l),aE cc] h (λv g=>∃b,v=av ⟨[strOf (enc 1 0 (fT M l cc)),ah b]⟩/\Ok h g/\(b=af↔wB M l cc)):=by
 refine Zp (tx M a n c sg) _ cc h _ ⟨_,R8 M a n c sg,?_⟩;have C:=(Ok.refl w).push (Bs M a n c sg);have P:=cT h (Bs M a n c sg);generalize h.push (Bs M a n c sg)=L at*;rw[BH,O];refine⟨_,_,_,Uy _ (by omega),?_⟩;have f:=(BR.new C.wf M.aI.length).base C;have b2:=((Ok.refl C.wf).push (.cells ((aQ M.aI.length aj).map ah) 4 1 af)).ext _ _ P;have ne:h.aD≠L.aD:=λe=>by have:=C.wf _ _ P;omega
 generalize L.push (.cells ((aQ M.aI.length aj).map ah) 4 1 af)=g2 at*;generalize L.aD=K at*;generalize h.aD=I at*;refine DN (tx M a n c sg) _ cc I K M.aI.length (λmz an q g=>∃l',BR h K M.aI.length l' g/\g.get I=aa (Bs M a n c sg)/\(∀r,kQ l' r↔Kv M l cc q r)/\(an=af↔ ∃r,kQ l' r)/\q<=M.aI.length/\mz=M.aI.length-q) _ (λmz an q=>?_) M.aI.length (an:=aj) (q:=0) ⟨_,f,b2,λr=>?_,?_,ck _,rfl⟩
 rotate_left
 ·constructor
  ·intro e;unfold kQ at e;simp[List.getElem?_replicate]at e;grind
  ·rintro⟨p,hp,_⟩;exact absurd hp (dR _)
 ·constructor
  ·intro e;cases e
  ·rintro⟨r,e⟩;unfold kQ at e;simp[List.getElem?_replicate]at e;grind
 clear f b2 P C L g2;intro W g A;obtain⟨Y,f,i,k,t,hq,rfl⟩:=A;refine az (λG=>?_) (λG=>?_)
 ·have G:=dT G;have F:q<M.aI.length:=by omega
  obtain⟨x,hx,Q,_,hm⟩:=oi F;have zx:=U x hm;obtain⟨_,_,b,m,d,Z,_,_,S,R⟩:=B.KM f.row.ok hx;have x4:m=x.bB.length:=R.len;refine⟨_,Gx _,_,dC _,_,_,_,Bs.l3 i,_,Z,_,fG _ _,_,_,_,S,?_⟩;refine DO (tx M a n c sg) _ cc I K M.aI.length _ _ q b m d (λmz an j g=>∃l',BR h K M.aI.length l' g/\g.get I=aa (Bs M a n c sg)/\(∀r,kQ l' r↔Kv M l cc q r\/EG (x.bB.take j) l q cc r)/\(an=af↔ ∃r,kQ l' r)/\j<=x.bB.length/\mz=x.bB.length-j) _ (λmz an j=>?_) x.bB.length (an:=an) (j:=0) ⟨Y,f,i,λr=>by rw[k];simp[EG],t,ck _,rfl⟩;clear f i k t Z S W;intro W g A;obtain⟨y,f,i,k,t,hj,rfl⟩:=A;refine az (λD=>?_) (λD=>?_)
  ·have D:=dT D;obtain⟨s,o⟩:∃s,x.bB[j]?=aa s:=⟨_,gE (by omega)⟩
   have V:s∈dp M q:=by rw[Q];exact aM o
   have X:=lP J V;have ht:=ox J _ _ V;obtain⟨_,_,f1,f2,_⟩:=(R.ok f.row.ok).at_ o;obtain⟨u,p1,T,p3⟩:=wo f.row.ok.wf s;refine⟨_,f1,_,f2,_,EP,u,p1,?_⟩;have f:=f.trans T;have i:=T.ext _ _ i;generalize u.app (g.push Ks)=g3 at*;rw[cH (n:=x.bB.length) (by omega) (by omega)];have H:¬(kQ l q/\s.i=cc)->∀r,kQ y r↔Kv M l cc q r\/EG (x.bB.take (j+1)) l q cc r:=λhn r=>by
    rw[k,yz o];grind
   refine⟨_,Sj (h:=g3) l O F,az (λz=>⟨_,j0 _ _,_,p3.l0,az (λE=>?_) (λE=>?_)⟩) (λz=>?_)⟩
   ·have E:s.i=cc:=by simpa using E
    have x0:kQ l q:=by
     cases k:l.getD q aj with
     |true=>exact k
     |false=>rw[k]at z;simp at z
    obtain⟨r1,_,r3⟩:=f.get (c:=M.aI.length) X.t0 X.t1;obtain⟨v,x1,x2,x3⟩:=r3 af w;have N:∀r,kQ (y.set s.t.toNat af) r↔r=s.t.toNat\/kQ y r:=λr=>vy (by rw[f.len];exact ht);refine⟨_,jh _ _,_,p3.l3,_,r1,_,x1,iu (x.bB.length-(j+1)) (by omega) ⟨_,x2,x3 _ _ i ne,λr=>?_,⟨λ_=>⟨_,(N _).2 (.inl rfl)⟩,λ_=>rfl⟩,by omega,rfl⟩⟩;rw[N,k,yz o];grind
   ·exact iu (x.bB.length-(j+1)) (by omega) ⟨y,f,i,H λh=>(by rw[h.2]at E;simp at E),t,by omega,rfl⟩
   ·exact iu (x.bB.length-(j+1)) (by omega) ⟨y,f,i,H λh=>(by rw[h.1]at z;simp at z),t,by omega,rfl⟩
  ·have D:=dF D;rw[cH F (by omega)];refine iu (M.aI.length-(q+1)) (by omega) ⟨y,f,i,λr=>?_,t,by omega,rfl⟩;rw[k,Jw,Q,bC (by omega)]
 ·have G:=dF G;refine⟨_,Bs.all i,(J0 w J hN U B f).mono ?_⟩;rintro _ g3 ⟨rfl,o3⟩;have o:∀r,kQ Y r↔Tr M l cc r:=λr=>by rw[k,NR (by omega)]
  exact⟨_,rfl,an,by rw[NQ (ox J) O f.len o],o3,by rw[t];unfold wB;simp only[o]⟩
end
end
noncomputable def eO:FD:=gU Tryz.f120 [((pq 75),[2,5,6]),((pq 4939),[2,5,6,7]),((pq 299851),[2,5,6,7,8])]
abbrev iy(b:Nat)(a:OA)(n c:Nat)(ch:Bool):LV:=[(pA b),(ae a n c),(ah ch)]
abbrev iz(b:Nat)(a:OA)(n c:Nat)(ch:Bool)(s:Nat):LV:=[(pA b),(ae a n c),(ah ch),(iA s)]
abbrev j8(b:Nat)(a:OA)(n c s:Nat)(ch:Bool)(k:Nat):LV:=[(pA b),(ae a n c),(ah ch),(iA s),(iA k)]
theorem QZ(a:LV)(b:OA)(m d:Nat)(h:au)(Q:VH)(i:xN (jY aq 24 (al ⟨a⟩)) h λp c=>xR (bS aq 68 0 []) c λq l n e=>xE (cG aq 68 68 (sA (c.aD) l n) (ae b m d) e) e λj k g o f=>cw eO (pq 75) (iy (h.aD) j k g af) f (eu eO (pq 43) Q)):aX 120 [(al ⟨a⟩),(ae b m d)] h Q:=hH eO Tryz.func120 (bD i)
theorem AK(j:LV)(b:OA)(m d:Nat)(f:Nat)(a:OA)(n c:Nat)(e:Nat->Bool->au->Prop)(Q:VH)(step:∀(mz:Nat) (ch:Bool) (i:Nat->ag) (h:au),e mz ch h->cq ch (cw eO (pq 4939) (iz f a n c aj 0) h (fQ eO (pq 45) (pq 75) (RR eO (pq 75) (jg (iy f a n c) e) mz (eu eO (pq 43) Q)))) (Q (ae a n c) h))(mz:Nat){ch:Bool}{h:au}(g:e mz ch h):cw eO (pq 75) (iy f a n c ch) h (eu eO (pq 43) Q):=
 gm (iy f a n c) e (λmz ch i h g=>bD (step mz ch i h g)) mz g
theorem AL(l:LV)(b:OA)(m d:Nat)(g:Nat)(a:OA)(n c:Nat)(i:Nat->Bool->au->Prop)(mz:Nat)(f:Nat->Bool->Nat->au->Prop)(Q:VH)(step:∀(e:Nat) (ch:Bool) (s:Nat) (k:Nat->ag) (h:au),f e ch s h->cq (decide (((s:Int):Int)<(n:Int))) (cw eO (pq 299851) (j8 g a n c s ch 0) h (fQ eO (pq 41) (pq 4939) (RR eO (pq 4939) (pB (iz g a n c) f) e (fQ eO (pq 45) (pq 75) (RR eO (pq 75) (jg (iy g a n c) i) mz (eu eO (pq 43) Q)))))) (ct (jg (iy g a n c) i) mz [(pA g),(ae a n c),(ah ch)] h))(e:Nat){ch:Bool}{s:Nat}{h:au}(j:f e ch s h):cw eO (pq 4939) (iz g a n c ch s) h (fQ eO (pq 45) (pq 75) (RR eO (pq 75) (jg (iy g a n c) i) mz (eu eO (pq 43) Q))):=
 mc (iz g a n c) f (λe ch s k h j=>bD (step e ch s k h j)) e j
theorem AM(mv:LV)(b:OA)(m d:Nat)(e:Nat)(a:OA)(n c:Nat)(t:Nat->Bool->au->Prop)(mz:Nat)(j:Nat->Bool->Nat->au->Prop)(l s:Nat)(g:Nat->Bool->Nat->au->Prop)(Q:VH)(step:∀(f:Nat) (ch:Bool) (k:Nat) (I:Nat->ag) (h:au),g f ch k h->xP (aW aq 68 (ae a n c) (iA s)) λF=>xB (aS aq 4 h (bw F)) λX=>cq X (xP (aY aq 24 (pA e) 3) λy=>xL (aS aq 22 h (bw y)) λv x q=>xP (aW aq 22 (ae v x q) (iA s)) λL=>xP (aY aq 44 (bw L) 1) λC=>xL (aS aq 42 h (bw C)) λx2 M Y=>cq (decide (((k:Int):Int)<(M:Int))) (xP (aY aq 24 (pA e) 3) λr=>xL (aS aq 22 h (bw r)) λG u J=>xP (aW aq 22 (ae G u J) (iA s)) λS=>xP (aY aq 44 (bw S) 1) λN=>xL (aS aq 42 h (bw N)) λw D z=>xP (aW aq 42 (ae w D z) (iA k)) λK=>xA (aS aq 46 h (bw K)) λP=>xN (cP aq 46) h λZ o=>xU (bh aq 46 (pA (h.aD)) (al ⟨P⟩) o) o λx0 i=>xP (aY aq 46 (pA (h.aD)) 0) λW=>xI ak (aS aq 3 i (bw W)) λR=>cq (((R:Int)==0)) (xP (aY aq 46 (pA (h.aD)) 3) λE=>xI ak (aS aq 3 i (bw E)) λO=>xP (aW aq 68 (ae a n c) (aE O)) λU=>xB (aS aq 4 i (bw U)) λT=>cq (!T) (xP (aY aq 46 (pA (h.aD)) 3) λV=>xI ak (aS aq 3 i (bw V)) λB=>xP (aW aq 68 (ae a n c) (aE B)) λA=>xU (bh aq 4 (bw A) (ah af) i) i λx1 H=>ct (pB (j8 e a n c s) g) f [(pA e),(ae a n c),(ah af),(iA s),(aE (ai ak ((k:Int)+1)))] H) (ct (pB (j8 e a n c s) g) f [(pA e),(ae a n c),(ah ch),(iA s),(aE (ai ak ((k:Int)+1)))] i)) (ct (pB (j8 e a n c s) g) f [(pA e),(ae a n c),(ah ch),(iA s),(aE (ai ak ((k:Int)+1)))] i)) (ct (pB (iz e a n c) j) l [(pA e),(ae a n c),(ah ch),(aE (ai ak ((s:Int)+1)))] h)) (ct (pB (iz e a n c) j) l [(pA e),(ae a n c),(ah ch),(aE (ai ak ((s:Int)+1)))] h))(f:Nat){ch:Bool}{k:Nat}{h:au}(p:g f ch k h):cw eO (pq 299851) (j8 e a n c s ch k) h (fQ eO (pq 41) (pq 4939) (RR eO (pq 4939) (pB (iz e a n c) j) l (fQ eO (pq 45) (pq 75) (RR eO (pq 75) (jg (iy e a n c) t) mz (eu eO (pq 43) Q))))):=
 mc (j8 e a n c s) g (λf ch k I h p=>bD (step f ch k I h p)) f p
variable{T:aF}
section
def BW(hb:au)(k2:Nat)(B:eA)(v:ag)(L:List Bool)(g:au):Prop:=∃G,kT 4 v (L.map ah) G/\OL hb g [G]/\Im g [G] k2 B
section
variable {hb g g':au} {k2:Nat} {B:eA} {v:ag} {L:List Bool}
theorem BW.ok(b:BW hb k2 B v L g):Ok hb g:=by obtain⟨G,_,o,_⟩:=b;exact o.ok
theorem BW.bx(b:BW hb k2 B v L g):g.get k2=aa B:=by obtain⟨G,_,_,m⟩:=b;exact m.1
theorem BW.rd(b:BW hb k2 B v L g):Rd g 4 v (L.map ah):=by obtain⟨G,r,o,_⟩:=b;exact r.rd o (i:=0) rfl
theorem BW.new(b:BW hb k2 B v L g):uZ hb g 4 v (L.map ah):=by
 obtain⟨G,r,o,_⟩:=b;exact⟨G,r,λp a=>⟨o.GS (i:=0) rfl p a,o.grp (i:=0) rfl p a⟩⟩
theorem BW.grow(b:BW hb k2 B v L g)(e:Ok g g'):BW hb k2 B v L g':=by
 obtain⟨G,r,o,m⟩:=b;exact⟨G,r,(o.grow e).1,(o.grow e).2 _ _ m⟩
theorem brd{g:au}{v:ag}{L:List Bool}(r:Rd g 4 v (L.map ah)){i:Nat}(c:i<L.length):∃p:aJ,aW aq 68 v (aE (i:Int))=aa (bw p)/\aS aq 4 g (bw p)=aa (ah (L.getD i aj)):=by
 obtain⟨p,a,b⟩:=r.at_ zq VZ un4 ag4 (k:= ak) (i:=(i:Int)) (by omega) (by rw[aH];omega);refine⟨p,a,?_⟩;rw[b,bc,gD,getElem?_map,gD,gE c];rfl
theorem BW.put(w:Wf hb)(b:BW hb k2 B v L g){i:Nat}(a:i<L.length):∃p:aJ,aW aq 68 v (aE (i:Int))=aa (bw p)/\∃u:ek,bh aq 4 (bw p) (ah af) g=aa (undef,u)/\BW hb k2 B v (L.set i af) (u.app g):=by
 obtain⟨G,r,o,m⟩:=b;obtain⟨A,⟨_,l,_⟩|⟨k,y,cs,c,rfl,rfl,z⟩⟩:=id r
 ·have:L=[]:=by simpa[rr]using l
  subst this;exact absurd a (dR _)
 ·have f:(rr (L.map ah)).length=L.length:=by rw[iX,aH]
  rw[f]at r⊢;obtain⟨u,s,t,n,d,h⟩:=gQ.put (P:=aq) (t':=4) VZ w r o (j:=0) rfl (i:=i) (q:=0) (x:=[ah (L.getD i aj)]) (by
   unfold rr;rw[getElem?_map,getElem?_map,gE a,gD,gE a];rfl) (by omega) (v':= ah af) rfl rfl
  refine⟨_,GI zq VZ (by omega) (by omega),u,by rw[bc];exact s,t,?_,d,h _ _ m⟩;unfold kT;have e:rr ((L.set i af).map ah)=(rr (L.map ah)).set i [ah af]:=by
   unfold rr;rw[List.map_set,List.map_set]
  rw[e];exact n
end
theorem _root_.Go.Ab.ur.rd'{hb g:au}{n c:Nat}{a:List ag}(m:ur hb k T a g)(b:a.length=n):Rd g T (sA k n c) a:=by subst b;exact m.rd c
theorem afO:bS aq 68 0 []=aa (.cells [] 4 1 af,qe 0 0):=by kernel_rfl
noncomputable def re4:TypeInfo:=(fI aq 4).getD default
theorem aeR:fI aq 4=aa re4:=by kernel_rfl
theorem Y9:re4.size=1:=by kernel_rfl
theorem Vf:re4.bytes=1:=by kernel_rfl
theorem ah8:eI aq 68=af:=by kernel_rfl
theorem PQ(l:List Bool):(l.map ah).all eZ=af:=by simp[eZ]
section
variable {h:au} {M:cm} {a:Option aJ} {n c:Nat} {b:Option aJ} {m d:Nat} {l:List Bool}
theorem Hg(w:Wf h)(gd:Good M)(hN:M.aI.length<=300)(zA:∀s∈M.aI,s.bB.length<=2000)(X:eY h (ae a n c) M.aI)(r:Rd h 4 (ae b m d) (l.map ah))(Y:l.length=M.aI.length):
  aX 120 [al ⟨cU M a n c⟩,ae b m d] h (λv g=>uZ h g 4 v ((Iq M l).map ah)/\Ok h g):=by
 refine QZ (cU M a n c) b m d h _ ⟨_,kW M a n c,_,_,_,afO,?_⟩;have D:=(Ok.refl w).push (Bm M a n c);have b1:=cT h (Bm M a n c);have r1:=r.ok D;generalize h.push (Bm M a n c)=g1 at*;obtain⟨z,n2,f,u,s1,s2,R⟩:=aaW (P:=aq) (t:=68) zq aeR Y9 ah8 D.wf (ZO (r1.ok ((Ok.refl D.wf).push _))) (PQ l) (by rw[Vf,aH];omega) (by rw[aH];omega);refine⟨_,_,_,_,s1,?_⟩;have x1:n2=M.aI.length:=by have:=s2.rd.len;rwa[aH,Y]at this
 subst x1;have e0:BW h h.aD (Bm M a n c) (ae z M.aI.length f) l (u.app (g1.push (.cells [] 4 1 af))):=by
  obtain⟨G,H,F⟩:=s2;have ol:=(OL.nil (D.trans R)).1;refine⟨G,H,⟨D.trans R,?_,λk O=>?_,λp B=>?_⟩,R.ext _ _ b1,λO=>?_⟩
  ·rw[uE];exact gQ.nd H
  ·rw[uE]at O;obtain⟨p,B,rfl⟩:=cI.1 O;exact bN D.nx (F p B).1
  ·exact(F p (by simpa using B)).2
  ·rw[uE]at O;obtain⟨p,B,e⟩:=cI.1 O;have:=(F p B).1;have:=D.wf _ _ b1;omega
 generalize u.app (g1.push (.cells [] 4 1 af))=g2 at*;generalize h.aD=k2 at*;clear s1 s2 R b1 D r1;refine AK (cU M a n c) b m d k2 z M.aI.length f (λmz ch g=>∃L,BW h k2 (Bm M a n c) (ae z M.aI.length f) L g/\Ba M l L/\(ch=aj->∀q,q<M.aI.length->A8 M L q)/\mz=gh L+ch.toNat) _ (λmz ch=>?_) _ (ch:=af) ⟨l,e0,Ba.refl M l,λe=>(by cases e),rfl⟩;clear e0 g2;intro zz g C;obtain⟨L,e,y,A,rfl⟩:=C;refine az (λq=>?_) (λq=>?_)
 ·subst q;refine AL (cU M a n c) b m d k2 z M.aI.length f _ _ (λmz ch s g=>∃o,BW h k2 (Bm M a n c) (ae z M.aI.length f) o g/\Ba M l o/\(ch=aj->o=L/\∀p,p<s->A8 M L p)/\gh o+ch.toNat<=gh L/\s<=M.aI.length/\mz=M.aI.length-s) _ (λx7 ch q=>?_) M.aI.length (ch:=aj) (s:=0) ⟨L,e,y,λ_=>⟨rfl,λp B=>absurd B (dR _)⟩,aT _,ck _,rfl⟩;clear e A y;intro zz g C;obtain⟨Z,e,y,A,J,hq,rfl⟩:=C;refine az (λH=>?_) (λH=>?_)
  ·have H:=dT H;have V:q<M.aI.length:=by omega
   obtain⟨x,hx,ea,_,x0⟩:=oi V;have zx:=zA x x0;refine AM (cU M a n c) b m d k2 z M.aI.length f _ _ _ _ q (λmz ch j g=>∃o,BW h k2 (Bm M a n c) (ae z M.aI.length f) o g/\Ba M l o/\(ch=aj->o=L/\(∀p,p<q->A8 M L p)/\∀s∈x.bB.take j,s.i=0->kQ L s.t.toNat)/\gh o+ch.toNat<=gh L/\j<=x.bB.length/\mz=x.bB.length-j) _ (λx8 ch j=>?_) x.bB.length (ch:=ch) (k:=0) ⟨Z,e,y,λh=>⟨(A h).1,(A h).2,λs E=>by simp at E⟩,J,ck _,rfl⟩;clear e y A J;intro zz g C;obtain⟨K,e,y,A,J,hj,rfl⟩:=C;have x6:K.length=M.aI.length:=by rw[y.len,Y]
   obtain⟨_,i1,i2⟩:=brd e.rd (i:=q) (by omega);have x3:=X.ok e.ok;obtain⟨_,_,b2,m2,d2,d1,_,_,d4,ar⟩:=x3.KM (Ok.refl e.ok.wf) hx;have l3:aS aq 22 g (df k2 3)=aa (ae a n c):=ej zp EO e.bx (by simp[cU]);have x9:m2=x.bB.length:=ar.len;have fin:(K.getD q aj=af->x.bB.length<=j)->ct (pB (iz k2 z M.aI.length f) (λmz ch s g=>∃o,BW h k2 (Bm M a n c) (ae z M.aI.length f) o g/\Ba M l o/\(ch=aj->o=L/\∀p,p<s->A8 M L p)/\gh o+ch.toNat<=gh L/\s<=M.aI.length/\mz=M.aI.length-s)) (M.aI.length-q) [pA k2,ae z M.aI.length f,ah ch,aE ((q+1:Nat):Int)] g:=λhh=>by
    refine iu (M.aI.length-(q+1)) (by omega) ⟨K,e,y,λh=>?_,J,by omega,rfl⟩;obtain⟨I,f,T⟩:=A h;refine⟨I,λp B=>?_⟩;by_cases x2:p=q
    ·subst x2;intro h1 s E U;rw[ea]at E;rw[bC (hh (by rw[I];exact h1))]at T;exact T s E U
    ·exact f p (by omega)
   rw[cH V (by omega)];refine⟨_,i1,_,i2,az (λF=>⟨_,dC _,_,_,_,l3,_,d1,_,fG _ _,_,_,_,d4,az (λN=>?_) (λN=>?_)⟩) (λF=>?_)⟩
   ·have N:=dT N;obtain⟨s,E⟩:∃s,x.bB[j]?=aa s:=⟨_,gE (by omega)⟩
    have sa:s∈dp M q:=by rw[ea];exact aM E
    have ht:=ox gd _ _ sa;have x4:s.t=((s.t.toNat:Nat):Int):=by have:=(lP gd sa).t0;omega
    obtain⟨_,_,f1,f2,_⟩:=ar.at_ E;obtain⟨u,p1,p2,p3⟩:=wo e.ok.wf s;refine⟨_,dC _,_,_,_,l3,_,d1,_,fG _ _,_,_,_,d4,_,f1,_,f2,_,EP,u,p1,?_⟩;have e:=e.grow p2;generalize u.app (g.push Ks)=g2 at*;rw[cH (n:=x.bB.length) (by omega) (by omega)];have Q:(s.i=0->kQ K s.t.toNat)->ch=aj->K=L/\(∀p,p<q->A8 M L p)/\∀s∈x.bB.take (j+1),s.i=0->kQ L s.t.toNat:=λh1 h2=>by
     obtain⟨I,f,T⟩:=A h2;refine⟨I,f,λs' W U=>?_⟩;rw[(nz E).2]at W;rcases bG.1 W with h|h
     ·exact T s' h U
     ·obtain rfl:=ba.1 h;rw[<-I];exact h1 U
    refine⟨_,j0 _ _,_,p3.l0,az (λS=>?_) (λS=>?_)⟩
    ·have s0:s.i=0:=by simpa using S
     obtain⟨_,y1,y2⟩:=brd e.rd (i:=s.t.toNat) (by omega);obtain⟨_,z1,v,z2,z3⟩:=e.put w (i:=s.t.toNat) (by omega);rw[<-x4]at y1 z1;refine⟨_,jh _ _,_,p3.l3,_,y1,_,y2,az (λq5=>?_) (λq5=>?_)⟩
     ·refine⟨_,jh _ _,_,p3.l3,_,z1,_,z2,iu (x.bB.length-(j+1)) (by omega) ⟨_,z3,y.set F sa s0 (by omega),λh=>(by cases h),?_,by omega,rfl⟩⟩;have:=Sh (l:=K) (q:=s.t.toNat) (by omega) (by simpa using q5);show gh _+1<=_;omega
     ·exact iu (x.bB.length-(j+1)) (by omega) ⟨_,e,y,Q λ_=>(by grind),J,by omega,rfl⟩
    ·exact iu (x.bB.length-(j+1)) (by omega) ⟨_,e,y,Q λh=>(by rw[h]at S;simp at S),J,by omega,rfl⟩
   ·have N:=dF N;exact fin λ_=>by omega
   ·exact fin λh=>by rw[h]at F;cases F
  ·have H:=dF H;refine fC (gh Z+ch.toNat) (by show _<gh L+1;omega) ⟨Z,e,y,λh=>?_,rfl⟩;obtain⟨I,f⟩:=A h;rw[I];exact λp B=>f p (by omega)
 ·subst q;have x5:L=Iq M l:=y.Iq λq=>by
   by_cases hq:q<M.aI.length
   ·exact A rfl q hq
   ·intro h;have:=Du h;rw[y.len,Y]at this;omega
  rw[x5]at e;exact⟨e.new,e.ok⟩
end
end
noncomputable def YZ:FD:=gU Tryz.f62 []
theorem U5(f:LV)(h:au)(Q:VH)(r:xN (jY aq 24 (al ⟨f⟩)) h λu b=>xP (aY aq 24 (pA (h.aD)) 3) λs=>xL (aS aq 22 b (bw s)) λw e x=>xR (dD aq 68 (iA e) (iA e)) b λv n g a=>xP (aY aq 24 (pA (h.aD)) 1) λl=>xI ak (aS aq 3 a (bw l)) λk=>xP (aW aq 68 (sA (b.aD) n g) (aE k)) λm=>xU (bh aq 4 (bw m) (ah af) a) a λt c=>xA (aS aq 24 c (pA (h.aD))) λj=>aX 120 [(al ⟨j⟩),(sA (b.aD) n g)] c λq i=>yL q λo p d=>Q (ae o p d) i):aX 62 [(al ⟨f⟩)] h Q:=hH YZ Tryz.func62 (bD r)
noncomputable def xu:FD:=gU Tryz.f64 [((pq 37),[1,2,5])]
abbrev lp(b:OA)(m d a:Nat)(i:Nat):LV:=[(ae b m d),(pA a),(iA i)]
theorem U3(a:LV)(b:OA)(m d:Nat)(h:au)(Q:VH)(e:xN (jY aq 24 (al ⟨a⟩)) h λf c=>cw xu (pq 37) (lp b m d (h.aD) 0) c (eu xu (pq 21) Q)):aX 64 [(al ⟨a⟩),(ae b m d)] h Q:=hH xu Tryz.func64 (bD e)
theorem Ck(s:LV)(b:OA)(m d:Nat)(c:Nat)(a:Nat->Nat->au->Prop)(Q:VH)(step:∀(mz:Nat) (i:Nat) (g:Nat->ag) (h:au),a mz i h->cq (decide (((i:Int):Int)<(m:Int))) (xP (aW aq 68 (ae b m d) (iA i)) λq=>xB (aS aq 4 h (bw q)) λo=>cq o (xP (aY aq 24 (pA c) 3) λk=>xL (aS aq 22 h (bw k)) λl p n=>xP (aW aq 22 (ae l p n) (iA i)) λr=>xP (aY aq 44 (bw r) 0) λf=>xS (aS aq 9 h (bw f)) λj=>cq (!((j:LB)==[])) (Q (ah af) h) (ct (jg (lp b m d c) a) mz [(ae b m d),(pA c),(aE (ai ak ((i:Int)+1)))] h)) (ct (jg (lp b m d c) a) mz [(ae b m d),(pA c),(aE (ai ak ((i:Int)+1)))] h)) (Q (ah aj) h))(mz:Nat){i:Nat}{h:au}(e:a mz i h):cw xu (pq 37) (lp b m d c i) h (eu xu (pq 21) Q):=
 gm (lp b m d c) a (λmz i g h e=>bD (step mz i g h e)) mz e
noncomputable def nY:FD:=gU Tryz.f65 [((pq 151),[1,2,3,8,9,10]),((pq 9367),[1,2,3,8,9,10,11])]
abbrev kF(b:OA)(m d:Nat)(cc:Int)(c a R:Nat)(an:Bool)(q:Nat):LV:=[(ae b m d),(aE cc),(pA c),(sA a R R),(ah an),(iA q)]
abbrev oC(b:OA)(m d:Nat)(cc:Int)(c a R q:Nat)(an:Bool)(j:Nat):LV:=[(ae b m d),(aE cc),(pA c),(sA a R R),(ah an),(iA q),(iA j)]
theorem Y2(a:LV)(b:OA)(m d:Nat)(cc:Int)(h:au)(Q:VH)(e:xN (jY aq 24 (al ⟨a⟩)) h λj c=>xR (dD aq 68 (iA m) (iA m)) c λk g i f=>cw nY (pq 151) [(ae b m d),(aE cc),(pA (h.aD)),(sA (c.aD) g i),(ah aj),(aE 0)] f (eu nY (pq 87) Q)):aX 65 [(al ⟨a⟩),(ae b m d),(aE cc)] h Q:=hH nY Tryz.func65 (bD e)
theorem DB(p:LV)(b:OA)(m d:Nat)(cc:Int)(e c R:Nat)(a:Nat->Bool->Nat->au->Prop)(Q:VH)(step:∀(mz:Nat) (an:Bool) (q:Nat) (j:Nat->ag) (h:au),a mz an q h->cq (decide (((q:Int):Int)<(m:Int))) (cw nY (pq 9367) (oC b m d cc e c R q an 0) h (fQ nY (pq 41) (pq 151) (RR nY (pq 151) (pB (kF b m d cc e c R) a) mz (eu nY (pq 87) Q)))) (xA (aS aq 24 h (pA e)) λl=>aX 120 [(al ⟨l⟩),(sA c R R)] h λn o=>yL n λg i k=>Q (av ⟨[(ae g i k),(ah an)]⟩) o))(mz:Nat){an:Bool}{q:Nat}{h:au}(f:a mz an q h):cw nY (pq 151) (kF b m d cc e c R an q) h (eu nY (pq 87) Q):=
 mc (kF b m d cc e c R) a (λmz an q j h f=>bD (step mz an q j h f)) mz f
theorem DC(W:LV)(b:OA)(m d:Nat)(cc:Int)(a e R:Nat)(i:Nat->Bool->Nat->au->Prop)(mz q:Nat)(f:Nat->Bool->Nat->au->Prop)(Q:VH)(step:∀(c:Nat) (an:Bool) (j:Nat) (C:Nat->ag) (h:au),f c an j h->xP (aW aq 68 (ae b m d) (iA q)) λE=>xB (aS aq 4 h (bw E)) λv=>cq v (xP (aY aq 24 (pA a) 3) λp=>xL (aS aq 22 h (bw p)) λz N n=>xP (aW aq 22 (ae z N n) (iA q)) λr=>xP (aY aq 44 (bw r) 1) λF=>xL (aS aq 42 h (bw F)) λS O P=>cq (decide (((j:Int):Int)<(O:Int))) (xP (aY aq 24 (pA a) 3) λB=>xL (aS aq 22 h (bw B)) λs K u=>xP (aW aq 22 (ae s K u) (iA q)) λI=>xP (aY aq 44 (bw I) 1) λM=>xL (aS aq 42 h (bw M)) λL y w=>xP (aW aq 42 (ae L y w) (iA j)) λA=>xA (aS aq 46 h (bw A)) λx=>xN (cP aq 46) h λV k=>xU (bh aq 46 (pA (h.aD)) (al ⟨x⟩) k) k λU g=>xP (aY aq 46 (pA (h.aD)) 0) λt=>xI ak (aS aq 3 g (bw t)) λG=>cq (((G:Int)==cc)) (xP (aY aq 46 (pA (h.aD)) 3) λD=>xI ak (aS aq 3 g (bw D)) λo=>xP (aW aq 68 (sA e R R) (aE o)) λJ=>xU (bh aq 4 (bw J) (ah af) g) g λT H=>ct (pB (oC b m d cc a e R q) f) c [(ae b m d),(aE cc),(pA a),(sA e R R),(ah af),(iA q),(aE (ai ak ((j:Int)+1)))] H) (ct (pB (oC b m d cc a e R q) f) c [(ae b m d),(aE cc),(pA a),(sA e R R),(ah an),(iA q),(aE (ai ak ((j:Int)+1)))] g)) (ct (pB (kF b m d cc a e R) i) mz [(ae b m d),(aE cc),(pA a),(sA e R R),(ah an),(aE (ai ak ((q:Int)+1)))] h)) (ct (pB (kF b m d cc a e R) i) mz [(ae b m d),(aE cc),(pA a),(sA e R R),(ah an),(aE (ai ak ((q:Int)+1)))] h))(c:Nat){an:Bool}{j:Nat}{h:au}(l:f c an j h):cw nY (pq 9367) (oC b m d cc a e R q an j) h (fQ nY (pq 41) (pq 151) (RR nY (pq 151) (pB (kF b m d cc a e R) i) mz (eu nY (pq 87) Q))):=
 mc (oC b m d cc a e R q) f (λc an j C h l=>bD (step c an j C h l)) c l
noncomputable def Cl:FD:=gU Tryz.f63 [((pq 75),[0,3,4])]
abbrev qO(b:OA)(m d a R:Nat)(i:Nat):LV:=[(ae b m d),(sA a R R),(iA i)]
theorem Y0(b:OA)(m d:Nat)(h:au)(Q:VH)(e:xR (dD aq 183 (iA m) (iA m)) h λg a f c=>cw Cl (pq 75) [(ae b m d),(sA (h.aD) a f),(aE 0)] c (eu Cl (pq 43) Q)):aX 63 [(ae b m d)] h Q:=hH Cl Tryz.func63 (bD e)
theorem Dz(b:OA)(m d:Nat)(a R:Nat)(c:Nat->Nat->au->Prop)(Q:VH)(step:∀(mz:Nat) (i:Nat) (k:Nat->ag) (h:au),c mz i h->cq (decide (((i:Int):Int)<(m:Int))) (xP (aW aq 183 (sA a R R) (iA i)) λo=>xU (bh aq 5 (bw o) (aC aK 45) h) h λr e=>xP (aW aq 68 (ae b m d) (iA i)) λn=>xB (aS aq 4 e (bw n)) λp=>cq p (xP (aW aq 183 (sA a R R) (iA i)) λj=>xU (bh aq 5 (bw j) (aC aK 43) e) e λq g=>ct (jg (qO b m d a R) c) mz [(ae b m d),(sA a R R),(aE (ai ak ((i:Int)+1)))] g) (ct (jg (qO b m d a R) c) mz [(ae b m d),(sA a R R),(aE (ai ak ((i:Int)+1)))] e)) (xS (AV aq 183 9 (sA a R R) h) λl=>Q (strOf l) h))(mz:Nat){i:Nat}{h:au}(f:c mz i h):cw Cl (pq 75) (qO b m d a R i) h (eu Cl (pq 43) Q):=
 gm (qO b m d a R) c (λmz i k h f=>bD (step mz i k h f)) mz f
noncomputable def gN:FD:=gU Tryz.f61 [((pq 75),[1,3,4]),((pq 19019),[1,3,4,5,6]),((pq 1198667),[1,3,4,5,6,7])]
abbrev jF(b:Nat)(a:OA)(n c s:Nat):LV:=[(pA b),(ae a n c),(iA s)]
abbrev mh(b:Nat)(a:OA)(n c s:Nat)(th:Bool)(i:Nat):LV:=[(pA b),(ae a n c),(iA s),(ah th),(iA i)]
abbrev oD(b:Nat)(a:OA)(n c s i:Nat)(th:Bool)(k:Nat):LV:=[(pA b),(ae a n c),(iA s),(ah th),(iA i),(iA k)]
theorem Y3(a:LV)(h:au)(Q:VH)(c:xN (jY aq 24 (al ⟨a⟩)) h λd b=>cw gN (pq 75) [(pA (h.aD)),nA,(aE 1)] b (eu gN (pq 43) Q)):aX 61 [(al ⟨a⟩)] h Q:=hH gN Tryz.func61 (bD c)
theorem DD(g:LV)(d:Nat)(b:Nat->OA->Nat->Nat->Nat->au->Prop)(Q:VH)(step:∀(mz:Nat) (a:OA) (n c s:Nat) (f:Nat->ag) (h:au),b mz a n c s h->cq (decide (((s:Int):Int)<=500)) (cw gN (pq 19019) (mh d a n c s aj 0) h (fQ gN (pq 169) (pq 75) (RR gN (pq 75) (Ky (jF d) b) mz (eu gN (pq 43) Q)))) (Q (ae a n c) h))(mz:Nat){a:OA}{n c s:Nat}{h:au}(e:b mz a n c s h):cw gN (pq 75) (jF d a n c s) h (eu gN (pq 43) Q):=
 JX (jF d) b (λmz a n c s f h e=>bD (step mz a n c s f h e)) mz e
theorem DE(w:LV)(d:Nat)(f:Nat->OA->Nat->Nat->Nat->au->Prop)(mz:Nat)(a:OA)(n c:Nat)(s:Nat)(e:Nat->Bool->Nat->au->Prop)(Q:VH)(step:∀(b:Nat) (th:Bool) (i:Nat) (o:Nat->ag) (h:au),e b th i h->xP (aY aq 24 (pA d) 3) λu=>xL (aS aq 22 h (bw u)) λy q z=>cq (decide (((i:Int):Int)<(q:Int))) (cw gN (pq 1198667) (oD d a n c s i th 0) h (fQ gN (pq 41) (pq 19019) (RR gN (pq 19019) (pB (mh d a n c s) e) b (fQ gN (pq 169) (pq 75) (RR gN (pq 75) (Ky (jF d) f) mz (eu gN (pq 43) Q)))))) (cq th (xR (bS aq 27 1 [(0,(iA s))]) h λx t r g=>xE (cG aq 27 27 (ae a n c) (sA (h.aD) t r) g) g λk p m v l=>ct (Ky (jF d) f) mz [(pA d),(ae k p m),(aE (ai ak ((s:Int)+1)))] l) (ct (Ky (jF d) f) mz [(pA d),(ae a n c),(aE (ai ak ((s:Int)+1)))] h)))(b:Nat){th:Bool}{i:Nat}{h:au}(j:e b th i h):cw gN (pq 19019) (mh d a n c s th i) h (fQ gN (pq 169) (pq 75) (RR gN (pq 75) (Ky (jF d) f) mz (eu gN (pq 43) Q))):=
 mc (mh d a n c s) e (λb th i o h j=>bD (step b th i o h j)) b j
theorem DF(K:LV)(d:Nat)(o:Nat->OA->Nat->Nat->Nat->au->Prop)(mz:Nat)(a:OA)(n c:Nat)(s:Nat)(f:Nat->Bool->Nat->au->Prop)(g i:Nat)(e:Nat->Bool->Nat->au->Prop)(Q:VH)(step:∀(b:Nat) (th:Bool) (k:Nat) (z:Nat->ag) (h:au),e b th k h->xP (aY aq 24 (pA d) 3) λx=>xL (aS aq 22 h (bw x)) λE r A=>xP (aW aq 22 (ae E r A) (iA i)) λB=>xP (aY aq 44 (bw B) 1) λq=>xL (aS aq 42 h (bw q)) λI y J=>cq (decide (((k:Int):Int)<(y:Int))) (cq th (ct (pB (oD d a n c s i) e) b [(pA d),(ae a n c),(iA s),(ah af),(iA i),(aE (ai ak ((k:Int)+1)))] h) (xP (aY aq 24 (pA d) 3) λu=>xL (aS aq 22 h (bw u)) λm w v=>xP (aW aq 22 (ae m w v) (iA i)) λF=>xP (aY aq 44 (bw F) 1) λp=>xL (aS aq 42 h (bw p)) λt H C=>xP (aW aq 42 (ae t H C) (iA k)) λG=>xP (aY aq 46 (bw G) 0) λD=>xI ak (aS aq 3 h (bw D)) λl=>ct (pB (oD d a n c s i) e) b [(pA d),(ae a n c),(iA s),(ah (((l:Int)==(s:Int)))),(iA i),(aE (ai ak ((k:Int)+1)))] h)) (ct (pB (mh d a n c s) f) g [(pA d),(ae a n c),(iA s),(ah th),(aE (ai ak ((i:Int)+1)))] h))(b:Nat){th:Bool}{k:Nat}{h:au}(j:e b th k h):cw gN (pq 1198667) (oD d a n c s i th k) h (fQ gN (pq 41) (pq 19019) (RR gN (pq 19019) (pB (mh d a n c s) f) g (fQ gN (pq 169) (pq 75) (RR gN (pq 75) (Ky (jF d) o) mz (eu gN (pq 43) Q))))):=
 mc (oD d a n c s i) e (λb th k z h j=>bD (step b th k z h j)) b j
section
section
variable {h:au} {M:cm} {a:Option aJ} {n c:Nat} {b:Option aJ} {m d:Nat} {l:List Bool}
theorem Dy(w:Wf h)(m:Good M)(E:M.aI.length<=300)(B:∀s∈M.aI,s.bB.length<=2000)(b:eY h (ae a n c) M.aI):aX 62 [al ⟨cU M a n c⟩] h (λv g=>uZ h g 4 v ((mL M).map ah)/\Ok h g):=by
 have y:n=M.aI.length:=b.len;obtain⟨i,d⟩:=jZ w b;refine U5 (cU M a n c) h _ ⟨_,kW M a n c,?_⟩;generalize h.push (Bm M a n c)=p at*;refine⟨_,dC _,_,_,_,i.l3,_,_,_,Uy n (by omega),_,qk _,?_⟩;have D:=(BR.new d.wf n).base d;have t:=(Ok.refl d.wf).push (.cells ((aQ n aj).map ah) 4 1 af);have z:=t.ext _ _ i.box;have F:=(i.ok t).l1;have H:h.aD≠p.aD:=λe=>by have:=d.wf _ _ i.box;omega
 generalize p.push (.cells ((aQ n aj).map ah) 4 1 af)=L at*;have I:=m.uj;have N:=m.uk;obtain⟨A,_,x⟩:=D.get (c:=n) I (by omega);obtain⟨u,K,k,J⟩:=x af w;refine⟨_,F,_,A,_,K,_,jr tG tE js (J _ _ z H) (by simp),?_⟩;subst y;have l:=k.row.ok;refine(Hg l.wf m E B (b.ok l) (k.row.rd' (c:=M.aI.length) (by rw[aH,k.len])) k.len).mono ?_;rintro v O ⟨r,C⟩;obtain⟨j,o,f,rfl⟩:∃j o f,v=ae j o f:=by
  obtain⟨G,q,_⟩:=id r;obtain⟨j,f,e⟩:=q.tB;exact⟨j,_,f,e⟩
 exact⟨_,_,_,rfl,r.base l,l.trans C⟩
theorem Dx(w:Wf h)(N:l.length=M.aI.length)(T:M.aI.length<=300)(B:eY h (ae a n c) M.aI)(r:Rd h 4 (ae b m d) (l.map ah)):aX 64 [al ⟨cU M a n c⟩,ae b m d] h (λv g=>∃b,v=ah b/\Ok h g/\(b=af↔yY M l)):=by
 have J:m=M.aI.length:=by have:=r.len;rwa[aH,N]at this
 obtain⟨Q,o⟩:=jZ w B;refine U3 (cU M a n c) b m d h _ ⟨_,kW M a n c,?_⟩;generalize h.push (Bm M a n c)=G at*;refine Ck (cU M a n c) b m d _ (λmz i g=>Ok G g/\(∀p,p<i->kQ l p->¬jD M p)/\i<=M.aI.length/\mz=M.aI.length-i) _ (λmz i=>?_) M.aI.length (i:=0) ⟨Ok.refl o.wf,λp H=>absurd H (dR _),ck _,rfl⟩;intro U g D;obtain⟨f,E,V,rfl⟩:=D;refine az (λq=>?_) (λq=>?_)
 ·have q:=dT q;have u:i<M.aI.length:=by omega
  rw[cH u (by omega)];have z:¬(kQ l i/\jD M i)->ct (jg (lp b m d h.aD) (λmz i g=>Ok G g/\(∀p,p<i->kQ l p->¬jD M p)/\i<=M.aI.length/\mz=M.aI.length-i)) (M.aI.length-i) [ae b m d,pA h.aD,aE ((i+1:Nat):Int)] g:=λI=>
   fC (M.aI.length-(i+1)) (by omega) ⟨f,λp H k t=>by
    by_cases e:p=i
    ·subst e;exact I ⟨k,t⟩
    ·exact E p (by omega) k t,by omega,rfl⟩
  obtain⟨x,O,S,F,J⟩:=oi u;have y:=Q.ok f;obtain⟨_,_,_,_,_,R,_,P,_,_⟩:=y.row.KM (Ok.refl f.wf) O;obtain⟨_,K,L⟩:=brd (r.ok (o.trans f)) (i:=i) (by omega);refine⟨_,K,_,L,az (λs=>?_) (λs=>?_)⟩
  ·refine⟨_,dC _,_,_,_,y.l3,_,R,_,pb _ _,_,P,az (λA=>?_) (λA=>?_)⟩
   ·have C:=rh.1 (by rw[F];exact A);exact⟨af,rfl,o.trans f,λ_=>⟨i,s,C⟩,λ_=>rfl⟩
   ·exact z λj=>by have:=rh.2 j.2;rw[F,A]at this;cases this
  ·exact z λj=>by rw[j.1]at s;cases s
 ·have q:=dF q;refine⟨aj,rfl,o.trans f,λj=>(by cases j),λ⟨p,k,t⟩=>absurd t (E p ?_ k)⟩;have:=Du k;omega
theorem pX(w:Wf h)(F:l.length<=1000)(r:Rd h 4 (ae b m d) (l.map ah)):aX 63 [ae b m d] h (λv g=>v=strOf (enc 43 45 l)/\Ok h g):=by
 have t:m=l.length:=by have:=r.len;rwa[aH]at this
 subst t;refine Y0 b l.length d h _ ⟨_,_,_,adC _ (by omega),?_⟩;have k:YR h h.aD _ _:=⟨cT h (.cells ((aQ l.length (0:UInt8)).map uy) 5 1 af),aT _,(Ok.refl w).push _⟩
 have j:∀i,(FZ 43 45 0 l i).length=l.length:=λi=>KP ..;rw[<-M9 43 45]at k⊢;refine Dz b l.length d h.aD l.length (λmz i g=>YR h h.aD (FZ 43 45 0 l i) g/\i<=l.length/\mz=l.length-i) _ (λmz i=>?_) l.length (i:=0) ⟨k,ck _,rfl⟩;clear k;intro G g p;obtain⟨y,H,rfl⟩:=p;refine az (λq=>?_) (λq=>?_)
 ·have q:=dT q;have a:i<l.length:=by omega
  rw[cH a (by omega)];obtain⟨C,u,B,f⟩:=YR.put w y (j i) a l.length 45;have e:=M8 43 45 0 l a;refine⟨_,C,_,B,?_⟩;generalize u.app g=E at*;obtain⟨_,x,z⟩:=brd (r.ok f.ok) a;refine⟨_,x,_,z,az (λn=>?_) (λn=>?_)⟩
  ·obtain⟨D,v,A,s⟩:=YR.put w f (by rw[dt,j]) a l.length 43;rw[n,iP rfl]at e;rw[List.set_set,<-e]at s;exact⟨_,D,_,A,fC (l.length-(i+1)) (by omega) ⟨s,by omega,rfl⟩⟩
  ·rw[n,iN (by simp)]at e;rw[<-e]at f;exact fC (l.length-(i+1)) (by omega) ⟨f,by omega,rfl⟩
 ·have q:=dF q;have o:=YR.str (j i) (c:=l.length) y;rw[Sa _ _ _ _ (by omega)]at o;exact⟨_,o,rfl,y.ok⟩
theorem Hh(w:Wf h)(J:Good M)(hl:l.length=M.aI.length)(hN:M.aI.length<=300)(zA:∀s∈M.aI,s.bB.length<=2000)(D:eY h (ae a n c) M.aI)(r:Rd h 4 (ae b m d) (l.map ah))(cc:Int):aX 65 [al ⟨cU M a n c⟩,ae b m d,aE cc] h (λv g=>∃(a:Option aJ)(n c:Nat)(b:Bool),v=av ⟨[ae a n c,ah b]⟩/\uZ h g 4 (ae a n c) ((fT M l cc).map ah)/\Ok h g/\(b=af↔wB M l cc)):=by
 have T:m=M.aI.length:=by have:=r.len;rwa[aH,hl]at this
 refine Y2 (cU M a n c) b m d cc h _ ⟨_,kW M a n c,?_⟩;have E:=(Ok.refl w).push (Bm M a n c);have V:=cT h (Bm M a n c);generalize h.push (Bm M a n c)=N at*;subst T;refine⟨_,_,_,Uy _ (by omega),?_⟩;have f:=(BR.new E.wf M.aI.length).base E;have b2:=((Ok.refl E.wf).push (.cells ((aQ M.aI.length aj).map ah) 4 1 af)).ext _ _ V;have ne:h.aD≠N.aD:=λe=>by have:=E.wf _ _ V;omega
 generalize N.push (.cells ((aQ M.aI.length aj).map ah) 4 1 af)=g2 at*;generalize N.aD=z at*;generalize h.aD=o at*;refine DB (cU M a n c) b _ d cc o z M.aI.length (λmz an q g=>∃l',BR h z M.aI.length l' g/\g.get o=aa (Bm M a n c)/\(∀r,kQ l' r↔Kv M l cc q r)/\(an=af↔ ∃r,kQ l' r)/\q<=M.aI.length/\mz=M.aI.length-q) _ (λmz an q=>?_) M.aI.length (an:=aj) (q:=0) ⟨_,f,b2,λr=>?_,?_,ck _,rfl⟩
 rotate_left
 ·constructor
  ·intro e;unfold kQ at e;simp[List.getElem?_replicate]at e;grind
  ·rintro⟨p,hp,_⟩;exact absurd hp (dR _)
 ·constructor
  ·intro e;cases e
  ·rintro⟨r,e⟩;unfold kQ at e;simp[List.getElem?_replicate]at e;grind
 clear f b2 V E N g2;intro zz g C;obtain⟨l1,f,k,y,A,hq,rfl⟩:=C;refine az (λH=>?_) (λH=>?_)
 ·have H:=dT H;have Q:q<M.aI.length:=by omega
  obtain⟨x,hx,R,_,T⟩:=oi Q;have zx:=zA x T;refine DC (cU M a n c) b _ d cc o z M.aI.length _ _ q (λmz an j g=>∃l',BR h z M.aI.length l' g/\g.get o=aa (Bm M a n c)/\(∀r,kQ l' r↔Kv M l cc q r\/EG (x.bB.take j) l q cc r)/\(an=af↔ ∃r,kQ l' r)/\j<=x.bB.length/\mz=x.bB.length-j) _ (λmz an j=>?_) x.bB.length (an:=an) (j:=0) ⟨l1,f,k,λr=>by rw[y];simp[EG],A,ck _,rfl⟩;clear f k y A zz;intro zz g C;obtain⟨O,f,k,y,A,hj,rfl⟩:=C;obtain⟨_,i1,i2⟩:=brd (r.ok f.row.ok) (i:=q) (by omega);obtain⟨_,_,b3,m3,d3,d1,_,_,Y,X⟩:=(D.ok f.row.ok).KM (Ok.refl f.row.ok.wf) hx;have l3:aS aq 22 g (df o 3)=aa (ae a n c):=ej zp EO k (by simp[cU]);have x0:m3=x.bB.length:=X.len;have fin:(∀r,EG (dp M q) l q cc r->EG (x.bB.take j) l q cc r)->ct (pB (kF b M.aI.length d cc o z M.aI.length) (λmz an q g=>∃l',BR h z M.aI.length l' g/\g.get o=aa (Bm M a n c)/\(∀r,kQ l' r↔Kv M l cc q r)/\(an=af↔ ∃r,kQ l' r)/\q<=M.aI.length/\mz=M.aI.length-q)) (M.aI.length-q) [ae b M.aI.length d,aE cc,pA o,sA z M.aI.length M.aI.length,ah an,aE ((q+1:Nat):Int)] g:=λhf=>by
   refine iu (M.aI.length-(q+1)) (by omega) ⟨O,f,k,λr=>?_,A,by omega,rfl⟩;rw[y,Jw];refine or_congr Iff.rfl ⟨λ⟨h1,s,h2,h3⟩=>⟨h1,s,by rw[R];exact dy h2,h3⟩,hf r⟩
  rw[cH Q (by omega)];refine⟨_,i1,_,i2,az (λU=>⟨_,dC _,_,_,_,l3,_,d1,_,fG _ _,_,_,_,Y,az (λB=>?_) (λB=>?_)⟩) (λU=>?_)⟩
  ·have B:=dT B;obtain⟨s,t⟩:∃s,x.bB[j]?=aa s:=⟨_,gE (by omega)⟩
   have sa:s∈dp M q:=by rw[R];exact aM t
   have si:=lP J sa;have ht:=ox J _ _ sa;obtain⟨_,_,f1,f2,_⟩:=X.at_ t;obtain⟨u,p1,Z,p3⟩:=wo f.row.ok.wf s;refine⟨_,dC _,_,_,_,l3,_,d1,_,fG _ _,_,_,_,Y,_,f1,_,f2,_,EP,u,p1,?_⟩;have f:=f.trans Z;have k:=Z.ext _ _ k;generalize u.app (g.push Ks)=g3 at*;rw[cH (n:=x.bB.length) (by omega) (by omega)];refine⟨_,j0 _ _,_,p3.l0,az (λF=>?_) (λF=>?_)⟩
   ·have F:s.i=cc:=by simpa using F
    obtain⟨r1,_,r3⟩:=f.get (c:=M.aI.length) si.t0 si.t1;obtain⟨v,x1,x2,x3⟩:=r3 af w;have P:∀r,kQ (O.set s.t.toNat af) r↔r=s.t.toNat\/kQ O r:=λr=>vy (by rw[f.len];exact ht);refine⟨_,jh _ _,_,p3.l3,_,r1,_,x1,iu (x.bB.length-(j+1)) (by omega) ⟨_,x2,x3 _ _ k ne,λr=>?_,⟨λ_=>⟨_,(P _).2 (.inl rfl)⟩,λ_=>rfl⟩,by omega,rfl⟩⟩;rw[P,y,yz t];grind
   ·refine iu (x.bB.length-(j+1)) (by omega) ⟨O,f,k,λr=>?_,A,by omega,rfl⟩;rw[y,yz t];have:s.i≠cc:=λh=>by rw[h]at F;simp at F
    grind
  ·have B:=dF B;exact fin λr W=>by rw[bC (by omega),<-R];exact W
  ·exact fin λr W=>by rw[W.1]at U;cases U
 ·have H:=dF H;have L:=f.row.ok;refine⟨_,jr tG tE js k (by simp[cU]),(Hg L.wf J hN zA (D.ok L) (f.row.rd' (c:=M.aI.length) (by rw[aH,f.len])) f.len).mono ?_⟩;rintro v g3 ⟨S,o4⟩;have t:∀r,kQ l1 r↔Tr M l cc r:=λr=>by rw[y,NR (by omega)]
  rw[NQ (ox J) hl f.len t]at S;obtain⟨K,n',I,rfl⟩:∃K n' I,v=ae K n' I:=by
   obtain⟨G,q,_⟩:=id S;obtain⟨K,I,e⟩:=q.tB;exact⟨K,_,I,e⟩
  exact⟨_,_,_,rfl,_,_,_,an,rfl,S.base L,L.trans o4,by rw[A];unfold wB;simp only[t]⟩
end
end
variable{z:Int}{I:eA}{v:ag}{g:au}
section
def Ww(M:cm)(z:Int):Prop:=∃p,∃a∈dp M p,a.i=z
noncomputable def kH(M:cm)(k:Nat):List Int:=((dA k).filter λs:Nat=>@decide (1<=s/\Ww M (s:Int)) (dU _)).map Int.ofNat
theorem ZU(M:cm):kH M 1=[]:=by simp[kH,List.range_succ]
theorem Km(M:cm){k:Nat}(a:1<=k):kH M (k+1)=kH M k++@ite _ (Ww M (k:Int)) (dU _) [(k:Int)] []:=by
 unfold kH;rw[List.range_succ,List.filter_append,bK];congr 1;by_cases h:Ww M (k:Int)<;>simp[h,a]
theorem CP(M:cm)(k:Nat):(kH M k).length<=k:=by
 unfold kH;rw[aH];exact bN (List.length_filter_le _ _) (by simp)
theorem Cb{M:cm}:z∈kH M k↔1<=z/\z<k/\Ww M z:=by
 unfold kH;rw[cI];constructor
 ·rintro⟨s,b,rfl⟩;have:=fe.1 b;simp at this;exact⟨by have:=this.2.1;show(1:Int)<=(s:Int);omega,by have:=this.1;show(s:Int)<_;omega,this.2.2⟩
 ·rintro⟨c,d,a⟩;refine⟨z.toNat,fe.2 ⟨by simp;omega,?_⟩,by simp;omega⟩;have e:((z.toNat:Nat):Int)=z:=by omega
  simp only[e,decide_eq_true_eq];exact⟨by omega,a⟩
def ah6(h:au)(M:cm):VH:=λv g=>uZ h g 3 v ((kH M 501).map zV)/\Ok h g/\∀a n c,v=ae a n c->dw c=n
section
variable {h:au} {M:cm} {a:Option aJ} {n c:Nat}
def SyI(h:au)(b:Nat)(B:eA)(v:ag)(l:List Int)(g:au):Prop:=(∃G,kT 3 v (l.map zV) G/\OL h g [G]/\Im g [G] b B)/\∀a n c,v=ae a n c->dw c=n
theorem SyI.bx{l:List Int}(b:SyI h m I v l g):g.get m=aa I:=by obtain⟨⟨G,_,_,a⟩,_⟩:=b;exact a.1
theorem SyI.ok{l:List Int}(b:SyI h m I v l g):Ok h g:=by obtain⟨⟨G,_,o,_⟩,_⟩:=b;exact o.ok
theorem Hi(w:Wf h)(gd:Good M)(hN:M.aI.length<=300)(zA:∀s∈M.aI,s.bB.length<=2000)(H:eY h (ae a n c) M.aI):aX 61 [al ⟨cU M a n c⟩] h (ah6 h M):=by
 have hn:n=M.aI.length:=H.len;refine Y3 (cU M a n c) h _ ⟨_,kW M a n c,?_⟩;have Z:=cT h (Bm M a n c);have S:=(Ok.refl w).push (Bm M a n c);have Y:SyI h h.aD (Bm M a n c) nA (kH M 1) (h.push (Bm M a n c)):=by
  rw[ZU];exact⟨⟨[],kT.nil 3,⟨S,List.nodup_nil,λk L=>by simp[keys]at L,λp l=>by simp at l⟩,Z,λL=>by simp[keys]at L⟩,ahw⟩
 generalize h.push (Bm M a n c)=g1 at*;generalize h.aD=v at*;clear Z S;refine DD (cU M a n c) v (λmz E D z s g=>SyI h v (Bm M a n c) (ae E D z) (kH M s) g/\1<=s/\s<=501/\mz=501-s) _ (λmz E D z s=>?_) 500 (s:=1) ⟨Y,aT _,by omega,rfl⟩;clear Y g1;intro K g t;obtain⟨e,X,h2,rfl⟩:=t;refine az (λq=>?_) (λq=>?_)
 ·have q:=dT q;have x0:s<501:=by omega
  refine DE (cU M a n c) v _ _ E D z s (λmz th i C=>SyI h v (Bm M a n c) (ae E D z) (kH M s) C/\(th=af↔ ∃p,p<i/\∃a∈dp M p,a.i=(s:Int))/\i<=M.aI.length/\mz=M.aI.length-i) _ (λx2 th i=>?_) M.aI.length (th:=aj) (i:=0) ⟨e,⟨λh=>(by cases h),λ⟨p,l,_⟩=>absurd l (dR _)⟩,ck _,rfl⟩;clear e K;intro K C t;obtain⟨e,F,hi,rfl⟩:=t;have I:aS aq 22 C (df v 3)=aa (ae a n c):=ej zp EO e.bx (by simp[cU]);refine⟨_,dC _,_,_,_,I,az (λJ=>?_) (λJ=>?_)⟩
  ·have J:=dT J;have N:i<M.aI.length:=by omega
   obtain⟨x,hx,ea,_,hm⟩:=oi N;have zx:=zA x hm;refine DF (cU M a n c) v _ _ E D z s _ _ i (λmz th k C=>SyI h v (Bm M a n c) (ae E D z) (kH M s) C/\(th=af↔(∃p,p<i/\∃a∈dp M p,a.i=(s:Int))\/ ∃a∈x.bB.take k,a.i=(s:Int))/\k<=x.bB.length/\mz=x.bB.length-k) _ (λx3 th k=>?_) x.bB.length (th:=th) (k:=0) ⟨e,by rw[F];simp,ck _,rfl⟩;clear e F I K;intro K g2 t;obtain⟨e,F,L,rfl⟩:=t;obtain⟨_,_,b3,m3,d3,d1,_,_,V,T⟩:=(H.ok e.ok).KM (Ok.refl e.ok.wf) hx;have I:aS aq 22 g2 (df v 3)=aa (ae a n c):=ej zp EO e.bx (by simp[cU]);have x4:m3=x.bB.length:=T.len;refine⟨_,dC _,_,_,_,I,_,d1,_,fG _ _,_,_,_,V,az (λf=>?_) (λf=>?_)⟩
   ·have f:=dT f;obtain⟨y,B⟩:∃y,x.bB[k]?=aa y:=⟨_,gE (by omega)⟩
    obtain⟨_,_,f1,f2,f3,_⟩:=T.at_ B;rw[cH (n:=x.bB.length) (by omega) (by omega)];have U:∀b:Bool,(b=af↔th=af\/y.i=(s:Int))->(b=af↔(∃p,p<i/\∃a∈dp M p,a.i=(s:Int))\/ ∃a∈x.bB.take (k+1),a.i=(s:Int)):=λb hb=>by
     rw[hb,F,(nz B).2]
     grind
    refine az (λP=>?_) (λP=>?_)
    ·exact iu (x.bB.length-(k+1)) (by omega) ⟨e,U af ⟨λ_=> .inl P,λ_=>rfl⟩,by omega,rfl⟩
    ·refine⟨_,dC _,_,_,_,I,_,d1,_,fG _ _,_,_,_,V,_,f1,_,j0 _ _,_,f3,iu (x.bB.length-(k+1)) (by omega) ⟨e,U _ ?_,by omega,rfl⟩⟩;rw[P];simp
   ·have f:=dF f;rw[cH N (by omega)];refine iu (M.aI.length-(i+1)) (by omega) ⟨e,?_,by omega,rfl⟩;rw[F,bC (by omega),<-ea];constructor
    ·rintro(⟨p,l,d⟩|d)
     ·exact⟨p,by omega,d⟩
     ·exact⟨i,by omega,d⟩
    ·rintro⟨p,l,d⟩;by_cases e:p=i
     ·subst e;exact .inr d
     ·exact .inl ⟨p,by omega,d⟩
  ·have J:=dF J;have W:th=af↔Ww M (s:Int):=by
    rw[F];constructor
    ·rintro⟨p,_,d⟩;exact⟨p,d⟩
    ·rintro⟨p,y,B,d⟩;refine⟨p,?_,y,B,d⟩;by_cases l:p<M.aI.length
     ·omega
     ·unfold dp at B;rw[gD,getElem?_eq_none (by omega)]at B
      cases B
   rw[cH x0 (by omega)];refine az (λf=>?_) (λf=>?_)
   ·have Q:kH M (s+1)=kH M s++[(s:Int)]:=by rw[Km M X,iP (W.1 f)]
    have x1:=CP M s;refine⟨_,_,_,Bw _,?_⟩;obtain⟨⟨G,r,o,m⟩,A⟩:=e;have R:=(Ok.refl o.ok.wf).push (.cells [aE (s:Int)] 3 1 af);have bk:=cT C (.cells [aE (s:Int)] 3 1 af);obtain⟨o2,z⟩:=o.grow R;obtain⟨b',n',c',u,p1,p2,G',O,o3,c3⟩:=r.snoc me Hp xy afb w o2 (j:=0) rfl (x:=zV (s:Int)) rfl bk (by rw[uL,aH];omega) (by rw[aH];omega);refine⟨_,_,_,_,p1,Ec (501-(s+1)) (by omega) ⟨⟨⟨G',?_,o3,c3 _ _ (z _ _ m)⟩,λa n c e=>by injection e with e1 R e3;rw[<-R,<-e3];exact aaV A p1⟩,by omega,by omega,rfl⟩⟩;rw[Q,bK];exact O
   ·have Q:kH M (s+1)=kH M s:=by
     rw[Km M X,iN (λd=>by rw[W.2 d]at f;cases f),cp]
    exact Ec (501-(s+1)) (by omega) ⟨by rw[Q];exact e,by omega,by omega,rfl⟩
 ·have q:=dF q;obtain rfl:s=501:=by omega
  obtain⟨⟨G,r,o,m⟩,A⟩:=e;exact⟨⟨G,r,λp l=>⟨o.GS (i:=0) rfl p l,o.grp (i:=0) rfl p l⟩⟩,o.ok,A⟩
end
end
variable{h:au}{M:cm}{n:Nat}{p:List Int}
theorem OL.perm{L L':List jm}(o:OL h g L)(p:L.flatten.Perm L'.flatten):OL h g L'/\pz g L g L':=by
 have b:(keys L).Perm (keys L'):=p.map _;exact⟨⟨o.ok,b.nodup_iff.1 o.nd,λk a=>o.lo k (b.mem_iff.2 a),λq c=>o.at_ q (p.mem_iff.2 c)⟩,λk B m=>⟨m.1,λa=>m.2 (b.mem_iff.2 a)⟩⟩
theorem El{s:Nat}{l:List Nat}{x:List Int}(r:iR M s l n x p)(g:Good M)(b:jD M n):oq (λp x=>oF M x p) (T9 M) s:=by
 induction r with
 |nil s=>
  refine .base ?_;unfold jD at b;by_cases c:s<M.aI.length
  ·rw[gD,gE c]at b;exact⟨_,gE c,b⟩
  ·rw[gD,getElem?_eq_none (by omega)]at b;exact absurd rfl b
 |@cons s i n a l x p h r e=>
  refine .step (e b) ?_;by_cases c:s<M.aI.length
  ·obtain⟨t,f,d,_⟩:=oi c;rw[d]at h;exact⟨t,f,cI.2 ⟨a,aM h,rfl⟩⟩
  ·unfold dp at h;rw[gD,getElem?_eq_none (l:=M.aI) (by omega)]at h;simp at h
theorem afz:cP aq 109=aa (.cells [nA] 109 0 af,m4):=by kernel_rfl
theorem ZX:bZ aq 109=aa 1:=by kernel_rfl
noncomputable def Z3:TypeInfo:=(aq.info? 112).getD default
theorem Ry:Z3.size=1:=by kernel_rfl
theorem Pf:Z3.bytes=8:=by kernel_rfl
variable{i:Nat}
section
theorem JV{M:cm}{ord:List Nat}(l:Good M)(e:M.start.toNat∈ord):Good (nZ M ord):=by
 have f:(nZ M ord).aI.length=ord.length:=by unfold nZ;simp
 have g:=(Oj ord 0 M.start.toNat).2 e;have j:=uI ord 0 M.start.toNat;refine⟨?_,?_,λs e q m=>?_⟩
 ·show 0<=kA ord 0 M.start.toNat;rcases j with h|h
  ·exact absurd h g
  ·omega
 ·show kA ord 0 M.start.toNat<_;rw[f];rcases j with h|h
  ·exact absurd h g
  ·omega
 ·obtain⟨x,o,rfl⟩:=cI.1 e;obtain⟨p,b,c⟩:=List.mem_filterMap.1 m;unfold nh at c;split at c
  ·cases c
  ·next i=>
   obtain rfl:=aG c;have k:=uI ord 0 p.t.toNat;rw[f];rcases k with h|h
   ·exact absurd h i
   ·have d:IT M.aI.length p:=by
     rw[gD]at b
     cases a:M.aI[x]? with
     |none=>rw[a]at b;cases b
     |some n=>rw[a]at b;exact l.bB n (aM a) p b
    exact⟨d.i0,d.i1,d.o0,d.o1,by show 0<=kA ord 0 p.t.toNat;omega,by show kA ord 0 p.t.toNat<_;omega⟩
theorem Lx:∀{l:List Nat}{i j x:Nat},l.Nodup->l[j]?=aa x->kA l i x=((i+j:Nat):Int)
 |[],_,_,_,_,h=>by simp at h
 |o::r,i,0,x,a,h=>by
  obtain rfl:o=x:=by simpa using h
  unfold kA;rw[iP rfl];simp
 |o::r,i,j+1,x,a,h=>by
  have b:r[j]?=aa x:=by simpa using h
  have c:o≠x:=λe=>(List.nodup_cons.1 a).1 (e▸aM b);unfold kA;rw[iN c,Lx (List.nodup_cons.1 a).2 b];omega
theorem Oi:∀{l:List Nat}{i j x:Nat},kA l i x=((i+j:Nat):Int)->l[j]?=aa x
 |[],i,j,x,h=>by unfold kA at h;omega
 | o::r,i,j,x,h=>by
  unfold kA at h;split at h
  ·next e=>
   obtain rfl:j=0:=by omega
   rw[e];rfl
  ·have b:=uI r (i+1) x;obtain⟨a,rfl⟩:∃a,j=a+1:=⟨j-1,by omega⟩
   show r[a]?=aa x;exact Oi (i:=i+1) (by rw[h];omega)
section
variable {M:cm} {ord:List Nat}
theorem S6{x:Nat}(h:ord[i]?=aa x):(nZ M ord).aI[i]?=aa (wq M ord x):=by
 show(ord.map (wq M ord))[i]?=_;rw[getElem?_map,h];rfl
theorem xQ:(nZ M ord).aI.length=ord.length:=by unfold nZ;simp
theorem ZP{x:Nat}(h:x<M.aI.length):M.aI[x]?=aa (M.aI.getD x ⟨[],[]⟩):=by
 rw[gD,gE h];rfl
theorem ZT(d:Good M){x y:Nat}(h:oF M x y):x<M.aI.length/\y<M.aI.length:=by
 obtain⟨s,b,c⟩:=h;obtain⟨q,e,rfl⟩:=cI.1 c;have a:=d.bB s (aM b) q e;have g:=a.t0;have f:=a.t1;exact⟨(List.getElem?_eq_some_iff.1 b).1,by omega⟩
theorem ZQ(a:Good M):M.start.toNat<M.aI.length:=by
 have c:=a.uj;have b:=a.uk;omega
theorem aeO(a:Good M){x:Nat}(h:oq (oF M) (λy=>y=M.start.toNat) x):x<M.aI.length:=by
 cases h with
 |base h=>rw[h];exact ZQ a
 |step h e=>exact(ZT a e).2
theorem Ch(a:Good M){x:Nat}:x∈oz M↔lX M x:=by
 unfold oz;rw[fe,List.mem_range];constructor
 ·rintro⟨_,h⟩;exact @of_decide_eq_true _ (dU _) h
 ·intro h;exact⟨aeO a h.1,@decide_eq_true _ (dU _) h⟩
theorem VB(c:D4 M.aI.length ord)(b:M.start.toNat∈ord):∃i,ord[i]?=aa M.start.toNat/\(nZ M ord).start=((i:Nat):Int):=by
 obtain⟨i,a⟩:=getElem?_of_mem b;refine⟨i,a,?_⟩;show kA ord 0 M.start.toNat=_;rw[Lx c.nd a];simp
end
theorem vO(f:Nat->Nat):∀(n:Nat)(l:List Nat),l.Nodup->(∀x∈l,x<n)->(l.map f).sum<=((dA n).map f).sum
 |0,[],_,_=>aT _
 |0,x::l,_,h=>absurd (h x (cj ..)) (dR _)
 | n+1,l,b,h=>by
  rw[List.range_succ,bK,List.sum_append];by_cases c:n∈l
  ·have j:=List.perm_cons_erase c;rw[(j.map f).sum_nat];have g:=vO f n (l.erase n) (b.erase n) (λx a=>by
    have d:=h x (List.mem_of_mem_erase a);have i:x≠n:=λe=>by subst e;exact(b.not_mem_erase) a
    omega)
   simp only[eK,qI,List.map_nil,List.sum_nil];omega
  ·have g:=vO f n l b (λx a=>by
    have d:=h x a;have i:x≠n:=λe=>c (e▸a);omega)
   omega
theorem Rw(M:cm):mo M.aI=((dA M.aI.length).map λx=>(M.aI.getD x ⟨[],[]⟩).bB.length).sum:=by
 unfold mo;congr 1;refine dH λi=>?_;rw[getElem?_map,getElem?_map];by_cases a:i<M.aI.length
 ·rw[List.getElem?_range a,ZP a];rfl
 ·rw[getElem?_eq_none (by omega),getElem?_eq_none (by simpa using a)];rfl
theorem HE{a:Int}{N:Nat}:∀{l:List il}{acc:Int},acc+(mo l:Nat)<=30000->(∀s∈l,(s.f==[]||fD a s.f)=af/\s.bB.all (my a N)=af)->py a N acc l=af
 |[],_,_,_=>rfl
 |s::l,acc,h,b=>by
  rw[qB]at h;have c:=b s (cj ..);unfold py;rw[c.1,c.2,HE (acc:=acc+s.bB.length) (by omega) λx d=>b x (cF _ d)];simp;omega
theorem Kk{b:Int}{N:Nat}:∀{l:List il}{a:Int},l≠[]->py b N a l=af->a+(mo l:Nat)<=30000
 |[],_,h,_=>absurd rfl h
 |[s],a,_,h=>by
  unfold py at h;simp only[bg,decide_eq_true_eq]at h;rw[qB];have:mo []=0:=rfl;omega
 |s::x::l,a,_,h=>by
  unfold py at h;simp only[bg]at h;have c:=Kk (l:=x::l) (by simp) h.2;rw[qB];omega
section
variable {M:cm} {ord:List Nat}
theorem Mf(a:D4 M.aI.length ord):mo (nZ M ord).aI<=mo M.aI:=by
 rw[Rw M];refine bN ?_ (vO _ M.aI.length ord a.nd a.lt);show((ord.map (wq M ord)).map λs=>s.bB.length).sum<=_;rw[List.map_map];have:∀l:List Nat,(l.map ((λs:il=>s.bB.length)∘wq M ord)).sum<=(l.map λx=>(M.aI.getD x ⟨[],[]⟩).bB.length).sum:=λl=>by
  induction l with
  |nil=>exact aT _
  |cons x l b=>
   rw[eK,eK,qI,qI];have:(wq M ord x).bB.length<=(M.aI.getD x ⟨[],[]⟩).bB.length:=List.length_filterMap_le ..;show(wq M ord x).bB.length+_<=_;omega
 exact this ord
theorem S7{i:Nat}{s:il}{q:eC}(g:D4 M.aI.length ord)(c:s∈(nZ M ord).aI)(e:q∈s.bB):∃b∈M.aI,∃p∈b.bB,s.f=b.f/\q.i=p.i/\q.o=p.o/\q.w=p.w/\0<=q.t/\q.t<ord.length:=by
 obtain⟨x,d,rfl⟩:=cI.1 c;obtain⟨p,h,a⟩:=List.mem_filterMap.1 e;have f:=ZP (g.lt x d);unfold nh at a;split at a
 ·cases a
 ·next j=>
  obtain rfl:=aG a;have k:=uI ord 0 p.t.toNat;refine⟨_,aM f,p,h,rfl,rfl,rfl,rfl,?_,?_⟩
  ·show 0<=kA ord 0 p.t.toNat;omega
  ·show kA ord 0 p.t.toNat<_;omega
theorem Me{s:il}(d:D4 M.aI.length ord)(b:s∈(nZ M ord).aI):∃a∈M.aI,s.f=a.f/\s.bB.length<=a.bB.length:=by
 obtain⟨x,c,rfl⟩:=cI.1 b;exact⟨_,aM (ZP (d.lt x c)),rfl,List.length_filterMap_le ..⟩
theorem jA(h:dO M=af):(1<=M.kind/\M.kind<=3)/\(1<=M.aI.length/\M.aI.length<=3000)/\(0<=M.start/\M.start<M.aI.length)/\fD M.kind M.lead=af/\py M.kind M.aI.length 0 M.aI=af:=by
 unfold dO at h;simp only[bg,decide_eq_true_eq]at h;obtain⟨⟨⟨⟨⟨⟨⟨c,d⟩,a⟩,f⟩,i⟩,g⟩,e⟩,b⟩:=h;exact⟨⟨c,d⟩,⟨a,f⟩,⟨i,g⟩,e,b⟩
theorem DW(b:1<=M.kind/\M.kind<=3)(c:1<=M.aI.length/\M.aI.length<=3000)(a:0<=M.start/\M.start<M.aI.length)(d:fD M.kind M.lead=af)(e:py M.kind M.aI.length 0 M.aI=af):dO M=af:=by
 unfold dO;simp only[bg,decide_eq_true_eq];exact⟨⟨⟨⟨⟨⟨⟨b.1,b.2⟩,c.1⟩,c.2⟩,a.1⟩,a.2⟩,d⟩,e⟩
theorem We(h:dO M=af):mo M.aI<=30000:=by
 obtain⟨_,a,_,_,b⟩:=jA h;have:=Kk (λe=>by rw[e]at a;exact absurd a.1 (by decide)) b;omega
theorem VC(f:dO M=af)(c:D4 M.aI.length ord)(b:M.start.toNat∈ord):dO (nZ M ord)=af:=by
 have m:=jG f;have h:=JV m b;obtain⟨l,A,y,t,k⟩:=jA f;have z:=sF _ c.nd c.lt;have j:=List.length_pos_of_mem b;refine DW l ⟨by rw[xQ];omega,by rw[xQ];omega⟩ ⟨h.uj,h.uk⟩ t (HE ?_ λs b=>⟨?_,?_⟩)
 ·have:=Mf c;have:=We f;omega
 ·obtain⟨g,a,e,_⟩:=Me c b;rw[e];exact(yU k g a).1
 ·rw[bY];intro q n;obtain⟨g,a,p,j,x,v,o,r,w,u⟩:=S7 (i:=0) c b n;have d:=(yU k g a).2 p j;unfold my at d⊢;simp only[bg,decide_eq_true_eq]at d⊢;rw[v,o,r,xQ];exact⟨⟨⟨d.1.1.1,w⟩,u⟩,d.2⟩
theorem VA(a:Small M)(b:D4 M.aI.length ord):Small (nZ M ord):=by
 have h:=sF _ b.nd b.lt;refine⟨a.lead,by rw[xQ];exact bN h a.AW,λs c=>?_,λs c=>?_,λs c q j=>?_,bN (Mf b) a.MG⟩
 ·obtain⟨d,f,e,_⟩:=Me b c;rw[e];exact a.fin d f
 ·obtain⟨d,f,_,e⟩:=Me b c;exact bN e (a.bB d f)
 ·obtain⟨d,g,p,l,m,r,n,k,t,o⟩:=S7 (i:=0) b c j;rw[k];exact a.w d g p l
end
end
variable{x:List Nat}{s:List UInt8}
section
section
variable {M:cm}
noncomputable def YL(M:cm)(s:Nat):Nat:=(oz M).getD s 0
noncomputable def psi(M:cm)(s i:Nat):Nat:=NF (nh (oz M)) (dp M (YL M s)) i
theorem QX{s x:Nat}(h:(oz M)[s]?=aa x):YL M s=x:=by
 unfold YL;rw[gD,h];rfl
theorem LM{s:Nat}(h:s<(oz M).length):(oz M)[s]?=aa (YL M s):=by
 unfold YL;rw[gD,gE h];rfl
theorem FV{s:Nat}(h:s<(oz M).length):dp (nZ M (oz M)) s=(dp M (YL M s)).filterMap (nh (oz M)):=by
 unfold dp;rw[gD,S6 (LM h)];rfl
theorem Nz{s:Nat}(h:s<(oz M).length):jD (nZ M (oz M)) s↔jD M (YL M s):=by
 unfold jD;rw[gD,S6 (LM h)];rfl
theorem OK{q a:eC}(h:nh x q=aa a):a.i=q.i/\a.o=q.o/\∃j:Nat,a.t=(j:Int)/\x[j]?=aa q.t.toNat:=by
 unfold nh at h;split at h
 ·cases h
 ·next b=>
  obtain rfl:=aG h;have c:=uI x 0 q.t.toNat;have d:kA x 0 q.t.toNat=((0+(kA x 0 q.t.toNat).toNat:Nat):Int):=by
   rcases c with h|h
   ·exact absurd h b
   ·omega
  exact⟨rfl,rfl,(kA x 0 q.t.toNat).toNat,by show kA x 0 q.t.toNat=_;omega,Oi d⟩
theorem aae(n:Good M)(t:lX M M.start.toNat):Wv (nZ M (oz M)) M (λs=>s<(oz M).length) (YL M) (psi M):=by
 have w:=sh M;obtain⟨x,g,r⟩:=VB w ((Ch n).2 t);have k:=(List.getElem?_eq_some_iff.1 g).1;refine⟨?_,λs i a c d=>?_,λs i j a b c d f e=>?_,λs c l=>(Nz c).1 l⟩
 ·rw[r,bc];exact⟨k,QX g⟩
 ·rw[FV c]at d;obtain⟨q,o,u⟩:=Qm _ _ d;obtain⟨m,v,j,p,h⟩:=OK u;rw[p,bc];exact⟨(List.getElem?_eq_some_iff.1 h).1,q,o,m.symm,v.symm,(QX h).symm⟩
 ·rw[FV c]at d f;exact K4 _ _ (List.getElem?_eq_some_iff.1 d).1 (List.getElem?_eq_some_iff.1 f).1 e
theorem Zf(p:Good M){s e:Nat}{l:List Nat}{x y:List Int}(r:iR M s l e x y)(h:jD M e):∀{t:Nat},t<(oz M).length->YL M t=s->oq (oF M) (λy=>y=M.start.toNat) s->∃k f,iR (nZ M (oz M)) t k f x y/\jD (nZ M (oz M)) f/\Wq (nZ M (oz M)) (psi M) t k=l:=by
 induction r with
 |nil s=>
  rintro t d rfl B;exact⟨[],t,.nil _,(Nz d).2 h,rfl⟩
 | @cons s i e a l x y v r F=>
  rintro t d rfl B;have u:YL M t<M.aI.length:=(sh M).lt _ (aM (LM d));obtain⟨w,o,C,_⟩:=oi u;have A:w.bB[i]?=aa a:=by rw[<-C];exact v
  have c:oF M (YL M t) a.t.toNat:=⟨w,o,cI.2 ⟨a,aM A,rfl⟩⟩
  have g:oq (oF M) (λy=>y=M.start.toNat) a.t.toNat:= .step B c;have G:lX M a.t.toNat:=⟨g,El r p h⟩
  obtain⟨j,m⟩:=getElem?_of_mem ((Ch p).2 G);have D:kA (oz M) 0 a.t.toNat=(j:Int):=by rw[Lx (sh M).nd m,bJ]
  have q:nh (oz M) a=aa ⟨a.i,a.o,a.w,(j:Int)⟩:=by
   unfold nh;rw[D,iN (by omega)]
  obtain⟨n,b,z⟩:=Sw _ _ v q;obtain⟨k,f,E,H,I⟩:=F h (t:=j) (List.getElem?_eq_some_iff.1 m).1 (QX m) g;rw[<-FV d]at b;have J:=iR.cons b (l:=k) (e:=f) (x:=x) (y:=y) (by rw[show(eC.t ⟨a.i,a.o,a.w,(j:Int)⟩)=(j:Int)from rfl,bc];exact E);refine⟨n::k,f,J,H,?_⟩;have K:(dp (nZ M (oz M)) t).getD n q0=⟨a.i,a.o,a.w,(j:Int)⟩:=by rw[gD,b];rfl
  rw[Wq,K];show psi M t n::Wq _ _ ((j:Int)).toNat k=_;rw[bc,I];show NF _ _ _::_=_;rw[z]
structure Trm(N M:cm):Prop where
 fw:∀l x y,A2 N l x y->∃l',A2 M l' x y
 f2:∀l l' x y z,A2 N l x y->A2 N l' x z->l≠l'->∃k k',A2 M k x y/\A2 M k' x z/\k≠k'
 fu:RZ N↔RZ M
 un:Bl N↔Bl M
 bk:∀l x y,A2 M l x y->∃l',A2 N l' x y
theorem aah{N:cm}(a:∀l x y,¬A2 N l x y)(b:∀l x y,¬A2 M l x y):Trm N M:=
 ⟨λl x y h=>absurd h (a l x y),λl l' x y z h=>absurd h (a l x y),⟨λ_ l l' x y z h=>absurd h (b l x y),λ_ l l' x y z h=>absurd h (a l x y)⟩,⟨λ_ l l' x y z h=>absurd h (b l x y),λ_ l l' x y z h=>absurd h (a l x y)⟩,λl x y h=>absurd h (b l x y)⟩
theorem ac1(o:Good M)(t:lX M M.start.toNat):Trm (nZ M (oz M)) M:=by
 have b:=aae o t;have g:∀{l x y},A2 M l x y->∃k,A2 (nZ M (oz M)) k x y/\Wq (nZ M (oz M)) (psi M) (nZ M (oz M)).start.toNat k=l:=by
  rintro l x y ⟨e,r,f⟩;obtain⟨k,v,s,u,j⟩:=Zf o r f b.start.1 b.start.2 (.base rfl);exact⟨k,⟨v,s,u⟩,j⟩
 refine⟨λl x y h=>⟨_,b.acc h⟩,λl l' x y z c d n=>⟨_,_,b.acc c,b.acc d,λe=>n ?_⟩,⟨λh l l' x y z c d=>?_,b.func⟩,⟨λh l l' x y z c d=>?_,b.ac4⟩,λl x y h=>let⟨k,a,_⟩:=g h;⟨k,a⟩⟩
 ·obtain⟨_,r,_⟩:=c;obtain⟨_,w,_⟩:=d;exact b.Ld l l' b.start.1 r w e
 ·obtain⟨k,m,_⟩:=g c;obtain⟨p,i,_⟩:=g d;exact h _ _ _ _ _ m i
 ·obtain⟨k,m,q⟩:=g c;obtain⟨p,i,j⟩:=g d;rw[<-q,<-j,h _ _ _ _ _ m i]
theorem YF{k:Int}:∀l x y,¬A2 ⟨k,0,s,[⟨[],[]⟩]⟩ l x y:=by
 rintro l x y ⟨e,r,f⟩
 cases r with
 |nil=>exact f rfl
 |cons h _=>simp[dp]at h
theorem QP(a:Good M)(b:¬lX M M.start.toNat):∀l x y,¬A2 M l x y:=λl x y ⟨e,r,f⟩=>b ⟨.base rfl,El r a f⟩
theorem HI(c:dO M=af)(h:Small M):(jt M).2=0/\Good (jt M).1/\Small (jt M).1/\Trm (jt M).1 M/\(jt M).1.aI.length<=M.aI.length:=by
 have d:=jG c;by_cases b:lX M M.start.toNat
 ·rw[HH c b];have i:=sF _ (sh M).nd (sh M).lt;exact⟨rfl,JV d ((Ch d).2 b),VA h (sh M),ac1 d b,by show(nZ M (oz M)).aI.length<=_;rw[xQ];exact i⟩
 ·rw[AZ c b];obtain⟨k,j,_⟩:=jA c;unfold xl;rw[iP k];have g:M.kind=1\/M.kind=2\/M.kind=3:=by omega
  refine⟨rfl,⟨gr _,by show(0:Int)<(1:Nat);omega,λs a q f=>?_⟩,⟨?_,(show 1<=300 by decide),λs a=>?_,λs a=>?_,λs a=>?_,(show 0<=8000 by decide)⟩,aah YF (QP d b),j.1⟩
  ·rw[ba.1 a]at f;cases f
  ·rcases g with e|e|e<;>rw[e]<;>decide +kernel
  ·rw[ba.1 a];exact ck _
  ·rw[ba.1 a];exact ck _
  ·rw[ba.1 a];exact λq f=>by cases f
end
end
section
def QH(a b:Int):Int:=if b>a then b else a
theorem agp(a b c:Int):ud af [aE a,aE b,aE c]=aa (aE (QH (QH a b) c)):=by simp[ud,QH]
def sgA(g:Int)(l:List eC):Int:=l.foldl (λg q=>QH (QH g q.i) q.o) g
def sgS(g:Int)(l:List il):Int:=l.foldl (λg s=>sgA g s.bB) g
def pf(M:cm):Int:=if dO M then sgS 0 M.aI else 0
section
variable {h:au} {k:Nat} {M:cm} {a:Option aJ} {n c:Nat}
def agJ(h:au)(k:Nat)(M:cm)(a:Option aJ)(n c:Nat)(V:Int)(mz i:Nat)(x:Int)(g:au):Prop:=i<=n/\mz=n-i/\MB g k M a n c/\Ok h g/\sgS x (M.aI.drop i)=V
def sIn(h:au)(k:Nat)(M:cm)(a:Option aJ)(n c:Nat)(s:il)(i:Nat)(V:Int)(b j:Nat)(x:Int)(g:au):Prop:=j<=s.bB.length/\b=s.bB.length-j/\MB g k M a n c/\Ok h g/\sgS (sgA x (s.bB.drop j)) (M.aI.drop (i+1))=V
set_option linter.defProp false in
def Yl(w:Wf h)(z:Small M)(V:Int){s:il}{b:Option aJ}{m d i E:Nat}(F:M.aI[i]?=aa s)(G:i<n)(C:List ag)(mz:Nat)(J:mz=n-i):=
 BZ C k a n c E b m d (agJ h k M a n c V) mz i (λe j x g=>sIn h k M a n c s i V e j x g/\kS g (ae b m d) s.bB) (iQ h V) (by
  intro e j x;intros;rename_i g y;obtain⟨⟨S,Q,t,v,l⟩,p⟩:=y;have K:n<=300:=by rw[t.len];exact z.AW
  obtain⟨P,T,O⟩:=oO z F;have L:=p.len;refine az (λf=>?_) (λf=>?_)
  ·have f:=dT f;obtain⟨q,A⟩:∃q,s.bB[j]?=aa q:=⟨_,gE (by omega)⟩
   obtain⟨R,o,D,H,N⟩:=p.at_ A;rw[ig A]at l;obtain⟨u,I,r,B⟩:=wo v.wf q;refine⟨_,D,_,H,_,EP,u,I,_,j0 _ _,_,B.l0,_,Ao _ _,_,B.l1,_,agp _ _ _,?_⟩;rw[cH (i:=j) (n:=m) (by omega) (by omega)];exact iu (e-1) (by omega) ⟨⟨by omega,by omega,t.ok r,v.trans r,l⟩,p.ok r⟩
  ·have f:=dF f;rw[bV (by omega)]at l;rw[cH G (by omega)];exact iu (n-(i+1)) (by omega) ⟨by omega,rfl,t,v,l⟩)
theorem Uu{h:au}(L:za h)(w:Wf h){M:cm}(k:Small M){a:Option aJ}{n c:Nat}(r:eY h (ae a n c) M.aI):aX 54 [al ⟨cU M a n c⟩] h (λv I=>v=aE (pf M)/\Ok h I):=by
 obtain⟨m,C⟩:=jZ w r;refine Ut (cU M a n c) h _ ⟨_,kW M a n c,_,m.all,(Dr (L.ok C) C.wf k m.row).mono ?_⟩;generalize h.push (Bm M a n c)=g at*;rintro _ R ⟨rfl,F⟩;have A:=C.trans F;have t:=m.ok F;have Q:n<=300:=by rw[m.len];exact k.AW
 refine⟨_,rfl,az (λq=>⟨?_,A⟩) (λq=>?_)⟩
 ·rw[cK]at q;unfold pf;rw[q];rfl
 rw[dc]at q;obtain⟨V,D⟩:∃V,V=sgS 0 M.aI:=⟨_,rfl⟩
 have:pf M=V:=by unfold pf;rw[iP q,D]
 rw[this];refine⟨_,dC _,_,_,_,t.l3,?_⟩;refine BY (cU M a n c) h.aD a n c (agJ h h.aD M a n c V) (iQ h V) (λmz i x=>?_) n (i:=0) (g:=0) ⟨by omega,rfl,t,A,D.symm⟩;intros;rename_i W K;obtain⟨Z,J,e,d,p⟩:=K;have S:=e.len;refine az (λf=>?_) (λf=>?_)
 ·have f:=dT f;obtain⟨s,l⟩:∃s,M.aI[i]?=aa s:=⟨_,gE (by omega)⟩
  obtain⟨b,o,H,y,z,G,N,T,U,E⟩:=e.row.at_ l;obtain⟨Y,l2,X⟩:=oO k l;rw[ig l]at p;obtain⟨u,O,B,P⟩:=Ox d.wf s.f H y z;refine⟨_,G,_,N,_,PO,u,O,_,fG _ _,_,_,_,P.l1,?_⟩;have hy:=E.len;exact Yl w k V l (by omega) [] mz J y (j:=0) (g:=x) ⟨⟨by omega,by omega,e.ok B,d.trans B,by rw[bO];exact p⟩,E.ok B⟩
 ·have f:=dF f;rw[bV (by omega)]at p;exact⟨by rw[<-p];rfl,d⟩
end
theorem Yo(a b:Int):a<=QH a b/\b<=QH a b:=by unfold QH;split<;>omega
theorem Yp{a b c:Int}(h:a<=c)(d:b<=c):QH a b<=c:=by unfold QH;split<;>omega
theorem ZA:∀(l:List eC)(g:Int),g<=sgA g l/\∀q∈l,q.i<=sgA g l
 |[],g=>⟨gr _,λq h=>by cases h⟩
 |x::l,g=>by
  obtain⟨f,d⟩:=ZA l (QH (QH g x.i) x.o);have a:=Yo g x.i;have b:=Yo (QH g x.i) x.o;have e:sgA g (x::l)=sgA (QH (QH g x.i) x.o) l:=rfl;rw[e];refine⟨by omega,λq c=>?_⟩;rcases cW.1 c with rfl|c
  ·omega
  ·exact d q c
theorem ZC:∀(l:List il)(g:Int),g<=sgS g l/\∀s∈l,∀q∈s.bB,q.i<=sgS g l
 |[],g=>⟨gr _,λq h=>by cases h⟩
 |x::l,g=>by
  obtain⟨f,d⟩:=ZC l (sgA g x.bB);obtain⟨i,c⟩:=ZA x.bB g;have e:sgS g (x::l)=sgS (sgA g x.bB) l:=rfl;rw[e];refine⟨by omega,λs a q b=>?_⟩;rcases cW.1 a with rfl|a
  ·have:=c q b;omega
  ·exact d s a q b
theorem ZB:∀(l:List eC){g:Int},g<=500->(∀q∈l,q.i<=500/\q.o<=500)->sgA g l<=500
 |[],g,h,_=>h
 |x::l,g,h,a=>by
  have:=a x (by simp);exact ZB l (Yp (Yp h this.1) this.2) λq b=>a q (by simp[b])
theorem ZD:∀(l:List il){g:Int},g<=500->(∀s∈l,∀q∈s.bB,q.i<=500/\q.o<=500)->sgS g l<=500
 |[],g,h,_=>h
 |x::l,g,h,a=>ZD l (ZB x.bB h (a x (by simp))) λs b=>a s (by simp[b])
theorem VQ{M:cm}(c:dO M=af):0<=pf M/\pf M<=500/\∀p,∀a∈dp M p,a.i<=pf M:=by
 have e:=jG c;unfold pf;rw[iP c];obtain⟨i,j⟩:=ZC M.aI 0;refine⟨i,ZD _ (by omega) λs d q f=>⟨(e.bB s d q f).i1,(e.bB s d q f).o1⟩,λp a b=>?_⟩;by_cases k:p<M.aI.length
 ·obtain⟨x,_,g,_,h⟩:=oi k;rw[g]at b;exact j x h a b
 ·unfold dp at b;rw[gD,getElem?_eq_none (by omega)]at b
  cases b
theorem abI{M:cm}(b:Good M):NnI M:=λp a c=>(lP b c).i0
theorem QS{k:Int}(h:1<=k/\k<=3):jz k≠[]:=by
 have:k=1\/k=2\/k=3:=by omega
 rcases this with rfl|rfl|rfl<;>simp[jz]
theorem Lz{k:Int}(h:1<=k/\k<=3):fD k (jz k)=af:=by
 have:k=1\/k=2\/k=3:=by omega
 rcases this with rfl|rfl|rfl<;>decide +kernel
theorem YD(k:Int):(jz k).length<=1:=by
 unfold jz;split
 ·decide
 ·split<;>decide
theorem ZS{M N:cm}{L:List (List Bool)}(w:dO M=af)(G:M.aI.length<=8)(K:∀p,(dp M p).length<=30)(s:sP M N L (jz M.kind))(m:∀x∈N.aI,x.bB.length<=30):dO N=af/\Good N/\Small N/\Nh N=af/\N.aI.length<=256:=by
 have o:=(jA w).1;have A:L.length<=256:=bN (Dd _ L s.nd s.len) (di (n:=2) (by decide) G);have J:0<L.length:=(List.getElem?_eq_some_iff.1 s.l0).1;have k:∀x∈N.aI,∃l,Ii M L (jz M.kind) l x:=λx c=>by
  obtain⟨i,v⟩:=getElem?_of_mem c;have:=(List.getElem?_eq_some_iff.1 v).1;exact⟨_,s.st i _ x (gE (by rw[<-s.AW];exact this)) v⟩
 have u:∀x∈N.aI,x.f=[]\/x.f=jz M.kind:=λx c=>by
  obtain⟨l,h⟩:=k x c;rcases h.f0 with e|e
  ·exact .inr e
  ·exact .inl e
 have g:∀x∈N.aI,∀q∈x.bB,IT N.aI.length q/\q.w=jz M.kind/\q.i=q.o/\1<=q.i:=λx c q d=>by
  obtain⟨l,h⟩:=k x c;obtain⟨f,r,z,C,E,_,D⟩:=h.a q d;have:=(List.getElem?_eq_some_iff.1 D).1;exact⟨⟨by omega,C,by omega,by omega,E,by rw[s.AW];omega⟩,r,f.symm,z⟩
 have t:mo N.aI<=30*N.aI.length:=by
  unfold mo;generalize N.aI=S at m
  induction S with
  |nil=>simp
  |cons x S B=>
   have:=m x (by simp);have:=B λy F=>m y (by simp[F]);simp only[eK,qI,bU];omega
 have j:dO N=af:=by
  refine DW (by rw[s.kind];exact o) ⟨by rw[s.AW];omega,by rw[s.AW];omega⟩ ⟨by rw[s.start];omega,by rw[s.start,s.AW];omega⟩ (by rw[s.kind,s.lead];exact Lz o) (HE (by rw[s.AW]at t;omega) λx c=>⟨?_,?_⟩)
  ·rw[s.kind];rcases u x c with e|e
   ·rw[e];rfl
   ·rw[e,Lz o];simp
  ·rw[bY];intro q d;obtain⟨f,r,_⟩:=g x c q d;unfold my wu;simp only[bg,decide_eq_true_eq];exact⟨⟨⟨⟨⟨f.i0,f.i1⟩,f.o0,f.o1⟩,f.t0⟩,f.t1⟩,by rw[s.kind,r];exact Lz o⟩
 have H:=YD M.kind;refine⟨j,jG j,⟨by rw[s.lead];omega,by rw[s.AW];omega,λx c=>?_,λx c=>by have:=m x c;omega,λx c q d=>by rw[(g x c q d).2.1];omega,by rw[s.AW]at t;omega⟩,?_,by rw[s.AW];exact A⟩
 ·rcases u x c with e|e
  ·rw[e];simp
  ·rw[e];omega
 ·unfold Nh EM Dv FT;rw[j];simp only[dz,bg,bY];refine⟨⟨λx c q d=>?_,λx c q d=>?_⟩,λx c=>?_⟩
  ·have:=(g x c q d).2.2.1;simp[FP,this]
  ·have:=(g x c q d).2.2.2;have e:q.i≠0:=by omega
   simp[rP,e]
  ·obtain⟨l,h⟩:=k x c;unfold Ni wk;rw[decide_eq_true_eq];exact List.Pairwise.map _ (λa b I=>by omega) h.pw
end
theorem Lg(a b:List UInt8):tN aq 9 (strOf a) (strOf b)=aa (decide (a=b)):=by
 have e:kY aq 3 9 (strOf a) (strOf b)=aa (a==b):=by kernel_rfl
 unfold tN;rw[iP (show nQ (strOf b)=af from rfl),e];by_cases h:a=b
 ·subst h;simp[OW,Kb,strOf]
 ·rw[show(a==b)=aj from beq_false_of_ne h,eF h]
def tF:List (List UInt8)->Nat->List (ag×ag)
 |[],_=>[]
 |k::l,i=>(strOf k,aE (i:Int))::tF l (i+1)
theorem Nr:∀(l:List (List UInt8))(x:List UInt8)(i:Nat),tF (l++[x]) i=tF l i++[(strOf x,aE ((i+l.length:Nat):Int))]
 |[],_,_=>rfl
 |k::l,x,i=>by
  rw[fh,tF,Nr l x (i+1),bU,tF,show i+1+l.length=i+(l.length+1) by omega];rfl
def sX(x:List UInt8):List (List UInt8)->Nat->Option Nat
 |[],_=>none
 |k::l,i=>if x=k then aa i else sX x l (i+1)
theorem yD{x:List UInt8}:∀{l:List (List UInt8)}{i j:Nat},sX x l i=aa j->i<=j/\l[j-i]?=aa x
 |[],_,_,h=>by cases h
 | k::l,i,j,h=>by
  rw[sX]at h;split at h
  ·next e=>
   obtain rfl:=aG h;exact⟨aT _,by rw[Nat.sub_self,e];rfl⟩
  ·obtain⟨b,a⟩:=yD h;refine⟨by omega,?_⟩;rw[show j-i=(j-(i+1))+1 by omega];exact a
theorem yC{x:List UInt8}:∀{l:List (List UInt8)}{i:Nat},sX x l i=none->x∉l
 |[],_,_=>by simp
 | k::l,i,h=>by
  rw[sX]at h;split at h
  ·cases h
  ·next e=>
   intro b;rcases cW.1 b with a|a
   ·exact e a
   ·exact yC h a
theorem adv(x:List UInt8):∀(l:List (List UInt8))(i:Nat),rS aq 9 (strOf x) (tF l i)=aa ((sX x l i).map λj:Nat=> aE (j:Int))
 |[],_=>rfl
 |k::l,i=>by
  show(match tN aq 9 (strOf x) (strOf k)with|some af=>aa (aa (aC ak (i:Int)))|some aj=>rS aq 9 (strOf x) (tF l (i+1))|none=>none)=_;rw[Lg,sX];by_cases h:x=k
  ·rw[eT h,iP h];rfl
  ·rw[eF h,iN h];exact adv x l (i+1)
theorem SE{x:List UInt8}(v:ag):∀{l:List (List UInt8)}{i:Nat},x∉l->nP aq 9 (strOf x) v (tF l i)=aa (tF l i++[(strOf x,v)])
 |[],_,_=>rfl
 |k::l,i,h=>by
  show(match tN aq 9 (strOf x) (strOf k)with|some af=>aa ((strOf x,v)::tF l (i+1))|some aj=>(nP aq 9 (strOf x) v (tF l (i+1))).map ((strOf k,aC ak (i:Int))::·)|none=>none)=_;rw[Lg,eF (λe=>h (by rw[e];exact cj ..))];dsimp only;rw[SE v λe=>h (cF _ e)];rfl
theorem agv:aq.underlying 85=aa (.map 9 3):=by kernel_rfl
theorem agu:pS aq 85=aa (.map [],λk=> .map (aa k)):=by kernel_rfl
theorem abR(x:List UInt8):rk aq 9 (strOf x)=af:=by kernel_rfl
theorem aet{l:List (List UInt8)}(d:h.get k=aa (.map (tF l 0)))(x:List UInt8):qf aq 85 (.map (aa k)) (strOf x) af h=aa (av ⟨[aE (((sX x l 0).getD 0:Nat):Int),ah (sX x l 0).isSome]⟩)/\qf aq 85 (.map (aa k)) (strOf x) aj h=aa (aE (((sX x l 0).getD 0:Nat):Int)):=by
 have a:∀b,qf aq 85 (.map (aa k)) (strOf x) b h=match (match h.get k with|some (.map c)=>aa c|_=>none),zeroOf aq 3 with
  |some c,aa z=>if rk aq 9 (strOf x)then match rS aq 9 (strOf x) c with
   |some (aa v)=>aa (if b then .tuple #[v,ah af]else v)
   |some none=>aa (if b then .tuple #[z,ah aj]else z)
   |none=>none else none
  |_,_=>none:=λb=>by
  unfold qf dW;dsimp only;rw[agv];rfl
 rw[a,a,d,ahk];dsimp only;rw[abR,iP rfl,adv]
 cases sX x l 0<;>exact⟨rfl,rfl⟩
theorem aar{l:List (List UInt8)}(b:h.get k=aa (.map (tF l 0))){x:List UInt8}(a:x∉l):iJ aq 85 (.map (aa k)) (strOf x) (aE (l.length:Int)) h=aa (undef,.set k (.map (tF (l++[x]) 0))):=by
 unfold iJ;rw[agv];dsimp only;rw[b];dsimp only;rw[abR,iP rfl,SE _ a,Nr];simp
section
def ImA(b:Nat)(g:au)(L:List jm)(v:ag)(a:List eC):Prop:=∃G,gQ 46 4 v (a.map iU) G/\∀q∈G,Im g L q.1 q.2/\b<=q.1
structure H7(g:au)(L:List jm)(v:ag)(ps:List (il×ag)):Prop where
 row:∃G,gQ 44 2 v (ps.map rG) G/\∀q∈G,Im g L q.1 q.2
 bB:∀p∈ps,ImA 0 g L p.2 p.1.bB
section
variable {hb g g':au} {L L':List jm} {v:ag} {ps:List (il×ag)}
theorem _root_.Go.Ab.gQ.rdg{e:aF}{a:List (List ag)}{G:jm}(r:gQ e n v a G)(i:∀p∈G,g.get p.1=aa p.2):H0 g e n v a:=by
 have:kK ⟨0,.nil⟩ g e n v a:=by
  obtain⟨f,⟨rfl,rfl,_⟩|⟨k,b,cs,c,rfl,rfl,d,h,j⟩⟩:=r
  ·exact kK.nil ..
  ·exact⟨f,.inr ⟨k,b,cs,c,rfl,ck _,i _ (ba.2 rfl),d,h,j⟩⟩
 exact this.rd
theorem ImA.rd{a:List eC}(m:ImA n g L v a):kS g v a:=by
 obtain⟨G,r,h⟩:=m;exact r.rdg λp b=>(h p b).1.1
theorem ImA.oJ{a:List eC}(m:ImA n g L v a)(c:pz g L g' L'):ImA n g' L' v a:=by
 obtain⟨G,r,h⟩:=m;exact⟨G,r,λp b=>⟨c _ _ (h p b).1,(h p b).2⟩⟩
theorem H7.oJ(m:H7 g L v ps)(c:pz g L g' L'):H7 g' L' v ps:=by
 obtain⟨⟨G,r,h⟩,a⟩:=m;exact⟨⟨G,r,λp b=>c _ _ (h p b)⟩,λp b=>(a p b).oJ c⟩
theorem _root_.Go.Ab.gQ.dead{e:aF}{a:List (List ag)}{G:jm}(r:gQ e n v a G):v≠uz:=by
 obtain⟨_,⟨rfl,_⟩|⟨k,b,cs,c,rfl,_⟩⟩:=r
 ·intro e;unfold uz at e;injection e with e _ _;cases e
 ·intro e;unfold uz at e;injection e with e _ _;injection e with e;injection e with _ _ e;cases e
theorem H7.st(m:H7 g L v ps):eY g v (ps.map (·.1)):=by
 obtain⟨⟨G,r,h⟩,a⟩:=m;exact⟨ps,rfl,r.rdg λp b=>(h p b).1,λp b=>(a p b).rd,r.dead⟩
theorem _root_.Go.Ab.OL.imG(o:OL hb g L){f:au}(m:∀k∈keys L,k<f.aD){e:aF}{b:Nat}{h:List (List ag)}(d:kK f g e b v h):∃G,gQ e b v h G/\∀q∈G,Im g L q.1 q.2:=by
 obtain⟨G,r,n⟩:=gQ.of d;refine⟨G,r,λq a=>⟨n q a,λi=>?_⟩⟩;have l:=m _ i;obtain⟨_,⟨_,_,rfl⟩|⟨k,p,cs,c,j,rfl,_⟩⟩:=r
 ·cases a
 ·obtain rfl:=ba.1 a;have:=(d.lt o.ok.wf (k:=k) (by rw[j];rfl)).2;dsimp only at l;omega
theorem nI.im(m:nI h g v ps)(o:OL hb g L)(a:∀k∈keys L,k<h.aD):H7 g L v ps:=
 ⟨o.imG a m.row,λp e=>by
  obtain⟨i,d⟩:=getElem?_of_mem e;obtain⟨G,h,c⟩:=o.imG a (m.bB i p d);exact⟨G,h,λq b=>⟨c q b,ck _⟩⟩⟩
def B2(kind:Int)(one:List UInt8)(vs:ag):eA:= .cells [aE kind,aE 0,strOf one,vs] 24 0 af
abbrev LG(kind:Int)(one:List UInt8)(k2 km:Nat)(ks:List (List UInt8))(vs:ag)(Gl Gs:jm)(R:List jm):List jm:=[[(k2,B2 kind one vs)],Gl,[(km,.map (tF ks 0))],Gs]++R
structure Af(h0 g:au)(kind:Int)(one:List UInt8)(k2 km:Nat)(e:aF)(v:ag)(xs:List ag)(ks:List (List UInt8))(vs:ag)(ps:List (il×ag))(Gl Gs:jm)(R:List jm):Prop where
 o:OL h0 g (LG kind one k2 km ks vs Gl Gs R)
 rl:kT e v xs Gl
 rs:gQ 44 2 vs (ps.map rG) Gs
 fr:∀p∈ps,ImA h0.aD g (LG kind one k2 km ks vs Gl Gs R) p.2 p.1.bB
section
variable {h0:au} {kind:Int} {one:List UInt8} {k2 km:Nat} {e:aF} {xs:List ag} {ks:List (List UInt8)} {vs:ag} {Gl Gs:jm} {R:List jm}
theorem Af.grow(s:Af h0 g kind one k2 km e v xs ks vs ps Gl Gs R)(o:Ok g g'):Af h0 g' kind one k2 km e v xs ks vs ps Gl Gs R/\pz g (LG kind one k2 km ks vs Gl Gs R) g' (LG kind one k2 km ks vs Gl Gs R):=by
 obtain⟨a,c⟩:=s.o.grow o;exact⟨⟨a,s.rl,s.rs,λp b=>(s.fr p b).oJ c⟩,c⟩
theorem Af.aaN{t:aF}{i:TypeInfo}(C:aq.underlying t=aa (.slice e))(l:fI aq e=aa i)(m:i.size=1)(hb:i.bytes<=100)(z:eI aq t=af)(w:Wf h0)(s:Af h0 g kind one k2 km e v xs ks vs ps Gl Gs R){x:ag}(o:eZ x=af){h:Nat}(d:g.get h=aa (.cells [x] e 1 af))(E:xs.length<=1000000):
  ∃(b:Option aJ)(n c:Nat)(u:ek),cG aq t t v (sA h 1 1) g=aa (ae b n c,u)/\n=xs.length+1/\∃a,Af h0 (u.app g) kind one k2 km e (ae b n c) (xs++[x]) ks vs ps a Gs R/\pz g (LG kind one k2 km ks vs Gl Gs R) (u.app g) (LG kind one k2 km ks vs a Gs R):=by
 have D:(xs.length+1)*i.bytes<=1000001*100:=fy (by omega) hb;obtain⟨b,n,c,u,q,r,B,k,y,f⟩:=s.rl.snoc C l m z w s.o (j:=1) rfl o d (by omega) (by omega);exact⟨b,n,c,u,q,r,B,⟨y,k,s.rs,λp A=>(s.fr p A).oJ f⟩,f⟩
theorem Af.afs(w:Wf h0)(s:Af h0 g kind one k2 km e v xs ks vs ps Gl Gs R){x:List UInt8}(a:x∉ks):∃u:ek,iJ aq 85 (.map (aa km)) (strOf x) (aE (ks.length:Int)) g=aa (undef,u)/\Af h0 (u.app g) kind one k2 km e v xs (ks++[x]) vs ps Gl Gs R/\pz g (LG kind one k2 km ks vs Gl Gs R) (u.app g) (LG kind one k2 km (ks++[x]) vs Gl Gs R):=by
 obtain⟨b,c⟩:=s.o.E8 w 2 (k:=km) (B:= .map (tF ks 0)) rfl (.map (tF (ks++[x]) 0));exact⟨_,aar (s.o.get 2 rfl) a,⟨b,s.rl,s.rs,λp d=>(s.fr p d).oJ c⟩,c⟩
theorem Af.look(s:Af h0 g kind one k2 km e v xs ks vs ps Gl Gs R)(x:List UInt8):qf aq 85 (.map (aa km)) (strOf x) af g=aa (av ⟨[aE (((sX x ks 0).getD 0:Nat):Int),ah (sX x ks 0).isSome]⟩)/\qf aq 85 (.map (aa km)) (strOf x) aj g=aa (aE (((sX x ks 0).getD 0:Nat):Int)):=aet (s.o.get 2 rfl) x
abbrev R4(a:Nat)(f:List UInt8)(b:ag)(c:jm):List jm:=[[(a,.cells [strOf f,b] 44 0 af)],c]
theorem Af.open_(s:Af h0 g kind one k2 km e v xs ks vs ps Gl Gs []):Af h0 (g.push (.cells [strOf [],nA] 44 0 af)) kind one k2 km e v xs ks vs ps Gl Gs (R4 g.aD [] nA [])/\pz g (LG kind one k2 km ks vs Gl Gs []) (g.push (.cells [strOf [],nA] 44 0 af)) (LG kind one k2 km ks vs Gl Gs (R4 g.aD [] nA [])):=by
 obtain⟨d,b⟩:=s.o.push (.cells [strOf [],nA] 44 0 af);obtain⟨c,a⟩:=d.none;exact⟨⟨c,s.rl,s.rs,λp f=>(s.fr p f).oJ (b.trans a)⟩,b.trans a⟩
theorem Af.VP(w:Wf h0){a:Nat}{f:List UInt8}{b:ag}{d:jm}(s:Af h0 g kind one k2 km e v xs ks vs ps Gl Gs (R4 a f b d))(h:List UInt8):∃u:ek,bh aq 9 (pA a) (strOf h) g=aa (undef,u)/\Af h0 (u.app g) kind one k2 km e v xs ks vs ps Gl Gs (R4 a h b d)/\pz g (LG kind one k2 km ks vs Gl Gs (R4 a f b d)) (u.app g) (LG kind one k2 km ks vs Gl Gs (R4 a h b d)):=by
 obtain⟨i,c⟩:=s.o.E8 w 4 (k:=a) (B:= .cells [strOf f,b] 44 0 af) rfl (.cells [strOf h,b] 44 0 af);exact⟨_,kG (by kernel_rfl) (s.o.get 4 rfl) (by simp) rfl rfl,⟨i,s.rl,s.rs,λp j=>(s.fr p j).oJ c⟩,c⟩
theorem Af.afr(w:Wf h0){a:Nat}{f:List UInt8}{h:ag}{o:jm}{d:List eC}(s:Af h0 g kind one k2 km e v xs ks vs ps Gl Gs (R4 a f h o))(E:gQ 46 4 h (d.map iU) o)(K:d.length<=100000){q:eC}{A:Nat}(t:g.get A=aa (.cells (iU q) 46 4 af)):
  ∃(b:Option aJ)(n c:Nat)(u:ek),cG aq 42 42 h (sA A 1 1) g=aa (ae b n c,u)/\∃m:ek,bh aq 42 (df a (0+1)) (ae b n c) (u.app g)=aa (undef,m)/\∃l,gQ 46 4 (ae b n c) ((d++[q]).map iU) l/\Af h0 (m.app (u.app g)) kind one k2 km e v xs ks vs ps Gl Gs (R4 a f (ae b n c) l)/\pz g (LG kind one k2 km ks vs Gl Gs (R4 a f h o)) (m.app (u.app g)) (LG kind one k2 km ks vs Gl Gs (R4 a f (ae b n c) l)):=by
 have i:(d.map iU).length=d.length:=aH ..;obtain⟨b,n,c,u,D,_,J,C,z,y⟩:=E.add O5 S1 JR agZ w s.o (j:=5) rfl (ns:=[iU q]) (Fw t rfl) (λr H=>by rw[ba.1 H];rfl) rfl (by rw[Hq,i,de];omega) (by rw[i,de];omega) (.inl (aT _));have I:(u.app g).get a=aa (.cells [strOf f,h] 44 0 af):=z.get 4 rfl;obtain⟨F,x⟩:=z.E8 w 4 (k:=a) (B:= .cells [strOf f,h] 44 0 af) rfl (.cells [strOf f,ae b n c] 44 0 af);refine⟨b,n,c,u,D,_,kG (by kernel_rfl) I (by simp) (fR ..) (by cases b<;>rfl),J,?_,⟨F,s.rl,s.rs,λp G=>(s.fr p G).oJ (y.trans x)⟩,y.trans x⟩;rw[bK];exact C
theorem Af.close(w:Wf h0){l:Nat}{f:List UInt8}{a:Option aJ}{n c:Nat}{t:jm}{x:List eC}(s:Af h0 g kind one k2 km e v xs ks vs ps Gl Gs (R4 l f (ae a n c) t))(O:gQ 46 4 (ae a n c) (x.map iU) t)(U:ps.length<=100000){J:Nat}(C:g.get J=aa (.cells [strOf f,ae a n c] 44 2 af)):
  ∃(b:Option aJ)(h d:Nat)(u:ek),cG aq 22 22 vs (sA J 1 1) g=aa (ae b h d,u)/\∃A:ek,bh aq 22 (df k2 3) (ae b h d) (u.app g)=aa (undef,A)/\∃z,Af h0 (A.app (u.app g)) kind one k2 km e v xs ks (ae b h d) (ps++[(⟨f,x⟩,ae a n c)]) Gl z []/\pz g (LG kind one k2 km ks vs Gl Gs (R4 l f (ae a n c) t)) (A.app (u.app g)) (LG kind one k2 km ks (ae b h d) Gl z []):=by
 have m:(ps.map rG).length=ps.length:=aH ..;obtain⟨b,h,d,u,N,_,I,K,G,R⟩:=s.rs.add zp acz Ve ah7 w s.o (j:=3) rfl (ns:=[[strOf f,ae a n c]]) (Fw C rfl) (λr S=>by rw[ba.1 S];rfl) (by cases a<;>rfl) (by rw[Q6,m,de];omega) (by rw[m,de];omega) (.inl (aT _));have T:(u.app g).get k2=aa (B2 kind one vs):=G.get 0 rfl;obtain⟨P,Q⟩:=G.E8 w 0 (k:=k2) (B:=B2 kind one vs) rfl (B2 kind one (ae b h d));have E:bh aq 22 (df k2 3) (ae b h d) (u.app g)=aa (undef,.set k2 (B2 kind one (ae b h d))):=kG (by kernel_rfl) T (by simp) (fR ..) (by cases b<;>rfl);have o:OL h0 ((ek.set k2 (B2 kind one (ae b h d))).app (u.app g)) (LG kind one k2 km ks (ae b h d) Gl I []++R4 l f (ae a n c) t):=P;have D:=R.trans Q;obtain⟨M,L⟩:=o.left;have H:=D.trans L;refine⟨b,h,d,u,N,_,E,I,⟨M,s.rl,by rw[bK];exact K,λp y=>?_⟩,H⟩;rcases bG.1 y with y|y
 ·exact(s.fr p y).oJ H
 ·obtain rfl:=ba.1 y;exact⟨t,O,λq F=>⟨o.abV q (by simp[F]),o.GS (i:=5) rfl q F⟩⟩
end
end
end
noncomputable def fo:FD:=gU Tryz.f19 [((pq 19455),[1,2,4,5,6,7,8,9,10]),((pq 9849855),[1,2,4,5,6,7,8,9,10,11,12])]
abbrev gL(f d g h e:Nat)(b:LB)(a:OA)(n c t i:Nat):LV:=[(pA f),(pA d),(pA g),(pA h),(strOf b),(ae a n c),(.map (aa e)),(iA t),(iA i)]
abbrev jk(g e h j f:Nat)(d:LB)(b i:Nat)(a:OA)(n c t s:Nat):LV:=[(pA g),(pA e),(pA h),(pA j),(strOf d),(ae a n c),(.map (aa f)),(iA t),(iA i),(pA b),(iA s)]
theorem QU(x:LV)(h:au)(Q:VH)(W:xN (jY aq 24 (al ⟨x⟩)) h λB1 d=>xN (cP aq 24) d λB3 D=>xA (aS aq 24 D (pA (h.aD))) λX=>aX 39 [(al ⟨X⟩)] D λV b=>∃n:LV,∃u:Int,V=(av ⟨[(al ⟨n⟩),(aE u)]⟩)/\xN (cP aq 24) b λY r=>xU (bh aq 24 (pA (b.aD)) (al ⟨n⟩) r) r λx5 f=>cq (((u:Int) !=0)) (xA (cJ aq 24 []) λN=>xU (bh aq 24 (pA (d.aD)) (al ⟨N⟩) f) f λx3 F=>jq SS [((pA (d.aD)),aa 24),((aE u),none)] F Q) (xA (aS aq 24 f (pA (h.aD))) λv=>aX 31 [(al ⟨v⟩)] f λz a=>yB z λL=>cq (!L) (xA (cJ aq 24 []) λw=>xU (bh aq 24 (pA (d.aD)) (al ⟨w⟩) a) a λx0 J=>jq SS [((pA (d.aD)),aa 24),((aE 6),none)] J Q) (xA (aS aq 24 (room a 6) (pA (b.aD))) λg=>xA (aS aq 24 (room a 6) (pA (b.aD))) λB=>aX 54 [(al ⟨B⟩)] (room a 6) λM l=>yI ak M λO=>xA (cJ aq 82 [(0,(al ⟨g⟩)),(1,(aE O))]) λR=>zN (cP aq 82) λp=>xU (bh aq 82 (pA (a.aD+4)) (al ⟨R⟩) (cr l a.aD [(4,p)])) (cr l a.aD [(4,p)]) λx1 s=>(aS aq 24 l (pA (b.aD))=aa (al ⟨g⟩)/\oQ 4 (al ⟨g⟩) (al ⟨g⟩)=af)/\xP (aY aq 24 (pA (b.aD)) 0) λK=>xI ak (aS aq 3 s (bw K)) λA=>aX 24 [(aE A)] s λH i=>yS H λm=>xP (aY aq 24 (pA (b.aD)) 0) λU=>xI ak (aS aq 3 i (bw U)) λS=>xA (cJ aq 24 [(0,(aE S)),(2,(strOf m))]) λC=>xU (bh aq 24 (pA (d.aD)) (al ⟨C⟩) i) i λZ t=>xA (aS aq 82 t (pA (a.aD+4))) λT=>aX 55 [(al ⟨T⟩)] t λy j=>yS y λE=>xR (bS aq 84 1 [(0,(strOf E))]) j λx2 o q c=>∃e:eA,pS aq 85=aa (e,λk=> .map (aa k))/\xP (aW aq 84 (sA (j.aD) o q) (aE 0)) λI=>xS (aS aq 9 (c.push e) (bw I)) λP=>xU (iJ aq 85 (.map (aa c.aD)) (strOf P) (aE 0) (c.push e)) (c.push e) λx4 G=>cw fo (pq 19455) (gL (h.aD) (d.aD) (b.aD) (a.aD+4) (c.aD) m (aa ⟨j.aD,0,none⟩) o q 0 0) G (eu fo (pq 11263) Q)))):aX 19 [(al ⟨x⟩)] h Q:=hH fo Tryz.func19 (bD W)
theorem AG(D:LV)(j d k f g:Nat)(b:LB)(e:Nat->OA->Nat->Nat->Nat->Nat->au->Prop)(Q:VH)(step:∀(mz:Nat) (a:OA) (n c t i:Nat) (w:Nat->ag) (h:au),e mz a n c t i h->cq (decide (((i:Int):Int)<(n:Int))) (xN (cP aq 44) h λC m=>xA (aS aq 82 (room m 6) (pA f)) λr=>xP (aW aq 84 (ae a n c) (iA i)) λq=>xS (aS aq 9 (room m 6) (bw q)) λy=>aX 56 [(al ⟨r⟩),(strOf y)] (room m 6) λx l=>yB x λp=>cq p (xP (aY aq 44 (pA (h.aD)) 0) λs=>xU (bh aq 9 (bw s) (strOf b) l) l λA z=>cw fo (pq 9849855) (jk j d k f g b (h.aD) i a n c t 1) z (fQ fo (pq 345) (pq 19455) (RR fo (pq 19455) (DZ (gL j d k f g b) e) mz (eu fo (pq 11263) Q)))) (cw fo (pq 9849855) (jk j d k f g b (h.aD) i a n c t 1) l (fQ fo (pq 345) (pq 19455) (RR fo (pq 19455) (DZ (gL j d k f g b) e) mz (eu fo (pq 11263) Q))))) (xA (aS aq 24 h (pA d)) λu=>xU (bh aq 24 (pA d) (al ⟨u⟩) h) h λB v=>jq SS [((pA d),aa 24),((aE 0),none)] v Q))(mz:Nat){a:OA}{n c t i:Nat}{h:au}(o:e mz a n c t i h):cw fo (pq 19455) (gL j d k f g b a n c t i) h (eu fo (pq 11263) Q):=
 zO (gL j d k f g b) e (λmz a n c t i w h o=>bD (step mz a n c t i w h o)) mz o
abbrev vB(t:Nat)(f:Nat)(a:au)(Q:VH)(b:Nat)(m:Nat)(w:LB)(s:Nat)(e:LB)(C:Nat)(D:Nat)(E:Nat)(i:Nat)(v:Nat->OA->Nat->Nat->Nat->Nat->au->Prop)(z:Nat)(F:OA)(A:Nat)(B:Nat):Prop:=cq (decide ((ai ak ((t:Int)+1):Int)>30000)) (xA (cJ aq 24 []) λx=>xU (bh aq 24 (pA f) (al ⟨x⟩) a) a λL y=>jq SS [((pA f),aa 24),((aE 2),none)] y Q) (xP (aY aq 44 (pA b) 1) λH=>xL (aS aq 42 a (bw H)) λG h l=>xI ak (qf aq 85 (.map (aa m)) (strOf w) aj a) λp=>xA (cJ aq 46 [(0,(iA s)),(1,(iA s)),(2,(strOf e)),(3,(aE p))]) λu=>xR (bS aq 42 1 [(0,(al ⟨u⟩))]) a λJ o k d=>xE (cG aq 42 42 (ae G h l) (sA (a.aD) o k) d) d λg j r K c=>xP (aY aq 44 (pA b) 1) λq=>xU (bh aq 42 (bw q) (ae g j r) c) c λI n=>ct (DZ (jk C f D E m e b i) v) z [(pA C),(pA f),(pA D),(pA E),(strOf e),(ae F A B),(.map (aa m)),(aE (ai ak ((t:Int)+1))),(iA i),(pA b),(aE (ai ak ((s:Int)+1)))] n)
theorem AH(mv:LV)(o b p l k:Nat)(e:LB)(g:Nat)(v:Nat->OA->Nat->Nat->Nat->Nat->au->Prop)(mz i:Nat)(f:Nat->OA->Nat->Nat->Nat->Nat->au->Prop)(Q:VH)(step:∀(d:Nat) (a:OA) (n c t s:Nat) (zz:Nat->ag) (h:au),f d a n c t s h->xP (aY aq 82 (pA l) 1) λx0=>xI ak (aS aq 3 h (bw x0)) λS=>cq (decide (((s:Int):Int)<=S)) (xA (aS aq 82 (room h 12) (pA l)) λW=>xP (aW aq 84 (ae a n c) (iA i)) λT=>xS (aS aq 9 (room h 12) (bw T)) λU=>aX 57 [(al ⟨W⟩),(strOf U),(iA s)] (room h 12) λV j=>∃m:LB,∃y:Bool,V=(av ⟨[(strOf m),(ah y)]⟩)/\cq (!y) (ct (DZ (jk o b p l k e g i) f) d [(pA o),(pA b),(pA p),(pA l),(strOf e),(ae a n c),(.map (aa k)),(iA t),(iA i),(pA g),(aE (ai ak ((s:Int)+1)))] j) (∃x1:Int,∃z:Bool,(qf aq 85 (.map (aa k)) (strOf m) af j)=aa (av ⟨[(aE x1),(ah z)]⟩)/\cq (!z) (xU (iJ aq 85 (.map (aa k)) (strOf m) (iA n) j) j λx8 A=>xR (bS aq 84 1 [(0,(strOf m))]) A λy0 x3 Z x=>xE (cG aq 84 84 (ae a n c) (sA (A.aD) x3 Z) x) x λx2 w Y y1 u=>cq (decide (((w:Int):Int)>3000)) (xA (cJ aq 24 []) λR=>xU (bh aq 24 (pA b) (al ⟨R⟩) u) u λx9 X=>jq SS [((pA b),aa 24),((aE 2),none)] X Q) (vB t b u Q g k m s e o p l i f d x2 w Y)) (cq (decide (((n:Int):Int)>3000)) (xA (cJ aq 24 []) λH=>xU (bh aq 24 (pA b) (al ⟨H⟩) j) j λx6 B=>jq SS [((pA b),aa 24),((aE 2),none)] B Q) (vB t b j Q g k m s e o p l i f d a n c)))) (xP (aY aq 24 (pA b) 3) λI=>xL (aS aq 22 h (bw I)) λG F C=>xA (aS aq 44 h (pA g)) λP=>xR (bS aq 22 1 [(0,(al ⟨P⟩))]) h λx5 D J q=>xE (cG aq 22 22 (ae G F C) (sA (h.aD) D J) q) q λK N E x4 r=>xP (aY aq 24 (pA b) 3) λO=>xU (bh aq 22 (bw O) (ae K N E) r) r λx7 L=>ct (DZ (gL o b p l k e) v) mz [(pA o),(pA b),(pA p),(pA l),(strOf e),(ae a n c),(.map (aa k)),(iA t),(aE (ai ak ((i:Int)+1)))] L))(d:Nat){a:OA}{n c t s:Nat}{h:au}(M:f d a n c t s h):cw fo (pq 9849855) (jk o b p l k e g i a n c t s) h (fQ fo (pq 345) (pq 19455) (RR fo (pq 19455) (DZ (gL o b p l k e) v) mz (eu fo (pq 11263) Q))):=
 zO (jk o b p l k e g i) f (λd a n c t s zz h M=>bD (step d a n c t s zz h M)) d M
variable{a:Option aJ}
section
abbrev sgV(l:List Bool):ag:=strOf (enc 1 0 l)
theorem q84:aq.underlying 84=aa (.slice 9):=by kernel_rfl
theorem z9:bZ aq 9=aa 1:=by kernel_rfl
noncomputable def aeT:TypeInfo:=(fI aq 9).getD default
theorem acB:fI aq 9=aa aeT:=by kernel_rfl
theorem Vh:aeT.size=1:=by kernel_rfl
theorem Q7:aeT.bytes<=100:=by decide +kernel
theorem ah9:eI aq 84=af:=by kernel_rfl
theorem afN(l:List UInt8):bS aq 84 1 [(0,(strOf l))]=aa (.cells [strOf l] 9 1 af,qe 1 1):=by kernel_rfl
theorem adi(s j:Int)(one:List UInt8):cJ aq 46 [(0,aE s),(1,aE s),(2,strOf one),(3,aE j)]=aa (al ⟨iU ⟨s,s,one,j⟩⟩):=by kernel_rfl
def MG(a:List (il×ag)):Nat:=(a.map λp=>p.1.bB.length).sum
theorem Tj(a:List (il×ag))(p:il×ag):MG (a++[p])=MG a+p.1.bB.length:=by simp[MG]
theorem RE:∀{ps:List (il×ag)},(∀p∈ps,p.1.bB.length<=30)->MG ps<=30*ps.length
 |[],_=>aT _
 |p::ps,h=>by
  have:=h p (by simp);have:=RE (ps:=ps) λq a=>h q (by simp[a]);simp only[MG,eK,qI,bU]at*;omega
theorem xb{l:List Bool}{L:List (List Bool)}{y z:UInt8}(h:y≠z):enc y z l∈L.map (enc y z)↔l∈L:=by
 rw[cI];exact⟨λ⟨x,a,b⟩=>by rw[<-KZ h b];exact a,λh=>⟨l,h,rfl⟩⟩
theorem Aw{l:List Bool}{L:List (List Bool)}{y z:UInt8}(h:y≠z){j:Nat}(e:(L.map (enc y z))[j]?=aa (enc y z l)):L[j]?=aa l:=by
 rw[getElem?_map]at e;obtain⟨x,a,b⟩:=bo.1 e;rw[a,KZ h b]
def sgR(h:au)(T:cm)(one:List UInt8)(Q:VH):Prop:=∀(N:cm)(a:Option aJ)(n c:Nat)(L:List (List Bool))(g:au),sP T N L one->(∀s∈N.aI,s.bB.length<=30)->Ok h g->eY g (ae a n c) N.aI->Q (av ⟨[al ⟨cU N a n c⟩,aE 0]⟩) g
section
variable {h:au} {T:cm} {one:List UInt8} {k2 km k5:Nat} {a2:Option aJ} {n2 c2:Nat} {psT:List (il×ag)} {sg:Int}
def SI1(h:au)(T:cm)(one:List UInt8)(k2 km k5:Nat)(a2:Option aJ)(n2 c2:Nat)(psT:List (il×ag))(sg:Int)(mz:Nat)(a:Option aJ)(n c t i:Nat)(g:au):Prop:=
 ∃(L:List (List Bool))(d:ag)(b:List (il×ag))(f e:jm),Af h g T.kind one k2 km 9 (ae a n c) (L.map sgV) (L.map (enc 1 0)) d b f e []/\
  Im g (LG T.kind one k2 km (L.map (enc 1 0)) d f e []) k5 (Bs T a2 n2 c2 sg)/\H7 g (LG T.kind one k2 km (L.map (enc 1 0)) d f e []) (ae a2 n2 c2) psT/\I5 T one L (b.map (·.1))/\b.length=i/\t=MG b/\(∀p∈b,p.1.bB.length<=30)/\mz=257-i
def SI2(h:au)(T:cm)(one:List UInt8)(k2 km k5:Nat)(a2:Option aJ)(n2 c2:Nat)(psT:List (il×ag))(sg:Int)(d i:Nat)(f:List UInt8)(l:List Bool)(mz:Nat)(a:Option aJ)(n c t s:Nat)(g:au):Prop:=
 ∃(L:List (List Bool))(m:ag)(e:List (il×ag))(q o:jm)(j:ag)(k:jm)(b:List eC),Af h g T.kind one k2 km 9 (ae a n c) (L.map sgV) (L.map (enc 1 0)) m e q o (R4 d f j k)/\
  Im g (LG T.kind one k2 km (L.map (enc 1 0)) m q o (R4 d f j k)) k5 (Bs T a2 n2 c2 sg)/\H7 g (LG T.kind one k2 km (L.map (enc 1 0)) m q o (R4 d f j k)) (ae a2 n2 c2) psT/\I5 T one L (e.map (·.1))/\e.length=i/\L[i]?=aa l/\
  gQ 46 4 j (b.map iU) k/\Fy T L one l (λc=>1<=c/\c<(s:Int)) b/\t=MG e+b.length/\(∀p∈e,p.1.bB.length<=30)/\1<=s/\(s:Int)<=sg+1/\mz=(sg+1-s).toNat
theorem Rp{c:Nat}{L:List (List Bool)}{i:List (il×ag)}{k j:jm}{R:List jm}{d:Int}{y z:UInt8}{e:aF}{f:List Bool->ag}(s:Af h g d one k2 km e (ae a n c) (L.map f) (L.map (enc y z)) v i k j R):n=L.length:=by
 obtain⟨m,l,b⟩:=s.rl.tB;injection b with _ b _
 rw[b,aH]
theorem O4(w:Wf h)(hv:dO T=af)(x4:T.aI.length<=8)(hK:Tq T 30)(zA:∀s∈T.aI,s.bB.length<=2000)(y2:psT.map (·.1)=T.aI)(y5:0<=sg/\sg<=500/\∀p,∀a∈dp T p,a.i<=sg)(mv:List ag){k1 k4 d i x5:Nat}{f:List UInt8}{l:List Bool}(f0:f=one\/f=[])(f1:f=one↔yY T l)(hi:i<=256){Q:VH}{mz:Nat}{a:Option aJ}{n c t s:Nat}{g:au}(y3:x5=257-i)(M:SI2 h T one k2 km k5 a2 n2 c2 psT sg d i f l mz a n c t s g):
  cw fo (pq 9849855) (jk k1 k2 k4 k5 km one d i a n c t s) g (fQ fo (pq 345) (pq 19455) (RR fo (pq 19455) (DZ (gL k1 k2 k4 k5 km one) (SI1 h T one k2 km k5 a2 n2 c2 psT sg)) x5 (eu fo (pq 11263) Q))):=by
 have gd:=jG hv;refine AH mv k1 k2 k4 k5 km one d _ _ i (SI2 h T one k2 km k5 a2 n2 c2 psT sg d i f l) Q (λmz a n c t s=>?_) mz M;clear M;intro zz g M;obtain⟨L,R,J,Gl,Gs,va,Ga,o,S,A,B,D,O,m,ra,F,rfl,P,y7,y9,rfl⟩:=M;have Z:=Rp S;have hL:=D.Wp x4;have y4:=F.Wp hK;have y6:=RE P;have x0:l.length=T.aI.length:=D.len l (aM m);refine⟨_,aem _,_,Bs.l4 A.1,az (λq=>?_) (λq=>?_)⟩
 ·have q:=dT q;have ws:ai ak ((s:Int)+1)=((s+1:Nat):Int):=cH (n:=501) (by omega) (by omega);have wt:ai ak (((MG J+o.length:Nat):Int)+1)=((MG J+(o.length+1):Nat):Int):=by rw[cd (by omega) (by omega)];omega
  obtain⟨S,c1⟩:=S.grow ((Ok.refl S.o.ok.wf).room 12);have A:=c1 _ _ A;have B:=B.oJ c1;generalize room g 12=g1 at*;have x6:=S.rl.rd S.o (i:=1) rfl;obtain⟨_,i1,i2⟩:=x6.at_ q84 z9 RG WJ (k:= ak) (i:=(i:Int)) (by omega) (by rw[aH];have:=(List.getElem?_eq_some_iff.1 m).1;omega);rw[bc,gD,getElem?_map,m]at i2;have G:=B.st;rw[y2]at G;refine⟨_,Bs.all A.1,_,i1,_,i2,(Zr S.o.ok.wf gd x0 (by omega) zA G (s:Int)).mono ?_⟩;rintro _ g2 ⟨b,rfl,o2,hb⟩;obtain⟨S,x1⟩:=S.grow o2;have A:=x1 _ _ A;have B:=B.oJ x1;clear o2 G i1 i2 c1 x1 x6;have hP:∀c:Int,(1<=c/\c<((s+1:Nat):Int))↔(1<=c/\c<(s:Int))\/c=(s:Int):=λc=>by omega
  refine⟨_,_,rfl,az (λq2=>?_) (λq2=>?_)⟩
  ·have y0:¬wB T l (s:Int):=λhh=>by rw[hb.2 hh]at q2;cases q2
   rw[ws];exact ow (sg+1-((s+1:Nat):Int)).toNat (by omega) ⟨L,R,J,Gl,Gs,va,Ga,o,S,A,B,D,O,m,ra,F.skip hP y0,rfl,P,by omega,by omega,rfl⟩
  have x7:wB T l (s:Int):=hb.1 (by simpa using q2);have x8:(fT T l (s:Int)).length=T.aI.length:=by rw[rq,x0]
  have lk:=S.look (enc 1 0 (fT T l (s:Int)));have N:∀{a':Option aJ}{W U:Nat}{r:List (List Bool)}{E:jm}{K:au},Af h K T.kind one k2 km 9 (ae a' W U) (r.map sgV) (r.map (enc 1 0)) R J E Gs (R4 d f va Ga)->
    Im K (LG T.kind one k2 km (r.map (enc 1 0)) R E Gs (R4 d f va Ga)) k5 (Bs T a2 n2 c2 sg)->H7 K (LG T.kind one k2 km (r.map (enc 1 0)) R E Gs (R4 d f va Ga)) (ae a2 n2 c2) psT->I5 T one r (J.map (·.1))->r.length<=256->fT T l (s:Int)∈r->r[i]?=aa l->Fy T r one l (λc=>1<=c/\c<(s:Int)) o->W=r.length->
    vB (MG J+o.length) k2 K Q d km (enc 1 0 (fT T l (s:Int))) s one k1 k4 k5 i (SI2 h T one k2 km k5 a2 n2 c2 psT sg d i f l) (sg+1-(s:Int)).toNat a' W U:=by
   intro a' W U r E K S A B D hL C m F Z;unfold vB;rw[wt];obtain⟨j,j1,j2⟩:∃j,sX (enc 1 0 (fT T l (s:Int))) (r.map (enc 1 0)) 0=aa j/\r[j]?=aa (fT T l (s:Int)):=by
    cases I:sX (enc 1 0 (fT T l (s:Int))) (r.map (enc 1 0)) 0 with
    |none=>exact absurd ((xb (by decide)).2 C) (yC I)
    |some j=>exact⟨j,rfl,Aw (y:=1) (z:=0) (by decide) (yD I).2⟩
   have lk:=(S.look (enc 1 0 (fT T l (s:Int)))).2;rw[j1]at lk;obtain⟨a4,c4,e4⟩:=ra.tB;subst e4;have l4:aS aq 42 K (df d (0+1))=aa (ae a4 (o.map iU).length c4):=ej O5 WI (S.o.get 4 rfl) (by simp);refine az (λq=>absurd (dT q) (by omega)) (λ_=>⟨_,fG _ _,_,_,_,l4,_,lk,_,adi _ _ _,_,_,_,aea _,?_⟩);obtain⟨S,V⟩:=S.grow ((Ok.refl S.o.ok.wf).push (.cells (iU ⟨(s:Int),(s:Int),one,((j:Nat):Int)⟩) 46 4 af));obtain⟨b',n3,U,u,H,u2,u3,y1,x9,S,X⟩:=S.afr w ra (by omega) (cT _ _);have cc:=V.trans X;rw[ws];refine⟨_,_,_,_,H,_,fG _ _,_,u3,ow (sg+1-((s+1:Nat):Int)).toNat (by omega) ⟨r,R,J,E,Gs,_,y1,_,S,cc _ _ A,B.oJ cc,D,O,m,x9,F.add hP (λc hc=>hc.2) x7 (by omega) (by omega) j2,by rw[bF];rfl,P,by omega,by omega,rfl⟩⟩
  refine⟨_,_,lk.1,az (λY=>?_) (λY=>?_)⟩
  ·have e0:sX (enc 1 0 (fT T l (s:Int))) (L.map (enc 1 0)) 0=none:=by
    cases I:sX (enc 1 0 (fT T l (s:Int))) (L.map (enc 1 0)) 0 with
    |none=>rfl
    |some j=>rw[I]at Y;cases Y
   have x2:=yC e0;have x3:fT T l (s:Int)∉L:=λhh=>x2 ((xb (by decide)).2 hh);obtain⟨u,H,S,V⟩:=S.afs w x2;rw[aH,<-Z]at H;refine⟨_,H,_,_,_,afN _,?_⟩;obtain⟨S,X⟩:=S.grow ((Ok.refl S.o.ok.wf).push (.cells [strOf (enc 1 0 (fT T l (s:Int)))] 9 1 af));obtain⟨b',W,U,v,v1,v2,E,S,cC⟩:=S.aaN q84 acB Vh Q7 ah9 w (x:=strOf (enc 1 0 (fT T l (s:Int)))) rfl (cT _ _) (by rw[aH];omega);refine⟨_,_,_,_,v1,?_⟩;have cc:=(V.trans X).trans cC;have A:=cc _ _ A;have B:=B.oJ cc;have D:=D.add x3 x8;have hL:=D.Wp x4;have C:fT T l (s:Int)∈L++[fT T l (s:Int)]:=by simp
   have m:(L++[fT T l (s:Int)])[i]?=aa l:=C8 m _;have F:=F.mono [fT T l (s:Int)];rw[show L.map (enc 1 0)++[enc 1 0 (fT T l (s:Int))]=(L++[fT T l (s:Int)]).map (enc 1 0) by simp]at S A B;rw[show L.map sgV++[strOf (enc 1 0 (fT T l (s:Int)))]=(L++[fT T l (s:Int)]).map sgV by simp]at S;have Z:=Rp S;clear H v1 V X cC cc lk x2 x3 e0;generalize v.app _=K at*;generalize L++[fT T l (s:Int)]=r at*;exact az (λq=>absurd (dT q) (by omega)) (λ_=>N S A B D hL C m F Z)
  ·have C:fT T l (s:Int)∈L:=by
    cases I:sX (enc 1 0 (fT T l (s:Int))) (L.map (enc 1 0)) 0 with
    |none=>rw[I]at Y;simp at Y
    |some j=>exact aM (Aw (y:=1) (z:=0) (by decide) (yD I).2)
   exact az (λq=>absurd (dT q) (by omega)) (λ_=>N S A B D hL C m F Z)
 ·have q:=dF q;have l3:aS aq 22 g (df k2 3)=aa R:=by
   obtain⟨_,_,e⟩:=S.rs.tB;rw[ej zp EO (S.o.get 0 rfl) (by simp)];rfl
  obtain⟨a3,c3,e3⟩:=S.rs.tB;obtain⟨a4,c4,e4⟩:=ra.tB;subst e3;subst e4;have l4:aS aq 44 g (pA d)=aa (al ⟨[strOf f,ae a4 (o.map iU).length c4]⟩):=jr ac3 aaP Ko (S.o.get 4 rfl) (by simp);have wi:ai ak ((i:Int)+1)=((i+1:Nat):Int):=cH (n:=257) (by omega) (by omega);have st:=F.st (f:=f) (λc h1 h2=>⟨h1,by
   obtain⟨_,p,x,_,h3,h4,_⟩:=h2;have:=y5.2.2 p x h3;omega⟩) f0 f1
  refine⟨_,dC _,_,_,_,l3,_,l4,_,_,_,afM _ _ _ _,?_⟩;obtain⟨S,V⟩:=S.grow ((Ok.refl S.o.ok.wf).push (.cells [strOf f,ae a4 (o.map iU).length c4] 44 2 af));obtain⟨b',W,U,u,H,u2,u3,y8,S,X⟩:=S.close w ra (by omega) (cT _ _);have cc:=V.trans X;refine⟨_,_,_,_,H,_,dC _,_,u3,?_⟩;rw[wi,y3];refine ow (257-(i+1)) (by omega) ⟨L,_,_,_,_,S,cc _ _ A,B.oJ cc,?_,by simp[O],by rw[Tj],λp hp=>?_,rfl⟩
  ·rw[bK];exact D.done (by rw[aH,O];exact m) st
  ·rcases bG.1 hp with hp|hp
   ·exact P p hp
   ·rw[ba.1 hp];exact y4
end
end
section
section
variable {h:au} {T:cm} {one:List UInt8} {k2 km k5:Nat} {a2:Option aJ} {n2 c2:Nat} {psT:List (il×ag)} {sg:Int}
theorem ZE(w:Wf h)(O:dO T=af)(y:T.aI.length<=8)(V:Tq T 30)(R:∀s∈T.aI,s.bB.length<=2000)(z:psT.map (·.1)=T.aI)(H:0<=sg/\sg<=500/\∀p,∀a∈dp T p,a.i<=sg)(ho:one≠[])(I:List ag){k1 k4:Nat}{Q:VH}(hQ:sgR h T one Q){mz:Nat}{a:Option aJ}{n c t i:Nat}{g:au}(o:SI1 h T one k2 km k5 a2 n2 c2 psT sg mz a n c t i g):
  cw fo (pq 19455) (gL k1 k2 k4 k5 km one a n c t i) g (eu fo (pq 11263) Q):=by
 refine AG I k1 k2 k4 k5 km one (SI1 h T one k2 km k5 a2 n2 c2 psT sg) Q (λmz a n c t i=>?_) mz o;clear o;intro zz g o;obtain⟨L,N,d,Y,X,S,j,m,A,G,rfl,C,rfl⟩:=o;have hn:=Rp S;have hL:=A.Wp y;refine az (λq=>?_) (λq=>?_)
 ·have q:=dT q;obtain⟨l,r⟩:∃l,L[i]?=aa l:=⟨_,gE (by omega)⟩
  have J:l.length=T.aI.length:=A.len l (aM r);obtain⟨S,c1⟩:=S.open_;obtain⟨S,U⟩:=S.grow ((Ok.refl S.o.ok.wf).room 6);have cc:=c1.trans U;have j:=cc _ _ j;have m:=m.oJ cc;have Z:=S.rl.rd S.o (i:=1) rfl;obtain⟨_,i1,P⟩:=Z.at_ q84 z9 RG WJ (k:= ak) (i:=(i:Int)) (by omega) (by rw[aH];omega);rw[bc,gD,getElem?_map,r]at P;have x:=m.st;rw[z]at x;refine⟨_,PO,_,Bs.all j.1,_,i1,_,P,(VJ S.o.ok.wf J (by omega) x).mono ?_⟩;rintro _ g2 ⟨b,rfl,D,M⟩;obtain⟨S,e⟩:=S.grow D;have j:=e _ _ j;have m:=m.oJ e;have W:Fy T L one l (λc=>1<=c/\c<((1:Nat):Int)) []:=Fy.nil λc hc=>by omega
  refine⟨_,rfl,az (λE=>?_) (λE=>?_)⟩
  ·obtain⟨u,u1,S,F⟩:=S.VP w one;refine⟨_,pb _ _,_,u1,?_⟩;exact O4 w O y V R z H I (.inl rfl) ⟨λ_=>M.1 E,λ_=>rfl⟩ (by omega) rfl (mz:=(sg+1-((1:Nat):Int)).toNat) ⟨L,N,d,Y,X,_,_,[],S,F _ _ j,m.oJ F,A,G,r,gQ.nil ..,W,by simp,C,by omega,by omega,rfl⟩
  ·exact O4 w O y V R z H I (.inr rfl) ⟨λh=>absurd h.symm ho,λh=>by rw[M.2 h]at E;cases E⟩ (by omega) rfl (mz:=(sg+1-((1:Nat):Int)).toNat) ⟨L,N,d,Y,X,_,_,[],S,j,m,A,G,r,gQ.nil ..,W,by simp,C,by omega,by omega,rfl⟩
 ·have q:=dF q;obtain⟨f,e,e3⟩:=S.rs.tB;subst e3;have hN:(d.map rG).length=d.length:=aH ..;have ld:aS aq 24 g (pA k2)=aa (al ⟨cU ⟨T.kind,0,one,d.map (·.1)⟩ f (d.map rG).length e⟩):=jr tG tE js (S.o.get 0 rfl) (by simp);obtain⟨D,F⟩:=S.o.E8 w 0 (k:=k2) (B:=B2 T.kind one (ae f (d.map rG).length e)) rfl (B2 T.kind one (ae f (d.map rG).length e));have st:bh aq 24 (pA k2) (al ⟨cU ⟨T.kind,0,one,d.map (·.1)⟩ f (d.map rG).length e⟩) g=aa (undef,.set k2 (B2 T.kind one (ae f (d.map rG).length e))):=ib js rfl (S.o.get 0 rfl) rfl (by cases f<;>rfl);refine⟨_,ld,_,st,?_⟩;refine uB (v:= al ⟨cU ⟨T.kind,0,one,d.map (·.1)⟩ f (d.map rG).length e⟩) (jr tG tE js (D.get 0 (B:=B2 T.kind one (ae f (d.map rG).length e)) rfl) (by simp)) ?_;refine hQ ⟨T.kind,0,one,d.map (·.1)⟩ f _ e L _ (A.sub (by rw[aH];omega)) (λs hs=>?_) D.ok ?_
  ·obtain⟨p,K,rfl⟩:=cI.1 hs;exact C p K
  ·refine⟨d,rfl,S.rs.rd D (i:=3) rfl,λp K=>((S.fr p K).oJ F).rd,S.rs.dead⟩
end
end
section
theorem V7{M:cm}(c:dO M=af)(h:Small M):dO (jt M).1=af/\(jt M).1.kind=M.kind/\mo (jt M).1.aI<=mo M.aI/\∀x,Tp (jt M).1 x↔Tp M x:=by
 obtain⟨_,_,_,g,_⟩:=HI c h;have d:∀x,Tp (jt M).1 x↔Tp M x:=λx=>⟨λ⟨l,y,a⟩=>let⟨l',b⟩:=g.fw l x y a;⟨l',y,b⟩,λ⟨l,y,a⟩=>let⟨l',b⟩:=g.bk l x y a;⟨l',y,b⟩⟩
 have i:=jG c;by_cases e:lX M M.start.toNat
 ·rw[HH c e]at d⊢;exact⟨VC c (sh M) ((Ch i).2 e),rfl,Mf (sh M),d⟩
 ·rw[AZ c e]at d⊢;have f:=(jA c).1;unfold xl at d⊢;rw[iP f]at d⊢;refine⟨DW f ⟨by simp,by simp⟩ ⟨by simp,by simp⟩ (Lz f) ?_,rfl,ck _,d⟩;simp[py]
theorem Kl(S:List il):(S.flatMap λs=>s.bB).length=mo S:=by simp[mo,List.length_flatMap]
def sgN(M N:cm):Prop:=∃T L,dO T=af/\T.kind=M.kind/\T.aI.length<=8/\mo T.aI<=30/\(∀x,Tp T x↔Tp M x)/\sP T N L (jz M.kind)/\∀s∈N.aI,s.bB.length<=30
def sgQ(h:au)(M:cm):VH:=λv g=>∃(N:cm)(a:Option aJ)(n c:Nat)(e:Int),v=av ⟨[al ⟨cU N a n c⟩,aE e]⟩/\Ok h g/\eY g (ae a n c) N.aI/\
 ((dO M=aj/\e=1/\N=jV)\/(dO M=af/\EM M=aj/\e=6/\N=jV)\/(dO M=af/\EM M=af/\e=0/\sgN M N))
theorem yq(g:au):eY g nA jV.aI:=(nI.nil g g).st
theorem CZ{h:au}(w:Wf h)(o:Ok h g){k:Nat}{cs:List ag}(d:cs.length=4)(b:g.get k=aa (.cells cs 24 0 af))(c:h.aD<=k){e:Int}{Q:VH}(j:∀a,Ok h a->Q (av ⟨[al ⟨cU jV none 0 0⟩,aE e]⟩) a):
  ∃u:ek,bh aq 24 (pA k) (al ⟨cU jV none 0 0⟩) g=aa (undef,u)/\jq SS [(pA k,aa 24),(aE e,none)] (u.app g) Q:=by
 refine⟨_,ib (t:=24) js d b (cs:=cU jV none 0 0) rfl rfl,?_⟩;obtain⟨f,i⟩:=qq (cs:=cU jV none 0 0) w o b c;exact uB (v:= al ⟨cU jV none 0 0⟩) (jr tG tE js i (by simp[cU])) (j _ f)
def B82:eA:= .cells [aE 0,aE 0,strOf [],nA,aE 0] 82 0 af
theorem aht:cP aq 82=aa (B82,m4):=by kernel_rfl
theorem afK(k s:Int)(l:List UInt8)(a:Option aJ)(n c:Nat)(b:Int):cJ aq 82 [(0,al ⟨[aE k,aE s,strOf l,ae a n c]⟩),(1,aE b)]=aa (al ⟨[aE k,aE s,strOf l,ae a n c,aE b]⟩):=by cases a<;>kernel_rfl
theorem Xa(k:Int)(l:List UInt8):cJ aq 24 [(0,aE k),(2,strOf l)]=aa (al ⟨[aE k,aE 0,strOf l,nA]⟩):=by kernel_rfl
section
variable {h:au} {M:cm} {a:Option aJ} {n c:Nat}
theorem QV(tb:za h)(w:Wf h)(V:Small M)(hM:M.aI.length<=8)(hA:mo M.aI<=30)(r:eY h (ae a n c) M.aI):aX 19 [al ⟨cU M a n c⟩] h (sgQ h M):=by
 obtain⟨G,X⟩:=jZ w r;refine QU (cU M a n c) h _ ⟨_,kW M a n c,_,FQ,?_⟩;have q0:=(OL.nil X).push qc;have y5:=tb.ok X;have z4:h.aD<(h.push (Bm M a n c)).aD:=ff _;generalize h.push (Bm M a n c)=A at*;obtain⟨q1,c1⟩:=q0;change OL h (A.push qc) [[(A.aD,qc)]]at q1;have e1:=(Ok.refl X.wf).push qc;have G:=G.ok e1;have z2:A.aD<(A.push qc).aD:=ff _;have z6:h.aD<=A.aD:=X.nx;have z3:h.aD≠A.aD:=by omega
 have J:Im (A.push qc) [[(A.aD,qc)]] h.aD (Bm M a n c):=⟨G.box,λhh=>by simp[keys]at hh;omega⟩
 have O:=G.row;have x3:=y5.ok e1;generalize A.push qc=g2 at*;generalize A.aD=z at*;generalize z5:h.aD=k1 at*;refine⟨_,G.all,(N5 x3 q1.ok.wf V G.row).mono ?_⟩;rintro _ e ⟨d,f,u,z7,rfl,K,om,e3⟩;have x7:=x3.ok e3;obtain⟨I,y1⟩:=q1.grow e3;have J:=y1 _ _ J;have b:=om.im I (λk hk=>by simp[keys]at hk;omega);have O:=O.ok e3;refine⟨_,_,rfl,_,FQ,?_⟩;have e4:=(Ok.refl I.ok.wf).push qc;have b4:=cT e qc;have s4:bh aq 24 (pA e.aD) (al ⟨cU (jt M).1 d f u⟩) (e.push qc)=aa (undef,.set e.aD (Bm (jt M).1 d f u)):=ib js rfl b4 rfl (by simp[cU,eZ,strOf]);refine⟨_,s4,?_⟩;have Y:Ok e ((ek.set e.aD (Bm (jt M).1 d f u)).app (e.push qc)):=e4.set _ (aT _) (ff _) I.ok.wf;have b5:((ek.set e.aD (Bm (jt M).1 d f u)).app (e.push qc)).get e.aD=aa (Bm (jt M).1 d f u):=by
  show((e.push qc).set _ _).get _=_;rw[au.cE,iP rfl]
 have C:=I.new (aT e.aD) b5;obtain⟨U,c3⟩:=I.grow Y;have J:=c3 _ _ J;have b:=b.oJ c3;have O:=O.ok Y;have x5:=x7.ok Y;clear s4 e4 b4 Y b5 om;generalize (ek.set e.aD (Bm (jt M).1 d f u)).app (e.push qc)=g4 at*;generalize e.aD=P at*
 cases E:dO M with
 |false=>
  rw[DQ E];refine az (λ_=>⟨_,Ak,CZ w U.ok rfl (U.get 0 rfl) (by omega) λg' o'=>⟨jV,none,0,0,1,rfl,o',yq _,.inl ⟨E,rfl,rfl⟩⟩⟩) (λq=>by cases q)
 |true=>
 obtain⟨t1,t2,t3,t4,t5⟩:=HI E V;obtain⟨v1,v2,v3,v4⟩:=V7 E V;have z0:=(jA E).1;rw[t1];generalize (jt M).1=T at*;refine az (λq=>by cases q) (λ_=>⟨_,jr tG tE js J.1 (by simp[cU]),(ab3 x5 U.ok.wf V O).mono ?_⟩);rintro _ v ⟨rfl,e6⟩;obtain⟨D,c4⟩:=U.grow e6;have C:=c4 _ _ C;have b:=b.oJ c4;have y2:=x5.ok e6;refine⟨_,rfl,az (λq=>?_) (λq=>?_)⟩
 ·exact⟨_,Ak,CZ w D.ok rfl (D.get 0 rfl) (by omega) λg' o'=>⟨jV,none,0,0,6,rfl,o',yq _,.inr (.inl ⟨E,by simpa using q,rfl,rfl⟩)⟩⟩
 have x6:EM M=af:=by simpa using q
 have e7:=(Ok.refl D.ok.wf).room 6;obtain⟨q5,c5⟩:=D.grow e7;have R:=c5 _ _ C;have Z:=b.oJ c5;have F:=Z.st;rw[K]at F;have l4:aS aq 24 (room v 6) (pA P)=aa (al ⟨cU T d f u⟩):=jr tG tE js R.1 (by simp[cU]);refine⟨_,l4,_,l4,(Uu (y2.ok e7) q5.ok.wf t3 F).mono ?_⟩;rintro _ W ⟨rfl,e8⟩;obtain⟨q6,c6⟩:=q5.grow e8;have x0:=c6 _ _ R;refine⟨_,rfl,_,afK _ _ _ _ _ _ _,_,aht,?_⟩;obtain⟨x1,x2⟩:=Mo D.ok.wf (n:=6) (j:=4) (by omega) e8 B82;have s5:bh aq 82 (pA (v.aD+4)) (al ⟨tx T d f u (pf T)⟩) (cr W v.aD [(4,B82)])=aa (undef,.set (v.aD+4) (Bs T d f u (pf T))):=ib adO rfl x2 rfl (by cases d<;>rfl);refine⟨_,s5,⟨jr tG tE js x0.1 (by simp[cU]),CV F⟩,?_⟩;have e9:Ok v ((ek.set (v.aD+4) (Bs T d f u (pf T))).app (cr W v.aD [(4,B82)])):=x1.set _ (du _ _) (x1.wf _ _ x2) D.ok.wf;have b9:((ek.set (v.aD+4) (Bs T d f u (pf T))).app (cr W v.aD [(4,B82)])).get (v.aD+4)=aa (Bs T d f u (pf T)):=by
  show(au.set _ _ _).get _=_;rw[au.cE,iP rfl]
 have y:=D.new (du _ _) b9;obtain⟨q7,c7⟩:=D.grow e9;have C:=c7 _ _ C;have b:=b.oJ c7;clear s5 x1 x2 e9 b9 l4 x0 R Z F q5 q6 c5 c6 e7 e8;generalize (ek.set (v.aD+4) (Bs T d f u (pf T))).app (cr W v.aD [(4,B82)])=g7 at*;generalize v.aD+4=k5 at*;have l0:∀{g:au}{L:List jm},Im g L P (Bm T d f u)->aS aq 3 g (pA P)=aa (aE T.kind):=λm=>ej zs zb m.1 (by simp[cU]);refine⟨_,kZ _,_,l0 C,(Mk T.kind q7.ok.wf).mono ?_⟩;rintro _ H ⟨rfl,x8⟩;obtain⟨q8,c8⟩:=q7.grow x8;have C:=c8 _ _ C;have y:=c8 _ _ y;have b:=b.oJ c8;obtain⟨q9,c9⟩:=q8.E8 w 0 (k:=z) (B:=qc) rfl (B2 T.kind (jz T.kind) nA);have s6:bh aq 24 (pA z) (al ⟨[aE T.kind,aE 0,strOf (jz T.kind),nA]⟩) H=aa (undef,.set z (B2 T.kind (jz T.kind) nA)):=ib js rfl (q8.get 0 rfl) rfl rfl;refine⟨_,rfl,_,kZ _,_,l0 C,_,Xa _ _,_,s6,?_⟩;have y:=c9 _ _ y;have b:=b.oJ c9;change OL h ((ek.set z (B2 T.kind (jz T.kind) nA)).app H) [[(z,B2 T.kind (jz T.kind) nA)]]at q9;change Im ((ek.set z (B2 T.kind (jz T.kind) nA)).app H) [[(z,B2 T.kind (jz T.kind) nA)]] k5 _ at y;change H7 ((ek.set z (B2 T.kind (jz T.kind) nA)).app H) [[(z,B2 T.kind (jz T.kind) nA)]] _ _ at b;clear s6 c9;generalize (ek.set z (B2 T.kind (jz T.kind) nA)).app H=g9 at*;have F:=b.st;rw[K]at F;have zT:∀s∈T.aI,s.bB.length<=2000:=t3.bB;refine⟨_,Bs.all y.1,(VL q9.ok.wf t2 (by omega) zT F).mono ?_⟩;rintro _ S ⟨rfl,z1⟩;obtain⟨y0,x4⟩:=q9.grow z1;have y:=x4 _ _ y;have b:=b.oJ x4;obtain⟨y8,y7⟩:=y0.push (.cells [sgV (mL T)] 9 1 af);refine⟨_,rfl,_,_,_,afN _,_,agu,?_⟩;obtain⟨Q,y9⟩:=y8.push (.map []);have hl:∀g:au,(∃L,OL h g L/\L[1]?=aa [(S.aD,.cells [sgV (mL T)] 9 1 af)])->aS aq 9 g (pA S.aD)=aa (sgV (mL T)):=λg ⟨L,o,hL⟩=>ej RG WJ (o.get 1 hL) (by simp);refine⟨_,abJ q84 z9 (i:=0) (by decide),_,hl _ ⟨_,Q,rfl⟩,?_⟩;obtain⟨y3,y4⟩:=Q.E8 w 2 (k:=(S.push (.cells [sgV (mL T)] 9 1 af)).aD) (B:= .map []) rfl (.map (tF [enc 1 0 (mL T)] 0));have s7:=aar (l:=[]) (Q.get 2 rfl) (x:=enc 1 0 (mL T)) (by simp);refine⟨_,s7,?_⟩;obtain⟨x9,y6⟩:=y3.none;have cc:=((y7.trans y9).trans y4).trans y6;have y:=cc _ _ y;have b:=b.oJ cc;have sr:=VQ v1;refine ZE (h:=h) (T:=T) (one:=jz T.kind) (sg:=pf T) w v1 (by omega) (af7 (by rw[Kl];omega)) zT K sr (QS (by rw[v2];exact z0)) (cU M a n c) (k1:=k1) (k4:=P) (λN a n c L g h1 h2 h3 h4=>?_) (mz:=257) (t:=0) (i:=0) ⟨[mL T],_,[],_,_,⟨x9,?_,gQ.nil ..,λp hp=>(by cases hp)⟩,y,b,I5.new T _,rfl,rfl,λp hp=>(by cases hp),rfl⟩
 ·exact⟨N,a,n,c,0,rfl,h3,h4,.inr (.inr ⟨E,x6,rfl,T,L,v1,v2,by omega,by omega,v4,by rw[<-v2];exact h1,h2⟩)⟩
 ·exact gQ.made (rs:=[[sgV (mL T)]]) (by simp) (show 1<fg by decide +kernel)
end
end
noncomputable def fs:FD:=gU Tryz.f20 [((pq 9727),[1,2,4,5,6,7,8,9,10]),((pq 4924927),[1,2,4,5,6,7,8,9,10,11,12])]
abbrev gM(j g f h:Nat)(e:LB)(b:OA)(m d:Nat)(a:OA)(n c t i:Nat):LV:=[(pA j),(pA g),(strOf e),(ae b m d),(ae a n c),(.map (aa h)),(pA f),(iA t),(iA i)]
abbrev jl(l h g k:Nat)(f:LB)(b:OA)(m d e i:Nat)(a:OA)(n c t j:Nat):LV:=[(pA l),(pA h),(strOf f),(ae b m d),(ae a n c),(.map (aa k)),(pA g),(iA t),(iA i),(pA e),(iA j)]
abbrev vD(J G F I:Nat)(h:LB)(b:OA)(m d f i:Nat)(D:Nat->OA->Nat->Nat->Nat->Nat->au->Prop)(H t j:Nat)(K:Int)(a:OA)(n c:Nat)(e:au):Prop:=xP (aY aq 44 (pA f) 1) λE=>xL (aS aq 42 (room e 17) (bw E)) λp v A=>xP (aW aq 27 (ae b m d) (iA j)) λo=>xI ak (aS aq 3 (room e 17) (bw o)) λq=>xP (aW aq 27 (ae b m d) (iA j)) λr=>xI ak (aS aq 3 (room e 17) (bw r)) λw=>xA (cJ aq 46 [(0,(aE q)),(1,(aE w)),(2,(strOf h)),(3,(aE K))]) λs=>zR (bS aq 42 1 [(0,(al ⟨s⟩))]) λk z C=>xE (cG aq 42 42 (ae p v A) (sA (e.aD+13) z C) (cr (room e 17) e.aD [(13,k)])) (cr (room e 17) e.aD [(13,k)]) λl y u M g=>xP (aY aq 44 (pA f) 1) λB=>xU (bh aq 42 (bw B) (ae l y u) g) g λL x=>ct (DZ (jl J G F I h b m d f i) D) H [(pA J),(pA G),(strOf h),(ae b m d),(ae a n c),(.map (aa I)),(pA F),(aE (ai ak ((t:Int)+1))),(iA i),(pA f),(aE (ai ak ((j:Int)+1)))] x
theorem Q0(q:LV)(h:au)(Q:VH)(Z:xN (jY aq 24 (al ⟨q⟩)) h λB1 d=>xN (cP aq 24) d λB3 u=>xA (aS aq 24 u (pA (h.aD))) λc5=>aX 58 [(al ⟨c5⟩)] u λW g=>yB W λY=>cq (!Y) (xA (cJ aq 24 []) λX=>xU (bh aq 24 (pA (d.aD)) (al ⟨X⟩) g) g λx3 J=>jq SS [((pA (d.aD)),aa 24),((aE 1),none)] J Q) (xA (aS aq 24 g (pA (h.aD))) λR=>aX 59 [(al ⟨R⟩)] g λN c=>yB N λy=>cq (!y) (xA (cJ aq 24 []) λE=>xU (bh aq 24 (pA (d.aD)) (al ⟨E⟩) c) c λx2 x=>jq SS [((pA (d.aD)),aa 24),((aE 6),none)] x Q) (xP (aY aq 24 (pA (h.aD)) 0) λz=>xI ak (aS aq 3 c (bw z)) λP=>aX 60 [(aE P)] c λA n=>yS A λi=>xA (aS aq 24 n (pA (h.aD))) λO=>aX 61 [(al ⟨O⟩)] n λF p=>yL F λS L M=>xA (aS aq 24 p (pA (h.aD))) λC=>aX 62 [(al ⟨C⟩)] p λT f=>yL T λB s w=>xR (bS aq 91 1 [(0,(ae B s w))]) f λx0 l j a=>∃e:eA,pS aq 85=aa (e,λk=> .map (aa k))/\xP (aW aq 91 (sA (f.aD) l j) (aE 0)) λK=>xL (aS aq 68 (a.push e) (bw K)) λG U D=>aX 63 [(ae G U D)] (a.push e) λv m=>yS v λt=>xU (iJ aq 85 (.map (aa a.aD)) (strOf t) (aE 0) m) m λx1 b=>xP (aY aq 24 (pA (h.aD)) 0) λr=>xI ak (aS aq 3 b (bw r)) λH=>xA (cJ aq 24 [(0,(aE H)),(2,(strOf i))]) λI=>xN (cP aq 24) b λx5 o=>xU (bh aq 24 (pA (b.aD)) (al ⟨I⟩) o) o λx4 V=>cw fs (pq 9727) (gM (h.aD) (d.aD) (b.aD) (a.aD) i S L M (aa ⟨f.aD,0,none⟩) l j 0 0) V (eu fs (pq 5631) Q)))):aX 20 [(al ⟨q⟩)] h Q:=hH fs Tryz.func20 (bD Z)
theorem AN(K:LV)(k g j l:Nat)(e:LB)(b:OA)(m d:Nat)(f:Nat->OA->Nat->Nat->Nat->Nat->au->Prop)(Q:VH)(step:∀(mz:Nat) (a:OA) (n c t i:Nat) (B:Nat->ag) (h:au),f mz a n c t i h->cq (decide (((i:Int):Int)<(n:Int))) (xA (cJ aq 44 []) λw=>xN (cP aq 44) h λH q=>xU (bh aq 44 (pA (h.aD)) (al ⟨w⟩) q) q λG o=>xA (aS aq 24 (room o 6) (pA k)) λu=>xP (aW aq 91 (ae a n c) (iA i)) λC=>xL (aS aq 68 (room o 6) (bw C)) λD x E=>aX 64 [(al ⟨u⟩),(ae D x E)] (room o 6) λv p=>yB v λz=>cq z (xP (aY aq 44 (pA (h.aD)) 0) λA=>xU (bh aq 9 (bw A) (strOf e) p) p λJ F=>cw fs (pq 4924927) (jl k g j l e b m d (h.aD) i a n c t 0) F (fQ fs (pq 345) (pq 9727) (RR fs (pq 9727) (DZ (gM k g j l e b m d) f) mz (eu fs (pq 5631) Q)))) (cw fs (pq 4924927) (jl k g j l e b m d (h.aD) i a n c t 0) p (fQ fs (pq 345) (pq 9727) (RR fs (pq 9727) (DZ (gM k g j l e b m d) f) mz (eu fs (pq 5631) Q))))) (xA (aS aq 24 h (pA j)) λy=>xU (bh aq 24 (pA g) (al ⟨y⟩) h) h λI s=>jq SS [((pA g),aa 24),((aE 0),none)] s Q))(mz:Nat){a:OA}{n c t i:Nat}{h:au}(r:f mz a n c t i h):cw fs (pq 9727) (gM k g j l e b m d a n c t i) h (eu fs (pq 5631) Q):=
 zO (gM k g j l e b m d) f (λmz a n c t i B h r=>bD (step mz a n c t i B h r)) mz r
theorem AO(mv:LV)(r g o p:Nat)(f:LB)(b:OA)(m d:Nat)(l:Nat)(B:Nat->OA->Nat->Nat->Nat->Nat->au->Prop)(mz i:Nat)(k:Nat->OA->Nat->Nat->Nat->Nat->au->Prop)(Q:VH)(step:∀(e:Nat) (a:OA) (n c t j:Nat) (zz:Nat->ag) (h:au),k e a n c t j h->cq (decide (((j:Int):Int)<(m:Int))) (xA (aS aq 24 (room h 15) (pA r)) λy2=>xP (aW aq 91 (ae a n c) (iA i)) λx7=>xL (aS aq 68 (room h 15) (bw x7)) λx8 y4 y5=>xP (aW aq 27 (ae b m d) (iA j)) λx6=>xI ak (aS aq 3 (room h 15) (bw x6)) λy1=>aX 65 [(al ⟨y2⟩),(ae x8 y4 y5),(aE y1)] (room h 15) λy0 G=>∃(u:OA) (s v:Nat),∃E:Bool,y0=(av ⟨[(ae u s v),(ah E)]⟩)/\cq (!E) (ct (DZ (jl r g o p f b m d l i) k) e [(pA r),(pA g),(strOf f),(ae b m d),(ae a n c),(.map (aa p)),(pA o),(iA t),(iA i),(pA l),(aE (ai ak ((j:Int)+1)))] G) (aX 63 [(ae u s v)] G λx9 x=>yS x9 λx4=>∃F:Int,∃C:Bool,(qf aq 85 (.map (aa p)) (strOf x4) af x)=aa (av ⟨[(aE F),(ah C)]⟩)/\cq (!C) (aX 63 [(ae u s v)] x λy3 A=>yS y3 λx5=>xU (iJ aq 85 (.map (aa p)) (strOf x5) (iA n) A) A λz2 D=>xR (bS aq 91 1 [(0,(ae u s v))]) D λz3 H O y=>xE (cG aq 91 91 (ae a n c) (sA (D.aD) H O) y) y λx2 K M y7 X=>vD r g o p f b m d l i k e t j (n:Int) x2 K M X) (vD r g o p f b m d l i k e t j F a n c x))) (xP (aY aq 24 (pA o) 3) λR=>xL (aS aq 22 h (bw R)) λT x0 J=>xA (aS aq 44 h (pA l)) λx3=>xR (bS aq 22 1 [(0,(al ⟨x3⟩))]) h λy8 L Z z=>xE (cG aq 22 22 (ae T x0 J) (sA (h.aD) L Z) z) z λU x1 Y z0 w=>xP (aY aq 24 (pA o) 3) λN=>xU (bh aq 22 (bw N) (ae U x1 Y) w) w λy9 q=>cq (decide (((n:Int):Int)>3000)) (xA (cJ aq 24 []) λS=>xU (bh aq 24 (pA g) (al ⟨S⟩) q) q λy6 V=>jq SS [((pA g),aa 24),((aE 2),none)] V Q) (cq (decide (((t:Int):Int)>30000)) (xA (cJ aq 24 []) λP=>xU (bh aq 24 (pA g) (al ⟨P⟩) q) q λz1 I=>jq SS [((pA g),aa 24),((aE 2),none)] I Q) (ct (DZ (gM r g o p f b m d) B) mz [(pA r),(pA g),(strOf f),(ae b m d),(ae a n c),(.map (aa p)),(pA o),(iA t),(aE (ai ak ((i:Int)+1)))] q))))(e:Nat){a:OA}{n c t j:Nat}{h:au}(W:k e a n c t j h):cw fs (pq 4924927) (jl r g o p f b m d l i a n c t j) h (fQ fs (pq 345) (pq 9727) (RR fs (pq 9727) (DZ (gM r g o p f b m d) B) mz (eu fs (pq 5631) Q))):=
 zO (jl r g o p f b m d l i) k (λe a n c t j zz h W=>bD (step e a n c t j zz h W)) e W
variable{d:List ag}{c:List ag}
section
theorem q91:aq.underlying 91=aa (.slice 68):=by kernel_rfl
theorem z68:bZ aq 68=aa 1:=by kernel_rfl
noncomputable def acA:TypeInfo:=(fI aq 68).getD default
theorem LQ:fI aq 68=aa acA:=by kernel_rfl
theorem DH:acA.size=1:=by kernel_rfl
theorem Hr:acA.bytes<=100:=by decide +kernel
theorem afc:eI aq 91=af:=by kernel_rfl
theorem TN(a:Option aJ)(n c:Nat):bS aq 91 1 [(0,(ae a n c))]=aa (.cells [ae a n c] 68 1 af,qe 1 1):=by cases a<;>kernel_rfl
theorem ad7:cJ aq 44 []=aa (al ⟨[strOf [],nA]⟩):=by kernel_rfl
theorem acS(M:cm)(k:Nat):(kH M k).Pairwise (· < ·):=by
 unfold kH;exact List.Pairwise.map _ (λa b h=>Int.ofNat_lt.2 h) (List.pairwise_lt_range.sublist List.filter_sublist)
def Wm(g:au)(b:List jm)(a:List ag)(L:List (List Bool)):Prop:=a.length=L.length/\∀(i:Nat)(x:ag)(l:List Bool),a[i]?=aa x->L[i]?=aa l->Kw g b 4 x (l.map ah)
theorem Wm.oJ{b:au}{e a:List jm}{L:List (List Bool)}(r:Wm g e d L)(c:pz g e b a):Wm b a d L:=⟨r.1,λi x l h f=>(r.2 i x l h f).oJ c⟩
theorem Wm.add{d:List jm}{L:List (List Bool)}(r:Wm g d c L){x:ag}{l:List Bool}(h:Kw g d 4 x (l.map ah)):Wm g d (c++[x]) (L++[l]):=by
 refine⟨by rw[bF,bF,r.1];rfl,λi y m b a=>?_⟩;have j:=r.1;by_cases e:i<L.length
 ·rw[getElem?_append_left (by omega)]at b;rw[getElem?_append_left e]at a;exact r.2 i y m b a
 ·rw[List.getElem?_append_right (by omega)]at b a;have f:=(List.getElem?_eq_some_iff.1 a).1;simp at f;rw[show i-L.length=0 by omega]at a;rw[show i-c.length=0 by omega]at b;obtain rfl:x=y:=by simpa using b
  obtain rfl:l=m:=by simpa using a
  exact h
theorem _root_.Go.Ab.Kw.tB{L:List jm}{e:aF}(r:Kw g L e v d):∃(a:Option aJ)(c:Nat),v=ae a d.length c:=by
 obtain⟨G,h,_⟩:=r;exact h.tB
section
variable {h:au} {T:cm} {one:List UInt8} {k8 km:Nat}
def SR1(h:au)(T:cm)(one:List UInt8)(k8 km:Nat)(mz:Nat)(a:Option aJ)(n c t i:Nat)(g:au):Prop:=
 ∃(L:List (List Bool))(e:List ag)(d:ag)(b:List (il×ag))(j f:jm),Af h g T.kind one k8 km 68 (ae a n c) e (L.map (enc 43 45)) d b j f []/\
  Wm g (LG T.kind one k8 km (L.map (enc 43 45)) d j f []) e L/\I5 T one L (b.map (·.1))/\b.length=i/\t=MG b/\(∀p∈b,p.1.bB.length<=30)/\mz=257-i
def SR2(h:au)(T:cm)(one:List UInt8)(k8 km e i:Nat)(f:List UInt8)(l:List Bool)(mz:Nat)(a:Option aJ)(n c t j:Nat)(g:au):Prop:=
 ∃(L:List (List Bool))(q:List ag)(o:ag)(d:List (il×ag))(s r:jm)(k:ag)(m:jm)(b:List eC),Af h g T.kind one k8 km 68 (ae a n c) q (L.map (enc 43 45)) o d s r (R4 e f k m)/\
  Wm g (LG T.kind one k8 km (L.map (enc 43 45)) o s r (R4 e f k m)) q L/\I5 T one L (d.map (·.1))/\d.length=i/\L[i]?=aa l/\
  gQ 46 4 k (b.map iU) m/\Fy T L one l (λc=>c∈(kH T 501).take j) b/\t=MG d+b.length/\(∀p∈d,p.1.bB.length<=30)/\j<=(kH T 501).length/\mz=(kH T 501).length-j
theorem OR(w:Wf h)(gd:Good T)(y7:T.aI.length<=8)(hK:Tq T 30)(zA:∀s∈T.aI,s.bB.length<=2000){a2:Option aJ}{n2 c2:Nat}(x4:eY h (ae a2 n2 c2) T.aI){k1:Nat}(bx:h.get k1=aa (Bm T a2 n2 c2)){b:Option aJ}{m d:Nat}(rs:Rd h 3 (ae b m d) ((kH T 501).map zV))(mv:List ag){k2 r i x2:Nat}{f:List UInt8}{l:List Bool}(f0:f=one\/f=[])(f1:f=one↔yY T l)(hi:i<=256){Q:VH}{mz:Nat}{a:Option aJ}{n c t j:Nat}{g:au}(y8:x2=257-i)(J:SR2 h T one k8 km r i f l mz a n c t j g):
  cw fs (pq 4924927) (jl k1 k2 k8 km one b m d r i a n c t j) g (fQ fs (pq 345) (pq 9727) (RR fs (pq 9727) (DZ (gM k1 k2 k8 km one b m d) (SR1 h T one k8 km)) x2 (eu fs (pq 5631) Q))):=by
 have hm:m=(kH T 501).length:=by have:=rs.len;rwa[aH]at this
 have z1:=CP T 501;refine AO mv k1 k2 k8 km one b m d r _ _ i (SR2 h T one k8 km r i f l) Q (λmz a n c t j=>?_) mz J;clear J;intro zz g J;obtain⟨L,xs,vs,G,Gl,Gs,va,Ga,o,S,e,E,N,A,ra,F,rfl,O,hj,rfl⟩:=J;have hn:n=L.length:=by
  obtain⟨a',I,e'⟩:=S.rl.tB;injection e' with _ e' _
  rw[e',e.1]
 have hL:=E.Wp y7;have y9:=F.Wp hK;have z0:=RE O;have V:l.length=T.aI.length:=E.len l (aM A);refine az (λq=>?_) (λq=>?_)
 ·have q:=dT q;obtain⟨s,Y⟩:∃s,(kH T 501)[j]?=aa s:=⟨_,gE (by omega)⟩
  obtain⟨y5,z2,z4⟩:=Cb.1 (aM Y);have ws:ai ak ((j:Int)+1)=((j+1:Nat):Int):=cH (n:=501) (by omega) (by omega);have wt:ai ak (((MG G+o.length:Nat):Int)+1)=((MG G+(o.length+1):Nat):Int):=by rw[cd (by omega) (by omega)];omega
  obtain⟨S,c1⟩:=S.grow ((Ok.refl S.o.ok.wf).room 15);have e:=e.oJ c1;generalize room g 15=g1 at*;obtain⟨x,D⟩:∃x,xs[i]?=aa x:=⟨_,gE (by rw[e.1];exact(List.getElem?_eq_some_iff.1 A).1)⟩
  have ix:=e.2 i x l D A;obtain⟨ax,cx,ex⟩:=ix.tB;rw[aH]at ex;subst ex;have x3:=S.rl.rd S.o (i:=1) rfl;obtain⟨_,i1,i2⟩:=x3.at_ q91 z68 zq Ik (k:= ak) (i:=(i:Int)) (by omega) (by have:=(List.getElem?_eq_some_iff.1 D).1;omega);rw[bc,gD,D]at i2;obtain⟨_,y1,U⟩:=zat (rs.ok S.o.ok) Y;refine⟨_,jr tG tE js (S.o.ok.ext _ _ bx) (by simp[cU]),_,i1,_,_,_,i2,_,y1,_,U,(Hh S.o.ok.wf gd V (by omega) zA (x4.ok S.o.ok) ix.rd s).mono ?_⟩;rintro _ g2 ⟨an,nn,cn,b2,rfl,nr,o2,hb⟩;have H:=nr.im S.o;obtain⟨S,x0⟩:=S.grow o2;have e:=e.oJ x0;clear o2 i1 i2 c1 x0 x3 y1 U ix nr;have tk:=(nz Y).2;have hP:∀c:Int,c∈(kH T 501).take (j+1)↔c∈(kH T 501).take j\/c=s:=λc=>by rw[tk];simp
  refine⟨_,_,_,_,rfl,az (λq2=>?_) (λq2=>?_)⟩
  ·have y4:¬wB T l s:=λhh=>by rw[hb.2 hh]at q2;cases q2
   rw[ws];exact ow ((kH T 501).length-(j+1)) (by omega) ⟨L,xs,vs,G,Gl,Gs,va,Ga,o,S,e,E,N,A,ra,F.skip hP y4,rfl,O,by omega,rfl⟩
  have x6:wB T l s:=hb.1 (by simpa using q2);have x9:(fT T l s).length=T.aI.length:=by rw[rq,V]
  refine(pX S.o.ok.wf (by omega) H.rd).mono ?_;rintro _ g3 ⟨rfl,o3⟩;obtain⟨S,c3⟩:=S.grow o3;have e:=e.oJ c3;have H:=H.oJ c3;clear o3 c3;have lk:=(S.look (enc 43 45 (fT T l s))).1;have M:∀{a':Option aJ}{Z I:Nat}{B:List (List Bool)}{K:List ag}{C:jm}{W:au}{jj:Nat},Af h W T.kind one k8 km 68 (ae a' Z I) K (B.map (enc 43 45)) vs G C Gs (R4 r f va Ga)->
    Wm W (LG T.kind one k8 km (B.map (enc 43 45)) vs C Gs (R4 r f va Ga)) K B->I5 T one B (G.map (·.1))->B[jj]?=aa (fT T l s)->B[i]?=aa l->Fy T B one l (λc=>c∈(kH T 501).take j) o->
    vD k1 k2 k8 km one b m d r i (SR2 h T one k8 km r i f l) ((kH T 501).length-j) (MG G+o.length) j (jj:Int) a' Z I W:=by
   intro a' Z I B K C W jj S e E y3 A F;unfold vD;rw[wt,ws];obtain⟨a4,c4,e4⟩:=ra.tB;subst e4;have x8:∀c∈(kH T 501).take j,c<s:=λc hc=>by
    have pw:=acS T 501;obtain⟨k,hk⟩:=getElem?_of_mem hc;have x7:=(List.getElem?_eq_some_iff.1 hk).1;rw[bq]at x7;rw[List.getElem?_take,iP (by omega)]at hk;obtain⟨p1,p2⟩:=List.getElem?_eq_some_iff.1 hk;obtain⟨p3,p4⟩:=List.getElem?_eq_some_iff.1 Y;have:=List.pairwise_iff_getElem.1 pw k j p1 p3 (by omega);rw[p2,p4]at this;exact this
   obtain⟨o1,b1⟩:=Fl S.o.ok.wf (n:=17) (j:=13) (by omega) (.cells (iU ⟨s,s,one,(jj:Int)⟩) 46 4 af);obtain⟨Sr,cR⟩:=S.grow ((Ok.refl S.o.ok.wf).room 17);have l4:aS aq 42 (room W 17) (df r (0+1))=aa (ae a4 (o.map iU).length c4):=ej O5 WI (Sr.o.get 4 rfl) (by simp);obtain⟨_,y1,U⟩:=zat (rs.ok Sr.o.ok) Y;refine⟨_,fG _ _,_,_,_,l4,_,y1,_,U,_,y1,_,U,_,adi _ _ _,_,_,_,aea _,?_⟩;obtain⟨S,X⟩:=S.grow o1;obtain⟨b',n3,I,u,P,u2,u3,y6,y0,S,cB⟩:=S.afr w ra (by omega) b1;have cc:=X.trans cB;exact⟨_,_,_,_,P,_,fG _ _,_,u3,ow ((kH T 501).length-(j+1)) (by omega) ⟨B,K,vs,G,C,Gs,_,y6,_,S,e.oJ cc,E,N,A,y0,F.add hP x8 x6 y5 (by omega) y3,by rw[bF];rfl,O,by omega,rfl⟩⟩
  refine⟨_,rfl,_,_,lk,az (λR=>?_) (λR=>?_)⟩
  ·have e0:sX (enc 43 45 (fT T l s)) (L.map (enc 43 45)) 0=none:=by
    cases D:sX (enc 43 45 (fT T l s)) (L.map (enc 43 45)) 0 with
    |none=>rfl
    |some j=>rw[D]at R;cases R
   have x1:=yC e0;have x5:fT T l s∉L:=λhh=>x1 ((xb (by decide)).2 hh);refine(pX S.o.ok.wf (by omega) H.rd).mono ?_;rintro _ g5 ⟨rfl,o5⟩;obtain⟨S,c5⟩:=S.grow o5;obtain⟨u,P,S,X⟩:=S.afs w x1;rw[aH,<-hn]at P;refine⟨_,rfl,_,P,_,_,_,TN _ _ _,?_⟩;obtain⟨S,cB⟩:=S.grow ((Ok.refl S.o.ok.wf).push (.cells [ae an nn cn] 68 1 af));obtain⟨b',Z,I,v,v1,v2,C,S,cC⟩:=S.aaN q91 LQ DH Hr afc w (x:= ae an nn cn) (fR ..) (cT _ _) (by rw[e.1];omega);refine⟨_,_,_,_,v1,?_⟩;have cc:=((c5.trans X).trans cB).trans cC;have e:=(e.oJ cc).add (H.oJ cc);rw[show L.map (enc 43 45)++[enc 43 45 (fT T l s)]=(L++[fT T l s]).map (enc 43 45) by simp]at S e;rw[hn];exact M S e (E.add x5 x9) (by simp) (C8 A _) (F.mono _)
  ·obtain⟨jj,j1,j2⟩:∃j,sX (enc 43 45 (fT T l s)) (L.map (enc 43 45)) 0=aa j/\L[j]?=aa (fT T l s):=by
    cases D:sX (enc 43 45 (fT T l s)) (L.map (enc 43 45)) 0 with
    |none=>rw[D]at R;simp at R
    |some j=>exact⟨j,rfl,Aw (y:=43) (z:=45) (by decide) (yD D).2⟩
   rw[j1];exact M S e E j2 A F
 ·have q:=dF q;obtain⟨a3,c3,e3⟩:=S.rs.tB;obtain⟨a4,c4,e4⟩:=ra.tB;subst e3;subst e4;have l3:aS aq 22 g (df k8 3)=aa (ae a3 (G.map rG).length c3):=ej zp EO (S.o.get 0 rfl) (by simp);have l4:aS aq 44 g (pA r)=aa (al ⟨[strOf f,ae a4 (o.map iU).length c4]⟩):=jr ac3 aaP Ko (S.o.get 4 rfl) (by simp);have wi:ai ak ((i:Int)+1)=((i+1:Nat):Int):=cH (n:=257) (by omega) (by omega);rw[bC (by omega)]at F;have st:=F.st (f:=f) (λc h1 h2=>Cb.2 ⟨h1,by
   obtain⟨_,p,x,_,h3,rfl,_⟩:=h2;have:=(lP gd h3).i1;omega,by
   obtain⟨_,p,x,_,h3,h4,_⟩:=h2;exact⟨p,x,h3,h4⟩⟩) f0 f1
  refine⟨_,dC _,_,_,_,l3,_,l4,_,_,_,afM _ _ _ _,?_⟩;obtain⟨S,X⟩:=S.grow ((Ok.refl S.o.ok.wf).push (.cells [strOf f,ae a4 (o.map iU).length c4] 44 2 af));obtain⟨b',Z,I,u,P,u2,u3,z3,S,cB⟩:=S.close w ra (by omega) (cT _ _);have cc:=X.trans cB;refine⟨_,_,_,_,P,_,dC _,_,u3,?_⟩;rw[wi,y8];refine az (λq=>absurd (dT q) (by omega)) (λ_=>az (λq=>absurd (dT q) (by omega)) (λ_=>?_));refine ow (257-(i+1)) (by omega) ⟨L,xs,_,_,_,_,S,e.oJ cc,?_,by simp[N],by rw[Tj],λp hp=>?_,rfl⟩
  ·rw[bK];exact E.done (by rw[aH,N];exact A) st
  ·rcases bG.1 hp with hp|hp
   ·exact O p hp
   ·rw[ba.1 hp];exact y9
end
end
section
section
variable {h0 h:au} {T:cm} {one:List UInt8} {k8 km:Nat}
theorem Zk(w0:Wf h0)(o0:Ok h0 h)(w:Wf h)(gd:Good T)(E:T.aI.length<=8)(hK:Tq T 30)(zA:∀s∈T.aI,s.bB.length<=2000){a2:Option aJ}{n2 c2:Nat}(A:eY h (ae a2 n2 c2) T.aI){k1:Nat}(W:h.get k1=aa (Bm T a2 n2 c2)){b:Option aJ}{m d:Nat}(rs:Rd h 3 (ae b m d) ((kH T 501).map zV))(ho:one≠[])(V:List ag){o:Nat}(b2:h.get o=aa qc)(n0:h0.aD<=o){Q:VH}(hQ:sgR h0 T one Q){mz:Nat}{a:Option aJ}{n c t i:Nat}{g:au}(C:SR1 h T one k8 km mz a n c t i g):
  cw fs (pq 9727) (gM k1 o k8 km one b m d a n c t i) g (eu fs (pq 5631) Q):=by
 refine AN V k1 o k8 km one b m d (SR1 h T one k8 km) Q (λmz a n c t i=>?_) mz C;clear C;intro zz g C;obtain⟨L,K,I,f,N,M,S,e,F,U,rfl,H,rfl⟩:=C;have hn:n=L.length:=by
  obtain⟨a',c',Y⟩:=S.rl.tB;injection Y with _ Y _
  rw[Y,e.1]
 have hL:=F.Wp E;refine az (λq=>?_) (λq=>?_)
 ·have q:=dT q;obtain⟨l,D⟩:∃l,L[i]?=aa l:=⟨_,gE (by omega)⟩
  have X:l.length=T.aI.length:=F.len l (aM D);obtain⟨S,c1⟩:=S.open_;have P:bh aq 44 (pA g.aD) (al ⟨[strOf [],nA]⟩) (g.push H6)=aa (undef,.set g.aD H6):=ib Ko rfl (cT g H6) rfl rfl;obtain⟨o3,j⟩:=S.o.E8 w 4 (k:=g.aD) (B:= .cells [strOf [],nA] 44 0 af) rfl (.cells [strOf [],nA] 44 0 af);have S:Af h ((ek.set g.aD H6).app (g.push H6)) T.kind one k8 km 68 (ae a n c) K (L.map (enc 43 45)) I f N M (R4 g.aD [] nA []):=⟨o3,S.rl,S.rs,λp z=>(S.fr p z).oJ j⟩
  have cc:pz g _ ((ek.set g.aD H6).app (g.push H6)) (LG T.kind one k8 km (L.map (enc 43 45)) I N M (R4 g.aD [] nA [])):=c1.trans j;have e:=e.oJ cc;refine⟨_,ad7,_,PO,_,P,?_⟩;clear c1 j cc o3 P;generalize (ek.set g.aD H6).app (g.push H6)=g1 at*;generalize g.aD=x2 at*;obtain⟨S,x0⟩:=S.grow ((Ok.refl S.o.ok.wf).room 6);have e:=e.oJ x0;obtain⟨x,Z⟩:∃x,K[i]?=aa x:=⟨_,gE (by rw[e.1];omega)⟩
  have ix:=e.2 i x l Z D;obtain⟨ax,cx,ex⟩:=ix.tB;rw[aH]at ex;subst ex;have x1:=S.rl.rd S.o (i:=1) rfl;obtain⟨_,i1,i2⟩:=x1.at_ q91 z68 zq Ik (k:= ak) (i:=(i:Int)) (by omega) (by have:=(List.getElem?_eq_some_iff.1 Z).1;omega);rw[bc,gD,Z]at i2;refine⟨_,jr tG tE js (S.o.ok.ext _ _ W) (by simp[cU]),_,i1,_,_,_,i2,(Dx S.o.ok.wf X (by omega) (A.ok S.o.ok) ix.rd).mono ?_⟩;rintro _ g2 ⟨b',rfl,o2,hb⟩;obtain⟨S,j⟩:=S.grow o2;have e:=e.oJ j;have e0:Fy T L one l (λc=>c∈(kH T 501).take 0) []:=Fy.nil λc hc=>by simp at hc
  refine⟨_,rfl,az (λJ=>?_) (λJ=>?_)⟩
  ·obtain⟨u,u1,S,c4⟩:=S.VP w one;refine⟨_,pb _ _,_,u1,?_⟩;exact OR w gd E hK zA A W rs V (.inl rfl) ⟨λ_=>hb.1 J,λ_=>rfl⟩ (by omega) rfl (mz:=(kH T 501).length) ⟨L,K,I,f,N,M,_,_,[],S,e.oJ c4,F,U,D,gQ.nil ..,e0,rfl,H,ck _,rfl⟩
  ·exact OR w gd E hK zA A W rs V (.inr rfl) ⟨λh=>absurd h.symm ho,λh=>by rw[hb.2 h]at J;cases J⟩ (by omega) rfl (mz:=(kH T 501).length) ⟨L,K,I,f,N,M,_,_,[],S,e,F,U,D,gQ.nil ..,e0,rfl,H,ck _,rfl⟩
 ·have q:=dF q;obtain⟨y,j,e3⟩:=S.rs.tB;subst e3;have hk:o<h.aD:=w _ _ b2;have ld:aS aq 24 g (pA k8)=aa (al ⟨cU ⟨T.kind,0,one,f.map (·.1)⟩ y (f.map rG).length j⟩):=jr tG tE js (S.o.get 0 rfl) (by simp);have R:=S.o.ok.ext _ _ b2;have st:bh aq 24 (pA o) (al ⟨cU ⟨T.kind,0,one,f.map (·.1)⟩ y (f.map rG).length j⟩) g=aa (undef,.set o (B2 T.kind one (ae y (f.map rG).length j))):=ib js rfl R rfl (by cases y<;>rfl);obtain⟨o5,k5⟩:=qq (cs:=cU ⟨T.kind,0,one,f.map (·.1)⟩ y (f.map rG).length j) w0 (o0.trans S.o.ok) R n0;have kp:∀k B,g.get k=aa B->h.aD<=k->((ek.set o (B2 T.kind one (ae y (f.map rG).length j))).app g).get k=aa B:=λk B O hl=>by
   show(g.set o _).get k=_;rw[au.cE,iN (by omega)];exact O
  refine⟨_,ld,_,st,uB (v:= al ⟨cU ⟨T.kind,0,one,f.map (·.1)⟩ y (f.map rG).length j⟩) (jr tG tE js k5 (by simp[cU])) ?_⟩;refine hQ ⟨T.kind,0,one,f.map (·.1)⟩ y _ j L _ (F.sub (by rw[aH];omega)) (λs hs=>?_) o5 ?_
  ·obtain⟨p,z,rfl⟩:=cI.1 hs;exact H p z
  ·refine⟨f,rfl,S.rs.rdg λp z=>kp _ _ (S.o.grp (i:=3) rfl p z) (S.o.GS (i:=3) rfl p z),λp z=>?_,S.rs.dead⟩;obtain⟨G,r,O⟩:=S.fr p z;exact r.rdg λq hq=>kp _ _ (O q hq).1.1 (O q hq).2
end
section
variable {h:au} {M:cm} {a:Option aJ} {n c:Nat}
theorem Q1(w:Wf h)(P:Small M)(hM:M.aI.length<=8)(hA:mo M.aI<=30)(r:eY h (ae a n c) M.aI):aX 20 [al ⟨cU M a n c⟩] h (sgQ h M):=by
 obtain⟨f,j⟩:=jZ w r;refine Q0 (cU M a n c) h _ ⟨_,kW M a n c,_,FQ,?_⟩;have H:=j.nx;generalize h.push (Bm M a n c)=g1 at*;have e1:=(Ok.refl j.wf).push qc;have f:=f.ok e1;have u:=cT g1 qc;have j:=j.trans e1;generalize g1.push qc=g2 at*;generalize g1.aD=k2 at*;generalize h.aD=k1 at f⊢;refine⟨_,f.all,(DG j.wf P f.row).mono ?_⟩;rintro _ g3 ⟨rfl,U⟩;have f:=f.ok U;have u:=U.ext _ _ u;have j:=j.trans U;refine⟨_,rfl,az (λq=>?_) (λq=>?_)⟩
 ·exact⟨_,Ak,CZ w j rfl u H λg' W=>⟨jV,none,0,0,1,rfl,W,yq _,.inl ⟨by simpa using q,rfl,rfl⟩⟩⟩
 have D:dO M=af:=by simpa using q
 have x2:=(jA D).1;have Q:=jG D;refine⟨_,f.all,(SZ j.wf P f.row).mono ?_⟩;rintro _ g4 ⟨rfl,V⟩;have f:=f.ok V;have u:=V.ext _ _ u;have j:=j.trans V;refine⟨_,rfl,az (λq=>?_) (λq=>?_)⟩
 ·exact⟨_,Ak,CZ w j rfl u H λg' W=>⟨jV,none,0,0,6,rfl,W,yq _,.inr (.inl ⟨D,by simpa using q,rfl,rfl⟩)⟩⟩
 have X:EM M=af:=by simpa using q
 have zT:∀s∈M.aI,s.bB.length<=2000:=P.bB;refine⟨_,kZ _,_,f.l0,(acx M.kind g4).mono ?_⟩;rintro _ _ ⟨rfl,rfl⟩;refine⟨_,rfl,_,f.all,(Hi j.wf Q (by omega) zT f.row).mono ?_⟩;rintro v g5 ⟨ns,e5,_⟩;obtain⟨b,m,d,rfl⟩:∃b m d,v=ae b m d:=by
  obtain⟨G,q,_⟩:=id ns;obtain⟨R,O,e⟩:=q.tB;exact⟨R,_,O,e⟩
 have f:=f.ok e5;have u:=e5.ext _ _ u;have j:=j.trans e5;refine⟨_,_,_,rfl,_,f.all,(Dy j.wf Q (by omega) zT f.row).mono ?_⟩;rintro v o ⟨nf,K⟩;obtain⟨A,z,y,rfl⟩:∃b m d,v=ae b m d:=by
  obtain⟨G,q,_⟩:=id nf;obtain⟨R,O,e⟩:=q.tB;exact⟨R,_,O,e⟩
 have f:=f.ok K;have u:=K.ext _ _ u;have j:=j.trans K;have rs:Rd o 3 (ae b m d) ((kH M 501).map zV):=(ns.ok K).rd;have I:Wf o:=j.wf;have q0:OL o o []:=⟨Ok.refl I,List.nodup_nil,λk Z=>by simp[keys]at Z,λp C=>by simp at C⟩
 obtain⟨q1,c1⟩:=q0.push (.cells [ae A z y] 68 1 af);refine⟨_,_,_,rfl,_,_,_,TN _ _ _,_,agu,?_⟩;obtain⟨E,c2⟩:=q1.push (.map []);change OL o _ [[(o.aD,_)],[((o.push _).aD,_)]]at E;have J:aS aq 68 ((o.push (.cells [ae A z y] 68 1 af)).push (.map [])) (pA o.aD)=aa (ae A z y):=ej zq Ik (E.get 0 rfl) (by simp);have rf:=(nf.rd.ok E.ok)
 have x0:Kw o [] 4 (ae A z y) ((mL M).map ah):=by
  obtain⟨G,r1,r2⟩:=nf;exact⟨G,r1,λp C=>⟨(r2 p C).2,λZ=>by simp[keys]at Z⟩⟩
 refine⟨_,abJ q91 z68 (i:=0) (by decide),_,_,_,J,(pX E.ok.wf (by rw[ri];omega) rf).mono ?_⟩;generalize x4:o.aD=kl at*;generalize x3:(o.push (.cells [ae A z y] 68 1 af)).aD=km at*;generalize (o.push (.cells [ae A z y] 68 1 af)).push (.map [])=g7 at*;rintro _ g8 ⟨rfl,e8⟩;obtain⟨q3,c3⟩:=E.grow e8;have Y:=aar (l:=[]) (q3.get 1 rfl) (x:=enc 43 45 (mL M)) (by simp);rw[dL]at Y;obtain⟨S,c4⟩:=q3.E8 I 1 (k:=km) (B:= .map []) rfl (.map (tF [enc 43 45 (mL M)] 0));refine⟨_,rfl,_,Y,?_⟩;change OL o ((ek.set km (.map (tF [enc 43 45 (mL M)] 0))).app g8) [[(kl,.cells [ae A z y] 68 1 af)],[(km,.map (tF [enc 43 45 (mL M)] 0))]]at S;have cc:=((c1.trans c2).trans c3).trans c4;clear Y J c1 c2 c3 c4;generalize (ek.set km (.map (tF [enc 43 45 (mL M)] 0))).app g8=F at*;have x1:=f.ok S.ok;obtain⟨q5,c5⟩:=S.push qc;have s8:bh aq 24 (pA F.aD) (al ⟨[aE M.kind,aE 0,strOf (jz M.kind),nA]⟩) (F.push qc)=aa (undef,.set F.aD (B2 M.kind (jz M.kind) nA)):=ib js rfl (q5.get 2 rfl) rfl rfl;obtain⟨q6,c6⟩:=q5.E8 I 2 (k:=F.aD) (B:=qc) rfl (B2 M.kind (jz M.kind) nA);refine⟨_,kZ _,_,x1.l0,_,Xa _ _,_,FQ,_,s8,?_⟩;obtain⟨q7,c7⟩:=q6.none;obtain⟨q8,c8⟩:=OL.perm (L':=LG M.kind (jz M.kind) F.aD km [enc 43 45 (mL M)] nA [(kl,.cells [ae A z y] 68 1 af)] [] []) q7 (List.perm_middle (l₁:=[_,_]) (a:=_) (l₂:=[]));have cc:=(((cc.trans c5).trans c6).trans c7).trans c8;refine Zk (h0:=h) (h:=o) (T:=M) (one:=jz M.kind) w j I Q hM (af7 (by rw[Kl];exact hA)) zT f.row f.box rs (QS x2) (cU M a n c) u H (λN a n c L g h1 h2 h3 h4=>?_) (mz:=257) (t:=0) (i:=0) ⟨[mL M],[ae A z y],_,[],_,_,⟨q8,?_,gQ.nil ..,λp C=>(by cases C)⟩,⟨rfl,λi x l hx J=>?_⟩,I5.new M _,rfl,rfl,λp C=>(by cases C),rfl⟩
 ·exact⟨N,a,n,c,0,rfl,h3,h4,.inr (.inr ⟨D,X,rfl,M,L,D,rfl,hM,hA,λx=>Iff.rfl,h1,h2⟩)⟩
 ·exact gQ.made (rs:=[[ae A z y]]) (by simp) (show 1<fg by decide +kernel)
 ·have:=(List.getElem?_eq_some_iff.1 hx).1;obtain rfl:i=0:=by simp at this;omega
  obtain rfl:=aG hx;obtain rfl:=aG J;exact x0.oJ cc
end
end
noncomputable def fH:FD:=gU Tryz.f25 [((pq 303),[2,3,5,6,7,8,9]),((pq 39215),[2,3,5,6,7,8,9,10])]
abbrev iG(g j h:Nat)(b:OA)(m d:Nat)(a:OA)(n c:Nat)(e:OA)(f i:Nat):LV:=[(pA g),(pA j),(ae b m d),(ae a n c),(ae e n f),(.map (aa h)),(iA i)]
abbrev jK(g k h:Nat)(b:OA)(m d i:Nat)(a:OA)(n c:Nat)(e:OA)(f j:Nat):LV:=[(pA g),(pA k),(ae b m d),(ae a n c),(ae e n f),(.map (aa h)),(iA i),(iA j)]
theorem OB(v U:LV)(h:au)(Q:VH)(hx:xN (jY aq 24 (al ⟨v⟩)) h λB1 i=>xN (jY aq 24 (al ⟨U⟩)) i λB3 u=>xA (aS aq 24 (room u 6) (pA (h.aD))) λc5=>aX 61 [(al ⟨c5⟩)] (room u 6) λv6 R=>yL v6 λa8 n9 x1=>xA (aS aq 24 R (pA (i.aD))) λg=>aX 61 [(al ⟨g⟩)] R λz r=>yL z λA I P=>xE (cG aq 27 27 (ae a8 n9 x1) (ae A I P) r) r λY F S x3 a=>(aS aq 24 (room u 6) (pA (i.aD))=aa (al ⟨g⟩)/\oQ 4 (al ⟨g⟩) (al ⟨g⟩)=af)/\xA (aS aq 24 (room a 8) (pA (h.aD))) λy=>aX 62 [(al ⟨y⟩)] (room a 8) λN n=>yL N λJ V K=>zR (bS aq 91 1 [(0,(ae J V K))]) λx0 m q=>xA (aS aq 24 n (pA (i.aD))) λc=>aX 62 [(al ⟨c⟩)] n λE C=>yL E λH G D=>zR (bS aq 91 1 [(0,(ae H G D))]) λO t s=>(aS aq 24 (room a 8) (pA (i.aD))=aa (al ⟨c⟩)/\oQ 4 (al ⟨c⟩) (al ⟨c⟩)=af)/\agl (cr C a.aD [(5,O),(2,x0)]) λb=>∃j:eA,pS aq 103=aa (j,λk=> .map (aa k))/\xP (aW aq 91 (sA (a.aD+2) m q) (aE 0)) λx2=>xL (aS aq 68 (room b 13) (bw x2)) λL M T=>aX 63 [(ae L M T)] (room b 13) λZ o=>yS Z λW=>xP (aW aq 91 (sA (a.aD+5) t s) (aE 0)) λp=>xL (aS aq 68 o (bw p)) λf d e=>aX 63 [(ae f d e)] o λw l=>yS w λB=>xS (ca aq .add 9 (strOf W) (strOf B)) λx=>xU (iJ aq 103 (.map (aa (b.aD+0))) (strOf x) (ah af) (cr l b.aD [(0,j)])) (cr l b.aD [(0,j)]) λx4 X=>(aS aq 68 (room b 13) (bw p)=aa (ae f d e)/\oQ 4 (ae f d e) (ae f d e)=af)/\cw fH (pq 303) [(pA (h.aD)),(pA (i.aD)),(ae Y F S),(sA (a.aD+2) m q),(sA (a.aD+5) t s),(.map (aa (b.aD+0))),(aE 0)] X (eu fH (pq 175) Q)):aX 25 [(al ⟨v⟩),(al ⟨U⟩)] h Q:=hH fH Tryz.func25 (bD hx)
theorem zl(G H:LV)(q p s:Nat)(b:OA)(m d:Nat)(j:Nat->OA->Nat->Nat->OA->Nat->Nat->au->Prop)(Q:VH)(step:∀(mz:Nat) (a:OA) (n c:Nat) (e:OA) (f i:Nat) (B:Nat->ag) (h:au),j mz a n c e f i h->cq (decide (((i:Int):Int)<(n:Int))) (xA (aS aq 24 (room h 13) (pA q)) λD=>xP (aW aq 91 (ae a n c) (iA i)) λy=>xL (aS aq 68 (room h 13) (bw y)) λF E z=>aX 64 [(al ⟨D⟩),(ae F E z)] (room h 13) λC r=>yB C λx=>xA (aS aq 24 r (pA p)) λk=>xP (aW aq 91 (ae e n f) (iA i)) λt=>xL (aS aq 68 r (bw t)) λg o l=>aX 64 [(al ⟨k⟩),(ae g o l)] r λA u=>yB A λw=>(aS aq 24 (room h 13) (pA p)=aa (al ⟨k⟩)/\oQ 4 (al ⟨k⟩) (al ⟨k⟩)=af)/\(aS aq 68 (room h 13) (bw t)=aa (ae g o l)/\oQ 4 (ae g o l) (ae g o l)=af)/\cq (!(x==w)) (Q (ah aj) u) (cw fH (pq 39215) (jK q p s b m d i a n c e f 0) u (fQ fH (pq 89) (pq 303) (RR fH (pq 303) (LA6 (iG q p s b m d) j) mz (eu fH (pq 175) Q))))) (Q (ah af) h))(mz:Nat){a:OA}{n c:Nat}{e:OA}{f i:Nat}{h:au}(v:j mz a n c e f i h):cw fH (pq 303) (iG q p s b m d a n c e f i) h (eu fH (pq 175) Q):=
 Zn (iG q p s b m d) j (λmz a n c e f i B h v=>bD (step mz a n c e f i B h v)) mz v
theorem zm(mv nv:LV)(o p k:Nat)(b:OA)(m d:Nat)(D:Nat->OA->Nat->Nat->OA->Nat->Nat->au->Prop)(mz i:Nat)(l:Nat->OA->Nat->Nat->OA->Nat->Nat->au->Prop)(Q:VH)(step:∀(g:Nat) (a:OA) (n c:Nat) (e:OA) (f j:Nat) (zz:Nat->ag) (h:au),l g a n c e f j h->cq (decide (((j:Int):Int)<(m:Int))) (xA (aS aq 24 (room h 15) (pA o)) λy7=>xP (aW aq 91 (ae a n c) (iA i)) λy8=>xL (aS aq 68 (room h 15) (bw y8)) λy0 y5 x7=>xP (aW aq 27 (ae b m d) (iA j)) λy3=>xI ak (aS aq 3 (room h 15) (bw y3)) λy1=>aX 65 [(al ⟨y7⟩),(ae y0 y5 x7),(aE y1)] (room h 15) λx5 t=>∃(r:OA) (u w:Nat),∃y2:Bool,x5=(av ⟨[(ae r u w),(ah y2)]⟩)/\xA (aS aq 24 (room t 15) (pA p)) λz2=>xP (aW aq 91 (ae e n f) (iA i)) λz1=>xL (aS aq 68 (room t 15) (bw z1)) λx6 x8 x9=>xP (aW aq 27 (ae b m d) (iA j)) λy4=>xI ak (aS aq 3 (room t 15) (bw y4)) λy9=>aX 65 [(al ⟨z2⟩),(ae x6 x8 x9),(aE y9)] (room t 15) λz0 y6=>∃(s:OA) (x v:Nat),∃x0:Bool,z0=(av ⟨[(ae s x v),(ah x0)]⟩)/\aX 63 [(ae r u w)] y6 λF H=>yS F λM=>aX 63 [(ae s x v)] H λS q=>yS S λJ=>xS (ca aq .add 9 (strOf M) (strOf J)) λx3=>xB (qf aq 103 (.map (aa k)) (strOf x3) aj q) λU=>cq (!U) (aX 63 [(ae r u w)] q λR E=>yS R λG=>aX 63 [(ae s x v)] E λT A=>yS T λx4=>xS (ca aq .add 9 (strOf G) (strOf x4)) λN=>xU (iJ aq 103 (.map (aa k)) (strOf N) (ah af) A) A λz5 C=>xR (bS aq 91 1 [(0,(ae r u w))]) C λz7 Y Z y=>xE (cG aq 91 91 (ae a n c) (sA (C.aD) Y Z) y) y λK L W z4 B=>xR (bS aq 91 1 [(0,(ae s x v))]) B λz6 x1 P z=>xE (cG aq 91 91 (ae e n f) (sA (B.aD) x1 P) z) z λx2 O I z3 V=>ct (LA6 (jK o p k b m d i) l) g [(pA o),(pA p),(ae b m d),(ae K L W),(ae x2 O I),(.map (aa k)),(iA i),(aE (ai ak ((j:Int)+1)))] V) (ct (LA6 (jK o p k b m d i) l) g [(pA o),(pA p),(ae b m d),(ae a n c),(ae e n f),(.map (aa k)),(iA i),(aE (ai ak ((j:Int)+1)))] q)) (ct (LA6 (iG o p k b m d) D) mz [(pA o),(pA p),(ae b m d),(ae a n c),(ae e n f),(.map (aa k)),(aE (ai ak ((i:Int)+1)))] h))(g:Nat){a:OA}{n c:Nat}{e:OA}{f j:Nat}{h:au}(X:l g a n c e f j h):cw fH (pq 39215) (jK o p k b m d i a n c e f j) h (fQ fH (pq 89) (pq 303) (RR fH (pq 303) (LA6 (iG o p k b m d) D) mz (eu fH (pq 175) Q))):=
 Zn (jK o p k b m d i) l (λg a n c e f j zz h X=>bD (step g a n c e f j zz h X)) g X
section
def BI(l:List (List UInt8)):List (ag×ag):=l.map λk=>(strOf k,ah af)
theorem Jp(x:List UInt8):∀(l:List (List UInt8)),rS aq 9 (strOf x) (BI l)=aa (if x∈l then aa (ah af)else none)
 |[]=>rfl
 | k::l=>by
  show(match tN aq 9 (strOf x) (strOf k)with|some af=>aa (aa (ah af))|some aj=>rS aq 9 (strOf x) (BI l)|none=>none)=_;rw[Lg];by_cases h:x=k
  ·rw[eT h,iP (by rw[h];exact cj ..)]
  ·rw[eF h];dsimp only;rw[Jp x l];by_cases a:x∈l
   ·rw[iP a,iP (cF _ a)]
   ·rw[iN a,iN (λe=>(cW.1 e).elim h a)]
theorem SC{x:List UInt8}:∀{l:List (List UInt8)},x∉l->nP aq 9 (strOf x) (ah af) (BI l)=aa (BI (l++[x]))
 |[],_=>rfl
 |k::l,h=>by
  show(match tN aq 9 (strOf x) (strOf k)with|some af=>aa ((strOf x,ah af)::BI l)|some aj=>(nP aq 9 (strOf x) (ah af) (BI l)).map ((strOf k,ah af)::·)|none=>none)=_;rw[Lg,eF (λe=>h (by rw[e];exact cj ..))];dsimp only;rw[SC λe=>h (cF _ e)];rfl
theorem adE:aq.underlying 103=aa (.map 9 4):=by kernel_rfl
theorem agq:pS aq 103=aa (.map [],λk=> .map (aa k)):=by kernel_rfl
theorem abY{h:au}{l:List (List UInt8)}(c:h.get k=aa (.map (BI l)))(x:List UInt8):qf aq 103 (.map (aa k)) (strOf x) aj h=aa (ah (decide (x∈l))):=by
 have b:qf aq 103 (.map (aa k)) (strOf x) aj h=match (match h.get k with|some (.map a)=>aa a|_=>none),zeroOf aq 4 with
  |some a,aa z=>if rk aq 9 (strOf x)then match rS aq 9 (strOf x) a with
   |some (aa v)=>aa v
   |some none=>aa z
   |none=>none else none
  |_,_=>none:=by
  unfold qf dW;dsimp only;rw[adE];rfl
 rw[b,c,adQ];dsimp only;rw[abR,iP rfl,Jp];by_cases h:x∈l
 ·rw[iP h,eT h]
 ·rw[iN h,eF h]
theorem aap{h:au}{l:List (List UInt8)}(b:h.get k=aa (.map (BI l))){x:List UInt8}(a:x∉l):iJ aq 103 (.map (aa k)) (strOf x) (ah af) h=aa (undef,.set k (.map (BI (l++[x])))):=by
 unfold iJ;rw[adE];dsimp only;rw[b];dsimp only;rw[abR,iP rfl,SC a];rfl
def nQk(p:List Bool×List Bool):List UInt8:=enc 43 45 p.1++enc 43 45 p.2
theorem aec{l m:List Bool}(b:l.length<=1000)(a:m.length<=1000):ca aq .add 9 (strOf (enc 43 45 l)) (strOf (enc 43 45 m))=aa (strOf (enc 43 45 l++enc 43 45 m)):=by
 show(if(enc 43 45 l).length+(enc 43 45 m).length<=4611686018427387904 then aa (strOf (enc 43 45 l++enc 43 45 m))else none)=_;rw[iP (by rw[BH,BH];omega)]
abbrev LD(km:Nat)(PP:List (List Bool×List Bool))(Ga Gb:jm):List jm:=[Ga,Gb,[(km,.map (BI (PP.map nQk)))]]
structure WC(h g:au)(km:Nat)(v u:ag)(xs ys:List ag)(PP:List (List Bool×List Bool))(Ga Gb:jm):Prop where
 o:OL h g (LD km PP Ga Gb)
 ra:kT 68 v xs Ga
 rb:kT 68 u ys Gb
 wa:Wm g (LD km PP Ga Gb) xs (PP.map (·.1))
 wb:Wm g (LD km PP Ga Gb) ys (PP.map (·.2))
section
variable {h g g':au} {km:Nat} {v u:ag} {xs ys:List ag} {PP:List (List Bool×List Bool)} {Ga Gb:jm}
theorem WC.grow(s:WC h g km v u xs ys PP Ga Gb)(e:Ok g g'):WC h g' km v u xs ys PP Ga Gb/\pz g (LD km PP Ga Gb) g' (LD km PP Ga Gb):=by
 obtain⟨a,c⟩:=s.o.grow e;exact⟨⟨a,s.ra,s.rb,s.wa.oJ c,s.wb.oJ c⟩,c⟩
theorem WC.at_(s:WC h g km v u xs ys PP Ga Gb){i:Nat}{p:List Bool×List Bool}(n:PP[i]?=aa p):(∃(q:aJ)(a:Option aJ)(c:Nat),aW aq 91 v (aE (i:Int))=aa (bw q)/\aS aq 68 g (bw q)=aa (ae a p.1.length c)/\Kw g (LD km PP Ga Gb) 4 (ae a p.1.length c) (p.1.map ah))/\
  ∃(q:aJ)(a:Option aJ)(c:Nat),aW aq 91 u (aE (i:Int))=aa (bw q)/\aS aq 68 g (bw q)=aa (ae a p.2.length c)/\Kw g (LD km PP Ga Gb) 4 (ae a p.2.length c) (p.2.map ah):=by
 have E:=(List.getElem?_eq_some_iff.1 n).1;have d:∀{w:ag}{b:List ag}{G:jm}{j:Nat}{l:List Bool}{f:List (List Bool)},kT 68 w b G->(LD km PP Ga Gb)[j]?=aa G->Wm g (LD km PP Ga Gb) b f->f[i]?=aa l->∃(q:aJ)(a:Option aJ)(c:Nat),aW aq 91 w (aE (i:Int))=aa (bw q)/\aS aq 68 g (bw q)=aa (ae a l.length c)/\Kw g (LD km PP Ga Gb) 4 (ae a l.length c) (l.map ah):=by
  intro w b G j l f r C e t;obtain⟨x,m⟩:∃x,b[i]?=aa x:=⟨_,gE (by rw[e.1];exact(List.getElem?_eq_some_iff.1 t).1)⟩
  have z:=e.2 i x l m t;obtain⟨D,B,y⟩:=z.tB;rw[aH]at y;subst y;obtain⟨q,A,o⟩:=(r.rd s.o C).at_ q91 z68 zq Ik (k:= ak) (i:=(i:Int)) (by omega) (by have:=(List.getElem?_eq_some_iff.1 m).1;omega);rw[bc,gD,m]at o;exact⟨q,D,B,A,o,z⟩
 exact⟨d s.ra (j:=0) rfl s.wa (by rw[getElem?_map,n];rfl),d s.rb (j:=1) rfl s.wb (by rw[getElem?_map,n];rfl)⟩
theorem WC.add(w:Wf h)(s:WC h g km v u xs ys PP Ga Gb){p:List Bool×List Bool}(W:nQk p∉PP.map nQk)(Z:PP.length<=1000000){a b:Option aJ}{n m c d:Nat}(O:Kw g (LD km PP Ga Gb) 4 (ae a n c) (p.1.map ah))(H:Kw g (LD km PP Ga Gb) 4 (ae b m d) (p.2.map ah)):
  ∃q:ek,iJ aq 103 (.map (aa km)) (strOf (nQk p)) (ah af) g=aa (undef,q)/\
   ∃(A:Option aJ)(r y:Nat)(l:ek),cG aq 91 91 v (sA (q.app g).aD 1 1) ((q.app g).push (.cells [ae a n c] 68 1 af))=aa (ae A r y,l)/\
   ∃(C:Option aJ)(t z:Nat)(o:ek),cG aq 91 91 u (sA (l.app ((q.app g).push (.cells [ae a n c] 68 1 af))).aD 1 1) ((l.app ((q.app g).push (.cells [ae a n c] 68 1 af))).push (.cells [ae b m d] 68 1 af))=aa (ae C t z,o)/\r=PP.length+1/\t=PP.length+1/\
   ∃f i,WC h (o.app ((l.app ((q.app g).push (.cells [ae a n c] 68 1 af))).push (.cells [ae b m d] 68 1 af))) km (ae A r y) (ae C t z) (xs++[ae a n c]) (ys++[ae b m d]) (PP++[p]) f i:=by
 have lx:xs.length=PP.length:=by rw[s.wa.1,aH]
 have ly:ys.length=PP.length:=by rw[s.wb.1,aH]
 have E:∀k,k<=1000001->k*acA.bytes<=1000001*100:=λk R=>fy R Hr;have h1:=E (xs.length+1) (by omega);have h2:=E (ys.length+1) (by omega);obtain⟨D,P⟩:=s.o.E8 w 2 (k:=km) (B:= .map (BI (PP.map nQk))) rfl (.map (BI (PP.map nQk++[nQk p])));refine⟨_,aap (s.o.get 2 rfl) W,?_⟩;generalize (ek.set km (.map (BI (PP.map nQk++[nQk p])))).app g=U at*;obtain⟨T,S⟩:=D.grow ((Ok.refl D.ok.wf).push (.cells [ae a n c] 68 1 af));obtain⟨A,r,y,l,I,e2,f,J,G,Q⟩:=s.ra.snoc q91 LQ DH afc w T (j:=0) rfl (x:= ae a n c) (fR ..) (cT _ _) (by omega) (by omega);refine⟨A,r,y,l,I,?_⟩;generalize l.app (U.push (.cells [ae a n c] 68 1 af))=F at*;obtain⟨L,K⟩:=G.grow ((Ok.refl G.ok.wf).push (.cells [ae b m d] 68 1 af));obtain⟨C,t,z,o,Y,f2,i,N,M,X⟩:=s.rb.snoc q91 LQ DH afc w L (j:=1) rfl (x:= ae b m d) (fR ..) (cT _ _) (by omega) (by omega);refine⟨C,t,z,o,Y,by omega,by omega,f,i,?_⟩;have cc:=((((P.trans S).trans Q).trans K).trans X)
 have V:OL h (o.app (F.push (.cells [ae b m d] 68 1 af))) (LD km (PP++[p]) f i):=by
  have e:(PP++[p]).map nQk=PP.map nQk++[nQk p]:=by simp
  unfold LD;rw[e];exact M
 have cc:pz g (LD km PP Ga Gb) (o.app (F.push (.cells [ae b m d] 68 1 af))) (LD km (PP++[p]) f i):=by
  have e:(PP++[p]).map nQk=PP.map nQk++[nQk p]:=by simp
  unfold LD;rw[e];exact cc
 refine⟨V,J,N,?_,?_⟩
 ·have:=(s.wa.oJ cc).add (O.oJ cc);rwa[show PP.map (·.1)++[p.1]=(PP++[p]).map (·.1) by simp]at this
 ·have:=(s.wb.oJ cc).add (H.oJ cc);rwa[show PP.map (·.2)++[p.2]=(PP++[p]).map (·.2) by simp]at this
end
end
section
theorem Tm{L:List jm}{a:List ag}(r:Kw g L T v a):oQ 4 v v=af:=by
 obtain⟨G,⟨_,⟨rfl,_⟩|⟨k,b,cs,c,rfl,_⟩⟩,_⟩:=r
 ·simp[oQ]
 ·exact RJ ..
section
variable {h:au} {A B:cm} {km:Nat}
structure PrX(A B:cm)(PP:List (List Bool×List Bool)):Prop where
 r:PrR A B PP
 le:PP.length<=90601
def SD1(h:au)(A B:cm)(km:Nat)(mz:Nat)(a:Option aJ)(n c:Nat)(e:Option aJ)(f i:Nat)(g:au):Prop:=
 ∃(d j:List ag)(b:List (List Bool×List Bool))(k l:jm),WC h g km (ae a n c) (ae e n f) d j b k l/\PrX A B b/\i<=90601/\mz=90602-i
def SD2(h:au)(A B:cm)(km i m:Nat)(p:List Bool×List Bool)(mz:Nat)(a:Option aJ)(n c:Nat)(e:Option aJ)(f j:Nat)(g:au):Prop:=
 ∃(d k:List ag)(b:List (List Bool×List Bool))(l o:jm),WC h g km (ae a n c) (ae e n f) d k b l o/\PrX A B b/\b[i]?=aa p/\j<=m/\mz=m-j
theorem Zv{c:Nat}{e f:List ag}{d:List (List Bool×List Bool)}{i j:jm}(s:WC h g km (ae a n c) v e f d i j):n=d.length:=by
 obtain⟨l,k,b⟩:=s.ra.tB;injection b with _ b _
 rw[b,s.wa.1,aH]
theorem PrX.add{a:List (List Bool×List Bool)}(r:PrX A B a)(nA:A.aI.length<=300)(nB:B.aI.length<=300)(f:∀x:List Int,(∀c∈x,1<=c)->Bi (qu A x))(h:∀x:List Int,(∀c∈x,1<=c)->Bi (qu B x)){p:List Bool×List Bool}(i:p∈a){c:Int}(j:1<=c)(e:(fT A p.1 c,fT B p.2 c)∉a):PrX A B (a++[(fT A p.1 c,fT B p.2 c)]):=by
 have b:=r.r.add i j e;refine⟨b,bN (UX b.nd λq g=>?_) (show(A.aI.length+1)*(B.aI.length+1)<=301*301 from fy (by omega) (by omega))⟩;obtain⟨x,d,rfl⟩:=b.rch q g;exact⟨CC,CC,f x d,h x d⟩
variable {aA:Option aJ} {nA cA:Nat} {aB:Option aJ} {nB cB:Nat} {k2 k3:Nat} {b:Option aJ} {m d:Nat} {sy:List Int}
theorem Zu(w:Wf h)(gA:Good A)(gB:Good B)(hA:A.aI.length<=300)(W:B.aI.length<=300)(zA:∀s∈A.aI,s.bB.length<=2000)(zB:∀s∈B.aI,s.bB.length<=2000)(rA:eY h (ae aA nA cA) A.aI)(rB:eY h (ae aB nB cB) B.aI)(xA:h.get k2=aa (Bm A aA nA cA))(xB:h.get k3=aa (Bm B aB nB cB))(P:Rd h 3 (ae b m d) (sy.map zV))(x4:∀c∈sy,1<=c)(hm:m<=100000)(oA:∀x:List Int,(∀c∈x,1<=c)->Bi (qu A x))(oB:∀x:List Int,(∀c∈x,1<=c)->Bi (qu B x))(mv nv:List ag){i G:Nat}(hi:i<90601)(x0:G=90602-i){p:List Bool×List Bool}{Q:VH}{mz:Nat}{a:Option aJ}{n c:Nat}{e:Option aJ}{f j:Nat}{g:au}(o:SD2 h A B km i m p mz a n c e f j g):
  cw fH (pq 39215) (jK k2 k3 km b m d i a n c e f j) g (fQ fH (pq 89) (pq 303) (RR fH (pq 303) (LA6 (iG k2 k3 km b m d) (SD1 h A B km)) G (eu fH (pq 175) Q))):=by
 have hl:m=sy.length:=by have:=P.len;rwa[aH]at this
 refine zm mv nv k2 k3 km b m d _ _ i (SD2 h A B km i m p) Q (λmz a n c e f j=>?_) mz o;clear o;intro zz g o;obtain⟨xs,ys,U,Ga,Gb,S,t,z,hj,rfl⟩:=o;have hn:=Zv S;have H:=aM z;obtain⟨L,K⟩:=t.r.len H;refine az (λq=>?_) (λq=>?_)
 ·have q:=dT q;obtain⟨s,M⟩:∃s,sy[j]?=aa s:=⟨_,gE (by omega)⟩
  have X:=x4 s (aM M);rw[cH (i:=j) (n:=m) (by omega) (by omega)];obtain⟨S,c1⟩:=S.grow ((Ok.refl S.o.ok.wf).room 15);generalize room g 15=g1 at*;obtain⟨⟨_,a1,d1,u,v,C⟩,_⟩:=S.at_ z;obtain⟨_,y,r⟩:=zat (P.ok S.o.ok) M;refine⟨_,jr tG tE js (S.o.ok.ext _ _ xA) (by simp[cU]),_,u,_,_,_,v,_,y,_,r,(Hh S.o.ok.wf gA L hA zA (rA.ok S.o.ok) C.rd s).mono ?_⟩;rintro _ g2 ⟨ax,nx,cx,bx,rfl,J,o2,x9⟩;have k:=J.im S.o;obtain⟨S,c2⟩:=S.grow o2;obtain⟨S,c3⟩:=S.grow ((Ok.refl S.o.ok.wf).room 15);have k:=k.oJ c3;clear J o2 c2 c3 c1 u v C y r;refine⟨_,_,_,_,rfl,?_⟩;generalize room g2 15=g3 at*;obtain⟨_,⟨_,a2,d2,u,v,C⟩⟩:=S.at_ z;obtain⟨_,y,r⟩:=zat (P.ok S.o.ok) M;refine⟨_,jr tG tE js (S.o.ok.ext _ _ xB) (by simp[cU]),_,u,_,_,_,v,_,y,_,r,(Hh S.o.ok.wf gB K W zB (rB.ok S.o.ok) C.rd s).mono ?_⟩;rintro _ g4 ⟨ay,ny,cy,x7,rfl,I,o4,x6⟩;have l:=I.im S.o;obtain⟨S,Z⟩:=S.grow o4;have k:=k.oJ Z;clear I o4 Z u v C y r;have E:(fT A p.1 s).length<=1000:=by rw[rq];omega
  have D:(fT B p.2 s).length<=1000:=by rw[rq];omega
  refine⟨_,_,_,_,rfl,(pX S.o.ok.wf E k.rd).mono ?_⟩;rintro _ g5 ⟨rfl,o5⟩;obtain⟨S,T⟩:=S.grow o5;have k:=k.oJ T;have l:=l.oJ T;refine⟨_,rfl,(pX S.o.ok.wf D l.rd).mono ?_⟩;rintro _ g6 ⟨rfl,Y⟩;obtain⟨S,R⟩:=S.grow Y;have k:=k.oJ R;have l:=l.oJ R;clear o5 T Y R;refine⟨_,rfl,_,aec E D,_,abY (S.o.get 2 rfl) _,az (λN=>?_) (λN=>?_)⟩
  ·have F:nQk (fT A p.1 s,fT B p.2 s)∉U.map nQk:=λO=>by
    have:decide (enc 43 45 (fT A p.1 s)++enc 43 45 (fT B p.2 s)∈U.map nQk)=af:=eT O;rw[this]at N;cases N
   refine(pX S.o.ok.wf E k.rd).mono ?_;rintro _ g7 ⟨rfl,o7⟩;obtain⟨S,V⟩:=S.grow o7;have k:=k.oJ V;have l:=l.oJ V;refine⟨_,rfl,(pX S.o.ok.wf D l.rd).mono ?_⟩;rintro _ g8 ⟨rfl,o8⟩;obtain⟨S,c8⟩:=S.grow o8;have k:=k.oJ c8;have l:=l.oJ c8;have le:=t.le;obtain⟨x1,u1,a',n',c',x2,u2,b',m',d',x3,u3,e1,e2,x8,y0,S⟩:=S.add w (p:=(fT A p.1 s,fT B p.2 s)) F (by omega) k l;refine⟨_,rfl,_,aec E D,_,u1,_,_,_,TN _ _ _,_,_,_,_,u2,_,_,_,TN _ _ _,_,_,_,_,u3,?_⟩;have x5:=t.add hA W oA oB H X λO=>F (cI.2 ⟨_,O,rfl⟩);subst e1;subst e2;exact Sz (m-(j+1)) (by omega) ⟨_,_,_,_,_,S,x5,C8 z _,by omega,rfl⟩
  ·exact Sz (m-(j+1)) (by omega) ⟨_,_,_,_,_,S,t,z,by omega,rfl⟩
 ·have q:=dF q;rw[cH (i:=i) (n:=90602) (by omega) (by omega),x0];exact Sz (90602-(i+1)) (by omega) ⟨_,_,_,_,_,S,t,by omega,rfl⟩
theorem Zw(w:Wf h)(gA:Good A)(gB:Good B)(T:A.aI.length<=300)(H:B.aI.length<=300)(zA:∀s∈A.aI,s.bB.length<=2000)(zB:∀s∈B.aI,s.bB.length<=2000)(K:eY h (ae aA nA cA) A.aI)(C:eY h (ae aB nB cB) B.aI)(N:h.get k2=aa (Bm A aA nA cA))(J:h.get k3=aa (Bm B aB nB cB))(rs:Rd h 3 (ae b m d) (sy.map zV))(P:∀c∈sy,1<=c)(W:m<=100000)(Y:∀x:List Int,(∀c∈x,1<=c)->Bi (qu A x))(oB:∀x:List Int,(∀c∈x,1<=c)->Bi (qu B x))(L:∀x:List Int,(∀c∈x,1<=c)->(yY A (qu A x)↔yY B (qu B x)))(D M:List ag){Q:VH}(hQ:∀g,Ok h g->Q (ah af) g){mz:Nat}{a:Option aJ}{n c:Nat}{e:Option aJ}{f i:Nat}{g:au}(j:SD1 h A B km mz a n c e f i g):
  cw fH (pq 303) (iG k2 k3 km b m d a n c e f i) g (eu fH (pq 175) Q):=by
 refine zl D M k2 k3 km b m d (SD1 h A B km) Q (λmz a n c e f i=>?_) mz j;clear j;intro zz g j;obtain⟨xs,ys,V,Ga,Gb,S,k,hi,rfl⟩:=j;have hn:=Zv S;have le:=k.le;refine az (λq=>?_) (λq=>?_)
 ·have q:=dT q;obtain⟨p,l⟩:∃p,V[i]?=aa p:=⟨_,gE (by omega)⟩
  have v:=aM l;obtain⟨z,y⟩:=k.r.len v;obtain⟨S,c1⟩:=S.grow ((Ok.refl S.o.ok.wf).room 13);generalize room g 13=g1 at*;obtain⟨⟨_,a1,d1,Z,i2,i3⟩,⟨_,a2,d2,j1,U,j3⟩⟩:=S.at_ l;have F:∀{g:au},Ok h g->aS aq 24 g (pA k3)=aa (al ⟨cU B aB nB cB⟩):=λo=>jr tG tE js (o.ext _ _ J) (by simp[cU]);have E:=S.o.ok;refine⟨_,jr tG tE js (S.o.ok.ext _ _ N) (by simp[cU]),_,Z,_,_,_,i2,(Dx S.o.ok.wf z T (K.ok S.o.ok) i3.rd).mono ?_⟩;rintro _ g2 ⟨b1,rfl,O,I⟩;obtain⟨S,c2⟩:=S.grow O;obtain⟨_,⟨_,a3,d3,u,t,r⟩⟩:=S.at_ l;obtain rfl:=aG (Value.pointer.inj (aG (j1.symm.trans u)));have X:=aG ((Fg O U).symm.trans t);refine⟨_,rfl,_,F S.o.ok,_,u,_,_,_,t,(Dx S.o.ok.wf y H (C.ok S.o.ok) r.rd).mono ?_⟩;rintro _ g3 ⟨b2,rfl,o3,G⟩;obtain⟨S,c3⟩:=S.grow o3;have R:b1=b2:=by
   obtain⟨x,hx,rfl⟩:=k.r.rch p v;have:=L x hx;rw[Bool.eq_iff_iff,I,G];exact this
  subst R;refine⟨_,rfl,⟨F E,CV (C.ok E)⟩,⟨by rw[U,X],Tm r⟩,az (λq2=>by simp at q2) (λ_=>?_)⟩;exact Zu w gA gB T H zA zB K C N J rs P W Y oB D M (by omega) rfl (mz:=m) ⟨_,_,_,_,_,S,k,l,ck _,rfl⟩
 ·exact hQ _ S.o.ok
end
end
section
section
variable {h:au} {A B:cm} {aA:Option aJ} {nA cA:Nat} {aB:Option aJ} {nB cB:Nat}
theorem OC(w:Wf h)(gA:Good A)(gB:Good B)(hA:A.aI.length<=300)(hB:B.aI.length<=300)(zA:∀s∈A.aI,s.bB.length<=2000)(zB:∀s∈B.aI,s.bB.length<=2000)(rA:eY h (ae aA nA cA) A.aI)(rB:eY h (ae aB nB cB) B.aI)(oA:∀x:List Int,(∀c∈x,1<=c)->Bi (qu A x))(oB:∀x:List Int,(∀c∈x,1<=c)->Bi (qu B x))(y5:∀x:List Int,(∀c∈x,1<=c)->(yY A (qu A x)↔yY B (qu B x))):
  aX 25 [al ⟨cU A aA nA cA⟩,al ⟨cU B aB nB cB⟩] h (λv g=>v=ah af/\Ok h g):=by
 obtain⟨H,o1⟩:=jZ w rA;refine OB (cU A aA nA cA) (cU B aB nB cB) h _ ⟨_,kW A aA nA cA,?_⟩;generalize h.push (Bm A aA nA cA)=g1 at*;obtain⟨D,o2⟩:=jZ o1.wf (rB.ok o1);refine⟨_,kW B aB nB cB,?_⟩;generalize g1.push (Bm B aB nB cB)=g2 at*;have H:=H.ok o2;have N:=o1.trans o2;clear o1 o2;generalize h.aD=k2 at H⊢;generalize g1.aD=k3 at D⊢;have r6:=(Ok.refl N.wf).room 6;have H:=H.ok r6;have D:=D.ok r6;have x6:=D.all;have N:=N.trans r6;clear r6;generalize room g2 6=g2 at*;have w2:Wf g2:=N.wf;refine⟨_,H.all,(Hi w2 gA hA zA H.row).mono ?_⟩;rintro v g3 ⟨U,W,x3⟩;obtain⟨L,I,K,rfl⟩:∃b m d,v=ae b m d:=by
  obtain⟨G,q,_⟩:=id U;obtain⟨R,O,e⟩:=q.tB;exact⟨R,_,O,e⟩
 refine⟨_,_,_,rfl,_,(D.ok W).all,(Hi W.wf gB hB zB (D.ok W).row).mono ?_⟩;rintro v g4 ⟨P,e4,_⟩;obtain⟨E,F,C,rfl⟩:∃b m d,v=ae b m d:=by
  obtain⟨G,q,_⟩:=id P;obtain⟨R,O,e⟩:=q.tB;exact⟨R,_,O,e⟩
 have y1:=CP A 501;have y2:=CP B 501;obtain⟨G,S,q2⟩:=U;have p0:=((OL.nil (Ok.refl w2)).more W (λp t=>(q2 p t).2) (gQ.nd S) (λk J=>by obtain⟨p,t,rfl⟩:=cI.1 J;exact(q2 p t).1) W.ext).1;change OL g2 g3 [G]at p0;obtain⟨p1,_⟩:=p0.grow e4;obtain⟨b,m,d,u,f1,f2,G',x9,p2,_⟩:=gQ.add me Hp xy afb w2 S p1 (j:=0) rfl (x:= ae E F C) (ns:=rr ((kH B 501).map zV)) (by rw[uJ,iX];exact ZO P.rd) (λr hr=>by grind[rr]) (by rw[uJ,List.all_map];exact bY.2 λz _=>rfl) (by rw[iX,iX,uL,aH,aH];omega) (by rw[iX,iX,aH,aH];omega) (.inr x3);have hm:m<=100000:=by rw[f2,iX,iX,aH,aH];omega
 refine⟨_,_,_,rfl,_,_,_,_,f1,⟨x6,CV D.row⟩,?_⟩;have o4:=p2.ok;have rs:Rd (u.app g4) 3 (ae b m d) ((kH A 501++kH B 501).map zV):=by
  have r:kT 3 (ae b m d) ((kH A 501++kH B 501).map zV) G':=by
   unfold kT;rw[bK,show ∀x y:List ag,rr (x++y)=rr x++rr y from λx y=>bK ..];exact x9
  exact r.rd p2 (i:=0) rfl
 have H:=H.ok o4;have D:=D.ok o4;have N:=N.trans o4;clear o4 p2 p1 p0 x9 f1 f2 S q2 x6 P W e4 x3;generalize u.app g4=a at*;have Y:Wf a:=N.wf;have r8:=(Ok.refl Y).room 8;have x0:=H.ok r8;have T:=D.ok r8;have n8:(room a 8).aD=a.aD+8:=rfl;have x8:=T.all;refine⟨_,x0.all,(Dy r8.wf gA hA zA x0.row).mono ?_⟩;rintro v g6 ⟨U,X⟩;obtain⟨L,I,K,rfl⟩:∃b m d,v=ae b m d:=by
  obtain⟨G,q,_⟩:=id U;obtain⟨R,O,e⟩:=q.tB;exact⟨R,_,O,e⟩
 refine⟨_,_,_,rfl,_,_,_,TN _ _ _,_,(T.ok X).all,(Dy X.wf gB hB zB (T.ok X).row).mono ?_⟩;rintro v V ⟨P,e7⟩;obtain⟨E,F,C,rfl⟩:∃b m d,v=ae b m d:=by
  obtain⟨G,q,_⟩:=id P;obtain⟨R,O,e⟩:=q.tB;exact⟨R,_,O,e⟩
 refine⟨_,_,_,rfl,_,_,_,TN _ _ _,⟨x8,CV D.row⟩,?_⟩;have x7:Ok a V:=(r8.trans X).trans e7;have y0:a.aD+8<=g6.aD:=X.nx;have y4:g6.aD<=V.aD:=e7.nx;show agl (((V.set (a.aD+2) (.cells [ae L I K] 68 1 af)).set (a.aD+5) (.cells [ae E F C] 68 1 af))) _;obtain⟨f,M⟩:∃f,f=(V.set (a.aD+2) (.cells [ae L I K] 68 1 af)).set (a.aD+5) (.cells [ae E F C] 68 1 af):=⟨_,rfl⟩
 have o8:Ok a f:=by
  rw[M];exact(x7.set _ (by omega) (by omega) Y).set _ (by omega) (show a.aD+5<V.aD by omega) Y
 have Q:∀k B,V.get k=aa B->a.aD+8<=k->f.get k=aa B:=λk B J hl=>by
  rw[M,au.cE,iN (by omega),au.cE,iN (by omega)];exact J
 have q0:OL a f [[(a.aD+2,.cells [ae L I K] 68 1 af)],[(a.aD+5,.cells [ae E F C] 68 1 af)]]:=by
  refine⟨o8,by simp[keys],λk J=>?_,λp t=>?_⟩
  ·simp[keys]at J;omega
  ·simp at t;rcases t with rfl|rfl
   ·show f.get (a.aD+2)=_;rw[M,au.cE,iN (by omega),au.cE,iP rfl]
   ·show f.get (a.aD+5)=_;rw[M,au.cE,iP rfl]
 rw[<-M];have x4:Kw f [[(a.aD+2,.cells [ae L I K] 68 1 af)],[(a.aD+5,.cells [ae E F C] 68 1 af)]] 4 (ae L I K) ((mL A).map ah):=by
  obtain⟨G,r1,r2⟩:=U;exact⟨G,r1,λp t=>have:=(r2 p t).1;⟨Q _ _ (e7.ext _ _ (r2 p t).2) this,λJ=>by simp[keys]at J;omega⟩⟩
 have x5:Kw f [[(a.aD+2,.cells [ae L I K] 68 1 af)],[(a.aD+5,.cells [ae E F C] 68 1 af)]] 4 (ae E F C) ((mL B).map ah):=by
  obtain⟨G,r1,r2⟩:=P;exact⟨G,r1,λp t=>have:=(r2 p t).1;⟨Q _ _ (r2 p t).2 (by omega),λJ=>by simp[keys]at J;omega⟩⟩
 clear Q M x7 x8 U P X e7 x0 T r8 n8 y0 y4;show ∃y6:eA,_;refine⟨_,agq,?_⟩;obtain⟨S,c1⟩:=q0.grow ((Ok.refl o8.wf).room 13);have e9:=(Ok.refl o8.wf).room 13;have j1:=x4.oJ c1;have j2:=x5.oJ c1;have h1:aS aq 68 (room f 13) (pA (a.aD+2))=aa (ae L I K):=ej zq Ik (S.get 0 rfl) (by simp);have h2:aS aq 68 (room f 13) (pA (a.aD+5))=aa (ae E F C):=ej zq Ik (S.get 1 rfl) (by simp);refine⟨_,abJ q91 z68 (i:=0) (by decide),_,_,_,h1,(pX e9.wf (by rw[ri];omega) j1.rd).mono ?_⟩;rintro _ ga ⟨rfl,ea⟩;obtain⟨q2,c2⟩:=S.grow ea;have h3:aS aq 68 ga (pA (a.aD+5))=aa (ae E F C):=ej zq Ik (q2.get 1 rfl) (by simp);refine⟨_,rfl,_,abJ q91 z68 (i:=0) (by decide),_,_,_,h3,(pX ea.wf (by rw[ri];omega) (j2.oJ c2).rd).mono ?_⟩;rintro _ gb ⟨rfl,eb⟩;obtain⟨x1,x2⟩:=Mo o8.wf (n:=13) (j:=0) (by omega) (ea.trans eb) (.map []);have Z:=q0.more (G:=[(f.aD,.map [])]) (g':=cr gb f.aD [(0,.map [])]) (o8.trans x1) (λp t=>by obtain rfl:=ba.1 t;exact x2) (by simp) (λk J=>by simp at J;omega) x1.ext;obtain⟨Z,c3⟩:=Z;change OL a _ [[(a.aD+2,.cells [ae L I K] 68 1 af)],[(a.aD+5,.cells [ae E F C] 68 1 af)],[(f.aD,.map [])]]at Z;have s7:=aap (l:=[]) (Z.get 2 rfl) (x:=nQk (mL A,mL B)) (by simp);rw[dL]at s7;obtain⟨q4,c4⟩:=Z.E8 Y 2 (k:=f.aD) (B:= .map []) rfl (.map (BI [nQk (mL A,mL B)]));refine⟨_,rfl,_,aec (by rw[ri];omega) (by rw[ri];omega),_,s7,⟨h2,Tm j2⟩,?_⟩;have k1:=x4.oJ (c3.trans c4);have y3:=x5.oJ (c3.trans c4);refine(Zw (h:=a) Y gA gB hA hB zA zB H.row D.row H.box D.box rs (λc hc=>?_) hm oA oB y5 (cU A aA nA cA) (cU B aB nB cB) (λg o=>⟨rfl,N.trans o⟩) (mz:=90602) (i:=0) ⟨[ae L I K],[ae E F C],[(mL A,mL B)],_,_,⟨q4,?_,?_,⟨rfl,λi x l hx hl=>?_⟩,⟨rfl,λi x l hx hl=>?_⟩⟩,⟨PrR.new A B,by simp⟩,ck _,rfl⟩)
 ·rcases bG.1 hc with hc|hc
  ·exact(Cb.1 hc).1
  ·exact(Cb.1 hc).1
 ·exact gQ.made (rs:=[[ae L I K]]) (by simp) (show 1<fg by decide +kernel)
 ·exact gQ.made (rs:=[[ae E F C]]) (by simp) (show 1<fg by decide +kernel)
 ·have:=(List.getElem?_eq_some_iff.1 hx).1;obtain rfl:i=0:=by simp at this;omega
  obtain rfl:=aG hx;obtain rfl:=aG hl;exact k1
 ·have:=(List.getElem?_eq_some_iff.1 hx).1;obtain rfl:i=0:=by simp at this;omega
  obtain rfl:=aG hx;obtain rfl:=aG hl;exact y3
end
end
noncomputable def aai:FD:=gU Tryz.f70 []
theorem V8(J:Int)(M:LV)(l k c w:Nat)(h:au)(Q:VH)(T:xN (jY aq 107 (al ⟨M⟩)) h λB1 b=>xV (aS aq 110 b (pA l)) λO=>xA (aS aq 107 b (pA (h.aD))) λS=>xB (qf aq 110 O (al ⟨S⟩) aj b) λU=>cq (!U) (xV (aS aq 110 b (pA l)) λP=>xA (aS aq 107 b (pA (h.aD))) λR=>xU (iJ aq 110 P (al ⟨R⟩) (ah af) b) b λu8 d=>xL (aS aq 108 d (pA k)) λp C K=>xA (aS aq 107 d (pA (h.aD))) λy=>xR (bS aq 108 1 [(0,(al ⟨y⟩))]) d λZ s D j=>xE (cG aq 108 108 (ae p C K) (sA (d.aD) s D) j) j λx B z X f=>xU (bh aq 108 (pA k) (ae x B z) f) f λW a=>xL (aS aq 109 (room a 12) (pA c)) λt H u=>xA (cJ aq 116 [(0,(aE J))]) λA=>xL (aS aq 109 (room a 12) (pA c)) λm v q=>xI ak (aS aq 3 (room a 12) (pA w)) λN=>qX xO 109 (ae m v q) (aE N) 112 (room a 12) λr=>xA (cJ aq 118 [(0,(al ⟨A⟩)),(1,(.pointer r))]) λo=>zN (jY aq 118 (al ⟨o⟩)) λe=>zR (bS aq 109 1 [(0,(pA (a.aD+8)))]) λi L I=>xE (cG aq 109 109 (ae t H u) (sA (a.aD+9) L I) (cr (room a 12) a.aD [(9,i),(8,e)])) (cr (room a 12) a.aD [(9,i),(8,e)]) λF G E Y g=>xU (bh aq 109 (pA c) (ae F G E) g) g λV n=>Q (av ⟨[]⟩) n) (Q (av ⟨[]⟩) b)):aX 70 [(aE J),(al ⟨M⟩),(pA l),(pA k),(pA c),(pA w)] h Q:=hH aai Tryz.func70 (bD T)
noncomputable def eM:FD:=gU Tryz.f69 [((pq 75),[2,4,7,30,31,32]),((pq 40139),[2,4,7,8,9,30,31,32,64,65,66]),((pq 303),[2,4,117,118,119])]
abbrev iT(e:Nat)(g h:LV)(f:Nat)(a:OA)(n c:Nat)(b:OA)(m d:Nat)(i:Nat):LV:=[(aN (.func e) ⟨g⟩ ⟨h⟩),(pA f),(ae b m d),(ae a n c),(iA n),(iA i)]
abbrev ez(e:Nat)(g k:LV)(f:Nat)(a:OA)(n c:Nat)(b:OA)(m d h i:Nat)(j:Nat):LV:=[(aN (.func e) ⟨g⟩ ⟨k⟩),(pA f),(ae b m d),(iA i),(pA h),(ae a n c),(iA n),(iA i),(ae b m d),(iA m),(iA j)]
abbrev pL(a:Nat)(e f:LV)(c:Nat)(b:OA)(m d:Nat)(i:Nat):LV:=[(aN (.func a) ⟨e⟩ ⟨f⟩),(pA c),(ae b m d),(iA m),(iA i)]
theorem TF(d v:LV)(i:Nat)(s u:LV)(h:au)(Q:VH)(x:xN (jY aq 24 (al ⟨d⟩)) h λB b=>xN (jY aq 107 (al ⟨v⟩)) b λC a=>qM 24 (pA (h.aD)) 3 22 (room a 18) λw z y=>xP (aY aq 107 (pA (b.aD)) 0) λA=>kM 105 (bw A) 0 (room a 18) λp=>H3 22 (ae w z y) (aE p) 44 1 λt=>xL (aS aq 42 (room a 18) (bw t)) λe c r=>qM 24 (pA (h.aD)) 3 22 (room a 18) λj n l=>xP (aY aq 107 (pA (b.aD)) 0) λg=>kM 105 (bw g) 1 (room a 18) λq=>H3 22 (ae j n l) (aE q) 44 1 λk=>xL (aS aq 42 (room a 18) (bw k)) λf o m=>cw eM (pq 75) [(aN (.func i) ⟨s⟩ ⟨u⟩),(pA (b.aD)),(ae f o m),(ae e c r),(iA c),(aE 0)] (room a 18) (eu eM (pq 43) Q)):aX 69 [(al ⟨d⟩),(al ⟨v⟩),(aN (.func i) ⟨s⟩ ⟨u⟩)] h Q:=hH eM Tryz.func69 (bD x)
theorem Bo(M N:LV)(g:Nat)(j k:LV)(f:Nat)(a:OA)(n c:Nat)(b:OA)(m d:Nat)(l:Nat->Nat->au->Prop)(Q:VH)(step:∀(mz:Nat) (i:Nat) (A:Nat->ag) (h:au),l mz i h->cq (decide ((i:Int)<(n:Int))) (qX xA 42 (ae a n c) (iA i) 46 h λy=>xN (cP aq 46) h λL o=>xU (bh aq 46 (pA (h.aD)) (al ⟨y⟩) o) o λK e=>kM 46 (pA (h.aD)) 0 e λq=>cq ((q==0)) (kM 107 (pA f) 1 e λJ=>cq ((J==0)) (kM 46 (pA (h.aD)) 3 e λD=>xP (aY aq 107 (pA f) 0) λC=>kM 105 (bw C) 1 e λI=>xA (cJ aq 105 [(0,(aE D)),(1,(aE I))]) λz=>xA (cJ aq 107 [(0,(al ⟨z⟩)),(1,(aE 2))]) λF=>cq (cQ g YB) (aX g (j++[(aE 0),(al ⟨F⟩)]++k) e λH x=>H=(av ⟨[]⟩)/\cw eM (pq 40139) [(aN (.func g) ⟨j⟩ ⟨k⟩),(pA f),(ae b m d),(iA i),(pA (h.aD)),(ae a n c),(iA n),(iA i),(ae b m d),(iA m),(aE 0)] x (fQ eM (pq 371) (pq 75) (RR eM (pq 75) (jg (iT g j k f a n c b m d) l) mz (eu eM (pq 43) Q)))) False) (kM 46 (pA (h.aD)) 3 e λG=>xP (aY aq 107 (pA f) 0) λr=>kM 105 (bw r) 1 e λB=>xA (cJ aq 105 [(0,(aE G)),(1,(aE B))]) λE=>kM 107 (pA f) 1 e λt=>xA (cJ aq 107 [(0,(al ⟨E⟩)),(1,(aE t))]) λv=>cq (cQ g YB) (aX g (j++[(aE 0),(al ⟨v⟩)]++k) e λw s=>w=(av ⟨[]⟩)/\cw eM (pq 40139) [(aN (.func g) ⟨j⟩ ⟨k⟩),(pA f),(ae b m d),(iA i),(pA (h.aD)),(ae a n c),(iA n),(iA i),(ae b m d),(iA m),(aE 0)] s (fQ eM (pq 371) (pq 75) (RR eM (pq 75) (jg (iT g j k f a n c b m d) l) mz (eu eM (pq 43) Q)))) False)) (cw eM (pq 40139) [(aN (.func g) ⟨j⟩ ⟨k⟩),(pA f),(ae b m d),(iA i),(pA (h.aD)),(ae a n c),(iA n),(iA i),(ae b m d),(iA m),(aE 0)] e (fQ eM (pq 371) (pq 75) (RR eM (pq 75) (jg (iT g j k f a n c b m d) l) mz (eu eM (pq 43) Q))))) (kM 107 (pA f) 1 h λu=>cq ((u==1)) (cw eM (pq 303) [(aN (.func g) ⟨j⟩ ⟨k⟩),(pA f),(ae b m d),(iA m),(aE 0)] h (eu eM (pq 175) Q)) (Q (av ⟨[]⟩) h)))(mz:Nat){i:Nat}{h:au}(p:l mz i h):cw eM (pq 75) (iT g j k f a n c b m d i) h (eu eM (pq 43) Q):=
 gm (iT g j k f a n c b m d) l (λmz i A h p=>bD (step mz i A h p)) mz p
theorem Bp(mv qv:LV)(f:Nat)(k l:LV)(o:Nat)(a:OA)(n c:Nat)(b:OA)(m d:Nat)(g:Nat)(s:Nat->Nat->au->Prop)(mz i:Nat)(p:Nat->Nat->au->Prop)(Q:VH)(step:∀(q:Nat) (j:Nat) (zz:Nat->ag) (h:au),p q j h->cq (decide ((j:Int)<(m:Int))) (qX xA 42 (ae b m d) (iA j) 46 h λT=>xN (cP aq 46) h λy3 t=>xU (bh aq 46 (pA (h.aD)) (al ⟨T⟩) t) t λy2 e=>kM 46 (pA g) 0 e λx5=>kM 46 (pA (h.aD)) 0 e λy0=>cq ((x5 !=y0)) (ct (jg (ez f k l o a n c b m d g i) p) q [(aN (.func f) ⟨k⟩ ⟨l⟩),(pA o),(ae b m d),(iA i),(pA g),(ae a n c),(iA n),(iA i),(ae b m d),(iA m),(aE (ai ak ((j:Int)+1)))] e) (kM 107 (pA o) 1 e λx6=>cq ((x6==0)) (cq (((i:Int)==(j:Int))) (kM 46 (pA g) 0 e λx3=>kM 46 (pA g) 3 e λx0=>kM 46 (pA (h.aD)) 3 e λx2=>xA (cJ aq 105 [(0,(aE x0)),(1,(aE x2))]) λU=>xA (cJ aq 107 [(0,(al ⟨U⟩)),(1,(aE 0))]) λx8=>cq (cQ f YB) (aX f (k++[(aE x3),(al ⟨x8⟩)]++l) e λx4 Y=>x4=(av ⟨[]⟩)/\ct (jg (ez f k l o a n c b m d g i) p) q [(aN (.func f) ⟨k⟩ ⟨l⟩),(pA o),(ae b m d),(iA i),(pA g),(ae a n c),(iA n),(iA i),(ae b m d),(iA m),(aE (ai ak ((j:Int)+1)))] Y) False) (kM 107 (pA o) 1 e λu=>cq ((u==0)) (cq ((u==0)) (kM 46 (pA g) 0 e λS=>kM 46 (pA g) 3 e λx1=>kM 46 (pA (h.aD)) 3 e λZ=>xA (cJ aq 105 [(0,(aE x1)),(1,(aE Z))]) λx9=>xA (cJ aq 107 [(0,(al ⟨x9⟩)),(1,(aE 1))]) λX=>cq (cQ f YB) (aX f (k++[(aE S),(al ⟨X⟩)]++l) e λV W=>V=(av ⟨[]⟩)/\ct (jg (ez f k l o a n c b m d g i) p) q [(aN (.func f) ⟨k⟩ ⟨l⟩),(pA o),(ae b m d),(iA i),(pA g),(ae a n c),(iA n),(iA i),(ae b m d),(iA m),(aE (ai ak ((j:Int)+1)))] W) False) (ct (jg (ez f k l o a n c b m d g i) p) q [(aN (.func f) ⟨k⟩ ⟨l⟩),(pA o),(ae b m d),(iA i),(pA g),(ae a n c),(iA n),(iA i),(ae b m d),(iA m),(aE (ai ak ((j:Int)+1)))] e)) (kM 46 (pA g) 0 e λx7=>cq (decide (x7>0)) (kM 46 (pA g) 0 e λy1=>kM 46 (pA g) 3 e λw=>kM 46 (pA (h.aD)) 3 e λJ=>xA (cJ aq 105 [(0,(aE w)),(1,(aE J))]) λO=>xA (cJ aq 107 [(0,(al ⟨O⟩)),(1,(aE 1))]) λE=>cq (cQ f YB) (aX f (k++[(aE y1),(al ⟨E⟩)]++l) e λv z=>v=(av ⟨[]⟩)/\ct (jg (ez f k l o a n c b m d g i) p) q [(aN (.func f) ⟨k⟩ ⟨l⟩),(pA o),(ae b m d),(iA i),(pA g),(ae a n c),(iA n),(iA i),(ae b m d),(iA m),(aE (ai ak ((j:Int)+1)))] z) False) (ct (jg (ez f k l o a n c b m d g i) p) q [(aN (.func f) ⟨k⟩ ⟨l⟩),(pA o),(ae b m d),(iA i),(pA g),(ae a n c),(iA n),(iA i),(ae b m d),(iA m),(aE (ai ak ((j:Int)+1)))] e)))) (kM 107 (pA o) 1 e λr=>cq ((r==0)) (cq ((r==0)) (kM 46 (pA g) 0 e λG=>kM 46 (pA g) 3 e λR=>kM 46 (pA (h.aD)) 3 e λF=>xA (cJ aq 105 [(0,(aE R)),(1,(aE F))]) λx=>xA (cJ aq 107 [(0,(al ⟨x⟩)),(1,(aE 1))]) λD=>cq (cQ f YB) (aX f (k++[(aE G),(al ⟨D⟩)]++l) e λN L=>N=(av ⟨[]⟩)/\ct (jg (ez f k l o a n c b m d g i) p) q [(aN (.func f) ⟨k⟩ ⟨l⟩),(pA o),(ae b m d),(iA i),(pA g),(ae a n c),(iA n),(iA i),(ae b m d),(iA m),(aE (ai ak ((j:Int)+1)))] L) False) (ct (jg (ez f k l o a n c b m d g i) p) q [(aN (.func f) ⟨k⟩ ⟨l⟩),(pA o),(ae b m d),(iA i),(pA g),(ae a n c),(iA n),(iA i),(ae b m d),(iA m),(aE (ai ak ((j:Int)+1)))] e)) (kM 46 (pA g) 0 e λI=>cq (decide (I>0)) (kM 46 (pA g) 0 e λH=>kM 46 (pA g) 3 e λC=>kM 46 (pA (h.aD)) 3 e λy=>xA (cJ aq 105 [(0,(aE C)),(1,(aE y))]) λA=>xA (cJ aq 107 [(0,(al ⟨A⟩)),(1,(aE 1))]) λB=>cq (cQ f YB) (aX f (k++[(aE H),(al ⟨B⟩)]++l) e λP M=>P=(av ⟨[]⟩)/\ct (jg (ez f k l o a n c b m d g i) p) q [(aN (.func f) ⟨k⟩ ⟨l⟩),(pA o),(ae b m d),(iA i),(pA g),(ae a n c),(iA n),(iA i),(ae b m d),(iA m),(aE (ai ak ((j:Int)+1)))] M) False) (ct (jg (ez f k l o a n c b m d g i) p) q [(aN (.func f) ⟨k⟩ ⟨l⟩),(pA o),(ae b m d),(iA i),(pA g),(ae a n c),(iA n),(iA i),(ae b m d),(iA m),(aE (ai ak ((j:Int)+1)))] e))))) (ct (jg (iT f k l o a n c b m d) s) mz [(aN (.func f) ⟨k⟩ ⟨l⟩),(pA o),(ae b m d),(ae a n c),(iA n),(aE (ai ak ((i:Int)+1)))] h))(q:Nat){j:Nat}{h:au}(K:p q j h):cw eM (pq 40139) (ez f k l o a n c b m d g i j) h (fQ eM (pq 371) (pq 75) (RR eM (pq 75) (jg (iT f k l o a n c b m d) s) mz (eu eM (pq 43) Q))):=
 gm (ez f k l o a n c b m d g i) p (λq j zz h K=>bD (step q j zz h K)) q K
theorem Br(A B:LV)(f:Nat)(j k:LV)(g:Nat)(b:OA)(m d:Nat)(e:Nat->Nat->au->Prop)(Q:VH)(step:∀(a:Nat) (i:Nat) (x:Nat->ag) (h:au),e a i h->cq (decide ((i:Int)<(m:Int))) (qX xA 42 (ae b m d) (iA i) 46 h λr=>xN (cP aq 46) h λy l=>xU (bh aq 46 (pA (h.aD)) (al ⟨r⟩) l) l λz c=>kM 46 (pA (h.aD)) 0 c λt=>cq ((t==0)) (xP (aY aq 107 (pA g) 0) λu=>kM 105 (bw u) 0 c λs=>kM 46 (pA (h.aD)) 3 c λp=>xA (cJ aq 105 [(0,(aE s)),(1,(aE p))]) λw=>xA (cJ aq 107 [(0,(al ⟨w⟩)),(1,(aE 1))]) λv=>cq (cQ f YB) (aX f (j++[(aE 0),(al ⟨v⟩)]++k) c λn o=>n=(av ⟨[]⟩)/\ct (jg (pL f j k g b m d) e) a [(aN (.func f) ⟨j⟩ ⟨k⟩),(pA g),(ae b m d),(iA m),(aE (ai ak ((i:Int)+1)))] o) False) (ct (jg (pL f j k g b m d) e) a [(aN (.func f) ⟨j⟩ ⟨k⟩),(pA g),(ae b m d),(iA m),(aE (ai ak ((i:Int)+1)))] c)) (Q (av ⟨[]⟩) h))(a:Nat){i:Nat}{h:au}(q:e a i h):cw eM (pq 303) (pL f j k g b m d i) h (eu eM (pq 175) Q):=
 gm (pL f j k g b m d) e (λa i x h q=>bD (step a i x h q)) a q
section
abbrev Pl:=Nat×Nat×Nat
def qV(k:Pl):List ag:=[aE (k.1:Int),aE (k.2.1:Int),aE (k.2.2:Int)]
def ju(k:Pl):eA:= .cells (qV k) 107 0 af
theorem Xf(k:Pl):jY aq 107 (al ⟨qV k⟩)=aa (ju k,m4):=by kernel_rfl
theorem vp(k:Nat):aY aq 107 (pA k) 0=aa (pA k):=by kernel_rfl
theorem vr(k:Nat):aY aq 107 (pA k) 1=aa (df k 2):=by kernel_rfl
noncomputable def aff:TypeDesc:=(aq.underlying 107).getD .bool
theorem adP:aq.underlying 107=aa aff:=by kernel_rfl
theorem adb:Go.Ab.isAgg aq 107=af:=by kernel_rfl
theorem Mr:bZ aq 107=aa 3:=by kernel_rfl
section
variable {g:au} {k:Nat} {x:Pl}
theorem ju.all(h:g.get k=aa (ju x)):aS aq 107 g (pA k)=aa (al ⟨qV x⟩):=jr adP adb Mr h (by simp[qV])
theorem ju.l0(h:g.get k=aa (ju x)):aS aq 3 g (df k (0+0))=aa (aE (x.1:Int)):=ej zs zb h (by simp[qV])
theorem ju.l1(h:g.get k=aa (ju x)):aS aq 3 g (df k (0+1))=aa (aE (x.2.1:Int)):=ej zs zb h (by simp[qV])
theorem ju.l2(h:g.get k=aa (ju x)):aS aq 3 g (df k 2)=aa (aE (x.2.2:Int)):=ej zs zb h (by simp[qV])
end
theorem Aj(p q h:Int):cJ aq 107 [(0,(al ⟨[aE p,aE q]⟩)),(1,(aE h))]=aa (al ⟨[aE p,aE q,aE h]⟩):=by kernel_rfl
theorem Ti{x y:Int}{q:Nat}(a:x=(n:Int))(c:y=(q:Int))(b:z=(m:Int)):([aE x,aE y,aE z]:List ag)=qV (n,q,m):=by rw[a,c,b];rfl
def MF(q h:Nat)(a:eC):List (Int×Pl):=if a.i=0 then[(0,(a.t.toNat,q,if h=0 then 2 else h))]else[]
def MZ(h i:Nat)(a:eC)(k:Nat)(b:eC):List (Int×Pl):=
 if a.i=b.i then(if h=0 then[(a.i,(a.t.toNat,b.t.toNat,if i=k then 0 else 1))]else if 0<a.i then[(a.i,(a.t.toNat,b.t.toNat,1))]else[])else[]
def Bn(h i:Nat)(a:eC):List eC->Nat->List (Int×Pl)
 |[],_=>[]
 |b::r,k=>MZ h i a k b++Bn h i a r (k+1)
def Fb(q h:Nat)(b:List eC):List eC->Nat->List (Int×Pl)
 |[],_=>[]
 |a::r,i=>MF q h a++Bn h i a b 0++Fb q h b r (i+1)
def R7(p:Nat)(b:eC):List (Int×Pl):=if b.i=0 then[(0,(p,b.t.toNat,1))]else[]
def Wn(M:cm)(k:Pl):List (Int×Pl):=Fb k.2.1 k.2.2 (dp M k.2.1) (dp M k.1) 0++(if k.2.2=1 then(dp M k.2.1).flatMap (R7 k.1)else[])
theorem KI(h i:Nat)(a:eC):∀(l m:List eC)(k:Nat),Bn h i a (l++m) k=Bn h i a l k++Bn h i a m (k+l.length)
 |[],m,k=>rfl
 |b::l,m,k=>by
  rw[fh,Bn,Bn,KI h i a l m (k+1),bP,bU,Nat.add_assoc,Nat.add_comm 1]
theorem KJ(q h:Nat)(a:List eC):∀(l m:List eC)(k:Nat),Fb q h a (l++m) k=Fb q h a l k++Fb q h a m (k+l.length)
 |[],m,k=>rfl
 |b::l,m,k=>by
  rw[fh,Fb,Fb,KJ q h a l m (k+1),bP,bP,bP,bU,Nat.add_assoc,Nat.add_comm 1]
theorem Ca{h i:Nat}{a:eC}{x:Int×Pl}:∀{l:List eC}{k:Nat},x∈Bn h i a l k↔ ∃j b,l[j]?=aa b/\x∈MZ h i a (k+j) b
 |[],k=>by simp[Bn]
 | c::l,k=>by
  rw[Bn,bG,Ca];constructor
  ·rintro(d|⟨j,b,d,e⟩)
   ·exact⟨0,c,rfl,d⟩
   ·exact⟨j+1,b,d,by rw[show k+(j+1)=k+1+j by omega];exact e⟩
  ·rintro⟨j,b,d,e⟩
   cases j with
   |zero=>
    obtain rfl:c=b:=by simpa using d
    exact .inl e
   |succ j=>exact .inr ⟨j,b,by simpa using d,by rw[show k+1+j=k+(j+1) by omega];exact e⟩
theorem SL{q h:Nat}{f:List eC}{x:Int×Pl}:∀{l:List eC}{k:Nat},x∈Fb q h f l k↔ ∃i a,l[i]?=aa a/\(x∈MF q h a\/x∈Bn h (k+i) a f 0)
 |[],k=>by simp[Fb]
 | c::l,k=>by
  rw[Fb,bG,bG,SL];constructor
  ·rintro(d|⟨j,b,d,e⟩)
   ·exact⟨0,c,rfl,d⟩
   ·exact⟨j+1,b,d,by rw[show k+(j+1)=k+1+j by omega];exact e⟩
  ·rintro⟨j,b,d,e⟩
   cases j with
   |zero=>
    obtain rfl:c=b:=by simpa using d
    exact .inl e
   |succ j=>exact .inr ⟨j,b,by simpa using d,by rw[show k+1+j=k+(j+1) by omega];exact e⟩
theorem SK(x:Good M){k v:Pl}{c:Int}:(c,v)∈Wn M k↔WA M k c v:=by
 obtain⟨p,q,h⟩:=k;unfold Wn;rw[bG,SL];dsimp only;constructor
 ·rintro(⟨i,a,g,m|m⟩|m)
  ·unfold MF at m;split at m
   ·next l=>
    have:=ba.1 m;injection this with o r
    subst o;subst r;exact .sil (aM g) l
   ·cases m
  ·obtain⟨j,b,f,d⟩:=Ca.1 m;rw[bJ,bJ]at d;unfold MZ at d;split at d
   ·next e=>
    split at d
    ·next l=>
     subst l;have:=ba.1 d;injection this with o r
     subst o;subst r;by_cases s:i=j
     ·subst s;rw[iP rfl];exact .same g f e
     ·rw[iN s];exact .fork g f e s
    ·next l=>
     split at d
     ·next z=>
      have:=ba.1 d;injection this with o r
      subst o;subst r;exact .read (aM g) (aM f) e (by omega) l
     ·cases d
   ·cases d
  ·split at m
   ·next t=>
    obtain⟨b,f,d⟩:=List.mem_flatMap.1 m;unfold R7 at d;split at d
    ·next l=>
     have:=ba.1 d;injection this with o r
     subst o;subst r;subst t;exact .Zl f l
    ·cases d
   ·cases m
 ·intro w
  cases w with
  |@sil _ _ _ a g l=>
   obtain⟨i,u⟩:=getElem?_of_mem g;exact .inl ⟨i,a,u,.inl (by unfold MF;rw[iP l];exact ba.2 rfl)⟩
  |@same _ _ i a b g f e=>
   exact .inl ⟨i,a,g,.inr (Ca.2 ⟨i,b,f,by unfold MZ;rw[iP e,iP rfl,iP (by omega)];exact ba.2 rfl⟩)⟩
  |@fork _ _ i k a b g f e n=>
   exact .inl ⟨i,a,g,.inr (Ca.2 ⟨k,b,f,by unfold MZ;rw[iP e,iP rfl,iN (by omega)];exact ba.2 rfl⟩)⟩
  |@read _ _ _ a b g f e l t=>
   obtain⟨i,u⟩:=getElem?_of_mem g;obtain⟨j,y⟩:=getElem?_of_mem f;have:=(lP x g).i0;exact .inl ⟨i,a,u,.inr (Ca.2 ⟨j,b,y,by unfold MZ;rw[iP e,iN t,iP (by omega)];exact ba.2 rfl⟩)⟩
  |@Zl _ _ b f l=>
   exact .inr (by rw[iP rfl];exact List.mem_flatMap.2 ⟨b,f,by unfold R7;rw[iP l];exact ba.2 rfl⟩)
end
section
section
variable {h0:au} {M:cm}
theorem WQ(w0:Wf h0){S:Option aJ}{R P:Nat}(y0:eY h0 (ae S R P) M.aI)(gd:Good M)(zA:∀s∈M.aI,s.bB.length<=2000){h:au}{L:List jm}{k:Pl}(hp:k.1<M.aI.length)(hq:k.2.1<M.aI.length){A:Nat}{fa fc:List ag}(hf:cQ A YB=af)
  (I:List (Int×Pl)->au->List jm->Prop) (Y:∀l g L,I l g L->OL h0 g L) (hG:∀l g L t,I l g L->Ok g t->I l t L) (hi:I [] h L)
  (hs:∀D x z8,Wn M k=D++x::z8->∀g L,I D g L->aX A (fa++[aE x.1,al ⟨qV x.2⟩]++fc) g (λv t=>v=av ⟨[]⟩/\∃m,I (D++[x]) t m/\pz g L t m)):
  aX 69 [al ⟨cU M S R P⟩,al ⟨qV k⟩,aN (.func A) ⟨fa⟩ ⟨fc⟩] h (λv t=>v=av ⟨[]⟩/\∃m,I (Wn M k) t m/\pz h L t m):=by
 obtain⟨p,q,d⟩:=k;refine TF (cU M S R P) (qV (p,q,d)) A fa fc h _ ⟨_,kW M S R P,_,Xf (p,q,d),?_⟩;have o:=Y _ _ _ hi;have e1:=(Ok.refl o.ok.wf).push (Bm M S R P);have m1:=o.Lc (Bm M S R P);have i1:=hG _ _ _ _ hi e1;have c1:=(o.grow e1).2;generalize h.push (Bm M S R P)=O at*;have o1:=Y _ _ _ i1;have e2:=(Ok.refl o1.ok.wf).push (ju (p,q,d));have m2:=o1.Lc (ju (p,q,d));have i2:=hG _ _ _ _ i1 e2;have z7:=(o1.grow e2).2;have m1:=z7 _ _ m1;have c2:=c1.trans z7;generalize O.push (ju (p,q,d))=g2 at*;have o2:=Y _ _ _ i2;have e3:=(Ok.refl o2.ok.wf).room 18;have y3:=(o2.grow e3).2;have m1:=y3 _ _ m1;have m2:=y3 _ _ m2;have i2:=hG _ _ _ _ i2 e3;have c2:=c2.trans y3;dsimp only;generalize v6:room g2 18=g3 at*;obtain⟨s,u3,ea,_,ms⟩:=oi hp;obtain⟨f,u8,eb,_,z0⟩:=oi hq;obtain⟨b,o,x,y,z,d1,d2,d3,d4,ar⟩:=y0.KM (Y _ _ _ i2).ok u3;obtain⟨b',o',K,E,J,u9,v8,v5,u4,y6⟩:=y0.KM (Y _ _ _ i2).ok u8;have hy:y=s.bB.length:=ar.len;have v9:E=f.bB.length:=y6.len;have v7:=zA s ms;have v3:=zA f z0;have l1:aS aq 22 g3 (df h.aD 3)=aa (ae S R P):=ej zp EO m1.1 (by simp[cU]);refine⟨_,dC _,_,_,_,l1,_,vp _,_,K1 _ _,_,ju.l0 m2.1,_,d1,_,fG _ _,_,_,_,d4,_,dC _,_,_,_,l1,_,vp _,_,Fe _ _,_,ju.l1 m2.1,_,u9,_,fG _ _,_,_,_,u4,?_⟩;dsimp only at ea eb;have x4:Wn M (p,q,d)=Fb q d f.bB s.bB 0++(if d=1 then f.bB.flatMap (R7 p)else[]):=by unfold Wn;dsimp only;rw[ea,eb]
 refine Bo (cU M S R P) (qV (p,q,d)) A fa fc O.aD x y z K E J (λmz i g=>i<=s.bB.length/\mz=s.bB.length-i/\∃m,I (Fb q d f.bB (s.bB.take i) 0) g m/\pz g3 L g m) _ (λmz i=>?_) s.bB.length (i:=0) ⟨ck _,rfl,L,i2,pz.refl _ _⟩;intros;rename_i g x9;obtain⟨f1,rfl,m,iL,hc⟩:=x9;have og:=Y _ _ _ iL;have B:=hc _ _ m2;refine az (λG=>?_) (λG=>?_)
 ·have G:=dT G;have z1:i<s.bB.length:=by omega
  obtain⟨a,ha⟩:∃a,s.bB[i]?=aa a:=⟨_,gE z1⟩
  have x9:=gd.bB s ms a (aM ha);obtain⟨t1,t2⟩:=nz ha;obtain⟨bb,oo,x1,x2,_⟩:=(ar.ok og.ok).at_ ha;obtain⟨u,p1,p2,p3⟩:=wo og.ok.wf a;refine⟨_,x1,_,x2,_,EP,u,p1,?_⟩;have i3:=hG _ _ _ _ iL p2;have c3:=(og.grow p2).2;have N:Im (u.app (g.push Ks)) m g.aD _:=og.new (aT _) p3;have B:=c3 _ _ B;have hc:=hc.trans c3;generalize u.app (g.push Ks)=V at*;have o3:=Y _ _ _ i3;have y4:(s.bB.take i).length=i:=by rw[bq];omega
  have y9:Wn M (p,q,d)=Fb q d f.bB (s.bB.take i) 0++(MF q d a++(Bn d i a f.bB 0++(Fb q d f.bB (s.bB.drop (i+1)) (i+1)++(if d=1 then f.bB.flatMap (R7 p)else[])))):=by
   rw[x4]
   conv=>lhs;rw[t1,KJ,y4,bJ,Fb]
   simp only[bP]
  have v0:Fb q d f.bB (s.bB.take (i+1)) 0=Fb q d f.bB (s.bB.take i) 0++(MF q d a++Bn d i a f.bB 0):=by
   rw[t2,KJ,y4,bJ];show _++(MF q d a++Bn d i a f.bB 0++Fb q d f.bB [] (i+1))=_;rw[Fb,cp]
  have u2:ai ak ((i:Int)+1)=((i+1:Nat):Int):=cH z1 (by omega);have z6:a.t=((a.t.toNat:Nat):Int):=by have:=x9.t0;omega
  generalize v4:Fb q d f.bB (s.bB.take i) 0=D at*;have Z:∀(W:au)(T:List jm),I (D++MF q d a) W T->pz V m W T->cw eM (pq 40139) (ez A fa fc O.aD x y z K E J g.aD i 0) W (fQ eM (pq 371) (pq 75) (RR eM (pq 75) (jg (iT A fa fc O.aD x y z K E J) (λmz i g=>i<=s.bB.length/\mz=s.bB.length-i/\∃m,I (Fb q d f.bB (s.bB.take i) 0) g m/\pz g3 L g m)) (s.bB.length-i) (fQ eM (pq 43) [] (mK eM (λv t=>v=av ⟨[]⟩/\∃m,I (Wn M (p,q,d)) t m/\pz h L t m))))):=by
   intro W T i5 c5;refine Bp (cU M S R P) (qV (p,q,d)) A fa fc O.aD x y z K E J g.aD _ _ i (λF j t=>j<=f.bB.length/\F=f.bB.length-j/\∃w,I (D++MF q d a++Bn d i a (f.bB.take j) 0) t w/\pz V m t w) _ (λF j=>?_) f.bB.length (j:=0) ⟨ck _,rfl,T,by rw[dQ,Bn,cp];exact i5,c5⟩;intros;rename_i g6 u0;obtain⟨f6,rfl,L6,i6,x7⟩:=u0;have o6:=Y _ _ _ i6;have B:=x7 _ _ B;have N:=x7 _ _ N;refine az (λG=>?_) (λG=>?_)
   ·have G:=dT G;have x3:j<f.bB.length:=by omega
    obtain⟨c,Q⟩:∃c,f.bB[j]?=aa c:=⟨_,gE x3⟩
    have x5:=gd.bB f z0 c (aM Q);obtain⟨v1,v2⟩:=nz Q;obtain⟨cc,oc,y1,y2,_⟩:=(y6.ok o6.ok).at_ Q;obtain⟨u6,r1,r2,r3⟩:=wo o6.ok.wf c;refine⟨_,y1,_,y2,_,EP,u6,r1,?_⟩;have i7:=hG _ _ _ _ i6 r2;have c7:=(o6.grow r2).2;have B:_=aa (ju (p,q,d)):=(c7 _ _ B).1;have N:AB _ _ a:=(c7 _ _ N).1;have z4:=x7.trans c7;generalize u6.app (g6.push Ks)=g7 at*;have x0:ai ak ((j:Int)+1)=((j+1:Nat):Int):=cH x3 (by omega);have y5:c.t=((c.t.toNat:Nat):Int):=by have:=x5.t0;omega
    have z2:(f.bB.take j).length=j:=by rw[bq];omega
    have z3:Bn d i a (f.bB.take (j+1)) 0=Bn d i a (f.bB.take j) 0++MZ d i a j c:=by
     rw[v2,KI,z2,bJ];show _++(MZ d i a j c++Bn d i a [] (j+1))=_;rw[Bn,cp]
    have u1:Bn d i a f.bB 0=Bn d i a (f.bB.take j) 0++(MZ d i a j c++Bn d i a (f.bB.drop (j+1)) (j+1)):=by
     conv=>lhs;rw[v1,KI,z2,bJ,Bn]
    have z5:MZ d i a j c=[]->ct (jg (ez A fa fc O.aD x y z K E J g.aD i) (λF j t=>j<=f.bB.length/\F=f.bB.length-j/\∃w,I (D++MF q d a++Bn d i a (f.bB.take j) 0) t w/\pz V m t w)) (f.bB.length-j) [(aN (.func A) ⟨fa⟩ ⟨fc⟩),(pA O.aD),(ae K E J),(iA i),(pA g.aD),(ae x y z),(iA y),(iA i),(ae K E J),(iA E),(aE (ai ak ((j:Int)+1)))] g7:=λhB=>by
     rw[x0];exact fC (a:=j+1) (f.bB.length-(j+1)) (by omega) ⟨by omega,rfl,L6,by rw[z3,hB,cp];exact i7,z4⟩
    have u7:∀xx:Int×Pl,MZ d i a j c=[xx]->aX A (fa++[aE xx.1,al ⟨qV xx.2⟩]++fc) g7 (λv h=>v=av ⟨[]⟩/\ct (jg (ez A fa fc O.aD x y z K E J g.aD i) (λF j t=>j<=f.bB.length/\F=f.bB.length-j/\∃w,I (D++MF q d a++Bn d i a (f.bB.take j) 0) t w/\pz V m t w)) (f.bB.length-j) [(aN (.func A) ⟨fa⟩ ⟨fc⟩),(pA O.aD),(ae K E J),(iA i),(pA g.aD),(ae x y z),(iA y),(iA i),(ae K E J),(iA E),(aE (ai ak ((j:Int)+1)))] h):=λxx hB=>by
     have x6:Wn M (p,q,d)=(D++MF q d a++Bn d i a (f.bB.take j) 0)++xx::(Bn d i a (f.bB.drop (j+1)) (j+1)++(Fb q d f.bB (s.bB.drop (i+1)) (i+1)++(if d=1 then f.bB.flatMap (R7 p)else[]))):=by
      rw[y9,u1,hB];simp only[bP,fh,dL]
     refine(hs _ _ _ x6 g7 L6 i7).mono ?_;rintro _ g8 ⟨rfl,L8,i8,c8⟩;refine⟨rfl,?_⟩;rw[x0];exact fC (a:=j+1) (f.bB.length-(j+1)) (by omega) ⟨by omega,rfl,L8,by rw[z3,hB,<-bP];exact i8,z4.trans c8⟩
    have x8:∀r:Nat,MZ d i a j c=[(a.i,(a.t.toNat,c.t.toNat,r))]->∀(Kx:Prop),cq (cQ A YB) (aX A (fa++[aE a.i,al ⟨[aE a.t,aE c.t,aE (r:Int)]⟩]++fc) g7 (λv h=>v=av ⟨[]⟩/\ct (jg (ez A fa fc O.aD x y z K E J g.aD i) (λF j t=>j<=f.bB.length/\F=f.bB.length-j/\∃w,I (D++MF q d a++Bn d i a (f.bB.take j) 0) t w/\pz V m t w)) (f.bB.length-j) [(aN (.func A) ⟨fa⟩ ⟨fc⟩),(pA O.aD),(ae K E J),(iA i),(pA g.aD),(ae x y z),(iA y),(iA i),(ae K E J),(iA E),(aE (ai ak ((j:Int)+1)))] h)) False:=λr hB Kx=>by
     refine az (λ_=>?_) (λqx=>by rw[hf]at qx;cases qx);rw[Ti z6 y5 rfl];exact u7 _ hB
    refine⟨_,j0 _ _,_,N.l0,_,j0 _ _,_,r3.l0,az (λn=>?_) (λn=>?_)⟩
    ·have n:a.i≠c.i:=by simpa using n
     exact z5 (by unfold MZ;rw[iN n])
    have n:a.i=c.i:=by simpa using n
    refine⟨_,vr _,_,ju.l2 B,az (λC=>?_) (λC=>?_)⟩
    ·have C:d=0:=by
      have:(d:Int)=0:=by simpa using C
      omega
     refine az (λH=>?_) (λH=>?_)
     ·have H:i=j:=by
       have:(i:Int)=j:=by simpa using H
       omega
      exact⟨_,j0 _ _,_,N.l0,_,jh _ _,_,N.l3,_,jh _ _,_,r3.l3,_,Ai _ _,_,Aj _ _ _,x8 0 (by unfold MZ;rw[iP n,iP C,iP H]) True⟩
     ·have H:i≠j:=by
       intro e;rw[e]at H;simp at H
      refine⟨_,vr _,_,ju.l2 B,az (λq4=>?_) (λq4=>?_)⟩
      ·refine az (λU=>?_) (λU=>by rw[q4]at U;cases U);exact⟨_,j0 _ _,_,N.l0,_,jh _ _,_,N.l3,_,jh _ _,_,r3.l3,_,Ai _ _,_,Aj _ _ _,x8 1 (by unfold MZ;rw[iP n,iP C,iN H]) True⟩
      ·exfalso;have:¬(d:Int)=0:=by simpa using q4
       omega
    ·have C:d≠0:=by
      intro e;rw[e]at C;simp at C
     refine⟨_,vr _,_,ju.l2 B,az (λq4=>?_) (λq4=>?_)⟩
     ·exfalso;have:(d:Int)=0:=by simpa using q4
      omega
     ·refine⟨_,j0 _ _,_,N.l0,az (λU=>?_) (λU=>?_)⟩
      ·have U:0<a.i:=dT U;exact⟨_,j0 _ _,_,N.l0,_,jh _ _,_,N.l3,_,jh _ _,_,r3.l3,_,Ai _ _,_,Aj _ _ _,x8 1 (by unfold MZ;rw[iP n,iN C,iP U]) True⟩
      ·have U:¬0<a.i:=dF U;exact z5 (by unfold MZ;rw[iP n,iN C,iN U])
   ·have G:=dF G;have e:f.bB.take j=f.bB:=bC (by omega);rw[e]at i6;rw[u2];refine fC (s.bB.length-(i+1)) (by omega) ⟨by omega,rfl,L6,?_,hc.trans x7⟩;rw[v0,<-bP];exact i6
  have y7:AB V g.aD a:=N.1;refine⟨_,j0 _ _,_,y7.l0,az (λn=>?_) (λn=>?_)⟩
  ·have n:a.i=0:=by simpa using n
   have y8:∀r:Nat,(if d=0 then 2 else d)=r->∀(Kx:au->Prop),(∀(W:au)(T:List jm),I (D++MF q d a) W T->pz V m W T->Kx W)->cq (cQ A YB) (aX A (fa++[aE 0,al ⟨[aE a.t,aE (q:Int),aE (r:Int)]⟩]++fc) V (λv h=>v=av ⟨[]⟩/\Kx h)) False:=λr hr Kx hK=>by
    refine az (λ_=>?_) (λqx=>by rw[hf]at qx;cases qx);rw[Ti z6 rfl rfl];have hS:MF q d a=[(0,(a.t.toNat,q,r))]:=by unfold MF;rw[iP n,hr]
    rw[hS]at y9 hK;refine(hs D (0,(a.t.toNat,q,r)) _ y9 V m i3).mono ?_;rintro _ g8 ⟨rfl,L8,i8,c8⟩;exact⟨rfl,hK g8 L8 i8 c8⟩
   refine⟨_,vr _,_,ju.l2 B.1,az (λC=>?_) (λC=>?_)⟩
   ·have C:d=0:=by
     have:(d:Int)=0:=by simpa using C
     omega
    exact⟨_,jh _ _,_,y7.l3,_,vp _,_,Fe _ _,_,ju.l1 B.1,_,Ai _ _,_,Aj _ _ _,y8 2 (iP C) _ Z⟩
   ·have C:d≠0:=by
     intro e;rw[e]at C;simp at C
    exact⟨_,jh _ _,_,y7.l3,_,vp _,_,Fe _ _,_,ju.l1 B.1,_,Ai _ _,_,vr _,_,ju.l2 B.1,_,Aj _ _ _,y8 d (iN C) _ Z⟩
  ·have n:a.i≠0:=by simpa using n
   have hS:MF q d a=[]:=by unfold MF;rw[iN n]
   exact Z V m (by rw[hS,cp];exact i3) (pz.refl _ _)
 ·have G:=dF G;have e:s.bB.take i=s.bB:=bC (by omega);rw[e]at iL;refine⟨_,vr _,_,ju.l2 B.1,az (λn=>?_) (λn=>?_)⟩
  rotate_left
  ·have n:d≠1:=by
    intro e;rw[e]at n;simp at n
   rw[x4,iN n,cp];exact⟨rfl,m,iL,c2.trans hc⟩
  have n:d=1:=by
   have:(d:Int)=1:=by simpa using n
   omega
  rw[iP n]at x4;refine Br (cU M S R P) (qV (p,q,d)) A fa fc O.aD K E J (λF j t=>j<=f.bB.length/\F=f.bB.length-j/\∃w,I (Fb q d f.bB s.bB 0++(f.bB.take j).flatMap (R7 p)) t w/\pz g m t w) _ (λF j=>?_) f.bB.length (i:=0) ⟨ck _,rfl,m,by simpa using iL,pz.refl _ _⟩;intros;rename_i W z9;obtain⟨f5,rfl,T,i5,X⟩:=z9;have o5:=Y _ _ _ i5;have B:=X _ _ B;refine az (λG=>?_) (λG=>?_)
  ·have G:=dT G;have x3:j<f.bB.length:=by omega
   obtain⟨c,Q⟩:∃c,f.bB[j]?=aa c:=⟨_,gE x3⟩
   have x5:=gd.bB f z0 c (aM Q);obtain⟨v1,v2⟩:=nz Q;obtain⟨cc,oc,y1,y2,_⟩:=(y6.ok o5.ok).at_ Q;obtain⟨u5,r1,r2,r3⟩:=wo o5.ok.wf c;refine⟨_,y1,_,y2,_,EP,u5,r1,?_⟩;have i6:=hG _ _ _ _ i5 r2;have c6:=(o5.grow r2).2;have B:=c6 _ _ B;have X:=X.trans c6;generalize u5.app (W.push Ks)=g6 at*;have x0:ai ak ((j:Int)+1)=((j+1:Nat):Int):=cH x3 (by omega);have y5:c.t=((c.t.toNat:Nat):Int):=by have:=x5.t0;omega
   refine⟨_,j0 _ _,_,r3.l0,az (λH=>?_) (λH=>?_)⟩
   ·have H:c.i=0:=by simpa using H
    have hC:R7 p c=[(0,(p,c.t.toNat,1))]:=by unfold R7;rw[iP H]
    refine⟨_,vp _,_,K1 _ _,_,ju.l0 B.1,_,jh _ _,_,r3.l3,_,Ai _ _,_,Aj _ _ _,az (λ_=>?_) (λq=>by rw[hf]at q;cases q)⟩;have x6:Wn M (p,q,d)=(Fb q d f.bB s.bB 0++(f.bB.take j).flatMap (R7 p))++(0,(p,c.t.toNat,1))::(f.bB.drop (j+1)).flatMap (R7 p):=by
     rw[x4];have e:=congrArg (List.flatMap (R7 p)) v1;rw[List.flatMap_append,List.flatMap_cons,hC]at e;rw[e];simp only[bP,fh,dL]
    rw[show([aE (((p,q,d):Pl).1:Int),aE c.t,aE 1]:List ag)=qV (p,c.t.toNat,1)from Ti rfl y5 rfl];refine(hs _ _ _ x6 g6 T i6).mono ?_;rintro _ g7 ⟨rfl,L7,i7,c7⟩;refine⟨rfl,?_⟩;rw[x0];refine fC (f.bB.length-(j+1)) (by omega) ⟨by omega,rfl,L7,?_,X.trans c7⟩;rw[v2,List.flatMap_append,List.flatMap_cons,hC,<-bP];exact i7
   ·have H:c.i≠0:=by simpa using H
    rw[x0];refine fC (f.bB.length-(j+1)) (by omega) ⟨by omega,rfl,T,?_,X⟩;rw[v2,List.flatMap_append,List.flatMap_cons,show R7 p c=[] by unfold R7;rw[iN H]];simpa using i6
  ·have G:=dF G;have e:f.bB.take j=f.bB:=bC (by omega);rw[e,<-x4]at i5;exact⟨rfl,T,i5,c2.trans (hc.trans X)⟩
end
end
theorem Xu(a b c d:Int):kY aq 2 105 (al ⟨[aE a,aE b]⟩) (al ⟨[aE c,aE d]⟩)=aa ((a==c)&&(b==d)):=by
 have e:kY aq 2 105 (al ⟨[aE a,aE b]⟩) (al ⟨[aE c,aE d]⟩)=Bool.rec (motive:=λ_=>Option Bool) (aa aj) (Bool.rec (motive:=λ_=>Option Bool) (aa aj) (aa af) (b==d)) (a==c):=by kernel_rfl
 rw[e]
 cases (a==c)<;>cases (b==d)<;>rfl
theorem abk(a b c d e f:Int):kY aq 3 107 (al ⟨[aE a,aE b,aE c]⟩) (al ⟨[aE d,aE e,aE f]⟩)=aa ((a==d)&&(b==e)&&(c==f)):=by
 have h:kY aq 3 107 (al ⟨[aE a,aE b,aE c]⟩) (al ⟨[aE d,aE e,aE f]⟩)=match kY aq 2 105 (al ⟨[aE a,aE b]⟩) (al ⟨[aE d,aE e]⟩)with
  |some af=>Bool.rec (motive:=λ_=>Option Bool) (aa aj) (aa af) (c==f)
  |some aj=>aa aj
  |none=>none:=by kernel_rfl
 rw[h,Xu]
 cases (a==d)<;>cases (b==e)<;>cases (c==f)<;>rfl
theorem XY(x y:Pl):tN aq 107 (al ⟨qV x⟩) (al ⟨qV y⟩)=aa (decide (x=y)):=by
 unfold tN;rw[iP (show nQ (al ⟨qV y⟩)=af from rfl)];rw[show kY aq 3 107 (al ⟨qV x⟩) (al ⟨qV y⟩)=_ from abk ..];by_cases h:x=y
 ·subst h;simp[qV,OW,Hy,Kb]
 ·have:((x.1:Int)==(y.1:Int)&&(x.2.1:Int)==(y.2.1:Int)&&(x.2.2:Int)==(y.2.2:Int))=aj:=by
   refine Bool.eq_false_iff.2 λe=>h ?_;simp only[bg,beq_iff_eq]at e;obtain⟨⟨a,c⟩,b⟩:=e;exact Prod.ext (by omega) (Prod.ext (by omega) (by omega))
  rw[this];simp[h]
def rZ(l:List Pl):List (ag×ag):=l.map λk=>(al ⟨qV k⟩,ah af)
theorem adu(x:Pl):∀(l:List Pl),rS aq 107 (al ⟨qV x⟩) (rZ l)=aa (if x∈l then aa (ah af)else none)
 |[]=>rfl
 | k::l=>by
  show(match tN aq 107 (al ⟨qV x⟩) (al ⟨qV k⟩)with|some af=>aa (aa (ah af))|some aj=>rS aq 107 (al ⟨qV x⟩) (rZ l)|none=>none)=_;rw[XY];by_cases h:x=k
  ·rw[eT h,iP (by rw[h];exact cj ..)]
  ·rw[eF h];dsimp only;rw[adu x l];by_cases a:x∈l
   ·rw[iP a,iP (cF _ a)]
   ·rw[iN a,iN (λe=>(cW.1 e).elim h a)]
theorem SD{x:Pl}:∀{l:List Pl},x∉l->nP aq 107 (al ⟨qV x⟩) (ah af) (rZ l)=aa (rZ (l++[x]))
 |[],_=>rfl
 |k::l,h=>by
  show(match tN aq 107 (al ⟨qV x⟩) (al ⟨qV k⟩)with|some af=>aa ((al ⟨qV x⟩,ah af)::rZ l)|some aj=>(nP aq 107 (al ⟨qV x⟩) (ah af) (rZ l)).map ((al ⟨qV k⟩,ah af)::·)|none=>none)=_;rw[XY,eF (λe=>h (by rw[e];exact cj ..))];dsimp only;rw[SD λe=>h (cF _ e)];rfl
theorem SN:aq.underlying 110=aa (.map 107 4):=by kernel_rfl
theorem ahl:zeroOf aq 4=aa (ah aj):=by kernel_rfl
theorem abZ{l:List Pl}(c:h.get k=aa (.map (rZ l)))(x:Pl):qf aq 110 (.map (aa k)) (al ⟨qV x⟩) aj h=aa (ah (decide (x∈l))):=by
 have b:qf aq 110 (.map (aa k)) (al ⟨qV x⟩) aj h=match (match h.get k with|some (.map a)=>aa a|_=>none),zeroOf aq 4 with
  |some a,aa z=>if rk aq 107 (al ⟨qV x⟩)then match rS aq 107 (al ⟨qV x⟩) a with
   |some (aa v)=>aa v
   |some none=>aa z
   |none=>none else none
  |_,_=>none:=by
  unfold qf dW;dsimp only;rw[SN];rfl
 rw[b,c,ahl];dsimp only;rw[show rk aq 107 (al ⟨qV x⟩)=af by kernel_rfl,iP rfl,adu];by_cases h:x∈l
 ·rw[iP h,eT h]
 ·rw[iN h,eF h]
theorem aaq{l:List Pl}(b:h.get k=aa (.map (rZ l))){x:Pl}(a:x∉l):iJ aq 110 (.map (aa k)) (al ⟨qV x⟩) (ah af) h=aa (undef,.set k (.map (rZ (l++[x])))):=by
 unfold iJ;rw[SN];dsimp only;rw[b];dsimp only;rw[show rk aq 107 (al ⟨qV x⟩)=af by kernel_rfl,iP rfl,SD a];rfl
theorem adf:Go.Ab.isAgg aq 110=aj:=by kernel_rfl
theorem Tb:aq.underlying 108=aa (.slice 107):=by kernel_rfl
theorem ade:Go.Ab.isAgg aq 108=aj:=by kernel_rfl
noncomputable def Z2:TypeInfo:=(aq.info? 107).getD default
theorem agH:fI aq 107=aa Z2:=by kernel_rfl
theorem Rx:Z2.size=3:=by kernel_rfl
theorem Pe:Z2.bytes=24:=by kernel_rfl
theorem agX:eI aq 108=af:=by kernel_rfl
theorem ZW:bZ aq 108=aa 1:=by kernel_rfl
theorem adl(x:Pl):bS aq 108 1 [(0,(al ⟨qV x⟩))]=aa (.cells (qV x) 107 3 af,qe 1 1):=by kernel_rfl
theorem agI:fI aq 112=aa Z3:=by kernel_rfl
theorem agY:eI aq 109=af:=by kernel_rfl
theorem adm(p:Option aJ):bS aq 109 1 [(0,(.pointer p))]=aa (.cells [.pointer p] 112 1 af,qe 1 1):=by cases p<;>kernel_rfl
theorem aa1(a:Int):cJ aq 116 [(0,(aE a))]=aa (al ⟨mvV ⟨a,0,0⟩⟩):=by kernel_rfl
structure PT where
 k:Pl
 ms:List Mv
 p:Option aJ
def inP(M:cm)(k:Pl):Prop:=k.1<M.aI.length/\k.2.1<M.aI.length/\k.2.2<=2
structure UC where
 k5:Nat
 k7:Nat
 k8:Nat
 k9:Nat
 km:Nat
def usL(K:UC)(b d:ag)(a:List PT)(e c:jm):List jm:=[[(K.k7,.cells [b] 108 0 af)],e,[(K.k8,.cells [d] 109 0 af)],c,[(K.km,.map (rZ (a.map PT.k)))]]
structure US(h0:au)(K:UC)(M:cm)(sa:Option aJ)(sn sc:Nat)(us:List PT)(g:au)(L:List jm):Prop where
 o:OL h0 g L
 e:∃lv tv Gl Gt,L=usL K lv tv us Gl Gt/\gQ 107 3 lv (us.map λu=>qV u.k) Gl/\kT 112 tv (us.map λu=> .pointer u.p) Gt
 m5:Im g L K.k5 (Bm M sa sn sc)
 m9:Im g L K.k9 (.cells [.map (aa K.km)] 110 0 af)
 nd:(us.map PT.k).Nodup
 at_:∀(j:Nat)(u:PT),us[j]?=aa u->inP M u.k/\Rel M (wI u.ms.reverse) u.k/\(∀m∈u.ms,aey m)/\u.ms.length<=j/\EH (Im g L) u.p u.ms
theorem US.aee{K:UC}{e:List PT}{d:au}{L b:List jm}(r:US h K M a n m e g L)(c:pz g L d b):∀(j:Nat)(u:PT),e[j]?=aa u->inP M u.k/\Rel M (wI u.ms.reverse) u.k/\(∀q∈u.ms,aey q)/\u.ms.length<=j/\EH (Im d b) u.p u.ms:=λj u l=>by
 obtain⟨i,k,f,o,p⟩:=r.at_ j u l;exact⟨i,k,f,o,p.mono c⟩
theorem US.grow{K:UC}{d:List PT}{c:au}{L:List jm}(r:US h K M a n m d g L)(o:Ok g c):US h K M a n m d c L/\pz g L c L:=by
 obtain⟨e,b⟩:=r.o.grow o;exact⟨⟨e,r.e,b _ _ r.m5,b _ _ r.m9,r.nd,r.aee b⟩,b⟩
theorem RI{a:List PT}(i:(a.map PT.k).Nodup)(h:∀u∈a,inP M u.k):a.length<=M.aI.length*(3*M.aI.length):=by
 have n:((a.map PT.k).map λk:Pl=>((k.1,3*k.2.1+k.2.2):NN)).Nodup:=by
  refine List.pairwise_map.2 (List.Pairwise.imp_of_mem (λ{x y} b p f e=>f ?_) i);obtain⟨u,c,rfl⟩:=cI.1 b;obtain⟨v,j,rfl⟩:=cI.1 p;have d:=(h u c).2.2;have m:=(h v j).2.2;injection e with l e2
  exact Prod.ext l (Prod.ext (by omega) (by omega))
 have g:=Of (N:=M.aI.length) (M:=3*M.aI.length) n λk o=>by
  obtain⟨x,b,rfl⟩:=cI.1 o;obtain⟨u,c,rfl⟩:=cI.1 b;obtain⟨d,m,q⟩:=h u c;exact⟨d,by dsimp only;omega⟩
 rw[aH,aH]at g;exact g
section
section
variable {h0:au} {K:UC} {M:cm} {sa:Option aJ} {sn sc:Nat} {us us0:List PT} {g:au} {L:List jm} {ki i:Nat}
def UV(h0:au)(K:UC)(M:cm)(sa:Option aJ)(sn sc:Nat)(us0:List PT)(ki i:Nat)(a:List (Int×Pl))(g:au)(L:List jm):Prop:=
 ∃us,US h0 K M sa sn sc us g L/\Im g L ki (.cells [iA i] 3 0 af)/\(∃r,us=us0++r)/\∀x∈a,x.2∈us.map PT.k
theorem UV.ol{a:List (Int×Pl)}(v:UV h0 K M sa sn sc us0 ki i a g L):OL h0 g L:=by
 obtain⟨us,r,_⟩:=v;exact r.o
theorem UV.grow{a:List (Int×Pl)}(v:UV h0 K M sa sn sc us0 ki i a g L)(o:Ok g h):UV h0 K M sa sn sc us0 ki i a h L:=by
 obtain⟨us,r,c,d⟩:=v;obtain⟨b,e⟩:=r.grow o;exact⟨us,b,e _ _ c,d⟩
theorem V9(T:Wf h0)(gd:Good M)(sz:M.aI.length<=300){s:PT}(S:us0[i]?=aa s){c:Int}{d:Pl}(hs:WA M s.k c d)(hk:inP M d)(hc:0<=c){x2:List (Int×Pl)}(hv:UV h0 K M sa sn sc us0 ki i x2 g L):
  aX 70 [aE c,al ⟨qV d⟩,pA K.k9,pA K.k7,pA K.k8,pA ki] g (λv g'=>v=av ⟨[]⟩/\∃L',UV h0 K M sa sn sc us0 ki i (x2++[(c,d)]) g' L'/\pz g L g' L'):=by
 refine V8 c (qV d) K.k9 K.k7 K.k8 ki g _ ⟨_,Xf d,?_⟩;obtain⟨us,r,C,⟨V,A⟩,Z⟩:=hv;have b:=r.o.Lc (ju d);obtain⟨r,p⟩:=r.grow ((Ok.refl r.o.ok.wf).push (ju d));have C:=p _ _ C;generalize g.push (ju d)=g1 at*;obtain⟨o,⟨lv,tv,Gl,G,rfl,rl,rt⟩,U,J,nd,P⟩:=id r;obtain⟨la,lc,x1⟩:=rl.tB;obtain⟨B,tc,x5⟩:=rt.tB;rw[aH]at x1 x5;subst x1;subst x5;have z1:=RI nd λu S=>by
  obtain⟨j,D⟩:=getElem?_of_mem S;exact(P j u D).1
 have z3:M.aI.length*(3*M.aI.length)<=300*900:=fy sz (by omega);refine⟨_,J.ld SN adf,_,ju.all b.1,_,abZ (o.get 4 rfl) d,az (λq=>?_) (λq=>?_)⟩
 rotate_left
 ·have hm:d∈us.map PT.k:=by simpa using q
  refine⟨rfl,_,⟨us,r,C,⟨V,A⟩,λx hx=>?_⟩,p⟩;rcases bG.1 hx with h|h
  ·exact Z x h
  ·rw[ba.1 h];exact hm
 have hm:d∉us.map PT.k:=by simpa using q
 obtain⟨o2,t⟩:=o.E8 T 4 rfl (.map (rZ (us.map PT.k++[d])));refine⟨_,J.ld SN adf,_,ju.all b.1,_,aaq (o.get 4 rfl) hm,?_⟩;have b:=t _ _ b;have p:=p.trans t;generalize (ek.set K.km (.map (rZ (us.map PT.k++[d])))).app g1=g2 at*;refine⟨_,_,_,ej Tb ade (o2.get 0 rfl) (by simp),_,ju.all b.1,_,_,_,adl d,?_⟩;have k4:=cT g2 (.cells (qV d) 107 3 af);obtain⟨o4,c4⟩:=o2.grow ((Ok.refl o2.ok.wf).push (.cells (qV d) 107 3 af));have p:=p.trans c4;generalize g2.push (.cells (qV d) 107 3 af)=g4 at*;obtain⟨m,l,f,u,p1,p2,w,y3,o5,c5⟩:=rl.add Tb agH Rx agX T o4 (j:=1) rfl (Fw k4 rfl) (λr hr=>by rw[ba.1 hr];rfl) rfl (by rw[Pe,aH,de];omega) (by rw[aH,de];omega) (.inl (aT _));refine⟨_,_,_,_,p1,?_⟩;have p:=p.trans c5;generalize u.app g4=H at*;obtain⟨R,c6⟩:=o5.E8 T 0 rfl (.cells [ae m l f] 108 0 af);have s6:bh aq 108 (pA K.k7) (ae m l f) H=aa (undef,.set K.k7 (.cells [ae m l f] 108 0 af)):=kG ZW (cs:=[ae la us.length lc]) (o5.get 0 rfl) (by simp) (fR ..) (sG ..);refine⟨_,s6,?_⟩;have p:=p.trans c6;have F:=((t.trans c4).trans c5).trans c6;have C:=F _ _ C;have U:=F _ _ U;have J:=F _ _ J;have N:∀(j:Nat)(u:PT),us[j]?=aa u->EH (Im _ _) u.p u.ms:=λj u S=>(P j u S).2.2.2.2.mono F;clear t c4 c5 c6 F o2 o4 o5 k4 p1 b;change OL h0 ((ek.set K.k7 (.cells [ae m l f] 108 0 af)).app H) [[(K.k7,.cells [ae m l f] 108 0 af)],w,[(K.k8,.cells [ae B us.length tc] 109 0 af)],G,[(K.km,.map (rZ (us.map PT.k++[d])))]]at R;have p:pz g _ ((ek.set K.k7 (.cells [ae m l f] 108 0 af)).app H) [[(K.k7,.cells [ae m l f] 108 0 af)],w,[(K.k8,.cells [ae B us.length tc] 109 0 af)],G,[(K.km,.map (rZ (us.map PT.k++[d])))]]:=p;have C:Im ((ek.set K.k7 (.cells [ae m l f] 108 0 af)).app H) [[(K.k7,.cells [ae m l f] 108 0 af)],w,[(K.k8,.cells [ae B us.length tc] 109 0 af)],G,[(K.km,.map (rZ (us.map PT.k++[d])))]] ki (.cells [iA i] 3 0 af):=C;have U:Im ((ek.set K.k7 (.cells [ae m l f] 108 0 af)).app H) [[(K.k7,.cells [ae m l f] 108 0 af)],w,[(K.k8,.cells [ae B us.length tc] 109 0 af)],G,[(K.km,.map (rZ (us.map PT.k++[d])))]] K.k5 _:=U;have J:Im ((ek.set K.k7 (.cells [ae m l f] 108 0 af)).app H) [[(K.k7,.cells [ae m l f] 108 0 af)],w,[(K.k8,.cells [ae B us.length tc] 109 0 af)],G,[(K.km,.map (rZ (us.map PT.k++[d])))]] K.k9 _:=J;have N:∀(j:Nat)(u:PT),us[j]?=aa u->EH (Im ((ek.set K.k7 (.cells [ae m l f] 108 0 af)).app H) [[(K.k7,.cells [ae m l f] 108 0 af)],w,[(K.k8,.cells [ae B us.length tc] 109 0 af)],G,[(K.km,.map (rZ (us.map PT.k++[d])))]]) u.p u.ms:=N;clear s6;generalize (ek.set K.k7 (.cells [ae m l f] 108 0 af)).app H=E at*;have O:us[i]?=aa s:=by
  rw[A,getElem?_append_left (List.getElem?_eq_some_iff.1 S).1];exact S
 have z0:i<us.length:=(List.getElem?_eq_some_iff.1 O).1;obtain⟨y8,x8,y4,y7,_⟩:=P i s O;have y5:=N i s O;have e7:=(Ok.refl R.ok.wf).room 12;obtain⟨o7,c7⟩:=R.grow e7;obtain⟨p0,i1,i2⟩:=(rt.rd o7 (i:=3) rfl).at_ YV adJ aaj WH (k:= ak) (i:=(i:Int)) (by omega) (by rw[aH];omega);have i2:aS aq 112 (Go.Ab.room E 12) (bw p0)=aa (.pointer s.p):=by
  rw[i2,bc,gD,getElem?_map,O];rfl
 have l8:aS aq 109 (Go.Ab.room E 12) (pA K.k8)=aa (ae B us.length tc):=ej YV adI (o7.get 2 rfl) (by simp);refine⟨_,_,_,l8,_,aa1 c,_,_,_,l8,_,(c7 _ _ C).ld zs zb,_,i1,_,i2,_,ad4 ⟨c,0,0⟩ s.p,_,ad8 ⟨c,0,0⟩ s.p,_,_,_,adm _,?_⟩;obtain⟨e8,g8,g9⟩:=Tk R.ok.wf (n:=12) (i:=8) (j:=9) (by omega) (by omega) (by omega) (Ph ⟨c,0,0⟩ s.p) (.cells [pA (E.aD+8)] 112 1 af);have m8:=R.new (du E.aD 8) g8;obtain⟨o8,c8⟩:=R.grow e8;have p:=p.trans c8;clear e7 o7 c7 i2 l8 i1;generalize y9:E.aD+8=I at*;generalize z2:E.aD+9=ky at*;generalize cr (Go.Ab.room E 12) E.aD [(9,.cells [pA I] 112 1 af),(8,Ph ⟨c,0,0⟩ s.p)]=x3 at*;obtain⟨z,y,t,u2,y6,p3,Q,x7,x0,x6⟩:=rt.snoc YV agI Ry agY T o8 (j:=3) rfl (x:= pA I) rfl g9 (by rw[Pf,aH];omega) (by rw[aH];omega);refine⟨_,_,_,_,y6,?_⟩;have p:=p.trans x6;generalize u2.app x3=Y at*;obtain⟨W,x4⟩:=x0.E8 T 2 rfl (.cells [ae z y t] 109 0 af);have p:=p.trans x4;have eL:usL K (ae m l f) (ae z y t) (us++[⟨d,⟨c,0,0⟩::s.ms,aa ⟨I,0,none⟩⟩]) w Q=[[(K.k7,.cells [ae m l f] 108 0 af)],w,[(K.k8,.cells [ae z y t] 109 0 af)],Q,[(K.km,.map (rZ (us.map PT.k++[d])))]]:=by
  unfold usL;rw[bK];rfl
 have cb:pz x3 ([[(K.k7,.cells [ae m l f] 108 0 af)],w,[(K.k8,.cells [ae B us.length tc] 109 0 af)],G,[(K.km,.map (rZ (us.map PT.k++[d])))]]) ((ek.set K.k8 (.cells [ae z y t] 109 0 af)).app Y) (usL K (ae m l f) (ae z y t) (us++[⟨d,⟨c,0,0⟩::s.ms,aa ⟨I,0,none⟩⟩]) w Q):=by rw[eL];exact x6.trans x4
 have X:=c8.trans cb;have W:OL h0 ((ek.set K.k8 (.cells [ae z y t] 109 0 af)).app Y) (usL K (ae m l f) (ae z y t) (us++[⟨d,⟨c,0,0⟩::s.ms,aa ⟨I,0,none⟩⟩]) w Q):=by rw[eL];exact W
 have p:pz g (usL K (ae la us.length lc) (ae B us.length tc) us Gl G) ((ek.set K.k8 (.cells [ae z y t] 109 0 af)).app Y) (usL K (ae m l f) (ae z y t) (us++[⟨d,⟨c,0,0⟩::s.ms,aa ⟨I,0,none⟩⟩]) w Q):=by rw[eL];exact p
 refine⟨_,kG ZX (x0.get 2 rfl) (by simp) (fR ..) (sG ..),rfl,_,⟨us++[⟨d,⟨c,0,0⟩::s.ms,aa ⟨I,0,none⟩⟩],⟨W,⟨ae m l f,ae z y t,w,Q,rfl,by rw[bK];exact y3,by rw[bK];exact x7⟩,X _ _ U,X _ _ J,?_,λj u D=>?_⟩,X _ _ C,⟨V++[⟨d,⟨c,0,0⟩::s.ms,aa ⟨I,0,none⟩⟩],by rw[A,bP]⟩,λx hx=>?_⟩,p⟩
 ·rw[bK];refine fx.2 ⟨nd,by simp,λa ha b hb e=>?_⟩;have y1:b=d:=by simpa using hb
  rw[e,y1]at ha;exact hm ha
 ·by_cases y2:j<us.length
  ·rw[getElem?_append_left y2]at D;obtain⟨h1,h2,h3,h4,_⟩:=P j u D;exact⟨h1,h2,h3,h4,(N j u D).mono X⟩
  ·rw[List.getElem?_append_right (by omega)]at D;have y0:j-us.length=0:=by
    have:=(List.getElem?_eq_some_iff.1 D).1;simp at this;omega
   rw[y0]at D;obtain rfl:=aG D;refine⟨hk,?_,λmm x9=>?_,by show(s.ms.length+1)<=j;omega,.cons (cb _ _ m8) (y5.mono X)⟩
   ·show Rel M (wI (⟨c,0,0⟩::s.ms).reverse) d;rw[List.reverse_cons,RK];exact x8.step hs
   ·rcases cW.1 x9 with rfl|h
    ·exact⟨hc,gr _,gr _⟩
    ·exact y4 mm h
 ·rw[bK];rcases bG.1 hx with h|h
  ·exact ey _ (Z x h)
  ·rw[ba.1 h];exact List.mem_append_right _ (ba.2 rfl)
end
end
noncomputable def vQ:FD:=gU Tryz.f26 [((pq 2431),[5,7,8,9,10])]
abbrev ml(c e a d:Nat)(b:Nat):LV:=[(pA c),(pA e),(pA a),(pA d),(pA b)]
theorem aan(u:LV)(h:au)(Q:VH)(J:xN (jY aq 24 (al ⟨u⟩)) h λB1 w=>xA (aS aq 24 w (pA (h.aD))) λK=>aX 39 [(al ⟨K⟩)] w λI d=>∃r:LV,∃s:Int,I=(av ⟨[(al ⟨r⟩),(aE s)]⟩)/\xN (cP aq 24) d λB8 F=>xU (bh aq 24 (pA (d.aD)) (al ⟨r⟩) F) F λV a=>cq ((s !=0)) (Q (av ⟨[(ah aj),nA,(aE s)]⟩) a) (qM 24 (pA (d.aD)) 3 22 a λW v Z=>cq (decide ((v:Int)>200)) (Q (av ⟨[(ah aj),nA,(aE 2)]⟩) a) (kM 24 (pA (d.aD)) 1 a λG=>kM 24 (pA (d.aD)) 1 a λy=>xA (cJ aq 105 [(0,(aE G)),(1,(aE y))]) λx=>xA (cJ aq 107 [(0,(al ⟨x⟩)),(1,(aE 0))]) λt=>xN (cP aq 107) a λY n=>xU (bh aq 107 (pA (a.aD)) (al ⟨t⟩) n) n λO i=>xA (aS aq 107 i (pA (a.aD))) λA=>xR (bS aq 108 1 [(0,(al ⟨A⟩))]) i λX B C q=>xR (bS aq 109 1 [(0,(bj none))]) q λx1 H D e=>xN (cP aq 108) e λS g=>xN (cP aq 109) g λU l=>xU (bh aq 108 (pA (e.aD)) (sA (i.aD) B C) l) l λN m=>xU (bh aq 109 (pA (g.aD)) (sA (q.aD) H D) m) m λP b=>∃c:eA,pS aq 110=aa (c,λk=> .map (aa k))/\xA (aS aq 107 (b.push c) (pA (a.aD))) λz=>xU (iJ aq 110 (.map (aa b.aD)) (al ⟨z⟩) (ah af) (b.push c)) (b.push c) λL f=>xN (cP aq 110) f λT o=>xU (bh aq 110 (pA (f.aD)) (.map (aa b.aD)) o) o λR j=>xN (cP aq 3) j λM p=>xU (bh aq 3 (pA (j.aD)) (aE 0) p) p λx0 E=>cw vQ (pq 2431) (ml (d.aD) (e.aD) (g.aD) (f.aD) (j.aD)) E (eu vQ (pq 1407) Q)))):aX 26 [(al ⟨u⟩)] h Q:=hH vQ Tryz.func26 (bD J)
theorem DR(mv:LV)(f g i l:Nat)(n:Nat->Nat->au->Prop)(Q:VH)(step:∀(mz:Nat) (b:Nat) (zz:Nat->ag) (h:au),n mz b h->(λ(E:ag->au->Prop)=>xI ak (aS aq 3 h (pA b)) λx1=>xL (aS aq 108 h (pA g)) λu5 x9 u6=>cq (decide (x1<(x9:Int))) (xL (aS aq 108 h (pA g)) λy1 x4 x7=>xI ak (aS aq 3 h (pA b)) λy6=>qX xA 108 (ae y1 x4 x7) (aE y6) 107 h λy3=>xN (cP aq 107) h λu7 u=>xU (bh aq 107 (pA (h.aD)) (al ⟨y3⟩) u) u λu8 a=>kM 107 (pA (h.aD)) 1 a λz5=>cq ((z5 !=0)) (qM 24 (pA f) 3 22 a λZ y4 z3=>xP (aY aq 107 (pA (h.aD)) 0) λx3=>kM 105 (bw x3) 0 a λy2=>H3 22 (ae Z y4 z3) (aE y2) 44 0 λz4=>xS (aS aq 9 a (bw z4)) λy8=>cq (!((y8:LB)==[])) (qM 24 (pA f) 3 22 a λx8 x6 x5=>xP (aY aq 107 (pA (h.aD)) 0) λy0=>kM 105 (bw y0) 1 a λX=>H3 22 (ae x8 x6 x5) (aE X) 44 0 λz2=>xS (aS aq 9 a (bw z2)) λy9=>cq (!((y9:LB)==[])) (xL (aS aq 109 a (pA i)) λy7 y5 x2=>xI ak (aS aq 3 a (pA b)) λz1=>qX xO 109 (ae y7 y5 x2) (aE z1) 112 a λz0=>aX 68 [(.pointer z0)] a λY x0=>∃(t:OA) (o q:Nat),∃(G:OA) (S F:Nat),∃(D:OA) (O P:Nat),Y=(av ⟨[(ae t o q),(ae G S F),(ae D O P)]⟩)/\Q (av ⟨[(ah aj),(ae t o q),(aE 0)]⟩) x0) (xA (aS aq 24 a (pA f)) λA=>xA (aS aq 107 a (pA (h.aD))) λB=>aX 69 [(al ⟨A⟩),(al ⟨B⟩),(aN (.func 70) ⟨[]⟩ ⟨[(pA l),(pA g),(pA i),(pA b)]⟩)] a λv c=>v=(av ⟨[]⟩)/\xI ak (aS aq 3 c (pA b)) λT=>xN (cP aq 3) c λz7 p=>xU (bh aq 3 (pA (c.aD)) (aE T) p) p λu0 m=>xI ak (aS aq 3 m (pA (c.aD))) λV=>xU (bh aq 3 (pA (c.aD)) (aE (ai ak (V+1))) m) m λz9 C=>E (pA (c.aD)) C)) (xA (aS aq 24 a (pA f)) λJ=>xA (aS aq 107 a (pA (h.aD))) λR=>aX 69 [(al ⟨J⟩),(al ⟨R⟩),(aN (.func 70) ⟨[]⟩ ⟨[(pA l),(pA g),(pA i),(pA b)]⟩)] a λK e=>K=(av ⟨[]⟩)/\xI ak (aS aq 3 e (pA b)) λy=>xN (cP aq 3) e λu2 s=>xU (bh aq 3 (pA (e.aD)) (aE y) s) s λz6 k=>xI ak (aS aq 3 k (pA (e.aD))) λU=>xU (bh aq 3 (pA (e.aD)) (aE (ai ak (U+1))) k) k λu3 I=>E (pA (e.aD)) I)) (xA (aS aq 24 a (pA f)) λL=>xA (aS aq 107 a (pA (h.aD))) λx=>aX 69 [(al ⟨L⟩),(al ⟨x⟩),(aN (.func 70) ⟨[]⟩ ⟨[(pA l),(pA g),(pA i),(pA b)]⟩)] a λN d=>N=(av ⟨[]⟩)/\xI ak (aS aq 3 d (pA b)) λz=>xN (cP aq 3) d λu4 r=>xU (bh aq 3 (pA (d.aD)) (aE z) r) r λz8 j=>xI ak (aS aq 3 j (pA (d.aD))) λM=>xU (bh aq 3 (pA (d.aD)) (aE (ai ak (M+1))) j) j λu1 w=>E (pA (d.aD)) w)) (Q (av ⟨[(ah af),nA,(aE 0)]⟩) h)) (λW hz=>ct (jg (ml f g i l) n) mz [(pA f),(pA g),(pA i),(pA l),W] hz))(mz:Nat){b:Nat}{h:au}(H:n mz b h):cw vQ (pq 2431) (ml f g i l b) h (eu vQ (pq 1407) Q):=
 gm (ml f g i l) n (λmz b zz h H=>bD (step mz b zz h H)) mz H
section
theorem XU{M:cm}(m:Good M){k g:Pl}{c:Int}(r:inP M k)(l:WA M k c g):inP M g/\0<=c:=by
 have d:∀{s:Nat}{a:eC},a∈dp M s->a.t.toNat<M.aI.length/\0<=a.i:=λb=>by
  have h:=lP m b;have h0:=h.t0;have i:=h.t1;exact⟨by omega,h.i0⟩
 obtain⟨i,o,j⟩:=r
 cases l with
 |@sil p q h a b h0=>exact⟨⟨(d b).1,o,by dsimp only at j⊢;split<;>omega⟩,gr _⟩
 |same b f e=>exact⟨⟨(d (aM b)).1,(d (aM f)).1,ck _⟩,(d (aM b)).2⟩
 |fork b f e n=>exact⟨⟨(d (aM b)).1,(d (aM f)).1,(show 1<=2 by decide)⟩,(d (aM b)).2⟩
 |read b f e h0 t=>exact⟨⟨(d b).1,(d f).1,(show 1<=2 by decide)⟩,(d b).2⟩
 |Zl f h0=>exact⟨⟨i,(d f).1,(show 1<=2 by decide)⟩,gr _⟩
theorem adg:cP aq 107=aa (.cells (qV (0,0,0)) 107 0 af,m4):=by kernel_rfl
theorem afL:cQ 70 YB=af:=by kernel_rfl
def unQ(h:au)(N:cm):VH:=λv g=>∃(b:Bool)(a:Option aJ)(n c:Nat),v=av ⟨[ah b,ae a n c,aE 0]⟩/\Ok h g/\((b=af/\n=0/\Bl N)\/(b=aj/\∃l l' x y z,A2 N l x y/\A2 N l' x z/\l≠l'/\Rd g 3 (ae a n c) (x.map zV)))
section
variable {h0:au} {K:UC} {M:cm} {sa:Option aJ} {sn sc:Nat}
def UI(h0:au)(K:UC)(M:cm)(sa:Option aJ)(sn sc:Nat)(mz d:Nat)(g:au):Prop:=
 ∃(a:List PT)(i:Nat)(L:List jm),US h0 K M sa sn sc a g L/\Im g L d (.cells [iA i] 3 0 af)/\i<=a.length/\mz=270000-i/\(∃u,a[0]?=aa u/\u.k=(M.start.toNat,M.start.toNat,0))/\∀(j:Nat)(u:PT),j<i->a[j]?=aa u->(u.k.2.2≠0->jD M u.k.1->jD M u.k.2.1->False)/\∀c b,WA M u.k c b->b∈a.map PT.k
theorem Wa(w0:Wf h0)(H:eY h0 (ae sa sn sc) M.aI)(Y:Good M)(zA:∀s∈M.aI,s.bB.length<=2000)(sz:M.aI.length<=300)(mv:LV){J mz:Nat}{g:au}{Qf:VH}(hQ:∀v g,unQ h0 M v g->Qf v g)(b:UI h0 K M sa sn sc mz J g):
  cw vQ (pq 2431) (ml K.k5 K.k7 K.k8 K.k9 J) g (eu vQ (pq 1407) Qf):=by
 refine DR mv K.k5 K.k7 K.k8 K.k9 (λmz J g=>UI h0 K M sa sn sc mz J g) _ (λw9 Q=>?_) mz b;clear b g mz J;intro zz g b;obtain⟨d,i,L,r,T,v2,rfl,⟨uf,x5,x2⟩,cl⟩:=b;have v3:=RI r.nd λu t=>by
  obtain⟨j,A⟩:=getElem?_of_mem t;exact(r.at_ j u A).1
 have w4:M.aI.length*(3*M.aI.length)<=300*900:=fy sz (by omega);obtain⟨o,⟨lv,tv,Gl,Gt,rfl,rl,rt⟩,m5,m9,nd,z7⟩:=id r;obtain⟨la,lc,x1⟩:=rl.tB;obtain⟨ta,tc,x7⟩:=rt.tB;rw[aH]at x1 x7;subst x1;subst x7;have l7:aS aq 108 g (pA K.k7)=aa (ae la d.length lc):=ej Tb ade (o.get 0 rfl) (by simp);refine⟨_,T.ld zs zb,_,_,_,l7,az (λq=>?_) (λq=>?_)⟩
 rotate_left
 ·have q:=dF q;have v5:i=d.length:=by omega
  refine hQ _ _ ⟨af,none,0,0,rfl,o.ok,.inl ⟨rfl,rfl,?_⟩⟩;refine aam (P:=λk=>k∈d.map PT.k) (λk c U hk V=>?_) ?_ (λp q h hk hh f f'=>?_)
  ·obtain⟨u,t,rfl⟩:=cI.1 hk;obtain⟨j,A⟩:=getElem?_of_mem t;exact(cl j u (by have:=(List.getElem?_eq_some_iff.1 A).1;omega) A).2 c U V
  ·rw[<-x2];exact cI.2 ⟨uf,aM x5,rfl⟩
  ·obtain⟨u,t,e⟩:=cI.1 hk;obtain⟨j,A⟩:=getElem?_of_mem t;refine(cl j u (by have:=(List.getElem?_eq_some_iff.1 A).1;omega) A).1 ?_ ?_ ?_
   ·rw[e];exact hh
   ·rw[e];exact f
   ·rw[e];exact f'
 have q:=dT q;have x0:i<d.length:=by omega
 obtain⟨u,t⟩:∃u,d[i]?=aa u:=⟨_,gE x0⟩
 obtain⟨b,y3,u0,u3,w7⟩:=z7 i u t;obtain⟨kk,oo,d1,d2,_⟩:=(rl.rd o (i:=1) rfl).at_ Tb Mr adP adb (ik:= ak) (i:=(i:Int)) (by omega) (by rw[aH];omega);have d2:aS aq 107 g (df kk oo)=aa (al ⟨qV u.k⟩):=by
  rw[d2,bc,gD,getElem?_map,t];rfl
 refine⟨_,_,_,l7,_,T.ld zs zb,_,d1,_,d2,_,adg,?_⟩;have e2:=((Ok.refl o.ok.wf).push (.cells (qV (0,0,0)) 107 0 af)).set (ju u.k) (aT _) (ff _) o.ok.wf;have G:((g.push (.cells (qV (0,0,0)) 107 0 af)).set g.aD (ju u.k)).get g.aD=aa (ju u.k):=by rw[au.cE,iP rfl]
 have s2:bh aq 107 (pA g.aD) (al ⟨qV u.k⟩) (g.push (.cells (qV (0,0,0)) 107 0 af))=aa (undef,.set g.aD (ju u.k)):=ib Mr rfl (cT g _) rfl (by simp[qV,eZ]);refine⟨_,s2,?_⟩;have e2:Ok g ((ek.set g.aD (ju u.k)).app (g.push (.cells (qV (0,0,0)) 107 0 af))):=e2;have G:((ek.set g.aD (ju u.k)).app (g.push (.cells (qV (0,0,0)) 107 0 af))).get g.aD=aa (ju u.k):=G;have G:=o.new (aT g.aD) G;obtain⟨I,c2⟩:=r.grow e2;have T:=c2 _ _ T;clear e2 s2;generalize ((ek.set g.aD (ju u.k)).app (g.push (.cells (qV (0,0,0)) 107 0 af)))=O at*;generalize g.aD=kx at*;have D:(u.k.2.2≠0->jD M u.k.1->jD M u.k.2.1->False)->xA (aS aq 24 O (pA K.k5)) λx9=>xA (aS aq 107 O (pA kx)) λy0=>aX 69 [(al ⟨x9⟩),(al ⟨y0⟩),(aN (.func 70) ⟨[]⟩ ⟨[(pA K.k9),(pA K.k7),(pA K.k8),(pA Q)]⟩)] O λx8 w=>x8=(av ⟨[]⟩)/\xI ak (aS aq 3 w (pA Q)) λy7=>xN (cP aq 3) w λu1 W=>xU (bh aq 3 (pA (w.aD)) (aE y7) W) W λu8 N=>xI ak (aS aq 3 N (pA (w.aD))) λy8=>xU (bh aq 3 (pA (w.aD)) (aE (ai ak (y8+1))) N) N λu4 y1=>ct (jg (ml K.k5 K.k7 K.k8 K.k9) (λmz J g=>UI h0 K M sa sn sc mz J g)) (270000-i) [(pA K.k5),(pA K.k7),(pA K.k8),(pA K.k9),(pA (w.aD))] y1:=λy2=>by
  have lM:aS aq 24 O (pA K.k5)=aa (al ⟨cU M sa sn sc⟩):=jr tG tE js I.m5.1 (by simp[cU]);refine⟨_,lM,_,ju.all G.1,?_⟩;refine(WQ w0 H Y zA b.1 b.2.1 (fa:=[]) (fc:=[(pA K.k9),(pA K.k7),(pA K.k8),(pA Q)]) afL (λl g L=>UV h0 K M sa sn sc d Q i l g L) (λl g L v=>v.ol) (λl g L g' v e=>v.grow e) ⟨d,I,T,⟨[],(cp _).symm⟩,λx X=>(by cases X)⟩ (λv9 x u2 Z g' L' hv=>?_)).mono ?_
  ·have X:x∈Wn M u.k:=by rw[Z];simp
   have x3:=(SK Y).1 (show(x.1,x.2)∈Wn M u.k from X);obtain⟨h1,h2⟩:=XU Y b x3;exact V9 w0 Y sz t x3 h1 h2 hv
  ·rintro _ F ⟨rfl,L5,⟨R,S,z5,⟨u7,C⟩,y5⟩,c5⟩;have u5:=RI S.nd λu t=>by
    obtain⟨j,A⟩:=getElem?_of_mem t;exact(S.at_ j u A).1
   have w6:d.length<=R.length:=by rw[C,bF];omega
   refine⟨rfl,_,z5.ld zs zb,_,al3,?_⟩;obtain⟨u6,s6,e6,m6⟩:=S.o.cell (P:=aq) IS (aE 0) (v:=iA i) rfl rfl;refine⟨u6,s6,?_⟩;generalize u9:u6.app (F.push (.cells [aE 0] 3 0 af))=g6 at*;have hw:ai ak ((i:Int)+1)=((i+1:Nat):Int):=cH x0 (by omega);have s7:bh aq 3 (pA F.aD) (iA (i+1)) g6=aa (undef,.set F.aD (.cells [iA (i+1)] 3 0 af)):=kG IS (cs:=[iA i]) m6.1 (by simp) rfl rfl;refine⟨_,m6.ld zs zb,?_⟩;dsimp only;rw[hw];refine⟨_,s7,?_⟩;have e7:Ok F ((ek.set F.aD (.cells [iA (i+1)] 3 0 af)).app g6):=e6.set _ (aT _) (e6.wf _ _ m6.1) S.o.ok.wf;have b7:((ek.set F.aD (.cells [iA (i+1)] 3 0 af)).app g6).get F.aD=aa (.cells [iA (i+1)] 3 0 af):=by
    show(g6.set _ _).get _=_;rw[au.cE,iP rfl]
   have m7:=S.o.new (aT F.aD) b7;obtain⟨r7,c7⟩:=S.grow e7;have z8:∀(j:Nat)(v:PT),d[j]?=aa v->R[j]?=aa v:=λj v A=>by
    rw[C,getElem?_append_left (List.getElem?_eq_some_iff.1 A).1];exact A
   have z0:∀x,x∈d.map PT.k->x∈R.map PT.k:=λx X=>by
    rw[C,bK];exact ey _ X
   refine fC (270000-(i+1)) (by omega) ⟨R,i+1,L5,r7,m7,by omega,rfl,⟨uf,z8 0 uf x5,x2⟩,λj v A hv=>?_⟩;have x6:d[j]?=aa v:=by
    rw[C,getElem?_append_left (by omega)]at hv;exact hv
   by_cases z4:j<i
   ·obtain⟨h1,h2⟩:=cl j v z4 x6;exact⟨h1,λc U V=>z0 _ (h2 c U V)⟩
   ·obtain rfl:j=i:=by omega
    obtain rfl:=aG (t.symm.trans x6);exact⟨y2,λc U V=>y5 (c,U) ((SK Y).2 V)⟩
 refine⟨_,vr _,_,ju.l2 G.1,az (λE=>?_) (λE=>?_)⟩
 rotate_left
 ·have E:u.k.2.2=0:=by
   have:(u.k.2.2:Int)=0:=by simpa using E
   omega
  exact D λh=>absurd E h
 have E:u.k.2.2≠0:=by
  intro e;rw[e]at E;simp at E
 obtain⟨sp,Z,_,fp,_⟩:=oi b.1;obtain⟨sq,y4,_,fq,_⟩:=oi b.2.1;obtain⟨_,_,_,_,_,d1,_,d3,_,_⟩:=H.KM I.o.ok Z;obtain⟨_,_,_,_,_,z9,_,y9,_,_⟩:=H.KM I.o.ok y4;have x4:aS aq 22 O (df K.k5 3)=aa (ae sa sn sc):=ej zp EO I.m5.1 (by simp[cU]);refine⟨_,dC _,_,_,_,x4,_,vp _,_,K1 _ _,_,ju.l0 G.1,_,d1,_,pb _ _,_,d3,az (λq3=>?_) (λq3=>?_)⟩
 rotate_left
 ·exact D λ_ h _=>by rw[<-rh,fp]at h;rw[h]at q3;cases q3
 refine⟨_,dC _,_,_,_,x4,_,vp _,_,Fe _ _,_,ju.l1 G.1,_,z9,_,pb _ _,_,y9,az (λq4=>?_) (λq4=>?_)⟩
 rotate_left
 ·exact D λ_ _ h=>by rw[<-rh,fq]at h;rw[h]at q4;cases q4
 have f1:jD M u.k.1:=rh.1 (by rw[fp];exact q3);have f2:jD M u.k.2.1:=rh.1 (by rw[fq];exact q4);obtain⟨l,l',y,z,a1,a2,z6⟩:=Rel.end_ (p:=u.k.1) (q:=u.k.2.1) (h:=u.k.2.2) y3 E f1 f2;obtain⟨o3,⟨v7,v1,v4,z3,z1,v0,w8⟩,_⟩:=id I;have h2:(usL K (ae la d.length lc) (ae ta d.length tc) d Gl Gt)[3]?=aa z3:=by rw[z1];rfl
 have y6:aS aq 109 O (pA K.k8)=aa (ae ta d.length tc):=ej YV adI (o3.get 2 rfl) (by simp);obtain⟨p0,i1,i2⟩:=(rt.rd o3 (i:=3) rfl).at_ YV adJ aaj WH (k:= ak) (i:=(i:Int)) (by omega) (by rw[aH];omega);have i2:aS aq 112 O (bw p0)=aa (.pointer u.p):=by
  rw[i2,bc,gD,getElem?_map,t];rfl
 have z2:=(I.at_ i u t).2.2.2.2;refine⟨_,_,_,y6,_,T.ld zs zb,_,i1,_,i2,(aaA o3.ok.wf (z2.mono λk B m=>m.1) u0 (by omega)).mono ?_⟩;rintro _ g4 ⟨e4,a,n,c,a',n',c',v8,v6,w5,rfl,w1,w2,w3⟩;exact⟨_,_,_,_,_,_,_,_,_,rfl,hQ _ _ ⟨aj,a,n,c,rfl,o3.ok.trans e4,.inr ⟨rfl,l,l',_,y,z,a1,a2,z6,w1.rd⟩⟩⟩
end
end
variable{A:Type}
theorem afy:cP aq 108=aa (.cells [nA] 108 0 af,m4):=by kernel_rfl
theorem afA:cP aq 110=aa (.cells [.map none] 110 0 af,m4):=by kernel_rfl
theorem ae1:bZ aq 110=aa 1:=by kernel_rfl
theorem agr:pS aq 110=aa (.map [],λk=> .map (aa k)):=by kernel_rfl
theorem agE(a b c d e:A):List.Perm [a,b,c,d,e] [c,a,d,b,e]:=
 (List.perm_middle (l₁:=[a,b]) (a:=c) (l₂:=[d,e])).trans (.cons c (.cons a (.swap d b [e])))
def ahg(h:au)(M:cm):VH:=λv g=>∃(b:Bool)(a:Option aJ)(n c:Nat)(e:Int),v=av ⟨[ah b,ae a n c,aE e]⟩/\Ok h g/\
 ((dO M=aj/\b=aj/\n=0/\e=1)\/(dO M=af/\200<M.aI.length/\b=aj/\n=0/\e=2)\/
  (dO M=af/\e=0/\((b=af/\n=0/\Bl M)\/(b=aj/\∃l l' x y z,A2 M l x y/\A2 M l' x z/\l≠l'/\Rd g 3 (ae a n c) (x.map zV)))))
theorem YI{c:Nat}(tb:za h)(w:Wf h)(sm:Small M)(r:eY h (ae a n c) M.aI):aX 26 [al ⟨cU M a n c⟩] h (ahg h M):=by
 refine aan (cU M a n c) h _ ⟨_,kW M a n c,?_⟩;have Q:=(Ok.refl w).push (Bm M a n c);have b1:=cT h (Bm M a n c);have l1:aS aq 24 (h.push (Bm M a n c)) (pA h.aD)=aa (al ⟨cU M a n c⟩):=jr tG tE js b1 (by simp[cU]);refine⟨_,l1,?_⟩;generalize h.push (Bm M a n c)=g1 at*;refine(N5 (tb.ok Q) Q.wf sm (r.ok Q)).mono ?_;rintro _ i ⟨C,E,t,ps,rfl,X,om,e2⟩;have o2:=Q.trans e2;refine⟨_,_,rfl,_,FQ,?_⟩;have e3:=(Ok.refl o2.wf).push qc;have b3:=cT i qc;have st:bh aq 24 (pA i.aD) (al ⟨cU (jt M).1 C E t⟩) (i.push qc)=aa (undef,.set i.aD (Bm (jt M).1 C E t)):=ib js rfl b3 rfl (by simp[cU,eZ,strOf]);refine⟨_,st,?_⟩;have e4:Ok i ((ek.set i.aD (Bm (jt M).1 C E t)).app (i.push qc)):=e3.set _ (aT _) (ff _) o2.wf;have b4:((ek.set i.aD (Bm (jt M).1 C E t)).app (i.push qc)).get i.aD=aa (Bm (jt M).1 C E t):=by
  show((i.push qc).set _ _).get _=_;rw[au.cE,iP rfl]
 generalize (ek.set i.aD (Bm (jt M).1 C E t)).app (i.push qc)=f at*;have J:=o2.trans e4
 cases H:dO M with
 |false=>
  rw[DQ H];exact az (λ_=>⟨_,_,_,_,_,rfl,J,.inl ⟨H,rfl,rfl,rfl⟩⟩) (λq=>by cases q)
 | true=>
  obtain⟨t1,t2,t3,t4,t5⟩:=HI H sm;have W:=(om.ok e4).st;rw[X]at W;rw[t1];refine az (λq=>by cases q) (λ_=>?_);have l4:aS aq 22 f (df i.aD 3)=aa (ae C E t):=ej zp EO b4 (by simp[cU]);have l6:aS aq 3 f (df i.aD 1)=aa (aE (jt M).1.start):=ej zs zb b4 (by simp[cU]);have y6:E=(jt M).1.aI.length:=by have:=om.row.rd.len;rw[<-X,aH,this,aH]
  refine⟨_,dC _,_,_,_,l4,az (λq=>?_) (λq=>?_)⟩
  ·have q:=dT q;exact⟨_,_,_,_,_,rfl,J,.inr (.inl ⟨H,by omega,rfl,rfl,rfl⟩)⟩
  generalize hN:(jt M).1=N at*;have s0:=t2.uj;have s1:=t2.uk;have Y:N.start=((N.start.toNat:Nat):Int):=by omega
  refine⟨_,qk _,_,l6,_,qk _,_,l6,_,Ai _ _,_,Aj _ _ _,_,adg,?_⟩;rw[show([aE N.start,aE N.start,aE 0]:List ag)=qV (N.start.toNat,N.start.toNat,0)from Ti Y Y rfl];generalize I:((N.start.toNat,N.start.toNat,0):Pl)=d at*;have A:=J.wf;have q0:=OL.nil (Ok.refl A);have s5:bh aq 107 (pA f.aD) (al ⟨qV d⟩) (f.push (.cells (qV (0,0,0)) 107 0 af))=aa (undef,.set f.aD (ju d)):=ib Mr rfl (cT f _) rfl (by simp[qV,eZ]);refine⟨_,s5,?_⟩;have e5:Ok f ((ek.set f.aD (ju d)).app (f.push (.cells (qV (0,0,0)) 107 0 af))):=((Ok.refl A).push _).set _ (aT _) (ff _) A;have b5:((ek.set f.aD (ju d)).app (f.push (.cells (qV (0,0,0)) 107 0 af))).get f.aD=aa (ju d):=by
   show((f.push _).set _ _).get _=_;rw[au.cE,iP rfl]
  have e:=q0.old A b4;have o:=q0.new (aT f.aD) b5;obtain⟨q1,c1⟩:=q0.grow e5;have e:=c1 _ _ e;clear s5 e5 b5;generalize z1:(ek.set f.aD (ju d)).app (f.push (.cells (qV (0,0,0)) 107 0 af))=g5 at*;generalize f.aD=kf at*;have A:Wf f:=J.wf;refine⟨_,ju.all o.1,_,_,_,adl d,?_⟩;obtain⟨q2,t⟩:=q1.push (.cells (qV d) 107 3 af);have e:=t _ _ e;have o:=t _ _ o;generalize z2:g5.aD=p at*;generalize g5.push (.cells (qV d) 107 3 af)=g6 at*;refine⟨_,_,_,adm none,?_⟩;obtain⟨q3,c3⟩:=q2.push (.cells [bj none] 112 1 af);have e:=c3 _ _ e;have o:=c3 _ _ o;generalize y9:g6.aD=s at*;generalize g6.push (.cells [bj none] 112 1 af)=g7 at*;refine⟨_,afy,_,afz,?_⟩;obtain⟨q4,c4⟩:=q3.push (.cells [nA] 108 0 af);have e:=c4 _ _ e;have o:=c4 _ _ o;generalize z0:g7.aD=G at*;generalize g7.push (.cells [nA] 108 0 af)=g8 at*;obtain⟨q5,c5⟩:=q4.push (.cells [nA] 109 0 af);have e:=c5 _ _ e;have o:=c5 _ _ o;generalize y4:g8.aD=D at*;generalize g8.push (.cells [nA] 109 0 af)=g9 at*;change OL f g9 [[(p,.cells (qV d) 107 3 af)],[(s,.cells [bj none] 112 1 af)],[(G,.cells [nA] 108 0 af)],[(D,.cells [nA] 109 0 af)]]at q5;obtain⟨q6,c6⟩:=q5.E8 A 2 rfl (.cells [sA p 1 1] 108 0 af);have s6:bh aq 108 (pA G) (sA p 1 1) g9=aa (undef,.set G (.cells [sA p 1 1] 108 0 af)):=kG ZW (cs:=[nA]) (q5.get 2 rfl) (by simp) rfl rfl;refine⟨_,s6,?_⟩;have e:=c6 _ _ e;have o:=c6 _ _ o;generalize (ek.set G (.cells [sA p 1 1] 108 0 af)).app g9=Z at*;obtain⟨q7,c7⟩:=q6.E8 A 3 (k:=D) (B:= .cells [nA] 109 0 af) rfl (.cells [sA s 1 1] 109 0 af);have s7:bh aq 109 (pA D) (sA s 1 1) Z=aa (undef,.set D (.cells [sA s 1 1] 109 0 af)):=kG ZX (cs:=[nA]) (q6.get 3 rfl) (by simp) rfl rfl;refine⟨_,s7,?_⟩;have e:=c7 _ _ e;have o:=c7 _ _ o;generalize (ek.set D (.cells [sA s 1 1] 109 0 af)).app Z=L at*;obtain⟨q8,c8⟩:=q7.push (.map []);have e:=c8 _ _ e;have o:=c8 _ _ o;refine⟨_,agr,?_⟩;change xA (aS aq 107 (L.push (.map [])) (pA kf)) _;generalize y3:L.aD=F at*;change OL f _ [[(p,.cells (qV d) 107 3 af)],[(s,.cells [bj none] 112 1 af)],[(G,.cells [sA p 1 1] 108 0 af)],[(D,.cells [sA s 1 1] 109 0 af)],[(F,.map [])]]at q8;refine⟨_,ju.all o.1,?_⟩;dsimp only;generalize L.push (.map [])=S at*;have s9:iJ aq 110 (.map (aa F)) (al ⟨qV d⟩) (ah af) S=aa (undef,.set F (.map (rZ [d]))):=aaq (l:=[]) (q8.get 4 rfl) (x:=d) (by simp);refine⟨_,s9,?_⟩;obtain⟨q9,c9⟩:=q8.E8 A 4 (k:=F) (B:= .map []) rfl (.map (rZ [d]));have e:=c9 _ _ e;generalize (ek.set F (.map (rZ [d]))).app S=T at*;change OL f _ [[(p,.cells (qV d) 107 3 af)],[(s,.cells [bj none] 112 1 af)],[(G,.cells [sA p 1 1] 108 0 af)],[(D,.cells [sA s 1 1] 109 0 af)],[(F,.map (rZ [d]))]]at q9;refine⟨_,afA,?_⟩;obtain⟨u,x9,x4,m9⟩:=q9.cell (P:=aq) ae1 (.map none) (v:= .map (aa F)) rfl rfl;refine⟨u,x9,?_⟩;obtain⟨V,y1⟩:=q9.grow x4;have e:=y1 _ _ e;generalize y7:T.aD=k9 at*;generalize u.app (T.push (.cells [.map none] 110 0 af))=U at*;refine⟨_,al3,?_⟩;obtain⟨u2,x2,y2,x6⟩:=V.cell (P:=aq) IS (aE 0) (v:=iA 0) rfl rfl;refine⟨u2,x2,?_⟩;obtain⟨y0,x0⟩:=V.grow y2;have e:=x0 _ _ e;have m9:=x0 _ _ m9;generalize y5:U.aD=ki at*;generalize u2.app (U.push (.cells [aE 0] 3 0 af))=y8 at*
  let K:UC:=⟨i.aD,G,D,k9,F⟩
  obtain⟨x8,O⟩:=OL.perm (L':=usL K (sA p 1 1) (sA s 1 1) [⟨d,[],none⟩] [(p,.cells (qV d) 107 3 af)] [(s,.cells [bj none] 112 1 af)]) y0 (agE _ _ _ _ _);have x3:inP N d:=by rw[<-I];exact⟨by dsimp only;omega,by dsimp only;omega,ck _⟩
  have x1:Rel N (wI ([]:List Mv).reverse) d:=by rw[<-I];exact⟨rfl,[],[],.nil _⟩
  refine Wa (K:=K) (h0:=f) (mz:=270000) A W t2 t3.bB t3.AW (cU M a n c) (λv g hq=>?_) ⟨[⟨d,[],none⟩],0,_,⟨x8,⟨_,_,_,_,rfl,gQ.made (rs:=[qV d]) (by simp[qV]) (show 1<fg by decide +kernel),gQ.made (rs:=[[bj none]]) (by simp) (show 1<fg by decide +kernel)⟩,O _ _ e,O _ _ m9,by simp,λj u R=>?_⟩,O _ _ x6,ck _,rfl,⟨_,rfl,I.symm⟩,λj u R=>absurd R (dR _)⟩
  ·obtain⟨b,xa,xn,xc,rfl,ok,hh⟩:=hq;refine⟨b,xa,xn,xc,0,rfl,J.trans ok,.inr (.inr ⟨H,rfl,?_⟩)⟩;rcases hh with⟨rfl,h1,h2⟩|⟨rfl,l,l',x,y,z,h1,h2,h3,h4⟩
   ·exact .inl ⟨rfl,h1,t4.un.1 h2⟩
   ·obtain⟨k,k',a1,C,x7⟩:=t4.f2 l l' x y z h1 h2 h3;exact .inr ⟨rfl,k,k',x,y,z,a1,C,x7,h4⟩
  ·have x5:j=0:=by
    have:=(List.getElem?_eq_some_iff.1 R).1;simp at this;omega
   subst x5;obtain rfl:=aG R;exact⟨x3,x1,λm hm=>(by cases hm),aT _,.nil⟩
noncomputable def abS:FD:=gU Tryz.f12 []
theorem XZ(b:LV)(h:au)(Q:VH)(g:xN (jY aq 24 (al ⟨b⟩)) h λj a=>qM 24 (pA (h.aD)) 3 22 a λk d l=>cq (decide ((d:Int)>8)) (Q (ah af) a) (xA (aS aq 24 a (pA (h.aD))) λe=>aX 23 [(al ⟨e⟩)] a λf i=>yI ak f λc=>Q (ah (decide (c>30))) i)):aX 12 [(al ⟨b⟩)] h Q:=hH abS Tryz.func12 (bD g)
section
def EQ(h:au):VH:=λv g=>v=ah af/\Ok h g
structure adU(M:cm):Prop where
 lead:M.lead.length<=281474976710656
 fin:∀s∈M.aI,s.f.length<=281474976710656
 w:∀s∈M.aI,∀q∈s.bB,q.w.length<=281474976710656
theorem Ds{s:il}:∀{l:List il},s∈l->s.bB.length<=mo l
 |[],h=>by cases h
 |x::l,h=>by
  rw[qB];rcases cW.1 h with rfl|h
  ·omega
  ·have:=Ds h;omega
def lrg(M:cm):Bool:=decide (8<M.aI.length)||decide (30<mo M.aI)
theorem ZL{M:cm}(a:adU M)(q:lrg M=aj):Small M:=by
 unfold lrg at q;rw[Bool.or_eq_false_iff,decide_eq_false_iff_not,decide_eq_false_iff_not]at q;exact⟨a.lead,by omega,a.fin,λs b=>by have:=Ds b;omega,a.w,by omega⟩
theorem aex:SS.pr 13=aa (Ka [([],ah af)]):=by kernel_rfl
theorem Jm{h:au}(c:Ok h g):aX 13 [] g λv a=>yB v λb=>EQ h (ah b) a:=
 K6 (by unfold YB;decide) aex (v:= ah af) (h':=g) (λ_=>rfl) ⟨af,rfl,rfl,c⟩
section
variable {h:au} {M:cm} {a:Option aJ} {n c:Nat}
theorem X0(w:Wf h)(g:Bnd M)(r:eY h (ae a n c) M.aI):aX 12 [al ⟨cU M a n c⟩] h (λv i=>v=ah (lrg M)/\Ok h i):=by
 obtain⟨b,d⟩:=jZ w r;have j:=b.len;refine XZ (cU M a n c) h _ ⟨_,kW M a n c,_,dC _,_,_,_,b.l3,az (λq=>?_) (λq=>?_)⟩
 ·have q:=dT q;refine⟨?_,d⟩;unfold lrg;rw[eT (by omega)];rfl
 ·have q:=dF q;refine⟨_,b.all,(Oz d.wf g (by omega) b.row).mono ?_⟩;rintro _ k ⟨rfl,f⟩;refine⟨_,rfl,?_,d.trans f⟩;unfold lrg;rw[eF (by omega:¬8<M.aI.length),Bool.false_or];congr 1;by_cases e:30<mo M.aI
  ·rw[eT e,eT (by omega)]
  ·rw[eF e,eF (by omega)]
end
end
noncomputable def so:FD:=gU Tryz.f21 [((pq 75),[2,3,5]),((pq 20043),[2,3,5,6,7,8])]
abbrev qP(a b:Nat)(i:Nat):LV:=[(pA a),(pA b),(iA i)]
abbrev IG(a d b c i:Nat)(j:Nat):LV:=[(pA a),(pA d),(iA i),(pA b),(pA c),(iA j)]
theorem Y1(c j:LV)(h:au)(Q:VH)(l:xN (jY aq 24 (al ⟨c⟩)) h λs b=>xN (jY aq 24 (al ⟨j⟩)) b λt a=>kM 24 (pA (h.aD)) 0 a λm=>kM 24 (pA (b.aD)) 0 a λn=>cq ((m !=n)) (Q (ah aj) a) (kM 24 (pA (h.aD)) 1 a λe=>kM 24 (pA (b.aD)) 1 a λi=>cq ((e !=i)) (Q (ah aj) a) (qF xS 24 (pA (h.aD)) 2 9 a λd=>qF xS 24 (pA (b.aD)) 2 9 a λk=>cq (!((d:LB)==k)) (Q (ah aj) a) (qM 24 (pA (h.aD)) 3 22 a λo f p=>qM 24 (pA (b.aD)) 3 22 a λq g r=>cq (((f:Int) !=(g:Int))) (Q (ah aj) a) (cw so (pq 75) (qP (h.aD) (b.aD) 0) a (eu so (pq 43) Q)))))):aX 21 [(al ⟨c⟩),(al ⟨j⟩)] h Q:=hH so Tryz.func21 (bD l)
theorem DA(I J:LV)(j k:Nat)(c:Nat->Nat->au->Prop)(Q:VH)(step:∀(mz:Nat) (i:Nat) (x:Nat->ag) (h:au),c mz i h->qM 24 (pA j) 3 22 h λB w E=>cq (decide ((i:Int)<(w:Int))) (qM 24 (pA j) 3 22 (room h 14) λz v s=>qX xA 22 (ae z v s) (iA i) 44 (room h 14) λt=>xP (aY aq 24 (pA k) 3) λn=>xL (aS aq 22 (room h 14) (bw n)) λd f b=>xP (aW aq 22 (ae d f b) (iA i)) λm=>xA (aS aq 44 (room h 14) (bw m)) λe=>zN (cP aq 44) λl=>zN (cP aq 44) λo=>xU (bh aq 44 (pA (h.aD+10)) (al ⟨t⟩) (cr (room h 14) h.aD [(11,o),(10,l)])) (cr (room h 14) h.aD [(11,o),(10,l)]) λG g=>xU (bh aq 44 (pA (h.aD+11)) (al ⟨e⟩) g) g λA a=>(aS aq 22 g (bw n)=aa (ae d f b)/\oQ 4 (ae d f b) (ae d f b)=af)/\(aS aq 44 g (bw m)=aa (al ⟨e⟩)/\oQ 4 (al ⟨e⟩) (al ⟨e⟩)=af)/\qF xS 44 (pA (h.aD+10)) 0 9 a λy=>qF xS 44 (pA (h.aD+11)) 0 9 a λr=>cq (!((y:LB)==r)) (Q (ah aj) a) (qM 44 (pA (h.aD+10)) 1 42 a λF q H=>qM 44 (pA (h.aD+11)) 1 42 a λC u D=>cq (((q:Int) !=(u:Int))) (Q (ah aj) a) (cw so (pq 20043) (IG j k (h.aD+10) (h.aD+11) i 0) a (fQ so (pq 185) (pq 75) (RR so (pq 75) (jg (qP j k) c) mz (eu so (pq 43) Q)))))) (Q (ah af) h))(mz:Nat){i:Nat}{h:au}(p:c mz i h):cw so (pq 75) (qP j k i) h (eu so (pq 43) Q):=
 gm (qP j k) c (λmz i x h p=>bD (step mz i x h p)) mz p
noncomputable def jJ:FD:=gU Tryz.f4 [((pq 19455),[1,3,4,5,7,8]),((pq 2509823),[1,3,4,5,7,8,9])]
abbrev l9(b d c:Nat)(a:LB)(i:Nat):LV:=[(pA b),(pA d),(aE 0),(pA c),(strOf a),(iA i)]
abbrev oK(b d c:Nat)(a:LB)(i:Nat)(k:Nat):LV:=[(pA b),(pA d),(aE 0),(pA c),(strOf a),(iA i),(iA k)]
theorem Qy(r:LV)(h:au)(Q:VH)(hx:xN (jY aq 24 (al ⟨r⟩)) h λB1 x=>xA (aS aq 24 x (pA (h.aD))) λc3=>aX 12 [(al ⟨c3⟩)] x λv4 q=>yB v4 λb6=>cq b6 (aX 13 [] q λv7 h8=>yB v7 λb9=>Q (ah b9) h8) (xA (aS aq 24 q (pA (h.aD))) λx0=>aX 19 [(al ⟨x0⟩)] q λv a=>∃f:LV,∃d:Int,v=(av ⟨[(al ⟨f⟩),(aE d)]⟩)/\xN (cP aq 24) a λx7 m=>xU (bh aq 24 (pA (a.aD)) (al ⟨f⟩) m) m λx2 l=>xA (aS aq 24 l (pA (h.aD))) λL=>aX 20 [(al ⟨L⟩)] l λP e=>∃i:LV,∃o:Int,P=(av ⟨[(al ⟨i⟩),(aE o)]⟩)/\xN (cP aq 24) e λx5 n=>xU (bh aq 24 (pA (e.aD)) (al ⟨i⟩) n) n λx4 b=>cq (((d:Int) !=o)) (Q (ah aj) b) (cq (((d:Int) !=0)) (xA (aS aq 24 b (pA (a.aD))) λG=>xA (cJ aq 24 []) λT=>aX 21 [(al ⟨G⟩),(al ⟨T⟩)] b λJ p=>yB J λu=>cq u (aX 13 [] p λF I=>yB F λw=>Q (ah w) I) (Q (ah aj) p)) (xP (aY aq 24 (pA (a.aD)) 0) λy=>xI ak (aS aq 3 b (bw y)) λE=>xP (aY aq 24 (pA (h.aD)) 0) λx1=>xI ak (aS aq 3 b (bw x1)) λU=>cq (((E:Int) !=U)) (Q (ah aj) b) (xA (aS aq 24 b (pA (a.aD))) λz=>aX 22 [(al ⟨z⟩)] b λR j=>yB R λY=>cq (!Y) (Q (ah aj) j) (xA (aS aq 24 j (pA (a.aD))) λH=>aX 23 [(al ⟨H⟩)] j λA c=>yI ak A λK=>cq (decide ((K:Int)>3000)) (aX 13 [] c λV B=>yB V λC=>Q (ah C) B) (xP (aY aq 24 (pA (a.aD)) 3) λN=>xL (aS aq 22 c (bw N)) λx3 t x6=>cq (decide (((t:Int):Int)>1000)) (aX 13 [] c λX S=>yB X λD=>Q (ah D) S) (xP (aY aq 24 (pA (h.aD)) 0) λO=>xI ak (aS aq 3 c (bw O)) λs=>aX 24 [(aE s)] c λW g=>yS W λk=>xP (aY aq 24 (pA (a.aD)) 2) λM=>xS (aS aq 9 g (bw M)) λZ=>cq (!((Z:LB)==k)) (Q (ah aj) g) (cw jJ (pq 19455) [(pA (h.aD)),(pA (a.aD)),(aE d),(pA (e.aD)),(strOf k),(aE 0)] g (eu jJ (pq 11263) Q)))))))))):aX 4 [(al ⟨r⟩)] h Q:=hH jJ Tryz.func4 (bD hx)
abbrev As(c:Nat)(e:Nat)(d:Nat)(a:LB)(i:Nat)(h:au)(b:Nat->Nat->au->Prop)(mz:Nat)(Q:VH):Prop:=cw jJ (pq 2509823) (oK c e d a i 0) h (fQ jJ (pq 89) (pq 19455) (RR jJ (pq 19455) (jg (l9 c e d a) b) mz (eu jJ (pq 11263) Q)))
theorem Au(V:LV)(g a f:Nat)(c:LB)(b:Nat->Nat->au->Prop)(Q:VH)(step:∀(mz:Nat) (i:Nat) (L:Nat->ag) (h:au),b mz i h->xP (aY aq 24 (pA a) 3) λR=>xL (aS aq 22 h (bw R)) λT B U=>cq (decide (((i:Int):Int)<(B:Int))) (xP (aY aq 24 (pA a) 3) λO=>xL (aS aq 22 h (bw O)) λA r H=>xP (aW aq 22 (ae A r H) (iA i)) λw=>xP (aY aq 44 (bw w) 0) λF=>xS (aS aq 9 h (bw F)) λE=>cq (!((E:LB)==[])) (xP (aY aq 24 (pA a) 3) λP=>xL (aS aq 22 h (bw P)) λu K p=>xP (aW aq 22 (ae u K p) (iA i)) λD=>xP (aY aq 44 (bw D) 0) λo=>xS (aS aq 9 h (bw o)) λN=>cq (!((N:LB)==c)) (Q (ah aj) h) (As g a f c i h b mz Q)) (As g a f c i h b mz Q)) (xA (aS aq 24 h (pA a)) λx=>xA (aS aq 24 h (pA f)) λz=>aX 25 [(al ⟨x⟩),(al ⟨z⟩)] h λJ e=>yB J λC=>cq (!C) (Q (ah aj) e) (xA (aS aq 24 e (pA a)) λS=>aX 26 [(al ⟨S⟩)] e λt d=>∃k:Bool,∃(s:OA) (y G:Nat),∃j:Int,t=(av ⟨[(ah k),(ae s y G),(aE j)]⟩)/\cq k (aX 13 [] d λv q=>yB v λI=>Q (ah I) q) (cq (((j:Int)==2)) (aX 13 [] d λM l=>yB M λm=>Q (ah m) l) (Q (ah aj) d)))))(mz:Nat){i:Nat}{h:au}(n:b mz i h):cw jJ (pq 19455) (l9 g a f c i) h (eu jJ (pq 11263) Q):=
 gm (l9 g a f c) b (λmz i L h n=>bD (step mz i L h n)) mz n
theorem Av(H:LV)(e d f:Nat)(a:LB)(g:Nat->Nat->au->Prop)(mz i:Nat)(c:Nat->Nat->au->Prop)(Q:VH)(step:∀(b:Nat) (k:Nat) (E:Nat->ag) (h:au),c b k h->xP (aY aq 24 (pA d) 3) λu=>xL (aS aq 22 h (bw u)) λA p q=>xP (aW aq 22 (ae A p q) (iA i)) λo=>xP (aY aq 44 (bw o) 1) λD=>xL (aS aq 42 h (bw D)) λF n G=>cq (decide (((k:Int):Int)<(n:Int))) (xP (aY aq 24 (pA d) 3) λz=>xL (aS aq 22 h (bw z)) λy x C=>xP (aW aq 22 (ae y x C) (iA i)) λm=>xP (aY aq 44 (bw m) 1) λl=>xL (aS aq 42 h (bw l)) λv w j=>xP (aW aq 42 (ae v w j) (iA k)) λs=>xP (aY aq 46 (bw s) 2) λr=>xS (aS aq 9 h (bw r)) λB=>cq (!((B:LB)==a)) (Q (ah aj) h) (ct (jg (oK e d f a i) c) b [(pA e),(pA d),(aE 0),(pA f),(strOf a),(iA i),(aE (ai ak ((k:Int)+1)))] h)) (ct (jg (l9 e d f a) g) mz [(pA e),(pA d),(aE 0),(pA f),(strOf a),(aE (ai ak ((i:Int)+1)))] h))(b:Nat){k:Nat}{h:au}(t:c b k h):cw jJ (pq 2509823) (oK e d f a i k) h (fQ jJ (pq 89) (pq 19455) (RR jJ (pq 19455) (jg (l9 e d f a) g) mz (eu jJ (pq 11263) Q))):=
 gm (oK e d f a i) c (λb k E h t=>bD (step b k E h t)) b t
section
structure SgF(M N:cm):Prop where
 kind:N.kind=M.kind
 lead:N.lead=jz M.kind
 gd:Good N
 sm:Small N
 val:dO N=af
 det:Nh N=af
 Wp:N.aI.length<=256
 bB:∀s∈N.aI,s.bB.length<=30
 fin:∀s∈N.aI,s.f=jz M.kind\/s.f=[]
 one:∀s∈N.aI,∀q∈s.bB,q.w=jz M.kind
 uns:Bl N
 agA:∀x:List Int,(∀c∈x,1<=c)->Bi (qu N x)
 dom:∀x:List Int,(∀c∈x,1<=c)->(yY N (qu N x)↔Tp M x)
theorem Kg{M N:cm}(y:1<=M.kind/\M.kind<=3)(s:sgN M N):SgF M N:=by
 obtain⟨T,L,j,m,v,G,w,b,o⟩:=s;have e:=jG j;have f:=b;rw[<-m]at f;have E:=e.uj;have F:=e.uk;obtain⟨z,d,C,t,A⟩:=ZS j v (λp=>by
  by_cases B:p<T.aI.length
  ·obtain⟨I,k,r,_⟩:=oi B;rw[r];have:=Ds (aM k);omega
  ·unfold dp;rw[gD,getElem?_eq_none (by omega)];exact ck _) f o
 have g:∀x∈N.aI,∃l,Ii T L (jz M.kind) l x:=λx a=>by
  obtain⟨i,n⟩:=getElem?_of_mem a;have:=(List.getElem?_eq_some_iff.1 n).1;exact⟨_,b.st i _ x (gE (by rw[<-b.AW];exact this)) n⟩
 have J:=d.uj;have H:=d.uk;refine⟨b.kind.trans m,b.lead,d,C,z,t,A,o,λx a=>?_,λx a q u=>?_,b.uns,λx a=>b.one (ox d) (by omega) a,λx a=>?_⟩
 ·obtain⟨l,h⟩:=g x a;exact h.f0
 ·obtain⟨l,h⟩:=g x a;exact(h.a q u).2.1
 ·rw[Gy (ox d) (by omega) λc D=>by have:=a c D;omega,b.dom (ox e) (by omega) (abI e) (QS y),w]
section
variable {h:au} {M:cm} {a:Option aJ} {n c:Nat}
theorem Zt(w:Wf h)(r:eY h (ae a n c) jV.aI):aX 21 [al ⟨cU jV a n c⟩,al ⟨cU jV none 0 0⟩] h (λv m=>v=ah af/\Ok h m):=by
 obtain⟨j,e⟩:=jZ w r;refine Y1 (cU jV a n c) (cU jV none 0 0) h _ ⟨_,kW jV a n c,_,kW jV none 0 0,?_⟩;obtain rfl:n=0:=j.len;generalize h.push (Bm jV a 0 c)=k at*;obtain⟨d,f⟩:=jZ e.wf (yq k);have b:=j.ok f;have l:=e.trans f;generalize k.push (Bm jV none 0 0)=o at*;refine⟨_,kZ _,_,b.l0,_,kZ _,_,d.l0,az (λq=>by simp at q) (λ_=>?_)⟩;refine⟨_,qk _,_,b.l1,_,qk _,_,d.l1,az (λq=>by simp at q) (λ_=>?_)⟩;refine⟨_,Dj _,_,b.l2,_,Dj _,_,d.l2,az (λq=>by simp at q) (λ_=>?_)⟩;refine⟨_,dC _,_,_,_,b.l3,_,dC _,_,_,_,d.l3,az (λq=>by simp at q) (λ_=>?_)⟩;refine DA (cU jV a 0 c) (cU jV none 0 0) h.aD k.aD (λ_ i g=>g=o/\i=0) _ (λmz i=>?_) 0 (i:=0) ⟨rfl,rfl⟩;rintro p g ⟨rfl,rfl⟩;exact⟨_,dC _,_,_,_,b.l3,az (λq=>by simp at q) (λ_=>⟨rfl,l⟩)⟩
theorem R9(w:Wf g){N:cm}{a:Option aJ}{n c:Nat}(r:eY g (ae a n c) N.aI):bh aq 24 (pA g.aD) (al ⟨cU N a n c⟩) (g.push qc)=aa (undef,.set g.aD (Bm N a n c))/\Ok g ((ek.set g.aD (Bm N a n c)).app (g.push qc))/\MB ((ek.set g.aD (Bm N a n c)).app (g.push qc)) g.aD N a n c:=by
 have d:=(Ok.refl w).push qc;have b:Ok g ((ek.set g.aD (Bm N a n c)).app (g.push qc)):=d.set _ (aT _) (ff _) w;refine⟨ib js rfl (cT g qc) rfl (by simp[cU,eZ,strOf]),b,?_,r.ok b⟩;show((g.push qc).set _ _).get _=_;rw[au.cE,iP rfl];rfl
theorem Qz(tb:za h)(w:Wf h)(bd:Bnd M)(st:adU M)(r:eY h (ae a n c) M.aI):aX 4 [al ⟨cU M a n c⟩] h (EQ h):=by
 obtain⟨mb,ok⟩:=jZ w r;refine Qy (cU M a n c) h _ ⟨_,kW M a n c,_,mb.all,(X0 ok.wf bd mb.row).mono ?_⟩;generalize h.push (Bm M a n c)=g1 at*;rintro _ g2 ⟨rfl,o2⟩;have B:=ok.trans o2;have v:=mb.ok o2;refine⟨_,rfl,az (λq=>Jm B) (λql=>?_)⟩;have sm:=ZL st ql;have sz:M.aI.length<=8/\mo M.aI<=30:=by
  unfold lrg at ql;rw[Bool.or_eq_false_iff,decide_eq_false_iff_not,decide_eq_false_iff_not]at ql;omega
 clear mb ok o2;generalize h.aD=k1 at v⊢;refine⟨_,v.all,(QV (tb.ok B) B.wf sm sz.1 sz.2 v.row).mono ?_⟩;rintro _ g3 ⟨N,I,n2,c2,e,rfl,o3,rN,hN⟩;have T:=B.trans o3;have y0:=v.ok o3;obtain⟨s4,e4,mN⟩:=R9 T.wf rN;refine⟨_,_,rfl,_,FQ,_,s4,?_⟩;have Z:=T.trans e4;have G:=y0.ok e4;clear s4 e4 o3 rN B v T y0;generalize (ek.set g3.aD (Bm N I n2 c2)).app (g3.push qc)=g4 at*;generalize g3.aD=O at*;refine⟨_,G.all,(Q1 Z.wf sm sz.1 sz.2 G.row).mono ?_⟩;rintro _ g5 ⟨N',a3,n3,c3,e',rfl,o5,x9,x4⟩;have Y:=Z.trans o5;have x5:=G.ok o5;have x3:=mN.ok o5;obtain⟨s6,e6,x7⟩:=R9 Y.wf x9;refine⟨_,_,rfl,_,FQ,_,s6,?_⟩;have A:=Y.trans e6;have x0:=x5.ok e6;have m:=x3.ok e6;clear s6 e6 o5 x9 Z G mN Y x5 x3;generalize (ek.set g5.aD (Bm N' a3 n3 c3)).app (g5.push qc)=g6 at*;generalize g5.aD=K at*;have y5:(e=e'/\e≠0/\N=jV)\/(e=0/\e'=0/\dO M=af/\sgN M N/\sgN M N'):=by
  rcases hN with⟨p,S,h3⟩|⟨p,S,h3,h4⟩|⟨p,S,h3,h4⟩<;>rcases x4 with⟨i1,i2,i3⟩|⟨i1,i2,i3,i4⟩|⟨i1,i2,i3,i4⟩<;>first|exact absurd (p.symm.trans i1) (by decide)|exact absurd (S.symm.trans i2) (by decide)|skip
  ·exact .inl ⟨by omega,by omega,h3⟩
  ·exact .inl ⟨by omega,by omega,h4⟩
  ·exact .inr ⟨h3,i3,p,h4,i4⟩
 clear hN x4;rcases y5 with⟨rfl,p,rfl⟩|⟨rfl,rfl,hv,s1,s2⟩
 ·refine az (λq=>by simp at q) (λ_=>az (λ_=>?_) (λq=>absurd (by simpa using q) p));refine⟨_,m.all,_,Ak,(Zt A.wf m.row).mono ?_⟩;rintro _ g7 ⟨rfl,D⟩;exact⟨_,rfl,az (λ_=>Jm (A.trans D)) (λq=>by cases q)⟩
 refine az (λq=>by simp at q) (λ_=>az (λq=>by simp at q) (λ_=>?_));have f:=Kg (jA hv).1 s1;have W:=Kg (jA hv).1 s2;clear s1 s2;refine⟨_,kZ _,_,m.l0,_,kZ _,_,x0.l0,az (λq=>by rw[f.kind]at q;simp at q) (λ_=>?_)⟩;refine⟨_,m.all,(acv A.wf f.sm m.row).mono ?_⟩;rintro _ g7 ⟨rfl,D⟩;have X:=A.trans D;have y4:=x0.ok D;have F:=m.ok D;have x1:=x7.ok D;refine⟨_,rfl,az (λq=>by rw[f.det]at q;cases q) (λ_=>?_)⟩;refine⟨_,F.all,(Oz X.wf (λs R=>by have:=f.bB s R;omega) (by have:=f.Wp;omega) F.row).mono ?_⟩;rintro _ g8 ⟨rfl,P⟩;have u:=X.trans P;have y3:=y4.ok P;have Q:=F.ok P;have y1:=x1.ok P;clear X y4 F x1 A x0 m x7 D P;refine⟨_,rfl,az (λ_=>Jm u) (λ_=>?_)⟩;refine⟨_,dC _,_,_,_,Q.l3,az (λ_=>Jm u) (λ_=>?_)⟩;refine⟨_,kZ _,_,y3.l0,(Mk M.kind u.wf).mono ?_⟩;rintro _ g9 ⟨rfl,o9⟩;have y7:=u.trans o9;have y2:=Q.ok o9;have y9:=y1.ok o9;refine⟨_,rfl,_,Dj _,_,y2.l2,az (λq=>by rw[f.lead]at q;simp at q) (λ_=>?_)⟩;clear u y3 Q y1 o9;refine Au (cU M a n c) k1 O K (jz M.kind) (λmz i g=>(Ok h g/\MB g O N I n2 c2/\MB g K N' a3 n3 c3)/\i<=N.aI.length/\mz=N.aI.length-i) _ (λmz i=>?_) N.aI.length (i:=0) ⟨⟨y7,y2,y9⟩,ck _,rfl⟩;rintro zz g ⟨j,hi,rfl⟩;obtain⟨t,d,m2⟩:=id j;have hl:=d.len;have z2:=f.Wp;refine⟨_,dC _,_,_,_,d.l3,az (λq=>?_) (λq=>?_)⟩
 ·have q:=dT q;obtain⟨x,J⟩:∃x,N.aI[i]?=aa x:=⟨_,gE (by omega)⟩
  have V:=aM J;have z6:=f.bB x V;obtain⟨b,o,ya,yn,yc,L,_,d3,_,_⟩:=d.row.KM (Ok.refl t.wf) J;have H:As k1 O K (jz M.kind) i g (λmz i g=>(Ok h g/\MB g O N I n2 c2/\MB g K N' a3 n3 c3)/\i<=N.aI.length/\mz=N.aI.length-i) (N.aI.length-i) (EQ h):=by
   refine Av (cU M a n c) k1 O K (jz M.kind) _ _ i (λx8 k g=>(Ok h g/\MB g O N I n2 c2/\MB g K N' a3 n3 c3)/\k<=x.bB.length/\x8=x.bB.length-k) _ (λx8 k=>?_) x.bB.length (k:=0) ⟨j,ck _,rfl⟩;clear L d3 j t d m2;rintro z3 g ⟨j,hk,rfl⟩;obtain⟨t,d,m2⟩:=id j;obtain⟨b,o,ya,yn,yc,L,_,_,d4,ar⟩:=d.row.KM (Ok.refl t.wf) J;have z1:=ar.len;refine⟨_,dC _,_,_,_,d.l3,_,L,_,fG _ _,_,_,_,d4,az (λq=>?_) (λq=>?_)⟩
   ·have q:=dT q;obtain⟨y,hy⟩:∃y,x.bB[k]?=aa y:=⟨_,gE (by omega)⟩
    obtain⟨b1,o1,f1,_,_,_,f4,_⟩:=ar.at_ hy;refine⟨_,dC _,_,_,_,d.l3,_,L,_,fG _ _,_,_,_,d4,_,f1,_,Qi _ _,_,f4,az (λC=>?_) (λ_=>?_)⟩
    ·rw[f.one x V y (aM hy)]at C;simp at C
    ·rw[cH (i:=k) (n:=100) (by omega) (by omega)];exact fC (x.bB.length-(k+1)) (by omega) ⟨j,by omega,rfl⟩
   ·rw[cH (i:=i) (n:=300) (by omega) (by omega)];exact fC (N.aI.length-(i+1)) (by omega) ⟨j,by omega,rfl⟩
  refine⟨_,dC _,_,_,_,d.l3,_,L,_,pb _ _,_,d3,az (λC=>?_) (λ_=>H)⟩;refine⟨_,dC _,_,_,_,d.l3,_,L,_,pb _ _,_,d3,az (λq3=>?_) (λ_=>H)⟩;rcases f.fin x V with e|e
  ·rw[e]at q3;simp at q3
  ·rw[e]at C;simp at C
 ·have z0:=W.Wp;refine⟨_,d.all,_,m2.all,(OC t.wf f.gd W.gd (by omega) (by omega) (λs R=>by have:=f.bB s R;omega) (λs R=>by have:=W.bB s R;omega) d.row m2.row f.agA W.agA (λx J=>by rw[f.dom x J,W.dom x J])).mono ?_⟩;rintro _ z5 ⟨rfl,x2⟩;have E:=t.trans x2;have x6:=d.ok x2;refine⟨_,rfl,az (λq=>by cases q) (λ_=>?_)⟩;refine⟨_,x6.all,(YI (tb.ok E) E.wf f.sm x6.row).mono ?_⟩;rintro _ z4 ⟨b2,ua,un,uc,e,rfl,y6,hU⟩;have U:=E.trans y6;refine⟨_,_,_,_,_,rfl,az (λ_=>Jm U) (λq=>az (λ_=>Jm U) (λC=>?_))⟩;rcases hU with⟨p,_⟩|⟨_,_,_,_,p⟩|⟨_,_,S⟩
  ·rw[f.val]at p;cases p
  ·subst p;simp at C
  ·rcases S with⟨rfl,_⟩|⟨_,l,l',x,y,z,a1,I,y8,_⟩
   ·cases q
   ·exact absurd (f.uns _ _ _ _ _ a1 I) y8
end
end
end Go.Proofs.YtnlccnpbjeiccaaGreatDoor
end
section
namespace Go.Proofs.YtnlccnpbjeiccaaGreatDoor
open Go.Shelf Go.RowKit Go.Lib Go.Sort
def O7:Go.Shelf.Ren:=⟨fun|5=>146|8=>142|7=>187|19=>185|20=>186|10=>216|11=>217|12=>218|13=>219|14=>220|15=>221|16=>222|17=>223|18=>224|30=>244|31=>212|32=>213|33=>245|34=>246|35=>175|40=>270|n=>n,fun|23=>27|25=>3|3=>3|32=>210|22=>27|0=>0|44=>238|46=>240|4=>4|36=>232|35=>231|41=>89|5=>5|9=>9|53=>264|57=>268|63=>286|64=>287|n=>n,fun|n=>n⟩
theorem acM:Go.Proofs.SlLaysM.n5 Tryz.prog O7:={
 mixed:=by kernel_rfl,
 f5:=⟨Tryz.f146.name,by decide,Tryz.func146.trans (congrArg aa (by kernel_rfl))⟩,
 f7:=⟨Tryz.f187.name,by decide,Tryz.func187.trans (congrArg aa (by kernel_rfl))⟩,
 f8:=Tryz.func142.trans (congrArg aa (by kernel_rfl)),
 f10:=⟨Tryz.f216.name,by decide,Tryz.func216.trans (congrArg aa (by kernel_rfl))⟩,
 f11:=⟨Tryz.f217.name,by decide,Tryz.func217.trans (congrArg aa (by kernel_rfl))⟩,
 f12:=⟨Tryz.f218.name,by decide,Tryz.func218.trans (congrArg aa (by kernel_rfl))⟩,
 f13:=⟨Tryz.f219.name,by decide,Tryz.func219.trans (congrArg aa (by kernel_rfl))⟩,
 f14:=⟨Tryz.f220.name,by decide,Tryz.func220.trans (congrArg aa (by kernel_rfl))⟩,
 f15:=⟨Tryz.f221.name,by decide,Tryz.func221.trans (congrArg aa (by kernel_rfl))⟩,
 f16:=⟨Tryz.f222.name,by decide,Tryz.func222.trans (congrArg aa (by kernel_rfl))⟩,
 f17:=⟨Tryz.f223.name,by decide,Tryz.func223.trans (congrArg aa (by kernel_rfl))⟩,
 f18:=⟨Tryz.f224.name,by decide,Tryz.func224.trans (congrArg aa (by kernel_rfl))⟩,
 f19:=Tryz.func185.trans (congrArg aa (by kernel_rfl)),
 f20:=Tryz.func186.trans (congrArg aa (by kernel_rfl)),
 f30:=⟨Tryz.f244.name,by decide,Tryz.func244.trans (congrArg aa (by kernel_rfl))⟩,
 f31:=Tryz.func212.trans (congrArg aa (by kernel_rfl)),
 f32:=Tryz.func213.trans (congrArg aa (by kernel_rfl)),
 f33:=⟨Tryz.f245.name,by decide,Tryz.func245.trans (congrArg aa (by kernel_rfl))⟩,
 f34:=⟨Tryz.f246.name,by decide,Tryz.func246.trans (congrArg aa (by kernel_rfl))⟩,
 f35:=⟨Tryz.f175.name,by decide,Tryz.func175.trans (congrArg aa (by kernel_rfl))⟩,
 f40:=⟨Tryz.f270.name,by decide,Tryz.func270.trans (congrArg aa (by kernel_rfl))⟩,
 t0:=Tryz.underlying0,
 a0:=Tryz.isAgg0,
 z0:=Tryz.sizeOf0,
 v0:=Tryz.zeroValue0,
 t3:=Tryz.underlying3,
 a3:=Tryz.isAgg3,
 z3:=Tryz.sizeOf3,
 v3:=Tryz.zeroValue3,
 t4:=Tryz.underlying4,
 a4:=Tryz.isAgg4,
 z4:=Tryz.sizeOf4,
 v4:=Tryz.zeroValue4,
 t5:=Tryz.underlying5,
 a5:=Tryz.isAgg5,
 z5:=Tryz.sizeOf5,
 v5:=Tryz.zeroValue5,
 t9:=Tryz.underlying9,
 a9:=Tryz.isAgg9,
 z9:=Tryz.sizeOf9,
 v9:=Tryz.zeroValue9,
 t22:=Tryz.underlying27,
 a22:=Tryz.isAgg27,
 z22:=Tryz.sizeOf27,
 v22:=Tryz.zeroValue27,
 t23:=Tryz.underlying27,
 a23:=Tryz.isAgg27,
 z23:=Tryz.sizeOf27,
 v23:=Tryz.zeroValue27,
 t25:=Tryz.underlying3,
 a25:=Tryz.isAgg3,
 z25:=Tryz.sizeOf3,
 v25:=Tryz.zeroValue3,
 t32:=Tryz.underlying210,
 a32:=Tryz.isAgg210,
 z32:=Tryz.sizeOf210,
 v32:=Tryz.zeroValue210,
 t35:=Tryz.underlying231,
 a35:=Tryz.isAgg231,
 z35:=Tryz.sizeOf231,
 v35:=Tryz.zeroValue231,
 t36:=Tryz.underlying232,
 a36:=Tryz.isAgg232,
 z36:=Tryz.sizeOf232,
 v36:=Tryz.zeroValue232,
 t41:=Tryz.underlying89,
 a41:=Tryz.isAgg89,
 z41:=Tryz.sizeOf89,
 v41:=Tryz.zeroValue89,
 t44:=Tryz.underlying238,
 a44:=Tryz.isAgg238,
 z44:=Tryz.sizeOf238,
 v44:=Tryz.zeroValue238,
 t46:=Tryz.underlying240,
 a46:=Tryz.isAgg240,
 z46:=Tryz.sizeOf240,
 v46:=Tryz.zeroValue240,
 t53:=Tryz.underlying264,
 a53:=Tryz.isAgg264,
 z53:=Tryz.sizeOf264,
 v53:=Tryz.zeroValue264,
 t57:=Tryz.underlying268,
 a57:=Tryz.isAgg268,
 z57:=Tryz.sizeOf268,
 v57:=Tryz.zeroValue268,
 t63:=Tryz.underlying286,
 a63:=Tryz.isAgg286,
 z63:=Tryz.sizeOf286,
 v63:=Tryz.zeroValue286,
 t64:=Tryz.underlying287,
 a64:=Tryz.isAgg287,
 z64:=Tryz.sizeOf287,
 v64:=Tryz.zeroValue287 }
end Go.Proofs.YtnlccnpbjeiccaaGreatDoor
end
section
namespace Go.Proofs.YtnlccnpbjeiccaaGreatDoor
open Go Go.Ab Go.Num
theorem agF:uu Tryz.prog 24 [aE 1] (bt ⟨#[48]⟩):=px sx Fh (n:=2000) (by kernel_rfl) (by kernel_rfl)
noncomputable def t24:List (List ag×ag):=[([aC ak 1],bt ⟨#[48]⟩)]
theorem ae3:wP Tryz.prog 24 t24:=rE agF (by kernel_rfl) (vP)
theorem aeK:uu Tryz.prog 203 [bt ⟨#[48]⟩] (ah af):=px sx Fh (n:=2000) (by kernel_rfl) (by kernel_rfl)
theorem aeL:uu Tryz.prog 203 [bt ⟨#[49]⟩] (ah af):=px sx Fh (n:=2000) (by kernel_rfl) (by kernel_rfl)
noncomputable def agV:List (List ag×ag):=[([bt ⟨#[48]⟩],ah af),([bt ⟨#[49]⟩],ah af)]
theorem acV:wP Tryz.prog 203 agV:=rE aeK (by kernel_rfl) (rE aeL (by kernel_rfl) (vP))
noncomputable def lt1:rR:=(24,.Ll t24)::(203,.Ll agV)::aeu
theorem Yb:sM Tryz.prog zi lt1:=oY ae3 (oY acV (Fh))
theorem aeM:uu Tryz.prog 204 [bt ⟨#[48]⟩,bt ⟨#[49]⟩] (.tuple #[bt ⟨#[49]⟩,aE 0]):=px sx Yb (n:=2000) (by kernel_rfl) (by kernel_rfl)
noncomputable def agW:List (List ag×ag):=[([bt ⟨#[48]⟩,bt ⟨#[49]⟩],.tuple #[bt ⟨#[49]⟩,aC ak 0])]
theorem acW:wP Tryz.prog 204 agW:=rE aeM (by kernel_rfl) (vP)
noncomputable def lt2:rR:=(204,.Ll agW)::lt1
theorem Yc:sM Tryz.prog zi lt2:=oY acW (Yb)
theorem aeJ:uu Tryz.prog 169 [bt ⟨#[48]⟩] (.tuple #[.agg #[ah aj,bt ⟨#[48]⟩,bt ⟨#[49]⟩],ah af]):=px sx Yc (n:=2000) (by kernel_rfl) (by kernel_rfl)
noncomputable def agU:List (List ag×ag):=[([bt ⟨#[48]⟩],.tuple #[.agg #[ah aj,bt ⟨#[48]⟩,bt ⟨#[49]⟩],ah af])]
theorem acU:wP Tryz.prog 169 agU:=rE aeJ (by kernel_rfl) (vP)
noncomputable def lt3:rR:=(169,.Ll agU)::lt2
theorem Yd:sM Tryz.prog zi lt3:=oY acU (Yc)
theorem aeI:uu Tryz.prog 155 [bt ⟨#[48]⟩] (ah af):=px sx Yd (n:=2000) (by kernel_rfl) (by kernel_rfl)
noncomputable def agT:List (List ag×ag):=[([bt ⟨#[48]⟩],ah af)]
theorem acT:wP Tryz.prog 155 agT:=rE aeI (by kernel_rfl) (vP)
noncomputable def lt4:rR:=(155,.Ll agT)::lt3
theorem Ye:sM Tryz.prog zi lt4:=oY acT (Yd)
theorem agG:uu Tryz.prog 73 [aE 1,bt ⟨#[48]⟩] (ah af):=px sx Ye (n:=2000) (by kernel_rfl) (by kernel_rfl)
noncomputable def t73:List (List ag×ag):=[([aC ak 1,bt ⟨#[48]⟩],ah af)]
theorem ae4:wP Tryz.prog 73 t73:=rE agG (by kernel_rfl) (vP)
noncomputable def lt5:rR:=(73,.Ll t73)::lt4
theorem aev:sM Tryz.prog zi lt5:=oY ae4 (Ye)
end Go.Proofs.YtnlccnpbjeiccaaGreatDoor
end
