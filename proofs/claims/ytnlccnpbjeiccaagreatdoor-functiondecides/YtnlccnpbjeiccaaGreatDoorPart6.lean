/- Laws and walks that the proof leans on (part 6): F10; H1; H2; H3; F11; H4 and others. No condition. -/
import Derived.Test.YtnlccnpbjeiccaaGreatDoorPart2
import Derived.Test.YtnlccnpbjeiccaaGreatDoorPart5
import Derived.Shelf.SortM.Plain
import Derived.Shelf.SortM.SortNone
import Derived.Test.YtnlccnpbjeiccaaGreatDoorProg
set_option linter.unusedVariables false
set_option linter.unusedSimpArgs false
set_option maxRecDepth 100000
open Bool renaming false → ak, true → af
open Go renaming Addr → aF, Program → aO, TypeId → aD, Value → ah
open Go.IntKind renaming i64 → an, wrap → aj
open Go.Value renaming agg → aq, bool → ai, int → aB, slice → ae, string → bu, tuple → av
open Int renaming le_refl → fU, natCast_mul → gW, toNat_natCast → bn
open List renaming append_assoc → cE, append_nil → cF, drop_zero → bV, eq_nil_of_length_eq_zero → aY, ext_getElem? → cV, flatten_cons → fg, length_append → bg, length_cons → bP, length_map → aG, length_replicate → bE, length_set → bT, length_singleton → bw, length_take → bo, map_append → bU, mem_append → bH, mem_append_left → dY, mem_cons → cO, mem_cons_of_mem → cJ, mem_cons_self → cH, mem_of_getElem? → aI, mem_singleton → aX, replicate → aH, take_length → dX, take_of_length_le → bm
open Nat renaming add_mul → cM, le_add_right → dg, le_refl → aS, le_trans → bK, lt_succ_self → eD, mod_eq_of_lt → eG, mul_comm → dh, mul_le_mul → dC, mul_le_mul_right → bJ, not_lt_zero → dH, one_mul → dw, succ_le_succ → pG, zero_add → bO, zero_le → cr
open Option renaming some → aa
open Option.some renaming inj → aC
open List (getElem?_set map_set)
section
namespace Go.Proofs.YtnlccnpbjeiccaaGreatDoor
open Go Go.Ab Go.Num
noncomputable def DK:FD:=gT Tryz.f52 [((pq 75),[0,1,5])]
abbrev sa(a:OA)(n c:Nat)(b:OA)(m d:Nat)(i:Nat):LV:=[(ae a n c),(ae b m d),(iA i)]
theorem abM(a:OA)(n c:Nat)(b:OA)(m d:Nat)(h:aw)(Q:VH)(e:cp (((n:Int) !=(m:Int))) (Q (ai ak) h) (cq DK (pq 75) (sa a n c b m d 0) h (ez DK (pq 43) Q))):aW 52 [(ae a n c),(ae b m d)] h Q:=gZ DK Tryz.func52 (bF e)
theorem EV(a:OA)(n c:Nat)(b:OA)(m d:Nat)  (f:Nat->Nat->aw->Prop) (Q:VH) (step:∀(e:Nat)(i:Nat)(j:Nat->ah)(h:aw),f e i h->cp (decide ((i:Int)<(n:Int))) (vX 27 (ae a n c) (iA i) (room h 9) λk=>vX 27 (ae b m d) (iA i) (room h 9) λl=>cp ((k !=l)) (Q (ai ak) (room h 9)) (cB (mw (sa a n c b m d) f) e [(ae a n c),(ae b m d),(aA (aj an ((i:Int)+1)))] (room h 9))) (Q (ai af) h)) (e:Nat) {i:Nat} {h:aw} (g:f e i h):cq DK (pq 75) (sa a n c b m d i) h (ez DK (pq 43) Q):=
 gP (sa a n c b m d) f (λe i j h g=>bF (step e i j h g)) e g
noncomputable def Dd:FD:=gT Tryz.f17 [((pq 75),[0,1,5])]
abbrev rZ(a:OA)(n c:Nat)(b:OA)(m d:Nat)(i:Nat):LV:=[(ae a n c),(ae b m d),(iA i)]
theorem aaB(a:OA)(n c:Nat)(b:OA)(m d:Nat)(h:aw)(Q:VH)(e:cp (((n:Int) !=(m:Int))) (Q (ai ak) h) (cq Dd (pq 75) (rZ a n c b m d 0) h (ez Dd (pq 43) Q))):aW 17 [(ae a n c),(ae b m d)] h Q:=gZ Dd Tryz.func17 (bF e)
theorem EI(a:OA)(n c:Nat)(b:OA)(m d:Nat)  (f:Nat->Nat->aw->Prop) (Q:VH) (step:∀(e:Nat)(i:Nat)(j:Nat->ah)(h:aw),f e i h->cp (decide ((i:Int)<(n:Int))) (vX 27 (ae a n c) (iA i) (room h 9) λk=>vX 27 (ae b m d) (iA i) (room h 9) λl=>cp ((k !=l)) (Q (ai ak) (room h 9)) (cB (mw (rZ a n c b m d) f) e [(ae a n c),(ae b m d),(aA (aj an ((i:Int)+1)))] (room h 9))) (Q (ai af) h)) (e:Nat) {i:Nat} {h:aw} (g:f e i h):cq Dd (pq 75) (rZ a n c b m d i) h (ez Dd (pq 43) Q):=
 gP (rZ a n c b m d) f (λe i j h g=>bF (step e i j h g)) e g
noncomputable def De:FD:=gT Tryz.f16 [((pq 37),[0,4])]
abbrev r7(a:OA)(n c:Nat)(i:Nat):LV:=[(ae a n c),(iA i)]
theorem aaD(a:OA)(n c:Nat)(h:aw)(Q:VH)(b:cq De (pq 37) (r7 a n c 0) h (ez De (pq 21) Q)):aW 16 [(ae a n c)] h Q:=gZ De Tryz.func16 (bF b)
theorem EJ(a:OA)(n c:Nat)  (d:Nat->Nat->aw->Prop) (Q:VH) (step:∀(b:Nat)(i:Nat)(f:Nat->ah)(h:aw),d b i h->cp (decide ((i:Int)<(n:Int))) (vX 27 (ae a n c) (iA i) h λg=>cp (decide (g<1)) (Q (av ⟨[(ai ak),(ai ak)]⟩) h) (vX 27 (ae a n c) (iA i) h λj=>cp (decide (j>500)) (Q (av ⟨[(ai ak),(ai ak)]⟩) h) (cB (mw (r7 a n c) d) b [(ae a n c),(aA (aj an ((i:Int)+1)))] h))) (Q (av ⟨[(ai af),(ai (decide ((n:Int)>1000)))]⟩) h)) (b:Nat) {i:Nat} {h:aw} (e:d b i h):cq De (pq 37) (r7 a n c i) h (ez De (pq 21) Q):=
 gP (r7 a n c) d (λb i f h e=>bF (step b i f h e)) b e
noncomputable def gN:FD:=gT Tryz.f50 [((pq 151),[1,2,7,8,9,10]),((pq 303),[1,7,8,9,11]),((pq 607),[7,8,9,12]),((pq 37471),[7,8,9,12,13])]
abbrev qP(p q:Nat)(b:OA)(m d:Nat)(e:OA)(x f:Nat)(a:OA)(n c i:Nat):LV:=[(iA p),(iA q),(ae a n c),(ae b m d),(ae e x f),(iA i)]
abbrev oh(p:Nat)(b:OA)(m d:Nat)(e:OA)(x f:Nat)(a:OA)(n c i:Nat):LV:=[(iA p),(ae a n c),(ae b m d),(ae e x f),(iA i)]
abbrev lY(b:OA)(m d:Nat)(e:OA)(x f:Nat)(a:OA)(n c i:Nat):LV:=[(ae a n c),(ae b m d),(ae e x f),(iA i)]
abbrev kz(b:OA)(m d:Nat)(e:OA)(x f i:Nat)(a:OA)(n c k:Nat):LV:=[(ae a n c),(ae b m d),(ae e x f),(iA i),(iA k)]
theorem XS(b:LV)(p q:Nat)(h:aw)(Q:VH)(r:xN (iF au 24 (aq ⟨b⟩)) h λu a=>mh 24 (pA (h.ax)) 3 22 (room a 14) λs m t=>ve 22 (ae s m t) (iA p) 44 1 λo=>xL (aM au 42 (room a 14) (bN o)) λn d l=>mh 24 (pA (h.ax)) 3 22 (room a 14) λj c k=>ve 22 (ae j c k) (iA q) 44 1 λf=>xL (aM au 42 (room a 14) (bN f)) λe i g=>cq gN (pq 151) (qP p q n d l e i g none 0 0 0) (room a 14) (ez gN (pq 87) Q)):aW 50 [(aq ⟨b⟩),(iA p),(iA q)] h Q:=gZ gN Tryz.func50 (bF r)
theorem DF(J:LV)(p q:Nat)(b:OA)(m d:Nat)(e:OA)(x f:Nat)(j:Nat->OA->Nat->Nat->Nat->aw->Prop)(Q:VH)(step:∀(g:Nat) (a:OA) (n c i:Nat) (C:Nat->ah) (h:aw),j g a n c i h->(λ(y:ah->aw->Prop)=>cp (decide ((i:Int)<(m:Int))) (ve 42 (ae b m d) (iA i) 46 0 λs=>xI an (aM au 3 h (bN s)) λB=>cp ((B==0)) (ve 42 (ae b m d) (iA i) 46 3 λz=>xI an (aM au 3 (room h 16) (bN z)) λF=>ve 42 (ae b m d) (iA i) 46 1 λD=>xI an (aM au 3 (room h 16) (bN D)) λt=>xA (cI au 76 [(0,(aA F)),(1,(iA q)),(3,(aA t))]) λA=>zR (bC au 73 1 [(0,(aq ⟨A⟩))]) λk G E=>xE (bY au 73 73 (ae a n c) (sA (h.ax+13) G E) (bS (room h 16) h.ax [(13,k)])) (bS (room h 16) h.ax [(13,k)]) λw v u I o=>y (ae w v u) o) (y (ae a n c) h)) (cq gN (pq 303) (oh p b m d e x f a n c 0) h (ez gN (pq 175) Q))) (λr H=>cB (sk (qP p q b m d e x f) j) g [(iA p),(iA q),r,(ae b m d),(ae e x f),(aA (aj an ((i:Int)+1)))] H))(g:Nat){a:OA}{n c i:Nat}{h:aw}(l:j g a n c i h):cq gN (pq 151) (qP p q b m d e x f a n c i) h (ez gN (pq 87) Q):=
 uD (qP p q b m d e x f) j (λg a n c i C h l=>bF (step g a n c i C h l)) g l
theorem DG(G:LV)(p q:Nat)(b:OA)(m d:Nat)(e:OA)(x f:Nat)(j:Nat->OA->Nat->Nat->Nat->aw->Prop)(Q:VH)(step:∀(g:Nat) (a:OA) (n c i:Nat) (w:Nat->ah) (h:aw),j g a n c i h->cp (decide ((i:Int)<(x:Int))) (ve 42 (ae e x f) (iA i) 46 0 λs=>xI an (aM au 3 h (bN s)) λz=>cp ((z==0)) (ve 42 (ae e x f) (iA i) 46 3 λA=>xI an (aM au 3 (room h 16) (bN A)) λt=>ve 42 (ae e x f) (iA i) 46 1 λr=>xI an (aM au 3 (room h 16) (bN r)) λv=>xA (cI au 76 [(0,(iA p)),(1,(aA t)),(4,(aA v))]) λu=>zR (bC au 73 1 [(0,(aq ⟨u⟩))]) λk C D=>xE (bY au 73 73 (ae a n c) (sA (h.ax+13) C D) (bS (room h 16) h.ax [(13,k)])) (bS (room h 16) h.ax [(13,k)]) λy o B F E=>cB (sk (oh p b m d e x f) j) g [(iA p),(ae y o B),(ae b m d),(ae e x f),(aA (aj an ((i:Int)+1)))] E) (cB (sk (oh p b m d e x f) j) g [(iA p),(ae a n c),(ae b m d),(ae e x f),(aA (aj an ((i:Int)+1)))] h)) (cq gN (pq 607) (lY b m d e x f a n c 0) h (ez gN (pq 351) Q)))(g:Nat){a:OA}{n c i:Nat}{h:aw}(l:j g a n c i h):cq gN (pq 303) (oh p b m d e x f a n c i) h (ez gN (pq 175) Q):=
 uD (oh p b m d e x f) j (λg a n c i w h l=>bF (step g a n c i w h l)) g l
theorem DH(o:LV)(p q:Nat)(b:OA)(m d:Nat)(e:OA)(x f:Nat)(j:Nat->OA->Nat->Nat->Nat->aw->Prop)(Q:VH)(step:∀(g:Nat) (a:OA) (n c i:Nat) (l:Nat->ah) (h:aw),j g a n c i h->cp (decide ((i:Int)<(m:Int))) (cq gN (pq 37471) (kz b m d e x f i a n c 0) h (fZ gN (pq 41) (pq 607) (RR gN (pq 607) (sk (lY b m d e x f) j) g (ez gN (pq 351) Q)))) (Q (ae a n c) h))(g:Nat){a:OA}{n c i:Nat}{h:aw}(k:j g a n c i h):cq gN (pq 607) (lY b m d e x f a n c i) h (ez gN (pq 351) Q):=
 uD (lY b m d e x f) j (λg a n c i l h k=>bF (step g a n c i l h k)) g k
theorem DJ(U:LV)(p q:Nat)(b:OA)(m d:Nat)(e:OA)(x f:Nat)(l:Nat->OA->Nat->Nat->Nat->aw->Prop)(r i:Nat)(j:Nat->OA->Nat->Nat->Nat->aw->Prop)(Q:VH)(step:∀(g:Nat) (a:OA) (n c k:Nat) (I:Nat->ah) (h:aw),j g a n c k h->cp (decide ((k:Int)<(x:Int))) (ve 42 (ae b m d) (iA i) 46 0 λM=>xI an (aM au 3 (room h 19) (bN M)) λt=>cp ((t !=0)) (ve 42 (ae b m d) (iA i) 46 0 λy=>xI an (aM au 3 (room h 19) (bN y)) λO=>ve 42 (ae e x f) (iA k) 46 0 λF=>xI an (aM au 3 (room h 19) (bN F)) λC=>cp ((O==C)) (ve 42 (ae b m d) (iA i) 46 3 λL=>xI an (aM au 3 (room (room h 19) 30) (bN L)) λN=>ve 42 (ae e x f) (iA k) 46 3 λG=>xI an (aM au 3 (room (room h 19) 30) (bN G)) λA=>ve 42 (ae b m d) (iA i) 46 0 λB=>xI an (aM au 3 (room (room h 19) 30) (bN B)) λK=>ve 42 (ae b m d) (iA i) 46 1 λP=>xI an (aM au 3 (room (room h 19) 30) (bN P)) λJ=>ve 42 (ae e x f) (iA k) 46 1 λR=>xI an (aM au 3 (room (room h 19) 30) (bN R)) λH=>xA (cI au 76 [(0,(aA N)),(1,(aA A)),(2,(aA K)),(3,(aA J)),(4,(aA H))]) λv=>zR (bC au 73 1 [(0,(aq ⟨v⟩))]) λo E D=>xE (bY au 73 73 (ae a n c) (sA ((room h 19).ax+27) E D) (bS (room (room h 19) 30) (room h 19).ax [(27,o)])) (bS (room (room h 19) 30) (room h 19).ax [(27,o)]) λz u S T w=>cB (sk (kz b m d e x f i) j) g [(ae z u S),(ae b m d),(ae e x f),(iA i),(aA (aj an ((k:Int)+1)))] w) (cB (sk (kz b m d e x f i) j) g [(ae a n c),(ae b m d),(ae e x f),(iA i),(aA (aj an ((k:Int)+1)))] (room h 19))) (cB (sk (kz b m d e x f i) j) g [(ae a n c),(ae b m d),(ae e x f),(iA i),(aA (aj an ((k:Int)+1)))] (room h 19))) (cB (sk (lY b m d e x f) l) r [(ae a n c),(ae b m d),(ae e x f),(aA (aj an ((i:Int)+1)))] h))(g:Nat){a:OA}{n c k:Nat}{h:aw}(s:j g a n c k h):cq gN (pq 37471) (kz b m d e x f i a n c k) h (fZ gN (pq 41) (pq 607) (RR gN (pq 607) (sk (lY b m d e x f) l) r (ez gN (pq 351) Q))):=
 uD (kz b m d e x f i) j (λg a n c k I h s=>bF (step g a n c k I h s)) g s
noncomputable def dI:FD:=gT Tryz.f49 [((pq 151),[1,3,4,5]),((pq 9879),[1,3,4,5,6]),((pq 599703),[1,3,4,5,6,7]),((pq 633939607),[1,3,4,5,6,7,8,9,10])]
abbrev iw(a N b R:Nat)(ch:Bool):LV:=[(pA a),(iA N),(sA b R R),(ai ch)]
abbrev jj(a N b R:Nat)(ch:Bool)(p:Nat):LV:=[(pA a),(iA N),(sA b R R),(ai ch),(iA p)]
abbrev iy(a N b R p:Nat)(ch:Bool)(q:Nat):LV:=[(pA a),(iA N),(sA b R R),(ai ch),(iA p),(iA q)]
abbrev mX(b N d R p q:Nat)(ch:Bool)(a:OA)(n c:Nat)(s:Bool)(j:Nat):LV:=[(pA b),(iA N),(sA d R R),(ai ch),(iA p),(iA q),(ai s),(ae a n c),(iA j)]
theorem abK(c:LV)(h:aw)(Q:VH)(f:xN (iF au 24 (aq ⟨c⟩)) h λi b=>mh 24 (pA (h.ax)) 3 22 b λk a l=>xR (cK au 68 (aA (aj an ((a:Int)*(a:Int)))) (aA (aj an ((a:Int)*(a:Int))))) b λj g e d=>cq dI (pq 151) [(pA (h.ax)),(iA a),(sA (b.ax) g e),(ai af)] d (ez dI (pq 87) Q)):aW 49 [(aq ⟨c⟩)] h Q:=gZ dI Tryz.func49 (bF f)
theorem EP(g:LV)(d N c R:Nat)(b:Nat->Bool->aw->Prop)(Q:VH)(step:∀(a:Nat) (ch:Bool) (f:Nat->ah) (h:aw),b a ch h->cp ch (cq dI (pq 9879) (jj d N c R ak 0) h (fZ dI (pq 45) (pq 151) (RR dI (pq 151) (mw (iw d N c R) b) a (ez dI (pq 87) Q)))) (Q (sA c R R) h))(a:Nat){ch:Bool}{h:aw}(e:b a ch h):cq dI (pq 151) (iw d N c R ch) h (ez dI (pq 87) Q):=
 gP (iw d N c R) b (λa ch f h e=>bF (step a ch f h e)) a e
theorem ES(j:LV)(c N d R:Nat)(e:Nat->Bool->aw->Prop)(f:Nat)(b:Nat->Bool->Nat->aw->Prop)(Q:VH)(step:∀(a:Nat) (ch:Bool) (p:Nat) (i:Nat->ah) (h:aw),b a ch p h->cp (decide ((p:Int)<(N:Int))) (cq dI (pq 599703) (iy c N d R p ch 0) h (fZ dI (pq 41) (pq 9879) (RR dI (pq 9879) (wz (jj c N d R) b) a (fZ dI (pq 45) (pq 151) (RR dI (pq 151) (mw (iw c N d R) e) f (ez dI (pq 87) Q)))))) (cB (mw (iw c N d R) e) f [(pA c),(iA N),(sA d R R),(ai ch)] h))(a:Nat){ch:Bool}{p:Nat}{h:aw}(g:b a ch p h):cq dI (pq 9879) (jj c N d R ch p) h (fZ dI (pq 45) (pq 151) (RR dI (pq 151) (mw (iw c N d R) e) f (ez dI (pq 87) Q))):=
 sK (jj c N d R) b (λa ch p i h g=>bF (step a ch p i h g)) a g
theorem ET(K:LV)(a N b R:Nat)(g:Nat->Bool->aw->Prop)(i:Nat)(e:Nat->Bool->Nat->aw->Prop)(f p:Nat)(d:Nat->Bool->Nat->aw->Prop)(Q:VH)(step:∀(c:Nat) (ch:Bool) (q:Nat) (A:Nat->ah) (h:aw),d c ch q h->cp (decide ((q:Int)<(N:Int))) (qX xB 68 (sA b R R) (aA (aj an (aj an ((p:Int)*(N:Int))+(q:Int)))) 4 h λE=>cp E (cB (wz (iy a N b R p) d) c [(pA a),(iA N),(sA b R R),(ai ch),(iA p),(aA (aj an ((q:Int)+1)))] h) (mh 24 (pA a) 3 22 h λl t z=>ve 22 (ae l t z) (iA p) 44 0 λB=>xS (aM au 9 h (bN B)) λC=>cp (!((C:LB)==[])) (mh 24 (pA a) 3 22 h λr I m=>ve 22 (ae r I m) (iA q) 44 0 λx=>xS (aM au 9 h (bN x)) λH=>xA (aM au 24 h (pA a)) λu=>aW 50 [(aq ⟨u⟩),(iA p),(iA q)] h λo J=>yL o λF y w=>cq dI (pq 633939607) (mX a N b R p q ch F y w (!((H:LB)==[])) 0) J (fZ dI (pq 697) (pq 599703) (RR dI (pq 599703) (wz (iy a N b R p) d) c (fZ dI (pq 41) (pq 9879) (RR dI (pq 9879) (wz (jj a N b R) e) f (fZ dI (pq 45) (pq 151) (RR dI (pq 151) (mw (iw a N b R) g) i (ez dI (pq 87) Q)))))))) (xA (aM au 24 h (pA a)) λD=>aW 50 [(aq ⟨D⟩),(iA p),(iA q)] h λG v=>yL G λn s k=>cq dI (pq 633939607) (mX a N b R p q ch n s k ak 0) v (fZ dI (pq 697) (pq 599703) (RR dI (pq 599703) (wz (iy a N b R p) d) c (fZ dI (pq 41) (pq 9879) (RR dI (pq 9879) (wz (jj a N b R) e) f (fZ dI (pq 45) (pq 151) (RR dI (pq 151) (mw (iw a N b R) g) i (ez dI (pq 87) Q)))))))))) (cB (wz (jj a N b R) e) f [(pA a),(iA N),(sA b R R),(ai ch),(aA (aj an ((p:Int)+1)))] h))(c:Nat){ch:Bool}{q:Nat}{h:aw}(j:d c ch q h):cq dI (pq 599703) (iy a N b R p ch q) h (fZ dI (pq 41) (pq 9879) (RR dI (pq 9879) (wz (jj a N b R) e) f (fZ dI (pq 45) (pq 151) (RR dI (pq 151) (mw (iw a N b R) g) i (ez dI (pq 87) Q))))):=
 sK (iy a N b R p) d (λc ch q A h j=>bF (step c ch q A h j)) c j
theorem EU(C:LV)(d N b R:Nat)(m:Nat->Bool->aw->Prop)(A:Nat)(l:Nat->Bool->Nat->aw->Prop)(r p:Nat)(g:Nat->Bool->Nat->aw->Prop)(i q:Nat)(ch:Bool)(a:OA)(n c:Nat)(f:Nat->Bool->Nat->aw->Prop)(Q:VH)(step:∀(e:Nat) (s:Bool) (j:Nat) (w:Nat->ah) (h:aw),f e s j h->cp (decide ((j:Int)<(n:Int))) (cp s (cB (wz (mX d N b R p q ch a n c) f) e [(pA d),(iA N),(sA b R R),(ai ch),(iA p),(iA q),(ai af),(ae a n c),(aA (aj an ((j:Int)+1)))] (room h 20)) (ve 73 (ae a n c) (iA j) 76 0 λt=>xI an (aM au 3 (room h 20) (bN t)) λx=>ve 73 (ae a n c) (iA j) 76 1 λz=>xI an (aM au 3 (room h 20) (bN z)) λu=>qX xB 68 (sA b R R) (aA (aj an (aj an (x*(N:Int))+u))) 4 (room h 20) λo=>cB (wz (mX d N b R p q ch a n c) f) e [(pA d),(iA N),(sA b R R),(ai ch),(iA p),(iA q),(ai o),(ae a n c),(aA (aj an ((j:Int)+1)))] (room h 20))) (cp s (xP (aZ au 68 (sA b R R) (aA (aj an (aj an ((p:Int)*(N:Int))+(q:Int))))) λy=>xU (aQ au 4 (bN y) (ai af) h) h λB v=>cB (wz (iy d N b R p) g) i [(pA d),(iA N),(sA b R R),(ai af),(iA p),(aA (aj an ((q:Int)+1)))] v) (cB (wz (iy d N b R p) g) i [(pA d),(iA N),(sA b R R),(ai ch),(iA p),(aA (aj an ((q:Int)+1)))] h)))(e:Nat){s:Bool}{j:Nat}{h:aw}(k:f e s j h):cq dI (pq 633939607) (mX d N b R p q ch a n c s j) h (fZ dI (pq 697) (pq 599703) (RR dI (pq 599703) (wz (iy d N b R p) g) i (fZ dI (pq 41) (pq 9879) (RR dI (pq 9879) (wz (jj d N b R) l) r (fZ dI (pq 45) (pq 151) (RR dI (pq 151) (mw (iw d N b R) m) A (ez dI (pq 87) Q))))))):=
 sK (mX d N b R p q ch a n c) f (λe s j w h k=>bF (step e s j w h k)) e k
variable{M:cG}
section
section
variable {h:aw} {a:Option aF} {n c:Nat} {b:Option aF} {m d:Nat} {l l':List Int}
theorem QI(w:Wf h)(r:Rd h 3 (ae a n c) (l.map zV))(u:Rd h 3 (ae b m d) (l'.map zV))(B:l.length<=1000000000):aW 52 [ae a n c,ae b m d] h (λv g=>v=ai (decide (l=l'))/\Ok h g):=by
 have H:n=l.length:=by have:=r.len;rwa[aG]at this
 have I:m=l'.length:=by have:=u.len;rwa[aG]at this
 refine abM a n c b m d h _ (ay (λq=>?_) (λq=>?_))
 ·refine⟨?_,Ok.refl w⟩;rw[eF]
  grind
 ·have G:n=m:=by
   have:(n:Int)=m:=by simpa using q
   omega
  refine EV a n c b m d (λt i g=>i<=l.length/\t=l.length-i/\Ok h g/\l.take i=l'.take i) _ (λt i=>?_) l.length (i:=0) ⟨cr _,rfl,Ok.refl w,by simp⟩;intro K g s;obtain⟨M,rfl,E,D⟩:=s;refine ay (λq=>?_) (λq=>?_)
  ·have q:=dT q;obtain⟨x,f⟩:∃p,l[i]?=aa p:=⟨_,gE (by omega)⟩
   obtain⟨y,o⟩:∃p,l'[i]?=aa p:=⟨_,gE (by omega)⟩
   have j:=E.room 9;obtain⟨L,z,A⟩:=Rz (r.ok j) f;obtain⟨J,C,F⟩:=Rz (u.ok j) o;refine⟨_,z,_,A,_,C,_,F,ay (λk=>?_) (λk=>?_)⟩
   ·refine⟨?_,j⟩;rw[eF];intro e;rw[e,o]at f;obtain rfl:=aC f;simp at k
   ·have e:x=y:=by simpa using k
    subst e;rw[cL (n:=l.length) (by omega) B];refine fG (l.length-(i+1)) (by omega) ⟨by omega,rfl,j,?_⟩;rw[(iI f).2,(iI o).2,D]
  grind
theorem aaC(w:Wf h)(r:Rd h 3 (ae a n c) (l.map zV))(u:Rd h 3 (ae b m d) (l'.map zV))(B:l.length<=1000000000):aW 17 [ae a n c,ae b m d] h (λv g=>v=ai (decide (l=l'))/\Ok h g):=by
 have H:n=l.length:=by have:=r.len;rwa[aG]at this
 have I:m=l'.length:=by have:=u.len;rwa[aG]at this
 refine aaB a n c b m d h _ (ay (λq=>?_) (λq=>?_))
 ·refine⟨?_,Ok.refl w⟩;rw[eF]
  grind
 ·have G:n=m:=by
   have:(n:Int)=m:=by simpa using q
   omega
  refine EI a n c b m d (λt i g=>i<=l.length/\t=l.length-i/\Ok h g/\l.take i=l'.take i) _ (λt i=>?_) l.length (i:=0) ⟨cr _,rfl,Ok.refl w,by simp⟩;intro K g s;obtain⟨M,rfl,E,D⟩:=s;refine ay (λq=>?_) (λq=>?_)
  ·have q:=dT q;obtain⟨x,f⟩:∃p,l[i]?=aa p:=⟨_,gE (by omega)⟩
   obtain⟨y,o⟩:∃p,l'[i]?=aa p:=⟨_,gE (by omega)⟩
   have j:=E.room 9;obtain⟨L,z,A⟩:=Rz (r.ok j) f;obtain⟨J,C,F⟩:=Rz (u.ok j) o;refine⟨_,z,_,A,_,C,_,F,ay (λk=>?_) (λk=>?_)⟩
   ·refine⟨?_,j⟩;rw[eF];intro e;rw[e,o]at f;obtain rfl:=aC f;simp at k
   ·have e:x=y:=by simpa using k
    subst e;rw[cL (n:=l.length) (by omega) B];refine fG (l.length-(i+1)) (by omega) ⟨by omega,rfl,j,?_⟩;rw[(iI f).2,(iI o).2,D]
  grind
theorem IC(w:Wf h)(r:Rd h 3 (ae a n c) (l.map zV))(o:l.length<=1000000000)(s:∀x∈l,1<=x/\x<=500):aW 16 [ae a n c] h (λv g=>v=av ⟨[ai af,ai (decide (1000<l.length))]⟩/\Ok h g):=by
 have t:n=l.length:=by have:=r.len;rwa[aG]at this
 refine aaD a n c h _ ?_;refine EJ a n c (λe i g=>i<=l.length/\e=l.length-i/\Ok h g) _ (λe i=>?_) l.length (i:=0) ⟨cr _,rfl,Ok.refl w⟩;intro u g d;obtain⟨z,rfl,m⟩:=d;refine ay (λq=>?_) (λq=>?_)
 ·have q:=dT q;obtain⟨x,k⟩:∃p,l[i]?=aa p:=⟨_,gE (by omega)⟩
  obtain⟨y,f,j⟩:=Rz (r.ok m) k;have:=s x (aI k);refine⟨_,f,_,j,ay (λb=>?_) (λ_=>⟨_,f,_,j,ay (λb=>?_) (λ_=>?_)⟩)⟩
  ·have:=dT b;omega
  ·have:=dT b;omega
  ·rw[cL (n:=l.length) (by omega) o];exact fG (l.length-(i+1)) (by omega) ⟨by omega,rfl,m⟩
 grind[eF]
end
theorem OT(f:Good M){s e:Nat}{l:List Nat}{x y:List Int}(r:oJ M s l e x y):(∀z∈x,1<=z/\z<=500)/\∀z∈y,1<=z/\z<=500:=by
 induction r with
 |nil=>grind
 |@cons s i e a l x y g r d=>
  have b:=pU f (aI g);have c:∀{u:Int}{v:List Int},0<=u->u<=500->(∀z∈v,1<=z/\z<=500)->∀z∈opt u v,1<=z/\z<=500:=λ{u v} k j h z m=>by grind[kj,vD]
  exact⟨c b.i0 b.i1 d.1,c b.o0 b.o1 d.2⟩
end
variable{A:Type}{i:Nat}{g:aw}
section
theorem q73:au.underlying 73=aa (.slice 76):=by rfl
noncomputable def ahY:TypeInfo:=(gF au 76).getD default
theorem ae7:gF au 76=aa ahY:=by rfl
theorem Ya:ahY.size=5:=by rfl
theorem Tr:ahY.bytes=40:=by rfl
theorem alq:fD au 73=af:=by rfl
theorem ak2:cd au 76=aa 5:=by rfl
abbrev Ff:=Mv×NN
def Cr(x:Ff):List ah:=[aA (x.2.1:Int),aA (x.2.2:Int),aA x.1.i,aA x.1.l,aA x.1.r]
theorem aa6{m:Mv}{t t':Int}(h:0<=t)(a:0<=t'):Cr (m,(t.toNat,t'.toNat))=[aA t,aA t',aA m.i,aA m.l,aA m.r]:=by grind[Cr]
theorem ag6(p q i l r:Int):bC au 73 1 [(0,aq ⟨[aA p,aA q,aA i,aA l,aA r]⟩)]=aa (.cells [aA p,aA q,aA i,aA l,aA r] 76 5 af,pw 1 1):=by kernel_rfl
theorem agX(p q l:Int):cI au 76 [(0,aA p),(1,aA q),(3,aA l)]=aa (aq ⟨[aA p,aA q,aA 0,aA l,aA 0]⟩):=by rfl
theorem agY(p q r:Int):cI au 76 [(0,aA p),(1,aA q),(4,aA r)]=aa (aq ⟨[aA p,aA q,aA 0,aA 0,aA r]⟩):=by rfl
theorem agZ(p q i l r:Int):cI au 76 [(0,aA p),(1,aA q),(2,aA i),(3,aA l),(4,aA r)]=aa (aq ⟨[aA p,aA q,aA i,aA l,aA r]⟩):=by kernel_rfl
def sL(q:Nat)(a:iu):List Ff:=if a.i=0 then[(⟨0,a.o,0⟩,(a.t.toNat,q))]else[]
def sR(p:Nat)(b:iu):List Ff:=if b.i=0 then[(⟨0,0,b.o⟩,(p,b.t.toNat))]else[]
def sB(a b:iu):List Ff:=if a.i≠0/\a.i=b.i then[(⟨a.i,a.o,b.o⟩,(a.t.toNat,b.t.toNat))]else[]
def Qe(A B:List iu)(p q:Nat):List Ff:=A.flatMap (sL q)++B.flatMap (sR p)++A.flatMap λa=>B.flatMap (sB a)
theorem Qc{M:cG}{p q:Nat}{w:Ff}:w∈Qe (eA M p) (eA M q) p q↔Fl M M (p,q) w.1 w.2:=by
 unfold Qe sL sR sB;simp only[bH,List.mem_flatMap];constructor
 ·rintro((⟨a,f,c⟩|⟨b,d,c⟩)|⟨a,f,b,d,c⟩)
  ·split at c
   ·next e=>obtain rfl:=aX.1 c;exact .left f e
   grind
  ·split at c
   ·next e=>obtain rfl:=aX.1 c;exact .right d e
   grind
  ·split at c
   ·next e=>obtain rfl:=aX.1 c;exact .both f d e.1 e.2
   grind
 ·obtain⟨m,k⟩:=w;intro s
  cases s with
  |@left p q a h g=>grind
  |@right p q b h g=>grind
  |@both p q a b h i g e=>grind
theorem Ip{a:Type}{f:a->List Ff}{K:Nat}(b:∀x,(f x).length<=K):∀l:List a,(l.flatMap f).length<=l.length*K
 |[]=>by simp
 |x::l=>by
  have:=b x;have:=Ip b l
  grind[cM]
theorem NC{P:Prop}[Decidable P](x:Ff):(if P then[x]else[]).length<=1:=by grind
theorem wT{f:A->List Ff}{l:List A}{x:A}(h:l[i]?=aa x):(l.take (i+1)).flatMap f=(l.take i).flatMap f++f x:=by
 rw[(iI h).2,List.flatMap_append,List.flatMap_cons,List.flatMap_nil,cF]
section
variable {h:aw} {L:List Ff} {a:Option aF} {n c:Nat}
theorem Np(w:Wf h)(k:Ok h g)(o:hJ h g 76 5 (ae a n c) (L.map Cr))(s:L.length<=100000){N j:Nat}(m:j<N)(x:Ff):∃(b:Option aF)(f e:Nat)(u:dJ),bY au 73 73 (ae a n c) (sA (g.ax+j) 1 1) (bS (room g N) g.ax [(j,.cells (Cr x) 76 5 af)])=aa (ae b f e,u)/\hJ h (u.app (bS (room g N) g.ax [(j,.cells (Cr x) 76 5 af)])) 76 5 (ae b f e) ((L++[x]).map Cr)/\Ok h (u.app (bS (room g N) g.ax [(j,.cells (Cr x) 76 5 af)])):=by
 obtain⟨i,l⟩:=xe k.wf m (.cells (Cr x) 76 5 af);have d:(L.map Cr).length=L.length:=aG ..;obtain⟨b,f,e,u,t,_,q,v,_⟩:=hJ.add q73 ae7 Ya alq w (k.trans i) (o.ok i) (ns:=[Cr x]) (D5 l rfl) (λr p=>by rw[aX.1 p];rfl) rfl (by rw[Tr,d,bw];omega) (by rw[d,bw];omega) (.inl (aS _))
 grind
end
def ajM(h:aw)(M:cG)(p q:Nat):VH:=λv g=>hJ h g 76 5 v ((Qe (eA M p) (eA M q) p q).map Cr)/\Ok h g/\(Qe (eA M p) (eA M q) p q).length<=5000
section
variable {h:aw} {M:cG} {a:Option aF} {n c:Nat}
theorem LH(w:Wf h)(gd:Good M)(zA:∀s∈M.aE,s.bG.length<=30)(r:iY h (ae a n c) M.aE){p q:Nat}(hp:p<M.aE.length)(hq:q<M.aE.length):aW 50 [aq ⟨dK M a n c⟩,aA (p:Int),aA (q:Int)] h (ajM h M p q):=by
 obtain⟨Q,ok⟩:=ni w r;have oR:=ok.room 14;have Q:=Q.ok ((Ok.refl ok.wf).room 14);obtain⟨x,hx,ea,_,hm⟩:=nj hp;obtain⟨y,hy,eb,_,x0⟩:=nj hq;have za:=zA x hm;have zb:=zA y x0;obtain⟨b1,o1,b,m,d,d1,_,_,d4,ar⟩:=Q.row.K1 (Ok.refl oR.wf) hx;obtain⟨b2,o2,e,z,f,I,_,_,e4,br⟩:=Q.row.K1 (Ok.refl oR.wf) hy;have x2:∀a∈x.bG,Hp M.aE.length a:=gd.bG x hm;have x1:∀a∈y.bG,Hp M.aE.length a:=gd.bG y x0;refine XS (dK M a n c) p q h _ ⟨_,qx M a n c,_,eR _,_,_,_,Q.l3,_,d1,_,jc _ _,_,_,_,d4,_,eR _,_,_,_,Q.l3,_,I,_,jc _ _,_,_,_,e4,?_⟩;unfold ajM;rw[ea,eb];have x8:m=x.bG.length:=ar.len;have x7:z=y.bG.length:=br.len;clear d1 d4 I e4 Q;generalize room (h.push (Bm M a n c)) 14=F at*;have T:=oR.wf;have x3:∀{L:List Ff}{v:ah}{g:aw},hJ F g 76 5 v (L.map Cr)->Ok F g->L.length<=5000->hJ h g 76 5 v (L.map Cr)/\Ok h g/\L.length<=5000:=λo k l=>⟨o.base oR,oR.trans k,l⟩
 have n1:∀i,((x.bG.take i).flatMap (sL q)).length<=30:=λi=>by
  have:((x.bG.take i).flatMap (sL q)).length<=_:=Ip (λa=>NC _) _
  grind
 have n2:∀i,((y.bG.take i).flatMap (sR p)).length<=30:=λi=>by
  have:((y.bG.take i).flatMap (sR p)).length<=_:=Ip (λa=>NC _) _
  grind
 have n3:∀(s:iu)(k:Nat),((y.bG.take k).flatMap (sB s)).length<=30:=λs k=>by
  have:((y.bG.take k).flatMap (sB s)).length<=_:=Ip (λa=>NC _) _
  grind
 have n4:∀i,((x.bG.take i).flatMap λa=>y.bG.flatMap (sB a)).length<=900:=λi=>by
  have:((x.bG.take i).flatMap λa=>y.bG.flatMap (sB a)).length<=_:=Ip (K:=30) (λs=>by have:=n3 s y.bG.length;rwa[dX]at this) _
  grind
 refine DF (dK M a n c) p q b m d e z f (λD a n c i g=>hJ F g 76 5 (ae a n c) (((x.bG.take i).flatMap (sL q)).map Cr)/\Ok F g/\i<=x.bG.length/\D=x.bG.length-i) _ (λD a n c i=>?_) x.bG.length (i:=0) ⟨hJ.nil ..,Ok.refl T,cr _,rfl⟩;clear ok hx hy;intro V g G;obtain⟨C,A,hi,rfl⟩:=G;refine ay (λB=>?_) (λB=>?_)
 ·have B:=dT B;obtain⟨s,O⟩:∃s,x.bG[i]?=aa s:=⟨_,gE (by omega)⟩
  have Z:=x2 s (aI O);obtain⟨k1,k2,E,f2,S,f4,f5,W⟩:=(ar.ok A).at_ O;rw[cL (n:=x.bG.length) (by omega) (by omega)];refine⟨_,E,_,po _ _,_,S,ay (λY=>?_) (λY=>?_)⟩
  ·have s0:s.i=0:=by simpa using Y
   have H:=(Ok.refl A.wf).room 16;have R:sL q s=[(⟨0,s.o,0⟩,(s.t.toNat,q))]:=iP s0;obtain⟨b',n',c',u,P,U,J⟩:=Np T A C (by grind) (N:=16) (j:=13) (by omega) (⟨0,s.o,0⟩,(s.t.toNat,q));rw[show Cr (⟨0,s.o,0⟩,(s.t.toNat,q))=_ from aa6 (t':=(q:Int)) Z.t0 (Int.natCast_nonneg _)]at P U J;refine⟨_,E,_,jE _ _,_,oU H W,_,E,_,pT _ _,_,oU H f4,_,agX _ _ _,_,_,_,ag6 _ _ _ _ _,_,_,_,_,P,?_⟩;exact nE (x.bG.length-(i+1)) (by omega) ⟨by grind[wT],J,by omega,rfl⟩
  ·have R:sL q s=[]:=iN (by grind);exact nE (x.bG.length-(i+1)) (by omega) ⟨by grind[wT],A,by omega,rfl⟩
 ·have B:=dF B;rw[bm (by omega)]at C;have x4:=n1 x.bG.length;rw[dX]at x4;refine DG (dK M a n c) p q b m d e z f (λD a n c i g=>hJ F g 76 5 (ae a n c) ((x.bG.flatMap (sL q)++(y.bG.take i).flatMap (sR p)).map Cr)/\Ok F g/\i<=y.bG.length/\D=y.bG.length-i) _ (λD a n c i=>?_) y.bG.length (i:=0) ⟨by grind,A,cr _,rfl⟩;clear C A B hi g V;intro V g G;obtain⟨C,A,hi,rfl⟩:=G;refine ay (λB=>?_) (λB=>?_)
  ·have B:=dT B;obtain⟨s,O⟩:∃s,y.bG[i]?=aa s:=⟨_,gE (by omega)⟩
   have Z:=x1 s (aI O);obtain⟨k1,k2,E,f2,S,f4,f5,W⟩:=(br.ok A).at_ O;rw[cL (n:=y.bG.length) (by omega) (by omega)];refine⟨_,E,_,po _ _,_,S,ay (λY=>?_) (λY=>?_)⟩
   ·have s0:s.i=0:=by simpa using Y
    have H:=(Ok.refl A.wf).room 16;have R:sR p s=[(⟨0,0,s.o⟩,(p,s.t.toNat))]:=iP s0;obtain⟨b',n',c',u,P,U,J⟩:=Np T A C (by grind) (N:=16) (j:=13) (by omega) (⟨0,0,s.o⟩,(p,s.t.toNat));rw[show Cr (⟨0,0,s.o⟩,(p,s.t.toNat))=_ from aa6 (t:=(p:Int)) (Int.natCast_nonneg _) Z.t0]at P U J;refine⟨_,E,_,jE _ _,_,oU H W,_,E,_,pT _ _,_,oU H f4,_,agY _ _ _,_,_,_,ag6 _ _ _ _ _,_,_,_,_,P,?_⟩;exact nE (y.bG.length-(i+1)) (by omega) ⟨by grind[wT],J,by omega,rfl⟩
   ·have R:sR p s=[]:=iN (by grind);exact nE (y.bG.length-(i+1)) (by omega) ⟨by grind[wT],A,by omega,rfl⟩
  ·have B:=dF B;rw[bm (by omega)]at C;have x5:=n2 y.bG.length;rw[dX]at x5;refine DH (dK M a n c) p q b m d e z f (λD a n c i g=>hJ F g 76 5 (ae a n c) ((x.bG.flatMap (sL q)++y.bG.flatMap (sR p)++(x.bG.take i).flatMap λa=>y.bG.flatMap (sB a)).map Cr)/\Ok F g/\i<=x.bG.length/\D=x.bG.length-i) _ (λD a n c i=>?_) x.bG.length (i:=0) ⟨by grind,A,cr _,rfl⟩;clear C A B hi g V;intro V g G;obtain⟨C,A,hi,rfl⟩:=G;refine ay (λB=>?_) (λB=>?_)
   ·have B:=dT B;obtain⟨s,O⟩:∃s,x.bG[i]?=aa s:=⟨_,gE (by omega)⟩
    have Z:=x2 s (aI O);refine DJ (dK M a n c) p q b m d e z f _ _ i (λD a n c k g=>hJ F g 76 5 (ae a n c) ((x.bG.flatMap (sL q)++y.bG.flatMap (sR p)++((x.bG.take i).flatMap λa=>y.bG.flatMap (sB a))++(y.bG.take k).flatMap (sB s)).map Cr)/\Ok F g/\k<=y.bG.length/\D=y.bG.length-k) _ (λD a n c k=>?_) y.bG.length (k:=0) ⟨by grind,A,cr _,rfl⟩;clear C A g V;intro V g G;obtain⟨C,A,hk,rfl⟩:=G;refine ay (λX=>?_) (λX=>?_)
    ·have X:=dT X;obtain⟨t,ht⟩:∃t,y.bG[k]?=aa t:=⟨_,gE (by omega)⟩
     have ti:=x1 t (aI ht);have I:=(Ok.refl A.wf).room 19;obtain⟨k1,k2,E,f2,S,f4,f5,W⟩:=(ar.ok (A.trans I)).at_ O;obtain⟨k3,k4,j1,j2,j3,j4,j5,j6⟩:=(br.ok (A.trans I)).at_ ht;rw[cL (n:=y.bG.length) (by omega) (by omega)];have x6:¬(s.i≠0/\s.i=t.i)->cB (sk (kz b m d e z f i) (λD a n c k g=>hJ F g 76 5 (ae a n c) ((x.bG.flatMap (sL q)++y.bG.flatMap (sR p)++((x.bG.take i).flatMap λa=>y.bG.flatMap (sB a))++(y.bG.take k).flatMap (sB s)).map Cr)/\Ok F g/\k<=y.bG.length/\D=y.bG.length-k)) (y.bG.length-k) [(ae a n c),(ae b m d),(ae e z f),(iA i),(aA ((k+1:Nat):Int))] (room g 19):=λhn=>by
      have R:sB s t=[]:=iN hn;exact nE (y.bG.length-(k+1)) (by omega) ⟨by rw[wT ht,R,cF];exact C.ok I,A.trans I,by omega,rfl⟩
     refine⟨_,E,_,po _ _,_,S,ay (λq4=>⟨_,E,_,po _ _,_,S,_,j1,_,po _ _,_,j3,ay (λq5=>?_) (λq5=>?_)⟩) (λq4=>?_)⟩
     ·have s0:s.i≠0:=by simpa using q4
      have st:s.i=t.i:=by simpa using q5
      have H:=(Ok.refl I.wf).room 30;have R:sB s t=[(⟨s.i,s.o,t.o⟩,(s.t.toNat,t.t.toNat))]:=iP ⟨s0,st⟩;obtain⟨b',n',c',u,P,U,J⟩:=Np T (A.trans I) (C.ok I) (by simp only[bg];have:=n3 s k;have:=n4 i;omega) (N:=30) (j:=27) (by omega) (⟨s.i,s.o,t.o⟩,(s.t.toNat,t.t.toNat));rw[aa6 Z.t0 ti.t0]at P U J;refine⟨_,E,_,jE _ _,_,oU H W,_,j1,_,jE _ _,_,oU H j6,_,E,_,po _ _,_,oU H S,_,E,_,pT _ _,_,oU H f4,_,j1,_,pT _ _,_,oU H j4,_,agZ _ _ _ _ _,_,_,_,ag6 _ _ _ _ _,_,_,_,_,P,?_⟩;exact nE (y.bG.length-(k+1)) (by omega) ⟨by rw[wT ht,R,<-cE];exact U,J,by omega,rfl⟩
     all_goals grind
    ·have X:=dF X;rw[bm (l:=y.bG) (by omega)]at C;rw[cL (n:=x.bG.length) (by omega) (by omega)];exact nE (x.bG.length-(i+1)) (by omega) ⟨by grind[wT],A,by omega,rfl⟩
   ·have B:=dF B;rw[bm (by omega)]at C;refine x3 C A ?_;have:=n4 x.bG.length;rw[dX]at this;show(_++_:List Ff).length<=_
    grind
end
end
variable{m:Nat}
section
def sC(N:Nat)(k:NN):Nat:=k.1*N+k.2
theorem vB{k:NN}(a:k.1<m)(b:k.2<m):sC m k<m*m:=by
 have:(k.1+1)*m<=m*m:=bJ _ a;rw[cM,dw]at this
 grind[sC]
theorem aaz{k:NN}(h:k.2<m):sC m k/m=k.1/\sC m k%m=k.2:=by
 have a:0<m:=by omega
 simp_all[dh,Nat.mul_add_div,eG,sC]
theorem Ar{N:Nat}{k k':NN}(h:k.2<N)(a:k'.2<N)(e:sC N k=sC N k'):k=k':=by grind[aaz]
theorem wix{p q:Nat}(a:m<=300)(d:p<m)(c:q<m):aj an (aj an ((p:Int)*(m:Int))+(q:Int))=((sC m (p,q):Nat):Int):=by
 have b:p*m<=300*300:=dC (by omega) a;rw[<-gW,cj (n:=((p*m:Nat):Int)) (by omega) (by omega),<-Int.natCast_add,cj (by omega) (by omega)];rfl
def tb(N:Nat)(L:List Bool)(k:NN):Bool:=L.getD (sC N k) ak
theorem aii{L:List Bool}{k a:NN}(h:k.2<m)(b:a.2<m)(c:sC m k<L.length):tb m (L.set (sC m k) af) a=if a=k then af else tb m L a:=by
 unfold tb;rw[gD,getElem?_set];by_cases e:a=k
 ·grind
 ·rw[iN e,iN (λx=>e (Ar b h x.symm)),gD]
structure Ox(h g:aw)(k1 kt:Nat)(M:cG)(a:Option aF)(n c:Nat)(L:List Bool):Prop where
 box:g.get k1=aa (Bm M a n c)
 ok:Ok h g
 tab:g.get kt=aa (.cells (L.map ai) 4 1 af)
 len:L.length=M.aE.length*M.aE.length
 snd:∀k:NN,k.1<M.aE.length->k.2<M.aE.length->tb M.aE.length L k=af->Co M M k
 ne:k1≠kt
 lo:h.ax<=kt
def JT(M:cG)(L:List Bool)(k:NN):Prop:=tb M.aE.length L k=ak->¬nN M M k/\∀m a,Fl M M k m a->tb M.aE.length L a=ak
theorem aha{M:cG}(d:Good M){L:List Bool}(i:∀k:NN,k.1<M.aE.length->k.2<M.aE.length->JT M L k){k:NN}(a:k.1<M.aE.length)(b:k.2<M.aE.length)(n:Co M M k):tb M.aE.length L k=af:=by
 obtain⟨j,e,r,f⟩:=n
 induction r with
 |nil s=>
  cases c:tb M.aE.length L s with
  |true=>rfl
  |false=>exact absurd f (i s a b c).1
 |@cons s k e m j h r l=>
  have g:=Cj d d ⟨a,b⟩ h;have:=l g.1 g.2 f
  cases c:tb M.aE.length L s with
  |true=>rfl
  |false=>rw[(i s a b c).2 m k h]at this;omega
theorem aad(k o:Nat):bB au 76 (cn k o) 0=aa (cn k (o+0)):=by rfl
theorem aae(k o:Nat):bB au 76 (cn k o) 1=aa (cn k (o+1)):=by rfl
theorem alu:∃d,au.underlying 76=aa d:=⟨_,(by rfl:au.underlying 76=aa ((au.underlying 76).getD .bool))⟩
theorem akE:Go.Ab.isAgg au 76=af:=by rfl
theorem agl{g:aw}{b:Option aF}{n:Nat}{a:List Ff}(c:Ba g 76 5 (ae b n m) (a.map Cr)){j:Nat}{w:Ff}(e:a[j]?=aa w):∃k o:Nat,aZ au 73 (ae b n m) (aA (j:Int))=aa (cn k o)/\(∀i,i<5->aM au 3 g (cn k (o+i))=aa ((Cr w).getD i undef))/\aM au 76 g (cn k o)=aa (aq ⟨Cr w⟩):=by
 have q:=(List.getElem?_eq_some_iff.1 e).1;obtain⟨d,f⟩:=alu;obtain⟨k,o,h,p,l⟩:=Ba.at_ q73 ak2 f akE c (ik:= an) (i:=(j:Int)) (by omega) (by rw[aG];omega)
 grind[rk,ri]
def ajh(h:aw)(M:cG):VH:=λv g=>∃(kt:Nat)(L:List Bool),v=sA kt (M.aE.length*M.aE.length) (M.aE.length*M.aE.length)/\g.get kt=aa (.cells (L.map ai) 4 1 af)/\L.length=M.aE.length*M.aE.length/\Ok h g/\∀k:NN,k.1<M.aE.length->k.2<M.aE.length->(tb M.aE.length L k=af↔Co M M k)
section
variable {h g g':aw} {k1 kt:Nat} {M:cG} {a:Option aF} {n c:Nat} {L:List Bool}
theorem Ox.grow(e:Ox h g k1 kt M a n c L)(o:Ok g g'):Ox h g' k1 kt M a n c L:=⟨o.ext _ _ e.box,e.ok.trans o,o.ext _ _ e.tab,e.len,e.snd,e.ne,e.lo⟩
theorem Ox.mb(e:Ox h g k1 kt M a n c L)(r:iY h (ae a n c) M.aE):MB g k1 M a n c:=⟨e.box,r.ok e.ok⟩
theorem Ox.rd(e:Ox h g k1 kt M a n c L){k:NN}(b:k.1<M.aE.length)(d:k.2<M.aE.length):aZ au 68 (sA kt (M.aE.length*M.aE.length) (M.aE.length*M.aE.length)) (aA (sC M.aE.length k:Nat))=aa (cn kt (sC M.aE.length k))/\aM au 4 g (cn kt (sC M.aE.length k))=aa (ai (tb M.aE.length L k)):=kY e.tab e.len (vB b d)
theorem Ox.put(w:Wf h)(e:Ox h g k1 kt M a n c L){k:NN}(l:k.1<M.aE.length)(i:k.2<M.aE.length)(p:Co M M k):∃u:dJ,aQ au 4 (cn kt (sC M.aE.length k)) (ai af) g=aa (undef,u)/\Ox h (u.app g) k1 kt M a n c (L.set (sC M.aE.length k) af):=by
 have o:=vB l i;have d:=e.ok.wf _ _ e.tab;refine⟨_,eu Te e.tab (by rw[aG,e.len];omega) rfl rfl,?_,e.ok.set _ e.lo d w,?_,by rw[bT];exact e.len,λj m f b=>?_,e.ne,e.lo⟩
 ·show(g.set kt _).get k1=_;rw[aw.bZ,iN e.ne];exact e.box
 ·show(g.set kt _).get kt=_;rw[aw.bZ,iP rfl,map_set]
 ·rw[aii i f (by rw[e.len];omega)]at b;split at b
  ·grind
  ·exact e.snd j m f b
theorem abL(w:Wf h)(N:Good M)(S:M.aE.length<=300)(zA:∀s∈M.aE,s.bG.length<=30)(r:iY h (ae a n c) M.aE):aW 49 [aq ⟨dK M a n c⟩] h (ajh h M):=by
 obtain⟨z,ok⟩:=ni w r;have hn:=z.len;have x3:M.aE.length*M.aE.length<=90000:=dC S S;refine abK (dK M a n c) h _ ⟨_,qx M a n c,_,eR _,_,_,_,z.l3,?_⟩;have ew:aj an ((n:Int)*(n:Int))=((M.aE.length*M.aE.length:Nat):Int):=by
  rw[hn,<-gW,cj (by omega) (by omega)]
 dsimp only;rw[ew];refine⟨_,_,_,Xj _ (by omega),?_⟩;have x0:h.ax<(h.push (Bm M a n c)).ax:=eD _;have b1:=z.box;generalize h.push (Bm M a n c)=V at*;have o2:=(Ok.refl ok.wf).push (.cells ((aH (M.aE.length*M.aE.length) ak).map ai) 4 1 af);have b2:=cC V (.cells ((aH (M.aE.length*M.aE.length) ak).map ai) 4 1 af);have O:Ox h (V.push (.cells ((aH (M.aE.length*M.aE.length) ak).map ai) 4 1 af)) h.ax V.ax M a n c (aH (M.aE.length*M.aE.length) ak):=by
  refine⟨o2.ext _ _ b1,ok.trans o2,b2,bE,λk _ _ A=>?_,by omega,by omega⟩;unfold tb at A;rw[gD,List.getElem?_replicate]at A;split at A<;>cases A
 generalize V.push (.cells ((aH (M.aE.length*M.aE.length) ak).map ai) 4 1 af)=g2 at*;generalize V.ax=kt at*;generalize h.ax=k1 at*;clear b1 b2 o2 x0 z ok;subst hn;have O:∃L,Ox h g2 k1 kt M a M.aE.length c L:=⟨_,O⟩
 obtain⟨L0,O⟩:=O;refine EP (dK M a M.aE.length c) k1 M.aE.length kt (M.aE.length*M.aE.length) (λD ch g=>∃L,Ox h g k1 kt M a M.aE.length c L/\(ch=ak->∀k:NN,k.1<M.aE.length->k.2<M.aE.length->JT M L k)/\2*fO L+ch.toNat=D) _ (λD ch=>?_) _ (ch:=af) ⟨L0,O,λe=>(by cases e),rfl⟩;clear O L0;intro T g C;obtain⟨L,e,B,rfl⟩:=C;refine ay (λq=>?_) (λq=>?_)
 ·subst q;refine ES (dK M a M.aE.length c) k1 M.aE.length kt (M.aE.length*M.aE.length) _ _ (λD ch p g=>∃o,Ox h g k1 kt M a M.aE.length c o/\(ch=ak->o=L/\∀k:NN,k.1<p->k.2<M.aE.length->JT M L k)/\fO o+ch.toNat<=fO L/\p<=M.aE.length/\D=M.aE.length-p) _ (λx4 ch p=>?_) M.aE.length (ch:=ak) (p:=0) ⟨L,e,λ_=>⟨rfl,λk H=>absurd H (dH _)⟩,aS _,cr _,rfl⟩;clear e B g T;intro T g C;obtain⟨Z,e,B,I,hp,rfl⟩:=C;refine ay (λq=>?_) (λq=>?_)
  ·have q:=dT q;have l:p<M.aE.length:=by omega
   refine ET (dK M a M.aE.length c) k1 M.aE.length kt (M.aE.length*M.aE.length) _ _ _ _ p (λD ch q g=>∃o,Ox h g k1 kt M a M.aE.length c o/\(ch=ak->o=L/\(∀k:NN,k.1<p->k.2<M.aE.length->JT M L k)/\∀E,E<q->JT M L (p,E))/\fO o+ch.toNat<=fO L/\q<=M.aE.length/\D=M.aE.length-q) _ (λx5 ch q=>?_) M.aE.length (ch:=ch) (q:=0) ⟨Z,e,λd=>⟨(B d).1,(B d).2,λE hq=>absurd hq (dH _)⟩,I,cr _,rfl⟩;clear e B I g T Z;intro T g C;obtain⟨J,e,B,I,hq,rfl⟩:=C;have Q:∀{ch:Bool}{g:aw}{o:List Bool},q<M.aE.length->Ox h g k1 kt M a M.aE.length c o->(ch=ak->o=L/\(∀k:NN,k.1<p->k.2<M.aE.length->JT M L k)/\(∀E,E<q->JT M L (p,E))/\JT M L (p,q))->fO o+ch.toNat<=fO L->cB (wz (iy k1 M.aE.length kt (M.aE.length*M.aE.length) p) (λD ch q g=>∃o,Ox h g k1 kt M a M.aE.length c o/\(ch=ak->o=L/\(∀k:NN,k.1<p->k.2<M.aE.length->JT M L k)/\∀E,E<q->JT M L (p,E))/\fO o+ch.toNat<=fO L/\q<=M.aE.length/\D=M.aE.length-q)) (M.aE.length-q) [(pA k1),(iA M.aE.length),(sA kt (M.aE.length*M.aE.length) (M.aE.length*M.aE.length)),(ai ch),(iA p),(aA ((q+1:Nat):Int))] g:=λhq e B I=>by
    refine pe (M.aE.length-(q+1)) (by omega) ⟨_,e,λd=>?_,I,by omega,rfl⟩
    grind
   refine ay (λU=>?_) (λU=>?_)
   ·have U:=dT U;have i:q<M.aE.length:=by omega
    obtain⟨x1,W⟩:=e.rd (k:=(p,q)) l i;rw[wix S l i,cL i (by omega)];refine⟨_,x1,_,W,ay (λq2=>?_) (λq2=>?_)⟩
    ·refine Q i e (λd=>?_) I;obtain⟨Y,c2,c3⟩:=B d;exact⟨Y,c2,c3,λh0=>by grind⟩
    ·obtain⟨x,hx,_,fx,_⟩:=nj l;obtain⟨y,hy,_,fy,_⟩:=nj i;have z:=e.mb r;obtain⟨_,_,_,_,_,d1,_,d3,_,_⟩:=z.row.K1 (Ok.refl e.ok.wf) hx;obtain⟨_,_,_,_,_,j1,_,j3,_,_⟩:=z.row.K1 (Ok.refl e.ok.wf) hy;refine⟨_,eR _,_,_,_,z.l3,_,d1,_,pk _ _,_,d3,ay (λq3=>⟨_,eR _,_,_,_,z.l3,_,j1,_,pk _ _,_,j3,?_⟩) (λq3=>?_)⟩
     all_goals
      first
       |have hs:(!(y.f==[]))=af↔nN M M (p,q):=⟨λd=>⟨jv.1 (by rw[fx];exact q3),jv.1 (by grind)⟩,λd=>by rw[<-fy];exact jv.2 d.2⟩
       |have hs:ak=af↔nN M M (p,q):=⟨λd=>(by grind),λd=>by have:=jv.2 d.1;grind⟩
      refine⟨_,z.all,(LH e.ok.wf N zA z.row l i).mono ?_⟩;rintro v g4 ⟨ow,o4,ml⟩;have F:=ow.rd;obtain⟨b,f,rfl⟩:=F.rM;have e:=e.grow o4;have X:∀w:Ff,w∈Qe (eA M p) (eA M q) p q↔Fl M M (p,q) w.1 w.2:=λw=>Qc;clear ow o4 z d1 d3 j1 j3 x1 W;generalize Qe (eA M p) (eA M q) p q=t at*;rw[aG]at*;refine⟨_,_,_,rfl,EU (dK M a M.aE.length c) k1 M.aE.length kt (M.aE.length*M.aE.length) _ _ _ _ p _ _ q ch b t.length f (λD s j g=>Ox h g k1 kt M a M.aE.length c J/\Ba g 76 5 (ae b t.length f) (t.map Cr)/\(s=af↔nN M M (p,q)\/ ∃w∈t.take j,tb M.aE.length J w.2=af)/\j<=t.length/\D=t.length-j) _ (λx6 s j=>?_) t.length (j:=0) ⟨e,F,hs.trans ⟨.inl,λd=>d.resolve_right λ⟨w,G,_⟩=>by grind⟩,cr _,rfl⟩⟩;clear e F g4;intro T g5 C;obtain⟨e,F,K,hj,rfl⟩:=C;refine ay (λR=>?_) (λR=>?_)
      ·have R:=dT R;obtain⟨wv,G⟩:∃w,t[j]?=aa w:=⟨_,gE (by omega)⟩
       have o6:=(Ok.refl e.ok.wf).room 20;have e:=e.grow o6;have F:=Ba.ok F o6;have tk:∀b:Bool,(b=af↔(s=af\/tb M.aE.length J wv.2=af))->(b=af↔nN M M (p,q)\/ ∃w∈t.take (j+1),tb M.aE.length J w.2=af):=λb hb=>by
        rw[hb,K,(iI G).2];constructor
        ·rintro((d|⟨w,G,A⟩)|A)
         ·exact .inl d
         ·exact .inr ⟨w,dY _ G,A⟩
         ·exact .inr ⟨wv,by simp,A⟩
        grind
       rw[cL (n:=t.length) (by omega) (by omega)];refine ay (λP=>?_) (λP=>?_)
       ·exact pe (t.length-(j+1)) (by omega) ⟨e,F,tk af ⟨λ_=> .inl P,λ_=>rfl⟩,by omega,rfl⟩
       ·obtain⟨z1,z2,i1,i2,_⟩:=agl F G;have H:=Cj N N ⟨l,i⟩ ((X wv).1 (aI G));obtain⟨x1,W⟩:=e.rd H.1 H.2;refine⟨_,i1,_,aad _ _,_,i2 0 (by omega),_,i1,_,aae _ _,_,i2 1 (by omega),_,by rw[wix S H.1 H.2];omega,_,W,?_⟩;exact pe (t.length-(j+1)) (by omega) ⟨e,F,tk _ ⟨.inr,λd=>d.resolve_left λh0=>by grind⟩,by omega,rfl⟩
      ·have R:=dF R;rw[bm (by omega)]at K;rw[cL i (by omega)];refine ay (λP=>?_) (λP=>?_)
       ·have co:Co M M (p,q):=by
         rcases K.1 P with d|⟨w,G,A⟩
         ·exact⟨[],_,.nil _,d⟩
         ·have H:=Cj N N ⟨l,i⟩ ((X w).1 G);exact Co.step ((X w).1 G) (e.snd _ H.1 H.2 A)
        obtain⟨u,st,e6⟩:=e.put w (k:=(p,q)) l i co;rw[wix S l i];refine⟨_,(e.rd (k:=(p,q)) l i).1,_,st,Q i e6 (λd=>by cases d) ?_⟩;have:=rq (L:=J) (s:=sC M.aE.length (p,q)) (by rw[e.len];exact vB l i) q2
        grind
       ·refine Q i e (λd=>?_) I;obtain⟨Y,c2,c3⟩:=B d;refine⟨Y,c2,c3,λ_=>⟨λf2=>?_,λm k' st=>?_⟩⟩
        ·grind
        ·rw[<-Y]
         cases A:tb M.aE.length J k' with
         |false=>rfl
         |true=>rw[K.2 (.inr ⟨(m,k'),(X _).2 st,A⟩)]at P;omega
   ·have U:=dF U;rw[cL l (by omega)];refine pe (M.aE.length-(p+1)) (by omega) ⟨J,e,λd=>?_,I,by omega,rfl⟩
    grind
  ·have q:=dF q;refine fG (2*fO Z+ch.toNat) ?_ ⟨Z,e,λd k a1 a2=>?_,rfl⟩
   all_goals grind
 ·have B:=B q;exact⟨kt,L,rfl,e.tab,e.len,e.ok,λk a1 a2=>⟨e.snd k a1 a2,aha N B a1 a2⟩⟩
end
end
noncomputable def lX:FD:=gT Tryz.f51 [((pq 287),[4,5,6])]
abbrev ji(e:Nat)(a:OA)(n c:Nat)(b:OA)(m d:Nat):LV:=[(pA e),(ae a n c),(ae b m d)]
theorem aeQ(y D:LV)(h:aw)(Q:VH)(hx:xN (iF au 72 (aq ⟨y⟩)) h λB1 c=>xN (iF au 76 (aq ⟨D⟩)) c λB3 k=>xN (cD au 72) k λB5 J=>xR (bC au 27 0 []) J λB7 n8 c9 m=>mh 72 (pA (h.ax)) 0 27 m λv B N=>xE (bY au 27 27 (sA (J.ax) n8 c9) (ae v B N) m) m λi j g x8 q=>xR (bC au 27 0 []) q λx5 O w l=>mh 72 (pA (h.ax)) 1 27 l λE U F=>xE (bY au 27 27 (sA (q.ax) O w) (ae E U F) l) l λd e f x3 a=>ky 76 (pA (c.ax)) 3 a λx=>cp ((x !=0)) (ky 76 (pA (c.ax)) 3 a λu=>xR (bC au 27 1 [(0,(aA u))]) a λx4 Y W o=>xE (bY au 27 27 (ae i j g) (sA (a.ax) Y W) o) o λn p t x1 b=>ky 76 (pA (c.ax)) 4 b λH=>cp ((H !=0)) (ky 76 (pA (c.ax)) 4 b λS=>xR (bC au 27 1 [(0,(aA S))]) b λx2 K L r=>xE (bY au 27 27 (ae d e f) (sA (b.ax) K L) r) r λM z G x6 V=>cq lX (pq 287) (ji (k.ax) n p t M z G) V (ez lX (pq 159) Q)) (cq lX (pq 287) (ji (k.ax) n p t d e f) b (ez lX (pq 159) Q))) (ky 76 (pA (c.ax)) 4 a λC=>cp ((C !=0)) (ky 76 (pA (c.ax)) 4 a λR=>xR (bC au 27 1 [(0,(aA R))]) a λx0 I T s=>xE (bY au 27 27 (ae d e f) (sA (a.ax) I T) s) s λX P A x7 Z=>cq lX (pq 287) (ji (k.ax) i j g X P A) Z (ez lX (pq 159) Q)) (cq lX (pq 287) (ji (k.ax) i j g d e f) a (ez lX (pq 159) Q)))):aW 51 [(aq ⟨y⟩),(aq ⟨D⟩)] h Q:=gZ lX Tryz.func51 (bF hx)
theorem GG(D E:LV)(e:Nat)(g:Nat->OA->Nat->Nat->OA->Nat->Nat->aw->Prop)(Q:VH)(step:∀(f:Nat) (a:OA) (n c:Nat) (b:OA) (m d:Nat) (s:Nat->ah) (h:aw),g f a n c b m d h->cp (decide ((n:Int)>0)) (cp (decide ((m:Int)>0)) (vX 27 (ae a n c) (aA 0) (room h 7) λw=>vX 27 (ae b m d) (aA 0) (room h 7) λv=>cp ((w !=v)) (xA (cI au 72 [(2,(ai af))]) λq=>xU (aQ au 72 (pA e) (aq ⟨q⟩) (room h 7)) (room h 7) λC z=>gI SS [((pA e),aa 72)] z Q) (xL (cY au 27 (ae a n c) (aa (aA 1)) none none (room h 7)) λt r j=>xL (cY au 27 (ae b m d) (aa (aA 1)) none none (room h 7)) λo l k=>cB (LA6 (ji e) g) f [(pA e),(ae t r j),(ae o l k)] (room h 7))) (xA (cI au 72 [(0,(ae a n c)),(1,(ae b m d))]) λp=>xU (aQ au 72 (pA e) (aq ⟨p⟩) h) h λA x=>gI SS [((pA e),aa 72)] x Q)) (xA (cI au 72 [(0,(ae a n c)),(1,(ae b m d))]) λy=>xU (aQ au 72 (pA e) (aq ⟨y⟩) h) h λB u=>gI SS [((pA e),aa 72)] u Q))(f:Nat){a:OA}{n c:Nat}{b:OA}{m d:Nat}{h:aw}(i:g f a n c b m d h):cq lX (pq 287) (ji e a n c b m d) h (ez lX (pq 159) Q):=
 agu (ji e) g (λf a n c b m d s h i=>bF (step f a n c b m d s h i)) f i
variable{v:ah}{w:ah}{p:List Int}{k:Nat}
section
def tQ(x y:ah)(b:Bool):eE:= .cells [x,y,ai b] 72 0 af
def M76(w:Ff):eE:= .cells (Cr w) 76 0 af
theorem aiZ(a:Option aF)(n c:Nat)(b:Option aF)(m d:Nat)(z:Bool):iF au 72 (aq ⟨[ae a n c,ae b m d,ai z]⟩)=aa (tQ (ae a n c) (ae b m d) z,jL):=by rfl
theorem ai0(w:Ff):iF au 76 (aq ⟨Cr w⟩)=aa (M76 w,jL):=by rfl
theorem agL:cD au 72=aa (tQ nA nA ak,jL):=by rfl
theorem Tf:cd au 72=aa 3:=by rfl
theorem Sm(k:Nat):bB au 72 (pA k) 0=aa (pA k):=by rfl
theorem M3(k o:Nat):bB au 72 (cn k o) 1=aa (cn k (o+1)):=by rfl
theorem aaf(k o:Nat):bB au 76 (cn k o) 3=aa (cn k (o+3)):=by rfl
theorem aag(k o:Nat):bB au 76 (cn k o) 4=aa (cn k (o+4)):=by rfl
theorem agW:cI au 72 [(2,(ai af))]=aa (aq ⟨[nA,nA,ai af]⟩):=by rfl
theorem af0(a:Option aF)(n c:Nat)(b:Option aF)(m d:Nat):cI au 72 [(0,(ae a n c)),(1,(ae b m d))]=aa (aq ⟨[ae a n c,ae b m d,ai ak]⟩):=by rfl
theorem aiv:∃d,au.underlying 72=aa d:=⟨_,(by rfl:au.underlying 72=aa ((au.underlying 72).getD .bool))⟩
theorem agI:Go.Ab.isAgg au 72=af:=by rfl
def Zj(h:aw)(r:Option qk):VH:=λv g=>Ok h g/\((r=none/\v=aq ⟨[nA,nA,ai af]⟩)\/ ∃(e:qk)(a:Option aF)(n c:Nat)(b:Option aF)(m d:Nat),r=aa e/\v=aq ⟨[ae a n c,ae b m d,ai ak]⟩/\qs h g 3 (ae a n c) (e.1.map zV)/\qs h g 3 (ae b m d) (e.2.map zV))
section
variable {h:aw} {k4:Nat}
structure AdS(h g:aw)(k4:Nat)(v v':ah)(x y:List Int)(Ga Gb:gf):Prop where
 o:OL h g [Ga,Gb]
 ra:iq 3 v (x.map zV) Ga
 rb:iq 3 v' (y.map zV) Gb
 m:Im g [Ga,Gb] k4 (tQ nA nA ak)
 lo:h.ax<=k4
theorem AdS.grow{a:aw}{x:List Int}{b c:gf}(s:AdS h g k4 v w x p b c)(o:Ok g a):AdS h a k4 v w x p b c:=⟨(s.o.grow o).1,s.ra,s.rb,(s.o.grow o).2 _ _ s.m,s.lo⟩
theorem AdS.fin{x y:List Int}{b c:gf}(t:Wf h)(s:AdS h g k4 v w x y b c){cs:List ah}(l:cs.length=3)(m:cs.all eY=af){Q:VH}(n:∀a,Ok h a->(∀G∈[b,c],∀p∈G,h.ax<=p.1/\a.get p.1=aa p.2)->Q (aq ⟨cs⟩) a):xU (aQ au 72 (pA k4) (aq ⟨cs⟩) g) g λu a=>gI SS [((pA k4),aa 72)] a Q:=by
 have q:aQ au 72 (pA k4) (aq ⟨cs⟩) g=aa (undef,.set k4 (.cells cs 72 0 af)):=gL Tf rfl s.m.1 l m;refine⟨_,q,?_⟩;obtain⟨d,r⟩:=aiv;have o:((dJ.set k4 (.cells cs 72 0 af)).app g).get k4=aa (.cells cs 72 0 af):=by
  show(g.set k4 _).get k4=_;rw[aw.bZ,iP rfl]
 have j:aM au 72 ((dJ.set k4 (.cells cs 72 0 af)).app g) (pA k4)=aa (aq ⟨cs⟩):=by
  rw[mr r agI Tf o (by omega),bV,bm (by omega)]
 refine CT j (n _ (s.o.ok.set _ s.lo (s.o.ok.wf _ _ s.m.1) t) λG f p i=>?_);have k:p.1∈keys [b,c]:=mem_keys (List.mem_flatten.2 ⟨G,f,i⟩);refine⟨s.o.lo _ k,?_⟩;show(g.set k4 _).get _=_;rw[aw.bZ,iN (λe=>s.m.2 (by grind))];exact s.o.at_ p (List.mem_flatten.2 ⟨G,f,i⟩)
theorem OV(w:Wf h){g:aw}{a:Option aF}{n c:Nat}{b:Option aF}{m d:Nat}{x y:List Int}{o p:gf}(s:AdS h g k4 (ae a n c) (ae b m d) x y o p)(Y:x.length<=2000000000):
  cq lX (pq 287) (ji k4 a n c b m d) g (fZ lX (pq 159) [] (kU lX (Zj h (kZ x y)))):=by
 refine GG [] [] k4 (λH a n c b m d g=>∃k l o p,AdS h g k4 (ae a n c) (ae b m d) k l o p/\kZ x y=kZ k l/\k.length=H) _ (λH a n c b m d=>?_) _ ⟨x,y,o,p,s,rfl,rfl⟩;intro zz g G;obtain⟨k,l,o,p,s,I,rfl⟩:=G;have Q:=s.ra.rM;have R:=s.rb.rM;obtain⟨_,_,C⟩:=Q;obtain⟨_,_,D⟩:=R;injection C with _ C _
 injection D with _ D _
 rw[aG]at C D;have v:kZ k l=aa (k,l)->xU (aQ au 72 (pA k4) (aq ⟨[ae a n c,ae b m d,ai ak]⟩) g) g λu B=>gI SS [((pA k4),aa 72)] B (Zj h (kZ x y)):=λe=>s.fin w rfl (by rfl) λB E J=>⟨E,.inr ⟨_,_,_,_,_,_,_,by rw[I,e],rfl,⟨o,s.ra,J o (by simp)⟩,⟨p,s.rb,J p (by simp)⟩⟩⟩
 refine ay (λq=>ay (λt=>?_) (λt=>⟨_,af0 ..,v ?_⟩)) (λq=>⟨_,af0 ..,v ?_⟩)
 ·have q:=dT q;have t:=dT t;obtain⟨i,r,rfl⟩:∃i r,k=i::r:=by cases k with|nil=>grind|cons i r=>grind
  obtain⟨j,A,rfl⟩:∃j A,l=j::A:=by cases l with|nil=>grind|cons i r=>grind
  have f:=s.grow ((Ok.refl s.o.ok.wf).room 7);obtain⟨p1,L,M⟩:=Rz (f.ra.rd f.o (i:=0) rfl) (i:=0) (z:=i) rfl;obtain⟨W,N,T⟩:=Rz (f.rb.rd f.o (i:=1) rfl) (i:=0) (z:=j) rfl;refine⟨_,L,_,M,_,N,_,T,ay (λF=>⟨_,agW,?_⟩) (λF=>?_)⟩
  ·have U:kZ (i::r) (j::A)=none:=by rw[kZ,iN (by grind)]
   exact f.fin w rfl (by rfl) λB E _=>⟨E,.inl ⟨by grind,rfl⟩⟩
  ·have e:i=j:=by simpa using F
   obtain⟨a',Z,V,S,P⟩:=iq.tail fs wu f.ra (f.o.PM (i:=0) rfl);obtain⟨b',m',X,K,O⟩:=iq.tail fs wu f.rb (f.o.PM (i:=1) rfl);refine⟨_,_,_,S,_,_,_,K,agc r.length (eD _) ⟨r,A,o,p,⟨f.o,P,O,f.m,f.lo⟩,?_,rfl⟩⟩;rw[I,kZ,iP e]
 ·have t:=dF t;have:l=[]:=aY (by omega);subst this
  cases k<;>rfl
 ·have q:=dF q;have:k=[]:=aY (by omega);subst this;rfl
theorem af4:bC au 27 0 []=aa (.cells [] 3 1 af,pw 0 0):=by rfl
theorem Vf{x:Ff}(a:g.get k=aa (M76 x)):aM au 3 g (cn k (0+3))=aa (aA x.1.l)/\aM au 3 g (cn k (0+4))=aa (aA x.1.r):=⟨da rk ri a (by simp[Cr]),da rk ri a (by simp[Cr])⟩
theorem KV(w:Wf h){g:aw}{k:Nat}{e:Ff}{a:Option aF}{n c:Nat}{b:Option aF}{m d:Nat}{x y:List Int}{E J:gf}(s:AdS h g k4 (ae a n c) (ae b m d) x y E J)(p:Im g [E,J] k (M76 e))(K:x.length<=2000000000)(V:y.length<=1000000000){r:Option qk}(M:kZ x (y++opt e.1.r [])=r):
  xP (bB au 76 (pA k) 4) λv=>xI an (aM au 3 g (bN v)) λA=>cp (((A:Int) !=0)) (xP (bB au 76 (pA k) 4) λo=>xI an (aM au 3 g (bN o)) λF=>xR (bC au 27 1 [(0,(aA F))]) g λO B C f=>xE (bY au 27 27 (ae b m d) (sA (g.ax) B C) f) f λD t z P H=>cq lX (pq 287) (ji k4 a n c D t z) H (fZ lX (pq 159) [] (kU lX (Zj h r)))) (cq lX (pq 287) (ji k4 a n c b m d) g (fZ lX (pq 159) [] (kU lX (Zj h r)))):=by
 subst M;refine⟨_,aag _ 0,_,(Vf p.1).2,ay (λq=>?_) (λq=>?_)⟩
 ·have q:e.1.r≠0:=by simpa using q
  refine⟨_,aag _ 0,_,(Vf p.1).2,_,_,_,qi _,?_⟩;have N:=cC g (.cells [zV e.1.r] 3 1 af);have G:=(Ok.refl s.o.ok.wf).push (.cells [zV e.1.r] 3 1 af);obtain⟨T,S,Q,u,L,R,U,i,l,I⟩:=s.rb.snoc fs rJ lZ Jt w (s.o.grow G).1 (j:=1) rfl (x:=zV e.1.r) rfl N (by rw[jV,aG];omega) (by rw[aG];omega);refine⟨_,_,_,_,L,?_⟩;rw[vD q];exact OV w ⟨l,s.ra,by rw[bU];exact i,I _ _ ((s.o.grow G).2 _ _ s.m),s.lo⟩ K
 grind[kj,OV]
theorem aeR(w:Wf h){a:Option aF}{n c:Nat}{b:Option aF}{i f:Nat}{z:Bool}{d:qk}{x:Ff}(r1:Rd h 3 (ae a n c) (d.1.map zV))(r2:Rd h 3 (ae b i f) (d.2.map zV))(z1:d.1.length<=1000000000)(I:d.2.length<=1000000000):aW 51 [aq ⟨[ae a n c,ae b i f,ai z]⟩,aq ⟨Cr x⟩] h (Zj h (ue d x.1)):=by
 refine aeQ _ _ h _ ⟨_,aiZ ..,_,ai0 x,_,agL,_,_,_,af4,?_⟩;have U:=(Ok.refl w).push (tQ (ae a n c) (ae b i f) z);have e:=cC h (tQ (ae a n c) (ae b i f) z);generalize h.ax=J at*;generalize h.push (tQ (ae a n c) (ae b i f) z)=L at*;have N:=(Ok.refl U.wf).push (M76 x);have Q:=cC L (M76 x);have e:=N.ext _ _ e;generalize L.ax=k2 at*;have E:=U.trans N;generalize L.push (M76 x)=H at*;have t:=(Ok.refl N.wf).push (tQ nA nA ak);have b3:=cC H (tQ nA nA ak);have e:=t.ext _ _ e;have Q:=t.ext _ _ Q;have Y:=E.nx;have m:=E.trans t;generalize H.ax=k4 at*;generalize H.push (tQ nA nA ak)=g3 at*;have ld:∀{g:aw},g.get J=aa (tQ (ae a n c) (ae b i f) z)->aM au 27 g (pA J)=aa (ae a n c)/\aM au 27 g (cn J (0+1))=aa (ae b i f):=λhg=>⟨da fs lF hg (by simp),da fs lF hg (by simp)⟩
 have D:∀{g:aw}{v:ah}{l:List Int},Rd h 3 v (l.map zV)->l.length<=1000000000->Ok h g->∃(b:Option aF)(n c:Nat)(u:dJ),bY au 27 27 (sA g.ax 0 0) v (g.push (.cells [] 3 1 af))=aa (ae b n c,u)/\qs g (u.app (g.push (.cells [] 3 1 af))) 3 (ae b n c) (l.map zV)/\Ok g (u.app (g.push (.cells [] 3 1 af))):=λ{g v l} r hl P=>UE fs rJ lZ Jt P.wf (aco (r.ok (P.trans ((Ok.refl P.wf).push _)))) (by grind[zV,eY]) (by grind[jV]) (by grind);obtain⟨ba,na,ca,u1,O,⟨Ga,ra,S⟩,A⟩:=D r1 z1 m;refine⟨_,Sm _,_,_,_,(ld (((Ok.refl t.wf).push _).ext _ _ e)).1,_,_,_,_,O,?_⟩;generalize u1.app (g3.push (.cells [] 3 1 af))=g5 at*;have o:=m.trans A;have e:=A.ext _ _ e;obtain⟨bb,nb,cb,u2,X,⟨Gb,Z,W⟩,e6⟩:=D r2 I o;refine⟨_,_,_,af4,_,M3 _ 0,_,_,_,(ld (((Ok.refl A.wf).push _).ext _ _ e)).2,_,_,_,_,X,?_⟩;generalize u2.app (g5.push (.cells [] 3 1 af))=K at*;have V:∀{g g':aw}{G:gf},(∀p∈G,g.ax<=p.1/\g'.get p.1=aa p.2)->∀k∈G.map (·.1),g.ax<=k:=λy k hk=>by grind
 obtain⟨o5,c5⟩:=(OL.nil m).more o (λp y=>(S p y).2) ra.nd (V S) A.ext;obtain⟨o6,c6⟩:=o5.more (o.trans e6) (λp y=>(W p y).2) Z.nd (V W) e6.ext;have T:∀{k:Nat}{B:eE},g3.get k=aa B->Im K [Ga,Gb] k B:=λhk=>c6 _ _ (c5 _ _ ⟨hk,λh=>by grind[keys]⟩);have C:=T Q;have s:AdS h K k4 (ae ba na ca) (ae bb nb cb) d.1 d.2 Ga Gb:=⟨o6,ra,Z,T b3,Y⟩
 refine⟨_,aaf _ 0,_,(Vf C.1).1,ay (λq=>?_) (λq=>?_)⟩
 ·have q:x.1.l≠0:=by simpa using q
  refine⟨_,aaf _ 0,_,(Vf C.1).1,_,_,_,qi _,?_⟩;have k3:=cC K (.cells [zV x.1.l] 3 1 af);have M:=(Ok.refl s.o.ok.wf).push (.cells [zV x.1.l] 3 1 af);obtain⟨b',n',c',u,O,X,G',x0,R,F⟩:=s.ra.snoc fs rJ lZ Jt w (s.o.grow M).1 (j:=0) rfl (x:=zV x.1.l) rfl k3 (by grind[jV]) (by grind);refine⟨_,_,_,_,O,?_⟩;exact KV w (x:=d.1++opt x.1.l []) ⟨R,by grind[vD],s.rb,F _ _ ((s.o.grow M).2 _ _ s.m),s.lo⟩ (F _ _ ((s.o.grow M).2 _ _ C)) (by grind[vD]) I rfl
 ·have q:x.1.l=0:=by simpa using q
  refine KV w s C (by omega) I ?_
  grind[kj,ue]
end
end
noncomputable def je:FD:=gT Tryz.f15 [((pq 18431),[1,5,6,7,8,10]),((pq 41895935),[1,5,6,7,8,10,14,15,16])]
abbrev jk(g N:Nat)(b:OA)(i d f h R j S e:Nat)(a:OA)(n c:Nat):LV:=[(pA g),(iA N),(ae b i d),(sA f R j),(sA h S e),(ae a n c)]
abbrev iG(k N:Nat)(f:OA)(o g j l R p S h e:Nat)(b:OA)(m d:Nat)(a:OA)(n c i:Nat):LV:=[(pA k),(iA N),(ae f o g),(sA j R p),(sA l S h),(ae a n c),(pA e),(ae b m d),(iA i)]
theorem aeT(r:LV)(h:aw)(Q:VH)(D:xN (iF au 24 (aq ⟨r⟩)) h λM v=>xA (aM au 24 v (pA (h.ax))) λE=>aW 48 [(aq ⟨E⟩)] v λC B=>∃o:LV,∃p:Int,C=(av ⟨[(aq ⟨o⟩),(aA p)]⟩)/\xU (aQ au 24 (pA (h.ax)) (aq ⟨o⟩) B) B λL f=>cp ((p !=0)) (Q (av ⟨[(ai ak),(aA p)]⟩) f) (mh 24 (pA (h.ax)) 3 22 f λF a G=>xA (aM au 24 f (pA (h.ax))) λx=>aW 49 [(aq ⟨x⟩)] f λq d=>yL q λn i l=>xR (cK au 68 (aA (aj an ((a:Int)*(a:Int)))) (aA (aj an ((a:Int)*(a:Int))))) d λJ m g k=>xR (cK au 70 (aA (aj an ((a:Int)*(a:Int)))) (aA (aj an ((a:Int)*(a:Int))))) k λK u w b=>ky 24 (pA (h.ax)) 1 b λc=>ky 24 (pA (h.ax)) 1 b λe=>qX xB 68 (ae n i l) (aA (aj an (aj an (c*(a:Int))+e))) 4 b λs=>cp (!s) (Q (av ⟨[(ai af),(aA 0)]⟩) b) (xP (aZ au 68 (sA (d.ax) m g) (aA (aj an (aj an (c*(a:Int))+e)))) λz=>xU (aQ au 4 (bN z) (ai af) b) b λI j=>xR (bC au 27 1 [(0,(aA (aj an (aj an (c*(a:Int))+e))))]) j λH A y t=>cq je (pq 18431) (jk (h.ax) a n i l (d.ax) (k.ax) m g u w (aa ⟨j.ax,0,none⟩) A y) t (ez je (pq 10239) Q)))):aW 15 [(aq ⟨r⟩)] h Q:=gZ je Tryz.func15 (bF D)
theorem GH(mv:LV)(d N:Nat)(j:OA)(m k l i R o S g:Nat)(e:Nat->OA->Nat->Nat->aw->Prop)(Q:VH)(step:∀(f:Nat) (a:OA) (n c:Nat) (O:Nat->ah) (h:aw),e f a n c h->cp (decide ((n:Int)>0)) (vX 27 (ae a n c) (aA 0) h λr=>xL (cY au 27 (ae a n c) (aa (aA 1)) none none h) λs t u=>xI an (cm au .quo 3 (aA r) (iA N)) λp=>xI an (cm au .rem 3 (aA r) (iA N)) λq=>qX xA 70 (sA i S g) (aA r) 72 (room h 8) λK=>xN (cD au 72) (room h 8) λx9 v=>xU (aQ au 72 (pA ((room h 8).ax)) (aq ⟨K⟩) v) v λx8 b=>mh 24 (pA d) 3 22 b λY V H=>ve 22 (ae Y V H) (aA p) 44 0 λA=>xS (aM au 9 b (bN A)) λX=>cp (!((X:LB)==[])) (mh 24 (pA d) 3 22 b λx J U=>ve 22 (ae x J U) (aA q) 44 0 λx2=>xS (aM au 9 b (bN x2)) λB=>cp (!((B:LB)==[])) (mh 72 (pA ((room h 8).ax)) 0 27 b λx7 x5 y2=>mh 72 (pA ((room h 8).ax)) 1 27 b λy1 P y0=>cp (decide ((aj an ((x5:Int)+(P:Int)):Int)>0)) (Q (av ⟨[(ai ak),(aA 0)]⟩) b) (xA (aM au 24 b (pA d)) λL=>aW 50 [(aq ⟨L⟩),(aA p),(aA q)] b λx6 Z=>yL x6 λT M z=>cq je (pq 41895935) (iG d N j m k l i R o S g ((room h 8).ax) T M z s t u 0) Z (fZ je (pq 1533) (pq 18431) (RR je (pq 18431) (GR (jk d N j m k l i R o S g) e) f (ez je (pq 10239) Q))))) (xA (aM au 24 b (pA d)) λC=>aW 50 [(aq ⟨C⟩),(aA p),(aA q)] b λG x0=>yL G λD y x4=>cq je (pq 41895935) (iG d N j m k l i R o S g ((room h 8).ax) D y x4 s t u 0) x0 (fZ je (pq 1533) (pq 18431) (RR je (pq 18431) (GR (jk d N j m k l i R o S g) e) f (ez je (pq 10239) Q))))) (xA (aM au 24 b (pA d)) λx3=>aW 50 [(aq ⟨x3⟩),(aA p),(aA q)] b λE I=>yL E λx1 W F=>cq je (pq 41895935) (iG d N j m k l i R o S g ((room h 8).ax) x1 W F s t u 0) I (fZ je (pq 1533) (pq 18431) (RR je (pq 18431) (GR (jk d N j m k l i R o S g) e) f (ez je (pq 10239) Q))))) (Q (av ⟨[(ai af),(aA 0)]⟩) h))(f:Nat){a:OA}{n c:Nat}{h:aw}(w:e f a n c h):cq je (pq 18431) (jk d N j m k l i R o S g a n c) h (ez je (pq 10239) Q):=
 Jj (jk d N j m k l i R o S g) e (λf a n c O h w=>bF (step f a n c O h w)) f w
theorem GI(mv:LV)(v N:Nat)(s:OA)(u t g l R j S k:Nat)(f:Nat)(b:OA)(m d:Nat)(G:Nat->OA->Nat->Nat->aw->Prop)(mz:Nat)(r:Nat->OA->Nat->Nat->Nat->aw->Prop)(Q:VH)(step:∀(q:Nat) (a:OA) (n c i:Nat) (zz:Nat->ah) (h:aw),r q a n c i h->cp (decide ((i:Int)<(m:Int))) (ve 73 (ae b m d) (iA i) 76 0 λu0=>xI an (aM au 3 (room h 14) (bN u0)) λp=>ve 73 (ae b m d) (iA i) 76 1 λu1=>xI an (aM au 3 (room h 14) (bN u1)) λo=>qX xB 68 (ae s u t) (aA (aj an (aj an (p*(N:Int))+o))) 4 (room h 14) λY=>cp (!Y) (cB (sk (iG v N s u t g l R j S k f b m d) r) q [(pA v),(iA N),(ae s u t),(sA g R j),(sA l S k),(ae a n c),(pA f),(ae b m d),(aA (aj an ((i:Int)+1)))] (room h 14)) (xA (aM au 72 (room (room h 14) 8) (pA f)) λz9=>qX xA 73 (ae b m d) (iA i) 76 (room (room h 14) 8) λx0=>aW 51 [(aq ⟨z9⟩),(aq ⟨x0⟩)] (room (room h 14) 8) λI B=>yA I λz1=>zN (cD au 72) λF=>xU (aQ au 72 (pA ((room h 14).ax+6)) (aq ⟨z1⟩) (bS B (room h 14).ax [(6,F)])) (bS B (room h 14).ax [(6,F)]) λu7 e=>qF xB 72 (pA ((room h 14).ax+6)) 2 4 (room e 30) λX=>cp X (Q (av ⟨[(ai ak),(aA 0)]⟩) (room e 30)) (qX xB 68 (sA g R j) (aA (aj an (aj an (p*(N:Int))+o))) 4 (room e 30) λU=>cp U (mh 72 (pA ((room h 14).ax+6)) 0 27 (room e 30) λz2 z8 y7=>ve 70 (sA l S k) (aA (aj an (aj an (p*(N:Int))+o))) 72 0 λy4=>xL (aM au 27 (room e 30) (bN y4)) λH x6 y3=>aW 52 [(ae z2 z8 y7),(ae H x6 y3)] (room e 30) λx8 x=>yB x8 λx2=>cp (!x2) (Q (av ⟨[(ai ak),(aA 0)]⟩) x) (mh 72 (pA ((room h 14).ax+6)) 1 27 x λy5 z7 y1=>ve 70 (sA l S k) (aA (aj an (aj an (p*(N:Int))+o))) 72 1 λL=>xL (aM au 27 x (bN L)) λy0 x1 x4=>aW 52 [(ae y5 z7 y1),(ae y0 x1 x4)] x λW w=>yB W λO=>cp (!O) (Q (av ⟨[(ai ak),(aA 0)]⟩) w) (qX xB 68 (sA g R j) (aA (aj an (aj an (p*(N:Int))+o))) 4 w λP=>cp (!P) (xP (aZ au 68 (sA g R j) (aA (aj an (aj an (p*(N:Int))+o)))) λx9=>xU (aQ au 4 (bN x9) (ai af) w) w λu5 y=>xA (aM au 72 y (pA ((room h 14).ax+6))) λz5=>xP (aZ au 70 (sA l S k) (aA (aj an (aj an (p*(N:Int))+o)))) λz0=>xU (aQ au 72 (bN z0) (aq ⟨z5⟩) y) y λu3 C=>xR (bC au 27 1 [(0,(aA (aj an (aj an (p*(N:Int))+o))))]) C λu8 J y6 D=>xE (bY au 27 27 (ae a n c) (sA (C.ax) J y6) D) D λz4 x3 y9 u4 y2=>cB (sk (iG v N s u t g l R j S k f b m d) r) q [(pA v),(iA N),(ae s u t),(sA g R j),(sA l S k),(ae z4 x3 y9),(pA f),(ae b m d),(aA (aj an ((i:Int)+1)))] y2) (cB (sk (iG v N s u t g l R j S k f b m d) r) q [(pA v),(iA N),(ae s u t),(sA g R j),(sA l S k),(ae a n c),(pA f),(ae b m d),(aA (aj an ((i:Int)+1)))] w)))) (qX xB 68 (sA g R j) (aA (aj an (aj an (p*(N:Int))+o))) 4 (room e 30) λz3=>cp (!z3) (xP (aZ au 68 (sA g R j) (aA (aj an (aj an (p*(N:Int))+o)))) λM=>xU (aQ au 4 (bN M) (ai af) (room e 30)) (room e 30) λu9 z=>xA (aM au 72 z (pA ((room h 14).ax+6))) λy8=>xP (aZ au 70 (sA l S k) (aA (aj an (aj an (p*(N:Int))+o)))) λz6=>xU (aQ au 72 (bN z6) (aq ⟨y8⟩) z) z λv0 A=>xR (bC au 27 1 [(0,(aA (aj an (aj an (p*(N:Int))+o))))]) A λu6 x5 Z E=>xE (bY au 27 27 (ae a n c) (sA (A.ax) x5 Z) E) E λV x7 K u2 T=>cB (sk (iG v N s u t g l R j S k f b m d) r) q [(pA v),(iA N),(ae s u t),(sA g R j),(sA l S k),(ae V x7 K),(pA f),(ae b m d),(aA (aj an ((i:Int)+1)))] T) (cB (sk (iG v N s u t g l R j S k f b m d) r) q [(pA v),(iA N),(ae s u t),(sA g R j),(sA l S k),(ae a n c),(pA f),(ae b m d),(aA (aj an ((i:Int)+1)))] (room e 30)))))) (cB (GR (jk v N s u t g l R j S k) G) mz [(pA v),(iA N),(ae s u t),(sA g R j),(sA l S k),(ae a n c)] h))(q:Nat){a:OA}{n c i:Nat}{h:aw}(hi:r q a n c i h):cq je (pq 41895935) (iG v N s u t g l R j S k f b m d a n c i) h (fZ je (pq 1533) (pq 18431) (RR je (pq 18431) (GR (jk v N s u t g l R j S k) G) mz (ez je (pq 10239) Q))):=
 uD (iG v N s u t g l R j S k f b m d) r (λq a n c i zz h hi=>bF (step q a n c i zz h hi)) q hi
variable{j:Nat}{n:Nat}{y:List Nat}
section
theorem q70:au.underlying 70=aa (.slice 72):=by rfl
def QM(ds:List ah)(j:Nat):List ah:=(ds.drop (3*j)).take 3
def Kr(ds:List ah)(i:Nat)(cs:List ah):List ah:=ds.take (3*i)++cs++ds.drop (3*i+3)
theorem abC{ds cs:List ah}(a:3*i+3<=ds.length)(b:cs.length=3):(Kr ds i cs).length=ds.length:=by grind[Kr]
theorem abD{ds cs:List ah}(b:3*i+3<=ds.length)(c:cs.length=3):QM (Kr ds i cs) j=if j=i then cs else QM ds j:=by
 have a:(ds.take (3*i)).length=3*i:=by rw[bo];omega
 unfold QM Kr;refine cV λt=>?_;rw[List.getElem?_take];split
 all_goals grind
theorem ajw{c:Nat}(h:i<n):aZ au 70 (sA k n c) (aA (i:Int))=aa (cn k (3*i)):=by
 rw[Gw q70 Tf (by omega) (by omega),bn,bO,dh]
abbrev VS:=List (Option qk)
def kB(v:Option qk):ah:= ai v.isSome
def C6(kd kk:Nat)(ds:List ah)(tr:VS)(Gq:gf):List gf:=[[(kd,.cells ds 72 3 af)],[(kk,.cells (tr.map kB) 4 1 af)],Gq]
def kn(T:cG)(tr:VS)(k:NN)(d:qk):Prop:=tr[sC T.aE.length k]?=aa (aa d)
def akz(T:cG)(tr:VS):Prop:=∀k d,Nd T T k->kn T tr k d->Co T T k/\∃a,PR T T (uP T T) a k/\kZ (wL a) (wR a)=aa d/\a.length+gr tr<=tr.length
def StD(T:cG)(tr:VS)(d:qk)(w:Ff):Prop:=Co T T w.2->∃a,ue d w.1=aa a/\kn T tr w.2 a
def DnD(T:cG)(tr:VS)(k:NN):Prop:=∀d,kn T tr k d->(nN T T k->d=([],[]))/\∀m a,Fl T T k m a->StD T tr d (m,a)
def ExD(tr a:VS):Prop:=∀(j:Nat)(d:qk),tr[j]?=aa (aa d)->a[j]?=aa (aa d)
theorem ExD.set{tr:VS}(h:tr[j]?=aa none)(d:qk):ExD tr (tr.set j (aa d)):=λi e a=>by grind
theorem StD.ext{T:cG}{tr a:VS}{d:qk}{w:Ff}(s:StD T tr d w)(e:ExD tr a):StD T a d w:=λc=>by
 obtain⟨b,f,g⟩:=s c;exact⟨b,f,e _ _ g⟩
theorem DnD.ext{T:cG}{tr c:VS}{k:NN}(h:DnD T tr k){d:qk}(f:kn T tr k d)(e:ExD tr c):DnD T c k:=λi j=>by
 have:d=i:=aC (aC ((e _ _ f).symm.trans j));subst this;obtain⟨a,b⟩:=h d f;exact⟨a,λm g s=>(b m g s).ext e⟩
theorem WA{T:cG}(e:Good T){tr:VS}(h0:kn T tr (uP T T) ([],[]))(i:∀k d,Nd T T k->kn T tr k d->DnD T tr k):xX T T:=by
 have l:Nd T T (uP T T):=⟨by have:=e.oz;have:=e.pY;show T.start.toNat<_;omega,by have:=e.oz;have:=e.pY;show T.start.toNat<_;omega⟩
 have a:∀{k:NN}{d:qk},(if k.1<T.aE.length/\k.2<T.aE.length then tr.getD (sC T.aE.length k) none else none)=aa d↔Nd T T k/\kn T tr k d:=λ{k d}=>by
  unfold kn Nd
  grind
 refine UN (λk=>if k.1<T.aE.length/\k.2<T.aE.length then tr.getD (sC T.aE.length k) none else none) (a.2 ⟨l,h0⟩) (λk d m j h s c=>?_) (λk d h f=>?_)
 ·obtain⟨g,b⟩:=a.1 h;obtain⟨o,n,p⟩:=(i k d g b d b).2 m j s c
  grind[Cj]
 ·obtain⟨g,b⟩:=a.1 h;exact(i k d g b d b).1 f
structure FI(h0:aw)(kd kk:Nat)(T:cG)(tr:VS)(ds:List ah)(todo:List Nat)(v:ah)(Gq:gf)(g:aw):Prop where
 o:OL h0 g (C6 kd kk ds tr Gq)
 lt:tr.length=T.aE.length*T.aE.length
 Ki:ds.length=3*(T.aE.length*T.aE.length)
 row:∀(j:Nat)(d:qk),tr[j]?=aa (aa d)->∃(a:Option aF)(n c:Nat)(b:Option aF)(m e:Nat),QM ds j=[ae a n c,ae b m e,ai ak]/\ua g (C6 kd kk ds tr Gq) 3 (ae a n c) (d.1.map zV)/\ua g (C6 kd kk ds tr Gq) 3 (ae b m e) (d.2.map zV)
 td:iq 3 v (todo.map iv) Gq
 LX:akz T tr
 tk:∀j∈todo,∃k d,Nd T T k/\j=sC T.aE.length k/\kn T tr k d
 bd:todo.length+gr tr<=T.aE.length*T.aE.length
section
variable {h0 g g':aw} {kd kk:Nat} {T:cG} {tr:VS} {ds:List ah} {todo:List Nat} {v:ah} {Gq:gf}
theorem FI.grow(s:FI h0 kd kk T tr ds todo v Gq g)(o:Ok g g'):FI h0 kd kk T tr ds todo v Gq g'/\ng g (C6 kd kk ds tr Gq) g' (C6 kd kk ds tr Gq):=by
 obtain⟨i,f⟩:=s.o.grow o;exact⟨⟨i,s.lt,s.Ki,λj d h=>by
  obtain⟨a,n,c,b,m,e,l,p,k⟩:=s.row j d h;exact⟨a,n,c,b,m,e,l,p.fN f,k.fN f⟩,s.td,s.LX,s.tk,s.bd⟩,f⟩
theorem FI.ajC(s:FI h0 kd kk T tr ds todo v Gq g){k:NN}(a:Nd T T k):aZ au 68 (sA kk (T.aE.length*T.aE.length) (T.aE.length*T.aE.length)) (aA (sC T.aE.length k:Nat))=aa (cn kk (sC T.aE.length k))/\∃o,tr[sC T.aE.length k]?=aa o/\aM au 4 g (cn kk (sC T.aE.length k))=aa (ai o.isSome):=by
 have c:=vB a.1 a.2;obtain⟨o,b⟩:∃o,tr[sC T.aE.length k]?=aa o:=⟨_,gE (by rw[s.lt];omega)⟩
 refine⟨sy q68 Te c,o,b,?_⟩;rw[da q4 q4a (s.o.get 1 rfl) (by grind),gD,List.getElem?_map,b];rfl
theorem FI.dly(s:FI h0 kd kk T tr ds todo v Gq g){k:NN}(h:Nd T T k){d:qk}(j:kn T tr k d):aZ au 70 (sA kd (T.aE.length*T.aE.length) (T.aE.length*T.aE.length)) (aA (sC T.aE.length k:Nat))=aa (cn kd (3*sC T.aE.length k))/\∃(a:Option aF)(n c:Nat)(b:Option aF)(m e:Nat),aM au 72 g (cn kd (3*sC T.aE.length k))=aa (aq ⟨[ae a n c,ae b m e,ai ak]⟩)/\aM au 27 g (cn kd (3*sC T.aE.length k+0))=aa (ae a n c)/\aM au 27 g (cn kd (3*sC T.aE.length k+1))=aa (ae b m e)/\ua g (C6 kd kk ds tr Gq) 3 (ae a n c) (d.1.map zV)/\ua g (C6 kd kk ds tr Gq) 3 (ae b m e) (d.2.map zV)/\d.1.length<=1000000+T.aE.length*T.aE.length/\d.2.length<=T.aE.length*T.aE.length:=by
 have t:=vB h.1 h.2;obtain⟨a,n,c,b,m,e,u,w,q⟩:=s.row _ d j;obtain⟨A,y⟩:=aiv;have l:=s.o.get 0 (k:=kd) rfl;have o:=s.Ki;have i:∀r,r<3->ds.getD (3*sC T.aE.length k+r) undef=([ae a n c,ae b m e,ai ak]:List ah).getD r undef:=λr D=>by
  rw[<-u];unfold QM
  grind
 obtain⟨_,f,_,x,p⟩:=s.LX k d h j;obtain⟨B,z⟩:=ss x;have C:(wL f).length<=f.length:=eZ Mv.l _;have E:(wR f).length<=f.length:=eZ Mv.r _;rw[s.lt]at p;refine⟨ajw t,a,n,c,b,m,e,?_,?_,?_,w,q,by omega,by omega⟩
 ·grind[mr,agI,Tf,QM]
 ·rw[da fs lF l (by omega),i 0 (by omega)];rfl
 ·rw[da fs lF l (by omega),i 1 (by omega)];rfl
theorem FI.pop(s:FI h0 kd kk T tr ds (i::y) v Gq g):∃(p:aF)(a:Option aF)(m cc:Nat),aZ au 27 v (aA 0)=aa (bN p)/\aM au 3 g (bN p)=aa (aA (i:Int))/\cY au 27 v (aa (aA 1)) none none g=aa (ae a m cc)/\FI h0 kd kk T tr ds y (ae a m cc) Gq g:=by
 obtain⟨a,m,cc,f,b⟩:=iq.tail (g:=g) (x:=iv i) (vs:=y.map iv) fs wu s.td (s.o.PM (i:=2) rfl);have e:(i::y).map iv=((i::y).map λj:Nat=>(j:Int)).map zV:=by rw[List.map_map];rfl
 have c:=s.td.rd s.o (i:=2) rfl;rw[e]at c;obtain⟨p,k,d⟩:=Rz c (i:=0) (z:=(i:Int)) rfl;exact⟨p,a,m,cc,k,d,f,s.o,s.lt,s.Ki,s.row,b,s.LX,λj h=>s.tk j (cJ _ h),by have:=s.bd;grind⟩
theorem FI.put(F:Wf h0)(s:FI h0 kd kk T tr ds todo v Gq g)(hN:T.aE.length*T.aE.length<=90000){k:NN}(A:Nd T T k)(G:tr[sC T.aE.length k]?=aa none){z:List Mv}{d:qk}(co:Co T T k)(pr:PR T T (uP T T) z k)(hc:kZ (wL z) (wR z)=aa d)(hm:z.length+gr tr<=T.aE.length*T.aE.length+1){a:Option aF}{n c:Nat}{b:Option aF}{m e:Nat}(ra:ua g (C6 kd kk ds tr Gq) 3 (ae a n c) (d.1.map zV))(rb:ua g (C6 kd kk ds tr Gq) 3 (ae b m e) (d.2.map zV)):
  ∃h:dJ,aQ au 4 (cn kk (sC T.aE.length k)) (ai af) g=aa (undef,h)/\ng g (C6 kd kk ds tr Gq) (h.app g) (C6 kd kk ds (tr.set (sC T.aE.length k) (aa d)) Gq)/\
  ∃o:dJ,aQ au 72 (cn kd (3*sC T.aE.length k)) (aq ⟨[ae a n c,ae b m e,ai ak]⟩) (h.app g)=aa (undef,o)/\
  ∃(K:Option aF)(J H:Nat)(B:dJ),bY au 27 27 v (sA (o.app (h.app g)).ax 1 1) ((o.app (h.app g)).push (.cells [aA (sC T.aE.length k:Nat)] 3 1 af))=aa (ae K J H,B)/\
  ∃C E,FI h0 kd kk T (tr.set (sC T.aE.length k) (aa d)) C (todo++[sC T.aE.length k]) (ae K J H) E (B.app ((o.app (h.app g)).push (.cells [aA (sC T.aE.length k:Nat)] 3 1 af)))/\
   ng g (C6 kd kk ds tr Gq) (B.app ((o.app (h.app g)).push (.cells [aA (sC T.aE.length k:Nat)] 3 1 af))) (C6 kd kk C (tr.set (sC T.aE.length k) (aa d)) E):=by
 have hl:=vB A.1 A.2;have x0:=s.Ki;obtain⟨i,L⟩:∃i,i=sC T.aE.length k:=⟨_,rfl⟩
 have Q:=mW d G;have x5:=s.bd;rw[<-L]at G hl Q⊢;have P:(tr.map kB).set i (ai af)=(tr.set i (aa d)).map kB:=by rw[map_set];rfl
 obtain⟨q,t⟩:=s.o.uR F 1 rfl (.cells ((tr.map kB).set i (ai af)) 4 1 af);rw[P]at q t;have q:OL h0 _ (C6 kd kk ds (tr.set i (aa d)) Gq):=q;have t:ng g (C6 kd kk ds tr Gq) _ (C6 kd kk ds (tr.set i (aa d)) Gq):=t;have U:aQ au 4 (cn kk i) (ai af) g=aa (undef,.set kk (.cells ((tr.map kB).set i (ai af)) 4 1 af)):=eu Te (s.o.get 1 rfl) (by grind) rfl rfl;rw[P]at U;refine⟨_,U,t,?_⟩;generalize (dJ.set kk (.cells ((tr.set i (aa d)).map kB) 4 1 af)).app g=N at*;have st:aQ au 72 (cn kd (3*i)) (aq ⟨[ae a n c,ae b m e,ai ak]⟩) N=aa (undef,.set kd (.cells (Kr ds i [ae a n c,ae b m e,ai ak]) 72 3 af)):=by
  unfold aQ;dsimp only;have e2:(aq ⟨[ae a n c,ae b m e,ai ak]⟩).cells.size=3:=rfl;have e3:(aq ⟨[ae a n c,ae b m e,ai ak]⟩).cells.toList=[ae a n c,ae b m e,ai ak]:=rfl;rw[iP (by rfl)];unfold storeAt;rw[q.get 0 (k:=kd) rfl,e3];dsimp only;rw[iP ⟨by grind,by rfl⟩];rfl
 refine⟨_,st,?_⟩;obtain⟨u,M⟩:=q.uR F 0 rfl (.cells (Kr ds i [ae a n c,ae b m e,ai ak]) 72 3 af);generalize (dJ.set kd (.cells (Kr ds i [ae a n c,ae b m e,ai ak]) 72 3 af)).app N=I at*;have u:OL h0 I (C6 kd kk (Kr ds i [ae a n c,ae b m e,ai ak]) (tr.set i (aa d)) Gq):=u;have M:ng N _ I (C6 kd kk (Kr ds i [ae a n c,ae b m e,ai ak]) (tr.set i (aa d)) Gq):=M;have W:=t.trans M;have k3:=cC I (.cells [iv i] 3 1 af);have V:=(Ok.refl u.ok.wf).push (.cells [iv i] 3 1 af);obtain⟨K,J,H,B,p1,p2,G',Z,o3,c3⟩:=s.td.snoc fs rJ lZ Jt F (u.grow V).1 (j:=2) rfl (x:=iv i) rfl k3 (by grind[jV]) (by grind);have p:=W.trans ((u.grow V).2.trans c3);have x7:∀j,(tr.set i (aa d))[j]?=aa none->j≠i:=λj f e=>by grind
 refine⟨_,_,_,_,p1,Kr ds i [ae a n c,ae b m e,ai ak],G',⟨o3,by rw[bT];exact s.lt,by grind[abC],λj r f=>?_,by grind,λy r D l=>?_,λj f=>?_,by grind⟩,p⟩
 ·rw[getElem?_set]at f;rw[abD (by omega) rfl];by_cases w:i=j
  ·subst w;rw[iP rfl,iP (by grind)]at f;obtain rfl:=aC (aC f);exact⟨a,n,c,b,m,e,iP rfl,ra.fN p,rb.fN p⟩
  ·rw[iN w]at f;obtain⟨a',n1,O,b1,m1,R,r1,r2,r3⟩:=s.row j r f;exact⟨a',n1,O,b1,m1,R,by grind,r2.fN p,r3.fN p⟩
 ·unfold kn at l;rw[getElem?_set]at l;rw[bT,s.lt];by_cases w:i=sC T.aE.length y
  ·obtain rfl:=Ar A.2 D.2 (L.symm.trans w)
   grind
  ·rw[iN w]at l;obtain⟨Y,x6,S,X,x4⟩:=s.LX y r D l;rw[s.lt]at x4
   grind
 ·rcases bH.1 f with f|f
  ·obtain⟨y,r,Y,S,X⟩:=s.tk j f;exact⟨y,r,Y,S,ExD.set G d _ _ X⟩
  ·rw[aX.1 f];exact⟨k,d,A,L,by unfold kn;grind⟩
end
end
variable{h:aw}{b:Bool}
section
structure FC(h0:aw)(k1 kg:Nat)(T:cG)(a:Option aF)(n c:Nat)(gl:List Bool):Prop where
 w:Wf h0
 gd:Good T
 zA:∀s∈T.aE,s.bG.length<=30
 hN:T.aE.length<=300
 mb:MB h0 k1 T a n c
 gt:h0.get kg=aa (.cells (gl.map ai) 4 1 af)
 ajs:gl.length=T.aE.length*T.aE.length
 ajt:∀k:NN,k.1<T.aE.length->k.2<T.aE.length->(tb T.aE.length gl k=af↔Co T T k)
theorem U3{h0:aw}{T:cG}{Q:VH}(i:∀(b:Bool) (h:aw),Ok h0 h->(b=af↔xX T T)->Q (av ⟨[ai b,aA 0]⟩) h)(o:Ok h0 h){a ns:List Mv}{k e:NN}(r:PR T T (uP T T) a k)(g:PR T T k ns e)(f:nN T T e)(c:wL (a++ns)≠wR (a++ns)):Q (av ⟨[ai ak,aA 0]⟩) h:=
 i ak h o ⟨λe=>(by cases e),λd=>absurd (Ag.1 d _ _ (r.app g) f) c⟩
def ahl(h0:aw)(kd kk:Nat)(T:cG)(f:Nat)(a:Option aF)(n c:Nat)(g:aw):Prop:=
 ∃e h b i,FI h0 kd kk T e h b (ae a n c) i g/\kn T e (uP T T) ([],[])/\(∀k d,Nd T T k->kn T e k d->sC T.aE.length k∈b\/DnD T e k)/\2*gr e+b.length=f
def ajm(h0:aw)(kd kk:Nat)(T:cG)(q:Nat)(r s:ah)(d:qk)(k:NN)(b:Option aF)(f:Nat)(j:List Ff)(t:Nat)(p:Nat)(a:Option aF)(n c i:Nat)(g:aw):Prop:=
 ∃e m h o,FI h0 kd kk T e m h (ae a n c) o g/\Im g (C6 kd kk m e o) q (tQ r s ak)/\ua g (C6 kd kk m e o) 3 r (d.1.map zV)/\ua g (C6 kd kk m e o) 3 s (d.2.map zV)/\Uu g (C6 kd kk m e o) 76 5 (ae b j.length f) (j.map Cr)/\
  kn T e (uP T T) ([],[])/\kn T e k d/\(∀l u,Nd T T l->kn T e l u->sC T.aE.length l∈h\/l=k\/DnD T e l)/\(∀w∈j.take i,StD T e d w)/\2*gr e+h.length+1<=t/\i<=j.length/\p=j.length-i
theorem tQ.all{x:ah}(h:g.get k=aa (tQ x v b)):aM au 72 g (pA k)=aa (aq ⟨[x,v,ai b]⟩):=by
 obtain⟨_,a⟩:=aiv;exact mr a agI Tf h (by simp)
theorem tQ.ld{x:ah}(h:g.get k=aa (tQ x v b)):aM au 27 g (pA k)=aa x/\aM au 27 g (cn k (0+1))=aa v/\aM au 4 g (cn k (0+2))=aa (ai b):=
 ⟨da fs lF h (by simp),da fs lF h (by simp),da q4 q4a h (by simp)⟩
theorem ahi(k o:Nat):bB au 72 (cn k o) 2=aa (cn k (o+2)):=by rfl
theorem ad8(k o:Nat):bB au 72 (cn k o) 0=aa (cn k (o+0)):=by rfl
section
variable {Q:VH} {h0:aw} {k1 kg kd kk:Nat} {T:cG} {ma:Option aF} {mn mc:Nat} {gl:List Bool}
theorem ahn(N:FC h0 k1 kg T ma mn mc gl)(hQ:∀(b:Bool) (g:aw),Ok h0 g->(b=af↔xX T T)->Q (av ⟨[ai b,aA 0]⟩) g){x3:Nat}{dl dr:ah}{d:qk}{k:NN}(hk:Nd T T k){b:Option aF}{f:Nat}{A:List Ff}(y5:∀w,w∈A↔Fl T T k w.1 w.2)(v3:A.length<=5000)(z3:nN T T k->d=([],[])){mz:Nat}{a:Option aF}{n c:Nat}{g:aw}(x0:ajm h0 kd kk T x3 dl dr d k b f A mz A.length a n c 0 g):
  cq je (pq 41895935) (iG k1 T.aE.length (aa ⟨kg,0,none⟩) (T.aE.length*T.aE.length) (T.aE.length*T.aE.length) kk kd (T.aE.length*T.aE.length) (T.aE.length*T.aE.length) (T.aE.length*T.aE.length) (T.aE.length*T.aE.length) x3 b A.length f a n c 0) g (fZ je (pq 1533) (pq 18431) (RR je (pq 18431) (GR (jk k1 T.aE.length (aa ⟨kg,0,none⟩) (T.aE.length*T.aE.length) (T.aE.length*T.aE.length) kk kd (T.aE.length*T.aE.length) (T.aE.length*T.aE.length) (T.aE.length*T.aE.length) (T.aE.length*T.aE.length)) (ahl h0 kd kk T)) mz (ez je (pq 10239) Q))):=by
 have z7:T.aE.length*T.aE.length<=90000:=dC N.hN N.hN;refine GI [] k1 T.aE.length (aa ⟨kg,0,none⟩) _ _ kk kd _ _ _ _ x3 b A.length f _ _ (ajm h0 kd kk T x3 dl dr d k b f A mz) _ (λv4 a n c i=>?_) A.length (i:=0) x0;clear x0 g;intro zz g x0;obtain⟨C,P,R,S,s,z,K,J,O,x6,L,all,Z,y8,hi,rfl⟩:=x0;refine ay (λq=>?_) (λq=>?_)
 ·have q:=dT q;obtain⟨⟨m,u⟩,hw⟩:∃w,A[i]?=aa w:=⟨_,gE (by omega)⟩
  have y6:=(y5 (m,u)).1 (aI hw);have l:=Cj N.gd N.gd hk y6;rw[cL (n:=A.length) (by omega) (by omega)];obtain⟨s,p⟩:=s.grow ((Ok.refl s.o.ok.wf).room 14);have z:=p _ _ z;have K:=K.fN p;have J:=J.fN p;have O:=O.fN p;clear p;generalize room g 14=r at*;obtain⟨z1,z2,i1,i2,i3⟩:=agl O.rd hw;obtain⟨x1,x2⟩:=kY (c:=T.aE.length*T.aE.length) (s.o.ok.ext _ _ N.gt) N.ajs (vB l.1 l.2);have dn:∀{x7:VS},ExD C x7->StD T x7 d (m,u)->∀w∈A.take (i+1),StD T x7 d w:=λhe hs w U=>by
   rw[(iI hw).2]at U;rcases bH.1 U with U|U
   ·exact(Z w U).ext he
   grind
  have ix:=wix N.hN l.1 l.2;refine⟨_,i1,_,aad _ _,_,i2 0 (by omega),_,i1,_,aae _ _,_,i2 1 (by omega),_,by grind,_,x2,ay (λq2=>?_) (λq2=>?_)⟩
  ·have u4:¬Co T T u:=λco=>by
    have:=(N.ajt u l.1 l.2).2 co
    grind[tb]
   exact nE (A.length-(i+1)) (by omega) ⟨C,P,R,S,s,z,K,J,O,x6,L,all,dn (λ_ _ h=>h) (λco=>absurd co u4),y8,by omega,rfl⟩
  have co:Co T T u:=(N.ajt u l.1 l.2).1 (by grind[tb]);obtain⟨ns,e,rn,fe⟩:=co;have co:Co T T u:=⟨ns,e,rn,fe⟩
  obtain⟨_,M,pr,hc,u0⟩:=s.LX k d hk L;have x4:=pr.snoc y6;rw[s.lt]at u0;obtain⟨y1,y2⟩:=ss hc;have l1:(wL M).length<=M.length:=eZ Mv.l _;have l2:(wR M).length<=M.length:=eZ Mv.r _;have e8:=(Ok.refl s.o.ok.wf).room 8;obtain⟨s8,c8⟩:=s.grow e8;have v0:=K;have u6:=J;obtain⟨_,r1,_⟩:=v0;obtain⟨_,r2,_⟩:=u6;obtain⟨a1,e1,rfl⟩:=r1.rM;obtain⟨a2,e2,rfl⟩:=r2.rM;refine⟨_,tQ.all (c8 _ _ z).1,_,i1,_,oU e8 i3,(aeR (x:=(m,u)) s8.o.ok.wf (K.fN c8).rd (J.fN c8).rd (by omega) (by omega)).mono ?_⟩;rintro v t ⟨x8,hr⟩;obtain⟨F,B,D,G,H,E,y,rfl,y4⟩:∃(F:Option aF)(B D:Nat)(G:Option aF)(H E:Nat)(y:Bool),v=aq ⟨[ae F B D,ae G H E,ai y]⟩/\((y=af/\ue d m=none)\/(y=ak/\∃j,ue d m=aa j/\qs (room r 8) t 3 (ae F B D) (j.1.map zV)/\qs (room r 8) t 3 (ae G H E) (j.2.map zV))):=by grind
  obtain⟨e5,b5⟩:=Hl s.o.ok.wf (by omega:6<8) x8 (tQ nA nA ak);have e6:Ok r ((dJ.set (r.ax+6) (tQ (ae F B D) (ae G H E) y)).app (bS t r.ax [(6,tQ nA nA ak)])):=e5.set _ (dg _ _) (e5.wf _ _ b5) s.o.ok.wf;have b6:((dJ.set (r.ax+6) (tQ (ae F B D) (ae G H E) y)).app (bS t r.ax [(6,tQ nA nA ak)])).get (r.ax+6)=aa (tQ (ae F B D) (ae G H E) y):=by
   show((bS t r.ax [(6,tQ nA nA ak)]).set _ _).get _=_;rw[aw.bZ,iP rfl]
  have st:aQ au 72 (pA (r.ax+6)) (aq ⟨[ae F B D,ae G H E,ai y]⟩) (bS t r.ax [(6,tQ nA nA ak)])=aa (undef,.set (r.ax+6) (tQ (ae F B D) (ae G H E) y)):=gL Tf rfl b5 rfl (by rfl);refine⟨_,rfl,_,agL,_,st,?_⟩;clear hr;have hr:(y=af/\ue d m=none)\/(y=ak/\∃j,ue d m=aa j/\ua ((dJ.set (r.ax+6) (tQ (ae F B D) (ae G H E) y)).app (bS t r.ax [(6,tQ nA nA ak)])) (C6 kd kk P C S) 3 (ae F B D) (j.1.map zV)/\ua ((dJ.set (r.ax+6) (tQ (ae F B D) (ae G H E) y)).app (bS t r.ax [(6,tQ nA nA ak)])) (C6 kd kk P C S) 3 (ae G H E) (j.2.map zV)):=by
   rcases y4 with h|⟨h,j,h1,h2,h3⟩
   ·grind
   ·exact .inr ⟨h,j,h1,qs.im (qs.set (by omega) h2 _ _) s.o,qs.im (qs.set (by omega) h3 _ _) s.o⟩
  have m6:=s.o.new (dg r.ax 6) b6;clear b5 e5 x8 st c8 s8 e8 y4;dsimp only;obtain⟨s,p⟩:=s.grow e6;have z:=p _ _ z;have K:=K.fN p;have J:=J.fN p;have O:=O.fN p;clear p e6 b6;generalize (dJ.set (r.ax+6) (tQ (ae F B D) (ae G H E) y)).app (bS t r.ax [(6,tQ nA nA ak)])=g2 at*;generalize r.ax+6=kx at*;obtain⟨s,p⟩:=s.grow ((Ok.refl s.o.ok.wf).room 30);have z:=p _ _ z;have m6:=p _ _ m6;have K:=K.fN p;have J:=J.fN p;have O:=O.fN p;have hr:(y=af/\ue d m=none)\/(y=ak/\∃j,ue d m=aa j/\ua (room g2 30) (C6 kd kk P C S) 3 (ae F B D) (j.1.map zV)/\ua (room g2 30) (C6 kd kk P C S) 3 (ae G H E) (j.2.map zV)):=hr.imp id λ⟨h,j,h1,h2,h3⟩=>⟨h,j,h1,h2.fN p,h3.fN p⟩
  clear p;generalize room g2 30=g3 at*;refine⟨_,ahi _ 0,_,(tQ.ld m6.1).2.2,ay (λq3=>?_) (λq3=>?_)⟩
  ·have hd:ue d m=none:=by
    rcases hr with⟨_,h⟩|⟨h,_⟩
    ·exact h
    ·grind
   exact U3 hQ s.o.ok x4 rn fe (UO (by grind[yY]))
  obtain⟨j,V,ra,rb⟩:∃j,ue d m=aa j/\ua g3 (C6 kd kk P C S) 3 (ae F B D) (j.1.map zV)/\ua g3 (C6 kd kk P C S) 3 (ae G H E) (j.2.map zV):=by grind
  subst q3;have y0:kZ (wL (M++[m])) (wR (M++[m]))=aa j:=by rw[yY (m:=m) hc];exact V
  have v9:=ss y0;have u9:(wL (M++[m])).length<=(M++[m]).length:=eZ Mv.l _;have u7:(wR (M++[m])).length<=(M++[m]).length:=eZ Mv.r _;rw[bg,bw]at u9 u7;obtain⟨j1,o,ho,j2⟩:=s.ajC l;rw[show aj an (aj an ((u.1:Int)*(T.aE.length:Int))+(u.2:Int))=_ from ix];refine⟨_,j1,_,j2,ay (λq4=>?_) (λq4=>?_)⟩
  ·obtain⟨I,rfl⟩:∃I,o=aa I:=by
    cases o with
    |none=>grind
    |some I=>grind
   have X:kn T C u I:=ho;obtain⟨t1,a5,n5,c5,b5,m5,e5,_,t2,t3,y9,y7,v8,v5⟩:=s.dly l X;have y3:j≠I->∀{g:aw},Ok h0 g->Q (av ⟨[ai ak,aA 0]⟩) g:=λz9 g o=>by
    obtain⟨_,w0,z0,z8,_⟩:=s.LX u I l X;rcases UQ x4 z0 y0 z8 z9 rn fe with Y|Y
    ·exact U3 hQ o x4 rn fe Y
    ·exact U3 hQ o z0 rn fe Y
   refine⟨_,Sm _,_,_,_,(tQ.ld m6.1).1,_,t1,_,ad8 _ _,_,_,_,t2,(QI s.o.ok.wf ra.rd y9.rd (by omega)).mono ?_⟩;rintro _ g4 ⟨rfl,o4⟩;obtain⟨s4,p⟩:=s.grow o4;obtain⟨t1,a6,n6,c6,b6,v6,e6,_,t2,t3,y9,y7,_,_⟩:=s4.dly l X;refine⟨_,rfl,ay (λq5=>y3 (λe=>?_) s4.o.ok) (λq5=>?_)⟩
   ·grind
   refine⟨_,M3 _ 0,_,_,_,(tQ.ld (p _ _ m6).1).2.1,_,t1,_,M3 _ _,_,_,_,t3,(QI s4.o.ok.wf (rb.fN p).rd y7.rd (by omega)).mono ?_⟩;rintro _ g5 ⟨rfl,o5⟩;obtain⟨s5,u8⟩:=s4.grow o5;have ct:=p.trans u8;obtain⟨j3,o3,u5,j4⟩:=s5.ajC l;obtain rfl:=aC (ho.symm.trans u5);refine⟨_,rfl,ay (λq6=>y3 (λe=>?_) s5.o.ok) (λq6=>⟨_,j3,_,j4,ay (λq7=>by grind) (λ_=>?_)⟩)⟩
   ·grind
   have v7:j=I:=Prod.ext (by grind) (by grind);exact nE (A.length-(i+1)) (by omega) ⟨C,P,R,S,s5,ct _ _ z,K.fN ct,J.fN ct,O.fN ct,x6,L,all,dn (λ_ _ h=>h) (λ_=>⟨j,V,by grind⟩),y8,by omega,rfl⟩
  ·obtain rfl:o=none:=by simp_all
   obtain⟨u1,s1,z5,u2,s2,b',n',c',u3,s3,z6,v1,s',x5⟩:=s.put N.w z7 l ho co x4 y0 (by grind) ra rb;refine⟨_,j1,_,j2,ay (λ_=>⟨_,j1,_,s1,_,tQ.all (z5 _ _ m6).1,_,ajw (vB l.1 l.2),_,s2,_,_,_,qi _,_,_,_,_,s3,?_⟩) (λq=>by cases q)⟩;have v2:=mW j ho;have he:=ExD.set ho j;have X:kn T (C.set (sC T.aE.length u) (aa j)) u j:=by
    unfold kn;rw[getElem?_set,iP rfl,iP (by grind)]
   refine nE (A.length-(i+1)) (by omega) ⟨_,z6,_,v1,s',x5 _ _ z,K.fN x5,J.fN x5,O.fN x5,he _ _ x6,he _ _ L,λk2 I z4 W=>?_,dn he (λ_=>⟨j,V,X⟩),by grind,by omega,rfl⟩;by_cases ek:sC T.aE.length u=sC T.aE.length k2
   ·grind
   ·have x9:kn T C k2 I:=by
     unfold kn at W⊢;rw[getElem?_set,iN ek]at W;exact W
    rcases all k2 I z4 x9 with Y|Y|Y
    ·grind
    ·grind
    ·exact .inr (.inr (Y.ext x9 he))
 ·have q:=dF q;rw[bm (by omega)]at Z;refine C8 (2*gr C+R.length) (by omega) ⟨C,P,R,S,s,x6,λu j l V=>?_,rfl⟩;rcases all u j l V with h|rfl|h
  ·exact .inl h
  ·refine .inr λI W=>?_;have:d=I:=aC (aC (L.symm.trans W));subst this;exact⟨z3,λm k2 st=>Z _ ((y5 (m,k2)).2 st)⟩
  grind
end
end
section
theorem ajV(b:0<n)(d:i<=1000000000):cm au .quo 3 (aA (i:Int)) (iA n)=aa (aA ((i/n:Nat):Int)):=by
 have a:((i:Int)).tdiv (n:Int)=((i/n:Nat):Int):=rfl;have c:=Nat.div_le_self i n
 grind[GV,cj]
theorem ajZ(a:0<n):cm au .rem 3 (aA (i:Int)) (iA n)=aa (aA ((i%n:Nat):Int)):=by grind[UF]
section
variable {Q:VH} {h0:aw} {k1 kg kd kk:Nat} {T:cG} {ma:Option aF} {mn mc:Nat} {gl:List Bool}
theorem ahm(t:FC h0 k1 kg T ma mn mc gl)(Y:∀(b:Bool) (g:aw),Ok h0 g->(b=af↔xX T T)->Q (av ⟨[ai b,aA 0]⟩) g){mz:Nat}{a:Option aF}{n c:Nat}{g:aw}(B:ahl h0 kd kk T mz a n c g):
  cq je (pq 18431) (jk k1 T.aE.length (aa ⟨kg,0,none⟩) (T.aE.length*T.aE.length) (T.aE.length*T.aE.length) kk kd (T.aE.length*T.aE.length) (T.aE.length*T.aE.length) (T.aE.length*T.aE.length) (T.aE.length*T.aE.length) a n c) g (ez je (pq 10239) Q):=by
 have x6:T.aE.length*T.aE.length<=90000:=dC t.hN t.hN;refine GH [] k1 T.aE.length (aa ⟨kg,0,none⟩) _ _ kk kd _ _ _ _ (ahl h0 kd kk T) _ (λmz a n c=>?_) _ B;clear B g;intro zz g B;obtain⟨tr,ds,o,Gq,s,S,all,rfl⟩:=B;obtain⟨_,_,V⟩:=s.td.rM;injection V with _ V _
 rw[aG]at V;refine ay (λq=>?_) (λq=>?_)
 ·have q:=dT q;obtain⟨i,m,rfl⟩:∃i m,o=i::m:=by
   cases o with
   |nil=>grind
   |cons i r=>grind
  obtain⟨k,d,e,rfl,K⟩:=s.tk i (cH ..);obtain⟨p,a',m',c',p1,p2,p3,s⟩:=s.pop;have hl:=vB e.1 e.2;have dm:=aaz e.2;have R:0<T.aE.length:=Nat.lt_of_le_of_lt (cr _) e.1;have qu:=ajV R (i:=sC T.aE.length k) (by omega);have re:=ajZ R (i:=sC T.aE.length k);rw[dm.1]at qu;rw[dm.2]at re;obtain⟨G,c8⟩:=s.grow ((Ok.refl s.o.ok.wf).room 8);obtain⟨t1,I,l,H,F,j,C,t2,_,_,N,M,_,_⟩:=G.dly e K;refine⟨_,p1,_,p2,_,_,_,p3,_,qu,_,re,_,t1,_,t2,_,agL,?_⟩;obtain⟨_,r1,_⟩:=id N;obtain⟨_,r2,_⟩:=id M;obtain⟨_,_,Z⟩:=r1.rM;obtain⟨_,_,h⟩:=r2.rM;injection Z with _ Z _
  injection h with _ h _
  rw[aG]at Z h;clear r1 r2 t1 t2;have e5:=(Ok.refl G.o.ok.wf).push (tQ nA nA ak);have b5:=cC (room g 8) (tQ nA nA ak);have st:aQ au 72 (pA (room g 8).ax) (aq ⟨[ae I l H,ae F j C,ai ak]⟩) ((room g 8).push (tQ nA nA ak))=aa (undef,.set (room g 8).ax (tQ (ae I l H) (ae F j C) ak)):=gL Tf rfl b5 rfl (by rfl);have e6:Ok (room g 8) ((dJ.set (room g 8).ax (tQ (ae I l H) (ae F j C) ak)).app ((room g 8).push (tQ nA nA ak))):=e5.set _ (aS _) (eD _) G.o.ok.wf;have b6:((dJ.set (room g 8).ax (tQ (ae I l H) (ae F j C) ak)).app ((room g 8).push (tQ nA nA ak))).get (room g 8).ax=aa (tQ (ae I l H) (ae F j C) ak):=by
   show(((room g 8).push _).set _ _).get _=_;rw[aw.bZ,iP rfl]
  refine⟨_,st,?_⟩;have L:=G.o.new (aS _) b6;obtain⟨s,z⟩:=G.grow e6;have N:=N.fN z;have M:=M.fN z;clear G c8 e5 b5 st e6 b6 z;dsimp only;generalize (dJ.set (room g 8).ax (tQ (ae I l H) (ae F j C) ak)).app ((room g 8).push (tQ nA nA ak))=g3 at*;generalize (room g 8).ax=x7 at*;obtain⟨x,hx,_,fx,_⟩:=nj e.1;obtain⟨y,hy,_,fy,_⟩:=nj e.2;have E:=t.mb.ok s.o.ok;obtain⟨_,_,_,_,_,d1,_,d3,_,_⟩:=E.row.K1 (Ok.refl s.o.ok.wf) hx;obtain⟨_,_,_,_,_,j1,_,j3,_,_⟩:=E.row.K1 (Ok.refl s.o.ok.wf) hy;obtain⟨_,O,pr,hc,x5⟩:=s.LX k d e K;rw[s.lt]at x5;obtain⟨z1,z2⟩:=ss hc;have l1:(wL O).length<=O.length:=eZ Mv.l _;have l2:(wR O).length<=O.length:=eZ Mv.r _;have ew:aj an ((l:Int)+(j:Int))=((l+j:Nat):Int):=by rw[cj (by omega) (by omega)];omega
  have x0:(!(x.f==[]))=af->(!(y.f==[]))=af->nN T T k:=λu v=>⟨jv.1 (by grind),jv.1 (by grind)⟩
  have J:((!(x.f==[]))=ak\/(!(y.f==[]))=ak)->¬nN T T k:=λu h=>by
   have a1:=jv.2 h.1;have a2:=jv.2 h.2
   grind
  refine⟨_,eR _,_,_,_,E.l3,_,d1,_,pk _ _,_,d3,ay (λU=>⟨_,eR _,_,_,_,E.l3,_,j1,_,pk _ _,_,j3,ay (λX=>⟨_,Sm _,_,_,_,(tQ.ld L.1).1,_,M3 _ 0,_,_,_,(tQ.ld L.1).2.1,ay (λA=>?_) (λA=>?_)⟩) (λX=>?_)⟩) (λU=>?_)⟩
  ·have A:=dT A;rw[ew]at A;refine U3 Y s.o.ok pr (.nil k) (x0 U X) ?_
   grind[UP]
  all_goals
   have W:nN T T k->d=([],[]):=by
    first
     |exact λh=>absurd h (J (.inl U))
     |exact λh=>absurd h (J (.inr X))
     |intro _
      have A:=dF A;rw[ew]at A;exact Prod.ext (aY (by omega)) (aY (by omega))
   refine⟨_,E.all,(LH s.o.ok.wf t.gd t.zA E.row e.1 e.2).mono ?_⟩;rintro v g4 ⟨ow,o4,ml⟩;have mm:∀w:Ff,w∈Qe (eA T k.1) (eA T k.2) k.1 k.2↔Fl T T k w.1 w.2:=λw=>Qc;have rm:=Uu.abh s.o ow;obtain⟨b,f,rfl⟩:=ow.rd.rM;obtain⟨s,z⟩:=s.grow o4;generalize Qe (eA T k.1) (eA T k.2) k.1 k.2=mv at*;rw[aG]at*;refine⟨_,_,_,rfl,ahn t Y e mm ml W ⟨tr,ds,m,Gq,s,z _ _ L,N.fN z,M.fN z,rm,S,K,λk' d' P x4=>?_,λw hw=>(by cases hw),by rw[bP];omega,cr _,rfl⟩⟩;rcases all k' d' P x4 with D|D
   ·rcases cO.1 D with D|D
    ·exact .inr (.inl (Ar P.2 e.2 D))
    ·exact .inl D
   grind
 ·have q:=dF q;have:o=[]:=aY (by omega);subst this;exact Y af g s.o.ok ⟨λ_=>WA t.gd S λk d e hd=>(all k d e hd).resolve_left (by simp),λ_=>rfl⟩
end
end
section
noncomputable def aim:TypeInfo:=(au.info? 72).getD default
theorem afD:au.info? 72=aa aim:=by rfl
theorem YT:aim.size=3:=by rfl
theorem Uc:aim.bytes=56:=by rfl
theorem aiz:zeroOf au 72=aa (aq ⟨[nA,nA,ai ak]⟩):=by rfl
theorem akZ(n:Nat)(a:n<=100000):cK au 70 (aA (n:Int)) (aA (n:Int))=aa (.cells (aH n [nA,nA,ai ak]).flatten 72 3 af,pw n n):=by
 unfold cK dz;dsimp only;rw[q70]
 try dsimp only
 change (match au.info? 72,zeroOf au 72 with
  |some i,aa z=>(if z.cells.size=i.size/\0<i.size/\(0:Int)<=(n:Int)/\(n:Int)<=(n:Int)/\(n:Int)*i.bytes<=140737488355328/\(n:Int)<=1099511627776 then aa (eE.cells (eO z.cells.toList (n:Int).toNat) 72 i.size af,λk=>ae (aa ⟨k,0,none⟩) (n:Int).toNat (n:Int).toNat)else none)
  |_,_=>none)=_
 rw[afD,aiz];dsimp only;rw[YT,Uc,iP ⟨rfl,by omega,by omega,fU _,by omega,by omega⟩];have e:((n:Int)).toNat=n:=by omega
 rw[e,show(aq ⟨[nA,nA,ai ak]⟩).cells.toList=[nA,nA,ai ak]from rfl,xW];rfl
theorem LM:∀{n j:Nat},j<n->QM (aH n [nA,nA,ai ak]).flatten j=[nA,nA,ai ak]
 |n+1,0,_=>by rfl
 |n+1,j+1,h=>by
  have:=LM (n:=n) (j:=j) (by omega)
  grind[QM]
theorem afG{M:cG}(a:fH M=af){n:Nat}(d:∀s∈M.aE,s.bG.length<=n):∀s∈(jz M).1.aE,s.bG.length<=n:=by
 by_cases c:kG M M.start.toNat
 ·grind[D9,afd]
 ·rw[xH a c];unfold ym;split
  ·grind
  ·intro s b;cases b
def agr(h:aw)(M:cG):VH:=λv g=>Ok h g/\∃(b:Bool)(e:Int),v=av ⟨[ai b,aA e]⟩/\((fH M=ak/\b=ak/\e=1)\/(fH M=af/\e=0/\(b=af↔Fe M)))
section
variable {h:aw} {M:cG} {a:Option aF} {n c:Nat}
theorem aeU(w:Wf h)(sm:Small M)(zA:∀s∈M.aE,s.bG.length<=30)(r:iY h (ae a n c) M.aE):aW 15 [aq ⟨dK M a n c⟩] h (agr h M):=by
 obtain⟨u,ok⟩:=ni w r;refine aeT (dK M a n c) h _ ⟨_,qx M a n c,_,u.all,(abO ok.wf sm u.row).mono ?_⟩;have x9:h.ax<(h.push (Bm M a n c)).ax:=eD _;generalize h.push (Bm M a n c)=g1 at*;rintro _ x ⟨l,t,m,ps,rfl,x4,A,C⟩;have S:=ok.trans C;have st:aQ au 24 (pA h.ax) (aq ⟨dK (jz M).1 l t m⟩) x=aa (undef,.set h.ax (Bm (jz M).1 l t m)):=gL (cs0:=dK M a n c) sN rfl (u.ok C).box rfl (by rfl);refine⟨_,_,rfl,_,st,?_⟩;have H:Ok h ((dJ.set h.ax (Bm (jz M).1 l t m)).app x):=S.set _ (aS _) (by have:=C.nx;omega) w;have b3:((dJ.set h.ax (Bm (jz M).1 l t m)).app x).get h.ax=aa (Bm (jz M).1 l t m):=by
  show(x.set _ _).get _=_;rw[aw.bZ,iP rfl]
 have y:∀(k:Nat)(B:eE),g1.ax<=k->x.get k=aa B->((dJ.set h.ax (Bm (jz M).1 l t m)).app x).get k=aa B:=λk B v J=>by
  show(x.set _ _).get _=_;rw[aw.bZ,iN (by omega)];omega
 have Q:=mE.st (⟨A.row.nY λk B V J=>y k B (A.row.lt C.wf V).2 J,λi p hp=>(A.bG i p hp).nY λk B V J=>y k B ((A.bG i p hp).lt C.wf V).2 J,A.ne,A.Oy⟩:mE g1 ((dJ.set h.ax (Bm (jz M).1 l t m)).app x) (ae l t m) ps);rw[x4]at Q;clear y A st u ok C x9 S;generalize (dJ.set h.ax (Bm (jz M).1 l t m)).app x=g3 at*
 cases D:fH M with
 |false=>
  rw[AJ D];exact ay (λ_=>⟨H,_,_,rfl,.inl ⟨D,rfl,rfl⟩⟩) (λq=>by cases q)
 | true=>
  obtain⟨t1,N,x5,t4,_⟩:=Ro D sm;have zT:=afG D zA;rw[t1];generalize (jz M).1=T at*;refine ay (λq=>by cases q) (λ_=>?_);have u:MB g3 h.ax T l t m:=⟨b3,Q⟩
  have hn:=u.len;subst hn;have G:=x5.OB;have y5:T.aE.length*T.aE.length<=90000:=dC G G;refine⟨_,eR _,_,_,_,u.l3,_,u.all,(abL H.wf N G zT u.row).mono ?_⟩;rintro _ I ⟨kg,gl,rfl,gt,Y,F,z⟩;have O:FC I h.ax kg T l T.aE.length m gl:=⟨F.wf,N,zT,G,u.ok F,gt,Y,z⟩
  have y0:=H.trans F;have x3:=N.oz;have y4:=N.pY;have x7:(T.start.toNat:Int)=T.start:=Int.toNat_of_nonneg x3;have v:Nd T T (uP T T):=⟨by show T.start.toNat<_;omega,by show T.start.toNat<_;omega⟩
  have K:=vB v.1 v.2;have ew:aj an ((T.aE.length:Int)*(T.aE.length:Int))=((T.aE.length*T.aE.length:Nat):Int):=by
   rw[<-gW,cj (n:=((T.aE.length*T.aE.length:Nat):Int)) (by omega) (by omega)]
  have ix:aj an (aj an (T.start*(T.aE.length:Int))+T.start)=((sC T.aE.length (uP T T):Nat):Int):=by
   have:=wix G v.1 v.2;unfold uP at this⊢;rw[x7]at this;exact this
  have hQ:∀(b:Bool)(g:aw),Ok I g->(b=af↔xX T T)->agr h M (av ⟨[ai b,aA 0]⟩) g:=λb g o e=>⟨y0.trans o,b,0,rfl,.inr ⟨D,rfl,e.trans t4.fu⟩⟩
  refine⟨_,_,_,rfl,?_⟩;dsimp only;rw[ew];obtain⟨o5,c5⟩:=(OL.nil (Ok.refl F.wf)).push (.cells ((aH (T.aE.length*T.aE.length) ak).map ai) 4 1 af);refine⟨_,_,_,Xj _ (by omega),_,_,_,akZ _ (by omega),?_⟩;change xP _ _;generalize y1:I.ax=X at*;generalize I.push (.cells ((aH (T.aE.length*T.aE.length) ak).map ai) 4 1 af)=g5 at*;obtain⟨E,c6⟩:=o5.push (.cells (aH (T.aE.length*T.aE.length) [nA,nA,ai ak]).flatten 72 3 af);generalize y3:g5.ax=kd at*;generalize g5.push (.cells (aH (T.aE.length*T.aE.length) [nA,nA,ai ak]).flatten 72 3 af)=g6 at*;have U:=O.mb.ok E.ok;obtain⟨x1,x2⟩:=kY (c:=T.aE.length*T.aE.length) (E.ok.ext _ _ O.gt) O.ajs K;refine⟨_,nV _,_,U.l1,_,nV _,_,U.l1,_,by grind,_,x2,ay (λq=>?_) (λq=>?_)⟩
  ·refine hQ af g6 E.ok ⟨λ_=>Ag.2 λms e rr f=>?_,λ_=>rfl⟩;have:=(z _ v.1 v.2).2 ⟨ms,e,rr,f⟩
   grind[tb]
  have co:=(z _ v.1 v.2).1 (by grind[tb]);rw[ix];obtain⟨i,Z⟩:∃i,i=sC T.aE.length (uP T T):=⟨_,rfl⟩
  rw[<-Z]at K⊢;have e1:((aH (T.aE.length*T.aE.length) ak).map ai).set i (ai af)=((aH (T.aE.length*T.aE.length) (none:Option qk)).set i (aa ([],[]))).map kB:=by
   rw[map_set,List.map_replicate,List.map_replicate];rfl
  have x6:(aH (T.aE.length*T.aE.length) (none:Option qk))[i]?=aa none:=by rw[List.getElem?_replicate,iP K]
  have y2:=mW (([],[]):qk) x6;have x0:=IP (aH (T.aE.length*T.aE.length) (none:Option qk));have R:∀{j:Nat}{d:qk},((aH (T.aE.length*T.aE.length) (none:Option qk)).set i (aa ([],[])))[j]?=aa (aa d)->j=i/\d=([],[]):=λ{j d} hj=>by grind
  have x8:((aH (T.aE.length*T.aE.length) (none:Option qk)).set i (aa ([],[])))[i]?=aa (aa ([],[])):=by
   rw[getElem?_set,iP rfl,iP (by grind)]
  rw[bE]at x0;obtain⟨o7,_⟩:=E.uR F.wf 0 rfl (.cells (((aH (T.aE.length*T.aE.length) ak).map ai).set i (ai af)) 4 1 af);refine⟨_,sy q68 Te K,_,eu Te (k:=X) (E.get 0 rfl) (by grind) rfl rfl,_,_,_,qi _,?_⟩;generalize (dJ.set X (.cells (((aH (T.aE.length*T.aE.length) ak).map ai).set i (ai af)) 4 1 af)).app g6=g7 at*;obtain⟨o8,_⟩:=o7.push (.cells [iv i] 3 1 af);rw[e1]at o8;obtain⟨o9,_⟩:=OL.perm (L':=C6 kd X (aH (T.aE.length*T.aE.length) [nA,nA,ai ak]).flatten ((aH (T.aE.length*T.aE.length) (none:Option qk)).set i (aa ([],[]))) [(g7.ax,.cells [iv i] 3 1 af)]) o8 (List.Perm.swap _ _ _);have ir:∀{g:aw}{L:List gf},ua g L 3 nA ([].map zV):=⟨[],iq.nil 3,λp hp=>by grind⟩
  have W:kn T ((aH (T.aE.length*T.aE.length) (none:Option qk)).set i (aa ([],[]))) (uP T T) ([],[]):=by unfold kn;rw[<-Z];exact x8
  refine ahm O hQ (mz:=2*gr ((aH (T.aE.length*T.aE.length) (none:Option qk)).set i (aa ([],[])))+1) ⟨_,_,[i],_,⟨o9,by simp,by simp[List.length_flatten];omega,λj d hj=>?_,kK.made (rs:=[[iv i]]) (by simp) (show 1<ft by decide +kernel),λk d P hd=>?_,λj hj=>?_,by grind⟩,W,λk d P hd=>?_,rfl⟩
  ·grind[LM]
  ·obtain⟨e,rfl⟩:=R hd;obtain rfl:=Ar P.2 v.2 (e.trans Z);exact⟨co,[],.nil _,rfl,by grind⟩
  ·grind
  ·obtain⟨e,rfl⟩:=R hd
   grind
end
end
noncomputable def aeS:FD:=gT Tryz.f53 []
theorem QF(s i k:Nat)(e:OA)(x f:Nat)(y:OA)(z u:Nat)(h:aw)(Q:VH)(a:Q (aA (aj an (aj an (aj an (aj an ((s:Int)*aj an ((x:Int)+1))+(i:Int))*aj an ((z:Int)+1))+(k:Int)))) h):aW 53 [(iA s),(iA i),(iA k),(ae e x f),(ae y z u)] h Q:=gZ aeS Tryz.func53 (bF a)
noncomputable def jf:FD:=gT Tryz.f18 [((pq 287),[1,2,3,8,9]),((pq 163103),[1,2,3,8,9,11,12,13,14])]
abbrev jm(e:OA)(x f:Nat)(y:OA)(z u d b R g:Nat)(a:OA)(n c:Nat):LV:=[(ae e x f),(ae y z u),(pA d),(sA b R g),(ae a n c)]
abbrev eH(e:OA)(x f:Nat)(y:OA)(z u d b R g s i k:Nat)(a:OA)(n c j:Nat):LV:=[(ae e x f),(ae y z u),(pA d),(sA b R g),(ae a n c),(iA s),(iA i),(iA k),(iA j)]
theorem aeV(j:LV)(e:OA)(x f:Nat)(y:OA)(z u:Nat)(h:aw)(Q:VH)(v:xN (iF au 24 (aq ⟨j⟩)) h λB b=>mh 24 (pA (h.ax)) 3 22 b λD i E=>xR (cK au 68 (aA (aj an (aj an ((i:Int)*aj an ((x:Int)+1))*aj an ((z:Int)+1)))) (aA (aj an (aj an ((i:Int)*aj an ((x:Int)+1))*aj an ((z:Int)+1))))) b λC s k a=>ky 24 (pA (h.ax)) 1 a λq=>xA (cI au 78 [(0,(aA q)),(1,(aA 0)),(2,(aA 0))]) λn=>xR (bC au 79 1 [(0,(aq ⟨n⟩))]) a λA l p d=>ky 24 (pA (h.ax)) 1 d λo=>aW 53 [(aA o),(aA 0),(aA 0),(ae e x f),(ae y z u)] d λr c=>yI an r λt=>xP (aZ au 68 (sA (b.ax) s k) (aA t)) λg=>xU (aQ au 4 (bN g) (ai af) c) c λw m=>cq jf (pq 287) (jm e x f y z u (h.ax) (b.ax) s k (aa ⟨a.ax,0,none⟩) l p) m (ez jf (pq 159) Q)):aW 18 [(aq ⟨j⟩),(ae e x f),(ae y z u)] h Q:=gZ jf Tryz.func18 (bF v)
theorem GJ(H:LV)(e:OA)(x f:Nat)(y:OA)(z u:Nat)(i j R k:Nat)(d:Nat->OA->Nat->Nat->aw->Prop)(Q:VH)(step:∀(g:Nat) (a:OA) (n c:Nat) (D:Nat->ah) (h:aw),d g a n c h->cp (decide ((n:Int)>0)) (qX xA 79 (ae a n c) (aA 0) 78 h λA=>xN (cD au 78) h λG s=>xU (aQ au 78 (pA (h.ax)) (aq ⟨A⟩) s) s λF b=>xL (cY au 79 (ae a n c) (aa (aA 1)) none none b) λq p r=>vX 78 (pA (h.ax)) (aA 0) (room b 9) λl=>vX 78 (pA (h.ax)) (aA 1) (room b 9) λo=>vX 78 (pA (h.ax)) (aA 2) (room b 9) λm=>cp ((o==(x:Int))) (cp ((m==(z:Int))) (mh 24 (pA i) 3 22 (room b 9) λC E B=>ve 22 (ae C E B) (aA l) 44 0 λw=>xS (aM au 9 (room b 9) (bN w)) λv=>cp (!((v:LB)==[])) (Q (ai af) (room b 9)) (cq jf (pq 163103) [(ae e x f),(ae y z u),(pA i),(sA j R k),(ae q p r),(aA l),(aA o),(aA m),(aA 0)] (room b 9) (fZ jf (pq 381) (pq 287) (RR jf (pq 287) (GR (jm e x f y z u i j R k) d) g (ez jf (pq 159) Q))))) (cq jf (pq 163103) [(ae e x f),(ae y z u),(pA i),(sA j R k),(ae q p r),(aA l),(aA o),(aA m),(aA 0)] (room b 9) (fZ jf (pq 381) (pq 287) (RR jf (pq 287) (GR (jm e x f y z u i j R k) d) g (ez jf (pq 159) Q))))) (cq jf (pq 163103) [(ae e x f),(ae y z u),(pA i),(sA j R k),(ae q p r),(aA l),(aA o),(aA m),(aA 0)] (room b 9) (fZ jf (pq 381) (pq 287) (RR jf (pq 287) (GR (jm e x f y z u i j R k) d) g (ez jf (pq 159) Q))))) (Q (ai ak) h))(g:Nat){a:OA}{n c:Nat}{h:aw}(t:d g a n c h):cq jf (pq 287) (jm e x f y z u i j R k a n c) h (ez jf (pq 159) Q):=
 Jj (jm e x f y z u i j R k) d (λg a n c D h t=>bF (step g a n c D h t)) g t
theorem GK(mv:LV)(e:OA)(x f:Nat)(y:OA)(z u:Nat)(l b R d s i k:Nat)(J:Nat->OA->Nat->Nat->aw->Prop)(mz:Nat)(g:Nat->OA->Nat->Nat->Nat->aw->Prop)(Q:VH)(step:∀(o:Nat) (a:OA) (n c j:Nat) (zz:Nat->ah) (h:aw),g o a n c j h->mh 24 (pA l) 3 22 h λw2 w3 w6=>ve 22 (ae w2 w3 w6) (iA s) 44 1 λw0=>xL (aM au 42 h (bN w0)) λq0 u6 j8=>cp (decide ((j:Int)<(u6:Int))) (mh 24 (pA l) 3 22 h λu1 u2 w4=>ve 22 (ae u1 u2 w4) (iA s) 44 1 λv9=>xL (aM au 42 h (bN v9)) λw5 v4 w1=>qX xA 42 (ae w5 v4 w1) (iA j) 46 h λv3=>xN (cD au 46) h λq2 L=>xU (aQ au 46 (pA (h.ax)) (aq ⟨v3⟩) L) L λq1 m=>ky 46 (pA (h.ax)) 0 m λv8=>cp ((v8 !=0)) (cp (((i:Int)==(x:Int))) (cB (sk (eH e x f y z u l b R d s i k) g) o [(ae e x f),(ae y z u),(pA l),(sA b R d),(ae a n c),(iA s),(iA i),(iA k),(aA (aj an ((j:Int)+1)))] (room m 13)) (vX 27 (ae e x f) (iA i) (room m 13) λv7=>ky 46 (pA (h.ax)) 0 (room m 13) λv6=>cp ((v7 !=v6)) (cB (sk (eH e x f y z u l b R d s i k) g) o [(ae e x f),(ae y z u),(pA l),(sA b R d),(ae a n c),(iA s),(iA i),(iA k),(aA (aj an ((j:Int)+1)))] (room m 13)) (ky 46 (pA (h.ax)) 1 (room m 13) λv5=>cp ((v5 !=0)) (cp (((k:Int)==(z:Int))) (cB (sk (eH e x f y z u l b R d s i k) g) o [(ae e x f),(ae y z u),(pA l),(sA b R d),(ae a n c),(iA s),(iA i),(iA k),(aA (aj an ((j:Int)+1)))] (room (room m 13) 13)) (vX 27 (ae y z u) (iA k) (room (room m 13) 13) λu7=>ky 46 (pA (h.ax)) 1 (room (room m 13) 13) λu8=>cp ((u7 !=u8)) (cB (sk (eH e x f y z u l b R d s i k) g) o [(ae e x f),(ae y z u),(pA l),(sA b R d),(ae a n c),(iA s),(iA i),(iA k),(aA (aj an ((j:Int)+1)))] (room (room m 13) 13)) (ky 46 (pA (h.ax)) 3 (room (room m 13) 13) λv0=>aW 53 [(aA v0),(aA (aj an ((i:Int)+1))),(aA (aj an ((k:Int)+1))),(ae e x f),(ae y z u)] (room (room m 13) 13) λv2 A=>yI an v2 λK=>qX xB 68 (sA b R d) (aA K) 4 A λu5=>cp (!u5) (xP (aZ au 68 (sA b R d) (aA K)) λu4=>xU (aQ au 4 (bN u4) (ai af) A) A λq3 G=>ky 46 (pA (h.ax)) 3 G λu9=>xA (cI au 78 [(0,(aA u9)),(1,(aA (aj an ((i:Int)+1)))),(2,(aA (aj an ((k:Int)+1))))]) λu3=>xR (bC au 79 1 [(0,(aq ⟨u3⟩))]) G λj9 w7 v1 I=>xE (bY au 79 79 (ae a n c) (sA (G.ax) w7 v1) I) I λu0 y6 z2 j1 S=>cB (sk (eH e x f y z u l b R d s i k) g) o [(ae e x f),(ae y z u),(pA l),(sA b R d),(ae u0 y6 z2),(iA s),(iA i),(iA k),(aA (aj an ((j:Int)+1)))] S) (cB (sk (eH e x f y z u l b R d s i k) g) o [(ae e x f),(ae y z u),(pA l),(sA b R d),(ae a n c),(iA s),(iA i),(iA k),(aA (aj an ((j:Int)+1)))] A)))) (ky 46 (pA (h.ax)) 3 (room m 13) λy9=>aW 53 [(aA y9),(aA (aj an ((i:Int)+1))),(iA k),(ae e x f),(ae y z u)] (room m 13) λx2 q=>yI an x2 λC=>qX xB 68 (sA b R d) (aA C) 4 q λx6=>cp (!x6) (xP (aZ au 68 (sA b R d) (aA C)) λy7=>xU (aQ au 4 (bN y7) (ai af) q) q λw8 w=>ky 46 (pA (h.ax)) 3 w λz9=>xA (cI au 78 [(0,(aA z9)),(1,(aA (aj an ((i:Int)+1)))),(2,(iA k))]) λz0=>xR (bC au 79 1 [(0,(aq ⟨z0⟩))]) w λw9 y3 z6 D=>xE (bY au 79 79 (ae a n c) (sA (w.ax) y3 z6) D) D λM W U j5 z1=>cB (sk (eH e x f y z u l b R d s i k) g) o [(ae e x f),(ae y z u),(pA l),(sA b R d),(ae M W U),(iA s),(iA i),(iA k),(aA (aj an ((j:Int)+1)))] z1) (cB (sk (eH e x f y z u l b R d s i k) g) o [(ae e x f),(ae y z u),(pA l),(sA b R d),(ae a n c),(iA s),(iA i),(iA k),(aA (aj an ((j:Int)+1)))] q))))) (ky 46 (pA (h.ax)) 1 m λz8=>cp ((z8 !=0)) (cp (((k:Int)==(z:Int))) (cB (sk (eH e x f y z u l b R d s i k) g) o [(ae e x f),(ae y z u),(pA l),(sA b R d),(ae a n c),(iA s),(iA i),(iA k),(aA (aj an ((j:Int)+1)))] (room m 13)) (vX 27 (ae y z u) (iA k) (room m 13) λz3=>ky 46 (pA (h.ax)) 1 (room m 13) λV=>cp ((z3 !=V)) (cB (sk (eH e x f y z u l b R d s i k) g) o [(ae e x f),(ae y z u),(pA l),(sA b R d),(ae a n c),(iA s),(iA i),(iA k),(aA (aj an ((j:Int)+1)))] (room m 13)) (ky 46 (pA (h.ax)) 3 (room m 13) λy4=>aW 53 [(aA y4),(iA i),(aA (aj an ((k:Int)+1))),(ae e x f),(ae y z u)] (room m 13) λx5 p=>yI an x5 λF=>qX xB 68 (sA b R d) (aA F) 4 p λX=>cp (!X) (xP (aZ au 68 (sA b R d) (aA F)) λy1=>xU (aQ au 4 (bN y1) (ai af) p) p λj3 v=>ky 46 (pA (h.ax)) 3 v λx3=>xA (cI au 78 [(0,(aA x3)),(1,(iA i)),(2,(aA (aj an ((k:Int)+1))))]) λx0=>xR (bC au 79 1 [(0,(aq ⟨x0⟩))]) v λj2 x7 T H=>xE (bY au 79 79 (ae a n c) (sA (v.ax) x7 T) H) H λy5 y8 x1 j6 y2=>cB (sk (eH e x f y z u l b R d s i k) g) o [(ae e x f),(ae y z u),(pA l),(sA b R d),(ae y5 y8 x1),(iA s),(iA i),(iA k),(aA (aj an ((j:Int)+1)))] y2) (cB (sk (eH e x f y z u l b R d s i k) g) o [(ae e x f),(ae y z u),(pA l),(sA b R d),(ae a n c),(iA s),(iA i),(iA k),(aA (aj an ((j:Int)+1)))] p)))) (ky 46 (pA (h.ax)) 3 m λN=>aW 53 [(aA N),(iA i),(iA k),(ae e x f),(ae y z u)] m λP r=>yI an P λB=>qX xB 68 (sA b R d) (aA B) 4 r λZ=>cp (!Z) (xP (aZ au 68 (sA b R d) (aA B)) λz7=>xU (aQ au 4 (bN z7) (ai af) r) r λj7 t=>ky 46 (pA (h.ax)) 3 t λx9=>xA (cI au 78 [(0,(aA x9)),(1,(iA i)),(2,(iA k))]) λx8=>xR (bC au 79 1 [(0,(aq ⟨x8⟩))]) t λj4 O z5 E=>xE (bY au 79 79 (ae a n c) (sA (t.ax) O z5) E) E λY y0 z4 j0 x4=>cB (sk (eH e x f y z u l b R d s i k) g) o [(ae e x f),(ae y z u),(pA l),(sA b R d),(ae Y y0 z4),(iA s),(iA i),(iA k),(aA (aj an ((j:Int)+1)))] x4) (cB (sk (eH e x f y z u l b R d s i k) g) o [(ae e x f),(ae y z u),(pA l),(sA b R d),(ae a n c),(iA s),(iA i),(iA k),(aA (aj an ((j:Int)+1)))] r)))) (cB (GR (jm e x f y z u l b R d) J) mz [(ae e x f),(ae y z u),(pA l),(sA b R d),(ae a n c)] h))(o:Nat){a:OA}{n c j:Nat}{h:aw}(hi:g o a n c j h):cq jf (pq 163103) (eH e x f y z u l b R d s i k a n c j) h (fZ jf (pq 381) (pq 287) (RR jf (pq 287) (GR (jm e x f y z u l b R d) J) mz (ez jf (pq 159) Q))):=
 uD (eH e x f y z u l b R d s i k) g (λo a n c j zz h hi=>bF (step o a n c j zz h hi)) o hi
noncomputable def aaG:FD:=gT Tryz.f3 []
theorem Xc(B:LV)(h:aw)(Q:VH)(hx:xN (iF au 24 (aq ⟨B⟩)) h λB1 L=>xA (aM au 24 L (pA (h.ax))) λc3=>aW 12 [(aq ⟨c3⟩)] L λv4 A=>yB v4 λb6=>cp b6 (aW 13 [] A λv7 h8=>yB v7 λb9=>Q (ai b9) h8) (xA (aM au 24 A (pA (h.ax))) λy1=>aW 14 [(aq ⟨y1⟩)] A λH s=>∃p:Bool,∃(g:OA) (c j:Nat),∃(m:OA) (b k:Nat),∃(l:OA) (d f:Nat),∃n:Int,H=(av ⟨[(ai p),(ae g c j),(ae m b k),(ae l d f),(aA n)]⟩)/\xA (aM au 24 s (pA (h.ax))) λx7=>aW 15 [(aq ⟨x7⟩)] s λx1 a=>∃y:Bool,∃u:Int,x1=(av ⟨[(ai y),(aA u)]⟩)/\cp ((n !=u)) (Q (ai ak) a) (cp (!(p==y)) (Q (ai ak) a) (cp p (cp (((c:Int)==0)) (cp (((b:Int)==0)) (cp (((d:Int)==0)) (aW 13 [] a λJ x2=>yB J λV=>Q (ai V) x2) (Q (ai ak) a)) (Q (ai ak) a)) (Q (ai ak) a)) (cp ((n !=0)) (cp (((c:Int)==0)) (cp (((b:Int)==0)) (cp (((d:Int)==0)) (aW 13 [] a λT I=>yB T λU=>Q (ai U) I) (Q (ai ak) a)) (Q (ai ak) a)) (Q (ai ak) a)) (aW 16 [(ae g c j)] a λX E=>∃x:Bool,∃w:Bool,X=(av ⟨[(ai x),(ai w)]⟩)/\aW 16 [(ae m b k)] E λM y0=>∃t:Bool,∃v:Bool,M=(av ⟨[(ai t),(ai v)]⟩)/\aW 16 [(ae l d f)] y0 λy2 i=>∃r:Bool,∃q:Bool,y2=(av ⟨[(ai r),(ai q)]⟩)/\cp (!x) (Q (ai ak) i) (cp (!t) (Q (ai ak) i) (cp (!r) (Q (ai ak) i) (aW 17 [(ae m b k),(ae l d f)] i λS e=>yB S λx0=>cp x0 (Q (ai ak) e) (cp w (aW 13 [] e λR P=>yB R λF=>Q (ai F) P) (cp v (aW 13 [] e λC O=>yB C λW=>Q (ai W) O) (cp q (aW 13 [] e λx8 Y=>yB x8 λG=>Q (ai G) Y) (xA (aM au 24 e (pA (h.ax))) λx5=>aW 18 [(aq ⟨x5⟩),(ae g c j),(ae m b k)] e λx6 o=>yB x6 λx9=>cp x9 (xA (aM au 24 o (pA (h.ax))) λN=>aW 18 [(aq ⟨N⟩),(ae g c j),(ae l d f)] o λx4 z=>yB x4 λD=>cp D (aW 13 [] z λK x3=>yB K λZ=>Q (ai Z) x3) (Q (ai ak) z)) (Q (ai ak) o)))))))))))))):aW 3 [(aq ⟨B⟩)] h Q:=gZ aaG Tryz.func3 (bF hx)
variable{P:aO}{T:aD}
section
theorem ajL(n:Nat)(a:n<=1000000000):cK au 68 (aA (n:Int)) (aA (n:Int))=aa (.cells ((aH n ak).map ai) 4 1 af,pw n n):=by
 unfold cK dz;dsimp only;rw[TQ]
 try dsimp only
 change (match au.info? 4,zeroOf au 4 with
  |some i,aa z=>(if z.cells.size=i.size/\0<i.size/\(0:Int)<=(n:Int)/\(n:Int)<=(n:Int)/\(n:Int)*i.bytes<=140737488355328/\(n:Int)<=1099511627776 then aa (eE.cells (eO z.cells.toList (n:Int).toNat) 4 i.size af,λk=>ae (aa ⟨k,0,none⟩) (n:Int).toNat (n:Int).toNat)else none)
  |_,_=>none)=_
 rw[acM,agz];dsimp only;rw[Rn,Me,iP ⟨rfl,by omega,by omega,fU _,by omega,by omega⟩];have e:((n:Int)).toNat=n:=by omega
 rw[e,show(ai ak).cells.toList=[ai ak]from rfl,qh,List.map_replicate];rfl
theorem kK.tail{t:aD}(w:P.underlying t=aa (.slice T))(l:cd P T=aa n){g:aw}{v:ah}{x:List ah}{d:List (List ah)}{G:gf}(r:kK T n v (x::d) G)(u:∀p∈G,g.get p.1=aa p.2):∃(a:Option aF)(q c:Nat),cY P t v (aa (aA 1)) none none g=aa (ae a q c)/\kK T n (ae a q c) d G:=by
 obtain⟨j,⟨_,y,_⟩|⟨k,b,cs,c,rfl,rfl,i,A,e⟩⟩:=r
 ·grind
 ·have s:=u _ (aX.2 rfl);have m:=j x (cH ..);rw[bP]at i e;have o:=xw w l (k:=k) (off:=b) s (n:=(x::d).length) (z:=1) (by rw[bP];omega) (by rw[bP];exact e);have f:dk (c-1)+1=dk c:=by
   unfold dk at e⊢;by_cases f:ft<=c
   ·rw[iP f]at e⊢;rw[iP (by omega)];omega
   ·rw[iN f]at e⊢;rw[iN (by omega)];omega
  refine⟨_,_,_,o,λr h=>j r (cJ _ h),.inr ⟨k,b+1*n,cs,c-1,rfl,rfl,?_,?_,by omega⟩⟩
  ·have:=congrArg (List.drop n) i;rw[List.drop_take,List.drop_drop,fg,show(x++d.flatten).drop n=d.flatten by rw[<-m,List.drop_left],cM,dw,Nat.add_sub_cancel]at this;rw[dw];exact this
  grind
theorem q79:au.underlying 79=aa (.slice 78):=by rfl
theorem ahL:cd au 78=aa 3:=by rfl
theorem alv:∃d,au.underlying 78=aa d:=⟨_,(by rfl:au.underlying 78=aa ((au.underlying 78).getD .bool))⟩
theorem akF:Go.Ab.isAgg au 78=af:=by rfl
noncomputable def ahZ:TypeInfo:=(gF au 78).getD default
theorem ae8:gF au 78=aa ahZ:=by rfl
theorem Yb:ahZ.size=3:=by rfl
theorem Ts:ahZ.bytes=24:=by rfl
theorem alr:fD au 79=af:=by rfl
abbrev Hq:=Nat×Nat×Nat
def c3(c:Hq):List ah:=[iv c.1,iv c.2.1,iv c.2.2]
theorem af1(s i k:Int):cI au 78 [(0,aA s),(1,aA i),(2,aA k)]=aa (aq ⟨[aA s,aA i,aA k]⟩):=by rfl
theorem ai2(s i k:Int):bC au 79 1 [(0,aq ⟨[aA s,aA i,aA k]⟩)]=aa (.cells [aA s,aA i,aA k] 78 3 af,pw 1 1):=by rfl
theorem akH:cD au 78=aa (.cells [aA 0,aA 0,aA 0] 78 0 af,jL):=by rfl
theorem akJ(k:Nat):aZ au 78 (pA k) (aA 0)=aa (pA k)/\aZ au 78 (pA k) (aA 1)=aa (cn k 1)/\aZ au 78 (pA k) (aA 2)=aa (cn k 2):=⟨by rfl,by rfl,by rfl⟩
def cx(X Y:Nat)(c:Hq):Nat:=(c.1*(X+1)+c.2.1)*(Y+1)+c.2.2
def Nf(N X Y:Nat)(c:Hq):Prop:=c.1<N/\c.2.1<=X/\c.2.2<=Y
theorem ZT{N X Y:Nat}{c d:Hq}(h:Nf N X Y c)(f:Nf N X Y d)(e:cx X Y c=cx X Y d):c=d:=by
 have a:=Ar (N:=Y+1) (k:=(c.1*(X+1)+c.2.1,c.2.2)) (k':=(d.1*(X+1)+d.2.1,d.2.2)) (by have:=h.2.2;show _<_;omega) (by have:=f.2.2;show _<_;omega) e;injection a with a b
 have a:=Ar (N:=X+1) (k:=(c.1,c.2.1)) (k':=(d.1,d.2.1)) (by have:=h.2.1;show _<_;omega) (by have:=f.2.1;show _<_;omega) a
 grind
theorem Pf{N X Y:Nat}{c:Hq}(h:Nf N X Y c):cx X Y c<N*(X+1)*(Y+1):=by
 obtain⟨d,f,e⟩:=h;have a:(c.1+1)*(X+1)<=N*(X+1):=bJ _ d;rw[cM,dw]at a;have b:(c.1*(X+1)+c.2.1+1)*(Y+1)<=N*(X+1)*(Y+1):=bJ _ (by omega);rw[cM,dw]at b
 grind[cx]
theorem wcx{N X Y:Nat}{c:Hq}(h:Nf N X Y c)(j:N<=8)(l:X<=1000)(g:Y<=1000):aj an (aj an (aj an (aj an ((c.1:Int)*aj an ((X:Int)+1))+(c.2.1:Int))*aj an ((Y:Int)+1))+(c.2.2:Int))=((cx X Y c:Nat):Int):=by
 obtain⟨i,k,f⟩:=h;have a:c.1*(X+1)<=8*1001:=dC (by omega) (by omega);have b:(c.1*(X+1)+c.2.1)*(Y+1)<=10000*1001:=dC (by omega) (by omega);have d:aj an ((X:Int)+1)=((X+1:Nat):Int):=cL (n:=X+1) (by omega) (by omega);have e:aj an ((Y:Int)+1)=((Y+1:Nat):Int):=cL (n:=Y+1) (by omega) (by omega);rw[d,e,<-gW,cj (n:=((c.1*(X+1):Nat):Int)) (by omega) (by omega),<-Int.natCast_add,cj (n:=((c.1*(X+1)+c.2.1:Nat):Int)) (by omega) (by omega),<-gW,cj (n:=(((c.1*(X+1)+c.2.1)*(Y+1):Nat):Int)) (by omega) (by omega),<-Int.natCast_add,cj (n:=(((c.1*(X+1)+c.2.1)*(Y+1)+c.2.2:Nat):Int)) (by omega) (by omega)];rfl
def J3(x:List Int)(i:Nat)(c:Int)(u:Nat):Prop:=(c=0/\u=i)\/(c≠0/\x[i]?=aa c/\u=i+1)
def CS(M:cG)(x y:List Int)(c d:Hq):Prop:=∃a∈eA M c.1,J3 x c.2.1 a.i d.2.1/\J3 y c.2.2 a.o d.2.2/\d.1=a.t.toNat
theorem J3.le{x:List Int}{c:Int}(r:J3 x i c n)(h:i<=x.length):n<=x.length:=by
 rcases r with⟨_,rfl⟩|⟨_,a,rfl⟩
 all_goals grind
theorem adK{x:List Int}{P:Hq->Prop}(A:∀c d,P c->CS M x p c d->P d){s e:Nat}{l:List Nat}{k j:List Int}(r:oJ M s l e k j):∀{xp yp:List Int},x=xp++k->p=yp++j->P (s,xp.length,yp.length)->P (e,x.length,p.length):=by
 have f:∀{c:Int}{z b m:List Int},z=b++opt c m->∃g,z=g++m/\J3 z b.length c g.length:=λ{c z b m} e=>by
  by_cases h:c=0
  ·rw[h,kj]at e;exact⟨b,e,.inl ⟨h,rfl⟩⟩
  ·rw[vD h]at e;exact⟨b++[c],by grind,.inr ⟨h,by grind,by simp⟩⟩
 induction r with
 |nil s=>grind
 |@cons s i e a l k j u r t=>
  intro xp yp n w h;obtain⟨B,y,o⟩:=f n;obtain⟨C,v,q⟩:=f w;exact t y v (A _ _ h ⟨a,aI u,o,q,rfl⟩)
def Y3(ks:Nat)(S:List Bool)(Gq:gf):List gf:=[[(ks,.cells (S.map ai) 4 1 af)],Gq]
structure HI(h0:aw)(ks N X Y:Nat)(S:List Bool)(todo:List Hq)(v:ah)(Gq:gf)(g:aw):Prop where
 o:OL h0 g (Y3 ks S Gq)
 len:S.length=N*(X+1)*(Y+1)
 td:kK 78 3 v (todo.map c3) Gq
 inr:∀c∈todo,Nf N X Y c
 bd:todo.length+fO S<=N*(X+1)*(Y+1)
def sn(X Y:Nat)(S:List Bool)(c:Hq):Prop:=S.getD (cx X Y c) ak=af
section
variable {h0 g g':aw} {ks N X Y:Nat} {S:List Bool} {todo:List Hq} {v:ah} {Gq:gf}
theorem HI.grow(s:HI h0 ks N X Y S todo v Gq g)(o:Ok g g'):HI h0 ks N X Y S todo v Gq g'/\ng g (Y3 ks S Gq) g' (Y3 ks S Gq):=⟨⟨(s.o.grow o).1,s.len,s.td,s.inr,s.bd⟩,(s.o.grow o).2⟩
theorem HI.seen(s:HI h0 ks N X Y S todo v Gq g){c:Hq}(a:Nf N X Y c):aZ au 68 (sA ks (N*(X+1)*(Y+1)) (N*(X+1)*(Y+1))) (aA (cx X Y c:Nat))=aa (cn ks (cx X Y c))/\aM au 4 g (cn ks (cx X Y c))=aa (ai (S.getD (cx X Y c) ak)):=kY (s.o.get 0 rfl) s.len (Pf a)
theorem HI.put(q:Wf h0)(s:HI h0 ks N X Y S todo v Gq g)(I:N*(X+1)*(Y+1)<=1000000000){c:Hq}(F:Nf N X Y c)(y:S.getD (cx X Y c) ak=ak):
  ∃e:dJ,aQ au 4 (cn ks (cx X Y c)) (ai af) g=aa (undef,e)/\ng g (Y3 ks S Gq) (e.app g) (Y3 ks (S.set (cx X Y c) af) Gq)/\
  ∃(p:Option aF)(o n:Nat)(k:dJ),bY au 79 79 v (sA (e.app g).ax 1 1) ((e.app g).push (.cells (c3 c) 78 3 af))=aa (ae p o n,k)/\
  ∃l,HI h0 ks N X Y (S.set (cx X Y c) af) (todo++[c]) (ae p o n) l (k.app ((e.app g).push (.cells (c3 c) 78 3 af)))/\ng g (Y3 ks S Gq) (k.app ((e.app g).push (.cells (c3 c) 78 3 af))) (Y3 ks (S.set (cx X Y c) af) l):=by
 have u:=Pf F;have G:=s.bd;have H:=rq (L:=S) (s:=cx X Y c) (by rw[s.len];exact u) y;obtain⟨b,h⟩:=s.o.uR q 0 rfl (.cells ((S.map ai).set (cx X Y c) (ai af)) 4 1 af);have w:aQ au 4 (cn ks (cx X Y c)) (ai af) g=aa (undef,.set ks (.cells ((S.map ai).set (cx X Y c) (ai af)) 4 1 af)):=eu Te (s.o.get 0 rfl) (by rw[aG,s.len];exact u) rfl rfl;rw[<-map_set (f:=ai) (a:=af)]at w b h;have b:OL h0 _ (Y3 ks (S.set (cx X Y c) af) Gq):=b;have h:ng g (Y3 ks S Gq) _ (Y3 ks (S.set (cx X Y c) af) Gq):=h;refine⟨_,w,h,?_⟩;generalize (dJ.set ks (.cells ((S.set (cx X Y c) af).map ai) 4 1 af)).app g=A at*;have D:=cC A (.cells (c3 c) 78 3 af);have x:=(Ok.refl b.ok.wf).push (.cells (c3 c) 78 3 af);obtain⟨p,o,n,k,B,_,E,m,z,t⟩:=s.td.add q79 ae8 Yb alr q (b.grow x).1 (j:=1) rfl (ns:=[c3 c]) (D5 D rfl) (λr C=>by rw[aX.1 C];rfl) rfl (by rw[Ts,aG,bw];omega) (by rw[aG,bw];omega) (.inl (aS _));refine⟨_,_,_,_,B,E,⟨z,by rw[bT];exact s.len,by rw[bU];exact m,λd i=>?_,by rw[bg,bw];omega⟩,h.trans ((b.grow x).2.trans t)⟩;rcases bH.1 i with i|i
 ·exact s.inr d i
 grind
theorem HI.top{c:Hq}{a:List Hq}(s:HI h0 ks N X Y S (c::a) v Gq g):∃(k o:Nat),aZ au 79 v (aA 0)=aa (cn k o)/\aM au 78 g (cn k o)=aa (aq ⟨c3 c⟩):=by
 have b:=s.td.rd s.o (i:=1) rfl;obtain⟨d,e⟩:=alv;obtain⟨h,m,rfl⟩:=s.td.rM;obtain⟨k,o,f,l,j⟩:=Ba.at_ q79 ahL e akF b (ik:= an) (i:=0) (by omega) (by simp)
 grind
theorem HI.pop{c:Hq}{b:List Hq}(s:HI h0 ks N X Y S (c::b) v Gq g):∃(a:Option aF)(m cc:Nat),cY au 79 v (aa (aA 1)) none none g=aa (ae a m cc)/\HI h0 ks N X Y S b (ae a m cc) Gq g:=by
 obtain⟨a,m,cc,f,e⟩:=kK.tail (g:=g) q79 ahL s.td (s.o.PM (i:=1) rfl);exact⟨a,m,cc,f,s.o,s.len,e,λd h=>s.inr d (cJ _ h),by have:=s.bd;grind⟩
end
end
section
structure HC(h0:aw)(k3:Nat)(M:cG)(ma:Option aF)(mn mc:Nat)(vx vy:ah)(x y:List Int):Prop where
 w:Wf h0
 gd:Good M
 hN:M.aE.length<=8
 zA:∀s∈M.aE,s.bG.length<=2000
 mb:MB h0 k3 M ma mn mc
 rx:Rd h0 3 vx (x.map zV)
 ry:Rd h0 3 vy (y.map zV)
 hx:x.length<=1000
 hy:y.length<=1000
theorem J3.det{x:List Int}{c:Int}(r:J3 x i c n)(b:J3 x i c m):n=m:=by
 rcases r with⟨h,e⟩|⟨h,_,e⟩<;>rcases b with⟨a,e'⟩|⟨a,_,e'⟩
 all_goals omega
def DnC(M:cG)(x y:List Int)(S:List Bool)(c:Hq):Prop:=(c.2.1=x.length->c.2.2=y.length->¬rp M c.1)/\∀d,CS M x y c d->sn x.length y.length S d
theorem ah7{S:List Bool}{c:Hq}(h:sn n m S c):sn n m (S.set i af) c:=by grind[sn]
theorem ajd{M:cG}{x y:List Int}(j:Good M){c d:Hq}(h:CS M x y c d)(i:c.2.1<=x.length)(k:c.2.2<=y.length):Nf M.aE.length x.length y.length d:=by
 obtain⟨a,l,f,g,e⟩:=h;have b:=pU j l;exact⟨by rw[e];have:=b.t0;have:=b.t1;omega,f.le i,g.le k⟩
def ahr(h0:aw)(ks:Nat)(M:cG)(x y:List Int)(d:Nat)(a:Option aF)(n c:Nat)(g:aw):Prop:=
 ∃S b e,HI h0 ks M.aE.length x.length y.length S b (ae a n c) e g/\sn x.length y.length S (M.start.toNat,0,0)/\(∀c,Nf M.aE.length x.length y.length c->sn x.length y.length S c->c∈b\/DnC M x y S c)/\2*fO S+b.length=d
def aav(h0:aw)(ks:Nat)(M:cG)(x y:List Int)(b:Hq)(f:Nat)(e:Nat)(a:Option aF)(n c j:Nat)(g:aw):Prop:=
 ∃S d h,HI h0 ks M.aE.length x.length y.length S d (ae a n c) h g/\sn x.length y.length S (M.start.toNat,0,0)/\(∀c,Nf M.aE.length x.length y.length c->sn x.length y.length S c->c∈d\/c=b\/DnC M x y S c)/\
  (∀q∈(eA M b.1).take j,∀u v,J3 x b.2.1 q.i u->J3 y b.2.2 q.o v->sn x.length y.length S (q.t.toNat,u,v))/\2*fO S+d.length+1<=f/\j<=(eA M b.1).length/\e=(eA M b.1).length-j
theorem yW{q:iu}(a:h.get k=aa (.cells (jU q) 46 0 af))(h0:0<=q.t):aM au 3 h (cn k (0+0))=aa (aA q.i)/\aM au 3 h (cn k (0+1))=aa (aA q.o)/\aM au 3 h (cn k (0+3))=aa (iA q.t.toNat):=
 ⟨da rk ri a (by simp[jU]),da rk ri a (by simp[jU]),by rw[da rk ri a (by simp[jU])];show aa (aB an q.t)=aa (aA ((q.t.toNat:Nat):Int));grind⟩
section
variable {Q:VH} {h0:aw} {k3 ks:Nat} {M:cG} {ma:Option aF} {mn mc:Nat} {e:Option aF} {f:Nat} {e':Option aF} {f':Nat} {x y:List Int}
theorem aau(b:HC h0 k3 M ma mn mc (ae e x.length f) (ae e' y.length f') x y){S:List Bool}{i:List Hq}{a:Option aF}{n c:Nat}{V:gf}{g:aw}(s:HI h0 ks M.aE.length x.length y.length S i (ae a n c) V g){w:Nat}{q:iu}(l:Im g (Y3 ks S V) w (.cells (jU q) 46 0 af))(m:0<=q.t){u v:Nat}(h:Nf M.aE.length x.length y.length (q.t.toNat,u,v)){KG:OA->Nat->Nat->aw->Prop}
  (T:sn x.length y.length S (q.t.toNat,u,v)->KG a n c g) (D:S.getD (cx x.length y.length (q.t.toNat,u,v)) ak=ak->∀(N:Option aF)(z t:Nat)(p:gf)(E:aw),HI h0 ks M.aE.length x.length y.length (S.set (cx x.length y.length (q.t.toNat,u,v)) af) (i++[(q.t.toNat,u,v)]) (ae N z t) p E->KG N z t E):
  xP (bB au 46 (pA w) 3) λJ=>xI an (aM au 3 g (bN J)) λL=>aW 53 [(aA L),(iA u),(iA v),(ae e x.length f),(ae e' y.length f')] g λP d=>yI an P λo=>xP (aZ au 68 (sA ks (M.aE.length*(x.length+1)*(y.length+1)) (M.aE.length*(x.length+1)*(y.length+1))) (aA o)) λU=>xB (aM au 4 d (bN U)) λI=>cp (!I) (xP (aZ au 68 (sA ks (M.aE.length*(x.length+1)*(y.length+1)) (M.aE.length*(x.length+1)*(y.length+1))) (aA o)) λH=>xU (aQ au 4 (bN H) (ai af) d) d λx5 j=>xP (bB au 46 (pA w) 3) λR=>xI an (aM au 3 j (bN R)) λK=>xA (cI au 78 [(0,(aA K)),(1,(iA u)),(2,(iA v))]) λG=>xR (bC au 79 1 [(0,(aq ⟨G⟩))]) j λx4 X O k=>xE (bY au 79 79 (ae a n c) (sA (j.ax) X O) k) k λC A B x0 r=>KG C A B r) (KG a n c d):=by
 have Y:M.aE.length*(x.length+1)*(y.length+1)<=1000000000:=bK (dC (dC b.hN (pG b.hx)) (pG b.hy)) (by decide);refine⟨_,jE _ 0,_,(yW l.1 m).2.2,QF q.t.toNat u v e x.length f e' y.length f' g _ ?_⟩;rw[wcx h b.hN b.hx b.hy];obtain⟨W,x2⟩:=s.seen h;refine⟨_,rfl,_,W,_,x2,ay (λQ=>?_) (λQ=>T (by grind[sn]))⟩;have F:S.getD (cx x.length y.length (q.t.toNat,u,v)) ak=ak:=by simpa using Q
 obtain⟨u1,s1,c1,b',z,t,u3,Z,p,s',x3⟩:=s.put b.w Y h F;exact⟨_,W,_,s1,_,jE _ 0,_,(yW (c1 _ _ l).1 m).2.2,_,af1 _ _ _,_,_,_,ai2 _ _ _,_,_,_,_,Z,D F _ _ _ _ _ s'⟩
theorem ahq(R:HC h0 k3 M ma mn mc (ae e x.length f) (ae e' y.length f') x y){s i k:Nat}(b:Nf M.aE.length x.length y.length (s,i,k))(x7:i=x.length->k=y.length->¬rp M s){W:Nat}{a:Option aF}{n c:Nat}{g:aw}(V:aav h0 ks M x y (s,i,k) W (eA M s).length a n c 0 g):
  cq jf (pq 163103) (eH e x.length f e' y.length f' k3 ks (M.aE.length*(x.length+1)*(y.length+1)) (M.aE.length*(x.length+1)*(y.length+1)) s i k a n c 0) g (fZ jf (pq 381) (pq 287) (RR jf (pq 287) (GR (jm e x.length f e' y.length f' k3 ks (M.aE.length*(x.length+1)*(y.length+1)) (M.aE.length*(x.length+1)*(y.length+1))) (ahr h0 ks M x y)) W (ez jf (pq 159) Q))):=by
 refine GK [] e x.length f e' y.length f' k3 ks _ _ s i k _ _ (aav h0 ks M x y (s,i,k) W) _ (λy5 a n c j=>?_) _ (j:=0) V;clear V g;intro zz g V;obtain⟨S,G,Gq,m,x4,all,O,x5,hj,rfl⟩:=V;obtain⟨z,hz,Z,_,hm⟩:=nj b.1;have mb:=R.mb.ok m.o.ok;obtain⟨_,_,_,zn,_,d1,_,_,d4,ar⟩:=mb.row.K1 (Ok.refl m.o.ok.wf) hz;have Z:eA M s=z.bG:=Z;have y6:zn=z.bG.length:=ar.len;have y4:=R.zA z hm;dsimp only at hj O⊢;rw[Z]at hj O⊢;refine⟨_,eR _,_,_,_,mb.l3,_,d1,_,jc _ _,_,_,_,d4,ay (λq1=>?_) (λq1=>?_)⟩
 ·have q1:=dT q1;obtain⟨q,Y⟩:∃q,z.bG[j]?=aa q:=⟨_,gE (by omega)⟩
  have t:=R.gd.bG z hm q (aI Y);obtain⟨_,_,f1,f2,_⟩:=ar.at_ Y;have e1:=(Ok.refl m.o.ok.wf).push JQ;have b1:=cC g JQ;have s1:aQ au 46 (pA g.ax) (aq ⟨jU q⟩) (g.push JQ)=aa (undef,.set g.ax (.cells (jU q) 46 0 af)):=gL VN rfl b1 rfl (by rfl);have e2:Ok g ((dJ.set g.ax (.cells (jU q) 46 0 af)).app (g.push JQ)):=e1.set _ (aS _) (eD _) m.o.ok.wf;have b2:((dJ.set g.ax (.cells (jU q) 46 0 af)).app (g.push JQ)).get g.ax=aa (.cells (jU q) 46 0 af):=by
   show((g.push _).set _ _).get _=_;rw[aw.bZ,iP rfl]
  have l:=m.o.new (aS _) b2;obtain⟨m,_⟩:=m.grow e2;rw[cL (n:=z.bG.length) (by omega) (by omega)];refine⟨_,eR _,_,_,_,mb.l3,_,d1,_,jc _ _,_,_,_,d4,_,f1,_,f2,_,MA,_,s1,?_⟩;dsimp only;clear e1 b1 s1 e2 b2 d1 d4 f1 f2 ar mb;generalize (dJ.set g.ax (.cells (jU q) 46 0 af)).app (g.push JQ)=g1 at*;generalize g.ax=ka at*;have x0:∀{S':List Bool}{B:List Hq}{a':Option aF}{n' c':Nat}{x6:gf}{K:aw},HI h0 ks M.aE.length x.length y.length S' B (ae a' n' c') x6 K->(∀d,sn x.length y.length S d->sn x.length y.length S' d)->(∀d,Nf M.aE.length x.length y.length d->sn x.length y.length S' d->d∈B\/sn x.length y.length S d)->(∀d∈G,d∈B)->2*fO S'+B.length+1<=W->(∀u v,J3 x i q.i u->J3 y k q.o v->sn x.length y.length S' (q.t.toNat,u,v))->
    cB (sk (eH e x.length f e' y.length f' k3 ks (M.aE.length*(x.length+1)*(y.length+1)) (M.aE.length*(x.length+1)*(y.length+1)) s i k) (aav h0 ks M x y (s,i,k) W)) (z.bG.length-j) [(ae e x.length f),(ae e' y.length f'),(pA k3),(sA ks (M.aE.length*(x.length+1)*(y.length+1)) (M.aE.length*(x.length+1)*(y.length+1))),(ae a' n' c'),(iA s),(iA i),(iA k),(aA ((j+1:Nat):Int))] K:=λT hs hd ht hm y3=>by
   refine nE (z.bG.length-(j+1)) (by omega) ⟨_,_,_,T,hs _ x4,λd x3 J=>?_,λr hr u v E o=>?_,hm,by grind,by grind⟩
   ·rcases hd d x3 J with h|h
    ·grind
    ·rcases all d x3 h with h|h|h
     ·grind
     ·grind
     ·exact .inr (.inr ⟨h.1,λd2 h2=>hs _ (h.2 d2 h2)⟩)
   ·dsimp only at hr;rw[Z,(iI Y).2]at hr
    grind
  have w:∀{K:aw},HI h0 ks M.aE.length x.length y.length S G (ae a n c) Gq K->(∀u v,J3 x i q.i u->¬J3 y k q.o v)->_:=λ{K} T x8=>x0 T (λ_ h=>h) (λ_ _ h=> .inr h) (λ_ h=>h) x5 (λu v E o=>absurd o (x8 u v E));have P:∀{K:aw}{u v:Nat},HI h0 ks M.aE.length x.length y.length S G (ae a n c) Gq K->Im K (Y3 ks S Gq) ka (.cells (jU q) 46 0 af)->J3 x i q.i u->J3 y k q.o v->_:=λ{K u v} T m' H rv=>aau R T m' t.t0 (u:=u) (v:=v) ⟨by have:=t.t0;have:=t.t1;omega,H.le b.2.1,rv.le b.2.2⟩ (KG:=λa n c g=>cB (sk (eH e x.length f e' y.length f' k3 ks (M.aE.length*(x.length+1)*(y.length+1)) (M.aE.length*(x.length+1)*(y.length+1)) s i k) (aav h0 ks M x y (s,i,k) W)) (z.bG.length-j) [(ae e x.length f),(ae e' y.length f'),(pA k3),(sA ks (M.aE.length*(x.length+1)*(y.length+1)) (M.aE.length*(x.length+1)*(y.length+1))),(ae a n c),(iA s),(iA i),(iA k),(aA ((j+1:Nat):Int))] g)
   (λhs=>x0 T (λ_ h=>h) (λ_ _ h=> .inr h) (λ_ h=>h) x5 (λu' v' E o=>by grind[J3.det]))
   (λhn a' n' c' x6 y7 x9=>x0 x9 (λ_ h=>ah7 h) (λd hd J=>by
    by_cases ed:d=(q.t.toNat,u,v)
    ·grind
    ·refine .inr ?_;have C:Nf M.aE.length x.length y.length (q.t.toNat,u,v):=⟨by have:=t.t0;have:=t.t1;show q.t.toNat<_;omega,H.le b.2.1,rv.le b.2.2⟩
     unfold sn at J⊢;rw[gD,getElem?_set,iN (λe=>ed (ZT hd C e.symm))]at J
     grind) (λ_ h=>dY _ h) (by
    have C:Nf M.aE.length x.length y.length (q.t.toNat,u,v):=⟨by have:=t.t0;have:=t.t1;show q.t.toNat<_;omega,H.le b.2.1,rv.le b.2.2⟩
    have:=rq (L:=S) (s:=cx x.length y.length (q.t.toNat,u,v)) (by rw[T.len];exact Pf C) hn
    grind) (λu' v' E o=>by
    have C:Nf M.aE.length x.length y.length (q.t.toNat,u,v):=⟨by have:=t.t0;have:=t.t1;omega,H.le b.2.1,rv.le b.2.2⟩
    rw[J3.det E H,J3.det o rv];unfold sn;rw[gD,getElem?_set,iP rfl,iP (by rw[T.len];exact Pf C)];rfl))
  have wi:i<x.length->aj an ((i:Int)+1)=((i+1:Nat):Int):=λh=>cL h (by have:=R.hx;omega);have wk:k<y.length->aj an ((k:Int)+1)=((k+1:Nat):Int):=λh=>cL h (by have:=R.hy;omega);have y0:=b.2.1;have y2:=b.2.2;dsimp only at y0 y2;obtain⟨p,I⟩:=m.grow ((Ok.refl m.o.ok.wf).room 13);refine⟨_,po _ 0,_,(yW l.1 t.t0).1,ay (λX=>ay (λq3=>?_) (λq3=>?_)) (λX=>?_)⟩
  ·exact w p λu v E _=>by
    have X:q.i≠0:=by simpa using X
    have q3:(i:Int)=(x.length:Int):=by simpa using q3
    rcases E with⟨h,_⟩|⟨_,h,_⟩
    all_goals grind
  ·have X:q.i≠0:=by simpa using X
   have q3:¬(i:Int)=(x.length:Int):=by simpa using q3
   have x2:i<x.length:=by omega
   obtain⟨xi,y1⟩:∃xi,x[i]?=aa xi:=⟨_,gE x2⟩
   obtain⟨p1,i1,i2⟩:=Rz (R.rx.ok p.o.ok) y1;refine⟨_,i1,_,i2,_,po _ 0,_,(yW (I _ _ l).1 t.t0).1,ay (λq4=>?_) (λq4=>?_)⟩
   ·exact w p λu v E _=>by
     have q4:xi≠q.i:=by simpa using q4
     rcases E with⟨h,_⟩|⟨_,h,_⟩
     all_goals grind
   ·have q4:xi=q.i:=by simpa using q4
    have H:J3 x i q.i (i+1):= .inr ⟨X,by grind,rfl⟩;have m:=p;have l:=I _ _ l;clear I i1 i2;rw[wi x2];generalize room g1 13=g2 at*;obtain⟨p,I⟩:=m.grow ((Ok.refl m.o.ok.wf).room 13);refine⟨_,pT _ 0,_,(yW l.1 t.t0).2.1,ay (λA=>ay (λD=>?_) (λD=>?_)) (λA=>?_)⟩
    ·exact w p λu v _ o=>by
      have A:q.o≠0:=by simpa using A
      have D:(k:Int)=(y.length:Int):=by simpa using D
      rcases o with⟨h,_⟩|⟨_,h,_⟩
      all_goals grind
    ·have A:q.o≠0:=by simpa using A
     have D:¬(k:Int)=(y.length:Int):=by simpa using D
     have U:k<y.length:=by omega
     obtain⟨N,x1⟩:∃N,y[k]?=aa N:=⟨_,gE U⟩
     obtain⟨p2,j1,j2⟩:=Rz (R.ry.ok p.o.ok) x1;refine⟨_,j1,_,j2,_,pT _ 0,_,(yW (I _ _ l).1 t.t0).2.1,ay (λF=>?_) (λF=>?_)⟩
     ·exact w p λu v _ o=>by
       have F:N≠q.o:=by simpa using F
       rcases o with⟨h,_⟩|⟨_,h,_⟩
       all_goals grind
     ·have F:N=q.o:=by simpa using F
      rw[wk U];exact P p (I _ _ l) H (.inr ⟨A,by grind,rfl⟩)
    ·exact P m l H (.inl ⟨by grind,rfl⟩)
  ·have H:J3 x i q.i i:= .inl ⟨by grind,rfl⟩;clear p I;obtain⟨p,I⟩:=m.grow ((Ok.refl m.o.ok.wf).room 13);refine⟨_,pT _ 0,_,(yW l.1 t.t0).2.1,ay (λA=>ay (λD=>?_) (λD=>?_)) (λA=>?_)⟩
   ·exact w p λu v _ o=>by
     have A:q.o≠0:=by simpa using A
     have D:(k:Int)=(y.length:Int):=by simpa using D
     rcases o with⟨h,_⟩|⟨_,h,_⟩
     all_goals grind
   ·have A:q.o≠0:=by simpa using A
    have D:¬(k:Int)=(y.length:Int):=by simpa using D
    have U:k<y.length:=by omega
    obtain⟨N,x1⟩:∃N,y[k]?=aa N:=⟨_,gE U⟩
    obtain⟨p2,j1,j2⟩:=Rz (R.ry.ok p.o.ok) x1;refine⟨_,j1,_,j2,_,pT _ 0,_,(yW (I _ _ l).1 t.t0).2.1,ay (λF=>?_) (λF=>?_)⟩
    ·exact w p λu v _ o=>by
      have F:N≠q.o:=by simpa using F
      rcases o with⟨h,_⟩|⟨_,h,_⟩
      all_goals grind
    ·have F:N=q.o:=by simpa using F
     rw[wk U];exact P p (I _ _ l) H (.inr ⟨A,by grind,rfl⟩)
   ·exact P m l H (.inl ⟨by grind,rfl⟩)
 ·have q1:=dF q1;rw[bm (by omega)]at O;refine C8 (2*fO S+G.length) (by omega) ⟨S,G,Gq,m,x4,λd hd J=>?_,rfl⟩;rcases all d hd J with h|rfl|h
  ·exact .inl h
  ·refine .inr ⟨x7,λd2 h2=>?_⟩;obtain⟨q,Y,E,o,e2⟩:=h2;rw[show eA M s=z.bG from Z]at Y;have:=O q Y _ _ E o;rw[<-e2]at this;exact this
  grind
theorem ahp(w:HC h0 k3 M ma mn mc (ae e x.length f) (ae e' y.length f') x y)(hQ:∀g,Ok h0 g->Q (ai af) g){l:List Nat}(O:Eh M l x y){mz:Nat}{a:Option aF}{n c:Nat}{g:aw}(t:ahr h0 ks M x y mz a n c g):
  cq jf (pq 287) (jm e x.length f e' y.length f' k3 ks (M.aE.length*(x.length+1)*(y.length+1)) (M.aE.length*(x.length+1)*(y.length+1)) a n c) g (ez jf (pq 159) Q):=by
 refine GJ [] e x.length f e' y.length f' k3 ks _ _ (ahr h0 ks M x y) _ (λmz a n c=>?_) _ t;clear t g;intro zz g t;obtain⟨S,m,Gq,b,A,all,rfl⟩:=t;obtain⟨_,_,C⟩:=b.td.rM;injection C with _ C _
 rw[aG]at C;have x1:=w.gd.oz;have x2:=w.gd.pY;refine ay (λq=>?_) (λq=>?_)
 ·have q:=dT q;obtain⟨⟨s,i,k⟩,j,rfl⟩:∃c j,m=c::j:=by
   cases m with
   |nil=>grind
   |cons i r=>grind
  have E:=b.inr _ (cH ..);obtain⟨p,o,R,G⟩:=b.top;have T:=(Ok.refl b.o.ok.wf).push (.cells [aA 0,aA 0,aA 0] 78 0 af);have L:=cC g (.cells [aA 0,aA 0,aA 0] 78 0 af);have P:aQ au 78 (pA g.ax) (aq ⟨c3 (s,i,k)⟩) (g.push (.cells [aA 0,aA 0,aA 0] 78 0 af))=aa (undef,.set g.ax (.cells (c3 (s,i,k)) 78 0 af)):=gL ahL rfl L rfl (by rfl);have N:Ok g ((dJ.set g.ax (.cells (c3 (s,i,k)) 78 0 af)).app (g.push (.cells [aA 0,aA 0,aA 0] 78 0 af))):=T.set _ (aS _) (eD _) b.o.ok.wf;have X:((dJ.set g.ax (.cells (c3 (s,i,k)) 78 0 af)).app (g.push (.cells [aA 0,aA 0,aA 0] 78 0 af))).get g.ax=aa (.cells (c3 (s,i,k)) 78 0 af):=by
   show((g.push _).set _ _).get _=_;rw[aw.bZ,iP rfl]
  obtain⟨b,_⟩:=b.grow N;refine⟨_,R,_,G,_,akH,_,P,?_⟩;dsimp only;clear T L P N R G;generalize (dJ.set g.ax (.cells (c3 (s,i,k)) 78 0 af)).app (g.push (.cells [aA 0,aA 0,aA 0] 78 0 af))=v at*;generalize g.ax=u at*;obtain⟨a',m',V,t3,b⟩:=b.pop;have U:=(Ok.refl b.o.ok.wf).room 9;have D:=U.ext _ _ X;obtain⟨b,_⟩:=b.grow U;have l0:aM au 3 (room v 9) (pA u)=aa (iA s):=da rk ri D (by simp[c3]);have l1:aM au 3 (room v 9) (cn u 1)=aa (iA i):=da rk ri D (by simp[c3]);have l2:aM au 3 (room v 9) (cn u 2)=aa (iA k):=da rk ri D (by simp[c3]);obtain⟨Z,Y,r2⟩:=akJ u;obtain⟨z,hz,_,fz,_⟩:=nj E.1;have J:=w.mb.ok b.o.ok;obtain⟨_,_,_,_,_,d1,_,d3,_,_⟩:=J.row.K1 (Ok.refl b.o.ok.wf) hz;have go:(i=x.length->k=y.length->¬rp M s)->aav h0 ks M x y (s,i,k) (2*fO S+((s,i,k)::j).length) (eA M s).length a' m' V 0 (room v 9):=λ_=>⟨S,j,Gq,b,A,λd hd x3=>by grind,λq hq=>(by grind),by grind,cr _,rfl⟩
  refine⟨_,_,_,t3,_,Z,_,l0,_,Y,_,l1,_,r2,_,l2,ay (λI=>ay (λF=>⟨_,eR _,_,_,_,J.l3,_,d1,_,pk _ _,_,d3,ay (λK=>hQ _ b.o.ok) (λK=>?_)⟩) (λF=>?_)) (λI=>?_)⟩
  all_goals
   have x0:i=x.length->k=y.length->¬rp M s:=by
    first
     |intro h;subst h;simp at I;done
     |intro _ h;subst h;simp at F;done
     |intro _ _ B;have:=jv.2 B;rw[fz,K]at this;cases this
   grind[ahq]
 ·have q:=dF q;have:m=[]:=aY (by omega);subst this;obtain⟨e2,r,B⟩:=O;have W:∀c d,(Nf M.aE.length x.length y.length c/\sn x.length y.length S c)->CS M x y c d->Nf M.aE.length x.length y.length d/\sn x.length y.length S d:=λc d h H=>⟨ajd w.gd H h.1.2.1 h.1.2.2,((all c h.1 h.2).resolve_left (by simp)).2 d H⟩
  have:=adK W r (xp:=[]) (yp:=[]) rfl rfl ⟨⟨by omega,cr _,cr _⟩,A⟩;exact absurd B (((all _ this.1 this.2).resolve_left (by simp)).1 rfl rfl)
end
end
section
section
variable {h:aw} {M:cG} {a:Option aF} {n c:Nat}
theorem Vt(w:Wf h)(D:Good M)(u:M.aE.length<=8)(T:∀s∈M.aE,s.bG.length<=2000)(r:iY h (ae a n c) M.aE){e:Option aF}{F f:Nat}{m:Option aF}{B q:Nat}{x y:List Int}(H:Rd h 3 (ae e F f) (x.map zV))(K:Rd h 3 (ae m B q) (y.map zV))(t:x.length<=1000)(G:y.length<=1000){l:List Nat}(O:Eh M l x y):aW 18 [aq ⟨dK M a n c⟩,ae e F f,ae m B q] h (λv g=>v=ai af/\Ok h g):=by
 obtain rfl:F=x.length:=by have:=H.len;grind
 obtain rfl:B=y.length:=by have:=K.len;grind
 obtain⟨p,i⟩:=ni w r;have S:=p.len;subst S;have x0:=D.oz;have x1:=D.pY;have h1:M.aE.length*(x.length+1)<=1000000:=bK (dC u (pG t)) (by decide);have hb:M.aE.length*(x.length+1)*(y.length+1)<=1000000000:=bK (dC (dC u (pG t)) (pG G)) (by decide);have V:aj an (aj an ((M.aE.length:Int)*aj an ((x.length:Int)+1))*aj an ((y.length:Int)+1))=((M.aE.length*(x.length+1)*(y.length+1):Nat):Int):=by
  rw[show aj an ((x.length:Int)+1)=((x.length+1:Nat):Int)from cL (n:=x.length+1) (by omega) (by omega),show aj an ((y.length:Int)+1)=((y.length+1:Nat):Int)from cL (n:=y.length+1) (by omega) (by omega),<-gW,cj (n:=((M.aE.length*(x.length+1):Nat):Int)) (by omega) (by omega),<-gW,cj (n:=((M.aE.length*(x.length+1)*(y.length+1):Nat):Int)) (by omega) (by omega)]
 refine aeV (dK M a M.aE.length c) e x.length f m y.length q h _ ⟨_,qx M a M.aE.length c,_,eR _,_,_,_,p.l3,?_⟩;dsimp only;rw[V];generalize h.push (Bm M a M.aE.length c)=E at*;generalize h.ax=Y at*;have Z:HC E Y M a M.aE.length c (ae e x.length f) (ae m y.length q) x y:=⟨i.wf,D,u,T,p,H.ok i,K.ok i,t,G⟩
 obtain⟨s,J⟩:∃s:Nat,M.start=(s:Int):=⟨M.start.toNat,by omega⟩
 have j:Nf M.aE.length x.length y.length (s,0,0):=⟨by omega,cr _,cr _⟩
 have z:=Pf j;obtain⟨L,_⟩:=(OL.nil (Ok.refl i.wf)).push (.cells ((aH (M.aE.length*(x.length+1)*(y.length+1)) ak).map ai) 4 1 af);have I:=p.ok L.ok;refine⟨_,_,_,ajL _ (by omega),_,nV _,_,I.l1,_,af1 _ _ _,_,_,_,ai2 _ _ _,?_⟩;dsimp only;rw[J];generalize x3:E.ax=W at*;generalize E.push (.cells ((aH (M.aE.length*(x.length+1)*(y.length+1)) ak).map ai) 4 1 af)=g5 at*;obtain⟨C,_⟩:=L.push (.cells (c3 (s,0,0)) 78 3 af);have R:=p.ok C.ok;have N:=R.l1;rw[J]at N;refine⟨_,nV _,_,N,QF s 0 0 e x.length f m y.length q _ _ ?_⟩;rw[wcx j u t G];obtain⟨Q,_⟩:=C.uR i.wf 0 rfl (.cells (((aH (M.aE.length*(x.length+1)*(y.length+1)) ak).map ai).set (cx x.length y.length (s,0,0)) (ai af)) 4 1 af);refine⟨_,rfl,_,sy q68 Te z,_,eu Te (k:=W) (C.get 0 rfl) (by grind) rfl rfl,?_⟩;rw[<-map_set (f:=ai) (a:=af)]at Q⊢;have X:(aH (M.aE.length*(x.length+1)*(y.length+1)) ak).getD (cx x.length y.length (s,0,0)) ak=ak:=by
  rw[gD,List.getElem?_replicate,iP z];rfl
 have x2:=rq (s:=cx x.length y.length (s,0,0)) (by grind) X;have x4:fO (aH (M.aE.length*(x.length+1)*(y.length+1)) ak)<=M.aE.length*(x.length+1)*(y.length+1):=by
  have:=List.length_filter_le (λb=> !b) (aH (M.aE.length*(x.length+1)*(y.length+1)) ak);rwa[bE]at this
 have x5:M.start.toNat=s:=by omega
 refine ahp Z (λg o=>⟨rfl,i.trans o⟩) O (mz:=_) ⟨(aH (M.aE.length*(x.length+1)*(y.length+1)) ak).set (cx x.length y.length (s,0,0)) af,[(s,0,0)],_,⟨Q,by simp,kK.made (rs:=[c3 (s,0,0)]) (by simp[c3]) (show 1<ft by decide +kernel),λd P=>by grind,by grind⟩,?_,λd P A=> .inl ?_,rfl⟩
 ·simp_all[sn]
 ·unfold sn at A;rw[gD,getElem?_set]at A;by_cases U:cx x.length y.length (s,0,0)=cx x.length y.length d
  ·exact aX.2 (ZT P j U.symm)
  grind
theorem Xd(tb:BG h)(w:Wf h)(bd:Bnd M)(st:agD M)(r:iY h (ae a n c) M.aE):aW 3 [aq ⟨dK M a n c⟩] h (EQ h):=by
 obtain⟨K,ok⟩:=ni w r;refine Xc (dK M a n c) h _ ⟨_,qx M a n c,_,K.all,(aaF ok.wf bd K.row).mono ?_⟩;generalize h.push (Bm M a n c)=g1 at*;rintro _ g2 ⟨rfl,o2⟩;have f:=ok.trans o2;have k:=K.ok o2;refine⟨_,rfl,ay (λq=>Ii f) (λL=>?_)⟩;have U:=ack st L;unfold lrg at L;rw[Bool.or_eq_false_iff,decide_eq_false_iff_not,decide_eq_false_iff_not]at L;have X:M.aE.length<=8:=by omega
 have W:∀s∈M.aE,s.bG.length<=30:=λs I=>by have:=EN I;omega
 refine⟨_,k.all,(I0 (tb.ok f) f.wf U k.row).mono ?_⟩;rintro _ Q ⟨b,xa,N,xc,ya,G,yc,za,O,zc,er,rfl,o3,hF⟩;have D:=f.trans o3;have t:=k.ok o3;refine⟨_,_,_,_,_,_,_,_,_,_,_,rfl,_,t.all,(aeU D.wf U W t.row).mono ?_⟩;rintro _ g4 ⟨m,R,e2,rfl,hR⟩;have E:=D.trans m;have x1:=t.ok m;refine⟨_,_,rfl,?_⟩
 cases F:fH M with
 | false=>
  obtain⟨rfl,rfl,rfl,rfl,rfl⟩:b=ak/\N=0/\G=0/\O=0/\er=1:=by
   rcases hF with⟨_,h⟩|⟨h,_⟩|⟨h,_⟩
   ·exact h
   ·rw[F]at h;cases h
   ·rw[F]at h;cases h
  grind[ay,Ii]
 | true=>
  have v:=sS F;obtain⟨rfl,V⟩:e2=0/\(R=af↔Fe M):=by grind
  obtain⟨rfl,x0⟩:er=0/\((b=af/\N=0/\G=0/\O=0/\Fe M)\/(b=ak/\∃l l' x y z,Eh M l x y/\Eh M l' x z/\y≠z/\Rd Q 3 (ae xa N xc) (x.map zV)/\Rd Q 3 (ae ya G yc) (y.map zV)/\Rd Q 3 (ae za O zc) (z.map zV)/\x.length<=1000000/\y.length<=1000000/\z.length<=1000000)):=by grind
  refine ay (λq=>by cases q) λ_=>?_;rcases x0 with⟨rfl,rfl,rfl,rfl,hf⟩|⟨rfl,l,l',x,y,z,P,H,B,j,o,u,lx,ly,lz⟩
  ·grind[ay,Ii]
  ·obtain rfl:R=ak:=by
    cases R with
    |false=>rfl
    |true=>exact absurd (V.1 rfl _ _ _ _ _ P H) B
   refine ay (λq=>by cases q) λ_=>ay (λq=>by cases q) λ_=>ay (λq=>by cases q) λ_=>?_;obtain⟨_,p1,_⟩:=id P;obtain⟨_,p2,_⟩:=id H;have s1:=OT v p1;have s2:=OT v p2;have j:=j.ok m;have o:=o.ok m;have u:=u.ok m;refine(IC E.wf j (by omega) s1.1).mono ?_;rintro _ g5 ⟨rfl,J⟩;refine⟨_,_,rfl,(IC J.wf (o.ok J) (by omega) s1.2).mono ?_⟩;rintro _ g6 ⟨rfl,Y⟩;have A:=J.trans Y;refine⟨_,_,rfl,(IC Y.wf (u.ok A) (by omega) s2.2).mono ?_⟩;rintro _ g7 ⟨rfl,o7⟩;have p:=A.trans o7;refine⟨_,_,rfl,ay (λq=>by cases q) λ_=>ay (λq=>by cases q) λ_=>ay (λq=>by cases q) λ_=>(aaC o7.wf (o.ok p) (u.ok p) (by omega)).mono ?_⟩;rintro _ g8 ⟨rfl,o8⟩;have e:=p.trans o8;have d:=E.trans e;refine⟨_,rfl,ay (λq=>absurd (dT q) B) λ_=>ay (λ_=>Ii d) λq1=>ay (λ_=>Ii d) λZ=>ay (λ_=>Ii d) λT=>?_⟩;have q1:=dF q1;have Z:=dF Z;have T:=dF T;have g:=x1.ok e;have zB:∀s∈M.aE,s.bG.length<=2000:=λs I=>bK (W s I) (by decide);refine⟨_,g.all,(Vt d.wf v X zB g.row (j.ok e) (o.ok e) (by omega) (by omega) P).mono ?_⟩;rintro _ g9 ⟨rfl,i⟩;have C:=e.trans i;refine⟨_,rfl,ay (λ_=>?_) (λq=>by cases q)⟩;refine⟨_,(g.ok i).all,(Vt i.wf v X zB (g.ok i).row (j.ok C) (u.ok C) (by omega) (by omega) H).mono ?_⟩;rintro _ x2 ⟨rfl,S⟩;exact⟨_,rfl,ay (λ_=>Ii (d.trans (i.trans S))) (λq=>by cases q)⟩
end
end
end Go.Proofs.YtnlccnpbjeiccaaGreatDoor
end
section
namespace Go.Proofs.YtnlccnpbjeiccaaGreatDoor
open Go.Shelf Go.RowKit Go.Lib Go.Sort
def Ra:Go.Shelf.Ren:=⟨fun|5=>146|8=>142|7=>187|19=>185|20=>186|10=>216|11=>217|12=>218|13=>219|14=>220|15=>221|16=>222|17=>223|18=>224|30=>244|31=>212|32=>213|33=>245|34=>246|35=>175|40=>270|n=>n,fun|23=>27|25=>3|3=>3|32=>210|22=>27|0=>0|44=>238|46=>240|4=>4|36=>232|35=>231|41=>89|5=>5|9=>9|53=>264|57=>268|63=>286|64=>287|n=>n,fun|n=>n⟩
theorem afq:Go.Proofs.SlLaysM.n5 Tryz.prog Ra:={
 mixed:=by kernel_rfl,
 f5:=⟨Tryz.f146.name,by decide,Tryz.func146.trans (congrArg aa (by kernel_rfl))⟩,
 f7:=⟨Tryz.f187.name,by decide,Tryz.func187.trans (congrArg aa (by kernel_rfl))⟩,
 f8:=Tryz.func142.trans (congrArg aa (by kernel_rfl)),
 f10:=⟨Tryz.f216.name,by decide,Tryz.func216.trans (congrArg aa (by kernel_rfl))⟩,
 f11:=⟨Tryz.f217.name,by decide,Tryz.func217.trans (congrArg aa (by kernel_rfl))⟩,
 f12:=⟨Tryz.f218.name,by decide,Tryz.func218.trans (congrArg aa (by kernel_rfl))⟩,
 f13:=⟨Tryz.f219.name,by decide,Tryz.func219.trans (congrArg aa (by kernel_rfl))⟩,
 f14:=⟨Tryz.f220.name,by decide,Tryz.func220.trans (congrArg aa (by kernel_rfl))⟩,
 f15:=⟨Tryz.f221.name,by decide,Tryz.func221.trans (congrArg aa (by kernel_rfl))⟩,
 f16:=⟨Tryz.f222.name,by decide,Tryz.func222.trans (congrArg aa (by kernel_rfl))⟩,
 f17:=⟨Tryz.f223.name,by decide,Tryz.func223.trans (congrArg aa (by kernel_rfl))⟩,
 f18:=⟨Tryz.f224.name,by decide,Tryz.func224.trans (congrArg aa (by kernel_rfl))⟩,
 f19:=Tryz.func185.trans (congrArg aa (by kernel_rfl)),
 f20:=Tryz.func186.trans (congrArg aa (by kernel_rfl)),
 f30:=⟨Tryz.f244.name,by decide,Tryz.func244.trans (congrArg aa (by kernel_rfl))⟩,
 f31:=Tryz.func212.trans (congrArg aa (by kernel_rfl)),
 f32:=Tryz.func213.trans (congrArg aa (by kernel_rfl)),
 f33:=⟨Tryz.f245.name,by decide,Tryz.func245.trans (congrArg aa (by kernel_rfl))⟩,
 f34:=⟨Tryz.f246.name,by decide,Tryz.func246.trans (congrArg aa (by kernel_rfl))⟩,
 f35:=⟨Tryz.f175.name,by decide,Tryz.func175.trans (congrArg aa (by kernel_rfl))⟩,
 f40:=⟨Tryz.f270.name,by decide,Tryz.func270.trans (congrArg aa (by kernel_rfl))⟩,
 t0:=Tryz.underlying0,
 a0:=Tryz.isAgg0,
 z0:=Tryz.sizeOf0,
 v0:=Tryz.zeroValue0,
 t3:=Tryz.underlying3,
 a3:=Tryz.isAgg3,
 z3:=Tryz.sizeOf3,
 v3:=Tryz.zeroValue3,
 t4:=Tryz.underlying4,
 a4:=Tryz.isAgg4,
 z4:=Tryz.sizeOf4,
 v4:=Tryz.zeroValue4,
 t5:=Tryz.underlying5,
 a5:=Tryz.isAgg5,
 z5:=Tryz.sizeOf5,
 v5:=Tryz.zeroValue5,
 t9:=Tryz.underlying9,
 a9:=Tryz.isAgg9,
 z9:=Tryz.sizeOf9,
 v9:=Tryz.zeroValue9,
 t22:=Tryz.underlying27,
 a22:=Tryz.isAgg27,
 z22:=Tryz.sizeOf27,
 v22:=Tryz.zeroValue27,
 t23:=Tryz.underlying27,
 a23:=Tryz.isAgg27,
 z23:=Tryz.sizeOf27,
 v23:=Tryz.zeroValue27,
 t25:=Tryz.underlying3,
 a25:=Tryz.isAgg3,
 z25:=Tryz.sizeOf3,
 v25:=Tryz.zeroValue3,
 t32:=Tryz.underlying210,
 a32:=Tryz.isAgg210,
 z32:=Tryz.sizeOf210,
 v32:=Tryz.zeroValue210,
 t35:=Tryz.underlying231,
 a35:=Tryz.isAgg231,
 z35:=Tryz.sizeOf231,
 v35:=Tryz.zeroValue231,
 t36:=Tryz.underlying232,
 a36:=Tryz.isAgg232,
 z36:=Tryz.sizeOf232,
 v36:=Tryz.zeroValue232,
 t41:=Tryz.underlying89,
 a41:=Tryz.isAgg89,
 z41:=Tryz.sizeOf89,
 v41:=Tryz.zeroValue89,
 t44:=Tryz.underlying238,
 a44:=Tryz.isAgg238,
 z44:=Tryz.sizeOf238,
 v44:=Tryz.zeroValue238,
 t46:=Tryz.underlying240,
 a46:=Tryz.isAgg240,
 z46:=Tryz.sizeOf240,
 v46:=Tryz.zeroValue240,
 t53:=Tryz.underlying264,
 a53:=Tryz.isAgg264,
 z53:=Tryz.sizeOf264,
 v53:=Tryz.zeroValue264,
 t57:=Tryz.underlying268,
 a57:=Tryz.isAgg268,
 z57:=Tryz.sizeOf268,
 v57:=Tryz.zeroValue268,
 t63:=Tryz.underlying286,
 a63:=Tryz.isAgg286,
 z63:=Tryz.sizeOf286,
 v63:=Tryz.zeroValue286,
 t64:=Tryz.underlying287,
 a64:=Tryz.isAgg287,
 z64:=Tryz.sizeOf287,
 v64:=Tryz.zeroValue287 }
end Go.Proofs.YtnlccnpbjeiccaaGreatDoor
end
section
namespace Go.Proofs.YtnlccnpbjeiccaaGreatDoor
open Go Go.Ab Go.Num
theorem ajW:vJ Tryz.prog 24 [aA 1] (bu ⟨#[48]⟩):=qf tO Ha (n:=2000) (by kernel_rfl) (by kernel_rfl)
noncomputable def t24:List (List ah×ah):=[([aB an 1],bu ⟨#[48]⟩)]
theorem aie:yR Tryz.prog 24 t24:=sO ajW (by kernel_rfl) (xD)
theorem ahP:vJ Tryz.prog 203 [bu ⟨#[48]⟩] (ai af):=qf tO Ha (n:=2000) (by kernel_rfl) (by kernel_rfl)
theorem ahQ:vJ Tryz.prog 203 [bu ⟨#[49]⟩] (ai af):=qf tO Ha (n:=2000) (by kernel_rfl) (by kernel_rfl)
noncomputable def akd:List (List ah×ah):=[([bu ⟨#[48]⟩],ai af),([bu ⟨#[49]⟩],ai af)]
theorem afz:yR Tryz.prog 203 akd:=sO ahP (by kernel_rfl) (sO ahQ (by kernel_rfl) (xD))
noncomputable def lt1:th:=(24,.Nn t24)::(203,.Nn akd)::ahw
theorem aaR:tZ Tryz.prog AW lt1:=pR aie (pR afz (Ha))
theorem ahR:vJ Tryz.prog 204 [bu ⟨#[48]⟩,bu ⟨#[49]⟩] (.tuple #[bu ⟨#[49]⟩,aA 0]):=qf tO aaR (n:=2000) (by kernel_rfl) (by kernel_rfl)
noncomputable def ake:List (List ah×ah):=[([bu ⟨#[48]⟩,bu ⟨#[49]⟩],.tuple #[bu ⟨#[49]⟩,aB an 0])]
theorem afA:yR Tryz.prog 204 ake:=sO ahR (by kernel_rfl) (xD)
noncomputable def lt2:th:=(204,.Nn ake)::lt1
theorem aaS:tZ Tryz.prog AW lt2:=pR afA (aaR)
theorem ahO:vJ Tryz.prog 169 [bu ⟨#[48]⟩] (.tuple #[.agg #[ai ak,bu ⟨#[48]⟩,bu ⟨#[49]⟩],ai af]):=qf tO aaS (n:=2000) (by kernel_rfl) (by kernel_rfl)
noncomputable def akc:List (List ah×ah):=[([bu ⟨#[48]⟩],.tuple #[.agg #[ai ak,bu ⟨#[48]⟩,bu ⟨#[49]⟩],ai af])]
theorem afy:yR Tryz.prog 169 akc:=sO ahO (by kernel_rfl) (xD)
noncomputable def lt3:th:=(169,.Nn akc)::lt2
theorem aaT:tZ Tryz.prog AW lt3:=pR afy (aaS)
theorem ahN:vJ Tryz.prog 155 [bu ⟨#[48]⟩] (ai af):=qf tO aaT (n:=2000) (by kernel_rfl) (by kernel_rfl)
noncomputable def akb:List (List ah×ah):=[([bu ⟨#[48]⟩],ai af)]
theorem afx:yR Tryz.prog 155 akb:=sO ahN (by kernel_rfl) (xD)
noncomputable def lt4:th:=(155,.Nn akb)::lt3
theorem aaU:tZ Tryz.prog AW lt4:=pR afx (aaT)
theorem ajX:vJ Tryz.prog 73 [aA 1,bu ⟨#[48]⟩] (ai af):=qf tO aaU (n:=2000) (by kernel_rfl) (by kernel_rfl)
noncomputable def t73:List (List ah×ah):=[([aB an 1,bu ⟨#[48]⟩],ai af)]
theorem aif:yR Tryz.prog 73 t73:=sO ajX (by kernel_rfl) (xD)
noncomputable def lt5:th:=(73,.Nn t73)::lt4
theorem ahx:tZ Tryz.prog AW lt5:=pR aif (aaU)
end Go.Proofs.YtnlccnpbjeiccaaGreatDoor
end
