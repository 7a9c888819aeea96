/- Laws and walks that the proof leans on (part 3): W11; W12; W1; P1; W2; P2 and others. No condition. -/
import Derived.Test.YtnlccnpbjeiccaaGreatDoorPart2
set_option linter.unusedVariables false
set_option linter.unusedSimpArgs false
set_option maxRecDepth 100000
open BitVec renaming ofInt → di
open Bool renaming and_eq_true → bj, false → ak, false_eq_true → dM, true → af
open Go renaming Addr → aF, Oper → aR, Operand → bh, Program → aO, TypeId → aD, Value → ah
open Go.IntKind renaming bits → dA, i64 → an, u32 → aP, u64 → az, u8 → aK, wrap → aj
open Go.Value renaming agg → aq, bool → ai, func → aN, int → aB, pointer → aT, slice → ae, tuple → av
open Int renaming le_refl → fU, natCast_mul → gW, toNat_natCast → bn
open List renaming all_append → gX, all_cons → fR, all_eq_true → cw, append_assoc → cE, append_nil → cF, drop_eq_getElem_cons → db, drop_of_length_le → hW, drop_zero → bV, eq_nil_of_length_eq_zero → aY, length_append → bg, length_cons → bP, length_drop → cQ, length_map → aG, length_pos_iff → fL, length_replicate → bE, length_set → bT, length_singleton → bw, length_take → bo, map_append → bU, mem_append → bH, mem_of_mem_take → dN, mem_range → eL, mem_singleton → aX, nil_append → dq, range → dL, replicate → aH, take_add_one → eI, take_append_drop → ej, take_length → dX, take_of_length_le → bm, take_succ_eq_append_getElem → eQ, take_zero → dU
open Nat renaming add_zero → fh, beq → dx, blt → dj, div_eq_of_lt → ke, div_lt_of_lt_mul → eJ, eq_zero_or_pos → dB, le_add_right → dg, le_max_left → qw, le_max_right → pF, le_refl → aS, le_succ → fJ, le_trans → bK, lt_of_lt_of_le → cz, lt_or_ge → de, min_eq_left → dO, mod_add_div → kf, mod_eq_of_lt → eG, mod_lt → dP, mul_add → kX, mul_assoc → jh, mul_comm → dh, mul_le_mul → dC, mul_le_mul_left → fi, mul_one → df, mul_zero → iD, pow_le_pow_right → dG, pow_succ → gb, zero_add → bO, zero_le → cr, zero_mul → iE
open Option renaming some → aa
open Option.some renaming inj → aC
open UInt8 renaming toNat_inj → fQ
open List (getElem?_eq_none getElem?_map map_drop map_take take_take)
open Nat (le_of_lt max_le mul_pos pow_add sub_zero)
open Go.IntKind (wrap_i64)
section
namespace Go.Proofs.YtnlccnpbjeiccaaGreatDoor
open Go Go.Ab Go.Num
variable{s:List UInt8}{t:List UInt8}{z:Int}{v:ah}{w:ah}{h:aw}{Q:VH}{b:Bool}
noncomputable def Wt:FD:=gT Tryz.f236 []
theorem Sb(l m:LB)(h:aw)(Q:VH)(c:aW 258 [(strOf l),(strOf m)] h λe a=>yB e λb=>cp (!b) (Q (av ⟨[(strOf l),(ai ak)]⟩) a) (xS (cY au 9 (strOf l) (aa (aA (m.length:Int))) none none a) λd=>Q (av ⟨[(strOf d),(ai af)]⟩) a)):aW 236 [(strOf l),(strOf m)] h Q:=gZ Wt Tryz.func236 (bF c)
noncomputable def ZS:FD:=gT Tryz.f201 []
theorem Wu(l m:LB)(h:aw)(Q:VH)(c:aW 236 [(strOf l),(strOf m)] h λe d=>∃b:LB,∃a:Bool,e=(av ⟨[(strOf b),(ai a)]⟩)/\Q (av ⟨[(strOf b),(ai a)]⟩) d):aW 201 [(strOf l),(strOf m)] h Q:=gZ ZS Tryz.func201 (bF c)
noncomputable def SC:FD:=gT Tryz.f279 []
theorem PN(l:LB)(c:Int)(h:aw)(Q:VH)(b:aW 290 [(strOf l),(aB aK c)] h λe d=>yI an e λa=>Q (aA a) d):aW 279 [(strOf l),(aB aK c)] h Q:=gZ SC Tryz.func279 (bF b)
noncomputable def aaw:FD:=gT Tryz.f259 []
theorem WV(l:LB)(h:aw)(Q:VH)(d:cp (([47]:LB)==l) (Q (aA 0) h) (xI aK (dR au 9 (strOf [47]) (aA 0)) λa=>aW 279 [(strOf l),(aB aK a)] h λb c=>yI an b λe=>Q (aA e) c)):aW 259 [(strOf l),(strOf [47])] h Q:=gZ aaw Tryz.func259 (bF d)
noncomputable def ahd:FD:=gT Tryz.f237 []
theorem adL(l:LB)(h:aw)(Q:VH)(c:aW 259 [(strOf l),(strOf [47])] h λe a=>yI an e λb=>cp (decide (b>=0)) (xS (cY au 9 (strOf l) none (aa (aA b)) none (room a 12)) λd=>xS (cY au 9 (strOf l) (aa (aA (aj an (b+1)))) none none (room a 12)) λf=>Q (av ⟨[(strOf d),(strOf f),(ai af)]⟩) (room a 12)) (Q (av ⟨[(strOf l),(strOf []),(ai ak)]⟩) a)):aW 237 [(strOf l),(strOf [47])] h Q:=gZ ahd Tryz.func237 (bF c)
noncomputable def aje:FD:=gT Tryz.f202 []
theorem ahe(l:LB)(h:aw)(Q:VH)(d:aW 237 [(strOf l),(strOf [47])] h λf e=>∃a:LB,∃c:LB,∃b:Bool,f=(av ⟨[(strOf a),(strOf c),(ai b)]⟩)/\Q (av ⟨[(strOf a),(strOf c),(ai b)]⟩) e):aW 202 [(strOf l),(strOf [47])] h Q:=gZ aje Tryz.func202 (bF d)
noncomputable def sG:FD:=gT Tryz.f247 [((pq 37),[0,1,5])]
abbrev nK(l:LB)(c:Int)(i:Nat):LV:=[(strOf l),(aB aK c),(iA i)]
theorem NU(l:LB)(c:Int)(h:aw)(Q:VH)(a:cq sG (pq 37) (nK l c 0) h (ez sG (pq 21) Q)):aW 247 [(strOf l),(aB aK c)] h Q:=gZ sG Tryz.func247 (bF a)
theorem zF(l:LB)(c:Int)  (b:Nat->Nat->aw->Prop) (Q:VH) (step:∀(a:Nat)(i:Nat)(e:Nat->ah)(h:aw),b a i h->cp (decide ((i:Int)<(l.length:Int))) (xI aK (dR au 9 (strOf l) (iA i)) λf=>cp ((f==c)) (Q (iA i) h) (cB (mw (nK l c) b) a [(strOf l),(aB aK c),(aA (aj an ((i:Int)+1)))] h)) (Q (aA (-1)) h)) (a:Nat) {i:Nat} {h:aw} (d:b a i h):cq sG (pq 37) (nK l c i) h (ez sG (pq 21) Q):=
 gP (nK l c) b (λa i e h d=>bF (step a i e h d)) a d
noncomputable def QN:FD:=gT Tryz.f248 []
theorem NX(l:LB)(h:aw)(Q:VH)(b:cp (decide ((l.length:Int)<=400)) (aW 271 [(strOf l)] h λd c=>yB d λa=>Q (ai a) c) (Q (ai ak) h)):aW 248 [(strOf l)] h Q:=gZ QN Tryz.func248 (bF b)
noncomputable def bW:FD:=gT Tryz.f225 []
abbrev FN(l:LB)(cc:Code)(h:aw)(Q:VH):Prop:=cp (decide ((l.length:Int)>0)) (xI aK (dR au 9 (strOf l) (aA 0)) λc=>cp ((c==45)) (xS (cY au 9 (strOf l) (aa (aA 1)) none none h) λe=>aW 247 [(strOf e),(aB aK 47)] h λr g=>yI an r λd=>cp (decide (d>=0)) (xS (cY au 9 (strOf e) (aa (aA (aj an (d+1)))) none none g) λp=>xS (cY au 9 (strOf e) none (aa (aA d)) none g) λo=>wpS SS bW.nm bW.ms (pq 127) cc (uN [(strOf l),undef,(ai ak),(strOf []),(strOf []),(ai ak),(strOf o),(strOf p),(ai ((c==45))),(aA d),undef,undef,(strOf l),(strOf l),(aA (l.length:Int)),(ai (decide ((l.length:Int)>0))),(ai af),(strOf l),(aB aK c),(ai ((c==45))),(ai ((c==45))),(ai ((c==45))),(strOf l),(strOf e),(strOf e),(aA d),(aA d),(ai (decide (d>=0))),(strOf e),(aA d),(aA (aj an (d+1))),(strOf p),(strOf e),(aA d),(strOf o)] 46) g (kU bW Q)) (wpS SS bW.nm bW.ms (pq 127) cc (uN [(strOf l),undef,(ai ak),(strOf []),(strOf []),(ai ak),(strOf e),(strOf [49]),(ai ((c==45))),(aA d),undef,undef,(strOf l),(strOf l),(aA (l.length:Int)),(ai (decide ((l.length:Int)>0))),(ai af),(strOf l),(aB aK c),(ai ((c==45))),(ai ((c==45))),(ai ((c==45))),(strOf l),(strOf e),(strOf e),(aA d),(aA d),(ai (decide (d>=0)))] 53) g (kU bW Q))) (aW 247 [(strOf l),(aB aK 47)] h λs i=>yI an s λb=>cp (decide (b>=0)) (xS (cY au 9 (strOf l) (aa (aA (aj an (b+1)))) none none i) λn=>xS (cY au 9 (strOf l) none (aa (aA b)) none i) λk=>wpS SS bW.nm bW.ms (pq 127) cc (uN [(strOf l),undef,(ai ak),(strOf []),(strOf []),(ai ak),(strOf k),(strOf n),(ai ((c==45))),(aA b),undef,undef,(strOf l),(strOf l),(aA (l.length:Int)),(ai (decide ((l.length:Int)>0))),(ai af),(strOf l),(aB aK c),(ai ((c==45))),(ai ((c==45))),(ai ((c==45))),undef,undef,(strOf l),(aA b),(aA b),(ai (decide (b>=0))),(strOf l),(aA b),(aA (aj an (b+1))),(strOf n),(strOf l),(aA b),(strOf k)] 46) i (kU bW Q)) (wpS SS bW.nm bW.ms (pq 127) cc (uN [(strOf l),undef,(ai ak),(strOf []),(strOf []),(ai ak),(strOf l),(strOf [49]),(ai ((c==45))),(aA b),undef,undef,(strOf l),(strOf l),(aA (l.length:Int)),(ai (decide ((l.length:Int)>0))),(ai af),(strOf l),(aB aK c),(ai ((c==45))),(ai ((c==45))),(ai ((c==45))),undef,undef,(strOf l),(aA b),(aA b),(ai (decide (b>=0)))] 53) i (kU bW Q)))) (aW 247 [(strOf l),(aB aK 47)] h λq f=>yI an q λa=>cp (decide (a>=0)) (xS (cY au 9 (strOf l) (aa (aA (aj an (a+1)))) none none f) λm=>xS (cY au 9 (strOf l) none (aa (aA a)) none f) λj=>wpS SS bW.nm bW.ms (pq 127) cc (uN [(strOf l),undef,(ai ak),(strOf []),(strOf []),(ai ak),(strOf j),(strOf m),(ai ak),(aA a),undef,undef,(strOf l),(strOf l),(aA (l.length:Int)),(ai (decide ((l.length:Int)>0))),(ai ak),undef,undef,undef,(ai ak),(ai ak),undef,undef,(strOf l),(aA a),(aA a),(ai (decide (a>=0))),(strOf l),(aA a),(aA (aj an (a+1))),(strOf m),(strOf l),(aA a),(strOf j)] 46) f (kU bW Q)) (wpS SS bW.nm bW.ms (pq 127) cc (uN [(strOf l),undef,(ai ak),(strOf []),(strOf []),(ai ak),(strOf l),(strOf [49]),(ai ak),(aA a),undef,undef,(strOf l),(strOf l),(aA (l.length:Int)),(ai (decide ((l.length:Int)>0))),(ai ak),undef,undef,undef,(ai ak),(ai ak),undef,undef,(strOf l),(aA a),(aA a),(ai (decide (a>=0)))] 53) f (kU bW Q)))
theorem NW(l:LB)(h:aw)(Q:VH)(a:FN l (oO (pq 127) bW.body) h Q):aW 225 [(strOf l)] h Q:=by
 have e:∀cc,FN l cc h Q=wpS SS bW.nm bW.ms [] (setAt (pq 127) cc bW.body) ([(strOf l)]++aH (bW.nm-([(strOf l)]:LV).length) undef) h (kU bW Q):=λcc=>by kernel_rfl
 have e:=e (oO (pq 127) bW.body);rw[mY]at e;exact gZ bW Tryz.func225 (bF a e)
abbrev zG(n d:LB)(neg:Bool)(a:Int)(cc:Code)(Z x1 X x3 Y W K L m H x P U G O M o l k w z V J B s I D p S i j x7 y9 u5 u4 y8 y3 y1 y6 z2 y0 x9 u0 u6 u3 z4 u2 z5 y5 x8 z9 x6 u1 z6 z7 y7 z8 y4 z1 z3 z0 y2 q t C r u A T E F y f g v N R:ah)(h:aw)(Q:VH):Prop:=aW 248 [(strOf n)] h λv1 h2=>yB v1 λe=>cp (!e) (Q (av ⟨[(ai ak),(strOf []),(strOf []),(ai ak)]⟩) h2) (aW 248 [(strOf d)] h2 λv4 c=>yB v4 λb=>cp (!b) (Q (av ⟨[(ai ak),(strOf []),(strOf []),(ai ak)]⟩) c) (cp ((d:LB)==[48]) (Q (av ⟨[(ai ak),(strOf []),(strOf []),(ai ak)]⟩) c) (cp ((n:LB)==[48]) (cp neg (Q (av ⟨[(ai ak),(strOf []),(strOf []),(ai ak)]⟩) c) (cp (decide ((a:Int)>=0)) (Q (av ⟨[(ai ak),(strOf []),(strOf []),(ai ak)]⟩) c) (cp ((d:LB)==[49]) (cp (decide ((a:Int)>=0)) (Q (av ⟨[(ai ak),(strOf []),(strOf []),(ai ak)]⟩) c) (wpS SS bW.nm bW.ms (pq 255) cc [Z,x1,X,x3,Y,W,(strOf n),(strOf d),(ai neg),(aA a),K,L,m,H,x,P,U,G,O,M,o,l,k,w,z,V,J,B,s,I,D,p,S,i,j,(strOf n),(ai e),(ai (!e)),(ai ak),(strOf d),(ai b),(ai (!b)),(ai (!b)),(ai ak),(strOf d),(ai ((d:LB)==[48])),(ai ((d:LB)==[48])),(ai ak),(strOf n),(ai ((n:LB)==[48])),(ai af),(ai neg),(ai ak),(aA a),(ai (decide ((a:Int)>=0))),(ai (decide ((a:Int)>=0))),(ai (decide ((a:Int)>=0))),(ai (decide ((a:Int)>=0))),(ai ak),(strOf d),(ai ((d:LB)==[49])),(ai af),(aA a),(ai (decide ((a:Int)>=0))),(ai (decide ((a:Int)>=0))),(ai (decide ((a:Int)>=0))),q,t,C,r,u,A,T,E,F,y,f,g,v,N,R] c (kU bW Q))) (wpS SS bW.nm bW.ms (pq 255) cc [Z,x1,X,x3,Y,W,(strOf n),(strOf d),(ai neg),(aA a),K,L,m,H,x,P,U,G,O,M,o,l,k,w,z,V,J,B,s,I,D,p,S,i,j,(strOf n),(ai e),(ai (!e)),(ai ak),(strOf d),(ai b),(ai (!b)),(ai (!b)),(ai ak),(strOf d),(ai ((d:LB)==[48])),(ai ((d:LB)==[48])),(ai ak),(strOf n),(ai ((n:LB)==[48])),(ai af),(ai neg),(ai ak),(aA a),(ai (decide ((a:Int)>=0))),(ai (decide ((a:Int)>=0))),(ai (decide ((a:Int)>=0))),(ai (decide ((a:Int)>=0))),(ai ak),(strOf d),(ai ((d:LB)==[49])),(ai ak),undef,undef,(ai ak),(ai ak),q,t,C,r,u,A,T,E,F,y,f,g,v,N,R] c (kU bW Q))))) (cp ((d:LB)==[49]) (cp (decide ((a:Int)>=0)) (Q (av ⟨[(ai ak),(strOf []),(strOf []),(ai ak)]⟩) c) (wpS SS bW.nm bW.ms (pq 255) cc [Z,x1,X,x3,Y,W,(strOf n),(strOf d),(ai neg),(aA a),K,L,m,H,x,P,U,G,O,M,o,l,k,w,z,V,J,B,s,I,D,p,S,i,j,(strOf n),(ai e),(ai (!e)),(ai ak),(strOf d),(ai b),(ai (!b)),(ai (!b)),(ai ak),(strOf d),(ai ((d:LB)==[48])),(ai ((d:LB)==[48])),(ai ak),(strOf n),(ai ((n:LB)==[48])),(ai ak),undef,undef,undef,undef,undef,(ai ak),(ai ak),(ai ak),(strOf d),(ai ((d:LB)==[49])),(ai af),(aA a),(ai (decide ((a:Int)>=0))),(ai (decide ((a:Int)>=0))),(ai (decide ((a:Int)>=0))),q,t,C,r,u,A,T,E,F,y,f,g,v,N,R] c (kU bW Q))) (wpS SS bW.nm bW.ms (pq 255) cc [Z,x1,X,x3,Y,W,(strOf n),(strOf d),(ai neg),(aA a),K,L,m,H,x,P,U,G,O,M,o,l,k,w,z,V,J,B,s,I,D,p,S,i,j,(strOf n),(ai e),(ai (!e)),(ai ak),(strOf d),(ai b),(ai (!b)),(ai (!b)),(ai ak),(strOf d),(ai ((d:LB)==[48])),(ai ((d:LB)==[48])),(ai ak),(strOf n),(ai ((n:LB)==[48])),(ai ak),undef,undef,undef,undef,undef,(ai ak),(ai ak),(ai ak),(strOf d),(ai ((d:LB)==[49])),(ai ak),undef,undef,(ai ak),(ai ak),q,t,C,r,u,A,T,E,F,y,f,g,v,N,R] c (kU bW Q))))))
theorem GN{neg:Bool}{x2 x3 x4 x5 y4 y6 x y0 N z2 z9 x9 z1 y8 y p m M P u2 y3 U H y2 Y D z7 f l d C u0 z6 B o k u R j i y7 u1 z4 V z3 X r g y5 a y9 Z x7 A y1 q K S G n E I W F J T z8 x6 x8 O b c L z0 z5:ah}(hx:zG s t neg z (oO (pq 255) bW.body) v w x2 x3 x4 x5 y4 y6 x y0 N z2 z9 x9 z1 y8 y p m M P u2 y3 U H y2 Y D z7 f l d C u0 z6 B o k u R j i y7 u1 z4 V z3 X r g y5 a y9 Z x7 A y1 q K S G n E I W F J T z8 x6 x8 O b c L z0 z5 h Q):TT SS bW (pq 127) [v,w,x2,x3,x4,x5,(strOf s),(strOf t),(ai neg),(aA z),y4,y6,x,y0,N,z2,z9,x9,z1,y8,y,p,m,M,P,u2,y3,U,H,y2,Y,D,z7,f,l,d,C,u0,z6,B,o,k,u,R,j,i,y7,u1,z4,V,z3,X,r,g,y5,a,y9,Z,x7,A,y1,q,K,S,G,n,E,I,W,F,J,T,z8,x6,x8,O,b,c,L,z0,z5] h (kU bW Q):=by
 have e:∀cc,zG s t neg z cc v w x2 x3 x4 x5 y4 y6 x y0 N z2 z9 x9 z1 y8 y p m M P u2 y3 U H y2 Y D z7 f l d C u0 z6 B o k u R j i y7 u1 z4 V z3 X r g y5 a y9 Z x7 A y1 q K S G n E I W F J T z8 x6 x8 O b c L z0 z5 h Q=wpS SS bW.nm bW.ms (pq 127) (setAt [1] cc (oO (pq 127) bW.body)) [v,w,x2,x3,x4,x5,(strOf s),(strOf t),(ai neg),(aA z),y4,y6,x,y0,N,z2,z9,x9,z1,y8,y,p,m,M,P,u2,y3,U,H,y2,Y,D,z7,f,l,d,C,u0,z6,B,o,k,u,R,j,i,y7,u1,z4,V,z3,X,r,g,y5,a,y9,Z,x7,A,y1,q,K,S,G,n,E,I,W,F,J,T,z8,x6,x8,O,b,c,L,z0,z5] h (kU bW Q):=λcc=>by kernel_rfl
 have e:=e (oO (pq 255) bW.body);have ec:(oO (pq 255) bW.body)=oO [1] (oO (pq 127) bW.body):=by kernel_rfl
 have es:setAt [1] (oO (pq 255) bW.body) (oO (pq 127) bW.body)=oO (pq 127) bW.body:=by rw[ec,mY]
 rw[es]at e;exact bF hx e
theorem GO{neg:Bool}{x2 x3 x4 x5 y4 y6 x y0 N z2 z9 x9 z1 y8 y p m M P u2 y3 U H y2 Y D z7 f l e C u0 z6 B o k u R j i y7 u1 z4 V z3 X r g y5 b y9 Z x7 A y1 q K S G n E I W F J T z8 x6 x8 O c d L z0 z5:ah}(hx:aW 249 [(strOf s),(strOf t)] h λv1 a=>∃l3:LB,∃n4:Int,v1=(av ⟨[(strOf l3),(aA n4)]⟩)/\cp (!((l3:LB)==[49])) (cp (!((t:LB)==[49])) (Q (av ⟨[(ai ak),(strOf []),(strOf []),(ai ak)]⟩) a) (Q (av ⟨[(ai neg),(strOf s),(strOf t),(ai af)]⟩) a)) (Q (av ⟨[(ai neg),(strOf s),(strOf t),(ai af)]⟩) a)):TT SS bW (pq 255) [v,w,x2,x3,x4,x5,(strOf s),(strOf t),(ai neg),(aA z),y4,y6,x,y0,N,z2,z9,x9,z1,y8,y,p,m,M,P,u2,y3,U,H,y2,Y,D,z7,f,l,e,C,u0,z6,B,o,k,u,R,j,i,y7,u1,z4,V,z3,X,r,g,y5,b,y9,Z,x7,A,y1,q,K,S,G,n,E,I,W,F,J,T,z8,x6,x8,O,c,d,L,z0,z5] h (kU bW Q):=bF hx
noncomputable def QP:FD:=gT Tryz.f188 []
theorem NZ(l:LB)(h:aw)(Q:VH)(c:aW 225 [(strOf l)] h λf d=>∃b:Bool,∃e:LB,∃g:LB,∃a:Bool,f=(av ⟨[(ai b),(strOf e),(strOf g),(ai a)]⟩)/\Q (ai a) d):aW 188 [(strOf l)] h Q:=gZ QP Tryz.func188 (bF c)
noncomputable def QO:FD:=gT Tryz.f227 []
theorem NY(l m:LB)(h:aw)(Q:VH)(b:aW 253 [(strOf l),(strOf m)] h λd c=>∃a:LB,∃e:Int,d=(av ⟨[(strOf a),(aA e)]⟩)/\Q (strOf a) c):aW 227 [(strOf l),(strOf m)] h Q:=gZ QO Tryz.func227 (bF b)
noncomputable def Yf:FD:=gT Tryz.f226 []
theorem Tx(p:Bool)(l:LB)(q:Bool)(m:LB)(h:aw)(Q:VH)(k:cp (p==q) (aW 250 [(strOf l),(strOf m)] h λt n=>∃f:LB,∃u:Int,t=(av ⟨[(strOf f),(aA u)]⟩)/\Q (av ⟨[(ai p),(strOf f)]⟩) n) (aW 251 [(strOf l),(strOf m)] h λr g=>yI an r λs=>cp (decide (s>=0)) (aW 252 [(strOf l),(strOf m)] g λj o=>∃b:LB,∃e:Int,j=(av ⟨[(strOf b),(aA e)]⟩)/\Q (av ⟨[(ai p),(strOf b)]⟩) o) (aW 252 [(strOf m),(strOf l)] g λc i=>∃a:LB,∃d:Int,c=(av ⟨[(strOf a),(aA d)]⟩)/\Q (av ⟨[(ai q),(strOf a)]⟩) i))):aW 226 [(ai p),(strOf l),(ai q),(strOf m)] h Q:=gZ Yf Tryz.func226 (bF k)
noncomputable def Ye:FD:=gT Tryz.f189 []
theorem Tv(l m:LB)(h:aw)(Q:VH)(x:aW 225 [(strOf l)] h λz y=>∃j:Bool,∃s:LB,∃v:LB,∃k:Bool,z=(av ⟨[(ai j),(strOf s),(strOf v),(ai k)]⟩)/\aW 225 [(strOf m)] y λw g=>∃p:Bool,∃c:LB,∃f:LB,∃e:Bool,w=(av ⟨[(ai p),(strOf c),(strOf f),(ai e)]⟩)/\cp (!k) (Q (aA 0) g) (cp (!e) (Q (aA 0) g) (aW 227 [(strOf s),(strOf f)] g λr t=>yS r λi=>aW 227 [(strOf c),(strOf v)] t λn o=>yS n λu=>aW 226 [(ai j),(strOf i),(ai (!p)),(strOf u)] o λq a=>∃b:Bool,∃d:LB,q=(av ⟨[(ai b),(strOf d)]⟩)/\cp ((d:LB)==[48]) (Q (aA 0) a) (cp b (Q (aA (-1)) a) (Q (aA 1) a))))):aW 189 [(strOf l),(strOf m)] h Q:=gZ Ye Tryz.func189 (bF x)
noncomputable def XX:FD:=gT Tryz.f171 []
theorem Tl(l:LB)(e:Int)(h:aw)(Q:VH)(a:cp (((e:Int) !=0)) (xA (cI au 259 []) λb=>False) (Q (strOf l) h)):aW 171 [(strOf l),(aA e)] h Q:=gZ XX Tryz.func171 (bF a)
noncomputable def bM:FD:=gT Tryz.f169 []
abbrev I6(l:LB)(cc:Code)(h:aw)(Q:VH):Prop:=xN (cD au 222) h λm j=>aW 201 [(strOf l),(strOf [45])] j λg k=>∃c:LB,∃d:Bool,g=(av ⟨[(strOf c),(ai d)]⟩)/\aW 202 [(strOf c),(strOf [47])] k λi f=>∃e:LB,∃b:LB,∃a:Bool,i=(av ⟨[(strOf e),(strOf b),(ai a)]⟩)/\cp (!a) (wpS SS bM.nm bM.ms (pq 31) cc (uN [(strOf l),undef,(pA (h.ax)),(ai ak),(strOf c),(ai d),(strOf e),(strOf [49]),(ai a),undef,undef,(av ⟨[(strOf c),(ai d)]⟩),(strOf l),(av ⟨[(strOf c),(ai d)]⟩),(strOf c),(ai d),(av ⟨[(strOf e),(strOf b),(ai a)]⟩),(strOf c),(av ⟨[(strOf e),(strOf b),(ai a)]⟩),(strOf e),(strOf b),(ai a),(ai a),(ai (!a))] 53) f (kU bM Q)) (wpS SS bM.nm bM.ms (pq 31) cc (uN [(strOf l),undef,(pA (h.ax)),(ai ak),(strOf c),(ai d),(strOf e),(strOf b),(ai a),undef,undef,(av ⟨[(strOf c),(ai d)]⟩),(strOf l),(av ⟨[(strOf c),(ai d)]⟩),(strOf c),(ai d),(av ⟨[(strOf e),(strOf b),(ai a)]⟩),(strOf c),(av ⟨[(strOf e),(strOf b),(ai a)]⟩),(strOf e),(strOf b),(ai a),(ai a),(ai (!a))] 53) f (kU bM Q))
theorem QJ(l:LB)(h:aw)(Q:VH)(a:I6 l (oO (pq 31) bM.body) h Q):aW 169 [(strOf l)] h Q:=by
 have e:∀cc,I6 l cc h Q=wpS SS bM.nm bM.ms [] (setAt (pq 31) cc bM.body) ([(strOf l)]++aH (bM.nm-([(strOf l)]:LV).length) undef) h (kU bM Q):=λcc=>by kernel_rfl
 have e:=e (oO (pq 31) bM.body);rw[mY]at e;exact gZ bM Tryz.func169 (bF a e)
abbrev Bn(n d:LB)(neg r:Bool)(p:aF)(cc:Code)(x0 x1 x3 x4 x9 Z x5 v X G y1 y6 W y0 x7 w q m F z9 u9 u4 u1 z8 u3 u2 z7 u7 z0 z2 y9 z6 u8 u6 z5 z3 z1 u I l j x6 y7 y3 N y2 P t i x2 f x8 S U x Y s E J A o y C O z D K y4 T V H g:ah)(h:aw)(Q:VH):Prop:=aW 203 [(strOf n)] h λv1 e=>yB v1 λc=>cp (!c) (xA (cI au 222 []) λc4=>xU (aQ au 222 (bN p) (aq ⟨c4⟩) e) e λu5 g6=>gI SS [((bN p),aa 222),((ai ak),none)] g6 Q) (aW 203 [(strOf d)] e λv7 a=>yB v7 λb=>cp (!b) (xA (cI au 222 []) λy5=>xU (aQ au 222 (bN p) (aq ⟨y5⟩) a) a λz4 k=>gI SS [((bN p),aa 222),((ai ak),none)] k Q) (cp (decide ((n.length:Int)>400)) (xA (cI au 222 []) λM=>xU (aQ au 222 (bN p) (aq ⟨M⟩) a) a λy8 L=>gI SS [((bN p),aa 222),((ai ak),none)] L Q) (cp (decide ((d.length:Int)>400)) (xA (cI au 222 []) λR=>xU (aQ au 222 (bN p) (aq ⟨R⟩) a) a λu0 B=>gI SS [((bN p),aa 222),((ai ak),none)] B Q) (wpS SS bM.nm bM.ms (pq 63) cc [x0,x1,(bN p),x3,x4,(ai neg),(strOf n),(strOf d),(ai r),x9,Z,x5,v,X,G,y1,y6,W,y0,x7,w,q,m,F,(strOf n),(ai c),(ai (!c)),(ai ak),(strOf d),(ai b),(ai (!b)),(ai (!b)),(ai ak),(strOf n),(aA (n.length:Int)),(ai (decide ((n.length:Int)>400))),(ai (decide ((n.length:Int)>400))),(ai ak),(strOf d),(aA (d.length:Int)),(ai (decide ((d.length:Int)>400))),(ai (decide ((d.length:Int)>400))),u,I,l,j,x6,y7,y3,N,y2,P,t,i,x2,f,x8,S,U,x,Y,s,E,J,A,o,y,C,O,z,D,K,y4,T,V,H,g] a (kU bM Q)))))
theorem I7{neg:Bool}{p:aF}{x3 x4 x9 y2 y4 y x7 M y9 z5 x6 y8 y6 z q m L O z8 y1 T H y0 X D z3 f l d C z6 z2 B o k x P j i y5 z7 z1 U z0 W u g y3 a y7 Y x2 A x8 r K R G n E I V F J S z4 Z x5 N c:ah}(hx:Bn s t neg b p (oO (pq 63) bM.body) v w x3 x4 x9 y2 y4 y x7 M y9 z5 x6 y8 y6 z q m L O z8 y1 T H y0 X D z3 f l d C z6 z2 B o k x P j i y5 z7 z1 U z0 W u g y3 a y7 Y x2 A x8 r K R G n E I V F J S z4 Z x5 N c h Q):TT SS bM (pq 31) [v,w,(bN p),x3,x4,(ai neg),(strOf s),(strOf t),(ai b),x9,y2,y4,y,x7,M,y9,z5,x6,y8,y6,z,q,m,L,O,z8,y1,T,H,y0,X,D,z3,f,l,d,C,z6,z2,B,o,k,x,P,j,i,y5,z7,z1,U,z0,W,u,g,y3,a,y7,Y,x2,A,x8,r,K,R,G,n,E,I,V,F,J,S,z4,Z,x5,N,c] h (kU bM Q):=by
 have e:∀cc,Bn s t neg b p cc v w x3 x4 x9 y2 y4 y x7 M y9 z5 x6 y8 y6 z q m L O z8 y1 T H y0 X D z3 f l d C z6 z2 B o k x P j i y5 z7 z1 U z0 W u g y3 a y7 Y x2 A x8 r K R G n E I V F J S z4 Z x5 N c h Q=wpS SS bM.nm bM.ms (pq 31) (setAt [1] cc (oO (pq 31) bM.body)) [v,w,(bN p),x3,x4,(ai neg),(strOf s),(strOf t),(ai b),x9,y2,y4,y,x7,M,y9,z5,x6,y8,y6,z,q,m,L,O,z8,y1,T,H,y0,X,D,z3,f,l,d,C,z6,z2,B,o,k,x,P,j,i,y5,z7,z1,U,z0,W,u,g,y3,a,y7,Y,x2,A,x8,r,K,R,G,n,E,I,V,F,J,S,z4,Z,x5,N,c] h (kU bM Q):=λcc=>by kernel_rfl
 have e:=e (oO (pq 63) bM.body);have ec:(oO (pq 63) bM.body)=oO [1] (oO (pq 31) bM.body):=by kernel_rfl
 have es:setAt [1] (oO (pq 63) bM.body) (oO (pq 31) bM.body)=oO (pq 31) bM.body:=by rw[ec,mY]
 rw[es]at e;exact bF hx e
abbrev Bo(n d:LB)(neg a:Bool)(p:aF)(cc:Code)(x0 x1 x3 x4 x9 U V q P E Y x6 O X W r l i D G x8 T J z S L v x2 e g c u x7 Z t k f o z1 y8 y7 z7 u1 u0 z2 z9 z3 z0 y6 z6 y5 z8 z4 z5 s R m C H y j w A K x B I x5 M N F b:ah)(h:aw)(Q:VH):Prop:=cp neg (cp ((n:LB)==[48]) (xA (cI au 222 []) λc1=>xU (aQ au 222 (bN p) (aq ⟨c1⟩) h) h λu2 g3=>gI SS [((bN p),aa 222),((ai ak),none)] g3 Q) (cp a (cp ((d:LB)==[48]) (xA (cI au 222 []) λc4=>xU (aQ au 222 (bN p) (aq ⟨c4⟩) h) h λu5 g6=>gI SS [((bN p),aa 222),((ai ak),none)] g6 Q) (cp ((d:LB)==[49]) (xA (cI au 222 []) λc7=>xU (aQ au 222 (bN p) (aq ⟨c7⟩) h) h λu8 g9=>gI SS [((bN p),aa 222),((ai ak),none)] g9 Q) (wpS SS bM.nm bM.ms (pq 127) cc [x0,x1,(bN p),x3,x4,(ai neg),(strOf n),(strOf d),(ai a),x9,U,V,q,P,E,Y,x6,O,X,W,r,l,i,D,G,x8,T,J,z,S,L,v,x2,e,g,c,u,x7,Z,t,k,f,o,(ai neg),(ai af),(strOf n),(ai ((n:LB)==[48])),(ai ((n:LB)==[48])),(ai ak),(ai a),(ai af),(strOf d),(ai ((d:LB)==[48])),(ai ak),(strOf d),(ai ((d:LB)==[49])),(ai ((d:LB)==[49])),(ai ((d:LB)==[49])),(ai ((d:LB)==[49])),s,R,m,C,H,y,j,w,A,K,x,B,I,x5,M,N,F,b] h (kU bM Q)))) (wpS SS bM.nm bM.ms (pq 127) cc [x0,x1,(bN p),x3,x4,(ai neg),(strOf n),(strOf d),(ai a),x9,U,V,q,P,E,Y,x6,O,X,W,r,l,i,D,G,x8,T,J,z,S,L,v,x2,e,g,c,u,x7,Z,t,k,f,o,(ai neg),(ai af),(strOf n),(ai ((n:LB)==[48])),(ai ((n:LB)==[48])),(ai ak),(ai a),(ai ak),undef,undef,undef,undef,undef,undef,(ai ak),(ai ak),s,R,m,C,H,y,j,w,A,K,x,B,I,x5,M,N,F,b] h (kU bM Q)))) (cp a (cp ((d:LB)==[48]) (xA (cI au 222 []) λy3=>xU (aQ au 222 (bN p) (aq ⟨y3⟩) h) h λy9 y0=>gI SS [((bN p),aa 222),((ai ak),none)] y0 Q) (cp ((d:LB)==[49]) (xA (cI au 222 []) λy2=>xU (aQ au 222 (bN p) (aq ⟨y2⟩) h) h λy4 y1=>gI SS [((bN p),aa 222),((ai ak),none)] y1 Q) (wpS SS bM.nm bM.ms (pq 127) cc [x0,x1,(bN p),x3,x4,(ai neg),(strOf n),(strOf d),(ai a),x9,U,V,q,P,E,Y,x6,O,X,W,r,l,i,D,G,x8,T,J,z,S,L,v,x2,e,g,c,u,x7,Z,t,k,f,o,(ai neg),(ai ak),undef,undef,(ai ak),(ai ak),(ai a),(ai af),(strOf d),(ai ((d:LB)==[48])),(ai ak),(strOf d),(ai ((d:LB)==[49])),(ai ((d:LB)==[49])),(ai ((d:LB)==[49])),(ai ((d:LB)==[49])),s,R,m,C,H,y,j,w,A,K,x,B,I,x5,M,N,F,b] h (kU bM Q)))) (wpS SS bM.nm bM.ms (pq 127) cc [x0,x1,(bN p),x3,x4,(ai neg),(strOf n),(strOf d),(ai a),x9,U,V,q,P,E,Y,x6,O,X,W,r,l,i,D,G,x8,T,J,z,S,L,v,x2,e,g,c,u,x7,Z,t,k,f,o,(ai neg),(ai ak),undef,undef,(ai ak),(ai ak),(ai a),(ai ak),undef,undef,undef,undef,undef,undef,(ai ak),(ai ak),s,R,m,C,H,y,j,w,A,K,x,B,I,x5,M,N,F,b] h (kU bM Q)))
theorem I8{neg:Bool}{p:aF}{x3 x4 x9 y2 y4 y x7 M y9 z5 x6 y8 y6 z q m L O z8 y1 T H y0 X D z3 f l d C z6 z2 B o k x P j i y5 z7 z1 U z0 W u g y3 a y7 Y x2 A x8 r K R G n E I V F J S z4 Z x5 N c:ah}(hx:Bo s t neg b p (oO (pq 127) bM.body) v w x3 x4 x9 y2 y4 y x7 M y9 z5 x6 y8 y6 z q m L O z8 y1 T H y0 X D z3 f l d C z6 z2 B o k x P j i y5 z7 z1 U z0 W u g y3 a y7 Y x2 A x8 r K R G n E I V F J S z4 Z x5 N c h Q):TT SS bM (pq 63) [v,w,(bN p),x3,x4,(ai neg),(strOf s),(strOf t),(ai b),x9,y2,y4,y,x7,M,y9,z5,x6,y8,y6,z,q,m,L,O,z8,y1,T,H,y0,X,D,z3,f,l,d,C,z6,z2,B,o,k,x,P,j,i,y5,z7,z1,U,z0,W,u,g,y3,a,y7,Y,x2,A,x8,r,K,R,G,n,E,I,V,F,J,S,z4,Z,x5,N,c] h (kU bM Q):=by
 have e:∀cc,Bo s t neg b p cc v w x3 x4 x9 y2 y4 y x7 M y9 z5 x6 y8 y6 z q m L O z8 y1 T H y0 X D z3 f l d C z6 z2 B o k x P j i y5 z7 z1 U z0 W u g y3 a y7 Y x2 A x8 r K R G n E I V F J S z4 Z x5 N c h Q=wpS SS bM.nm bM.ms (pq 63) (setAt [1] cc (oO (pq 63) bM.body)) [v,w,(bN p),x3,x4,(ai neg),(strOf s),(strOf t),(ai b),x9,y2,y4,y,x7,M,y9,z5,x6,y8,y6,z,q,m,L,O,z8,y1,T,H,y0,X,D,z3,f,l,d,C,z6,z2,B,o,k,x,P,j,i,y5,z7,z1,U,z0,W,u,g,y3,a,y7,Y,x2,A,x8,r,K,R,G,n,E,I,V,F,J,S,z4,Z,x5,N,c] h (kU bM Q):=λcc=>by kernel_rfl
 have e:=e (oO (pq 127) bM.body);have ec:(oO (pq 127) bM.body)=oO [1] (oO (pq 63) bM.body):=by kernel_rfl
 have es:setAt [1] (oO (pq 127) bM.body) (oO (pq 63) bM.body)=oO (pq 63) bM.body:=by rw[ec,mY]
 rw[es]at e;exact bF hx e
abbrev Bp(n d:LB)(neg t:Bool)(p:aF)(cc:Code)(x0 x1 x3 x4 x9 z9 W w S E x6 y3 R x5 Z x s q D G y6 U I C T L B y1 i o g A y4 y0 z r m v H l k Y y5 x8 J x7 K u j V e x2 M O y z8 y8 z4 z5 z1 y7 y9 z2 z7 z0 z3 z6 y2 N P F f:ah)(h:aw)(Q:VH):Prop:=aW 204 [(strOf n),(strOf d)] h λv1 c=>∃a:LB,∃b:Int,v1=(av ⟨[(strOf a),(aA b)]⟩)/\cp ((b !=0)) (xA (cI au 222 []) λc5=>xU (aQ au 222 (bN p) (aq ⟨c5⟩) c) c λu6 g7=>gI SS [((bN p),aa 222),((ai ak),none)] g7 Q) (cp (!((a:LB)==[49])) (xA (cI au 222 []) λc8=>xU (aQ au 222 (bN p) (aq ⟨c8⟩) c) c λu9 X=>gI SS [((bN p),aa 222),((ai ak),none)] X Q) (wpS SS bM.nm bM.ms (pq 255) cc [x0,x1,(bN p),x3,x4,(ai neg),(strOf n),(strOf d),(ai t),(strOf a),(aA b),W,w,S,E,x6,y3,R,x5,Z,x,s,q,D,G,y6,U,I,C,T,L,B,y1,i,o,g,A,y4,y0,z,r,m,v,H,l,k,Y,y5,x8,J,x7,K,u,j,V,e,x2,M,O,y,(av ⟨[(strOf a),(aA b)]⟩),(strOf n),(strOf d),(av ⟨[(strOf a),(aA b)]⟩),(strOf a),(aA b),(aA b),(ai ((b !=0))),(ai ak),(strOf a),(ai (!((a:LB)==[49]))),(ai (!((a:LB)==[49]))),y2,N,P,F,f] c (kU bM Q)))
theorem I9{neg:Bool}{p:aF}{x3 x4 x9 y2 y4 y x7 M y9 z5 x6 y8 y6 z q m L O z8 y1 T H y0 X D z3 f l d C z6 z2 B o k x P j i y5 z7 z1 U z0 W u g y3 a y7 Y x2 A x8 r K R G n E I V F J S z4 Z x5 N c:ah}(hx:Bp s t neg b p (oO (pq 255) bM.body) v w x3 x4 x9 y2 y4 y x7 M y9 z5 x6 y8 y6 z q m L O z8 y1 T H y0 X D z3 f l d C z6 z2 B o k x P j i y5 z7 z1 U z0 W u g y3 a y7 Y x2 A x8 r K R G n E I V F J S z4 Z x5 N c h Q):TT SS bM (pq 127) [v,w,(bN p),x3,x4,(ai neg),(strOf s),(strOf t),(ai b),x9,y2,y4,y,x7,M,y9,z5,x6,y8,y6,z,q,m,L,O,z8,y1,T,H,y0,X,D,z3,f,l,d,C,z6,z2,B,o,k,x,P,j,i,y5,z7,z1,U,z0,W,u,g,y3,a,y7,Y,x2,A,x8,r,K,R,G,n,E,I,V,F,J,S,z4,Z,x5,N,c] h (kU bM Q):=by
 have e:∀cc,Bp s t neg b p cc v w x3 x4 x9 y2 y4 y x7 M y9 z5 x6 y8 y6 z q m L O z8 y1 T H y0 X D z3 f l d C z6 z2 B o k x P j i y5 z7 z1 U z0 W u g y3 a y7 Y x2 A x8 r K R G n E I V F J S z4 Z x5 N c h Q=wpS SS bM.nm bM.ms (pq 127) (setAt [1] cc (oO (pq 127) bM.body)) [v,w,(bN p),x3,x4,(ai neg),(strOf s),(strOf t),(ai b),x9,y2,y4,y,x7,M,y9,z5,x6,y8,y6,z,q,m,L,O,z8,y1,T,H,y0,X,D,z3,f,l,d,C,z6,z2,B,o,k,x,P,j,i,y5,z7,z1,U,z0,W,u,g,y3,a,y7,Y,x2,A,x8,r,K,R,G,n,E,I,V,F,J,S,z4,Z,x5,N,c] h (kU bM Q):=λcc=>by kernel_rfl
 have e:=e (oO (pq 255) bM.body);have ec:(oO (pq 255) bM.body)=oO [1] (oO (pq 127) bM.body):=by kernel_rfl
 have es:setAt [1] (oO (pq 255) bM.body) (oO (pq 127) bM.body)=oO (pq 127) bM.body:=by rw[ec,mY]
 rw[es]at e;exact bF hx e
theorem Ja{neg:Bool}{p:aF}{x3 x4 x9 y1 y3 x x6 L y8 z4 x5 y7 y5 y o l K N z7 y0 S G x8 W C z2 e k d B z5 z1 A n j u O i g y4 z6 z0 T y9 V r f y2 a y6 X Z z x7 q J P F m D H U E I R z3 Y x2 M c:ah}(hx:xA (cI au 222 [(0,(ai neg)),(1,(strOf s)),(2,(strOf t))]) λc1=>xU (aQ au 222 (bN p) (aq ⟨c1⟩) h) h λu2 g3=>gI SS [((bN p),aa 222),((ai af),none)] g3 Q):TT SS bM (pq 255) [v,w,(bN p),x3,x4,(ai neg),(strOf s),(strOf t),(ai b),x9,y1,y3,x,x6,L,y8,z4,x5,y7,y5,y,o,l,K,N,z7,y0,S,G,x8,W,C,z2,e,k,d,B,z5,z1,A,n,j,u,O,i,g,y4,z6,z0,T,y9,V,r,f,y2,a,y6,X,Z,z,x7,q,J,P,F,m,D,H,U,E,I,R,z3,Y,x2,M,c] h (kU bM Q):=bF hx
noncomputable def To:FD:=gT Tryz.f155 []
theorem QK(l:LB)(h:aw)(Q:VH)(c:aW 169 [(strOf l)] h λe d=>∃b:LV,∃a:Bool,e=(av ⟨[(aq ⟨b⟩),(ai a)]⟩)/\Q (ai a) d):aW 155 [(strOf l)] h Q:=gZ To Tryz.func155 (bF c)
noncomputable def XY:FD:=gT Tryz.f170 []
theorem Tm(p:Bool)(l:LB)(q:Bool)(m:LB)(h:aw)(Q:VH)(z:cp (p==q) (aW 205 [(strOf l),(strOf m)] h λD A=>∃s:LB,∃v:Int,D=(av ⟨[(strOf s),(aA v)]⟩)/\aW 171 [(strOf s),(aA v)] A λB C=>yS B λx=>Q (av ⟨[(ai p),(strOf x)]⟩) C) (aW 206 [(strOf l),(strOf m)] h λy t=>yI an y λj=>cp (decide (j<0)) (aW 207 [(strOf m),(strOf l)] t λg o=>∃c:LB,∃b:Int,g=(av ⟨[(strOf c),(aA b)]⟩)/\aW 171 [(strOf c),(aA b)] o λe k=>yS e λn=>Q (av ⟨[(ai q),(strOf n)]⟩) k) (aW 207 [(strOf l),(strOf m)] t λf u=>∃a:LB,∃d:Int,f=(av ⟨[(strOf a),(aA d)]⟩)/\aW 171 [(strOf a),(aA d)] u λw r=>yS w λi=>Q (av ⟨[(ai p),(strOf i)]⟩) r))):aW 170 [(ai p),(strOf l),(ai q),(strOf m)] h Q:=gZ XY Tryz.func170 (bF z)
noncomputable def abP:FD:=gT Tryz.f131 []
theorem XV(l m:LB)(h:aw)(Q:VH)(P:aW 169 [(strOf l)] h λS p=>∃y:LV,∃F:Bool,S=(av ⟨[(aq ⟨y⟩),(ai F)]⟩)/\xN (cD au 222) p λW I=>xU (aQ au 222 (pA (p.ax)) (aq ⟨y⟩) I) I λV O=>aW 169 [(strOf m)] O λR k=>∃n:LV,∃C:Bool,R=(av ⟨[(aq ⟨n⟩),(ai C)]⟩)/\xN (cD au 222) k λT v=>xU (aQ au 222 (pA (k.ax)) (aq ⟨n⟩) v) v λU c=>cp (!F) (Q (aA 0) c) (cp (!C) (Q (aA 0) c) (xP (bB au 222 (pA (p.ax)) 0) λi=>xB (aM au 4 (room c 27) (bN i)) λb=>qF xS 222 (pA (p.ax)) 1 9 (room c 27) λE=>qF xS 222 (pA (k.ax)) 2 9 (room c 27) λK=>aW 172 [(strOf E),(strOf K)] (room c 27) λH g=>∃z:LB,∃B:Int,H=(av ⟨[(strOf z),(aA B)]⟩)/\aW 171 [(strOf z),(aA B)] g λL j=>yS L λJ=>xP (bB au 222 (pA (k.ax)) 0) λf=>xB (aM au 4 j (bN f)) λa=>xP (bB au 222 (pA (k.ax)) 1) λr=>xS (aM au 9 j (bN r)) λe=>xP (bB au 222 (pA (p.ax)) 2) λs=>xS (aM au 9 j (bN s)) λd=>aW 172 [(strOf e),(strOf d)] j λD t=>∃u:LB,∃A:Int,D=(av ⟨[(strOf u),(aA A)]⟩)/\aW 171 [(strOf u),(aA A)] t λM q=>yS M λG=>aW 170 [(ai b),(strOf J),(ai (!a)),(strOf G)] q λN o=>∃x:Bool,∃w:LB,N=(av ⟨[(ai x),(strOf w)]⟩)/\(aM au 4 g (bN i)=aa (ai b)/\iz 4 (ai b) (ai b)=af)/\(aM au 4 j (bN i)=aa (ai b)/\iz 4 (ai b) (ai b)=af)/\(aM au 4 t (bN i)=aa (ai b)/\iz 4 (ai b) (ai b)=af)/\(aM au 4 q (bN i)=aa (ai b)/\iz 4 (ai b) (ai b)=af)/\(aM au 4 (room c 27) (bN f)=aa (ai a)/\iz 4 (ai a) (ai a)=af)/\(aM au 4 g (bN f)=aa (ai a)/\iz 4 (ai a) (ai a)=af)/\(aM au 4 t (bN f)=aa (ai a)/\iz 4 (ai a) (ai a)=af)/\(aM au 4 q (bN f)=aa (ai a)/\iz 4 (ai a) (ai a)=af)/\(aM au 9 (room c 27) (bN r)=aa (strOf e)/\iz 4 (strOf e) (strOf e)=af)/\(aM au 9 g (bN r)=aa (strOf e)/\iz 4 (strOf e) (strOf e)=af)/\(aM au 9 (room c 27) (bN s)=aa (strOf d)/\iz 4 (strOf d) (strOf d)=af)/\(aM au 9 g (bN s)=aa (strOf d)/\iz 4 (strOf d) (strOf d)=af)/\cp ((w:LB)==[48]) (Q (aA 0) o) (cp x (Q (aA (-1)) o) (Q (aA 1) o))))):aW 131 [(strOf l),(strOf m)] h Q:=gZ abP Tryz.func131 (bF P)
noncomputable def aat:FD:=gT Tryz.f258 []
theorem WR(l m:LB)(h:aw)(Q:VH)(a:cp (decide ((l.length:Int)>=(m.length:Int))) (xS (cY au 9 (strOf l) none (aa (aA (m.length:Int))) none h) λb=>Q (ai ((b:LB)==m)) h) (Q (ai ak) h)):aW 258 [(strOf l),(strOf m)] h Q:=gZ aat Tryz.func258 (bF a)
noncomputable def pV:FD:=gT Tryz.f203 [((pq 75),[0,22,23])]
abbrev rF(l:LB)(i:Int):LV:=[(strOf l),(aA (l.length:Int)),(aA i)]
theorem FE(l:LB)(h:aw)(Q:VH)(b:cp ((l:LB)==[]) (Q (ai ak) h) (cp (decide ((l.length:Int)>1000)) (Q (ai ak) h) (cp (decide ((l.length:Int)>1)) (xI aK (dR au 9 (strOf l) (aA 0)) λa=>cp ((a==48)) (Q (ai ak) h) (cq pV (pq 75) [(strOf l),(aA (l.length:Int)),(aA 0)] h (ez pV (pq 43) Q))) (cq pV (pq 75) [(strOf l),(aA (l.length:Int)),(aA 0)] h (ez pV (pq 43) Q))))):aW 203 [(strOf l)] h Q:=gZ pV Tryz.func203 (bF b)
theorem AU(l:LB)  (b:Nat->Int->aw->Prop) (Q:VH) (step:∀(a:Nat)(i:Int)(d:Nat->ah)(h:aw),b a i h->cp (decide ((i:Int)<(l.length:Int))) (xI aK (dR au 9 (strOf l) (aA i)) λf=>cp (decide (f<48)) (Q (ai ak) h) (xI aK (dR au 9 (strOf l) (aA i)) λe=>cp (decide (e>57)) (Q (ai ak) h) (cB (mw (rF l) b) a [(strOf l),(aA (l.length:Int)),(aA (aj an (i+1)))] h))) (Q (ai af) h)) (a:Nat) {i:Int} {h:aw} (c:b a i h):cq pV (pq 75) (rF l i) h (ez pV (pq 43) Q):=
 gP (rF l) b (λa i d h c=>bF (step a i d h c)) a c
noncomputable def pW:FD:=gT Tryz.f271 [((pq 75),[0,3])]
abbrev l9(l:LB)(i:Int):LV:=[(strOf l),(aA i)]
theorem FP(l:LB)(h:aw)(Q:VH)(b:cp (decide ((l.length:Int)<1)) (Q (ai ak) h) (cp (decide ((l.length:Int)>1000)) (Q (ai ak) h) (xI aK (dR au 9 (strOf l) (aA 0)) λa=>cp ((a==48)) (cp (decide ((l.length:Int)>1)) (Q (ai ak) h) (cq pW (pq 75) (l9 l 0) h (ez pW (pq 43) Q))) (cq pW (pq 75) (l9 l 0) h (ez pW (pq 43) Q))))):aW 271 [(strOf l)] h Q:=gZ pW Tryz.func271 (bF b)
theorem A1(l:LB)  (b:Nat->Int->aw->Prop) (Q:VH) (step:∀(a:Nat)(i:Int)(d:Nat->ah)(h:aw),b a i h->cp (decide ((i:Int)<(l.length:Int))) (xI aK (dR au 9 (strOf l) (aA i)) λf=>cp (decide (f<48)) (Q (ai ak) h) (xI aK (dR au 9 (strOf l) (aA i)) λe=>cp (decide (e>57)) (Q (ai ak) h) (cB (mw (l9 l) b) a [(strOf l),(aA (aj an (i+1)))] h))) (Q (ai af) h)) (a:Nat) {i:Int} {h:aw} (c:b a i h):cq pW (pq 75) (l9 l i) h (ez pW (pq 43) Q):=
 gP (l9 l) b (λa i d h c=>bF (step a i d h c)) a c
noncomputable def qT:FD:=gT Tryz.f277 [((pq 75),[0,1,5])]
abbrev mK(a b:LB)(i:Int):LV:=[(strOf a),(strOf b),(aA i)]
theorem Ku(a b:LB)(h:aw)(Q:VH)(c:cp (((a.length:Int) !=(b.length:Int))) (cp (decide ((a.length:Int)<(b.length:Int))) (Q (aA (-1)) h) (Q (aA 1) h)) (cq qT (pq 75) (mK a b 0) h (ez qT (pq 43) Q))):aW 277 [(strOf a),(strOf b)] h Q:=gZ qT Tryz.func277 (bF c)
theorem yy(a b:LB)  (d:Nat->Int->aw->Prop) (Q:VH) (step:∀(c:Nat)(i:Int)(f:Nat->ah)(h:aw),d c i h->cp (decide ((i:Int)<(a.length:Int))) (xI aK (dR au 9 (strOf a) (aA i)) λj=>xI aK (dR au 9 (strOf b) (aA i)) λk=>cp ((j !=k)) (xI aK (dR au 9 (strOf a) (aA i)) λg=>xI aK (dR au 9 (strOf b) (aA i)) λl=>cp (decide (g<l)) (Q (aA (-1)) (room (room h 7) 7)) (Q (aA 1) (room (room h 7) 7))) (cB (mw (mK a b) d) c [(strOf a),(strOf b),(aA (aj an (i+1)))] (room h 7))) (Q (aA 0) h)) (c:Nat) {i:Int} {h:aw} (e:d c i h):cq qT (pq 75) (mK a b i) h (ez qT (pq 43) Q):=
 gP (mK a b) d (λc i f h e=>bF (step c i f h e)) c e
noncomputable def ae9:FD:=gT Tryz.f274 []
theorem abU(a:OA)(n c:Nat)(i:Int)(h:aw)(Q:VH)(d:cp (decide ((i:Int)<(n:Int))) (vX 27 (ae a n c) (aA i) h λb=>Q (aA b) h) (Q (aA 0) h)):aW 274 [(ae a n c),(aA i)] h Q:=gZ ae9 Tryz.func274 (bF d)
noncomputable def sH:FD:=gT Tryz.f273 [((pq 75),[0,3,4])]
abbrev qU(l:LB)(i:Int)(a:OA)(n c:Nat):LV:=[(strOf l),(ae a n c),(aA i)]
theorem N4(l:LB)(h:aw)(Q:VH)(a:cq sH (pq 75) [(strOf l),nA,(aA (aj an ((l.length:Int)-1)))] h (ez sH (pq 43) Q)):aW 273 [(strOf l)] h Q:=gZ sH Tryz.func273 (bF a)
theorem zK(l:LB)  (d:Nat->Int->OA->Nat->Nat->aw->Prop) (Q:VH) (step:∀(b:Nat)(i:Int)(a:OA)(n c:Nat)(f:Nat->ah)(h:aw),d b i a n c h->cp (decide ((i:Int)>=0)) (xI aK (dR au 9 (strOf l) (aA i)) λm=>xR (bC au 27 1 [(0,(aA (aj an (aj aK (m-48)))))]) h λs k p j=>xE (bY au 27 27 (ae a n c) (sA (h.ax) k p) j) j λo r q t g=>cB (sk (qU l) d) b [(strOf l),(ae o r q),(aA (aj an (i-1)))] g) (Q (ae a n c) h)) (b:Nat) {i:Int} {a:OA} {n c:Nat} {h:aw} (e:d b i a n c h):cq sH (pq 75) (qU l i a n c) h (ez sH (pq 43) Q):=
 uD (qU l) d (λb i a n c f h e=>bF (step b i a n c f h e)) b e
variable{i:Nat}{a:Option aF}{n:Nat}
theorem afu:au.underlying 9=aa .string:=by kernel_rfl
theorem Gv(l:List UInt8){h:aw}{i:Int}(b:0<=i)(a:i<l.length):dR au 9 (strOf l) (aA i)=aa (aB aK ((l.getD i.toNat 0).toNat:Nat)):=tT afu l _ b a
theorem ZY{c:UInt8}(a:¬(c.toNat:Int)<48)(b:¬(c.toNat:Int)>57):ey c=af:=by
 unfold ey;simp;omega
theorem Nw{c:UInt8}(h:(c.toNat:Int)<48\/(c.toNat:Int)>57):ey c=ak:=by
 unfold ey;simp;omega
theorem Bb{l:List UInt8}(b:i<l.length)(c:(l.take i).all ey=af)(a:ey (l.getD i 0)=af):(l.take (i+1)).all ey=af:=by
 rw[eQ b,gX,c];rw[gD,gE b]at a;simpa using a
theorem Ah{l:List UInt8}(b:i<l.length)(a:ey (l.getD i 0)=ak):l.all ey=ak:=by
 rw[gD,gE b]at a;exact List.all_eq_false.2 ⟨l[i],List.getElem_mem b,by simpa using a⟩
theorem Jy{l:List UInt8}(h:1000<l.length):Num.valid l=ak:=by
 unfold Num.valid;rw[eF (by omega:¬l.length<=1000)];simp
theorem Jz{l:List UInt8}(h:1<l.length)(b:l.getD 0 0=48):Num.valid l=ak:=by
 unfold Num.valid
 cases l with
 |nil=>rfl
 |cons a l=>
  have b:a=48:=b;subst b;rw[eT h];simp
theorem AK{l:List UInt8}(e:l≠[])(c:l.length<=1000)(d:1<l.length->l.getD 0 0≠48):Num.valid l=l.all ey:=by
 unfold Num.valid
 cases l with
 |nil=>exact absurd rfl e
 |cons a l=>
  rw[eT c];by_cases h:1<(a::l).length
  ·have b:a≠48:=d h;rw[eT h];simp[b]
  ·rw[eF h];simp
theorem Mh{c:UInt8}:((c.toNat:Int)==48)=af↔c=48:=by
 rw[beq_iff_eq];refine⟨λh=>fQ.1 ?_,λh=>by rw[h];rfl⟩;have a:(48:UInt8).toNat=48:=rfl;omega
theorem iT(l:List UInt8)(h:aw):aW 203 [strOf l] h (λv o=>v=ai (Num.valid l)/\o=h):=by
 by_cases j:l.length<=1000
 case neg=>
  refine FE l h _ (ay (λa=>?_) (λa=>ay (λd=>?_) (λd=>?_)))
  ·obtain rfl:l=[]:=by simpa using a
   exact⟨rfl,rfl⟩
  ·exact⟨by rw[Jy (by omega)],rfl⟩
  ·have:=dF d;omega
 have L:=λ(n:Num.valid l=l.all ey)=>AU l (λm i g=>0<=i/\i<=l.length/\m=l.length-i.toNat/\(l.take i.toNat).all ey=af/\g=h) (λv o=>v=ai (Num.valid l)/\o=h) (by
  intro m i;intros;rename_i g t;obtain⟨a,d,k,b,rfl⟩:=t;refine ay (λc=>?_) (λc=>?_)
  ·have c:=dT c;have f:i.toNat<l.length:=by omega
   refine⟨_,Gv (h:=g) l a c,ay (λq=>?_) (λq=>⟨_,Gv (h:=g) l a c,ay (λp=>?_) (λp=>?_)⟩)⟩
   ·exact⟨by rw[n,Ah f (Nw (.inl (dT q)))],rfl⟩
   ·exact⟨by rw[n,Ah f (Nw (.inr (dT p)))],rfl⟩
   ·have s:aj an (i+1)=i+1:=cj (by omega) (by omega);refine fG (m-1) (by omega) ?_;rw[s];refine⟨by omega,by omega,by omega,?_,rfl⟩;rw[show(i+1).toNat=i.toNat+1 by omega];exact Bb f b (ZY (dF q) (dF p))
  ·have c:=dF c;refine⟨?_,rfl⟩;rw[n,<-b,bm (by omega)])
 refine FE l h _ (ay (λa=>?_) (λa=>ay (λd=>?_) (λd=>?_)))
 ·obtain rfl:l=[]:=by simpa using a
  exact⟨rfl,rfl⟩
 ·have:=dT d;omega
 ·have a:l≠[]:=by simpa using a
  have r:=fL.2 a;refine ay (λk=>⟨_,Gv (h:=h) l (by omega) (by omega),ay (λb=>?_) (λb=>?_)⟩) (λk=>?_)
  ·exact⟨by rw[Jz (by have:=dT k;omega) (Mh.1 b)],rfl⟩
  ·exact L (AK a j λ_ e=>by have b:(((l.getD 0 0).toNat:Int)==48)=ak:=b;rw[Mh.2 e]at b;cases b) l.length ⟨by omega,by omega,by simp,by simp,rfl⟩
  ·exact L (AK a j λe=>by have:=dF k;omega) l.length ⟨by omega,by omega,by simp,by simp,rfl⟩
theorem ie(l:List UInt8)(h:aw):aW 271 [strOf l] h (λv o=>v=ai (Num.valid l)/\o=h):=by
 by_cases j:l.length<=1000
 case neg=>
  refine FP l h _ (ay (λa=>?_) (λa=>ay (λd=>?_) (λd=>?_)))
  ·have a:=dT a;omega
  ·exact⟨by rw[Jy (by omega)],rfl⟩
  ·have:=dF d;omega
 have L:=λ(n:Num.valid l=l.all ey)=>A1 l (λm i g=>0<=i/\i<=l.length/\m=l.length-i.toNat/\(l.take i.toNat).all ey=af/\g=h) (λv o=>v=ai (Num.valid l)/\o=h) (by
  intro m i;intros;rename_i g t;obtain⟨a,d,k,b,rfl⟩:=t;refine ay (λc=>?_) (λc=>?_)
  ·have c:=dT c;have f:i.toNat<l.length:=by omega
   refine⟨_,Gv (h:=g) l a c,ay (λq=>?_) (λq=>⟨_,Gv (h:=g) l a c,ay (λp=>?_) (λp=>?_)⟩)⟩
   ·exact⟨by rw[n,Ah f (Nw (.inl (dT q)))],rfl⟩
   ·exact⟨by rw[n,Ah f (Nw (.inr (dT p)))],rfl⟩
   ·have s:aj an (i+1)=i+1:=cj (by omega) (by omega);refine fG (m-1) (by omega) ?_;rw[s];refine⟨by omega,by omega,by omega,?_,rfl⟩;rw[show(i+1).toNat=i.toNat+1 by omega];exact Bb f b (ZY (dF q) (dF p))
  ·have c:=dF c;refine⟨?_,rfl⟩;rw[n,<-b,bm (by omega)])
 refine FP l h _ (ay (λa=>?_) (λa=>ay (λd=>?_) (λd=>?_)))
 ·have a:=dT a;obtain rfl:l=[]:=aY (by omega);exact⟨rfl,rfl⟩
 ·have:=dT d;omega
 ·have a:=dF a;have a:l≠[]:=λe=>by subst e;simp at a
  have r:=fL.2 a;refine⟨_,Gv (h:=h) l (by omega) (by omega),ay (λb=>ay (λk=>?_) (λk=>?_)) (λb=>?_)⟩
  ·exact⟨by rw[Jz (by have:=dT k;omega) (Mh.1 b)],rfl⟩
  ·exact L (AK a j λe=>by have:=dF k;omega) l.length ⟨by omega,by omega,by simp,by simp,rfl⟩
  ·exact L (AK a j λ_ e=>by have b:(((l.getD 0 0).toNat:Int)==48)=ak:=b;rw[Mh.2 e]at b;cases b) l.length ⟨by omega,by omega,by simp,by simp,rfl⟩
theorem SV{a b:Nat}(h:((a:Int) !=b)=af):a≠b:=by
 intro e;subst e;simp at h
theorem Si{a b:Nat}(h:((a:Int) !=b)=ak):a=b:=by
 by_cases e:a=b
 ·exact e
 ·exfalso;have:(a:Int)≠b:=by omega
  simp[this]at h
theorem vG(m n:Nat)(y:(bp m).length<9223372036854775807)(x:(bp n).length<9223372036854775807)(h:aw)(w:Wf h):aW 277 [strOf (bp m),strOf (bp n)] h (λv q=>v=aA (iU m n)/\Ok h q):=by
 have L:=λ(s:(bp m).length=(bp n).length)=>yy (bp m) (bp n) (λk i g=>0<=i/\i<=(bp m).length/\k=(bp m).length-i.toNat/\(bp m).take i.toNat=(bp n).take i.toNat/\Ok h g) (λv q=>v=aA (iU m n)/\Ok h q) (by
  intro k i;intros;rename_i g u;obtain⟨a,f,z,e,j⟩:=u;refine ay (λb=>?_) (λb=>?_)
  ·have b:=dT b;have r:i.toNat<(bp m).length:=by omega
   have p:i.toNat<(bp n).length:=by omega
   have l:(bp m)[i.toNat]?=aa ((bp m).getD i.toNat 0):=by rw[gD,gE r];rfl
   have o:(bp n)[i.toNat]?=aa ((bp n).getD i.toNat 0):=by rw[gD,gE p];rfl
   refine⟨_,Gv (h:=g) _ a b,_,Gv (h:=g) _ a (by omega),ay (λc=>?_) (λc=>?_)⟩
   ·refine⟨_,Gv (h:=g) _ a b,_,Gv (h:=g) _ a (by omega),ay (λd=>?_) (λd=>?_)⟩
    ·have d:=dT d;have:=uc (gi n) (gi m) s e l o (UInt8.lt_iff_toNat_lt.2 (by omega));rw[ff,ff]at this;exact⟨by rw[p8 this],(j.room 7).room 7⟩
    ·have d:=dF d;have c:=SV c;have:=uc (gi m) (gi n) s.symm e.symm o l (UInt8.lt_iff_toNat_lt.2 (by omega));rw[ff,ff]at this;exact⟨by rw[pZ this],(j.room 7).room 7⟩
   ·have c:=Si c;have t:aj an (i+1)=i+1:=cj (by omega) (by omega);refine fG (k-1) (by omega) ?_;rw[t];refine⟨by omega,by omega,by omega,?_,j.room 7⟩;rw[show(i+1).toNat=i.toNat+1 by omega,eI,eI,e,l,o,fQ.1 c]
  ·have b:=dF b;rw[bm (by omega),bm (by omega)]at e;exact⟨by rw[yM e,vL],j⟩)
 refine Ku _ _ h _ (ay (λa=>ay (λf=>?_) (λf=>?_)) (λa=>?_))
 ·exact⟨by rw[p8 (qq (by have:=dT f;omega))],Ok.refl w⟩
 ·have a:=SV a;exact⟨by rw[pZ (qq (by have:=dF f;omega))],Ok.refl w⟩
 ·have a:=Si a;exact L a (bp m).length ⟨by omega,by omega,by simp,by simp,Ok.refl w⟩
def iv(d:Nat):ah:= aA (d:Int)
theorem fs:au.underlying 27=aa (.slice 3):=by kernel_rfl
theorem wu:cd au 3=aa 1:=by kernel_rfl
theorem rk:au.underlying 3=aa (.int an):=by kernel_rfl
theorem ri:Go.Ab.isAgg au 3=ak:=by kernel_rfl
noncomputable def re3:TypeInfo:=(gF au 3).getD default
theorem rJ:gF au 3=aa re3:=by kernel_rfl
theorem lZ:re3.size=1:=by kernel_rfl
theorem jV:re3.bytes=8:=by kernel_rfl
theorem zi(l:List Nat)(i:Nat)(h:i<l.length):(l.map iv).getD i undef=aA (l.getD i 0:Nat):=by
 simp[gD,getElem?_map,gE h,iv]
theorem zJ{c:Nat}{l:List Nat}(r:Rd h 3 (ae a n c) (l.map iv))(i:Nat):aW 274 [ae a n c,aA (i:Int)] h (λv g=>v=aA (l.getD i 0:Nat)/\g=h):=by
 have e:=r.len;rw[aG]at e;refine abU a n c i h _ (ay (λb=>?_) (λb=>?_))
 ·have b:=dT b;obtain⟨p,f,d⟩:=r.at_ fs wu rk ri (k:= an) (i:=(i:Int)) (by omega) (by rw[aG];omega);rw[bn,zi l i (by omega)]at d;exact⟨p,f,_,d,rfl,rfl⟩
 ·have b:=dF b;refine⟨?_,rfl⟩;rw[gD,getElem?_eq_none (by omega)];rfl
noncomputable def wa:FD:=gT Tryz.f278 [((pq 151),[0,1,5,6,7])]
abbrev pI(a:OA)(n c:Nat)(b:OA)(m d:Nat)(k cc:Nat)(r:OA)(e f:Nat):LV:=[(ae a n c),(ae b m d),(ae r e f),(iA cc),(iA k)]
theorem TA(a:OA)(n c:Nat)(b:OA)(m d:Nat)(h:aw)(Q:VH)(e:cq wa (pq 151) (pI a n c b m d 0 0 none 0 0) h (ez wa (pq 87) Q)):aW 278 [(ae a n c),(ae b m d)] h Q:=gZ wa Tryz.func278 (bF e)
theorem Cd(a:OA)(n c:Nat)(b:OA)(m d:Nat)  (i:Nat->Nat->Nat->OA->Nat->Nat->aw->Prop) (Q:VH) (step:∀(g:Nat)(k cc:Nat)(r:OA)(e f:Nat)(C:Nat->ah)(h:aw),i g k cc r e f h->(λ(y:ah->ah->aw->Prop)=>cp (decide ((k:Int)<(n:Int))) (aW 274 [(ae a n c),(iA k)] h λM J=>yI an M λp=>aW 274 [(ae b m d),(iA k)] J λH j=>yI an H λq=>cp (decide ((aj an (aj an (p-q)-(cc:Int)):Int)<0)) (xR (bC au 27 1 [(0,(aA (aj an (aj an (aj an (p-q)-(cc:Int))+10))))]) j λR L I o=>xE (bY au 27 27 (ae r e f) (sA (j.ax) L I) o) o λw D A N z=>y (ae w D A) (aA 1) z) (xR (bC au 27 1 [(0,(aA (aj an (aj an (p-q)-(cc:Int)))))]) j λP G t l=>xE (bY au 27 27 (ae r e f) (sA (j.ax) G t) l) l λF E u O B=>y (ae F E u) (aA 0) B)) (Q (ae r e f) h)) (λv x K=>cB (Y2 (pI a n c b m d) i) g [(ae a n c),(ae b m d),v,x,(aA (aj an ((k:Int)+1)))] K)) (g:Nat) {k cc:Nat} {r:OA} {e f:Nat} {h:aw} (s:i g k cc r e f h):cq wa (pq 151) (pI a n c b m d k cc r e f) h (ez wa (pq 87) Q):=
 LP (pI a n c b m d) i (λg k cc r e f C h s=>bF (step g k cc r e f C h s)) g s
noncomputable def l8:FD:=gT Tryz.f276 [((pq 35),[0,3]),((pq 303),[0,4,5])]
abbrev tg(a:OA)(n c:Nat)(z:Int):LV:=[(ae a n c),(aA z)]
abbrev mS(a:OA)(n c:Nat)(i:Int)(r:OA)(b d:Nat):LV:=[(ae a n c),(ae r b d),(aA i)]
theorem TC(a:OA)(n c:Nat)(h:aw)(Q:VH)(b:cq l8 (pq 35) [(ae a n c),(iA n)] h (ez l8 (pq 19) Q)):aW 276 [(ae a n c)] h Q:=gZ l8 Tryz.func276 (bF b)
theorem Ce(a:OA)(n c:Nat)  (d:Nat->Int->aw->Prop) (Q:VH) (step:∀(b:Nat)(z:Int)(f:Nat->ah)(h:aw),d b z h->cp (decide ((z:Int)>1)) (vX 27 (ae a n c) (aA (aj an (z-1))) h λg=>cp ((g==0)) (cB (mw (tg a n c) d) b [(ae a n c),(aA (aj an (z-1)))] h) (cq l8 (pq 303) (mS a n c (aj an (z-1)) none 0 0) h (ez l8 (pq 175) Q))) (cq l8 (pq 303) (mS a n c (aj an (z-1)) none 0 0) h (ez l8 (pq 175) Q))) (b:Nat) {z:Int} {h:aw} (e:d b z h):cq l8 (pq 35) (tg a n c z) h (ez l8 (pq 19) Q):=
 gP (tg a n c) d (λb z f h e=>bF (step b z f h e)) b e
theorem Cf(a:OA)(n c:Nat)  (f:Nat->Int->OA->Nat->Nat->aw->Prop) (Q:VH) (step:∀(e:Nat)(i:Int)(r:OA)(b d:Nat)(o:Nat->ah)(h:aw),f e i r b d h->cp (decide ((i:Int)>=0)) (vX 27 (ae a n c) (aA i) h λu=>xR (bC au 183 1 [(0,(aB aK (aj aK (aj an (48+u)))))]) h λw t s l=>xE (bY au 183 183 (ae r b d) (sA (h.ax) t s) l) l λq m p v k=>cB (sk (mS a n c) f) e [(ae a n c),(ae q m p),(aA (aj an (i-1)))] k) (cp (((b:Int)==0)) (Q (strOf [48]) h) (xS (GP au 183 9 (ae r b d) h) λj=>Q (strOf j) h))) (e:Nat) {i:Int} {r:OA} {b d:Nat} {h:aw} (g:f e i r b d h):cq l8 (pq 303) (mS a n c i r b d) h (ez l8 (pq 175) Q):=
 uD (mS a n c) f (λe i r b d o h g=>bF (step e i r b d o h g)) e g
variable{g:aw}{m:Nat}{x:List Nat}{y:List Nat}
theorem qi(z:Int):bC au 27 1 [(0,aA z)]=aa (.cells [aA z] 3 1 af,pw 1 1):=by kernel_rfl
theorem af3(z:Int):bC au 183 1 [(0,aB aK z)]=aa (.cells [aB aK z] 5 1 af,pw 1 1):=by kernel_rfl
theorem FX:au.underlying 183=aa (.slice 5):=by kernel_rfl
theorem un5:au.underlying 5=aa (.int aK):=by kernel_rfl
theorem zz5:cd au 5=aa 1:=by kernel_rfl
theorem ag5:Go.Ab.isAgg au 5=ak:=by kernel_rfl
noncomputable def re5:TypeInfo:=(gF au 5).getD default
theorem ahX:gF au 5=aa re5:=by kernel_rfl
theorem abS:re5.size=1:=by kernel_rfl
theorem X9:re5.bytes=1:=by kernel_rfl
theorem Jo(d:Wf g)(e:Ok g h){v:ah}{a:List ah}(o:iB g h 3 v a)(z:Int)(f:a.length<=100000):
  ∃(b:Option aF)(n c:Nat)(u:dJ),bY au 27 27 v (sA h.ax 1 1) (h.push (.cells [aA z] 3 1 af))=aa (ae b n c,u)/\n=a.length+1/\iB g (u.app (h.push (.cells [aA z] 3 1 af))) 3 (ae b n c) (a++[aA z])/\Ok g (u.app (h.push (.cells [aA z] 3 1 af))):=
 iB.snoc fs rJ lZ d e o rfl (by rw[jV];omega) (by omega)
theorem VG(d:Wf g)(e:Ok g h){v:ah}{a:List ah}(o:iB g h 5 v a)(z:Int)(f:a.length<=100000):
  ∃(b:Option aF)(n c:Nat)(u:dJ),bY au 183 183 v (sA h.ax 1 1) (h.push (.cells [aB aK z] 5 1 af))=aa (ae b n c,u)/\n=a.length+1/\iB g (u.app (h.push (.cells [aB aK z] 5 1 af))) 5 (ae b n c) (a++[aB aK z])/\Ok g (u.app (h.push (.cells [aB aK z] 5 1 af))):=
 iB.snoc FX ahX abS d e o rfl (by rw[X9];omega) (by omega)
theorem Wz(c:UInt8)(l:List UInt8):jI (c::l)=jI l++[nO c]:=by simp[jI]
theorem La{l:List UInt8}(h:i<l.length):l.drop i=l.getD i 0::l.drop (i+1):=by
 rw[gD,gE h,db h];rfl
theorem HG{l:List UInt8}(a:l.all ey=af){i:Nat}(h:i<l.length):ey (l.getD i 0)=af:=by
 rw[gD,gE h];exact cw.1 a _ (List.getElem_mem h)
def nh(h:aw)(e:aD)(d:List ah):VH:=λv b=>∃a n c,v=ae a n c/\iB h b e (ae a n c) d/\Ok h b
theorem xj(l:List UInt8)(C:l.all ey=af)(t:l.length<=100000)(h:aw)(w:Wf h):aW 273 [strOf l] h (nh h 3 ((jI l).map iv)):=by
 have L:=zK l (λk i a n c g=> -1<=i/\i<l.length/\k=(i+1).toNat/\iB h g 3 (ae a n c) ((jI (l.drop (i+1).toNat)).map iv)/\Ok h g) (nh h 3 ((jI l).map iv)) (by
  intro k i a n c;intros;rename_i g y;obtain⟨F,x,E,r,s⟩:=y;refine ay (λf=>?_) (λf=>?_)
  ·have f:=dT f;have j:i.toNat<l.length:=by omega
   have p:=HG C j;have D:=qa.1 p;refine⟨_,Gv (h:=g) l f x,_,_,_,qi _,?_⟩;obtain⟨b,m,d,u,B,G,o,z⟩:=Jo w s r (aj an (aj aK ((((l.getD i.toNat 0).toNat:Nat):Int)-48))) (by simp[jI];omega);refine⟨b,m,d,u,B,?_⟩;have e:aj an (i-1)=i-1:=cj (by omega) (by omega);refine nE (k-1) (by omega) ?_;rw[e];refine⟨by omega,by omega,by omega,?_,z⟩;have q:aj an (aj aK ((((l.getD i.toNat 0).toNat:Nat):Int)-48))=((nO (l.getD i.toNat 0):Nat):Int):=by
    rw[xT (by omega) (by omega),cj (by omega) (by omega)];unfold nO;omega
   rw[q]at o;have A:(i-1+1).toNat=i.toNat:=by omega
   have v:(i+1).toNat=i.toNat+1:=by omega
   rw[v]at o;rw[q,A,La j,Wz,bU];exact o
  ·have f:=dF f;obtain rfl:i = -1:=by omega
   exact⟨a,n,c,rfl,r,s⟩)
 have e:aj an ((l.length:Int)-1)=(l.length:Int)-1:=cj (by omega) (by omega);refine N4 l h _ ?_;refine L l.length ⟨by rw[e];omega,by rw[e];omega,by rw[e];omega,?_,Ok.refl w⟩;rw[e,show((l.length:Int)-1+1).toNat=l.length by omega,List.drop_length];exact .inl ⟨rfl,rfl⟩
theorem Jg{b:Option aF}{c:Nat}(N:Rd h 3 (ae a n c) (x.map iv))(S:Rd h 3 (ae b m i) (y.map iv))(R:∀i∈x,i<10)(U:∀i∈y,i<10)(O:x.length<=100000)(w:Wf h):
  aW 278 [ae a n c,ae b m i] h (nh h 3 ((dy jA x y 0 x.length 0).map iv)):=by
 have W:n=x.length:=by have:=N.len;rwa[aG]at this
 have J:∀k,jo jA x y 0 0 k<=1:=Ux (λp q c _=>by unfold jA;split<;>simp) x y 0 0 (by omega);have L:=Cd a n c b m i (λt k cc r z B g=>k<=x.length/\t=x.length-k/\cc=jo jA x y 0 0 k/\iB h g 3 (ae r z B) ((dy jA x y 0 k 0).map iv)/\Ok h g) (nh h 3 ((dy jA x y 0 x.length 0).map iv)) (by
  intro t k cc r z B;intros;rename_i g T;obtain⟨X,Z,P,F,o⟩:=T;have V:=J k;have hp:=cW (by omega) R k;have Y:=cW (by omega) U k;refine ay (λs=>?_) (λs=>?_)
  ·have s:=dT s;refine(zJ (N.ok o) k).mono ?_;rintro _ _ ⟨rfl,rfl⟩;refine⟨_,rfl,(zJ (S.ok o) k).mono ?_⟩;rintro _ _ ⟨rfl,rfl⟩;refine⟨_,rfl,?_⟩;have M:aj an (((x.getD k 0:Nat):Int)-((y.getD k 0:Nat):Int))=((x.getD k 0:Nat):Int)-((y.getD k 0:Nat):Int):=cj (by omega) (by omega);have I:aj an (((x.getD k 0:Nat):Int)-((y.getD k 0:Nat):Int)-(cc:Int))=((x.getD k 0:Nat):Int)-((y.getD k 0:Nat):Int)-(cc:Int):=cj (by omega) (by omega);have K:aj an ((k:Int)+1)=((k+1:Nat):Int):=by rw[cj (by omega) (by omega)];omega
   dsimp only;rw[M,I,K];have v:(dy jA x y 0 k 0).length=k:=jq _ _ _ _ _ _;have f:=mB jA x y k 0 0;have j:jo jA x y 0 0 (k+1)=(jA (x.getD (0+k) 0) (y.getD (0+k) 0) (jo jA x y 0 0 k)).2:=rfl;rw[bO,<-P]at f j;refine ay (λl=>?_) (λl=>?_)
   ·have l:=dT l;refine⟨_,_,_,qi _,?_⟩;obtain⟨E,C,A,u,D,Q,e,H⟩:=Jo w o F (aj an (((x.getD k 0:Nat):Int)-((y.getD k 0:Nat):Int)-(cc:Int)+10)) (by rw[aG,v];omega);refine⟨E,C,A,u,D,?_⟩;have d:jA (x.getD k 0) (y.getD k 0) cc=(x.getD k 0+10-y.getD k 0-cc,1):=by unfold jA;rw[iP (by omega)]
    refine um (b:=1) (t-1) (by omega) ⟨by omega,by omega,by rw[j,d],?_,H⟩;rw[f,d,bU];have G:aj an (((x.getD k 0:Nat):Int)-((y.getD k 0:Nat):Int)-(cc:Int)+10)=((x.getD k 0+10-y.getD k 0-cc:Nat):Int):=by rw[cj (by omega) (by omega)];omega
    rw[G]at e⊢;exact e
   ·have l:=dF l;refine⟨_,_,_,qi _,?_⟩;obtain⟨E,C,A,u,D,Q,e,H⟩:=Jo w o F (((x.getD k 0:Nat):Int)-((y.getD k 0:Nat):Int)-(cc:Int)) (by rw[aG,v];omega);refine⟨E,C,A,u,D,?_⟩;have d:jA (x.getD k 0) (y.getD k 0) cc=(x.getD k 0-y.getD k 0-cc,0):=by unfold jA;rw[iN (by omega)]
    refine um (b:=0) (t-1) (by omega) ⟨by omega,by omega,by rw[j,d],?_,H⟩;rw[f,d,bU];have G:((x.getD k 0:Nat):Int)-((y.getD k 0:Nat):Int)-(cc:Int)=((x.getD k 0-y.getD k 0-cc:Nat):Int):=by omega
    rw[G]at e⊢;exact e
  ·have s:=dF s;obtain rfl:k=x.length:=by omega
   exact⟨r,z,B,rfl,F,o⟩)
 exact TA a n c b m i h _ (L x.length (k:=0) (cc:=0) ⟨by omega,by omega,rfl,.inl ⟨rfl,rfl⟩,Ok.refl w⟩)
theorem VK{l:List UInt8}(r:Rd h 5 v (l.map ys)):GP au 183 9 v h=aa (strOf l):=afv FX afu un5 r
theorem KC{z:Nat}(b:i<z)(c:z<=x.length):((x.take z).drop i).reverse=((x.take z).drop (i+1)).reverse++[x.getD i 0]:=by
 have a:i<(x.take z).length:=by rw[bo];omega
 rw[db a,List.reverse_cons,List.getElem_take,gD,gE (by omega)];rfl
theorem xl{c:Nat}(L:Rd h 3 (ae a n c) (x.map iv))(P:∀d∈x,d<10)(V:x.length<=100000)(w:Wf h):
  aW 276 [ae a n c] h (λv D=>v=strOf (bp (Num.bv 10 x))/\Ok h D):=by
 have hn:n=x.length:=by have:=L.len;rwa[aG]at this
 have Q:=λ(f:Nat) (hz:f<=x.length) (T:0<x.length->0<f) (W:0<x.length->yO (x.take f)=bp (Num.bv 10 x))=>Cf a n c (λy i r H R g=> -1<=i/\i<(f:Int)/\y=(i+1).toNat/\iB h g 5 (ae r H R) ((((x.take f).drop (i+1).toNat).reverse.map jG).map ys)/\Ok h g) (λv D=>v=strOf (bp (Num.bv 10 x))/\Ok h D) (by
  intro y i r H R;intros;rename_i g M;obtain⟨h1,h2,Y,t,J⟩:=M;refine ay (λq=>?_) (λq=>?_)
  ·have q:=dT q;obtain⟨p,K,F⟩:=(L.ok J).at_ fs wu rk ri (k:= an) (i:=i) q (by rw[aG];omega);rw[zi x i.toNat (by omega)]at F;refine⟨p,K,_,F,_,_,_,af3 _,?_⟩;have N:=cW (by omega) P i.toNat;obtain⟨b,m,d,u,g6,g7,O,g9⟩:=VG w J t (aj aK (aj an (48+((x.getD i.toNat 0:Nat):Int)))) (by simp;omega);refine⟨b,m,d,u,g6,?_⟩;have I:aj an (i-1)=i-1:=cj (by omega) (by omega);refine nE (y-1) (by omega) ?_;rw[I];refine⟨by omega,by omega,by omega,?_,g9⟩;rw[show(i-1+1).toNat=i.toNat by omega,KC (by omega) hz,bU,bU];rw[show(i+1).toNat=i.toNat+1 by omega]at O;have X:ys (jG (x.getD i.toNat 0))=aB aK (aj aK (aj an (48+((x.getD i.toNat 0:Nat):Int)))):=by
    unfold ys;rw[nR N,cj (by omega) (by omega),xT (by omega) (by omega)]
    first|rfl|(congr 1;omega)
   show iB h _ 5 _ (_++[ys (jG (x.getD i.toNat 0))]);rw[X];exact O
  ·have q:=dF q;obtain rfl:i = -1:=by omega
   have e0:((-1:Int)+1).toNat=0:=rfl;rw[e0,bV]at t;have S:=t.len;simp only[aG,List.length_reverse,bo]at S;refine ay (λo=>?_) (λo=>?_)
   ·have o:(H:Int)=0:=by simpa using o
    have E:x=[]:=by
     rcases dB x.length with e|e
     ·exact aY e
     ·have:=T e;omega
    subst E;exact⟨by rw[show Num.bv 10 []=0 from rfl,tq],J⟩
   ·have o:¬(H:Int)=0:=by simpa using o
    have E:0<x.length:=by omega
    have:=VK t.rd;rw[show((x.take f).reverse.map jG)=yO (x.take f)from rfl,W E]at this;exact⟨_,this,rfl,J⟩)
 have s:∀(f:Nat),iB h h 5 nA ((((x.take f).drop ((f:Int)-1+1).toNat).reverse.map jG).map ys):=λf=>by
  rw[show((f:Int)-1+1).toNat=f by omega,hW (by rw[bo];omega)];exact .inl ⟨rfl,rfl⟩
 have L1:=Ce a n c (λy z g=>0<=z/\z<=x.length/\y=z.toNat/\(0<x.length->0<z)/\(∀j:Nat,z<=j->x.getD j 0=0)/\g=h) (λv D=>v=strOf (bp (Num.bv 10 x))/\Ok h D) (by
  intro y z;intros;rename_i g M;obtain⟨h1,h2,Y,t,q,rfl⟩:=M;obtain⟨f,rfl⟩:∃f:Nat,z=f:=⟨z.toNat,by omega⟩
  have I:aj an ((f:Int)-1)=(f:Int)-1:=cj (by omega) (by omega);have B:(1<f->x.getD (f-1) 0≠0)->0<x.length->yO (x.take f)=bp (Num.bv 10 x):=λZ C=>by
   rw[<-Hv (l:=x) (n:=f) (λj U=>q j (by omega))];refine VW (λd N=>P d (dN N)) (λe=>?_) (λA=>?_)
   ·have:=congrArg List.length e;rw[bo]at this;have h9:min f x.length=0:=this;have:=t C;omega
   ·rw[bo]at A;have G:=Z (by omega);rw[List.getLast?_eq_getElem?,bo,List.getElem?_take,iP (by omega)];rw[gD,gE (by omega)]at G;rw[show min f x.length-1=f-1 by omega,gE (by omega)];simpa using G
  refine ay (λo=>?_) (λo=>?_)
  ·have o:=dT o;rw[I];obtain⟨p,K,F⟩:=L.at_ fs wu rk ri (k:= an) (i:=(f:Int)-1) (by omega) (by rw[aG];omega);rw[zi x _ (by omega),show((f:Int)-1).toNat=f-1 by omega]at F;refine⟨p,K,_,F,ay (λA=>?_) (λA=>?_)⟩
   ·have A:((x.getD (f-1) 0:Nat):Int)=0:=by simpa using A
    refine fG (y-1) (by omega) ⟨by omega,by omega,by omega,λ_=>by omega,λj U=>?_,rfl⟩;rcases de j f with G|G
    ·obtain rfl:j=f-1:=by omega
     omega
    ·exact q j (by omega)
   ·have A:¬((x.getD (f-1) 0:Nat):Int)=0:=by simpa using A
    exact Q f (by omega) (λC=>by have:=t C;omega) (B λ_=>by omega) f ⟨by omega,by omega,by omega,s f,Ok.refl w⟩
  ·have o:=dF o;rw[I];exact Q f (by omega) (λC=>by have:=t C;omega) (B λhh=>by omega) f ⟨by omega,by omega,by omega,s f,Ok.refl w⟩)
 refine TC a n c h _ (L1 n (z:=(n:Int)) ⟨by omega,by omega,by omega,λC=>by omega,λj U=>?_,rfl⟩);rw[gD,getElem?_eq_none (by omega)];rfl
noncomputable def gO:FD:=gT Tryz.f272 [((pq 607),[0,1,7,8,9]),((pq 143967),[0,1,7,8,9,10]),((pq 1151),[0,1,7,8,11])]
abbrev kC(a b:LB)(k:Nat)(r:LB)(q:OA)(d c:Nat):LV:=[(strOf a),(strOf b),(ae q d c),(strOf r),(iA k)]
abbrev om(a b:LB)(k:Nat)(q:OA)(e c:Nat)(r:LB)(d:Int):LV:=[(strOf a),(strOf b),(ae q e c),(strOf r),(iA k),(aB aK d)]
abbrev qV(a b r:LB)(q:OA)(d c:Nat)(z:Nat):LV:=[(strOf a),(strOf b),(ae q d c),(strOf r),(iA z)]
theorem Yk(a b:LB)(h:aw)(Q:VH)(i:aW 271 [(strOf a)] h λj d=>yB j λf=>cp (!f) (Q (av ⟨[(strOf []),(strOf []),(aA 1)]⟩) d) (aW 271 [(strOf b)] d λe c=>yB e λg=>cp (!g) (Q (av ⟨[(strOf []),(strOf []),(aA 1)]⟩) c) (cp ((b:LB)==[48]) (Q (av ⟨[(strOf []),(strOf []),(aA 4)]⟩) c) (cq gO (pq 607) (kC a b 0 ([48]) none 0 0) c (ez gO (pq 351) Q))))):aW 272 [(strOf a),(strOf b)] h Q:=gZ gO Tryz.func272 (bF i)
theorem DR(a b:LB)  (e:Nat->Nat->LB->OA->Nat->Nat->aw->Prop) (Q:VH) (step:∀(f:Nat)(k:Nat)(r:LB)(q:OA)(d c:Nat)(i:Nat->ah)(h:aw),e f k r q d c h->cp (decide ((k:Int)<(a.length:Int))) (cp ((r:LB)==[48]) (xS (cY au 9 (strOf a) (aa (iA k)) (aa (aA (aj an ((k:Int)+1)))) none h) λj=>cq gO (pq 143967) (om a b k q d c j 48) h (fZ gO (pq 153) (pq 607) (RR gO (pq 607) (Y2 (kC a b) e) f (ez gO (pq 351) Q)))) (xS (cY au 9 (strOf a) (aa (iA k)) (aa (aA (aj an ((k:Int)+1)))) none h) λl=>xS (cm au .add 9 (strOf r) (strOf l)) λm=>cq gO (pq 143967) (om a b k q d c m 48) h (fZ gO (pq 153) (pq 607) (RR gO (pq 607) (Y2 (kC a b) e) f (ez gO (pq 351) Q))))) (cq gO (pq 1151) (qV a b r q d c 0) h (ez gO (pq 639) Q))) (f:Nat) {k:Nat} {r:LB} {q:OA} {d c:Nat} {h:aw} (g:e f k r q d c h):cq gO (pq 607) (kC a b k r q d c) h (ez gO (pq 351) Q):=
 LP (kC a b) e (λf k r q d c i h g=>bF (step f k r q d c i h g)) f g
theorem DS(a b:LB)(j:Nat->Nat->LB->OA->Nat->Nat->aw->Prop)(u k:Nat)(q:OA)(i g:Nat)(e:Nat->LB->Int->aw->Prop)(Q:VH)(step:∀(c:Nat) (r:LB) (d:Int) (G:Nat->ah) (h:aw),e c r d h->aW 277 [(strOf r),(strOf b)] h λz f=>yI an z λH=>cp (decide (H>=0)) (aW 273 [(strOf r)] f λJ R=>yL J λv x n=>aW 273 [(strOf b)] R λt N=>yL t λM I p=>aW 278 [(ae v x n),(ae M I p)] N λF A=>yL F λB L C=>aW 276 [(ae B L C)] A λw O=>yS w λE=>cB (wz (om a b k q i g) e) c [(strOf a),(strOf b),(ae q i g),(strOf E),(iA k),(aB aK (aj aK (d+1)))] O) (xR (bC au 183 1 [(0,(aB aK d))]) f λS P K l=>xE (bY au 183 183 (ae q i g) (sA (f.ax) P K) l) l λs o D T y=>cB (Y2 (kC a b) j) u [(strOf a),(strOf b),(ae s o D),(strOf r),(aA (aj an ((k:Int)+1)))] y))(c:Nat){r:LB}{d:Int}{h:aw}(m:e c r d h):cq gO (pq 143967) (om a b k q i g r d) h (fZ gO (pq 153) (pq 607) (RR gO (pq 607) (Y2 (kC a b) j) u (ez gO (pq 351) Q))):=
 sK (om a b k q i g) e (λc r d G h m=>bF (step c r d G h m)) c m
theorem DT(a b:LB)(r:LB)(q:OA)(c e:Nat)(f:Nat->Nat->aw->Prop)(Q:VH)(step:∀(d:Nat) (z:Nat) (n:Nat->ah) (h:aw),f d z h->cp (decide ((z:Int)<aj an ((c:Int)-1))) (qX (xI aK) 183 (ae q c e) (iA z) 5 h λo=>cp ((o==48)) (cB (mw (qV a b r q c e) f) d [(strOf a),(strOf b),(ae q c e),(strOf r),(aA (aj an ((z:Int)+1)))] h) (xL (cY au 183 (ae q c e) (aa (iA z)) none none h) λm t k=>xS (GP au 183 9 (ae m t k) h) λi=>Q (av ⟨[(strOf i),(strOf r),(aA 0)]⟩) h)) (xL (cY au 183 (ae q c e) (aa (iA z)) none none h) λp l j=>xS (GP au 183 9 (ae p l j) h) λs=>Q (av ⟨[(strOf s),(strOf r),(aA 0)]⟩) h))(d:Nat){z:Nat}{h:aw}(g:f d z h):cq gO (pq 1151) (qV a b r q c e z) h (ez gO (pq 639) Q):=
 gP (qV a b r q c e) f (λd z n h g=>bF (step d z n h g)) d g
noncomputable def zL:FD:=gT Tryz.f249 [((pq 35),[0,1])]
abbrev qW  (x y:LB):LV:=[(strOf x),(strOf y)]
theorem Ym(a b:LB)(h:aw)(Q:VH)(i:aW 271 [(strOf a)] h λj c=>yB j λf=>cp (!f) (Q (av ⟨[(strOf []),(aA 1)]⟩) c) (aW 271 [(strOf b)] c λe d=>yB e λg=>cp (!g) (Q (av ⟨[(strOf []),(aA 1)]⟩) d) (cq zL (pq 35) (qW a b) d (ez zL (pq 19) Q)))):aW 249 [(strOf a),(strOf b)] h Q:=gZ zL Tryz.func249 (bF i)
theorem DU(a b:LB)  (d:Nat->LB->LB->aw->Prop) (Q:VH) (step:∀(c:Nat)(x y:LB)(i:Nat->ah)(h:aw),d c x y h->cp (!((y:LB)==[48])) (aW 272 [(strOf x),(strOf y)] h λj k=>∃l:LB,∃e:LB,∃g:Int,j=(av ⟨[(strOf l),(strOf e),(aA g)]⟩)/\cB (wz qW d) c [(strOf y),(strOf e)] k) (Q (av ⟨[(strOf x),(aA 0)]⟩) h)) (c:Nat) {x y:LB} {h:aw} (f:d c x y h):cq zL (pq 35) (qW  x y) h (ez zL (pq 19) Q):=
 sK qW d (λc x y i h f=>bF (step c x y i h f)) c f
variable{k:Nat}
theorem acf(l:List UInt8){h:aw}{a b:Nat}(c:a<=b)(d:b<=l.length):cY au 9 (strOf l) (aa (aA (a:Int))) (aa (aA (b:Int))) none h=aa (strOf ((l.drop a).take (b-a))):=tV afu l rfl rfl c d
theorem abj{l:List UInt8}(h:k<l.length):(l.drop k).take (k+1-k)=[l.getD k 0]:=by
 rw[La h,show k+1-k=1 by omega];rfl
theorem kF(h:n<10^1000):(bp n).length<=1000:=(js (by omega)).2 h
theorem Sz{l:List UInt8}(h:k<l.length):l[k]?=aa (l.getD k 0):=by
 rw[gD,gE h];rfl
def three(a b:List UInt8)(e:Int):ah:= av ⟨[strOf a,strOf b,aA e]⟩
theorem Yl(m n:Nat)(L:m<10^1000)(B:n<10^1000)(U:0<n)(h:aw)(w:Wf h):aW 272 [strOf (bp m),strOf (bp n)] h (λv D=>v=three (bp (m/n)) (bp (m%n)) 0/\Ok h D):=by
 have u3:=kF L;have z7:=kF B;have z0:=gi m;generalize ha:bp m=a at*;have y4:Num.val a=m:=by rw[<-ha,ff]
 have y6:¬bp n=[48]:=λe=>by have:=gU.1 e;omega
 have L3:=λ(g0:aw) (r:List UInt8) (q:Option aF) (l x:Nat) (c:List UInt8) (M:iB h g0 5 (ae q l x) (c.map ys)) (hq:c.all ey=af) (z6:0<c.length) (z8:c.length<=1000) (y3:Num.val c=m/n) (y:r=bp (m%n)) (N:Ok h g0)=>
  DT a (bp n) r q l x (λs z g=>z+1<=c.length/\s=c.length-z/\(∀i,i<z->c[i]?=aa 48)/\g=g0) (λv D=>v=three (bp (m/n)) (bp (m%n)) 0/\Ok h D) (by
  intro s z;intros;rename_i g O;obtain⟨h1,h2,h3,rfl⟩:=O;have u1:l=c.length:=by have:=M.len;rwa[aG]at this
  have hw:aj an ((l:Int)-1)=(l:Int)-1:=cj (by omega) (by omega);have E:aj an ((z:Int)+1)=((z+1:Nat):Int):=by rw[cj (by omega) (by omega)];omega
  have fin:(z+1<c.length->c[z]?≠aa 48)->∃(x3:Option aF)(x4 x2:Nat),cY au 183 (ae q l x) (aa (aA (z:Int))) none none g=aa (ae x3 x4 x2)/\∃Y:List UInt8,GP au 183 9 (ae x3 x4 x2) g=aa (strOf Y)/\(three Y r 0=three (bp (m/n)) (bp (m%n)) 0/\Ok h g):=λhs=>by
   obtain⟨a',n',c',g1,A⟩:=M.from_ FX zz5 (z:=z) (by rw[aG];omega);rw[<-map_drop]at A;refine⟨a',n',c',g1,_,VK A,?_,N⟩;rw[OK hq (by omega) h3 hs,y3,y]
  rw[hw,E];refine ay (λo=>?_) (λo=>?_)
  ·have o:=dT o;obtain⟨p,A,X⟩:=M.rd.at_ FX zz5 un5 ag5 (k:= an) (i:=(z:Int)) (by omega) (by rw[aG];omega);have C:(c.map ys).getD ((z:Int)).toNat undef=aB aK ((c.getD z 0).toNat:Nat):=by
    rw[bn,gD,getElem?_map,Sz (by omega)];rfl
   rw[C]at X;refine⟨p,A,_,X,ay (λf=>?_) (λf=>?_)⟩
   ·have f:=Mh.1 f;refine fG (s-1) (by omega) ⟨by omega,by omega,λi O=>?_,rfl⟩;rcases de i z with t|t
    ·exact h3 i t
    ·obtain rfl:i=z:=by omega
     rw[Sz (by omega),f]
   ·exact fin λ_ e=>by
     rw[Sz (by omega)]at e;rw[Mh.2 (aC e)]at f;cases f
  ·have o:=dF o;exact fin λhh=>by omega)
 have L1:=DR a (bp n) (λs k r q l x g=>k<=a.length/\s=a.length-k/\r=bp (Num.val (a.take k)%n)/\(∃c:List UInt8,c.length=k/\c.all ey=af/\Num.val c=Num.val (a.take k)/n/\iB h g 5 (ae q l x) (c.map ys))/\Ok h g) (λv D=>v=three (bp (m/n)) (bp (m%n)) 0/\Ok h D) (by
  intro s k r q l x;intros;rename_i g O;obtain⟨h1,h2,y,⟨c,y1,x8,G,M⟩,N⟩:=O;refine ay (λo=>?_) (λo=>?_)
  ·have o:=dT o;have F:k<a.length:=by omega
   have S:=HG z0 F;have y5:=wA S;have x9:=dP (Num.val (a.take k)) U;have E:aj an ((k:Int)+1)=((k+1:Nat):Int):=by rw[cj (by omega) (by omega)];omega
   have x6:Num.val (a.take (k+1))=10*Num.val (a.take k)+nO (a.getD k 0):=ye (Sz F);have K:=Mr (r:=Num.val (a.take k)%n) S;have L2:=DS a (bp n) (λs k r q l x g=>k<=a.length/\s=a.length-k/\r=bp (Num.val (a.take k)%n)/\(∃c:List UInt8,c.length=k/\c.all ey=af/\Num.val c=Num.val (a.take k)/n/\iB h g 5 (ae q l x) (c.map ys))/\Ok h g) s k q l x
    (λx0 r d A=>∃j:Nat,d=48+(j:Int)/\j*n<=10*(Num.val (a.take k)%n)+nO (a.getD k 0)/\r=bp (10*(Num.val (a.take k)%n)+nO (a.getD k 0)-j*n)/\x0=10*(Num.val (a.take k)%n)+nO (a.getD k 0)-j*n/\Ok g A) (λv D=>v=three (bp (m/n)) (bp (m%n)) 0/\Ok h D) (by
    intro x0 r2 d;intros;rename_i A z3;obtain⟨j,rfl,x5,rfl,u2,J⟩:=z3;have P:=OG U y5 x5;generalize hR:10*(Num.val (a.take k)%n)+nO (a.getD k 0)=R at*;have z5:(bp (R-j*n)).length<=1001:=by
     have z4:=ub n;refine bK ((js (k:=(bp n).length+1) (by omega)).2 ?_) (by omega);rw[gb];generalize 10^(bp n).length=T at z4;clear B L;omega
    have y8:=N.trans J;refine(vG (R-j*n) n (by omega) (by omega) A y8.wf).mono ?_;rintro _ X ⟨rfl,H⟩;refine⟨_,rfl,ay (λf=>?_) (λf=>?_)⟩
    ·have f:=KM.1 (dT f);refine(xj _ (gi _) (by omega) X H.wf).mono ?_;rintro _ g4 ⟨a1,n1,c1,rfl,o1,x7⟩;refine⟨a1,n1,c1,rfl,(xj _ (gi _) (by omega) g4 x7.wf).mono ?_⟩;rintro _ g5 ⟨a2,n2,c2,rfl,o2,Q⟩;refine⟨a2,n2,c2,rfl,(Jg (o1.rd.ok Q) o2.rd (rz (gi _)) (rz (gi _)) (by rw[pN];omega) Q.wf).mono ?_⟩;rintro _ g6 ⟨a3,n3,c3,rfl,o3,x1⟩;refine⟨a3,n3,c3,rfl,(xl o3.rd (KO (rz (gi _)) (rz (gi _)) _ _ _ (by omega)) (by rw[jq,pN];omega) x1.wf).mono ?_⟩;rintro _ g7 ⟨rfl,y9⟩;have z1:(bp n).length<=(bp (R-j*n)).length:=by
      rcases de (bp (R-j*n)).length (bp n).length with t|t
      ·have:=qq t;omega
      ·exact t
     have Z:=KN (rz (gi (R-j*n))) (rz (gi n)) (by rw[pN,pN];exact z1) (by rw[kM,kM,ff,ff];exact f);rw[kM,kM,ff,ff]at Z;rw[Z];refine⟨_,rfl,?_⟩;have y2:aj aK (48+(j:Int)+1)=48+((j+1:Nat):Int):=by rw[xT (by omega) (by omega)];omega
     rw[y2];have C:(j+1)*n=j*n+n:=Nat.succ_mul j n;exact pe (R-j*n-n) (by clear B L;omega) ⟨j+1,rfl,by rw[C];clear B L;omega,by rw[C,Nat.sub_sub],by rw[C,Nat.sub_sub],((((J.trans H).trans x7).trans Q).trans x1).trans y9⟩
    ·have f:¬(n<=R-j*n):=λe=>by have:=dF f;exact this (KM.2 e)
     have W:=OH (V:=Num.val (a.take k)) (d:=nO (a.getD k 0)) U (k:=j) (by rw[hR];exact x5) (by rw[hR,Nat.succ_mul];clear B L;omega);rw[hR]at W;refine⟨_,_,_,af3 _,?_⟩;have y7:=N.trans (J.trans H);obtain⟨b,mm,dd,u,g6,g7,g8,g9⟩:=VG w y7 (M.ok (J.trans H)) (48+(j:Int)) (by rw[aG];omega);refine⟨b,mm,dd,u,g6,?_⟩;rw[E];refine um (s-1) (by omega) ⟨by omega,by omega,?_,⟨c++[jG j],by simp[y1],?_,?_,?_⟩,g9⟩
     ·rw[x6,W.2]
     ·rw[gX,x8];simp[yJ P]
     ·rw[mD,G,Hx P,x6,W.1]
     ·rw[bU];have C:ys (jG j)=aB aK (48+(j:Int)):=by
       unfold ys;rw[nR P];rfl
      show iB h _ 5 _ (_++[ys (jG j)]);rw[C];exact g8)
   have I:∀r',r'=bp (10*(Num.val (a.take k)%n)+nO (a.getD k 0))->∃j:Nat,(48:Int)=48+(j:Int)/\j*n<=10*(Num.val (a.take k)%n)+nO (a.getD k 0)/\r'=bp (10*(Num.val (a.take k)%n)+nO (a.getD k 0)-j*n)/\10*(Num.val (a.take k)%n)+nO (a.getD k 0)=10*(Num.val (a.take k)%n)+nO (a.getD k 0)-j*n/\Ok g g:=
    λr' e=>⟨0,rfl,by rw[iE];exact cr _,by rw[iE,sub_zero];exact e,by rw[iE,sub_zero],Ok.refl N.wf⟩
   rw[E];refine ay (λf=>?_) (λf=>?_)
   ·have f:r=[48]:=by simpa using f
    refine⟨_,acf a (by omega) (by omega),?_⟩;rw[abj F];refine L2 _ (I _ ?_);rw[<-K,iP (by rw[<-y];exact f)]
   ·have f:¬r=[48]:=by simpa using f
    refine⟨_,acf a (by omega) (by omega),?_⟩;rw[abj F];have u0:r.length<=1000:=by
     rw[y];exact kF (Nat.lt_trans x9 B)
    refine⟨_,adm r [a.getD k 0] (by simp;omega),?_⟩;refine L2 _ (I _ ?_);rw[<-K,iN (by rw[<-y];exact f),y]
  ·have o:=dF o;obtain rfl:k=a.length:=by omega
   rw[dX]at G y;rw[y4]at G y;have z9:0<a.length:=by rw[<-ha];exact sX m
   exact L3 g r q l x c M x8 (by omega) (by omega) G y N c.length (z:=0) ⟨by omega,by omega,λi O=>by omega,rfl⟩)
 refine Yk a (bp n) h _ ?_;refine(ie a h).mono ?_;rintro _ _ ⟨rfl,rfl⟩;have z2:Num.valid a=af:=by rw[<-ha];exact rV.2 L
 have y0:Num.valid (bp n)=af:=rV.2 B;refine⟨_,rfl,ay (λf=>?_) (λf=>?_)⟩
 ·rw[z2]at f;cases f
 ·refine(ie (bp n) _).mono ?_;rintro _ _ ⟨rfl,rfl⟩;refine⟨_,rfl,ay (λt=>?_) (λt=>ay (λh8=>?_) (λh8=>?_))⟩
  ·rw[y0]at t;cases t
  ·exact absurd (by simpa using h8) y6
  ·exact L1 a.length (k:=0) ⟨by omega,by omega,by rw[dU];simp[oH,tq],⟨[],rfl,rfl,by rw[dU];simp[oH],.inl ⟨rfl,rfl⟩⟩,Ok.refl w⟩
def JR(a:List UInt8)(e:Int):ah:= av ⟨[strOf a,aA e]⟩
def Gu(a b:List UInt8):ah:=if Num.valid a=af/\Num.valid b=af then JR (bp (Nat.gcd (Num.val a) (Num.val b))) 0 else JR [] 1
theorem Yn(a b:List UInt8)(h:aw)(w:Wf h):aW 249 [strOf a,strOf b] h (λv s=>v=Gu a b/\Ok h s):=by
 refine Ym a b h _ ?_;refine(ie a h).mono ?_;rintro _ _ ⟨rfl,rfl⟩;refine⟨_,rfl,ay (λi=>?_) (λi=>?_)⟩
 ·refine⟨?_,Ok.refl w⟩;unfold Gu;rw[iN (λe=>by rw[e.1]at i;cases i)];rfl
 ·refine(ie b _).mono ?_;rintro _ _ ⟨rfl,rfl⟩;refine⟨_,rfl,ay (λf=>?_) (λf=>?_)⟩
  ·refine⟨?_,Ok.refl w⟩;unfold Gu;rw[iN (λe=>by rw[e.2]at f;cases f)];rfl
  ·have o:Num.valid a=af:=by simpa using i
   have k:Num.valid b=af:=by simpa using f
   obtain⟨m,rfl,C,_⟩:=hH o;obtain⟨n,rfl,B,_⟩:=hH k;rename_i u _ _;have L:=DU (bp m) (bp n) (λc x y g=>∃p q:Nat,x=bp p/\y=bp q/\p<10^1000/\q<10^1000/\Nat.gcd p q=Nat.gcd m n/\c=q/\Ok u g) (λv s=>v=Gu (bp m) (bp n)/\Ok u s) (by
    intro c x y;intros;rename_i g D;obtain⟨p,q,rfl,rfl,F,r,A,rfl,t⟩:=D;refine ay (λd=>?_) (λd=>?_)
    ·have d:¬bp c=[48]:=by simpa using d
     have l:0<c:=Nat.pos_of_ne_zero λe=>d (gU.2 e);refine(Yl p c F r l g t.wf).mono ?_;rintro _ G ⟨rfl,z⟩;refine⟨_,_,_,rfl,?_⟩;have j:=dP p l;exact pe (p%c) j ⟨c,p%c,rfl,rfl,r,Nat.lt_trans j r,by rw[<-RL];exact A,rfl,t.trans z⟩
    ·have d:bp c=[48]:=by simpa using d
     have E:=gU.1 d;subst E;refine⟨?_,t⟩;unfold Gu;rw[iP ⟨o,k⟩,ff,ff,<-A,Nat.gcd_zero_right];rfl)
   exact L n ⟨m,n,rfl,rfl,C,B,rfl,rfl,Ok.refl w⟩
noncomputable def vV:FD:=gT Tryz.f210 [((pq 17),[0])]
abbrev te  (r:OA) (m d:Nat):LV:=[(ae r m d)]
theorem IK(a:OA)(n c:Nat)(h:aw)(Q:VH)(b:cq vV (pq 17) [(ae a n c)] h (ez vV [1,0,0] Q)):aW 210 [(ae a n c)] h Q:=gZ vV Tryz.func210 (bF b)
theorem uw(a:OA)(n c:Nat)  (e:Nat->OA->Nat->Nat->aw->Prop) (Q:VH) (step:∀(b:Nat)(r:OA)(m d:Nat)(g:Nat->ah)(h:aw),e b r m d h->cp (decide ((m:Int)>0)) (qX (xI az) 260 (ae r m d) (aA (aj an ((m:Int)-1))) 240 h λi=>cp ((i==0)) (xL (cY au 260 (ae r m d) none (aa (aA (aj an ((m:Int)-1)))) none h) λj k l=>cB (GR te e) b [(ae j k l)] h) (Q (ae r m d) h)) (Q (ae r m d) h)) (b:Nat) {r:OA} {m d:Nat} {h:aw} (f:e b r m d h):cq vV (pq 17) (te  r m d) h (ez vV [1,0,0] Q):=
 Jj te e (λb r m d g h f=>bF (step b r m d g h f)) b f
noncomputable def hZ:FD:=gT Tryz.f208 [((pq 35),[0,3]),((pq 9635),[0,3,4,5,6])]
abbrev lf  (s:LB) (r:OA) (a b:Nat):LV:=[(strOf s),(ae r a b)]
abbrev nG(s:LB)(r:OA)(b c:Nat)(a:Int)(i v:Int):LV:=[(strOf s),(ae r b c),(aA a),(bD v),(aA i)]
theorem Nq(l:LB)(h:aw)(Q:VH)(a:cq hZ (pq 35) [(strOf l),nA] h (ez hZ (pq 19) Q)):aW 208 [(strOf l)] h Q:=gZ hZ Tryz.func208 (bF a)
theorem zk(l:LB)  (d:Nat->LB->OA->Nat->Nat->aw->Prop) (Q:VH) (step:∀(c:Nat)(s:LB)(r:OA)(a b:Nat)(g:Nat->ah)(h:aw),d c s r a b h->cp (decide ((s.length:Int)>0)) (xI an (yv af [(aA 0),(aA (aj an ((s.length:Int)-9)))]) λf=>cq hZ (pq 9635) (nG s r a b f f 0) h (fZ hZ (pq 173) (pq 35) (RR hZ (pq 35) (sk lf d) c (ez hZ (pq 19) Q)))) (aW 210 [(ae r a b)] h λj k=>yL j λm i n=>Q (ae m i n) k)) (c:Nat) {s:LB} {r:OA} {a b:Nat} {h:aw} (e:d c s r a b h):cq hZ (pq 35) (lf  s r a b) h (ez hZ (pq 19) Q):=
 uD lf d (λc s r a b g h e=>bF (step c s r a b g h e)) c e
theorem zl(l:LB)(f:Nat->LB->OA->Nat->Nat->aw->Prop)(n:Nat)(s:LB)(r:OA)(d e:Nat)(c:Int)(b:Nat->Int->Int->aw->Prop)(Q:VH)(step:∀(a:Nat) (i v:Int) (q:Nat->ah) (h:aw),b a i v h->cp (decide ((i:Int)<(s.length:Int))) (xI aK (dR au 9 (strOf s) (aA i)) λx=>cB (wz (nG s r d e c) b) a [(strOf s),(ae r d e),(aA c),(bD (aj az (aj az (10*v)+aj az (aj aK (x-48))))),(aA (aj an (i+1)))] h) (xR (bC au 260 1 [(0,(bD v))]) h λz w u j=>xE (bY au 260 260 (ae r d e) (sA (h.ax) w u) j) j λm o t y g=>xS (cY au 9 (strOf s) none (aa (aA c)) none g) λp=>cB (sk lf f) n [(strOf p),(ae m o t)] g))(a:Nat){i v:Int}{h:aw}(k:b a i v h):cq hZ (pq 9635) (nG s r d e c i v) h (fZ hZ (pq 173) (pq 35) (RR hZ (pq 35) (sk lf f) n (ez hZ (pq 19) Q))):=
 sK (nG s r d e c) b (λa i v q h k=>bF (step a i v q h k)) a k
noncomputable def ahC:FD:=gT Tryz.f289 []
theorem aeB(x:Int)(h:aw)(Q:VH)(a:Q (ai (((x:Int) !=x))) h):aW 289 [(bD x)] h Q:=gZ ahC Tryz.func289 (bF a)
noncomputable def ahc:FD:=gT Tryz.f268 []
theorem adG(x y:Int)(h:aw)(Q:VH)(e:aW 289 [(bD x)] h λg f=>yB g λd=>aW 289 [(bD y)] f λc a=>yB c λb=>cp d (cp b (Q (aA 0) a) (Q (aA (-1)) a)) (cp b (Q (aA 1) a) (cp (decide ((x:Int)<y)) (Q (aA (-1)) a) (cp (decide ((x:Int)>y)) (Q (aA 1) a) (Q (aA 0) a))))):aW 268 [(bD x),(bD y)] h Q:=gZ ahc Tryz.func268 (bF e)
noncomputable def ahB:FD:=gT Tryz.f175 []
theorem aeA(x:Int)(h:aw)(Q:VH)(a:Q (ai (((x:Int) !=x))) h):aW 175 [(aA x)] h Q:=gZ ahB Tryz.func175 (bF a)
noncomputable def ahb:FD:=gT Tryz.f139 []
theorem adE(x y:Int)(h:aw)(Q:VH)(e:aW 175 [(aA x)] h λg f=>yB g λd=>aW 175 [(aA y)] f λc a=>yB c λb=>cp d (cp b (Q (aA 0) a) (Q (aA (-1)) a)) (cp b (Q (aA 1) a) (cp (decide ((x:Int)<y)) (Q (aA (-1)) a) (cp (decide ((x:Int)>y)) (Q (aA 1) a) (Q (aA 0) a))))):aW 139 [(aA x),(aA y)] h Q:=gZ ahb Tryz.func139 (bF e)
noncomputable def qI:FD:=gT Tryz.f241 [((pq 75),[0,1,18,19])]
abbrev mH(a:OA)(n c:Nat)(b:OA)(m d:Nat)(i:Nat):LV:=[(ae a n c),(ae b m d),(iA n),(iA i)]
theorem Kl(a:OA)(n c:Nat)(b:OA)(m d:Nat)(h:aw)(Q:VH)(f:cp (((n:Int) !=(m:Int))) (aW 139 [(iA n),(iA m)] h λi g=>yI an i λe=>Q (aA e) g) (cq qI (pq 75) (mH a n c b m d 0) h (ez qI (pq 43) Q))):aW 241 [(ae a n c),(ae b m d)] h Q:=gZ qI Tryz.func241 (bF f)
theorem yw(a:OA)(n c:Nat)(b:OA)(m d:Nat)  (f:Nat->Nat->aw->Prop) (Q:VH) (step:∀(e:Nat)(i:Nat)(k:Nat->ah)(h:aw),f e i h->cp (decide ((i:Int)<(n:Int))) (qX (xI az) 260 (ae a n c) (aA (aj an (aj an ((n:Int)-1)-(i:Int)))) 240 (room h 18) λo=>qX (xI az) 260 (ae b m d) (aA (aj an (aj an ((n:Int)-1)-(i:Int)))) 240 (room h 18) λq=>aW 268 [(bD o),(bD q)] (room h 18) λp l=>yI an p λg=>cp ((g !=0)) (Q (aA g) l) (cB (mw (mH a n c b m d) f) e [(ae a n c),(ae b m d),(iA n),(aA (aj an ((i:Int)+1)))] l)) (Q (aA 0) h)) (e:Nat) {i:Nat} {h:aw} (j:f e i h):cq qI (pq 75) (mH a n c b m d i) h (ez qI (pq 43) Q):=
 gP (mH a n c b m d) f (λe i k h j=>bF (step e i k h j)) e j
noncomputable def YD:FD:=gT Tryz.f283 []
theorem TJ(x y z:Int)(p:OA)(h:aw)(Q:VH)(d:xI az (aM au 240 h (.pointer p)) λa=>xI az (cm au .rem 240 (bD (aj az (aj az (x*a)+z))) (bD 1000000000)) λc=>xI az (cm au .quo 240 (bD (aj az (aj az (x*a)+z))) (bD 1000000000)) λb=>Q (av ⟨[(bD c),(bD b)]⟩) h):aW 283 [(bD x),(bD y),(bD z),(.pointer p)] h Q:=gZ YD Tryz.func283 (bF d)
noncomputable def qA:FD:=gT Tryz.f266 [((pq 151),[0,1,2,7,8,18,19])]
abbrev pS(a:OA)(n c:Nat)(p:OA)(b:Int)(i:Nat)(cy:Int)(r:OA)(d e:Nat):LV:=[(ae a n c),nA,(aN (.func 283) ⟨[]⟩ ⟨[(.pointer p)]⟩),(ae r d e),(bD cy),(aA b),(iA i)]
theorem Kb(a:OA)(n c:Nat)(p:OA)(h:aw)(Q:VH)(d:xI an (yv af [(iA n),(aA 0)]) λb=>cq qA (pq 151) [(ae a n c),nA,(aN (.func 283) ⟨[]⟩ ⟨[(.pointer p)]⟩),nA,(bD 0),(aA (aj an (b+1))),(aA 0)] h (ez qA (pq 87) Q)):aW 266 [(ae a n c),nA,(aN (.func 283) ⟨[]⟩ ⟨[(.pointer p)]⟩)] h Q:=gZ qA Tryz.func266 (bF d)
theorem yu(a:OA)(n c:Nat)(p:OA)(e:Int)(g:Nat->Nat->Int->OA->Nat->Nat->aw->Prop)(Q:VH)(step:∀(f:Nat) (i:Nat) (cy:Int) (r:OA) (b d:Nat) (Y:Nat->ah) (h:aw),g f i cy r b d h->(λ(j:ah->ah->aw->Prop)=>cp (decide ((i:Int)<e)) (cp (decide ((i:Int)<(n:Int))) (qX (xI az) 260 (ae a n c) (iA i) 240 h λE=>cp (decide ((i:Int)<0)) (qX (xI az) 260 nA (iA i) 240 h λn5=>aW 283 [(bD E),(bD n5),(bD cy),(.pointer p)] h λv6 h7=>∃n8:Int,∃F:Int,v6=(av ⟨[(bD n8),(bD F)]⟩)/\xR (bC au 260 1 [(0,(bD n8))]) h7 λy6 T y1 l=>xE (bY au 260 260 (ae r b d) (sA (h7.ax) T y1) l) l λD N V y9 L=>j (ae D N V) (bD F) L) (aW 283 [(bD E),(bD 0),(bD cy),(.pointer p)] h λx6 z=>∃q:Int,∃y:Int,x6=(av ⟨[(bD q),(bD y)]⟩)/\xR (bC au 260 1 [(0,(bD q))]) z λz1 S G s=>xE (bY au 260 260 (ae r b d) (sA (z.ax) S G) s) s λy2 x3 x7 z0 x1=>j (ae y2 x3 x7) (bD y) x1)) (cp (decide ((i:Int)<0)) (qX (xI az) 260 nA (iA i) 240 h λM=>aW 283 [(bD 0),(bD M),(bD cy),(.pointer p)] h λy0 o=>∃k:Int,∃m:Int,y0=(av ⟨[(bD k),(bD m)]⟩)/\xR (bC au 260 1 [(0,(bD k))]) o λy8 x8 H w=>xE (bY au 260 260 (ae r b d) (sA (o.ax) x8 H) w) w λW y3 U y4 K=>j (ae W y3 U) (bD m) K) (aW 283 [(bD 0),(bD 0),(bD cy),(.pointer p)] h λJ x=>∃u:Int,∃v:Int,J=(av ⟨[(bD u),(bD v)]⟩)/\xR (bC au 260 1 [(0,(bD u))]) x λy5 Z x4 t=>xE (bY au 260 260 (ae r b d) (sA (x.ax) Z x4) t) t λx5 x2 I y7 P=>j (ae x5 x2 I) (bD v) P))) (aW 210 [(ae r b d)] h λx9 X=>yL x9 λB R x0=>Q (ae B R x0) X)) (λC O hz=>cB (Y2 (pS a n c p e) g) f [(ae a n c),nA,(aN (.func 283) ⟨[]⟩ ⟨[(.pointer p)]⟩),C,O,(aA e),(aA (aj an ((i:Int)+1)))] hz))(f:Nat){i:Nat}{cy:Int}{r:OA}{b d:Nat}{h:aw}(A:g f i cy r b d h):cq qA (pq 151) (pS a n c p e i cy r b d) h (ez qA (pq 87) Q):=
 LP (pS a n c p e) g (λf i cy r b d Y h A=>bF (step f i cy r b d Y h A)) f A
noncomputable def Qk:FD:=gT Tryz.f260 []
theorem Nu(a:OA)(n c:Nat)(k:Int)(h:aw)(Q:VH)(f:xN (iF au 240 (bD k)) h λl d=>aW 266 [(ae a n c),nA,(aN (.func 283) ⟨[]⟩ ⟨[(pA (h.ax))]⟩)] d λb i=>yL b λj g e=>Q (ae j g e) i):aW 260 [(ae a n c),(bD k)] h Q:=gZ Qk Tryz.func260 (bF f)
def uv(d:Nat):ah:= bD (d:Int)
theorem FY:au.underlying 260=aa (.slice 240):=by kernel_rfl
theorem VP:au.underlying 240=aa (.int az):=by kernel_rfl
theorem JP:cd au 240=aa 1:=by kernel_rfl
theorem UB:Go.Ab.isAgg au 240=ak:=by kernel_rfl
noncomputable def abR:TypeInfo:=(gF au 240).getD default
theorem QL:gF au 240=aa abR:=by kernel_rfl
theorem Jc:abR.size=1:=by kernel_rfl
theorem FM:abR.bytes=8:=by kernel_rfl
theorem yh(z:Int):bC au 260 1 [(0,bD z)]=aa (.cells [bD z] 240 1 af,pw 1 1):=by kernel_rfl
theorem qZ(d:Wf g)(e:Ok g h){v:ah}{a:List ah}(o:iB g h 240 v a)(z:Int)(f:a.length<=100000):
  ∃(b:Option aF)(n c:Nat)(u:dJ),bY au 260 260 v (sA h.ax 1 1) (h.push (.cells [bD z] 240 1 af))=aa (ae b n c,u)/\n=a.length+1/\iB g (u.app (h.push (.cells [bD z] 240 1 af))) 240 (ae b n c) (a++[bD z])/\Ok g (u.app (h.push (.cells [bD z] 240 1 af))):=
 iB.snoc FY QL Jc d e o rfl (by rw[FM];omega) (by omega)
theorem aa0(l:List Nat)(i:Nat)(h:i<l.length):(l.map uv).getD i undef=bD (l.getD i 0:Nat):=by
 simp[gD,getElem?_map,gE h,uv]
theorem K2{l:List Nat}(r:Rd h 240 v (l.map uv)){i:Int}(d:0<=i)(b:i<l.length):
  ∃p:aF,aZ au 260 v (aA i)=aa (bN p)/\aM au 240 h (bN p)=aa (bD (l.getD i.toNat 0:Nat)):=by
 obtain⟨p,c,a⟩:=r.at_ FY JP VP UB (k:= an) d (by rw[aG];exact b);rw[aa0 l _ (by omega)]at a;exact⟨p,c,a⟩
theorem xb{c:Nat}{l:List Nat}(o:iB g h 240 (ae a n c) (l.map uv))(D:l.length<=100000):
  aW 210 [ae a n c] h (λv w=>∃k f e,v=ae k f e/\iB g h 240 (ae k f e) ((gV l).map uv)/\w=h):=by
 have A:n=l.length:=by have:=o.len;rwa[aG]at this
 have L:=uw a n c (λb r m d J=>m<=l.length/\b=m/\iB g h 240 (ae r m d) ((l.take m).map uv)/\gV l=gV (l.take m)/\J=h) (λv w=>∃k f e,v=ae k f e/\iB g h 240 (ae k f e) ((gV l).map uv)/\w=h) (by
  intro b r m d;intros;rename_i J I;obtain⟨K,rfl,u,x,rfl⟩:=I;have H:aj an ((b:Int)-1)=(b:Int)-1:=cj (by omega) (by omega);rw[H];have t:b≠0->l.take b=l.take (b-1)++[l.getD (b-1) 0]:=λt=>by
   obtain⟨j,rfl⟩:∃j,b=j+1:=⟨b-1,by omega⟩
   rw[eQ (by omega),Nat.add_sub_cancel,gD,gE (by omega)];rfl
  refine ay (λs=>?_) (λs=>?_)
  ·have s:=dT s;obtain⟨p,F,C⟩:=K2 u.rd (i:=(b:Int)-1) (by omega) (by rw[bo];omega);have E:(l.take b).getD ((b:Int)-1).toNat 0=l.getD (b-1) 0:=by
    rw[show((b:Int)-1).toNat=b-1 by omega,gD,List.getElem?_take,iP (by omega),gD]
   rw[E]at C;refine⟨p,F,_,C,ay (λq=>?_) (λq=>?_)⟩
   ·have q:((l.getD (b-1) 0:Nat):Int)=0:=by simpa using q
    have q:l.getD (b-1) 0=0:=by omega
    obtain⟨k,f,e,G,y⟩:=u.upto FY JP (z:=b-1) (by rw[aG,bo];omega) (by rw[aG,bo];omega);rw[show((b:Int)-1)=((b-1:Nat):Int) by omega];have B:f=b-1:=by have:=y.len;rw[bo,aG,bo]at this;omega
    subst B;refine⟨k,_,e,G,C8 (b-1) (by omega) ⟨by omega,rfl,?_,?_,rfl⟩⟩
    ·rw[<-map_take,take_take,dO (by omega)]at y;exact y
    ·rw[x,t (by omega),q,np]
   ·have q:¬((l.getD (b-1) 0:Nat):Int)=0:=by simpa using q
    refine⟨r,b,d,rfl,?_,rfl⟩;rw[x,t (by omega),oD _ (by omega),<-t (by omega)];exact u
  ·have s:=dF s;obtain rfl:b=0:=by omega
   refine⟨r,0,d,rfl,?_,rfl⟩;rw[x];exact u)
 exact IK a n c h _ (L n ⟨by omega,rfl,by rw[show l.take n=l by rw[A,dX]];exact o,by rw[show l.take n=l by rw[A,dX]],rfl⟩)
theorem KE{l:List UInt8}(h:i<l.length):Num.val (l.take (i+1))=10*Num.val (l.take i)+nO (l.getD i 0):=ye (Sz h)
theorem YG(l:List UInt8){h:aw}{b:Nat}(c:b<=l.length):cY au 9 (strOf l) none (aa (aA (b:Int))) none h=aa (strOf (l.take b)):=tV (a:=0) afu l rfl rfl (by omega) c
theorem O5(b:n=s.length-9)(a:0<s.length):Num.val s=Num.val (s.drop n)+10^(s.length-n)*Num.val (s.take n):=by
 have:=oF (s.take n) (s.drop n);rw[ej,cQ,dh]at this;omega
theorem wZ(l:List UInt8)(hd:l.all ey=af)(k:l.length<=10000)(h:aw)(w:Wf h):aW 208 [strOf l] h (nh h 240 ((cT 1000000000 (Num.val l)).map uv)):=by
 have Y:=zk l (λA s r o t g=>A=s.length/\s.all ey=af/\s.length<=10000/\Ok h g/\∃a:List Nat,(∀d∈a,d<1000000000)/\a.length+s.length<=10000/\iB h g 240 (ae r o t) (a.map uv)/\Num.val l=Num.bv 1000000000 a+1000000000^a.length*Num.val s) (nh h 240 ((cT 1000000000 (Num.val l)).map uv)) (by
  intro A s r o t;intros;rename_i g X;obtain⟨rfl,p,x2,Q,a,C,x0,O,I⟩:=X;refine ay (λz=>?_) (λz=>?_)
  ·have z:=dT z;have U:aj an ((s.length:Int)-9)=(s.length:Int)-9:=cj (by omega) (by omega);rw[U];have E:(if(s.length:Int)-9>0 then(s.length:Int)-9 else 0)=((s.length-9:Nat):Int):=by split<;>omega
   refine⟨_,Dp _ _ _,?_⟩;rw[E];have T:=zl l (λA s r o t g=>A=s.length/\s.all ey=af/\s.length<=10000/\Ok h g/\∃a:List Nat,(∀d∈a,d<1000000000)/\a.length+s.length<=10000/\iB h g 240 (ae r o t) (a.map uv)/\Num.val l=Num.bv 1000000000 a+1000000000^a.length*Num.val s) s.length s r o t ((s.length-9:Nat):Int)
    (λq i v B=>∃j:Nat,i=(s.length-9:Nat)+(j:Int)/\s.length-9+j<=s.length/\q=s.length-(s.length-9+j)/\v=(Num.val ((s.drop (s.length-9)).take j):Nat)/\B=g) (nh h 240 ((cT 1000000000 (Num.val l)).map uv)) (by
    intro q i v;intros;rename_i B P;obtain⟨j,rfl,hj,x3,rfl,rfl⟩:=P;have D:(s.drop (s.length-9)).all ey=af:=by
     rw[cw]at p⊢;exact λx c=>p x (List.mem_of_mem_drop c)
    have F:=HA (l:=(s.drop (s.length-9)).take j) (by
     rw[cw]at D⊢;exact λx c=>D x (dN c))
    have f:Num.val ((s.drop (s.length-9)).take j)<1000000000:=by
     refine cz F (bK (dG (by omega) (show _<=9 by rw[bo,cQ];omega)) (by decide))
    refine ay (λe=>?_) (λe=>?_)
    ·have e:=dT e;have H:s.length-9+j<s.length:=by omega
     have y:=HG p H;have x4:=qa.1 y;have x1:=wA y;refine⟨_,Gv (h:=B) s (by omega) e,?_⟩;have G:(((s.length-9:Nat):Int)+(j:Int)).toNat=s.length-9+j:=by omega
     rw[G];have R:aj aK ((((s.getD (s.length-9+j) 0).toNat:Nat):Int)-48)=(nO (s.getD (s.length-9+j) 0):Nat):=by
      rw[xT (by omega) (by omega)];unfold nO;omega
     have e2:(s.drop (s.length-9)).getD j 0=s.getD (s.length-9+j) 0:=by
      rw[gD,List.getElem?_drop,gD]
     have N:=KE (l:=s.drop (s.length-9)) (i:=j) (by rw[cQ];omega);rw[e2]at N;dsimp only;rw[R,jO (n:=((nO (s.getD (s.length-9+j) 0):Nat):Int)) (by omega) (by omega),jO (n:=10*((Num.val ((s.drop (s.length-9)).take j):Nat):Int)) (by omega) (by omega),jO (by omega) (by omega),cj (n:=((s.length-9:Nat):Int)+(j:Int)+1) (by omega) (by omega)];exact pe (q-1) (by omega) ⟨j+1,by omega,by omega,by omega,by rw[N];omega,rfl⟩
    ·have e:=dF e;have K:(s.drop (s.length-9)).take j=s.drop (s.length-9):=bm (by rw[cQ];omega);rw[K]at f⊢;refine⟨_,_,_,yh _,?_⟩;obtain⟨b,m,d,u,V,g7,S,g9⟩:=qZ w Q O ((Num.val (s.drop (s.length-9)):Nat):Int) (by rw[aG];omega);refine⟨b,m,d,u,V,?_⟩;refine⟨_,YG s (show s.length-9<=s.length by omega),?_⟩;refine nE (s.take (s.length-9)).length (by rw[bo];omega) ⟨rfl,?_,by rw[bo];omega,g9,a++[Num.val (s.drop (s.length-9))],?_,?_,?_,?_⟩
     ·rw[cw]at p⊢;exact λx c=>p x (dN c)
     ·intro x c;rcases bH.1 c with c|c
      ·exact C x c
      ·rw[aX.1 c];exact f
     ·rw[bg,bo];simp;omega
     ·rw[bU];exact S
     ·rw[vK,bg,I,O5 (s:=s) rfl (by omega),bw];rcases de s.length 10 with W|W
      ·rw[show s.length-9=0 by omega,dU,oH];simp
      ·rw[show s.length-(s.length-9)=9 by omega,show(10:Nat)^9=1000000000 from rfl,gb,kX,jh];omega)
   exact T _ ⟨0,by omega,by omega,rfl,by simp[oH],rfl⟩
  ·have z:=dF z;obtain rfl:s=[]:=aY (by omega);refine(xb O (by omega)).mono ?_;rintro _ B ⟨M,L,J,rfl,Z,rfl⟩;refine⟨M,L,J,rfl,M,L,J,rfl,?_,Q⟩;rw[I,oH,iD,fh,<-pO (by omega) C];exact Z)
 exact Nq l h _ (Y l.length ⟨rfl,hd,k,Ok.refl w,[],by simp,by simpa using k,.inl ⟨rfl,rfl⟩,by simp[Num.bv]⟩)
variable{j:Nat}{P:aO}
theorem Vh(x:Int)(h:aw):aW 289 [bD x] h (λv a=>v=ai ak/\a=h):=aeB x h _ ⟨by simp,rfl⟩
theorem Vg(x:Int)(h:aw):aW 175 [aA x] h (λv a=>v=ai ak/\a=h):=aeA x h _ ⟨by simp,rfl⟩
theorem adH(m n:Nat)(h:aw):aW 268 [bD (m:Int),bD (n:Int)] h (λv c=>v=aA (iU m n)/\c=h):=by
 refine adG _ _ h _ ((Vh _ h).mono ?_);rintro _ _ ⟨rfl,rfl⟩;refine⟨_,rfl,(Vh _ _).mono ?_⟩;rintro _ _ ⟨rfl,rfl⟩;refine⟨_,rfl,ay (λe=>by cases e) (λ_=>ay (λe=>by cases e) (λ_=>ay (λa=>?_) (λa=>ay (λb=>?_) (λb=>?_))))⟩
 ·exact⟨by rw[p8 (by have:=dT a;omega)],rfl⟩
 ·exact⟨by rw[pZ (by have:=dT b;omega)],rfl⟩
 ·have a:=dF a;have b:=dF b;exact⟨by rw[show m=n by omega,vL],rfl⟩
theorem adF(m n:Nat)(h:aw):aW 139 [aA (m:Int),aA (n:Int)] h (λv c=>v=aA (iU m n)/\c=h):=by
 refine adE _ _ h _ ((Vg _ h).mono ?_);rintro _ _ ⟨rfl,rfl⟩;refine⟨_,rfl,(Vg _ _).mono ?_⟩;rintro _ _ ⟨rfl,rfl⟩;refine⟨_,rfl,ay (λe=>by cases e) (λ_=>ay (λe=>by cases e) (λ_=>ay (λa=>?_) (λa=>ay (λb=>?_) (λb=>?_))))⟩
 ·exact⟨by rw[p8 (by have:=dT a;omega)],rfl⟩
 ·exact⟨by rw[pZ (by have:=dT b;omega)],rfl⟩
 ·have a:=dF a;have b:=dF b;exact⟨by rw[show m=n by omega,vL],rfl⟩
abbrev BB:Nat:=1000000000
abbrev bl(n:Nat):List ah:=(cT BB n).map uv
theorem lE:1<BB:=by decide
theorem vC{b:Option aF}{c:Nat}{x:Nat}(E:Rd h 240 (ae a n c) (bl x))(D:Rd h 240 (ae b m k) (bl j))(I:(cT BB x).length<=10000)(w:Wf h):
  aW 241 [ae a n c,ae b m k] h (λv u=>v=aA (iU x j)/\Ok h u):=by
 have O:n=(cT BB x).length:=by have:=E.len;rwa[aG]at this
 have P:m=(cT BB j).length:=by have:=D.len;rwa[aG]at this
 have L:=λ(C:(cT BB x).length=(cT BB j).length)=>yw a n c b m k (λs i g=>i<=n/\s=n-i/\(cT BB x).drop (n-i)=(cT BB j).drop (n-i)/\Ok h g) (λv u=>v=aA (iU x j)/\Ok h u) (by
  intro s i;intros;rename_i g M;obtain⟨f,o,t,G⟩:=M;have B:aj an ((n:Int)-1)=(n:Int)-1:=cj (by omega) (by omega);have z:aj an ((n:Int)-1-(i:Int))=(n:Int)-1-(i:Int):=cj (by omega) (by omega);have A:aj an ((i:Int)+1)=((i+1:Nat):Int):=by rw[cj (by omega) (by omega)];omega
  rw[B,z,A];have l:=G.room 18;refine ay (λr=>?_) (λr=>?_)
  ·have r:=dT r;have N:((n:Int)-1-(i:Int)).toNat=n-1-i:=by omega
   obtain⟨p,J,H⟩:=K2 (E.ok l) (i:=(n:Int)-1-(i:Int)) (by omega) (by omega);obtain⟨q,K,F⟩:=K2 (D.ok l) (i:=(n:Int)-1-(i:Int)) (by omega) (by omega);rw[N]at H F;refine⟨p,J,_,H,q,K,_,F,(adH _ _ _).mono ?_⟩;rintro _ _ ⟨rfl,rfl⟩;have y:(cT BB x).drop (n-1-i+1)=(cT BB j).drop (n-1-i+1):=by rw[show n-1-i+1=n-i by omega];exact t
   refine⟨_,rfl,ay (λd=>?_) (λd=>?_)⟩
   ·refine⟨?_,l⟩;have d:iU ((cT BB x).getD (n-1-i) 0) ((cT BB j).getD (n-1-i) 0)≠0:=by simpa using d
    rcases Nat.lt_trichotomy ((cT BB x).getD (n-1-i) 0) ((cT BB j).getD (n-1-i) 0)with e|e|e
    ·have:=yF lE (gh lE x) C (by omega) y e;rw[fb lE,fb lE]at this;rw[p8 e,p8 this]
    ·rw[e,vL]at d;exact absurd rfl d
    ·have:=yF lE (gh lE j) C.symm (by omega) y.symm e;rw[fb lE,fb lE]at this;rw[pZ e,pZ this]
   ·have d:iU ((cT BB x).getD (n-1-i) 0) ((cT BB j).getD (n-1-i) 0)=0:=by simpa using d
    have e:(cT BB x).getD (n-1-i) 0=(cT BB j).getD (n-1-i) 0:=by
     unfold iU at d;split at d
     ·cases d
     ·split at d
      ·assumption
      ·cases d
    refine fG (s-1) (by omega) ⟨by omega,by omega,?_,l⟩;rw[show n-(i+1)=n-1-i by omega,db (show n-1-i<(cT BB x).length by omega),db (show n-1-i<(cT BB j).length by omega),y];congr 1;rw[gD,gE (by omega),gD,gE (by omega)]at e;exact e
  ·have r:=dF r;rw[show n-i=0 by omega,bV,bV]at t;have:x=j:=by rw[<-fb lE x,t,fb lE]
   exact⟨by rw[this,vL],G⟩)
 refine Kl a n c b m k h _ (ay (λf=>(adF _ _ h).mono ?_) (λf=>?_))
 ·rintro _ _ ⟨rfl,rfl⟩;have f:=SV f;refine⟨_,rfl,?_,Ok.refl w⟩;rcases Nat.lt_trichotomy n m with o|o|o
  ·rw[p8 o,p8 (qo lE (by omega))]
  ·exact absurd o f
  ·rw[pZ o,pZ (qo lE (by omega))]
 ·have f:=Si f;refine L (by omega) n (i:=0) ⟨by omega,by omega,?_,Ok.refl w⟩;rw[sub_zero,hW (by omega),hW (by omega)]
theorem aaN{t:aD}{p:ah}(o:Ok h g)(a:aM P t h p=aa v):aM P t g p=aa v:=by
 unfold aM at a⊢;split at a
 ·next c=>
  split at a
  ·next cs _ _ _ b=>rw[o.ext _ _ b];exact a
  ·cases a
 ·cases a
theorem TK{p:Option aF}(g:aM au 240 h (.pointer p)=aa (bD (k:Int)))(x y z:Nat)(c:x<BB)(e:k<=BB)(l:z<BB):
  aW 283 [bD (x:Int),bD (y:Int),bD (z:Int),.pointer p] h (λv d=>v=av ⟨[uv (fI BB k x y z).1,uv (fI BB k x y z).2]⟩/\d=h):=by
 have i:BB=1000000000:=rfl;have j:x*k<=1000000000000000000:=bK (dC (le_of_lt c) e) (by decide);have a:aj az ((x:Int)*(k:Int))=((x*k:Nat):Int):=by rw[<-gW];exact jO (by omega) (by omega)
 have f:aj az (((x*k:Nat):Int)+(z:Int))=((x*k+z:Nat):Int):=by rw[<-Int.natCast_add];exact jO (by omega) (by omega)
 refine TJ _ _ _ p h _ ⟨_,g,?_⟩;dsimp only;rw[a,f];refine⟨_,mL (b:=BB) (by omega) (by decide),_,vf (b:=BB) (by omega) (by omega) (by decide),?_,rfl⟩;unfold uv fI;rw[Int.natCast_emod,Int.natCast_ediv]
theorem Kc{c:Nat}{p:Option aF}(S:Rd h 240 (ae a n c) (x.map uv))(C:∀d∈x,d<BB)(x0:x.length<=10000)(Z:aM au 240 h (.pointer p)=aa (bD (k:Int)))(A:0<k)(E:k<=BB)(w:Wf h):
  aW 266 [ae a n c,nA,aN (.func 283) ⟨[]⟩ ⟨[.pointer p]⟩] h (nh h 240 (bl (Num.bv BB x*k))):=by
 have hn:n=x.length:=by have:=S.len;rwa[aG]at this
 have Y:BB=1000000000:=rfl;have hF:∀p q c,c<=BB-1->p<BB->(fI BB k p q c).2<=BB-1:=λp q c hc Z=>by
  unfold fI;dsimp only;have h1:p*k<=999999999*1000000000:=dC (by omega) E;have:(p*k+c)/BB<BB:=eJ (by rw[Y];omega);omega
 have T:∀j,jo (fI BB k) x [] 0 0 j<=BB-1:=by
  intro j
  induction j with
  |zero=>exact cr _
  |succ j ih=>exact hF _ _ _ ih (cW (by decide) C _)
 have fin:gV (dy (fI BB k) x [] 0 (n+1) 0)=cT BB (Num.bv BB x*k):=by
  rw[pO lE (nP (λp q c=>dP _ (by decide)) x [] (n+1) 0 0),RO lE E A C (n+1) 0 0 (by omega) A (by omega)];rw[bV,fh]
 have L:=yu a n c p ((n:Int)+1) (λz i cy r N P g=>i<=n+1/\z=n+1-i/\cy=(jo (fI BB k) x [] 0 0 i:Nat)/\iB h g 240 (ae r N P) ((dy (fI BB k) x [] 0 i 0).map uv)/\Ok h g) (nh h 240 (bl (Num.bv BB x*k))) (by
  intro z i cy r N P;intros;rename_i g hi;obtain⟨h1,h2,rfl,F,v⟩:=hi;have K:aj an ((i:Int)+1)=((i+1:Nat):Int):=by rw[cj (by omega) (by omega)];omega
  rw[K];have l:(dy (fI BB k) x [] 0 i 0).length=i:=jq _ _ _ _ _ _;have f:=mB (fI BB k) x [] i 0 0;rw[bO]at f;have o:jo (fI BB k) x [] 0 0 (i+1)=(fI BB k (x.getD i 0) (([]:List Nat).getD i 0) (jo (fI BB k) x [] 0 0 i)).2:=by
   show(fI BB k (x.getD (0+i) 0) (([]:List Nat).getD (0+i) 0) _).2=_;rw[bO]
  have x1:=T i;have W:=cW (b:=BB) (by decide) C i;have O:=aaN v Z;have U:=TK O (x.getD i 0) (([]:List Nat).getD i 0) (jo (fI BB k) x [] 0 0 i) W E (by omega);have M:([]:List Nat).getD i 0=0:=by simp
  refine ay (λy=>?_) (λy=>?_)
  ·have y:=dT y;refine ay (λt=>?_) (λt=>?_)
   ·have t:=dT t;obtain⟨q,J,g3⟩:=K2 (S.ok v) (i:=(i:Int)) (by omega) (by omega);rw[bn]at g3;refine⟨q,J,_,g3,ay (λs=>?_) (λs=>?_)⟩
    ·have:=dT s;omega
    ·refine(show aW 283 [bD ((x.getD i 0:Nat):Int),bD ((([]:List Nat).getD i 0:Nat):Int),bD ((jo (fI BB k) x [] 0 0 i:Nat):Int),.pointer p] g _ from U).mono ?_ |> (λe=>by rw[M]at e;exact e)
     rintro _ _ ⟨rfl,rfl⟩;refine⟨_,_,rfl,_,_,_,yh _,?_⟩;obtain⟨b,m,d,u,D,g7,B,G⟩:=qZ w v F ((fI BB k (x.getD i 0) (([]:List Nat).getD i 0) (jo (fI BB k) x [] 0 0 i)).1:Nat) (by rw[aG,l];omega);refine⟨b,m,d,u,D,um (z-1) (by omega) ⟨by omega,by omega,by rw[o],?_,G⟩⟩;rw[f,bU];exact B
   ·have t:=dF t;have V:x.getD i 0=0:=by rw[gD,getElem?_eq_none (by omega)];rfl
    refine ay (λs=>?_) (λs=>?_)
    ·have:=dT s;omega
    ·refine(show aW 283 [bD ((x.getD i 0:Nat):Int),bD ((([]:List Nat).getD i 0:Nat):Int),bD ((jo (fI BB k) x [] 0 0 i:Nat):Int),.pointer p] g _ from U).mono ?_ |> (λe=>by rw[M,V]at e;exact e)
     rintro _ _ ⟨rfl,rfl⟩;refine⟨_,_,rfl,_,_,_,yh _,?_⟩;obtain⟨b,m,d,u,D,g7,B,G⟩:=qZ w v F ((fI BB k (x.getD i 0) (([]:List Nat).getD i 0) (jo (fI BB k) x [] 0 0 i)).1:Nat) (by rw[aG,l];omega);refine⟨b,m,d,u,D,um (z-1) (by omega) ⟨by omega,by omega,by rw[o],?_,G⟩⟩;rw[f,bU];exact B
  ·have y:=dF y;obtain rfl:i=n+1:=by omega
   refine(xb F (by rw[l];omega)).mono ?_;rintro _ J ⟨R,Q,I,rfl,X,rfl⟩;rw[fin]at X;exact⟨R,Q,I,rfl,R,Q,I,rfl,X,v⟩)
 refine Kb a n c p h _ ⟨_,Dp _ _ _,?_⟩;have H:(if(0:Int)>(n:Int)then(0:Int)else(n:Int))=(n:Int):=iN (by omega);have hw:aj an ((n:Int)+1)=(n:Int)+1:=cj (by omega) (by omega);dsimp only;rw[H,hw];exact L (n+1) (i:=0) ⟨by omega,by omega,rfl,.inl ⟨rfl,rfl⟩,Ok.refl w⟩
noncomputable def fq:FD:=gT Tryz.f261 [((pq 143),[0,1,5,7,8]),((pq 1215),[0,1,5,7,9,10,87,88]),((pq 9727),[0,1,5,7,10,128,129])]
abbrev oW(a:OA)(n c:Nat)(b:OA)(m d:Nat)(q e:Int):LV:=[(ae a n c),(ae b m d),(iA m),(bD q),(bD e)]
abbrev ia(a:OA)(n c:Nat)(b:OA)(m d:Nat)(q e:Int)(i:Nat)(f cy:Int):LV:=[(ae a n c),(ae b m d),(iA m),(bD q),(bD f),(bD cy),(aA e),(iA i)]
abbrev oX(a:OA)(n c:Nat)(b:OA)(m d:Nat)(q e:Int)(i:Nat)(cy:Int):LV:=[(ae a n c),(ae b m d),(iA m),(bD q),(bD cy),(aA e),(iA i)]
theorem Qg(a:OA)(n c:Nat)(b:OA)(m d:Nat)(h:aw)(Q:VH)(j:qX (xI az) 260 (ae a n c) (iA m) 240 (room h 12) λe=>qX (xI az) 260 (ae a n c) (aA (aj an ((m:Int)-1))) 240 (room h 12) λg=>qX (xI az) 260 (ae b m d) (aA (aj an ((m:Int)-1))) 240 (room (room h 12) 16) λk=>xI az (cm au .quo 240 (bD (aj az (aj az (e*1000000000)+g))) (bD k)) λl=>qX (xI az) 260 (ae b m d) (aA (aj an ((m:Int)-1))) 240 (room (room h 12) 16) λi=>xI az (cm au .rem 240 (bD (aj az (aj az (e*1000000000)+g))) (bD i)) λf=>cq fq (pq 143) (oW a n c b m d l f) (room (room h 12) 16) (ez fq (pq 79) Q)):aW 261 [(ae a n c),(ae b m d)] h Q:=gZ fq Tryz.func261 (bF j)
theorem AQ(a:OA)(n c:Nat)(b:OA)(m d:Nat)  (g:Nat->Int->Int->aw->Prop) (Q:VH) (step:∀(f:Nat)(q e:Int)(s:Nat->ah)(h:aw),g f q e h->(λ(k:ah->aw->Prop)=>cp (decide ((q:Int)>=1000000000)) (qX (xI az) 260 (ae b m d) (aA (aj an ((m:Int)-1))) 240 (room h 28) λj=>cp (decide ((aj az (e+j):Int)>=1000000000)) (cp (decide ((aj az (q-1):Int)<1000000000)) (cq fq (pq 1215) (ia a n c b m d (aj az (q-1)) (aj an ((m:Int)+1)) 0 0 0) (room h 28) (ez fq (pq 703) Q)) (k (bD (aj az (e+j))) (room h 28))) (k (bD (aj az (e+j))) (room h 28))) (cp (decide ((m:Int)>1)) (cp (decide ((e:Int)<1000000000)) (qX (xI az) 260 (ae b m d) (aA (aj an ((m:Int)-2))) 240 (room h 28) λp=>qX (xI az) 260 (ae a n c) (aA (aj an ((m:Int)-2))) 240 (room h 28) λr=>cp (decide ((aj az (q*p):Int)>aj az (aj az (e*1000000000)+r))) (qX (xI az) 260 (ae b m d) (aA (aj an ((m:Int)-1))) 240 (room h 28) λi=>cp (decide ((aj az (e+i):Int)>=1000000000)) (cp (decide ((aj az (q-1):Int)<1000000000)) (cq fq (pq 1215) (ia a n c b m d (aj az (q-1)) (aj an ((m:Int)+1)) 0 0 0) (room h 28) (ez fq (pq 703) Q)) (k (bD (aj az (e+i))) (room h 28))) (k (bD (aj az (e+i))) (room h 28))) (cq fq (pq 1215) (ia a n c b m d q (aj an ((m:Int)+1)) 0 0 0) (room h 28) (ez fq (pq 703) Q))) (cq fq (pq 1215) (ia a n c b m d q (aj an ((m:Int)+1)) 0 0 0) (room h 28) (ez fq (pq 703) Q))) (cq fq (pq 1215) (ia a n c b m d q (aj an ((m:Int)+1)) 0 0 0) (room h 28) (ez fq (pq 703) Q)))) (λo t=>cB (wz (oW a n c b m d) g) f [(ae a n c),(ae b m d),(iA m),(bD (aj az (q-1))),o] t)) (f:Nat) {q e:Int} {h:aw} (l:g f q e h):cq fq (pq 143) (oW a n c b m d q e) h (ez fq (pq 79) Q):=
 sK (oW a n c b m d) g (λf q e s h l=>bF (step f q e s h l)) f l
theorem AR(a:OA)(n c:Nat)(b:OA)(m d:Nat)(q f:Int)(j:Nat->Nat->Int->Int->aw->Prop)(Q:VH)(step:∀(g:Nat) (i:Nat) (e cy:Int) (E:Nat->ah) (h:aw),j g i e cy h->(λ(B:ah->ah->aw->Prop)=>cp (decide ((i:Int)<f)) (cp (decide ((i:Int)<(m:Int))) (qX (xI az) 260 (ae b m d) (iA i) 240 h λo=>qX (xI az) 260 (ae a n c) (iA i) 240 h λp=>xI az (cm au .rem 240 (bD (aj az (cy+aj az (q*o)))) (bD 1000000000)) λl=>xI az (cm au .rem 240 (bD (aj az (aj az (aj az (p+1000000000)-l)-e))) (bD 1000000000)) λC=>xI az (cm au .quo 240 (bD (aj az (aj az (aj az (p+1000000000)-l)-e))) (bD 1000000000)) λv=>xI az (cm au .quo 240 (bD (aj az (cy+aj az (q*o)))) (bD 1000000000)) λF=>xP (aZ au 260 (ae a n c) (iA i)) λG=>xU (aQ au 240 (bN G) (bD C) h) h λI D=>B (bD (aj az (1-v))) (bD F) D) (qX (xI az) 260 (ae a n c) (iA i) 240 h λk=>xI az (cm au .rem 240 (bD cy) (bD 1000000000)) λr=>xI az (cm au .rem 240 (bD (aj az (aj az (aj az (k+1000000000)-r)-e))) (bD 1000000000)) λz=>xI az (cm au .quo 240 (bD (aj az (aj az (aj az (k+1000000000)-r)-e))) (bD 1000000000)) λw=>xI az (cm au .quo 240 (bD cy) (bD 1000000000)) λy=>xP (aZ au 260 (ae a n c) (iA i)) λx=>xU (aQ au 240 (bN x) (bD z) h) h λJ t=>B (bD (aj az (1-w))) (bD y) t)) (cp (((e:Int)==0)) (Q (bD q) h) (cq fq (pq 9727) (oX a n c b m d q (aj an ((m:Int)+1)) 0 0) h (ez fq (pq 5631) Q)))) (λu A H=>cB (GR (ia a n c b m d q f) j) g [(ae a n c),(ae b m d),(iA m),(bD q),u,A,(aA f),(aA (aj an ((i:Int)+1)))] H))(g:Nat){i:Nat}{e cy:Int}{h:aw}(s:j g i e cy h):cq fq (pq 1215) (ia a n c b m d q f i e cy) h (ez fq (pq 703) Q):=
 Jj (ia a n c b m d q f) j (λg i e cy E h s=>bF (step g i e cy E h s)) g s
theorem AT(a:OA)(n c:Nat)(b:OA)(m d:Nat)(q e:Int)(g:Nat->Nat->Int->aw->Prop)(Q:VH)(step:∀(f:Nat) (i:Nat) (cy:Int) (v:Nat->ah) (h:aw),g f i cy h->(λ(t:ah->aw->Prop)=>cp (decide ((i:Int)<e)) (qX (xI az) 260 (ae a n c) (iA i) 240 h λj=>cp (decide ((i:Int)<(m:Int))) (qX (xI az) 260 (ae b m d) (iA i) 240 h λk=>xI az (cm au .rem 240 (bD (aj az (aj az (j+cy)+k))) (bD 1000000000)) λz=>xI az (cm au .quo 240 (bD (aj az (aj az (j+cy)+k))) (bD 1000000000)) λs=>xP (aZ au 260 (ae a n c) (iA i)) λw=>xU (aQ au 240 (bN w) (bD z) h) h λC u=>t (bD s) u) (xI az (cm au .rem 240 (bD (aj az (j+cy))) (bD 1000000000)) λr=>xI az (cm au .quo 240 (bD (aj az (j+cy))) (bD 1000000000)) λy=>xP (aZ au 260 (ae a n c) (iA i)) λo=>xU (aQ au 240 (bN o) (bD r) h) h λB x=>t (bD y) x)) (Q (bD (aj az (q-1))) h)) (λp A=>cB (wz (oX a n c b m d q e) g) f [(ae a n c),(ae b m d),(iA m),(bD q),p,(aA e),(aA (aj an ((i:Int)+1)))] A))(f:Nat){i:Nat}{cy:Int}{h:aw}(l:g f i cy h):cq fq (pq 9727) (oX a n c b m d q e i cy) h (ez fq (pq 5631) Q):=
 sK (oX a n c b m d q e) g (λf i cy v h l=>bF (step f i cy v h l)) f l
noncomputable def ib:FD:=gT Tryz.f238 [((pq 287),[0,1,6,7,8,9]),((pq 2431),[0,1,4,6,7,8,9,49,50]),((pq 19455),[4,5,7,12,74,75])]
abbrev nH(a:OA)(n c:Nat)(b:OA)(m d:Nat)(j:Int)(e:OA)(f h:Nat)(r:OA)(g i:Nat):LV:=[(ae a n c),(ae b m d),(iA m),(bD j),(ae r g i),(ae e f h)]
abbrev nI(a:OA)(n c:Nat)(b:OA)(m d:Nat)(p:Int)(g:OA)(q l:Nat)(r:OA)(j o:Nat)(e:OA)(h k:Nat)(f:Int)(i:Nat):LV:=[(ae a n c),(ae b m d),(ae g q l),(iA m),(bD p),(ae r j o),(ae e h k),(aA f),(iA i)]
abbrev nJ(e:Int)(g:OA)(f c:Nat)(r:OA)(b d:Nat)(a:Int)(i:Nat)(left:Int):LV:=[(ae g f c),(ae r b d),(bD e),(bD left),(aA a),(iA i)]
theorem Nr(a:OA)(n c:Nat)(b:OA)(m d:Nat)(h:aw)(Q:VH)(v:aW 241 [(ae a n c),(ae b m d)] h λw f=>yI an w λs=>cp (decide (s<0)) (Q (av ⟨[nA,(ae a n c)]⟩) f) (qX (xI az) 260 (ae b m d) (aA (aj an ((m:Int)-1))) 240 f λq=>xI az (cm au .quo 240 (bD 1000000000) (bD (aj az (q+1)))) λe=>aW 260 [(ae a n c),(bD e)] f λr u=>yL r λt k p=>aW 260 [(ae b m d),(bD e)] u λg o=>yL g λi j l=>cq ib (pq 287) (nH a n c b m d e i j l t k p) o (ez ib (pq 159) Q))):aW 238 [(ae a n c),(ae b m d)] h Q:=gZ ib Tryz.func238 (bF v)
theorem zm(a:OA)(n c:Nat)(b:OA)(m d:Nat)(o:Int)(e:OA)(k l:Nat)(j:Nat->OA->Nat->Nat->aw->Prop)(Q:VH)(step:∀(i:Nat) (r:OA) (f g:Nat) (z:Nat->ah) (h:aw),j i r f g h->cp (decide ((f:Int)<=(n:Int))) (xR (bC au 260 1 [(0,(bD 0))]) h λD v A q=>xE (bY au 260 260 (ae r f g) (sA (h.ax) v A) q) q λu B t C w=>cB (GR (nH a n c b m d o e k l) j) i [(ae a n c),(ae b m d),(iA m),(bD o),(ae u B t),(ae e k l)] w) (xR (cK au 260 (aA (aj an ((f:Int)-(m:Int)))) (aA (aj an ((f:Int)-(m:Int))))) h λE p y x=>cq ib (pq 2431) (nI a n c b m d o (aa ⟨h.ax,0,none⟩) p y r f g e k l (p:Int) 0) x (ez ib (pq 1407) Q)))(i:Nat){r:OA}{f g:Nat}{h:aw}(s:j i r f g h):cq ib (pq 287) (nH a n c b m d o e k l r f g) h (ez ib (pq 159) Q):=
 Jj (nH a n c b m d o e k l) j (λi r f g z h s=>bF (step i r f g z h s)) i s
theorem zo(a:OA)(n c:Nat)(b:OA)(m d:Nat)(u:Int)(g:OA)(f p:Nat)(r:OA)(o q:Nat)(e:OA)(s t:Nat)(j:Int)(l:Nat->Nat->aw->Prop)(Q:VH)(step:∀(k:Nat) (i:Nat) (G:Nat->ah) (h:aw),l k i h->cp (decide ((i:Int)<j)) (xL (cY au 260 (ae r o q) (aa (aA (aj an (aj an ((f:Int)-1)-(i:Int))))) (aa (aA (aj an (aj an (aj an (aj an ((f:Int)-1)-(i:Int))+(m:Int))+1)))) none h) λH F E=>aW 261 [(ae H F E),(ae e s t)] h λD w=>yI az D λC=>xP (aZ au 260 (ae g f p) (aA (aj an (aj an ((f:Int)-1)-(i:Int))))) λB=>xU (aQ au 240 (bN B) (bD C) w) w λK y=>cB (mw (nI a n c b m d u g f p r o q e s t j) l) k [(ae a n c),(ae b m d),(ae g f p),(iA m),(bD u),(ae r o q),(ae e s t),(aA j),(aA (aj an ((i:Int)+1)))] y) (aW 210 [(ae r o q)] h λA I=>yL A λz v J=>cq ib (pq 19455) (nJ u g f p z v J (v:Int) 0 0) I (ez ib (pq 11263) Q)))(k:Nat){i:Nat}{h:aw}(x:l k i h):cq ib (pq 2431) (nI a n c b m d u g f p r o q e s t j i) h (ez ib (pq 1407) Q):=
 gP (nI a n c b m d u g f p r o q e s t j) l (λk i G h x=>bF (step k i G h x)) k x
theorem zp(a:OA)(n c:Nat)(b:OA)(m d:Nat)(o:Int)(g:OA)(q p:Nat)(r:OA)(e k:Nat)(f:Int)(l:Nat->Nat->Int->aw->Prop)(Q:VH)(step:∀(j:Nat) (i:Nat) (left:Int) (E:Nat->ah) (h:aw),l j i left h->cp (decide ((i:Int)<f)) (qX (xI az) 260 (ae r e k) (aA (aj an (aj an ((e:Int)-1)-(i:Int)))) 240 h λs=>xI az (cm au .quo 240 (bD (aj az (aj az (left*1000000000)+s))) (bD o)) λz=>xI az (cm au .rem 240 (bD (aj az (aj az (left*1000000000)+s))) (bD o)) λD=>xP (aZ au 260 (ae r e k) (aA (aj an (aj an ((e:Int)-1)-(i:Int))))) λw=>xU (aQ au 240 (bN w) (bD z) (room h 11)) (room h 11) λJ G=>cB (wz (nJ o g q p r e k f) l) j [(ae g q p),(ae r e k),(bD o),(bD D),(aA f),(aA (aj an ((i:Int)+1)))] G) (aW 210 [(ae g q p)] h λx A=>yL x λB y F=>aW 210 [(ae r e k)] A λH C=>yL H λu v I=>Q (av ⟨[(ae B y F),(ae u v I)]⟩) C))(j:Nat){i:Nat}{left:Int}{h:aw}(t:l j i left h):cq ib (pq 19455) (nJ o g q p r e k f i left) h (ez ib (pq 11263) Q):=
 sK (nJ o g q p r e k f) l (λj i left E h t=>bF (step j i left E h t)) j t
section
def fC(cs:List ah)(off:Nat)(W:List Nat):List ah:=cs.take off++W.map uv++cs.drop (off+W.length)
structure OR(h:aw)(k:Nat)(h':aw):Prop where
 wf:Wf h'
 nY:∀j B,j≠k->h.get j=aa B->h'.get j=aa B
 nx:h.ax<=h'.ax
theorem OR.refl{k:Nat}(w:Wf h):OR h k h:=⟨w,λ_ _ _ h=>h,aS _⟩
theorem OR.room{h a:aw}{k:Nat}(o:OR h k a)(n:Nat):OR h k (room a n):=⟨λj B b=>cz (o.wf j B b) (dg _ _),o.nY,bK o.nx (dg _ _)⟩
theorem OR.set{c:aw}{k:Nat}(o:OR h k c)(d:k<c.ax)(B:eE):OR h k (c.set k B):=by
 refine⟨λj C a=>?_,λj C b a=>?_,o.nx⟩
 ·rw[aw.bZ]at a;split at a
  ·next e=>rw[e];exact d
  ·exact o.wf _ _ a
 ·rw[aw.bZ,iN b];exact o.nY _ _ b a
theorem C9{k off c:Nat}{i:Int}(b:0<=i)(a:i<n):aZ au 260 (gG k off n c) (aA i)=aa (cn k (off+i.toNat)):=by
 unfold aZ;rw[FY];dsimp only;rw[JP];dsimp only;rw[iP ⟨b,a⟩,df,gH]
section
variable {g:aw} {k off:Nat} {cs:List ah} {W:List Nat}
theorem II(b:g.get k=aa (.cells (fC cs off W) 240 1 af))(c:off+W.length<=cs.length){i:Nat}(a:i<W.length):aM au 240 g (cn k (off+i))=aa (bD (W.getD i 0:Nat)):=by
 unfold aM;rw[VP];dsimp only;rw[b];dsimp only;rw[UB];simp only[dM,if_false];unfold fC;rw[cE,List.getElem?_append_right (by rw[bo];omega),bo,dO (by omega),Nat.add_sub_cancel_left,List.getElem?_append_left (by rw[aG];exact a),getElem?_map,gE a,gD,gE a];rfl
theorem Jp(h:g.get k=aa (.cells (fC cs off W) 240 1 af))(j:off+W.length<=cs.length){i:Nat}(b:i<W.length)(d:Nat):aQ au 240 (cn k (off+i)) (bD (d:Int)) g=aa (undef,.set k (.cells (fC cs off (W.set i d)) 240 1 af)):=by
 show(if cd au 240=aa 1 then(storeAt g k (off+i) [bD (d:Int)]).map λu=>(undef,u)else none)=_;rw[iP JP];unfold storeAt;rw[h];dsimp only;have a:(fC cs off W).length=cs.length:=by
  unfold fC;simp only[bg,bo,aG,cQ];omega
 rw[iP ⟨by rw[a];simp;omega,rfl⟩];have e:(fC cs off W).take (off+i)++[aB az (d:Int)]++(fC cs off W).drop (off+i+[aB az (d:Int)].length)=fC cs off (W.set i d):=by
  have f:(cs.take off).length=off:=by rw[bo];omega
  have c:(fC cs off W).take (off+i)++[aB az (d:Int)]++(fC cs off W).drop (off+i+[aB az (d:Int)].length)=(fC cs off W).set (off+i) (bD (d:Int)):=by
   rw[List.set_eq_take_append_cons_drop,iP (by rw[a];omega),cE];rfl
  rw[c];unfold fC;rw[cE,List.set_append,iN (by omega),f,Nat.add_sub_cancel_left,List.set_append,iP (by rw[aG];exact b),bT,cE,List.map_set];rfl
 rw[e];rfl
end
end
variable{l:Nat}
theorem Jh{a:Nat}:cm au .rem 240 (bD (a:Int)) (bD 1000000000)=aa (bD ((a%BB:Nat):Int)):=by rfl
theorem LG{a:Nat}(h:a<18446744073709551616):cm au .quo 240 (bD (a:Int)) (bD 1000000000)=aa (bD ((a/BB:Nat):Int)):=by
 have:=vf (P:=au) (t:=240) (a:=(a:Int)) (b:=BB) (by omega) (by omega) (by decide)
 grind
theorem ags{a b:Nat}(c:0<b):cm au .rem 240 (bD (a:Int)) (bD (b:Int))=aa (bD ((a%b:Nat):Int)):=by grind[mL]
theorem abH{a b:Nat}(h:a<18446744073709551616)(c:0<b):cm au .quo 240 (bD (a:Int)) (bD (b:Int))=aa (bD ((a/b:Nat):Int)):=by grind[vf]
theorem wU(h:z=(n:Int))(a:n<18446744073709551616):aj az z=(n:Int):=by grind[jO]
structure afT(h:aw)(k off c m:Nat)(cs:List ah)(U V:List Nat)(b:Option aF)(d:Nat):Prop where
 w:Wf h
 get:h.get k=aa (.cells (fC cs off U) 240 1 af)
 fit:off+U.length<=cs.length
 ul:U.length=m+1
 vl:V.length=m
 mp:0<m
 mle:m<=10000
 ult:∀x∈U,x<BB
 vlt:∀x∈V,x<BB
 v1:0<V.getD (m-1) 0
 lt:Num.bv BB U<BB*Num.bv BB V
 rd:∀g,OR h k g->Rd g 240 (ae b m d) (V.map uv)
def Mk(h:aw)(k a:Nat)(cs:List ah)(m:Nat)(U V:List Nat):VH:=λv b=>∃W:List Nat,W.length=m+1/\(∀x∈W,x<BB)/\Num.bv BB W=Num.bv BB U%Num.bv BB V/\v=uv (Num.bv BB U/Num.bv BB V)/\b.get k=aa (.cells (fC cs a W) 240 1 af)/\OR h k b
theorem Qh{c:Nat}{cs:List ah}{V:List Nat}{b:Option aF}(D:afT h k n c m cs y V b l):
  aW 261 [gG k n (m+1) c,ae b m l] h (Mk h k n cs m y V):=by
 have x8:BB=1000000000:=rfl;have w2:=D.ul;have v8:=D.vl;have x4:=D.mp;have u8:=D.mle;have F:0<BB:=by decide
 have ug:∀i,y.getD i 0<BB:=λi=>cW F D.ult i;have vg:∀i,V.getD i 0<BB:=λi=>cW F D.vlt i;have y2:aj an ((m:Int)-1)=((m-1:Nat):Int):=by rw[cj (by omega) (by omega)];omega
 have z4:1<m->aj an ((m:Int)-2)=((m-2:Nat):Int):=λhm=>by grind[cj]
 have M:aj an ((m:Int)+1)=(m:Int)+1:=cj (by omega) (by omega);have wi:∀i:Nat,i<=m->aj an ((i:Int)+1)=((i+1:Nat):Int):=λi hi=>by grind[cj]
 have L3:=λ(d:Nat) (W:List Nat) (y1:0<d) (w:d<BB) (w1:W.length=m+1) (o:∀x∈W,x<BB) (hq:d-1=Num.bv BB y/Num.bv BB V) (z2:Num.bv BB (dy (cP BB) W V 0 (m+1) 0)=Num.bv BB y%Num.bv BB V)=>
  AT (aa ⟨k,n,none⟩) (m+1) c b m l (d:Int) ((m:Int)+1) (λa i cy g=>i<=m+1/\a=m+1-i/\cy=(jo (cP BB) W V 0 0 i:Nat)/\g.get k=aa (.cells (fC cs n (dy (cP BB) W V 0 i 0++W.drop i)) 240 1 af)/\OR h k g) (Mk h k n cs m y V) (by
  intro a i cy;intros;rename_i g hi;obtain⟨X,h2,rfl,B,E⟩:=hi;have f:(dy (cP BB) W V 0 i 0).length=i:=jq _ _ _ _ _ _;have I:=mB (cP BB) W V i 0 0;rw[bO]at I;have x6:jo (cP BB) W V 0 0 (i+1)=(cP BB (W.getD i 0) (V.getD i 0) (jo (cP BB) W V 0 0 i)).2:=by
   show(cP BB (W.getD (0+i) 0) (V.getD (0+i) 0) _).2=_;rw[bO]
  have wg:W.getD i 0<BB:=cW F o i;have v4:jo (cP BB) W V 0 0 i<=1:=by
   clear x6 I f B h2 X
   induction i with
   |zero=>exact cr _
   |succ j ih=>
    have a1:=cW (b:=BB) F o (0+j);have a2:=vg (0+j);have a3:=ih (cW F o j);show(W.getD (0+j) 0+V.getD (0+j) 0+jo (cP BB) W V 0 0 j)/BB<=1
    grind
  have u5:=vg i;have z1:(dy (cP BB) W V 0 i 0++W.drop i).length=m+1:=by rw[bg,f,cQ];omega
  have G:=D.fit;refine ay (λr=>?_) (λr=>?_)
  ·have r:=dT r;have J:=II B (by omega) (i:=i) (by omega);rw[Cw _ _ f]at J;have R:=E.wf _ _ B;have step:∀(s:Nat),s=W.getD i 0+V.getD i 0+jo (cP BB) W V 0 0 i->
     aQ au 240 (cn k (n+i)) (bD ((s%BB:Nat):Int)) g=aa (undef,.set k (.cells (fC cs n (dy (cP BB) W V 0 (i+1) 0++W.drop (i+1))) 240 1 af)):=λs S=>by
    rw[Jp B (by omega) (by omega),Fh _ _ f (by omega),I,S];rfl
   refine⟨_,C9 (by omega) (by omega),_,by rw[bn];exact J,?_⟩;have e1:aj az (((W.getD i 0:Nat):Int)+((jo (cP BB) W V 0 0 i:Nat):Int))=((W.getD i 0+jo (cP BB) W V 0 0 i:Nat):Int):=wU (by omega) (by omega);dsimp only;rw[e1,wi i (by omega)];refine ay (λe=>?_) (λe=>?_)
   ·have e:=dT e;obtain⟨p,N,H⟩:=K2 (D.rd g E) (i:=(i:Int)) (by omega) (by omega);rw[bn]at H;refine⟨p,N,_,H,?_⟩;have Z:aj az (((W.getD i 0+jo (cP BB) W V 0 0 i:Nat):Int)+((V.getD i 0:Nat):Int))=((W.getD i 0+V.getD i 0+jo (cP BB) W V 0 0 i:Nat):Int):=wU (by omega) (by omega);dsimp only;rw[Z];refine⟨_,Jh,_,LG (by omega),_,C9 (by omega) (by omega),_,by rw[bn];exact step _ rfl,?_⟩;refine pe (a-1) (by omega) ⟨by omega,by omega,by rw[x6];rfl,?_,E.set R _⟩;show(g.set k _).get k=_;rw[aw.bZ,iP rfl]
   ·have e:=dF e;have y4:V.getD i 0=0:=by rw[gD,getElem?_eq_none (by omega)];rfl
    refine⟨_,Jh,_,LG (by omega),_,C9 (by omega) (by omega),_,by rw[bn];exact step _ (by omega),?_⟩;refine pe (a-1) (by omega) ⟨by omega,by omega,?_,?_,E.set R _⟩
    ·simp_all[cP]
    ·show(g.set k _).get k=_;rw[aw.bZ,iP rfl]
  ·have r:=dF r;obtain rfl:i=m+1:=by omega
   have e3:aj az ((d:Int)-1)=((d-1:Nat):Int):=wU (by omega) (by omega);rw[e3];rw[hW (by omega),cF]at B;exact⟨_,f,nP (λp q c=>dP _ F) _ _ _ _ _,z2,by rw[hq];rfl,B,E⟩)
 have L2:=λ(d:Nat) (w:d<BB) (u4:Num.bv BB y<(d+1)*Num.bv BB V) (z9:d*Num.bv BB V<Num.bv BB y+Num.bv BB V)=>
  AR (aa ⟨k,n,none⟩) (m+1) c b m l (d:Int) ((m:Int)+1) (λa i A cy g=>i<=m+1/\a=m+1-i/\A=((eh BB d y V 0 i 0 0).2.1:Nat)/\cy=((eh BB d y V 0 i 0 0).2.2:Nat)/\g.get k=aa (.cells (fC cs n ((eh BB d y V 0 i 0 0).1++y.drop i)) 240 1 af)/\OR h k g) (Mk h k n cs m y V) (by
  intro a i A cy;intros;rename_i g hi;obtain⟨X,h2,rfl,rfl,B,E⟩:=hi;have f:(eh BB d y V 0 i 0 0).1.length=i:=wC _ _ _ _ _ _ _ _;have I:=yK BB d y V i 0 0 0;rw[bO]at I;have z3:=JZ (q:=d) (v:=V) lE D.ult i;have z7:=yb lE w (u:=y) D.vlt i;generalize u1:eh BB d y V 0 i 0 0=st at*;obtain⟨Wl,A,cy⟩:=st;dsimp only at f B z3 z7 I⊢;have z1:(Wl++y.drop i).length=m+1:=by rw[bg,f,cQ];omega
  have G:=D.fit;have v7:=ug i;have u5:=vg i;have y0:d*V.getD i 0<=999999999*999999999:=dC (by omega) (by omega);refine ay (λr=>?_) (λr=>?_)
  ·have r:=dT r;have J:=II B (by omega) (i:=i) (by omega);rw[Cw _ _ f]at J;have R:=E.wf _ _ B;have step:∀(s:Nat),s=d*V.getD i 0+cy->
     aQ au 240 (cn k (n+i)) (bD (((y.getD i 0+BB-s%BB-A)%BB:Nat):Int)) g=aa (undef,.set k (.cells (fC cs n ((eh BB d y V 0 (i+1) 0 0).1++y.drop (i+1))) 240 1 af)):=λs S=>by
    rw[Jp B (by omega) (by omega),Fh _ _ f (by omega),I,S];rfl
   have U:∀(s:Nat),s=d*V.getD i 0+cy->∀(z8:aF),z8=⟨k,n+i,none⟩->
     ∃y5:Int,cm au .rem 240 (bD (s:Int)) (bD 1000000000)=aa (bD y5)/\y5=((s%BB:Nat):Int):=λs _ _ _=>⟨_,Jh,rfl⟩
   rw[wi i (by omega)];have fin:∀(s:Nat),s=d*V.getD i 0+cy->((1-(y.getD i 0+BB-s%BB-A)/BB:Nat):Int)=((eh BB d y V 0 (i+1) 0 0).2.1:Nat)/\((s/BB:Nat):Int)=((eh BB d y V 0 (i+1) 0 0).2.2:Nat):=λs S=>by
    rw[I,S];exact⟨rfl,rfl⟩
   have ed:∀s:Nat,aj az (aj az (aj az (((y.getD i 0:Nat):Int)+1000000000)-((s%BB:Nat):Int))-(A:Int))=((y.getD i 0+BB-s%BB-A:Nat):Int):=λs=>by
    have hm:=dP s F;generalize s%BB=z at hm;have a1:aj az (((y.getD i 0:Nat):Int)+1000000000)=((y.getD i 0+BB:Nat):Int):=wU (by omega) (by omega);have a2:aj az (((y.getD i 0+BB:Nat):Int)-(z:Int))=((y.getD i 0+BB-z:Nat):Int):=wU (by omega) (by omega);have a3:aj az (((y.getD i 0+BB-z:Nat):Int)-(A:Int))=((y.getD i 0+BB-z-A:Nat):Int):=wU (by omega) (by omega)
    grind
   have y8:∀s:Nat,aj az (1-(((y.getD i 0+BB-s%BB-A)/BB:Nat):Int))=((1-(y.getD i 0+BB-s%BB-A)/BB:Nat):Int):=λs=>by
    have h9:(y.getD i 0+BB-s%BB-A)/BB<2:=eJ (by omega);generalize (y.getD i 0+BB-s%BB-A)/BB=z at h9⊢
    grind[wU]
   refine ay (λe=>?_) (λe=>?_)
   ·have e:=dT e;obtain⟨p,N,H⟩:=K2 (D.rd g E) (i:=(i:Int)) (by omega) (by omega);rw[bn]at H;refine⟨p,N,_,H,_,C9 (by omega) (by omega),_,by rw[bn];exact J,?_⟩;have Z:aj az ((cy:Int)+aj az ((d:Int)*((V.getD i 0:Nat):Int)))=((d*V.getD i 0+cy:Nat):Int):=by
     have e0:aj az ((d:Int)*((V.getD i 0:Nat):Int))=((d*V.getD i 0:Nat):Int):=wU (by rfl) (by omega);rw[e0];exact wU (by omega) (by omega)
    rw[Z];refine⟨_,Jh,?_⟩;dsimp only;rw[ed];have hm:=dP (d*V.getD i 0+cy) F;refine⟨_,Jh,_,LG (by omega),_,LG (by omega),_,C9 (by omega) (by omega),_,by rw[bn];exact step _ rfl,?_⟩;rw[y8];refine C8 (a-1) (by omega) ⟨by omega,by omega,(fin _ rfl).1,(fin _ rfl).2,?_,E.set R _⟩;show(g.set k _).get k=_;rw[aw.bZ,iP rfl]
   ·have e:=dF e;have y4:V.getD i 0=0:=by rw[gD,getElem?_eq_none (by omega)];rfl
    have x3:cy=d*V.getD i 0+cy:=by rw[y4,iD,bO]
    refine⟨_,C9 (by omega) (by omega),_,by rw[bn];exact J,_,Jh,?_⟩;dsimp only;rw[ed];have hm:=dP cy F;refine⟨_,Jh,_,LG (by omega),_,LG (by omega),_,C9 (by omega) (by omega),_,by rw[bn];exact step _ x3,?_⟩;rw[y8];refine C8 (a-1) (by omega) ⟨by omega,by omega,(fin _ x3).1,(fin _ x3).2,?_,E.set R _⟩;show(g.set k _).get k=_;rw[aw.bZ,iP rfl]
  ·have r:=dF r;obtain rfl:i=m+1:=by omega
   obtain⟨d0,d1,d2⟩:=Mo lE D.ult D.vlt D.ul D.vl w u4 z9;have o:=Af (q:=d) lE y V (m+1) 0 0 0;rw[u1]at d0 d1 d2 o;dsimp only at d0 d1 d2 o;rw[hW (by omega),cF]at B;refine ay (λe=>?_) (λe=>?_)
   ·have e:(A:Int)=0:=by simpa using e
    obtain⟨e1,Z⟩:=d1 (by omega);exact⟨Wl,f,o,Z,by rw[e1];rfl,B,E⟩
   ·have e:¬(A:Int)=0:=by simpa using e
    obtain⟨e0,e1,Z⟩:=d2 (by omega);rw[M];exact L3 d Wl e0 w f o e1 Z (m+1) (i:=0) ⟨by omega,by omega,rfl,by grind[dy],E⟩)
 have L:=D.v1;have x7:y.getD m 0*BB+y.getD (m-1) 0<1000000000000000000:=by
  have a1:=ug m;have a2:=ug (m-1);have a3:y.getD m 0*BB=1000000000*y.getD m 0:=by rw[x8,dh]
  omega
 have L1:=AQ (aa ⟨k,n,none⟩) (m+1) c b m l (λa q U g=>∃d C:Nat,q=(d:Int)/\U=(C:Int)/\a=d/\my BB m y V d C/\g.get k=aa (.cells (fC cs n y) 240 1 af)/\OR h k g) (Mk h k n cs m y V) (by
  intro a q U;intros;rename_i g hi;obtain⟨d,C,rfl,rfl,rfl,T,B,E⟩:=hi;have hT:=T.eq;have G:=D.fit;have v9:C<1000000000000000000:=Nat.lt_of_le_of_lt (by omega) x7;have v6:a<1000000000000000000:=by
   refine Nat.lt_of_le_of_lt ?_ x7;rw[<-hT];have:=Nat.le_mul_of_pos_right a L;omega
  have t:=E.room 28;have x2:(room g 28).get k=aa (.cells (fC cs n y) 240 1 af):=B;have v2:=vg (m-1);have hj:((m-1:Nat):Int).toNat=m-1:=by omega
  obtain⟨p1,N,H⟩:=K2 (D.rd _ t) (i:=((m-1:Nat):Int)) (by omega) (by omega);rw[hj]at H;have er:aj az ((C:Int)+((V.getD (m-1) 0:Nat):Int))=((C+V.getD (m-1) 0:Nat):Int):=wU (by omega) (by omega);have u7:∀(P:Nat),P<BB->Num.bv BB y<(P+1)*Num.bv BB V->P*Num.bv BB V<Num.bv BB y+Num.bv BB V->_:=λP X h2 h3=>L2 P X h2 h3;have x9:Num.bv BB y<a*Num.bv BB V->0<a/\my BB m y V (a-1) (C+V.getD (m-1) 0):=λJ=>⟨by grind,T.lower J⟩
  have x1:a-1<BB->BB<=C+V.getD (m-1) 0->my BB m y V (a-1) (C+V.getD (m-1) 0)->(a-1)*Num.bv BB V<Num.bv BB y+Num.bv BB V:=λX h2 K=>
   K.last lE D.ul D.vl x4 D.vlt L X λ_=>A9 X (vg (m-2)) h2
  have v0:Num.bv BB y<a*Num.bv BB V->True:=λ_=>trivial;rw[y2];refine ay (λr=>?_) (λr=>?_)
  ·have r:=dT r;obtain⟨y1,K⟩:=x9 (my.aju D.lt (by omega));have x5:aj az ((a:Int)-1)=((a-1:Nat):Int):=wU (by omega) (by omega);rw[x5];refine⟨p1,N,_,H,?_⟩;dsimp only;rw[er];generalize x0:decide (((a-1:Nat):Int)<1000000000)=bz;refine ay (λe=>ay (λO=>?_) (λO=>?_)) (λe=>?_)
   ·subst x0;have e:=dT e;have O:=dT O;rw[M];exact L2 (a-1) (by omega) K.hi (x1 (by omega) (by omega) K) (m+1) (i:=0) ⟨by omega,by omega,rfl,rfl,by grind[eh],t⟩
   ·exact pe (a-1) (by omega) ⟨a-1,_,rfl,rfl,rfl,K,x2,t⟩
   ·exact pe (a-1) (by omega) ⟨a-1,_,rfl,rfl,rfl,K,x2,t⟩
  ·have r:=dF r;have w:a<BB:=by omega
   have Y:(1<m->a*V.getD (m-2) 0<=C*BB+y.getD (m-2) 0)->a*Num.bv BB V<Num.bv BB y+Num.bv BB V:=λS=>T.last lE D.ul D.vl x4 D.vlt L w S;refine ay (λe=>?_) (λe=>?_)
   ·have e:=dT e;have y6:1<m:=by omega
    rw[z4 y6];generalize x0:decide ((C:Int)<1000000000)=bz;refine ay (λO=>?_) (λO=>?_)
    ·subst x0;have O:=dT O;have z0:((m-2:Nat):Int).toNat=m-2:=by omega
     obtain⟨p2,g4,g5⟩:=K2 (D.rd _ t) (i:=((m-2:Nat):Int)) (by omega) (by omega);rw[z0]at g5;have J:=II x2 G (i:=m-2) (by omega);refine⟨p2,g4,_,g5,_,C9 (by omega) (by omega),_,by rw[z0];exact J,?_⟩;have v3:=vg (m-2);have w0:=ug (m-2);have y0:a*V.getD (m-2) 0<=999999999*999999999:=dC (by omega) (by omega);have ea:aj az ((a:Int)*((V.getD (m-2) 0:Nat):Int))=((a*V.getD (m-2) 0:Nat):Int):=wU (by rfl) (by omega);obtain⟨RB,u2⟩:∃x,x=C*BB:=⟨_,rfl⟩
     have u9:RB=1000000000*C:=by rw[u2,x8,dh]
     obtain⟨MV,u0⟩:∃x,x=a*V.getD (m-2) 0:=⟨_,rfl⟩
     rw[<-u0]at y0 ea;have eb:aj az ((C:Int)*1000000000)=(RB:Int):=wU (by omega) (by omega);have ec:aj az ((RB:Int)+((y.getD (m-2) 0:Nat):Int))=((RB+y.getD (m-2) 0:Nat):Int):=wU (by omega) (by omega);dsimp only;rw[ea,eb,ec];generalize y7:decide ((MV:Int)>((RB+y.getD (m-2) 0:Nat):Int))=v5;refine ay (λh8=>?_) (λh8=>?_)
     ·subst y7;have h8:=dT h8;obtain⟨y1,K⟩:=x9 (T.second D.ul D.vl y6 D.ult (by grind));have x5:aj az ((a:Int)-1)=((a-1:Nat):Int):=wU (by omega) (by omega);rw[x5];refine⟨p1,N,_,H,?_⟩;dsimp only;rw[er];generalize w3:decide (((a-1:Nat):Int)<1000000000)=bx;refine ay (λh9=>ay (λu6=>?_) (λu6=>?_)) (λh9=>?_)
      ·have h9:=dT h9;rw[M];exact L2 (a-1) (by omega) K.hi (x1 (by omega) (by omega) K) (m+1) (i:=0) ⟨by omega,by omega,rfl,rfl,by grind[eh],t⟩
      ·grind
      ·exact pe (a-1) (by omega) ⟨a-1,_,rfl,rfl,rfl,K,x2,t⟩
     ·subst y7;have h8:=dF h8;rw[M];exact L2 a w T.hi (Y λ_=>by omega) (m+1) (i:=0) ⟨by omega,by omega,rfl,rfl,by grind[eh],t⟩
    ·subst x0;have O:=dF O;rw[M];exact L2 a w T.hi (Y λ_=>A9 w (vg (m-2)) (by omega)) (m+1) (i:=0) ⟨by omega,by omega,rfl,rfl,by grind[eh],t⟩
   ·have e:=dF e;rw[M];exact L2 a w T.hi (Y λhm=>by omega) (m+1) (i:=0) ⟨by omega,by omega,rfl,rfl,by grind[eh],t⟩)
 have z6:=(OR.refl (k:=k) D.w).room 12;have y9:=z6.room 16;have G:=D.fit;have hj:((m-1:Nat):Int).toNat=m-1:=by omega
 have z5:=II (g:=room h 12) D.get G (i:=m) (by omega);have u3:=II (g:=room h 12) D.get G (i:=m-1) (by omega);obtain⟨p1,N,H⟩:=K2 (D.rd _ y9) (i:=((m-1:Nat):Int)) (by omega) (by omega);rw[hj]at H;have a1:=ug m;have a2:=ug (m-1);refine Qg _ _ _ _ _ _ h _ ⟨_,C9 (by omega) (by omega),_,by rw[bn];exact z5,?_⟩;rw[y2];refine⟨_,C9 (by omega) (by omega),_,by rw[hj];exact u3,p1,N,_,H,?_⟩;obtain⟨TB,y3⟩:∃x,x=y.getD m 0*BB:=⟨_,rfl⟩
 have v1:TB=1000000000*y.getD m 0:=by rw[y3,x8,dh]
 have ea:aj az (((y.getD m 0:Nat):Int)*1000000000)=(TB:Int):=wU (by omega) (by omega);have eb:aj az ((TB:Int)+((y.getD (m-1) 0:Nat):Int))=((TB+y.getD (m-1) 0:Nat):Int):=wU (by omega) (by omega);rw[ea,eb];have Q:=my.start lE D.ul D.vl x4 D.ult L;rw[<-y3]at Q;refine⟨_,abH (by omega) L,p1,N,_,H,_,ags L,?_⟩;exact L1 _ ⟨_,_,rfl,rfl,rfl,Q,D.get,y9⟩
variable{T:aD}{c:List ah}
theorem iB.akt{b:aw}(d:g.ax<=b.ax)(o:iB b h T v c):iB g h T v c:=by
 rcases o with o|⟨k,cs,a,f,e,i,j⟩
 ·exact .inl o
 ·exact .inr ⟨k,cs,a,bK d f,e,i,j⟩
theorem ag2(k:Int):iF au 240 (bD k)=aa (.cells [bD k] 240 0 af,jL):=by kernel_rfl
theorem Dt{c:Nat}(p:Rd h 240 (ae a n c) (x.map uv))(m:∀d∈x,d<BB)(b:x.length<=10000){k:Nat}(g:0<k)(q:k<=BB)(w:Wf h):
  aW 260 [ae a n c,bD (k:Int)] h (nh h 240 (bl (Num.bv BB x*k))):=by
 have e:=(Ok.refl w).push (.cells [bD (k:Int)] 240 0 af);refine Nu a n c _ h _ ⟨_,ag2 _,?_⟩;have r:aM au 240 (h.push (.cells [bD (k:Int)] 240 0 af)) (pA h.ax)=aa (bD (k:Int)):=by
  unfold aM;rw[VP];dsimp only;rw[aw.cZ,iP rfl];dsimp only;rw[UB];rfl
 refine(Kc (p.ok e) m b r g q e.wf).mono ?_;rintro _ s ⟨j,f,l,rfl,o,i⟩;exact⟨j,f,l,rfl,j,f,l,rfl,iB.akt (fJ _) o,e.trans i⟩
def HF(h:aw)(k a n c:Nat)(l:List Nat):Prop:=∃cs b,h.get k=aa (.cells cs 240 1 b)/\n=l.length/\(cs.drop a).take n=l.map uv/\n<=dk c
theorem HF.rd{c:Nat}{l:List Nat}(r:HF h k n m c l):Rd h 240 (gG k n m c) (l.map uv):=by
 obtain⟨cs,d,b,rfl,a,e⟩:=r;exact .inr ⟨k,n,cs,c,d,by rw[aG],b,by rw[aG];exact a⟩
theorem HF.take{c:Nat}{l:List Nat}(r:HF h k n m c l){j:Nat}(g:j<=m):cY au 260 (gG k n m c) none (aa (aA (j:Int))) none h=aa (gG k n j c)/\HF h k n j c (l.take j):=by
 obtain⟨cs,d,a,rfl,b,i⟩:=r;refine⟨?_,cs,d,a,by rw[bo];omega,?_,by omega⟩
 ·unfold cY;dsimp only;rw[FY];dsimp only[iW];rw[JP,a];dsimp only;have e:((j:Int)-((0:Nat):Int)).toNat=j:=by omega
  have f:((0:Nat):Int).toNat=0:=rfl;rw[iP (by simp),iP (by omega),e,f];rfl
 ·have:=congrArg (List.take j) b;rwa[take_take,dO g,<-map_take]at this
theorem uZ{c:Nat}{l:List Nat}(r:HF h k n m c l)(y:l.length<=100000):
  aW 210 [gG k n m c] h (λv o=>v=gG k n (gV l).length c/\o=h):=by
 have t:m=l.length:=by obtain⟨_,_,_,D,_⟩:=r;exact D
 have L:=uw (aa ⟨k,n,none⟩) m c (λa r s d g=>s<=l.length/\a=s/\r=aa ⟨k,n,none⟩/\d=c/\HF h k n s c (l.take s)/\gV l=gV (l.take s)/\g=h) (λv o=>v=gG k n (gV l).length c/\o=h) (by
  intro a r s d;intros;rename_i g F;obtain⟨C,rfl,rfl,rfl,u,q,rfl⟩:=F;have E:aj an ((a:Int)-1)=(a:Int)-1:=cj (by omega) (by omega);rw[E];have f:a≠0->l.take a=l.take (a-1)++[l.getD (a-1) 0]:=λf=>by
   obtain⟨j,rfl⟩:∃j,a=j+1:=⟨a-1,by omega⟩
   rw[eQ (by omega),Nat.add_sub_cancel,gD,gE (by omega)];rfl
  refine ay (λe=>?_) (λe=>?_)
  ·have e:=dT e;obtain⟨p,A,x⟩:=K2 u.rd (i:=(a:Int)-1) (by omega) (by rw[bo];omega);have z:(l.take a).getD ((a:Int)-1).toNat 0=l.getD (a-1) 0:=by
    rw[show((a:Int)-1).toNat=a-1 by omega,gD,List.getElem?_take,iP (by omega),gD]
   rw[z]at x;refine⟨p,A,_,x,ay (λb=>?_) (λb=>?_)⟩
   ·have b:((l.getD (a-1) 0:Nat):Int)=0:=by simpa using b
    have b:l.getD (a-1) 0=0:=by omega
    obtain⟨B,w⟩:=u.take (j:=a-1) (by omega);rw[show((a:Int)-1)=((a-1:Nat):Int) by omega];refine⟨_,_,_,B,C8 (a-1) (by omega) ⟨by omega,rfl,rfl,rfl,?_,?_,rfl⟩⟩
    ·rw[take_take,dO (by omega)]at w;exact w
    ·rw[q,f (by omega),b,np]
   ·have b:¬((l.getD (a-1) 0:Nat):Int)=0:=by simpa using b
    refine⟨?_,rfl⟩;rw[q,f (by omega),oD _ (by omega),<-f (by omega),bo,dO C]
  ·have e:=dF e;obtain rfl:a=0:=by omega
   refine⟨?_,rfl⟩;rw[q];rfl)
 exact IK _ m c h _ (L m ⟨by omega,rfl,rfl,rfl,by rw[show l.take m=l by rw[t,dX]];exact r,by rw[show l.take m=l by rw[t,dX]],rfl⟩)
theorem JO:∀n,eO [uv 0] n=(aH n 0).map uv
 |0=>rfl
 |n+1=>by rw[eO,JO n];rfl
noncomputable def acJ:TypeInfo:=(au.info? 240).getD default
theorem acK:au.info? 240=aa acJ:=by kernel_rfl
theorem T8:acJ.size=1:=by kernel_rfl
theorem Rm:acJ.bytes=8:=by kernel_rfl
theorem afS:zeroOf au 240=aa (uv 0):=by kernel_rfl
theorem agj(n:Nat)(a:n<=100000):cK au 260 (aA (n:Int)) (aA (n:Int))=aa (.cells ((aH n 0).map uv) 240 1 af,pw n n):=by
 unfold cK dz;dsimp only;rw[FY]
 try dsimp only
 change (match au.info? 240,zeroOf au 240 with
  |some i,aa z=>(if z.cells.size=i.size/\0<i.size/\(0:Int)<=(n:Int)/\(n:Int)<=(n:Int)/\(n:Int)*i.bytes<=140737488355328/\(n:Int)<=1099511627776 then aa (eE.cells (eO z.cells.toList (n:Int).toNat) 240 i.size af,λk=>ae (aa ⟨k,0,none⟩) (n:Int).toNat (n:Int).toNat)else none)
  |_,_=>none)=_
 rw[acK,afS];dsimp only;rw[T8,Rm,iP ⟨rfl,by omega,by omega,fU _,by omega,by omega⟩];have e:((n:Int)).toNat=n:=by omega
 rw[e,show(uv 0).cells.toList=[uv 0]from rfl,JO];rfl
theorem su(h:(c.drop n).take x.length=x.map uv):fC c n x=c:=by
 unfold fC;rw[<-h,cE,<-List.drop_drop,ej,ej]
theorem J9{W:List Nat}(h:n+y.length<=x.length)(e:x.length<=c.length)(g:y.length=W.length)(f:(x.drop n).take W.length=W):
  fC (fC c 0 x) n y=fC c 0 (x.take n++y++x.drop (n+y.length)):=by
 unfold fC;have b:(c.take 0++x.map uv++c.drop (0+x.length)).take n=(x.take n).map uv:=by
  rw[dU,dq,List.take_append_of_le_length (by rw[aG];omega),map_take]
 have d:(c.take 0++x.map uv++c.drop (0+x.length)).drop (n+y.length)=(x.drop (n+y.length)).map uv++c.drop (0+x.length):=by
  rw[dU,dq,List.drop_append_of_le_length (by rw[aG];omega),map_drop]
 have a:(x.take n++y++x.drop (n+y.length)).length=x.length:=by
  simp only[bg,bo,cQ];omega
 rw[b,d,a,bU,bU,dU,dq,cE,cE,cE]
theorem vz(a:n+m<=x.length):((fC c 0 x).drop n).take m=((x.drop n).take m).map uv:=by
 unfold fC;rw[dU,dq,List.drop_append_of_le_length (by rw[aG];omega),List.take_append_of_le_length (by rw[cQ,aG];omega),<-map_drop,<-map_take]
theorem IG(h:n+x.length<=c.length):(fC c n x).length=c.length:=by
 unfold fC;simp only[bg,bo,aG,cQ];omega
theorem HF.On{c:Nat}{l:List Nat}(r:HF h k n m c l){lo hi:Nat}(f:lo<=hi)(i:hi<=m):cY au 260 (gG k n m c) (aa (aA (lo:Int))) (aa (aA (hi:Int))) none h=aa (gG k (n+lo) (hi-lo) (c-lo)):=by
 obtain⟨cs,g,a,rfl,e,j⟩:=r;unfold cY;dsimp only;rw[FY];dsimp only[iW];rw[JP,a];dsimp only;have b:((hi:Int)-(lo:Int)).toNat=hi-lo:=by omega
 have d:((lo:Nat):Int).toNat=lo:=by omega
 rw[iP (by simp),iP (by omega),b,d,df]
structure agA(h2 G:aw)(ku kv kq:Nat)(cu:List ah)(cv:List ah)(U Ql:List Nat)(N m XK V j:Nat):Prop where
 ok:Ok h2 G
 w2:Wf h2
 u2:h2.ax<=ku
 q2:h2.ax<=kq
 gu:G.get ku=aa (.cells (fC cu 0 U) 240 1 af)
 gv:G.get kv=aa (.cells cv 240 1 af)
 gq:G.get kq=aa (.cells (fC ((aH (N+1-m) 0).map uv) 0 Ql) 240 1 af)
 uv':ku≠kv
 uq:ku≠kq
 vq:kv≠kq
 ul:U.length=N+1
 cl:N+1<=cu.length
 ahM:Ql.length=N+1-m
 afN:(cv.take (cT BB V).length)=bl V
 inv:mO BB m V XK U Ql j
end Go.Proofs.YtnlccnpbjeiccaaGreatDoor
end
section
set_option linter.defProp false
namespace Go.Proofs.YtnlccnpbjeiccaaGreatDoor
open Go Go.Ab Go.Num
variable{h:aw}{k:Nat}{n:Nat}{d:List ah}{g:aw}
def Ml(h:aw)(X Y:Nat):VH:=λv a=>∃(g:Option aF)(b e:Nat)(d:Option aF)(c f:Nat),v=av ⟨[ae g b e,ae d c f]⟩/\Rd a 240 (ae g b e) (bl (X/Y))/\Rd a 240 (ae d c f) (bl (X%Y))/\Ok h a
theorem Hj{c:Nat}{l:List Nat}(b:h.get k=aa (.cells (fC d 0 l) 240 1 af))(a:n=l.length)(e:n<=dk c):HF h k 0 n c l:=by
 refine⟨_,_,b,a,?_,e⟩;subst a;rw[vz (by omega),bV,dX]
theorem EZ{c:Nat}{l:List Nat}(r:HF g k 0 n c l)(b:∀d∈l,d<BB):Rd g 240 (sA k (gV l).length c) (bl (Num.bv BB l)):=by
 obtain⟨e,i⟩:=CB l;have f:n=l.length:=by obtain⟨_,_,_,h,_⟩:=r;exact h
 have a:=(r.take (j:=(gV l).length) (by omega)).2.rd;rw[e,pO lE b]at a;rw[pO lE b];exact a
def adP{h:aw}(w:Wf h){X Y ku kq f rc L k R:Nat}{C Zq:List ah}{Ql:List Nat}(G:h.ax<=ku)(x3:h.ax<=kq)(N:ku≠kq)(x6:f<=C.length)(x0:f<=10000)(V:L=Ql.length)(x4:L<=10000)(E:f<=dk rc)(u:L<=dk L)(v:0<k)(kB:k<=BB)
  (hQ:∀d∈Ql,d<BB) (Z:Num.bv BB Ql=X/Y) (hr:R/k=X%Y) (a:Option aF) (n c:Nat) (b:Option aF) (m d:Nat):=
 zp a n c b m d (k:Int) (aa ⟨kq,0,none⟩) L L (aa ⟨ku,0,none⟩) f rc (f:Int)
  (λD i left g=>i<=f/\D=f-i/\(∃(r:List Nat)(q:Nat),r.length=f/\left=(q:Int)/\pM BB k R r (f-i) q/\g.get ku=aa (.cells (fC C 0 r) 240 1 af))/\g.get kq=aa (.cells (fC Zq 0 Ql) 240 1 af)/\Ok h g) (Ml h X Y) (by
  intro D i left;intros;rename_i g hi;obtain⟨h1,h2,⟨r,q,j,rfl,l,y⟩,B,S⟩:=hi;have P:BB=1000000000:=rfl;have J:aj an ((f:Int)-1)=(f:Int)-1:=cj (by omega) (by omega);have F:aj an ((f:Int)-1-(i:Int))=(f:Int)-1-(i:Int):=cj (by omega) (by omega);have H:aj an ((i:Int)+1)=((i+1:Nat):Int):=by rw[cj (by omega) (by omega)];omega
  rw[J,F,H];refine ay (λs=>?_) (λs=>?_)
  ·have s:=dT s;have Q:((f:Int)-1-(i:Int)).toNat=f-1-i:=by omega
   have W:=II y (by rw[j];omega) (i:=f-1-i) (by rw[j];omega);have x2:=l.lt;have x5:r.getD (f-1-i) 0<BB:=cW (by decide) l.rl _;obtain⟨o,A⟩:∃x,x=q*BB:=⟨_,rfl⟩
   have x1:o=1000000000*q:=by rw[A,P,dh]
   have T:aj az ((q:Int)*1000000000)=(o:Int):=wU (by omega) (by omega);have U:aj az ((o:Int)+((r.getD (f-1-i) 0:Nat):Int))=((o+r.getD (f-1-i) 0:Nat):Int):=wU (by omega) (by omega);refine⟨_,C9 (by omega) (by omega),_,by rw[Q];exact W,?_⟩;dsimp only;rw[T,U];refine⟨_,abH (by omega) v,_,ags v,_,C9 (by omega) (by omega),?_⟩;have K:=Jp (g:=room g 11) y (by rw[j];omega) (i:=f-1-i) (by rw[j];omega) ((o+r.getD (f-1-i) 0)/k);have z:=S.room 11;have O:=z.wf _ _ (show(room g 11).get ku=_ from y);refine⟨_,by rw[Q];exact K,?_⟩;have p:=pM.step (at':=f-1-i) v (by rw[show f-1-i+1=f-i by omega];exact l);rw[<-A]at p;refine pe (D-1) (by omega) ⟨by omega,by omega,⟨r.set (f-1-i) ((o+r.getD (f-1-i) 0)/k),(o+r.getD (f-1-i) 0)%k,by rw[bT,j],rfl,by rw[show f-(i+1)=f-1-i by omega];exact p,?_⟩,?_,z.set _ G O w⟩
   ·show((room g 11).set ku _).get ku=_;rw[aw.bZ,iP rfl]
   ·show((room g 11).set ku _).get kq=_;rw[aw.bZ,iN (λe=>N e.symm)];exact B
  ·have s:=dF s;obtain rfl:i=f:=by omega
   rw[Nat.sub_self]at l;have t:=l.done v;have I:=Hj B V u;have M:=Hj y j.symm E;refine(uZ I (by omega)).mono ?_;rintro _ _ ⟨rfl,rfl⟩;refine⟨_,_,_,rfl,(uZ M (by omega)).mono ?_⟩;rintro _ _ ⟨rfl,rfl⟩;refine⟨_,_,_,rfl,_,_,_,_,_,_,rfl,?_,?_,S⟩
   ·have:=EZ I hQ;rw[Z]at this;exact this
   ·have:=EZ M l.rl;rw[t,hr]at this;exact this)
theorem Ok.but{b:aw}(o:Ok h g)(w:Wf h)(x:OR g k b)(c:h.ax<=k):Ok h b:=
 ⟨x.wf,λj B a=>x.nY j B (λe=>by have:=w _ _ a;omega) (o.ext j B a),bK o.nx x.nx⟩
def adQ{h2:aw}{X Y N m L k ku kv kq ec:Nat}{cu cv:List ah}(hY:0<Y)(hm:0<m)(y4:m<=N)(hN:N<=5000)(hL:L=N+1-m)(u:0<k)(kB:k<=BB)(o:(cT BB (Y*k)).length=m)(H:Y*k<=BB^m)(a:Option aF)(n c:Nat)(b:Option aF)(d:Nat):=
 zo a n c b m d (k:Int) (aa ⟨kq,0,none⟩) L L (aa ⟨ku,0,none⟩) (N+1) (ft+cu.length) (aa ⟨kv,0,none⟩) m ec (L:Int)
  (λO i G=>i<=L/\O=L-i/\∃U j:List Nat,agA h2 G ku kv kq cu cv U j N m (X*k) (Y*k) (L-i)) (Ml h2 X Y) (by
  intro O i;intros;rename_i G hi;obtain⟨h1,y2,U,j,D⟩:=hi;have M:0<Y*k:=mul_pos hY u;have x4:aj an ((L:Int)-1)=(L:Int)-1:=cj (by omega) (by omega);have x2:aj an ((i:Int)+1)=((i+1:Nat):Int):=by rw[cj (by omega) (by omega)];omega
  have s:dk (ft+cu.length)=cu.length:=by unfold dk;rw[iP (by omega)];omega
  have y1:=D.ul;have K:=D.cl;have F:=D.ahM;have ru:=Hj (c:=ft+cu.length) D.gu y1.symm (by rw[s];exact K);rw[x4];refine ay (λv=>?_) (λv=>?_)
  ·have v:=dT v;obtain⟨f,y3⟩:∃x,x=L-1-i:=⟨_,rfl⟩
   have Z:aj an ((L:Int)-1-(i:Int))=(f:Int):=by rw[cj (by omega) (by omega)];omega
   have x9:aj an ((f:Int)+(m:Int))=((f+m:Nat):Int):=by rw[cj (by omega) (by omega)];omega
   have x1:aj an (((f+m:Nat):Int)+1)=((f+m+1:Nat):Int):=by rw[cj (by omega) (by omega)];omega
   rw[Z,x9,x1,x2];have h:mO BB m (Y*k) (X*k) U j (f+1):=by rw[show f+1=L-i by omega];exact D.inv
   obtain⟨w1,w2,t⟩:=h.On lE H;have r:=ru.On (lo:=f) (hi:=f+m+1) (by omega) (by omega);rw[show f+m+1-f=m+1 by omega,bO]at r;refine⟨_,_,_,r,?_⟩;have P:(fC cu 0 U).length=cu.length:=IG (by omega);have DI:afT G ku f (ft+cu.length-f) m (fC cu 0 U) ((U.drop f).take (m+1)) (cT BB (Y*k)) (aa ⟨kv,0,none⟩) ec:={
    w:=D.ok.wf
    get:=by
     rw[su (by rw[t];exact vz (by omega))];exact D.gu
    fit:=by rw[t,P];omega
    ul:=t
    vl:=o
    mp:=hm
    mle:=by omega
    ult:=λx A=>h.ul x (List.mem_of_mem_drop (dN A))
    vlt:=gh lE _
    v1:=by have:=KQ lE M;rwa[o]at this
    lt:=by rw[fb lE];exact w2
    rd:=λg og=> .inr ⟨kv,0,cv,ec,af,by rw[aG,o],og.nY _ _ (λe=>D.uv' e.symm) D.gv,by rw[bV,aG];exact D.afN⟩ }
   refine(Qh DI).mono ?_;rintro _ V ⟨W',z,x8,l,rfl,S,p⟩;rw[fb lE]at l;have x6:Num.bv BB ((U.drop f).take (m+1))/Num.bv BB (cT BB (Y*k))=Num.bv BB ((U.drop f).take (m+1))/(Y*k):=by rw[fb lE]
   rw[x6];have y0:Num.bv BB ((U.drop f).take (m+1))/(Y*k)<BB:=eJ (by rw[dh];exact w2);have J:=p.nY _ _ (λe=>D.uq e.symm) D.gq;have x3:=p.nY _ _ (λe=>D.uv' e.symm) D.gv;have I:=Ok.but D.ok D.w2 p D.u2;have x0:((aH (N+1-m) 0).map uv).length=N+1-m:=by rw[aG,bE]
   have x5:=Jp J (by rw[x0];omega) (i:=f) (by omega) (Num.bv BB ((U.drop f).take (m+1))/(Y*k));have x7:=I.wf _ _ J;have E:=C9 (k:=kq) (off:=0) (n:=L) (c:=L) (i:=(f:Int)) (by omega) (by omega);rw[bn]at E;refine⟨_,rfl,_,E,_,x5,?_⟩;have y:Num.bv BB ((U.drop f).take (m+1))=Num.bv BB W'+Num.bv BB ((U.drop f).take (m+1))/(Y*k)*(Y*k):=by
    have h9:=kf (Num.bv BB ((U.drop f).take (m+1))) (Y*k);rw[dh (Y*k)]at h9;rw[l];exact h9.symm
   have T:=h.step lE H x8 z y0 y (by rw[l];exact dP _ M);refine fG (O-1) (by omega) ⟨by omega,by omega,U.take f++W'++U.drop (f+(m+1)),j.set f (Num.bv BB ((U.drop f).take (m+1))/(Y*k)),{
    ok:=I.set _ D.q2 x7 D.w2
    w2:=D.w2
    u2:=D.u2
    q2:=D.q2
    gu:= ?_
    gv:= ?_
    gq:= ?_
    uv':=D.uv'
    uq:=D.uq
    vq:=D.vq
    ul:= ?_
    cl:=K
    ahM:=by rw[bT];exact F
    afN:=D.afN
    inv:=by rw[show L-(i+1)=f by omega];exact T }⟩
   ·show(V.set kq _).get ku=_;rw[aw.bZ,iN D.uq,S,J9 (W:=(U.drop f).take (m+1)) (by omega) (by omega) (by rw[z,t]) (by rw[t]),z]
   ·show(V.set kq _).get kv=_;rw[aw.bZ,iN D.vq];exact x3
   ·show(V.set kq _).get kq=_;rw[aw.bZ,iP rfl]
   ·simp only[bg,bo,cQ,z];omega
  ·have v:=dF v;obtain rfl:i=L:=by omega
   have h:=D.inv;rw[Nat.sub_self]at h;obtain⟨d1,d2⟩:=h.done;obtain⟨e1,e2⟩:=Gm (X:=X) (Y:=Y) u;rw[e1]at d1;rw[e2]at d2;have q:=h.ul;obtain⟨t1,t2⟩:=CB U;refine(uZ ru (by omega)).mono ?_;rintro _ _ ⟨rfl,rfl⟩;refine⟨_,_,_,rfl,?_⟩;have P:(fC cu 0 U).length=cu.length:=IG (by omega);have B:dk (N+1-m)=N+1-m:=by unfold dk;rw[iN (by unfold ft;omega)]
   have Q:Num.bv BB (gV U)=X%Y*k:=by rw[pO lE q,fb lE,d2]
   subst hL;rename_i G';refine adP D.w2 (X:=X) (Y:=Y) (ku:=ku) (kq:=kq) (rc:=ft+cu.length) (k:=k) (R:=X%Y*k) (C:=fC cu 0 U) (Zq:=(aH (N+1-m) 0).map uv) (Ql:=j) D.u2 D.q2 D.uq (by rw[P];omega) (by omega) F.symm (by omega) (by rw[s];omega) (by rw[B];exact aS _) u kB h.ql d1 (Nat.mul_div_cancel _ u) a n c b m d _ (i:=0)
    ⟨cr _,rfl,⟨gV U,0,rfl,rfl,⟨λx A=>q x (by rw[<-t1]at A;exact dN A),by omega,u,?_⟩,?_⟩,D.gq,D.ok⟩
   ·rw[sub_zero,List.drop_length,dX,Q];simp[Num.bv]
   ·rw[su (by rw[vz (by omega),bV,t1])];exact D.gu)
end Go.Proofs.YtnlccnpbjeiccaaGreatDoor
end
section
namespace Go.Proofs.YtnlccnpbjeiccaaGreatDoor
open Go Go.Ab Go.Num
variable{h:aw}{a:Option aF}{n:Nat}{j:Nat}{l:Nat}
theorem Ns{b:Option aF}{c:Nat}{X Y:Nat}(V:Rd h 240 (ae a n c) (bl X))(T:Rd h 240 (ae b j l) (bl Y))(hY:0<Y)(hN:(cT BB X).length<=5000)(hM:(cT BB Y).length<=5000)(w:Wf h):
  aW 238 [ae a n c,ae b j l] h (Ml h X Y):=by
 have z7:BB=1000000000:=rfl;have hn:n=(cT BB X).length:=by have:=V.len;rwa[aG]at this
 have y0:j=(cT BB Y).length:=by have:=T.len;rwa[aG]at this
 obtain⟨f1,f2,s,C,f5,G⟩:=Zb lE hY;rw[<-y0]at f1 f2 s C f5 G;generalize x6:(cT BB Y).getD (j-1) 0=v at f2 s C G;generalize y2:BB/(v+1)=k at s C G;refine Nr a n c b j l h _ ((vC V T (by omega) w).mono ?_);rintro _ h2 ⟨rfl,f⟩;refine⟨_,rfl,ay (λz=>?_) (λz=>?_)⟩
 ·have z:=By.1 (dT z);refine⟨_,_,_,_,_,_,rfl,.inl ⟨rfl,?_⟩,?_,f⟩
  ·rw[ke z];show(cT BB 0).map uv=[];rw[jZ];rfl
  ·rw[eG z];exact V.ok f
 ·have z5:Y<=X:=by
   rcases de X Y with h|h
   ·exact absurd (By.2 h) (dF z)
   ·exact h
  have hX:0<X:=by omega
  have x4:j<=n:=by
   rcases de n j with h|h
   ·have:=qo lE (m:=X) (n:=Y) (by omega);omega
   ·exact h
  have y1:aj an ((j:Int)-1)=((j-1:Nat):Int):=by rw[cj (by omega) (by omega)];omega
  have hj:((j-1:Nat):Int).toNat=j-1:=by omega
  obtain⟨p,g2,g3⟩:=K2 (T.ok f) (i:=((j-1:Nat):Int)) (by omega) (by omega);rw[hj,x6]at g3;have et:aj az ((v:Int)+1)=((v+1:Nat):Int):=wU (by omega) (by omega);have x5:cm au .quo 240 (bD 1000000000) (bD ((v+1:Nat):Int))=aa (bD (k:Int)):=by
   have:=abH (a:=BB) (b:=v+1) (by decide) (by omega);rw[y2]at this;exact this
  rw[y1];refine⟨p,g2,_,g3,?_⟩;dsimp only;rw[et];refine⟨_,x5,?_⟩;refine(Dt (V.ok f) (gh lE X) (by omega) s C f.wf).mono ?_;rintro _ h8 ⟨a9,I,y7,rfl,R,E⟩;rw[fb lE]at R;refine⟨a9,I,y7,rfl,(Dt ((T.ok f).ok E) (gh lE Y) (by omega) s C E.wf).mono ?_⟩;rintro _ z8 ⟨x8,d,O,rfl,ov,H⟩;rw[fb lE]at ov;refine⟨x8,d,O,rfl,?_⟩;have z6:0<Y*k:=mul_pos hY s;have J:(cT BB (Y*k)).length=j:=Mq lE G (bK f5 (Nat.le_mul_of_pos_right Y s)) f1;have q:(bl (Y*k)).length=j:=by rw[aG];exact J
  rcases ov with⟨_,e⟩|⟨A,cv,e,x7,gv,tv,lv⟩
  ·rw[e]at q;simp at q;omega
  injection e with e1 e2 e3
  subst e1;obtain rfl:d=j:=by rw[e2,q]
  rw[q]at tv;have B:=jH (gh lE X);rw[fb lE,<-hn]at B;have z3:0<X*k:=mul_pos hX s;have L1:=zm a n c b d l (k:Int) (aa ⟨A,0,none⟩) d O
   (λmz r y rc g=>y<=n+1/\mz=n+1-y/\0<y/\∃U:List Nat,U.length=y/\iB h g 240 (ae r y rc) (U.map uv)/\Ok h g/\(∀x∈U,x<BB)/\Num.bv BB U=X*k/\g.get A=aa (.cells cv 240 1 af)/\(∀o n c,ae r y rc≠ gG A o n c)) (Ml h X Y) (by
   intro mz r y rc;intros;rename_i g hi;obtain⟨z,z4,h3,U,D,o,ok,x1,x3,F,M⟩:=hi;refine ay (λQ=>?_) (λQ=>?_)
   ·have Q:=dT Q;refine⟨_,_,_,yh _,?_⟩;obtain⟨b',m',d',u,g6,g7,g8,g9,y6,y5⟩:=iB.aj7 (P:=au) (t:=260) (x:= bD 0) FY QL Jc w ok o rfl (by rw[FM,aG];omega) (by rw[aG];omega);rw[aG,D]at g7;subst g7;refine⟨b',_,d',u,g6,C8 (mz-1) (by omega) ⟨by omega,by omega,by omega,U++[0],by simp[D],?_,g9,?_,?_,y6 _ _ F M,?_⟩⟩
    ·rw[bU];exact g8
    ·intro x K;rcases bH.1 K with K|K
     ·exact x1 x K
     ·rw[aX.1 K];decide
    ·rw[vK,x3];simp
    ·intro o' n' c' e;rcases y5 _ _ _ _ e with h7|⟨o2,n2,c2,h7⟩
     ·have:=ok.wf _ _ F;omega
     ·exact M _ _ _ h7
   ·have Q:=dF Q;obtain rfl:y=n+1:=by omega
    rcases o with⟨_,e⟩|⟨Z,W,e,x2,gu,tu,lu⟩
    ·have:=congrArg List.length e;rw[aG,D]at this;have h9:n+1=0:=this;omega
    rw[aG,D]at e tu lu;injection e with e1 _ e3
    subst e1;subst e3;have y4:aj an (((n+1:Nat):Int)-(d:Int))=((n+1-d:Nat):Int):=by rw[cj (by omega) (by omega)];omega
    rw[y4];refine⟨_,_,_,agj _ (by omega),?_⟩;have z2:=ok.wf _ _ gu;have z1:=ok.wf _ _ F;have x9:Z≠A:=λe=>M 0 (n+1) (ft+W.length) (by rw[e]);have S:((aH (n+1-d) 0).map uv).length=n+1-d:=by rw[aG,bE]
    exact adQ (h2:=h) (X:=X) (Y:=Y) (N:=n) (m:=d) (L:=n+1-d) (k:=k) (ku:=Z) (kv:=A) (kq:=g.ax) (ec:=O) (cu:=W) (cv:=cv) hY f1 x4 (by omega) rfl s C J (le_of_lt G) a n c b l (n+1-d) (i:=0)
     ⟨cr _,rfl,U,aH (n+1-d) 0,{
      ok:=ok.push _
      w2:=w
      u2:=x2
      q2:=ok.nx
      gu:=by
       rw[aw.cZ,iN (by omega),su (by rw[bV,D];exact tu)];exact gu
      gv:=by rw[aw.cZ,iN (by omega)];exact F
      gq:=by
       rw[aw.cZ,iP rfl,su (by rw[bV,bE,bm (by rw[S];exact aS _)])]
      uv':=x9
      uq:=by omega
      vq:=by omega
      ul:=D
      cl:=lu
      ahM:=by rw[bE]
      afN:=by rw[J];exact tv
      inv:=mO.start lE x1 D x4 B f5 f1 s x3 }⟩)
  have y3:=iB.akt f.nx R;have x0:I=(cT BB (X*k)).length:=by have:=R.len;rwa[aG]at this
  have y8:h8.ax<=A:=x7;have z0:(cT BB (X*k)).length<=n+1:=by
   refine qn lE ?_;rw[gb];exact cz (Nat.mul_lt_mul_of_pos_right B s) (fi _ C)
  have y9:0<(cT BB (X*k)).length:=fL.2 λe=>by have:=(mC lE).1 e;omega
  refine L1 (n+1-I) ⟨by omega,rfl,by omega,cT BB (X*k),x0.symm,y3.ok H,(f.trans E).trans H,gh lE _,fb lE _,gv,?_⟩;intro o n' c' e;rcases R with⟨e',_⟩|⟨Z,W,e',x2,gu,_,_⟩
  ·rw[e']at e;injection e with e;cases e
  ·rw[e']at e;injection e with e _ _
   injection e with e
   injection e with e
   have:=E.wf _ _ gu;omega
abbrev mq:LB:=[0,1,2,2,3,3,3,3,4,4,4,4,4,4,4,4,5,5,5,5,5,5,5,5,5,5,5,5,5,5,5,5,6,6,6,6,6,6,6,6,6,6,6,6,6,6,6,6,6,6,6,6,6,6,6,6,6,6,6,6,6,6,6,6,7,7,7,7,7,7,7,7,7,7,7,7,7,7,7,7,7,7,7,7,7,7,7,7,7,7,7,7,7,7,7,7,7,7,7,7,7,7,7,7,7,7,7,7,7,7,7,7,7,7,7,7,7,7,7,7,7,7,7,7,7,7,7,7,8,8,8,8,8,8,8,8,8,8,8,8,8,8,8,8,8,8,8,8,8,8,8,8,8,8,8,8,8,8,8,8,8,8,8,8,8,8,8,8,8,8,8,8,8,8,8,8,8,8,8,8,8,8,8,8,8,8,8,8,8,8,8,8,8,8,8,8,8,8,8,8,8,8,8,8,8,8,8,8,8,8,8,8,8,8,8,8,8,8,8,8,8,8,8,8,8,8,8,8,8,8,8,8,8,8,8,8,8,8,8,8,8,8,8,8,8,8,8,8,8,8,8,8,8,8,8,8]
noncomputable def aep:FD:=gT Tryz.f186 []
theorem aaK(u:Int)(h:aw)(Q:VH)(m:cp (decide ((u:Int)>=4294967296)) (xI az (cm au .shr 240 (bD u) (bD 32)) λa=>cp (decide (a>=65536)) (xI az (cm au .shr 240 (bD a) (bD 16)) λc=>cp (decide (c>=256)) (xI az (cm au .shr 240 (bD c) (bD 8)) λl=>xI aK (dR au 9 (strOf mq) (aB aK (aj aK l))) λq=>Q (aA (aj an (aj an (aj an (32+16)+8)+aj an q))) h) (xI aK (dR au 9 (strOf mq) (aB aK (aj aK c))) λk=>Q (aA (aj an (aj an (32+16)+aj an k))) h)) (cp (decide (a>=256)) (xI az (cm au .shr 240 (bD a) (bD 8)) λn=>xI aK (dR au 9 (strOf mq) (aB aK (aj aK n))) λo=>Q (aA (aj an (aj an (32+8)+aj an o))) h) (xI aK (dR au 9 (strOf mq) (aB aK (aj aK a))) λp=>Q (aA (aj an (32+aj an p))) h))) (cp (decide ((u:Int)>=65536)) (xI az (cm au .shr 240 (bD u) (bD 16)) λb=>cp (decide (b>=256)) (xI az (cm au .shr 240 (bD b) (bD 8)) λg=>xI aK (dR au 9 (strOf mq) (aB aK (aj aK g))) λi=>Q (aA (aj an (aj an (aj an (0+16)+8)+aj an i))) h) (xI aK (dR au 9 (strOf mq) (aB aK (aj aK b))) λj=>Q (aA (aj an (aj an (0+16)+aj an j))) h)) (cp (decide ((u:Int)>=256)) (xI az (cm au .shr 240 (bD u) (bD 8)) λe=>xI aK (dR au 9 (strOf mq) (aB aK (aj aK e))) λd=>Q (aA (aj an (aj an (0+8)+aj an d))) h) (xI aK (dR au 9 (strOf mq) (aB aK (aj aK u))) λf=>Q (aA (aj an (0+aj an f))) h)))):aW 186 [(bD u)] h Q:=gZ aep Tryz.func186 (bF m)
noncomputable def PY:FD:=gT Tryz.f298 []
theorem Nk(n:Int)(h:aw)(Q:VH)(b:xI an (cm au .shr 3 (aA (aj an (n*78913))) (bD 18)) λa=>Q (aA a) h):aW 298 [(aA n)] h Q:=gZ PY Tryz.func298 (bF b)
noncomputable def adu:FD:=gT Tryz.f299 []
theorem ZD(b:Bool)(h:aw)(Q:VH)(a:cp b (Q (aA 1) h) (Q (aA 0) h)):aW 299 [(ai b)] h Q:=gZ adu Tryz.func299 (bF a)
noncomputable def Qo:FD:=gT Tryz.f293 []
theorem Nz(u:Int)(h:aw)(Q:VH)(g:aW 186 [(bD u)] h λl i=>yI an l λe=>aW 298 [(aA e)] i λf d=>yI an f λa=>qX (xI az) 328 (pA 1) (aA a) 240 d λk=>aW 299 [(ai (decide ((u:Int)>=k)))] d λj c=>yI an j λb=>Q (aA (aj an (a+b))) c):aW 293 [(bD u)] h Q:=gZ Qo Tryz.func293 (bF g)
abbrev fk:LB:=[48,48,48,49,48,50,48,51,48,52,48,53,48,54,48,55,48,56,48,57,49,48,49,49,49,50,49,51,49,52,49,53,49,54,49,55,49,56,49,57,50,48,50,49,50,50,50,51,50,52,50,53,50,54,50,55,50,56,50,57,51,48,51,49,51,50,51,51,51,52,51,53,51,54,51,55,51,56,51,57,52,48,52,49,52,50,52,51,52,52,52,53,52,54,52,55,52,56,52,57,53,48,53,49,53,50,53,51,53,52,53,53,53,54,53,55,53,56,53,57,54,48,54,49,54,50,54,51,54,52,54,53,54,54,54,55,54,56,54,57,55,48,55,49,55,50,55,51,55,52,55,53,55,54,55,55,55,56,55,57,56,48,56,49,56,50,56,51,56,52,56,53,56,54,56,55,56,56,56,57,57,48,57,49,57,50,57,51,57,52,57,53,57,54,57,55,57,56,57,57]
noncomputable def afp:FD:=gT Tryz.f292 []
theorem aci(n:Int)(h:aw)(Q:VH)(a:cp (decide ((n:Int)<10)) (xS (cY au 9 (strOf [48,49,50,51,52,53,54,55,56,57,97,98,99,100,101,102,103,104,105,106,107,108,109,110,111,112,113,114,115,116,117,118,119,120,121,122]) (aa (aA n)) (aa (aA (aj an (n+1)))) none h) λb=>Q (strOf b) h) (xS (cY au 9 (strOf fk) (aa (aA (aj an (n*2)))) (aa (aA (aj an (aj an (n*2)+2)))) none h) λc=>Q (strOf c) h)):aW 292 [(aA n)] h Q:=gZ afp Tryz.func292 (bF a)
noncomputable def C5:FD:=gT Tryz.f294 [((pq 17),[0,1,4])]
abbrev rX(a:OA)(n c:Nat)(i:Nat)(v:Int):LV:=[(ae a n c),(bD v),(iA i)]
theorem aam(a:OA)(n c:Nat)(u:Int)(h:aw)(Q:VH)(b:cq C5 (pq 17) (rX a n c n u) h (ez C5 [1,0,0] Q)):aW 294 [(ae a n c),(bD u)] h Q:=gZ C5 Tryz.func294 (bF b)
theorem EF(a:OA)(n c:Nat)(u:Int)  (e:Nat->Nat->Int->aw->Prop) (Q:VH) (step:∀(d:Nat)(i:Nat)(v:Int)(zz:Nat->ah)(h:aw),e d i v h->cp (decide ((i:Int)>=8)) (xI az (cm au .rem 240 (bD v) (bD 100000000)) λU=>xI az (cm au .quo 240 (bD v) (bD 100000000)) λn2=>xI aP (cm au .quo 238 (aB aP (aj aP U)) (aB aP 10000)) λJ=>xI aP (cm au .rem 238 (aB aP (aj aP U)) (aB aP 10000)) λn4=>xI aP (cm au .quo 238 (aB aP n4) (aB aP 100)) λF=>xI aP (cm au .rem 238 (aB aP n4) (aB aP 100)) λn6=>xI aP (cm au .quo 238 (aB aP J) (aB aP 100)) λn7=>xI aP (cm au .rem 238 (aB aP J) (aB aP 100)) λn8=>xI aK (dR au 9 (strOf fk) (aB aP (aj aP (aj aP (n6*2)+1)))) λn9=>xI aK (dR au 9 (strOf fk) (aB aP (aj aP (n6*2)))) λx1=>xP (aZ au 183 (ae a n c) (aA (aj an ((i:Int)-1)))) λy4=>xU (aQ au 5 (bN y4) (aB aK n9) (room h 15)) (room h 15) λv4 l=>xP (aZ au 183 (ae a n c) (aA (aj an ((i:Int)-2)))) λW=>xU (aQ au 5 (bN W) (aB aK x1) l) l λv2 m=>xI aK (dR au 9 (strOf fk) (aB aP (aj aP (aj aP (F*2)+1)))) λz3=>xI aK (dR au 9 (strOf fk) (aB aP (aj aP (F*2)))) λX=>xP (aZ au 183 (ae a n c) (aA (aj an ((i:Int)-3)))) λZ=>xU (aQ au 5 (bN Z) (aB aK z3) (room m 15)) (room m 15) λu4 z=>xP (aZ au 183 (ae a n c) (aA (aj an ((i:Int)-4)))) λL=>xU (aQ au 5 (bN L) (aB aK X) z) z λz9 q=>xI aK (dR au 9 (strOf fk) (aB aP (aj aP (aj aP (n8*2)+1)))) λM=>xI aK (dR au 9 (strOf fk) (aB aP (aj aP (n8*2)))) λy9=>xP (aZ au 183 (ae a n c) (aA (aj an ((i:Int)-5)))) λz1=>xU (aQ au 5 (bN z1) (aB aK M) (room q 15)) (room q 15) λz7 p=>xP (aZ au 183 (ae a n c) (aA (aj an ((i:Int)-6)))) λT=>xU (aQ au 5 (bN T) (aB aK y9) p) p λv0 t=>xI aK (dR au 9 (strOf fk) (aB aP (aj aP (aj aP (n7*2)+1)))) λx0=>xI aK (dR au 9 (strOf fk) (aB aP (aj aP (n7*2)))) λR=>xP (aZ au 183 (ae a n c) (aA (aj an ((i:Int)-7)))) λy8=>xU (aQ au 5 (bN y8) (aB aK x0) (room t 15)) (room t 15) λv3 B=>xP (aZ au 183 (ae a n c) (aA (aj an ((i:Int)-8)))) λz4=>xU (aQ au 5 (bN z4) (aB aK R) B) B λz8 K=>cB (wz (rX a n c) e) d [(ae a n c),(bD n2),(aA (aj an ((i:Int)-8)))] K) (cp (decide ((i:Int)>=4)) (xI aP (cm au .rem 238 (aB aP (aj aP v)) (aB aP 10000)) λA=>xI aP (cm au .quo 238 (aB aP (aj aP v)) (aB aP 10000)) λf=>xI aP (cm au .quo 238 (aB aP A) (aB aP 100)) λC=>xI aP (cm au .rem 238 (aB aP A) (aB aP 100)) λo=>xI aK (dR au 9 (strOf fk) (aB aP (aj aP (aj aP (o*2)+1)))) λY=>xI aK (dR au 9 (strOf fk) (aB aP (aj aP (o*2)))) λx4=>xP (aZ au 183 (ae a n c) (aA (aj an ((i:Int)-1)))) λy6=>xU (aQ au 5 (bN y6) (aB aK Y) (room h 15)) (room h 15) λu7 r=>xP (aZ au 183 (ae a n c) (aA (aj an ((i:Int)-2)))) λG=>xU (aQ au 5 (bN G) (aB aK x4) r) r λu9 w=>xI aK (dR au 9 (strOf fk) (aB aP (aj aP (aj aP (C*2)+1)))) λH=>xI aK (dR au 9 (strOf fk) (aB aP (aj aP (C*2)))) λI=>xP (aZ au 183 (ae a n c) (aA (aj an ((i:Int)-3)))) λx9=>xU (aQ au 5 (bN x9) (aB aK H) (room w 15)) (room w 15) λu5 D=>xP (aZ au 183 (ae a n c) (aA (aj an ((i:Int)-4)))) λy5=>xU (aQ au 5 (bN y5) (aB aK I) D) D λu8 b=>cp (decide ((aj an ((i:Int)-4):Int)>=2)) (xI aP (cm au .rem 238 (aB aP f) (aB aP 100)) λy=>xI aP (cm au .quo 238 (aB aP f) (aB aP 100)) λy7=>xI aK (dR au 9 (strOf fk) (aB aP (aj aP (aj aP (y*2)+1)))) λx3=>xI aK (dR au 9 (strOf fk) (aB aP (aj aP (y*2)))) λy2=>xP (aZ au 183 (ae a n c) (aA (aj an (aj an ((i:Int)-4)-1)))) λz0=>xU (aQ au 5 (bN z0) (aB aK x3) (room b 15)) (room b 15) λu0 k=>xP (aZ au 183 (ae a n c) (aA (aj an (aj an ((i:Int)-4)-2)))) λV=>xU (aQ au 5 (bN V) (aB aK y2) k) k λu6 j=>cp (decide ((aj an (aj an ((i:Int)-4)-2):Int)>0)) (xP (aZ au 183 (ae a n c) (aA 0)) λz2=>xU (aQ au 5 (bN z2) (aB aK (aj aK (aj aP (48+y7)))) j) j λz5 x8=>Q (av ⟨[]⟩) x8) (Q (av ⟨[]⟩) j)) (cp (decide ((aj an ((i:Int)-4):Int)>0)) (xP (aZ au 183 (ae a n c) (aA 0)) λx6=>xU (aQ au 5 (bN x6) (aB aK (aj aK (aj aP (48+f)))) b) b λu2 x2=>Q (av ⟨[]⟩) x2) (Q (av ⟨[]⟩) b))) (cp (decide ((i:Int)>=2)) (xI aP (cm au .rem 238 (aB aP (aj aP v)) (aB aP 100)) λs=>xI aP (cm au .quo 238 (aB aP (aj aP v)) (aB aP 100)) λx7=>xI aK (dR au 9 (strOf fk) (aB aP (aj aP (aj aP (s*2)+1)))) λy3=>xI aK (dR au 9 (strOf fk) (aB aP (aj aP (s*2)))) λy0=>xP (aZ au 183 (ae a n c) (aA (aj an ((i:Int)-1)))) λN=>xU (aQ au 5 (bN N) (aB aK y3) (room h 15)) (room h 15) λz6 x=>xP (aZ au 183 (ae a n c) (aA (aj an ((i:Int)-2)))) λx5=>xU (aQ au 5 (bN x5) (aB aK y0) x) x λu1 g=>cp (decide ((aj an ((i:Int)-2):Int)>0)) (xP (aZ au 183 (ae a n c) (aA 0)) λS=>xU (aQ au 5 (bN S) (aB aK (aj aK (aj aP (48+x7)))) g) g λv1 P=>Q (av ⟨[]⟩) P) (Q (av ⟨[]⟩) g)) (cp (decide ((i:Int)>0)) (xP (aZ au 183 (ae a n c) (aA 0)) λO=>xU (aQ au 5 (bN O) (aB aK (aj aK (aj aP (48+aj aP v)))) h) h λu3 y1=>Q (av ⟨[]⟩) y1) (Q (av ⟨[]⟩) h))))) (d:Nat) {i:Nat} {v:Int} {h:aw} (E:e d i v h):cq C5 (pq 17) (rX a n c i v) h (ez C5 [1,0,0] Q):=
 sK (rX a n c) e (λd i v zz h E=>bF (step d i v zz h E)) d E
noncomputable def Su:FD:=gT Tryz.f284 []
theorem PF(u:Int)(h:aw)(Q:VH)(t:cp (((10:Int)==10)) (cp (decide ((u:Int)<100)) (aW 292 [(aA (aj an u))] h λy v=>yS y λw=>Q (strOf w) v) (xN (cD au 321) h λz x=>aW 293 [(bD u)] x λr l=>yI an r λn=>xL (cY au 321 (pA (h.ax)) none (aa (aA n)) none l) λs i p=>aW 294 [(ae s i p),(bD u)] l λd a=>d=(av ⟨[]⟩)/\xL (cY au 321 (pA (h.ax)) none (aa (aA n)) none a) λe g k=>xS (GP au 183 9 (ae e g k) a) λj=>Q (strOf j) a)) (aW 295 [nA,(bD u),(aA 10),(ai ak),(ai ak)] h λf q=>∃(o:OA) (m c:Nat),∃b:LB,f=(av ⟨[(ae o m c),(strOf b)]⟩)/\Q (strOf b) q)):aW 284 [(bD u),(aA 10)] h Q:=gZ Su Tryz.func284 (bF t)
noncomputable def WM:FD:=gT Tryz.f262 []
theorem Sv(u:Int)(h:aw)(Q:VH)(a:aW 284 [(bD u),(aA 10)] h λd b=>yS d λc=>Q (strOf c) b):aW 262 [(bD u),(aA 10)] h Q:=gZ WM Tryz.func262 (bF a)
variable{P:aO}{g:aw}{m:Nat}
theorem TO{t:aD}{a:Int}(h:0<=a){s:Nat}(b:s<=64):cm P .shr t (bD a) (bD (s:Int))=aa (bD (a/2^s)):=by
 show(if 0<=(s:Int)then aa (aB az (a.fdiv (2^(min (s:Int).toNat 64))))else none)=_;rw[iP (by omega),bn,dO b,Int.fdiv_eq_ediv_of_nonneg _ (Int.le_of_lt (Int.pow_pos (by decide)))]
theorem afo{t:aD}{a:Int}(h:0<=a){s:Nat}(b:s<=64):cm P .shr t (aA a) (bD (s:Int))=aa (aA (a/2^s)):=by
 show(if 0<=(s:Int)then aa (aB an (a.fdiv (2^(min (s:Int).toNat 64))))else none)=_;rw[iP (by omega),bn,dO b,Int.fdiv_eq_ediv_of_nonneg _ (Int.le_of_lt (Int.pow_pos (by decide)))]
def LT8:List UInt8:=[0,1,2,2,3,3,3,3,4,4,4,4,4,4,4,4,5,5,5,5,5,5,5,5,5,5,5,5,5,5,5,5,6,6,6,6,6,6,6,6,6,6,6,6,6,6,6,6,6,6,6,6,6,6,6,6,6,6,6,6,6,6,6,6,7,7,7,7,7,7,7,7,7,7,7,7,7,7,7,7,7,7,7,7,7,7,7,7,7,7,7,7,7,7,7,7,7,7,7,7,7,7,7,7,7,7,7,7,7,7,7,7,7,7,7,7,7,7,7,7,7,7,7,7,7,7,7,7,8,8,8,8,8,8,8,8,8,8,8,8,8,8,8,8,8,8,8,8,8,8,8,8,8,8,8,8,8,8,8,8,8,8,8,8,8,8,8,8,8,8,8,8,8,8,8,8,8,8,8,8,8,8,8,8,8,8,8,8,8,8,8,8,8,8,8,8,8,8,8,8,8,8,8,8,8,8,8,8,8,8,8,8,8,8,8,8,8,8,8,8,8,8,8,8,8,8,8,8,8,8,8,8,8,8,8,8,8,8,8,8,8,8,8,8,8,8,8,8,8,8,8,8,8,8,8,8]
def SM:List UInt8:=[48,48,48,49,48,50,48,51,48,52,48,53,48,54,48,55,48,56,48,57,49,48,49,49,49,50,49,51,49,52,49,53,49,54,49,55,49,56,49,57,50,48,50,49,50,50,50,51,50,52,50,53,50,54,50,55,50,56,50,57,51,48,51,49,51,50,51,51,51,52,51,53,51,54,51,55,51,56,51,57,52,48,52,49,52,50,52,51,52,52,52,53,52,54,52,55,52,56,52,57,53,48,53,49,53,50,53,51,53,52,53,53,53,54,53,55,53,56,53,57,54,48,54,49,54,50,54,51,54,52,54,53,54,54,54,55,54,56,54,57,55,48,55,49,55,50,55,51,55,52,55,53,55,54,55,55,55,56,55,57,56,48,56,49,56,50,56,51,56,52,56,53,56,54,56,55,56,56,56,57,57,48,57,49,57,50,57,51,57,52,57,53,57,54,57,55,57,56,57,57]
theorem aes:((dL 256).all λx=>(x==0&&(LT8.getD x 0).toNat==0)||(Nat.ble 1 (LT8.getD x 0).toNat&&Nat.ble (LT8.getD x 0).toNat 8&&Nat.ble (2^((LT8.getD x 0).toNat-1)) x&&dj x (2^(LT8.getD x 0).toNat)))=af:=by kernel_rfl
theorem lt8{x:Nat}(h:x<256)(g:0<x):∃t,(LT8.getD x 0).toNat=t+1/\t<8/\2^t<=x/\x<2^(t+1):=by
 have e:=cw.1 aes x (eL.2 h);have f:(x==0)=ak:=by simp;omega
 rw[f]at e;simp only[Bool.false_and,Bool.false_or,bj,Nat.ble_eq,Nat.blt_eq]at e;obtain⟨⟨⟨a,b⟩,c⟩,d⟩:=e;refine⟨(LT8.getD x 0).toNat-1,by omega,by omega,c,?_⟩;rwa[Nat.sub_add_cancel a]
theorem Hb{x:Int}(a:0<=x)(b:x<256):dR au 9 (strOf LT8) (aB aK (aj aK x))=aa (aB aK ((LT8.getD x.toNat 0).toNat:Nat)):=by
 rw[xT a b];exact tT (by kernel_rfl) LT8 aK a (by show x<((256:Nat):Int);omega)
theorem ah6:((dL 100).all λx=>dx (SM.getD (2*x) 0).toNat (48+x/10)&&dx (SM.getD (2*x+1) 0).toNat (48+x%10))=af:=by kernel_rfl
theorem ach{x:Nat}(h:x<100):(SM.getD (2*x) 0).toNat=48+x/10/\(SM.getD (2*x+1) 0).toNat=48+x%10:=by
 have a:=cw.1 ah6 x (eL.2 h);simp only[bj,Nat.beq_eq]at a;exact a
theorem aaL(k:0<n)(j:n<4294967296)(h:aw):aW 186 [bD (n:Int)] h (λv i=>i=h/\∃f:Nat,v=aA (f+1:Nat)/\f<32/\2^f<=n/\n<2^(f+1)):=by
 refine aaK _ h _ (ay (λg=>absurd (dT g) (by omega)) λ_=>ay (λg=>?_) (λg=>?_))
 ·have g:=dT g;refine⟨_,TO (s:=16) (by omega) (by omega),ay (λa=>?_) (λa=>?_)⟩
  ·have a:=dT a;refine⟨_,TO (s:=8) (by omega) (by omega),_,Hb (by omega) (by omega),rfl,?_⟩;obtain⟨t,e,c,b,d⟩:=lt8 (x:=((n:Int)/2^16/2^8).toNat) (by omega) (by omega);rw[e];refine⟨t+24,?_,by omega,?_,?_⟩
   ·refine congrArg (aB an) ?_;simp only[wrap_i64];omega
   ·rw[pow_add];omega
   ·rw[show t+24+1=(t+1)+24 by omega,pow_add];omega
  ·have a:=dF a;refine⟨_,Hb (by omega) (by omega),rfl,?_⟩;obtain⟨t,e,c,b,d⟩:=lt8 (x:=((n:Int)/2^16).toNat) (by omega) (by omega);rw[e];refine⟨t+16,?_,by omega,?_,?_⟩
   ·refine congrArg (aB an) ?_;simp only[wrap_i64];omega
   ·rw[pow_add];omega
   ·rw[show t+16+1=(t+1)+16 by omega,pow_add];omega
 ·have g:=dF g;refine ay (λa=>?_) (λa=>?_)
  ·have a:=dT a;refine⟨_,TO (s:=8) (by omega) (by omega),_,Hb (by omega) (by omega),rfl,?_⟩;obtain⟨t,e,c,b,d⟩:=lt8 (x:=((n:Int)/2^8).toNat) (by omega) (by omega);rw[e];refine⟨t+8,?_,by omega,?_,?_⟩
   ·refine congrArg (aB an) ?_;simp only[wrap_i64];omega
   ·rw[pow_add];omega
   ·rw[show t+8+1=(t+1)+8 by omega,pow_add];omega
  ·have a:=dF a;refine⟨_,Hb (by omega) (by omega),rfl,?_⟩;obtain⟨t,e,c,b,d⟩:=lt8 (x:=((n:Int)).toNat) (by omega) (by omega);rw[e];refine⟨t,?_,by omega,by omega,by omega⟩;refine congrArg (aB an) ?_;simp only[wrap_i64];omega
def Rg:List ah:=(dL 20).map λi=>uv (10^i)
def BG(h:aw):Prop:=∃t a,h.get 1=aa (.cells Rg t 0 a)
theorem BG.ok(t:BG h)(o:Ok h g):BG g:=let⟨k,a,e⟩:=t;⟨k,a,o.ext _ _ e⟩
theorem aiU:au.underlying 328=aa (.array 20 240):=by kernel_rfl
theorem aih(t:BG h){i:Int}(b:0<=i)(a:i<20):aZ au 328 (pA 1) (aA i)=aa (cn 1 (0+i.toNat*1))/\aM au 240 h (cn 1 (0+i.toNat*1))=aa (bD ((10^i.toNat:Nat):Int)):=by
 obtain⟨_,c,e⟩:=t;constructor
 ·unfold aZ;rw[aiU];dsimp only;rw[JP];dsimp only;rw[iP ⟨b,a⟩,gH,bO]
 ·unfold aM;rw[VP];dsimp only;rw[e];dsimp only;rw[UB];simp only[dM,if_false];unfold Rg;rw[bO,df,getElem?_map,List.getElem?_range (by omega)];rfl
theorem NA(B:100<=n)(x:n<1000000000){h:aw}(t:BG h):aW 293 [bD (n:Int)] h (λv o=>o=h/\∃a:Nat,v=aA (a+1:Nat)/\a<9/\10^a<=n/\n<10^(a+1)):=by
 refine Nz _ h _ ((aaL (by omega) (by omega) h).mono ?_);rintro _ g ⟨e,a,rfl,y,u,z⟩;have t:=e▸t;refine⟨_,rfl,Nk _ _ _ ⟨_,afo (s:=18) ?_ (by omega),_,rfl,?_⟩⟩
 ·rw[cj (by omega) (by omega)];omega
 rw[cj (by omega) (by omega)];have D:a<30:=by
  rcases de a 30 with h|h
  ·exact h
  ·have:2^30<=2^a:=dG (by omega) h;omega
 have C:6<=a:=by
  rcases de a 6 with h|h
  ·have:2^(a+1)<=2^6:=dG (by omega) h;omega
  ·exact h
 obtain⟨p,k⟩:=aih t (i:=((a+1:Nat):Int)*78913/2^18) (by omega) (by omega);refine⟨_,p,_,k,ZD _ _ _ ?_⟩;have b:∀q:Nat,2<=q->q<=9->10^(q-1)<=n->n<10^(q+1)->((a+1:Nat):Int)*78913/2^18=(q:Int)->cp (decide (((n:Nat):Int)>=((10^(((a+1:Nat):Int)*78913/2^18).toNat:Nat):Int))) (∃c:Int,aB an 1=aA c/\(g=h/\∃m:Nat,aB an (aj an (((a+1:Nat):Int)*78913/2^18+c))=aA (m+1:Nat)/\m<9/\10^m<=n/\n<10^(m+1))) (∃c:Int,aB an 0=aA c/\(g=h/\∃m:Nat,aB an (aj an (((a+1:Nat):Int)*78913/2^18+c))=aA (m+1:Nat)/\m<9/\10^m<=n/\n<10^(m+1))):=by
  intro q A w f l r;rw[r,bn];refine ay (λd=>?_) (λd=>?_)
  ·have d:=dT d;refine⟨1,rfl,e,q,?_,?_,by omega,l⟩
   ·rw[cj (by omega) (by omega)];rfl
   ·rcases de q 9 with h|h
    ·exact h
    ·have:q=9:=by omega
     subst this;omega
  ·have d:=dF d;refine⟨0,rfl,e,q-1,?_,by omega,f,by rw[Nat.sub_add_cancel (by omega)];omega⟩;rw[cj (by omega) (by omega),Nat.sub_add_cancel (by omega),Int.add_zero]
 have j:a=6\/a=7\/a=8\/a=9\/a=10\/a=11\/a=12\/a=13\/a=14\/a=15\/a=16\/a=17\/a=18\/a=19\/a=20\/a=21\/a=22\/a=23\/a=24\/a=25\/a=26\/a=27\/a=28\/a=29:=by omega
 rcases j with rfl|rfl|rfl|rfl|rfl|rfl|rfl|rfl|rfl|rfl|rfl|rfl|rfl|rfl|rfl|rfl|rfl|rfl|rfl|rfl|rfl|rfl|rfl|rfl
 all_goals first
  |exact b 2 (by omega) (by omega) (by omega) (by omega) (by omega)
  |exact b 3 (by omega) (by omega) (by omega) (by omega) (by omega)
  |exact b 4 (by omega) (by omega) (by omega) (by omega) (by omega)
  |exact b 5 (by omega) (by omega) (by omega) (by omega) (by omega)
  |exact b 6 (by omega) (by omega) (by omega) (by omega) (by omega)
  |exact b 7 (by omega) (by omega) (by omega) (by omega) (by omega)
  |exact b 8 (by omega) (by omega) (by omega) (by omega) (by omega)
  |exact b 9 (by omega) (by omega) (by omega) (by omega) (by omega)
theorem acj(e:m<100)(h:aw):aW 292 [aA (m:Int)] h (λv f=>f=h/\v=strOf (bp m)):=by
 refine aci _ h _ (ay (λg=>?_) (λg=>?_))
 ·have g:=dT g;rw[cj (by omega) (by omega)];refine⟨_,tV (by kernel_rfl) _ (a:=m) (b:=m+1) rfl rfl (by omega) (by simp;omega),rfl,?_⟩;rw[hE (by omega)];have:m=0\/m=1\/m=2\/m=3\/m=4\/m=5\/m=6\/m=7\/m=8\/m=9:=by omega
  rcases this with rfl|rfl|rfl|rfl|rfl|rfl|rfl|rfl|rfl|rfl<;>rfl
 ·have g:=dF g;rw[cj (n:=(m:Int)*2) (by omega) (by omega),cj (by omega) (by omega)];refine⟨_,tV (l:=SM) (by kernel_rfl) (a:=2*m) (b:=2*m+2) (by show aa _=aa _;congr 1;omega) (by show aa _=aa _;congr 1;omega) (by omega) (by show _<=200;omega),rfl,?_⟩;have c:=ach e;rw[nQ (by omega),hE (by omega),show 2*m+2-2*m=2 by omega];have j:SM.length=200:=rfl;rw[db (by omega),db (by omega)];have d:SM[2*m]'(by omega)=jG (m/10):=by
   apply fQ.1;have:=c.1;rw[gD,gE (by omega)]at this;rw[show(SM[2*m]'(by omega)).toNat=_ from this];unfold jG;rw[UInt8.toNat_ofNat',eG (by omega)]
  have i:SM[2*m+1]'(by omega)=jG (m%10):=by
   apply fQ.1;have:=c.2;rw[gD,gE (by omega)]at this;rw[show(SM[2*m+1]'(by omega)).toNat=_ from this];unfold jG;rw[UInt8.toNat_ofNat',eG (a:=48+m%10) (b:=2^8) (by omega)]
  rw[d,i];rfl
variable{z:Int}
section
theorem si{n:Int}(a:0<=n)(b:n<4294967296):aj aP n=n:=by
 simp only[aj,dA,IntKind.signed,Bool.false_and,dM,if_false];omega
theorem I5{t:aD}{a:Int}{b:Nat}(h0:0<=a)(c:a<4294967296)(d:0<b):cm P .quo t (aB aP a) (aB aP (b:Int))=aa (aB aP (a/(b:Int))):=by
 rw[GV P t aP _ _ (by omega),Int.tdiv_eq_ediv_of_nonneg h0,si (Int.ediv_nonneg h0 (by omega)) (Int.lt_of_le_of_lt (Int.ediv_le_self _ h0) c)]
theorem ady(h:m<10):ys (jG m)=aB aK (48+(m:Int)):=by
 unfold ys jG;rw[UInt8.toNat_ofNat',eG (a:=48+m) (b:=2^8) (by omega)];rfl
structure FB(h0:aw)(k n u j w:Nat)(h:aw):Prop where
 blk:∃cs,h.get k=aa (.cells cs 321 0 af)/\cs.length=24/\(cs.drop j).take (n-j)=(Num.wid (n-j) u).map ys
 hw:w=u/10^(n-j)
 lt:w<10^j
 jn:j<=n
 n24:n<=9
 ok:OR h0 k h
section
variable {h0 h:aw} {k n u j w:Nat}
theorem FB.room(f:FB h0 k n u j w h)(r:Nat):FB h0 k n u j w (room h r):=⟨f.blk,f.hw,f.lt,f.jn,f.n24,f.ok.room r⟩
theorem FB.step(f:FB h0 k n u (j+1) w h){c:Nat}{x i:Int}(m:x=48+(w:Int)%10)(q:i=(j:Int)):
  ∃p:aF,aZ au 183 (sA k n c) (aA i)=aa (bN p)/\∃d:dJ,aQ au 5 (bN p) (aB aK x) h=aa (undef,d)/\FB h0 k n u j (w/10) (d.app h):=by
 subst m q;obtain⟨cs,b,o,l⟩:=f.blk;have s:=f.jn;have g:=f.n24;refine⟨⟨k,0+j,none⟩,?_,.set k (.cells (cs.set j (ys (jG (w%10)))) 321 0 af),?_,?_⟩
 ·unfold aZ;rw[FX];dsimp only;rw[zz5];dsimp only;rw[iP ⟨by omega,by omega⟩,df,gH,bn]
 ·rw[show(48+((w:Nat):Int)%10)=48+((w%10:Nat):Int) by omega,<-ady (dP _ (by omega))];show(if cd au 5=aa 1 then(storeAt h k (0+j) [ys (jG (w%10))]).map λu=>(undef,u)else none)=_;rw[iP zz5];unfold storeAt;rw[b];dsimp only;rw[bO,iP ⟨by simp;omega,rfl⟩];have e:cs.take j++[ys (jG (w%10))]++cs.drop (j+[ys (jG (w%10))].length)=cs.set j (ys (jG (w%10))):=by
   rw[List.set_eq_take_append_cons_drop,iP (by omega),cE];rfl
  rw[e];rfl
 ·have r:=f.ok.wf _ _ b;have a:n-j=(n-(j+1))+1:=by omega
  refine⟨⟨cs.set j (ys (jG (w%10))),?_,by rw[bT];exact o,?_⟩,?_,?_,by omega,g,f.ok.set r _⟩
  ·show(h.set k _).get k=_;rw[aw.bZ,iP rfl]
  ·rw[db (by simp only[bT];omega),a,List.take_succ_cons,List.getElem_set_self,List.drop_set_of_lt (by omega),l,BE,List.map_cons,<-f.hw]
  ·rw[a,gb,<-Nat.div_div_eq_div_mul,<-f.hw]
  ·have:=f.lt;rw[gb]at this;omega
theorem aj6{x:Nat}(b:z=(x:Int))(a:x<100):dR au 9 (strOf SM) (aB aP (aj aP (aj aP (z*2)+1)))=aa (aB aK (48+(x:Int)%10)):=by
 rw[si (n:=z*2) (by omega) (by omega),si (by omega) (by omega),tT (by kernel_rfl) SM aP (by omega) (by show _<((200:Nat):Int);omega),show(z*2+1).toNat=2*x+1 by omega,(ach a).2];rfl
theorem aj5{x:Nat}(b:z=(x:Int))(a:x<100):dR au 9 (strOf SM) (aB aP (aj aP (z*2)))=aa (aB aK (48+(x:Int)/10)):=by
 rw[si (n:=z*2) (by omega) (by omega),tT (by kernel_rfl) SM aP (by omega) (by show _<((200:Nat):Int);omega),show(z*2).toNat=2*x by omega,(ach a).1];rfl
theorem FB.pair(f:FB h0 k n u (j+2) w h){c:Nat}{y i1 i2:Int}(E:y=(w:Int)%100)(C:i1=(j:Int)+1)(D:i2=(j:Int)):
  ∃m:Int,dR au 9 (strOf SM) (aB aP (aj aP (aj aP (y*2)+1)))=aa (aB aK m)/\
  ∃d:Int,dR au 9 (strOf SM) (aB aP (aj aP (y*2)))=aa (aB aK d)/\
  ∃g:aF,aZ au 183 (sA k n c) (aA i1)=aa (bN g)/\
  ∃a:dJ,aQ au 5 (bN g) (aB aK m) (Go.Ab.room h 15)=aa (undef,a)/\
  ∃l:aF,aZ au 183 (sA k n c) (aA i2)=aa (bN l)/\
  ∃b:dJ,aQ au 5 (bN l) (aB aK d) (a.app (Go.Ab.room h 15))=aa (undef,b)/\
  FB h0 k n u j (w/100) (b.app (a.app (Go.Ab.room h 15))):=by
 have e:y=((w%100:Nat):Int):=by omega
 obtain⟨p,A,t,s,B⟩:=(f.room 15).step (j:=j+1) (c:=c) (x:=48+((w%100:Nat):Int)%10) (i:=i1) (by omega) (by omega);obtain⟨q,v,r,z,o⟩:=B.step (c:=c) (x:=48+((w%100:Nat):Int)/10) (i:=i2) (by omega) (by omega);refine⟨_,aj6 e (by omega),_,aj5 e (by omega),p,A,t,s,q,v,r,z,?_⟩;rw[Nat.div_div_eq_div_mul]at o;exact o
end
theorem aan{h0 h:aw}{k n c u:Nat}(f:FB h0 k n u n u h):aW 294 [sA k n c,bD (u:Int)] h (λv O=>v=av ⟨[]⟩/\∃w,FB h0 k n u 0 w O):=by
 have V:=f.n24;have L:=EF (aa ⟨k,0,none⟩) n c (u:Int) (λD i v g=>∃w:Nat,v=(w:Int)/\D=i/\FB h0 k n u i w g) (λv O=>v=av ⟨[]⟩/\∃w,FB h0 k n u 0 w O) (by
  intro D i v;intros;rename_i g R;obtain⟨w,rfl,rfl,f⟩:=R;have S:=f.jn;have W:w<1000000000:=cz f.lt (show 10^D<=10^9 from dG (by omega) (by omega));refine ay (λK=>?_) (λK=>?_)
  ·have K:=dT K;obtain⟨j,rfl⟩:∃j,D=j+8:=⟨D-8,by omega⟩
   refine⟨_,mL (b:=100000000) (by omega) (by omega),_,vf (b:=100000000) (by omega) (by omega) (by omega),?_⟩;rw[si (n:=((w:Nat):Int)%((100000000:Nat):Int)) (by omega) (by omega)];refine⟨_,I5 (b:=10000) (by omega) (by omega) (by omega),_,mL (b:=10000) (by omega) (by omega),_,I5 (b:=100) (by omega) (by omega) (by omega),_,mL (b:=100) (by omega) (by omega),_,I5 (b:=100) (by omega) (by omega) (by omega),_,mL (b:=100) (by omega) (by omega),?_⟩;obtain⟨C,d,q,e,t,m,z,s,B,A,r,o,Q⟩:=FB.pair (j:=j+6) (c:=c) (y:=((w:Nat):Int)%((100000000:Nat):Int)%((10000:Nat):Int)%((100:Nat):Int)) (i1:=aj an (((j+8:Nat):Int)-1)) (i2:=aj an (((j+8:Nat):Int)-2)) f (by omega) (by rw[cj (by omega) (by omega)];omega) (by rw[cj (by omega) (by omega)];omega);refine⟨C,d,q,e,t,m,z,s,B,A,r,o,?_⟩;obtain⟨C,d,q,e,t,m,z,s,B,A,r,o,I⟩:=FB.pair (j:=j+4) (c:=c) (y:=((w:Nat):Int)%((100000000:Nat):Int)%((10000:Nat):Int)/((100:Nat):Int)) (i1:=aj an (((j+8:Nat):Int)-3)) (i2:=aj an (((j+8:Nat):Int)-4)) Q (by omega) (by rw[cj (by omega) (by omega)];omega) (by rw[cj (by omega) (by omega)];omega);refine⟨C,d,q,e,t,m,z,s,B,A,r,o,?_⟩;obtain⟨C,d,q,e,t,m,z,s,B,A,r,o,G⟩:=FB.pair (j:=j+2) (c:=c) (y:=((w:Nat):Int)%((100000000:Nat):Int)/((10000:Nat):Int)%((100:Nat):Int)) (i1:=aj an (((j+8:Nat):Int)-5)) (i2:=aj an (((j+8:Nat):Int)-6)) I (by omega) (by rw[cj (by omega) (by omega)];omega) (by rw[cj (by omega) (by omega)];omega);refine⟨C,d,q,e,t,m,z,s,B,A,r,o,?_⟩;obtain⟨C,d,q,e,t,m,z,s,B,A,r,o,F⟩:=FB.pair (j:=j) (c:=c) (y:=((w:Nat):Int)%((100000000:Nat):Int)/((10000:Nat):Int)/((100:Nat):Int)) (i1:=aj an (((j+8:Nat):Int)-7)) (i2:=aj an (((j+8:Nat):Int)-8)) G (by omega) (by rw[cj (by omega) (by omega)];omega) (by rw[cj (by omega) (by omega)];omega);refine⟨C,d,q,e,t,m,z,s,B,A,r,o,?_⟩;have N:aj an (((j+8:Nat):Int)-8)=(j:Int):=by rw[cj (by omega) (by omega)];omega
   rw[N];exact pe j (by omega) ⟨w/100000000,by omega,rfl,by
    have:=F;simp only[Nat.div_div_eq_div_mul]at this;exact this⟩
  ·have K:=dF K;have T:w<100000000:=cz f.lt (show 10^D<=10^8 from dG (by omega) (by omega));rw[si (n:=((w:Nat):Int)) (by omega) (by omega)];refine ay (λJ=>?_) (λJ=>?_)
   ·have J:=dT J;obtain⟨j,rfl⟩:∃j,D=j+4:=⟨D-4,by omega⟩
    refine⟨_,mL (b:=10000) (by omega) (by omega),_,I5 (b:=10000) (by omega) (by omega) (by omega),_,I5 (b:=100) (by omega) (by omega) (by omega),_,mL (b:=100) (by omega) (by omega),?_⟩;obtain⟨C,d,q,e,t,m,z,s,B,A,r,o,Q⟩:=FB.pair (j:=j+2) (c:=c) (y:=((w:Nat):Int)%((10000:Nat):Int)%((100:Nat):Int)) (i1:=aj an (((j+4:Nat):Int)-1)) (i2:=aj an (((j+4:Nat):Int)-2)) f (by omega) (by rw[cj (by omega) (by omega)];omega) (by rw[cj (by omega) (by omega)];omega);refine⟨C,d,q,e,t,m,z,s,B,A,r,o,?_⟩;obtain⟨C,d,q,e,t,m,z,s,B,A,r,o,I⟩:=FB.pair (j:=j) (c:=c) (y:=((w:Nat):Int)%((10000:Nat):Int)/((100:Nat):Int)) (i1:=aj an (((j+4:Nat):Int)-3)) (i2:=aj an (((j+4:Nat):Int)-4)) Q (by omega) (by rw[cj (by omega) (by omega)];omega) (by rw[cj (by omega) (by omega)];omega);refine⟨C,d,q,e,t,m,z,s,B,A,r,o,?_⟩;have N:aj an (((j+4:Nat):Int)-4)=(j:Int):=by rw[cj (by omega) (by omega)];omega
    rw[N];have U:=I.lt;refine ay (λE=>?_) (λE=>?_)
    ·have E:=dT E;obtain⟨l,rfl⟩:∃l,j=l+2:=⟨j-2,by omega⟩
     refine⟨_,mL (b:=100) (by omega) (by omega),_,I5 (b:=100) (by omega) (by omega) (by omega),?_⟩;obtain⟨C,d,q,e,t,m,z,s,B,A,r,o,G⟩:=FB.pair (j:=l) (c:=c) (y:=((w:Nat):Int)/((10000:Nat):Int)%((100:Nat):Int)) (i1:=aj an (((l+2:Nat):Int)-1)) (i2:=aj an (((l+2:Nat):Int)-2)) I (by omega) (by rw[cj (by omega) (by omega)];omega) (by rw[cj (by omega) (by omega)];omega);refine⟨C,d,q,e,t,m,z,s,B,A,r,o,?_⟩;have P:aj an (((l+2:Nat):Int)-2)=(l:Int):=by rw[cj (by omega) (by omega)];omega
     rw[P];refine ay (λa=>?_) (λa=>?_)
     ·have a:=dT a;obtain rfl:l=1:=by omega
      have M:=G.lt;rw[si (n:=48+_) (by omega) (by omega),xT (n:=48+_) (by omega) (by omega)];obtain⟨p,d,H,e,F⟩:=G.step (c:=c) (x:=48+((w:Nat):Int)/((10000:Nat):Int)/((100:Nat):Int)) (i:=0) (by omega) rfl;exact⟨p,d,H,e,rfl,_,F⟩
     ·have a:=dF a;obtain rfl:l=0:=by omega
      exact⟨rfl,_,G⟩
    ·have E:=dF E;refine ay (λa=>?_) (λa=>?_)
     ·have a:=dT a;obtain rfl:j=1:=by omega
      rw[si (n:=48+_) (by omega) (by omega),xT (n:=48+_) (by omega) (by omega)];obtain⟨p,d,H,e,F⟩:=I.step (c:=c) (x:=48+((w:Nat):Int)/((10000:Nat):Int)) (i:=0) (by omega) rfl;exact⟨p,d,H,e,rfl,_,F⟩
     ·have a:=dF a;obtain rfl:j=0:=by omega
      exact⟨rfl,_,I⟩
   ·have J:=dF J;refine ay (λE=>?_) (λE=>?_)
    ·have E:=dT E;obtain⟨l,rfl⟩:∃l,D=l+2:=⟨D-2,by omega⟩
     refine⟨_,mL (b:=100) (by omega) (by omega),_,I5 (b:=100) (by omega) (by omega) (by omega),?_⟩;obtain⟨C,d,q,e,t,m,z,s,B,A,r,o,G⟩:=FB.pair (j:=l) (c:=c) (y:=((w:Nat):Int)%((100:Nat):Int)) (i1:=aj an (((l+2:Nat):Int)-1)) (i2:=aj an (((l+2:Nat):Int)-2)) f (by omega) (by rw[cj (by omega) (by omega)];omega) (by rw[cj (by omega) (by omega)];omega);refine⟨C,d,q,e,t,m,z,s,B,A,r,o,?_⟩;have P:aj an (((l+2:Nat):Int)-2)=(l:Int):=by rw[cj (by omega) (by omega)];omega
     rw[P];have M:=G.lt;refine ay (λa=>?_) (λa=>?_)
     ·have a:=dT a;obtain rfl:l=1:=by omega
      rw[si (n:=48+_) (by omega) (by omega),xT (n:=48+_) (by omega) (by omega)];obtain⟨p,d,H,e,F⟩:=G.step (c:=c) (x:=48+((w:Nat):Int)/((100:Nat):Int)) (i:=0) (by omega) rfl;exact⟨p,d,H,e,rfl,_,F⟩
     ·have a:=dF a;obtain rfl:l=0:=by omega
      exact⟨rfl,_,G⟩
    ·have E:=dF E;have M:=f.lt;refine ay (λa=>?_) (λa=>?_)
     ·have a:=dT a;obtain rfl:D=1:=by omega
      rw[si (n:=48+_) (by omega) (by omega),xT (n:=48+_) (by omega) (by omega)];obtain⟨p,d,H,e,F⟩:=f.step (c:=c) (x:=48+((w:Nat):Int)) (i:=0) (by omega) rfl;exact⟨p,d,H,e,rfl,_,F⟩
     ·have a:=dF a;obtain rfl:D=0:=by omega
      exact⟨rfl,_,f⟩)
 exact aam _ n c _ h _ (L n ⟨u,rfl,rfl,f⟩)
end
variable{k:Nat}{b:Bool}{i:Nat}
noncomputable def Y9:eE:= .cells (aH 24 (aB aK 0)) 321 0 af
theorem aiR:cD au 321=aa (Y9,jL):=by kernel_rfl
theorem aiT:au.underlying 321=aa (.array 24 5):=by kernel_rfl
theorem K0{cs:List ah}(c:h.get k=aa (.cells cs 321 0 b)){n:Nat}(f:n<=24):cY au 321 (pA k) none (aa (aA (n:Int))) none h=aa (sA k n 24):=by
 unfold cY;dsimp only;rw[aiT];dsimp only[iW];rw[zz5,c];show(if 0<=((0:Nat):Int)/\((0:Nat):Int)<=(n:Int)/\(n:Int)<=((24:Nat):Int)/\24<ft then aa (ae (aa ⟨k,0+((0:Nat):Int).toNat*1,none⟩) ((n:Int)-((0:Nat):Int)).toNat (24-((0:Nat):Int).toNat))else none)=_;have a:24<ft:=by unfold ft;omega
 rw[iP ⟨by omega,by omega,by omega,a⟩];have d:((n:Int)-((0:Nat):Int)).toNat=n:=by omega
 have e:((0:Nat):Int).toNat=0:=rfl;rw[d,e]
theorem TZ{c:Nat}{cs:List ah}(e:h.get k=aa (.cells cs i j b)){l:List UInt8}(d:(cs.drop n).take m=l.map ys)(a:l.length=m):GP au 183 9 (gG k n m c) h=aa (strOf l):=by
 unfold GP eB;dsimp only;rw[FX,show au.underlying 9=aa .string by kernel_rfl];dsimp only;rw[show au.underlying 5=aa (.int aK) by kernel_rfl];dsimp only;rw[e];dsimp only;rw[d,iP (by rw[aG];exact a),uT];rfl
theorem PG(p:n<1000000000){h:aw}(t:BG h)(w:Wf h):aW 284 [bD (n:Int),aA 10] h (λv q=>v=strOf (bp n)/\Ok h q):=by
 refine PF _ h _ (ay (λ_=>?_) (λg=>by simp at g));refine ay (λg=>?_) (λg=>?_)
 ·have g:=dT g;rw[cj (by omega) (by omega)];refine(acj (by omega) h).mono ?_;rintro _ _ ⟨rfl,rfl⟩;exact⟨_,rfl,rfl,Ok.refl w⟩
 ·have g:=dF g;have b:=(Ok.refl w).push Y9;refine⟨_,aiR,(NA (by omega) p (t.ok b)).mono ?_⟩;rintro _ y ⟨r,d,rfl,u,i,c⟩;subst r;have l:(h.push Y9).get h.ax=aa (.cells (aH 24 (aB aK 0)) 321 0 af):=by rw[aw.cZ,iP rfl];rfl
  refine⟨_,rfl,_,_,_,K0 l (n:=d+1) (by omega),?_⟩;have f:FB (h.push Y9) h.ax (d+1) n (d+1) n (h.push Y9):=⟨⟨_,l,by simp,by simp[Num.wid]⟩,by simp,c,aS _,by omega,OR.refl b.wf⟩
  refine(aan f).mono ?_;rintro _ s ⟨rfl,x,a⟩;obtain⟨cs,m,z,k⟩:=a.blk;rw[bV,sub_zero]at k;refine⟨rfl,_,_,_,K0 m (n:=d+1) (by omega),bp n,TZ m ?_ ?_,rfl,?_⟩
  ·rw[bV,k,El c (.inr i)]
  ·rw[<-El c (.inr i),Em]
  ·refine⟨a.ok.wf,λj B o=>a.ok.nY j B (λe=>by have:=w _ _ o;omega) (b.ext _ _ o),bK b.nx a.ok.nx⟩
theorem Sw(a:n<1000000000){h:aw}(t:BG h)(w:Wf h):aW 262 [bD (n:Int),aA 10] h (λv b=>v=strOf (bp n)/\Ok h b):=by
 refine Sv _ h _ ((PG a t w).mono ?_);rintro _ c ⟨rfl,o⟩;exact⟨_,rfl,rfl,o⟩
noncomputable def wJ:FD:=gT Tryz.f285 []
theorem J7(p:aF)(h:aw)(Q:VH)(n:xP (bB au 301 (bN p) 0) λd=>xO (aM au 299 h (bN d)) λc=>xB (cm au .eql 299 (.pointer c) (aT none)) λb=>cp b (xG (fM au mI (ev SS.gl (uN [(bN p),undef,(bN p),(bN p),(bN d),(.pointer c),(ai b),(bN p),(bN p)] 11)) (Vv (oO [1,0] wJ.body) 2) h) h λe t o=>aW 296 [e] o λm g=>yV m λq=>xG (fM au mI (ev SS.gl (uN [(bN p),undef,(bN p),(bN p),(bN d),(.pointer c),(ai b),(bN p),(bN p),e,q] 9)) (Vv (oO [1,0] wJ.body) 4) g) g λf s a=>xP (bB au 301 (bN p) 0) λj=>xU (aQ au 299 (bN j) f a) a λr i=>Q (av ⟨[]⟩) i) (qF xO 301 (bN p) 0 299 h λl=>xB (cm au .neq 299 (.pointer l) (bN p)) λk=>cp k (False) (Q (av ⟨[]⟩) h))):aW 285 [(bN p)] h Q:=gZ wJ Tryz.func285 (bF n)
noncomputable def Zy:FD:=gT Tryz.f263 []
theorem V9(p:aF)(l:LB)(h:aw)(Q:VH)(g:aW 285 [(bN p)] h λn b=>n=(av ⟨[]⟩)/\mh 301 (bN p) 1 183 b λi e k=>xE (bY au 183 9 (ae i e k) (strOf l) b) b λj m f o a=>xP (bB au 301 (bN p) 1) λd=>xU (aQ au 183 (bN d) (ae j m f) a) a λq c=>Q (av ⟨[(aA (l.length:Int)),.nilIface]⟩) c):aW 263 [(bN p),(strOf l)] h Q:=gZ Zy Tryz.func263 (bF g)
noncomputable def Et:FD:=gT Tryz.f265 []
theorem RZ(p:aF)(h:aw)(Q:VH)(m:xP (bB au 301 (bN p) 1) λf=>xL (aM au 183 (room h 12) (bN f)) λk i l=>xG (fM au mI (ev SS.gl (uN [(bN p),undef,(strOf []),(bN p),(bN p),(bN f),(ae k i l)] 7)) (Vv (oO [1,0] Et.body) 4) (room h 12)) (room h 12) λn q e=>xP (bB au 301 (bN p) 1) λd=>xL (aM au 183 e (bN d)) λc a b=>xG (fM au mI (ev SS.gl [(bN p),undef,(strOf []),(bN p),(bN p),(bN f),(ae k i l),n,(bN p),(bN p),(bN d),(ae c a b),(iA a),undef]) (Vv (oO [1,0] Et.body) 10) e) e λg o j=>(aM au 183 (room h 12) (bN d)=aa (ae c a b)/\iz 4 (ae c a b) (ae c a b)=af)/\(aaM au 183 (ae c a b) (room h 12)=aa (iA a)/\iz 4 (iA a) (iA a)=af)/\Q g j):aW 265 [(bN p)] h Q:=gZ Et Tryz.func265 (bF m)
noncomputable def aey:FD:=gT Tryz.f197 []
theorem aa4(x y:Int)(h:aw)(Q:VH)(e:xI az (cm au .shr 240 (bD x) (bD 32)) λa=>xI az (cm au .shr 240 (bD y) (bD 32)) λc=>xI az (cm au .shr 240 (bD (aj az (aj az ((di (dA az) x&&&di (dA az) 4294967295).toNat:Int)*aj az ((di (dA az) y&&&di (dA az) 4294967295).toNat:Int)))) (bD 32)) λb=>xI az (cm au .shr 240 (bD (aj az (aj az (a*aj az ((di (dA az) y&&&di (dA az) 4294967295).toNat:Int))+b))) (bD 32)) λf=>xI az (cm au .shr 240 (bD (aj az (aj az ((di (dA az) (aj az (aj az (a*aj az ((di (dA az) y&&&di (dA az) 4294967295).toNat:Int))+b))&&&di (dA az) 4294967295).toNat:Int)+aj az (aj az ((di (dA az) x&&&di (dA az) 4294967295).toNat:Int)*c)))) (bD 32)) λd=>Q (av ⟨[(bD (aj az (aj az (aj az (a*c)+f)+d))),(bD (aj az (x*y)))]⟩) h):aW 197 [(bD x),(bD y)] h Q:=gZ aey Tryz.func197 (bF e)
variable{r:bh->ah}{q:aR}{T:aD}{v:ah}{c:List ah}{s:List UInt8}
theorem Bv:au.underlying 299=aa (.pointer 301):=by kernel_rfl
theorem Gc:au.underlying 325=aa .unsafePointer:=by kernel_rfl
theorem acV:cd au 301=aa 2:=by kernel_rfl
theorem adJ{x:bh}(p:q.op = .convert 299 325 x){h:aw}{k:Nat}{a b:ah}{m:Bool}(g:r x=pA k)(o:h.get k=aa (.cells [a,b] 301 0 m)):fM au mI r q h=aa (pA k,.no):=by
 obtain⟨f,t,i,e,d,c⟩:=q;subst p;unfold fM;have l:eW au r ⟨f,.convert 299 325 x,i,e,d,c⟩=none:=by
  show lL au 299 325 (r x)=none;rw[g];unfold lL;rw[Bv,Gc]
 have n:eB au r ⟨f,.convert 299 325 x,i,e,d,c⟩ h=none:=by
  unfold eB;dsimp only;rw[Bv,Gc,g]
 have j:dz au r ⟨f,.convert 299 325 x,i,e,d,c⟩=none:=by
  unfold dz;dsimp only;rw[Bv,Gc,g]
 rw[l];dsimp only;rw[n];dsimp only;rw[j];dsimp only;unfold gM;dsimp only;rw[Bv,Gc,g];show(match h.get k with|some (.cells cs s 0 _)=>if 301=s/\cd au 301=aa cs.length/\0<cs.length then aa (aT (aa ⟨k,0,none⟩),dJ.no)else none|_=>none)=_;rw[o];show(if 301=301/\cd au 301=aa [a,b].length/\0<[a,b].length then aa (aT (aa ⟨k,0,none⟩),dJ.no)else none)=_;rw[iP ⟨rfl,acV,by simp⟩]
theorem Ws{x:bh}(p:q.op = .convert 325 299 x){h:aw}{k:Nat}{a b:ah}{m:Bool}(g:r x=pA k)(o:h.get k=aa (.cells [a,b] 301 0 m)):fM au mI r q h=aa (pA k,.no):=by
 obtain⟨f,t,i,e,d,c⟩:=q;subst p;unfold fM;have l:eW au r ⟨f,.convert 325 299 x,i,e,d,c⟩=none:=by
  show lL au 325 299 (r x)=none;rw[g];unfold lL;rw[Bv,Gc]
 have n:eB au r ⟨f,.convert 325 299 x,i,e,d,c⟩ h=none:=by
  unfold eB;dsimp only;rw[Bv,Gc,g]
 have j:dz au r ⟨f,.convert 325 299 x,i,e,d,c⟩=none:=by
  unfold dz;dsimp only;rw[Bv,Gc,g]
 rw[l];dsimp only;rw[n];dsimp only;rw[j];dsimp only;unfold gM;dsimp only;rw[Bv,Gc,g];show(match h.get k with|some (.cells cs s 0 _)=>if 301=s/\cd au 301=aa cs.length/\0<cs.length then aa (aT (aa ⟨k,0,none⟩),dJ.no)else none|_=>none)=_;rw[o];show(if 301=301/\cd au 301=aa [a,b].length/\0<[a,b].length then aa (aT (aa ⟨k,0,none⟩),dJ.no)else none)=_;rw[iP ⟨rfl,acV,by simp⟩]
def self(k:Nat):ah:= pA k
theorem ahk(k:Nat):bB au 301 (pA k) 0=aa (pA k):=by kernel_rfl
theorem ad9(k:Nat):bB au 301 (pA k) 1=aa (cn k 1):=by kernel_rfl
theorem ld0{a b:ah}{c:Bool}(d:h.get k=aa (.cells [a,b] 301 0 c)):aM au 299 h (pA k)=aa a:=by
 unfold aM;rw[Bv];dsimp only;rw[d];dsimp only;rw[show Go.Ab.isAgg au 299=ak by kernel_rfl];rfl
theorem ld1{a b:ah}{c:Bool}(d:h.get k=aa (.cells [a,b] 301 0 c)):aM au 183 h (cn k 1)=aa b:=by
 unfold aM;rw[FX];dsimp only;rw[d];dsimp only;rw[show Go.Ab.isAgg au 183=ak by kernel_rfl];rfl
theorem st0{a b x:ah}(d:h.get k=aa (.cells [a,b] 301 0 af))(c:eY x=af)(e:x.cells = #[x]):aQ au 299 (pA k) x h=aa (undef,.set k (.cells [x,b] 301 0 af)):=by
 show(if cd au 299=aa x.cells.size then(storeAt h k 0 x.cells.toList).map λu=>(undef,u)else none)=_;rw[e,show cd au 299=aa 1 by kernel_rfl,iP (show aa 1=aa #[x].size from rfl)];unfold storeAt;rw[d];dsimp only;rw[iP ⟨by simp,by simp[c]⟩];rfl
theorem st1{a b x:ah}(d:h.get k=aa (.cells [a,b] 301 0 af))(c:eY x=af)(e:x.cells = #[x]):aQ au 183 (cn k 1) x h=aa (undef,.set k (.cells [a,x] 301 0 af)):=by
 show(if cd au 183=aa x.cells.size then(storeAt h k 1 x.cells.toList).map λu=>(undef,u)else none)=_;rw[e,show cd au 183=aa 1 by kernel_rfl,iP (show aa 1=aa #[x].size from rfl)];unfold storeAt;rw[d];dsimp only;rw[iP ⟨by simp,by simp[c]⟩];rfl
theorem ML{a b:ah}(c:h.get k=aa (.cells [a,b] 301 0 af))(f:a=aT none\/a=self k):
  aW 285 [self k] h (λv d=>v=av ⟨[]⟩/\d.get k=aa (.cells [self k,b] 301 0 af)/\(∀j,j≠k->d.get j=h.get j)/\d.ax=h.ax):=by
 refine J7 ⟨k,0,none⟩ h _ ⟨_,ahk k,?_⟩;rcases f with rfl|rfl
 ·refine⟨_,ld0 c,af,by kernel_rfl,?_⟩;refine ay (λ_=>?_) (λg=>by cases g);refine⟨_,_,adJ (k:=k) (x:= .tmp 8) (by kernel_rfl) (by kernel_rfl) c,Ao (p:=rL) (v:=self k) (by kernel_rfl) (by kernel_rfl) (λ_=>rfl) ⟨_,rfl,_,_,Ws (k:=k) (x:= .tmp 10) (by kernel_rfl) (by kernel_rfl) c,_,ahk k,_,st0 c rfl rfl,rfl,?_,?_,rfl⟩⟩
  ·show(h.set k _).get k=_;rw[aw.bZ,iP rfl];rfl
  ·intro j i;show(h.set k _).get j=_;rw[aw.bZ,iN i]
 ·refine⟨_,ld0 c,ak,by kernel_rfl,?_⟩;refine ay (λg=>by cases g) (λ_=>?_);have e:cm au .neq 299 (self k) (self k)=aa (ai ak):=by
   show((wQ au 299 (pA k) (pA k)).map λb=>ai !b)=_;unfold wQ;dsimp only;rw[Bv];dsimp only;rw[iP ⟨rfl,by rw[acV];rfl⟩];rfl
  refine⟨_,ahk k,_,ld0 c,ak,e,ay (λg=>by cases g) (λ_=>⟨rfl,c,λ_ _=>rfl,rfl⟩)⟩
def Bd(b h:aw)(k:Nat)(l:List UInt8):Prop:=∃a v,h.get k=aa (.cells [a,v] 301 0 af)/\(a=aT none\/a=self k)/\RV b h 5 v (l.map ys)/\b.ax<=k
theorem rw5:gF au 5=aa ((au.info? 5).getD default):=by kernel_rfl
theorem alh:((au.info? 5).getD default).size=1:=by kernel_rfl
theorem alg:((au.info? 5).getD default).bytes=1:=by kernel_rfl
theorem tl9:fD au 9=af:=by kernel_rfl
theorem ah8(h:aw)(l:List UInt8):ig h 1 (strOf l)=aa (l.map ys,(l.map ys).length):=by
 show(if 1=1 then aa (l.map (λb=>aB aK b.toNat),l.length)else none)=_;rw[iP rfl,aG];rfl
theorem UH:∀l:List UInt8,(l.map ys).all eY=af
 |[]=>rfl
 |c::l=>by rw[List.map_cons,fR,UH l];rfl
theorem NJ{i:aw}(o:RV g h T v c)(f:∀j B,h.get j=aa B->(∃cs d,B = .cells cs T 1 d)->i.get j=aa B):RV g i T v c:=by
 rcases o with o|⟨k,b,e,a⟩
 ·exact .inl o
 ·exact .inr ⟨k,b,e,f _ _ a ⟨_,_,rfl⟩⟩
theorem Eu{l:List UInt8}(u:Wf g)(q:Ok g h)(b:Bd g h k l)(T:l.length+s.length<=1000000):
  aW 263 [self k,strOf s] h (λv G=>v=av ⟨[aA (s.length:Int),.nilIface]⟩/\Ok g G/\Bd g G k (l++s)):=by
 obtain⟨a,v,y,R,o,D⟩:=b;refine V9 ⟨k,0,none⟩ s h _ ((ML y R).mono ?_);rintro _ C ⟨rfl,A,z,F⟩;have H:Ok g C:=by
  refine⟨λj B d=>?_,λj B d=>?_,by rw[F];exact q.nx⟩
  ·rw[F];by_cases e:j=k
   ·rw[e];exact q.wf _ _ y
   ·rw[z j e]at d;exact q.wf _ _ d
  ·have:=u _ _ d;rw[z j (by omega)];exact q.ext _ _ d
 have t:RV g C 5 v (l.map ys):=NJ o λj B d x=>by
  obtain⟨cs,P,rfl⟩:=x;by_cases e:j=k
  ·subst e;rw[y]at d;injection d with d;injection d;omega
  ·rw[z j e];exact d
 have M:∃a n c,v=ae a n c:=by
  rcases t with⟨rfl,_⟩|⟨_,rfl,_⟩<;>exact⟨_,_,_,rfl⟩
 obtain⟨Q,L,S,rfl⟩:=M;obtain⟨I,K,E,f,N,J,r,w⟩:=t.Ep FX rw5 alh tl9 u H (ah8 C s) (UH s) (by rw[alg,aG,aG];omega) (by rw[aG,aG];omega);have m:(f.app C).get k=aa (.cells [self k,ae Q L S] 301 0 af):=w k _ A (by
  intro o n c e;rcases t with⟨i,_⟩|⟨O,i,_,p⟩
  ·rw[i]at e;cases e
  ·rw[i]at e;injection e with e
   injection e with e
   injection e with e
   subst e;rw[A]at p;injection p with p;injection p;omega)
 refine⟨rfl,_,ad9 k,_,_,_,ld1 A,I,K,E,f,N,_,ad9 k,_,st1 m ?_ ?_,rfl,?_,?_⟩
 ·rcases J with⟨i,_⟩|⟨O,i,_,p⟩<;>rw[i]<;>rfl
 ·rfl
 ·exact r.set _ D (r.wf _ _ m) u
 ·refine⟨self k,ae I K E,?_,.inr rfl,?_,D⟩
  ·show((f.app C).set k _).get k=_;rw[aw.bZ,iP rfl]
  ·rw[bU];refine NJ J λj B d x=>?_;obtain⟨cs,P,rfl⟩:=x;show((f.app C).set k _).get j=_;rw[aw.bZ,iN]
   ·exact d
   intro e;subst e;rw[m]at d;injection d with d;injection d;omega
theorem aj0{x:bh}{ts:Array aD}(f:q.op = .call ⟨.builtin .unsafeSliceData,#[x],ts⟩){h:aw}{a:aF}{n c:Nat}(e:r x=ae (aa a) n c)(g:0<dk c):fM au mI r q h=aa (bN a,.no):=by
 obtain⟨j,l,k,i,d,b⟩:=q;subst f;show(match [x].map r with
  |[ae none _ _]=>aa (aT none,dJ.no)
  |[ae (aa a) _ c]=>if 0<dk c then aa (aT (aa a),dJ.no)else none
  |_=>none)=_
 rw[List.map_cons,List.map_nil,e];show(if 0<dk c then aa (aT (aa a),dJ.no)else none)=_;rw[iP g]
theorem akm:au.underlying 318=aa (.pointer 5):=by kernel_rfl
theorem afr{x y:bh}{t2:aD}(g:q.op = .call ⟨.builtin .unsafeString,#[x,y],#[318,t2]⟩){h:aw}{k:Nat}{l:List UInt8}(d:r x=pA k)(o:r y=aA (l.length:Int))(f:h.get k=aa (.cells (l.map ys) 5 1 af))(j:l≠[])(u:l.length<9223372036854775807):fM au mI r q h=aa (strOf l,.set k (.cells (l.map ys) 5 1 ak)):=by
 obtain⟨s,v,t,p,c,b⟩:=q;subst g;show(match [x,y].map r,(#[318,t2]:Array aD)[0]? with
  |[aT none,aB _ 0],aa _=>aa (strOf [],dJ.no)
  | [aT (aa ⟨k,i,none⟩),aB _ n],aa m=>(match h.get k,au.underlying m with
   | some (.cells cs e 1 af),aa (.pointer a)=>
    if e=a/\cd au e=aa 1/\0<n/\n<9223372036854775807/\((cs.drop i).take n.toNat).length=n.toNat then
     (match bytesOf ((cs.drop i).take n.toNat)with
     |some l=>aa (strOf l,dJ.set k (.cells cs e 1 ak))
     |none=>none)
    else none
   |_,_=>none)
  |_,_=>none)=_
 rw[List.map_cons,List.map_cons,List.map_nil,d,o];show(match h.get k,au.underlying 318 with
   | some (.cells cs e 1 af),aa (.pointer a)=>
    if e=a/\cd au e=aa 1/\0<(l.length:Int)/\(l.length:Int)<9223372036854775807/\((cs.drop 0).take (l.length:Int).toNat).length=(l.length:Int).toNat then
     (match bytesOf ((cs.drop 0).take (l.length:Int).toNat)with
     |some l=>aa (strOf l,dJ.set k (.cells cs e 1 ak))
     |none=>none)
    else none
   |_,_=>none)=_
 rw[f,akm];have w:=fL.2 j;show(if 5=5/\cd au 5=aa 1/\0<(l.length:Int)/\(l.length:Int)<9223372036854775807/\(((l.map ys).drop 0).take (l.length:Int).toNat).length=(l.length:Int).toNat then
     (match bytesOf (((l.map ys).drop 0).take (l.length:Int).toNat)with
     |some l'=>aa (strOf l',dJ.set k (.cells (l.map ys) 5 1 ak))
     |none=>none)
    else none)=_
 rw[bn,bV,bm (by simp),iP ⟨rfl,zz5,by omega,by omega,by simp⟩,uT]
theorem R0{l:List UInt8}(m:Wf g)(j:Ok g h)(b:Bd g h k l)(e:l≠[])(z:l.length<=1000000):
  aW 265 [self k] h (λv r=>v=strOf l/\Ok g r):=by
 obtain⟨a,v,s,A,o,w⟩:=b;rcases o with⟨_,p⟩|⟨f,rfl,q,i⟩
 ·exact absurd (List.map_eq_nil_iff.1 p) e
 have d:(room h 12).get k=_:=s;have t:=fL.2 e;have u:dk (ft+(l.map ys).length)=l.length:=by unfold dk;rw[iP (by omega),aG];omega
 rw[aG]at*;refine RZ ⟨k,0,none⟩ h _ ⟨_,ad9 k,_,_,_,ld1 d,_,_,aj0 (x:= .tmp 6) (ts:= #[183]) (a:=⟨f,0,none⟩) (n:=l.length) (c:=ft+l.length) (by kernel_rfl) (by kernel_rfl) (by rw[u];exact t),_,ad9 k,_,_,_,ld1 d,_,_,afr (x:= .tmp 7) (y:= .tmp 12) (k:=f) (l:=l) (t2:=3) (by kernel_rfl) (by kernel_rfl) (by kernel_rfl) i e (by omega),⟨ld1 d,by simp[iz]⟩,⟨rfl,by simp[iz]⟩,rfl,?_⟩;exact(j.room 12).set _ q ((j.room 12).wf _ _ i) m
theorem ak3(m:Nat)(h:aw):dS au SS.gl SS.pr (m+8) 264 [strOf [48],aA 0] h=aa (strOf [],h):=by kernel_rfl
theorem ak4(m:Nat)(h:aw):dS au SS.gl SS.pr (m+8) 264 [strOf [48],aA 1] h=aa (strOf [48],h):=by kernel_rfl
theorem ak5(m:Nat)(h:aw):dS au SS.gl SS.pr (m+8) 264 [strOf [48],aA 2] h=aa (strOf [48,48],h):=by kernel_rfl
theorem ak6(m:Nat)(h:aw):dS au SS.gl SS.pr (m+8) 264 [strOf [48],aA 3] h=aa (strOf [48,48,48],h):=by kernel_rfl
theorem ak7(m:Nat)(h:aw):dS au SS.gl SS.pr (m+8) 264 [strOf [48],aA 4] h=aa (strOf [48,48,48,48],h):=by kernel_rfl
theorem ak8(m:Nat)(h:aw):dS au SS.gl SS.pr (m+8) 264 [strOf [48],aA 5] h=aa (strOf [48,48,48,48,48],h):=by kernel_rfl
theorem ak9(m:Nat)(h:aw):dS au SS.gl SS.pr (m+8) 264 [strOf [48],aA 6] h=aa (strOf [48,48,48,48,48,48],h):=by kernel_rfl
theorem ala(m:Nat)(h:aw):dS au SS.gl SS.pr (m+8) 264 [strOf [48],aA 7] h=aa (strOf [48,48,48,48,48,48,48],h):=by kernel_rfl
theorem alb(m:Nat)(h:aw):dS au SS.gl SS.pr (m+8) 264 [strOf [48],aA 8] h=aa (strOf [48,48,48,48,48,48,48,48],h):=by kernel_rfl
theorem Yz(d:n<=8)(h:aw):aW 264 [strOf [48],aA (n:Int)] h (λv b=>v=strOf (aH n 48)/\b=h):=by
 have a:∀(z:Int)(l:List UInt8),(∀m,dS au SS.gl SS.pr (m+8) 264 [strOf [48],aA z] h=aa (strOf l,h))->aW 264 [strOf [48],aA z] h (λv b=>v=strOf l/\b=h):=λz l c=>
  ⟨_,_,⟨8,λN e=>by obtain⟨m,rfl⟩:∃m,N=m+8:=⟨N-8,by omega⟩;exact c m⟩,rfl,rfl⟩
 have:n=0\/n=1\/n=2\/n=3\/n=4\/n=5\/n=6\/n=7\/n=8:=by omega
 rcases this with rfl|rfl|rfl|rfl|rfl|rfl|rfl|rfl|rfl
 ·exact a 0 _ λm=>ak3 m h
 ·exact a 1 _ λm=>ak4 m h
 ·exact a 2 _ λm=>ak5 m h
 ·exact a 3 _ λm=>ak6 m h
 ·exact a 4 _ λm=>ak7 m h
 ·exact a 5 _ λm=>ak8 m h
 ·exact a 6 _ λm=>ak9 m h
 ·exact a 7 _ λm=>ala m h
 ·exact a 8 _ λm=>alb m h
noncomputable def vU:FD:=gT Tryz.f239 [((pq 151),[0,3,10,11])]
abbrev sZ(a:OA)(n c:Nat)(p:aF)(b:Int)(i:Nat):LV:=[(ae a n c),(bN p),(aA b),(iA i)]
theorem SR(a:OA)(n c:Nat)(h:aw)(Q:VH)(d:cp (((n:Int)==0)) (Q (strOf [48]) h) (xN (cD au 301) h λe b=>cq vU (pq 151) [(ae a n c),(pA (h.ax)),(iA n),(aA 0)] b (ez vU (pq 87) Q))):aW 239 [(ae a n c)] h Q:=gZ vU Tryz.func239 (bF d)
theorem BV(a:OA)(n c:Nat)(p:aF)(b:Int)(e:Nat->Nat->aw->Prop)(Q:VH)(step:∀(d:Nat) (i:Nat) (w:Nat->ah) (h:aw),e d i h->(λ(r:aw->Prop)=>cp (decide ((i:Int)<b)) (qX (xI az) 260 (ae a n c) (aA (aj an (aj an ((n:Int)-1)-(i:Int)))) 240 h λI=>aW 262 [(bD I),(aA 10)] h λH A=>yS H λf=>cp (decide ((i:Int)>0)) (aW 264 [(strOf [48]),(aA (aj an (9-(f.length:Int))))] A λE F=>yS E λt=>aW 263 [(bN p),(strOf t)] F λm v=>∃o:Int,∃k:ah,m=(av ⟨[(aA o),k]⟩)/\aW 263 [(bN p),(strOf f)] v λj s=>∃B:Int,∃l:ah,j=(av ⟨[(aA B),l]⟩)/\r s) (aW 263 [(bN p),(strOf f)] A λz D=>∃y:Int,∃C:ah,z=(av ⟨[(aA y),C]⟩)/\r D)) (aW 265 [(bN p)] h λu q=>yS u λx=>Q (strOf x) q)) (λG=>cB (mw (sZ a n c p b) e) d [(ae a n c),(bN p),(aA b),(aA (aj an ((i:Int)+1)))] G))(d:Nat){i:Nat}{h:aw}(g:e d i h):cq vU (pq 151) (sZ a n c p b i) h (ez vU (pq 87) Q):=
 gP (sZ a n c p b) e (λd i w h g=>bF (step d i w h g)) d g
noncomputable def zq:FD:=gT Tryz.f204 [((pq 71),[6,7])]
abbrev qJ  (a:OA) (n c:Nat) (b:OA) (k d:Nat):LV:=[(ae a n c),(ae b k d)]
theorem Xs(l m:LB)(h:aw)(Q:VH)(s:aW 203 [(strOf l)] h λt e=>yB t λp=>cp (!p) (Q (av ⟨[(strOf []),(aA 1)]⟩) e) (aW 203 [(strOf m)] e λo j=>yB o λq=>cp (!q) (Q (av ⟨[(strOf []),(aA 1)]⟩) j) (aW 208 [(strOf l)] j λk r=>yL k λn d i=>aW 208 [(strOf m)] r λa g=>yL a λb c f=>cq zq (pq 71) (qJ n d i b c f) g (ez zq (pq 39) Q)))):aW 204 [(strOf l),(strOf m)] h Q:=gZ zq Tryz.func204 (bF s)
theorem Dq(l m:LB)  (f:Nat->OA->Nat->Nat->OA->Nat->Nat->aw->Prop) (Q:VH) (step:∀(e:Nat)(a:OA)(n c:Nat)(b:OA)(k d:Nat)(t:Nat->ah)(h:aw),f e a n c b k d h->cp (decide ((k:Int)>0)) (aW 238 [(ae a n c),(ae b k d)] h λx r=>∃(v:OA)(w p:Nat),∃(g:OA)(i j:Nat),x=(av ⟨[(ae v w p),(ae g i j)]⟩)/\cB (LA6 qJ f) e [(ae b k d),(ae g i j)] r) (aW 239 [(ae a n c)] h λs u=>yS s λq=>Q (av ⟨[(strOf q),(aA 0)]⟩) u)) (e:Nat) {a:OA} {n c:Nat} {b:OA} {k d:Nat} {h:aw} (o:f e a n c b k d h):cq zq (pq 71) (qJ  a n c b k d) h (ez zq (pq 39) Q):=
 agu qJ f (λe a n c b k d t h o=>bF (step e a n c b k d t h o)) e o
noncomputable def aiB:eE:= .cells [aT none,nA] 301 0 af
theorem aiQ:cD au 301=aa (aiB,jL):=by kernel_rfl
theorem aiW{m:aw}{l:List UInt8}(b:Bd g h k l)(o:Ok h m):Bd g m k l:=by
 obtain⟨a,v,d,e,c,f⟩:=b;exact⟨a,v,o.ext _ _ d,e,NJ c λj B i _=>o.ext _ _ i,f⟩
theorem BU{c:Nat}(A:Rd h 240 (ae a n c) (bl m))(S:(cT BB m).length<=10000)(t:BG h)(w:Wf h):
  aW 239 [ae a n c] h (λv D=>v=strOf (bp m)/\Ok h D):=by
 have y:n=(cT BB m).length:=by have:=A.len;rwa[aG]at this
 refine SR a n c h _ (ay (λg=>?_) (λg=>?_))
 ·have g:(n:Int)=0:=by simpa using g
  have Y:(cT BB m).length=0:=by omega
  have:m=0:=by have:=(mC lE).1 (aY Y);omega
  subst this;refine⟨?_,Ok.refl w⟩;rw[hE (by omega)];rfl
 ·have g:¬(n:Int)=0:=by simpa using g
  have W:0<m:=by
   rcases dB m with h|h
   ·subst h;rw[(mC lE).2 rfl]at y;simp at y;omega
   ·exact h
  have F:=KQ lE W;have I:=gh lE m;have M:=fb lE m;have A:Rd h 240 (ae a n c) ((cT BB m).map uv):=A;generalize hx:cT BB m=x at*;have L:=BV a n c ⟨h.ax,0,none⟩ (n:Int) (λK i g=>i<=n/\K=n-i/\Ok h g/\∃l,Bd h g h.ax l/\l.length<=9*i/\(i=0->l=[])/\(0<i->0<Num.bv BB (x.drop (n-i))/\l=bp (Num.bv BB (x.drop (n-i))))) (λv D=>v=strOf (bp m)/\Ok h D) (by
   intro K i;intros;rename_i g X;obtain⟨h1,rfl,s,l,O,x2,Z,Q⟩:=X;refine ay (λq=>?_) (λq=>?_)
   ·have q:=dT q;have T:aj an (aj an ((n:Int)-1)-(i:Int))=((n-1-i:Nat):Int):=by
     rw[cj (n:=(n:Int)-1) (by omega) (by omega),cj (by omega) (by omega)];omega
    obtain⟨p,e2,P⟩:=K2 (A.ok s) (i:=((n-1-i:Nat):Int)) (by omega) (by rw[<-y];omega);rw[T];rw[bn]at P;have R:x.getD (n-1-i) 0<BB:=cW (by decide) I _;have f:Num.bv BB (x.drop (n-1-i))=x.getD (n-1-i) 0+BB*Num.bv BB (x.drop (n-i)):=by
     rw[kN,show n-1-i+1=n-i by omega]
    have e5:aj an ((i:Int)+1)=((i+1:Nat):Int):=by rw[cj (by omega) (by omega)];omega
    rw[e5];have u:i=0->0<x.getD (n-1-i) 0:=λe=>by subst e;rw[y];exact F
    generalize x.getD (n-1-i) 0=b at*;have o:b<1000000000:=R;have x1:=J1 o;refine⟨p,e2,_,P,(Sw o (t.ok s) s.wf).mono ?_⟩;rintro _ h5 ⟨rfl,j⟩;have C:=aiW O j;have j:=s.trans j;refine⟨_,rfl,ay (λr=>?_) (λr=>?_)⟩
    ·have r:=dT r;obtain⟨H,z⟩:=Q (by omega);have V:aj an (9-((bp b).length:Int))=((9-(bp b).length:Nat):Int):=by rw[cj (by omega) (by omega)];omega
     rw[V];have U:=sX b;refine(Yz (by omega) h5).mono ?_;rintro _ h8 ⟨rfl,rfl⟩;refine⟨_,rfl,(Eu w j C (by rw[bE];omega)).mono ?_⟩;rintro _ x0 ⟨rfl,E,G⟩;refine⟨_,_,rfl,(Eu w E G (by rw[bg,bE];omega)).mono ?_⟩;rintro _ B ⟨rfl,d,k⟩;refine⟨_,_,rfl,fG (n-(i+1)) (by omega) ⟨by omega,rfl,d,_,k,?_,λh=>by omega,λ_=>?_⟩⟩
     ·rw[bg,bg,bE];omega
     ·rw[show n-(i+1)=n-1-i by omega,f];refine⟨Nat.add_pos_right _ (mul_pos (by decide) H),?_⟩;have:=J0 H o;rw[z];exact this.symm
    ·have r:=dF r;obtain rfl:i=0:=by omega
     obtain rfl:=Z rfl;refine(Eu w j C (by rw[List.length_nil];omega)).mono ?_;rintro _ B ⟨rfl,d,k⟩;refine⟨_,_,rfl,fG (n-1) (by omega) ⟨by omega,rfl,d,_,k,?_,λh=>by omega,λ_=>?_⟩⟩
     ·rw[dq];omega
     ·have N:Num.bv BB (x.drop n)=0:=by rw[hW (by omega)];rfl
      rw[show n-1-0=n-1 by omega,show n-0=n by omega,N,iD,fh]at f;rw[bO,f,dq];refine⟨?_,rfl⟩;exact u rfl
   ·have q:=dF q;obtain rfl:i=n:=by omega
    obtain⟨H,z⟩:=Q (by omega);rw[Nat.sub_self,bV,M]at z;subst z;refine(R0 w s O (BD m) (by omega)).mono ?_;rintro _ B ⟨rfl,d⟩;exact⟨_,rfl,rfl,d⟩)
  have J:=(Ok.refl w).push aiB;refine⟨_,aiQ,L n (i:=0) ⟨by omega,rfl,J,[],⟨_,_,?_,.inl rfl,.inl ⟨rfl,rfl⟩,aS _⟩,by simp,λ_=>rfl,λh=>by omega⟩⟩;rw[aw.cZ,iP rfl];rfl
theorem ahJ(h:k<=9*m):10^k<=BB^m:=by
 show 10^k<=(10^9)^m;rw[<-Nat.pow_mul];exact dG (by decide) h
theorem vo(h:n<10^1000):(cT BB n).length<=112:=by
 refine qn lE (cz h (ahJ (k:=1000) (m:=112) (by decide)))
def M7(h:aw)(X Y:Nat)(e:Nat)(a:Option aF)(n c:Nat)(b:Option aF)(k d:Nat)(g:aw):Prop:=∃p:Nat,Rd g 240 (ae a n c) (bl p)/\Rd g 240 (ae b k d) (bl e)/\(cT BB p).length<=112/\(cT BB e).length<=112/\Nat.gcd p e=Nat.gcd X Y/\Ok h g
theorem aap{c:Nat}{b:Option aF}(t:BG h)(N:M7 h n m i a j c b k l g){K:Nat->Option aF->Nat->Nat->Option aF->Nat->Nat->aw->Prop}{Q:VH}
  (J:∀(u:Option aF)(r s:Nat)(f:Option aF)(d q x:Nat)(g:aw),x<i->M7 h n m x b k l f d q g->K x u r s f d q g):
  (0<k->aW 238 [ae a j c,ae b k l] g (λv C=>∃(u:Option aF)(r s:Nat)(f:Option aF)(d q x:Nat),v=av ⟨[ae u r s,ae f d q]⟩/\K x u r s f d q C))/\
  (k=0->aW 239 [ae a j c] g (λv C=>v=strOf (bp (Nat.gcd n m))/\Ok h C)):=by
 obtain⟨p,G,A,F,B,E,w⟩:=N;have D:k=(cT BB i).length:=by have:=A.len;rwa[aG]at this
 constructor
 ·intro y;have o:0<i:=by
   rcases dB i with e|e
   ·subst e;rw[(mC lE).2 rfl]at D;simp at D;omega
   ·exact e
  refine(Ns G A o (bK F (by omega)) (bK B (by omega)) w.wf).mono ?_;rintro _ I ⟨u,r,s,f,d,q,rfl,O,L,z⟩;refine⟨u,r,s,f,d,q,p%i,rfl,J u r s f d q (p%i) I (dP _ o) ⟨i,A.ok z,L,B,?_,?_,w.trans z⟩⟩
  ·exact bK (Nat.le_of_not_lt λh=>by have M:=qo lE h;have y:=dP p o;exact absurd M (Nat.not_lt.2 (le_of_lt y))) B
  ·rw[<-E,Nat.gcd_comm i,<-Nat.gcd_rec,Nat.gcd_comm]
 ·intro y;have o:i=0:=(mC lE).1 (aY (by rw[<-D,y]));subst o;rw[Nat.gcd_zero_right]at E;subst E;refine(BU G (bK F (by omega)) (t.ok w) w.wf).mono ?_;rintro _ P ⟨rfl,H⟩;exact⟨rfl,w.trans H⟩
theorem Xt(a b:List UInt8){h:aw}(t:BG h)(w:Wf h):aW 204 [strOf a,strOf b] h (λv u=>v=Gu a b/\Ok h u):=by
 refine Xs a b h _ ((iT a h).mono ?_);rintro _ A ⟨rfl,y⟩;obtain rfl:h=A:=y.symm;refine⟨_,rfl,ay (λg=>?_) (λg=>?_)⟩
 ·have g:Num.valid a=ak:=by simpa using g
  refine⟨?_,Ok.refl w⟩;unfold Gu;rw[iN (λe=>by rw[e.1]at g;cases g)];rfl
 have g:Num.valid a=af:=by simpa using g
 refine(iT b h).mono ?_;rintro _ A ⟨rfl,y⟩;obtain rfl:h=A:=y.symm;refine⟨_,rfl,ay (λf=>?_) (λf=>?_)⟩
 ·have f:Num.valid b=ak:=by simpa using f
  refine⟨?_,Ok.refl w⟩;unfold Gu;rw[iN (λe=>by rw[e.2]at f;cases f)];rfl
 have f:Num.valid b=af:=by simpa using f
 obtain⟨X,U,D,F⟩:=hH g;obtain⟨Y,V,C,I⟩:=hH f;have H:=(mj.1 g)
 have J:=(mj.1 f)
 have T:=vo D;have O:=vo C;clear D C;refine(wZ a H.1.2.1 (bK H.2 (by omega)) h w).mono ?_;rintro _ s ⟨z,r,x,rfl,B,p⟩;refine⟨_,_,_,rfl,(wZ b J.1.2.1 (bK J.2 (by omega)) s p.wf).mono ?_⟩;rintro _ i ⟨m,l,o,rfl,E,q⟩;refine⟨_,_,_,rfl,?_⟩;have R:Gu a b=JR (bp (Nat.gcd X Y)) 0:=by unfold Gu;rw[iP ⟨g,f⟩,F,I]
 rw[R];rw[F]at B;rw[I]at E;refine Dq a b (M7 h X Y) (λv u=>v=JR (bp (Nat.gcd X Y)) 0/\Ok h u) (λL a n c b k d=>?_) Y ⟨X,B.rd.ok q,E.rd,T,O,rfl,p.trans q⟩;intros;rename_i g P;have S:=aap t P (K:=λj z r x m l o g=>j<L/\M7 h X Y j b k d m l o g) (λz r x m l o j g s i=>⟨s,i⟩) (Q:=λ_ _=>True);refine ay (λi=>?_) (λi=>?_)
 ·have i:=dT i;refine(S.1 (by omega)).mono ?_;rintro _ W ⟨z,r,x,m,l,o,j,rfl,M,N⟩;exact⟨_,_,_,_,_,_,rfl,agc j M N⟩
 ·have i:=dF i;refine(S.2 (by omega)).mono ?_;rintro _ Z ⟨rfl,G⟩;exact⟨_,rfl,rfl,G⟩
noncomputable def aeM:FD:=gT Tryz.f267 []
theorem abv(x y z:Int)(h:aw)(Q:VH)(c:xI az (cm au .rem 240 (bD (aj az (aj az (x+y)+z))) (bD 1000000000)) λa=>xI az (cm au .quo 240 (bD (aj az (aj az (x+y)+z))) (bD 1000000000)) λb=>Q (av ⟨[(bD a),(bD b)]⟩) h):aW 267 [(bD x),(bD y),(bD z)] h Q:=gZ aeM Tryz.func267 (bF c)
noncomputable def aa2:FD:=gT Tryz.f269 []
theorem Xh(x y z:Int)(h:aw)(Q:VH)(c:xI az (cm au .rem 240 (bD (aj az (aj az (aj az (x+1000000000)-y)-z))) (bD 1000000000)) λa=>xI az (cm au .quo 240 (bD (aj az (aj az (aj az (x+1000000000)-y)-z))) (bD 1000000000)) λb=>Q (av ⟨[(bD a),(bD (aj az (1-b)))]⟩) h):aW 269 [(bD x),(bD y),(bD z)] h Q:=gZ aa2 Tryz.func269 (bF c)
noncomputable def uj:FD:=gT Tryz.f266 [((pq 151),[0,1,2,7,8,18,19])]
abbrev oS(a:OA)(n c:Nat)(b:OA)(m d:Nat)(e:Int)(i:Nat)(cy:Int)(r:OA)(f g:Nat):LV:=[(ae a n c),(ae b m d),(aN (.func 267) ⟨[]⟩ ⟨[]⟩),(ae r f g),(bD cy),(aA e),(iA i)]
theorem Pn(a:OA)(n c:Nat)(b:OA)(m d:Nat)(h:aw)(Q:VH)(f:xI an (yv af [(iA n),(iA m)]) λe=>cq uj (pq 151) (oS a n c b m d (aj an (e+1)) 0 0 none 0 0) h (ez uj (pq 87) Q)):aW 266 [(ae a n c),(ae b m d),(aN (.func 267) ⟨[]⟩ ⟨[]⟩)] h Q:=gZ uj Tryz.func266 (bF f)
theorem AO(a:OA)(n c:Nat)(b:OA)(m d:Nat)(g:Int)(k:Nat->Nat->Int->OA->Nat->Nat->aw->Prop)(Q:VH)(step:∀(j:Nat) (i:Nat) (cy:Int) (r:OA) (e f:Nat) (zz:Nat->ah) (h:aw),k j i cy r e f h->(λ(l:ah->ah->aw->Prop)=>cp (decide ((i:Int)<g)) (cp (decide ((i:Int)<(n:Int))) (qX (xI az) 260 (ae a n c) (iA i) 240 h λG=>cp (decide ((i:Int)<(m:Int))) (qX (xI az) 260 (ae b m d) (iA i) 240 h λn5=>aW 267 [(bD G),(bD n5),(bD cy)] h λv6 h7=>∃n8:Int,∃H:Int,v6=(av ⟨[(bD n8),(bD H)]⟩)/\xR (bC au 260 1 [(0,(bD n8))]) h7 λy7 V y2 p=>xE (bY au 260 260 (ae r e f) (sA (h7.ax) V y2) p) p λF P X z0 N=>l (ae F P X) (bD H) N) (aW 267 [(bD G),(bD 0),(bD cy)] h λx7 B=>∃t:Int,∃A:Int,x7=(av ⟨[(bD t),(bD A)]⟩)/\xR (bC au 260 1 [(0,(bD t))]) B λz2 U I u=>xE (bY au 260 260 (ae r e f) (sA (B.ax) U I) u) u λy3 x4 x8 z1 x2=>l (ae y3 x4 x8) (bD A) x2)) (cp (decide ((i:Int)<(m:Int))) (qX (xI az) 260 (ae b m d) (iA i) 240 h λO=>aW 267 [(bD 0),(bD O),(bD cy)] h λy1 s=>∃o:Int,∃q:Int,y1=(av ⟨[(bD o),(bD q)]⟩)/\xR (bC au 260 1 [(0,(bD o))]) s λy9 x9 J y=>xE (bY au 260 260 (ae r e f) (sA (s.ax) x9 J) y) y λY y4 W y5 M=>l (ae Y y4 W) (bD q) M) (aW 267 [(bD 0),(bD 0),(bD cy)] h λL z=>∃w:Int,∃x:Int,L=(av ⟨[(bD w),(bD x)]⟩)/\xR (bC au 260 1 [(0,(bD w))]) z λy6 x0 x5 v=>xE (bY au 260 260 (ae r e f) (sA (z.ax) x0 x5) v) v λx6 x3 K y8 S=>l (ae x6 x3 K) (bD x) S))) (aW 210 [(ae r e f)] h λy0 Z=>yL y0 λD T x1=>Q (ae D T x1) Z)) (λE R hz=>cB (Y2 (oS a n c b m d g) k) j [(ae a n c),(ae b m d),(aN (.func 267) ⟨[]⟩ ⟨[]⟩),E,R,(aA g),(aA (aj an ((i:Int)+1)))] hz))(j:Nat){i:Nat}{cy:Int}{r:OA}{e f:Nat}{h:aw}(C:k j i cy r e f h):cq uj (pq 151) (oS a n c b m d g i cy r e f) h (ez uj (pq 87) Q):=
 LP (oS a n c b m d g) k (λj i cy r e f zz h C=>bF (step j i cy r e f zz h C)) j C
noncomputable def sw:FD:=gT Tryz.f266 [((pq 151),[0,1,2,7,8,18,19])]
abbrev nz(a:OA)(n c:Nat)(b:OA)(m d:Nat)(e:Int)(i:Nat)(cy:Int)(r:OA)(f g:Nat):LV:=[(ae a n c),(ae b m d),(aN (.func 269) ⟨[]⟩ ⟨[]⟩),(ae r f g),(bD cy),(aA e),(iA i)]
theorem MO(a:OA)(n c:Nat)(b:OA)(m d:Nat)(h:aw)(Q:VH)(f:xI an (yv af [(iA n),(iA m)]) λe=>cq sw (pq 151) (nz a n c b m d (aj an (e+1)) 0 0 none 0 0) h (ez sw (pq 87) Q)):aW 266 [(ae a n c),(ae b m d),(aN (.func 269) ⟨[]⟩ ⟨[]⟩)] h Q:=gZ sw Tryz.func266 (bF f)
theorem zd(a:OA)(n c:Nat)(b:OA)(m d:Nat)(g:Int)(k:Nat->Nat->Int->OA->Nat->Nat->aw->Prop)(Q:VH)(step:∀(j:Nat) (i:Nat) (cy:Int) (r:OA) (e f:Nat) (zz:Nat->ah) (h:aw),k j i cy r e f h->(λ(l:ah->ah->aw->Prop)=>cp (decide ((i:Int)<g)) (cp (decide ((i:Int)<(n:Int))) (qX (xI az) 260 (ae a n c) (iA i) 240 h λG=>cp (decide ((i:Int)<(m:Int))) (qX (xI az) 260 (ae b m d) (iA i) 240 h λn5=>aW 269 [(bD G),(bD n5),(bD cy)] h λv6 h7=>∃n8:Int,∃H:Int,v6=(av ⟨[(bD n8),(bD H)]⟩)/\xR (bC au 260 1 [(0,(bD n8))]) h7 λy7 V y2 p=>xE (bY au 260 260 (ae r e f) (sA (h7.ax) V y2) p) p λF P X z0 N=>l (ae F P X) (bD H) N) (aW 269 [(bD G),(bD 0),(bD cy)] h λx7 B=>∃t:Int,∃A:Int,x7=(av ⟨[(bD t),(bD A)]⟩)/\xR (bC au 260 1 [(0,(bD t))]) B λz2 U I u=>xE (bY au 260 260 (ae r e f) (sA (B.ax) U I) u) u λy3 x4 x8 z1 x2=>l (ae y3 x4 x8) (bD A) x2)) (cp (decide ((i:Int)<(m:Int))) (qX (xI az) 260 (ae b m d) (iA i) 240 h λO=>aW 269 [(bD 0),(bD O),(bD cy)] h λy1 s=>∃o:Int,∃q:Int,y1=(av ⟨[(bD o),(bD q)]⟩)/\xR (bC au 260 1 [(0,(bD o))]) s λy9 x9 J y=>xE (bY au 260 260 (ae r e f) (sA (s.ax) x9 J) y) y λY y4 W y5 M=>l (ae Y y4 W) (bD q) M) (aW 269 [(bD 0),(bD 0),(bD cy)] h λL z=>∃w:Int,∃x:Int,L=(av ⟨[(bD w),(bD x)]⟩)/\xR (bC au 260 1 [(0,(bD w))]) z λy6 x0 x5 v=>xE (bY au 260 260 (ae r e f) (sA (z.ax) x0 x5) v) v λx6 x3 K y8 S=>l (ae x6 x3 K) (bD x) S))) (aW 210 [(ae r e f)] h λy0 Z=>yL y0 λD T x1=>Q (ae D T x1) Z)) (λE R hz=>cB (Y2 (nz a n c b m d g) k) j [(ae a n c),(ae b m d),(aN (.func 269) ⟨[]⟩ ⟨[]⟩),E,R,(aA g),(aA (aj an ((i:Int)+1)))] hz))(j:Nat){i:Nat}{cy:Int}{r:OA}{e f:Nat}{h:aw}(C:k j i cy r e f h):cq sw (pq 151) (nz a n c b m d g i cy r e f) h (ez sw (pq 87) Q):=
 LP (nz a n c b m d g) k (λj i cy r e f zz h C=>bF (step j i cy r e f zz h C)) j C
noncomputable def Xv:FD:=gT Tryz.f240 []
theorem SP(a:OA)(n c:Nat)(b:OA)(m d:Nat)(h:aw)(Q:VH)(e:aW 266 [(ae a n c),(ae b m d),(aN (.func 267) ⟨[]⟩ ⟨[]⟩)] h λi f=>yL i λg j k=>Q (ae g j k) f):aW 240 [(ae a n c),(ae b m d)] h Q:=gZ Xv Tryz.func240 (bF e)
noncomputable def SO:FD:=gT Tryz.f242 []
theorem Qi(a:OA)(n c:Nat)(b:OA)(m d:Nat)(h:aw)(Q:VH)(e:aW 266 [(ae a n c),(ae b m d),(aN (.func 269) ⟨[]⟩ ⟨[]⟩)] h λi f=>yL i λg j k=>Q (ae g j k) f):aW 242 [(ae a n c),(ae b m d)] h Q:=gZ SO Tryz.func242 (bF e)
noncomputable def Nt:FD:=gT Tryz.f209 []
theorem Km(a:OA)(n c:Nat)(h:aw)(Q:VH)(e:aW 239 [(ae a n c)] h λf b=>yS f λd=>cp (decide ((d.length:Int)>1000)) (Q (av ⟨[(strOf []),(aA 2)]⟩) b) (Q (av ⟨[(strOf d),(aA 0)]⟩) b)):aW 209 [(ae a n c)] h Q:=gZ Nt Tryz.func209 (bF e)
noncomputable def aa8:FD:=gT Tryz.f206 []
theorem Xq(l m:LB)(h:aw)(Q:VH)(v:aW 203 [(strOf l)] h λw g=>yB w λs=>cp (!s) (Q (aA 0) g) (aW 203 [(strOf m)] g λr n=>yB r λt=>cp (!t) (Q (aA 0) n) (aW 208 [(strOf l)] n λp u=>yL p λq d k=>aW 208 [(strOf m)] u λa j=>yL a λb c i=>aW 241 [(ae q d k),(ae b c i)] j λo e=>yI an o λf=>Q (aA f) e))):aW 206 [(strOf l),(strOf m)] h Q:=gZ aa8 Tryz.func206 (bF v)
noncomputable def aa7:FD:=gT Tryz.f205 []
theorem Xo(l m:LB)(h:aw)(Q:VH)(B:aW 203 [(strOf l)] h λC j=>yB C λy=>cp (!y) (Q (av ⟨[(strOf []),(aA 1)]⟩) j) (aW 203 [(strOf m)] j λx s=>yB x λz=>cp (!z) (Q (av ⟨[(strOf []),(aA 1)]⟩) s) (aW 208 [(strOf l)] s λv A=>yL v λw g r=>aW 208 [(strOf m)] A λd o=>yL d λe f k=>aW 240 [(ae w g r),(ae e f k)] o λu i=>yL u λp q c=>aW 209 [(ae p q c)] i λt n=>∃b:LB,∃a:Int,t=(av ⟨[(strOf b),(aA a)]⟩)/\Q (av ⟨[(strOf b),(aA a)]⟩) n))):aW 205 [(strOf l),(strOf m)] h Q:=gZ aa7 Tryz.func205 (bF B)
noncomputable def aa9:FD:=gT Tryz.f207 []
theorem Xw(l m:LB)(h:aw)(Q:VH)(D:aW 203 [(strOf l)] h λE o=>yB E λA=>cp (!A) (Q (av ⟨[(strOf []),(aA 1)]⟩) o) (aW 203 [(strOf m)] o λz w=>yB z λB=>cp (!B) (Q (av ⟨[(strOf []),(aA 1)]⟩) w) (aW 208 [(strOf l)] w λy C=>yL y λi c f=>aW 208 [(strOf m)] C λg v=>yL g λa b e=>aW 241 [(ae i c f),(ae a b e)] v λx d=>yI an x λn=>cp (decide (n<0)) (Q (av ⟨[(strOf []),(aA 4)]⟩) d) (aW 242 [(ae i c f),(ae a b e)] d λs j=>yL s λp q t=>aW 239 [(ae p q t)] j λr u=>yS r λk=>Q (av ⟨[(strOf k),(aA 0)]⟩) u)))):aW 207 [(strOf l),(strOf m)] h Q:=gZ aa9 Tryz.func207 (bF D)
noncomputable def lR:FD:=gT Tryz.f172 [((pq 303),[6,7,8,33,34]),((pq 160559),[6,7,8,9,10,33,34,39,40])]
abbrev lT(a:OA)(n c:Nat)(b:OA)(k d:Nat)(t:OA)(tn tc:Nat)(e:Int)(i:Nat):LV:=[(ae a n c),(ae b k d),(ae t tn tc),(aA e),(iA i)]
abbrev ob(a:OA)(n c:Nat)(b:OA)(k d:Nat)(t:OA)(tn tc:Nat)(f:Int)(i:Nat)(e:Int)(j:Nat)(cy:Int):LV:=[(ae a n c),(ae b k d),(ae t tn tc),(iA i),(bD cy),(aA f),(iA i),(aA e),(iA j)]
theorem Xu(l m:LB)(h:aw)(Q:VH)(v:aW 203 [(strOf l)] h λw g=>yB w λs=>cp (!s) (Q (av ⟨[(strOf []),(aA 1)]⟩) g) (aW 203 [(strOf m)] g λr o=>yB r λt=>cp (!t) (Q (av ⟨[(strOf []),(aA 1)]⟩) o) (aW 208 [(strOf l)] o λp u=>yL p λq a n=>aW 208 [(strOf m)] u λd c=>yL d λe b i=>xR (cK au 260 (aA (aj an (aj an ((a:Int)+(b:Int))+1))) (aA (aj an (aj an ((a:Int)+(b:Int))+1)))) c λx f j k=>cq lR (pq 303) (lT q a n e b i (aa ⟨c.ax,0,none⟩) f j (a:Int) 0) k (ez lR (pq 175) Q)))):aW 172 [(strOf l),(strOf m)] h Q:=gZ lR Tryz.func172 (bF v)
theorem Dr(l m:LB)(a:OA)(n c:Nat)(b:OA)(k d:Nat)(t:OA)(tn tc:Nat)(e:Int)(g:Nat->Nat->aw->Prop)(Q:VH)(step:∀(f:Nat) (i:Nat) (w:Nat->ah) (h:aw),g f i h->cp (decide ((i:Int)<e)) (cq lR (pq 160559) (ob a n c b k d t tn tc e i (aj an ((k:Int)+1)) 0 0) h (fZ lR (pq 371) (pq 303) (RR lR (pq 303) (mw (lT a n c b k d t tn tc e) g) f (ez lR (pq 175) Q)))) (aW 210 [(ae t tn tc)] h λs x=>yL s λy u q=>aW 209 [(ae y u q)] x λv r=>∃o:LB,∃j:Int,v=(av ⟨[(strOf o),(aA j)]⟩)/\Q (av ⟨[(strOf o),(aA j)]⟩) r))(f:Nat){i:Nat}{h:aw}(p:g f i h):cq lR (pq 303) (lT a n c b k d t tn tc e i) h (ez lR (pq 175) Q):=
 gP (lT a n c b k d t tn tc e) g (λf i w h p=>bF (step f i w h p)) f p
theorem Ds(l m:LB)(a:OA)(n c:Nat)(b:OA)(k d:Nat)(t:OA)(tn tc:Nat)(f:Int)(q:Nat->Nat->aw->Prop)(x i:Nat)(e:Int)(o:Nat->Nat->Int->aw->Prop)(Q:VH)(step:∀(g:Nat) (j:Nat) (cy:Int) (A:Nat->ah) (h:aw),o g j cy h->cp (decide ((j:Int)<e)) (qX (xI az) 260 (ae t tn tc) (aA (aj an ((i:Int)+(j:Int)))) 240 h λp=>cp (decide ((j:Int)<(k:Int))) (qX (xI az) 260 (ae a n c) (iA i) 240 (room h 12) λs=>qX (xI az) 260 (ae b k d) (iA j) 240 (room h 12) λr=>xI az (cm au .rem 240 (bD (aj az (aj az (p+cy)+aj az (s*r)))) (bD 1000000000)) λv=>xI az (cm au .quo 240 (bD (aj az (aj az (p+cy)+aj az (s*r)))) (bD 1000000000)) λz=>xP (aZ au 260 (ae t tn tc) (aA (aj an ((i:Int)+(j:Int))))) λE=>xU (aQ au 240 (bN E) (bD v) (room h 12)) (room h 12) λF w=>cB (wz (ob a n c b k d t tn tc f i e) o) g [(ae a n c),(ae b k d),(ae t tn tc),(iA i),(bD z),(aA f),(iA i),(aA e),(aA (aj an ((j:Int)+1)))] w) (xI az (cm au .rem 240 (bD (aj az (p+cy))) (bD 1000000000)) λC=>xI az (cm au .quo 240 (bD (aj az (p+cy))) (bD 1000000000)) λy=>xP (aZ au 260 (ae t tn tc) (aA (aj an ((i:Int)+(j:Int))))) λD=>xU (aQ au 240 (bN D) (bD C) h) h λG B=>cB (wz (ob a n c b k d t tn tc f i e) o) g [(ae a n c),(ae b k d),(ae t tn tc),(iA i),(bD y),(aA f),(iA i),(aA e),(aA (aj an ((j:Int)+1)))] B)) (cB (mw (lT a n c b k d t tn tc f) q) x [(ae a n c),(ae b k d),(ae t tn tc),(aA f),(aA (aj an ((i:Int)+1)))] h))(g:Nat){j:Nat}{cy:Int}{h:aw}(u:o g j cy h):cq lR (pq 160559) (ob a n c b k d t tn tc f i e j cy) h (fZ lR (pq 371) (pq 303) (RR lR (pq 303) (mw (lT a n c b k d t tn tc f) q) x (ez lR (pq 175) Q))):=
 sK (ob a n c b k d t tn tc f i e) o (λg j cy A h u=>bF (step g j cy A h u)) g u
variable{x:List Nat}{y:List Nat}
theorem abw(x y z:Nat)(f:x<BB)(i:y<BB)(g:z<=1)(h:aw):aW 267 [bD (x:Int),bD (y:Int),bD (z:Int)] h (λv c=>v=av ⟨[uv (cP BB x y z).1,uv (cP BB x y z).2]⟩/\c=h):=by
 have e:BB=1000000000:=rfl;have a:aj az ((x:Int)+(y:Int))=((x+y:Nat):Int):=by rw[<-Int.natCast_add];exact jO (by omega) (by omega)
 have d:aj az (((x+y:Nat):Int)+(z:Int))=((x+y+z:Nat):Int):=by rw[<-Int.natCast_add];exact jO (by omega) (by omega)
 refine abv _ _ _ h _ ?_;rw[a,d];refine⟨_,mL (b:=BB) (by omega) (by decide),_,vf (b:=BB) (by omega) (by omega) (by decide),?_,rfl⟩;unfold uv cP;rw[Int.natCast_emod,Int.natCast_ediv]
theorem Xi(x y z:Nat)(j:x<BB)(m:y<BB)(l:z<=1)(h:aw):aW 269 [bD (x:Int),bD (y:Int),bD (z:Int)] h (λv f=>v=av ⟨[uv (ef BB x y z).1,uv (ef BB x y z).2]⟩/\f=h):=by
 have i:BB=1000000000:=rfl;have a:x+BB-y-z<2*BB:=by omega
 have c:aj az ((x:Int)+1000000000)=((x+BB:Nat):Int):=by rw[jO (by omega) (by omega)];omega
 have e:aj az (((x+BB:Nat):Int)-(y:Int))=((x+BB-y:Nat):Int):=by rw[jO (by omega) (by omega)];omega
 have d:aj az (((x+BB-y:Nat):Int)-(z:Int))=((x+BB-y-z:Nat):Int):=by rw[jO (by omega) (by omega)];omega
 refine Xh _ _ _ h _ ?_;rw[c,e,d];refine⟨_,mL (b:=BB) (by omega) (by decide),_,vf (b:=BB) (by omega) (by omega) (by decide),?_,rfl⟩;unfold uv ef;dsimp only;generalize x+BB-y-z=q at*;have k:q/BB<=1:=by
  have:q/BB<2:=eJ (by omega);omega
 have g:aj az (1-(q:Int)/(BB:Int))=((1-q/BB:Nat):Int):=by
  rw[<-Int.natCast_ediv];clear a c e d;generalize q/BB=r at*;rw[jO (by omega) (by omega)];omega
 rw[g,Int.natCast_emod]
theorem aeN{p q c:Nat}(b:p<BB)(a:q<BB)(d:c<=1):(cP BB p q c).2<=1:=by
 show(p+q+c)/BB<=1;have:(p+q+c)/BB<2:=eJ (by omega);omega
theorem aa3{p q c:Nat}(b:p<BB)(a:q<BB)(d:c<=1):(ef BB p q c).2<=1:=(tp lE b a d).2
theorem Po{b:Option aF}{c:Nat}(V:Rd h 240 (ae a n c) (x.map uv))(I:Rd h 240 (ae b m k) (y.map uv))(Q:∀k∈x,k<BB)(hy:∀k∈y,k<BB)(x2:x.length<=10000)(x4:y.length<=10000)(w:Wf h){R:Nat}(fin:gV (dy (cP BB) x y 0 (max x.length y.length+1) 0)=cT BB R):
  aW 266 [ae a n c,ae b m k,aN (.func 267) ⟨[]⟩ ⟨[]⟩] h (nh h 240 (bl R)):=by
 have hn:n=x.length:=by have:=V.len;rwa[aG]at this
 have hm:m=y.length:=by have:=I.len;rwa[aG]at this
 rw[<-hn,<-hm]at fin;have W:∀j,jo (cP BB) x y 0 0 j<=1:=by
  intro j
  induction j with
  |zero=>exact cr _
  |succ j ih=>exact aeN (cW (by decide) Q _) (cW (by decide) hy _) ih
 have x3:n<=max n m/\m<=max n m:=⟨qw _ _,pF _ _⟩
 have x1:max n m<=10000:=max_le.2 ⟨by omega,by omega⟩;have J:(if(m:Int)>(n:Int)then(m:Int)else(n:Int))=((max n m:Nat):Int):=by split<;>omega
 generalize max n m=N at*;have L:=AO a n c b m k ((N:Int)+1) (λz i cy r P S g=>i<=N+1/\z=N+1-i/\cy=(jo (cP BB) x y 0 0 i:Nat)/\iB h g 240 (ae r P S) ((dy (cP BB) x y 0 i 0).map uv)/\Ok h g) (nh h 240 (bl R)) (by
  intro z i cy r P S;intros;rename_i g hi;obtain⟨h1,h2,rfl,A,o⟩:=hi;have O:aj an ((i:Int)+1)=((i+1:Nat):Int):=by rw[cj (by omega) (by omega)];omega
  rw[O];have l:(dy (cP BB) x y 0 i 0).length=i:=jq _ _ _ _ _ _;have e:=mB (cP BB) x y i 0 0;rw[bO]at e;have d:jo (cP BB) x y 0 0 (i+1)=(cP BB (x.getD i 0) (y.getD i 0) (jo (cP BB) x y 0 0 i)).2:=by
   show(cP BB (x.getD (0+i) 0) (y.getD (0+i) 0) _).2=_;rw[bO]
  have X:=W i;have t:=abw (x.getD i 0) (y.getD i 0) (jo (cP BB) x y 0 0 i) (cW (by decide) Q _) (cW (by decide) hy _) X g;refine ay (λD=>?_) (λD=>?_)
  ·have D:=dT D;refine ay (λC=>?_) (λC=>?_)
   ·have C:=dT C;obtain⟨q,M,Z⟩:=K2 (V.ok o) (i:=(i:Int)) (by omega) (by omega);rw[bn]at Z;refine⟨q,M,_,Z,ay (λf=>?_) (λf=>?_)⟩
    ·have f:=dT f;obtain⟨H,E,B⟩:=K2 (I.ok o) (i:=(i:Int)) (by omega) (by omega);rw[bn]at B;refine⟨H,E,_,B,t.mono ?_⟩;rintro _ _ ⟨rfl,rfl⟩;refine⟨_,_,rfl,_,_,_,yh _,?_⟩;obtain⟨b,m,k,u,s,F,p,v⟩:=qZ w o A ((cP BB (x.getD i 0) (y.getD i 0) (jo (cP BB) x y 0 0 i)).1:Nat) (by rw[aG,l];omega);refine⟨b,m,k,u,s,um (z-1) (by omega) ⟨by omega,by omega,by rw[d],?_,v⟩⟩;rw[e,bU];exact p
    ·have f:=dF f;have G:y.getD i 0=0:=by rw[gD,getElem?_eq_none (by omega)];rfl
     rw[G]at t e d;refine t.mono ?_;rintro _ _ ⟨rfl,rfl⟩;refine⟨_,_,rfl,_,_,_,yh _,?_⟩;obtain⟨b,m,k,u,s,F,p,v⟩:=qZ w o A ((cP BB (x.getD i 0) 0 (jo (cP BB) x y 0 0 i)).1:Nat) (by rw[aG,l];omega);refine⟨b,m,k,u,s,um (z-1) (by omega) ⟨by omega,by omega,by rw[d],?_,v⟩⟩;rw[e,bU];exact p
   ·have C:=dF C;have x0:x.getD i 0=0:=by rw[gD,getElem?_eq_none (by omega)];rfl
    rw[x0]at t e d;refine ay (λf=>?_) (λf=>?_)
    ·have f:=dT f;obtain⟨H,E,B⟩:=K2 (I.ok o) (i:=(i:Int)) (by omega) (by omega);rw[bn]at B;refine⟨H,E,_,B,t.mono ?_⟩;rintro _ _ ⟨rfl,rfl⟩;refine⟨_,_,rfl,_,_,_,yh _,?_⟩;obtain⟨b,m,k,u,s,F,p,v⟩:=qZ w o A ((cP BB 0 (y.getD i 0) (jo (cP BB) x y 0 0 i)).1:Nat) (by rw[aG,l];omega);refine⟨b,m,k,u,s,um (z-1) (by omega) ⟨by omega,by omega,by rw[d],?_,v⟩⟩;rw[e,bU];exact p
    ·have f:=dF f;have G:y.getD i 0=0:=by rw[gD,getElem?_eq_none (by omega)];rfl
     rw[G]at t e d;refine t.mono ?_;rintro _ _ ⟨rfl,rfl⟩;refine⟨_,_,rfl,_,_,_,yh _,?_⟩;obtain⟨b,m,k,u,s,F,p,v⟩:=qZ w o A ((cP BB 0 0 (jo (cP BB) x y 0 0 i)).1:Nat) (by rw[aG,l];omega);refine⟨b,m,k,u,s,um (z-1) (by omega) ⟨by omega,by omega,by rw[d],?_,v⟩⟩;rw[e,bU];exact p
  ·have D:=dF D;obtain rfl:i=N+1:=by omega
   refine(xb A (by rw[l];omega)).mono ?_;rintro _ M ⟨U,T,K,rfl,Y,rfl⟩;rw[fin]at Y;exact⟨U,T,K,rfl,U,T,K,rfl,Y,o⟩)
 refine Pn a n c b m k h _ ⟨_,Dp _ _ _,?_⟩;have hw:aj an ((N:Int)+1)=(N:Int)+1:=cj (by omega) (by omega);dsimp only;rw[J,hw];exact L (N+1) (i:=0) ⟨by omega,by omega,rfl,.inl ⟨rfl,rfl⟩,Ok.refl w⟩
theorem MP{b:Option aF}{c:Nat}(V:Rd h 240 (ae a n c) (x.map uv))(I:Rd h 240 (ae b m k) (y.map uv))(Q:∀k∈x,k<BB)(hy:∀k∈y,k<BB)(x2:x.length<=10000)(x4:y.length<=10000)(w:Wf h){R:Nat}(fin:gV (dy (ef BB) x y 0 (max x.length y.length+1) 0)=cT BB R):
  aW 266 [ae a n c,ae b m k,aN (.func 269) ⟨[]⟩ ⟨[]⟩] h (nh h 240 (bl R)):=by
 have hn:n=x.length:=by have:=V.len;rwa[aG]at this
 have hm:m=y.length:=by have:=I.len;rwa[aG]at this
 rw[<-hn,<-hm]at fin;have W:∀j,jo (ef BB) x y 0 0 j<=1:=by
  intro j
  induction j with
  |zero=>exact cr _
  |succ j ih=>exact aa3 (cW (by decide) Q _) (cW (by decide) hy _) ih
 have x3:n<=max n m/\m<=max n m:=⟨qw _ _,pF _ _⟩
 have x1:max n m<=10000:=max_le.2 ⟨by omega,by omega⟩;have J:(if(m:Int)>(n:Int)then(m:Int)else(n:Int))=((max n m:Nat):Int):=by split<;>omega
 generalize max n m=N at*;have L:=zd a n c b m k ((N:Int)+1) (λz i cy r P S g=>i<=N+1/\z=N+1-i/\cy=(jo (ef BB) x y 0 0 i:Nat)/\iB h g 240 (ae r P S) ((dy (ef BB) x y 0 i 0).map uv)/\Ok h g) (nh h 240 (bl R)) (by
  intro z i cy r P S;intros;rename_i g hi;obtain⟨h1,h2,rfl,A,o⟩:=hi;have O:aj an ((i:Int)+1)=((i+1:Nat):Int):=by rw[cj (by omega) (by omega)];omega
  rw[O];have l:(dy (ef BB) x y 0 i 0).length=i:=jq _ _ _ _ _ _;have e:=mB (ef BB) x y i 0 0;rw[bO]at e;have d:jo (ef BB) x y 0 0 (i+1)=(ef BB (x.getD i 0) (y.getD i 0) (jo (ef BB) x y 0 0 i)).2:=by
   show(ef BB (x.getD (0+i) 0) (y.getD (0+i) 0) _).2=_;rw[bO]
  have X:=W i;have t:=Xi (x.getD i 0) (y.getD i 0) (jo (ef BB) x y 0 0 i) (cW (by decide) Q _) (cW (by decide) hy _) X g;refine ay (λD=>?_) (λD=>?_)
  ·have D:=dT D;refine ay (λC=>?_) (λC=>?_)
   ·have C:=dT C;obtain⟨q,M,Z⟩:=K2 (V.ok o) (i:=(i:Int)) (by omega) (by omega);rw[bn]at Z;refine⟨q,M,_,Z,ay (λf=>?_) (λf=>?_)⟩
    ·have f:=dT f;obtain⟨H,E,B⟩:=K2 (I.ok o) (i:=(i:Int)) (by omega) (by omega);rw[bn]at B;refine⟨H,E,_,B,t.mono ?_⟩;rintro _ _ ⟨rfl,rfl⟩;refine⟨_,_,rfl,_,_,_,yh _,?_⟩;obtain⟨b,m,k,u,s,F,p,v⟩:=qZ w o A ((ef BB (x.getD i 0) (y.getD i 0) (jo (ef BB) x y 0 0 i)).1:Nat) (by rw[aG,l];omega);refine⟨b,m,k,u,s,um (z-1) (by omega) ⟨by omega,by omega,by rw[d],?_,v⟩⟩;rw[e,bU];exact p
    ·have f:=dF f;have G:y.getD i 0=0:=by rw[gD,getElem?_eq_none (by omega)];rfl
     rw[G]at t e d;refine t.mono ?_;rintro _ _ ⟨rfl,rfl⟩;refine⟨_,_,rfl,_,_,_,yh _,?_⟩;obtain⟨b,m,k,u,s,F,p,v⟩:=qZ w o A ((ef BB (x.getD i 0) 0 (jo (ef BB) x y 0 0 i)).1:Nat) (by rw[aG,l];omega);refine⟨b,m,k,u,s,um (z-1) (by omega) ⟨by omega,by omega,by rw[d],?_,v⟩⟩;rw[e,bU];exact p
   ·have C:=dF C;have x0:x.getD i 0=0:=by rw[gD,getElem?_eq_none (by omega)];rfl
    rw[x0]at t e d;refine ay (λf=>?_) (λf=>?_)
    ·have f:=dT f;obtain⟨H,E,B⟩:=K2 (I.ok o) (i:=(i:Int)) (by omega) (by omega);rw[bn]at B;refine⟨H,E,_,B,t.mono ?_⟩;rintro _ _ ⟨rfl,rfl⟩;refine⟨_,_,rfl,_,_,_,yh _,?_⟩;obtain⟨b,m,k,u,s,F,p,v⟩:=qZ w o A ((ef BB 0 (y.getD i 0) (jo (ef BB) x y 0 0 i)).1:Nat) (by rw[aG,l];omega);refine⟨b,m,k,u,s,um (z-1) (by omega) ⟨by omega,by omega,by rw[d],?_,v⟩⟩;rw[e,bU];exact p
    ·have f:=dF f;have G:y.getD i 0=0:=by rw[gD,getElem?_eq_none (by omega)];rfl
     rw[G]at t e d;refine t.mono ?_;rintro _ _ ⟨rfl,rfl⟩;refine⟨_,_,rfl,_,_,_,yh _,?_⟩;obtain⟨b,m,k,u,s,F,p,v⟩:=qZ w o A ((ef BB 0 0 (jo (ef BB) x y 0 0 i)).1:Nat) (by rw[aG,l];omega);refine⟨b,m,k,u,s,um (z-1) (by omega) ⟨by omega,by omega,by rw[d],?_,v⟩⟩;rw[e,bU];exact p
  ·have D:=dF D;obtain rfl:i=N+1:=by omega
   refine(xb A (by rw[l];omega)).mono ?_;rintro _ M ⟨U,T,K,rfl,Y,rfl⟩;rw[fin]at Y;exact⟨U,T,K,rfl,U,T,K,rfl,Y,o⟩)
 refine MO a n c b m k h _ ⟨_,Dp _ _ _,?_⟩;have hw:aj an ((N:Int)+1)=(N:Int)+1:=cj (by omega) (by omega);dsimp only;rw[J,hw];exact L (N+1) (i:=0) ⟨by omega,by omega,rfl,.inl ⟨rfl,rfl⟩,Ok.refl w⟩
theorem SQ{b:Option aF}{c:Nat}(v:Rd h 240 (ae a n c) (bl i))(s:Rd h 240 (ae b m k) (bl j))(d:(cT BB i).length<=10000)(l:(cT BB j).length<=10000)(w:Wf h):aW 240 [ae a n c,ae b m k] h (nh h 240 (bl (i+j))):=by
 have f:=gh lE i;have e:=gh lE j;refine SP a n c b m k h _ ((Po v s f e d l w (R:=i+j) ?_).mono ?_)
 ·have y:=qw (cT BB i).length (cT BB j).length;have z:=pF (cT BB i).length (cT BB j).length;rw[pO lE (nP (λp q c=>dP _ (by decide)) _ _ _ 0 0),Ej lE f e _ 0 0 (by omega) (by omega) (by omega) (by omega),bV,bV,fb lE,fb lE];rfl
 ·rintro _ g ⟨u,t,r,rfl,o,x⟩;exact⟨_,_,_,rfl,u,t,r,rfl,o,x⟩
theorem Qj{b:Option aF}{c:Nat}(y:Rd h 240 (ae a n c) (bl i))(u:Rd h 240 (ae b m k) (bl j))(d:j<=i)(e:(cT BB i).length<=10000)(r:(cT BB j).length<=10000)(w:Wf h):aW 242 [ae a n c,ae b m k] h (nh h 240 (bl (i-j))):=by
 have l:=gh lE i;have f:=gh lE j;refine Qi a n c b m k h _ ((MP y u l f e r w (R:=i-j) ?_).mono ?_)
 ·have A:=qw (cT BB i).length (cT BB j).length;have B:=pF (cT BB i).length (cT BB j).length;rw[pO lE (nP (λp q c=>dP _ (by decide)) _ _ _ 0 0)];have t:=Hy lE l f (max (cT BB i).length (cT BB j).length+1) 0 0 (by omega) (by omega) (by omega) (by rw[bV,bV,fb lE,fb lE];exact d);rw[bV,bV,fb lE,fb lE]at t;congr 1;omega
 ·rintro _ g ⟨x,v,s,rfl,o,z⟩;exact⟨_,_,_,rfl,x,v,s,rfl,o,z⟩
def ur(X:Nat):ah:=if 1000<(bp X).length then JR [] 2 else JR (bp X) 0
def Gr(a b:List UInt8):ah:=if Num.valid a=af/\Num.valid b=af then ur (Num.val a+Num.val b)else JR [] 1
def GD(a b:List UInt8):ah:=if Num.valid a=af/\Num.valid b=af then ur (Num.val a*Num.val b)else JR [] 1
def GQ(a b:List UInt8):ah:=if Num.valid a=af/\Num.valid b=af then(if Num.val a<Num.val b then JR [] 4 else JR (bp (Num.val a-Num.val b)) 0)else JR [] 1
def Gt(a b:List UInt8):ah:=if Num.valid a=af/\Num.valid b=af then aA (iU (Num.val a) (Num.val b))else aA 0
theorem Bk{c:Nat}(f:Rd h 240 (ae a n c) (bl m))(d:(cT BB m).length<=10000)(t:BG h)(w:Wf h):aW 209 [ae a n c] h (λv i=>v=ur m/\Ok h i):=by
 refine Km a n c h _ ((BU f d t w).mono ?_);rintro _ g ⟨rfl,e⟩;refine⟨_,rfl,ay (λb=>?_) (λb=>?_)⟩
 ·have b:=dT b;refine⟨?_,e⟩;unfold ur;rw[iP (by omega)];rfl
 ·have b:=dF b;refine⟨?_,e⟩;unfold ur;rw[iN (by omega)];rfl
structure akA(a b:List UInt8)(X Y:Nat):Prop where
 va:Num.valid a=af
 vb:Num.valid b=af
 ea:Num.val a=X
 eb:Num.val b=Y
 lx:(cT BB X).length<=112
 ly:(cT BB Y).length<=112
theorem afI{a b:List UInt8}(c:Num.valid a=af)(d:Num.valid b=af):akA a b (Num.val a) (Num.val b):=by
 obtain⟨X,_,f,g⟩:=hH c;obtain⟨Y,_,e,h⟩:=hH d;exact⟨c,d,rfl,rfl,by rw[g];exact vo f,by rw[h];exact vo e⟩
theorem sq{a:List UInt8}(c:Num.valid a=af){h:aw}(w:Wf h):aW 208 [strOf a] h (nh h 240 (bl (Num.val a))):=by
 have b:=(mj.1 c)
 exact wZ a b.1.2.1 (bK b.2 (by omega)) h w
theorem afE(c:(cT BB n).length<=112)(d:(cT BB m).length<=112):(cT BB (n+m)).length<=10000:=by
 have a:=jH (gh lE n);have b:=jH (gh lE m);rw[fb lE]at a b;have e:=cz a (dG (show 0<BB by decide) c);have f:=cz b (dG (show 0<BB by decide) d);refine bK (qn lE (k:=113) ?_) (by omega);rw[gb];have g:2*BB^112<=BB^112*BB:=by rw[dh];exact fi _ (by decide)
 generalize BB^112=M at*;omega
theorem acP(h:n<=m):(cT BB n).length<=(cT BB m).length:=Nat.le_of_not_lt λg=>absurd (qo lE g) (Nat.not_lt.2 h)
theorem Dg(X:Nat):∃l n,ur X=JR l n:=by
 unfold ur;split<;>exact⟨_,_,rfl⟩
theorem Hn(a:∃l n,v=JR l n){K:ah->Prop}(b:K v):∃(l:List UInt8)(n:Int),v=av ⟨[strOf l,aA n]⟩/\K (av ⟨[strOf l,aA n]⟩):=by
 obtain⟨l,n,rfl⟩:=a;exact⟨l,n,rfl,b⟩
theorem UL{x:Nat}(h:iU x n<0):x<n:=by
 unfold iU at h;split at h<;>omega
theorem UK{x:Nat}(h:¬iU x n<0):n<=x:=by
 unfold iU at h;split at h<;>omega
theorem Xp(a b:List UInt8){h:aw}(t:BG h)(w:Wf h):aW 205 [strOf a,strOf b] h (λv r=>v=Gr a b/\Ok h r):=by
 refine Xo a b h _ ((iT a h).mono ?_);rintro _ l ⟨rfl,j⟩;obtain rfl:h=l:=j.symm;refine⟨_,rfl,ay (λg=>?_) (λg=>?_)⟩
 ·have g:Num.valid a=ak:=by simpa using g
  refine⟨?_,Ok.refl w⟩;unfold Gr;rw[iN (λe=>by rw[e.1]at g;cases g)];rfl
 have g:Num.valid a=af:=by simpa using g
 refine(iT b h).mono ?_;rintro _ l ⟨rfl,j⟩;obtain rfl:h=l:=j.symm;refine⟨_,rfl,ay (λc=>?_) (λc=>?_)⟩
 ·have c:Num.valid b=ak:=by simpa using c
  refine⟨?_,Ok.refl w⟩;unfold Gr;rw[iN (λe=>by rw[e.2]at c;cases c)];rfl
 have c:Num.valid b=af:=by simpa using c
 have m:=afI g c;have A:=m.lx;have z:=m.ly;refine(sq g w).mono ?_;rintro _ G ⟨N,C,J,rfl,o,f⟩;refine⟨_,_,_,rfl,(sq c f.wf).mono ?_⟩;rintro _ H ⟨E,D,M,rfl,y,i⟩;refine⟨_,_,_,rfl,?_⟩;have x:Gr a b=ur (Num.val a+Num.val b):=by unfold Gr;rw[iP ⟨g,c⟩]
 rw[x];have p:=o.rd.ok i;have q:=y.rd;have k:=f.trans i;refine(SQ p q (by omega) (by omega) k.wf).mono ?_;rintro _ F ⟨I,B,L,rfl,s,d⟩;refine⟨_,_,_,rfl,(Bk s.rd (afE A z) (t.ok (k.trans d)) d.wf).mono ?_⟩;rintro _ u ⟨rfl,n⟩;exact Hn (K:=λv=>v=ur (Num.val a+Num.val b)/\Ok h u) (Dg _) ⟨rfl,(k.trans d).trans n⟩
theorem Lu(a b:List UInt8){h:aw}(t:BG h)(w:Wf h):aW 207 [strOf a,strOf b] h (λv x=>v=GQ a b/\Ok h x):=by
 refine Xw a b h _ ((iT a h).mono ?_);rintro _ o ⟨rfl,n⟩;obtain rfl:h=o:=n.symm;refine⟨_,rfl,ay (λg=>?_) (λg=>?_)⟩
 ·have g:Num.valid a=ak:=by simpa using g
  refine⟨?_,Ok.refl w⟩;unfold GQ;rw[iN (λe=>by rw[e.1]at g;cases g)];rfl
 have g:Num.valid a=af:=by simpa using g
 refine(iT b h).mono ?_;rintro _ o ⟨rfl,n⟩;obtain rfl:h=o:=n.symm;refine⟨_,rfl,ay (λc=>?_) (λc=>?_)⟩
 ·have c:Num.valid b=ak:=by simpa using c
  refine⟨?_,Ok.refl w⟩;unfold GQ;rw[iN (λe=>by rw[e.2]at c;cases c)];rfl
 have c:Num.valid b=af:=by simpa using c
 have r:=afI g c;have P:=r.lx;have N:=r.ly;refine(sq g w).mono ?_;rintro _ G ⟨O,C,J,rfl,u,k⟩;refine⟨_,_,_,rfl,(sq c k.wf).mono ?_⟩;rintro _ H ⟨E,D,M,rfl,A,l⟩;refine⟨_,_,_,rfl,?_⟩;have z:GQ a b=(if Num.val a<Num.val b then JR [] 4 else JR (bp (Num.val a-Num.val b)) 0):=by unfold GQ;rw[iP ⟨g,c⟩]
 rw[z];have p:=u.rd.ok l;have q:=A.rd;have j:=k.trans l;refine(vC p q (by omega) j.wf).mono ?_;rintro _ F ⟨rfl,d⟩;refine⟨_,rfl,ay (λf=>?_) (λf=>?_)⟩
 ·have f:=dT f;rw[iP (UL f)];exact⟨rfl,j.trans d⟩
 ·have f:=dF f;have m:=UK f;rw[iN (Nat.not_lt.2 m)];refine(Qj (p.ok d) (q.ok d) m (by omega) (by omega) d.wf).mono ?_;rintro _ L ⟨I,B,K,rfl,y,i⟩;refine⟨_,_,_,rfl,(BU y.rd (bK (acP (Nat.sub_le _ _)) (by omega)) (t.ok ((j.trans d).trans i)) i.wf).mono ?_⟩;rintro _ Q ⟨rfl,s⟩;exact⟨_,rfl,rfl,((j.trans d).trans i).trans s⟩
theorem Xr(a b:List UInt8){h:aw}(t:BG h)(w:Wf h):aW 206 [strOf a,strOf b] h (λv q=>v=Gt a b/\Ok h q):=by
 refine Xq a b h _ ((iT a h).mono ?_);rintro _ j ⟨rfl,i⟩;obtain rfl:h=j:=i.symm;refine⟨_,rfl,ay (λg=>?_) (λg=>?_)⟩
 ·have g:Num.valid a=ak:=by simpa using g
  refine⟨?_,Ok.refl w⟩;unfold Gt;rw[iN (λe=>by rw[e.1]at g;cases g)]
 have g:Num.valid a=af:=by simpa using g
 refine(iT b h).mono ?_;rintro _ j ⟨rfl,i⟩;obtain rfl:h=j:=i.symm;refine⟨_,rfl,ay (λc=>?_) (λc=>?_)⟩
 ·have c:Num.valid b=ak:=by simpa using c
  refine⟨?_,Ok.refl w⟩;unfold Gt;rw[iN (λe=>by rw[e.2]at c;cases c)]
 have c:Num.valid b=af:=by simpa using c
 have l:=afI g c;have G:=l.lx;have E:=l.ly;refine(sq g w).mono ?_;rintro _ A ⟨F,u,C,rfl,n,d⟩;refine⟨_,_,_,rfl,(sq c d.wf).mono ?_⟩;rintro _ B ⟨y,x,D,rfl,s,f⟩;refine⟨_,_,_,rfl,?_⟩;have r:Gt a b=aA (iU (Num.val a) (Num.val b)):=by unfold Gt;rw[iP ⟨g,c⟩]
 rw[r];have o:=n.rd.ok f;have p:=s.rd;have m:=d.trans f;refine(vC o p (by omega) m.wf).mono ?_;rintro _ z ⟨rfl,k⟩;exact⟨_,rfl,rfl,m.trans k⟩
theorem Y7:au.underlying 9=aa .string:=Tryz.underlying9
theorem Od(l:List UInt8)(h:aw){b:Nat}(c:b<=l.length):cY au 9 (strOf l) none (aa (aA (b:Int))) none h=aa (strOf (l.take b)):=by
 have:=tV (h:=h) Y7 l (lo:=none) (hi:=aa (aA (b:Int))) (a:=0) (b:=b) rfl rfl (by omega) c;simpa using this
theorem AG(l:List UInt8)(h:aw){a:Nat}(c:a<=l.length):cY au 9 (strOf l) (aa (aA (a:Int))) none none h=aa (strOf (l.drop a)):=by
 have:=tV (h:=h) Y7 l (lo:=aa (aA (a:Int))) (hi:=none) (a:=a) (b:=l.length) rfl rfl c (aS _);rw[this,bm (by simp)]
theorem WT(l:List UInt8)(h:aw):aW 258 [strOf l,strOf [45]] h (λv e=>v=ai (Num.isNeg l)/\e=h):=by
 refine WR l [45] h _ (ay (λa=>?_) (λa=>?_))
 ·have a:=dT a;have d:1<=l.length:=by simp only[bP,List.length_nil]at a;omega
  refine⟨_,Od l h (b:=1) d,?_,rfl⟩
  cases l with
  |nil=>simp at d
  |cons c l=>
   unfold Num.isNeg;simp only[List.take_succ_cons,dU,List.head?_cons];congr 1
   cases f:c==45<;>simp_all
 ·have a:=dF a;have d:l=[]:=aY (by simp at a;omega);subst d;exact⟨rfl,rfl⟩
theorem Sc(l:List UInt8)(h:aw):aW 236 [strOf l,strOf [45]] h (λv c=>v=av ⟨[strOf (ee l),ai (Num.isNeg l)]⟩/\c=h):=by
 refine Sb l [45] h _ ((WT l h).mono ?_);rintro _ e ⟨rfl,d⟩;obtain rfl:h=e:=d.symm;refine⟨_,rfl,ay (λg=>?_) (λg=>?_)⟩
 ·have g:Num.isNeg l=ak:=by simpa using g
  unfold ee;rw[g];exact⟨rfl,rfl⟩
 ·have g:Num.isNeg l=af:=by simpa using g
  have b:1<=l.length:=by
   cases l with
   |nil=>cases g
   |cons=>simp
  refine⟨_,AG l h (a:=1) b,?_,rfl⟩;unfold ee;rw[g];rfl
theorem Wv(l:List UInt8)(h:aw):aW 201 [strOf l,strOf [45]] h (λv a=>v=av ⟨[strOf (ee l),ai (Num.isNeg l)]⟩/\a=h):=by
 refine Wu l [45] h _ ((Sc l h).mono ?_);rintro _ c ⟨rfl,b⟩;exact⟨_,_,rfl,rfl,b⟩
theorem Sp(l:List UInt8):∀i:Nat,findAt 47 l i=if iV 47 l<l.length then((i+iV 47 l:Nat):Int)else -1:=by
 induction l with
 |nil=>intro i;rfl
 | cons c l b=>
  intro i;unfold findAt iV;have a:c.toNat=47↔c=47:=by rw[<-fQ];rfl
  by_cases h:c=47
  ·rw[iP (a.2 h),iP h,iP (by simp)];rfl
  ·rw[iN (λe=>h (a.1 e)),iN h,b (i+1)];have:(iV 47 l+1<(c::l).length)↔iV 47 l<l.length:=by simp
   simp only[this];split
   ·congr 1;omega
   ·rfl
def Kg(l:List UInt8):Int:=if iV 47 l<l.length then(iV 47 l:Int)else -1
theorem PO(l:List UInt8)(h:aw):aW 279 [strOf l,aB aK 47] h (λv a=>v=aA (Kg l)/\a=h):=by
 refine PN l 47 h _ (Ao (p:=ou) (v:= aA (Kg l)) (h':=h) (by decide +kernel) (by kernel_rfl) (λb=>?_) ⟨_,rfl,rfl,rfl⟩);show(if(0:Int)<=47/\(47:Int)<256 then aa (aB an (findAt 47 l 0),h)else none)=_;rw[iP (by decide),Sp,bO];rfl
theorem WW(l:List UInt8)(h:aw):aW 259 [strOf l,strOf [47]] h (λv b=>v=aA (Kg l)/\b=h):=by
 refine WV l h _ (ay (λa=>?_) (λa=>?_))
 ·have a:([47]:List UInt8)=l:=by simpa using a
  subst a;exact⟨rfl,rfl⟩
 ·refine⟨47,rfl,(PO l h).mono ?_⟩;rintro _ d ⟨rfl,c⟩;exact⟨_,rfl,rfl,c⟩
def Ww(l:List UInt8):ah:=if iV 47 l<l.length then av ⟨[strOf (l.take (iV 47 l)),strOf (l.drop (iV 47 l+1)),ai af]⟩else av ⟨[strOf l,strOf [],ai ak]⟩
theorem adM(l:List UInt8)(f:l.length<=281474976710656){h:aw}(w:Wf h):aW 237 [strOf l,strOf [47]] h (λv b=>v=Ww l/\Ok h b):=by
 refine adL l h _ ((WW l h).mono ?_);rintro _ e ⟨rfl,d⟩;obtain rfl:h=e:=d.symm;refine⟨_,rfl,ay (λg=>?_) (λg=>?_)⟩
 ·have g:=dT g;unfold Kg Ww at*;by_cases a:iV 47 l<l.length
  ·rw[iP a,iP a];have c:aj an ((iV 47 l:Int)+1)=((iV 47 l+1:Nat):Int):=by rw[cj (by omega) (by omega)];omega
   rw[c];exact⟨_,Od l _ (le_of_lt a),_,AG l _ a,rfl,(Ok.refl w).room 12⟩
  ·rw[iN a]at g;omega
 ·have g:=dF g;unfold Kg Ww at*;by_cases a:iV 47 l<l.length
  ·rw[iP a]at g;omega
  ·rw[iN a];exact⟨rfl,Ok.refl w⟩
theorem ahf(l:List UInt8)(b:l.length<=281474976710656){h:aw}(w:Wf h):aW 202 [strOf l,strOf [47]] h (λv c=>v=Ww l/\Ok h c):=by
 refine ahe l h _ ((adM l b w).mono ?_);rintro _ d ⟨rfl,a⟩;unfold Ww;split
 ·exact⟨_,_,_,rfl,rfl,a⟩
 ·exact⟨_,_,_,rfl,rfl,a⟩
theorem NV(l:List UInt8)(s:l.length<=281474976710656)(h:aw):aW 247 [strOf l,aB aK 47] h (λv n=>v=aA (Kg l)/\n=h):=by
 refine NU l 47 h _ (zF l 47 (λd i g=>g=h/\i<=l.length/\d=l.length-i/\∀j,j<i->l.getD j 0≠47) _ (λd i=>?_) l.length (i:=0) ⟨rfl,by omega,rfl,λj q=>by omega⟩);intros;rename_i g p;obtain⟨rfl,k,u,f⟩:=p;refine ay (λb=>?_) (λb=>?_)
 ·have b:=dT b;have e:dR au 9 (strOf l) (aA (i:Int))=aa (aB aK (((l.getD i 0).toNat:Nat):Int)):=by
   have:=tT Y7 l an (i:=(i:Int)) (by omega) b;simpa using this
  refine⟨_,e,ay (λa=>?_) (λa=>?_)⟩
  ·have a:(l.getD i 0).toNat=47:=by have:=dT a;omega
   have r:l.getD i 0=47:=by rw[<-fQ];exact a
   have:=Bz 47 l i k f (λ_=>r);refine⟨?_,rfl⟩;unfold Kg;rw[this,iP (by omega)]
  ·have a:((l.getD i 0).toNat:Int)≠47:=by simpa using a
   have o:aj an ((i:Int)+1)=((i+1:Nat):Int):=by rw[cj (by omega) (by omega)];omega
   rw[o];refine fG (d-1) (by omega) ⟨rfl,by omega,by omega,λj q=>?_⟩;rcases de j i with c|c
   ·exact f j c
   ·obtain rfl:j=i:=by omega
    intro m;rw[m]at a;exact a rfl
 ·have b:=dF b;obtain rfl:i=l.length:=by omega
  have:=Bz 47 l l.length (aS _) f (λt=>by omega);refine⟨?_,rfl⟩;unfold Kg;rw[this,iN (by omega)]
noncomputable def N5:FD:=gT Tryz.f275 []
theorem Kv(l:LB)(h:aw)(Q:VH)(a:cp (decide ((l.length:Int)>1000)) (Q (av ⟨[(strOf []),(aA 2)]⟩) h) (Q (av ⟨[(strOf l),(aA 0)]⟩) h)):aW 275 [(strOf l)] h Q:=gZ N5 Tryz.func275 (bF a)
noncomputable def abV:FD:=gT Tryz.f251 []
theorem Yi(l m:LB)(h:aw)(Q:VH)(j:aW 271 [(strOf l)] h λk a=>yB k λf=>cp (!f) (Q (aA 0) a) (aW 271 [(strOf m)] a λe b=>yB e λg=>cp (!g) (Q (aA 0) b) (aW 277 [(strOf l),(strOf m)] b λc i=>yI an c λd=>Q (aA d) i))):aW 251 [(strOf l),(strOf m)] h Q:=gZ abV Tryz.func251 (bF j)
noncomputable def abW:FD:=gT Tryz.f252 []
theorem Yq(l m:LB)(h:aw)(Q:VH)(D:aW 271 [(strOf l)] h λE n=>yB E λB=>cp (!B) (Q (av ⟨[(strOf []),(aA 1)]⟩) n) (aW 271 [(strOf m)] n λA x=>yB A λC=>cp (!C) (Q (av ⟨[(strOf []),(aA 1)]⟩) x) (aW 277 [(strOf l),(strOf m)] x λy i=>yI an y λz=>cp (decide (z<0)) (Q (av ⟨[(strOf []),(aA 4)]⟩) i) (aW 273 [(strOf l)] i λe j=>yL e λb d s=>aW 273 [(strOf m)] j λa k=>yL a λw g r=>aW 278 [(ae b d s),(ae w g r)] k λt c=>yL t λo p u=>aW 276 [(ae o p u)] c λq v=>yS q λf=>Q (av ⟨[(strOf f),(aA 0)]⟩) v)))):aW 252 [(strOf l),(strOf m)] h Q:=gZ abW Tryz.func252 (bF D)
noncomputable def zI:FD:=gT Tryz.f250 [((pq 607),[6,7,8,9,10])]
abbrev qS(a:OA)(n c:Nat)(b:OA)(k d:Nat)(i:Nat)(cy:Int)(r:OA)(e f:Nat):LV:=[(ae a n c),(ae b k d),(ae r e f),(aA cy),(iA i)]
theorem Yg(l m:LB)(h:aw)(Q:VH)(s:aW 271 [(strOf l)] h λt e=>yB t λp=>cp (!p) (Q (av ⟨[(strOf []),(aA 1)]⟩) e) (aW 271 [(strOf m)] e λo j=>yB o λq=>cp (!q) (Q (av ⟨[(strOf []),(aA 1)]⟩) j) (aW 273 [(strOf l)] j λk r=>yL k λn d i=>aW 273 [(strOf m)] r λa g=>yL a λb c f=>cq zI (pq 607) (qS n d i b c f 0 0 none 0 0) g (ez zI (pq 351) Q)))):aW 250 [(strOf l),(strOf m)] h Q:=gZ zI Tryz.func250 (bF s)
theorem DQ(l m:LB)(a:OA)(n c:Nat)(b:OA)(k d:Nat)(j:Nat->Nat->Int->OA->Nat->Nat->aw->Prop)(Q:VH)(step:∀(g:Nat) (i:Nat) (cy:Int) (r:OA) (e f:Nat) (U:Nat->ah) (h:aw),j g i cy r e f h->(λ(O:ah->ah->aw->Prop)=>cp (decide ((i:Int)<=(n:Int))) (aW 274 [(ae a n c),(iA i)] h λx5 K=>yI an x5 λv=>aW 274 [(ae b k d),(iA i)] K λx1 q=>yI an x1 λy=>xI an (cm au .rem 3 (aA (aj an (aj an (v+y)+cy))) (aA 10)) λT=>xR (bC au 27 1 [(0,(aA T))]) q λx9 D W s=>xE (bY au 27 27 (ae r e f) (sA (q.ax) D W) s) s λF H R x8 X=>xI an (cm au .quo 3 (aA (aj an (aj an (v+y)+cy))) (aA 10)) λI=>O (ae F H R) (aA I) X) (cp (decide ((i:Int)<=(k:Int))) (aW 274 [(ae a n c),(iA i)] h λx3 L=>yI an x3 λo=>aW 274 [(ae b k d),(iA i)] L λS w=>yI an S λx=>xI an (cm au .rem 3 (aA (aj an (aj an (o+x)+cy))) (aA 10)) λY=>xR (bC au 27 1 [(0,(aA Y))]) w λx6 E x4 t=>xE (bY au 27 27 (ae r e f) (sA (w.ax) E x4) t) t λV M Z x7 P=>xI an (cm au .quo 3 (aA (aj an (aj an (o+x)+cy))) (aA 10)) λx2=>O (ae V M Z) (aA x2) P) (aW 276 [(ae r e f)] h λB N=>yS B λx0=>aW 275 [(strOf x0)] N λA G=>∃p:LB,∃u:Int,A=(av ⟨[(strOf p),(aA u)]⟩)/\Q (av ⟨[(strOf p),(aA u)]⟩) G))) (λC J hz=>cB (Y2 (qS a n c b k d) j) g [(ae a n c),(ae b k d),C,J,(aA (aj an ((i:Int)+1)))] hz))(g:Nat){i:Nat}{cy:Int}{r:OA}{e f:Nat}{h:aw}(z:j g i cy r e f h):cq zI (pq 607) (qS a n c b k d i cy r e f) h (ez zI (pq 351) Q):=
 LP (qS a n c b k d) j (λg i cy r e f U h z=>bF (step g i cy r e f U h z)) g z
noncomputable def l5:FD:=gT Tryz.f253 [((pq 303),[6,7,8,9]),((pq 39215),[6,7,8,9,10,11])]
abbrev l6(a:OA)(n c:Nat)(b:OA)(k d:Nat)(t:OA)(tn tc:Nat)(i:Nat):LV:=[(ae a n c),(ae b k d),(ae t tn tc),(iA i)]
abbrev qY(a:OA)(n c:Nat)(b:OA)(k d:Nat)(t:OA)(tn tc i:Nat)(j:Nat)(cy:Int):LV:=[(ae a n c),(ae b k d),(ae t tn tc),(iA i),(aA cy),(iA j)]
theorem Yo(l m:LB)(h:aw)(Q:VH)(v:aW 271 [(strOf l)] h λw g=>yB w λs=>cp (!s) (Q (av ⟨[(strOf []),(aA 1)]⟩) g) (aW 271 [(strOf m)] g λr o=>yB r λt=>cp (!t) (Q (av ⟨[(strOf []),(aA 1)]⟩) o) (aW 273 [(strOf l)] o λp u=>yL p λq b n=>aW 273 [(strOf m)] u λd c=>yL d λe a i=>xR (cK au 27 (aA (aj an (aj an ((b:Int)+(a:Int))+1))) (aA (aj an (aj an ((b:Int)+(a:Int))+1)))) c λx f j k=>cq l5 (pq 303) (l6 q b n e a i (aa ⟨c.ax,0,none⟩) f j 0) k (ez l5 (pq 175) Q)))):aW 253 [(strOf l),(strOf m)] h Q:=gZ l5 Tryz.func253 (bF v)
theorem DV(l m:LB)(a:OA)(n c:Nat)(b:OA)(k d:Nat)(t:OA)(tn tc:Nat)(f:Nat->Nat->aw->Prop)(Q:VH)(step:∀(e:Nat) (i:Nat) (u:Nat->ah) (h:aw),f e i h->cp (decide ((i:Int)<(n:Int))) (cq l5 (pq 39215) (qY a n c b k d t tn tc i 0 0) h (fZ l5 (pq 89) (pq 303) (RR l5 (pq 303) (mw (l6 a n c b k d t tn tc) f) e (ez l5 (pq 175) Q)))) (aW 276 [(ae t tn tc)] h λs v=>yS s λq=>aW 275 [(strOf q)] v λp r=>∃j:LB,∃g:Int,p=(av ⟨[(strOf j),(aA g)]⟩)/\Q (av ⟨[(strOf j),(aA g)]⟩) r))(e:Nat){i:Nat}{h:aw}(o:f e i h):cq l5 (pq 303) (l6 a n c b k d t tn tc i) h (ez l5 (pq 175) Q):=
 gP (l6 a n c b k d t tn tc) f (λe i u h o=>bF (step e i u h o)) e o
theorem DW(l m:LB)(a:OA)(n c:Nat)(b:OA)(k d:Nat)(t:OA)(tn tc:Nat)(q:Nat->Nat->aw->Prop)(x i:Nat)(f:Nat->Nat->Int->aw->Prop)(Q:VH)(step:∀(e:Nat) (j:Nat) (cy:Int) (B:Nat->ah) (h:aw),f e j cy h->cp (decide ((j:Int)<=(k:Int))) (xP (aZ au 27 (ae t tn tc) (aA (aj an ((i:Int)+(j:Int))))) λu=>xI an (aM au 3 (room h 18) (bN u)) λg=>xP (aZ au 27 (ae a n c) (iA i)) λs=>xI an (aM au 3 (room h 18) (bN s)) λo=>aW 274 [(ae b k d),(iA j)] (room h 18) λz p=>yI an z λr=>(aM au 3 p (bN u)=aa (aA g)/\iz 4 (aA g) (aA g)=af)/\(aM au 3 p (bN s)=aa (aA o)/\iz 4 (aA o) (aA o)=af)/\xI an (cm au .rem 3 (aA (aj an (aj an (g+aj an (o*r))+cy))) (aA 10)) λA=>xP (aZ au 27 (ae t tn tc) (aA (aj an ((i:Int)+(j:Int))))) λy=>xU (aQ au 3 (bN y) (aA A) p) p λD w=>xI an (cm au .quo 3 (aA (aj an (aj an (g+aj an (o*r))+cy))) (aA 10)) λC=>cB (wz (qY a n c b k d t tn tc i) f) e [(ae a n c),(ae b k d),(ae t tn tc),(iA i),(aA C),(aA (aj an ((j:Int)+1)))] w) (cB (mw (l6 a n c b k d t tn tc) q) x [(ae a n c),(ae b k d),(ae t tn tc),(aA (aj an ((i:Int)+1)))] h))(e:Nat){j:Nat}{cy:Int}{h:aw}(v:f e j cy h):cq l5 (pq 39215) (qY a n c b k d t tn tc i j cy) h (fZ l5 (pq 89) (pq 303) (RR l5 (pq 303) (mw (l6 a n c b k d t tn tc) q) x (ez l5 (pq 175) Q))):=
 sK (qY a n c b k d t tn tc i) f (λe j cy B h v=>bF (step e j cy B h v)) e v
theorem Bs(X:Nat)(h:aw):aW 275 [strOf (bp X)] h (λv b=>v=ur X/\b=h):=by
 refine Kv _ h _ (ay (λa=>?_) (λa=>?_))
 ·have a:=dT a;refine⟨?_,rfl⟩;unfold ur;rw[iP (by omega)];rfl
 ·have a:=dF a;refine⟨?_,rfl⟩;unfold ur;rw[iN (by omega)];rfl
theorem Yj(a b:List UInt8){h:aw}(w:Wf h):aW 251 [strOf a,strOf b] h (λv o=>v=Gt a b/\Ok h o):=by
 refine Yi a b h _ ((ie a h).mono ?_);rintro _ f ⟨rfl,d⟩;obtain rfl:h=f:=d.symm;refine⟨_,rfl,ay (λg=>?_) (λg=>?_)⟩
 ·have g:Num.valid a=ak:=by simpa using g
  refine⟨?_,Ok.refl w⟩;unfold Gt;rw[iN (λe=>by rw[e.1]at g;cases g)]
 have g:Num.valid a=af:=by simpa using g
 refine(ie b h).mono ?_;rintro _ f ⟨rfl,d⟩;obtain rfl:h=f:=d.symm;refine⟨_,rfl,ay (λc=>?_) (λc=>?_)⟩
 ·have c:Num.valid b=ak:=by simpa using c
  refine⟨?_,Ok.refl w⟩;unfold Gt;rw[iN (λe=>by rw[e.2]at c;cases c)]
 have c:Num.valid b=af:=by simpa using c
 have p:Gt a b=aA (iU (Num.val a) (Num.val b)):=by unfold Gt;rw[iP ⟨g,c⟩]
 rw[p];obtain⟨m,rfl,j,l⟩:=hH g;obtain⟨n,rfl,i,k⟩:=hH c;have s:=kF j;have r:=kF i;rw[l,k];refine(vG m n (by omega) (by omega) h w).mono ?_;rintro _ g ⟨rfl,q⟩;exact⟨_,rfl,rfl,q⟩
theorem vO{a:List UInt8}(c:Num.valid a=af){h:aw}(w:Wf h):aW 273 [strOf a] h (nh h 3 ((jI a).map iv)):=by
 have b:=(mj.1 c)
 exact xj a b.1.2.1 (bK b.2 (by omega)) h w
theorem pB{a:List UInt8}(b:Num.valid a=af):∀d∈jI a,d<10:=rz (mj.1 b).1.2.1
theorem tR{a:List UInt8}(b:Num.valid a=af):(jI a).length<=1000:=by
 rw[pN];exact(mj.1 b).2
theorem Kj{a b:List UInt8}(c:Num.valid a=af)(d:Num.valid b=af)(h:Num.val b<=Num.val a):b.length<=a.length:=by
 obtain⟨m,rfl,_,f⟩:=hH c;obtain⟨n,rfl,_,e⟩:=hH d;exact Nat.le_of_not_lt λg=>by have:=qq g;omega
theorem LN(a b:List UInt8){h:aw}(w:Wf h):aW 252 [strOf a,strOf b] h (λv o=>v=GQ a b/\Ok h o):=by
 refine Yq a b h _ ((ie a h).mono ?_);rintro _ q ⟨rfl,p⟩;obtain rfl:h=q:=p.symm;refine⟨_,rfl,ay (λg=>?_) (λg=>?_)⟩
 ·have g:Num.valid a=ak:=by simpa using g
  refine⟨?_,Ok.refl w⟩;unfold GQ;rw[iN (λe=>by rw[e.1]at g;cases g)];rfl
 have g:Num.valid a=af:=by simpa using g
 refine(ie b h).mono ?_;rintro _ q ⟨rfl,p⟩;obtain rfl:h=q:=p.symm;refine⟨_,rfl,ay (λc=>?_) (λc=>?_)⟩
 ·have c:Num.valid b=ak:=by simpa using c
  refine⟨?_,Ok.refl w⟩;unfold GQ;rw[iN (λe=>by rw[e.2]at c;cases c)];rfl
 have c:Num.valid b=af:=by simpa using c
 have A:GQ a b=(if Num.val a<Num.val b then JR [] 4 else JR (bp (Num.val a-Num.val b)) 0):=by unfold GQ;rw[iP ⟨g,c⟩]
 rw[A];have C:aW 277 [strOf a,strOf b] h (λv o=>v=aA (iU (Num.val a) (Num.val b))/\Ok h o):=by
  obtain⟨m,rfl,t,x⟩:=hH g;obtain⟨n,rfl,s,u⟩:=hH c;have P:=kF t;have G:=kF s;rw[x,u];exact vG m n (by omega) (by omega) h w
 refine C.mono ?_;rintro _ J ⟨rfl,f⟩;refine⟨_,rfl,ay (λd=>?_) (λd=>?_)⟩
 ·have d:=dT d;rw[iP (UL d)];exact⟨rfl,f⟩
 have d:=dF d;have j:=UK d;rw[iN (Nat.not_lt.2 j)];refine(vO g f.wf).mono ?_;rintro _ K ⟨F,E,Q,rfl,B,k⟩;refine⟨_,_,_,rfl,(vO c k.wf).mono ?_⟩;rintro _ H ⟨L,D,N,rfl,z,i⟩;refine⟨_,_,_,rfl,(Jg (B.rd.ok i) z.rd (pB g) (pB c) (bK (tR g) (by omega)) i.wf).mono ?_⟩;rintro _ O ⟨M,R,I,rfl,y,l⟩;refine⟨_,_,_,rfl,(xl y.rd (KO (pB g) (pB c) _ _ _ (by omega)) (by rw[jq];exact bK (tR g) (by omega)) l.wf).mono ?_⟩;rintro _ S ⟨rfl,r⟩;refine⟨_,rfl,?_,(((f.trans k).trans i).trans l).trans r⟩;rw[KN (pB g) (pB c) (by rw[pN,pN];exact Kj g c j) (by rw[kM,kM];exact j),kM,kM];rfl
theorem abZ:cm au .rem 3 (aA (n:Int)) (aA 10)=aa (aA ((n%10:Nat):Int)):=by
 rw[show(10:Int)=((10:Nat):Int)from rfl,mL (by omega) (by decide),Int.natCast_emod]
theorem abG(h:n<1000000):cm au .quo 3 (aA (n:Int)) (aA 10)=aa (aA ((n/10:Nat):Int)):=by
 have a:(n:Int).tdiv 10=((n/10:Nat):Int):=by
  rw[Int.tdiv_eq_ediv_of_nonneg (by omega)];rfl
 rw[GV au 3 an _ _ (by omega),a,cj (by omega) (by omega)]
theorem XO{p q c:Nat}(b:p<10)(a:q<10)(d:c<=1):(cP 10 p q c).2<=1:=by
 show(p+q+c)/10<=1;omega
theorem Yh(a b:List UInt8){h:aw}(w:Wf h):aW 250 [strOf a,strOf b] h (λv m=>v=Gr a b/\Ok h m):=by
 refine Yg a b h _ ((ie a h).mono ?_);rintro _ X ⟨rfl,U⟩;obtain rfl:h=X:=U.symm;refine⟨_,rfl,ay (λg=>?_) (λg=>?_)⟩
 ·have g:Num.valid a=ak:=by simpa using g
  refine⟨?_,Ok.refl w⟩;unfold Gr;rw[iN (λe=>by rw[e.1]at g;cases g)];rfl
 have g:Num.valid a=af:=by simpa using g
 refine(ie b h).mono ?_;rintro _ X ⟨rfl,U⟩;obtain rfl:h=X:=U.symm;refine⟨_,rfl,ay (λd=>?_) (λd=>?_)⟩
 ·have d:Num.valid b=ak:=by simpa using d
  refine⟨?_,Ok.refl w⟩;unfold Gr;rw[iN (λe=>by rw[e.2]at d;cases d)];rfl
 have d:Num.valid b=af:=by simpa using d
 have hS:Gr a b=ur (Num.val a+Num.val b):=by unfold Gr;rw[iP ⟨g,d⟩]
 rw[hS];refine(vO g w).mono ?_;rintro _ h2 ⟨a2,k,c2,rfl,o2,I⟩;refine⟨_,_,_,rfl,(vO d I.wf).mono ?_⟩;rintro _ h3 ⟨a3,f,c3,rfl,o3,B⟩;refine⟨_,_,_,rfl,?_⟩;have r1:=o2.rd.ok B;have r2:=o3.rd;have ok:=I.trans B;have W:=B.wf;have x1:k=(jI a).length:=by have:=r1.len;rwa[aG]at this
 have Z:f=(jI b).length:=by have:=r2.len;rwa[aG]at this
 have l1:=tR g;have l2:=tR d;have M:=pB g;have Y:=pB d;have e1:=kM a;have e2:=kM b;generalize jI a=x at*;generalize jI b=y at*;have x2:∀j,jo (cP 10) x y 0 0 j<=1:=by
  intro j
  induction j with
  |zero=>exact cr _
  |succ j ih=>exact XO (cW (by decide) M _) (cW (by decide) Y _) ih
 have s:=Ej (b:=10) (by decide) M Y (max x.length y.length+1) 0 0 (by omega) (by omega) (by omega) (by omega);rw[bV,bV,e1,e2,fh]at s;rw[<-x1,<-Z]at s;have x7:=qw k f;have x6:=pF k f;have x4:max k f<=1000:=max_le.2 ⟨by omega,by omega⟩;have x5:k=max k f\/f=max k f:=by omega
 generalize max k f=N at*;refine DQ a b a2 k c2 a3 f c3 (λE i cy r rn rc g=>i<=N+1/\E=N+1-i/\cy=(jo (cP 10) x y 0 0 i:Nat)/\iB h3 g 3 (ae r rn rc) ((dy (cP 10) x y 0 i 0).map iv)/\Ok h3 g) (λv m=>v=ur (Num.val a+Num.val b)/\Ok h m) (by
  intro E i cy r rn rc;intros;rename_i o hi;obtain⟨f1,f2,rfl,S,l⟩:=hi;have x0:aj an ((i:Int)+1)=((i+1:Nat):Int):=by rw[cj (by omega) (by omega)];omega
  rw[x0];have z:(dy (cP 10) x y 0 i 0).length=i:=jq _ _ _ _ _ _;have t:=mB (cP 10) x y i 0 0;rw[bO]at t;have A:jo (cP 10) x y 0 0 (i+1)=(cP 10 (x.getD i 0) (y.getD i 0) (jo (cP 10) x y 0 0 i)).2:=by
   show(cP 10 (x.getD (0+i) 0) (y.getD (0+i) 0) _).2=_;rw[bO]
  have x8:=x2 i;have hp:=cW (by omega) M i;have hq:=cW (by omega) Y i;generalize jo (cP 10) x y 0 0 i=F at*;have n:∀hg:i<N+1,aW 274 [(ae a2 k c2),(aA (i:Int))] o (λv m=>v=aA (x.getD i 0:Nat)/\m=o)/\aW 274 [(ae a3 f c3),(aA (i:Int))] o (λv m=>v=aA (y.getD i 0:Nat)/\m=o):=λ_=>⟨zJ (r1.ok l) i,zJ (r2.ok l) i⟩
  have H:aj an (((x.getD i 0:Nat):Int)+((y.getD i 0:Nat):Int))=((x.getD i 0+y.getD i 0:Nat):Int):=by rw[cj (by omega) (by omega)];omega
  have G:aj an (((x.getD i 0+y.getD i 0:Nat):Int)+(F:Int))=((x.getD i 0+y.getD i 0+F:Nat):Int):=by rw[cj (by omega) (by omega)];omega
  refine ay (λD=>?_) (λD=>ay (λC=>?_) (λC=>?_))
  ·have D:=dT D;obtain⟨T,O⟩:=n (by omega);refine T.mono ?_;rintro _ _ ⟨rfl,rfl⟩;refine⟨_,rfl,O.mono ?_⟩;rintro _ _ ⟨rfl,rfl⟩;rename_i o;refine⟨_,rfl,?_⟩;dsimp only;rw[H,G];obtain⟨R,P,L,u,Q,g7,J,V⟩:=Jo W l S (((x.getD i 0+y.getD i 0+F)%10:Nat):Int) (by rw[aG,z];omega);refine⟨_,abZ,_,_,_,qi _,R,P,L,u,Q,_,abG (by omega),um (E-1) (by omega) ⟨by omega,by omega,by rw[A];rfl,?_,V⟩⟩;rw[t,bU];exact J
  ·have C:=dT C;obtain⟨T,O⟩:=n (by omega);refine T.mono ?_;rintro _ _ ⟨rfl,rfl⟩;refine⟨_,rfl,O.mono ?_⟩;rintro _ _ ⟨rfl,rfl⟩;rename_i o;refine⟨_,rfl,?_⟩;dsimp only;rw[H,G];obtain⟨R,P,L,u,Q,g7,J,V⟩:=Jo W l S (((x.getD i 0+y.getD i 0+F)%10:Nat):Int) (by rw[aG,z];omega);refine⟨_,abZ,_,_,_,qi _,R,P,L,u,Q,_,abG (by omega),um (E-1) (by omega) ⟨by omega,by omega,by rw[A];rfl,?_,V⟩⟩;rw[t,bU];exact J
  ·have D:=dF D;have C:=dF C;obtain rfl:i=N+1:=by omega
   refine(xl S.rd (nP (λp q c=>dP _ (by decide)) _ _ _ 0 0) (by rw[z];omega) l.wf).mono ?_;rintro _ h4 ⟨rfl,x3⟩;refine⟨_,rfl,?_⟩;rw[s];refine(Bs _ h4).mono ?_;rintro _ _ ⟨rfl,rfl⟩;exact Hn (K:=λv=>v=ur (Num.val a+Num.val b)/\Ok h _) (Dg _) ⟨rfl,(ok.trans l).trans x3⟩)
  (N+1) (i:=0) ⟨by omega,by omega,rfl,.inl ⟨rfl,rfl⟩,Ok.refl W⟩
end Go.Proofs.YtnlccnpbjeiccaaGreatDoor
end
section
set_option linter.defProp false
namespace Go.Proofs.YtnlccnpbjeiccaaGreatDoor
open Go Go.Ab Go.Num
variable{k:Nat}{n:Nat}{m:Nat}{h:aw}{a:Option aF}{g:aw}{x:List Nat}
noncomputable def ti3:TypeInfo:=(au.info? 3).getD default
theorem aik:au.info? 3=aa ti3:=by kernel_rfl
theorem acL:ti3.size=1:=by kernel_rfl
theorem YR:ti3.bytes=8:=by kernel_rfl
theorem aku:zeroOf au 3=aa (iv 0):=by kernel_rfl
theorem ahA(n:Nat)(a:n<=100000):cK au 27 (aA (n:Int)) (aA (n:Int))=aa (.cells ((aH n 0).map iv) 3 1 af,pw n n):=by
 unfold cK dz;dsimp only;rw[fs]
 try dsimp only
 change (match au.info? 3,zeroOf au 3 with
  |some i,aa z=>(if z.cells.size=i.size/\0<i.size/\(0:Int)<=(n:Int)/\(n:Int)<=(n:Int)/\(n:Int)*i.bytes<=140737488355328/\(n:Int)<=1099511627776 then aa (eE.cells (eO z.cells.toList (n:Int).toNat) 3 i.size af,λk=>ae (aa ⟨k,0,none⟩) (n:Int).toNat (n:Int).toNat)else none)
  |_,_=>none)=_
 rw[aik,aku];dsimp only;rw[acL,YR,iP ⟨rfl,by omega,by omega,fU _,by omega,by omega⟩];have e:((n:Int)).toNat=n:=by omega
 rw[e,show(iv 0).cells.toList=[iv 0]from rfl,qh,List.map_replicate];rfl
theorem ajv{c:Nat}{i:Int}(b:0<=i)(a:i<m):aZ au 27 (gG k n m c) (aA i)=aa (cn k (n+i.toNat*1)):=Gw fs wu b a
theorem atI{c:Nat}{l:List Nat}(r:Rd h 3 (ae a n c) (l.map iv)){i:Int}(e:0<=i)(f:i<l.length):∃p:aF,aZ au 27 (ae a n c) (aA i)=aa (bN p)/\aM au 3 h (bN p)=aa (aA (l.getD i.toNat 0:Nat)):=by
 obtain⟨p,d,b⟩:=r.at_ fs wu rk ri (k:= an) (i:=i) e (by rw[aG];omega);rw[zi l i.toNat (by omega)]at b;exact⟨p,d,b⟩
theorem Ho(n:Int):iz 4 (aA n) (aA n)=af:=by simp[iz]
structure RP(hb:aw)(kt N:Nat)(L:List Nat)(g:aw):Prop where
 len:L.length=N
 lt:∀d∈L,d<10
 row:yr hb kt 3 (L.map iv) g
theorem RP.get{c:Nat}{f:aw}(a:RP g n m x f){jn:Nat}(b:jn<m):aZ SS.P 27 (.slice (some ⟨n,0,none⟩) m c) (.int .i64 (jn:Int))=some (.pointer (some ⟨n,0+(jn:Int).toNat*1,none⟩))/\aM SS.P 3 f (.pointer (some ⟨n,0+(jn:Int).toNat*1,none⟩))=some (.int .i64 (x.getD jn 0:Nat))/\
  ∀d:Nat,d<10->Wf g->∃u:dJ,aQ SS.P 3 (.pointer (some ⟨n,0+(jn:Int).toNat*1,none⟩)) (.int .i64 (d:Int)) f=some (undef,u)/\RP g n m (x.set jn d) (u.app f):=by
 have e:0+(jn:Int).toNat*1=jn:=by omega
 refine⟨ajv (by omega) (by omega),?_,?_⟩
 ·rw[e,da rk ri a.row.row (by rw[lM,a.len];exact b),zi x jn (by rw[a.len];exact b)]
 ·intro d j w;rw[e];refine⟨_,eu wu a.row.row (by rw[lM,a.len];exact b) rfl rfl,by rw[List.length_set];exact a.len,λe i=>?_,?_⟩
  ·rcases List.mem_or_eq_of_mem_set i with h|h
   ·exact a.lt e h
   ·rw[h];exact j
  ·have:=a.row.set w jn (.int .i64 (d:Int));rw[show(Value.int .i64 (d:Int))=iv d from rfl,Oc iv x jn d]at this;rw[show(Value.int .i64 (d:Int))=iv d from rfl,Oc iv x jn d];exact this
def agt(a:aw)(c N n:Nat)(x y:List Nat)(b i:Nat)(g:aw):Prop:=i<=n/\b=n-i/\∃L,RP a c N L g/\Num.bv 10 L=Num.bv 10 (x.take i)*Num.bv 10 y
def ald(b:aw)(d N k:Nat)(x y:List Nat)(i c j:Nat)(cy:Int)(g:aw):Prop:=j<=k+1/\c=k+1-j/\∃(L:List Nat)(a:Nat),cy=(a:Int)/\a<10/\RP b d N L g/\Num.bv 10 L+a*10^(i+j)=Num.bv 10 (x.take i)*Num.bv 10 y+x.getD i 0*Num.bv 10 (y.take j)*10^i
def ab5{f:aw}(w:Wf f){a:Option aF}{n c:Nat}{b:Option aF}{k d:Nat}{s N tc:Nat}{x y:List Nat}(V:Rd f 3 (ae a n c) (x.map iv))(U:Rd f 3 (ae b k d) (y.map iv))(H:∀d∈x,d<10)(K:∀d∈y,d<10){i:Nat}(hi:i<n)(hn:n=x.length)(hk:k=y.length)(hN:N=n+k+1)(x0:N<=10000)(l m:List UInt8)(Q:VH)(D:Nat)(x2:D=n-i):=
 DW l m a n c b k d (aa ⟨s,0,none⟩) N tc (agt f s N n x y) D i (ald f s N k x y i) Q (by
  intro G j cy;intros;rename_i g C;obtain⟨h1,h2,L,o,rfl,R,e,I⟩:=C;have M:aj an ((i:Int)+(j:Int))=((i+j:Nat):Int):=by rw[cj (by omega) (by omega)];omega
  have e2:aj an ((j:Int)+1)=((j+1:Nat):Int):=by rw[cj (by omega) (by omega)];omega
  have W:aj an ((i:Int)+1)=((i+1:Nat):Int):=by rw[cj (by omega) (by omega)];omega
  rw[M,e2,W];refine ay (λr=>?_) (λr=>?_)
  ·have r:=dT r;have h:RP f s N L (Go.Ab.room g 18):=⟨e.len,e.lt,⟨e.row.row,e.row.new,e.row.ok.room 18⟩⟩
   obtain⟨J,E,g3⟩:=h.get (c:=tc) (jn:=i+j) (by omega);obtain⟨O,f1,A⟩:=atI (V.ok h.row.ok) (i:=(i:Int)) (by omega) (by omega);rw[bn]at A;refine⟨_,J,_,E,O,f1,_,A,(zJ (U.ok h.row.ok) j).mono ?_⟩;rintro _ _ ⟨rfl,rfl⟩;refine⟨_,rfl,⟨E,Ho _⟩,⟨A,Ho _⟩,?_⟩;have v:=cW (b:=10) (by decide) H i;have t:=cW (b:=10) (by decide) K j;have x1:=cW (b:=10) (by decide) e.lt (i+j);obtain⟨q,z⟩:∃q,q=x.getD i 0*y.getD j 0:=⟨_,rfl⟩
   have x3:q<=81:=by rw[z];exact bK (dC (Nat.le_of_lt_succ v) (Nat.le_of_lt_succ t)) (by decide)
   have F:=BA (B:=10) (by decide) (L:=L) (y:=y) (i:=i) (k:=j) (cy:=o) (xi:=x.getD i 0) (P:=Num.bv 10 (x.take i)*Num.bv 10 y) (p:=L.getD (i+j) 0+o+q) e.lt (by rw[e.len];omega) R v t (by rw[z]) I;have X:aj an (((x.getD i 0:Nat):Int)*((y.getD j 0:Nat):Int))=(q:Int):=by rw[<-gW,<-z];exact cj (by omega) (by omega)
   rw[X];have e5:aj an (((L.getD (i+j) 0:Nat):Int)+(q:Int))=((L.getD (i+j) 0+q:Nat):Int):=by rw[cj (by omega) (by omega)];omega
   rw[e5];have Z:aj an (((L.getD (i+j) 0+q:Nat):Int)+(o:Int))=((L.getD (i+j) 0+o+q:Nat):Int):=by rw[cj (by omega) (by omega)];omega
   rw[Z];generalize L.getD (i+j) 0+o+q=T at*;obtain⟨u,Y,S⟩:=g3 (T%10) (dP _ (by decide)) w;refine⟨_,abZ,_,J,u,Y,_,abG (by omega),pe (G-1) (by omega) ⟨by omega,by omega,_,_,rfl,F.2.1,S,F.2.2⟩⟩
  ·have r:=dF r;obtain rfl:j=k+1:=by omega
   refine fG (n-(i+1)) (by omega) ⟨by omega,rfl,L,e,?_⟩;exact KP (by decide) H K (by omega) e.lt (by rw[<-hk];exact I))
theorem Yp(a b:List UInt8){h:aw}(w:Wf h):aW 253 [strOf a,strOf b] h (λv r=>v=GD a b/\Ok h r):=by
 refine Yo a b h _ ((ie a h).mono ?_);rintro _ t ⟨rfl,s⟩;obtain rfl:h=t:=s.symm;refine⟨_,rfl,ay (λg=>?_) (λg=>?_)⟩
 ·have g:Num.valid a=ak:=by simpa using g
  refine⟨?_,Ok.refl w⟩;unfold GD;rw[iN (λe=>by rw[e.1]at g;cases g)];rfl
 have g:Num.valid a=af:=by simpa using g
 refine(ie b h).mono ?_;rintro _ t ⟨rfl,s⟩;obtain rfl:h=t:=s.symm;refine⟨_,rfl,ay (λk=>?_) (λk=>?_)⟩
 ·have k:Num.valid b=ak:=by simpa using k
  refine⟨?_,Ok.refl w⟩;unfold GD;rw[iN (λe=>by rw[e.2]at k;cases k)];rfl
 have k:Num.valid b=af:=by simpa using k
 have T:GD a b=ur (Num.val a*Num.val b):=by unfold GD;rw[iP ⟨g,k⟩]
 rw[T];refine(vO g w).mono ?_;rintro _ h2 ⟨I,c,V,rfl,W,q⟩;refine⟨_,_,_,rfl,(vO k q.wf).mono ?_⟩;rintro _ m ⟨O,f,Q,rfl,P,o⟩;refine⟨_,_,_,rfl,?_⟩;have A:=W.rd.ok o;have C:=P.rd;have ok:=q.trans o;have E:=o.wf;have D:c=(jI a).length:=by have:=A.len;rwa[aG]at this
 have z:f=(jI b).length:=by have:=C.len;rwa[aG]at this
 have l1:=tR g;have l2:=tR k;have M:=pB g;have hy:=pB k;have N:=kM a;have J:=kM b;generalize jI a=x at*;generalize jI b=y at*;generalize Num.val a=X at*;generalize Num.val b=Y at*;have H:aj an (aj an ((c:Int)+(f:Int))+1)=((c+f+1:Nat):Int):=by
  rw[cj (n:=(c:Int)+(f:Int)) (by omega) (by omega),cj (by omega) (by omega)];omega
 dsimp only;rw[H];refine⟨_,_,_,ahA _ (by omega),?_⟩;have U:RP m m.ax (c+f+1) (aH (c+f+1) 0) (m.push (.cells ((aH (c+f+1) 0).map iv) 3 1 af)):=by
  refine⟨bE,λd hd=>by rw[(List.mem_replicate.1 hd).2];decide,?_,aS _,(Ok.refl E).push _⟩;rw[aw.cZ,iP rfl]
 refine DV a b I c V O f Q (aa ⟨m.ax,0,none⟩) (c+f+1) (c+f+1) (agt m m.ax (c+f+1) c x y) (λv r=>v=ur (X*Y)/\Ok h r) (λG i=>?_) c (i:=0) ⟨by omega,by omega,_,U,by rw[yG,dU];simp[Num.bv]⟩;intros;rename_i gg S;obtain⟨f1,R,L,l,u⟩:=S;refine ay (λp=>?_) (λp=>?_)
 ·have p:=dT p;exact ab5 E A C M hy (i:=i) (by omega) D z rfl (by omega) a b _ G R (f+1) (j:=0) (cy:=0) ⟨by omega,by omega,L,0,rfl,by decide,l,by rw[u,dU];simp[Num.bv]⟩
 ·have p:=dF p;obtain rfl:c=i:=by omega
  rw[bm (by omega),N,J]at u;have F:=l.row.rd (c+f+1);rw[aG,l.len]at F;refine(xl F l.lt (by rw[l.len];omega) l.row.ok.wf).mono ?_;rintro _ Z ⟨rfl,B⟩;refine⟨_,rfl,?_⟩;rw[u];refine(Bs _ Z).mono ?_;rintro _ _ ⟨rfl,rfl⟩;exact Hn (K:=λv=>v=ur (X*Y)/\Ok h _) (Dg _) ⟨rfl,(ok.trans l.row.ok).trans B⟩
end Go.Proofs.YtnlccnpbjeiccaaGreatDoor
end
