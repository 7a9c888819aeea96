/- Laws and walks that the proof leans on (part 3): W11; W12; W1; P1; W2; P2 and others. No condition. -/
import Derived.Test.YtnlccnpbjeiccaaGreatDoorPart2
set_option linter.unusedVariables false
set_option linter.unusedSimpArgs false
set_option maxRecDepth 100000
open BitVec renaming ofInt → cZ
open Bool renaming and_eq_true → bg, false → aj, false_eq_true → dG, true → af
open Go renaming Addr → aJ, Oper → aR, Operand → bm, Program → aO, TypeId → aF, Value → ag
open Go.IntKind renaming bits → dr, i64 → ak, u32 → aP, u64 → aw, u8 → aK, wrap → ai
open Go.Value renaming agg → al, bool → ah, func → aN, int → aC, pointer → bj, slice → ae, tuple → av
open Int renaming le_refl → gr, toNat_natCast → bc
open List renaming all_append → gH, all_cons → ep, all_eq_true → bY, append_assoc → bP, append_nil → cp, drop_eq_getElem_cons → cX, drop_of_length_le → gT, drop_zero → bO, eq_nil_of_length_eq_zero → bE, length_append → bF, length_cons → bU, length_drop → da, length_map → aH, length_pos_iff → fE, length_replicate → bX, length_set → dt, length_singleton → de, length_take → bq, map_append → bK, map_cons → eK, map_replicate → jO, mem_append → bG, mem_of_mem_take → dy, mem_singleton → ba, nil_append → dL, range → dA, replicate → aQ, take_add_one → fM, take_append_drop → dM, take_length → fi, take_of_length_le → bC, take_succ_eq_append_getElem → eH, take_zero → dQ
open Nat renaming add_zero → eR, beq → dk, blt → cQ, div_eq_of_lt → hW, div_lt_of_lt_mul → eB, eq_zero_or_pos → dv, le_add_right → du, le_max_left → pJ, le_max_right → oH, le_refl → aT, le_succ → fA, le_trans → bN, lt_of_lt_of_le → cD, lt_or_ge → db, min_eq_left → dI, mod_add_div → jP, mod_eq_of_lt → ef, mod_lt → dJ, mul_add → kh, mul_assoc → iI, mul_comm → cS, mul_le_mul → fy, mul_le_mul_left → eS, mul_one → dB, mul_zero → hZ, pow_le_pow_right → di, pow_succ → fF, zero_add → bJ, zero_le → ck, zero_mul → kj
open Option renaming some → aa
open Option.some renaming inj → aG
open UInt8 renaming toNat_inj → fL
open List (getElem?_eq_none getElem?_map map_drop map_take take_take)
open Nat (le_of_lt max_le mul_pos pow_add sub_zero)
open Go.IntKind (wrap_i64)
section
namespace Go.Proofs.YtnlccnpbjeiccaaGreatDoor
open Go Go.Ab Go.Num
variable{s:List UInt8}{t:List UInt8}{z:Int}{v:ag}{w:ag}{h:au}{Q:VH}{b:Bool}{e:aJ}
noncomputable def TZ:FD:=gU Tryz.f236 []
theorem Qb(l m:LB)(h:au)(Q:VH)(c:aX 258 [(strOf l),(strOf m)] h λe a=>yB e λb=>cq (!b) (Q (av ⟨[(strOf l),(ah aj)]⟩) a) (xS (dN aq 9 (strOf l) (aa (aE (m.length:Int))) none none a) λd=>Q (av ⟨[(strOf d),(ah af)]⟩) a)):aX 236 [(strOf l),(strOf m)] h Q:=hH TZ Tryz.func236 (bD c)
noncomputable def Xr:FD:=gU Tryz.f201 []
theorem T0(l m:LB)(h:au)(Q:VH)(c:aX 236 [(strOf l),(strOf m)] h λe d=>∃b:LB,∃a:Bool,e=(av ⟨[(strOf b),(ah a)]⟩)/\Q (av ⟨[(strOf b),(ah a)]⟩) d):aX 201 [(strOf l),(strOf m)] h Q:=hH Xr Tryz.func201 (bD c)
noncomputable def Qs:FD:=gU Tryz.f279 []
theorem NS(l:LB)(c:Int)(h:au)(Q:VH)(b:aX 290 [(strOf l),(aC aK c)] h λe d=>yI ak e λa=>Q (aE a) d):aX 279 [(strOf l),(aC aK c)] h Q:=hH Qs Tryz.func279 (bD b)
noncomputable def XV:FD:=gU Tryz.f259 []
theorem Uj(l:LB)(h:au)(Q:VH)(d:cq (([47]:LB)==l) (Q (aE 0) h) (xI aK (dE aq 9 (strOf [47]) (aE 0)) λa=>aX 279 [(strOf l),(aC aK a)] h λb c=>yI ak b λe=>Q (aE e) c)):aX 259 [(strOf l),(strOf [47])] h Q:=hH XV Tryz.func259 (bD d)
noncomputable def aeh:FD:=gU Tryz.f237 []
theorem abh(l:LB)(h:au)(Q:VH)(c:aX 259 [(strOf l),(strOf [47])] h λe a=>yI ak e λb=>cq (decide (b>=0)) (xS (dN aq 9 (strOf l) none (aa (aE b)) none (room a 12)) λd=>xS (dN aq 9 (strOf l) (aa (aE (ai ak (b+1)))) none none (room a 12)) λf=>Q (av ⟨[(strOf d),(strOf f),(ah af)]⟩) (room a 12)) (Q (av ⟨[(strOf l),(strOf []),(ah aj)]⟩) a)):aX 237 [(strOf l),(strOf [47])] h Q:=hH aeh Tryz.func237 (bD c)
noncomputable def afZ:FD:=gU Tryz.f202 []
theorem aei(l:LB)(h:au)(Q:VH)(d:aX 237 [(strOf l),(strOf [47])] h λf e=>∃a:LB,∃c:LB,∃b:Bool,f=(av ⟨[(strOf a),(strOf c),(ah b)]⟩)/\Q (av ⟨[(strOf a),(strOf c),(ah b)]⟩) e):aX 202 [(strOf l),(strOf [47])] h Q:=hH afZ Tryz.func202 (bD d)
noncomputable def ry:FD:=gU Tryz.f247 [((pq 37),[0,1,5])]
abbrev mJ(l:LB)(c:Int)(i:Nat):LV:=[(strOf l),(aC aK c),(iA i)]
theorem LS(l:LB)(c:Int)(h:au)(Q:VH)(a:cw ry (pq 37) (mJ l c 0) h (eu ry (pq 21) Q)):aX 247 [(strOf l),(aC aK c)] h Q:=hH ry Tryz.func247 (bD a)
theorem xz(l:LB)(c:Int)  (a:Nat->Nat->au->Prop) (Q:VH) (step:∀(mz:Nat)(i:Nat)(d:Nat->ag)(h:au),a mz i h->cq (decide ((i:Int)<(l.length:Int))) (xI aK (dE aq 9 (strOf l) (iA i)) λe=>cq ((e==c)) (Q (iA i) h) (ct (jg (mJ l c) a) mz [(strOf l),(aC aK c),(aE (ai ak ((i:Int)+1)))] h)) (Q (aE (-1)) h)) (mz:Nat) {i:Nat} {h:au} (b:a mz i h):cw ry (pq 37) (mJ l c i) h (eu ry (pq 21) Q):=
 gm (mJ l c) a (λmz i d h b=>bD (step mz i d h b)) mz b
noncomputable def OG:FD:=gU Tryz.f248 []
theorem LX(l:LB)(h:au)(Q:VH)(b:cq (decide ((l.length:Int)<=400)) (aX 271 [(strOf l)] h λd c=>yB d λa=>Q (ah a) c) (Q (ah aj) h)):aX 248 [(strOf l)] h Q:=hH OG Tryz.func248 (bD b)
noncomputable def bT:FD:=gU Tryz.f225 []
abbrev En(l:LB)(cc:Code)(h:au)(Q:VH):Prop:=cq (decide ((l.length:Int)>0)) (xI aK (dE aq 9 (strOf l) (aE 0)) λc=>cq ((c==45)) (xS (dN aq 9 (strOf l) (aa (aE 1)) none none h) λe=>aX 247 [(strOf e),(aC aK 47)] h λr g=>yI ak r λd=>cq (decide (d>=0)) (xS (dN aq 9 (strOf e) (aa (aE (ai ak (d+1)))) none none g) λp=>xS (dN aq 9 (strOf e) none (aa (aE d)) none g) λo=>wpS SS bT.nm bT.ms (pq 127) cc (uN [(strOf l),undef,(ah aj),(strOf []),(strOf []),(ah aj),(strOf o),(strOf p),(ah ((c==45))),(aE d),undef,undef,(strOf l),(strOf l),(aE (l.length:Int)),(ah (decide ((l.length:Int)>0))),(ah af),(strOf l),(aC aK c),(ah ((c==45))),(ah ((c==45))),(ah ((c==45))),(strOf l),(strOf e),(strOf e),(aE d),(aE d),(ah (decide (d>=0))),(strOf e),(aE d),(aE (ai ak (d+1))),(strOf p),(strOf e),(aE d),(strOf o)] 46) g (mK bT Q)) (wpS SS bT.nm bT.ms (pq 127) cc (uN [(strOf l),undef,(ah aj),(strOf []),(strOf []),(ah aj),(strOf e),(strOf [49]),(ah ((c==45))),(aE d),undef,undef,(strOf l),(strOf l),(aE (l.length:Int)),(ah (decide ((l.length:Int)>0))),(ah af),(strOf l),(aC aK c),(ah ((c==45))),(ah ((c==45))),(ah ((c==45))),(strOf l),(strOf e),(strOf e),(aE d),(aE d),(ah (decide (d>=0)))] 53) g (mK bT Q))) (aX 247 [(strOf l),(aC aK 47)] h λs i=>yI ak s λb=>cq (decide (b>=0)) (xS (dN aq 9 (strOf l) (aa (aE (ai ak (b+1)))) none none i) λn=>xS (dN aq 9 (strOf l) none (aa (aE b)) none i) λk=>wpS SS bT.nm bT.ms (pq 127) cc (uN [(strOf l),undef,(ah aj),(strOf []),(strOf []),(ah aj),(strOf k),(strOf n),(ah ((c==45))),(aE b),undef,undef,(strOf l),(strOf l),(aE (l.length:Int)),(ah (decide ((l.length:Int)>0))),(ah af),(strOf l),(aC aK c),(ah ((c==45))),(ah ((c==45))),(ah ((c==45))),undef,undef,(strOf l),(aE b),(aE b),(ah (decide (b>=0))),(strOf l),(aE b),(aE (ai ak (b+1))),(strOf n),(strOf l),(aE b),(strOf k)] 46) i (mK bT Q)) (wpS SS bT.nm bT.ms (pq 127) cc (uN [(strOf l),undef,(ah aj),(strOf []),(strOf []),(ah aj),(strOf l),(strOf [49]),(ah ((c==45))),(aE b),undef,undef,(strOf l),(strOf l),(aE (l.length:Int)),(ah (decide ((l.length:Int)>0))),(ah af),(strOf l),(aC aK c),(ah ((c==45))),(ah ((c==45))),(ah ((c==45))),undef,undef,(strOf l),(aE b),(aE b),(ah (decide (b>=0)))] 53) i (mK bT Q)))) (aX 247 [(strOf l),(aC aK 47)] h λq f=>yI ak q λa=>cq (decide (a>=0)) (xS (dN aq 9 (strOf l) (aa (aE (ai ak (a+1)))) none none f) λm=>xS (dN aq 9 (strOf l) none (aa (aE a)) none f) λj=>wpS SS bT.nm bT.ms (pq 127) cc (uN [(strOf l),undef,(ah aj),(strOf []),(strOf []),(ah aj),(strOf j),(strOf m),(ah aj),(aE a),undef,undef,(strOf l),(strOf l),(aE (l.length:Int)),(ah (decide ((l.length:Int)>0))),(ah aj),undef,undef,undef,(ah aj),(ah aj),undef,undef,(strOf l),(aE a),(aE a),(ah (decide (a>=0))),(strOf l),(aE a),(aE (ai ak (a+1))),(strOf m),(strOf l),(aE a),(strOf j)] 46) f (mK bT Q)) (wpS SS bT.nm bT.ms (pq 127) cc (uN [(strOf l),undef,(ah aj),(strOf []),(strOf []),(ah aj),(strOf l),(strOf [49]),(ah aj),(aE a),undef,undef,(strOf l),(strOf l),(aE (l.length:Int)),(ah (decide ((l.length:Int)>0))),(ah aj),undef,undef,undef,(ah aj),(ah aj),undef,undef,(strOf l),(aE a),(aE a),(ah (decide (a>=0)))] 53) f (mK bT Q)))
theorem LW(l:LB)(h:au)(Q:VH)(a:En l (oh (pq 127) bT.body) h Q):aX 225 [(strOf l)] h Q:=by
 have e:∀cc,En l cc h Q=wpS SS bT.nm bT.ms [] (setAt (pq 127) cc bT.body) ([(strOf l)]++aQ (bT.nm-([(strOf l)]:LV).length) undef) h (mK bT Q):=λcc=>by kernel_rfl
 have e:=e (oh (pq 127) bT.body);rw[mj]at e;exact hH bT Tryz.func225 (bD a e)
abbrev xD(n d:LB)(neg:Bool)(a:Int)(cc:Code)(Z x1 X x3 Y W K L m H x P U G O M o l k w z V J B s I D p S i j x7 y9 u5 u4 y8 y3 y1 y6 z2 y0 x9 u0 u6 u3 z4 u2 z5 y5 x8 z9 x6 u1 z6 z7 y7 z8 y4 z1 z3 z0 y2 q t C r u A T E F y f g v N R:ag)(h:au)(Q:VH):Prop:=aX 248 [(strOf n)] h λv1 h2=>yB v1 λe=>cq (!e) (Q (av ⟨[(ah aj),(strOf []),(strOf []),(ah aj)]⟩) h2) (aX 248 [(strOf d)] h2 λv4 c=>yB v4 λb=>cq (!b) (Q (av ⟨[(ah aj),(strOf []),(strOf []),(ah aj)]⟩) c) (cq ((d:LB)==[48]) (Q (av ⟨[(ah aj),(strOf []),(strOf []),(ah aj)]⟩) c) (cq ((n:LB)==[48]) (cq neg (Q (av ⟨[(ah aj),(strOf []),(strOf []),(ah aj)]⟩) c) (cq (decide ((a:Int)>=0)) (Q (av ⟨[(ah aj),(strOf []),(strOf []),(ah aj)]⟩) c) (cq ((d:LB)==[49]) (cq (decide ((a:Int)>=0)) (Q (av ⟨[(ah aj),(strOf []),(strOf []),(ah aj)]⟩) c) (wpS SS bT.nm bT.ms (pq 255) cc [Z,x1,X,x3,Y,W,(strOf n),(strOf d),(ah neg),(aE a),K,L,m,H,x,P,U,G,O,M,o,l,k,w,z,V,J,B,s,I,D,p,S,i,j,(strOf n),(ah e),(ah (!e)),(ah aj),(strOf d),(ah b),(ah (!b)),(ah (!b)),(ah aj),(strOf d),(ah ((d:LB)==[48])),(ah ((d:LB)==[48])),(ah aj),(strOf n),(ah ((n:LB)==[48])),(ah af),(ah neg),(ah aj),(aE a),(ah (decide ((a:Int)>=0))),(ah (decide ((a:Int)>=0))),(ah (decide ((a:Int)>=0))),(ah (decide ((a:Int)>=0))),(ah aj),(strOf d),(ah ((d:LB)==[49])),(ah af),(aE a),(ah (decide ((a:Int)>=0))),(ah (decide ((a:Int)>=0))),(ah (decide ((a:Int)>=0))),q,t,C,r,u,A,T,E,F,y,f,g,v,N,R] c (mK bT Q))) (wpS SS bT.nm bT.ms (pq 255) cc [Z,x1,X,x3,Y,W,(strOf n),(strOf d),(ah neg),(aE a),K,L,m,H,x,P,U,G,O,M,o,l,k,w,z,V,J,B,s,I,D,p,S,i,j,(strOf n),(ah e),(ah (!e)),(ah aj),(strOf d),(ah b),(ah (!b)),(ah (!b)),(ah aj),(strOf d),(ah ((d:LB)==[48])),(ah ((d:LB)==[48])),(ah aj),(strOf n),(ah ((n:LB)==[48])),(ah af),(ah neg),(ah aj),(aE a),(ah (decide ((a:Int)>=0))),(ah (decide ((a:Int)>=0))),(ah (decide ((a:Int)>=0))),(ah (decide ((a:Int)>=0))),(ah aj),(strOf d),(ah ((d:LB)==[49])),(ah aj),undef,undef,(ah aj),(ah aj),q,t,C,r,u,A,T,E,F,y,f,g,v,N,R] c (mK bT Q))))) (cq ((d:LB)==[49]) (cq (decide ((a:Int)>=0)) (Q (av ⟨[(ah aj),(strOf []),(strOf []),(ah aj)]⟩) c) (wpS SS bT.nm bT.ms (pq 255) cc [Z,x1,X,x3,Y,W,(strOf n),(strOf d),(ah neg),(aE a),K,L,m,H,x,P,U,G,O,M,o,l,k,w,z,V,J,B,s,I,D,p,S,i,j,(strOf n),(ah e),(ah (!e)),(ah aj),(strOf d),(ah b),(ah (!b)),(ah (!b)),(ah aj),(strOf d),(ah ((d:LB)==[48])),(ah ((d:LB)==[48])),(ah aj),(strOf n),(ah ((n:LB)==[48])),(ah aj),undef,undef,undef,undef,undef,(ah aj),(ah aj),(ah aj),(strOf d),(ah ((d:LB)==[49])),(ah af),(aE a),(ah (decide ((a:Int)>=0))),(ah (decide ((a:Int)>=0))),(ah (decide ((a:Int)>=0))),q,t,C,r,u,A,T,E,F,y,f,g,v,N,R] c (mK bT Q))) (wpS SS bT.nm bT.ms (pq 255) cc [Z,x1,X,x3,Y,W,(strOf n),(strOf d),(ah neg),(aE a),K,L,m,H,x,P,U,G,O,M,o,l,k,w,z,V,J,B,s,I,D,p,S,i,j,(strOf n),(ah e),(ah (!e)),(ah aj),(strOf d),(ah b),(ah (!b)),(ah (!b)),(ah aj),(strOf d),(ah ((d:LB)==[48])),(ah ((d:LB)==[48])),(ah aj),(strOf n),(ah ((n:LB)==[48])),(ah aj),undef,undef,undef,undef,undef,(ah aj),(ah aj),(ah aj),(strOf d),(ah ((d:LB)==[49])),(ah aj),undef,undef,(ah aj),(ah aj),q,t,C,r,u,A,T,E,F,y,f,g,v,N,R] c (mK bT Q))))))
theorem E5{neg:Bool}{x2 x3 x4 x5 y4 y6 x y0 N z2 z9 x9 z1 y8 y p m M P u2 y3 U H y2 Y D z7 f l d C u0 z6 B o k u R j i y7 u1 z4 V z3 X r g y5 a y9 Z x7 A y1 q K S G n E I W F J T z8 x6 x8 O b c L z0 z5:ag}(hx:xD s t neg z (oh (pq 255) bT.body) v w x2 x3 x4 x5 y4 y6 x y0 N z2 z9 x9 z1 y8 y p m M P u2 y3 U H y2 Y D z7 f l d C u0 z6 B o k u R j i y7 u1 z4 V z3 X r g y5 a y9 Z x7 A y1 q K S G n E I W F J T z8 x6 x8 O b c L z0 z5 h Q):TT SS bT (pq 127) [v,w,x2,x3,x4,x5,(strOf s),(strOf t),(ah neg),(aE z),y4,y6,x,y0,N,z2,z9,x9,z1,y8,y,p,m,M,P,u2,y3,U,H,y2,Y,D,z7,f,l,d,C,u0,z6,B,o,k,u,R,j,i,y7,u1,z4,V,z3,X,r,g,y5,a,y9,Z,x7,A,y1,q,K,S,G,n,E,I,W,F,J,T,z8,x6,x8,O,b,c,L,z0,z5] h (mK bT Q):=by
 have e:∀cc,xD s t neg z cc v w x2 x3 x4 x5 y4 y6 x y0 N z2 z9 x9 z1 y8 y p m M P u2 y3 U H y2 Y D z7 f l d C u0 z6 B o k u R j i y7 u1 z4 V z3 X r g y5 a y9 Z x7 A y1 q K S G n E I W F J T z8 x6 x8 O b c L z0 z5 h Q=wpS SS bT.nm bT.ms (pq 127) (setAt [1] cc (oh (pq 127) bT.body)) [v,w,x2,x3,x4,x5,(strOf s),(strOf t),(ah neg),(aE z),y4,y6,x,y0,N,z2,z9,x9,z1,y8,y,p,m,M,P,u2,y3,U,H,y2,Y,D,z7,f,l,d,C,u0,z6,B,o,k,u,R,j,i,y7,u1,z4,V,z3,X,r,g,y5,a,y9,Z,x7,A,y1,q,K,S,G,n,E,I,W,F,J,T,z8,x6,x8,O,b,c,L,z0,z5] h (mK bT Q):=λcc=>by kernel_rfl
 have e:=e (oh (pq 255) bT.body);have ec:(oh (pq 255) bT.body)=oh [1] (oh (pq 127) bT.body):=by kernel_rfl
 have es:setAt [1] (oh (pq 255) bT.body) (oh (pq 127) bT.body)=oh (pq 127) bT.body:=by rw[ec,mj]
 rw[es]at e;exact bD hx e
theorem E6{neg:Bool}{x2 x3 x4 x5 y4 y6 x y0 N z2 z9 x9 z1 y8 y p m M P u2 y3 U H y2 Y D z7 f l e C u0 z6 B o k u R j i y7 u1 z4 V z3 X r g y5 b y9 Z x7 A y1 q K S G n E I W F J T z8 x6 x8 O c d L z0 z5:ag}(hx:aX 249 [(strOf s),(strOf t)] h λv1 a=>∃l3:LB,∃n4:Int,v1=(av ⟨[(strOf l3),(aE n4)]⟩)/\cq (!((l3:LB)==[49])) (cq (!((t:LB)==[49])) (Q (av ⟨[(ah aj),(strOf []),(strOf []),(ah aj)]⟩) a) (Q (av ⟨[(ah neg),(strOf s),(strOf t),(ah af)]⟩) a)) (Q (av ⟨[(ah neg),(strOf s),(strOf t),(ah af)]⟩) a)):TT SS bT (pq 255) [v,w,x2,x3,x4,x5,(strOf s),(strOf t),(ah neg),(aE z),y4,y6,x,y0,N,z2,z9,x9,z1,y8,y,p,m,M,P,u2,y3,U,H,y2,Y,D,z7,f,l,e,C,u0,z6,B,o,k,u,R,j,i,y7,u1,z4,V,z3,X,r,g,y5,b,y9,Z,x7,A,y1,q,K,S,G,n,E,I,W,F,J,T,z8,x6,x8,O,c,d,L,z0,z5] h (mK bT Q):=bD hx
noncomputable def OI:FD:=gU Tryz.f188 []
theorem LZ(l:LB)(h:au)(Q:VH)(c:aX 225 [(strOf l)] h λf d=>∃b:Bool,∃e:LB,∃g:LB,∃a:Bool,f=(av ⟨[(ah b),(strOf e),(strOf g),(ah a)]⟩)/\Q (ah a) d):aX 188 [(strOf l)] h Q:=hH OI Tryz.func188 (bD c)
noncomputable def OH:FD:=gU Tryz.f227 []
theorem LY(l m:LB)(h:au)(Q:VH)(b:aX 253 [(strOf l),(strOf m)] h λd c=>∃a:LB,∃e:Int,d=(av ⟨[(strOf a),(aE e)]⟩)/\Q (strOf a) c):aX 227 [(strOf l),(strOf m)] h Q:=hH OH Tryz.func227 (bD b)
noncomputable def Vk:FD:=gU Tryz.f226 []
theorem Ra(p:Bool)(l:LB)(q:Bool)(m:LB)(h:au)(Q:VH)(k:cq (p==q) (aX 250 [(strOf l),(strOf m)] h λt n=>∃f:LB,∃u:Int,t=(av ⟨[(strOf f),(aE u)]⟩)/\Q (av ⟨[(ah p),(strOf f)]⟩) n) (aX 251 [(strOf l),(strOf m)] h λr g=>yI ak r λs=>cq (decide (s>=0)) (aX 252 [(strOf l),(strOf m)] g λj o=>∃b:LB,∃e:Int,j=(av ⟨[(strOf b),(aE e)]⟩)/\Q (av ⟨[(ah p),(strOf b)]⟩) o) (aX 252 [(strOf m),(strOf l)] g λc i=>∃a:LB,∃d:Int,c=(av ⟨[(strOf a),(aE d)]⟩)/\Q (av ⟨[(ah q),(strOf a)]⟩) i))):aX 226 [(ah p),(strOf l),(ah q),(strOf m)] h Q:=hH Vk Tryz.func226 (bD k)
noncomputable def Vj:FD:=gU Tryz.f189 []
theorem Q8(l m:LB)(h:au)(Q:VH)(x:aX 225 [(strOf l)] h λz y=>∃j:Bool,∃s:LB,∃v:LB,∃k:Bool,z=(av ⟨[(ah j),(strOf s),(strOf v),(ah k)]⟩)/\aX 225 [(strOf m)] y λw g=>∃p:Bool,∃c:LB,∃f:LB,∃e:Bool,w=(av ⟨[(ah p),(strOf c),(strOf f),(ah e)]⟩)/\cq (!k) (Q (aE 0) g) (cq (!e) (Q (aE 0) g) (aX 227 [(strOf s),(strOf f)] g λr t=>yS r λi=>aX 227 [(strOf c),(strOf v)] t λn o=>yS n λu=>aX 226 [(ah j),(strOf i),(ah (!p)),(strOf u)] o λq a=>∃b:Bool,∃d:LB,q=(av ⟨[(ah b),(strOf d)]⟩)/\cq ((d:LB)==[48]) (Q (aE 0) a) (cq b (Q (aE (-1)) a) (Q (aE 1) a))))):aX 189 [(strOf l),(strOf m)] h Q:=hH Vj Tryz.func189 (bD x)
noncomputable def Vc:FD:=gU Tryz.f171 []
theorem Q2(l:LB)(e:Int)(h:au)(Q:VH)(a:cq (((e:Int) !=0)) (xA (cJ aq 259 []) λb=>False) (Q (strOf l) h)):aX 171 [(strOf l),(aE e)] h Q:=hH Vc Tryz.func171 (bD a)
noncomputable def bH:FD:=gU Tryz.f169 []
abbrev Hj(l:LB)(cc:Code)(h:au)(Q:VH):Prop:=xN (cP aq 222) h λm j=>aX 201 [(strOf l),(strOf [45])] j λg k=>∃c:LB,∃d:Bool,g=(av ⟨[(strOf c),(ah d)]⟩)/\aX 202 [(strOf c),(strOf [47])] k λi f=>∃e:LB,∃b:LB,∃a:Bool,i=(av ⟨[(strOf e),(strOf b),(ah a)]⟩)/\cq (!a) (wpS SS bH.nm bH.ms (pq 31) cc (uN [(strOf l),undef,(pA (h.aD)),(ah aj),(strOf c),(ah d),(strOf e),(strOf [49]),(ah a),undef,undef,(av ⟨[(strOf c),(ah d)]⟩),(strOf l),(av ⟨[(strOf c),(ah d)]⟩),(strOf c),(ah d),(av ⟨[(strOf e),(strOf b),(ah a)]⟩),(strOf c),(av ⟨[(strOf e),(strOf b),(ah a)]⟩),(strOf e),(strOf b),(ah a),(ah a),(ah (!a))] 53) f (mK bH Q)) (wpS SS bH.nm bH.ms (pq 31) cc (uN [(strOf l),undef,(pA (h.aD)),(ah aj),(strOf c),(ah d),(strOf e),(strOf b),(ah a),undef,undef,(av ⟨[(strOf c),(ah d)]⟩),(strOf l),(av ⟨[(strOf c),(ah d)]⟩),(strOf c),(ah d),(av ⟨[(strOf e),(strOf b),(ah a)]⟩),(strOf c),(av ⟨[(strOf e),(strOf b),(ah a)]⟩),(strOf e),(strOf b),(ah a),(ah a),(ah (!a))] 53) f (mK bH Q))
theorem OD(l:LB)(h:au)(Q:VH)(a:Hj l (oh (pq 31) bH.body) h Q):aX 169 [(strOf l)] h Q:=by
 have e:∀cc,Hj l cc h Q=wpS SS bH.nm bH.ms [] (setAt (pq 31) cc bH.body) ([(strOf l)]++aQ (bH.nm-([(strOf l)]:LV).length) undef) h (mK bH Q):=λcc=>by kernel_rfl
 have e:=e (oh (pq 31) bH.body);rw[mj]at e;exact hH bH Tryz.func169 (bD a e)
abbrev zH(n d:LB)(neg r:Bool)(p:aJ)(cc:Code)(x0 x1 x3 x4 x9 Z x5 v X G y1 y6 W y0 x7 w q m F z9 u9 u4 u1 z8 u3 u2 z7 u7 z0 z2 y9 z6 u8 u6 z5 z3 z1 u I l j x6 y7 y3 N y2 P t i x2 f x8 S U x Y s E J A o y C O z D K y4 T V H g:ag)(h:au)(Q:VH):Prop:=aX 203 [(strOf n)] h λv1 e=>yB v1 λc=>cq (!c) (xA (cJ aq 222 []) λc4=>xU (bh aq 222 (bw p) (al ⟨c4⟩) e) e λu5 g6=>jq SS [((bw p),aa 222),((ah aj),none)] g6 Q) (aX 203 [(strOf d)] e λv7 a=>yB v7 λb=>cq (!b) (xA (cJ aq 222 []) λy5=>xU (bh aq 222 (bw p) (al ⟨y5⟩) a) a λz4 k=>jq SS [((bw p),aa 222),((ah aj),none)] k Q) (cq (decide ((n.length:Int)>400)) (xA (cJ aq 222 []) λM=>xU (bh aq 222 (bw p) (al ⟨M⟩) a) a λy8 L=>jq SS [((bw p),aa 222),((ah aj),none)] L Q) (cq (decide ((d.length:Int)>400)) (xA (cJ aq 222 []) λR=>xU (bh aq 222 (bw p) (al ⟨R⟩) a) a λu0 B=>jq SS [((bw p),aa 222),((ah aj),none)] B Q) (wpS SS bH.nm bH.ms (pq 63) cc [x0,x1,(bw p),x3,x4,(ah neg),(strOf n),(strOf d),(ah r),x9,Z,x5,v,X,G,y1,y6,W,y0,x7,w,q,m,F,(strOf n),(ah c),(ah (!c)),(ah aj),(strOf d),(ah b),(ah (!b)),(ah (!b)),(ah aj),(strOf n),(aE (n.length:Int)),(ah (decide ((n.length:Int)>400))),(ah (decide ((n.length:Int)>400))),(ah aj),(strOf d),(aE (d.length:Int)),(ah (decide ((d.length:Int)>400))),(ah (decide ((d.length:Int)>400))),u,I,l,j,x6,y7,y3,N,y2,P,t,i,x2,f,x8,S,U,x,Y,s,E,J,A,o,y,C,O,z,D,K,y4,T,V,H,g] a (mK bH Q)))))
theorem Hk{neg:Bool}{x3 x4 x9 y1 y3 x x6 L y8 z4 x5 y7 y5 y p m K N z7 y0 S G x8 W C z2 f l d B z5 z1 A o k u O j i y4 z6 z0 T y9 V r g y2 a y6 X Z z x7 q J P F n D H U E I R z3 Y x2 M c:ag}(hx:zH s t neg b e (oh (pq 63) bH.body) v w x3 x4 x9 y1 y3 x x6 L y8 z4 x5 y7 y5 y p m K N z7 y0 S G x8 W C z2 f l d B z5 z1 A o k u O j i y4 z6 z0 T y9 V r g y2 a y6 X Z z x7 q J P F n D H U E I R z3 Y x2 M c h Q):TT SS bH (pq 31) [v,w,(bw e),x3,x4,(ah neg),(strOf s),(strOf t),(ah b),x9,y1,y3,x,x6,L,y8,z4,x5,y7,y5,y,p,m,K,N,z7,y0,S,G,x8,W,C,z2,f,l,d,B,z5,z1,A,o,k,u,O,j,i,y4,z6,z0,T,y9,V,r,g,y2,a,y6,X,Z,z,x7,q,J,P,F,n,D,H,U,E,I,R,z3,Y,x2,M,c] h (mK bH Q):=by
 have z8:∀cc,zH s t neg b e cc v w x3 x4 x9 y1 y3 x x6 L y8 z4 x5 y7 y5 y p m K N z7 y0 S G x8 W C z2 f l d B z5 z1 A o k u O j i y4 z6 z0 T y9 V r g y2 a y6 X Z z x7 q J P F n D H U E I R z3 Y x2 M c h Q=wpS SS bH.nm bH.ms (pq 31) (setAt [1] cc (oh (pq 31) bH.body)) [v,w,(bw e),x3,x4,(ah neg),(strOf s),(strOf t),(ah b),x9,y1,y3,x,x6,L,y8,z4,x5,y7,y5,y,p,m,K,N,z7,y0,S,G,x8,W,C,z2,f,l,d,B,z5,z1,A,o,k,u,O,j,i,y4,z6,z0,T,y9,V,r,g,y2,a,y6,X,Z,z,x7,q,J,P,F,n,D,H,U,E,I,R,z3,Y,x2,M,c] h (mK bH Q):=λcc=>by kernel_rfl
 have z8:=z8 (oh (pq 63) bH.body);have ec:(oh (pq 63) bH.body)=oh [1] (oh (pq 31) bH.body):=by kernel_rfl
 have es:setAt [1] (oh (pq 63) bH.body) (oh (pq 31) bH.body)=oh (pq 31) bH.body:=by rw[ec,mj]
 rw[es]at z8;exact bD hx z8
abbrev zI(n d:LB)(neg a:Bool)(p:aJ)(cc:Code)(x0 x1 x3 x4 x9 U V q P E Y x6 O X W r l i D G x8 T J z S L v x2 e g c u x7 Z t k f o z1 y8 y7 z7 u1 u0 z2 z9 z3 z0 y6 z6 y5 z8 z4 z5 s R m C H y j w A K x B I x5 M N F b:ag)(h:au)(Q:VH):Prop:=cq neg (cq ((n:LB)==[48]) (xA (cJ aq 222 []) λc1=>xU (bh aq 222 (bw p) (al ⟨c1⟩) h) h λu2 g3=>jq SS [((bw p),aa 222),((ah aj),none)] g3 Q) (cq a (cq ((d:LB)==[48]) (xA (cJ aq 222 []) λc4=>xU (bh aq 222 (bw p) (al ⟨c4⟩) h) h λu5 g6=>jq SS [((bw p),aa 222),((ah aj),none)] g6 Q) (cq ((d:LB)==[49]) (xA (cJ aq 222 []) λc7=>xU (bh aq 222 (bw p) (al ⟨c7⟩) h) h λu8 g9=>jq SS [((bw p),aa 222),((ah aj),none)] g9 Q) (wpS SS bH.nm bH.ms (pq 127) cc [x0,x1,(bw p),x3,x4,(ah neg),(strOf n),(strOf d),(ah a),x9,U,V,q,P,E,Y,x6,O,X,W,r,l,i,D,G,x8,T,J,z,S,L,v,x2,e,g,c,u,x7,Z,t,k,f,o,(ah neg),(ah af),(strOf n),(ah ((n:LB)==[48])),(ah ((n:LB)==[48])),(ah aj),(ah a),(ah af),(strOf d),(ah ((d:LB)==[48])),(ah aj),(strOf d),(ah ((d:LB)==[49])),(ah ((d:LB)==[49])),(ah ((d:LB)==[49])),(ah ((d:LB)==[49])),s,R,m,C,H,y,j,w,A,K,x,B,I,x5,M,N,F,b] h (mK bH Q)))) (wpS SS bH.nm bH.ms (pq 127) cc [x0,x1,(bw p),x3,x4,(ah neg),(strOf n),(strOf d),(ah a),x9,U,V,q,P,E,Y,x6,O,X,W,r,l,i,D,G,x8,T,J,z,S,L,v,x2,e,g,c,u,x7,Z,t,k,f,o,(ah neg),(ah af),(strOf n),(ah ((n:LB)==[48])),(ah ((n:LB)==[48])),(ah aj),(ah a),(ah aj),undef,undef,undef,undef,undef,undef,(ah aj),(ah aj),s,R,m,C,H,y,j,w,A,K,x,B,I,x5,M,N,F,b] h (mK bH Q)))) (cq a (cq ((d:LB)==[48]) (xA (cJ aq 222 []) λy3=>xU (bh aq 222 (bw p) (al ⟨y3⟩) h) h λy9 y0=>jq SS [((bw p),aa 222),((ah aj),none)] y0 Q) (cq ((d:LB)==[49]) (xA (cJ aq 222 []) λy2=>xU (bh aq 222 (bw p) (al ⟨y2⟩) h) h λy4 y1=>jq SS [((bw p),aa 222),((ah aj),none)] y1 Q) (wpS SS bH.nm bH.ms (pq 127) cc [x0,x1,(bw p),x3,x4,(ah neg),(strOf n),(strOf d),(ah a),x9,U,V,q,P,E,Y,x6,O,X,W,r,l,i,D,G,x8,T,J,z,S,L,v,x2,e,g,c,u,x7,Z,t,k,f,o,(ah neg),(ah aj),undef,undef,(ah aj),(ah aj),(ah a),(ah af),(strOf d),(ah ((d:LB)==[48])),(ah aj),(strOf d),(ah ((d:LB)==[49])),(ah ((d:LB)==[49])),(ah ((d:LB)==[49])),(ah ((d:LB)==[49])),s,R,m,C,H,y,j,w,A,K,x,B,I,x5,M,N,F,b] h (mK bH Q)))) (wpS SS bH.nm bH.ms (pq 127) cc [x0,x1,(bw p),x3,x4,(ah neg),(strOf n),(strOf d),(ah a),x9,U,V,q,P,E,Y,x6,O,X,W,r,l,i,D,G,x8,T,J,z,S,L,v,x2,e,g,c,u,x7,Z,t,k,f,o,(ah neg),(ah aj),undef,undef,(ah aj),(ah aj),(ah a),(ah aj),undef,undef,undef,undef,undef,undef,(ah aj),(ah aj),s,R,m,C,H,y,j,w,A,K,x,B,I,x5,M,N,F,b] h (mK bH Q)))
theorem Hl{neg:Bool}{x3 x4 x9 y1 y3 x x6 L y8 z4 x5 y7 y5 y p m K N z7 y0 S G x8 W C z2 f l d B z5 z1 A o k u O j i y4 z6 z0 T y9 V r g y2 a y6 X Z z x7 q J P F n D H U E I R z3 Y x2 M c:ag}(hx:zI s t neg b e (oh (pq 127) bH.body) v w x3 x4 x9 y1 y3 x x6 L y8 z4 x5 y7 y5 y p m K N z7 y0 S G x8 W C z2 f l d B z5 z1 A o k u O j i y4 z6 z0 T y9 V r g y2 a y6 X Z z x7 q J P F n D H U E I R z3 Y x2 M c h Q):TT SS bH (pq 63) [v,w,(bw e),x3,x4,(ah neg),(strOf s),(strOf t),(ah b),x9,y1,y3,x,x6,L,y8,z4,x5,y7,y5,y,p,m,K,N,z7,y0,S,G,x8,W,C,z2,f,l,d,B,z5,z1,A,o,k,u,O,j,i,y4,z6,z0,T,y9,V,r,g,y2,a,y6,X,Z,z,x7,q,J,P,F,n,D,H,U,E,I,R,z3,Y,x2,M,c] h (mK bH Q):=by
 have z8:∀cc,zI s t neg b e cc v w x3 x4 x9 y1 y3 x x6 L y8 z4 x5 y7 y5 y p m K N z7 y0 S G x8 W C z2 f l d B z5 z1 A o k u O j i y4 z6 z0 T y9 V r g y2 a y6 X Z z x7 q J P F n D H U E I R z3 Y x2 M c h Q=wpS SS bH.nm bH.ms (pq 63) (setAt [1] cc (oh (pq 63) bH.body)) [v,w,(bw e),x3,x4,(ah neg),(strOf s),(strOf t),(ah b),x9,y1,y3,x,x6,L,y8,z4,x5,y7,y5,y,p,m,K,N,z7,y0,S,G,x8,W,C,z2,f,l,d,B,z5,z1,A,o,k,u,O,j,i,y4,z6,z0,T,y9,V,r,g,y2,a,y6,X,Z,z,x7,q,J,P,F,n,D,H,U,E,I,R,z3,Y,x2,M,c] h (mK bH Q):=λcc=>by kernel_rfl
 have z8:=z8 (oh (pq 127) bH.body);have ec:(oh (pq 127) bH.body)=oh [1] (oh (pq 63) bH.body):=by kernel_rfl
 have es:setAt [1] (oh (pq 127) bH.body) (oh (pq 63) bH.body)=oh (pq 63) bH.body:=by rw[ec,mj]
 rw[es]at z8;exact bD hx z8
abbrev zJ(n d:LB)(neg t:Bool)(p:aJ)(cc:Code)(x0 x1 x3 x4 x9 z9 W w S E x6 y3 R x5 Z x s q D G y6 U I C T L B y1 i o g A y4 y0 z r m v H l k Y y5 x8 J x7 K u j V e x2 M O y z8 y8 z4 z5 z1 y7 y9 z2 z7 z0 z3 z6 y2 N P F f:ag)(h:au)(Q:VH):Prop:=aX 204 [(strOf n),(strOf d)] h λv1 c=>∃a:LB,∃b:Int,v1=(av ⟨[(strOf a),(aE b)]⟩)/\cq ((b !=0)) (xA (cJ aq 222 []) λc5=>xU (bh aq 222 (bw p) (al ⟨c5⟩) c) c λu6 g7=>jq SS [((bw p),aa 222),((ah aj),none)] g7 Q) (cq (!((a:LB)==[49])) (xA (cJ aq 222 []) λc8=>xU (bh aq 222 (bw p) (al ⟨c8⟩) c) c λu9 X=>jq SS [((bw p),aa 222),((ah aj),none)] X Q) (wpS SS bH.nm bH.ms (pq 255) cc [x0,x1,(bw p),x3,x4,(ah neg),(strOf n),(strOf d),(ah t),(strOf a),(aE b),W,w,S,E,x6,y3,R,x5,Z,x,s,q,D,G,y6,U,I,C,T,L,B,y1,i,o,g,A,y4,y0,z,r,m,v,H,l,k,Y,y5,x8,J,x7,K,u,j,V,e,x2,M,O,y,(av ⟨[(strOf a),(aE b)]⟩),(strOf n),(strOf d),(av ⟨[(strOf a),(aE b)]⟩),(strOf a),(aE b),(aE b),(ah ((b !=0))),(ah aj),(strOf a),(ah (!((a:LB)==[49]))),(ah (!((a:LB)==[49]))),y2,N,P,F,f] c (mK bH Q)))
theorem Hm{neg:Bool}{x3 x4 x9 y1 y3 x x6 L y8 z4 x5 y7 y5 y p m K N z7 y0 S G x8 W C z2 f l d B z5 z1 A o k u O j i y4 z6 z0 T y9 V r g y2 a y6 X Z z x7 q J P F n D H U E I R z3 Y x2 M c:ag}(hx:zJ s t neg b e (oh (pq 255) bH.body) v w x3 x4 x9 y1 y3 x x6 L y8 z4 x5 y7 y5 y p m K N z7 y0 S G x8 W C z2 f l d B z5 z1 A o k u O j i y4 z6 z0 T y9 V r g y2 a y6 X Z z x7 q J P F n D H U E I R z3 Y x2 M c h Q):TT SS bH (pq 127) [v,w,(bw e),x3,x4,(ah neg),(strOf s),(strOf t),(ah b),x9,y1,y3,x,x6,L,y8,z4,x5,y7,y5,y,p,m,K,N,z7,y0,S,G,x8,W,C,z2,f,l,d,B,z5,z1,A,o,k,u,O,j,i,y4,z6,z0,T,y9,V,r,g,y2,a,y6,X,Z,z,x7,q,J,P,F,n,D,H,U,E,I,R,z3,Y,x2,M,c] h (mK bH Q):=by
 have z8:∀cc,zJ s t neg b e cc v w x3 x4 x9 y1 y3 x x6 L y8 z4 x5 y7 y5 y p m K N z7 y0 S G x8 W C z2 f l d B z5 z1 A o k u O j i y4 z6 z0 T y9 V r g y2 a y6 X Z z x7 q J P F n D H U E I R z3 Y x2 M c h Q=wpS SS bH.nm bH.ms (pq 127) (setAt [1] cc (oh (pq 127) bH.body)) [v,w,(bw e),x3,x4,(ah neg),(strOf s),(strOf t),(ah b),x9,y1,y3,x,x6,L,y8,z4,x5,y7,y5,y,p,m,K,N,z7,y0,S,G,x8,W,C,z2,f,l,d,B,z5,z1,A,o,k,u,O,j,i,y4,z6,z0,T,y9,V,r,g,y2,a,y6,X,Z,z,x7,q,J,P,F,n,D,H,U,E,I,R,z3,Y,x2,M,c] h (mK bH Q):=λcc=>by kernel_rfl
 have z8:=z8 (oh (pq 255) bH.body);have ec:(oh (pq 255) bH.body)=oh [1] (oh (pq 127) bH.body):=by kernel_rfl
 have es:setAt [1] (oh (pq 255) bH.body) (oh (pq 127) bH.body)=oh (pq 127) bH.body:=by rw[ec,mj]
 rw[es]at z8;exact bD hx z8
theorem Hn{neg:Bool}{x3 x4 x9 y1 y3 x x6 L y8 z4 x5 y7 y5 y p m K N z7 y0 S G x8 W C z2 f l d B z5 z1 A o k u O j i y4 z6 z0 T y9 V r g y2 a y6 X Z z x7 q J P F n D H U E I R z3 Y x2 M c:ag}(hx:xA (cJ aq 222 [(0,(ah neg)),(1,(strOf s)),(2,(strOf t))]) λc1=>xU (bh aq 222 (bw e) (al ⟨c1⟩) h) h λu2 g3=>jq SS [((bw e),aa 222),((ah af),none)] g3 Q):TT SS bH (pq 255) [v,w,(bw e),x3,x4,(ah neg),(strOf s),(strOf t),(ah b),x9,y1,y3,x,x6,L,y8,z4,x5,y7,y5,y,p,m,K,N,z7,y0,S,G,x8,W,C,z2,f,l,d,B,z5,z1,A,o,k,u,O,j,i,y4,z6,z0,T,y9,V,r,g,y2,a,y6,X,Z,z,x7,q,J,P,F,n,D,H,U,E,I,R,z3,Y,x2,M,c] h (mK bH Q):=bD hx
noncomputable def Q5:FD:=gU Tryz.f155 []
theorem OE(l:LB)(h:au)(Q:VH)(c:aX 169 [(strOf l)] h λe d=>∃b:LV,∃a:Bool,e=(av ⟨[(al ⟨b⟩),(ah a)]⟩)/\Q (ah a) d):aX 155 [(strOf l)] h Q:=hH Q5 Tryz.func155 (bD c)
noncomputable def Vd:FD:=gU Tryz.f170 []
theorem Q3(p:Bool)(l:LB)(q:Bool)(m:LB)(h:au)(Q:VH)(z:cq (p==q) (aX 205 [(strOf l),(strOf m)] h λD A=>∃s:LB,∃v:Int,D=(av ⟨[(strOf s),(aE v)]⟩)/\aX 171 [(strOf s),(aE v)] A λB C=>yS B λx=>Q (av ⟨[(ah p),(strOf x)]⟩) C) (aX 206 [(strOf l),(strOf m)] h λy t=>yI ak y λj=>cq (decide (j<0)) (aX 207 [(strOf m),(strOf l)] t λg o=>∃c:LB,∃b:Int,g=(av ⟨[(strOf c),(aE b)]⟩)/\aX 171 [(strOf c),(aE b)] o λe k=>yS e λn=>Q (av ⟨[(ah q),(strOf n)]⟩) k) (aX 207 [(strOf l),(strOf m)] t λf u=>∃a:LB,∃d:Int,f=(av ⟨[(strOf a),(aE d)]⟩)/\aX 171 [(strOf a),(aE d)] u λw r=>yS w λi=>Q (av ⟨[(ah p),(strOf i)]⟩) r))):aX 170 [(ah p),(strOf l),(ah q),(strOf m)] h Q:=hH Vd Tryz.func170 (bD z)
noncomputable def Y5:FD:=gU Tryz.f131 []
theorem Va(l m:LB)(h:au)(Q:VH)(P:aX 169 [(strOf l)] h λS p=>∃y:LV,∃F:Bool,S=(av ⟨[(al ⟨y⟩),(ah F)]⟩)/\xN (cP aq 222) p λW I=>xU (bh aq 222 (pA (p.aD)) (al ⟨y⟩) I) I λV O=>aX 169 [(strOf m)] O λR k=>∃n:LV,∃C:Bool,R=(av ⟨[(al ⟨n⟩),(ah C)]⟩)/\xN (cP aq 222) k λT v=>xU (bh aq 222 (pA (k.aD)) (al ⟨n⟩) v) v λU c=>cq (!F) (Q (aE 0) c) (cq (!C) (Q (aE 0) c) (xP (aY aq 222 (pA (p.aD)) 0) λi=>xB (aS aq 4 (room c 27) (bw i)) λb=>qF xS 222 (pA (p.aD)) 1 9 (room c 27) λE=>qF xS 222 (pA (k.aD)) 2 9 (room c 27) λK=>aX 172 [(strOf E),(strOf K)] (room c 27) λH g=>∃z:LB,∃B:Int,H=(av ⟨[(strOf z),(aE B)]⟩)/\aX 171 [(strOf z),(aE B)] g λL j=>yS L λJ=>xP (aY aq 222 (pA (k.aD)) 0) λf=>xB (aS aq 4 j (bw f)) λa=>xP (aY aq 222 (pA (k.aD)) 1) λr=>xS (aS aq 9 j (bw r)) λe=>xP (aY aq 222 (pA (p.aD)) 2) λs=>xS (aS aq 9 j (bw s)) λd=>aX 172 [(strOf e),(strOf d)] j λD t=>∃u:LB,∃A:Int,D=(av ⟨[(strOf u),(aE A)]⟩)/\aX 171 [(strOf u),(aE A)] t λM q=>yS M λG=>aX 170 [(ah b),(strOf J),(ah (!a)),(strOf G)] q λN o=>∃x:Bool,∃w:LB,N=(av ⟨[(ah x),(strOf w)]⟩)/\(aS aq 4 g (bw i)=aa (ah b)/\oQ 4 (ah b) (ah b)=af)/\(aS aq 4 j (bw i)=aa (ah b)/\oQ 4 (ah b) (ah b)=af)/\(aS aq 4 t (bw i)=aa (ah b)/\oQ 4 (ah b) (ah b)=af)/\(aS aq 4 q (bw i)=aa (ah b)/\oQ 4 (ah b) (ah b)=af)/\(aS aq 4 (room c 27) (bw f)=aa (ah a)/\oQ 4 (ah a) (ah a)=af)/\(aS aq 4 g (bw f)=aa (ah a)/\oQ 4 (ah a) (ah a)=af)/\(aS aq 4 t (bw f)=aa (ah a)/\oQ 4 (ah a) (ah a)=af)/\(aS aq 4 q (bw f)=aa (ah a)/\oQ 4 (ah a) (ah a)=af)/\(aS aq 9 (room c 27) (bw r)=aa (strOf e)/\oQ 4 (strOf e) (strOf e)=af)/\(aS aq 9 g (bw r)=aa (strOf e)/\oQ 4 (strOf e) (strOf e)=af)/\(aS aq 9 (room c 27) (bw s)=aa (strOf d)/\oQ 4 (strOf d) (strOf d)=af)/\(aS aq 9 g (bw s)=aa (strOf d)/\oQ 4 (strOf d) (strOf d)=af)/\cq ((w:LB)==[48]) (Q (aE 0) o) (cq x (Q (aE (-1)) o) (Q (aE 1) o))))):aX 131 [(strOf l),(strOf m)] h Q:=hH Y5 Tryz.func131 (bD P)
noncomputable def XT:FD:=gU Tryz.f258 []
theorem Ug(l m:LB)(h:au)(Q:VH)(a:cq (decide ((l.length:Int)>=(m.length:Int))) (xS (dN aq 9 (strOf l) none (aa (aE (m.length:Int))) none h) λb=>Q (ah ((b:LB)==m)) h) (Q (ah aj) h)):aX 258 [(strOf l),(strOf m)] h Q:=hH XT Tryz.func258 (bD a)
noncomputable def pc:FD:=gU Tryz.f203 [((pq 75),[0,22,23])]
abbrev qo(l:LB)(i:Int):LV:=[(strOf l),(aE (l.length:Int)),(aE i)]
theorem Eg(l:LB)(h:au)(Q:VH)(b:cq ((l:LB)==[]) (Q (ah aj) h) (cq (decide ((l.length:Int)>1000)) (Q (ah aj) h) (cq (decide ((l.length:Int)>1)) (xI aK (dE aq 9 (strOf l) (aE 0)) λa=>cq ((a==48)) (Q (ah aj) h) (cw pc (pq 75) [(strOf l),(aE (l.length:Int)),(aE 0)] h (eu pc (pq 43) Q))) (cw pc (pq 75) [(strOf l),(aE (l.length:Int)),(aE 0)] h (eu pc (pq 43) Q))))):aX 203 [(strOf l)] h Q:=hH pc Tryz.func203 (bD b)
theorem zh(l:LB)  (a:Nat->Int->au->Prop) (Q:VH) (step:∀(mz:Nat)(i:Int)(c:Nat->ag)(h:au),a mz i h->cq (decide ((i:Int)<(l.length:Int))) (xI aK (dE aq 9 (strOf l) (aE i)) λe=>cq (decide (e<48)) (Q (ah aj) h) (xI aK (dE aq 9 (strOf l) (aE i)) λd=>cq (decide (d>57)) (Q (ah aj) h) (ct (jg (qo l) a) mz [(strOf l),(aE (l.length:Int)),(aE (ai ak (i+1)))] h))) (Q (ah af) h)) (mz:Nat) {i:Int} {h:au} (b:a mz i h):cw pc (pq 75) (qo l i) h (eu pc (pq 43) Q):=
 gm (qo l) a (λmz i c h b=>bD (step mz i c h b)) mz b
noncomputable def pe:FD:=gU Tryz.f271 [((pq 75),[0,3])]
abbrev lC(l:LB)(i:Int):LV:=[(strOf l),(aE i)]
theorem Er(l:LB)(h:au)(Q:VH)(b:cq (decide ((l.length:Int)<1)) (Q (ah aj) h) (cq (decide ((l.length:Int)>1000)) (Q (ah aj) h) (xI aK (dE aq 9 (strOf l) (aE 0)) λa=>cq ((a==48)) (cq (decide ((l.length:Int)>1)) (Q (ah aj) h) (cw pe (pq 75) (lC l 0) h (eu pe (pq 43) Q))) (cw pe (pq 75) (lC l 0) h (eu pe (pq 43) Q))))):aX 271 [(strOf l)] h Q:=hH pe Tryz.func271 (bD b)
theorem zn(l:LB)  (a:Nat->Int->au->Prop) (Q:VH) (step:∀(mz:Nat)(i:Int)(c:Nat->ag)(h:au),a mz i h->cq (decide ((i:Int)<(l.length:Int))) (xI aK (dE aq 9 (strOf l) (aE i)) λe=>cq (decide (e<48)) (Q (ah aj) h) (xI aK (dE aq 9 (strOf l) (aE i)) λd=>cq (decide (d>57)) (Q (ah aj) h) (ct (jg (lC l) a) mz [(strOf l),(aE (ai ak (i+1)))] h))) (Q (ah af) h)) (mz:Nat) {i:Int} {h:au} (b:a mz i h):cw pe (pq 75) (lC l i) h (eu pe (pq 43) Q):=
 gm (lC l) a (λmz i c h b=>bD (step mz i c h b)) mz b
noncomputable def p5:FD:=gU Tryz.f277 [((pq 75),[0,1,5])]
abbrev lU(a b:LB)(i:Int):LV:=[(strOf a),(strOf b),(aE i)]
theorem IJ(a b:LB)(h:au)(Q:VH)(c:cq (((a.length:Int) !=(b.length:Int))) (cq (decide ((a.length:Int)<(b.length:Int))) (Q (aE (-1)) h) (Q (aE 1) h)) (cw p5 (pq 75) (lU a b 0) h (eu p5 (pq 43) Q))):aX 277 [(strOf a),(strOf b)] h Q:=hH p5 Tryz.func277 (bD c)
theorem wA(a b:LB)  (c:Nat->Int->au->Prop) (Q:VH) (step:∀(mz:Nat)(i:Int)(e:Nat->ag)(h:au),c mz i h->cq (decide ((i:Int)<(a.length:Int))) (xI aK (dE aq 9 (strOf a) (aE i)) λg=>xI aK (dE aq 9 (strOf b) (aE i)) λj=>cq ((g !=j)) (xI aK (dE aq 9 (strOf a) (aE i)) λf=>xI aK (dE aq 9 (strOf b) (aE i)) λk=>cq (decide (f<k)) (Q (aE (-1)) (room (room h 7) 7)) (Q (aE 1) (room (room h 7) 7))) (ct (jg (lU a b) c) mz [(strOf a),(strOf b),(aE (ai ak (i+1)))] (room h 7))) (Q (aE 0) h)) (mz:Nat) {i:Int} {h:au} (d:c mz i h):cw p5 (pq 75) (lU a b i) h (eu p5 (pq 43) Q):=
 gm (lU a b) c (λmz i e h d=>bD (step mz i e h d)) mz d
noncomputable def acC:FD:=gU Tryz.f274 []
theorem Zb(a:OA)(n c:Nat)(i:Int)(h:au)(Q:VH)(d:cq (decide ((i:Int)<(n:Int))) (Ws 27 (ae a n c) (aE i) h λb=>Q (aE b) h) (Q (aE 0) h)):aX 274 [(ae a n c),(aE i)] h Q:=hH acC Tryz.func274 (bD d)
noncomputable def rz:FD:=gU Tryz.f273 [((pq 75),[0,3,4])]
abbrev p6(l:LB)(i:Int)(a:OA)(n c:Nat):LV:=[(strOf l),(ae a n c),(aE i)]
theorem Mb(l:LB)(h:au)(Q:VH)(a:cw rz (pq 75) [(strOf l),nA,(aE (ai ak ((l.length:Int)-1)))] h (eu rz (pq 43) Q)):aX 273 [(strOf l)] h Q:=hH rz Tryz.func273 (bD a)
theorem xK(l:LB)  (b:Nat->Int->OA->Nat->Nat->au->Prop) (Q:VH) (step:∀(mz:Nat)(i:Int)(a:OA)(n c:Nat)(e:Nat->ag)(h:au),b mz i a n c h->cq (decide ((i:Int)>=0)) (xI aK (dE aq 9 (strOf l) (aE i)) λk=>xR (bS aq 27 1 [(0,(aE (ai ak (ai aK (k-48)))))]) h λr j o g=>xE (cG aq 27 27 (ae a n c) (sA (h.aD) j o) g) g λm q p s f=>ct (Ky (p6 l) b) mz [(strOf l),(ae m q p),(aE (ai ak (i-1)))] f) (Q (ae a n c) h)) (mz:Nat) {i:Int} {a:OA} {n c:Nat} {h:au} (d:b mz i a n c h):cw rz (pq 75) (p6 l i a n c) h (eu rz (pq 43) Q):=
 JX (p6 l) b (λmz i a n c e h d=>bD (step mz i a n c e h d)) mz d
variable{i:Nat}{a:Option aJ}{n:Nat}
theorem acQ:aq.underlying 9=aa .string:=by kernel_rfl
theorem Dl(l:List UInt8){h:au}{i:Int}(b:0<=i)(a:i<l.length):dE aq 9 (strOf l) (aE i)=aa (aC aK ((l.getD i.toNat 0).toNat:Nat)):=sE acQ l _ b a
theorem Xv{c:UInt8}(a:¬(c.toNat:Int)<48)(b:¬(c.toNat:Int)>57):ei c=af:=by
 unfold ei;simp;omega
theorem Ls{c:UInt8}(h:(c.toNat:Int)<48\/(c.toNat:Int)>57):ei c=aj:=by
 unfold ei;simp;omega
theorem zv{l:List UInt8}(b:i<l.length)(c:(l.take i).all ei=af)(a:ei (l.getD i 0)=af):(l.take (i+1)).all ei=af:=by
 rw[eH b,gH,c];rw[gD,gE b]at a;simpa using a
theorem yu{l:List UInt8}(b:i<l.length)(a:ei (l.getD i 0)=aj):l.all ei=aj:=by
 rw[gD,gE b]at a;exact List.all_eq_false.2 ⟨l[i],List.getElem_mem b,by simpa using a⟩
theorem HK{l:List UInt8}(h:1000<l.length):Num.valid l=aj:=by
 unfold Num.valid;rw[eF (by omega:¬l.length<=1000)];simp
theorem HL{l:List UInt8}(h:1<l.length)(b:l.getD 0 0=48):Num.valid l=aj:=by
 unfold Num.valid
 cases l with
 |nil=>rfl
 |cons a l=>
  have b:a=48:=b;subst b;rw[eT h];simp
theorem yW{l:List UInt8}(e:l≠[])(c:l.length<=1000)(d:1<l.length->l.getD 0 0≠48):Num.valid l=l.all ei:=by
 unfold Num.valid
 cases l with
 |nil=>exact absurd rfl e
 |cons a l=>
  rw[eT c];by_cases h:1<(a::l).length
  ·have b:a≠48:=d h;rw[eT h];simp[b]
  ·rw[eF h];simp
theorem Kr{c:UInt8}:((c.toNat:Int)==48)=af↔c=48:=by
 rw[beq_iff_eq];refine⟨λh=>fL.1 ?_,λh=>by rw[h];rfl⟩;have a:(48:UInt8).toNat=48:=rfl;omega
theorem iw(l:List UInt8)(h:au):aX 203 [strOf l] h (λv n=>v=ah (Num.valid l)/\n=h):=by
 by_cases j:l.length<=1000
 case neg=>
  refine Eg l h _ (az (λa=>?_) (λa=>az (λd=>?_) (λd=>?_)))
  ·obtain rfl:l=[]:=by simpa using a
   exact⟨rfl,rfl⟩
  ·exact⟨by rw[HK (by omega)],rfl⟩
  ·have:=dF d;omega
 have L:=λ(m:Num.valid l=l.all ei)=>zh l (λmz i g=>0<=i/\i<=l.length/\mz=l.length-i.toNat/\(l.take i.toNat).all ei=af/\g=h) (λv n=>v=ah (Num.valid l)/\n=h) (by
  intro mz i;intros;rename_i g s;obtain⟨a,d,k,b,rfl⟩:=s;refine az (λc=>?_) (λc=>?_)
  ·have c:=dT c;have f:i.toNat<l.length:=by omega
   refine⟨_,Dl (h:=g) l a c,az (λp=>?_) (λp=>⟨_,Dl (h:=g) l a c,az (λo=>?_) (λo=>?_)⟩)⟩
   ·exact⟨by rw[m,yu f (Ls (.inl (dT p)))],rfl⟩
   ·exact⟨by rw[m,yu f (Ls (.inr (dT o)))],rfl⟩
   ·have r:ai ak (i+1)=i+1:=cd (by omega) (by omega);refine fC (mz-1) (by omega) ?_;rw[r];refine⟨by omega,by omega,by omega,?_,rfl⟩;rw[show(i+1).toNat=i.toNat+1 by omega];exact zv f b (Xv (dF p) (dF o))
  ·have c:=dF c;refine⟨?_,rfl⟩;rw[m,<-b,bC (by omega)])
 refine Eg l h _ (az (λa=>?_) (λa=>az (λd=>?_) (λd=>?_)))
 ·obtain rfl:l=[]:=by simpa using a
  exact⟨rfl,rfl⟩
 ·have:=dT d;omega
 ·have a:l≠[]:=by simpa using a
  have q:=fE.2 a;refine az (λk=>⟨_,Dl (h:=h) l (by omega) (by omega),az (λb=>?_) (λb=>?_)⟩) (λk=>?_)
  ·exact⟨by rw[HL (by have:=dT k;omega) (Kr.1 b)],rfl⟩
  ·exact L (yW a j λ_ e=>by have b:(((l.getD 0 0).toNat:Int)==48)=aj:=b;rw[Kr.2 e]at b;cases b) l.length ⟨by omega,by omega,by simp,by simp,rfl⟩
  ·exact L (yW a j λe=>by have:=dF k;omega) l.length ⟨by omega,by omega,by simp,by simp,rfl⟩
theorem gY(l:List UInt8)(h:au):aX 271 [strOf l] h (λv n=>v=ah (Num.valid l)/\n=h):=by
 by_cases j:l.length<=1000
 case neg=>
  refine Er l h _ (az (λa=>?_) (λa=>az (λd=>?_) (λd=>?_)))
  ·have a:=dT a;omega
  ·exact⟨by rw[HK (by omega)],rfl⟩
  ·have:=dF d;omega
 have L:=λ(m:Num.valid l=l.all ei)=>zn l (λmz i g=>0<=i/\i<=l.length/\mz=l.length-i.toNat/\(l.take i.toNat).all ei=af/\g=h) (λv n=>v=ah (Num.valid l)/\n=h) (by
  intro mz i;intros;rename_i g s;obtain⟨a,d,k,b,rfl⟩:=s;refine az (λc=>?_) (λc=>?_)
  ·have c:=dT c;have f:i.toNat<l.length:=by omega
   refine⟨_,Dl (h:=g) l a c,az (λp=>?_) (λp=>⟨_,Dl (h:=g) l a c,az (λo=>?_) (λo=>?_)⟩)⟩
   ·exact⟨by rw[m,yu f (Ls (.inl (dT p)))],rfl⟩
   ·exact⟨by rw[m,yu f (Ls (.inr (dT o)))],rfl⟩
   ·have r:ai ak (i+1)=i+1:=cd (by omega) (by omega);refine fC (mz-1) (by omega) ?_;rw[r];refine⟨by omega,by omega,by omega,?_,rfl⟩;rw[show(i+1).toNat=i.toNat+1 by omega];exact zv f b (Xv (dF p) (dF o))
  ·have c:=dF c;refine⟨?_,rfl⟩;rw[m,<-b,bC (by omega)])
 refine Er l h _ (az (λa=>?_) (λa=>az (λd=>?_) (λd=>?_)))
 ·have a:=dT a;obtain rfl:l=[]:=bE (by omega);exact⟨rfl,rfl⟩
 ·have:=dT d;omega
 ·have a:=dF a;have a:l≠[]:=λe=>by subst e;simp at a
  have q:=fE.2 a;refine⟨_,Dl (h:=h) l (by omega) (by omega),az (λb=>az (λk=>?_) (λk=>?_)) (λb=>?_)⟩
  ·exact⟨by rw[HL (by have:=dT k;omega) (Kr.1 b)],rfl⟩
  ·exact L (yW a j λe=>by have:=dF k;omega) l.length ⟨by omega,by omega,by simp,by simp,rfl⟩
  ·exact L (yW a j λ_ e=>by have b:(((l.getD 0 0).toNat:Int)==48)=aj:=b;rw[Kr.2 e]at b;cases b) l.length ⟨by omega,by omega,by simp,by simp,rfl⟩
theorem QN{a b:Nat}(h:((a:Int) !=b)=af):a≠b:=by
 intro e;subst e;simp at h
theorem Qe{a b:Nat}(h:((a:Int) !=b)=aj):a=b:=by
 by_cases e:a=b
 ·exact e
 ·exfalso;have:(a:Int)≠b:=by omega
  simp[this]at h
theorem ui(m n:Nat)(x:(bn m).length<9223372036854775807)(u:(bn n).length<9223372036854775807)(h:au)(w:Wf h):aX 277 [strOf (bn m),strOf (bn n)] h (λv p=>v=aE (iB m n)/\Ok h p):=by
 have L:=λ(r:(bn m).length=(bn n).length)=>wA (bn m) (bn n) (λmz i g=>0<=i/\i<=(bn m).length/\mz=(bn m).length-i.toNat/\(bn m).take i.toNat=(bn n).take i.toNat/\Ok h g) (λv p=>v=aE (iB m n)/\Ok h p) (by
  intro mz i;intros;rename_i g t;obtain⟨a,f,y,e,j⟩:=t;refine az (λb=>?_) (λb=>?_)
  ·have b:=dT b;have q:i.toNat<(bn m).length:=by omega
   have o:i.toNat<(bn n).length:=by omega
   have k:(bn m)[i.toNat]?=aa ((bn m).getD i.toNat 0):=by rw[gD,gE q];rfl
   have l:(bn n)[i.toNat]?=aa ((bn n).getD i.toNat 0):=by rw[gD,gE o];rfl
   refine⟨_,Dl (h:=g) _ a b,_,Dl (h:=g) _ a (by omega),az (λc=>?_) (λc=>?_)⟩
   ·refine⟨_,Dl (h:=g) _ a b,_,Dl (h:=g) _ a (by omega),az (λd=>?_) (λd=>?_)⟩
    ·have d:=dT d;have:=sO (fV n) (fV m) r e k l (UInt8.lt_iff_toNat_lt.2 (by omega));rw[eQ,eQ]at this;exact⟨by rw[pj this],(j.room 7).room 7⟩
    ·have d:=dF d;have c:=QN c;have:=sO (fV m) (fV n) r.symm e.symm l k (UInt8.lt_iff_toNat_lt.2 (by omega));rw[eQ,eQ]at this;exact⟨by rw[ph this],(j.room 7).room 7⟩
   ·have c:=Qe c;have s:ai ak (i+1)=i+1:=cd (by omega) (by omega);refine fC (mz-1) (by omega) ?_;rw[s];refine⟨by omega,by omega,by omega,?_,j.room 7⟩;rw[show(i+1).toNat=i.toNat+1 by omega,fM,fM,e,k,l,fL.1 c]
  ·have b:=dF b;rw[bC (by omega),bC (by omega)]at e;exact⟨by rw[wJ e,ux],j⟩)
 refine IJ _ _ h _ (az (λa=>az (λf=>?_) (λf=>?_)) (λa=>?_))
 ·exact⟨by rw[pj (pG (by have:=dT f;omega))],Ok.refl w⟩
 ·have a:=QN a;exact⟨by rw[ph (pG (by have:=dF f;omega))],Ok.refl w⟩
 ·have a:=Qe a;exact L a (bn m).length ⟨by omega,by omega,by simp,by simp,Ok.refl w⟩
def iv(d:Nat):ag:= aE (d:Int)
theorem me:aq.underlying 27=aa (.slice 3):=by kernel_rfl
theorem IS:bZ aq 3=aa 1:=by kernel_rfl
theorem zs:aq.underlying 3=aa (.int ak):=by kernel_rfl
theorem zb:Go.Ab.isAgg aq 3=aj:=by kernel_rfl
noncomputable def re3:TypeInfo:=(fI aq 3).getD default
theorem Hp:fI aq 3=aa re3:=by kernel_rfl
theorem xy:re3.size=1:=by kernel_rfl
theorem uL:re3.bytes=8:=by kernel_rfl
theorem wZ(l:List Nat)(i:Nat)(h:i<l.length):(l.map iv).getD i undef=aE (l.getD i 0:Nat):=by
 simp[gD,getElem?_map,gE h,iv]
theorem xJ{c:Nat}{l:List Nat}(r:Rd h 3 (ae a n c) (l.map iv))(i:Nat):aX 274 [ae a n c,aE (i:Int)] h (λv g=>v=aE (l.getD i 0:Nat)/\g=h):=by
 have e:=r.len;rw[aH]at e;refine Zb a n c i h _ (az (λb=>?_) (λb=>?_))
 ·have b:=dT b;obtain⟨p,f,d⟩:=r.at_ me IS zs zb (k:= ak) (i:=(i:Int)) (by omega) (by rw[aH];omega);rw[bc,wZ l i (by omega)]at d;exact⟨p,f,_,d,rfl,rfl⟩
 ·have b:=dF b;refine⟨?_,rfl⟩;rw[gD,getElem?_eq_none (by omega)];rfl
noncomputable def uO:FD:=gU Tryz.f278 [((pq 151),[0,1,5,6,7])]
abbrev oM(a:OA)(n c:Nat)(b:OA)(m d:Nat)(k cc:Nat)(r:OA)(e f:Nat):LV:=[(ae a n c),(ae b m d),(ae r e f),(iA cc),(iA k)]
theorem Re(a:OA)(n c:Nat)(b:OA)(m d:Nat)(h:au)(Q:VH)(e:cw uO (pq 151) (oM a n c b m d 0 0 none 0 0) h (eu uO (pq 87) Q)):aX 278 [(ae a n c),(ae b m d)] h Q:=hH uO Tryz.func278 (bD e)
theorem AQ(a:OA)(n c:Nat)(b:OA)(m d:Nat)  (g:Nat->Nat->Nat->OA->Nat->Nat->au->Prop) (Q:VH) (step:∀(mz:Nat)(k cc:Nat)(r:OA)(e f:Nat)(B:Nat->ag)(h:au),g mz k cc r e f h->(λ(x:ag->ag->au->Prop)=>cq (decide ((k:Int)<(n:Int))) (aX 274 [(ae a n c),(iA k)] h λL I=>yI ak L λo=>aX 274 [(ae b m d),(iA k)] I λG i=>yI ak G λp=>cq (decide ((ai ak (ai ak (o-p)-(cc:Int)):Int)<0)) (xR (bS aq 27 1 [(0,(aE (ai ak (ai ak (ai ak (o-p)-(cc:Int))+10))))]) i λP K H l=>xE (cG aq 27 27 (ae r e f) (sA (i.aD) K H) l) l λv C z M y=>x (ae v C z) (aE 1) y) (xR (bS aq 27 1 [(0,(aE (ai ak (ai ak (o-p)-(cc:Int)))))]) i λO F s j=>xE (cG aq 27 27 (ae r e f) (sA (i.aD) F s) j) j λE D t N A=>x (ae E D t) (aE 0) A)) (Q (ae r e f) h)) (λu w J=>ct (DZ (oM a n c b m d) g) mz [(ae a n c),(ae b m d),u,w,(aE (ai ak ((k:Int)+1)))] J)) (mz:Nat) {k cc:Nat} {r:OA} {e f:Nat} {h:au} (q:g mz k cc r e f h):cw uO (pq 151) (oM a n c b m d k cc r e f) h (eu uO (pq 87) Q):=
 zO (oM a n c b m d) g (λmz k cc r e f B h q=>bD (step mz k cc r e f B h q)) mz q
noncomputable def lB:FD:=gU Tryz.f276 [((pq 35),[0,3]),((pq 303),[0,4,5])]
abbrev rQ(a:OA)(n c:Nat)(z:Int):LV:=[(ae a n c),(aE z)]
abbrev ma(a:OA)(n c:Nat)(i:Int)(r:OA)(b d:Nat):LV:=[(ae a n c),(ae r b d),(aE i)]
theorem Rf(a:OA)(n c:Nat)(h:au)(Q:VH)(b:cw lB (pq 35) [(ae a n c),(iA n)] h (eu lB (pq 19) Q)):aX 276 [(ae a n c)] h Q:=hH lB Tryz.func276 (bD b)
theorem AR(a:OA)(n c:Nat)  (b:Nat->Int->au->Prop) (Q:VH) (step:∀(mz:Nat)(z:Int)(e:Nat->ag)(h:au),b mz z h->cq (decide ((z:Int)>1)) (Ws 27 (ae a n c) (aE (ai ak (z-1))) h λf=>cq ((f==0)) (ct (jg (rQ a n c) b) mz [(ae a n c),(aE (ai ak (z-1)))] h) (cw lB (pq 303) (ma a n c (ai ak (z-1)) none 0 0) h (eu lB (pq 175) Q))) (cw lB (pq 303) (ma a n c (ai ak (z-1)) none 0 0) h (eu lB (pq 175) Q))) (mz:Nat) {z:Int} {h:au} (d:b mz z h):cw lB (pq 35) (rQ a n c z) h (eu lB (pq 19) Q):=
 gm (rQ a n c) b (λmz z e h d=>bD (step mz z e h d)) mz d
theorem AS(a:OA)(n c:Nat)  (e:Nat->Int->OA->Nat->Nat->au->Prop) (Q:VH) (step:∀(mz:Nat)(i:Int)(r:OA)(b d:Nat)(m:Nat->ag)(h:au),e mz i r b d h->cq (decide ((i:Int)>=0)) (Ws 27 (ae a n c) (aE i) h λt=>xR (bS aq 183 1 [(0,(aC aK (ai aK (ai ak (48+t)))))]) h λv s q k=>xE (cG aq 183 183 (ae r b d) (sA (h.aD) s q) k) k λp l o u j=>ct (Ky (ma a n c) e) mz [(ae a n c),(ae p l o),(aE (ai ak (i-1)))] j) (cq (((b:Int)==0)) (Q (strOf [48]) h) (xS (AV aq 183 9 (ae r b d) h) λg=>Q (strOf g) h))) (mz:Nat) {i:Int} {r:OA} {b d:Nat} {h:au} (f:e mz i r b d h):cw lB (pq 303) (ma a n c i r b d) h (eu lB (pq 175) Q):=
 JX (ma a n c) e (λmz i r b d m h f=>bD (step mz i r b d m h f)) mz f
variable{g:au}{m:Nat}{x:List Nat}{y:List Nat}
theorem Bw(z:Int):bS aq 27 1 [(0,aE z)]=aa (.cells [aE z] 3 1 af,qe 1 1):=by kernel_rfl
theorem adn(z:Int):bS aq 183 1 [(0,aC aK z)]=aa (.cells [aC aK z] 5 1 af,qe 1 1):=by kernel_rfl
theorem zQ:aq.underlying 183=aa (.slice 5):=by kernel_rfl
theorem un5:aq.underlying 5=aa (.int aK):=by kernel_rfl
theorem zz5:bZ aq 5=aa 1:=by kernel_rfl
theorem ag5:Go.Ab.isAgg aq 5=aj:=by kernel_rfl
noncomputable def re5:TypeInfo:=(fI aq 5).getD default
theorem aeS:fI aq 5=aa re5:=by kernel_rfl
theorem Za:re5.size=1:=by kernel_rfl
theorem Vg:re5.bytes=1:=by kernel_rfl
theorem HB(d:Wf g)(e:Ok g h){v:ag}{a:List ag}(o:hJ g h 3 v a)(z:Int)(f:a.length<=100000):
  ∃(b:Option aJ)(n c:Nat)(u:ek),cG aq 27 27 v (sA h.aD 1 1) (h.push (.cells [aE z] 3 1 af))=aa (ae b n c,u)/\n=a.length+1/\hJ g (u.app (h.push (.cells [aE z] 3 1 af))) 3 (ae b n c) (a++[aE z])/\Ok g (u.app (h.push (.cells [aE z] 3 1 af))):=
 hJ.snoc me Hp xy d e o rfl (by rw[uL];omega) (by omega)
theorem Tc(d:Wf g)(e:Ok g h){v:ag}{a:List ag}(o:hJ g h 5 v a)(z:Int)(f:a.length<=100000):
  ∃(b:Option aJ)(n c:Nat)(u:ek),cG aq 183 183 v (sA h.aD 1 1) (h.push (.cells [aC aK z] 5 1 af))=aa (ae b n c,u)/\n=a.length+1/\hJ g (u.app (h.push (.cells [aC aK z] 5 1 af))) 5 (ae b n c) (a++[aC aK z])/\Ok g (u.app (h.push (.cells [aC aK z] 5 1 af))):=
 hJ.snoc zQ aeS Za d e o rfl (by rw[Vg];omega) (by omega)
theorem T3(c:UInt8)(l:List UInt8):jw (c::l)=jw l++[mO c]:=by simp[jw]
theorem Jk{l:List UInt8}(h:i<l.length):l.drop i=l.getD i 0::l.drop (i+1):=by
 rw[gD,gE h,cX h];rfl
theorem FU{l:List UInt8}(a:l.all ei=af){i:Nat}(h:i<l.length):ei (l.getD i 0)=af:=by
 rw[gD,gE h];exact bY.1 a _ (List.getElem_mem h)
def mn(h:au)(e:aF)(d:List ag):VH:=λv b=>∃a n c,v=ae a n c/\hJ h b e (ae a n c) d/\Ok h b
theorem vF(l:List UInt8)(B:l.all ei=af)(s:l.length<=100000)(h:au)(w:Wf h):aX 273 [strOf l] h (mn h 3 ((jw l).map iv)):=by
 have L:=xK l (λmz i a n c g=> -1<=i/\i<l.length/\mz=(i+1).toNat/\hJ h g 3 (ae a n c) ((jw (l.drop (i+1).toNat)).map iv)/\Ok h g) (mn h 3 ((jw l).map iv)) (by
  intro mz i a n c;intros;rename_i g x;obtain⟨E,v,D,q,r⟩:=x;refine az (λf=>?_) (λf=>?_)
  ·have f:=dT f;have j:i.toNat<l.length:=by omega
   have o:=FU B j;have C:=pk.1 o;refine⟨_,Dl (h:=g) l f v,_,_,_,Bw _,?_⟩;obtain⟨b,m,d,u,A,F,k,y⟩:=HB w r q (ai ak (ai aK ((((l.getD i.toNat 0).toNat:Nat):Int)-48))) (by simp[jw];omega);refine⟨b,m,d,u,A,?_⟩;have e:ai ak (i-1)=i-1:=cd (by omega) (by omega);refine Ec (mz-1) (by omega) ?_;rw[e];refine⟨by omega,by omega,by omega,?_,y⟩;have p:ai ak (ai aK ((((l.getD i.toNat 0).toNat:Nat):Int)-48))=((mO (l.getD i.toNat 0):Nat):Int):=by
    rw[vV (by omega) (by omega),cd (by omega) (by omega)];unfold mO;omega
   rw[p]at k;have z:(i-1+1).toNat=i.toNat:=by omega
   have t:(i+1).toNat=i.toNat+1:=by omega
   rw[t]at k;rw[p,z,Jk j,T3,bK];exact k
  ·have f:=dF f;obtain rfl:i = -1:=by omega
   exact⟨a,n,c,rfl,q,r⟩)
 have e:ai ak ((l.length:Int)-1)=(l.length:Int)-1:=cd (by omega) (by omega);refine Mb l h _ ?_;refine L l.length ⟨by rw[e];omega,by rw[e];omega,by rw[e];omega,?_,Ok.refl w⟩;rw[e,show((l.length:Int)-1+1).toNat=l.length by omega,List.drop_length];exact .inl ⟨rfl,rfl⟩
theorem Hv{b:Option aJ}{c:Nat}(M:Rd h 3 (ae a n c) (x.map iv))(R:Rd h 3 (ae b m i) (y.map iv))(Q:∀i∈x,i<10)(T:∀i∈y,i<10)(N:x.length<=100000)(w:Wf h):
  aX 278 [ae a n c,ae b m i] h (mn h 3 ((dq jc x y 0 x.length 0).map iv)):=by
 have V:n=x.length:=by have:=M.len;rwa[aH]at this
 have I:∀k,iK jc x y 0 0 k<=1:=R2 (λp q c _=>by unfold jc;split<;>simp) x y 0 0 (by omega);have L:=AQ a n c b m i (λmz k cc r v A g=>k<=x.length/\mz=x.length-k/\cc=iK jc x y 0 0 k/\hJ h g 3 (ae r v A) ((dq jc x y 0 k 0).map iv)/\Ok h g) (mn h 3 ((dq jc x y 0 x.length 0).map iv)) (by
  intro mz k cc r v A;intros;rename_i g S;obtain⟨W,Y,O,E,o⟩:=S;have U:=I k;have Z:=cV (by omega) Q k;have X:=cV (by omega) T k;refine az (λs=>?_) (λs=>?_)
  ·have s:=dT s;refine(xJ (M.ok o) k).mono ?_;rintro _ _ ⟨rfl,rfl⟩;refine⟨_,rfl,(xJ (R.ok o) k).mono ?_⟩;rintro _ _ ⟨rfl,rfl⟩;refine⟨_,rfl,?_⟩;have K:ai ak (((x.getD k 0:Nat):Int)-((y.getD k 0:Nat):Int))=((x.getD k 0:Nat):Int)-((y.getD k 0:Nat):Int):=cd (by omega) (by omega);have H:ai ak (((x.getD k 0:Nat):Int)-((y.getD k 0:Nat):Int)-(cc:Int))=((x.getD k 0:Nat):Int)-((y.getD k 0:Nat):Int)-(cc:Int):=cd (by omega) (by omega);have J:ai ak ((k:Int)+1)=((k+1:Nat):Int):=by rw[cd (by omega) (by omega)];omega
   dsimp only;rw[K,H,J];have t:(dq jc x y 0 k 0).length=k:=iM _ _ _ _ _ _;have f:=lK jc x y k 0 0;have j:iK jc x y 0 0 (k+1)=(jc (x.getD (0+k) 0) (y.getD (0+k) 0) (iK jc x y 0 0 k)).2:=rfl;rw[bJ,<-O]at f j;refine az (λl=>?_) (λl=>?_)
   ·have l:=dT l;refine⟨_,_,_,Bw _,?_⟩;obtain⟨D,B,z,u,C,P,e,G⟩:=HB w o E (ai ak (((x.getD k 0:Nat):Int)-((y.getD k 0:Nat):Int)-(cc:Int)+10)) (by rw[aH,t];omega);refine⟨D,B,z,u,C,?_⟩;have d:jc (x.getD k 0) (y.getD k 0) cc=(x.getD k 0+10-y.getD k 0-cc,1):=by unfold jc;rw[iP (by omega)]
    refine ow (b:=1) (mz-1) (by omega) ⟨by omega,by omega,by rw[j,d],?_,G⟩;rw[f,d,bK];have F:ai ak (((x.getD k 0:Nat):Int)-((y.getD k 0:Nat):Int)-(cc:Int)+10)=((x.getD k 0+10-y.getD k 0-cc:Nat):Int):=by rw[cd (by omega) (by omega)];omega
    rw[F]at e⊢;exact e
   ·have l:=dF l;refine⟨_,_,_,Bw _,?_⟩;obtain⟨D,B,z,u,C,P,e,G⟩:=HB w o E (((x.getD k 0:Nat):Int)-((y.getD k 0:Nat):Int)-(cc:Int)) (by rw[aH,t];omega);refine⟨D,B,z,u,C,?_⟩;have d:jc (x.getD k 0) (y.getD k 0) cc=(x.getD k 0-y.getD k 0-cc,0):=by unfold jc;rw[iN (by omega)]
    refine ow (b:=0) (mz-1) (by omega) ⟨by omega,by omega,by rw[j,d],?_,G⟩;rw[f,d,bK];have F:((x.getD k 0:Nat):Int)-((y.getD k 0:Nat):Int)-(cc:Int)=((x.getD k 0-y.getD k 0-cc:Nat):Int):=by omega
    rw[F]at e⊢;exact e
  ·have s:=dF s;obtain rfl:k=x.length:=by omega
   exact⟨r,v,A,rfl,E,o⟩)
 exact Re a n c b m i h _ (L x.length (k:=0) (cc:=0) ⟨by omega,by omega,rfl,.inl ⟨rfl,rfl⟩,Ok.refl w⟩)
theorem Te{l:List UInt8}(r:Rd h 5 v (l.map uy)):AV aq 183 9 v h=aa (strOf l):=acR zQ acQ un5 r
theorem IP{z:Nat}(b:i<z)(c:z<=x.length):((x.take z).drop i).reverse=((x.take z).drop (i+1)).reverse++[x.getD i 0]:=by
 have a:i<(x.take z).length:=by rw[bq];omega
 rw[cX a,List.reverse_cons,List.getElem_take,gD,gE (by omega)];rfl
theorem vG{c:Nat}(K:Rd h 3 (ae a n c) (x.map iv))(O:∀d∈x,d<10)(U:x.length<=100000)(w:Wf h):
  aX 276 [ae a n c] h (λv C=>v=strOf (bn (Num.bv 10 x))/\Ok h C):=by
 have hn:n=x.length:=by have:=K.len;rwa[aH]at this
 have P:=λ(f:Nat) (hz:f<=x.length) (S:0<x.length->0<f) (V:0<x.length->wM (x.take f)=bn (Num.bv 10 x))=>AS a n c (λmz i r G Q g=> -1<=i/\i<(f:Int)/\mz=(i+1).toNat/\hJ h g 5 (ae r G Q) ((((x.take f).drop (i+1).toNat).reverse.map jo).map uy)/\Ok h g) (λv C=>v=strOf (bn (Num.bv 10 x))/\Ok h C) (by
  intro mz i r G Q;intros;rename_i g L;obtain⟨Z,h2,X,t,I⟩:=L;refine az (λq=>?_) (λq=>?_)
  ·have q:=dT q;obtain⟨p,J,E⟩:=(K.ok I).at_ me IS zs zb (k:= ak) (i:=i) q (by rw[aH];omega);rw[wZ x i.toNat (by omega)]at E;refine⟨p,J,_,E,_,_,_,adn _,?_⟩;have M:=cV (by omega) O i.toNat;obtain⟨b,m,d,u,g6,g7,N,g9⟩:=Tc w I t (ai aK (ai ak (48+((x.getD i.toNat 0:Nat):Int)))) (by simp;omega);refine⟨b,m,d,u,g6,?_⟩;have H:ai ak (i-1)=i-1:=cd (by omega) (by omega);refine Ec (mz-1) (by omega) ?_;rw[H];refine⟨by omega,by omega,by omega,?_,g9⟩;rw[show(i-1+1).toNat=i.toNat by omega,IP (by omega) hz,bK,bK];rw[show(i+1).toNat=i.toNat+1 by omega]at N;have W:uy (jo (x.getD i.toNat 0))=aC aK (ai aK (ai ak (48+((x.getD i.toNat 0:Nat):Int)))):=by
    unfold uy;rw[mS M,cd (by omega) (by omega),vV (by omega) (by omega)]
    first|rfl|(congr 1;omega)
   show hJ h _ 5 _ (_++[uy (jo (x.getD i.toNat 0))]);rw[W];exact N
  ·have q:=dF q;obtain rfl:i = -1:=by omega
   have e0:((-1:Int)+1).toNat=0:=rfl;rw[e0,bO]at t;have R:=t.len;simp only[aH,List.length_reverse,bq]at R;refine az (λo=>?_) (λo=>?_)
   ·have o:(G:Int)=0:=by simpa using o
    have D:x=[]:=by
     rcases dv x.length with e|e
     ·exact bE e
     ·have:=S e;omega
    subst D;exact⟨by rw[show Num.bv 10 []=0 from rfl,rV],I⟩
   ·have o:¬(G:Int)=0:=by simpa using o
    have D:0<x.length:=by omega
    have:=Te t.rd;rw[show((x.take f).reverse.map jo)=wM (x.take f)from rfl,V D]at this;exact⟨_,this,rfl,I⟩)
 have s:∀(f:Nat),hJ h h 5 nA ((((x.take f).drop ((f:Int)-1+1).toNat).reverse.map jo).map uy):=λf=>by
  rw[show((f:Int)-1+1).toNat=f by omega,gT (by rw[bq];omega)];exact .inl ⟨rfl,rfl⟩
 have L1:=AR a n c (λmz z g=>0<=z/\z<=x.length/\mz=z.toNat/\(0<x.length->0<z)/\(∀j:Nat,z<=j->x.getD j 0=0)/\g=h) (λv C=>v=strOf (bn (Num.bv 10 x))/\Ok h C) (by
  intro mz z;intros;rename_i g L;obtain⟨Z,h2,X,t,q,rfl⟩:=L;obtain⟨f,rfl⟩:∃f:Nat,z=f:=⟨z.toNat,by omega⟩
  have H:ai ak ((f:Int)-1)=(f:Int)-1:=cd (by omega) (by omega);have A:(1<f->x.getD (f-1) 0≠0)->0<x.length->wM (x.take f)=bn (Num.bv 10 x):=λY B=>by
   rw[<-FC (l:=x) (n:=f) (λj T=>q j (by omega))];refine Tw (λd M=>O d (dy M)) (λe=>?_) (λy=>?_)
   ·have:=congrArg List.length e;rw[bq]at this;have h9:min f x.length=0:=this;have:=t B;omega
   ·rw[bq]at y;have F:=Y (by omega);rw[List.getLast?_eq_getElem?,bq,List.getElem?_take,iP (by omega)];rw[gD,gE (by omega)]at F;rw[show min f x.length-1=f-1 by omega,gE (by omega)];simpa using F
  refine az (λo=>?_) (λo=>?_)
  ·have o:=dT o;rw[H];obtain⟨p,J,E⟩:=K.at_ me IS zs zb (k:= ak) (i:=(f:Int)-1) (by omega) (by rw[aH];omega);rw[wZ x _ (by omega),show((f:Int)-1).toNat=f-1 by omega]at E;refine⟨p,J,_,E,az (λy=>?_) (λy=>?_)⟩
   ·have y:((x.getD (f-1) 0:Nat):Int)=0:=by simpa using y
    refine fC (mz-1) (by omega) ⟨by omega,by omega,by omega,λ_=>by omega,λj T=>?_,rfl⟩;rcases db j f with F|F
    ·obtain rfl:j=f-1:=by omega
     omega
    ·exact q j (by omega)
   ·have y:¬((x.getD (f-1) 0:Nat):Int)=0:=by simpa using y
    exact P f (by omega) (λB=>by have:=t B;omega) (A λ_=>by omega) f ⟨by omega,by omega,by omega,s f,Ok.refl w⟩
  ·have o:=dF o;rw[H];exact P f (by omega) (λB=>by have:=t B;omega) (A λhh=>by omega) f ⟨by omega,by omega,by omega,s f,Ok.refl w⟩)
 refine Rf a n c h _ (L1 n (z:=(n:Int)) ⟨by omega,by omega,by omega,λB=>by omega,λj T=>?_,rfl⟩);rw[gD,getElem?_eq_none (by omega)];rfl
noncomputable def gy:FD:=gU Tryz.f272 [((pq 607),[0,1,7,8,9]),((pq 143967),[0,1,7,8,9,10]),((pq 1151),[0,1,7,8,11])]
abbrev jS(a b:LB)(k:Nat)(r:LB)(q:OA)(d c:Nat):LV:=[(strOf a),(strOf b),(ae q d c),(strOf r),(iA k)]
abbrev ng(a b:LB)(k:Nat)(q:OA)(e c:Nat)(r:LB)(d:Int):LV:=[(strOf a),(strOf b),(ae q e c),(strOf r),(iA k),(aC aK d)]
abbrev p7(a b r:LB)(q:OA)(d c:Nat)(z:Nat):LV:=[(strOf a),(strOf b),(ae q d c),(strOf r),(iA z)]
theorem Vp(a b:LB)(h:au)(Q:VH)(i:aX 271 [(strOf a)] h λj d=>yB j λf=>cq (!f) (Q (av ⟨[(strOf []),(strOf []),(aE 1)]⟩) d) (aX 271 [(strOf b)] d λe c=>yB e λg=>cq (!g) (Q (av ⟨[(strOf []),(strOf []),(aE 1)]⟩) c) (cq ((b:LB)==[48]) (Q (av ⟨[(strOf []),(strOf []),(aE 4)]⟩) c) (cw gy (pq 607) (jS a b 0 ([48]) none 0 0) c (eu gy (pq 351) Q))))):aX 272 [(strOf a),(strOf b)] h Q:=hH gy Tryz.func272 (bD i)
theorem Ct(a b:LB)  (e:Nat->Nat->LB->OA->Nat->Nat->au->Prop) (Q:VH) (step:∀(mz:Nat)(k:Nat)(r:LB)(q:OA)(d c:Nat)(g:Nat->ag)(h:au),e mz k r q d c h->cq (decide ((k:Int)<(a.length:Int))) (cq ((r:LB)==[48]) (xS (dN aq 9 (strOf a) (aa (iA k)) (aa (aE (ai ak ((k:Int)+1)))) none h) λi=>cw gy (pq 143967) (ng a b k q d c i 48) h (fQ gy (pq 153) (pq 607) (RR gy (pq 607) (DZ (jS a b) e) mz (eu gy (pq 351) Q)))) (xS (dN aq 9 (strOf a) (aa (iA k)) (aa (aE (ai ak ((k:Int)+1)))) none h) λj=>xS (ca aq .add 9 (strOf r) (strOf j)) λl=>cw gy (pq 143967) (ng a b k q d c l 48) h (fQ gy (pq 153) (pq 607) (RR gy (pq 607) (DZ (jS a b) e) mz (eu gy (pq 351) Q))))) (cw gy (pq 1151) (p7 a b r q d c 0) h (eu gy (pq 639) Q))) (mz:Nat) {k:Nat} {r:LB} {q:OA} {d c:Nat} {h:au} (f:e mz k r q d c h):cw gy (pq 607) (jS a b k r q d c) h (eu gy (pq 351) Q):=
 zO (jS a b) e (λmz k r q d c g h f=>bD (step mz k r q d c g h f)) mz f
theorem Cu(a b:LB)(j:Nat->Nat->LB->OA->Nat->Nat->au->Prop)(mz k:Nat)(q:OA)(i g:Nat)(e:Nat->LB->Int->au->Prop)(Q:VH)(step:∀(c:Nat) (r:LB) (d:Int) (F:Nat->ag) (h:au),e c r d h->aX 277 [(strOf r),(strOf b)] h λy f=>yI ak y λG=>cq (decide (G>=0)) (aX 273 [(strOf r)] f λI P=>yL I λu w n=>aX 273 [(strOf b)] P λt M=>yL t λL H p=>aX 278 [(ae u w n),(ae L H p)] M λE z=>yL E λA K B=>aX 276 [(ae A K B)] z λv N=>yS v λD=>ct (pB (ng a b k q i g) e) c [(strOf a),(strOf b),(ae q i g),(strOf D),(iA k),(aC aK (ai aK (d+1)))] N) (xR (bS aq 183 1 [(0,(aC aK d))]) f λR O J l=>xE (cG aq 183 183 (ae q i g) (sA (f.aD) O J) l) l λs o C S x=>ct (DZ (jS a b) j) mz [(strOf a),(strOf b),(ae s o C),(strOf r),(aE (ai ak ((k:Int)+1)))] x))(c:Nat){r:LB}{d:Int}{h:au}(m:e c r d h):cw gy (pq 143967) (ng a b k q i g r d) h (fQ gy (pq 153) (pq 607) (RR gy (pq 607) (DZ (jS a b) j) mz (eu gy (pq 351) Q))):=
 mc (ng a b k q i g) e (λc r d F h m=>bD (step c r d F h m)) c m
theorem Cv(a b:LB)(r:LB)(q:OA)(c d:Nat)(e:Nat->Nat->au->Prop)(Q:VH)(step:∀(mz:Nat) (z:Nat) (m:Nat->ag) (h:au),e mz z h->cq (decide ((z:Int)<ai ak ((c:Int)-1))) (qX (xI aK) 183 (ae q c d) (iA z) 5 h λn=>cq ((n==48)) (ct (jg (p7 a b r q c d) e) mz [(strOf a),(strOf b),(ae q c d),(strOf r),(aE (ai ak ((z:Int)+1)))] h) (xL (dN aq 183 (ae q c d) (aa (iA z)) none none h) λl s j=>xS (AV aq 183 9 (ae l s j) h) λg=>Q (av ⟨[(strOf g),(strOf r),(aE 0)]⟩) h)) (xL (dN aq 183 (ae q c d) (aa (iA z)) none none h) λo k i=>xS (AV aq 183 9 (ae o k i) h) λp=>Q (av ⟨[(strOf p),(strOf r),(aE 0)]⟩) h))(mz:Nat){z:Nat}{h:au}(f:e mz z h):cw gy (pq 1151) (p7 a b r q c d z) h (eu gy (pq 639) Q):=
 gm (p7 a b r q c d) e (λmz z m h f=>bD (step mz z m h f)) mz f
noncomputable def xM:FD:=gU Tryz.f249 [((pq 35),[0,1])]
abbrev p8  (x y:LB):LV:=[(strOf x),(strOf y)]
theorem Vr(a b:LB)(h:au)(Q:VH)(i:aX 271 [(strOf a)] h λj c=>yB j λf=>cq (!f) (Q (av ⟨[(strOf []),(aE 1)]⟩) c) (aX 271 [(strOf b)] c λe d=>yB e λg=>cq (!g) (Q (av ⟨[(strOf []),(aE 1)]⟩) d) (cw xM (pq 35) (p8 a b) d (eu xM (pq 19) Q)))):aX 249 [(strOf a),(strOf b)] h Q:=hH xM Tryz.func249 (bD i)
theorem Cw(a b:LB)  (c:Nat->LB->LB->au->Prop) (Q:VH) (step:∀(mz:Nat)(x y:LB)(g:Nat->ag)(h:au),c mz x y h->cq (!((y:LB)==[48])) (aX 272 [(strOf x),(strOf y)] h λi j=>∃k:LB,∃d:LB,∃f:Int,i=(av ⟨[(strOf k),(strOf d),(aE f)]⟩)/\ct (pB p8 c) mz [(strOf y),(strOf d)] j) (Q (av ⟨[(strOf x),(aE 0)]⟩) h)) (mz:Nat) {x y:LB} {h:au} (e:c mz x y h):cw xM (pq 35) (p8  x y) h (eu xM (pq 19) Q):=
 mc p8 c (λmz x y g h e=>bD (step mz x y g h e)) mz e
variable{k:Nat}
theorem ZG(l:List UInt8){h:au}{a b:Nat}(c:a<=b)(d:b<=l.length):dN aq 9 (strOf l) (aa (aE (a:Int))) (aa (aE (b:Int))) none h=aa (strOf ((l.drop a).take (b-a))):=sH acQ l rfl rfl c d
theorem YE{l:List UInt8}(h:k<l.length):(l.drop k).take (k+1-k)=[l.getD k 0]:=by
 rw[Jk h,show k+1-k=1 by omega];rfl
theorem jU(h:n<10^1000):(bn n).length<=1000:=(iO (by omega)).2 h
theorem Qq{l:List UInt8}(h:k<l.length):l[k]?=aa (l.getD k 0):=by
 rw[gD,gE h];rfl
def three(a b:List UInt8)(e:Int):ag:= av ⟨[strOf a,strOf b,aE e]⟩
theorem Vq(m n:Nat)(K:m<10^1000)(A:n<10^1000)(S:0<n)(h:au)(w:Wf h):aX 272 [strOf (bn m),strOf (bn n)] h (λv C=>v=three (bn (m/n)) (bn (m%n)) 0/\Ok h C):=by
 have u2:=jU K;have z6:=jU A;have y9:=fV m;generalize ha:bn m=a at*;have y3:Num.val a=m:=by rw[<-ha,eQ]
 have y5:¬bn n=[48]:=λe=>by have:=gF.1 e;omega
 have L3:=λ(g0:au) (r:List UInt8) (q:Option aJ) (l t:Nat) (c:List UInt8) (L:hJ h g0 5 (ae q l t) (c.map uy)) (hq:c.all ei=af) (z5:0<c.length) (z7:c.length<=1000) (y2:Num.val c=m/n) (x:r=bn (m%n)) (M:Ok h g0)=>
  Cv a (bn n) r q l t (λmz z g=>z+1<=c.length/\mz=c.length-z/\(∀i,i<z->c[i]?=aa 48)/\g=g0) (λv C=>v=three (bn (m/n)) (bn (m%n)) 0/\Ok h C) (by
  intro mz z;intros;rename_i g N;obtain⟨h1,h2,h3,rfl⟩:=N;have u0:l=c.length:=by have:=L.len;rwa[aH]at this
  have hw:ai ak ((l:Int)-1)=(l:Int)-1:=cd (by omega) (by omega);have D:ai ak ((z:Int)+1)=((z+1:Nat):Int):=by rw[cd (by omega) (by omega)];omega
  have fin:(z+1<c.length->c[z]?≠aa 48)->∃(x2:Option aJ)(x3 x1:Nat),dN aq 183 (ae q l t) (aa (aE (z:Int))) none none g=aa (ae x2 x3 x1)/\∃X:List UInt8,AV aq 183 9 (ae x2 x3 x1) g=aa (strOf X)/\(three X r 0=three (bn (m/n)) (bn (m%n)) 0/\Ok h g):=λhs=>by
   obtain⟨a',n',c',g1,y⟩:=L.from_ zQ zz5 (z:=z) (by rw[aH];omega);rw[<-map_drop]at y;refine⟨a',n',c',g1,_,Te y,?_,M⟩;rw[MP hq (by omega) h3 hs,y2,x]
  rw[hw,D];refine az (λo=>?_) (λo=>?_)
  ·have o:=dT o;obtain⟨p,y,W⟩:=L.rd.at_ zQ zz5 un5 ag5 (k:= ak) (i:=(z:Int)) (by omega) (by rw[aH];omega);have B:(c.map uy).getD ((z:Int)).toNat undef=aC aK ((c.getD z 0).toNat:Nat):=by
    rw[bc,gD,getElem?_map,Qq (by omega)];rfl
   rw[B]at W;refine⟨p,y,_,W,az (λf=>?_) (λf=>?_)⟩
   ·have f:=Kr.1 f;refine fC (mz-1) (by omega) ⟨by omega,by omega,λi N=>?_,rfl⟩;rcases db i z with s|s
    ·exact h3 i s
    ·obtain rfl:i=z:=by omega
     rw[Qq (by omega),f]
   ·exact fin λ_ e=>by
     rw[Qq (by omega)]at e;rw[Kr.2 (aG e)]at f;cases f
  ·have o:=dF o;exact fin λhh=>by omega)
 have L1:=Ct a (bn n) (λmz k r q l t g=>k<=a.length/\mz=a.length-k/\r=bn (Num.val (a.take k)%n)/\(∃c:List UInt8,c.length=k/\c.all ei=af/\Num.val c=Num.val (a.take k)/n/\hJ h g 5 (ae q l t) (c.map uy))/\Ok h g) (λv C=>v=three (bn (m/n)) (bn (m%n)) 0/\Ok h C) (by
  intro mz k r q l t;intros;rename_i g N;obtain⟨h1,h2,x,⟨c,y0,x7,F,L⟩,M⟩:=N;refine az (λo=>?_) (λo=>?_)
  ·have o:=dT o;have E:k<a.length:=by omega
   have Q:=FU y9 E;have y4:=uV Q;have x8:=dJ (Num.val (a.take k)) S;have D:ai ak ((k:Int)+1)=((k+1:Nat):Int):=by rw[cd (by omega) (by omega)];omega
   have x5:Num.val (a.take (k+1))=10*Num.val (a.take k)+mO (a.getD k 0):=vZ (Qq E);have J:=KC (r:=Num.val (a.take k)%n) Q;have L2:=Cu a (bn n) (λmz k r q l t g=>k<=a.length/\mz=a.length-k/\r=bn (Num.val (a.take k)%n)/\(∃c:List UInt8,c.length=k/\c.all ei=af/\Num.val c=Num.val (a.take k)/n/\hJ h g 5 (ae q l t) (c.map uy))/\Ok h g) mz k q l t
    (λZ r d y=>∃j:Nat,d=48+(j:Int)/\j*n<=10*(Num.val (a.take k)%n)+mO (a.getD k 0)/\r=bn (10*(Num.val (a.take k)%n)+mO (a.getD k 0)-j*n)/\Z=10*(Num.val (a.take k)%n)+mO (a.getD k 0)-j*n/\Ok g y) (λv C=>v=three (bn (m/n)) (bn (m%n)) 0/\Ok h C) (by
    intro Z r2 d;intros;rename_i y z2;obtain⟨j,rfl,x4,rfl,u1,I⟩:=z2;have O:=ML S y4 x4;generalize hR:10*(Num.val (a.take k)%n)+mO (a.getD k 0)=R at*;have z4:(bn (R-j*n)).length<=1001:=by
     have z3:=sN n;refine bN ((iO (k:=(bn n).length+1) (by omega)).2 ?_) (by omega);rw[fF];generalize 10^(bn n).length=T at z3;clear A K;omega
    have y7:=M.trans I;refine(ui (R-j*n) n (by omega) (by omega) y y7.wf).mono ?_;rintro _ W ⟨rfl,G⟩;refine⟨_,rfl,az (λf=>?_) (λf=>?_)⟩
    ·have f:=IX.1 (dT f);refine(vF _ (fV _) (by omega) W G.wf).mono ?_;rintro _ g4 ⟨a1,n1,c1,rfl,o1,x6⟩;refine⟨a1,n1,c1,rfl,(vF _ (fV _) (by omega) g4 x6.wf).mono ?_⟩;rintro _ g5 ⟨a2,n2,c2,rfl,o2,P⟩;refine⟨a2,n2,c2,rfl,(Hv (o1.rd.ok P) o2.rd (qh (fV _)) (qh (fV _)) (by rw[oT];omega) P.wf).mono ?_⟩;rintro _ g6 ⟨a3,n3,c3,rfl,o3,x0⟩;refine⟨a3,n3,c3,rfl,(vG o3.rd (IZ (qh (fV _)) (qh (fV _)) _ _ _ (by omega)) (by rw[iM,oT];omega) x0.wf).mono ?_⟩;rintro _ g7 ⟨rfl,y8⟩;have z0:(bn n).length<=(bn (R-j*n)).length:=by
      rcases db (bn (R-j*n)).length (bn n).length with s|s
      ·have:=pG s;omega
      ·exact s
     have Y:=IY (qh (fV (R-j*n))) (qh (fV n)) (by rw[oT,oT];exact z0) (by rw[j5,j5,eQ,eQ];exact f);rw[j5,j5,eQ,eQ]at Y;rw[Y];refine⟨_,rfl,?_⟩;have y1:ai aK (48+(j:Int)+1)=48+((j+1:Nat):Int):=by rw[vV (by omega) (by omega)];omega
     rw[y1];have B:(j+1)*n=j*n+n:=Nat.succ_mul j n;exact iu (R-j*n-n) (by clear A K;omega) ⟨j+1,rfl,by rw[B];clear A K;omega,by rw[B,Nat.sub_sub],by rw[B,Nat.sub_sub],((((I.trans G).trans x6).trans P).trans x0).trans y8⟩
    ·have f:¬(n<=R-j*n):=λe=>by have:=dF f;exact this (IX.2 e)
     have U:=MM (V:=Num.val (a.take k)) (d:=mO (a.getD k 0)) S (k:=j) (by rw[hR];exact x4) (by rw[hR,Nat.succ_mul];clear A K;omega);rw[hR]at U;refine⟨_,_,_,adn _,?_⟩;have y6:=M.trans (I.trans G);obtain⟨b,mm,dd,u,g6,g7,g8,g9⟩:=Tc w y6 (L.ok (I.trans G)) (48+(j:Int)) (by rw[aH];omega);refine⟨b,mm,dd,u,g6,?_⟩;rw[D];refine ow (mz-1) (by omega) ⟨by omega,by omega,?_,⟨c++[jo j],by simp[y0],?_,?_,?_⟩,g9⟩
     ·rw[x5,U.2]
     ·rw[gH,x7];simp[wG O]
     ·rw[lN,F,FF O,x5,U.1]
     ·rw[bK];have B:uy (jo j)=aC aK (48+(j:Int)):=by
       unfold uy;rw[mS O];rfl
      show hJ h _ 5 _ (_++[uy (jo j)]);rw[B];exact g8)
   have H:∀r',r'=bn (10*(Num.val (a.take k)%n)+mO (a.getD k 0))->∃j:Nat,(48:Int)=48+(j:Int)/\j*n<=10*(Num.val (a.take k)%n)+mO (a.getD k 0)/\r'=bn (10*(Num.val (a.take k)%n)+mO (a.getD k 0)-j*n)/\10*(Num.val (a.take k)%n)+mO (a.getD k 0)=10*(Num.val (a.take k)%n)+mO (a.getD k 0)-j*n/\Ok g g:=
    λr' e=>⟨0,rfl,by rw[kj];exact ck _,by rw[kj,sub_zero];exact e,by rw[kj,sub_zero],Ok.refl M.wf⟩
   rw[D];refine az (λf=>?_) (λf=>?_)
   ·have f:r=[48]:=by simpa using f
    refine⟨_,ZG a (by omega) (by omega),?_⟩;rw[YE E];refine L2 _ (H _ ?_);rw[<-J,iP (by rw[<-x];exact f)]
   ·have f:¬r=[48]:=by simpa using f
    refine⟨_,ZG a (by omega) (by omega),?_⟩;rw[YE E];have z9:r.length<=1000:=by
     rw[x];exact jU (Nat.lt_trans x8 A)
    refine⟨_,aaO r [a.getD k 0] (by simp;omega),?_⟩;refine L2 _ (H _ ?_);rw[<-J,iN (by rw[<-x];exact f),x]
  ·have o:=dF o;obtain rfl:k=a.length:=by omega
   rw[fi]at F x;rw[y3]at F x;have z8:0<a.length:=by rw[<-ha];exact rJ m
   exact L3 g r q l t c L x7 (by omega) (by omega) F x M c.length (z:=0) ⟨by omega,by omega,λi N=>by omega,rfl⟩)
 refine Vp a (bn n) h _ ?_;refine(gY a h).mono ?_;rintro _ _ ⟨rfl,rfl⟩;have z1:Num.valid a=af:=by rw[<-ha];exact qH.2 K
 have x9:Num.valid (bn n)=af:=qH.2 A;refine⟨_,rfl,az (λf=>?_) (λf=>?_)⟩
 ·rw[z1]at f;cases f
 ·refine(gY (bn n) _).mono ?_;rintro _ _ ⟨rfl,rfl⟩;refine⟨_,rfl,az (λs=>?_) (λs=>az (λh8=>?_) (λh8=>?_))⟩
  ·rw[x9]at s;cases s
  ·exact absurd (by simpa using h8) y5
  ·exact L1 a.length (k:=0) ⟨by omega,by omega,by rw[dQ];simp[nH,rV],⟨[],rfl,rfl,by rw[dQ];simp[nH],.inl ⟨rfl,rfl⟩⟩,Ok.refl w⟩
def H4(a:List UInt8)(e:Int):ag:= av ⟨[strOf a,aE e]⟩
def ET(a b:List UInt8):ag:=if Num.valid a=af/\Num.valid b=af then H4 (bn (Nat.gcd (Num.val a) (Num.val b))) 0 else H4 [] 1
theorem Vs(a b:List UInt8)(h:au)(w:Wf h):aX 249 [strOf a,strOf b] h (λv r=>v=ET a b/\Ok h r):=by
 refine Vr a b h _ ?_;refine(gY a h).mono ?_;rintro _ _ ⟨rfl,rfl⟩;refine⟨_,rfl,az (λf=>?_) (λf=>?_)⟩
 ·refine⟨?_,Ok.refl w⟩;unfold ET;rw[iN (λe=>by rw[e.1]at f;cases f)];rfl
 ·refine(gY b _).mono ?_;rintro _ _ ⟨rfl,rfl⟩;refine⟨_,rfl,az (λd=>?_) (λd=>?_)⟩
  ·refine⟨?_,Ok.refl w⟩;unfold ET;rw[iN (λe=>by rw[e.2]at d;cases d)];rfl
  ·have l:Num.valid a=af:=by simpa using f
   have j:Num.valid b=af:=by simpa using d
   obtain⟨m,rfl,B,_⟩:=gP l;obtain⟨n,rfl,A,_⟩:=gP j;rename_i t _ _;have L:=Cw (bn m) (bn n) (λmz x y g=>∃p q:Nat,x=bn p/\y=bn q/\p<10^1000/\q<10^1000/\Nat.gcd p q=Nat.gcd m n/\mz=q/\Ok t g) (λv r=>v=ET (bn m) (bn n)/\Ok t r) (by
    intro mz x y;intros;rename_i g C;obtain⟨p,q,rfl,rfl,E,o,z,rfl,s⟩:=C;refine az (λc=>?_) (λc=>?_)
    ·have c:¬bn mz=[48]:=by simpa using c
     have k:0<mz:=Nat.pos_of_ne_zero λe=>c (gF.2 e);refine(Vq p mz E o k g s.wf).mono ?_;rintro _ F ⟨rfl,u⟩;refine⟨_,_,_,rfl,?_⟩;have i:=dJ p k;exact iu (p%mz) i ⟨mz,p%mz,rfl,rfl,o,Nat.lt_trans i o,by rw[<-PD];exact z,rfl,s.trans u⟩
    ·have c:bn mz=[48]:=by simpa using c
     have D:=gF.1 c;subst D;refine⟨?_,s⟩;unfold ET;rw[iP ⟨l,j⟩,eQ,eQ,<-z,Nat.gcd_zero_right];rfl)
   exact L n ⟨m,n,rfl,rfl,B,A,rfl,rfl,Ok.refl w⟩
noncomputable def uH:FD:=gU Tryz.f210 [((pq 17),[0])]
abbrev rO  (r:OA) (m d:Nat):LV:=[(ae r m d)]
theorem GX(a:OA)(n c:Nat)(h:au)(Q:VH)(b:cw uH (pq 17) [(ae a n c)] h (eu uH [1,0,0] Q)):aX 210 [(ae a n c)] h Q:=hH uH Tryz.func210 (bD b)
theorem tg(a:OA)(n c:Nat)  (b:Nat->OA->Nat->Nat->au->Prop) (Q:VH) (step:∀(mz:Nat)(r:OA)(m d:Nat)(f:Nat->ag)(h:au),b mz r m d h->cq (decide ((m:Int)>0)) (qX (xI aw) 260 (ae r m d) (aE (ai ak ((m:Int)-1))) 240 h λg=>cq ((g==0)) (xL (dN aq 260 (ae r m d) none (aa (aE (ai ak ((m:Int)-1)))) none h) λi j k=>ct (LA3 rO b) mz [(ae i j k)] h) (Q (ae r m d) h)) (Q (ae r m d) h)) (mz:Nat) {r:OA} {m d:Nat} {h:au} (e:b mz r m d h):cw uH (pq 17) (rO  r m d) h (eu uH [1,0,0] Q):=
 Zm rO b (λmz r m d f h e=>bD (step mz r m d f h e)) mz e
noncomputable def gV:FD:=gU Tryz.f208 [((pq 35),[0,3]),((pq 9635),[0,3,4,5,6])]
abbrev kz  (s:LB) (r:OA) (a b:Nat):LV:=[(strOf s),(ae r a b)]
abbrev mF(s:LB)(r:OA)(b c:Nat)(a:Int)(i v:Int):LV:=[(strOf s),(ae r b c),(aE a),(bA v),(aE i)]
theorem Ln(l:LB)(h:au)(Q:VH)(a:cw gV (pq 35) [(strOf l),nA] h (eu gV (pq 19) Q)):aX 208 [(strOf l)] h Q:=hH gV Tryz.func208 (bD a)
theorem xe(l:LB)  (c:Nat->LB->OA->Nat->Nat->au->Prop) (Q:VH) (step:∀(mz:Nat)(s:LB)(r:OA)(a b:Nat)(f:Nat->ag)(h:au),c mz s r a b h->cq (decide ((s.length:Int)>0)) (xI ak (ud af [(aE 0),(aE (ai ak ((s.length:Int)-9)))]) λe=>cw gV (pq 9635) (mF s r a b e e 0) h (fQ gV (pq 173) (pq 35) (RR gV (pq 35) (Ky kz c) mz (eu gV (pq 19) Q)))) (aX 210 [(ae r a b)] h λi j=>yL i λk g m=>Q (ae k g m) j)) (mz:Nat) {s:LB} {r:OA} {a b:Nat} {h:au} (d:c mz s r a b h):cw gV (pq 35) (kz  s r a b) h (eu gV (pq 19) Q):=
 JX kz c (λmz s r a b f h d=>bD (step mz s r a b f h d)) mz d
theorem xf(l:LB)(f:Nat->LB->OA->Nat->Nat->au->Prop)(mz:Nat)(s:LB)(r:OA)(d e:Nat)(c:Int)(b:Nat->Int->Int->au->Prop)(Q:VH)(step:∀(a:Nat) (i v:Int) (p:Nat->ag) (h:au),b a i v h->cq (decide ((i:Int)<(s.length:Int))) (xI aK (dE aq 9 (strOf s) (aE i)) λw=>ct (pB (mF s r d e c) b) a [(strOf s),(ae r d e),(aE c),(bA (ai aw (ai aw (10*v)+ai aw (ai aK (w-48))))),(aE (ai ak (i+1)))] h) (xR (bS aq 260 1 [(0,(bA v))]) h λy u t j=>xE (cG aq 260 260 (ae r d e) (sA (h.aD) u t) j) j λm n q x g=>xS (dN aq 9 (strOf s) none (aa (aE c)) none g) λo=>ct (Ky kz f) mz [(strOf o),(ae m n q)] g))(a:Nat){i v:Int}{h:au}(k:b a i v h):cw gV (pq 9635) (mF s r d e c i v) h (fQ gV (pq 173) (pq 35) (RR gV (pq 35) (Ky kz f) mz (eu gV (pq 19) Q))):=
 mc (mF s r d e c) b (λa i v p h k=>bD (step a i v p h k)) a k
noncomputable def aeA:FD:=gU Tryz.f289 []
theorem ace(x:Int)(h:au)(Q:VH)(a:Q (ah (((x:Int) !=x))) h):aX 289 [(bA x)] h Q:=hH aeA Tryz.func289 (bD a)
noncomputable def aeg:FD:=gU Tryz.f268 []
theorem abd(x y:Int)(h:au)(Q:VH)(e:aX 289 [(bA x)] h λg f=>yB g λd=>aX 289 [(bA y)] f λc a=>yB c λb=>cq d (cq b (Q (aE 0) a) (Q (aE (-1)) a)) (cq b (Q (aE 1) a) (cq (decide ((x:Int)<y)) (Q (aE (-1)) a) (cq (decide ((x:Int)>y)) (Q (aE 1) a) (Q (aE 0) a))))):aX 268 [(bA x),(bA y)] h Q:=hH aeg Tryz.func268 (bD e)
noncomputable def aez:FD:=gU Tryz.f175 []
theorem acd(x:Int)(h:au)(Q:VH)(a:Q (ah (((x:Int) !=x))) h):aX 175 [(aE x)] h Q:=hH aez Tryz.func175 (bD a)
noncomputable def aef:FD:=gU Tryz.f139 []
theorem abb(x y:Int)(h:au)(Q:VH)(e:aX 175 [(aE x)] h λg f=>yB g λd=>aX 175 [(aE y)] f λc a=>yB c λb=>cq d (cq b (Q (aE 0) a) (Q (aE (-1)) a)) (cq b (Q (aE 1) a) (cq (decide ((x:Int)<y)) (Q (aE (-1)) a) (cq (decide ((x:Int)>y)) (Q (aE 1) a) (Q (aE 0) a))))):aX 139 [(aE x),(aE y)] h Q:=hH aef Tryz.func139 (bD e)
noncomputable def pT:FD:=gU Tryz.f241 [((pq 75),[0,1,18,19])]
abbrev lQ(a:OA)(n c:Nat)(b:OA)(m d:Nat)(i:Nat):LV:=[(ae a n c),(ae b m d),(iA n),(iA i)]
theorem IB(a:OA)(n c:Nat)(b:OA)(m d:Nat)(h:au)(Q:VH)(f:cq (((n:Int) !=(m:Int))) (aX 139 [(iA n),(iA m)] h λi g=>yI ak i λe=>Q (aE e) g) (cw pT (pq 75) (lQ a n c b m d 0) h (eu pT (pq 43) Q))):aX 241 [(ae a n c),(ae b m d)] h Q:=hH pT Tryz.func241 (bD f)
theorem wz(a:OA)(n c:Nat)(b:OA)(m d:Nat)  (e:Nat->Nat->au->Prop) (Q:VH) (step:∀(mz:Nat)(i:Nat)(j:Nat->ag)(h:au),e mz i h->cq (decide ((i:Int)<(n:Int))) (qX (xI aw) 260 (ae a n c) (aE (ai ak (ai ak ((n:Int)-1)-(i:Int)))) 240 (room h 18) λl=>qX (xI aw) 260 (ae b m d) (aE (ai ak (ai ak ((n:Int)-1)-(i:Int)))) 240 (room h 18) λp=>aX 268 [(bA l),(bA p)] (room h 18) λo k=>yI ak o λf=>cq ((f !=0)) (Q (aE f) k) (ct (jg (lQ a n c b m d) e) mz [(ae a n c),(ae b m d),(iA n),(aE (ai ak ((i:Int)+1)))] k)) (Q (aE 0) h)) (mz:Nat) {i:Nat} {h:au} (g:e mz i h):cw pT (pq 75) (lQ a n c b m d i) h (eu pT (pq 43) Q):=
 gm (lQ a n c b m d) e (λmz i j h g=>bD (step mz i j h g)) mz g
noncomputable def VM:FD:=gU Tryz.f283 []
theorem Rl(x y z:Int)(p:OA)(h:au)(Q:VH)(d:xI aw (aS aq 240 h (.pointer p)) λa=>xI aw (ca aq .rem 240 (bA (ai aw (ai aw (x*a)+z))) (bA 1000000000)) λc=>xI aw (ca aq .quo 240 (bA (ai aw (ai aw (x*a)+z))) (bA 1000000000)) λb=>Q (av ⟨[(bA c),(bA b)]⟩) h):aX 283 [(bA x),(bA y),(bA z),(.pointer p)] h Q:=hH VM Tryz.func283 (bD d)
noncomputable def pN:FD:=gU Tryz.f266 [((pq 151),[0,1,2,7,8,18,19])]
abbrev oZ(a:OA)(n c:Nat)(p:OA)(b:Int)(i:Nat)(cy:Int)(r:OA)(d e:Nat):LV:=[(ae a n c),nA,(aN (.func 283) ⟨[]⟩ ⟨[(.pointer p)]⟩),(ae r d e),(bA cy),(aE b),(iA i)]
theorem Is(a:OA)(n c:Nat)(p:OA)(h:au)(Q:VH)(d:xI ak (ud af [(iA n),(aE 0)]) λb=>cw pN (pq 151) [(ae a n c),nA,(aN (.func 283) ⟨[]⟩ ⟨[(.pointer p)]⟩),nA,(bA 0),(aE (ai ak (b+1))),(aE 0)] h (eu pN (pq 87) Q)):aX 266 [(ae a n c),nA,(aN (.func 283) ⟨[]⟩ ⟨[(.pointer p)]⟩)] h Q:=hH pN Tryz.func266 (bD d)
theorem wx(a:OA)(n c:Nat)(p:OA)(e:Int)(f:Nat->Nat->Int->OA->Nat->Nat->au->Prop)(Q:VH)(step:∀(mz:Nat) (i:Nat) (cy:Int) (r:OA) (b d:Nat) (X:Nat->ag) (h:au),f mz i cy r b d h->(λ(g:ag->ag->au->Prop)=>cq (decide ((i:Int)<e)) (cq (decide ((i:Int)<(n:Int))) (qX (xI aw) 260 (ae a n c) (iA i) 240 h λD=>cq (decide ((i:Int)<0)) (qX (xI aw) 260 nA (iA i) 240 h λn5=>aX 283 [(bA D),(bA n5),(bA cy),(.pointer p)] h λv6 h7=>∃n8:Int,∃E:Int,v6=(av ⟨[(bA n8),(bA E)]⟩)/\xR (bS aq 260 1 [(0,(bA n8))]) h7 λy5 S y0 k=>xE (cG aq 260 260 (ae r b d) (sA (h7.aD) S y0) k) k λC M U y8 K=>g (ae C M U) (bA E) K) (aX 283 [(bA D),(bA 0),(bA cy),(.pointer p)] h λx5 y=>∃o:Int,∃x:Int,x5=(av ⟨[(bA o),(bA x)]⟩)/\xR (bS aq 260 1 [(0,(bA o))]) y λz0 R F q=>xE (cG aq 260 260 (ae r b d) (sA (y.aD) R F) q) q λy1 x2 x6 y9 x0=>g (ae y1 x2 x6) (bA x) x0)) (cq (decide ((i:Int)<0)) (qX (xI aw) 260 nA (iA i) 240 h λL=>aX 283 [(bA 0),(bA L),(bA cy),(.pointer p)] h λx9 m=>∃j:Int,∃l:Int,x9=(av ⟨[(bA j),(bA l)]⟩)/\xR (bS aq 260 1 [(0,(bA j))]) m λy7 x7 G v=>xE (cG aq 260 260 (ae r b d) (sA (m.aD) x7 G) v) v λV y2 T y3 J=>g (ae V y2 T) (bA l) J) (aX 283 [(bA 0),(bA 0),(bA cy),(.pointer p)] h λI w=>∃t:Int,∃u:Int,I=(av ⟨[(bA t),(bA u)]⟩)/\xR (bS aq 260 1 [(0,(bA t))]) w λy4 Y x3 s=>xE (cG aq 260 260 (ae r b d) (sA (w.aD) Y x3) s) s λx4 x1 H y6 O=>g (ae x4 x1 H) (bA u) O))) (aX 210 [(ae r b d)] h λx8 W=>yL x8 λA P Z=>Q (ae A P Z) W)) (λB N hz=>ct (DZ (oZ a n c p e) f) mz [(ae a n c),nA,(aN (.func 283) ⟨[]⟩ ⟨[(.pointer p)]⟩),B,N,(aE e),(aE (ai ak ((i:Int)+1)))] hz))(mz:Nat){i:Nat}{cy:Int}{r:OA}{b d:Nat}{h:au}(z:f mz i cy r b d h):cw pN (pq 151) (oZ a n c p e i cy r b d) h (eu pN (pq 87) Q):=
 zO (oZ a n c p e) f (λmz i cy r b d X h z=>bD (step mz i cy r b d X h z)) mz z
noncomputable def Oc:FD:=gU Tryz.f260 []
theorem Lr(a:OA)(n c:Nat)(k:Int)(h:au)(Q:VH)(f:xN (jY aq 240 (bA k)) h λl d=>aX 266 [(ae a n c),nA,(aN (.func 283) ⟨[]⟩ ⟨[(pA (h.aD))]⟩)] d λb i=>yL b λj g e=>Q (ae j g e) i):aX 260 [(ae a n c),(bA k)] h Q:=hH Oc Tryz.func260 (bD f)
def uv(d:Nat):ag:= bA (d:Int)
theorem Ew:aq.underlying 260=aa (.slice 240):=by kernel_rfl
theorem Tl:aq.underlying 240=aa (.int aw):=by kernel_rfl
theorem HZ:bZ aq 240=aa 1:=by kernel_rfl
theorem R5:Go.Ab.isAgg aq 240=aj:=by kernel_rfl
noncomputable def Y8:TypeInfo:=(fI aq 240).getD default
theorem OF:fI aq 240=aa Y8:=by kernel_rfl
theorem Ho:Y8.size=1:=by kernel_rfl
theorem Em:Y8.bytes=8:=by kernel_rfl
theorem we(z:Int):bS aq 260 1 [(0,bA z)]=aa (.cells [bA z] 240 1 af,qe 1 1):=by kernel_rfl
theorem qa(d:Wf g)(e:Ok g h){v:ag}{a:List ag}(o:hJ g h 240 v a)(z:Int)(f:a.length<=100000):
  ∃(b:Option aJ)(n c:Nat)(u:ek),cG aq 260 260 v (sA h.aD 1 1) (h.push (.cells [bA z] 240 1 af))=aa (ae b n c,u)/\n=a.length+1/\hJ g (u.app (h.push (.cells [bA z] 240 1 af))) 240 (ae b n c) (a++[bA z])/\Ok g (u.app (h.push (.cells [bA z] 240 1 af))):=
 hJ.snoc Ew OF Ho d e o rfl (by rw[Em];omega) (by omega)
theorem Yh(l:List Nat)(i:Nat)(h:i<l.length):(l.map uv).getD i undef=bA (l.getD i 0:Nat):=by
 simp[gD,getElem?_map,gE h,uv]
theorem Jb{l:List Nat}(r:Rd h 240 v (l.map uv)){i:Int}(d:0<=i)(b:i<l.length):
  ∃p:aJ,aW aq 260 v (aE i)=aa (bw p)/\aS aq 240 h (bw p)=aa (bA (l.getD i.toNat 0:Nat)):=by
 obtain⟨p,c,a⟩:=r.at_ Ew HZ Tl R5 (k:= ak) d (by rw[aH];exact b);rw[Yh l _ (by omega)]at a;exact⟨p,c,a⟩
theorem vw{c:Nat}{l:List Nat}(o:hJ g h 240 (ae a n c) (l.map uv))(C:l.length<=100000):
  aX 210 [ae a n c] h (λv u=>∃f e b,v=ae f e b/\hJ g h 240 (ae f e b) ((gG l).map uv)/\u=h):=by
 have y:n=l.length:=by have:=o.len;rwa[aH]at this
 have L:=tg a n c (λmz r m d I=>m<=l.length/\mz=m/\hJ g h 240 (ae r m d) ((l.take m).map uv)/\gG l=gG (l.take m)/\I=h) (λv u=>∃f e b,v=ae f e b/\hJ g h 240 (ae f e b) ((gG l).map uv)/\u=h) (by
  intro mz r m d;intros;rename_i I H;obtain⟨J,rfl,t,w,rfl⟩:=H;have G:ai ak ((mz:Int)-1)=(mz:Int)-1:=cd (by omega) (by omega);rw[G];have s:mz≠0->l.take mz=l.take (mz-1)++[l.getD (mz-1) 0]:=λs=>by
   obtain⟨j,rfl⟩:∃j,mz=j+1:=⟨mz-1,by omega⟩
   rw[eH (by omega),Nat.add_sub_cancel,gD,gE (by omega)];rfl
  refine az (λq=>?_) (λq=>?_)
  ·have q:=dT q;obtain⟨p,E,B⟩:=Jb t.rd (i:=(mz:Int)-1) (by omega) (by rw[bq];omega);have D:(l.take mz).getD ((mz:Int)-1).toNat 0=l.getD (mz-1) 0:=by
    rw[show((mz:Int)-1).toNat=mz-1 by omega,gD,List.getElem?_take,iP (by omega),gD]
   rw[D]at B;refine⟨p,E,_,B,az (λk=>?_) (λk=>?_)⟩
   ·have k:((l.getD (mz-1) 0:Nat):Int)=0:=by simpa using k
    have k:l.getD (mz-1) 0=0:=by omega
    obtain⟨f,e,b,F,x⟩:=t.upto Ew HZ (z:=mz-1) (by rw[aH,bq];omega) (by rw[aH,bq];omega);rw[show((mz:Int)-1)=((mz-1:Nat):Int) by omega];have A:e=mz-1:=by have:=x.len;rw[bq,aH,bq]at this;omega
    subst A;refine⟨f,_,b,F,NP (mz-1) (by omega) ⟨by omega,rfl,?_,?_,rfl⟩⟩
    ·rw[<-map_take,take_take,dI (by omega)]at x;exact x
    ·rw[w,s (by omega),k,mq]
   ·have k:¬((l.getD (mz-1) 0:Nat):Int)=0:=by simpa using k
    refine⟨r,mz,d,rfl,?_,rfl⟩;rw[w,s (by omega),nF _ (by omega),<-s (by omega)];exact t
  ·have q:=dF q;obtain rfl:mz=0:=by omega
   refine⟨r,0,d,rfl,?_,rfl⟩;rw[w];exact t)
 exact GX a n c h _ (L n ⟨by omega,rfl,by rw[show l.take n=l by rw[y,fi]];exact o,by rw[show l.take n=l by rw[y,fi]],rfl⟩)
theorem IQ{l:List UInt8}(h:i<l.length):Num.val (l.take (i+1))=10*Num.val (l.take i)+mO (l.getD i 0):=vZ (Qq h)
theorem VR(l:List UInt8){h:au}{b:Nat}(c:b<=l.length):dN aq 9 (strOf l) none (aa (aE (b:Int))) none h=aa (strOf (l.take b)):=sH (a:=0) acQ l rfl rfl (by omega) c
theorem M6(b:n=s.length-9)(a:0<s.length):Num.val s=Num.val (s.drop n)+10^(s.length-n)*Num.val (s.take n):=by
 have:=nG (s.take n) (s.drop n);rw[dM,da,cS]at this;omega
theorem vv(l:List UInt8)(hd:l.all ei=af)(k:l.length<=10000)(h:au)(w:Wf h):aX 208 [strOf l] h (mn h 240 ((cO 1000000000 (Num.val l)).map uv)):=by
 have X:=xe l (λmz s r o t g=>mz=s.length/\s.all ei=af/\s.length<=10000/\Ok h g/\∃a:List Nat,(∀d∈a,d<1000000000)/\a.length+s.length<=10000/\hJ h g 240 (ae r o t) (a.map uv)/\Num.val l=Num.bv 1000000000 a+1000000000^a.length*Num.val s) (mn h 240 ((cO 1000000000 (Num.val l)).map uv)) (by
  intro mz s r o t;intros;rename_i g W;obtain⟨rfl,p,x2,P,a,B,x0,N,H⟩:=W;refine az (λz=>?_) (λz=>?_)
  ·have z:=dT z;have T:ai ak ((s.length:Int)-9)=(s.length:Int)-9:=cd (by omega) (by omega);rw[T];have D:(if(s.length:Int)-9>0 then(s.length:Int)-9 else 0)=((s.length-9:Nat):Int):=by split<;>omega
   refine⟨_,B9 _ _ _,?_⟩;rw[D];have S:=xf l (λmz s r o t g=>mz=s.length/\s.all ei=af/\s.length<=10000/\Ok h g/\∃a:List Nat,(∀d∈a,d<1000000000)/\a.length+s.length<=10000/\hJ h g 240 (ae r o t) (a.map uv)/\Num.val l=Num.bv 1000000000 a+1000000000^a.length*Num.val s) s.length s r o t ((s.length-9:Nat):Int)
    (λq i v A=>∃j:Nat,i=(s.length-9:Nat)+(j:Int)/\s.length-9+j<=s.length/\q=s.length-(s.length-9+j)/\v=(Num.val ((s.drop (s.length-9)).take j):Nat)/\A=g) (mn h 240 ((cO 1000000000 (Num.val l)).map uv)) (by
    intro q i v;intros;rename_i A O;obtain⟨j,rfl,hj,x3,rfl,rfl⟩:=O;have C:(s.drop (s.length-9)).all ei=af:=by
     rw[bY]at p⊢;exact λx c=>p x (List.mem_of_mem_drop c)
    have E:=FJ (l:=(s.drop (s.length-9)).take j) (by
     rw[bY]at C⊢;exact λx c=>C x (dy c))
    have f:Num.val ((s.drop (s.length-9)).take j)<1000000000:=by
     refine cD E (bN (di (by omega) (show _<=9 by rw[bq,da];omega)) (by decide))
    refine az (λe=>?_) (λe=>?_)
    ·have e:=dT e;have G:s.length-9+j<s.length:=by omega
     have y:=FU p G;have x4:=pk.1 y;have x1:=uV y;refine⟨_,Dl (h:=A) s (by omega) e,?_⟩;have F:(((s.length-9:Nat):Int)+(j:Int)).toNat=s.length-9+j:=by omega
     rw[F];have Q:ai aK ((((s.getD (s.length-9+j) 0).toNat:Nat):Int)-48)=(mO (s.getD (s.length-9+j) 0):Nat):=by
      rw[vV (by omega) (by omega)];unfold mO;omega
     have Z:(s.drop (s.length-9)).getD j 0=s.getD (s.length-9+j) 0:=by
      rw[gD,List.getElem?_drop,gD]
     have M:=IQ (l:=s.drop (s.length-9)) (i:=j) (by rw[da];omega);rw[Z]at M;dsimp only;rw[Q,jB (n:=((mO (s.getD (s.length-9+j) 0):Nat):Int)) (by omega) (by omega),jB (n:=10*((Num.val ((s.drop (s.length-9)).take j):Nat):Int)) (by omega) (by omega),jB (by omega) (by omega),cd (n:=((s.length-9:Nat):Int)+(j:Int)+1) (by omega) (by omega)];exact iu (q-1) (by omega) ⟨j+1,by omega,by omega,by omega,by rw[M];omega,rfl⟩
    ·have e:=dF e;have J:(s.drop (s.length-9)).take j=s.drop (s.length-9):=bC (by rw[da];omega);rw[J]at f⊢;refine⟨_,_,_,we _,?_⟩;obtain⟨b,m,d,u,U,g7,R,g9⟩:=qa w P N ((Num.val (s.drop (s.length-9)):Nat):Int) (by rw[aH];omega);refine⟨b,m,d,u,U,?_⟩;refine⟨_,VR s (show s.length-9<=s.length by omega),?_⟩;refine Ec (s.take (s.length-9)).length (by rw[bq];omega) ⟨rfl,?_,by rw[bq];omega,g9,a++[Num.val (s.drop (s.length-9))],?_,?_,?_,?_⟩
     ·rw[bY]at p⊢;exact λx c=>p x (dy c)
     ·intro x c;rcases bG.1 c with c|c
      ·exact B x c
      ·rw[ba.1 c];exact f
     ·rw[bF,bq];simp;omega
     ·rw[bK];exact R
     ·rw[uw,bF,H,M6 (s:=s) rfl (by omega),de];rcases db s.length 10 with V|V
      ·rw[show s.length-9=0 by omega,dQ,nH];simp
      ·rw[show s.length-(s.length-9)=9 by omega,show(10:Nat)^9=1000000000 from rfl,fF,kh,iI];omega)
   exact S _ ⟨0,by omega,by omega,rfl,by simp[nH],rfl⟩
  ·have z:=dF z;obtain rfl:s=[]:=bE (by omega);refine(vw N (by omega)).mono ?_;rintro _ A ⟨L,K,I,rfl,Y,rfl⟩;refine⟨L,K,I,rfl,L,K,I,rfl,?_,P⟩;rw[H,nH,hZ,eR,<-oU (by omega) B];exact Y)
 exact Ln l h _ (X l.length ⟨rfl,hd,k,Ok.refl w,[],by simp,by simpa using k,.inl ⟨rfl,rfl⟩,by simp[Num.bv]⟩)
variable{j:Nat}{P:aO}
theorem SP(x:Int)(h:au):aX 289 [bA x] h (λv a=>v=ah aj/\a=h):=ace x h _ ⟨by simp,rfl⟩
theorem SO(x:Int)(h:au):aX 175 [aE x] h (λv a=>v=ah aj/\a=h):=acd x h _ ⟨by simp,rfl⟩
theorem abe(m n:Nat)(h:au):aX 268 [bA (m:Int),bA (n:Int)] h (λv c=>v=aE (iB m n)/\c=h):=by
 refine abd _ _ h _ ((SP _ h).mono ?_);rintro _ _ ⟨rfl,rfl⟩;refine⟨_,rfl,(SP _ _).mono ?_⟩;rintro _ _ ⟨rfl,rfl⟩;refine⟨_,rfl,az (λe=>by cases e) (λ_=>az (λe=>by cases e) (λ_=>az (λa=>?_) (λa=>az (λb=>?_) (λb=>?_))))⟩
 ·exact⟨by rw[pj (by have:=dT a;omega)],rfl⟩
 ·exact⟨by rw[ph (by have:=dT b;omega)],rfl⟩
 ·have a:=dF a;have b:=dF b;exact⟨by rw[show m=n by omega,ux],rfl⟩
theorem abc(m n:Nat)(h:au):aX 139 [aE (m:Int),aE (n:Int)] h (λv c=>v=aE (iB m n)/\c=h):=by
 refine abb _ _ h _ ((SO _ h).mono ?_);rintro _ _ ⟨rfl,rfl⟩;refine⟨_,rfl,(SO _ _).mono ?_⟩;rintro _ _ ⟨rfl,rfl⟩;refine⟨_,rfl,az (λe=>by cases e) (λ_=>az (λe=>by cases e) (λ_=>az (λa=>?_) (λa=>az (λb=>?_) (λb=>?_))))⟩
 ·exact⟨by rw[pj (by have:=dT a;omega)],rfl⟩
 ·exact⟨by rw[ph (by have:=dT b;omega)],rfl⟩
 ·have a:=dF a;have b:=dF b;exact⟨by rw[show m=n by omega,ux],rfl⟩
abbrev BB:Nat:=1000000000
abbrev bl(n:Nat):List ag:=(cO BB n).map uv
theorem kJ:1<BB:=by decide
theorem ue{b:Option aJ}{c:Nat}{x:Nat}(D:Rd h 240 (ae a n c) (bl x))(C:Rd h 240 (ae b m k) (bl j))(H:(cO BB x).length<=10000)(w:Wf h):
  aX 241 [ae a n c,ae b m k] h (λv t=>v=aE (iB x j)/\Ok h t):=by
 have N:n=(cO BB x).length:=by have:=D.len;rwa[aH]at this
 have O:m=(cO BB j).length:=by have:=C.len;rwa[aH]at this
 have L:=λ(B:(cO BB x).length=(cO BB j).length)=>wz a n c b m k (λmz i g=>i<=n/\mz=n-i/\(cO BB x).drop (n-i)=(cO BB j).drop (n-i)/\Ok h g) (λv t=>v=aE (iB x j)/\Ok h t) (by
  intro mz i;intros;rename_i g K;obtain⟨f,o,s,F⟩:=K;have A:ai ak ((n:Int)-1)=(n:Int)-1:=cd (by omega) (by omega);have y:ai ak ((n:Int)-1-(i:Int))=(n:Int)-1-(i:Int):=cd (by omega) (by omega);have z:ai ak ((i:Int)+1)=((i+1:Nat):Int):=by rw[cd (by omega) (by omega)];omega
  rw[A,y,z];have l:=F.room 18;refine az (λr=>?_) (λr=>?_)
  ·have r:=dT r;have M:((n:Int)-1-(i:Int)).toNat=n-1-i:=by omega
   obtain⟨p,I,G⟩:=Jb (D.ok l) (i:=(n:Int)-1-(i:Int)) (by omega) (by omega);obtain⟨q,J,E⟩:=Jb (C.ok l) (i:=(n:Int)-1-(i:Int)) (by omega) (by omega);rw[M]at G E;refine⟨p,I,_,G,q,J,_,E,(abe _ _ _).mono ?_⟩;rintro _ _ ⟨rfl,rfl⟩;have u:(cO BB x).drop (n-1-i+1)=(cO BB j).drop (n-1-i+1):=by rw[show n-1-i+1=n-i by omega];exact s
   refine⟨_,rfl,az (λd=>?_) (λd=>?_)⟩
   ·refine⟨?_,l⟩;have d:iB ((cO BB x).getD (n-1-i) 0) ((cO BB j).getD (n-1-i) 0)≠0:=by simpa using d
    rcases Nat.lt_trichotomy ((cO BB x).getD (n-1-i) 0) ((cO BB j).getD (n-1-i) 0)with e|e|e
    ·have:=wD kJ (fU kJ x) B (by omega) u e;rw[eP kJ,eP kJ]at this;rw[pj e,pj this]
    ·rw[e,ux]at d;exact absurd rfl d
    ·have:=wD kJ (fU kJ j) B.symm (by omega) u.symm e;rw[eP kJ,eP kJ]at this;rw[ph e,ph this]
   ·have d:iB ((cO BB x).getD (n-1-i) 0) ((cO BB j).getD (n-1-i) 0)=0:=by simpa using d
    have e:(cO BB x).getD (n-1-i) 0=(cO BB j).getD (n-1-i) 0:=by
     unfold iB at d;split at d
     ·cases d
     ·split at d
      ·assumption
      ·cases d
    refine fC (mz-1) (by omega) ⟨by omega,by omega,?_,l⟩;rw[show n-(i+1)=n-1-i by omega,cX (show n-1-i<(cO BB x).length by omega),cX (show n-1-i<(cO BB j).length by omega),u];congr 1;rw[gD,gE (by omega),gD,gE (by omega)]at e;exact e
  ·have r:=dF r;rw[show n-i=0 by omega,bO,bO]at s;have:x=j:=by rw[<-eP kJ x,s,eP kJ]
   exact⟨by rw[this,ux],F⟩)
 refine IB a n c b m k h _ (az (λf=>(abc _ _ h).mono ?_) (λf=>?_))
 ·rintro _ _ ⟨rfl,rfl⟩;have f:=QN f;refine⟨_,rfl,?_,Ok.refl w⟩;rcases Nat.lt_trichotomy n m with o|o|o
  ·rw[pj o,pj (pE kJ (by omega))]
  ·exact absurd o f
  ·rw[ph o,ph (pE kJ (by omega))]
 ·have f:=Qe f;refine L (by omega) n (i:=0) ⟨by omega,by omega,?_,Ok.refl w⟩;rw[sub_zero,gT (by omega),gT (by omega)]
theorem X7{t:aF}(o:Ok h g)(a:aS P t h v=aa w):aS P t g v=aa w:=by
 unfold aS at a⊢;split at a
 ·next c=>
  split at a
  ·next cs _ _ _ b=>rw[o.ext _ _ b];exact a
  ·cases a
 ·cases a
theorem Rm(i:aS aq 240 h (.pointer a)=aa (bA (k:Int)))(x y z:Nat)(d:x<BB)(f:k<=BB)(m:z<BB):
  aX 283 [bA (x:Int),bA (y:Int),bA (z:Int),.pointer a] h (λv e=>v=av ⟨[uv (fz BB k x y z).1,uv (fz BB k x y z).2]⟩/\e=h):=by
 have j:BB=1000000000:=rfl;have l:x*k<=1000000000000000000:=bN (fy (le_of_lt d) f) (by decide);have c:ai aw ((x:Int)*(k:Int))=((x*k:Nat):Int):=by rw[<-Int.natCast_mul];exact jB (by omega) (by omega)
 have g:ai aw (((x*k:Nat):Int)+(z:Int))=((x*k+z:Nat):Int):=by rw[<-Int.natCast_add];exact jB (by omega) (by omega)
 refine Rl _ _ _ a h _ ⟨_,i,?_⟩;dsimp only;rw[c,g];refine⟨_,lV (b:=BB) (by omega) (by decide),_,tP (b:=BB) (by omega) (by omega) (by decide),?_,rfl⟩;unfold uv fz;rw[Int.natCast_emod,Int.natCast_ediv]
theorem It{c:Nat}{p:Option aJ}(R:Rd h 240 (ae a n c) (x.map uv))(B:∀d∈x,d<BB)(x0:x.length<=10000)(Y:aS aq 240 h (.pointer p)=aa (bA (k:Int)))(z:0<k)(D:k<=BB)(w:Wf h):
  aX 266 [ae a n c,nA,aN (.func 283) ⟨[]⟩ ⟨[.pointer p]⟩] h (mn h 240 (bl (Num.bv BB x*k))):=by
 have hn:n=x.length:=by have:=R.len;rwa[aH]at this
 have X:BB=1000000000:=rfl;have hF:∀p q c,c<=BB-1->p<BB->(fz BB k p q c).2<=BB-1:=λp q c hc Y=>by
  unfold fz;dsimp only;have h1:p*k<=999999999*1000000000:=fy (by omega) D;have:(p*k+c)/BB<BB:=eB (by rw[X];omega);omega
 have S:∀j,iK (fz BB k) x [] 0 0 j<=BB-1:=by
  intro j
  induction j with
  |zero=>exact ck _
  |succ j ih=>exact hF _ _ _ ih (cV (by decide) B _)
 have fin:gG (dq (fz BB k) x [] 0 (n+1) 0)=cO BB (Num.bv BB x*k):=by
  rw[oU kJ (mP (λp q c=>dJ _ (by decide)) x [] (n+1) 0 0),PG kJ D z B (n+1) 0 0 (by omega) z (by omega)];rw[bO,eR]
 have L:=wx a n c p ((n:Int)+1) (λmz i cy r M O g=>i<=n+1/\mz=n+1-i/\cy=(iK (fz BB k) x [] 0 0 i:Nat)/\hJ h g 240 (ae r M O) ((dq (fz BB k) x [] 0 i 0).map uv)/\Ok h g) (mn h 240 (bl (Num.bv BB x*k))) (by
  intro mz i cy r M O;intros;rename_i g hi;obtain⟨h1,h2,rfl,E,v⟩:=hi;have J:ai ak ((i:Int)+1)=((i+1:Nat):Int):=by rw[cd (by omega) (by omega)];omega
  rw[J];have l:(dq (fz BB k) x [] 0 i 0).length=i:=iM _ _ _ _ _ _;have f:=lK (fz BB k) x [] i 0 0;rw[bJ]at f;have o:iK (fz BB k) x [] 0 0 (i+1)=(fz BB k (x.getD i 0) (([]:List Nat).getD i 0) (iK (fz BB k) x [] 0 0 i)).2:=by
   show(fz BB k (x.getD (0+i) 0) (([]:List Nat).getD (0+i) 0) _).2=_;rw[bJ]
  have x1:=S i;have V:=cV (b:=BB) (by decide) B i;have N:=X7 v Y;have T:=Rm N (x.getD i 0) (([]:List Nat).getD i 0) (iK (fz BB k) x [] 0 0 i) V D (by omega);have K:([]:List Nat).getD i 0=0:=by simp
  refine az (λy=>?_) (λy=>?_)
  ·have y:=dT y;refine az (λt=>?_) (λt=>?_)
   ·have t:=dT t;obtain⟨q,I,Z⟩:=Jb (R.ok v) (i:=(i:Int)) (by omega) (by omega);rw[bc]at Z;refine⟨q,I,_,Z,az (λs=>?_) (λs=>?_)⟩
    ·have:=dT s;omega
    ·refine(show aX 283 [bA ((x.getD i 0:Nat):Int),bA ((([]:List Nat).getD i 0:Nat):Int),bA ((iK (fz BB k) x [] 0 0 i:Nat):Int),.pointer p] g _ from T).mono ?_ |> (λe=>by rw[K]at e;exact e)
     rintro _ _ ⟨rfl,rfl⟩;refine⟨_,_,rfl,_,_,_,we _,?_⟩;obtain⟨b,m,d,u,C,g7,A,F⟩:=qa w v E ((fz BB k (x.getD i 0) (([]:List Nat).getD i 0) (iK (fz BB k) x [] 0 0 i)).1:Nat) (by rw[aH,l];omega);refine⟨b,m,d,u,C,ow (mz-1) (by omega) ⟨by omega,by omega,by rw[o],?_,F⟩⟩;rw[f,bK];exact A
   ·have t:=dF t;have U:x.getD i 0=0:=by rw[gD,getElem?_eq_none (by omega)];rfl
    refine az (λs=>?_) (λs=>?_)
    ·have:=dT s;omega
    ·refine(show aX 283 [bA ((x.getD i 0:Nat):Int),bA ((([]:List Nat).getD i 0:Nat):Int),bA ((iK (fz BB k) x [] 0 0 i:Nat):Int),.pointer p] g _ from T).mono ?_ |> (λe=>by rw[K,U]at e;exact e)
     rintro _ _ ⟨rfl,rfl⟩;refine⟨_,_,rfl,_,_,_,we _,?_⟩;obtain⟨b,m,d,u,C,g7,A,F⟩:=qa w v E ((fz BB k (x.getD i 0) (([]:List Nat).getD i 0) (iK (fz BB k) x [] 0 0 i)).1:Nat) (by rw[aH,l];omega);refine⟨b,m,d,u,C,ow (mz-1) (by omega) ⟨by omega,by omega,by rw[o],?_,F⟩⟩;rw[f,bK];exact A
  ·have y:=dF y;obtain rfl:i=n+1:=by omega
   refine(vw E (by rw[l];omega)).mono ?_;rintro _ I ⟨Q,P,H,rfl,W,rfl⟩;rw[fin]at W;exact⟨Q,P,H,rfl,Q,P,H,rfl,W,v⟩)
 refine Is a n c p h _ ⟨_,B9 _ _ _,?_⟩;have G:(if(0:Int)>(n:Int)then(0:Int)else(n:Int))=(n:Int):=iN (by omega);have hw:ai ak ((n:Int)+1)=(n:Int)+1:=cd (by omega) (by omega);dsimp only;rw[G,hw];exact L (n+1) (i:=0) ⟨by omega,by omega,rfl,.inl ⟨rfl,rfl⟩,Ok.refl w⟩
noncomputable def eX:FD:=gU Tryz.f261 [((pq 143),[0,1,5,7,8]),((pq 1215),[0,1,5,7,9,10,87,88]),((pq 9727),[0,1,5,7,10,128,129])]
abbrev nS(a:OA)(n c:Nat)(b:OA)(m d:Nat)(q e:Int):LV:=[(ae a n c),(ae b m d),(iA m),(bA q),(bA e)]
abbrev gW(a:OA)(n c:Nat)(b:OA)(m d:Nat)(q e:Int)(i:Nat)(f cy:Int):LV:=[(ae a n c),(ae b m d),(iA m),(bA q),(bA f),(bA cy),(aE e),(iA i)]
abbrev nT(a:OA)(n c:Nat)(b:OA)(m d:Nat)(q e:Int)(i:Nat)(cy:Int):LV:=[(ae a n c),(ae b m d),(iA m),(bA q),(bA cy),(aE e),(iA i)]
theorem N8(a:OA)(n c:Nat)(b:OA)(m d:Nat)(h:au)(Q:VH)(j:qX (xI aw) 260 (ae a n c) (iA m) 240 (room h 12) λe=>qX (xI aw) 260 (ae a n c) (aE (ai ak ((m:Int)-1))) 240 (room h 12) λg=>qX (xI aw) 260 (ae b m d) (aE (ai ak ((m:Int)-1))) 240 (room (room h 12) 16) λk=>xI aw (ca aq .quo 240 (bA (ai aw (ai aw (e*1000000000)+g))) (bA k)) λl=>qX (xI aw) 260 (ae b m d) (aE (ai ak ((m:Int)-1))) 240 (room (room h 12) 16) λi=>xI aw (ca aq .rem 240 (bA (ai aw (ai aw (e*1000000000)+g))) (bA i)) λf=>cw eX (pq 143) (nS a n c b m d l f) (room (room h 12) 16) (eu eX (pq 79) Q)):aX 261 [(ae a n c),(ae b m d)] h Q:=hH eX Tryz.func261 (bD j)
theorem ze(a:OA)(n c:Nat)(b:OA)(m d:Nat)  (f:Nat->Int->Int->au->Prop) (Q:VH) (step:∀(mz:Nat)(q e:Int)(r:Nat->ag)(h:au),f mz q e h->(λ(j:ag->au->Prop)=>cq (decide ((q:Int)>=1000000000)) (qX (xI aw) 260 (ae b m d) (aE (ai ak ((m:Int)-1))) 240 (room h 28) λi=>cq (decide ((ai aw (e+i):Int)>=1000000000)) (cq (decide ((ai aw (q-1):Int)<1000000000)) (cw eX (pq 1215) (gW a n c b m d (ai aw (q-1)) (ai ak ((m:Int)+1)) 0 0 0) (room h 28) (eu eX (pq 703) Q)) (j (bA (ai aw (e+i))) (room h 28))) (j (bA (ai aw (e+i))) (room h 28))) (cq (decide ((m:Int)>1)) (cq (decide ((e:Int)<1000000000)) (qX (xI aw) 260 (ae b m d) (aE (ai ak ((m:Int)-2))) 240 (room h 28) λo=>qX (xI aw) 260 (ae a n c) (aE (ai ak ((m:Int)-2))) 240 (room h 28) λp=>cq (decide ((ai aw (q*o):Int)>ai aw (ai aw (e*1000000000)+p))) (qX (xI aw) 260 (ae b m d) (aE (ai ak ((m:Int)-1))) 240 (room h 28) λg=>cq (decide ((ai aw (e+g):Int)>=1000000000)) (cq (decide ((ai aw (q-1):Int)<1000000000)) (cw eX (pq 1215) (gW a n c b m d (ai aw (q-1)) (ai ak ((m:Int)+1)) 0 0 0) (room h 28) (eu eX (pq 703) Q)) (j (bA (ai aw (e+g))) (room h 28))) (j (bA (ai aw (e+g))) (room h 28))) (cw eX (pq 1215) (gW a n c b m d q (ai ak ((m:Int)+1)) 0 0 0) (room h 28) (eu eX (pq 703) Q))) (cw eX (pq 1215) (gW a n c b m d q (ai ak ((m:Int)+1)) 0 0 0) (room h 28) (eu eX (pq 703) Q))) (cw eX (pq 1215) (gW a n c b m d q (ai ak ((m:Int)+1)) 0 0 0) (room h 28) (eu eX (pq 703) Q)))) (λl s=>ct (pB (nS a n c b m d) f) mz [(ae a n c),(ae b m d),(iA m),(bA (ai aw (q-1))),l] s)) (mz:Nat) {q e:Int} {h:au} (k:f mz q e h):cw eX (pq 143) (nS a n c b m d q e) h (eu eX (pq 79) Q):=
 mc (nS a n c b m d) f (λmz q e r h k=>bD (step mz q e r h k)) mz k
theorem zf(a:OA)(n c:Nat)(b:OA)(m d:Nat)(q f:Int)(g:Nat->Nat->Int->Int->au->Prop)(Q:VH)(step:∀(mz:Nat) (i:Nat) (e cy:Int) (D:Nat->ag) (h:au),g mz i e cy h->(λ(A:ag->ag->au->Prop)=>cq (decide ((i:Int)<f)) (cq (decide ((i:Int)<(m:Int))) (qX (xI aw) 260 (ae b m d) (iA i) 240 h λl=>qX (xI aw) 260 (ae a n c) (iA i) 240 h λo=>xI aw (ca aq .rem 240 (bA (ai aw (cy+ai aw (q*l)))) (bA 1000000000)) λk=>xI aw (ca aq .rem 240 (bA (ai aw (ai aw (ai aw (o+1000000000)-k)-e))) (bA 1000000000)) λB=>xI aw (ca aq .quo 240 (bA (ai aw (ai aw (ai aw (o+1000000000)-k)-e))) (bA 1000000000)) λu=>xI aw (ca aq .quo 240 (bA (ai aw (cy+ai aw (q*l)))) (bA 1000000000)) λE=>xP (aW aq 260 (ae a n c) (iA i)) λF=>xU (bh aq 240 (bw F) (bA B) h) h λH C=>A (bA (ai aw (1-u))) (bA E) C) (qX (xI aw) 260 (ae a n c) (iA i) 240 h λj=>xI aw (ca aq .rem 240 (bA cy) (bA 1000000000)) λp=>xI aw (ca aq .rem 240 (bA (ai aw (ai aw (ai aw (j+1000000000)-p)-e))) (bA 1000000000)) λy=>xI aw (ca aq .quo 240 (bA (ai aw (ai aw (ai aw (j+1000000000)-p)-e))) (bA 1000000000)) λv=>xI aw (ca aq .quo 240 (bA cy) (bA 1000000000)) λx=>xP (aW aq 260 (ae a n c) (iA i)) λw=>xU (bh aq 240 (bw w) (bA y) h) h λI s=>A (bA (ai aw (1-v))) (bA x) s)) (cq (((e:Int)==0)) (Q (bA q) h) (cw eX (pq 9727) (nT a n c b m d q (ai ak ((m:Int)+1)) 0 0) h (eu eX (pq 5631) Q)))) (λt z G=>ct (LA3 (gW a n c b m d q f) g) mz [(ae a n c),(ae b m d),(iA m),(bA q),t,z,(aE f),(aE (ai ak ((i:Int)+1)))] G))(mz:Nat){i:Nat}{e cy:Int}{h:au}(r:g mz i e cy h):cw eX (pq 1215) (gW a n c b m d q f i e cy) h (eu eX (pq 703) Q):=
 Zm (gW a n c b m d q f) g (λmz i e cy D h r=>bD (step mz i e cy D h r)) mz r
theorem zg(a:OA)(n c:Nat)(b:OA)(m d:Nat)(q e:Int)(f:Nat->Nat->Int->au->Prop)(Q:VH)(step:∀(mz:Nat) (i:Nat) (cy:Int) (u:Nat->ag) (h:au),f mz i cy h->(λ(s:ag->au->Prop)=>cq (decide ((i:Int)<e)) (qX (xI aw) 260 (ae a n c) (iA i) 240 h λg=>cq (decide ((i:Int)<(m:Int))) (qX (xI aw) 260 (ae b m d) (iA i) 240 h λj=>xI aw (ca aq .rem 240 (bA (ai aw (ai aw (g+cy)+j))) (bA 1000000000)) λy=>xI aw (ca aq .quo 240 (bA (ai aw (ai aw (g+cy)+j))) (bA 1000000000)) λr=>xP (aW aq 260 (ae a n c) (iA i)) λv=>xU (bh aq 240 (bw v) (bA y) h) h λB t=>s (bA r) t) (xI aw (ca aq .rem 240 (bA (ai aw (g+cy))) (bA 1000000000)) λp=>xI aw (ca aq .quo 240 (bA (ai aw (g+cy))) (bA 1000000000)) λx=>xP (aW aq 260 (ae a n c) (iA i)) λl=>xU (bh aq 240 (bw l) (bA p) h) h λA w=>s (bA x) w)) (Q (bA (ai aw (q-1))) h)) (λo z=>ct (pB (nT a n c b m d q e) f) mz [(ae a n c),(ae b m d),(iA m),(bA q),o,(aE e),(aE (ai ak ((i:Int)+1)))] z))(mz:Nat){i:Nat}{cy:Int}{h:au}(k:f mz i cy h):cw eX (pq 9727) (nT a n c b m d q e i cy) h (eu eX (pq 5631) Q):=
 mc (nT a n c b m d q e) f (λmz i cy u h k=>bD (step mz i cy u h k)) mz k
noncomputable def gX:FD:=gU Tryz.f238 [((pq 287),[0,1,6,7,8,9]),((pq 2431),[0,1,4,6,7,8,9,49,50]),((pq 19455),[4,5,7,12,74,75])]
abbrev mG(a:OA)(n c:Nat)(b:OA)(m d:Nat)(j:Int)(e:OA)(f h:Nat)(r:OA)(g i:Nat):LV:=[(ae a n c),(ae b m d),(iA m),(bA j),(ae r g i),(ae e f h)]
abbrev mH(a:OA)(n c:Nat)(b:OA)(m d:Nat)(p:Int)(g:OA)(q l:Nat)(r:OA)(j o:Nat)(e:OA)(h k:Nat)(f:Int)(i:Nat):LV:=[(ae a n c),(ae b m d),(ae g q l),(iA m),(bA p),(ae r j o),(ae e h k),(aE f),(iA i)]
abbrev mI(e:Int)(g:OA)(f c:Nat)(r:OA)(b d:Nat)(a:Int)(i:Nat)(left:Int):LV:=[(ae g f c),(ae r b d),(bA e),(bA left),(aE a),(iA i)]
theorem Lo(a:OA)(n c:Nat)(b:OA)(m d:Nat)(h:au)(Q:VH)(v:aX 241 [(ae a n c),(ae b m d)] h λw f=>yI ak w λs=>cq (decide (s<0)) (Q (av ⟨[nA,(ae a n c)]⟩) f) (qX (xI aw) 260 (ae b m d) (aE (ai ak ((m:Int)-1))) 240 f λq=>xI aw (ca aq .quo 240 (bA 1000000000) (bA (ai aw (q+1)))) λe=>aX 260 [(ae a n c),(bA e)] f λr u=>yL r λt k p=>aX 260 [(ae b m d),(bA e)] u λg o=>yL g λi j l=>cw gX (pq 287) (mG a n c b m d e i j l t k p) o (eu gX (pq 159) Q))):aX 238 [(ae a n c),(ae b m d)] h Q:=hH gX Tryz.func238 (bD v)
theorem xg(a:OA)(n c:Nat)(b:OA)(m d:Nat)(l:Int)(e:OA)(j k:Nat)(i:Nat->OA->Nat->Nat->au->Prop)(Q:VH)(step:∀(mz:Nat) (r:OA) (f g:Nat) (y:Nat->ag) (h:au),i mz r f g h->cq (decide ((f:Int)<=(n:Int))) (xR (bS aq 260 1 [(0,(bA 0))]) h λC u z p=>xE (cG aq 260 260 (ae r f g) (sA (h.aD) u z) p) p λt A s B v=>ct (LA3 (mG a n c b m d l e j k) i) mz [(ae a n c),(ae b m d),(iA m),(bA l),(ae t A s),(ae e j k)] v) (xR (dD aq 260 (aE (ai ak ((f:Int)-(m:Int)))) (aE (ai ak ((f:Int)-(m:Int))))) h λD o x w=>cw gX (pq 2431) (mH a n c b m d l (aa ⟨h.aD,0,none⟩) o x r f g e j k (o:Int) 0) w (eu gX (pq 1407) Q)))(mz:Nat){r:OA}{f g:Nat}{h:au}(q:i mz r f g h):cw gX (pq 287) (mG a n c b m d l e j k r f g) h (eu gX (pq 159) Q):=
 Zm (mG a n c b m d l e j k) i (λmz r f g y h q=>bD (step mz r f g y h q)) mz q
theorem xh(a:OA)(n c:Nat)(b:OA)(m d:Nat)(t:Int)(g:OA)(f o:Nat)(r:OA)(l p:Nat)(e:OA)(q s:Nat)(j:Int)(k:Nat->Nat->au->Prop)(Q:VH)(step:∀(mz:Nat) (i:Nat) (F:Nat->ag) (h:au),k mz i h->cq (decide ((i:Int)<j)) (xL (dN aq 260 (ae r l p) (aa (aE (ai ak (ai ak ((f:Int)-1)-(i:Int))))) (aa (aE (ai ak (ai ak (ai ak (ai ak ((f:Int)-1)-(i:Int))+(m:Int))+1)))) none h) λG E D=>aX 261 [(ae G E D),(ae e q s)] h λC v=>yI aw C λB=>xP (aW aq 260 (ae g f o) (aE (ai ak (ai ak ((f:Int)-1)-(i:Int))))) λA=>xU (bh aq 240 (bw A) (bA B) v) v λJ x=>ct (jg (mH a n c b m d t g f o r l p e q s j) k) mz [(ae a n c),(ae b m d),(ae g f o),(iA m),(bA t),(ae r l p),(ae e q s),(aE j),(aE (ai ak ((i:Int)+1)))] x) (aX 210 [(ae r l p)] h λz H=>yL z λy u I=>cw gX (pq 19455) (mI t g f o y u I (u:Int) 0 0) H (eu gX (pq 11263) Q)))(mz:Nat){i:Nat}{h:au}(w:k mz i h):cw gX (pq 2431) (mH a n c b m d t g f o r l p e q s j i) h (eu gX (pq 1407) Q):=
 gm (mH a n c b m d t g f o r l p e q s j) k (λmz i F h w=>bD (step mz i F h w)) mz w
theorem xj(a:OA)(n c:Nat)(b:OA)(m d:Nat)(l:Int)(g:OA)(p o:Nat)(r:OA)(e j:Nat)(f:Int)(k:Nat->Nat->Int->au->Prop)(Q:VH)(step:∀(mz:Nat) (i:Nat) (left:Int) (D:Nat->ag) (h:au),k mz i left h->cq (decide ((i:Int)<f)) (qX (xI aw) 260 (ae r e j) (aE (ai ak (ai ak ((e:Int)-1)-(i:Int)))) 240 h λq=>xI aw (ca aq .quo 240 (bA (ai aw (ai aw (left*1000000000)+q))) (bA l)) λy=>xI aw (ca aq .rem 240 (bA (ai aw (ai aw (left*1000000000)+q))) (bA l)) λC=>xP (aW aq 260 (ae r e j) (aE (ai ak (ai ak ((e:Int)-1)-(i:Int))))) λv=>xU (bh aq 240 (bw v) (bA y) (room h 11)) (room h 11) λI F=>ct (pB (mI l g p o r e j f) k) mz [(ae g p o),(ae r e j),(bA l),(bA C),(aE f),(aE (ai ak ((i:Int)+1)))] F) (aX 210 [(ae g p o)] h λw z=>yL w λA x E=>aX 210 [(ae r e j)] z λG B=>yL G λt u H=>Q (av ⟨[(ae A x E),(ae t u H)]⟩) B))(mz:Nat){i:Nat}{left:Int}{h:au}(s:k mz i left h):cw gX (pq 19455) (mI l g p o r e j f i left) h (eu gX (pq 11263) Q):=
 mc (mI l g p o r e j f) k (λmz i left D h s=>bD (step mz i left D h s)) mz s
section
def fm(cs:List ag)(off:Nat)(W:List Nat):List ag:=cs.take off++W.map uv++cs.drop (off+W.length)
structure MX(h:au)(k:Nat)(h':au):Prop where
 wf:Wf h'
 sY:∀j B,j≠k->h.get j=aa B->h'.get j=aa B
 nx:h.aD<=h'.aD
theorem MX.refl{k:Nat}(w:Wf h):MX h k h:=⟨w,λ_ _ _ h=>h,aT _⟩
theorem MX.room{h a:au}{k:Nat}(o:MX h k a)(n:Nat):MX h k (room a n):=⟨λj B b=>cD (o.wf j B b) (du _ _),o.sY,bN o.nx (du _ _)⟩
theorem MX.set{c:au}{k:Nat}(o:MX h k c)(d:k<c.aD)(B:eA):MX h k (c.set k B):=by
 refine⟨λj C a=>?_,λj C b a=>?_,o.nx⟩
 ·rw[au.cE]at a;split at a
  ·next e=>rw[e];exact d
  ·exact o.wf _ _ a
 ·rw[au.cE,iN b];exact o.sY _ _ b a
theorem BQ{k off c:Nat}{i:Int}(b:0<=i)(a:i<n):aW aq 260 (gJ k off n c) (aE i)=aa (df k (off+i.toNat)):=by
 unfold aW;rw[Ew];dsimp only;rw[HZ];dsimp only;rw[iP ⟨b,a⟩,dB,gk]
section
variable {g:au} {k off:Nat} {cs:List ag} {W:List Nat}
theorem GU(b:g.get k=aa (.cells (fm cs off W) 240 1 af))(c:off+W.length<=cs.length){i:Nat}(a:i<W.length):aS aq 240 g (df k (off+i))=aa (bA (W.getD i 0:Nat)):=by
 unfold aS;rw[Tl];dsimp only;rw[b];dsimp only;rw[R5];simp only[dG,if_false];unfold fm;rw[bP,List.getElem?_append_right (by rw[bq];omega),bq,dI (by omega),Nat.add_sub_cancel_left,List.getElem?_append_left (by rw[aH];exact a),getElem?_map,gE a,gD,gE a];rfl
theorem HC(h:g.get k=aa (.cells (fm cs off W) 240 1 af))(j:off+W.length<=cs.length){i:Nat}(b:i<W.length)(d:Nat):bh aq 240 (df k (off+i)) (bA (d:Int)) g=aa (undef,.set k (.cells (fm cs off (W.set i d)) 240 1 af)):=by
 show(if bZ aq 240=aa 1 then(storeAt g k (off+i) [bA (d:Int)]).map λu=>(undef,u)else none)=_;rw[iP HZ];unfold storeAt;rw[h];dsimp only;have a:(fm cs off W).length=cs.length:=by
  unfold fm;simp only[bF,bq,aH,da];omega
 rw[iP ⟨by rw[a];simp;omega,rfl⟩];have e:(fm cs off W).take (off+i)++[aC aw (d:Int)]++(fm cs off W).drop (off+i+[aC aw (d:Int)].length)=fm cs off (W.set i d):=by
  have f:(cs.take off).length=off:=by rw[bq];omega
  have c:(fm cs off W).take (off+i)++[aC aw (d:Int)]++(fm cs off W).drop (off+i+[aC aw (d:Int)].length)=(fm cs off W).set (off+i) (bA (d:Int)):=by
   rw[List.set_eq_take_append_cons_drop,iP (by rw[a];omega),bP];rfl
  rw[c];unfold fm;rw[bP,List.set_append,iN (by omega),f,Nat.add_sub_cancel_left,List.set_append,iP (by rw[aH];exact b),dt,bP,List.map_set];rfl
 rw[e];rfl
end
end
variable{l:Nat}
theorem Hw{a:Nat}:ca aq .rem 240 (bA (a:Int)) (bA 1000000000)=aa (bA ((a%BB:Nat):Int)):=by rfl
theorem JP{a:Nat}(h:a<18446744073709551616):ca aq .quo 240 (bA (a:Int)) (bA 1000000000)=aa (bA ((a/BB:Nat):Int)):=by
 have:=tP (P:=aq) (t:=240) (a:=(a:Int)) (b:=BB) (by omega) (by omega) (by decide)
 grind
theorem adL{a b:Nat}(c:0<b):ca aq .rem 240 (bA (a:Int)) (bA (b:Int))=aa (bA ((a%b:Nat):Int)):=by grind[lV]
theorem YX{a b:Nat}(h:a<18446744073709551616)(c:0<b):ca aq .quo 240 (bA (a:Int)) (bA (b:Int))=aa (bA ((a/b:Nat):Int)):=by grind[tP]
theorem wU(h:z=(n:Int))(a:n<18446744073709551616):ai aw z=(n:Int):=by grind[jB]
structure ac9(h:au)(k off c m:Nat)(cs:List ag)(U V:List Nat)(b:Option aJ)(d:Nat):Prop where
 w:Wf h
 get:h.get k=aa (.cells (fm cs off U) 240 1 af)
 fit:off+U.length<=cs.length
 ul:U.length=m+1
 vl:V.length=m
 mp:0<m
 mle:m<=10000
 ult:∀x∈U,x<BB
 vlt:∀x∈V,x<BB
 v1:0<V.getD (m-1) 0
 lt:Num.bv BB U<BB*Num.bv BB V
 rd:∀g,MX h k g->Rd g 240 (ae b m d) (V.map uv)
def Kt(h:au)(k a:Nat)(cs:List ag)(m:Nat)(U V:List Nat):VH:=λv b=>∃W:List Nat,W.length=m+1/\(∀x∈W,x<BB)/\Num.bv BB W=Num.bv BB U%Num.bv BB V/\v=uv (Num.bv BB U/Num.bv BB V)/\b.get k=aa (.cells (fm cs a W) 240 1 af)/\MX h k b
theorem N9{c:Nat}{cs:List ag}{V:List Nat}{b:Option aJ}(D:ac9 h k n c m cs y V b l):
  aX 261 [gJ k n (m+1) c,ae b m l] h (Kt h k n cs m y V):=by
 have x8:BB=1000000000:=rfl;have w2:=D.ul;have v8:=D.vl;have x4:=D.mp;have u8:=D.mle;have E:0<BB:=by decide
 have ug:∀i,y.getD i 0<BB:=λi=>cV E D.ult i;have Z:∀i,V.getD i 0<BB:=λi=>cV E D.vlt i;have y2:ai ak ((m:Int)-1)=((m-1:Nat):Int):=by rw[cd (by omega) (by omega)];omega
 have z4:1<m->ai ak ((m:Int)-2)=((m-2:Nat):Int):=λhm=>by grind[cd]
 have L:ai ak ((m:Int)+1)=(m:Int)+1:=cd (by omega) (by omega);have wi:∀i:Nat,i<=m->ai ak ((i:Int)+1)=((i+1:Nat):Int):=λi hi=>by grind[cd]
 have L3:=λ(a:Nat) (W:List Nat) (y1:0<a) (t:a<BB) (w1:W.length=m+1) (f:∀x∈W,x<BB) (hq:a-1=Num.bv BB y/Num.bv BB V) (z2:Num.bv BB (dq (cL BB) W V 0 (m+1) 0)=Num.bv BB y%Num.bv BB V)=>
  zg (aa ⟨k,n,none⟩) (m+1) c b m l (a:Int) ((m:Int)+1) (λmz i cy g=>i<=m+1/\mz=m+1-i/\cy=(iK (cL BB) W V 0 0 i:Nat)/\g.get k=aa (.cells (fm cs n (dq (cL BB) W V 0 i 0++W.drop i)) 240 1 af)/\MX h k g) (Kt h k n cs m y V) (by
  intro mz i cy;intros;rename_i g hi;obtain⟨U,h2,rfl,A,C⟩:=hi;have e:(dq (cL BB) W V 0 i 0).length=i:=iM _ _ _ _ _ _;have H:=lK (cL BB) W V i 0 0;rw[bJ]at H;have x6:iK (cL BB) W V 0 0 (i+1)=(cL BB (W.getD i 0) (V.getD i 0) (iK (cL BB) W V 0 0 i)).2:=by
   show(cL BB (W.getD (0+i) 0) (V.getD (0+i) 0) _).2=_;rw[bJ]
  have wg:W.getD i 0<BB:=cV E f i;have v4:iK (cL BB) W V 0 0 i<=1:=by
   clear x6 H e A h2 U
   induction i with
   |zero=>exact ck _
   |succ j ih=>
    have a1:=cV (b:=BB) E f (0+j);have a2:=Z (0+j);have a3:=ih (cV E f j);show(W.getD (0+j) 0+V.getD (0+j) 0+iK (cL BB) W V 0 0 j)/BB<=1
    grind
  have u5:=Z i;have z1:(dq (cL BB) W V 0 i 0++W.drop i).length=m+1:=by rw[bF,e,da];omega
  have F:=D.fit;refine az (λo=>?_) (λo=>?_)
  ·have o:=dT o;have I:=GU A (by omega) (i:=i) (by omega);rw[Bc _ _ e]at I;have Q:=C.wf _ _ A;have step:∀(s:Nat),s=W.getD i 0+V.getD i 0+iK (cL BB) W V 0 0 i->
     bh aq 240 (df k (n+i)) (bA ((s%BB:Nat):Int)) g=aa (undef,.set k (.cells (fm cs n (dq (cL BB) W V 0 (i+1) 0++W.drop (i+1))) 240 1 af)):=λs R=>by
    rw[HC A (by omega) (by omega),D1 _ _ e (by omega),H,R];rfl
   refine⟨_,BQ (by omega) (by omega),_,by rw[bc];exact I,?_⟩;have e1:ai aw (((W.getD i 0:Nat):Int)+((iK (cL BB) W V 0 0 i:Nat):Int))=((W.getD i 0+iK (cL BB) W V 0 0 i:Nat):Int):=wU (by omega) (by omega);dsimp only;rw[e1,wi i (by omega)];refine az (λd=>?_) (λd=>?_)
   ·have d:=dT d;obtain⟨p,M,G⟩:=Jb (D.rd g C) (i:=(i:Int)) (by omega) (by omega);rw[bc]at G;refine⟨p,M,_,G,?_⟩;have Y:ai aw (((W.getD i 0+iK (cL BB) W V 0 0 i:Nat):Int)+((V.getD i 0:Nat):Int))=((W.getD i 0+V.getD i 0+iK (cL BB) W V 0 0 i:Nat):Int):=wU (by omega) (by omega);dsimp only;rw[Y];refine⟨_,Hw,_,JP (by omega),_,BQ (by omega) (by omega),_,by rw[bc];exact step _ rfl,?_⟩;refine iu (mz-1) (by omega) ⟨by omega,by omega,by rw[x6];rfl,?_,C.set Q _⟩;show(g.set k _).get k=_;rw[au.cE,iP rfl]
   ·have d:=dF d;have y4:V.getD i 0=0:=by rw[gD,getElem?_eq_none (by omega)];rfl
    refine⟨_,Hw,_,JP (by omega),_,BQ (by omega) (by omega),_,by rw[bc];exact step _ (by omega),?_⟩;refine iu (mz-1) (by omega) ⟨by omega,by omega,?_,?_,C.set Q _⟩
    ·simp_all[cL]
    ·show(g.set k _).get k=_;rw[au.cE,iP rfl]
  ·have o:=dF o;obtain rfl:i=m+1:=by omega
   have e3:ai aw ((a:Int)-1)=((a-1:Nat):Int):=wU (by omega) (by omega);rw[e3];rw[gT (by omega),cp]at A;exact⟨_,e,mP (λp q c=>dJ _ E) _ _ _ _ _,z2,by rw[hq];rfl,A,C⟩)
 have L2:=λ(a:Nat) (t:a<BB) (u4:Num.bv BB y<(a+1)*Num.bv BB V) (z9:a*Num.bv BB V<Num.bv BB y+Num.bv BB V)=>
  zf (aa ⟨k,n,none⟩) (m+1) c b m l (a:Int) ((m:Int)+1) (λmz i w cy g=>i<=m+1/\mz=m+1-i/\w=((dZ BB a y V 0 i 0 0).2.1:Nat)/\cy=((dZ BB a y V 0 i 0 0).2.2:Nat)/\g.get k=aa (.cells (fm cs n ((dZ BB a y V 0 i 0 0).1++y.drop i)) 240 1 af)/\MX h k g) (Kt h k n cs m y V) (by
  intro mz i w cy;intros;rename_i g hi;obtain⟨U,h2,rfl,rfl,A,C⟩:=hi;have e:(dZ BB a y V 0 i 0 0).1.length=i:=uX _ _ _ _ _ _ _ _;have H:=wH BB a y V i 0 0 0;rw[bJ]at H;have z3:=Ic (q:=a) (v:=V) kJ D.ult i;have z7:=vY kJ t (u:=y) D.vlt i;generalize u1:dZ BB a y V 0 i 0 0=st at*;obtain⟨Wl,w,cy⟩:=st;dsimp only at e A z3 z7 H⊢;have z1:(Wl++y.drop i).length=m+1:=by rw[bF,e,da];omega
  have F:=D.fit;have v7:=ug i;have u5:=Z i;have y0:a*V.getD i 0<=999999999*999999999:=fy (by omega) (by omega);refine az (λo=>?_) (λo=>?_)
  ·have o:=dT o;have I:=GU A (by omega) (i:=i) (by omega);rw[Bc _ _ e]at I;have Q:=C.wf _ _ A;have step:∀(s:Nat),s=a*V.getD i 0+cy->
     bh aq 240 (df k (n+i)) (bA (((y.getD i 0+BB-s%BB-w)%BB:Nat):Int)) g=aa (undef,.set k (.cells (fm cs n ((dZ BB a y V 0 (i+1) 0 0).1++y.drop (i+1))) 240 1 af)):=λs R=>by
    rw[HC A (by omega) (by omega),D1 _ _ e (by omega),H,R];rfl
   have S:∀(s:Nat),s=a*V.getD i 0+cy->∀(z8:aJ),z8=⟨k,n+i,none⟩->
     ∃y5:Int,ca aq .rem 240 (bA (s:Int)) (bA 1000000000)=aa (bA y5)/\y5=((s%BB:Nat):Int):=λs _ _ _=>⟨_,Hw,rfl⟩
   rw[wi i (by omega)];have fin:∀(s:Nat),s=a*V.getD i 0+cy->((1-(y.getD i 0+BB-s%BB-w)/BB:Nat):Int)=((dZ BB a y V 0 (i+1) 0 0).2.1:Nat)/\((s/BB:Nat):Int)=((dZ BB a y V 0 (i+1) 0 0).2.2:Nat):=λs R=>by
    rw[H,R];exact⟨rfl,rfl⟩
   have ed:∀s:Nat,ai aw (ai aw (ai aw (((y.getD i 0:Nat):Int)+1000000000)-((s%BB:Nat):Int))-(w:Int))=((y.getD i 0+BB-s%BB-w:Nat):Int):=λs=>by
    have hm:=dJ s E;generalize s%BB=z at hm;have a1:ai aw (((y.getD i 0:Nat):Int)+1000000000)=((y.getD i 0+BB:Nat):Int):=wU (by omega) (by omega);have a2:ai aw (((y.getD i 0+BB:Nat):Int)-(z:Int))=((y.getD i 0+BB-z:Nat):Int):=wU (by omega) (by omega);have a3:ai aw (((y.getD i 0+BB-z:Nat):Int)-(w:Int))=((y.getD i 0+BB-z-w:Nat):Int):=wU (by omega) (by omega)
    grind
   have y8:∀s:Nat,ai aw (1-(((y.getD i 0+BB-s%BB-w)/BB:Nat):Int))=((1-(y.getD i 0+BB-s%BB-w)/BB:Nat):Int):=λs=>by
    have h9:(y.getD i 0+BB-s%BB-w)/BB<2:=eB (by omega);generalize (y.getD i 0+BB-s%BB-w)/BB=z at h9⊢
    grind[wU]
   refine az (λd=>?_) (λd=>?_)
   ·have d:=dT d;obtain⟨p,M,G⟩:=Jb (D.rd g C) (i:=(i:Int)) (by omega) (by omega);rw[bc]at G;refine⟨p,M,_,G,_,BQ (by omega) (by omega),_,by rw[bc];exact I,?_⟩;have Y:ai aw ((cy:Int)+ai aw ((a:Int)*((V.getD i 0:Nat):Int)))=((a*V.getD i 0+cy:Nat):Int):=by
     have e0:ai aw ((a:Int)*((V.getD i 0:Nat):Int))=((a*V.getD i 0:Nat):Int):=wU (by rfl) (by omega);rw[e0];exact wU (by omega) (by omega)
    rw[Y];refine⟨_,Hw,?_⟩;dsimp only;rw[ed];have hm:=dJ (a*V.getD i 0+cy) E;refine⟨_,Hw,_,JP (by omega),_,JP (by omega),_,BQ (by omega) (by omega),_,by rw[bc];exact step _ rfl,?_⟩;rw[y8];refine NP (mz-1) (by omega) ⟨by omega,by omega,(fin _ rfl).1,(fin _ rfl).2,?_,C.set Q _⟩;show(g.set k _).get k=_;rw[au.cE,iP rfl]
   ·have d:=dF d;have y4:V.getD i 0=0:=by rw[gD,getElem?_eq_none (by omega)];rfl
    have x3:cy=a*V.getD i 0+cy:=by rw[y4,hZ,bJ]
    refine⟨_,BQ (by omega) (by omega),_,by rw[bc];exact I,_,Hw,?_⟩;dsimp only;rw[ed];have hm:=dJ cy E;refine⟨_,Hw,_,JP (by omega),_,JP (by omega),_,BQ (by omega) (by omega),_,by rw[bc];exact step _ x3,?_⟩;rw[y8];refine NP (mz-1) (by omega) ⟨by omega,by omega,(fin _ x3).1,(fin _ x3).2,?_,C.set Q _⟩;show(g.set k _).get k=_;rw[au.cE,iP rfl]
  ·have o:=dF o;obtain rfl:i=m+1:=by omega
   obtain⟨d0,d1,d2⟩:=Kz kJ D.ult D.vlt D.ul D.vl t u4 z9;have f:=yr (q:=a) kJ y V (m+1) 0 0 0;rw[u1]at d0 d1 d2 f;dsimp only at d0 d1 d2 f;rw[gT (by omega),cp]at A;refine az (λd=>?_) (λd=>?_)
   ·have d:(w:Int)=0:=by simpa using d
    obtain⟨e1,Y⟩:=d1 (by omega);exact⟨Wl,e,f,Y,by rw[e1];rfl,A,C⟩
   ·have d:¬(w:Int)=0:=by simpa using d
    obtain⟨e0,e1,Y⟩:=d2 (by omega);rw[L];exact L3 a Wl e0 t e f e1 Y (m+1) (i:=0) ⟨by omega,by omega,rfl,by grind[dq],C⟩)
 have K:=D.v1;have x7:y.getD m 0*BB+y.getD (m-1) 0<1000000000000000000:=by
  have a1:=ug m;have a2:=ug (m-1);have a3:y.getD m 0*BB=1000000000*y.getD m 0:=by rw[x8,cS]
  omega
 have L1:=ze (aa ⟨k,n,none⟩) (m+1) c b m l (λmz q S g=>∃a B:Nat,q=(a:Int)/\S=(B:Int)/\mz=a/\lJ BB m y V a B/\g.get k=aa (.cells (fm cs n y) 240 1 af)/\MX h k g) (Kt h k n cs m y V) (by
  intro mz q S;intros;rename_i g hi;obtain⟨a,B,rfl,rfl,rfl,T,A,C⟩:=hi;have hT:=T.eq;have F:=D.fit;have v9:B<1000000000000000000:=Nat.lt_of_le_of_lt (by omega) x7;have v6:mz<1000000000000000000:=by
   refine Nat.lt_of_le_of_lt ?_ x7;rw[<-hT];have:=Nat.le_mul_of_pos_right mz K;omega
  have r:=C.room 28;have x2:(room g 28).get k=aa (.cells (fm cs n y) 240 1 af):=A;have v2:=Z (m-1);have hj:((m-1:Nat):Int).toNat=m-1:=by omega
  obtain⟨p1,M,G⟩:=Jb (D.rd _ r) (i:=((m-1:Nat):Int)) (by omega) (by omega);rw[hj]at G;have er:ai aw ((B:Int)+((V.getD (m-1) 0:Nat):Int))=((B+V.getD (m-1) 0:Nat):Int):=wU (by omega) (by omega);have u7:∀(O:Nat),O<BB->Num.bv BB y<(O+1)*Num.bv BB V->O*Num.bv BB V<Num.bv BB y+Num.bv BB V->_:=λO U h2 h3=>L2 O U h2 h3;have x9:Num.bv BB y<mz*Num.bv BB V->0<mz/\lJ BB m y V (mz-1) (B+V.getD (m-1) 0):=λI=>⟨by grind,T.lower I⟩
  have x1:mz-1<BB->BB<=B+V.getD (m-1) 0->lJ BB m y V (mz-1) (B+V.getD (m-1) 0)->(mz-1)*Num.bv BB V<Num.bv BB y+Num.bv BB V:=λU h2 J=>
   J.last kJ D.ul D.vl x4 D.vlt K U λ_=>zu U (Z (m-2)) h2
  have v0:Num.bv BB y<mz*Num.bv BB V->True:=λ_=>trivial;rw[y2];refine az (λo=>?_) (λo=>?_)
  ·have o:=dT o;obtain⟨y1,J⟩:=x9 (lJ.agc D.lt (by omega));have x5:ai aw ((mz:Int)-1)=((mz-1:Nat):Int):=wU (by omega) (by omega);rw[x5];refine⟨p1,M,_,G,?_⟩;dsimp only;rw[er];generalize x0:decide (((mz-1:Nat):Int)<1000000000)=bz;refine az (λd=>az (λN=>?_) (λN=>?_)) (λd=>?_)
   ·subst x0;have d:=dT d;have N:=dT N;rw[L];exact L2 (mz-1) (by omega) J.hi (x1 (by omega) (by omega) J) (m+1) (i:=0) ⟨by omega,by omega,rfl,rfl,by grind[dZ],r⟩
   ·exact iu (mz-1) (by omega) ⟨mz-1,_,rfl,rfl,rfl,J,x2,r⟩
   ·exact iu (mz-1) (by omega) ⟨mz-1,_,rfl,rfl,rfl,J,x2,r⟩
  ·have o:=dF o;have t:mz<BB:=by omega
   have X:(1<m->mz*V.getD (m-2) 0<=B*BB+y.getD (m-2) 0)->mz*Num.bv BB V<Num.bv BB y+Num.bv BB V:=λR=>T.last kJ D.ul D.vl x4 D.vlt K t R;refine az (λd=>?_) (λd=>?_)
   ·have d:=dT d;have y6:1<m:=by omega
    rw[z4 y6];generalize x0:decide ((B:Int)<1000000000)=bz;refine az (λN=>?_) (λN=>?_)
    ·subst x0;have N:=dT N;have z0:((m-2:Nat):Int).toNat=m-2:=by omega
     obtain⟨p2,g4,g5⟩:=Jb (D.rd _ r) (i:=((m-2:Nat):Int)) (by omega) (by omega);rw[z0]at g5;have I:=GU x2 F (i:=m-2) (by omega);refine⟨p2,g4,_,g5,_,BQ (by omega) (by omega),_,by rw[z0];exact I,?_⟩;have v3:=Z (m-2);have w0:=ug (m-2);have y0:mz*V.getD (m-2) 0<=999999999*999999999:=fy (by omega) (by omega);have ea:ai aw ((mz:Int)*((V.getD (m-2) 0:Nat):Int))=((mz*V.getD (m-2) 0:Nat):Int):=wU (by rfl) (by omega);obtain⟨RB,u2⟩:∃x,x=B*BB:=⟨_,rfl⟩
     have u9:RB=1000000000*B:=by rw[u2,x8,cS]
     obtain⟨MV,u0⟩:∃x,x=mz*V.getD (m-2) 0:=⟨_,rfl⟩
     rw[<-u0]at y0 ea;have eb:ai aw ((B:Int)*1000000000)=(RB:Int):=wU (by omega) (by omega);have ec:ai aw ((RB:Int)+((y.getD (m-2) 0:Nat):Int))=((RB+y.getD (m-2) 0:Nat):Int):=wU (by omega) (by omega);dsimp only;rw[ea,eb,ec];generalize y7:decide ((MV:Int)>((RB+y.getD (m-2) 0:Nat):Int))=v5;refine az (λh8=>?_) (λh8=>?_)
     ·subst y7;have h8:=dT h8;obtain⟨y1,J⟩:=x9 (T.second D.ul D.vl y6 D.ult (by grind));have x5:ai aw ((mz:Int)-1)=((mz-1:Nat):Int):=wU (by omega) (by omega);rw[x5];refine⟨p1,M,_,G,?_⟩;dsimp only;rw[er];generalize w3:decide (((mz-1:Nat):Int)<1000000000)=bx;refine az (λh9=>az (λu6=>?_) (λu6=>?_)) (λh9=>?_)
      ·have h9:=dT h9;rw[L];exact L2 (mz-1) (by omega) J.hi (x1 (by omega) (by omega) J) (m+1) (i:=0) ⟨by omega,by omega,rfl,rfl,by grind[dZ],r⟩
      ·grind
      ·exact iu (mz-1) (by omega) ⟨mz-1,_,rfl,rfl,rfl,J,x2,r⟩
     ·subst y7;have h8:=dF h8;rw[L];exact L2 mz t T.hi (X λ_=>by omega) (m+1) (i:=0) ⟨by omega,by omega,rfl,rfl,by grind[dZ],r⟩
    ·subst x0;have N:=dF N;rw[L];exact L2 mz t T.hi (X λ_=>zu t (Z (m-2)) (by omega)) (m+1) (i:=0) ⟨by omega,by omega,rfl,rfl,by grind[dZ],r⟩
   ·have d:=dF d;rw[L];exact L2 mz t T.hi (X λhm=>by omega) (m+1) (i:=0) ⟨by omega,by omega,rfl,rfl,by grind[dZ],r⟩)
 have z6:=(MX.refl (k:=k) D.w).room 12;have y9:=z6.room 16;have F:=D.fit;have hj:((m-1:Nat):Int).toNat=m-1:=by omega
 have z5:=GU (g:=room h 12) D.get F (i:=m) (by omega);have u3:=GU (g:=room h 12) D.get F (i:=m-1) (by omega);obtain⟨p1,M,G⟩:=Jb (D.rd _ y9) (i:=((m-1:Nat):Int)) (by omega) (by omega);rw[hj]at G;have a1:=ug m;have a2:=ug (m-1);refine N8 _ _ _ _ _ _ h _ ⟨_,BQ (by omega) (by omega),_,by rw[bc];exact z5,?_⟩;rw[y2];refine⟨_,BQ (by omega) (by omega),_,by rw[hj];exact u3,p1,M,_,G,?_⟩;obtain⟨TB,y3⟩:∃x,x=y.getD m 0*BB:=⟨_,rfl⟩
 have v1:TB=1000000000*y.getD m 0:=by rw[y3,x8,cS]
 have ea:ai aw (((y.getD m 0:Nat):Int)*1000000000)=(TB:Int):=wU (by omega) (by omega);have eb:ai aw ((TB:Int)+((y.getD (m-1) 0:Nat):Int))=((TB+y.getD (m-1) 0:Nat):Int):=wU (by omega) (by omega);rw[ea,eb];have P:=lJ.start kJ D.ul D.vl x4 D.ult K;rw[<-y3]at P;refine⟨_,YX (by omega) K,p1,M,_,G,_,adL K,?_⟩;exact L1 _ ⟨_,_,rfl,rfl,rfl,P,D.get,y9⟩
variable{T:aF}{c:List ag}
theorem hJ.ahh{b:au}(d:g.aD<=b.aD)(o:hJ b h T v c):hJ g h T v c:=by
 rcases o with o|⟨k,cs,a,f,e,i,j⟩
 ·exact .inl o
 ·exact .inr ⟨k,cs,a,bN d f,e,i,j⟩
theorem ad9(k:Int):jY aq 240 (bA k)=aa (.cells [bA k] 240 0 af,m4):=by kernel_rfl
theorem Cf{c:Nat}(p:Rd h 240 (ae a n c) (x.map uv))(m:∀d∈x,d<BB)(b:x.length<=10000){k:Nat}(g:0<k)(q:k<=BB)(w:Wf h):
  aX 260 [ae a n c,bA (k:Int)] h (mn h 240 (bl (Num.bv BB x*k))):=by
 have e:=(Ok.refl w).push (.cells [bA (k:Int)] 240 0 af);refine Lr a n c _ h _ ⟨_,ad9 _,?_⟩;have r:aS aq 240 (h.push (.cells [bA (k:Int)] 240 0 af)) (pA h.aD)=aa (bA (k:Int)):=by
  unfold aS;rw[Tl];dsimp only;rw[au.cY,iP rfl];dsimp only;rw[R5];rfl
 refine(It (p.ok e) m b r g q e.wf).mono ?_;rintro _ s ⟨j,f,l,rfl,o,i⟩;exact⟨j,f,l,rfl,j,f,l,rfl,hJ.ahh (fA _) o,e.trans i⟩
def FN(h:au)(k a n c:Nat)(l:List Nat):Prop:=∃cs b,h.get k=aa (.cells cs 240 1 b)/\n=l.length/\(cs.drop a).take n=l.map uv/\n<=dw c
theorem FN.rd{c:Nat}{l:List Nat}(r:FN h k n m c l):Rd h 240 (gJ k n m c) (l.map uv):=by
 obtain⟨cs,d,b,rfl,a,e⟩:=r;exact .inr ⟨k,n,cs,c,d,by rw[aH],b,by rw[aH];exact a⟩
theorem FN.take{c:Nat}{l:List Nat}(r:FN h k n m c l){j:Nat}(g:j<=m):dN aq 260 (gJ k n m c) none (aa (aE (j:Int))) none h=aa (gJ k n j c)/\FN h k n j c (l.take j):=by
 obtain⟨cs,d,a,rfl,b,i⟩:=r;refine⟨?_,cs,d,a,by rw[bq];omega,?_,by omega⟩
 ·unfold dN;dsimp only;rw[Ew];dsimp only[iY];rw[HZ,a];dsimp only;have e:((j:Int)-((0:Nat):Int)).toNat=j:=by omega
  have f:((0:Nat):Int).toNat=0:=rfl;rw[iP (by simp),iP (by omega),e,f];rfl
 ·have:=congrArg (List.take j) b;rwa[take_take,dI g,<-map_take]at this
theorem tO{c:Nat}{l:List Nat}(r:FN h k n m c l)(x:l.length<=100000):
  aX 210 [gJ k n m c] h (λv f=>v=gJ k n (gG l).length c/\f=h):=by
 have s:m=l.length:=by obtain⟨_,_,_,C,_⟩:=r;exact C
 have L:=tg (aa ⟨k,n,none⟩) m c (λmz r q d g=>q<=l.length/\mz=q/\r=aa ⟨k,n,none⟩/\d=c/\FN h k n q c (l.take q)/\gG l=gG (l.take q)/\g=h) (λv f=>v=gJ k n (gG l).length c/\f=h) (by
  intro mz r q d;intros;rename_i g E;obtain⟨B,rfl,rfl,rfl,t,o,rfl⟩:=E;have D:ai ak ((mz:Int)-1)=(mz:Int)-1:=cd (by omega) (by omega);rw[D];have e:mz≠0->l.take mz=l.take (mz-1)++[l.getD (mz-1) 0]:=λe=>by
   obtain⟨j,rfl⟩:∃j,mz=j+1:=⟨mz-1,by omega⟩
   rw[eH (by omega),Nat.add_sub_cancel,gD,gE (by omega)];rfl
  refine az (λb=>?_) (λb=>?_)
  ·have b:=dT b;obtain⟨p,z,w⟩:=Jb t.rd (i:=(mz:Int)-1) (by omega) (by rw[bq];omega);have y:(l.take mz).getD ((mz:Int)-1).toNat 0=l.getD (mz-1) 0:=by
    rw[show((mz:Int)-1).toNat=mz-1 by omega,gD,List.getElem?_take,iP (by omega),gD]
   rw[y]at w;refine⟨p,z,_,w,az (λa=>?_) (λa=>?_)⟩
   ·have a:((l.getD (mz-1) 0:Nat):Int)=0:=by simpa using a
    have a:l.getD (mz-1) 0=0:=by omega
    obtain⟨A,u⟩:=t.take (j:=mz-1) (by omega);rw[show((mz:Int)-1)=((mz-1:Nat):Int) by omega];refine⟨_,_,_,A,NP (mz-1) (by omega) ⟨by omega,rfl,rfl,rfl,?_,?_,rfl⟩⟩
    ·rw[take_take,dI (by omega)]at u;exact u
    ·rw[o,e (by omega),a,mq]
   ·have a:¬((l.getD (mz-1) 0:Nat):Int)=0:=by simpa using a
    refine⟨?_,rfl⟩;rw[o,e (by omega),nF _ (by omega),<-e (by omega),bq,dI B]
  ·have b:=dF b;obtain rfl:mz=0:=by omega
   refine⟨?_,rfl⟩;rw[o];rfl)
 exact GX _ m c h _ (L m ⟨by omega,rfl,rfl,rfl,by rw[show l.take m=l by rw[s,fi]];exact r,by rw[show l.take m=l by rw[s,fi]],rfl⟩)
theorem HY:∀n,fb [uv 0] n=(aQ n 0).map uv
 |0=>rfl
 |n+1=>by rw[fb,HY n];rfl
noncomputable def Z4:TypeInfo:=(aq.info? 240).getD default
theorem Z5:aq.info? 240=aa Z4:=by kernel_rfl
theorem Rz:Z4.size=1:=by kernel_rfl
theorem Pg:Z4.bytes=8:=by kernel_rfl
theorem ac8:zeroOf aq 240=aa (uv 0):=by kernel_rfl
theorem adD(n:Nat)(a:n<=100000):dD aq 260 (aE (n:Int)) (aE (n:Int))=aa (.cells ((aQ n 0).map uv) 240 1 af,qe n n):=by
 unfold dD dK;dsimp only;rw[Ew]
 try dsimp only
 change (match aq.info? 240,zeroOf aq 240 with
  |some i,aa z=>(if z.cells.size=i.size/\0<i.size/\(0:Int)<=(n:Int)/\(n:Int)<=(n:Int)/\(n:Int)*i.bytes<=140737488355328/\(n:Int)<=1099511627776 then aa (eA.cells (fb z.cells.toList (n:Int).toNat) 240 i.size af,λk=>ae (aa ⟨k,0,none⟩) (n:Int).toNat (n:Int).toNat)else none)
  |_,_=>none)=_
 rw[Z5,ac8];dsimp only;rw[Rz,Pg,iP ⟨rfl,by omega,by omega,gr _,by omega,by omega⟩];have e:((n:Int)).toNat=n:=by omega
 rw[e,show(uv 0).cells.toList=[uv 0]from rfl,HY];rfl
theorem qZ(h:(c.drop n).take x.length=x.map uv):fm c n x=c:=by
 unfold fm;rw[<-h,bP,<-List.drop_drop,dM,dM]
theorem Ip{W:List Nat}(h:n+y.length<=x.length)(e:x.length<=c.length)(g:y.length=W.length)(f:(x.drop n).take W.length=W):
  fm (fm c 0 x) n y=fm c 0 (x.take n++y++x.drop (n+y.length)):=by
 unfold fm;have b:(c.take 0++x.map uv++c.drop (0+x.length)).take n=(x.take n).map uv:=by
  rw[dQ,dL,List.take_append_of_le_length (by rw[aH];omega),map_take]
 have d:(c.take 0++x.map uv++c.drop (0+x.length)).drop (n+y.length)=(x.drop (n+y.length)).map uv++c.drop (0+x.length):=by
  rw[dQ,dL,List.drop_append_of_le_length (by rw[aH];omega),map_drop]
 have a:(x.take n++y++x.drop (n+y.length)).length=x.length:=by
  simp only[bF,bq,da];omega
 rw[b,d,a,bK,bK,dQ,dL,bP,bP,bP]
theorem tZ(a:n+m<=x.length):((fm c 0 x).drop n).take m=((x.drop n).take m).map uv:=by
 unfold fm;rw[dQ,dL,List.drop_append_of_le_length (by rw[aH];omega),List.take_append_of_le_length (by rw[da,aH];omega),<-map_drop,<-map_take]
theorem GQ(h:n+x.length<=c.length):(fm c n x).length=c.length:=by
 unfold fm;simp only[bF,bq,aH,da];omega
theorem FN.Mw{c:Nat}{l:List Nat}(r:FN h k n m c l){lo hi:Nat}(f:lo<=hi)(i:hi<=m):dN aq 260 (gJ k n m c) (aa (aE (lo:Int))) (aa (aE (hi:Int))) none h=aa (gJ k (n+lo) (hi-lo) (c-lo)):=by
 obtain⟨cs,g,a,rfl,e,j⟩:=r;unfold dN;dsimp only;rw[Ew];dsimp only[iY];rw[HZ,a];dsimp only;have b:((hi:Int)-(lo:Int)).toNat=hi-lo:=by omega
 have d:((lo:Nat):Int).toNat=lo:=by omega
 rw[iP (by simp),iP (by omega),b,d,dB]
structure adR(h2 G:au)(ku kv kq:Nat)(cu:List ag)(cv:List ag)(U Ql:List Nat)(N m XK V j:Nat):Prop where
 ok:Ok h2 G
 w2:Wf h2
 u2:h2.aD<=ku
 q2:h2.aD<=kq
 gu:G.get ku=aa (.cells (fm cu 0 U) 240 1 af)
 gv:G.get kv=aa (.cells cv 240 1 af)
 gq:G.get kq=aa (.cells (fm ((aQ (N+1-m) 0).map uv) 0 Ql) 240 1 af)
 uv':ku≠kv
 uq:ku≠kq
 vq:kv≠kq
 ul:U.length=N+1
 cl:N+1<=cu.length
 aeH:Ql.length=N+1-m
 ac6:(cv.take (cO BB V).length)=bl V
 inv:lZ BB m V XK U Ql j
end Go.Proofs.YtnlccnpbjeiccaaGreatDoor
end
section
set_option linter.defProp false
namespace Go.Proofs.YtnlccnpbjeiccaaGreatDoor
open Go Go.Ab Go.Num
variable{h:au}{k:Nat}{n:Nat}{d:List ag}{g:au}
def Ku(h:au)(X Y:Nat):VH:=λv a=>∃(g:Option aJ)(b e:Nat)(d:Option aJ)(c f:Nat),v=av ⟨[ae g b e,ae d c f]⟩/\Rd a 240 (ae g b e) (bl (X/Y))/\Rd a 240 (ae d c f) (bl (X%Y))/\Ok h a
theorem Fu{c:Nat}{l:List Nat}(b:h.get k=aa (.cells (fm d 0 l) 240 1 af))(a:n=l.length)(e:n<=dw c):FN h k 0 n c l:=by
 refine⟨_,_,b,a,?_,e⟩;subst a;rw[tZ (by omega),bO,fi]
theorem DL{c:Nat}{l:List Nat}(r:FN g k 0 n c l)(b:∀d∈l,d<BB):Rd g 240 (sA k (gG l).length c) (bl (Num.bv BB l)):=by
 obtain⟨e,i⟩:=Bg l;have f:n=l.length:=by obtain⟨_,_,_,h,_⟩:=r;exact h
 have a:=(r.take (j:=(gG l).length) (by omega)).2.rd;rw[e,oU kJ b]at a;rw[oU kJ b];exact a
def abl{h:au}(w:Wf h){X Y ku kq f rc L k R:Nat}{C Zq:List ag}{Ql:List Nat}(F:h.aD<=ku)(x2:h.aD<=kq)(M:ku≠kq)(x5:f<=C.length)(Z:f<=10000)(U:L=Ql.length)(x3:L<=10000)(D:f<=dw rc)(u:L<=dw L)(v:0<k)(kB:k<=BB)
  (hQ:∀d∈Ql,d<BB) (W:Num.bv BB Ql=X/Y) (hr:R/k=X%Y) (a:Option aJ) (n c:Nat) (b:Option aJ) (m d:Nat):=
 xj a n c b m d (k:Int) (aa ⟨kq,0,none⟩) L L (aa ⟨ku,0,none⟩) f rc (f:Int)
  (λmz i left g=>i<=f/\mz=f-i/\(∃(r:List Nat)(q:Nat),r.length=f/\left=(q:Int)/\oS BB k R r (f-i) q/\g.get ku=aa (.cells (fm C 0 r) 240 1 af))/\g.get kq=aa (.cells (fm Zq 0 Ql) 240 1 af)/\Ok h g) (Ku h X Y) (by
  intro mz i left;intros;rename_i g hi;obtain⟨h1,h2,⟨r,q,j,rfl,l,y⟩,B,Q⟩:=hi;have O:BB=1000000000:=rfl;have I:ai ak ((f:Int)-1)=(f:Int)-1:=cd (by omega) (by omega);have E:ai ak ((f:Int)-1-(i:Int))=(f:Int)-1-(i:Int):=cd (by omega) (by omega);have G:ai ak ((i:Int)+1)=((i+1:Nat):Int):=by rw[cd (by omega) (by omega)];omega
  rw[I,E,G];refine az (λs=>?_) (λs=>?_)
  ·have s:=dT s;have P:((f:Int)-1-(i:Int)).toNat=f-1-i:=by omega
   have V:=GU y (by rw[j];omega) (i:=f-1-i) (by rw[j];omega);have x1:=l.lt;have x4:r.getD (f-1-i) 0<BB:=cV (by decide) l.rl _;obtain⟨o,A⟩:∃x,x=q*BB:=⟨_,rfl⟩
   have x0:o=1000000000*q:=by rw[A,O,cS]
   have S:ai aw ((q:Int)*1000000000)=(o:Int):=wU (by omega) (by omega);have T:ai aw ((o:Int)+((r.getD (f-1-i) 0:Nat):Int))=((o+r.getD (f-1-i) 0:Nat):Int):=wU (by omega) (by omega);refine⟨_,BQ (by omega) (by omega),_,by rw[P];exact V,?_⟩;dsimp only;rw[S,T];refine⟨_,YX (by omega) v,_,adL v,_,BQ (by omega) (by omega),?_⟩;have J:=HC (g:=room g 11) y (by rw[j];omega) (i:=f-1-i) (by rw[j];omega) ((o+r.getD (f-1-i) 0)/k);have z:=Q.room 11;have N:=z.wf _ _ (show(room g 11).get ku=_ from y);refine⟨_,by rw[P];exact J,?_⟩;have p:=oS.step (at':=f-1-i) v (by rw[show f-1-i+1=f-i by omega];exact l);rw[<-A]at p;refine iu (mz-1) (by omega) ⟨by omega,by omega,⟨r.set (f-1-i) ((o+r.getD (f-1-i) 0)/k),(o+r.getD (f-1-i) 0)%k,by rw[dt,j],rfl,by rw[show f-(i+1)=f-1-i by omega];exact p,?_⟩,?_,z.set _ F N w⟩
   ·show((room g 11).set ku _).get ku=_;rw[au.cE,iP rfl]
   ·show((room g 11).set ku _).get kq=_;rw[au.cE,iN (λe=>M e.symm)];exact B
  ·have s:=dF s;obtain rfl:i=f:=by omega
   rw[Nat.sub_self]at l;have t:=l.done v;have H:=Fu B U u;have K:=Fu y j.symm D;refine(tO H (by omega)).mono ?_;rintro _ _ ⟨rfl,rfl⟩;refine⟨_,_,_,rfl,(tO K (by omega)).mono ?_⟩;rintro _ _ ⟨rfl,rfl⟩;refine⟨_,_,_,rfl,_,_,_,_,_,_,rfl,?_,?_,Q⟩
   ·have:=DL H hQ;rw[W]at this;exact this
   ·have:=DL K l.rl;rw[t,hr]at this;exact this)
theorem Ok.but{b:au}(o:Ok h g)(w:Wf h)(x:MX g k b)(c:h.aD<=k):Ok h b:=
 ⟨x.wf,λj B a=>x.sY j B (λe=>by have:=w _ _ a;omega) (o.ext j B a),bN o.nx x.nx⟩
def abm{h2:au}{X Y N m L k ku kv kq ec:Nat}{cu cv:List ag}(hY:0<Y)(hm:0<m)(y4:m<=N)(hN:N<=5000)(hL:L=N+1-m)(u:0<k)(kB:k<=BB)(o:(cO BB (Y*k)).length=m)(H:Y*k<=BB^m)(a:Option aJ)(n c:Nat)(b:Option aJ)(d:Nat):=
 xh a n c b m d (k:Int) (aa ⟨kq,0,none⟩) L L (aa ⟨ku,0,none⟩) (N+1) (fg+cu.length) (aa ⟨kv,0,none⟩) m ec (L:Int)
  (λmz i G=>i<=L/\mz=L-i/\∃U j:List Nat,adR h2 G ku kv kq cu cv U j N m (X*k) (Y*k) (L-i)) (Ku h2 X Y) (by
  intro mz i;intros;rename_i G hi;obtain⟨h1,y2,U,j,D⟩:=hi;have M:0<Y*k:=mul_pos hY u;have x4:ai ak ((L:Int)-1)=(L:Int)-1:=cd (by omega) (by omega);have x2:ai ak ((i:Int)+1)=((i+1:Nat):Int):=by rw[cd (by omega) (by omega)];omega
  have s:dw (fg+cu.length)=cu.length:=by unfold dw;rw[iP (by omega)];omega
  have y1:=D.ul;have K:=D.cl;have F:=D.aeH;have ru:=Fu (c:=fg+cu.length) D.gu y1.symm (by rw[s];exact K);rw[x4];refine az (λv=>?_) (λv=>?_)
  ·have v:=dT v;obtain⟨f,y3⟩:∃x,x=L-1-i:=⟨_,rfl⟩
   have V:ai ak ((L:Int)-1-(i:Int))=(f:Int):=by rw[cd (by omega) (by omega)];omega
   have x9:ai ak ((f:Int)+(m:Int))=((f+m:Nat):Int):=by rw[cd (by omega) (by omega)];omega
   have x1:ai ak (((f+m:Nat):Int)+1)=((f+m+1:Nat):Int):=by rw[cd (by omega) (by omega)];omega
   rw[V,x9,x1,x2];have h:lZ BB m (Y*k) (X*k) U j (f+1):=by rw[show f+1=L-i by omega];exact D.inv
   obtain⟨w1,w2,t⟩:=h.Mw kJ H;have r:=ru.Mw (lo:=f) (hi:=f+m+1) (by omega) (by omega);rw[show f+m+1-f=m+1 by omega,bJ]at r;refine⟨_,_,_,r,?_⟩;have O:(fm cu 0 U).length=cu.length:=GQ (by omega);have DI:ac9 G ku f (fg+cu.length-f) m (fm cu 0 U) ((U.drop f).take (m+1)) (cO BB (Y*k)) (aa ⟨kv,0,none⟩) ec:={
    w:=D.ok.wf
    get:=by
     rw[qZ (by rw[t];exact tZ (by omega))];exact D.gu
    fit:=by rw[t,O];omega
    ul:=t
    vl:=o
    mp:=hm
    mle:=by omega
    ult:=λx A=>h.ul x (List.mem_of_mem_drop (dy A))
    vlt:=fU kJ _
    v1:=by have:=I1 kJ M;rwa[o]at this
    lt:=by rw[eP kJ];exact w2
    rd:=λg og=> .inr ⟨kv,0,cv,ec,af,by rw[aH,o],og.sY _ _ (λe=>D.uv' e.symm) D.gv,by rw[bO,aH];exact D.ac6⟩ }
   refine(N9 DI).mono ?_;rintro _ T ⟨W',z,x8,l,rfl,Q,p⟩;rw[eP kJ]at l;have x6:Num.bv BB ((U.drop f).take (m+1))/Num.bv BB (cO BB (Y*k))=Num.bv BB ((U.drop f).take (m+1))/(Y*k):=by rw[eP kJ]
   rw[x6];have y0:Num.bv BB ((U.drop f).take (m+1))/(Y*k)<BB:=eB (by rw[cS];exact w2);have J:=p.sY _ _ (λe=>D.uq e.symm) D.gq;have x3:=p.sY _ _ (λe=>D.uv' e.symm) D.gv;have I:=Ok.but D.ok D.w2 p D.u2;have x0:((aQ (N+1-m) 0).map uv).length=N+1-m:=by rw[aH,bX]
   have x5:=HC J (by rw[x0];omega) (i:=f) (by omega) (Num.bv BB ((U.drop f).take (m+1))/(Y*k));have x7:=I.wf _ _ J;have E:=BQ (k:=kq) (off:=0) (n:=L) (c:=L) (i:=(f:Int)) (by omega) (by omega);rw[bc]at E;refine⟨_,rfl,_,E,_,x5,?_⟩;have y:Num.bv BB ((U.drop f).take (m+1))=Num.bv BB W'+Num.bv BB ((U.drop f).take (m+1))/(Y*k)*(Y*k):=by
    have h9:=jP (Num.bv BB ((U.drop f).take (m+1))) (Y*k);rw[cS (Y*k)]at h9;rw[l];exact h9.symm
   have S:=h.step kJ H x8 z y0 y (by rw[l];exact dJ _ M);refine fC (mz-1) (by omega) ⟨by omega,by omega,U.take f++W'++U.drop (f+(m+1)),j.set f (Num.bv BB ((U.drop f).take (m+1))/(Y*k)),{
    ok:=I.set _ D.q2 x7 D.w2
    w2:=D.w2
    u2:=D.u2
    q2:=D.q2
    gu:= ?_
    gv:= ?_
    gq:= ?_
    uv':=D.uv'
    uq:=D.uq
    vq:=D.vq
    ul:= ?_
    cl:=K
    aeH:=by rw[dt];exact F
    ac6:=D.ac6
    inv:=by rw[show L-(i+1)=f by omega];exact S }⟩
   ·show(T.set kq _).get ku=_;rw[au.cE,iN D.uq,Q,Ip (W:=(U.drop f).take (m+1)) (by omega) (by omega) (by rw[z,t]) (by rw[t]),z]
   ·show(T.set kq _).get kv=_;rw[au.cE,iN D.vq];exact x3
   ·show(T.set kq _).get kq=_;rw[au.cE,iP rfl]
   ·simp only[bF,bq,da,z];omega
  ·have v:=dF v;obtain rfl:i=L:=by omega
   have h:=D.inv;rw[Nat.sub_self]at h;obtain⟨d1,Z⟩:=h.done;obtain⟨e1,e2⟩:=EJ (X:=X) (Y:=Y) u;rw[e1]at d1;rw[e2]at Z;have q:=h.ul;obtain⟨t1,t2⟩:=Bg U;refine(tO ru (by omega)).mono ?_;rintro _ _ ⟨rfl,rfl⟩;refine⟨_,_,_,rfl,?_⟩;have O:(fm cu 0 U).length=cu.length:=GQ (by omega);have B:dw (N+1-m)=N+1-m:=by unfold dw;rw[iN (by unfold fg;omega)]
   have P:Num.bv BB (gG U)=X%Y*k:=by rw[oU kJ q,eP kJ,Z]
   subst hL;rename_i G';refine abl D.w2 (X:=X) (Y:=Y) (ku:=ku) (kq:=kq) (rc:=fg+cu.length) (k:=k) (R:=X%Y*k) (C:=fm cu 0 U) (Zq:=(aQ (N+1-m) 0).map uv) (Ql:=j) D.u2 D.q2 D.uq (by rw[O];omega) (by omega) F.symm (by omega) (by rw[s];omega) (by rw[B];exact aT _) u kB h.ql d1 (Nat.mul_div_cancel _ u) a n c b m d _ (i:=0)
    ⟨ck _,rfl,⟨gG U,0,rfl,rfl,⟨λx A=>q x (by rw[<-t1]at A;exact dy A),by omega,u,?_⟩,?_⟩,D.gq,D.ok⟩
   ·rw[sub_zero,List.drop_length,fi,P];simp[Num.bv]
   ·rw[qZ (by rw[tZ (by omega),bO,t1])];exact D.gu)
end Go.Proofs.YtnlccnpbjeiccaaGreatDoor
end
section
namespace Go.Proofs.YtnlccnpbjeiccaaGreatDoor
open Go Go.Ab Go.Num
variable{h:au}{a:Option aJ}{n:Nat}{j:Nat}{l:Nat}
theorem Lp{b:Option aJ}{c:Nat}{X Y:Nat}(V:Rd h 240 (ae a n c) (bl X))(T:Rd h 240 (ae b j l) (bl Y))(hY:0<Y)(hN:(cO BB X).length<=5000)(hM:(cO BB Y).length<=5000)(w:Wf h):
  aX 238 [ae a n c,ae b j l] h (Ku h X Y):=by
 have z7:BB=1000000000:=rfl;have hn:n=(cO BB X).length:=by have:=V.len;rwa[aH]at this
 have y0:j=(cO BB Y).length:=by have:=T.len;rwa[aH]at this
 obtain⟨f1,f2,s,C,f5,G⟩:=Wx kJ hY;rw[<-y0]at f1 f2 s C f5 G;generalize x6:(cO BB Y).getD (j-1) 0=v at f2 s C G;generalize y2:BB/(v+1)=k at s C G;refine Lo a n c b j l h _ ((ue V T (by omega) w).mono ?_);rintro _ h2 ⟨rfl,f⟩;refine⟨_,rfl,az (λz=>?_) (λz=>?_)⟩
 ·have z:=zY.1 (dT z);refine⟨_,_,_,_,_,_,rfl,.inl ⟨rfl,?_⟩,?_,f⟩
  ·rw[hW z];show(cO BB 0).map uv=[];rw[jN];rfl
  ·rw[ef z];exact V.ok f
 ·have z5:Y<=X:=by
   rcases db X Y with h|h
   ·exact absurd (zY.2 h) (dF z)
   ·exact h
  have hX:0<X:=by omega
  have x4:j<=n:=by
   rcases db n j with h|h
   ·have:=pE kJ (m:=X) (n:=Y) (by omega);omega
   ·exact h
  have y1:ai ak ((j:Int)-1)=((j-1:Nat):Int):=by rw[cd (by omega) (by omega)];omega
  have hj:((j-1:Nat):Int).toNat=j-1:=by omega
  obtain⟨p,g2,g3⟩:=Jb (T.ok f) (i:=((j-1:Nat):Int)) (by omega) (by omega);rw[hj,x6]at g3;have et:ai aw ((v:Int)+1)=((v+1:Nat):Int):=wU (by omega) (by omega);have x5:ca aq .quo 240 (bA 1000000000) (bA ((v+1:Nat):Int))=aa (bA (k:Int)):=by
   have:=YX (a:=BB) (b:=v+1) (by decide) (by omega);rw[y2]at this;exact this
  rw[y1];refine⟨p,g2,_,g3,?_⟩;dsimp only;rw[et];refine⟨_,x5,?_⟩;refine(Cf (V.ok f) (fU kJ X) (by omega) s C f.wf).mono ?_;rintro _ h8 ⟨a9,I,y7,rfl,R,E⟩;rw[eP kJ]at R;refine⟨a9,I,y7,rfl,(Cf ((T.ok f).ok E) (fU kJ Y) (by omega) s C E.wf).mono ?_⟩;rintro _ z8 ⟨x8,d,O,rfl,ov,H⟩;rw[eP kJ]at ov;refine⟨x8,d,O,rfl,?_⟩;have z6:0<Y*k:=mul_pos hY s;have J:(cO BB (Y*k)).length=j:=KB kJ G (bN f5 (Nat.le_mul_of_pos_right Y s)) f1;have q:(bl (Y*k)).length=j:=by rw[aH];exact J
  rcases ov with⟨_,e⟩|⟨A,cv,e,x7,gv,tv,lv⟩
  ·rw[e]at q;simp at q;omega
  injection e with e1 e2 e3
  subst e1;obtain rfl:d=j:=by rw[e2,q]
  rw[q]at tv;have B:=jv (fU kJ X);rw[eP kJ,<-hn]at B;have z3:0<X*k:=mul_pos hX s;have L1:=xg a n c b d l (k:Int) (aa ⟨A,0,none⟩) d O
   (λmz r y rc g=>y<=n+1/\mz=n+1-y/\0<y/\∃U:List Nat,U.length=y/\hJ h g 240 (ae r y rc) (U.map uv)/\Ok h g/\(∀x∈U,x<BB)/\Num.bv BB U=X*k/\g.get A=aa (.cells cv 240 1 af)/\(∀o n c,ae r y rc≠ gJ A o n c)) (Ku h X Y) (by
   intro mz r y rc;intros;rename_i g hi;obtain⟨z,z4,h3,U,D,o,ok,x1,x3,F,M⟩:=hi;refine az (λQ=>?_) (λQ=>?_)
   ·have Q:=dT Q;refine⟨_,_,_,we _,?_⟩;obtain⟨b',m',d',u,g6,g7,g8,g9,y6,y5⟩:=hJ.agQ (P:=aq) (t:=260) (x:= bA 0) Ew OF Ho w ok o rfl (by rw[Em,aH];omega) (by rw[aH];omega);rw[aH,D]at g7;subst g7;refine⟨b',_,d',u,g6,NP (mz-1) (by omega) ⟨by omega,by omega,by omega,U++[0],by simp[D],?_,g9,?_,?_,y6 _ _ F M,?_⟩⟩
    ·rw[bK];exact g8
    ·intro x K;rcases bG.1 K with K|K
     ·exact x1 x K
     ·rw[ba.1 K];decide
    ·rw[uw,x3];simp
    ·intro o' n' c' e;rcases y5 _ _ _ _ e with h7|⟨o2,n2,c2,h7⟩
     ·have:=ok.wf _ _ F;omega
     ·exact M _ _ _ h7
   ·have Q:=dF Q;obtain rfl:y=n+1:=by omega
    rcases o with⟨_,e⟩|⟨Z,W,e,x2,gu,tu,lu⟩
    ·have:=congrArg List.length e;rw[aH,D]at this;have h9:n+1=0:=this;omega
    rw[aH,D]at e tu lu;injection e with e1 _ e3
    subst e1;subst e3;have y4:ai ak (((n+1:Nat):Int)-(d:Int))=((n+1-d:Nat):Int):=by rw[cd (by omega) (by omega)];omega
    rw[y4];refine⟨_,_,_,adD _ (by omega),?_⟩;have z2:=ok.wf _ _ gu;have z1:=ok.wf _ _ F;have x9:Z≠A:=λe=>M 0 (n+1) (fg+W.length) (by rw[e]);have S:((aQ (n+1-d) 0).map uv).length=n+1-d:=by rw[aH,bX]
    exact abm (h2:=h) (X:=X) (Y:=Y) (N:=n) (m:=d) (L:=n+1-d) (k:=k) (ku:=Z) (kv:=A) (kq:=g.aD) (ec:=O) (cu:=W) (cv:=cv) hY f1 x4 (by omega) rfl s C J (le_of_lt G) a n c b l (n+1-d) (i:=0)
     ⟨ck _,rfl,U,aQ (n+1-d) 0,{
      ok:=ok.push _
      w2:=w
      u2:=x2
      q2:=ok.nx
      gu:=by
       rw[au.cY,iN (by omega),qZ (by rw[bO,D];exact tu)];exact gu
      gv:=by rw[au.cY,iN (by omega)];exact F
      gq:=by
       rw[au.cY,iP rfl,qZ (by rw[bO,bX,bC (by rw[S];exact aT _)])]
      uv':=x9
      uq:=by omega
      vq:=by omega
      ul:=D
      cl:=lu
      aeH:=by rw[bX]
      ac6:=by rw[J];exact tv
      inv:=lZ.start kJ x1 D x4 B f5 f1 s x3 }⟩)
  have y3:=hJ.ahh f.nx R;have x0:I=(cO BB (X*k)).length:=by have:=R.len;rwa[aH]at this
  have y8:h8.aD<=A:=x7;have z0:(cO BB (X*k)).length<=n+1:=by
   refine pD kJ ?_;rw[fF];exact cD (Nat.mul_lt_mul_of_pos_right B s) (eS _ C)
  have y9:0<(cO BB (X*k)).length:=fE.2 λe=>by have:=(lL kJ).1 e;omega
  refine L1 (n+1-I) ⟨by omega,rfl,by omega,cO BB (X*k),x0.symm,y3.ok H,(f.trans E).trans H,fU kJ _,eP kJ _,gv,?_⟩;intro o n' c' e;rcases R with⟨e',_⟩|⟨Z,W,e',x2,gu,_,_⟩
  ·rw[e']at e;injection e with e;cases e
  ·rw[e']at e;injection e with e _ _
   injection e with e
   injection e with e
   have:=E.wf _ _ gu;omega
abbrev lH:LB:=[0,1,2,2,3,3,3,3,4,4,4,4,4,4,4,4,5,5,5,5,5,5,5,5,5,5,5,5,5,5,5,5,6,6,6,6,6,6,6,6,6,6,6,6,6,6,6,6,6,6,6,6,6,6,6,6,6,6,6,6,6,6,6,6,7,7,7,7,7,7,7,7,7,7,7,7,7,7,7,7,7,7,7,7,7,7,7,7,7,7,7,7,7,7,7,7,7,7,7,7,7,7,7,7,7,7,7,7,7,7,7,7,7,7,7,7,7,7,7,7,7,7,7,7,7,7,7,7,8,8,8,8,8,8,8,8,8,8,8,8,8,8,8,8,8,8,8,8,8,8,8,8,8,8,8,8,8,8,8,8,8,8,8,8,8,8,8,8,8,8,8,8,8,8,8,8,8,8,8,8,8,8,8,8,8,8,8,8,8,8,8,8,8,8,8,8,8,8,8,8,8,8,8,8,8,8,8,8,8,8,8,8,8,8,8,8,8,8,8,8,8,8,8,8,8,8,8,8,8,8,8,8,8,8,8,8,8,8,8,8,8,8,8,8,8,8,8,8,8,8,8,8,8,8,8,8]
noncomputable def abW:FD:=gU Tryz.f186 []
theorem X4(u:Int)(h:au)(Q:VH)(m:cq (decide ((u:Int)>=4294967296)) (xI aw (ca aq .shr 240 (bA u) (bA 32)) λa=>cq (decide (a>=65536)) (xI aw (ca aq .shr 240 (bA a) (bA 16)) λc=>cq (decide (c>=256)) (xI aw (ca aq .shr 240 (bA c) (bA 8)) λl=>xI aK (dE aq 9 (strOf lH) (aC aK (ai aK l))) λq=>Q (aE (ai ak (ai ak (ai ak (32+16)+8)+ai ak q))) h) (xI aK (dE aq 9 (strOf lH) (aC aK (ai aK c))) λk=>Q (aE (ai ak (ai ak (32+16)+ai ak k))) h)) (cq (decide (a>=256)) (xI aw (ca aq .shr 240 (bA a) (bA 8)) λn=>xI aK (dE aq 9 (strOf lH) (aC aK (ai aK n))) λo=>Q (aE (ai ak (ai ak (32+8)+ai ak o))) h) (xI aK (dE aq 9 (strOf lH) (aC aK (ai aK a))) λp=>Q (aE (ai ak (32+ai ak p))) h))) (cq (decide ((u:Int)>=65536)) (xI aw (ca aq .shr 240 (bA u) (bA 16)) λb=>cq (decide (b>=256)) (xI aw (ca aq .shr 240 (bA b) (bA 8)) λg=>xI aK (dE aq 9 (strOf lH) (aC aK (ai aK g))) λi=>Q (aE (ai ak (ai ak (ai ak (0+16)+8)+ai ak i))) h) (xI aK (dE aq 9 (strOf lH) (aC aK (ai aK b))) λj=>Q (aE (ai ak (ai ak (0+16)+ai ak j))) h)) (cq (decide ((u:Int)>=256)) (xI aw (ca aq .shr 240 (bA u) (bA 8)) λe=>xI aK (dE aq 9 (strOf lH) (aC aK (ai aK e))) λd=>Q (aE (ai ak (ai ak (0+8)+ai ak d))) h) (xI aK (dE aq 9 (strOf lH) (aC aK (ai aK u))) λf=>Q (aE (ai ak (0+ai ak f))) h)))):aX 186 [(bA u)] h Q:=hH abW Tryz.func186 (bD m)
noncomputable def N0:FD:=gU Tryz.f298 []
theorem Li(n:Int)(h:au)(Q:VH)(b:xI ak (ca aq .shr 3 (aE (ai ak (n*78913))) (bA 18)) λa=>Q (aE a) h):aX 298 [(aE n)] h Q:=hH N0 Tryz.func298 (bD b)
noncomputable def aa2:FD:=gU Tryz.f299 []
theorem Xc(b:Bool)(h:au)(Q:VH)(a:cq b (Q (aE 1) h) (Q (aE 0) h)):aX 299 [(ah b)] h Q:=hH aa2 Tryz.func299 (bD a)
noncomputable def Oh:FD:=gU Tryz.f293 []
theorem Lv(u:Int)(h:au)(Q:VH)(g:aX 186 [(bA u)] h λl i=>yI ak l λe=>aX 298 [(aE e)] i λf d=>yI ak f λa=>qX (xI aw) 328 (pA 1) (aE a) 240 d λk=>aX 299 [(ah (decide ((u:Int)>=k)))] d λj c=>yI ak j λb=>Q (aE (ai ak (a+b))) c):aX 293 [(bA u)] h Q:=hH Oh Tryz.func293 (bD g)
abbrev eU:LB:=[48,48,48,49,48,50,48,51,48,52,48,53,48,54,48,55,48,56,48,57,49,48,49,49,49,50,49,51,49,52,49,53,49,54,49,55,49,56,49,57,50,48,50,49,50,50,50,51,50,52,50,53,50,54,50,55,50,56,50,57,51,48,51,49,51,50,51,51,51,52,51,53,51,54,51,55,51,56,51,57,52,48,52,49,52,50,52,51,52,52,52,53,52,54,52,55,52,56,52,57,53,48,53,49,53,50,53,51,53,52,53,53,53,54,53,55,53,56,53,57,54,48,54,49,54,50,54,51,54,52,54,53,54,54,54,55,54,56,54,57,55,48,55,49,55,50,55,51,55,52,55,53,55,54,55,55,55,56,55,57,56,48,56,49,56,50,56,51,56,52,56,53,56,54,56,55,56,56,56,57,57,48,57,49,57,50,57,51,57,52,57,53,57,54,57,55,57,56,57,57]
noncomputable def acL:FD:=gU Tryz.f292 []
theorem ZJ(n:Int)(h:au)(Q:VH)(a:cq (decide ((n:Int)<10)) (xS (dN aq 9 (strOf [48,49,50,51,52,53,54,55,56,57,97,98,99,100,101,102,103,104,105,106,107,108,109,110,111,112,113,114,115,116,117,118,119,120,121,122]) (aa (aE n)) (aa (aE (ai ak (n+1)))) none h) λb=>Q (strOf b) h) (xS (dN aq 9 (strOf eU) (aa (aE (ai ak (n*2)))) (aa (aE (ai ak (ai ak (n*2)+2)))) none h) λc=>Q (strOf c) h)):aX 292 [(aE n)] h Q:=hH acL Tryz.func292 (bD a)
noncomputable def BO:FD:=gU Tryz.f294 [((pq 17),[0,1,4])]
abbrev qJ(a:OA)(n c:Nat)(i:Nat)(v:Int):LV:=[(ae a n c),(bA v),(iA i)]
theorem XL(a:OA)(n c:Nat)(u:Int)(h:au)(Q:VH)(b:cw BO (pq 17) (qJ a n c n u) h (eu BO [1,0,0] Q)):aX 294 [(ae a n c),(bA u)] h Q:=hH BO Tryz.func294 (bD b)
theorem Dk(a:OA)(n c:Nat)(u:Int)  (d:Nat->Nat->Int->au->Prop) (Q:VH) (step:∀(mz:Nat)(i:Nat)(v:Int)(zz:Nat->ag)(h:au),d mz i v h->cq (decide ((i:Int)>=8)) (xI aw (ca aq .rem 240 (bA v) (bA 100000000)) λT=>xI aw (ca aq .quo 240 (bA v) (bA 100000000)) λn2=>xI aP (ca aq .quo 238 (aC aP (ai aP T)) (aC aP 10000)) λI=>xI aP (ca aq .rem 238 (aC aP (ai aP T)) (aC aP 10000)) λn4=>xI aP (ca aq .quo 238 (aC aP n4) (aC aP 100)) λE=>xI aP (ca aq .rem 238 (aC aP n4) (aC aP 100)) λn6=>xI aP (ca aq .quo 238 (aC aP I) (aC aP 100)) λn7=>xI aP (ca aq .rem 238 (aC aP I) (aC aP 100)) λn8=>xI aK (dE aq 9 (strOf eU) (aC aP (ai aP (ai aP (n6*2)+1)))) λn9=>xI aK (dE aq 9 (strOf eU) (aC aP (ai aP (n6*2)))) λx0=>xP (aW aq 183 (ae a n c) (aE (ai ak ((i:Int)-1)))) λy3=>xU (bh aq 5 (bw y3) (aC aK n9) (room h 15)) (room h 15) λv3 k=>xP (aW aq 183 (ae a n c) (aE (ai ak ((i:Int)-2)))) λV=>xU (bh aq 5 (bw V) (aC aK x0) k) k λv1 l=>xI aK (dE aq 9 (strOf eU) (aC aP (ai aP (ai aP (E*2)+1)))) λz2=>xI aK (dE aq 9 (strOf eU) (aC aP (ai aP (E*2)))) λW=>xP (aW aq 183 (ae a n c) (aE (ai ak ((i:Int)-3)))) λY=>xU (bh aq 5 (bw Y) (aC aK z2) (room l 15)) (room l 15) λu3 y=>xP (aW aq 183 (ae a n c) (aE (ai ak ((i:Int)-4)))) λK=>xU (bh aq 5 (bw K) (aC aK W) y) y λz8 p=>xI aK (dE aq 9 (strOf eU) (aC aP (ai aP (ai aP (n8*2)+1)))) λL=>xI aK (dE aq 9 (strOf eU) (aC aP (ai aP (n8*2)))) λy8=>xP (aW aq 183 (ae a n c) (aE (ai ak ((i:Int)-5)))) λz0=>xU (bh aq 5 (bw z0) (aC aK L) (room p 15)) (room p 15) λz6 o=>xP (aW aq 183 (ae a n c) (aE (ai ak ((i:Int)-6)))) λS=>xU (bh aq 5 (bw S) (aC aK y8) o) o λu9 s=>xI aK (dE aq 9 (strOf eU) (aC aP (ai aP (ai aP (n7*2)+1)))) λZ=>xI aK (dE aq 9 (strOf eU) (aC aP (ai aP (n7*2)))) λP=>xP (aW aq 183 (ae a n c) (aE (ai ak ((i:Int)-7)))) λy7=>xU (bh aq 5 (bw y7) (aC aK Z) (room s 15)) (room s 15) λv2 A=>xP (aW aq 183 (ae a n c) (aE (ai ak ((i:Int)-8)))) λz3=>xU (bh aq 5 (bw z3) (aC aK P) A) A λz7 J=>ct (pB (qJ a n c) d) mz [(ae a n c),(bA n2),(aE (ai ak ((i:Int)-8)))] J) (cq (decide ((i:Int)>=4)) (xI aP (ca aq .rem 238 (aC aP (ai aP v)) (aC aP 10000)) λz=>xI aP (ca aq .quo 238 (aC aP (ai aP v)) (aC aP 10000)) λe=>xI aP (ca aq .quo 238 (aC aP z) (aC aP 100)) λB=>xI aP (ca aq .rem 238 (aC aP z) (aC aP 100)) λm=>xI aK (dE aq 9 (strOf eU) (aC aP (ai aP (ai aP (m*2)+1)))) λX=>xI aK (dE aq 9 (strOf eU) (aC aP (ai aP (m*2)))) λx3=>xP (aW aq 183 (ae a n c) (aE (ai ak ((i:Int)-1)))) λy5=>xU (bh aq 5 (bw y5) (aC aK X) (room h 15)) (room h 15) λu6 q=>xP (aW aq 183 (ae a n c) (aE (ai ak ((i:Int)-2)))) λF=>xU (bh aq 5 (bw F) (aC aK x3) q) q λu8 t=>xI aK (dE aq 9 (strOf eU) (aC aP (ai aP (ai aP (B*2)+1)))) λG=>xI aK (dE aq 9 (strOf eU) (aC aP (ai aP (B*2)))) λH=>xP (aW aq 183 (ae a n c) (aE (ai ak ((i:Int)-3)))) λx8=>xU (bh aq 5 (bw x8) (aC aK G) (room t 15)) (room t 15) λu4 C=>xP (aW aq 183 (ae a n c) (aE (ai ak ((i:Int)-4)))) λy4=>xU (bh aq 5 (bw y4) (aC aK H) C) C λu7 b=>cq (decide ((ai ak ((i:Int)-4):Int)>=2)) (xI aP (ca aq .rem 238 (aC aP e) (aC aP 100)) λx=>xI aP (ca aq .quo 238 (aC aP e) (aC aP 100)) λy6=>xI aK (dE aq 9 (strOf eU) (aC aP (ai aP (ai aP (x*2)+1)))) λx2=>xI aK (dE aq 9 (strOf eU) (aC aP (ai aP (x*2)))) λy1=>xP (aW aq 183 (ae a n c) (aE (ai ak (ai ak ((i:Int)-4)-1)))) λy9=>xU (bh aq 5 (bw y9) (aC aK x2) (room b 15)) (room b 15) λz9 j=>xP (aW aq 183 (ae a n c) (aE (ai ak (ai ak ((i:Int)-4)-2)))) λU=>xU (bh aq 5 (bw U) (aC aK y1) j) j λu5 g=>cq (decide ((ai ak (ai ak ((i:Int)-4)-2):Int)>0)) (xP (aW aq 183 (ae a n c) (aE 0)) λz1=>xU (bh aq 5 (bw z1) (aC aK (ai aK (ai aP (48+y6)))) g) g λz4 x7=>Q (av ⟨[]⟩) x7) (Q (av ⟨[]⟩) g)) (cq (decide ((ai ak ((i:Int)-4):Int)>0)) (xP (aW aq 183 (ae a n c) (aE 0)) λx5=>xU (bh aq 5 (bw x5) (aC aK (ai aK (ai aP (48+e)))) b) b λu1 x1=>Q (av ⟨[]⟩) x1) (Q (av ⟨[]⟩) b))) (cq (decide ((i:Int)>=2)) (xI aP (ca aq .rem 238 (aC aP (ai aP v)) (aC aP 100)) λr=>xI aP (ca aq .quo 238 (aC aP (ai aP v)) (aC aP 100)) λx6=>xI aK (dE aq 9 (strOf eU) (aC aP (ai aP (ai aP (r*2)+1)))) λy2=>xI aK (dE aq 9 (strOf eU) (aC aP (ai aP (r*2)))) λx9=>xP (aW aq 183 (ae a n c) (aE (ai ak ((i:Int)-1)))) λM=>xU (bh aq 5 (bw M) (aC aK y2) (room h 15)) (room h 15) λz5 w=>xP (aW aq 183 (ae a n c) (aE (ai ak ((i:Int)-2)))) λx4=>xU (bh aq 5 (bw x4) (aC aK x9) w) w λu0 f=>cq (decide ((ai ak ((i:Int)-2):Int)>0)) (xP (aW aq 183 (ae a n c) (aE 0)) λR=>xU (bh aq 5 (bw R) (aC aK (ai aK (ai aP (48+x6)))) f) f λv0 O=>Q (av ⟨[]⟩) O) (Q (av ⟨[]⟩) f)) (cq (decide ((i:Int)>0)) (xP (aW aq 183 (ae a n c) (aE 0)) λN=>xU (bh aq 5 (bw N) (aC aK (ai aK (ai aP (48+ai aP v)))) h) h λu2 y0=>Q (av ⟨[]⟩) y0) (Q (av ⟨[]⟩) h))))) (mz:Nat) {i:Nat} {v:Int} {h:au} (D:d mz i v h):cw BO (pq 17) (qJ a n c i v) h (eu BO [1,0,0] Q):=
 mc (qJ a n c) d (λmz i v zz h D=>bD (step mz i v zz h D)) mz D
noncomputable def Qn:FD:=gU Tryz.f284 []
theorem NG(u:Int)(h:au)(Q:VH)(t:cq (((10:Int)==10)) (cq (decide ((u:Int)<100)) (aX 292 [(aE (ai ak u))] h λy v=>yS y λw=>Q (strOf w) v) (xN (cP aq 321) h λz x=>aX 293 [(bA u)] x λr l=>yI ak r λn=>xL (dN aq 321 (pA (h.aD)) none (aa (aE n)) none l) λs i p=>aX 294 [(ae s i p),(bA u)] l λd a=>d=(av ⟨[]⟩)/\xL (dN aq 321 (pA (h.aD)) none (aa (aE n)) none a) λe g k=>xS (AV aq 183 9 (ae e g k) a) λj=>Q (strOf j) a)) (aX 295 [nA,(bA u),(aE 10),(ah aj),(ah aj)] h λf q=>∃(o:OA) (m c:Nat),∃b:LB,f=(av ⟨[(ae o m c),(strOf b)]⟩)/\Q (strOf b) q)):aX 284 [(bA u),(aE 10)] h Q:=hH Qn Tryz.func284 (bD t)
noncomputable def Uc:FD:=gU Tryz.f262 []
theorem Qo(u:Int)(h:au)(Q:VH)(a:aX 284 [(bA u),(aE 10)] h λd b=>yS d λc=>Q (strOf c) b):aX 262 [(bA u),(aE 10)] h Q:=hH Uc Tryz.func262 (bD a)
variable{P:aO}{g:au}{m:Nat}
theorem Rq{t:aF}{a:Int}(h:0<=a){s:Nat}(b:s<=64):ca P .shr t (bA a) (bA (s:Int))=aa (bA (a/2^s)):=by
 show(if 0<=(s:Int)then aa (aC aw (a.fdiv (2^(min (s:Int).toNat 64))))else none)=_;rw[iP (by omega),bc,dI b,Int.fdiv_eq_ediv_of_nonneg _ (Int.le_of_lt (Int.pow_pos (by decide)))]
theorem acK{t:aF}{a:Int}(h:0<=a){s:Nat}(b:s<=64):ca P .shr t (aE a) (bA (s:Int))=aa (aE (a/2^s)):=by
 show(if 0<=(s:Int)then aa (aC ak (a.fdiv (2^(min (s:Int).toNat 64))))else none)=_;rw[iP (by omega),bc,dI b,Int.fdiv_eq_ediv_of_nonneg _ (Int.le_of_lt (Int.pow_pos (by decide)))]
def LT8:List UInt8:=[0,1,2,2,3,3,3,3,4,4,4,4,4,4,4,4,5,5,5,5,5,5,5,5,5,5,5,5,5,5,5,5,6,6,6,6,6,6,6,6,6,6,6,6,6,6,6,6,6,6,6,6,6,6,6,6,6,6,6,6,6,6,6,6,7,7,7,7,7,7,7,7,7,7,7,7,7,7,7,7,7,7,7,7,7,7,7,7,7,7,7,7,7,7,7,7,7,7,7,7,7,7,7,7,7,7,7,7,7,7,7,7,7,7,7,7,7,7,7,7,7,7,7,7,7,7,7,7,8,8,8,8,8,8,8,8,8,8,8,8,8,8,8,8,8,8,8,8,8,8,8,8,8,8,8,8,8,8,8,8,8,8,8,8,8,8,8,8,8,8,8,8,8,8,8,8,8,8,8,8,8,8,8,8,8,8,8,8,8,8,8,8,8,8,8,8,8,8,8,8,8,8,8,8,8,8,8,8,8,8,8,8,8,8,8,8,8,8,8,8,8,8,8,8,8,8,8,8,8,8,8,8,8,8,8,8,8,8,8,8,8,8,8,8,8,8,8,8,8,8,8,8,8,8,8,8]
def SM:List UInt8:=[48,48,48,49,48,50,48,51,48,52,48,53,48,54,48,55,48,56,48,57,49,48,49,49,49,50,49,51,49,52,49,53,49,54,49,55,49,56,49,57,50,48,50,49,50,50,50,51,50,52,50,53,50,54,50,55,50,56,50,57,51,48,51,49,51,50,51,51,51,52,51,53,51,54,51,55,51,56,51,57,52,48,52,49,52,50,52,51,52,52,52,53,52,54,52,55,52,56,52,57,53,48,53,49,53,50,53,51,53,52,53,53,53,54,53,55,53,56,53,57,54,48,54,49,54,50,54,51,54,52,54,53,54,54,54,55,54,56,54,57,55,48,55,49,55,50,55,51,55,52,55,53,55,54,55,55,55,56,55,57,56,48,56,49,56,50,56,51,56,52,56,53,56,54,56,55,56,56,56,57,57,48,57,49,57,50,57,51,57,52,57,53,57,54,57,55,57,56,57,57]
theorem ab1:((dA 256).all λx=>(x==0&&(LT8.getD x 0).toNat==0)||(Nat.ble 1 (LT8.getD x 0).toNat&&Nat.ble (LT8.getD x 0).toNat 8&&Nat.ble (2^((LT8.getD x 0).toNat-1)) x&&cQ x (2^(LT8.getD x 0).toNat)))=af:=by kernel_rfl
theorem lt8{x:Nat}(h:x<256)(g:0<x):∃t,(LT8.getD x 0).toNat=t+1/\t<8/\2^t<=x/\x<2^(t+1):=by
 have e:=bY.1 ab1 x (List.mem_range.2 h);have f:(x==0)=aj:=by simp;omega
 rw[f]at e;simp only[Bool.false_and,Bool.false_or,bg,Nat.ble_eq,Nat.blt_eq]at e;obtain⟨⟨⟨a,b⟩,c⟩,d⟩:=e;refine⟨(LT8.getD x 0).toNat-1,by omega,by omega,c,?_⟩;rwa[Nat.sub_add_cancel a]
theorem Fi{x:Int}(a:0<=x)(b:x<256):dE aq 9 (strOf LT8) (aC aK (ai aK x))=aa (aC aK ((LT8.getD x.toNat 0).toNat:Nat)):=by
 rw[vV a b];exact sE (by kernel_rfl) LT8 aK a (by show x<((256:Nat):Int);omega)
theorem aeZ:((dA 100).all λx=>dk (SM.getD (2*x) 0).toNat (48+x/10)&&dk (SM.getD (2*x+1) 0).toNat (48+x%10))=af:=by kernel_rfl
theorem ZI{x:Nat}(h:x<100):(SM.getD (2*x) 0).toNat=48+x/10/\(SM.getD (2*x+1) 0).toNat=48+x%10:=by
 have a:=bY.1 aeZ x (List.mem_range.2 h);simp only[bg,Nat.beq_eq]at a;exact a
theorem X5(k:0<n)(j:n<4294967296)(h:au):aX 186 [bA (n:Int)] h (λv i=>i=h/\∃f:Nat,v=aE (f+1:Nat)/\f<32/\2^f<=n/\n<2^(f+1)):=by
 refine X4 _ h _ (az (λg=>absurd (dT g) (by omega)) λ_=>az (λg=>?_) (λg=>?_))
 ·have g:=dT g;refine⟨_,Rq (s:=16) (by omega) (by omega),az (λa=>?_) (λa=>?_)⟩
  ·have a:=dT a;refine⟨_,Rq (s:=8) (by omega) (by omega),_,Fi (by omega) (by omega),rfl,?_⟩;obtain⟨t,e,c,b,d⟩:=lt8 (x:=((n:Int)/2^16/2^8).toNat) (by omega) (by omega);rw[e];refine⟨t+24,?_,by omega,?_,?_⟩
   ·refine congrArg (aC ak) ?_;simp only[wrap_i64];omega
   ·rw[pow_add];omega
   ·rw[show t+24+1=(t+1)+24 by omega,pow_add];omega
  ·have a:=dF a;refine⟨_,Fi (by omega) (by omega),rfl,?_⟩;obtain⟨t,e,c,b,d⟩:=lt8 (x:=((n:Int)/2^16).toNat) (by omega) (by omega);rw[e];refine⟨t+16,?_,by omega,?_,?_⟩
   ·refine congrArg (aC ak) ?_;simp only[wrap_i64];omega
   ·rw[pow_add];omega
   ·rw[show t+16+1=(t+1)+16 by omega,pow_add];omega
 ·have g:=dF g;refine az (λa=>?_) (λa=>?_)
  ·have a:=dT a;refine⟨_,Rq (s:=8) (by omega) (by omega),_,Fi (by omega) (by omega),rfl,?_⟩;obtain⟨t,e,c,b,d⟩:=lt8 (x:=((n:Int)/2^8).toNat) (by omega) (by omega);rw[e];refine⟨t+8,?_,by omega,?_,?_⟩
   ·refine congrArg (aC ak) ?_;simp only[wrap_i64];omega
   ·rw[pow_add];omega
   ·rw[show t+8+1=(t+1)+8 by omega,pow_add];omega
  ·have a:=dF a;refine⟨_,Fi (by omega) (by omega),rfl,?_⟩;obtain⟨t,e,c,b,d⟩:=lt8 (x:=((n:Int)).toNat) (by omega) (by omega);rw[e];refine⟨t,?_,by omega,by omega,by omega⟩;refine congrArg (aC ak) ?_;simp only[wrap_i64];omega
def Pc:List ag:=(dA 20).map λi=>uv (10^i)
def za(h:au):Prop:=∃t a,h.get 1=aa (.cells Pc t 0 a)
theorem za.ok(t:za h)(o:Ok h g):za g:=let⟨k,a,e⟩:=t;⟨k,a,o.ext _ _ e⟩
theorem afG:aq.underlying 328=aa (.array 20 240):=by kernel_rfl
theorem ae5(t:za h){i:Int}(b:0<=i)(a:i<20):aW aq 328 (pA 1) (aE i)=aa (df 1 (0+i.toNat*1))/\aS aq 240 h (df 1 (0+i.toNat*1))=aa (bA ((10^i.toNat:Nat):Int)):=by
 obtain⟨_,c,e⟩:=t;constructor
 ·unfold aW;rw[afG];dsimp only;rw[HZ];dsimp only;rw[iP ⟨b,a⟩,gk,bJ]
 ·unfold aS;rw[Tl];dsimp only;rw[e];dsimp only;rw[R5];simp only[dG,if_false];unfold Pc;rw[bJ,dB,getElem?_map,List.getElem?_range (by omega)];rfl
theorem Lw(B:100<=n)(x:n<1000000000){h:au}(t:za h):aX 293 [bA (n:Int)] h (λv o=>o=h/\∃a:Nat,v=aE (a+1:Nat)/\a<9/\10^a<=n/\n<10^(a+1)):=by
 refine Lv _ h _ ((X5 (by omega) (by omega) h).mono ?_);rintro _ g ⟨e,a,rfl,y,u,z⟩;have t:=e▸t;refine⟨_,rfl,Li _ _ _ ⟨_,acK (s:=18) ?_ (by omega),_,rfl,?_⟩⟩
 ·rw[cd (by omega) (by omega)];omega
 rw[cd (by omega) (by omega)];have D:a<30:=by
  rcases db a 30 with h|h
  ·exact h
  ·have:2^30<=2^a:=di (by omega) h;omega
 have C:6<=a:=by
  rcases db a 6 with h|h
  ·have:2^(a+1)<=2^6:=di (by omega) h;omega
  ·exact h
 obtain⟨p,k⟩:=ae5 t (i:=((a+1:Nat):Int)*78913/2^18) (by omega) (by omega);refine⟨_,p,_,k,Xc _ _ _ ?_⟩;have b:∀q:Nat,2<=q->q<=9->10^(q-1)<=n->n<10^(q+1)->((a+1:Nat):Int)*78913/2^18=(q:Int)->cq (decide (((n:Nat):Int)>=((10^(((a+1:Nat):Int)*78913/2^18).toNat:Nat):Int))) (∃c:Int,aC ak 1=aE c/\(g=h/\∃m:Nat,aC ak (ai ak (((a+1:Nat):Int)*78913/2^18+c))=aE (m+1:Nat)/\m<9/\10^m<=n/\n<10^(m+1))) (∃c:Int,aC ak 0=aE c/\(g=h/\∃m:Nat,aC ak (ai ak (((a+1:Nat):Int)*78913/2^18+c))=aE (m+1:Nat)/\m<9/\10^m<=n/\n<10^(m+1))):=by
  intro q A w f l r;rw[r,bc];refine az (λd=>?_) (λd=>?_)
  ·have d:=dT d;refine⟨1,rfl,e,q,?_,?_,by omega,l⟩
   ·rw[cd (by omega) (by omega)];rfl
   ·rcases db q 9 with h|h
    ·exact h
    ·have:q=9:=by omega
     subst this;omega
  ·have d:=dF d;refine⟨0,rfl,e,q-1,?_,by omega,f,by rw[Nat.sub_add_cancel (by omega)];omega⟩;rw[cd (by omega) (by omega),Nat.sub_add_cancel (by omega),Int.add_zero]
 have j:a=6\/a=7\/a=8\/a=9\/a=10\/a=11\/a=12\/a=13\/a=14\/a=15\/a=16\/a=17\/a=18\/a=19\/a=20\/a=21\/a=22\/a=23\/a=24\/a=25\/a=26\/a=27\/a=28\/a=29:=by omega
 rcases j with rfl|rfl|rfl|rfl|rfl|rfl|rfl|rfl|rfl|rfl|rfl|rfl|rfl|rfl|rfl|rfl|rfl|rfl|rfl|rfl|rfl|rfl|rfl|rfl
 all_goals first
  |exact b 2 (by omega) (by omega) (by omega) (by omega) (by omega)
  |exact b 3 (by omega) (by omega) (by omega) (by omega) (by omega)
  |exact b 4 (by omega) (by omega) (by omega) (by omega) (by omega)
  |exact b 5 (by omega) (by omega) (by omega) (by omega) (by omega)
  |exact b 6 (by omega) (by omega) (by omega) (by omega) (by omega)
  |exact b 7 (by omega) (by omega) (by omega) (by omega) (by omega)
  |exact b 8 (by omega) (by omega) (by omega) (by omega) (by omega)
  |exact b 9 (by omega) (by omega) (by omega) (by omega) (by omega)
theorem ZK(e:m<100)(h:au):aX 292 [aE (m:Int)] h (λv f=>f=h/\v=strOf (bn m)):=by
 refine ZJ _ h _ (az (λg=>?_) (λg=>?_))
 ·have g:=dT g;rw[cd (by omega) (by omega)];refine⟨_,sH (by kernel_rfl) _ (a:=m) (b:=m+1) rfl rfl (by omega) (by simp;omega),rfl,?_⟩;rw[gO (by omega)];have:m=0\/m=1\/m=2\/m=3\/m=4\/m=5\/m=6\/m=7\/m=8\/m=9:=by omega
  rcases this with rfl|rfl|rfl|rfl|rfl|rfl|rfl|rfl|rfl|rfl<;>rfl
 ·have g:=dF g;rw[cd (n:=(m:Int)*2) (by omega) (by omega),cd (by omega) (by omega)];refine⟨_,sH (l:=SM) (by kernel_rfl) (a:=2*m) (b:=2*m+2) (by show aa _=aa _;congr 1;omega) (by show aa _=aa _;congr 1;omega) (by omega) (by show _<=200;omega),rfl,?_⟩;have c:=ZI e;rw[mQ (by omega),gO (by omega),show 2*m+2-2*m=2 by omega];have j:SM.length=200:=rfl;rw[cX (by omega),cX (by omega)];have d:SM[2*m]'(by omega)=jo (m/10):=by
   apply fL.1;have:=c.1;rw[gD,gE (by omega)]at this;rw[show(SM[2*m]'(by omega)).toNat=_ from this];unfold jo;rw[UInt8.toNat_ofNat',ef (by omega)]
  have i:SM[2*m+1]'(by omega)=jo (m%10):=by
   apply fL.1;have:=c.2;rw[gD,gE (by omega)]at this;rw[show(SM[2*m+1]'(by omega)).toNat=_ from this];unfold jo;rw[UInt8.toNat_ofNat',ef (a:=48+m%10) (b:=2^8) (by omega)]
  rw[d,i];rfl
variable{z:Int}
section
theorem qS{n:Int}(a:0<=n)(b:n<4294967296):ai aP n=n:=by
 simp only[ai,dr,IntKind.signed,Bool.false_and,dG,if_false];omega
theorem Hf{t:aF}{a:Int}{b:Nat}(h0:0<=a)(c:a<4294967296)(d:0<b):ca P .quo t (aC aP a) (aC aP (b:Int))=aa (aC aP (a/(b:Int))):=by
 rw[KO P t aP _ _ (by omega),Int.tdiv_eq_ediv_of_nonneg h0,qS (Int.ediv_nonneg h0 (by omega)) (Int.lt_of_le_of_lt (Int.ediv_le_self _ h0) c)]
theorem aa6(h:m<10):uy (jo m)=aC aK (48+(m:Int)):=by
 unfold uy jo;rw[UInt8.toNat_ofNat',ef (a:=48+m) (b:=2^8) (by omega)];rfl
structure FB(h0:au)(k n u j w:Nat)(h:au):Prop where
 blk:∃cs,h.get k=aa (.cells cs 321 0 af)/\cs.length=24/\(cs.drop j).take (n-j)=(Num.wid (n-j) u).map uy
 hw:w=u/10^(n-j)
 lt:w<10^j
 jn:j<=n
 n24:n<=9
 ok:MX h0 k h
section
variable {h0 h:au} {k n u j w:Nat}
theorem FB.room(f:FB h0 k n u j w h)(r:Nat):FB h0 k n u j w (room h r):=⟨f.blk,f.hw,f.lt,f.jn,f.n24,f.ok.room r⟩
theorem FB.step(f:FB h0 k n u (j+1) w h){c:Nat}{x i:Int}(m:x=48+(w:Int)%10)(q:i=(j:Int)):
  ∃p:aJ,aW aq 183 (sA k n c) (aE i)=aa (bw p)/\∃d:ek,bh aq 5 (bw p) (aC aK x) h=aa (undef,d)/\FB h0 k n u j (w/10) (d.app h):=by
 subst m q;obtain⟨cs,b,o,l⟩:=f.blk;have s:=f.jn;have g:=f.n24;refine⟨⟨k,0+j,none⟩,?_,.set k (.cells (cs.set j (uy (jo (w%10)))) 321 0 af),?_,?_⟩
 ·unfold aW;rw[zQ];dsimp only;rw[zz5];dsimp only;rw[iP ⟨by omega,by omega⟩,dB,gk,bc]
 ·rw[show(48+((w:Nat):Int)%10)=48+((w%10:Nat):Int) by omega,<-aa6 (dJ _ (by omega))];show(if bZ aq 5=aa 1 then(storeAt h k (0+j) [uy (jo (w%10))]).map λu=>(undef,u)else none)=_;rw[iP zz5];unfold storeAt;rw[b];dsimp only;rw[bJ,iP ⟨by simp;omega,rfl⟩];have e:cs.take j++[uy (jo (w%10))]++cs.drop (j+[uy (jo (w%10))].length)=cs.set j (uy (jo (w%10))):=by
   rw[List.set_eq_take_append_cons_drop,iP (by omega),bP];rfl
  rw[e];rfl
 ·have r:=f.ok.wf _ _ b;have a:n-j=(n-(j+1))+1:=by omega
  refine⟨⟨cs.set j (uy (jo (w%10))),?_,by rw[dt];exact o,?_⟩,?_,?_,by omega,g,f.ok.set r _⟩
  ·show(h.set k _).get k=_;rw[au.cE,iP rfl]
  ·rw[cX (by simp only[dt];omega),a,List.take_succ_cons,List.getElem_set_self,List.drop_set_of_lt (by omega),l,Ae,eK,<-f.hw]
  ·rw[a,fF,<-Nat.div_div_eq_div_mul,<-f.hw]
  ·have:=f.lt;rw[fF]at this;omega
theorem agP{x:Nat}(b:z=(x:Int))(a:x<100):dE aq 9 (strOf SM) (aC aP (ai aP (ai aP (z*2)+1)))=aa (aC aK (48+(x:Int)%10)):=by
 rw[qS (n:=z*2) (by omega) (by omega),qS (by omega) (by omega),sE (by kernel_rfl) SM aP (by omega) (by show _<((200:Nat):Int);omega),show(z*2+1).toNat=2*x+1 by omega,(ZI a).2];rfl
theorem agO{x:Nat}(b:z=(x:Int))(a:x<100):dE aq 9 (strOf SM) (aC aP (ai aP (z*2)))=aa (aC aK (48+(x:Int)/10)):=by
 rw[qS (n:=z*2) (by omega) (by omega),sE (by kernel_rfl) SM aP (by omega) (by show _<((200:Nat):Int);omega),show(z*2).toNat=2*x by omega,(ZI a).1];rfl
theorem FB.pair(f:FB h0 k n u (j+2) w h){c:Nat}{y i1 i2:Int}(E:y=(w:Int)%100)(C:i1=(j:Int)+1)(D:i2=(j:Int)):
  ∃m:Int,dE aq 9 (strOf SM) (aC aP (ai aP (ai aP (y*2)+1)))=aa (aC aK m)/\
  ∃d:Int,dE aq 9 (strOf SM) (aC aP (ai aP (y*2)))=aa (aC aK d)/\
  ∃g:aJ,aW aq 183 (sA k n c) (aE i1)=aa (bw g)/\
  ∃a:ek,bh aq 5 (bw g) (aC aK m) (Go.Ab.room h 15)=aa (undef,a)/\
  ∃l:aJ,aW aq 183 (sA k n c) (aE i2)=aa (bw l)/\
  ∃b:ek,bh aq 5 (bw l) (aC aK d) (a.app (Go.Ab.room h 15))=aa (undef,b)/\
  FB h0 k n u j (w/100) (b.app (a.app (Go.Ab.room h 15))):=by
 have e:y=((w%100:Nat):Int):=by omega
 obtain⟨p,A,t,s,B⟩:=(f.room 15).step (j:=j+1) (c:=c) (x:=48+((w%100:Nat):Int)%10) (i:=i1) (by omega) (by omega);obtain⟨q,v,r,z,o⟩:=B.step (c:=c) (x:=48+((w%100:Nat):Int)/10) (i:=i2) (by omega) (by omega);refine⟨_,agP e (by omega),_,agO e (by omega),p,A,t,s,q,v,r,z,?_⟩;rw[Nat.div_div_eq_div_mul]at o;exact o
end
theorem XM{h0 h:au}{k n c u:Nat}(f:FB h0 k n u n u h):aX 294 [sA k n c,bA (u:Int)] h (λv N=>v=av ⟨[]⟩/\∃w,FB h0 k n u 0 w N):=by
 have U:=f.n24;have L:=Dk (aa ⟨k,0,none⟩) n c (u:Int) (λmz i v g=>∃w:Nat,v=(w:Int)/\mz=i/\FB h0 k n u i w g) (λv N=>v=av ⟨[]⟩/\∃w,FB h0 k n u 0 w N) (by
  intro mz i v;intros;rename_i g Q;obtain⟨w,rfl,rfl,f⟩:=Q;have R:=f.jn;have V:w<1000000000:=cD f.lt (show 10^mz<=10^9 from di (by omega) (by omega));refine az (λJ=>?_) (λJ=>?_)
  ·have J:=dT J;obtain⟨j,rfl⟩:∃j,mz=j+8:=⟨mz-8,by omega⟩
   refine⟨_,lV (b:=100000000) (by omega) (by omega),_,tP (b:=100000000) (by omega) (by omega) (by omega),?_⟩;rw[qS (n:=((w:Nat):Int)%((100000000:Nat):Int)) (by omega) (by omega)];refine⟨_,Hf (b:=10000) (by omega) (by omega) (by omega),_,lV (b:=10000) (by omega) (by omega),_,Hf (b:=100) (by omega) (by omega) (by omega),_,lV (b:=100) (by omega) (by omega),_,Hf (b:=100) (by omega) (by omega) (by omega),_,lV (b:=100) (by omega) (by omega),?_⟩;obtain⟨C,d,q,e,t,m,z,s,B,A,r,o,P⟩:=FB.pair (j:=j+6) (c:=c) (y:=((w:Nat):Int)%((100000000:Nat):Int)%((10000:Nat):Int)%((100:Nat):Int)) (i1:=ai ak (((j+8:Nat):Int)-1)) (i2:=ai ak (((j+8:Nat):Int)-2)) f (by omega) (by rw[cd (by omega) (by omega)];omega) (by rw[cd (by omega) (by omega)];omega);refine⟨C,d,q,e,t,m,z,s,B,A,r,o,?_⟩;obtain⟨C,d,q,e,t,m,z,s,B,A,r,o,H⟩:=FB.pair (j:=j+4) (c:=c) (y:=((w:Nat):Int)%((100000000:Nat):Int)%((10000:Nat):Int)/((100:Nat):Int)) (i1:=ai ak (((j+8:Nat):Int)-3)) (i2:=ai ak (((j+8:Nat):Int)-4)) P (by omega) (by rw[cd (by omega) (by omega)];omega) (by rw[cd (by omega) (by omega)];omega);refine⟨C,d,q,e,t,m,z,s,B,A,r,o,?_⟩;obtain⟨C,d,q,e,t,m,z,s,B,A,r,o,F⟩:=FB.pair (j:=j+2) (c:=c) (y:=((w:Nat):Int)%((100000000:Nat):Int)/((10000:Nat):Int)%((100:Nat):Int)) (i1:=ai ak (((j+8:Nat):Int)-5)) (i2:=ai ak (((j+8:Nat):Int)-6)) H (by omega) (by rw[cd (by omega) (by omega)];omega) (by rw[cd (by omega) (by omega)];omega);refine⟨C,d,q,e,t,m,z,s,B,A,r,o,?_⟩;obtain⟨C,d,q,e,t,m,z,s,B,A,r,o,E⟩:=FB.pair (j:=j) (c:=c) (y:=((w:Nat):Int)%((100000000:Nat):Int)/((10000:Nat):Int)/((100:Nat):Int)) (i1:=ai ak (((j+8:Nat):Int)-7)) (i2:=ai ak (((j+8:Nat):Int)-8)) F (by omega) (by rw[cd (by omega) (by omega)];omega) (by rw[cd (by omega) (by omega)];omega);refine⟨C,d,q,e,t,m,z,s,B,A,r,o,?_⟩;have M:ai ak (((j+8:Nat):Int)-8)=(j:Int):=by rw[cd (by omega) (by omega)];omega
   rw[M];exact iu j (by omega) ⟨w/100000000,by omega,rfl,by
    have:=E;simp only[Nat.div_div_eq_div_mul]at this;exact this⟩
  ·have J:=dF J;have S:w<100000000:=cD f.lt (show 10^mz<=10^8 from di (by omega) (by omega));rw[qS (n:=((w:Nat):Int)) (by omega) (by omega)];refine az (λI=>?_) (λI=>?_)
   ·have I:=dT I;obtain⟨j,rfl⟩:∃j,mz=j+4:=⟨mz-4,by omega⟩
    refine⟨_,lV (b:=10000) (by omega) (by omega),_,Hf (b:=10000) (by omega) (by omega) (by omega),_,Hf (b:=100) (by omega) (by omega) (by omega),_,lV (b:=100) (by omega) (by omega),?_⟩;obtain⟨C,d,q,e,t,m,z,s,B,A,r,o,P⟩:=FB.pair (j:=j+2) (c:=c) (y:=((w:Nat):Int)%((10000:Nat):Int)%((100:Nat):Int)) (i1:=ai ak (((j+4:Nat):Int)-1)) (i2:=ai ak (((j+4:Nat):Int)-2)) f (by omega) (by rw[cd (by omega) (by omega)];omega) (by rw[cd (by omega) (by omega)];omega);refine⟨C,d,q,e,t,m,z,s,B,A,r,o,?_⟩;obtain⟨C,d,q,e,t,m,z,s,B,A,r,o,H⟩:=FB.pair (j:=j) (c:=c) (y:=((w:Nat):Int)%((10000:Nat):Int)/((100:Nat):Int)) (i1:=ai ak (((j+4:Nat):Int)-3)) (i2:=ai ak (((j+4:Nat):Int)-4)) P (by omega) (by rw[cd (by omega) (by omega)];omega) (by rw[cd (by omega) (by omega)];omega);refine⟨C,d,q,e,t,m,z,s,B,A,r,o,?_⟩;have M:ai ak (((j+4:Nat):Int)-4)=(j:Int):=by rw[cd (by omega) (by omega)];omega
    rw[M];have T:=H.lt;refine az (λD=>?_) (λD=>?_)
    ·have D:=dT D;obtain⟨l,rfl⟩:∃l,j=l+2:=⟨j-2,by omega⟩
     refine⟨_,lV (b:=100) (by omega) (by omega),_,Hf (b:=100) (by omega) (by omega) (by omega),?_⟩;obtain⟨C,d,q,e,t,m,z,s,B,A,r,o,F⟩:=FB.pair (j:=l) (c:=c) (y:=((w:Nat):Int)/((10000:Nat):Int)%((100:Nat):Int)) (i1:=ai ak (((l+2:Nat):Int)-1)) (i2:=ai ak (((l+2:Nat):Int)-2)) H (by omega) (by rw[cd (by omega) (by omega)];omega) (by rw[cd (by omega) (by omega)];omega);refine⟨C,d,q,e,t,m,z,s,B,A,r,o,?_⟩;have O:ai ak (((l+2:Nat):Int)-2)=(l:Int):=by rw[cd (by omega) (by omega)];omega
     rw[O];refine az (λa=>?_) (λa=>?_)
     ·have a:=dT a;obtain rfl:l=1:=by omega
      have K:=F.lt;rw[qS (n:=48+_) (by omega) (by omega),vV (n:=48+_) (by omega) (by omega)];obtain⟨p,d,G,e,E⟩:=F.step (c:=c) (x:=48+((w:Nat):Int)/((10000:Nat):Int)/((100:Nat):Int)) (i:=0) (by omega) rfl;exact⟨p,d,G,e,rfl,_,E⟩
     ·have a:=dF a;obtain rfl:l=0:=by omega
      exact⟨rfl,_,F⟩
    ·have D:=dF D;refine az (λa=>?_) (λa=>?_)
     ·have a:=dT a;obtain rfl:j=1:=by omega
      rw[qS (n:=48+_) (by omega) (by omega),vV (n:=48+_) (by omega) (by omega)];obtain⟨p,d,G,e,E⟩:=H.step (c:=c) (x:=48+((w:Nat):Int)/((10000:Nat):Int)) (i:=0) (by omega) rfl;exact⟨p,d,G,e,rfl,_,E⟩
     ·have a:=dF a;obtain rfl:j=0:=by omega
      exact⟨rfl,_,H⟩
   ·have I:=dF I;refine az (λD=>?_) (λD=>?_)
    ·have D:=dT D;obtain⟨l,rfl⟩:∃l,mz=l+2:=⟨mz-2,by omega⟩
     refine⟨_,lV (b:=100) (by omega) (by omega),_,Hf (b:=100) (by omega) (by omega) (by omega),?_⟩;obtain⟨C,d,q,e,t,m,z,s,B,A,r,o,F⟩:=FB.pair (j:=l) (c:=c) (y:=((w:Nat):Int)%((100:Nat):Int)) (i1:=ai ak (((l+2:Nat):Int)-1)) (i2:=ai ak (((l+2:Nat):Int)-2)) f (by omega) (by rw[cd (by omega) (by omega)];omega) (by rw[cd (by omega) (by omega)];omega);refine⟨C,d,q,e,t,m,z,s,B,A,r,o,?_⟩;have O:ai ak (((l+2:Nat):Int)-2)=(l:Int):=by rw[cd (by omega) (by omega)];omega
     rw[O];have K:=F.lt;refine az (λa=>?_) (λa=>?_)
     ·have a:=dT a;obtain rfl:l=1:=by omega
      rw[qS (n:=48+_) (by omega) (by omega),vV (n:=48+_) (by omega) (by omega)];obtain⟨p,d,G,e,E⟩:=F.step (c:=c) (x:=48+((w:Nat):Int)/((100:Nat):Int)) (i:=0) (by omega) rfl;exact⟨p,d,G,e,rfl,_,E⟩
     ·have a:=dF a;obtain rfl:l=0:=by omega
      exact⟨rfl,_,F⟩
    ·have D:=dF D;have K:=f.lt;refine az (λa=>?_) (λa=>?_)
     ·have a:=dT a;obtain rfl:mz=1:=by omega
      rw[qS (n:=48+_) (by omega) (by omega),vV (n:=48+_) (by omega) (by omega)];obtain⟨p,d,G,e,E⟩:=f.step (c:=c) (x:=48+((w:Nat):Int)) (i:=0) (by omega) rfl;exact⟨p,d,G,e,rfl,_,E⟩
     ·have a:=dF a;obtain rfl:mz=0:=by omega
      exact⟨rfl,_,f⟩)
 exact XL _ n c _ h _ (L n ⟨u,rfl,rfl,f⟩)
end
variable{k:Nat}{b:Bool}{i:Nat}
noncomputable def Wu:eA:= .cells (aQ 24 (aC aK 0)) 321 0 af
theorem afE:cP aq 321=aa (Wu,m4):=by kernel_rfl
theorem afF:aq.underlying 321=aa (.array 24 5):=by kernel_rfl
theorem Ja{cs:List ag}(c:h.get k=aa (.cells cs 321 0 b)){n:Nat}(f:n<=24):dN aq 321 (pA k) none (aa (aE (n:Int))) none h=aa (sA k n 24):=by
 unfold dN;dsimp only;rw[afF];dsimp only[iY];rw[zz5,c];show(if 0<=((0:Nat):Int)/\((0:Nat):Int)<=(n:Int)/\(n:Int)<=((24:Nat):Int)/\24<fg then aa (ae (aa ⟨k,0+((0:Nat):Int).toNat*1,none⟩) ((n:Int)-((0:Nat):Int)).toNat (24-((0:Nat):Int).toNat))else none)=_;have a:24<fg:=by unfold fg;omega
 rw[iP ⟨by omega,by omega,by omega,a⟩];have d:((n:Int)-((0:Nat):Int)).toNat=n:=by omega
 have e:((0:Nat):Int).toNat=0:=rfl;rw[d,e]
theorem HD{c:Nat}{cs:List ag}(e:h.get k=aa (.cells cs i j b)){l:List UInt8}(d:(cs.drop n).take m=l.map uy)(a:l.length=m):AV aq 183 9 (gJ k n m c) h=aa (strOf l):=by
 unfold AV dW;dsimp only;rw[zQ,show aq.underlying 9=aa .string by kernel_rfl];dsimp only;rw[show aq.underlying 5=aa (.int aK) by kernel_rfl];dsimp only;rw[e];dsimp only;rw[d,iP (by rw[aH];exact a),tJ];rfl
theorem NH(p:n<1000000000){h:au}(t:za h)(w:Wf h):aX 284 [bA (n:Int),aE 10] h (λv q=>v=strOf (bn n)/\Ok h q):=by
 refine NG _ h _ (az (λ_=>?_) (λg=>by simp at g));refine az (λg=>?_) (λg=>?_)
 ·have g:=dT g;rw[cd (by omega) (by omega)];refine(ZK (by omega) h).mono ?_;rintro _ _ ⟨rfl,rfl⟩;exact⟨_,rfl,rfl,Ok.refl w⟩
 ·have g:=dF g;have b:=(Ok.refl w).push Wu;refine⟨_,afE,(Lw (by omega) p (t.ok b)).mono ?_⟩;rintro _ y ⟨r,d,rfl,u,i,c⟩;subst r;have l:(h.push Wu).get h.aD=aa (.cells (aQ 24 (aC aK 0)) 321 0 af):=by rw[au.cY,iP rfl];rfl
  refine⟨_,rfl,_,_,_,Ja l (n:=d+1) (by omega),?_⟩;have f:FB (h.push Wu) h.aD (d+1) n (d+1) n (h.push Wu):=⟨⟨_,l,by simp,by simp[Num.wid]⟩,by simp,c,aT _,by omega,MX.refl b.wf⟩
  refine(XM f).mono ?_;rintro _ s ⟨rfl,x,a⟩;obtain⟨cs,m,z,k⟩:=a.blk;rw[bO,sub_zero]at k;refine⟨rfl,_,_,_,Ja m (n:=d+1) (by omega),bn n,HD m ?_ ?_,rfl,?_⟩
  ·rw[bO,k,C3 c (.inr i)]
  ·rw[<-C3 c (.inr i),C4]
  ·refine⟨a.ok.wf,λj B o=>a.ok.sY j B (λe=>by have:=w _ _ o;omega) (b.ext _ _ o),bN b.nx a.ok.nx⟩
theorem Qp(a:n<1000000000){h:au}(t:za h)(w:Wf h):aX 262 [bA (n:Int),aE 10] h (λv b=>v=strOf (bn n)/\Ok h b):=by
 refine Qo _ h _ ((NH a t w).mono ?_);rintro _ c ⟨rfl,o⟩;exact⟨_,rfl,rfl,o⟩
noncomputable def vg:FD:=gU Tryz.f285 []
theorem Il(p:aJ)(h:au)(Q:VH)(n:xP (aY aq 301 (bw p) 0) λd=>xO (aS aq 299 h (bw d)) λc=>xB (ca aq .eql 299 (.pointer c) (bj none)) λb=>cq b (xG (fK aq mZ (ev SS.gl (uN [(bw p),undef,(bw p),(bw p),(bw d),(.pointer c),(ah b),(bw p),(bw p)] 11)) (S3 (oh [1,0] vg.body) 2) h) h λe t o=>aX 296 [e] o λm g=>yV m λq=>xG (fK aq mZ (ev SS.gl (uN [(bw p),undef,(bw p),(bw p),(bw d),(.pointer c),(ah b),(bw p),(bw p),e,q] 9)) (S3 (oh [1,0] vg.body) 4) g) g λf s a=>xP (aY aq 301 (bw p) 0) λj=>xU (bh aq 299 (bw j) f a) a λr i=>Q (av ⟨[]⟩) i) (qF xO 301 (bw p) 0 299 h λl=>xB (ca aq .neq 299 (.pointer l) (bw p)) λk=>cq k (False) (Q (av ⟨[]⟩) h))):aX 285 [(bw p)] h Q:=hH vg Tryz.func285 (bD n)
noncomputable def WY:FD:=gU Tryz.f263 []
theorem TI(p:aJ)(l:LB)(h:au)(Q:VH)(g:aX 285 [(bw p)] h λn b=>n=(av ⟨[]⟩)/\qM 301 (bw p) 1 183 b λi e k=>xE (cG aq 183 9 (ae i e k) (strOf l) b) b λj m f o a=>xP (aY aq 301 (bw p) 1) λd=>xU (bh aq 183 (bw d) (ae j m f) a) a λq c=>Q (av ⟨[(aE (l.length:Int)),.nilIface]⟩) c):aX 263 [(bw p),(strOf l)] h Q:=hH WY Tryz.func263 (bD g)
noncomputable def Da:FD:=gU Tryz.f265 []
theorem PS(p:aJ)(h:au)(Q:VH)(m:xP (aY aq 301 (bw p) 1) λf=>xL (aS aq 183 (room h 12) (bw f)) λk i l=>xG (fK aq mZ (ev SS.gl (uN [(bw p),undef,(strOf []),(bw p),(bw p),(bw f),(ae k i l)] 7)) (S3 (oh [1,0] Da.body) 4) (room h 12)) (room h 12) λn q e=>xP (aY aq 301 (bw p) 1) λd=>xL (aS aq 183 e (bw d)) λc a b=>xG (fK aq mZ (ev SS.gl [(bw p),undef,(strOf []),(bw p),(bw p),(bw f),(ae k i l),n,(bw p),(bw p),(bw d),(ae c a b),(iA a),undef]) (S3 (oh [1,0] Da.body) 10) e) e λg o j=>(aS aq 183 (room h 12) (bw d)=aa (ae c a b)/\oQ 4 (ae c a b) (ae c a b)=af)/\(X6 aq 183 (ae c a b) (room h 12)=aa (iA a)/\oQ 4 (iA a) (iA a)=af)/\Q g j):aX 265 [(bw p)] h Q:=hH Da Tryz.func265 (bD m)
noncomputable def acb:FD:=gU Tryz.f197 []
theorem Ym(x y:Int)(h:au)(Q:VH)(e:xI aw (ca aq .shr 240 (bA x) (bA 32)) λa=>xI aw (ca aq .shr 240 (bA y) (bA 32)) λc=>xI aw (ca aq .shr 240 (bA (ai aw (ai aw ((cZ (dr aw) x&&&cZ (dr aw) 4294967295).toNat:Int)*ai aw ((cZ (dr aw) y&&&cZ (dr aw) 4294967295).toNat:Int)))) (bA 32)) λb=>xI aw (ca aq .shr 240 (bA (ai aw (ai aw (a*ai aw ((cZ (dr aw) y&&&cZ (dr aw) 4294967295).toNat:Int))+b))) (bA 32)) λf=>xI aw (ca aq .shr 240 (bA (ai aw (ai aw ((cZ (dr aw) (ai aw (ai aw (a*ai aw ((cZ (dr aw) y&&&cZ (dr aw) 4294967295).toNat:Int))+b))&&&cZ (dr aw) 4294967295).toNat:Int)+ai aw (ai aw ((cZ (dr aw) x&&&cZ (dr aw) 4294967295).toNat:Int)*c)))) (bA 32)) λd=>Q (av ⟨[(bA (ai aw (ai aw (ai aw (a*c)+f)+d))),(bA (ai aw (x*y)))]⟩) h):aX 197 [(bA x),(bA y)] h Q:=hH acb Tryz.func197 (bD e)
variable{r:bm->ag}{q:aR}{T:aF}{v:ag}{c:List ag}{s:List UInt8}
theorem zU:aq.underlying 299=aa (.pointer 301):=by kernel_rfl
theorem Ey:aq.underlying 325=aa .unsafePointer:=by kernel_rfl
theorem aak:bZ aq 301=aa 2:=by kernel_rfl
theorem abg{x:bm}(p:q.op = .convert 299 325 x){h:au}{k:Nat}{a b:ag}{m:Bool}(g:r x=pA k)(o:h.get k=aa (.cells [a,b] 301 0 m)):fK aq mZ r q h=aa (pA k,.no):=by
 obtain⟨f,t,i,e,d,c⟩:=q;subst p;unfold fK;have l:eN aq r ⟨f,.convert 299 325 x,i,e,d,c⟩=none:=by
  show kX aq 299 325 (r x)=none;rw[g];unfold kX;rw[zU,Ey]
 have n:dW aq r ⟨f,.convert 299 325 x,i,e,d,c⟩ h=none:=by
  unfold dW;dsimp only;rw[zU,Ey,g]
 have j:dK aq r ⟨f,.convert 299 325 x,i,e,d,c⟩=none:=by
  unfold dK;dsimp only;rw[zU,Ey,g]
 rw[l];dsimp only;rw[n];dsimp only;rw[j];dsimp only;unfold ia;dsimp only;rw[zU,Ey,g];show(match h.get k with|some (.cells cs s 0 _)=>if 301=s/\bZ aq 301=aa cs.length/\0<cs.length then aa (bj (aa ⟨k,0,none⟩),ek.no)else none|_=>none)=_;rw[o];show(if 301=301/\bZ aq 301=aa [a,b].length/\0<[a,b].length then aa (bj (aa ⟨k,0,none⟩),ek.no)else none)=_;rw[iP ⟨rfl,aak,by simp⟩]
theorem TX{x:bm}(p:q.op = .convert 325 299 x){h:au}{k:Nat}{a b:ag}{m:Bool}(g:r x=pA k)(o:h.get k=aa (.cells [a,b] 301 0 m)):fK aq mZ r q h=aa (pA k,.no):=by
 obtain⟨f,t,i,e,d,c⟩:=q;subst p;unfold fK;have l:eN aq r ⟨f,.convert 325 299 x,i,e,d,c⟩=none:=by
  show kX aq 325 299 (r x)=none;rw[g];unfold kX;rw[zU,Ey]
 have n:dW aq r ⟨f,.convert 325 299 x,i,e,d,c⟩ h=none:=by
  unfold dW;dsimp only;rw[zU,Ey,g]
 have j:dK aq r ⟨f,.convert 325 299 x,i,e,d,c⟩=none:=by
  unfold dK;dsimp only;rw[zU,Ey,g]
 rw[l];dsimp only;rw[n];dsimp only;rw[j];dsimp only;unfold ia;dsimp only;rw[zU,Ey,g];show(match h.get k with|some (.cells cs s 0 _)=>if 301=s/\bZ aq 301=aa cs.length/\0<cs.length then aa (bj (aa ⟨k,0,none⟩),ek.no)else none|_=>none)=_;rw[o];show(if 301=301/\bZ aq 301=aa [a,b].length/\0<[a,b].length then aa (bj (aa ⟨k,0,none⟩),ek.no)else none)=_;rw[iP ⟨rfl,aak,by simp⟩]
def self(k:Nat):ag:= pA k
theorem aen(k:Nat):aY aq 301 (pA k) 0=aa (pA k):=by kernel_rfl
theorem abF(k:Nat):aY aq 301 (pA k) 1=aa (df k 1):=by kernel_rfl
theorem ld0{a b:ag}{c:Bool}(d:h.get k=aa (.cells [a,b] 301 0 c)):aS aq 299 h (pA k)=aa a:=by
 unfold aS;rw[zU];dsimp only;rw[d];dsimp only;rw[show Go.Ab.isAgg aq 299=aj by kernel_rfl];rfl
theorem ld1{a b:ag}{c:Bool}(d:h.get k=aa (.cells [a,b] 301 0 c)):aS aq 183 h (df k 1)=aa b:=by
 unfold aS;rw[zQ];dsimp only;rw[d];dsimp only;rw[show Go.Ab.isAgg aq 183=aj by kernel_rfl];rfl
theorem st0{a b x:ag}(d:h.get k=aa (.cells [a,b] 301 0 af))(c:eZ x=af)(e:x.cells = #[x]):bh aq 299 (pA k) x h=aa (undef,.set k (.cells [x,b] 301 0 af)):=by
 show(if bZ aq 299=aa x.cells.size then(storeAt h k 0 x.cells.toList).map λu=>(undef,u)else none)=_;rw[e,show bZ aq 299=aa 1 by kernel_rfl,iP (show aa 1=aa #[x].size from rfl)];unfold storeAt;rw[d];dsimp only;rw[iP ⟨by simp,by simp[c]⟩];rfl
theorem st1{a b x:ag}(d:h.get k=aa (.cells [a,b] 301 0 af))(c:eZ x=af)(e:x.cells = #[x]):bh aq 183 (df k 1) x h=aa (undef,.set k (.cells [a,x] 301 0 af)):=by
 show(if bZ aq 183=aa x.cells.size then(storeAt h k 1 x.cells.toList).map λu=>(undef,u)else none)=_;rw[e,show bZ aq 183=aa 1 by kernel_rfl,iP (show aa 1=aa #[x].size from rfl)];unfold storeAt;rw[d];dsimp only;rw[iP ⟨by simp,by simp[c]⟩];rfl
theorem KU{a b:ag}(c:h.get k=aa (.cells [a,b] 301 0 af))(f:a=bj none\/a=self k):
  aX 285 [self k] h (λv d=>v=av ⟨[]⟩/\d.get k=aa (.cells [self k,b] 301 0 af)/\(∀j,j≠k->d.get j=h.get j)/\d.aD=h.aD):=by
 refine Il ⟨k,0,none⟩ h _ ⟨_,aen k,?_⟩;rcases f with rfl|rfl
 ·refine⟨_,ld0 c,af,by kernel_rfl,?_⟩;refine az (λ_=>?_) (λg=>by cases g);refine⟨_,_,abg (k:=k) (x:= .tmp 8) (by kernel_rfl) (by kernel_rfl) c,K6 (p:=qy) (v:=self k) (by kernel_rfl) (by kernel_rfl) (λ_=>rfl) ⟨_,rfl,_,_,TX (k:=k) (x:= .tmp 10) (by kernel_rfl) (by kernel_rfl) c,_,aen k,_,st0 c rfl rfl,rfl,?_,?_,rfl⟩⟩
  ·show(h.set k _).get k=_;rw[au.cE,iP rfl];rfl
  ·intro j i;show(h.set k _).get j=_;rw[au.cE,iN i]
 ·refine⟨_,ld0 c,aj,by kernel_rfl,?_⟩;refine az (λg=>by cases g) (λ_=>?_);have e:ca aq .neq 299 (self k) (self k)=aa (ah aj):=by
   show((vn aq 299 (pA k) (pA k)).map λb=>ah !b)=_;unfold vn;dsimp only;rw[zU];dsimp only;rw[iP ⟨rfl,by rw[aak];rfl⟩];rfl
  refine⟨_,aen k,_,ld0 c,aj,e,az (λg=>by cases g) (λ_=>⟨rfl,c,λ_ _=>rfl,rfl⟩)⟩
def Bd(b h:au)(k:Nat)(l:List UInt8):Prop:=∃a v,h.get k=aa (.cells [a,v] 301 0 af)/\(a=bj none\/a=self k)/\PL b h 5 v (l.map uy)/\b.aD<=k
theorem rw5:fI aq 5=aa ((aq.info? 5).getD default):=by kernel_rfl
theorem ahZ:((aq.info? 5).getD default).size=1:=by kernel_rfl
theorem ahY:((aq.info? 5).getD default).bytes=1:=by kernel_rfl
theorem tl9:eI aq 9=af:=by kernel_rfl
theorem ae0(h:au)(l:List UInt8):gZ h 1 (strOf l)=aa (l.map uy,(l.map uy).length):=by
 show(if 1=1 then aa (l.map (λb=>aC aK b.toNat),l.length)else none)=_;rw[iP rfl,aH];rfl
theorem Sc:∀l:List UInt8,(l.map uy).all eZ=af
 |[]=>rfl
 |c::l=>by rw[eK,ep,Sc l];rfl
theorem LH{i:au}(o:PL g h T v c)(f:∀j B,h.get j=aa B->(∃cs d,B = .cells cs T 1 d)->i.get j=aa B):PL g i T v c:=by
 rcases o with o|⟨k,b,e,a⟩
 ·exact .inl o
 ·exact .inr ⟨k,b,e,f _ _ a ⟨_,_,rfl⟩⟩
theorem Db{l:List UInt8}(u:Wf g)(q:Ok g h)(b:Bd g h k l)(T:l.length+s.length<=1000000):
  aX 263 [self k,strOf s] h (λv G=>v=av ⟨[aE (s.length:Int),.nilIface]⟩/\Ok g G/\Bd g G k (l++s)):=by
 obtain⟨a,v,y,R,o,D⟩:=b;refine TI ⟨k,0,none⟩ s h _ ((KU y R).mono ?_);rintro _ C ⟨rfl,A,z,F⟩;have H:Ok g C:=by
  refine⟨λj B d=>?_,λj B d=>?_,by rw[F];exact q.nx⟩
  ·rw[F];by_cases e:j=k
   ·rw[e];exact q.wf _ _ y
   ·rw[z j e]at d;exact q.wf _ _ d
  ·have:=u _ _ d;rw[z j (by omega)];exact q.ext _ _ d
 have t:PL g C 5 v (l.map uy):=LH o λj B d x=>by
  obtain⟨cs,P,rfl⟩:=x;by_cases e:j=k
  ·subst e;rw[y]at d;injection d with d;injection d;omega
  ·rw[z j e];exact d
 have M:∃a n c,v=ae a n c:=by
  rcases t with⟨rfl,_⟩|⟨_,rfl,_⟩<;>exact⟨_,_,_,rfl⟩
 obtain⟨Q,L,S,rfl⟩:=M;obtain⟨I,K,E,f,N,J,r,w⟩:=t.aaN zQ rw5 ahZ tl9 u H (ae0 C s) (Sc s) (by rw[ahY,aH,aH];omega) (by rw[aH,aH];omega);have m:(f.app C).get k=aa (.cells [self k,ae Q L S] 301 0 af):=w k _ A (by
  intro o n c e;rcases t with⟨i,_⟩|⟨O,i,_,p⟩
  ·rw[i]at e;cases e
  ·rw[i]at e;injection e with e
   injection e with e
   injection e with e
   subst e;rw[A]at p;injection p with p;injection p;omega)
 refine⟨rfl,_,abF k,_,_,_,ld1 A,I,K,E,f,N,_,abF k,_,st1 m ?_ ?_,rfl,?_,?_⟩
 ·rcases J with⟨i,_⟩|⟨O,i,_,p⟩<;>rw[i]<;>rfl
 ·rfl
 ·exact r.set _ D (r.wf _ _ m) u
 ·refine⟨self k,ae I K E,?_,.inr rfl,?_,D⟩
  ·show((f.app C).set k _).get k=_;rw[au.cE,iP rfl]
  ·rw[bK];refine LH J λj B d x=>?_;obtain⟨cs,P,rfl⟩:=x;show((f.app C).set k _).get j=_;rw[au.cE,iN]
   ·exact d
   intro e;subst e;rw[m]at d;injection d with d;injection d;omega
theorem agK{x:bm}{ts:Array aF}(f:q.op = .call ⟨.builtin .unsafeSliceData,#[x],ts⟩){h:au}{a:aJ}{n c:Nat}(e:r x=ae (aa a) n c)(g:0<dw c):fK aq mZ r q h=aa (bw a,.no):=by
 obtain⟨j,l,k,i,d,b⟩:=q;subst f;show(match [x].map r with
  |[ae none _ _]=>aa (bj none,ek.no)
  |[ae (aa a) _ c]=>if 0<dw c then aa (bj (aa a),ek.no)else none
  |_=>none)=_
 rw[eK,List.map_nil,e];show(if 0<dw c then aa (bj (aa a),ek.no)else none)=_;rw[iP g]
theorem ahb:aq.underlying 318=aa (.pointer 5):=by kernel_rfl
theorem acN{x y:bm}{t2:aF}(g:q.op = .call ⟨.builtin .unsafeString,#[x,y],#[318,t2]⟩){h:au}{k:Nat}{l:List UInt8}(d:r x=pA k)(o:r y=aE (l.length:Int))(f:h.get k=aa (.cells (l.map uy) 5 1 af))(j:l≠[])(u:l.length<9223372036854775807):fK aq mZ r q h=aa (strOf l,.set k (.cells (l.map uy) 5 1 aj)):=by
 obtain⟨s,v,t,p,c,b⟩:=q;subst g;show(match [x,y].map r,(#[318,t2]:Array aF)[0]? with
  |[bj none,aC _ 0],aa _=>aa (strOf [],ek.no)
  | [bj (aa ⟨k,i,none⟩),aC _ n],aa m=>(match h.get k,aq.underlying m with
   | some (.cells cs e 1 af),aa (.pointer a)=>
    if e=a/\bZ aq e=aa 1/\0<n/\n<9223372036854775807/\((cs.drop i).take n.toNat).length=n.toNat then
     (match bytesOf ((cs.drop i).take n.toNat)with
     |some l=>aa (strOf l,ek.set k (.cells cs e 1 aj))
     |none=>none)
    else none
   |_,_=>none)
  |_,_=>none)=_
 rw[eK,eK,List.map_nil,d,o];show(match h.get k,aq.underlying 318 with
   | some (.cells cs e 1 af),aa (.pointer a)=>
    if e=a/\bZ aq e=aa 1/\0<(l.length:Int)/\(l.length:Int)<9223372036854775807/\((cs.drop 0).take (l.length:Int).toNat).length=(l.length:Int).toNat then
     (match bytesOf ((cs.drop 0).take (l.length:Int).toNat)with
     |some l=>aa (strOf l,ek.set k (.cells cs e 1 aj))
     |none=>none)
    else none
   |_,_=>none)=_
 rw[f,ahb];have w:=fE.2 j;show(if 5=5/\bZ aq 5=aa 1/\0<(l.length:Int)/\(l.length:Int)<9223372036854775807/\(((l.map uy).drop 0).take (l.length:Int).toNat).length=(l.length:Int).toNat then
     (match bytesOf (((l.map uy).drop 0).take (l.length:Int).toNat)with
     |some l'=>aa (strOf l',ek.set k (.cells (l.map uy) 5 1 aj))
     |none=>none)
    else none)=_
 rw[bc,bO,bC (by simp),iP ⟨rfl,zz5,by omega,by omega,by simp⟩,tJ]
theorem PU{l:List UInt8}(m:Wf g)(j:Ok g h)(b:Bd g h k l)(e:l≠[])(z:l.length<=1000000):
  aX 265 [self k] h (λv r=>v=strOf l/\Ok g r):=by
 obtain⟨a,v,s,A,o,w⟩:=b;rcases o with⟨_,p⟩|⟨f,rfl,q,i⟩
 ·exact absurd (List.map_eq_nil_iff.1 p) e
 have d:(room h 12).get k=_:=s;have t:=fE.2 e;have u:dw (fg+(l.map uy).length)=l.length:=by unfold dw;rw[iP (by omega),aH];omega
 rw[aH]at*;refine PS ⟨k,0,none⟩ h _ ⟨_,abF k,_,_,_,ld1 d,_,_,agK (x:= .tmp 6) (ts:= #[183]) (a:=⟨f,0,none⟩) (n:=l.length) (c:=fg+l.length) (by kernel_rfl) (by kernel_rfl) (by rw[u];exact t),_,abF k,_,_,_,ld1 d,_,_,acN (x:= .tmp 7) (y:= .tmp 12) (k:=f) (l:=l) (t2:=3) (by kernel_rfl) (by kernel_rfl) (by kernel_rfl) i e (by omega),⟨ld1 d,by simp[oQ]⟩,⟨rfl,by simp[oQ]⟩,rfl,?_⟩;exact(j.room 12).set _ q ((j.room 12).wf _ _ i) m
theorem ahL(m:Nat)(h:au):dP aq SS.gl SS.pr (m+8) 264 [strOf [48],aE 0] h=aa (strOf [],h):=by kernel_rfl
theorem ahM(m:Nat)(h:au):dP aq SS.gl SS.pr (m+8) 264 [strOf [48],aE 1] h=aa (strOf [48],h):=by kernel_rfl
theorem ahN(m:Nat)(h:au):dP aq SS.gl SS.pr (m+8) 264 [strOf [48],aE 2] h=aa (strOf [48,48],h):=by kernel_rfl
theorem ahO(m:Nat)(h:au):dP aq SS.gl SS.pr (m+8) 264 [strOf [48],aE 3] h=aa (strOf [48,48,48],h):=by kernel_rfl
theorem ahP(m:Nat)(h:au):dP aq SS.gl SS.pr (m+8) 264 [strOf [48],aE 4] h=aa (strOf [48,48,48,48],h):=by kernel_rfl
theorem ahQ(m:Nat)(h:au):dP aq SS.gl SS.pr (m+8) 264 [strOf [48],aE 5] h=aa (strOf [48,48,48,48,48],h):=by kernel_rfl
theorem ahR(m:Nat)(h:au):dP aq SS.gl SS.pr (m+8) 264 [strOf [48],aE 6] h=aa (strOf [48,48,48,48,48,48],h):=by kernel_rfl
theorem ahS(m:Nat)(h:au):dP aq SS.gl SS.pr (m+8) 264 [strOf [48],aE 7] h=aa (strOf [48,48,48,48,48,48,48],h):=by kernel_rfl
theorem ahT(m:Nat)(h:au):dP aq SS.gl SS.pr (m+8) 264 [strOf [48],aE 8] h=aa (strOf [48,48,48,48,48,48,48,48],h):=by kernel_rfl
theorem VE(d:n<=8)(h:au):aX 264 [strOf [48],aE (n:Int)] h (λv b=>v=strOf (aQ n 48)/\b=h):=by
 have a:∀(z:Int)(l:List UInt8),(∀m,dP aq SS.gl SS.pr (m+8) 264 [strOf [48],aE z] h=aa (strOf l,h))->aX 264 [strOf [48],aE z] h (λv b=>v=strOf l/\b=h):=λz l c=>
  ⟨_,_,⟨8,λN e=>by obtain⟨m,rfl⟩:∃m,N=m+8:=⟨N-8,by omega⟩;exact c m⟩,rfl,rfl⟩
 have:n=0\/n=1\/n=2\/n=3\/n=4\/n=5\/n=6\/n=7\/n=8:=by omega
 rcases this with rfl|rfl|rfl|rfl|rfl|rfl|rfl|rfl|rfl
 ·exact a 0 _ λm=>ahL m h
 ·exact a 1 _ λm=>ahM m h
 ·exact a 2 _ λm=>ahN m h
 ·exact a 3 _ λm=>ahO m h
 ·exact a 4 _ λm=>ahP m h
 ·exact a 5 _ λm=>ahQ m h
 ·exact a 6 _ λm=>ahR m h
 ·exact a 7 _ λm=>ahS m h
 ·exact a 8 _ λm=>ahT m h
noncomputable def uG:FD:=gU Tryz.f239 [((pq 151),[0,3,10,11])]
abbrev rM(a:OA)(n c:Nat)(p:aJ)(b:Int)(i:Nat):LV:=[(ae a n c),(bw p),(aE b),(iA i)]
theorem QL(a:OA)(n c:Nat)(h:au)(Q:VH)(d:cq (((n:Int)==0)) (Q (strOf [48]) h) (xN (cP aq 301) h λe b=>cw uG (pq 151) [(ae a n c),(pA (h.aD)),(iA n),(aE 0)] b (eu uG (pq 87) Q))):aX 239 [(ae a n c)] h Q:=hH uG Tryz.func239 (bD d)
theorem Az(a:OA)(n c:Nat)(p:aJ)(b:Int)(d:Nat->Nat->au->Prop)(Q:VH)(step:∀(mz:Nat) (i:Nat) (v:Nat->ag) (h:au),d mz i h->(λ(q:au->Prop)=>cq (decide ((i:Int)<b)) (qX (xI aw) 260 (ae a n c) (aE (ai ak (ai ak ((n:Int)-1)-(i:Int)))) 240 h λH=>aX 262 [(bA H),(aE 10)] h λG z=>yS G λe=>cq (decide ((i:Int)>0)) (aX 264 [(strOf [48]),(aE (ai ak (9-(e.length:Int))))] z λD E=>yS D λs=>aX 263 [(bw p),(strOf s)] E λl u=>∃m:Int,∃j:ag,l=(av ⟨[(aE m),j]⟩)/\aX 263 [(bw p),(strOf e)] u λg r=>∃A:Int,∃k:ag,g=(av ⟨[(aE A),k]⟩)/\q r) (aX 263 [(bw p),(strOf e)] z λy C=>∃x:Int,∃B:ag,y=(av ⟨[(aE x),B]⟩)/\q C)) (aX 265 [(bw p)] h λt o=>yS t λw=>Q (strOf w) o)) (λF=>ct (jg (rM a n c p b) d) mz [(ae a n c),(bw p),(aE b),(aE (ai ak ((i:Int)+1)))] F))(mz:Nat){i:Nat}{h:au}(f:d mz i h):cw uG (pq 151) (rM a n c p b i) h (eu uG (pq 87) Q):=
 gm (rM a n c p b) d (λmz i v h f=>bD (step mz i v h f)) mz f
noncomputable def xk:FD:=gU Tryz.f204 [((pq 71),[6,7])]
abbrev pU  (a:OA) (n c:Nat) (b:OA) (k d:Nat):LV:=[(ae a n c),(ae b k d)]
theorem UJ(l m:LB)(h:au)(Q:VH)(s:aX 203 [(strOf l)] h λt e=>yB t λp=>cq (!p) (Q (av ⟨[(strOf []),(aE 1)]⟩) e) (aX 203 [(strOf m)] e λo j=>yB o λq=>cq (!q) (Q (av ⟨[(strOf []),(aE 1)]⟩) j) (aX 208 [(strOf l)] j λk r=>yL k λn d i=>aX 208 [(strOf m)] r λa g=>yL a λb c f=>cw xk (pq 71) (pU n d i b c f) g (eu xk (pq 39) Q)))):aX 204 [(strOf l),(strOf m)] h Q:=hH xk Tryz.func204 (bD s)
theorem Cc(l m:LB)  (e:Nat->OA->Nat->Nat->OA->Nat->Nat->au->Prop) (Q:VH) (step:∀(mz:Nat)(a:OA)(n c:Nat)(b:OA)(k d:Nat)(s:Nat->ag)(h:au),e mz a n c b k d h->cq (decide ((k:Int)>0)) (aX 238 [(ae a n c),(ae b k d)] h λw q=>∃(u:OA)(v o:Nat),∃(f:OA)(g i:Nat),w=(av ⟨[(ae u v o),(ae f g i)]⟩)/\ct (LA6 pU e) mz [(ae b k d),(ae f g i)] q) (aX 239 [(ae a n c)] h λr t=>yS r λp=>Q (av ⟨[(strOf p),(aE 0)]⟩) t)) (mz:Nat) {a:OA} {n c:Nat} {b:OA} {k d:Nat} {h:au} (j:e mz a n c b k d h):cw xk (pq 71) (pU  a n c b k d) h (eu xk (pq 39) Q):=
 Zn pU e (λmz a n c b k d s h j=>bD (step mz a n c b k d s h j)) mz j
noncomputable def afo:eA:= .cells [bj none,nA] 301 0 af
theorem afD:cP aq 301=aa (afo,m4):=by kernel_rfl
theorem afI{m:au}{l:List UInt8}(b:Bd g h k l)(o:Ok h m):Bd g m k l:=by
 obtain⟨a,v,d,e,c,f⟩:=b;exact⟨a,v,o.ext _ _ d,e,LH c λj B i _=>o.ext _ _ i,f⟩
theorem Ay{c:Nat}(A:Rd h 240 (ae a n c) (bl m))(R:(cO BB m).length<=10000)(t:za h)(w:Wf h):
  aX 239 [ae a n c] h (λv D=>v=strOf (bn m)/\Ok h D):=by
 have y:n=(cO BB m).length:=by have:=A.len;rwa[aH]at this
 refine QL a n c h _ (az (λg=>?_) (λg=>?_))
 ·have g:(n:Int)=0:=by simpa using g
  have X:(cO BB m).length=0:=by omega
  have:m=0:=by have:=(lL kJ).1 (bE X);omega
  subst this;refine⟨?_,Ok.refl w⟩;rw[gO (by omega)];rfl
 ·have g:¬(n:Int)=0:=by simpa using g
  have V:0<m:=by
   rcases dv m with h|h
   ·subst h;rw[(lL kJ).2 rfl]at y;simp at y;omega
   ·exact h
  have F:=I1 kJ V;have I:=fU kJ m;have K:=eP kJ m;have A:Rd h 240 (ae a n c) ((cO BB m).map uv):=A;generalize hx:cO BB m=x at*;have L:=Az a n c ⟨h.aD,0,none⟩ (n:Int) (λmz i g=>i<=n/\mz=n-i/\Ok h g/\∃l,Bd h g h.aD l/\l.length<=9*i/\(i=0->l=[])/\(0<i->0<Num.bv BB (x.drop (n-i))/\l=bn (Num.bv BB (x.drop (n-i))))) (λv D=>v=strOf (bn m)/\Ok h D) (by
   intro mz i;intros;rename_i g W;obtain⟨h1,rfl,s,l,N,x2,Y,P⟩:=W;refine az (λq=>?_) (λq=>?_)
   ·have q:=dT q;have S:ai ak (ai ak ((n:Int)-1)-(i:Int))=((n-1-i:Nat):Int):=by
     rw[cd (n:=(n:Int)-1) (by omega) (by omega),cd (by omega) (by omega)];omega
    obtain⟨p,Z,O⟩:=Jb (A.ok s) (i:=((n-1-i:Nat):Int)) (by omega) (by rw[<-y];omega);rw[S];rw[bc]at O;have Q:x.getD (n-1-i) 0<BB:=cV (by decide) I _;have f:Num.bv BB (x.drop (n-1-i))=x.getD (n-1-i) 0+BB*Num.bv BB (x.drop (n-i)):=by
     rw[j6,show n-1-i+1=n-i by omega]
    have e5:ai ak ((i:Int)+1)=((i+1:Nat):Int):=by rw[cd (by omega) (by omega)];omega
    rw[e5];have u:i=0->0<x.getD (n-1-i) 0:=λe=>by subst e;rw[y];exact F
    generalize x.getD (n-1-i) 0=b at*;have o:b<1000000000:=Q;have x1:=Ig o;refine⟨p,Z,_,O,(Qp o (t.ok s) s.wf).mono ?_⟩;rintro _ h5 ⟨rfl,j⟩;have C:=afI N j;have j:=s.trans j;refine⟨_,rfl,az (λr=>?_) (λr=>?_)⟩
    ·have r:=dT r;obtain⟨H,z⟩:=P (by omega);have U:ai ak (9-((bn b).length:Int))=((9-(bn b).length:Nat):Int):=by rw[cd (by omega) (by omega)];omega
     rw[U];have T:=rJ b;refine(VE (by omega) h5).mono ?_;rintro _ h8 ⟨rfl,rfl⟩;refine⟨_,rfl,(Db w j C (by rw[bX];omega)).mono ?_⟩;rintro _ x0 ⟨rfl,E,G⟩;refine⟨_,_,rfl,(Db w E G (by rw[bF,bX];omega)).mono ?_⟩;rintro _ B ⟨rfl,d,k⟩;refine⟨_,_,rfl,fC (n-(i+1)) (by omega) ⟨by omega,rfl,d,_,k,?_,λh=>by omega,λ_=>?_⟩⟩
     ·rw[bF,bF,bX];omega
     ·rw[show n-(i+1)=n-1-i by omega,f];refine⟨Nat.add_pos_right _ (mul_pos (by decide) H),?_⟩;have:=Ie H o;rw[z];exact this.symm
    ·have r:=dF r;obtain rfl:i=0:=by omega
     obtain rfl:=Y rfl;refine(Db w j C (by rw[List.length_nil];omega)).mono ?_;rintro _ B ⟨rfl,d,k⟩;refine⟨_,_,rfl,fC (n-1) (by omega) ⟨by omega,rfl,d,_,k,?_,λh=>by omega,λ_=>?_⟩⟩
     ·rw[dL];omega
     ·have M:Num.bv BB (x.drop n)=0:=by rw[gT (by omega)];rfl
      rw[show n-1-0=n-1 by omega,show n-0=n by omega,M,hZ,eR]at f;rw[bJ,f,dL];refine⟨?_,rfl⟩;exact u rfl
   ·have q:=dF q;obtain rfl:i=n:=by omega
    obtain⟨H,z⟩:=P (by omega);rw[Nat.sub_self,bO,K]at z;subst z;refine(PU w s N (Ad m) (by omega)).mono ?_;rintro _ B ⟨rfl,d⟩;exact⟨_,rfl,rfl,d⟩)
  have J:=(Ok.refl w).push afo;refine⟨_,afD,L n (i:=0) ⟨by omega,rfl,J,[],⟨_,_,?_,.inl rfl,.inl ⟨rfl,rfl⟩,aT _⟩,by simp,λ_=>rfl,λh=>by omega⟩⟩;rw[au.cY,iP rfl];rfl
theorem aeF(h:k<=9*m):10^k<=BB^m:=by
 show 10^k<=(10^9)^m;rw[<-Nat.pow_mul];exact di (by decide) h
theorem tT(h:n<10^1000):(cO BB n).length<=112:=by
 refine pD kJ (cD h (aeF (k:=1000) (m:=112) (by decide)))
def K7(h:au)(X Y:Nat)(mz:Nat)(a:Option aJ)(n c:Nat)(b:Option aJ)(k d:Nat)(g:au):Prop:=∃p:Nat,Rd g 240 (ae a n c) (bl p)/\Rd g 240 (ae b k d) (bl mz)/\(cO BB p).length<=112/\(cO BB mz).length<=112/\Nat.gcd p mz=Nat.gcd X Y/\Ok h g
theorem XP{mz:Nat}{c:Nat}{b:Option aJ}(t:za h)(M:K7 h n m mz a i c b k j g){K:Nat->Option aJ->Nat->Nat->Option aJ->Nat->Nat->au->Prop}{Q:VH}
  (I:∀(s:Option aJ)(q r:Nat)(f:Option aJ)(d o w:Nat)(g:au),w<mz->K7 h n m w b k j f d o g->K w s q r f d o g):
  (0<k->aX 238 [ae a i c,ae b k j] g (λv B=>∃(s:Option aJ)(q r:Nat)(f:Option aJ)(d o w:Nat),v=av ⟨[ae s q r,ae f d o]⟩/\K w s q r f d o B))/\
  (k=0->aX 239 [ae a i c] g (λv B=>v=strOf (bn (Nat.gcd n m))/\Ok h B)):=by
 obtain⟨p,F,z,E,A,D,u⟩:=M;have C:k=(cO BB mz).length:=by have:=z.len;rwa[aH]at this
 constructor
 ·intro x;have l:0<mz:=by
   rcases dv mz with e|e
   ·subst e;rw[(lL kJ).2 rfl]at C;simp at C;omega
   ·exact e
  refine(Lp F z l (bN E (by omega)) (bN A (by omega)) u.wf).mono ?_;rintro _ H ⟨s,q,r,f,d,o,rfl,N,J,y⟩;refine⟨s,q,r,f,d,o,p%mz,rfl,I s q r f d o (p%mz) H (dJ _ l) ⟨mz,z.ok y,J,A,?_,?_,u.trans y⟩⟩
  ·exact bN (Nat.le_of_not_lt λh=>by have L:=pE kJ h;have x:=dJ p l;exact absurd L (Nat.not_lt.2 (le_of_lt x))) A
  ·rw[<-D,Nat.gcd_comm mz,<-Nat.gcd_rec,Nat.gcd_comm]
 ·intro x;have l:mz=0:=(lL kJ).1 (bE (by rw[<-C,x]));subst l;rw[Nat.gcd_zero_right]at D;subst D;refine(Ay F (bN E (by omega)) (t.ok u) u.wf).mono ?_;rintro _ O ⟨rfl,G⟩;exact⟨rfl,u.trans G⟩
theorem UK(a b:List UInt8){h:au}(t:za h)(w:Wf h):aX 204 [strOf a,strOf b] h (λv u=>v=ET a b/\Ok h u):=by
 refine UJ a b h _ ((iw a h).mono ?_);rintro _ A ⟨rfl,y⟩;obtain rfl:h=A:=y.symm;refine⟨_,rfl,az (λg=>?_) (λg=>?_)⟩
 ·have g:Num.valid a=aj:=by simpa using g
  refine⟨?_,Ok.refl w⟩;unfold ET;rw[iN (λe=>by rw[e.1]at g;cases g)];rfl
 have g:Num.valid a=af:=by simpa using g
 refine(iw b h).mono ?_;rintro _ A ⟨rfl,y⟩;obtain rfl:h=A:=y.symm;refine⟨_,rfl,az (λf=>?_) (λf=>?_)⟩
 ·have f:Num.valid b=aj:=by simpa using f
  refine⟨?_,Ok.refl w⟩;unfold ET;rw[iN (λe=>by rw[e.2]at f;cases f)];rfl
 have f:Num.valid b=af:=by simpa using f
 obtain⟨X,T,D,F⟩:=gP g;obtain⟨Y,U,C,I⟩:=gP f;have H:=(lG.1 g)
 have J:=(lG.1 f)
 have R:=tT D;have N:=tT C;clear D C;refine(vv a H.1.2.1 (bN H.2 (by omega)) h w).mono ?_;rintro _ s ⟨z,r,x,rfl,B,p⟩;refine⟨_,_,_,rfl,(vv b J.1.2.1 (bN J.2 (by omega)) s p.wf).mono ?_⟩;rintro _ i ⟨m,l,o,rfl,E,q⟩;refine⟨_,_,_,rfl,?_⟩;have P:ET a b=H4 (bn (Nat.gcd X Y)) 0:=by unfold ET;rw[iP ⟨g,f⟩,F,I]
 rw[P];rw[F]at B;rw[I]at E;refine Cc a b (K7 h X Y) (λv u=>v=H4 (bn (Nat.gcd X Y)) 0/\Ok h u) (λmz a n c b k d=>?_) Y ⟨X,B.rd.ok q,E.rd,R,N,rfl,p.trans q⟩;intros;rename_i g O;have S:=XP t O (K:=λj z r x m l o g=>j<mz/\K7 h X Y j b k d m l o g) (λz r x m l o j g s i=>⟨s,i⟩) (Q:=λ_ _=>True);refine az (λi=>?_) (λi=>?_)
 ·have i:=dT i;refine(S.1 (by omega)).mono ?_;rintro _ V ⟨z,r,x,m,l,o,j,rfl,L,M⟩;exact⟨_,_,_,_,_,_,rfl,Sz j L M⟩
 ·have i:=dF i;refine(S.2 (by omega)).mono ?_;rintro _ W ⟨rfl,G⟩;exact⟨_,rfl,rfl,G⟩
noncomputable def aco:FD:=gU Tryz.f267 []
theorem YO(x y z:Int)(h:au)(Q:VH)(c:xI aw (ca aq .rem 240 (bA (ai aw (ai aw (x+y)+z))) (bA 1000000000)) λa=>xI aw (ca aq .quo 240 (bA (ai aw (ai aw (x+y)+z))) (bA 1000000000)) λb=>Q (av ⟨[(bA a),(bA b)]⟩) h):aX 267 [(bA x),(bA y),(bA z)] h Q:=hH aco Tryz.func267 (bD c)
noncomputable def Yj:FD:=gU Tryz.f269 []
theorem Uw(x y z:Int)(h:au)(Q:VH)(c:xI aw (ca aq .rem 240 (bA (ai aw (ai aw (ai aw (x+1000000000)-y)-z))) (bA 1000000000)) λa=>xI aw (ca aq .quo 240 (bA (ai aw (ai aw (ai aw (x+1000000000)-y)-z))) (bA 1000000000)) λb=>Q (av ⟨[(bA a),(bA (ai aw (1-b)))]⟩) h):aX 269 [(bA x),(bA y),(bA z)] h Q:=hH Yj Tryz.func269 (bD c)
noncomputable def sV:FD:=gU Tryz.f266 [((pq 151),[0,1,2,7,8,18,19])]
abbrev nO(a:OA)(n c:Nat)(b:OA)(m d:Nat)(e:Int)(i:Nat)(cy:Int)(r:OA)(f g:Nat):LV:=[(ae a n c),(ae b m d),(aN (.func 267) ⟨[]⟩ ⟨[]⟩),(ae r f g),(bA cy),(aE e),(iA i)]
theorem Nm(a:OA)(n c:Nat)(b:OA)(m d:Nat)(h:au)(Q:VH)(f:xI ak (ud af [(iA n),(iA m)]) λe=>cw sV (pq 151) (nO a n c b m d (ai ak (e+1)) 0 0 none 0 0) h (eu sV (pq 87) Q)):aX 266 [(ae a n c),(ae b m d),(aN (.func 267) ⟨[]⟩ ⟨[]⟩)] h Q:=hH sV Tryz.func266 (bD f)
theorem zc(a:OA)(n c:Nat)(b:OA)(m d:Nat)(g:Int)(j:Nat->Nat->Int->OA->Nat->Nat->au->Prop)(Q:VH)(step:∀(mz:Nat) (i:Nat) (cy:Int) (r:OA) (e f:Nat) (Z:Nat->ag) (h:au),j mz i cy r e f h->(λ(k:ag->ag->au->Prop)=>cq (decide ((i:Int)<g)) (cq (decide ((i:Int)<(n:Int))) (qX (xI aw) 260 (ae a n c) (iA i) 240 h λF=>cq (decide ((i:Int)<(m:Int))) (qX (xI aw) 260 (ae b m d) (iA i) 240 h λn5=>aX 267 [(bA F),(bA n5),(bA cy)] h λv6 h7=>∃n8:Int,∃G:Int,v6=(av ⟨[(bA n8),(bA G)]⟩)/\xR (bS aq 260 1 [(0,(bA n8))]) h7 λy7 U y2 o=>xE (cG aq 260 260 (ae r e f) (sA (h7.aD) U y2) o) o λE O W z0 M=>k (ae E O W) (bA G) M) (aX 267 [(bA F),(bA 0),(bA cy)] h λx7 A=>∃s:Int,∃z:Int,x7=(av ⟨[(bA s),(bA z)]⟩)/\xR (bS aq 260 1 [(0,(bA s))]) A λz2 T H t=>xE (cG aq 260 260 (ae r e f) (sA (A.aD) T H) t) t λy3 x4 x8 z1 x2=>k (ae y3 x4 x8) (bA z) x2)) (cq (decide ((i:Int)<(m:Int))) (qX (xI aw) 260 (ae b m d) (iA i) 240 h λN=>aX 267 [(bA 0),(bA N),(bA cy)] h λy1 q=>∃l:Int,∃p:Int,y1=(av ⟨[(bA l),(bA p)]⟩)/\xR (bS aq 260 1 [(0,(bA l))]) q λy9 x9 I x=>xE (cG aq 260 260 (ae r e f) (sA (q.aD) x9 I) x) x λX y4 V y5 L=>k (ae X y4 V) (bA p) L) (aX 267 [(bA 0),(bA 0),(bA cy)] h λK y=>∃v:Int,∃w:Int,K=(av ⟨[(bA v),(bA w)]⟩)/\xR (bS aq 260 1 [(0,(bA v))]) y λy6 x0 x5 u=>xE (cG aq 260 260 (ae r e f) (sA (y.aD) x0 x5) u) u λx6 x3 J y8 R=>k (ae x6 x3 J) (bA w) R))) (aX 210 [(ae r e f)] h λy0 Y=>yL y0 λC S x1=>Q (ae C S x1) Y)) (λD P hz=>ct (DZ (nO a n c b m d g) j) mz [(ae a n c),(ae b m d),(aN (.func 267) ⟨[]⟩ ⟨[]⟩),D,P,(aE g),(aE (ai ak ((i:Int)+1)))] hz))(mz:Nat){i:Nat}{cy:Int}{r:OA}{e f:Nat}{h:au}(B:j mz i cy r e f h):cw sV (pq 151) (nO a n c b m d g i cy r e f) h (eu sV (pq 87) Q):=
 zO (nO a n c b m d g) j (λmz i cy r e f Z h B=>bD (step mz i cy r e f Z h B)) mz B
noncomputable def re:FD:=gU Tryz.f266 [((pq 151),[0,1,2,7,8,18,19])]
abbrev mC(a:OA)(n c:Nat)(b:OA)(m d:Nat)(e:Int)(i:Nat)(cy:Int)(r:OA)(f g:Nat):LV:=[(ae a n c),(ae b m d),(aN (.func 269) ⟨[]⟩ ⟨[]⟩),(ae r f g),(bA cy),(aE e),(iA i)]
theorem KX(a:OA)(n c:Nat)(b:OA)(m d:Nat)(h:au)(Q:VH)(f:xI ak (ud af [(iA n),(iA m)]) λe=>cw re (pq 151) (mC a n c b m d (ai ak (e+1)) 0 0 none 0 0) h (eu re (pq 87) Q)):aX 266 [(ae a n c),(ae b m d),(aN (.func 269) ⟨[]⟩ ⟨[]⟩)] h Q:=hH re Tryz.func266 (bD f)
theorem wW(a:OA)(n c:Nat)(b:OA)(m d:Nat)(g:Int)(j:Nat->Nat->Int->OA->Nat->Nat->au->Prop)(Q:VH)(step:∀(mz:Nat) (i:Nat) (cy:Int) (r:OA) (e f:Nat) (Z:Nat->ag) (h:au),j mz i cy r e f h->(λ(k:ag->ag->au->Prop)=>cq (decide ((i:Int)<g)) (cq (decide ((i:Int)<(n:Int))) (qX (xI aw) 260 (ae a n c) (iA i) 240 h λF=>cq (decide ((i:Int)<(m:Int))) (qX (xI aw) 260 (ae b m d) (iA i) 240 h λn5=>aX 269 [(bA F),(bA n5),(bA cy)] h λv6 h7=>∃n8:Int,∃G:Int,v6=(av ⟨[(bA n8),(bA G)]⟩)/\xR (bS aq 260 1 [(0,(bA n8))]) h7 λy7 U y2 o=>xE (cG aq 260 260 (ae r e f) (sA (h7.aD) U y2) o) o λE O W z0 M=>k (ae E O W) (bA G) M) (aX 269 [(bA F),(bA 0),(bA cy)] h λx7 A=>∃s:Int,∃z:Int,x7=(av ⟨[(bA s),(bA z)]⟩)/\xR (bS aq 260 1 [(0,(bA s))]) A λz2 T H t=>xE (cG aq 260 260 (ae r e f) (sA (A.aD) T H) t) t λy3 x4 x8 z1 x2=>k (ae y3 x4 x8) (bA z) x2)) (cq (decide ((i:Int)<(m:Int))) (qX (xI aw) 260 (ae b m d) (iA i) 240 h λN=>aX 269 [(bA 0),(bA N),(bA cy)] h λy1 q=>∃l:Int,∃p:Int,y1=(av ⟨[(bA l),(bA p)]⟩)/\xR (bS aq 260 1 [(0,(bA l))]) q λy9 x9 I x=>xE (cG aq 260 260 (ae r e f) (sA (q.aD) x9 I) x) x λX y4 V y5 L=>k (ae X y4 V) (bA p) L) (aX 269 [(bA 0),(bA 0),(bA cy)] h λK y=>∃v:Int,∃w:Int,K=(av ⟨[(bA v),(bA w)]⟩)/\xR (bS aq 260 1 [(0,(bA v))]) y λy6 x0 x5 u=>xE (cG aq 260 260 (ae r e f) (sA (y.aD) x0 x5) u) u λx6 x3 J y8 R=>k (ae x6 x3 J) (bA w) R))) (aX 210 [(ae r e f)] h λy0 Y=>yL y0 λC S x1=>Q (ae C S x1) Y)) (λD P hz=>ct (DZ (mC a n c b m d g) j) mz [(ae a n c),(ae b m d),(aN (.func 269) ⟨[]⟩ ⟨[]⟩),D,P,(aE g),(aE (ai ak ((i:Int)+1)))] hz))(mz:Nat){i:Nat}{cy:Int}{r:OA}{e f:Nat}{h:au}(B:j mz i cy r e f h):cw re (pq 151) (mC a n c b m d g i cy r e f) h (eu re (pq 87) Q):=
 zO (mC a n c b m d g) j (λmz i cy r e f Z h B=>bD (step mz i cy r e f Z h B)) mz B
noncomputable def UM:FD:=gU Tryz.f240 []
theorem QJ(a:OA)(n c:Nat)(b:OA)(m d:Nat)(h:au)(Q:VH)(e:aX 266 [(ae a n c),(ae b m d),(aN (.func 267) ⟨[]⟩ ⟨[]⟩)] h λi f=>yL i λg j k=>Q (ae g j k) f):aX 240 [(ae a n c),(ae b m d)] h Q:=hH UM Tryz.func240 (bD e)
noncomputable def QI:FD:=gU Tryz.f242 []
theorem Oa(a:OA)(n c:Nat)(b:OA)(m d:Nat)(h:au)(Q:VH)(e:aX 266 [(ae a n c),(ae b m d),(aN (.func 269) ⟨[]⟩ ⟨[]⟩)] h λi f=>yL i λg j k=>Q (ae g j k) f):aX 242 [(ae a n c),(ae b m d)] h Q:=hH QI Tryz.func242 (bD e)
noncomputable def Lq:FD:=gU Tryz.f209 []
theorem IC(a:OA)(n c:Nat)(h:au)(Q:VH)(e:aX 239 [(ae a n c)] h λf b=>yS f λd=>cq (decide ((d.length:Int)>1000)) (Q (av ⟨[(strOf []),(aE 2)]⟩) b) (Q (av ⟨[(strOf d),(aE 0)]⟩) b)):aX 209 [(ae a n c)] h Q:=hH Lq Tryz.func209 (bD e)
noncomputable def Yr:FD:=gU Tryz.f206 []
theorem UG(l m:LB)(h:au)(Q:VH)(v:aX 203 [(strOf l)] h λw g=>yB w λs=>cq (!s) (Q (aE 0) g) (aX 203 [(strOf m)] g λr n=>yB r λt=>cq (!t) (Q (aE 0) n) (aX 208 [(strOf l)] n λp u=>yL p λq d k=>aX 208 [(strOf m)] u λa j=>yL a λb c i=>aX 241 [(ae q d k),(ae b c i)] j λo e=>yI ak o λf=>Q (aE f) e))):aX 206 [(strOf l),(strOf m)] h Q:=hH Yr Tryz.func206 (bD v)
noncomputable def Yq:FD:=gU Tryz.f205 []
theorem UE(l m:LB)(h:au)(Q:VH)(B:aX 203 [(strOf l)] h λC j=>yB C λy=>cq (!y) (Q (av ⟨[(strOf []),(aE 1)]⟩) j) (aX 203 [(strOf m)] j λx s=>yB x λz=>cq (!z) (Q (av ⟨[(strOf []),(aE 1)]⟩) s) (aX 208 [(strOf l)] s λv A=>yL v λw g r=>aX 208 [(strOf m)] A λd o=>yL d λe f k=>aX 240 [(ae w g r),(ae e f k)] o λu i=>yL u λp q c=>aX 209 [(ae p q c)] i λt n=>∃b:LB,∃a:Int,t=(av ⟨[(strOf b),(aE a)]⟩)/\Q (av ⟨[(strOf b),(aE a)]⟩) n))):aX 205 [(strOf l),(strOf m)] h Q:=hH Yq Tryz.func205 (bD B)
noncomputable def Ys:FD:=gU Tryz.f207 []
theorem UN(l m:LB)(h:au)(Q:VH)(D:aX 203 [(strOf l)] h λE o=>yB E λA=>cq (!A) (Q (av ⟨[(strOf []),(aE 1)]⟩) o) (aX 203 [(strOf m)] o λz w=>yB z λB=>cq (!B) (Q (av ⟨[(strOf []),(aE 1)]⟩) w) (aX 208 [(strOf l)] w λy C=>yL y λi c f=>aX 208 [(strOf m)] C λg v=>yL g λa b e=>aX 241 [(ae i c f),(ae a b e)] v λx d=>yI ak x λn=>cq (decide (n<0)) (Q (av ⟨[(strOf []),(aE 4)]⟩) d) (aX 242 [(ae i c f),(ae a b e)] d λs j=>yL s λp q t=>aX 239 [(ae p q t)] j λr u=>yS r λk=>Q (av ⟨[(strOf k),(aE 0)]⟩) u)))):aX 207 [(strOf l),(strOf m)] h Q:=hH Ys Tryz.func207 (bD D)
noncomputable def lj:FD:=gU Tryz.f172 [((pq 303),[6,7,8,33,34]),((pq 160559),[6,7,8,9,10,33,34,39,40])]
abbrev ll(a:OA)(n c:Nat)(b:OA)(k d:Nat)(t:OA)(tn tc:Nat)(e:Int)(i:Nat):LV:=[(ae a n c),(ae b k d),(ae t tn tc),(aE e),(iA i)]
abbrev mY(a:OA)(n c:Nat)(b:OA)(k d:Nat)(t:OA)(tn tc:Nat)(f:Int)(i:Nat)(e:Int)(j:Nat)(cy:Int):LV:=[(ae a n c),(ae b k d),(ae t tn tc),(iA i),(bA cy),(aE f),(iA i),(aE e),(iA j)]
theorem UL(l m:LB)(h:au)(Q:VH)(v:aX 203 [(strOf l)] h λw g=>yB w λs=>cq (!s) (Q (av ⟨[(strOf []),(aE 1)]⟩) g) (aX 203 [(strOf m)] g λr o=>yB r λt=>cq (!t) (Q (av ⟨[(strOf []),(aE 1)]⟩) o) (aX 208 [(strOf l)] o λp u=>yL p λq a n=>aX 208 [(strOf m)] u λd c=>yL d λe b i=>xR (dD aq 260 (aE (ai ak (ai ak ((a:Int)+(b:Int))+1))) (aE (ai ak (ai ak ((a:Int)+(b:Int))+1)))) c λx f j k=>cw lj (pq 303) (ll q a n e b i (aa ⟨c.aD,0,none⟩) f j (a:Int) 0) k (eu lj (pq 175) Q)))):aX 172 [(strOf l),(strOf m)] h Q:=hH lj Tryz.func172 (bD v)
theorem Cd(l m:LB)(a:OA)(n c:Nat)(b:OA)(k d:Nat)(t:OA)(tn tc:Nat)(e:Int)(f:Nat->Nat->au->Prop)(Q:VH)(step:∀(mz:Nat) (i:Nat) (v:Nat->ag) (h:au),f mz i h->cq (decide ((i:Int)<e)) (cw lj (pq 160559) (mY a n c b k d t tn tc e i (ai ak ((k:Int)+1)) 0 0) h (fQ lj (pq 371) (pq 303) (RR lj (pq 303) (jg (ll a n c b k d t tn tc e) f) mz (eu lj (pq 175) Q)))) (aX 210 [(ae t tn tc)] h λr w=>yL r λx s p=>aX 209 [(ae x s p)] w λu q=>∃j:LB,∃g:Int,u=(av ⟨[(strOf j),(aE g)]⟩)/\Q (av ⟨[(strOf j),(aE g)]⟩) q))(mz:Nat){i:Nat}{h:au}(o:f mz i h):cw lj (pq 303) (ll a n c b k d t tn tc e i) h (eu lj (pq 175) Q):=
 gm (ll a n c b k d t tn tc e) f (λmz i v h o=>bD (step mz i v h o)) mz o
theorem Ce(l m:LB)(a:OA)(n c:Nat)(b:OA)(k d:Nat)(t:OA)(tn tc:Nat)(f:Int)(q:Nat->Nat->au->Prop)(mz i:Nat)(e:Int)(o:Nat->Nat->Int->au->Prop)(Q:VH)(step:∀(g:Nat) (j:Nat) (cy:Int) (z:Nat->ag) (h:au),o g j cy h->cq (decide ((j:Int)<e)) (qX (xI aw) 260 (ae t tn tc) (aE (ai ak ((i:Int)+(j:Int)))) 240 h λp=>cq (decide ((j:Int)<(k:Int))) (qX (xI aw) 260 (ae a n c) (iA i) 240 (room h 12) λs=>qX (xI aw) 260 (ae b k d) (iA j) 240 (room h 12) λr=>xI aw (ca aq .rem 240 (bA (ai aw (ai aw (p+cy)+ai aw (s*r)))) (bA 1000000000)) λv=>xI aw (ca aq .quo 240 (bA (ai aw (ai aw (p+cy)+ai aw (s*r)))) (bA 1000000000)) λy=>xP (aW aq 260 (ae t tn tc) (aE (ai ak ((i:Int)+(j:Int))))) λD=>xU (bh aq 240 (bw D) (bA v) (room h 12)) (room h 12) λE w=>ct (pB (mY a n c b k d t tn tc f i e) o) g [(ae a n c),(ae b k d),(ae t tn tc),(iA i),(bA y),(aE f),(iA i),(aE e),(aE (ai ak ((j:Int)+1)))] w) (xI aw (ca aq .rem 240 (bA (ai aw (p+cy))) (bA 1000000000)) λB=>xI aw (ca aq .quo 240 (bA (ai aw (p+cy))) (bA 1000000000)) λx=>xP (aW aq 260 (ae t tn tc) (aE (ai ak ((i:Int)+(j:Int))))) λC=>xU (bh aq 240 (bw C) (bA B) h) h λF A=>ct (pB (mY a n c b k d t tn tc f i e) o) g [(ae a n c),(ae b k d),(ae t tn tc),(iA i),(bA x),(aE f),(iA i),(aE e),(aE (ai ak ((j:Int)+1)))] A)) (ct (jg (ll a n c b k d t tn tc f) q) mz [(ae a n c),(ae b k d),(ae t tn tc),(aE f),(aE (ai ak ((i:Int)+1)))] h))(g:Nat){j:Nat}{cy:Int}{h:au}(u:o g j cy h):cw lj (pq 160559) (mY a n c b k d t tn tc f i e j cy) h (fQ lj (pq 371) (pq 303) (RR lj (pq 303) (jg (ll a n c b k d t tn tc f) q) mz (eu lj (pq 175) Q))):=
 mc (mY a n c b k d t tn tc f i e) o (λg j cy z h u=>bD (step g j cy z h u)) g u
variable{x:List Nat}{y:List Nat}
theorem YP(x y z:Nat)(f:x<BB)(i:y<BB)(g:z<=1)(h:au):aX 267 [bA (x:Int),bA (y:Int),bA (z:Int)] h (λv c=>v=av ⟨[uv (cL BB x y z).1,uv (cL BB x y z).2]⟩/\c=h):=by
 have e:BB=1000000000:=rfl;have a:ai aw ((x:Int)+(y:Int))=((x+y:Nat):Int):=by rw[<-Int.natCast_add];exact jB (by omega) (by omega)
 have d:ai aw (((x+y:Nat):Int)+(z:Int))=((x+y+z:Nat):Int):=by rw[<-Int.natCast_add];exact jB (by omega) (by omega)
 refine YO _ _ _ h _ ?_;rw[a,d];refine⟨_,lV (b:=BB) (by omega) (by decide),_,tP (b:=BB) (by omega) (by omega) (by decide),?_,rfl⟩;unfold uv cL;rw[Int.natCast_emod,Int.natCast_ediv]
theorem Ux(x y z:Nat)(j:x<BB)(m:y<BB)(l:z<=1)(h:au):aX 269 [bA (x:Int),bA (y:Int),bA (z:Int)] h (λv f=>v=av ⟨[uv (dY BB x y z).1,uv (dY BB x y z).2]⟩/\f=h):=by
 have i:BB=1000000000:=rfl;have a:x+BB-y-z<2*BB:=by omega
 have c:ai aw ((x:Int)+1000000000)=((x+BB:Nat):Int):=by rw[jB (by omega) (by omega)];omega
 have e:ai aw (((x+BB:Nat):Int)-(y:Int))=((x+BB-y:Nat):Int):=by rw[jB (by omega) (by omega)];omega
 have d:ai aw (((x+BB-y:Nat):Int)-(z:Int))=((x+BB-y-z:Nat):Int):=by rw[jB (by omega) (by omega)];omega
 refine Uw _ _ _ h _ ?_;rw[c,e,d];refine⟨_,lV (b:=BB) (by omega) (by decide),_,tP (b:=BB) (by omega) (by omega) (by decide),?_,rfl⟩;unfold uv dY;dsimp only;generalize x+BB-y-z=q at*;have k:q/BB<=1:=by
  have:q/BB<2:=eB (by omega);omega
 have g:ai aw (1-(q:Int)/(BB:Int))=((1-q/BB:Nat):Int):=by
  rw[<-Int.natCast_ediv];clear a c e d;generalize q/BB=r at*;rw[jB (by omega) (by omega)];omega
 rw[g,Int.natCast_emod]
theorem acp{q c:Nat}(b:n<BB)(a:q<BB)(d:c<=1):(cL BB n q c).2<=1:=by
 show(n+q+c)/BB<=1;have:(n+q+c)/BB<2:=eB (by omega);omega
theorem Yk{q c:Nat}(b:n<BB)(a:q<BB)(d:c<=1):(dY BB n q c).2<=1:=(rU kJ b a d).2
theorem Nn{b:Option aJ}{c:Nat}(U:Rd h 240 (ae a n c) (x.map uv))(H:Rd h 240 (ae b m k) (y.map uv))(P:∀k∈x,k<BB)(Z:∀k∈y,k<BB)(x2:x.length<=10000)(x4:y.length<=10000)(w:Wf h){R:Nat}(fin:gG (dq (cL BB) x y 0 (max x.length y.length+1) 0)=cO BB R):
  aX 266 [ae a n c,ae b m k,aN (.func 267) ⟨[]⟩ ⟨[]⟩] h (mn h 240 (bl R)):=by
 have hn:n=x.length:=by have:=U.len;rwa[aH]at this
 have hm:m=y.length:=by have:=H.len;rwa[aH]at this
 rw[<-hn,<-hm]at fin;have V:∀j,iK (cL BB) x y 0 0 j<=1:=by
  intro j
  induction j with
  |zero=>exact ck _
  |succ j ih=>exact acp (cV (by decide) P _) (cV (by decide) Z _) ih
 have x3:n<=max n m/\m<=max n m:=⟨pJ _ _,oH _ _⟩
 have x1:max n m<=10000:=max_le.2 ⟨by omega,by omega⟩;have I:(if(m:Int)>(n:Int)then(m:Int)else(n:Int))=((max n m:Nat):Int):=by split<;>omega
 generalize max n m=N at*;have L:=zc a n c b m k ((N:Int)+1) (λmz i cy r O Q g=>i<=N+1/\mz=N+1-i/\cy=(iK (cL BB) x y 0 0 i:Nat)/\hJ h g 240 (ae r O Q) ((dq (cL BB) x y 0 i 0).map uv)/\Ok h g) (mn h 240 (bl R)) (by
  intro mz i cy r O Q;intros;rename_i g hi;obtain⟨h1,h2,rfl,z,o⟩:=hi;have M:ai ak ((i:Int)+1)=((i+1:Nat):Int):=by rw[cd (by omega) (by omega)];omega
  rw[M];have l:(dq (cL BB) x y 0 i 0).length=i:=iM _ _ _ _ _ _;have e:=lK (cL BB) x y i 0 0;rw[bJ]at e;have d:iK (cL BB) x y 0 0 (i+1)=(cL BB (x.getD i 0) (y.getD i 0) (iK (cL BB) x y 0 0 i)).2:=by
   show(cL BB (x.getD (0+i) 0) (y.getD (0+i) 0) _).2=_;rw[bJ]
  have W:=V i;have t:=YP (x.getD i 0) (y.getD i 0) (iK (cL BB) x y 0 0 i) (cV (by decide) P _) (cV (by decide) Z _) W g;refine az (λC=>?_) (λC=>?_)
  ·have C:=dT C;refine az (λB=>?_) (λB=>?_)
   ·have B:=dT B;obtain⟨q,K,Y⟩:=Jb (U.ok o) (i:=(i:Int)) (by omega) (by omega);rw[bc]at Y;refine⟨q,K,_,Y,az (λf=>?_) (λf=>?_)⟩
    ·have f:=dT f;obtain⟨G,D,A⟩:=Jb (H.ok o) (i:=(i:Int)) (by omega) (by omega);rw[bc]at A;refine⟨G,D,_,A,t.mono ?_⟩;rintro _ _ ⟨rfl,rfl⟩;refine⟨_,_,rfl,_,_,_,we _,?_⟩;obtain⟨b,m,k,u,s,E,p,v⟩:=qa w o z ((cL BB (x.getD i 0) (y.getD i 0) (iK (cL BB) x y 0 0 i)).1:Nat) (by rw[aH,l];omega);refine⟨b,m,k,u,s,ow (mz-1) (by omega) ⟨by omega,by omega,by rw[d],?_,v⟩⟩;rw[e,bK];exact p
    ·have f:=dF f;have F:y.getD i 0=0:=by rw[gD,getElem?_eq_none (by omega)];rfl
     rw[F]at t e d;refine t.mono ?_;rintro _ _ ⟨rfl,rfl⟩;refine⟨_,_,rfl,_,_,_,we _,?_⟩;obtain⟨b,m,k,u,s,E,p,v⟩:=qa w o z ((cL BB (x.getD i 0) 0 (iK (cL BB) x y 0 0 i)).1:Nat) (by rw[aH,l];omega);refine⟨b,m,k,u,s,ow (mz-1) (by omega) ⟨by omega,by omega,by rw[d],?_,v⟩⟩;rw[e,bK];exact p
   ·have B:=dF B;have x0:x.getD i 0=0:=by rw[gD,getElem?_eq_none (by omega)];rfl
    rw[x0]at t e d;refine az (λf=>?_) (λf=>?_)
    ·have f:=dT f;obtain⟨G,D,A⟩:=Jb (H.ok o) (i:=(i:Int)) (by omega) (by omega);rw[bc]at A;refine⟨G,D,_,A,t.mono ?_⟩;rintro _ _ ⟨rfl,rfl⟩;refine⟨_,_,rfl,_,_,_,we _,?_⟩;obtain⟨b,m,k,u,s,E,p,v⟩:=qa w o z ((cL BB 0 (y.getD i 0) (iK (cL BB) x y 0 0 i)).1:Nat) (by rw[aH,l];omega);refine⟨b,m,k,u,s,ow (mz-1) (by omega) ⟨by omega,by omega,by rw[d],?_,v⟩⟩;rw[e,bK];exact p
    ·have f:=dF f;have F:y.getD i 0=0:=by rw[gD,getElem?_eq_none (by omega)];rfl
     rw[F]at t e d;refine t.mono ?_;rintro _ _ ⟨rfl,rfl⟩;refine⟨_,_,rfl,_,_,_,we _,?_⟩;obtain⟨b,m,k,u,s,E,p,v⟩:=qa w o z ((cL BB 0 0 (iK (cL BB) x y 0 0 i)).1:Nat) (by rw[aH,l];omega);refine⟨b,m,k,u,s,ow (mz-1) (by omega) ⟨by omega,by omega,by rw[d],?_,v⟩⟩;rw[e,bK];exact p
  ·have C:=dF C;obtain rfl:i=N+1:=by omega
   refine(vw z (by rw[l];omega)).mono ?_;rintro _ K ⟨T,S,J,rfl,X,rfl⟩;rw[fin]at X;exact⟨T,S,J,rfl,T,S,J,rfl,X,o⟩)
 refine Nm a n c b m k h _ ⟨_,B9 _ _ _,?_⟩;have hw:ai ak ((N:Int)+1)=(N:Int)+1:=cd (by omega) (by omega);dsimp only;rw[I,hw];exact L (N+1) (i:=0) ⟨by omega,by omega,rfl,.inl ⟨rfl,rfl⟩,Ok.refl w⟩
theorem KY{b:Option aJ}{c:Nat}(U:Rd h 240 (ae a n c) (x.map uv))(H:Rd h 240 (ae b m k) (y.map uv))(P:∀k∈x,k<BB)(Z:∀k∈y,k<BB)(x2:x.length<=10000)(x4:y.length<=10000)(w:Wf h){R:Nat}(fin:gG (dq (dY BB) x y 0 (max x.length y.length+1) 0)=cO BB R):
  aX 266 [ae a n c,ae b m k,aN (.func 269) ⟨[]⟩ ⟨[]⟩] h (mn h 240 (bl R)):=by
 have hn:n=x.length:=by have:=U.len;rwa[aH]at this
 have hm:m=y.length:=by have:=H.len;rwa[aH]at this
 rw[<-hn,<-hm]at fin;have V:∀j,iK (dY BB) x y 0 0 j<=1:=by
  intro j
  induction j with
  |zero=>exact ck _
  |succ j ih=>exact Yk (cV (by decide) P _) (cV (by decide) Z _) ih
 have x3:n<=max n m/\m<=max n m:=⟨pJ _ _,oH _ _⟩
 have x1:max n m<=10000:=max_le.2 ⟨by omega,by omega⟩;have I:(if(m:Int)>(n:Int)then(m:Int)else(n:Int))=((max n m:Nat):Int):=by split<;>omega
 generalize max n m=N at*;have L:=wW a n c b m k ((N:Int)+1) (λmz i cy r O Q g=>i<=N+1/\mz=N+1-i/\cy=(iK (dY BB) x y 0 0 i:Nat)/\hJ h g 240 (ae r O Q) ((dq (dY BB) x y 0 i 0).map uv)/\Ok h g) (mn h 240 (bl R)) (by
  intro mz i cy r O Q;intros;rename_i g hi;obtain⟨h1,h2,rfl,z,o⟩:=hi;have M:ai ak ((i:Int)+1)=((i+1:Nat):Int):=by rw[cd (by omega) (by omega)];omega
  rw[M];have l:(dq (dY BB) x y 0 i 0).length=i:=iM _ _ _ _ _ _;have e:=lK (dY BB) x y i 0 0;rw[bJ]at e;have d:iK (dY BB) x y 0 0 (i+1)=(dY BB (x.getD i 0) (y.getD i 0) (iK (dY BB) x y 0 0 i)).2:=by
   show(dY BB (x.getD (0+i) 0) (y.getD (0+i) 0) _).2=_;rw[bJ]
  have W:=V i;have t:=Ux (x.getD i 0) (y.getD i 0) (iK (dY BB) x y 0 0 i) (cV (by decide) P _) (cV (by decide) Z _) W g;refine az (λC=>?_) (λC=>?_)
  ·have C:=dT C;refine az (λB=>?_) (λB=>?_)
   ·have B:=dT B;obtain⟨q,K,Y⟩:=Jb (U.ok o) (i:=(i:Int)) (by omega) (by omega);rw[bc]at Y;refine⟨q,K,_,Y,az (λf=>?_) (λf=>?_)⟩
    ·have f:=dT f;obtain⟨G,D,A⟩:=Jb (H.ok o) (i:=(i:Int)) (by omega) (by omega);rw[bc]at A;refine⟨G,D,_,A,t.mono ?_⟩;rintro _ _ ⟨rfl,rfl⟩;refine⟨_,_,rfl,_,_,_,we _,?_⟩;obtain⟨b,m,k,u,s,E,p,v⟩:=qa w o z ((dY BB (x.getD i 0) (y.getD i 0) (iK (dY BB) x y 0 0 i)).1:Nat) (by rw[aH,l];omega);refine⟨b,m,k,u,s,ow (mz-1) (by omega) ⟨by omega,by omega,by rw[d],?_,v⟩⟩;rw[e,bK];exact p
    ·have f:=dF f;have F:y.getD i 0=0:=by rw[gD,getElem?_eq_none (by omega)];rfl
     rw[F]at t e d;refine t.mono ?_;rintro _ _ ⟨rfl,rfl⟩;refine⟨_,_,rfl,_,_,_,we _,?_⟩;obtain⟨b,m,k,u,s,E,p,v⟩:=qa w o z ((dY BB (x.getD i 0) 0 (iK (dY BB) x y 0 0 i)).1:Nat) (by rw[aH,l];omega);refine⟨b,m,k,u,s,ow (mz-1) (by omega) ⟨by omega,by omega,by rw[d],?_,v⟩⟩;rw[e,bK];exact p
   ·have B:=dF B;have x0:x.getD i 0=0:=by rw[gD,getElem?_eq_none (by omega)];rfl
    rw[x0]at t e d;refine az (λf=>?_) (λf=>?_)
    ·have f:=dT f;obtain⟨G,D,A⟩:=Jb (H.ok o) (i:=(i:Int)) (by omega) (by omega);rw[bc]at A;refine⟨G,D,_,A,t.mono ?_⟩;rintro _ _ ⟨rfl,rfl⟩;refine⟨_,_,rfl,_,_,_,we _,?_⟩;obtain⟨b,m,k,u,s,E,p,v⟩:=qa w o z ((dY BB 0 (y.getD i 0) (iK (dY BB) x y 0 0 i)).1:Nat) (by rw[aH,l];omega);refine⟨b,m,k,u,s,ow (mz-1) (by omega) ⟨by omega,by omega,by rw[d],?_,v⟩⟩;rw[e,bK];exact p
    ·have f:=dF f;have F:y.getD i 0=0:=by rw[gD,getElem?_eq_none (by omega)];rfl
     rw[F]at t e d;refine t.mono ?_;rintro _ _ ⟨rfl,rfl⟩;refine⟨_,_,rfl,_,_,_,we _,?_⟩;obtain⟨b,m,k,u,s,E,p,v⟩:=qa w o z ((dY BB 0 0 (iK (dY BB) x y 0 0 i)).1:Nat) (by rw[aH,l];omega);refine⟨b,m,k,u,s,ow (mz-1) (by omega) ⟨by omega,by omega,by rw[d],?_,v⟩⟩;rw[e,bK];exact p
  ·have C:=dF C;obtain rfl:i=N+1:=by omega
   refine(vw z (by rw[l];omega)).mono ?_;rintro _ K ⟨T,S,J,rfl,X,rfl⟩;rw[fin]at X;exact⟨T,S,J,rfl,T,S,J,rfl,X,o⟩)
 refine KX a n c b m k h _ ⟨_,B9 _ _ _,?_⟩;have hw:ai ak ((N:Int)+1)=(N:Int)+1:=cd (by omega) (by omega);dsimp only;rw[I,hw];exact L (N+1) (i:=0) ⟨by omega,by omega,rfl,.inl ⟨rfl,rfl⟩,Ok.refl w⟩
theorem QK{b:Option aJ}{c:Nat}(v:Rd h 240 (ae a n c) (bl i))(s:Rd h 240 (ae b m k) (bl j))(d:(cO BB i).length<=10000)(l:(cO BB j).length<=10000)(w:Wf h):aX 240 [ae a n c,ae b m k] h (mn h 240 (bl (i+j))):=by
 have f:=fU kJ i;have e:=fU kJ j;refine QJ a n c b m k h _ ((Nn v s f e d l w (R:=i+j) ?_).mono ?_)
 ·have y:=pJ (cO BB i).length (cO BB j).length;have z:=oH (cO BB i).length (cO BB j).length;rw[oU kJ (mP (λp q c=>dJ _ (by decide)) _ _ _ 0 0),C1 kJ f e _ 0 0 (by omega) (by omega) (by omega) (by omega),bO,bO,eP kJ,eP kJ];rfl
 ·rintro _ g ⟨u,t,r,rfl,o,x⟩;exact⟨_,_,_,rfl,u,t,r,rfl,o,x⟩
theorem Ob{b:Option aJ}{c:Nat}(y:Rd h 240 (ae a n c) (bl i))(u:Rd h 240 (ae b m k) (bl j))(d:j<=i)(e:(cO BB i).length<=10000)(r:(cO BB j).length<=10000)(w:Wf h):aX 242 [ae a n c,ae b m k] h (mn h 240 (bl (i-j))):=by
 have l:=fU kJ i;have f:=fU kJ j;refine Oa a n c b m k h _ ((KY y u l f e r w (R:=i-j) ?_).mono ?_)
 ·have A:=pJ (cO BB i).length (cO BB j).length;have B:=oH (cO BB i).length (cO BB j).length;rw[oU kJ (mP (λp q c=>dJ _ (by decide)) _ _ _ 0 0)];have t:=FG kJ l f (max (cO BB i).length (cO BB j).length+1) 0 0 (by omega) (by omega) (by omega) (by rw[bO,bO,eP kJ,eP kJ];exact d);rw[bO,bO,eP kJ,eP kJ]at t;congr 1;omega
 ·rintro _ g ⟨x,v,s,rfl,o,z⟩;exact⟨_,_,_,rfl,x,v,s,rfl,o,z⟩
def te(X:Nat):ag:=if 1000<(bn X).length then H4 [] 2 else H4 (bn X) 0
def EN(a b:List UInt8):ag:=if Num.valid a=af/\Num.valid b=af then te (Num.val a+Num.val b)else H4 [] 1
def E0(a b:List UInt8):ag:=if Num.valid a=af/\Num.valid b=af then te (Num.val a*Num.val b)else H4 [] 1
def E7(a b:List UInt8):ag:=if Num.valid a=af/\Num.valid b=af then(if Num.val a<Num.val b then H4 [] 4 else H4 (bn (Num.val a-Num.val b)) 0)else H4 [] 1
def ES(a b:List UInt8):ag:=if Num.valid a=af/\Num.valid b=af then aE (iB (Num.val a) (Num.val b))else aE 0
theorem zF{c:Nat}(f:Rd h 240 (ae a n c) (bl m))(d:(cO BB m).length<=10000)(t:za h)(w:Wf h):aX 209 [ae a n c] h (λv i=>v=te m/\Ok h i):=by
 refine IC a n c h _ ((Ay f d t w).mono ?_);rintro _ g ⟨rfl,e⟩;refine⟨_,rfl,az (λb=>?_) (λb=>?_)⟩
 ·have b:=dT b;refine⟨?_,e⟩;unfold te;rw[iP (by omega)];rfl
 ·have b:=dF b;refine⟨?_,e⟩;unfold te;rw[iN (by omega)];rfl
structure ahp(a b:List UInt8)(X Y:Nat):Prop where
 va:Num.valid a=af
 vb:Num.valid b=af
 ea:Num.val a=X
 eb:Num.val b=Y
 lx:(cO BB X).length<=112
 ly:(cO BB Y).length<=112
theorem ac2{a b:List UInt8}(c:Num.valid a=af)(d:Num.valid b=af):ahp a b (Num.val a) (Num.val b):=by
 obtain⟨X,_,f,g⟩:=gP c;obtain⟨Y,_,e,h⟩:=gP d;exact⟨c,d,rfl,rfl,by rw[g];exact tT f,by rw[h];exact tT e⟩
theorem qY{a:List UInt8}(c:Num.valid a=af){h:au}(w:Wf h):aX 208 [strOf a] h (mn h 240 (bl (Num.val a))):=by
 have b:=(lG.1 c)
 exact vv a b.1.2.1 (bN b.2 (by omega)) h w
theorem ac0(c:(cO BB n).length<=112)(d:(cO BB m).length<=112):(cO BB (n+m)).length<=10000:=by
 have a:=jv (fU kJ n);have b:=jv (fU kJ m);rw[eP kJ]at a b;have e:=cD a (di (show 0<BB by decide) c);have f:=cD b (di (show 0<BB by decide) d);refine bN (pD kJ (k:=113) ?_) (by omega);rw[fF];have g:2*BB^112<=BB^112*BB:=by rw[cS];exact eS _ (by decide)
 generalize BB^112=M at*;omega
theorem aab(h:n<=m):(cO BB n).length<=(cO BB m).length:=Nat.le_of_not_lt λg=>absurd (pE kJ g) (Nat.not_lt.2 h)
theorem BV(X:Nat):∃l n,te X=H4 l n:=by
 unfold te;split<;>exact⟨_,_,rfl⟩
theorem Fx(a:∃l n,v=H4 l n){K:ag->Prop}(b:K v):∃(l:List UInt8)(n:Int),v=av ⟨[strOf l,aE n]⟩/\K (av ⟨[strOf l,aE n]⟩):=by
 obtain⟨l,n,rfl⟩:=a;exact⟨l,n,rfl,b⟩
theorem Sg{x:Nat}(h:iB x n<0):x<n:=by
 unfold iB at h;split at h<;>omega
theorem Sf{x:Nat}(h:¬iB x n<0):n<=x:=by
 unfold iB at h;split at h<;>omega
theorem UF(a b:List UInt8){h:au}(t:za h)(w:Wf h):aX 205 [strOf a,strOf b] h (λv r=>v=EN a b/\Ok h r):=by
 refine UE a b h _ ((iw a h).mono ?_);rintro _ l ⟨rfl,j⟩;obtain rfl:h=l:=j.symm;refine⟨_,rfl,az (λg=>?_) (λg=>?_)⟩
 ·have g:Num.valid a=aj:=by simpa using g
  refine⟨?_,Ok.refl w⟩;unfold EN;rw[iN (λe=>by rw[e.1]at g;cases g)];rfl
 have g:Num.valid a=af:=by simpa using g
 refine(iw b h).mono ?_;rintro _ l ⟨rfl,j⟩;obtain rfl:h=l:=j.symm;refine⟨_,rfl,az (λc=>?_) (λc=>?_)⟩
 ·have c:Num.valid b=aj:=by simpa using c
  refine⟨?_,Ok.refl w⟩;unfold EN;rw[iN (λe=>by rw[e.2]at c;cases c)];rfl
 have c:Num.valid b=af:=by simpa using c
 have m:=ac2 g c;have A:=m.lx;have z:=m.ly;refine(qY g w).mono ?_;rintro _ G ⟨N,C,J,rfl,o,f⟩;refine⟨_,_,_,rfl,(qY c f.wf).mono ?_⟩;rintro _ H ⟨E,D,M,rfl,y,i⟩;refine⟨_,_,_,rfl,?_⟩;have x:EN a b=te (Num.val a+Num.val b):=by unfold EN;rw[iP ⟨g,c⟩]
 rw[x];have p:=o.rd.ok i;have q:=y.rd;have k:=f.trans i;refine(QK p q (by omega) (by omega) k.wf).mono ?_;rintro _ F ⟨I,B,L,rfl,s,d⟩;refine⟨_,_,_,rfl,(zF s.rd (ac0 A z) (t.ok (k.trans d)) d.wf).mono ?_⟩;rintro _ u ⟨rfl,n⟩;exact Fx (K:=λv=>v=te (Num.val a+Num.val b)/\Ok h u) (BV _) ⟨rfl,(k.trans d).trans n⟩
theorem JF(a b:List UInt8){h:au}(t:za h)(w:Wf h):aX 207 [strOf a,strOf b] h (λv x=>v=E7 a b/\Ok h x):=by
 refine UN a b h _ ((iw a h).mono ?_);rintro _ o ⟨rfl,n⟩;obtain rfl:h=o:=n.symm;refine⟨_,rfl,az (λg=>?_) (λg=>?_)⟩
 ·have g:Num.valid a=aj:=by simpa using g
  refine⟨?_,Ok.refl w⟩;unfold E7;rw[iN (λe=>by rw[e.1]at g;cases g)];rfl
 have g:Num.valid a=af:=by simpa using g
 refine(iw b h).mono ?_;rintro _ o ⟨rfl,n⟩;obtain rfl:h=o:=n.symm;refine⟨_,rfl,az (λc=>?_) (λc=>?_)⟩
 ·have c:Num.valid b=aj:=by simpa using c
  refine⟨?_,Ok.refl w⟩;unfold E7;rw[iN (λe=>by rw[e.2]at c;cases c)];rfl
 have c:Num.valid b=af:=by simpa using c
 have r:=ac2 g c;have P:=r.lx;have N:=r.ly;refine(qY g w).mono ?_;rintro _ G ⟨O,C,J,rfl,u,k⟩;refine⟨_,_,_,rfl,(qY c k.wf).mono ?_⟩;rintro _ H ⟨E,D,M,rfl,A,l⟩;refine⟨_,_,_,rfl,?_⟩;have z:E7 a b=(if Num.val a<Num.val b then H4 [] 4 else H4 (bn (Num.val a-Num.val b)) 0):=by unfold E7;rw[iP ⟨g,c⟩]
 rw[z];have p:=u.rd.ok l;have q:=A.rd;have j:=k.trans l;refine(ue p q (by omega) j.wf).mono ?_;rintro _ F ⟨rfl,d⟩;refine⟨_,rfl,az (λf=>?_) (λf=>?_)⟩
 ·have f:=dT f;rw[iP (Sg f)];exact⟨rfl,j.trans d⟩
 ·have f:=dF f;have m:=Sf f;rw[iN (Nat.not_lt.2 m)];refine(Ob (p.ok d) (q.ok d) m (by omega) (by omega) d.wf).mono ?_;rintro _ L ⟨I,B,K,rfl,y,i⟩;refine⟨_,_,_,rfl,(Ay y.rd (bN (aab (Nat.sub_le _ _)) (by omega)) (t.ok ((j.trans d).trans i)) i.wf).mono ?_⟩;rintro _ Q ⟨rfl,s⟩;exact⟨_,rfl,rfl,((j.trans d).trans i).trans s⟩
theorem UH(a b:List UInt8){h:au}(t:za h)(w:Wf h):aX 206 [strOf a,strOf b] h (λv q=>v=ES a b/\Ok h q):=by
 refine UG a b h _ ((iw a h).mono ?_);rintro _ j ⟨rfl,i⟩;obtain rfl:h=j:=i.symm;refine⟨_,rfl,az (λg=>?_) (λg=>?_)⟩
 ·have g:Num.valid a=aj:=by simpa using g
  refine⟨?_,Ok.refl w⟩;unfold ES;rw[iN (λe=>by rw[e.1]at g;cases g)]
 have g:Num.valid a=af:=by simpa using g
 refine(iw b h).mono ?_;rintro _ j ⟨rfl,i⟩;obtain rfl:h=j:=i.symm;refine⟨_,rfl,az (λc=>?_) (λc=>?_)⟩
 ·have c:Num.valid b=aj:=by simpa using c
  refine⟨?_,Ok.refl w⟩;unfold ES;rw[iN (λe=>by rw[e.2]at c;cases c)]
 have c:Num.valid b=af:=by simpa using c
 have l:=ac2 g c;have G:=l.lx;have E:=l.ly;refine(qY g w).mono ?_;rintro _ A ⟨F,u,C,rfl,n,d⟩;refine⟨_,_,_,rfl,(qY c d.wf).mono ?_⟩;rintro _ B ⟨y,x,D,rfl,s,f⟩;refine⟨_,_,_,rfl,?_⟩;have r:ES a b=aE (iB (Num.val a) (Num.val b)):=by unfold ES;rw[iP ⟨g,c⟩]
 rw[r];have o:=n.rd.ok f;have p:=s.rd;have m:=d.trans f;refine(ue o p (by omega) m.wf).mono ?_;rintro _ z ⟨rfl,k⟩;exact⟨_,rfl,rfl,m.trans k⟩
theorem RG:aq.underlying 9=aa .string:=Tryz.underlying9
theorem Mp(l:List UInt8)(h:au){b:Nat}(c:b<=l.length):dN aq 9 (strOf l) none (aa (aE (b:Int))) none h=aa (strOf (l.take b)):=by
 have:=sH (h:=h) RG l (lo:=none) (hi:=aa (aE (b:Int))) (a:=0) (b:=b) rfl rfl (by omega) c;simpa using this
theorem yQ(l:List UInt8)(h:au){a:Nat}(c:a<=l.length):dN aq 9 (strOf l) (aa (aE (a:Int))) none none h=aa (strOf (l.drop a)):=by
 have:=sH (h:=h) RG l (lo:=aa (aE (a:Int))) (hi:=none) (a:=a) (b:=l.length) rfl rfl c (aT _);rw[this,bC (by simp)]
theorem Uh(l:List UInt8)(h:au):aX 258 [strOf l,strOf [45]] h (λv e=>v=ah (Num.isNeg l)/\e=h):=by
 refine Ug l [45] h _ (az (λa=>?_) (λa=>?_))
 ·have a:=dT a;have d:1<=l.length:=by simp only[bU,List.length_nil]at a;omega
  refine⟨_,Mp l h (b:=1) d,?_,rfl⟩
  cases l with
  |nil=>simp at d
  |cons c l=>
   unfold Num.isNeg;simp only[List.take_succ_cons,dQ,List.head?_cons];congr 1
   cases f:c==45<;>simp_all
 ·have a:=dF a;have d:l=[]:=bE (by simp at a;omega);subst d;exact⟨rfl,rfl⟩
theorem Qc(l:List UInt8)(h:au):aX 236 [strOf l,strOf [45]] h (λv c=>v=av ⟨[strOf (dX l),ah (Num.isNeg l)]⟩/\c=h):=by
 refine Qb l [45] h _ ((Uh l h).mono ?_);rintro _ e ⟨rfl,d⟩;obtain rfl:h=e:=d.symm;refine⟨_,rfl,az (λg=>?_) (λg=>?_)⟩
 ·have g:Num.isNeg l=aj:=by simpa using g
  unfold dX;rw[g];exact⟨rfl,rfl⟩
 ·have g:Num.isNeg l=af:=by simpa using g
  have b:1<=l.length:=by
   cases l with
   |nil=>cases g
   |cons=>simp
  refine⟨_,yQ l h (a:=1) b,?_,rfl⟩;unfold dX;rw[g];rfl
theorem T1(l:List UInt8)(h:au):aX 201 [strOf l,strOf [45]] h (λv a=>v=av ⟨[strOf (dX l),ah (Num.isNeg l)]⟩/\a=h):=by
 refine T0 l [45] h _ ((Qc l h).mono ?_);rintro _ c ⟨rfl,b⟩;exact⟨_,_,rfl,rfl,b⟩
theorem Qj(l:List UInt8):∀i:Nat,findAt 47 l i=if iC 47 l<l.length then((i+iC 47 l:Nat):Int)else -1:=by
 induction l with
 |nil=>intro i;rfl
 | cons c l b=>
  intro i;unfold findAt iC;have a:c.toNat=47↔c=47:=by rw[<-fL];rfl
  by_cases h:c=47
  ·rw[iP (a.2 h),iP h,iP (by simp)];rfl
  ·rw[iN (λe=>h (a.1 e)),iN h,b (i+1)];have:(iC 47 l+1<(c::l).length)↔iC 47 l<l.length:=by simp
   simp only[this];split
   ·congr 1;omega
   ·rfl
def Ix(l:List UInt8):Int:=if iC 47 l<l.length then(iC 47 l:Int)else -1
theorem NT(l:List UInt8)(h:au):aX 279 [strOf l,aC aK 47] h (λv a=>v=aE (Ix l)/\a=h):=by
 refine NS l 47 h _ (K6 (p:=nq) (v:= aE (Ix l)) (h':=h) (by decide +kernel) (by kernel_rfl) (λb=>?_) ⟨_,rfl,rfl,rfl⟩);show(if(0:Int)<=47/\(47:Int)<256 then aa (aC ak (findAt 47 l 0),h)else none)=_;rw[iP (by decide),Qj,bJ];rfl
theorem Uk(l:List UInt8)(h:au):aX 259 [strOf l,strOf [47]] h (λv b=>v=aE (Ix l)/\b=h):=by
 refine Uj l h _ (az (λa=>?_) (λa=>?_))
 ·have a:([47]:List UInt8)=l:=by simpa using a
  subst a;exact⟨rfl,rfl⟩
 ·refine⟨47,rfl,(NT l h).mono ?_⟩;rintro _ d ⟨rfl,c⟩;exact⟨_,rfl,rfl,c⟩
def T2(l:List UInt8):ag:=if iC 47 l<l.length then av ⟨[strOf (l.take (iC 47 l)),strOf (l.drop (iC 47 l+1)),ah af]⟩else av ⟨[strOf l,strOf [],ah aj]⟩
theorem abi(l:List UInt8)(f:l.length<=281474976710656){h:au}(w:Wf h):aX 237 [strOf l,strOf [47]] h (λv b=>v=T2 l/\Ok h b):=by
 refine abh l h _ ((Uk l h).mono ?_);rintro _ e ⟨rfl,d⟩;obtain rfl:h=e:=d.symm;refine⟨_,rfl,az (λg=>?_) (λg=>?_)⟩
 ·have g:=dT g;unfold Ix T2 at*;by_cases a:iC 47 l<l.length
  ·rw[iP a,iP a];have c:ai ak ((iC 47 l:Int)+1)=((iC 47 l+1:Nat):Int):=by rw[cd (by omega) (by omega)];omega
   rw[c];exact⟨_,Mp l _ (le_of_lt a),_,yQ l _ a,rfl,(Ok.refl w).room 12⟩
  ·rw[iN a]at g;omega
 ·have g:=dF g;unfold Ix T2 at*;by_cases a:iC 47 l<l.length
  ·rw[iP a]at g;omega
  ·rw[iN a];exact⟨rfl,Ok.refl w⟩
theorem aej(l:List UInt8)(b:l.length<=281474976710656){h:au}(w:Wf h):aX 202 [strOf l,strOf [47]] h (λv c=>v=T2 l/\Ok h c):=by
 refine aei l h _ ((abi l b w).mono ?_);rintro _ d ⟨rfl,a⟩;unfold T2;split
 ·exact⟨_,_,_,rfl,rfl,a⟩
 ·exact⟨_,_,_,rfl,rfl,a⟩
theorem LU(l:List UInt8)(r:l.length<=281474976710656)(h:au):aX 247 [strOf l,aC aK 47] h (λv m=>v=aE (Ix l)/\m=h):=by
 refine LS l 47 h _ (xz l 47 (λmz i g=>g=h/\i<=l.length/\mz=l.length-i/\∀j,j<i->l.getD j 0≠47) _ (λmz i=>?_) l.length (i:=0) ⟨rfl,by omega,rfl,λj p=>by omega⟩);intros;rename_i g o;obtain⟨rfl,f,t,d⟩:=o;refine az (λb=>?_) (λb=>?_)
 ·have b:=dT b;have e:dE aq 9 (strOf l) (aE (i:Int))=aa (aC aK (((l.getD i 0).toNat:Nat):Int)):=by
   have:=sE RG l ak (i:=(i:Int)) (by omega) b;simpa using this
  refine⟨_,e,az (λa=>?_) (λa=>?_)⟩
  ·have a:(l.getD i 0).toNat=47:=by have:=dT a;omega
   have q:l.getD i 0=47:=by rw[<-fL];exact a
   have:=Aa 47 l i f d (λ_=>q);refine⟨?_,rfl⟩;unfold Ix;rw[this,iP (by omega)]
  ·have a:((l.getD i 0).toNat:Int)≠47:=by simpa using a
   have n:ai ak ((i:Int)+1)=((i+1:Nat):Int):=by rw[cd (by omega) (by omega)];omega
   rw[n];refine fC (mz-1) (by omega) ⟨rfl,by omega,by omega,λj p=>?_⟩;rcases db j i with c|c
   ·exact d j c
   ·obtain rfl:j=i:=by omega
    intro k;rw[k]at a;exact a rfl
 ·have b:=dF b;obtain rfl:i=l.length:=by omega
  have:=Aa 47 l l.length (aT _) d (λs=>by omega);refine⟨?_,rfl⟩;unfold Ix;rw[this,iN (by omega)]
noncomputable def Mc:FD:=gU Tryz.f275 []
theorem IK(l:LB)(h:au)(Q:VH)(a:cq (decide ((l.length:Int)>1000)) (Q (av ⟨[(strOf []),(aE 2)]⟩) h) (Q (av ⟨[(strOf l),(aE 0)]⟩) h)):aX 275 [(strOf l)] h Q:=hH Mc Tryz.func275 (bD a)
noncomputable def Zc:FD:=gU Tryz.f251 []
theorem Vn(l m:LB)(h:au)(Q:VH)(j:aX 271 [(strOf l)] h λk a=>yB k λf=>cq (!f) (Q (aE 0) a) (aX 271 [(strOf m)] a λe b=>yB e λg=>cq (!g) (Q (aE 0) b) (aX 277 [(strOf l),(strOf m)] b λc i=>yI ak c λd=>Q (aE d) i))):aX 251 [(strOf l),(strOf m)] h Q:=hH Zc Tryz.func251 (bD j)
noncomputable def Zd:FD:=gU Tryz.f252 []
theorem Vv(l m:LB)(h:au)(Q:VH)(D:aX 271 [(strOf l)] h λE n=>yB E λB=>cq (!B) (Q (av ⟨[(strOf []),(aE 1)]⟩) n) (aX 271 [(strOf m)] n λA x=>yB A λC=>cq (!C) (Q (av ⟨[(strOf []),(aE 1)]⟩) x) (aX 277 [(strOf l),(strOf m)] x λy i=>yI ak y λz=>cq (decide (z<0)) (Q (av ⟨[(strOf []),(aE 4)]⟩) i) (aX 273 [(strOf l)] i λe j=>yL e λb d s=>aX 273 [(strOf m)] j λa k=>yL a λw g r=>aX 278 [(ae b d s),(ae w g r)] k λt c=>yL t λo p u=>aX 276 [(ae o p u)] c λq v=>yS q λf=>Q (av ⟨[(strOf f),(aE 0)]⟩) v)))):aX 252 [(strOf l),(strOf m)] h Q:=hH Zd Tryz.func252 (bD D)
noncomputable def xH:FD:=gU Tryz.f250 [((pq 607),[6,7,8,9,10])]
abbrev pZ(a:OA)(n c:Nat)(b:OA)(k d:Nat)(i:Nat)(cy:Int)(r:OA)(e f:Nat):LV:=[(ae a n c),(ae b k d),(ae r e f),(aE cy),(iA i)]
theorem Vl(l m:LB)(h:au)(Q:VH)(s:aX 271 [(strOf l)] h λt e=>yB t λp=>cq (!p) (Q (av ⟨[(strOf []),(aE 1)]⟩) e) (aX 271 [(strOf m)] e λo j=>yB o λq=>cq (!q) (Q (av ⟨[(strOf []),(aE 1)]⟩) j) (aX 273 [(strOf l)] j λk r=>yL k λn d i=>aX 273 [(strOf m)] r λa g=>yL a λb c f=>cw xH (pq 607) (pZ n d i b c f 0 0 none 0 0) g (eu xH (pq 351) Q)))):aX 250 [(strOf l),(strOf m)] h Q:=hH xH Tryz.func250 (bD s)
theorem Cs(l m:LB)(a:OA)(n c:Nat)(b:OA)(k d:Nat)(g:Nat->Nat->Int->OA->Nat->Nat->au->Prop)(Q:VH)(step:∀(mz:Nat) (i:Nat) (cy:Int) (r:OA) (e f:Nat) (T:Nat->ag) (h:au),g mz i cy r e f h->(λ(N:ag->ag->au->Prop)=>cq (decide ((i:Int)<=(n:Int))) (aX 274 [(ae a n c),(iA i)] h λx4 J=>yI ak x4 λu=>aX 274 [(ae b k d),(iA i)] J λx0 p=>yI ak x0 λx=>xI ak (ca aq .rem 3 (aE (ai ak (ai ak (u+x)+cy))) (aE 10)) λS=>xR (bS aq 27 1 [(0,(aE S))]) p λx8 C V q=>xE (cG aq 27 27 (ae r e f) (sA (p.aD) C V) q) q λE G P x7 W=>xI ak (ca aq .quo 3 (aE (ai ak (ai ak (u+x)+cy))) (aE 10)) λH=>N (ae E G P) (aE H) W) (cq (decide ((i:Int)<=(k:Int))) (aX 274 [(ae a n c),(iA i)] h λx2 K=>yI ak x2 λj=>aX 274 [(ae b k d),(iA i)] K λR v=>yI ak R λw=>xI ak (ca aq .rem 3 (aE (ai ak (ai ak (j+w)+cy))) (aE 10)) λX=>xR (bS aq 27 1 [(0,(aE X))]) v λx5 D x3 s=>xE (cG aq 27 27 (ae r e f) (sA (v.aD) D x3) s) s λU L Y x6 O=>xI ak (ca aq .quo 3 (aE (ai ak (ai ak (j+w)+cy))) (aE 10)) λx1=>N (ae U L Y) (aE x1) O) (aX 276 [(ae r e f)] h λA M=>yS A λZ=>aX 275 [(strOf Z)] M λz F=>∃o:LB,∃t:Int,z=(av ⟨[(strOf o),(aE t)]⟩)/\Q (av ⟨[(strOf o),(aE t)]⟩) F))) (λB I hz=>ct (DZ (pZ a n c b k d) g) mz [(ae a n c),(ae b k d),B,I,(aE (ai ak ((i:Int)+1)))] hz))(mz:Nat){i:Nat}{cy:Int}{r:OA}{e f:Nat}{h:au}(y:g mz i cy r e f h):cw xH (pq 607) (pZ a n c b k d i cy r e f) h (eu xH (pq 351) Q):=
 zO (pZ a n c b k d) g (λmz i cy r e f T h y=>bD (step mz i cy r e f T h y)) mz y
noncomputable def lz:FD:=gU Tryz.f253 [((pq 303),[6,7,8,9]),((pq 39215),[6,7,8,9,10,11])]
abbrev lA(a:OA)(n c:Nat)(b:OA)(k d:Nat)(t:OA)(tn tc:Nat)(i:Nat):LV:=[(ae a n c),(ae b k d),(ae t tn tc),(iA i)]
abbrev p9(a:OA)(n c:Nat)(b:OA)(k d:Nat)(t:OA)(tn tc i:Nat)(j:Nat)(cy:Int):LV:=[(ae a n c),(ae b k d),(ae t tn tc),(iA i),(aE cy),(iA j)]
theorem Vt(l m:LB)(h:au)(Q:VH)(v:aX 271 [(strOf l)] h λw g=>yB w λs=>cq (!s) (Q (av ⟨[(strOf []),(aE 1)]⟩) g) (aX 271 [(strOf m)] g λr o=>yB r λt=>cq (!t) (Q (av ⟨[(strOf []),(aE 1)]⟩) o) (aX 273 [(strOf l)] o λp u=>yL p λq b n=>aX 273 [(strOf m)] u λd c=>yL d λe a i=>xR (dD aq 27 (aE (ai ak (ai ak ((b:Int)+(a:Int))+1))) (aE (ai ak (ai ak ((b:Int)+(a:Int))+1)))) c λx f j k=>cw lz (pq 303) (lA q b n e a i (aa ⟨c.aD,0,none⟩) f j 0) k (eu lz (pq 175) Q)))):aX 253 [(strOf l),(strOf m)] h Q:=hH lz Tryz.func253 (bD v)
theorem Cy(l m:LB)(a:OA)(n c:Nat)(b:OA)(k d:Nat)(t:OA)(tn tc:Nat)(e:Nat->Nat->au->Prop)(Q:VH)(step:∀(mz:Nat) (i:Nat) (s:Nat->ag) (h:au),e mz i h->cq (decide ((i:Int)<(n:Int))) (cw lz (pq 39215) (p9 a n c b k d t tn tc i 0 0) h (fQ lz (pq 89) (pq 303) (RR lz (pq 303) (jg (lA a n c b k d t tn tc) e) mz (eu lz (pq 175) Q)))) (aX 276 [(ae t tn tc)] h λr u=>yS r λp=>aX 275 [(strOf p)] u λo q=>∃g:LB,∃f:Int,o=(av ⟨[(strOf g),(aE f)]⟩)/\Q (av ⟨[(strOf g),(aE f)]⟩) q))(mz:Nat){i:Nat}{h:au}(j:e mz i h):cw lz (pq 303) (lA a n c b k d t tn tc i) h (eu lz (pq 175) Q):=
 gm (lA a n c b k d t tn tc) e (λmz i s h j=>bD (step mz i s h j)) mz j
theorem Cz(l m:LB)(a:OA)(n c:Nat)(b:OA)(k d:Nat)(t:OA)(tn tc:Nat)(q:Nat->Nat->au->Prop)(mz i:Nat)(f:Nat->Nat->Int->au->Prop)(Q:VH)(step:∀(e:Nat) (j:Nat) (cy:Int) (A:Nat->ag) (h:au),f e j cy h->cq (decide ((j:Int)<=(k:Int))) (xP (aW aq 27 (ae t tn tc) (aE (ai ak ((i:Int)+(j:Int))))) λu=>xI ak (aS aq 3 (room h 18) (bw u)) λg=>xP (aW aq 27 (ae a n c) (iA i)) λs=>xI ak (aS aq 3 (room h 18) (bw s)) λo=>aX 274 [(ae b k d),(iA j)] (room h 18) λy p=>yI ak y λr=>(aS aq 3 p (bw u)=aa (aE g)/\oQ 4 (aE g) (aE g)=af)/\(aS aq 3 p (bw s)=aa (aE o)/\oQ 4 (aE o) (aE o)=af)/\xI ak (ca aq .rem 3 (aE (ai ak (ai ak (g+ai ak (o*r))+cy))) (aE 10)) λz=>xP (aW aq 27 (ae t tn tc) (aE (ai ak ((i:Int)+(j:Int))))) λx=>xU (bh aq 3 (bw x) (aE z) p) p λC w=>xI ak (ca aq .quo 3 (aE (ai ak (ai ak (g+ai ak (o*r))+cy))) (aE 10)) λB=>ct (pB (p9 a n c b k d t tn tc i) f) e [(ae a n c),(ae b k d),(ae t tn tc),(iA i),(aE B),(aE (ai ak ((j:Int)+1)))] w) (ct (jg (lA a n c b k d t tn tc) q) mz [(ae a n c),(ae b k d),(ae t tn tc),(aE (ai ak ((i:Int)+1)))] h))(e:Nat){j:Nat}{cy:Int}{h:au}(v:f e j cy h):cw lz (pq 39215) (p9 a n c b k d t tn tc i j cy) h (fQ lz (pq 89) (pq 303) (RR lz (pq 303) (jg (lA a n c b k d t tn tc) q) mz (eu lz (pq 175) Q))):=
 mc (p9 a n c b k d t tn tc i) f (λe j cy A h v=>bD (step e j cy A h v)) e v
theorem zM(X:Nat)(h:au):aX 275 [strOf (bn X)] h (λv b=>v=te X/\b=h):=by
 refine IK _ h _ (az (λa=>?_) (λa=>?_))
 ·have a:=dT a;refine⟨?_,rfl⟩;unfold te;rw[iP (by omega)];rfl
 ·have a:=dF a;refine⟨?_,rfl⟩;unfold te;rw[iN (by omega)];rfl
theorem Vo(a b:List UInt8){h:au}(w:Wf h):aX 251 [strOf a,strOf b] h (λv o=>v=ES a b/\Ok h o):=by
 refine Vn a b h _ ((gY a h).mono ?_);rintro _ f ⟨rfl,d⟩;obtain rfl:h=f:=d.symm;refine⟨_,rfl,az (λg=>?_) (λg=>?_)⟩
 ·have g:Num.valid a=aj:=by simpa using g
  refine⟨?_,Ok.refl w⟩;unfold ES;rw[iN (λe=>by rw[e.1]at g;cases g)]
 have g:Num.valid a=af:=by simpa using g
 refine(gY b h).mono ?_;rintro _ f ⟨rfl,d⟩;obtain rfl:h=f:=d.symm;refine⟨_,rfl,az (λc=>?_) (λc=>?_)⟩
 ·have c:Num.valid b=aj:=by simpa using c
  refine⟨?_,Ok.refl w⟩;unfold ES;rw[iN (λe=>by rw[e.2]at c;cases c)]
 have c:Num.valid b=af:=by simpa using c
 have p:ES a b=aE (iB (Num.val a) (Num.val b)):=by unfold ES;rw[iP ⟨g,c⟩]
 rw[p];obtain⟨m,rfl,j,l⟩:=gP g;obtain⟨n,rfl,i,k⟩:=gP c;have s:=jU j;have r:=jU i;rw[l,k];refine(ui m n (by omega) (by omega) h w).mono ?_;rintro _ g ⟨rfl,q⟩;exact⟨_,rfl,rfl,q⟩
theorem uA{a:List UInt8}(c:Num.valid a=af){h:au}(w:Wf h):aX 273 [strOf a] h (mn h 3 ((jw a).map iv)):=by
 have b:=(lG.1 c)
 exact vF a b.1.2.1 (bN b.2 (by omega)) h w
theorem ou{a:List UInt8}(b:Num.valid a=af):∀d∈jw a,d<10:=qh (lG.1 b).1.2.1
theorem sC{a:List UInt8}(b:Num.valid a=af):(jw a).length<=1000:=by
 rw[oT];exact(lG.1 b).2
theorem Iz{a b:List UInt8}(c:Num.valid a=af)(d:Num.valid b=af)(h:Num.val b<=Num.val a):b.length<=a.length:=by
 obtain⟨m,rfl,_,f⟩:=gP c;obtain⟨n,rfl,_,e⟩:=gP d;exact Nat.le_of_not_lt λg=>by have:=pG g;omega
theorem JU(a b:List UInt8){h:au}(w:Wf h):aX 252 [strOf a,strOf b] h (λv o=>v=E7 a b/\Ok h o):=by
 refine Vv a b h _ ((gY a h).mono ?_);rintro _ q ⟨rfl,p⟩;obtain rfl:h=q:=p.symm;refine⟨_,rfl,az (λg=>?_) (λg=>?_)⟩
 ·have g:Num.valid a=aj:=by simpa using g
  refine⟨?_,Ok.refl w⟩;unfold E7;rw[iN (λe=>by rw[e.1]at g;cases g)];rfl
 have g:Num.valid a=af:=by simpa using g
 refine(gY b h).mono ?_;rintro _ q ⟨rfl,p⟩;obtain rfl:h=q:=p.symm;refine⟨_,rfl,az (λc=>?_) (λc=>?_)⟩
 ·have c:Num.valid b=aj:=by simpa using c
  refine⟨?_,Ok.refl w⟩;unfold E7;rw[iN (λe=>by rw[e.2]at c;cases c)];rfl
 have c:Num.valid b=af:=by simpa using c
 have A:E7 a b=(if Num.val a<Num.val b then H4 [] 4 else H4 (bn (Num.val a-Num.val b)) 0):=by unfold E7;rw[iP ⟨g,c⟩]
 rw[A];have C:aX 277 [strOf a,strOf b] h (λv o=>v=aE (iB (Num.val a) (Num.val b))/\Ok h o):=by
  obtain⟨m,rfl,t,x⟩:=gP g;obtain⟨n,rfl,s,u⟩:=gP c;have P:=jU t;have G:=jU s;rw[x,u];exact ui m n (by omega) (by omega) h w
 refine C.mono ?_;rintro _ J ⟨rfl,f⟩;refine⟨_,rfl,az (λd=>?_) (λd=>?_)⟩
 ·have d:=dT d;rw[iP (Sg d)];exact⟨rfl,f⟩
 have d:=dF d;have j:=Sf d;rw[iN (Nat.not_lt.2 j)];refine(uA g f.wf).mono ?_;rintro _ K ⟨F,E,Q,rfl,B,k⟩;refine⟨_,_,_,rfl,(uA c k.wf).mono ?_⟩;rintro _ H ⟨L,D,N,rfl,z,i⟩;refine⟨_,_,_,rfl,(Hv (B.rd.ok i) z.rd (ou g) (ou c) (bN (sC g) (by omega)) i.wf).mono ?_⟩;rintro _ O ⟨M,R,I,rfl,y,l⟩;refine⟨_,_,_,rfl,(vG y.rd (IZ (ou g) (ou c) _ _ _ (by omega)) (by rw[iM];exact bN (sC g) (by omega)) l.wf).mono ?_⟩;rintro _ S ⟨rfl,r⟩;refine⟨_,rfl,?_,(((f.trans k).trans i).trans l).trans r⟩;rw[IY (ou g) (ou c) (by rw[oT,oT];exact Iz g c j) (by rw[j5,j5];exact j),j5,j5];rfl
theorem Ze:ca aq .rem 3 (aE (n:Int)) (aE 10)=aa (aE ((n%10:Nat):Int)):=by
 rw[show(10:Int)=((10:Nat):Int)from rfl,lV (by omega) (by decide),Int.natCast_emod]
theorem YW(h:n<1000000):ca aq .quo 3 (aE (n:Int)) (aE 10)=aa (aE ((n/10:Nat):Int)):=by
 have a:(n:Int).tdiv 10=((n/10:Nat):Int):=by
  rw[Int.tdiv_eq_ediv_of_nonneg (by omega)];rfl
 rw[KO aq 3 ak _ _ (by omega),a,cd (by omega) (by omega)]
theorem UZ{q c:Nat}(b:n<10)(a:q<10)(d:c<=1):(cL 10 n q c).2<=1:=by
 show(n+q+c)/10<=1;omega
theorem Vm(a b:List UInt8){h:au}(w:Wf h):aX 250 [strOf a,strOf b] h (λv m=>v=EN a b/\Ok h m):=by
 refine Vl a b h _ ((gY a h).mono ?_);rintro _ W ⟨rfl,T⟩;obtain rfl:h=W:=T.symm;refine⟨_,rfl,az (λg=>?_) (λg=>?_)⟩
 ·have g:Num.valid a=aj:=by simpa using g
  refine⟨?_,Ok.refl w⟩;unfold EN;rw[iN (λe=>by rw[e.1]at g;cases g)];rfl
 have g:Num.valid a=af:=by simpa using g
 refine(gY b h).mono ?_;rintro _ W ⟨rfl,T⟩;obtain rfl:h=W:=T.symm;refine⟨_,rfl,az (λd=>?_) (λd=>?_)⟩
 ·have d:Num.valid b=aj:=by simpa using d
  refine⟨?_,Ok.refl w⟩;unfold EN;rw[iN (λe=>by rw[e.2]at d;cases d)];rfl
 have d:Num.valid b=af:=by simpa using d
 have hS:EN a b=te (Num.val a+Num.val b):=by unfold EN;rw[iP ⟨g,d⟩]
 rw[hS];refine(uA g w).mono ?_;rintro _ h2 ⟨a2,k,c2,rfl,o2,H⟩;refine⟨_,_,_,rfl,(uA d H.wf).mono ?_⟩;rintro _ h3 ⟨a3,f,c3,rfl,o3,B⟩;refine⟨_,_,_,rfl,?_⟩;have r1:=o2.rd.ok B;have r2:=o3.rd;have ok:=H.trans B;have V:=B.wf;have x0:k=(jw a).length:=by have:=r1.len;rwa[aH]at this
 have Y:f=(jw b).length:=by have:=r2.len;rwa[aH]at this
 have l1:=sC g;have l2:=sC d;have L:=ou g;have X:=ou d;have e1:=j5 a;have e2:=j5 b;generalize jw a=x at*;generalize jw b=y at*;have x1:∀j,iK (cL 10) x y 0 0 j<=1:=by
  intro j
  induction j with
  |zero=>exact ck _
  |succ j ih=>exact UZ (cV (by decide) L _) (cV (by decide) X _) ih
 have s:=C1 (b:=10) (by decide) L X (max x.length y.length+1) 0 0 (by omega) (by omega) (by omega) (by omega);rw[bO,bO,e1,e2,eR]at s;rw[<-x0,<-Y]at s;have x6:=pJ k f;have x5:=oH k f;have x3:max k f<=1000:=max_le.2 ⟨by omega,by omega⟩;have x4:k=max k f\/f=max k f:=by omega
 generalize max k f=N at*;refine Cs a b a2 k c2 a3 f c3 (λmz i cy r rn rc g=>i<=N+1/\mz=N+1-i/\cy=(iK (cL 10) x y 0 0 i:Nat)/\hJ h3 g 3 (ae r rn rc) ((dq (cL 10) x y 0 i 0).map iv)/\Ok h3 g) (λv m=>v=te (Num.val a+Num.val b)/\Ok h m) (by
  intro mz i cy r rn rc;intros;rename_i o hi;obtain⟨f1,f2,rfl,R,l⟩:=hi;have Z:ai ak ((i:Int)+1)=((i+1:Nat):Int):=by rw[cd (by omega) (by omega)];omega
  rw[Z];have z:(dq (cL 10) x y 0 i 0).length=i:=iM _ _ _ _ _ _;have t:=lK (cL 10) x y i 0 0;rw[bJ]at t;have A:iK (cL 10) x y 0 0 (i+1)=(cL 10 (x.getD i 0) (y.getD i 0) (iK (cL 10) x y 0 0 i)).2:=by
   show(cL 10 (x.getD (0+i) 0) (y.getD (0+i) 0) _).2=_;rw[bJ]
  have x7:=x1 i;have hp:=cV (by omega) L i;have hq:=cV (by omega) X i;generalize iK (cL 10) x y 0 0 i=E at*;have n:∀hg:i<N+1,aX 274 [(ae a2 k c2),(aE (i:Int))] o (λv m=>v=aE (x.getD i 0:Nat)/\m=o)/\aX 274 [(ae a3 f c3),(aE (i:Int))] o (λv m=>v=aE (y.getD i 0:Nat)/\m=o):=λ_=>⟨xJ (r1.ok l) i,xJ (r2.ok l) i⟩
  have G:ai ak (((x.getD i 0:Nat):Int)+((y.getD i 0:Nat):Int))=((x.getD i 0+y.getD i 0:Nat):Int):=by rw[cd (by omega) (by omega)];omega
  have F:ai ak (((x.getD i 0+y.getD i 0:Nat):Int)+(E:Int))=((x.getD i 0+y.getD i 0+E:Nat):Int):=by rw[cd (by omega) (by omega)];omega
  refine az (λD=>?_) (λD=>az (λC=>?_) (λC=>?_))
  ·have D:=dT D;obtain⟨S,M⟩:=n (by omega);refine S.mono ?_;rintro _ _ ⟨rfl,rfl⟩;refine⟨_,rfl,M.mono ?_⟩;rintro _ _ ⟨rfl,rfl⟩;rename_i o;refine⟨_,rfl,?_⟩;dsimp only;rw[G,F];obtain⟨Q,O,J,u,P,g7,I,U⟩:=HB V l R (((x.getD i 0+y.getD i 0+E)%10:Nat):Int) (by rw[aH,z];omega);refine⟨_,Ze,_,_,_,Bw _,Q,O,J,u,P,_,YW (by omega),ow (mz-1) (by omega) ⟨by omega,by omega,by rw[A];rfl,?_,U⟩⟩;rw[t,bK];exact I
  ·have C:=dT C;obtain⟨S,M⟩:=n (by omega);refine S.mono ?_;rintro _ _ ⟨rfl,rfl⟩;refine⟨_,rfl,M.mono ?_⟩;rintro _ _ ⟨rfl,rfl⟩;rename_i o;refine⟨_,rfl,?_⟩;dsimp only;rw[G,F];obtain⟨Q,O,J,u,P,g7,I,U⟩:=HB V l R (((x.getD i 0+y.getD i 0+E)%10:Nat):Int) (by rw[aH,z];omega);refine⟨_,Ze,_,_,_,Bw _,Q,O,J,u,P,_,YW (by omega),ow (mz-1) (by omega) ⟨by omega,by omega,by rw[A];rfl,?_,U⟩⟩;rw[t,bK];exact I
  ·have D:=dF D;have C:=dF C;obtain rfl:i=N+1:=by omega
   refine(vG R.rd (mP (λp q c=>dJ _ (by decide)) _ _ _ 0 0) (by rw[z];omega) l.wf).mono ?_;rintro _ h4 ⟨rfl,x2⟩;refine⟨_,rfl,?_⟩;rw[s];refine(zM _ h4).mono ?_;rintro _ _ ⟨rfl,rfl⟩;exact Fx (K:=λv=>v=te (Num.val a+Num.val b)/\Ok h _) (BV _) ⟨rfl,(ok.trans l).trans x2⟩)
  (N+1) (i:=0) ⟨by omega,by omega,rfl,.inl ⟨rfl,rfl⟩,Ok.refl V⟩
end Go.Proofs.YtnlccnpbjeiccaaGreatDoor
end
section
set_option linter.defProp false
namespace Go.Proofs.YtnlccnpbjeiccaaGreatDoor
open Go Go.Ab Go.Num
variable{k:Nat}{n:Nat}{m:Nat}{h:au}{a:Option aJ}{g:au}{x:List Nat}
noncomputable def ti3:TypeInfo:=(aq.info? 3).getD default
theorem ae7:aq.info? 3=aa ti3:=by kernel_rfl
theorem Z6:ti3.size=1:=by kernel_rfl
theorem V2:ti3.bytes=8:=by kernel_rfl
theorem ahi:zeroOf aq 3=aa (iv 0):=by kernel_rfl
theorem agt(n:Nat)(a:n<=100000):dD aq 27 (aE (n:Int)) (aE (n:Int))=aa (.cells ((aQ n 0).map iv) 3 1 af,qe n n):=by
 unfold dD dK;dsimp only;rw[me]
 try dsimp only
 change (match aq.info? 3,zeroOf aq 3 with
  |some i,aa z=>(if z.cells.size=i.size/\0<i.size/\(0:Int)<=(n:Int)/\(n:Int)<=(n:Int)/\(n:Int)*i.bytes<=140737488355328/\(n:Int)<=1099511627776 then aa (eA.cells (fb z.cells.toList (n:Int).toNat) 3 i.size af,λk=>ae (aa ⟨k,0,none⟩) (n:Int).toNat (n:Int).toNat)else none)
  |_,_=>none)=_
 rw[ae7,ahi];dsimp only;rw[Z6,V2,iP ⟨rfl,by omega,by omega,gr _,by omega,by omega⟩];have e:((n:Int)).toNat=n:=by omega
 rw[e,show(iv 0).cells.toList=[iv 0]from rfl,tU,jO];rfl
theorem agd{c:Nat}{i:Int}(b:0<=i)(a:i<m):aW aq 27 (gJ k n m c) (aE i)=aa (df k (n+i.toNat*1)):=GI me IS b a
theorem atI{c:Nat}{l:List Nat}(r:Rd h 3 (ae a n c) (l.map iv)){i:Int}(e:0<=i)(f:i<l.length):∃p:aJ,aW aq 27 (ae a n c) (aE i)=aa (bw p)/\aS aq 3 h (bw p)=aa (aE (l.getD i.toNat 0:Nat)):=by
 obtain⟨p,d,b⟩:=r.at_ me IS zs zb (k:= ak) (i:=i) e (by rw[aH];omega);rw[wZ l i.toNat (by omega)]at b;exact⟨p,d,b⟩
theorem Mu(n:Int):oQ 4 (aE n) (aE n)=af:=by simp[oQ]
structure RP(hb:au)(kt N:Nat)(L:List Nat)(g:au):Prop where
 len:L.length=N
 lt:∀d∈L,d<10
 row:ur hb kt 3 (L.map iv) g
theorem RP.get{c:Nat}{f:au}(a:RP g n m x f){jn:Nat}(b:jn<m):aW SS.P 27 (.slice (some ⟨n,0,none⟩) m c) (.int .i64 (jn:Int))=some (.pointer (some ⟨n,0+(jn:Int).toNat*1,none⟩))/\aS SS.P 3 f (.pointer (some ⟨n,0+(jn:Int).toNat*1,none⟩))=some (.int .i64 (x.getD jn 0:Nat))/\
  ∀d:Nat,d<10->Wf g->∃u:ek,bh SS.P 3 (.pointer (some ⟨n,0+(jn:Int).toNat*1,none⟩)) (.int .i64 (d:Int)) f=some (undef,u)/\RP g n m (x.set jn d) (u.app f):=by
 have e:0+(jn:Int).toNat*1=jn:=by omega
 refine⟨agd (by omega) (by omega),?_,?_⟩
 ·rw[e,ej zs zb a.row.row (by rw[lM,a.len];exact b),wZ x jn (by rw[a.len];exact b)]
 ·intro d j w;rw[e];refine⟨_,kG IS a.row.row (by rw[lM,a.len];exact b) rfl rfl,by rw[List.length_set];exact a.len,λe i=>?_,?_⟩
  ·rcases List.mem_or_eq_of_mem_set i with h|h
   ·exact a.lt e h
   ·rw[h];exact j
  ·have:=a.row.set w jn (.int .i64 (d:Int));rw[show(Value.int .i64 (d:Int))=iv d from rfl,Mn iv x jn d]at this;rw[show(Value.int .i64 (d:Int))=iv d from rfl,Mn iv x jn d];exact this
def adM(a:au)(b N n:Nat)(x y:List Nat)(mz i:Nat)(g:au):Prop:=i<=n/\mz=n-i/\∃L,RP a b N L g/\Num.bv 10 L=Num.bv 10 (x.take i)*Num.bv 10 y
def ahV(b:au)(c N k:Nat)(x y:List Nat)(i mz j:Nat)(cy:Int)(g:au):Prop:=j<=k+1/\mz=k+1-j/\∃(L:List Nat)(a:Nat),cy=(a:Int)/\a<10/\RP b c N L g/\Num.bv 10 L+a*10^(i+j)=Num.bv 10 (x.take i)*Num.bv 10 y+x.getD i 0*Num.bv 10 (y.take j)*10^i
def Zg{f:au}(w:Wf f){a:Option aJ}{n c:Nat}{b:Option aJ}{k d:Nat}{s N tc:Nat}{x y:List Nat}(U:Rd f 3 (ae a n c) (x.map iv))(T:Rd f 3 (ae b k d) (y.map iv))(G:∀d∈x,d<10)(J:∀d∈y,d<10){i:Nat}(hi:i<n)(hn:n=x.length)(Z:k=y.length)(hN:N=n+k+1)(x0:N<=10000)(l m:List UInt8)(Q:VH)(mz:Nat)(x2:mz=n-i):=
 Cz l m a n c b k d (aa ⟨s,0,none⟩) N tc (adM f s N n x y) mz i (ahV f s N k x y i) Q (by
  intro F j cy;intros;rename_i g C;obtain⟨h1,h2,L,o,rfl,O,e,H⟩:=C;have K:ai ak ((i:Int)+(j:Int))=((i+j:Nat):Int):=by rw[cd (by omega) (by omega)];omega
  have e2:ai ak ((j:Int)+1)=((j+1:Nat):Int):=by rw[cd (by omega) (by omega)];omega
  have V:ai ak ((i:Int)+1)=((i+1:Nat):Int):=by rw[cd (by omega) (by omega)];omega
  rw[K,e2,V];refine az (λr=>?_) (λr=>?_)
  ·have r:=dT r;have h:RP f s N L (Go.Ab.room g 18):=⟨e.len,e.lt,⟨e.row.row,e.row.new,e.row.ok.room 18⟩⟩
   obtain⟨I,D,g3⟩:=h.get (c:=tc) (jn:=i+j) (by omega);obtain⟨M,f1,A⟩:=atI (U.ok h.row.ok) (i:=(i:Int)) (by omega) (by omega);rw[bc]at A;refine⟨_,I,_,D,M,f1,_,A,(xJ (T.ok h.row.ok) j).mono ?_⟩;rintro _ _ ⟨rfl,rfl⟩;refine⟨_,rfl,⟨D,Mu _⟩,⟨A,Mu _⟩,?_⟩;have v:=cV (b:=10) (by decide) G i;have t:=cV (b:=10) (by decide) J j;have x1:=cV (b:=10) (by decide) e.lt (i+j);obtain⟨q,z⟩:∃q,q=x.getD i 0*y.getD j 0:=⟨_,rfl⟩
   have x3:q<=81:=by rw[z];exact bN (fy (Nat.le_of_lt_succ v) (Nat.le_of_lt_succ t)) (by decide)
   have E:=Ac (B:=10) (by decide) (L:=L) (y:=y) (i:=i) (k:=j) (cy:=o) (xi:=x.getD i 0) (P:=Num.bv 10 (x.take i)*Num.bv 10 y) (p:=L.getD (i+j) 0+o+q) e.lt (by rw[e.len];omega) O v t (by rw[z]) H;have W:ai ak (((x.getD i 0:Nat):Int)*((y.getD j 0:Nat):Int))=(q:Int):=by rw[<-Int.natCast_mul,<-z];exact cd (by omega) (by omega)
   rw[W];have e5:ai ak (((L.getD (i+j) 0:Nat):Int)+(q:Int))=((L.getD (i+j) 0+q:Nat):Int):=by rw[cd (by omega) (by omega)];omega
   rw[e5];have Y:ai ak (((L.getD (i+j) 0+q:Nat):Int)+(o:Int))=((L.getD (i+j) 0+o+q:Nat):Int):=by rw[cd (by omega) (by omega)];omega
   rw[Y];generalize L.getD (i+j) 0+o+q=S at*;obtain⟨u,X,R⟩:=g3 (S%10) (dJ _ (by decide)) w;refine⟨_,Ze,_,I,u,X,_,YW (by omega),iu (F-1) (by omega) ⟨by omega,by omega,_,_,rfl,E.2.1,R,E.2.2⟩⟩
  ·have r:=dF r;obtain rfl:j=k+1:=by omega
   refine fC (n-(i+1)) (by omega) ⟨by omega,rfl,L,e,?_⟩;exact I0 (by decide) G J (by omega) e.lt (by rw[<-Z];exact H))
theorem Vu(a b:List UInt8){h:au}(w:Wf h):aX 253 [strOf a,strOf b] h (λv r=>v=E0 a b/\Ok h r):=by
 refine Vt a b h _ ((gY a h).mono ?_);rintro _ t ⟨rfl,s⟩;obtain rfl:h=t:=s.symm;refine⟨_,rfl,az (λg=>?_) (λg=>?_)⟩
 ·have g:Num.valid a=aj:=by simpa using g
  refine⟨?_,Ok.refl w⟩;unfold E0;rw[iN (λe=>by rw[e.1]at g;cases g)];rfl
 have g:Num.valid a=af:=by simpa using g
 refine(gY b h).mono ?_;rintro _ t ⟨rfl,s⟩;obtain rfl:h=t:=s.symm;refine⟨_,rfl,az (λk=>?_) (λk=>?_)⟩
 ·have k:Num.valid b=aj:=by simpa using k
  refine⟨?_,Ok.refl w⟩;unfold E0;rw[iN (λe=>by rw[e.2]at k;cases k)];rfl
 have k:Num.valid b=af:=by simpa using k
 have S:E0 a b=te (Num.val a*Num.val b):=by unfold E0;rw[iP ⟨g,k⟩]
 rw[S];refine(uA g w).mono ?_;rintro _ h2 ⟨H,c,U,rfl,V,q⟩;refine⟨_,_,_,rfl,(uA k q.wf).mono ?_⟩;rintro _ m ⟨N,f,P,rfl,O,o⟩;refine⟨_,_,_,rfl,?_⟩;have A:=V.rd.ok o;have C:=O.rd;have ok:=q.trans o;have E:=o.wf;have D:c=(jw a).length:=by have:=A.len;rwa[aH]at this
 have z:f=(jw b).length:=by have:=C.len;rwa[aH]at this
 have l1:=sC g;have l2:=sC k;have J:=ou g;have hy:=ou k;have M:=j5 a;have I:=j5 b;generalize jw a=x at*;generalize jw b=y at*;generalize Num.val a=X at*;generalize Num.val b=Y at*;have G:ai ak (ai ak ((c:Int)+(f:Int))+1)=((c+f+1:Nat):Int):=by
  rw[cd (n:=(c:Int)+(f:Int)) (by omega) (by omega),cd (by omega) (by omega)];omega
 dsimp only;rw[G];refine⟨_,_,_,agt _ (by omega),?_⟩;have T:RP m m.aD (c+f+1) (aQ (c+f+1) 0) (m.push (.cells ((aQ (c+f+1) 0).map iv) 3 1 af)):=by
  refine⟨bX,λd Z=>by rw[(List.mem_replicate.1 Z).2];decide,?_,aT _,(Ok.refl E).push _⟩;rw[au.cY,iP rfl]
 refine Cy a b H c U N f P (aa ⟨m.aD,0,none⟩) (c+f+1) (c+f+1) (adM m m.aD (c+f+1) c x y) (λv r=>v=te (X*Y)/\Ok h r) (λmz i=>?_) c (i:=0) ⟨by omega,by omega,_,T,by rw[wE,dQ];simp[Num.bv]⟩;intros;rename_i gg R;obtain⟨f1,Q,L,l,u⟩:=R;refine az (λp=>?_) (λp=>?_)
 ·have p:=dT p;exact Zg E A C J hy (i:=i) (by omega) D z rfl (by omega) a b _ mz Q (f+1) (j:=0) (cy:=0) ⟨by omega,by omega,L,0,rfl,by decide,l,by rw[u,dQ];simp[Num.bv]⟩
 ·have p:=dF p;obtain rfl:c=i:=by omega
  rw[bC (by omega),M,I]at u;have F:=l.row.rd (c+f+1);rw[aH,l.len]at F;refine(vG F l.lt (by rw[l.len];omega) l.row.ok.wf).mono ?_;rintro _ W ⟨rfl,B⟩;refine⟨_,rfl,?_⟩;rw[u];refine(zM _ W).mono ?_;rintro _ _ ⟨rfl,rfl⟩;exact Fx (K:=λv=>v=te (X*Y)/\Ok h _) (BV _) ⟨rfl,(ok.trans l.row.ok).trans B⟩
end Go.Proofs.YtnlccnpbjeiccaaGreatDoor
end
