/- Laws and walks that the proof leans on (part 2): AbFastOk5; AbFastOk6; AbPrims; AbMemo; AbTab; AbWp and others. No condition. -/
import Derived.Test.YtnlccnpbjeiccaaGreatDoorPart1
import Derived.Laws.Externs
import Derived.Below
import Derived.Attr
import Derived.Laws.Bits64
import Derived.Shelf.SortM.Plain
import Derived.Shelf.SortM.SortNone
import Derived.ChangeArms
import Derived.DataElems
import Derived.ChangeSame
import Derived.Test.YtnlccnpbjeiccaaGreatDoorProg
set_option linter.unusedVariables false
set_option linter.unusedSimpArgs false
set_option maxRecDepth 100000
open Bool renaming and_eq_true → bg, false → aj, false_eq_true → dG, not_eq_true' → cK, true → af
open Classical renaming propDecidable → dU
open Go renaming Addr → aJ, FuncId → bW, IntKind → ee, Oper → aR, Operand → bm, Program → aO, TypeId → aF, Value → ag, World → aU
open Go.DataW renaming trod → fv
open Go.IntKind renaming i64 → ak, u64 → aw, u8 → aK, wrap → ai
open Go.Value renaming agg → al, bool → ah, func → aN, int → aC, pointer → bj, slice → ae, string → bt, tuple → av
open Int renaming toNat_natCast → bc
open List renaming all_append → gH, all_cons → ep, all_eq_true → bY, append_assoc → bP, append_nil → cp, cons_append → fh, drop_eq_getElem_cons → cX, drop_eq_nil_of_le → bV, drop_of_length_le → gT, drop_zero → bO, eq_nil_of_length_eq_zero → bE, ext_getElem? → dH, filterMap_cons → kO, flatten_append → ie, flatten_cons → kg, foldl_cons → j7, length_append → bF, length_cons → bU, length_drop → da, length_map → aH, length_pos_iff → fE, length_replicate → bX, length_set → dt, length_singleton → de, length_take → bq, map_append → bK, map_cons → eK, mem_append → bG, mem_append_left → ey, mem_cons → cW, mem_cons_of_mem → cF, mem_cons_self → cj, mem_filter → fe, mem_map → cI, mem_of_getElem? → aM, mem_of_mem_take → dy, mem_or_eq_of_mem_set → jW, mem_singleton → ba, nil_append → dL, nodup_append → fx, pairwise_singleton → je, range → dA, rec → gj, replicate → aQ, take_append_drop → dM, take_length → fi, take_of_length_le → bC, take_succ_eq_append_getElem → eH, take_zero → dQ
open Nat renaming add_mul → dh, add_zero → eR, beq → dk, blt → cQ, div_eq_of_lt → hW, div_lt_of_lt_mul → eB, div_lt_self → pI, eq_zero_or_pos → dv, le_add_right → du, le_refl → aT, le_succ → fA, le_trans → bN, lt_of_lt_of_le → cD, lt_or_ge → db, lt_succ_self → ff, min_eq_left → dI, mod_add_div → jP, mod_eq_of_lt → ef, mod_lt → dJ, mul_add → kh, mul_add_div → mU, mul_add_mod → pK, mul_assoc → iI, mul_comm → cS, mul_le_mul → fy, mul_le_mul_left → eS, mul_le_mul_right → bM, mul_one → dB, mul_succ → nM, mul_zero → hZ, not_lt_zero → dR, one_mul → ew, pow_le_pow_right → di, pow_succ → fF, strongRecOn → fj, succ_le_of_lt → ir, zero_add → bJ, zero_le → ck, zero_mul → kj
open Option renaming map_eq_some_iff → bo, map_some → gf, rec → fW, some → aa
open Option.some renaming inj → aG, injEq → aZ
open Prod.mk renaming injEq → bu
open UInt8 renaming toNat_inj → fL
open List (all_nil drop_drop drop_take getElem?_drop getElem?_eq_none getElem?_of_mem getElem?_take getElem_mem)
open Nat (add_comm beq_eq ble_eq blt_eq succ_mul)
open Array (getElem?_toList)
section
namespace Go.Ab
open Go
variable{P:aO}{r:bm->ag}{q:aR}{h:au}{U:Array aR}{n:Nat}{j:Nat}{c:List ag}{v:ag}
section
variable {cx:Cx} {cf:fO}
theorem vL(a:Nat):∀(l:List (Nat×eA))(h:au)(K:au->Bool),tS a l h K=K (cr h a l)
 |[],_,_=>rfl
 |(i,B)::l,h,K=>by
  show tS a l h (λh=>HT.uR (aa B) (pathOf (a+i)) h.t λt=>K ⟨h.aD,t⟩)=_;rw[vL a l h,HT.kC];rfl
theorem Xo{m:ag×ek}(g:TV q.op = .p)(a:fK P cf r q h=aa m):eN P r q=aa m.1/\m.2 = .no:=by
 obtain⟨j,k,n,i,f,e⟩:=q;unfold fK at a
 cases l:eN P r ⟨j,k,n,i,f,e⟩with
 |some v=>rw[l]at a;obtain rfl:=aG a;exact⟨rfl,rfl⟩
 | none=>
  rw[l]at a
  cases k with
  |call c=>
   obtain⟨d,o,p⟩:=c
   cases d with
   |builtin b=>cases b<;>exact nomatch g
   |_=>exact nomatch g
  |_=>first|(change (none:Option (ag×ek))=aa m at a;exact nomatch a)|cases g
theorem Xp{s:ag×ek}(p:TV q.op = .r)(m:fK P cf r q h=aa s):eN P r q=none/\dW P r q h=aa s.1/\s.2 = .no:=by
 obtain⟨g,i,j,f,e,d⟩:=q;have n:eN P r ⟨g,i,j,f,e,d⟩=none->(dW P r ⟨g,i,j,f,e,d⟩ h=none->fK P cf r ⟨g,i,j,f,e,d⟩ h=none)->eN P r ⟨g,i,j,f,e,d⟩=none/\dW P r ⟨g,i,j,f,e,d⟩ h=aa s.1/\s.2 = .no:=λu l=>by
  refine⟨u,?_⟩
  cases o:dW P r ⟨g,i,j,f,e,d⟩ h with
  |none=>rw[l o]at m;cases m
  |some v=>
   unfold fK at m;rw[u,o]at m;obtain rfl:=aG m;exact⟨rfl,rfl⟩
 cases i with
 |load t a=>exact n rfl λl=>by unfold fK;rw[l];rfl
 |call c=>
  obtain⟨k,w,x⟩:=c
  cases k with
  |builtin b=>cases b<;>first|exact n rfl λl=>by unfold fK;rw[l];rfl|cases p
  |_=>exact nomatch p
 |_=>exact nomatch p
theorem aba{ρ:bm->ag}(e:TV q.op = .e):(∀h,eN P ρ q=none/\dW P ρ q h=none/\dK P ρ q=none)/\fK P cf ρ q h=ia P cf ρ q h:=by
 obtain⟨m,j,o,l,i,g⟩:=q
 cases j with
 |store t a x=>exact⟨λ_=>⟨rfl,rfl,rfl⟩,rfl⟩
 |call c=>
  obtain⟨d,k,n⟩:=c
  cases d with
  |builtin b=>cases b<;>first|exact⟨λ_=>⟨rfl,rfl,rfl⟩,rfl⟩|cases e
  |value f=>exact⟨λ_=>⟨rfl,rfl,rfl⟩,rfl⟩
  |_=>exact nomatch e
 |_=>exact nomatch e
theorem TW(h:TV q.op = .d):eh q=aj:=by
 obtain⟨j,e,l,i,d,b⟩:=q
 cases e with
 |call c=>
  obtain⟨a,g,k⟩:=c
  cases a with
  |value f=>exact nomatch h
  |_=>rfl
 |_=>rfl
noncomputable def vj(P:aO)(cf:fO)(c:Nat->Nat->Bool)(a j:Nat)(o:aR)(d:bm->ag)(h:au)(b:List (Nat×eA)):Option (rI×ag×au×List (Nat×eA)):=
 match eN P d o with
 |some v=>aa (.pure v,v,h,b)
 | none=>match dW P d o h with
  |some v=>aa (.read v,v,h,b)
  | none=>match dK P d o with
   |some (B,f)=>aa (.alloc B (f (a+j)),f (a+j),h,(j,B)::b)
   |none=>match ia P cf d o (cr h a (b.filter λp=>c j p.1))with
    |some (v,u)=>aa (.zD v (u.app (cr h a (b.filter λp=>c j p.1))),v,u.app (cr h a (b.filter λp=>c j p.1)),b.filter λp=> !c j p.1)
    |none=>none
theorem Xt(g:A7 cx cf){bf:Nat->Nat->Bool}{base j:Nat}{o:aR}{ρ:bm->ag}{h:au}{pd:List (Nat×eA)}{K:adS}:
  Ref cx.bad (Xs cx bf base j o ρ h pd K) (vj cx.P cf bf base j o ρ h pd) λr=>K r.1 r.2.1 r.2.2.1 r.2.2.2:=by
 unfold Xs
 cases k:TV o.op with
 |p=>
  rcases Fo g (ρ:=ρ) (h:=h) (K:=λv _=>K (.pure v) v h pd) o with a|⟨r,a,i⟩
  ·exact .inl a
  ·obtain⟨c,_⟩:=Xo k a;exact .of (r:=(.pure r.1,r.1,h,pd)) (by unfold vj;rw[c]) i
 |r=>
  rcases Fo g (ρ:=ρ) (h:=h) (K:=λv _=>K (.read v) v h pd) o with a|⟨r,a,i⟩
  ·exact .inl a
  ·obtain⟨c,l,_⟩:=Xp k a;exact .of (r:=(.read r.1,r.1,h,pd)) (by unfold vj;rw[c,l]) i
 |e=>
  show Ref cx.bad (tS base (pd.filter λp=>bf j p.1) h λh=>opF o.op cx o ρ h λv b=>K (.zD v b) v b (pd.filter λp=> !bf j p.1)) _ _;rw[vL];rcases Fo g (ρ:=ρ) (h:=cr h base (pd.filter λp=>bf j p.1)) (K:=λv b=>K (.zD v b) v b (pd.filter λp=> !bf j p.1)) o with a|⟨⟨v,u⟩,a,i⟩
  ·exact .inl a
  ·obtain⟨c,l⟩:=aba (P:=cx.P) (ρ:=ρ) (cf:=cf) (h:=cr h base (pd.filter λp=>bf j p.1)) k;obtain⟨q,n,m⟩:=c h;rw[l]at a;exact .of (r:=(.zD v (u.app (cr h base (pd.filter λp=>bf j p.1))),v,u.app (cr h base (pd.filter λp=>bf j p.1)),pd.filter λp=> !bf j p.1))
    (by unfold vj;rw[q,n,m,a]) i
 | d=>
  show Ref cx.bad (aek cx bf base j o ρ h pd K) _ _;unfold aek vj
  cases w:eN cx.P ρ o with
  |some v=>exact .of rfl (mE _ _)
  | none=>
   cases x:dW cx.P ρ o h with
   |some v=>exact .of rfl (mE _ _)
   | none=>
    cases t:dK cx.P ρ o with
    |some r=>
     obtain⟨B,f⟩:=r;refine .of rfl ?_;show Ny B (λB=>ub (f (base+j)) λv=>K (.alloc B v) v h ((j,B)::pd))=_;rw[BK,mE]
    | none=>
     show Ref cx.bad (tS base (pd.filter λp=>bf j p.1) h λh=>UU cx.bad (ia cx.P mZ ρ o h) h λv b=>K (.zD v b) v b (pd.filter λp=> !bf j p.1)) _ _;rw[vL,AA (cf:=cf) (TW k)]
     cases s:ia cx.P cf ρ o (cr h base (pd.filter λp=>bf j p.1))with
     |none=>exact .bad
     |some r=>
      obtain⟨v,u⟩:=r;refine .of rfl ?_;show aaU u (cr h base (pd.filter λp=>bf j p.1)) (λb=>ub v λv=>K (.zD v b) v b (pd.filter λp=> !bf j p.1))=_;rw[KL,mE]
theorem KW{g:Nat->Bool}{e:Nat->Nat->Bool}{b:List aR}{l:List (Nat×eA)}(m:jX U c q=aa af)
  {r:rI×ag×au×List (Nat×eA)} (a:vj P cf e n j q (ev g c) h l=aa r):
  hE P g cf U e n (q::b) j c h l=(hE P g cf U e n b (j+1) (lR c q.dst r.2.1) r.2.2.1 r.2.2.2).map λx=>((c,r.1)::x.1,x.2):=by
 unfold vj at a;simp only[hE,m];split at a
 ·next v k=>obtain rfl:=aG a;simp only[k]
 ·next k=>
  simp only[k];split at a
  ·next v d=>obtain rfl:=aG a;simp only[d]
  ·next d=>
   simp only[d];split at a
   ·next B f i=>obtain rfl:=aG a;simp only[i]
   ·next i=>
    simp only[i];split at a
    ·next v u o=>obtain rfl:=aG a;simp only[o]
    ·cases a
inductive TA(n:Nat):List aR->List KG->List (List ag×rI)->Prop where
 |nil:TA n [] [] []
 |cons {o:aR} {os:List aR} {e:Env} {ent:rI} {tm:List ag} {a:List KG} {b:List (List ag×rI)} (h:kD n e tm) (r:TA n os a b):TA n (o::os) ((o,e,ent)::a) ((tm,ent)::b)
theorem vk(s:A7 cx cf){ops:Array aR}{bf:Nat->Nat->Bool}{base:Nat}:∀(l:List aR){j:Nat}{e:Env}{r:List ag}{h:au}{pd:List (Nat×eA)}{K:List KG->Env->au->List (Nat×eA)->Bool},kD cx.n e r->
  pM cx ops bf base l j e h pd K=cx.bad\/ ∃a p x q i f,hE cx.P cx.gl cf ops bf base l j r h pd=aa (a,p,x,q)/\kD cx.n f p/\TA cx.n l i a/\pM cx ops bf base l j e h pd K=K i f x q
 |[],j,e,r,h,pd,K,m=> .inr ⟨[],r,h,pd,[],e,rfl,m,.nil,rfl⟩
 | o::c,j,e,r,h,pd,K,m=>by
  have F:pM cx ops bf base (o::c) j e h pd K=HN ops e cx.bad o.guard
   (Xs cx bf base j o (Sl cx.gl e) h pd λk v h pd=>zk cx.n o.dst e v λf=>pM cx ops bf base c (j+1) f h pd λa g d b=>K ((o,e,k)::a) g d b)
   (zk cx.n o.dst e undef λf=>pM cx ops bf base c (j+1) f h pd λa g d b=>K ((o,e,.skip)::a) g d b):=rfl
  rw[F];rcases Pn m (ops:=ops) o cx.bad (Xs cx bf base j o (Sl cx.gl e) h pd λk v h pd=>zk cx.n o.dst e v λf=>pM cx ops bf base c (j+1) f h pd λa g d b=>K ((o,e,k)::a) g d b)
   (zk cx.n o.dst e undef λf=>pM cx ops bf base c (j+1) f h pd λa g d b=>K ((o,e,.skip)::a) g d b)with t|⟨t,d⟩|⟨t,d⟩
  ·exact .inl t
  ·rw[d];rcases Xt s (bf:=bf) (base:=base) (j:=j) (o:=o) (ρ:=Sl cx.gl e) (h:=h) (pd:=pd) (K:=λk v h pd=>zk cx.n o.dst e v λf=>pM cx ops bf base c (j+1) f h pd λa g d b=>K ((o,e,k)::a) g d b)with w|⟨⟨k,v,x,q⟩,w,G⟩
   ·exact .inl w
   ·rw[G];rw[Gr m]at w;obtain⟨f,C,B⟩:=Ci m o.dst v;simp only[B];rcases vk s c C (ops:=ops) (bf:=bf) (base:=base) (j:=j+1) (h:=x) (pd:=q) (K:=λa g d b=>K ((o,e,k)::a) g d b)with n|⟨a,p,D,z,i,E,n,y,A,u⟩
    ·exact .inl n
    ·refine .inr ⟨_,_,_,_,_,_,?_,y,.cons m A,u⟩;rw[KW t w,n];rfl
  ·rw[d];obtain⟨f,C,B⟩:=Ci m o.dst undef;rw[B];rcases vk s c C (ops:=ops) (bf:=bf) (base:=base) (j:=j+1) (h:=h) (pd:=pd) (K:=λa g d b=>K ((o,e,.skip)::a) g d b)with n|⟨a,p,D,z,i,E,n,y,A,u⟩
   ·exact .inl n
   ·refine .inr ⟨_,_,_,_,_,_,?_,y,.cons m A,u⟩;simp only[hE,t,n];rfl
theorem XA{d:List aR}{a:List KG}{b:List (List ag×rI)}(h:TA n d a b):∀j,Jl a j=iV b j:=by
 induction h with
 |nil=>intro j;rfl
 |cons _ _ f=>
  rename_i o d e c g a b _ _;intro j;show af1 c j (Jl a (j+1))=_;rw[f]
  cases c<;>rfl
theorem Jg(a:Nat->Nat->Bool):∀(l:List (Nat×au))(p:Option Nat),De a l p=(match p,l with|some i,(j,_)::_=>a j i&&chained a l|_,_=>chained a l)
 |[],p=>by cases p<;>rfl
 | (j,h)::l,p=>by
  have c:=Jg a l (aa j);have b:chained a ((j,h)::l)=De a l (aa j):=by
   rw[c]
   cases l with
   |nil=>rfl
   |cons x l=>rfl
  cases p with
  |none=>show De a l (aa j)=_;exact b.symm
  |some i=>
   show oj (a j i) (De a l (aa j)) aj=(a j i&&chained a ((j,h)::l));rw[b]
   cases a j i<;>rfl
theorem OV{a:Nat->Bool}:Kd P q (ev a c) v h=nu P a q c v h:=by
 unfold Kd nu
 cases dW P (ev a c) q h<;>rfl
theorem Hs{P:aO}{c:Nat->Bool}{b:Nat->Nat->Bool}{j:Nat}{o:aR}{d:List ag}{v:ag}:∀(e:List (Nat×au))(h:au)(a:Bool),Fs P b j o (ev c d) v e h a=pY P c b j o d v h e a
 |[],h,a=>by
  show oj a af (Kd P o (ev c d) v h)=(a||nu P c o d v h);rw[OV];cases a<;>rfl
 |(x,f)::e,h,a=>by
  show oj (oj (oj a (cQ j x) aj) af (oj (b j x) af (Kd P o (ev c d) v h))) (oj (b x j) af (Fs P b j o (ev c d) v e f (cQ x j))) aj=(((a&&cQ j x)||b j x||nu P c o d v h)&&(b x j||pY P c b j o d v f e (cQ x j)));rw[OV,Hs e]
  cases a<;>cases cQ j x<;>cases b j x<;>cases b x j<;>cases nu P c o d v h<;>rfl
theorem Vi{f:List aR}{a:List KG}{b:List (List ag×rI)}{c:Nat->Nat->Bool}{d:List (Nat×au)}(m:TA cx.n f a b):∀j,LR cx c h d a j=lT cx.P cx.gl c h d f b j:=by
 induction m with
 |nil=>intro j;rfl
 | cons l _ k=>
  rename_i o f e g i a b _;intro j;show adK cx c h d j o e g (LR cx c h d a (j+1))=_;rw[k]
  cases g with
  |read v=>
   show oj (Fs cx.P c j o (Sl cx.gl e) v d h af) (lT cx.P cx.gl c h d f b (j+1)) aj=(pY cx.P cx.gl c j o i v h d af&&lT cx.P cx.gl c h d f b (j+1));rw[Gr l,Hs]
   cases pY cx.P cx.gl c j o i v h d af<;>rfl
  |_=>rfl
theorem T4(k:A7 cx cf){ops:Array aR}{bf:Nat->Nat->Bool}{e:Env}{l:List ag}{h:au}{K:Env->au->Bool}(q:kD cx.n e l):PN cx.n cx.bad (Nj cx ops bf e h K) (yx cx.P cx.gl cf ops bf l h) K:=by
 unfold Nj;rw[mD];rcases vk k ops.toList q (ops:=ops) (bf:=bf) (base:=h.aD) (j:=0) (h:=⟨h.aD+ops.size,h.t⟩) (pd:=[]) (K:=λa d b m=>
  oj (oj (De bf (Jl a 0) none) (LR cx bf ⟨h.aD+ops.size,h.t⟩ (Jl a 0) a 0) aj) (tS h.aD m b λb=>K d b) cx.bad)with f|⟨a,g,b,c,n,d,f,o,i,p⟩
 ·exact .inl f
 ·rw[p,XA i,Jg,Vi i,vL];unfold yx;rw[f];show PN cx.n cx.bad (oj (oj (chained bf (iV a 0)) (lT cx.P cx.gl bf ⟨h.aD+ops.size,h.t⟩ (iV a 0) ops.toList a 0) aj) (K d (cr b h.aD c)) cx.bad)
   (if chained bf (iV a 0)&&lT cx.P cx.gl bf ⟨h.aD+ops.size,h.t⟩ (iV a 0) ops.toList a 0 then aa (g,cr b h.aD c)else none) K
  cases chained bf (iV a 0)with
  |false=>exact .inl rfl
  |true=>
   cases lT cx.P cx.gl bf ⟨h.aD+ops.size,h.t⟩ (iV a 0) ops.toList a 0 with
   |false=>exact .inl rfl
   |true=>exact .inr ⟨_,_,_,rfl,o,rfl⟩
end
def C5(n:Nat)(a x:Bool)(c:Option (Exit×List ag×au))(K:Exit->Env->au->Bool):Prop:=x=a\/ ∃b l h e,c=aa (b,l,h)/\kD n e l/\x=K b e h
theorem PX{a:Bool}{K:Bool->Bool}{c:Option (Exit×List ag×au)}{e:Exit->Env->au->Bool}(f:∀b,v=ah b->C5 n a (K b) c e):C5 n a (M7 v a K) c e:=by
 rcases Xd v a K with⟨d,_⟩|⟨b,d,g⟩
 ·rw[d];exact .inl rfl
 ·rw[g];exact f b d
theorem wX(x:Exit)(a:Bool)(d:Nat->Bool)(b:Bool):(x = .normal/\pO x a d b=a)\/(∃c,x = .exit c/\pO x a d b=d c)\/((∀c,x≠ .exit c)/\x≠ .normal/\pO x a d b=b):=by
 cases x with
 |normal=>exact .inl ⟨rfl,rfl⟩
 |exit c=>exact .inr (.inl ⟨c,rfl,rfl⟩)
 |_=>exact .inr (.inr ⟨λ_=>by simp,by simp,rfl⟩)
theorem JB{b:Cx}{c:Code}{a:qT}{q:fO}{N:Nat}(f:∀{e l h K},kD b.n e l->C5 b.n b.bad (a b e h K) (dj b.P b.gl q N c l h) K):∀(m:Nat){e:Env}{l:List ag}{h:au}{K:Exit->Env->au->Bool},kD b.n e l->
  C5 b.n b.bad (Nat.rec (motive:=λ_=>Env->au->Bool) (λ_ _=>b.bad) (λ_ f e h=>a b e h λx e h=>pO x (f e h) (λd=>K (.exit d) e h) (K x e h)) m e h) (iter (dj b.P b.gl q N c) m l h) K
 |0,_,_,_,_,_=> .inl rfl
 | m+1,e,l,h,K,t=>by
  show C5 b.n b.bad (a b e h λx e h=>pO x ((Nat.rec (motive:=λ_=>Env->au->Bool) (λ_ _=>b.bad) (λ_ f e h=>a b e h λx e h=>pO x (f e h) (λd=>K (.exit d) e h) (K x e h)) m:Env->au->Bool) e h) (λd=>K (.exit d) e h) (K x e h)) _ K;rcases f (h:=h) (K:=λx e h=>pO x ((Nat.rec (motive:=λ_=>Env->au->Bool) (λ_ _=>b.bad) (λ_ f e h=>a b e h λx e h=>pO x (f e h) (λd=>K (.exit d) e h) (K x e h)) m:Env->au->Bool) e h) (λd=>K (.exit d) e h) (K x e h)) t with g|⟨k,p,g,i,o,n,s⟩
  ·exact .inl g
  ·rw[s];dsimp only;rcases wX k ((Nat.rec (motive:=λ_=>Env->au->Bool) (λ_ _=>b.bad) (λ_ f e h=>a b e h λx e h=>pO x (f e h) (λd=>K (.exit d) e h) (K x e h)) m:Env->au->Bool) i g) (λd=>K (.exit d) i g) (K k i g)with⟨rfl,j⟩|⟨d,rfl,j⟩|⟨u,r,j⟩
   ·rw[j];simp only[iter,o];exact JB f m n
   ·rw[j];exact .inr ⟨.exit d,p,g,i,by simp only[iter,o],n,rfl⟩
   ·rw[j];refine .inr ⟨k,p,g,i,?_,n,rfl⟩;simp only[iter,o]
    cases k<;>first|rfl|exact absurd rfl r
theorem aeC(c a:Code)(d:Bool)(K:qn c a=af->Bool):okF c a d K=d\/ ∃f,okF c a d K=K f:=by
 unfold okF;have g:∀(b:Bool)(e:qn c a=b),(Bool.rec (motive:=λb=>qn c a=b->Bool) (λ_=>d) K b e=d)\/ ∃f,Bool.rec (motive:=λb=>qn c a=b->Bool) (λ_=>d) K b e=K f:=by
  intro b e
  cases b with
  |false=>exact .inl rfl
  |true=>exact .inr ⟨e,rfl⟩
 exact g _ rfl
theorem BX(b:Option eA)(d:Bool)(K:LSt->List ag->List Tmp->(c a:Code)->qn c a=af->Bool):
  wm b d K=d\/ ∃f e g c a h,b=aa (.loop f e g c a h)/\wm b d K=K f e g c a h:=by
 cases b with
 |none=>exact .inl rfl
 |some B=>cases B with
  |loop f e g c a h=>exact .inr ⟨f,e,g,c,a,h,rfl,rfl⟩
  |_=>exact .inl rfl
theorem Z9(e:Env):∀(n i:Nat)(K:List ag->Bool),tmF e n i K=K ((List.range' i n).map λt=>Env.get t e)
 |0,_,_=>rfl
 |n+1,i,K=>by
  show ub (Env.get i e) (λv=>tmF e n (i+1) λl=>K (v::l))=_;rw[mE,Z9 e n (i+1)];rfl
theorem aaa{e:Env}{l:List ag}(c:kD n e l)(K:List ag->Bool):tmF e n 0 K=K l:=by
 rw[Z9];congr 1;obtain⟨d,_,a⟩:=c;refine dH λt=>?_;rw[List.getElem?_map];by_cases b:t<n
 ·rw[List.getElem?_range' b];simp only[gf,bJ,ew];rw[a,gE (by omega),gD,gE (by omega)];rfl
 ·rw[getElem?_eq_none (by simp;omega),getElem?_eq_none (by omega)];rfl
theorem BT:∀(l:List ag)(i:Nat)(e:Env),i+l.length<=256->∃a:Env,(∀(K:Env->Bool),Ed l i e K=K a)/\∀t,Env.get t a=if i<=t/\t<i+l.length then l.getD (t-i) undef else Env.get t e
 |[],i,e,_=>⟨e,λ_=>rfl,λt=>by rw[iN (by simp only[List.length_nil];omega)]⟩
 | v::l,i,e,d=>by
  simp only[bU]at d;obtain⟨a,f,g⟩:=BT l (i+1) (Env.new i e v) (by omega);refine⟨a,λK=>?_,λt=>?_⟩
  ·show ub v (λv=>Env.put i e v λe=>Ed l (i+1) e K)=_;rw[mE,Env.put_eq,f]
  ·rw[g];simp only[bU];by_cases c:t=i
   ·subst c;rw[iN (by omega),Env.Lb (by omega),iP rfl,iP (by omega),Nat.sub_self];rfl
   ·rw[Env.Lb (by omega),iN c];by_cases b:i+1<=t/\t<i+1+l.length
    ·rw[iP b,iP (by omega),show t-i=(t-(i+1))+1 by omega];rfl
    ·rw[iN b,iN (by omega)]
theorem Qh:∀(t:HT)(K:HT->Bool),fHT t K=K t
 |.nil,_=>rfl
 |.node v l r,K=>by
  show fHT l (λl=>fHT r λr=>fW (motive:=λ_=>Bool) (K (.node none l r)) (λB=>Ny B λB=>K (.node (aa B) l r)) v)=_;rw[Qh l,Qh r]
  cases v with
  |none=>rfl
  |some B=>exact BK B _
theorem WO{a:Cx}{ops:Array aR}{e:Env}{l:List ag}{K:Env->au->Bool}(f:kD a.n e l):PN a.n a.bad (aaS a ops e h K) (Jj a.P a.gl ops (gw (l5 ops)) l h) K:=by
 unfold aaS;rw[aaa f]
 cases n:Jj a.P a.gl ops (gw (l5 ops)) l h with
 |none=>exact .inl rfl
 | some r=>
  obtain⟨b,c⟩:=r;show PN a.n a.bad (oj (dk b.length a.n) (Ed b 0 Gi λe=>r5 c.aD λd=>fHT c.t λt=>K e ⟨d,t⟩) a.bad) _ K
  cases g:dk b.length a.n with
  |false=>exact .inl rfl
  | true=>
   have j:b.length=a.n:=by simpa[beq_eq]using g
   obtain⟨m,i,k⟩:=BT b 0 Gi (by have:=f.2.1;omega);refine .inr ⟨b,c,m,rfl,⟨j,f.2.1,λt=>?_⟩,?_⟩
   ·rw[k];split
    ·rfl
    ·next o=>rw[Gj,gD,getElem?_eq_none (by omega)];rfl
   ·show Ed b 0 Gi (λe=>r5 c.aD λd=>fHT c.t λt=>K e ⟨d,t⟩)=_;rw[i,mD,Qh]
theorem nN{d:Cx}{I:fO}(s:A7 d I):∀(c:Code){e:Env}{l:List ag}{h:au}{K:Exit->Env->au->Bool},kD d.n e l->C5 d.n d.bad (codeF c d e h K) (dj d.P d.gl I d.N c l h) K
 |.skip,e,l,h,K,m=> .inr ⟨_,_,_,_,rfl,m,rfl⟩
 | .region q j O,e,l,h,K,m=>by
  cases O with
  | true=>
   show C5 d.n d.bad (oj (Ah j) (aaS d j e h λe h=>K .normal e h) (Nj d j (gw (l5 j)) e h λe h=>K .normal e h)) ((D8 d.P d.gl I j l h).map λr=>(.normal,r.1,r.2)) K;unfold D8
   cases V:Ah j with
   |true=>
    rw[iP rfl];rcases WO m (ops:=j) (h:=h) (K:=λe h=>K .normal e h)with i|⟨u,i,o,k,p,w⟩
    ·exact .inl i
    ·exact .inr ⟨.normal,u,i,o,by rw[k];rfl,p,w⟩
   |false=>
   rw[iN (by simp)];show C5 d.n d.bad (Nj d j (gw (l5 j)) e h λe h=>K .normal e h) _ K;rcases T4 s m (ops:=j) (bf:=gw (l5 j)) (h:=h) (K:=λe h=>K .normal e h)with i|⟨u,i,o,k,p,w⟩
   ·exact .inl i
   ·exact .inr ⟨.normal,u,i,o,by rw[k];rfl,p,w⟩
  |false=>
   show C5 d.n d.bad (Oo d j j.toList e h λe h=>K .normal e h) ((pV d.P d.gl I j j.toList l h).map λr=>(.normal,r.1,r.2)) K;rcases Hc s j.toList m (ops:=j) (h:=h) (K:=λe h=>K .normal e h)with i|⟨u,i,o,k,p,w⟩
   ·exact .inl i
   ·exact .inr ⟨.normal,u,i,o,by rw[k];rfl,p,w⟩
 | .seq a b,e,l,h,K,m=>by
  show C5 d.n d.bad (codeF a d e h λx e h=>pO x (codeF b d e h K) (λq=>K (.exit q) e h) (K x e h)) _ K;rcases nN s a m (h:=h) (K:=λx e h=>pO x (codeF b d e h K) (λq=>K (.exit q) e h) (K x e h))with i|⟨D,u,i,o,k,p,w⟩
  ·exact .inl i
  ·rw[w];dsimp only;rcases wX D (codeF b d o i K) (λq=>K (.exit q) o i) (K D o i)with⟨rfl,y⟩|⟨q,rfl,y⟩|⟨G,J,y⟩
   ·rw[y];simp only[dj,k];exact nN s b p
   ·rw[y];exact .inr ⟨.exit q,u,i,o,by simp only[dj,k],p,rfl⟩
   ·rw[y];refine .inr ⟨D,u,i,o,?_,p,rfl⟩;simp only[dj,k]
    cases D<;>first|rfl|exact absurd rfl J
 |.cond c a b,e,l,h,K,m=>by
  show C5 d.n d.bad (M7 (Sl d.gl e c) d.bad λt=>oj t (codeF a d e h K) (codeF b d e h K)) _ K;refine PX λt R=>?_;rw[Gr m]at R;simp only[dj,R]
  cases t with
  |true=>simp only[if_true];exact nN s a m
  |false=>simp only[dG,if_false];exact nN s b m
 | .block q a,e,l,h,K,m=>by
  show C5 d.n d.bad (codeF a d e h λx e h=>pO x (K .normal e h) (λn=>oj (dk n q) (K .normal e h) (K (.exit n) e h)) (K x e h)) _ K;rcases nN s a m (h:=h) (K:=λx e h=>pO x (K .normal e h) (λn=>oj (dk n q) (K .normal e h) (K (.exit n) e h)) (K x e h))with i|⟨D,u,i,o,k,p,w⟩
  ·exact .inl i
  ·rw[w];dsimp only;rcases wX D (K .normal o i) (λn=>oj (dk n q) (K .normal o i) (K (.exit n) o i)) (K D o i)with⟨rfl,y⟩|⟨n,rfl,y⟩|⟨G,J,y⟩
   ·rw[y];exact .inr ⟨.normal,u,i,o,by simp only[dj,k],p,rfl⟩
   ·rw[y];by_cases H:n=q
    ·subst H;refine .inr ⟨.normal,u,i,o,by simp only[dj,k,if_true],p,?_⟩;rw[show dk n n=af by simp];rfl
    ·refine .inr ⟨.exit n,u,i,o,by simp only[dj,k,iN H],p,?_⟩;have:dk n q=aj:=by
      rw[Bool.eq_false_iff];intro N;exact H (by simpa[beq_eq]using N)
     rw[this];rfl
   ·rw[y];refine .inr ⟨D,u,i,o,?_,p,rfl⟩;simp only[dj,k]
    cases D<;>first|rfl|exact absurd rfl (G _)
 |.loop c,e,l,h,K,m=>JB (λ{e l h K} m=>nN s c m) d.N m
 |.exit q,e,l,h,K,m=> .inr ⟨_,_,_,_,rfl,m,rfl⟩
 |.ret,e,l,h,K,m=> .inr ⟨_,_,_,_,rfl,m,rfl⟩
 |.label _,e,l,h,K,m=> .inr ⟨_,_,_,_,rfl,m,rfl⟩
 | .rangeFunc f L E z,e,l,h,K,m=>by
  show C5 d.n d.bad (Qx f L E z d e h K) _ K;unfold Qx;rcases NK (Sl d.gl e f) d.bad _ with⟨i,_⟩|⟨T,first,A,i,k⟩
  ·rw[i];exact .inl rfl
  ·rw[k];rw[Gr m]at i
   cases T with
   | func g=>
    dsimp only[fnF];rcases aeC E z d.bad (λM=>oj (cQ g YB) (oj (wS d.P g)
     (tmF e d.n 0 λU=>Dh (first.toList++[.func (.yield h.aD) #[] #[]]++A.toList) λS=>DU (.loop .ready U L.toList E z M) h λi=>d.cf g S i λ_ k=>
      wm (k.get h.aD) d.bad λF _ _ _ _ _=>SF F d.bad λx=>HT.uR none (pathOf h.aD) k.t λt=>K x e ⟨k.aD,t⟩) d.bad) d.bad)with p|⟨M,p⟩
    ·rw[p];exact .inl rfl
    ·rw[p]
     cases W:cQ g YB with
     |false=>exact .inl rfl
     | true=>
      have Q:g<YB:=by simpa[blt_eq]using W
      cases N:wS d.P g with
      |false=>exact .inl rfl
      | true=>
       dsimp only[oj];rw[aaa m,Di];have P:∀(B:eA)(K:au->Bool),DU B h K=K (h.push B):=λB K=>KL (.push B) h K;rw[P];rcases s g (first.toList++[.func (.yield h.aD) #[] #[]]++A.toList) (h.push (.loop .ready l L.toList E z M)) (λ_ k=>
        wm (k.get h.aD) d.bad λF _ _ _ _ _=>SF F d.bad λx=>HT.uR none (pathOf h.aD) k.t λt=>K x e ⟨k.aD,t⟩)with w|⟨⟨v,k⟩,w,y⟩
       ·rw[w];exact .inl rfl
       ·rw[y];dsimp only;have C:dj d.P d.gl I d.N (.rangeFunc f L E z) l h=(SI (k.get h.aD)).map λe=>(e,l,k.del h.aD):=by
         simp only[dj,i];rw[dif_pos M,iP ⟨Q,N⟩,w]
        rcases BX (k.get h.aD) d.bad (λF _ _ _ _ _=>SF F d.bad λx=>HT.uR none (pathOf h.aD) k.t λt=>K x e ⟨k.aD,t⟩)with G|⟨F,X,Y,a2,b2,Z,G,J⟩
        ·rw[G];exact .inl rfl
        ·rw[J];rw[G]at C
         cases F with
         |ready=>exact .inr ⟨_,_,_,e,C,m,HT.kC _ _ _ _⟩
         |busy=>exact .inl rfl
         |ret=>exact .inr ⟨_,_,_,e,C,m,HT.kC _ _ _ _⟩
         |exit q=>exact .inr ⟨_,_,_,e,C,m,HT.kC _ _ _ _⟩
   |_=>exact .inl rfl
 |.scope _,_,_,_,_,_=> .inl rfl
 |.goto _,_,_,_,_,_=> .inl rfl
 |.refuse _,_,_,_,_,_=> .inl rfl
theorem Hx{P:aO}{n:Nat}{e:Env}{f:List ag}{h:au}{bad:Bool}(d:kD n e f):∀(l:List ResultVar)(K:List ag->Bool),Ref bad (ON P e h bad l K) (fY P f h l) K
 |[],K=> .of rfl rfl
 |.tmp t::l,K=>by
  show Ref bad (ub (Env.get t e) λv=>ON P e h bad l λb=>K (v::b)) _ K;rw[mE,d.2.2 t];rcases Hx d l (λb=>K (f.getD t undef::b))with c|⟨b,c,g⟩
  ·exact .inl c
  ·exact .of (by simp only[fY,c];rfl) g
 |.cell a t::l,K=>by
  show Ref bad (TM bad (aS P t h (Env.get a e)) λv=>ON P e h bad l λb=>K (v::b)) _ K;refine yw λv i=>?_;rw[d.2.2 a]at i;rcases Hx d l (λb=>K (v::b))with c|⟨b,c,g⟩
  ·exact .inl c
  ·exact .of (by simp only[fY,i,c];rfl) g
theorem Oy{n:Nat}:∀(a:List (Tmp×ag)){e:Env}{l:List ag},kD n e l->∃c,kD n c (ye l a)/\∀(K:Env->Bool),YU n a e K=K c
 |[],e,l,b=>⟨e,b,λ_=>rfl⟩
 |p::a,e,l,b=>by
  obtain⟨j,f,g⟩:=Ci b (aa p.1) p.2;obtain⟨i,d,h⟩:=Oy a f;refine⟨i,d,λK=>?_⟩;show zk n (aa p.1) e p.2 (λe=>YU n a e K)=_;rw[g,h]
theorem RY{gl:Nat->Bool}{a:Bool}{fl:Nat}{T:bW->List ag->au->(ag->au->Bool)->Bool}{E:fO}(X:∀f c h K,Ref a (T f c h K) (E f c h) λr=>K r.1 r.2)(k:Nat)(c:List ag)(h:au)(K:ag->au->Bool):
  Ref a (MA (λnt=>⟨P,gl,T,fl,nt,a⟩) a k c h K) (uT (dj P gl E fl) k c h) λr=>K r.1 r.2:=by
 unfold MA;rcases BX (h.get k) a _ with A|⟨st,D,M,N,s,ok,A,o⟩
 ·exact .inl A
 rw[o]
 cases st with
 |busy=>exact .inl rfl
 |ret=>exact .inl rfl
 |exit Q=>exact .inl rfl
 |ready=>
 show Ref a (oj (dk c.length M.length) _ a) _ _;refine rY (λy=>?_) (λ_=> .bad);have y:c.length=M.length:=by simpa[beq_eq]using y
 rw[mD];refine rY (λO=>?_) (λ_=> .bad);have O:D.length<=256:=by simpa[ble_eq]using O
 obtain⟨e0,h3,h4⟩:=BT D 0 Gi (by omega);rw[h3];have Y:kD D.length e0 D:=by
  refine⟨rfl,O,λt=>?_⟩;rw[h4];split
  ·rfl
  ·next ht=>rw[Gj,gD,getElem?_eq_none (by omega)];rfl
 obtain⟨e1,W,h5⟩:=Oy (M.zip c) Y;rw[h5]
 let L:Cx:=⟨P,gl,T,fl,D.length,a⟩
 have H:A7 L E:=λf c h K=>X f c h K;rcases nN H N (h:=h) (K:=λx e A=>pO x
   (wm (A.get k) a λw q v j g u=>Hu w a (HT.uR (aa (.loop .busy q v j g u)) (pathOf k) A.t λt=>codeF s L e ⟨A.aD,t⟩ λx _ o=>
    wm (o.get k) a λ_ l m i d n=>Ya x a λb p=>HT.uR (aa (.loop p l m i d n)) (pathOf k) o.t λt=>K (ah b) ⟨o.aD,t⟩))
   (λ_=>a) a) W with U|⟨ex,l1,B,e2,U,x1,h7⟩
 ·exact .inl U
 refine(show Ref a _ _ _↔_ from Iff.rfl).2 ?_;rw[h7];dsimp only
 cases ex with
 | normal=>
  dsimp only[pO];rcases BX (B.get k) a (λw q v j g u=>Hu w a (HT.uR (aa (.loop .busy q v j g u)) (pathOf k) B.t λt=>codeF s L e2 ⟨B.aD,t⟩ λx _ o=>
    wm (o.get k) a λ_ l m i d n=>Ya x a λb p=>HT.uR (aa (.loop p l m i d n)) (pathOf k) o.t λt=>K (ah b) ⟨o.aD,t⟩))with R|⟨w,q,v,j,g,u,R,h9⟩
  ·exact .inl R
  rw[h9]
  cases w with
  |busy=>exact .inl rfl
  |ret=>exact .inl rfl
  |exit Q=>exact .inl rfl
  |ready=>
  dsimp only[Hu];rw[HT.kC];rcases nN H s (h:=B.set k (.loop .busy q v j g u)) (K:=λx _ o=>
    wm (o.get k) a λ_ l m i d n=>Ya x a λb p=>HT.uR (aa (.loop p l m i d n)) (pathOf k) o.t λt=>K (ah b) ⟨o.aD,t⟩) x1 with J|⟨C,l2,G,e3,J,x2,V⟩
  ·exact .inl J
  ·refine(show Ref a (codeF s L e2 (B.set k (.loop .busy q v j g u)) _) _ _ from ?_);rw[V];dsimp only;rcases BX (G.get k) a (λ_ l m i d n=>Ya C a λb p=>HT.uR (aa (.loop p l m i d n)) (pathOf k) G.t λt=>K (ah b) ⟨G.aD,t⟩)with I|⟨p,l,m,i,d,n,I,x0⟩
   ·exact .inl I
   rw[x0];have z:∀b F,N2 C=aa (b,F)->uT (dj P gl E fl) k c h=aa (ah b,G.set k (.loop F l m i d n)):=λb F hl=>by
    have Z:dj P gl E fl N (ye D (M.zip c)) h=aa (.normal,l1,B):=U;have S:dj P gl E fl s l1 (B.set k (.loop .busy q v j g u))=aa (C,l2,G):=J;unfold uT;simp only[A,y,if_true,Z,R,S,I,hl]
   cases C with
   |normal=>exact .of (z af .ready rfl) (HT.kC _ _ _ _)
   |ret=>exact .of (z aj .ret rfl) (HT.kC _ _ _ _)
   |exit Q=>exact .of (z aj (.exit Q) rfl) (HT.kC _ _ _ _)
   |_=>exact .inl rfl
 |_=>exact .inl rfl
def Bj(b:Bool)(d:bW->Option (wc))(g:bW->Option rW):Prop:=
 ∀f,(d f=none/\g f=none)\/ ∃p q,d f=aa p/\g f=aa q/\
  ∀(e:bW->List ag->au->(ag->au->Bool)->Bool)(c:fO),(∀f a h K,Ref b (e f a h K) (c f a h) λr=>K r.1 r.2)->∀a h K,Ref b (p e a h K) (q c a h) λr=>K r.1 r.2
theorem Je{P:aO}{gl:Nat->Bool}{a:Bool}{j:bW->Option (wc)}{s:bW->Option rW}(I:Bj a j s):∀n f b h K,Ref a (zw P gl j a n f b h K) (dP P gl s n f b h) λr=>K r.1 r.2
 |0,_,_,_,_=> .bad
 | n+1,f,b,h,K=>by
  have B:=Je I (P:=P) (gl:=gl) n;show Ref a (oj (Nat.ble YB f) (r5 (f-YB) λk=>MA (λQ=>⟨P,gl,zw P gl j a n,n,Q,a⟩) a k b h K) (fW (motive:=λ_=>Bool)
   (TM a (P.funcs[f]?) λd=>TM a d.body λc=>oj (Nat.ble d.ntmps 256&&Nat.ble b.length d.ntmps)
    (Ed b 0 Gi λe=>codeF c ⟨P,gl,zw P gl j a n,n,d.ntmps,a⟩ e h λx e h=>acF x a (ON P e h a d.results.toList λg=>K (fP g) h)) a)
   (λp=>p (zw P gl j a n) b h K) (j f))) _ _
  refine rY (λm=>?_) (λm=>?_)
  ·have m:YB<=f:=by simpa[ble_eq]using m
   rw[mD];rcases RY (P:=P) (gl:=gl) (fl:=n) B (f-YB) b h K with o|⟨r,o,u⟩
   ·exact .inl o
   ·exact .of (r:=r) (by simp only[dP,iP m];exact o) u
  have m:¬YB<=f:=λO=>by
   have:Nat.ble YB f=af:=by simpa[ble_eq]using O
   rw[m]at this;cases this
  rcases I f with⟨o,u⟩|⟨p,q,o,u,z⟩
  ·rw[o];refine yw λd F=>yw λc W=>rY (λD=>?_) (λ_=> .bad);simp only[bg,ble_eq]at D;obtain⟨y,z,v⟩:=BT b 0 Gi (by omega);rw[z];have V:kD d.ntmps y (b++aQ (d.ntmps-b.length) undef):=by
    refine⟨by simp;omega,D.1,λt=>?_⟩;rw[v];split
    ·next U=>rw[Nat.sub_zero,gD,gD,List.getElem?_append_left (by omega)]
    ·next U=>
     rw[Gj,gD,List.getElem?_append_right (by omega),List.getElem?_replicate];split<;>rfl
   let M:Cx:=⟨P,gl,zw P gl j a n,n,d.ntmps,a⟩
   have H:A7 M (dP P gl s n):=λf b h K=>B f b h K;have E:=nN H c (h:=h) (K:=λx e h=>acF x a (ON P e h a d.results.toList λg=>K (fP g) h)) (e:=y) (l:=b++aQ (d.ntmps-b.length) undef) V;rcases E with i|⟨w,S,i,L,T,R,N⟩
   ·exact .inl i
   ·rw[show codeF c ⟨P,gl,zw P gl j a n,n,d.ntmps,a⟩ y h (λx e h=>acF x a (ON P e h a d.results.toList λg=>K (fP g) h))=_ from N];have A:dj P gl (dP P gl s n) n c (b++aQ (d.ntmps-b.length) undef) h=aa (w,S,i):=T;have fin:w = .normal\/w = .ret->Ref a (ON P L i a d.results.toList λg=>K (fP g) i) (dP P gl s (n+1) f b h) λr=>K r.1 r.2:=λG=>by
     rcases Hx R d.results.toList (λg=>K (fP g) i) (P:=P) (h:=i) (bad:=a)with C|⟨g,C,J⟩
     ·exact .inl C
     ·refine .of (r:=(fP g,i)) ?_ J;simp only[dP,iN m,u,F,W,A];rcases G with rfl|rfl<;>simp only[C,gf]
    cases w with
    |normal=>exact fin (.inl rfl)
    |ret=>exact fin (.inr rfl)
    |_=>exact .bad
  ·rw[o];rcases z (zw P gl j a n) (dP P gl s n) B b h K with v|⟨r,v,i⟩
   ·exact .inl v
   ·exact .of (r:=r) (by simp only[dP,iN m,u];exact v) i
variable{f:bW}{F:Func}
section
variable {β:gC} {P:aO} {gl:Nat->Bool}
theorem zG{e:Array ag->Sem ag}{p:rW}(k:P.funcs[f]?=aa F)(g:(F.name == "runtime.NumGoroutine")=aj) (l:F.body.isNone=af) (m:Extern.findNext F=none) (t:Extern.find F=aa e)
  (h:∀j b h v i,p j b h=aa (v,i)->∀β w (a:Array ag),oV β h w->dx β b a.toList->∃v' d c,(e a).run P w = .ok v' d/\Step β h w c i d/\cz c v v'):pH P gl f p:=by
 intro j _ b q v i x β w a o _ u;obtain⟨v',d,c,r,s,n⟩:=h j b q v i x β w a o u;refine⟨F,k,.inr ⟨v',d,c,?_,s,n⟩⟩;rw[run_callFunc_extern k g l m t,r];rfl
def qy:rW:=λ_ a h=>match a with
 |[v]=>aa (v,h)
 |_=>none
theorem Eh{fn:Func}(i:P.funcs[f]?=aa fn)(a:(fn.name == "runtime.NumGoroutine")=aj) (g:fn.body.isNone=af) (d:Extern.findNext fn=none) (l:Extern.find fn=aa Extern.AbiNoEscape.same):pH P gl f qy:=by
 refine zG i a g d l λq n h v p c β w b k m=>?_;unfold qy at c;split at c
 ·next u=>
  simp only[aZ,bu]at c;obtain⟨rfl,rfl⟩:=c;obtain⟨e,r,o,j,d⟩:=m.fX;obtain rfl:=d.jf;obtain rfl:b = #[e]:=by
   have:=congrArg List.toArray o;simpa using this
  exact⟨e,w,β,rfl,Step.refl k,j⟩
 grind
noncomputable def findAt(c:Nat):List UInt8->Nat->Int
 |[],_=> -1
 |b::l,i=>if b.toNat=c then i else findAt c l (i+1)
noncomputable def nq:rW:=λ_ a h=>match a with
 |[bt s,aC aK c]=>if 0<=c/\c<256 then aa (aC ak (findAt c.toNat s.data.toList 0),h)else none
 |_=>none
theorem Ua(s:ByteArray)(c:Nat)(p:c<256):findAt c s.data.toList 0=firstIdx s c.toUInt8:=by
 have f:∀(l:List UInt8)(i:Nat),s.data.toList.drop i=l->findAt c l i=match (List.range' i l.length).find? λj=>s[j]! == c.toUInt8 with|some j=>(j:Int)|none=> -1:=by
  intro l
  induction l with
  |nil=>intro i _;rfl
  | cons b l m=>
   intro i d;have e:i<s.data.toList.length:=by
    rcases db i s.data.toList.length with h|h
    ·exact h
    ·rw[bV h]at d;cases d
   have k:s[i]! = b:=by
    have n:s.data.toList[i]?=aa b:=by
     have:(s.data.toList.drop i)[0]?=aa b:=by rw[d];rfl
     rw[getElem?_drop]at this;simpa using this
    have g:i<s.size:=by simpa using e
    rw[getElem!_pos s i g];have:s.data[i]?=aa b:=by rw[<-getElem?_toList];exact n
    rw[Array.getElem?_eq_getElem (by simpa using e)]at this;exact aG this
   have o:s.data.toList.drop (i+1)=l:=by rw[<-drop_drop,d];rfl
   simp only[findAt,bU,List.range'_succ,List.find?_cons,k];by_cases a:b.toNat=c
   ·have:(b==c.toUInt8)=af:=by
     rw[beq_iff_eq,<-fL];simp[a];omega
    rw[iP a,this]
   ·have:(b==c.toUInt8)=aj:=by
     rw[beq_eq_false_iff_ne];rintro rfl;apply a;simp;omega
    rw[iN a,this];exact m (i+1) o
 rw[f s.data.toList 0 rfl];unfold firstIdx;rw[List.range_eq_range',show s.data.toList.length=s.size by simp];rfl
theorem BS{fn:Func}(j:P.funcs[f]?=aa fn)(b:(fn.name == "runtime.NumGoroutine")=aj) (i:fn.body.isNone=af) (e:Extern.findNext fn=none) (n:Extern.find fn=aa Extern.BytealgIndexByte.indexByte):pH P gl f nq:=by
 refine zG j b i e n λy p h v u a β w d l o=>?_;unfold nq at a;split at a
 ·next s c=>
  split at a
  ·next A=>
   simp only[aZ,bu]at a;obtain⟨rfl,rfl⟩:=a;obtain⟨x,r,q,k,e⟩:=o.fX;obtain⟨t,z,rfl,m,g⟩:=e.fX;obtain rfl:=g.jf;obtain rfl:=k.jQ;obtain rfl:=m.hI;obtain rfl:d = #[.string s,.int aK c]:=by
    have:=congrArg List.toArray q;simpa using this
   refine⟨_,w,β,run_indexByte_string s c w,Step.refl l,?_⟩;rw[Ua s c.toNat (by omega)];exact .int _ _
  ·cases a
 grind
section
noncomputable def Jn(a:Bool):wc:=λ_ b h K=>gj (motive:=λ_=>Bool) a (λv r _=>gj (motive:=λ_=>Bool) (K v h) (λ_ _ _=>a) r) b
theorem Iv(b:Bool)(d:bW->List ag->au->(ag->au->Bool)->Bool)(c:fO)(a:List ag)(h:au)(K:ag->au->Bool):Ref b (Jn b d a h K) (qy c a h) λr=>K r.1 r.2:=by
 match a with
 |[]=>exact .inl rfl
 |[v]=>exact .of rfl rfl
 |v::u::r=>exact .inl rfl
noncomputable def Jp(c:Nat)(l:List UInt8):Nat->(Int->Bool)->Bool:=gj (motive:=λ_=>Nat->(Int->Bool)->Bool) (λ_ K=>K (-1)) (λb _ a i K=>r5 i λi=>oj (dk b.toNat c) (K (.ofNat i)) (a (i+1) K)) l
theorem NA(c:Nat):∀(l:List UInt8)(i:Nat)(K:Int->Bool),Jp c l i K=K (findAt c l i)
 |[],_,_=>rfl
 | b::l,i,K=>by
  show r5 i (λi=>oj (dk b.toNat c) (K (.ofNat i)) (Jp c l (i+1) K))=_;rw[mD,NA c l];simp only[findAt];by_cases a:b.toNat=c
  ·rw[iP a,show dk b.toNat c=af by simpa[beq_eq]using a];rfl
  ·rw[iN a];have:dk b.toNat c=aj:=by
    rw[Bool.eq_false_iff];intro d;exact a (by simpa[beq_eq]using d)
   rw[this];rfl
noncomputable def An(a:Bool):wc:=λ_ b h K=>match b with
 |[bt s,aC aK (.ofNat c)]=>oj (cQ c 256) (Jp c s.data.toList 0 λi=>K (aC ak i) h) a
 |_=>a
theorem Gw(b:Bool)(f:bW->List ag->au->(ag->au->Bool)->Bool)(e:fO)(a:List ag)(h:au)(K:ag->au->Bool):Ref b (An b f a h K) (nq e a h) λr=>K r.1 r.2:=by
 unfold An;split
 ·next s c=>
  refine rY (λd=>?_) (λ_=> .bad);have d:c<256:=by simpa[blt_eq]using d
  rw[NA];refine .of (r:=(aE (findAt c s.data.toList 0),h)) ?_ rfl;simp only[nq];rw[iP ⟨by simp,by simp;omega⟩];rfl
 ·exact .bad
end
def β0:gC:=λ_=>none
def zi:Nat->Bool:=λ_=>aj
theorem au.get_nil(n k:Nat):(⟨n,.nil⟩:au).get k=none:=HT.get_nil _
theorem Ta(n:Nat)(w:aU):oV β0 ⟨n,.nil⟩ w:=
 {
  lt:=λk a h=>nomatch h
  blk:=λk B a h=>by grind[au.get_nil]
  own:=λk c B d a b _ h=>by grind[au.get_nil]
  wf:=λk B h=>by grind[au.get_nil] }
theorem aeo:Gl zi β0:=λg h=>by cases h
open Go.RowKit in
theorem Io{n:Nat}{w a:aU}{b:gC}{c:au}(s:Step β0 ⟨n,.nil⟩ w b c a):Below w.heap.size w a:=
 ⟨s.os,s.tape.1,s.output,s.size,λk d=>s.kept k d λ⟨k,B,f,e,_⟩=>by grind[au.get_nil]⟩
end
end Go.Ab
end
section
namespace Go.Ab
open Go Go.RowKit
variable{h:au}{W:aU}{v:ag}{f:bW}
section
variable {β:gC} {P:aO} {gl:Nat->Bool}
theorem zS{e:aU}(c:oV β h W)(a:Below W.heap.size W e)(j:W.drawn<=e.drawn):Step β h W β h e:=
 {
  le:=β.le_refl,aD:=aT _
  um:={ lt:=λk d i=>⟨(c.lt k d i).1,cD (c.lt k d i).2 a.size⟩,blk:=λk B d f g=>(c.blk k B d f g).of_heap (a.block _ (c.lt k d g).2),own:=c.own,wf:=c.wf }
  size:=a.size,os:=a.os,tape:=⟨a.tape,j⟩,output:=a.output
  kept:=λb f _=>a.block b f
  back:=λ_ _ h=>h,fresh:=λ_ _ h=> .inl h,keys:=λ_ B h _=>⟨B,h⟩ }
def uu(P:aO)(f:bW)(a:List ag)(v:ag):Prop:=
 ∃c,P.funcs[f]?=aa c/\c.body.isSome=af/\∀w,Calls P f a.toArray w λe b=>e = .returned v/\Below w.heap.size w b/\w.drawn<=b.drawn
theorem dx.xm{β:gC}{l:List ag}(h:l.all bare=af):dx β l l:=by
 induction l with
 |nil=>exact .nil β
 |cons v l a=>
  simp only[ep,bg]at h;exact .cons (.Cg h.1) (a h.2)
theorem cz.yv{β:gC}{v':ag}(a:bare v=af)(h:cz β v v'):v'=v:=by
 cases h<;>first|rfl|(simp[bare]at a)
theorem dx.M4{β:gC}:∀{l l':List ag},l.all bare=af->dx β l l'->l'=l
 |[],l',_,h=>h.jf
 |v::l,l',a,h=>by
  simp only[ep,bg]at a;obtain⟨v',r,rfl,b,c⟩:=h.fX;rw[b.yv a.1,c.M4 a.2]
theorem cz.YN{β:gC}{v':ag}(e:plain v=af)(h:cz β v v'):v'=v:=by
 have d:∀{a b:Array ag},mM β a b->(∀x∈a.toList,∀y,cz β x y->y=x)->b=a:=λ{a b} c f=>by
  refine Array.ext c.1.symm λi k l=>?_;have:=c.2 i a[i] b[i] (Array.getElem?_eq_getElem l) (Array.getElem?_eq_getElem k);exact f _ (by simp) _ this
 unfold plain at e;split at e
 ·next cs=>
  obtain⟨b,rfl,c⟩:=h.r9;rw[d c λx f y g=>g.yv (bY.1 e x f)]
 ·next cs=>
  obtain⟨b,rfl,c⟩:=h.yF;rw[d c λx f y g=>?_];have:=bY.1 e x f;split at this
  ·next o=>
   obtain⟨p,rfl,j⟩:=g.r9;rw[d j λz n u m=>m.yv (bY.1 this z n)]
  ·exact g.yv this
 ·exact h.yv e
theorem Lh{m:fO}(i:uo P zi m){f:bW}{b:Func}{a:List ag}{n:Nat}{v:ag}{l:au}(u:m f a ⟨n,.nil⟩=aa (v,l))(t:a.all bare=af)(p:plain v=af)(r:f<YB)(d:P.funcs[f]?=aa b)(c:b.body.isSome=af)
  (s:jx P):uu P f a v:=by
 refine⟨b,d,c,λw=>?_⟩;obtain⟨x,y,h⟩:=i.fn f a _ v l r u β0 w a.toArray (Ta n w) aeo (by simpa using dx.xm t);rcases h with⟨_,h⟩|⟨v',o,g,j,_,_⟩
 ·refine h.mono ?_;rintro e o ⟨v',g,rfl,k,q⟩;exact⟨by rw[q.YN p],Io k,k.tape.2⟩
 ·rw[lW s d c]at j
  cases j
def Fc:List UInt8->List UInt8->Bool
 |[],[]=>af
 |a::x,b::y=>dk a.toNat b.toNat&&Fc x y
 |_,_=>aj
theorem F0:∀{a b:List UInt8},Fc a b=af->a=b
 |[],[],_=>rfl
 |a::x,b::y,h=>by
  simp only[Fc,bg,beq_eq]at h;rw[fL.1 h.1,F0 h.2]
noncomputable def Dc:ag->ag->Bool
 |ah a,ah b=>a==b
 |aC k a,aC c b=>age k c&&adw a b
 |bt a,bt b=>Fc a.data.toList b.data.toList
 |_,_=>aj
theorem Jc{a b:ag}(h:Dc a b=af):a=b:=by
 unfold Dc at h;split at h
 ·rw[beq_iff_eq.1 h]
 ·simp only[bg,XW,beq_iff_eq]at h;rw[abK h.1,h.2]
 ·next a b=>
  have h:=F0 h;obtain⟨⟨a⟩⟩:=a;obtain⟨⟨b⟩⟩:=b;simp only at h;rw[h]
 ·cases h
noncomputable def vf:List ag->List ag->Bool
 |[],[]=>af
 |a::x,b::y=>Dc a b&&vf x y
 |_,_=>aj
theorem C7:∀{a b:List ag},vf a b=af->a=b
 |[],[],_=>rfl
 |a::x,b::y,h=>by
  simp only[vf,bg]at h;rw[Jc h.1,C7 h.2]
theorem M3{a b:ag}(h:Dc a b=af):bare b=af:=by
 unfold Dc at h;split at h<;>first|rfl|cases h
theorem Bt:∀{a b:List ag},vf a b=af->b.all bare=af
 |[],[],_=>rfl
 |a::x,b::y,h=>by
  simp only[vf,bg]at h;simp only[ep,bg];exact⟨M3 h.1,Bt h.2⟩
noncomputable def LI:ag->ag->Bool
 |al a,al b=>vf a.toList b.toList
 |a,b=>Dc a b
noncomputable def Fp:List ag->List ag->Bool
 |[],[]=>af
 |a::x,b::y=>LI a b&&Fp x y
 |_,_=>aj
noncomputable def I8:ag->ag->Bool
 |av a,av b=>Fp a.toList b.toList
 |a,b=>LI a b
theorem WV{a b:Array ag}(h:a.toList=b.toList):a=b:=by
 have:=congrArg List.toArray h;simpa using this
theorem JL{a b:ag}(h:LI a b=af):a=b:=by
 unfold LI at h;split at h
 ·rw[WV (C7 h)]
 ·exact Jc h
theorem Hd:∀{a b:List ag},Fp a b=af->a=b
 |[],[],_=>rfl
 |a::x,b::y,h=>by
  simp only[Fp,bg]at h;rw[JL h.1,Hd h.2]
theorem WN{a b:ag}(h:I8 a b=af):a=b:=by
 unfold I8 at h;split at h
 ·rw[WV (Hd h)]
 ·exact JL h
noncomputable def look:List (List ag×ag)->List ag->Option ag
 |[],_=>none
 |(a,v)::r,b=>if vf a b then aa v else look r b
noncomputable def Ka(b:List (List ag×ag)):rW:=λ_ a h=>(look b a).map λv=>(v,h)
def wP(P:aO)(f:bW)(a:List (List ag×ag)):Prop:=∀r∈a,uu P f r.1 r.2/\plain r.2=af
theorem N1:∀{c:List (List ag×ag)}{b:List ag}{v:ag},look c b=aa v->(b,v)∈c/\b.all bare=af
 |[],_,_,h=>nomatch h
 | (a,u)::r,b,v,h=>by
  simp only[look]at h;split at h
  ·next d=>
   obtain rfl:=aG h;rw[C7 d];exact⟨by simp,Bt d⟩
  ·obtain⟨e,f⟩:=N1 h;exact⟨by simp[e],f⟩
theorem ab9{g:List (List ag×ag)}(y:wP P f g):pH P gl f (Ka g):=by
 intro B _ i h v A k β w b r _ x;unfold Ka at k;obtain⟨u,t,j⟩:=bo.1 k;simp only[bu]at j;obtain⟨rfl,rfl⟩:=j;obtain⟨o,l⟩:=N1 t;obtain⟨⟨m,n,d,a⟩,p⟩:=y _ o;refine⟨m,n,.inl ⟨d,?_⟩⟩;have c:b=i.toArray:=by
  have:=dx.M4 l x;simpa using congrArg List.toArray this
 rw[c];refine(a w).mono ?_;rintro e z ⟨rfl,s,q⟩;exact⟨u,β,rfl,zS r s q,.ti p⟩
section
noncomputable def XG(b:Bool)(c:List (List ag×ag)):wc:=λ_ a h K=>gj (motive:=λ_=>Bool) b (λr _ d=>oj (vf r.1 a) (ub r.2 λv=>K v h) d) c
theorem T7(d:Bool)(c:List (List ag×ag))(f:bW->List ag->au->(ag->au->Bool)->Bool)(g:fO)(b:List ag)(h:au)(K:ag->au->Bool):Ref d (XG d c f b h K) (Ka c g b h) λr=>K r.1 r.2:=by
 unfold Ka
 induction c with
 |nil=>exact .inl rfl
 |cons r c i=>
  obtain⟨a,v⟩:=r;show Ref d (oj (vf a b) (ub v λv=>K v h) (XG d c f b h K)) _ _;simp only[look];refine rY (λe=>?_) (λe=>?_)
  ·rw[mE,iP e];exact .of rfl rfl
  ·rw[iN (by rw[e];simp)];exact i
end
theorem Yz{gl:Nat->Bool}{d:bW->Option (wc)}{g:bW->Option rW}(j:Bj aj d g){n:Nat}{f:bW}{a:List ag}{h:au}{v:ag}(i:zw P gl d aj n f a h (λu _=>I8 v u)=af):
  ∃c,dP P gl g n f a h=aa (v,c):=by
 rcases Je (P:=P) (gl:=gl) j n f a h (λu _=>I8 v u)with b|⟨⟨u,c⟩,b,e⟩
 ·rw[i]at b;cases b
 ·rw[i]at e;exact⟨c,by rw[b,WN e.symm]⟩
theorem Uo(l:jx P){b:bW->Option (wc)}{d:bW->Option rW}(p:Bj aj b d){n:Nat}(c:uo P zi (dP P zi d n)){f:bW}{a:List ag}{v:ag}
  (q:zw P zi b aj n f a ⟨0,.nil⟩ (λu _=>I8 v u)=af) (g:(a.all bare&&plain v&&cQ f YB&&wS P f)=af):uu P f a v:=by
 simp only[bg]at g;obtain⟨⟨⟨k,m⟩,j⟩,o⟩:=g;obtain⟨r,i,h⟩:=D7 o;obtain⟨s,e⟩:=Yz p q;exact Lh c e k m (by simpa[blt_eq]using j) i h l
theorem vP:wP P f []:=λ_ h=>by cases h
theorem rE{a:List ag}{b:List (List ag×ag)}(h:uu P f a v)(d:plain v=af)(e:wP P f b):wP P f ((a,v)::b):=λr c=>by
 rcases cW.1 c with rfl|c
 ·exact⟨h,d⟩
 ·exact e r c
end
section
variable {P:aO} {gl:Nat->Bool}
inductive wN where
 |Ll (tab:List (List ag×ag))
 |adG
 |SA
noncomputable def wN.O6(P:aO)(gl:Nat->Bool)(e:wN):rW:=wN.rec (motive:=λ_=>rW) (λa=>Ka a) qy nq e
noncomputable def wN.XH(P:aO)(gl:Nat->Bool)(a:Bool)(e:wN):wc:=wN.rec (motive:=λ_=>wc) (λb=>XG a b) (Jn a) (An a) e
abbrev rR:=List (bW×wN)
noncomputable def Gf{a:Type}(b:Bool)(x y:Option a):Option a:=Bool.rec (motive:=λ_=>Option a) y x b
noncomputable def Ow(P:aO)(gl:Nat->Bool)(l:rR)(f:bW):Option rW:=gj (motive:=λ_=>Option rW) none (λx _ a=>Gf (dk f x.1) (aa (x.2.O6 P gl)) a) l
noncomputable def YJ(P:aO)(gl:Nat->Bool)(a:Bool)(l:rR)(f:bW):Option (wc):=gj (motive:=λ_=>Option (wc)) none (λx _ b=>Gf (dk f x.1) (aa (x.2.XH P gl a)) b) l
theorem YK(a:Bool)(l:rR):Bj a (YJ P gl a l) (Ow P gl l):=λf=>by
 induction l with
 |nil=>exact .inl ⟨rfl,rfl⟩
 | cons x l o=>
  show(Gf (dk f x.1) (aa (x.2.XH P gl a)) (YJ P gl a l f)=none/\Gf (dk f x.1) (aa (x.2.O6 P gl)) (Ow P gl l f)=none)\/_
  cases c:dk f x.1 with
  | false=>
   rcases o with⟨g,i⟩|⟨p,q,g,i,n⟩
   ·exact .inl ⟨g,i⟩
   ·refine .inr ⟨p,q,?_,?_,n⟩
    ·show Gf (dk f x.1) (aa (x.2.XH P gl a)) (YJ P gl a l f)=_;rw[c];exact g
    ·show Gf (dk f x.1) (aa (x.2.O6 P gl)) (Ow P gl l f)=_;rw[c];exact i
  | true=>
   refine .inr ⟨x.2.XH P gl a,x.2.O6 P gl,?_,?_,λj d r b h K=>?_⟩
   ·show Gf (dk f x.1) (aa (x.2.XH P gl a)) (YJ P gl a l f)=_;rw[c];rfl
   ·show Gf (dk f x.1) (aa (x.2.O6 P gl)) (Ow P gl l f)=_;rw[c];rfl
   ·obtain⟨k,e⟩:=x
    cases e with
    |Ll m=>exact T7 a m j d b h K
    |adG=>exact Iv a j d b h K
    |SA=>exact Gw a j d b h K
def sM(P:aO)(gl:Nat->Bool)(l:rR):Prop:=∀x∈l,pH P gl x.1 (x.2.O6 P gl)
theorem SX{l:rR}(h:sM P gl l):vc P gl (Ow P gl l):=λf p a=>by
 induction l with
 |nil=>cases a
 | cons x l c=>
  have a:Gf (dk f x.1) (aa (x.2.O6 P gl)) (Ow P gl l f)=aa p:=a
  cases b:dk f x.1 with
  |false=>rw[b]at a;exact c (λy d=>h y (by simp[d])) a
  |true=>
   rw[b]at a;obtain rfl:=aG a;obtain rfl:f=x.1:=by simpa[beq_eq]using b
   exact h x (by simp)
theorem I6:sM P gl []:=λ_ h=>by cases h
theorem sT{x:bW×wN}{l:rR}(h:pH P gl x.1 (x.2.O6 P gl))(b:sM P gl l):sM P gl (x::l):=λy a=>by
 rcases cW.1 a with rfl|a
 ·exact h
 ·exact b y a
theorem oY{a:List (List ag×ag)}{l:rR}(h:wP P f a)(b:sM P gl l):sM P gl ((f,.Ll a)::l):=sT (ab9 h) b
theorem LN{p:rW}{c:bW->Option rW}(h:pH P gl f p)(d:vc P gl c):vc P gl (λg=>Gf (dk g f) (aa p) (c g)):=λg q a=>by
 dsimp only at a
 cases b:dk g f with
 |false=>rw[b]at a;exact d g q a
 |true=>
  rw[b]at a;obtain rfl:=aG a
  simp_all
structure Ag(P:aO):Prop where
 names:jx P
 Xw:∀(f:bW)(fn:Func),P.funcs[f]?=aa fn->iF fn=af
theorem Ag.run(h:Ag P){l:rR}(a:sM P gl l)(n:Nat):uo P gl (dP P gl (Ow P gl l) n):=KQ h.names (SX a) (D6 h.names h.Xw) (BE h.names) n
theorem Ag.ahX(h:Ag P){pr:bW->Option rW}(a:vc P gl pr)(n:Nat):uo P gl (dP P gl pr n):=KQ h.names a (D6 h.names h.Xw) (BE h.names) n
theorem px(b:Ag P){l:rR}(c:sM P zi l){n:Nat}{f:bW}{a:List ag}{v:ag}(d:zw P zi (YJ P zi aj l) aj n f a ⟨0,.nil⟩ (λu _=>I8 v u)=af)
  (e:(a.all bare&&plain v&&cQ f YB&&wS P f)=af):uu P f a v:=
 Uo b.names (YK aj l) (b.run c n) d e
end
end Go.Ab
end
section
namespace Go.Ab
open Go
variable{d:List ag}{f:bW}{w:ag}{P:aO}{r:bm->ag}{F:Func}
section
structure Sx where
 P:aO
 gl:Nat->Bool
 pr:bW->Option rW
abbrev Fr:=Nat->ag
def E8(E:Fr)(d:Nat)(v:ag):Fr:=λt=>if t=d then v else E t
def zj(E:Fr)(dst:Option Tmp)(v:ag):Fr:=match dst with
 |some d=>E8 E d v
 |none=>E
def jy(a:Nat->Bool)(E:Fr):bm->ag
 |.tmp t=>E t
 |.const v=>if plain v then v else qd
 |.global g=>if a g then df g 0 else qd
 |.func f=> .func (.func f) #[] #[]
def ER(nm:Nat)(E:Fr)(a:List ag):Prop:=a.length=nm/\∀t,a.getD t undef=E t
def BG(nm:Nat):Option Tmp->Bool
 |none=>af
 |some d=>decide (d<nm)
theorem ER.ev{nm:Nat}{E:Fr}{b:List ag}(a:Nat->Bool)(h:ER nm E b):ev a b=jy a E:=by
 funext x
 cases x with
 |tmp t=>exact h.2 t
 |const v=>rfl
 |global g=>rfl
 |func f=>rfl
theorem ER.put{nm:Nat}{E:Fr}(h:ER nm E d){dst:Option Tmp}(b:BG nm dst=af)(v:ag):ER nm (zj E dst v) (lR d dst v):=by
 cases dst with
 |none=>exact h
 |some c=>
  have b:c<nm:=by simpa[BG]using b
  refine⟨by simp[lR,h.1],λt=>?_⟩;simp only[lR,zj,E8,gD,List.getElem?_set];by_cases a:t=c
  ·subst a;rw[iP rfl,iP rfl,iP (by rw[h.1];omega)];rfl
  ·rw[iN a,iN (λe=>a e.symm),<-gD];exact h.2 t
def FR(S:Sx)(f:bW)(a:List ag)(h:au)(v:ag)(b:au):Prop:=∃c,∀n,c<=n->dP S.P S.gl S.pr n f a h=aa (v,b)
def FW(S:Sx)(f:bW)(a:List ag)(h:au)(Q:ag->au->Prop):Prop:=∃v b,FR S f a h v b/\Q v b
theorem FW.mono{S:Sx}{h:au}{Q R:ag->au->Prop}(c:FW S f d h Q)(g:∀v a,Q v a->R v a):FW S f d h R:=by
 obtain⟨v,a,b,e⟩:=c;exact⟨v,a,b,g v a e⟩
abbrev VH:=ag->au->Prop
abbrev FH:=Fr->au->Prop
abbrev Ih:=Exit->Fr->au->Prop
def HM(ops:Array aR)(E:Fr)(a:Option (Nat×Bool)):Option Bool:=match a with
 |none=>aa af
 | some (j,c)=>match (ops[j]?).bind (·.dst)with
  |some d=>match E d with
   |ah b=>aa (b==c)
   |av _=>aa aj
   |_=>none
  |none=>none
theorem tC{nm:Nat}{E:Fr}(h:ER nm E d)(ops:Array aR)(o:aR):jX ops d o=HM ops E o.guard:=by
 unfold jX HM
 cases o.guard with
 |none=>rfl
 |some g=>
  obtain⟨j,a⟩:=g;dsimp only
  cases (ops[j]?).bind (·.dst)with
  |none=>rfl
  |some b=>dsimp only;rw[h.2 b];rfl
def MH(r:Option (ag×ek))(h:au)(K:VH):Prop:=match r with
 |some (v,u)=>K v (u.app h)
 |none=>False
def yX(r:Option ag)(h:au)(K:VH):Prop:=match r with
 |some v=>K v h
 |none=>False
def vT(S:Sx)(f:ag)(b:List ag)(h:au)(K:VH):Prop:=match f with
 |aN (.func g) first a=>g<YB/\FW S g (first.toList++b++a.toList) h K
 |aN (.yield k) first a=>(first.size=0/\a.size=0)/\FW S (YB+k) b h K
 |_=>False
def wpOp(S:Sx)(E:Fr)(o:aR)(h:au)(K:VH):Prop:=match o.op with
 |.call { callee:= .value f,args,.. }=>vT S (jy S.gl E f) (args.toList.map (jy S.gl E)) h K
 |_=>MH (fK S.P mZ (jy S.gl E) o h) h K
def wpG(r:Option Bool)(A B:Unit->Prop):Prop:=match r with
 |some af=>A ()
 |some aj=>B ()
 |none=>False
def wpO(S:Sx)(ops:Array aR):List aR->Fr->au->FH->Prop
 |[],E,h,R=>R E h
 |o::l,E,h,R=>wpG (HM ops E o.guard) (λ_=>wpOp S E o h λv h=>wpO S ops l (zj E o.dst v) h R) (λ_=>wpO S ops l (zj E o.dst undef) h R)
def agN(S:Sx)(ops:Array aR)(dst:Option Tmp)(l:List aR)(E:Fr)(h:au)(R:FH)(_:Unit):Prop:=wpO S ops l (zj E dst undef) h R
def opK(S:Sx)(ops:Array aR)(dst:Option Tmp)(l:List aR)(E:Fr)(R:FH)(v:ag)(h:au):Prop:=wpO S ops l (zj E dst v) h R
def ahK(S:Sx)(ops:Array aR)(o:aR)(l:List aR)(E:Fr)(h:au)(R:FH)(_:Unit):Prop:=wpOp S E o h (opK S ops o.dst l E R)
section
variable (S:Sx) (ops:Array aR) (o:aR) (l:List aR) (dst:Option Tmp) (E:Fr) (h:au) (R:FH) (v:ag)
theorem aaE:wpO S ops (o::l) E h R=wpG (HM ops E o.guard) (ahK S ops o l E h R) (agN S ops o.dst l E h R):=rfl
theorem RL(ops:Array aR)(E:Fr)(j:Nat)(a:Bool):HM ops E (aa (j,a))=match (ops[j]?).bind (·.dst)with
  |some d=>(match E d with|ah b=>aa (b==a)|av _=>aa aj|_=>none)
  |none=>none:=rfl
end
noncomputable section
variable (S:Sx) (bf:Nat->Nat->Bool)
def Kc(o:aR)(E:Fr)(v:ag)(h:au):Bool:=match dW S.P (jy S.gl E) o h with
 |some v'=>oQ 4 v v'
 |none=>aj
def tQ(j:Nat)(o:aR)(E:Fr)(v:ag):au->List (Nat×au)->Bool->Bool
 |h,[],a=>a||Kc S o E v h
 |h,(e,b)::r,a=>((a&&cQ j e)||bf j e||Kc S o E v h)&&(bf e j||tQ j o E v b r (cQ e j))
abbrev Pv:=Fr×aR×rI
def AP(h:au)(a:List (Nat×au)):List Pv->Nat->Bool
 |[],_=>af
 |(E,o,.read v)::r,j=>tQ S bf j o E v h a af&&AP h a r (j+1)
 |_::r,j=>AP h a r (j+1)
def tK:List Pv->Nat->List (Nat×au)
 |[],_=>[]
 |(_,_,.zD _ h)::r,j=>(j,h)::tK r (j+1)
 |_::r,j=>tK r (j+1)
def BD(h:au)(a:List Pv):Bool:=chained bf (tK a 0)&&AP S bf h (tK a 0) a 0
def HS(E:Fr)(o:aR)(h:au)(K:VH):Prop:=match o.op with
 |.call { callee:= .value f,args,.. }=>vT S (jy S.gl E f) (args.toList.map (jy S.gl E)) h K
 |_=>MH (ia S.P mZ (jy S.gl E) o h) h K
def CY(ops:Array aR)(a:Nat)(d:au):List aR->Nat->Fr->au->List (Nat×eA)->List Pv->FH->Prop
 |[],_,E,h,c,b,R=>BD S bf d b.reverse=af/\R E (cr h a c)
 | o::l,j,E,h,c,b,R=>wpG (HM ops E o.guard)
   (λ_=>match eN S.P (jy S.gl E) o with
    |some v=>CY ops a d l (j+1) (zj E o.dst v) h c ((E,o,.pure v)::b) R
    | none=>match dW S.P (jy S.gl E) o h with
     |some v=>CY ops a d l (j+1) (zj E o.dst v) h c ((E,o,.read v)::b) R
     |none=>match dK S.P (jy S.gl E) o with
      |some (B,f)=>CY ops a d l (j+1) (zj E o.dst (f (a+j))) h ((j,B)::c) ((E,o,.alloc B (f (a+j)))::b) R
      |none=>HS S E o (cr h a (c.filter λp=>bf j p.1)) λv e=>CY ops a d l (j+1) (zj E o.dst v) e (c.filter λp=> !bf j p.1) ((E,o,.zD v e)::b) R)
   (λ_=>CY ops a d l (j+1) (zj E o.dst undef) h c ((E,o,.skip)::b) R)
def wpD(nm:Nat)(ops:Array aR)(E:Fr)(h:au)(R:FH):Prop:=
 (Ah ops=aj/\CY S (gw (l5 ops)) ops h.aD { h with aD:=h.aD+ops.size } ops.toList 0 E { h with aD:=h.aD+ops.size } [] [] R)\/
  (Ah ops=af/\∃(a:List ag)(b:au),a.length=nm/\Jj S.P S.gl ops (gw (l5 ops)) ((dA nm).map E) h=aa (a,b)/\R (λt=>a.getD t undef) b)
end
section
variable (S:Sx) (nm:Nat)
def WB(c:Code)(E:Fr)(h:au)(x:Exit)(e:Fr)(f:au):Prop:=
 ∃d,∀n N,d<=n->d<=N->∀b,ER nm E b->∃a,ER nm e a/\dj S.P S.gl (dP S.P S.gl S.pr n) N c b h=aa (x,a,f)
def afp(c:Code)(E:Fr)(h:au)(x:Exit)(e:Fr)(f:au):Prop:=
 ∃b,∀n N j,b<=n->b<=N->b<=j->∀d,ER nm E d->∃a,ER nm e a/\iter (dj S.P S.gl (dP S.P S.gl S.pr n) N c) j d h=aa (x,a,f)
def IW(c:Code)(E:Fr)(h:au)(Q:Ih):Prop:=∃x a b,afp S nm c E h x a b/\Q x a b
def PM(c:Code)(E:Fr)(h:au)(Q:Ih):Prop:=∃x a b,WB S nm c E h x a b/\Q x a b
def wpB(v:ag)(A B:Unit->Prop):Prop:=match v with
 |ah af=>A ()
 |ah aj=>B ()
 |_=>False
def wpC:Code->Fr->au->Ih->Prop
 |.skip,E,h,Q=>Q .normal E h
 |.region _ ops aj,E,h,Q=>wpO S ops ops.toList E h λE h=>Q .normal E h
 |.region _ ops af,E,h,Q=>wpD S nm ops E h λE h=>Q .normal E h
 |.seq a b,E,h,Q=>wpC a E h λx E h=>match x with
  |.normal=>wpC b E h Q
  |x=>Q x E h
 |.cond c a b,E,h,Q=>wpB (jy S.gl E c) (λ_=>wpC a E h Q) (λ_=>wpC b E h Q)
 |.block id c,E,h,Q=>wpC c E h λx E h=>match x with
  |.exit id'=>if id'=id then Q .normal E h else Q (.exit id') E h
  |x=>Q x E h
 |.loop c,E,h,Q=>IW S nm c E h Q
 |.exit id,E,h,Q=>Q (.exit id) E h
 |.ret,E,h,Q=>Q .ret E h
 |.label _,E,h,Q=>Q .normal E h
 |.rangeFunc f d a b,E,h,Q=>PM S nm (.rangeFunc f d a b) E h Q
 |_,_,_,_=>False
def afH(c:Code)(Q:Ih)(x:Exit)(E:Fr)(h:au):Prop:=match x with
 |.normal=>IW S nm c E h Q
 |x=>Q x E h
def goK(c:Code)(E:Fr)(h:au)(Q:Ih)(_:Unit):Prop:=wpC S nm c E h Q
variable (a b c:Code) (o:bm) (id id':Nat) (ops:Array aR) (E:Fr) (h:au) (Q:Ih)
theorem aaB:wpC S nm (.cond o a b) E h Q=wpB (jy S.gl E o) (goK S nm a E h Q) (goK S nm b E h Q):=rfl
end
theorem ac7{v:ag}{A B:Unit->Prop}(h:wpB v A B):∃b,v=ah b/\((b=af/\A ())\/(b=aj/\B ())):=by
 cases v with
 |bool b=>
  cases b with
  |true=>exact⟨af,rfl,.inl ⟨rfl,h⟩⟩
  |false=>exact⟨aj,rfl,.inr ⟨rfl,h⟩⟩
 |_=>exact h.elim
theorem Mx{r:Option Bool}{A B:Unit->Prop}(h:wpG r A B):(r=aa af/\A ())\/(r=aa aj/\B ()):=by
 cases r with
 |none=>exact h.elim
 |some b=>
  cases b with
  |true=>exact .inl ⟨rfl,h⟩
  |false=>exact .inr ⟨rfl,h⟩
section
variable {S:Sx} {nm:Nat}
theorem CX{h:au}{K:VH}(c:vT S w d h K):∃v a b,(∀n,b<=n->wQ (dP S.P S.gl S.pr n) w d h=aa (v,.all a))/\K v a:=by
 unfold vT at c;split at c
 ·next g first f=>
  obtain⟨k,v,a,⟨b,j⟩,e⟩:=c;refine⟨v,a,b,λn i=>?_,e⟩
  simp_all[wQ]
 ·obtain⟨l,v,a,⟨b,j⟩,e⟩:=c;refine⟨v,a,b,λn i=>?_,e⟩
  simp_all[wQ]
 grind
theorem sU{o:aR}(b:eh o=af):∃f args a,o.op = .call { callee:= .value f,args:=args,argTypes:=a }:=by grind[eh]
theorem Po{E:Fr}{o:aR}{h:au}{K:VH}(b:HS S E o h K):∃v u c,(∀n,c<=n->ia S.P (dP S.P S.gl S.pr n) (jy S.gl E) o h=aa (v,u))/\K v (u.app h):=by
 cases m:eh o with
 |true=>
  obtain⟨f,l,s,e⟩:=sU m;obtain⟨dst,r,q,p,g,d⟩:=o;dsimp only at e;subst e;obtain⟨v,k,c,i,j⟩:=CX b;exact⟨v,.all k,c,i,j⟩
 | false=>
  have a:MH (ia S.P mZ (jy S.gl E) o h) h K:=by
   unfold HS at b;split at b
   ·grind[eh]
   ·omega
  unfold MH at a;split at a
  ·next v u e=>exact⟨v,u,0,λn _=>by grind[AA],a⟩
  grind
theorem On{a:fO}{o:aR}{h:au}(g:eh o=af):fK P a r o h=ia P a r o h:=by
 obtain⟨f,d,l,e⟩:=sU g;obtain⟨dst,k,j,i,c,b⟩:=o;dsimp only at e;subst e;rfl
theorem RT{E:Fr}{o:aR}{h:au}{K:VH}(b:wpOp S E o h K):∃v u c,(∀n,c<=n->fK S.P (dP S.P S.gl S.pr n) (jy S.gl E) o h=aa (v,u))/\K v (u.app h):=by
 cases d:eh o with
 |true=>
  obtain⟨f,p,t,e⟩:=sU d;obtain⟨dst,s,r,q,i,g⟩:=o;dsimp only at e;subst e;obtain⟨v,m,c,k,l⟩:=CX b;exact⟨v,.all m,c,λn j=>by rw[On d];exact k n j,l⟩
 | false=>
  have a:MH (fK S.P mZ (jy S.gl E) o h) h K:=by
   unfold wpOp at b;split at b
   ·grind[eh]
   ·omega
  unfold MH at a;split at a
  ·next v u e=>exact⟨v,u,0,λn _=>by grind[Hb],a⟩
  grind
theorem DY(ops:Array aR){R:FH}:∀(l:List aR)(E:Fr)(h:au),(l.all λo=>BG nm o.dst)=af->wpO S ops l E h R->
  ∃e f x,(∀n,x<=n->∀d,ER nm E d->∃a,ER nm e a/\pV S.P S.gl (dP S.P S.gl S.pr n) ops l d h=aa (a,f))/\R e f
 |[],E,h,_,b=>⟨E,h,0,λn _ d c=>⟨d,c,rfl⟩,b⟩
 | o::l,E,h,g,b=>by
  simp only[ep,bg]at g;rcases Mx b with⟨q,b⟩|⟨q,b⟩
  ·obtain⟨v,u,r,s,t⟩:=RT b;obtain⟨e,f,j,k,m⟩:=DY ops l _ _ g.2 t;refine⟨e,f,max r j,λn p d c=>?_,m⟩;obtain⟨a,i,w⟩:=k n (by omega) _ (c.put g.1 v);refine⟨a,i,?_⟩;simp only[pV];rw[tC c,q,c.ev,s n (by omega)];omega
  ·obtain⟨e,f,j,k,m⟩:=DY ops l _ _ g.2 b;refine⟨e,f,j,λn p d c=>?_,m⟩;obtain⟨a,i,w⟩:=k n p _ (c.put g.1 undef)
   grind[tC,pV]
def FM(nm:Nat):List aR->List Pv->List (List ag×rI)->Prop
 |[],[],[]=>True
 |o::c,(E,d,e)::r,(b,a)::f=>d=o/\a=e/\ER nm E b/\FM nm c r f
 |_,_,_=>False
theorem No:∀{l:List aR}{r:List Pv}{a:List (List ag×rI)}(j:Nat),FM nm l r a->iV a j=tK r j
 |[],[],[],_,_=>rfl
 |o::d,(E,f,e)::r,(c,b)::a,j,h=>by
  obtain⟨rfl,rfl,_,h⟩:=h
  cases b<;>simp only[iV,tK,No (j+1) h]
 |[],[],_::_,_,h=>h.elim
 |[],_::_,_,_,h=>h.elim
 |_::_,[],_,_,h=>h.elim
 |_::_,_::_,[],_,h=>h.elim
theorem CJ{o:aR}{E:Fr}{v:ag}{h:au}(a:ER nm E d):nu S.P S.gl o d v h=Kc S o E v h:=by
 unfold nu Kc;rw[a.ev];rfl
theorem Ht{bf:Nat->Nat->Bool}{j:Nat}{o:aR}{E:Fr}{c:List ag}{v:ag}(d:ER nm E c):∀(b:List (Nat×au))(h:au)(a:Bool),pY S.P S.gl bf j o c v h b a=tQ S bf j o E v h b a
 |[],h,a=>by grind[CJ,pY,tQ]
 |(e,f)::b,h,a=>by simp only[pY,tQ,CJ d,Ht d b]
theorem JT{bf:Nat->Nat->Bool}{h:au}{c:List (Nat×au)}:∀{l:List aR}{r:List Pv}{b:List (List ag×rI)}(j:Nat),FM nm l r b->lT S.P S.gl bf h c l b j=AP S bf h c r j
 |[],[],[],_,_=>rfl
 |o::i,(E,k,e)::r,(g,d)::b,j,a=>by
  obtain⟨rfl,rfl,f,a⟩:=a
  cases d<;>simp only[lT,AP,JT (j+1) a,Ht f]
 |[],[],_::_,_,h=>h.elim
 |[],_::_,_,_,h=>h.elim
 |_::_,[],_,_,h=>h.elim
 |_::_,_::_,[],_,h=>h.elim
theorem HR(bf:Nat->Nat->Bool)(ops:Array aR)(a:Nat)(A:au){R:FH}:∀(l:List aR)(j:Nat)(E:Fr)(h:au)(m:List (Nat×eA))(g:List Pv),(l.all λo=>BG nm o.dst)=af->CY S bf ops a A l j E h m g R->
  ∃p s k r J,(∀n,J<=n->∀b,ER nm E b->∃i t,ER nm p i/\FM nm l r t/\hE S.P S.gl (dP S.P S.gl S.pr n) ops bf a l j b h m=aa (t,i,s,k))/\BD S bf A (g.reverse++r)=af/\R p (cr s a k)
 |[],j,E,h,m,g,_,c=>⟨E,h,m,[],0,λn _ b d=>⟨b,[],d,trivial,rfl⟩,by rw[cp];exact c.1,c.2⟩
 | o::l,j,E,h,m,g,I,c=>by
  simp only[ep,bg]at I;have fin:∀(v:ag)(e:rI)(D:au)(y:List (Nat×eA))(z:Nat),CY S bf ops a A l (j+1) (zj E o.dst v) D y ((E,o,e)::g) R->
    (∀n,z<=n->∀b,ER nm E b->∀q,hE S.P S.gl (dP S.P S.gl S.pr n) ops bf a l (j+1) (lR b o.dst v) D y=aa q->hE S.P S.gl (dP S.P S.gl S.pr n) ops bf a (o::l) j b h m=aa ((b,e)::q.1,q.2))->
    ∃p s k r J,(∀n,J<=n->∀b,ER nm E b->∃i t,ER nm p i/\FM nm (o::l) r t/\hE S.P S.gl (dP S.P S.gl S.pr n) ops bf a (o::l) j b h m=aa (t,i,s,k))/\BD S bf A (g.reverse++r)=af/\R p (cr s a k):=by
   intro v e D y z L w;obtain⟨p,s,k,r,O,H,U,P⟩:=HR bf ops a A l (j+1) _ _ _ _ I.2 L;refine⟨p,s,k,(E,o,e)::r,max z O,λn N b d=>?_,?_,P⟩
   ·obtain⟨i,t,K,Q,T⟩:=H n (by omega) _ (d.put I.1 v);exact⟨i,(b,e)::t,K,⟨rfl,rfl,d,Q⟩,w n (by omega) b d _ T⟩
   ·grind
  rcases Mx c with⟨C,c⟩|⟨C,c⟩
  ·cases x:eN S.P (jy S.gl E) o with
   |some v=>
    rw[x]at c;refine fin v (.pure v) h m 0 c λn _ b d q w=>?_;simp only[hE];rw[tC d,C,d.ev,x]
    grind
   | none=>
    rw[x]at c;dsimp only at c
    cases F:dW S.P (jy S.gl E) o h with
    |some v=>
     rw[F]at c;refine fin v (.read v) h m 0 c λn _ b d q w=>?_;simp only[hE];rw[tC d,C,d.ev,x]
     grind
    | none=>
     rw[F]at c;dsimp only at c
     cases G:dK S.P (jy S.gl E) o with
     |some M=>
      obtain⟨B,f⟩:=M;rw[G]at c;refine fin _ (.alloc B (f (a+j))) h ((j,B)::m) 0 c λn _ b d q w=>?_;simp only[hE];rw[tC d,C,d.ev,x]
      grind
     |none=>
      rw[G]at c;dsimp only at c;obtain⟨v,u,z,D,H⟩:=Po c;refine fin v (.zD v _) _ _ z H λn N b d q w=>?_;simp only[hE];rw[tC d,C,d.ev,x]
      grind
  ·refine fin undef .skip h m 0 c λn _ b d q w=>?_
   grind[tC,hE]
theorem Wg{ops:Array aR}{E:Fr}{h:au}{R:FH}(v:(ops.toList.all λo=>BG nm o.dst)=af)(p:wpD S nm ops E h R):
  ∃g f q,(∀n,q<=n->∀c,ER nm E c->∃a,ER nm g a/\D8 S.P S.gl (dP S.P S.gl S.pr n) ops c h=aa (a,f))/\R g f:=by
 rcases p with⟨b,p⟩|⟨b,a,f,l,d,m⟩
 case inr=>
  refine⟨_,f,0,λn _ c j=>⟨a,⟨l,λ_=>rfl⟩,?_⟩,m⟩;have e:c=(dA nm).map E:=by
   refine List.ext_getElem (by simp[j.1]) λi k m=>?_;have:=j.2 i;rw[gD,gE k]at this;simpa using this
  unfold D8;rw[b,iP rfl,e];exact d
 obtain⟨g,f,w,r,q,k,m,u⟩:=HR (gw (l5 ops)) ops h.aD _ ops.toList 0 E _ [] [] v p;refine⟨g,_,q,λn t c j=>?_,u⟩;obtain⟨a,z,s,y,x⟩:=k n t c j;refine⟨a,s,?_⟩;unfold D8;rw[b,iN (by simp)]
 grind[No,JT,yx,BD]
def mB(nm:Nat):Code->Bool
 |.region _ ops _=>ops.toList.all λo=>BG nm o.dst
 |.seq a b=>mB nm a&&mB nm b
 |.cond _ a b=>mB nm a&&mB nm b
 |.block _ c=>mB nm c
 |.loop c=>mB nm c
 |_=>af
theorem qD:∀(c:Code){E:Fr}{h:au}{Q:Ih},mB nm c=af->wpC S nm c E h Q->∃x w y,WB S nm c E h x w y/\Q x w y
 |.skip,E,h,_,_,d=>⟨.normal,E,h,⟨0,λ_ _ _ _ e i=>⟨e,i,rfl⟩⟩,d⟩
 |.exit id,E,h,_,_,d=>⟨.exit id,E,h,⟨0,λ_ _ _ _ e i=>⟨e,i,rfl⟩⟩,d⟩
 |.ret,E,h,_,_,d=>⟨.ret,E,h,⟨0,λ_ _ _ _ e i=>⟨e,i,rfl⟩⟩,d⟩
 |.label _,E,h,_,_,d=>⟨.normal,E,h,⟨0,λ_ _ _ _ e i=>⟨e,i,rfl⟩⟩,d⟩
 |.region _ ops aj,E,h,_,q,d=>by
  obtain⟨w,y,B,p,A⟩:=DY ops ops.toList E h q d;refine⟨.normal,w,y,⟨B,λn N r _ e i=>?_⟩,A⟩
  grind[dj]
 |.region _ ops af,E,h,_,q,d=>by
  obtain⟨w,y,B,p,A⟩:=Wg q d;refine⟨.normal,w,y,⟨B,λn N r _ e i=>?_⟩,A⟩
  grind[dj]
 | .seq a b,E,h,Q,q,d=>by
  simp only[mB,bg]at q;obtain⟨x,v,p,⟨u,j⟩,m⟩:=qD a q.1 d;have I:(∀n N f ,dj S.P S.gl (dP S.P S.gl S.pr n) N a f h=aa (x,f,p)->True)->x≠ .normal->Q x v p->∃x w y,WB S nm (.seq a b) E h x w y/\Q x w y:=by
   intro _ D m;refine⟨x,v,p,⟨u,λn N r s e i=>?_⟩,m⟩;obtain⟨f,g,z⟩:=j n N r s e i;refine⟨f,g,?_⟩;simp only[dj];rw[z]
   cases x with
   |normal=>grind
   |_=>rfl
  cases x with
  |normal=>
   obtain⟨x,H,A,⟨G,F⟩,m⟩:=qD b q.2 m;refine⟨x,H,A,⟨max u G,λn N r s e i=>?_⟩,m⟩;obtain⟨f,g,z⟩:=j n N (by omega) (by omega) e i;obtain⟨J,K,L⟩:=F n N (by omega) (by omega) f g
   grind[dj]
  |exit id=>simp_all
  |goto l=>simp_all
  |ret=>simp_all
  |panic _=>simp_all
  |outgrown=>simp_all
 | .cond o a b,E,h,Q,q,d=>by
  simp only[mB,bg]at q;obtain⟨t,C,⟨i,d⟩|⟨i,d⟩⟩:=ac7 d
  ·obtain⟨x,v,p,⟨u,j⟩,m⟩:=qD a q.1 d;refine⟨x,v,p,⟨u,λn N r s e k=>?_⟩,m⟩;obtain⟨f,g,z⟩:=j n N r s e k;refine⟨f,g,?_⟩;simp only[dj];rw[k.ev,C,i]
   grind
  ·obtain⟨x,v,p,⟨u,j⟩,m⟩:=qD b q.2 d;refine⟨x,v,p,⟨u,λn N r s e k=>?_⟩,m⟩;obtain⟨f,g,z⟩:=j n N r s e k;refine⟨f,g,?_⟩;simp only[dj];rw[k.ev,C,i]
   grind
 | .block id c,E,h,Q,q,d=>by
  obtain⟨x,v,p,⟨u,j⟩,m⟩:=qD c q d;by_cases D:x = .exit id
  ·subst D;dsimp only at m;rw[iP rfl]at m;refine⟨.normal,v,p,⟨u,λn N r s e k=>?_⟩,m⟩
   grind[dj]
  ·refine⟨x,v,p,⟨u,λn N r s e k=>?_⟩,?_⟩
   ·obtain⟨f,g,z⟩:=j n N r s e k;refine⟨f,g,?_⟩;simp only[dj]
    grind
   grind
 |.loop c,E,h,Q,q,d=>by
  obtain⟨x,v,p,⟨u,j⟩,m⟩:=d;refine⟨x,v,p,⟨u,λn N r s e k=>?_⟩,m⟩;obtain⟨f,g,z⟩:=j n N N r s s e k;exact⟨f,g,z⟩
 |.rangeFunc ..,_,_,_,_,d=>d
 |.scope _,_,_,_,_,d=>d.elim
 |.goto _,_,_,_,_,d=>d.elim
 |.refuse _,_,_,_,_,d=>d.elim
theorem X9{c:Code}{E:Fr}{h:au}{Q:Ih}(z:mB nm c=af)(y:wpC S nm c E h (afH S nm c Q)):IW S nm c E h Q:=by
 obtain⟨x,r,p,⟨m,g⟩,a⟩:=qD c z y;have b:x≠ .normal->Q x r p->IW S nm c E h Q:=by
  intro D a;refine⟨x,r,p,⟨m+1,λn N j s v A i k=>?_⟩,a⟩;obtain⟨d,rfl⟩:∃d,j=d+1:=⟨j-1,by omega⟩
  obtain⟨f,e,o⟩:=g n N (by omega) (by omega) i k;refine⟨f,e,?_⟩;simp only[iter];rw[o]
  cases x with
  |normal=>grind
  |_=>rfl
 cases x with
 |normal=>
  obtain⟨x,u,w,⟨t,q⟩,a⟩:=a;refine⟨x,u,w,⟨max m t+1,λn N j s v A i k=>?_⟩,a⟩;obtain⟨d,rfl⟩:∃d,j=d+1:=⟨j-1,by omega⟩
  obtain⟨f,e,o⟩:=g n N (by omega) (by omega) i k;obtain⟨B,C,F⟩:=q n N d (by omega) (by omega) (by omega) f e
  grind[iter]
 |exit id=>exact b (by simp) a
 |goto l=>exact b (by simp) a
 |ret=>exact b (by simp) a
 |panic _=>exact b (by simp) a
 |outgrown=>exact b (by simp) a
noncomputable def zo(S:Sx)(E:Fr)(h:au):List ResultVar->Option (List ag)
 |[]=>aa []
 |.tmp t::r=>(zo S E h r).map (E t::·)
 |.cell a t::r=>match aS S.P t h (E a)with
  |some v=>(zo S E h r).map (v::·)
  |none=>none
theorem Mg{E:Fr}{h:au}{c:List ag}(b:ER nm E c):∀l,fY S.P c h l=zo S E h l
 |[]=>rfl
 |.tmp t::r=>by simp only[fY,zo,Mg b r,b.2 t]
 |.cell a t::r=>by
  simp only[fY,zo,Mg b r,b.2 a];rfl
def EB(r:Option (List ag))(h:au)(Q:VH):Prop:=match r with
 |some a=>Q (fP a) h
 |none=>False
def ahU(S:Sx)(a:List ResultVar)(Q:VH)(x:Exit)(E:Fr)(h:au):Prop:=match x with
 |.normal=>EB (zo S E h a) h Q
 |.ret=>EB (zo S E h a) h Q
 |_=>False
def ad0(a:List ag):Fr:=λt=>a.getD t undef
theorem agb{c:Code}{h:au}{Q:VH}(C:S.P.funcs[f]?=aa F)(A:F.body=aa c)(o:f<YB)(r:S.pr f=none)(E:d.length<=F.ntmps)(s:mB F.ntmps c=af)
  (q:wpC S F.ntmps c (ad0 d) h (ahU S F.results.toList Q)):FW S f d h Q:=by
 obtain⟨x,g,e,⟨w,v⟩,b⟩:=qD c s q;have u:ER F.ntmps (ad0 d) (d++aQ (F.ntmps-d.length) undef):=by
  refine⟨by grind,λt=>?_⟩;show _=d.getD t undef;simp only[gD];by_cases m:t<d.length
  ·grind
  ·grind
 have l:∃a,zo S g e F.results.toList=aa a/\Q (fP a) e/\(x = .normal\/x = .ret):=by
  have j:EB (zo S g e F.results.toList) e Q->∃a,zo S g e F.results.toList=aa a/\Q (fP a) e:=by
   intro b
   cases k:zo S g e F.results.toList with
   |none=>rw[k]at b;exact b.elim
   |some a=>rw[k]at b;exact⟨a,rfl,b⟩
  cases x with
  |normal=>obtain⟨a,m,p⟩:=j b;grind
  |ret=>obtain⟨a,m,p⟩:=j b;grind
  |_=>exact b.elim
 obtain⟨a,k,b,G⟩:=l;refine⟨fP a,e,⟨w+1,λn B=>?_⟩,b⟩;obtain⟨i,rfl⟩:∃i,n=i+1:=⟨n-1,by omega⟩
 obtain⟨z,y,D⟩:=v i i (by omega) (by omega) _ u;simp only[dP];rw[iN (Nat.not_le.2 o),r]
 grind[Mg]
end
end
variable{A:Type}{B:Type}{q:aR}
section
section
variable (gl:Nat->Bool) (E:Fr)
theorem map_nil(f:A->B):[].map f=([]:List B):=rfl
theorem ago(f:A->B)(a:A)(l:List A):(a::l).map f=f a::l.map f:=rfl
end
section
variable (S:Sx) (E:Fr) (dst:Option Tmp) (ty:aF) (pos:String) (after:Array Edge) (guard:Option (Nat×Bool)) (h:au) (K:VH)
theorem lY(a:eh q=aj):wpOp S E q h K=MH (fK S.P mZ (jy S.gl E) q h) h K:=by grind[wpOp,eh]
theorem aaI{P:aO}(b:∀h,eN P r q=none->fK P mZ r q h=none):MH (fK P mZ r q h) h K=yX (eN P r q) h K:=by
 cases a:eN P r q with
 |none=>rw[b h a];rfl
 |some v=>unfold fK;rw[a];rfl
def rL:Op->Bool
 |.move _|.assign _|.pick ..|.build ..|.nilCheck _|.binOp ..|.unOp ..|.makeInterface ..|.makeFunc ..|.fieldAddr ..|.field ..|.indexAddr ..|.index ..|.typeAssert ..|.extract .. =>af
 |.call { callee:= .builtin .max,.. }|.call { callee:= .builtin .min,.. }|.call { callee:= .builtin .cap,.. }=>af
 |_=>aj
theorem U1{P:aO}{a:Op}(b:rL a=af)(h:au)(c:eN P r ⟨dst,a,ty,pos,after,guard⟩=none):fK P mZ r ⟨dst,a,ty,pos,after,guard⟩ h=none:=by
 unfold fK;rw[c];unfold rL at b;split at b<;>first|rfl|grind
theorem QY{a:Op}(b:rL a=af):eh ⟨dst,a,ty,pos,after,guard⟩=aj:=by
 unfold rL at b;split at b<;>first|rfl|grind
theorem ij{a:Op}(b:rL a=af):wpOp S E ⟨dst,a,ty,pos,after,guard⟩ h K=yX (eN S.P (jy S.gl E) ⟨dst,a,ty,pos,after,guard⟩) h K:=by grind[lY,QY,aaI,U1]
def adH(c x y:ag):Option ag:=match c with
 |ah t=>aa (if t then x else y)
 |_=>none
def adt(v:ag)(i:Nat):Option ag:=match v with
 |av a=>a[i]?
 |_=>none
def dE(P:aO)(t:aF)(x i:ag):Option ag:=match P.underlying t,x,i with
  |some (.array a e),al cs,aC _ j=>match bZ P e with
   |some n=>if 0<=j/\j<(a:Int)then partOf P e cs (j.toNat*n)else none
   |none=>none
  |some .string,bt s,aC _ j=>if 0<=j then match s.data.toList[j.toNat]? with|some b=>aa (aC aK b.toNat)|none=>none else none
  |_,_,_=>none
def aW(P:aO)(t:aF)(x i:ag):Option ag:=match P.underlying t,x,i with
  |some (.array b e),bj (aa a),aC _ j=>match bZ P e with
   |some n=>if 0<=j/\j<(b:Int)then aa (bj (aa (a.add (j.toNat*n))))else none
   |none=>none
  |some (.slice e),ae (aa a) b _,aC _ j=>match bZ P e with
   |some n=>if 0<=j/\j<(b:Int)then aa (bj (aa (a.add (j.toNat*n))))else none
   |none=>none
  |_,_,_=>none
def aY(P:aO)(s:aF)(x:ag)(f:Nat):Option ag:=match P.underlying s,x with
  |some (.struct b),bj (aa a)=>match b[f]? with
   |some c=>if(bZ P c.type).any (· ≠0)then aa (bj (aa (a.add c.offset)))else none
   |none=>none
  |_,_=>none
def XI(P:aO)(t:aF)(x:ag)(f:Nat):Option ag:=match P.underlying t,x with
  |some (.struct a),al cs=>match a[f]? with
   |some b=>partOf P b.type cs b.offset
   |none=>none
  |_,_=>none
noncomputable def X6(P:aO)(t:aF)(x:ag)(h:au):Option ag:=match P.underlying t,x with
   |some .string,bt s=>aa (aE s.data.toList.length)
   |some (.array n _),_=>aa (aE n)
   |some (.slice _),ae _ n _=>aa (aE n)
   |some (.map ..),.map none=>aa (aE 0)
   |some (.map ..),.map (aa r)=>match h.get r with
    |some (.map a)=>aa (aE a.length)
    |_=>none
   |_,_=>none
theorem Wj(c a b:bm):wpOp S E ⟨dst,.pick c a b,ty,pos,after,guard⟩ h K=yX (adH (jy S.gl E c) (jy S.gl E a) (jy S.gl E b)) h K:=ij S E dst ty pos after guard h K rfl
theorem RN(a:BinOp)(t u:aF)(x y:bm):wpOp S E ⟨dst,.binOp a t x y u,ty,pos,after,guard⟩ h K=yX (ca S.P a t (jy S.gl E x) (jy S.gl E y)) h K:=ij S E dst ty pos after guard h K rfl
theorem Wk(a:UnOp)(t:aF)(x:bm):wpOp S E ⟨dst,.unOp a t x,ty,pos,after,guard⟩ h K=yX (Pj a (jy S.gl E x)) h K:=ij S E dst ty pos after guard h K rfl
theorem Mz(x:bm)(i:Nat):wpOp S E ⟨dst,.extract x i,ty,pos,after,guard⟩ h K=yX (adt (jy S.gl E x) i) h K:=ij S E dst ty pos after guard h K rfl
theorem RQ(t:aF)(x i:bm):wpOp S E ⟨dst,.index t x i,ty,pos,after,guard⟩ h K=yX (dE S.P t (jy S.gl E x) (jy S.gl E i)) h K:=ij S E dst ty pos after guard h K rfl
theorem HW(t:aF)(x i:bm):wpOp S E ⟨dst,.indexAddr t x i,ty,pos,after,guard⟩ h K=yX (aW S.P t (jy S.gl E x) (jy S.gl E i)) h K:=ij S E dst ty pos after guard h K rfl
theorem HV(t:aF)(x:bm)(f:Nat):wpOp S E ⟨dst,.fieldAddr t x f,ty,pos,after,guard⟩ h K=yX (aY S.P t (jy S.gl E x) f) h K:=ij S E dst ty pos after guard h K rfl
theorem RO(t:aF)(x:bm)(f:Nat):wpOp S E ⟨dst,.field t x f,ty,pos,after,guard⟩ h K=yX (XI S.P t (jy S.gl E x) f) h K:=ij S E dst ty pos after guard h K rfl
theorem aaG(a:Array bm)(b:Array aF):wpOp S E ⟨dst,.call ⟨.builtin .max,a,b⟩,ty,pos,after,guard⟩ h K=yX (ud af (a.toList.map (jy S.gl E))) h K:=ij S E dst ty pos after guard h K rfl
theorem aaH(a:Array bm)(b:Array aF):wpOp S E ⟨dst,.call ⟨.builtin .min,a,b⟩,ty,pos,after,guard⟩ h K=yX (ud aj (a.toList.map (jy S.gl E))) h K:=ij S E dst ty pos after guard h K rfl
theorem uS(o:aR)(b:eh o=aj)(c:eN S.P (jy S.gl E) o=none)(a:dK S.P (jy S.gl E) o=none)(d:ia S.P mZ (jy S.gl E) o h=none):wpOp S E o h K=yX (dW S.P (jy S.gl E) o h) h K:=by
 rw[lY S E h K b];unfold fK;rw[c];dsimp only
 cases dW S.P (jy S.gl E) o h with
 |some v=>rfl
 |none=>dsimp only;rw[a];dsimp only;rw[d];rfl
theorem Wh(t:aF)(a:bm):wpOp S E ⟨dst,.load t a,ty,pos,after,guard⟩ h K=yX (aS S.P t h (jy S.gl E a)) h K:=uS S E h K _ rfl rfl rfl rfl
theorem RS(t:aF)(x:bm)(c b a:Option bm):wpOp S E ⟨dst,.slice t x c b a,ty,pos,after,guard⟩ h K=yX (dN S.P t (jy S.gl E x) (c.map (jy S.gl E)) (b.map (jy S.gl E)) (a.map (jy S.gl E)) h) h K:=uS S E h K _ rfl rfl rfl rfl
theorem aaF(x:bm)(t:aF):wpOp S E ⟨dst,.call ⟨.builtin .len,#[x],#[t]⟩,ty,pos,after,guard⟩ h K=yX (X6 S.P t (jy S.gl E x) h) h K:=uS S E h K _ rfl rfl rfl rfl
theorem yl(o:aR)(b:eh o=aj)(c:eN S.P (jy S.gl E) o=none)(a:dW S.P (jy S.gl E) o h=none)(d:dK S.P (jy S.gl E) o=none):wpOp S E o h K=MH (ia S.P mZ (jy S.gl E) o h) h K:=by grind[lY,fK]
theorem Pp(s x:bm)(t a:aF):wpOp S E ⟨dst,.call ⟨.builtin .append,#[s,x],#[t,a]⟩,ty,pos,after,guard⟩ h K=MH (cG S.P t a (jy S.gl E s) (jy S.gl E x) h) h K:=rfl
theorem RU(t:aF)(a x:bm):wpOp S E ⟨dst,.store t a x,ty,pos,after,guard⟩ h K=MH (bh S.P t (jy S.gl E a) (jy S.gl E x) h) h K:=rfl
def wpA(r:Option (eA×(Nat->ag)))(h:au)(K:VH):Prop:=match r with
 |some (B,f)=>K (f h.aD) (h.push B)
 |none=>False
theorem rF(o:aR)(b:eh o=aj)(c:eN S.P (jy S.gl E) o=none)(a:dW S.P (jy S.gl E) o h=none)(d:ia S.P mZ (jy S.gl E) o h=none):wpOp S E o h K=wpA (dK S.P (jy S.gl E) o) h K:=by
 rw[lY S E h K b];unfold fK;rw[c];dsimp only;rw[a];dsimp only
 cases dK S.P (jy S.gl E) o with
 |some r=>rfl
 |none=>dsimp only;rw[d];rfl
end
section
variable (P:aO) (t:aF) (k:ee) (a b:Int)
theorem KO(c:b≠0):ca P .quo t (aC k a) (aC k b)=aa (aC k (k.wrap (a.tdiv b))):=by grind[ca]
theorem aa0(c:b≠0):ca P .rem t (aC k a) (aC k b)=aa (aC k (a.tmod b)):=by grind[ca]
variable (x y:ByteArray)
end
end
variable{b:Bool}{h:au}{X:Sx}{T:aF}{v:ag}{c:List ag}{E:Fr}{n:Nat}{x:List Nat}{U:Array aR}{Q:VH}{j:Nat}{y:List Nat}
noncomputable section
def cq(b:Bool)(A B:Prop):Prop:=Bool.rec (motive:=λ_=>Prop) B A b
theorem az{A B:Prop}(a:b=af->A)(c:b=aj->B):cq b A B:=by
 cases b with
 |true=>exact a rfl
 |false=>exact c rfl
theorem CN{A B:Prop}(h:cq b A B):(b=af/\A)\/(b=aj/\B):=by
 cases b with
 |true=>exact .inl ⟨rfl,h⟩
 |false=>exact .inr ⟨rfl,h⟩
abbrev TS:=List ag
abbrev kd:=Exit->TS->au->Prop
abbrev TH:=TS->au->Prop
def fr(a:TS):Fr:=λt=>a.getD t undef
def Sm(P:aO)(t:aF)(K:ag->Prop):Prop:=match P.underlying t with
 |some (.int k)=>∃n:Int,K (aC k n)
 |some .bool=>∃b:Bool,K (ah b)
 |some .string=>∃l:List UInt8,K (strOf l)
 |some (.slice _)=>∃(a:Option aJ)(n c:Nat),K (ae a n c)
 |some (.pointer _)=>∃a:Option aJ,K (.pointer a)
 |some (.struct _)=>∃cs:List ag,K (al ⟨cs⟩)
 |some (.array ..)=>∃cs:List ag,K (al ⟨cs⟩)
 |some (.func ..)=>∃(g:Nat)(a c:List ag),K (aN (.func g) ⟨a⟩ ⟨c⟩)
 |_=>∃v:ag,K v
def afd(P:aO):List aF->(List ag->Prop)->Prop
 |[],K=>K []
 |t::b,K=>Sm P t λx=>afd P b λa=>K (x::a)
def Nv(P:aO)(t:aF)(K:ag->Prop):Prop:=match P.underlying t with
 |some (.tuple b)=>afd P b.toList λa=>K (.tuple ⟨a⟩)
 |_=>Sm P t K
theorem Gu{t:aF}{K:ag->Prop}(a:Sm P t K):∃v,K v:=by grind[Sm]
theorem Kq{P:aO}:∀{b:List aF}{K:List ag->Prop},afd P b K->∃c,K c
 |[],_,a=>⟨_,a⟩
 |t::b,K,a=>by
  obtain⟨x,h⟩:=Gu a;obtain⟨d,h⟩:=Kq h
  grind
theorem vo{t:aF}{K:ag->Prop}(a:Nv P t K):∃v,K v:=by
 unfold Nv at a;split at a
 ·obtain⟨_,h⟩:=Kq a;grind
 ·exact Gu a
def Nw(P:aO)(t:aF)(r:Option ag)(h:au)(K:VH):Prop:=Nv P t λx=>r=aa x/\K x h
def exP(r:Option ag)(h:au)(K:VH):Prop:=∃a:aJ,r=aa (bw a)/\K (bw a) h
def exU(r:Option (ag×ek))(h:au)(K:VH):Prop:=∃v u,r=aa (v,u)/\K v (u.app h)
def exW(r:Option (ag×ek))(h:au)(K:VH):Prop:=∃u,r=aa (undef,u)/\K undef (u.app h)
def exS(r:Option (ag×ek))(h:au)(K:VH):Prop:=∃(a:Option aJ)(n c:Nat)(u:ek),r=aa (ae a n c,u)/\K (ae a n c) (u.app h)
def exC(r:Option (ag×ek))(h:au)(K:VH):Prop:=∃(n:Int)(u:ek),r=aa (aE n,u)/\K (aE n) (u.app h)
def m4(k:Nat):ag:= df k 0
def qe(n c k:Nat):ag:= gJ k 0 n c
abbrev OA:Type:=Option aJ
abbrev LV:Type:=List ag
abbrev LB:Type:=List UInt8
abbrev uN(l:List ag)(k:Nat):List ag:=l++aQ k undef
abbrev pA(k:Nat):ag:= df k 0
abbrev sA(k n c:Nat):ag:= gJ k 0 n c
abbrev nA:ag:= ae none 0 0
abbrev iA(n:Nat):ag:= aE (n:Int)
abbrev xI(k:ee)(r:Option ag)(K:Int->Prop):Prop:=∃n:Int,r=aa (aC k n)/\K n
abbrev xB(r:Option ag)(K:Bool->Prop):Prop:=∃b:Bool,r=aa (ah b)/\K b
abbrev xS(r:Option ag)(K:List UInt8->Prop):Prop:=∃l:List UInt8,r=aa (strOf l)/\K l
abbrev xL(r:Option ag)(K:Option aJ->Nat->Nat->Prop):Prop:=∃(a:Option aJ)(n c:Nat),r=aa (ae a n c)/\K a n c
abbrev xO(r:Option ag)(K:Option aJ->Prop):Prop:=∃a:Option aJ,r=aa (.pointer a)/\K a
abbrev xP(r:Option ag)(K:aJ->Prop):Prop:=∃a:aJ,r=aa (bw a)/\K a
abbrev xA(r:Option ag)(K:List ag->Prop):Prop:=∃cs:List ag,r=aa (al ⟨cs⟩)/\K cs
abbrev xF(r:Option ag)(K:Nat->List ag->List ag->Prop):Prop:=∃(g:Nat)(a c:List ag),r=aa (aN (.func g) ⟨a⟩ ⟨c⟩)/\K g a c
abbrev xV(r:Option ag)(K:ag->Prop):Prop:=∃v:ag,r=aa v/\K v
abbrev yI(k:ee)(r:ag)(K:Int->Prop):Prop:=∃n:Int,r=aC k n/\K n
abbrev yB(r:ag)(K:Bool->Prop):Prop:=∃b:Bool,r=ah b/\K b
abbrev yS(r:ag)(K:List UInt8->Prop):Prop:=∃l:List UInt8,r=strOf l/\K l
abbrev yL(r:ag)(K:Option aJ->Nat->Nat->Prop):Prop:=∃(a:Option aJ)(n c:Nat),r=ae a n c/\K a n c
abbrev yA(r:ag)(K:List ag->Prop):Prop:=∃cs:List ag,r=al ⟨cs⟩/\K cs
abbrev yV(r:ag)(K:ag->Prop):Prop:=∃v:ag,r=v/\K v
abbrev xU(r:Option (ag×ek))(h:au)(K:ek->au->Prop):Prop:=∃u:ek,r=aa (undef,u)/\K u (u.app h)
abbrev xE(r:Option (ag×ek))(h:au)(K:Option aJ->Nat->Nat->ek->au->Prop):Prop:=∃(a:Option aJ)(n c:Nat)(u:ek),r=aa (ae a n c,u)/\K a n c u (u.app h)
abbrev xC(r:Option (ag×ek))(h:au)(K:Int->ek->au->Prop):Prop:=∃(n:Int)(u:ek),r=aa (aE n,u)/\K n u (u.app h)
abbrev xG(r:Option (ag×ek))(h:au)(K:ag->ek->au->Prop):Prop:=∃(v:ag)(u:ek),r=aa (v,u)/\K v u (u.app h)
abbrev xN(r:Option (eA×(Nat->ag)))(h:au)(K:eA->au->Prop):Prop:=∃B:eA,r=aa (B,m4)/\K B (h.push B)
abbrev xR(r:Option (eA×(Nat->ag)))(h:au)(K:eA->Nat->Nat->au->Prop):Prop:=∃(B:eA)(n c:Nat),r=aa (B,qe n c)/\K B n c (h.push B)
abbrev zN(r:Option (eA×(Nat->ag)))(K:eA->Prop):Prop:=∃B:eA,r=aa (B,m4)/\K B
abbrev zR(r:Option (eA×(Nat->ag)))(K:eA->Nat->Nat->Prop):Prop:=∃(B:eA)(n c:Nat),r=aa (B,qe n c)/\K B n c
abbrev agl(h:au)(K:au->Prop):Prop:=K h
def exA(r:Option (eA×(Nat->ag)))(h:au)(K:VH):Prop:=∃B,r=aa (B,m4)/\K (m4 h.aD) (h.push B)
def exR(r:Option (eA×(Nat->ag)))(h:au)(K:VH):Prop:=∃B n c,r=aa (B,qe n c)/\K (qe n c h.aD) (h.push B)
def exM(r:Option (eA×(Nat->ag)))(h:au)(K:VH):Prop:=∃B,r=aa (B,λk=> .map (aa k))/\K (.map (aa h.aD)) (h.push B)
def cP(P:aO)(t:aF):Option (eA×(Nat->ag)):=dK P (λ_=>undef) ⟨none,.alloc t,0,"",#[],none⟩
def jY(P:aO)(t:aF)(v:ag):Option (eA×(Nat->ag)):=dK P (λ_=>v) ⟨none,.box t (.tmp 0),0,"",#[],none⟩
def dD(P:aO)(t:aF)(l c:ag):Option (eA×(Nat->ag)):=dK P (λx=>match x with|.tmp 0=>l|_=>c) ⟨none,.makeSlice t (.tmp 0) (.tmp 1),0,"",#[],none⟩
def bS(P:aO)(t:aF)(b:Nat)(a:List (Nat×ag)):Option (eA×(Nat->ag)):=
 dK P (λx=>match x with|.tmp i=>(a.getD i (0,undef)).2|_=>undef) ⟨none,.buildSlice t b ((dA a.length).map λi=>((a.getD i (0,undef)).1,.tmp i)).toArray,0,"",#[],none⟩
def YM(c a b:ag)(h:au)(K:VH):Prop:=match c with
 |ah t=>cq t (K a h) (K b h)
 |_=>False
def ad3(P:aO)(b:BinOp)(t a:aF)(x y:ag)(h:au)(K:VH):Prop:=match b with
 |.quo|.rem|.shl|.shr=>Nw P a (ca P b t x y) h K
 |.add=>(match x with|bt _=>Nw P a (ca P .add t x y) h K|_=>yX (ca P .add t x y) h K)
 |.eql=>(match x with|.pointer _=>Nw P a (ca P .eql t x y) h K|al _=>Nw P a (ca P .eql t x y) h K|_=>yX (ca P .eql t x y) h K)
 |.neq=>(match x with|.pointer _=>Nw P a (ca P .neq t x y) h K|al _=>Nw P a (ca P .neq t x y) h K|_=>yX (ca P .neq t x y) h K)
 |b=>yX (ca P b t x y) h K
def Xh(S:Sx)(c:aF)(f:ag)(b:List ag)(h:au)(K:VH):Prop:=match f with
 |aN (.func g) first a=>cq (cQ g YB) (FW S g (first.toList++b++a.toList) h λv h=>Nv S.P c λx=>v=x/\K x h) False
 |aN (.yield k) ⟨[]⟩ ⟨[]⟩=>FW S (YB+k) b h λv h=>Nv S.P c λx=>v=x/\K x h
 |_=>False
def AV(P:aO)(s d:aF)(x:ag)(h:au):Option ag:=dW P (λ_=>x) ⟨none,.convert s d (.tmp 0),0,"",#[],none⟩ h
def ahG(t:Option TypeDesc):Bool:=match t with
 |some .unsafePointer=>af
 |_=>aj
def iJ(P:aO)(t:aF)(m k x:ag)(h:au):Option (ag×ek):=match P.underlying t,m with
  |some (.map b _),.map (aa r)=>match h.get r with
   |some (.map c)=>if rk P b k then(nP P b k x c).map λa=>(undef,.set r (.map a))else none
   |_=>none
  |_,_=>none
def qf(P:aO)(t:aF)(m k:ag)(a:Bool)(h:au):Option ag:=dW P (λx=>match x with|.tmp 0=>m|_=>k) ⟨none,.lookup t (.tmp 0) (.tmp 1) a,0,"",#[],none⟩ h
def pS(P:aO)(t:aF):Option (eA×(Nat->ag)):=dK P (λ_=>undef) ⟨none,.makeMap t none,0,"",#[],none⟩
def opQ(S:Sx)(e:bm->ag)(o:aR)(h:au)(K:VH):Prop:=match o.op with
 |.move x|.assign x=>K (e x) h
 |.pick c a b=>YM (e c) (e a) (e b) h K
 |.binOp j t x y _=>ad3 S.P j t o.type (e x) (e y) h K
 |.unOp j _ x=>yX (Pj j (e x)) h K
 |.extract x i=>yX (adt (e x) i) h K
 |.index t x i=>Nw S.P o.type (dE S.P t (e x) (e i)) h K
 |.indexAddr t x i=>exP (aW S.P t (e x) (e i)) h K
 |.fieldAddr t x f=>exP (aY S.P t (e x) f) h K
 |.field t x f=>Nw S.P o.type (XI S.P t (e x) f) h K
 |.load t a=>Nw S.P t (aS S.P t h (e a)) h K
 |.slice t x u q n=>Nw S.P o.type (dN S.P t (e x) (u.map e) (q.map e) (n.map e) h) h K
 |.store t a x=>exW (bh S.P t (e a) (e x) h) h K
 |.alloc t=>exA (cP S.P t) h K
 |.box t x=>exA (jY S.P t (e x)) h K
 |.makeSlice t l c=>exR (dD S.P t (e l) (e c)) h K
 |.buildSlice .. =>exR (dK S.P e o) h K
 |.makeMap t r=>exM (match r with|none=>pS S.P t|some _=>dK S.P e o) h K
 |.mapUpdate t m k x=>exW (iJ S.P t (e m) (e k) (e x) h) h K
 |.insert t m k x=>exW (iJ S.P t (e m) (e k) (e x) h) h K
 |.lookup t m k v=>Nw S.P o.type (qf S.P t (e m) (e k) v h) h K
 |.convert s d x=>(match ahG (S.P.underlying s)with|true=>exU (fK S.P mZ e o h) h K|false=>(match e x with|aC _ _=>yX (kX S.P s d (e x)) h K|ae _ _ _=>Nw S.P o.type (AV S.P s d (e x) h) h K|_=>exU (fK S.P mZ e o h) h K))
 |.build t g=>Nw S.P o.type (cJ S.P t (g.toList.map λp=>(p.1,e p.2))) h K
 |.makeFunc ..|.makeInterface ..|.nilCheck ..|.typeAssert .. =>yX (eN S.P e o) h K
 |.panic .. =>False
 |.call { callee:= .value f,args,.. }=>Xh S o.type (e f) (args.toList.map e) h K
 |.call { callee:= .builtin .len,args,argTypes }=>(match args.toList,argTypes.toList with|[x],[t]=>(match e x with|.map _=>Nw S.P o.type (X6 S.P t (e x) h) h K|_=>yX (X6 S.P t (e x) h) h K)|_,_=>False)
 |.call { callee:= .builtin .max,args,.. }=>Nw S.P o.type (ud af (args.toList.map e)) h K
 |.call { callee:= .builtin .min,args,.. }=>Nw S.P o.type (ud aj (args.toList.map e)) h K
 |.call { callee:= .builtin .append,args,argTypes }=>(match args.toList,argTypes.toList with|[s,x],[t,w]=>exS (cG S.P t w (e s) (e x) h) h K|_,_=>False)
 |.call { callee:= .builtin .copy,args,argTypes }=>(match args.toList,argTypes.toList with|[d,s],[t,_]=>exC (copyV S.P t (e d) (e s) h) h K|_,_=>False)
 |.call { callee:= .builtin _,.. }=>exU (fK S.P mZ e o h) h K
 |_=>exU (fK S.P mZ e o h) h K
theorem kI{t:aF}{r:Option ag}{K:VH}(a:Nw P t r h K):yX r h K:=by
 obtain⟨v,b,c⟩:=vo a;rw[b];exact c
theorem HX{r:Option ag}{K:VH}(a:exP r h K):yX r h K:=by
 obtain⟨v,b,c⟩:=a;rw[b];exact c
theorem vU{r:Option (ag×ek)}{K:VH}(a:exU r h K):MH r h K:=by
 obtain⟨v,u,b,c⟩:=a;rw[b];exact c
theorem A0{r:Option (ag×ek)}{K:VH}(a:exW r h K):MH r h K:=by
 obtain⟨u,b,c⟩:=a;rw[b];exact c
theorem RW{r:Option (ag×ek)}{K:VH}(b:exS r h K):MH r h K:=by
 obtain⟨a,n,c,u,d,e⟩:=b;rw[d];exact e
theorem RV{r:Option (ag×ek)}{K:VH}(a:exC r h K):MH r h K:=by
 obtain⟨n,u,b,c⟩:=a;rw[b];exact c
theorem HO{r:Option (eA×(Nat->ag))}{K:VH}(a:exA r h K):wpA r h K:=by
 obtain⟨B,b,c⟩:=a;rw[b];exact c
theorem HQ{r:Option (eA×(Nat->ag))}{K:VH}(a:exR r h K):wpA r h K:=by
 obtain⟨B,n,c,b,d⟩:=a;rw[b];exact d
theorem HP{r:Option (eA×(Nat->ag))}{K:VH}(a:exM r h K):wpA r h K:=by
 obtain⟨B,b,c⟩:=a;rw[b];exact c
theorem Xi{K:VH}(a:Xh X T v c h K):vT X v c h K:=by
 unfold Xh at a;unfold vT;split at a
 ·rcases CN a with⟨d,a⟩|⟨_,a⟩
  ·refine⟨by simpa[blt_eq]using d,a.mono λe h a=>?_⟩;obtain⟨x,rfl,b⟩:=vo a;exact b
  grind
 ·exact⟨⟨rfl,rfl⟩,a.mono λe h a=>by
   obtain⟨x,rfl,b⟩:=vo a;omega⟩
 grind
theorem W0{a:BinOp}{t:aF}{x:ag}{K:VH}(b:ad3 P a t T x v h K):yX (ca P a t x v) h K:=by
 unfold ad3 at b
 grind[kI]
theorem UY{c a b:ag}{K:VH}(d:YM c a b h K):yX (adH c a b) h K:=by
 unfold YM at d;split at d
 ·next t=>
  rcases CN d with⟨rfl,e⟩|⟨rfl,e⟩<;>exact e
 grind
theorem yH{K:VH}(b:opQ X (jy X.gl E) q h K):wpOp X E q h K:=by
 obtain⟨o,H,p,l,g,f⟩:=q;unfold opQ at b;split at b
 ·next e=>subst e;exact b
 ·next e=>subst e;exact b
 ·grind[Wj,UY]
 ·grind[RN,W0]
 ·grind[Wk]
 ·grind[Mz]
 ·grind[RQ,kI]
 ·grind[HW,HX]
 ·grind[HV,HX]
 ·grind[RO,kI]
 ·grind[Wh,kI]
 ·grind[RS,kI]
 ·grind[RU,A0]
 ·next e=>subst e;rw[rF _ _ _ _ _ rfl rfl rfl rfl];exact HO b
 ·next e=>subst e;rw[rF _ _ _ _ _ rfl rfl rfl rfl];exact HO b
 ·next e=>subst e;rw[rF _ _ _ _ _ rfl rfl rfl rfl];exact HQ b
 ·next e=>subst e;rw[rF _ _ _ _ _ rfl rfl rfl rfl];exact HQ b
 ·next t r e=>
  subst e;rw[rF _ _ _ _ _ rfl rfl rfl rfl]
  cases r with
  |none=>exact HP b
  |some x=>exact HP b
 ·next t m k x e=>
  subst e;rw[lY _ _ _ _ rfl];have B:fK X.P mZ (jy X.gl E) ⟨o,.mapUpdate t m k x,p,l,g,f⟩ h=iJ X.P t (jy X.gl E m) (jy X.gl E k) (jy X.gl E x) h:=rfl
  grind[A0]
 ·next t m k x e=>
  subst e;rw[lY _ _ _ _ rfl];have B:fK X.P mZ (jy X.gl E) ⟨o,.insert t m k x,p,l,g,f⟩ h=iJ X.P t (jy X.gl E m) (jy X.gl E k) (jy X.gl E x) h:=rfl
  grind[A0]
 ·next t m k D e=>
  subst e;have b:yX (dW X.P (jy X.gl E) ⟨o,.lookup t m k D,p,l,g,f⟩ h) h K:=kI b;exact(uS X E h K ⟨o,.lookup t m k D,p,l,g,f⟩ rfl rfl rfl rfl)▸b
 ·next e=>
  subst e;rw[lY _ _ _ _ rfl];split at b
  ·exact vU b
  split at b
  ·next k n z=>
   unfold fK;generalize A:eN X.P (jy X.gl E) _=r
   cases r with
   |some v=>rw[show kX X.P _ _ _=aa v from A]at b;exact b
   |none=>rw[show kX X.P _ _ _=none from A]at b;exact b.elim
  ·next a n c z=>
   obtain⟨v,u,w⟩:=vo b;have A:∀s d,kX X.P s d (ae a n c)=none:=λs d=>by unfold kX;split<;>simp_all
   have F:∀s d x,jy X.gl E x=ae a n c->eN X.P (jy X.gl E) ⟨o,.convert s d x,p,l,g,f⟩=none:=λs d x z=>by
    show kX X.P s d (jy X.gl E x)=none;rw[z];exact A s d
   have G:∀s d x,dW X.P (jy X.gl E) ⟨o,.convert s d x,p,l,g,f⟩ h=AV X.P s d (jy X.gl E x) h:=λs d x=>rfl;unfold fK;rw[F _ _ _ z];dsimp only;rw[G,u];exact w
  grind[vU]
 ·next e=>subst e;rw[ij _ _ _ _ _ _ _ _ _ rfl];exact kI b
 ·next e=>subst e;rw[ij _ _ _ _ _ _ _ _ _ rfl];omega
 ·next e=>subst e;rw[ij _ _ _ _ _ _ _ _ _ rfl];omega
 ·next e=>subst e;rw[ij _ _ _ _ _ _ _ _ _ rfl];omega
 ·next e=>subst e;rw[ij _ _ _ _ _ _ _ _ _ rfl];omega
 ·grind
 ·next e=>subst e;exact Xi b
 ·next i j e=>
  subst e;split at b
  ·next x t u w=>
   obtain⟨i⟩:=i;obtain⟨j⟩:=j;obtain rfl:i=[x]:=u;obtain rfl:j=[t]:=w;have C:yX (X6 X.P t (jy X.gl E x) h) h K:=by
    split at b
    ·exact kI b
    ·exact b
   exact(aaF X E o p l g f h K x t).symm▸C
  grind
 ·grind[aaG,kI]
 ·grind[aaH,kI]
 ·next i j e=>
  subst e;split at b
  ·next s x t y u w=>
   obtain⟨i⟩:=i;obtain⟨j⟩:=j;obtain rfl:i=[s,x]:=u;obtain rfl:j=[t,y]:=w;exact(Pp X E o p l g f h K s x t y).symm▸RW b
  grind
 ·next i j e=>
  subst e;split at b
  ·next s x t y u w=>
   obtain⟨i⟩:=i;obtain⟨j⟩:=j;obtain rfl:i=[s,x]:=u;obtain rfl:j=[t,y]:=w;have B:wpOp X E ⟨o,.call ⟨.builtin .copy,#[s,x],#[t,y]⟩,p,l,g,f⟩ h K=MH (copyV X.P t (jy X.gl E s) (jy X.gl E x) h) h K:=yl X E h K _ rfl rfl rfl rfl;exact B.symm▸RV b
  grind
 ·next e=>subst e;rw[lY _ _ _ _ rfl];exact vU b
 grind[lY,vU,eh]
def VO:TS->Nat->ag->(TS->Prop)->Prop
 |[],_,_,K=>K []
 |_::l,0,v,K=>K (v::l)
 |x::l,d+1,v,K=>VO l d v λl=>K (x::l)
def XR:TS->Nat->(ag->Prop)->Prop
 |[],_,K=>K undef
 |x::_,0,K=>K x
 |_::l,t+1,K=>XR l t K
theorem Fv:∀(l:TS)(d:Nat)(v:ag)(K:TS->Prop),VO l d v K=K (l.set d v)
 |[],_,_,_=>rfl
 |_::_,0,_,_=>rfl
 |x::l,d+1,v,K=>by rw[VO,Fv l d v];rfl
theorem K9:∀(l:TS)(t:Nat)(K:ag->Prop),XR l t K=K (l.getD t undef)
 |[],_,_=>rfl
 |_::_,0,_=>rfl
 |x::l,t+1,K=>by rw[XR,K9 l t];rfl
def LO(a:TS)(b:Option Tmp)(v:ag)(K:TS->Prop):Prop:=match b with
 |some d=>VO a d v K
 |none=>K a
theorem Fq(b:TS)(a:Option Tmp)(v:ag)(K:TS->Prop):LO b a v K=K (lR b a v):=by
 cases a with
 |none=>rfl
 |some d=>exact Fv _ _ _ _
def opT(S:Sx)(a:TS)(o:aR)(h:au)(K:VH):Prop:=match o.op with
 |.move (.tmp t)=>XR a t λv=>K v h
 |.assign (.tmp t)=>XR a t λv=>K v h
 |_=>opQ S (ev S.gl a) o h K
theorem SW{b:TS}{K:VH}(a:opT X b q h K):opQ X (ev X.gl b) q h K:=by
 unfold opT at a;split at a
 ·next t e=>rw[K9]at a;unfold opQ;rw[e];exact a
 ·next t e=>rw[K9]at a;unfold opQ;rw[e];exact a
 omega
def gS(f:Array aR)(c:TS)(e:Option (Nat×Bool))(A B:TS->Prop):Prop:=match e with
 |none=>A c
 | some (j,a)=>match (f[j]?).bind (·.dst)with
  |some d=>match c.getD d undef with
   |ah b=>cq b (VO c d (ah af) (Bool.rec (motive:=λ_=>TS->Prop) B A a)) (VO c d (ah aj) (Bool.rec (motive:=λ_=>TS->Prop) A B a))
   |av _=>B c
   |_=>False
  |none=>False
def acm(S:Sx)(b:Array aR):List aR->TS->au->TH->Prop
 |[],a,h,R=>R a h
 |o::l,a,h,R=>gS b a o.guard (λa=>opT S a o h λv h=>LO a o.dst v λa=>acm S b l a h R) (λa=>LO a o.dst undef λa=>acm S b l a h R)
def lift(b:Nat)(Q:TH):FH:=λE h=>∃a:TS,a.length=b/\E=fr a/\Q a h
def SG(a:Nat)(Q:kd):Ih:=λx=>lift a (Q x)
def adr(v:ag)(A B:Prop):Prop:=match v with
 |ah b=>cq b A B
 |_=>False
def R0(S:Sx)(a:Nat)(c:Code)(b:TS)(h:au)(Q:kd):Prop:=IW S a c (fr b) h (SG a Q)
def adT(S:Sx)(a:Nat)(c:Code)(b:TS)(h:au)(Q:kd):Prop:=PM S a c (fr b) h (SG a Q)
def agM(B:TH)(Q:kd)(x:Exit)(a:TS)(h:au):Prop:=match x with
 |.normal=>B a h
 |x=>Q x a h
def PW(c:Nat)(Q:kd)(x:Exit)(b:TS)(h:au):Prop:=match x with
 |.exit a=>(match dk a c with|true=>Q .normal b h|false=>Q (.exit a) b h)
 |x=>Q x b h
def room(h:au)(n:Nat):au:={ h with aD:=h.aD+n }
def Qw:Op->Bool
 |.load ..|.slice ..|.lookup .. =>af
 |.call { callee:= .builtin .len,.. }=>af
 |_=>aj
def atB(a:Array aR)(f:Op->Bool)(j:Nat):Bool:=match a[j]? with|some o=>f o.op|none=>aj
def NV:Op->Bool
 |.alloc ..|.box ..|.makeSlice ..|.buildSlice ..|.makeMap _ none=>af
 |_=>aj
def GM:Op->Bool
 |.store ..|.insert ..|.mapUpdate .. =>af
 |.call { callee:= .value _,.. }=>af
 |.call { callee:= .builtin .append,.. }|.call { callee:= .builtin .copy,.. }|.call { callee:= .builtin .unsafeSliceData,.. }|.call { callee:= .builtin .unsafeString,.. }=>af
 |_=>aj
def ifC(b:Bool)(A B:Prop):Prop:=Bool.rec (motive:=λ_=>Prop) B A b
def S8(S:Sx)(o:aR)(E:Fr)(v:ag)(h:au)(K:Prop):Prop:=match o.op with
 |.load t a=>(aS S.P t h (jy S.gl E a)=aa v/\oQ 4 v v=af)/\K
 |.slice t x d c b=>(dN S.P t (jy S.gl E x) (d.map (jy S.gl E)) (c.map (jy S.gl E)) (b.map (jy S.gl E)) h=aa v/\oQ 4 v v=af)/\K
 |_=>(dW S.P (jy S.gl E) o h=aa v/\oQ 4 v v=af)/\K
def yN(S:Sx)(b:Nat->Nat->Bool)(j:Nat)(o:aR)(E:Fr)(v:ag):au->List (Nat×au)->Bool->Prop->Prop
 |h,[],a,K=>ifC a K (S8 S o E v h K)
 |h,(e,c)::r,a,K=>ifC ((a&&cQ j e)||b j e) (ifC (b e j) K (yN S b j o E v c r (cQ e j) K)) (S8 S o E v h (ifC (b e j) K (yN S b j o E v c r (cQ e j) K)))
def DJ(S:Sx)(a:Nat->Nat->Bool)(h:au)(b:List (Nat×au)):List Pv->Nat->Prop->Prop
 |[],_,K=>K
 |(E,o,.read v)::r,j,K=>yN S a j o E v h b af (DJ S a h b r (j+1) K)
 |_::r,j,K=>DJ S a h b r (j+1) K
def alQ(S:Sx)(a:bm->ag)(o:aR)(K:eA->(Nat->ag)->Prop):Prop:=match o.op with
 |.alloc t=>∃B,cP S.P t=aa (B,m4)/\K B m4
 |.box t x=>∃B,jY S.P t (a x)=aa (B,m4)/\K B m4
 |.makeSlice t l c=>∃B n d,dD S.P t (a l) (a c)=aa (B,qe n d)/\K B (qe n d)
 |.makeMap t none=>∃B,pS S.P t=aa (B,λk=> .map (aa k))/\K B λk=> .map (aa k)
 |_=>∃B n d,dK S.P a o=aa (B,qe n d)/\K B (qe n d)
def adz{f:Type}(e:Op)(a b c d:f):f:=match rL e with
 |true=>a
 | false=>match Qw e with
  |true=>b
  |false=>match NV e with
   |true=>c
   |false=>d
def CW(S:Sx)(g:Nat->Nat->Bool)(e:Array aR)(b:Nat)(k:au):List aR->Nat->TS->au->List (Nat×eA)->List Pv->TH->Prop
 |[],_,a,h,i,c,R=>DJ S g k (tK c.reverse 0) c.reverse 0 (R a (cr h b i))
 | o::l,j,a,h,i,c,R=>gS e a o.guard
   (λa=>adz o.op
    (opT S a o h λv _=>LO a o.dst v λd=>CW S g e b k l (j+1) d h i ((fr a,o,.pure v)::c) R)
    (opT S a o h λv _=>LO a o.dst v λd=>CW S g e b k l (j+1) d h i ((fr a,o,.read v)::c) R)
    (alQ S (ev S.gl a) o λB f=>LO a o.dst (f (b+j)) λd=>CW S g e b k l (j+1) d h ((j,B)::i) ((fr a,o,.alloc B (f (b+j)))::c) R)
    (opT S a o (cr h b (i.filter λp=>g j p.1)) λv m=>LO a o.dst v λd=>CW S g e b k l (j+1) d m (i.filter λp=> !g j p.1) ((fr a,o,.zD v m)::c) R))
   (λa=>LO a o.dst undef λd=>CW S g e b k l (j+1) d h i ((fr a,o,.skip)::c) R)
def vN(a:Array aR):Bool:= !Ah a&&(a.toList.all λo=>rL o.op||Qw o.op||NV o.op||GM o.op)&&(dA a.size).all λe=> !atB a GM e||(dA a.size).all λj=> !atB a GM j || !cQ j e||gw (l5 a) e j
def zr(a:TS)(j:Nat):ag:=a.getD j undef
def EZ:Nat->Nat->List (Nat×ag)->(Nat->ag)->TS
 |0,_,_,_=>[]
 |n+1,j,[],x=>x j::EZ n (j+1) [] x
 |n+1,j,(i,v)::l,x=>match dk i j with
  |true=>v::EZ n (j+1) l x
  |false=>x j::EZ n (j+1) ((i,v)::l) x
theorem Lm:∀(n j:Nat)(l:List (Nat×ag))(x:Nat->ag),(∀p∈l,p.2=x p.1)->EZ n j l x=(List.range' j n).map x
 |0,_,_,_,_=>by rfl
 |n+1,j,[],x,h=>by simp only[EZ,List.range'_succ,eK];rw[Lm n (j+1) [] x h]
 | n+1,j,(i,v)::l,x,h=>by
  simp only[EZ,List.range'_succ,eK]
  cases a:dk i j with
  |true=>
   dsimp only;rw[Lm n (j+1) l x λp b=>h p (cF _ b),<-Nat.eq_of_beq_eq_true a]
   simp_all
  |false=>
   dsimp only;rw[Lm n (j+1) ((i,v)::l) x h]
theorem Fj:∀(n j:Nat)(l:List (Nat×ag))(x:Nat->ag),(EZ n j l x).length=n
 |0,_,_,_=>by rfl
 |n+1,j,[],x=>by simp only[EZ,bU];rw[Fj n (j+1) [] x]
 |n+1,j,(i,v)::l,x=>by
  simp only[EZ]
  cases a:dk i j with
  |true=>dsimp only;rw[bU,Fj n (j+1) l x]
  |false=>dsimp only;rw[bU,Fj n (j+1) ((i,v)::l) x]
theorem Ps(f:Nat->ag):∀(M:List Nat),∀p∈M.zip (M.map f),p.2=f p.1
 |[],p,h=>by simp at h
 |a::M,p,h=>by
  rw[eK,List.zip_cons_cons]at h;rcases cW.1 h with rfl|h
  ·rfl
  ·exact Ps f M p h
theorem N6{a:TS}(b:a.length=n)(M:List Nat):EZ n 0 (M.zip (M.map (zr a))) (zr a)=a:=by
 rw[Lm _ _ _ _ (Ps _ M)];refine dH λi=>?_
 grind[zr]
def ada(S:Sx)(a:Nat)(M:List Nat)(c:Code)(w:List ag)(h:au)(Q:kd):Prop:=∀x:Nat->ag,R0 S a c (EZ a 0 (M.zip w) x) h Q
def X8(S:Sx)(b:Nat)(M:List Nat)(c:Code)(a:TS)(h:au)(Q:kd):Prop:=match dk a.length b with
 |true=>ada S b M c (M.map (zr a)) h Q
 |false=>R0 S b c a h Q
theorem QB{c:Code}{a:TS}{Q:kd}(d:a.length=n)(b:X8 X n x c a h Q):R0 X n c a h Q:=by
 unfold X8 at b;rw[d,Nat.beq_refl]at b;have:=b (zr a)
 grind[N6]
structure FD where
 nm:Nat
 body:Code
 rs:List ResultVar
 ms:List (List Nat×List Nat)
def gU(a:Func)(b:List (List Nat×List Nat)):FD:=⟨a.ntmps,a.body.getD .skip,a.results.toList,b⟩
def af3:List Nat->List Nat->Bool
 |[],[]=>af
 |a::x,b::y=>(match dk a b with
  |true=>af3 x y
  |false=>aj)
 |_,_=>aj
def Dp:List (List Nat×List Nat)->List Nat->List Nat
 |[],_=>[]
 |(q,m)::r,p=>match af3 q p with
  |true=>m
  |false=>Dp r p
def wpS(S:Sx)(g:Nat)(M:List (List Nat×List Nat))(p:List Nat):Code->TS->au->kd->Prop
 |.skip,d,h,Q=>Q .normal d h
 | .region _ e j,d,h,Q=>(match j with
  |false=>acm S e e.toList d h λd h=>Q .normal d h
  |true=>(match vN e with
   |true=>CW S (gw (l5 e)) e h.aD (room h e.size) e.toList 0 d (room h e.size) [] [] λd h=>Q .normal d h
   |false=>wpD S g e (fr d) h (lift g λd h=>Q .normal d h)))
 |.seq a b,d,h,Q=>wpS S g M (0::p) a d h (agM (λd h=>wpS S g M (1::p) b d h Q) Q)
 |.cond c a b,d,h,Q=>adr (ev S.gl d c) (wpS S g M (0::p) a d h Q) (wpS S g M (1::p) b d h Q)
 |.block i c,d,h,Q=>wpS S g M (0::p) c d h (PW i Q)
 |.loop c,d,h,Q=>X8 S g (Dp M (0::p).reverse) c d h Q
 |.exit i,d,h,Q=>Q (.exit i) d h
 |.ret,d,h,Q=>Q .ret d h
 |.label _,d,h,Q=>Q .normal d h
 |.rangeFunc f k a b,d,h,Q=>adT S g (.rangeFunc f k a b) d h Q
 |_,_,_,_=>False
end
theorem af8{a:TS}(h:a.length=n):ER n (fr a) a:=⟨h,λ_=>rfl⟩
theorem Ju{b:TS}(a:Nat->Bool):jy a (fr b)=ev a b:=rfl
theorem K5{b:TS}(h:b.length=n){a:Option Tmp}(c:BG n a=af)(v:ag):zj (fr b) a v=fr (lR b a v):=by
 funext t;exact((af8 h).put c v).2 t |>.symm
theorem Ea{a:TS}(h:a.getD n undef=v):a.set n v=a:=by
 refine dH λi=>?_
 grind
theorem NL{h:TS}{c:Option (Nat×Bool)}{A B:TS->Prop}{k m:Unit->Prop}(n:A h->k ())(l:B h->m ())(a:gS U h c A B):wpG (HM U (fr h) c) k m:=by
 cases c with
 |none=>exact n a
 | some g=>
  obtain⟨j,e⟩:=g;unfold gS at a;rw[RL];dsimp only at a
  cases o:(U[j]?).bind (·.dst)with
  |none=>grind
  | some d=>
   rw[o]at a;dsimp only at a⊢;show wpG (match h.getD d undef with|ah b=>aa (b==e)|av _=>aa aj|_=>none) k m
   cases i:h.getD d undef with
   | bool b=>
    rw[i]at a;dsimp only at a⊢;rcases CN a with⟨rfl,f⟩|⟨rfl,f⟩
    ·rw[Fv,Ea i]at f
     cases e
     ·exact l f
     ·exact n f
    ·rw[Fv,Ea i]at f
     cases e
     ·exact n f
     ·exact l f
   |tuple p=>rw[i]at a;exact l a
   |_=>rw[i]at a;exact a.elim
theorem Pq{r:Option (ag×ek)}{K:VH}(b:∀v h,K v h->Q v h)(a:MH r h K):MH r h Q:=by
 cases r with
 |none=>exact a
 |some p=>obtain⟨v,u⟩:=p;exact b _ _ a
theorem EA{K:VH}(b:∀d h,K d h->Q d h)(a:vT X v c h K):vT X v c h Q:=by
 unfold vT at a⊢;split at a
 ·exact⟨a.1,a.2.mono b⟩
 ·exact⟨a.1,a.2.mono b⟩
 omega
theorem Wi{K:VH}(b:∀v h,K v h->Q v h)(a:wpOp X E q h K):wpOp X E q h Q:=by grind[EA,Pq,wpOp]
theorem AF{S:Sx}{g:Nat}{c:Array aR}{R:TH}{d:FH}(i:∀b h,b.length=g->R b h->d (fr b) h):∀(l:List aR){b:TS}{h:au},b.length=g->(l.all λo=>BG g o.dst)=af->acm S c l b h R->wpO S c l (fr b) h d
 |[],_,_,f,_,a=>i _ _ f a
 |o::l,b,h,f,e,a=>by
  simp only[ep,bg]at e;rw[aaE];refine NL (λa=>?_) (λa=>?_) a
  ·show wpOp S (fr b) o h (opK S c o.dst l (fr b) d);have a:=SW a;rw[<-Ju]at a;refine Wi (λv h a=>?_) (yH a);show wpO S c l (zj (fr b) o.dst v) h d;rw[K5 f e.1];rw[Fq]at a;exact AF i l (by grind[pv]) e.2 a
  ·show wpO S c l (zj (fr b) o.dst undef) h d;rw[K5 f e.1];rw[Fq]at a;exact AF i l (by grind[pv]) e.2 a
theorem HU{K:VH}(b:∀v h,K v h->Q v h)(a:HS X E q h K):HS X E q h Q:=by grind[EA,Pq,HS]
theorem aaD{r:Option Bool}{A B a b:Unit->Prop}(e:A ()->a ())(c:B ()->b ())(d:wpG r A B):wpG r a b:=by
 rcases Mx d with⟨rfl,h⟩|⟨rfl,h⟩
 ·exact e h
 ·exact c h
theorem sK{S:Sx}{m:Nat->Nat->Bool}{i:Array aR}{d:Nat}{n:au}{R q:FH}(c:∀E h,R E h->q E h):∀(l:List aR)(j:Nat)(E:Fr)(h:au)(k:List (Nat×eA))(b:List Pv),CY S m i d n l j E h k b R->CY S m i d n l j E h k b q
 |[],_,_,_,_,_,a=>⟨a.1,c _ _ a.2⟩
 | o::l,j,E,h,k,b,a=>by
  simp only[CY]at a⊢;refine aaD (λa=>?_) (λa=>sK c l _ _ _ _ _ a) a
  cases r:eN S.P (jy S.gl E) o with
  |some v=>rw[r]at a;exact sK c l _ _ _ _ _ a
  | none=>
   rw[r]at a;dsimp only at a⊢
   cases g:dW S.P (jy S.gl E) o h with
   |some v=>rw[g]at a;exact sK c l _ _ _ _ _ a
   | none=>
    rw[g]at a;dsimp only at a⊢
    cases e:dK S.P (jy S.gl E) o with
    |some p=>obtain⟨B,f⟩:=p;rw[e]at a;exact sK c l _ _ _ _ _ a
    |none=>
     rw[e]at a;dsimp only at a⊢;exact HU (λv s a=>sK c l _ _ _ _ _ a) a
theorem aaC{R g:FH}(f:∀E h,R E h->g E h)(i:wpD X n U E h R):wpD X n U E h g:=i.imp (λa=>⟨a.1,sK f _ _ _ _ _ _ a.2⟩) λ⟨a,d,j,b,c,e⟩=>⟨a,d,j,b,c,f _ _ e⟩
theorem ad1{f:Op->Bool}(h:atB U f j=af):j<U.size:=by grind[atB]
theorem GJ{A B:Prop}(h:ifC b A B):(b=af/\A)\/(b=aj/\B):=by
 cases b with
 |true=>exact .inl ⟨rfl,h⟩
 |false=>exact .inr ⟨rfl,h⟩
theorem xZ{K:Prop}(b:S8 X q E v h K):Kc X q E v h=af/\K:=by
 obtain⟨f,i,g,d,c,a⟩:=q;have j:(dW X.P (jy X.gl E) ⟨f,i,g,d,c,a⟩ h=aa v/\oQ 4 v v=af)/\K:=by
  unfold S8 at b;split at b
  ·next e=>subst e;exact b
  ·next e=>subst e;exact b
  ·omega
 grind[Kc]
theorem zK{S:Sx}{b:Nat->Nat->Bool}{j:Nat}{o:aR}{E:Fr}{v:ag}{K:Prop}:∀{i:List (Nat×au)}{h:au}{a:Bool},yN S b j o E v h i a K->tQ S b j o E v h i a=af/\K
 |[],h,a,c=>by
  rcases GJ c with⟨rfl,f⟩|⟨rfl,f⟩
  ·exact⟨rfl,f⟩
  ·exact⟨(xZ f).1,(xZ f).2⟩
 | (e,k)::r,h,a,c=>by
  have n:∀{l:Prop},ifC (b e j) K (yN S b j o E v k r (cQ e j) K)->((b e j||tQ S b j o E v k r (cQ e j))=af)/\K:=λc=>by
   rcases GJ c with⟨g,d⟩|⟨g,d⟩
   ·grind
   ·have:=zK d
    grind
  have c:ifC ((a&&cQ j e)||b j e) _ _:=c;simp only[tQ,bg];rcases GJ c with⟨g,d⟩|⟨g,d⟩
  ·simp_all
  ·obtain⟨m,p⟩:=xZ d
   simp_all
theorem vE{S:Sx}{a:Nat->Nat->Bool}{h:au}{c:List (Nat×au)}{K:Prop}:∀{l:List Pv}{j:Nat},DJ S a h c l j K->AP S a h c l j=af/\K
 |[],_,b=>⟨rfl,b⟩
 | (E,o,e)::r,j,b=>by
  cases e with
  |read v=>
   have d:=zK (show yN S a j o E v h c af (DJ S a h c r (j+1) K)from b);have f:=vE d.2
   grind[AP]
  |_=>exact vE (l:=r) b
def IU(a:Array aR)(i:Nat)(l:List Pv):Prop:=∀k r,l[k]?=aa r->∀v g,r.2.2 = .zD v g->atB a GM (i+k)=af
theorem Al{a:Array aR}:∀{l:List Pv}{i:Nat},IU a i l->∀p∈tK l i,atB a GM p.1=af/\i<=p.1
 |[],_,_=>by simp[tK]
 | r::l,i,d=>by
  have b:IU a (i+1) l:=λk r h=>by
   have:=d (k+1) r (by grind)
   grind
  obtain⟨E,o,e⟩:=r;intro p c;have f:p∈tK l (i+1)->atB a GM p.1=af/\i<=p.1:=λh=>⟨(Al b p h).1,by have:=(Al b p h).2;omega⟩
  cases e with
  |zD v g=>
   rcases cW.1 c with rfl|c
   ·exact⟨d 0 _ rfl v g rfl,aT _⟩
   grind
  |_=>exact f c
theorem yh{a:Array aR}(c:vN a=af):∀{l:List Pv}{i:Nat},IU a i l->chained (gw (l5 a)) (tK l i)=af
 |[],_,_=>rfl
 | r::l,i,t=>by
  have d:IU a (i+1) l:=λk r h=>by
   have:=t (k+1) r (by grind)
   grind
  obtain⟨E,o,e⟩:=r;have f:=yh c d
  cases e with
  | zD v g=>
   show chained (gw (l5 a)) ((i,g)::tK l (i+1))=af;have b:=Al d
   cases s:tK l (i+1)with
   |nil=>rfl
   |cons p u=>
    obtain⟨j,m⟩:=p;rw[s]at f b;show(gw (l5 a) j i&&chained (gw (l5 a)) ((j,m)::u))=af;rw[f,Bool.and_true];have w:=t 0 _ rfl v g rfl;have q:=b (j,m) (cj ..);unfold vN at c;simp only[bg]at c;have n:=bY.1 c.2 j (List.mem_range.2 (ad1 q.1));rw[q.1]at n;simp only[Bool.not_true,Bool.false_or]at n
    grind[blt_eq,atB]
  |_=>exact f
theorem TE(l:NV q.op=af){K:eA->(Nat->ag)->Prop}(c:alQ X r q K):∃B f,dK X.P r q=aa (B,f)/\K B f:=by
 obtain⟨j,m,k,i,h,g⟩:=q;unfold alQ at c;split at c
 ·next e=>subst e;obtain⟨B,a,b⟩:=c;exact⟨B,_,a,b⟩
 ·next e=>subst e;obtain⟨B,a,b⟩:=c;exact⟨B,_,a,b⟩
 ·next e=>subst e;obtain⟨B,n,d,a,b⟩:=c;exact⟨B,_,a,b⟩
 ·next e=>subst e;obtain⟨B,a,b⟩:=c;exact⟨B,_,a,b⟩
 grind
theorem DX{S:Sx}{nm:Nat}{z:Array aR}(T:vN z=af){F:Nat}{U:au}{R:TH}{R':FH}(hR:∀u h,u.length=nm->R u h->R' (fr u) h):∀(l:List aR)(j:Nat)(u:TS)(h:au)(O:List (Nat×eA))(s:List Pv),u.length=nm->(l.all λo=>BG nm o.dst)=af->z.toList.drop j=l->s.length=j->IU z 0 s.reverse->CW S (gw (l5 z)) z F U l j u h O s R->CY S (gw (l5 z)) z F U l j (fr u) h O s R'
 |[],j,u,h,O,s,X,_,_,_,hr,d=>by
  have h1:=vE (show DJ S (gw (l5 z)) U (tK s.reverse 0) s.reverse 0 (R u (cr h F O))from d);refine⟨?_,hR _ _ X h1.2⟩
  grind[yh,BD]
 | o::l,j,u,h,O,s,X,W,Z,x4,hr,d=>by
  have ho:z[j]?=aa o:=by
   have:(z.toList.drop j)[0]?=aa o:=by rw[Z];rfl
   rw[getElem?_drop]at this;rw[<-getElem?_toList];simpa using this
  have P:z.toList.drop (j+1)=l:=by rw[<-drop_drop,Z];rfl
  simp only[ep,bg]at W;have J:∀e,(∀v g,e=rI.zD v g->GM o.op=af)->IU z 0 ((fr u,o,e)::s).reverse:=by
   intro e Y k r M;rw[List.reverse_cons]at M;rcases db k s.reverse.length with h3|h3
   ·rw[List.getElem?_append_left h3]at M;exact hr k r M
   ·rw[List.getElem?_append_right h3]at M;have x2:k-s.reverse.length=0:=by
     rcases dv (k-s.reverse.length)with h4|h4
     ·omega
     ·grind
    rw[x2]at M;obtain rfl:=aG M
    grind[atB]
  simp only[CY];refine NL (λd=>?_) (λd=>?_) d
  ·have go:∀v e g Q,(∀v g,e=rI.zD v g->GM o.op=af)->LO u o.dst v (λx1=>CW S (gw (l5 z)) z F U l (j+1) x1 g Q ((fr u,o,e)::s) R)->CY S (gw (l5 z)) z F U l (j+1) (zj (fr u) o.dst v) g Q ((fr u,o,e)::s) R':=by
    intro v e g Q Y d;rw[Fq]at d;rw[K5 X W.1];exact DX T hR l (j+1) _ g _ _ (by grind[pv]) W.2 P (by grind) (J e Y) d
   have H:(rL o.op||Qw o.op||NV o.op||GM o.op)=af:=by
    have hc:=T;unfold vN at hc;simp only[bg]at hc;exact bY.1 hc.1.2 o (List.mem_of_mem_drop (i:=j) (by grind))
   obtain⟨A,w,C,y,q,n⟩:=o;unfold adz at d
   cases D:rL w with
   |true=>
    rw[show rL (Oper.mk A w C y q n).op=af from D]at d;have d:=yH (E:=fr u) (by rw[Ju];exact SW d)
    grind[ij,yX]
   |false=>
   rw[show rL (Oper.mk A w C y q n).op=aj from D]at d;dsimp only at d
   cases L:Qw w with
   | true=>
    rw[show Qw (Oper.mk A w C y q n).op=af from L]at d;have d:=yH (E:=fr u) (by rw[Ju];exact SW d);have N:eN S.P (jy S.gl (fr u)) ⟨A,w,C,y,q,n⟩=none/\eh ⟨A,w,C,y,q,n⟩=aj/\dK S.P (jy S.gl (fr u)) ⟨A,w,C,y,q,n⟩=none/\ia S.P mZ (jy S.gl (fr u)) ⟨A,w,C,y,q,n⟩ h=none:=by
     clear d J go H D ho;revert L
     cases w with
     |load=>intro _;exact⟨rfl,rfl,rfl,rfl⟩
     |slice=>intro _;exact⟨rfl,rfl,rfl,rfl⟩
     |lookup=>intro _;exact⟨rfl,rfl,rfl,rfl⟩
     |call c=>
      obtain⟨I,x0,x3⟩:=c
      cases I with
      |builtin b=>cases b<;>intro D<;>first|exact⟨rfl,rfl,rfl,rfl⟩|cases D
      |_=>intro D;cases D
     |_=>intro D;cases D
    grind[uS,yX]
   |false=>
   rw[show Qw (Oper.mk A w C y q n).op=aj from L]at d;dsimp only at d
   cases G:NV w with
   | true=>
    rw[show NV (Oper.mk A w C y q n).op=af from G]at d;rw[<-Ju]at d;obtain⟨B,f,h1,Y⟩:=TE G d;have N:eN S.P (jy S.gl (fr u)) ⟨A,w,C,y,q,n⟩=none/\dW S.P (jy S.gl (fr u)) ⟨A,w,C,y,q,n⟩ h=none:=by
     clear d J go H D ho h1 Y L;revert G
     cases w<;>intro G<;>first|exact⟨rfl,rfl⟩|cases G
    grind
   |false=>
   rw[show NV (Oper.mk A w C y q n).op=aj from G]at d;dsimp only at d;have V:GM w=af:=by
    have M:(rL w||Qw w||NV w||GM w)=af:=H;rw[D,L,G]at M;exact M
   have d:=yH (E:=fr u) (by rw[Ju];exact SW d);generalize cr h F (O.filter λp=>gw (l5 z) j p.1)=hs at d⊢;have N:(∀h,eN S.P (jy S.gl (fr u)) ⟨A,w,C,y,q,n⟩=none/\dW S.P (jy S.gl (fr u)) ⟨A,w,C,y,q,n⟩ h=none/\dK S.P (jy S.gl (fr u)) ⟨A,w,C,y,q,n⟩=none)/\
     ∀K:VH,wpOp S (fr u) ⟨A,w,C,y,q,n⟩ hs K->HS S (fr u) ⟨A,w,C,y,q,n⟩ hs K:=by
    clear d J go H D ho L G;revert V
    cases w with
    |store t a x=>intro _;exact⟨λ_=>⟨rfl,rfl,rfl⟩,λK d=>by rw[yl _ _ _ _ _ rfl rfl rfl rfl]at d;exact d⟩
    |insert t m k x=>intro _;exact⟨λ_=>⟨rfl,rfl,rfl⟩,λK d=>by rw[yl _ _ _ _ _ rfl rfl rfl rfl]at d;exact d⟩
    |mapUpdate t m k x=>intro _;exact⟨λ_=>⟨rfl,rfl,rfl⟩,λK d=>by rw[yl _ _ _ _ _ rfl rfl rfl rfl]at d;exact d⟩
    |call c=>
     obtain⟨I,x0,x3⟩:=c
     cases I with
     |value f=>intro _;exact⟨λ_=>⟨rfl,rfl,rfl⟩,λK d=>d⟩
     |builtin b=>cases b<;>intro V<;>first|exact⟨λ_=>⟨rfl,rfl,rfl⟩,λK d=>by rw[yl _ _ _ _ _ rfl rfl rfl rfl]at d;exact d⟩|cases V
     |_=>intro D;cases D
    |_=>intro D;cases D
   rw[(N.1 h).1];dsimp only;rw[(N.1 h).2.1];dsimp only;rw[(N.1 h).2.2]
   grind[HU]
  ·rw[Fq]at d;rw[K5 X W.1];exact DX T hR l (j+1) _ h _ _ (by grind[pv]) W.2 P (by grind) (J .skip (by simp)) d
theorem qE{S:Sx}{m:Nat}{M:List (List Nat×List Nat)}:∀(c:Code){p:List Nat}{e:TS}{h:au}{Q:kd}{Q':Ih},e.length=m->mB m c=af->(∀x e h,e.length=m->Q x e h->Q' x (fr e) h)->wpS S m M p c e h Q->wpC S m c (fr e) h Q'
 |.skip,_,_,_,_,_,g,_,i,d=>i _ _ _ g d
 |.exit _,_,_,_,_,_,g,_,i,d=>i _ _ _ g d
 |.ret,_,_,_,_,_,g,_,i,d=>i _ _ _ g d
 |.label _,_,_,_,_,_,g,_,i,d=>i _ _ _ g d
 | .region _ j w,p,e,h,Q,Q',g,l,i,d=>by
  cases w with
  |false=>exact AF (λe h g d=>i _ _ _ g d) j.toList g l d
  | true=>
   cases o:vN j with
   |true=>
    have d:(match vN j with|true=>CW S (gw (l5 j)) j h.aD (room h j.size) j.toList 0 e (room h j.size) [] [] λe h=>Q .normal e h|false=>_):=d;rw[o]at d;refine .inl ⟨?_,DX o (λe h g d=>i _ _ _ g d) j.toList 0 e _ [] [] g l rfl rfl (λk r h=>by simp at h) d⟩
    grind[vN]
   |false=>
   have d:(match vN j with|true=>_|false=>wpD S m j (fr e) h (lift m λe h=>Q .normal e h)):=d;rw[o]at d;refine aaC (λE h d=>?_) (show wpD S m j (fr e) h (lift m λe h=>Q .normal e h)from d);obtain⟨u,n,rfl,s⟩:=d
   grind
 |.seq a b,p,e,h,Q,Q',g,l,i,d=>by
  simp only[mB,bg]at l;refine qE a g l.1 (λx e h g d=>?_) d
  cases x with
  |normal=>exact qE b g l.2 i d
  |_=>exact i _ _ _ g d
 | .cond c a b,p,e,h,Q,Q',g,l,i,d=>by
  simp only[mB,bg]at l;rw[aaB,Ju];simp only[wpS]at d;unfold adr at d;split at d
  ·next t C=>
   rw[C];rcases CN d with⟨rfl,n⟩|⟨rfl,n⟩
   ·exact qE a g l.1 i n
   ·exact qE b g l.2 i n
  grind
 | .block A c,p,e,h,Q,Q',g,l,i,d=>by
  refine qE c g l (λx e h g d=>?_) d
  cases x with
  | exit q=>
   show if q=A then Q' .normal (fr e) h else Q' (.exit q) (fr e) h;simp only[PW]at d
   cases z:dk q A with
   |true=>simp_all
   |false=>
    rw[z]at d;rw[iN (Nat.ne_of_beq_eq_false z)];grind
  |_=>exact i _ _ _ g d
 |.loop c,p,e,h,Q,Q',g,l,i,d=>by
  obtain⟨x,v,y,n,s⟩:=(show IW S m c (fr e) h (SG m Q)from QB g d)
  refine⟨x,v,y,n,?_⟩;obtain⟨u,B,rfl,D⟩:=s
  grind
 |.rangeFunc f F a b,p,e,h,Q,Q',g,l,i,d=>by
  obtain⟨x,v,y,n,s⟩:=(show PM S m (.rangeFunc f F a b) (fr e) h (SG m Q)from d)
  refine⟨x,v,y,n,?_⟩;obtain⟨u,B,rfl,D⟩:=s
  grind
 |.scope _,_,_,_,_,_,_,_,_,d=>d.elim
 |.goto _,_,_,_,_,_,_,_,_,d=>d.elim
 |.refuse _,_,_,_,_,_,_,_,_,d=>d.elim
def aho(I:Nat->TH)(n:Nat)(a:TS)(h:au):Prop:=∃m,m<n/\I m a h
def aeW(I:Nat->TH)(n:Nat)(Q:kd)(x:Exit)(a:TS)(h:au):Prop:=match x with
 |.normal=>aho I n a h
 |x=>Q x a h
def S3:Code->Nat->aR
 |.region _ a _,i=>a.toList.getD i ⟨none,.nilCheck (.tmp 0),0,"",#[],none⟩
 |_,_=>⟨none,.nilCheck (.tmp 0),0,"",#[],none⟩
def oh:List Nat->Code->Code
 |[],c=>c
 |0::p,.seq a _=>oh p a
 |_::p,.seq _ b=>oh p b
 |0::p,.cond _ a _=>oh p a
 |_::p,.cond _ _ b=>oh p b
 |_::p,.block _ a=>oh p a
 |_::p,.loop a=>oh p a
 |0::p,.rangeFunc _ _ a _=>oh p a
 |_::p,.rangeFunc _ _ _ b=>oh p b
 |_,_=> .skip
theorem QA{M:List (List Nat×List Nat)}{p:List Nat}{c:Code}{Q:kd}(g:mB n c=af)(I:Nat->TH)(j:∀d a h,a.length=n->I d a h->wpS X n M p c a h (aeW I d Q)):∀d a h,a.length=n->I d a h->R0 X n c a h Q:=by
 intro d
 induction d using fj with
 | _ d k=>
  intro a h b l;refine X9 g (qE c b g (λx a h b f=>?_) (j d a h b l))
  cases x with
  |normal=>
   obtain⟨m,i,e⟩:=f;exact k m i a h b e
  |_=>exact⟨a,b,rfl,f⟩
def ct(A:Nat->List ag->au->Prop)(n:Nat)(w:List ag)(h:au):Prop:=∃m,m<n/\A m w h
def aeV(M:List Nat)(A:Nat->List ag->au->Prop)(n:Nat)(Q:kd)(x:Exit)(a:TS)(h:au):Prop:=match x with
 |.normal=>ct A n (M.map (zr a)) h
 |x=>Q x a h
theorem bD{A B:Prop}(h:A)(e:A=B:=by kernel_rfl):B:=cast e h
def kAt(S:Sx)(c:Nat)(M:List (List Nat×List Nat)):List Nat->List Nat->Code->kd->kd
 |_,[],_,K=>K
 |p,0::q,.seq a b,K=>kAt S c M (0::p) q a (agM (λe h=>wpS S c M (1::p) b e h K) K)
 |p,_::q,.seq _ b,K=>kAt S c M (1::p) q b K
 |p,0::q,.cond _ a _,K=>kAt S c M (0::p) q a K
 |p,_::q,.cond _ _ b,K=>kAt S c M (1::p) q b K
 |p,_::q,.block d a,K=>kAt S c M (0::p) q a (PW d K)
 |_,_,_,K=>K
def LL(S:Sx)(X:FD)(p:List Nat)(w:List ag)(h:au)(Q:kd):Prop:=ada S X.nm (Dp X.ms p) (oh p X.body) w h Q
def TT(S:Sx)(X:FD)(p:List Nat)(a:TS)(h:au)(Q:kd):Prop:=wpS S X.nm X.ms p.reverse (oh p X.body) a h Q
def KK(S:Sx)(X:FD)(q p:List Nat)(K:kd):kd:=kAt S X.nm X.ms p.reverse q (oh p X.body) K
def RR(X:FD)(p:List Nat)(A:Nat->List ag->au->Prop)(n:Nat)(Q:kd):kd:=aeV (Dp X.ms p) A n Q
theorem JY{a:FD}{K:kd}(A:Nat->List ag->au->Prop)(e:mB a.nm (oh y a.body)=af)
  (step:∀n w (x:Nat->ag) h,A n w h->TT X a y (EZ a.nm 0 ((Dp a.ms y).zip w) x) h (RR a y A n K)) (n:Nat) {w:List ag} {h:au} (g:A n w h) (f:∀x:Nat->ag,(Dp a.ms y).map (zr (EZ a.nm 0 ((Dp a.ms y).zip w) x))=w):LL X a y w h K:=λx=>
 QA (M:=a.ms) (p:=y.reverse) e (λm b h=>A m ((Dp a.ms y).map (zr b)) h) (λm b h c d=>by
  have:=step m ((Dp a.ms y).map (zr b)) (zr b) h d;rw[N6 c]at this;exact this) n _ h (Fj ..) (by grind)
def jg{b:Type}(W:b->LV)(I:Nat->b->au->Prop)(n:Nat)(w:LV)(h:au):Prop:=∃a,w=W a/\I n a h
theorem fC{W:A->LV}{I:Nat->A->au->Prop}(m:Nat){a:A}{h:au}(b:m<n)(c:I m a h):ct (jg W I) n (W a) h:=⟨m,b,a,rfl,c⟩
theorem gm{b:FD}{K:kd}(W:A->LV)(I:Nat->A->au->Prop)
  (step:∀n (a:A) (x:Nat->ag) h,I n a h->TT X b y (EZ b.nm 0 ((Dp b.ms y).zip (W a)) x) h (RR b y (jg W I) n K)) (n:Nat) {a:A} {h:au} (c:I n a h) (e:mB b.nm (oh y b.body)=af:=by kernel_rfl) (d:∀x:Nat->ag,(Dp b.ms y).map (zr (EZ b.nm 0 ((Dp b.ms y).zip (W a)) x))=W a:=by intro;kernel_rfl):LL X b y (W a) h K:=
 JY (jg W I) e (λn w x h ⟨a,f,c⟩=>by grind) n ⟨a,rfl,c⟩ d
def pB{c d:Type}(W:c->d->LV)(I:Nat->c->d->au->Prop)(n:Nat)(w:LV)(h:au):Prop:=∃a b,w=W a b/\I n a b h
theorem iu{W:A->B->LV}{I:Nat->A->B->au->Prop}(m:Nat){a:A}{b:B}{h:au}(c:m<n)(d:I m a b h):ct (pB W I) n (W a b) h:=⟨m,c,a,b,rfl,d⟩
theorem mc{c:FD}{K:kd}(W:A->B->LV)(I:Nat->A->B->au->Prop)
  (step:∀n (a:A) (b:B) (x:Nat->ag) h,I n a b h->TT X c y (EZ c.nm 0 ((Dp c.ms y).zip (W a b)) x) h (RR c y (pB W I) n K)) (n:Nat) {a:A} {b:B} {h:au} (d:I n a b h) (f:mB c.nm (oh y c.body)=af:=by kernel_rfl) (e:∀x:Nat->ag,(Dp c.ms y).map (zr (EZ c.nm 0 ((Dp c.ms y).zip (W a b)) x))=W a b:=by intro;kernel_rfl):LL X c y (W a b) h K:=
 JY (pB W I) f (λn w x h ⟨a,b,g,d⟩=>by grind) n ⟨a,b,rfl,d⟩ e
def LA3{d f e:Type}(W:d->f->e->LV)(I:Nat->d->f->e->au->Prop)(n:Nat)(w:LV)(h:au):Prop:=∃a b c,w=W a b c/\I n a b c h
theorem NP{d:Type}{W:A->B->d->LV}{I:Nat->A->B->d->au->Prop}(m:Nat){a:A}{b:B}{c:d}{h:au}(e:m<n)(f:I m a b c h):ct (LA3 W I) n (W a b c) h:=⟨m,e,a,b,c,rfl,f⟩
theorem Zm{d:FD}{K:kd}{e:Type}(W:A->B->e->LV)(I:Nat->A->B->e->au->Prop)
  (step:∀n (a:A) (b:B) (c:e) (x:Nat->ag) h,I n a b c h->TT X d y (EZ d.nm 0 ((Dp d.ms y).zip (W a b c)) x) h (RR d y (LA3 W I) n K)) (n:Nat) {a:A} {b:B} {c:e} {h:au} (f:I n a b c h) (i:mB d.nm (oh y d.body)=af:=by kernel_rfl) (g:∀x:Nat->ag,(Dp d.ms y).map (zr (EZ d.nm 0 ((Dp d.ms y).zip (W a b c)) x))=W a b c:=by intro;kernel_rfl):LL X d y (W a b c) h K:=
 JY (LA3 W I) i (λn w x h ⟨a,b,c,j,f⟩=>by grind) n ⟨a,b,c,rfl,f⟩ g
def Ky{f i g e:Type}(W:f->i->g->e->LV)(I:Nat->f->i->g->e->au->Prop)(n:Nat)(w:LV)(h:au):Prop:=∃a b c d,w=W a b c d/\I n a b c d h
theorem Ec{f e:Type}{W:A->B->f->e->LV}{I:Nat->A->B->f->e->au->Prop}(m:Nat){a:A}{b:B}{c:f}{d:e}{h:au}(g:m<n)(i:I m a b c d h):ct (Ky W I) n (W a b c d) h:=⟨m,g,a,b,c,d,rfl,i⟩
theorem JX{e:FD}{K:kd}{g f:Type}(W:A->B->g->f->LV)(I:Nat->A->B->g->f->au->Prop)
  (step:∀n (a:A) (b:B) (c:g) (d:f) (x:Nat->ag) h,I n a b c d h->TT X e y (EZ e.nm 0 ((Dp e.ms y).zip (W a b c d)) x) h (RR e y (Ky W I) n K)) (n:Nat) {a:A} {b:B} {c:g} {d:f} {h:au} (i:I n a b c d h) (k:mB e.nm (oh y e.body)=af:=by kernel_rfl) (j:∀x:Nat->ag,(Dp e.ms y).map (zr (EZ e.nm 0 ((Dp e.ms y).zip (W a b c d)) x))=W a b c d:=by intro;kernel_rfl):LL X e y (W a b c d) h K:=
 JY (Ky W I) k (λn w x h ⟨a,b,c,d,l,i⟩=>by grind) n ⟨a,b,c,d,rfl,i⟩ j
def DZ{g k j f i:Type}(W:g->k->j->f->i->LV)(I:Nat->g->k->j->f->i->au->Prop)(n:Nat)(w:LV)(h:au):Prop:=∃a b c d e,w=W a b c d e/\I n a b c d e h
theorem ow{i f g:Type}{W:A->B->i->f->g->LV}{I:Nat->A->B->i->f->g->au->Prop}(m:Nat){a:A}{b:B}{c:i}{d:f}{e:g}{h:au}(j:m<n)(k:I m a b c d e h):ct (DZ W I) n (W a b c d e) h:=⟨m,j,a,b,c,d,e,rfl,k⟩
theorem zO{f:FD}{K:kd}{j g i:Type}(W:A->B->j->g->i->LV)(I:Nat->A->B->j->g->i->au->Prop)
  (step:∀n (a:A) (b:B) (c:j) (d:g) (e:i) (x:Nat->ag) h,I n a b c d e h->TT X f y (EZ f.nm 0 ((Dp f.ms y).zip (W a b c d e)) x) h (RR f y (DZ W I) n K)) (n:Nat) {a:A} {b:B} {c:j} {d:g} {e:i} {h:au} (k:I n a b c d e h) (m:mB f.nm (oh y f.body)=af:=by kernel_rfl) (l:∀x:Nat->ag,(Dp f.ms y).map (zr (EZ f.nm 0 ((Dp f.ms y).zip (W a b c d e)) x))=W a b c d e:=by intro;kernel_rfl):LL X f y (W a b c d e) h K:=
 JY (DZ W I) m (λn w x h ⟨a,b,c,d,e,o,k⟩=>by grind) n ⟨a,b,c,d,e,rfl,k⟩ l
def LA6{i l k g j m:Type}(W:i->l->k->g->j->m->LV)(I:Nat->i->l->k->g->j->m->au->Prop)(n:Nat)(w:LV)(h:au):Prop:=∃a b c d e f,w=W a b c d e f/\I n a b c d e f h
theorem Sz{j g i k:Type}{W:A->B->j->g->i->k->LV}{I:Nat->A->B->j->g->i->k->au->Prop}(m:Nat){a:A}{b:B}{c:j}{d:g}{e:i}{f:k}{h:au}(l:m<n)(o:I m a b c d e f h):ct (LA6 W I) n (W a b c d e f) h:=⟨m,l,a,b,c,d,e,f,rfl,o⟩
theorem Zn{g:FD}{K:kd}{k i j l:Type}(W:A->B->k->i->j->l->LV)(I:Nat->A->B->k->i->j->l->au->Prop)
  (step:∀n (a:A) (b:B) (c:k) (d:i) (e:j) (f:l) (x:Nat->ag) h,I n a b c d e f h->TT X g y (EZ g.nm 0 ((Dp g.ms y).zip (W a b c d e f)) x) h (RR g y (LA6 W I) n K)) (n:Nat) {a:A} {b:B} {c:k} {d:i} {e:j} {f:l} {h:au} (m:I n a b c d e f h) (p:mB g.nm (oh y g.body)=af:=by kernel_rfl) (o:∀x:Nat->ag,(Dp g.ms y).map (zr (EZ g.nm 0 ((Dp g.ms y).zip (W a b c d e f)) x))=W a b c d e f:=by intro;kernel_rfl):LL X g y (W a b c d e f) h K:=
 JY (LA6 W I) p (λn w x h ⟨a,b,c,d,e,f,q,m⟩=>by grind) n ⟨a,b,c,d,e,f,rfl,m⟩ o
noncomputable def Rh(S:Sx)(b:TS)(h:au):List ResultVar->Option (List ag)
 |[]=>aa []
 |.tmp t::r=>(Rh S b h r).map (b.getD t undef::·)
 |.cell a t::r=>match aS S.P t h (b.getD a undef)with
  |some v=>(Rh S b h r).map (v::·)
  |none=>none
theorem Ft(S:Sx)(b:TS)(h:au):∀l,zo S (fr b) h l=Rh S b h l
 |[]=>rfl
 |.tmp t::r=>by simp only[zo,Rh,Ft S b h r,fr]
 |.cell a t::r=>by simp only[zo,Rh,Ft S b h r,fr];try (cases aS S.P t h (b.getD a undef)<;>rfl)
noncomputable def af2(S:Sx)(b:List ResultVar)(Q:VH)(x:Exit)(a:TS)(h:au):Prop:=match x with
 |.normal=>EB (Rh S a h b) h Q
 |.ret=>EB (Rh S a h b) h Q
 |_=>False
noncomputable def VF(S:Sx)(h:au):List (ag×Option aF)->Option (List ag)
 |[]=>aa []
 |(v,none)::r=>(VF S h r).map (v::·)
 |(a,aa t)::r=>match aS S.P t h a with
  |some v=>(VF S h r).map (v::·)
  |none=>none
noncomputable def jq(S:Sx)(l:List (ag×Option aF))(h:au)(Q:VH):Prop:=EB (VF S h l) h Q
theorem Np{a:ag}{t:aF}(b:aS X.P t h a=aa v)(c:Q v h):jq X [(a,aa t)] h Q:=by
 unfold jq;simp only[VF,b];exact c
theorem uB{a:ag}{t:aF}(b:aS X.P t h a=aa v)(c:Q (av ⟨[v,w]⟩) h):jq X [(a,aa t),(w,none)] h Q:=by
 unfold jq;simp only[VF,b];exact c
noncomputable def EE(S:Sx)(X:FD)(Q:VH):kd:=af2 S X.rs Q
theorem hH(d:FD){f:bW}{b:Func}{a:List ag}{h:au}{Q:VH}(q:X.P.funcs[f]?=aa b)
  (e:wpS X d.nm d.ms [] d.body (a++aQ (d.nm-a.length) undef) h (EE X d Q)) (j:d=gU b d.ms:=by kernel_rfl) (k:(cQ f YB&&(X.pr f).isNone&&Nat.ble a.length d.nm&&mB d.nm d.body&&b.body.isSome)=af:=by kernel_rfl):FW X f a h Q:=by
 have m:d.nm=b.ntmps:=by rw[j];rfl
 have o:d.body=b.body.getD .skip:=by rw[j];rfl
 have v:d.rs=b.results.toList:=by rw[j];rfl
 unfold EE at e;rw[m,o,v]at e;rw[m,o]at k;simp only[bg,blt_eq,ble_eq,Option.isNone_iff_eq_none]at k;obtain⟨⟨⟨⟨u,w⟩,r⟩,g⟩,p⟩:=k;obtain⟨c,l⟩:=Option.isSome_iff_exists.1 p;rw[l]at e g;have e:wpS X b.ntmps d.ms [] c (a++aQ (b.ntmps-a.length) undef) h (af2 X b.results.toList Q):=e;have g:mB b.ntmps c=af:=g;have s:(a++aQ (b.ntmps-a.length) undef).length=b.ntmps:=by simp;omega
 have y:fr (a++aQ (b.ntmps-a.length) undef)=ad0 a:=by
  funext t;show(a++aQ (b.ntmps-a.length) undef).getD t undef=a.getD t undef;simp only[gD];by_cases p:t<a.length
  ·grind
  ·grind
 refine agb q l u w r g ?_;rw[<-y];refine qE c s g (λx n h _ i=>?_) e
 cases x with
 |normal=>show EB (zo X (fr n) h _) h Q;rw[Ft];exact i
 |ret=>show EB (zo X (fr n) h _) h Q;rw[Ft];exact i
 |_=>exact i.elim
structure eC where
 i:Int
 o:Int
 w:List UInt8
 t:Int
structure il where
 f:List UInt8
 bB:List eC
structure cm where
 kind:Int
 start:Int
 lead:List UInt8
 aI:List il
def iU(a:eC):List ag:=[aE a.i,aE a.o,strOf a.w,aE a.t]
def q0:eC:=⟨0,0,[],0⟩
def zV(z:Int):ag:= aE z
def abj:List ag->Option (List Int)
 |[]=>aa []
 |aC ak z::r=>(abj r).map (z::·)
 |_::_=>none
def Td(l:List Int):List Int:=l.mergeSort λx y=>decide (x<=y)
noncomputable def Ml:rW:=λ_ e h=>match e with
 | [ae a n c]=>if n=0 then aa (av ⟨[]⟩,h)else match a with
   |some ⟨b,d,none⟩=>(match h.get b with
    |some (.cells cs t f af)=>if n<4611686018427387904/\d+n<=cs.length then(abj ((cs.drop d).take n)).map λl=>(av ⟨[]⟩,h.set b (.cells (cs.take d++(Td l).map zV++cs.drop (d+n)) t f af))else none
    |_=>none)
   |_=>none
 |_=>none
variable{g:au}{a:Option aJ}
theorem cd{n:Int}(a: -9223372036854775808<=n)(b:n<9223372036854775808):ai ak n=n:=by grind[IntKind.wrap_i64]
theorem jB{n:Int}(a:0<=n)(b:n<18446744073709551616):ai aw n=n:=by grind[IntKind.wrap_u64]
theorem vV{n:Int}(a:0<=n)(b:n<256):ai aK n=n:=by grind[IntKind.wrap_u8]
theorem sE{t:aF}(c:P.underlying t=aa .string)(l:List UInt8)(k:ee){i:Int}(b:0<=i)(a:i<l.length):dE P t (strOf l) (aC k i)=aa (aC aK ((l.getD i.toNat 0).toNat:Nat)):=by simp_all[dE,strOf]
theorem sH{t:aF}(g:P.underlying t=aa .string)(l:List UInt8){h:au}{lo hi:Option ag}{a b:Nat}(f:iY lo 0=aa (a:Int))(c:iY hi l.length=aa (b:Int))(d:a<=b)(e:b<=l.length):dN P t (strOf l) lo hi none h=aa (strOf ((l.drop a).take (b-a))):=by simp_all[dN,strOf]
theorem aaO{t:aF}(a b:List UInt8)(h:a.length+b.length<=4611686018427387904):ca P .add t (strOf a) (strOf b)=aa (strOf (a++b)):=by
 show Kj .add a b=_
 simp_all[Kj]
structure Ok(h0 h:au):Prop where
 wf:∀k B,h.get k=aa B->k<h.aD
 ext:∀k B,h0.get k=aa B->h.get k=aa B
 nx:h0.aD<=h.aD
def Wf(h:au):Prop:=∀k B,h.get k=aa B->k<h.aD
theorem Ok.refl(w:Wf h):Ok h h:=⟨w,λ_ _ h=>h,aT _⟩
theorem Ok.trans{c d:au}(a:Ok g c)(b:Ok c d):Ok g d:=⟨b.wf,λk B h=>b.ext k B (a.ext k B h),bN a.nx b.nx⟩
theorem Ok.push(a:Ok g h)(B:eA):Ok g (h.push B):=by
 refine⟨au.sB a.wf B,λk C c=>?_,bN a.nx (fA _)⟩;have b:=a.ext k C c;rw[au.cY,iN (λe=>by have:=a.wf _ _ b;omega)];omega
theorem Ok.set(a:Ok g h){k:Nat}(B:eA)(f:g.aD<=k)(d:k<h.aD)(c:Wf g):Ok g (h.set k B):=by
 refine⟨λj C b=>?_,λj C b=>?_,a.nx⟩
 ·rw[au.cE]at b;split at b
  ·simp_all
  ·exact a.wf _ _ b
 ·rw[au.cE,iN (λe=>by have:=c _ _ b;omega)];exact a.ext _ _ b
theorem Ok.room{b h:au}(a:Ok b h)(n:Nat):Ok b (room h n):=⟨λk B c=>cD (a.wf k B c) (du _ _),a.ext,bN a.nx (du _ _)⟩
def hJ(b h:au)(e:aF)(v:ag)(a:List ag):Prop:=
 (v=nA/\a=[])\/ ∃k cs,v=sA k a.length (fg+cs.length)/\b.aD<=k/\h.get k=aa (.cells cs e 1 af)/\cs.take a.length=a/\a.length<=cs.length
theorem hJ.push(a:Ok g h)(o:hJ g h T v c)(B:eA):hJ g (h.push B) T v c:=by
 rcases o with o|⟨k,cs,d,e,b,f,i⟩
 ·exact .inl o
 ·refine .inr ⟨k,cs,d,e,?_,f,i⟩;rw[au.cY,iN (λT=>by have:=a.wf _ _ b;omega)];omega
theorem hJ.snoc{t:aF}{i:TypeInfo}(D:P.underlying t=aa (.slice T))(F:fI P T=aa i)(r:i.size=1){m h:au}(w:Wf m)(a:Ok m h){v:ag}{d:List ag}(o:hJ m h T v d){x:ag}(M:eZ x=af)(E:(d.length+1)*i.bytes<=70368744177664)(y:d.length+1<=1099511627776):
  ∃(b:Option aJ)(n c:Nat)(u:ek),cG P t t v (qe 1 1 h.aD) (h.push (.cells [x] T 1 af))=aa (ae b n c,u)/\n=d.length+1/\hJ m (u.app (h.push (.cells [x] T 1 af))) T (ae b n c) (d++[x])/\Ok m (u.app (h.push (.cells [x] T 1 af))):=by
 have I:eI P t=af:=by unfold eI;rw[D]
 have p:gZ (h.push (.cells [x] T 1 af)) i.size (qe 1 1 h.aD)=aa ([x],1):=by
  show(match (h.push (.cells [x] T 1 af)).get h.aD with|some (.cells cs ..)=>if((cs.drop 0).take (1*i.size)).length=1*i.size then aa ((cs.drop 0).take (1*i.size),1)else none|_=>none)=_;rw[au.cY,iP rfl,r];rfl
 have z:=hJ.push a o (.cells [x] T 1 af);have e:=a.push (.cells [x] T 1 af);generalize G:h.push (.cells [x] T 1 af)=g at*;have K:h.aD<g.aD:=by rw[<-G];exact ff _
 unfold cG;rw[D];dsimp only;rw[F];dsimp only;rw[iP I,p];dsimp only;rw[iP (by grind)];rcases z with⟨rfl,rfl⟩|⟨k,cs,rfl,A,q,N,O⟩
 ·show ∃b n c u,(if 1=0 then aa (ae none 0 0,ek.no)else if 1*i.bytes<=70368744177664/\1<=1099511627776 then aa (ae (aa ⟨g.aD,0,none⟩) 1 (fg+1),ek.push (.cells [x] T i.size af))else none)=_/\_;rw[iN (by omega),iP (by grind)];refine⟨_,_,_,_,rfl,rfl,.inr ⟨g.aD,[x],rfl,e.nx,?_,rfl,by simp⟩,e.push _⟩;show(g.push (.cells [x] T i.size af)).get g.aD=_;rw[au.cY,iP rfl,r]
 ·dsimp only;rw[iN (by omega),r,dB];have s:dw (fg+cs.length)=cs.length:=by unfold dw;rw[iP (by omega)];omega
  rw[s];have B:=e.wf _ _ q;by_cases f:d.length+1<=cs.length
  ·rw[iP f];unfold storeAt;rw[bJ,q];dsimp only;rw[iP ⟨by omega,by grind⟩];refine⟨_,_,_,_,rfl,rfl,.inr ⟨k,cs.take d.length++[x]++cs.drop (d.length+1),?_,A,?_,?_,?_⟩,?_⟩
   ·grind
   ·show(g.set k _).get k=_;simp[au.cE]
   ·grind
   ·grind
   ·exact e.set _ A B w
  ·rw[iN f];have J:cs.length=d.length:=by omega
   unfold lO;rw[iP ⟨E,y⟩,q];dsimp only;rw[dB,iP ⟨rfl,rfl,by grind⟩,iN (by omega),iP ⟨rfl,by omega⟩];refine⟨_,_,_,_,rfl,rfl,.inr ⟨g.aD,d++[x],?_,e.nx,?_,?_,?_⟩,?_⟩
   ·grind
   ·show((g.del k).push _).get g.aD=_
    simp_all[au.cY]
   ·grind
   ·omega
   ·refine⟨?_,λj C l=>?_,bN e.nx (fA _)⟩
    ·refine au.sB (λj C l=>?_) _;rw[au.iD]at l;split at l
     ·grind
     ·exact e.wf _ _ l
    ·have H:=e.ext _ _ l;have L:=e.wf _ _ H;show((g.del k).push _).get j=_;rw[au.cY,iN (λT=>by have:j=g.aD:=T;omega),au.iD,iN (λT=>by have:=w _ _ l;omega)];omega
def Rd(h:au)(e:aF)(v:ag)(a:List ag):Prop:=
 (v=nA/\a=[])\/ ∃k b cs c d,v=gJ k b a.length c/\h.get k=aa (.cells cs e 1 d)/\(cs.drop b).take a.length=a
theorem hJ.rd{h0:au}(o:hJ h0 h T v c):Rd h T v c:=by
 rcases o with o|⟨k,cs,b,d,a,e,f⟩
 ·exact .inl o
 ·exact .inr ⟨k,0,cs,_,af,b,a,by grind⟩
theorem Rd.ok(r:Rd h T v d)(o:Ok h g):Rd g T v d:=by
 rcases r with r|⟨k,a,cs,c,f,e,i,b⟩
 ·exact .inl r
 ·exact .inr ⟨k,a,cs,c,f,e,o.ext _ _ i,b⟩
theorem Rd.len{c:Nat}(r:Rd h T (ae a n c) d):n=d.length:=by
 rcases r with⟨b,rfl⟩|⟨k,e,cs,c,g,b,i,f⟩
 all_goals grind
theorem hJ.len{c:Nat}(r:hJ g h T (ae a n c) d):n=d.length:=r.rd.len
theorem Rd.at_{t:aF}{d:TypeDesc}(s:P.underlying t=aa (.slice T))(g:bZ P T=aa 1)(o:P.underlying T=aa d)(q:isAgg P T=aj){h:au}{v:ag}{a:List ag}(r:Rd h T v a){k:ee}{i:Int}(n:0<=i)(j:i<a.length):
  ∃p:aJ,aW P t v (aC k i)=aa (bw p)/\aS P T h (bw p)=aa (a.getD i.toNat undef):=by
 rcases r with⟨_,rfl⟩|⟨b,e,cs,c,l,rfl,f,m⟩
 ·grind
 ·refine⟨⟨b,e+i.toNat*1,none⟩,?_,?_⟩
  ·simp_all[aW,Addr.add]
  ·unfold aS
   grind
def uy(c:UInt8):ag:= aC aK (c.toNat:Nat)
theorem tJ:∀l:List UInt8,bytesOf (l.map uy)=aa l
 |[]=>rfl
 |c::l=>by
  have a:c.toNat<256:=c.toNat_lt;show(if 0<=((c.toNat:Nat):Int)/\((c.toNat:Nat):Int)<256 then(bytesOf (l.map uy)).map (UInt8.ofNat ((c.toNat:Nat):Int).toNat::·)else none)=_;rw[iP (by omega),tJ l,bc];simp
theorem acR{s e:aF}(a:P.underlying s=aa (.slice e))(d:P.underlying T=aa .string)(j:P.underlying e=aa (.int aK)){h:au}{v:ag}{l:List UInt8}(r:Rd h e v (l.map uy)):AV P s T v h=aa (strOf l):=by
 unfold AV dW;dsimp only;rw[a,d];rcases r with⟨rfl,b⟩|⟨k,f,cs,c,i,rfl,b,g⟩
 all_goals simp_all[tJ]
theorem hJ.ok{a:au}(r:hJ g h T v c)(o:Ok h a):hJ g a T v c:=by
 rcases r with r|⟨k,cs,d,e,b,f,i⟩
 ·exact .inl r
 ·exact .inr ⟨k,cs,d,e,o.ext _ _ b,f,i⟩
theorem hJ.from_{t:aF}(j:P.underlying t=aa (.slice T))(e:bZ P T=aa 1){g h:au}{v:ag}{b:List ag}(r:hJ g h T v b){z:Nat}(m:z<b.length):
  ∃a n c,dN P t v (aa (aE (z:Int))) none none h=aa (ae a n c)/\Rd h T (ae a n c) (b.drop z):=by
 rcases r with⟨rfl,rfl⟩|⟨k,cs,rfl,l,d,f,o⟩
 ·grind
 ·refine⟨aa ⟨k,0+z*1,none⟩,b.length-z,fg+cs.length-z,?_,.inr ⟨k,0+z*1,cs,_,af,by rw[da],d,?_⟩⟩
  ·unfold dN;dsimp only;rw[j];dsimp only[iY];rw[e,d];dsimp only;have i:dw (fg+cs.length)=cs.length:=by unfold dw;rw[iP (by omega)];omega
   grind
  ·rw[bJ,dB,da];have:=congrArg (List.drop z) f
   grind[drop_take]
theorem hJ.upto{t:aF}(m:P.underlying t=aa (.slice T))(g:bZ P T=aa 1){f h:au}{v:ag}{b:List ag}(r:hJ f h T v b){z:Nat}(p:z<=b.length)(q:0<b.length):
  ∃a n c,dN P t v none (aa (aE (z:Int))) none h=aa (ae a n c)/\hJ f h T (ae a n c) (b.take z):=by
 rcases r with⟨rfl,rfl⟩|⟨k,cs,rfl,i,e,o,s⟩
 ·grind
 ·refine⟨aa ⟨k,0+0*1,none⟩,z,fg+cs.length,?_,.inr ⟨k,cs,?_,i,e,?_,?_⟩⟩
  ·unfold dN;dsimp only;rw[m];dsimp only[iY];rw[g,e];dsimp only;have d:dw (fg+cs.length)=cs.length:=by unfold dw;rw[iP (by omega)];omega
   rw[iP (by simp),d,iP (by omega)];have j:((z:Int)-((0:Nat):Int)).toNat=z:=by omega
   have l:((0:Nat):Int).toNat=0:=rfl;rw[j,l];rfl
  all_goals grind
theorem B9(k:ee)(a b:Int):ud af [aC k a,aC k b]=aa (aC k (if b>a then b else a)):=by simp[ud]
theorem lV{t:aF}{k:ee}{a:Int}{b:Nat}(d:0<=a)(c:0<b):ca P .rem t (aC k a) (aC k (b:Int))=aa (aC k (a%(b:Int))):=by grind[aa0]
theorem tP{t:aF}{a:Int}{b:Nat}(c:0<=a)(d:a<18446744073709551616)(e:0<b):ca P .quo t (bA a) (bA (b:Int))=aa (bA (a/(b:Int))):=by
 rw[KO P t aw _ _ (by omega),Int.tdiv_eq_ediv_of_nonneg c,jB (Int.ediv_nonneg c (by omega)) (Int.lt_of_le_of_lt (Int.ediv_le_self _ c) d)]
def setAt:List Nat->Code->Code->Code
 |[],n,_=>n
 |0::p,n,.seq a b=> .seq (setAt p n a) b
 |_::p,n,.seq a b=> .seq a (setAt p n b)
 |0::p,n,.cond c a b=> .cond c (setAt p n a) b
 |_::p,n,.cond c a b=> .cond c a (setAt p n b)
 |_::p,n,.block i c=> .block i (setAt p n c)
 |_::p,n,.loop c=> .loop (setAt p n c)
 |_::_,_,c=>c
theorem mj:∀(p:List Nat)(c:Code),setAt p (oh p c) c=c
 |[],c=>rfl
 |i::p,c=>by
  cases c with
  |seq a b=>cases i<;>simp only[oh,setAt,mj p]
  |cond c a b=>cases i<;>simp only[oh,setAt,mj p]
  |block i c=>simp only[oh,setAt,mj p]
  |loop c=>simp only[oh,setAt,mj p]
  |_=>simp only[setAt]
theorem hJ.agQ{t:aF}{i:TypeInfo}(I:P.underlying t=aa (.slice T))(K:fI P T=aa i)(z:i.size=1){q h:au}(D:Wf q)(a:Ok q h){v:ag}{f:List ag}(o:hJ q h T v f){x:ag}(U:eZ x=af)(J:(f.length+1)*i.bytes<=70368744177664)(E:f.length+1<=1099511627776):
  ∃(b:Option aJ)(n c:Nat)(u:ek),cG P t t v (qe 1 1 h.aD) (h.push (.cells [x] T 1 af))=aa (ae b n c,u)/\n=f.length+1/\hJ q (u.app (h.push (.cells [x] T 1 af))) T (ae b n c) (f++[x])/\Ok q (u.app (h.push (.cells [x] T 1 af)))/\
   (∀j B,h.get j=aa B->(∀o n c,v≠ gJ j o n c)->(u.app (h.push (.cells [x] T 1 af))).get j=aa B)/\
   (∀j o m d,ae b n c=gJ j o m d->h.aD<=j\/ ∃o n c,v=gJ j o n c):=by
 have N:eI P t=af:=by unfold eI;rw[I]
 have s:gZ (h.push (.cells [x] T 1 af)) i.size (qe 1 1 h.aD)=aa ([x],1):=by
  show(match (h.push (.cells [x] T 1 af)).get h.aD with|some (.cells cs ..)=>if((cs.drop 0).take (1*i.size)).length=1*i.size then aa ((cs.drop 0).take (1*i.size),1)else none|_=>none)=_;rw[au.cY,iP rfl,z];rfl
 have F:=hJ.push a o (.cells [x] T 1 af);have l:=a.push (.cells [x] T 1 af);have O:∀j B,h.get j=aa B->(h.push (.cells [x] T 1 af)).get j=aa B:=λj B e=>by
  rw[au.cY,iN (λT=>by have:=a.wf _ _ e;omega)];omega
 have r:∀j B,h.get j=aa B->j<h.aD:=λj B e=>a.wf _ _ e;generalize L:h.push (.cells [x] T 1 af)=g at*;have R:h.aD<g.aD:=by rw[<-L];exact ff _
 unfold cG;rw[I];dsimp only;rw[K];dsimp only;rw[iP N,s];dsimp only;rw[iP (by grind)];rcases F with⟨rfl,rfl⟩|⟨k,cs,rfl,G,y,V,W⟩
 ·show ∃b n c u,(if 1=0 then aa (ae none 0 0,ek.no)else if 1*i.bytes<=70368744177664/\1<=1099511627776 then aa (ae (aa ⟨g.aD,0,none⟩) 1 (fg+1),ek.push (.cells [x] T i.size af))else none)=_/\_;rw[iN (by omega),iP (by grind)];refine⟨_,_,_,_,rfl,rfl,.inr ⟨g.aD,[x],rfl,l.nx,?_,rfl,by simp⟩,l.push _,λj B e _=>?_,λj o m d T=> .inl ?_⟩
  rotate_left
  ·show(g.push _).get j=_;rw[au.cY,iN (λT=>by have:=r _ _ e;omega)]
   grind
  ·grind
  show(g.push (.cells [x] T i.size af)).get g.aD=_;rw[au.cY,iP rfl,z]
 ·dsimp only;rw[iN (by omega),z,dB];have A:dw (fg+cs.length)=cs.length:=by unfold dw;rw[iP (by omega)];omega
  rw[A];have H:=l.wf _ _ y;by_cases p:f.length+1<=cs.length
  ·rw[iP p];unfold storeAt;rw[bJ,y];dsimp only;rw[iP ⟨by omega,by grind⟩];refine⟨_,_,_,_,rfl,rfl,.inr ⟨k,cs.take f.length++[x]++cs.drop (f.length+1),?_,G,?_,?_,?_⟩,?_,λj B e w=>?_,λj o m d T=> .inr ?_⟩
   rotate_left 5
   ·show(g.set k _).get j=_;rw[au.cE,iN (λT=>w 0 _ _ (by rw[T]))]
    grind
   ·grind
   ·grind
   ·show(g.set k _).get k=_;simp[au.cE]
   ·grind
   ·grind
   ·exact l.set _ G H D
  ·rw[iN p];have Q:cs.length=f.length:=by omega
   unfold lO;rw[iP ⟨J,E⟩,y];dsimp only;rw[dB,iP ⟨rfl,rfl,by grind⟩,iN (by omega),iP ⟨rfl,by omega⟩];refine⟨_,_,_,_,rfl,rfl,.inr ⟨g.aD,f++[x],?_,l.nx,?_,?_,?_⟩,?_,λj B e w=>?_,λj o m d T=> .inl ?_⟩
   rotate_left 5
   ·show((g.del k).push _).get j=_;rw[au.cY,iN (λT=>by have:=r _ _ e;have:j=g.aD:=T;omega),au.iD,iN (λT=>w 0 _ _ (by rw[T]))]
    grind
   ·grind
   ·grind
   ·show((g.del k).push _).get g.aD=_
    simp_all[au.cY]
   ·grind
   ·omega
   ·refine⟨?_,λj C e=>?_,bN l.nx (fA _)⟩
    ·refine au.sB (λj C e=>?_) _;rw[au.iD]at e;split at e
     ·grind
     ·exact l.wf _ _ e
    ·have M:=l.ext _ _ e;have S:=l.wf _ _ M;show((g.del k).push _).get j=_;rw[au.cY,iN (λT=>by have:j=g.aD:=T;omega),au.iD,iN (λT=>by have:=D _ _ e;omega)];omega
def PL(b h:au)(e:aF)(v:ag)(a:List ag):Prop:=
 (v=nA/\a=[])\/ ∃k,v=sA k a.length (fg+a.length)/\b.aD<=k/\h.get k=aa (.cells a e 1 af)
theorem PL.aaN{t y:aF}{i:TypeInfo}(K:P.underlying t=aa (.slice T))(E:fI P T=aa i)(F:i.size=1)(J:eI P y=af){g h:au}(z:Wf g)(a:Ok g h){v:ag}{f:List ag}(o:PL g h T v f){x:ag}{d:List ag}(p:gZ h 1 x=aa (d,d.length))(G:d.all eZ=af)(D:(f.length+d.length)*i.bytes<=70368744177664)(w:f.length+d.length<=1099511627776):
  ∃(b:Option aJ)(n c:Nat)(u:ek),cG P t y v x h=aa (ae b n c,u)/\PL g (u.app h) T (ae b n c) (f++d)/\Ok g (u.app h)/\(∀j B,h.get j=aa B->(∀o n c,v≠ gJ j o n c)->(u.app h).get j=aa B):=by
 have m:∀j B,h.get j=aa B->j<h.aD:=λj B e=>a.wf _ _ e;unfold cG;rw[K];dsimp only;rw[E];dsimp only;rw[iP J,F,p];dsimp only;rw[iP ⟨G,by omega⟩];rcases o with⟨rfl,rfl⟩|⟨k,rfl,H,r⟩
 ·show ∃b n c u,(if d.length=0 then aa (ae none 0 0,ek.no)else if d.length*i.bytes<=70368744177664/\d.length<=1099511627776 then aa (ae (aa ⟨h.aD,0,none⟩) d.length (fg+d.length),ek.push (.cells d T 1 af))else none)=_/\_;by_cases l:d.length=0
  ·have q:d=[]:=bE l;subst q;exact⟨_,_,_,_,rfl,.inl ⟨rfl,rfl⟩,a,λj B e _=>e⟩
  ·rw[iN l,iP (by grind)];refine⟨_,_,_,_,rfl,.inr ⟨h.aD,by simp,a.nx,?_⟩,a.push _,λj B e _=>?_⟩
   ·show(h.push _).get h.aD=_;simp[au.cY]
   ·show(h.push _).get j=_;rw[au.cY,iN (λT=>by have:=m _ _ e;omega)];omega
 ·dsimp only;have L:=a.wf _ _ r;by_cases l:d.length=0
  ·have q:d=[]:=bE l;subst q;refine⟨_,_,_,_,rfl,.inr ⟨k,by simp,H,by rw[cp];exact r⟩,a,λj B e _=>e⟩
  ·rw[iN l,dB];have s:dw (fg+f.length)=f.length:=by unfold dw;rw[iP (by omega)];omega
   rw[s,iN (by omega)];unfold lO;rw[iP ⟨D,w⟩,r];dsimp only;rw[dB,iP ⟨rfl,rfl,by simp⟩,iN (by omega),iP ⟨rfl,by omega⟩];refine⟨_,_,_,_,rfl,.inr ⟨h.aD,by simp,a.nx,?_⟩,?_,λj B e A=>?_⟩
   ·show((h.del k).push _).get h.aD=_
    simp_all[au.cY]
   ·refine⟨?_,λj C e=>?_,bN a.nx (fA _)⟩
    ·refine au.sB (λj C e=>?_) _;rw[au.iD]at e
     simp_all
    ·have I:=a.ext _ _ e;have M:=a.wf _ _ I;show((h.del k).push _).get j=_;rw[au.cY,iN (λT=>by have:j=h.aD:=T;omega),au.iD,iN (λT=>by have:=z _ _ e;omega)];omega
   ·show((h.del k).push _).get j=_;rw[au.cY,iN (λT=>by have:=m _ _ e;have:j=h.aD:=T;omega),au.iD,iN (λT=>A 0 _ _ (by rw[T]))];omega
theorem K6{p:rW}{h':au}(a:Nat.ble YB f=aj)(i:X.pr f=aa p)(j:∀d,p d c h=aa (v,h'))(b:Q v h'):FW X f c h Q:=by
 refine⟨v,h',⟨1,λn g=>?_⟩,b⟩;obtain⟨m,rfl⟩:∃m,n=m+1:=⟨n-1,by omega⟩
 have e:¬YB<=f:=λh=>by rw[<-ble_eq]at h;rw[a]at h;cases h
 simp_all[iN,dP]
variable{m:Nat}
theorem TD(k i j:Nat):Addr.add ⟨k,i,none⟩ j=⟨k,i+j,none⟩:=by simp[Addr.add]
theorem GI{t:aF}(e:P.underlying t=aa (.slice T))(a:bZ P T=aa m){k off n c:Nat}{ik:ee}{i:Int}(d:0<=i)(b:i<n):aW P t (gJ k off n c) (aC ik i)=aa (df k (off+i.toNat*m)):=by simp_all[TD,aW]
theorem ej{t:aF}{d:TypeDesc}(f:P.underlying t=aa d)(a:isAgg P t=aj){h:au}{k i:Nat}{cs:List ag}{e:aF}{sz:Nat}{wr:Bool}(c:h.get k=aa (.cells cs e sz wr))(b:i<cs.length):aS P t h (df k i)=aa (cs.getD i undef):=by simp_all[aS]
theorem jr{t:aF}{d:TypeDesc}(j:P.underlying t=aa d)(c:isAgg P t=af)(b:bZ P t=aa n){h:au}{k i:Nat}{cs:List ag}{e:aF}{z:Nat}{a:Bool}(g:h.get k=aa (.cells cs e z a))(f:i+n<=cs.length):aS P t h (df k i)=aa (al ⟨(cs.drop i).take n⟩):=by
 unfold aS
 grind
theorem kG{t:aF}(c:bZ P t=aa 1){h:au}{k i:Nat}{cs:List ag}{e:aF}{a:Nat}(d:h.get k=aa (.cells cs e a af))(g:i<cs.length){v:ag}(b:eZ v=af)(f:v.cells = #[v]):bh P t (df k i) v h=aa (undef,.set k (.cells (cs.set i v) e a af)):=by
 unfold bh;dsimp only;rw[f,iP (show bZ P t=aa (#[v]:Array ag).size from c)];unfold storeAt;rw[d];dsimp only;rw[iP ⟨by simp;omega,by simp[b]⟩]
 simp_all[List.set_eq_take_append_cons_drop]
structure ur(hb:au)(kt:Nat)(e:aF)(vs:List ag)(g:au):Prop where
 row:g.get kt=aa (.cells vs e 1 af)
 new:hb.aD<=kt
 ok:Ok hb g
theorem ur.lt(m:ur h n T c g):n<g.aD:=m.ok.wf _ _ m.row
theorem ur.rd(m:ur h n T d g)(c:Nat):Rd g T (sA n d.length c) d:= .inr ⟨n,0,d,c,af,rfl,m.row,by simp⟩
theorem ur.trans{a:au}(m:ur h n T c g)(o:Ok g a):ur h n T c a:=⟨o.ext _ _ m.row,m.new,m.ok.trans o⟩
theorem ur.set(w:Wf h){a:Nat}{e:aF}{b:List ag}{g:au}(m:ur h a e b g)(j:Nat)(v:ag):ur h a e (b.set j v) ((ek.set a (.cells (b.set j v) e 1 af)).app g):=by
 refine⟨?_,m.new,m.ok.set _ m.new m.lt w⟩;show(g.set a _).get a=_;rw[au.cE,iP rfl]
theorem tU(z:ag)(n:Nat):fb [z] n=aQ n z:=by
 induction n with
 |zero=>rfl
 |succ n a=>grind[fb]
theorem Mn(f:A->ag)(L:List A)(j:Nat)(d:A):(L.map f).set j (f d)=(L.set j d).map f:=by simp
variable{L:List (List ag)}
def uz:ag:= ae (aa ⟨0,0,aa 0⟩) 0 0
def H0(h:au)(e:aF)(d:Nat)(v:ag)(b:List (List ag)):Prop:=
 (∀r∈b,r.length=d)/\(((v=nA\/v=uz)/\b=[])\/ ∃k a cs f z c g,v=gJ k a b.length c/\h.get k=aa (.cells cs f z g)/\a+b.length*d<=cs.length/\∀(i:Nat)(r:List ag),b[i]?=aa r->(cs.drop (a+i*d)).take d=r)
theorem H0.ok(r:H0 h T n v L)(o:Ok h g):H0 g T n v L:=by
 obtain⟨a,r|⟨k,b,cs,d,z,c,i,f,j,e,l⟩⟩:=r
 ·exact⟨a,.inl r⟩
 ·exact⟨a,.inr ⟨k,b,cs,d,z,c,i,f,o.ext _ _ j,e,l⟩⟩
theorem H0.len{c:Nat}(r:H0 h T n (ae a m c) L):m=L.length:=by
 obtain⟨_,⟨b|b,rfl⟩|⟨k,d,cs,e,z,c,g,b,i,f,j⟩⟩:=r
 all_goals grind[uz]
theorem H0.tB(r:H0 h T n v L):∃(a:Option aJ)(c:Nat),v=ae a L.length c:=by
 obtain⟨_,⟨b|b,rfl⟩|⟨k,d,cs,e,z,c,g,b,i,f,j⟩⟩:=r
 ·exact⟨_,_,b⟩
 ·exact⟨_,_,b⟩
 grind
theorem H0.at_{t:aF}{d:TypeDesc}(L:P.underlying t=aa (.slice T))(E:bZ P T=aa n)(J:P.underlying T=aa d)(K:isAgg P T=af){h:au}{v:ag}{a:List (List ag)}(r:H0 h T n v a){ik:ee}{i:Int}(I:0<=i)(F:i<a.length):
  ∃(k o:Nat),aW P t v (aC ik i)=aa (df k o)/\aS P T h (df k o)=aa (al ⟨a.getD i.toNat []⟩)/\
   ∀(e:aF)(g:TypeDesc)(j:Nat),P.underlying e=aa g->isAgg P e=aj->j<n->aS P e h (df k (o+j))=aa ((a.getD i.toNat []).getD j undef):=by
 obtain⟨D,⟨_,rfl⟩|⟨b,f,cs,C,z,c,G,rfl,w,H,B⟩⟩:=r
 ·grind
 ·have m:i.toNat<a.length:=by omega
  have y:a[i.toNat]?=aa (a.getD i.toNat []):=by rw[gD,gE m];rfl
  have l:=B _ _ y;have p:(i.toNat+1)*n<=a.length*n:=bM _ m;rw[dh,ew]at p;obtain⟨q,x⟩:∃q,q=i.toNat*n:=⟨_,rfl⟩
  rw[<-x]at l p;refine⟨b,f+q,?_,?_,λe g j u s A=>?_⟩
  ·grind[GI]
  ·grind[jr]
  ·rw[ej u s w (by omega),<-l,gD,gD,getElem?_take,iP A,getElem?_drop]
def fJ:ag->Option Nat
 |ae (aa a) _ _=>aa a.block
 |_=>none
def od(d h:au)(e:aF)(v:ag)(a:List ag):Prop:=
 (v=nA/\a=[])\/ ∃k b cs c,v=gJ k b a.length c/\d.aD<=k/\h.get k=aa (.cells cs e 1 af)/\(cs.drop b).take a.length=a/\dw c+b=cs.length/\a.length<=dw c
theorem od.rd{h0:au}(o:od h0 h T v d):Rd h T v d:=by
 rcases o with o|⟨k,a,cs,c,e,g,b,f,j,i⟩
 ·exact .inl o
 ·exact .inr ⟨k,a,cs,c,af,e,b,f⟩
theorem od.sY{e:au}(o:od g h T v d)(l:∀(k:Nat) (B:eA),fJ v=aa k->h.get k=aa B->e.get k=aa B):od g e T v d:=by
 rcases o with o|⟨k,a,cs,c,b,i,f,j,n,m⟩
 ·exact .inl o
 ·exact .inr ⟨k,a,cs,c,b,i,l k _ (by rw[b];rfl) f,j,n,m⟩
theorem od.ok{a:au}(r:od g h T v c)(o:Ok h a):od g a T v c:=r.sY λk B _ b=>o.ext _ _ b
theorem od.lt(o:od g h T v d)(w:Wf h){k:Nat}(a:fJ v=aa k):k<h.aD/\g.aD<=k:=by
 rcases o with⟨rfl,_⟩|⟨b,j,cs,c,f,i,e,l,n,m⟩
 ·cases a
 ·rw[f]at a;obtain rfl:b=k:=aG a;exact⟨w _ _ e,i⟩
theorem od.nil(a h:au)(e:aF):od a h e nA []:= .inl ⟨rfl,rfl⟩
theorem od.tB(o:od g h T v d):∃(a:Option aJ)(c:Nat),v=ae a d.length c:=by
 rcases o with⟨rfl,rfl⟩|⟨k,e,cs,c,b,i,f,j,m,l⟩
 ·exact⟨_,_,rfl⟩
 ·exact⟨_,_,b⟩
theorem od.snoc{t:aF}{i:TypeInfo}(J:P.underlying t=aa (.slice T))(M:fI P T=aa i)(q:i.size=1){m g:au}(E:Wf m)(a:Ok m g){v:ag}{d:List ag}(o:od m g T v d){x:ag}(G:eZ x=af){s:Nat}(D:g.get s=aa (.cells [x] T 1 af))(F:(d.length+1)*i.bytes<=70368744177664)(w:d.length+1<=1099511627776):
  ∃(b:Option aJ)(n c:Nat)(u:ek),cG P t t v (sA s 1 1) g=aa (ae b n c,u)/\n=d.length+1/\od m (u.app g) T (ae b n c) (d++[x])/\Ok m (u.app g)/\
   (∀j B,g.get j=aa B->fJ v≠aa j->(u.app g).get j=aa B)/\
   (∀j,fJ (ae b n c)=aa j->g.aD<=j\/fJ v=aa j)/\g.aD<=(u.app g).aD:=by
 have N:eI P t=af:=by unfold eI;rw[J]
 have y:gZ g i.size (sA s 1 1)=aa ([x],1):=by
  show(match g.get s with|some (.cells cs ..)=>if((cs.drop 0).take (1*i.size)).length=1*i.size then aa ((cs.drop 0).take (1*i.size),1)else none|_=>none)=_;rw[D,q];rfl
 unfold cG;rw[J];dsimp only;rw[M];dsimp only;rw[iP N,y];dsimp only;rw[iP (by simp[G,q])];rcases o with⟨rfl,rfl⟩|⟨k,f,cs,c,rfl,H,z,r,R,Q⟩
 ·show ∃b n c u,(if 1=0 then aa (ae none 0 0,ek.no)else if 1*i.bytes<=70368744177664/\1<=1099511627776 then aa (ae (aa ⟨g.aD,0,none⟩) 1 (fg+1),ek.push (.cells [x] T i.size af))else none)=_/\_;rw[iN (by omega),iP (by simpa using And.intro F w)];refine⟨_,_,_,_,rfl,rfl,.inr ⟨g.aD,0,[x],fg+1,rfl,a.nx,?_,rfl,by rw[fk];rfl,by rw[fk];exact aT _⟩,a.push _,λj B e _=>?_,λj T=> .inl ?_,fA _⟩
  ·show(g.push (.cells [x] T i.size af)).get g.aD=_;rw[au.cY,iP rfl,q]
  ·show(g.push _).get j=_;rw[au.cY,iN (λT=>by have:=a.wf _ _ e;omega)];exact e
  ·have:g.aD=j:=aG T;omega
 ·dsimp only;rw[iN (by omega),q,dB];have I:=a.wf _ _ z;by_cases h:d.length+1<=dw c
  ·rw[iP h];unfold storeAt;rw[z];dsimp only;rw[iP ⟨by simp;omega,by simp[G]⟩];refine⟨_,_,_,_,rfl,rfl,.inr ⟨k,f,cs.take (f+d.length)++[x]++cs.drop (f+d.length+1),c,?_,H,?_,?_,?_,?_⟩,?_,λj B e p=>?_,λj T=> .inr T,aT _⟩
   ·simp
   ·show(g.set k _).get k=_;rw[au.cE,iP rfl];rfl
   ·have l:(cs.take (f+d.length)).length=f+d.length:=by rw[bq];omega
    rw[bP,List.drop_append_of_le_length (by rw[l];omega),drop_take,show f+d.length-f=d.length by omega,r,bF,bU,List.length_nil,List.take_append,bC (by omega)];congr 1;rw[show d.length+(0+1)-d.length=1 by omega];rfl
   ·simp;omega
   ·simp;omega
   ·exact a.set _ H I E
   ·show(g.set k _).get j=_;rw[au.cE,iN (λT=>p (by rw[T];rfl))];exact e
  ·rw[iN h];have O:dw c=d.length:=by omega
   have l:((cs.drop f).take d.length).length=d.length:=by rw[r]
   unfold lO;rw[iP ⟨F,w⟩,z];dsimp only;rw[dB,iP ⟨rfl,rfl,l⟩];have A:∀B:eA,od m ((g.push (.cells (d++[x]) T 1 af))) T (sA g.aD (d.length+1) (fg+(d.length+1))) (d++[x]):=λ_=>
    .inr ⟨g.aD,0,d++[x],fg+(d.length+1),by rw[bF];rfl,a.nx,by rw[au.cY,iP rfl],by rw[bO,fi],by rw[fk,bF];rfl,by rw[fk,bF];exact aT _⟩
   by_cases K:c<fg
   ·rw[iP K,r];refine⟨_,_,_,_,rfl,rfl,A (.map []),a.push _,λj B e _=>?_,λj T=> .inl ?_,fA _⟩
    ·show(g.push _).get j=_;rw[au.cY,iN (λT=>by have:=a.wf _ _ e;omega)];exact e
    ·have:g.aD=j:=aG T;omega
   ·rw[iN K,iP ⟨rfl,by omega⟩,r];refine⟨_,_,_,_,rfl,rfl,.inr ⟨g.aD,0,d++[x],fg+(d.length+1),by rw[bF];rfl,a.nx,?_,by rw[bO,fi],by rw[fk,bF];rfl,by rw[fk,bF];exact aT _⟩,?_,λj B e p=>?_,λj T=> .inl ?_,fA _⟩
    ·show((g.del k).push _).get g.aD=_;rw[au.cY,iP (show g.aD=(g.del k).aD from rfl)]
    ·refine⟨?_,λj C e=>?_,bN a.nx (fA _)⟩
     ·refine au.sB (λj C e=>?_) _;rw[au.iD]at e;split at e
      ·cases e
      ·exact a.wf _ _ e
     ·have l:=a.ext _ _ e;have L:=a.wf _ _ l;show((g.del k).push _).get j=_;rw[au.cY,iN (λT=>by have:j=g.aD:=T;omega),au.iD,iN (λT=>by have:=E _ _ e;omega)];exact l
    ·have L:=a.wf _ _ e;show((g.del k).push _).get j=_;rw[au.cY,iN (λT=>by have:j=g.aD:=T;omega),au.iD,iN (λT=>p (by rw[T];rfl))];exact e
    ·have:g.aD=j:=aG T;omega
theorem od.upto{t:aF}(s:P.underlying t=aa (.slice T))(i:bZ P T=aa 1){g h:au}{v:ag}{b:List ag}(r:od g h T v b){z:Nat}(e:z<=b.length)(p:0<b.length):
  ∃a n c,dN P t v none (aa (aE (z:Int))) none h=aa (ae a n c)/\od g h T (ae a n c) (b.take z)/\fJ (ae a n c)=fJ v:=by
 rcases r with⟨rfl,rfl⟩|⟨k,d,cs,c,rfl,j,f,l,q,u⟩
 ·simp at p
 ·refine⟨aa ⟨k,d+0*1,none⟩,z,c,?_,.inr ⟨k,d,cs,c,?_,j,f,?_,q,?_⟩,rfl⟩
  ·unfold dN;dsimp only;rw[s];dsimp only[iY];rw[i,f];dsimp only;rw[iP (by simp),iP (by omega)];have m:((z:Int)-((0:Nat):Int)).toNat=z:=by omega
   have o:((0:Nat):Int).toNat=0:=rfl;rw[m,o];rfl
  ·rw[bq,dI e];rfl
  ·rw[bq,dI e,<-l,List.take_take,dI e]
  ·rw[bq];omega
variable{k:Nat}
theorem sD{a:Nat}:∀{l:List (List ag)},(∀r∈l,r.length=a)->l.flatten.length=l.length*a
 |[],_=>by simp
 |r::l,h=>by
  rw[kg,bF,sD λx b=>h x (cF _ b),h r (cj ..),bU,dh,ew,add_comm]
theorem ND{a:Nat}:∀{l:List (List ag)},(∀r∈l,r.length=a)->∀{i:Nat}{r:List ag},l[i]?=aa r->(l.flatten.drop (i*a)).take a=r
 |[],_,i,r,h=>by grind
 |x::l,b,0,r,h=>by grind
 |x::l,b,i+1,r,h=>by
  have c:=b x (cj ..);rw[kg,dh,ew,List.drop_append,bV (by omega),dL,c,show i*a+a-a=i*a by omega];exact ND (λy d=>b y (cF _ d)) (by grind)
theorem Jq{a:Nat}:∀{l:List (List ag)},(∀r∈l,r.length=a)->∀{i j:Nat}{r:List ag}{v:ag},l[i]?=aa r->j<a->(l.set i (r.set j v)).flatten=l.flatten.set (i*a+j) v
 |[],_,i,j,r,v,h,_=>by rfl
 |x::l,b,0,j,r,v,h,c=>by grind
 |x::l,b,i+1,j,r,v,h,c=>by
  have d:=b x (cj ..);rw[List.set_cons_succ,kg,kg,Jq (λy e=>b y (cF _ e)) (by grind) c,List.set_append,iN (by grind),dh,ew,d,show i*a+a+j-a=i*a+j by omega]
def kK(f h:au)(e:aF)(d:Nat)(v:ag)(a:List (List ag)):Prop:=
 (∀r∈a,r.length=d)/\((v=nA/\a=[])\/ ∃k b cs c,v=gJ k b a.length c/\f.aD<=k/\h.get k=aa (.cells cs e d af)/\(cs.drop b).take (a.length*d)=a.flatten/\dw c*d+b=cs.length/\a.length<=dw c)
theorem kK.rd{h0:au}(o:kK h0 h T n v L):H0 h T n v L:=by
 obtain⟨a,⟨b,f⟩|⟨k,e,cs,c,b,f,j,s,t,m⟩⟩:=o
 ·exact⟨a,.inl ⟨.inl b,f⟩⟩
 ·have q:=bM n m;refine⟨a,.inr ⟨k,e,cs,T,n,c,af,b,j,by omega,λi r g=>?_⟩⟩;have p:=ND a g;have d:i<L.length:=(List.getElem?_eq_some_iff.1 g).1;have l:(i+1)*n<=L.length*n:=bM _ d;rw[dh,ew]at l
  grind[drop_take,drop_drop]
theorem kK.sY{e:au}(o:kK g h T n v L)(l:∀(k:Nat) (B:eA),fJ v=aa k->h.get k=aa B->e.get k=aa B):kK g e T n v L:=by
 obtain⟨a,o|⟨k,b,cs,c,d,i,f,j,p,m⟩⟩:=o
 ·exact⟨a,.inl o⟩
 ·exact⟨a,.inr ⟨k,b,cs,c,d,i,l k _ (by rw[d];rfl) f,j,p,m⟩⟩
theorem kK.ok{a:au}(r:kK g h T n v L)(o:Ok h a):kK g a T n v L:=r.sY λk B _ b=>o.ext _ _ b
theorem kK.lt(o:kK g h T n v L)(w:Wf h){k:Nat}(a:fJ v=aa k):k<h.aD/\g.aD<=k:=by
 obtain⟨_,⟨rfl,_⟩|⟨b,i,cs,c,e,f,d,j,m,l⟩⟩:=o
 ·cases a
 ·rw[e]at a;obtain rfl:b=k:=aG a;exact⟨w _ _ d,f⟩
theorem kK.nil(b h:au)(e:aF)(a:Nat):kK b h e a nA []:=⟨λr c=>(by grind),.inl ⟨rfl,rfl⟩⟩
theorem kK.tB(o:kK g h T n v L):∃(a:Option aJ)(c:Nat),v=ae a L.length c:=o.rd.tB
theorem kK.made{h0:au}{rs:List (List ag)}(e:h.get k=aa (.cells rs.flatten T n af))(b:∀r∈rs,r.length=n)(a:h0.aD<=k)(f:rs.length<fg):kK h0 h T n (sA k rs.length rs.length) rs:=by
 have c:dw rs.length=rs.length:=by unfold dw;rw[iN (by omega)]
 have d:=sD b;exact⟨b,.inr ⟨k,0,rs.flatten,rs.length,rfl,a,e,by rw[bO,bC (by omega)],by rw[c,d];rfl,by rw[c];exact aT _⟩⟩
theorem ahw:∀a n c,ae none 0 0=ae a n c->dw c=n:=λa n c e=>by
 injection e with _ b d
 rw[<-b,<-d];rfl
theorem aaV{t:aF}{s x:ag}{b:Option aJ}{c:Nat}{u:ek}(d:∀a n c,s=ae a n c->dw c=n)(e:cG P t T s x h=aa (ae b n c,u)):dw c=n:=by
 unfold cG at e;split at e<;>try cases e
 split at e<;>try cases e
 split at e<;>try cases e
 split at e<;>try cases e
 split at e<;>try cases e
 split at e
 ·split at e
  ·injection e with e;injection e with e _;exact d _ _ _ e
  ·split at e<;>cases e
   exact fk _
 ·have f:=d _ _ _ rfl;split at e
  ·injection e with e;injection e with e _;exact d _ _ _ e
  ·split at e
   ·omega
   ·unfold lO at e;split at e<;>try cases e
    split at e<;>try cases e
    split at e<;>try cases e
    split at e
    ·cases e;exact fk _
    ·split at e<;>cases e
     exact fk _
 ·cases e
theorem kK.add{t e:aF}{i:TypeInfo}(hU:P.underlying t=aa (.slice e))(X:fI P e=aa i)(Y:i.size=n)(Z:eI P T=af){y g:au}(L:Wf y)(a:Ok y g){v:ag}{d:List (List ag)}(o:kK y g e n v d){x:ag}{ns:List (List ag)}(D:gZ g n x=aa (ns.flatten,ns.length))(A:∀r∈ns,r.length=n)(N:ns.flatten.all eZ=af)(E:(d.length+ns.length)*i.bytes<=70368744177664)(w:d.length+ns.length<=1099511627776)(M:ns.length<=1\/ ∀a F c,v=ae a F c->dw c=F):
  ∃(b:Option aJ)(F c:Nat)(u:ek),cG P t T v x g=aa (ae b F c,u)/\F=d.length+ns.length/\kK y (u.app g) e n (ae b F c) (d++ns)/\Ok y (u.app g)/\
   (∀j B,g.get j=aa B->fJ v≠aa j->(u.app g).get j=aa B)/\
   (∀j,fJ (ae b F c)=aa j->g.aD<=j\/fJ v=aa j)/\g.aD<=(u.app g).aD:=by
 obtain⟨U,o⟩:=o;have l:∀r∈d++ns,r.length=n:=λr h=>(bG.1 h).elim (U r) (A r);have f1:=sD U;have R:=sD A;unfold cG;rw[hU];dsimp only;rw[X];dsimp only;rw[Y,iP Z,D];dsimp only;rw[iP ⟨N,R⟩];have O:∀B:eA,∀j J,g.get j=aa J->(g.push B).get j=aa J:=λB j J f=>by
  rw[au.cY,iN (λe=>by have:=a.wf _ _ f;omega)];omega
 rcases o with⟨rfl,rfl⟩|⟨k,p,cs,c,rfl,G,z,I,h5,h6⟩
 ·by_cases q:ns.length=0
  ·rw[iP q];obtain rfl:=bE q;exact⟨_,_,_,_,rfl,rfl,⟨l,.inl ⟨rfl,rfl⟩⟩,a,λj B f _=>f,λj e=> .inr e,aT _⟩
  ·rw[List.length_nil,bJ]at E w;rw[iN q,iP ⟨E,w⟩];refine⟨_,_,_,_,rfl,(bJ _).symm,⟨l,.inr ⟨g.aD,0,ns.flatten,fg+ns.length,rfl,a.nx,?_,?_,by rw[fk,R];rfl,by rw[fk];exact aT _⟩⟩,a.push _,λj B f _=>O _ j B f,λj e=> .inl (Nat.le_of_eq (aG e)),fA _⟩
   ·show(g.push _).get g.aD=_;rw[au.cY,iP rfl]
   grind
 ·dsimp only;by_cases q:ns.length=0
  ·rw[iP q];obtain rfl:=bE q;exact⟨_,_,_,_,rfl,rfl,⟨l,.inr ⟨k,p,cs,c,by grind,G,z,by grind,h5,by grind⟩⟩,a,λj B f _=>f,λj e=> .inr e,aT _⟩
  have Q:=a.wf _ _ z;have m1:(d.length+ns.length)*n=d.length*n+ns.length*n:=dh ..;rw[iN q];by_cases m:d.length+ns.length<=dw c
  ·rw[iP m];have m2:(d.length+ns.length)*n<=dw c*n:=bM _ m;unfold storeAt;rw[z];dsimp only;rw[iP ⟨by omega,N⟩];refine⟨_,_,_,_,rfl,rfl,⟨l,.inr ⟨k,p,cs.take (p+d.length*n)++ns.flatten++cs.drop (p+d.length*n+ns.flatten.length),c,?_,G,?_,?_,?_,?_⟩⟩,?_,λj B f s=>?_,λj e=> .inr e,aT _⟩
   ·grind
   ·show(g.set k _).get k=_;rw[au.cE,iP rfl]
   ·grind
   ·grind
   ·grind
   ·exact a.set _ G Q L
   ·show(g.set k _).get j=_;rw[au.cE,iN (λe=>s (by rw[e];rfl))];omega
  ·rw[iN m];have H:((cs.drop p).take (d.length*n)).length=d.length*n:=by rw[I,f1]
   unfold lO;rw[iP ⟨E,w⟩,z];dsimp only;rw[iP ⟨rfl,rfl,H⟩];have S:d.flatten++ns.flatten=(d++ns).flatten:=ie.symm;have K:=sD l;rw[bF]at K;by_cases V:c<fg
   ·rw[iP V,I,S];refine⟨_,_,_,_,rfl,rfl,⟨l,.inr ⟨g.aD,0,(d++ns).flatten,fg+(d.length+ns.length),by rw[bF],a.nx,?_,?_,by rw[fk,K];rfl,by rw[fk,bF];exact aT _⟩⟩,a.push _,λj B f _=>O _ j B f,λj e=> .inl (Nat.le_of_eq (aG e)),fA _⟩
    ·show(g.push _).get g.aD=_;rw[au.cY,iP rfl]
    grind
   ·rw[iN V];have x0:dw c=d.length:=by
     rcases M with h|h
     ·omega
     ·exact h _ _ _ rfl
    rw[iP ⟨rfl,by grind⟩,I,S];refine⟨_,_,_,_,rfl,rfl,⟨l,.inr ⟨g.aD,0,(d++ns).flatten,fg+(d.length+ns.length),by grind,a.nx,?_,?_,by rw[fk,K];rfl,by simp[fk]⟩⟩,?_,λj B f s=>?_,λj e=> .inl (Nat.le_of_eq (aG e)),fA _⟩
    ·show((g.del k).push _).get g.aD=_
     simp_all[au.cY]
    ·grind
    ·refine⟨?_,λj C f=>?_,bN a.nx (fA _)⟩
     ·refine au.sB (λj C f=>?_) _;rw[au.iD]at f;split at f
      ·grind
      ·exact a.wf _ _ f
     ·have H:=a.ext _ _ f;have W:=a.wf _ _ H;show((g.del k).push _).get j=_;rw[au.cY,iN (λe=>by have:j=g.aD:=e;omega),au.iD,iN (λe=>by have:=L _ _ f;omega)];omega
    ·have W:=a.wf _ _ f;show((g.del k).push _).get j=_;rw[au.cY,iN (λe=>by have:j=g.aD:=e;omega),au.iD,iN (λe=>s (by rw[e];rfl))];omega
theorem kK.put{e t':aF}{sz:Nat}(z:bZ P t'=aa 1){f g:au}(w:Wf f)(a:Ok f g){k b n c:Nat}{h:List (List ag)}(o:kK f g e sz (gJ k b n c) h){i j:Nat}{r:List ag}(l:h[i]?=aa r)(G:j<sz){v':ag}(y:eZ v'=af)(H:v'.cells = #[v']):
  ∃u:ek,bh P t' (df k (b+i*sz+j)) v' g=aa (undef,u)/\kK f (u.app g) e sz (gJ k b n c) (h.set i (r.set j v'))/\Ok f (u.app g)/\(∀j B,g.get j=aa B->k≠j->(u.app g).get j=aa B)/\(u.app g).aD=g.aD:=by
 obtain⟨v,⟨d,_⟩|⟨M,D,cs,N,d,s,p,A,Q,F⟩⟩:=o
 ·grind
 ·injection d with d hn t
  injection d with d
  injection d with d C _
  subst d;subst C;subst t;have m:i<h.length:=(List.getElem?_eq_some_iff.1 l).1;have E:(i+1)*sz<=h.length*sz:=bM _ m;have L:=bM sz F;have J:=v r (aM l);rw[dh,ew]at E;refine⟨_,kG z p (by omega) y H,⟨λO K=>?_,.inr ⟨k,b,cs.set (b+i*sz+j) v',c,?_,s,?_,?_,?_,?_⟩⟩,a.set _ s (a.wf _ _ p) w,λx B I q=>?_,rfl⟩
  ·grind
  ·grind
  ·show(g.set k _).get k=_;rw[au.cE,iP rfl]
  ·rw[dt,Jq v l G,<-A,List.drop_set,iN (by omega),List.take_set,show b+i*sz+j-b=i*sz+j by omega]
  ·grind
  ·grind
  ·show(g.set k _).get x=_;rw[au.cE,iN (λe=>q e.symm)];omega
theorem kK.at_{t:aF}(G:P.underlying t=aa (.slice T))(w:bZ P T=aa n){B g:au}{k a v c:Nat}{e:List (List ag)}(o:kK B g T n (gJ k a v c) e){i:Nat}{r:List ag}(p:e[i]?=aa r)(ik:ee):
  aW P t (gJ k a v c) (aC ik (i:Int))=aa (df k (a+i*n))/\(∀(f:aF)(l:TypeDesc)(j:Nat),P.underlying f=aa l->isAgg P f=aj->j<n->aS P f g (df k (a+i*n+j))=aa (r.getD j undef))/\
   (∀d,P.underlying T=aa d->isAgg P T=af->aS P T g (df k (a+i*n))=aa (al ⟨r⟩)):=by
 have I:=o.rd.len;have h:i<e.length:=(List.getElem?_eq_some_iff.1 p).1;have m:=GI (P:=P) G w (k:=k) (off:=a) (n:=v) (c:=c) (ik:=ik) (i:=(i:Int)) (by omega) (by omega);rw[bc]at m;obtain⟨Q,⟨b,_⟩|⟨H,C,cs,K,z,J,M,b,x,L,y⟩⟩:=o.rd
 ·grind
 ·injection b with b _ q
  injection b with b
  injection b with b A _
  subst b;subst A;subst q;have D:(i+1)*n<=e.length*n:=bM _ h;rw[dh,ew]at D;have F:=y i r p;refine⟨m,λf l j u s E=>?_,λd O N=>?_⟩
  ·rw[ej u s x (by omega),<-F,gD,gD,getElem?_take,iP E,getElem?_drop]
  grind[jr]
theorem MD(z:List ag):∀n,fb z n=(aQ n z).flatten:=by
 intro n
 induction n with
 |zero=>simp[fb]
 |succ n a=>rw[fb,a,List.replicate_succ,kg]
variable{M:cm}{i:Nat}{p:List Int}
def dp(M:cm)(s:Nat):List eC:=(M.aI.getD s ⟨[],[]⟩).bB
def jD(M:cm)(s:Nat):Prop:=(M.aI.getD s ⟨[],[]⟩).f≠[]
def opt(c:Int)(x:List Int):List Int:=if c=0 then x else c::x
theorem gx(x:List Int):opt 0 x=x:=iP rfl
theorem ji{c:Int}(h:c≠0)(x:List Int):opt c x=c::x:=iN h
theorem yJ(c:Int)(x:List Int):opt c x=opt c []++x:=by unfold opt;split<;>rfl
inductive iR(M:cm):Nat->List Nat->Nat->List Int->List Int->Prop
 |nil (s:Nat):iR M s [] s [] []
 |cons {s i e:Nat} {a:eC} {l:List Nat} {x y:List Int} (h:(dp M s)[i]?=aa a) (r:iR M a.t.toNat l e x y):iR M s (i::l) e (opt a.i x) (opt a.o y)
theorem iR.cons_inv{s:Nat}{l:List Nat}{x:List Int}(r:iR M s (i::l) n x p):∃a c b,(dp M s)[i]?=aa a/\iR M a.t.toNat l n c b/\x=opt a.i c/\p=opt a.o b:=by
 cases r with
 |cons h r=>exact⟨_,_,_,h,r,rfl,rfl⟩
theorem iR.oL{s:Nat}{x:List Int}(r:iR M s [] n x p):s=n/\x=[]/\p=[]:=by
 cases r with
 |nil=>exact⟨rfl,rfl,rfl⟩
theorem iR.app{s:Nat}{l l':List Nat}{x c b:List Int}(r:iR M s l n x p)(d:iR M n l' m c b):iR M s (l++l') m (x++c) (p++b):=by
 induction r with
 |nil=>exact d
 |@cons s i m a l x p h r e=>
  have:=iR.cons h (e d);rw[yJ a.i x,yJ a.o p,bP,bP,<-yJ a.i,<-yJ a.o];exact this
def A2(M:cm)(l:List Nat)(x y:List Int):Prop:=∃e,iR M M.start.toNat l e x y/\jD M e
def RZ(M:cm):Prop:=∀l l' x y z,A2 M l x y->A2 M l' x z->y=z
def Bl(M:cm):Prop:=∀l l' x y z,A2 M l x y->A2 M l' x z->l=l'
theorem iR.det{s:Nat}{l:List Nat}{x:List Int}(r:iR M s l n x p):∀{b c a},iR M s l b c a->n=b/\x=c/\p=a:=by
 induction r with
 |nil=>exact λd=>d.oL.imp id λh=>⟨h.1.symm,h.2.symm⟩
 |cons h r f=>
  intro b c a d;obtain⟨i,k,j,g,e,rfl,rfl⟩:=d.cons_inv;obtain rfl:=aG (h.symm.trans g);obtain⟨rfl,rfl,rfl⟩:=f e;exact⟨rfl,rfl,rfl⟩
structure Mv where
 i:Int
 l:Int
 r:Int
def wI(a:List Mv):List Int:=a.foldr (λm x=>opt m.i x) []
def wL(a:List Mv):List Int:=a.foldr (λm x=>opt m.l x) []
def wR(a:List Mv):List Int:=a.foldr (λm x=>opt m.r x) []
theorem BP(f:Mv->Int):∀(a ns:List Mv),(a++ns).foldr (λm x=>opt (f m) x) []=a.foldr (λm x=>opt (f m) x) []++ns.foldr (λm x=>opt (f m) x) []
 |[],_=>rfl
 |m::a,ns=>by
  rw[fh,List.foldr_cons,List.foldr_cons,BP f a ns,yJ,yJ (f m) (List.foldr _ _ a),bP]
theorem RK(a ns:List Mv):wI (a++ns)=wI a++wI ns:=BP Mv.i a ns
theorem aav(a ns:List Mv):wL (a++ns)=wL a++wL ns:=BP Mv.l a ns
theorem aax(a ns:List Mv):wR (a++ns)=wR a++wR ns:=BP Mv.r a ns
section
theorem iR.snoc{M:cm}{s:Nat}{a:eC}{l:List Nat}{x:List Int}(r:iR M s l n x p)(h:(dp M n)[i]?=aa a):iR M s (l++[i]) a.t.toNat (x++opt a.i []) (p++opt a.o []):=r.app (.cons h (.nil _))
inductive WA(M:cm):Nat×Nat×Nat->Int->Nat×Nat×Nat->Prop
 |sil {p q h:Nat} {a:eC} (ha:a∈dp M p) (h0:a.i=0):WA M (p,q,h) 0 (a.t.toNat,q,if h=0 then 2 else h)
 |same {p q i:Nat} {a b:eC} (ha:(dp M p)[i]?=aa a) (hb:(dp M q)[i]?=aa b) (e:a.i=b.i):WA M (p,q,0) a.i (a.t.toNat,b.t.toNat,0)
 |fork {p q i k:Nat} {a b:eC} (ha:(dp M p)[i]?=aa a) (hb:(dp M q)[k]?=aa b) (e:a.i=b.i) (n:i≠k):WA M (p,q,0) a.i (a.t.toNat,b.t.toNat,1)
 |read {p q h:Nat} {a b:eC} (ha:a∈dp M p) (hb:b∈dp M q) (e:a.i=b.i) (h0:a.i≠0) (hh:h≠0):WA M (p,q,h) a.i (a.t.toNat,b.t.toNat,1)
 |Zl {p q:Nat} {b:eC} (hb:b∈dp M q) (h0:b.i=0):WA M (p,q,1) 0 (p,b.t.toNat,1)
def Inc(l l':List Nat):Prop:=∀r a,l++r≠l'++a
theorem Inc.app{l l':List Nat}(h:Inc l l')(u v:List Nat):Inc (l++u) (l'++v):=λr a=>by
 rw[bP,bP];exact h _ _
theorem Inc.fork(l:List Nat){i k:Nat}(n:i≠k):Inc (l++[i]) (l++[k]):=λr a e=>by
 rw[bP,bP]at e;have:=List.append_cancel_left e;injection this with h
 exact n h
theorem Inc.ne{l l':List Nat}(h:Inc l l'):l≠l':=λe=>h [] [] (by rw[e])
def Rel(M:cm)(x:List Int):Nat×Nat×Nat->Prop
 |(p,q,0)=>p=q/\∃l y,iR M M.start.toNat l p x y
 |(p,q,1)=>∃l l' y z,iR M M.start.toNat l p x y/\iR M M.start.toNat l' q x z/\Inc l l'
 |(p,q,_)=>∃l l' y z i r a,iR M M.start.toNat l p x y/\iR M M.start.toNat l' q x z/\l=l'++i::r/\(dp M q)[i]?=aa a/\a.i=0
section
variable {M:cm}
theorem Rel.step{x:List Int}{k k':Nat×Nat×Nat}{c:Int}(f:Rel M x k)(C:WA M k c k'):Rel M (x++opt c []) k':=by
 cases C with
 | @sil p q h a o s=>
  rw[gx,cp];obtain⟨i,u⟩:=getElem?_of_mem o
  match h,f with
  |0,f=>
   obtain⟨rfl,l,y,r⟩:=f;have d:=r.snoc u;rw[s,gx,cp]at d;exact⟨_,l,_,y,i,[],a,d,r,rfl,u,s⟩
  |1,f=>
   obtain⟨l,l',y,z,r,m,n⟩:=f;have d:=r.snoc u;rw[s,gx,cp]at d;have:=n.app [i] [];rw[cp]at this;exact⟨_,_,_,_,d,m,this⟩
  |h+2,f=>
   obtain⟨l,l',y,z,j,t,b,r,m,n,g,A⟩:=f;have d:=r.snoc u;rw[s,gx,cp]at d;exact⟨_,l',_,z,j,t++[i],b,d,m,by rw[n];simp,g,A⟩
 |@same p q i a b o g e=>
  obtain⟨rfl,l,y,r⟩:=f;obtain rfl:=aG (o.symm.trans g);exact⟨rfl,_,_,r.snoc o⟩
 |@fork p q i k a b o g e n=>
  obtain⟨rfl,l,y,r⟩:=f;have d:=r.snoc g;rw[<-e]at d;exact⟨_,_,_,_,r.snoc o,d,Inc.fork l n⟩
 | @read p q h a b o g e s D=>
  obtain⟨i,u⟩:=getElem?_of_mem o;obtain⟨k,v⟩:=getElem?_of_mem g
  match h,f with
  |0,f=>exact absurd rfl D
  |1,f=>
   obtain⟨l,l',y,z,r,m,n⟩:=f;have d:=m.snoc v;rw[<-e]at d;exact⟨_,_,_,_,r.snoc u,d,n.app _ _⟩
  | h+2,f=>
   obtain⟨l,l',y,z,j,t,c,r,m,n,hc,B⟩:=f;have d:=m.snoc v;rw[<-e]at d;have w:j≠k:=λE=>by
    rw[E,v]at hc;obtain rfl:=aG hc;exact s (e.trans B)
   have:=(Inc.fork l' w).app (t++[i]) [];rw[cp,bP]at this;refine⟨_,_,_,_,r.snoc u,d,?_⟩;rw[n];simpa using this
 |@Zl p q b g s=>
  rw[gx,cp];obtain⟨k,v⟩:=getElem?_of_mem g;obtain⟨l,l',y,z,r,m,n⟩:=f;have d:=m.snoc v;rw[s,gx,cp]at d;have:=n.app [] [k];rw[cp]at this;exact⟨_,_,_,_,r,d,this⟩
theorem Rel.end_{x:List Int}{p q h:Nat}(a:Rel M x (p,q,h))(g:h≠0)(f:jD M p)(d:jD M q):∃l l' y z,A2 M l x y/\A2 M l' x z/\l≠l':=by
 match h,a with
 |0,_=>exact absurd rfl g
 |1,a=>
  obtain⟨l,l',y,z,r,b,n⟩:=a;exact⟨l,l',y,z,⟨_,r,f⟩,⟨_,b,d⟩,n.ne⟩
 |h+2,a=>
  obtain⟨l,l',y,z,j,t,c,r,b,n,hc,i⟩:=a;refine⟨l,l',y,z,⟨_,r,f⟩,⟨_,b,d⟩,λe=>?_⟩;rw[e]at n;have:=congrArg List.length n;simp at this
section
variable {P:Nat×Nat×Nat->Prop} (hc: ∀ k c k',P k->WA M k c k'->P k')
include hc
theorem I9:∀(n:Nat){l l':List Nat},l.length+l'.length<=n->∀{p q e j:Nat}{x y z:List Int},P (p,q,1)->iR M p l e x y->iR M q l' j x z->P (e,j,1):=by
 intro n
 induction n with
 |zero=>
  intro l l' u p q e j x y z o r g;obtain rfl:l=[]:=bE (by omega);obtain rfl:l'=[]:=bE (by omega);obtain⟨rfl,rfl,rfl⟩:=r.oL;obtain⟨rfl,_,rfl⟩:=g.oL;exact o
 | succ n D=>
  intro l l' u p q e j x y z o r g;have B:∀{i:Nat}{f:List Nat}{a:eC}{s v:List Int},l'=i::f->(dp M q)[i]?=aa a->a.i=0->iR M a.t.toNat f j s v->x=opt a.i s->P (e,j,1):=by
   intro i f a s v H w d m c;rw[d,gx]at c;subst c;exact D (l:=l) (l':=f) (by rw[H,bU]at u;omega) (hc _ _ _ o (.Zl (aM w) d)) r m
  cases l with
  | nil=>
   obtain⟨rfl,rfl,rfl⟩:=r.oL
   cases l' with
   |nil=>
    obtain⟨rfl,_,rfl⟩:=g.oL;exact o
   |cons k C=>
    obtain⟨b,s,v,t,m,c,J⟩:=g.cons_inv;by_cases d:b.i=0
    ·exact B rfl t d m c
    ·rw[ji d]at c;cases c
  | cons i f=>
   obtain⟨a,s,v,w,m,c,J⟩:=r.cons_inv;by_cases d:a.i=0
   ·rw[d,gx]at c;subst c;exact D (l:=f) (l':=l') (by rw[bU]at u;omega) (hc _ _ _ o (.sil (aM w) d)) m g
   ·cases l' with
    |nil=>
     obtain⟨_,E,_⟩:=g.oL;rw[ji d,E]at c;cases c
    | cons k C=>
     obtain⟨b,N,L,t,F,A,K⟩:=g.cons_inv;by_cases G:b.i=0
     ·exact B rfl t G F A
     ·have h:=c.symm.trans A;rw[ji d,ji G]at h;injection h with I h
      subst h;exact D (l:=f) (l':=C) (by simp only[bU]at u;omega) (hc _ _ _ o (.read (aM w) (aM t) I d (by decide))) m F
theorem yj:∀(l:List Nat){l':List Nat}{p q e n:Nat}{x y z:List Int},P (p,q,2)->iR M p l e x y->iR M q l' n x z->(∀k t,l'=k::t->∀b,(dp M q)[k]?=aa b->b.i≠0)->∃h,h≠0/\P (e,n,h)
 | [],l',p,q,e,n,x,y,z,o,r,f,m=>by
  obtain⟨rfl,rfl,rfl⟩:=r.oL
  cases l' with
  |nil=>
   obtain⟨rfl,_,rfl⟩:=f.oL;exact⟨2,by decide,o⟩
  |cons k t=>
   obtain⟨b,C,A,j,s,c,F⟩:=f.cons_inv;rw[ji (m _ _ rfl b j)]at c;cases c
 | i::l,l',p,q,e,n,x,y,z,o,r,f,m=>by
  obtain⟨a,C,A,v,s,c,F⟩:=r.cons_inv;by_cases g:a.i=0
  ·rw[g,gx]at c;subst c;exact yj l (hc _ _ _ o (.sil (aM v) g)) s f m
  ·cases l' with
   |nil=>
    obtain⟨_,u,_⟩:=f.oL;rw[ji g,u]at c;cases c
   |cons k t=>
    obtain⟨b,I,H,j,B,w,G⟩:=f.cons_inv;have D:=m _ _ rfl b j;have d:=c.symm.trans w;rw[ji g,ji D]at d;injection d with E d
    subst d;exact⟨1,by decide,I9 hc _ (aT _) (hc _ _ _ o (.read (aM v) (aM j) E g (by decide))) s B⟩
theorem OY:∀(l:List Nat){l':List Nat}{p e u:Nat}{x y z:List Int},P (p,p,0)->iR M p l e x y->iR M p l' u x z->l≠l'->∃h,h≠0/\(P (e,u,h)\/P (u,e,h))
 | [],l',p,e,u,x,y,z,q,r,B,D=>by
  cases l' with
  |nil=>exact absurd rfl D
  |cons k G=>
   obtain⟨rfl,rfl,rfl⟩:=r.oL;obtain⟨b,F,I,s,t,g,O⟩:=B.cons_inv;by_cases d:b.i=0
   ·rw[d,gx]at g;subst g;obtain⟨h,v,j⟩:=yj hc G (hc _ _ _ q (.sil (aM s) d)) t (.nil p) (λ_ _ e=>by cases e);exact⟨h,v,.inr j⟩
   ·rw[ji d]at g;cases g
 | i::l,l',p,e,u,x,y,z,q,r,B,D=>by
  obtain⟨a,F,I,o,t,g,O⟩:=r.cons_inv
  cases l' with
  |nil=>
   obtain⟨rfl,rfl,rfl⟩:=B.oL;by_cases d:a.i=0
   ·rw[d,gx]at g;subst g;obtain⟨h,v,j⟩:=yj hc l (hc _ _ _ q (.sil (aM o) d)) t (.nil p) (λ_ _ e=>by cases e);exact⟨h,v,.inl j⟩
   ·rw[ji d]at g;cases g
  | cons k G=>
   obtain⟨b,H,R,s,E,w,Q⟩:=B.cons_inv;have f:=g.symm.trans w;by_cases C:i=k
   ·subst C;obtain rfl:=aG (o.symm.trans s);have n:F=H:=by
     by_cases d:a.i=0
     ·rw[d,gx,gx]at f;exact f
     ·rw[ji d,ji d]at f;injection f
    subst n;exact OY l (hc _ _ _ q (.same o o rfl)) t E (λe=>D (by rw[e]))
   ·by_cases m:a.i=b.i
    ·have n:F=H:=by
      by_cases d:a.i=0
      ·rw[<-m,d,gx,gx]at f;exact f
      ·rw[<-m,ji d,ji d]at f;injection f
     subst n;exact⟨1,by decide,.inl (I9 hc _ (aT _) (hc _ _ _ q (.fork o s m C)) t E)⟩
    ·by_cases d:a.i=0
     ·rw[d,gx]at g;subst g;obtain⟨h,v,j⟩:=yj hc l (hc _ _ _ q (.sil (aM o) d)) t B (λk' N e c A=>by
       injection e with n e2
       subst n;obtain rfl:=aG (s.symm.trans A);exact λe=>m (d.trans e.symm))
      exact⟨h,v,.inl j⟩
     ·by_cases j:b.i=0
      ·rw[j,gx]at w;subst w;obtain⟨h,J,K⟩:=yj hc G (hc _ _ _ q (.sil (aM s) j)) E r (λk' N e c A=>by
        injection e with n e2
        subst n;obtain rfl:=aG (o.symm.trans A);exact d)
       exact⟨h,J,.inr K⟩
      ·rw[ji d,ji j]at f;injection f with L f
       exact absurd L m
theorem aam(g:P (M.start.toNat,M.start.toNat,0))(b:∀p q h,P (p,q,h)->h≠0->jD M p->jD M q->False):Bl M:=by
 rintro l l' x y z ⟨e,r,f⟩ ⟨j,i,d⟩;refine Classical.byContradiction λn=>?_;obtain⟨h,c,a|a⟩:=OY hc l g r i n
 ·exact b _ _ _ a c f d
 ·exact b _ _ _ a c d f
end
end
structure Wv(N M:cm)(D:Nat->Prop)(φ:Nat->Nat)(ψ:Nat->Nat->Nat):Prop where
 start:D N.start.toNat/\φ N.start.toNat=M.start.toNat
 arc:∀s i a,D s->(dp N s)[i]?=aa a->D a.t.toNat/\∃b,(dp M (φ s))[ψ s i]?=aa b/\b.i=a.i/\b.o=a.o/\b.t.toNat=φ a.t.toNat
 inj:∀s i j a b,D s->(dp N s)[i]?=aa a->(dp N s)[j]?=aa b->ψ s i=ψ s j->i=j
 fin:∀s,D s->jD N s->jD M (φ s)
def Wq(N:cm)(ψ:Nat->Nat->Nat):Nat->List Nat->List Nat
 |_,[]=>[]
 |s,i::l=>ψ s i::Wq N ψ (((dp N s).getD i q0).t.toNat) l
section
variable {N M:cm} {D:Nat->Prop} {φ:Nat->Nat} {ψ:Nat->Nat->Nat}
theorem Wv.run(h:Wv N M D φ ψ){s e:Nat}{l:List Nat}{x y:List Int}(r:iR N s l e x y):D s->D e/\iR M (φ s) (Wq N ψ s l) (φ e) x y:=by
 induction r with
 |nil=>exact λd=>⟨d,.nil _⟩
 |@cons s i e a l x y f r n=>
  intro d;obtain⟨j,b,g,k,p,o⟩:=h.arc s i a d f;obtain⟨m,c⟩:=n j;have q:(dp N s).getD i q0=a:=by rw[gD,f];rfl
  refine⟨m,?_⟩;rw[<-o]at c;have:=iR.cons g c;rw[k,p]at this;rw[Wq,q];exact this
theorem Wv.Ld(h:Wv N M D φ ψ):∀(l l':List Nat){s e n:Nat}{x y q k:List Int},D s->iR N s l e x y->iR N s l' n q k->Wq N ψ s l=Wq N ψ s l'->l=l'
 |[],[],_,_,_,_,_,_,_,_,_,_,_=>rfl
 |[],_::_,_,_,_,_,_,_,_,_,_,_,e=>by cases e
 |_::_,[],_,_,_,_,_,_,_,_,_,_,e=>by cases e
 |i::l,j::l',s,_,_,_,_,_,_,d,r,u,e=>by
  obtain⟨a,_,_,c,o,_,_⟩:=r.cons_inv;obtain⟨b,_,_,f,p,_,_⟩:=u.cons_inv;rw[Wq,Wq]at e;injection e with m g
  obtain rfl:=h.inj s i j a b d c f m;obtain rfl:=aG (c.symm.trans f);have t:(dp N s).getD i q0=a:=by rw[gD,c];rfl
  rw[t]at g;rw[h.Ld l l' (h.arc s i a d c).1 o p g]
theorem Wv.acc(h:Wv N M D φ ψ){l:List Nat}{x y:List Int}(a:A2 N l x y):A2 M (Wq N ψ N.start.toNat l) x y:=by
 obtain⟨e,r,f⟩:=a;obtain⟨d,b⟩:=h.run r h.start.1;rw[h.start.2]at b;exact⟨_,b,h.fin _ d f⟩
theorem Wv.func(h:Wv N M D φ ψ)(f:RZ M):RZ N:=λl l' x y z a b=>f _ _ _ _ _ (h.acc a) (h.acc b)
theorem Wv.ac4(h:Wv N M D φ ψ)(f:Bl M):Bl N:=λl l' x y z a b=>by
 have:=f _ _ _ _ _ (h.acc a) (h.acc b);obtain⟨_,r,_⟩:=a;obtain⟨_,c,_⟩:=b;exact h.Ld l l' h.start.1 r c this
end
def NF{b c:Type}(f:b->Option c):List b->Nat->Nat
 |[],_=>0
 |a::l,0=>if(f a).isSome then 0 else NF f l 0+1
 |a::l,j+1=>if(f a).isSome then NF f l j+1 else NF f l (j+1)+1
theorem BM{f:A->Option B}{a:A}(h:f a=none)(l:List A)(j:Nat):NF f (a::l) j=NF f l j+1:=by
 cases j<;>simp[NF,h]
theorem BN{f:A->Option B}{a:A}{b:B}(h:f a=aa b)(l:List A):NF f (a::l) 0=0:=by simp[NF,h]
theorem uC{f:A->Option B}{a:A}{b:B}(h:f a=aa b)(l:List A)(j:Nat):NF f (a::l) (j+1)=NF f l j+1:=by simp[NF,h]
theorem Qm{k m:Type}(f:k->Option m):∀(l:List k){j:Nat}{b:m},(l.filterMap f)[j]?=aa b->∃a,l[NF f l j]?=aa a/\f a=aa b
 |[],j,b,h=>by simp at h
 | a::l,j,b,h=>by
  rw[kO]at h
  cases d:f a with
  |none=>
   rw[d]at h;obtain⟨g,e,i⟩:=Qm f l h;exact⟨g,by rw[BM d];exact e,i⟩
  | some c=>
   rw[d]at h;dsimp only at h
   cases j with
   |zero=>
    obtain rfl:c=b:=by simpa using h
    exact⟨a,by rw[BN d];rfl,d⟩
   |succ j=>
    obtain⟨g,e,i⟩:=Qm f l (j:=j) (by simpa using h);exact⟨g,by rw[uC d];exact e,i⟩
theorem K4{i m:Type}(f:i->Option m):∀(l:List i){j k:Nat},j<(l.filterMap f).length->k<(l.filterMap f).length->NF f l j=NF f l k->j=k
 |[],j,k,h,_,_=>by simp at h
 | a::l,j,k,g,d,e=>by
  rw[kO]at g d
  cases b:f a with
  |none=>
   rw[b]at g d;rw[BM b,BM b]at e;exact K4 f l g d (by simpa using e)
  | some c=>
   rw[b]at g d
   cases j with
   |zero=>
    cases k with
    |zero=>rfl
    |succ k=>rw[BN b,uC b]at e;omega
   | succ j=>
    cases k with
    |zero=>rw[BN b,uC b]at e;omega
    |succ k=>
     rw[uC b,uC b]at e;simp only[bU]at g d;have:=K4 f l (j:=j) (k:=k) (by omega) (by omega) (by simpa using e);omega
theorem Sw{g n:Type}(f:g->Option n):∀(l:List g){i:Nat}{a:g}{b:n},l[i]?=aa a->f a=aa b->∃j,(l.filterMap f)[j]?=aa b/\NF f l j=i
 |[],i,a,b,h,_=>by simp at h
 |x::l,0,a,b,h,d=>by
  obtain rfl:x=a:=by simpa using h
  exact⟨0,by rw[kO,d];rfl,BN d l⟩
 |x::l,i+1,a,b,h,d=>by
  obtain⟨j,k,m⟩:=Sw f l (i:=i) (by simpa using h) d
  cases e:f x with
  |none=>exact⟨j,by rw[kO,e];exact k,by rw[BM e,m]⟩
  |some c=>exact⟨j+1,by rw[kO,e];exact k,by rw[uC e,m]⟩
end
section
def RX(P:aO)(a:Option aJ)(h:au)(K:ag->au->Prop):Prop:=yX (eN P (λ_=> .pointer a) ⟨none,.nilCheck (.tmp 0),0,"",#[],none⟩) h K
theorem sL{a:aJ}{K:ag->au->Prop}(b:K (bw a) h):RX P (aa a) h K:=b
abbrev jm:=List (Nat×eA)
def keys(L:List jm):List Nat:=L.flatten.map (·.1)
structure OL(h0 g:au)(L:List jm):Prop where
 ok:Ok h0 g
 nd:(keys L).Nodup
 lo:∀k∈keys L,h0.aD<=k
 at_:∀p∈L.flatten,g.get p.1=aa p.2
def Im(g:au)(L:List jm)(k:Nat)(B:eA):Prop:=g.get k=aa B/\k∉keys L
def pz(g:au)(L:List jm)(g':au)(a:List jm):Prop:=∀k B,Im g L k B->Im g' a k B
theorem pz.refl(g:au)(L:List jm):pz g L g L:=λ_ _ h=>h
theorem pz.trans{g g' d:au}{L e c:List jm}(a:pz g L g' e)(b:pz g' e d c):pz g L d c:=λk B h=>b k B (a k B h)
theorem sZ(A B:List jm):keys (A++B)=keys A++keys B:=by grind[keys]
theorem uE(G:jm):keys [G]=G.map (·.1):=by grind[keys]
theorem O9{b:Type}:∀{L:List b}{i:Nat}{G:b},L[i]?=aa G->∀a,∃A B,L=A++[G]++B/\L.set i a=A++[a]++B
 |[],_,_,h,_=>by grind
 |x::L,0,G,h,a=>by
  obtain rfl:x=G:=by grind
  exact⟨[],L,rfl,rfl⟩
 |x::L,i+1,G,h,a=>by
  obtain⟨A,B,c,d⟩:=O9 (L:=L) (i:=i) (by simpa using h) a
  grind
theorem mem_keys{L:List jm}{p:Nat×eA}(h:p∈L.flatten):p.1∈keys L:=cI.2 ⟨p,h,rfl⟩
section
variable {h0 g g':au} {L:List jm}
theorem OL.lt(o:OL h0 g L){k:Nat}(a:k∈keys L):k<g.aD:=by
 obtain⟨p,b,rfl⟩:=cI.1 a;exact o.ok.wf _ _ (o.at_ p b)
theorem OL.nil(a:Ok h0 g):OL h0 g []:=⟨a,List.nodup_nil,λk b=>by grind[keys],λp c=>by grind⟩
theorem OL.mem{G:jm}(a:L[i]?=aa G){p:Nat×eA}(b:G[j]?=aa p):p∈L.flatten:=List.mem_flatten.2 ⟨G,aM a,aM b⟩
theorem OL.get(o:OL h0 g L)(i:Nat){k:Nat}{B:eA}(a:L[i]?=aa [(k,B)]):g.get k=aa B:=o.at_ (k,B) (OL.mem a (j:=0) rfl)
theorem OL.old(w:Wf h0)(o:OL h0 g L){k:Nat}{B:eA}(a:h0.get k=aa B):Im g L k B:=⟨o.ok.ext _ _ a,λh=>by have:=o.lo k h;have:=w _ _ a;omega⟩
theorem OL.aeU(o:OL h0 g L){i:Nat}{G c:jm}(t:L[i]?=aa G)(v:Ok h0 g')(y:∀p∈c,g'.get p.1=aa p.2)(F:(c.map (·.1)).Nodup)(e:∀k∈c.map (·.1),k∈G.map (·.1)\/g.aD<=k)(d:∀k B,g.get k=aa B->k∉G.map (·.1)->g'.get k=aa B):OL h0 g' (L.set i c)/\pz g L g' (L.set i c):=by
 obtain⟨A,B,l,u⟩:=O9 t c;rw[u];have w:keys L=keys A++G.map (·.1)++keys B:=by rw[l,sZ,sZ,uE]
 have f:keys (A++[c]++B)=keys A++c.map (·.1)++keys B:=by rw[sZ,sZ,uE]
 have j:=o.nd;rw[w]at j;obtain⟨q,H,n⟩:=fx.1 j;obtain⟨I,E,s⟩:=fx.1 q;have z:∀k∈keys A,k<g.aD:=λk a=>o.lt (by grind);have D:∀k∈keys B,k<g.aD:=λk a=>o.lt (by grind);have x:∀k∈keys A,k∉G.map (·.1):=λk a h=>s k a k h rfl;have r:∀k∈keys B,k∉G.map (·.1):=λk a h=>n k (List.mem_append_right _ h) k a rfl;refine⟨⟨v,?_,λk a=>?_,λp b=>?_⟩,λk C m=>⟨d k C m.1 λh=>m.2 (by grind),λh=>?_⟩⟩
 ·grind
 ·rw[f]at a;rcases bG.1 a with a|a
  ·rcases bG.1 a with a|a
   ·exact o.lo k (by grind)
   ·rcases e k a with h|h
    ·exact o.lo k (by grind)
    ·have:=o.ok.nx;omega
  ·exact o.lo k (by grind)
 ·rw[ie,ie]at b;rcases bG.1 b with b|b
  ·rcases bG.1 b with b|b
   ·exact d _ _ (o.at_ p (by rw[l,ie,ie];simp[b])) (x _ (mem_keys b))
   grind
  ·exact d _ _ (o.at_ p (by grind)) (r _ (mem_keys b))
 ·rw[f]at h;rcases bG.1 h with h|h
  ·rcases bG.1 h with h|h
   ·exact m.2 (by grind)
   ·rcases e k h with h|h
    ·exact m.2 (by grind)
    ·have:=o.ok.wf _ _ m.1;omega
  ·exact m.2 (by grind)
theorem OL.set(e:Wf h0)(o:OL h0 g L)(i:Nat){k:Nat}{B:eA}(b:L[i]?=aa [(k,B)])(a:eA):OL h0 (g.set k a) (L.set i [(k,a)])/\pz g L (g.set k a) (L.set i [(k,a)]):=by
 have c:k∈keys L:=mem_keys (OL.mem b (j:=0) (p:=(k,B)) rfl);refine o.aeU b (o.ok.set _ (o.lo k c) (o.lt c) e) (λp h=>?_) (by simp) (λj d=> .inl (by simpa using d)) (λj C d f=>?_)
 all_goals simp_all[au.cE]
theorem OL.E8(b:Wf h0)(o:OL h0 g L)(i:Nat){k:Nat}{B:eA}(c:L[i]?=aa [(k,B)])(a:eA):OL h0 ((ek.set k a).app g) (L.set i [(k,a)])/\pz g L ((ek.set k a).app g) (L.set i [(k,a)]):=o.set b i c a
theorem OL.more(o:OL h0 g L){G:jm}(n:Ok h0 g')(q:∀p∈G,g'.get p.1=aa p.2)(i:(G.map (·.1)).Nodup)(b:∀k∈G.map (·.1),g.aD<=k)(c:∀k B,g.get k=aa B->g'.get k=aa B):OL h0 g' (L++[G])/\pz g L g' (L++[G]):=by
 have f:keys (L++[G])=keys L++G.map (·.1):=by rw[sZ,uE]
 refine⟨⟨n,?_,λk a=>?_,λp d=>?_⟩,λk C m=>⟨c k C m.1,λh=>?_⟩⟩
 ·rw[f];refine fx.2 ⟨o.nd,i,λk a j l e=>?_⟩;subst e;have:=b k l;have:=o.lt a;omega
 ·rw[f]at a;rcases bG.1 a with a|a
  ·exact o.lo k a
  ·have:=b k a;have:=o.ok.nx;omega
 ·rw[ie]at d;rcases bG.1 d with d|d
  ·exact c _ _ (o.at_ p d)
  grind
 ·rw[f]at h;rcases bG.1 h with h|h
  ·exact m.2 h
  ·have:=b k h;have:=o.ok.wf _ _ m.1;omega
theorem OL.push(o:OL h0 g L)(B:eA):OL h0 (g.push B) (L++[[(g.aD,B)]])/\pz g L (g.push B) (L++[[(g.aD,B)]]):=by
 refine o.more (o.ok.push B) (λp b=>?_) (by simp) (λk a=>by grind) (λk C a=>?_)
 ·simp_all[au.cY]
 ·rw[au.cY,iN (λe=>by have:=o.ok.wf _ _ a;omega)];omega
theorem OL.none(o:OL h0 g L):OL h0 g (L++[[]])/\pz g L g (L++[[]]):=o.more o.ok (λp b=>by grind) (by simp) (λk a=>by grind) (λ_ _ h=>h)
theorem OL.grow(o:OL h0 g L)(e:Ok g g'):OL h0 g' L/\pz g L g' L:=⟨⟨o.ok.trans e,o.nd,o.lo,λp a=>e.ext _ _ (o.at_ p a)⟩,λk B m=>⟨e.ext _ _ m.1,m.2⟩⟩
theorem OL.new(o:OL h0 g L){k:Nat}{B:eA}(b:g.aD<=k)(a:g'.get k=aa B):Im g' L k B:=⟨a,λh=>by have:=o.lt h;omega⟩
theorem OL.Lc(o:OL h0 g L)(B:eA):Im (g.push B) L g.aD B:=o.new (aT _) (by rw[au.cY,iP rfl])
theorem OL.left{A:List jm}(o:OL h0 g (L++A)):OL h0 g L/\pz g (L++A) g L:=by
 have a:keys (L++A)=keys L++keys A:=sZ ..;refine⟨⟨o.ok,?_,λk b=>o.lo k (by rw[a];simp[b]),λp c=>o.at_ p (by rw[ie];simp[c])⟩,λk B m=>⟨m.1,λh=>m.2 (by rw[a];simp[h])⟩⟩;have:=o.nd
 grind
end
def gQ(e:aF)(sz:Nat)(v:ag)(rs:List (List ag))(G:jm):Prop:=
 (∀r∈rs,r.length=sz)/\((v=nA/\rs=[]/\G=[])\/ ∃k a cs c,v=gJ k a rs.length c/\G=[(k,.cells cs e sz af)]/\(cs.drop a).take (rs.length*sz)=rs.flatten/\dw c*sz+a=cs.length/\rs.length<=dw c)
theorem gQ.nil(e:aF)(sz:Nat):gQ e sz nA [] []:=⟨λr a=>(by grind),.inl ⟨rfl,rfl,rfl⟩⟩
theorem gQ.tB{e:aF}{sz:Nat}{v:ag}{rs:List (List ag)}{G:jm}(r:gQ e sz v rs G):∃(a:Option aJ)(c:Nat),v=ae a rs.length c:=by
 obtain⟨_,⟨rfl,rfl,_⟩|⟨k,b,cs,c,d,_⟩⟩:=r
 all_goals simp_all
theorem gQ.blk{e:aF}{sz:Nat}{v:ag}{rs:List (List ag)}{G:jm}(r:gQ e sz v rs G):G.map (·.1)=(fJ v).toList:=by
 obtain⟨_,⟨rfl,rfl,rfl⟩|⟨k,a,cs,c,rfl,rfl,_⟩⟩:=r
 ·rfl
 ·rfl
theorem gQ.made{e:aF}{sz:Nat}{rs:List (List ag)}(a:∀r∈rs,r.length=sz)(c:rs.length<fg):gQ e sz (sA k rs.length rs.length) rs [(k,.cells rs.flatten e sz af)]:=by
 have d:dw rs.length=rs.length:=by unfold dw;rw[iN (by omega)]
 have b:=sD a;exact⟨a,.inr ⟨k,0,rs.flatten,rs.length,rfl,rfl,by grind,by grind,by omega⟩⟩
section
variable {h0 g:au} {L:List jm} {e:aF} {sz:Nat} {v:ag} {rs:List (List ag)} {G:jm}
theorem gQ.own(r:gQ e sz v rs G)(o:OL h0 g L){i:Nat}(l:L[i]?=aa G):kK h0 g e sz v rs:=by
 obtain⟨f,⟨rfl,rfl,rfl⟩|⟨k,b,cs,c,rfl,rfl,d,h,m⟩⟩:=r
 ·exact kK.nil ..
 ·have a:=OL.mem l (j:=0) (p:=(k,.cells cs e sz af)) rfl;exact⟨f,.inr ⟨k,b,cs,c,rfl,o.lo k (mem_keys a),o.at_ _ a,d,h,m⟩⟩
theorem gQ.rd(r:gQ e sz v rs G)(o:OL h0 g L){i:Nat}(a:L[i]?=aa G):H0 g e sz v rs:=(r.own o a).rd
theorem gQ.of(o:kK h0 g e sz v rs):∃G,gQ e sz v rs G/\(∀p∈G,g.get p.1=aa p.2):=by
 obtain⟨b,⟨rfl,rfl⟩|⟨k,a,cs,c,rfl,l,j,d,i,f⟩⟩:=o
 ·exact⟨[],gQ.nil ..,λp h=>by grind⟩
 ·exact⟨_,⟨b,.inr ⟨k,a,cs,c,rfl,rfl,d,i,f⟩⟩,λp h=>by grind⟩
theorem gQ.nd(r:gQ e sz v rs G):(G.map (·.1)).Nodup:=by
 rw[r.blk];grind
theorem gQ.add{t:aF}{i:TypeInfo}(N:P.underlying t=aa (.slice e))(C:fI P e=aa i)(D:i.size=sz)(K:eI P T=af)(w:Wf h0)(r:gQ e sz v rs G)(o:OL h0 g L){j:Nat}(s:L[j]?=aa G){x:ag}{ns:List (List ag)}(f:gZ g sz x=aa (ns.flatten,ns.length))(p:∀r∈ns,r.length=sz)(E:ns.flatten.all eZ=af)(A:(rs.length+ns.length)*i.bytes<=70368744177664)(q:rs.length+ns.length<=1099511627776)(m:ns.length<=1\/ ∀a n c,v=ae a n c->dw c=n):
  ∃(b:Option aJ)(n c:Nat)(u:ek),cG P t T v x g=aa (ae b n c,u)/\n=rs.length+ns.length/\∃d,gQ e sz (ae b n c) (rs++ns) d/\OL h0 (u.app g) (L.set j d)/\pz g L (u.app g) (L.set j d):=by
 obtain⟨b,n,c,u,F,I,z,J,M,Q,O⟩:=(r.own o s).add N C D K w o.ok f p E A q m;obtain⟨d,l,H⟩:=gQ.of z;refine⟨b,n,c,u,F,I,d,l,o.aeU s J H l.nd (λk h=>?_) (λk B h y=>M k B h λe=>y ?_)⟩
 ·rw[l.blk]at h;rw[r.blk]
  grind
 ·rw[r.blk,e];simp
theorem gQ.put{t':aF}(t:bZ P t'=aa 1)(l:Wf h0){k a n c:Nat}(r:gQ e sz (gJ k a n c) rs G)(o:OL h0 g L){j:Nat}(h:L[j]?=aa G){i q:Nat}{x:List ag}(C:rs[i]?=aa x)(y:q<sz){v':ag}(p:eZ v'=af)(D:v'.cells = #[v']):
  ∃u:ek,bh P t' (df k (a+i*sz+q)) v' g=aa (undef,u)/\∃b,gQ e sz (gJ k a n c) (rs.set i (x.set q v')) b/\OL h0 (u.app g) (L.set j b)/\pz g L (u.app g) (L.set j b):=by
 obtain⟨u,v,z,s,A,E⟩:=(r.own o h).put t l o.ok C y p D;obtain⟨b,f,w⟩:=gQ.of z;refine⟨u,v,b,f,o.aeU h s w f.nd (λk d=> .inl ?_) (λk B d m=>A k B d λe=>m ?_)⟩
 ·rw[f.blk]at d;rw[r.blk];omega
 ·rw[r.blk,<-e];exact ba.2 rfl
end
end
theorem Oe:∀(N:Nat){l:List Nat},l.Nodup->(∀i∈l,i<N)->l.length<=N
 |0,[],_,_=>aT _
 |0,i::_,_,h=>absurd (h i (cj ..)) (dR _)
 | N+1,l,b,h=>by
  have d:(l.erase N).length<=N:=Oe N (b.erase N) λi a=>by
   have f:=h i (List.mem_of_mem_erase a);have c:i≠N:=λe=>by rw[e,b.mem_erase_iff]at a;exact a.1 rfl
   omega
  grind
section
def rr(vs:List ag):List (List ag):=vs.map λx=>[x]
theorem uJ:∀vs:List ag,(rr vs).flatten=vs
 |[]=>rfl
 |x::vs=>by
  show[x]++(rr vs).flatten=_;rw[uJ vs];rfl
theorem iX(vs:List ag):(rr vs).length=vs.length:=aH ..
theorem YC{vs:List ag}:∀r∈rr vs,r.length=1:=λr a=>by
 obtain⟨x,_,rfl⟩:=cI.1 a;rfl
theorem YA(vs a:List ag):rr (vs++a)=rr vs++rr a:=bK
def kT(e:aF)(v:ag)(vs:List ag)(G:jm):Prop:=gQ e 1 v (rr vs) G
theorem kT.nil(e:aF):kT e nA [] []:=gQ.nil e 1
section
variable {h0 g:au} {L:List jm} {e:aF} {v:ag} {vs:List ag} {G:jm}
theorem kT.tB(r:kT e v vs G):∃(a:Option aJ)(c:Nat),v=ae a vs.length c:=by
 obtain⟨a,c,h⟩:=gQ.tB r
 grind[iX]
theorem kT.rdp(r:kT e v vs G)(h:∀p∈G,g.get p.1=aa p.2):Rd g e v vs:=by
 obtain⟨_,⟨rfl,f,_⟩|⟨k,b,cs,c,d,rfl,a,i,j⟩⟩:=r
 ·have:vs=[]:=by simpa[rr]using f
  subst this;exact .inl ⟨rfl,rfl⟩
 ·rw[iX,dB,uJ]at a;rw[iX]at d;exact .inr ⟨k,b,cs,c,af,d,h _ (ba.2 rfl),a⟩
theorem OL.grp(o:OL h0 g L){i:Nat}(a:L[i]?=aa G):∀p∈G,g.get p.1=aa p.2:=λp b=>by
 obtain⟨j,c⟩:=getElem?_of_mem b;exact o.at_ p (OL.mem a c)
theorem kT.rd(r:kT e v vs G)(o:OL h0 g L){i:Nat}(a:L[i]?=aa G):Rd g e v vs:=r.rdp (o.grp a)
theorem kT.snoc{t:aF}{i:TypeInfo}(A:P.underlying t=aa (.slice e))(m:fI P e=aa i)(p:i.size=1)(w:eI P t=af)(k:Wf h0)(r:kT e v vs G)(o:OL h0 g L){j:Nat}(y:L[j]?=aa G){x:ag}(D:eZ x=af){d:Nat}(h:g.get d=aa (.cells [x] e 1 af))(C:(vs.length+1)*i.bytes<=70368744177664)(B:vs.length+1<=1099511627776):
  ∃(b:Option aJ)(n c:Nat)(u:ek),cG P t t v (sA d 1 1) g=aa (ae b n c,u)/\n=vs.length+1/\∃a,kT e (ae b n c) (vs++[x]) a/\OL h0 (u.app g) (L.set j a)/\pz g L (u.app g) (L.set j a):=by
 have f:gZ g 1 (sA d 1 1)=aa (([[x]]:List (List ag)).flatten,1):=by
  show(match g.get d with|some (.cells cs ..)=>if((cs.drop 0).take (1*1)).length=1*1 then aa ((cs.drop 0).take (1*1),1)else none|_=>none)=_;rw[h];rfl
 have z:gQ e 1 v (rr vs) G:=r;obtain⟨b,n,c,u,q,E,a,l,s⟩:=z.add A m p w k o y (ns:=[[x]]) f (λr F=>by grind) (by grind) (by grind[iX]) (by grind[iX]) (.inl (aT _));refine⟨b,n,c,u,q,by grind[iX],a,?_,s⟩;unfold kT;rw[YA];exact l
end
theorem abJ{t e:aF}(b:P.underlying t=aa (.slice e))(a:bZ P e=aa 1){k n c i:Nat}(h:i<n):aW P t (sA k n c) (aE (i:Int))=aa (df k i):=by
 rw[GI b a (by omega) (by omega)];simp
theorem Im.ld{t:aF}{d:TypeDesc}(b:P.underlying t=aa d)(a:isAgg P t=aj){g:au}{L:List jm}{k:Nat}{v:ag}{e:aF}{z:Nat}{w:Bool}(m:Im g L k (.cells [v] e z w)):aS P t g (pA k)=aa v:=ej b a m.1 (by simp)
theorem OL.abV{h0 g:au}{L A:List jm}(o:OL h0 g (L++A)):∀p∈A.flatten,Im g L p.1 p.2:=λp b=>⟨o.at_ p (by grind),λa=>by
 have:=o.nd
 grind[sZ,mem_keys]⟩
def Kw(g:au)(L:List jm)(e:aF)(v:ag)(vs:List ag):Prop:=∃G,kT e v vs G/\∀p∈G,Im g L p.1 p.2
theorem Kw.oJ{g:au}{L a:List jm}{e:aF}{v:ag}{vs:List ag}(r:Kw g L e v vs)(c:pz g L h a):Kw h a e v vs:=by
 obtain⟨G,b,d⟩:=r;exact⟨G,b,λp f=>c _ _ (d p f)⟩
theorem Kw.rd{g:au}{L:List jm}{e:aF}{v:ag}{vs:List ag}(r:Kw g L e v vs):Rd g e v vs:=by
 obtain⟨G,a,b⟩:=r;exact a.rdp λp c=>(b p c).1
theorem OL.aep{h0 g:au}{L:List jm}(o:OL h0 g L){n j:Nat}(a:j<n)(B:eA):OL h0 (cr (room g n) g.aD [(j,B)]) L/\pz g L (cr (room g n) g.aD [(j,B)]) L/\Im (cr (room g n) g.aD [(j,B)]) L (g.aD+j) B:=by
 have e:Ok g (cr (room g n) g.aD [(j,B)]):=((Ok.refl o.ok.wf).room n).set B (du _ _) (Nat.add_lt_add_left a _) o.ok.wf;have b:(cr (room g n) g.aD [(j,B)]).get (g.aD+j)=aa B:=by
  show((room g n).set (g.aD+j) B).get (g.aD+j)=_;rw[au.cE,iP rfl]
 exact⟨(o.grow e).1,(o.grow e).2,o.new (du _ _) b⟩
theorem OL.GS{h0 g:au}{L:List jm}{G:jm}(o:OL h0 g L){i:Nat}(a:L[i]?=aa G):∀p∈G,h0.aD<=p.1:=λp b=>o.lo _ (mem_keys (List.mem_flatten.2 ⟨G,aM a,b⟩))
def uZ(g a:au)(e:aF)(v:ag)(vs:List ag):Prop:=∃G,kT e v vs G/\∀p∈G,g.aD<=p.1/\a.get p.1=aa p.2
theorem uZ.im{h0 g:au}{L:List jm}{e:aF}{v:ag}{vs:List ag}(r:uZ g h e v vs)(o:OL h0 g L):Kw h L e v vs:=by
 obtain⟨G,c,a⟩:=r;exact⟨G,c,λp b=>o.new (a p b).1 (a p b).2⟩
theorem uZ.ok{g a:au}{e:aF}{v:ag}{vs:List ag}(r:uZ g h e v vs)(o:Ok h a):uZ g a e v vs:=by
 obtain⟨G,d,b⟩:=r;exact⟨G,d,λp c=>⟨(b p c).1,o.ext _ _ (b p c).2⟩⟩
theorem uZ.base{g a:au}{e:aF}{v:ag}{vs:List ag}(r:uZ g a e v vs)(o:Ok h g):uZ h a e v vs:=by
 obtain⟨G,d,b⟩:=r;exact⟨G,d,λp c=>⟨bN o.nx (b p c).1,(b p c).2⟩⟩
theorem uZ.rd{g:au}{e:aF}{v:ag}{vs:List ag}(r:uZ g h e v vs):Rd h e v vs:=by
 obtain⟨G,a,b⟩:=r;exact a.rdp λp c=>(b p c).2
theorem ZO{g:au}{e:aF}{v:ag}{vs:List ag}(r:Rd g e v vs):gZ g 1 v=aa (vs,vs.length):=by
 rcases r with⟨rfl,rfl⟩|⟨k,a,cs,c,d,rfl,f,b⟩
 ·rfl
 ·show(match g.get k with|some (.cells cs ..)=>if((cs.drop a).take (vs.length*1)).length=vs.length*1 then aa ((cs.drop a).take (vs.length*1),vs.length)else none|_=>none)=_
  grind
theorem aaW{t e:aF}{i:TypeInfo}(q:P.underlying t=aa (.slice e))(k:fI P e=aa i)(l:i.size=1)(o:eI P t=af){g:au}(w:Wf g){x:ag}{vs:List ag}(d:gZ (g.push (.cells [] e 1 af)) 1 x=aa (vs,vs.length))(m:vs.all eZ=af)(y:vs.length*i.bytes<=70368744177664)(v:vs.length<=1099511627776):
  ∃(b:Option aJ)(n c:Nat)(u:ek),cG P t t (sA g.aD 0 0) x (g.push (.cells [] e 1 af))=aa (ae b n c,u)/\uZ g (u.app (g.push (.cells [] e 1 af))) e (ae b n c) vs/\Ok g (u.app (g.push (.cells [] e 1 af))):=by
 have a:=(Ok.refl w).push (.cells [] e 1 af);have h:(g.push (.cells [] e 1 af)).get g.aD=aa (.cells [] e 1 af):=by rw[au.cY,iP rfl]
 have j:g.aD<(g.push (.cells [] e 1 af)).aD:=ff _;unfold cG;rw[q];dsimp only;rw[k];dsimp only;rw[l,iP o,d];dsimp only;rw[iP ⟨m,(dB _).symm⟩];by_cases h0:vs.length=0
 ·rw[iP h0];obtain rfl:=bE h0;exact⟨_,_,_,_,rfl,⟨[(g.aD,.cells [] e 1 af)],gQ.made (rs:=[]) (λr z=>by grind) (by decide),λp f=>by obtain rfl:=ba.1 f;exact⟨aT _,h⟩⟩,a⟩
 ·have s:dw 0=0:=by unfold dw;rw[iN (by decide)]
  rw[iN h0,s,iN (by omega)];unfold lO;rw[iP ⟨by grind,by omega⟩,h];dsimp only;rw[iP ⟨rfl,rfl,rfl⟩,iP (by decide)];refine⟨_,_,_,_,rfl,⟨[((g.push (.cells [] e 1 af)).aD,.cells ([]++vs) e 1 af)],⟨YC,.inr ⟨(g.push (.cells [] e 1 af)).aD,0,vs,fg+(0+vs.length),?_,?_,?_,?_,?_⟩⟩,λp f=>?_⟩,a.push _⟩
  ·rw[iX,bJ]
  ·rfl
  ·rw[iX,uJ,dB,bO,fi]
  ·simp[fk]
  ·simp[fk,iX]
  ·obtain rfl:=ba.1 f;refine⟨Nat.le_of_lt j,?_⟩;show((g.push _).push _).get _=_;simp[au.cY]
theorem OL.cell{t:aF}(b:bZ P t=aa 1){h0 g:au}{L:List jm}(o:OL h0 g L)(z:ag){v:ag}(a:eZ v=af)(c:v.cells = #[v]):∃u:ek,bh P t (pA g.aD) v (g.push (.cells [z] t 0 af))=aa (undef,u)/\Ok g (u.app (g.push (.cells [z] t 0 af)))/\Im (u.app (g.push (.cells [z] t 0 af))) L g.aD (.cells [v] t 0 af):=by
 have k:(g.push (.cells [z] t 0 af)).get g.aD=aa (.cells [z] t 0 af):=by rw[au.cY,iP rfl]
 have e:Ok g ((g.push (.cells [z] t 0 af)).set g.aD (.cells [v] t 0 af)):=((Ok.refl o.ok.wf).push _).set _ (aT _) (ff _) o.ok.wf;exact⟨_,kG b k (by simp) a c,e,o.new (aT _) (by show((g.push _).set _ _).get _=_;simp[au.cE])⟩
theorem Ar(L:List jm)(n:Nat):keys (L++aQ n [])=keys L:=by simp_all[keys]
theorem OL.agz{h0 g:au}{L:List jm}(o:OL h0 g L)(n:Nat):OL h0 g (L++aQ n [])/\pz g L g (L++aQ n []):=
 ⟨⟨o.ok,by rw[Ar];exact o.nd,λk a=>o.lo k (by grind[Ar]),λp b=>o.at_ p (by simp_all)⟩,λk B m=>⟨m.1,by rw[Ar];exact m.2⟩⟩
end
end Go.Ab
end
section
namespace Go.Ab
open Go Go.RowKit Go.Proofs Go.Sort Go.Shelf
variable{n:Nat}{a:Option aJ}{v:ag}{W:aU}{V:Array ag}
section
variable {β:gC} {P:aO} {gl:Nat->Bool}
theorem Ji:∀{cs:List ag}{l:List Int},abj cs=aa l->cs=l.map zV
 |[],l,h=>by obtain rfl:=aG h;rfl
 | v::r,l,h=>by
  unfold abj at h;split at h
  ·next a=>cases a
  ·next z d a=>
   injection a with a c
   subst a;subst c;obtain⟨l',b,rfl⟩:=bo.1 h;rw[Ji b];rfl
  grind
theorem Rg{c:Nat}(h:cz β (ae a n c) v):∃d b,v=ae d n b:=by
 cases h with
 |rp=>grind
 |slice=>grind
 |dead=>grind
theorem Ui{b s:Nat}{t:aF}{d:Nat×Nat}{cs:List ag}{l:List Int}(g:W.heap[b]?=aa (.cells V t d))(u:kN β cs s V)(i:XN d V.size)(h:n+l.length<=cs.length)(m:(cs.drop n).take l.length=l.map zV):Holds (aC ak) W b (s+n) l.toArray:=by
 intro j a;have a:j<l.length:=by simpa using a
 have f:(l.map zV)[j]?=aa (zV l[j]):=by rw[List.getElem?_map,gE a];rfl
 rw[<-m,getElem?_take,iP a,getElem?_drop]at f;obtain⟨v',c,k⟩:=u _ _ f;rw[k.yv rfl]at c;rw[show s+(n+j)=s+n+j by omega]at c;have e:l.toArray[j]! = l[j]:=getElem!_pos l.toArray j (by simpa using a);refine⟨by rw[rX g,c,e];rfl,?_⟩;have v:s+n+j<V.size:=(Array.getElem?_eq_some_iff.1 c).1;unfold World.frozen?;rw[g];dsimp only;obtain⟨p,o⟩:=d;rw[Bool.and_eq_false_iff];by_cases r:p<=s+n+j
 ·right;have:¬s+n+j<o:=λq=>by
   have:=i (s+n+j) r q;omega
  simpa using this
 grind
set_option maxHeartbeats 1000000 in
theorem ZN{S:Ren}(L:SlLaysM.n5 P S){f5:Func}(T:P.funcs[S.f 5]?=aa f5)(W:f5.body.isSome=af):pH P gl (S.f 5) Ml:=by
 intro x7 _ x4 h v h' g β w E o _ ha;refine⟨f5,T,.inl ⟨W,?_⟩⟩;unfold Ml at g;split at g
 ·next a n c=>
  obtain⟨v1,r1,e1,K,X⟩:=ha.fX;have e3:=X.jf;subst e3;have F:E = #[v1]:=by
   have:=congrArg List.toArray e1;simpa using this
  subst F;split at g
  ·next O=>
   subst O;simp only[aZ,bu]at g;obtain⟨rfl,rfl⟩:=g;obtain⟨a',Q,rfl⟩:=Rg K;refine(AnyM.slices_Sort_int_none L a' Q w).mono ?_;rintro e w' ⟨rfl,rfl⟩;exact⟨_,β,rfl,Step.refl o,.tuple rfl λi v v' h=>by simp at h⟩
  ·next O=>
   split at g
   ·next b d=>
    split at g
    ·next cs t sz s=>
     split at g
     ·next A=>
      obtain⟨l,R,he⟩:=bo.1 g;simp only[bu]at he;obtain⟨rfl,rfl⟩:=he;have Y:=Ji R;obtain⟨f,i',Q,r,V,_,rfl,x5,x9,x6,B,x8⟩:=K.lb;have B:i'=f.s+d:=by
       rcases B with h|⟨h,_⟩
       ·exact h
       ·exact absurd h O
      subst B;obtain⟨V,ht,hz,q,fr,hw,Z,N,I⟩:=o.blk _ _ _ s r;have u:((cs.drop d).take n).length=n:=by rw[bq,da];omega
      have x1:l.length=n:=by
       rw[Y,aH]at u;exact u
      subst x1;have H:=Ui (β:=β) hw N (I rfl) A.2 Y;refine(AnyM.slices_Sort_int L f.b (f.s+d) Q l w H (o.lt _ _ r).2 A.1).mono ?_;rintro e w' ⟨rfl,m,os,rfl⟩;have z:(Td l).length=l.length:=List.length_mergeSort l;have e0:(l.mergeSort λx y=>decide (x<=y))=Td l:=rfl;rw[e0];generalize Td l=l' at*;have x3:d<=cs.length:=by omega
      have p:∀i v,cs[i]?=aa v->∃v',q[f.s+i]?=aa v'/\cz β v v':=N;have G:Step β h w β (h.set b (.cells (cs.take d++l'.map zV++cs.drop (d+l.length)) t sz af)) (putRow (aC ak) (Sort.ahead w m) f.b (f.s+d) l'.toArray):=by
       refine Step.at_ o s r rfl ⟨by simp,rfl,⟨rfl,du _ _⟩,rfl,λb' U=>?_⟩ ⟨V,ht,hz,putCells (aC ak) (f.s+d) l'.toArray q,fr,?_,by simp[putCells,Z],λi v k=>?_,λ_=>by simpa[putCells]using I rfl⟩
       ·simp only[putRow,mapBlock,Array.getElem?_modify];rw[iN (Ne.symm U)];rfl
       ·simp only[putRow,mapBlock,Array.getElem?_modify,if_true,heap_ahead,hw,gf,onCells]
       ·have x2:∀j,(putCells (aC ak) (f.s+d) l'.toArray q)[j]?=(q[j]?).map λx=>if f.s+d<=j/\j<f.s+d+l.length then aC ak (l'.toArray[j-(f.s+d)]!)else x:=λj=>by
         simp only[putCells,Array.getElem?_mapIdx,List.size_toArray,z]
        rw[x2];have hf:(l'.map zV).length=l.length:=by rw[aH,z]
        have x0:(cs.take d).length=d:=by rw[bq];omega
        rw[bP,List.getElem?_append,x0]at k;split at k
        ·next hi=>
         rw[getElem?_take,iP hi]at k;obtain⟨v',C,D⟩:=p i v k;rw[C];exact⟨v',by simp only[gf];rw[iN (by omega)],D⟩
        ·next hi=>
         rw[List.getElem?_append,hf]at k;split at k
         ·next M=>
          have g0:i<cs.length:=by omega
          obtain⟨v',C,D⟩:=p i _ (gE g0);rw[C];simp only[gf];rw[iP (by omega)];have J:i-d<l'.length:=by rw[z];exact M
          rw[List.getElem?_map,gE J]at k;obtain rfl:=aG k;refine⟨_,rfl,?_⟩;rw[show f.s+i-(f.s+d)=i-d by omega];have e:l'.toArray[i-d]! = l'[i-d]:=getElem!_pos l'.toArray (i-d) (by simpa using J);rw[e];exact .Cg rfl
         ·next M=>
          rw[getElem?_drop,show d+l.length+(i-d-l.length)=i by omega]at k;obtain⟨v',C,D⟩:=p i v k;rw[C];exact⟨v',by simp only[gf];rw[iN (by omega)],D⟩
      refine⟨_,β,rfl,G.trans (zS G.um ⟨rfl,rfl,rfl,by rw[size_grow];exact du _ _,λj hj=>heap_grow_old _ os hj⟩ (aT _)),.tuple rfl λi v v' h=>by simp at h⟩
     ·cases g
    ·cases g
   ·cases g
 grind
end
end Go.Ab
end
section
namespace Go.Ab
open Go Go.RowKit
variable{A:Type}{n:Nat}{v:ag}{T:aF}
section
variable {β:gC} {P:aO} {h:au} {w:aU}
theorem K3{e:Type}{c:Nat}:∀{a:List (List e)},(∀r∈a,r.length=c)->∀{i:Nat}{r:List e},a[i]?=aa r->∀{j:Nat},j<c->a.flatten[i*c+j]?=r[j]?
 |[],_,i,r,b,_,_=>by grind
 |x::a,d,0,r,b,j,f=>by grind
 |x::a,d,i+1,r,b,j,f=>by
  have h:=d x (cj ..);rw[List.getElem?_cons_succ]at b;have k:=K3 (λr g=>d r (cF _ g)) b f
  grind
theorem GA{d:Type}{b:Nat}:∀{a:List (List d)},(∀r∈a,r.length=b)->a.flatten.length=a.length*b
 |[],_=>by simp
 |x::a,c=>by
  have e:=c x (cj ..);rw[kg,bF,GA λr f=>c r (cF _ f),e,bU,dh];omega
theorem XJ{a:List (List A)}(b:∀r∈a,r.length=n){i:Nat}{r:List A}(c:a[i]?=aa r):(a.flatten.drop (i*n)).take n=r:=by
 have d:=b r (aM c);refine dH λj=>?_
 grind[K3]
structure zW(β:gC)(h:au)(w:aU):Prop where
 um:oV β h w
 ro:∀k B,h.get k=aa B->B.wr=aj
theorem ahF(n:Nat)(w:aU):zW β0 ⟨n,.nil⟩ w:=⟨Ta n w,λk B h=>by grind[au.get_nil]⟩
theorem zW.wf(i:zW β h w):Wf h:=i.um.wf
theorem zW.below(i:zW β h w){b:gC}{e:au}{a:aU}(s:Step β h w b e a):Below w.heap.size w a:=
 ⟨s.os,s.tape.1,s.output,s.size,λk f=>s.kept k f λ⟨k,B,g,c,d,_⟩=>by rw[i.ro k B c]at d;grind⟩
abbrev Mh(b n:Nat)(t:aF):Slot:=⟨b,0,n,t,0,aj⟩
theorem zW.fresh(i:zW β h w):β h.aD=none:=i.um.qp (aT _)
theorem zW.le(i:zW β h w)(a:Slot):β.le (β.ext h.aD a):=gC.GP a i.fresh
theorem zW.push(i:zW β h w){cs:List ag}{t:aF}{c:Array ag}{o:Nat×Nat}{b:Nat}(l:w.heap[b]?=aa (.cells c t o))(q:kN β cs 0 c):
  zW (β.ext h.aD (Mh b c.size t)) (h.push (.cells cs t 0 aj)) w:=by
 have j:=i.le (Mh b c.size t);have m:b<w.heap.size:=(Array.getElem?_eq_some_iff.1 l).1;have n:∀k B,(h.push (.cells cs t 0 aj)).get k=aa B->B.wr=aj:=λk B a=>by
  rw[au.cY]at a;split at a
  ·obtain rfl:=aG a;rfl
  ·exact i.ro k B a
 refine⟨⟨λk f a=>?_,λk B f d g=>?_,λk s B u f r _ d _ _ _ p=>?_,au.sB i.um.wf _⟩,n⟩
 ·by_cases e:k=h.aD
  ·subst e;rw[gC.fB]at a;obtain rfl:=aG a;exact⟨by simp,m⟩
  ·rw[gC.iE _ _ e]at a;have:=i.um.lt k f a;exact⟨by simp;omega,this.2⟩
 ·rw[au.cY]at d;split at d
  ·next e=>
   subst e;rw[gC.fB]at g;obtain rfl:=aG g;obtain rfl:=aG d;exact⟨rfl,rfl,⟨rfl,λ_=>rfl⟩,c,o,l,rfl,q.mono j,λp=>by cases p⟩
  ·next e=>
   rw[gC.iE _ _ e]at g;exact(i.um.blk k B f d g).mono j
 grind
theorem Nb(r:Ag P){q:bW->Option rW}{j:Nat->Bool}(u:vc P j q){f:bW}{l:Func}{b:List ag}{Q:ag->au->Prop}(p:FW ⟨P,j,q⟩ f b h Q)(x:f<YB)(m:P.funcs[f]?=aa l)(s:l.body.isSome=af)
  {args':Array ag} (i:zW β h w) (C:Gl j β) (A:dx β b args'.toList):
  Calls P f args' w λe d=>∃v v' c a,e = .returned v'/\Q v c/\cz a v v'/\Step β h w a c d/\Below w.heap.size w d:=by
 obtain⟨v,c,⟨n,B⟩,z⟩:=p;obtain⟨D,g,k⟩:=(r.ahX u n).fn f b h v c x (B n (aT _)) β w args' i.um C A;rw[m]at g;obtain rfl:=aG g;rcases k with⟨_,k⟩|⟨v',d,a,y,_,_⟩
 ·refine k.mono ?_;rintro e d ⟨v',a,rfl,o,t⟩;exact⟨v,v',c,a,rfl,z,t,o,i.below o⟩
 ·rw[lW r.names m s]at y
  grind
def I4(w:aU)(v:ag)(f:Nat)(c:List (List ag)):Prop:=
 (∀r∈c,r.length=f)/\((v=nA/\c=[])\/(∃a,v=ae (aa a) 0 0/\c=[])\/
  ∃b e d cs t g,v=gJ b e c.length d/\c.length<=d/\d<fg/\w.heap[b]?=aa (.cells cs t g)/\e<=cs.size/\
   ∀(i:Nat)(r:List ag),c[i]?=aa r->∀j,j<f->cs[e+(i*f+j)]?=r[j]?)
theorem zW.Zh(i:zW β h w){f:Nat}{e:aF}{l d:List (List ag)}{b a g:Nat}{cs:Array ag}{t:aF}{J:Nat×Nat}(C:∀r∈d,r.length=f)(G:l.length=d.length)
  (x:∀(k:Nat) r E,l[k]?=aa r->d[k]?=aa E->dx β r E) (P:d.length<=g) (O:g<fg) (F:w.heap[b]?=aa (.cells cs t J)) (Q:a<=cs.size)
  (R:∀(i:Nat)(r:List ag),d[i]?=aa r->∀j,j<f->cs[a+(i*f+j)]?=r[j]?):
  ∃s y,zW s y w/\β.le s/\Ok h y/\cz s (gJ h.aD a l.length g) (gJ b a d.length g)/\H0 y e f (gJ h.aD a l.length g) l:=by
 have p:∀r∈l,r.length=f:=λr A=>by
  obtain⟨k,o,rfl⟩:=List.getElem_of_mem A;have I:d[k]?=aa d[k]:=gE (by omega);rw[(x k _ _ (gE o) I).1]
  grind
 have u:kN β (aQ a qd++l.flatten) 0 cs:=λk v m=>by
  rw[bJ];rw[List.getElem?_append]at m;split at m
  ·next o=>
   rw[bX]at o;rw[List.getElem?_replicate,iP o]at m;obtain rfl:=aG m;exact⟨_,Array.getElem?_eq_getElem (by omega),.qd _⟩
  ·next o=>
   rw[bX]at o m;have q:=(List.getElem?_eq_some_iff.1 m).1;rw[GA p]at q;rcases dv f with z|z
   ·subst z;simp at q
   have H:k-a=(k-a)/f*f+(k-a)%f:=by rw[cS];exact(Nat.div_add_mod _ _).symm
   have L:=dJ (k-a) z;have K:(k-a)/f<l.length:=eB (by rw[cS];exact q);have D:l[(k-a)/f]?=aa l[(k-a)/f]:=gE K;have B:d[(k-a)/f]?=aa d[(k-a)/f]:=gE (by omega);rw[H,K3 p D L]at m;have A:=x _ _ _ D B;have N:=C _ (aM B);have M:d[(k-a)/f][(k-a)%f]?=aa d[(k-a)/f][(k-a)%f]:=gE (by omega);refine⟨_,?_,A.2 _ _ _ m M⟩
   grind
 refine⟨_,_,i.push F u,i.le _,(Ok.refl i.wf).push _,?_,p,.inr ⟨h.aD,a,_,t,0,g,aj,rfl,au.mg _ _,?_,λk r o=>?_⟩⟩
 ·have:=cz.slice (β:=β.ext h.aD (Mh b cs.size t)) (i:=a) (n:=l.length) (c:=g) (i':=a) (c':=g) (gC.fB _ _ _) rfl (λ_=>rfl) (λh=>by omega) (by unfold dw;split<;>omega) (.inl (by simp)) (.inl rfl)
  grind
 ·grind[GA]
 ·rw[List.drop_append,bX,bV (by simp),dL,Nat.add_sub_cancel_left]
  grind[XJ]
theorem zW.row(i:zW β h w){m:Nat}{e:aF}{v':ag}{rs f:List (List ag)}(r:I4 w v' m f)(c:rs.length=f.length)(l:∀(k:Nat) r o,rs[k]?=aa r->f[k]?=aa o->dx β r o):
  ∃d g v,zW d g w/\β.le d/\Ok h g/\cz d v v'/\H0 g e m v rs:=by
 obtain⟨n,⟨rfl,rfl⟩|⟨a,rfl,rfl⟩|⟨b,z,y,cs,t,B,rfl,s,q,p,u,x⟩⟩:=r
 ·obtain rfl:rs=[]:=bE c;exact⟨β,h,_,i,β.le_refl,Ok.refl i.wf,.rp,⟨λ_ j=>absurd j (by simp),.inl ⟨.inl rfl,rfl⟩⟩⟩
 ·obtain rfl:rs=[]:=bE c;exact⟨β,h,uz,i,β.le_refl,Ok.refl i.wf,.dead a,⟨λ_ j=>absurd j (by simp),.inl ⟨.inr rfl,rfl⟩⟩⟩
 ·obtain⟨d,g,D,F,E,C,A⟩:=i.Zh (e:=e) n c l s q p u x
  grind
theorem zW.Zi(i:zW β h w){p:Nat}{e:aF}{v':ag}{rs f:List (List ag)}(r:I4 w v' p f)(c:rs.length=f.length)(o:∀(k:Nat) r u,rs[k]?=aa r->f[k]?=aa u->dx β r u)
  (B:∀a,v'=ae (aa a) 0 0->a.spot=none/\∃cs t m,w.heap[a.block]?=aa (.cells cs t m)):
  ∃d g v,zW d g w/\β.le d/\Ok h g/\cz d v v'/\H0 g e p v rs/\v≠uz:=by
 obtain⟨q,⟨rfl,rfl⟩|⟨a,rfl,rfl⟩|⟨b,s,E,cs,t,m,rfl,z,x,j,A,D⟩⟩:=r
 ·obtain rfl:rs=[]:=bE c;exact⟨β,h,_,i,β.le_refl,Ok.refl i.wf,.rp,⟨λ_ l=>absurd l (by simp),.inl ⟨.inl rfl,rfl⟩⟩,λe=>by cases e⟩
 ·obtain rfl:rs=[]:=bE c;obtain⟨y,cs,t,m,j⟩:=B a rfl;obtain⟨b,s,n⟩:=a
  cases (show n=none from y)
  have C:=i.push (cs:=[]) j (λk v F=>by grind);refine⟨_,_,sA h.aD 0 0,C,i.le _,(Ok.refl i.wf).push _,?_,⟨λ_ l=>absurd l (by simp),.inr ⟨h.aD,0,_,t,0,0,aj,rfl,au.mg _ _,by simp,λk r J=>by grind⟩⟩,λe=>by grind[uz]⟩;exact cz.slice (sl:=Mh b cs.size t) (gC.fB _ _ _) rfl (λ_=>rfl) (λh=>by omega) (by omega) (.inr ⟨rfl,rfl⟩) (.inl rfl)
 ·obtain⟨d,g,I,L,K,H,G⟩:=i.Zh (e:=e) q c o z x j A D
  grind[uz]
section
variable {H:Type} {enc:aF×ag->H} {held:Bool}
theorem Xl{a:aJ}(b:w.cell? a=aa v):a.spot=none/\∃cs t c,w.heap[a.block]?=aa (.cells cs t c)/\cs[a.off]?=aa v:=by
 unfold World.cell? at b;split at b
 all_goals simp_all
theorem pick{a:Type}{p:Nat->a->Prop}:∀n,(∀i,i<n->∃q,p i q)->∃l:List a,l.length=n/\∀i q,l[i]?=aa q->p i q
 |0,_=>⟨[],rfl,λi q b=>by grind⟩
 |n+1,c=>by
  obtain⟨l,d,f⟩:=pick n λi b=>c i (by omega);obtain⟨q,e⟩:=c n (by omega);refine⟨l++[q],by simp[d],λi x b=>?_⟩
  grind
theorem yk{e:aF}{d:DataW H}{n:Nat}:∀{l:List (DataW H)},d∈l->n∈d.weights P e->n∈DataW.weightsAll P e l
 |[],h,_=>by cases h
 |x::l,h,a=>by
  rw[DataW.weightsAll,bG];rcases cW.1 h with rfl|h
  ·grind
  ·exact .inr (yk h a)
theorem JS{t:aF}(ht:P.underlying t=aa (.slice T))(l:P.cellsOf T=n)(C:0<n){p:List ag->Prop}
  (hp:∀x0 cs y,fv enc P w 0 (λ_=>af) held x0 T cs=aa y->(y.1.weights P T).all (· <=reachBytes)=af->p cs) {E:Nat} {cv:List ag} {x:DataW H×List MemPlace}
  (h:fv enc P w 0 (λ_=>af) held E t cv=aa x) (X:(x.1.weights P t).all (· <=reachBytes)=af):
  ∃v d,cv=[v]/\I4 w v n d/\(∀r∈d,p r)/\d.length*P.bytesOf T<=reachBytes:=by
 rcases DataW.trod_slice ht h with⟨rfl,rfl⟩|⟨a,e,f,c,x1,x0,_,rfl,rfl,hb,x3,W,x5,N,G,_⟩
 ·exact⟨_,[],rfl,⟨λ_ g=>absurd g (by simp),.inl ⟨rfl,rfl⟩⟩,λ_ g=>absurd g (by simp),by simp⟩
 obtain⟨x6,G⟩:=G rfl;simp only[DataW.weights,ht,ep,bg,decide_eq_true_eq,gH,aH]at X;obtain⟨x4,q,x2⟩:=X;have K:f<fg:=by unfold maxLen at W;unfold fg;omega
 have M:∀i,i<e->∃r:List ag,(r.length=n/\p r)/\∀j,j<n->w.cell? (a.add (i*n+j))=r[j]?:=λi F=>by
  have S:=N i F;have V:c[i]?=aa c[i]:=gE (by omega);rw[V,l,Option.bind_eq_some_iff]at S;obtain⟨r,z,Z⟩:=S;obtain⟨_,h5,I⟩:=World.cells?_some z;refine⟨r,⟨h5,hp x0 r _ Z ?_⟩,λj J=>?_⟩
  ·rw[bY]at q⊢;exact λm g=>q m (yk (cI.2 ⟨c[i],aM V,rfl⟩) g)
  ·rw[<-I j J,Addr.add_add]
 obtain⟨d,Y,U⟩:=pick e M;have u:∀r∈d,r.length=n/\p r:=λr o=>by
  obtain⟨k,hk⟩:=List.mem_iff_getElem?.1 o;exact(U k r hk).1
 refine⟨_,d,rfl,⟨λr o=>(u r o).1,?_⟩,λr o=>(u r o).2,?_⟩
 ·rcases dv f with hz|hz
  ·obtain rfl:d=[]:=bE (by omega);have:e=0:=by omega
   subst this;subst hz;exact .inr (.inl ⟨a,rfl,rfl⟩)
  ·have h0:∃v,w.cell? a=aa v:=by
    have L:a.add (0*n)=a:=by rw[kj];unfold Addr.add;split<;>simp_all
    have fin:∀x,(w.cells? 0 (a.add (0*n)) n).bind (fv enc P w 0 (λ_=>af) held x0 T)=aa x->∃v,w.cell? a=aa v:=λx R=>by
     rw[Option.bind_eq_some_iff,L]at R;obtain⟨r,z,Z⟩:=R;obtain⟨_,h5,I⟩:=World.cells?_some z;have:=I 0 C;rw[show a.add 0=a by unfold Addr.add;split<;>simp_all,gE (by omega)]at this;exact⟨_,this⟩
    rcases dv e with A|A
    ·have:=G 0 (by omega);rw[A,l,gE (by omega)]at this;exact fin _ this
    ·have:=N 0 A;rw[l,gE (by omega)]at this;exact fin _ this
   obtain⟨v0,Q⟩:=h0;obtain⟨hs,cs,tt,fr,s,B⟩:=Xl Q;obtain⟨b,O,D⟩:=a
   cases (show D=none from hs)
   have ho:=(Array.getElem?_eq_some_iff.1 B).1;refine .inr (.inr ⟨b,O,f,cs,tt,fr,by rw[Y],by omega,K,s,Nat.le_of_lt ho,λi r F j J=>?_⟩);have:=(U i r F).2 j J;rw[gk,rX s]at this;exact this
 grind
end
end
end Go.Ab
end
section
namespace Go.Ab
open Go Go.RowKit Go.WideShapes Go.ChangeShapes
variable{F:Func}{W:aU}{V:Array ag}{v:ag}
section
section
variable {H:Type} {enc:aF×ag->H} {P:aO}
theorem X1{s:ChangeSpec}{f o g k:Bool}{e:aU}{ds:List (DataW H)}{places:List MemPlace}
  (m:s.vars=[]) (y:DataW.Whole enc P F.params.toList s.vars f W V.toList ds [] places) (A:Below W.heap.size W e)
  (l:(s.fn H (ds++[])).args=ds) (z:(s.fn H (ds++[])).vars=[])
  (i:∀(b:Nat)(a:Nat->Bool)(E:Bool),DataW.TrodAll enc P e b a E F.resultTypes.toList (v.resultList F.resultTypes.size) (s.fn H (ds++[])).results [])
  (B:∀(j:Nat)(t:aF)(r:ag),F.resultTypes[j]?=aa t->(v.resultList F.resultTypes.size)[j]?=aa r->Value.okWide P e .any 0 t r)
  (q:∀a:Nat->Bool,(∀p∈places,a p.block=af)->DataW.TrodAll enc P e 0 a af F.params.toList V.toList ds places):s.post enc P F f o g k W V v e:=by
 have u:∀p∈places,p.block<W.heap.size:=λp c=>y.lt p c;have n:∀p∈places,(λb=>decide (b<W.heap.size)) p.block=af:=λp c=>eT (u p c);have x:∀a:Nat->Bool,DataW.TrodVars enc P e a s.vars (s.fn H (ds++[])).vars []:=λa=>by
  rw[m,z];rfl
 have C:=World.keptBut_mono (may':=λp=>p∈places/\(p∈([]:List MemPlace)\/p∈places\/p∈([]:List MemPlace))) (λp c=>⟨c,.inr (.inl c)⟩) (A.frame (· ∈places));obtain⟨_,_,_,_,_,D,G⟩:=id y;have d:∀a:Nat->Bool,(∀p∈places,a p.block=af)->DataW.TrodAll enc P e 0 a af F.params.toList V.toList (s.fn H (ds++[])).args places:=λa h=>by rw[l];exact q a h
 refine⟨ds,[],places,[],places,[],y,i _ _ _,d _ n,x _,C,λ_=>⟨B,_,_,([]++places)++[],⟨[]++places,[],trodAll_append (d _ λ_ _=>rfl) (i _ _ _),x _,rfl,?_,?_⟩,?_⟩⟩
 ·intro b w c;have c:MemPlace.cell b w∈places:=by simpa using c
  rw[A.frozen (u _ c)];exact D b w c
 all_goals grind
end
end
end Go.Ab
end
section
namespace Go.Num
variable{n:Nat}{m:Nat}{k:Nat}
def ei(c:UInt8):Bool:=decide (48<=c.toNat)&&decide (c.toNat<=57)
def mO(c:UInt8):Nat:=c.toNat-48
def val(l:List UInt8):Nat:=l.foldl (λn c=>10*n+mO c) 0
def jo(n:Nat):UInt8:=UInt8.ofNat (48+n)
theorem nH:val []=0:=rfl
theorem lN(l:List UInt8)(c:UInt8):val (l++[c])=10*val l+mO c:=by simp[val,List.foldl_append]
theorem mS(h:n<10):(jo n).toNat=48+n:=by grind[UInt8.toNat_ofNat',jo]
theorem FF(h:n<10):mO (jo n)=n:=by grind[mS,mO]
theorem wG(h:n<10):ei (jo n)=af:=by grind[mS,ei]
theorem pk{c:UInt8}:ei c=af↔48<=c.toNat/\c.toNat<=57:=by simp[ei]
theorem uV{c:UInt8}(h:ei c=af):mO c<10:=by grind[pk,mO]
theorem Bb{c:UInt8}(h:ei c=af):jo (mO c)=c:=by grind[pk,fL,mS,mO]
theorem pn{α:Type}{P:List α->Prop}(h0:P [])(h1:∀l a,P l->P (l++[a]))(l:List α):P l:=by
 have:∀n (l:List α),l.length=n->P l:=by
  intro n
  induction n with
  |zero=>intro l hl;rw[bE hl];exact h0
  |succ n ih=>
   intro l hl;have hne:l≠[]:=by intro e;subst e;simp at hl
   rw[<-List.dropLast_concat_getLast hne];exact h1 _ _ (ih _ (by simp[hl]))
 grind
theorem nG(a b:List UInt8):val (a++b)=val a*10^b.length+val b:=by
 induction b using pn with
 |h0=>simp[nH]
 |h1 b c d=>grind[iI,cS,val]
theorem FJ{l:List UInt8}(h:l.all ei=af):val l<10^l.length:=by
 induction l using pn with
 |h0=>simp[nH]
 |h1 l c a=>
  simp only[gH,ep,all_nil,Bool.and_true,bg]at h
  grind[uV,lN]
def bn(n:Nat):List UInt8:=if n<10 then[jo n]else bn (n/10)++[jo (n%10)]
termination_by n
decreasing_by omega
theorem gO(h:n<10):bn n=[jo n]:=by rw[bn,iP h]
theorem mQ(h:10<=n):bn n=bn (n/10)++[jo (n%10)]:=by rw[bn,iN (by omega)]
theorem uY(a:0<n)(b:m<10):bn (10*n+m)=bn n++[jo m]:=by grind[mQ]
theorem eQ(n:Nat):val (bn n)=n:=by
 induction n using fj with
 |ind n a=>grind[gO,lN,FF,nH,mQ]
theorem wJ(h:bn n=bn m):n=m:=by grind[eQ]
theorem Ad(n:Nat):bn n≠[]:=by
 by_cases h:n<10
 ·grind[gO]
 ·rw[mQ (by omega)];simp
theorem rJ(n:Nat):0<(bn n).length:=fE.2 (Ad n)
theorem fV(n:Nat):(bn n).all ei=af:=by
 induction n using fj with
 |ind n a=>grind[gO,wG,mQ]
theorem sN(n:Nat):n<10^(bn n).length:=by grind[FJ,fV,eQ]
theorem FI(h:10<=n):10^((bn n).length-1)<=n:=by
 induction n using fj with
 | ind n a=>
  rw[mQ h,bF,de];by_cases c:n/10<10
  ·grind[gO]
  ·have d:=a (n/10) (by omega) (by omega);have b:=rJ (n/10);obtain⟨k,e⟩:∃k,(bn (n/10)).length=k+1:=⟨(bn (n/10)).length-1,by omega⟩
   grind
theorem iO(e:0<k):(bn n).length<=k↔n<10^k:=by
 constructor
 ·grind[cD,sN,di]
 ·intro h;by_cases b:n<10
  ·grind[gO]
  ·have d:=FI (n:=n) (by omega);rcases db k (bn n).length with a|a
   ·have c:10^k<=10^((bn n).length-1):=di (by omega) (by omega);omega
   omega
def E9(l:List UInt8):Prop:=l≠[]/\l.all ei=af/\(1<l.length->l.head?≠aa 48)
theorem Tx{l:List UInt8}(a:l.all ei=af)(h0:l≠[])(h:l.head?≠aa 48):0<val l:=by
 induction l using pn with
 |h0=>grind
 | h1 l c d=>
  simp only[gH,ep,all_nil,Bool.and_true,bg]at a;rw[lN];by_cases b:l=[]
  ·subst b;have f:c≠48:=by intro e;subst e;simp at h
   have i:=pk.1 a.2;have g:c.toNat≠48:=λe=>f (by apply fL.1;rw[e];rfl)
   grind[mO]
  ·have:=d a.1 b (by grind);omega
theorem wK{l:List UInt8}(h:E9 l):bn (val l)=l:=by
 induction l using pn with
 |h0=>exact absurd rfl h.1
 | h1 l c f=>
  obtain⟨_,b,g⟩:=h;simp only[gH,ep,all_nil,Bool.and_true,bg]at b;rw[lN];by_cases d:l=[]
  ·grind[nH,gO,uV,Bb]
  ·have e:l.head?≠aa 48:=by
    have:=g (by grind[fE])
    cases l with
    |nil=>grind
    |cons a l=>grind
   have i:=Tx b.1 d e;rw[uY i (uV b.2),f ⟨d,b.1,λ_=>e⟩,Bb b.2]
theorem H8(n:Nat):E9 (bn n):=by
 refine⟨Ad n,fV n,?_⟩
 induction n using fj with
 | ind n d=>
  intro c;by_cases h:n<10
  ·grind[gO]
  ·rw[mQ (by omega)];by_cases a:n/10<10
   ·rw[gO a];simp only[fh,List.head?_cons,ne_eq,aZ];intro e;have:=congrArg UInt8.toNat e;rw[mS a]at this;have b:(48:UInt8).toNat=48:=rfl;omega
   grind[bn]
def valid(l:List UInt8):Bool:= !l.isEmpty&&decide (l.length<=1000) && !(decide (1<l.length)&&l.head? == aa 48)&&l.all ei
theorem lG{l:List UInt8}:valid l=af↔E9 l/\l.length<=1000:=by
 unfold valid E9
 grind
theorem qH:valid (bn n)=af↔n<10^1000:=by grind[lG,iO,H8]
theorem gP{l:List UInt8}(h:valid l=af):∃n,l=bn n/\n<10^1000/\val l=n:=by grind[lG,wK,qH]
def bv(b:Nat):List Nat->Nat
 |[]=>0
 |d::l=>d+b*bv b l
theorem ka(b:Nat):∀x y:List Nat,bv b (x++y)=bv b x+b^x.length*bv b y
 |[],y=>by simp[bv]
 |d::x,y=>by
  simp only[fh,bv,ka b x y,bU,fF]
  grind
theorem uw(b:Nat)(x:List Nat)(d:Nat):bv b (x++[d])=bv b x+b^x.length*d:=by grind[ka,bv]
theorem jv{b:Nat}:∀{x:List Nat},(∀d∈x,d<b)->bv b x<b^x.length
 |[],_=>by simp[bv]
 | d::x,h=>by
  have a:=jv (b:=b) (x:=x) λe c=>h e (by simp[c]);have f:=h d (by simp);simp only[bv,bU,fF];have:b*bv b x+b<=b*b^x.length:=by
   have:=eS b (ir a);rw[nM]at this;exact this
  grind
def cO(b n:Nat):List Nat:=if h:1<b/\0<n then n%b::cO b (n/b)else[]
termination_by n
decreasing_by exact pI h.2 h.1
theorem jN(b:Nat):cO b 0=[]:=by simp_all[cO]
theorem qi{b:Nat}(a:1<b)(c:0<n):cO b n=n%b::cO b (n/b):=by rw[cO,dif_pos ⟨a,c⟩]
theorem eP{b:Nat}(a:1<b)(n:Nat):bv b (cO b n)=n:=by
 induction n using fj with
 |ind n c=>
  rcases dv n with rfl|hn
  all_goals grind[jN,qi,pI,jP,bv]
theorem fU{b:Nat}(a:1<b)(n:Nat):∀d∈cO b n,d<b:=by
 induction n using fj with
 |ind n c=>grind[dv,jN,qi,dJ,pI]
def PB(b:Nat)(l:List Nat):Prop:=(∀d∈l,d<b)/\l.getLast?≠aa 0
theorem PJ{b:Nat}(a:1<b)(n:Nat):PB b (cO b n):=by
 refine⟨fU a n,?_⟩
 induction n using fj with
 | ind n d=>
  rcases dv n with rfl|hn
  ·grind[jN]
  ·rw[qi a hn];by_cases c:n/b=0
   ·rw[c,jN];have:n<b:=by
     rcases db n b with h|h
     ·exact h
     ·have:=Nat.div_pos h (by omega);omega
    simp[ef this];omega
   grind[pI,qi]
theorem MQ{b:Nat}(g:1<b):∀{l:List Nat},PB b l->cO b (bv b l)=l
 |[],_=>jN b
 | d::l,h=>by
  have j:d<b:=h.1 d (by simp);have m:0<bv b (d::l):=by
   have i:∀l:List Nat,l≠[]->l.getLast?≠aa 0->0<bv b l:=by
    intro l
    induction l with
    |nil=>grind
    |cons a l k=>
     intro _ n;by_cases f:l=[]
     ·grind[bv]
     ·have:0<bv b l:=k f (by grind);simp only[bv];have:=Nat.mul_pos (show 0<b by omega) this;omega
   exact i _ (by simp) h.2
  have f:PB b l:=⟨λe o=>h.1 e (by grind),by
   intro e
   cases l with
   |nil=>grind
   |cons c l=>exact h.2 (by grind)⟩
  rw[qi g m];simp only[bv];rw[show(d+b*bv b l)%b=d by rw[Nat.add_mul_mod_self_left,ef j],show(d+b*bv b l)/b=bv b l by rw[Nat.add_mul_div_left _ _ (by omega),hW j,bJ],MQ g f]
def gG(l:List Nat):List Nat:=(l.reverse.dropWhile (· == 0)).reverse
theorem MU:gG []=[]:=rfl
theorem mq(l:List Nat):gG (l++[0])=gG l:=by simp[gG]
theorem nF(l:List Nat){d:Nat}(h:d≠0):gG (l++[d])=l++[d]:=by simp[gG,h]
theorem oU{b:Nat}(c:1<b){l:List Nat}(h:∀d∈l,d<b):gG l=cO b (bv b l):=by
 induction l using pn with
 |h0=>rw[MU];exact(jN b).symm
 | h1 l d e=>
  by_cases a:d=0
  ·subst a
   grind[mq,uw]
  ·rw[nF l a,MQ c];exact⟨h,by grind⟩
theorem lL{b:Nat}(a:1<b):cO b n=[]↔n=0:=by
 constructor
 ·intro h;have:=eP a n;rw[h]at this;exact this.symm
 simp_all[jN]
theorem pD{b:Nat}(a:1<b){n k:Nat}(h:n<b^k):(cO b n).length<=k:=by
 induction k generalizing n with
 |zero=>rw[Nat.pow_zero]at h;grind[jN]
 |succ k c=>grind[qi,eB]
theorem vX{b:Nat}(c:1<b){n:Nat}(d:0<n):b^((cO b n).length-1)<=n:=by
 induction n using fj with
 | ind n f=>
  rw[qi c d,bU,Nat.add_sub_cancel];by_cases e:n/b=0
  ·rw[e,jN];simp;omega
  ·have a:=f (n/b) (pI d c) (Nat.pos_of_ne_zero e);have i:0<(cO b (n/b)).length:=fE.2 (by simp_all[lL]);obtain⟨k,g⟩:∃k,(cO b (n/b)).length=k+1:=⟨(cO b (n/b)).length-1,by omega⟩
   rw[g]at a⊢;rw[Nat.add_sub_cancel]at a;rw[fF];have h:=bM b a;have j:=Nat.div_mul_le_self n b;omega
variable{x:List Nat}{i:Nat}{j:Nat}{l:Nat}
theorem j6(b:Nat)(x:List Nat)(i:Nat):bv b (x.drop i)=x.getD i 0+b*bv b (x.drop (i+1)):=by grind[cX,bV,bv]
theorem cV{b:Nat}(c:0<b)(h:∀d∈x,d<b)(i:Nat):x.getD i 0<b:=by
 rw[gD]
 cases a:x[i]? with
 |none=>grind
 |some d=>exact h d (aM a)
def dq(F:Nat->Nat->Nat->Nat×Nat)(x y:List Nat):Nat->Nat->Nat->List Nat
 |_,0,_=>[]
 |i,k+1,c=>(F (x.getD i 0) (y.getD i 0) c).1::dq F x y (i+1) k (F (x.getD i 0) (y.getD i 0) c).2
theorem mP{b:Nat}{F:Nat->Nat->Nat->Nat×Nat}(h:∀p q c,(F p q c).1<b)(x y:List Nat):∀k i c,∀d∈dq F x y i k c,d<b
 |0,_,_=>by simp[dq]
 |k+1,i,c=>by
  intro d a;rcases cW.1 a with rfl|a
  ·grind
  ·exact mP h x y k _ _ d a
def cL(b:Nat)(p q c:Nat):Nat×Nat:=((p+q+c)%b,(p+q+c)/b)
theorem C1{b:Nat}(l:1<b){x y:List Nat}(e:∀d∈x,d<b)(g:∀d∈y,d<b):∀k i c,x.length<i+k->y.length<i+k->c<=1->0<k->
  bv b (dq (cL b) x y i k c)=bv b (x.drop i)+bv b (y.drop i)+c:=by
 intro k
 induction k with
 |zero=>omega
 | succ k o=>
  intro i c n p s _;have q:=cV (by omega) e i;have j:=cV (by omega) g i;rw[j6 b x i,j6 b y i];simp only[dq,bv];have m:=jP (x.getD i 0+y.getD i 0+c) b;have h:(cL b (x.getD i 0) (y.getD i 0) c).2<=1:=by
   show(x.getD i 0+y.getD i 0+c)/b<=1;have:(x.getD i 0+y.getD i 0+c)/b<2:=eB (by omega);omega
  rcases dv k with rfl|r
  ·rw[bV (show x.length<=i+1 by omega),bV (show y.length<=i+1 by omega)];have a:x.getD i 0=0:=by rw[gD,getElem?_eq_none (by omega)];rfl
   have f:y.getD i 0=0:=by rw[gD,getElem?_eq_none (by omega)];rfl
   simp only[dq,bv,cL,a,f,bJ,hZ,eR];exact ef (by omega)
  grind[cL]
def fz(b m:Nat)(p a c:Nat):Nat×Nat:=((p*m+c)%b,(p*m+c)/b)
theorem PG{b:Nat}(l:1<b)(m:n<=b)(g:0<n){x y:List Nat}(e:∀d∈x,d<b):∀k i c,x.length<i+k->c<n->0<k->
  bv b (dq (fz b n) x y i k c)=bv b (x.drop i)*n+c:=by
 intro k
 induction k with
 |zero=>omega
 | succ k p=>
  intro i c o r _;have f:=cV (by omega) e i;rw[j6 b x i];simp only[dq,bv];have h:=jP (x.getD i 0*n+c) b;have j:(fz b n (x.getD i 0) (y.getD i 0) c).2<n:=by
   show(x.getD i 0*n+c)/b<n;refine eB ?_;have:x.getD i 0*n+n<=b*n:=by
    have:=bM n (ir f);rw[succ_mul]at this;exact this
   omega
  rcases dv k with rfl|q
  ·rw[bV (show x.length<=i+1 by omega)];have a:x.getD i 0=0:=by rw[gD,getElem?_eq_none (by omega)];rfl
   simp only[dq,bv,fz,a,kj,bJ,hZ,eR];exact ef (by omega)
  grind[fz]
def dY(b:Nat)(p q c:Nat):Nat×Nat:=((p+b-q-c)%b,1-(p+b-q-c)/b)
theorem rU{b p q c:Nat}(a:1<b)(f:p<b)(d:q<b)(g:c<=1):p+b*(dY b p q c).2=(dY b p q c).1+q+c/\(dY b p q c).2<=1:=by
 unfold dY;dsimp only;rcases db (p+b-q-c) b with h|h
 ·grind[hW,ef]
 ·have e:(p+b-q-c)/b=1:=by
   refine Nat.le_antisymm ?_ ((Nat.le_div_iff_mul_le (by omega)).2 (by omega));have:(p+b-q-c)/b<2:=eB (by omega);omega
  grind[jP]
theorem FG{b:Nat}(e:1<b){x y:List Nat}(j:∀d∈x,d<b)(n:∀d∈y,d<b):∀k i c,x.length<=i+k->y.length<=i+k->c<=1->bv b (y.drop i)+c<=bv b (x.drop i)->
  bv b (dq (dY b) x y i k c)+bv b (y.drop i)+c=bv b (x.drop i):=by
 intro k
 induction k with
 |zero=>grind[bV,bv,dq]
 | succ k r=>
  intro i c q s m h;have l:=cV (by omega) j i;have a:=cV (by omega) n i;obtain⟨u,t⟩:=rU e l a m;rw[j6 b x i,j6 b y i]at h⊢;simp only[dq,bv];have o:(dY b (x.getD i 0) (y.getD i 0) c).1<b:=dJ _ (by omega);have p:bv b (y.drop (i+1))+(dY b (x.getD i 0) (y.getD i 0) c).2<=bv b (x.drop (i+1)):=by
   rcases db (bv b (x.drop (i+1))) (bv b (y.drop (i+1))+(dY b (x.getD i 0) (y.getD i 0) c).2)with g|g
   ·have f:=eS b (ir g);rw[nM,kh]at f;omega
   ·exact g
  grind
theorem MT{q a U V b c:Nat}(t:U=(a*n+l)*n^m+b)(p:b<n^m)(d:V=(k*n+i)*n^m+c)(o:q*k+j=a)(h:j*n+l<q*i):U<q*V:=by
 have f:a*n+l+1<=q*(k*n+i):=by
  have e:q*(k*n+i)=q*k*n+q*i:=by rw[kh,iI]
  have s:a*n=q*k*n+j*n:=by rw[<-o,dh]
  omega
 have g:=bM (n^m) f;rw[dh,ew]at g;have r:q*V=q*(k*n+i)*n^m+q*c:=by rw[d,kh,iI]
 omega
theorem KD{q a U V f b:Nat}(y:U=(a*n+l)*n^m+f)(g:V=(k*n+i)*n^m+b)(c:b<n^m)(r:q*k+j=a)(p:q<n)(d:0<k)(h:q*i<=j*n+l):q*V<U+V:=by
 have o:q*(k*n+i)<=a*n+l:=by
  have e:q*(k*n+i)=q*k*n+q*i:=by rw[kh,iI]
  have v:a*n=q*k*n+j*n:=by rw[<-r,dh]
  omega
 have t:=bM (n^m) o;have s:q*V=q*(k*n+i)*n^m+q*b:=by rw[g,kh,iI]
 have u:q*b<=q*n^m:=eS q (Nat.le_of_lt c);have x:q*n^m+n^m<=n*n^m:=by
  have:=bM (n^m) (ir p);rw[succ_mul]at this;exact this
 have w:n*n^m<=k*n*n^m:=by
  have:=bM (n*n^m) (ir d);rw[Nat.succ_eq_add_one,bJ,ew,<-iI]at this;exact this
 grind
def ob(B q u v b a:Nat):Nat×Nat×Nat:=((u+B-(q*v+a)%B-b)%B,1-(u+B-(q*v+a)%B-b)/B,(q*v+a)/B)
theorem PI{B q u v borrow carry:Nat}(d:1<B)(e:u<B)(a:borrow<=1):
  u+B*((ob B q u v borrow carry).2.1+(ob B q u v borrow carry).2.2)=(ob B q u v borrow carry).1+q*v+(borrow+carry)/\(ob B q u v borrow carry).2.1<=1/\(ob B q u v borrow carry).1<B:=by
 have f:=dJ (q*v+carry) (show 0<B by omega);have g:=jP (q*v+carry) B;have h:=rU (b:=B) (p:=u) (q:=(q*v+carry)%B) (c:=borrow) d e f a;unfold dY at h;dsimp only at h;unfold ob;dsimp only;refine⟨?_,h.2,dJ _ (by omega)⟩
 grind
variable{y:List Nat}
def iB(m n:Nat):Int:=if m<n then -1 else if m=n then 0 else 1
theorem pj(h:n<m):iB n m = -1:=iP h
theorem ph(h:m<n):iB n m=1:=by unfold iB;omega
theorem ux(m:Nat):iB m m=0:=by simp_all[iB]
theorem zY:iB n m<0↔n<m:=by grind[iB]
theorem IX:iB n m>=0↔m<=n:=by grind[iB]
theorem pG(h:(bn n).length<(bn m).length):n<m:=by grind[db,iO,sN]
theorem sO{a b:List UInt8}(y:b.all ei=af)(f:a.all ei=af)(k:a.length=b.length){i:Nat}{c d:UInt8}(n:a.take i=b.take i)(w:a[i]?=aa c)(u:b[i]?=aa d)(o:c<d):val a<val b:=by
 obtain⟨e,rfl⟩:=List.getElem?_eq_some_iff.1 w;obtain⟨l,rfl⟩:=List.getElem?_eq_some_iff.1 u;have z:a=a.take i++(a[i]::a.drop (i+1)):=by rw[<-cX e,dM]
 have B:b=a.take i++(b[i]::b.drop (i+1)):=by rw[n,<-cX l,dM]
 have v:val a=val (a.take i)*10^(a.drop i).length+val (a.drop i):=by rw[<-nG,dM]
 have r:val b=val (a.take i)*10^(b.drop i).length+val (b.drop i):=by rw[n,<-nG,dM]
 have q:val (a.drop i)=mO a[i]*10^(a.drop (i+1)).length+val (a.drop (i+1)):=by
  rw[cX e,<-List.singleton_append,nG];simp[val]
 have s:val (b.drop i)=mO b[i]*10^(b.drop (i+1)).length+val (b.drop (i+1)):=by
  rw[cX l,<-List.singleton_append,nG];simp[val]
 have j:(a.drop (i+1)).all ei=af:=by
  rw[bY]at f⊢;exact λx t=>f x (List.mem_of_mem_drop t)
 have h:=FJ j;have g:mO a[i]+1<=mO b[i]:=by
  have C:=pk.1 (bY.1 f _ (getElem_mem e));have A:=UInt8.lt_iff_toNat_lt.1 o;unfold mO;omega
 have p:(a.drop i).length=(b.drop i).length:=by simp[k]
 have m:(a.drop (i+1)).length=(b.drop (i+1)).length:=by simp[k]
 rw[v,r,q,s,p,<-m];rw[m]at h⊢;have D:=bM (10^(b.drop (i+1)).length) g
 grind
def jw(l:List UInt8):List Nat:=l.reverse.map mO
theorem oT(l:List UInt8):(jw l).length=l.length:=by simp[jw]
theorem qh{l:List UInt8}(h:l.all ei=af):∀d∈jw l,d<10:=by simp_all[uV,jw]
theorem j5(l:List UInt8):bv 10 (jw l)=val l:=by
 induction l using pn with
 |h0=>rfl
 |h1 l c a=>grind[lN,jw,bv]
def wM(l:List Nat):List UInt8:=l.reverse.map jo
theorem I2(l:List Nat):(wM l).length=l.length:=by simp[wM]
theorem Ty{l:List Nat}(h:∀d∈l,d<10):val (wM l)=bv 10 l:=by
 induction l with
 |nil=>rfl
 |cons d l a=>grind[lN,FF,wM,bv]
theorem Tv{l:List Nat}(h:∀d∈l,d<10):(wM l).all ei=af:=by simp_all[wG,wM]
theorem Tw{l:List Nat}(h:∀d∈l,d<10)(f:l≠[])(g:1<l.length->l.getLast?≠aa 0):wM l=bn (bv 10 l):=by
 rw[<-Ty h];refine(wK ⟨λe=>f ?_,Tv h,λa=>?_⟩).symm
 ·have:=congrArg List.length e
  grind[I2]
 ·rw[I2]at a;have b:=g a;rw[wM,List.head?_map,List.head?_reverse]
  cases c:l.getLast? with
  |none=>simp
  |some d=>
   rw[c]at b;have i:=h d (List.mem_of_getLast? c);simp only[gf,ne_eq,aZ]at b⊢;intro e;have:=congrArg UInt8.toNat e
   grind[mS]
theorem FC{l:List Nat}(h:∀i,n<=i->l.getD i 0=0):bv 10 (l.take n)=bv 10 l:=by
 induction n generalizing l with
 | zero=>
  have:∀l:List Nat,(∀i,0<=i->l.getD i 0=0)->bv 10 l=0:=by
   intro l
   induction l with
   |nil=>intro _;rfl
   |cons a l b=>
    intro h;have c:=h 0 (by omega);rw[bv,b (λi _=>by have:=h (i+1) (by omega);simpa using this)];simpa using c
  grind
 | succ n b=>
  cases l with
  |nil=>rfl
  |cons a l=>
   simp only[List.take_succ_cons,bv];rw[b (λi d=>by have:=h (i+1) (by omega);grind)]
def jc(p q c:Nat):Nat×Nat:=if p<q+c then(p+10-q-c,1)else(p-q-c,0)
theorem PF{q c:Nat}(b:n<10)(a:q<10)(d:c<=1):jc n q c=dY 10 n q c:=by grind[jc,dY]
theorem uW{x y:List Nat}(a:∀d∈x,d<10)(b:∀d∈y,d<10):∀k i c,c<=1->dq jc x y i k c=dq (dY 10) x y i k c
 |0,_,_,_=>rfl
 |k+1,i,c,e=>by
  have f:=PF (cV (by omega) a i) (cV (by omega) b i) e;simp only[dq];rw[f,uW a b k (i+1) _ (rU (by omega) (cV (by omega) a i) (cV (by omega) b i) e).2]
theorem IY(a:∀d∈x,d<10)(c:∀d∈y,d<10)(e:y.length<=x.length)(h:bv 10 y<=bv 10 x):bv 10 (dq jc x y 0 x.length 0)=bv 10 x-bv 10 y:=by
 rw[uW a c _ _ _ (by omega)];have:=FG (b:=10) (by omega) a c x.length 0 0 (by omega) (by omega) (by omega) (by simpa using h)
 grind
theorem iM(F:Nat->Nat->Nat->Nat×Nat)(x y:List Nat):∀k i c,(dq F x y i k c).length=k
 |0,_,_=>rfl
 |k+1,i,c=>by simp[dq,iM F x y k]
theorem IZ(a:∀d∈x,d<10)(e:∀d∈y,d<10)(k i c:Nat)(b:c<=1):∀d∈dq jc x y i k c,d<10:=by
 rw[uW a e _ _ _ b];exact mP (λp q c=>dJ _ (by omega)) x y k i c
theorem rV:bn 0=[48]:=by rw[gO (by omega)];rfl
theorem MS:bn 1=[49]:=by rw[gO (by omega)];rfl
theorem gF:bn n=[48]↔n=0:=by grind[rV,wJ]
theorem pF:bn n=[49]↔n=1:=by grind[MS,wJ]
theorem KC{r:Nat}{c:UInt8}(a:ei c=af):(if bn r=[48]then[c]else bn r++[c])=bn (10*r+mO c):=by
 have b:=uV a;by_cases h:r=0
 ·subst h;rw[iP rV,hZ,bJ,gO b,Bb a]
 ·rw[iN (λe=>h (gF.1 e)),uY (by omega) b,Bb a]
theorem vZ{l:List UInt8}{c:UInt8}(h:l[i]?=aa c):val (l.take (i+1))=10*val (l.take i)+mO c:=by grind[eH,lN]
theorem MM{V d:Nat}(b:0<n)(g:k*n<=10*(V%n)+d)(c:10*(V%n)+d<(k+1)*n):(10*V+d)/n=10*(V/n)+k/\(10*V+d)%n=10*(V%n)+d-k*n:=by
 have e:=jP V n;have f:10*V+d=n*(10*(V/n)+k)+(10*(V%n)+d-k*n):=by
  have h:n*(10*(V/n)+k)=10*(n*(V/n))+k*n:=by rw[kh,Nat.mul_left_comm,cS n k]
  omega
 have a:10*(V%n)+d-k*n<n:=by rw[dh,ew]at c;omega
 rw[f];constructor
 ·rw[mU b,hW a];rfl
 ·rw[pK,ef a]
theorem ML(a:0<m)(c:i<10)(b:k*m<=10*(n%m)+i):k<10:=by
 have:=dJ n a;rcases db k 10 with h|h
 ·exact h
 ·have:=bM m h;omega
theorem MW{l:List UInt8}(h:∀c∈l,c=48):val l=0:=by
 induction l using pn with
 |h0=>rfl
 |h1 l c a=>
  rw[lN,a (λx b=>h x (by grind)),h c (by simp)];rfl
theorem MP{l:List UInt8}(n:l.all ei=af)(m:k<l.length)(d:∀i,i<k->l[i]?=aa 48)(j:k+1<l.length->l[k]?≠aa 48):l.drop k=bn (val l):=by
 have b:val l=val (l.drop k):=by
  have:=nG (l.take k) (l.drop k);rw[dM]at this;rw[this,MW (λc f=>by
   obtain⟨i,a⟩:=getElem?_of_mem f;rw[getElem?_take]at a;split at a
   ·next h=>rw[d i h]at a;exact(aG a).symm
   ·cases a),kj,bJ]
 rw[b];refine(wK ⟨λe=>?_,?_,λg=>?_⟩).symm
 ·have:=congrArg List.length e;simp at this;omega
 all_goals grind[List.head?_drop]
theorem PD(m n:Nat):Nat.gcd m n=Nat.gcd n (m%n):=by grind[Nat.gcd_comm,Nat.gcd_rec]
def dZ(B q:Nat)(u v:List Nat):Nat->Nat->Nat->Nat->List Nat×Nat×Nat
 |_,0,b,c=>([],b,c)
 |i,k+1,b,c=>
  let s:=ob B q (u.getD i 0) (v.getD i 0) b c
  let r:=dZ B q u v (i+1) k s.2.1 s.2.2
  (s.1::r.1,r.2)
theorem uX(B q:Nat)(u v:List Nat):∀k i b c,(dZ B q u v i k b c).1.length=k
 |0,_,_,_=>rfl
 |k+1,i,b,c=>by simp[dZ,uX B q u v k]
theorem yr{B q:Nat}(e:1<B)(u v:List Nat):∀k i b c,∀d∈(dZ B q u v i k b c).1,d<B
 |0,_,_,_=>by simp[dZ]
 |k+1,i,b,c=>by
  intro d a;simp only[dZ]at a;rcases cW.1 a with rfl|a
  ·exact dJ _ (by omega)
  ·exact yr e u v k _ _ _ d a
theorem wC(b:Nat)(x:List Nat)(i k:Nat):bv b ((x.drop i).take (k+1))=x.getD i 0+b*bv b ((x.drop (i+1)).take k):=by grind[cX,bV,bv]
theorem C2{B q:Nat}(e:1<B){u v:List Nat}(f:∀d∈u,d<B):∀k i b c,b<=1->
  bv B ((u.drop i).take k)+B^k*((dZ B q u v i k b c).2.1+(dZ B q u v i k b c).2.2)=bv B (dZ B q u v i k b c).1+q*bv B ((v.drop i).take k)+(b+c)/\(dZ B q u v i k b c).2.1<=1
 |0,i,b,c,a=>by grind[dZ,bv]
 |k+1,i,b,c,a=>by
  obtain⟨m,g,j⟩:=PI (B:=B) (q:=q) (u:=u.getD i 0) (v:=v.getD i 0) (borrow:=b) (carry:=c) e (cV (by omega) f i) a;obtain⟨l,h⟩:=C2 e (q:=q) (v:=v) f k (i+1) _ (ob B q (u.getD i 0) (v.getD i 0) b c).2.2 g;rw[wC,wC];simp only[dZ,bv]
  grind
theorem EI{l:List Nat}(h:l.length=m):bv n (l.take m)=bv n l:=by grind
theorem MK{q:Nat}(f:1<n){u v:List Nat}{a:Nat}(g:∀d∈u,d<n)(c:u.length=a+1)(j:v.length=a):
  (dZ n q u v 0 (a+1) 0 0).2.2=0->((dZ n q u v 0 (a+1) 0 0).2.1=0->bv n u=bv n (dZ n q u v 0 (a+1) 0 0).1+q*bv n v)/\
  ((dZ n q u v 0 (a+1) 0 0).2.1≠0->bv n u+n^(a+1)=bv n (dZ n q u v 0 (a+1) 0 0).1+q*bv n v/\bv n u<q*bv n v):=by
 intro i;obtain⟨e,k⟩:=C2 f (q:=q) (v:=v) g (a+1) 0 0 0 (by omega);rw[bO,bO,EI c,bC (by omega:v.length<=a+1),i]at e;refine⟨λh=>?_,λh=>?_⟩
 ·grind
 ·have b:(dZ n q u v 0 (a+1) 0 0).2.1=1:=by omega
  rw[b,dB]at e
  grind[jv,yr,uX]
theorem Bf{B q:Nat}(e:1<B){u v:List Nat}(g:q<B)(a:∀d∈v,d<B):∀k i b c,c<B->v.length<=i+k->0<k->v.length<i+k->(dZ B q u v i k b c).2.2=0
 |0,_,_,_,_,_,h,_=>by omega
 |1,i,b,c,j,_,_,f=>by
  simp only[dZ,ob];have:v.getD i 0=0:=by rw[gD,getElem?_eq_none (by omega)];rfl
  simp_all
 | k+2,i,b,c,j,_,_,f=>by
  have m:=cV (by omega) a i;simp only[dZ];have:=Bf e (u:=u) g a (k+1) (i+1) (ob B q (u.getD i 0) (v.getD i 0) b c).2.1 (ob B q (u.getD i 0) (v.getD i 0) b c).2.2 (by
   show(q*v.getD i 0+c)/B<B;refine eB ?_;have l:q*v.getD i 0<=(B-1)*(B-1):=fy (by omega) (by omega);have n:(B-1)*(B-1)+(B-1)=(B-1)*B:=by rw[<-nM];congr 1;omega
   have o:(B-1)*B+B=B*B:=by rw[<-succ_mul];congr 1;omega
   omega) (by omega) (by omega) (by omega)
  grind[dZ]
theorem PC(s:1<n){u v:List Nat}{a Q V U:Nat}(m:∀d∈u,d<n)(l:∀d∈v,d<n)(r:u.length=a+1)(o:v.length=a)(w:U+n^(a+1)=bv n u+(Q+1)*V)(B:U<(Q+1)*V)(t:(Q+1)*V<U+V)(E:V=bv n v):
  bv n ((dq (cL n) u v 0 (a+1) 0))+Q*V=U:=by
 have e:=C1 s (x:=u) (y:=v) m l (a+2) 0 0 (by omega) (by omega) (by omega) (by omega);simp only[bO,eR]at e;have split:∀k i c,dq (cL n) u v i (k+1) c=dq (cL n) u v i k c++(dq (cL n) u v i (k+1) c).drop k:=by
  intro k
  induction k with
  |zero=>intro i c;simp[dq]
  |succ k A=>
   intro i c;have:=A (i+1) (cL n (u.getD i 0) (v.getD i 0) c).2;show _::dq (cL n) u v (i+1) (k+1) _=(_::dq (cL n) u v (i+1) k _)++(_::dq (cL n) u v (i+1) (k+1) _).drop (k+1);rw[fh,List.drop_succ_cons];exact congrArg _ this
 rw[split (a+1) 0 0,ka,iM]at e;have j:=jv (mP (b:=n) (F:=cL n) (λp q c=>dJ _ (by omega)) u v (a+1) 0 0);rw[iM]at j;rw[dh,ew]at w B t;have g:=jv m;rw[r]at g;have h:=jv l;rw[o]at h;have C:n^a<=n^(a+1):=di (by omega) (by omega);have D:bv n ((dq (cL n) u v 0 (a+1+1) 0).drop (a+1))=1:=by
  generalize bv n ((dq (cL n) u v 0 (a+1+1) 0).drop (a+1))=z at e;rcases Nat.lt_trichotomy z 1 with f|f|f
  ·have:z=0:=by omega
   subst this;rw[hZ]at e;omega
  ·exact f
  ·have:=eS (n^(a+1)) f;rw[nM,dB]at this;omega
 grind
theorem FA{B:Nat}:∀(l:List Nat)(i d:Nat),i<l.length->bv B (l.set i d)+B^i*l.getD i 0=bv B l+B^i*d
 |[],i,d,h=>by grind
 |a::l,0,d,_=>by grind[bv]
 |a::l,i+1,d,h=>by
  have b:=congrArg (B*·) (FA (B:=B) l i d (by simpa using h))
  grind[bv]
theorem MO{l:List Nat}(h:∀d∈l,d<n){i d:Nat}(b:d<n):∀x∈l.set i d,x<n:=λx a=>by grind
theorem tH(_:1<n):∀{l:List Nat},bv n l<n^m->bv n (l.drop m)=0
 | l,h=>by
  rcases db m l.length with a|a
  ·have e:=ka n (l.take m) (l.drop m);rw[dM,bq,dI (by omega)]at e;rcases dv (bv n (l.drop m))with b|b
   ·omega
   ·have:=eS (n^m) b;omega
  ·rw[bV a];rfl
theorem zX(B:Nat)(l:List Nat)(n:Nat):bv B l=bv B (l.take n)+B^(min n l.length)*bv B (l.drop n):=by grind[ka,dM]
structure lZ(B n V XK:Nat)(u q:List Nat)(j:Nat):Prop where
 ul:∀d∈u,d<B
 ql:∀d∈q,d<B
 len:u.length=q.length+n
 jle:j<=q.length
 lo:bv B (u.drop j)<V
 eq:XK=bv B u+V*bv B q
 qz:∀i,i<j->q.getD i 0=0
theorem lZ.Mw{q:List Nat}(b:1<n)(a:k<=n^m)(h:lZ n m k i x q (j+1)):
  bv n ((x.drop j).take (m+1))=bv n (x.drop j)/\bv n ((x.drop j).take (m+1))<n*k/\((x.drop j).take (m+1)).length=m+1:=by
 have e:=h.len;have o:=h.jle;have f:bv n (x.drop j)=x.getD j 0+n*bv n (x.drop (j+1)):=j6 n x j;have g:=cV (by omega) h.ul j;have c:=h.lo;have d:bv n (x.drop j)<n*k:=by
  have:=eS n (ir c);rw[nM]at this;omega
 have p:bv n ((x.drop j).drop (m+1))=0:=by
  refine tH b (cD d ?_);rw[fF,cS];exact bM n a
 have l:=zX n (x.drop j) (m+1)
 grind
theorem lZ.step{q w:List Nat}{at':Nat}(g:1<n)(d:k<=n^m)(h:lZ n m k j y q (at'+1))(B:∀x∈w,x<n)(z:w.length=m+1)(u:l<n)
  (r:bv n ((y.drop at').take (m+1))=bv n w+l*k) (v:bv n w<k):lZ n m k j (y.take at'++w++y.drop (at'+(m+1))) (q.set at' l) at':=by
 have A:=h.len;have D:=h.jle;obtain⟨e,s,E⟩:=h.Mw g d;have p:bv n (y.drop (at'+(m+1)))=0:=by
  rw[<-drop_drop];refine tH g ?_;rw[<-e];refine cD s ?_;rw[fF,cS];exact bM n d
 have c:(y.take at').length=at':=by rw[bq];omega
 have b:(y.take at'++w++y.drop (at'+(m+1))).drop at'=w++y.drop (at'+(m+1)):=by
  rw[bP,List.drop_append_of_le_length (by omega),gT (by omega),dL]
 refine⟨?_,MO h.ql u,?_,by grind,?_,?_,?_⟩
 ·intro x a;simp only[bG]at a;rcases a with(a|a)|a
  ·exact h.ul x (dy a)
  ·grind
  ·exact h.ul x (List.mem_of_mem_drop a)
 ·grind
 ·rw[b,ka,p,hZ,eR];omega
 ·have f:=ka n (y.take at') (y.drop at');rw[dM,c,<-e,r]at f;have t:bv n (y.take at'++w++y.drop (at'+(m+1)))=bv n (y.take at')+n^at'*bv n w:=by
   rw[bP,ka,ka,p,c,hZ,eR]
  have o:=FA (B:=n) q at' l (by omega);rw[h.qz at' (by omega),hZ,eR]at o;rw[h.eq,f,t,o,kh,kh]
  grind
 ·intro i C;have:=h.qz i (by omega)
  grind
theorem lZ.done{q:List Nat}(h:lZ n m k i x q 0):bv n q=i/k/\bv n x=i%k:=by
 have a:=h.lo;rw[bO]at a;rw[h.eq]
 grind[mU,hW,pK,ef]
theorem lZ.start{X Y:Nat}(u:1<n)(h:∀d∈x,d<n)(s:x.length=l+1)(t:m<=l)(o:X<n^l)(c:n^(m-1)<=Y)(r:0<m)(p:0<k)(b:bv n x=X*k):lZ n m (Y*k) (X*k) x (aQ (l+1-m) 0) (l+1-m):=by
 refine⟨h,λd q=>by rw[(List.mem_replicate.1 q).2];omega,by rw[bX];omega,by rw[bX];exact aT _,?_,?_,λi y=>?_⟩
 ·have f:=zX n x (l+1-m);rw[b,dI (by omega)]at f;rcases db (bv n (x.drop (l+1-m))) (Y*k)with a|a
  ·exact a
  ·have v:=eS (n^(l+1-m)) a;have w:n^l*k<=n^(l+1-m)*(Y*k):=by
    have e:n^l=n^(l+1-m)*n^(m-1):=by rw[<-Nat.pow_add];congr 1;omega
    rw[e,iI];exact eS _ (bM k c)
   have z:X*k<n^l*k:=Nat.mul_lt_mul_of_pos_right o p;omega
 ·have:bv n (aQ (l+1-m) 0)=0:=by
   induction (l+1-m)with
   |zero=>rfl
   |succ j g=>rw[List.replicate_succ,bv,g];rfl
  rw[this,b,hZ,eR]
 grind
theorem EJ{X Y:Nat}(a:0<k):X*k/(Y*k)=X/Y/\X*k%(Y*k)=X%Y*k:=
 by grind[Nat.mul_div_mul_right,Nat.mul_mod_mul_right]
theorem Ib{B left a:Nat}(c:0<k)(b:left<k)(d:a<B):(left*B+a)/k<B/\(left*B+a)%k<k/\(left*B+a)/k*k+(left*B+a)%k=left*B+a:=by
 refine⟨eB ?_,dJ _ c,by rw[cS];exact Nat.div_add_mod _ _⟩;have:=bM B (ir b)
 grind
structure oS(B k R:Nat)(r:List Nat)(j left:Nat):Prop where
 rl:∀d∈r,d<B
 jle:j<=r.length
 lt:left<k
 eq:bv B (r.drop j)*k*B^j+left*B^j+bv B (r.take j)=R
theorem oS.step{R:Nat}{at' left:Nat}(d:0<k)(h:oS n k R x (at'+1) left):oS n k R (x.set at' ((left*n+x.getD at' 0)/k)) at' ((left*n+x.getD at' 0)%k):=by
 have g:=h.jle;have b:0<n:=by
  have:=h.rl (x.getD at' 0) (by
   rw[gD,gE (by omega)];exact getElem_mem _)
  omega
 obtain⟨e,c,f⟩:=Ib (B:=n) d h.lt (cV b h.rl at');refine⟨MO h.rl e,by rw[dt];omega,c,?_⟩;rw[List.take_set_of_le (by omega),j6,List.drop_set_of_lt (by omega)];have a:(x.set at' ((left*n+x.getD at' 0)/k)).getD at' 0=(left*n+x.getD at' 0)/k:=by
  rw[gD,List.getElem?_set_self (by omega)];rfl
 rw[a,<-h.eq]
 grind[eH,uw]
theorem oS.done{R:Nat}{left:Nat}(a:0<k)(h:oS n k R x 0 left):bv n x=R/k:=by
 have e:=h.eq;simp only[bO,Nat.pow_zero,dB,dQ,bv,eR]at e;rw[<-e,cS,mU a,hW h.lt];rfl
section
theorem rT(B:Nat)(l:List Nat)(i:Nat)(h:i<=l.length):bv B l=bv B (l.take i)+B^i*bv B (l.drop i):=by grind[zX]
theorem pC{B:Nat}{l:List Nat}(h:l.length=i+1):bv B (l.drop i)=l.getD i 0:=by
 rw[j6,bV (by omega)];rfl
theorem ot{B:Nat}{l:List Nat}(h:l.length=i+2):bv B (l.drop i)=l.getD (i+1) 0*B+l.getD i 0:=by grind[j6,pC]
theorem vW{B:Nat}{l:List Nat}(h:l.length=i+3):bv B (l.drop i)=(l.getD (i+2) 0*B+l.getD (i+1) 0)*B+l.getD i 0:=by grind[j6,ot]
structure lJ(B n:Nat)(u v:List Nat)(q rest:Nat):Prop where
 eq:q*v.getD (n-1) 0+rest=u.getD n 0*B+u.getD (n-1) 0
 hi:bv B u<(q+1)*bv B v
section
variable {B n:Nat} {u v:List Nat} {q rest:Nat}
theorem lJ.start(s:1<B)(q:u.length=n+1)(p:v.length=n)(r:0<n)(k:∀d∈u,d<B)(g:0<v.getD (n-1) 0):lJ B n u v ((u.getD n 0*B+u.getD (n-1) 0)/v.getD (n-1) 0) ((u.getD n 0*B+u.getD (n-1) 0)%v.getD (n-1) 0):=by
 refine⟨by rw[cS];exact Nat.div_add_mod _ _,?_⟩;have e:=rT B u (n-1) (by omega);have f:=rT B v (n-1) (by omega);have h:bv B (u.drop (n-1))=u.getD n 0*B+u.getD (n-1) 0:=by
  have:=ot (B:=B) (l:=u) (i:=n-1) (by omega);rwa[show n-1+1=n by omega]at this
 rw[pC (by omega)]at f;rw[h]at e;rw[e,f];have j:=jv (b:=B) (x:=u.take (n-1)) (λd o=>k d (dy o));rw[bq,dI (by omega)]at j;generalize u.getD n 0*B+u.getD (n-1) 0=a;generalize v.getD (n-1) 0=c at g⊢;have m:a<(a/c+1)*c:=by
  have:=Nat.div_add_mod a c;have:=dJ a g;rw[dh,ew,cS];omega
 have t:=eS (B^(n-1)) (ir m)
 grind
theorem lJ.lower(b:bv B u<q*bv B v)(h:lJ B n u v q rest):lJ B n u v (q-1) (rest+v.getD (n-1) 0):=by
 have c:0<q:=by
  rcases dv q with a|a
  ·subst a;rw[kj]at b;omega
  ·exact a
 obtain⟨p,rfl⟩:∃p,q=p+1:=⟨q-1,by omega⟩
 refine⟨?_,by simpa using b⟩;have:=h.eq
 grind
theorem lJ.agc(b:bv B u<B*bv B v)(a:B<=q):bv B u<q*bv B v:=cD b (bM _ a)
theorem lJ.second(p:u.length=n+1)(o:v.length=n)(r:1<n)(j:∀d∈u,d<B)(h:lJ B n u v q rest)(g:rest*B+u.getD (n-2) 0<q*v.getD (n-2) 0):bv B u<q*bv B v:=by
 have c:=rT B u (n-2) (by omega);have e:=rT B v (n-2) (by omega);have f:bv B (u.drop (n-2))=(u.getD n 0*B+u.getD (n-1) 0)*B+u.getD (n-2) 0:=by
  have:=vW (B:=B) (l:=u) (i:=n-2) (by omega);rwa[show n-2+1=n-1 by omega,show n-2+2=n by omega]at this
 have k:bv B (v.drop (n-2))=v.getD (n-1) 0*B+v.getD (n-2) 0:=by
  have:=ot (B:=B) (l:=v) (i:=n-2) (by omega);rwa[show n-2+1=n-1 by omega]at this
 rw[f,add_comm,cS]at c;rw[k,add_comm,cS]at e;have a:=jv (b:=B) (x:=u.take (n-2)) (λd m=>j d (dy m));rw[bq,dI (by omega)]at a;exact MT c a e h.eq g
theorem lJ.last(y:1<B)(t:u.length=n+1)(s:v.length=n)(w:0<n)(k:∀d∈v,d<B)(p:0<v.getD (n-1) 0)(h:lJ B n u v q rest)(o:q<B)(m:1<n->q*v.getD (n-2) 0<=rest*B+u.getD (n-2) 0):q*bv B v<bv B u+bv B v:=by
 rcases db 1 n with f|f
 ·have e:=rT B u (n-2) (by omega);have g:=rT B v (n-2) (by omega);have a:bv B (u.drop (n-2))=(u.getD n 0*B+u.getD (n-1) 0)*B+u.getD (n-2) 0:=by
   have:=vW (B:=B) (l:=u) (i:=n-2) (by omega);rwa[show n-2+1=n-1 by omega,show n-2+2=n by omega]at this
  have c:bv B (v.drop (n-2))=v.getD (n-1) 0*B+v.getD (n-2) 0:=by
   have:=ot (B:=B) (l:=v) (i:=n-2) (by omega);rwa[show n-2+1=n-1 by omega]at this
  rw[a,add_comm,cS]at e;rw[c,add_comm,cS]at g;have j:=jv (b:=B) (x:=v.take (n-2)) (λd r=>k d (dy r));rw[bq,dI (by omega)]at j;exact KD e g j h.eq o p (m f)
 ·obtain rfl:n=1:=by omega
  have a:=ot (B:=B) (l:=u) (i:=0) (by omega);have c:=pC (B:=B) (l:=v) (i:=0) (by omega);rw[bO]at a c;have:=h.eq
  grind
theorem zu(f:q<B){a b:Nat}(d:a<B)(c:B<=rest):q*a<=rest*B+b:=by
 have e:q*a<=B*B:=fy (by omega) (by omega);have g:B*B<=rest*B:=bM B c;omega
end
theorem Kz{B q n:Nat}(a:1<B){u v:List Nat}(s:∀d∈u,d<B)(f:∀d∈v,d<B)(i:u.length=n+1)(b:v.length=n)(o:q<B)(y:bv B u<(q+1)*bv B v)(p:q*bv B v<bv B u+bv B v):
  (dZ B q u v 0 (n+1) 0 0).2.2=0/\
  ((dZ B q u v 0 (n+1) 0 0).2.1=0->q=bv B u/bv B v/\bv B (dZ B q u v 0 (n+1) 0 0).1=bv B u%bv B v)/\
  ((dZ B q u v 0 (n+1) 0 0).2.1≠0->0<q/\q-1=bv B u/bv B v/\bv B (dq (cL B) (dZ B q u v 0 (n+1) 0 0).1 v 0 (n+1) 0)=bv B u%bv B v):=by
 have j:=Bf a (u:=u) o f (n+1) 0 0 0 (by omega) (by omega) (by omega) (by omega);obtain⟨A,l⟩:=MK a s i b j (q:=q);have w:∀{k r:Nat},bv B u=r+k*bv B v->r<bv B v->k=bv B u/bv B v/\r=bv B u%bv B v:=by
  intro k r e t;rw[e,cS k,add_comm];constructor
  ·grind[mU,hW]
  ·rw[pK,ef t]
 refine⟨j,λh=>?_,λh=>?_⟩
 ·grind
 ·obtain⟨m,g⟩:=l h;have x:0<q:=by
   rcases dv q with c|c
   ·subst c;rw[kj]at g;omega
   ·exact c
  obtain⟨Q,rfl⟩:∃Q,q=Q+1:=⟨q-1,by omega⟩
  have z:=PC a (Q:=Q) (V:=bv B v) (U:=bv B u) (yr (q:=Q+1) a u v (n+1) 0 0 0) f (uX _ _ _ _ _ _ _ _) b m g p rfl
  grind
end
def iK(F:Nat->Nat->Nat->Nat×Nat)(x y:List Nat)(i c:Nat):Nat->Nat
 |0=>c
 |k+1=>(F (x.getD (i+k) 0) (y.getD (i+k) 0) (iK F x y i c k)).2
theorem FE(F:Nat->Nat->Nat->Nat×Nat)(x y:List Nat)(i c:Nat):∀k,iK F x y (i+1) (F (x.getD i 0) (y.getD i 0) c).2 k=iK F x y i c (k+1)
 |0=>rfl
 |k+1=>by
  show(F (x.getD (i+1+k) 0) (y.getD (i+1+k) 0) (iK F x y (i+1) _ k)).2=(F (x.getD (i+(k+1)) 0) (y.getD (i+(k+1)) 0) (iK F x y i c (k+1))).2;rw[FE F x y i c k,show i+1+k=i+(k+1) by omega]
theorem lK(F:Nat->Nat->Nat->Nat×Nat)(x y:List Nat):∀k i c,dq F x y i (k+1) c=dq F x y i k c++[(F (x.getD (i+k) 0) (y.getD (i+k) 0) (iK F x y i c k)).1]
 |0,i,c=>rfl
 |k+1,i,c=>by
  have a:=lK F x y k (i+1) (F (x.getD i 0) (y.getD i 0) c).2
  grind[FE,dq]
theorem R2{F:Nat->Nat->Nat->Nat×Nat}{m:Nat}(h:∀p q c,c<=m->(F p q c).2<=m)(x y:List Nat)(i c:Nat)(a:c<=m):∀k,iK F x y i c k<=m
 |0=>a
 |k+1=>h _ _ _ (R2 h x y i c a k)
theorem wD{b:Nat}(k:1<b){x y:List Nat}(h:∀d∈x,d<b)(l:x.length=y.length){j:Nat}(n:j<x.length)(i:x.drop (j+1)=y.drop (j+1))(a:x.getD j 0<y.getD j 0):bv b x<bv b y:=by
 have c:=rT b x j (by omega);have e:=rT b y j (by omega);rw[j6]at c e;rw[c,e,i];have g:=jv (b:=b) (x:=x.take j) (λd f=>h d (dy f));rw[bq,dI (by omega)]at g;have m:=eS (b^j) (ir (Nat.add_lt_add_right a (b*bv b (y.drop (j+1)))))
 grind
theorem pE{b:Nat}(a:1<b){m n:Nat}(h:(cO b m).length<(cO b n).length):m<n:=by
 have c:0<n:=by
  rcases dv n with e|e
  ·grind[jN]
  ·exact e
 have d:=jv (fU a m);rw[eP a]at d;have g:=vX a c;have f:b^(cO b m).length<=b^((cO b n).length-1):=di (by omega) (by omega);omega
variable{A:Type}
theorem wH(B q:Nat)(u v:List Nat):∀k i b c,dZ B q u v i (k+1) b c =
    ((dZ B q u v i k b c).1++[(ob B q (u.getD (i+k) 0) (v.getD (i+k) 0) (dZ B q u v i k b c).2.1 (dZ B q u v i k b c).2.2).1],
     (ob B q (u.getD (i+k) 0) (v.getD (i+k) 0) (dZ B q u v i k b c).2.1 (dZ B q u v i k b c).2.2).2.1,
     (ob B q (u.getD (i+k) 0) (v.getD (i+k) 0) (dZ B q u v i k b c).2.1 (dZ B q u v i k b c).2.2).2.2)
  |0,i,b,c=>rfl
  | k+1,i,b,c=>by
    have a:=wH B q u v k (i+1) (ob B q (u.getD i 0) (v.getD i 0) b c).2.1 (ob B q (u.getD i 0) (v.getD i 0) b c).2.2
    grind[dZ]
theorem Ic{q:Nat}(a:1<n){u v:List Nat}(b:∀d∈u,d<n)(k:Nat):(dZ n q u v 0 k 0 0).2.1<=1:=(C2 a (v:=v) b k 0 0 0 (by omega)).2
theorem vY{B q:Nat}(b:1<B)(c:q<B){u v:List Nat}(a:∀d∈v,d<B):∀k,(dZ B q u v 0 k 0 0).2.2<B
  |0=>by grind[dZ]
  | k+1=>by
    rw[wH];have f:=vY b c (u:=u) a k;have g:=cV (by omega) a (0+k);show(q*v.getD (0+k) 0+(dZ B q u v 0 k 0 0).2.2)/B<B;refine eB ?_;have e:q*v.getD (0+k) 0<=(B-1)*(B-1):=fy (by omega) (by omega);have h:(B-1)*(B-1)+(B-1)=(B-1)*B:=by rw[<-nM];congr 1;omega
    have i:(B-1)*B+B=B*B:=by rw[<-succ_mul];congr 1;omega
    omega
theorem D1(x y:List A){i:Nat}(a:x.length=i)(b:i<y.length)(d:A):(x++y.drop i).set i d=(x++[d])++y.drop (i+1):=by
  rw[List.set_append,iN (by omega),a,Nat.sub_self,cX b,List.set_cons_zero,bP];rfl
theorem Bc(x y:List Nat){i:Nat}(a:x.length=i):(x++y.drop i).getD i 0=y.getD i 0:=by grind
theorem Bg(l:List Nat):l.take (gG l).length=gG l/\(gG l).length<=l.length:=by
 induction l using pn with
 |h0=>exact⟨rfl,aT _⟩
 | h1 l d b=>
  by_cases a:d=0
  ·grind[mq]
  ·rw[nF l a,fi]
   grind
theorem I1(a:1<n)(b:0<m):0<(cO n m).getD ((cO n m).length-1) 0:=by
 have c:=(PJ a m).2
 grind[cO]
theorem KB(a:1<n)(c:m<n^k)(e:n^(k-1)<=m)(d:0<k):(cO n m).length=k:=by
 refine Nat.le_antisymm (pD a c) ?_;rcases db (cO n m).length k with h|h
 ·have b:=jv (fU a m);rw[eP a]at b;have:n^(cO n m).length<=n^(k-1):=di (by omega) (by omega);omega
 omega
theorem Wx(f:1<n)(o:0<m):let c:=(cO n m).length;let a:=(cO n m).getD (c-1) 0;let k:=n/(a+1)
  0<c/\a<n/\0<k/\k<=n/\n^(c-1)<=m/\m*k<n^c:=by
 intro c a k;have l:0<c:=fE.2 λe=>by grind[lL]
 have s:a<n:=cV (by omega) (fU f m) _;have j:0<k:=Nat.div_pos (by omega) (by omega);have g:=vX f o;refine⟨l,s,j,Nat.div_le_self _ _,g,?_⟩;have i:m<(a+1)*n^(c-1):=by
  have h:=rT n (cO n m) (c-1) (by omega);rw[pC (show(cO n m).length=c-1+1 by omega),eP f]at h;have p:=jv (b:=n) (x:=(cO n m).take (c-1)) (λd r=>fU f m d (dy r));rw[bq,dI (by omega)]at p;rw[dh,ew,cS a];show m<n^(c-1)*a+_;have:(cO n m).getD (c-1) 0=a:=rfl;rw[this]at h;omega
 have t:m*k<(a+1)*n^(c-1)*k:=Nat.mul_lt_mul_of_pos_right i j;have q:(a+1)*k<=n:=by rw[cS];exact Nat.div_mul_le_self _ _
 have w:(a+1)*n^(c-1)*k=(a+1)*k*n^(c-1):=by rw[Nat.mul_right_comm]
 have v:(a+1)*k*n^(c-1)<=n*n^(c-1):=bM _ q;have u:n*n^(c-1)=n^c:=by rw[cS,<-fF];congr 1;omega
 omega
def wid:Nat->Nat->List UInt8
 |0,_=>[]
 |n+1,u=>wid n (u/10)++[jo (u%10)]
theorem C4:∀n u,(wid n u).length=n
 |0,_=>rfl
 |n+1,u=>by rw[wid,bF,C4 n];rfl
theorem Ae:∀(n u:Nat),wid (n+1) u=jo (u/10^n%10)::wid n u
 |0,u=>by simp[wid]
 |n+1,u=>by
  rw[wid,Ae n (u/10),wid,fh,Nat.div_div_eq_div_mul,fF,cS 10]
theorem C3(a:m<10^(n+1))(c:n=0\/10^n<=m):wid (n+1) m=bn m:=by
 induction n generalizing m with
 |zero=>grind[gO,wid]
 |succ n b=>grind[mQ,Nat.le_div_iff_mul_le,wid]
theorem I3{u:Nat}:∀{n:Nat},u<10^n->0<n->wid n u=aQ (n-(bn u).length) 48++bn u
 |0,_,h=>absurd h (by omega)
 | n+1,h,_=>by
  by_cases b:n=0\/10^n<=u
  ·have c:=C3 h b;have d:=congrArg List.length c;rw[C4]at d
   simp_all
  ·have e:n≠0:=λh=>b (.inl h);have a:u<10^n:=Nat.lt_of_not_le λh=>b (.inr h);have f:=(iO (n:=u) (k:=n) (by omega)).2 a;rw[Ae,I3 a (by omega),hW a,show n+1-(bn u).length=(n-(bn u).length)+1 by omega,List.replicate_succ];rfl
theorem D2{Y:Nat}(a:0<Y):∀{n b:Nat},b<10^n->bn (Y*10^n+b)=bn Y++wid n b
 |0,b,h=>by simp_all[wid]
 | n+1,b,h=>by
  have c:b/10<10^n:=by rw[Nat.div_lt_iff_lt_mul (by omega),<-fF];exact h
  have g:=D2 a c;have d:0<10^n:=Nat.pow_pos (by omega);have f:0<Y*10^n+b/10:=Nat.add_pos_left (Nat.mul_pos a d) _;have e:Y*10^(n+1)+b=10*(Y*10^n+b/10)+b%10:=by
   rw[fF,kh,<-iI,cS (Y*10^n) 10];omega
  simp_all[uY,dJ,wid]
theorem Ie{b:Nat}(c:0<m)(a:b<1000000000):bn (b+1000000000*m)=bn m++aQ (9-(bn b).length) 48++bn b:=by
 have h:=D2 c (n:=9) (b:=b) a
 grind[I3]
theorem Ig{b:Nat}(a:b<1000000000):(bn b).length<=9:=(iO (by omega)).2 a
theorem wF(B:Nat)(y:List Nat)(k:Nat):bv B (y.take (k+1))=bv B (y.take k)+B^k*y.getD k 0:=by grind[eH,uw,bC]
theorem PE(a:0<n)(h:∀d∈x,d<n)(i:Nat):x.getD i 0<n:=by grind[getElem_mem]
theorem Ac{B:Nat}(m:1<B){L y:List Nat}{i k cy xi P p:Nat}(a:∀d∈L,d<B)(q:i+k<L.length)(f:cy<B)(j:xi<B)(g:y.getD k 0<B)(c:p=L.getD (i+k) 0+cy+xi*y.getD k 0)(n:bv B L+cy*B^(i+k)=P+xi*bv B (y.take k)*B^i):
  (∀d∈L.set (i+k) (p%B),d<B)/\p/B<B/\bv B (L.set (i+k) (p%B))+p/B*B^(i+(k+1))=P+xi*bv B (y.take (k+1))*B^i:=by
 have l:=PE (by omega) a (i+k);refine⟨λd e=>?_,?_,?_⟩
 ·rcases jW e with h|h
  ·exact a d h
  ·rw[h];exact dJ _ (by omega)
 ·rw[Nat.div_lt_iff_lt_mul (by omega),c];have b:xi*y.getD k 0<=(B-1)*(B-1):=fy (by omega) (by omega);obtain⟨C,rfl⟩:∃C,B=C+1:=⟨B-1,by omega⟩
  rw[Nat.add_sub_cancel]at b;have o:(C+1)*(C+1)=C*C+C+C+1:=by rw[nM,succ_mul];omega
  omega
 grind[FA,jP,wF]
theorem I0(l:1<n){L x y:List Nat}{i cy:Nat}(e:∀d∈x,d<n)(k:∀d∈y,d<n)(p:i<x.length)(m:∀d∈L,d<n)(c:bv n L+cy*n^(i+(y.length+1))=bv n (x.take i)*bv n y+x.getD i 0*bv n (y.take (y.length+1))*n^i):
  bv n L=bv n (x.take (i+1))*bv n y:=by
 have f:bv n (x.take (i+1))*bv n y=bv n (x.take i)*bv n y+x.getD i 0*bv n y*n^i:=by
  rw[wF,dh];congr 1;rw[iI,cS]
 rw[bC (by omega:y.length<=y.length+1),<-f]at c;have g:bv n (x.take (i+1))<n^(i+1):=by
  have:=jv (b:=n) (x:=x.take (i+1)) (λd j=>e d (dy j));rwa[bq,dI (by omega)]at this
 have a:=jv k;have o:bv n (x.take (i+1))*bv n y<n^(i+(y.length+1)):=by
  rw[show i+(y.length+1)=(i+1)+y.length by omega,Nat.pow_add];exact Nat.mul_lt_mul'' g a
 rcases dv cy with h|h
 ·grind
 ·have q:1*n^(i+(y.length+1))<=cy*n^(i+(y.length+1)):=bM _ h;omega
theorem wE(B n:Nat):bv B (aQ n 0)=0:=by
 induction n with
 |zero=>rfl
 |succ n a=>grind[bv]
def iC(c:UInt8):List UInt8->Nat
 |[]=>0
 |x::l=>if x=c then 0 else iC c l+1
theorem Aa(c:UInt8):∀(l:List UInt8)(i:Nat),i<=l.length->(∀j,j<i->l.getD j 0≠c)->(i<l.length->l.getD i 0=c)->iC c l=i
 |[],i,h,_,_=>by simp at h;subst h;rfl
 |x::l,0,h,_,b=>by simp_all[iC]
 |x::l,i+1,h,a,b=>by
  have e:=a 0 (by omega);unfold iC;rw[iN (by grind)];rw[Aa c l i (by grind) (λj f=>by grind) (λd=>by grind)]
def isNeg(a:List UInt8):Bool:=a.head? == aa 45
def dX(a:List UInt8):List UInt8:=if isNeg a then a.drop 1 else a
def numOf(a:List UInt8):List UInt8:=(dX a).take (iC 47 (dX a))
def eG(a:List UInt8):Bool:=decide (iC 47 (dX a)<(dX a).length)
def dS(a:List UInt8):List UInt8:=if eG a then(dX a).drop (iC 47 (dX a)+1)else[49]
def ft(a:List UInt8):Bool:=valid (numOf a)&&valid (dS a)&&decide ((numOf a).length<=400)&&decide ((dS a).length<=400) && !(isNeg a&&numOf a==[48]) && !(eG a&&(dS a==[48]||dS a==[49]))&&decide (Nat.gcd (val (numOf a)) (val (dS a))=1)
structure R1(a:List UInt8):Prop where
 num:valid (numOf a)=af
 den:valid (dS a)=af
 ln:(numOf a).length<=400
 ld:(dS a).length<=400
 neg:¬(isNeg a=af/\numOf a=[48])
 fr:¬(eG a=af/\(dS a=[48]\/dS a=[49]))
 one:Nat.gcd (val (numOf a)) (val (dS a))=1
theorem kc{a:List UInt8}:ft a=af↔R1 a:=by
 unfold ft;simp only[bg,cK,Bool.and_eq_false_iff,Bool.or_eq_false_iff,decide_eq_true_eq,beq_eq_false_iff_ne];constructor
 ·rintro⟨⟨⟨⟨⟨⟨c,d⟩,b⟩,f⟩,j⟩,i⟩,e⟩;refine⟨c,d,b,f,λ⟨g,h⟩=>?_,λ⟨g,h⟩=>?_,e⟩
  all_goals grind
 ·rintro⟨c,d,b,f,j,i,e⟩
  grind
theorem Bh{a:List UInt8}(h:valid a=af):a=[48]↔val a=0:=by grind[gP,gF]
theorem D3{a:List UInt8}(h:valid a=af):a=[49]↔val a=1:=by grind[gP,pF]
theorem Wy:val [49]=1:=by decide
theorem FK{a:List UInt8}(h:valid a=af)(c:0<k)(b:a.length<=k):val a<10^k:=by grind[gP,iO]
theorem D0{a:List UInt8}:R1 a↔(valid (numOf a)=af/\(numOf a).length<=400)/\(valid (dS a)=af/\(dS a).length<=400)/\dS a≠[48]/\¬(numOf a=[48]/\(isNeg a=af\/eG a=af))/\¬(dS a=[49]/\eG a=af)/\(Nat.gcd (val (numOf a)) (val (dS a))=1\/dS a=[49]):=by
 constructor
 ·rintro⟨d,e,c,f,j,h,i⟩
  grind[Bh,D3,dS]
 ·rintro⟨⟨d,c⟩,⟨e,f⟩,j,h,i,k⟩;refine⟨d,e,c,f,λ⟨b,g⟩=>h ⟨g,.inl b⟩,λ⟨b,g⟩=>?_,?_⟩
  all_goals grind[Wy,Nat.gcd_one_right]
def nE(s:Bool)(A:Nat)(t:Bool)(B:Nat):Bool×Nat:=if s=t then(s,A+B)else if A<B then(t,B-A)else(s,A-B)
def jM(a b:List UInt8):Int:=
 if ft a=af/\ft b=af then
  if(nE (isNeg a) (val (numOf a)*val (dS b)) (!isNeg b) (val (numOf b)*val (dS a))).2=0 then 0
  else if(nE (isNeg a) (val (numOf a)*val (dS b)) (!isNeg b) (val (numOf b)*val (dS a))).1=af then -1 else 1
 else 0
theorem Tu(e:k+k=m)(b:n<10^k)(a:i<10^k):n*i<10^m:=by
 subst e;rw[Nat.pow_add];exact Nat.mul_lt_mul'' b a
theorem Ia(b:n<10^400)(a:i<10^400):n*i<10^800:=Tu (k:=400) (m:=800) rfl b a
theorem Be(h:k<=m):10^k<=10^m:=di (by decide) h
theorem Tt:(10:Nat)^800+10^800<=10^1000:=by omega
theorem MN:ft [105,110,102]=aj:=by rfl
theorem zt:ft [45,105,110,102]=aj:=by rfl
theorem KA:ft [48]=af:=by decide
theorem H9{a:List UInt8}(h:ft a=af):jM a [48]=0↔a=[48]:=by
 constructor
 ·intro e;unfold jM at e;rw[iP ⟨h,KA⟩]at e;have r:=kc.1 h;have f:val (dS [48])=1:=by decide
  have i:val (numOf [48])=0:=by decide
  rw[f,i,dB,kj,show isNeg [48]=aj from rfl,Bool.not_false]at e;have d:val (numOf a)=0:=by
   unfold nE at e;by_cases b:isNeg a=af
   ·rw[iP b]at e;dsimp only at e;rw[eR]at e;by_cases c:val (numOf a)=0
    ·exact c
    ·rw[iN c,iP b]at e;exact absurd e (by decide)
   ·rw[iN b,iN (dR _)]at e;dsimp only at e;rw[Nat.sub_zero]at e;by_cases c:val (numOf a)=0
    ·exact c
    ·rw[iN c,iN b]at e;exact absurd e (by decide)
  have b:=(Bh r.num).2 d;have k:isNeg a=aj:=by
   cases g:isNeg a with
   |false=>rfl
   |true=>exact absurd ⟨g,b⟩ r.neg
  have j:dS a=[49]:=by
   refine(D3 r.den).2 ?_;have:=r.one;rw[d,Nat.gcd_zero_left]at this;exact this
  have l:eG a=aj:=by
   cases g:eG a with
   |false=>rfl
   |true=>exact absurd ⟨g,.inr j⟩ r.fr
  grind[bC,dX,numOf,eG]
 ·rintro rfl;decide
def fD(b:Int)(a:List UInt8):Bool:=decide (1<=b/\b<=3)&&ft a&&(b==1||decide (0<jM a [48]))
section
inductive oq(E:Nat->Nat->Prop)(F:Nat->Prop):Nat->Prop where
 |base {x:Nat} (h:F x):oq E F x
 |step {y x:Nat} (h:oq E F y) (e:E y x):oq E F x
def gh(L:List Bool):Nat:=(L.filter λb=> !b).length
theorem zZ:∀{L:List Bool}{s:Nat},s<L.length->L.getD s aj=aj->gh (L.set s af)+1=gh L
 |[],s,h,_=>by grind
 |b::L,0,h,a=>by grind[gh]
 |b::L,s+1,h,a=>by
  have c:=zZ (L:=L) (s:=s) (by simpa using h) (by simpa using a)
  grind[gh]
theorem qU{L:List Bool}{s x:Nat}(a:s<L.length):(L.set s af).getD x aj=if x=s then af else L.getD x aj:=by grind
structure qg(E:Nat->Nat->Prop)(F:Nat->Prop)(N:Nat)(L:List Bool)(T:List Nat)(ex:Nat->Prop):Prop where
 len:L.length=N
 tin:∀x∈T,x<N/\L.getD x aj=af
 snd:∀x,L.getD x aj=af->oq E F x
 cls:∀y,L.getD y aj=af->y∉T->¬ex y->∀z,E y z->L.getD z aj=af
section
variable {E:Nat->Nat->Prop} {F:Nat->Prop} {N:Nat} {L:List Bool} {T:List Nat} {ex:Nat->Prop}
theorem PH(n:Nat)(ex:Nat->Prop):qg E F n (aQ n aj) [] ex:=by
 have h:∀x,(aQ n aj).getD x aj=aj:=λx=>by grind
 exact⟨bX,λx a=>(by grind),λx a=>(by grind),λy b=>(by grind)⟩
theorem qg.see(v:qg E F N L T ex){s:Nat}(f:s<N)(m:oq E F s)(k:L.getD s aj=aj):qg E F N (L.set s af) (T++[s]) ex/\gh (L.set s af)+1=gh L:=by
 have b:s<L.length:=by rw[v.len];exact f
 refine⟨⟨by rw[dt];exact v.len,λx a=>?_,λx a=>?_,λy d e j z l=>?_⟩,zZ b k⟩
 ·rcases bG.1 a with h|h
  ·obtain⟨g,i⟩:=v.tin x h;refine⟨g,?_⟩;rw[qU b];split
   ·rfl
   ·exact i
  grind
 ·rw[qU b]at a;split at a
  ·grind
  ·exact v.snd x a
 ·rw[qU b]at d⊢;split
  ·rfl
  ·split at d
   ·grind
   ·exact v.cls y d (λc=>e (bG.2 (.inl c))) j z l
theorem qg.take{s:Nat}(v:qg E F N L T (λ_=>False))(e:∀x∈y,x∈T)(f:∀x∈T,x∈y\/x=s):qg E F N L y (λb=>b=s):=
 ⟨v.len,λx d=>v.tin x (e x d),v.snd,λb i a g z h=>v.cls b i (λc=>(f b c).elim a g) (λc=>c) z h⟩
theorem qg.done{s:Nat}(v:qg E F N L T (λy=>y=s))(h:∀z,E s z->L.getD z aj=af):qg E F N L T (λ_=>False):=
 ⟨v.len,v.tin,v.snd,λy c a _ z b=>by
  by_cases e:y=s
  ·grind
  ·exact v.cls y c a e z b⟩
theorem qg.final(v:qg E F N L [] (λ_=>False))(b:∀x,F x->L.getD x aj=af)(x:Nat):L.getD x aj=af↔oq E F x:=by
 refine⟨v.snd x,λh=>?_⟩
 induction h with
 |base h=>grind
 |step _ e a=>exact v.cls _ a (λc=>(by cases c)) (λc=>c) _ e
end
end
end Go.Num
end
section
namespace Go.Ab
open Go
variable{n:Nat}{m:Nat}{p:List Int}
section
abbrev kQ(l:List Bool)(q:Nat):Prop:=l.getD q aj=af
theorem Du{l:List Bool}{q:Nat}(h:kQ l q):q<l.length:=by grind
theorem vy{l:List Bool}{q:Nat}(h:n<l.length):kQ (l.set n af) q↔q=n\/kQ l q:=by grind
theorem Ly{l l':List Bool}(a:l.length=l'.length)(h:∀q,kQ l q↔kQ l' q):l=l':=by
 refine List.ext_getElem a λi b c=>?_;have:=h i
 grind
noncomputable def Ur(n:Nat)(P:Nat->Prop):List Bool:=(dA n).map λq=>@decide (P q) (dU _)
theorem uF(n:Nat)(P:Nat->Prop):(Ur n P).length=n:=by simp[Ur]
theorem vz{q:Nat}{P:Nat->Prop}:kQ (Ur n P) q↔q<n/\P q:=by
 unfold kQ Ur;by_cases h:q<n<;>simp[gD,h]
inductive FO(M:cm):Nat->Nat->Prop
 |refl (q:Nat):FO M q q
 |tail {p q:Nat} {a:eC} (r:FO M p q) (h:a∈dp M q) (h0:a.i=0):FO M p a.t.toNat
noncomputable def Iq(M:cm)(l:List Bool):List Bool:=Ur l.length λq=>∃p,kQ l p/\FO M p q
structure Ba(M:cm)(l l':List Bool):Prop where
 len:l'.length=l.length
 sub:∀q,kQ l q->kQ l' q
 low:∀q,kQ l' q->∃p,kQ l p/\FO M p q
def A8(M:cm)(l:List Bool)(q:Nat):Prop:=kQ l q->∀a∈dp M q,a.i=0->kQ l a.t.toNat
theorem Ba.refl(M:cm)(l:List Bool):Ba M l l:=⟨rfl,λ_ h=>h,λq h=>⟨q,h,.refl q⟩⟩
theorem Ba.set{M:cm}{l l':List Bool}(m:Ba M l l'){q:Nat}{a:eC}(f:kQ l' q)(h:a∈dp M q)(i:a.i=0)(d:a.t.toNat<l.length):Ba M l (l'.set a.t.toNat af):=by
 have c:a.t.toNat<l'.length:=by rw[m.len];exact d
 refine⟨by rw[dt];exact m.len,λp b=>(vy c).2 (.inr (m.sub p b)),λp b=>?_⟩;rcases(vy c).1 b with rfl|b
 ·obtain⟨r,e,g⟩:=m.low q f;exact⟨r,e,g.tail h i⟩
 ·exact m.low p b
theorem FO.mem{M:cm}{l:List Bool}{p q:Nat}(r:FO M p q)(d:∀q,A8 M l q)(c:kQ l p):kQ l q:=by
 induction r with
 |refl=>exact c
 |tail r h b a=>exact d _ a _ h b
theorem Ba.Iq{M:cm}{l l':List Bool}(m:Ba M l l')(c:∀q,A8 M l' q):l'=Iq M l:=by
 refine Ly (by rw[m.len];exact(uF ..).symm) λq=>?_;unfold Go.Ab.Iq;rw[vz];constructor
 ·intro h;exact⟨by rw[<-m.len];exact Du h,m.low q h⟩
 ·rintro⟨_,p,a,b⟩;exact b.mem c (m.sub p a)
noncomputable def mL(M:cm):List Bool:=Iq M ((aQ M.aI.length aj).set M.start.toNat af)
def Tr(M:cm)(l:List Bool)(c:Int)(q:Nat):Prop:=∃p a,kQ l p/\a∈dp M p/\a.i=c/\a.t.toNat=q
noncomputable def fT(M:cm)(l:List Bool)(c:Int):List Bool:=Iq M (Ur l.length (Tr M l c))
def wB(M:cm)(l:List Bool)(c:Int):Prop:=∃q,Tr M l c q
def yY(M:cm)(l:List Bool):Prop:=∃p,kQ l p/\jD M p
noncomputable def qu(M:cm)(x:List Int):List Bool:=x.foldl (fT M) (mL M)
def Tp(M:cm)(x:List Int):Prop:=∃l y,A2 M l x y
def Ts(M:cm):Prop:=∀p,∀a∈dp M p,a.t.toNat<M.aI.length
section
variable {M:cm} {l:List Bool}
theorem By:(Iq M l).length=l.length:=uF ..
theorem rq{c:Int}:(fT M l c).length=l.length:=by unfold fT;rw[By,uF]
theorem ri:(mL M).length=M.aI.length:=by unfold mL;simp[By]
theorem Se(h:Ts M)(d:l.length=M.aI.length):∀q,A8 M (Iq M l) q:=λq b a c g=>by
 unfold Iq at b⊢;rw[vz]at b⊢;obtain⟨_,p,e,f⟩:=b;exact⟨by rw[d];exact h _ _ c,p,e,f.tail c g⟩
theorem Ha(g:Ts M)(i:l.length=M.aI.length){c:Int}{q:Nat}:kQ (fT M l c) q↔ ∃p a,kQ l p/\a∈dp M p/\a.i=c/\FO M a.t.toNat q:=by
 unfold fT Iq;rw[vz,uF];constructor
 ·rintro⟨_,r,b,d⟩;rw[vz]at b;obtain⟨_,p,a,f,e,j,rfl⟩:=b;exact⟨p,a,f,e,j,d⟩
 ·rintro⟨p,a,b,d,f,e⟩;have k:=g _ _ d;refine⟨?_,_,vz.2 ⟨by omega,p,a,b,d,f,rfl⟩,e⟩
  cases e with
  |refl=>omega
  |tail _ h _=>rw[i];exact g _ _ h
theorem aaT(g:Ts M)(f:l.length=M.aI.length){c:Int}:wB M l c↔ ∃q,kQ (fT M l c) q:=by
 constructor
 ·rintro⟨q,p,a,d,e,b,rfl⟩;exact⟨_,(Ha g f).2 ⟨p,a,d,e,b,.refl _⟩⟩
 ·rintro⟨q,h⟩;obtain⟨p,a,d,e,b,_⟩:=(Ha g f).1 h;exact⟨_,p,a,d,e,b,rfl⟩
theorem FO.pth{q:Nat}{k:List Nat}{x:List Int}(r:FO M n q)(h:iR M q k m x p):∃k p,iR M n k m x p:=by
 induction r generalizing k x p with
 |refl=>exact⟨k,p,h⟩
 |tail r b d a=>
  obtain⟨i,c⟩:=getElem?_of_mem b;have:=iR.cons c h;rw[d,gx]at this;exact a this
theorem SV(m:Ts M):∀(x:List Int){l:List Bool},l.length=M.aI.length->(∀q,A8 M l q)->(∀c∈x,c≠0)->∀{q:Nat},kQ (x.foldl (fT M) l) q↔ ∃p k y,kQ l p/\iR M p k q x y
 | [],l,g,v,_,q=>by
  constructor
  ·intro h;exact⟨q,[],[],h,.nil _⟩
  ·rintro⟨p,k,y,h,r⟩;show kQ l q;generalize b:([]:List Int)=x at r
   induction r with
   |nil=>exact h
   |@cons s i e a k x y u r o=>
    by_cases f:a.i=0
    ·rw[f,gx]at b;exact o (v _ h _ (aM u) f) b
    ·rw[ji f]at b;cases b
 | c::x,l,g,v,b,q=>by
  have B:=b c (cj ..);have A:(fT M l c).length=M.aI.length:=by rw[rq,g]
  rw[j7,SV m x A (Se m (by rw[uF,g])) (λd F=>b d (cF _ F))];constructor
  ·rintro⟨G,k,y,h,r⟩;obtain⟨p,a,n,t,C,D⟩:=(Ha m g).1 h;obtain⟨k,y,r⟩:=D.pth r;obtain⟨i,E⟩:=getElem?_of_mem t;have:=iR.cons E r;rw[C,ji B]at this;exact⟨p,_,_,n,this⟩
  ·rintro⟨p,k,y,h,r⟩;generalize j:c::x=z at r
   induction r with
   |nil=>cases j
   | @cons s i e a k H y u r o=>
    have w:=aM u;by_cases f:a.i=0
    ·rw[f,gx]at j;exact o (v _ h _ w f) j
    ·rw[ji f]at j;injection j with n t
     subst t;exact⟨_,_,_,(Ha m g).2 ⟨_,a,h,w,n.symm,.refl _⟩,r⟩
theorem XO(d:Ts M)(a:M.start.toNat<M.aI.length){q:Nat}:kQ (mL M) q↔FO M M.start.toNat q:=by
 unfold mL Iq;rw[vz];constructor
 ·rintro⟨_,p,b,c⟩;rw[vy (by simpa using a)]at b;have:p=M.start.toNat:=by grind
  rwa[this]at c
 ·intro h;refine⟨?_,_,(vy (by simpa using a)).2 (.inl rfl),h⟩;rw[dt,bX]
  cases h with
  |refl=>exact a
  |tail _ h _=>exact d _ _ h
theorem Fk(a:Ts M)(b:M.start.toNat<M.aI.length){x:List Int}(d:∀c∈x,c≠0){q:Nat}:kQ (qu M x) q↔ ∃k y,iR M M.start.toNat k q x y:=by
 unfold qu;rw[SV a x ri (Se a (by simp)) d];constructor
 ·rintro⟨p,k,y,h,r⟩;exact((XO a b).1 h).pth r
 ·rintro⟨k,y,r⟩;exact⟨_,k,y,(XO a b).2 (.refl _),r⟩
theorem Gy(d:Ts M)(a:M.start.toNat<M.aI.length){x:List Int}(b:∀c∈x,c≠0):yY M (qu M x)↔Tp M x:=by
 unfold yY Tp A2;constructor
 ·rintro⟨p,h,f⟩;obtain⟨k,y,r⟩:=(Fk d a b).1 h;exact⟨k,y,p,r,f⟩
 ·rintro⟨k,y,p,r,f⟩;exact⟨p,(Fk d a b).2 ⟨k,y,r⟩,f⟩
theorem JZ{x:List Int}{c:Int}:qu M (x++[c])=fT M (qu M x) c:=by unfold qu;rw[List.foldl_append];rfl
theorem NJ:∀(x:List Int)(l:List Bool),(x.foldl (fT M) l).length=l.length
 |[],_=>rfl
 |c::x,l=>by rw[j7,NJ x,rq]
theorem CC{x:List Int}:(qu M x).length=M.aI.length:=by unfold qu;rw[NJ,ri]
end
end
section
structure Ii(M:cm)(L:List (List Bool))(one:List UInt8)(l:List Bool)(s:il):Prop where
 f0:s.f=one\/s.f=[]
 f1:s.f=one↔yY M l
 a:∀x∈s.bB,x.o=x.i/\x.w=one/\1<=x.i/\x.i<=500/\0<=x.t/\wB M l x.i/\L[x.t.toNat]?=aa (fT M l x.i)
 all:∀c,1<=c->wB M l c->∃x∈s.bB,x.i=c
 pw:s.bB.Pairwise λx y=>x.i<y.i
structure sP(M N:cm)(L:List (List Bool))(one:List UInt8):Prop where
 nd:L.Nodup
 l0:L[0]?=aa (mL M)
 len:∀l∈L,l.length=M.aI.length
 kind:N.kind=M.kind
 start:N.start=0
 lead:N.lead=one
 AW:N.aI.length=L.length
 st:∀(i:Nat)(l:List Bool)(s:il),L[i]?=aa l->N.aI[i]?=aa s->Ii M L one l s
section
variable {M N:cm} {L:List (List Bool)} {one:List UInt8}
theorem sP.at_(h:sP M N L one){i:Nat}{l:List Bool}(a:L[i]?=aa l):∃s,N.aI[i]?=aa s/\dp N i=s.bB/\(jD N i↔s.f≠[])/\Ii M L one l s:=by
 have b:=(List.getElem?_eq_some_iff.1 a).1;have e:N.aI[i]?=aa (N.aI[i]'(by rw[h.AW];exact b)):=gE _;refine⟨_,e,?_,?_,h.st i l _ a e⟩
 ·unfold dp;rw[gD,e];rfl
 ·unfold jD;rw[gD,e];rfl
theorem sP.out(h:sP M N L one){i:Nat}(a:L.length<=i):dp N i=[]:=by
 unfold dp;rw[gD,getElem?_eq_none (by rw[h.AW];exact a)];rfl
theorem sP.pth(h:sP M N L one){i j:Nat}{k:List Nat}{x y:List Int}(r:iR N i k j x y):∀{l:List Bool},L[i]?=aa l->L[j]?=aa (x.foldl (fT M) l)/\∀c∈x,1<=c:=by
 induction r with
 |nil s=>intro l d;exact⟨d,λc b=>by cases b⟩
 |@cons s n e a k x y f r p=>
  intro l d;obtain⟨w,v,t,_,o⟩:=h.at_ d;rw[t]at f;obtain⟨_,_,u,_,_,_,q⟩:=o.a a (aM f);obtain⟨g,m⟩:=p q;rw[ji (by omega)];refine⟨g,λc b=>?_⟩;rcases cW.1 b with rfl|b
  ·exact u
  ·exact m c b
theorem Jr(d:Ts M):∀(x:List Int){l:List Bool},l.length=M.aI.length->(∀q,¬kQ l q)->∀q,¬kQ (x.foldl (fT M) l) q
 |[],l,_,h,q=>h q
 | c::x,l,b,h,q=>Jr d x (by rw[rq,b]) (λq f=>by
   obtain⟨p,a,e,_⟩:=(Ha d b).1 f;exact h p e) q
theorem sP.ex(g:Ts M)(h:sP M N L one):∀(x:List Int){i:Nat}{l:List Bool},L[i]?=aa l->(∀c∈x,1<=c)->yY M (x.foldl (fT M) l)->∃k j y,iR N i k j x y/\L[j]?=aa (x.foldl (fT M) l)
 |[],i,l,f,_,_=>⟨[],i,[],.nil _,f⟩
 | c::x,i,l,f,o,m=>by
  have D:=o c (cj ..);have b:=h.len l (aM f);have w:wB M l c:=by
   rw[aaT g b];refine Classical.byContradiction λe=>?_;obtain⟨p,A,_⟩:=m;exact Jr g x (l:=fT M l c) (by rw[rq,b]) (λq u=>e ⟨q,u⟩) p A
  obtain⟨F,E,z,_,s⟩:=h.at_ f;obtain⟨a,t,rfl⟩:=s.all c D w;obtain⟨_,_,_,_,_,_,v⟩:=s.a a t;obtain⟨k,j,y,r,C⟩:=sP.ex g h x v (λd B=>o d (cF _ B)) m;obtain⟨n,e⟩:=getElem?_of_mem t;rw[<-z]at e;have:=iR.cons e r;rw[ji (by omega)]at this;exact⟨_,j,_,this,C⟩
theorem sP.fin(h:sP M N L one)(c:one≠[]){i:Nat}{l:List Bool}(d:L[i]?=aa l):jD N i↔yY M l:=by
 obtain⟨g,_,_,f,b⟩:=h.at_ d;rw[f,<-b.f1];rcases b.f0 with e|e
 ·rw[e];exact⟨λ_=>rfl,λ_=>c⟩
 ·rw[e];exact⟨λa=>absurd rfl a,λa=>absurd a.symm c⟩
def NnI(M:cm):Prop:=∀p,∀a∈dp M p,0<=a.i
theorem acr(b:NnI M){p q:Nat}{k:List Nat}{x y:List Int}(r:iR M p k q x y):∀c∈x,1<=c:=by
 induction r with
 |nil=>intro c h;cases h
 |@cons s i e a k x y d r f=>
  intro c h;have:=b s a (aM d);unfold opt at h
  grind
theorem sP.dom(d:Ts M)(l:M.start.toNat<M.aI.length)(o:NnI M)(h:sP M N L one)(m:one≠[])(x:List Int):Tp N x↔Tp M x:=by
 have i:Tp N x↔(∀c∈x,1<=c)/\yY M (qu M x):=by
  unfold Tp A2 qu;rw[h.start];constructor
  ·rintro⟨k,y,e,r,f⟩;obtain⟨a,b⟩:=h.pth r h.l0;exact⟨b,(h.fin m a).1 f⟩
  ·rintro⟨a,b⟩;obtain⟨k,j,y,r,p⟩:=h.ex d x h.l0 a b;exact⟨k,y,j,r,(h.fin m p).2 b⟩
 rw[i];constructor
 ·rintro⟨a,b⟩;exact(Gy d l λc g=>by have:=a c g;omega).1 b
 ·rintro n;have a:∀c∈x,1<=c:=by
   obtain⟨k,y,e,r,_⟩:=n;exact acr o r
  exact⟨a,(Gy d l λc g=>by have:=a c g;omega).2 n⟩
theorem aeG{s:il}(i:s.bB.Pairwise λx y=>x.i<y.i){m n:Nat}{x y:eC}(g:s.bB[m]?=aa x)(f:s.bB[n]?=aa y)(e:x.i=y.i):m=n:=by
 obtain⟨c,d⟩:=List.getElem?_eq_some_iff.1 g;obtain⟨a,b⟩:=List.getElem?_eq_some_iff.1 f;have:=List.pairwise_iff_getElem.1 i;rcases Nat.lt_trichotomy m n with h|h|h
 ·have:=this m n c a h;rw[d,b]at this;omega
 ·exact h
 ·have:=this n m a c h;rw[d,b]at this;omega
theorem sP.ac4(h:sP M N L one):∀{i:Nat}{k d:List Nat}{j t:Nat}{x y p:List Int},iR N i k j x y->iR N i d t x p->k=d:=by
 intro i k d j t x y p r
 induction r generalizing d t p with
 | nil s=>
  intro g
  cases d with
  |nil=>rfl
  | cons n d=>
   obtain⟨a,B,p,c,g,f,_⟩:=g.cons_inv;by_cases u:s<L.length
   ·obtain⟨D,z,q,_,l⟩:=h.at_ (gE u);rw[q]at c;have:=(l.a a (aM c)).2.2.1;rw[ji (by omega)]at f
    cases f
   ·rw[h.out (by omega)]at c;simp at c
 | @cons s n e a k x y c r C=>
  intro g;by_cases u:s<L.length
  rotate_left
  ·rw[h.out (by omega)]at c;simp at c
  obtain⟨D,z,q,_,l⟩:=h.at_ (gE u);rw[q]at c;have G:=(l.a a (aM c)).2.2.1;rw[ji (show a.i≠0 by omega)]at g
  cases d with
  |nil=>obtain⟨_,f,_⟩:=g.oL;cases f
  |cons m d=>
   obtain⟨b,B,E,o,A,f,_⟩:=g.cons_inv;rw[q]at o;have F:=(l.a b (aM o)).2.2.1;rw[ji (show b.i≠0 by omega)]at f;injection f with v w
   obtain rfl:=aeG l.pw c o v;obtain rfl:=aG (c.symm.trans o);subst w;rw[C A]
theorem sP.uns(h:sP M N L one):Bl N:=by
 rintro k b x y z ⟨e,r,_⟩ ⟨c,a,_⟩;exact h.ac4 r a
end
theorem Dd:∀(n:Nat)(L:List (List Bool)),L.Nodup->(∀l∈L,l.length=n)->L.length<=2^n
 | 0,L,k,h=>by
  cases L with
  |nil=>simp
  | cons a L=>
   cases L with
   |nil=>simp
   |cons b L=>
    have o:=bE (h a (by simp));have g:=bE (h b (by simp));subst o;subst g;simp at k
 | n+1,L,k,h=>by
  have d:∀c:Bool,((L.filter λl=>l.head? == aa c).map List.tail).length<=2^n:=λc=>by
   refine Dd n _ ?_ λl f=>?_
   ·have r:(L.filter λl=>l.head? == aa c).Nodup:=k.sublist List.filter_sublist;refine List.Pairwise.map _ (R:=λa b=>a≠b/\a.head?=aa c/\b.head?=aa c) ?_ ?_
    ·rintro a b ⟨o,g,m⟩ e
     cases a with
     |nil=>simp at g
     | cons x a=>
      cases b with
      |nil=>simp at m
      |cons y b=>
       simp at g m e;exact o (by rw[g,m,e])
    ·refine(List.pairwise_iff_getElem.2 λi j s u t=>?_);refine⟨List.pairwise_iff_getElem.1 r i j s u t,?_,?_⟩
     ·have:=(fe.1 (getElem_mem s)).2;simpa using this
     ·have:=(fe.1 (getElem_mem u)).2;simpa using this
   ·obtain⟨l',q,rfl⟩:=cI.1 f;have:=h l' (fe.1 q).1;rw[List.length_tail,this];rfl
  have z:L.length=(L.filter λl=>l.head? == aa af).length+(L.filter λl=>l.head? == aa aj).length:=by
   clear d k
   induction L with
   |nil=>rfl
   |cons l L p=>
    have f:=h l (by simp);have p:=p λl f=>h l (by simp[f])
    cases l with
    |nil=>simp at f
    |cons c l=>cases c<;>simp_all<;>omega
  have w:=d af;have v:=d aj;rw[aH]at w v;rw[fF];omega
end
variable{A:Type}{i:Nat}
section
theorem Dt{a:Type}[BEq a][LawfulBEq a]:∀{l m:List a},l.Nodup->(∀x∈l,x∈m)->l.length<=m.length
 |[],m,_,_=>ck _
 |x::l,m,d,h=>by
  have b:=h x (cj ..);obtain⟨f,g⟩:=List.nodup_cons.1 d;have:=Dt (m:=m.erase x) g λy c=>(List.mem_erase_of_ne λe=>f (by rw[<-e];exact c)).2 (h y (cF _ c));rw[List.length_erase_of_mem b]at this;have:=List.length_pos_of_mem b;rw[bU];omega
def Tq(M:cm)(K:Nat):Prop:=∀l:List Int,l.Nodup->(∀z∈l,∃p,∃a∈dp M p,a.i=z)->l.length<=K
theorem af7{M:cm}{K:Nat}(h:(M.aI.flatMap λs=>s.bB).length<=K):Tq M K:=λl c d=>by
 refine bN (Dt (m:=(M.aI.flatMap λs=>s.bB).map (·.i)) c λz f=>?_) (by rw[aH];exact h);obtain⟨p,a,b,rfl⟩:=d z f;refine cI.2 ⟨a,List.mem_flatMap.2 ?_,rfl⟩;unfold dp at b;rw[gD]at b
 cases e:M.aI[p]? with
 |none=>rw[e]at b;cases b
 |some s=>rw[e]at b;exact⟨s,aM e,b⟩
structure Fy(M:cm)(L:List (List Bool))(one:List UInt8)(l:List Bool)(P:Int->Prop)(bB:List eC):Prop where
 a:∀x∈bB,(x.o=x.i/\x.w=one/\1<=x.i/\x.i<=500/\0<=x.t/\wB M l x.i/\L[x.t.toNat]?=aa (fT M l x.i))/\P x.i
 all:∀c,P c->wB M l c->∃x∈bB,x.i=c
 pw:bB.Pairwise λx y=>x.i<y.i
structure I5(M:cm)(one:List UInt8)(L:List (List Bool))(ss:List il):Prop where
 nd:L.Nodup
 l0:L[0]?=aa (mL M)
 len:∀l∈L,l.length=M.aI.length
 st:∀(i:Nat)(l:List Bool)(s:il),L[i]?=aa l->ss[i]?=aa s->Ii M L one l s
 le:ss.length<=L.length
section
variable {M:cm} {L:List (List Bool)} {one:List UInt8} {l:List Bool} {P P':Int->Prop} {bB:List eC} {ss:List il}
theorem C8{L:List A}{x:A}(h:L[i]?=aa x)(X:List A):(L++X)[i]?=aa x:=by
 rw[List.getElem?_append_left (List.getElem?_eq_some_iff.1 h).1];exact h
theorem Fy.nil(h:∀c,¬P c):Fy M L one l P []:=⟨λx a=>(by cases a),λc b=>absurd b (h c),.nil⟩
theorem Fy.mono(r:Fy M L one l P bB)(X:List (List Bool)):Fy M (L++X) one l P bB:=by
 refine⟨λx c=>?_,r.all,r.pw⟩;obtain⟨⟨d,e,a,g,i,h,f⟩,b⟩:=r.a x c;exact⟨⟨d,e,a,g,i,h,C8 f X⟩,b⟩
theorem Fy.skip(r:Fy M L one l P bB){s:Int}(b:∀c,P' c↔P c\/c=s)(h:¬wB M l s):Fy M L one l P' bB:=by
 refine⟨λx d=>⟨(r.a x d).1,(b _).2 (.inl (r.a x d).2)⟩,λc a e=>?_,r.pw⟩;rcases(b c).1 a with a|rfl
 ·exact r.all c a e
 ·exact absurd e h
theorem Fy.add(r:Fy M L one l P bB){s:Int}(b:∀c,P' c↔P c\/c=s)(f:∀c,P c->c<s)(h:wB M l s)(g:1<=s)(i:s<=500){j:Nat}(m:L[j]?=aa (fT M l s)):Fy M L one l P' (bB++[⟨s,s,one,(j:Int)⟩]):=by
 refine⟨λx a=>?_,λc d k=>?_,?_⟩
 ·rcases bG.1 a with a|a
  ·exact⟨(r.a x a).1,(b _).2 (.inl (r.a x a).2)⟩
  ·obtain rfl:=ba.1 a;exact⟨⟨rfl,rfl,g,i,Int.natCast_nonneg _,h,by simpa using m⟩,(b _).2 (.inr rfl)⟩
 ·rcases(b c).1 d with d|rfl
  ·obtain⟨x,a,e⟩:=r.all c d k;exact⟨x,ey _ a,e⟩
  ·exact⟨_,List.mem_append_right _ (ba.2 rfl),rfl⟩
 ·refine List.pairwise_append.2 ⟨r.pw,je ..,λx a y n=>?_⟩;obtain rfl:=ba.1 n;exact f _ (r.a x a).2
theorem Fy.Wp(r:Fy M L one l P bB){K:Nat}(d:Tq M K):bB.length<=K:=by
 have:=d (bB.map (·.i)) (List.Pairwise.map _ (λa b h=>by omega) r.pw) λz g=>by
  obtain⟨x,e,rfl⟩:=cI.1 g;obtain⟨q,p,a,_,f,c,_⟩:=(r.a x e).1.2.2.2.2.2.1;exact⟨p,a,f,c⟩
 rwa[aH]at this
theorem Fy.st(r:Fy M L one l P bB)(d:∀c,1<=c->wB M l c->P c){f:List UInt8}(b:f=one\/f=[])(g:f=one↔yY M l):Ii M L one l ⟨f,bB⟩:=
 ⟨b,g,λx e=>(r.a x e).1,λc h a=>r.all c (d c h a) a,r.pw⟩
theorem Ii.mono{s:il}(r:Ii M L one l s)(X:List (List Bool)):Ii M (L++X) one l s:=by
 refine⟨r.f0,r.f1,λx b=>?_,r.all,r.pw⟩;obtain⟨c,d,a,f,h,g,e⟩:=r.a x b;exact⟨c,d,a,f,h,g,C8 e X⟩
theorem I5.new(M:cm)(one:List UInt8):I5 M one [mL M] []:=⟨je ..,rfl,λl a=>by rw[ba.1 a];exact ri,λi l s _ b=>by simp at b,ck _⟩
theorem I5.add(r:I5 M one L ss)(h:l∉L)(g:l.length=M.aI.length):I5 M one (L++[l]) ss:=by
 refine⟨?_,C8 r.l0 _,λx c=>?_,λi x s c d=>?_,by rw[bF];have:=r.le;omega⟩
 ·refine fx.2 ⟨r.nd,je ..,λa j b f e=>?_⟩;obtain rfl:=ba.1 f;exact h (e▸j)
 ·rcases bG.1 c with c|c
  ·exact r.len x c
  ·rw[ba.1 c];exact g
 ·have k:=(List.getElem?_eq_some_iff.1 d).1;have:=r.le;rw[List.getElem?_append_left (by omega)]at c;exact(r.st i x s c d).mono _
theorem I5.done(r:I5 M one L ss)(b:L[ss.length]?=aa l){s:il}(d:Ii M L one l s):I5 M one L (ss++[s]):=by
 refine⟨r.nd,r.l0,r.len,λi x y c a=>?_,by rw[bF,de];exact(List.getElem?_eq_some_iff.1 b).1⟩;by_cases h:i<ss.length
 ·rw[List.getElem?_append_left h]at a;exact r.st i x y c a
 ·rw[List.getElem?_append_right (by omega)]at a;have e:i-ss.length=0:=by
   have:=(List.getElem?_eq_some_iff.1 a).1;simp at this;omega
  rw[e]at a;obtain rfl:s=y:=by simpa using a
  obtain rfl:i=ss.length:=by omega
  obtain rfl:=aG (b.symm.trans c);exact d
theorem I5.sub(r:I5 M one L ss)(h:L.length<=ss.length):sP M ⟨M.kind,0,one,ss⟩ L one:=⟨r.nd,r.l0,r.len,rfl,rfl,rfl,by have:=r.le;show ss.length=_;omega,r.st⟩
theorem I5.Wp(r:I5 M one L ss)(h:M.aI.length<=8):L.length<=256:=bN (Dd _ L r.nd r.len) (di (n:=2) (by decide) h)
end
end
variable{M:cm}{s:List UInt8}
section
def Bi(l:List Bool):Prop:=∀p q,kQ l p->kQ l q->p=q
def wT:List Bool->Nat
 |[]=>0
 |b::l=>if b then 0 else wT l+1
theorem BA:∀l:List Bool,wT l<=l.length
 |[]=>aT _
 |b::l=>by
  have:=BA l;unfold wT;split<;>simp<;>omega
theorem BC:∀{l:List Bool},wT l<l.length->kQ l (wT l)
 |[],h=>absurd h (dR _)
 | b::l,h=>by
  unfold wT at h⊢;split
  ·next e=>simpa[kQ]using e
  ·next e=>
   rw[iN e,bU]at h;have:=BC (l:=l) (by omega);simpa[kQ]using this
theorem Gg:∀{l:List Bool}{q:Nat},kQ l q->wT l<l.length
 |[],q,h=>by simp[kQ]at h
 | b::l,q,h=>by
  unfold wT;split
  ·simp
  ·next e=>
   cases q with
   |zero=>simp[kQ]at h;exact absurd h e
   |succ q=>
    have:=Gg (l:=l) (q:=q) (by simpa[kQ]using h);rw[bU];omega
theorem Nf{l l':List Bool}(d:l.length=l'.length)(h:Bi l)(f:Bi l')(e:wT l=wT l'):l=l':=by
 refine Ly d λq=>⟨λa=>?_,λa=>?_⟩
 ·have b:=Gg a;have c:=h _ _ a (BC b);rw[c,e];exact BC (by omega)
 ·have b:=Gg a;have c:=f _ _ a (BC b);rw[c,<-e];exact BC (by omega)
theorem acf:∀(n:Nat){l:List Nat},l.Nodup->(∀x∈l,x<n)->l.length<=n:=λn l a h=>by
 have:=Dt (m:=dA n) a λx b=>List.mem_range.2 (h x b);rwa[List.length_range]at this
theorem UX{P:List (List Bool×List Bool)}(g:P.Nodup)(h:∀p∈P,p.1.length=n/\p.2.length=m/\Bi p.1/\Bi p.2):P.length<=(n+1)*(m+1):=by
 have c:∀p∈P,∀q∈P,wT p.1*(m+1)+wT p.2=wT q.1*(m+1)+wT q.2->p=q:=λp a q b e=>by
  obtain⟨w,j,r,s⟩:=h p a;obtain⟨y,z,i,o⟩:=h q b;have t:=BA p.2;have u:=BA q.2;have v:=congrArg (· / (m+1)) e;have d:=congrArg (· % (m+1)) e;rw[cS,mU (by omega),hW (by omega),cS,mU (by omega),hW (by omega)]at v;rw[cS,pK,ef (by omega),cS,pK,ef (by omega)]at d;exact Prod.ext (Nf (by omega) r i (by omega)) (Nf (by omega) s o d)
 have:=acf ((n+1)*(m+1)) (l:=P.map λp=>wT p.1*(m+1)+wT p.2) ?_ ?_
 ·rwa[aH]at this
 ·refine List.pairwise_map.2 ?_;refine List.Pairwise.imp_of_mem (λa b f e=>f (c _ a _ b e)) g
 ·intro x k;obtain⟨p,a,rfl⟩:=cI.1 k;obtain⟨w,j,_⟩:=h p a;have t:=BA p.1;have u:=BA p.2;have:wT p.1*(m+1)<=n*(m+1):=bM _ (by omega);rw[dh,ew];omega
theorem sP.one{N:cm}{L:List (List Bool)}(h:sP M N L s)(d:Ts N)(b:N.start.toNat<N.aI.length){x:List Int}(f:∀c∈x,1<=c):Bi (qu N x):=λp q i g=>by
 have a:∀c∈x,c≠0:=λc j=>by have:=f c j;omega
 obtain⟨k,y,r⟩:=(Fk d b a).1 i;obtain⟨l,m,e⟩:=(Fk d b a).1 g;obtain rfl:=h.ac4 r e;exact(r.det e).1
structure PrR(A B:cm)(P:List (List Bool×List Bool)):Prop where
 nd:P.Nodup
 rch:∀p∈P,∃x:List Int,(∀c∈x,1<=c)/\p=(qu A x,qu B x)
section
variable {A B:cm} {P:List (List Bool×List Bool)}
theorem PrR.new(A B:cm):PrR A B [(mL A,mL B)]:=⟨je ..,λp a=>⟨[],λc b=>(by cases b),ba.1 a⟩⟩
theorem PrR.add(r:PrR A B P){p:List Bool×List Bool}(l:p∈P){c:Int}(m:1<=c)(i:(fT A p.1 c,fT B p.2 c)∉P):PrR A B (P++[(fT A p.1 c,fT B p.2 c)]):=by
 refine⟨fx.2 ⟨r.nd,je ..,λa k b h e=>?_⟩,λq f=>?_⟩
 ·obtain rfl:=ba.1 h;exact i (e▸k)
 ·rcases bG.1 f with f|f
  ·exact r.rch q f
  ·obtain⟨x,j,rfl⟩:=r.rch p l;refine⟨x++[c],λd g=>?_,?_⟩
   ·rcases bG.1 g with g|g
    ·exact j d g
    ·rw[ba.1 g];exact m
   ·rw[ba.1 f,JZ,JZ]
theorem PrR.len(r:PrR A B P){p:List Bool×List Bool}(a:p∈P):p.1.length=A.aI.length/\p.2.length=B.aI.length:=by
 obtain⟨x,_,rfl⟩:=r.rch p a;exact⟨CC,CC⟩
end
end
end Go.Ab
end
section
namespace Go.Proofs.YtnlccnpbjeiccaaGreatDoor
open Go Go.Ab Go.RowKit
theorem abn:(((Tryz.prog.funcs.toList.drop 0).take 40).all λf=>iF f)=af:=by kernel_rfl
theorem abo:(((Tryz.prog.funcs.toList.drop 40).take 40).all λf=>iF f)=af:=by kernel_rfl
theorem abp:(((Tryz.prog.funcs.toList.drop 80).take 40).all λf=>iF f)=af:=by kernel_rfl
theorem abq:(((Tryz.prog.funcs.toList.drop 120).take 40).all λf=>iF f)=af:=by kernel_rfl
theorem abr:(((Tryz.prog.funcs.toList.drop 160).take 40).all λf=>iF f)=af:=by kernel_rfl
theorem abt:(((Tryz.prog.funcs.toList.drop 200).take 40).all λf=>iF f)=af:=by kernel_rfl
theorem abu:(((Tryz.prog.funcs.toList.drop 240).take 40).all λf=>iF f)=af:=by kernel_rfl
theorem abv:(((Tryz.prog.funcs.toList.drop 280).take 40).all λf=>iF f)=af:=by kernel_rfl
theorem abw:(((Tryz.prog.funcs.toList.drop 320).take 40).all λf=>iF f)=af:=by kernel_rfl
theorem Ue:Tryz.prog.funcs.toList.length=329:=by kernel_rfl
theorem Xx(i:Nat)(c:Func)(h:Tryz.prog.funcs.toList[i]?=aa c):iF c=af:=by
 have b:∀a,((Tryz.prog.funcs.toList.drop a).take 40).all (λf=>iF f)=af->a<=i->i<a+40->iF c=af:=λa g d e=>by
  refine bY.1 g c (aM (i:=i-a) ?_);rw[getElem?_take,iP (by omega),getElem?_drop,show a+(i-a)=i by omega];exact h
 have j:i<329:=by
  have:=(List.getElem?_eq_some_iff.1 h).1;rw[Ue]at this;exact this
 by_cases n:i<40
 ·exact b 0 abn (by omega) (by omega)
 by_cases d:i<80
 ·exact b 40 abo (by omega) (by omega)
 by_cases e:i<120
 ·exact b 80 abp (by omega) (by omega)
 by_cases k:i<160
 ·exact b 120 abq (by omega) (by omega)
 by_cases m:i<200
 ·exact b 160 abr (by omega) (by omega)
 by_cases p:i<240
 ·exact b 200 abt (by omega) (by omega)
 by_cases o:i<280
 ·exact b 240 abu (by omega) (by omega)
 by_cases l:i<320
 ·exact b 280 abv (by omega) (by omega)
 exact b 320 abw (by omega) (by omega)
theorem UD:(Tryz.prog.funcs.toList.all λf=> !(f.name == "runtime.NumGoroutine"))=af:=by kernel_rfl
theorem sx:Ag Tryz.prog:={
 names:=λ_ a h=>by
  have b:a∈Tryz.prog.funcs.toList:=by
   rw[<-getElem?_toList]at h;exact aM h
  have:=bY.1 UD a b;simpa using this
 Xw:=λf a h=>Xx f a (by rw[getElem?_toList];exact h) }
theorem IE:pH Tryz.prog zi 296 qy:=Eh (fn:=(Tryz.prog.funcs[296]?).getD default) (by kernel_rfl) (by kernel_rfl) (by kernel_rfl) (by kernel_rfl) (by kernel_rfl)
theorem GK:pH Tryz.prog zi 290 nq:=BS (fn:=(Tryz.prog.funcs[290]?).getD default) (by kernel_rfl) (by kernel_rfl) (by kernel_rfl) (by kernel_rfl) (by kernel_rfl)
noncomputable def aeu:rR:=[(296,.adG),(290,.SA)]
theorem Fh:sM Tryz.prog zi aeu:=sT IE (sT GK I6)
end Go.Proofs.YtnlccnpbjeiccaaGreatDoor
end
section
namespace Go.Proofs.YtnlccnpbjeiccaaGreatDoor
open Go Go.Ab Go.Num
def gl1:Nat->Bool:=λg=>dk g 1
noncomputable def agm:rR:=(13,.Ll [([],ah af)]) ::aeu
noncomputable def prS:bW->Option rW:=λf=>Gf (dk f 146) (aa Ml) (Ow Tryz.prog gl1 agm f)
noncomputable def SS:Sx:=⟨Tryz.prog,gl1,prS⟩
noncomputable abbrev aq:Program:=SS.P
noncomputable abbrev aX:=FW SS
noncomputable abbrev cw:=LL SS
noncomputable abbrev fQ:=KK SS
noncomputable abbrev mK:=EE SS
abbrev qF{a:Type}(X:Option ag->a->Prop)(t:aF)(v:ag)(i:Nat)(u:aF)(h:au)(K:a):Prop:=xP (aY SS.P t v i) λp=>X (aS SS.P u h (bw p)) K
abbrev qX{a:Type}(X:Option ag->a->Prop)(t:aF)(v i:ag)(u:aF)(h:au)(K:a):Prop:=xP (aW SS.P t v i) λp=>X (aS SS.P u h (bw p)) K
abbrev kM(t:aF)(v:ag)(i:Nat)(h:au)(K:Int->Prop):Prop:=qF (xI ak) t v i 3 h K
abbrev Ws(t:aF)(v i:ag)(h:au)(K:Int->Prop):Prop:=qX (xI ak) t v i 3 h K
abbrev qM(t:aF)(v:ag)(i:Nat)(u:aF)(h:au)(K:Option aJ->Nat->Nat->Prop):Prop:=qF xL t v i u h K
abbrev H3(t:aF)(v i:ag)(u:aF)(j:Nat)(K:aJ->Prop):Prop:=xP (aW SS.P t v i) λp=>xP (aY SS.P u (bw p) j) K
def pth:Nat->Nat->List Nat
 |0,_=>[]
 |k+1,n=>if n<=1 then[]else(n%2)::pth k (n/2)
abbrev pq(n:Nat):List Nat:=pth 64 n
abbrev eu(F:FD)(p:List Nat)(Q:VH):=KK SS F p [] (EE SS F Q)
abbrev lX0(F:FD)(p:Nat)(W:List ag)(h:au)(q:Nat)(Q:VH):=LL SS F (pq p) W h (eu F (pq q) Q)
end Go.Proofs.YtnlccnpbjeiccaaGreatDoor
end
