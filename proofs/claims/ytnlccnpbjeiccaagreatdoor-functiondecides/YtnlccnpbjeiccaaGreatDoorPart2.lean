/- Laws and walks that the proof leans on (part 2): AbFastOk5; AbFastOk6; AbPrims; AbMemo; AbTab; AbWp and others. No condition. -/
import Derived.Test.YtnlccnpbjeiccaaGreatDoorPart1
import Derived.Laws.Externs
import Derived.Below
import Derived.Attr
import Derived.Laws.Bits64
import Derived.Shelf.SortM.Plain
import Derived.Shelf.SortM.SortNone
import Derived.ChangeArms
import Derived.DataElems
import Derived.ChangeSame
import Derived.Test.YtnlccnpbjeiccaaGreatDoorProg
set_option linter.unusedVariables false
set_option linter.unusedSimpArgs false
set_option maxRecDepth 100000
open Bool renaming and_eq_true → bj, false → ak, false_eq_true → dM, not_eq_true' → dt, true → af
open Classical renaming byContradiction → fA
open Go renaming Addr → aF, FuncId → ck, IntKind → ei, Oper → aR, Operand → bh, Program → aO, TypeId → aD, Value → ah, World → aU
open Go.DataW renaming trod → fF
open Go.IntKind renaming i64 → an, u64 → az, u8 → aK, wrap → aj
open Go.Value renaming agg → aq, bool → ai, func → aN, int → aB, pointer → aT, slice → ae, string → bu, tuple → av
open Int renaming toNat_natCast → bn
open List renaming all_append → gX, all_cons → fR, all_eq_true → cw, append_assoc → cE, append_nil → cF, cons_append → dQ, drop_eq_getElem_cons → db, drop_eq_nil_of_le → cU, drop_of_length_le → hW, drop_zero → bV, eq_nil_of_length_eq_zero → aY, ext_getElem? → cV, filterMap_cons → eU, flatten_append → fV, flatten_cons → fg, length_append → bg, length_cons → bP, length_drop → cQ, length_map → aG, length_pos_iff → fL, length_replicate → bE, length_set → bT, length_singleton → bw, length_take → bo, map_append → bU, mem_append → bH, mem_cons → cO, mem_cons_of_mem → cJ, mem_cons_self → cH, mem_map → dZ, mem_of_getElem? → aI, mem_of_mem_take → dN, mem_range → eL, mem_singleton → aX, nil_append → dq, range → dL, rec → gC, replicate → aH, take_append_drop → ej, take_length → dX, take_of_length_le → bm, take_succ_eq_append_getElem → eQ, take_zero → dU
open Nat renaming add_mul → cM, add_zero → fh, beq → dx, blt → dj, div_eq_of_lt → ke, div_lt_of_lt_mul → eJ, div_lt_self → qv, eq_zero_or_pos → dB, le_add_right → dg, le_refl → aS, le_succ → fJ, le_trans → bK, lt_of_lt_of_le → cz, lt_or_ge → de, lt_succ_self → eD, min_eq_left → dO, mod_add_div → kf, mod_eq_of_lt → eG, mod_lt → dP, mul_add → kX, mul_assoc → jh, mul_comm → dh, mul_le_mul → dC, mul_le_mul_left → fi, mul_le_mul_right → bJ, mul_one → df, mul_succ → oN, mul_zero → iD, not_lt_zero → dH, one_mul → dw, pow_le_pow_right → dG, pow_succ → gb, strongRecOn → fB, succ_le_of_lt → iS, zero_add → bO, zero_mul → iE
open Option renaming map_eq_some_iff → bq, map_some → fP, rec → gj, some → aa
open Option.some renaming inj → aC, injEq → bc
open Prod.mk renaming injEq → bA
open UInt8 renaming toNat_inj → fQ
open List (all_nil drop_drop drop_take getElem?_drop getElem?_eq_none getElem?_of_mem getElem?_take)
open Nat (add_comm beq_eq ble_eq blt_eq succ_mul)
open Array (getElem?_toList)
section
namespace Go.Ab
open Go
variable{P:aO}{r:bh->ah}{q:aR}{h:aw}{U:Array aR}{n:Nat}{j:Nat}{c:List ah}{v:ah}
section
variable {cx:Cx} {cf:fT}
theorem xv(a:Nat):∀(l:List (Nat×eE))(h:aw)(K:aw->Bool),vj a l h K=K (bS h a l)
 |[],_,_=>rfl
 |(i,B)::l,h,K=>by
  show vj a l h (λh=>HT.wc (aa B) (pathOf (a+i)) h.t λt=>K ⟨h.ax,t⟩)=_;rw[xv a l h,HT.lh];rfl
theorem ZP{m:ah×dJ}(g:Wp q.op = .p)(a:fM P cf r q h=aa m):eW P r q=aa m.1/\m.2 = .no:=by
 obtain⟨j,k,n,i,f,e⟩:=q;unfold fM at a
 cases l:eW P r ⟨j,k,n,i,f,e⟩with
 |some v=>rw[l]at a;obtain rfl:=aC a;exact⟨rfl,rfl⟩
 | none=>
  rw[l]at a
  cases k with
  |call c=>
   obtain⟨d,o,p⟩:=c
   cases d with
   |builtin b=>cases b<;>exact nomatch g
   |_=>exact nomatch g
  |_=>first|(change (none:Option (ah×dJ))=aa m at a;exact nomatch a)|cases g
theorem ZQ{s:ah×dJ}(p:Wp q.op = .r)(m:fM P cf r q h=aa s):eW P r q=none/\eB P r q h=aa s.1/\s.2 = .no:=by
 obtain⟨g,i,j,f,e,d⟩:=q;have n:eW P r ⟨g,i,j,f,e,d⟩=none->(eB P r ⟨g,i,j,f,e,d⟩ h=none->fM P cf r ⟨g,i,j,f,e,d⟩ h=none)->eW P r ⟨g,i,j,f,e,d⟩=none/\eB P r ⟨g,i,j,f,e,d⟩ h=aa s.1/\s.2 = .no:=λu l=>by
  refine⟨u,?_⟩
  cases o:eB P r ⟨g,i,j,f,e,d⟩ h with
  |none=>rw[l o]at m;cases m
  |some v=>
   unfold fM at m;rw[u,o]at m;obtain rfl:=aC m;exact⟨rfl,rfl⟩
 cases i with
 |load t a=>exact n rfl λl=>by unfold fM;rw[l];rfl
 |call c=>
  obtain⟨k,w,x⟩:=c
  cases k with
  |builtin b=>cases b<;>first|exact n rfl λl=>by unfold fM;rw[l];rfl|cases p
  |_=>exact nomatch p
 |_=>exact nomatch p
theorem adD{ρ:bh->ah}(e:Wp q.op = .e):(∀h,eW P ρ q=none/\eB P ρ q h=none/\dz P ρ q=none)/\fM P cf ρ q h=gM P cf ρ q h:=by
 obtain⟨m,j,o,l,i,g⟩:=q
 cases j with
 |store t a x=>exact⟨λ_=>⟨rfl,rfl,rfl⟩,rfl⟩
 |call c=>
  obtain⟨d,k,n⟩:=c
  cases d with
  |builtin b=>cases b<;>first|exact⟨λ_=>⟨rfl,rfl,rfl⟩,rfl⟩|cases e
  |value f=>exact⟨λ_=>⟨rfl,rfl,rfl⟩,rfl⟩
  |_=>exact nomatch e
 |_=>exact nomatch e
theorem Wq(h:Wp q.op = .d):ep q=ak:=by
 obtain⟨j,e,l,i,d,b⟩:=q
 cases e with
 |call c=>
  obtain⟨a,g,k⟩:=c
  cases a with
  |value f=>exact nomatch h
  |_=>rfl
 |_=>rfl
noncomputable def wN(P:aO)(cf:fT)(c:Nat->Nat->Bool)(a j:Nat)(o:aR)(d:bh->ah)(h:aw)(b:List (Nat×eE)):Option (sW×ah×aw×List (Nat×eE)):=
 match eW P d o with
 |some v=>aa (.pure v,v,h,b)
 | none=>match eB P d o h with
  |some v=>aa (.read v,v,h,b)
  | none=>match dz P d o with
   |some (B,f)=>aa (.alloc B (f (a+j)),f (a+j),h,(j,B)::b)
   |none=>match gM P cf d o (bS h a (b.filter λp=>c j p.1))with
    |some (v,u)=>aa (.yk v (u.app (bS h a (b.filter λp=>c j p.1))),v,u.app (bS h a (b.filter λp=>c j p.1)),b.filter λp=> !c j p.1)
    |none=>none
theorem ZV(g:Cs cx cf){bf:Nat->Nat->Bool}{base j:Nat}{o:aR}{ρ:bh->ah}{h:aw}{pd:List (Nat×eE)}{K:agB}:
  Ref cx.bad (ZU cx bf base j o ρ h pd K) (wN cx.P cf bf base j o ρ h pd) λr=>K r.1 r.2.1 r.2.2.1 r.2.2.2:=by
 unfold ZU
 cases k:Wp o.op with
 |p=>
  rcases He g (ρ:=ρ) (h:=h) (K:=λv _=>K (.pure v) v h pd) o with a|⟨r,a,i⟩
  ·exact .inl a
  ·obtain⟨c,_⟩:=ZP k a;exact .of (r:=(.pure r.1,r.1,h,pd)) (by unfold wN;rw[c]) i
 |r=>
  rcases He g (ρ:=ρ) (h:=h) (K:=λv _=>K (.read v) v h pd) o with a|⟨r,a,i⟩
  ·exact .inl a
  ·obtain⟨c,l,_⟩:=ZQ k a;exact .of (r:=(.read r.1,r.1,h,pd)) (by unfold wN;rw[c,l]) i
 |e=>
  show Ref cx.bad (vj base (pd.filter λp=>bf j p.1) h λh=>opF o.op cx o ρ h λv b=>K (.yk v b) v b (pd.filter λp=> !bf j p.1)) _ _;rw[xv];rcases He g (ρ:=ρ) (h:=bS h base (pd.filter λp=>bf j p.1)) (K:=λv b=>K (.yk v b) v b (pd.filter λp=> !bf j p.1)) o with a|⟨⟨v,u⟩,a,i⟩
  ·exact .inl a
  ·obtain⟨c,l⟩:=adD (P:=cx.P) (ρ:=ρ) (cf:=cf) (h:=bS h base (pd.filter λp=>bf j p.1)) k;obtain⟨q,n,m⟩:=c h;rw[l]at a;exact .of (r:=(.yk v (u.app (bS h base (pd.filter λp=>bf j p.1))),v,u.app (bS h base (pd.filter λp=>bf j p.1)),pd.filter λp=> !bf j p.1))
    (by unfold wN;rw[q,n,m,a]) i
 | d=>
  show Ref cx.bad (ahg cx bf base j o ρ h pd K) _ _;unfold ahg wN
  cases w:eW cx.P ρ o with
  |some v=>exact .of rfl (nD _ _)
  | none=>
   cases x:eB cx.P ρ o h with
   |some v=>exact .of rfl (nD _ _)
   | none=>
    cases t:dz cx.P ρ o with
    |some r=>
     obtain⟨B,f⟩:=r;refine .of rfl ?_;show Py B (λB=>vA (f (base+j)) λv=>K (.alloc B v) v h ((j,B)::pd))=_;rw[C1,nD]
    | none=>
     show Ref cx.bad (vj base (pd.filter λp=>bf j p.1) h λh=>XB cx.bad (gM cx.P mI ρ o h) h λv b=>K (.yk v b) v b (pd.filter λp=> !bf j p.1)) _ _;rw[xv,BW (cf:=cf) (Wq k)]
     cases s:gM cx.P cf ρ o (bS h base (pd.filter λp=>bf j p.1))with
     |none=>exact .bad
     |some r=>
      obtain⟨v,u⟩:=r;refine .of rfl ?_;show adp u (bS h base (pd.filter λp=>bf j p.1)) (λb=>vA v λv=>K (.yk v b) v b (pd.filter λp=> !bf j p.1))=_;rw[MC,nD]
theorem MN{g:Nat->Bool}{e:Nat->Nat->Bool}{b:List aR}{l:List (Nat×eE)}(m:jN U c q=aa af)
  {r:sW×ah×aw×List (Nat×eE)} (a:wN P cf e n j q (ev g c) h l=aa r):
  ij P g cf U e n (q::b) j c h l=(ij P g cf U e n b (j+1) (lG c q.dst r.2.1) r.2.2.1 r.2.2.2).map λx=>((c,r.1)::x.1,x.2):=by
 unfold wN at a;simp only[ij,m];split at a
 ·next v k=>obtain rfl:=aC a;simp only[k]
 ·next k=>
  simp only[k];split at a
  ·next v d=>obtain rfl:=aC a;simp only[d]
  ·next d=>
   simp only[d];split at a
   ·next B f i=>obtain rfl:=aC a;simp only[i]
   ·next i=>
    simp only[i];split at a
    ·next v u o=>obtain rfl:=aC a;simp only[o]
    ·cases a
inductive V0(n:Nat):List aR->List Mw->List (List ah×sW)->Prop where
 |nil:V0 n [] [] []
 |cons {o:aR} {os:List aR} {e:Env} {ent:sW} {tm:List ah} {a:List Mw} {b:List (List ah×sW)} (h:ll n e tm) (r:V0 n os a b):V0 n (o::os) ((o,e,ent)::a) ((tm,ent)::b)
theorem wO(s:Cs cx cf){ops:Array aR}{bf:Nat->Nat->Bool}{base:Nat}:∀(l:List aR){j:Nat}{e:Env}{r:List ah}{h:aw}{pd:List (Nat×eE)}{K:List Mw->Env->aw->List (Nat×eE)->Bool},ll cx.n e r->
  qy cx ops bf base l j e h pd K=cx.bad\/ ∃a p x q i f,ij cx.P cx.gl cf ops bf base l j r h pd=aa (a,p,x,q)/\ll cx.n f p/\V0 cx.n l i a/\qy cx ops bf base l j e h pd K=K i f x q
 |[],j,e,r,h,pd,K,m=> .inr ⟨[],r,h,pd,[],e,rfl,m,.nil,rfl⟩
 | o::c,j,e,r,h,pd,K,m=>by
  have F:qy cx ops bf base (o::c) j e h pd K=JD ops e cx.bad o.guard
   (ZU cx bf base j o (US cx.gl e) h pd λk v h pd=>A0 cx.n o.dst e v λf=>qy cx ops bf base c (j+1) f h pd λa g d b=>K ((o,e,k)::a) g d b)
   (A0 cx.n o.dst e undef λf=>qy cx ops bf base c (j+1) f h pd λa g d b=>K ((o,e,.skip)::a) g d b):=rfl
  rw[F];rcases Rv m (ops:=ops) o cx.bad (ZU cx bf base j o (US cx.gl e) h pd λk v h pd=>A0 cx.n o.dst e v λf=>qy cx ops bf base c (j+1) f h pd λa g d b=>K ((o,e,k)::a) g d b)
   (A0 cx.n o.dst e undef λf=>qy cx ops bf base c (j+1) f h pd λa g d b=>K ((o,e,.skip)::a) g d b)with t|⟨t,d⟩|⟨t,d⟩
  ·exact .inl t
  ·rw[d];rcases ZV s (bf:=bf) (base:=base) (j:=j) (o:=o) (ρ:=US cx.gl e) (h:=h) (pd:=pd) (K:=λk v h pd=>A0 cx.n o.dst e v λf=>qy cx ops bf base c (j+1) f h pd λa g d b=>K ((o,e,k)::a) g d b)with w|⟨⟨k,v,x,q⟩,w,G⟩
   ·exact .inl w
   ·rw[G];rw[Ig m]at w;obtain⟨f,C,B⟩:=DD m o.dst v;simp only[B];rcases wO s c C (ops:=ops) (bf:=bf) (base:=base) (j:=j+1) (h:=x) (pd:=q) (K:=λa g d b=>K ((o,e,k)::a) g d b)with n|⟨a,p,D,z,i,E,n,y,A,u⟩
    ·exact .inl n
    ·refine .inr ⟨_,_,_,_,_,_,?_,y,.cons m A,u⟩;rw[MN t w,n];rfl
  ·rw[d];obtain⟨f,C,B⟩:=DD m o.dst undef;rw[B];rcases wO s c C (ops:=ops) (bf:=bf) (base:=base) (j:=j+1) (h:=h) (pd:=pd) (K:=λa g d b=>K ((o,e,.skip)::a) g d b)with n|⟨a,p,D,z,i,E,n,y,A,u⟩
   ·exact .inl n
   ·refine .inr ⟨_,_,_,_,_,_,?_,y,.cons m A,u⟩;simp only[ij,t,n];rfl
theorem Z5{d:List aR}{a:List Mw}{b:List (List ah×sW)}(h:V0 n d a b):∀j,Lb a j=ju b j:=by
 induction h with
 |nil=>intro j;rfl
 |cons _ _ f=>
  rename_i o d e c g a b _ _;intro j;show ajf c j (Lb a (j+1))=_;rw[f]
  cases c<;>rfl
theorem K7(a:Nat->Nat->Bool):∀(l:List (Nat×aw))(p:Option Nat),Ey a l p=(match p,l with|some i,(j,_)::_=>a j i&&chained a l|_,_=>chained a l)
 |[],p=>by cases p<;>rfl
 | (j,h)::l,p=>by
  have c:=K7 a l (aa j);have b:chained a ((j,h)::l)=Ey a l (aa j):=by
   rw[c]
   cases l with
   |nil=>rfl
   |cons x l=>rfl
  cases p with
  |none=>show Ey a l (aa j)=_;exact b.symm
  |some i=>
   show px (a j i) (Ey a l (aa j)) ak=(a j i&&chained a ((j,h)::l));rw[b]
   cases a j i<;>rfl
theorem Q2{a:Nat->Bool}:LU P q (ev a c) v h=ox P a q c v h:=by
 unfold LU ox
 cases eB P (ev a c) q h<;>rfl
theorem Jd{P:aO}{c:Nat->Bool}{b:Nat->Nat->Bool}{j:Nat}{o:aR}{d:List ah}{v:ah}:∀(e:List (Nat×aw))(h:aw)(a:Bool),Hh P b j o (ev c d) v e h a=qR P c b j o d v h e a
 |[],h,a=>by
  show px a af (LU P o (ev c d) v h)=(a||ox P c o d v h);rw[Q2];cases a<;>rfl
 |(x,f)::e,h,a=>by
  show px (px (px a (dj j x) ak) af (px (b j x) af (LU P o (ev c d) v h))) (px (b x j) af (Hh P b j o (ev c d) v e f (dj x j))) ak=(((a&&dj j x)||b j x||ox P c o d v h)&&(b x j||qR P c b j o d v f e (dj x j)));rw[Q2,Jd e]
  cases a<;>cases dj j x<;>cases b j x<;>cases b x j<;>cases ox P c o d v h<;>rfl
theorem Yd{f:List aR}{a:List Mw}{b:List (List ah×sW)}{c:Nat->Nat->Bool}{d:List (Nat×aw)}(m:V0 cx.n f a b):∀j,NT cx c h d a j=mJ cx.P cx.gl c h d f b j:=by
 induction m with
 |nil=>intro j;rfl
 | cons l _ k=>
  rename_i o f e g i a b _;intro j;show agq cx c h d j o e g (NT cx c h d a (j+1))=_;rw[k]
  cases g with
  |read v=>
   show px (Hh cx.P c j o (US cx.gl e) v d h af) (mJ cx.P cx.gl c h d f b (j+1)) ak=(qR cx.P cx.gl c j o i v h d af&&mJ cx.P cx.gl c h d f b (j+1));rw[Ig l,Jd]
   cases qR cx.P cx.gl c j o i v h d af<;>rfl
  |_=>rfl
theorem WB(k:Cs cx cf){ops:Array aR}{bf:Nat->Nat->Bool}{e:Env}{l:List ah}{h:aw}{K:Env->aw->Bool}(q:ll cx.n e l):RX cx.n cx.bad (Pk cx ops bf e h K) (Am cx.P cx.gl cf ops bf l h) K:=by
 unfold Pk;rw[nC];rcases wO k ops.toList q (ops:=ops) (bf:=bf) (base:=h.ax) (j:=0) (h:=⟨h.ax+ops.size,h.t⟩) (pd:=[]) (K:=λa d b m=>
  px (px (Ey bf (Lb a 0) none) (NT cx bf ⟨h.ax+ops.size,h.t⟩ (Lb a 0) a 0) ak) (vj h.ax m b λb=>K d b) cx.bad)with f|⟨a,g,b,c,n,d,f,o,i,p⟩
 ·exact .inl f
 ·rw[p,Z5 i,K7,Yd i,xv];unfold Am;rw[f];show RX cx.n cx.bad (px (px (chained bf (ju a 0)) (mJ cx.P cx.gl bf ⟨h.ax+ops.size,h.t⟩ (ju a 0) ops.toList a 0) ak) (K d (bS b h.ax c)) cx.bad)
   (if chained bf (ju a 0)&&mJ cx.P cx.gl bf ⟨h.ax+ops.size,h.t⟩ (ju a 0) ops.toList a 0 then aa (g,bS b h.ax c)else none) K
  cases chained bf (ju a 0)with
  |false=>exact .inl rfl
  |true=>
   cases mJ cx.P cx.gl bf ⟨h.ax+ops.size,h.t⟩ (ju a 0) ops.toList a 0 with
   |false=>exact .inl rfl
   |true=>exact .inr ⟨_,_,_,rfl,o,rfl⟩
end
def En(n:Nat)(a x:Bool)(c:Option (Exit×List ah×aw))(K:Exit->Env->aw->Bool):Prop:=x=a\/ ∃b l h e,c=aa (b,l,h)/\ll n e l/\x=K b e h
theorem R6{a:Bool}{K:Bool->Bool}{c:Option (Exit×List ah×aw)}{e:Exit->Env->aw->Bool}(f:∀b,v=ai b->En n a (K b) c e):En n a (O6 v a K) c e:=by
 rcases ZE v a K with⟨d,_⟩|⟨b,d,g⟩
 ·rw[d];exact .inl rfl
 ·rw[g];exact f b d
theorem zf(x:Exit)(a:Bool)(d:Nat->Bool)(b:Bool):(x = .normal/\qE x a d b=a)\/(∃c,x = .exit c/\qE x a d b=d c)\/((∀c,x≠ .exit c)/\x≠ .normal/\qE x a d b=b):=by
 cases x with
 |normal=>exact .inl ⟨rfl,rfl⟩
 |exit c=>exact .inr (.inl ⟨c,rfl,rfl⟩)
 |_=>exact .inr (.inr ⟨λ_=>by simp,by simp,rfl⟩)
theorem Lq{b:Cx}{c:Code}{a:sj}{q:fT}{N:Nat}(f:∀{e l h K},ll b.n e l->En b.n b.bad (a b e h K) (du b.P b.gl q N c l h) K):∀(m:Nat){e:Env}{l:List ah}{h:aw}{K:Exit->Env->aw->Bool},ll b.n e l->
  En b.n b.bad (Nat.rec (motive:=λ_=>Env->aw->Bool) (λ_ _=>b.bad) (λ_ f e h=>a b e h λx e h=>qE x (f e h) (λd=>K (.exit d) e h) (K x e h)) m e h) (iter (du b.P b.gl q N c) m l h) K
 |0,_,_,_,_,_=> .inl rfl
 | m+1,e,l,h,K,t=>by
  show En b.n b.bad (a b e h λx e h=>qE x ((Nat.rec (motive:=λ_=>Env->aw->Bool) (λ_ _=>b.bad) (λ_ f e h=>a b e h λx e h=>qE x (f e h) (λd=>K (.exit d) e h) (K x e h)) m:Env->aw->Bool) e h) (λd=>K (.exit d) e h) (K x e h)) _ K;rcases f (h:=h) (K:=λx e h=>qE x ((Nat.rec (motive:=λ_=>Env->aw->Bool) (λ_ _=>b.bad) (λ_ f e h=>a b e h λx e h=>qE x (f e h) (λd=>K (.exit d) e h) (K x e h)) m:Env->aw->Bool) e h) (λd=>K (.exit d) e h) (K x e h)) t with g|⟨k,p,g,i,o,n,s⟩
  ·exact .inl g
  ·rw[s];dsimp only;rcases zf k ((Nat.rec (motive:=λ_=>Env->aw->Bool) (λ_ _=>b.bad) (λ_ f e h=>a b e h λx e h=>qE x (f e h) (λd=>K (.exit d) e h) (K x e h)) m:Env->aw->Bool) i g) (λd=>K (.exit d) i g) (K k i g)with⟨rfl,j⟩|⟨d,rfl,j⟩|⟨u,r,j⟩
   ·rw[j];simp only[iter,o];exact Lq f m n
   ·rw[j];exact .inr ⟨.exit d,p,g,i,by simp only[iter,o],n,rfl⟩
   ·rw[j];refine .inr ⟨k,p,g,i,?_,n,rfl⟩;simp only[iter,o]
    cases k<;>first|rfl|exact absurd rfl r
theorem ahF(c a:Code)(d:Bool)(K:rE c a=af->Bool):okF c a d K=d\/ ∃f,okF c a d K=K f:=by
 unfold okF;have g:∀(b:Bool)(e:rE c a=b),(Bool.rec (motive:=λb=>rE c a=b->Bool) (λ_=>d) K b e=d)\/ ∃f,Bool.rec (motive:=λb=>rE c a=b->Bool) (λ_=>d) K b e=K f:=by
  intro b e
  cases b with
  |false=>exact .inl rfl
  |true=>exact .inr ⟨e,rfl⟩
 exact g _ rfl
theorem Dh(b:Option eE)(d:Bool)(K:LSt->List ah->List Tmp->(c a:Code)->rE c a=af->Bool):
  yl b d K=d\/ ∃f e g c a h,b=aa (.loop f e g c a h)/\yl b d K=K f e g c a h:=by
 cases b with
 |none=>exact .inl rfl
 |some B=>cases B with
  |loop f e g c a h=>exact .inr ⟨f,e,g,c,a,h,rfl,rfl⟩
  |_=>exact .inl rfl
theorem acN(e:Env):∀(n i:Nat)(K:List ah->Bool),tmF e n i K=K ((List.range' i n).map λt=>Env.get t e)
 |0,_,_=>rfl
 |n+1,i,K=>by
  show vA (Env.get i e) (λv=>tmF e n (i+1) λl=>K (v::l))=_;rw[nD,acN e n (i+1)];rfl
theorem acO{e:Env}{l:List ah}(c:ll n e l)(K:List ah->Bool):tmF e n 0 K=K l:=by
 rw[acN];congr 1;obtain⟨d,_,a⟩:=c;refine cV λt=>?_;rw[List.getElem?_map];by_cases b:t<n
 ·rw[List.getElem?_range' b];simp only[fP,bO,dw];rw[a,gE (by omega),gD,gE (by omega)];rfl
 ·rw[getElem?_eq_none (by simp;omega),getElem?_eq_none (by omega)];rfl
theorem Db:∀(l:List ah)(i:Nat)(e:Env),i+l.length<=256->∃a:Env,(∀(K:Env->Bool),Fx l i e K=K a)/\∀t,Env.get t a=if i<=t/\t<i+l.length then l.getD (t-i) undef else Env.get t e
 |[],i,e,_=>⟨e,λ_=>rfl,λt=>by rw[iN (by simp only[List.length_nil];omega)]⟩
 | v::l,i,e,d=>by
  simp only[bP]at d;obtain⟨a,f,g⟩:=Db l (i+1) (Env.new i e v) (by omega);refine⟨a,λK=>?_,λt=>?_⟩
  ·show vA v (λv=>Env.put i e v λe=>Fx l (i+1) e K)=_;rw[nD,Env.put_eq,f]
  ·rw[g];simp only[bP];by_cases c:t=i
   ·subst c;rw[iN (by omega),Env.Nb (by omega),iP rfl,iP (by omega),Nat.sub_self];rfl
   ·rw[Env.Nb (by omega),iN c];by_cases b:i+1<=t/\t<i+1+l.length
    ·rw[iP b,iP (by omega),show t-i=(t-(i+1))+1 by omega];rfl
    ·rw[iN b,iN (by omega)]
theorem Sk:∀(t:HT)(K:HT->Bool),fHT t K=K t
 |.nil,_=>rfl
 |.node v l r,K=>by
  show fHT l (λl=>fHT r λr=>gj (motive:=λ_=>Bool) (K (.node none l r)) (λB=>Py B λB=>K (.node (aa B) l r)) v)=_;rw[Sk l,Sk r]
  cases v with
  |none=>rfl
  |some B=>exact C1 B _
theorem Zs{a:Cx}{ops:Array aR}{e:Env}{l:List ah}{K:Env->aw->Bool}(f:ll a.n e l):RX a.n a.bad (ado a ops e h K) (CO a.P a.gl ops (gy (lK ops)) l h) K:=by
 unfold ado;rw[acO f]
 cases n:CO a.P a.gl ops (gy (lK ops)) l h with
 |none=>exact .inl rfl
 | some r=>
  obtain⟨b,c⟩:=r;show RX a.n a.bad (px (dx b.length a.n) (Fx b 0 HY λe=>tA c.ax λd=>fHT c.t λt=>K e ⟨d,t⟩) a.bad) _ K
  cases g:dx b.length a.n with
  |false=>exact .inl rfl
  | true=>
   have j:b.length=a.n:=by simpa[beq_eq]using g
   obtain⟨m,i,k⟩:=Db b 0 HY (by have:=f.2.1;omega);refine .inr ⟨b,c,m,rfl,⟨j,f.2.1,λt=>?_⟩,?_⟩
   ·rw[k];split
    ·rfl
    ·next o=>rw[HZ,gD,getElem?_eq_none (by omega)];rfl
   ·show Fx b 0 HY (λe=>tA c.ax λd=>fHT c.t λt=>K e ⟨d,t⟩)=_;rw[i,nC,Sk]
theorem oQ{d:Cx}{I:fT}(s:Cs d I):∀(c:Code){e:Env}{l:List ah}{h:aw}{K:Exit->Env->aw->Bool},ll d.n e l->En d.n d.bad (codeF c d e h K) (du d.P d.gl I d.N c l h) K
 |.skip,e,l,h,K,m=> .inr ⟨_,_,_,_,rfl,m,rfl⟩
 | .region q j O,e,l,h,K,m=>by
  cases O with
  | true=>
   show En d.n d.bad (px (BI j) (ado d j e h λe h=>K .normal e h) (Pk d j (gy (lK j)) e h λe h=>K .normal e h)) ((Fs d.P d.gl I j l h).map λr=>(.normal,r.1,r.2)) K;unfold Fs
   cases V:BI j with
   |true=>
    rw[iP rfl];rcases Zs m (ops:=j) (h:=h) (K:=λe h=>K .normal e h)with i|⟨u,i,o,k,p,w⟩
    ·exact .inl i
    ·exact .inr ⟨.normal,u,i,o,by rw[k];rfl,p,w⟩
   |false=>
   rw[iN (by simp)];show En d.n d.bad (Pk d j (gy (lK j)) e h λe h=>K .normal e h) _ K;rcases WB s m (ops:=j) (bf:=gy (lK j)) (h:=h) (K:=λe h=>K .normal e h)with i|⟨u,i,o,k,p,w⟩
   ·exact .inl i
   ·exact .inr ⟨.normal,u,i,o,by rw[k];rfl,p,w⟩
  |false=>
   show En d.n d.bad (Qt d j j.toList e h λe h=>K .normal e h) ((qK d.P d.gl I j j.toList l h).map λr=>(.normal,r.1,r.2)) K;rcases IX s j.toList m (ops:=j) (h:=h) (K:=λe h=>K .normal e h)with i|⟨u,i,o,k,p,w⟩
   ·exact .inl i
   ·exact .inr ⟨.normal,u,i,o,by rw[k];rfl,p,w⟩
 | .seq a b,e,l,h,K,m=>by
  show En d.n d.bad (codeF a d e h λx e h=>qE x (codeF b d e h K) (λq=>K (.exit q) e h) (K x e h)) _ K;rcases oQ s a m (h:=h) (K:=λx e h=>qE x (codeF b d e h K) (λq=>K (.exit q) e h) (K x e h))with i|⟨D,u,i,o,k,p,w⟩
  ·exact .inl i
  ·rw[w];dsimp only;rcases zf D (codeF b d o i K) (λq=>K (.exit q) o i) (K D o i)with⟨rfl,y⟩|⟨q,rfl,y⟩|⟨G,J,y⟩
   ·rw[y];simp only[du,k];exact oQ s b p
   ·rw[y];exact .inr ⟨.exit q,u,i,o,by simp only[du,k],p,rfl⟩
   ·rw[y];refine .inr ⟨D,u,i,o,?_,p,rfl⟩;simp only[du,k]
    cases D<;>first|rfl|exact absurd rfl J
 |.cond c a b,e,l,h,K,m=>by
  show En d.n d.bad (O6 (US d.gl e c) d.bad λt=>px t (codeF a d e h K) (codeF b d e h K)) _ K;refine R6 λt R=>?_;rw[Ig m]at R;simp only[du,R]
  cases t with
  |true=>simp only[if_true];exact oQ s a m
  |false=>simp only[dM,if_false];exact oQ s b m
 | .block q a,e,l,h,K,m=>by
  show En d.n d.bad (codeF a d e h λx e h=>qE x (K .normal e h) (λn=>px (dx n q) (K .normal e h) (K (.exit n) e h)) (K x e h)) _ K;rcases oQ s a m (h:=h) (K:=λx e h=>qE x (K .normal e h) (λn=>px (dx n q) (K .normal e h) (K (.exit n) e h)) (K x e h))with i|⟨D,u,i,o,k,p,w⟩
  ·exact .inl i
  ·rw[w];dsimp only;rcases zf D (K .normal o i) (λn=>px (dx n q) (K .normal o i) (K (.exit n) o i)) (K D o i)with⟨rfl,y⟩|⟨n,rfl,y⟩|⟨G,J,y⟩
   ·rw[y];exact .inr ⟨.normal,u,i,o,by simp only[du,k],p,rfl⟩
   ·rw[y];by_cases H:n=q
    ·subst H;refine .inr ⟨.normal,u,i,o,by simp only[du,k,if_true],p,?_⟩;rw[show dx n n=af by simp];rfl
    ·refine .inr ⟨.exit n,u,i,o,by simp only[du,k,iN H],p,?_⟩;have:dx n q=ak:=by
      rw[Bool.eq_false_iff];intro N;exact H (by simpa[beq_eq]using N)
     rw[this];rfl
   ·rw[y];refine .inr ⟨D,u,i,o,?_,p,rfl⟩;simp only[du,k]
    cases D<;>first|rfl|exact absurd rfl (G _)
 |.loop c,e,l,h,K,m=>Lq (λ{e l h K} m=>oQ s c m) d.N m
 |.exit q,e,l,h,K,m=> .inr ⟨_,_,_,_,rfl,m,rfl⟩
 |.ret,e,l,h,K,m=> .inr ⟨_,_,_,_,rfl,m,rfl⟩
 |.label _,e,l,h,K,m=> .inr ⟨_,_,_,_,rfl,m,rfl⟩
 | .rangeFunc f L E z,e,l,h,K,m=>by
  show En d.n d.bad (SG f L E z d e h K) _ K;unfold SG;rcases PI (US d.gl e f) d.bad _ with⟨i,_⟩|⟨T,first,A,i,k⟩
  ·rw[i];exact .inl rfl
  ·rw[k];rw[Ig m]at i
   cases T with
   | func g=>
    dsimp only[fnF];rcases ahF E z d.bad (λM=>px (dj g YB) (px (yX d.P g)
     (tmF e d.n 0 λU=>EC (first.toList++[.func (.yield h.ax) #[] #[]]++A.toList) λS=>E8 (.loop .ready U L.toList E z M) h λi=>d.cf g S i λ_ k=>
      yl (k.get h.ax) d.bad λF _ _ _ _ _=>U9 F d.bad λx=>HT.wc none (pathOf h.ax) k.t λt=>K x e ⟨k.ax,t⟩) d.bad) d.bad)with p|⟨M,p⟩
    ·rw[p];exact .inl rfl
    ·rw[p]
     cases W:dj g YB with
     |false=>exact .inl rfl
     | true=>
      have Q:g<YB:=by simpa[blt_eq]using W
      cases N:yX d.P g with
      |false=>exact .inl rfl
      | true=>
       dsimp only[px];rw[acO m,ED];have P:∀(B:eE)(K:aw->Bool),E8 B h K=K (h.push B):=λB K=>MC (.push B) h K;rw[P];rcases s g (first.toList++[.func (.yield h.ax) #[] #[]]++A.toList) (h.push (.loop .ready l L.toList E z M)) (λ_ k=>
        yl (k.get h.ax) d.bad λF _ _ _ _ _=>U9 F d.bad λx=>HT.wc none (pathOf h.ax) k.t λt=>K x e ⟨k.ax,t⟩)with w|⟨⟨v,k⟩,w,y⟩
       ·rw[w];exact .inl rfl
       ·rw[y];dsimp only;have C:du d.P d.gl I d.N (.rangeFunc f L E z) l h=(Vc (k.get h.ax)).map λe=>(e,l,k.del h.ax):=by
         simp only[du,i];rw[dif_pos M,iP ⟨Q,N⟩,w]
        rcases Dh (k.get h.ax) d.bad (λF _ _ _ _ _=>U9 F d.bad λx=>HT.wc none (pathOf h.ax) k.t λt=>K x e ⟨k.ax,t⟩)with G|⟨F,X,Y,a2,b2,Z,G,J⟩
        ·rw[G];exact .inl rfl
        ·rw[J];rw[G]at C
         cases F with
         |ready=>exact .inr ⟨_,_,_,e,C,m,HT.lh _ _ _ _⟩
         |busy=>exact .inl rfl
         |ret=>exact .inr ⟨_,_,_,e,C,m,HT.lh _ _ _ _⟩
         |exit q=>exact .inr ⟨_,_,_,e,C,m,HT.lh _ _ _ _⟩
   |_=>exact .inl rfl
 |.scope _,_,_,_,_,_=> .inl rfl
 |.goto _,_,_,_,_,_=> .inl rfl
 |.refuse _,_,_,_,_,_=> .inl rfl
theorem Ji{P:aO}{n:Nat}{e:Env}{f:List ah}{h:aw}{bad:Bool}(d:ll n e f):∀(l:List ResultVar)(K:List ah->Bool),Ref bad (QV P e h bad l K) (gw P f h l) K
 |[],K=> .of rfl rfl
 |.tmp t::l,K=>by
  show Ref bad (vA (Env.get t e) λv=>QV P e h bad l λb=>K (v::b)) _ K;rw[nD,d.2.2 t];rcases Ji d l (λb=>K (f.getD t undef::b))with c|⟨b,c,g⟩
  ·exact .inl c
  ·exact .of (by simp only[gw,c];rfl) g
 |.cell a t::l,K=>by
  show Ref bad (Wd bad (aM P t h (Env.get a e)) λv=>QV P e h bad l λb=>K (v::b)) _ K;refine Ak λv i=>?_;rw[d.2.2 a]at i;rcases Ji d l (λb=>K (v::b))with c|⟨b,c,g⟩
  ·exact .inl c
  ·exact .of (by simp only[gw,i,c];rfl) g
theorem QC{n:Nat}:∀(a:List (Tmp×ah)){e:Env}{l:List ah},ll n e l->∃c,ll n c (zU l a)/\∀(K:Env->Bool),abE n a e K=K c
 |[],e,l,b=>⟨e,b,λ_=>rfl⟩
 |p::a,e,l,b=>by
  obtain⟨j,f,g⟩:=DD b (aa p.1) p.2;obtain⟨i,d,h⟩:=QC a f;refine⟨i,d,λK=>?_⟩;show A0 n (aa p.1) e p.2 (λe=>abE n a e K)=_;rw[g,h]
theorem Ur{gl:Nat->Bool}{a:Bool}{fl:Nat}{T:ck->List ah->aw->(ah->aw->Bool)->Bool}{E:fT}(X:∀f c h K,Ref a (T f c h K) (E f c h) λr=>K r.1 r.2)(k:Nat)(c:List ah)(h:aw)(K:ah->aw->Bool):
  Ref a (Ou (λnt=>⟨P,gl,T,fl,nt,a⟩) a k c h K) (wq (du P gl E fl) k c h) λr=>K r.1 r.2:=by
 unfold Ou;rcases Dh (h.get k) a _ with A|⟨st,D,M,N,s,ok,A,o⟩
 ·exact .inl A
 rw[o]
 cases st with
 |busy=>exact .inl rfl
 |ret=>exact .inl rfl
 |exit Q=>exact .inl rfl
 |ready=>
 show Ref a (px (dx c.length M.length) _ a) _ _;refine tz (λy=>?_) (λ_=> .bad);have y:c.length=M.length:=by simpa[beq_eq]using y
 rw[nC];refine tz (λO=>?_) (λ_=> .bad);have O:D.length<=256:=by simpa[ble_eq]using O
 obtain⟨e0,h3,h4⟩:=Db D 0 HY (by omega);rw[h3];have Y:ll D.length e0 D:=by
  refine⟨rfl,O,λt=>?_⟩;rw[h4];split
  ·rfl
  ·next ht=>rw[HZ,gD,getElem?_eq_none (by omega)];rfl
 obtain⟨e1,W,h5⟩:=QC (M.zip c) Y;rw[h5]
 let L:Cx:=⟨P,gl,T,fl,D.length,a⟩
 have H:Cs L E:=λf c h K=>X f c h K;rcases oQ H N (h:=h) (K:=λx e A=>qE x
   (yl (A.get k) a λw q v j g u=>Jf w a (HT.wc (aa (.loop .busy q v j g u)) (pathOf k) A.t λt=>codeF s L e ⟨A.ax,t⟩ λx _ o=>
    yl (o.get k) a λ_ l m i d n=>aaQ x a λb p=>HT.wc (aa (.loop p l m i d n)) (pathOf k) o.t λt=>K (ai b) ⟨o.ax,t⟩))
   (λ_=>a) a) W with U|⟨ex,l1,B,e2,U,x1,h7⟩
 ·exact .inl U
 refine(show Ref a _ _ _↔_ from Iff.rfl).2 ?_;rw[h7];dsimp only
 cases ex with
 | normal=>
  dsimp only[qE];rcases Dh (B.get k) a (λw q v j g u=>Jf w a (HT.wc (aa (.loop .busy q v j g u)) (pathOf k) B.t λt=>codeF s L e2 ⟨B.ax,t⟩ λx _ o=>
    yl (o.get k) a λ_ l m i d n=>aaQ x a λb p=>HT.wc (aa (.loop p l m i d n)) (pathOf k) o.t λt=>K (ai b) ⟨o.ax,t⟩))with R|⟨w,q,v,j,g,u,R,h9⟩
  ·exact .inl R
  rw[h9]
  cases w with
  |busy=>exact .inl rfl
  |ret=>exact .inl rfl
  |exit Q=>exact .inl rfl
  |ready=>
  dsimp only[Jf];rw[HT.lh];rcases oQ H s (h:=B.set k (.loop .busy q v j g u)) (K:=λx _ o=>
    yl (o.get k) a λ_ l m i d n=>aaQ x a λb p=>HT.wc (aa (.loop p l m i d n)) (pathOf k) o.t λt=>K (ai b) ⟨o.ax,t⟩) x1 with J|⟨C,l2,G,e3,J,x2,V⟩
  ·exact .inl J
  ·refine(show Ref a (codeF s L e2 (B.set k (.loop .busy q v j g u)) _) _ _ from ?_);rw[V];dsimp only;rcases Dh (G.get k) a (λ_ l m i d n=>aaQ C a λb p=>HT.wc (aa (.loop p l m i d n)) (pathOf k) G.t λt=>K (ai b) ⟨G.ax,t⟩)with I|⟨p,l,m,i,d,n,I,x0⟩
   ·exact .inl I
   rw[x0];have z:∀b F,P0 C=aa (b,F)->wq (du P gl E fl) k c h=aa (ai b,G.set k (.loop F l m i d n)):=λb F hl=>by
    have Z:du P gl E fl N (zU D (M.zip c)) h=aa (.normal,l1,B):=U;have S:du P gl E fl s l1 (B.set k (.loop .busy q v j g u))=aa (C,l2,G):=J;unfold wq;simp only[A,y,if_true,Z,R,S,I,hl]
   cases C with
   |normal=>exact .of (z af .ready rfl) (HT.lh _ _ _ _)
   |ret=>exact .of (z ak .ret rfl) (HT.lh _ _ _ _)
   |exit Q=>exact .of (z ak (.exit Q) rfl) (HT.lh _ _ _ _)
   |_=>exact .inl rfl
 |_=>exact .inl rfl
def CD(b:Bool)(d:ck->Option (yg))(g:ck->Option tw):Prop:=
 ∀f,(d f=none/\g f=none)\/ ∃p q,d f=aa p/\g f=aa q/\
  ∀(e:ck->List ah->aw->(ah->aw->Bool)->Bool)(c:fT),(∀f a h K,Ref b (e f a h K) (c f a h) λr=>K r.1 r.2)->∀a h K,Ref b (p e a h K) (q c a h) λr=>K r.1 r.2
theorem K5{P:aO}{gl:Nat->Bool}{a:Bool}{j:ck->Option (yg)}{s:ck->Option tw}(I:CD a j s):∀n f b h K,Ref a (Bc P gl j a n f b h K) (dS P gl s n f b h) λr=>K r.1 r.2
 |0,_,_,_,_=> .bad
 | n+1,f,b,h,K=>by
  have B:=K5 I (P:=P) (gl:=gl) n;show Ref a (px (Nat.ble YB f) (tA (f-YB) λk=>Ou (λQ=>⟨P,gl,Bc P gl j a n,n,Q,a⟩) a k b h K) (gj (motive:=λ_=>Bool)
   (Wd a (P.funcs[f]?) λd=>Wd a d.body λc=>px (Nat.ble d.ntmps 256&&Nat.ble b.length d.ntmps)
    (Fx b 0 HY λe=>codeF c ⟨P,gl,Bc P gl j a n,n,d.ntmps,a⟩ e h λx e h=>afg x a (QV P e h a d.results.toList λg=>K (fW g) h)) a)
   (λp=>p (Bc P gl j a n) b h K) (j f))) _ _
  refine tz (λm=>?_) (λm=>?_)
  ·have m:YB<=f:=by simpa[ble_eq]using m
   rw[nC];rcases Ur (P:=P) (gl:=gl) (fl:=n) B (f-YB) b h K with o|⟨r,o,u⟩
   ·exact .inl o
   ·exact .of (r:=r) (by simp only[dS,iP m];exact o) u
  have m:¬YB<=f:=λO=>by
   have:Nat.ble YB f=af:=by simpa[ble_eq]using O
   rw[m]at this;cases this
  rcases I f with⟨o,u⟩|⟨p,q,o,u,z⟩
  ·rw[o];refine Ak λd F=>Ak λc W=>tz (λD=>?_) (λ_=> .bad);simp only[bj,ble_eq]at D;obtain⟨y,z,v⟩:=Db b 0 HY (by omega);rw[z];have V:ll d.ntmps y (b++aH (d.ntmps-b.length) undef):=by
    refine⟨by simp;omega,D.1,λt=>?_⟩;rw[v];split
    ·next U=>rw[Nat.sub_zero,gD,gD,List.getElem?_append_left (by omega)]
    ·next U=>
     rw[HZ,gD,List.getElem?_append_right (by omega),List.getElem?_replicate];split<;>rfl
   let M:Cx:=⟨P,gl,Bc P gl j a n,n,d.ntmps,a⟩
   have H:Cs M (dS P gl s n):=λf b h K=>B f b h K;have E:=oQ H c (h:=h) (K:=λx e h=>afg x a (QV P e h a d.results.toList λg=>K (fW g) h)) (e:=y) (l:=b++aH (d.ntmps-b.length) undef) V;rcases E with i|⟨w,S,i,L,T,R,N⟩
   ·exact .inl i
   ·rw[show codeF c ⟨P,gl,Bc P gl j a n,n,d.ntmps,a⟩ y h (λx e h=>afg x a (QV P e h a d.results.toList λg=>K (fW g) h))=_ from N];have A:du P gl (dS P gl s n) n c (b++aH (d.ntmps-b.length) undef) h=aa (w,S,i):=T;have fin:w = .normal\/w = .ret->Ref a (QV P L i a d.results.toList λg=>K (fW g) i) (dS P gl s (n+1) f b h) λr=>K r.1 r.2:=λG=>by
     rcases Ji R d.results.toList (λg=>K (fW g) i) (P:=P) (h:=i) (bad:=a)with C|⟨g,C,J⟩
     ·exact .inl C
     ·refine .of (r:=(fW g,i)) ?_ J;simp only[dS,iN m,u,F,W,A];rcases G with rfl|rfl<;>simp only[C,fP]
    cases w with
    |normal=>exact fin (.inl rfl)
    |ret=>exact fin (.inr rfl)
    |_=>exact .bad
  ·rw[o];rcases z (Bc P gl j a n) (dS P gl s n) B b h K with v|⟨r,v,i⟩
   ·exact .inl v
   ·exact .of (r:=r) (by simp only[dS,iN m,u];exact v) i
variable{f:ck}{F:Func}
section
variable {β:gR} {P:aO} {gl:Nat->Bool}
theorem Bl{e:Array ah->Sem ah}{p:tw}(l:P.funcs[f]?=aa F)(g:(F.name == "runtime.NumGoroutine")=ak) (m:F.body.isNone=af) (n:Extern.findNext F=none) (u:Extern.find F=aa e)
  (h:∀k b h v i,p k b h=aa (v,i)->∀β w (a:Array ah),pP β h w->dE β b a.toList->∃j d c,(e a).run P w = .ok j d/\Step β h w c i d/\cA c v j):qt P gl f p:=by
 intro k _ b r v i y β w a q _ x;obtain⟨j,d,c,s,t,o⟩:=h k b r v i y β w a q x;refine⟨F,l,.inr ⟨j,d,c,?_,t,o⟩⟩;rw[run_callFunc_extern l g m n u,s];rfl
def rL:tw:=λ_ a h=>match a with
 |[v]=>aa (v,h)
 |_=>none
theorem FF{fn:Func}(i:P.funcs[f]?=aa fn)(a:(fn.name == "runtime.NumGoroutine")=ak) (g:fn.body.isNone=af) (d:Extern.findNext fn=none) (l:Extern.find fn=aa Extern.AbiNoEscape.same):qt P gl f rL:=by
 refine Bl i a g d l λq n h v p c β w b k m=>?_;unfold rL at c;split at c
 ·next u=>
  simp only[bc,bA]at c;obtain⟨rfl,rfl⟩:=c;obtain⟨e,r,o,j,d⟩:=m.gm;obtain rfl:=d.jD;obtain rfl:b = #[e]:=by
   have:=congrArg List.toArray o;simpa using this
  exact⟨e,w,β,rfl,Step.refl k,j⟩
 grind
noncomputable def findAt(c:Nat):List UInt8->Nat->Int
 |[],_=> -1
 |b::l,i=>if b.toNat=c then i else findAt c l (i+1)
noncomputable def ou:tw:=λ_ a h=>match a with
 |[bu s,aB aK c]=>if 0<=c/\c<256 then aa (aB an (findAt c.toNat s.data.toList 0),h)else none
 |_=>none
theorem WL(s:ByteArray)(c:Nat)(p:c<256):findAt c s.data.toList 0=firstIdx s c.toUInt8:=by
 have f:∀(l:List UInt8)(i:Nat),s.data.toList.drop i=l->findAt c l i=match (List.range' i l.length).find? λj=>s[j]! == c.toUInt8 with|some j=>(j:Int)|none=> -1:=by
  intro l
  induction l with
  |nil=>intro i _;rfl
  | cons b l m=>
   intro i d;have e:i<s.data.toList.length:=by
    rcases de i s.data.toList.length with h|h
    ·exact h
    ·rw[cU h]at d;cases d
   have k:s[i]! = b:=by
    have n:s.data.toList[i]?=aa b:=by
     have:(s.data.toList.drop i)[0]?=aa b:=by rw[d];rfl
     rw[getElem?_drop]at this;simpa using this
    have g:i<s.size:=by simpa using e
    rw[getElem!_pos s i g];have:s.data[i]?=aa b:=by rw[<-getElem?_toList];exact n
    rw[Array.getElem?_eq_getElem (by simpa using e)]at this;exact aC this
   have o:s.data.toList.drop (i+1)=l:=by rw[<-drop_drop,d];rfl
   simp only[findAt,bP,List.range'_succ,List.find?_cons,k];by_cases a:b.toNat=c
   ·have:(b==c.toUInt8)=af:=by
     rw[beq_iff_eq,<-fQ];simp[a];omega
    rw[iP a,this]
   ·have:(b==c.toUInt8)=ak:=by
     rw[beq_eq_false_iff_ne];rintro rfl;apply a;simp;omega
    rw[iN a,this];exact m (i+1) o
 rw[f s.data.toList 0 rfl];unfold firstIdx;rw[List.range_eq_range',show s.data.toList.length=s.size by simp];rfl
theorem Da{fn:Func}(j:P.funcs[f]?=aa fn)(b:(fn.name == "runtime.NumGoroutine")=ak) (i:fn.body.isNone=af) (e:Extern.findNext fn=none) (n:Extern.find fn=aa Extern.BytealgIndexByte.indexByte):qt P gl f ou:=by
 refine Bl j b i e n λy p h v u a β w d l o=>?_;unfold ou at a;split at a
 ·next s c=>
  split at a
  ·next A=>
   simp only[bc,bA]at a;obtain⟨rfl,rfl⟩:=a;obtain⟨x,r,q,k,e⟩:=o.gm;obtain⟨t,z,rfl,m,g⟩:=e.gm;obtain rfl:=g.jD;obtain rfl:=k.kh;obtain rfl:=m.il;obtain rfl:d = #[.string s,.int aK c]:=by
    have:=congrArg List.toArray q;simpa using this
   refine⟨_,w,β,run_indexByte_string s c w,Step.refl l,?_⟩;rw[WL s c.toNat (by omega)];exact .int _ _
  ·cases a
 grind
section
noncomputable def Ld(a:Bool):yg:=λ_ b h K=>gC (motive:=λ_=>Bool) a (λv r _=>gC (motive:=λ_=>Bool) (K v h) (λ_ _ _=>a) r) b
theorem Ke(b:Bool)(d:ck->List ah->aw->(ah->aw->Bool)->Bool)(c:fT)(a:List ah)(h:aw)(K:ah->aw->Bool):Ref b (Ld b d a h K) (rL c a h) λr=>K r.1 r.2:=by
 match a with
 |[]=>exact .inl rfl
 |[v]=>exact .of rfl rfl
 |v::u::r=>exact .inl rfl
noncomputable def aaj(c:Nat)(l:List UInt8):Nat->(Int->Bool)->Bool:=gC (motive:=λ_=>Nat->(Int->Bool)->Bool) (λ_ K=>K (-1)) (λb _ a i K=>tA i λi=>px (dx b.toNat c) (K (.ofNat i)) (a (i+1) K)) l
theorem PA(c:Nat):∀(l:List UInt8)(i:Nat)(K:Int->Bool),aaj c l i K=K (findAt c l i)
 |[],_,_=>rfl
 | b::l,i,K=>by
  show tA i (λi=>px (dx b.toNat c) (K (.ofNat i)) (aaj c l (i+1) K))=_;rw[nC,PA c l];simp only[findAt];by_cases a:b.toNat=c
  ·rw[iP a,show dx b.toNat c=af by simpa[beq_eq]using a];rfl
  ·rw[iN a];have:dx b.toNat c=ak:=by
    rw[Bool.eq_false_iff];intro d;exact a (by simpa[beq_eq]using d)
   rw[this];rfl
noncomputable def BM(a:Bool):yg:=λ_ b h K=>match b with
 |[bu s,aB aK (.ofNat c)]=>px (dj c 256) (aaj c s.data.toList 0 λi=>K (aB an i) h) a
 |_=>a
theorem Ik(b:Bool)(f:ck->List ah->aw->(ah->aw->Bool)->Bool)(e:fT)(a:List ah)(h:aw)(K:ah->aw->Bool):Ref b (BM b f a h K) (ou e a h) λr=>K r.1 r.2:=by
 unfold BM;split
 ·next s c=>
  refine tz (λd=>?_) (λ_=> .bad);have d:c<256:=by simpa[blt_eq]using d
  rw[PA];refine .of (r:=(aA (findAt c s.data.toList 0),h)) ?_ rfl;simp only[ou];rw[iP ⟨by simp,by simp;omega⟩];rfl
 ·exact .bad
end
def β0:gR:=λ_=>none
def AW:Nat->Bool:=λ_=>ak
theorem aw.get_nil(n k:Nat):(⟨n,.nil⟩:aw).get k=none:=HT.get_nil _
theorem VF(n:Nat)(w:aU):pP β0 ⟨n,.nil⟩ w:=
 {
  lt:=λk a h=>nomatch h
  blk:=λk B a h=>by grind[aw.get_nil]
  own:=λk c B d a b _ h=>by grind[aw.get_nil]
  wf:=λk B h=>by grind[aw.get_nil] }
theorem aho:Gl AW β0:=λg h=>by cases h
open Go.RowKit in
theorem J8{n:Nat}{w a:aU}{b:gR}{c:aw}(s:Step β0 ⟨n,.nil⟩ w b c a):Below w.heap.size w a:=
 ⟨s.os,s.tape.1,s.output,s.size,λk d=>s.kept k d λ⟨k,B,f,e,_⟩=>by grind[aw.get_nil]⟩
end
end Go.Ab
end
section
namespace Go.Ab
open Go Go.RowKit
variable{h:aw}{W:aU}{v:ah}{w:ah}{f:ck}
section
variable {β:gR} {P:aO} {gl:Nat->Bool}
theorem Bu{e:aU}(c:pP β h W)(a:Below W.heap.size W e)(j:W.drawn<=e.drawn):Step β h W β h e:=
 {
  le:=β.le_refl,ax:=aS _
  vH:={ lt:=λk d i=>⟨(c.lt k d i).1,cz (c.lt k d i).2 a.size⟩,blk:=λk B d f g=>(c.blk k B d f g).of_heap (a.block _ (c.lt k d g).2),own:=c.own,wf:=c.wf }
  size:=a.size,os:=a.os,tape:=⟨a.tape,j⟩,output:=a.output
  kept:=λb f _=>a.block b f
  back:=λ_ _ h=>h,fresh:=λ_ _ h=> .inl h,keys:=λ_ B h _=>⟨B,h⟩ }
def vJ(P:aO)(f:ck)(a:List ah)(v:ah):Prop:=
 ∃c,P.funcs[f]?=aa c/\c.body.isSome=af/\∀w,Calls P f a.toArray w λe b=>e = .returned v/\Below w.heap.size w b/\w.drawn<=b.drawn
theorem dE.zu{β:gR}{l:List ah}(h:l.all bare=af):dE β l l:=by
 induction l with
 |nil=>exact .nil β
 |cons v l a=>
  simp only[fR,bj]at h;exact .cons (.Du h.1) (a h.2)
theorem cA.Aj{β:gR}(a:bare v=af)(h:cA β v w):w=v:=by
 cases h<;>first|rfl|(simp[bare]at a)
theorem dE.O3{β:gR}:∀{l l':List ah},l.all bare=af->dE β l l'->l'=l
 |[],l',_,h=>h.jD
 |v::l,l',a,h=>by
  simp only[fR,bj]at a;obtain⟨d,r,rfl,b,c⟩:=h.gm;rw[b.Aj a.1,c.O3 a.2]
theorem cA.abu{β:gR}(e:plain v=af)(h:cA β v w):w=v:=by
 have d:∀{a b:Array ah},nL β a b->(∀x∈a.toList,∀y,cA β x y->y=x)->b=a:=λ{a b} c f=>by
  refine Array.ext c.1.symm λi k l=>?_;have:=c.2 i a[i] b[i] (Array.getElem?_eq_getElem l) (Array.getElem?_eq_getElem k);exact f _ (by simp) _ this
 unfold plain at e;split at e
 ·next cs=>
  obtain⟨b,rfl,c⟩:=h.tE;rw[d c λx f y g=>g.Aj (cw.1 e x f)]
 ·next cs=>
  obtain⟨b,rfl,c⟩:=h.Aq;rw[d c λx f y g=>?_];have:=cw.1 e x f;split at this
  ·next o=>
   obtain⟨p,rfl,j⟩:=g.tE;rw[d j λz n u m=>m.Aj (cw.1 this z n)]
  ·exact g.Aj this
 ·exact h.Aj e
theorem Nj{m:fT}(i:vI P AW m){f:ck}{b:Func}{a:List ah}{n:Nat}{v:ah}{l:aw}(x:m f a ⟨n,.nil⟩=aa (v,l))(t:a.all bare=af)(p:plain v=af)(r:f<YB)(d:P.funcs[f]?=aa b)(c:b.body.isSome=af)
  (s:jJ P):vJ P f a v:=by
 refine⟨b,d,c,λw=>?_⟩;obtain⟨y,z,h⟩:=i.fn f a _ v l r x β0 w a.toArray (VF n w) aho (by simpa using dE.zu t);rcases h with⟨_,h⟩|⟨u,o,g,j,_,_⟩
 ·refine h.mono ?_;rintro e o ⟨u,g,rfl,k,q⟩;exact⟨by rw[q.abu p],J8 k,k.tape.2⟩
 ·rw[mM s d c]at j
  cases j
def GW:List UInt8->List UInt8->Bool
 |[],[]=>af
 |a::x,b::y=>dx a.toNat b.toNat&&GW x y
 |_,_=>ak
theorem HM:∀{a b:List UInt8},GW a b=af->a=b
 |[],[],_=>rfl
 |a::x,b::y,h=>by
  simp only[GW,bj,beq_eq]at h;rw[fQ.1 h.1,HM h.2]
noncomputable def Ev:ah->ah->Bool
 |ai a,ai b=>a==b
 |aB k a,aB c b=>ajx k c&&agd a b
 |bu a,bu b=>GW a.data.toList b.data.toList
 |_,_=>ak
theorem K3{a b:ah}(h:Ev a b=af):a=b:=by
 unfold Ev at h;split at h
 ·rw[beq_iff_eq.1 h]
 ·simp only[bj,aax,beq_iff_eq]at h;rw[aee h.1,h.2]
 ·next a b=>
  have h:=HM h;obtain⟨⟨a⟩⟩:=a;obtain⟨⟨b⟩⟩:=b;simp only at h;rw[h]
 ·cases h
noncomputable def wH:List ah->List ah->Bool
 |[],[]=>af
 |a::x,b::y=>Ev a b&&wH x y
 |_,_=>ak
theorem Er:∀{a b:List ah},wH a b=af->a=b
 |[],[],_=>rfl
 |a::x,b::y,h=>by
  simp only[wH,bj]at h;rw[K3 h.1,Er h.2]
theorem O2{a b:ah}(h:Ev a b=af):bare b=af:=by
 unfold Ev at h;split at h<;>first|rfl|cases h
theorem CI:∀{a b:List ah},wH a b=af->b.all bare=af
 |[],[],_=>rfl
 |a::x,b::y,h=>by
  simp only[wH,bj]at h;simp only[fR,bj];exact⟨O2 h.1,CI h.2⟩
noncomputable def NK:ah->ah->Bool
 |aq a,aq b=>wH a.toList b.toList
 |a,b=>Ev a b
noncomputable def Hf:List ah->List ah->Bool
 |[],[]=>af
 |a::x,b::y=>NK a b&&Hf x y
 |_,_=>ak
noncomputable def KZ:ah->ah->Bool
 |av a,av b=>Hf a.toList b.toList
 |a,b=>NK a b
theorem Zv{a b:Array ah}(h:a.toList=b.toList):a=b:=by
 have:=congrArg List.toArray h;simpa using this
theorem LA{a b:ah}(h:NK a b=af):a=b:=by
 unfold NK at h;split at h
 ·rw[Zv (Er h)]
 ·exact K3 h
theorem I1:∀{a b:List ah},Hf a b=af->a=b
 |[],[],_=>rfl
 |a::x,b::y,h=>by
  simp only[Hf,bj]at h;rw[LA h.1,I1 h.2]
theorem Zr{a b:ah}(h:KZ a b=af):a=b:=by
 unfold KZ at h;split at h
 ·rw[Zv (I1 h)]
 ·exact LA h
noncomputable def look:List (List ah×ah)->List ah->Option ah
 |[],_=>none
 |(a,v)::r,b=>if wH a b then aa v else look r b
noncomputable def LR(b:List (List ah×ah)):tw:=λ_ a h=>(look b a).map λv=>(v,h)
def yR(P:aO)(f:ck)(a:List (List ah×ah)):Prop:=∀r∈a,vJ P f r.1 r.2/\plain r.2=af
theorem PZ:∀{c:List (List ah×ah)}{b:List ah}{v:ah},look c b=aa v->(b,v)∈c/\b.all bare=af
 |[],_,_,h=>nomatch h
 | (a,u)::r,b,v,h=>by
  simp only[look]at h;split at h
  ·next d=>
   obtain rfl:=aC h;rw[Er d];exact⟨by simp,CI d⟩
  ·obtain⟨e,f⟩:=PZ h;exact⟨by simp[e],f⟩
theorem aew{g:List (List ah×ah)}(y:yR P f g):qt P gl f (LR g):=by
 intro B _ i h v A k β w b r _ x;unfold LR at k;obtain⟨u,t,j⟩:=bq.1 k;simp only[bA]at j;obtain⟨rfl,rfl⟩:=j;obtain⟨o,l⟩:=PZ t;obtain⟨⟨m,n,d,a⟩,p⟩:=y _ o;refine⟨m,n,.inl ⟨d,?_⟩⟩;have c:b=i.toArray:=by
  have:=dE.O3 l x;simpa using congrArg List.toArray this
 rw[c];refine(a w).mono ?_;rintro e z ⟨rfl,s,q⟩;exact⟨u,β,rfl,Bu r s q,.uy p⟩
section
noncomputable def aab(b:Bool)(c:List (List ah×ah)):yg:=λ_ a h K=>gC (motive:=λ_=>Bool) b (λr _ d=>px (wH r.1 a) (vA r.2 λv=>K v h) d) c
theorem WI(d:Bool)(c:List (List ah×ah))(f:ck->List ah->aw->(ah->aw->Bool)->Bool)(g:fT)(b:List ah)(h:aw)(K:ah->aw->Bool):Ref d (aab d c f b h K) (LR c g b h) λr=>K r.1 r.2:=by
 unfold LR
 induction c with
 |nil=>exact .inl rfl
 |cons r c i=>
  obtain⟨a,v⟩:=r;show Ref d (px (wH a b) (vA v λv=>K v h) (aab d c f b h K)) _ _;simp only[look];refine tz (λe=>?_) (λe=>?_)
  ·rw[nD,iP e];exact .of rfl rfl
  ·rw[iN (by rw[e];simp)];exact i
end
theorem abg{gl:Nat->Bool}{d:ck->Option (yg)}{g:ck->Option tw}(j:CD ak d g){n:Nat}{f:ck}{a:List ah}{h:aw}{v:ah}(i:Bc P gl d ak n f a h (λu _=>KZ v u)=af):
  ∃c,dS P gl g n f a h=aa (v,c):=by
 rcases K5 (P:=P) (gl:=gl) j n f a h (λu _=>KZ v u)with b|⟨⟨u,c⟩,b,e⟩
 ·rw[i]at b;cases b
 ·rw[i]at e;exact⟨c,by rw[b,Zr e.symm]⟩
theorem W0(l:jJ P){b:ck->Option (yg)}{d:ck->Option tw}(p:CD ak b d){n:Nat}(c:vI P AW (dS P AW d n)){f:ck}{a:List ah}{v:ah}
  (q:Bc P AW b ak n f a ⟨0,.nil⟩ (λu _=>KZ v u)=af) (g:(a.all bare&&plain v&&dj f YB&&yX P f)=af):vJ P f a v:=by
 simp only[bj]at g;obtain⟨⟨⟨k,m⟩,j⟩,o⟩:=g;obtain⟨r,i,h⟩:=Fq o;obtain⟨s,e⟩:=abg p q;exact Nj c e k m (by simpa[blt_eq]using j) i h l
theorem xD:yR P f []:=λ_ h=>by cases h
theorem sO{a:List ah}{b:List (List ah×ah)}(h:vJ P f a v)(d:plain v=af)(e:yR P f b):yR P f ((a,v)::b):=λr c=>by
 rcases cO.1 c with rfl|c
 ·exact⟨h,d⟩
 ·exact e r c
end
section
variable {P:aO} {gl:Nat->Bool}
inductive yP where
 |Nn (tab:List (List ah×ah))
 |agn
 |U6
noncomputable def yP.Q9(P:aO)(gl:Nat->Bool)(e:yP):tw:=yP.rec (motive:=λ_=>tw) (λa=>LR a) rL ou e
noncomputable def yP.aah(P:aO)(gl:Nat->Bool)(a:Bool)(e:yP):yg:=yP.rec (motive:=λ_=>yg) (λb=>aab a b) (Ld a) (BM a) e
abbrev th:=List (ck×yP)
noncomputable def HS{a:Type}(b:Bool)(x y:Option a):Option a:=Bool.rec (motive:=λ_=>Option a) y x b
noncomputable def QA(P:aO)(gl:Nat->Bool)(l:th)(f:ck):Option tw:=gC (motive:=λ_=>Option tw) none (λx _ a=>HS (dx f x.1) (aa (x.2.Q9 P gl)) a) l
noncomputable def abq(P:aO)(gl:Nat->Bool)(a:Bool)(l:th)(f:ck):Option (yg):=gC (motive:=λ_=>Option (yg)) none (λx _ b=>HS (dx f x.1) (aa (x.2.aah P gl a)) b) l
theorem abr(a:Bool)(l:th):CD a (abq P gl a l) (QA P gl l):=λf=>by
 induction l with
 |nil=>exact .inl ⟨rfl,rfl⟩
 | cons x l o=>
  show(HS (dx f x.1) (aa (x.2.aah P gl a)) (abq P gl a l f)=none/\HS (dx f x.1) (aa (x.2.Q9 P gl)) (QA P gl l f)=none)\/_
  cases c:dx f x.1 with
  | false=>
   rcases o with⟨g,i⟩|⟨p,q,g,i,n⟩
   ·exact .inl ⟨g,i⟩
   ·refine .inr ⟨p,q,?_,?_,n⟩
    ·show HS (dx f x.1) (aa (x.2.aah P gl a)) (abq P gl a l f)=_;rw[c];exact g
    ·show HS (dx f x.1) (aa (x.2.Q9 P gl)) (QA P gl l f)=_;rw[c];exact i
  | true=>
   refine .inr ⟨x.2.aah P gl a,x.2.Q9 P gl,?_,?_,λj d r b h K=>?_⟩
   ·show HS (dx f x.1) (aa (x.2.aah P gl a)) (abq P gl a l f)=_;rw[c];rfl
   ·show HS (dx f x.1) (aa (x.2.Q9 P gl)) (QA P gl l f)=_;rw[c];rfl
   ·obtain⟨k,e⟩:=x
    cases e with
    |Nn m=>exact WI a m j d b h K
    |agn=>exact Ke a j d b h K
    |U6=>exact Ik a j d b h K
def tZ(P:aO)(gl:Nat->Bool)(l:th):Prop:=∀x∈l,qt P gl x.1 (x.2.Q9 P gl)
theorem Vo{l:th}(h:tZ P gl l):wE P gl (QA P gl l):=λf p a=>by
 induction l with
 |nil=>cases a
 | cons x l c=>
  have a:HS (dx f x.1) (aa (x.2.Q9 P gl)) (QA P gl l f)=aa p:=a
  cases b:dx f x.1 with
  |false=>rw[b]at a;exact c (λy d=>h y (by simp[d])) a
  |true=>
   rw[b]at a;obtain rfl:=aC a;obtain rfl:f=x.1:=by simpa[beq_eq]using b
   exact h x (by simp)
theorem KY:tZ P gl []:=λ_ h=>by cases h
theorem uf{x:ck×yP}{l:th}(h:qt P gl x.1 (x.2.Q9 P gl))(b:tZ P gl l):tZ P gl (x::l):=λy a=>by
 rcases cO.1 a with rfl|a
 ·exact h
 ·exact b y a
theorem pR{a:List (List ah×ah)}{l:th}(h:yR P f a)(b:tZ P gl l):tZ P gl ((f,.Nn a)::l):=uf (aew h) b
theorem NP{p:tw}{c:ck->Option tw}(h:qt P gl f p)(d:wE P gl c):wE P gl (λg=>HS (dx g f) (aa p) (c g)):=λg q a=>by
 dsimp only at a
 cases b:dx g f with
 |false=>rw[b]at a;exact d g q a
 |true=>
  rw[b]at a;obtain rfl:=aC a
  simp_all
structure BH(P:aO):Prop where
 names:jJ P
 Z0:∀(f:ck)(fn:Func),P.funcs[f]?=aa fn->jd fn=af
theorem BH.run(h:BH P){l:th}(a:tZ P gl l)(n:Nat):vI P gl (dS P gl (QA P gl l) n):=MH h.names (Vo a) (Fo h.names h.Z0) (CQ h.names) n
theorem BH.alf(h:BH P){pr:ck->Option tw}(a:wE P gl pr)(n:Nat):vI P gl (dS P gl pr n):=MH h.names a (Fo h.names h.Z0) (CQ h.names) n
theorem qf(b:BH P){l:th}(c:tZ P AW l){n:Nat}{f:ck}{a:List ah}{v:ah}(d:Bc P AW (abq P AW ak l) ak n f a ⟨0,.nil⟩ (λu _=>KZ v u)=af)
  (e:(a.all bare&&plain v&&dj f YB&&yX P f)=af):vJ P f a v:=
 W0 b.names (abr ak l) (b.run c n) d e
end
end Go.Ab
end
section
namespace Go.Ab
open Go
variable{d:List ah}{f:ck}{w:ah}{P:aO}{r:bh->ah}{F:Func}
section
structure Sx where
 P:aO
 gl:Nat->Bool
 pr:ck->Option tw
abbrev Fr:=Nat->ah
def uR(E:Fr)(d:Nat)(v:ah):Fr:=λt=>if t=d then v else E t
def AZ(E:Fr)(dst:Option Tmp)(v:ah):Fr:=match dst with
 |some d=>uR E d v
 |none=>E
def jK(a:Nat->Bool)(E:Fr):bh->ah
 |.tmp t=>E t
 |.const v=>if plain v then v else rj
 |.global g=>if a g then cn g 0 else rj
 |.func f=> .func (.func f) #[] #[]
def ER(nm:Nat)(E:Fr)(a:List ah):Prop:=a.length=nm/\∀t,a.getD t undef=E t
def CR(nm:Nat):Option Tmp->Bool
 |none=>af
 |some d=>decide (d<nm)
theorem ER.ev{nm:Nat}{E:Fr}{b:List ah}(a:Nat->Bool)(h:ER nm E b):ev a b=jK a E:=by
 funext x
 cases x with
 |tmp t=>exact h.2 t
 |const v=>rfl
 |global g=>rfl
 |func f=>rfl
theorem ER.put{nm:Nat}{E:Fr}(h:ER nm E d){dst:Option Tmp}(b:CR nm dst=af)(v:ah):ER nm (AZ E dst v) (lG d dst v):=by
 cases dst with
 |none=>exact h
 |some c=>
  have b:c<nm:=by simpa[CR]using b
  refine⟨by simp[lG,h.1],λt=>?_⟩;simp only[lG,AZ,uR,gD,List.getElem?_set];by_cases a:t=c
  ·subst a;rw[iP rfl,iP rfl,iP (by rw[h.1];omega)];rfl
  ·rw[iN a,iN (λe=>a e.symm),<-gD];exact h.2 t
def FR(S:Sx)(f:ck)(a:List ah)(h:aw)(v:ah)(b:aw):Prop:=∃c,∀n,c<=n->dS S.P S.gl S.pr n f a h=aa (v,b)
def FW(S:Sx)(f:ck)(a:List ah)(h:aw)(Q:ah->aw->Prop):Prop:=∃v b,FR S f a h v b/\Q v b
theorem FW.mono{S:Sx}{h:aw}{Q R:ah->aw->Prop}(c:FW S f d h Q)(g:∀v a,Q v a->R v a):FW S f d h R:=by
 obtain⟨v,a,b,e⟩:=c;exact⟨v,a,b,g v a e⟩
abbrev VH:=ah->aw->Prop
abbrev FH:=Fr->aw->Prop
abbrev J2:=Exit->Fr->aw->Prop
def JC(ops:Array aR)(E:Fr)(a:Option (Nat×Bool)):Option Bool:=match a with
 |none=>aa af
 | some (j,c)=>match (ops[j]?).bind (·.dst)with
  |some d=>match E d with
   |ai b=>aa (b==c)
   |av _=>aa ak
   |_=>none
  |none=>none
theorem uK{nm:Nat}{E:Fr}(h:ER nm E d)(ops:Array aR)(o:aR):jN ops d o=JC ops E o.guard:=by
 unfold jN JC
 cases o.guard with
 |none=>rfl
 |some g=>
  obtain⟨j,a⟩:=g;dsimp only
  cases (ops[j]?).bind (·.dst)with
  |none=>rfl
  |some b=>dsimp only;rw[h.2 b];rfl
def OC(r:Option (ah×dJ))(h:aw)(K:VH):Prop:=match r with
 |some (v,u)=>K v (u.app h)
 |none=>False
def AL(r:Option ah)(h:aw)(K:VH):Prop:=match r with
 |some v=>K v h
 |none=>False
def xM(S:Sx)(f:ah)(b:List ah)(h:aw)(K:VH):Prop:=match f with
 |aN (.func g) first a=>g<YB/\FW S g (first.toList++b++a.toList) h K
 |aN (.yield k) first a=>(first.size=0/\a.size=0)/\FW S (YB+k) b h K
 |_=>False
def wpOp(S:Sx)(E:Fr)(o:aR)(h:aw)(K:VH):Prop:=match o.op with
 |.call { callee:= .value f,args,.. }=>xM S (jK S.gl E f) (args.toList.map (jK S.gl E)) h K
 |_=>OC (fM S.P mI (jK S.gl E) o h) h K
def wpG(r:Option Bool)(A B:Unit->Prop):Prop:=match r with
 |some af=>A ()
 |some ak=>B ()
 |none=>False
def wpO(S:Sx)(ops:Array aR):List aR->Fr->aw->FH->Prop
 |[],E,h,R=>R E h
 |o::l,E,h,R=>wpG (JC ops E o.guard) (λ_=>wpOp S E o h λv h=>wpO S ops l (AZ E o.dst v) h R) (λ_=>wpO S ops l (AZ E o.dst undef) h R)
def aj4(S:Sx)(ops:Array aR)(dst:Option Tmp)(l:List aR)(E:Fr)(h:aw)(R:FH)(_:Unit):Prop:=wpO S ops l (AZ E dst undef) h R
def opK(S:Sx)(ops:Array aR)(dst:Option Tmp)(l:List aR)(E:Fr)(R:FH)(v:ah)(h:aw):Prop:=wpO S ops l (AZ E dst v) h R
def ak0(S:Sx)(ops:Array aR)(o:aR)(l:List aR)(E:Fr)(h:aw)(R:FH)(_:Unit):Prop:=wpOp S E o h (opK S ops o.dst l E R)
section
variable (S:Sx) (ops:Array aR) (o:aR) (l:List aR) (dst:Option Tmp) (E:Fr) (h:aw) (R:FH) (v:ah)
theorem ada:wpO S ops (o::l) E h R=wpG (JC ops E o.guard) (ak0 S ops o l E h R) (aj4 S ops o.dst l E h R):=rfl
theorem Uh(ops:Array aR)(E:Fr)(j:Nat)(a:Bool):JC ops E (aa (j,a))=match (ops[j]?).bind (·.dst)with
  |some d=>(match E d with|ai b=>aa (b==a)|av _=>aa ak|_=>none)
  |none=>none:=rfl
end
noncomputable section
variable (S:Sx) (bf:Nat->Nat->Bool)
def LS(o:aR)(E:Fr)(v:ah)(h:aw):Bool:=match eB S.P (jK S.gl E) o h with
 |some a=>iz 4 v a
 |none=>ak
def vh(j:Nat)(o:aR)(E:Fr)(v:ah):aw->List (Nat×aw)->Bool->Bool
 |h,[],a=>a||LS S o E v h
 |h,(e,b)::r,a=>((a&&dj j e)||bf j e||LS S o E v h)&&(bf e j||vh j o E v b r (dj e j))
abbrev RD:=Fr×aR×sW
def Cc(h:aw)(a:List (Nat×aw)):List RD->Nat->Bool
 |[],_=>af
 |(E,o,.read v)::r,j=>vh S bf j o E v h a af&&Cc h a r (j+1)
 |_::r,j=>Cc h a r (j+1)
def uU:List RD->Nat->List (Nat×aw)
 |[],_=>[]
 |(_,_,.yk _ h)::r,j=>(j,h)::uU r (j+1)
 |_::r,j=>uU r (j+1)
def CP(h:aw)(a:List RD):Bool:=chained bf (uU a 0)&&Cc S bf h (uU a 0) a 0
def JI(E:Fr)(o:aR)(h:aw)(K:VH):Prop:=match o.op with
 |.call { callee:= .value f,args,.. }=>xM S (jK S.gl E f) (args.toList.map (jK S.gl E)) h K
 |_=>OC (gM S.P mI (jK S.gl E) o h) h K
def Eg(ops:Array aR)(a:Nat)(d:aw):List aR->Nat->Fr->aw->List (Nat×eE)->List RD->FH->Prop
 |[],_,E,h,c,b,R=>CP S bf d b.reverse=af/\R E (bS h a c)
 | o::l,j,E,h,c,b,R=>wpG (JC ops E o.guard)
   (λ_=>match eW S.P (jK S.gl E) o with
    |some v=>Eg ops a d l (j+1) (AZ E o.dst v) h c ((E,o,.pure v)::b) R
    | none=>match eB S.P (jK S.gl E) o h with
     |some v=>Eg ops a d l (j+1) (AZ E o.dst v) h c ((E,o,.read v)::b) R
     |none=>match dz S.P (jK S.gl E) o with
      |some (B,f)=>Eg ops a d l (j+1) (AZ E o.dst (f (a+j))) h ((j,B)::c) ((E,o,.alloc B (f (a+j)))::b) R
      |none=>JI S E o (bS h a (c.filter λp=>bf j p.1)) λv e=>Eg ops a d l (j+1) (AZ E o.dst v) e (c.filter λp=> !bf j p.1) ((E,o,.yk v e)::b) R)
   (λ_=>Eg ops a d l (j+1) (AZ E o.dst undef) h c ((E,o,.skip)::b) R)
def wpD(nm:Nat)(ops:Array aR)(E:Fr)(h:aw)(R:FH):Prop:=
 (BI ops=ak/\Eg S (gy (lK ops)) ops h.ax { h with ax:=h.ax+ops.size } ops.toList 0 E { h with ax:=h.ax+ops.size } [] [] R)\/
  (BI ops=af/\∃(a:List ah)(b:aw),a.length=nm/\CO S.P S.gl ops (gy (lK ops)) ((dL nm).map E) h=aa (a,b)/\R (λt=>a.getD t undef) b)
end
section
variable (S:Sx) (nm:Nat)
def Ze(c:Code)(E:Fr)(h:aw)(x:Exit)(e:Fr)(f:aw):Prop:=
 ∃d,∀n N,d<=n->d<=N->∀b,ER nm E b->∃a,ER nm e a/\du S.P S.gl (dS S.P S.gl S.pr n) N c b h=aa (x,a,f)
def aiC(c:Code)(E:Fr)(h:aw)(x:Exit)(e:Fr)(f:aw):Prop:=
 ∃b,∀n N j,b<=n->b<=N->b<=j->∀d,ER nm E d->∃a,ER nm e a/\iter (du S.P S.gl (dS S.P S.gl S.pr n) N c) j d h=aa (x,a,f)
def KL(c:Code)(E:Fr)(h:aw)(Q:J2):Prop:=∃x a b,aiC S nm c E h x a b/\Q x a b
def RW(c:Code)(E:Fr)(h:aw)(Q:J2):Prop:=∃x a b,Ze S nm c E h x a b/\Q x a b
def wpB(v:ah)(A B:Unit->Prop):Prop:=match v with
 |ai af=>A ()
 |ai ak=>B ()
 |_=>False
def wpC:Code->Fr->aw->J2->Prop
 |.skip,E,h,Q=>Q .normal E h
 |.region _ ops ak,E,h,Q=>wpO S ops ops.toList E h λE h=>Q .normal E h
 |.region _ ops af,E,h,Q=>wpD S nm ops E h λE h=>Q .normal E h
 |.seq a b,E,h,Q=>wpC a E h λx E h=>match x with
  |.normal=>wpC b E h Q
  |x=>Q x E h
 |.cond c a b,E,h,Q=>wpB (jK S.gl E c) (λ_=>wpC a E h Q) (λ_=>wpC b E h Q)
 |.block id c,E,h,Q=>wpC c E h λx E h=>match x with
  |.exit id'=>if id'=id then Q .normal E h else Q (.exit id') E h
  |x=>Q x E h
 |.loop c,E,h,Q=>KL S nm c E h Q
 |.exit id,E,h,Q=>Q (.exit id) E h
 |.ret,E,h,Q=>Q .ret E h
 |.label _,E,h,Q=>Q .normal E h
 |.rangeFunc f d a b,E,h,Q=>RW S nm (.rangeFunc f d a b) E h Q
 |_,_,_,_=>False
def aiV(c:Code)(Q:J2)(x:Exit)(E:Fr)(h:aw):Prop:=match x with
 |.normal=>KL S nm c E h Q
 |x=>Q x E h
def goK(c:Code)(E:Fr)(h:aw)(Q:J2)(_:Unit):Prop:=wpC S nm c E h Q
variable (a b c:Code) (o:bh) (id id':Nat) (ops:Array aR) (E:Fr) (h:aw) (Q:J2)
theorem ac7:wpC S nm (.cond o a b) E h Q=wpB (jK S.gl E o) (goK S nm a E h Q) (goK S nm b E h Q):=rfl
end
theorem afO{v:ah}{A B:Unit->Prop}(h:wpB v A B):∃b,v=ai b/\((b=af/\A ())\/(b=ak/\B ())):=by
 cases v with
 |bool b=>
  cases b with
  |true=>exact⟨af,rfl,.inl ⟨rfl,h⟩⟩
  |false=>exact⟨ak,rfl,.inr ⟨rfl,h⟩⟩
 |_=>exact h.elim
theorem Oo{r:Option Bool}{A B:Unit->Prop}(h:wpG r A B):(r=aa af/\A ())\/(r=aa ak/\B ()):=by
 cases r with
 |none=>exact h.elim
 |some b=>
  cases b with
  |true=>exact .inl ⟨rfl,h⟩
  |false=>exact .inr ⟨rfl,h⟩
section
variable {S:Sx} {nm:Nat}
theorem Ef{h:aw}{K:VH}(c:xM S w d h K):∃v a b,(∀n,b<=n->yU (dS S.P S.gl S.pr n) w d h=aa (v,.all a))/\K v a:=by
 unfold xM at c;split at c
 ·next g first f=>
  obtain⟨k,v,a,⟨b,j⟩,e⟩:=c;refine⟨v,a,b,λn i=>?_,e⟩
  simp_all[yU]
 ·obtain⟨l,v,a,⟨b,j⟩,e⟩:=c;refine⟨v,a,b,λn i=>?_,e⟩
  simp_all[yU]
 grind
theorem uh{o:aR}(b:ep o=af):∃f args a,o.op = .call { callee:= .value f,args:=args,argTypes:=a }:=by grind[ep]
theorem Rw{E:Fr}{o:aR}{h:aw}{K:VH}(b:JI S E o h K):∃v u c,(∀n,c<=n->gM S.P (dS S.P S.gl S.pr n) (jK S.gl E) o h=aa (v,u))/\K v (u.app h):=by
 cases m:ep o with
 |true=>
  obtain⟨f,l,s,e⟩:=uh m;obtain⟨dst,r,q,p,g,d⟩:=o;dsimp only at e;subst e;obtain⟨v,k,c,i,j⟩:=Ef b;exact⟨v,.all k,c,i,j⟩
 | false=>
  have a:OC (gM S.P mI (jK S.gl E) o h) h K:=by
   unfold JI at b;split at b
   ·grind[ep]
   ·omega
  unfold OC at a;split at a
  ·next v u e=>exact⟨v,u,0,λn _=>by grind[BW],a⟩
  grind
theorem Qs{a:fT}{o:aR}{h:aw}(g:ep o=af):fM P a r o h=gM P a r o h:=by
 obtain⟨f,d,l,e⟩:=uh g;obtain⟨dst,k,j,i,c,b⟩:=o;dsimp only at e;subst e;rfl
theorem Un{E:Fr}{o:aR}{h:aw}{K:VH}(b:wpOp S E o h K):∃v u c,(∀n,c<=n->fM S.P (dS S.P S.gl S.pr n) (jK S.gl E) o h=aa (v,u))/\K v (u.app h):=by
 cases d:ep o with
 |true=>
  obtain⟨f,p,t,e⟩:=uh d;obtain⟨dst,s,r,q,i,g⟩:=o;dsimp only at e;subst e;obtain⟨v,m,c,k,l⟩:=Ef b;exact⟨v,.all m,c,λn j=>by rw[Qs d];exact k n j,l⟩
 | false=>
  have a:OC (fM S.P mI (jK S.gl E) o h) h K:=by
   unfold wpOp at b;split at b
   ·grind[ep]
   ·omega
  unfold OC at a;split at a
  ·next v u e=>exact⟨v,u,0,λn _=>by grind[IW],a⟩
  grind
theorem Fb(ops:Array aR){R:FH}:∀(l:List aR)(E:Fr)(h:aw),(l.all λo=>CR nm o.dst)=af->wpO S ops l E h R->
  ∃e f x,(∀n,x<=n->∀d,ER nm E d->∃a,ER nm e a/\qK S.P S.gl (dS S.P S.gl S.pr n) ops l d h=aa (a,f))/\R e f
 |[],E,h,_,b=>⟨E,h,0,λn _ d c=>⟨d,c,rfl⟩,b⟩
 | o::l,E,h,g,b=>by
  simp only[fR,bj]at g;rcases Oo b with⟨q,b⟩|⟨q,b⟩
  ·obtain⟨v,u,r,s,t⟩:=Un b;obtain⟨e,f,j,k,m⟩:=Fb ops l _ _ g.2 t;refine⟨e,f,max r j,λn p d c=>?_,m⟩;obtain⟨a,i,w⟩:=k n (by omega) _ (c.put g.1 v);refine⟨a,i,?_⟩;simp only[qK];rw[uK c,q,c.ev,s n (by omega)];omega
  ·obtain⟨e,f,j,k,m⟩:=Fb ops l _ _ g.2 b;refine⟨e,f,j,λn p d c=>?_,m⟩;obtain⟨a,i,w⟩:=k n p _ (c.put g.1 undef)
   grind[uK,qK]
def HE(nm:Nat):List aR->List RD->List (List ah×sW)->Prop
 |[],[],[]=>True
 |o::c,(E,d,e)::r,(b,a)::f=>d=o/\a=e/\ER nm E b/\HE nm c r f
 |_,_,_=>False
theorem Pp:∀{l:List aR}{r:List RD}{a:List (List ah×sW)}(j:Nat),HE nm l r a->ju a j=uU r j
 |[],[],[],_,_=>rfl
 |o::d,(E,f,e)::r,(c,b)::a,j,h=>by
  obtain⟨rfl,rfl,_,h⟩:=h
  cases b<;>simp only[ju,uU,Pp (j+1) h]
 |[],[],_::_,_,h=>h.elim
 |[],_::_,_,_,h=>h.elim
 |_::_,[],_,_,h=>h.elim
 |_::_,_::_,[],_,h=>h.elim
theorem DZ{o:aR}{E:Fr}{v:ah}{h:aw}(a:ER nm E d):ox S.P S.gl o d v h=LS S o E v h:=by
 unfold ox LS;rw[a.ev];rfl
theorem Je{bf:Nat->Nat->Bool}{j:Nat}{o:aR}{E:Fr}{c:List ah}{v:ah}(d:ER nm E c):∀(b:List (Nat×aw))(h:aw)(a:Bool),qR S.P S.gl bf j o c v h b a=vh S bf j o E v h b a
 |[],h,a=>by grind[DZ,qR,vh]
 |(e,f)::b,h,a=>by simp only[qR,vh,DZ d,Je d b]
theorem LK{bf:Nat->Nat->Bool}{h:aw}{c:List (Nat×aw)}:∀{l:List aR}{r:List RD}{b:List (List ah×sW)}(j:Nat),HE nm l r b->mJ S.P S.gl bf h c l b j=Cc S bf h c r j
 |[],[],[],_,_=>rfl
 |o::i,(E,k,e)::r,(g,d)::b,j,a=>by
  obtain⟨rfl,rfl,f,a⟩:=a
  cases d<;>simp only[mJ,Cc,LK (j+1) a,Je f]
 |[],[],_::_,_,h=>h.elim
 |[],_::_,_,_,h=>h.elim
 |_::_,[],_,_,h=>h.elim
 |_::_,_::_,[],_,h=>h.elim
theorem JH(bf:Nat->Nat->Bool)(ops:Array aR)(a:Nat)(A:aw){R:FH}:∀(l:List aR)(j:Nat)(E:Fr)(h:aw)(m:List (Nat×eE))(g:List RD),(l.all λo=>CR nm o.dst)=af->Eg S bf ops a A l j E h m g R->
  ∃p s k r J,(∀n,J<=n->∀b,ER nm E b->∃i t,ER nm p i/\HE nm l r t/\ij S.P S.gl (dS S.P S.gl S.pr n) ops bf a l j b h m=aa (t,i,s,k))/\CP S bf A (g.reverse++r)=af/\R p (bS s a k)
 |[],j,E,h,m,g,_,c=>⟨E,h,m,[],0,λn _ b d=>⟨b,[],d,trivial,rfl⟩,by rw[cF];exact c.1,c.2⟩
 | o::l,j,E,h,m,g,I,c=>by
  simp only[fR,bj]at I;have fin:∀(v:ah)(e:sW)(D:aw)(y:List (Nat×eE))(z:Nat),Eg S bf ops a A l (j+1) (AZ E o.dst v) D y ((E,o,e)::g) R->
    (∀n,z<=n->∀b,ER nm E b->∀q,ij S.P S.gl (dS S.P S.gl S.pr n) ops bf a l (j+1) (lG b o.dst v) D y=aa q->ij S.P S.gl (dS S.P S.gl S.pr n) ops bf a (o::l) j b h m=aa ((b,e)::q.1,q.2))->
    ∃p s k r J,(∀n,J<=n->∀b,ER nm E b->∃i t,ER nm p i/\HE nm (o::l) r t/\ij S.P S.gl (dS S.P S.gl S.pr n) ops bf a (o::l) j b h m=aa (t,i,s,k))/\CP S bf A (g.reverse++r)=af/\R p (bS s a k):=by
   intro v e D y z L w;obtain⟨p,s,k,r,O,H,U,P⟩:=JH bf ops a A l (j+1) _ _ _ _ I.2 L;refine⟨p,s,k,(E,o,e)::r,max z O,λn N b d=>?_,?_,P⟩
   ·obtain⟨i,t,K,Q,T⟩:=H n (by omega) _ (d.put I.1 v);exact⟨i,(b,e)::t,K,⟨rfl,rfl,d,Q⟩,w n (by omega) b d _ T⟩
   ·grind
  rcases Oo c with⟨C,c⟩|⟨C,c⟩
  ·cases x:eW S.P (jK S.gl E) o with
   |some v=>
    rw[x]at c;refine fin v (.pure v) h m 0 c λn _ b d q w=>?_;simp only[ij];rw[uK d,C,d.ev,x]
    grind
   | none=>
    rw[x]at c;dsimp only at c
    cases F:eB S.P (jK S.gl E) o h with
    |some v=>
     rw[F]at c;refine fin v (.read v) h m 0 c λn _ b d q w=>?_;simp only[ij];rw[uK d,C,d.ev,x]
     grind
    | none=>
     rw[F]at c;dsimp only at c
     cases G:dz S.P (jK S.gl E) o with
     |some M=>
      obtain⟨B,f⟩:=M;rw[G]at c;refine fin _ (.alloc B (f (a+j))) h ((j,B)::m) 0 c λn _ b d q w=>?_;simp only[ij];rw[uK d,C,d.ev,x]
      grind
     |none=>
      rw[G]at c;dsimp only at c;obtain⟨v,u,z,D,H⟩:=Rw c;refine fin v (.yk v _) _ _ z H λn N b d q w=>?_;simp only[ij];rw[uK d,C,d.ev,x]
      grind
  ·refine fin undef .skip h m 0 c λn _ b d q w=>?_
   grind[uK,ij]
theorem YX{ops:Array aR}{E:Fr}{h:aw}{R:FH}(v:(ops.toList.all λo=>CR nm o.dst)=af)(p:wpD S nm ops E h R):
  ∃g f q,(∀n,q<=n->∀c,ER nm E c->∃a,ER nm g a/\Fs S.P S.gl (dS S.P S.gl S.pr n) ops c h=aa (a,f))/\R g f:=by
 rcases p with⟨b,p⟩|⟨b,a,f,l,d,m⟩
 case inr=>
  refine⟨_,f,0,λn _ c j=>⟨a,⟨l,λ_=>rfl⟩,?_⟩,m⟩;have e:c=(dL nm).map E:=by
   refine List.ext_getElem (by simp[j.1]) λi k m=>?_;have:=j.2 i;rw[gD,gE k]at this;simpa using this
  unfold Fs;rw[b,iP rfl,e];exact d
 obtain⟨g,f,w,r,q,k,m,u⟩:=JH (gy (lK ops)) ops h.ax _ ops.toList 0 E _ [] [] v p;refine⟨g,_,q,λn t c j=>?_,u⟩;obtain⟨a,z,s,y,x⟩:=k n t c j;refine⟨a,s,?_⟩;unfold Fs;rw[b,iN (by simp)]
 grind[Pp,LK,Am,CP]
def ny(nm:Nat):Code->Bool
 |.region _ ops _=>ops.toList.all λo=>CR nm o.dst
 |.seq a b=>ny nm a&&ny nm b
 |.cond _ a b=>ny nm a&&ny nm b
 |.block _ c=>ny nm c
 |.loop c=>ny nm c
 |_=>af
theorem rS:∀(c:Code){E:Fr}{h:aw}{Q:J2},ny nm c=af->wpC S nm c E h Q->∃x w y,Ze S nm c E h x w y/\Q x w y
 |.skip,E,h,_,_,d=>⟨.normal,E,h,⟨0,λ_ _ _ _ e i=>⟨e,i,rfl⟩⟩,d⟩
 |.exit id,E,h,_,_,d=>⟨.exit id,E,h,⟨0,λ_ _ _ _ e i=>⟨e,i,rfl⟩⟩,d⟩
 |.ret,E,h,_,_,d=>⟨.ret,E,h,⟨0,λ_ _ _ _ e i=>⟨e,i,rfl⟩⟩,d⟩
 |.label _,E,h,_,_,d=>⟨.normal,E,h,⟨0,λ_ _ _ _ e i=>⟨e,i,rfl⟩⟩,d⟩
 |.region _ ops ak,E,h,_,q,d=>by
  obtain⟨w,y,B,p,A⟩:=Fb ops ops.toList E h q d;refine⟨.normal,w,y,⟨B,λn N r _ e i=>?_⟩,A⟩
  grind[du]
 |.region _ ops af,E,h,_,q,d=>by
  obtain⟨w,y,B,p,A⟩:=YX q d;refine⟨.normal,w,y,⟨B,λn N r _ e i=>?_⟩,A⟩
  grind[du]
 | .seq a b,E,h,Q,q,d=>by
  simp only[ny,bj]at q;obtain⟨x,v,p,⟨u,j⟩,m⟩:=rS a q.1 d;have I:(∀n N f ,du S.P S.gl (dS S.P S.gl S.pr n) N a f h=aa (x,f,p)->True)->x≠ .normal->Q x v p->∃x w y,Ze S nm (.seq a b) E h x w y/\Q x w y:=by
   intro _ D m;refine⟨x,v,p,⟨u,λn N r s e i=>?_⟩,m⟩;obtain⟨f,g,z⟩:=j n N r s e i;refine⟨f,g,?_⟩;simp only[du];rw[z]
   cases x with
   |normal=>grind
   |_=>rfl
  cases x with
  |normal=>
   obtain⟨x,H,A,⟨G,F⟩,m⟩:=rS b q.2 m;refine⟨x,H,A,⟨max u G,λn N r s e i=>?_⟩,m⟩;obtain⟨f,g,z⟩:=j n N (by omega) (by omega) e i;obtain⟨J,K,L⟩:=F n N (by omega) (by omega) f g
   grind[du]
  |exit id=>simp_all
  |goto l=>simp_all
  |ret=>simp_all
  |panic _=>simp_all
  |outgrown=>simp_all
 | .cond o a b,E,h,Q,q,d=>by
  simp only[ny,bj]at q;obtain⟨t,C,⟨i,d⟩|⟨i,d⟩⟩:=afO d
  ·obtain⟨x,v,p,⟨u,j⟩,m⟩:=rS a q.1 d;refine⟨x,v,p,⟨u,λn N r s e k=>?_⟩,m⟩;obtain⟨f,g,z⟩:=j n N r s e k;refine⟨f,g,?_⟩;simp only[du];rw[k.ev,C,i]
   grind
  ·obtain⟨x,v,p,⟨u,j⟩,m⟩:=rS b q.2 d;refine⟨x,v,p,⟨u,λn N r s e k=>?_⟩,m⟩;obtain⟨f,g,z⟩:=j n N r s e k;refine⟨f,g,?_⟩;simp only[du];rw[k.ev,C,i]
   grind
 | .block id c,E,h,Q,q,d=>by
  obtain⟨x,v,p,⟨u,j⟩,m⟩:=rS c q d;by_cases D:x = .exit id
  ·subst D;dsimp only at m;rw[iP rfl]at m;refine⟨.normal,v,p,⟨u,λn N r s e k=>?_⟩,m⟩
   grind[du]
  ·refine⟨x,v,p,⟨u,λn N r s e k=>?_⟩,?_⟩
   ·obtain⟨f,g,z⟩:=j n N r s e k;refine⟨f,g,?_⟩;simp only[du]
    grind
   grind
 |.loop c,E,h,Q,q,d=>by
  obtain⟨x,v,p,⟨u,j⟩,m⟩:=d;refine⟨x,v,p,⟨u,λn N r s e k=>?_⟩,m⟩;obtain⟨f,g,z⟩:=j n N N r s s e k;exact⟨f,g,z⟩
 |.rangeFunc ..,_,_,_,_,d=>d
 |.scope _,_,_,_,_,d=>d.elim
 |.goto _,_,_,_,_,d=>d.elim
 |.refuse _,_,_,_,_,d=>d.elim
theorem aaP{c:Code}{E:Fr}{h:aw}{Q:J2}(z:ny nm c=af)(y:wpC S nm c E h (aiV S nm c Q)):KL S nm c E h Q:=by
 obtain⟨x,r,p,⟨m,g⟩,a⟩:=rS c z y;have b:x≠ .normal->Q x r p->KL S nm c E h Q:=by
  intro D a;refine⟨x,r,p,⟨m+1,λn N j s v A i k=>?_⟩,a⟩;obtain⟨d,rfl⟩:∃d,j=d+1:=⟨j-1,by omega⟩
  obtain⟨f,e,o⟩:=g n N (by omega) (by omega) i k;refine⟨f,e,?_⟩;simp only[iter];rw[o]
  cases x with
  |normal=>grind
  |_=>rfl
 cases x with
 |normal=>
  obtain⟨x,u,w,⟨t,q⟩,a⟩:=a;refine⟨x,u,w,⟨max m t+1,λn N j s v A i k=>?_⟩,a⟩;obtain⟨d,rfl⟩:∃d,j=d+1:=⟨j-1,by omega⟩
  obtain⟨f,e,o⟩:=g n N (by omega) (by omega) i k;obtain⟨B,C,F⟩:=q n N d (by omega) (by omega) (by omega) f e
  grind[iter]
 |exit id=>exact b (by simp) a
 |goto l=>exact b (by simp) a
 |ret=>exact b (by simp) a
 |panic _=>exact b (by simp) a
 |outgrown=>exact b (by simp) a
noncomputable def A2(S:Sx)(E:Fr)(h:aw):List ResultVar->Option (List ah)
 |[]=>aa []
 |.tmp t::r=>(A2 S E h r).map (E t::·)
 |.cell a t::r=>match aM S.P t h (E a)with
  |some v=>(A2 S E h r).map (v::·)
  |none=>none
theorem N7{E:Fr}{h:aw}{c:List ah}(b:ER nm E c):∀l,gw S.P c h l=A2 S E h l
 |[]=>rfl
 |.tmp t::r=>by simp only[gw,A2,N7 b r,b.2 t]
 |.cell a t::r=>by
  simp only[gw,A2,N7 b r,b.2 a];rfl
def Gf(r:Option (List ah))(h:aw)(Q:VH):Prop:=match r with
 |some a=>Q (fW a) h
 |none=>False
def alc(S:Sx)(a:List ResultVar)(Q:VH)(x:Exit)(E:Fr)(h:aw):Prop:=match x with
 |.normal=>Gf (A2 S E h a) h Q
 |.ret=>Gf (A2 S E h a) h Q
 |_=>False
def agM(a:List ah):Fr:=λt=>a.getD t undef
theorem ajr{c:Code}{h:aw}{Q:VH}(C:S.P.funcs[f]?=aa F)(A:F.body=aa c)(o:f<YB)(r:S.pr f=none)(E:d.length<=F.ntmps)(s:ny F.ntmps c=af)
  (q:wpC S F.ntmps c (agM d) h (alc S F.results.toList Q)):FW S f d h Q:=by
 obtain⟨x,g,e,⟨w,v⟩,b⟩:=rS c s q;have u:ER F.ntmps (agM d) (d++aH (F.ntmps-d.length) undef):=by
  refine⟨by grind,λt=>?_⟩;show _=d.getD t undef;simp only[gD];by_cases m:t<d.length
  ·grind
  ·grind
 have l:∃a,A2 S g e F.results.toList=aa a/\Q (fW a) e/\(x = .normal\/x = .ret):=by
  have j:Gf (A2 S g e F.results.toList) e Q->∃a,A2 S g e F.results.toList=aa a/\Q (fW a) e:=by
   intro b
   cases k:A2 S g e F.results.toList with
   |none=>rw[k]at b;exact b.elim
   |some a=>rw[k]at b;exact⟨a,rfl,b⟩
  cases x with
  |normal=>obtain⟨a,m,p⟩:=j b;grind
  |ret=>obtain⟨a,m,p⟩:=j b;grind
  |_=>exact b.elim
 obtain⟨a,k,b,G⟩:=l;refine⟨fW a,e,⟨w+1,λn B=>?_⟩,b⟩;obtain⟨i,rfl⟩:∃i,n=i+1:=⟨n-1,by omega⟩
 obtain⟨z,y,D⟩:=v i i (by omega) (by omega) _ u;simp only[dS];rw[iN (Nat.not_le.2 o),r]
 grind[N7]
end
end
variable{A:Type}{B:Type}{q:aR}
section
section
variable (gl:Nat->Bool) (E:Fr)
theorem map_nil(f:A->B):[].map f=([]:List B):=rfl
theorem map_cons(f:A->B)(a:A)(l:List A):(a::l).map f=f a::l.map f:=rfl
end
section
variable (S:Sx) (E:Fr) (dst:Option Tmp) (ty:aD) (pos:String) (after:Array Edge) (guard:Option (Nat×Bool)) (h:aw) (K:VH)
theorem mN(a:ep q=ak):wpOp S E q h K=OC (fM S.P mI (jK S.gl E) q h) h K:=by grind[wpOp,ep]
theorem adg{P:aO}(b:∀h,eW P r q=none->fM P mI r q h=none):OC (fM P mI r q h) h K=AL (eW P r q) h K:=by
 cases a:eW P r q with
 |none=>rw[b h a];rfl
 |some v=>unfold fM;rw[a];rfl
def sY:Op->Bool
 |.move _|.assign _|.pick ..|.build ..|.nilCheck _|.binOp ..|.unOp ..|.makeInterface ..|.makeFunc ..|.fieldAddr ..|.field ..|.indexAddr ..|.index ..|.typeAssert ..|.extract .. =>af
 |.call { callee:= .builtin .max,.. }|.call { callee:= .builtin .min,.. }|.call { callee:= .builtin .cap,.. }=>af
 |_=>ak
theorem XR{P:aO}{a:Op}(b:sY a=af)(h:aw)(c:eW P r ⟨dst,a,ty,pos,after,guard⟩=none):fM P mI r ⟨dst,a,ty,pos,after,guard⟩ h=none:=by
 unfold fM;rw[c];unfold sY at b;split at b<;>first|rfl|grind
theorem Tc{a:Op}(b:sY a=af):ep ⟨dst,a,ty,pos,after,guard⟩=ak:=by
 unfold sY at b;split at b<;>first|rfl|grind
theorem iK{a:Op}(b:sY a=af):wpOp S E ⟨dst,a,ty,pos,after,guard⟩ h K=AL (eW S.P (jK S.gl E) ⟨dst,a,ty,pos,after,guard⟩) h K:=by grind[mN,Tc,adg,XR]
def ago(c x y:ah):Option ah:=match c with
 |ai t=>aa (if t then x else y)
 |_=>none
def agb(v:ah)(i:Nat):Option ah:=match v with
 |av a=>a[i]?
 |_=>none
def dR(P:aO)(t:aD)(x i:ah):Option ah:=match P.underlying t,x,i with
  |some (.array a e),aq cs,aB _ j=>match cd P e with
   |some n=>if 0<=j/\j<(a:Int)then partOf P e cs (j.toNat*n)else none
   |none=>none
  |some .string,bu s,aB _ j=>if 0<=j then match s.data.toList[j.toNat]? with|some b=>aa (aB aK b.toNat)|none=>none else none
  |_,_,_=>none
def aZ(P:aO)(t:aD)(x i:ah):Option ah:=match P.underlying t,x,i with
  |some (.array b e),aT (aa a),aB _ j=>match cd P e with
   |some n=>if 0<=j/\j<(b:Int)then aa (aT (aa (a.add (j.toNat*n))))else none
   |none=>none
  |some (.slice e),ae (aa a) b _,aB _ j=>match cd P e with
   |some n=>if 0<=j/\j<(b:Int)then aa (aT (aa (a.add (j.toNat*n))))else none
   |none=>none
  |_,_,_=>none
def bB(P:aO)(s:aD)(x:ah)(f:Nat):Option ah:=match P.underlying s,x with
  |some (.struct b),aT (aa a)=>match b[f]? with
   |some c=>if(cd P c.type).any (· ≠0)then aa (aT (aa (a.add c.offset)))else none
   |none=>none
  |_,_=>none
def aai(P:aO)(t:aD)(x:ah)(f:Nat):Option ah:=match P.underlying t,x with
  |some (.struct a),aq cs=>match a[f]? with
   |some b=>partOf P b.type cs b.offset
   |none=>none
  |_,_=>none
noncomputable def aaM(P:aO)(t:aD)(x:ah)(h:aw):Option ah:=match P.underlying t,x with
   |some .string,bu s=>aa (aA s.data.toList.length)
   |some (.array n _),_=>aa (aA n)
   |some (.slice _),ae _ n _=>aa (aA n)
   |some (.map ..),.map none=>aa (aA 0)
   |some (.map ..),.map (aa r)=>match h.get r with
    |some (.map a)=>aa (aA a.length)
    |_=>none
   |_,_=>none
theorem Y0(c a b:bh):wpOp S E ⟨dst,.pick c a b,ty,pos,after,guard⟩ h K=AL (ago (jK S.gl E c) (jK S.gl E a) (jK S.gl E b)) h K:=iK S E dst ty pos after guard h K rfl
theorem Uj(a:BinOp)(t u:aD)(x y:bh):wpOp S E ⟨dst,.binOp a t x y u,ty,pos,after,guard⟩ h K=AL (cm S.P a t (jK S.gl E x) (jK S.gl E y)) h K:=iK S E dst ty pos after guard h K rfl
theorem Y1(a:UnOp)(t:aD)(x:bh):wpOp S E ⟨dst,.unOp a t x,ty,pos,after,guard⟩ h K=AL (Rs a (jK S.gl E x)) h K:=iK S E dst ty pos after guard h K rfl
theorem Ot(x:bh)(i:Nat):wpOp S E ⟨dst,.extract x i,ty,pos,after,guard⟩ h K=AL (agb (jK S.gl E x) i) h K:=iK S E dst ty pos after guard h K rfl
theorem Ul(t:aD)(x i:bh):wpOp S E ⟨dst,.index t x i,ty,pos,after,guard⟩ h K=AL (dR S.P t (jK S.gl E x) (jK S.gl E i)) h K:=iK S E dst ty pos after guard h K rfl
theorem JM(t:aD)(x i:bh):wpOp S E ⟨dst,.indexAddr t x i,ty,pos,after,guard⟩ h K=AL (aZ S.P t (jK S.gl E x) (jK S.gl E i)) h K:=iK S E dst ty pos after guard h K rfl
theorem JL(t:aD)(x:bh)(f:Nat):wpOp S E ⟨dst,.fieldAddr t x f,ty,pos,after,guard⟩ h K=AL (bB S.P t (jK S.gl E x) f) h K:=iK S E dst ty pos after guard h K rfl
theorem Uk(t:aD)(x:bh)(f:Nat):wpOp S E ⟨dst,.field t x f,ty,pos,after,guard⟩ h K=AL (aai S.P t (jK S.gl E x) f) h K:=iK S E dst ty pos after guard h K rfl
theorem ade(a:Array bh)(b:Array aD):wpOp S E ⟨dst,.call ⟨.builtin .max,a,b⟩,ty,pos,after,guard⟩ h K=AL (yv af (a.toList.map (jK S.gl E))) h K:=iK S E dst ty pos after guard h K rfl
theorem adf(a:Array bh)(b:Array aD):wpOp S E ⟨dst,.call ⟨.builtin .min,a,b⟩,ty,pos,after,guard⟩ h K=AL (yv ak (a.toList.map (jK S.gl E))) h K:=iK S E dst ty pos after guard h K rfl
theorem wm(o:aR)(b:ep o=ak)(c:eW S.P (jK S.gl E) o=none)(a:dz S.P (jK S.gl E) o=none)(d:gM S.P mI (jK S.gl E) o h=none):wpOp S E o h K=AL (eB S.P (jK S.gl E) o h) h K:=by
 rw[mN S E h K b];unfold fM;rw[c];dsimp only
 cases eB S.P (jK S.gl E) o h with
 |some v=>rfl
 |none=>dsimp only;rw[a];dsimp only;rw[d];rfl
theorem YY(t:aD)(a:bh):wpOp S E ⟨dst,.load t a,ty,pos,after,guard⟩ h K=AL (aM S.P t h (jK S.gl E a)) h K:=wm S E h K _ rfl rfl rfl rfl
theorem Um(t:aD)(x:bh)(c b a:Option bh):wpOp S E ⟨dst,.slice t x c b a,ty,pos,after,guard⟩ h K=AL (cY S.P t (jK S.gl E x) (c.map (jK S.gl E)) (b.map (jK S.gl E)) (a.map (jK S.gl E)) h) h K:=wm S E h K _ rfl rfl rfl rfl
theorem adb(x:bh)(t:aD):wpOp S E ⟨dst,.call ⟨.builtin .len,#[x],#[t]⟩,ty,pos,after,guard⟩ h K=AL (aaM S.P t (jK S.gl E x) h) h K:=wm S E h K _ rfl rfl rfl rfl
theorem JK(o:aR)(b:ep o=ak)(c:eW S.P (jK S.gl E) o=none)(a:eB S.P (jK S.gl E) o h=none)(d:dz S.P (jK S.gl E) o=none):wpOp S E o h K=OC (gM S.P mI (jK S.gl E) o h) h K:=by grind[mN,fM]
theorem Rx(s x:bh)(t a:aD):wpOp S E ⟨dst,.call ⟨.builtin .append,#[s,x],#[t,a]⟩,ty,pos,after,guard⟩ h K=OC (bY S.P t a (jK S.gl E s) (jK S.gl E x) h) h K:=rfl
theorem Uo(t:aD)(a x:bh):wpOp S E ⟨dst,.store t a x,ty,pos,after,guard⟩ h K=OC (aQ S.P t (jK S.gl E a) (jK S.gl E x) h) h K:=rfl
def wpA(r:Option (eE×(Nat->ah)))(h:aw)(K:VH):Prop:=match r with
 |some (B,f)=>K (f h.ax) (h.push B)
 |none=>False
theorem sT(o:aR)(b:ep o=ak)(c:eW S.P (jK S.gl E) o=none)(a:eB S.P (jK S.gl E) o h=none)(d:gM S.P mI (jK S.gl E) o h=none):wpOp S E o h K=wpA (dz S.P (jK S.gl E) o) h K:=by
 rw[mN S E h K b];unfold fM;rw[c];dsimp only;rw[a];dsimp only
 cases dz S.P (jK S.gl E) o with
 |some r=>rfl
 |none=>dsimp only;rw[d];rfl
end
section
variable (P:aO) (t:aD) (k:ei) (a b:Int)
theorem GV(c:b≠0):cm P .quo t (aB k a) (aB k b)=aa (aB k (k.wrap (a.tdiv b))):=by grind[cm]
theorem UF(c:b≠0):cm P .rem t (aB k a) (aB k b)=aa (aB k (a.tmod b)):=by grind[cm]
variable (x y:ByteArray)
end
end
variable{b:Bool}{h:aw}{X:Sx}{T:aD}{v:ah}{c:List ah}{E:Fr}{n:Nat}{x:List Nat}{U:Array aR}{Q:VH}{j:Nat}
noncomputable section
def cp(b:Bool)(A B:Prop):Prop:=Bool.rec (motive:=λ_=>Prop) B A b
theorem ay{A B:Prop}(a:b=af->A)(c:b=ak->B):cp b A B:=by
 cases b with
 |true=>exact a rfl
 |false=>exact c rfl
theorem D4{A B:Prop}(h:cp b A B):(b=af/\A)\/(b=ak/\B):=by
 cases b with
 |true=>exact .inl ⟨rfl,h⟩
 |false=>exact .inr ⟨rfl,h⟩
abbrev TS:=List ah
abbrev kT:=Exit->TS->aw->Prop
abbrev TH:=TS->aw->Prop
def fr(a:TS):Fr:=λt=>a.getD t undef
def UT(P:aO)(t:aD)(K:ah->Prop):Prop:=match P.underlying t with
 |some (.int k)=>∃n:Int,K (aB k n)
 |some .bool=>∃b:Bool,K (ai b)
 |some .string=>∃l:List UInt8,K (strOf l)
 |some (.slice _)=>∃(a:Option aF)(n c:Nat),K (ae a n c)
 |some (.pointer _)=>∃a:Option aF,K (.pointer a)
 |some (.struct _)=>∃cs:List ah,K (aq ⟨cs⟩)
 |some (.array ..)=>∃cs:List ah,K (aq ⟨cs⟩)
 |some (.func ..)=>∃(g:Nat)(a c:List ah),K (aN (.func g) ⟨a⟩ ⟨c⟩)
 |_=>∃v:ah,K v
def ain(P:aO):List aD->(List ah->Prop)->Prop
 |[],K=>K []
 |t::b,K=>UT P t λx=>ain P b λa=>K (x::a)
def Pv(P:aO)(t:aD)(K:ah->Prop):Prop:=match P.underlying t with
 |some (.tuple b)=>ain P b.toList λa=>K (.tuple ⟨a⟩)
 |_=>UT P t K
theorem Ih{t:aD}{K:ah->Prop}(a:UT P t K):∃v,K v:=by grind[UT]
theorem Mg{P:aO}:∀{b:List aD}{K:List ah->Prop},ain P b K->∃c,K c
 |[],_,a=>⟨_,a⟩
 |t::b,K,a=>by
  obtain⟨x,h⟩:=Ih a;obtain⟨d,h⟩:=Mg h
  grind
theorem wS{t:aD}{K:ah->Prop}(a:Pv P t K):∃v,K v:=by
 unfold Pv at a;split at a
 ·obtain⟨_,h⟩:=Mg a;grind
 ·exact Ih a
def Pw(P:aO)(t:aD)(r:Option ah)(h:aw)(K:VH):Prop:=Pv P t λx=>r=aa x/\K x h
def exP(r:Option ah)(h:aw)(K:VH):Prop:=∃a:aF,r=aa (bN a)/\K (bN a) h
def exU(r:Option (ah×dJ))(h:aw)(K:VH):Prop:=∃v u,r=aa (v,u)/\K v (u.app h)
def exW(r:Option (ah×dJ))(h:aw)(K:VH):Prop:=∃u,r=aa (undef,u)/\K undef (u.app h)
def exS(r:Option (ah×dJ))(h:aw)(K:VH):Prop:=∃(a:Option aF)(n c:Nat)(u:dJ),r=aa (ae a n c,u)/\K (ae a n c) (u.app h)
def exC(r:Option (ah×dJ))(h:aw)(K:VH):Prop:=∃(n:Int)(u:dJ),r=aa (aA n,u)/\K (aA n) (u.app h)
def jL(k:Nat):ah:= cn k 0
def pw(n c k:Nat):ah:= gG k 0 n c
abbrev OA:Type:=Option aF
abbrev LV:Type:=List ah
abbrev LB:Type:=List UInt8
abbrev uN(l:List ah)(k:Nat):List ah:=l++aH k undef
abbrev pA(k:Nat):ah:= cn k 0
abbrev sA(k n c:Nat):ah:= gG k 0 n c
abbrev nA:ah:= ae none 0 0
abbrev iA(n:Nat):ah:= aA (n:Int)
abbrev xI(k:ei)(r:Option ah)(K:Int->Prop):Prop:=∃n:Int,r=aa (aB k n)/\K n
abbrev xB(r:Option ah)(K:Bool->Prop):Prop:=∃b:Bool,r=aa (ai b)/\K b
abbrev xS(r:Option ah)(K:List UInt8->Prop):Prop:=∃l:List UInt8,r=aa (strOf l)/\K l
abbrev xL(r:Option ah)(K:Option aF->Nat->Nat->Prop):Prop:=∃(a:Option aF)(n c:Nat),r=aa (ae a n c)/\K a n c
abbrev xO(r:Option ah)(K:Option aF->Prop):Prop:=∃a:Option aF,r=aa (.pointer a)/\K a
abbrev xP(r:Option ah)(K:aF->Prop):Prop:=∃a:aF,r=aa (bN a)/\K a
abbrev xA(r:Option ah)(K:List ah->Prop):Prop:=∃cs:List ah,r=aa (aq ⟨cs⟩)/\K cs
abbrev xF(r:Option ah)(K:Nat->List ah->List ah->Prop):Prop:=∃(g:Nat)(a c:List ah),r=aa (aN (.func g) ⟨a⟩ ⟨c⟩)/\K g a c
abbrev xV(r:Option ah)(K:ah->Prop):Prop:=∃v:ah,r=aa v/\K v
abbrev yI(k:ei)(r:ah)(K:Int->Prop):Prop:=∃n:Int,r=aB k n/\K n
abbrev yB(r:ah)(K:Bool->Prop):Prop:=∃b:Bool,r=ai b/\K b
abbrev yS(r:ah)(K:List UInt8->Prop):Prop:=∃l:List UInt8,r=strOf l/\K l
abbrev yL(r:ah)(K:Option aF->Nat->Nat->Prop):Prop:=∃(a:Option aF)(n c:Nat),r=ae a n c/\K a n c
abbrev yA(r:ah)(K:List ah->Prop):Prop:=∃cs:List ah,r=aq ⟨cs⟩/\K cs
abbrev yV(r:ah)(K:ah->Prop):Prop:=∃v:ah,r=v/\K v
abbrev xU(r:Option (ah×dJ))(h:aw)(K:dJ->aw->Prop):Prop:=∃u:dJ,r=aa (undef,u)/\K u (u.app h)
abbrev xE(r:Option (ah×dJ))(h:aw)(K:Option aF->Nat->Nat->dJ->aw->Prop):Prop:=∃(a:Option aF)(n c:Nat)(u:dJ),r=aa (ae a n c,u)/\K a n c u (u.app h)
abbrev xC(r:Option (ah×dJ))(h:aw)(K:Int->dJ->aw->Prop):Prop:=∃(n:Int)(u:dJ),r=aa (aA n,u)/\K n u (u.app h)
abbrev xG(r:Option (ah×dJ))(h:aw)(K:ah->dJ->aw->Prop):Prop:=∃(v:ah)(u:dJ),r=aa (v,u)/\K v u (u.app h)
abbrev xN(r:Option (eE×(Nat->ah)))(h:aw)(K:eE->aw->Prop):Prop:=∃B:eE,r=aa (B,jL)/\K B (h.push B)
abbrev xR(r:Option (eE×(Nat->ah)))(h:aw)(K:eE->Nat->Nat->aw->Prop):Prop:=∃(B:eE)(n c:Nat),r=aa (B,pw n c)/\K B n c (h.push B)
abbrev zN(r:Option (eE×(Nat->ah)))(K:eE->Prop):Prop:=∃B:eE,r=aa (B,jL)/\K B
abbrev zR(r:Option (eE×(Nat->ah)))(K:eE->Nat->Nat->Prop):Prop:=∃(B:eE)(n c:Nat),r=aa (B,pw n c)/\K B n c
abbrev ahu(h:aw)(K:aw->Prop):Prop:=K h
def exA(r:Option (eE×(Nat->ah)))(h:aw)(K:VH):Prop:=∃B,r=aa (B,jL)/\K (jL h.ax) (h.push B)
def exR(r:Option (eE×(Nat->ah)))(h:aw)(K:VH):Prop:=∃B n c,r=aa (B,pw n c)/\K (pw n c h.ax) (h.push B)
def exM(r:Option (eE×(Nat->ah)))(h:aw)(K:VH):Prop:=∃B,r=aa (B,λk=> .map (aa k))/\K (.map (aa h.ax)) (h.push B)
def cD(P:aO)(t:aD):Option (eE×(Nat->ah)):=dz P (λ_=>undef) ⟨none,.alloc t,0,"",#[],none⟩
def iF(P:aO)(t:aD)(v:ah):Option (eE×(Nat->ah)):=dz P (λ_=>v) ⟨none,.box t (.tmp 0),0,"",#[],none⟩
def cK(P:aO)(t:aD)(l c:ah):Option (eE×(Nat->ah)):=dz P (λx=>match x with|.tmp 0=>l|_=>c) ⟨none,.makeSlice t (.tmp 0) (.tmp 1),0,"",#[],none⟩
def bC(P:aO)(t:aD)(b:Nat)(a:List (Nat×ah)):Option (eE×(Nat->ah)):=
 dz P (λx=>match x with|.tmp i=>(a.getD i (0,undef)).2|_=>undef) ⟨none,.buildSlice t b ((dL a.length).map λi=>((a.getD i (0,undef)).1,.tmp i)).toArray,0,"",#[],none⟩
def abt(c a b:ah)(h:aw)(K:VH):Prop:=match c with
 |ai t=>cp t (K a h) (K b h)
 |_=>False
def agP(P:aO)(b:BinOp)(t a:aD)(x y:ah)(h:aw)(K:VH):Prop:=match b with
 |.quo|.rem|.shl|.shr=>Pw P a (cm P b t x y) h K
 |.add=>(match x with|bu _=>Pw P a (cm P .add t x y) h K|_=>AL (cm P .add t x y) h K)
 |.eql=>(match x with|.pointer _=>Pw P a (cm P .eql t x y) h K|aq _=>Pw P a (cm P .eql t x y) h K|_=>AL (cm P .eql t x y) h K)
 |.neq=>(match x with|.pointer _=>Pw P a (cm P .neq t x y) h K|aq _=>Pw P a (cm P .neq t x y) h K|_=>AL (cm P .neq t x y) h K)
 |b=>AL (cm P b t x y) h K
def ZH(S:Sx)(c:aD)(f:ah)(b:List ah)(h:aw)(K:VH):Prop:=match f with
 |aN (.func g) first a=>cp (dj g YB) (FW S g (first.toList++b++a.toList) h λv h=>Pv S.P c λx=>v=x/\K x h) False
 |aN (.yield k) ⟨[]⟩ ⟨[]⟩=>FW S (YB+k) b h λv h=>Pv S.P c λx=>v=x/\K x h
 |_=>False
def GP(P:aO)(s d:aD)(x:ah)(h:aw):Option ah:=eB P (λ_=>x) ⟨none,.convert s d (.tmp 0),0,"",#[],none⟩ h
def akV(t:Option TypeDesc):Bool:=match t with
 |some .unsafePointer=>af
 |_=>ak
def tH(P:aO)(t:aD)(m k x:ah)(h:aw):Option (ah×dJ):=match P.underlying t,m with
  |some (.map b _),.map (aa r)=>match h.get r with
   |some (.map c)=>if uX P b k then(tD P b k x c).map λa=>(undef,.set r (.map a))else none
   |_=>none
  |_,_=>none
def uY(P:aO)(t:aD)(m k:ah)(a:Bool)(h:aw):Option ah:=eB P (λx=>match x with|.tmp 0=>m|_=>k) ⟨none,.lookup t (.tmp 0) (.tmp 1) a,0,"",#[],none⟩ h
def Dm(P:aO)(t:aD):Option (eE×(Nat->ah)):=dz P (λ_=>undef) ⟨none,.makeMap t none,0,"",#[],none⟩
def opQ(S:Sx)(e:bh->ah)(o:aR)(h:aw)(K:VH):Prop:=match o.op with
 |.move x|.assign x=>K (e x) h
 |.pick c a b=>abt (e c) (e a) (e b) h K
 |.binOp j t x y _=>agP S.P j t o.type (e x) (e y) h K
 |.unOp j _ x=>AL (Rs j (e x)) h K
 |.extract x i=>AL (agb (e x) i) h K
 |.index t x i=>Pw S.P o.type (dR S.P t (e x) (e i)) h K
 |.indexAddr t x i=>exP (aZ S.P t (e x) (e i)) h K
 |.fieldAddr t x f=>exP (bB S.P t (e x) f) h K
 |.field t x f=>Pw S.P o.type (aai S.P t (e x) f) h K
 |.load t a=>Pw S.P t (aM S.P t h (e a)) h K
 |.slice t x u q n=>Pw S.P o.type (cY S.P t (e x) (u.map e) (q.map e) (n.map e) h) h K
 |.store t a x=>exW (aQ S.P t (e a) (e x) h) h K
 |.alloc t=>exA (cD S.P t) h K
 |.box t x=>exA (iF S.P t (e x)) h K
 |.makeSlice t l c=>exR (cK S.P t (e l) (e c)) h K
 |.buildSlice .. =>exR (dz S.P e o) h K
 |.makeMap t r=>exM (match r with|none=>Dm S.P t|some _=>dz S.P e o) h K
 |.mapUpdate t m k x=>exW (tH S.P t (e m) (e k) (e x) h) h K
 |.insert t m k x=>exW (tH S.P t (e m) (e k) (e x) h) h K
 |.lookup t m k v=>Pw S.P o.type (uY S.P t (e m) (e k) v h) h K
 |.convert s d x=>(match akV (S.P.underlying s)with|true=>exU (fM S.P mI e o h) h K|false=>(match e x with|aB _ _=>AL (lL S.P s d (e x)) h K|ae _ _ _=>Pw S.P o.type (GP S.P s d (e x) h) h K|_=>exU (fM S.P mI e o h) h K))
 |.build t g=>Pw S.P o.type (cI S.P t (g.toList.map λp=>(p.1,e p.2))) h K
 |.makeFunc ..|.makeInterface ..|.nilCheck ..|.typeAssert .. =>AL (eW S.P e o) h K
 |.panic .. =>False
 |.call { callee:= .value f,args,.. }=>ZH S o.type (e f) (args.toList.map e) h K
 |.call { callee:= .builtin .len,args,argTypes }=>(match args.toList,argTypes.toList with|[x],[t]=>(match e x with|.map _=>Pw S.P o.type (aaM S.P t (e x) h) h K|_=>AL (aaM S.P t (e x) h) h K)|_,_=>False)
 |.call { callee:= .builtin .max,args,.. }=>Pw S.P o.type (yv af (args.toList.map e)) h K
 |.call { callee:= .builtin .min,args,.. }=>Pw S.P o.type (yv ak (args.toList.map e)) h K
 |.call { callee:= .builtin .append,args,argTypes }=>(match args.toList,argTypes.toList with|[s,x],[t,w]=>exS (bY S.P t w (e s) (e x) h) h K|_,_=>False)
 |.call { callee:= .builtin .copy,args,argTypes }=>(match args.toList,argTypes.toList with|[d,s],[t,_]=>exC (copyV S.P t (e d) (e s) h) h K|_,_=>False)
 |.call { callee:= .builtin _,.. }=>exU (fM S.P mI e o h) h K
 |_=>exU (fM S.P mI e o h) h K
theorem lC{t:aD}{r:Option ah}{K:VH}(a:Pw P t r h K):AL r h K:=by
 obtain⟨v,b,c⟩:=wS a;rw[b];exact c
theorem JN{r:Option ah}{K:VH}(a:exP r h K):AL r h K:=by
 obtain⟨v,b,c⟩:=a;rw[b];exact c
theorem xQ{r:Option (ah×dJ)}{K:VH}(a:exU r h K):OC r h K:=by
 obtain⟨v,u,b,c⟩:=a;rw[b];exact c
theorem Cn{r:Option (ah×dJ)}{K:VH}(a:exW r h K):OC r h K:=by
 obtain⟨u,b,c⟩:=a;rw[b];exact c
theorem Uq{r:Option (ah×dJ)}{K:VH}(b:exS r h K):OC r h K:=by
 obtain⟨a,n,c,u,d,e⟩:=b;rw[d];exact e
theorem Up{r:Option (ah×dJ)}{K:VH}(a:exC r h K):OC r h K:=by
 obtain⟨n,u,b,c⟩:=a;rw[b];exact c
theorem JE{r:Option (eE×(Nat->ah))}{K:VH}(a:exA r h K):wpA r h K:=by
 obtain⟨B,b,c⟩:=a;rw[b];exact c
theorem JG{r:Option (eE×(Nat->ah))}{K:VH}(a:exR r h K):wpA r h K:=by
 obtain⟨B,n,c,b,d⟩:=a;rw[b];exact d
theorem JF{r:Option (eE×(Nat->ah))}{K:VH}(a:exM r h K):wpA r h K:=by
 obtain⟨B,b,c⟩:=a;rw[b];exact c
theorem ZI{K:VH}(a:ZH X T v c h K):xM X v c h K:=by
 unfold ZH at a;unfold xM;split at a
 ·rcases D4 a with⟨d,a⟩|⟨_,a⟩
  ·refine⟨by simpa[blt_eq]using d,a.mono λe h a=>?_⟩;obtain⟨x,rfl,b⟩:=wS a;exact b
  grind
 ·exact⟨⟨rfl,rfl⟩,a.mono λe h a=>by
   obtain⟨x,rfl,b⟩:=wS a;omega⟩
 grind
theorem ZB{a:BinOp}{t:aD}{x:ah}{K:VH}(b:agP P a t T x v h K):AL (cm P a t x v) h K:=by
 unfold agP at b
 grind[lC]
theorem XN{c a b:ah}{K:VH}(d:abt c a b h K):AL (ago c a b) h K:=by
 unfold abt at d;split at d
 ·next t=>
  rcases D4 d with⟨rfl,e⟩|⟨rfl,e⟩<;>exact e
 grind
theorem Ax{K:VH}(b:opQ X (jK X.gl E) q h K):wpOp X E q h K:=by
 obtain⟨o,H,p,l,g,f⟩:=q;unfold opQ at b;split at b
 ·next e=>subst e;exact b
 ·next e=>subst e;exact b
 ·grind[Y0,XN]
 ·grind[Uj,ZB]
 ·grind[Y1]
 ·grind[Ot]
 ·grind[Ul,lC]
 ·grind[JM,JN]
 ·grind[JL,JN]
 ·grind[Uk,lC]
 ·grind[YY,lC]
 ·grind[Um,lC]
 ·grind[Uo,Cn]
 ·next e=>subst e;rw[sT _ _ _ _ _ rfl rfl rfl rfl];exact JE b
 ·next e=>subst e;rw[sT _ _ _ _ _ rfl rfl rfl rfl];exact JE b
 ·next e=>subst e;rw[sT _ _ _ _ _ rfl rfl rfl rfl];exact JG b
 ·next e=>subst e;rw[sT _ _ _ _ _ rfl rfl rfl rfl];exact JG b
 ·next t r e=>
  subst e;rw[sT _ _ _ _ _ rfl rfl rfl rfl]
  cases r with
  |none=>exact JF b
  |some x=>exact JF b
 ·next t m k x e=>
  subst e;rw[mN _ _ _ _ rfl];have B:fM X.P mI (jK X.gl E) ⟨o,.mapUpdate t m k x,p,l,g,f⟩ h=tH X.P t (jK X.gl E m) (jK X.gl E k) (jK X.gl E x) h:=rfl
  grind[Cn]
 ·next t m k x e=>
  subst e;rw[mN _ _ _ _ rfl];have B:fM X.P mI (jK X.gl E) ⟨o,.insert t m k x,p,l,g,f⟩ h=tH X.P t (jK X.gl E m) (jK X.gl E k) (jK X.gl E x) h:=rfl
  grind[Cn]
 ·next t m k D e=>
  subst e;have b:AL (eB X.P (jK X.gl E) ⟨o,.lookup t m k D,p,l,g,f⟩ h) h K:=lC b;exact(wm X E h K ⟨o,.lookup t m k D,p,l,g,f⟩ rfl rfl rfl rfl)▸b
 ·next e=>
  subst e;rw[mN _ _ _ _ rfl];split at b
  ·exact xQ b
  split at b
  ·next k n z=>
   unfold fM;generalize A:eW X.P (jK X.gl E) _=r
   cases r with
   |some v=>rw[show lL X.P _ _ _=aa v from A]at b;exact b
   |none=>rw[show lL X.P _ _ _=none from A]at b;exact b.elim
  ·next a n c z=>
   obtain⟨v,u,w⟩:=wS b;have A:∀s d,lL X.P s d (ae a n c)=none:=λs d=>by unfold lL;split<;>simp_all
   have F:∀s d x,jK X.gl E x=ae a n c->eW X.P (jK X.gl E) ⟨o,.convert s d x,p,l,g,f⟩=none:=λs d x z=>by
    show lL X.P s d (jK X.gl E x)=none;rw[z];exact A s d
   have G:∀s d x,eB X.P (jK X.gl E) ⟨o,.convert s d x,p,l,g,f⟩ h=GP X.P s d (jK X.gl E x) h:=λs d x=>rfl;unfold fM;rw[F _ _ _ z];dsimp only;rw[G,u];exact w
  grind[xQ]
 ·next e=>subst e;rw[iK _ _ _ _ _ _ _ _ _ rfl];exact lC b
 ·next e=>subst e;rw[iK _ _ _ _ _ _ _ _ _ rfl];omega
 ·next e=>subst e;rw[iK _ _ _ _ _ _ _ _ _ rfl];omega
 ·next e=>subst e;rw[iK _ _ _ _ _ _ _ _ _ rfl];omega
 ·next e=>subst e;rw[iK _ _ _ _ _ _ _ _ _ rfl];omega
 ·grind
 ·next e=>subst e;exact ZI b
 ·next i j e=>
  subst e;split at b
  ·next x t u w=>
   obtain⟨i⟩:=i;obtain⟨j⟩:=j;obtain rfl:i=[x]:=u;obtain rfl:j=[t]:=w;have C:AL (aaM X.P t (jK X.gl E x) h) h K:=by
    split at b
    ·exact lC b
    ·exact b
   exact(adb X E o p l g f h K x t).symm▸C
  grind
 ·grind[ade,lC]
 ·grind[adf,lC]
 ·next i j e=>
  subst e;split at b
  ·next s x t y u w=>
   obtain⟨i⟩:=i;obtain⟨j⟩:=j;obtain rfl:i=[s,x]:=u;obtain rfl:j=[t,y]:=w;exact(Rx X E o p l g f h K s x t y).symm▸Uq b
  grind
 ·next i j e=>
  subst e;split at b
  ·next s x t y u w=>
   obtain⟨i⟩:=i;obtain⟨j⟩:=j;obtain rfl:i=[s,x]:=u;obtain rfl:j=[t,y]:=w;have B:wpOp X E ⟨o,.call ⟨.builtin .copy,#[s,x],#[t,y]⟩,p,l,g,f⟩ h K=OC (copyV X.P t (jK X.gl E s) (jK X.gl E x) h) h K:=JK X E h K _ rfl rfl rfl rfl;exact B.symm▸Up b
  grind
 ·next e=>subst e;rw[mN _ _ _ _ rfl];exact xQ b
 grind[mN,xQ,ep]
def YF:TS->Nat->ah->(TS->Prop)->Prop
 |[],_,_,K=>K []
 |_::l,0,v,K=>K (v::l)
 |x::l,d+1,v,K=>YF l d v λl=>K (x::l)
def aar:TS->Nat->(ah->Prop)->Prop
 |[],_,K=>K undef
 |x::_,0,K=>K x
 |_::l,t+1,K=>aar l t K
theorem Hk:∀(l:TS)(d:Nat)(v:ah)(K:TS->Prop),YF l d v K=K (l.set d v)
 |[],_,_,_=>rfl
 |_::_,0,_,_=>rfl
 |x::l,d+1,v,K=>by rw[YF,Hk l d v];rfl
theorem M9:∀(l:TS)(t:Nat)(K:ah->Prop),aar l t K=K (l.getD t undef)
 |[],_,_=>rfl
 |_::_,0,_=>rfl
 |x::l,t+1,K=>by rw[aar,M9 l t];rfl
def NQ(a:TS)(b:Option Tmp)(v:ah)(K:TS->Prop):Prop:=match b with
 |some d=>YF a d v K
 |none=>K a
theorem Hg(b:TS)(a:Option Tmp)(v:ah)(K:TS->Prop):NQ b a v K=K (lG b a v):=by
 cases a with
 |none=>rfl
 |some d=>exact Hk _ _ _ _
def opT(S:Sx)(a:TS)(o:aR)(h:aw)(K:VH):Prop:=match o.op with
 |.move (.tmp t)=>aar a t λv=>K v h
 |.assign (.tmp t)=>aar a t λv=>K v h
 |_=>opQ S (ev S.gl a) o h K
theorem Vl{b:TS}{K:VH}(a:opT X b q h K):opQ X (ev X.gl b) q h K:=by
 unfold opT at a;split at a
 ·next t e=>rw[M9]at a;unfold opQ;rw[e];exact a
 ·next t e=>rw[M9]at a;unfold opQ;rw[e];exact a
 omega
def gS(f:Array aR)(c:TS)(e:Option (Nat×Bool))(A B:TS->Prop):Prop:=match e with
 |none=>A c
 | some (j,a)=>match (f[j]?).bind (·.dst)with
  |some d=>match c.getD d undef with
   |ai b=>cp b (YF c d (ai af) (Bool.rec (motive:=λ_=>TS->Prop) B A a)) (YF c d (ai ak) (Bool.rec (motive:=λ_=>TS->Prop) A B a))
   |av _=>B c
   |_=>False
  |none=>False
def aeK(S:Sx)(b:Array aR):List aR->TS->aw->TH->Prop
 |[],a,h,R=>R a h
 |o::l,a,h,R=>gS b a o.guard (λa=>opT S a o h λv h=>NQ a o.dst v λa=>aeK S b l a h R) (λa=>NQ a o.dst undef λa=>aeK S b l a h R)
def lift(b:Nat)(Q:TH):FH:=λE h=>∃a:TS,a.length=b/\E=fr a/\Q a h
def Va(a:Nat)(Q:kT):J2:=λx=>lift a (Q x)
def af8(v:ah)(A B:Prop):Prop:=match v with
 |ai b=>cp b A B
 |_=>False
def Uv(S:Sx)(a:Nat)(c:Code)(b:TS)(h:aw)(Q:kT):Prop:=KL S a c (fr b) h (Va a Q)
def agC(S:Sx)(a:Nat)(c:Code)(b:TS)(h:aw)(Q:kT):Prop:=RW S a c (fr b) h (Va a Q)
def aj2(B:TH)(Q:kT)(x:Exit)(a:TS)(h:aw):Prop:=match x with
 |.normal=>B a h
 |x=>Q x a h
def R5(c:Nat)(Q:kT)(x:Exit)(b:TS)(h:aw):Prop:=match x with
 |.exit a=>(match dx a c with|true=>Q .normal b h|false=>Q (.exit a) b h)
 |x=>Q x b h
def room(h:aw)(n:Nat):aw:={ h with ax:=h.ax+n }
def SF:Op->Bool
 |.load ..|.slice ..|.lookup .. =>af
 |.call { callee:= .builtin .len,.. }=>af
 |_=>ak
def alz:Op->Bool
 |.store .. =>af
 |.call { callee:= .value _,.. }=>af
 |_=>ak
def atB(a:Array aR)(f:Op->Bool)(j:Nat):Bool:=match a[j]? with|some o=>f o.op|none=>ak
def PT:Op->Bool
 |.alloc ..|.box ..|.makeSlice ..|.buildSlice .. =>af
 |_=>ak
def Iz:Op->Bool
 |.store .. =>af
 |.call { callee:= .value _,.. }=>af
 |.call { callee:= .builtin .append,.. }|.call { callee:= .builtin .copy,.. }|.call { callee:= .builtin .unsafeSliceData,.. }|.call { callee:= .builtin .unsafeString,.. }=>af
 |_=>ak
def ifC(b:Bool)(A B:Prop):Prop:=Bool.rec (motive:=λ_=>Prop) B A b
def VB(S:Sx)(o:aR)(E:Fr)(v:ah)(h:aw)(K:Prop):Prop:=match o.op with
 |.load t a=>(aM S.P t h (jK S.gl E a)=aa v/\iz 4 v v=af)/\K
 |.slice t x d c b=>(cY S.P t (jK S.gl E x) (d.map (jK S.gl E)) (c.map (jK S.gl E)) (b.map (jK S.gl E)) h=aa v/\iz 4 v v=af)/\K
 |_=>(eB S.P (jK S.gl E) o h=aa v/\iz 4 v v=af)/\K
def AA(S:Sx)(b:Nat->Nat->Bool)(j:Nat)(o:aR)(E:Fr)(v:ah):aw->List (Nat×aw)->Bool->Prop->Prop
 |h,[],a,K=>ifC a K (VB S o E v h K)
 |h,(e,c)::r,a,K=>ifC ((a&&dj j e)||b j e) (ifC (b e j) K (AA S b j o E v c r (dj e j) K)) (VB S o E v h (ifC (b e j) K (AA S b j o E v c r (dj e j) K)))
def EX(S:Sx)(a:Nat->Nat->Bool)(h:aw)(b:List (Nat×aw)):List RD->Nat->Prop->Prop
 |[],_,K=>K
 |(E,o,.read v)::r,j,K=>AA S a j o E v h b af (EX S a h b r (j+1) K)
 |_::r,j,K=>EX S a h b r (j+1) K
def alQ(S:Sx)(a:bh->ah)(o:aR)(K:eE->(Nat->ah)->Prop):Prop:=match o.op with
 |.alloc t=>∃B,cD S.P t=aa (B,jL)/\K B jL
 |.box t x=>∃B,iF S.P t (a x)=aa (B,jL)/\K B jL
 |.makeSlice t l c=>∃B n d,cK S.P t (a l) (a c)=aa (B,pw n d)/\K B (pw n d)
 |_=>∃B n d,dz S.P a o=aa (B,pw n d)/\K B (pw n d)
def agh{f:Type}(e:Op)(a b c d:f):f:=match sY e with
 |true=>a
 | false=>match SF e with
  |true=>b
  |false=>match PT e with
   |true=>c
   |false=>d
def Ee(S:Sx)(g:Nat->Nat->Bool)(e:Array aR)(b:Nat)(k:aw):List aR->Nat->TS->aw->List (Nat×eE)->List RD->TH->Prop
 |[],_,a,h,i,c,R=>EX S g k (uU c.reverse 0) c.reverse 0 (R a (bS h b i))
 | o::l,j,a,h,i,c,R=>gS e a o.guard
   (λa=>agh o.op
    (opT S a o h λv _=>NQ a o.dst v λd=>Ee S g e b k l (j+1) d h i ((fr a,o,.pure v)::c) R)
    (opT S a o h λv _=>NQ a o.dst v λd=>Ee S g e b k l (j+1) d h i ((fr a,o,.read v)::c) R)
    (alQ S (ev S.gl a) o λB f=>NQ a o.dst (f (b+j)) λd=>Ee S g e b k l (j+1) d h ((j,B)::i) ((fr a,o,.alloc B (f (b+j)))::c) R)
    (opT S a o (bS h b (i.filter λp=>g j p.1)) λv m=>NQ a o.dst v λd=>Ee S g e b k l (j+1) d m (i.filter λp=> !g j p.1) ((fr a,o,.yk v m)::c) R))
   (λa=>NQ a o.dst undef λd=>Ee S g e b k l (j+1) d h i ((fr a,o,.skip)::c) R)
def xy(a:Array aR):Bool:= !BI a&&(a.toList.all λo=>sY o.op||SF o.op||PT o.op||Iz o.op)&&(dL a.size).all λe=> !atB a Iz e||(dL a.size).all λj=> !atB a Iz j || !dj j e||gy (lK a) e j
def A7(a:TS)(j:Nat):ah:=a.getD j undef
def GC:Nat->Nat->List (Nat×ah)->(Nat->ah)->TS
 |0,_,_,_=>[]
 |n+1,j,[],x=>x j::GC n (j+1) [] x
 |n+1,j,(i,v)::l,x=>match dx i j with
  |true=>v::GC n (j+1) l x
  |false=>x j::GC n (j+1) ((i,v)::l) x
theorem No:∀(n j:Nat)(l:List (Nat×ah))(x:Nat->ah),(∀p∈l,p.2=x p.1)->GC n j l x=(List.range' j n).map x
 |0,_,_,_,_=>by rfl
 |n+1,j,[],x,h=>by simp only[GC,List.range'_succ,List.map_cons];rw[No n (j+1) [] x h]
 | n+1,j,(i,v)::l,x,h=>by
  simp only[GC,List.range'_succ,List.map_cons]
  cases a:dx i j with
  |true=>
   dsimp only;rw[No n (j+1) l x λp b=>h p (cJ _ b),<-Nat.eq_of_beq_eq_true a]
   simp_all
  |false=>
   dsimp only;rw[No n (j+1) ((i,v)::l) x h]
theorem Hc:∀(n j:Nat)(l:List (Nat×ah))(x:Nat->ah),(GC n j l x).length=n
 |0,_,_,_=>by rfl
 |n+1,j,[],x=>by simp only[GC,bP];rw[Hc n (j+1) [] x]
 |n+1,j,(i,v)::l,x=>by
  simp only[GC]
  cases a:dx i j with
  |true=>dsimp only;rw[bP,Hc n (j+1) l x]
  |false=>dsimp only;rw[bP,Hc n (j+1) ((i,v)::l) x]
theorem RA(f:Nat->ah):∀(M:List Nat),∀p∈M.zip (M.map f),p.2=f p.1
 |[],p,h=>by simp at h
 |a::M,p,h=>by
  rw[List.map_cons,List.zip_cons_cons]at h;rcases cO.1 h with rfl|h
  ·rfl
  ·exact RA f M p h
theorem Qd{a:TS}(b:a.length=n)(M:List Nat):GC n 0 (M.zip (M.map (A7 a))) (A7 a)=a:=by
 rw[No _ _ _ _ (RA _ M)];refine cV λi=>?_
 grind[A7]
def afU(S:Sx)(a:Nat)(M:List Nat)(c:Code)(w:List ah)(h:aw)(Q:kT):Prop:=∀x:Nat->ah,Uv S a c (GC a 0 (M.zip w) x) h Q
def aaO(S:Sx)(b:Nat)(M:List Nat)(c:Code)(a:TS)(h:aw)(Q:kT):Prop:=match dx a.length b with
 |true=>afU S b M c (M.map (A7 a)) h Q
 |false=>Uv S b c a h Q
theorem SI{c:Code}{a:TS}{Q:kT}(d:a.length=n)(b:aaO X n x c a h Q):Uv X n c a h Q:=by
 unfold aaO at b;rw[d,Nat.beq_refl]at b;have:=b (A7 a)
 grind[Qd]
structure FD where
 nm:Nat
 body:Code
 rs:List ResultVar
 ms:List (List Nat×List Nat)
def gT(a:Func)(b:List (List Nat×List Nat)):FD:=⟨a.ntmps,a.body.getD .skip,a.results.toList,b⟩
def aji:List Nat->List Nat->Bool
 |[],[]=>af
 |a::x,b::y=>(match dx a b with
  |true=>aji x y
  |false=>ak)
 |_,_=>ak
def EK:List (List Nat×List Nat)->List Nat->List Nat
 |[],_=>[]
 |(q,m)::r,p=>match aji q p with
  |true=>m
  |false=>EK r p
def wpS(S:Sx)(g:Nat)(M:List (List Nat×List Nat))(p:List Nat):Code->TS->aw->kT->Prop
 |.skip,d,h,Q=>Q .normal d h
 | .region _ e j,d,h,Q=>(match j with
  |false=>aeK S e e.toList d h λd h=>Q .normal d h
  |true=>(match xy e with
   |true=>Ee S (gy (lK e)) e h.ax (room h e.size) e.toList 0 d (room h e.size) [] [] λd h=>Q .normal d h
   |false=>wpD S g e (fr d) h (lift g λd h=>Q .normal d h)))
 |.seq a b,d,h,Q=>wpS S g M (0::p) a d h (aj2 (λd h=>wpS S g M (1::p) b d h Q) Q)
 |.cond c a b,d,h,Q=>af8 (ev S.gl d c) (wpS S g M (0::p) a d h Q) (wpS S g M (1::p) b d h Q)
 |.block i c,d,h,Q=>wpS S g M (0::p) c d h (R5 i Q)
 |.loop c,d,h,Q=>aaO S g (EK M (0::p).reverse) c d h Q
 |.exit i,d,h,Q=>Q (.exit i) d h
 |.ret,d,h,Q=>Q .ret d h
 |.label _,d,h,Q=>Q .normal d h
 |.rangeFunc f k a b,d,h,Q=>agC S g (.rangeFunc f k a b) d h Q
 |_,_,_,_=>False
end
theorem ajn{a:TS}(h:a.length=n):ER n (fr a) a:=⟨h,λ_=>rfl⟩
theorem Lj{b:TS}(a:Nat->Bool):jK a (fr b)=ev a b:=rfl
theorem M6{b:TS}(h:b.length=n){a:Option Tmp}(c:CR n a=af)(v:ah):AZ (fr b) a v=fr (lG b a v):=by
 funext t;exact((ajn h).put c v).2 t |>.symm
theorem Fv{a:TS}(h:a.getD n undef=v):a.set n v=a:=by
 refine cV λi=>?_
 grind
theorem PJ{h:TS}{c:Option (Nat×Bool)}{A B:TS->Prop}{k m:Unit->Prop}(n:A h->k ())(l:B h->m ())(a:gS U h c A B):wpG (JC U (fr h) c) k m:=by
 cases c with
 |none=>exact n a
 | some g=>
  obtain⟨j,e⟩:=g;unfold gS at a;rw[Uh];dsimp only at a
  cases o:(U[j]?).bind (·.dst)with
  |none=>grind
  | some d=>
   rw[o]at a;dsimp only at a⊢;show wpG (match h.getD d undef with|ai b=>aa (b==e)|av _=>aa ak|_=>none) k m
   cases i:h.getD d undef with
   | bool b=>
    rw[i]at a;dsimp only at a⊢;rcases D4 a with⟨rfl,f⟩|⟨rfl,f⟩
    ·rw[Hk,Fv i]at f
     cases e
     ·exact l f
     ·exact n f
    ·rw[Hk,Fv i]at f
     cases e
     ·exact n f
     ·exact l f
   |tuple p=>rw[i]at a;exact l a
   |_=>rw[i]at a;exact a.elim
theorem Ry{r:Option (ah×dJ)}{K:VH}(b:∀v h,K v h->Q v h)(a:OC r h K):OC r h Q:=by
 cases r with
 |none=>exact a
 |some p=>obtain⟨v,u⟩:=p;exact b _ _ a
theorem Ge{K:VH}(b:∀d h,K d h->Q d h)(a:xM X v c h K):xM X v c h Q:=by
 unfold xM at a⊢;split at a
 ·exact⟨a.1,a.2.mono b⟩
 ·exact⟨a.1,a.2.mono b⟩
 omega
theorem YZ{K:VH}(b:∀v h,K v h->Q v h)(a:wpOp X E q h K):wpOp X E q h Q:=by grind[Ge,Ry,wpOp]
theorem BZ{S:Sx}{g:Nat}{c:Array aR}{R:TH}{d:FH}(i:∀b h,b.length=g->R b h->d (fr b) h):∀(l:List aR){b:TS}{h:aw},b.length=g->(l.all λo=>CR g o.dst)=af->aeK S c l b h R->wpO S c l (fr b) h d
 |[],_,_,f,_,a=>i _ _ f a
 |o::l,b,h,f,e,a=>by
  simp only[fR,bj]at e;rw[ada];refine PJ (λa=>?_) (λa=>?_) a
  ·show wpOp S (fr b) o h (opK S c o.dst l (fr b) d);have a:=Vl a;rw[<-Lj]at a;refine YZ (λv h a=>?_) (Ax a);show wpO S c l (AZ (fr b) o.dst v) h d;rw[M6 f e.1];rw[Hg]at a;exact BZ i l (by grind[qe]) e.2 a
  ·show wpO S c l (AZ (fr b) o.dst undef) h d;rw[M6 f e.1];rw[Hg]at a;exact BZ i l (by grind[qe]) e.2 a
theorem JJ{K:VH}(b:∀v h,K v h->Q v h)(a:JI X E q h K):JI X E q h Q:=by grind[Ge,Ry,JI]
theorem ac9{r:Option Bool}{A B a b:Unit->Prop}(e:A ()->a ())(c:B ()->b ())(d:wpG r A B):wpG r a b:=by
 rcases Oo d with⟨rfl,h⟩|⟨rfl,h⟩
 ·exact e h
 ·exact c h
theorem tY{S:Sx}{m:Nat->Nat->Bool}{i:Array aR}{d:Nat}{n:aw}{R q:FH}(c:∀E h,R E h->q E h):∀(l:List aR)(j:Nat)(E:Fr)(h:aw)(k:List (Nat×eE))(b:List RD),Eg S m i d n l j E h k b R->Eg S m i d n l j E h k b q
 |[],_,_,_,_,_,a=>⟨a.1,c _ _ a.2⟩
 | o::l,j,E,h,k,b,a=>by
  simp only[Eg]at a⊢;refine ac9 (λa=>?_) (λa=>tY c l _ _ _ _ _ a) a
  cases r:eW S.P (jK S.gl E) o with
  |some v=>rw[r]at a;exact tY c l _ _ _ _ _ a
  | none=>
   rw[r]at a;dsimp only at a⊢
   cases g:eB S.P (jK S.gl E) o h with
   |some v=>rw[g]at a;exact tY c l _ _ _ _ _ a
   | none=>
    rw[g]at a;dsimp only at a⊢
    cases e:dz S.P (jK S.gl E) o with
    |some p=>obtain⟨B,f⟩:=p;rw[e]at a;exact tY c l _ _ _ _ _ a
    |none=>
     rw[e]at a;dsimp only at a⊢;exact JJ (λv s a=>tY c l _ _ _ _ _ a) a
theorem ac8{R g:FH}(f:∀E h,R E h->g E h)(i:wpD X n U E h R):wpD X n U E h g:=i.imp (λa=>⟨a.1,tY f _ _ _ _ _ _ a.2⟩) λ⟨a,d,j,b,c,e⟩=>⟨a,d,j,b,c,f _ _ e⟩
theorem agN{f:Op->Bool}(h:atB U f j=af):j<U.size:=by grind[atB]
theorem Iw{A B:Prop}(h:ifC b A B):(b=af/\A)\/(b=ak/\B):=by
 cases b with
 |true=>exact .inl ⟨rfl,h⟩
 |false=>exact .inr ⟨rfl,h⟩
theorem zQ{K:Prop}(b:VB X q E v h K):LS X q E v h=af/\K:=by
 obtain⟨f,i,g,d,c,a⟩:=q;have j:(eB X.P (jK X.gl E) ⟨f,i,g,d,c,a⟩ h=aa v/\iz 4 v v=af)/\K:=by
  unfold VB at b;split at b
  ·next e=>subst e;exact b
  ·next e=>subst e;exact b
  ·omega
 grind[LS]
theorem Bq{S:Sx}{b:Nat->Nat->Bool}{j:Nat}{o:aR}{E:Fr}{v:ah}{K:Prop}:∀{i:List (Nat×aw)}{h:aw}{a:Bool},AA S b j o E v h i a K->vh S b j o E v h i a=af/\K
 |[],h,a,c=>by
  rcases Iw c with⟨rfl,f⟩|⟨rfl,f⟩
  ·exact⟨rfl,f⟩
  ·exact⟨(zQ f).1,(zQ f).2⟩
 | (e,k)::r,h,a,c=>by
  have n:∀{l:Prop},ifC (b e j) K (AA S b j o E v k r (dj e j) K)->((b e j||vh S b j o E v k r (dj e j))=af)/\K:=λc=>by
   rcases Iw c with⟨g,d⟩|⟨g,d⟩
   ·grind
   ·have:=Bq d
    grind
  have c:ifC ((a&&dj j e)||b j e) _ _:=c;simp only[vh,bj];rcases Iw c with⟨g,d⟩|⟨g,d⟩
  ·simp_all
  ·obtain⟨m,p⟩:=zQ d
   simp_all
theorem xh{S:Sx}{a:Nat->Nat->Bool}{h:aw}{c:List (Nat×aw)}{K:Prop}:∀{l:List RD}{j:Nat},EX S a h c l j K->Cc S a h c l j=af/\K
 |[],_,b=>⟨rfl,b⟩
 | (E,o,e)::r,j,b=>by
  cases e with
  |read v=>
   have d:=Bq (show AA S a j o E v h c af (EX S a h c r (j+1) K)from b);have f:=xh d.2
   grind[Cc]
  |_=>exact xh (l:=r) b
def KH(a:Array aR)(i:Nat)(l:List RD):Prop:=∀k r,l[k]?=aa r->∀v g,r.2.2 = .yk v g->atB a Iz (i+k)=af
theorem BJ{a:Array aR}:∀{l:List RD}{i:Nat},KH a i l->∀p∈uU l i,atB a Iz p.1=af/\i<=p.1
 |[],_,_=>by simp[uU]
 | r::l,i,d=>by
  have b:KH a (i+1) l:=λk r h=>by
   have:=d (k+1) r (by grind)
   grind
  obtain⟨E,o,e⟩:=r;intro p c;have f:p∈uU l (i+1)->atB a Iz p.1=af/\i<=p.1:=λh=>⟨(BJ b p h).1,by have:=(BJ b p h).2;omega⟩
  cases e with
  |yk v g=>
   rcases cO.1 c with rfl|c
   ·exact⟨d 0 _ rfl v g rfl,aS _⟩
   grind
  |_=>exact f c
theorem zX{a:Array aR}(c:xy a=af):∀{l:List RD}{i:Nat},KH a i l->chained (gy (lK a)) (uU l i)=af
 |[],_,_=>rfl
 | r::l,i,t=>by
  have d:KH a (i+1) l:=λk r h=>by
   have:=t (k+1) r (by grind)
   grind
  obtain⟨E,o,e⟩:=r;have f:=zX c d
  cases e with
  | yk v g=>
   show chained (gy (lK a)) ((i,g)::uU l (i+1))=af;have b:=BJ d
   cases s:uU l (i+1)with
   |nil=>rfl
   |cons p u=>
    obtain⟨j,m⟩:=p;rw[s]at f b;show(gy (lK a) j i&&chained (gy (lK a)) ((j,m)::u))=af;rw[f,Bool.and_true];have w:=t 0 _ rfl v g rfl;have q:=b (j,m) (cH ..);unfold xy at c;simp only[bj]at c;have n:=cw.1 c.2 j (eL.2 (agN q.1));rw[q.1]at n;simp only[Bool.not_true,Bool.false_or]at n
    grind[blt_eq,atB]
  |_=>exact f
theorem V6(l:PT q.op=af){K:eE->(Nat->ah)->Prop}(a:alQ X r q K):∃B f,dz X.P r q=aa (B,f)/\K B f:=by
 obtain⟨j,m,k,i,h,g⟩:=q;unfold alQ at a;split at a
 ·next e=>subst e;obtain⟨B,b,c⟩:=a;exact⟨B,_,b,c⟩
 ·next e=>subst e;obtain⟨B,b,c⟩:=a;exact⟨B,_,b,c⟩
 ·next e=>subst e;obtain⟨B,n,d,b,c⟩:=a;exact⟨B,_,b,c⟩
 grind
theorem Fa{S:Sx}{nm:Nat}{y:Array aR}(Q:xy y=af){D:Nat}{T:aw}{R:TH}{R':FH}(hR:∀s h,s.length=nm->R s h->R' (fr s) h):∀(l:List aR)(j:Nat)(s:TS)(h:aw)(N:List (Nat×eE))(q:List RD),s.length=nm->(l.all λo=>CR nm o.dst)=af->y.toList.drop j=l->q.length=j->KH y 0 q.reverse->Ee S (gy (lK y)) y D T l j s h N q R->Eg S (gy (lK y)) y D T l j (fr s) h N q R'
 |[],j,s,h,N,q,W,_,_,_,hr,n=>by
  have h1:=xh (show EX S (gy (lK y)) T (uU q.reverse 0) q.reverse 0 (R s (bS h D N))from n);refine⟨?_,hR _ _ W h1.2⟩
  grind[zX,CP]
 | o::l,j,s,h,N,q,W,V,Y,x4,hr,n=>by
  have ho:y[j]?=aa o:=by
   have:(y.toList.drop j)[0]?=aa o:=by rw[Y];rfl
   rw[getElem?_drop]at this;rw[<-getElem?_toList];simpa using this
  have O:y.toList.drop (j+1)=l:=by rw[<-drop_drop,Y];rfl
  simp only[fR,bj]at V;have I:∀e,(∀v g,e=sW.yk v g->Iz o.op=af)->KH y 0 ((fr s,o,e)::q).reverse:=by
   intro e X k r L;rw[List.reverse_cons]at L;rcases de k q.reverse.length with Z|Z
   ·rw[List.getElem?_append_left Z]at L;exact hr k r L
   ·rw[List.getElem?_append_right Z]at L;have x2:k-q.reverse.length=0:=by
     rcases dB (k-q.reverse.length)with h4|h4
     ·omega
     ·grind
    rw[x2]at L;obtain rfl:=aC L
    grind[atB]
  simp only[Eg];refine PJ (λn=>?_) (λn=>?_) n
  ·have go:∀v e g P,(∀v g,e=sW.yk v g->Iz o.op=af)->NQ s o.dst v (λx1=>Ee S (gy (lK y)) y D T l (j+1) x1 g P ((fr s,o,e)::q) R)->Eg S (gy (lK y)) y D T l (j+1) (AZ (fr s) o.dst v) g P ((fr s,o,e)::q) R':=by
    intro v e g P X n;rw[Hg]at n;rw[M6 W V.1];exact Fa Q hR l (j+1) _ g _ _ (by grind[qe]) V.2 O (by grind) (I e X) n
   have G:(sY o.op||SF o.op||PT o.op||Iz o.op)=af:=by
    have hc:=Q;unfold xy at hc;simp only[bj]at hc;exact cw.1 hc.1.2 o (List.mem_of_mem_drop (i:=j) (by grind))
   obtain⟨z,u,A,w,m,d⟩:=o;unfold agh at n
   cases C:sY u with
   |true=>
    rw[show sY (Oper.mk z u A w m d).op=af from C]at n;have n:=Ax (E:=fr s) (by rw[Lj];exact Vl n)
    grind[iK,AL]
   |false=>
   rw[show sY (Oper.mk z u A w m d).op=ak from C]at n;dsimp only at n
   cases J:SF u with
   | true=>
    rw[show SF (Oper.mk z u A w m d).op=af from J]at n;have n:=Ax (E:=fr s) (by rw[Lj];exact Vl n);have M:eW S.P (jK S.gl (fr s)) ⟨z,u,A,w,m,d⟩=none/\ep ⟨z,u,A,w,m,d⟩=ak/\dz S.P (jK S.gl (fr s)) ⟨z,u,A,w,m,d⟩=none/\gM S.P mI (jK S.gl (fr s)) ⟨z,u,A,w,m,d⟩ h=none:=by
     clear n I go G C ho;revert J
     cases u with
     |load=>intro _;exact⟨rfl,rfl,rfl,rfl⟩
     |slice=>intro _;exact⟨rfl,rfl,rfl,rfl⟩
     |lookup=>intro _;exact⟨rfl,rfl,rfl,rfl⟩
     |call c=>
      obtain⟨H,x0,x3⟩:=c
      cases H with
      |builtin b=>cases b<;>intro C<;>first|exact⟨rfl,rfl,rfl,rfl⟩|cases C
      |_=>intro C;cases C
     |_=>intro C;cases C
    grind[wm,AL]
   |false=>
   rw[show SF (Oper.mk z u A w m d).op=ak from J]at n;dsimp only at n
   cases F:PT u with
   | true=>
    rw[show PT (Oper.mk z u A w m d).op=af from F]at n;rw[<-Lj]at n;obtain⟨B,f,h1,X⟩:=V6 F n;have M:eW S.P (jK S.gl (fr s)) ⟨z,u,A,w,m,d⟩=none/\eB S.P (jK S.gl (fr s)) ⟨z,u,A,w,m,d⟩ h=none:=by
     clear n I go G C ho h1 X J;revert F
     cases u<;>intro F<;>first|exact⟨rfl,rfl⟩|cases F
    grind
   |false=>
   rw[show PT (Oper.mk z u A w m d).op=ak from F]at n;dsimp only at n;have U:Iz u=af:=by
    have L:(sY u||SF u||PT u||Iz u)=af:=G;rw[C,J,F]at L;exact L
   have n:=Ax (E:=fr s) (by rw[Lj];exact Vl n);generalize bS h D (N.filter λp=>gy (lK y) j p.1)=hs at n⊢;have M:(∀h,eW S.P (jK S.gl (fr s)) ⟨z,u,A,w,m,d⟩=none/\eB S.P (jK S.gl (fr s)) ⟨z,u,A,w,m,d⟩ h=none/\dz S.P (jK S.gl (fr s)) ⟨z,u,A,w,m,d⟩=none)/\
     ∀K:VH,wpOp S (fr s) ⟨z,u,A,w,m,d⟩ hs K->JI S (fr s) ⟨z,u,A,w,m,d⟩ hs K:=by
    clear n I go G C ho J F;revert U
    cases u with
    |store t a x=>intro _;exact⟨λ_=>⟨rfl,rfl,rfl⟩,λK n=>by rw[JK _ _ _ _ _ rfl rfl rfl rfl]at n;exact n⟩
    |call c=>
     obtain⟨H,x0,x3⟩:=c
     cases H with
     |value f=>intro _;exact⟨λ_=>⟨rfl,rfl,rfl⟩,λK n=>n⟩
     |builtin b=>cases b<;>intro U<;>first|exact⟨λ_=>⟨rfl,rfl,rfl⟩,λK n=>by rw[JK _ _ _ _ _ rfl rfl rfl rfl]at n;exact n⟩|cases U
     |_=>intro C;cases C
    |_=>intro C;cases C
   rw[(M.1 h).1];dsimp only;rw[(M.1 h).2.1];dsimp only;rw[(M.1 h).2.2]
   grind[JJ]
  ·rw[Hg]at n;rw[M6 W V.1];exact Fa Q hR l (j+1) _ h _ _ (by grind[qe]) V.2 O (by grind) (I .skip (by simp)) n
theorem rT{S:Sx}{m:Nat}{M:List (List Nat×List Nat)}:∀(c:Code){p:List Nat}{e:TS}{h:aw}{Q:kT}{Q':J2},e.length=m->ny m c=af->(∀x e h,e.length=m->Q x e h->Q' x (fr e) h)->wpS S m M p c e h Q->wpC S m c (fr e) h Q'
 |.skip,_,_,_,_,_,g,_,i,d=>i _ _ _ g d
 |.exit _,_,_,_,_,_,g,_,i,d=>i _ _ _ g d
 |.ret,_,_,_,_,_,g,_,i,d=>i _ _ _ g d
 |.label _,_,_,_,_,_,g,_,i,d=>i _ _ _ g d
 | .region _ j w,p,e,h,Q,Q',g,l,i,d=>by
  cases w with
  |false=>exact BZ (λe h g d=>i _ _ _ g d) j.toList g l d
  | true=>
   cases o:xy j with
   |true=>
    have d:(match xy j with|true=>Ee S (gy (lK j)) j h.ax (room h j.size) j.toList 0 e (room h j.size) [] [] λe h=>Q .normal e h|false=>_):=d;rw[o]at d;refine .inl ⟨?_,Fa o (λe h g d=>i _ _ _ g d) j.toList 0 e _ [] [] g l rfl rfl (λk r h=>by simp at h) d⟩
    grind[xy]
   |false=>
   have d:(match xy j with|true=>_|false=>wpD S m j (fr e) h (lift m λe h=>Q .normal e h)):=d;rw[o]at d;refine ac8 (λE h d=>?_) (show wpD S m j (fr e) h (lift m λe h=>Q .normal e h)from d);obtain⟨u,n,rfl,s⟩:=d
   grind
 |.seq a b,p,e,h,Q,Q',g,l,i,d=>by
  simp only[ny,bj]at l;refine rT a g l.1 (λx e h g d=>?_) d
  cases x with
  |normal=>exact rT b g l.2 i d
  |_=>exact i _ _ _ g d
 | .cond c a b,p,e,h,Q,Q',g,l,i,d=>by
  simp only[ny,bj]at l;rw[ac7,Lj];simp only[wpS]at d;unfold af8 at d;split at d
  ·next t C=>
   rw[C];rcases D4 d with⟨rfl,n⟩|⟨rfl,n⟩
   ·exact rT a g l.1 i n
   ·exact rT b g l.2 i n
  grind
 | .block A c,p,e,h,Q,Q',g,l,i,d=>by
  refine rT c g l (λx e h g d=>?_) d
  cases x with
  | exit q=>
   show if q=A then Q' .normal (fr e) h else Q' (.exit q) (fr e) h;simp only[R5]at d
   cases z:dx q A with
   |true=>simp_all
   |false=>
    rw[z]at d;rw[iN (Nat.ne_of_beq_eq_false z)];grind
  |_=>exact i _ _ _ g d
 |.loop c,p,e,h,Q,Q',g,l,i,d=>by
  obtain⟨x,v,y,n,s⟩:=(show KL S m c (fr e) h (Va m Q)from SI g d)
  refine⟨x,v,y,n,?_⟩;obtain⟨u,B,rfl,D⟩:=s
  grind
 |.rangeFunc f F a b,p,e,h,Q,Q',g,l,i,d=>by
  obtain⟨x,v,y,n,s⟩:=(show RW S m (.rangeFunc f F a b) (fr e) h (Va m Q)from d)
  refine⟨x,v,y,n,?_⟩;obtain⟨u,B,rfl,D⟩:=s
  grind
 |.scope _,_,_,_,_,_,_,_,_,d=>d.elim
 |.goto _,_,_,_,_,_,_,_,_,d=>d.elim
 |.refuse _,_,_,_,_,_,_,_,_,d=>d.elim
def aky(I:Nat->TH)(n:Nat)(a:TS)(h:aw):Prop:=∃m,m<n/\I m a h
def ah1(I:Nat->TH)(n:Nat)(Q:kT)(x:Exit)(a:TS)(h:aw):Prop:=match x with
 |.normal=>aky I n a h
 |x=>Q x a h
def Vv:Code->Nat->aR
 |.region _ a _,i=>a.toList.getD i ⟨none,.nilCheck (.tmp 0),0,"",#[],none⟩
 |_,_=>⟨none,.nilCheck (.tmp 0),0,"",#[],none⟩
def oO:List Nat->Code->Code
 |[],c=>c
 |0::p,.seq a _=>oO p a
 |_::p,.seq _ b=>oO p b
 |0::p,.cond _ a _=>oO p a
 |_::p,.cond _ _ b=>oO p b
 |_::p,.block _ a=>oO p a
 |_::p,.loop a=>oO p a
 |0::p,.rangeFunc _ _ a _=>oO p a
 |_::p,.rangeFunc _ _ _ b=>oO p b
 |_,_=> .skip
theorem SH{M:List (List Nat×List Nat)}{p:List Nat}{c:Code}{Q:kT}(g:ny n c=af)(I:Nat->TH)(j:∀d a h,a.length=n->I d a h->wpS X n M p c a h (ah1 I d Q)):∀d a h,a.length=n->I d a h->Uv X n c a h Q:=by
 intro d
 induction d using fB with
 | _ d k=>
  intro a h b l;refine aaP g (rT c b g (λx a h b f=>?_) (j d a h b l))
  cases x with
  |normal=>
   obtain⟨m,i,e⟩:=f;exact k m i a h b e
  |_=>exact⟨a,b,rfl,f⟩
def cB(A:Nat->List ah->aw->Prop)(n:Nat)(w:List ah)(h:aw):Prop:=∃m,m<n/\A m w h
def ah0(M:List Nat)(A:Nat->List ah->aw->Prop)(n:Nat)(Q:kT)(x:Exit)(a:TS)(h:aw):Prop:=match x with
 |.normal=>cB A n (M.map (A7 a)) h
 |x=>Q x a h
theorem bF{A B:Prop}(h:A)(e:A=B:=by kernel_rfl):B:=cast e h
def kAt(S:Sx)(c:Nat)(M:List (List Nat×List Nat)):List Nat->List Nat->Code->kT->kT
 |_,[],_,K=>K
 |p,0::q,.seq a b,K=>kAt S c M (0::p) q a (aj2 (λe h=>wpS S c M (1::p) b e h K) K)
 |p,_::q,.seq _ b,K=>kAt S c M (1::p) q b K
 |p,0::q,.cond _ a _,K=>kAt S c M (0::p) q a K
 |p,_::q,.cond _ _ b,K=>kAt S c M (1::p) q b K
 |p,_::q,.block d a,K=>kAt S c M (0::p) q a (R5 d K)
 |_,_,_,K=>K
def LL(S:Sx)(X:FD)(p:List Nat)(w:List ah)(h:aw)(Q:kT):Prop:=afU S X.nm (EK X.ms p) (oO p X.body) w h Q
def TT(S:Sx)(X:FD)(p:List Nat)(a:TS)(h:aw)(Q:kT):Prop:=wpS S X.nm X.ms p.reverse (oO p X.body) a h Q
def KK(S:Sx)(X:FD)(q p:List Nat)(K:kT):kT:=kAt S X.nm X.ms p.reverse q (oO p X.body) K
def RR(X:FD)(p:List Nat)(A:Nat->List ah->aw->Prop)(n:Nat)(Q:kT):kT:=ah0 (EK X.ms p) A n Q
theorem LQ{a:FD}{p:List Nat}{K:kT}(A:Nat->List ah->aw->Prop)(e:ny a.nm (oO p a.body)=af)
  (step:∀n w (x:Nat->ah) h,A n w h->TT X a p (GC a.nm 0 ((EK a.ms p).zip w) x) h (RR a p A n K)) (n:Nat) {w:List ah} {h:aw} (g:A n w h) (f:∀x:Nat->ah,(EK a.ms p).map (A7 (GC a.nm 0 ((EK a.ms p).zip w) x))=w):LL X a p w h K:=λx=>
 SH (M:=a.ms) (p:=p.reverse) e (λm b h=>A m ((EK a.ms p).map (A7 b)) h) (λm b h c d=>by
  have:=step m ((EK a.ms p).map (A7 b)) (A7 b) h d;rw[Qd c]at this;exact this) n _ h (Hc ..) (by grind)
def mw{b:Type}(W:b->LV)(I:Nat->b->aw->Prop)(n:Nat)(w:LV)(h:aw):Prop:=∃a,w=W a/\I n a h
theorem fG{W:A->LV}{I:Nat->A->aw->Prop}(m:Nat){a:A}{h:aw}(b:m<n)(c:I m a h):cB (mw W I) n (W a) h:=⟨m,b,a,rfl,c⟩
theorem gP{b:FD}{p:List Nat}{K:kT}(W:A->LV)(I:Nat->A->aw->Prop)
  (step:∀n (a:A) (x:Nat->ah) h,I n a h->TT X b p (GC b.nm 0 ((EK b.ms p).zip (W a)) x) h (RR b p (mw W I) n K)) (n:Nat) {a:A} {h:aw} (c:I n a h) (e:ny b.nm (oO p b.body)=af:=by kernel_rfl) (d:∀x:Nat->ah,(EK b.ms p).map (A7 (GC b.nm 0 ((EK b.ms p).zip (W a)) x))=W a:=by intro;kernel_rfl):LL X b p (W a) h K:=
 LQ (mw W I) e (λn w x h ⟨a,f,c⟩=>by grind) n ⟨a,rfl,c⟩ d
def wz{c d:Type}(W:c->d->LV)(I:Nat->c->d->aw->Prop)(n:Nat)(w:LV)(h:aw):Prop:=∃a b,w=W a b/\I n a b h
theorem pe{W:A->B->LV}{I:Nat->A->B->aw->Prop}(m:Nat){a:A}{b:B}{h:aw}(c:m<n)(d:I m a b h):cB (wz W I) n (W a b) h:=⟨m,c,a,b,rfl,d⟩
theorem sK{c:FD}{p:List Nat}{K:kT}(W:A->B->LV)(I:Nat->A->B->aw->Prop)
  (step:∀n (a:A) (b:B) (x:Nat->ah) h,I n a b h->TT X c p (GC c.nm 0 ((EK c.ms p).zip (W a b)) x) h (RR c p (wz W I) n K)) (n:Nat) {a:A} {b:B} {h:aw} (d:I n a b h) (f:ny c.nm (oO p c.body)=af:=by kernel_rfl) (e:∀x:Nat->ah,(EK c.ms p).map (A7 (GC c.nm 0 ((EK c.ms p).zip (W a b)) x))=W a b:=by intro;kernel_rfl):LL X c p (W a b) h K:=
 LQ (wz W I) f (λn w x h ⟨a,b,g,d⟩=>by grind) n ⟨a,b,rfl,d⟩ e
def GR{d f e:Type}(W:d->f->e->LV)(I:Nat->d->f->e->aw->Prop)(n:Nat)(w:LV)(h:aw):Prop:=∃a b c,w=W a b c/\I n a b c h
theorem C8{d:Type}{W:A->B->d->LV}{I:Nat->A->B->d->aw->Prop}(m:Nat){a:A}{b:B}{c:d}{h:aw}(e:m<n)(f:I m a b c h):cB (GR W I) n (W a b c) h:=⟨m,e,a,b,c,rfl,f⟩
theorem Jj{d:FD}{p:List Nat}{K:kT}{e:Type}(W:A->B->e->LV)(I:Nat->A->B->e->aw->Prop)
  (step:∀n (a:A) (b:B) (c:e) (x:Nat->ah) h,I n a b c h->TT X d p (GC d.nm 0 ((EK d.ms p).zip (W a b c)) x) h (RR d p (GR W I) n K)) (n:Nat) {a:A} {b:B} {c:e} {h:aw} (f:I n a b c h) (i:ny d.nm (oO p d.body)=af:=by kernel_rfl) (g:∀x:Nat->ah,(EK d.ms p).map (A7 (GC d.nm 0 ((EK d.ms p).zip (W a b c)) x))=W a b c:=by intro;kernel_rfl):LL X d p (W a b c) h K:=
 LQ (GR W I) i (λn w x h ⟨a,b,c,j,f⟩=>by grind) n ⟨a,b,c,rfl,f⟩ g
def sk{f i g e:Type}(W:f->i->g->e->LV)(I:Nat->f->i->g->e->aw->Prop)(n:Nat)(w:LV)(h:aw):Prop:=∃a b c d,w=W a b c d/\I n a b c d h
theorem nE{f e:Type}{W:A->B->f->e->LV}{I:Nat->A->B->f->e->aw->Prop}(m:Nat){a:A}{b:B}{c:f}{d:e}{h:aw}(g:m<n)(i:I m a b c d h):cB (sk W I) n (W a b c d) h:=⟨m,g,a,b,c,d,rfl,i⟩
theorem uD{e:FD}{p:List Nat}{K:kT}{g f:Type}(W:A->B->g->f->LV)(I:Nat->A->B->g->f->aw->Prop)
  (step:∀n (a:A) (b:B) (c:g) (d:f) (x:Nat->ah) h,I n a b c d h->TT X e p (GC e.nm 0 ((EK e.ms p).zip (W a b c d)) x) h (RR e p (sk W I) n K)) (n:Nat) {a:A} {b:B} {c:g} {d:f} {h:aw} (i:I n a b c d h) (k:ny e.nm (oO p e.body)=af:=by kernel_rfl) (j:∀x:Nat->ah,(EK e.ms p).map (A7 (GC e.nm 0 ((EK e.ms p).zip (W a b c d)) x))=W a b c d:=by intro;kernel_rfl):LL X e p (W a b c d) h K:=
 LQ (sk W I) k (λn w x h ⟨a,b,c,d,l,i⟩=>by grind) n ⟨a,b,c,d,rfl,i⟩ j
def Y2{g k j f i:Type}(W:g->k->j->f->i->LV)(I:Nat->g->k->j->f->i->aw->Prop)(n:Nat)(w:LV)(h:aw):Prop:=∃a b c d e,w=W a b c d e/\I n a b c d e h
theorem um{i f g:Type}{W:A->B->i->f->g->LV}{I:Nat->A->B->i->f->g->aw->Prop}(m:Nat){a:A}{b:B}{c:i}{d:f}{e:g}{h:aw}(j:m<n)(k:I m a b c d e h):cB (Y2 W I) n (W a b c d e) h:=⟨m,j,a,b,c,d,e,rfl,k⟩
theorem LP{f:FD}{p:List Nat}{K:kT}{j g i:Type}(W:A->B->j->g->i->LV)(I:Nat->A->B->j->g->i->aw->Prop)
  (step:∀n (a:A) (b:B) (c:j) (d:g) (e:i) (x:Nat->ah) h,I n a b c d e h->TT X f p (GC f.nm 0 ((EK f.ms p).zip (W a b c d e)) x) h (RR f p (Y2 W I) n K)) (n:Nat) {a:A} {b:B} {c:j} {d:g} {e:i} {h:aw} (k:I n a b c d e h) (m:ny f.nm (oO p f.body)=af:=by kernel_rfl) (l:∀x:Nat->ah,(EK f.ms p).map (A7 (GC f.nm 0 ((EK f.ms p).zip (W a b c d e)) x))=W a b c d e:=by intro;kernel_rfl):LL X f p (W a b c d e) h K:=
 LQ (Y2 W I) m (λn w x h ⟨a,b,c,d,e,o,k⟩=>by grind) n ⟨a,b,c,d,e,rfl,k⟩ l
def LA6{i l k g j m:Type}(W:i->l->k->g->j->m->LV)(I:Nat->i->l->k->g->j->m->aw->Prop)(n:Nat)(w:LV)(h:aw):Prop:=∃a b c d e f,w=W a b c d e f/\I n a b c d e f h
theorem agc{j g i k:Type}{W:A->B->j->g->i->k->LV}{I:Nat->A->B->j->g->i->k->aw->Prop}(m:Nat){a:A}{b:B}{c:j}{d:g}{e:i}{f:k}{h:aw}(l:m<n)(o:I m a b c d e f h):cB (LA6 W I) n (W a b c d e f) h:=⟨m,l,a,b,c,d,e,f,rfl,o⟩
theorem agu{g:FD}{p:List Nat}{K:kT}{k i j l:Type}(W:A->B->k->i->j->l->LV)(I:Nat->A->B->k->i->j->l->aw->Prop)
  (step:∀n (a:A) (b:B) (c:k) (d:i) (e:j) (f:l) (x:Nat->ah) h,I n a b c d e f h->TT X g p (GC g.nm 0 ((EK g.ms p).zip (W a b c d e f)) x) h (RR g p (LA6 W I) n K)) (n:Nat) {a:A} {b:B} {c:k} {d:i} {e:j} {f:l} {h:aw} (m:I n a b c d e f h) (q:ny g.nm (oO p g.body)=af:=by kernel_rfl) (o:∀x:Nat->ah,(EK g.ms p).map (A7 (GC g.nm 0 ((EK g.ms p).zip (W a b c d e f)) x))=W a b c d e f:=by intro;kernel_rfl):LL X g p (W a b c d e f) h K:=
 LQ (LA6 W I) q (λn w x h ⟨a,b,c,d,e,f,r,m⟩=>by grind) n ⟨a,b,c,d,e,f,rfl,m⟩ o
noncomputable def TE(S:Sx)(b:TS)(h:aw):List ResultVar->Option (List ah)
 |[]=>aa []
 |.tmp t::r=>(TE S b h r).map (b.getD t undef::·)
 |.cell a t::r=>match aM S.P t h (b.getD a undef)with
  |some v=>(TE S b h r).map (v::·)
  |none=>none
theorem Hi(S:Sx)(b:TS)(h:aw):∀l,A2 S (fr b) h l=TE S b h l
 |[]=>rfl
 |.tmp t::r=>by simp only[A2,TE,Hi S b h r,fr]
 |.cell a t::r=>by simp only[A2,TE,Hi S b h r,fr];try (cases aM S.P t h (b.getD a undef)<;>rfl)
noncomputable def ajg(S:Sx)(b:List ResultVar)(Q:VH)(x:Exit)(a:TS)(h:aw):Prop:=match x with
 |.normal=>Gf (TE S a h b) h Q
 |.ret=>Gf (TE S a h b) h Q
 |_=>False
noncomputable def QU(S:Sx)(h:aw):List (ah×Option aD)->Option (List ah)
 |[]=>aa []
 |(v,none)::r=>(QU S h r).map (v::·)
 |(a,aa t)::r=>match aM S.P t h a with
  |some v=>(QU S h r).map (v::·)
  |none=>none
noncomputable def gI(S:Sx)(l:List (ah×Option aD))(h:aw)(Q:VH):Prop:=Gf (QU S h l) h Q
theorem CT{a:ah}{t:aD}(b:aM X.P t h a=aa v)(c:Q v h):gI X [(a,aa t)] h Q:=by
 unfold gI;simp only[QU,b];exact c
theorem CU{a:ah}{t:aD}(b:aM X.P t h a=aa v)(c:Q (av ⟨[v,w]⟩) h):gI X [(a,aa t),(w,none)] h Q:=by
 unfold gI;simp only[QU,b];exact c
noncomputable def EE(S:Sx)(X:FD)(Q:VH):kT:=ajg S X.rs Q
theorem gZ(d:FD){f:ck}{b:Func}{a:List ah}{h:aw}{Q:VH}(q:X.P.funcs[f]?=aa b)
  (e:wpS X d.nm d.ms [] d.body (a++aH (d.nm-a.length) undef) h (EE X d Q)) (j:d=gT b d.ms:=by kernel_rfl) (k:(dj f YB&&(X.pr f).isNone&&Nat.ble a.length d.nm&&ny d.nm d.body&&b.body.isSome)=af:=by kernel_rfl):FW X f a h Q:=by
 have m:d.nm=b.ntmps:=by rw[j];rfl
 have o:d.body=b.body.getD .skip:=by rw[j];rfl
 have v:d.rs=b.results.toList:=by rw[j];rfl
 unfold EE at e;rw[m,o,v]at e;rw[m,o]at k;simp only[bj,blt_eq,ble_eq,Option.isNone_iff_eq_none]at k;obtain⟨⟨⟨⟨u,w⟩,r⟩,g⟩,p⟩:=k;obtain⟨c,l⟩:=Option.isSome_iff_exists.1 p;rw[l]at e g;have e:wpS X b.ntmps d.ms [] c (a++aH (b.ntmps-a.length) undef) h (ajg X b.results.toList Q):=e;have g:ny b.ntmps c=af:=g;have s:(a++aH (b.ntmps-a.length) undef).length=b.ntmps:=by simp;omega
 have y:fr (a++aH (b.ntmps-a.length) undef)=agM a:=by
  funext t;show(a++aH (b.ntmps-a.length) undef).getD t undef=a.getD t undef;simp only[gD];by_cases p:t<a.length
  ·grind
  ·grind
 refine ajr q l u w r g ?_;rw[<-y];refine rT c s g (λx n h _ i=>?_) e
 cases x with
 |normal=>show Gf (A2 X (fr n) h _) h Q;rw[Hi];exact i
 |ret=>show Gf (A2 X (fr n) h _) h Q;rw[Hi];exact i
 |_=>exact i.elim
structure iu where
 i:Int
 o:Int
 w:List UInt8
 t:Int
structure kH where
 f:List UInt8
 bG:List iu
structure cG where
 kind:Int
 start:Int
 lead:List UInt8
 aE:List kH
def jU(a:iu):List ah:=[aA a.i,aA a.o,strOf a.w,aA a.t]
def q0:iu:=⟨0,0,[],0⟩
def zV(z:Int):ah:= aA z
def Sd:List ah->Option (List Int)
 |[]=>aa []
 |aB an z::r=>(Sd r).map (z::·)
 |_::_=>none
def FZ(l:List Int):List Int:=l.mergeSort λx y=>decide (x<=y)
noncomputable def Jk:tw:=λ_ e h=>match e with
 | [ae a n c]=>if n=0 then aa (av ⟨[]⟩,h)else match a with
   |some ⟨b,d,none⟩=>(match h.get b with
    |some (.cells cs t f af)=>if n<4611686018427387904/\d+n<=cs.length then(Sd ((cs.drop d).take n)).map λl=>(av ⟨[]⟩,h.set b (.cells (cs.take d++(FZ l).map zV++cs.drop (d+n)) t f af))else none
    |_=>none)
   |_=>none
 |_=>none
variable{g:aw}{a:Option aF}
theorem cj{n:Int}(a: -9223372036854775808<=n)(b:n<9223372036854775808):aj an n=n:=by grind[IntKind.wrap_i64]
theorem jO{n:Int}(a:0<=n)(b:n<18446744073709551616):aj az n=n:=by grind[IntKind.wrap_u64]
theorem xT{n:Int}(a:0<=n)(b:n<256):aj aK n=n:=by grind[IntKind.wrap_u8]
theorem tT{t:aD}(c:P.underlying t=aa .string)(l:List UInt8)(k:ei){i:Int}(b:0<=i)(a:i<l.length):dR P t (strOf l) (aB k i)=aa (aB aK ((l.getD i.toNat 0).toNat:Nat)):=by simp_all[dR,strOf]
theorem tV{t:aD}(g:P.underlying t=aa .string)(l:List UInt8){h:aw}{lo hi:Option ah}{a b:Nat}(f:iW lo 0=aa (a:Int))(c:iW hi l.length=aa (b:Int))(d:a<=b)(e:b<=l.length):cY P t (strOf l) lo hi none h=aa (strOf ((l.drop a).take (b-a))):=by simp_all[cY,strOf]
theorem adm{t:aD}(a b:List UInt8)(h:a.length+b.length<=4611686018427387904):cm P .add t (strOf a) (strOf b)=aa (strOf (a++b)):=by
 show Ma .add a b=_
 simp_all[Ma]
structure Ok(h0 h:aw):Prop where
 wf:∀k B,h.get k=aa B->k<h.ax
 ext:∀k B,h0.get k=aa B->h.get k=aa B
 nx:h0.ax<=h.ax
def Wf(h:aw):Prop:=∀k B,h.get k=aa B->k<h.ax
theorem Ok.refl(w:Wf h):Ok h h:=⟨w,λ_ _ h=>h,aS _⟩
theorem Ok.trans{c d:aw}(a:Ok g c)(b:Ok c d):Ok g d:=⟨b.wf,λk B h=>b.ext k B (a.ext k B h),bK a.nx b.nx⟩
theorem Ok.push(a:Ok g h)(B:eE):Ok g (h.push B):=by
 refine⟨aw.tP a.wf B,λk C c=>?_,bK a.nx (fJ _)⟩;have b:=a.ext k C c;rw[aw.cZ,iN (λe=>by have:=a.wf _ _ b;omega)];omega
theorem Ok.set(a:Ok g h){k:Nat}(B:eE)(f:g.ax<=k)(d:k<h.ax)(c:Wf g):Ok g (h.set k B):=by
 refine⟨λj C b=>?_,λj C b=>?_,a.nx⟩
 ·rw[aw.bZ]at b;split at b
  ·simp_all
  ·exact a.wf _ _ b
 ·rw[aw.bZ,iN (λe=>by have:=c _ _ b;omega)];exact a.ext _ _ b
theorem Ok.room{b h:aw}(a:Ok b h)(n:Nat):Ok b (room h n):=⟨λk B c=>cz (a.wf k B c) (dg _ _),a.ext,bK a.nx (dg _ _)⟩
def iB(b h:aw)(e:aD)(v:ah)(a:List ah):Prop:=
 (v=nA/\a=[])\/ ∃k cs,v=sA k a.length (ft+cs.length)/\b.ax<=k/\h.get k=aa (.cells cs e 1 af)/\cs.take a.length=a/\a.length<=cs.length
theorem iB.push(a:Ok g h)(o:iB g h T v c)(B:eE):iB g (h.push B) T v c:=by
 rcases o with o|⟨k,cs,d,e,b,f,i⟩
 ·exact .inl o
 ·refine .inr ⟨k,cs,d,e,?_,f,i⟩;rw[aw.cZ,iN (λT=>by have:=a.wf _ _ b;omega)];omega
theorem iB.snoc{t:aD}{i:TypeInfo}(D:P.underlying t=aa (.slice T))(F:gF P T=aa i)(r:i.size=1){m h:aw}(w:Wf m)(a:Ok m h){v:ah}{d:List ah}(o:iB m h T v d){x:ah}(M:eY x=af)(E:(d.length+1)*i.bytes<=70368744177664)(y:d.length+1<=1099511627776):
  ∃(b:Option aF)(n c:Nat)(u:dJ),bY P t t v (pw 1 1 h.ax) (h.push (.cells [x] T 1 af))=aa (ae b n c,u)/\n=d.length+1/\iB m (u.app (h.push (.cells [x] T 1 af))) T (ae b n c) (d++[x])/\Ok m (u.app (h.push (.cells [x] T 1 af))):=by
 have I:fD P t=af:=by unfold fD;rw[D]
 have p:ig (h.push (.cells [x] T 1 af)) i.size (pw 1 1 h.ax)=aa ([x],1):=by
  show(match (h.push (.cells [x] T 1 af)).get h.ax with|some (.cells cs ..)=>if((cs.drop 0).take (1*i.size)).length=1*i.size then aa ((cs.drop 0).take (1*i.size),1)else none|_=>none)=_;rw[aw.cZ,iP rfl,r];rfl
 have z:=iB.push a o (.cells [x] T 1 af);have e:=a.push (.cells [x] T 1 af);generalize G:h.push (.cells [x] T 1 af)=g at*;have K:h.ax<g.ax:=by rw[<-G];exact eD _
 unfold bY;rw[D];dsimp only;rw[F];dsimp only;rw[iP I,p];dsimp only;rw[iP (by grind)];rcases z with⟨rfl,rfl⟩|⟨k,cs,rfl,A,q,N,O⟩
 ·show ∃b n c u,(if 1=0 then aa (ae none 0 0,dJ.no)else if 1*i.bytes<=70368744177664/\1<=1099511627776 then aa (ae (aa ⟨g.ax,0,none⟩) 1 (ft+1),dJ.push (.cells [x] T i.size af))else none)=_/\_;rw[iN (by omega),iP (by grind)];refine⟨_,_,_,_,rfl,rfl,.inr ⟨g.ax,[x],rfl,e.nx,?_,rfl,by simp⟩,e.push _⟩;show(g.push (.cells [x] T i.size af)).get g.ax=_;rw[aw.cZ,iP rfl,r]
 ·dsimp only;rw[iN (by omega),r,df];have s:dk (ft+cs.length)=cs.length:=by unfold dk;rw[iP (by omega)];omega
  rw[s];have B:=e.wf _ _ q;by_cases f:d.length+1<=cs.length
  ·rw[iP f];unfold storeAt;rw[bO,q];dsimp only;rw[iP ⟨by omega,by grind⟩];refine⟨_,_,_,_,rfl,rfl,.inr ⟨k,cs.take d.length++[x]++cs.drop (d.length+1),?_,A,?_,?_,?_⟩,?_⟩
   ·grind
   ·show(g.set k _).get k=_;simp[aw.bZ]
   ·grind
   ·grind
   ·exact e.set _ A B w
  ·rw[iN f];have J:cs.length=d.length:=by omega
   unfold nT;rw[iP ⟨E,y⟩,q];dsimp only;rw[df,iP ⟨rfl,rfl,by grind⟩,iN (by omega),iP ⟨rfl,by omega⟩];refine⟨_,_,_,_,rfl,rfl,.inr ⟨g.ax,d++[x],?_,e.nx,?_,?_,?_⟩,?_⟩
   ·grind
   ·show((g.del k).push _).get g.ax=_
    simp_all[aw.cZ]
   ·grind
   ·omega
   ·refine⟨?_,λj C l=>?_,bK e.nx (fJ _)⟩
    ·refine aw.tP (λj C l=>?_) _;rw[aw.iX]at l;split at l
     ·grind
     ·exact e.wf _ _ l
    ·have H:=e.ext _ _ l;have L:=e.wf _ _ H;show((g.del k).push _).get j=_;rw[aw.cZ,iN (λT=>by have:j=g.ax:=T;omega),aw.iX,iN (λT=>by have:=w _ _ l;omega)];omega
def Rd(h:aw)(e:aD)(v:ah)(a:List ah):Prop:=
 (v=nA/\a=[])\/ ∃k b cs c d,v=gG k b a.length c/\h.get k=aa (.cells cs e 1 d)/\(cs.drop b).take a.length=a
theorem iB.rd{h0:aw}(o:iB h0 h T v c):Rd h T v c:=by
 rcases o with o|⟨k,cs,b,d,a,e,f⟩
 ·exact .inl o
 ·exact .inr ⟨k,0,cs,_,af,b,a,by grind⟩
theorem Rd.ok(r:Rd h T v d)(o:Ok h g):Rd g T v d:=by
 rcases r with r|⟨k,a,cs,c,f,e,i,b⟩
 ·exact .inl r
 ·exact .inr ⟨k,a,cs,c,f,e,o.ext _ _ i,b⟩
theorem Rd.len{c:Nat}(r:Rd h T (ae a n c) d):n=d.length:=by
 rcases r with⟨b,rfl⟩|⟨k,e,cs,c,g,b,i,f⟩
 all_goals grind
theorem iB.len{c:Nat}(r:iB g h T (ae a n c) d):n=d.length:=r.rd.len
theorem Rd.at_{t:aD}{d:TypeDesc}(s:P.underlying t=aa (.slice T))(g:cd P T=aa 1)(o:P.underlying T=aa d)(q:isAgg P T=ak){h:aw}{v:ah}{a:List ah}(r:Rd h T v a){k:ei}{i:Int}(n:0<=i)(j:i<a.length):
  ∃p:aF,aZ P t v (aB k i)=aa (bN p)/\aM P T h (bN p)=aa (a.getD i.toNat undef):=by
 rcases r with⟨_,rfl⟩|⟨b,e,cs,c,l,rfl,f,m⟩
 ·grind
 ·refine⟨⟨b,e+i.toNat*1,none⟩,?_,?_⟩
  ·simp_all[aZ,Addr.add]
  ·unfold aM
   grind
def ys(c:UInt8):ah:= aB aK (c.toNat:Nat)
theorem uT:∀l:List UInt8,bytesOf (l.map ys)=aa l
 |[]=>rfl
 |c::l=>by
  have a:c.toNat<256:=c.toNat_lt;show(if 0<=((c.toNat:Nat):Int)/\((c.toNat:Nat):Int)<256 then(bytesOf (l.map ys)).map (UInt8.ofNat ((c.toNat:Nat):Int).toNat::·)else none)=_;rw[iP (by omega),uT l,bn];simp
theorem afv{d e:aD}(a:P.underlying T=aa (.slice e))(f:P.underlying d=aa .string)(m:P.underlying e=aa (.int aK)){h:aw}{v:ah}{l:List UInt8}(r:Rd h e v (l.map ys)):GP P T d v h=aa (strOf l):=by
 unfold GP eB;dsimp only;rw[a,f];rcases r with⟨rfl,b⟩|⟨k,g,cs,c,j,rfl,b,i⟩
 all_goals simp_all[uT]
theorem iB.ok{a:aw}(r:iB g h T v c)(o:Ok h a):iB g a T v c:=by
 rcases r with r|⟨k,cs,d,e,b,f,i⟩
 ·exact .inl r
 ·exact .inr ⟨k,cs,d,e,o.ext _ _ b,f,i⟩
theorem iB.from_{t:aD}(j:P.underlying t=aa (.slice T))(e:cd P T=aa 1){g h:aw}{v:ah}{b:List ah}(r:iB g h T v b){z:Nat}(m:z<b.length):
  ∃a n c,cY P t v (aa (aA (z:Int))) none none h=aa (ae a n c)/\Rd h T (ae a n c) (b.drop z):=by
 rcases r with⟨rfl,rfl⟩|⟨k,cs,rfl,l,d,f,o⟩
 ·grind
 ·refine⟨aa ⟨k,0+z*1,none⟩,b.length-z,ft+cs.length-z,?_,.inr ⟨k,0+z*1,cs,_,af,by rw[cQ],d,?_⟩⟩
  ·unfold cY;dsimp only;rw[j];dsimp only[iW];rw[e,d];dsimp only;have i:dk (ft+cs.length)=cs.length:=by unfold dk;rw[iP (by omega)];omega
   grind
  ·rw[bO,df,cQ];have:=congrArg (List.drop z) f
   grind[drop_take]
theorem iB.upto{t:aD}(m:P.underlying t=aa (.slice T))(g:cd P T=aa 1){f h:aw}{v:ah}{b:List ah}(r:iB f h T v b){z:Nat}(p:z<=b.length)(q:0<b.length):
  ∃a n c,cY P t v none (aa (aA (z:Int))) none h=aa (ae a n c)/\iB f h T (ae a n c) (b.take z):=by
 rcases r with⟨rfl,rfl⟩|⟨k,cs,rfl,i,e,o,s⟩
 ·grind
 ·refine⟨aa ⟨k,0+0*1,none⟩,z,ft+cs.length,?_,.inr ⟨k,cs,?_,i,e,?_,?_⟩⟩
  ·unfold cY;dsimp only;rw[m];dsimp only[iW];rw[g,e];dsimp only;have d:dk (ft+cs.length)=cs.length:=by unfold dk;rw[iP (by omega)];omega
   rw[iP (by simp),d,iP (by omega)];have j:((z:Int)-((0:Nat):Int)).toNat=z:=by omega
   have l:((0:Nat):Int).toNat=0:=rfl;rw[j,l];rfl
  all_goals grind
theorem Dp(k:ei)(a b:Int):yv af [aB k a,aB k b]=aa (aB k (if b>a then b else a)):=by simp[yv]
theorem mL{t:aD}{k:ei}{a:Int}{b:Nat}(d:0<=a)(c:0<b):cm P .rem t (aB k a) (aB k (b:Int))=aa (aB k (a%(b:Int))):=by grind[UF]
theorem vf{t:aD}{a:Int}{b:Nat}(c:0<=a)(d:a<18446744073709551616)(e:0<b):cm P .quo t (bD a) (bD (b:Int))=aa (bD (a/(b:Int))):=by
 rw[GV P t az _ _ (by omega),Int.tdiv_eq_ediv_of_nonneg c,jO (Int.ediv_nonneg c (by omega)) (Int.lt_of_le_of_lt (Int.ediv_le_self _ c) d)]
def setAt:List Nat->Code->Code->Code
 |[],n,_=>n
 |0::p,n,.seq a b=> .seq (setAt p n a) b
 |_::p,n,.seq a b=> .seq a (setAt p n b)
 |0::p,n,.cond c a b=> .cond c (setAt p n a) b
 |_::p,n,.cond c a b=> .cond c a (setAt p n b)
 |_::p,n,.block i c=> .block i (setAt p n c)
 |_::p,n,.loop c=> .loop (setAt p n c)
 |_::_,_,c=>c
theorem mY:∀(p:List Nat)(c:Code),setAt p (oO p c) c=c
 |[],c=>rfl
 |i::p,c=>by
  cases c with
  |seq a b=>cases i<;>simp only[oO,setAt,mY p]
  |cond c a b=>cases i<;>simp only[oO,setAt,mY p]
  |block i c=>simp only[oO,setAt,mY p]
  |loop c=>simp only[oO,setAt,mY p]
  |_=>simp only[setAt]
theorem iB.aj7{t:aD}{i:TypeInfo}(I:P.underlying t=aa (.slice T))(K:gF P T=aa i)(z:i.size=1){q h:aw}(D:Wf q)(a:Ok q h){v:ah}{f:List ah}(o:iB q h T v f){x:ah}(U:eY x=af)(J:(f.length+1)*i.bytes<=70368744177664)(E:f.length+1<=1099511627776):
  ∃(b:Option aF)(n c:Nat)(u:dJ),bY P t t v (pw 1 1 h.ax) (h.push (.cells [x] T 1 af))=aa (ae b n c,u)/\n=f.length+1/\iB q (u.app (h.push (.cells [x] T 1 af))) T (ae b n c) (f++[x])/\Ok q (u.app (h.push (.cells [x] T 1 af)))/\
   (∀j B,h.get j=aa B->(∀o n c,v≠ gG j o n c)->(u.app (h.push (.cells [x] T 1 af))).get j=aa B)/\
   (∀j o m d,ae b n c=gG j o m d->h.ax<=j\/ ∃o n c,v=gG j o n c):=by
 have N:fD P t=af:=by unfold fD;rw[I]
 have s:ig (h.push (.cells [x] T 1 af)) i.size (pw 1 1 h.ax)=aa ([x],1):=by
  show(match (h.push (.cells [x] T 1 af)).get h.ax with|some (.cells cs ..)=>if((cs.drop 0).take (1*i.size)).length=1*i.size then aa ((cs.drop 0).take (1*i.size),1)else none|_=>none)=_;rw[aw.cZ,iP rfl,z];rfl
 have F:=iB.push a o (.cells [x] T 1 af);have l:=a.push (.cells [x] T 1 af);have O:∀j B,h.get j=aa B->(h.push (.cells [x] T 1 af)).get j=aa B:=λj B e=>by
  rw[aw.cZ,iN (λT=>by have:=a.wf _ _ e;omega)];omega
 have r:∀j B,h.get j=aa B->j<h.ax:=λj B e=>a.wf _ _ e;generalize L:h.push (.cells [x] T 1 af)=g at*;have R:h.ax<g.ax:=by rw[<-L];exact eD _
 unfold bY;rw[I];dsimp only;rw[K];dsimp only;rw[iP N,s];dsimp only;rw[iP (by grind)];rcases F with⟨rfl,rfl⟩|⟨k,cs,rfl,G,y,V,W⟩
 ·show ∃b n c u,(if 1=0 then aa (ae none 0 0,dJ.no)else if 1*i.bytes<=70368744177664/\1<=1099511627776 then aa (ae (aa ⟨g.ax,0,none⟩) 1 (ft+1),dJ.push (.cells [x] T i.size af))else none)=_/\_;rw[iN (by omega),iP (by grind)];refine⟨_,_,_,_,rfl,rfl,.inr ⟨g.ax,[x],rfl,l.nx,?_,rfl,by simp⟩,l.push _,λj B e _=>?_,λj o m d T=> .inl ?_⟩
  rotate_left
  ·show(g.push _).get j=_;rw[aw.cZ,iN (λT=>by have:=r _ _ e;omega)]
   grind
  ·grind
  show(g.push (.cells [x] T i.size af)).get g.ax=_;rw[aw.cZ,iP rfl,z]
 ·dsimp only;rw[iN (by omega),z,df];have A:dk (ft+cs.length)=cs.length:=by unfold dk;rw[iP (by omega)];omega
  rw[A];have H:=l.wf _ _ y;by_cases p:f.length+1<=cs.length
  ·rw[iP p];unfold storeAt;rw[bO,y];dsimp only;rw[iP ⟨by omega,by grind⟩];refine⟨_,_,_,_,rfl,rfl,.inr ⟨k,cs.take f.length++[x]++cs.drop (f.length+1),?_,G,?_,?_,?_⟩,?_,λj B e w=>?_,λj o m d T=> .inr ?_⟩
   rotate_left 5
   ·show(g.set k _).get j=_;rw[aw.bZ,iN (λT=>w 0 _ _ (by rw[T]))]
    grind
   ·grind
   ·grind
   ·show(g.set k _).get k=_;simp[aw.bZ]
   ·grind
   ·grind
   ·exact l.set _ G H D
  ·rw[iN p];have Q:cs.length=f.length:=by omega
   unfold nT;rw[iP ⟨J,E⟩,y];dsimp only;rw[df,iP ⟨rfl,rfl,by grind⟩,iN (by omega),iP ⟨rfl,by omega⟩];refine⟨_,_,_,_,rfl,rfl,.inr ⟨g.ax,f++[x],?_,l.nx,?_,?_,?_⟩,?_,λj B e w=>?_,λj o m d T=> .inl ?_⟩
   rotate_left 5
   ·show((g.del k).push _).get j=_;rw[aw.cZ,iN (λT=>by have:=r _ _ e;have:j=g.ax:=T;omega),aw.iX,iN (λT=>w 0 _ _ (by rw[T]))]
    grind
   ·grind
   ·grind
   ·show((g.del k).push _).get g.ax=_
    simp_all[aw.cZ]
   ·grind
   ·omega
   ·refine⟨?_,λj C e=>?_,bK l.nx (fJ _)⟩
    ·refine aw.tP (λj C e=>?_) _;rw[aw.iX]at e;split at e
     ·grind
     ·exact l.wf _ _ e
    ·have M:=l.ext _ _ e;have S:=l.wf _ _ M;show((g.del k).push _).get j=_;rw[aw.cZ,iN (λT=>by have:j=g.ax:=T;omega),aw.iX,iN (λT=>by have:=D _ _ e;omega)];omega
def RV(b h:aw)(e:aD)(v:ah)(a:List ah):Prop:=
 (v=nA/\a=[])\/ ∃k,v=sA k a.length (ft+a.length)/\b.ax<=k/\h.get k=aa (.cells a e 1 af)
theorem RV.Ep{t y:aD}{i:TypeInfo}(K:P.underlying t=aa (.slice T))(E:gF P T=aa i)(F:i.size=1)(J:fD P y=af){g h:aw}(z:Wf g)(a:Ok g h){v:ah}{f:List ah}(o:RV g h T v f){x:ah}{d:List ah}(p:ig h 1 x=aa (d,d.length))(G:d.all eY=af)(D:(f.length+d.length)*i.bytes<=70368744177664)(w:f.length+d.length<=1099511627776):
  ∃(b:Option aF)(n c:Nat)(u:dJ),bY P t y v x h=aa (ae b n c,u)/\RV g (u.app h) T (ae b n c) (f++d)/\Ok g (u.app h)/\(∀j B,h.get j=aa B->(∀o n c,v≠ gG j o n c)->(u.app h).get j=aa B):=by
 have m:∀j B,h.get j=aa B->j<h.ax:=λj B e=>a.wf _ _ e;unfold bY;rw[K];dsimp only;rw[E];dsimp only;rw[iP J,F,p];dsimp only;rw[iP ⟨G,by omega⟩];rcases o with⟨rfl,rfl⟩|⟨k,rfl,H,r⟩
 ·show ∃b n c u,(if d.length=0 then aa (ae none 0 0,dJ.no)else if d.length*i.bytes<=70368744177664/\d.length<=1099511627776 then aa (ae (aa ⟨h.ax,0,none⟩) d.length (ft+d.length),dJ.push (.cells d T 1 af))else none)=_/\_;by_cases l:d.length=0
  ·have q:d=[]:=aY l;subst q;exact⟨_,_,_,_,rfl,.inl ⟨rfl,rfl⟩,a,λj B e _=>e⟩
  ·rw[iN l,iP (by grind)];refine⟨_,_,_,_,rfl,.inr ⟨h.ax,by simp,a.nx,?_⟩,a.push _,λj B e _=>?_⟩
   ·show(h.push _).get h.ax=_;simp[aw.cZ]
   ·show(h.push _).get j=_;rw[aw.cZ,iN (λT=>by have:=m _ _ e;omega)];omega
 ·dsimp only;have L:=a.wf _ _ r;by_cases l:d.length=0
  ·have q:d=[]:=aY l;subst q;refine⟨_,_,_,_,rfl,.inr ⟨k,by simp,H,by rw[cF];exact r⟩,a,λj B e _=>e⟩
  ·rw[iN l,df];have s:dk (ft+f.length)=f.length:=by unfold dk;rw[iP (by omega)];omega
   rw[s,iN (by omega)];unfold nT;rw[iP ⟨D,w⟩,r];dsimp only;rw[df,iP ⟨rfl,rfl,by simp⟩,iN (by omega),iP ⟨rfl,by omega⟩];refine⟨_,_,_,_,rfl,.inr ⟨h.ax,by simp,a.nx,?_⟩,?_,λj B e A=>?_⟩
   ·show((h.del k).push _).get h.ax=_
    simp_all[aw.cZ]
   ·refine⟨?_,λj C e=>?_,bK a.nx (fJ _)⟩
    ·refine aw.tP (λj C e=>?_) _;rw[aw.iX]at e
     simp_all
    ·have I:=a.ext _ _ e;have M:=a.wf _ _ I;show((h.del k).push _).get j=_;rw[aw.cZ,iN (λT=>by have:j=h.ax:=T;omega),aw.iX,iN (λT=>by have:=z _ _ e;omega)];omega
   ·show((h.del k).push _).get j=_;rw[aw.cZ,iN (λT=>by have:=m _ _ e;have:j=h.ax:=T;omega),aw.iX,iN (λT=>A 0 _ _ (by rw[T]))];omega
theorem Ao{p:tw}{h':aw}(a:Nat.ble YB f=ak)(i:X.pr f=aa p)(j:∀d,p d c h=aa (v,h'))(b:Q v h'):FW X f c h Q:=by
 refine⟨v,h',⟨1,λn g=>?_⟩,b⟩;obtain⟨m,rfl⟩:∃m,n=m+1:=⟨n-1,by omega⟩
 have e:¬YB<=f:=λh=>by rw[<-ble_eq]at h;rw[a]at h;cases h
 simp_all[iN,dS]
variable{m:Nat}
theorem V4(k i j:Nat):Addr.add ⟨k,i,none⟩ j=⟨k,i+j,none⟩:=by simp[Addr.add]
theorem Gw{t:aD}(e:P.underlying t=aa (.slice T))(a:cd P T=aa m){k off n c:Nat}{ik:ei}{i:Int}(d:0<=i)(b:i<n):aZ P t (gG k off n c) (aB ik i)=aa (cn k (off+i.toNat*m)):=by simp_all[V4,aZ]
theorem da{t:aD}{d:TypeDesc}(f:P.underlying t=aa d)(a:isAgg P t=ak){h:aw}{k i:Nat}{cs:List ah}{e:aD}{sz:Nat}{wr:Bool}(c:h.get k=aa (.cells cs e sz wr))(b:i<cs.length):aM P t h (cn k i)=aa (cs.getD i undef):=by simp_all[aM]
theorem mr{t:aD}{d:TypeDesc}(j:P.underlying t=aa d)(c:isAgg P t=af)(b:cd P t=aa n){h:aw}{k i:Nat}{cs:List ah}{e:aD}{z:Nat}{a:Bool}(g:h.get k=aa (.cells cs e z a))(f:i+n<=cs.length):aM P t h (cn k i)=aa (aq ⟨(cs.drop i).take n⟩):=by
 unfold aM
 grind
theorem eu{t:aD}(c:cd P t=aa 1){h:aw}{k i:Nat}{cs:List ah}{e:aD}{a:Nat}(d:h.get k=aa (.cells cs e a af))(g:i<cs.length){v:ah}(b:eY v=af)(f:v.cells = #[v]):aQ P t (cn k i) v h=aa (undef,.set k (.cells (cs.set i v) e a af)):=by
 unfold aQ;dsimp only;rw[f,iP (show cd P t=aa (#[v]:Array ah).size from c)];unfold storeAt;rw[d];dsimp only;rw[iP ⟨by simp;omega,by simp[b]⟩]
 simp_all[List.set_eq_take_append_cons_drop]
structure yr(hb:aw)(kt:Nat)(e:aD)(vs:List ah)(g:aw):Prop where
 row:g.get kt=aa (.cells vs e 1 af)
 new:hb.ax<=kt
 ok:Ok hb g
theorem yr.lt(m:yr h n T c g):n<g.ax:=m.ok.wf _ _ m.row
theorem yr.rd(m:yr h n T d g)(c:Nat):Rd g T (sA n d.length c) d:= .inr ⟨n,0,d,c,af,rfl,m.row,by simp⟩
theorem yr.trans{a:aw}(m:yr h n T c g)(o:Ok g a):yr h n T c a:=⟨o.ext _ _ m.row,m.new,m.ok.trans o⟩
theorem yr.set(w:Wf h){a:Nat}{e:aD}{b:List ah}{g:aw}(m:yr h a e b g)(j:Nat)(v:ah):yr h a e (b.set j v) ((dJ.set a (.cells (b.set j v) e 1 af)).app g):=by
 refine⟨?_,m.new,m.ok.set _ m.new m.lt w⟩;show(g.set a _).get a=_;rw[aw.bZ,iP rfl]
theorem qh(z:ah)(n:Nat):eO [z] n=aH n z:=by
 induction n with
 |zero=>rfl
 |succ n a=>grind[eO]
theorem Oc(f:A->ah)(L:List A)(j:Nat)(d:A):(L.map f).set j (f d)=(L.set j d).map f:=by simp
variable{L:List (List ah)}
def Bg:ah:= ae (aa ⟨0,0,aa 0⟩) 0 0
def Ba(h:aw)(e:aD)(d:Nat)(v:ah)(b:List (List ah)):Prop:=
 (∀r∈b,r.length=d)/\(((v=nA\/v=Bg)/\b=[])\/ ∃k a cs f z c g,v=gG k a b.length c/\h.get k=aa (.cells cs f z g)/\a+b.length*d<=cs.length/\∀(i:Nat)(r:List ah),b[i]?=aa r->(cs.drop (a+i*d)).take d=r)
theorem Ba.ok(r:Ba h T n v L)(o:Ok h g):Ba g T n v L:=by
 obtain⟨a,r|⟨k,b,cs,d,z,c,i,f,j,e,l⟩⟩:=r
 ·exact⟨a,.inl r⟩
 ·exact⟨a,.inr ⟨k,b,cs,d,z,c,i,f,o.ext _ _ j,e,l⟩⟩
theorem Ba.len{c:Nat}(r:Ba h T n (ae a m c) L):m=L.length:=by
 obtain⟨_,⟨b|b,rfl⟩|⟨k,d,cs,e,z,c,g,b,i,f,j⟩⟩:=r
 all_goals grind[Bg]
theorem Ba.rM(r:Ba h T n v L):∃(a:Option aF)(c:Nat),v=ae a L.length c:=by
 obtain⟨_,⟨b|b,rfl⟩|⟨k,d,cs,e,z,c,g,b,i,f,j⟩⟩:=r
 ·exact⟨_,_,b⟩
 ·exact⟨_,_,b⟩
 grind
theorem Ba.at_{t:aD}{d:TypeDesc}(L:P.underlying t=aa (.slice T))(E:cd P T=aa n)(J:P.underlying T=aa d)(K:isAgg P T=af){h:aw}{v:ah}{a:List (List ah)}(r:Ba h T n v a){ik:ei}{i:Int}(I:0<=i)(F:i<a.length):
  ∃(k o:Nat),aZ P t v (aB ik i)=aa (cn k o)/\aM P T h (cn k o)=aa (aq ⟨a.getD i.toNat []⟩)/\
   ∀(e:aD)(g:TypeDesc)(j:Nat),P.underlying e=aa g->isAgg P e=ak->j<n->aM P e h (cn k (o+j))=aa ((a.getD i.toNat []).getD j undef):=by
 obtain⟨D,⟨_,rfl⟩|⟨b,f,cs,C,z,c,G,rfl,w,H,B⟩⟩:=r
 ·grind
 ·have m:i.toNat<a.length:=by omega
  have y:a[i.toNat]?=aa (a.getD i.toNat []):=by rw[gD,gE m];rfl
  have l:=B _ _ y;have p:(i.toNat+1)*n<=a.length*n:=bJ _ m;rw[cM,dw]at p;obtain⟨q,x⟩:∃q,q=i.toNat*n:=⟨_,rfl⟩
  rw[<-x]at l p;refine⟨b,f+q,?_,?_,λe g j u s A=>?_⟩
  ·grind[Gw]
  ·grind[mr]
  ·rw[da u s w (by omega),<-l,gD,gD,getElem?_take,iP A,getElem?_drop]
variable{k:Nat}
def dV:ah->Option Nat
 |ae (aa a) _ _=>aa a.block
 |_=>none
def kJ(d h:aw)(e:aD)(v:ah)(a:List ah):Prop:=
 (v=nA/\a=[])\/ ∃k b cs c,v=gG k b a.length c/\d.ax<=k/\h.get k=aa (.cells cs e 1 af)/\(cs.drop b).take a.length=a/\dk c+b=cs.length/\a.length<=dk c
theorem kJ.rd{h0:aw}(o:kJ h0 h T v d):Rd h T v d:=by
 rcases o with o|⟨k,a,cs,c,e,g,b,f,j,i⟩
 ·exact .inl o
 ·exact .inr ⟨k,a,cs,c,af,e,b,f⟩
theorem kJ.nY{e:aw}(o:kJ g h T v d)(l:∀(k:Nat) (B:eE),dV v=aa k->h.get k=aa B->e.get k=aa B):kJ g e T v d:=by
 rcases o with o|⟨k,a,cs,c,b,i,f,j,n,m⟩
 ·exact .inl o
 ·exact .inr ⟨k,a,cs,c,b,i,l k _ (by rw[b];rfl) f,j,n,m⟩
theorem kJ.ok{a:aw}(r:kJ g h T v c)(o:Ok h a):kJ g a T v c:=r.nY λk B _ b=>o.ext _ _ b
theorem kJ.lt(o:kJ g h T v d)(w:Wf h){k:Nat}(a:dV v=aa k):k<h.ax/\g.ax<=k:=by
 rcases o with⟨rfl,_⟩|⟨b,j,cs,c,f,i,e,l,n,m⟩
 ·cases a
 ·rw[f]at a;obtain rfl:b=k:=aC a;exact⟨w _ _ e,i⟩
theorem kJ.nil(a h:aw)(e:aD):kJ a h e nA []:= .inl ⟨rfl,rfl⟩
theorem kJ.rM(o:kJ g h T v d):∃(a:Option aF)(c:Nat),v=ae a d.length c:=by
 rcases o with⟨rfl,rfl⟩|⟨k,e,cs,c,b,i,f,j,m,l⟩
 ·exact⟨_,_,rfl⟩
 ·exact⟨_,_,b⟩
theorem kJ.snoc{t:aD}{i:TypeInfo}(J:P.underlying t=aa (.slice T))(M:gF P T=aa i)(q:i.size=1){m g:aw}(E:Wf m)(a:Ok m g){v:ah}{d:List ah}(o:kJ m g T v d){x:ah}(G:eY x=af){s:Nat}(D:g.get s=aa (.cells [x] T 1 af))(F:(d.length+1)*i.bytes<=70368744177664)(w:d.length+1<=1099511627776):
  ∃(b:Option aF)(n c:Nat)(u:dJ),bY P t t v (sA s 1 1) g=aa (ae b n c,u)/\n=d.length+1/\kJ m (u.app g) T (ae b n c) (d++[x])/\Ok m (u.app g)/\
   (∀j B,g.get j=aa B->dV v≠aa j->(u.app g).get j=aa B)/\
   (∀j,dV (ae b n c)=aa j->g.ax<=j\/dV v=aa j)/\g.ax<=(u.app g).ax:=by
 have N:fD P t=af:=by unfold fD;rw[J]
 have y:ig g i.size (sA s 1 1)=aa ([x],1):=by
  show(match g.get s with|some (.cells cs ..)=>if((cs.drop 0).take (1*i.size)).length=1*i.size then aa ((cs.drop 0).take (1*i.size),1)else none|_=>none)=_;rw[D,q];rfl
 unfold bY;rw[J];dsimp only;rw[M];dsimp only;rw[iP N,y];dsimp only;rw[iP (by simp[G,q])];rcases o with⟨rfl,rfl⟩|⟨k,f,cs,c,rfl,H,z,r,R,Q⟩
 ·show ∃b n c u,(if 1=0 then aa (ae none 0 0,dJ.no)else if 1*i.bytes<=70368744177664/\1<=1099511627776 then aa (ae (aa ⟨g.ax,0,none⟩) 1 (ft+1),dJ.push (.cells [x] T i.size af))else none)=_/\_;rw[iN (by omega),iP (by simpa using And.intro F w)];refine⟨_,_,_,_,rfl,rfl,.inr ⟨g.ax,0,[x],ft+1,rfl,a.nx,?_,rfl,by rw[gk];rfl,by rw[gk];exact aS _⟩,a.push _,λj B e _=>?_,λj T=> .inl ?_,fJ _⟩
  ·show(g.push (.cells [x] T i.size af)).get g.ax=_;rw[aw.cZ,iP rfl,q]
  ·show(g.push _).get j=_;rw[aw.cZ,iN (λT=>by have:=a.wf _ _ e;omega)];exact e
  ·have:g.ax=j:=aC T;omega
 ·dsimp only;rw[iN (by omega),q,df];have I:=a.wf _ _ z;by_cases h:d.length+1<=dk c
  ·rw[iP h];unfold storeAt;rw[z];dsimp only;rw[iP ⟨by simp;omega,by simp[G]⟩];refine⟨_,_,_,_,rfl,rfl,.inr ⟨k,f,cs.take (f+d.length)++[x]++cs.drop (f+d.length+1),c,?_,H,?_,?_,?_,?_⟩,?_,λj B e p=>?_,λj T=> .inr T,aS _⟩
   ·simp
   ·show(g.set k _).get k=_;rw[aw.bZ,iP rfl];rfl
   ·have l:(cs.take (f+d.length)).length=f+d.length:=by rw[bo];omega
    rw[cE,List.drop_append_of_le_length (by rw[l];omega),drop_take,show f+d.length-f=d.length by omega,r,bg,bP,List.length_nil,List.take_append,bm (by omega)];congr 1;rw[show d.length+(0+1)-d.length=1 by omega];rfl
   ·simp;omega
   ·simp;omega
   ·exact a.set _ H I E
   ·show(g.set k _).get j=_;rw[aw.bZ,iN (λT=>p (by rw[T];rfl))];exact e
  ·rw[iN h];have O:dk c=d.length:=by omega
   have l:((cs.drop f).take d.length).length=d.length:=by rw[r]
   unfold nT;rw[iP ⟨F,w⟩,z];dsimp only;rw[df,iP ⟨rfl,rfl,l⟩];have A:∀B:eE,kJ m ((g.push (.cells (d++[x]) T 1 af))) T (sA g.ax (d.length+1) (ft+(d.length+1))) (d++[x]):=λ_=>
    .inr ⟨g.ax,0,d++[x],ft+(d.length+1),by rw[bg];rfl,a.nx,by rw[aw.cZ,iP rfl],by rw[bV,dX],by rw[gk,bg];rfl,by rw[gk,bg];exact aS _⟩
   by_cases K:c<ft
   ·rw[iP K,r];refine⟨_,_,_,_,rfl,rfl,A (.map []),a.push _,λj B e _=>?_,λj T=> .inl ?_,fJ _⟩
    ·show(g.push _).get j=_;rw[aw.cZ,iN (λT=>by have:=a.wf _ _ e;omega)];exact e
    ·have:g.ax=j:=aC T;omega
   ·rw[iN K,iP ⟨rfl,by omega⟩,r];refine⟨_,_,_,_,rfl,rfl,.inr ⟨g.ax,0,d++[x],ft+(d.length+1),by rw[bg];rfl,a.nx,?_,by rw[bV,dX],by rw[gk,bg];rfl,by rw[gk,bg];exact aS _⟩,?_,λj B e p=>?_,λj T=> .inl ?_,fJ _⟩
    ·show((g.del k).push _).get g.ax=_;rw[aw.cZ,iP (show g.ax=(g.del k).ax from rfl)]
    ·refine⟨?_,λj C e=>?_,bK a.nx (fJ _)⟩
     ·refine aw.tP (λj C e=>?_) _;rw[aw.iX]at e;split at e
      ·cases e
      ·exact a.wf _ _ e
     ·have l:=a.ext _ _ e;have L:=a.wf _ _ l;show((g.del k).push _).get j=_;rw[aw.cZ,iN (λT=>by have:j=g.ax:=T;omega),aw.iX,iN (λT=>by have:=E _ _ e;omega)];exact l
    ·have L:=a.wf _ _ e;show((g.del k).push _).get j=_;rw[aw.cZ,iN (λT=>by have:j=g.ax:=T;omega),aw.iX,iN (λT=>p (by rw[T];rfl))];exact e
    ·have:g.ax=j:=aC T;omega
theorem kJ.upto{t:aD}(s:P.underlying t=aa (.slice T))(i:cd P T=aa 1){g h:aw}{v:ah}{b:List ah}(r:kJ g h T v b){z:Nat}(e:z<=b.length)(p:0<b.length):
  ∃a n c,cY P t v none (aa (aA (z:Int))) none h=aa (ae a n c)/\kJ g h T (ae a n c) (b.take z)/\dV (ae a n c)=dV v:=by
 rcases r with⟨rfl,rfl⟩|⟨k,d,cs,c,rfl,j,f,l,q,u⟩
 ·simp at p
 ·refine⟨aa ⟨k,d+0*1,none⟩,z,c,?_,.inr ⟨k,d,cs,c,?_,j,f,?_,q,?_⟩,rfl⟩
  ·unfold cY;dsimp only;rw[s];dsimp only[iW];rw[i,f];dsimp only;rw[iP (by simp),iP (by omega)];have m:((z:Int)-((0:Nat):Int)).toNat=z:=by omega
   have o:((0:Nat):Int).toNat=0:=rfl;rw[m,o];rfl
  ·rw[bo,dO e];rfl
  ·rw[bo,dO e,<-l,List.take_take,dO e]
  ·rw[bo];omega
theorem kJ.from_{t:aD}(u:P.underlying t=aa (.slice T))(m:cd P T=aa 1){i h:aw}{v:ah}{b:List ah}(r:kJ i h T v b){z:Nat}(w:z<=b.length)(s:0<b.length):
  ∃a n c,cY P t v (aa (aA (z:Int))) none none h=aa (ae a n c)/\kJ i h T (ae a n c) (b.drop z)/\dV (ae a n c)=dV v:=by
 rcases r with⟨rfl,rfl⟩|⟨k,e,cs,c,rfl,o,g,p,x,j⟩
 ·simp at s
 ·have d:dk (c-z)=dk c-z:=by
   unfold dk at j⊢;by_cases f:ft<=c
   ·rw[iP f]at j;rw[iP f,iP (by omega)];omega
   ·rw[iN f,iN (by omega)]
  refine⟨aa ⟨k,e+z*1,none⟩,b.length-z,c-z,?_,.inr ⟨k,e+z,cs,c-z,?_,o,g,?_,?_,?_⟩,rfl⟩
  ·unfold cY;dsimp only;rw[u];dsimp only[iW];rw[m,g];dsimp only;rw[iP (by simp),iP (by omega)];have l:((z:Int)).toNat=z:=by omega
   have q:((b.length:Int)-(z:Int)).toNat=b.length-z:=by omega
   rw[l,q]
  ·rw[cQ,df]
  ·have:=congrArg (List.drop z) p;rw[drop_take,drop_drop]at this;rw[cQ];exact this
  ·rw[d];omega
  ·rw[d,cQ];omega
theorem kJ.built{vs:List ah}(b:h.get k=aa (.cells vs T 1 af))(a:g.ax<=k)(c:vs.length<ft):kJ g h T (sA k vs.length vs.length) vs:=
 .inr ⟨k,0,vs,vs.length,rfl,a,b,by simp,by unfold dk;rw[iN (by omega)];rfl,by unfold dk;rw[iN (by omega)];exact aS _⟩
theorem tS{a:Nat}:∀{l:List (List ah)},(∀r∈l,r.length=a)->l.flatten.length=l.length*a
 |[],_=>by simp
 |r::l,h=>by
  rw[fg,bg,tS λx b=>h x (cJ _ b),h r (cH ..),bP,cM,dw,add_comm]
theorem PD{a:Nat}:∀{l:List (List ah)},(∀r∈l,r.length=a)->∀{i:Nat}{r:List ah},l[i]?=aa r->(l.flatten.drop (i*a)).take a=r
 |[],_,i,r,h=>by grind
 |x::l,b,0,r,h=>by grind
 |x::l,b,i+1,r,h=>by
  have c:=b x (cH ..);rw[fg,cM,dw,List.drop_append,cU (by omega),dq,c,show i*a+a-a=i*a by omega];exact PD (λy d=>b y (cJ _ d)) (by grind)
theorem Lf{a:Nat}:∀{l:List (List ah)},(∀r∈l,r.length=a)->∀{i j:Nat}{r:List ah}{v:ah},l[i]?=aa r->j<a->(l.set i (r.set j v)).flatten=l.flatten.set (i*a+j) v
 |[],_,i,j,r,v,h,_=>by rfl
 |x::l,b,0,j,r,v,h,c=>by grind
 |x::l,b,i+1,j,r,v,h,c=>by
  have d:=b x (cH ..);rw[List.set_cons_succ,fg,fg,Lf (λy e=>b y (cJ _ e)) (by grind) c,List.set_append,iN (by grind),cM,dw,d,show i*a+a+j-a=i*a+j by omega]
def hJ(f h:aw)(e:aD)(d:Nat)(v:ah)(a:List (List ah)):Prop:=
 (∀r∈a,r.length=d)/\((v=nA/\a=[])\/ ∃k b cs c,v=gG k b a.length c/\f.ax<=k/\h.get k=aa (.cells cs e d af)/\(cs.drop b).take (a.length*d)=a.flatten/\dk c*d+b=cs.length/\a.length<=dk c)
theorem hJ.rd{h0:aw}(o:hJ h0 h T n v L):Ba h T n v L:=by
 obtain⟨a,⟨b,f⟩|⟨k,e,cs,c,b,f,j,s,t,m⟩⟩:=o
 ·exact⟨a,.inl ⟨.inl b,f⟩⟩
 ·have q:=bJ n m;refine⟨a,.inr ⟨k,e,cs,T,n,c,af,b,j,by omega,λi r g=>?_⟩⟩;have p:=PD a g;have d:i<L.length:=(List.getElem?_eq_some_iff.1 g).1;have l:(i+1)*n<=L.length*n:=bJ _ d;rw[cM,dw]at l
  grind[drop_take,drop_drop]
theorem hJ.nY{e:aw}(o:hJ g h T n v L)(l:∀(k:Nat) (B:eE),dV v=aa k->h.get k=aa B->e.get k=aa B):hJ g e T n v L:=by
 obtain⟨a,o|⟨k,b,cs,c,d,i,f,j,p,m⟩⟩:=o
 ·exact⟨a,.inl o⟩
 ·exact⟨a,.inr ⟨k,b,cs,c,d,i,l k _ (by rw[d];rfl) f,j,p,m⟩⟩
theorem hJ.ok{a:aw}(r:hJ g h T n v L)(o:Ok h a):hJ g a T n v L:=r.nY λk B _ b=>o.ext _ _ b
theorem hJ.base{a:aw}(r:hJ a h T n v L)(o:Ok g a):hJ g h T n v L:=by
 obtain⟨b,r|⟨k,d,cs,c,a,f,e,i,l,j⟩⟩:=r
 ·exact⟨b,.inl r⟩
 ·exact⟨b,.inr ⟨k,d,cs,c,a,bK o.nx f,e,i,l,j⟩⟩
theorem hJ.lt(o:hJ g h T n v L)(w:Wf h){k:Nat}(a:dV v=aa k):k<h.ax/\g.ax<=k:=by
 obtain⟨_,⟨rfl,_⟩|⟨b,i,cs,c,e,f,d,j,m,l⟩⟩:=o
 ·cases a
 ·rw[e]at a;obtain rfl:b=k:=aC a;exact⟨w _ _ d,f⟩
theorem hJ.nil(b h:aw)(e:aD)(a:Nat):hJ b h e a nA []:=⟨λr c=>(by grind),.inl ⟨rfl,rfl⟩⟩
theorem hJ.rM(o:hJ g h T n v L):∃(a:Option aF)(c:Nat),v=ae a L.length c:=o.rd.rM
theorem hJ.made{h0:aw}{rs:List (List ah)}(e:h.get k=aa (.cells rs.flatten T n af))(b:∀r∈rs,r.length=n)(a:h0.ax<=k)(f:rs.length<ft):hJ h0 h T n (sA k rs.length rs.length) rs:=by
 have c:dk rs.length=rs.length:=by unfold dk;rw[iN (by omega)]
 have d:=tS b;exact⟨b,.inr ⟨k,0,rs.flatten,rs.length,rfl,a,e,by rw[bV,bm (by omega)],by rw[c,d];rfl,by rw[c];exact aS _⟩⟩
theorem hJ.add{t e:aD}{i:TypeInfo}(hU:P.underlying t=aa (.slice e))(X:gF P e=aa i)(Y:i.size=n)(Z:fD P T=af){y g:aw}(L:Wf y)(a:Ok y g){v:ah}{d:List (List ah)}(o:hJ y g e n v d){x:ah}{ns:List (List ah)}(D:ig g n x=aa (ns.flatten,ns.length))(A:∀r∈ns,r.length=n)(N:ns.flatten.all eY=af)(E:(d.length+ns.length)*i.bytes<=70368744177664)(w:d.length+ns.length<=1099511627776)(M:ns.length<=1\/ ∀a F c,v=ae a F c->dk c=F):
  ∃(b:Option aF)(F c:Nat)(u:dJ),bY P t T v x g=aa (ae b F c,u)/\F=d.length+ns.length/\hJ y (u.app g) e n (ae b F c) (d++ns)/\Ok y (u.app g)/\
   (∀j B,g.get j=aa B->dV v≠aa j->(u.app g).get j=aa B)/\
   (∀j,dV (ae b F c)=aa j->g.ax<=j\/dV v=aa j)/\g.ax<=(u.app g).ax:=by
 obtain⟨U,o⟩:=o;have l:∀r∈d++ns,r.length=n:=λr h=>(bH.1 h).elim (U r) (A r);have f1:=tS U;have R:=tS A;unfold bY;rw[hU];dsimp only;rw[X];dsimp only;rw[Y,iP Z,D];dsimp only;rw[iP ⟨N,R⟩];have O:∀B:eE,∀j J,g.get j=aa J->(g.push B).get j=aa J:=λB j J f=>by
  rw[aw.cZ,iN (λe=>by have:=a.wf _ _ f;omega)];omega
 rcases o with⟨rfl,rfl⟩|⟨k,p,cs,c,rfl,G,z,I,h5,h6⟩
 ·by_cases q:ns.length=0
  ·rw[iP q];obtain rfl:=aY q;exact⟨_,_,_,_,rfl,rfl,⟨l,.inl ⟨rfl,rfl⟩⟩,a,λj B f _=>f,λj e=> .inr e,aS _⟩
  ·rw[List.length_nil,bO]at E w;rw[iN q,iP ⟨E,w⟩];refine⟨_,_,_,_,rfl,(bO _).symm,⟨l,.inr ⟨g.ax,0,ns.flatten,ft+ns.length,rfl,a.nx,?_,?_,by rw[gk,R];rfl,by rw[gk];exact aS _⟩⟩,a.push _,λj B f _=>O _ j B f,λj e=> .inl (Nat.le_of_eq (aC e)),fJ _⟩
   ·show(g.push _).get g.ax=_;rw[aw.cZ,iP rfl]
   grind
 ·dsimp only;by_cases q:ns.length=0
  ·rw[iP q];obtain rfl:=aY q;exact⟨_,_,_,_,rfl,rfl,⟨l,.inr ⟨k,p,cs,c,by grind,G,z,by grind,h5,by grind⟩⟩,a,λj B f _=>f,λj e=> .inr e,aS _⟩
  have Q:=a.wf _ _ z;have m1:(d.length+ns.length)*n=d.length*n+ns.length*n:=cM ..;rw[iN q];by_cases m:d.length+ns.length<=dk c
  ·rw[iP m];have m2:(d.length+ns.length)*n<=dk c*n:=bJ _ m;unfold storeAt;rw[z];dsimp only;rw[iP ⟨by omega,N⟩];refine⟨_,_,_,_,rfl,rfl,⟨l,.inr ⟨k,p,cs.take (p+d.length*n)++ns.flatten++cs.drop (p+d.length*n+ns.flatten.length),c,?_,G,?_,?_,?_,?_⟩⟩,?_,λj B f s=>?_,λj e=> .inr e,aS _⟩
   ·grind
   ·show(g.set k _).get k=_;rw[aw.bZ,iP rfl]
   ·grind
   ·grind
   ·grind
   ·exact a.set _ G Q L
   ·show(g.set k _).get j=_;rw[aw.bZ,iN (λe=>s (by rw[e];rfl))];omega
  ·rw[iN m];have H:((cs.drop p).take (d.length*n)).length=d.length*n:=by rw[I,f1]
   unfold nT;rw[iP ⟨E,w⟩,z];dsimp only;rw[iP ⟨rfl,rfl,H⟩];have S:d.flatten++ns.flatten=(d++ns).flatten:=fV.symm;have K:=tS l;rw[bg]at K;by_cases V:c<ft
   ·rw[iP V,I,S];refine⟨_,_,_,_,rfl,rfl,⟨l,.inr ⟨g.ax,0,(d++ns).flatten,ft+(d.length+ns.length),by rw[bg],a.nx,?_,?_,by rw[gk,K];rfl,by rw[gk,bg];exact aS _⟩⟩,a.push _,λj B f _=>O _ j B f,λj e=> .inl (Nat.le_of_eq (aC e)),fJ _⟩
    ·show(g.push _).get g.ax=_;rw[aw.cZ,iP rfl]
    grind
   ·rw[iN V];have x0:dk c=d.length:=by
     rcases M with h|h
     ·omega
     ·exact h _ _ _ rfl
    rw[iP ⟨rfl,by grind⟩,I,S];refine⟨_,_,_,_,rfl,rfl,⟨l,.inr ⟨g.ax,0,(d++ns).flatten,ft+(d.length+ns.length),by grind,a.nx,?_,?_,by rw[gk,K];rfl,by simp[gk]⟩⟩,?_,λj B f s=>?_,λj e=> .inl (Nat.le_of_eq (aC e)),fJ _⟩
    ·show((g.del k).push _).get g.ax=_
     simp_all[aw.cZ]
    ·grind
    ·refine⟨?_,λj C f=>?_,bK a.nx (fJ _)⟩
     ·refine aw.tP (λj C f=>?_) _;rw[aw.iX]at f;split at f
      ·grind
      ·exact a.wf _ _ f
     ·have H:=a.ext _ _ f;have W:=a.wf _ _ H;show((g.del k).push _).get j=_;rw[aw.cZ,iN (λe=>by have:j=g.ax:=e;omega),aw.iX,iN (λe=>by have:=L _ _ f;omega)];omega
    ·have W:=a.wf _ _ f;show((g.del k).push _).get j=_;rw[aw.cZ,iN (λe=>by have:j=g.ax:=e;omega),aw.iX,iN (λe=>s (by rw[e];rfl))];omega
theorem hJ.put{e t':aD}{sz:Nat}(z:cd P t'=aa 1){f g:aw}(w:Wf f)(a:Ok f g){k b n c:Nat}{h:List (List ah)}(o:hJ f g e sz (gG k b n c) h){i j:Nat}{r:List ah}(l:h[i]?=aa r)(G:j<sz){v':ah}(y:eY v'=af)(H:v'.cells = #[v']):
  ∃u:dJ,aQ P t' (cn k (b+i*sz+j)) v' g=aa (undef,u)/\hJ f (u.app g) e sz (gG k b n c) (h.set i (r.set j v'))/\Ok f (u.app g)/\(∀j B,g.get j=aa B->k≠j->(u.app g).get j=aa B)/\(u.app g).ax=g.ax:=by
 obtain⟨v,⟨d,_⟩|⟨M,D,cs,N,d,s,p,A,Q,F⟩⟩:=o
 ·grind
 ·injection d with d hn t
  injection d with d
  injection d with d C _
  subst d;subst C;subst t;have m:i<h.length:=(List.getElem?_eq_some_iff.1 l).1;have E:(i+1)*sz<=h.length*sz:=bJ _ m;have L:=bJ sz F;have J:=v r (aI l);rw[cM,dw]at E;refine⟨_,eu z p (by omega) y H,⟨λO K=>?_,.inr ⟨k,b,cs.set (b+i*sz+j) v',c,?_,s,?_,?_,?_,?_⟩⟩,a.set _ s (a.wf _ _ p) w,λx B I q=>?_,rfl⟩
  ·grind
  ·grind
  ·show(g.set k _).get k=_;rw[aw.bZ,iP rfl]
  ·rw[bT,Lf v l G,<-A,List.drop_set,iN (by omega),List.take_set,show b+i*sz+j-b=i*sz+j by omega]
  ·grind
  ·grind
  ·show(g.set k _).get x=_;rw[aw.bZ,iN (λe=>q e.symm)];omega
theorem hJ.at_{t:aD}(G:P.underlying t=aa (.slice T))(w:cd P T=aa n){B g:aw}{k a v c:Nat}{e:List (List ah)}(o:hJ B g T n (gG k a v c) e){i:Nat}{r:List ah}(p:e[i]?=aa r)(ik:ei):
  aZ P t (gG k a v c) (aB ik (i:Int))=aa (cn k (a+i*n))/\(∀(f:aD)(l:TypeDesc)(j:Nat),P.underlying f=aa l->isAgg P f=ak->j<n->aM P f g (cn k (a+i*n+j))=aa (r.getD j undef))/\
   (∀d,P.underlying T=aa d->isAgg P T=af->aM P T g (cn k (a+i*n))=aa (aq ⟨r⟩)):=by
 have I:=o.rd.len;have h:i<e.length:=(List.getElem?_eq_some_iff.1 p).1;have m:=Gw (P:=P) G w (k:=k) (off:=a) (n:=v) (c:=c) (ik:=ik) (i:=(i:Int)) (by omega) (by omega);rw[bn]at m;obtain⟨Q,⟨b,_⟩|⟨H,C,cs,K,z,J,M,b,x,L,y⟩⟩:=o.rd
 ·grind
 ·injection b with b _ q
  injection b with b
  injection b with b A _
  subst b;subst A;subst q;have D:(i+1)*n<=e.length*n:=bJ _ h;rw[cM,dw]at D;have F:=y i r p;refine⟨m,λf l j u s E=>?_,λd O N=>?_⟩
  ·rw[da u s x (by omega),<-F,gD,gD,getElem?_take,iP E,getElem?_drop]
  grind[mr]
theorem xW(z:List ah):∀n,eO z n=(aH n z).flatten:=by
 intro n
 induction n with
 |zero=>simp[eO]
 |succ n a=>rw[eO,a,List.replicate_succ,fg]
variable{M:cG}{i:Nat}{p:List Int}
section
def eA(M:cG)(s:Nat):List iu:=(M.aE.getD s ⟨[],[]⟩).bG
def rp(M:cG)(s:Nat):Prop:=(M.aE.getD s ⟨[],[]⟩).f≠[]
def opt(c:Int)(x:List Int):List Int:=if c=0 then x else c::x
theorem kj(x:List Int):opt 0 x=x:=iP rfl
theorem vD{c:Int}(h:c≠0)(x:List Int):opt c x=c::x:=iN h
theorem Vm(c:Int)(x:List Int):opt c x=opt c []++x:=by unfold opt;split<;>rfl
inductive oJ(M:cG):Nat->List Nat->Nat->List Int->List Int->Prop
 |nil (s:Nat):oJ M s [] s [] []
 |cons {s i e:Nat} {a:iu} {l:List Nat} {x y:List Int} (h:(eA M s)[i]?=aa a) (r:oJ M a.t.toNat l e x y):oJ M s (i::l) e (opt a.i x) (opt a.o y)
theorem oJ.cons_inv{l:List Nat}{x:List Int}(r:oJ M n (i::l) m x p):∃a c b,(eA M n)[i]?=aa a/\oJ M a.t.toNat l m c b/\x=opt a.i c/\p=opt a.o b:=by
 cases r with
 |cons h r=>exact⟨_,_,_,h,r,rfl,rfl⟩
theorem oJ.Au{x:List Int}(r:oJ M n [] m x p):n=m/\x=[]/\p=[]:=by
 cases r with
 |nil=>exact⟨rfl,rfl,rfl⟩
def Eh(M:cG)(l:List Nat)(x y:List Int):Prop:=∃e,oJ M M.start.toNat l e x y/\rp M e
def Fe(M:cG):Prop:=∀l l' x y z,Eh M l x y->Eh M l' x z->y=z
def UA(M:cG):Prop:=∀l l' x y z,Eh M l x y->Eh M l' x z->l=l'
structure Mv where
 i:Int
 l:Int
 r:Int
inductive Fl(A B:cG):Nat×Nat->Mv->Nat×Nat->Prop
 |left {p q:Nat} {a:iu} (h:a∈eA A p) (h0:a.i=0):Fl A B (p,q) ⟨0,a.o,0⟩ (a.t.toNat,q)
 |right {p q:Nat} {b:iu} (h:b∈eA B q) (h0:b.i=0):Fl A B (p,q) ⟨0,0,b.o⟩ (p,b.t.toNat)
 |both {p q:Nat} {a b:iu} (h:a∈eA A p) (h':b∈eA B q) (h0:a.i≠0) (e:a.i=b.i):Fl A B (p,q) ⟨a.i,a.o,b.o⟩ (a.t.toNat,b.t.toNat)
inductive PR(A B:cG):Nat×Nat->List Mv->Nat×Nat->Prop
 |nil (s:Nat×Nat):PR A B s [] s
 |cons {s k e:Nat×Nat} {m:Mv} {ms:List Mv} (h:Fl A B s m k) (r:PR A B k ms e):PR A B s (m::ms) e
def wI(a:List Mv):List Int:=a.foldr (λm x=>opt m.i x) []
def wL(a:List Mv):List Int:=a.foldr (λm x=>opt m.l x) []
def wR(a:List Mv):List Int:=a.foldr (λm x=>opt m.r x) []
theorem Oj(m:Mv)(a:List Mv):wI (m::a)=opt m.i (wI a):=rfl
theorem Ol(m:Mv)(a:List Mv):wL (m::a)=opt m.l (wL a):=rfl
theorem Om(m:Mv)(a:List Mv):wR (m::a)=opt m.r (wR a):=rfl
theorem C7(f:Mv->Int):∀(a ns:List Mv),(a++ns).foldr (λm x=>opt (f m) x) []=a.foldr (λm x=>opt (f m) x) []++ns.foldr (λm x=>opt (f m) x) []
 |[],_=>rfl
 |m::a,ns=>by
  rw[dQ,List.foldr_cons,List.foldr_cons,C7 f a ns,Vm,Vm (f m) (List.foldr _ _ a),cE]
theorem ac1(a ns:List Mv):wI (a++ns)=wI a++wI ns:=C7 Mv.i a ns
theorem JA(a ns:List Mv):wL (a++ns)=wL a++wL ns:=C7 Mv.l a ns
theorem JB(a ns:List Mv):wR (a++ns)=wR a++wR ns:=C7 Mv.r a ns
section
variable {A B:cG}
theorem PR.app{s m e:Nat×Nat}{a ns:List Mv}(r:PR A B s a m)(b:PR A B m ns e):PR A B s (a++ns) e:=by
 induction r with
 |nil=>exact b
 |cons h _ c=>exact .cons h (c b)
theorem PR.snoc{s k e:Nat×Nat}{a:List Mv}{m:Mv}(r:PR A B s a k)(h:Fl A B k m e):PR A B s (a++[m]) e:=r.app (.cons h (.nil _))
theorem PR.split{s e:Nat×Nat}:∀{a ns:List Mv},PR A B s (a++ns) e->∃k,PR A B s a k/\PR A B k ns e
 |[],ns,r=>⟨s,.nil _,r⟩
 | m::a,ns,r=>by
  cases r with
  |cons h r=>
   obtain⟨k,b,c⟩:=r.split;exact⟨k,.cons h b,c⟩
theorem Fl.fst{s k:Nat×Nat}{m:Mv}(h:Fl A B s m k){e:Nat}{l:List Nat}{x y:List Int}(r:oJ A k.1 l e x y):∃l',oJ A s.1 l' e (opt m.i x) (opt m.l y):=by
 cases h with
 |left h b=>
  obtain⟨i,a⟩:=getElem?_of_mem h;have:=oJ.cons a r;rw[b]at this;exact⟨_,this⟩
 |right h b=>exact⟨l,by rw[kj,kj];exact r⟩
 |both h c b e=>
  obtain⟨i,a⟩:=getElem?_of_mem h;exact⟨_,oJ.cons a r⟩
theorem Fl.snd{s k:Nat×Nat}{m:Mv}(h:Fl A B s m k){e:Nat}{l:List Nat}{x y:List Int}(r:oJ B k.2 l e x y):∃l',oJ B s.2 l' e (opt m.i x) (opt m.r y):=by
 cases h with
 |left h b=>exact⟨l,by rw[kj,kj];exact r⟩
 |right h b=>
  obtain⟨i,a⟩:=getElem?_of_mem h;have:=oJ.cons a r;rw[b]at this;exact⟨_,this⟩
 |both h c b e=>
  obtain⟨i,a⟩:=getElem?_of_mem c;have:=oJ.cons a r;rw[<-e]at this;exact⟨_,this⟩
theorem PR.runs{s e:Nat×Nat}{a:List Mv}(r:PR A B s a e):(∃l,oJ A s.1 l e.1 (wI a) (wL a))/\∃l',oJ B s.2 l' e.2 (wI a) (wR a):=by
 induction r with
 |nil s=>exact⟨⟨_,.nil _⟩,⟨_,.nil _⟩⟩
 |cons h r c=>
  obtain⟨⟨l,b⟩,⟨l',d⟩⟩:=c;exact⟨h.fst b,h.snd d⟩
theorem afh:∀(n:Nat){l l':List Nat},l.length+l'.length<=n->∀{p q e t:Nat}{x y z:List Int},oJ A p l e x y->oJ B q l' t x z->∃c,PR A B (p,q) c (e,t)/\wI c=x/\wL c=y/\wR c=z:=by
 intro n
 induction n with
 |zero=>
  intro l l' G p q e t x y z r u;obtain rfl:l=[]:=aY (by omega);obtain rfl:l'=[]:=aY (by omega);obtain⟨rfl,rfl,rfl⟩:=r.Au;obtain⟨rfl,_,rfl⟩:=u.Au;exact⟨[],.nil _,rfl,rfl,rfl⟩
 | succ n M=>
  intro l l' G p q e t x y z r u;have N:∀{i:Nat}{g:List Nat}{a:iu}{j h:List Int},l=i::g->(eA A p)[i]?=aa a->a.i=0->oJ A a.t.toNat g e j h->x=opt a.i j->y=opt a.o h->∃c,PR A B (p,q) c (e,t)/\wI c=x/\wL c=y/\wR c=z:=by
   intro i g a j h L w f m d s;rw[f,kj]at d;subst d;obtain⟨c,D,o,C,E⟩:=M (l:=g) (l':=l') (by rw[L,bP]at G;omega) m u;exact⟨_,.cons (.left (aI w) f) D,by rw[Oj,o,kj],by rw[Ol,C,s],by rw[Om,E,kj]⟩
  have J:∀{i:Nat}{g:List Nat}{a:iu}{j h:List Int},l'=i::g->(eA B q)[i]?=aa a->a.i=0->oJ B a.t.toNat g t j h->x=opt a.i j->z=opt a.o h->∃c,PR A B (p,q) c (e,t)/\wI c=x/\wL c=y/\wR c=z:=by
   intro i g a j h L w f m d s;rw[f,kj]at d;subst d;obtain⟨c,D,o,C,E⟩:=M (l:=l) (l':=g) (by rw[L,bP]at G;omega) r m;exact⟨_,.cons (.right (aI w) f) D,by rw[Oj,o,kj],by rw[Ol,C,kj],by rw[Om,E,s]⟩
  cases l with
  | nil=>
   cases l' with
   |nil=>
    obtain⟨rfl,rfl,rfl⟩:=r.Au;obtain⟨rfl,_,rfl⟩:=u.Au;exact⟨[],.nil _,rfl,rfl,rfl⟩
   |cons k K=>
    obtain⟨_,rfl,_⟩:=r.Au;obtain⟨b,j,h,F,m,d,s⟩:=u.cons_inv;by_cases f:b.i=0
    ·exact J rfl F f m d s
    ·rw[vD f]at d;cases d
  | cons i g=>
   obtain⟨a,j,h,w,m,d,s⟩:=r.cons_inv;by_cases f:a.i=0
   ·exact N rfl w f m d s
   ·cases l' with
    |nil=>
     obtain⟨_,O,_⟩:=u.Au;rw[vD f,O]at d;cases d
    | cons k K=>
     obtain⟨b,S,R,F,P,H,I⟩:=u.cons_inv;by_cases o:b.i=0
     ·exact J rfl F o P H I
     ·have v:=d.symm.trans H;rw[vD f,vD o]at v;injection v with Q v
      subst v;obtain⟨c,D,o,C,E⟩:=M (l:=g) (l':=K) (by simp only[bP]at G;omega) m P;exact⟨_,.cons (.both (aI w) (aI F) f Q) D,by rw[Oj,o,d],by rw[Ol,C,s],by rw[Om,E,I]⟩
end
def nN(A B:cG)(k:Nat×Nat):Prop:=rp A k.1/\rp B k.2
def Co(A B:cG)(k:Nat×Nat):Prop:=∃a e,PR A B k a e/\nN A B e
def uP(A B:cG):Nat×Nat:=(A.start.toNat,B.start.toNat)
def xX(A B:cG):Prop:=∀l l' x y z,Eh A l x y->Eh B l' x z->y=z
theorem Ag{A B:cG}:xX A B↔ ∀a e,PR A B (uP A B) a e->nN A B e->wL a=wR a:=by
 constructor
 ·intro h a e r f;obtain⟨⟨l,b⟩,⟨l',c⟩⟩:=r.runs;exact h l l' _ _ _ ⟨_,b,f.1⟩ ⟨_,c,f.2⟩
 ·rintro h l l' x y z ⟨e,r,f⟩ ⟨k,j,i⟩;obtain⟨a,b,c,d,g⟩:=afh _ (aS _) r j;rw[<-d,<-g];exact h a _ b ⟨f,i⟩
def kZ:List Int->List Int->Option (List Int×List Int)
 |[],z=>aa ([],z)
 |a::y,[]=>aa (a::y,[])
 |a::y,b::z=>if a=b then kZ y z else none
theorem Pb:∀(y z u v:List Int),kZ (y++u) (z++v)=(kZ y z).bind λd=>kZ (d.1++u) (d.2++v)
 |[],z,u,v=>rfl
 |a::y,[],u,v=>rfl
 |a::y,b::z,u,v=>by
  rw[dQ,dQ,kZ,kZ];by_cases h:a=b
  ·rw[iP h,iP h,Pb y z u v]
  ·rw[iN h,iN h];rfl
theorem K6:∀{y z:List Int},kZ y z=none->∀u v,y++u≠z++v
 |[],z,h,_,_=>by cases h
 |a::y,[],h,_,_=>by cases h
 |a::y,b::z,h,u,v=>by
  rw[kZ]at h;intro e;injection e with c d
  rw[iP c]at h;exact K6 h u v d
theorem Al:∀{y z:List Int}{d:List Int×List Int},kZ y z=aa d->(d.1=[]\/d.2=[])/\∀u v,(y++u=z++v↔d.1++u=d.2++v)
 |[],z,d,h=>by
  obtain rfl:=aC h;exact⟨.inl rfl,λu v=>Iff.rfl⟩
 |a::y,[],d,h=>by
  obtain rfl:=aC h;exact⟨.inr rfl,λu v=>Iff.rfl⟩
 | a::y,b::z,d,h=>by
  rw[kZ]at h;split at h
  ·next e=>
   obtain⟨c,f⟩:=Al h;refine⟨c,λu v=>?_⟩;rw[<-f u v,e];constructor
   ·intro h;injection h
   ·intro h;rw[dQ,dQ,h]
  ·cases h
theorem adz{z:List Int}(h:kZ p z=aa ([],[])):p=z:=by
 have:=((Al h).2 [] []).2 rfl;simpa using this
theorem Wh{z:List Int}(h:p=z):kZ p z=aa ([],[]):=by
 subst h
 induction p with
 |nil=>rfl
 |cons a p b=>rw[kZ,iP rfl,b]
theorem afJ{d f:List Int×List Int}(h:d.1=[]\/d.2=[])(k:f.1=[]\/f.2=[]){u v:List Int}(e:d.1++u=d.2++v)(c:f.1++u=f.2++v):d=f:=by
 obtain⟨a,b⟩:=d;obtain⟨j,m⟩:=f;dsimp only at*;rcases h with rfl|rfl<;>rcases k with rfl|rfl
 ·rw[dq]at e c;rw[List.append_cancel_right (e.symm.trans c)]
 ·rw[dq]at e c;have g:=congrArg List.length e;have i:=congrArg List.length c;simp only[bg]at g i;rw[aY (l:=b) (by omega),aY (l:=j) (by omega)]
 ·rw[dq]at e c;have g:=congrArg List.length e;have i:=congrArg List.length c;simp only[bg]at g i;rw[aY (l:=a) (by omega),aY (l:=m) (by omega)]
 ·rw[dq]at e c;rw[List.append_cancel_right (e.trans c.symm)]
def ue(d:List Int×List Int)(m:Mv):Option (List Int×List Int):=kZ (d.1++opt m.l []) (d.2++opt m.r [])
theorem yY{a:List Mv}{m:Mv}{d:List Int×List Int}(h:kZ (wL a) (wR a)=aa d):kZ (wL (a++[m])) (wR (a++[m]))=ue d m:=by
 rw[JA,JB,Pb,h];rfl
section
variable {A B:cG}
theorem Co.step{s k:Nat×Nat}{m:Mv}(h:Fl A B s m k)(c:Co A B k):Co A B s:=by
 obtain⟨a,e,r,f⟩:=c;exact⟨m::a,e,.cons h r,f⟩
theorem UN(D:Nat×Nat->Option (List Int×List Int))(z:D (uP A B)=aa ([],[]))(u:∀k d m b,D k=aa d->Fl A B k m b->Co A B b->∃i,ue d m=aa i/\D b=aa i)(s:∀k d,D k=aa d->nN A B k->d=([],[])):xX A B:=by
 rw[Ag];have o:∀(n:Nat)(a:List Mv),a.length=n->∀k,PR A B (uP A B) a k->Co A B k->∃d,D k=aa d/\kZ (wL a) (wR a)=aa d:=by
  intro n
  induction n with
  |zero=>
   intro a g k r c;obtain rfl:=aY g
   cases r
   exact⟨_,z,rfl⟩
  | succ n w=>
   intro a g k r c;obtain⟨ns,m,rfl⟩:∃ns m,a=ns++[m]:=⟨a.dropLast,a.getLast (λe=>by rw[e]at g;simp at g),(List.dropLast_concat_getLast _).symm⟩
   obtain⟨b,t,v⟩:=r.split;have p:Fl A B b m k:=by
    cases v with
    |cons h q=>cases q;exact h
   obtain⟨d,l,j⟩:=w ns (by simp at g;omega) b t (c.step p);obtain⟨i,x,y⟩:=u _ _ _ _ l p c;exact⟨i,y,by rw[yY j,x]⟩
 intro a e r f;obtain⟨d,l,j⟩:=o _ a rfl e r ⟨[],e,.nil _,f⟩;rw[s _ _ l f]at j;exact adz j
theorem UQ{k e:Nat×Nat}{g c ns:List Mv}{d j:List Int×List Int}(r:PR A B (uP A B) g k)(t:PR A B (uP A B) c k)(q:kZ (wL g) (wR g)=aa d)(i:kZ (wL c) (wR c)=aa j)(m:d≠j)(s:PR A B k ns e)(f:nN A B e):wL (g++ns)≠wR (g++ns)\/wL (c++ns)≠wR (c++ns):=by
 refine fA λh=>?_;have l:wL (g++ns)=wR (g++ns):=fA λe=>h (.inl e);have n:wL (c++ns)=wR (c++ns):=fA λe=>h (.inr e);rw[JA,JB]at l n;obtain⟨a,b⟩:=Al q;obtain⟨o,p⟩:=Al i;exact m (afJ a o ((b _ _).1 l) ((p _ _).1 n))
theorem UO{a ns:List Mv}(b:kZ (wL a) (wR a)=none):wL (a++ns)≠wR (a++ns):=by
 rw[JA,JB];exact K6 b _ _
theorem UP{a:List Mv}{d:List Int×List Int}(c:kZ (wL a) (wR a)=aa d)(b:d≠([],[])):wL a≠wR a:=by
 intro e;rw[Wh e]at c;exact b (aC c).symm
end
end
section
structure Za(N M:cG)(D:Nat->Prop)(φ:Nat->Nat)(ψ:Nat->Nat->Nat):Prop where
 start:D N.start.toNat/\φ N.start.toNat=M.start.toNat
 arc:∀s i a,D s->(eA N s)[i]?=aa a->D a.t.toNat/\∃b,(eA M (φ s))[ψ s i]?=aa b/\b.i=a.i/\b.o=a.o/\b.t.toNat=φ a.t.toNat
 inj:∀s i j a b,D s->(eA N s)[i]?=aa a->(eA N s)[j]?=aa b->ψ s i=ψ s j->i=j
 fin:∀s,D s->rp N s->rp M (φ s)
def Y4(N:cG)(ψ:Nat->Nat->Nat):Nat->List Nat->List Nat
 |_,[]=>[]
 |s,i::l=>ψ s i::Y4 N ψ (((eA N s).getD i q0).t.toNat) l
section
variable {N M:cG} {D:Nat->Prop} {φ:Nat->Nat} {ψ:Nat->Nat->Nat}
theorem Za.run(h:Za N M D φ ψ){s e:Nat}{l:List Nat}{x y:List Int}(r:oJ N s l e x y):D s->D e/\oJ M (φ s) (Y4 N ψ s l) (φ e) x y:=by
 induction r with
 |nil=>exact λd=>⟨d,.nil _⟩
 |@cons s i e a l x y f r n=>
  intro d;obtain⟨j,b,g,k,p,o⟩:=h.arc s i a d f;obtain⟨m,c⟩:=n j;have q:(eA N s).getD i q0=a:=by rw[gD,f];rfl
  refine⟨m,?_⟩;rw[<-o]at c;have:=oJ.cons g c;rw[k,p]at this;rw[Y4,q];exact this
theorem Za.Nc(h:Za N M D φ ψ):∀(l l':List Nat){s e n:Nat}{x y q k:List Int},D s->oJ N s l e x y->oJ N s l' n q k->Y4 N ψ s l=Y4 N ψ s l'->l=l'
 |[],[],_,_,_,_,_,_,_,_,_,_,_=>rfl
 |[],_::_,_,_,_,_,_,_,_,_,_,_,e=>by cases e
 |_::_,[],_,_,_,_,_,_,_,_,_,_,e=>by cases e
 |i::l,j::l',s,_,_,_,_,_,_,d,r,u,e=>by
  obtain⟨a,_,_,c,o,_,_⟩:=r.cons_inv;obtain⟨b,_,_,f,p,_,_⟩:=u.cons_inv;rw[Y4,Y4]at e;injection e with m g
  obtain rfl:=h.inj s i j a b d c f m;obtain rfl:=aC (c.symm.trans f);have t:(eA N s).getD i q0=a:=by rw[gD,c];rfl
  rw[t]at g;rw[h.Nc l l' (h.arc s i a d c).1 o p g]
theorem Za.acc(h:Za N M D φ ψ){l:List Nat}{x y:List Int}(a:Eh N l x y):Eh M (Y4 N ψ N.start.toNat l) x y:=by
 obtain⟨e,r,f⟩:=a;obtain⟨d,b⟩:=h.run r h.start.1;rw[h.start.2]at b;exact⟨_,b,h.fin _ d f⟩
theorem Za.func(h:Za N M D φ ψ)(f:Fe M):Fe N:=λl l' x y z a b=>f _ _ _ _ _ (h.acc a) (h.acc b)
theorem Za.alx(h:Za N M D φ ψ)(f:UA M):UA N:=λl l' x y z a b=>by
 have:=f _ _ _ _ _ (h.acc a) (h.acc b);obtain⟨_,r,_⟩:=a;obtain⟨_,c,_⟩:=b;exact h.Nc l l' h.start.1 r c this
end
def PE{b c:Type}(f:b->Option c):List b->Nat->Nat
 |[],_=>0
 |a::l,0=>if(f a).isSome then 0 else PE f l 0+1
 |a::l,j+1=>if(f a).isSome then PE f l j+1 else PE f l (j+1)+1
theorem C3{f:A->Option B}{a:A}(h:f a=none)(l:List A)(j:Nat):PE f (a::l) j=PE f l j+1:=by
 cases j<;>simp[PE,h]
theorem C4{f:A->Option B}{a:A}{b:B}(h:f a=aa b)(l:List A):PE f (a::l) 0=0:=by simp[PE,h]
theorem vQ{f:A->Option B}{a:A}{b:B}(h:f a=aa b)(l:List A)(j:Nat):PE f (a::l) (j+1)=PE f l j+1:=by simp[PE,h]
theorem Ss{k m:Type}(f:k->Option m):∀(l:List k){j:Nat}{b:m},(l.filterMap f)[j]?=aa b->∃a,l[PE f l j]?=aa a/\f a=aa b
 |[],j,b,h=>by simp at h
 | a::l,j,b,h=>by
  rw[eU]at h
  cases d:f a with
  |none=>
   rw[d]at h;obtain⟨g,e,i⟩:=Ss f l h;exact⟨g,by rw[C3 d];exact e,i⟩
  | some c=>
   rw[d]at h;dsimp only at h
   cases j with
   |zero=>
    obtain rfl:c=b:=by simpa using h
    exact⟨a,by rw[C4 d];rfl,d⟩
   |succ j=>
    obtain⟨g,e,i⟩:=Ss f l (j:=j) (by simpa using h);exact⟨g,by rw[vQ d];exact e,i⟩
theorem M5{i m:Type}(f:i->Option m):∀(l:List i){j k:Nat},j<(l.filterMap f).length->k<(l.filterMap f).length->PE f l j=PE f l k->j=k
 |[],j,k,h,_,_=>by simp at h
 | a::l,j,k,g,d,e=>by
  rw[eU]at g d
  cases b:f a with
  |none=>
   rw[b]at g d;rw[C3 b,C3 b]at e;exact M5 f l g d (by simpa using e)
  | some c=>
   rw[b]at g d
   cases j with
   |zero=>
    cases k with
    |zero=>rfl
    |succ k=>rw[C4 b,vQ b]at e;omega
   | succ j=>
    cases k with
    |zero=>rw[C4 b,vQ b]at e;omega
    |succ k=>
     rw[vQ b,vQ b]at e;simp only[bP]at g d;have:=M5 f l (j:=j) (k:=k) (by omega) (by omega) (by simpa using e);omega
theorem U1{g n:Type}(f:g->Option n):∀(l:List g){i:Nat}{a:g}{b:n},l[i]?=aa a->f a=aa b->∃j,(l.filterMap f)[j]?=aa b/\PE f l j=i
 |[],i,a,b,h,_=>by simp at h
 |x::l,0,a,b,h,d=>by
  obtain rfl:x=a:=by simpa using h
  exact⟨0,by rw[eU,d];rfl,C4 d l⟩
 |x::l,i+1,a,b,h,d=>by
  obtain⟨j,k,m⟩:=U1 f l (i:=i) (by simpa using h) d
  cases e:f x with
  |none=>exact⟨j,by rw[eU,e];exact k,by rw[C3 e,m]⟩
  |some c=>exact⟨j+1,by rw[eU,e];exact k,by rw[vQ e,m]⟩
end
theorem xw{t:aD}(f:P.underlying t=aa (.slice T))(b:cd P T=aa m){g:aw}{k off n c z:Nat}{cs:List ah}(d:g.get k=aa (.cells cs T m af))(e:z<=n)(a:n<=dk c):
  cY P t (gG k off n c) (aa (aA (z:Int))) none none g=aa (gG k (off+z*m) (n-z) (c-z)):=by simp_all[cY,iW]
section
def abX:Code->Array aR
 |.region _ a _=>a
 |_=> #[]
def KF(P:aO)(a:Option aF)(h:aw)(K:ah->aw->Prop):Prop:=AL (eW P (λ_=> .pointer a) ⟨none,.nilCheck (.tmp 0),0,"",#[],none⟩) h K
theorem nc{a:aF}{K:ah->aw->Prop}(b:K (bN a) h):KF P (aa a) h K:=b
abbrev gf:=List (Nat×eE)
def keys(L:List gf):List Nat:=L.flatten.map (·.1)
structure OL(h0 g:aw)(L:List gf):Prop where
 ok:Ok h0 g
 nd:(keys L).Nodup
 lo:∀k∈keys L,h0.ax<=k
 at_:∀p∈L.flatten,g.get p.1=aa p.2
def Im(g:aw)(L:List gf)(k:Nat)(B:eE):Prop:=g.get k=aa B/\k∉keys L
def ng(g:aw)(L:List gf)(g':aw)(a:List gf):Prop:=∀k B,Im g L k B->Im g' a k B
theorem ng.refl(g:aw)(L:List gf):ng g L g L:=λ_ _ h=>h
theorem ng.trans{g g' d:aw}{L e c:List gf}(a:ng g L g' e)(b:ng g' e d c):ng g L d c:=λk B h=>b k B (a k B h)
theorem uo(A B:List gf):keys (A++B)=keys A++keys B:=by grind[keys]
theorem IB(G:gf):keys [G]=G.map (·.1):=by grind[keys]
theorem Rc{b:Type}:∀{L:List b}{i:Nat}{G:b},L[i]?=aa G->∀a,∃A B,L=A++[G]++B/\L.set i a=A++[a]++B
 |[],_,_,h,_=>by grind
 |x::L,0,G,h,a=>by
  obtain rfl:x=G:=by grind
  exact⟨[],L,rfl,rfl⟩
 |x::L,i+1,G,h,a=>by
  obtain⟨A,B,c,d⟩:=Rc (L:=L) (i:=i) (by simpa using h) a
  grind
theorem mem_keys{L:List gf}{p:Nat×eE}(h:p∈L.flatten):p.1∈keys L:=dZ.2 ⟨p,h,rfl⟩
section
variable {h0 g g':aw} {L:List gf}
theorem OL.lt(o:OL h0 g L){k:Nat}(a:k∈keys L):k<g.ax:=by
 obtain⟨p,b,rfl⟩:=dZ.1 a;exact o.ok.wf _ _ (o.at_ p b)
theorem OL.nil(a:Ok h0 g):OL h0 g []:=⟨a,List.nodup_nil,λk b=>by grind[keys],λp c=>by grind⟩
theorem OL.mem{G:gf}(a:L[i]?=aa G){p:Nat×eE}(b:G[j]?=aa p):p∈L.flatten:=List.mem_flatten.2 ⟨G,aI a,aI b⟩
theorem OL.get(o:OL h0 g L)(i:Nat){k:Nat}{B:eE}(a:L[i]?=aa [(k,B)]):g.get k=aa B:=o.at_ (k,B) (OL.mem a (j:=0) rfl)
theorem OL.old(w:Wf h0)(o:OL h0 g L){k:Nat}{B:eE}(a:h0.get k=aa B):Im g L k B:=⟨o.ok.ext _ _ a,λh=>by have:=o.lo k h;have:=w _ _ a;omega⟩
theorem OL.ab1(o:OL h0 g L){i:Nat}{G c:gf}(t:L[i]?=aa G)(v:Ok h0 g')(y:∀p∈c,g'.get p.1=aa p.2)(F:(c.map (·.1)).Nodup)(e:∀k∈c.map (·.1),k∈G.map (·.1)\/g.ax<=k)(d:∀k B,g.get k=aa B->k∉G.map (·.1)->g'.get k=aa B):OL h0 g' (L.set i c)/\ng g L g' (L.set i c):=by
 obtain⟨A,B,l,u⟩:=Rc t c;rw[u];have w:keys L=keys A++G.map (·.1)++keys B:=by rw[l,uo,uo,IB]
 have f:keys (A++[c]++B)=keys A++c.map (·.1)++keys B:=by rw[uo,uo,IB]
 have j:=o.nd;rw[w]at j;obtain⟨q,H,n⟩:=List.nodup_append.1 j;obtain⟨I,E,s⟩:=List.nodup_append.1 q;have z:∀k∈keys A,k<g.ax:=λk a=>o.lt (by grind);have D:∀k∈keys B,k<g.ax:=λk a=>o.lt (by grind);have x:∀k∈keys A,k∉G.map (·.1):=λk a h=>s k a k h rfl;have r:∀k∈keys B,k∉G.map (·.1):=λk a h=>n k (List.mem_append_right _ h) k a rfl;refine⟨⟨v,?_,λk a=>?_,λp b=>?_⟩,λk C m=>⟨d k C m.1 λh=>m.2 (by grind),λh=>?_⟩⟩
 ·grind
 ·rw[f]at a;rcases bH.1 a with a|a
  ·rcases bH.1 a with a|a
   ·exact o.lo k (by grind)
   ·rcases e k a with h|h
    ·exact o.lo k (by grind)
    ·have:=o.ok.nx;omega
  ·exact o.lo k (by grind)
 ·rw[fV,fV]at b;rcases bH.1 b with b|b
  ·rcases bH.1 b with b|b
   ·exact d _ _ (o.at_ p (by rw[l,fV,fV];simp[b])) (x _ (mem_keys b))
   grind
  ·exact d _ _ (o.at_ p (by grind)) (r _ (mem_keys b))
 ·rw[f]at h;rcases bH.1 h with h|h
  ·rcases bH.1 h with h|h
   ·exact m.2 (by grind)
   ·rcases e k h with h|h
    ·exact m.2 (by grind)
    ·have:=o.ok.wf _ _ m.1;omega
  ·exact m.2 (by grind)
theorem OL.set(e:Wf h0)(o:OL h0 g L)(i:Nat){k:Nat}{B:eE}(b:L[i]?=aa [(k,B)])(a:eE):OL h0 (g.set k a) (L.set i [(k,a)])/\ng g L (g.set k a) (L.set i [(k,a)]):=by
 have c:k∈keys L:=mem_keys (OL.mem b (j:=0) (p:=(k,B)) rfl);refine o.ab1 b (o.ok.set _ (o.lo k c) (o.lt c) e) (λp h=>?_) (by simp) (λj d=> .inl (by simpa using d)) (λj C d f=>?_)
 all_goals simp_all[aw.bZ]
theorem OL.uR(b:Wf h0)(o:OL h0 g L)(i:Nat){k:Nat}{B:eE}(c:L[i]?=aa [(k,B)])(a:eE):OL h0 ((dJ.set k a).app g) (L.set i [(k,a)])/\ng g L ((dJ.set k a).app g) (L.set i [(k,a)]):=o.set b i c a
theorem OL.more(o:OL h0 g L){G:gf}(n:Ok h0 g')(q:∀p∈G,g'.get p.1=aa p.2)(i:(G.map (·.1)).Nodup)(b:∀k∈G.map (·.1),g.ax<=k)(c:∀k B,g.get k=aa B->g'.get k=aa B):OL h0 g' (L++[G])/\ng g L g' (L++[G]):=by
 have f:keys (L++[G])=keys L++G.map (·.1):=by rw[uo,IB]
 refine⟨⟨n,?_,λk a=>?_,λp d=>?_⟩,λk C m=>⟨c k C m.1,λh=>?_⟩⟩
 ·rw[f];refine List.nodup_append.2 ⟨o.nd,i,λk a j l e=>?_⟩;subst e;have:=b k l;have:=o.lt a;omega
 ·rw[f]at a;rcases bH.1 a with a|a
  ·exact o.lo k a
  ·have:=b k a;have:=o.ok.nx;omega
 ·rw[fV]at d;rcases bH.1 d with d|d
  ·exact c _ _ (o.at_ p d)
  grind
 ·rw[f]at h;rcases bH.1 h with h|h
  ·exact m.2 h
  ·have:=b k h;have:=o.ok.wf _ _ m.1;omega
theorem OL.push(o:OL h0 g L)(B:eE):OL h0 (g.push B) (L++[[(g.ax,B)]])/\ng g L (g.push B) (L++[[(g.ax,B)]]):=by
 refine o.more (o.ok.push B) (λp b=>?_) (by simp) (λk a=>by grind) (λk C a=>?_)
 ·simp_all[aw.cZ]
 ·rw[aw.cZ,iN (λe=>by have:=o.ok.wf _ _ a;omega)];omega
theorem OL.none(o:OL h0 g L):OL h0 g (L++[[]])/\ng g L g (L++[[]]):=o.more o.ok (λp b=>by grind) (by simp) (λk a=>by grind) (λ_ _ h=>h)
theorem OL.grow(o:OL h0 g L)(e:Ok g g'):OL h0 g' L/\ng g L g' L:=⟨⟨o.ok.trans e,o.nd,o.lo,λp a=>e.ext _ _ (o.at_ p a)⟩,λk B m=>⟨e.ext _ _ m.1,m.2⟩⟩
theorem OL.new(o:OL h0 g L){k:Nat}{B:eE}(b:g.ax<=k)(a:g'.get k=aa B):Im g' L k B:=⟨a,λh=>by have:=o.lt h;omega⟩
theorem OL.oT(o:OL h0 g L)(B:eE):Im (g.push B) L g.ax B:=o.new (aS _) (by rw[aw.cZ,iP rfl])
theorem OL.left{A:List gf}(o:OL h0 g (L++A)):OL h0 g L/\ng g (L++A) g L:=by
 have a:keys (L++A)=keys L++keys A:=uo ..;refine⟨⟨o.ok,?_,λk b=>o.lo k (by rw[a];simp[b]),λp c=>o.at_ p (by rw[fV];simp[c])⟩,λk B m=>⟨m.1,λh=>m.2 (by rw[a];simp[h])⟩⟩;have:=o.nd
 grind
end
def kK(e:aD)(sz:Nat)(v:ah)(rs:List (List ah))(G:gf):Prop:=
 (∀r∈rs,r.length=sz)/\((v=nA/\rs=[]/\G=[])\/ ∃k a cs c,v=gG k a rs.length c/\G=[(k,.cells cs e sz af)]/\(cs.drop a).take (rs.length*sz)=rs.flatten/\dk c*sz+a=cs.length/\rs.length<=dk c)
theorem kK.nil(e:aD)(sz:Nat):kK e sz nA [] []:=⟨λr a=>(by grind),.inl ⟨rfl,rfl,rfl⟩⟩
theorem kK.rM{e:aD}{sz:Nat}{v:ah}{rs:List (List ah)}{G:gf}(r:kK e sz v rs G):∃(a:Option aF)(c:Nat),v=ae a rs.length c:=by
 obtain⟨_,⟨rfl,rfl,_⟩|⟨k,b,cs,c,d,_⟩⟩:=r
 all_goals simp_all
theorem kK.len{e:aD}{sz:Nat}{c:Nat}{rs:List (List ah)}{G:gf}(r:kK e sz (ae a n c) rs G):n=rs.length:=by
 obtain⟨d,b,h⟩:=r.rM
 grind
theorem kK.blk{e:aD}{sz:Nat}{v:ah}{rs:List (List ah)}{G:gf}(r:kK e sz v rs G):G.map (·.1)=(dV v).toList:=by
 obtain⟨_,⟨rfl,rfl,rfl⟩|⟨k,a,cs,c,rfl,rfl,_⟩⟩:=r
 ·rfl
 ·rfl
theorem kK.made{e:aD}{sz:Nat}{rs:List (List ah)}(a:∀r∈rs,r.length=sz)(c:rs.length<ft):kK e sz (sA k rs.length rs.length) rs [(k,.cells rs.flatten e sz af)]:=by
 have d:dk rs.length=rs.length:=by unfold dk;rw[iN (by omega)]
 have b:=tS a;exact⟨a,.inr ⟨k,0,rs.flatten,rs.length,rfl,rfl,by grind,by grind,by omega⟩⟩
section
variable {h0 g:aw} {L:List gf} {e:aD} {sz:Nat} {v:ah} {rs:List (List ah)} {G:gf}
theorem kK.own(r:kK e sz v rs G)(o:OL h0 g L){i:Nat}(l:L[i]?=aa G):hJ h0 g e sz v rs:=by
 obtain⟨f,⟨rfl,rfl,rfl⟩|⟨k,b,cs,c,rfl,rfl,d,h,m⟩⟩:=r
 ·exact hJ.nil ..
 ·have a:=OL.mem l (j:=0) (p:=(k,.cells cs e sz af)) rfl;exact⟨f,.inr ⟨k,b,cs,c,rfl,o.lo k (mem_keys a),o.at_ _ a,d,h,m⟩⟩
theorem kK.rd(r:kK e sz v rs G)(o:OL h0 g L){i:Nat}(a:L[i]?=aa G):Ba g e sz v rs:=(r.own o a).rd
theorem kK.of(o:hJ h0 g e sz v rs):∃G,kK e sz v rs G/\(∀p∈G,g.get p.1=aa p.2):=by
 obtain⟨b,⟨rfl,rfl⟩|⟨k,a,cs,c,rfl,l,j,d,i,f⟩⟩:=o
 ·exact⟨[],kK.nil ..,λp h=>by grind⟩
 ·exact⟨_,⟨b,.inr ⟨k,a,cs,c,rfl,rfl,d,i,f⟩⟩,λp h=>by grind⟩
theorem kK.nd(r:kK e sz v rs G):(G.map (·.1)).Nodup:=by
 rw[r.blk];grind
theorem kK.add{t:aD}{i:TypeInfo}(N:P.underlying t=aa (.slice e))(C:gF P e=aa i)(D:i.size=sz)(K:fD P T=af)(w:Wf h0)(r:kK e sz v rs G)(o:OL h0 g L){j:Nat}(s:L[j]?=aa G){x:ah}{ns:List (List ah)}(f:ig g sz x=aa (ns.flatten,ns.length))(p:∀r∈ns,r.length=sz)(E:ns.flatten.all eY=af)(A:(rs.length+ns.length)*i.bytes<=70368744177664)(q:rs.length+ns.length<=1099511627776)(m:ns.length<=1\/ ∀a n c,v=ae a n c->dk c=n):
  ∃(b:Option aF)(n c:Nat)(u:dJ),bY P t T v x g=aa (ae b n c,u)/\n=rs.length+ns.length/\∃d,kK e sz (ae b n c) (rs++ns) d/\OL h0 (u.app g) (L.set j d)/\ng g L (u.app g) (L.set j d):=by
 obtain⟨b,n,c,u,F,I,z,J,M,Q,O⟩:=(r.own o s).add N C D K w o.ok f p E A q m;obtain⟨d,l,H⟩:=kK.of z;refine⟨b,n,c,u,F,I,d,l,o.ab1 s J H l.nd (λk h=>?_) (λk B h y=>M k B h λe=>y ?_)⟩
 ·rw[l.blk]at h;rw[r.blk]
  grind
 ·rw[r.blk,e];simp
theorem kK.put{t':aD}(t:cd P t'=aa 1)(l:Wf h0){k a n c:Nat}(r:kK e sz (gG k a n c) rs G)(o:OL h0 g L){j:Nat}(h:L[j]?=aa G){i q:Nat}{x:List ah}(C:rs[i]?=aa x)(y:q<sz){v':ah}(p:eY v'=af)(D:v'.cells = #[v']):
  ∃u:dJ,aQ P t' (cn k (a+i*sz+q)) v' g=aa (undef,u)/\∃b,kK e sz (gG k a n c) (rs.set i (x.set q v')) b/\OL h0 (u.app g) (L.set j b)/\ng g L (u.app g) (L.set j b):=by
 obtain⟨u,v,z,s,A,E⟩:=(r.own o h).put t l o.ok C y p D;obtain⟨b,f,w⟩:=kK.of z;refine⟨u,v,b,f,o.ab1 h s w f.nd (λk d=> .inl ?_) (λk B d m=>A k B d λe=>m ?_)⟩
 ·rw[f.blk]at d;rw[r.blk];omega
 ·rw[r.blk,<-e];exact aX.2 rfl
end
end
section
theorem IN:∀(N:Nat){l:List Nat},l.Nodup->(∀i∈l,i<N)->l.length<=N
 |0,[],_,_=>aS _
 |0,i::_,_,h=>absurd (h i (cH ..)) (dH _)
 | N+1,l,b,h=>by
  have d:(l.erase N).length<=N:=IN N (b.erase N) λi a=>by
   have f:=h i (List.mem_of_mem_erase a);have c:i≠N:=λe=>by rw[e,b.mem_erase_iff]at a;exact a.1 rfl
   omega
  grind
section
variable {P:aO} {gl:Nat->Bool} {ops:Array aR} {bf:Nat->Nat->Bool} {base N:Nat} (hN:ops.size=N) (St:(Nat->Bool)->Fc->Prop) (step: ∀ D s j,j < N->D j=ak->(∀ i,i < j->bf j i=af->D i=af)->St D s-> ∃ s',D6 P gl ops base j s=aa s'/\St (fun i=>i == j || D i) s')
include step
theorem Rh:∀(n j:Nat)(s:Fc),j+n=N->St (λi=>decide (i<j)) s->∃s',F9 P gl ops base n j s=aa s'/\St (λi=>decide (i<N)) s'
 |0,j,s,h,c=>⟨s,rfl,by grind⟩
 | n+1,j,s,h,c=>by
  obtain⟨f,b,a⟩:=step _ s j (by omega) (by simp) (λi d _=>by simpa using d) c;have e:(λi=>i==j||decide (i<j))=λi=>decide (i<j+1):=by
   funext i;by_cases b:i=j
   ·subst b;simp
   ·rw[show(i==j)=ak by simpa using b,Bool.false_or];by_cases a:i<j
    ·simp[a,Nat.lt_succ_of_lt a]
    ·rw[eF a,eF (by omega)]
  rw[e]at a;obtain⟨k,g,l⟩:=Rh n (j+1) f (by omega) a
  grind[F9]
include hN
theorem UD{fin:Fc}(c:∀D s,(∀i,i<N->D i=af)->St D s->Lc fin s=af):∀(n:Nat)(a:List Nat)(s:Fc),a.Nodup->(∀i∈a,i<N)->a.length+n=N->St (λi=>a.contains i) s->OZ P gl ops bf base fin n a s=af
 | 0,a,s,d,l,h,f=>by
  rw[OZ];refine c _ s (λi g=>?_) f;rw[List.contains_iff_mem];refine fA λk=>?_;have:=IN N (List.nodup_cons.2 ⟨k,d⟩) (λj b=>by
   rcases cO.1 b with rfl|b
   ·exact g
   ·exact l j b)
  grind
 | n+1,a,s,d,l,h,f=>by
  rw[OZ,cw];intro j b;rw[eL,hN]at b
  cases p:a.contains j with
  |true=>rfl
  | false=>
   rw[Bool.false_or]
   cases t:(dL j).any λi=>bf j i && !a.contains i with
   |true=>rfl
   | false=>
    rw[Bool.false_or];obtain⟨o,m,r⟩:=step _ s j b p (λi g q=>by grind) f;rw[m];refine UD c n (j::a) o (List.nodup_cons.2 ⟨λk=>?_,d⟩) (λi g=>?_) (by grind) ?_
    ·grind
    ·grind
    ·have e:(λi=>(j::a).contains i)=λi=>i==j||a.contains i:=by
      funext i;rw[List.contains_cons]
     grind
theorem ZZ{tm:List ah}(e:h.ax=base)(j:St (λ_=>ak) (tm,{ h with ax:=h.ax+ops.size },[]))(a:∀D b s s',(∀i,i<N->D i=af)->(∀i,i<N->b i=af)->St D s->St b s'->Lc s s'=af):∃s:Fc,St (λi=>decide (i<N)) s/\CO P gl ops bf tm h=aa (s.1,s.2.1):=by
 subst e;obtain⟨s,k,c⟩:=Rh St step N 0 _ (by omega) (by simpa using j);refine⟨s,c,?_⟩;unfold CO;rw[hN,show F9 P gl ops h.ax N 0 (tm,{ h with ax:=h.ax+N },[])=aa s by grind];dsimp only;rw[iP (UD hN St step (fin:=s) (λD s' f d=>a _ D s s' (λi g=>by grind) f c d) N [] _ List.nodup_nil (λi g=>by grind) (by simp) (by simp_all))]
end
end
section
def yx(vs:List ah):List (List ah):=vs.map λx=>[x]
theorem rH:∀vs:List ah,(yx vs).flatten=vs
 |[]=>rfl
 |x::vs=>by
  show[x]++(yx vs).flatten=_;rw[rH vs];rfl
theorem ja(vs:List ah):(yx vs).length=vs.length:=aG ..
theorem Dv{vs:List ah}:∀r∈yx vs,r.length=1:=λr a=>by
 obtain⟨x,_,rfl⟩:=dZ.1 a;rfl
theorem abi(vs a:List ah):yx (vs++a)=yx vs++yx a:=bU
def iq(e:aD)(v:ah)(vs:List ah)(G:gf):Prop:=kK e 1 v (yx vs) G
theorem iq.nil(e:aD):iq e nA [] []:=kK.nil e 1
section
variable {h0 g:aw} {L:List gf} {e:aD} {v:ah} {vs:List ah} {G:gf}
theorem iq.rM(r:iq e v vs G):∃(a:Option aF)(c:Nat),v=ae a vs.length c:=by
 obtain⟨a,c,h⟩:=kK.rM r
 grind[ja]
theorem iq.rdp(r:iq e v vs G)(h:∀p∈G,g.get p.1=aa p.2):Rd g e v vs:=by
 obtain⟨_,⟨rfl,f,_⟩|⟨k,b,cs,c,d,rfl,a,i,j⟩⟩:=r
 ·have:vs=[]:=by simpa[yx]using f
  subst this;exact .inl ⟨rfl,rfl⟩
 ·rw[ja,df,rH]at a;rw[ja]at d;exact .inr ⟨k,b,cs,c,af,d,h _ (aX.2 rfl),a⟩
theorem OL.PM(o:OL h0 g L){i:Nat}(a:L[i]?=aa G):∀p∈G,g.get p.1=aa p.2:=λp b=>by
 obtain⟨j,c⟩:=getElem?_of_mem b;exact o.at_ p (OL.mem a c)
theorem iq.rd(r:iq e v vs G)(o:OL h0 g L){i:Nat}(a:L[i]?=aa G):Rd g e v vs:=r.rdp (o.PM a)
theorem iq.snoc{t:aD}{i:TypeInfo}(A:P.underlying t=aa (.slice e))(m:gF P e=aa i)(p:i.size=1)(w:fD P t=af)(k:Wf h0)(r:iq e v vs G)(o:OL h0 g L){j:Nat}(y:L[j]?=aa G){x:ah}(D:eY x=af){d:Nat}(h:g.get d=aa (.cells [x] e 1 af))(C:(vs.length+1)*i.bytes<=70368744177664)(B:vs.length+1<=1099511627776):
  ∃(b:Option aF)(n c:Nat)(u:dJ),bY P t t v (sA d 1 1) g=aa (ae b n c,u)/\n=vs.length+1/\∃a,iq e (ae b n c) (vs++[x]) a/\OL h0 (u.app g) (L.set j a)/\ng g L (u.app g) (L.set j a):=by
 have f:ig g 1 (sA d 1 1)=aa (([[x]]:List (List ah)).flatten,1):=by
  show(match g.get d with|some (.cells cs ..)=>if((cs.drop 0).take (1*1)).length=1*1 then aa ((cs.drop 0).take (1*1),1)else none|_=>none)=_;rw[h];rfl
 have z:kK e 1 v (yx vs) G:=r;obtain⟨b,n,c,u,q,E,a,l,s⟩:=z.add A m p w k o y (ns:=[[x]]) f (λr F=>by grind) (by grind) (by grind[ja]) (by grind[ja]) (.inl (aS _));refine⟨b,n,c,u,q,by grind[ja],a,?_,s⟩;unfold iq;rw[abi];exact l
theorem iq.tail{t:aD}(s:P.underlying t=aa (.slice e))(i:cd P e=aa 1){x:ah}(r:iq e v (x::vs) G)(q:∀p∈G,g.get p.1=aa p.2):∃(a:Option aF)(n c:Nat),cY P t v (aa (aA 1)) none none g=aa (ae a n c)/\iq e (ae a n c) vs G:=by
 obtain⟨_,⟨_,l,_⟩|⟨k,f,cs,c,rfl,rfl,h,m,d⟩⟩:=r
 ·cases l
 ·rw[ja,bP]at h d;rw[rH,df]at h;rw[df]at m;have o:=q _ (aX.2 rfl);have j:=xw s i (k:=k) (off:=f) o (n:=(x::vs).length) (z:=1) (by grind) (by rw[bP];exact d);rw[ja];refine⟨_,_,_,j,Dv,.inr ⟨k,f+1*1,cs,c-1,?_,rfl,?_,?_,?_⟩⟩
  ·grind[ja]
  ·rw[ja,rH,df];have:=congrArg (List.drop 1) h
   grind[drop_take,drop_drop]
  ·have b:dk (c-1)=dk c-1:=by
    unfold dk at d⊢;by_cases b:ft<=c
    ·rw[iP b]at d;rw[iP b,iP (by omega)];omega
    ·rw[iN b,iN (by omega)]
   omega
  ·have b:dk (c-1)=dk c-1:=by
    unfold dk at d⊢;by_cases b:ft<=c
    ·rw[iP b]at d;rw[iP b,iP (by omega)];omega
    ·rw[iN b,iN (by omega)]
   grind[ja]
end
theorem sy{t e:aD}(b:P.underlying t=aa (.slice e))(a:cd P e=aa 1){k n c i:Nat}(h:i<n):aZ P t (sA k n c) (aA (i:Int))=aa (cn k i):=by
 rw[Gw b a (by omega) (by omega)];simp
theorem Im.ld{t:aD}{d:TypeDesc}(b:P.underlying t=aa d)(a:isAgg P t=ak){g:aw}{L:List gf}{k:Nat}{v:ah}{e:aD}{z:Nat}{w:Bool}(m:Im g L k (.cells [v] e z w)):aM P t g (pA k)=aa v:=da b a m.1 (by simp)
theorem OL.aeo{h0 g:aw}{L A:List gf}(o:OL h0 g (L++A)):∀p∈A.flatten,Im g L p.1 p.2:=λp b=>⟨o.at_ p (by grind),λa=>by
 have:=o.nd
 grind[uo,mem_keys]⟩
def ua(g:aw)(L:List gf)(e:aD)(v:ah)(vs:List ah):Prop:=∃G,iq e v vs G/\∀p∈G,Im g L p.1 p.2
theorem ua.fN{g:aw}{L a:List gf}{e:aD}{v:ah}{vs:List ah}(r:ua g L e v vs)(c:ng g L h a):ua h a e v vs:=by
 obtain⟨G,b,d⟩:=r;exact⟨G,b,λp f=>c _ _ (d p f)⟩
theorem ua.rd{g:aw}{L:List gf}{e:aD}{v:ah}{vs:List ah}(r:ua g L e v vs):Rd g e v vs:=by
 obtain⟨G,a,b⟩:=r;exact a.rdp λp c=>(b p c).1
theorem OL.SD{h0 g:aw}{L:List gf}(o:OL h0 g L){n j:Nat}(a:j<n)(B:eE):OL h0 (bS (room g n) g.ax [(j,B)]) L/\ng g L (bS (room g n) g.ax [(j,B)]) L/\Im (bS (room g n) g.ax [(j,B)]) L (g.ax+j) B:=by
 have e:Ok g (bS (room g n) g.ax [(j,B)]):=((Ok.refl o.ok.wf).room n).set B (dg _ _) (Nat.add_lt_add_left a _) o.ok.wf;have b:(bS (room g n) g.ax [(j,B)]).get (g.ax+j)=aa B:=by
  show((room g n).set (g.ax+j) B).get (g.ax+j)=_;rw[aw.bZ,iP rfl]
 exact⟨(o.grow e).1,(o.grow e).2,o.new (dg _ _) b⟩
theorem OL.PV{h0 g:aw}{L:List gf}{G:gf}(o:OL h0 g L){i:Nat}(a:L[i]?=aa G):∀p∈G,h0.ax<=p.1:=λp b=>o.lo _ (mem_keys (List.mem_flatten.2 ⟨G,aI a,b⟩))
def qs(g a:aw)(e:aD)(v:ah)(vs:List ah):Prop:=∃G,iq e v vs G/\∀p∈G,g.ax<=p.1/\a.get p.1=aa p.2
theorem qs.im{h0 g:aw}{L:List gf}{e:aD}{v:ah}{vs:List ah}(r:qs g h e v vs)(o:OL h0 g L):ua h L e v vs:=by
 obtain⟨G,c,a⟩:=r;exact⟨G,c,λp b=>o.new (a p b).1 (a p b).2⟩
theorem aco{g:aw}{e:aD}{v:ah}{vs:List ah}(r:Rd g e v vs):ig g 1 v=aa (vs,vs.length):=by
 rcases r with⟨rfl,rfl⟩|⟨k,a,cs,c,d,rfl,f,b⟩
 ·rfl
 ·show(match g.get k with|some (.cells cs ..)=>if((cs.drop a).take (vs.length*1)).length=vs.length*1 then aa ((cs.drop a).take (vs.length*1),vs.length)else none|_=>none)=_
  grind
theorem UE{t e:aD}{i:TypeInfo}(q:P.underlying t=aa (.slice e))(k:gF P e=aa i)(l:i.size=1)(o:fD P t=af){g:aw}(w:Wf g){x:ah}{vs:List ah}(d:ig (g.push (.cells [] e 1 af)) 1 x=aa (vs,vs.length))(m:vs.all eY=af)(y:vs.length*i.bytes<=70368744177664)(v:vs.length<=1099511627776):
  ∃(b:Option aF)(n c:Nat)(u:dJ),bY P t t (sA g.ax 0 0) x (g.push (.cells [] e 1 af))=aa (ae b n c,u)/\qs g (u.app (g.push (.cells [] e 1 af))) e (ae b n c) vs/\Ok g (u.app (g.push (.cells [] e 1 af))):=by
 have a:=(Ok.refl w).push (.cells [] e 1 af);have h:(g.push (.cells [] e 1 af)).get g.ax=aa (.cells [] e 1 af):=by rw[aw.cZ,iP rfl]
 have j:g.ax<(g.push (.cells [] e 1 af)).ax:=eD _;unfold bY;rw[q];dsimp only;rw[k];dsimp only;rw[l,iP o,d];dsimp only;rw[iP ⟨m,(df _).symm⟩];by_cases h0:vs.length=0
 ·rw[iP h0];obtain rfl:=aY h0;exact⟨_,_,_,_,rfl,⟨[(g.ax,.cells [] e 1 af)],kK.made (rs:=[]) (λr z=>by grind) (by decide),λp f=>by obtain rfl:=aX.1 f;exact⟨aS _,h⟩⟩,a⟩
 ·have s:dk 0=0:=by unfold dk;rw[iN (by decide)]
  rw[iN h0,s,iN (by omega)];unfold nT;rw[iP ⟨by grind,by omega⟩,h];dsimp only;rw[iP ⟨rfl,rfl,rfl⟩,iP (by decide)];refine⟨_,_,_,_,rfl,⟨[((g.push (.cells [] e 1 af)).ax,.cells ([]++vs) e 1 af)],⟨Dv,.inr ⟨(g.push (.cells [] e 1 af)).ax,0,vs,ft+(0+vs.length),?_,?_,?_,?_,?_⟩⟩,λp f=>?_⟩,a.push _⟩
  ·rw[ja,bO]
  ·rfl
  ·rw[ja,rH,df,bV,dX]
  ·simp[gk]
  ·simp[gk,ja]
  ·obtain rfl:=aX.1 f;refine⟨Nat.le_of_lt j,?_⟩;show((g.push _).push _).get _=_;simp[aw.cZ]
theorem OL.cell{t:aD}(b:cd P t=aa 1){h0 g:aw}{L:List gf}(o:OL h0 g L)(z:ah){v:ah}(a:eY v=af)(c:v.cells = #[v]):∃u:dJ,aQ P t (pA g.ax) v (g.push (.cells [z] t 0 af))=aa (undef,u)/\Ok g (u.app (g.push (.cells [z] t 0 af)))/\Im (u.app (g.push (.cells [z] t 0 af))) L g.ax (.cells [v] t 0 af):=by
 have k:(g.push (.cells [z] t 0 af)).get g.ax=aa (.cells [z] t 0 af):=by rw[aw.cZ,iP rfl]
 have e:Ok g ((g.push (.cells [z] t 0 af)).set g.ax (.cells [v] t 0 af)):=((Ok.refl o.ok.wf).push _).set _ (aS _) (eD _) o.ok.wf;exact⟨_,eu b k (by simp) a c,e,o.new (aS _) (by show((g.push _).set _ _).get _=_;simp[aw.bZ])⟩
theorem BP(L:List gf)(n:Nat):keys (L++aH n [])=keys L:=by simp_all[keys]
theorem OL.gr{h0 g:aw}{L:List gf}(o:OL h0 g L)(n:Nat):OL h0 g (L++aH n [])/\ng g L g (L++aH n []):=
 ⟨⟨o.ok,by rw[BP];exact o.nd,λk a=>o.lo k (by grind[BP]),λp b=>o.at_ p (by simp_all)⟩,λk B m=>⟨m.1,by rw[BP];exact m.2⟩⟩
end
end Go.Ab
end
section
namespace Go.Ab
open Go Go.RowKit Go.Proofs Go.Sort Go.Shelf
variable{n:Nat}{a:Option aF}{v:ah}{W:aU}{V:Array ah}{m:Nat}
section
variable {β:gR} {P:aO} {gl:Nat->Bool}
theorem K9:∀{cs:List ah}{l:List Int},Sd cs=aa l->cs=l.map zV
 |[],l,h=>by obtain rfl:=aC h;rfl
 | v::r,l,h=>by
  unfold Sd at h;split at h
  ·next a=>cases a
  ·next z d a=>
   injection a with a c
   subst a;subst c;obtain⟨l',b,rfl⟩:=bq.1 h;rw[K9 b];rfl
  grind
theorem TD{c:Nat}(h:cA β (ae a n c) v):∃d b,v=ae d n b:=by
 cases h with
 |sE=>grind
 |slice=>grind
 |dead=>grind
theorem WU{b:Nat}{t:aD}{d:Nat×Nat}{cs:List ah}{l:List Int}(g:W.heap[b]?=aa (.cells V t d))(u:lH β cs n V)(i:aao d V.size)(h:m+l.length<=cs.length)(o:(cs.drop m).take l.length=l.map zV):Holds (aB an) W b (n+m) l.toArray:=by
 intro j a;have a:j<l.length:=by simpa using a
 have f:(l.map zV)[j]?=aa (zV l[j]):=by rw[List.getElem?_map,gE a];rfl
 rw[<-o,getElem?_take,iP a,getElem?_drop]at f;obtain⟨w,c,k⟩:=u _ _ f;rw[k.Aj rfl]at c;rw[show n+(m+j)=n+m+j by omega]at c;have e:l.toArray[j]! = l[j]:=getElem!_pos l.toArray j (by simpa using a);refine⟨by rw[tx g,c,e];rfl,?_⟩;have v:n+m+j<V.size:=(Array.getElem?_eq_some_iff.1 c).1;unfold World.frozen?;rw[g];dsimp only;obtain⟨q,p⟩:=d;rw[Bool.and_eq_false_iff];by_cases s:q<=n+m+j
 ·right;have:¬n+m+j<p:=λr=>by
   have:=i (n+m+j) s r;omega
  simpa using this
 grind
set_option maxHeartbeats 1000000 in
theorem acm{T:Ren}(L:SlLaysM.n5 P T){f5:Func}(U:P.funcs[T.f 5]?=aa f5)(X:f5.body.isSome=af):qt P gl (T.f 5) Jk:=by
 intro x8 _ x5 h v h' g β w F o _ ha;refine⟨f5,U,.inl ⟨X,?_⟩⟩;unfold Jk at g;split at g
 ·next a n c=>
  obtain⟨v1,r1,e1,M,Y⟩:=ha.gm;have e3:=Y.jD;subst e3;have G:F = #[v1]:=by
   have:=congrArg List.toArray e1;simpa using this
  subst G;split at g
  ·next Q=>
   subst Q;simp only[bc,bA]at g;obtain⟨rfl,rfl⟩:=g;obtain⟨a',R,rfl⟩:=TD M;refine(AnyM.slices_Sort_int_none L a' R w).mono ?_;rintro e w' ⟨rfl,rfl⟩;exact⟨_,β,rfl,Step.refl o,.tuple rfl λi v p h=>by simp at h⟩
  ·next Q=>
   split at g
   ·next b d=>
    split at g
    ·next cs t sz u=>
     split at g
     ·next B=>
      obtain⟨l,S,he⟩:=bq.1 g;simp only[bA]at he;obtain⟨rfl,rfl⟩:=he;have Z:=K9 S;obtain⟨f,i',R,s,W,_,rfl,x6,y0,x7,C,x9⟩:=M.lP;have C:i'=f.s+d:=by
       rcases C with h|⟨h,_⟩
       ·exact h
       ·exact absurd h Q
      subst C;obtain⟨W,ht,hz,r,fr,hw,x0,O,J⟩:=o.blk _ _ _ u s;have z:((cs.drop d).take n).length=n:=by rw[bo,cQ];omega
      have x2:l.length=n:=by
       rw[Z,aG]at z;exact z
      subst x2;have H:=WU (β:=β) hw O (J rfl) B.2 Z;refine(AnyM.slices_Sort_int L f.b (f.s+d) R l w H (o.lt _ _ s).2 B.1).mono ?_;rintro e w' ⟨rfl,m,os,rfl⟩;have A:(FZ l).length=l.length:=List.length_mergeSort l;have e0:(l.mergeSort λx y=>decide (x<=y))=FZ l:=rfl;rw[e0];generalize FZ l=l' at*;have x4:d<=cs.length:=by omega
      have q:∀i v,cs[i]?=aa v->∃p,r[f.s+i]?=aa p/\cA β v p:=O;have I:Step β h w β (h.set b (.cells (cs.take d++l'.map zV++cs.drop (d+l.length)) t sz af)) (putRow (aB an) (Sort.ahead w m) f.b (f.s+d) l'.toArray):=by
       refine Step.at_ o u s rfl ⟨by simp,rfl,⟨rfl,dg _ _⟩,rfl,λb' V=>?_⟩ ⟨W,ht,hz,putCells (aB an) (f.s+d) l'.toArray r,fr,?_,by simp[putCells,x0],λi v k=>?_,λ_=>by simpa[putCells]using J rfl⟩
       ·simp only[putRow,mapBlock,Array.getElem?_modify];rw[iN (Ne.symm V)];rfl
       ·simp only[putRow,mapBlock,Array.getElem?_modify,if_true,heap_ahead,hw,fP,onCells]
       ·have x3:∀j,(putCells (aB an) (f.s+d) l'.toArray r)[j]?=(r[j]?).map λx=>if f.s+d<=j/\j<f.s+d+l.length then aB an (l'.toArray[j-(f.s+d)]!)else x:=λj=>by
         simp only[putCells,Array.getElem?_mapIdx,List.size_toArray,A]
        rw[x3];have hf:(l'.map zV).length=l.length:=by rw[aG,A]
        have x1:(cs.take d).length=d:=by rw[bo];omega
        rw[cE,List.getElem?_append,x1]at k;split at k
        ·next hi=>
         rw[getElem?_take,iP hi]at k;obtain⟨p,D,E⟩:=q i v k;rw[D];exact⟨p,by simp only[fP];rw[iN (by omega)],E⟩
        ·next hi=>
         rw[List.getElem?_append,hf]at k;split at k
         ·next N=>
          have g0:i<cs.length:=by omega
          obtain⟨p,D,E⟩:=q i _ (gE g0);rw[D];simp only[fP];rw[iP (by omega)];have K:i-d<l'.length:=by rw[A];exact N
          rw[List.getElem?_map,gE K]at k;obtain rfl:=aC k;refine⟨_,rfl,?_⟩;rw[show f.s+i-(f.s+d)=i-d by omega];have e:l'.toArray[i-d]! = l'[i-d]:=getElem!_pos l'.toArray (i-d) (by simpa using K);rw[e];exact .Du rfl
         ·next N=>
          rw[getElem?_drop,show d+l.length+(i-d-l.length)=i by omega]at k;obtain⟨p,D,E⟩:=q i v k;rw[D];exact⟨p,by simp only[fP];rw[iN (by omega)],E⟩
      refine⟨_,β,rfl,I.trans (Bu I.vH ⟨rfl,rfl,rfl,by rw[size_grow];exact dg _ _,λj hj=>heap_grow_old _ os hj⟩ (aS _)),.tuple rfl λi v p h=>by simp at h⟩
     ·cases g
    ·cases g
   ·cases g
 grind
end
end Go.Ab
end
section
namespace Go.Ab
open Go Go.RowKit
variable{A:Type}{n:Nat}{v:ah}{T:aD}
section
variable {β:gR} {P:aO} {h:aw} {w:aU}
theorem M4{e:Type}{c:Nat}:∀{a:List (List e)},(∀r∈a,r.length=c)->∀{i:Nat}{r:List e},a[i]?=aa r->∀{j:Nat},j<c->a.flatten[i*c+j]?=r[j]?
 |[],_,i,r,b,_,_=>by grind
 |x::a,d,0,r,b,j,f=>by grind
 |x::a,d,i+1,r,b,j,f=>by
  have h:=d x (cH ..);rw[List.getElem?_cons_succ]at b;have k:=M4 (λr g=>d r (cJ _ g)) b f
  grind
theorem vP{d:Type}{b:Nat}:∀{a:List (List d)},(∀r∈a,r.length=b)->a.flatten.length=a.length*b
 |[],_=>by simp
 |x::a,c=>by
  have e:=c x (cH ..);rw[fg,bg,vP λr f=>c r (cJ _ f),e,bP,cM];omega
theorem aal{a:List (List A)}(b:∀r∈a,r.length=n){i:Nat}{r:List A}(c:a[i]?=aa r):(a.flatten.drop (i*n)).take n=r:=by
 have d:=b r (aI c);refine cV λj=>?_
 grind[M4]
structure Bw(β:gR)(h:aw)(w:aU):Prop where
 vH:pP β h w
 ro:∀k B,h.get k=aa B->B.wr=ak
theorem akU(n:Nat)(w:aU):Bw β0 ⟨n,.nil⟩ w:=⟨VF n w,λk B h=>by grind[aw.get_nil]⟩
theorem Bw.wf(i:Bw β h w):Wf h:=i.vH.wf
theorem Bw.below(i:Bw β h w){b:gR}{e:aw}{a:aU}(s:Step β h w b e a):Below w.heap.size w a:=
 ⟨s.os,s.tape.1,s.output,s.size,λk f=>s.kept k f λ⟨k,B,g,c,d,_⟩=>by rw[i.ro k B c]at d;grind⟩
abbrev N8(b n:Nat)(t:aD):Slot:=⟨b,0,n,t,0,ak⟩
theorem Bw.fresh(i:Bw β h w):β h.ax=none:=i.vH.rG (aS _)
theorem Bw.le(i:Bw β h w)(a:Slot):β.le (β.ext h.ax a):=gR.IF a i.fresh
theorem Bw.push(i:Bw β h w){cs:List ah}{t:aD}{c:Array ah}{o:Nat×Nat}{b:Nat}(l:w.heap[b]?=aa (.cells c t o))(q:lH β cs 0 c):
  Bw (β.ext h.ax (N8 b c.size t)) (h.push (.cells cs t 0 ak)) w:=by
 have j:=i.le (N8 b c.size t);have m:b<w.heap.size:=(Array.getElem?_eq_some_iff.1 l).1;have n:∀k B,(h.push (.cells cs t 0 ak)).get k=aa B->B.wr=ak:=λk B a=>by
  rw[aw.cZ]at a;split at a
  ·obtain rfl:=aC a;rfl
  ·exact i.ro k B a
 refine⟨⟨λk f a=>?_,λk B f d g=>?_,λk s B u f r _ d _ _ _ p=>?_,aw.tP i.vH.wf _⟩,n⟩
 ·by_cases e:k=h.ax
  ·subst e;rw[gR.fK]at a;obtain rfl:=aC a;exact⟨by simp,m⟩
  ·rw[gR.jb _ _ e]at a;have:=i.vH.lt k f a;exact⟨by simp;omega,this.2⟩
 ·rw[aw.cZ]at d;split at d
  ·next e=>
   subst e;rw[gR.fK]at g;obtain rfl:=aC g;obtain rfl:=aC d;exact⟨rfl,rfl,⟨rfl,λ_=>rfl⟩,c,o,l,rfl,q.mono j,λp=>by cases p⟩
  ·next e=>
   rw[gR.jb _ _ e]at g;exact(i.vH.blk k B f d g).mono j
 grind
theorem Pa(s:BH P){r:ck->Option tw}{k:Nat->Bool}(x:wE P k r){f:ck}{m:Func}{b:List ah}{Q:ah->aw->Prop}(q:FW ⟨P,k,r⟩ f b h Q)(y:f<YB)(o:P.funcs[f]?=aa m)(t:m.body.isSome=af)
  {args':Array ah} (i:Bw β h w) (D:Gl k β) (B:dE β b args'.toList):
  Calls P f args' w λe g=>∃v d c a,e = .returned d/\Q v c/\cA a v d/\Step β h w a c g/\Below w.heap.size w g:=by
 obtain⟨v,c,⟨n,C⟩,A⟩:=q;obtain⟨E,j,l⟩:=(s.alf x n).fn f b h v c y (C n (aS _)) β w args' i.vH D B;rw[o]at j;obtain rfl:=aC j;rcases l with⟨_,l⟩|⟨d,g,a,z,_,_⟩
 ·refine l.mono ?_;rintro e g ⟨d,a,rfl,p,u⟩;exact⟨v,d,c,a,rfl,A,u,p,i.below p⟩
 ·rw[mM s.names o t]at z
  grind
def KU(w:aU)(v:ah)(f:Nat)(c:List (List ah)):Prop:=
 (∀r∈c,r.length=f)/\((v=nA/\c=[])\/(∃a,v=ae (aa a) 0 0/\c=[])\/
  ∃b e d cs t g,v=gG b e c.length d/\c.length<=d/\d<ft/\w.heap[b]?=aa (.cells cs t g)/\e<=cs.size/\
   ∀(i:Nat)(r:List ah),c[i]?=aa r->∀j,j<f->cs[e+(i*f+j)]?=r[j]?)
theorem Bw.ab7(i:Bw β h w){f:Nat}{e:aD}{l d:List (List ah)}{b a g:Nat}{cs:Array ah}{t:aD}{J:Nat×Nat}(C:∀r∈d,r.length=f)(G:l.length=d.length)
  (x:∀(k:Nat) r E,l[k]?=aa r->d[k]?=aa E->dE β r E) (P:d.length<=g) (O:g<ft) (F:w.heap[b]?=aa (.cells cs t J)) (Q:a<=cs.size)
  (R:∀(i:Nat)(r:List ah),d[i]?=aa r->∀j,j<f->cs[a+(i*f+j)]?=r[j]?):
  ∃s y,Bw s y w/\β.le s/\Ok h y/\cA s (gG h.ax a l.length g) (gG b a d.length g)/\Ba y e f (gG h.ax a l.length g) l:=by
 have p:∀r∈l,r.length=f:=λr A=>by
  obtain⟨k,o,rfl⟩:=List.getElem_of_mem A;have I:d[k]?=aa d[k]:=gE (by omega);rw[(x k _ _ (gE o) I).1]
  grind
 have u:lH β (aH a rj++l.flatten) 0 cs:=λk v m=>by
  rw[bO];rw[List.getElem?_append]at m;split at m
  ·next o=>
   rw[bE]at o;rw[List.getElem?_replicate,iP o]at m;obtain rfl:=aC m;exact⟨_,Array.getElem?_eq_getElem (by omega),.rj _⟩
  ·next o=>
   rw[bE]at o m;have q:=(List.getElem?_eq_some_iff.1 m).1;rw[vP p]at q;rcases dB f with z|z
   ·subst z;simp at q
   have H:k-a=(k-a)/f*f+(k-a)%f:=by rw[dh];exact(Nat.div_add_mod _ _).symm
   have L:=dP (k-a) z;have K:(k-a)/f<l.length:=eJ (by rw[dh];exact q);have D:l[(k-a)/f]?=aa l[(k-a)/f]:=gE K;have B:d[(k-a)/f]?=aa d[(k-a)/f]:=gE (by omega);rw[H,M4 p D L]at m;have A:=x _ _ _ D B;have N:=C _ (aI B);have M:d[(k-a)/f][(k-a)%f]?=aa d[(k-a)/f][(k-a)%f]:=gE (by omega);refine⟨_,?_,A.2 _ _ _ m M⟩
   grind
 refine⟨_,_,i.push F u,i.le _,(Ok.refl i.wf).push _,?_,p,.inr ⟨h.ax,a,_,t,0,g,ak,rfl,aw.mV _ _,?_,λk r o=>?_⟩⟩
 ·have:=cA.slice (β:=β.ext h.ax (N8 b cs.size t)) (i:=a) (n:=l.length) (c:=g) (i':=a) (c':=g) (gR.fK _ _ _) rfl (λ_=>rfl) (λh=>by omega) (by unfold dk;split<;>omega) (.inl (by simp)) (.inl rfl)
  grind
 ·grind[vP]
 ·rw[List.drop_append,bE,cU (by simp),dq,Nat.add_sub_cancel_left]
  grind[aal]
theorem Bw.row(i:Bw β h w){m:Nat}{e:aD}{o:ah}{rs f:List (List ah)}(r:KU w o m f)(c:rs.length=f.length)(l:∀(k:Nat) r p,rs[k]?=aa r->f[k]?=aa p->dE β r p):
  ∃d g v,Bw d g w/\β.le d/\Ok h g/\cA d v o/\Ba g e m v rs:=by
 obtain⟨n,⟨rfl,rfl⟩|⟨a,rfl,rfl⟩|⟨b,A,z,cs,t,C,rfl,u,s,q,x,y⟩⟩:=r
 ·obtain rfl:rs=[]:=aY c;exact⟨β,h,_,i,β.le_refl,Ok.refl i.wf,.sE,⟨λ_ j=>absurd j (by simp),.inl ⟨.inl rfl,rfl⟩⟩⟩
 ·obtain rfl:rs=[]:=aY c;exact⟨β,h,Bg,i,β.le_refl,Ok.refl i.wf,.dead a,⟨λ_ j=>absurd j (by simp),.inl ⟨.inr rfl,rfl⟩⟩⟩
 ·obtain⟨d,g,E,G,F,D,B⟩:=i.ab7 (e:=e) n c l u s q x y
  grind
theorem Bw.ab8(i:Bw β h w){q:Nat}{e:aD}{p:ah}{rs f:List (List ah)}(r:KU w p q f)(c:rs.length=f.length)(o:∀(k:Nat) r x,rs[k]?=aa r->f[k]?=aa x->dE β r x)
  (C:∀a,p=ae (aa a) 0 0->a.spot=none/\∃cs t m,w.heap[a.block]?=aa (.cells cs t m)):
  ∃d g v,Bw d g w/\β.le d/\Ok h g/\cA d v p/\Ba g e q v rs/\v≠Bg:=by
 obtain⟨s,⟨rfl,rfl⟩|⟨a,rfl,rfl⟩|⟨b,u,F,cs,t,m,rfl,A,y,j,B,E⟩⟩:=r
 ·obtain rfl:rs=[]:=aY c;exact⟨β,h,_,i,β.le_refl,Ok.refl i.wf,.sE,⟨λ_ l=>absurd l (by simp),.inl ⟨.inl rfl,rfl⟩⟩,λe=>by cases e⟩
 ·obtain rfl:rs=[]:=aY c;obtain⟨z,cs,t,m,j⟩:=C a rfl;obtain⟨b,u,n⟩:=a
  cases (show n=none from z)
  have D:=i.push (cs:=[]) j (λk v G=>by grind);refine⟨_,_,sA h.ax 0 0,D,i.le _,(Ok.refl i.wf).push _,?_,⟨λ_ l=>absurd l (by simp),.inr ⟨h.ax,0,_,t,0,0,ak,rfl,aw.mV _ _,by simp,λk r K=>by grind⟩⟩,λe=>by grind[Bg]⟩;exact cA.slice (sl:=N8 b cs.size t) (gR.fK _ _ _) rfl (λ_=>rfl) (λh=>by omega) (by omega) (.inr ⟨rfl,rfl⟩) (.inl rfl)
 ·obtain⟨d,g,J,M,L,I,H⟩:=i.ab7 (e:=e) s c o A y j B E
  grind[Bg]
section
variable {H:Type} {enc:aD×ah->H} {held:Bool}
theorem ZL{a:aF}(b:w.cell? a=aa v):a.spot=none/\∃cs t c,w.heap[a.block]?=aa (.cells cs t c)/\cs[a.off]?=aa v:=by
 unfold World.cell? at b;split at b
 all_goals simp_all
theorem pick{a:Type}{p:Nat->a->Prop}:∀n,(∀i,i<n->∃q,p i q)->∃l:List a,l.length=n/\∀i q,l[i]?=aa q->p i q
 |0,_=>⟨[],rfl,λi q b=>by grind⟩
 |n+1,c=>by
  obtain⟨l,d,f⟩:=pick n λi b=>c i (by omega);obtain⟨q,e⟩:=c n (by omega);refine⟨l++[q],by simp[d],λi x b=>?_⟩
  grind
theorem Ac{e:aD}{d:DataW H}{n:Nat}:∀{l:List (DataW H)},d∈l->n∈d.weights P e->n∈DataW.weightsAll P e l
 |[],h,_=>by cases h
 |x::l,h,a=>by
  rw[DataW.weightsAll,bH];rcases cO.1 h with rfl|h
  ·grind
  ·exact .inr (Ac h a)
theorem LJ{t:aD}(ht:P.underlying t=aa (.slice T))(l:P.cellsOf T=n)(C:0<n){p:List ah->Prop}
  (hp:∀x0 cs y,fF enc P w 0 (λ_=>af) held x0 T cs=aa y->(y.1.weights P T).all (· <=reachBytes)=af->p cs) {E:Nat} {cv:List ah} {x:DataW H×List MemPlace}
  (h:fF enc P w 0 (λ_=>af) held E t cv=aa x) (X:(x.1.weights P t).all (· <=reachBytes)=af):
  ∃v d,cv=[v]/\KU w v n d/\(∀r∈d,p r)/\d.length*P.bytesOf T<=reachBytes:=by
 rcases DataW.trod_slice ht h with⟨rfl,rfl⟩|⟨a,e,f,c,x1,x0,_,rfl,rfl,hb,x3,W,x5,N,G,_⟩
 ·exact⟨_,[],rfl,⟨λ_ g=>absurd g (by simp),.inl ⟨rfl,rfl⟩⟩,λ_ g=>absurd g (by simp),by simp⟩
 obtain⟨x6,G⟩:=G rfl;simp only[DataW.weights,ht,fR,bj,decide_eq_true_eq,gX,aG]at X;obtain⟨x4,q,x2⟩:=X;have K:f<ft:=by unfold maxLen at W;unfold ft;omega
 have M:∀i,i<e->∃r:List ah,(r.length=n/\p r)/\∀j,j<n->w.cell? (a.add (i*n+j))=r[j]?:=λi F=>by
  have S:=N i F;have V:c[i]?=aa c[i]:=gE (by omega);rw[V,l,Option.bind_eq_some_iff]at S;obtain⟨r,z,Z⟩:=S;obtain⟨_,h5,I⟩:=World.cells?_some z;refine⟨r,⟨h5,hp x0 r _ Z ?_⟩,λj J=>?_⟩
  ·rw[cw]at q⊢;exact λm g=>q m (Ac (dZ.2 ⟨c[i],aI V,rfl⟩) g)
  ·rw[<-I j J,Addr.add_add]
 obtain⟨d,Y,U⟩:=pick e M;have u:∀r∈d,r.length=n/\p r:=λr o=>by
  obtain⟨k,hk⟩:=List.mem_iff_getElem?.1 o;exact(U k r hk).1
 refine⟨_,d,rfl,⟨λr o=>(u r o).1,?_⟩,λr o=>(u r o).2,?_⟩
 ·rcases dB f with hz|hz
  ·obtain rfl:d=[]:=aY (by omega);have:e=0:=by omega
   subst this;subst hz;exact .inr (.inl ⟨a,rfl,rfl⟩)
  ·have h0:∃v,w.cell? a=aa v:=by
    have L:a.add (0*n)=a:=by rw[iE];unfold Addr.add;split<;>simp_all
    have fin:∀x,(w.cells? 0 (a.add (0*n)) n).bind (fF enc P w 0 (λ_=>af) held x0 T)=aa x->∃v,w.cell? a=aa v:=λx R=>by
     rw[Option.bind_eq_some_iff,L]at R;obtain⟨r,z,Z⟩:=R;obtain⟨_,h5,I⟩:=World.cells?_some z;have:=I 0 C;rw[show a.add 0=a by unfold Addr.add;split<;>simp_all,gE (by omega)]at this;exact⟨_,this⟩
    rcases dB e with A|A
    ·have:=G 0 (by omega);rw[A,l,gE (by omega)]at this;exact fin _ this
    ·have:=N 0 A;rw[l,gE (by omega)]at this;exact fin _ this
   obtain⟨v0,Q⟩:=h0;obtain⟨hs,cs,tt,fr,s,B⟩:=ZL Q;obtain⟨b,O,D⟩:=a
   cases (show D=none from hs)
   have ho:=(Array.getElem?_eq_some_iff.1 B).1;refine .inr (.inr ⟨b,O,f,cs,tt,fr,by rw[Y],by omega,K,s,Nat.le_of_lt ho,λi r F j J=>?_⟩);have:=(U i r F).2 j J;rw[gH,tx s]at this;exact this
 grind
end
end
end Go.Ab
end
section
namespace Go.Ab
open Go Go.RowKit Go.WideShapes Go.ChangeShapes
variable{F:Func}{W:aU}{V:Array ah}{v:ah}
section
section
variable {H:Type} {enc:aD×ah->H} {P:aO}
theorem aaH{s:ChangeSpec}{f o g k:Bool}{e:aU}{ds:List (DataW H)}{places:List MemPlace}
  (m:s.vars=[]) (y:DataW.Whole enc P F.params.toList s.vars f W V.toList ds [] places) (A:Below W.heap.size W e)
  (l:(s.fn H (ds++[])).args=ds) (z:(s.fn H (ds++[])).vars=[])
  (i:∀(b:Nat)(a:Nat->Bool)(E:Bool),DataW.TrodAll enc P e b a E F.resultTypes.toList (v.resultList F.resultTypes.size) (s.fn H (ds++[])).results [])
  (B:∀(j:Nat)(t:aD)(r:ah),F.resultTypes[j]?=aa t->(v.resultList F.resultTypes.size)[j]?=aa r->Value.okWide P e .any 0 t r)
  (q:∀a:Nat->Bool,(∀p∈places,a p.block=af)->DataW.TrodAll enc P e 0 a af F.params.toList V.toList ds places):s.post enc P F f o g k W V v e:=by
 have u:∀p∈places,p.block<W.heap.size:=λp c=>y.lt p c;have n:∀p∈places,(λb=>decide (b<W.heap.size)) p.block=af:=λp c=>eT (u p c);have x:∀a:Nat->Bool,DataW.TrodVars enc P e a s.vars (s.fn H (ds++[])).vars []:=λa=>by
  rw[m,z];rfl
 have C:=World.keptBut_mono (may':=λp=>p∈places/\(p∈([]:List MemPlace)\/p∈places\/p∈([]:List MemPlace))) (λp c=>⟨c,.inr (.inl c)⟩) (A.frame (· ∈places));obtain⟨_,_,_,_,_,D,G⟩:=id y;have d:∀a:Nat->Bool,(∀p∈places,a p.block=af)->DataW.TrodAll enc P e 0 a af F.params.toList V.toList (s.fn H (ds++[])).args places:=λa h=>by rw[l];exact q a h
 refine⟨ds,[],places,[],places,[],y,i _ _ _,d _ n,x _,C,λ_=>⟨B,_,_,([]++places)++[],⟨[]++places,[],trodAll_append (d _ λ_ _=>rfl) (i _ _ _),x _,rfl,?_,?_⟩,?_⟩⟩
 ·intro b w c;have c:MemPlace.cell b w∈places:=by simpa using c
  rw[A.frozen (u _ c)];exact D b w c
 all_goals grind
end
end
end Go.Ab
end
section
namespace Go.Num
variable{n:Nat}{m:Nat}{k:Nat}
def ey(c:UInt8):Bool:=decide (48<=c.toNat)&&decide (c.toNat<=57)
def nO(c:UInt8):Nat:=c.toNat-48
def val(l:List UInt8):Nat:=l.foldl (λn c=>10*n+nO c) 0
def jG(n:Nat):UInt8:=UInt8.ofNat (48+n)
theorem oH:val []=0:=rfl
theorem mD(l:List UInt8)(c:UInt8):val (l++[c])=10*val l+nO c:=by simp[val,List.foldl_append]
theorem nR(h:n<10):(jG n).toNat=48+n:=by grind[UInt8.toNat_ofNat',jG]
theorem Hx(h:n<10):nO (jG n)=n:=by grind[nR,nO]
theorem yJ(h:n<10):ey (jG n)=af:=by grind[nR,ey]
theorem qa{c:UInt8}:ey c=af↔48<=c.toNat/\c.toNat<=57:=by simp[ey]
theorem wA{c:UInt8}(h:ey c=af):nO c<10:=by grind[qa,nO]
theorem Cv{c:UInt8}(h:ey c=af):jG (nO c)=c:=by grind[qa,fQ,nR,nO]
theorem qb{α:Type}{P:List α->Prop}(h0:P [])(h1:∀l a,P l->P (l++[a]))(l:List α):P l:=by
 have:∀n (l:List α),l.length=n->P l:=by
  intro n
  induction n with
  |zero=>intro l hl;rw[aY hl];exact h0
  |succ n ih=>
   intro l hl;have hne:l≠[]:=by intro e;subst e;simp at hl
   rw[<-List.dropLast_concat_getLast hne];exact h1 _ _ (ih _ (by simp[hl]))
 grind
theorem oF(a b:List UInt8):val (a++b)=val a*10^b.length+val b:=by
 induction b using qb with
 |h0=>simp[oH]
 |h1 b c d=>grind[jh,dh,val]
theorem HA{l:List UInt8}(h:l.all ey=af):val l<10^l.length:=by
 induction l using qb with
 |h0=>simp[oH]
 |h1 l c a=>
  simp only[gX,fR,all_nil,Bool.and_true,bj]at h
  grind[wA,mD]
def bp(n:Nat):List UInt8:=if n<10 then[jG n]else bp (n/10)++[jG (n%10)]
termination_by n
decreasing_by omega
theorem hE(h:n<10):bp n=[jG n]:=by rw[bp,iP h]
theorem nQ(h:10<=n):bp n=bp (n/10)++[jG (n%10)]:=by rw[bp,iN (by omega)]
theorem wD(a:0<n)(b:m<10):bp (10*n+m)=bp n++[jG m]:=by grind[nQ]
theorem ff(n:Nat):val (bp n)=n:=by
 induction n using fB with
 |ind n a=>grind[hE,mD,Hx,oH,nQ]
theorem yM(h:bp n=bp m):n=m:=by grind[ff]
theorem BD(n:Nat):bp n≠[]:=by
 by_cases h:n<10
 ·grind[hE]
 ·rw[nQ (by omega)];simp
theorem sX(n:Nat):0<(bp n).length:=fL.2 (BD n)
theorem gi(n:Nat):(bp n).all ey=af:=by
 induction n using fB with
 |ind n a=>grind[hE,yJ,nQ]
theorem ub(n:Nat):n<10^(bp n).length:=by grind[HA,gi,ff]
theorem Hz(h:10<=n):10^((bp n).length-1)<=n:=by
 induction n using fB with
 | ind n a=>
  rw[nQ h,bg,bw];by_cases c:n/10<10
  ·grind[hE]
  ·have d:=a (n/10) (by omega) (by omega);have b:=sX (n/10);obtain⟨k,e⟩:∃k,(bp (n/10)).length=k+1:=⟨(bp (n/10)).length-1,by omega⟩
   grind
theorem js(e:0<k):(bp n).length<=k↔n<10^k:=by
 constructor
 ·grind[cz,ub,dG]
 ·intro h;by_cases b:n<10
  ·grind[hE]
  ·have d:=Hz (n:=n) (by omega);rcases de k (bp n).length with a|a
   ·have c:10^k<=10^((bp n).length-1):=dG (by omega) (by omega);omega
   omega
def GS(l:List UInt8):Prop:=l≠[]/\l.all ey=af/\(1<l.length->l.head?≠aa 48)
theorem VX{l:List UInt8}(a:l.all ey=af)(h0:l≠[])(h:l.head?≠aa 48):0<val l:=by
 induction l using qb with
 |h0=>grind
 | h1 l c d=>
  simp only[gX,fR,all_nil,Bool.and_true,bj]at a;rw[mD];by_cases b:l=[]
  ·subst b;have f:c≠48:=by intro e;subst e;simp at h
   have i:=qa.1 a.2;have g:c.toNat≠48:=λe=>f (by apply fQ.1;rw[e];rfl)
   grind[nO]
  ·have:=d a.1 b (by grind);omega
theorem yN{l:List UInt8}(h:GS l):bp (val l)=l:=by
 induction l using qb with
 |h0=>exact absurd rfl h.1
 | h1 l c f=>
  obtain⟨_,b,g⟩:=h;simp only[gX,fR,all_nil,Bool.and_true,bj]at b;rw[mD];by_cases d:l=[]
  ·grind[oH,hE,wA,Cv]
  ·have e:l.head?≠aa 48:=by
    have:=g (by grind[fL])
    cases l with
    |nil=>grind
    |cons a l=>grind
   have i:=VX b.1 d e;rw[wD i (wA b.2),f ⟨d,b.1,λ_=>e⟩,Cv b.2]
theorem JV(n:Nat):GS (bp n):=by
 refine⟨BD n,gi n,?_⟩
 induction n using fB with
 | ind n d=>
  intro c;by_cases h:n<10
  ·grind[hE]
  ·rw[nQ (by omega)];by_cases a:n/10<10
   ·rw[hE a];simp only[dQ,List.head?_cons,ne_eq,bc];intro e;have:=congrArg UInt8.toNat e;rw[nR a]at this;have b:(48:UInt8).toNat=48:=rfl;omega
   grind[bp]
def valid(l:List UInt8):Bool:= !l.isEmpty&&decide (l.length<=1000) && !(decide (1<l.length)&&l.head? == aa 48)&&l.all ey
theorem mj{l:List UInt8}:valid l=af↔GS l/\l.length<=1000:=by
 unfold valid GS
 grind
theorem rV:valid (bp n)=af↔n<10^1000:=by grind[mj,js,JV]
theorem hH{l:List UInt8}(h:valid l=af):∃n,l=bp n/\n<10^1000/\val l=n:=by grind[mj,yN,rV]
def bv(b:Nat):List Nat->Nat
 |[]=>0
 |d::l=>d+b*bv b l
theorem kQ(b:Nat):∀x y:List Nat,bv b (x++y)=bv b x+b^x.length*bv b y
 |[],y=>by simp[bv]
 |d::x,y=>by
  simp only[dQ,bv,kQ b x y,bP,gb]
  grind
theorem vK(b:Nat)(x:List Nat)(d:Nat):bv b (x++[d])=bv b x+b^x.length*d:=by grind[kQ,bv]
theorem jH{b:Nat}:∀{x:List Nat},(∀d∈x,d<b)->bv b x<b^x.length
 |[],_=>by simp[bv]
 | d::x,h=>by
  have a:=jH (b:=b) (x:=x) λe c=>h e (by simp[c]);have f:=h d (by simp);simp only[bv,bP,gb];have:b*bv b x+b<=b*b^x.length:=by
   have:=fi b (iS a);rw[oN]at this;exact this
  grind
def cT(b n:Nat):List Nat:=if h:1<b/\0<n then n%b::cT b (n/b)else[]
termination_by n
decreasing_by exact qv h.2 h.1
theorem jZ(b:Nat):cT b 0=[]:=by simp_all[cT]
theorem rA{b:Nat}(a:1<b)(c:0<n):cT b n=n%b::cT b (n/b):=by rw[cT,dif_pos ⟨a,c⟩]
theorem fb{b:Nat}(a:1<b)(n:Nat):bv b (cT b n)=n:=by
 induction n using fB with
 |ind n c=>
  rcases dB n with rfl|hn
  all_goals grind[jZ,rA,qv,kf,bv]
theorem gh{b:Nat}(a:1<b)(n:Nat):∀d∈cT b n,d<b:=by
 induction n using fB with
 |ind n c=>grind[dB,jZ,rA,dP,qv]
def RJ(b:Nat)(l:List Nat):Prop:=(∀d∈l,d<b)/\l.getLast?≠aa 0
theorem RT{b:Nat}(a:1<b)(n:Nat):RJ b (cT b n):=by
 refine⟨gh a n,?_⟩
 induction n using fB with
 | ind n d=>
  rcases dB n with rfl|hn
  ·grind[jZ]
  ·rw[rA a hn];by_cases c:n/b=0
   ·rw[c,jZ];have:n<b:=by
     rcases de n b with h|h
     ·exact h
     ·have:=Nat.div_pos h (by omega);omega
    simp[eG this];omega
   grind[qv,rA]
theorem OM{b:Nat}(g:1<b):∀{l:List Nat},RJ b l->cT b (bv b l)=l
 |[],_=>jZ b
 | d::l,h=>by
  have j:d<b:=h.1 d (by simp);have m:0<bv b (d::l):=by
   have i:∀l:List Nat,l≠[]->l.getLast?≠aa 0->0<bv b l:=by
    intro l
    induction l with
    |nil=>grind
    |cons a l k=>
     intro _ n;by_cases f:l=[]
     ·grind[bv]
     ·have:0<bv b l:=k f (by grind);simp only[bv];have:=Nat.mul_pos (show 0<b by omega) this;omega
   exact i _ (by simp) h.2
  have f:RJ b l:=⟨λe o=>h.1 e (by grind),by
   intro e
   cases l with
   |nil=>grind
   |cons c l=>exact h.2 (by grind)⟩
  rw[rA g m];simp only[bv];rw[show(d+b*bv b l)%b=d by rw[Nat.add_mul_mod_self_left,eG j],show(d+b*bv b l)/b=bv b l by rw[Nat.add_mul_div_left _ _ (by omega),ke j,bO],OM g f]
def gV(l:List Nat):List Nat:=(l.reverse.dropWhile (· == 0)).reverse
theorem OP:gV []=[]:=rfl
theorem np(l:List Nat):gV (l++[0])=gV l:=by simp[gV]
theorem oD(l:List Nat){d:Nat}(h:d≠0):gV (l++[d])=l++[d]:=by simp[gV,h]
theorem pO{b:Nat}(c:1<b){l:List Nat}(h:∀d∈l,d<b):gV l=cT b (bv b l):=by
 induction l using qb with
 |h0=>rw[OP];exact(jZ b).symm
 | h1 l d e=>
  by_cases a:d=0
  ·subst a
   grind[np,vK]
  ·rw[oD l a,OM c];exact⟨h,by grind⟩
theorem mC{b:Nat}(a:1<b):cT b n=[]↔n=0:=by
 constructor
 ·intro h;have:=fb a n;rw[h]at this;exact this.symm
 simp_all[jZ]
theorem qn{b:Nat}(a:1<b){n k:Nat}(h:n<b^k):(cT b n).length<=k:=by
 induction k generalizing n with
 |zero=>rw[Nat.pow_zero]at h;grind[jZ]
 |succ k c=>grind[rA,eJ]
theorem xZ{b:Nat}(c:1<b){n:Nat}(d:0<n):b^((cT b n).length-1)<=n:=by
 induction n using fB with
 | ind n f=>
  rw[rA c d,bP,Nat.add_sub_cancel];by_cases e:n/b=0
  ·rw[e,jZ];simp;omega
  ·have a:=f (n/b) (qv d c) (Nat.pos_of_ne_zero e);have i:0<(cT b (n/b)).length:=fL.2 (by simp_all[mC]);obtain⟨k,g⟩:∃k,(cT b (n/b)).length=k+1:=⟨(cT b (n/b)).length-1,by omega⟩
   rw[g]at a⊢;rw[Nat.add_sub_cancel]at a;rw[gb];have h:=bJ b a;have j:=Nat.div_mul_le_self n b;omega
variable{x:List Nat}{i:Nat}{j:Nat}{l:Nat}
theorem kN(b:Nat)(x:List Nat)(i:Nat):bv b (x.drop i)=x.getD i 0+b*bv b (x.drop (i+1)):=by grind[db,cU,bv]
theorem cW{b:Nat}(c:0<b)(h:∀d∈x,d<b)(i:Nat):x.getD i 0<b:=by
 rw[gD]
 cases a:x[i]? with
 |none=>grind
 |some d=>exact h d (aI a)
def dy(F:Nat->Nat->Nat->Nat×Nat)(x y:List Nat):Nat->Nat->Nat->List Nat
 |_,0,_=>[]
 |i,k+1,c=>(F (x.getD i 0) (y.getD i 0) c).1::dy F x y (i+1) k (F (x.getD i 0) (y.getD i 0) c).2
theorem nP{b:Nat}{F:Nat->Nat->Nat->Nat×Nat}(h:∀p q c,(F p q c).1<b)(x y:List Nat):∀k i c,∀d∈dy F x y i k c,d<b
 |0,_,_=>by simp[dy]
 |k+1,i,c=>by
  intro d a;rcases cO.1 a with rfl|a
  ·grind
  ·exact nP h x y k _ _ d a
def cP(b:Nat)(p q c:Nat):Nat×Nat:=((p+q+c)%b,(p+q+c)/b)
theorem Ej{b:Nat}(l:1<b){x y:List Nat}(e:∀d∈x,d<b)(g:∀d∈y,d<b):∀k i c,x.length<i+k->y.length<i+k->c<=1->0<k->
  bv b (dy (cP b) x y i k c)=bv b (x.drop i)+bv b (y.drop i)+c:=by
 intro k
 induction k with
 |zero=>omega
 | succ k o=>
  intro i c n p s _;have q:=cW (by omega) e i;have j:=cW (by omega) g i;rw[kN b x i,kN b y i];simp only[dy,bv];have m:=kf (x.getD i 0+y.getD i 0+c) b;have h:(cP b (x.getD i 0) (y.getD i 0) c).2<=1:=by
   show(x.getD i 0+y.getD i 0+c)/b<=1;have:(x.getD i 0+y.getD i 0+c)/b<2:=eJ (by omega);omega
  rcases dB k with rfl|r
  ·rw[cU (show x.length<=i+1 by omega),cU (show y.length<=i+1 by omega)];have a:x.getD i 0=0:=by rw[gD,getElem?_eq_none (by omega)];rfl
   have f:y.getD i 0=0:=by rw[gD,getElem?_eq_none (by omega)];rfl
   simp only[dy,bv,cP,a,f,bO,iD,fh];exact eG (by omega)
  grind[cP]
def fI(b m:Nat)(p a c:Nat):Nat×Nat:=((p*m+c)%b,(p*m+c)/b)
theorem RO{b:Nat}(l:1<b)(m:n<=b)(g:0<n){x y:List Nat}(e:∀d∈x,d<b):∀k i c,x.length<i+k->c<n->0<k->
  bv b (dy (fI b n) x y i k c)=bv b (x.drop i)*n+c:=by
 intro k
 induction k with
 |zero=>omega
 | succ k p=>
  intro i c o r _;have f:=cW (by omega) e i;rw[kN b x i];simp only[dy,bv];have h:=kf (x.getD i 0*n+c) b;have j:(fI b n (x.getD i 0) (y.getD i 0) c).2<n:=by
   show(x.getD i 0*n+c)/b<n;refine eJ ?_;have:x.getD i 0*n+n<=b*n:=by
    have:=bJ n (iS f);rw[succ_mul]at this;exact this
   omega
  rcases dB k with rfl|q
  ·rw[cU (show x.length<=i+1 by omega)];have a:x.getD i 0=0:=by rw[gD,getElem?_eq_none (by omega)];rfl
   simp only[dy,bv,fI,a,iE,bO,iD,fh];exact eG (by omega)
  grind[fI]
def ef(b:Nat)(p q c:Nat):Nat×Nat:=((p+b-q-c)%b,1-(p+b-q-c)/b)
theorem tp{b p q c:Nat}(a:1<b)(f:p<b)(d:q<b)(g:c<=1):p+b*(ef b p q c).2=(ef b p q c).1+q+c/\(ef b p q c).2<=1:=by
 unfold ef;dsimp only;rcases de (p+b-q-c) b with h|h
 ·grind[ke,eG]
 ·have e:(p+b-q-c)/b=1:=by
   refine Nat.le_antisymm ?_ ((Nat.le_div_iff_mul_le (by omega)).2 (by omega));have:(p+b-q-c)/b<2:=eJ (by omega);omega
  grind[kf]
theorem Hy{b:Nat}(e:1<b){x y:List Nat}(j:∀d∈x,d<b)(n:∀d∈y,d<b):∀k i c,x.length<=i+k->y.length<=i+k->c<=1->bv b (y.drop i)+c<=bv b (x.drop i)->
  bv b (dy (ef b) x y i k c)+bv b (y.drop i)+c=bv b (x.drop i):=by
 intro k
 induction k with
 |zero=>grind[cU,bv,dy]
 | succ k r=>
  intro i c q s m h;have l:=cW (by omega) j i;have a:=cW (by omega) n i;obtain⟨u,t⟩:=tp e l a m;rw[kN b x i,kN b y i]at h⊢;simp only[dy,bv];have o:(ef b (x.getD i 0) (y.getD i 0) c).1<b:=dP _ (by omega);have p:bv b (y.drop (i+1))+(ef b (x.getD i 0) (y.getD i 0) c).2<=bv b (x.drop (i+1)):=by
   rcases de (bv b (x.drop (i+1))) (bv b (y.drop (i+1))+(ef b (x.getD i 0) (y.getD i 0) c).2)with g|g
   ·have f:=fi b (iS g);rw[oN,kX]at f;omega
   ·exact g
  grind
theorem OO{q a U V b c:Nat}(t:U=(a*n+l)*n^m+b)(p:b<n^m)(d:V=(k*n+i)*n^m+c)(o:q*k+j=a)(h:j*n+l<q*i):U<q*V:=by
 have f:a*n+l+1<=q*(k*n+i):=by
  have e:q*(k*n+i)=q*k*n+q*i:=by rw[kX,jh]
  have s:a*n=q*k*n+j*n:=by rw[<-o,cM]
  omega
 have g:=bJ (n^m) f;rw[cM,dw]at g;have r:q*V=q*(k*n+i)*n^m+q*c:=by rw[d,kX,jh]
 omega
theorem Ms{q a U V f b:Nat}(y:U=(a*n+l)*n^m+f)(g:V=(k*n+i)*n^m+b)(c:b<n^m)(r:q*k+j=a)(p:q<n)(d:0<k)(h:q*i<=j*n+l):q*V<U+V:=by
 have o:q*(k*n+i)<=a*n+l:=by
  have e:q*(k*n+i)=q*k*n+q*i:=by rw[kX,jh]
  have v:a*n=q*k*n+j*n:=by rw[<-r,cM]
  omega
 have t:=bJ (n^m) o;have s:q*V=q*(k*n+i)*n^m+q*b:=by rw[g,kX,jh]
 have u:q*b<=q*n^m:=fi q (Nat.le_of_lt c);have x:q*n^m+n^m<=n*n^m:=by
  have:=bJ (n^m) (iS p);rw[succ_mul]at this;exact this
 have w:n*n^m<=k*n*n^m:=by
  have:=bJ (n*n^m) (iS d);rw[Nat.succ_eq_add_one,bO,dw,<-jh]at this;exact this
 grind
def pg(B q u v b a:Nat):Nat×Nat×Nat:=((u+B-(q*v+a)%B-b)%B,1-(u+B-(q*v+a)%B-b)/B,(q*v+a)/B)
theorem RQ{B q u v borrow carry:Nat}(d:1<B)(e:u<B)(a:borrow<=1):
  u+B*((pg B q u v borrow carry).2.1+(pg B q u v borrow carry).2.2)=(pg B q u v borrow carry).1+q*v+(borrow+carry)/\(pg B q u v borrow carry).2.1<=1/\(pg B q u v borrow carry).1<B:=by
 have f:=dP (q*v+carry) (show 0<B by omega);have g:=kf (q*v+carry) B;have h:=tp (b:=B) (p:=u) (q:=(q*v+carry)%B) (c:=borrow) d e f a;unfold ef at h;dsimp only at h;unfold pg;dsimp only;refine⟨?_,h.2,dP _ (by omega)⟩
 grind
variable{y:List Nat}
def iU(m n:Nat):Int:=if m<n then -1 else if m=n then 0 else 1
theorem p8(h:n<m):iU n m = -1:=iP h
theorem pZ(h:m<n):iU n m=1:=by unfold iU;omega
theorem vL(m:Nat):iU m m=0:=by simp_all[iU]
theorem By:iU n m<0↔n<m:=by grind[iU]
theorem KM:iU n m>=0↔m<=n:=by grind[iU]
theorem qq(h:(bp n).length<(bp m).length):n<m:=by grind[de,js,ub]
theorem uc{a b:List UInt8}(y:b.all ey=af)(f:a.all ey=af)(k:a.length=b.length){i:Nat}{c d:UInt8}(n:a.take i=b.take i)(w:a[i]?=aa c)(u:b[i]?=aa d)(o:c<d):val a<val b:=by
 obtain⟨e,rfl⟩:=List.getElem?_eq_some_iff.1 w;obtain⟨l,rfl⟩:=List.getElem?_eq_some_iff.1 u;have z:a=a.take i++(a[i]::a.drop (i+1)):=by rw[<-db e,ej]
 have B:b=a.take i++(b[i]::b.drop (i+1)):=by rw[n,<-db l,ej]
 have v:val a=val (a.take i)*10^(a.drop i).length+val (a.drop i):=by rw[<-oF,ej]
 have r:val b=val (a.take i)*10^(b.drop i).length+val (b.drop i):=by rw[n,<-oF,ej]
 have q:val (a.drop i)=nO a[i]*10^(a.drop (i+1)).length+val (a.drop (i+1)):=by
  rw[db e,<-List.singleton_append,oF];simp[val]
 have s:val (b.drop i)=nO b[i]*10^(b.drop (i+1)).length+val (b.drop (i+1)):=by
  rw[db l,<-List.singleton_append,oF];simp[val]
 have j:(a.drop (i+1)).all ey=af:=by
  rw[cw]at f⊢;exact λx t=>f x (List.mem_of_mem_drop t)
 have h:=HA j;have g:nO a[i]+1<=nO b[i]:=by
  have C:=qa.1 (cw.1 f _ (List.getElem_mem e));have A:=UInt8.lt_iff_toNat_lt.1 o;unfold nO;omega
 have p:(a.drop i).length=(b.drop i).length:=by simp[k]
 have m:(a.drop (i+1)).length=(b.drop (i+1)).length:=by simp[k]
 rw[v,r,q,s,p,<-m];rw[m]at h⊢;have D:=bJ (10^(b.drop (i+1)).length) g
 grind
def jI(l:List UInt8):List Nat:=l.reverse.map nO
theorem pN(l:List UInt8):(jI l).length=l.length:=by simp[jI]
theorem rz{l:List UInt8}(h:l.all ey=af):∀d∈jI l,d<10:=by simp_all[wA,jI]
theorem kM(l:List UInt8):bv 10 (jI l)=val l:=by
 induction l using qb with
 |h0=>rfl
 |h1 l c a=>grind[mD,jI,bv]
def yO(l:List Nat):List UInt8:=l.reverse.map jG
theorem KR(l:List Nat):(yO l).length=l.length:=by simp[yO]
theorem VY{l:List Nat}(h:∀d∈l,d<10):val (yO l)=bv 10 l:=by
 induction l with
 |nil=>rfl
 |cons d l a=>grind[mD,Hx,yO,bv]
theorem VV{l:List Nat}(h:∀d∈l,d<10):(yO l).all ey=af:=by simp_all[yJ,yO]
theorem VW{l:List Nat}(h:∀d∈l,d<10)(f:l≠[])(g:1<l.length->l.getLast?≠aa 0):yO l=bp (bv 10 l):=by
 rw[<-VY h];refine(yN ⟨λe=>f ?_,VV h,λa=>?_⟩).symm
 ·have:=congrArg List.length e
  grind[KR]
 ·rw[KR]at a;have b:=g a;rw[yO,List.head?_map,List.head?_reverse]
  cases c:l.getLast? with
  |none=>simp
  |some d=>
   rw[c]at b;have i:=h d (List.mem_of_getLast? c);simp only[fP,ne_eq,bc]at b⊢;intro e;have:=congrArg UInt8.toNat e
   grind[nR]
theorem Hv{l:List Nat}(h:∀i,n<=i->l.getD i 0=0):bv 10 (l.take n)=bv 10 l:=by
 induction n generalizing l with
 | zero=>
  have:∀l:List Nat,(∀i,0<=i->l.getD i 0=0)->bv 10 l=0:=by
   intro l
   induction l with
   |nil=>intro _;rfl
   |cons a l b=>
    intro h;have c:=h 0 (by omega);rw[bv,b (λi _=>by have:=h (i+1) (by omega);simpa using this)];simpa using c
  grind
 | succ n b=>
  cases l with
  |nil=>rfl
  |cons a l=>
   simp only[List.take_succ_cons,bv];rw[b (λi d=>by have:=h (i+1) (by omega);grind)]
def jA(p q c:Nat):Nat×Nat:=if p<q+c then(p+10-q-c,1)else(p-q-c,0)
theorem RN{p q c:Nat}(b:p<10)(a:q<10)(d:c<=1):jA p q c=ef 10 p q c:=by grind[jA,ef]
theorem wB{x y:List Nat}(a:∀d∈x,d<10)(b:∀d∈y,d<10):∀k i c,c<=1->dy jA x y i k c=dy (ef 10) x y i k c
 |0,_,_,_=>rfl
 |k+1,i,c,e=>by
  have f:=RN (cW (by omega) a i) (cW (by omega) b i) e;simp only[dy];rw[f,wB a b k (i+1) _ (tp (by omega) (cW (by omega) a i) (cW (by omega) b i) e).2]
theorem KN(a:∀d∈x,d<10)(c:∀d∈y,d<10)(e:y.length<=x.length)(h:bv 10 y<=bv 10 x):bv 10 (dy jA x y 0 x.length 0)=bv 10 x-bv 10 y:=by
 rw[wB a c _ _ _ (by omega)];have:=Hy (b:=10) (by omega) a c x.length 0 0 (by omega) (by omega) (by omega) (by simpa using h)
 grind
theorem jq(F:Nat->Nat->Nat->Nat×Nat)(x y:List Nat):∀k i c,(dy F x y i k c).length=k
 |0,_,_=>rfl
 |k+1,i,c=>by simp[dy,jq F x y k]
theorem KO(a:∀d∈x,d<10)(e:∀d∈y,d<10)(k i c:Nat)(b:c<=1):∀d∈dy jA x y i k c,d<10:=by
 rw[wB a e _ _ _ b];exact nP (λp q c=>dP _ (by omega)) x y k i c
theorem tq:bp 0=[48]:=by rw[hE (by omega)];rfl
theorem ON:bp 1=[49]:=by rw[hE (by omega)];rfl
theorem gU:bp n=[48]↔n=0:=by grind[tq,yM]
theorem qp:bp n=[49]↔n=1:=by grind[ON,yM]
theorem Mr{r:Nat}{c:UInt8}(a:ey c=af):(if bp r=[48]then[c]else bp r++[c])=bp (10*r+nO c):=by
 have b:=wA a;by_cases h:r=0
 ·subst h;rw[iP tq,iD,bO,hE b,Cv a]
 ·rw[iN (λe=>h (gU.1 e)),wD (by omega) b,Cv a]
theorem ye{l:List UInt8}{c:UInt8}(h:l[i]?=aa c):val (l.take (i+1))=10*val (l.take i)+nO c:=by grind[eQ,mD]
theorem OH{V d:Nat}(b:0<n)(g:k*n<=10*(V%n)+d)(c:10*(V%n)+d<(k+1)*n):(10*V+d)/n=10*(V/n)+k/\(10*V+d)%n=10*(V%n)+d-k*n:=by
 have e:=kf V n;have f:10*V+d=n*(10*(V/n)+k)+(10*(V%n)+d-k*n):=by
  have h:n*(10*(V/n)+k)=10*(n*(V/n))+k*n:=by rw[kX,Nat.mul_left_comm,dh n k]
  omega
 have a:10*(V%n)+d-k*n<n:=by rw[cM,dw]at c;omega
 rw[f];constructor
 ·rw[Nat.mul_add_div b,ke a];rfl
 ·rw[Nat.mul_add_mod,eG a]
theorem OG(a:0<m)(c:i<10)(b:k*m<=10*(n%m)+i):k<10:=by
 have:=dP n a;rcases de k 10 with h|h
 ·exact h
 ·have:=bJ m h;omega
theorem OQ{l:List UInt8}(h:∀c∈l,c=48):val l=0:=by
 induction l using qb with
 |h0=>rfl
 |h1 l c a=>
  rw[mD,a (λx b=>h x (by grind)),h c (by simp)];rfl
theorem OK{l:List UInt8}(n:l.all ey=af)(m:k<l.length)(d:∀i,i<k->l[i]?=aa 48)(j:k+1<l.length->l[k]?≠aa 48):l.drop k=bp (val l):=by
 have b:val l=val (l.drop k):=by
  have:=oF (l.take k) (l.drop k);rw[ej]at this;rw[this,OQ (λc f=>by
   obtain⟨i,a⟩:=getElem?_of_mem f;rw[getElem?_take]at a;split at a
   ·next h=>rw[d i h]at a;exact(aC a).symm
   ·cases a),iE,bO]
 rw[b];refine(yN ⟨λe=>?_,?_,λg=>?_⟩).symm
 ·have:=congrArg List.length e;simp at this;omega
 all_goals grind[List.head?_drop]
theorem RL(m n:Nat):Nat.gcd m n=Nat.gcd n (m%n):=by grind[Nat.gcd_comm,Nat.gcd_rec]
def eh(B q:Nat)(u v:List Nat):Nat->Nat->Nat->Nat->List Nat×Nat×Nat
 |_,0,b,c=>([],b,c)
 |i,k+1,b,c=>
  let s:=pg B q (u.getD i 0) (v.getD i 0) b c
  let r:=eh B q u v (i+1) k s.2.1 s.2.2
  (s.1::r.1,r.2)
theorem wC(B q:Nat)(u v:List Nat):∀k i b c,(eh B q u v i k b c).1.length=k
 |0,_,_,_=>rfl
 |k+1,i,b,c=>by simp[eh,wC B q u v k]
theorem Af{B q:Nat}(e:1<B)(u v:List Nat):∀k i b c,∀d∈(eh B q u v i k b c).1,d<B
 |0,_,_,_=>by simp[eh]
 |k+1,i,b,c=>by
  intro d a;simp only[eh]at a;rcases cO.1 a with rfl|a
  ·exact dP _ (by omega)
  ·exact Af e u v k _ _ _ d a
theorem yE(b:Nat)(x:List Nat)(i k:Nat):bv b ((x.drop i).take (k+1))=x.getD i 0+b*bv b ((x.drop (i+1)).take k):=by grind[db,cU,bv]
theorem Ek{B q:Nat}(e:1<B){u v:List Nat}(f:∀d∈u,d<B):∀k i b c,b<=1->
  bv B ((u.drop i).take k)+B^k*((eh B q u v i k b c).2.1+(eh B q u v i k b c).2.2)=bv B (eh B q u v i k b c).1+q*bv B ((v.drop i).take k)+(b+c)/\(eh B q u v i k b c).2.1<=1
 |0,i,b,c,a=>by grind[eh,bv]
 |k+1,i,b,c,a=>by
  obtain⟨m,g,j⟩:=RQ (B:=B) (q:=q) (u:=u.getD i 0) (v:=v.getD i 0) (borrow:=b) (carry:=c) e (cW (by omega) f i) a;obtain⟨l,h⟩:=Ek e (q:=q) (v:=v) f k (i+1) _ (pg B q (u.getD i 0) (v.getD i 0) b c).2.2 g;rw[yE,yE];simp only[eh,bv]
  grind
theorem Gk{l:List Nat}(h:l.length=m):bv n (l.take m)=bv n l:=by grind
theorem OF{q:Nat}(f:1<n){u v:List Nat}{a:Nat}(g:∀d∈u,d<n)(c:u.length=a+1)(j:v.length=a):
  (eh n q u v 0 (a+1) 0 0).2.2=0->((eh n q u v 0 (a+1) 0 0).2.1=0->bv n u=bv n (eh n q u v 0 (a+1) 0 0).1+q*bv n v)/\
  ((eh n q u v 0 (a+1) 0 0).2.1≠0->bv n u+n^(a+1)=bv n (eh n q u v 0 (a+1) 0 0).1+q*bv n v/\bv n u<q*bv n v):=by
 intro i;obtain⟨e,k⟩:=Ek f (q:=q) (v:=v) g (a+1) 0 0 0 (by omega);rw[bV,bV,Gk c,bm (by omega:v.length<=a+1),i]at e;refine⟨λh=>?_,λh=>?_⟩
 ·grind
 ·have b:(eh n q u v 0 (a+1) 0 0).2.1=1:=by omega
  rw[b,df]at e
  grind[jH,Af,wC]
theorem CA{B q:Nat}(e:1<B){u v:List Nat}(g:q<B)(a:∀d∈v,d<B):∀k i b c,c<B->v.length<=i+k->0<k->v.length<i+k->(eh B q u v i k b c).2.2=0
 |0,_,_,_,_,_,h,_=>by omega
 |1,i,b,c,j,_,_,f=>by
  simp only[eh,pg];have:v.getD i 0=0:=by rw[gD,getElem?_eq_none (by omega)];rfl
  simp_all
 | k+2,i,b,c,j,_,_,f=>by
  have m:=cW (by omega) a i;simp only[eh];have:=CA e (u:=u) g a (k+1) (i+1) (pg B q (u.getD i 0) (v.getD i 0) b c).2.1 (pg B q (u.getD i 0) (v.getD i 0) b c).2.2 (by
   show(q*v.getD i 0+c)/B<B;refine eJ ?_;have l:q*v.getD i 0<=(B-1)*(B-1):=dC (by omega) (by omega);have n:(B-1)*(B-1)+(B-1)=(B-1)*B:=by rw[<-oN];congr 1;omega
   have o:(B-1)*B+B=B*B:=by rw[<-succ_mul];congr 1;omega
   omega) (by omega) (by omega) (by omega)
  grind[eh]
theorem RK(s:1<n){u v:List Nat}{a Q V U:Nat}(m:∀d∈u,d<n)(l:∀d∈v,d<n)(r:u.length=a+1)(o:v.length=a)(w:U+n^(a+1)=bv n u+(Q+1)*V)(B:U<(Q+1)*V)(t:(Q+1)*V<U+V)(E:V=bv n v):
  bv n ((dy (cP n) u v 0 (a+1) 0))+Q*V=U:=by
 have e:=Ej s (x:=u) (y:=v) m l (a+2) 0 0 (by omega) (by omega) (by omega) (by omega);simp only[bV,fh]at e;have split:∀k i c,dy (cP n) u v i (k+1) c=dy (cP n) u v i k c++(dy (cP n) u v i (k+1) c).drop k:=by
  intro k
  induction k with
  |zero=>intro i c;simp[dy]
  |succ k A=>
   intro i c;have:=A (i+1) (cP n (u.getD i 0) (v.getD i 0) c).2;show _::dy (cP n) u v (i+1) (k+1) _=(_::dy (cP n) u v (i+1) k _)++(_::dy (cP n) u v (i+1) (k+1) _).drop (k+1);rw[dQ,List.drop_succ_cons];exact congrArg _ this
 rw[split (a+1) 0 0,kQ,jq]at e;have j:=jH (nP (b:=n) (F:=cP n) (λp q c=>dP _ (by omega)) u v (a+1) 0 0);rw[jq]at j;rw[cM,dw]at w B t;have g:=jH m;rw[r]at g;have h:=jH l;rw[o]at h;have C:n^a<=n^(a+1):=dG (by omega) (by omega);have D:bv n ((dy (cP n) u v 0 (a+1+1) 0).drop (a+1))=1:=by
  generalize bv n ((dy (cP n) u v 0 (a+1+1) 0).drop (a+1))=z at e;rcases Nat.lt_trichotomy z 1 with f|f|f
  ·have:z=0:=by omega
   subst this;rw[iD]at e;omega
  ·exact f
  ·have:=fi (n^(a+1)) f;rw[oN,df]at this;omega
 grind
theorem Hu{B:Nat}:∀(l:List Nat)(i d:Nat),i<l.length->bv B (l.set i d)+B^i*l.getD i 0=bv B l+B^i*d
 |[],i,d,h=>by grind
 |a::l,0,d,_=>by grind[bv]
 |a::l,i+1,d,h=>by
  have b:=congrArg (B*·) (Hu (B:=B) l i d (by simpa using h))
  grind[bv]
theorem OJ{l:List Nat}(h:∀d∈l,d<n){i d:Nat}(b:d<n):∀x∈l.set i d,x<n:=λx a=>by grind
theorem uS(_:1<n):∀{l:List Nat},bv n l<n^m->bv n (l.drop m)=0
 | l,h=>by
  rcases de m l.length with a|a
  ·have e:=kQ n (l.take m) (l.drop m);rw[ej,bo,dO (by omega)]at e;rcases dB (bv n (l.drop m))with b|b
   ·omega
   ·have:=fi (n^m) b;omega
  ·rw[cU a];rfl
theorem Bx(B:Nat)(l:List Nat)(n:Nat):bv B l=bv B (l.take n)+B^(min n l.length)*bv B (l.drop n):=by grind[kQ,ej]
structure mO(B n V XK:Nat)(u q:List Nat)(j:Nat):Prop where
 ul:∀d∈u,d<B
 ql:∀d∈q,d<B
 len:u.length=q.length+n
 jle:j<=q.length
 lo:bv B (u.drop j)<V
 eq:XK=bv B u+V*bv B q
 qz:∀i,i<j->q.getD i 0=0
theorem mO.On{q:List Nat}(b:1<n)(a:k<=n^m)(h:mO n m k i x q (j+1)):
  bv n ((x.drop j).take (m+1))=bv n (x.drop j)/\bv n ((x.drop j).take (m+1))<n*k/\((x.drop j).take (m+1)).length=m+1:=by
 have e:=h.len;have o:=h.jle;have f:bv n (x.drop j)=x.getD j 0+n*bv n (x.drop (j+1)):=kN n x j;have g:=cW (by omega) h.ul j;have c:=h.lo;have d:bv n (x.drop j)<n*k:=by
  have:=fi n (iS c);rw[oN]at this;omega
 have p:bv n ((x.drop j).drop (m+1))=0:=by
  refine uS b (cz d ?_);rw[gb,dh];exact bJ n a
 have l:=Bx n (x.drop j) (m+1)
 grind
theorem mO.step{q w:List Nat}{at':Nat}(g:1<n)(d:k<=n^m)(h:mO n m k j y q (at'+1))(B:∀x∈w,x<n)(z:w.length=m+1)(u:l<n)
  (r:bv n ((y.drop at').take (m+1))=bv n w+l*k) (v:bv n w<k):mO n m k j (y.take at'++w++y.drop (at'+(m+1))) (q.set at' l) at':=by
 have A:=h.len;have D:=h.jle;obtain⟨e,s,E⟩:=h.On g d;have p:bv n (y.drop (at'+(m+1)))=0:=by
  rw[<-drop_drop];refine uS g ?_;rw[<-e];refine cz s ?_;rw[gb,dh];exact bJ n d
 have c:(y.take at').length=at':=by rw[bo];omega
 have b:(y.take at'++w++y.drop (at'+(m+1))).drop at'=w++y.drop (at'+(m+1)):=by
  rw[cE,List.drop_append_of_le_length (by omega),hW (by omega),dq]
 refine⟨?_,OJ h.ql u,?_,by grind,?_,?_,?_⟩
 ·intro x a;simp only[bH]at a;rcases a with(a|a)|a
  ·exact h.ul x (dN a)
  ·grind
  ·exact h.ul x (List.mem_of_mem_drop a)
 ·grind
 ·rw[b,kQ,p,iD,fh];omega
 ·have f:=kQ n (y.take at') (y.drop at');rw[ej,c,<-e,r]at f;have t:bv n (y.take at'++w++y.drop (at'+(m+1)))=bv n (y.take at')+n^at'*bv n w:=by
   rw[cE,kQ,kQ,p,c,iD,fh]
  have o:=Hu (B:=n) q at' l (by omega);rw[h.qz at' (by omega),iD,fh]at o;rw[h.eq,f,t,o,kX,kX]
  grind
 ·intro i C;have:=h.qz i (by omega)
  grind
theorem mO.done{q:List Nat}(h:mO n m k i x q 0):bv n q=i/k/\bv n x=i%k:=by
 have a:=h.lo;rw[bV]at a;rw[h.eq]
 grind[Nat.mul_add_div,ke,Nat.mul_add_mod,eG]
theorem mO.start{X Y:Nat}(u:1<n)(h:∀d∈x,d<n)(s:x.length=l+1)(t:m<=l)(o:X<n^l)(c:n^(m-1)<=Y)(r:0<m)(p:0<k)(b:bv n x=X*k):mO n m (Y*k) (X*k) x (aH (l+1-m) 0) (l+1-m):=by
 refine⟨h,λd q=>by rw[(List.mem_replicate.1 q).2];omega,by rw[bE];omega,by rw[bE];exact aS _,?_,?_,λi y=>?_⟩
 ·have f:=Bx n x (l+1-m);rw[b,dO (by omega)]at f;rcases de (bv n (x.drop (l+1-m))) (Y*k)with a|a
  ·exact a
  ·have v:=fi (n^(l+1-m)) a;have w:n^l*k<=n^(l+1-m)*(Y*k):=by
    have e:n^l=n^(l+1-m)*n^(m-1):=by rw[<-Nat.pow_add];congr 1;omega
    rw[e,jh];exact fi _ (bJ k c)
   have z:X*k<n^l*k:=Nat.mul_lt_mul_of_pos_right o p;omega
 ·have:bv n (aH (l+1-m) 0)=0:=by
   induction (l+1-m)with
   |zero=>rfl
   |succ j g=>rw[List.replicate_succ,bv,g];rfl
  rw[this,b,iD,fh]
 grind
theorem Gm{X Y:Nat}(a:0<k):X*k/(Y*k)=X/Y/\X*k%(Y*k)=X%Y*k:=
 by grind[Nat.mul_div_mul_right,Nat.mul_mod_mul_right]
theorem JY{B left a:Nat}(c:0<k)(b:left<k)(d:a<B):(left*B+a)/k<B/\(left*B+a)%k<k/\(left*B+a)/k*k+(left*B+a)%k=left*B+a:=by
 refine⟨eJ ?_,dP _ c,by rw[dh];exact Nat.div_add_mod _ _⟩;have:=bJ B (iS b)
 grind
structure pM(B k R:Nat)(r:List Nat)(j left:Nat):Prop where
 rl:∀d∈r,d<B
 jle:j<=r.length
 lt:left<k
 eq:bv B (r.drop j)*k*B^j+left*B^j+bv B (r.take j)=R
theorem pM.step{at' left:Nat}(d:0<k)(h:pM n k m x (at'+1) left):pM n k m (x.set at' ((left*n+x.getD at' 0)/k)) at' ((left*n+x.getD at' 0)%k):=by
 have g:=h.jle;have b:0<n:=by
  have:=h.rl (x.getD at' 0) (by
   rw[gD,gE (by omega)];exact List.getElem_mem _)
  omega
 obtain⟨e,c,f⟩:=JY (B:=n) d h.lt (cW b h.rl at');refine⟨OJ h.rl e,by rw[bT];omega,c,?_⟩;rw[List.take_set_of_le (by omega),kN,List.drop_set_of_lt (by omega)];have a:(x.set at' ((left*n+x.getD at' 0)/k)).getD at' 0=(left*n+x.getD at' 0)/k:=by
  rw[gD,List.getElem?_set_self (by omega)];rfl
 rw[a,<-h.eq]
 grind[eQ,vK]
theorem pM.done{left:Nat}(a:0<k)(h:pM n k m x 0 left):bv n x=m/k:=by
 have e:=h.eq;simp only[bV,Nat.pow_zero,df,dU,bv,fh]at e;rw[<-e,dh,Nat.mul_add_div a,ke h.lt];rfl
section
theorem tl(B:Nat)(l:List Nat)(i:Nat)(h:i<=l.length):bv B l=bv B (l.take i)+B^i*bv B (l.drop i):=by grind[Bx]
theorem qm{B:Nat}{l:List Nat}(h:l.length=i+1):bv B (l.drop i)=l.getD i 0:=by
 rw[kN,cU (by omega)];rfl
theorem py{B:Nat}{l:List Nat}(h:l.length=i+2):bv B (l.drop i)=l.getD (i+1) 0*B+l.getD i 0:=by grind[kN,qm]
theorem xY{B:Nat}{l:List Nat}(h:l.length=i+3):bv B (l.drop i)=(l.getD (i+2) 0*B+l.getD (i+1) 0)*B+l.getD i 0:=by grind[kN,py]
structure my(B n:Nat)(u v:List Nat)(q rest:Nat):Prop where
 eq:q*v.getD (n-1) 0+rest=u.getD n 0*B+u.getD (n-1) 0
 hi:bv B u<(q+1)*bv B v
section
variable {B n:Nat} {u v:List Nat} {q rest:Nat}
theorem my.start(s:1<B)(q:u.length=n+1)(p:v.length=n)(r:0<n)(k:∀d∈u,d<B)(g:0<v.getD (n-1) 0):my B n u v ((u.getD n 0*B+u.getD (n-1) 0)/v.getD (n-1) 0) ((u.getD n 0*B+u.getD (n-1) 0)%v.getD (n-1) 0):=by
 refine⟨by rw[dh];exact Nat.div_add_mod _ _,?_⟩;have e:=tl B u (n-1) (by omega);have f:=tl B v (n-1) (by omega);have h:bv B (u.drop (n-1))=u.getD n 0*B+u.getD (n-1) 0:=by
  have:=py (B:=B) (l:=u) (i:=n-1) (by omega);rwa[show n-1+1=n by omega]at this
 rw[qm (by omega)]at f;rw[h]at e;rw[e,f];have j:=jH (b:=B) (x:=u.take (n-1)) (λd o=>k d (dN o));rw[bo,dO (by omega)]at j;generalize u.getD n 0*B+u.getD (n-1) 0=a;generalize v.getD (n-1) 0=c at g⊢;have m:a<(a/c+1)*c:=by
  have:=Nat.div_add_mod a c;have:=dP a g;rw[cM,dw,dh];omega
 have t:=fi (B^(n-1)) (iS m)
 grind
theorem my.lower(b:bv B u<q*bv B v)(h:my B n u v q rest):my B n u v (q-1) (rest+v.getD (n-1) 0):=by
 have c:0<q:=by
  rcases dB q with a|a
  ·subst a;rw[iE]at b;omega
  ·exact a
 obtain⟨p,rfl⟩:∃p,q=p+1:=⟨q-1,by omega⟩
 refine⟨?_,by simpa using b⟩;have:=h.eq
 grind
theorem my.aju(b:bv B u<B*bv B v)(a:B<=q):bv B u<q*bv B v:=cz b (bJ _ a)
theorem my.second(p:u.length=n+1)(o:v.length=n)(r:1<n)(j:∀d∈u,d<B)(h:my B n u v q rest)(g:rest*B+u.getD (n-2) 0<q*v.getD (n-2) 0):bv B u<q*bv B v:=by
 have c:=tl B u (n-2) (by omega);have e:=tl B v (n-2) (by omega);have f:bv B (u.drop (n-2))=(u.getD n 0*B+u.getD (n-1) 0)*B+u.getD (n-2) 0:=by
  have:=xY (B:=B) (l:=u) (i:=n-2) (by omega);rwa[show n-2+1=n-1 by omega,show n-2+2=n by omega]at this
 have k:bv B (v.drop (n-2))=v.getD (n-1) 0*B+v.getD (n-2) 0:=by
  have:=py (B:=B) (l:=v) (i:=n-2) (by omega);rwa[show n-2+1=n-1 by omega]at this
 rw[f,add_comm,dh]at c;rw[k,add_comm,dh]at e;have a:=jH (b:=B) (x:=u.take (n-2)) (λd m=>j d (dN m));rw[bo,dO (by omega)]at a;exact OO c a e h.eq g
theorem my.last(y:1<B)(t:u.length=n+1)(s:v.length=n)(w:0<n)(k:∀d∈v,d<B)(p:0<v.getD (n-1) 0)(h:my B n u v q rest)(o:q<B)(m:1<n->q*v.getD (n-2) 0<=rest*B+u.getD (n-2) 0):q*bv B v<bv B u+bv B v:=by
 rcases de 1 n with f|f
 ·have e:=tl B u (n-2) (by omega);have g:=tl B v (n-2) (by omega);have a:bv B (u.drop (n-2))=(u.getD n 0*B+u.getD (n-1) 0)*B+u.getD (n-2) 0:=by
   have:=xY (B:=B) (l:=u) (i:=n-2) (by omega);rwa[show n-2+1=n-1 by omega,show n-2+2=n by omega]at this
  have c:bv B (v.drop (n-2))=v.getD (n-1) 0*B+v.getD (n-2) 0:=by
   have:=py (B:=B) (l:=v) (i:=n-2) (by omega);rwa[show n-2+1=n-1 by omega]at this
  rw[a,add_comm,dh]at e;rw[c,add_comm,dh]at g;have j:=jH (b:=B) (x:=v.take (n-2)) (λd r=>k d (dN r));rw[bo,dO (by omega)]at j;exact Ms e g j h.eq o p (m f)
 ·obtain rfl:n=1:=by omega
  have a:=py (B:=B) (l:=u) (i:=0) (by omega);have c:=qm (B:=B) (l:=v) (i:=0) (by omega);rw[bV]at a c;have:=h.eq
  grind
theorem A9(f:q<B){a b:Nat}(d:a<B)(c:B<=rest):q*a<=rest*B+b:=by
 have e:q*a<=B*B:=dC (by omega) (by omega);have g:B*B<=rest*B:=bJ B c;omega
end
theorem Mo{B q n:Nat}(a:1<B){u v:List Nat}(s:∀d∈u,d<B)(f:∀d∈v,d<B)(i:u.length=n+1)(b:v.length=n)(o:q<B)(y:bv B u<(q+1)*bv B v)(p:q*bv B v<bv B u+bv B v):
  (eh B q u v 0 (n+1) 0 0).2.2=0/\
  ((eh B q u v 0 (n+1) 0 0).2.1=0->q=bv B u/bv B v/\bv B (eh B q u v 0 (n+1) 0 0).1=bv B u%bv B v)/\
  ((eh B q u v 0 (n+1) 0 0).2.1≠0->0<q/\q-1=bv B u/bv B v/\bv B (dy (cP B) (eh B q u v 0 (n+1) 0 0).1 v 0 (n+1) 0)=bv B u%bv B v):=by
 have j:=CA a (u:=u) o f (n+1) 0 0 0 (by omega) (by omega) (by omega) (by omega);obtain⟨A,l⟩:=OF a s i b j (q:=q);have w:∀{k r:Nat},bv B u=r+k*bv B v->r<bv B v->k=bv B u/bv B v/\r=bv B u%bv B v:=by
  intro k r e t;rw[e,dh k,add_comm];constructor
  ·grind[Nat.mul_add_div,ke]
  ·rw[Nat.mul_add_mod,eG t]
 refine⟨j,λh=>?_,λh=>?_⟩
 ·grind
 ·obtain⟨m,g⟩:=l h;have x:0<q:=by
   rcases dB q with c|c
   ·subst c;rw[iE]at g;omega
   ·exact c
  obtain⟨Q,rfl⟩:∃Q,q=Q+1:=⟨q-1,by omega⟩
  have z:=RK a (Q:=Q) (V:=bv B v) (U:=bv B u) (Af (q:=Q+1) a u v (n+1) 0 0 0) f (wC _ _ _ _ _ _ _ _) b m g p rfl
  grind
end
def jo(F:Nat->Nat->Nat->Nat×Nat)(x y:List Nat)(i c:Nat):Nat->Nat
 |0=>c
 |k+1=>(F (x.getD (i+k) 0) (y.getD (i+k) 0) (jo F x y i c k)).2
theorem Hw(F:Nat->Nat->Nat->Nat×Nat)(x y:List Nat)(i c:Nat):∀k,jo F x y (i+1) (F (x.getD i 0) (y.getD i 0) c).2 k=jo F x y i c (k+1)
 |0=>rfl
 |k+1=>by
  show(F (x.getD (i+1+k) 0) (y.getD (i+1+k) 0) (jo F x y (i+1) _ k)).2=(F (x.getD (i+(k+1)) 0) (y.getD (i+(k+1)) 0) (jo F x y i c (k+1))).2;rw[Hw F x y i c k,show i+1+k=i+(k+1) by omega]
theorem mB(F:Nat->Nat->Nat->Nat×Nat)(x y:List Nat):∀k i c,dy F x y i (k+1) c=dy F x y i k c++[(F (x.getD (i+k) 0) (y.getD (i+k) 0) (jo F x y i c k)).1]
 |0,i,c=>rfl
 |k+1,i,c=>by
  have a:=mB F x y k (i+1) (F (x.getD i 0) (y.getD i 0) c).2
  grind[Hw,dy]
theorem Ux{F:Nat->Nat->Nat->Nat×Nat}{m:Nat}(h:∀p q c,c<=m->(F p q c).2<=m)(x y:List Nat)(i c:Nat)(a:c<=m):∀k,jo F x y i c k<=m
 |0=>a
 |k+1=>h _ _ _ (Ux h x y i c a k)
theorem yF{b:Nat}(k:1<b){x y:List Nat}(h:∀d∈x,d<b)(l:x.length=y.length){j:Nat}(n:j<x.length)(i:x.drop (j+1)=y.drop (j+1))(a:x.getD j 0<y.getD j 0):bv b x<bv b y:=by
 have c:=tl b x j (by omega);have e:=tl b y j (by omega);rw[kN]at c e;rw[c,e,i];have g:=jH (b:=b) (x:=x.take j) (λd f=>h d (dN f));rw[bo,dO (by omega)]at g;have m:=fi (b^j) (iS (Nat.add_lt_add_right a (b*bv b (y.drop (j+1)))))
 grind
theorem qo{b:Nat}(a:1<b){m n:Nat}(h:(cT b m).length<(cT b n).length):m<n:=by
 have c:0<n:=by
  rcases dB n with e|e
  ·grind[jZ]
  ·exact e
 have d:=jH (gh a m);rw[fb a]at d;have g:=xZ a c;have f:b^(cT b m).length<=b^((cT b n).length-1):=dG (by omega) (by omega);omega
variable{A:Type}
theorem yK(B q:Nat)(u v:List Nat):∀k i b c,eh B q u v i (k+1) b c =
    ((eh B q u v i k b c).1++[(pg B q (u.getD (i+k) 0) (v.getD (i+k) 0) (eh B q u v i k b c).2.1 (eh B q u v i k b c).2.2).1],
     (pg B q (u.getD (i+k) 0) (v.getD (i+k) 0) (eh B q u v i k b c).2.1 (eh B q u v i k b c).2.2).2.1,
     (pg B q (u.getD (i+k) 0) (v.getD (i+k) 0) (eh B q u v i k b c).2.1 (eh B q u v i k b c).2.2).2.2)
  |0,i,b,c=>rfl
  | k+1,i,b,c=>by
    have a:=yK B q u v k (i+1) (pg B q (u.getD i 0) (v.getD i 0) b c).2.1 (pg B q (u.getD i 0) (v.getD i 0) b c).2.2
    grind[eh]
theorem JZ{q:Nat}(a:1<n){u v:List Nat}(b:∀d∈u,d<n)(k:Nat):(eh n q u v 0 k 0 0).2.1<=1:=(Ek a (v:=v) b k 0 0 0 (by omega)).2
theorem yb{B q:Nat}(b:1<B)(c:q<B){u v:List Nat}(a:∀d∈v,d<B):∀k,(eh B q u v 0 k 0 0).2.2<B
  |0=>by grind[eh]
  | k+1=>by
    rw[yK];have f:=yb b c (u:=u) a k;have g:=cW (by omega) a (0+k);show(q*v.getD (0+k) 0+(eh B q u v 0 k 0 0).2.2)/B<B;refine eJ ?_;have e:q*v.getD (0+k) 0<=(B-1)*(B-1):=dC (by omega) (by omega);have h:(B-1)*(B-1)+(B-1)=(B-1)*B:=by rw[<-oN];congr 1;omega
    have i:(B-1)*B+B=B*B:=by rw[<-succ_mul];congr 1;omega
    omega
theorem Fh(x y:List A){i:Nat}(a:x.length=i)(b:i<y.length)(d:A):(x++y.drop i).set i d=(x++[d])++y.drop (i+1):=by
  rw[List.set_append,iN (by omega),a,Nat.sub_self,db b,List.set_cons_zero,cE];rfl
theorem Cw(x y:List Nat){i:Nat}(a:x.length=i):(x++y.drop i).getD i 0=y.getD i 0:=by grind
theorem CB(l:List Nat):l.take (gV l).length=gV l/\(gV l).length<=l.length:=by
 induction l using qb with
 |h0=>exact⟨rfl,aS _⟩
 | h1 l d b=>
  by_cases a:d=0
  ·grind[np]
  ·rw[oD l a,dX]
   grind
theorem KQ(a:1<n)(b:0<m):0<(cT n m).getD ((cT n m).length-1) 0:=by
 have c:=(RT a m).2
 grind[cT]
theorem Mq(a:1<n)(c:m<n^k)(e:n^(k-1)<=m)(d:0<k):(cT n m).length=k:=by
 refine Nat.le_antisymm (qn a c) ?_;rcases de (cT n m).length k with h|h
 ·have b:=jH (gh a m);rw[fb a]at b;have:n^(cT n m).length<=n^(k-1):=dG (by omega) (by omega);omega
 omega
theorem Zb(f:1<n)(o:0<m):let c:=(cT n m).length;let a:=(cT n m).getD (c-1) 0;let k:=n/(a+1)
  0<c/\a<n/\0<k/\k<=n/\n^(c-1)<=m/\m*k<n^c:=by
 intro c a k;have l:0<c:=fL.2 λe=>by grind[mC]
 have s:a<n:=cW (by omega) (gh f m) _;have j:0<k:=Nat.div_pos (by omega) (by omega);have g:=xZ f o;refine⟨l,s,j,Nat.div_le_self _ _,g,?_⟩;have i:m<(a+1)*n^(c-1):=by
  have h:=tl n (cT n m) (c-1) (by omega);rw[qm (show(cT n m).length=c-1+1 by omega),fb f]at h;have p:=jH (b:=n) (x:=(cT n m).take (c-1)) (λd r=>gh f m d (dN r));rw[bo,dO (by omega)]at p;rw[cM,dw,dh a];show m<n^(c-1)*a+_;have:(cT n m).getD (c-1) 0=a:=rfl;rw[this]at h;omega
 have t:m*k<(a+1)*n^(c-1)*k:=Nat.mul_lt_mul_of_pos_right i j;have q:(a+1)*k<=n:=by rw[dh];exact Nat.div_mul_le_self _ _
 have w:(a+1)*n^(c-1)*k=(a+1)*k*n^(c-1):=by rw[Nat.mul_right_comm]
 have v:(a+1)*k*n^(c-1)<=n*n^(c-1):=bJ _ q;have u:n*n^(c-1)=n^c:=by rw[dh,<-gb];congr 1;omega
 omega
def wid:Nat->Nat->List UInt8
 |0,_=>[]
 |n+1,u=>wid n (u/10)++[jG (u%10)]
theorem Em:∀n u,(wid n u).length=n
 |0,_=>rfl
 |n+1,u=>by rw[wid,bg,Em n];rfl
theorem BE:∀(n u:Nat),wid (n+1) u=jG (u/10^n%10)::wid n u
 |0,u=>by simp[wid]
 |n+1,u=>by
  rw[wid,BE n (u/10),wid,dQ,Nat.div_div_eq_div_mul,gb,dh 10]
theorem El(a:m<10^(n+1))(c:n=0\/10^n<=m):wid (n+1) m=bp m:=by
 induction n generalizing m with
 |zero=>grind[hE,wid]
 |succ n b=>grind[nQ,Nat.le_div_iff_mul_le,wid]
theorem KT{u:Nat}:∀{n:Nat},u<10^n->0<n->wid n u=aH (n-(bp u).length) 48++bp u
 |0,_,h=>absurd h (by omega)
 | n+1,h,_=>by
  by_cases b:n=0\/10^n<=u
  ·have c:=El h b;have d:=congrArg List.length c;rw[Em]at d
   simp_all
  ·have e:n≠0:=λh=>b (.inl h);have a:u<10^n:=Nat.lt_of_not_le λh=>b (.inr h);have f:=(js (n:=u) (k:=n) (by omega)).2 a;rw[BE,KT a (by omega),ke a,show n+1-(bp u).length=(n-(bp u).length)+1 by omega,List.replicate_succ];rfl
theorem Fi{Y:Nat}(a:0<Y):∀{n b:Nat},b<10^n->bp (Y*10^n+b)=bp Y++wid n b
 |0,b,h=>by simp_all[wid]
 | n+1,b,h=>by
  have c:b/10<10^n:=by rw[Nat.div_lt_iff_lt_mul (by omega),<-gb];exact h
  have g:=Fi a c;have d:0<10^n:=Nat.pow_pos (by omega);have f:0<Y*10^n+b/10:=Nat.add_pos_left (Nat.mul_pos a d) _;have e:Y*10^(n+1)+b=10*(Y*10^n+b/10)+b%10:=by
   rw[gb,kX,<-jh,dh (Y*10^n) 10];omega
  simp_all[wD,dP,wid]
theorem J0{b:Nat}(c:0<m)(a:b<1000000000):bp (b+1000000000*m)=bp m++aH (9-(bp b).length) 48++bp b:=by
 have h:=Fi c (n:=9) (b:=b) a
 grind[KT]
theorem J1{b:Nat}(a:b<1000000000):(bp b).length<=9:=(js (by omega)).2 a
theorem yH(B:Nat)(y:List Nat)(k:Nat):bv B (y.take (k+1))=bv B (y.take k)+B^k*y.getD k 0:=by grind[eQ,vK,bm]
theorem RM(a:0<n)(h:∀d∈x,d<n)(i:Nat):x.getD i 0<n:=by grind[List.getElem_mem]
theorem BA{B:Nat}(m:1<B){L y:List Nat}{i k cy xi P p:Nat}(a:∀d∈L,d<B)(q:i+k<L.length)(f:cy<B)(j:xi<B)(g:y.getD k 0<B)(c:p=L.getD (i+k) 0+cy+xi*y.getD k 0)(n:bv B L+cy*B^(i+k)=P+xi*bv B (y.take k)*B^i):
  (∀d∈L.set (i+k) (p%B),d<B)/\p/B<B/\bv B (L.set (i+k) (p%B))+p/B*B^(i+(k+1))=P+xi*bv B (y.take (k+1))*B^i:=by
 have l:=RM (by omega) a (i+k);refine⟨λd e=>?_,?_,?_⟩
 ·rcases List.mem_or_eq_of_mem_set e with h|h
  ·exact a d h
  ·rw[h];exact dP _ (by omega)
 ·rw[Nat.div_lt_iff_lt_mul (by omega),c];have b:xi*y.getD k 0<=(B-1)*(B-1):=dC (by omega) (by omega);obtain⟨C,rfl⟩:∃C,B=C+1:=⟨B-1,by omega⟩
  rw[Nat.add_sub_cancel]at b;have o:(C+1)*(C+1)=C*C+C+C+1:=by rw[oN,succ_mul];omega
  omega
 grind[Hu,kf,yH]
theorem KP(l:1<n){L x y:List Nat}{i cy:Nat}(e:∀d∈x,d<n)(k:∀d∈y,d<n)(p:i<x.length)(m:∀d∈L,d<n)(c:bv n L+cy*n^(i+(y.length+1))=bv n (x.take i)*bv n y+x.getD i 0*bv n (y.take (y.length+1))*n^i):
  bv n L=bv n (x.take (i+1))*bv n y:=by
 have f:bv n (x.take (i+1))*bv n y=bv n (x.take i)*bv n y+x.getD i 0*bv n y*n^i:=by
  rw[yH,cM];congr 1;rw[jh,dh]
 rw[bm (by omega:y.length<=y.length+1),<-f]at c;have g:bv n (x.take (i+1))<n^(i+1):=by
  have:=jH (b:=n) (x:=x.take (i+1)) (λd j=>e d (dN j));rwa[bo,dO (by omega)]at this
 have a:=jH k;have o:bv n (x.take (i+1))*bv n y<n^(i+(y.length+1)):=by
  rw[show i+(y.length+1)=(i+1)+y.length by omega,Nat.pow_add];exact Nat.mul_lt_mul'' g a
 rcases dB cy with h|h
 ·grind
 ·have q:1*n^(i+(y.length+1))<=cy*n^(i+(y.length+1)):=bJ _ h;omega
theorem yG(B n:Nat):bv B (aH n 0)=0:=by
 induction n with
 |zero=>rfl
 |succ n a=>grind[bv]
def iV(c:UInt8):List UInt8->Nat
 |[]=>0
 |x::l=>if x=c then 0 else iV c l+1
theorem Bz(c:UInt8):∀(l:List UInt8)(i:Nat),i<=l.length->(∀j,j<i->l.getD j 0≠c)->(i<l.length->l.getD i 0=c)->iV c l=i
 |[],i,h,_,_=>by simp at h;subst h;rfl
 |x::l,0,h,_,b=>by simp_all[iV]
 |x::l,i+1,h,a,b=>by
  have e:=a 0 (by omega);unfold iV;rw[iN (by grind)];rw[Bz c l i (by grind) (λj f=>by grind) (λd=>by grind)]
def isNeg(a:List UInt8):Bool:=a.head? == aa 45
def ee(a:List UInt8):List UInt8:=if isNeg a then a.drop 1 else a
def numOf(a:List UInt8):List UInt8:=(ee a).take (iV 47 (ee a))
def eP(a:List UInt8):Bool:=decide (iV 47 (ee a)<(ee a).length)
def dW(a:List UInt8):List UInt8:=if eP a then(ee a).drop (iV 47 (ee a)+1)else[49]
def fE(a:List UInt8):Bool:=valid (numOf a)&&valid (dW a)&&decide ((numOf a).length<=400)&&decide ((dW a).length<=400) && !(isNeg a&&numOf a==[48]) && !(eP a&&(dW a==[48]||dW a==[49]))&&decide (Nat.gcd (val (numOf a)) (val (dW a))=1)
structure Uw(a:List UInt8):Prop where
 num:valid (numOf a)=af
 den:valid (dW a)=af
 ln:(numOf a).length<=400
 ld:(dW a).length<=400
 neg:¬(isNeg a=af/\numOf a=[48])
 fr:¬(eP a=af/\(dW a=[48]\/dW a=[49]))
 one:Nat.gcd (val (numOf a)) (val (dW a))=1
theorem kS{a:List UInt8}:fE a=af↔Uw a:=by
 unfold fE;simp only[bj,dt,Bool.and_eq_false_iff,Bool.or_eq_false_iff,decide_eq_true_eq,beq_eq_false_iff_ne];constructor
 ·rintro⟨⟨⟨⟨⟨⟨c,d⟩,b⟩,f⟩,j⟩,i⟩,e⟩;refine⟨c,d,b,f,λ⟨g,h⟩=>?_,λ⟨g,h⟩=>?_,e⟩
  all_goals grind
 ·rintro⟨c,d,b,f,j,i,e⟩
  grind
theorem CC{a:List UInt8}(h:valid a=af):a=[48]↔val a=0:=by grind[hH,gU]
theorem Fj{a:List UInt8}(h:valid a=af):a=[49]↔val a=1:=by grind[hH,qp]
theorem Zc:val [49]=1:=by decide
theorem HB{a:List UInt8}(h:valid a=af)(c:0<k)(b:a.length<=k):val a<10^k:=by grind[hH,js]
theorem Fg{a:List UInt8}:Uw a↔(valid (numOf a)=af/\(numOf a).length<=400)/\(valid (dW a)=af/\(dW a).length<=400)/\dW a≠[48]/\¬(numOf a=[48]/\(isNeg a=af\/eP a=af))/\¬(dW a=[49]/\eP a=af)/\(Nat.gcd (val (numOf a)) (val (dW a))=1\/dW a=[49]):=by
 constructor
 ·rintro⟨d,e,c,f,j,h,i⟩
  grind[CC,Fj,dW]
 ·rintro⟨⟨d,c⟩,⟨e,f⟩,j,h,i,k⟩;refine⟨d,e,c,f,λ⟨b,g⟩=>h ⟨g,.inl b⟩,λ⟨b,g⟩=>?_,?_⟩
  all_goals grind[Zc,Nat.gcd_one_right]
def oC(s:Bool)(A:Nat)(t:Bool)(B:Nat):Bool×Nat:=if s=t then(s,A+B)else if A<B then(t,B-A)else(s,A-B)
def jY(a b:List UInt8):Int:=
 if fE a=af/\fE b=af then
  if(oC (isNeg a) (val (numOf a)*val (dW b)) (!isNeg b) (val (numOf b)*val (dW a))).2=0 then 0
  else if(oC (isNeg a) (val (numOf a)*val (dW b)) (!isNeg b) (val (numOf b)*val (dW a))).1=af then -1 else 1
 else 0
theorem VU(e:k+k=m)(b:n<10^k)(a:i<10^k):n*i<10^m:=by
 subst e;rw[Nat.pow_add];exact Nat.mul_lt_mul'' b a
theorem JX(b:n<10^400)(a:i<10^400):n*i<10^800:=VU (k:=400) (m:=800) rfl b a
theorem Cy(h:k<=m):10^k<=10^m:=dG (by decide) h
theorem VT:(10:Nat)^800+10^800<=10^1000:=by omega
theorem OI:fE [105,110,102]=ak:=by rfl
theorem A8:fE [45,105,110,102]=ak:=by rfl
theorem Mp:fE [48]=af:=by decide
theorem JW{a:List UInt8}(h:fE a=af):jY a [48]=0↔a=[48]:=by
 constructor
 ·intro e;unfold jY at e;rw[iP ⟨h,Mp⟩]at e;have r:=kS.1 h;have f:val (dW [48])=1:=by decide
  have i:val (numOf [48])=0:=by decide
  rw[f,i,df,iE,show isNeg [48]=ak from rfl,Bool.not_false]at e;have d:val (numOf a)=0:=by
   unfold oC at e;by_cases b:isNeg a=af
   ·rw[iP b]at e;dsimp only at e;rw[fh]at e;by_cases c:val (numOf a)=0
    ·exact c
    ·rw[iN c,iP b]at e;exact absurd e (by decide)
   ·rw[iN b,iN (dH _)]at e;dsimp only at e;rw[Nat.sub_zero]at e;by_cases c:val (numOf a)=0
    ·exact c
    ·rw[iN c,iN b]at e;exact absurd e (by decide)
  have b:=(CC r.num).2 d;have k:isNeg a=ak:=by
   cases g:isNeg a with
   |false=>rfl
   |true=>exact absurd ⟨g,b⟩ r.neg
  have j:dW a=[49]:=by
   refine(Fj r.den).2 ?_;have:=r.one;rw[d,Nat.gcd_zero_left]at this;exact this
  have l:eP a=ak:=by
   cases g:eP a with
   |false=>rfl
   |true=>exact absurd ⟨g,.inr j⟩ r.fr
  grind[bm,ee,numOf,eP]
 ·rintro rfl;decide
def gJ(b:Int)(a:List UInt8):Bool:=decide (1<=b/\b<=3)&&fE a&&(b==1||decide (0<jY a [48]))
section
inductive lD(E:Nat->Nat->Prop)(F:Nat->Prop):Nat->Prop where
 |base {x:Nat} (h:F x):lD E F x
 |step {y x:Nat} (h:lD E F y) (e:E y x):lD E F x
def fO(L:List Bool):Nat:=(L.filter λb=> !b).length
theorem rq:∀{L:List Bool}{s:Nat},s<L.length->L.getD s ak=ak->fO (L.set s af)+1=fO L
 |[],s,h,_=>by grind
 |b::L,0,h,a=>by grind[fO]
 |b::L,s+1,h,a=>by
  have c:=rq (L:=L) (s:=s) (by simpa using h) (by simpa using a)
  grind[fO]
theorem jr{L:List Bool}{x:Nat}(a:n<L.length):(L.set n af).getD x ak=if x=n then af else L.getD x ak:=by grind
structure pL(E:Nat->Nat->Prop)(F:Nat->Prop)(N:Nat)(L:List Bool)(T:List Nat)(ex:Nat->Prop):Prop where
 len:L.length=N
 tin:∀x∈T,x<N/\L.getD x ak=af
 snd:∀x,L.getD x ak=af->lD E F x
 cls:∀y,L.getD y ak=af->y∉T->¬ex y->∀z,E y z->L.getD z ak=af
section
variable {E:Nat->Nat->Prop} {F:Nat->Prop} {N:Nat} {L:List Bool} {T:List Nat} {ex:Nat->Prop}
theorem BC(n:Nat)(ex:Nat->Prop):pL E F n (aH n ak) [] ex:=by
 have h:∀x,(aH n ak).getD x ak=ak:=λx=>by grind
 exact⟨bE,λx a=>(by grind),λx a=>(by grind),λy b=>(by grind)⟩
theorem pL.see(v:pL E F N L T ex){s:Nat}(f:s<N)(m:lD E F s)(k:L.getD s ak=ak):pL E F N (L.set s af) (T++[s]) ex/\fO (L.set s af)+1=fO L:=by
 have b:s<L.length:=by rw[v.len];exact f
 refine⟨⟨by rw[bT];exact v.len,λx a=>?_,λx a=>?_,λy d e j z l=>?_⟩,rq b k⟩
 ·rcases bH.1 a with h|h
  ·obtain⟨g,i⟩:=v.tin x h;refine⟨g,?_⟩;rw[jr b];split
   ·rfl
   ·exact i
  grind
 ·rw[jr b]at a;split at a
  ·grind
  ·exact v.snd x a
 ·rw[jr b]at d⊢;split
  ·rfl
  ·split at d
   ·grind
   ·exact v.cls y d (λc=>e (bH.2 (.inl c))) j z l
theorem pL.take(v:pL E F N L T (λ_=>False))(e:∀x∈y,x∈T)(f:∀x∈T,x∈y\/x=n):pL E F N L y (λb=>b=n):=
 ⟨v.len,λx d=>v.tin x (e x d),v.snd,λb i a g z h=>v.cls b i (λc=>(f b c).elim a g) (λc=>c) z h⟩
theorem pL.done(v:pL E F N L T (λy=>y=n))(h:∀z,E n z->L.getD z ak=af):pL E F N L T (λ_=>False):=
 ⟨v.len,v.tin,v.snd,λy c a _ z b=>by
  by_cases e:y=n
  ·grind
  ·exact v.cls y c a e z b⟩
theorem pL.final(v:pL E F N L [] (λ_=>False))(b:∀x,F x->L.getD x ak=af)(x:Nat):L.getD x ak=af↔lD E F x:=by
 refine⟨v.snd x,λh=>?_⟩
 induction h with
 |base h=>grind
 |step _ e a=>exact v.cls _ a (λc=>(by cases c)) (λc=>c) _ e
end
end
end Go.Num
end
section
namespace Go.Proofs.YtnlccnpbjeiccaaGreatDoor
open Go Go.Ab Go.RowKit
theorem adR:(((Tryz.prog.funcs.toList.drop 0).take 40).all λf=>jd f)=af:=by kernel_rfl
theorem adS:(((Tryz.prog.funcs.toList.drop 40).take 40).all λf=>jd f)=af:=by kernel_rfl
theorem adT:(((Tryz.prog.funcs.toList.drop 80).take 40).all λf=>jd f)=af:=by kernel_rfl
theorem adU:(((Tryz.prog.funcs.toList.drop 120).take 40).all λf=>jd f)=af:=by kernel_rfl
theorem adV:(((Tryz.prog.funcs.toList.drop 160).take 40).all λf=>jd f)=af:=by kernel_rfl
theorem adW:(((Tryz.prog.funcs.toList.drop 200).take 40).all λf=>jd f)=af:=by kernel_rfl
theorem adX:(((Tryz.prog.funcs.toList.drop 240).take 40).all λf=>jd f)=af:=by kernel_rfl
theorem adY:(((Tryz.prog.funcs.toList.drop 280).take 40).all λf=>jd f)=af:=by kernel_rfl
theorem adZ:(((Tryz.prog.funcs.toList.drop 320).take 40).all λf=>jd f)=af:=by kernel_rfl
theorem WO:Tryz.prog.funcs.toList.length=329:=by kernel_rfl
theorem Z1(i:Nat)(c:Func)(h:Tryz.prog.funcs.toList[i]?=aa c):jd c=af:=by
 have b:∀a,((Tryz.prog.funcs.toList.drop a).take 40).all (λf=>jd f)=af->a<=i->i<a+40->jd c=af:=λa g d e=>by
  refine cw.1 g c (aI (i:=i-a) ?_);rw[getElem?_take,iP (by omega),getElem?_drop,show a+(i-a)=i by omega];exact h
 have j:i<329:=by
  have:=(List.getElem?_eq_some_iff.1 h).1;rw[WO]at this;exact this
 by_cases n:i<40
 ·exact b 0 adR (by omega) (by omega)
 by_cases d:i<80
 ·exact b 40 adS (by omega) (by omega)
 by_cases e:i<120
 ·exact b 80 adT (by omega) (by omega)
 by_cases k:i<160
 ·exact b 120 adU (by omega) (by omega)
 by_cases m:i<200
 ·exact b 160 adV (by omega) (by omega)
 by_cases p:i<240
 ·exact b 200 adW (by omega) (by omega)
 by_cases o:i<280
 ·exact b 240 adX (by omega) (by omega)
 by_cases l:i<320
 ·exact b 280 adY (by omega) (by omega)
 exact b 320 adZ (by omega) (by omega)
theorem Xn:(Tryz.prog.funcs.toList.all λf=> !(f.name == "runtime.NumGoroutine"))=af:=by kernel_rfl
theorem tO:BH Tryz.prog:={
 names:=λ_ a h=>by
  have b:a∈Tryz.prog.funcs.toList:=by
   rw[<-getElem?_toList]at h;exact aI h
  have:=cw.1 Xn a b;simpa using this
 Z0:=λf a h=>Z1 f a (by rw[getElem?_toList];exact h) }
theorem Kn:qt Tryz.prog AW 296 rL:=FF (fn:=(Tryz.prog.funcs[296]?).getD default) (by kernel_rfl) (by kernel_rfl) (by kernel_rfl) (by kernel_rfl) (by kernel_rfl)
theorem Ix:qt Tryz.prog AW 290 ou:=Da (fn:=(Tryz.prog.funcs[290]?).getD default) (by kernel_rfl) (by kernel_rfl) (by kernel_rfl) (by kernel_rfl) (by kernel_rfl)
noncomputable def ahw:th:=[(296,.agn),(290,.U6)]
theorem Ha:tZ Tryz.prog AW ahw:=uf Kn (uf Ix KY)
end Go.Proofs.YtnlccnpbjeiccaaGreatDoor
end
section
namespace Go.Proofs.YtnlccnpbjeiccaaGreatDoor
open Go Go.Ab Go.Num
def gl1:Nat->Bool:=λg=>dx g 1
noncomputable def ajF:th:=(13,.Nn [([],ai af)]) ::ahw
noncomputable def prS:ck->Option tw:=λf=>HS (dx f 146) (aa Jk) (QA Tryz.prog gl1 ajF f)
noncomputable def SS:Sx:=⟨Tryz.prog,gl1,prS⟩
noncomputable abbrev au:Program:=SS.P
noncomputable abbrev aW:=FW SS
noncomputable abbrev cq:=LL SS
noncomputable abbrev fZ:=KK SS
noncomputable abbrev kU:=EE SS
abbrev qF{a:Type}(X:Option ah->a->Prop)(t:aD)(v:ah)(i:Nat)(u:aD)(h:aw)(K:a):Prop:=xP (bB SS.P t v i) λp=>X (aM SS.P u h (bN p)) K
abbrev qX{a:Type}(X:Option ah->a->Prop)(t:aD)(v i:ah)(u:aD)(h:aw)(K:a):Prop:=xP (aZ SS.P t v i) λp=>X (aM SS.P u h (bN p)) K
abbrev ky(t:aD)(v:ah)(i:Nat)(h:aw)(K:Int->Prop):Prop:=qF (xI an) t v i 3 h K
abbrev vX(t:aD)(v i:ah)(h:aw)(K:Int->Prop):Prop:=qX (xI an) t v i 3 h K
abbrev mh(t:aD)(v:ah)(i:Nat)(u:aD)(h:aw)(K:Option aF->Nat->Nat->Prop):Prop:=qF xL t v i u h K
abbrev ve(t:aD)(v i:ah)(u:aD)(j:Nat)(K:aF->Prop):Prop:=xP (aZ SS.P t v i) λp=>xP (bB SS.P u (bN p) j) K
def pth:Nat->Nat->List Nat
 |0,_=>[]
 |k+1,n=>if n<=1 then[]else(n%2)::pth k (n/2)
abbrev pq(n:Nat):List Nat:=pth 64 n
abbrev ez(F:FD)(p:List Nat)(Q:VH):=KK SS F p [] (EE SS F Q)
abbrev lX0(F:FD)(p:Nat)(W:List ah)(h:aw)(q:Nat)(Q:VH):=LL SS F (pq p) W h (ez F (pq q) Q)
end Go.Proofs.YtnlccnpbjeiccaaGreatDoor
end
