/- Laws and walks that the proof leans on (part 3): AbVc; AbLib; AbCut; AbLib2; AbLib3; AbRow and others. No condition. -/
import Derived.Test.YtaheifbogkjpdaaGreatDoorPart2
import Derived.Laws.Bits64
import Derived.ChangeArms
import Derived.DataElems
import Derived.Below
import Derived.ChangeSame
import Derived.Test.YtaheifbogkjpdaaGreatDoorProg
set_option linter.unusedVariables false
set_option linter.unusedSimpArgs false
set_option maxRecDepth 100000
open List (all_append all_cons all_eq_true all_nil append_assoc cons_append drop_drop drop_eq_nil_of_le drop_of_length_le drop_zero flatten_cons getElem?_drop getElem?_eq_none getElem?_take getElem_mem length_append length_cons length_drop length_pos_iff length_set length_take mem_append mem_cons mem_cons_self mem_of_mem_take mem_singleton set_append take_length take_of_length_le)
open Nat (add_comm add_mul add_zero blt_eq div_eq_of_lt div_lt_of_lt_mul div_lt_self eq_zero_or_pos le_succ lt_of_lt_of_le lt_or_ge min_eq_left mod_add_div mod_eq_of_lt mod_lt mul_add mul_assoc mul_comm mul_le_mul mul_le_mul_left mul_le_mul_right mul_one mul_succ mul_zero one_mul pow_le_pow_right pow_succ succ_le_of_lt succ_mul zero_add zero_mul)
open Bool (and_eq_true)
open Int (toNat_natCast)
open Go.IntKind (wrap)
section
namespace Go.Ab
open Go
noncomputable section
def aZ(b:Bool)(A B:Prop):Prop:=Bool.rec (motive:=λ_=>Prop) B A b
theorem ae{b:Bool}{A B:Prop}(h1:b=true->A)(h2:b=false->B):aZ b A B:=by
 cases b with
 |true=>exact h1 rfl
 |false=>exact h2 rfl
theorem pY{b:Bool}{A B:Prop}(h:aZ b A B):(b=true/\A)\/(b=false/\B):=by
 cases b with
 |true=>exact .inl ⟨rfl,h⟩
 |false=>exact .inr ⟨rfl,h⟩
abbrev TS:=List Value
abbrev dB:=Exit->TS->aa->Prop
abbrev TH:=TS->aa->Prop
def fr(tm:TS):Fr:=λt=>tm.getD t undef
def EC(P:Program)(t:TypeId)(K:Value->Prop):Prop:=match P.underlying t with
 |some (.int k)=>∃n:Int,K (.int k n)
 |some .bool=>∃b:Bool,K (.bool b)
 |some .string=>∃l:List UInt8,K (strOf l)
 |some (.slice _)=>∃(a:Option Addr)(n c:Nat),K (.slice a n c)
 |some (.pointer _)=>∃a:Option Addr,K (.pointer a)
 |some (.struct _)=>∃cs:List Value,K (.agg ⟨cs⟩)
 |some (.array ..)=>∃cs:List Value,K (.agg ⟨cs⟩)
 |some (.func ..)=>∃(g:Nat)(a c:List Value),K (.func (.func g) ⟨a⟩ ⟨c⟩)
 |_=>∃v:Value,K v
def Po(P:Program):List TypeId->(List Value->Prop)->Prop
 |[],K=>K []
 |t::ts,K=>EC P t λx=>Po P ts λxs=>K (x::xs)
def AG(P:Program)(t:TypeId)(K:Value->Prop):Prop:=match P.underlying t with
 |some (.tuple ts)=>Po P ts.toList λvs=>K (.tuple ⟨vs⟩)
 |_=>EC P t K
theorem tG{P:Program}{t:TypeId}{K:Value->Prop}(hx:EC P t K):∃v,K v:=by grind[EC]
theorem xJ{P:Program}:∀{ts:List TypeId}{K:List Value->Prop},Po P ts K->∃vs,K vs
 |[],_,hx=>⟨_,hx⟩
 |t::ts,K,hx=>by
  obtain⟨x,h⟩:=tG hx;obtain⟨xs,h⟩:=xJ h
  grind
theorem kP{P:Program}{t:TypeId}{K:Value->Prop}(hx:AG P t K):∃v,K v:=by
 unfold AG at hx;split at hx
 ·obtain⟨_,h⟩:=xJ hx;grind
 ·exact tG hx
def AH(P:Program)(t:TypeId)(r:Option Value)(h:aa)(K:VH):Prop:=AG P t λx=>r=some x/\K x h
def SC(r:Option Value)(h:aa)(K:VH):Prop:=∃a:Addr,r=some (.pointer (some a))/\K (.pointer (some a)) h
def Qm(r:Option (Value×cL))(h:aa)(K:VH):Prop:=∃v u,r=some (v,u)/\K v (u.app h)
def R4(r:Option (Value×cL))(h:aa)(K:VH):Prop:=∃u,r=some (undef,u)/\K undef (u.app h)
def TD(r:Option (Value×cL))(h:aa)(K:VH):Prop:=∃(a:Option Addr)(n c:Nat)(u:cL),r=some (.slice a n c,u)/\K (.slice a n c) (u.app h)
def TA(r:Option (Value×cL))(h:aa)(K:VH):Prop:=∃(n:Int)(u:cL),r=some (.int .i64 n,u)/\K (.int .i64 n) (u.app h)
def kj(k:Nat):Value:= .pointer (some ⟨k,0,none⟩)
def jE(n c k:Nat):Value:= .slice (some ⟨k,0,none⟩) n c
abbrev OA:Type:=Option Addr
abbrev LV:Type:=List Value
abbrev LB:Type:=List UInt8
abbrev uN(l:List Value)(k:Nat):List Value:=l++List.replicate k undef
abbrev pA(k:Nat):Value:= .pointer (some ⟨k,0,none⟩)
abbrev sA(k n c:Nat):Value:= .slice (some ⟨k,0,none⟩) n c
abbrev nA:Value:= .slice none 0 0
abbrev iA(n:Nat):Value:= .int .i64 (n:Int)
abbrev xI(k:IntKind)(r:Option Value)(K:Int->Prop):Prop:=∃n:Int,r=some (.int k n)/\K n
abbrev xB(r:Option Value)(K:Bool->Prop):Prop:=∃b:Bool,r=some (.bool b)/\K b
abbrev xS(r:Option Value)(K:List UInt8->Prop):Prop:=∃l:List UInt8,r=some (strOf l)/\K l
abbrev xL(r:Option Value)(K:Option Addr->Nat->Nat->Prop):Prop:=∃(a:Option Addr)(n c:Nat),r=some (.slice a n c)/\K a n c
abbrev xO(r:Option Value)(K:Option Addr->Prop):Prop:=∃a:Option Addr,r=some (.pointer a)/\K a
abbrev xP(r:Option Value)(K:Addr->Prop):Prop:=∃a:Addr,r=some (.pointer (some a))/\K a
abbrev xA(r:Option Value)(K:List Value->Prop):Prop:=∃cs:List Value,r=some (.agg ⟨cs⟩)/\K cs
abbrev xF(r:Option Value)(K:Nat->List Value->List Value->Prop):Prop:=∃(g:Nat)(a c:List Value),r=some (.func (.func g) ⟨a⟩ ⟨c⟩)/\K g a c
abbrev yI(k:IntKind)(r:Value)(K:Int->Prop):Prop:=∃n:Int,r = .int k n/\K n
abbrev yB(r:Value)(K:Bool->Prop):Prop:=∃b:Bool,r = .bool b/\K b
abbrev yS(r:Value)(K:List UInt8->Prop):Prop:=∃l:List UInt8,r=strOf l/\K l
abbrev yL(r:Value)(K:Option Addr->Nat->Nat->Prop):Prop:=∃(a:Option Addr)(n c:Nat),r = .slice a n c/\K a n c
abbrev yA(r:Value)(K:List Value->Prop):Prop:=∃cs:List Value,r = .agg ⟨cs⟩/\K cs
abbrev yV(r:Value)(K:Value->Prop):Prop:=∃v:Value,r=v/\K v
abbrev xU(r:Option (Value×cL))(h:aa)(K:cL->aa->Prop):Prop:=∃u:cL,r=some (undef,u)/\K u (u.app h)
abbrev xE(r:Option (Value×cL))(h:aa)(K:Option Addr->Nat->Nat->cL->aa->Prop):Prop:=∃(a:Option Addr)(n c:Nat)(u:cL),r=some (.slice a n c,u)/\K a n c u (u.app h)
abbrev xG(r:Option (Value×cL))(h:aa)(K:Value->cL->aa->Prop):Prop:=∃(v:Value)(u:cL),r=some (v,u)/\K v u (u.app h)
abbrev xN(r:Option (bt×(Nat->Value)))(h:aa)(K:bt->aa->Prop):Prop:=∃B:bt,r=some (B,kj)/\K B (h.push B)
abbrev xR(r:Option (bt×(Nat->Value)))(h:aa)(K:bt->Nat->Nat->aa->Prop):Prop:=∃(B:bt)(n c:Nat),r=some (B,jE n c)/\K B n c (h.push B)
abbrev zR(r:Option (bt×(Nat->Value)))(K:bt->Nat->Nat->Prop):Prop:=∃(B:bt)(n c:Nat),r=some (B,jE n c)/\K B n c
def SA(r:Option (bt×(Nat->Value)))(h:aa)(K:VH):Prop:=∃B,r=some (B,kj)/\K (kj h.next) (h.push B)
def SD(r:Option (bt×(Nat->Value)))(h:aa)(K:VH):Prop:=∃B n c,r=some (B,jE n c)/\K (jE n c h.next) (h.push B)
def TC(r:Option (bt×(Nat->Value)))(h:aa)(K:VH):Prop:=∃B,r=some (B,λk=> .map (some k))/\K (.map (some h.next)) (h.push B)
def bN(P:Program)(t:TypeId):Option (bt×(Nat->Value)):=aJ P (λ_=>undef) ⟨none,.alloc t,0,"",#[],none⟩
def l8(P:Program)(t:TypeId)(v:Value):Option (bt×(Nat->Value)):=aJ P (λ_=>v) ⟨none,.box t (.tmp 0),0,"",#[],none⟩
def bM(P:Program)(t:TypeId)(l c:Value):Option (bt×(Nat->Value)):=aJ P (λx=>match x with|.tmp 0=>l|_=>c) ⟨none,.makeSlice t (.tmp 0) (.tmp 1),0,"",#[],none⟩
def aL(P:Program)(t:TypeId)(len:Nat)(vs:List (Nat×Value)):Option (bt×(Nat->Value)):=
 aJ P (λx=>match x with|.tmp i=>(vs.getD i (0,undef)).2|_=>undef) ⟨none,.buildSlice t len ((List.range vs.length).map λi=>((vs.getD i (0,undef)).1,.tmp i)).toArray,0,"",#[],none⟩
def Jc(c a b:Value)(h:aa)(K:VH):Prop:=match c with
 |.bool t=>aZ t (K a h) (K b h)
 |_=>False
def Np(P:Program)(op:BinOp)(t ty:TypeId)(x y:Value)(h:aa)(K:VH):Prop:=match op with
 |.quo|.rem|.shl|.shr=>AH P ty (aq P op t x y) h K
 |.add=>(match x with|.string _=>AH P ty (aq P .add t x y) h K|_=>nI (aq P .add t x y) h K)
 |.eql=>(match x with|.pointer _=>AH P ty (aq P .eql t x y) h K|.agg _=>AH P ty (aq P .eql t x y) h K|_=>nI (aq P .eql t x y) h K)
 |.neq=>(match x with|.pointer _=>AH P ty (aq P .neq t x y) h K|.agg _=>AH P ty (aq P .neq t x y) h K|_=>nI (aq P .neq t x y) h K)
 |op=>nI (aq P op t x y) h K
def HP(S:Sx)(ty:TypeId)(f:Value)(args:List Value)(h:aa)(K:VH):Prop:=match f with
 |.func (.func g) first captured=>aZ (Nat.blt g YB) (FW S g (first.toList++args++captured.toList) h λv h=>AG S.P ty λx=>v=x/\K x h) False
 |.func (.yield k) ⟨[]⟩ ⟨[]⟩=>FW S (YB+k) args h λv h=>AG S.P ty λx=>v=x/\K x h
 |_=>False
def JO(P:Program)(s d:TypeId)(x:Value)(h:aa):Option Value:=aT P (λ_=>x) ⟨none,.convert s d (.tmp 0),0,"",#[],none⟩ h
def SJ(t:Option TypeDesc):Bool:=match t with
 |some .unsafePointer=>true
 |_=>false
def kY(P:Program)(t:TypeId)(m k x:Value)(h:aa):Option (Value×cL):=match P.underlying t,m with
  |some (.map kt _),.map (some r)=>match h.get r with
   |some (.map es)=>if lU P kt k then(iQ P kt k x es).map λes'=>(undef,.set r (.map es'))else none
   |_=>none
  |_,_=>none
def QG(P:Program)(t:TypeId)(m k:Value)(ok:Bool)(h:aa):Option Value:=aT P (λx=>match x with|.tmp 0=>m|_=>k) ⟨none,.lookup t (.tmp 0) (.tmp 1) ok,0,"",#[],none⟩ h
def ue(P:Program)(t:TypeId):Option (bt×(Nat->Value)):=aJ P (λ_=>undef) ⟨none,.makeMap t none,0,"",#[],none⟩
def PA(S:Sx)(ρ:Operand->Value)(o:Oper)(h:aa)(K:VH):Prop:=match o.op with
 |.move x|.assign x=>K (ρ x) h
 |.pick c a b=>Jc (ρ c) (ρ a) (ρ b) h K
 |.binOp op t x y _=>Np S.P op t o.type (ρ x) (ρ y) h K
 |.unOp op _ x=>nI (xM op (ρ x)) h K
 |.extract x i=>nI (ML (ρ x) i) h K
 |.index t x i=>AH S.P o.type (bu S.P t (ρ x) (ρ i)) h K
 |.indexAddr t x i=>SC (af S.P t (ρ x) (ρ i)) h K
 |.fieldAddr t x f=>SC (ah S.P t (ρ x) f) h K
 |.field t x f=>AH S.P o.type (Iq S.P t (ρ x) f) h K
 |.load t a=>AH S.P t (ag S.P t h (ρ a)) h K
 |.slice t x lo hi mx=>AH S.P o.type (cA S.P t (ρ x) (lo.map ρ) (hi.map ρ) (mx.map ρ) h) h K
 |.store t a x=>R4 (an S.P t (ρ a) (ρ x) h) h K
 |.alloc t=>SA (bN S.P t) h K
 |.box t x=>SA (l8 S.P t (ρ x)) h K
 |.makeSlice t l c=>SD (bM S.P t (ρ l) (ρ c)) h K
 |.buildSlice .. =>SD (aJ S.P ρ o) h K
 |.makeMap t r=>TC (match r with|none=>ue S.P t|some _=>aJ S.P ρ o) h K
 |.mapUpdate t m k x=>R4 (kY S.P t (ρ m) (ρ k) (ρ x) h) h K
 |.insert t m k x=>R4 (kY S.P t (ρ m) (ρ k) (ρ x) h) h K
 |.lookup t m k ok=>AH S.P o.type (QG S.P t (ρ m) (ρ k) ok h) h K
 |.convert s d x=>(match SJ (S.P.underlying s)with|true=>Qm (aP S.P eJ ρ o h) h K|false=>(match ρ x with|.int _ _=>nI (dC S.P s d (ρ x)) h K|.slice _ _ _=>AH S.P o.type (JO S.P s d (ρ x) h) h K|_=>Qm (aP S.P eJ ρ o h) h K))
 |.build t parts=>AH S.P o.type (bL S.P t (parts.toList.map λp=>(p.1,ρ p.2))) h K
 |.makeFunc ..|.makeInterface ..|.nilCheck ..|.typeAssert .. =>nI (aK S.P ρ o) h K
 |.panic .. =>False
 |.call { callee:= .value f,args,.. }=>HP S o.type (ρ f) (args.toList.map ρ) h K
 |.call { callee:= .builtin .len,args,argTypes }=>(match args.toList,argTypes.toList with|[x],[t]=>(match ρ x with|.map _=>AH S.P o.type (A6 S.P t (ρ x) h) h K|_=>nI (A6 S.P t (ρ x) h) h K)|_,_=>False)
 |.call { callee:= .builtin .max,args,.. }=>AH S.P o.type (mc true (args.toList.map ρ)) h K
 |.call { callee:= .builtin .min,args,.. }=>AH S.P o.type (mc false (args.toList.map ρ)) h K
 |.call { callee:= .builtin .append,args,argTypes }=>(match args.toList,argTypes.toList with|[s,x],[t,t']=>TD (aY S.P t t' (ρ s) (ρ x) h) h K|_,_=>False)
 |.call { callee:= .builtin .copy,args,argTypes }=>(match args.toList,argTypes.toList with|[d,s],[t,_]=>TA (copyV S.P t (ρ d) (ρ s) h) h K|_,_=>False)
 |.call { callee:= .builtin _,.. }=>Qm (aP S.P eJ ρ o h) h K
 |_=>Qm (aP S.P eJ ρ o h) h K
theorem dJ{P:Program}{t:TypeId}{r:Option Value}{h:aa}{K:VH}(hx:AH P t r h K):nI r h K:=by
 obtain⟨v,h1,h2⟩:=kP hx;rw[h1];exact h2
theorem vr{r:Option Value}{h:aa}{K:VH}(hx:SC r h K):nI r h K:=by
 obtain⟨v,h1,h2⟩:=hx;rw[h1];exact h2
theorem lJ{r:Option (Value×cL)}{h:aa}{K:VH}(hx:Qm r h K):zI r h K:=by
 obtain⟨v,u,h1,h2⟩:=hx;rw[h1];exact h2
theorem oV{r:Option (Value×cL)}{h:aa}{K:VH}(hx:R4 r h K):zI r h K:=by
 obtain⟨u,h1,h2⟩:=hx;rw[h1];exact h2
theorem Ei{r:Option (Value×cL)}{h:aa}{K:VH}(hx:TD r h K):zI r h K:=by
 obtain⟨a,n,c,u,h1,h2⟩:=hx;rw[h1];exact h2
theorem Eh{r:Option (Value×cL)}{h:aa}{K:VH}(hx:TA r h K):zI r h K:=by
 obtain⟨n,u,h1,h2⟩:=hx;rw[h1];exact h2
theorem ve{r:Option (bt×(Nat->Value))}{h:aa}{K:VH}(hx:SA r h K):R7 r h K:=by
 obtain⟨B,h1,h2⟩:=hx;rw[h1];exact h2
theorem vh{r:Option (bt×(Nat->Value))}{h:aa}{K:VH}(hx:SD r h K):R7 r h K:=by
 obtain⟨B,n,c,h1,h2⟩:=hx;rw[h1];exact h2
theorem vf{r:Option (bt×(Nat->Value))}{h:aa}{K:VH}(hx:TC r h K):R7 r h K:=by
 obtain⟨B,h1,h2⟩:=hx;rw[h1];exact h2
theorem HQ{S:Sx}{ty:TypeId}{f:Value}{args:List Value}{h:aa}{K:VH}(hx:HP S ty f args h K):lI S f args h K:=by
 unfold HP at hx;unfold lI;split at hx
 ·rcases pY hx with⟨hb,hx⟩|⟨_,hx⟩
  ·refine⟨by simpa[blt_eq]using hb,hx.mono λv h hx=>?_⟩;obtain⟨x,rfl,h2⟩:=kP hx;exact h2
  ·exact hx.elim
 ·exact⟨⟨rfl,rfl⟩,hx.mono λv h hx=>by
   obtain⟨x,rfl,h2⟩:=kP hx;exact h2⟩
 grind
theorem HH{P:Program}{op:BinOp}{t ty:TypeId}{x y:Value}{h:aa}{K:VH}(hx:Np P op t ty x y h K):nI (aq P op t x y) h K:=by
 unfold Np at hx
 grind[dJ]
theorem GF{c a b:Value}{h:aa}{K:VH}(hx:Jc c a b h K):nI (MW c a b) h K:=by
 unfold Jc at hx;split at hx
 ·next t=>
  rcases pY hx with⟨rfl,h1⟩|⟨rfl,h1⟩<;>exact h1
 grind
theorem nn{S:Sx}{E:Fr}{o:Oper}{h:aa}{K:VH}(hx:PA S (cZ S.gl E) o h K):wpOp S E o h K:=by
 obtain⟨dst,op,ty,pos,after,guard⟩:=o;unfold PA at hx;split at hx
 ·next e=>subst e;exact hx
 ·next e=>subst e;exact hx
 ·next e=>subst e;rw[Hf];exact GF hx
 ·next e=>subst e;rw[Eb];exact HH hx
 ·next e=>subst e;rw[Hg];exact hx
 ·next e=>subst e;rw[zx];exact hx
 ·next e=>subst e;rw[Ed];exact dJ hx
 ·next e=>subst e;rw[vp];exact vr hx
 ·next e=>subst e;rw[vo];exact vr hx
 ·next e=>subst e;rw[Ec];exact dJ hx
 ·next e=>subst e;rw[Hd];exact dJ hx
 ·next e=>subst e;rw[Ee];exact dJ hx
 ·next e=>subst e;rw[Eg];exact oV hx
 ·next e=>subst e;rw[iE _ _ _ _ _ rfl rfl rfl rfl];exact ve hx
 ·next e=>subst e;rw[iE _ _ _ _ _ rfl rfl rfl rfl];exact ve hx
 ·next e=>subst e;rw[iE _ _ _ _ _ rfl rfl rfl rfl];exact vh hx
 ·next e=>subst e;rw[iE _ _ _ _ _ rfl rfl rfl rfl];exact vh hx
 ·next t r e=>
  subst e;rw[iE _ _ _ _ _ rfl rfl rfl rfl]
  cases r with
  |none=>exact vf hx
  |some x=>exact vf hx
 ·next t m k x e=>
  subst e;rw[eE _ _ _ _ rfl];have he:aP S.P eJ (cZ S.gl E) ⟨dst,.mapUpdate t m k x,ty,pos,after,guard⟩ h=kY S.P t (cZ S.gl E m) (cZ S.gl E k) (cZ S.gl E x) h:=rfl;rw[he];exact oV hx
 ·next t m k x e=>
  subst e;rw[eE _ _ _ _ rfl];have he:aP S.P eJ (cZ S.gl E) ⟨dst,.insert t m k x,ty,pos,after,guard⟩ h=kY S.P t (cZ S.gl E m) (cZ S.gl E k) (cZ S.gl E x) h:=rfl;rw[he];exact oV hx
 ·next t m k ok e=>
  subst e;have hx:nI (aT S.P (cZ S.gl E) ⟨dst,.lookup t m k ok,ty,pos,after,guard⟩ h) h K:=dJ hx;exact(kn S E h K ⟨dst,.lookup t m k ok,ty,pos,after,guard⟩ rfl rfl rfl rfl)▸hx
 ·next e=>
  subst e;rw[eE _ _ _ _ rfl];split at hx
  ·exact lJ hx
  split at hx
  ·next k n hv=>
   unfold aP;generalize hp:aK S.P (cZ S.gl E) _=r
   cases r with
   |some v=>rw[show dC S.P _ _ _=some v from hp]at hx;exact hx
   |none=>rw[show dC S.P _ _ _=none from hp]at hx;exact hx.elim
  ·next a n c hv=>
   obtain⟨v,h1,h2⟩:=kP hx;have hp:∀s d,dC S.P s d (.slice a n c)=none:=λs d=>by unfold dC;split<;>simp_all
   have e1:∀s d x,cZ S.gl E x = .slice a n c->aK S.P (cZ S.gl E) ⟨dst,.convert s d x,ty,pos,after,guard⟩=none:=λs d x hv=>by
    show dC S.P s d (cZ S.gl E x)=none;rw[hv];exact hp s d
   have e2:∀s d x,aT S.P (cZ S.gl E) ⟨dst,.convert s d x,ty,pos,after,guard⟩ h=JO S.P s d (cZ S.gl E x) h:=λs d x=>rfl;unfold aP;rw[e1 _ _ _ hv];dsimp only;rw[e2,h1];exact h2
  ·exact lJ hx
 ·next e=>subst e;rw[cJ _ _ _ _ _ _ _ _ _ rfl];exact dJ hx
 ·next e=>subst e;rw[cJ _ _ _ _ _ _ _ _ _ rfl];exact hx
 ·next e=>subst e;rw[cJ _ _ _ _ _ _ _ _ _ rfl];exact hx
 ·next e=>subst e;rw[cJ _ _ _ _ _ _ _ _ _ rfl];exact hx
 ·next e=>subst e;rw[cJ _ _ _ _ _ _ _ _ _ rfl];exact hx
 ·exact hx.elim
 ·next e=>subst e;exact HQ hx
 ·next args ats e=>
  subst e;split at hx
  ·next x t h1 h2=>
   obtain⟨args⟩:=args;obtain⟨ats⟩:=ats;obtain rfl:args=[x]:=h1;obtain rfl:ats=[t]:=h2;have hx':nI (A6 S.P t (cZ S.gl E x) h) h K:=by
    split at hx
    ·exact dJ hx
    ·exact hx
   exact(Ka S E dst ty pos after guard h K x t).symm▸hx'
  ·exact hx.elim
 ·next e=>subst e;rw[Kb];exact dJ hx
 ·next e=>subst e;rw[Kc];exact dJ hx
 ·next args ats e=>
  subst e;split at hx
  ·next s x t t' h1 h2=>
   obtain⟨args⟩:=args;obtain⟨ats⟩:=ats;obtain rfl:args=[s,x]:=h1;obtain rfl:ats=[t,t']:=h2;exact(Cf S E dst ty pos after guard h K s x t t').symm▸Ei hx
  ·exact hx.elim
 ·next args ats e=>
  subst e;split at hx
  ·next s x t t' h1 h2=>
   obtain⟨args⟩:=args;obtain⟨ats⟩:=ats;obtain rfl:args=[s,x]:=h1;obtain rfl:ats=[t,t']:=h2;have he:wpOp S E ⟨dst,.call ⟨.builtin .copy,#[s,x],#[t,t']⟩,ty,pos,after,guard⟩ h K=zI (copyV S.P t (cZ S.gl E s) (cZ S.gl E x) h) h K:=vn S E h K _ rfl rfl rfl rfl;exact he.symm▸Eh hx
  ·exact hx.elim
 ·next e=>subst e;rw[eE _ _ _ _ rfl];exact lJ hx
 grind[eE,lJ,aI]
def GV:TS->Nat->Value->(TS->Prop)->Prop
 |[],_,_,K=>K []
 |_::l,0,v,K=>K (v::l)
 |x::l,d+1,v,K=>GV l d v λl=>K (x::l)
def Iy:TS->Nat->(Value->Prop)->Prop
 |[],_,K=>K undef
 |x::_,0,K=>K x
 |_::l,t+1,K=>Iy l t K
theorem sK:∀(l:TS)(d:Nat)(v:Value)(K:TS->Prop),GV l d v K=K (l.set d v)
 |[],_,_,_=>rfl
 |_::_,0,_,_=>rfl
 |x::l,d+1,v,K=>by rw[GV,sK l d v];rfl
theorem yE:∀(l:TS)(t:Nat)(K:Value->Prop),Iy l t K=K (l.getD t undef)
 |[],_,_=>rfl
 |_::_,0,_=>rfl
 |x::l,t+1,K=>by rw[Iy,yE l t];rfl
def zh(tm:TS)(dst:Option Tmp)(v:Value)(K:TS->Prop):Prop:=match dst with
 |some d=>GV tm d v K
 |none=>K tm
theorem sG(tm:TS)(dst:Option Tmp)(v:Value)(K:TS->Prop):zh tm dst v K=K (eB tm dst v):=by
 cases dst with
 |none=>rfl
 |some d=>exact sK _ _ _ _
def PB(S:Sx)(tm:TS)(o:Oper)(h:aa)(K:VH):Prop:=match o.op with
 |.move (.tmp t)=>Iy tm t λv=>K v h
 |.assign (.tmp t)=>Iy tm t λv=>K v h
 |_=>PA S (ev S.gl tm) o h K
theorem E0{S:Sx}{tm:TS}{o:Oper}{h:aa}{K:VH}(hx:PB S tm o h K):PA S (ev S.gl tm) o h K:=by
 unfold PB at hx;split at hx
 ·next t e=>rw[yE]at hx;unfold PA;rw[e];exact hx
 ·next t e=>rw[yE]at hx;unfold PA;rw[e];exact hx
 omega
def gS(ops:Array Oper)(tm:TS)(guard:Option (Nat×Bool))(A B:TS->Prop):Prop:=match guard with
 |none=>A tm
 | some (j,want)=>match (ops[j]?).bind (·.dst)with
  |some d=>match tm.getD d undef with
   |.bool b=>aZ b (GV tm d (.bool true) (Bool.rec (motive:=λ_=>TS->Prop) B A want)) (GV tm d (.bool false) (Bool.rec (motive:=λ_=>TS->Prop) A B want))
   |.tuple _=>B tm
   |_=>False
  |none=>False
def LR(S:Sx)(ops:Array Oper):List Oper->TS->aa->TH->Prop
 |[],tm,h,R=>R tm h
 |o::l,tm,h,R=>gS ops tm o.guard (λtm=>PB S tm o h λv h=>zh tm o.dst v λtm=>LR S ops l tm h R) (λtm=>zh tm o.dst undef λtm=>LR S ops l tm h R)
def lift(nm:Nat)(Q:TH):FH:=λE h=>∃tm:TS,tm.length=nm/\E=fr tm/\Q tm h
def EO(nm:Nat)(Q:dB):vD:=λx=>lift nm (Q x)
def MI(v:Value)(A B:Prop):Prop:=match v with
 |.bool b=>aZ b A B
 |_=>False
def El(S:Sx)(nm:Nat)(c:Code)(tm:TS)(h:aa)(Q:dB):Prop:=wk S nm c (fr tm) h (EO nm Q)
def Nd(S:Sx)(nm:Nat)(c:Code)(tm:TS)(h:aa)(Q:dB):Prop:=CD S nm c (fr tm) h (EO nm Q)
def Ru(B:TH)(Q:dB)(x:Exit)(tm:TS)(h:aa):Prop:=match x with
 |.normal=>B tm h
 |x=>Q x tm h
def CN(id:Nat)(Q:dB)(x:Exit)(tm:TS)(h:aa):Prop:=match x with
 |.exit id'=>(match Nat.beq id' id with|true=>Q .normal tm h|false=>Q (.exit id') tm h)
 |x=>Q x tm h
def room(h:aa)(n:Nat):aa:={ h with next:=h.next+n }
def Dj:Op->Bool
 |.load ..|.slice .. =>true
 |.call { callee:= .builtin .len,.. }=>true
 |_=>false
def T6:Op->Bool
 |.store .. =>true
 |.call { callee:= .value _,.. }=>true
 |_=>false
def KB(ops:Array Oper)(f:Op->Bool)(j:Nat):Bool:=match ops[j]? with|some o=>f o.op|none=>false
def A1:Op->Bool
 |.alloc ..|.box ..|.makeSlice ..|.buildSlice .. =>true
 |_=>false
def tW:Op->Bool
 |.store .. =>true
 |.call { callee:= .value _,.. }=>true
 |.call { callee:= .builtin .append,.. }|.call { callee:= .builtin .copy,.. }|.call { callee:= .builtin .unsafeSliceData,.. }|.call { callee:= .builtin .unsafeString,.. }=>true
 |_=>false
def NN(b:Bool)(A B:Prop):Prop:=Bool.rec (motive:=λ_=>Prop) B A b
def E9(S:Sx)(o:Oper)(E:Fr)(v:Value)(h:aa)(K:Prop):Prop:=match o.op with
 |.load t a=>(ag S.P t h (cZ S.gl E a)=some v/\jB 4 v v=true)/\K
 |.slice t x lo hi mx=>(cA S.P t (cZ S.gl E x) (lo.map (cZ S.gl E)) (hi.map (cZ S.gl E)) (mx.map (cZ S.gl E)) h=some v/\jB 4 v v=true)/\K
 |_=>(aT S.P (cZ S.gl E) o h=some v/\jB 4 v v=true)/\K
def nr(S:Sx)(bf:Nat->Nat->Bool)(j:Nat)(o:Oper)(E:Fr)(v:Value):aa->List (Nat×aa)->Bool->Prop->Prop
 |h,[],own,K=>NN own K (E9 S o E v h K)
 |h,(e,h')::r,own,K=>NN ((own&&Nat.blt j e)||bf j e) (NN (bf e j) K (nr S bf j o E v h' r (Nat.blt e j) K)) (E9 S o E v h (NN (bf e j) K (nr S bf j o E v h' r (Nat.blt e j) K)))
def qQ(S:Sx)(bf:Nat->Nat->Bool)(h:aa)(es:List (Nat×aa)):List Cl->Nat->Prop->Prop
 |[],_,K=>K
 |(E,o,.read v)::r,j,K=>nr S bf j o E v h es true (qQ S bf h es r (j+1) K)
 |_::r,j,K=>qQ S bf h es r (j+1) K
def Sp(S:Sx)(ρ:Operand->Value)(o:Oper)(K:bt->(Nat->Value)->Prop):Prop:=match o.op with
 |.alloc t=>∃B,bN S.P t=some (B,kj)/\K B kj
 |.box t x=>∃B,l8 S.P t (ρ x)=some (B,kj)/\K B kj
 |.makeSlice t l c=>∃B n d,bM S.P t (ρ l) (ρ c)=some (B,jE n d)/\K B (jE n d)
 |_=>∃B n d,aJ S.P ρ o=some (B,jE n d)/\K B (jE n d)
def MQ{α:Type}(op:Op)(a b c d:α):α:=match iI op with
 |true=>a
 | false=>match Dj op with
  |true=>b
  |false=>match A1 op with
   |true=>c
   |false=>d
def qb(S:Sx)(bf:Nat->Nat->Bool)(ops:Array Oper)(base:Nat)(h0:aa):List Oper->Nat->TS->aa->List (Nat×bt)->List Cl->TH->Prop
 |[],_,tm,h,pd,recs,R=>qQ S bf h0 (jN recs.reverse 0) recs.reverse 0 (R tm (aV h base pd))
 | o::l,j,tm,h,pd,recs,R=>gS ops tm o.guard
   (λtm=>MQ o.op
    (PB S tm o h λv _=>zh tm o.dst v λtm'=>qb S bf ops base h0 l (j+1) tm' h pd ((fr tm,o,.pure v)::recs) R)
    (PB S tm o h λv _=>zh tm o.dst v λtm'=>qb S bf ops base h0 l (j+1) tm' h pd ((fr tm,o,.read v)::recs) R)
    (Sp S (ev S.gl tm) o λB f=>zh tm o.dst (f (base+j)) λtm'=>qb S bf ops base h0 l (j+1) tm' h ((j,B)::pd) ((fr tm,o,.alloc B (f (base+j)))::recs) R)
    (PB S tm o (aV h base (pd.filter λp=>bf j p.1)) λv h'=>zh tm o.dst v λtm'=>qb S bf ops base h0 l (j+1) tm' h' (pd.filter λp=> !bf j p.1) ((fr tm,o,.nR v h')::recs) R))
   (λtm=>zh tm o.dst undef λtm'=>qb S bf ops base h0 l (j+1) tm' h pd ((fr tm,o,.skip)::recs) R)
def lG(ops:Array Oper):Bool:= !qm ops&&(ops.toList.all λo=>iI o.op||Dj o.op||A1 o.op||tW o.op)&&(List.range ops.size).all λe=> !KB ops tW e||(List.range ops.size).all λj=> !KB ops tW j || !Nat.blt j e||cj (eL ops) e j
def nH(tm:TS)(j:Nat):Value:=tm.getD j undef
def sn:Nat->Nat->List (Nat×Value)->(Nat->Value)->TS
 |0,_,_,_=>[]
 |n+1,j,[],x=>x j::sn n (j+1) [] x
 |n+1,j,(i,v)::l,x=>match Nat.beq i j with
  |true=>v::sn n (j+1) l x
  |false=>x j::sn n (j+1) ((i,v)::l) x
theorem yT:∀(n j:Nat)(l:List (Nat×Value))(x:Nat->Value),(∀p∈l,p.2=x p.1)->sn n j l x=(List.range' j n).map x
 |0,_,_,_,_=>by rfl
 |n+1,j,[],x,h=>by simp only[sn,List.range'_succ,List.map_cons];rw[yT n (j+1) [] x h]
 | n+1,j,(i,v)::l,x,h=>by
  simp only[sn,List.range'_succ,List.map_cons]
  cases hb:Nat.beq i j with
  |true=>
   dsimp only;rw[yT n (j+1) l x λp hp=>h p (List.mem_cons_of_mem _ hp),<-Nat.eq_of_beq_eq_true hb]
   simp_all
  |false=>
   dsimp only;rw[yT n (j+1) ((i,v)::l) x h]
theorem sB:∀(n j:Nat)(l:List (Nat×Value))(x:Nat->Value),(sn n j l x).length=n
 |0,_,_,_=>by rfl
 |n+1,j,[],x=>by simp only[sn,length_cons];rw[sB n (j+1) [] x]
 |n+1,j,(i,v)::l,x=>by
  simp only[sn]
  cases hb:Nat.beq i j with
  |true=>dsimp only;rw[length_cons,sB n (j+1) l x]
  |false=>dsimp only;rw[length_cons,sB n (j+1) ((i,v)::l) x]
theorem Cj(f:Nat->Value):∀(M:List Nat),∀p∈M.zip (M.map f),p.2=f p.1
 |[],p,h=>by simp at h
 |a::M,p,h=>by
  rw[List.map_cons,List.zip_cons_cons]at h;rcases mem_cons.1 h with rfl|h
  ·rfl
  ·exact Cj f M p h
theorem Bc{tm:TS}{nm:Nat}(hl:tm.length=nm)(M:List Nat):sn nm 0 (M.zip (M.map (nH tm))) (nH tm)=tm:=by
 rw[yT _ _ _ _ (Cj _ M)];refine List.ext_getElem? λi=>?_
 grind[nH]
def ME(S:Sx)(nm:Nat)(M:List Nat)(c:Code)(w:List Value)(h:aa)(Q:dB):Prop:=∀x:Nat->Value,El S nm c (sn nm 0 (M.zip w) x) h Q
def IP(S:Sx)(nm:Nat)(M:List Nat)(c:Code)(tm:TS)(h:aa)(Q:dB):Prop:=match Nat.beq tm.length nm with
 |true=>ME S nm M c (M.map (nH tm)) h Q
 |false=>El S nm c tm h Q
theorem Dm{S:Sx}{nm:Nat}{M:List Nat}{c:Code}{tm:TS}{h:aa}{Q:dB}(hl:tm.length=nm)(hx:IP S nm M c tm h Q):El S nm c tm h Q:=by
 unfold IP at hx;rw[hl,Nat.beq_refl]at hx;have:=hx (nH tm)
 grind[Bc]
structure FD where
 nm:Nat
 body:Code
 rs:List ResultVar
 ms:List (List Nat×List Nat)
def fo(fn:Func)(ms:List (List Nat×List Nat)):FD:=⟨fn.ntmps,fn.body.getD .skip,fn.results.toList,ms⟩
def Qi:List Nat->List Nat->Bool
 |[],[]=>true
 |a::x,b::y=>(match Nat.beq a b with
  |true=>Qi x y
  |false=>false)
 |_,_=>false
def qM:List (List Nat×List Nat)->List Nat->List Nat
 |[],_=>[]
 |(q,m)::r,p=>match Qi q p with
  |true=>m
  |false=>qM r p
def wpS(S:Sx)(nm:Nat)(M:List (List Nat×List Nat))(p:List Nat):Code->TS->aa->dB->Prop
 |.skip,tm,h,Q=>Q .normal tm h
 | .region _ ops draw,tm,h,Q=>(match draw with
  |false=>LR S ops ops.toList tm h λtm h=>Q .normal tm h
  |true=>(match lG ops with
   |true=>qb S (cj (eL ops)) ops h.next (room h ops.size) ops.toList 0 tm (room h ops.size) [] [] λtm h=>Q .normal tm h
   |false=>Pt S ops (fr tm) h (lift nm λtm h=>Q .normal tm h)))
 |.seq a b,tm,h,Q=>wpS S nm M (0::p) a tm h (Ru (λtm h=>wpS S nm M (1::p) b tm h Q) Q)
 |.cond c a b,tm,h,Q=>MI (ev S.gl tm c) (wpS S nm M (0::p) a tm h Q) (wpS S nm M (1::p) b tm h Q)
 |.block id c,tm,h,Q=>wpS S nm M (0::p) c tm h (CN id Q)
 |.loop c,tm,h,Q=>IP S nm (qM M (0::p).reverse) c tm h Q
 |.exit id,tm,h,Q=>Q (.exit id) tm h
 |.ret,tm,h,Q=>Q .ret tm h
 |.label _,tm,h,Q=>Q .normal tm h
 |.rangeFunc f ps a b,tm,h,Q=>Nd S nm (.rangeFunc f ps a b) tm h Q
 |_,_,_,_=>False
end
theorem Qo{tm:TS}{nm:Nat}(h:tm.length=nm):ER nm (fr tm) tm:=⟨h,λ_=>rfl⟩
theorem wR{tm:TS}(gl:Nat->Bool):cZ gl (fr tm)=ev gl tm:=rfl
theorem yz{tm:TS}{nm:Nat}(h:tm.length=nm){dst:Option Tmp}(hd:px nm dst=true)(v:Value):nF (fr tm) dst v=fr (eB tm dst v):=by
 funext t;exact((Qo h).put hd v).2 t |>.symm
theorem rm{tm:TS}{d:Nat}{v:Value}(h:tm.getD d undef=v):tm.set d v=tm:=by
 refine List.ext_getElem? λi=>?_
 grind
theorem AT{ops:Array Oper}{tm:TS}{guard:Option (Nat×Bool)}{A B:TS->Prop}{A' B':Unit->Prop}(hA:A tm->A' ())(hB:B tm->B' ())(hx:gS ops tm guard A B):M6 (vc ops (fr tm) guard) A' B':=by
 cases guard with
 |none=>exact hA hx
 | some g=>
  obtain⟨j,want⟩:=g;unfold gS at hx;rw[D9];dsimp only at hx
  cases hd:(ops[j]?).bind (·.dst)with
  |none=>grind
  | some d=>
   rw[hd]at hx;dsimp only at hx⊢;show M6 (match tm.getD d undef with|.bool b=>some (b==want)|.tuple _=>some false|_=>none) A' B'
   cases hv:tm.getD d undef with
   | bool b=>
    rw[hv]at hx;dsimp only at hx⊢;rcases pY hx with⟨rfl,h1⟩|⟨rfl,h1⟩
    ·rw[sK,rm hv]at h1
     cases want
     ·exact hB h1
     ·exact hA h1
    ·rw[sK,rm hv]at h1
     cases want
     ·exact hA h1
     ·exact hB h1
   |tuple vs=>rw[hv]at hx;exact hB hx
   |_=>rw[hv]at hx;exact hx.elim
theorem Cg{r:Option (Value×cL)}{h:aa}{K K':VH}(hk:∀v h,K v h->K' v h)(hx:zI r h K):zI r h K':=by
 cases r with
 |none=>exact hx
 |some p=>obtain⟨v,u⟩:=p;exact hk _ _ hx
theorem rO{S:Sx}{f:Value}{args:List Value}{h:aa}{K K':VH}(hk:∀v h,K v h->K' v h)(hx:lI S f args h K):lI S f args h K':=by
 unfold lI at hx⊢;split at hx
 ·exact⟨hx.1,hx.2.mono hk⟩
 ·exact⟨hx.1,hx.2.mono hk⟩
 omega
theorem He{S:Sx}{E:Fr}{o:Oper}{h:aa}{K K':VH}(hk:∀v h,K v h->K' v h)(hx:wpOp S E o h K):wpOp S E o h K':=by grind[rO,Cg,wpOp]
theorem oM{S:Sx}{nm:Nat}{ops:Array Oper}{R:TH}{R':FH}(hR:∀tm h,tm.length=nm->R tm h->R' (fr tm) h):∀(l:List Oper){tm:TS}{h:aa},tm.length=nm->(l.all λo=>px nm o.dst)=true->LR S ops l tm h R->Ko S ops l (fr tm) h R'
 |[],_,_,hl,_,hx=>hR _ _ hl hx
 |o::l,tm,h,hl,hd,hx=>by
  simp only[all_cons,and_eq_true]at hd;rw[J9];refine AT (λhx=>?_) (λhx=>?_) hx
  ·show wpOp S (fr tm) o h (TW S ops o.dst l (fr tm) R');have hx:=E0 hx;rw[<-wR]at hx;refine He (λv h hx=>?_) (nn hx);show Ko S ops l (nF (fr tm) o.dst v) h R';rw[yz hl hd.1];rw[sG]at hx;exact oM hR l (by grind[ga]) hd.2 hx
  ·show Ko S ops l (nF (fr tm) o.dst undef) h R';rw[yz hl hd.1];rw[sG]at hx;exact oM hR l (by grind[ga]) hd.2 hx
theorem vk{S:Sx}{E:Fr}{o:Oper}{h:aa}{K K':VH}(hk:∀v h,K v h->K' v h)(hx:vj S E o h K):vj S E o h K':=by grind[rO,Cg,vj]
theorem J8{r:Option Bool}{A B A' B':Unit->Prop}(hA:A ()->A' ())(hB:B ()->B' ())(hx:M6 r A B):M6 r A' B':=by
 rcases zv hx with⟨rfl,h⟩|⟨rfl,h⟩
 ·exact hA h
 ·exact hB h
theorem jh{S:Sx}{bf:Nat->Nat->Bool}{ops:Array Oper}{base:Nat}{h0:aa}{R R':FH}(hR:∀E h,R E h->R' E h):∀(l:List Oper)(j:Nat)(E:Fr)(h:aa)(pd:List (Nat×bt))(recs:List Cl),qd S bf ops base h0 l j E h pd recs R->qd S bf ops base h0 l j E h pd recs R'
 |[],_,_,_,_,_,hx=>⟨hx.1,hR _ _ hx.2⟩
 | o::l,j,E,h,pd,recs,hx=>by
  simp only[qd]at hx⊢;refine J8 (λhx=>?_) (λhx=>jh hR l _ _ _ _ _ hx) hx
  cases hp:aK S.P (cZ S.gl E) o with
  |some v=>rw[hp]at hx;exact jh hR l _ _ _ _ _ hx
  | none=>
   rw[hp]at hx;dsimp only at hx⊢
   cases hp2:aT S.P (cZ S.gl E) o h with
   |some v=>rw[hp2]at hx;exact jh hR l _ _ _ _ _ hx
   | none=>
    rw[hp2]at hx;dsimp only at hx⊢
    cases hp3:aJ S.P (cZ S.gl E) o with
    |some p=>obtain⟨B,f⟩:=p;rw[hp3]at hx;exact jh hR l _ _ _ _ _ hx
    |none=>
     rw[hp3]at hx;dsimp only at hx⊢;exact vk (λv h' hx=>jh hR l _ _ _ _ _ hx) hx
theorem J7{S:Sx}{ops:Array Oper}{E:Fr}{h:aa}{R R':FH}(hR:∀E h,R E h->R' E h)(hx:Pt S ops E h R):Pt S ops E h R':=⟨hx.1,jh hR _ _ _ _ _ _ hx.2⟩
theorem No{ops:Array Oper}{f:Op->Bool}{j:Nat}(h:KB ops f j=true):j<ops.size:=by grind[KB]
theorem tS{b:Bool}{A B:Prop}(h:NN b A B):(b=true/\A)\/(b=false/\B):=by
 cases b with
 |true=>exact .inl ⟨rfl,h⟩
 |false=>exact .inr ⟨rfl,h⟩
theorem mX{S:Sx}{o:Oper}{E:Fr}{v:Value}{h:aa}{K:Prop}(hx:E9 S o E v h K):xj S o E v h=true/\K:=by
 obtain⟨dst,op,ty,pos,after,guard⟩:=o;have key:(aT S.P (cZ S.gl E) ⟨dst,op,ty,pos,after,guard⟩ h=some v/\jB 4 v v=true)/\K:=by
  unfold E9 at hx;split at hx
  ·next e=>subst e;exact hx
  ·next e=>subst e;exact hx
  ·exact hx
 grind[xj]
theorem oa{S:Sx}{bf:Nat->Nat->Bool}{j:Nat}{o:Oper}{E:Fr}{v:Value}{K:Prop}:∀{es:List (Nat×aa)}{h:aa}{own:Bool},nr S bf j o E v h es own K->jW S bf j o E v h es own=true/\K
 |[],h,own,hx=>by
  rcases tS hx with⟨rfl,h1⟩|⟨rfl,h1⟩
  ·exact⟨rfl,h1⟩
  ·exact⟨(mX h1).1,(mX h1).2⟩
 | (e,h')::r,h,own,hx=>by
  have tl:∀{K'':Prop},NN (bf e j) K (nr S bf j o E v h' r (Nat.blt e j) K)->((bf e j||jW S bf j o E v h' r (Nat.blt e j))=true)/\K:=λhx=>by
   rcases tS hx with⟨h2,h3⟩|⟨h2,h3⟩
   ·grind
   ·have:=oa h3
    grind
  have hx:NN ((own&&Nat.blt j e)||bf j e) _ _:=hx;simp only[jW,and_eq_true];rcases tS hx with⟨h2,h3⟩|⟨h2,h3⟩
  ·simp_all
  ·obtain⟨h4,h5⟩:=mX h3
   simp_all
theorem ll{S:Sx}{bf:Nat->Nat->Bool}{h:aa}{es:List (Nat×aa)}{K:Prop}:∀{l:List Cl}{j:Nat},qQ S bf h es l j K->oP S bf h es l j=true/\K
 |[],_,hx=>⟨rfl,hx⟩
 | (E,o,e)::r,j,hx=>by
  cases e with
  |read v=>
   have h1:=oa (show nr S bf j o E v h es true (qQ S bf h es r (j+1) K)from hx);have h2:=ll h1.2
   grind[oP]
  |_=>exact ll (l:=r) hx
def wh(ops:Array Oper)(i:Nat)(l:List Cl):Prop:=∀k r,l[k]?=some r->∀v g,r.2.2 = .nR v g->KB ops tW (i+k)=true
theorem oz{ops:Array Oper}:∀{l:List Cl}{i:Nat},wh ops i l->∀p∈jN l i,KB ops tW p.1=true/\i<=p.1
 |[],_,_=>by simp[jN]
 | r::l,i,hc=>by
  have hc':wh ops (i+1) l:=λk r h=>by
   have:=hc (k+1) r (by simpa using h)
   grind
  obtain⟨E,o,e⟩:=r;intro p hp;have tl:p∈jN l (i+1)->KB ops tW p.1=true/\i<=p.1:=λh=>⟨(oz hc' p h).1,by have:=(oz hc' p h).2;omega⟩
  cases e with
  |nR v g=>
   rcases mem_cons.1 hp with rfl|hp
   ·exact⟨hc 0 _ rfl v g rfl,Nat.le_refl _⟩
   grind
  |_=>exact tl hp
theorem m4{ops:Array Oper}(hs:lG ops=true):∀{l:List Cl}{i:Nat},wh ops i l->chained (cj (eL ops)) (jN l i)=true
 |[],_,_=>rfl
 | r::l,i,hc=>by
  have hc':wh ops (i+1) l:=λk r h=>by
   have:=hc (k+1) r (by simpa using h)
   grind
  obtain⟨E,o,e⟩:=r;have ih:=m4 hs hc'
  cases e with
  | nR v g=>
   show chained (cj (eL ops)) ((i,g)::jN l (i+1))=true;have hall:=oz hc'
   cases hes:jN l (i+1)with
   |nil=>rfl
   |cons p es=>
    obtain⟨j,g'⟩:=p;rw[hes]at ih hall;show(cj (eL ops) j i&&chained (cj (eL ops)) ((j,g')::es))=true;rw[ih,Bool.and_true];have h1:=hc 0 _ rfl v g rfl;have h2:=hall (j,g') (mem_cons_self ..);unfold lG at hs;simp only[and_eq_true]at hs;have h3:=all_eq_true.1 hs.2 j (List.mem_range.2 (No h2.1));rw[h2.1]at h3;simp only[Bool.not_true,Bool.false_or]at h3
    grind[blt_eq,KB]
  |_=>exact ih
theorem Fv{S:Sx}{ρ:Operand->Value}{o:Oper}(ha:A1 o.op=true){K:bt->(Nat->Value)->Prop}(hx:Sp S ρ o K):∃B f,aJ S.P ρ o=some (B,f)/\K B f:=by
 obtain⟨dst,op,ty,pos,after,guard⟩:=o;unfold Sp at hx;split at hx
 ·next e=>subst e;obtain⟨B,h1,h2⟩:=hx;exact⟨B,_,h1,h2⟩
 ·next e=>subst e;obtain⟨B,h1,h2⟩:=hx;exact⟨B,_,h1,h2⟩
 ·next e=>subst e;obtain⟨B,n,d,h1,h2⟩:=hx;exact⟨B,_,h1,h2⟩
 grind
theorem qY{S:Sx}{nm:Nat}{ops:Array Oper}(hst:lG ops=true){base:Nat}{h0:aa}{R:TH}{R':FH}(hR:∀tm h,tm.length=nm->R tm h->R' (fr tm) h):∀(l:List Oper)(j:Nat)(tm:TS)(h:aa)(pd:List (Nat×bt))(recs:List Cl),tm.length=nm->(l.all λo=>px nm o.dst)=true->ops.toList.drop j=l->recs.length=j->wh ops 0 recs.reverse->qb S (cj (eL ops)) ops base h0 l j tm h pd recs R->qd S (cj (eL ops)) ops base h0 l j (fr tm) h pd recs R'
 |[],j,tm,h,pd,recs,hl,_,_,_,hr,hx=>by
  have h1:=ll (show qQ S (cj (eL ops)) h0 (jN recs.reverse 0) recs.reverse 0 (R tm (aV h base pd))from hx);refine⟨?_,hR _ _ hl h1.2⟩
  grind[m4,pw]
 | o::l,j,tm,h,pd,recs,hl,hd,hdr,hrl,hr,hx=>by
  have ho:ops[j]?=some o:=by
   have:(ops.toList.drop j)[0]?=some o:=by rw[hdr];rfl
   rw[getElem?_drop]at this;rw[<-Array.getElem?_toList];simpa using this
  have hdr':ops.toList.drop (j+1)=l:=by rw[<-drop_drop,hdr];rfl
  simp only[all_cons,and_eq_true]at hd;have conf:∀e,(∀v g,e=iF.nR v g->tW o.op=true)->wh ops 0 ((fr tm,o,e)::recs).reverse:=by
   intro e h2 k r hk;rw[List.reverse_cons]at hk;rcases lt_or_ge k recs.reverse.length with h3|h3
   ·rw[List.getElem?_append_left h3]at hk;exact hr k r hk
   ·rw[List.getElem?_append_right h3]at hk;have hk0:k-recs.reverse.length=0:=by
     rcases eq_zero_or_pos (k-recs.reverse.length)with h4|h4
     ·exact h4
     ·rw[getElem?_eq_none (by simp only[length_cons,List.length_nil];omega)]at hk;cases hk
    rw[hk0]at hk;obtain rfl:=oI hk
    grind[KB]
  simp only[qd];refine AT (λhx=>?_) (λhx=>?_) hx
  ·have go:∀v e g pd',(∀v g,e=iF.nR v g->tW o.op=true)->zh tm o.dst v (λtm'=>qb S (cj (eL ops)) ops base h0 l (j+1) tm' g pd' ((fr tm,o,e)::recs) R)->qd S (cj (eL ops)) ops base h0 l (j+1) (nF (fr tm) o.dst v) g pd' ((fr tm,o,e)::recs) R':=by
    intro v e g pd' h2 hx;rw[sG]at hx;rw[yz hl hd.1];exact qY hst hR l (j+1) _ g _ _ (by grind[ga]) hd.2 hdr' (by grind) (conf e h2) hx
   have hkind:(iI o.op||Dj o.op||A1 o.op||tW o.op)=true:=by
    have hc:=hst;unfold lG at hc;simp only[and_eq_true]at hc;exact all_eq_true.1 hc.1.2 o (List.mem_of_mem_drop (i:=j) (by grind))
   obtain⟨dst,op,ty,pos,after,guard⟩:=o;unfold MQ at hx
   cases hp:iI op with
   |true=>
    rw[show iI (Oper.mk dst op ty pos after guard).op=true from hp]at hx;have hx:=nn (E:=fr tm) (by rw[wR];exact E0 hx)
    grind[cJ,nI]
   |false=>
   rw[show iI (Oper.mk dst op ty pos after guard).op=false from hp]at hx;dsimp only at hx
   cases hp2:Dj op with
   | true=>
    rw[show Dj (Oper.mk dst op ty pos after guard).op=true from hp2]at hx;have hx:=nn (E:=fr tm) (by rw[wR];exact E0 hx);have key:aK S.P (cZ S.gl (fr tm)) ⟨dst,op,ty,pos,after,guard⟩=none/\aI ⟨dst,op,ty,pos,after,guard⟩=false/\aJ S.P (cZ S.gl (fr tm)) ⟨dst,op,ty,pos,after,guard⟩=none/\cB S.P eJ (cZ S.gl (fr tm)) ⟨dst,op,ty,pos,after,guard⟩ h=none:=by
     clear hx conf go hkind hp ho;revert hp2
     cases op with
     |load=>intro _;exact⟨rfl,rfl,rfl,rfl⟩
     |slice=>intro _;exact⟨rfl,rfl,rfl,rfl⟩
     |call c=>
      obtain⟨callee,args,ats⟩:=c
      cases callee with
      |builtin b=>cases b<;>intro hp<;>first|exact⟨rfl,rfl,rfl,rfl⟩|cases hp
      |_=>intro hp;cases hp
     |_=>intro hp;cases hp
    grind[kn,nI]
   |false=>
   rw[show Dj (Oper.mk dst op ty pos after guard).op=false from hp2]at hx;dsimp only at hx
   cases hp3:A1 op with
   | true=>
    rw[show A1 (Oper.mk dst op ty pos after guard).op=true from hp3]at hx;rw[<-wR]at hx;obtain⟨B,f,h1,h2⟩:=Fv hp3 hx;have key:aK S.P (cZ S.gl (fr tm)) ⟨dst,op,ty,pos,after,guard⟩=none/\aT S.P (cZ S.gl (fr tm)) ⟨dst,op,ty,pos,after,guard⟩ h=none:=by
     clear hx conf go hkind hp ho h1 h2 hp2;revert hp3
     cases op<;>intro hp3<;>first|exact⟨rfl,rfl⟩|cases hp3
    grind
   |false=>
   rw[show A1 (Oper.mk dst op ty pos after guard).op=false from hp3]at hx;dsimp only at hx;have hp4:tW op=true:=by
    have hk:(iI op||Dj op||A1 op||tW op)=true:=hkind;rw[hp,hp2,hp3]at hk;exact hk
   have hx:=nn (E:=fr tm) (by rw[wR];exact E0 hx);generalize aV h base (pd.filter λp=>cj (eL ops) j p.1)=hs at hx⊢;have key:(∀h,aK S.P (cZ S.gl (fr tm)) ⟨dst,op,ty,pos,after,guard⟩=none/\aT S.P (cZ S.gl (fr tm)) ⟨dst,op,ty,pos,after,guard⟩ h=none/\aJ S.P (cZ S.gl (fr tm)) ⟨dst,op,ty,pos,after,guard⟩=none)/\
     ∀K:VH,wpOp S (fr tm) ⟨dst,op,ty,pos,after,guard⟩ hs K->vj S (fr tm) ⟨dst,op,ty,pos,after,guard⟩ hs K:=by
    clear hx conf go hkind hp ho hp2 hp3;revert hp4
    cases op with
    |store t a x=>intro _;exact⟨λ_=>⟨rfl,rfl,rfl⟩,λK hx=>by rw[vn _ _ _ _ _ rfl rfl rfl rfl]at hx;exact hx⟩
    |call c=>
     obtain⟨callee,args,ats⟩:=c
     cases callee with
     |value f=>intro _;exact⟨λ_=>⟨rfl,rfl,rfl⟩,λK hx=>hx⟩
     |builtin b=>cases b<;>intro hp4<;>first|exact⟨λ_=>⟨rfl,rfl,rfl⟩,λK hx=>by rw[vn _ _ _ _ _ rfl rfl rfl rfl]at hx;exact hx⟩|cases hp4
     |_=>intro hp;cases hp
    |_=>intro hp;cases hp
   rw[(key.1 h).1];dsimp only;rw[(key.1 h).2.1];dsimp only;rw[(key.1 h).2.2]
   grind[vk]
  ·rw[sG]at hx;rw[yz hl hd.1];exact qY hst hR l (j+1) _ h _ _ (by grind[ga]) hd.2 hdr' (by grind) (conf .skip (by simp)) hx
theorem ia{S:Sx}{nm:Nat}{M:List (List Nat×List Nat)}:∀(c:Code){p:List Nat}{tm:TS}{h:aa}{Q:dB}{Q':vD},tm.length=nm->eT nm c=true->(∀x tm h,tm.length=nm->Q x tm h->Q' x (fr tm) h)->wpS S nm M p c tm h Q->J5 S nm c (fr tm) h Q'
 |.skip,_,_,_,_,_,hl,_,hQ,hx=>hQ _ _ _ hl hx
 |.exit _,_,_,_,_,_,hl,_,hQ,hx=>hQ _ _ _ hl hx
 |.ret,_,_,_,_,_,hl,_,hQ,hx=>hQ _ _ _ hl hx
 |.label _,_,_,_,_,_,hl,_,hQ,hx=>hQ _ _ _ hl hx
 | .region _ ops draw,p,tm,h,Q,Q',hl,hd,hQ,hx=>by
  cases draw with
  |false=>exact oM (λtm h hl hx=>hQ _ _ _ hl hx) ops.toList hl hd hx
  | true=>
   cases hst:lG ops with
   |true=>
    have hx:(match lG ops with|true=>qb S (cj (eL ops)) ops h.next (room h ops.size) ops.toList 0 tm (room h ops.size) [] [] λtm h=>Q .normal tm h|false=>_):=hx;rw[hst]at hx;refine⟨?_,qY hst (λtm h hl hx=>hQ _ _ _ hl hx) ops.toList 0 tm _ [] [] hl hd rfl rfl (λk r h=>by simp at h) hx⟩
    simp_all[lG]
   |false=>
   have hx:(match lG ops with|true=>_|false=>Pt S ops (fr tm) h (lift nm λtm h=>Q .normal tm h)):=hx;rw[hst]at hx;refine J7 (λE h hx=>?_) (show Pt S ops (fr tm) h (lift nm λtm h=>Q .normal tm h)from hx);obtain⟨tm',h1,rfl,h2⟩:=hx
   grind
 |.seq a b,p,tm,h,Q,Q',hl,hd,hQ,hx=>by
  simp only[eT,and_eq_true]at hd;refine ia a hl hd.1 (λx tm h hl hx=>?_) hx
  cases x with
  |normal=>exact ia b hl hd.2 hQ hx
  |_=>exact hQ _ _ _ hl hx
 | .cond c a b,p,tm,h,Q,Q',hl,hd,hQ,hx=>by
  simp only[eT,and_eq_true]at hd;rw[J6,wR];simp only[wpS]at hx;unfold MI at hx;split at hx
  ·next t he=>
   rw[he];rcases pY hx with⟨rfl,h1⟩|⟨rfl,h1⟩
   ·exact ia a hl hd.1 hQ h1
   ·exact ia b hl hd.2 hQ h1
  grind
 | .block id c,p,tm,h,Q,Q',hl,hd,hQ,hx=>by
  refine ia c hl hd (λx tm h hl hx=>?_) hx
  cases x with
  | exit id'=>
   show if id'=id then Q' .normal (fr tm) h else Q' (.exit id') (fr tm) h;simp only[CN]at hx
   cases hb:Nat.beq id' id with
   |true=>simp_all
   |false=>
    rw[hb]at hx;rw[if_neg (Nat.ne_of_beq_eq_false hb)];grind
  |_=>exact hQ _ _ _ hl hx
 |.loop c,p,tm,h,Q,Q',hl,hd,hQ,hx=>by
  obtain⟨x,E',h',h1,h2⟩:=(show wk S nm c (fr tm) h (EO nm Q)from Dm hl hx)
  refine⟨x,E',h',h1,?_⟩;obtain⟨tm',h3,rfl,h4⟩:=h2
  grind
 |.rangeFunc f ps a b,p,tm,h,Q,Q',hl,hd,hQ,hx=>by
  obtain⟨x,E',h',h1,h2⟩:=(show CD S nm (.rangeFunc f ps a b) (fr tm) h (EO nm Q)from hx)
  refine⟨x,E',h',h1,?_⟩;obtain⟨tm',h3,rfl,h4⟩:=h2
  grind
 |.scope _,_,_,_,_,_,_,_,_,hx=>hx.elim
 |.goto _,_,_,_,_,_,_,_,_,hx=>hx.elim
 |.refuse _,_,_,_,_,_,_,_,_,hx=>hx.elim
def Sc(I:Nat->TH)(n:Nat)(tm:TS)(h:aa):Prop:=∃m,m<n/\I m tm h
def O8(I:Nat->TH)(n:Nat)(Q:dB)(x:Exit)(tm:TS)(h:aa):Prop:=match x with
 |.normal=>Sc I n tm h
 |x=>Q x tm h
def E7:Code->Nat->Oper
 |.region _ ops _,i=>ops.toList.getD i ⟨none,.nilCheck (.tmp 0),0,"",#[],none⟩
 |_,_=>⟨none,.nilCheck (.tmp 0),0,"",#[],none⟩
def gJ:List Nat->Code->Code
 |[],c=>c
 |0::p,.seq a _=>gJ p a
 |_::p,.seq _ b=>gJ p b
 |0::p,.cond _ a _=>gJ p a
 |_::p,.cond _ _ b=>gJ p b
 |_::p,.block _ a=>gJ p a
 |_::p,.loop a=>gJ p a
 |0::p,.rangeFunc _ _ a _=>gJ p a
 |_::p,.rangeFunc _ _ _ b=>gJ p b
 |_,_=> .skip
theorem Dl{S:Sx}{nm:Nat}{M:List (List Nat×List Nat)}{p:List Nat}{c:Code}{Q:dB}(hd:eT nm c=true)(I:Nat->TH)(hI:∀n tm h,tm.length=nm->I n tm h->wpS S nm M p c tm h (O8 I n Q)):∀n tm h,tm.length=nm->I n tm h->El S nm c tm h Q:=by
 intro n
 induction n using Nat.strongRecOn with
 | _ n ih=>
  intro tm h hl hi;refine IQ hd (ia c hl hd (λx tm h hl hx=>?_) (hI n tm h hl hi))
  cases x with
  |normal=>
   obtain⟨m,hm,hi'⟩:=hx;exact ih m hm tm h hl hi'
  |_=>exact⟨tm,hl,rfl,hx⟩
def ba(A:Nat->List Value->aa->Prop)(n:Nat)(w:List Value)(h:aa):Prop:=∃m,m<n/\A m w h
def O7(M:List Nat)(A:Nat->List Value->aa->Prop)(n:Nat)(Q:dB)(x:Exit)(tm:TS)(h:aa):Prop:=match x with
 |.normal=>ba A n (M.map (nH tm)) h
 |x=>Q x tm h
theorem az{A B:Prop}(h:A)(e:A=B:=by kernel_rfl):B:=cast e h
def Px(S:Sx)(nm:Nat)(M:List (List Nat×List Nat)):List Nat->List Nat->Code->dB->dB
 |_,[],_,K=>K
 |p,0::q,.seq a b,K=>Px S nm M (0::p) q a (Ru (λtm h=>wpS S nm M (1::p) b tm h K) K)
 |p,_::q,.seq _ b,K=>Px S nm M (1::p) q b K
 |p,0::q,.cond _ a _,K=>Px S nm M (0::p) q a K
 |p,_::q,.cond _ _ b,K=>Px S nm M (1::p) q b K
 |p,_::q,.block id a,K=>Px S nm M (0::p) q a (CN id K)
 |_,_,_,K=>K
def LL(S:Sx)(X:FD)(p:List Nat)(w:List Value)(h:aa)(Q:dB):Prop:=ME S X.nm (qM X.ms p) (gJ p X.body) w h Q
def TT(S:Sx)(X:FD)(p:List Nat)(tm:TS)(h:aa)(Q:dB):Prop:=wpS S X.nm X.ms p.reverse (gJ p X.body) tm h Q
def KK(S:Sx)(X:FD)(q p:List Nat)(K:dB):dB:=Px S X.nm X.ms p.reverse q (gJ p X.body) K
def RR(X:FD)(p:List Nat)(A:Nat->List Value->aa->Prop)(n:Nat)(Q:dB):dB:=O7 (qM X.ms p) A n Q
theorem xg{S:Sx}{X:FD}{p:List Nat}{K:dB}(A:Nat->List Value->aa->Prop)(hd:eT X.nm (gJ p X.body)=true)
  (step:∀n w (x:Nat->Value) h,A n w h->TT S X p (sn X.nm 0 ((qM X.ms p).zip w) x) h (RR X p A n K)) (n:Nat) {w:List Value} {h:aa} (hA:A n w h) (hq:∀x:Nat->Value,(qM X.ms p).map (nH (sn X.nm 0 ((qM X.ms p).zip w) x))=w):LL S X p w h K:=λx=>
 Dl (M:=X.ms) (p:=p.reverse) hd (λm tm h=>A m ((qM X.ms p).map (nH tm)) h) (λm tm h hl hi=>by
  have:=step m ((qM X.ms p).map (nH tm)) (nH tm) h hi;rw[Bc hl]at this;exact this) n _ h (sB ..) (by grind)
def lZ{α:Type}(W:α->LV)(I:Nat->α->aa->Prop)(n:Nat)(w:LV)(h:aa):Prop:=∃a,w=W a/\I n a h
theorem eH{α:Type}{W:α->LV}{I:Nat->α->aa->Prop}{n:Nat}(m:Nat){a:α}{h:aa}(hm:m<n)(hi:I m a h):ba (lZ W I) n (W a) h:=⟨m,hm,a,rfl,hi⟩
theorem gH{S:Sx}{X:FD}{p:List Nat}{K:dB}{α:Type}(W:α->LV)(I:Nat->α->aa->Prop)
  (step:∀n (a:α) (x:Nat->Value) h,I n a h->TT S X p (sn X.nm 0 ((qM X.ms p).zip (W a)) x) h (RR X p (lZ W I) n K)) (n:Nat) {a:α} {h:aa} (hi:I n a h) (hd:eT X.nm (gJ p X.body)=true:=by kernel_rfl) (hq:∀x:Nat->Value,(qM X.ms p).map (nH (sn X.nm 0 ((qM X.ms p).zip (W a)) x))=W a:=by intro;kernel_rfl):LL S X p (W a) h K:=
 xg (lZ W I) hd (λn w x h ⟨a,hw,hi⟩=>by grind) n ⟨a,rfl,hi⟩ hq
def zE{α β:Type}(W:α->β->LV)(I:Nat->α->β->aa->Prop)(n:Nat)(w:LV)(h:aa):Prop:=∃a b,w=W a b/\I n a b h
theorem lT{α β:Type}{W:α->β->LV}{I:Nat->α->β->aa->Prop}{n:Nat}(m:Nat){a:α}{b:β}{h:aa}(hm:m<n)(hi:I m a b h):ba (zE W I) n (W a b) h:=⟨m,hm,a,b,rfl,hi⟩
theorem uS{S:Sx}{X:FD}{p:List Nat}{K:dB}{α β:Type}(W:α->β->LV)(I:Nat->α->β->aa->Prop)
  (step:∀n (a:α) (b:β) (x:Nat->Value) h,I n a b h->TT S X p (sn X.nm 0 ((qM X.ms p).zip (W a b)) x) h (RR X p (zE W I) n K)) (n:Nat) {a:α} {b:β} {h:aa} (hi:I n a b h) (hd:eT X.nm (gJ p X.body)=true:=by kernel_rfl) (hq:∀x:Nat->Value,(qM X.ms p).map (nH (sn X.nm 0 ((qM X.ms p).zip (W a b)) x))=W a b:=by intro;kernel_rfl):LL S X p (W a b) h K:=
 xg (zE W I) hd (λn w x h ⟨a,b,hw,hi⟩=>by grind) n ⟨a,b,rfl,hi⟩ hq
def Nb{α β γ:Type}(W:α->β->γ->LV)(I:Nat->α->β->γ->aa->Prop)(n:Nat)(w:LV)(h:aa):Prop:=∃a b c,w=W a b c/\I n a b c h
theorem AV{α β γ:Type}{W:α->β->γ->LV}{I:Nat->α->β->γ->aa->Prop}{n:Nat}(m:Nat){a:α}{b:β}{c:γ}{h:aa}(hm:m<n)(hi:I m a b c h):ba (Nb W I) n (W a b c) h:=⟨m,hm,a,b,c,rfl,hi⟩
theorem Jy{S:Sx}{X:FD}{p:List Nat}{K:dB}{α β γ:Type}(W:α->β->γ->LV)(I:Nat->α->β->γ->aa->Prop)
  (step:∀n (a:α) (b:β) (c:γ) (x:Nat->Value) h,I n a b c h->TT S X p (sn X.nm 0 ((qM X.ms p).zip (W a b c)) x) h (RR X p (Nb W I) n K)) (n:Nat) {a:α} {b:β} {c:γ} {h:aa} (hi:I n a b c h) (hd:eT X.nm (gJ p X.body)=true:=by kernel_rfl) (hq:∀x:Nat->Value,(qM X.ms p).map (nH (sn X.nm 0 ((qM X.ms p).zip (W a b c)) x))=W a b c:=by intro;kernel_rfl):LL S X p (W a b c) h K:=
 xg (Nb W I) hd (λn w x h ⟨a,b,c,hw,hi⟩=>by grind) n ⟨a,b,c,rfl,hi⟩ hq
def Cq{α β γ δ:Type}(W:α->β->γ->δ->LV)(I:Nat->α->β->γ->δ->aa->Prop)(n:Nat)(w:LV)(h:aa):Prop:=∃a b c d,w=W a b c d/\I n a b c d h
theorem EI{α β γ δ:Type}{W:α->β->γ->δ->LV}{I:Nat->α->β->γ->δ->aa->Prop}{n:Nat}(m:Nat){a:α}{b:β}{c:γ}{d:δ}{h:aa}(hm:m<n)(hi:I m a b c d h):ba (Cq W I) n (W a b c d) h:=⟨m,hm,a,b,c,d,rfl,hi⟩
theorem Jz{S:Sx}{X:FD}{p:List Nat}{K:dB}{α β γ δ:Type}(W:α->β->γ->δ->LV)(I:Nat->α->β->γ->δ->aa->Prop)
  (step:∀n (a:α) (b:β) (c:γ) (d:δ) (x:Nat->Value) h,I n a b c d h->TT S X p (sn X.nm 0 ((qM X.ms p).zip (W a b c d)) x) h (RR X p (Cq W I) n K)) (n:Nat) {a:α} {b:β} {c:γ} {d:δ} {h:aa} (hi:I n a b c d h) (hd:eT X.nm (gJ p X.body)=true:=by kernel_rfl) (hq:∀x:Nat->Value,(qM X.ms p).map (nH (sn X.nm 0 ((qM X.ms p).zip (W a b c d)) x))=W a b c d:=by intro;kernel_rfl):LL S X p (W a b c d) h K:=
 xg (Cq W I) hd (λn w x h ⟨a,b,c,d,hw,hi⟩=>by grind) n ⟨a,b,c,d,rfl,hi⟩ hq
def Cr{α β γ δ ε:Type}(W:α->β->γ->δ->ε->LV)(I:Nat->α->β->γ->δ->ε->aa->Prop)(n:Nat)(w:LV)(h:aa):Prop:=∃a b c d e,w=W a b c d e/\I n a b c d e h
theorem nS{α β γ δ ε:Type}{W:α->β->γ->δ->ε->LV}{I:Nat->α->β->γ->δ->ε->aa->Prop}{n:Nat}(m:Nat){a:α}{b:β}{c:γ}{d:δ}{e:ε}{h:aa}(hm:m<n)(hi:I m a b c d e h):ba (Cr W I) n (W a b c d e) h:=⟨m,hm,a,b,c,d,e,rfl,hi⟩
theorem JA{S:Sx}{X:FD}{p:List Nat}{K:dB}{α β γ δ ε:Type}(W:α->β->γ->δ->ε->LV)(I:Nat->α->β->γ->δ->ε->aa->Prop)
  (step:∀n (a:α) (b:β) (c:γ) (d:δ) (e:ε) (x:Nat->Value) h,I n a b c d e h->TT S X p (sn X.nm 0 ((qM X.ms p).zip (W a b c d e)) x) h (RR X p (Cr W I) n K)) (n:Nat) {a:α} {b:β} {c:γ} {d:δ} {e:ε} {h:aa} (hi:I n a b c d e h) (hd:eT X.nm (gJ p X.body)=true:=by kernel_rfl) (hq:∀x:Nat->Value,(qM X.ms p).map (nH (sn X.nm 0 ((qM X.ms p).zip (W a b c d e)) x))=W a b c d e:=by intro;kernel_rfl):LL S X p (W a b c d e) h K:=
 xg (Cr W I) hd (λn w x h ⟨a,b,c,d,e,hw,hi⟩=>by grind) n ⟨a,b,c,d,e,rfl,hi⟩ hq
def R2{α β γ δ ε ζ:Type}(W:α->β->γ->δ->ε->ζ->LV)(I:Nat->α->β->γ->δ->ε->ζ->aa->Prop)(n:Nat)(w:LV)(h:aa):Prop:=∃a b c d e f,w=W a b c d e f/\I n a b c d e f h
theorem Qt{α β γ δ ε ζ:Type}{W:α->β->γ->δ->ε->ζ->LV}{I:Nat->α->β->γ->δ->ε->ζ->aa->Prop}{n:Nat}(m:Nat){a:α}{b:β}{c:γ}{d:δ}{e:ε}{f:ζ}{h:aa}(hm:m<n)(hi:I m a b c d e f h):ba (R2 W I) n (W a b c d e f) h:=⟨m,hm,a,b,c,d,e,f,rfl,hi⟩
theorem Rs{S:Sx}{X:FD}{p:List Nat}{K:dB}{α β γ δ ε ζ:Type}(W:α->β->γ->δ->ε->ζ->LV)(I:Nat->α->β->γ->δ->ε->ζ->aa->Prop)
  (step:∀n (a:α) (b:β) (c:γ) (d:δ) (e:ε) (f:ζ) (x:Nat->Value) h,I n a b c d e f h->TT S X p (sn X.nm 0 ((qM X.ms p).zip (W a b c d e f)) x) h (RR X p (R2 W I) n K)) (n:Nat) {a:α} {b:β} {c:γ} {d:δ} {e:ε} {f:ζ} {h:aa} (hi:I n a b c d e f h) (hd:eT X.nm (gJ p X.body)=true:=by kernel_rfl) (hq:∀x:Nat->Value,(qM X.ms p).map (nH (sn X.nm 0 ((qM X.ms p).zip (W a b c d e f)) x))=W a b c d e f:=by intro;kernel_rfl):LL S X p (W a b c d e f) h K:=
 xg (R2 W I) hd (λn w x h ⟨a,b,c,d,e,f,hw,hi⟩=>by grind) n ⟨a,b,c,d,e,f,rfl,hi⟩ hq
noncomputable def DJ(S:Sx)(tm:TS)(h:aa):List ResultVar->Option (List Value)
 |[]=>some []
 |.tmp t::r=>(DJ S tm h r).map (tm.getD t undef::·)
 |.cell a t::r=>match ag S.P t h (tm.getD a undef)with
  |some v=>(DJ S tm h r).map (v::·)
  |none=>none
theorem sI(S:Sx)(tm:TS)(h:aa):∀l,nG S (fr tm) h l=DJ S tm h l
 |[]=>rfl
 |.tmp t::r=>by simp only[nG,DJ,sI S tm h r,fr]
 |.cell a t::r=>by simp only[nG,DJ,sI S tm h r,fr];try (cases ag S.P t h (tm.getD a undef)<;>rfl)
noncomputable def Qh(S:Sx)(rs:List ResultVar)(Q:VH)(x:Exit)(tm:TS)(h:aa):Prop:=match x with
 |.normal=>rP (DJ S tm h rs) h Q
 |.ret=>rP (DJ S tm h rs) h Q
 |_=>False
noncomputable def Jv(S:Sx)(h:aa):List (Value×Option TypeId)->Option (List Value)
 |[]=>some []
 |(v,none)::r=>(Jv S h r).map (v::·)
 |(a,some t)::r=>match ag S.P t h a with
  |some v=>(Jv S h r).map (v::·)
  |none=>none
noncomputable def iP(S:Sx)(l:List (Value×Option TypeId))(h:aa)(Q:VH):Prop:=rP (Jv S h l) h Q
theorem Ay{S:Sx}{a:Value}{t:TypeId}{v:Value}{h:aa}{Q:VH}(hl:ag S.P t h a=some v)(hq:Q v h):iP S [(a,some t)] h Q:=by
 unfold iP;simp only[Jv,hl];exact hq
theorem Az{S:Sx}{a:Value}{t:TypeId}{v w:Value}{h:aa}{Q:VH}(hl:ag S.P t h a=some v)(hq:Q (.tuple ⟨[v,w]⟩) h):iP S [(a,some t),(w,none)] h Q:=by
 unfold iP;simp only[Jv,hl];exact hq
noncomputable def EE(S:Sx)(X:FD)(Q:VH):dB:=Qh S X.rs Q
theorem fy{S:Sx}(X:FD){f:FuncId}{fn:Func}{args:List Value}{h:aa}{Q:VH}(hf:S.P.funcs[f]?=some fn)
  (hw:wpS S X.nm X.ms [] X.body (args++List.replicate (X.nm-args.length) undef) h (EE S X Q)) (hX:X=fo fn X.ms:=by kernel_rfl) (hp:(Nat.blt f YB&&(S.pr f).isNone&&Nat.ble args.length X.nm&&eT X.nm X.body&&fn.body.isSome)=true:=by kernel_rfl):FW S f args h Q:=by
 have e1:X.nm=fn.ntmps:=by rw[hX];rfl
 have e2:X.body=fn.body.getD .skip:=by rw[hX];rfl
 have e3:X.rs=fn.results.toList:=by rw[hX];rfl
 unfold EE at hw;rw[e1,e2,e3]at hw;rw[e1,e2]at hp;simp only[and_eq_true,blt_eq,Nat.ble_eq,Option.isNone_iff_eq_none]at hp;obtain⟨⟨⟨⟨h1,h2⟩,h3⟩,h4⟩,h5⟩:=hp;obtain⟨c,hb⟩:=Option.isSome_iff_exists.1 h5;rw[hb]at hw h4;have hw:wpS S fn.ntmps X.ms [] c (args++List.replicate (fn.ntmps-args.length) undef) h (Qh S fn.results.toList Q):=hw;have h4:eT fn.ntmps c=true:=h4;have hl:(args++List.replicate (fn.ntmps-args.length) undef).length=fn.ntmps:=by simp;omega
 have he:fr (args++List.replicate (fn.ntmps-args.length) undef)=Nn args:=by
  funext t;show(args++List.replicate (fn.ntmps-args.length) undef).getD t undef=args.getD t undef;simp only[gD];by_cases h5:t<args.length
  ·grind
  ·grind
 refine Qs hf hb h1 h2 h3 h4 ?_;rw[<-he];refine ia c hl h4 (λx tm h _ hx=>?_) hw
 cases x with
 |normal=>show rP (nG S (fr tm) h _) h Q;rw[sI];exact hx
 |ret=>show rP (nG S (fr tm) h _) h Q;rw[sI];exact hx
 |_=>exact hx.elim
theorem aB{n:Int}(h1: -9223372036854775808<=n)(h2:n<9223372036854775808):wrap .i64 n=n:=by grind[IntKind.wrap_i64]
theorem dM{n:Int}(h1:0<=n)(h2:n<18446744073709551616):wrap .u64 n=n:=by grind[IntKind.wrap_u64]
theorem q6{n:Int}(h1:0<=n)(h2:n<256):wrap .u8 n=n:=by grind[IntKind.wrap_u8]
theorem nh{P:Program}{t:TypeId}(hU:P.underlying t=some .string)(l:List UInt8)(k:IntKind){i:Int}(h0:0<=i)(h1:i<l.length):bu P t (strOf l) (.int k i)=some (.int .u8 ((l.getD i.toNat 0).toNat:Nat)):=by simp_all[bu,strOf]
theorem km{P:Program}{t:TypeId}(hU:P.underlying t=some .string)(l:List UInt8){h:aa}{lo hi:Option Value}{a b:Nat}(ha:dy lo 0=some (a:Int))(hb:dy hi l.length=some (b:Int))(h1:a<=b)(h2:b<=l.length):cA P t (strOf l) lo hi none h=some (strOf ((l.drop a).take (b-a))):=by simp_all[cA,strOf]
structure Ok(h0 h:aa):Prop where
 wf:∀k B,h.get k=some B->k<h.next
 ext:∀k B,h0.get k=some B->h.get k=some B
 nx:h0.next<=h.next
def Wf(h:aa):Prop:=∀k B,h.get k=some B->k<h.next
theorem Ok.refl{h:aa}(w:Wf h):Ok h h:=⟨w,λ_ _ h=>h,Nat.le_refl _⟩
theorem Ok.trans{h0 h1 h2:aa}(a:Ok h0 h1)(b:Ok h1 h2):Ok h0 h2:=⟨b.wf,λk B h=>b.ext k B (a.ext k B h),Nat.le_trans a.nx b.nx⟩
theorem Ok.push{h0 h:aa}(a:Ok h0 h)(B:bt):Ok h0 (h.push B):=by
 refine⟨aa.j0 a.wf B,λk C hk=>?_,Nat.le_trans a.nx (le_succ _)⟩;have h1:=a.ext k C hk;rw[aa.aM,if_neg (λe=>by have:=a.wf _ _ h1;omega)];omega
theorem Ok.set{h0 h:aa}(a:Ok h0 h){k:Nat}(B:bt)(hk:h0.next<=k)(hk2:k<h.next)(w0:Wf h0):Ok h0 (h.set k B):=by
 refine⟨λj C hj=>?_,λj C hj=>?_,a.nx⟩
 ·rw[aa.aR]at hj;split at hj
  ·simp_all
  ·exact a.wf _ _ hj
 ·rw[aa.aR,if_neg (λe=>by have:=w0 _ _ hj;omega)];exact a.ext _ _ hj
theorem Ok.room{h0 h:aa}(a:Ok h0 h)(n:Nat):Ok h0 (room h n):=⟨λk B hk=>lt_of_lt_of_le (a.wf k B hk) (Nat.le_add_right _ _),a.ext,Nat.le_trans a.nx (Nat.le_add_right _ _)⟩
def dO(h0 h:aa)(e:TypeId)(v:Value)(vs:List Value):Prop:=
 (v = .slice none 0 0/\vs=[])\/ ∃k cs,v = .slice (some ⟨k,0,none⟩) vs.length (bR+cs.length)/\h0.next<=k/\h.get k=some (.cells cs e 1 true)/\cs.take vs.length=vs/\vs.length<=cs.length
theorem dO.push{h0 h:aa}{e:TypeId}{v:Value}{vs:List Value}(a:Ok h0 h)(o:dO h0 h e v vs)(B:bt):dO h0 (h.push B) e v vs:=by
 rcases o with o|⟨k,cs,h1,h2,h3,h4,h5⟩
 ·exact .inl o
 ·refine .inr ⟨k,cs,h1,h2,?_,h4,h5⟩;rw[aa.aM,if_neg (λe=>by have:=a.wf _ _ h3;omega)];omega
theorem dO.snoc{P:Program}{t e:TypeId}{i:TypeInfo}(hU:P.underlying t=some (.slice e))(hE:e9 P e=some i)(hs:i.size=1){h0 h:aa}(w0:Wf h0)(a:Ok h0 h){v:Value}{vs:List Value}(o:dO h0 h e v vs){x:Value}(hx:cH x=true)(hl:(vs.length+1)*i.bytes<=70368744177664)(hl2:vs.length+1<=1099511627776):
  ∃(b:Option Addr)(n c:Nat)(u:cL),aY P t t v (jE 1 1 h.next) (h.push (.cells [x] e 1 true))=some (.slice b n c,u)/\n=vs.length+1/\dO h0 (u.app (h.push (.cells [x] e 1 true))) e (.slice b n c) (vs++[x])/\Ok h0 (u.app (h.push (.cells [x] e 1 true))):=by
 have hT:dm P t=true:=by unfold dm;rw[hU]
 have hsrc:fw (h.push (.cells [x] e 1 true)) i.size (jE 1 1 h.next)=some ([x],1):=by
  show(match (h.push (.cells [x] e 1 true)).get h.next with|some (.cells cs ..)=>if((cs.drop 0).take (1*i.size)).length=1*i.size then some ((cs.drop 0).take (1*i.size),1)else none|_=>none)=_;rw[aa.aM,if_pos rfl,hs];rfl
 have hap:=dO.push a o (.cells [x] e 1 true);have a':=a.push (.cells [x] e 1 true);generalize hh:h.push (.cells [x] e 1 true)=g at*;have hgn:h.next<g.next:=by rw[<-hh];exact Nat.lt_succ_self _
 unfold aY;rw[hU];dsimp only;rw[hE];dsimp only;rw[if_pos hT,hsrc];dsimp only;rw[if_pos (by grind)];rcases hap with⟨rfl,rfl⟩|⟨k,cs,rfl,h2,h3,h4,h5⟩
 ·show ∃b n c u,(if 1=0 then some (Value.slice none 0 0,cL.no)else if 1*i.bytes<=70368744177664/\1<=1099511627776 then some (Value.slice (some ⟨g.next,0,none⟩) 1 (bR+1),cL.push (.cells [x] e i.size true))else none)=_/\_;rw[if_neg (by omega),if_pos (by grind)];refine⟨_,_,_,_,rfl,rfl,.inr ⟨g.next,[x],rfl,a'.nx,?_,rfl,by simp⟩,a'.push _⟩;show(g.push (.cells [x] e i.size true)).get g.next=_;rw[aa.aM,if_pos rfl,hs]
 ·dsimp only;rw[if_neg (by omega),hs,mul_one];have hcap:aX (bR+cs.length)=cs.length:=by unfold aX;rw[if_pos (by omega)];omega
  rw[hcap];have hkn:=a'.wf _ _ h3;by_cases hroom:vs.length+1<=cs.length
  ·rw[if_pos hroom];unfold storeAt;rw[zero_add,h3];dsimp only;rw[if_pos ⟨by omega,by grind⟩];refine⟨_,_,_,_,rfl,rfl,.inr ⟨k,cs.take vs.length++[x]++cs.drop (vs.length+1),?_,h2,?_,?_,?_⟩,?_⟩
   ·grind
   ·show(g.set k _).get k=_;simp[aa.aR]
   ·grind
   ·grind
   ·exact a'.set _ h2 hkn w0
  ·rw[if_neg hroom];have hcl:cs.length=vs.length:=by omega
   unfold gQ;rw[if_pos ⟨hl,hl2⟩,h3];dsimp only;rw[mul_one,if_pos ⟨rfl,rfl,by grind⟩,if_neg (by omega),if_pos ⟨rfl,by omega⟩];refine⟨_,_,_,_,rfl,rfl,.inr ⟨g.next,vs++[x],?_,a'.nx,?_,?_,?_⟩,?_⟩
   ·grind
   ·show((g.del k).push _).get g.next=_
    simp_all[aa.aM]
   ·grind
   ·omega
   ·refine⟨?_,λj C hj=>?_,Nat.le_trans a'.nx (le_succ _)⟩
    ·refine aa.j0 (λj C hj=>?_) _;rw[aa.de]at hj;split at hj
     ·grind
     ·exact a'.wf _ _ hj
    ·have h7:=a'.ext _ _ hj;have h8:=a'.wf _ _ h7;show((g.del k).push _).get j=_;rw[aa.aM,if_neg (λe=>by have:j=g.next:=e;omega),aa.de,if_neg (λe=>by have:=w0 _ _ hj;omega)];omega
def Rd(h:aa)(e:TypeId)(v:Value)(vs:List Value):Prop:=
 (v = .slice none 0 0/\vs=[])\/ ∃k off cs c wr,v = .slice (some ⟨k,off,none⟩) vs.length c/\h.get k=some (.cells cs e 1 wr)/\(cs.drop off).take vs.length=vs
theorem dO.rd{h0 h:aa}{e:TypeId}{v:Value}{vs:List Value}(o:dO h0 h e v vs):Rd h e v vs:=by
 rcases o with o|⟨k,cs,h1,h2,h3,h4,h5⟩
 ·exact .inl o
 ·exact .inr ⟨k,0,cs,_,true,h1,h3,by grind⟩
theorem Rd.ok{h h':aa}{e:TypeId}{v:Value}{vs:List Value}(r:Rd h e v vs)(o:Ok h h'):Rd h' e v vs:=by
 rcases r with r|⟨k,off,cs,c,wr,h1,h2,h3⟩
 ·exact .inl r
 ·exact .inr ⟨k,off,cs,c,wr,h1,o.ext _ _ h2,h3⟩
theorem Rd.len{h:aa}{e:TypeId}{a:Option Addr}{n c:Nat}{vs:List Value}(r:Rd h e (.slice a n c) vs):n=vs.length:=by
 rcases r with⟨h1,rfl⟩|⟨k,off,cs,c,wr,h1,h2,h3⟩
 all_goals grind
theorem dO.len{h0 h:aa}{e:TypeId}{a:Option Addr}{n c:Nat}{vs:List Value}(r:dO h0 h e (.slice a n c) vs):n=vs.length:=r.rd.len
theorem Rd.at_{P:Program}{t e:TypeId}{d:TypeDesc}(hU:P.underlying t=some (.slice e))(hs:aw P e=some 1)(hd:P.underlying e=some d)(hg:isAgg P e=false){h:aa}{v:Value}{vs:List Value}(r:Rd h e v vs){k:IntKind}{i:Int}(h0:0<=i)(h1:i<vs.length):
  ∃p:Addr,af P t v (.int k i)=some (.pointer (some p))/\ag P e h (.pointer (some p))=some (vs.getD i.toNat undef):=by
 rcases r with⟨_,rfl⟩|⟨b,off,cs,c,wr,rfl,h3,h4⟩
 ·grind
 ·refine⟨⟨b,off+i.toNat*1,none⟩,?_,?_⟩
  ·simp_all[af,Addr.add]
  ·unfold ag
   grind
def tg(c:UInt8):Value:= .int .u8 (c.toNat:Nat)
theorem mw:∀l:List UInt8,bytesOf (l.map tg)=some l
 |[]=>rfl
 |c::l=>by
  have hc:c.toNat<256:=c.toNat_lt;show(if 0<=((c.toNat:Nat):Int)/\((c.toNat:Nat):Int)<256 then(bytesOf (l.map tg)).map (UInt8.ofNat ((c.toNat:Nat):Int).toNat::·)else none)=_;rw[if_pos (by omega),mw l,toNat_natCast];simp
theorem dO.ok{h0 h h':aa}{e:TypeId}{v:Value}{vs:List Value}(r:dO h0 h e v vs)(o:Ok h h'):dO h0 h' e v vs:=by
 rcases r with r|⟨k,cs,h1,h2,h3,h4,h5⟩
 ·exact .inl r
 ·exact .inr ⟨k,cs,h1,h2,o.ext _ _ h3,h4,h5⟩
theorem dO.upto{P:Program}{t e:TypeId}(hU:P.underlying t=some (.slice e))(hs:aw P e=some 1){h0 h:aa}{v:Value}{vs:List Value}(r:dO h0 h e v vs){z:Nat}(hz:z<=vs.length)(hp:0<vs.length):
  ∃a n c,cA P t v none (some (.int .i64 (z:Int))) none h=some (.slice a n c)/\dO h0 h e (.slice a n c) (vs.take z):=by
 rcases r with⟨rfl,rfl⟩|⟨k,cs,rfl,h2,h3,h4,h5⟩
 ·grind
 ·refine⟨some ⟨k,0+0*1,none⟩,z,bR+cs.length,?_,.inr ⟨k,cs,?_,h2,h3,?_,?_⟩⟩
  ·unfold cA;dsimp only;rw[hU];dsimp only[dy];rw[hs,h3];dsimp only;have hcap:aX (bR+cs.length)=cs.length:=by unfold aX;rw[if_pos (by omega)];omega
   rw[if_pos (by simp),hcap,if_pos (by omega)];have e2:((z:Int)-((0:Nat):Int)).toNat=z:=by omega
   have e0:((0:Nat):Int).toNat=0:=rfl;rw[e2,e0];rfl
  all_goals grind
theorem pM(k:IntKind)(a b:Int):mc true [.int k a,.int k b]=some (.int k (if b>a then b else a)):=by simp[mc]
theorem dL{P:Program}{t:TypeId}{k:IntKind}{a:Int}{b:Nat}(h0:0<=a)(hb:0<b):aq P .rem t (.int k a) (.int k (b:Int))=some (.int k (a%(b:Int))):=by grind[KE]
theorem jV{P:Program}{t:TypeId}{a:Int}{b:Nat}(h0:0<=a)(h1:a<18446744073709551616)(hb:0<b):aq P .quo t (.int .u64 a) (.int .u64 (b:Int))=some (.int .u64 (a/(b:Int))):=by
 rw[Es P t .u64 _ _ (by omega),Int.tdiv_eq_ediv_of_nonneg h0,dM (Int.ediv_nonneg h0 (by omega)) (Int.lt_of_le_of_lt (Int.ediv_le_self _ h0) h1)]
def setAt:List Nat->Code->Code->Code
 |[],n,_=>n
 |0::p,n,.seq a b=> .seq (setAt p n a) b
 |_::p,n,.seq a b=> .seq a (setAt p n b)
 |0::p,n,.cond c a b=> .cond c (setAt p n a) b
 |_::p,n,.cond c a b=> .cond c a (setAt p n b)
 |_::p,n,.block i c=> .block i (setAt p n c)
 |_::p,n,.loop c=> .loop (setAt p n c)
 |_::_,_,c=>c
theorem gb:∀(p:List Nat)(c:Code),setAt p (gJ p c) c=c
 |[],c=>rfl
 |i::p,c=>by
  cases c with
  |seq a b=>cases i<;>simp only[gJ,setAt,gb p]
  |cond c a b=>cases i<;>simp only[gJ,setAt,gb p]
  |block i c=>simp only[gJ,setAt,gb p]
  |loop c=>simp only[gJ,setAt,gb p]
  |_=>simp only[setAt]
theorem dO.Ry{P:Program}{t e:TypeId}{i:TypeInfo}(hU:P.underlying t=some (.slice e))(hE:e9 P e=some i)(hs:i.size=1){h0 h:aa}(w0:Wf h0)(a:Ok h0 h){v:Value}{vs:List Value}(o:dO h0 h e v vs){x:Value}(hx:cH x=true)(hl:(vs.length+1)*i.bytes<=70368744177664)(hl2:vs.length+1<=1099511627776):
  ∃(b:Option Addr)(n c:Nat)(u:cL),aY P t t v (jE 1 1 h.next) (h.push (.cells [x] e 1 true))=some (.slice b n c,u)/\n=vs.length+1/\dO h0 (u.app (h.push (.cells [x] e 1 true))) e (.slice b n c) (vs++[x])/\Ok h0 (u.app (h.push (.cells [x] e 1 true)))/\
   (∀j B,h.get j=some B->(∀o n c,v≠ .slice (some ⟨j,o,none⟩) n c)->(u.app (h.push (.cells [x] e 1 true))).get j=some B)/\
   (∀j o m d,Value.slice b n c = .slice (some ⟨j,o,none⟩) m d->h.next<=j\/ ∃o n c,v = .slice (some ⟨j,o,none⟩) n c):=by
 have hT:dm P t=true:=by unfold dm;rw[hU]
 have hsrc:fw (h.push (.cells [x] e 1 true)) i.size (jE 1 1 h.next)=some ([x],1):=by
  show(match (h.push (.cells [x] e 1 true)).get h.next with|some (.cells cs ..)=>if((cs.drop 0).take (1*i.size)).length=1*i.size then some ((cs.drop 0).take (1*i.size),1)else none|_=>none)=_;rw[aa.aM,if_pos rfl,hs];rfl
 have hap:=dO.push a o (.cells [x] e 1 true);have a':=a.push (.cells [x] e 1 true);have old:∀j B,h.get j=some B->(h.push (.cells [x] e 1 true)).get j=some B:=λj B hj=>by
  rw[aa.aM,if_neg (λe=>by have:=a.wf _ _ hj;omega)];omega
 have oldn:∀j B,h.get j=some B->j<h.next:=λj B hj=>a.wf _ _ hj;generalize hh:h.push (.cells [x] e 1 true)=g at*;have hgn:h.next<g.next:=by rw[<-hh];exact Nat.lt_succ_self _
 unfold aY;rw[hU];dsimp only;rw[hE];dsimp only;rw[if_pos hT,hsrc];dsimp only;rw[if_pos (by grind)];rcases hap with⟨rfl,rfl⟩|⟨k,cs,rfl,h2,h3,h4,h5⟩
 ·show ∃b n c u,(if 1=0 then some (Value.slice none 0 0,cL.no)else if 1*i.bytes<=70368744177664/\1<=1099511627776 then some (Value.slice (some ⟨g.next,0,none⟩) 1 (bR+1),cL.push (.cells [x] e i.size true))else none)=_/\_;rw[if_neg (by omega),if_pos (by grind)];refine⟨_,_,_,_,rfl,rfl,.inr ⟨g.next,[x],rfl,a'.nx,?_,rfl,by simp⟩,a'.push _,λj B hj _=>?_,λj o m d e=> .inl ?_⟩
  rotate_left
  ·show(g.push _).get j=_;rw[aa.aM,if_neg (λe=>by have:=oldn _ _ hj;omega)]
   grind
  ·grind
  show(g.push (.cells [x] e i.size true)).get g.next=_;rw[aa.aM,if_pos rfl,hs]
 ·dsimp only;rw[if_neg (by omega),hs,mul_one];have hcap:aX (bR+cs.length)=cs.length:=by unfold aX;rw[if_pos (by omega)];omega
  rw[hcap];have hkn:=a'.wf _ _ h3;by_cases hroom:vs.length+1<=cs.length
  ·rw[if_pos hroom];unfold storeAt;rw[zero_add,h3];dsimp only;rw[if_pos ⟨by omega,by grind⟩];refine⟨_,_,_,_,rfl,rfl,.inr ⟨k,cs.take vs.length++[x]++cs.drop (vs.length+1),?_,h2,?_,?_,?_⟩,?_,λj B hj hv=>?_,λj o m d e=> .inr ?_⟩
   rotate_left 5
   ·show(g.set k _).get j=_;rw[aa.aR,if_neg (λe=>hv 0 _ _ (by rw[e]))]
    grind
   ·grind
   ·grind
   ·show(g.set k _).get k=_;simp[aa.aR]
   ·grind
   ·grind
   ·exact a'.set _ h2 hkn w0
  ·rw[if_neg hroom];have hcl:cs.length=vs.length:=by omega
   unfold gQ;rw[if_pos ⟨hl,hl2⟩,h3];dsimp only;rw[mul_one,if_pos ⟨rfl,rfl,by grind⟩,if_neg (by omega),if_pos ⟨rfl,by omega⟩];refine⟨_,_,_,_,rfl,rfl,.inr ⟨g.next,vs++[x],?_,a'.nx,?_,?_,?_⟩,?_,λj B hj hv=>?_,λj o m d e=> .inl ?_⟩
   rotate_left 5
   ·show((g.del k).push _).get j=_;rw[aa.aM,if_neg (λe=>by have:=oldn _ _ hj;have:j=g.next:=e;omega),aa.de,if_neg (λe=>hv 0 _ _ (by rw[e]))]
    grind
   ·grind
   ·grind
   ·show((g.del k).push _).get g.next=_
    simp_all[aa.aM]
   ·grind
   ·omega
   ·refine⟨?_,λj C hj=>?_,Nat.le_trans a'.nx (le_succ _)⟩
    ·refine aa.j0 (λj C hj=>?_) _;rw[aa.de]at hj;split at hj
     ·grind
     ·exact a'.wf _ _ hj
    ·have h7:=a'.ext _ _ hj;have h8:=a'.wf _ _ h7;show((g.del k).push _).get j=_;rw[aa.aM,if_neg (λe=>by have:j=g.next:=e;omega),aa.de,if_neg (λe=>by have:=w0 _ _ hj;omega)];omega
def CC(h0 h:aa)(e:TypeId)(v:Value)(vs:List Value):Prop:=
 (v = .slice none 0 0/\vs=[])\/ ∃k,v = .slice (some ⟨k,0,none⟩) vs.length (bR+vs.length)/\h0.next<=k/\h.get k=some (.cells vs e 1 true)
theorem CC.Sg{P:Program}{t e t':TypeId}{i:TypeInfo}(hU:P.underlying t=some (.slice e))(hE:e9 P e=some i)(hs:i.size=1)(hT:dm P t'=true){h0 h:aa}(w0:Wf h0)(a:Ok h0 h){v:Value}{vs:List Value}(o:CC h0 h e v vs){x:Value}{news:List Value}(hsrc:fw h 1 x=some (news,news.length))(hx:news.all cH=true)(hl:(vs.length+news.length)*i.bytes<=70368744177664)(hl2:vs.length+news.length<=1099511627776):
  ∃(b:Option Addr)(n c:Nat)(u:cL),aY P t t' v x h=some (.slice b n c,u)/\CC h0 (u.app h) e (.slice b n c) (vs++news)/\Ok h0 (u.app h)/\(∀j B,h.get j=some B->(∀o n c,v≠ .slice (some ⟨j,o,none⟩) n c)->(u.app h).get j=some B):=by
 have oldn:∀j B,h.get j=some B->j<h.next:=λj B hj=>a.wf _ _ hj;unfold aY;rw[hU];dsimp only;rw[hE];dsimp only;rw[if_pos hT,hs,hsrc];dsimp only;rw[if_pos ⟨hx,by omega⟩];rcases o with⟨rfl,rfl⟩|⟨k,rfl,h2,h3⟩
 ·show ∃b n c u,(if news.length=0 then some (Value.slice none 0 0,cL.no)else if news.length*i.bytes<=70368744177664/\news.length<=1099511627776 then some (Value.slice (some ⟨h.next,0,none⟩) news.length (bR+news.length),cL.push (.cells news e 1 true))else none)=_/\_;by_cases hz:news.length=0
  ·have hn:news=[]:=List.eq_nil_of_length_eq_zero hz;subst hn;exact⟨_,_,_,_,rfl,.inl ⟨rfl,rfl⟩,a,λj B hj _=>hj⟩
  ·rw[if_neg hz,if_pos (by grind)];refine⟨_,_,_,_,rfl,.inr ⟨h.next,by simp,a.nx,?_⟩,a.push _,λj B hj _=>?_⟩
   ·show(h.push _).get h.next=_;simp[aa.aM]
   ·show(h.push _).get j=_;rw[aa.aM,if_neg (λe=>by have:=oldn _ _ hj;omega)];omega
 ·dsimp only;have hkn:=a.wf _ _ h3;by_cases hz:news.length=0
  ·have hn:news=[]:=List.eq_nil_of_length_eq_zero hz;subst hn;refine⟨_,_,_,_,rfl,.inr ⟨k,by simp,h2,by rw[List.append_nil];exact h3⟩,a,λj B hj _=>hj⟩
  ·rw[if_neg hz,mul_one];have hcap:aX (bR+vs.length)=vs.length:=by unfold aX;rw[if_pos (by omega)];omega
   rw[hcap,if_neg (by omega)];unfold gQ;rw[if_pos ⟨hl,hl2⟩,h3];dsimp only;rw[mul_one,if_pos ⟨rfl,rfl,by simp⟩,if_neg (by omega),if_pos ⟨rfl,by omega⟩];refine⟨_,_,_,_,rfl,.inr ⟨h.next,by simp,a.nx,?_⟩,?_,λj B hj hv=>?_⟩
   ·show((h.del k).push _).get h.next=_
    simp_all[aa.aM]
   ·refine⟨?_,λj C hj=>?_,Nat.le_trans a.nx (le_succ _)⟩
    ·refine aa.j0 (λj C hj=>?_) _;rw[aa.de]at hj
     simp_all
    ·have h7:=a.ext _ _ hj;have h8:=a.wf _ _ h7;show((h.del k).push _).get j=_;rw[aa.aM,if_neg (λe=>by have:j=h.next:=e;omega),aa.de,if_neg (λe=>by have:=w0 _ _ hj;omega)];omega
   ·show((h.del k).push _).get j=_;rw[aa.aM,if_neg (λe=>by have:=oldn _ _ hj;have:j=h.next:=e;omega),aa.de,if_neg (λe=>hv 0 _ _ (by rw[e]))];omega
theorem yC{S:Sx}{f:FuncId}{p:jD}{args:List Value}{h h':aa}{v:Value}{Q:VH}(hY:Nat.ble YB f=false)(hp:S.pr f=some p)(hr:∀cf,p cf args h=some (v,h'))(hq:Q v h'):FW S f args h Q:=by
 refine⟨v,h',⟨1,λn hn=>?_⟩,hq⟩;obtain⟨m,rfl⟩:∃m,n=m+1:=⟨n-1,by omega⟩
 have hY':¬YB<=f:=λh=>by rw[<-Nat.ble_eq]at h;rw[hY]at h;cases h
 simp_all[if_neg,aQ]
theorem Ft(k i j:Nat):Addr.add ⟨k,i,none⟩ j=⟨k,i+j,none⟩:=by simp[Addr.add]
theorem F5{P:Program}{t e:TypeId}{sz:Nat}(hU:P.underlying t=some (.slice e))(hs:aw P e=some sz){k off n c:Nat}{ik:IntKind}{i:Int}(h0:0<=i)(h1:i<n):af P t (.slice (some ⟨k,off,none⟩) n c) (.int ik i)=some (.pointer (some ⟨k,off+i.toNat*sz,none⟩)):=by simp_all[Ft,af]
theorem eI{P:Program}{t:TypeId}{d:TypeDesc}(hU:P.underlying t=some d)(ha:isAgg P t=false){h:aa}{k i:Nat}{cs:List Value}{e:TypeId}{sz:Nat}{wr:Bool}(hg:h.get k=some (.cells cs e sz wr))(hi:i<cs.length):ag P t h (.pointer (some ⟨k,i,none⟩))=some (cs.getD i undef):=by simp_all[ag]
theorem rC{P:Program}{t:TypeId}{d:TypeDesc}{sz:Nat}(hU:P.underlying t=some d)(ha:isAgg P t=true)(hs:aw P t=some sz){h:aa}{k i:Nat}{cs:List Value}{e:TypeId}{z:Nat}{wr:Bool}(hg:h.get k=some (.cells cs e z wr))(hi:i+sz<=cs.length):ag P t h (.pointer (some ⟨k,i,none⟩))=some (.agg ⟨(cs.drop i).take sz⟩):=by
 unfold ag
 grind
theorem zq{P:Program}{t:TypeId}(hs:aw P t=some 1){h:aa}{k i:Nat}{cs:List Value}{e:TypeId}{sz:Nat}(hg:h.get k=some (.cells cs e sz true))(hi:i<cs.length){v:Value}(hv:cH v=true)(hc:v.cells = #[v]):an P t (.pointer (some ⟨k,i,none⟩)) v h=some (undef,.set k (.cells (cs.set i v) e sz true)):=by
 unfold an;dsimp only;rw[hc,if_pos (show aw P t=some (#[v]:Array Value).size from hs)];unfold storeAt;rw[hg];dsimp only;rw[if_pos ⟨by simp;omega,by simp[hv]⟩]
 simp_all[List.set_eq_take_append_cons_drop]
structure xX(hb:aa)(kt:Nat)(e:TypeId)(vs:List Value)(g:aa):Prop where
 row:g.get kt=some (.cells vs e 1 true)
 new:hb.next<=kt
 ok:Ok hb g
theorem xX.lt{hb:aa}{kt:Nat}{e:TypeId}{vs:List Value}{g:aa}(m:xX hb kt e vs g):kt<g.next:=m.ok.wf _ _ m.row
theorem xX.trans{hb:aa}{kt:Nat}{e:TypeId}{vs:List Value}{g g':aa}(m:xX hb kt e vs g)(o:Ok g g'):xX hb kt e vs g':=⟨o.ext _ _ m.row,m.new,m.ok.trans o⟩
theorem xX.set{hb:aa}(w:Wf hb){kt:Nat}{e:TypeId}{vs:List Value}{g:aa}(m:xX hb kt e vs g)(j:Nat)(v:Value):xX hb kt e (vs.set j v) ((cL.set kt (.cells (vs.set j v) e 1 true)).app g):=by
 refine⟨?_,m.new,m.ok.set _ m.new m.lt w⟩;show(g.set kt _).get kt=_;rw[aa.aR,if_pos rfl]
theorem rR(z:Value)(n:Nat):bC [z] n=List.replicate n z:=by
 induction n with
 |zero=>rfl
 |succ n ih=>grind[bC]
theorem L9{α:Type}(f:α->Value)(L:List α)(j:Nat)(d:α):(L.map f).set j (f d)=(L.set j d).map f:=by simp
def wI:Value:= .slice (some ⟨0,0,some 0⟩) 0 0
def zZ(h:aa)(e:TypeId)(sz:Nat)(v:Value)(rs:List (List Value)):Prop:=
 (∀r∈rs,r.length=sz)/\(((v = .slice none 0 0\/v=wI)/\rs=[])\/ ∃k off cs e' z c wr,v = .slice (some ⟨k,off,none⟩) rs.length c/\h.get k=some (.cells cs e' z wr)/\off+rs.length*sz<=cs.length/\∀(i:Nat)(r:List Value),rs[i]?=some r->(cs.drop (off+i*sz)).take sz=r)
theorem zZ.ok{h h':aa}{e:TypeId}{sz:Nat}{v:Value}{rs:List (List Value)}(r:zZ h e sz v rs)(o:Ok h h'):zZ h' e sz v rs:=by
 obtain⟨r1,r|⟨k,off,cs,e',z,c,wr,h1,h2,h3,h4⟩⟩:=r
 ·exact⟨r1,.inl r⟩
 ·exact⟨r1,.inr ⟨k,off,cs,e',z,c,wr,h1,o.ext _ _ h2,h3,h4⟩⟩
theorem zZ.len{h:aa}{e:TypeId}{sz:Nat}{a:Option Addr}{n c:Nat}{rs:List (List Value)}(r:zZ h e sz (.slice a n c) rs):n=rs.length:=by
 obtain⟨_,⟨h1|h1,rfl⟩|⟨k,off,cs,e',z,c,wr,h1,h2,h3,h4⟩⟩:=r
 all_goals grind[wI]
theorem zZ.Mc{h:aa}{e:TypeId}{sz:Nat}{v:Value}{rs:List (List Value)}(r:zZ h e sz v rs):∃(a:Option Addr)(c:Nat),v = .slice a rs.length c:=by
 obtain⟨_,⟨h1|h1,rfl⟩|⟨k,off,cs,e',z,c,wr,h1,h2,h3,h4⟩⟩:=r
 ·exact⟨_,_,h1⟩
 ·exact⟨_,_,h1⟩
 grind
theorem zZ.at_{P:Program}{t e:TypeId}{d:TypeDesc}{sz:Nat}(hU:P.underlying t=some (.slice e))(hs:aw P e=some sz)(hd:P.underlying e=some d)(hg:isAgg P e=true){h:aa}{v:Value}{rs:List (List Value)}(r:zZ h e sz v rs){ik:IntKind}{i:Int}(h0:0<=i)(h1:i<rs.length):
  ∃(k o:Nat),af P t v (.int ik i)=some (.pointer (some ⟨k,o,none⟩))/\ag P e h (.pointer (some ⟨k,o,none⟩))=some (.agg ⟨rs.getD i.toNat []⟩)/\
   ∀(t':TypeId)(d':TypeDesc)(j:Nat),P.underlying t'=some d'->isAgg P t'=false->j<sz->ag P t' h (.pointer (some ⟨k,o+j,none⟩))=some ((rs.getD i.toNat []).getD j undef):=by
 obtain⟨hl,⟨_,rfl⟩|⟨b,off,cs,e',z,c,wr,rfl,h3,h4,h5⟩⟩:=r
 ·grind
 ·have hi:i.toNat<rs.length:=by omega
  have h6:rs[i.toNat]?=some (rs.getD i.toNat []):=by rw[gD,gE hi];rfl
  have h7:=h5 _ _ h6;have h9:(i.toNat+1)*sz<=rs.length*sz:=mul_le_mul_right _ hi;rw[add_mul,one_mul]at h9;obtain⟨q,hq⟩:∃q,q=i.toNat*sz:=⟨_,rfl⟩
  rw[<-hq]at h7 h9;refine⟨b,off+q,?_,?_,λt' d' j hU' ha' hj=>?_⟩
  ·grind[F5]
  ·grind[rC]
  ·rw[eI hU' ha' h3 (by omega),<-h7,gD,gD,getElem?_take,if_pos hj,getElem?_drop]
def bc:Value->Option Nat
 |.slice (some a) _ _=>some a.block
 |_=>none
def dX(h0 h:aa)(e:TypeId)(v:Value)(vs:List Value):Prop:=
 (v = .slice none 0 0/\vs=[])\/ ∃k off cs c,v = .slice (some ⟨k,off,none⟩) vs.length c/\h0.next<=k/\h.get k=some (.cells cs e 1 true)/\(cs.drop off).take vs.length=vs/\aX c+off=cs.length/\vs.length<=aX c
theorem dX.rd{h0 h:aa}{e:TypeId}{v:Value}{vs:List Value}(o:dX h0 h e v vs):Rd h e v vs:=by
 rcases o with o|⟨k,off,cs,c,h1,h2,h3,h4,h5,h6⟩
 ·exact .inl o
 ·exact .inr ⟨k,off,cs,c,true,h1,h3,h4⟩
theorem dX.dQ{h0 h h':aa}{e:TypeId}{v:Value}{vs:List Value}(o:dX h0 h e v vs)(hk:∀(k:Nat) (B:bt),bc v=some k->h.get k=some B->h'.get k=some B):dX h0 h' e v vs:=by
 rcases o with o|⟨k,off,cs,c,h1,h2,h3,h4,h5,h6⟩
 ·exact .inl o
 ·exact .inr ⟨k,off,cs,c,h1,h2,hk k _ (by rw[h1];rfl) h3,h4,h5,h6⟩
theorem dX.ok{h0 h h':aa}{e:TypeId}{v:Value}{vs:List Value}(r:dX h0 h e v vs)(o:Ok h h'):dX h0 h' e v vs:=r.dQ λk B _ hk=>o.ext _ _ hk
theorem dX.lt{h0 h:aa}{e:TypeId}{v:Value}{vs:List Value}(o:dX h0 h e v vs)(w:Wf h){k:Nat}(hk:bc v=some k):k<h.next/\h0.next<=k:=by
 rcases o with⟨rfl,_⟩|⟨k',off,cs,c,h1,h2,h3,h4,h5,h6⟩
 ·cases hk
 ·rw[h1]at hk;obtain rfl:k'=k:=oI hk;exact⟨w _ _ h3,h2⟩
theorem dX.nil(h0 h:aa)(e:TypeId):dX h0 h e (.slice none 0 0) []:= .inl ⟨rfl,rfl⟩
theorem dX.Mc{h0 h:aa}{e:TypeId}{v:Value}{vs:List Value}(o:dX h0 h e v vs):∃(a:Option Addr)(c:Nat),v = .slice a vs.length c:=by
 rcases o with⟨rfl,rfl⟩|⟨k,off,cs,c,h1,h2,h3,h4,h5,h6⟩
 ·exact⟨_,_,rfl⟩
 ·exact⟨_,_,h1⟩
theorem dX.snoc{P:Program}{t e:TypeId}{i:TypeInfo}(hU:P.underlying t=some (.slice e))(hE:e9 P e=some i)(hs:i.size=1){h0 g:aa}(w0:Wf h0)(a:Ok h0 g){v:Value}{vs:List Value}(o:dX h0 g e v vs){x:Value}(hx:cH x=true){kx:Nat}(hkx:g.get kx=some (.cells [x] e 1 true))(hl:(vs.length+1)*i.bytes<=70368744177664)(hl2:vs.length+1<=1099511627776):
  ∃(b:Option Addr)(n c:Nat)(u:cL),aY P t t v (.slice (some ⟨kx,0,none⟩) 1 1) g=some (.slice b n c,u)/\n=vs.length+1/\dX h0 (u.app g) e (.slice b n c) (vs++[x])/\Ok h0 (u.app g)/\
   (∀j B,g.get j=some B->bc v≠some j->(u.app g).get j=some B)/\
   (∀j,bc (.slice b n c)=some j->g.next<=j\/bc v=some j)/\g.next<=(u.app g).next:=by
 have hT:dm P t=true:=by unfold dm;rw[hU]
 have hsrc:fw g i.size (.slice (some ⟨kx,0,none⟩) 1 1)=some ([x],1):=by
  show(match g.get kx with|some (.cells cs ..)=>if((cs.drop 0).take (1*i.size)).length=1*i.size then some ((cs.drop 0).take (1*i.size),1)else none|_=>none)=_;rw[hkx,hs];rfl
 unfold aY;rw[hU];dsimp only;rw[hE];dsimp only;rw[if_pos hT,hsrc];dsimp only;rw[if_pos (by simp[hx,hs])];rcases o with⟨rfl,rfl⟩|⟨k,off,cs,c,rfl,h2,h3,h4,h5,h6⟩
 ·show ∃b n c u,(if 1=0 then some (Value.slice none 0 0,cL.no)else if 1*i.bytes<=70368744177664/\1<=1099511627776 then some (Value.slice (some ⟨g.next,0,none⟩) 1 (bR+1),cL.push (.cells [x] e i.size true))else none)=_/\_;rw[if_neg (by omega),if_pos (by simpa using And.intro hl hl2)];refine⟨_,_,_,_,rfl,rfl,.inr ⟨g.next,0,[x],bR+1,rfl,a.nx,?_,rfl,by rw[eo];rfl,by rw[eo];exact Nat.le_refl _⟩,a.push _,λj B hj _=>?_,λj e=> .inl ?_,le_succ _⟩
  ·show(g.push (.cells [x] e i.size true)).get g.next=_;rw[aa.aM,if_pos rfl,hs]
  ·show(g.push _).get j=_;rw[aa.aM,if_neg (λe=>by have:=a.wf _ _ hj;omega)];exact hj
  ·have:g.next=j:=oI e;omega
 ·dsimp only;rw[if_neg (by omega),hs,mul_one];have hkn:=a.wf _ _ h3;by_cases hroom:vs.length+1<=aX c
  ·rw[if_pos hroom];unfold storeAt;rw[h3];dsimp only;rw[if_pos ⟨by simp;omega,by simp[hx]⟩];refine⟨_,_,_,_,rfl,rfl,.inr ⟨k,off,cs.take (off+vs.length)++[x]++cs.drop (off+vs.length+1),c,?_,h2,?_,?_,?_,?_⟩,?_,λj B hj hne=>?_,λj e=> .inr e,Nat.le_refl _⟩
   ·simp
   ·show(g.set k _).get k=_;rw[aa.aR,if_pos rfl];rfl
   ·have h7:(cs.take (off+vs.length)).length=off+vs.length:=by rw[length_take];omega
    rw[append_assoc,List.drop_append_of_le_length (by rw[h7];omega),List.drop_take,show off+vs.length-off=vs.length by omega,h4,length_append,length_cons,List.length_nil,List.take_append,take_of_length_le (by omega)];congr 1;rw[show vs.length+(0+1)-vs.length=1 by omega];rfl
   ·simp;omega
   ·simp;omega
   ·exact a.set _ h2 hkn w0
   ·show(g.set k _).get j=_;rw[aa.aR,if_neg (λe=>hne (by rw[e];rfl))];exact hj
  ·rw[if_neg hroom];have hcl:aX c=vs.length:=by omega
   have h7:((cs.drop off).take vs.length).length=vs.length:=by rw[h4]
   unfold gQ;rw[if_pos ⟨hl,hl2⟩,h3];dsimp only;rw[mul_one,if_pos ⟨rfl,rfl,h7⟩];have hnew:∀B:bt,dX h0 ((g.push (.cells (vs++[x]) e 1 true))) e (.slice (some ⟨g.next,0,none⟩) (vs.length+1) (bR+(vs.length+1))) (vs++[x]):=λ_=>
    .inr ⟨g.next,0,vs++[x],bR+(vs.length+1),by rw[length_append];rfl,a.nx,by rw[aa.aM,if_pos rfl],by rw[drop_zero,take_length],by rw[eo,length_append];rfl,by rw[eo,length_append];exact Nat.le_refl _⟩
   by_cases hc:c<bR
   ·rw[if_pos hc,h4];refine⟨_,_,_,_,rfl,rfl,hnew (.map []),a.push _,λj B hj _=>?_,λj e=> .inl ?_,le_succ _⟩
    ·show(g.push _).get j=_;rw[aa.aM,if_neg (λe=>by have:=a.wf _ _ hj;omega)];exact hj
    ·have:g.next=j:=oI e;omega
   ·rw[if_neg hc,if_pos ⟨rfl,by omega⟩,h4];refine⟨_,_,_,_,rfl,rfl,.inr ⟨g.next,0,vs++[x],bR+(vs.length+1),by rw[length_append];rfl,a.nx,?_,by rw[drop_zero,take_length],by rw[eo,length_append];rfl,by rw[eo,length_append];exact Nat.le_refl _⟩,?_,λj B hj hne=>?_,λj e=> .inl ?_,le_succ _⟩
    ·show((g.del k).push _).get g.next=_;rw[aa.aM,if_pos (show g.next=(g.del k).next from rfl)]
    ·refine⟨?_,λj C hj=>?_,Nat.le_trans a.nx (le_succ _)⟩
     ·refine aa.j0 (λj C hj=>?_) _;rw[aa.de]at hj;split at hj
      ·cases hj
      ·exact a.wf _ _ hj
     ·have h7:=a.ext _ _ hj;have h8:=a.wf _ _ h7;show((g.del k).push _).get j=_;rw[aa.aM,if_neg (λe=>by have:j=g.next:=e;omega),aa.de,if_neg (λe=>by have:=w0 _ _ hj;omega)];exact h7
    ·have h8:=a.wf _ _ hj;show((g.del k).push _).get j=_;rw[aa.aM,if_neg (λe=>by have:j=g.next:=e;omega),aa.de,if_neg (λe=>hne (by rw[e];rfl))];exact hj
    ·have:g.next=j:=oI e;omega
theorem dX.built{h0 h:aa}{e:TypeId}{k:Nat}{vs:List Value}(hk:h.get k=some (.cells vs e 1 true))(h0k:h0.next<=k)(hl:vs.length<bR):dX h0 h e (.slice (some ⟨k,0,none⟩) vs.length vs.length) vs:=
 .inr ⟨k,0,vs,vs.length,rfl,h0k,hk,by simp,by unfold aX;rw[if_neg (by omega)];rfl,by unfold aX;rw[if_neg (by omega)];exact Nat.le_refl _⟩
theorem wN{sz:Nat}:∀{l:List (List Value)},(∀r∈l,r.length=sz)->l.flatten.length=l.length*sz
 |[],_=>by simp
 |r::l,h=>by
  rw[flatten_cons,length_append,wN λx hx=>h x (List.mem_cons_of_mem _ hx),h r (mem_cons_self ..),length_cons,add_mul,one_mul,add_comm]
theorem AO{sz:Nat}:∀{l:List (List Value)},(∀r∈l,r.length=sz)->∀{i:Nat}{r:List Value},l[i]?=some r->(l.flatten.drop (i*sz)).take sz=r
 |[],_,i,r,h=>by grind
 |x::l,hl,0,r,h=>by grind
 |x::l,hl,i+1,r,h=>by
  have hx:=hl x (mem_cons_self ..);rw[flatten_cons,add_mul,one_mul,List.drop_append,drop_eq_nil_of_le (by omega),List.nil_append,hx,show i*sz+sz-sz=i*sz by omega];exact AO (λy hy=>hl y (List.mem_cons_of_mem _ hy)) (by grind)
theorem wO{sz:Nat}:∀{l:List (List Value)},(∀r∈l,r.length=sz)->∀{i j:Nat}{r:List Value}{v:Value},l[i]?=some r->j<sz->(l.set i (r.set j v)).flatten=l.flatten.set (i*sz+j) v
 |[],_,i,j,r,v,h,_=>by rfl
 |x::l,hl,0,j,r,v,h,hj=>by grind
 |x::l,hl,i+1,j,r,v,h,hj=>by
  have hx:=hl x (mem_cons_self ..);rw[List.set_cons_succ,flatten_cons,flatten_cons,wO (λy hy=>hl y (List.mem_cons_of_mem _ hy)) (by grind) hj,set_append,if_neg (by grind),add_mul,one_mul,hx,show i*sz+sz+j-sz=i*sz+j by omega]
def gO(h0 h:aa)(e:TypeId)(sz:Nat)(v:Value)(rs:List (List Value)):Prop:=
 (∀r∈rs,r.length=sz)/\((v = .slice none 0 0/\rs=[])\/ ∃k off cs c,v = .slice (some ⟨k,off,none⟩) rs.length c/\h0.next<=k/\h.get k=some (.cells cs e sz true)/\(cs.drop off).take (rs.length*sz)=rs.flatten/\aX c*sz+off=cs.length/\rs.length<=aX c)
theorem gO.rd{h0 h:aa}{e:TypeId}{sz:Nat}{v:Value}{rs:List (List Value)}(o:gO h0 h e sz v rs):zZ h e sz v rs:=by
 obtain⟨hl,⟨h1,h2⟩|⟨k,off,cs,c,h1,h2,h3,h4,h5,h6⟩⟩:=o
 ·exact⟨hl,.inl ⟨.inl h1,h2⟩⟩
 ·have h7:=mul_le_mul_right sz h6;refine⟨hl,.inr ⟨k,off,cs,e,sz,c,true,h1,h3,by omega,λi r hi=>?_⟩⟩;have h8:=AO hl hi;have hlt:i<rs.length:=(List.getElem?_eq_some_iff.1 hi).1;have h9:(i+1)*sz<=rs.length*sz:=mul_le_mul_right _ hlt;rw[add_mul,one_mul]at h9
  grind[List.drop_take,drop_drop]
theorem gO.dQ{h0 h h':aa}{e:TypeId}{sz:Nat}{v:Value}{rs:List (List Value)}(o:gO h0 h e sz v rs)(hk:∀(k:Nat) (B:bt),bc v=some k->h.get k=some B->h'.get k=some B):gO h0 h' e sz v rs:=by
 obtain⟨hl,o|⟨k,off,cs,c,h1,h2,h3,h4,h5,h6⟩⟩:=o
 ·exact⟨hl,.inl o⟩
 ·exact⟨hl,.inr ⟨k,off,cs,c,h1,h2,hk k _ (by rw[h1];rfl) h3,h4,h5,h6⟩⟩
theorem gO.ok{h0 h h':aa}{e:TypeId}{sz:Nat}{v:Value}{rs:List (List Value)}(r:gO h0 h e sz v rs)(o:Ok h h'):gO h0 h' e sz v rs:=r.dQ λk B _ hk=>o.ext _ _ hk
theorem gO.lt{h0 h:aa}{e:TypeId}{sz:Nat}{v:Value}{rs:List (List Value)}(o:gO h0 h e sz v rs)(w:Wf h){k:Nat}(hk:bc v=some k):k<h.next/\h0.next<=k:=by
 obtain⟨_,⟨rfl,_⟩|⟨k',off,cs,c,h1,h2,h3,h4,h5,h6⟩⟩:=o
 ·cases hk
 ·rw[h1]at hk;obtain rfl:k'=k:=oI hk;exact⟨w _ _ h3,h2⟩
theorem gO.nil(h0 h:aa)(e:TypeId)(sz:Nat):gO h0 h e sz (.slice none 0 0) []:=⟨λr hr=>(by grind),.inl ⟨rfl,rfl⟩⟩
theorem gO.made{h0 h:aa}{e:TypeId}{sz k:Nat}{rs:List (List Value)}(hk:h.get k=some (.cells rs.flatten e sz true))(hr:∀r∈rs,r.length=sz)(h0k:h0.next<=k)(hl:rs.length<bR):gO h0 h e sz (.slice (some ⟨k,0,none⟩) rs.length rs.length) rs:=by
 have hc:aX rs.length=rs.length:=by unfold aX;rw[if_neg (by omega)]
 have hf:=wN hr;exact⟨hr,.inr ⟨k,0,rs.flatten,rs.length,rfl,h0k,hk,by rw[drop_zero,take_of_length_le (by omega)],by rw[hc,hf];rfl,by rw[hc];exact Nat.le_refl _⟩⟩
theorem gO.put{P:Program}{e t':TypeId}{sz:Nat}(hs:aw P t'=some 1){h0 g:aa}(w0:Wf h0)(a:Ok h0 g){k off n c:Nat}{rs:List (List Value)}(o:gO h0 g e sz (.slice (some ⟨k,off,none⟩) n c) rs){i j:Nat}{r:List Value}(hi:rs[i]?=some r)(hj:j<sz){v':Value}(hv:cH v'=true)(hc:v'.cells = #[v']):
  ∃u:cL,an P t' (.pointer (some ⟨k,off+i*sz+j,none⟩)) v' g=some (undef,u)/\gO h0 (u.app g) e sz (.slice (some ⟨k,off,none⟩) n c) (rs.set i (r.set j v'))/\Ok h0 (u.app g)/\(∀j B,g.get j=some B->k≠j->(u.app g).get j=some B)/\(u.app g).next=g.next:=by
 obtain⟨hr,⟨h1,_⟩|⟨k',off',cs,c',h1,h2,h3,h4,h5,h6⟩⟩:=o
 ·grind
 ·injection h1 with h1 hn hc'
  injection h1 with h1
  injection h1 with h1 ho _
  subst h1;subst ho;subst hc';have hlt:i<rs.length:=(List.getElem?_eq_some_iff.1 hi).1;have h9:(i+1)*sz<=rs.length*sz:=mul_le_mul_right _ hlt;have h10:=mul_le_mul_right sz h6;have hrl:=hr r (List.mem_of_getElem? hi);rw[add_mul,one_mul]at h9;refine⟨_,zq hs h3 (by omega) hv hc,⟨λr' hr'=>?_,.inr ⟨k,off,cs.set (off+i*sz+j) v',c,?_,h2,?_,?_,?_,?_⟩⟩,a.set _ h2 (a.wf _ _ h3) w0,λj' B hj' hne=>?_,rfl⟩
  ·grind
  ·grind
  ·show(g.set k _).get k=_;rw[aa.aR,if_pos rfl]
  ·rw[length_set,wO hr hi hj,<-h4,List.drop_set,if_neg (by omega),List.take_set,show off+i*sz+j-off=i*sz+j by omega]
  ·grind
  ·grind
  ·show(g.set k _).get j'=_;rw[aa.aR,if_neg (λe=>hne e.symm)];omega
theorem gO.at_{P:Program}{t e:TypeId}{sz:Nat}(hU:P.underlying t=some (.slice e))(hs:aw P e=some sz){h0 g:aa}{k off n c:Nat}{rs:List (List Value)}(o:gO h0 g e sz (.slice (some ⟨k,off,none⟩) n c) rs){i:Nat}{r:List Value}(hi:rs[i]?=some r)(ik:IntKind):
  af P t (.slice (some ⟨k,off,none⟩) n c) (.int ik (i:Int))=some (.pointer (some ⟨k,off+i*sz,none⟩))/\(∀(t':TypeId)(d':TypeDesc)(j:Nat),P.underlying t'=some d'->isAgg P t'=false->j<sz->ag P t' g (.pointer (some ⟨k,off+i*sz+j,none⟩))=some (r.getD j undef))/\
   (∀d,P.underlying e=some d->isAgg P e=true->ag P e g (.pointer (some ⟨k,off+i*sz,none⟩))=some (.agg ⟨r⟩)):=by
 have hn:=o.rd.len;have hlt:i<rs.length:=(List.getElem?_eq_some_iff.1 hi).1;have hx:=F5 (P:=P) hU hs (k:=k) (off:=off) (n:=n) (c:=c) (ik:=ik) (i:=(i:Int)) (by omega) (by omega);rw[toNat_natCast]at hx;obtain⟨hr,⟨h1,_⟩|⟨k',off',cs,e',z,c',wr,h1,h2,h3,h4⟩⟩:=o.rd
 ·grind
 ·injection h1 with h1 _ hc'
  injection h1 with h1
  injection h1 with h1 ho _
  subst h1;subst ho;subst hc';have h9:(i+1)*sz<=rs.length*sz:=mul_le_mul_right _ hlt;rw[add_mul,one_mul]at h9;have h5:=h4 i r hi;refine⟨hx,λt' d' j hU' ha' hj=>?_,λd hd ha=>?_⟩
  ·rw[eI hU' ha' h2 (by omega),<-h5,gD,gD,getElem?_take,if_pos hj,getElem?_drop]
  grind[rC]
theorem zC(z:List Value):∀n,bC z n=(List.replicate n z).flatten:=by
 intro n
 induction n with
 |zero=>simp[bC]
 |succ n ih=>rw[bC,ih,List.replicate_succ,flatten_cons]
end Go.Ab
end
section
namespace Go.Ab
open Go Go.RowKit
section
variable {β:cp} {P:Program} {h:aa} {w:World}
structure zD(β:cp)(h:aa)(w:World):Prop where
 jG:fK β h w
 ro:∀k B,h.get k=some B->B.wr=false
theorem SI(n:Nat)(w:World):zD β0 ⟨n,.nil⟩ w:=⟨zp n w,λk B h=>by grind[aa.get_nil]⟩
theorem zD.wf(i:zD β h w):Wf h:=i.jG.wf
theorem zD.below(i:zD β h w){β':cp}{h':aa}{w':World}(s:Step β h w β' h' w'):Below w.heap.size w w':=
 ⟨s.os,s.tape.1,s.output,s.size,λk hk=>s.kept k hk λ⟨k,B,sl,h1,h2,_⟩=>by rw[i.ro k B h1]at h2;grind⟩
abbrev Jw(b n:Nat)(t:TypeId):Slot:=⟨b,0,n,t,0,false⟩
theorem zD.fresh(i:zD β h w):β h.next=none:=i.jG.gZ (Nat.le_refl _)
theorem zD.le(i:zD β h w)(sl:Slot):β.le (β.ext h.next sl):=cp.tZ sl i.fresh
theorem zD.push(i:zD β h w){cs:List Value}{t:TypeId}{cs':Array Value}{fr:Nat×Nat}{b:Nat}(hb:w.heap[b]?=some (.cells cs' t fr))(hc:eO β cs 0 cs'):
  zD (β.ext h.next (Jw b cs'.size t)) (h.push (.cells cs t 0 false)) w:=by
 have hle:=i.le (Jw b cs'.size t);have hlt:b<w.heap.size:=(Array.getElem?_eq_some_iff.1 hb).1;have hro:∀k B,(h.push (.cells cs t 0 false)).get k=some B->B.wr=false:=λk B hk=>by
  rw[aa.aM]at hk;split at hk
  ·obtain rfl:=oI hk;rfl
  ·exact i.ro k B hk
 refine⟨⟨λk sl hk=>?_,λk B sl h1 h2=>?_,λk k' B B' sl sl' _ h1 _ _ _ hw=>?_,aa.j0 i.jG.wf _⟩,hro⟩
 ·by_cases e:k=h.next
  ·subst e;rw[cp.bH]at hk;obtain rfl:=oI hk;exact⟨by simp,hlt⟩
  ·rw[cp.cR _ _ e]at hk;have:=i.jG.lt k sl hk;exact⟨by simp;omega,this.2⟩
 ·rw[aa.aM]at h1;split at h1
  ·next e=>
   subst e;rw[cp.bH]at h2;obtain rfl:=oI h2;obtain rfl:=oI h1;exact⟨rfl,rfl,⟨rfl,λ_=>rfl⟩,cs',fr,hb,rfl,hc.mono hle,λhw=>by cases hw⟩
  ·next e=>
   rw[cp.cR _ _ e]at h2;exact(i.jG.blk k B sl h1 h2).mono hle
 grind
theorem Ai(ht:oq P){pr:FuncId->Option jD}{gl:Nat->Bool}(hl:pg P gl pr){f:FuncId}{fn:Func}{args:List Value}{Q:Value->aa->Prop}(hfw:FW ⟨P,gl,pr⟩ f args h Q)(hY:f<YB)(hf:P.funcs[f]?=some fn)(hb:fn.body.isSome=true)
  {args':Array Value} (i:zD β h w) (hg:Gl gl β) (ha:aG β args args'.toList):
  Calls P f args' w λe w'=>∃v v' h' β',e = .returned v'/\Q v h'/\au β' v v'/\Step β h w β' h' w'/\Below w.heap.size w w':=by
 obtain⟨v,h',⟨n,hr⟩,hq⟩:=hfw;obtain⟨fn',hfn,hc⟩:=(ht.S8 hl n).fn f args h v h' hY (hr n (Nat.le_refl _)) β w args' i.jG hg ha;rw[hf]at hfn;obtain rfl:=oI hfn;rcases hc with⟨_,hc⟩|⟨v',w',β',h1,_,_⟩
 ·refine hc.mono ?_;rintro e w' ⟨v',β',rfl,h2,h3⟩;exact⟨v,v',h',β',rfl,hq,h3,h2,i.below h2⟩
 ·rw[dq ht.names hf hb]at h1
  grind
end
end Go.Ab
end
section
namespace Go.Ab
open Go Go.RowKit Go.WideShapes Go.ChangeShapes
section
section
variable {H:Type} {enc:TypeId×Value->H} {P:Program}
theorem IG{f:Func}{s:ChangeSpec}{apart fresh handsOn again:Bool}{W W':World}{args:Array Value}{v:Value}{ds:List (DataW H)}{places:List MemPlace}
  (hvars:s.vars=[]) (hW:DataW.Whole enc P f.params.toList s.vars apart W args.toList ds [] places) (hb:Below W.heap.size W W')
  (hsame:(s.fn H (ds++[])).args=ds) (hnov:(s.fn H (ds++[])).vars=[])
  (hres:∀(b:Nat)(sp:Nat->Bool)(hd:Bool),DataW.TrodAll enc P W' b sp hd f.resultTypes.toList (v.resultList f.resultTypes.size) (s.fn H (ds++[])).results [])
  (hok:∀(j:Nat)(t:TypeId)(r:Value),f.resultTypes[j]?=some t->(v.resultList f.resultTypes.size)[j]?=some r->Value.okWide P W' .any 0 t r)
  (hargs:∀sp:Nat->Bool,(∀p∈places,sp p.block=true)->DataW.TrodAll enc P W' 0 sp true f.params.toList args.toList ds places):s.post enc P f apart fresh handsOn again W args v W':=by
 have hin:∀p∈places,p.block<W.heap.size:=λp hp=>hW.lt p hp;have hmine:∀p∈places,(λb=>decide (b<W.heap.size)) p.block=true:=λp hp=>decide_eq_true (hin p hp);have hv0:∀sp:Nat->Bool,DataW.TrodVars enc P W' sp s.vars (s.fn H (ds++[])).vars []:=λsp=>by
  rw[hvars,hnov];rfl
 have hfr:=World.keptBut_mono (may':=λp=>p∈places/\(p∈([]:List MemPlace)\/p∈places\/p∈([]:List MemPlace))) (λp hp=>⟨hp,.inr (.inl hp)⟩) (hb.frame (· ∈places));obtain⟨_,_,_,_,_,hz,hn⟩:=id hW;have hargs':∀sp:Nat->Bool,(∀p∈places,sp p.block=true)->DataW.TrodAll enc P W' 0 sp true f.params.toList args.toList (s.fn H (ds++[])).args places:=λsp h=>by rw[hsame];exact hargs sp h
 refine⟨ds,[],places,[],places,[],hW,hres _ _ _,hargs' _ hmine,hv0 _,hfr,λ_=>⟨hok,_,_,([]++places)++[],⟨[]++places,[],trodAll_append (hargs' _ λ_ _=>rfl) (hres _ _ _),hv0 _,rfl,?_,?_⟩,?_⟩⟩
 ·intro b off hp;have hp:MemPlace.cell b off∈places:=by simpa using hp
  rw[hb.frozen (hin _ hp)];exact hz b off hp
 all_goals grind
end
end
end Go.Ab
end
section
namespace Go.Num
def bG(c:UInt8):Bool:=decide (48<=c.toNat)&&decide (c.toNat<=57)
def oZ(c:UInt8):Nat:=c.toNat-48
def val(l:List UInt8):Nat:=l.foldl (λn c=>10*n+oZ c) 0
def eP(n:Nat):UInt8:=UInt8.ofNat (48+n)
theorem gN:val []=0:=rfl
theorem jj(l:List UInt8)(c:UInt8):val (l++[c])=10*val l+oZ c:=by simp[val,List.foldl_append]
theorem jL{n:Nat}(h:n<10):(eP n).toNat=48+n:=by grind[UInt8.toNat_ofNat',eP]
theorem Ho{n:Nat}(h:n<10):oZ (eP n)=n:=by grind[jL,oZ]
theorem zP{n:Nat}(h:n<10):bG (eP n)=true:=by grind[jL,bG]
theorem jI{c:UInt8}:bG c=true↔48<=c.toNat/\c.toNat<=57:=by simp[bG]
theorem sr{c:UInt8}(h:bG c=true):oZ c<10:=by grind[jI,oZ]
theorem zL{c:UInt8}(h:bG c=true):eP (oZ c)=c:=by grind[jI,UInt8.toNat_inj,jL,oZ]
theorem jd{α:Type}{P:List α->Prop}(h0:P [])(h1:∀l a,P l->P (l++[a]))(l:List α):P l:=by
 have:∀n (l:List α),l.length=n->P l:=by
  intro n
  induction n with
  |zero=>intro l hl;rw[List.eq_nil_of_length_eq_zero hl];exact h0
  |succ n ih=>
   intro l hl;have hne:l≠[]:=by intro e;subst e;simp at hl
   rw[<-List.dropLast_concat_getLast hne];exact h1 _ _ (ih _ (by simp[hl]))
 grind
theorem ya(a b:List UInt8):val (a++b)=val a*10^b.length+val b:=by
 induction b using jd with
 |h0=>simp[gN]
 |h1 b c ih=>grind[mul_assoc,mul_comm,val]
theorem zX{l:List UInt8}(h:l.all bG=true):val l<10^l.length:=by
 induction l using jd with
 |h0=>simp[gN]
 |h1 l c ih=>
  simp only[all_append,all_cons,all_nil,Bool.and_true,and_eq_true]at h
  grind[sr,jj]
def av(n:Nat):List UInt8:=if n<10 then[eP n]else av (n/10)++[eP (n%10)]
termination_by n
decreasing_by omega
theorem cC{n:Nat}(h:n<10):av n=[eP n]:=by rw[av,if_pos h]
theorem fe{n:Nat}(h:10<=n):av n=av (n/10)++[eP (n%10)]:=by rw[av,if_neg (by omega)]
theorem pc{n d:Nat}(hn:0<n)(hd:d<10):av (10*n+d)=av n++[eP d]:=by grind[fe]
theorem dY(n:Nat):val (av n)=n:=by
 induction n using Nat.strongRecOn with
 |ind n ih=>grind[cC,jj,Ho,gN,fe]
theorem q9{m n:Nat}(h:av m=av n):m=n:=by grind[dY]
theorem om(n:Nat):av n≠[]:=by
 by_cases h:n<10
 ·grind[cC]
 ·rw[fe (by omega)];simp
theorem lP(n:Nat):0<(av n).length:=length_pos_iff.2 (om n)
theorem q8(n:Nat):(av n).all bG=true:=by
 induction n using Nat.strongRecOn with
 |ind n ih=>grind[cC,zP,fe]
theorem sT(n:Nat):n<10^(av n).length:=by grind[zX,q8,dY]
theorem sU{n:Nat}(h:10<=n):10^((av n).length-1)<=n:=by
 induction n using Nat.strongRecOn with
 | ind n ih=>
  rw[fe h,length_append,List.length_singleton];by_cases h1:n/10<10
  ·grind[cC]
  ·have h2:=ih (n/10) (by omega) (by omega);have h3:=lP (n/10);obtain⟨k,hk⟩:∃k,(av (n/10)).length=k+1:=⟨(av (n/10)).length-1,by omega⟩
   grind
theorem ff{n k:Nat}(hk:0<k):(av n).length<=k↔n<10^k:=by
 constructor
 ·grind[lt_of_lt_of_le,sT,pow_le_pow_right]
 ·intro h;by_cases hn:n<10
  ·grind[cC]
  ·have h1:=sU (n:=n) (by omega);rcases lt_or_ge k (av n).length with h2|h2
   ·have h3:10^k<=10^((av n).length-1):=pow_le_pow_right (by omega) (by omega);omega
   omega
def sq(l:List UInt8):Prop:=l≠[]/\l.all bG=true/\(1<l.length->l.head?≠some 48)
theorem Fo{l:List UInt8}(hd:l.all bG=true)(h0:l≠[])(h:l.head?≠some 48):0<val l:=by
 induction l using jd with
 |h0=>grind
 | h1 l c ih=>
  simp only[all_append,all_cons,all_nil,Bool.and_true,and_eq_true]at hd;rw[jj];by_cases hl:l=[]
  ·subst hl;have hc:c≠48:=by intro e;subst e;simp at h
   have h2:=jI.1 hd.2;have h3:c.toNat≠48:=λe=>hc (by apply UInt8.toNat_inj.1;rw[e];rfl)
   grind[oZ]
  ·have:=ih hd.1 hl (by grind);omega
theorem zU{l:List UInt8}(h:sq l):av (val l)=l:=by
 induction l using jd with
 |h0=>exact absurd rfl h.1
 | h1 l c ih=>
  obtain⟨_,hd,hz⟩:=h;simp only[all_append,all_cons,all_nil,Bool.and_true,and_eq_true]at hd;rw[jj];by_cases hl:l=[]
  ·grind[gN,cC,sr,zL]
  ·have hh:l.head?≠some 48:=by
    have:=hz (by grind[length_pos_iff])
    cases l with
    |nil=>grind
    |cons a l=>grind
   have hp:=Fo hd.1 hl hh;rw[pc hp (sr hd.2),ih ⟨hl,hd.1,λ_=>hh⟩,zL hd.2]
theorem vx(n:Nat):sq (av n):=by
 refine⟨om n,q8 n,?_⟩
 induction n using Nat.strongRecOn with
 | ind n ih=>
  intro hl;by_cases h:n<10
  ·grind[cC]
  ·rw[fe (by omega)];by_cases h1:n/10<10
   ·rw[cC h1];simp only[cons_append,List.head?_cons,ne_eq,Option.some.injEq];intro e;have:=congrArg UInt8.toNat e;rw[jL h1]at this;have h48:(48:UInt8).toNat=48:=rfl;omega
   grind[av]
def aC(l:List UInt8):Bool:= !l.isEmpty&&decide (l.length<=1000) && !(decide (1<l.length)&&l.head? == some 48)&&l.all bG
theorem iw{l:List UInt8}:aC l=true↔sq l/\l.length<=1000:=by
 unfold aC sq
 grind
theorem nM{n:Nat}:aC (av n)=true↔n<10^1000:=by grind[iw,ff,vx]
theorem jk{l:List UInt8}(h:aC l=true):∃n,l=av n/\n<10^1000/\val l=n:=by grind[iw,zU,nM]
def bv(b:Nat):List Nat->Nat
 |[]=>0
 |d::l=>d+b*bv b l
theorem dA(b:Nat):∀x y:List Nat,bv b (x++y)=bv b x+b^x.length*bv b y
 |[],y=>by simp[bv]
 |d::x,y=>by
  simp only[cons_append,bv,dA b x y,length_cons,pow_succ]
  grind
theorem kf(b:Nat)(x:List Nat)(d:Nat):bv b (x++[d])=bv b x+b^x.length*d:=by grind[dA,bv]
theorem cY{b:Nat}:∀{x:List Nat},(∀d∈x,d<b)->bv b x<b^x.length
 |[],_=>by simp[bv]
 | d::x,h=>by
  have h1:=cY (b:=b) (x:=x) λe he=>h e (by simp[he]);have h2:=h d (by simp);simp only[bv,length_cons,pow_succ];have:b*bv b x+b<=b*b^x.length:=by
   have:=mul_le_mul_left b (succ_le_of_lt h1);rw[mul_succ]at this;exact this
  grind
def ay(b n:Nat):List Nat:=if h:1<b/\0<n then n%b::ay b (n/b)else[]
termination_by n
decreasing_by exact div_lt_self h.2 h.1
theorem dn(b:Nat):ay b 0=[]:=by simp_all[ay]
theorem gM{b n:Nat}(hb:1<b)(hn:0<n):ay b n=n%b::ay b (n/b):=by rw[ay,dif_pos ⟨hb,hn⟩]
theorem bg{b:Nat}(hb:1<b)(n:Nat):bv b (ay b n)=n:=by
 induction n using Nat.strongRecOn with
 |ind n ih=>
  rcases eq_zero_or_pos n with rfl|hn
  all_goals grind[dn,gM,div_lt_self,mod_add_div,bv]
theorem bK{b:Nat}(hb:1<b)(n:Nat):∀d∈ay b n,d<b:=by
 induction n using Nat.strongRecOn with
 |ind n ih=>grind[eq_zero_or_pos,dn,gM,mod_lt,div_lt_self]
def Cu(b:Nat)(l:List Nat):Prop:=(∀d∈l,d<b)/\l.getLast?≠some 0
theorem CB{b:Nat}(hb:1<b)(n:Nat):Cu b (ay b n):=by
 refine⟨bK hb n,?_⟩
 induction n using Nat.strongRecOn with
 | ind n ih=>
  rcases eq_zero_or_pos n with rfl|hn
  ·grind[dn]
  ·rw[gM hb hn];by_cases h0:n/b=0
   ·rw[h0,dn];have:n<b:=by
     rcases lt_or_ge n b with h|h
     ·exact h
     ·have:=Nat.div_pos h (by omega);omega
    simp[mod_eq_of_lt this];omega
   grind[div_lt_self,gM]
theorem zS{b:Nat}(hb:1<b):∀{l:List Nat},Cu b l->ay b (bv b l)=l
 |[],_=>dn b
 | d::l,h=>by
  have hd:d<b:=h.1 d (by simp);have hp:0<bv b (d::l):=by
   have key:∀l:List Nat,l≠[]->l.getLast?≠some 0->0<bv b l:=by
    intro l
    induction l with
    |nil=>grind
    |cons a l ih=>
     intro _ h2;by_cases hl:l=[]
     ·grind[bv]
     ·have:0<bv b l:=ih hl (by grind);simp only[bv];have:=Nat.mul_pos (show 0<b by omega) this;omega
   exact key _ (by simp) h.2
  have hl:Cu b l:=⟨λe he=>h.1 e (by grind),by
   intro e
   cases l with
   |nil=>grind
   |cons c l=>exact h.2 (by grind)⟩
  rw[gM hb hp];simp only[bv];rw[show(d+b*bv b l)%b=d by rw[Nat.add_mul_mod_self_left,mod_eq_of_lt hd],show(d+b*bv b l)/b=bv b l by rw[Nat.add_mul_div_left _ _ (by omega),div_eq_of_lt hd,zero_add],zS hb hl]
def cd(l:List Nat):List Nat:=(l.reverse.dropWhile (· == 0)).reverse
theorem zW:cd []=[]:=rfl
theorem eQ(l:List Nat):cd (l++[0])=cd l:=by simp[cd]
theorem fA(l:List Nat){d:Nat}(h:d≠0):cd (l++[d])=l++[d]:=by simp[cd,h]
theorem fT{b:Nat}(hb:1<b){l:List Nat}(h:∀d∈l,d<b):cd l=ay b (bv b l):=by
 induction l using jd with
 |h0=>rw[zW];exact(dn b).symm
 | h1 l d ih=>
  by_cases hd:d=0
  ·subst hd
   grind[eQ,kf]
  ·rw[fA l hd,zS hb];exact⟨h,by grind⟩
theorem ek{b n:Nat}(hb:1<b):ay b n=[]↔n=0:=by
 constructor
 ·intro h;have:=bg hb n;rw[h]at this;exact this.symm
 simp_all[dn]
theorem gj{b:Nat}(hb:1<b){n k:Nat}(h:n<b^k):(ay b n).length<=k:=by
 induction k generalizing n with
 |zero=>rw[Nat.pow_zero]at h;grind[dn]
 |succ k ih=>grind[gM,div_lt_of_lt_mul]
theorem lL{b:Nat}(hb:1<b){n:Nat}(hn:0<n):b^((ay b n).length-1)<=n:=by
 induction n using Nat.strongRecOn with
 | ind n ih=>
  rw[gM hb hn,length_cons,Nat.add_sub_cancel];by_cases h0:n/b=0
  ·rw[h0,dn];simp;omega
  ·have h1:=ih (n/b) (div_lt_self hn hb) (Nat.pos_of_ne_zero h0);have h2:0<(ay b (n/b)).length:=length_pos_iff.2 (by simp_all[ek]);obtain⟨k,hk⟩:∃k,(ay b (n/b)).length=k+1:=⟨(ay b (n/b)).length-1,by omega⟩
   rw[hk]at h1⊢;rw[Nat.add_sub_cancel]at h1;rw[pow_succ];have h3:=mul_le_mul_right b h1;have h4:=Nat.div_mul_le_self n b;omega
theorem dz(b:Nat)(x:List Nat)(i:Nat):bv b (x.drop i)=x.getD i 0+b*bv b (x.drop (i+1)):=by grind[List.drop_eq_getElem_cons,drop_eq_nil_of_le,bv]
theorem aS{b:Nat}{x:List Nat}(hb:0<b)(h:∀d∈x,d<b)(i:Nat):x.getD i 0<b:=by
 rw[gD]
 cases hx:x[i]? with
 |none=>grind
 |some d=>exact h d (List.mem_of_getElem? hx)
def aU(F:Nat->Nat->Nat->Nat×Nat)(x y:List Nat):Nat->Nat->Nat->List Nat
 |_,0,_=>[]
 |i,k+1,c=>(F (x.getD i 0) (y.getD i 0) c).1::aU F x y (i+1) k (F (x.getD i 0) (y.getD i 0) c).2
theorem gL{b:Nat}{F:Nat->Nat->Nat->Nat×Nat}(h:∀p q c,(F p q c).1<b)(x y:List Nat):∀k i c,∀d∈aU F x y i k c,d<b
 |0,_,_=>by simp[aU]
 |k+1,i,c=>by
  intro d hd;rcases mem_cons.1 hd with rfl|hd
  ·grind
  ·exact gL h x y k _ _ d hd
def aD(b:Nat)(p q c:Nat):Nat×Nat:=((p+q+c)%b,(p+q+c)/b)
theorem wm{b:Nat}(hb:1<b){x y:List Nat}(hx:∀d∈x,d<b)(hy:∀d∈y,d<b):∀k i c,x.length<i+k->y.length<i+k->c<=1->0<k->
  bv b (aU (aD b) x y i k c)=bv b (x.drop i)+bv b (y.drop i)+c:=by
 intro k
 induction k with
 |zero=>omega
 | succ k ih=>
  intro i c h1 h2 hc _;have ha:=aS (by omega) hx i;have hbb:=aS (by omega) hy i;rw[dz b x i,dz b y i];simp only[aU,bv];have hm:=mod_add_div (x.getD i 0+y.getD i 0+c) b;have hc':(aD b (x.getD i 0) (y.getD i 0) c).2<=1:=by
   show(x.getD i 0+y.getD i 0+c)/b<=1;have:(x.getD i 0+y.getD i 0+c)/b<2:=div_lt_of_lt_mul (by omega);omega
  rcases eq_zero_or_pos k with rfl|hk
  ·rw[drop_eq_nil_of_le (show x.length<=i+1 by omega),drop_eq_nil_of_le (show y.length<=i+1 by omega)];have e1:x.getD i 0=0:=by rw[gD,getElem?_eq_none (by omega)];rfl
   have e2:y.getD i 0=0:=by rw[gD,getElem?_eq_none (by omega)];rfl
   simp only[aU,bv,aD,e1,e2,zero_add,mul_zero,add_zero];exact mod_eq_of_lt (by omega)
  grind[aD]
def bw(b m:Nat)(p _q c:Nat):Nat×Nat:=((p*m+c)%b,(p*m+c)/b)
theorem Cz{b m:Nat}(hb:1<b)(hm:m<=b)(hm0:0<m){x y:List Nat}(hx:∀d∈x,d<b):∀k i c,x.length<i+k->c<m->0<k->
  bv b (aU (bw b m) x y i k c)=bv b (x.drop i)*m+c:=by
 intro k
 induction k with
 |zero=>omega
 | succ k ih=>
  intro i c h1 hc _;have ha:=aS (by omega) hx i;rw[dz b x i];simp only[aU,bv];have hmd:=mod_add_div (x.getD i 0*m+c) b;have hc':(bw b m (x.getD i 0) (y.getD i 0) c).2<m:=by
   show(x.getD i 0*m+c)/b<m;refine div_lt_of_lt_mul ?_;have:x.getD i 0*m+m<=b*m:=by
    have:=mul_le_mul_right m (succ_le_of_lt ha);rw[succ_mul]at this;exact this
   omega
  rcases eq_zero_or_pos k with rfl|hk
  ·rw[drop_eq_nil_of_le (show x.length<=i+1 by omega)];have e1:x.getD i 0=0:=by rw[gD,getElem?_eq_none (by omega)];rfl
   simp only[aU,bv,bw,e1,zero_mul,zero_add,mul_zero,add_zero];exact mod_eq_of_lt (by omega)
  grind[bw]
def a8(b:Nat)(p q c:Nat):Nat×Nat:=((p+b-q-c)%b,1-(p+b-q-c)/b)
theorem kA{b p q c:Nat}(hb:1<b)(hp:p<b)(hq:q<b)(hc:c<=1):p+b*(a8 b p q c).2=(a8 b p q c).1+q+c/\(a8 b p q c).2<=1:=by
 unfold a8;dsimp only;rcases lt_or_ge (p+b-q-c) b with h|h
 ·grind[div_eq_of_lt,mod_eq_of_lt]
 ·have h2:(p+b-q-c)/b=1:=by
   refine Nat.le_antisymm ?_ ((Nat.le_div_iff_mul_le (by omega)).2 (by omega));have:(p+b-q-c)/b<2:=div_lt_of_lt_mul (by omega);omega
  grind[mod_add_div]
theorem Cy{b:Nat}(hb:1<b){x y:List Nat}(hx:∀d∈x,d<b)(hy:∀d∈y,d<b):∀k i c,x.length<=i+k->y.length<=i+k->c<=1->bv b (y.drop i)+c<=bv b (x.drop i)->
  bv b (aU (a8 b) x y i k c)+bv b (y.drop i)+c=bv b (x.drop i):=by
 intro k
 induction k with
 |zero=>grind[drop_eq_nil_of_le,bv,aU]
 | succ k ih=>
  intro i c h1 h2 hc h;have ha:=aS (by omega) hx i;have hbb:=aS (by omega) hy i;obtain⟨s1,s2⟩:=kA hb ha hbb hc;rw[dz b x i,dz b y i]at h⊢;simp only[aU,bv];have hlt:(a8 b (x.getD i 0) (y.getD i 0) c).1<b:=mod_lt _ (by omega);have hle:bv b (y.drop (i+1))+(a8 b (x.getD i 0) (y.getD i 0) c).2<=bv b (x.drop (i+1)):=by
   rcases lt_or_ge (bv b (x.drop (i+1))) (bv b (y.drop (i+1))+(a8 b (x.getD i 0) (y.getD i 0) c).2)with g|g
   ·have g2:=mul_le_mul_left b (succ_le_of_lt g);rw[mul_succ,mul_add]at g2;omega
   ·exact g
  grind
theorem zV{B n q v1 v2 rest u2 top U V Ul Vl:Nat}(hU:U=(top*B+u2)*B^n+Ul)(hUl:Ul<B^n)(hV:V=(v1*B+v2)*B^n+Vl)(ht:q*v1+rest=top)(h:rest*B+u2<q*v2):U<q*V:=by
 have h1:top*B+u2+1<=q*(v1*B+v2):=by
  have e:q*(v1*B+v2)=q*v1*B+q*v2:=by rw[mul_add,mul_assoc]
  have e2:top*B=q*v1*B+rest*B:=by rw[<-ht,add_mul]
  omega
 have h2:=mul_le_mul_right (B^n) h1;rw[add_mul,one_mul]at h2;have h3:q*V=q*(v1*B+v2)*B^n+q*Vl:=by rw[hV,mul_add,mul_assoc]
 omega
theorem x8{B n q v1 v2 rest u2 top U V Ul Vl:Nat}(hU:U=(top*B+u2)*B^n+Ul)(hV:V=(v1*B+v2)*B^n+Vl)(hVl:Vl<B^n)(ht:q*v1+rest=top)(hq:q<B)(hv1:0<v1)(h:q*v2<=rest*B+u2):q*V<U+V:=by
 have h1:q*(v1*B+v2)<=top*B+u2:=by
  have e:q*(v1*B+v2)=q*v1*B+q*v2:=by rw[mul_add,mul_assoc]
  have e2:top*B=q*v1*B+rest*B:=by rw[<-ht,add_mul]
  omega
 have h2:=mul_le_mul_right (B^n) h1;have h3:q*V=q*(v1*B+v2)*B^n+q*Vl:=by rw[hV,mul_add,mul_assoc]
 have h4:q*Vl<=q*B^n:=mul_le_mul_left q (Nat.le_of_lt hVl);have h5:q*B^n+B^n<=B*B^n:=by
  have:=mul_le_mul_right (B^n) (succ_le_of_lt hq);rw[succ_mul]at this;exact this
 have h6:B*B^n<=v1*B*B^n:=by
  have:=mul_le_mul_right (B*B^n) (succ_le_of_lt hv1);rw[Nat.succ_eq_add_one,zero_add,one_mul,<-mul_assoc]at this;exact this
 grind
def fH(B q u v borrow carry:Nat):Nat×Nat×Nat:=((u+B-(q*v+carry)%B-borrow)%B,1-(u+B-(q*v+carry)%B-borrow)/B,(q*v+carry)/B)
theorem CA{B q u v borrow carry:Nat}(hB:1<B)(hu:u<B)(hb:borrow<=1):
  u+B*((fH B q u v borrow carry).2.1+(fH B q u v borrow carry).2.2)=(fH B q u v borrow carry).1+q*v+(borrow+carry)/\(fH B q u v borrow carry).2.1<=1/\(fH B q u v borrow carry).1<B:=by
 have hp:=mod_lt (q*v+carry) (show 0<B by omega);have hpm:=mod_add_div (q*v+carry) B;have h:=kA (b:=B) (p:=u) (q:=(q*v+carry)%B) (c:=borrow) hB hu hp hb;unfold a8 at h;dsimp only at h;unfold fH;dsimp only;refine⟨?_,h.2,mod_lt _ (by omega)⟩
 grind
def dw(m n:Nat):Int:=if m<n then -1 else if m=n then 0 else 1
theorem jc{m n:Nat}(h:m<n):dw m n = -1:=if_pos h
theorem jb{m n:Nat}(h:n<m):dw m n=1:=by unfold dw;omega
theorem m9(m:Nat):dw m m=0:=by simp_all[dw]
theorem oj{m n:Nat}:dw m n<0↔m<n:=by grind[dw]
theorem fb(F:Nat->Nat->Nat->Nat×Nat)(x y:List Nat):∀k i c,(aU F x y i k c).length=k
 |0,_,_=>rfl
 |k+1,i,c=>by simp[aU,fb F x y k]
theorem x7:av 0=[48]:=by rw[cC (by omega)];rfl
theorem zT:av 1=[49]:=by rw[cC (by omega)];rfl
theorem lO{n:Nat}:av n=[48]↔n=0:=by grind[x7,q9]
theorem mj{n:Nat}:av n=[49]↔n=1:=by grind[zT,q9]
theorem rV{l:List UInt8}{i:Nat}{c:UInt8}(h:l[i]?=some c):val (l.take (i+1))=10*val (l.take i)+oZ c:=by grind[List.take_succ_eq_append_getElem,jj]
def aW(B q:Nat)(u v:List Nat):Nat->Nat->Nat->Nat->List Nat×Nat×Nat
 |_,0,b,c=>([],b,c)
 |i,k+1,b,c=>
  let s:=fH B q (u.getD i 0) (v.getD i 0) b c
  let r:=aW B q u v (i+1) k s.2.1 s.2.2
  (s.1::r.1,r.2)
theorem kC(B q:Nat)(u v:List Nat):∀k i b c,(aW B q u v i k b c).1.length=k
 |0,_,_,_=>rfl
 |k+1,i,b,c=>by simp[aW,kC B q u v k]
theorem na{B q:Nat}(hB:1<B)(u v:List Nat):∀k i b c,∀d∈(aW B q u v i k b c).1,d<B
 |0,_,_,_=>by simp[aW]
 |k+1,i,b,c=>by
  intro d hd;simp only[aW]at hd;rcases mem_cons.1 hd with rfl|hd
  ·exact mod_lt _ (by omega)
  ·exact na hB u v k _ _ _ d hd
theorem mf(b:Nat)(x:List Nat)(i k:Nat):bv b ((x.drop i).take (k+1))=x.getD i 0+b*bv b ((x.drop (i+1)).take k):=by grind[List.drop_eq_getElem_cons,drop_eq_nil_of_le,bv]
theorem qf{B q:Nat}(hB:1<B){u v:List Nat}(hu:∀d∈u,d<B):∀k i b c,b<=1->
  bv B ((u.drop i).take k)+B^k*((aW B q u v i k b c).2.1+(aW B q u v i k b c).2.2)=bv B (aW B q u v i k b c).1+q*bv B ((v.drop i).take k)+(b+c)/\(aW B q u v i k b c).2.1<=1
 |0,i,b,c,hb=>by grind[aW,bv]
 |k+1,i,b,c,hb=>by
  obtain⟨s1,s2,s3⟩:=CA (B:=B) (q:=q) (u:=u.getD i 0) (v:=v.getD i 0) (borrow:=b) (carry:=c) hB (aS (by omega) hu i) hb;obtain⟨ih,ih2⟩:=qf hB (q:=q) (v:=v) hu k (i+1) _ (fH B q (u.getD i 0) (v.getD i 0) b c).2.2 s2;rw[mf,mf];simp only[aW,bv]
  grind
theorem rT{B:Nat}{l:List Nat}{n:Nat}(h:l.length=n):bv B (l.take n)=bv B l:=by grind
theorem zM{B q:Nat}(hB:1<B){u v:List Nat}{n:Nat}(hu:∀d∈u,d<B)(hul:u.length=n+1)(hvl:v.length=n):
  (aW B q u v 0 (n+1) 0 0).2.2=0->((aW B q u v 0 (n+1) 0 0).2.1=0->bv B u=bv B (aW B q u v 0 (n+1) 0 0).1+q*bv B v)/\
  ((aW B q u v 0 (n+1) 0 0).2.1≠0->bv B u+B^(n+1)=bv B (aW B q u v 0 (n+1) 0 0).1+q*bv B v/\bv B u<q*bv B v):=by
 intro hc;obtain⟨e,hb⟩:=qf hB (q:=q) (v:=v) hu (n+1) 0 0 0 (by omega);rw[drop_zero,drop_zero,rT hul,take_of_length_le (by omega:v.length<=n+1),hc]at e;refine⟨λh0=>?_,λh0=>?_⟩
 ·grind
 ·have hb1:(aW B q u v 0 (n+1) 0 0).2.1=1:=by omega
  rw[hb1,mul_one]at e
  grind[cY,na,kC]
theorem pb{B q:Nat}(hB:1<B){u v:List Nat}(hq:q<B)(hv:∀d∈v,d<B):∀k i b c,c<B->v.length<=i+k->0<k->v.length<i+k->(aW B q u v i k b c).2.2=0
 |0,_,_,_,_,_,h,_=>by omega
 |1,i,b,c,hc,_,_,hl=>by
  simp only[aW,fH];have:v.getD i 0=0:=by rw[gD,getElem?_eq_none (by omega)];rfl
  simp_all
 | k+2,i,b,c,hc,_,_,hl=>by
  have h2:=aS (by omega) hv i;simp only[aW];have:=pb hB (u:=u) hq hv (k+1) (i+1) (fH B q (u.getD i 0) (v.getD i 0) b c).2.1 (fH B q (u.getD i 0) (v.getD i 0) b c).2.2 (by
   show(q*v.getD i 0+c)/B<B;refine div_lt_of_lt_mul ?_;have h3:q*v.getD i 0<=(B-1)*(B-1):=mul_le_mul (by omega) (by omega);have h4:(B-1)*(B-1)+(B-1)=(B-1)*B:=by rw[<-mul_succ];congr 1;omega
   have h5:(B-1)*B+B=B*B:=by rw[<-succ_mul];congr 1;omega
   omega) (by omega) (by omega) (by omega)
  grind[aW]
theorem Cv{B:Nat}(hB:1<B){u v:List Nat}{n Q V U:Nat}(hu:∀d∈u,d<B)(hv:∀d∈v,d<B)(hul:u.length=n+1)(hvl:v.length=n)(h1:U+B^(n+1)=bv B u+(Q+1)*V)(h2:U<(Q+1)*V)(h3:(Q+1)*V<U+V)(hV:V=bv B v):
  bv B ((aU (aD B) u v 0 (n+1) 0))+Q*V=U:=by
 have hs:=wm hB (x:=u) (y:=v) hu hv (n+2) 0 0 (by omega) (by omega) (by omega) (by omega);simp only[drop_zero,add_zero]at hs;have split:∀k i c,aU (aD B) u v i (k+1) c=aU (aD B) u v i k c++(aU (aD B) u v i (k+1) c).drop k:=by
  intro k
  induction k with
  |zero=>intro i c;simp[aU]
  |succ k ih=>
   intro i c;have:=ih (i+1) (aD B (u.getD i 0) (v.getD i 0) c).2;show _::aU (aD B) u v (i+1) (k+1) _=(_::aU (aD B) u v (i+1) k _)++(_::aU (aD B) u v (i+1) (k+1) _).drop (k+1);rw[cons_append,List.drop_succ_cons];exact congrArg _ this
 rw[split (n+1) 0 0,dA,fb]at hs;have hlt:=cY (gL (b:=B) (F:=aD B) (λp q c=>mod_lt _ (by omega)) u v (n+1) 0 0);rw[fb]at hlt;rw[add_mul,one_mul]at h1 h2 h3;have hul':=cY hu;rw[hul]at hul';have hvl':=cY hv;rw[hvl]at hvl';have hpow:B^n<=B^(n+1):=pow_le_pow_right (by omega) (by omega);have key:bv B ((aU (aD B) u v 0 (n+1+1) 0).drop (n+1))=1:=by
  generalize bv B ((aU (aD B) u v 0 (n+1+1) 0).drop (n+1))=z at hs;rcases Nat.lt_trichotomy z 1 with hz|hz|hz
  ·have:z=0:=by omega
   subst this;rw[mul_zero]at hs;omega
  ·exact hz
  ·have:=mul_le_mul_left (B^(n+1)) hz;rw[mul_succ,mul_one]at this;omega
 grind
theorem sQ{B:Nat}:∀(l:List Nat)(i d:Nat),i<l.length->bv B (l.set i d)+B^i*l.getD i 0=bv B l+B^i*d
 |[],i,d,h=>by grind
 |a::l,0,d,_=>by grind[bv]
 |a::l,i+1,d,h=>by
  have ih:=congrArg (B*·) (sQ (B:=B) l i d (by simpa using h))
  grind[bv]
theorem zQ{B:Nat}{l:List Nat}(h:∀d∈l,d<B){i d:Nat}(hd:d<B):∀x∈l.set i d,x<B:=λx hx=>by grind
theorem jH{B n:Nat}(_:1<B):∀{l:List Nat},bv B l<B^n->bv B (l.drop n)=0
 | l,h=>by
  rcases lt_or_ge n l.length with h1|h1
  ·have e:=dA B (l.take n) (l.drop n);rw[List.take_append_drop,length_take,min_eq_left (by omega)]at e;rcases eq_zero_or_pos (bv B (l.drop n))with h2|h2
   ·omega
   ·have:=mul_le_mul_left (B^n) h2;omega
  ·rw[drop_eq_nil_of_le h1];rfl
theorem oh(B:Nat)(l:List Nat)(n:Nat):bv B l=bv B (l.take n)+B^(min n l.length)*bv B (l.drop n):=by grind[dA,List.take_append_drop]
structure eG(B n V XK:Nat)(u q:List Nat)(j:Nat):Prop where
 ul:∀d∈u,d<B
 ql:∀d∈q,d<B
 len:u.length=q.length+n
 R5:j<=q.length
 lo:bv B (u.drop j)<V
 eq:XK=bv B u+V*bv B q
 qz:∀i,i<j->q.getD i 0=0
theorem eG.zu{B n V XK:Nat}{u q:List Nat}{at':Nat}(hB:1<B)(hV:V<=B^n)(h:eG B n V XK u q (at'+1)):
  bv B ((u.drop at').take (n+1))=bv B (u.drop at')/\bv B ((u.drop at').take (n+1))<B*V/\((u.drop at').take (n+1)).length=n+1:=by
 have hl:=h.len;have hj:=h.R5;have h1:bv B (u.drop at')=u.getD at' 0+B*bv B (u.drop (at'+1)):=dz B u at';have h2:=aS (by omega) h.ul at';have h3:=h.lo;have h4:bv B (u.drop at')<B*V:=by
  have:=mul_le_mul_left B (succ_le_of_lt h3);rw[mul_succ]at this;omega
 have h5:bv B ((u.drop at').drop (n+1))=0:=by
  refine jH hB (lt_of_lt_of_le h4 ?_);rw[pow_succ,mul_comm];exact mul_le_mul_right B hV
 have h6:=oh B (u.drop at') (n+1)
 grind
theorem eG.step{B n V XK:Nat}{u q w:List Nat}{at' d:Nat}(hB:1<B)(hV:V<=B^n)(h:eG B n V XK u q (at'+1))(hw:∀x∈w,x<B)(hwl:w.length=n+1)(hd:d<B)
  (he:bv B ((u.drop at').take (n+1))=bv B w+d*V) (hlt:bv B w<V):eG B n V XK (u.take at'++w++u.drop (at'+(n+1))) (q.set at' d) at':=by
 have hl:=h.len;have hj:=h.R5;obtain⟨w1,w2,w3⟩:=h.zu hB hV;have hz:bv B (u.drop (at'+(n+1)))=0:=by
  rw[<-drop_drop];refine jH hB ?_;rw[<-w1];refine lt_of_lt_of_le w2 ?_;rw[pow_succ,mul_comm];exact mul_le_mul_right B hV
 have htl:(u.take at').length=at':=by rw[length_take];omega
 have hdrop:(u.take at'++w++u.drop (at'+(n+1))).drop at'=w++u.drop (at'+(n+1)):=by
  rw[append_assoc,List.drop_append_of_le_length (by omega),drop_of_length_le (by omega),List.nil_append]
 refine⟨?_,zQ h.ql hd,?_,by grind,?_,?_,?_⟩
 ·intro x hx;simp only[mem_append]at hx;rcases hx with(hx|hx)|hx
  ·exact h.ul x (mem_of_mem_take hx)
  ·grind
  ·exact h.ul x (List.mem_of_mem_drop hx)
 ·grind
 ·rw[hdrop,dA,hz,mul_zero,add_zero];omega
 ·have e1:=dA B (u.take at') (u.drop at');rw[List.take_append_drop,htl,<-w1,he]at e1;have e2:bv B (u.take at'++w++u.drop (at'+(n+1)))=bv B (u.take at')+B^at'*bv B w:=by
   rw[append_assoc,dA,dA,hz,htl,mul_zero,add_zero]
  have e3:=sQ (B:=B) q at' d (by omega);rw[h.qz at' (by omega),mul_zero,add_zero]at e3;rw[h.eq,e1,e2,e3,mul_add,mul_add]
  grind
 ·intro i hi;have:=h.qz i (by omega)
  grind
theorem eG.done{B n V XK:Nat}{u q:List Nat}(h:eG B n V XK u q 0):bv B q=XK/V/\bv B u=XK%V:=by
 have h1:=h.lo;rw[drop_zero]at h1;rw[h.eq]
 grind[Nat.mul_add_div,div_eq_of_lt,Nat.mul_add_mod,mod_eq_of_lt]
theorem eG.start{B n m k X Y:Nat}{u:List Nat}(hB:1<B)(hu:∀d∈u,d<B)(hul:u.length=m+1)(hn:n<=m)(hX:X<B^m)(hY:B^(n-1)<=Y)(hn0:0<n)(hk:0<k)(he:bv B u=X*k):eG B n (Y*k) (X*k) u (List.replicate (m+1-n) 0) (m+1-n):=by
 refine⟨hu,λd hd=>by rw[(List.mem_replicate.1 hd).2];omega,by rw[List.length_replicate];omega,by rw[List.length_replicate];exact Nat.le_refl _,?_,?_,λi hi=>?_⟩
 ·have h1:=oh B u (m+1-n);rw[he,min_eq_left (by omega)]at h1;rcases lt_or_ge (bv B (u.drop (m+1-n))) (Y*k)with h2|h2
  ·exact h2
  ·have h3:=mul_le_mul_left (B^(m+1-n)) h2;have h4:B^m*k<=B^(m+1-n)*(Y*k):=by
    have e:B^m=B^(m+1-n)*B^(n-1):=by rw[<-Nat.pow_add];congr 1;omega
    rw[e,mul_assoc];exact mul_le_mul_left _ (mul_le_mul_right k hY)
   have h5:X*k<B^m*k:=Nat.mul_lt_mul_of_pos_right hX hk;omega
 ·have:bv B (List.replicate (m+1-n) 0)=0:=by
   induction (m+1-n)with
   |zero=>rfl
   |succ j ih=>rw[List.replicate_succ,bv,ih];rfl
  rw[this,he,mul_zero,add_zero]
 grind
theorem rU{X Y k:Nat}(hk:0<k):X*k/(Y*k)=X/Y/\X*k%(Y*k)=X%Y*k:=
 by grind[Nat.mul_div_mul_right,Nat.mul_mod_mul_right]
theorem vz{B k left a:Nat}(hk:0<k)(hl:left<k)(ha:a<B):(left*B+a)/k<B/\(left*B+a)%k<k/\(left*B+a)/k*k+(left*B+a)%k=left*B+a:=by
 refine⟨div_lt_of_lt_mul ?_,mod_lt _ hk,by rw[mul_comm];exact Nat.div_add_mod _ _⟩;have:=mul_le_mul_right B (succ_le_of_lt hl)
 grind
structure fS(B k R:Nat)(r:List Nat)(j left:Nat):Prop where
 rl:∀d∈r,d<B
 R5:j<=r.length
 lt:left<k
 eq:bv B (r.drop j)*k*B^j+left*B^j+bv B (r.take j)=R
theorem fS.step{B k R:Nat}{r:List Nat}{at' left:Nat}(hk:0<k)(h:fS B k R r (at'+1) left):fS B k R (r.set at' ((left*B+r.getD at' 0)/k)) at' ((left*B+r.getD at' 0)%k):=by
 have hj:=h.R5;have hB:0<B:=by
  have:=h.rl (r.getD at' 0) (by
   rw[gD,gE (by omega)];exact getElem_mem _)
  omega
 obtain⟨s1,s2,s3⟩:=vz (B:=B) hk h.lt (aS hB h.rl at');refine⟨zQ h.rl s1,by rw[length_set];omega,s2,?_⟩;rw[List.take_set_of_le (by omega),dz,List.drop_set_of_lt (by omega)];have e1:(r.set at' ((left*B+r.getD at' 0)/k)).getD at' 0=(left*B+r.getD at' 0)/k:=by
  rw[gD,List.getElem?_set_self (by omega)];rfl
 rw[e1,<-h.eq]
 grind[List.take_succ_eq_append_getElem,kf]
theorem fS.done{B k R:Nat}{r:List Nat}{left:Nat}(hk:0<k)(h:fS B k R r 0 left):bv B r=R/k:=by
 have e:=h.eq;simp only[drop_zero,Nat.pow_zero,mul_one,List.take_zero,bv,add_zero]at e;rw[<-e,mul_comm,Nat.mul_add_div hk,div_eq_of_lt h.lt];rfl
section
theorem iN(B:Nat)(l:List Nat)(i:Nat)(h:i<=l.length):bv B l=bv B (l.take i)+B^i*bv B (l.drop i):=by grind[oh]
theorem gh{B:Nat}{l:List Nat}{i:Nat}(h:l.length=i+1):bv B (l.drop i)=l.getD i 0:=by
 rw[dz,drop_eq_nil_of_le (by omega)];rfl
theorem fJ{B:Nat}{l:List Nat}{i:Nat}(h:l.length=i+2):bv B (l.drop i)=l.getD (i+1) 0*B+l.getD i 0:=by grind[dz,gh]
theorem lK{B:Nat}{l:List Nat}{i:Nat}(h:l.length=i+3):bv B (l.drop i)=(l.getD (i+2) 0*B+l.getD (i+1) 0)*B+l.getD i 0:=by grind[dz,fJ]
structure ef(B n:Nat)(u v:List Nat)(q rest:Nat):Prop where
 eq:q*v.getD (n-1) 0+rest=u.getD n 0*B+u.getD (n-1) 0
 hi:bv B u<(q+1)*bv B v
section
variable {B n:Nat} {u v:List Nat} {q rest:Nat}
theorem ef.start(hB:1<B)(hul:u.length=n+1)(hvl:v.length=n)(hn:0<n)(hu:∀d∈u,d<B)(h0:0<v.getD (n-1) 0):ef B n u v ((u.getD n 0*B+u.getD (n-1) 0)/v.getD (n-1) 0) ((u.getD n 0*B+u.getD (n-1) 0)%v.getD (n-1) 0):=by
 refine⟨by rw[mul_comm];exact Nat.div_add_mod _ _,?_⟩;have h1:=iN B u (n-1) (by omega);have h2:=iN B v (n-1) (by omega);have e1:bv B (u.drop (n-1))=u.getD n 0*B+u.getD (n-1) 0:=by
  have:=fJ (B:=B) (l:=u) (i:=n-1) (by omega);rwa[show n-1+1=n by omega]at this
 rw[gh (by omega)]at h2;rw[e1]at h1;rw[h1,h2];have h3:=cY (b:=B) (x:=u.take (n-1)) (λd hd=>hu d (mem_of_mem_take hd));rw[length_take,min_eq_left (by omega)]at h3;generalize u.getD n 0*B+u.getD (n-1) 0=top;generalize v.getD (n-1) 0=v1 at h0⊢;have h4:top<(top/v1+1)*v1:=by
  have:=Nat.div_add_mod top v1;have:=mod_lt top h0;rw[add_mul,one_mul,mul_comm];omega
 have h5:=mul_le_mul_left (B^(n-1)) (succ_le_of_lt h4)
 grind
theorem ef.lower(hq:bv B u<q*bv B v)(h:ef B n u v q rest):ef B n u v (q-1) (rest+v.getD (n-1) 0):=by
 have hq0:0<q:=by
  rcases eq_zero_or_pos q with h1|h1
  ·subst h1;rw[zero_mul]at hq;omega
  ·exact h1
 obtain⟨p,rfl⟩:∃p,q=p+1:=⟨q-1,by omega⟩
 refine⟨?_,by simpa using hq⟩;have:=h.eq
 grind
theorem ef.Qu(hU:bv B u<B*bv B v)(hq:B<=q):bv B u<q*bv B v:=lt_of_lt_of_le hU (mul_le_mul_right _ hq)
theorem ef.second(hul:u.length=n+1)(hvl:v.length=n)(hn:1<n)(hu:∀d∈u,d<B)(h:ef B n u v q rest)(hs:rest*B+u.getD (n-2) 0<q*v.getD (n-2) 0):bv B u<q*bv B v:=by
 have h1:=iN B u (n-2) (by omega);have h2:=iN B v (n-2) (by omega);have e1:bv B (u.drop (n-2))=(u.getD n 0*B+u.getD (n-1) 0)*B+u.getD (n-2) 0:=by
  have:=lK (B:=B) (l:=u) (i:=n-2) (by omega);rwa[show n-2+1=n-1 by omega,show n-2+2=n by omega]at this
 have e2:bv B (v.drop (n-2))=v.getD (n-1) 0*B+v.getD (n-2) 0:=by
  have:=fJ (B:=B) (l:=v) (i:=n-2) (by omega);rwa[show n-2+1=n-1 by omega]at this
 rw[e1,add_comm,mul_comm]at h1;rw[e2,add_comm,mul_comm]at h2;have h3:=cY (b:=B) (x:=u.take (n-2)) (λd hd=>hu d (mem_of_mem_take hd));rw[length_take,min_eq_left (by omega)]at h3;exact zV h1 h3 h2 h.eq hs
theorem ef.last(hB:1<B)(hul:u.length=n+1)(hvl:v.length=n)(hn:0<n)(hv:∀d∈v,d<B)(h0:0<v.getD (n-1) 0)(h:ef B n u v q rest)(hq:q<B)(hs:1<n->q*v.getD (n-2) 0<=rest*B+u.getD (n-2) 0):q*bv B v<bv B u+bv B v:=by
 rcases lt_or_ge 1 n with h1|h1
 ·have h3:=iN B u (n-2) (by omega);have h4:=iN B v (n-2) (by omega);have e1:bv B (u.drop (n-2))=(u.getD n 0*B+u.getD (n-1) 0)*B+u.getD (n-2) 0:=by
   have:=lK (B:=B) (l:=u) (i:=n-2) (by omega);rwa[show n-2+1=n-1 by omega,show n-2+2=n by omega]at this
  have e2:bv B (v.drop (n-2))=v.getD (n-1) 0*B+v.getD (n-2) 0:=by
   have:=fJ (B:=B) (l:=v) (i:=n-2) (by omega);rwa[show n-2+1=n-1 by omega]at this
  rw[e1,add_comm,mul_comm]at h3;rw[e2,add_comm,mul_comm]at h4;have h5:=cY (b:=B) (x:=v.take (n-2)) (λd hd=>hv d (mem_of_mem_take hd));rw[length_take,min_eq_left (by omega)]at h5;exact x8 h3 h4 h5 h.eq hq h0 (hs h1)
 ·obtain rfl:n=1:=by omega
  have e1:=fJ (B:=B) (l:=u) (i:=0) (by omega);have e2:=gh (B:=B) (l:=v) (i:=0) (by omega);rw[drop_zero]at e1 e2;have:=h.eq
  grind
theorem nL(hq:q<B){v2 u2:Nat}(hv:v2<B)(hr:B<=rest):q*v2<=rest*B+u2:=by
 have h1:q*v2<=B*B:=mul_le_mul (by omega) (by omega);have h2:B*B<=rest*B:=mul_le_mul_right B hr;omega
end
theorem xY{B q n:Nat}(hB:1<B){u v:List Nat}(hu:∀d∈u,d<B)(hv:∀d∈v,d<B)(hul:u.length=n+1)(hvl:v.length=n)(hq:q<B)(h1:bv B u<(q+1)*bv B v)(h2:q*bv B v<bv B u+bv B v):
  (aW B q u v 0 (n+1) 0 0).2.2=0/\
  ((aW B q u v 0 (n+1) 0 0).2.1=0->q=bv B u/bv B v/\bv B (aW B q u v 0 (n+1) 0 0).1=bv B u%bv B v)/\
  ((aW B q u v 0 (n+1) 0 0).2.1≠0->0<q/\q-1=bv B u/bv B v/\bv B (aU (aD B) (aW B q u v 0 (n+1) 0 0).1 v 0 (n+1) 0)=bv B u%bv B v):=by
 have hc:=pb hB (u:=u) hq hv (n+1) 0 0 0 (by omega) (by omega) (by omega) (by omega);obtain⟨d1,d2⟩:=zM hB hu hul hvl hc (q:=q);have key:∀{k r:Nat},bv B u=r+k*bv B v->r<bv B v->k=bv B u/bv B v/\r=bv B u%bv B v:=by
  intro k r e hr;rw[e,mul_comm k,add_comm];constructor
  ·grind[Nat.mul_add_div,div_eq_of_lt]
  ·rw[Nat.mul_add_mod,mod_eq_of_lt hr]
 refine⟨hc,λh=>?_,λh=>?_⟩
 ·grind
 ·obtain⟨e1,e2⟩:=d2 h;have hq0:0<q:=by
   rcases eq_zero_or_pos q with h3|h3
   ·subst h3;rw[zero_mul]at e2;omega
   ·exact h3
  obtain⟨Q,rfl⟩:∃Q,q=Q+1:=⟨q-1,by omega⟩
  have e3:=Cv hB (Q:=Q) (V:=bv B v) (U:=bv B u) (na (q:=Q+1) hB u v (n+1) 0 0 0) hv (kC _ _ _ _ _ _ _ _) hvl e1 e2 h2 rfl
  grind
end
def dx(F:Nat->Nat->Nat->Nat×Nat)(x y:List Nat)(i c:Nat):Nat->Nat
 |0=>c
 |k+1=>(F (x.getD (i+k) 0) (y.getD (i+k) 0) (dx F x y i c k)).2
theorem sR(F:Nat->Nat->Nat->Nat×Nat)(x y:List Nat)(i c:Nat):∀k,dx F x y (i+1) (F (x.getD i 0) (y.getD i 0) c).2 k=dx F x y i c (k+1)
 |0=>rfl
 |k+1=>by
  show(F (x.getD (i+1+k) 0) (y.getD (i+1+k) 0) (dx F x y (i+1) _ k)).2=(F (x.getD (i+(k+1)) 0) (y.getD (i+(k+1)) 0) (dx F x y i c (k+1))).2;rw[sR F x y i c k,show i+1+k=i+(k+1) by omega]
theorem gi(F:Nat->Nat->Nat->Nat×Nat)(x y:List Nat):∀k i c,aU F x y i (k+1) c=aU F x y i k c++[(F (x.getD (i+k) 0) (y.getD (i+k) 0) (dx F x y i c k)).1]
 |0,i,c=>rfl
 |k+1,i,c=>by
  have ih:=gi F x y k (i+1) (F (x.getD i 0) (y.getD i 0) c).2
  grind[sR,aU]
theorem mg{b:Nat}(hb:1<b){x y:List Nat}(hx:∀d∈x,d<b)(hl:x.length=y.length){j:Nat}(hj:j<x.length)(hd:x.drop (j+1)=y.drop (j+1))(hlt:x.getD j 0<y.getD j 0):bv b x<bv b y:=by
 have h1:=iN b x j (by omega);have h2:=iN b y j (by omega);rw[dz]at h1 h2;rw[h1,h2,hd];have h3:=cY (b:=b) (x:=x.take j) (λd hm=>hx d (mem_of_mem_take hm));rw[length_take,min_eq_left (by omega)]at h3;have h4:=mul_le_mul_left (b^j) (succ_le_of_lt (Nat.add_lt_add_right hlt (b*bv b (y.drop (j+1)))))
 grind
theorem gk{b:Nat}(hb:1<b){m n:Nat}(h:(ay b m).length<(ay b n).length):m<n:=by
 have hn:0<n:=by
  rcases eq_zero_or_pos n with e|e
  ·grind[dn]
  ·exact e
 have h1:=cY (bK hb m);rw[bg hb]at h1;have h2:=lL hb hn;have h3:b^(ay b m).length<=b^((ay b n).length-1):=pow_le_pow_right (by omega) (by omega);omega
theorem mi(B q:Nat)(u v:List Nat):∀k i b c,aW B q u v i (k+1) b c =
    ((aW B q u v i k b c).1++[(fH B q (u.getD (i+k) 0) (v.getD (i+k) 0) (aW B q u v i k b c).2.1 (aW B q u v i k b c).2.2).1],
     (fH B q (u.getD (i+k) 0) (v.getD (i+k) 0) (aW B q u v i k b c).2.1 (aW B q u v i k b c).2.2).2.1,
     (fH B q (u.getD (i+k) 0) (v.getD (i+k) 0) (aW B q u v i k b c).2.1 (aW B q u v i k b c).2.2).2.2)
  |0,i,b,c=>rfl
  | k+1,i,b,c=>by
    have ih:=mi B q u v k (i+1) (fH B q (u.getD i 0) (v.getD i 0) b c).2.1 (fH B q (u.getD i 0) (v.getD i 0) b c).2.2
    grind[aW]
theorem vA{B q:Nat}(hB:1<B){u v:List Nat}(hu:∀d∈u,d<B)(k:Nat):(aW B q u v 0 k 0 0).2.1<=1:=(qf hB (v:=v) hu k 0 0 0 (by omega)).2
theorem lN{B q:Nat}(hB:1<B)(hq:q<B){u v:List Nat}(hv:∀d∈v,d<B):∀k,(aW B q u v 0 k 0 0).2.2<B
  |0=>by grind[aW]
  | k+1=>by
    rw[mi];have ih:=lN hB hq (u:=u) hv k;have h2:=aS (by omega) hv (0+k);show(q*v.getD (0+k) 0+(aW B q u v 0 k 0 0).2.2)/B<B;refine div_lt_of_lt_mul ?_;have h3:q*v.getD (0+k) 0<=(B-1)*(B-1):=mul_le_mul (by omega) (by omega);have h4:(B-1)*(B-1)+(B-1)=(B-1)*B:=by rw[<-mul_succ];congr 1;omega
    have h5:(B-1)*B+B=B*B:=by rw[<-succ_mul];congr 1;omega
    omega
theorem q7{α:Type}(x y:List α){i:Nat}(hx:x.length=i)(hi:i<y.length)(d:α):(x++y.drop i).set i d=(x++[d])++y.drop (i+1):=by
  rw[set_append,if_neg (by omega),hx,Nat.sub_self,List.drop_eq_getElem_cons hi,List.set_cons_zero,append_assoc];rfl
theorem o7(x y:List Nat){i:Nat}(hx:x.length=i):(x++y.drop i).getD i 0=y.getD i 0:=by grind
theorem pe(l:List Nat):l.take (cd l).length=cd l/\(cd l).length<=l.length:=by
 induction l using jd with
 |h0=>exact⟨rfl,Nat.le_refl _⟩
 | h1 l d ih=>
  by_cases hd:d=0
  ·grind[eQ]
  ·rw[fA l hd,take_length]
   grind
theorem wo{B n:Nat}(hB:1<B)(hn:0<n):0<(ay B n).getD ((ay B n).length-1) 0:=by
 have h1:=(CB hB n).2
 grind[ay]
theorem x6{B n m:Nat}(hB:1<B)(h1:n<B^m)(h2:B^(m-1)<=n)(hm:0<m):(ay B n).length=m:=by
 refine Nat.le_antisymm (gj hB h1) ?_;rcases lt_or_ge (ay B n).length m with h|h
 ·have h3:=cY (bK hB n);rw[bg hB]at h3;have:B^(ay B n).length<=B^(m-1):=pow_le_pow_right (by omega) (by omega);omega
 omega
theorem Hp{B Y:Nat}(hB:1<B)(hY:0<Y):let m:=(ay B Y).length;let top:=(ay B Y).getD (m-1) 0;let k:=B/(top+1)
  0<m/\top<B/\0<k/\k<=B/\B^(m-1)<=Y/\Y*k<B^m:=by
 intro m top k;have hm:0<m:=length_pos_iff.2 λe=>by grind[ek]
 have ht:top<B:=aS (by omega) (bK hB Y) _;have hk:0<k:=Nat.div_pos (by omega) (by omega);have hlow:=lL hB hY;refine⟨hm,ht,hk,Nat.div_le_self _ _,hlow,?_⟩;have hup:Y<(top+1)*B^(m-1):=by
  have h1:=iN B (ay B Y) (m-1) (by omega);rw[gh (show(ay B Y).length=m-1+1 by omega),bg hB]at h1;have h2:=cY (b:=B) (x:=(ay B Y).take (m-1)) (λd hd=>bK hB Y d (mem_of_mem_take hd));rw[length_take,min_eq_left (by omega)]at h2;rw[add_mul,one_mul,mul_comm top];show Y<B^(m-1)*top+_;have:(ay B Y).getD (m-1) 0=top:=rfl;rw[this]at h1;omega
 have h3:Y*k<(top+1)*B^(m-1)*k:=Nat.mul_lt_mul_of_pos_right hup hk;have h4:(top+1)*k<=B:=by rw[mul_comm];exact Nat.div_mul_le_self _ _
 have h5:(top+1)*B^(m-1)*k=(top+1)*k*B^(m-1):=by rw[Nat.mul_right_comm]
 have h6:(top+1)*k*B^(m-1)<=B*B^(m-1):=mul_le_mul_right _ h4;have h7:B*B^(m-1)=B^m:=by rw[mul_comm,<-pow_succ];congr 1;omega
 omega
def wid:Nat->Nat->List UInt8
 |0,_=>[]
 |n+1,u=>wid n (u/10)++[eP (u%10)]
theorem qh:∀n u,(wid n u).length=n
 |0,_=>rfl
 |n+1,u=>by rw[wid,length_append,qh n];rfl
theorem oo:∀(n u:Nat),wid (n+1) u=eP (u/10^n%10)::wid n u
 |0,u=>by simp[wid]
 |n+1,u=>by
  rw[wid,oo n (u/10),wid,cons_append,Nat.div_div_eq_div_mul,pow_succ,mul_comm 10]
theorem qg{n u:Nat}(h1:u<10^(n+1))(h2:n=0\/10^n<=u):wid (n+1) u=av u:=by
 induction n generalizing u with
 |zero=>grind[cC,wid]
 |succ n ih=>grind[fe,Nat.le_div_iff_mul_le,wid]
theorem wq{u:Nat}:∀{n:Nat},u<10^n->0<n->wid n u=List.replicate (n-(av u).length) 48++av u
 |0,_,h=>absurd h (by omega)
 | n+1,h,_=>by
  by_cases hn:n=0\/10^n<=u
  ·have h1:=qg h hn;have h2:=congrArg List.length h1;rw[qh]at h2
   simp_all
  ·have hn1:n≠0:=λh=>hn (.inl h);have hn2:u<10^n:=Nat.lt_of_not_le λh=>hn (.inr h);have hl:=(ff (n:=u) (k:=n) (by omega)).2 hn2;rw[oo,wq hn2 (by omega),div_eq_of_lt hn2,show n+1-(av u).length=(n-(av u).length)+1 by omega,List.replicate_succ];rfl
theorem re{Y:Nat}(hY:0<Y):∀{n b:Nat},b<10^n->av (Y*10^n+b)=av Y++wid n b
 |0,b,h=>by simp_all[wid]
 | n+1,b,h=>by
  have h1:b/10<10^n:=by rw[Nat.div_lt_iff_lt_mul (by omega),<-pow_succ];exact h
  have h2:=re hY h1;have hp:0<10^n:=Nat.pow_pos (by omega);have h3:0<Y*10^n+b/10:=Nat.add_pos_left (Nat.mul_pos hY hp) _;have e:Y*10^(n+1)+b=10*(Y*10^n+b/10)+b%10:=by
   rw[pow_succ,mul_add,<-mul_assoc,mul_comm (Y*10^n) 10];omega
  simp_all[pc,mod_lt,wid]
theorem vB{Y b:Nat}(hY:0<Y)(hb:b<1000000000):av (b+1000000000*Y)=av Y++List.replicate (9-(av b).length) 48++av b:=by
 have h:=re hY (n:=9) (b:=b) hb
 grind[wq]
theorem vC{b:Nat}(hb:b<1000000000):(av b).length<=9:=(ff (by omega)).2 hb
theorem mh(B:Nat)(y:List Nat)(k:Nat):bv B (y.take (k+1))=bv B (y.take k)+B^k*y.getD k 0:=by grind[List.take_succ_eq_append_getElem,kf,take_of_length_le]
theorem Cw{B:Nat}{x:List Nat}(hB:0<B)(h:∀d∈x,d<B)(i:Nat):x.getD i 0<B:=by grind[getElem_mem]
theorem sS{B:Nat}(hB:1<B){L y:List Nat}{i k cy xi P p:Nat}(hL:∀d∈L,d<B)(hj:i+k<L.length)(hcy:cy<B)(hxi:xi<B)(hyk:y.getD k 0<B)(hp:p=L.getD (i+k) 0+cy+xi*y.getD k 0)(eq:bv B L+cy*B^(i+k)=P+xi*bv B (y.take k)*B^i):
  (∀d∈L.set (i+k) (p%B),d<B)/\p/B<B/\bv B (L.set (i+k) (p%B))+p/B*B^(i+(k+1))=P+xi*bv B (y.take (k+1))*B^i:=by
 have hLj:=Cw (by omega) hL (i+k);refine⟨λd hd=>?_,?_,?_⟩
 ·rcases List.mem_or_eq_of_mem_set hd with h|h
  ·exact hL d h
  ·rw[h];exact mod_lt _ (by omega)
 ·rw[Nat.div_lt_iff_lt_mul (by omega),hp];have h1:xi*y.getD k 0<=(B-1)*(B-1):=mul_le_mul (by omega) (by omega);obtain⟨C,rfl⟩:∃C,B=C+1:=⟨B-1,by omega⟩
  rw[Nat.add_sub_cancel]at h1;have h2:(C+1)*(C+1)=C*C+C+C+1:=by rw[mul_succ,succ_mul];omega
  omega
 grind[sQ,mod_add_div,mh]
theorem Fk{B:Nat}(hB:1<B){L x y:List Nat}{i cy:Nat}(hx:∀d∈x,d<B)(hy:∀d∈y,d<B)(hi:i<x.length)(hL:∀d∈L,d<B)(eq:bv B L+cy*B^(i+(y.length+1))=bv B (x.take i)*bv B y+x.getD i 0*bv B (y.take (y.length+1))*B^i):
  bv B L=bv B (x.take (i+1))*bv B y:=by
 have h1:bv B (x.take (i+1))*bv B y=bv B (x.take i)*bv B y+x.getD i 0*bv B y*B^i:=by
  rw[mh,add_mul];congr 1;rw[mul_assoc,mul_comm]
 rw[take_of_length_le (by omega:y.length<=y.length+1),<-h1]at eq;have h2:bv B (x.take (i+1))<B^(i+1):=by
  have:=cY (b:=B) (x:=x.take (i+1)) (λd hd=>hx d (mem_of_mem_take hd));rwa[length_take,min_eq_left (by omega)]at this
 have h3:=cY hy;have h4:bv B (x.take (i+1))*bv B y<B^(i+(y.length+1)):=by
  rw[show i+(y.length+1)=(i+1)+y.length by omega,Nat.pow_add];exact Nat.mul_lt_mul'' h2 h3
 rcases eq_zero_or_pos cy with h|h
 ·grind
 ·have h5:1*B^(i+(y.length+1))<=cy*B^(i+(y.length+1)):=mul_le_mul_right _ h;omega
theorem sP(B n:Nat):bv B (List.replicate n 0)=0:=by
 induction n with
 |zero=>rfl
 |succ n ih=>grind[bv]
def dN(c:UInt8):List UInt8->Nat
 |[]=>0
 |x::l=>if x=c then 0 else dN c l+1
def isNeg(a:List UInt8):Bool:=a.head? == some 45
def bJ(a:List UInt8):List UInt8:=if isNeg a then a.drop 1 else a
def numOf(a:List UInt8):List UInt8:=(bJ a).take (dN 47 (bJ a))
def fc(a:List UInt8):Bool:=decide (dN 47 (bJ a)<(bJ a).length)
def ct(a:List UInt8):List UInt8:=if fc a then(bJ a).drop (dN 47 (bJ a)+1)else[49]
def dr(a:List UInt8):Bool:=aC (numOf a)&&aC (ct a)&&decide ((numOf a).length<=400)&&decide ((ct a).length<=400) && !(isNeg a&&numOf a==[48]) && !(fc a&&(ct a==[48]||ct a==[49]))&&decide (Nat.gcd (val (numOf a)) (val (ct a))=1)
structure Kr(a:List UInt8):Prop where
 num:aC (numOf a)=true
 den:aC (ct a)=true
 ln:(numOf a).length<=400
 ld:(ct a).length<=400
 neg:¬(isNeg a=true/\numOf a=[48])
 fr:¬(fc a=true/\(ct a=[48]\/ct a=[49]))
 one:Nat.gcd (val (numOf a)) (val (ct a))=1
theorem jJ{a:List UInt8}:dr a=true↔Kr a:=by
 unfold dr;simp only[and_eq_true,Bool.not_eq_true',Bool.and_eq_false_iff,Bool.or_eq_false_iff,decide_eq_true_eq,beq_eq_false_iff_ne];constructor
 ·rintro⟨⟨⟨⟨⟨⟨h1,h2⟩,h3⟩,h4⟩,h5⟩,h6⟩,h7⟩;refine⟨h1,h2,h3,h4,λ⟨e1,e2⟩=>?_,λ⟨e1,e2⟩=>?_,h7⟩
  all_goals grind
 ·rintro⟨h1,h2,h3,h4,h5,h6,h7⟩
  grind
theorem sV{a:List UInt8}{k:Nat}(h:aC a=true)(hk:0<k)(hl:a.length<=k):val a<10^k:=by grind[jk,ff]
def jK(s:Bool)(A:Nat)(t:Bool)(B:Nat):Bool×Nat:=if s=t then(s,A+B)else if A<B then(t,B-A)else(s,A-B)
def kg(a b:List UInt8):Int:=
 if dr a=true/\dr b=true then
  if(jK (isNeg a) (val (numOf a)*val (ct b)) (!isNeg b) (val (numOf b)*val (ct a))).2=0 then 0
  else if(jK (isNeg a) (val (numOf a)*val (ct b)) (!isNeg b) (val (numOf b)*val (ct a))).1=true then -1 else 1
 else 0
theorem Fm{A B k m:Nat}(e:k+k=m)(hA:A<10^k)(hB:B<10^k):A*B<10^m:=by
 subst e;rw[Nat.pow_add];exact Nat.mul_lt_mul'' hA hB
theorem vy{A B:Nat}(hA:A<10^400)(hB:B<10^400):A*B<10^800:=Fm (k:=400) (m:=800) rfl hA hB
theorem o8{k m:Nat}(h:k<=m):10^k<=10^m:=pow_le_pow_right (by decide) h
theorem Fl:(10:Nat)^800+10^800<=10^1000:=by omega
def cO(kind:Int)(a:List UInt8):Bool:=decide (1<=kind/\kind<=3)&&dr a&&(kind==1||decide (0<kg a [48]))
section
def x5:List Nat->List Nat->Prop
 |x::u,y::v=>x<y\/(x=y/\x5 u v)
 |_,_=>False
def Em(u v:List Nat):Prop:=u.length<v.length\/(u.length=v.length/\x5 u v)
def gK(A:Nat->List (Nat×Nat))(F:Nat->Prop):Nat->List Nat->Prop
 |q,[]=>F q
 |q,x::w=>∃t,(x,t)∈A q/\gK A F t w
def fa(A:Nat->List (Nat×Nat))(F:Nat->Prop)(q:Nat)(w:List Nat):Prop:=gK A F q w/\∀v,gK A F q v->¬Em v w
section
variable {A:Nat->List (Nat×Nat)} {F:Nat->Prop}
structure ky(A:Nat->List (Nat×Nat))(F:Nat->Prop)(q:Nat)(d:Int):Prop where
 none:d<0->∀v,¬gK A F q v
 some:0<=d->∃w,gK A F q w/\(w.length:Int)=d
 least:∀v,gK A F q v->d<=v.length
theorem fa.len{q:Nat}{w:List Nat}(h:fa A F q w){d:Int}(hd:ky A F q d):(w.length:Int)=d:=by
 have h1:=hd.least w h.1;have h0:0<=d:=by
  rcases Int.lt_or_le d 0 with c|c
  ·exact absurd h.1 (hd.none c w)
  ·exact c
 obtain⟨v,h2,h3⟩:=hd.some h0;have h4:=h.2 v h2;unfold Em at h4;omega
theorem xZ{d:Nat->Int}(hd:∀q,ky A F q (d q)){p t:Nat}{x:Nat}{w:List Nat}(hp:0<d p)(hx:(x,t)∈A p)(ht:d t=d p-1)(hm:∀y s,(y,s)∈A p->d s=d p-1->x<=y)(Sy:∀y s s',(y,s)∈A p->(y,s')∈A p->s=s')(hw:fa A F t w):fa A F p (x::w):=by
 have hl:=hw.len (hd t);refine⟨⟨t,hx,hw.1⟩,λv hv c=>?_⟩;have h1:=(hd p).least v hv;unfold Em at c;rw[length_cons]at c;rcases c with c|⟨c,e⟩
 ·omega
 ·cases v with
  |nil=>simp at c
  | cons y v=>
   obtain⟨s,hs,hv⟩:=hv;rw[length_cons]at c h1;unfold x5 at e;have h2:=(hd s).least v hv;have h3:d p<=d s+1:=by
    rcases Int.lt_or_le (d s) 0 with g|g
    ·exact absurd hv ((hd s).none g v)
    ·obtain⟨u,u1,u2⟩:=(hd s).some g;have:=(hd p).least (y::u) ⟨s,hs,u1⟩;rw[length_cons]at this;omega
   have h4:=hm y s hs (by omega);rcases e with e|⟨e,f⟩
   ·omega
   ·subst e;obtain rfl:=Sy y s t hs hx;exact hw.2 v hv (.inr ⟨by omega,f⟩)
theorem zO{d:Nat->Int}(hd:∀q,ky A F q (d q)){q:Nat}(h:d q=0):fa A F q []:=by
 obtain⟨w,h1,h2⟩:=(hd q).some (by omega);obtain rfl:w=[]:=List.eq_nil_of_length_eq_zero (by omega);refine⟨h1,λv _ c=>?_⟩;unfold Em at c;rcases c with c|⟨c,e⟩
 ·simp at c
 ·cases v<;>simp[x5]at e
theorem zN{d:Nat->Int}(hd:∀q,ky A F q (d q)){p:Nat}(h:0<d p):∃x t,(x,t)∈A p/\d t=d p-1:=by
 obtain⟨w,h1,h2⟩:=(hd p).some (by omega)
 cases w with
 |nil=>simp at h2;omega
 |cons x w=>
  obtain⟨t,ht,hw⟩:=h1;rw[length_cons]at h2;refine⟨x,t,ht,?_⟩;have h3:=(hd t).least w hw;rcases Int.lt_or_le (d t) 0 with g|g
  ·exact absurd hw ((hd t).none g w)
  ·obtain⟨u,u1,u2⟩:=(hd t).some g;have:=(hd p).least (x::u) ⟨t,ht,u1⟩;rw[length_cons]at this;omega
structure fR(A:Nat->List (Nat×Nat))(F:Nat->Prop)(n:Nat)(D:List Int)(T:List Nat)(i:Nat)(Pd:Nat->Prop):Prop where
 len:D.length=n
 mem:∀q,q<n->(0<=D.getD q (-1)↔q∈T)
 low:∀q,q<n-> -1<=D.getD q (-1)
 tn:∀q∈T,q<n
 acc:∀q∈T,∃w,gK A F q w/\(w.length:Int)=D.getD q (-1)
 mono:∀a b x y:Nat,a<=b->T[a]?=some x->T[b]?=some y->D.getD x (-1)<=D.getD y (-1)
 I5:∀x:Nat,T[i]?=some x->∀y∈T,D.getD y (-1)<=D.getD x (-1)+1
 fin:∀q,F q->q∈T/\D.getD q (-1)=0
 done:∀a t:Nat,a<i->T[a]?=some t->∀q x,(x,t)∈A q->q∈T/\D.getD q (-1)<=D.getD t (-1)+1
 part:∀t:Nat,T[i]?=some t->∀q,Pd q->q∈T/\D.getD q (-1)<=D.getD t (-1)+1
theorem fR.Sz{n:Nat}{D:List Int}{T:List Nat}{i:Nat}{Pd:Nat->Prop}(b:fR A F n D T i Pd)(hA:∀q x t,(x,t)∈A q->q<n/\t<n)(hi:T.length<=i):∀q,ky A F q (D.getD q (-1)):=by
 have key:∀v q,gK A F q v->q∈T/\D.getD q (-1)<=v.length:=by
  intro v
  induction v with
  |nil=>intro q h;obtain⟨h1,h2⟩:=b.fin q h;exact⟨h1,by rw[h2];simp⟩
  |cons x v ih=>
   rintro q ⟨t,ht,hv⟩;obtain⟨h1,h2⟩:=ih t hv;obtain⟨a,ha,he⟩:=List.mem_iff_getElem.1 h1;obtain⟨h3,h4⟩:=b.done a t (by omega) (by rw[gE ha,he]) q x ht;refine⟨h3,?_⟩;rw[length_cons];omega
 intro q;refine⟨λh v hv=>?_,λh=>?_,λv hv=>(key v q hv).2⟩
 ·have h1:=(key v q hv).1;have:=(b.mem q (b.tn q h1)).2 h1;omega
 ·rcases lt_or_ge q n with c|c
  ·exact b.acc q ((b.mem q c).1 h)
  ·rw[gD,getElem?_eq_none (by have:=b.len;omega)]at h;simp at h
theorem kz(D:List Int)(p q:Nat)(z:Int)(h:p<D.length):(D.set p z).getD q (-1)=if q=p then z else D.getD q (-1):=by
 rw[gD,List.getElem?_set];by_cases e:p=q
 ·subst e;rw[if_pos rfl,if_pos h,if_pos rfl];rfl
 ·rw[if_neg e,if_neg (λc=>e c.symm),gD]
theorem fR.Ud{n:Nat}{D:List Int}{T:List Nat}{i t p:Nat}{Pd:Nat->Prop}(b:fR A F n D T i Pd)(ht:T[i]?=some t)(hp:p<n){x:Nat}(hx:(x,t)∈A p)(h:D.getD p (-1)<0):
  fR A F n (D.set p (D.getD t (-1)+1)) (T++[p]) i (λq=>Pd q\/q=p):=by
 have hpT:p∉T:=λc=>by have:=(b.mem p hp).2 c;omega
 have hl:p<D.length:=by rw[b.len];exact hp
 have hg:=λq=>kz D p q (D.getD t (-1)+1) hl;have hti:=(List.getElem?_eq_some_iff.1 ht).1;have htT:=List.mem_of_getElem? ht;have ht0:=(b.mem t (b.tn t htT)).2 htT;have hne:∀q∈T,q≠p:=λq hq e=>hpT (e▸hq);have hgT:∀q∈T,(D.set p (D.getD t (-1)+1)).getD q (-1)=D.getD q (-1):=λq hq=>by rw[hg,if_neg (hne q hq)]
 have hgp:(D.set p (D.getD t (-1)+1)).getD p (-1)=D.getD t (-1)+1:=by rw[hg,if_pos rfl]
 have hi':(T++[p])[i]?=some t:=by rw[List.getElem?_append_left hti];exact ht
 have hidx:∀{a y:Nat},(T++[p])[a]?=some y->(T[a]?=some y/\a<T.length)\/(y=p/\a=T.length):=λ{a y} h=>by
  rw[List.getElem?_append]at h;split at h
  ·next c=>exact .inl ⟨h,c⟩
  ·next c=>
   right
   cases e:a-T.length with
   |zero=>rw[e]at h;simp at h;exact⟨h.symm,by omega⟩
   |succ m=>rw[e]at h;simp at h
 refine⟨by rw[length_set];exact b.len,λq hq=>?_,λq hq=>?_,λq hq=>?_,λq hq=>?_,λa c x y hac h1 h2=>?_,λx' h1 y hy=>?_,λq hq=>?_,λa t' ha h1 q x' hq=>?_,λt' h1 q hq=>?_⟩
 ·rw[hg,mem_append,mem_singleton];split
  ·next e=>exact⟨λ_=> .inr e,λ_=>by omega⟩
  ·next e=>rw[b.mem q hq];exact⟨.inl,λc=>c.elim id λc=>absurd c e⟩
 ·rw[hg];split
  ·omega
  ·exact b.low q hq
 ·rcases mem_append.1 hq with c|c
  ·exact b.tn q c
  ·rw[mem_singleton]at c;subst c;exact hp
 ·rcases mem_append.1 hq with c|c
  ·rw[hgT q c];exact b.acc q c
  ·rw[mem_singleton]at c;subst c;obtain⟨w,h1,h2⟩:=b.acc t htT;exact⟨x::w,⟨t,hx,h1⟩,by rw[hgp,length_cons];omega⟩
 ·rcases hidx h1 with⟨g1,g2⟩|⟨g1,g2⟩<;>rcases hidx h2 with⟨g3,g4⟩|⟨g3,g4⟩
  ·rw[hgT _ (List.mem_of_getElem? g1),hgT _ (List.mem_of_getElem? g3)];exact b.mono a c x y hac g1 g3
  ·subst g3;rw[hgT _ (List.mem_of_getElem? g1),hgp];exact b.I5 t ht x (List.mem_of_getElem? g1)
  ·omega
  ·subst g1;subst g3;exact Int.le_refl _
 ·rw[hi']at h1;obtain rfl:=oI h1;rw[hgT _ htT];rcases mem_append.1 hy with c|c
  ·rw[hgT _ c];exact b.I5 t ht y c
  ·rw[mem_singleton]at c;subst c;rw[hgp];exact Int.le_refl _
 ·obtain⟨h1,h2⟩:=b.fin q hq;exact⟨List.mem_append_left _ h1,by rw[hgT _ h1];exact h2⟩
 ·have h2:T[a]?=some t':=by
   rcases hidx h1 with c|c
   ·exact c.1
   ·omega
  obtain⟨h3,h4⟩:=b.done a t' ha h2 q x' hq;exact⟨List.mem_append_left _ h3,by rw[hgT _ h3,hgT _ (List.mem_of_getElem? h2)];exact h4⟩
 ·rw[hi']at h1;obtain rfl:=oI h1;rw[hgT _ htT];rcases hq with c|c
  ·obtain⟨h3,h4⟩:=b.part t ht q c;exact⟨List.mem_append_left _ h3,by rw[hgT _ h3];exact h4⟩
  ·subst c;exact⟨List.mem_append_right _ (List.mem_singleton_self _),by rw[hgp];exact Int.le_refl _⟩
theorem fR.old{n:Nat}{D:List Int}{T:List Nat}{i t p:Nat}{Pd:Nat->Prop}(b:fR A F n D T i Pd)(ht:T[i]?=some t)(hp:p<n)(h:¬D.getD p (-1)<0):fR A F n D T i (λq=>Pd q\/q=p):=
 { b with
  part:=λt' h1 q hq=>by
   rcases hq with c|c
   ·exact b.part t' h1 q c
   ·subst c;have:=(b.mem q hp).1 (by omega);exact⟨this,b.I5 t' h1 q this⟩ }
theorem fR.next{n:Nat}{D:List Int}{T:List Nat}{i t:Nat}{Pd:Nat->Prop}(b:fR A F n D T i Pd)(ht:T[i]?=some t)(h:∀q x,(x,t)∈A q->Pd q):fR A F n D T (i+1) (λ_=>False):=
 { b with
  I5:=λx h1 y hy=>by
   have h2:=b.I5 t ht y hy;have h3:=b.mono i (i+1) t x (by omega) ht h1;omega
  done:=λa t' ha h1 q x hq=>by
   rcases lt_or_ge a i with c|c
   ·exact b.done a t' c h1 q x hq
   ·obtain rfl:a=i:=by omega
    rw[ht]at h1;obtain rfl:=oI h1;exact b.part t ht q (h q x hq)
  part:=λ_ _ _ c=>c.elim }
end
end
end Go.Num
end
section
namespace Go.Proofs.YtaheifbogkjpdaaGreatDoor
open Go Go.Ab Go.RowKit
theorem K1:(((Tryz.prog.funcs.toList.drop 0).take 40).all λf=>dk f)=true:=by kernel_rfl
theorem K2:(((Tryz.prog.funcs.toList.drop 40).take 40).all λf=>dk f)=true:=by kernel_rfl
theorem K3:(((Tryz.prog.funcs.toList.drop 80).take 40).all λf=>dk f)=true:=by kernel_rfl
theorem K4:(((Tryz.prog.funcs.toList.drop 120).take 40).all λf=>dk f)=true:=by kernel_rfl
theorem K5:(((Tryz.prog.funcs.toList.drop 160).take 40).all λf=>dk f)=true:=by kernel_rfl
theorem K6:(((Tryz.prog.funcs.toList.drop 200).take 40).all λf=>dk f)=true:=by kernel_rfl
theorem K7:(((Tryz.prog.funcs.toList.drop 240).take 40).all λf=>dk f)=true:=by kernel_rfl
theorem F1:Tryz.prog.funcs.toList.length=244:=by kernel_rfl
theorem Ia(i:Nat)(fn:Func)(h:Tryz.prog.funcs.toList[i]?=some fn):dk fn=true:=by
 have key:∀a,((Tryz.prog.funcs.toList.drop a).take 40).all (λf=>dk f)=true->a<=i->i<a+40->dk fn=true:=λa ha h1 h2=>by
  refine all_eq_true.1 ha fn (List.mem_of_getElem? (i:=i-a) ?_);rw[getElem?_take,if_pos (by omega),getElem?_drop,show a+(i-a)=i by omega];exact h
 have hlt:i<244:=by
  have:=(List.getElem?_eq_some_iff.1 h).1;rw[F1]at this;exact this
 by_cases h0:i<40
 ·exact key 0 K1 (by omega) (by omega)
 by_cases h1:i<80
 ·exact key 40 K2 (by omega) (by omega)
 by_cases h2:i<120
 ·exact key 80 K3 (by omega) (by omega)
 by_cases h3:i<160
 ·exact key 120 K4 (by omega) (by omega)
 by_cases h4:i<200
 ·exact key 160 K5 (by omega) (by omega)
 by_cases h5:i<240
 ·exact key 200 K6 (by omega) (by omega)
 exact key 240 K7 (by omega) (by omega)
theorem Gp:(Tryz.prog.funcs.toList.all λf=> !(f.name == "runtime.NumGoroutine"))=true:=by kernel_rfl
theorem al:oq Tryz.prog:={
 names:=λ_ fn h=>by
  have hm:fn∈Tryz.prog.funcs.toList:=by
   rw[<-Array.getElem?_toList]at h;exact List.mem_of_getElem? h
  have:=all_eq_true.1 Gp fn hm;simpa using this
 H9:=λf fn h=>Ia f fn (by rw[Array.getElem?_toList];exact h) }
theorem vX:gm Tryz.prog ju 215 hH:=rE (fn:=(Tryz.prog.funcs[215]?).getD default) (by kernel_rfl) (by kernel_rfl) (by kernel_rfl) (by kernel_rfl) (by kernel_rfl)
theorem tT:gm Tryz.prog ju 217 ft:=pF (fn:=(Tryz.prog.funcs[217]?).getD default) (by kernel_rfl) (by kernel_rfl) (by kernel_rfl) (by kernel_rfl) (by kernel_rfl)
def DQ:Code->Code
 |.seq a _=>a
 |c=>c
def zn:Code->Code
 |.seq _ b=>b
 |c=>c
noncomputable def wC:Code:=(Tryz.f131.body).getD .skip
theorem pD(args:Array Value)(w:World)(h:args.size=2):CallsDIn Fence.wide 0 Tryz.prog 160 args .returning w λe u' w'=>(∃v,e = .returned v)/\u' = .returning/\Below w.heap.size w w'/\w.drawn<=w'.drawn:=
 Le (n:=2) Tryz.func160 rfl rfl (by kernel_rfl) args w h
theorem zy:gm Tryz.prog ju 131 (oQ Tryz.prog ju Tryz.f131 (DQ wC) (zn (zn wC)) 5):=
 An al.names Tryz.func131 rfl rfl rfl rfl rfl rfl rfl Tryz.func160 rfl pD (by kernel_rfl) (by kernel_rfl)
noncomputable def NU:iK:=[(215,.MU),(217,.EK),(131,.defer Tryz.f131 (DQ wC) (zn (zn wC)) 5)]
theorem iV:ji Tryz.prog ju NU:=fU vX (fU tT (fU zy (wu)))
end Go.Proofs.YtaheifbogkjpdaaGreatDoor
end
section
namespace Go.Proofs.YtaheifbogkjpdaaGreatDoor
open Go Go.Ab Go.Num
def Iz:Nat->Bool:=λg=>Nat.beq g 0
noncomputable def NV:iK:=(6,.mH [([],.bool true)]) ::NU
noncomputable def SS:Sx:=⟨Tryz.prog,Iz,zg Tryz.prog Iz NV⟩
noncomputable def FM:FD:=fo Tryz.f180 []
theorem CY(l m:LB)(h:aa)(Q:VH)(hx:FW SS 202 [(strOf l),(strOf m)] h λv1 h2=>yB v1 λb3=>aZ (!b3) (Q (.tuple ⟨[(strOf l),(.bool false)]⟩) h2) (xS (cA SS.P 9 (strOf l) (some (.int .i64 ((m:LB).length:Int))) none none h2) λl4=>Q (.tuple ⟨[(strOf l4),(.bool true)]⟩) h2)):FW SS 180 [(strOf l),(strOf m)] h Q:=fy FM Tryz.func180 (az hx)
noncomputable def H4:FD:=fo Tryz.f158 []
theorem FN(l m:LB)(h:aa)(Q:VH)(hx:FW SS 180 [(strOf l),(strOf m)] h λv1 h2=>∃l3:LB,∃b4:Bool,v1=(.tuple ⟨[(strOf l3),(.bool b4)]⟩)/\Q (.tuple ⟨[(strOf l3),(.bool b4)]⟩) h2):FW SS 158 [(strOf l),(strOf m)] h Q:=fy H4 Tryz.func158 (az hx)
noncomputable def Df:FD:=fo Tryz.f211 []
theorem AW(l:LB)(c:Int)(h:aa)(Q:VH)(hx:FW SS 217 [(strOf l),(.int .u8 c)] h λv1 h2=>yI .i64 v1 λn3=>Q (.int .i64 n3) h2):FW SS 211 [(strOf l),(.int .u8 c)] h Q:=fy Df Tryz.func211 (az hx)
noncomputable def ID:FD:=fo Tryz.f203 []
theorem F6(l:LB)(h:aa)(Q:VH)(hx:aZ (([47]:LB)==l) (Q (.int .i64 0) h) (xI .u8 (bu SS.P 9 (strOf [47]) (.int .i64 0)) λn1=>FW SS 211 [(strOf l),(.int .u8 n1)] h λv2 h3=>yI .i64 v2 λn4=>Q (.int .i64 n4) h3)):FW SS 203 [(strOf l),(strOf [47])] h Q:=fy ID Tryz.func203 (az hx)
noncomputable def NB:FD:=fo Tryz.f181 []
theorem KV(l:LB)(h:aa)(Q:VH)(hx:FW SS 203 [(strOf l),(strOf [47])] h λv1 h2=>yI .i64 v1 λn3=>aZ (decide ((n3:Int)>=0)) (xS (cA SS.P 9 (strOf l) none (some (.int .i64 n3)) none (room h2 12)) λl4=>xS (cA SS.P 9 (strOf l) (some (.int .i64 (wrap .i64 (n3+1)))) none none (room h2 12)) λl5=>Q (.tuple ⟨[(strOf l4),(strOf l5),(.bool true)]⟩) (room h2 12)) (Q (.tuple ⟨[(strOf l),(strOf []),(.bool false)]⟩) h2)):FW SS 181 [(strOf l),(strOf [47])] h Q:=fy NB Tryz.func181 (az hx)
noncomputable def Qd:FD:=fo Tryz.f159 []
theorem NC(l:LB)(h:aa)(Q:VH)(hx:FW SS 181 [(strOf l),(strOf [47])] h λv1 h2=>∃l3:LB,∃l4:LB,∃b5:Bool,v1=(.tuple ⟨[(strOf l3),(strOf l4),(.bool b5)]⟩)/\Q (.tuple ⟨[(strOf l3),(strOf l4),(.bool b5)]⟩) h2):FW SS 159 [(strOf l),(strOf [47])] h Q:=fy Qd Tryz.func159 (az hx)
noncomputable def GM:FD:=fo Tryz.f93 []
theorem DD(l:LB)(e:Int)(h:aa)(Q:VH)(hx:aZ (((e:Int) !=0)) (xA (bL SS.P 149 []) λc1=>False) (Q (strOf l) h)):FW SS 93 [(strOf l),(.int .i64 e)] h Q:=fy GM Tryz.func93 (az hx)
noncomputable def ai:FD:=fo Tryz.f130 []
abbrev uE(l:LB)(cc:Code)(h:aa)(Q:VH):Prop:=xN (bN SS.P 120) h λB1 g2=>FW SS 158 [(strOf l),(strOf [45])] g2 λv3 h4=>∃l5:LB,∃b6:Bool,v3=(.tuple ⟨[(strOf l5),(.bool b6)]⟩)/\FW SS 159 [(strOf l5),(strOf [47])] h4 λv7 h8=>∃l9:LB,∃l10:LB,∃b11:Bool,v7=(.tuple ⟨[(strOf l9),(strOf l10),(.bool b11)]⟩)/\aZ (!b11) (wpS SS ai.nm ai.ms [1,1,1,1] cc (uN [(strOf l),undef,(pA (h.next)),(.bool false),(strOf l5),(.bool b6),(strOf l9),(strOf [49]),(.bool b11),undef,undef,(.tuple ⟨[(strOf l5),(.bool b6)]⟩),(strOf l),(.tuple ⟨[(strOf l5),(.bool b6)]⟩),(strOf l5),(.bool b6),(.tuple ⟨[(strOf l9),(strOf l10),(.bool b11)]⟩),(strOf l5),(.tuple ⟨[(strOf l9),(strOf l10),(.bool b11)]⟩),(strOf l9),(strOf l10),(.bool b11),(.bool b11),(.bool (!b11))] 53) h8 (EE SS ai Q)) (wpS SS ai.nm ai.ms [1,1,1,1] cc (uN [(strOf l),undef,(pA (h.next)),(.bool false),(strOf l5),(.bool b6),(strOf l9),(strOf l10),(.bool b11),undef,undef,(.tuple ⟨[(strOf l5),(.bool b6)]⟩),(strOf l),(.tuple ⟨[(strOf l5),(.bool b6)]⟩),(strOf l5),(.bool b6),(.tuple ⟨[(strOf l9),(strOf l10),(.bool b11)]⟩),(strOf l5),(.tuple ⟨[(strOf l9),(strOf l10),(.bool b11)]⟩),(strOf l9),(strOf l10),(.bool b11),(.bool b11),(.bool (!b11))] 53) h8 (EE SS ai Q))
theorem BE(l:LB)(h:aa)(Q:VH)(hx:uE l (gJ [1,1,1,1] ai.body) h Q):FW SS 130 [(strOf l)] h Q:=by
 have e:∀cc,uE l cc h Q=wpS SS ai.nm ai.ms [] (setAt [1,1,1,1] cc ai.body) ([(strOf l)]++List.replicate (ai.nm-([(strOf l)]:LV).length) undef) h (EE SS ai Q):=λcc=>by kernel_rfl
 have e:=e (gJ [1,1,1,1] ai.body);rw[gb]at e;exact fy ai Tryz.func130 (az hx e)
abbrev nW(n d:LB)(neg fnd:Bool)(p:Addr)(cc:Code)(x0 x1 x3 x4 x9 x10 x11 x12 x13 x14 x15 x16 x17 x18 x19 x20 x21 x22 x23 x24 x25 x26 x27 x28 x29 x30 x31 x32 x33 x34 x35 x36 x37 x38 x39 x40 x41 x42 x43 x44 x45 x46 x47 x48 x49 x50 x51 x52 x53 x54 x55 x56 x57 x58 x59 x60 x61 x62 x63 x64 x65 x66 x67 x68 x69 x70 x71 x72 x73 x74 x75 x76:Value)(h:aa)(Q:VH):Prop:=FW SS 136 [(strOf n)] h λv1 h2=>yB v1 λb3=>aZ (!b3) (xA (bL SS.P 120 []) λc4=>xU (an SS.P 120 (.pointer (some p)) (.agg ⟨c4⟩) h2) h2 λu5 g6=>iP SS [((.pointer (some p)),some 120),((.bool false),none)] g6 Q) (FW SS 136 [(strOf d)] h2 λv7 h8=>yB v7 λb9=>aZ (!b9) (xA (bL SS.P 120 []) λbU=>xU (an SS.P 120 (.pointer (some p)) (.agg ⟨bU⟩) h8) h8 λPD Kk=>iP SS [((.pointer (some p)),some 120),((.bool false),none)] Kk Q) (aZ (decide ((((n:LB).length:Int):Int)>400)) (xA (bL SS.P 120 []) λcg=>xU (an SS.P 120 (.pointer (some p)) (.agg ⟨cg⟩) h8) h8 λKm Iu=>iP SS [((.pointer (some p)),some 120),((.bool false),none)] Iu Q) (aZ (decide ((((d:LB).length:Int):Int)>400)) (xA (bL SS.P 120 []) λc16=>xU (an SS.P 120 (.pointer (some p)) (.agg ⟨c16⟩) h8) h8 λu17 g18=>iP SS [((.pointer (some p)),some 120),((.bool false),none)] g18 Q) (wpS SS ai.nm ai.ms [1,1,1,1,1] cc [x0,x1,(.pointer (some p)),x3,x4,(.bool neg),(strOf n),(strOf d),(.bool fnd),x9,x10,x11,x12,x13,x14,x15,x16,x17,x18,x19,x20,x21,x22,x23,(strOf n),(.bool b3),(.bool (!b3)),(.bool false),(strOf d),(.bool b9),(.bool (!b9)),(.bool (!b9)),(.bool false),(strOf n),(.int .i64 ((n:LB).length:Int)),(.bool (decide ((((n:LB).length:Int):Int)>400))),(.bool (decide ((((n:LB).length:Int):Int)>400))),(.bool false),(strOf d),(.int .i64 ((d:LB).length:Int)),(.bool (decide ((((d:LB).length:Int):Int)>400))),(.bool (decide ((((d:LB).length:Int):Int)>400))),x42,x43,x44,x45,x46,x47,x48,x49,x50,x51,x52,x53,x54,x55,x56,x57,x58,x59,x60,x61,x62,x63,x64,x65,x66,x67,x68,x69,x70,x71,x72,x73,x74,x75,x76] h8 (EE SS ai Q)))))
theorem uF{n d:LB}{neg fnd:Bool}{p:Addr}{x0 x1 x3 x4 x9 x10 x11 x12 x13 x14 x15 x16 x17 x18 x19 x20 x21 x22 x23 x24 x25 x26 x27 x28 x29 x30 x31 x32 x33 x34 x35 x36 x37 x38 x39 x40 x41 x42 x43 x44 x45 x46 x47 x48 x49 x50 x51 x52 x53 x54 x55 x56 x57 x58 x59 x60 x61 x62 x63 x64 x65 x66 x67 x68 x69 x70 x71 x72 x73 x74 x75 x76:Value}{h:aa}{Q:VH}(hx:nW n d neg fnd p (gJ [1,1,1,1,1] ai.body) x0 x1 x3 x4 x9 x10 x11 x12 x13 x14 x15 x16 x17 x18 x19 x20 x21 x22 x23 x24 x25 x26 x27 x28 x29 x30 x31 x32 x33 x34 x35 x36 x37 x38 x39 x40 x41 x42 x43 x44 x45 x46 x47 x48 x49 x50 x51 x52 x53 x54 x55 x56 x57 x58 x59 x60 x61 x62 x63 x64 x65 x66 x67 x68 x69 x70 x71 x72 x73 x74 x75 x76 h Q):TT SS ai [1,1,1,1] [x0,x1,(.pointer (some p)),x3,x4,(.bool neg),(strOf n),(strOf d),(.bool fnd),x9,x10,x11,x12,x13,x14,x15,x16,x17,x18,x19,x20,x21,x22,x23,x24,x25,x26,x27,x28,x29,x30,x31,x32,x33,x34,x35,x36,x37,x38,x39,x40,x41,x42,x43,x44,x45,x46,x47,x48,x49,x50,x51,x52,x53,x54,x55,x56,x57,x58,x59,x60,x61,x62,x63,x64,x65,x66,x67,x68,x69,x70,x71,x72,x73,x74,x75,x76] h (EE SS ai Q):=by
 have e:∀cc,nW n d neg fnd p cc x0 x1 x3 x4 x9 x10 x11 x12 x13 x14 x15 x16 x17 x18 x19 x20 x21 x22 x23 x24 x25 x26 x27 x28 x29 x30 x31 x32 x33 x34 x35 x36 x37 x38 x39 x40 x41 x42 x43 x44 x45 x46 x47 x48 x49 x50 x51 x52 x53 x54 x55 x56 x57 x58 x59 x60 x61 x62 x63 x64 x65 x66 x67 x68 x69 x70 x71 x72 x73 x74 x75 x76 h Q=wpS SS ai.nm ai.ms [1,1,1,1] (setAt [1] cc (gJ [1,1,1,1] ai.body)) [x0,x1,(.pointer (some p)),x3,x4,(.bool neg),(strOf n),(strOf d),(.bool fnd),x9,x10,x11,x12,x13,x14,x15,x16,x17,x18,x19,x20,x21,x22,x23,x24,x25,x26,x27,x28,x29,x30,x31,x32,x33,x34,x35,x36,x37,x38,x39,x40,x41,x42,x43,x44,x45,x46,x47,x48,x49,x50,x51,x52,x53,x54,x55,x56,x57,x58,x59,x60,x61,x62,x63,x64,x65,x66,x67,x68,x69,x70,x71,x72,x73,x74,x75,x76] h (EE SS ai Q):=λcc=>by kernel_rfl
 have e:=e (gJ [1,1,1,1,1] ai.body);have ec:(gJ [1,1,1,1,1] ai.body)=gJ [1] (gJ [1,1,1,1] ai.body):=by kernel_rfl
 have es:setAt [1] (gJ [1,1,1,1,1] ai.body) (gJ [1,1,1,1] ai.body)=gJ [1,1,1,1] ai.body:=by rw[ec,gb]
 rw[es]at e;exact az hx e
abbrev nY(n d:LB)(neg fnd:Bool)(p:Addr)(cc:Code)(x0 x1 x3 x4 x9 x10 x11 x12 x13 x14 x15 x16 x17 x18 x19 x20 x21 x22 x23 x24 x25 x26 x27 x28 x29 x30 x31 x32 x33 x34 x35 x36 x37 x38 x39 x40 x41 x42 x43 x44 x45 x46 x47 x48 x49 x50 x51 x52 x53 x54 x55 x56 x57 x58 x59 x60 x61 x62 x63 x64 x65 x66 x67 x68 x69 x70 x71 x72 x73 x74 x75 x76:Value)(h:aa)(Q:VH):Prop:=aZ neg (aZ ((n:LB)==[48]) (xA (bL SS.P 120 []) λc1=>xU (an SS.P 120 (.pointer (some p)) (.agg ⟨c1⟩) h) h λu2 g3=>iP SS [((.pointer (some p)),some 120),((.bool false),none)] g3 Q) (aZ fnd (aZ ((d:LB)==[48]) (xA (bL SS.P 120 []) λc4=>xU (an SS.P 120 (.pointer (some p)) (.agg ⟨c4⟩) h) h λu5 g6=>iP SS [((.pointer (some p)),some 120),((.bool false),none)] g6 Q) (aZ ((d:LB)==[49]) (xA (bL SS.P 120 []) λc7=>xU (an SS.P 120 (.pointer (some p)) (.agg ⟨c7⟩) h) h λu8 g9=>iP SS [((.pointer (some p)),some 120),((.bool false),none)] g9 Q) (wpS SS ai.nm ai.ms [1,1,1,1,1,1] cc [x0,x1,(.pointer (some p)),x3,x4,(.bool neg),(strOf n),(strOf d),(.bool fnd),x9,x10,x11,x12,x13,x14,x15,x16,x17,x18,x19,x20,x21,x22,x23,x24,x25,x26,x27,x28,x29,x30,x31,x32,x33,x34,x35,x36,x37,x38,x39,x40,x41,x42,(.bool neg),(.bool true),(strOf n),(.bool ((n:LB)==[48])),(.bool ((n:LB)==[48])),(.bool false),(.bool fnd),(.bool true),(strOf d),(.bool ((d:LB)==[48])),(.bool false),(strOf d),(.bool ((d:LB)==[49])),(.bool ((d:LB)==[49])),(.bool ((d:LB)==[49])),(.bool ((d:LB)==[49])),x59,x60,x61,x62,x63,x64,x65,x66,x67,x68,x69,x70,x71,x72,x73,x74,x75,x76] h (EE SS ai Q)))) (wpS SS ai.nm ai.ms [1,1,1,1,1,1] cc [x0,x1,(.pointer (some p)),x3,x4,(.bool neg),(strOf n),(strOf d),(.bool fnd),x9,x10,x11,x12,x13,x14,x15,x16,x17,x18,x19,x20,x21,x22,x23,x24,x25,x26,x27,x28,x29,x30,x31,x32,x33,x34,x35,x36,x37,x38,x39,x40,x41,x42,(.bool neg),(.bool true),(strOf n),(.bool ((n:LB)==[48])),(.bool ((n:LB)==[48])),(.bool false),(.bool fnd),(.bool false),undef,undef,undef,undef,undef,undef,(.bool false),(.bool false),x59,x60,x61,x62,x63,x64,x65,x66,x67,x68,x69,x70,x71,x72,x73,x74,x75,x76] h (EE SS ai Q)))) (aZ fnd (aZ ((d:LB)==[48]) (xA (bL SS.P 120 []) λbU=>xU (an SS.P 120 (.pointer (some p)) (.agg ⟨bU⟩) h) h λPD Kk=>iP SS [((.pointer (some p)),some 120),((.bool false),none)] Kk Q) (aZ ((d:LB)==[49]) (xA (bL SS.P 120 []) λcg=>xU (an SS.P 120 (.pointer (some p)) (.agg ⟨cg⟩) h) h λKm Iu=>iP SS [((.pointer (some p)),some 120),((.bool false),none)] Iu Q) (wpS SS ai.nm ai.ms [1,1,1,1,1,1] cc [x0,x1,(.pointer (some p)),x3,x4,(.bool neg),(strOf n),(strOf d),(.bool fnd),x9,x10,x11,x12,x13,x14,x15,x16,x17,x18,x19,x20,x21,x22,x23,x24,x25,x26,x27,x28,x29,x30,x31,x32,x33,x34,x35,x36,x37,x38,x39,x40,x41,x42,(.bool neg),(.bool false),undef,undef,(.bool false),(.bool false),(.bool fnd),(.bool true),(strOf d),(.bool ((d:LB)==[48])),(.bool false),(strOf d),(.bool ((d:LB)==[49])),(.bool ((d:LB)==[49])),(.bool ((d:LB)==[49])),(.bool ((d:LB)==[49])),x59,x60,x61,x62,x63,x64,x65,x66,x67,x68,x69,x70,x71,x72,x73,x74,x75,x76] h (EE SS ai Q)))) (wpS SS ai.nm ai.ms [1,1,1,1,1,1] cc [x0,x1,(.pointer (some p)),x3,x4,(.bool neg),(strOf n),(strOf d),(.bool fnd),x9,x10,x11,x12,x13,x14,x15,x16,x17,x18,x19,x20,x21,x22,x23,x24,x25,x26,x27,x28,x29,x30,x31,x32,x33,x34,x35,x36,x37,x38,x39,x40,x41,x42,(.bool neg),(.bool false),undef,undef,(.bool false),(.bool false),(.bool fnd),(.bool false),undef,undef,undef,undef,undef,undef,(.bool false),(.bool false),x59,x60,x61,x62,x63,x64,x65,x66,x67,x68,x69,x70,x71,x72,x73,x74,x75,x76] h (EE SS ai Q)))
theorem uG{n d:LB}{neg fnd:Bool}{p:Addr}{x0 x1 x3 x4 x9 x10 x11 x12 x13 x14 x15 x16 x17 x18 x19 x20 x21 x22 x23 x24 x25 x26 x27 x28 x29 x30 x31 x32 x33 x34 x35 x36 x37 x38 x39 x40 x41 x42 x43 x44 x45 x46 x47 x48 x49 x50 x51 x52 x53 x54 x55 x56 x57 x58 x59 x60 x61 x62 x63 x64 x65 x66 x67 x68 x69 x70 x71 x72 x73 x74 x75 x76:Value}{h:aa}{Q:VH}(hx:nY n d neg fnd p (gJ [1,1,1,1,1,1] ai.body) x0 x1 x3 x4 x9 x10 x11 x12 x13 x14 x15 x16 x17 x18 x19 x20 x21 x22 x23 x24 x25 x26 x27 x28 x29 x30 x31 x32 x33 x34 x35 x36 x37 x38 x39 x40 x41 x42 x43 x44 x45 x46 x47 x48 x49 x50 x51 x52 x53 x54 x55 x56 x57 x58 x59 x60 x61 x62 x63 x64 x65 x66 x67 x68 x69 x70 x71 x72 x73 x74 x75 x76 h Q):TT SS ai [1,1,1,1,1] [x0,x1,(.pointer (some p)),x3,x4,(.bool neg),(strOf n),(strOf d),(.bool fnd),x9,x10,x11,x12,x13,x14,x15,x16,x17,x18,x19,x20,x21,x22,x23,x24,x25,x26,x27,x28,x29,x30,x31,x32,x33,x34,x35,x36,x37,x38,x39,x40,x41,x42,x43,x44,x45,x46,x47,x48,x49,x50,x51,x52,x53,x54,x55,x56,x57,x58,x59,x60,x61,x62,x63,x64,x65,x66,x67,x68,x69,x70,x71,x72,x73,x74,x75,x76] h (EE SS ai Q):=by
 have e:∀cc,nY n d neg fnd p cc x0 x1 x3 x4 x9 x10 x11 x12 x13 x14 x15 x16 x17 x18 x19 x20 x21 x22 x23 x24 x25 x26 x27 x28 x29 x30 x31 x32 x33 x34 x35 x36 x37 x38 x39 x40 x41 x42 x43 x44 x45 x46 x47 x48 x49 x50 x51 x52 x53 x54 x55 x56 x57 x58 x59 x60 x61 x62 x63 x64 x65 x66 x67 x68 x69 x70 x71 x72 x73 x74 x75 x76 h Q=wpS SS ai.nm ai.ms [1,1,1,1,1] (setAt [1] cc (gJ [1,1,1,1,1] ai.body)) [x0,x1,(.pointer (some p)),x3,x4,(.bool neg),(strOf n),(strOf d),(.bool fnd),x9,x10,x11,x12,x13,x14,x15,x16,x17,x18,x19,x20,x21,x22,x23,x24,x25,x26,x27,x28,x29,x30,x31,x32,x33,x34,x35,x36,x37,x38,x39,x40,x41,x42,x43,x44,x45,x46,x47,x48,x49,x50,x51,x52,x53,x54,x55,x56,x57,x58,x59,x60,x61,x62,x63,x64,x65,x66,x67,x68,x69,x70,x71,x72,x73,x74,x75,x76] h (EE SS ai Q):=λcc=>by kernel_rfl
 have e:=e (gJ [1,1,1,1,1,1] ai.body);have ec:(gJ [1,1,1,1,1,1] ai.body)=gJ [1] (gJ [1,1,1,1,1] ai.body):=by kernel_rfl
 have es:setAt [1] (gJ [1,1,1,1,1,1] ai.body) (gJ [1,1,1,1,1] ai.body)=gJ [1,1,1,1,1] ai.body:=by rw[ec,gb]
 rw[es]at e;exact az hx e
abbrev nZ(n d:LB)(neg fnd:Bool)(p:Addr)(cc:Code)(x0 x1 x3 x4 x9 x10 x11 x12 x13 x14 x15 x16 x17 x18 x19 x20 x21 x22 x23 x24 x25 x26 x27 x28 x29 x30 x31 x32 x33 x34 x35 x36 x37 x38 x39 x40 x41 x42 x43 x44 x45 x46 x47 x48 x49 x50 x51 x52 x53 x54 x55 x56 x57 x58 x59 x60 x61 x62 x63 x64 x65 x66 x67 x68 x69 x70 x71 x72 x73 x74 x75 x76:Value)(h:aa)(Q:VH):Prop:=FW SS 140 [(strOf n),(strOf d)] h λv1 h2=>∃l3:LB,∃n4:Int,v1=(.tuple ⟨[(strOf l3),(.int .i64 n4)]⟩)/\aZ (((n4:Int) !=0)) (xA (bL SS.P 120 []) λc5=>xU (an SS.P 120 (.pointer (some p)) (.agg ⟨c5⟩) h2) h2 λu6 g7=>iP SS [((.pointer (some p)),some 120),((.bool false),none)] g7 Q) (aZ (!((l3:LB)==[49])) (xA (bL SS.P 120 []) λc8=>xU (an SS.P 120 (.pointer (some p)) (.agg ⟨c8⟩) h2) h2 λu9 zG=>iP SS [((.pointer (some p)),some 120),((.bool false),none)] zG Q) (wpS SS ai.nm ai.ms [1,1,1,1,1,1,1] cc [x0,x1,(.pointer (some p)),x3,x4,(.bool neg),(strOf n),(strOf d),(.bool fnd),(strOf l3),(.int .i64 n4),x11,x12,x13,x14,x15,x16,x17,x18,x19,x20,x21,x22,x23,x24,x25,x26,x27,x28,x29,x30,x31,x32,x33,x34,x35,x36,x37,x38,x39,x40,x41,x42,x43,x44,x45,x46,x47,x48,x49,x50,x51,x52,x53,x54,x55,x56,x57,x58,x59,(.tuple ⟨[(strOf l3),(.int .i64 n4)]⟩),(strOf n),(strOf d),(.tuple ⟨[(strOf l3),(.int .i64 n4)]⟩),(strOf l3),(.int .i64 n4),(.int .i64 n4),(.bool (((n4:Int) !=0))),(.bool false),(strOf l3),(.bool (!((l3:LB)==[49]))),(.bool (!((l3:LB)==[49]))),x72,x73,x74,x75,x76] h2 (EE SS ai Q)))
theorem uH{n d:LB}{neg fnd:Bool}{p:Addr}{x0 x1 x3 x4 x9 x10 x11 x12 x13 x14 x15 x16 x17 x18 x19 x20 x21 x22 x23 x24 x25 x26 x27 x28 x29 x30 x31 x32 x33 x34 x35 x36 x37 x38 x39 x40 x41 x42 x43 x44 x45 x46 x47 x48 x49 x50 x51 x52 x53 x54 x55 x56 x57 x58 x59 x60 x61 x62 x63 x64 x65 x66 x67 x68 x69 x70 x71 x72 x73 x74 x75 x76:Value}{h:aa}{Q:VH}(hx:nZ n d neg fnd p (gJ [1,1,1,1,1,1,1] ai.body) x0 x1 x3 x4 x9 x10 x11 x12 x13 x14 x15 x16 x17 x18 x19 x20 x21 x22 x23 x24 x25 x26 x27 x28 x29 x30 x31 x32 x33 x34 x35 x36 x37 x38 x39 x40 x41 x42 x43 x44 x45 x46 x47 x48 x49 x50 x51 x52 x53 x54 x55 x56 x57 x58 x59 x60 x61 x62 x63 x64 x65 x66 x67 x68 x69 x70 x71 x72 x73 x74 x75 x76 h Q):TT SS ai [1,1,1,1,1,1] [x0,x1,(.pointer (some p)),x3,x4,(.bool neg),(strOf n),(strOf d),(.bool fnd),x9,x10,x11,x12,x13,x14,x15,x16,x17,x18,x19,x20,x21,x22,x23,x24,x25,x26,x27,x28,x29,x30,x31,x32,x33,x34,x35,x36,x37,x38,x39,x40,x41,x42,x43,x44,x45,x46,x47,x48,x49,x50,x51,x52,x53,x54,x55,x56,x57,x58,x59,x60,x61,x62,x63,x64,x65,x66,x67,x68,x69,x70,x71,x72,x73,x74,x75,x76] h (EE SS ai Q):=by
 have e:∀cc,nZ n d neg fnd p cc x0 x1 x3 x4 x9 x10 x11 x12 x13 x14 x15 x16 x17 x18 x19 x20 x21 x22 x23 x24 x25 x26 x27 x28 x29 x30 x31 x32 x33 x34 x35 x36 x37 x38 x39 x40 x41 x42 x43 x44 x45 x46 x47 x48 x49 x50 x51 x52 x53 x54 x55 x56 x57 x58 x59 x60 x61 x62 x63 x64 x65 x66 x67 x68 x69 x70 x71 x72 x73 x74 x75 x76 h Q=wpS SS ai.nm ai.ms [1,1,1,1,1,1] (setAt [1] cc (gJ [1,1,1,1,1,1] ai.body)) [x0,x1,(.pointer (some p)),x3,x4,(.bool neg),(strOf n),(strOf d),(.bool fnd),x9,x10,x11,x12,x13,x14,x15,x16,x17,x18,x19,x20,x21,x22,x23,x24,x25,x26,x27,x28,x29,x30,x31,x32,x33,x34,x35,x36,x37,x38,x39,x40,x41,x42,x43,x44,x45,x46,x47,x48,x49,x50,x51,x52,x53,x54,x55,x56,x57,x58,x59,x60,x61,x62,x63,x64,x65,x66,x67,x68,x69,x70,x71,x72,x73,x74,x75,x76] h (EE SS ai Q):=λcc=>by kernel_rfl
 have e:=e (gJ [1,1,1,1,1,1,1] ai.body);have ec:(gJ [1,1,1,1,1,1,1] ai.body)=gJ [1] (gJ [1,1,1,1,1,1] ai.body):=by kernel_rfl
 have es:setAt [1] (gJ [1,1,1,1,1,1,1] ai.body) (gJ [1,1,1,1,1,1] ai.body)=gJ [1,1,1,1,1,1] ai.body:=by rw[ec,gb]
 rw[es]at e;exact az hx e
theorem uI{n d:LB}{neg fnd:Bool}{p:Addr}{x0 x1 x3 x4 x9 x10 x11 x12 x13 x14 x15 x16 x17 x18 x19 x20 x21 x22 x23 x24 x25 x26 x27 x28 x29 x30 x31 x32 x33 x34 x35 x36 x37 x38 x39 x40 x41 x42 x43 x44 x45 x46 x47 x48 x49 x50 x51 x52 x53 x54 x55 x56 x57 x58 x59 x60 x61 x62 x63 x64 x65 x66 x67 x68 x69 x70 x71 x72 x73 x74 x75 x76:Value}{h:aa}{Q:VH}(hx:xA (bL SS.P 120 [(0,(.bool neg)),(1,(strOf n)),(2,(strOf d))]) λc1=>xU (an SS.P 120 (.pointer (some p)) (.agg ⟨c1⟩) h) h λu2 g3=>iP SS [((.pointer (some p)),some 120),((.bool true),none)] g3 Q):TT SS ai [1,1,1,1,1,1,1] [x0,x1,(.pointer (some p)),x3,x4,(.bool neg),(strOf n),(strOf d),(.bool fnd),x9,x10,x11,x12,x13,x14,x15,x16,x17,x18,x19,x20,x21,x22,x23,x24,x25,x26,x27,x28,x29,x30,x31,x32,x33,x34,x35,x36,x37,x38,x39,x40,x41,x42,x43,x44,x45,x46,x47,x48,x49,x50,x51,x52,x53,x54,x55,x56,x57,x58,x59,x60,x61,x62,x63,x64,x65,x66,x67,x68,x69,x70,x71,x72,x73,x74,x75,x76] h (EE SS ai Q):=az hx
noncomputable def DG:FD:=fo Tryz.f96 []
theorem BF(l:LB)(h:aa)(Q:VH)(hx:FW SS 130 [(strOf l)] h λv1 h2=>∃cs3:LV,∃b4:Bool,v1=(.tuple ⟨[(.agg ⟨cs3⟩),(.bool b4)]⟩)/\Q (.bool b4) h2):FW SS 96 [(strOf l)] h Q:=fy DG Tryz.func96 (az hx)
noncomputable def GN:FD:=fo Tryz.f92 []
theorem DE(p:Bool)(l:LB)(q:Bool)(m:LB)(h:aa)(Q:VH)(hx:aZ (p==q) (FW SS 133 [(strOf l),(strOf m)] h λv1 h2=>∃l3:LB,∃n4:Int,v1=(.tuple ⟨[(strOf l3),(.int .i64 n4)]⟩)/\FW SS 93 [(strOf l3),(.int .i64 n4)] h2 λv5 h6=>yS v5 λl7=>Q (.tuple ⟨[(.bool p),(strOf l7)]⟩) h6) (FW SS 134 [(strOf l),(strOf m)] h λv8 h9=>yI .i64 v8 λn10=>aZ (decide ((n10:Int)<0)) (FW SS 135 [(strOf m),(strOf l)] h9 λv11 h12=>∃l13:LB,∃n14:Int,v11=(.tuple ⟨[(strOf l13),(.int .i64 n14)]⟩)/\FW SS 93 [(strOf l13),(.int .i64 n14)] h12 λv15 h16=>yS v15 λl17=>Q (.tuple ⟨[(.bool q),(strOf l17)]⟩) h16) (FW SS 135 [(strOf l),(strOf m)] h9 λv18 h19=>∃l20:LB,∃n21:Int,v18=(.tuple ⟨[(strOf l20),(.int .i64 n21)]⟩)/\FW SS 93 [(strOf l20),(.int .i64 n21)] h19 λv22 h23=>yS v22 λl24=>Q (.tuple ⟨[(.bool p),(strOf l24)]⟩) h23))):FW SS 92 [(.bool p),(strOf l),(.bool q),(strOf m)] h Q:=fy GN Tryz.func92 (az hx)
noncomputable def Jp:FD:=fo Tryz.f152 []
theorem GK(l m:LB)(h:aa)(Q:VH)(hx:FW SS 130 [(strOf l)] h λv1 h2=>∃cs3:LV,∃b4:Bool,v1=(.tuple ⟨[(.agg ⟨cs3⟩),(.bool b4)]⟩)/\xN (bN SS.P 120) h2 λB5 g6=>xU (an SS.P 120 (pA (h2.next)) (.agg ⟨cs3⟩) g6) g6 λu7 g8=>FW SS 130 [(strOf m)] g8 λv9 h10=>∃cs11:LV,∃b12:Bool,v9=(.tuple ⟨[(.agg ⟨cs11⟩),(.bool b12)]⟩)/\xN (bN SS.P 120) h10 λB13 Hj=>xU (an SS.P 120 (pA (h10.next)) (.agg ⟨cs11⟩) Hj) Hj λPF g16=>aZ (!b4) (Q (.int .i64 0) g16) (aZ (!b12) (Q (.int .i64 0) g16) (xP (ah SS.P 120 (pA (h2.next)) 0) λp17=>xB (ag SS.P 4 (room g16 27) (.pointer (some p17))) λb18=>xP (ah SS.P 120 (pA (h2.next)) 1) λp19=>xS (ag SS.P 9 (room g16 27) (.pointer (some p19))) λl20=>xP (ah SS.P 120 (pA (h10.next)) 2) λp21=>xS (ag SS.P 9 (room g16 27) (.pointer (some p21))) λl22=>FW SS 94 [(strOf l20),(strOf l22)] (room g16 27) λv23 h24=>∃l25:LB,∃n26:Int,v23=(.tuple ⟨[(strOf l25),(.int .i64 n26)]⟩)/\FW SS 93 [(strOf l25),(.int .i64 n26)] h24 λv27 h28=>yS v27 λl29=>xP (ah SS.P 120 (pA (h10.next)) 0) λp30=>xB (ag SS.P 4 h28 (.pointer (some p30))) λb31=>xP (ah SS.P 120 (pA (h10.next)) 1) λp32=>xS (ag SS.P 9 h28 (.pointer (some p32))) λl33=>xP (ah SS.P 120 (pA (h2.next)) 2) λp34=>xS (ag SS.P 9 h28 (.pointer (some p34))) λl35=>FW SS 94 [(strOf l33),(strOf l35)] h28 λv36 h37=>∃l38:LB,∃n39:Int,v36=(.tuple ⟨[(strOf l38),(.int .i64 n39)]⟩)/\FW SS 93 [(strOf l38),(.int .i64 n39)] h37 λv40 h41=>yS v40 λl42=>FW SS 92 [(.bool b18),(strOf l29),(.bool (!b31)),(strOf l42)] h41 λv43 h44=>∃b45:Bool,∃l46:LB,v43=(.tuple ⟨[(.bool b45),(strOf l46)]⟩)/\(ag SS.P 4 h24 (.pointer (some p17))=some (.bool b18)/\jB 4 (.bool b18) (.bool b18)=true)/\(ag SS.P 4 h28 (.pointer (some p17))=some (.bool b18)/\jB 4 (.bool b18) (.bool b18)=true)/\(ag SS.P 4 h37 (.pointer (some p17))=some (.bool b18)/\jB 4 (.bool b18) (.bool b18)=true)/\(ag SS.P 4 h41 (.pointer (some p17))=some (.bool b18)/\jB 4 (.bool b18) (.bool b18)=true)/\(ag SS.P 4 (room g16 27) (.pointer (some p30))=some (.bool b31)/\jB 4 (.bool b31) (.bool b31)=true)/\(ag SS.P 4 h24 (.pointer (some p30))=some (.bool b31)/\jB 4 (.bool b31) (.bool b31)=true)/\(ag SS.P 4 h37 (.pointer (some p30))=some (.bool b31)/\jB 4 (.bool b31) (.bool b31)=true)/\(ag SS.P 4 h41 (.pointer (some p30))=some (.bool b31)/\jB 4 (.bool b31) (.bool b31)=true)/\(ag SS.P 9 (room g16 27) (.pointer (some p32))=some (strOf l33)/\jB 4 (strOf l33) (strOf l33)=true)/\(ag SS.P 9 h24 (.pointer (some p32))=some (strOf l33)/\jB 4 (strOf l33) (strOf l33)=true)/\(ag SS.P 9 (room g16 27) (.pointer (some p34))=some (strOf l35)/\jB 4 (strOf l35) (strOf l35)=true)/\(ag SS.P 9 h24 (.pointer (some p34))=some (strOf l35)/\jB 4 (strOf l35) (strOf l35)=true)/\aZ ((l46:LB)==[48]) (Q (.int .i64 0) h44) (aZ b45 (Q (.int .i64 (-1)) h44) (Q (.int .i64 1) h44))))):FW SS 152 [(strOf l),(strOf m)] h Q:=fy Jp Tryz.func152 (az hx)
noncomputable def IB:FD:=fo Tryz.f202 []
theorem F3(l m:LB)(h:aa)(Q:VH)(hx:aZ (decide ((((l:LB).length:Int):Int)>=((m:LB).length:Int))) (xS (cA SS.P 9 (strOf l) none (some (.int .i64 ((m:LB).length:Int))) none h) λl1=>Q (.bool ((l1:LB)==m)) h) (Q (.bool false) h)):FW SS 202 [(strOf l),(strOf m)] h Q:=fy IB Tryz.func202 (az hx)
noncomputable def dI:FD:=fo Tryz.f136 [([1,1,0,1,0,0],[0,22,23])]
abbrev gY(l:LB)(i:Int):LV:=[(strOf l),(.int .i64 (l.length:Int)),(.int .i64 i)]
theorem rD(l:LB)(h:aa)(Q:VH)(hx:aZ ((l:LB)==[]) (Q (.bool false) h) (aZ (decide ((((l:LB).length:Int):Int)>1000)) (Q (.bool false) h) (aZ (decide ((((l:LB).length:Int):Int)>1)) (xI .u8 (bu SS.P 9 (strOf l) (.int .i64 0)) λn1=>aZ (((n1:Int)==48)) (Q (.bool false) h) (LL SS dI [1,1,0,1,0,0] [(strOf l),(.int .i64 ((l:LB).length:Int)),(.int .i64 0)] h (KK SS dI [1,1,0,1,0] [] (EE SS dI Q)))) (LL SS dI [1,1,0,1,0,0] [(strOf l),(.int .i64 ((l:LB).length:Int)),(.int .i64 0)] h (KK SS dI [1,1,0,1,0] [] (EE SS dI Q)))))):FW SS 136 [(strOf l)] h Q:=fy dI Tryz.func136 (az hx)
theorem nE(l:LB)  (Inv:Nat->Int->aa->Prop) (Q:VH) (step:∀(mz:Nat)(i:Int)(zz:Nat->Value)(h:aa),Inv mz i h->aZ (decide ((i:Int)<(l.length:Int))) (xI .u8 (bu SS.P 9 (strOf l) (.int .i64 i)) λn2=>aZ (decide ((n2:Int)<48)) (Q (.bool false) h) (xI .u8 (bu SS.P 9 (strOf l) (.int .i64 i)) λn3=>aZ (decide ((n3:Int)>57)) (Q (.bool false) h) (ba (lZ (gY l) Inv) mz [(strOf l),(.int .i64 (l.length:Int)),(.int .i64 (wrap .i64 (i+1)))] h))) (Q (.bool true) h)) (mz:Nat) {i:Int} {h:aa} (hi:Inv mz i h):LL SS dI [1,1,0,1,0,0] (gY l i) h (KK SS dI [1,1,0,1,0] [] (EE SS dI Q)):=
 gH (gY l) Inv (λmz i zz h hi=>az (step mz i zz h hi)) mz hi
theorem RA:SS.P.underlying 9=some .string:=by kernel_rfl
theorem Lf(l:List UInt8){h:aa}{i:Int}(h0:0<=i)(h1:i<l.length):bu SS.P 9 (strOf l) (.int .i64 i)=some (.int .u8 ((l.getD i.toNat 0).toNat:Nat)):=nh RA l _ h0 h1
theorem NG{c:UInt8}(h1:¬(c.toNat:Int)<48)(h2:¬(c.toNat:Int)>57):bG c=true:=by
 unfold bG;simp;omega
theorem I6{c:UInt8}(h:(c.toNat:Int)<48\/(c.toNat:Int)>57):bG c=false:=by
 unfold bG;simp;omega
theorem vF{l:List UInt8}{i:Nat}(hi:i<l.length)(h1:(l.take i).all bG=true)(h2:bG (l.getD i 0)=true):(l.take (i+1)).all bG=true:=by
 rw[List.take_succ_eq_append_getElem hi,all_append,h1];rw[gD,gE hi]at h2;simpa using h2
theorem wv{l:List UInt8}{i:Nat}(hi:i<l.length)(h2:bG (l.getD i 0)=false):l.all bG=false:=by
 rw[gD,gE hi]at h2;exact List.all_eq_false.2 ⟨l[i],getElem_mem hi,by simpa using h2⟩
theorem D7{l:List UInt8}(h:1000<l.length):aC l=false:=by
 unfold aC;rw[decide_eq_false (by omega:¬l.length<=1000)];simp
theorem D8{l:List UInt8}(h:1<l.length)(h0:l.getD 0 0=48):aC l=false:=by
 unfold aC
 cases l with
 |nil=>rfl
 |cons a l=>
  have h0:a=48:=h0;subst h0;rw[decide_eq_true h];simp
theorem xQ{l:List UInt8}(h0:l≠[])(h1:l.length<=1000)(h2:1<l.length->l.getD 0 0≠48):aC l=l.all bG:=by
 unfold aC
 cases l with
 |nil=>exact absurd rfl h0
 |cons a l=>
  rw[decide_eq_true h1];by_cases h:1<(a::l).length
  ·have h3:a≠48:=h2 h;rw[decide_eq_true h];simp[h3]
  ·rw[decide_eq_false h];simp
theorem M5{c:UInt8}:((c.toNat:Int)==48)=true↔c=48:=by
 rw[beq_iff_eq];refine⟨λh=>UInt8.toNat_inj.1 ?_,λh=>by rw[h];rfl⟩;have h48:(48:UInt8).toNat=48:=rfl;omega
theorem cM(l:List UInt8)(h:aa):FW SS 136 [strOf l] h (λv h'=>v = .bool (aC l)/\h'=h):=by
 by_cases hlen:l.length<=1000
 case neg=>
  refine rD l h _ (ae (λh1=>?_) (λh1=>ae (λh2=>?_) (λh2=>?_)))
  ·obtain rfl:l=[]:=by simpa using h1
   exact⟨rfl,rfl⟩
  ·exact⟨by rw[D7 (by omega)],rfl⟩
  ·have:=dF h2;omega
 have L:=λ(hv:aC l=l.all bG)=>nE l (λmz i g=>0<=i/\i<=l.length/\mz=l.length-i.toNat/\(l.take i.toNat).all bG=true/\g=h) (λv h'=>v = .bool (aC l)/\h'=h) (by
  intro mz i;intros;rename_i g hi;obtain⟨h1,h2,h3,h4,rfl⟩:=hi;refine ae (λh5=>?_) (λh5=>?_)
  ·have h5:=dT h5;have hin:i.toNat<l.length:=by omega
   refine⟨_,Lf (h:=g) l h1 h5,ae (λh6=>?_) (λh6=>⟨_,Lf (h:=g) l h1 h5,ae (λh7=>?_) (λh7=>?_)⟩)⟩
   ·exact⟨by rw[hv,wv hin (I6 (.inl (dT h6)))],rfl⟩
   ·exact⟨by rw[hv,wv hin (I6 (.inr (dT h7)))],rfl⟩
   ·have hw:wrap .i64 (i+1)=i+1:=aB (by omega) (by omega);refine eH (mz-1) (by omega) ?_;rw[hw];refine⟨by omega,by omega,by omega,?_,rfl⟩;rw[show(i+1).toNat=i.toNat+1 by omega];exact vF hin h4 (NG (dF h6) (dF h7))
  ·have h5:=dF h5;refine⟨?_,rfl⟩;rw[hv,<-h4,take_of_length_le (by omega)])
 refine rD l h _ (ae (λh1=>?_) (λh1=>ae (λh2=>?_) (λh2=>?_)))
 ·obtain rfl:l=[]:=by simpa using h1
  exact⟨rfl,rfl⟩
 ·have:=dT h2;omega
 ·have h1:l≠[]:=by simpa using h1
  have hpos:=length_pos_iff.2 h1;refine ae (λh3=>⟨_,Lf (h:=h) l (by omega) (by omega),ae (λh4=>?_) (λh4=>?_)⟩) (λh3=>?_)
  ·exact⟨by rw[D8 (by have:=dT h3;omega) (M5.1 h4)],rfl⟩
  ·exact L (xQ h1 hlen λ_ e=>by have h4:(((l.getD 0 0).toNat:Int)==48)=false:=h4;rw[M5.2 e]at h4;cases h4) l.length ⟨by omega,by omega,by simp,by simp,rfl⟩
  ·exact L (xQ h1 hlen λe=>by have:=dF h3;omega) l.length ⟨by omega,by omega,by simp,by simp,rfl⟩
theorem N4{a b:Nat}(h:((a:Int) !=b)=true):a≠b:=by
 intro e;subst e;simp at h
theorem NH{a b:Nat}(h:((a:Int) !=b)=false):a=b:=by
 by_cases e:a=b
 ·exact e
 ·exfalso;have:(a:Int)≠b:=by omega
  simp[this]at h
def iv(d:Nat):Value:= .int .i64 (d:Int)
theorem oT:SS.P.underlying 32=some (.slice 3):=by kernel_rfl
theorem R8:aw SS.P 3=some 1:=by kernel_rfl
theorem J1:SS.P.underlying 3=some (.int .i64):=by kernel_rfl
theorem Ht:Go.Ab.isAgg SS.P 3=false:=by kernel_rfl
noncomputable def SX:TypeInfo:=(e9 SS.P 3).getD default
theorem O6:e9 SS.P 3=some SX:=by kernel_rfl
theorem Js:SX.size=1:=by kernel_rfl
theorem GP:SX.bytes=8:=by kernel_rfl
theorem KH(z:Int):aL SS.P 32 1 [(0,.int .i64 z)]=some (.cells [.int .i64 z] 3 1 true,jE 1 1):=by kernel_rfl
theorem Fb:SS.P.underlying 159=some (.slice 5):=by kernel_rfl
theorem R9:aw SS.P 5=some 1:=by kernel_rfl
theorem Hy{l:List UInt8}(hd:l.all bG=true){i:Nat}(h:i<l.length):bG (l.getD i 0)=true:=by
 rw[gD,gE h];exact all_eq_true.1 hd _ (getElem_mem h)
def gP(h:aa)(e:TypeId)(vs:List Value):VH:=λv h'=>∃a n c,v = .slice a n c/\dO h h' e (.slice a n c) vs/\Ok h h'
theorem NM{l:List UInt8}{k:Nat}(h:k<l.length):l[k]?=some (l.getD k 0):=by
 rw[gD,gE h];rfl
def xK(a:List UInt8)(e:Int):Value:= .tuple ⟨[strOf a,.int .i64 e]⟩
def Dd(a b:List UInt8):Value:=if aC a=true/\aC b=true then xK (av (Nat.gcd (Num.val a) (Num.val b))) 0 else xK [] 1
noncomputable def gX:FD:=fo Tryz.f139 [([1,0,0,0],[0])]
abbrev iJ  (r:OA) (m d:Nat):LV:=[(.slice r m d)]
theorem ui(a:OA)(n c:Nat)(h:aa)(Q:VH)(hx:LL SS gX [1,0,0,0] [(.slice a n c)] h (KK SS gX [1,0,0] [] (EE SS gX Q))):FW SS 139 [(.slice a n c)] h Q:=fy gX Tryz.func139 (az hx)
theorem jt(a:OA)(n c:Nat)  (Inv:Nat->OA->Nat->Nat->aa->Prop) (Q:VH) (step:∀(mz:Nat)(r:OA)(m d:Nat)(zz:Nat->Value)(h:aa),Inv mz r m d h->aZ (decide (((m:Int):Int)>0)) (xP (af SS.P 150 (.slice r m d) (.int .i64 (wrap .i64 ((m:Int)-1)))) λp1=>xI .u64 (ag SS.P 117 h (.pointer (some p1))) λn2=>aZ (((n2:Int)==0)) (xL (cA SS.P 150 (.slice r m d) none (some (.int .i64 (wrap .i64 ((m:Int)-1)))) none h) λa3 n4 c5=>ba (Nb iJ Inv) mz [(.slice a3 n4 c5)] h) (Q (.slice r m d) h)) (Q (.slice r m d) h)) (mz:Nat) {r:OA} {m d:Nat} {h:aa} (hi:Inv mz r m d h):LL SS gX [1,0,0,0] (iJ  r m d) h (KK SS gX [1,0,0] [] (EE SS gX Q)):=
 Jy iJ Inv (λmz r m d zz h hi=>az (step mz r m d zz h hi)) mz hi
noncomputable def bA:FD:=fo Tryz.f137 [([1,1,0,0,0],[0,3]),([1,1,0,0,0,1,0,1,1,0,1,0,0],[0,3,4,5,6])]
abbrev dH  (s:LB) (r:OA) (rn rc:Nat):LV:=[(strOf s),(.slice r rn rc)]
abbrev eW(s:LB)(r:OA)(rn rc:Nat)(cut:Int)(i v:Int):LV:=[(strOf s),(.slice r rn rc),(.int .i64 cut),(.int .u64 v),(.int .i64 i)]
theorem yU(l:LB)(h:aa)(Q:VH)(hx:LL SS bA [1,1,0,0,0] [(strOf l),nA] h (KK SS bA [1,1,0,0] [] (EE SS bA Q))):FW SS 137 [(strOf l)] h Q:=fy bA Tryz.func137 (az hx)
theorem mJ(l:LB)  (Inv:Nat->LB->OA->Nat->Nat->aa->Prop) (Q:VH) (step:∀(mz:Nat)(s:LB)(r:OA)(rn rc:Nat)(zz:Nat->Value)(h:aa),Inv mz s r rn rc h->aZ (decide ((((s:LB).length:Int):Int)>0)) (xI .i64 (mc true [(.int .i64 0),(.int .i64 (wrap .i64 (((s:LB).length:Int)-9)))]) λn1=>LL SS bA [1,1,0,0,0,1,0,1,1,0,1,0,0] (eW s r rn rc n1 n1 0) h (KK SS bA [1,0,1,1,0,1,0] [1,1,0,0,0] (RR bA [1,1,0,0,0] (Cq dH Inv) mz (KK SS bA [1,1,0,0] [] (EE SS bA Q))))) (FW SS 139 [(.slice r rn rc)] h λv2 h3=>yL v2 λa4 n5 c6=>Q (.slice a4 n5 c6) h3)) (mz:Nat) {s:LB} {r:OA} {rn rc:Nat} {h:aa} (hi:Inv mz s r rn rc h):LL SS bA [1,1,0,0,0] (dH  s r rn rc) h (KK SS bA [1,1,0,0] [] (EE SS bA Q)):=
 Jz dH Inv (λmz s r rn rc zz h hi=>az (step mz s r rn rc zz h hi)) mz hi
theorem mK(l:LB)(Inv:Nat->LB->OA->Nat->Nat->aa->Prop)(mz:Nat)(s:LB)(r:OA)(rn rc:Nat)(cut:Int)(Inv2:Nat->Int->Int->aa->Prop)(Q:VH)(step:∀(mz2:Nat) (i v:Int) (zz:Nat->Value) (h:aa),Inv2 mz2 i v h->aZ (decide ((i:Int)<((s:LB).length:Int))) (xI .u8 (bu SS.P 9 (strOf s) (.int .i64 i)) λn7=>ba (zE (eW s r rn rc cut) Inv2) mz2 [(strOf s),(.slice r rn rc),(.int .i64 cut),(.int .u64 (wrap .u64 (wrap .u64 (10*v)+wrap .u64 (wrap .u8 (n7-48))))),(.int .i64 (wrap .i64 (i+1)))] h) (xR (aL SS.P 150 1 [(0,(.int .u64 v))]) h λB8 n9 bU Dc=>xE (aY SS.P 150 150 (.slice r rn rc) (sA (h.next) n9 bU) Dc) Dc λa12 n13 bV PF g16=>xS (cA SS.P 9 (strOf s) none (some (.int .i64 cut)) none g16) λl17=>ba (Cq dH Inv) mz [(strOf l17),(.slice a12 n13 bV)] g16))(mz2:Nat){i v:Int}{h:aa}(hi:Inv2 mz2 i v h):LL SS bA [1,1,0,0,0,1,0,1,1,0,1,0,0] (eW s r rn rc cut i v) h (KK SS bA [1,0,1,1,0,1,0] [1,1,0,0,0] (RR bA [1,1,0,0,0] (Cq dH Inv) mz (KK SS bA [1,1,0,0] [] (EE SS bA Q)))):=
 uS (eW s r rn rc cut) Inv2 (λmz2 i v zz h hi=>az (step mz2 i v zz h hi)) mz2 hi
noncomputable def N2:FD:=fo Tryz.f204 []
theorem LM(x:Int)(h:aa)(Q:VH)(hx:Q (.bool (((x:Int) !=x))) h):FW SS 204 [(.int .u64 x)] h Q:=fy N2 Tryz.func204 (az hx)
noncomputable def NA:FD:=fo Tryz.f184 []
theorem KR(x y:Int)(h:aa)(Q:VH)(hx:FW SS 204 [(.int .u64 x)] h λv1 h2=>yB v1 λb3=>FW SS 204 [(.int .u64 y)] h2 λv4 h5=>yB v4 λb6=>aZ b3 (aZ b6 (Q (.int .i64 0) h5) (Q (.int .i64 (-1)) h5)) (aZ b6 (Q (.int .i64 1) h5) (aZ (decide ((x:Int)<y)) (Q (.int .i64 (-1)) h5) (aZ (decide ((x:Int)>y)) (Q (.int .i64 1) h5) (Q (.int .i64 0) h5))))):FW SS 184 [(.int .u64 x),(.int .u64 y)] h Q:=fy NA Tryz.func184 (az hx)
noncomputable def N1:FD:=fo Tryz.f117 []
theorem LK(x:Int)(h:aa)(Q:VH)(hx:Q (.bool (((x:Int) !=x))) h):FW SS 117 [(.int .i64 x)] h Q:=fy N1 Tryz.func117 (az hx)
noncomputable def Nz:FD:=fo Tryz.f72 []
theorem KN(x y:Int)(h:aa)(Q:VH)(hx:FW SS 117 [(.int .i64 x)] h λv1 h2=>yB v1 λb3=>FW SS 117 [(.int .i64 y)] h2 λv4 h5=>yB v4 λb6=>aZ b3 (aZ b6 (Q (.int .i64 0) h5) (Q (.int .i64 (-1)) h5)) (aZ b6 (Q (.int .i64 1) h5) (aZ (decide ((x:Int)<y)) (Q (.int .i64 (-1)) h5) (aZ (decide ((x:Int)>y)) (Q (.int .i64 1) h5) (Q (.int .i64 0) h5))))):FW SS 72 [(.int .i64 x),(.int .i64 y)] h Q:=fy Nz Tryz.func72 (az hx)
noncomputable def ey:FD:=fo Tryz.f163 [([1,1,0,1,0,0],[0,1,18,19])]
abbrev ez(a:OA)(n c:Nat)(b:OA)(m d:Nat)(i:Nat):LV:=[(.slice a n c),(.slice b m d),(iA n),(iA i)]
theorem vV(a:OA)(n c:Nat)(b:OA)(m d:Nat)(h:aa)(Q:VH)(hx:aZ ((((n:Int):Int) !=(m:Int))) (FW SS 72 [(iA n),(iA m)] h λv1 h2=>yI .i64 v1 λn3=>Q (.int .i64 n3) h2) (LL SS ey [1,1,0,1,0,0] (ez a n c b m d 0) h (KK SS ey [1,1,0,1,0] [] (EE SS ey Q)))):FW SS 163 [(.slice a n c),(.slice b m d)] h Q:=fy ey Tryz.func163 (az hx)
theorem me(a:OA)(n c:Nat)(b:OA)(m d:Nat)  (Inv:Nat->Nat->aa->Prop) (Q:VH) (step:∀(mz:Nat)(i:Nat)(zz:Nat->Value)(h:aa),Inv mz i h->aZ (decide (((i:Int):Int)<(n:Int))) (xP (af SS.P 150 (.slice a n c) (.int .i64 (wrap .i64 (wrap .i64 ((n:Int)-1)-(i:Int))))) λp4=>xI .u64 (ag SS.P 117 (room h 18) (.pointer (some p4))) λn5=>xP (af SS.P 150 (.slice b m d) (.int .i64 (wrap .i64 (wrap .i64 ((n:Int)-1)-(i:Int))))) λp6=>xI .u64 (ag SS.P 117 (room h 18) (.pointer (some p6))) λn7=>FW SS 184 [(.int .u64 n5),(.int .u64 n7)] (room h 18) λv8 h9=>yI .i64 v8 λn10=>aZ (((n10:Int) !=0)) (Q (.int .i64 n10) h9) (ba (lZ (ez a n c b m d) Inv) mz [(.slice a n c),(.slice b m d),(iA n),(.int .i64 (wrap .i64 ((i:Int)+1)))] h9)) (Q (.int .i64 0) h)) (mz:Nat) {i:Nat} {h:aa} (hi:Inv mz i h):LL SS ey [1,1,0,1,0,0] (ez a n c b m d i) h (KK SS ey [1,1,0,1,0] [] (EE SS ey Q)):=
 gH (ez a n c b m d) Inv (λmz i zz h hi=>az (step mz i zz h hi)) mz hi
noncomputable def GU:FD:=fo Tryz.f210 []
theorem DN(x y z:Int)(p:OA)(h:aa)(Q:VH)(hx:xI .u64 (ag SS.P 117 h (.pointer p)) λn1=>xI .u64 (aq SS.P .rem 117 (.int .u64 (wrap .u64 (wrap .u64 (x*n1)+z))) (.int .u64 1000000000)) λn2=>xI .u64 (aq SS.P .quo 117 (.int .u64 (wrap .u64 (wrap .u64 (x*n1)+z))) (.int .u64 1000000000)) λn3=>Q (.tuple ⟨[(.int .u64 n2),(.int .u64 n3)]⟩) h):FW SS 210 [(.int .u64 x),(.int .u64 y),(.int .u64 z),(.pointer p)] h Q:=fy GU Tryz.func210 (az hx)
noncomputable def ep:FD:=fo Tryz.f182 [([1,1,1,0,1,0,0],[0,1,2,7,8,18,19])]
abbrev cQ(a:OA)(n c:Nat)(p:OA)(lim:Int)(i:Nat)(cy:Int)(r:OA)(rn rc:Nat):LV:=[(.slice a n c),nA,(.func (.func 210) ⟨[]⟩ ⟨[(.pointer p)]⟩),(.slice r rn rc),(.int .u64 cy),(.int .i64 lim),(iA i)]
theorem vK(a:OA)(n c:Nat)(p:OA)(h:aa)(Q:VH)(hx:xI .i64 (mc true [(iA n),(.int .i64 0)]) λn1=>LL SS ep [1,1,1,0,1,0,0] [(.slice a n c),nA,(.func (.func 210) ⟨[]⟩ ⟨[(.pointer p)]⟩),nA,(.int .u64 0),(.int .i64 (wrap .i64 (n1+1))),(.int .i64 0)] h (KK SS ep [1,1,1,0,1,0] [] (EE SS ep Q))):FW SS 182 [(.slice a n c),nA,(.func (.func 210) ⟨[]⟩ ⟨[(.pointer p)]⟩)] h Q:=fy ep Tryz.func182 (az hx)
theorem ma(a:OA)(n c:Nat)(p:OA)(lim:Int)(Inv:Nat->Nat->Int->OA->Nat->Nat->aa->Prop)(Q:VH)(step:∀(mz:Nat) (i:Nat) (cy:Int) (r:OA) (rn rc:Nat) (zz:Nat->Value) (h:aa),Inv mz i cy r rn rc h->aZ (decide (((i:Int):Int)<lim)) (aZ (decide (((i:Int):Int)<(n:Int))) (xP (af SS.P 150 (.slice a n c) (iA i)) λp2=>xI .u64 (ag SS.P 117 h (.pointer (some p2))) λn3=>aZ (decide (((i:Int):Int)<0)) (xP (af SS.P 150 nA (iA i)) λp4=>xI .u64 (ag SS.P 117 h (.pointer (some p4))) λn5=>FW SS 210 [(.int .u64 n3),(.int .u64 n5),(.int .u64 cy),(.pointer p)] h λv6 h7=>∃n8:Int,∃n9:Int,v6=(.tuple ⟨[(.int .u64 n8),(.int .u64 n9)]⟩)/\xR (aL SS.P 150 1 [(0,(.int .u64 n8))]) h7 λB10 n11 bO zH=>xE (aY SS.P 150 150 (.slice r rn rc) (sA (h7.next) n11 bO) zH) zH λa14 n15 c16 u17 g18=>ba (Cr (cQ a n c p lim) Inv) mz [(.slice a n c),nA,(.func (.func 210) ⟨[]⟩ ⟨[(.pointer p)]⟩),(.slice a14 n15 c16),(.int .u64 n9),(.int .i64 lim),(.int .i64 (wrap .i64 ((i:Int)+1)))] g18) (FW SS 210 [(.int .u64 n3),(.int .u64 0),(.int .u64 cy),(.pointer p)] h λv19 h20=>∃n21:Int,∃n22:Int,v19=(.tuple ⟨[(.int .u64 n21),(.int .u64 n22)]⟩)/\xR (aL SS.P 150 1 [(0,(.int .u64 n21))]) h20 λB23 n24 c25 g26=>xE (aY SS.P 150 150 (.slice r rn rc) (sA (h20.next) n24 c25) g26) g26 λa27 n28 c29 u30 g31=>ba (Cr (cQ a n c p lim) Inv) mz [(.slice a n c),nA,(.func (.func 210) ⟨[]⟩ ⟨[(.pointer p)]⟩),(.slice a27 n28 c29),(.int .u64 n22),(.int .i64 lim),(.int .i64 (wrap .i64 ((i:Int)+1)))] g31)) (aZ (decide (((i:Int):Int)<0)) (xP (af SS.P 150 nA (iA i)) λp32=>xI .u64 (ag SS.P 117 h (.pointer (some p32))) λn33=>FW SS 210 [(.int .u64 0),(.int .u64 n33),(.int .u64 cy),(.pointer p)] h λv34 h35=>∃n36:Int,∃n37:Int,v34=(.tuple ⟨[(.int .u64 n36),(.int .u64 n37)]⟩)/\xR (aL SS.P 150 1 [(0,(.int .u64 n36))]) h35 λEk n39 c40 g41=>xE (aY SS.P 150 150 (.slice r rn rc) (sA (h35.next) n39 c40) g41) g41 λa42 n43 c44 u45 g46=>ba (Cr (cQ a n c p lim) Inv) mz [(.slice a n c),nA,(.func (.func 210) ⟨[]⟩ ⟨[(.pointer p)]⟩),(.slice a42 n43 c44),(.int .u64 n37),(.int .i64 lim),(.int .i64 (wrap .i64 ((i:Int)+1)))] g46) (FW SS 210 [(.int .u64 0),(.int .u64 0),(.int .u64 cy),(.pointer p)] h λv47 h48=>∃n49:Int,∃n50:Int,v47=(.tuple ⟨[(.int .u64 n49),(.int .u64 n50)]⟩)/\xR (aL SS.P 150 1 [(0,(.int .u64 n49))]) h48 λB51 n52 c53 g54=>xE (aY SS.P 150 150 (.slice r rn rc) (sA (h48.next) n52 c53) g54) g54 λa55 n56 c57 u58 g59=>ba (Cr (cQ a n c p lim) Inv) mz [(.slice a n c),nA,(.func (.func 210) ⟨[]⟩ ⟨[(.pointer p)]⟩),(.slice a55 n56 c57),(.int .u64 n50),(.int .i64 lim),(.int .i64 (wrap .i64 ((i:Int)+1)))] g59))) (FW SS 139 [(.slice r rn rc)] h λv60 h61=>yL v60 λa62 n63 c64=>Q (.slice a62 n63 c64) h61))(mz:Nat){i:Nat}{cy:Int}{r:OA}{rn rc:Nat}{h:aa}(hi:Inv mz i cy r rn rc h):LL SS ep [1,1,1,0,1,0,0] (cQ a n c p lim i cy r rn rc) h (KK SS ep [1,1,1,0,1,0] [] (EE SS ep Q)):=
 JA (cQ a n c p lim) Inv (λmz i cy r rn rc zz h hi=>az (step mz i cy r rn rc zz h hi)) mz hi
noncomputable def Bn:FD:=fo Tryz.f190 []
theorem yZ(a:OA)(n c:Nat)(k:Int)(h:aa)(Q:VH)(hx:xN (l8 SS.P 117 (.int .u64 k)) h λB1 g2=>FW SS 182 [(.slice a n c),nA,(.func (.func 210) ⟨[]⟩ ⟨[(pA (h.next))]⟩)] g2 λv3 h4=>yL v3 λa5 n6 c7=>Q (.slice a5 n6 c7) h4):FW SS 190 [(.slice a n c),(.int .u64 k)] h Q:=fy Bn Tryz.func190 (az hx)
def uv(d:Nat):Value:= .int .u64 (d:Int)
theorem rI:SS.P.underlying 150=some (.slice 117):=by kernel_rfl
theorem Fh:SS.P.underlying 117=some (.int .u64):=by kernel_rfl
theorem vu:aw SS.P 117=some 1:=by kernel_rfl
theorem Ep:Go.Ab.isAgg SS.P 117=false:=by kernel_rfl
noncomputable def Jr:TypeInfo:=(e9 SS.P 117).getD default
theorem BG:e9 SS.P 117=some Jr:=by kernel_rfl
theorem uJ:Jr.size=1:=by kernel_rfl
theorem rG:Jr.bytes=8:=by kernel_rfl
theorem lR(z:Int):aL SS.P 150 1 [(0,.int .u64 z)]=some (.cells [.int .u64 z] 117 1 true,jE 1 1):=by kernel_rfl
theorem gI{h0 h:aa}(w0:Wf h0)(ok:Ok h0 h){v:Value}{vs:List Value}(o:dO h0 h 117 v vs)(z:Int)(hl:vs.length<=100000):
  ∃(b:Option Addr)(n c:Nat)(u:cL),aY SS.P 150 150 v (.slice (some ⟨h.next,0,none⟩) 1 1) (h.push (.cells [.int .u64 z] 117 1 true))=some (.slice b n c,u)/\n=vs.length+1/\dO h0 (u.app (h.push (.cells [.int .u64 z] 117 1 true))) 117 (.slice b n c) (vs++[.int .u64 z])/\Ok h0 (u.app (h.push (.cells [.int .u64 z] 117 1 true))):=
 dO.snoc rI BG uJ w0 ok o rfl (by rw[rG];omega) (by omega)
theorem IU(l:List Nat)(i:Nat)(h:i<l.length):(l.map uv).getD i undef = .int .u64 (l.getD i 0:Nat):=by
 simp[gD,List.getElem?_map,gE h,uv]
theorem wz{h:aa}{v:Value}{l:List Nat}(r:Rd h 117 v (l.map uv)){i:Int}(h0:0<=i)(h1:i<l.length):
  ∃p:Addr,af SS.P 150 v (.int .i64 i)=some (.pointer (some p))/\ag SS.P 117 h (.pointer (some p))=some (.int .u64 (l.getD i.toNat 0:Nat)):=by
 obtain⟨p,h2,h3⟩:=r.at_ rI vu Fh Ep (k:= .i64) h0 (by rw[lM];exact h1);rw[IU l _ (by omega)]at h3;exact⟨p,h2,h3⟩
theorem k6{h0 h:aa}{a:Option Addr}{n c:Nat}{l:List Nat}(o:dO h0 h 117 (.slice a n c) (l.map uv))(hlen:l.length<=100000):
  FW SS 139 [.slice a n c] h (λv h'=>∃a' n' c',v = .slice a' n' c'/\dO h0 h 117 (.slice a' n' c') ((cd l).map uv)/\h'=h):=by
 have hn:n=l.length:=by have:=o.len;rwa[lM]at this
 have L:=jt a n c (λmz r m d g=>m<=l.length/\mz=m/\dO h0 h 117 (.slice r m d) ((l.take m).map uv)/\cd l=cd (l.take m)/\g=h) (λv h'=>∃a' n' c',v = .slice a' n' c'/\dO h0 h 117 (.slice a' n' c') ((cd l).map uv)/\h'=h) (by
  intro mz r m d;intros;rename_i g hi;obtain⟨h1,rfl,h3,h4,rfl⟩:=hi;have hw:wrap .i64 ((mz:Int)-1)=(mz:Int)-1:=aB (by omega) (by omega);rw[hw];have hm:mz≠0->l.take mz=l.take (mz-1)++[l.getD (mz-1) 0]:=λhm=>by
   obtain⟨j,rfl⟩:∃j,mz=j+1:=⟨mz-1,by omega⟩
   rw[List.take_succ_eq_append_getElem (by omega),Nat.add_sub_cancel,gD,gE (by omega)];rfl
  refine ae (λh5=>?_) (λh5=>?_)
  ·have h5:=dT h5;obtain⟨p,g2,g3⟩:=wz h3.rd (i:=(mz:Int)-1) (by omega) (by rw[length_take];omega);have e1:(l.take mz).getD ((mz:Int)-1).toNat 0=l.getD (mz-1) 0:=by
    rw[show((mz:Int)-1).toNat=mz-1 by omega,gD,getElem?_take,if_pos (by omega),gD]
   rw[e1]at g3;refine⟨p,g2,_,g3,ae (λh6=>?_) (λh6=>?_)⟩
   ·have h6:((l.getD (mz-1) 0:Nat):Int)=0:=by simpa using h6
    have h6:l.getD (mz-1) 0=0:=by omega
    obtain⟨a',n',c',g4,g5⟩:=h3.upto rI vu (z:=mz-1) (by rw[lM,length_take];omega) (by rw[lM,length_take];omega);rw[show((mz:Int)-1)=((mz-1:Nat):Int) by omega];have hn':n'=mz-1:=by have:=g5.len;rw[length_take,lM,length_take]at this;omega
    subst hn';refine⟨a',_,c',g4,AV (mz-1) (by omega) ⟨by omega,rfl,?_,?_,rfl⟩⟩
    ·rw[<-List.map_take,List.take_take,min_eq_left (by omega)]at g5;exact g5
    ·rw[h4,hm (by omega),h6,eQ]
   ·have h6:¬((l.getD (mz-1) 0:Nat):Int)=0:=by simpa using h6
    refine⟨r,mz,d,rfl,?_,rfl⟩;rw[h4,hm (by omega),fA _ (by omega),<-hm (by omega)];exact h3
  ·have h5:=dF h5;obtain rfl:mz=0:=by omega
   refine⟨r,0,d,rfl,?_,rfl⟩;rw[h4];exact h3)
 exact ui a n c h _ (L n ⟨by omega,rfl,by rw[show l.take n=l by rw[hn,take_length]];exact o,by rw[show l.take n=l by rw[hn,take_length]],rfl⟩)
theorem wc{l:List UInt8}{i:Nat}(h:i<l.length):Num.val (l.take (i+1))=10*Num.val (l.take i)+oZ (l.getD i 0):=rV (NM h)
theorem GW(l:List UInt8){h:aa}{b:Nat}(h2:b<=l.length):cA SS.P 9 (strOf l) none (some (.int .i64 (b:Int))) none h=some (strOf (l.take b)):=km (a:=0) RA l rfl rfl (by omega) h2
theorem Af{s:List UInt8}{cut:Nat}(hc:cut=s.length-9)(hs:0<s.length):Num.val s=Num.val (s.drop cut)+10^(s.length-cut)*Num.val (s.take cut):=by
 have:=ya (s.take cut) (s.drop cut);rw[List.take_append_drop,length_drop,mul_comm]at this;omega
theorem kZ(l:List UInt8)(hd:l.all bG=true)(hlen:l.length<=10000)(h:aa)(w:Wf h):FW SS 137 [strOf l] h (gP h 117 ((ay 1000000000 (Num.val l)).map uv)):=by
 have L1:=mJ l (λmz s r rn rc g=>mz=s.length/\s.all bG=true/\s.length<=10000/\Ok h g/\∃bs:List Nat,(∀d∈bs,d<1000000000)/\bs.length+s.length<=10000/\dO h g 117 (.slice r rn rc) (bs.map uv)/\Num.val l=Num.bv 1000000000 bs+1000000000^bs.length*Num.val s) (gP h 117 ((ay 1000000000 (Num.val l)).map uv)) (by
  intro mz s r rn rc;intros;rename_i g hi;obtain⟨rfl,hs,hsl,ok,bs,hb1,hb2,ho,hv⟩:=hi;refine ae (λh5=>?_) (λh5=>?_)
  ·have h5:=dT h5;have hw:wrap .i64 ((s.length:Int)-9)=(s.length:Int)-9:=aB (by omega) (by omega);rw[hw];have hcut:(if(s.length:Int)-9>0 then(s.length:Int)-9 else 0)=((s.length-9:Nat):Int):=by split<;>omega
   refine⟨_,pM _ _ _,?_⟩;rw[hcut];have L2:=mK l (λmz s r rn rc g=>mz=s.length/\s.all bG=true/\s.length<=10000/\Ok h g/\∃bs:List Nat,(∀d∈bs,d<1000000000)/\bs.length+s.length<=10000/\dO h g 117 (.slice r rn rc) (bs.map uv)/\Num.val l=Num.bv 1000000000 bs+1000000000^bs.length*Num.val s) s.length s r rn rc ((s.length-9:Nat):Int)
    (λmz2 i v g2=>∃j:Nat,i=(s.length-9:Nat)+(j:Int)/\s.length-9+j<=s.length/\mz2=s.length-(s.length-9+j)/\v=(Num.val ((s.drop (s.length-9)).take j):Nat)/\g2=g) (gP h 117 ((ay 1000000000 (Num.val l)).map uv)) (by
    intro mz2 i v;intros;rename_i g2 hi2;obtain⟨j,rfl,hj,hmz,rfl,rfl⟩:=hi2;have hdd:(s.drop (s.length-9)).all bG=true:=by
     rw[all_eq_true]at hs⊢;exact λx hx=>hs x (List.mem_of_mem_drop hx)
    have hlt:=zX (l:=(s.drop (s.length-9)).take j) (by
     rw[all_eq_true]at hdd⊢;exact λx hx=>hdd x (mem_of_mem_take hx))
    have hlt9:Num.val ((s.drop (s.length-9)).take j)<1000000000:=by
     refine lt_of_lt_of_le hlt (Nat.le_trans (pow_le_pow_right (by omega) (show _<=9 by rw[length_take,length_drop];omega)) (by decide))
    refine ae (λh6=>?_) (λh6=>?_)
    ·have h6:=dT h6;have hin:s.length-9+j<s.length:=by omega
     have hdig:=Hy hs hin;have hdr:=jI.1 hdig;have hdv:=sr hdig;refine⟨_,Lf (h:=g2) s (by omega) h6,?_⟩;have hi':(((s.length-9:Nat):Int)+(j:Int)).toNat=s.length-9+j:=by omega
     rw[hi'];have e1:wrap .u8 ((((s.getD (s.length-9+j) 0).toNat:Nat):Int)-48)=(oZ (s.getD (s.length-9+j) 0):Nat):=by
      rw[q6 (by omega) (by omega)];unfold oZ;omega
     have e2:(s.drop (s.length-9)).getD j 0=s.getD (s.length-9+j) 0:=by
      rw[gD,getElem?_drop,gD]
     have e3:=wc (l:=s.drop (s.length-9)) (i:=j) (by rw[length_drop];omega);rw[e2]at e3;dsimp only;rw[e1,dM (n:=((oZ (s.getD (s.length-9+j) 0):Nat):Int)) (by omega) (by omega),dM (n:=10*((Num.val ((s.drop (s.length-9)).take j):Nat):Int)) (by omega) (by omega),dM (by omega) (by omega),aB (n:=((s.length-9:Nat):Int)+(j:Int)+1) (by omega) (by omega)];exact lT (mz2-1) (by omega) ⟨j+1,by omega,by omega,by omega,by rw[e3];omega,rfl⟩
    ·have h6:=dF h6;have hjl:(s.drop (s.length-9)).take j=s.drop (s.length-9):=take_of_length_le (by rw[length_drop];omega);rw[hjl]at hlt9⊢;refine⟨_,_,_,lR _,?_⟩;obtain⟨b,m,d,u,g6,g7,g8,g9⟩:=gI w ok ho ((Num.val (s.drop (s.length-9)):Nat):Int) (by rw[lM];omega);refine⟨b,m,d,u,g6,?_⟩;refine⟨_,GW s (show s.length-9<=s.length by omega),?_⟩;refine EI (s.take (s.length-9)).length (by rw[length_take];omega) ⟨rfl,?_,by rw[length_take];omega,g9,bs++[Num.val (s.drop (s.length-9))],?_,?_,?_,?_⟩
     ·rw[all_eq_true]at hs⊢;exact λx hx=>hs x (mem_of_mem_take hx)
     ·intro x hx;rcases mem_append.1 hx with hx|hx
      ·exact hb1 x hx
      ·rw[mem_singleton.1 hx];exact hlt9
     ·rw[length_append,length_take];simp;omega
     ·rw[List.map_append];exact g8
     ·rw[kf,length_append,hv,Af (s:=s) rfl (by omega),List.length_singleton];rcases lt_or_ge s.length 10 with h7|h7
      ·rw[show s.length-9=0 by omega,List.take_zero,gN];simp
      ·rw[show s.length-(s.length-9)=9 by omega,show(10:Nat)^9=1000000000 from rfl,pow_succ,mul_add,mul_assoc];omega)
   exact L2 _ ⟨0,by omega,by omega,rfl,by simp[gN],rfl⟩
  ·have h5:=dF h5;obtain rfl:s=[]:=List.eq_nil_of_length_eq_zero (by omega);refine(k6 ho (by omega)).mono ?_;rintro _ g2 ⟨a',n',c',rfl,o2,rfl⟩;refine⟨a',n',c',rfl,a',n',c',rfl,?_,ok⟩;rw[hv,gN,mul_zero,add_zero,<-fT (by omega) hb1];exact o2)
 exact yU l h _ (L1 l.length ⟨rfl,hd,hlen,Ok.refl w,[],by simp,by simpa using hlen,.inl ⟨rfl,rfl⟩,by simp[Num.bv]⟩)
theorem EX(x:Int)(h:aa):FW SS 204 [.int .u64 x] h (λv h'=>v = .bool false/\h'=h):=LM x h _ ⟨by simp,rfl⟩
theorem EW(x:Int)(h:aa):FW SS 117 [.int .i64 x] h (λv h'=>v = .bool false/\h'=h):=LK x h _ ⟨by simp,rfl⟩
theorem KS(m n:Nat)(h:aa):FW SS 184 [.int .u64 (m:Int),.int .u64 (n:Int)] h (λv h'=>v = .int .i64 (dw m n)/\h'=h):=by
 refine KR _ _ h _ ((EX _ h).mono ?_);rintro _ _ ⟨rfl,rfl⟩;refine⟨_,rfl,(EX _ _).mono ?_⟩;rintro _ _ ⟨rfl,rfl⟩;refine⟨_,rfl,ae (λe=>by cases e) (λ_=>ae (λe=>by cases e) (λ_=>ae (λh1=>?_) (λh1=>ae (λh2=>?_) (λh2=>?_))))⟩
 ·exact⟨by rw[jc (by have:=dT h1;omega)],rfl⟩
 ·exact⟨by rw[jb (by have:=dT h2;omega)],rfl⟩
 ·have h1:=dF h1;have h2:=dF h2;exact⟨by rw[show m=n by omega,m9],rfl⟩
theorem KO(m n:Nat)(h:aa):FW SS 72 [.int .i64 (m:Int),.int .i64 (n:Int)] h (λv h'=>v = .int .i64 (dw m n)/\h'=h):=by
 refine KN _ _ h _ ((EW _ h).mono ?_);rintro _ _ ⟨rfl,rfl⟩;refine⟨_,rfl,(EW _ _).mono ?_⟩;rintro _ _ ⟨rfl,rfl⟩;refine⟨_,rfl,ae (λe=>by cases e) (λ_=>ae (λe=>by cases e) (λ_=>ae (λh1=>?_) (λh1=>ae (λh2=>?_) (λh2=>?_))))⟩
 ·exact⟨by rw[jc (by have:=dT h1;omega)],rfl⟩
 ·exact⟨by rw[jb (by have:=dT h2;omega)],rfl⟩
 ·have h1:=dF h1;have h2:=dF h2;exact⟨by rw[show m=n by omega,m9],rfl⟩
abbrev BB:Nat:=1000000000
abbrev bl(n:Nat):List Value:=(ay BB n).map uv
theorem dK:1<BB:=by decide
theorem ka{h:aa}{a b:Option Addr}{n c m d:Nat}{x y:Nat}(ra:Rd h 117 (.slice a n c) (bl x))(rb:Rd h 117 (.slice b m d) (bl y))(hlen:(ay BB x).length<=10000)(w:Wf h):
  FW SS 163 [.slice a n c,.slice b m d] h (λv h'=>v = .int .i64 (dw x y)/\Ok h h'):=by
 have hn:n=(ay BB x).length:=by have:=ra.len;rwa[lM]at this
 have hm:m=(ay BB y).length:=by have:=rb.len;rwa[lM]at this
 have L:=λ(hl:(ay BB x).length=(ay BB y).length)=>me a n c b m d (λmz i g=>i<=n/\mz=n-i/\(ay BB x).drop (n-i)=(ay BB y).drop (n-i)/\Ok h g) (λv h'=>v = .int .i64 (dw x y)/\Ok h h') (by
  intro mz i;intros;rename_i g hi;obtain⟨h1,h2,h3,ok⟩:=hi;have hw1:wrap .i64 ((n:Int)-1)=(n:Int)-1:=aB (by omega) (by omega);have hw2:wrap .i64 ((n:Int)-1-(i:Int))=(n:Int)-1-(i:Int):=aB (by omega) (by omega);have hw3:wrap .i64 ((i:Int)+1)=((i+1:Nat):Int):=by rw[aB (by omega) (by omega)];omega
  rw[hw1,hw2,hw3];have ok':=ok.room 18;refine ae (λh5=>?_) (λh5=>?_)
  ·have h5:=dT h5;have hj:((n:Int)-1-(i:Int)).toNat=n-1-i:=by omega
   obtain⟨p,g2,g3⟩:=wz (ra.ok ok') (i:=(n:Int)-1-(i:Int)) (by omega) (by omega);obtain⟨q,g4,g5⟩:=wz (rb.ok ok') (i:=(n:Int)-1-(i:Int)) (by omega) (by omega);rw[hj]at g3 g5;refine⟨p,g2,_,g3,q,g4,_,g5,(KS _ _ _).mono ?_⟩;rintro _ _ ⟨rfl,rfl⟩;have hd:(ay BB x).drop (n-1-i+1)=(ay BB y).drop (n-1-i+1):=by rw[show n-1-i+1=n-i by omega];exact h3
   refine⟨_,rfl,ae (λh6=>?_) (λh6=>?_)⟩
   ·refine⟨?_,ok'⟩;have h6:dw ((ay BB x).getD (n-1-i) 0) ((ay BB y).getD (n-1-i) 0)≠0:=by simpa using h6
    rcases Nat.lt_trichotomy ((ay BB x).getD (n-1-i) 0) ((ay BB y).getD (n-1-i) 0)with h7|h7|h7
    ·have:=mg dK (bK dK x) hl (by omega) hd h7;rw[bg dK,bg dK]at this;rw[jc h7,jc this]
    ·rw[h7,m9]at h6;exact absurd rfl h6
    ·have:=mg dK (bK dK y) hl.symm (by omega) hd.symm h7;rw[bg dK,bg dK]at this;rw[jb h7,jb this]
   ·have h6:dw ((ay BB x).getD (n-1-i) 0) ((ay BB y).getD (n-1-i) 0)=0:=by simpa using h6
    have h7:(ay BB x).getD (n-1-i) 0=(ay BB y).getD (n-1-i) 0:=by
     unfold dw at h6;split at h6
     ·cases h6
     ·split at h6
      ·assumption
      ·cases h6
    refine eH (mz-1) (by omega) ⟨by omega,by omega,?_,ok'⟩;rw[show n-(i+1)=n-1-i by omega,List.drop_eq_getElem_cons (show n-1-i<(ay BB x).length by omega),List.drop_eq_getElem_cons (show n-1-i<(ay BB y).length by omega),hd];congr 1;rw[gD,gE (by omega),gD,gE (by omega)]at h7;exact h7
  ·have h5:=dF h5;rw[show n-i=0 by omega,drop_zero,drop_zero]at h3;have:x=y:=by rw[<-bg dK x,h3,bg dK]
   exact⟨by rw[this,m9],ok⟩)
 refine vV a n c b m d h _ (ae (λh1=>(KO _ _ h).mono ?_) (λh1=>?_))
 ·rintro _ _ ⟨rfl,rfl⟩;have h1:=N4 h1;refine⟨_,rfl,?_,Ok.refl w⟩;rcases Nat.lt_trichotomy n m with h2|h2|h2
  ·rw[jc h2,jc (gk dK (by omega))]
  ·exact absurd h2 h1
  ·rw[jb h2,jb (gk dK (by omega))]
 ·have h1:=NH h1;refine L (by omega) n (i:=0) ⟨by omega,by omega,?_,Ok.refl w⟩;rw[Nat.sub_zero,drop_of_length_le (by omega),drop_of_length_le (by omega)]
theorem IL{P:Program}{t:TypeId}{h h':aa}{p v:Value}(o:Ok h h')(hl:ag P t h p=some v):ag P t h' p=some v:=by
 unfold ag at hl⊢;split at hl
 ·next hu=>
  split at hl
  ·next cs _ _ _ hk=>rw[o.ext _ _ hk];exact hl
  ·cases hl
 ·cases hl
theorem DO{h:aa}{p:Option Addr}{k:Nat}(hp:ag SS.P 117 h (.pointer p)=some (.int .u64 (k:Int)))(x y z:Nat)(hx:x<BB)(hk:k<=BB)(hz:z<BB):
  FW SS 210 [.int .u64 (x:Int),.int .u64 (y:Int),.int .u64 (z:Int),.pointer p] h (λv h'=>v = .tuple ⟨[uv (bw BB k x y z).1,uv (bw BB k x y z).2]⟩/\h'=h):=by
 have hBv:BB=1000000000:=rfl;have h1:x*k<=1000000000000000000:=Nat.le_trans (mul_le_mul (Nat.le_of_lt hx) hk) (by decide);have e1:wrap .u64 ((x:Int)*(k:Int))=((x*k:Nat):Int):=by rw[<-Int.natCast_mul];exact dM (by omega) (by omega)
 have e2:wrap .u64 (((x*k:Nat):Int)+(z:Int))=((x*k+z:Nat):Int):=by rw[<-Int.natCast_add];exact dM (by omega) (by omega)
 refine DN _ _ _ p h _ ⟨_,hp,?_⟩;dsimp only;rw[e1,e2];refine⟨_,dL (b:=BB) (by omega) (by decide),_,jV (b:=BB) (by omega) (by omega) (by decide),?_,rfl⟩;unfold uv bw;rw[Int.natCast_emod,Int.natCast_ediv]
theorem vL{h:aa}{a:Option Addr}{n c:Nat}{p:Option Addr}{k:Nat}{x:List Nat}(ra:Rd h 117 (.slice a n c) (x.map uv))(hx:∀d∈x,d<BB)(hlen:x.length<=10000)(hp:ag SS.P 117 h (.pointer p)=some (.int .u64 (k:Int)))(hk0:0<k)(hk:k<=BB)(w:Wf h):
  FW SS 182 [.slice a n c,.slice none 0 0,.func (.func 210) ⟨[]⟩ ⟨[.pointer p]⟩] h (gP h 117 (bl (Num.bv BB x*k))):=by
 have hn:n=x.length:=by have:=ra.len;rwa[lM]at this
 have hBv:BB=1000000000:=rfl;have hF:∀p q c,c<=BB-1->p<BB->(bw BB k p q c).2<=BB-1:=λp q c hc hp=>by
  unfold bw;dsimp only;have h1:p*k<=999999999*1000000000:=mul_le_mul (by omega) hk;have:(p*k+c)/BB<BB:=div_lt_of_lt_mul (by rw[hBv];omega);omega
 have hcr:∀j,dx (bw BB k) x [] 0 0 j<=BB-1:=by
  intro j
  induction j with
  |zero=>exact Nat.zero_le _
  |succ j ih=>exact hF _ _ _ ih (aS (by decide) hx _)
 have fin:cd (aU (bw BB k) x [] 0 (n+1) 0)=ay BB (Num.bv BB x*k):=by
  rw[fT dK (gL (λp q c=>mod_lt _ (by decide)) x [] (n+1) 0 0),Cz dK hk hk0 hx (n+1) 0 0 (by omega) hk0 (by omega)];rw[drop_zero,add_zero]
 have L:=ma a n c p ((n:Int)+1) (λmz i cy r rn rc g=>i<=n+1/\mz=n+1-i/\cy=(dx (bw BB k) x [] 0 0 i:Nat)/\dO h g 117 (.slice r rn rc) ((aU (bw BB k) x [] 0 i 0).map uv)/\Ok h g) (gP h 117 (bl (Num.bv BB x*k))) (by
  intro mz i cy r rn rc;intros;rename_i g hi;obtain⟨h1,h2,rfl,ho,ok⟩:=hi;have hw3:wrap .i64 ((i:Int)+1)=((i+1:Nat):Int):=by rw[aB (by omega) (by omega)];omega
  rw[hw3];have hel:(aU (bw BB k) x [] 0 i 0).length=i:=fb _ _ _ _ _ _;have hsn:=gi (bw BB k) x [] i 0 0;rw[zero_add]at hsn;have hcr1:dx (bw BB k) x [] 0 0 (i+1)=(bw BB k (x.getD i 0) (([]:List Nat).getD i 0) (dx (bw BB k) x [] 0 0 i)).2:=by
   show(bw BB k (x.getD (0+i) 0) (([]:List Nat).getD (0+i) 0) _).2=_;rw[zero_add]
  have hci:=hcr i;have hxi:=aS (b:=BB) (by decide) hx i;have hp':=IL ok hp;have go:=DO hp' (x.getD i 0) (([]:List Nat).getD i 0) (dx (bw BB k) x [] 0 0 i) hxi hk (by omega);have y0:([]:List Nat).getD i 0=0:=by simp
  refine ae (λh5=>?_) (λh5=>?_)
  ·have h5:=dT h5;refine ae (λh6=>?_) (λh6=>?_)
   ·have h6:=dT h6;obtain⟨q,g2,g3⟩:=wz (ra.ok ok) (i:=(i:Int)) (by omega) (by omega);rw[toNat_natCast]at g3;refine⟨q,g2,_,g3,ae (λh7=>?_) (λh7=>?_)⟩
    ·have:=dT h7;omega
    ·refine(show FW SS 210 [.int .u64 ((x.getD i 0:Nat):Int),.int .u64 ((([]:List Nat).getD i 0:Nat):Int),.int .u64 ((dx (bw BB k) x [] 0 0 i:Nat):Int),.pointer p] g _ from go).mono ?_ |> (λhh=>by rw[y0]at hh;exact hh)
     rintro _ _ ⟨rfl,rfl⟩;refine⟨_,_,rfl,_,_,_,lR _,?_⟩;obtain⟨b,m,d,u,g6,g7,g8,g9⟩:=gI w ok ho ((bw BB k (x.getD i 0) (([]:List Nat).getD i 0) (dx (bw BB k) x [] 0 0 i)).1:Nat) (by rw[lM,hel];omega);refine⟨b,m,d,u,g6,nS (mz-1) (by omega) ⟨by omega,by omega,by rw[hcr1],?_,g9⟩⟩;rw[hsn,List.map_append];exact g8
   ·have h6:=dF h6;have hx0:x.getD i 0=0:=by rw[gD,getElem?_eq_none (by omega)];rfl
    refine ae (λh7=>?_) (λh7=>?_)
    ·have:=dT h7;omega
    ·refine(show FW SS 210 [.int .u64 ((x.getD i 0:Nat):Int),.int .u64 ((([]:List Nat).getD i 0:Nat):Int),.int .u64 ((dx (bw BB k) x [] 0 0 i:Nat):Int),.pointer p] g _ from go).mono ?_ |> (λhh=>by rw[y0,hx0]at hh;exact hh)
     rintro _ _ ⟨rfl,rfl⟩;refine⟨_,_,rfl,_,_,_,lR _,?_⟩;obtain⟨b,m,d,u,g6,g7,g8,g9⟩:=gI w ok ho ((bw BB k (x.getD i 0) (([]:List Nat).getD i 0) (dx (bw BB k) x [] 0 0 i)).1:Nat) (by rw[lM,hel];omega);refine⟨b,m,d,u,g6,nS (mz-1) (by omega) ⟨by omega,by omega,by rw[hcr1],?_,g9⟩⟩;rw[hsn,List.map_append];exact g8
  ·have h5:=dF h5;obtain rfl:i=n+1:=by omega
   refine(k6 ho (by rw[hel];omega)).mono ?_;rintro _ g2 ⟨a',n',c',rfl,o2,rfl⟩;rw[fin]at o2;exact⟨a',n',c',rfl,a',n',c',rfl,o2,ok⟩)
 refine vK a n c p h _ ⟨_,pM _ _ _,?_⟩;have hmx:(if(0:Int)>(n:Int)then(0:Int)else(n:Int))=(n:Int):=if_neg (by omega);have hw:wrap .i64 ((n:Int)+1)=(n:Int)+1:=aB (by omega) (by omega);dsimp only;rw[hmx,hw];exact L (n+1) (i:=0) ⟨by omega,by omega,rfl,.inl ⟨rfl,rfl⟩,Ok.refl w⟩
noncomputable def aH:FD:=fo Tryz.f191 [([1,1,1,1,0,0,0],[0,1,5,7,8]),([1,1,1,1,1,1,0,1,0,0],[0,1,5,7,9,10,87,88]),([1,1,1,1,1,1,1,1,1,0,1,0,0],[0,1,5,7,10,128,129])]
abbrev cS(a:OA)(n c:Nat)(b:OA)(m d:Nat)(q rest:Int):LV:=[(.slice a n c),(.slice b m d),(iA m),(.int .u64 q),(.int .u64 rest)]
abbrev bP(a:OA)(n c:Nat)(b:OA)(m d:Nat)(q lim:Int)(i:Nat)(bo cy:Int):LV:=[(.slice a n c),(.slice b m d),(iA m),(.int .u64 q),(.int .u64 bo),(.int .u64 cy),(.int .i64 lim),(iA i)]
abbrev dS(a:OA)(n c:Nat)(b:OA)(m d:Nat)(q lim:Int)(i:Nat)(cy:Int):LV:=[(.slice a n c),(.slice b m d),(iA m),(.int .u64 q),(.int .u64 cy),(.int .i64 lim),(iA i)]
theorem Bg(a:OA)(n c:Nat)(b:OA)(m d:Nat)(h:aa)(Q:VH)(hx:xP (af SS.P 150 (.slice a n c) (iA m)) λp1=>xI .u64 (ag SS.P 117 (room h 12) (.pointer (some p1))) λn2=>xP (af SS.P 150 (.slice a n c) (.int .i64 (wrap .i64 ((m:Int)-1)))) λp3=>xI .u64 (ag SS.P 117 (room h 12) (.pointer (some p3))) λn4=>xP (af SS.P 150 (.slice b m d) (.int .i64 (wrap .i64 ((m:Int)-1)))) λp5=>xI .u64 (ag SS.P 117 (room (room h 12) 16) (.pointer (some p5))) λn6=>xI .u64 (aq SS.P .quo 117 (.int .u64 (wrap .u64 (wrap .u64 (n2*1000000000)+n4))) (.int .u64 n6)) λn7=>xP (af SS.P 150 (.slice b m d) (.int .i64 (wrap .i64 ((m:Int)-1)))) λp8=>xI .u64 (ag SS.P 117 (room (room h 12) 16) (.pointer (some p8))) λn9=>xI .u64 (aq SS.P .rem 117 (.int .u64 (wrap .u64 (wrap .u64 (n2*1000000000)+n4))) (.int .u64 n9)) λn10=>LL SS aH [1,1,1,1,0,0,0] (cS a n c b m d n7 n10) (room (room h 12) 16) (KK SS aH [1,1,1,1,0,0] [] (EE SS aH Q))):FW SS 191 [(.slice a n c),(.slice b m d)] h Q:=fy aH Tryz.func191 (az hx)
theorem nB(a:OA)(n c:Nat)(b:OA)(m d:Nat)  (Inv:Nat->Int->Int->aa->Prop) (Q:VH) (step:∀(mz:Nat)(q rest:Int)(zz:Nat->Value)(h:aa),Inv mz q rest h->aZ (decide ((q:Int)>=1000000000)) (xP (af SS.P 150 (.slice b m d) (.int .i64 (wrap .i64 ((m:Int)-1)))) λp11=>xI .u64 (ag SS.P 117 (room h 28) (.pointer (some p11))) λn12=>aZ (decide ((wrap .u64 (rest+n12):Int)>=1000000000)) (aZ (decide ((wrap .u64 (q-1):Int)<1000000000)) (LL SS aH [1,1,1,1,1,1,0,1,0,0] (bP a n c b m d (wrap .u64 (q-1)) (wrap .i64 ((m:Int)+1)) 0 0 0) (room h 28) (KK SS aH [1,1,1,1,1,1,0,1,0] [] (EE SS aH Q))) (ba (zE (cS a n c b m d) Inv) mz [(.slice a n c),(.slice b m d),(iA m),(.int .u64 (wrap .u64 (q-1))),(.int .u64 (wrap .u64 (rest+n12)))] (room h 28))) (ba (zE (cS a n c b m d) Inv) mz [(.slice a n c),(.slice b m d),(iA m),(.int .u64 (wrap .u64 (q-1))),(.int .u64 (wrap .u64 (rest+n12)))] (room h 28))) (aZ (decide (((m:Int):Int)>1)) (aZ (decide ((rest:Int)<1000000000)) (xP (af SS.P 150 (.slice b m d) (.int .i64 (wrap .i64 ((m:Int)-2)))) λp13=>xI .u64 (ag SS.P 117 (room h 28) (.pointer (some p13))) λn14=>xP (af SS.P 150 (.slice a n c) (.int .i64 (wrap .i64 ((m:Int)-2)))) λp15=>xI .u64 (ag SS.P 117 (room h 28) (.pointer (some p15))) λn16=>aZ (decide ((wrap .u64 (q*n14):Int)>wrap .u64 (wrap .u64 (rest*1000000000)+n16))) (xP (af SS.P 150 (.slice b m d) (.int .i64 (wrap .i64 ((m:Int)-1)))) λp17=>xI .u64 (ag SS.P 117 (room h 28) (.pointer (some p17))) λn18=>aZ (decide ((wrap .u64 (rest+n18):Int)>=1000000000)) (aZ (decide ((wrap .u64 (q-1):Int)<1000000000)) (LL SS aH [1,1,1,1,1,1,0,1,0,0] (bP a n c b m d (wrap .u64 (q-1)) (wrap .i64 ((m:Int)+1)) 0 0 0) (room h 28) (KK SS aH [1,1,1,1,1,1,0,1,0] [] (EE SS aH Q))) (ba (zE (cS a n c b m d) Inv) mz [(.slice a n c),(.slice b m d),(iA m),(.int .u64 (wrap .u64 (q-1))),(.int .u64 (wrap .u64 (rest+n18)))] (room h 28))) (ba (zE (cS a n c b m d) Inv) mz [(.slice a n c),(.slice b m d),(iA m),(.int .u64 (wrap .u64 (q-1))),(.int .u64 (wrap .u64 (rest+n18)))] (room h 28))) (LL SS aH [1,1,1,1,1,1,0,1,0,0] (bP a n c b m d q (wrap .i64 ((m:Int)+1)) 0 0 0) (room h 28) (KK SS aH [1,1,1,1,1,1,0,1,0] [] (EE SS aH Q)))) (LL SS aH [1,1,1,1,1,1,0,1,0,0] (bP a n c b m d q (wrap .i64 ((m:Int)+1)) 0 0 0) (room h 28) (KK SS aH [1,1,1,1,1,1,0,1,0] [] (EE SS aH Q)))) (LL SS aH [1,1,1,1,1,1,0,1,0,0] (bP a n c b m d q (wrap .i64 ((m:Int)+1)) 0 0 0) (room h 28) (KK SS aH [1,1,1,1,1,1,0,1,0] [] (EE SS aH Q))))) (mz:Nat) {q rest:Int} {h:aa} (hi:Inv mz q rest h):LL SS aH [1,1,1,1,0,0,0] (cS a n c b m d q rest) h (KK SS aH [1,1,1,1,0,0] [] (EE SS aH Q)):=
 uS (cS a n c b m d) Inv (λmz q rest zz h hi=>az (step mz q rest zz h hi)) mz hi
theorem nC(a:OA)(n c:Nat)(b:OA)(m d:Nat)(q lim:Int)(Inv:Nat->Nat->Int->Int->aa->Prop)(Q:VH)(step:∀(mz:Nat) (i:Nat) (bo cy:Int) (zz:Nat->Value) (h:aa),Inv mz i bo cy h->aZ (decide (((i:Int):Int)<lim)) (aZ (decide (((i:Int):Int)<(m:Int))) (xP (af SS.P 150 (.slice b m d) (iA i)) λp19=>xI .u64 (ag SS.P 117 h (.pointer (some p19))) λn20=>xP (af SS.P 150 (.slice a n c) (iA i)) λp21=>xI .u64 (ag SS.P 117 h (.pointer (some p21))) λn22=>xI .u64 (aq SS.P .rem 117 (.int .u64 (wrap .u64 (cy+wrap .u64 (q*n20)))) (.int .u64 1000000000)) λn23=>xI .u64 (aq SS.P .rem 117 (.int .u64 (wrap .u64 (wrap .u64 (wrap .u64 (n22+1000000000)-n23)-bo))) (.int .u64 1000000000)) λn24=>xI .u64 (aq SS.P .quo 117 (.int .u64 (wrap .u64 (wrap .u64 (wrap .u64 (n22+1000000000)-n23)-bo))) (.int .u64 1000000000)) λn25=>xI .u64 (aq SS.P .quo 117 (.int .u64 (wrap .u64 (cy+wrap .u64 (q*n20)))) (.int .u64 1000000000)) λn26=>xP (af SS.P 150 (.slice a n c) (iA i)) λp27=>xU (an SS.P 117 (.pointer (some p27)) (.int .u64 n24) h) h λu28 g29=>ba (Nb (bP a n c b m d q lim) Inv) mz [(.slice a n c),(.slice b m d),(iA m),(.int .u64 q),(.int .u64 (wrap .u64 (1-n25))),(.int .u64 n26),(.int .i64 lim),(.int .i64 (wrap .i64 ((i:Int)+1)))] g29) (xP (af SS.P 150 (.slice a n c) (iA i)) λp30=>xI .u64 (ag SS.P 117 h (.pointer (some p30))) λn31=>xI .u64 (aq SS.P .rem 117 (.int .u64 cy) (.int .u64 1000000000)) λn32=>xI .u64 (aq SS.P .rem 117 (.int .u64 (wrap .u64 (wrap .u64 (wrap .u64 (n31+1000000000)-n32)-bo))) (.int .u64 1000000000)) λn33=>xI .u64 (aq SS.P .quo 117 (.int .u64 (wrap .u64 (wrap .u64 (wrap .u64 (n31+1000000000)-n32)-bo))) (.int .u64 1000000000)) λn34=>xI .u64 (aq SS.P .quo 117 (.int .u64 cy) (.int .u64 1000000000)) λn35=>xP (af SS.P 150 (.slice a n c) (iA i)) λp36=>xU (an SS.P 117 (.pointer (some p36)) (.int .u64 n33) h) h λu37 g38=>ba (Nb (bP a n c b m d q lim) Inv) mz [(.slice a n c),(.slice b m d),(iA m),(.int .u64 q),(.int .u64 (wrap .u64 (1-n34))),(.int .u64 n35),(.int .i64 lim),(.int .i64 (wrap .i64 ((i:Int)+1)))] g38)) (aZ (((bo:Int)==0)) (Q (.int .u64 q) h) (LL SS aH [1,1,1,1,1,1,1,1,1,0,1,0,0] (dS a n c b m d q (wrap .i64 ((m:Int)+1)) 0 0) h (KK SS aH [1,1,1,1,1,1,1,1,1,0,1,0] [] (EE SS aH Q)))))(mz:Nat){i:Nat}{bo cy:Int}{h:aa}(hi:Inv mz i bo cy h):LL SS aH [1,1,1,1,1,1,0,1,0,0] (bP a n c b m d q lim i bo cy) h (KK SS aH [1,1,1,1,1,1,0,1,0] [] (EE SS aH Q)):=
 Jy (bP a n c b m d q lim) Inv (λmz i bo cy zz h hi=>az (step mz i bo cy zz h hi)) mz hi
theorem nD(a:OA)(n c:Nat)(b:OA)(m d:Nat)(q lim:Int)(Inv:Nat->Nat->Int->aa->Prop)(Q:VH)(step:∀(mz:Nat) (i:Nat) (cy:Int) (zz:Nat->Value) (h:aa),Inv mz i cy h->aZ (decide (((i:Int):Int)<lim)) (xP (af SS.P 150 (.slice a n c) (iA i)) λp39=>xI .u64 (ag SS.P 117 h (.pointer (some p39))) λn40=>aZ (decide (((i:Int):Int)<(m:Int))) (xP (af SS.P 150 (.slice b m d) (iA i)) λp41=>xI .u64 (ag SS.P 117 h (.pointer (some p41))) λn42=>xI .u64 (aq SS.P .rem 117 (.int .u64 (wrap .u64 (wrap .u64 (n40+cy)+n42))) (.int .u64 1000000000)) λn43=>xI .u64 (aq SS.P .quo 117 (.int .u64 (wrap .u64 (wrap .u64 (n40+cy)+n42))) (.int .u64 1000000000)) λn44=>xP (af SS.P 150 (.slice a n c) (iA i)) λp45=>xU (an SS.P 117 (.pointer (some p45)) (.int .u64 n43) h) h λu46 g47=>ba (zE (dS a n c b m d q lim) Inv) mz [(.slice a n c),(.slice b m d),(iA m),(.int .u64 q),(.int .u64 n44),(.int .i64 lim),(.int .i64 (wrap .i64 ((i:Int)+1)))] g47) (xI .u64 (aq SS.P .rem 117 (.int .u64 (wrap .u64 (n40+cy))) (.int .u64 1000000000)) λn48=>xI .u64 (aq SS.P .quo 117 (.int .u64 (wrap .u64 (n40+cy))) (.int .u64 1000000000)) λn49=>xP (af SS.P 150 (.slice a n c) (iA i)) λp50=>xU (an SS.P 117 (.pointer (some p50)) (.int .u64 n48) h) h λu51 g52=>ba (zE (dS a n c b m d q lim) Inv) mz [(.slice a n c),(.slice b m d),(iA m),(.int .u64 q),(.int .u64 n49),(.int .i64 lim),(.int .i64 (wrap .i64 ((i:Int)+1)))] g52)) (Q (.int .u64 (wrap .u64 (q-1))) h))(mz:Nat){i:Nat}{cy:Int}{h:aa}(hi:Inv mz i cy h):LL SS aH [1,1,1,1,1,1,1,1,1,0,1,0,0] (dS a n c b m d q lim i cy) h (KK SS aH [1,1,1,1,1,1,1,1,1,0,1,0] [] (EE SS aH Q)):=
 uS (dS a n c b m d q lim) Inv (λmz i cy zz h hi=>az (step mz i cy zz h hi)) mz hi
noncomputable def bj:FD:=fo Tryz.f166 [([1,1,1,1,1,0,0,0],[0,1,6,7,8,9]),([1,1,1,1,1,1,1,0,1,0,0],[0,1,4,6,7,8,9,49,50]),([1,1,1,1,1,1,1,1,1,1,0,1,0,0],[4,5,7,12,74,75])]
abbrev eZ(a:OA)(n c:Nat)(b:OA)(m d:Nat)(kk:Int)(e:OA)(en ec:Nat)(r:OA)(rn rc:Nat):LV:=[(.slice a n c),(.slice b m d),(iA m),(.int .u64 kk),(.slice r rn rc),(.slice e en ec)]
abbrev e7(a:OA)(n c:Nat)(b:OA)(m d:Nat)(kk:Int)(g:OA)(gn gc:Nat)(r:OA)(rn rc:Nat)(e:OA)(en ec:Nat)(lim:Int)(i:Nat):LV:=[(.slice a n c),(.slice b m d),(.slice g gn gc),(iA m),(.int .u64 kk),(.slice r rn rc),(.slice e en ec),(.int .i64 lim),(iA i)]
abbrev e8(kk:Int)(g:OA)(gn gc:Nat)(r:OA)(rn rc:Nat)(lim:Int)(i:Nat)(left:Int):LV:=[(.slice g gn gc),(.slice r rn rc),(.int .u64 kk),(.int .u64 left),(.int .i64 lim),(iA i)]
theorem yW(a:OA)(n c:Nat)(b:OA)(m d:Nat)(h:aa)(Q:VH)(hx:FW SS 163 [(.slice a n c),(.slice b m d)] h λv1 h2=>yI .i64 v1 λn3=>aZ (decide ((n3:Int)<0)) (Q (.tuple ⟨[nA,(.slice a n c)]⟩) h2) (xP (af SS.P 150 (.slice b m d) (.int .i64 (wrap .i64 ((m:Int)-1)))) λp4=>xI .u64 (ag SS.P 117 h2 (.pointer (some p4))) λn5=>xI .u64 (aq SS.P .quo 117 (.int .u64 1000000000) (.int .u64 (wrap .u64 (n5+1)))) λn6=>FW SS 190 [(.slice a n c),(.int .u64 n6)] h2 λv7 h8=>yL v7 λa9 n10 bE=>FW SS 190 [(.slice b m d),(.int .u64 n6)] h8 λv12 h13=>yL v12 λa14 n15 c16=>LL SS bj [1,1,1,1,1,0,0,0] (eZ a n c b m d n6 a14 n15 c16 a9 n10 bE) h13 (KK SS bj [1,1,1,1,1,0,0] [] (EE SS bj Q)))):FW SS 166 [(.slice a n c),(.slice b m d)] h Q:=fy bj Tryz.func166 (az hx)
theorem mL(a:OA)(n c:Nat)(b:OA)(m d:Nat)(kk:Int)(e:OA)(en ec:Nat)(Inv:Nat->OA->Nat->Nat->aa->Prop)(Q:VH)(step:∀(mz:Nat) (r:OA) (rn rc:Nat) (zz:Nat->Value) (h:aa),Inv mz r rn rc h->aZ (decide (((rn:Int):Int)<=(n:Int))) (xR (aL SS.P 150 1 [(0,(.int .u64 0))]) h λB17 n18 c19 g20=>xE (aY SS.P 150 150 (.slice r rn rc) (sA (h.next) n18 c19) g20) g20 λa21 n22 c23 u24 g25=>ba (Nb (eZ a n c b m d kk e en ec) Inv) mz [(.slice a n c),(.slice b m d),(iA m),(.int .u64 kk),(.slice a21 n22 c23),(.slice e en ec)] g25) (xR (bM SS.P 150 (.int .i64 (wrap .i64 ((rn:Int)-(m:Int)))) (.int .i64 (wrap .i64 ((rn:Int)-(m:Int))))) h λB26 n27 c28 g29=>LL SS bj [1,1,1,1,1,1,1,0,1,0,0] (e7 a n c b m d kk (some ⟨h.next,0,none⟩) n27 c28 r rn rc e en ec (n27:Int) 0) g29 (KK SS bj [1,1,1,1,1,1,1,0,1,0] [] (EE SS bj Q))))(mz:Nat){r:OA}{rn rc:Nat}{h:aa}(hi:Inv mz r rn rc h):LL SS bj [1,1,1,1,1,0,0,0] (eZ a n c b m d kk e en ec r rn rc) h (KK SS bj [1,1,1,1,1,0,0] [] (EE SS bj Q)):=
 Jy (eZ a n c b m d kk e en ec) Inv (λmz r rn rc zz h hi=>az (step mz r rn rc zz h hi)) mz hi
theorem mM(a:OA)(n c:Nat)(b:OA)(m d:Nat)(kk:Int)(g:OA)(gn gc:Nat)(r:OA)(rn rc:Nat)(e:OA)(en ec:Nat)(lim:Int)(Inv:Nat->Nat->aa->Prop)(Q:VH)(step:∀(mz:Nat) (i:Nat) (zz:Nat->Value) (h:aa),Inv mz i h->aZ (decide (((i:Int):Int)<lim)) (xL (cA SS.P 150 (.slice r rn rc) (some (.int .i64 (wrap .i64 (wrap .i64 ((gn:Int)-1)-(i:Int))))) (some (.int .i64 (wrap .i64 (wrap .i64 (wrap .i64 (wrap .i64 ((gn:Int)-1)-(i:Int))+(m:Int))+1)))) none h) λa30 n31 c32=>FW SS 191 [(.slice a30 n31 c32),(.slice e en ec)] h λv33 h34=>yI .u64 v33 λn35=>xP (af SS.P 150 (.slice g gn gc) (.int .i64 (wrap .i64 (wrap .i64 ((gn:Int)-1)-(i:Int))))) λp36=>xU (an SS.P 117 (.pointer (some p36)) (.int .u64 n35) h34) h34 λu37 g38=>ba (lZ (e7 a n c b m d kk g gn gc r rn rc e en ec lim) Inv) mz [(.slice a n c),(.slice b m d),(.slice g gn gc),(iA m),(.int .u64 kk),(.slice r rn rc),(.slice e en ec),(.int .i64 lim),(.int .i64 (wrap .i64 ((i:Int)+1)))] g38) (FW SS 139 [(.slice r rn rc)] h λv39 h40=>yL v39 λa41 n42 c43=>LL SS bj [1,1,1,1,1,1,1,1,1,1,0,1,0,0] (e8 kk g gn gc a41 n42 c43 (n42:Int) 0 0) h40 (KK SS bj [1,1,1,1,1,1,1,1,1,1,0,1,0] [] (EE SS bj Q))))(mz:Nat){i:Nat}{h:aa}(hi:Inv mz i h):LL SS bj [1,1,1,1,1,1,1,0,1,0,0] (e7 a n c b m d kk g gn gc r rn rc e en ec lim i) h (KK SS bj [1,1,1,1,1,1,1,0,1,0] [] (EE SS bj Q)):=
 gH (e7 a n c b m d kk g gn gc r rn rc e en ec lim) Inv (λmz i zz h hi=>az (step mz i zz h hi)) mz hi
theorem mN(a:OA)(n c:Nat)(b:OA)(m d:Nat)(kk:Int)(g:OA)(gn gc:Nat)(r:OA)(rn rc:Nat)(lim:Int)(Inv:Nat->Nat->Int->aa->Prop)(Q:VH)(step:∀(mz:Nat) (i:Nat) (left:Int) (zz:Nat->Value) (h:aa),Inv mz i left h->aZ (decide (((i:Int):Int)<lim)) (xP (af SS.P 150 (.slice r rn rc) (.int .i64 (wrap .i64 (wrap .i64 ((rn:Int)-1)-(i:Int))))) λp44=>xI .u64 (ag SS.P 117 h (.pointer (some p44))) λn45=>xI .u64 (aq SS.P .quo 117 (.int .u64 (wrap .u64 (wrap .u64 (left*1000000000)+n45))) (.int .u64 kk)) λn46=>xI .u64 (aq SS.P .rem 117 (.int .u64 (wrap .u64 (wrap .u64 (left*1000000000)+n45))) (.int .u64 kk)) λn47=>xP (af SS.P 150 (.slice r rn rc) (.int .i64 (wrap .i64 (wrap .i64 ((rn:Int)-1)-(i:Int))))) λp48=>xU (an SS.P 117 (.pointer (some p48)) (.int .u64 n46) (room h 11)) (room h 11) λu49 g50=>ba (zE (e8 kk g gn gc r rn rc lim) Inv) mz [(.slice g gn gc),(.slice r rn rc),(.int .u64 kk),(.int .u64 n47),(.int .i64 lim),(.int .i64 (wrap .i64 ((i:Int)+1)))] g50) (FW SS 139 [(.slice g gn gc)] h λv51 h52=>yL v51 λa53 n54 c55=>FW SS 139 [(.slice r rn rc)] h52 λv56 h57=>yL v56 λa58 n59 c60=>Q (.tuple ⟨[(.slice a53 n54 c55),(.slice a58 n59 c60)]⟩) h57))(mz:Nat){i:Nat}{left:Int}{h:aa}(hi:Inv mz i left h):LL SS bj [1,1,1,1,1,1,1,1,1,1,0,1,0,0] (e8 kk g gn gc r rn rc lim i left) h (KK SS bj [1,1,1,1,1,1,1,1,1,1,0,1,0] [] (EE SS bj Q)):=
 uS (e8 kk g gn gc r rn rc lim) Inv (λmz i left zz h hi=>az (step mz i left zz h hi)) mz hi
section
def bn(cs:List Value)(off:Nat)(W:List Nat):List Value:=cs.take off++W.map uv++cs.drop (off+W.length)
structure zY(h:aa)(k:Nat)(h':aa):Prop where
 wf:Wf h'
 dQ:∀j B,j≠k->h.get j=some B->h'.get j=some B
 nx:h.next<=h'.next
theorem zY.refl{h:aa}{k:Nat}(w:Wf h):zY h k h:=⟨w,λ_ _ _ h=>h,Nat.le_refl _⟩
theorem zY.room{h h':aa}{k:Nat}(o:zY h k h')(n:Nat):zY h k (room h' n):=⟨λj B hj=>lt_of_lt_of_le (o.wf j B hj) (Nat.le_add_right _ _),o.dQ,Nat.le_trans o.nx (Nat.le_add_right _ _)⟩
theorem zY.set{h h':aa}{k:Nat}(o:zY h k h')(hk:k<h'.next)(B:bt):zY h k (h'.set k B):=by
 refine⟨λj C hj=>?_,λj C hjk hj=>?_,o.nx⟩
 ·rw[aa.aR]at hj;split at hj
  ·next e=>rw[e];exact hk
  ·exact o.wf _ _ hj
 ·rw[aa.aR,if_neg hjk];exact o.dQ _ _ hjk hj
theorem pE{k off n c:Nat}{i:Int}(h0:0<=i)(h1:i<n):af SS.P 150 (.slice (some ⟨k,off,none⟩) n c) (.int .i64 i)=some (.pointer (some ⟨k,off+i.toNat,none⟩)):=by
 unfold af;rw[rI];dsimp only;rw[vu];dsimp only;rw[if_pos ⟨h0,h1⟩,mul_one,bZ]
section
variable {g:aa} {k off:Nat} {cs:List Value} {W:List Nat}
theorem ud(hg:g.get k=some (.cells (bn cs off W) 117 1 true))(hl:off+W.length<=cs.length){i:Nat}(hi:i<W.length):ag SS.P 117 g (.pointer (some ⟨k,off+i,none⟩))=some (.int .u64 (W.getD i 0:Nat)):=by
 unfold ag;rw[Fh];dsimp only;rw[hg];dsimp only;rw[Ep];simp only[Bool.false_eq_true,if_false];unfold bn;rw[append_assoc,List.getElem?_append_right (by rw[length_take];omega),length_take,min_eq_left (by omega),Nat.add_sub_cancel_left,List.getElem?_append_left (by rw[lM];exact hi),List.getElem?_map,gE hi,gD,gE hi];rfl
theorem uX(hg:g.get k=some (.cells (bn cs off W) 117 1 true))(hl:off+W.length<=cs.length){i:Nat}(hi:i<W.length)(d:Nat):an SS.P 117 (.pointer (some ⟨k,off+i,none⟩)) (.int .u64 (d:Int)) g=some (undef,.set k (.cells (bn cs off (W.set i d)) 117 1 true)):=by
 show(if aw SS.P 117=some 1 then(storeAt g k (off+i) [.int .u64 (d:Int)]).map λu=>(undef,u)else none)=_;rw[if_pos vu];unfold storeAt;rw[hg];dsimp only;have hlen:(bn cs off W).length=cs.length:=by
  unfold bn;simp only[length_append,length_take,lM,length_drop];omega
 rw[if_pos ⟨by rw[hlen];simp;omega,rfl⟩];have e:(bn cs off W).take (off+i)++[Value.int .u64 (d:Int)]++(bn cs off W).drop (off+i+[Value.int .u64 (d:Int)].length)=bn cs off (W.set i d):=by
  have ht:(cs.take off).length=off:=by rw[length_take];omega
  have e0:(bn cs off W).take (off+i)++[Value.int .u64 (d:Int)]++(bn cs off W).drop (off+i+[Value.int .u64 (d:Int)].length)=(bn cs off W).set (off+i) (.int .u64 (d:Int)):=by
   rw[List.set_eq_take_append_cons_drop,if_pos (by rw[hlen];omega),append_assoc];rfl
  rw[e0];unfold bn;rw[append_assoc,set_append,if_neg (by omega),ht,Nat.add_sub_cancel_left,set_append,if_pos (by rw[lM];exact hi),length_set,append_assoc,List.map_set];rfl
 rw[e];rfl
end
end
theorem uO{a:Nat}:aq SS.P .rem 117 (.int .u64 (a:Int)) (.int .u64 1000000000)=some (.int .u64 ((a%BB:Nat):Int)):=by
 have:=dL (P:=SS.P) (t:=117) (k:= .u64) (a:=(a:Int)) (b:=BB) (by omega) (by decide);rw[<-Int.natCast_emod]at this;exact this
theorem xe{a:Nat}(h:a<18446744073709551616):aq SS.P .quo 117 (.int .u64 (a:Int)) (.int .u64 1000000000)=some (.int .u64 ((a/BB:Nat):Int)):=by
 have:=jV (P:=SS.P) (t:=117) (a:=(a:Int)) (b:=BB) (by omega) (by omega) (by decide);rw[<-Int.natCast_ediv]at this;exact this
theorem MY{a b:Nat}(hb:0<b):aq SS.P .rem 117 (.int .u64 (a:Int)) (.int .u64 (b:Int))=some (.int .u64 ((a%b:Nat):Int)):=by
 have:=dL (P:=SS.P) (t:=117) (k:= .u64) (a:=(a:Int)) (b:=b) (by omega) hb;rw[<-Int.natCast_emod]at this;exact this
theorem Jo{a b:Nat}(h:a<18446744073709551616)(hb:0<b):aq SS.P .quo 117 (.int .u64 (a:Int)) (.int .u64 (b:Int))=some (.int .u64 ((a/b:Nat):Int)):=by
 have:=jV (P:=SS.P) (t:=117) (a:=(a:Int)) (b:=b) (by omega) (by omega) hb;rw[<-Int.natCast_ediv]at this;exact this
theorem wU{n:Int}{m:Nat}(h:n=(m:Int))(h2:m<18446744073709551616):wrap .u64 n=(m:Int):=by rw[h];exact dM (by omega) (by omega)
structure MC(h:aa)(k off c m:Nat)(cs:List Value)(U V:List Nat)(b:Option Addr)(d:Nat):Prop where
 w:Wf h
 get:h.get k=some (.cells (bn cs off U) 117 1 true)
 fit:off+U.length<=cs.length
 ul:U.length=m+1
 vl:V.length=m
 mp:0<m
 TV:m<=10000
 ult:∀x∈U,x<BB
 PG:∀x∈V,x<BB
 v1:0<V.getD (m-1) 0
 lt:Num.bv BB U<BB*Num.bv BB V
 rd:∀g,zY h k g->Rd g 117 (.slice b m d) (V.map uv)
def xV(h:aa)(k off:Nat)(cs:List Value)(m:Nat)(U V:List Nat):VH:=λv h'=>∃W:List Nat,W.length=m+1/\(∀x∈W,x<BB)/\Num.bv BB W=Num.bv BB U%Num.bv BB V/\v=uv (Num.bv BB U/Num.bv BB V)/\h'.get k=some (.cells (bn cs off W) 117 1 true)/\zY h k h'
theorem Bh{h:aa}{k off c m:Nat}{cs:List Value}{U V:List Nat}{b:Option Addr}{d:Nat}(D:MC h k off c m cs U V b d):
  FW SS 191 [.slice (some ⟨k,off,none⟩) (m+1) c,.slice b m d] h (xV h k off cs m U V):=by
 have hBv:BB=1000000000:=rfl;have hul:=D.ul;have hvl:=D.vl;have hmp:=D.mp;have hmle:=D.TV;have hB0:0<BB:=by decide
 have ug:∀i,U.getD i 0<BB:=λi=>aS hB0 D.ult i;have vg:∀i,V.getD i 0<BB:=λi=>aS hB0 D.PG i;have hw1:wrap .i64 ((m:Int)-1)=((m-1:Nat):Int):=by rw[aB (by omega) (by omega)];omega
 have hw2:1<m->wrap .i64 ((m:Int)-2)=((m-2:Nat):Int):=λhm=>by rw[aB (by omega) (by omega)];omega
 have hwm:wrap .i64 ((m:Int)+1)=(m:Int)+1:=aB (by omega) (by omega);have wi:∀i:Nat,i<=m->wrap .i64 ((i:Int)+1)=((i+1:Nat):Int):=λi hi=>by rw[aB (by omega) (by omega)];omega
 have L3:=λ(qn:Nat) (W:List Nat) (hq0:0<qn) (hqB:qn<BB) (hwl:W.length=m+1) (hwlt:∀x∈W,x<BB) (hq:qn-1=Num.bv BB U/Num.bv BB V) (hres:Num.bv BB (aU (aD BB) W V 0 (m+1) 0)=Num.bv BB U%Num.bv BB V)=>
  nD (some ⟨k,off,none⟩) (m+1) c b m d (qn:Int) ((m:Int)+1) (λmz i cy g=>i<=m+1/\mz=m+1-i/\cy=(dx (aD BB) W V 0 0 i:Nat)/\g.get k=some (.cells (bn cs off (aU (aD BB) W V 0 i 0++W.drop i)) 117 1 true)/\zY h k g) (xV h k off cs m U V) (by
  intro mz i cy;intros;rename_i g hi;obtain⟨h1,h2,rfl,hg,ok⟩:=hi;have hel:(aU (aD BB) W V 0 i 0).length=i:=fb _ _ _ _ _ _;have hsn:=gi (aD BB) W V i 0 0;rw[zero_add]at hsn;have hcr1:dx (aD BB) W V 0 0 (i+1)=(aD BB (W.getD i 0) (V.getD i 0) (dx (aD BB) W V 0 0 i)).2:=by
   show(aD BB (W.getD (0+i) 0) (V.getD (0+i) 0) _).2=_;rw[zero_add]
  have wg:W.getD i 0<BB:=aS hB0 hwlt i;have hcb:dx (aD BB) W V 0 0 i<=1:=by
   clear hcr1 hsn hel hg h2 h1
   induction i with
   |zero=>exact Nat.zero_le _
   |succ j ih=>
    have a1:=aS (b:=BB) hB0 hwlt (0+j);have a2:=vg (0+j);have a3:=ih (aS hB0 hwlt j);show(W.getD (0+j) 0+V.getD (0+j) 0+dx (aD BB) W V 0 0 j)/BB<=1;have:(W.getD (0+j) 0+V.getD (0+j) 0+dx (aD BB) W V 0 0 j)/BB<2:=div_lt_of_lt_mul (by omega);omega
  have hvi:=vg i;have hlen:(aU (aD BB) W V 0 i 0++W.drop i).length=m+1:=by rw[length_append,hel,length_drop];omega
  have hfit:=D.fit;refine ae (λh5=>?_) (λh5=>?_)
  ·have h5:=dT h5;have hl:=ud hg (by rw[hlen];omega) (i:=i) (by rw[hlen];omega);rw[o7 _ _ hel]at hl;have hkn:=ok.wf _ _ hg;have step:∀(s:Nat),s=W.getD i 0+V.getD i 0+dx (aD BB) W V 0 0 i->
     an SS.P 117 (.pointer (some ⟨k,off+i,none⟩)) (.int .u64 ((s%BB:Nat):Int)) g=some (undef,.set k (.cells (bn cs off (aU (aD BB) W V 0 (i+1) 0++W.drop (i+1))) 117 1 true)):=λs hs=>by
    rw[uX hg (by rw[hlen];omega) (by rw[hlen];omega),q7 _ _ hel (by omega),hsn,hs];rfl
   refine⟨_,pE (by omega) (by omega),_,by rw[toNat_natCast];exact hl,?_⟩;have e1:wrap .u64 (((W.getD i 0:Nat):Int)+((dx (aD BB) W V 0 0 i:Nat):Int))=((W.getD i 0+dx (aD BB) W V 0 0 i:Nat):Int):=wU (by omega) (by omega);dsimp only;rw[e1,wi i (by omega)];refine ae (λh6=>?_) (λh6=>?_)
   ·have h6:=dT h6;obtain⟨p,g2,g3⟩:=wz (D.rd g ok) (i:=(i:Int)) (by omega) (by omega);rw[toNat_natCast]at g3;refine⟨p,g2,_,g3,?_⟩;have e2:wrap .u64 (((W.getD i 0+dx (aD BB) W V 0 0 i:Nat):Int)+((V.getD i 0:Nat):Int))=((W.getD i 0+V.getD i 0+dx (aD BB) W V 0 0 i:Nat):Int):=wU (by omega) (by omega);dsimp only;rw[e2];refine⟨_,uO,_,xe (by omega),_,pE (by omega) (by omega),_,by rw[toNat_natCast];exact step _ rfl,?_⟩;refine lT (mz-1) (by omega) ⟨by omega,by omega,by rw[hcr1];rfl,?_,ok.set hkn _⟩;show(g.set k _).get k=_;rw[aa.aR,if_pos rfl]
   ·have h6:=dF h6;have hv0:V.getD i 0=0:=by rw[gD,getElem?_eq_none (by omega)];rfl
    refine⟨_,uO,_,xe (by omega),_,pE (by omega) (by omega),_,by rw[toNat_natCast];exact step _ (by omega),?_⟩;refine lT (mz-1) (by omega) ⟨by omega,by omega,?_,?_,ok.set hkn _⟩
    ·rw[hcr1];show _=(((W.getD i 0+V.getD i 0+dx (aD BB) W V 0 0 i)/BB:Nat):Int);rw[hv0,add_zero]
    ·show(g.set k _).get k=_;rw[aa.aR,if_pos rfl]
  ·have h5:=dF h5;obtain rfl:i=m+1:=by omega
   have e3:wrap .u64 ((qn:Int)-1)=((qn-1:Nat):Int):=wU (by omega) (by omega);rw[e3];rw[drop_of_length_le (by omega),List.append_nil]at hg;exact⟨_,hel,gL (λp q c=>mod_lt _ hB0) _ _ _ _ _,hres,by rw[hq];rfl,hg,ok⟩)
 have L2:=λ(qn:Nat) (hqB:qn<BB) (hhi:Num.bv BB U<(qn+1)*Num.bv BB V) (hlo:qn*Num.bv BB V<Num.bv BB U+Num.bv BB V)=>
  nC (some ⟨k,off,none⟩) (m+1) c b m d (qn:Int) ((m:Int)+1) (λmz i bo cy g=>i<=m+1/\mz=m+1-i/\bo=((aW BB qn U V 0 i 0 0).2.1:Nat)/\cy=((aW BB qn U V 0 i 0 0).2.2:Nat)/\g.get k=some (.cells (bn cs off ((aW BB qn U V 0 i 0 0).1++U.drop i)) 117 1 true)/\zY h k g) (xV h k off cs m U V) (by
  intro mz i bo cy;intros;rename_i g hi;obtain⟨h1,h2,rfl,rfl,hg,ok⟩:=hi;have hel:(aW BB qn U V 0 i 0 0).1.length=i:=kC _ _ _ _ _ _ _ _;have hsn:=mi BB qn U V i 0 0 0;rw[zero_add]at hsn;have hbo:=vA (q:=qn) (v:=V) dK D.ult i;have hcy:=lN dK hqB (u:=U) D.PG i;generalize hst:aW BB qn U V 0 i 0 0=st at*;obtain⟨Wl,bo,cy⟩:=st;dsimp only at hel hg hbo hcy hsn⊢;have hlen:(Wl++U.drop i).length=m+1:=by rw[length_append,hel,length_drop];omega
  have hfit:=D.fit;have hui:=ug i;have hvi:=vg i;have hqv:qn*V.getD i 0<=999999999*999999999:=mul_le_mul (by omega) (by omega);refine ae (λh5=>?_) (λh5=>?_)
  ·have h5:=dT h5;have hl:=ud hg (by rw[hlen];omega) (i:=i) (by rw[hlen];omega);rw[o7 _ _ hel]at hl;have hkn:=ok.wf _ _ hg;have step:∀(s:Nat),s=qn*V.getD i 0+cy->
     an SS.P 117 (.pointer (some ⟨k,off+i,none⟩)) (.int .u64 (((U.getD i 0+BB-s%BB-bo)%BB:Nat):Int)) g=some (undef,.set k (.cells (bn cs off ((aW BB qn U V 0 (i+1) 0 0).1++U.drop (i+1))) 117 1 true)):=λs hs=>by
    rw[uX hg (by rw[hlen];omega) (by rw[hlen];omega),q7 _ _ hel (by omega),hsn,hs];rfl
   have rest:∀(s:Nat),s=qn*V.getD i 0+cy->∀(p21:Addr),p21=⟨k,off+i,none⟩->
     ∃n23:Int,aq SS.P .rem 117 (.int .u64 (s:Int)) (.int .u64 1000000000)=some (.int .u64 n23)/\n23=((s%BB:Nat):Int):=λs _ _ _=>⟨_,uO,rfl⟩
   rw[wi i (by omega)];have fin:∀(s:Nat),s=qn*V.getD i 0+cy->((1-(U.getD i 0+BB-s%BB-bo)/BB:Nat):Int)=((aW BB qn U V 0 (i+1) 0 0).2.1:Nat)/\((s/BB:Nat):Int)=((aW BB qn U V 0 (i+1) 0 0).2.2:Nat):=λs hs=>by
    rw[hsn,hs];exact⟨rfl,rfl⟩
   have ed:∀s:Nat,wrap .u64 (wrap .u64 (wrap .u64 (((U.getD i 0:Nat):Int)+1000000000)-((s%BB:Nat):Int))-(bo:Int))=((U.getD i 0+BB-s%BB-bo:Nat):Int):=λs=>by
    have hm:=mod_lt s hB0;generalize s%BB=z at hm;have a1:wrap .u64 (((U.getD i 0:Nat):Int)+1000000000)=((U.getD i 0+BB:Nat):Int):=wU (by omega) (by omega);have a2:wrap .u64 (((U.getD i 0+BB:Nat):Int)-(z:Int))=((U.getD i 0+BB-z:Nat):Int):=wU (by omega) (by omega);have a3:wrap .u64 (((U.getD i 0+BB-z:Nat):Int)-(bo:Int))=((U.getD i 0+BB-z-bo:Nat):Int):=wU (by omega) (by omega);rw[a1,a2,a3]
   have e1b:∀s:Nat,wrap .u64 (1-(((U.getD i 0+BB-s%BB-bo)/BB:Nat):Int))=((1-(U.getD i 0+BB-s%BB-bo)/BB:Nat):Int):=λs=>by
    have h9:(U.getD i 0+BB-s%BB-bo)/BB<2:=div_lt_of_lt_mul (by omega);generalize (U.getD i 0+BB-s%BB-bo)/BB=z at h9⊢;exact wU (by omega) (by omega)
   refine ae (λh6=>?_) (λh6=>?_)
   ·have h6:=dT h6;obtain⟨p,g2,g3⟩:=wz (D.rd g ok) (i:=(i:Int)) (by omega) (by omega);rw[toNat_natCast]at g3;refine⟨p,g2,_,g3,_,pE (by omega) (by omega),_,by rw[toNat_natCast];exact hl,?_⟩;have e2:wrap .u64 ((cy:Int)+wrap .u64 ((qn:Int)*((V.getD i 0:Nat):Int)))=((qn*V.getD i 0+cy:Nat):Int):=by
     have e0:wrap .u64 ((qn:Int)*((V.getD i 0:Nat):Int))=((qn*V.getD i 0:Nat):Int):=wU (by rw[Int.natCast_mul]) (by omega);rw[e0];exact wU (by omega) (by omega)
    rw[e2];refine⟨_,uO,?_⟩;dsimp only;rw[ed];have hm:=mod_lt (qn*V.getD i 0+cy) hB0;refine⟨_,uO,_,xe (by omega),_,xe (by omega),_,pE (by omega) (by omega),_,by rw[toNat_natCast];exact step _ rfl,?_⟩;rw[e1b];refine AV (mz-1) (by omega) ⟨by omega,by omega,(fin _ rfl).1,(fin _ rfl).2,?_,ok.set hkn _⟩;show(g.set k _).get k=_;rw[aa.aR,if_pos rfl]
   ·have h6:=dF h6;have hv0:V.getD i 0=0:=by rw[gD,getElem?_eq_none (by omega)];rfl
    have hs0:cy=qn*V.getD i 0+cy:=by rw[hv0,mul_zero,zero_add]
    refine⟨_,pE (by omega) (by omega),_,by rw[toNat_natCast];exact hl,_,uO,?_⟩;dsimp only;rw[ed];have hm:=mod_lt cy hB0;refine⟨_,uO,_,xe (by omega),_,xe (by omega),_,pE (by omega) (by omega),_,by rw[toNat_natCast];exact step _ hs0,?_⟩;rw[e1b];refine AV (mz-1) (by omega) ⟨by omega,by omega,(fin _ hs0).1,(fin _ hs0).2,?_,ok.set hkn _⟩;show(g.set k _).get k=_;rw[aa.aR,if_pos rfl]
  ·have h5:=dF h5;obtain rfl:i=m+1:=by omega
   obtain⟨d0,d1,d2⟩:=xY dK D.ult D.PG D.ul D.vl hqB hhi hlo;have hwlt:=na (q:=qn) dK U V (m+1) 0 0 0;rw[hst]at d0 d1 d2 hwlt;dsimp only at d0 d1 d2 hwlt;rw[drop_of_length_le (by omega),List.append_nil]at hg;refine ae (λh6=>?_) (λh6=>?_)
   ·have h6:(bo:Int)=0:=by simpa using h6
    obtain⟨e1,e2⟩:=d1 (by omega);exact⟨Wl,hel,hwlt,e2,by rw[e1];rfl,hg,ok⟩
   ·have h6:¬(bo:Int)=0:=by simpa using h6
    obtain⟨e0,e1,e2⟩:=d2 (by omega);rw[hwm];exact L3 qn Wl e0 hqB hel hwlt e1 e2 (m+1) (i:=0) ⟨by omega,by omega,rfl,by simpa[aU]using hg,ok⟩)
 have hv1:=D.v1;have htop:U.getD m 0*BB+U.getD (m-1) 0<1000000000000000000:=by
  have a1:=ug m;have a2:=ug (m-1);have a3:U.getD m 0*BB=1000000000*U.getD m 0:=by rw[hBv,mul_comm]
  omega
 have L1:=nB (some ⟨k,off,none⟩) (m+1) c b m d (λmz q rest g=>∃qn rn:Nat,q=(qn:Int)/\rest=(rn:Int)/\mz=qn/\ef BB m U V qn rn/\g.get k=some (.cells (bn cs off U) 117 1 true)/\zY h k g) (xV h k off cs m U V) (by
  intro mz q rest;intros;rename_i g hi;obtain⟨qn,rn,rfl,rfl,rfl,T,hg,ok⟩:=hi;have hT:=T.eq;have hfit:=D.fit;have hrl:rn<1000000000000000000:=Nat.lt_of_le_of_lt (by rw[<-hT];omega) htop;have hql:mz<1000000000000000000:=by
   refine Nat.lt_of_le_of_lt ?_ htop;rw[<-hT];have:=Nat.le_mul_of_pos_right mz hv1;omega
  have ok':=ok.room 28;have hg':(room g 28).get k=some (.cells (bn cs off U) 117 1 true):=hg;have hv1B:=vg (m-1);have hj:((m-1:Nat):Int).toNat=m-1:=by omega
  obtain⟨p1,g2,g3⟩:=wz (D.rd _ ok') (i:=((m-1:Nat):Int)) (by omega) (by omega);rw[hj]at g3;have er:wrap .u64 ((rn:Int)+((V.getD (m-1) 0:Nat):Int))=((rn+V.getD (m-1) 0:Nat):Int):=wU (by omega) (by omega);have leave:∀(qn':Nat),qn'<BB->Num.bv BB U<(qn'+1)*Num.bv BB V->qn'*Num.bv BB V<Num.bv BB U+Num.bv BB V->_:=λqn' h1 h2 h3=>L2 qn' h1 h2 h3;have low:Num.bv BB U<mz*Num.bv BB V->0<mz/\ef BB m U V (mz-1) (rn+V.getD (m-1) 0):=λhl=>⟨by
   rcases eq_zero_or_pos mz with e|e
   ·subst e;rw[zero_mul]at hl;omega
   ·exact e,T.lower hl⟩
  have broke:mz-1<BB->BB<=rn+V.getD (m-1) 0->ef BB m U V (mz-1) (rn+V.getD (m-1) 0)->(mz-1)*Num.bv BB V<Num.bv BB U+Num.bv BB V:=λh1 h2 T'=>
   T'.last dK D.ul D.vl hmp D.PG hv1 h1 λ_=>nL h1 (vg (m-2)) h2
  have body:Num.bv BB U<mz*Num.bv BB V->True:=λ_=>trivial;rw[hw1];refine ae (λh5=>?_) (λh5=>?_)
  ·have h5:=dT h5;obtain⟨hq0,T'⟩:=low (ef.Qu D.lt (by omega));have eq1:wrap .u64 ((mz:Int)-1)=((mz-1:Nat):Int):=wU (by omega) (by omega);rw[eq1];refine⟨p1,g2,_,g3,?_⟩;dsimp only;rw[er];generalize hzz:decide (((mz-1:Nat):Int)<1000000000)=bz;refine ae (λh6=>ae (λh7=>?_) (λh7=>?_)) (λh6=>?_)
   ·subst hzz;have h6:=dT h6;have h7:=dT h7;rw[hwm];exact L2 (mz-1) (by omega) T'.hi (broke (by omega) (by omega) T') (m+1) (i:=0) ⟨by omega,by omega,rfl,rfl,by simpa[aW]using hg',ok'⟩
   ·exact lT (mz-1) (by omega) ⟨mz-1,_,rfl,rfl,rfl,T',hg',ok'⟩
   ·exact lT (mz-1) (by omega) ⟨mz-1,_,rfl,rfl,rfl,T',hg',ok'⟩
  ·have h5:=dF h5;have hqB:mz<BB:=by omega
   have done:(1<m->mz*V.getD (m-2) 0<=rn*BB+U.getD (m-2) 0)->mz*Num.bv BB V<Num.bv BB U+Num.bv BB V:=λhs=>T.last dK D.ul D.vl hmp D.PG hv1 hqB hs;refine ae (λh6=>?_) (λh6=>?_)
   ·have h6:=dT h6;have hm1:1<m:=by omega
    rw[hw2 hm1];generalize hzz:decide ((rn:Int)<1000000000)=bz;refine ae (λh7=>?_) (λh7=>?_)
    ·subst hzz;have h7:=dT h7;have hj2:((m-2:Nat):Int).toNat=m-2:=by omega
     obtain⟨p2,g4,g5⟩:=wz (D.rd _ ok') (i:=((m-2:Nat):Int)) (by omega) (by omega);rw[hj2]at g5;have hl:=ud hg' hfit (i:=m-2) (by omega);refine⟨p2,g4,_,g5,_,pE (by omega) (by omega),_,by rw[hj2];exact hl,?_⟩;have hv2:=vg (m-2);have hu2:=ug (m-2);have hqv:mz*V.getD (m-2) 0<=999999999*999999999:=mul_le_mul (by omega) (by omega);have ea:wrap .u64 ((mz:Int)*((V.getD (m-2) 0:Nat):Int))=((mz*V.getD (m-2) 0:Nat):Int):=wU (by rw[Int.natCast_mul]) (by omega);obtain⟨RB,hRB⟩:∃x,x=rn*BB:=⟨_,rfl⟩
     have hRB':RB=1000000000*rn:=by rw[hRB,hBv,mul_comm]
     obtain⟨MV,hMV⟩:∃x,x=mz*V.getD (m-2) 0:=⟨_,rfl⟩
     rw[<-hMV]at hqv ea;have eb:wrap .u64 ((rn:Int)*1000000000)=(RB:Int):=wU (by omega) (by omega);have ec:wrap .u64 ((RB:Int)+((U.getD (m-2) 0:Nat):Int))=((RB+U.getD (m-2) 0:Nat):Int):=wU (by omega) (by omega);dsimp only;rw[ea,eb,ec];generalize hyy:decide ((MV:Int)>((RB+U.getD (m-2) 0:Nat):Int))=by_;refine ae (λh8=>?_) (λh8=>?_)
     ·subst hyy;have h8:=dT h8;obtain⟨hq0,T'⟩:=low (T.second D.ul D.vl hm1 D.ult (by rw[<-hRB,<-hMV];omega));have eq1:wrap .u64 ((mz:Int)-1)=((mz-1:Nat):Int):=wU (by omega) (by omega);rw[eq1];refine⟨p1,g2,_,g3,?_⟩;dsimp only;rw[er];generalize hxx:decide (((mz-1:Nat):Int)<1000000000)=bx;refine ae (λh9=>ae (λh10=>?_) (λh10=>?_)) (λh9=>?_)
      ·have h9:=dT h9;rw[hwm];exact L2 (mz-1) (by omega) T'.hi (broke (by omega) (by omega) T') (m+1) (i:=0) ⟨by omega,by omega,rfl,rfl,by simpa[aW]using hg',ok'⟩
      ·exact lT (mz-1) (by omega) ⟨mz-1,_,rfl,rfl,rfl,T',hg',ok'⟩
      ·exact lT (mz-1) (by omega) ⟨mz-1,_,rfl,rfl,rfl,T',hg',ok'⟩
     ·subst hyy;have h8:=dF h8;rw[hwm];exact L2 mz hqB T.hi (done λ_=>by rw[<-hRB,<-hMV];omega) (m+1) (i:=0) ⟨by omega,by omega,rfl,rfl,by simpa[aW]using hg',ok'⟩
    ·subst hzz;have h7:=dF h7;rw[hwm];exact L2 mz hqB T.hi (done λ_=>nL hqB (vg (m-2)) (by omega)) (m+1) (i:=0) ⟨by omega,by omega,rfl,rfl,by simpa[aW]using hg',ok'⟩
   ·have h6:=dF h6;rw[hwm];exact L2 mz hqB T.hi (done λhm=>by omega) (m+1) (i:=0) ⟨by omega,by omega,rfl,rfl,by simpa[aW]using hg',ok'⟩)
 have ok1:=(zY.refl (k:=k) D.w).room 12;have ok2:=ok1.room 16;have hfit:=D.fit;have hj:((m-1:Nat):Int).toNat=m-1:=by omega
 have hl1:=ud (g:=room h 12) D.get hfit (i:=m) (by omega);have hl2:=ud (g:=room h 12) D.get hfit (i:=m-1) (by omega);obtain⟨p1,g2,g3⟩:=wz (D.rd _ ok2) (i:=((m-1:Nat):Int)) (by omega) (by omega);rw[hj]at g3;have a1:=ug m;have a2:=ug (m-1);refine Bg _ _ _ _ _ _ h _ ⟨_,pE (by omega) (by omega),_,by rw[toNat_natCast];exact hl1,?_⟩;rw[hw1];refine⟨_,pE (by omega) (by omega),_,by rw[hj];exact hl2,p1,g2,_,g3,?_⟩;obtain⟨TB,hTB⟩:∃x,x=U.getD m 0*BB:=⟨_,rfl⟩
 have hTB':TB=1000000000*U.getD m 0:=by rw[hTB,hBv,mul_comm]
 have ea:wrap .u64 (((U.getD m 0:Nat):Int)*1000000000)=(TB:Int):=wU (by omega) (by omega);have eb:wrap .u64 ((TB:Int)+((U.getD (m-1) 0:Nat):Int))=((TB+U.getD (m-1) 0:Nat):Int):=wU (by omega) (by omega);rw[ea,eb];have hstart:=ef.start dK D.ul D.vl hmp D.ult hv1;rw[<-hTB]at hstart;refine⟨_,Jo (by omega) hv1,p1,g2,_,g3,_,MY hv1,?_⟩;exact L1 _ ⟨_,_,rfl,rfl,rfl,hstart,D.get,ok2⟩
end Go.Proofs.YtaheifbogkjpdaaGreatDoor
end
