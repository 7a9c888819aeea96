/- Laws and walks that the proof leans on (part 3): AbVc; AbLib; AbCut; AbLib2; AbLib3; AbRow and others. No condition. -/
import Derived.Test.YtaheifbogkjpdaaGreatDoorPart2
import Derived.Laws.Bits64
import Derived.ChangeArms
import Derived.DataElems
import Derived.Below
import Derived.ChangeSame
import Derived.Test.YtaheifbogkjpdaaGreatDoorProg
set_option linter.unusedVariables false
set_option linter.unusedSimpArgs false
set_option maxRecDepth 100000
open List (all_append all_cons all_eq_true all_nil append_assoc cons_append drop_eq_getElem_cons drop_eq_nil_of_le drop_zero eq_nil_of_length_eq_zero getElem?_eq_none getElem?_set getElem?_take getElem_mem length_append length_cons length_pos_iff length_replicate length_set length_take map_append mem_append mem_cons mem_cons_of_mem mem_cons_self mem_of_mem_take mem_singleton take_append_drop take_of_length_le)
open Nat (add_comm add_mul add_zero blt_eq div_eq_of_lt div_lt_of_lt_mul div_lt_self eq_zero_or_pos le_of_lt le_succ lt_of_lt_of_le lt_or_ge min_eq_left mod_add_div mod_eq_of_lt mod_lt mul_add mul_assoc mul_comm mul_le_mul mul_le_mul_left mul_le_mul_right mul_one mul_succ mul_zero one_mul pow_le_pow_right pow_succ succ_le_of_lt succ_mul zero_add zero_mul)
open Bool (and_eq_true)
open Go.IntKind (wrap)
section
namespace Go.Ab
open Go
noncomputable section
def aF(b:Bool)(A B:Prop):Prop:=Bool.rec (motive:=λ_=>Prop) B A b
theorem ae{b:Bool}{A B:Prop}(h1:b=true->A)(h2:b=false->B):aF b A B:=by
 cases b with
 |true=>exact h1 rfl
 |false=>exact h2 rfl
theorem tZ{b:Bool}{A B:Prop}(h:aF b A B):(b=true/\A)\/(b=false/\B):=by
 cases b with
 |true=>exact .inl ⟨rfl,h⟩
 |false=>exact .inr ⟨rfl,h⟩
abbrev TS:=List Value
abbrev eJ:=Exit->TS->aa->Prop
abbrev TH:=TS->aa->Prop
def fr(tm:TS):Fr:=λt=>tm.getD t undef
def Je(P:Program)(t:TypeId)(K:Value->Prop):Prop:=match P.underlying t with
 |some (.int k)=>∃n:Int,K (.int k n)
 |some .bool=>∃b:Bool,K (.bool b)
 |some .string=>∃l:List UInt8,K (strOf l)
 |some (.slice _)=>∃(a:Option Addr)(n c:Nat),K (.slice a n c)
 |some (.pointer _)=>∃a:Option Addr,K (.pointer a)
 |some (.struct _)=>∃cs:List Value,K (.agg ⟨cs⟩)
 |some (.array ..)=>∃cs:List Value,K (.agg ⟨cs⟩)
 |some (.func ..)=>∃(g:Nat)(a c:List Value),K (.func (.func g) ⟨a⟩ ⟨c⟩)
 |_=>∃v:Value,K v
def Uz(P:Program):List TypeId->(List Value->Prop)->Prop
 |[],K=>K []
 |t::ts,K=>Je P t λx=>Uz P ts λxs=>K (x::xs)
def E8(P:Program)(t:TypeId)(K:Value->Prop):Prop:=match P.underlying t with
 |some (.tuple ts)=>Uz P ts.toList λvs=>K (.tuple ⟨vs⟩)
 |_=>Je P t K
theorem yH{P:Program}{t:TypeId}{K:Value->Prop}(hx:Je P t K):∃v,K v:=by grind[Je]
theorem Ct{P:Program}:∀{ts:List TypeId}{K:List Value->Prop},Uz P ts K->∃vs,K vs
 |[],_,hx=>⟨_,hx⟩
 |t::ts,K,hx=>by
  obtain⟨x,h⟩:=yH hx;obtain⟨xs,h⟩:=Ct h
  grind
theorem nH{P:Program}{t:TypeId}{K:Value->Prop}(hx:E8 P t K):∃v,K v:=by
 unfold E8 at hx;split at hx
 ·obtain⟨_,h⟩:=Ct hx;grind
 ·exact yH hx
def E9(P:Program)(t:TypeId)(r:Option Value)(h:aa)(K:VH):Prop:=E8 P t λx=>r=some x/\K x h
def X5(r:Option Value)(h:aa)(K:VH):Prop:=∃a:Addr,r=some (.pointer (some a))/\K (.pointer (some a)) h
def Vr(r:Option (Value×cX))(h:aa)(K:VH):Prop:=∃v u,r=some (v,u)/\K v (u.app h)
def Xy(r:Option (Value×cX))(h:aa)(K:VH):Prop:=∃u,r=some (undef,u)/\K undef (u.app h)
def Y4(r:Option (Value×cX))(h:aa)(K:VH):Prop:=∃(a:Option Addr)(n c:Nat)(u:cX),r=some (.slice a n c,u)/\K (.slice a n c) (u.app h)
def Y2(r:Option (Value×cX))(h:aa)(K:VH):Prop:=∃(n:Int)(u:cX),r=some (.int .i64 n,u)/\K (.int .i64 n) (u.app h)
def nV(k:Nat):Value:= .pointer (some ⟨k,0,none⟩)
def my(n c k:Nat):Value:= .slice (some ⟨k,0,none⟩) n c
abbrev OA:Type:=Option Addr
abbrev LV:Type:=List Value
abbrev LB:Type:=List UInt8
abbrev uN(l:List Value)(k:Nat):List Value:=l++List.replicate k undef
abbrev pA(k:Nat):Value:= .pointer (some ⟨k,0,none⟩)
abbrev sA(k n c:Nat):Value:= .slice (some ⟨k,0,none⟩) n c
abbrev nA:Value:= .slice none 0 0
abbrev iA(n:Nat):Value:= .int .i64 (n:Int)
abbrev xI(k:IntKind)(r:Option Value)(K:Int->Prop):Prop:=∃n:Int,r=some (.int k n)/\K n
abbrev xB(r:Option Value)(K:Bool->Prop):Prop:=∃b:Bool,r=some (.bool b)/\K b
abbrev xS(r:Option Value)(K:List UInt8->Prop):Prop:=∃l:List UInt8,r=some (strOf l)/\K l
abbrev xL(r:Option Value)(K:Option Addr->Nat->Nat->Prop):Prop:=∃(a:Option Addr)(n c:Nat),r=some (.slice a n c)/\K a n c
abbrev xO(r:Option Value)(K:Option Addr->Prop):Prop:=∃a:Option Addr,r=some (.pointer a)/\K a
abbrev xP(r:Option Value)(K:Addr->Prop):Prop:=∃a:Addr,r=some (.pointer (some a))/\K a
abbrev xA(r:Option Value)(K:List Value->Prop):Prop:=∃cs:List Value,r=some (.agg ⟨cs⟩)/\K cs
abbrev xF(r:Option Value)(K:Nat->List Value->List Value->Prop):Prop:=∃(g:Nat)(a c:List Value),r=some (.func (.func g) ⟨a⟩ ⟨c⟩)/\K g a c
abbrev yI(k:IntKind)(r:Value)(K:Int->Prop):Prop:=∃n:Int,r = .int k n/\K n
abbrev yB(r:Value)(K:Bool->Prop):Prop:=∃b:Bool,r = .bool b/\K b
abbrev yS(r:Value)(K:List UInt8->Prop):Prop:=∃l:List UInt8,r=strOf l/\K l
abbrev yL(r:Value)(K:Option Addr->Nat->Nat->Prop):Prop:=∃(a:Option Addr)(n c:Nat),r = .slice a n c/\K a n c
abbrev yA(r:Value)(K:List Value->Prop):Prop:=∃cs:List Value,r = .agg ⟨cs⟩/\K cs
abbrev yV(r:Value)(K:Value->Prop):Prop:=∃v:Value,r=v/\K v
abbrev xU(r:Option (Value×cX))(h:aa)(K:cX->aa->Prop):Prop:=∃u:cX,r=some (undef,u)/\K u (u.app h)
abbrev xE(r:Option (Value×cX))(h:aa)(K:Option Addr->Nat->Nat->cX->aa->Prop):Prop:=∃(a:Option Addr)(n c:Nat)(u:cX),r=some (.slice a n c,u)/\K a n c u (u.app h)
abbrev xG(r:Option (Value×cX))(h:aa)(K:Value->cX->aa->Prop):Prop:=∃(v:Value)(u:cX),r=some (v,u)/\K v u (u.app h)
abbrev xN(r:Option (bO×(Nat->Value)))(h:aa)(K:bO->aa->Prop):Prop:=∃B:bO,r=some (B,nV)/\K B (h.push B)
abbrev xR(r:Option (bO×(Nat->Value)))(h:aa)(K:bO->Nat->Nat->aa->Prop):Prop:=∃(B:bO)(n c:Nat),r=some (B,my n c)/\K B n c (h.push B)
abbrev zR(r:Option (bO×(Nat->Value)))(K:bO->Nat->Nat->Prop):Prop:=∃(B:bO)(n c:Nat),r=some (B,my n c)/\K B n c
def X4(r:Option (bO×(Nat->Value)))(h:aa)(K:VH):Prop:=∃B,r=some (B,nV)/\K (nV h.next) (h.push B)
def X6(r:Option (bO×(Nat->Value)))(h:aa)(K:VH):Prop:=∃B n c,r=some (B,my n c)/\K (my n c h.next) (h.push B)
def Y3(r:Option (bO×(Nat->Value)))(h:aa)(K:VH):Prop:=∃B,r=some (B,λk=> .map (some k))/\K (.map (some h.next)) (h.push B)
def cq(P:Program)(t:TypeId):Option (bO×(Nat->Value)):=aS P (λ_=>undef) ⟨none,.alloc t,0,"",#[],none⟩
def jI(P:Program)(t:TypeId)(v:Value):Option (bO×(Nat->Value)):=aS P (λ_=>v) ⟨none,.box t (.tmp 0),0,"",#[],none⟩
def bL(P:Program)(t:TypeId)(l c:Value):Option (bO×(Nat->Value)):=aS P (λx=>match x with|.tmp 0=>l|_=>c) ⟨none,.makeSlice t (.tmp 0) (.tmp 1),0,"",#[],none⟩
def aI(P:Program)(t:TypeId)(len:Nat)(vs:List (Nat×Value)):Option (bO×(Nat->Value)):=
 aS P (λx=>match x with|.tmp i=>(vs.getD i (0,undef)).2|_=>undef) ⟨none,.buildSlice t len ((List.range vs.length).map λi=>((vs.getD i (0,undef)).1,.tmp i)).toArray,0,"",#[],none⟩
def NX(c a b:Value)(h:aa)(K:VH):Prop:=match c with
 |.bool t=>aF t (K a h) (K b h)
 |_=>False
def SE(P:Program)(op:BinOp)(t ty:TypeId)(x y:Value)(h:aa)(K:VH):Prop:=match op with
 |.quo|.rem|.shl|.shr=>E9 P ty (ay P op t x y) h K
 |.add=>(match x with|.string _=>E9 P ty (ay P .add t x y) h K|_=>q6 (ay P .add t x y) h K)
 |.eql=>(match x with|.pointer _=>E9 P ty (ay P .eql t x y) h K|.agg _=>E9 P ty (ay P .eql t x y) h K|_=>q6 (ay P .eql t x y) h K)
 |.neq=>(match x with|.pointer _=>E9 P ty (ay P .neq t x y) h K|.agg _=>E9 P ty (ay P .neq t x y) h K|_=>q6 (ay P .neq t x y) h K)
 |op=>q6 (ay P op t x y) h K
def Mz(S:Sx)(ty:TypeId)(f:Value)(args:List Value)(h:aa)(K:VH):Prop:=match f with
 |.func (.func g) first captured=>aF (Nat.blt g YB) (FW S g (first.toList++args++captured.toList) h λv h=>E8 S.P ty λx=>v=x/\K x h) False
 |.func (.yield k) ⟨[]⟩ ⟨[]⟩=>FW S (YB+k) args h λv h=>E8 S.P ty λx=>v=x/\K x h
 |_=>False
def w6(P:Program)(s d:TypeId)(x:Value)(h:aa):Option Value:=aY P (λ_=>x) ⟨none,.convert s d (.tmp 0),0,"",#[],none⟩ h
def Yd(t:Option TypeDesc):Bool:=match t with
 |some .unsafePointer=>true
 |_=>false
def nO(P:Program)(t:TypeId)(m k x:Value)(h:aa):Option (Value×cX):=match P.underlying t,m with
  |some (.map kt _),.map (some r)=>match h.get r with
   |some (.map es)=>if oM P kt k then(kP P kt k x es).map λes'=>(undef,.set r (.map es'))else none
   |_=>none
  |_,_=>none
def VN(P:Program)(t:TypeId)(m k:Value)(ok:Bool)(h:aa):Option Value:=aY P (λx=>match x with|.tmp 0=>m|_=>k) ⟨none,.lookup t (.tmp 0) (.tmp 1) ok,0,"",#[],none⟩ h
def zf(P:Program)(t:TypeId):Option (bO×(Nat->Value)):=aS P (λ_=>undef) ⟨none,.makeMap t none,0,"",#[],none⟩
def UK(S:Sx)(ρ:Operand->Value)(o:Oper)(h:aa)(K:VH):Prop:=match o.op with
 |.move x|.assign x=>K (ρ x) h
 |.pick c a b=>NX (ρ c) (ρ a) (ρ b) h K
 |.binOp op t x y _=>SE S.P op t o.type (ρ x) (ρ y) h K
 |.unOp op _ x=>q6 (Cv op (ρ x)) h K
 |.extract x i=>q6 (R4 (ρ x) i) h K
 |.index t x i=>E9 S.P o.type (bp S.P t (ρ x) (ρ i)) h K
 |.indexAddr t x i=>X5 (af S.P t (ρ x) (ρ i)) h K
 |.fieldAddr t x f=>X5 (ah S.P t (ρ x) f) h K
 |.field t x f=>E9 S.P o.type (Na S.P t (ρ x) f) h K
 |.load t a=>E9 S.P t (ai S.P t h (ρ a)) h K
 |.slice t x lo hi mx=>E9 S.P o.type (bt S.P t (ρ x) (lo.map ρ) (hi.map ρ) (mx.map ρ) h) h K
 |.store t a x=>Xy (aw S.P t (ρ a) (ρ x) h) h K
 |.alloc t=>X4 (cq S.P t) h K
 |.box t x=>X4 (jI S.P t (ρ x)) h K
 |.makeSlice t l c=>X6 (bL S.P t (ρ l) (ρ c)) h K
 |.buildSlice .. =>X6 (aS S.P ρ o) h K
 |.makeMap t r=>Y3 (match r with|none=>zf S.P t|some _=>aS S.P ρ o) h K
 |.mapUpdate t m k x=>Xy (nO S.P t (ρ m) (ρ k) (ρ x) h) h K
 |.insert t m k x=>Xy (nO S.P t (ρ m) (ρ k) (ρ x) h) h K
 |.lookup t m k ok=>E9 S.P o.type (VN S.P t (ρ m) (ρ k) ok h) h K
 |.convert s d x=>(match Yd (S.P.underlying s)with|true=>Vr (aV S.P fV ρ o h) h K|false=>(match ρ x with|.int _ _=>q6 (eL S.P s d (ρ x)) h K|.slice _ _ _=>E9 S.P o.type (w6 S.P s d (ρ x) h) h K|_=>Vr (aV S.P fV ρ o h) h K))
 |.build t parts=>E9 S.P o.type (cF S.P t (parts.toList.map λp=>(p.1,ρ p.2))) h K
 |.makeFunc ..|.makeInterface ..|.nilCheck ..|.typeAssert .. =>q6 (aT S.P ρ o) h K
 |.panic .. =>False
 |.call { callee:= .value f,args,.. }=>Mz S o.type (ρ f) (args.toList.map ρ) h K
 |.call { callee:= .builtin .len,args,argTypes }=>(match args.toList,argTypes.toList with|[x],[t]=>(match ρ x with|.map _=>E9 S.P o.type (FG S.P t (ρ x) h) h K|_=>q6 (FG S.P t (ρ x) h) h K)|_,_=>False)
 |.call { callee:= .builtin .max,args,.. }=>E9 S.P o.type (oV true (args.toList.map ρ)) h K
 |.call { callee:= .builtin .min,args,.. }=>E9 S.P o.type (oV false (args.toList.map ρ)) h K
 |.call { callee:= .builtin .append,args,argTypes }=>(match args.toList,argTypes.toList with|[s,x],[t,t']=>Y4 (aO S.P t t' (ρ s) (ρ x) h) h K|_,_=>False)
 |.call { callee:= .builtin .copy,args,argTypes }=>(match args.toList,argTypes.toList with|[d,s],[t,_]=>Y2 (copyV S.P t (ρ d) (ρ s) h) h K|_,_=>False)
 |.call { callee:= .builtin _,.. }=>Vr (aV S.P fV ρ o h) h K
 |_=>Vr (aV S.P fV ρ o h) h K
theorem eT{P:Program}{t:TypeId}{r:Option Value}{h:aa}{K:VH}(hx:E9 P t r h K):q6 r h K:=by
 obtain⟨v,h1,h2⟩:=nH hx;rw[h1];exact h2
theorem Ag{r:Option Value}{h:aa}{K:VH}(hx:X5 r h K):q6 r h K:=by
 obtain⟨v,h1,h2⟩:=hx;rw[h1];exact h2
theorem oD{r:Option (Value×cX)}{h:aa}{K:VH}(hx:Vr r h K):Ef r h K:=by
 obtain⟨v,u,h1,h2⟩:=hx;rw[h1];exact h2
theorem sD{r:Option (Value×cX)}{h:aa}{K:VH}(hx:Xy r h K):Ef r h K:=by
 obtain⟨u,h1,h2⟩:=hx;rw[h1];exact h2
theorem IY{r:Option (Value×cX)}{h:aa}{K:VH}(hx:Y4 r h K):Ef r h K:=by
 obtain⟨a,n,c,u,h1,h2⟩:=hx;rw[h1];exact h2
theorem IX{r:Option (Value×cX)}{h:aa}{K:VH}(hx:Y2 r h K):Ef r h K:=by
 obtain⟨n,u,h1,h2⟩:=hx;rw[h1];exact h2
theorem zZ{r:Option (bO×(Nat->Value))}{h:aa}{K:VH}(hx:X4 r h K):XC r h K:=by
 obtain⟨B,h1,h2⟩:=hx;rw[h1];exact h2
theorem z7{r:Option (bO×(Nat->Value))}{h:aa}{K:VH}(hx:X6 r h K):XC r h K:=by
 obtain⟨B,n,c,h1,h2⟩:=hx;rw[h1];exact h2
theorem z6{r:Option (bO×(Nat->Value))}{h:aa}{K:VH}(hx:Y3 r h K):XC r h K:=by
 obtain⟨B,h1,h2⟩:=hx;rw[h1];exact h2
theorem MA{S:Sx}{ty:TypeId}{f:Value}{args:List Value}{h:aa}{K:VH}(hx:Mz S ty f args h K):oC S f args h K:=by
 unfold Mz at hx;unfold oC;split at hx
 ·rcases tZ hx with⟨hb,hx⟩|⟨_,hx⟩
  ·refine⟨by simpa[blt_eq]using hb,hx.mono λv h hx=>?_⟩;obtain⟨x,rfl,h2⟩:=nH hx;exact h2
  ·exact hx.elim
 ·exact⟨⟨rfl,rfl⟩,hx.mono λv h hx=>by
   obtain⟨x,rfl,h2⟩:=nH hx;exact h2⟩
 grind
theorem Mr{P:Program}{op:BinOp}{t ty:TypeId}{x y:Value}{h:aa}{K:VH}(hx:SE P op t ty x y h K):q6 (ay P op t x y) h K:=by
 unfold SE at hx
 grind[eT]
theorem K4{c a b:Value}{h:aa}{K:VH}(hx:NX c a b h K):q6 (Se c a b) h K:=by
 unfold NX at hx;split at hx
 ·next t=>
  rcases tZ hx with⟨rfl,h1⟩|⟨rfl,h1⟩<;>exact h1
 grind
theorem qE{S:Sx}{E:Fr}{o:Oper}{h:aa}{K:VH}(hx:UK S (dU S.gl E) o h K):wpOp S E o h K:=by
 obtain⟨dst,op,ty,pos,after,guard⟩:=o;unfold UK at hx;split at hx
 ·next e=>subst e;exact hx
 ·next e=>subst e;exact hx
 ·next e=>subst e;rw[LY];exact K4 hx
 ·next e=>subst e;rw[IQ];exact Mr hx
 ·next e=>subst e;rw[LZ];exact hx
 ·next e=>subst e;rw[Ea];exact hx
 ·next e=>subst e;rw[IT];exact eT hx
 ·next e=>subst e;rw[Af];exact Ag hx
 ·next e=>subst e;rw[Ae];exact Ag hx
 ·next e=>subst e;rw[IS];exact eT hx
 ·next e=>subst e;rw[LW];exact eT hx
 ·next e=>subst e;rw[IU];exact eT hx
 ·next e=>subst e;rw[IW];exact sD hx
 ·next e=>subst e;rw[kz _ _ _ _ _ rfl rfl rfl rfl];exact zZ hx
 ·next e=>subst e;rw[kz _ _ _ _ _ rfl rfl rfl rfl];exact zZ hx
 ·next e=>subst e;rw[kz _ _ _ _ _ rfl rfl rfl rfl];exact z7 hx
 ·next e=>subst e;rw[kz _ _ _ _ _ rfl rfl rfl rfl];exact z7 hx
 ·next t r e=>
  subst e;rw[kz _ _ _ _ _ rfl rfl rfl rfl]
  cases r with
  |none=>exact z6 hx
  |some x=>exact z6 hx
 ·next t m k x e=>
  subst e;rw[fT _ _ _ _ rfl];have he:aV S.P fV (dU S.gl E) ⟨dst,.mapUpdate t m k x,ty,pos,after,guard⟩ h=nO S.P t (dU S.gl E m) (dU S.gl E k) (dU S.gl E x) h:=rfl;rw[he];exact sD hx
 ·next t m k x e=>
  subst e;rw[fT _ _ _ _ rfl];have he:aV S.P fV (dU S.gl E) ⟨dst,.insert t m k x,ty,pos,after,guard⟩ h=nO S.P t (dU S.gl E m) (dU S.gl E k) (dU S.gl E x) h:=rfl;rw[he];exact sD hx
 ·next t m k ok e=>
  subst e;have hx:q6 (aY S.P (dU S.gl E) ⟨dst,.lookup t m k ok,ty,pos,after,guard⟩ h) h K:=eT hx;exact(nh S E h K ⟨dst,.lookup t m k ok,ty,pos,after,guard⟩ rfl rfl rfl rfl)▸hx
 ·next e=>
  subst e;rw[fT _ _ _ _ rfl];split at hx
  ·exact oD hx
  split at hx
  ·next k n hv=>
   unfold aV;generalize hp:aT S.P (dU S.gl E) _=r
   cases r with
   |some v=>rw[show eL S.P _ _ _=some v from hp]at hx;exact hx
   |none=>rw[show eL S.P _ _ _=none from hp]at hx;exact hx.elim
  ·next a n c hv=>
   obtain⟨v,h1,h2⟩:=nH hx;have hp:∀s d,eL S.P s d (.slice a n c)=none:=λs d=>by unfold eL;split<;>simp_all
   have e1:∀s d x,dU S.gl E x = .slice a n c->aT S.P (dU S.gl E) ⟨dst,.convert s d x,ty,pos,after,guard⟩=none:=λs d x hv=>by
    show eL S.P s d (dU S.gl E x)=none;rw[hv];exact hp s d
   have e2:∀s d x,aY S.P (dU S.gl E) ⟨dst,.convert s d x,ty,pos,after,guard⟩ h=w6 S.P s d (dU S.gl E x) h:=λs d x=>rfl;unfold aV;rw[e1 _ _ _ hv];dsimp only;rw[e2,h1];exact h2
  ·exact oD hx
 ·next e=>subst e;rw[dk _ _ _ _ _ _ _ _ _ rfl];exact eT hx
 ·next e=>subst e;rw[dk _ _ _ _ _ _ _ _ _ rfl];exact hx
 ·next e=>subst e;rw[dk _ _ _ _ _ _ _ _ _ rfl];exact hx
 ·next e=>subst e;rw[dk _ _ _ _ _ _ _ _ _ rfl];exact hx
 ·next e=>subst e;rw[dk _ _ _ _ _ _ _ _ _ rfl];exact hx
 ·exact hx.elim
 ·next e=>subst e;exact MA hx
 ·next args ats e=>
  subst e;split at hx
  ·next x t h1 h2=>
   obtain⟨args⟩:=args;obtain⟨ats⟩:=ats;obtain rfl:args=[x]:=h1;obtain rfl:ats=[t]:=h2;have hx':q6 (FG S.P t (dU S.gl E x) h) h K:=by
    split at hx
    ·exact eT hx
    ·exact hx
   exact(Ph S E dst ty pos after guard h K x t).symm▸hx'
  ·exact hx.elim
 ·next e=>subst e;rw[Pj];exact eT hx
 ·next e=>subst e;rw[Pk];exact eT hx
 ·next args ats e=>
  subst e;split at hx
  ·next s x t t' h1 h2=>
   obtain⟨args⟩:=args;obtain⟨ats⟩:=ats;obtain rfl:args=[s,x]:=h1;obtain rfl:ats=[t,t']:=h2;exact(GL S E dst ty pos after guard h K s x t t').symm▸IY hx
  ·exact hx.elim
 ·next args ats e=>
  subst e;split at hx
  ·next s x t t' h1 h2=>
   obtain⟨args⟩:=args;obtain⟨ats⟩:=ats;obtain rfl:args=[s,x]:=h1;obtain rfl:ats=[t,t']:=h2;have he:wpOp S E ⟨dst,.call ⟨.builtin .copy,#[s,x],#[t,t']⟩,ty,pos,after,guard⟩ h K=Ef (copyV S.P t (dU S.gl E s) (dU S.gl E x) h) h K:=Ad S E h K _ rfl rfl rfl rfl;exact he.symm▸IX hx
  ·exact hx.elim
 ·next e=>subst e;rw[fT _ _ _ _ rfl];exact oD hx
 grind[fT,oD,aQ]
def LA:TS->Nat->Value->(TS->Prop)->Prop
 |[],_,_,K=>K []
 |_::l,0,v,K=>K (v::l)
 |x::l,d+1,v,K=>LA l d v λl=>K (x::l)
def Nl:TS->Nat->(Value->Prop)->Prop
 |[],_,K=>K undef
 |x::_,0,K=>K x
 |_::l,t+1,K=>Nl l t K
theorem xw:∀(l:TS)(d:Nat)(v:Value)(K:TS->Prop),LA l d v K=K (l.set d v)
 |[],_,_,_=>rfl
 |_::_,0,_,_=>rfl
 |x::l,d+1,v,K=>by rw[LA,xw l d v];rfl
theorem C2:∀(l:TS)(t:Nat)(K:Value->Prop),Nl l t K=K (l.getD t undef)
 |[],_,_=>rfl
 |_::_,0,_=>rfl
 |x::l,t+1,K=>by rw[Nl,C2 l t];rfl
def DC(tm:TS)(dst:Option Tmp)(v:Value)(K:TS->Prop):Prop:=match dst with
 |some d=>LA tm d v K
 |none=>K tm
theorem xm(tm:TS)(dst:Option Tmp)(v:Value)(K:TS->Prop):DC tm dst v K=K (fO tm dst v):=by
 cases dst with
 |none=>rfl
 |some d=>exact xw _ _ _ _
def UL(S:Sx)(tm:TS)(o:Oper)(h:aa)(K:VH):Prop:=match o.op with
 |.move (.tmp t)=>Nl tm t λv=>K v h
 |.assign (.tmp t)=>Nl tm t λv=>K v h
 |_=>UK S (ev S.gl tm) o h K
theorem JA{S:Sx}{tm:TS}{o:Oper}{h:aa}{K:VH}(hx:UL S tm o h K):UK S (ev S.gl tm) o h K:=by
 unfold UL at hx;split at hx
 ·next t e=>rw[C2]at hx;unfold UK;rw[e];exact hx
 ·next t e=>rw[C2]at hx;unfold UK;rw[e];exact hx
 omega
def gS(ops:Array Oper)(tm:TS)(guard:Option (Nat×Bool))(A B:TS->Prop):Prop:=match guard with
 |none=>A tm
 | some (j,want)=>match (ops[j]?).bind (·.dst)with
  |some d=>match tm.getD d undef with
   |.bool b=>aF b (LA tm d (.bool true) (Bool.rec (motive:=λ_=>TS->Prop) B A want)) (LA tm d (.bool false) (Bool.rec (motive:=λ_=>TS->Prop) A B want))
   |.tuple _=>B tm
   |_=>False
  |none=>False
def Q0(S:Sx)(ops:Array Oper):List Oper->TS->aa->TH->Prop
 |[],tm,h,R=>R tm h
 |o::l,tm,h,R=>gS ops tm o.guard (λtm=>UL S tm o h λv h=>DC tm o.dst v λtm=>Q0 S ops l tm h R) (λtm=>DC tm o.dst undef λtm=>Q0 S ops l tm h R)
def lift(nm:Nat)(Q:TH):FH:=λE h=>∃tm:TS,tm.length=nm/\E=fr tm/\Q tm h
def Jo(nm:Nat)(Q:eJ):Aw:=λx=>lift nm (Q x)
def R1(v:Value)(A B:Prop):Prop:=match v with
 |.bool b=>aF b A B
 |_=>False
def I0(S:Sx)(nm:Nat)(c:Code)(tm:TS)(h:aa)(Q:eJ):Prop:=A5 S nm c (fr tm) h (Jo nm Q)
def St(S:Sx)(nm:Nat)(c:Code)(tm:TS)(h:aa)(Q:eJ):Prop:=Hb S nm c (fr tm) h (Jo nm Q)
def WM(B:TH)(Q:eJ)(x:Exit)(tm:TS)(h:aa):Prop:=match x with
 |.normal=>B tm h
 |x=>Q x tm h
def Hk(id:Nat)(Q:eJ)(x:Exit)(tm:TS)(h:aa):Prop:=match x with
 |.exit id'=>(match Nat.beq id' id with|true=>Q .normal tm h|false=>Q (.exit id') tm h)
 |x=>Q x tm h
def room(h:aa)(n:Nat):aa:={ h with next:=h.next+n }
def HS:Op->Bool
 |.load ..|.slice .. =>true
 |.call { callee:= .builtin .len,.. }=>true
 |_=>false
def ZB:Op->Bool
 |.store .. =>true
 |.call { callee:= .value _,.. }=>true
 |_=>false
def PG(ops:Array Oper)(f:Op->Bool)(j:Nat):Bool:=match ops[j]? with|some o=>f o.op|none=>false
def FA:Op->Bool
 |.alloc ..|.box ..|.makeSlice ..|.buildSlice .. =>true
 |_=>false
def y7:Op->Bool
 |.store .. =>true
 |.call { callee:= .value _,.. }=>true
 |.call { callee:= .builtin .append,.. }|.call { callee:= .builtin .copy,.. }|.call { callee:= .builtin .unsafeSliceData,.. }|.call { callee:= .builtin .unsafeString,.. }=>true
 |_=>false
def SX(b:Bool)(A B:Prop):Prop:=Bool.rec (motive:=λ_=>Prop) B A b
def JG(S:Sx)(o:Oper)(E:Fr)(v:Value)(h:aa)(K:Prop):Prop:=match o.op with
 |.load t a=>(ai S.P t h (dU S.gl E a)=some v/\mq 4 v v=true)/\K
 |.slice t x lo hi mx=>(bt S.P t (dU S.gl E x) (lo.map (dU S.gl E)) (hi.map (dU S.gl E)) (mx.map (dU S.gl E)) h=some v/\mq 4 v v=true)/\K
 |_=>(aY S.P (dU S.gl E) o h=some v/\mq 4 v v=true)/\K
def qH(S:Sx)(bf:Nat->Nat->Bool)(j:Nat)(o:Oper)(E:Fr)(v:Value):aa->List (Nat×aa)->Bool->Prop->Prop
 |h,[],own,K=>SX own K (JG S o E v h K)
 |h,(e,h')::r,own,K=>SX ((own&&Nat.blt j e)||bf j e) (SX (bf e j) K (qH S bf j o E v h' r (Nat.blt e j) K)) (JG S o E v h (SX (bf e j) K (qH S bf j o E v h' r (Nat.blt e j) K)))
def vi(S:Sx)(bf:Nat->Nat->Bool)(h:aa)(es:List (Nat×aa)):List GQ->Nat->Prop->Prop
 |[],_,K=>K
 |(E,o,.read v)::r,j,K=>qH S bf j o E v h es true (vi S bf h es r (j+1) K)
 |_::r,j,K=>vi S bf h es r (j+1) K
def XS(S:Sx)(ρ:Operand->Value)(o:Oper)(K:bO->(Nat->Value)->Prop):Prop:=match o.op with
 |.alloc t=>∃B,cq S.P t=some (B,nV)/\K B nV
 |.box t x=>∃B,jI S.P t (ρ x)=some (B,nV)/\K B nV
 |.makeSlice t l c=>∃B n d,bL S.P t (ρ l) (ρ c)=some (B,my n d)/\K B (my n d)
 |_=>∃B n d,aS S.P ρ o=some (B,my n d)/\K B (my n d)
def R9{α:Type}(op:Op)(a b c d:α):α:=match kF op with
 |true=>a
 | false=>match HS op with
  |true=>b
  |false=>match FA op with
   |true=>c
   |false=>d
def uc(S:Sx)(bf:Nat->Nat->Bool)(ops:Array Oper)(base:Nat)(h0:aa):List Oper->Nat->TS->aa->List (Nat×bO)->List GQ->TH->Prop
 |[],_,tm,h,pd,recs,R=>vi S bf h0 (mG recs.reverse 0) recs.reverse 0 (R tm (bj h base pd))
 | o::l,j,tm,h,pd,recs,R=>gS ops tm o.guard
   (λtm=>R9 o.op
    (UL S tm o h λv _=>DC tm o.dst v λtm'=>uc S bf ops base h0 l (j+1) tm' h pd ((fr tm,o,.pure v)::recs) R)
    (UL S tm o h λv _=>DC tm o.dst v λtm'=>uc S bf ops base h0 l (j+1) tm' h pd ((fr tm,o,.read v)::recs) R)
    (XS S (ev S.gl tm) o λB f=>DC tm o.dst (f (base+j)) λtm'=>uc S bf ops base h0 l (j+1) tm' h ((j,B)::pd) ((fr tm,o,.alloc B (f (base+j)))::recs) R)
    (UL S tm o (bj h base (pd.filter λp=>bf j p.1)) λv h'=>DC tm o.dst v λtm'=>uc S bf ops base h0 l (j+1) tm' h' (pd.filter λp=> !bf j p.1) ((fr tm,o,.rB v h')::recs) R))
   (λtm=>DC tm o.dst undef λtm'=>uc S bf ops base h0 l (j+1) tm' h pd ((fr tm,o,.skip)::recs) R)
def oz(ops:Array Oper):Bool:= !uy ops&&(ops.toList.all λo=>kF o.op||HS o.op||FA o.op||y7 o.op)&&(List.range ops.size).all λe=> !PG ops y7 e||(List.range ops.size).all λj=> !PG ops y7 j || !Nat.blt j e||cM (gm ops) e j
def qZ(tm:TS)(j:Nat):Value:=tm.getD j undef
def wQ:Nat->Nat->List (Nat×Value)->(Nat->Value)->TS
 |0,_,_,_=>[]
 |n+1,j,[],x=>x j::wQ n (j+1) [] x
 |n+1,j,(i,v)::l,x=>match Nat.beq i j with
  |true=>v::wQ n (j+1) l x
  |false=>x j::wQ n (j+1) ((i,v)::l) x
theorem De:∀(n j:Nat)(l:List (Nat×Value))(x:Nat->Value),(∀p∈l,p.2=x p.1)->wQ n j l x=(List.range' j n).map x
 |0,_,_,_,_=>by rfl
 |n+1,j,[],x,h=>by simp only[wQ,List.range'_succ,List.map_cons];rw[De n (j+1) [] x h]
 | n+1,j,(i,v)::l,x,h=>by
  simp only[wQ,List.range'_succ,List.map_cons]
  cases hb:Nat.beq i j with
  |true=>
   dsimp only;rw[De n (j+1) l x λp hp=>h p (mem_cons_of_mem _ hp),<-Nat.eq_of_beq_eq_true hb]
   simp_all
  |false=>
   dsimp only;rw[De n (j+1) ((i,v)::l) x h]
theorem xg:∀(n j:Nat)(l:List (Nat×Value))(x:Nat->Value),(wQ n j l x).length=n
 |0,_,_,_=>by rfl
 |n+1,j,[],x=>by simp only[wQ,length_cons];rw[xg n (j+1) [] x]
 |n+1,j,(i,v)::l,x=>by
  simp only[wQ]
  cases hb:Nat.beq i j with
  |true=>dsimp only;rw[length_cons,xg n (j+1) l x]
  |false=>dsimp only;rw[length_cons,xg n (j+1) ((i,v)::l) x]
theorem GO(f:Nat->Value):∀(M:List Nat),∀p∈M.zip (M.map f),p.2=f p.1
 |[],p,h=>by simp at h
 |a::M,p,h=>by
  rw[List.map_cons,List.zip_cons_cons]at h;rcases mem_cons.1 h with rfl|h
  ·rfl
  ·exact GO f M p h
theorem FO{tm:TS}{nm:Nat}(hl:tm.length=nm)(M:List Nat):wQ nm 0 (M.zip (M.map (qZ tm))) (qZ tm)=tm:=by
 rw[De _ _ _ _ (GO _ M)];refine List.ext_getElem? λi=>?_
 grind[qZ]
def RW(S:Sx)(nm:Nat)(M:List Nat)(c:Code)(w:List Value)(h:aa)(Q:eJ):Prop:=∀x:Nat->Value,I0 S nm c (wQ nm 0 (M.zip w) x) h Q
def NC(S:Sx)(nm:Nat)(M:List Nat)(c:Code)(tm:TS)(h:aa)(Q:eJ):Prop:=match Nat.beq tm.length nm with
 |true=>RW S nm M c (M.map (qZ tm)) h Q
 |false=>I0 S nm c tm h Q
theorem HW{S:Sx}{nm:Nat}{M:List Nat}{c:Code}{tm:TS}{h:aa}{Q:eJ}(hl:tm.length=nm)(hx:NC S nm M c tm h Q):I0 S nm c tm h Q:=by
 unfold NC at hx;rw[hl,Nat.beq_refl]at hx;have:=hx (qZ tm)
 grind[FO]
structure FD where
 nm:Nat
 body:Code
 rs:List ResultVar
 ms:List (List Nat×List Nat)
def dJ(fn:Func)(ms:List (List Nat×List Nat)):FD:=⟨fn.ntmps,fn.body.getD .skip,fn.results.toList,ms⟩
def Vo:List Nat->List Nat->Bool
 |[],[]=>true
 |a::x,b::y=>(match Nat.beq a b with
  |true=>Vo x y
  |false=>false)
 |_,_=>false
def uV:List (List Nat×List Nat)->List Nat->List Nat
 |[],_=>[]
 |(q,m)::r,p=>match Vo q p with
  |true=>m
  |false=>uV r p
def wpS(S:Sx)(nm:Nat)(M:List (List Nat×List Nat))(p:List Nat):Code->TS->aa->eJ->Prop
 |.skip,tm,h,Q=>Q .normal tm h
 | .region _ ops draw,tm,h,Q=>(match draw with
  |false=>Q0 S ops ops.toList tm h λtm h=>Q .normal tm h
  |true=>(match oz ops with
   |true=>uc S (cM (gm ops)) ops h.next (room h ops.size) ops.toList 0 tm (room h ops.size) [] [] λtm h=>Q .normal tm h
   |false=>UE S ops (fr tm) h (lift nm λtm h=>Q .normal tm h)))
 |.seq a b,tm,h,Q=>wpS S nm M (0::p) a tm h (WM (λtm h=>wpS S nm M (1::p) b tm h Q) Q)
 |.cond c a b,tm,h,Q=>R1 (ev S.gl tm c) (wpS S nm M (0::p) a tm h Q) (wpS S nm M (1::p) b tm h Q)
 |.block id c,tm,h,Q=>wpS S nm M (0::p) c tm h (Hk id Q)
 |.loop c,tm,h,Q=>NC S nm (uV M (0::p).reverse) c tm h Q
 |.exit id,tm,h,Q=>Q (.exit id) tm h
 |.ret,tm,h,Q=>Q .ret tm h
 |.label _,tm,h,Q=>Q .normal tm h
 |.rangeFunc f ps a b,tm,h,Q=>St S nm (.rangeFunc f ps a b) tm h Q
 |_,_,_,_=>False
end
theorem Vt{tm:TS}{nm:Nat}(h:tm.length=nm):ER nm (fr tm) tm:=⟨h,λ_=>rfl⟩
theorem BJ{tm:TS}(gl:Nat->Bool):dU gl (fr tm)=ev gl tm:=rfl
theorem CZ{tm:TS}{nm:Nat}(h:tm.length=nm){dst:Option Tmp}(hd:sY nm dst=true)(v:Value):qW (fr tm) dst v=fr (fO tm dst v):=by
 funext t;exact((Vt h).put hd v).2 t |>.symm
theorem vJ{tm:TS}{d:Nat}{v:Value}(h:tm.getD d undef=v):tm.set d v=tm:=by
 refine List.ext_getElem? λi=>?_
 grind
theorem Fo{ops:Array Oper}{tm:TS}{guard:Option (Nat×Bool)}{A B:TS->Prop}{A' B':Unit->Prop}(hA:A tm->A' ())(hB:B tm->B' ())(hx:gS ops tm guard A B):Sm (zX ops (fr tm) guard) A' B':=by
 cases guard with
 |none=>exact hA hx
 | some g=>
  obtain⟨j,want⟩:=g;unfold gS at hx;rw[IN];dsimp only at hx
  cases hd:(ops[j]?).bind (·.dst)with
  |none=>grind
  | some d=>
   rw[hd]at hx;dsimp only at hx⊢;show Sm (match tm.getD d undef with|.bool b=>some (b==want)|.tuple _=>some false|_=>none) A' B'
   cases hv:tm.getD d undef with
   | bool b=>
    rw[hv]at hx;dsimp only at hx⊢;rcases tZ hx with⟨rfl,h1⟩|⟨rfl,h1⟩
    ·rw[xw,vJ hv]at h1
     cases want
     ·exact hB h1
     ·exact hA h1
    ·rw[xw,vJ hv]at h1
     cases want
     ·exact hA h1
     ·exact hB h1
   |tuple vs=>rw[hv]at hx;exact hB hx
   |_=>rw[hv]at hx;exact hx.elim
theorem GM{r:Option (Value×cX)}{h:aa}{K K':VH}(hk:∀v h,K v h->K' v h)(hx:Ef r h K):Ef r h K':=by
 cases r with
 |none=>exact hx
 |some p=>obtain⟨v,u⟩:=p;exact hk _ _ hx
theorem wh{S:Sx}{f:Value}{args:List Value}{h:aa}{K K':VH}(hk:∀v h,K v h->K' v h)(hx:oC S f args h K):oC S f args h K':=by
 unfold oC at hx⊢;split at hx
 ·exact⟨hx.1,hx.2.mono hk⟩
 ·exact⟨hx.1,hx.2.mono hk⟩
 omega
theorem LX{S:Sx}{E:Fr}{o:Oper}{h:aa}{K K':VH}(hk:∀v h,K v h->K' v h)(hx:wpOp S E o h K):wpOp S E o h K':=by grind[wh,GM,wpOp]
theorem sn{S:Sx}{nm:Nat}{ops:Array Oper}{R:TH}{R':FH}(hR:∀tm h,tm.length=nm->R tm h->R' (fr tm) h):∀(l:List Oper){tm:TS}{h:aa},tm.length=nm->(l.all λo=>sY nm o.dst)=true->Q0 S ops l tm h R->Pu S ops l (fr tm) h R'
 |[],_,_,hl,_,hx=>hR _ _ hl hx
 |o::l,tm,h,hl,hd,hx=>by
  simp only[all_cons,and_eq_true]at hd;rw[Pg];refine Fo (λhx=>?_) (λhx=>?_) hx
  ·show wpOp S (fr tm) o h (Zl S ops o.dst l (fr tm) R');have hx:=JA hx;rw[<-BJ]at hx;refine LX (λv h hx=>?_) (qE hx);show Pu S ops l (qW (fr tm) o.dst v) h R';rw[CZ hl hd.1];rw[xm]at hx;exact sn hR l (by grind[jl]) hd.2 hx
  ·show Pu S ops l (qW (fr tm) o.dst undef) h R';rw[CZ hl hd.1];rw[xm]at hx;exact sn hR l (by grind[jl]) hd.2 hx
theorem Ac{S:Sx}{E:Fr}{o:Oper}{h:aa}{K K':VH}(hk:∀v h,K v h->K' v h)(hx:Aa S E o h K):Aa S E o h K':=by grind[wh,GM,Aa]
theorem Pf{r:Option Bool}{A B A' B':Unit->Prop}(hA:A ()->A' ())(hB:B ()->B' ())(hx:Sm r A B):Sm r A' B':=by
 rcases D8 hx with⟨rfl,h⟩|⟨rfl,h⟩
 ·exact hA h
 ·exact hB h
theorem lH{S:Sx}{bf:Nat->Nat->Bool}{ops:Array Oper}{base:Nat}{h0:aa}{R R':FH}(hR:∀E h,R E h->R' E h):∀(l:List Oper)(j:Nat)(E:Fr)(h:aa)(pd:List (Nat×bO))(recs:List GQ),ue S bf ops base h0 l j E h pd recs R->ue S bf ops base h0 l j E h pd recs R'
 |[],_,_,_,_,_,hx=>⟨hx.1,hR _ _ hx.2⟩
 | o::l,j,E,h,pd,recs,hx=>by
  simp only[ue]at hx⊢;refine Pf (λhx=>?_) (λhx=>lH hR l _ _ _ _ _ hx) hx
  cases hp:aT S.P (dU S.gl E) o with
  |some v=>rw[hp]at hx;exact lH hR l _ _ _ _ _ hx
  | none=>
   rw[hp]at hx;dsimp only at hx⊢
   cases hp2:aY S.P (dU S.gl E) o h with
   |some v=>rw[hp2]at hx;exact lH hR l _ _ _ _ _ hx
   | none=>
    rw[hp2]at hx;dsimp only at hx⊢
    cases hp3:aS S.P (dU S.gl E) o with
    |some p=>obtain⟨B,f⟩:=p;rw[hp3]at hx;exact lH hR l _ _ _ _ _ hx
    |none=>
     rw[hp3]at hx;dsimp only at hx⊢;exact Ac (λv h' hx=>lH hR l _ _ _ _ _ hx) hx
theorem Pe{S:Sx}{ops:Array Oper}{E:Fr}{h:aa}{R R':FH}(hR:∀E h,R E h->R' E h)(hx:UE S ops E h R):UE S ops E h R':=⟨hx.1,lH hR _ _ _ _ _ _ hx.2⟩
theorem SD{ops:Array Oper}{f:Op->Bool}{j:Nat}(h:PG ops f j=true):j<ops.size:=by grind[PG]
theorem yY{b:Bool}{A B:Prop}(h:SX b A B):(b=true/\A)\/(b=false/\B):=by
 cases b with
 |true=>exact .inl ⟨rfl,h⟩
 |false=>exact .inr ⟨rfl,h⟩
theorem qb{S:Sx}{o:Oper}{E:Fr}{v:Value}{h:aa}{K:Prop}(hx:JG S o E v h K):Cg S o E v h=true/\K:=by
 obtain⟨dst,op,ty,pos,after,guard⟩:=o;have key:(aY S.P (dU S.gl E) ⟨dst,op,ty,pos,after,guard⟩ h=some v/\mq 4 v v=true)/\K:=by
  unfold JG at hx;split at hx
  ·next e=>subst e;exact hx
  ·next e=>subst e;exact hx
  ·exact hx
 grind[Cg]
theorem rI{S:Sx}{bf:Nat->Nat->Bool}{j:Nat}{o:Oper}{E:Fr}{v:Value}{K:Prop}:∀{es:List (Nat×aa)}{h:aa}{own:Bool},qH S bf j o E v h es own K->mN S bf j o E v h es own=true/\K
 |[],h,own,hx=>by
  rcases yY hx with⟨rfl,h1⟩|⟨rfl,h1⟩
  ·exact⟨rfl,h1⟩
  ·exact⟨(qb h1).1,(qb h1).2⟩
 | (e,h')::r,h,own,hx=>by
  have tl:∀{K'':Prop},SX (bf e j) K (qH S bf j o E v h' r (Nat.blt e j) K)->((bf e j||mN S bf j o E v h' r (Nat.blt e j))=true)/\K:=λhx=>by
   rcases yY hx with⟨h2,h3⟩|⟨h2,h3⟩
   ·grind
   ·have:=rI h3
    grind
  have hx:SX ((own&&Nat.blt j e)||bf j e) _ _:=hx;simp only[mN,and_eq_true];rcases yY hx with⟨h2,h3⟩|⟨h2,h3⟩
  ·simp_all
  ·obtain⟨h4,h5⟩:=qb h3
   simp_all
theorem oa{S:Sx}{bf:Nat->Nat->Bool}{h:aa}{es:List (Nat×aa)}{K:Prop}:∀{l:List GQ}{j:Nat},vi S bf h es l j K->su S bf h es l j=true/\K
 |[],_,hx=>⟨rfl,hx⟩
 | (E,o,e)::r,j,hx=>by
  cases e with
  |read v=>
   have h1:=rI (show qH S bf j o E v h es true (vi S bf h es r (j+1) K)from hx);have h2:=oa h1.2
   grind[su]
  |_=>exact oa (l:=r) hx
def A2(ops:Array Oper)(i:Nat)(l:List GQ):Prop:=∀k r,l[k]?=some r->∀v g,r.2.2 = .rB v g->PG ops y7 (i+k)=true
theorem r6{ops:Array Oper}:∀{l:List GQ}{i:Nat},A2 ops i l->∀p∈mG l i,PG ops y7 p.1=true/\i<=p.1
 |[],_,_=>by simp[mG]
 | r::l,i,hc=>by
  have hc':A2 ops (i+1) l:=λk r h=>by
   have:=hc (k+1) r (by simpa using h)
   grind
  obtain⟨E,o,e⟩:=r;intro p hp;have tl:p∈mG l (i+1)->PG ops y7 p.1=true/\i<=p.1:=λh=>⟨(r6 hc' p h).1,by have:=(r6 hc' p h).2;omega⟩
  cases e with
  |rB v g=>
   rcases mem_cons.1 hp with rfl|hp
   ·exact⟨hc 0 _ rfl v g rfl,Nat.le_refl _⟩
   grind
  |_=>exact tl hp
theorem qg{ops:Array Oper}(hs:oz ops=true):∀{l:List GQ}{i:Nat},A2 ops i l->chained (cM (gm ops)) (mG l i)=true
 |[],_,_=>rfl
 | r::l,i,hc=>by
  have hc':A2 ops (i+1) l:=λk r h=>by
   have:=hc (k+1) r (by simpa using h)
   grind
  obtain⟨E,o,e⟩:=r;have ih:=qg hs hc'
  cases e with
  | rB v g=>
   show chained (cM (gm ops)) ((i,g)::mG l (i+1))=true;have hall:=r6 hc'
   cases hes:mG l (i+1)with
   |nil=>rfl
   |cons p es=>
    obtain⟨j,g'⟩:=p;rw[hes]at ih hall;show(cM (gm ops) j i&&chained (cM (gm ops)) ((j,g')::es))=true;rw[ih,Bool.and_true];have h1:=hc 0 _ rfl v g rfl;have h2:=hall (j,g') (mem_cons_self ..);unfold oz at hs;simp only[and_eq_true]at hs;have h3:=all_eq_true.1 hs.2 j (List.mem_range.2 (SD h2.1));rw[h2.1]at h3;simp only[Bool.not_true,Bool.false_or]at h3
    grind[blt_eq,PG]
  |_=>exact ih
theorem J1{S:Sx}{ρ:Operand->Value}{o:Oper}(ha:FA o.op=true){K:bO->(Nat->Value)->Prop}(hx:XS S ρ o K):∃B f,aS S.P ρ o=some (B,f)/\K B f:=by
 obtain⟨dst,op,ty,pos,after,guard⟩:=o;unfold XS at hx;split at hx
 ·next e=>subst e;obtain⟨B,h1,h2⟩:=hx;exact⟨B,_,h1,h2⟩
 ·next e=>subst e;obtain⟨B,h1,h2⟩:=hx;exact⟨B,_,h1,h2⟩
 ·next e=>subst e;obtain⟨B,n,d,h1,h2⟩:=hx;exact⟨B,_,h1,h2⟩
 grind
theorem vw{S:Sx}{nm:Nat}{ops:Array Oper}(hst:oz ops=true){base:Nat}{h0:aa}{R:TH}{R':FH}(hR:∀tm h,tm.length=nm->R tm h->R' (fr tm) h):∀(l:List Oper)(j:Nat)(tm:TS)(h:aa)(pd:List (Nat×bO))(recs:List GQ),tm.length=nm->(l.all λo=>sY nm o.dst)=true->ops.toList.drop j=l->recs.length=j->A2 ops 0 recs.reverse->uc S (cM (gm ops)) ops base h0 l j tm h pd recs R->ue S (cM (gm ops)) ops base h0 l j (fr tm) h pd recs R'
 |[],j,tm,h,pd,recs,hl,_,_,_,hr,hx=>by
  have h1:=oa (show vi S (cM (gm ops)) h0 (mG recs.reverse 0) recs.reverse 0 (R tm (bj h base pd))from hx);refine⟨?_,hR _ _ hl h1.2⟩
  grind[qg,sX]
 | o::l,j,tm,h,pd,recs,hl,hd,hdr,hrl,hr,hx=>by
  have ho:ops[j]?=some o:=by
   have:(ops.toList.drop j)[0]?=some o:=by rw[hdr];rfl
   rw[List.getElem?_drop]at this;rw[<-Array.getElem?_toList];simpa using this
  have hdr':ops.toList.drop (j+1)=l:=by rw[<-List.drop_drop,hdr];rfl
  simp only[all_cons,and_eq_true]at hd;have conf:∀e,(∀v g,e=kA.rB v g->y7 o.op=true)->A2 ops 0 ((fr tm,o,e)::recs).reverse:=by
   intro e h2 k r hk;rw[List.reverse_cons]at hk;rcases lt_or_ge k recs.reverse.length with h3|h3
   ·rw[List.getElem?_append_left h3]at hk;exact hr k r hk
   ·rw[List.getElem?_append_right h3]at hk;have hk0:k-recs.reverse.length=0:=by
     rcases eq_zero_or_pos (k-recs.reverse.length)with h4|h4
     ·exact h4
     ·rw[getElem?_eq_none (by simp only[length_cons,List.length_nil];omega)]at hk;cases hk
    rw[hk0]at hk;obtain rfl:=oI hk
    grind[PG]
  simp only[ue];refine Fo (λhx=>?_) (λhx=>?_) hx
  ·have go:∀v e g pd',(∀v g,e=kA.rB v g->y7 o.op=true)->DC tm o.dst v (λtm'=>uc S (cM (gm ops)) ops base h0 l (j+1) tm' g pd' ((fr tm,o,e)::recs) R)->ue S (cM (gm ops)) ops base h0 l (j+1) (qW (fr tm) o.dst v) g pd' ((fr tm,o,e)::recs) R':=by
    intro v e g pd' h2 hx;rw[xm]at hx;rw[CZ hl hd.1];exact vw hst hR l (j+1) _ g _ _ (by grind[jl]) hd.2 hdr' (by grind) (conf e h2) hx
   have hkind:(kF o.op||HS o.op||FA o.op||y7 o.op)=true:=by
    have hc:=hst;unfold oz at hc;simp only[and_eq_true]at hc;exact all_eq_true.1 hc.1.2 o (List.mem_of_mem_drop (i:=j) (by grind))
   obtain⟨dst,op,ty,pos,after,guard⟩:=o;unfold R9 at hx
   cases hp:kF op with
   |true=>
    rw[show kF (Oper.mk dst op ty pos after guard).op=true from hp]at hx;have hx:=qE (E:=fr tm) (by rw[BJ];exact JA hx)
    grind[dk,q6]
   |false=>
   rw[show kF (Oper.mk dst op ty pos after guard).op=false from hp]at hx;dsimp only at hx
   cases hp2:HS op with
   | true=>
    rw[show HS (Oper.mk dst op ty pos after guard).op=true from hp2]at hx;have hx:=qE (E:=fr tm) (by rw[BJ];exact JA hx);have key:aT S.P (dU S.gl (fr tm)) ⟨dst,op,ty,pos,after,guard⟩=none/\aQ ⟨dst,op,ty,pos,after,guard⟩=false/\aS S.P (dU S.gl (fr tm)) ⟨dst,op,ty,pos,after,guard⟩=none/\cY S.P fV (dU S.gl (fr tm)) ⟨dst,op,ty,pos,after,guard⟩ h=none:=by
     clear hx conf go hkind hp ho;revert hp2
     cases op with
     |load=>intro _;exact⟨rfl,rfl,rfl,rfl⟩
     |slice=>intro _;exact⟨rfl,rfl,rfl,rfl⟩
     |call c=>
      obtain⟨callee,args,ats⟩:=c
      cases callee with
      |builtin b=>cases b<;>intro hp<;>first|exact⟨rfl,rfl,rfl,rfl⟩|cases hp
      |_=>intro hp;cases hp
     |_=>intro hp;cases hp
    grind[nh,q6]
   |false=>
   rw[show HS (Oper.mk dst op ty pos after guard).op=false from hp2]at hx;dsimp only at hx
   cases hp3:FA op with
   | true=>
    rw[show FA (Oper.mk dst op ty pos after guard).op=true from hp3]at hx;rw[<-BJ]at hx;obtain⟨B,f,h1,h2⟩:=J1 hp3 hx;have key:aT S.P (dU S.gl (fr tm)) ⟨dst,op,ty,pos,after,guard⟩=none/\aY S.P (dU S.gl (fr tm)) ⟨dst,op,ty,pos,after,guard⟩ h=none:=by
     clear hx conf go hkind hp ho h1 h2 hp2;revert hp3
     cases op<;>intro hp3<;>first|exact⟨rfl,rfl⟩|cases hp3
    grind
   |false=>
   rw[show FA (Oper.mk dst op ty pos after guard).op=false from hp3]at hx;dsimp only at hx;have hp4:y7 op=true:=by
    have hk:(kF op||HS op||FA op||y7 op)=true:=hkind;rw[hp,hp2,hp3]at hk;exact hk
   have hx:=qE (E:=fr tm) (by rw[BJ];exact JA hx);generalize bj h base (pd.filter λp=>cM (gm ops) j p.1)=hs at hx⊢;have key:(∀h,aT S.P (dU S.gl (fr tm)) ⟨dst,op,ty,pos,after,guard⟩=none/\aY S.P (dU S.gl (fr tm)) ⟨dst,op,ty,pos,after,guard⟩ h=none/\aS S.P (dU S.gl (fr tm)) ⟨dst,op,ty,pos,after,guard⟩=none)/\
     ∀K:VH,wpOp S (fr tm) ⟨dst,op,ty,pos,after,guard⟩ hs K->Aa S (fr tm) ⟨dst,op,ty,pos,after,guard⟩ hs K:=by
    clear hx conf go hkind hp ho hp2 hp3;revert hp4
    cases op with
    |store t a x=>intro _;exact⟨λ_=>⟨rfl,rfl,rfl⟩,λK hx=>by rw[Ad _ _ _ _ _ rfl rfl rfl rfl]at hx;exact hx⟩
    |call c=>
     obtain⟨callee,args,ats⟩:=c
     cases callee with
     |value f=>intro _;exact⟨λ_=>⟨rfl,rfl,rfl⟩,λK hx=>hx⟩
     |builtin b=>cases b<;>intro hp4<;>first|exact⟨λ_=>⟨rfl,rfl,rfl⟩,λK hx=>by rw[Ad _ _ _ _ _ rfl rfl rfl rfl]at hx;exact hx⟩|cases hp4
     |_=>intro hp;cases hp
    |_=>intro hp;cases hp
   rw[(key.1 h).1];dsimp only;rw[(key.1 h).2.1];dsimp only;rw[(key.1 h).2.2]
   grind[Ac]
  ·rw[xm]at hx;rw[CZ hl hd.1];exact vw hst hR l (j+1) _ h _ _ (by grind[jl]) hd.2 hdr' (by grind) (conf .skip (by simp)) hx
theorem j3{S:Sx}{nm:Nat}{M:List (List Nat×List Nat)}:∀(c:Code){p:List Nat}{tm:TS}{h:aa}{Q:eJ}{Q':Aw},tm.length=nm->gB nm c=true->(∀x tm h,tm.length=nm->Q x tm h->Q' x (fr tm) h)->wpS S nm M p c tm h Q->Pb S nm c (fr tm) h Q'
 |.skip,_,_,_,_,_,hl,_,hQ,hx=>hQ _ _ _ hl hx
 |.exit _,_,_,_,_,_,hl,_,hQ,hx=>hQ _ _ _ hl hx
 |.ret,_,_,_,_,_,hl,_,hQ,hx=>hQ _ _ _ hl hx
 |.label _,_,_,_,_,_,hl,_,hQ,hx=>hQ _ _ _ hl hx
 | .region _ ops draw,p,tm,h,Q,Q',hl,hd,hQ,hx=>by
  cases draw with
  |false=>exact sn (λtm h hl hx=>hQ _ _ _ hl hx) ops.toList hl hd hx
  | true=>
   cases hst:oz ops with
   |true=>
    have hx:(match oz ops with|true=>uc S (cM (gm ops)) ops h.next (room h ops.size) ops.toList 0 tm (room h ops.size) [] [] λtm h=>Q .normal tm h|false=>_):=hx;rw[hst]at hx;refine⟨?_,vw hst (λtm h hl hx=>hQ _ _ _ hl hx) ops.toList 0 tm _ [] [] hl hd rfl rfl (λk r h=>by simp at h) hx⟩
    simp_all[oz]
   |false=>
   have hx:(match oz ops with|true=>_|false=>UE S ops (fr tm) h (lift nm λtm h=>Q .normal tm h)):=hx;rw[hst]at hx;refine Pe (λE h hx=>?_) (show UE S ops (fr tm) h (lift nm λtm h=>Q .normal tm h)from hx);obtain⟨tm',h1,rfl,h2⟩:=hx
   grind
 |.seq a b,p,tm,h,Q,Q',hl,hd,hQ,hx=>by
  simp only[gB,and_eq_true]at hd;refine j3 a hl hd.1 (λx tm h hl hx=>?_) hx
  cases x with
  |normal=>exact j3 b hl hd.2 hQ hx
  |_=>exact hQ _ _ _ hl hx
 | .cond c a b,p,tm,h,Q,Q',hl,hd,hQ,hx=>by
  simp only[gB,and_eq_true]at hd;rw[Pc,BJ];simp only[wpS]at hx;unfold R1 at hx;split at hx
  ·next t he=>
   rw[he];rcases tZ hx with⟨rfl,h1⟩|⟨rfl,h1⟩
   ·exact j3 a hl hd.1 hQ h1
   ·exact j3 b hl hd.2 hQ h1
  grind
 | .block id c,p,tm,h,Q,Q',hl,hd,hQ,hx=>by
  refine j3 c hl hd (λx tm h hl hx=>?_) hx
  cases x with
  | exit id'=>
   show if id'=id then Q' .normal (fr tm) h else Q' (.exit id') (fr tm) h;simp only[Hk]at hx
   cases hb:Nat.beq id' id with
   |true=>simp_all
   |false=>
    rw[hb]at hx;rw[if_neg (Nat.ne_of_beq_eq_false hb)];grind
  |_=>exact hQ _ _ _ hl hx
 |.loop c,p,tm,h,Q,Q',hl,hd,hQ,hx=>by
  obtain⟨x,E',h',h1,h2⟩:=(show A5 S nm c (fr tm) h (Jo nm Q)from HW hl hx)
  refine⟨x,E',h',h1,?_⟩;obtain⟨tm',h3,rfl,h4⟩:=h2
  grind
 |.rangeFunc f ps a b,p,tm,h,Q,Q',hl,hd,hQ,hx=>by
  obtain⟨x,E',h',h1,h2⟩:=(show Hb S nm (.rangeFunc f ps a b) (fr tm) h (Jo nm Q)from hx)
  refine⟨x,E',h',h1,?_⟩;obtain⟨tm',h3,rfl,h4⟩:=h2
  grind
 |.scope _,_,_,_,_,_,_,_,_,hx=>hx.elim
 |.goto _,_,_,_,_,_,_,_,_,hx=>hx.elim
 |.refuse _,_,_,_,_,_,_,_,_,hx=>hx.elim
def XF(I:Nat->TH)(n:Nat)(tm:TS)(h:aa):Prop:=∃m,m<n/\I m tm h
def Ui(I:Nat->TH)(n:Nat)(Q:eJ)(x:Exit)(tm:TS)(h:aa):Prop:=match x with
 |.normal=>XF I n tm h
 |x=>Q x tm h
def JE:Code->Nat->Oper
 |.region _ ops _,i=>ops.toList.getD i ⟨none,.nilCheck (.tmp 0),0,"",#[],none⟩
 |_,_=>⟨none,.nilCheck (.tmp 0),0,"",#[],none⟩
def iH:List Nat->Code->Code
 |[],c=>c
 |0::p,.seq a _=>iH p a
 |_::p,.seq _ b=>iH p b
 |0::p,.cond _ a _=>iH p a
 |_::p,.cond _ _ b=>iH p b
 |_::p,.block _ a=>iH p a
 |_::p,.loop a=>iH p a
 |0::p,.rangeFunc _ _ a _=>iH p a
 |_::p,.rangeFunc _ _ _ b=>iH p b
 |_,_=> .skip
theorem HV{S:Sx}{nm:Nat}{M:List (List Nat×List Nat)}{p:List Nat}{c:Code}{Q:eJ}(hd:gB nm c=true)(I:Nat->TH)(hI:∀n tm h,tm.length=nm->I n tm h->wpS S nm M p c tm h (Ui I n Q)):∀n tm h,tm.length=nm->I n tm h->I0 S nm c tm h Q:=by
 intro n
 induction n using Nat.strongRecOn with
 | _ n ih=>
  intro tm h hl hi;refine ND hd (j3 c hl hd (λx tm h hl hx=>?_) (hI n tm h hl hi))
  cases x with
  |normal=>
   obtain⟨m,hm,hi'⟩:=hx;exact ih m hm tm h hl hi'
  |_=>exact⟨tm,hl,rfl,hx⟩
def aH(A:Nat->List Value->aa->Prop)(n:Nat)(w:List Value)(h:aa):Prop:=∃m,m<n/\A m w h
def Uh(M:List Nat)(A:Nat->List Value->aa->Prop)(n:Nat)(Q:eJ)(x:Exit)(tm:TS)(h:aa):Prop:=match x with
 |.normal=>aH A n (M.map (qZ tm)) h
 |x=>Q x tm h
theorem au{A B:Prop}(h:A)(e:A=B:=by kernel_rfl):B:=cast e h
def UH(S:Sx)(nm:Nat)(M:List (List Nat×List Nat)):List Nat->List Nat->Code->eJ->eJ
 |_,[],_,K=>K
 |p,0::q,.seq a b,K=>UH S nm M (0::p) q a (WM (λtm h=>wpS S nm M (1::p) b tm h K) K)
 |p,_::q,.seq _ b,K=>UH S nm M (1::p) q b K
 |p,0::q,.cond _ a _,K=>UH S nm M (0::p) q a K
 |p,_::q,.cond _ _ b,K=>UH S nm M (1::p) q b K
 |p,_::q,.block id a,K=>UH S nm M (0::p) q a (Hk id K)
 |_,_,_,K=>K
def LL(S:Sx)(X:FD)(p:List Nat)(w:List Value)(h:aa)(Q:eJ):Prop:=RW S X.nm (uV X.ms p) (iH p X.body) w h Q
def TT(S:Sx)(X:FD)(p:List Nat)(tm:TS)(h:aa)(Q:eJ):Prop:=wpS S X.nm X.ms p.reverse (iH p X.body) tm h Q
def KK(S:Sx)(X:FD)(q p:List Nat)(K:eJ):eJ:=UH S X.nm X.ms p.reverse q (iH p X.body) K
def RR(X:FD)(p:List Nat)(A:Nat->List Value->aa->Prop)(n:Nat)(Q:eJ):eJ:=Uh (uV X.ms p) A n Q
theorem Ce{S:Sx}{X:FD}{p:List Nat}{K:eJ}(A:Nat->List Value->aa->Prop)(hd:gB X.nm (iH p X.body)=true)
  (step:∀n w (x:Nat->Value) h,A n w h->TT S X p (wQ X.nm 0 ((uV X.ms p).zip w) x) h (RR X p A n K)) (n:Nat) {w:List Value} {h:aa} (hA:A n w h) (hq:∀x:Nat->Value,(uV X.ms p).map (qZ (wQ X.nm 0 ((uV X.ms p).zip w) x))=w):LL S X p w h K:=λx=>
 HV (M:=X.ms) (p:=p.reverse) hd (λm tm h=>A m ((uV X.ms p).map (qZ tm)) h) (λm tm h hl hi=>by
  have:=step m ((uV X.ms p).map (qZ tm)) (qZ tm) h hi;rw[FO hl]at this;exact this) n _ h (xg ..) (by grind)
def iR{α:Type}(W:α->LV)(I:Nat->α->aa->Prop)(n:Nat)(w:LV)(h:aa):Prop:=∃a,w=W a/\I n a h
theorem cH{α:Type}{W:α->LV}{I:Nat->α->aa->Prop}{n:Nat}(m:Nat){a:α}{h:aa}(hm:m<n)(hi:I m a h):aH (iR W I) n (W a) h:=⟨m,hm,a,rfl,hi⟩
theorem dK{S:Sx}{X:FD}{p:List Nat}{K:eJ}{α:Type}(W:α->LV)(I:Nat->α->aa->Prop)
  (step:∀n (a:α) (x:Nat->Value) h,I n a h->TT S X p (wQ X.nm 0 ((uV X.ms p).zip (W a)) x) h (RR X p (iR W I) n K)) (n:Nat) {a:α} {h:aa} (hi:I n a h) (hd:gB X.nm (iH p X.body)=true:=by kernel_rfl) (hq:∀x:Nat->Value,(uV X.ms p).map (qZ (wQ X.nm 0 ((uV X.ms p).zip (W a)) x))=W a:=by intro;kernel_rfl):LL S X p (W a) h K:=
 Ce (iR W I) hd (λn w x h ⟨a,hw,hi⟩=>by grind) n ⟨a,rfl,hi⟩ hq
def re{α β:Type}(W:α->β->LV)(I:Nat->α->β->aa->Prop)(n:Nat)(w:LV)(h:aa):Prop:=∃a b,w=W a b/\I n a b h
theorem iN{α β:Type}{W:α->β->LV}{I:Nat->α->β->aa->Prop}{n:Nat}(m:Nat){a:α}{b:β}{h:aa}(hm:m<n)(hi:I m a b h):aH (re W I) n (W a b) h:=⟨m,hm,a,b,rfl,hi⟩
theorem ng{S:Sx}{X:FD}{p:List Nat}{K:eJ}{α β:Type}(W:α->β->LV)(I:Nat->α->β->aa->Prop)
  (step:∀n (a:α) (b:β) (x:Nat->Value) h,I n a b h->TT S X p (wQ X.nm 0 ((uV X.ms p).zip (W a b)) x) h (RR X p (re W I) n K)) (n:Nat) {a:α} {b:β} {h:aa} (hi:I n a b h) (hd:gB X.nm (iH p X.body)=true:=by kernel_rfl) (hq:∀x:Nat->Value,(uV X.ms p).map (qZ (wQ X.nm 0 ((uV X.ms p).zip (W a b)) x))=W a b:=by intro;kernel_rfl):LL S X p (W a b) h K:=
 Ce (re W I) hd (λn w x h ⟨a,b,hw,hi⟩=>by grind) n ⟨a,b,rfl,hi⟩ hq
def Sr{α β γ:Type}(W:α->β->γ->LV)(I:Nat->α->β->γ->aa->Prop)(n:Nat)(w:LV)(h:aa):Prop:=∃a b c,w=W a b c/\I n a b c h
theorem Ft{α β γ:Type}{W:α->β->γ->LV}{I:Nat->α->β->γ->aa->Prop}{n:Nat}(m:Nat){a:α}{b:β}{c:γ}{h:aa}(hm:m<n)(hi:I m a b c h):aH (Sr W I) n (W a b c) h:=⟨m,hm,a,b,c,rfl,hi⟩
theorem OC{S:Sx}{X:FD}{p:List Nat}{K:eJ}{α β γ:Type}(W:α->β->γ->LV)(I:Nat->α->β->γ->aa->Prop)
  (step:∀n (a:α) (b:β) (c:γ) (x:Nat->Value) h,I n a b c h->TT S X p (wQ X.nm 0 ((uV X.ms p).zip (W a b c)) x) h (RR X p (Sr W I) n K)) (n:Nat) {a:α} {b:β} {c:γ} {h:aa} (hi:I n a b c h) (hd:gB X.nm (iH p X.body)=true:=by kernel_rfl) (hq:∀x:Nat->Value,(uV X.ms p).map (qZ (wQ X.nm 0 ((uV X.ms p).zip (W a b c)) x))=W a b c:=by intro;kernel_rfl):LL S X p (W a b c) h K:=
 Ce (Sr W I) hd (λn w x h ⟨a,b,c,hw,hi⟩=>by grind) n ⟨a,b,c,rfl,hi⟩ hq
def Ei{α β γ δ:Type}(W:α->β->γ->δ->LV)(I:Nat->α->β->γ->δ->aa->Prop)(n:Nat)(w:LV)(h:aa):Prop:=∃a b c d,w=W a b c d/\I n a b c d h
theorem BL{α β γ δ:Type}{W:α->β->γ->δ->LV}{I:Nat->α->β->γ->δ->aa->Prop}{n:Nat}(m:Nat){a:α}{b:β}{c:γ}{d:δ}{h:aa}(hm:m<n)(hi:I m a b c d h):aH (Ei W I) n (W a b c d) h:=⟨m,hm,a,b,c,d,rfl,hi⟩
theorem Gm{S:Sx}{X:FD}{p:List Nat}{K:eJ}{α β γ δ:Type}(W:α->β->γ->δ->LV)(I:Nat->α->β->γ->δ->aa->Prop)
  (step:∀n (a:α) (b:β) (c:γ) (d:δ) (x:Nat->Value) h,I n a b c d h->TT S X p (wQ X.nm 0 ((uV X.ms p).zip (W a b c d)) x) h (RR X p (Ei W I) n K)) (n:Nat) {a:α} {b:β} {c:γ} {d:δ} {h:aa} (hi:I n a b c d h) (hd:gB X.nm (iH p X.body)=true:=by kernel_rfl) (hq:∀x:Nat->Value,(uV X.ms p).map (qZ (wQ X.nm 0 ((uV X.ms p).zip (W a b c d)) x))=W a b c d:=by intro;kernel_rfl):LL S X p (W a b c d) h K:=
 Ce (Ei W I) hd (λn w x h ⟨a,b,c,d,hw,hi⟩=>by grind) n ⟨a,b,c,d,rfl,hi⟩ hq
def ui{α β γ δ ε:Type}(W:α->β->γ->δ->ε->LV)(I:Nat->α->β->γ->δ->ε->aa->Prop)(n:Nat)(w:LV)(h:aa):Prop:=∃a b c d e,w=W a b c d e/\I n a b c d e h
theorem jw{α β γ δ ε:Type}{W:α->β->γ->δ->ε->LV}{I:Nat->α->β->γ->δ->ε->aa->Prop}{n:Nat}(m:Nat){a:α}{b:β}{c:γ}{d:δ}{e:ε}{h:aa}(hm:m<n)(hi:I m a b c d e h):aH (ui W I) n (W a b c d e) h:=⟨m,hm,a,b,c,d,e,rfl,hi⟩
theorem zL{S:Sx}{X:FD}{p:List Nat}{K:eJ}{α β γ δ ε:Type}(W:α->β->γ->δ->ε->LV)(I:Nat->α->β->γ->δ->ε->aa->Prop)
  (step:∀n (a:α) (b:β) (c:γ) (d:δ) (e:ε) (x:Nat->Value) h,I n a b c d e h->TT S X p (wQ X.nm 0 ((uV X.ms p).zip (W a b c d e)) x) h (RR X p (ui W I) n K)) (n:Nat) {a:α} {b:β} {c:γ} {d:δ} {e:ε} {h:aa} (hi:I n a b c d e h) (hd:gB X.nm (iH p X.body)=true:=by kernel_rfl) (hq:∀x:Nat->Value,(uV X.ms p).map (qZ (wQ X.nm 0 ((uV X.ms p).zip (W a b c d e)) x))=W a b c d e:=by intro;kernel_rfl):LL S X p (W a b c d e) h K:=
 Ce (ui W I) hd (λn w x h ⟨a,b,c,d,e,hw,hi⟩=>by grind) n ⟨a,b,c,d,e,rfl,hi⟩ hq
def Xx{α β γ δ ε ζ:Type}(W:α->β->γ->δ->ε->ζ->LV)(I:Nat->α->β->γ->δ->ε->ζ->aa->Prop)(n:Nat)(w:LV)(h:aa):Prop:=∃a b c d e f,w=W a b c d e f/\I n a b c d e f h
theorem Vx{α β γ δ ε ζ:Type}{W:α->β->γ->δ->ε->ζ->LV}{I:Nat->α->β->γ->δ->ε->ζ->aa->Prop}{n:Nat}(m:Nat){a:α}{b:β}{c:γ}{d:δ}{e:ε}{f:ζ}{h:aa}(hm:m<n)(hi:I m a b c d e f h):aH (Xx W I) n (W a b c d e f) h:=⟨m,hm,a,b,c,d,e,f,rfl,hi⟩
theorem WK{S:Sx}{X:FD}{p:List Nat}{K:eJ}{α β γ δ ε ζ:Type}(W:α->β->γ->δ->ε->ζ->LV)(I:Nat->α->β->γ->δ->ε->ζ->aa->Prop)
  (step:∀n (a:α) (b:β) (c:γ) (d:δ) (e:ε) (f:ζ) (x:Nat->Value) h,I n a b c d e f h->TT S X p (wQ X.nm 0 ((uV X.ms p).zip (W a b c d e f)) x) h (RR X p (Xx W I) n K)) (n:Nat) {a:α} {b:β} {c:γ} {d:δ} {e:ε} {f:ζ} {h:aa} (hi:I n a b c d e f h) (hd:gB X.nm (iH p X.body)=true:=by kernel_rfl) (hq:∀x:Nat->Value,(uV X.ms p).map (qZ (wQ X.nm 0 ((uV X.ms p).zip (W a b c d e f)) x))=W a b c d e f:=by intro;kernel_rfl):LL S X p (W a b c d e f) h K:=
 Ce (Xx W I) hd (λn w x h ⟨a,b,c,d,e,f,hw,hi⟩=>by grind) n ⟨a,b,c,d,e,f,rfl,hi⟩ hq
noncomputable def Iq(S:Sx)(tm:TS)(h:aa):List ResultVar->Option (List Value)
 |[]=>some []
 |.tmp t::r=>(Iq S tm h r).map (tm.getD t undef::·)
 |.cell a t::r=>match ai S.P t h (tm.getD a undef)with
  |some v=>(Iq S tm h r).map (v::·)
  |none=>none
theorem xq(S:Sx)(tm:TS)(h:aa):∀l,qY S (fr tm) h l=Iq S tm h l
 |[]=>rfl
 |.tmp t::r=>by simp only[qY,Iq,xq S tm h r,fr]
 |.cell a t::r=>by simp only[qY,Iq,xq S tm h r,fr];try (cases ai S.P t h (tm.getD a undef)<;>rfl)
noncomputable def Vn(S:Sx)(rs:List ResultVar)(Q:VH)(x:Exit)(tm:TS)(h:aa):Prop:=match x with
 |.normal=>wj (Iq S tm h rs) h Q
 |.ret=>wj (Iq S tm h rs) h Q
 |_=>False
noncomputable def Ov(S:Sx)(h:aa):List (Value×Option TypeId)->Option (List Value)
 |[]=>some []
 |(v,none)::r=>(Ov S h r).map (v::·)
 |(a,some t)::r=>match ai S.P t h a with
  |some v=>(Ov S h r).map (v::·)
  |none=>none
noncomputable def lR(S:Sx)(l:List (Value×Option TypeId))(h:aa)(Q:VH):Prop:=wj (Ov S h l) h Q
theorem MX{S:Sx}{a:Value}{t:TypeId}{v:Value}{h:aa}{Q:VH}(hl:ai S.P t h a=some v)(hq:Q v h):lR S [(a,some t)] h Q:=by
 unfold lR;simp only[Ov,hl];exact hq
theorem E3{S:Sx}{a:Value}{t:TypeId}{v w:Value}{h:aa}{Q:VH}(hl:ai S.P t h a=some v)(hq:Q (.tuple ⟨[v,w]⟩) h):lR S [(a,some t),(w,none)] h Q:=by
 unfold lR;simp only[Ov,hl];exact hq
noncomputable def EE(S:Sx)(X:FD)(Q:VH):eJ:=Vn S X.rs Q
theorem dM{S:Sx}(X:FD){f:FuncId}{fn:Func}{args:List Value}{h:aa}{Q:VH}(hf:S.P.funcs[f]?=some fn)
  (hw:wpS S X.nm X.ms [] X.body (args++List.replicate (X.nm-args.length) undef) h (EE S X Q)) (hX:X=dJ fn X.ms:=by kernel_rfl) (hp:(Nat.blt f YB&&(S.pr f).isNone&&Nat.ble args.length X.nm&&gB X.nm X.body&&fn.body.isSome)=true:=by kernel_rfl):FW S f args h Q:=by
 have e1:X.nm=fn.ntmps:=by rw[hX];rfl
 have e2:X.body=fn.body.getD .skip:=by rw[hX];rfl
 have e3:X.rs=fn.results.toList:=by rw[hX];rfl
 unfold EE at hw;rw[e1,e2,e3]at hw;rw[e1,e2]at hp;simp only[and_eq_true,blt_eq,Nat.ble_eq,Option.isNone_iff_eq_none]at hp;obtain⟨⟨⟨⟨h1,h2⟩,h3⟩,h4⟩,h5⟩:=hp;obtain⟨c,hb⟩:=Option.isSome_iff_exists.1 h5;rw[hb]at hw h4;have hw:wpS S fn.ntmps X.ms [] c (args++List.replicate (fn.ntmps-args.length) undef) h (Vn S fn.results.toList Q):=hw;have h4:gB fn.ntmps c=true:=h4;have hl:(args++List.replicate (fn.ntmps-args.length) undef).length=fn.ntmps:=by simp;omega
 have he:fr (args++List.replicate (fn.ntmps-args.length) undef)=SC args:=by
  funext t;show(args++List.replicate (fn.ntmps-args.length) undef).getD t undef=args.getD t undef;simp only[gD];by_cases h5:t<args.length
  ·grind
  ·grind
 refine Vw hf hb h1 h2 h3 h4 ?_;rw[<-he];refine j3 c hl h4 (λx tm h _ hx=>?_) hw
 cases x with
 |normal=>show wj (qY S (fr tm) h _) h Q;rw[xq];exact hx
 |ret=>show wj (qY S (fr tm) h _) h Q;rw[xq];exact hx
 |_=>exact hx.elim
theorem aA{n:Int}(h1: -9223372036854775808<=n)(h2:n<9223372036854775808):wrap .i64 n=n:=by grind[IntKind.wrap_i64]
theorem e9{n:Int}(h1:0<=n)(h2:n<18446744073709551616):wrap .u64 n=n:=by grind[IntKind.wrap_u64]
theorem oE{n:Int}(h1:0<=n)(h2:n<256):wrap .u8 n=n:=by grind[IntKind.wrap_u8]
theorem lC{P:Program}{t:TypeId}(hU:P.underlying t=some .string)(l:List UInt8)(k:IntKind){i:Int}(h0:0<=i)(h1:i<l.length):bp P t (strOf l) (.int k i)=some (.int .u8 ((l.getD i.toNat 0).toNat:Nat)):=by simp_all[bp,strOf]
theorem lD{P:Program}{t:TypeId}(hU:P.underlying t=some .string)(l:List UInt8){h:aa}{lo hi:Option Value}{a b:Nat}(ha:eu lo 0=some (a:Int))(hb:eu hi l.length=some (b:Int))(h1:a<=b)(h2:b<=l.length):bt P t (strOf l) lo hi none h=some (strOf ((l.drop a).take (b-a))):=by simp_all[bt,strOf]
theorem Pz{P:Program}{t:TypeId}(a b:List UInt8)(h:a.length+b.length<=4611686018427387904):ay P .add t (strOf a) (strOf b)=some (strOf (a++b)):=by
 show Co .add a b=_
 simp_all[Co]
structure Ok(h0 h:aa):Prop where
 wf:∀k B,h.get k=some B->k<h.next
 ext:∀k B,h0.get k=some B->h.get k=some B
 nx:h0.next<=h.next
def Wf(h:aa):Prop:=∀k B,h.get k=some B->k<h.next
theorem Ok.refl{h:aa}(w:Wf h):Ok h h:=⟨w,λ_ _ h=>h,Nat.le_refl _⟩
theorem Ok.trans{h0 h1 h2:aa}(a:Ok h0 h1)(b:Ok h1 h2):Ok h0 h2:=⟨b.wf,λk B h=>b.ext k B (a.ext k B h),Nat.le_trans a.nx b.nx⟩
theorem Ok.push{h0 h:aa}(a:Ok h0 h)(B:bO):Ok h0 (h.push B):=by
 refine⟨aa.mR a.wf B,λk C hk=>?_,Nat.le_trans a.nx (le_succ _)⟩;have h1:=a.ext k C hk;rw[aa.aR,if_neg (λe=>by have:=a.wf _ _ h1;omega)];omega
theorem Ok.set{h0 h:aa}(a:Ok h0 h){k:Nat}(B:bO)(hk:h0.next<=k)(hk2:k<h.next)(w0:Wf h0):Ok h0 (h.set k B):=by
 refine⟨λj C hj=>?_,λj C hj=>?_,a.nx⟩
 ·rw[aa.aX]at hj;split at hj
  ·simp_all
  ·exact a.wf _ _ hj
 ·rw[aa.aX,if_neg (λe=>by have:=w0 _ _ hj;omega)];exact a.ext _ _ hj
theorem Ok.room{h0 h:aa}(a:Ok h0 h)(n:Nat):Ok h0 (room h n):=⟨λk B hk=>lt_of_lt_of_le (a.wf k B hk) (Nat.le_add_right _ _),a.ext,Nat.le_trans a.nx (Nat.le_add_right _ _)⟩
def cZ(h0 h:aa)(e:TypeId)(v:Value)(vs:List Value):Prop:=
 (v = .slice none 0 0/\vs=[])\/ ∃k cs,v = .slice (some ⟨k,0,none⟩) vs.length (bV+cs.length)/\h0.next<=k/\h.get k=some (.cells cs e 1 true)/\cs.take vs.length=vs/\vs.length<=cs.length
theorem cZ.push{h0 h:aa}{e:TypeId}{v:Value}{vs:List Value}(a:Ok h0 h)(o:cZ h0 h e v vs)(B:bO):cZ h0 (h.push B) e v vs:=by
 rcases o with o|⟨k,cs,h1,h2,h3,h4,h5⟩
 ·exact .inl o
 ·refine .inr ⟨k,cs,h1,h2,?_,h4,h5⟩;rw[aa.aR,if_neg (λe=>by have:=a.wf _ _ h3;omega)];omega
theorem cZ.snoc{P:Program}{t e:TypeId}{i:TypeInfo}(hU:P.underlying t=some (.slice e))(hE:eZ P e=some i)(hs:i.size=1){h0 h:aa}(w0:Wf h0)(a:Ok h0 h){v:Value}{vs:List Value}(o:cZ h0 h e v vs){x:Value}(hx:di x=true)(hl:(vs.length+1)*i.bytes<=70368744177664)(hl2:vs.length+1<=1099511627776):
  ∃(b:Option Addr)(n c:Nat)(u:cX),aO P t t v (my 1 1 h.next) (h.push (.cells [x] e 1 true))=some (.slice b n c,u)/\n=vs.length+1/\cZ h0 (u.app (h.push (.cells [x] e 1 true))) e (.slice b n c) (vs++[x])/\Ok h0 (u.app (h.push (.cells [x] e 1 true))):=by
 have hT:dL P t=true:=by unfold dL;rw[hU]
 have hsrc:fp (h.push (.cells [x] e 1 true)) i.size (my 1 1 h.next)=some ([x],1):=by
  show(match (h.push (.cells [x] e 1 true)).get h.next with|some (.cells cs ..)=>if((cs.drop 0).take (1*i.size)).length=1*i.size then some ((cs.drop 0).take (1*i.size),1)else none|_=>none)=_;rw[aa.aR,if_pos rfl,hs];rfl
 have hap:=cZ.push a o (.cells [x] e 1 true);have a':=a.push (.cells [x] e 1 true);generalize hh:h.push (.cells [x] e 1 true)=g at*;have hgn:h.next<g.next:=by rw[<-hh];exact Nat.lt_succ_self _
 unfold aO;rw[hU];dsimp only;rw[hE];dsimp only;rw[if_pos hT,hsrc];dsimp only;rw[if_pos (by grind)];rcases hap with⟨rfl,rfl⟩|⟨k,cs,rfl,h2,h3,h4,h5⟩
 ·show ∃b n c u,(if 1=0 then some (Value.slice none 0 0,cX.no)else if 1*i.bytes<=70368744177664/\1<=1099511627776 then some (Value.slice (some ⟨g.next,0,none⟩) 1 (bV+1),cX.push (.cells [x] e i.size true))else none)=_/\_;rw[if_neg (by omega),if_pos (by grind)];refine⟨_,_,_,_,rfl,rfl,.inr ⟨g.next,[x],rfl,a'.nx,?_,rfl,by simp⟩,a'.push _⟩;show(g.push (.cells [x] e i.size true)).get g.next=_;rw[aa.aR,if_pos rfl,hs]
 ·dsimp only;rw[if_neg (by omega),hs,mul_one];have hcap:bn (bV+cs.length)=cs.length:=by unfold bn;rw[if_pos (by omega)];omega
  rw[hcap];have hkn:=a'.wf _ _ h3;by_cases hroom:vs.length+1<=cs.length
  ·rw[if_pos hroom];unfold storeAt;rw[zero_add,h3];dsimp only;rw[if_pos ⟨by omega,by grind⟩];refine⟨_,_,_,_,rfl,rfl,.inr ⟨k,cs.take vs.length++[x]++cs.drop (vs.length+1),?_,h2,?_,?_,?_⟩,?_⟩
   ·grind
   ·show(g.set k _).get k=_;simp[aa.aX]
   ·grind
   ·grind
   ·exact a'.set _ h2 hkn w0
  ·rw[if_neg hroom];have hcl:cs.length=vs.length:=by omega
   unfold ja;rw[if_pos ⟨hl,hl2⟩,h3];dsimp only;rw[mul_one,if_pos ⟨rfl,rfl,by grind⟩,if_neg (by omega),if_pos ⟨rfl,by omega⟩];refine⟨_,_,_,_,rfl,rfl,.inr ⟨g.next,vs++[x],?_,a'.nx,?_,?_,?_⟩,?_⟩
   ·grind
   ·show((g.del k).push _).get g.next=_
    simp_all[aa.aR]
   ·grind
   ·omega
   ·refine⟨?_,λj C hj=>?_,Nat.le_trans a'.nx (le_succ _)⟩
    ·refine aa.mR (λj C hj=>?_) _;rw[aa.dW]at hj;split at hj
     ·grind
     ·exact a'.wf _ _ hj
    ·have h7:=a'.ext _ _ hj;have h8:=a'.wf _ _ h7;show((g.del k).push _).get j=_;rw[aa.aR,if_neg (λe=>by have:j=g.next:=e;omega),aa.dW,if_neg (λe=>by have:=w0 _ _ hj;omega)];omega
def Rd(h:aa)(e:TypeId)(v:Value)(vs:List Value):Prop:=
 (v = .slice none 0 0/\vs=[])\/ ∃k off cs c wr,v = .slice (some ⟨k,off,none⟩) vs.length c/\h.get k=some (.cells cs e 1 wr)/\(cs.drop off).take vs.length=vs
theorem cZ.rd{h0 h:aa}{e:TypeId}{v:Value}{vs:List Value}(o:cZ h0 h e v vs):Rd h e v vs:=by
 rcases o with o|⟨k,cs,h1,h2,h3,h4,h5⟩
 ·exact .inl o
 ·exact .inr ⟨k,0,cs,_,true,h1,h3,by grind⟩
theorem Rd.ok{h h':aa}{e:TypeId}{v:Value}{vs:List Value}(r:Rd h e v vs)(o:Ok h h'):Rd h' e v vs:=by
 rcases r with r|⟨k,off,cs,c,wr,h1,h2,h3⟩
 ·exact .inl r
 ·exact .inr ⟨k,off,cs,c,wr,h1,o.ext _ _ h2,h3⟩
theorem Rd.len{h:aa}{e:TypeId}{a:Option Addr}{n c:Nat}{vs:List Value}(r:Rd h e (.slice a n c) vs):n=vs.length:=by
 rcases r with⟨h1,rfl⟩|⟨k,off,cs,c,wr,h1,h2,h3⟩
 all_goals grind
theorem cZ.len{h0 h:aa}{e:TypeId}{a:Option Addr}{n c:Nat}{vs:List Value}(r:cZ h0 h e (.slice a n c) vs):n=vs.length:=r.rd.len
theorem Rd.at_{P:Program}{t e:TypeId}{d:TypeDesc}(hU:P.underlying t=some (.slice e))(hs:aB P e=some 1)(hd:P.underlying e=some d)(hg:isAgg P e=false){h:aa}{v:Value}{vs:List Value}(r:Rd h e v vs){k:IntKind}{i:Int}(h0:0<=i)(h1:i<vs.length):
  ∃p:Addr,af P t v (.int k i)=some (.pointer (some p))/\ai P e h (.pointer (some p))=some (vs.getD i.toNat undef):=by
 rcases r with⟨_,rfl⟩|⟨b,off,cs,c,wr,rfl,h3,h4⟩
 ·grind
 ·refine⟨⟨b,off+i.toNat*1,none⟩,?_,?_⟩
  ·simp_all[af,Addr.add]
  ·unfold ai
   grind
def oT(c:UInt8):Value:= .int .u8 (c.toNat:Nat)
theorem mE:∀l:List UInt8,bytesOf (l.map oT)=some l
 |[]=>rfl
 |c::l=>by
  have hc:c.toNat<256:=c.toNat_lt;show(if 0<=((c.toNat:Nat):Int)/\((c.toNat:Nat):Int)<256 then(bytesOf (l.map oT)).map (UInt8.ofNat ((c.toNat:Nat):Int).toNat::·)else none)=_;rw[if_pos (by omega),mE l,Int.toNat_natCast];simp
theorem Rv{P:Program}{s d e:TypeId}(hs:P.underlying s=some (.slice e))(hd:P.underlying d=some .string)(he:P.underlying e=some (.int .u8)){h:aa}{v:Value}{l:List UInt8}(r:Rd h e v (l.map oT)):w6 P s d v h=some (strOf l):=by
 unfold w6 aY;dsimp only;rw[hs,hd];rcases r with⟨rfl,h2⟩|⟨k,off,cs,c,wr,rfl,h2,h3⟩
 all_goals simp_all[mE]
theorem cZ.ok{h0 h h':aa}{e:TypeId}{v:Value}{vs:List Value}(r:cZ h0 h e v vs)(o:Ok h h'):cZ h0 h' e v vs:=by
 rcases r with r|⟨k,cs,h1,h2,h3,h4,h5⟩
 ·exact .inl r
 ·exact .inr ⟨k,cs,h1,h2,o.ext _ _ h3,h4,h5⟩
theorem cZ.from_{P:Program}{t e:TypeId}(hU:P.underlying t=some (.slice e))(hs:aB P e=some 1){h0 h:aa}{v:Value}{vs:List Value}(r:cZ h0 h e v vs){z:Nat}(hz:z<vs.length):
  ∃a n c,bt P t v (some (.int .i64 (z:Int))) none none h=some (.slice a n c)/\Rd h e (.slice a n c) (vs.drop z):=by
 rcases r with⟨rfl,rfl⟩|⟨k,cs,rfl,h2,h3,h4,h5⟩
 ·grind
 ·refine⟨some ⟨k,0+z*1,none⟩,vs.length-z,bV+cs.length-z,?_,.inr ⟨k,0+z*1,cs,_,true,by rw[List.length_drop],h3,?_⟩⟩
  ·unfold bt;dsimp only;rw[hU];dsimp only[eu];rw[hs,h3];dsimp only;have hcap:bn (bV+cs.length)=cs.length:=by unfold bn;rw[if_pos (by omega)];omega
   grind
  ·rw[zero_add,mul_one,List.length_drop];have:=congrArg (List.drop z) h4
   grind[List.drop_take]
theorem cZ.upto{P:Program}{t e:TypeId}(hU:P.underlying t=some (.slice e))(hs:aB P e=some 1){h0 h:aa}{v:Value}{vs:List Value}(r:cZ h0 h e v vs){z:Nat}(hz:z<=vs.length)(hp:0<vs.length):
  ∃a n c,bt P t v none (some (.int .i64 (z:Int))) none h=some (.slice a n c)/\cZ h0 h e (.slice a n c) (vs.take z):=by
 rcases r with⟨rfl,rfl⟩|⟨k,cs,rfl,h2,h3,h4,h5⟩
 ·grind
 ·refine⟨some ⟨k,0+0*1,none⟩,z,bV+cs.length,?_,.inr ⟨k,cs,?_,h2,h3,?_,?_⟩⟩
  ·unfold bt;dsimp only;rw[hU];dsimp only[eu];rw[hs,h3];dsimp only;have hcap:bn (bV+cs.length)=cs.length:=by unfold bn;rw[if_pos (by omega)];omega
   rw[if_pos (by simp),hcap,if_pos (by omega)];have e2:((z:Int)-((0:Nat):Int)).toNat=z:=by omega
   have e0:((0:Nat):Int).toNat=0:=rfl;rw[e2,e0];rfl
  all_goals grind
theorem tA(k:IntKind)(a b:Int):oV true [.int k a,.int k b]=some (.int k (if b>a then b else a)):=by simp[oV]
theorem eW{P:Program}{t:TypeId}{k:IntKind}{a:Int}{b:Nat}(h0:0<=a)(hb:0<b):ay P .rem t (.int k a) (.int k (b:Int))=some (.int k (a%(b:Int))):=by grind[PK]
theorem mM{P:Program}{t:TypeId}{a:Int}{b:Nat}(h0:0<=a)(h1:a<18446744073709551616)(hb:0<b):ay P .quo t (.int .u64 a) (.int .u64 (b:Int))=some (.int .u64 (a/(b:Int))):=by
 rw[CL P t .u64 _ _ (by omega),Int.tdiv_eq_ediv_of_nonneg h0,e9 (Int.ediv_nonneg h0 (by omega)) (Int.lt_of_le_of_lt (Int.ediv_le_self _ h0) h1)]
def setAt:List Nat->Code->Code->Code
 |[],n,_=>n
 |0::p,n,.seq a b=> .seq (setAt p n a) b
 |_::p,n,.seq a b=> .seq a (setAt p n b)
 |0::p,n,.cond c a b=> .cond c (setAt p n a) b
 |_::p,n,.cond c a b=> .cond c a (setAt p n b)
 |_::p,n,.block i c=> .block i (setAt p n c)
 |_::p,n,.loop c=> .loop (setAt p n c)
 |_::_,_,c=>c
theorem gh:∀(p:List Nat)(c:Code),setAt p (iH p c) c=c
 |[],c=>rfl
 |i::p,c=>by
  cases c with
  |seq a b=>cases i<;>simp only[iH,setAt,gh p]
  |cond c a b=>cases i<;>simp only[iH,setAt,gh p]
  |block i c=>simp only[iH,setAt,gh p]
  |loop c=>simp only[iH,setAt,gh p]
  |_=>simp only[setAt]
theorem cZ.WT{P:Program}{t e:TypeId}{i:TypeInfo}(hU:P.underlying t=some (.slice e))(hE:eZ P e=some i)(hs:i.size=1){h0 h:aa}(w0:Wf h0)(a:Ok h0 h){v:Value}{vs:List Value}(o:cZ h0 h e v vs){x:Value}(hx:di x=true)(hl:(vs.length+1)*i.bytes<=70368744177664)(hl2:vs.length+1<=1099511627776):
  ∃(b:Option Addr)(n c:Nat)(u:cX),aO P t t v (my 1 1 h.next) (h.push (.cells [x] e 1 true))=some (.slice b n c,u)/\n=vs.length+1/\cZ h0 (u.app (h.push (.cells [x] e 1 true))) e (.slice b n c) (vs++[x])/\Ok h0 (u.app (h.push (.cells [x] e 1 true)))/\
   (∀j B,h.get j=some B->(∀o n c,v≠ .slice (some ⟨j,o,none⟩) n c)->(u.app (h.push (.cells [x] e 1 true))).get j=some B)/\
   (∀j o m d,Value.slice b n c = .slice (some ⟨j,o,none⟩) m d->h.next<=j\/ ∃o n c,v = .slice (some ⟨j,o,none⟩) n c):=by
 have hT:dL P t=true:=by unfold dL;rw[hU]
 have hsrc:fp (h.push (.cells [x] e 1 true)) i.size (my 1 1 h.next)=some ([x],1):=by
  show(match (h.push (.cells [x] e 1 true)).get h.next with|some (.cells cs ..)=>if((cs.drop 0).take (1*i.size)).length=1*i.size then some ((cs.drop 0).take (1*i.size),1)else none|_=>none)=_;rw[aa.aR,if_pos rfl,hs];rfl
 have hap:=cZ.push a o (.cells [x] e 1 true);have a':=a.push (.cells [x] e 1 true);have old:∀j B,h.get j=some B->(h.push (.cells [x] e 1 true)).get j=some B:=λj B hj=>by
  rw[aa.aR,if_neg (λe=>by have:=a.wf _ _ hj;omega)];omega
 have oldn:∀j B,h.get j=some B->j<h.next:=λj B hj=>a.wf _ _ hj;generalize hh:h.push (.cells [x] e 1 true)=g at*;have hgn:h.next<g.next:=by rw[<-hh];exact Nat.lt_succ_self _
 unfold aO;rw[hU];dsimp only;rw[hE];dsimp only;rw[if_pos hT,hsrc];dsimp only;rw[if_pos (by grind)];rcases hap with⟨rfl,rfl⟩|⟨k,cs,rfl,h2,h3,h4,h5⟩
 ·show ∃b n c u,(if 1=0 then some (Value.slice none 0 0,cX.no)else if 1*i.bytes<=70368744177664/\1<=1099511627776 then some (Value.slice (some ⟨g.next,0,none⟩) 1 (bV+1),cX.push (.cells [x] e i.size true))else none)=_/\_;rw[if_neg (by omega),if_pos (by grind)];refine⟨_,_,_,_,rfl,rfl,.inr ⟨g.next,[x],rfl,a'.nx,?_,rfl,by simp⟩,a'.push _,λj B hj _=>?_,λj o m d e=> .inl ?_⟩
  rotate_left
  ·show(g.push _).get j=_;rw[aa.aR,if_neg (λe=>by have:=oldn _ _ hj;omega)]
   grind
  ·grind
  show(g.push (.cells [x] e i.size true)).get g.next=_;rw[aa.aR,if_pos rfl,hs]
 ·dsimp only;rw[if_neg (by omega),hs,mul_one];have hcap:bn (bV+cs.length)=cs.length:=by unfold bn;rw[if_pos (by omega)];omega
  rw[hcap];have hkn:=a'.wf _ _ h3;by_cases hroom:vs.length+1<=cs.length
  ·rw[if_pos hroom];unfold storeAt;rw[zero_add,h3];dsimp only;rw[if_pos ⟨by omega,by grind⟩];refine⟨_,_,_,_,rfl,rfl,.inr ⟨k,cs.take vs.length++[x]++cs.drop (vs.length+1),?_,h2,?_,?_,?_⟩,?_,λj B hj hv=>?_,λj o m d e=> .inr ?_⟩
   rotate_left 5
   ·show(g.set k _).get j=_;rw[aa.aX,if_neg (λe=>hv 0 _ _ (by rw[e]))]
    grind
   ·grind
   ·grind
   ·show(g.set k _).get k=_;simp[aa.aX]
   ·grind
   ·grind
   ·exact a'.set _ h2 hkn w0
  ·rw[if_neg hroom];have hcl:cs.length=vs.length:=by omega
   unfold ja;rw[if_pos ⟨hl,hl2⟩,h3];dsimp only;rw[mul_one,if_pos ⟨rfl,rfl,by grind⟩,if_neg (by omega),if_pos ⟨rfl,by omega⟩];refine⟨_,_,_,_,rfl,rfl,.inr ⟨g.next,vs++[x],?_,a'.nx,?_,?_,?_⟩,?_,λj B hj hv=>?_,λj o m d e=> .inl ?_⟩
   rotate_left 5
   ·show((g.del k).push _).get j=_;rw[aa.aR,if_neg (λe=>by have:=oldn _ _ hj;have:j=g.next:=e;omega),aa.dW,if_neg (λe=>hv 0 _ _ (by rw[e]))]
    grind
   ·grind
   ·grind
   ·show((g.del k).push _).get g.next=_
    simp_all[aa.aR]
   ·grind
   ·omega
   ·refine⟨?_,λj C hj=>?_,Nat.le_trans a'.nx (le_succ _)⟩
    ·refine aa.mR (λj C hj=>?_) _;rw[aa.dW]at hj;split at hj
     ·grind
     ·exact a'.wf _ _ hj
    ·have h7:=a'.ext _ _ hj;have h8:=a'.wf _ _ h7;show((g.del k).push _).get j=_;rw[aa.aR,if_neg (λe=>by have:j=g.next:=e;omega),aa.dW,if_neg (λe=>by have:=w0 _ _ hj;omega)];omega
def Ha(h0 h:aa)(e:TypeId)(v:Value)(vs:List Value):Prop:=
 (v = .slice none 0 0/\vs=[])\/ ∃k,v = .slice (some ⟨k,0,none⟩) vs.length (bV+vs.length)/\h0.next<=k/\h.get k=some (.cells vs e 1 true)
theorem Ha.XI{P:Program}{t e t':TypeId}{i:TypeInfo}(hU:P.underlying t=some (.slice e))(hE:eZ P e=some i)(hs:i.size=1)(hT:dL P t'=true){h0 h:aa}(w0:Wf h0)(a:Ok h0 h){v:Value}{vs:List Value}(o:Ha h0 h e v vs){x:Value}{news:List Value}(hsrc:fp h 1 x=some (news,news.length))(hx:news.all di=true)(hl:(vs.length+news.length)*i.bytes<=70368744177664)(hl2:vs.length+news.length<=1099511627776):
  ∃(b:Option Addr)(n c:Nat)(u:cX),aO P t t' v x h=some (.slice b n c,u)/\Ha h0 (u.app h) e (.slice b n c) (vs++news)/\Ok h0 (u.app h)/\(∀j B,h.get j=some B->(∀o n c,v≠ .slice (some ⟨j,o,none⟩) n c)->(u.app h).get j=some B):=by
 have oldn:∀j B,h.get j=some B->j<h.next:=λj B hj=>a.wf _ _ hj;unfold aO;rw[hU];dsimp only;rw[hE];dsimp only;rw[if_pos hT,hs,hsrc];dsimp only;rw[if_pos ⟨hx,by omega⟩];rcases o with⟨rfl,rfl⟩|⟨k,rfl,h2,h3⟩
 ·show ∃b n c u,(if news.length=0 then some (Value.slice none 0 0,cX.no)else if news.length*i.bytes<=70368744177664/\news.length<=1099511627776 then some (Value.slice (some ⟨h.next,0,none⟩) news.length (bV+news.length),cX.push (.cells news e 1 true))else none)=_/\_;by_cases hz:news.length=0
  ·have hn:news=[]:=eq_nil_of_length_eq_zero hz;subst hn;exact⟨_,_,_,_,rfl,.inl ⟨rfl,rfl⟩,a,λj B hj _=>hj⟩
  ·rw[if_neg hz,if_pos (by grind)];refine⟨_,_,_,_,rfl,.inr ⟨h.next,by simp,a.nx,?_⟩,a.push _,λj B hj _=>?_⟩
   ·show(h.push _).get h.next=_;simp[aa.aR]
   ·show(h.push _).get j=_;rw[aa.aR,if_neg (λe=>by have:=oldn _ _ hj;omega)];omega
 ·dsimp only;have hkn:=a.wf _ _ h3;by_cases hz:news.length=0
  ·have hn:news=[]:=eq_nil_of_length_eq_zero hz;subst hn;refine⟨_,_,_,_,rfl,.inr ⟨k,by simp,h2,by rw[List.append_nil];exact h3⟩,a,λj B hj _=>hj⟩
  ·rw[if_neg hz,mul_one];have hcap:bn (bV+vs.length)=vs.length:=by unfold bn;rw[if_pos (by omega)];omega
   rw[hcap,if_neg (by omega)];unfold ja;rw[if_pos ⟨hl,hl2⟩,h3];dsimp only;rw[mul_one,if_pos ⟨rfl,rfl,by simp⟩,if_neg (by omega),if_pos ⟨rfl,by omega⟩];refine⟨_,_,_,_,rfl,.inr ⟨h.next,by simp,a.nx,?_⟩,?_,λj B hj hv=>?_⟩
   ·show((h.del k).push _).get h.next=_
    simp_all[aa.aR]
   ·refine⟨?_,λj C hj=>?_,Nat.le_trans a.nx (le_succ _)⟩
    ·refine aa.mR (λj C hj=>?_) _;rw[aa.dW]at hj
     simp_all
    ·have h7:=a.ext _ _ hj;have h8:=a.wf _ _ h7;show((h.del k).push _).get j=_;rw[aa.aR,if_neg (λe=>by have:j=h.next:=e;omega),aa.dW,if_neg (λe=>by have:=w0 _ _ hj;omega)];omega
   ·show((h.del k).push _).get j=_;rw[aa.aR,if_neg (λe=>by have:=oldn _ _ hj;have:j=h.next:=e;omega),aa.dW,if_neg (λe=>hv 0 _ _ (by rw[e]))];omega
theorem C0{S:Sx}{f:FuncId}{p:mw}{args:List Value}{h h':aa}{v:Value}{Q:VH}(hY:Nat.ble YB f=false)(hp:S.pr f=some p)(hr:∀cf,p cf args h=some (v,h'))(hq:Q v h'):FW S f args h Q:=by
 refine⟨v,h',⟨1,λn hn=>?_⟩,hq⟩;obtain⟨m,rfl⟩:∃m,n=m+1:=⟨n-1,by omega⟩
 have hY':¬YB<=f:=λh=>by rw[<-Nat.ble_eq]at h;rw[hY]at h;cases h
 simp_all[if_neg,aW]
theorem JZ(k i j:Nat):Addr.add ⟨k,i,none⟩ j=⟨k,i+j,none⟩:=by simp[Addr.add]
theorem Fw{P:Program}{t e:TypeId}{sz:Nat}(hU:P.underlying t=some (.slice e))(hs:aB P e=some sz){k off n c:Nat}{ik:IntKind}{i:Int}(h0:0<=i)(h1:i<n):af P t (.slice (some ⟨k,off,none⟩) n c) (.int ik i)=some (.pointer (some ⟨k,off+i.toNat*sz,none⟩)):=by simp_all[JZ,af]
theorem gG{P:Program}{t:TypeId}{d:TypeDesc}(hU:P.underlying t=some d)(ha:isAgg P t=false){h:aa}{k i:Nat}{cs:List Value}{e:TypeId}{sz:Nat}{wr:Bool}(hg:h.get k=some (.cells cs e sz wr))(hi:i<cs.length):ai P t h (.pointer (some ⟨k,i,none⟩))=some (cs.getD i undef):=by simp_all[ai]
theorem zd{P:Program}{t:TypeId}{d:TypeDesc}{sz:Nat}(hU:P.underlying t=some d)(ha:isAgg P t=true)(hs:aB P t=some sz){h:aa}{k i:Nat}{cs:List Value}{e:TypeId}{z:Nat}{wr:Bool}(hg:h.get k=some (.cells cs e z wr))(hi:i+sz<=cs.length):ai P t h (.pointer (some ⟨k,i,none⟩))=some (.agg ⟨(cs.drop i).take sz⟩):=by
 unfold ai
 grind
theorem vr{P:Program}{t:TypeId}(hs:aB P t=some 1){h:aa}{k i:Nat}{cs:List Value}{e:TypeId}{sz:Nat}(hg:h.get k=some (.cells cs e sz true))(hi:i<cs.length){v:Value}(hv:di v=true)(hc:v.cells = #[v]):aw P t (.pointer (some ⟨k,i,none⟩)) v h=some (undef,.set k (.cells (cs.set i v) e sz true)):=by
 unfold aw;dsimp only;rw[hc,if_pos (show aB P t=some (#[v]:Array Value).size from hs)];unfold storeAt;rw[hg];dsimp only;rw[if_pos ⟨by simp;omega,by simp[hv]⟩]
 simp_all[List.set_eq_take_append_cons_drop]
structure uh(hb:aa)(kt:Nat)(e:TypeId)(vs:List Value)(g:aa):Prop where
 row:g.get kt=some (.cells vs e 1 true)
 new:hb.next<=kt
 ok:Ok hb g
theorem uh.lt{hb:aa}{kt:Nat}{e:TypeId}{vs:List Value}{g:aa}(m:uh hb kt e vs g):kt<g.next:=m.ok.wf _ _ m.row
theorem uh.rd{hb:aa}{kt:Nat}{e:TypeId}{vs:List Value}{g:aa}(m:uh hb kt e vs g)(c:Nat):Rd g e (.slice (some ⟨kt,0,none⟩) vs.length c) vs:= .inr ⟨kt,0,vs,c,true,rfl,m.row,by simp⟩
theorem uh.trans{hb:aa}{kt:Nat}{e:TypeId}{vs:List Value}{g g':aa}(m:uh hb kt e vs g)(o:Ok g g'):uh hb kt e vs g':=⟨o.ext _ _ m.row,m.new,m.ok.trans o⟩
theorem uh.set{hb:aa}(w:Wf hb){kt:Nat}{e:TypeId}{vs:List Value}{g:aa}(m:uh hb kt e vs g)(j:Nat)(v:Value):uh hb kt e (vs.set j v) ((cX.set kt (.cells (vs.set j v) e 1 true)).app g):=by
 refine⟨?_,m.new,m.ok.set _ m.new m.lt w⟩;show(g.set kt _).get kt=_;rw[aa.aX,if_pos rfl]
theorem qp(z:Value)(n:Nat):cd [z] n=List.replicate n z:=by
 induction n with
 |zero=>rfl
 |succ n ih=>grind[cd]
theorem xy{α:Type}(f:α->Value)(L:List α)(j:Nat)(d:α):(L.map f).set j (f d)=(L.set j d).map f:=by simp
def yw:Value:= .slice (some ⟨0,0,some 0⟩) 0 0
def CH(h:aa)(e:TypeId)(sz:Nat)(v:Value)(rs:List (List Value)):Prop:=
 (∀r∈rs,r.length=sz)/\(((v = .slice none 0 0\/v=yw)/\rs=[])\/ ∃k off cs e' z c wr,v = .slice (some ⟨k,off,none⟩) rs.length c/\h.get k=some (.cells cs e' z wr)/\off+rs.length*sz<=cs.length/\∀(i:Nat)(r:List Value),rs[i]?=some r->(cs.drop (off+i*sz)).take sz=r)
theorem CH.ok{h h':aa}{e:TypeId}{sz:Nat}{v:Value}{rs:List (List Value)}(r:CH h e sz v rs)(o:Ok h h'):CH h' e sz v rs:=by
 obtain⟨r1,r|⟨k,off,cs,e',z,c,wr,h1,h2,h3,h4⟩⟩:=r
 ·exact⟨r1,.inl r⟩
 ·exact⟨r1,.inr ⟨k,off,cs,e',z,c,wr,h1,o.ext _ _ h2,h3,h4⟩⟩
theorem CH.len{h:aa}{e:TypeId}{sz:Nat}{a:Option Addr}{n c:Nat}{rs:List (List Value)}(r:CH h e sz (.slice a n c) rs):n=rs.length:=by
 obtain⟨_,⟨h1|h1,rfl⟩|⟨k,off,cs,e',z,c,wr,h1,h2,h3,h4⟩⟩:=r
 all_goals grind[yw]
theorem CH.L5{h:aa}{e:TypeId}{sz:Nat}{v:Value}{rs:List (List Value)}(r:CH h e sz v rs):∃(a:Option Addr)(c:Nat),v = .slice a rs.length c:=by
 obtain⟨_,⟨h1|h1,rfl⟩|⟨k,off,cs,e',z,c,wr,h1,h2,h3,h4⟩⟩:=r
 ·exact⟨_,_,h1⟩
 ·exact⟨_,_,h1⟩
 grind
theorem CH.at_{P:Program}{t e:TypeId}{d:TypeDesc}{sz:Nat}(hU:P.underlying t=some (.slice e))(hs:aB P e=some sz)(hd:P.underlying e=some d)(hg:isAgg P e=true){h:aa}{v:Value}{rs:List (List Value)}(r:CH h e sz v rs){ik:IntKind}{i:Int}(h0:0<=i)(h1:i<rs.length):
  ∃(k o:Nat),af P t v (.int ik i)=some (.pointer (some ⟨k,o,none⟩))/\ai P e h (.pointer (some ⟨k,o,none⟩))=some (.agg ⟨rs.getD i.toNat []⟩)/\
   ∀(t':TypeId)(d':TypeDesc)(j:Nat),P.underlying t'=some d'->isAgg P t'=false->j<sz->ai P t' h (.pointer (some ⟨k,o+j,none⟩))=some ((rs.getD i.toNat []).getD j undef):=by
 obtain⟨hl,⟨_,rfl⟩|⟨b,off,cs,e',z,c,wr,rfl,h3,h4,h5⟩⟩:=r
 ·grind
 ·have hi:i.toNat<rs.length:=by omega
  have h6:rs[i.toNat]?=some (rs.getD i.toNat []):=by rw[gD,gE hi];rfl
  have h7:=h5 _ _ h6;have h9:(i.toNat+1)*sz<=rs.length*sz:=mul_le_mul_right _ hi;rw[add_mul,one_mul]at h9;obtain⟨q,hq⟩:∃q,q=i.toNat*sz:=⟨_,rfl⟩
  rw[<-hq]at h7 h9;refine⟨b,off+q,?_,?_,λt' d' j hU' ha' hj=>?_⟩
  ·grind[Fw]
  ·grind[zd]
  ·rw[gG hU' ha' h3 (by omega),<-h7,gD,gD,getElem?_take,if_pos hj,List.getElem?_drop]
def bG:Value->Option Nat
 |.slice (some a) _ _=>some a.block
 |_=>none
def dQ(h0 h:aa)(e:TypeId)(v:Value)(vs:List Value):Prop:=
 (v = .slice none 0 0/\vs=[])\/ ∃k off cs c,v = .slice (some ⟨k,off,none⟩) vs.length c/\h0.next<=k/\h.get k=some (.cells cs e 1 true)/\(cs.drop off).take vs.length=vs/\bn c+off=cs.length/\vs.length<=bn c
theorem dQ.rd{h0 h:aa}{e:TypeId}{v:Value}{vs:List Value}(o:dQ h0 h e v vs):Rd h e v vs:=by
 rcases o with o|⟨k,off,cs,c,h1,h2,h3,h4,h5,h6⟩
 ·exact .inl o
 ·exact .inr ⟨k,off,cs,c,true,h1,h3,h4⟩
theorem dQ.fc{h0 h h':aa}{e:TypeId}{v:Value}{vs:List Value}(o:dQ h0 h e v vs)(hk:∀(k:Nat) (B:bO),bG v=some k->h.get k=some B->h'.get k=some B):dQ h0 h' e v vs:=by
 rcases o with o|⟨k,off,cs,c,h1,h2,h3,h4,h5,h6⟩
 ·exact .inl o
 ·exact .inr ⟨k,off,cs,c,h1,h2,hk k _ (by rw[h1];rfl) h3,h4,h5,h6⟩
theorem dQ.ok{h0 h h':aa}{e:TypeId}{v:Value}{vs:List Value}(r:dQ h0 h e v vs)(o:Ok h h'):dQ h0 h' e v vs:=r.fc λk B _ hk=>o.ext _ _ hk
theorem dQ.lt{h0 h:aa}{e:TypeId}{v:Value}{vs:List Value}(o:dQ h0 h e v vs)(w:Wf h){k:Nat}(hk:bG v=some k):k<h.next/\h0.next<=k:=by
 rcases o with⟨rfl,_⟩|⟨k',off,cs,c,h1,h2,h3,h4,h5,h6⟩
 ·cases hk
 ·rw[h1]at hk;obtain rfl:k'=k:=oI hk;exact⟨w _ _ h3,h2⟩
theorem dQ.nil(h0 h:aa)(e:TypeId):dQ h0 h e (.slice none 0 0) []:= .inl ⟨rfl,rfl⟩
theorem dQ.L5{h0 h:aa}{e:TypeId}{v:Value}{vs:List Value}(o:dQ h0 h e v vs):∃(a:Option Addr)(c:Nat),v = .slice a vs.length c:=by
 rcases o with⟨rfl,rfl⟩|⟨k,off,cs,c,h1,h2,h3,h4,h5,h6⟩
 ·exact⟨_,_,rfl⟩
 ·exact⟨_,_,h1⟩
theorem dQ.snoc{P:Program}{t e:TypeId}{i:TypeInfo}(hU:P.underlying t=some (.slice e))(hE:eZ P e=some i)(hs:i.size=1){h0 g:aa}(w0:Wf h0)(a:Ok h0 g){v:Value}{vs:List Value}(o:dQ h0 g e v vs){x:Value}(hx:di x=true){kx:Nat}(hkx:g.get kx=some (.cells [x] e 1 true))(hl:(vs.length+1)*i.bytes<=70368744177664)(hl2:vs.length+1<=1099511627776):
  ∃(b:Option Addr)(n c:Nat)(u:cX),aO P t t v (.slice (some ⟨kx,0,none⟩) 1 1) g=some (.slice b n c,u)/\n=vs.length+1/\dQ h0 (u.app g) e (.slice b n c) (vs++[x])/\Ok h0 (u.app g)/\
   (∀j B,g.get j=some B->bG v≠some j->(u.app g).get j=some B)/\
   (∀j,bG (.slice b n c)=some j->g.next<=j\/bG v=some j)/\g.next<=(u.app g).next:=by
 have hT:dL P t=true:=by unfold dL;rw[hU]
 have hsrc:fp g i.size (.slice (some ⟨kx,0,none⟩) 1 1)=some ([x],1):=by
  show(match g.get kx with|some (.cells cs ..)=>if((cs.drop 0).take (1*i.size)).length=1*i.size then some ((cs.drop 0).take (1*i.size),1)else none|_=>none)=_;rw[hkx,hs];rfl
 unfold aO;rw[hU];dsimp only;rw[hE];dsimp only;rw[if_pos hT,hsrc];dsimp only;rw[if_pos (by simp[hx,hs])];rcases o with⟨rfl,rfl⟩|⟨k,off,cs,c,rfl,h2,h3,h4,h5,h6⟩
 ·show ∃b n c u,(if 1=0 then some (Value.slice none 0 0,cX.no)else if 1*i.bytes<=70368744177664/\1<=1099511627776 then some (Value.slice (some ⟨g.next,0,none⟩) 1 (bV+1),cX.push (.cells [x] e i.size true))else none)=_/\_;rw[if_neg (by omega),if_pos (by simpa using And.intro hl hl2)];refine⟨_,_,_,_,rfl,rfl,.inr ⟨g.next,0,[x],bV+1,rfl,a.nx,?_,rfl,by rw[fH];rfl,by rw[fH];exact Nat.le_refl _⟩,a.push _,λj B hj _=>?_,λj e=> .inl ?_,le_succ _⟩
  ·show(g.push (.cells [x] e i.size true)).get g.next=_;rw[aa.aR,if_pos rfl,hs]
  ·show(g.push _).get j=_;rw[aa.aR,if_neg (λe=>by have:=a.wf _ _ hj;omega)];exact hj
  ·have:g.next=j:=oI e;omega
 ·dsimp only;rw[if_neg (by omega),hs,mul_one];have hkn:=a.wf _ _ h3;by_cases hroom:vs.length+1<=bn c
  ·rw[if_pos hroom];unfold storeAt;rw[h3];dsimp only;rw[if_pos ⟨by simp;omega,by simp[hx]⟩];refine⟨_,_,_,_,rfl,rfl,.inr ⟨k,off,cs.take (off+vs.length)++[x]++cs.drop (off+vs.length+1),c,?_,h2,?_,?_,?_,?_⟩,?_,λj B hj hne=>?_,λj e=> .inr e,Nat.le_refl _⟩
   ·simp
   ·show(g.set k _).get k=_;rw[aa.aX,if_pos rfl];rfl
   ·have h7:(cs.take (off+vs.length)).length=off+vs.length:=by rw[length_take];omega
    rw[append_assoc,List.drop_append_of_le_length (by rw[h7];omega),List.drop_take,show off+vs.length-off=vs.length by omega,h4,length_append,length_cons,List.length_nil,List.take_append,take_of_length_le (by omega)];congr 1;rw[show vs.length+(0+1)-vs.length=1 by omega];rfl
   ·simp;omega
   ·simp;omega
   ·exact a.set _ h2 hkn w0
   ·show(g.set k _).get j=_;rw[aa.aX,if_neg (λe=>hne (by rw[e];rfl))];exact hj
  ·rw[if_neg hroom];have hcl:bn c=vs.length:=by omega
   have h7:((cs.drop off).take vs.length).length=vs.length:=by rw[h4]
   unfold ja;rw[if_pos ⟨hl,hl2⟩,h3];dsimp only;rw[mul_one,if_pos ⟨rfl,rfl,h7⟩];have hnew:∀B:bO,dQ h0 ((g.push (.cells (vs++[x]) e 1 true))) e (.slice (some ⟨g.next,0,none⟩) (vs.length+1) (bV+(vs.length+1))) (vs++[x]):=λ_=>
    .inr ⟨g.next,0,vs++[x],bV+(vs.length+1),by rw[length_append];rfl,a.nx,by rw[aa.aR,if_pos rfl],by rw[drop_zero,List.take_length],by rw[fH,length_append];rfl,by rw[fH,length_append];exact Nat.le_refl _⟩
   by_cases hc:c<bV
   ·rw[if_pos hc,h4];refine⟨_,_,_,_,rfl,rfl,hnew (.map []),a.push _,λj B hj _=>?_,λj e=> .inl ?_,le_succ _⟩
    ·show(g.push _).get j=_;rw[aa.aR,if_neg (λe=>by have:=a.wf _ _ hj;omega)];exact hj
    ·have:g.next=j:=oI e;omega
   ·rw[if_neg hc,if_pos ⟨rfl,by omega⟩,h4];refine⟨_,_,_,_,rfl,rfl,.inr ⟨g.next,0,vs++[x],bV+(vs.length+1),by rw[length_append];rfl,a.nx,?_,by rw[drop_zero,List.take_length],by rw[fH,length_append];rfl,by rw[fH,length_append];exact Nat.le_refl _⟩,?_,λj B hj hne=>?_,λj e=> .inl ?_,le_succ _⟩
    ·show((g.del k).push _).get g.next=_;rw[aa.aR,if_pos (show g.next=(g.del k).next from rfl)]
    ·refine⟨?_,λj C hj=>?_,Nat.le_trans a.nx (le_succ _)⟩
     ·refine aa.mR (λj C hj=>?_) _;rw[aa.dW]at hj;split at hj
      ·cases hj
      ·exact a.wf _ _ hj
     ·have h7:=a.ext _ _ hj;have h8:=a.wf _ _ h7;show((g.del k).push _).get j=_;rw[aa.aR,if_neg (λe=>by have:j=g.next:=e;omega),aa.dW,if_neg (λe=>by have:=w0 _ _ hj;omega)];exact h7
    ·have h8:=a.wf _ _ hj;show((g.del k).push _).get j=_;rw[aa.aR,if_neg (λe=>by have:j=g.next:=e;omega),aa.dW,if_neg (λe=>hne (by rw[e];rfl))];exact hj
    ·have:g.next=j:=oI e;omega
theorem dQ.built{h0 h:aa}{e:TypeId}{k:Nat}{vs:List Value}(hk:h.get k=some (.cells vs e 1 true))(h0k:h0.next<=k)(hl:vs.length<bV):dQ h0 h e (.slice (some ⟨k,0,none⟩) vs.length vs.length) vs:=
 .inr ⟨k,0,vs,vs.length,rfl,h0k,hk,by simp,by unfold bn;rw[if_neg (by omega)];rfl,by unfold bn;rw[if_neg (by omega)];exact Nat.le_refl _⟩
end Go.Ab
end
section
namespace Go.Ab
open Go Go.RowKit
section
variable {β:cC} {P:Program} {h:aa} {w:World}
theorem CY{α:Type}{sz:Nat}:∀{rs:List (List α)},(∀r∈rs,r.length=sz)->∀{i:Nat}{r:List α},rs[i]?=some r->∀{j:Nat},j<sz->rs.flatten[i*sz+j]?=r[j]?
 |[],_,i,r,hi,_,_=>by grind
 |x::rs,hl,0,r,hi,j,hj=>by grind
 |x::rs,hl,i+1,r,hi,j,hj=>by
  have hx:=hl x (mem_cons_self ..);rw[List.getElem?_cons_succ]at hi;have ih:=CY (λr hr=>hl r (mem_cons_of_mem _ hr)) hi hj
  grind
theorem yO{α:Type}{sz:Nat}:∀{rs:List (List α)},(∀r∈rs,r.length=sz)->rs.flatten.length=rs.length*sz
 |[],_=>by simp
 |x::rs,hl=>by
  have hx:=hl x (mem_cons_self ..);rw[List.flatten_cons,length_append,yO λr hr=>hl r (mem_cons_of_mem _ hr),hx,length_cons,add_mul];omega
theorem Nc{α:Type}{sz:Nat}{rs:List (List α)}(hl:∀r∈rs,r.length=sz){i:Nat}{r:List α}(hi:rs[i]?=some r):(rs.flatten.drop (i*sz)).take sz=r:=by
 have hr:=hl r (List.mem_of_getElem? hi);refine List.ext_getElem? λj=>?_
 grind[CY]
structure rO(β:cC)(h:aa)(w:World):Prop where
 mB:iK β h w
 ro:∀k B,h.get k=some B->B.wr=false
theorem Yc(n:Nat)(w:World):rO β0 ⟨n,.nil⟩ w:=⟨D1 n w,λk B h=>by grind[aa.get_nil]⟩
theorem rO.wf(i:rO β h w):Wf h:=i.mB.wf
theorem rO.below(i:rO β h w){β':cC}{h':aa}{w':World}(s:Step β h w β' h' w'):Below w.heap.size w w':=
 ⟨s.os,s.tape.1,s.output,s.size,λk hk=>s.kept k hk λ⟨k,B,sl,h1,h2,_⟩=>by rw[i.ro k B h1]at h2;grind⟩
abbrev DW(b n:Nat)(t:TypeId):Slot:=⟨b,0,n,t,0,false⟩
theorem rO.fresh(i:rO β h w):β h.next=none:=i.mB.jV (Nat.le_refl _)
theorem rO.le(i:rO β h w)(sl:Slot):β.le (β.ext h.next sl):=cC.za sl i.fresh
theorem rO.push(i:rO β h w){cs:List Value}{t:TypeId}{cs':Array Value}{fr:Nat×Nat}{b:Nat}(hb:w.heap[b]?=some (.cells cs' t fr))(hc:fz β cs 0 cs'):
  rO (β.ext h.next (DW b cs'.size t)) (h.push (.cells cs t 0 false)) w:=by
 have hle:=i.le (DW b cs'.size t);have hlt:b<w.heap.size:=(Array.getElem?_eq_some_iff.1 hb).1;have hro:∀k B,(h.push (.cells cs t 0 false)).get k=some B->B.wr=false:=λk B hk=>by
  rw[aa.aR]at hk;split at hk
  ·obtain rfl:=oI hk;rfl
  ·exact i.ro k B hk
 refine⟨⟨λk sl hk=>?_,λk B sl h1 h2=>?_,λk k' B B' sl sl' _ h1 _ _ _ hw=>?_,aa.mR i.mB.wf _⟩,hro⟩
 ·by_cases e:k=h.next
  ·subst e;rw[cC.bR]at hk;obtain rfl:=oI hk;exact⟨by simp,hlt⟩
  ·rw[cC.du _ _ e]at hk;have:=i.mB.lt k sl hk;exact⟨by simp;omega,this.2⟩
 ·rw[aa.aR]at h1;split at h1
  ·next e=>
   subst e;rw[cC.bR]at h2;obtain rfl:=oI h2;obtain rfl:=oI h1;exact⟨rfl,rfl,⟨rfl,λ_=>rfl⟩,cs',fr,hb,rfl,hc.mono hle,λhw=>by cases hw⟩
  ·next e=>
   rw[cC.du _ _ e]at h2;exact(i.mB.blk k B sl h1 h2).mono hle
 grind
theorem EN(ht:rX P){pr:FuncId->Option mw}{gl:Nat->Bool}(hl:sO P gl pr){f:FuncId}{fn:Func}{args:List Value}{Q:Value->aa->Prop}(hfw:FW ⟨P,gl,pr⟩ f args h Q)(hY:f<YB)(hf:P.funcs[f]?=some fn)(hb:fn.body.isSome=true)
  {args':Array Value} (i:rO β h w) (hg:Gl gl β) (ha:aK β args args'.toList):
  Calls P f args' w λe w'=>∃v v' h' β',e = .returned v'/\Q v h'/\az β' v v'/\Step β h w β' h' w'/\Below w.heap.size w w':=by
 obtain⟨v,h',⟨n,hr⟩,hq⟩:=hfw;obtain⟨fn',hfn,hc⟩:=(ht.Yy hl n).fn f args h v h' hY (hr n (Nat.le_refl _)) β w args' i.mB hg ha;rw[hf]at hfn;obtain rfl:=oI hfn;rcases hc with⟨_,hc⟩|⟨v',w',β',h1,_,_⟩
 ·refine hc.mono ?_;rintro e w' ⟨v',β',rfl,h2,h3⟩;exact⟨v,v',h',β',rfl,hq,h3,h2,i.below h2⟩
 ·rw[ez ht.names hf hb]at h1
  grind
def Bj(w:World)(v:Value)(sz:Nat)(rs:List (List Value)):Prop:=
 (∀r∈rs,r.length=sz)/\((v = .slice none 0 0/\rs=[])\/(∃a,v = .slice (some a) 0 0/\rs=[])\/
  ∃b off cap cs t fr,v = .slice (some ⟨b,off,none⟩) rs.length cap/\rs.length<=cap/\cap<bV/\w.heap[b]?=some (.cells cs t fr)/\off<=cs.size/\
   ∀(i:Nat)(r:List Value),rs[i]?=some r->∀j,j<sz->cs[off+(i*sz+j)]?=r[j]?)
theorem rO.Oy(i:rO β h w){sz:Nat}{e:TypeId}{rs rs':List (List Value)}{b off cap:Nat}{cs:Array Value}{t:TypeId}{fr:Nat×Nat}(hsz:∀r∈rs',r.length=sz)(hlen:rs.length=rs'.length)
  (hrel:∀(k:Nat) r r',rs[k]?=some r->rs'[k]?=some r'->aK β r r') (h2:rs'.length<=cap) (h3:cap<bV) (hb:w.heap[b]?=some (.cells cs t fr)) (ho:off<=cs.size)
  (hc:∀(i:Nat)(r:List Value),rs'[i]?=some r->∀j,j<sz->cs[off+(i*sz+j)]?=r[j]?):
  ∃β' h',rO β' h' w/\β.le β'/\Ok h h'/\az β' (.slice (some ⟨h.next,off,none⟩) rs.length cap) (.slice (some ⟨b,off,none⟩) rs'.length cap)/\CH h' e sz (.slice (some ⟨h.next,off,none⟩) rs.length cap) rs:=by
 have hsz':∀r∈rs,r.length=sz:=λr hr=>by
  obtain⟨k,hk,rfl⟩:=List.getElem_of_mem hr;have h1:rs'[k]?=some rs'[k]:=gE (by omega);rw[(hrel k _ _ (gE hk) h1).1]
  grind
 have hcells:fz β (List.replicate off fb++rs.flatten) 0 cs:=λk v hv=>by
  rw[zero_add];rw[List.getElem?_append]at hv;split at hv
  ·next hk=>
   rw[length_replicate]at hk;rw[List.getElem?_replicate,if_pos hk]at hv;obtain rfl:=oI hv;exact⟨_,Array.getElem?_eq_getElem (by omega),.fb _⟩
  ·next hk=>
   rw[length_replicate]at hk hv;have hlt:=(List.getElem?_eq_some_iff.1 hv).1;rw[yO hsz']at hlt;rcases eq_zero_or_pos sz with hz|hz
   ·subst hz;simp at hlt
   have e1:k-off=(k-off)/sz*sz+(k-off)%sz:=by rw[mul_comm];exact(Nat.div_add_mod _ _).symm
   have hj:=mod_lt (k-off) hz;have hi:(k-off)/sz<rs.length:=div_lt_of_lt_mul (by rw[mul_comm];exact hlt);have g1:rs[(k-off)/sz]?=some rs[(k-off)/sz]:=gE hi;have g2:rs'[(k-off)/sz]?=some rs'[(k-off)/sz]:=gE (by omega);rw[e1,CY hsz' g1 hj]at hv;have hr:=hrel _ _ _ g1 g2;have hl':=hsz _ (List.mem_of_getElem? g2);have g3:rs'[(k-off)/sz][(k-off)%sz]?=some rs'[(k-off)/sz][(k-off)%sz]:=gE (by omega);refine⟨_,?_,hr.2 _ _ _ hv g3⟩
   grind
 refine⟨_,_,i.push hb hcells,i.le _,(Ok.refl i.wf).push _,?_,hsz',.inr ⟨h.next,off,_,t,0,cap,false,rfl,aa.fZ _ _,?_,λk r hk=>?_⟩⟩
 ·have:=az.slice (β:=β.ext h.next (DW b cs.size t)) (i:=off) (n:=rs.length) (c:=cap) (i':=off) (c':=cap) (cC.bR _ _ _) rfl (λ_=>rfl) (λh=>by omega) (by unfold bn;split<;>omega) (.inl (by simp)) (.inl rfl)
  grind
 ·grind[yO]
 ·rw[List.drop_append,length_replicate,drop_eq_nil_of_le (by simp),List.nil_append,Nat.add_sub_cancel_left]
  grind[Nc]
theorem rO.row(i:rO β h w){sz:Nat}{e:TypeId}{v':Value}{rs rs':List (List Value)}(r:Bj w v' sz rs')(hlen:rs.length=rs'.length)(hrel:∀(k:Nat) r r',rs[k]?=some r->rs'[k]?=some r'->aK β r r'):
  ∃β' h' v,rO β' h' w/\β.le β'/\Ok h h'/\az β' v v'/\CH h' e sz v rs:=by
 obtain⟨hsz,⟨rfl,rfl⟩|⟨a,rfl,rfl⟩|⟨b,off,cap,cs,t,fr,rfl,h2,h3,hb,ho,hc⟩⟩:=r
 ·obtain rfl:rs=[]:=eq_nil_of_length_eq_zero hlen;exact⟨β,h,_,i,β.le_refl,Ok.refl i.wf,.ma,⟨λ_ hm=>absurd hm (by simp),.inl ⟨.inl rfl,rfl⟩⟩⟩
 ·obtain rfl:rs=[]:=eq_nil_of_length_eq_zero hlen;exact⟨β,h,yw,i,β.le_refl,Ok.refl i.wf,.dead a,⟨λ_ hm=>absurd hm (by simp),.inl ⟨.inr rfl,rfl⟩⟩⟩
 ·obtain⟨β',h',h4,h5,h6,h7,h8⟩:=i.Oy (e:=e) hsz hlen hrel h2 h3 hb ho hc
  grind
theorem rO.Oz(i:rO β h w){sz:Nat}{e:TypeId}{v':Value}{rs rs':List (List Value)}(r:Bj w v' sz rs')(hlen:rs.length=rs'.length)(hrel:∀(k:Nat) r r',rs[k]?=some r->rs'[k]?=some r'->aK β r r')
  (hd:∀a,v' = .slice (some a) 0 0->a.spot=none/\∃cs t fr,w.heap[a.block]?=some (.cells cs t fr)):
  ∃β' h' v,rO β' h' w/\β.le β'/\Ok h h'/\az β' v v'/\CH h' e sz v rs/\v≠yw:=by
 obtain⟨hsz,⟨rfl,rfl⟩|⟨a,rfl,rfl⟩|⟨b,off,cap,cs,t,fr,rfl,h2,h3,hb,ho,hc⟩⟩:=r
 ·obtain rfl:rs=[]:=eq_nil_of_length_eq_zero hlen;exact⟨β,h,_,i,β.le_refl,Ok.refl i.wf,.ma,⟨λ_ hm=>absurd hm (by simp),.inl ⟨.inl rfl,rfl⟩⟩,λe=>by cases e⟩
 ·obtain rfl:rs=[]:=eq_nil_of_length_eq_zero hlen;obtain⟨hs,cs,t,fr,hb⟩:=hd a rfl;obtain⟨b,off,spot⟩:=a
  cases (show spot=none from hs)
  have i':=i.push (cs:=[]) hb (λk v hv=>by grind);refine⟨_,_,.slice (some ⟨h.next,0,none⟩) 0 0,i',i.le _,(Ok.refl i.wf).push _,?_,⟨λ_ hm=>absurd hm (by simp),.inr ⟨h.next,0,_,t,0,0,false,rfl,aa.fZ _ _,by simp,λk r hk=>by grind⟩⟩,λe=>by grind[yw]⟩;exact az.slice (sl:=DW b cs.size t) (cC.bR _ _ _) rfl (λ_=>rfl) (λh=>by omega) (by omega) (.inr ⟨rfl,rfl⟩) (.inl rfl)
 ·obtain⟨β',h',h4,h5,h6,h7,h8⟩:=i.Oy (e:=e) hsz hlen hrel h2 h3 hb ho hc
  grind[yw]
section
variable {H:Type} {enc:TypeId×Value->H} {held:Bool}
theorem MF{a:Addr}{v:Value}(hv:w.cell? a=some v):a.spot=none/\∃cs t fr,w.heap[a.block]?=some (.cells cs t fr)/\cs[a.off]?=some v:=by
 unfold World.cell? at hv;split at hv
 all_goals simp_all
theorem pick{α:Type}{p:Nat->α->Prop}:∀n,(∀i,i<n->∃q,p i q)->∃l:List α,l.length=n/\∀i q,l[i]?=some q->p i q
 |0,_=>⟨[],rfl,λi q hi=>by grind⟩
 |n+1,hp=>by
  obtain⟨l,hl,hq⟩:=pick n λi hi=>hp i (by omega);obtain⟨q,hq'⟩:=hp n (by omega);refine⟨l++[q],by simp[hl],λi x hi=>?_⟩
  grind
theorem qk{e:TypeId}{d:DataW H}{n:Nat}:∀{l:List (DataW H)},d∈l->n∈d.weights P e->n∈DataW.weightsAll P e l
 |[],h,_=>by cases h
 |x::l,h,hn=>by
  rw[DataW.weightsAll,mem_append];rcases mem_cons.1 h with rfl|h
  ·grind
  ·exact .inr (qk h hn)
theorem Cb{t e:TypeId}{sz:Nat}(ht:P.underlying t=some (.slice e))(hsz:P.cellsOf e=sz)(hpos:0<sz){p:List Value->Prop}
  (hp:∀n cs y,DataW.trod enc P w 0 (λ_=>true) held n e cs=some y->(y.1.weights P e).all (· <=reachBytes)=true->p cs) {fuel:Nat} {cv:List Value} {x:DataW H×List MemPlace}
  (h:DataW.trod enc P w 0 (λ_=>true) held fuel t cv=some x) (hw:(x.1.weights P t).all (· <=reachBytes)=true):
  ∃v rs,cv=[v]/\Bj w v sz rs/\(∀r∈rs,p r)/\rs.length*P.bytesOf e<=reachBytes:=by
 rcases DataW.trod_slice ht h with⟨rfl,rfl⟩|⟨a,len,cap,elems,rest,n,_,rfl,rfl,hb,hlc,hcm,hel,hE,hR,_⟩
 ·exact⟨_,[],rfl,⟨λ_ hm=>absurd hm (by simp),.inl ⟨rfl,rfl⟩⟩,λ_ hm=>absurd hm (by simp),by simp⟩
 obtain⟨hrl,hR⟩:=hR rfl;simp only[DataW.weights,ht,all_cons,and_eq_true,decide_eq_true_eq,all_append,lM]at hw;obtain⟨hw1,hw2,hw3⟩:=hw;have hcap:cap<bV:=by unfold maxLen at hcm;unfold bV;omega
 have key:∀i,i<len->∃r:List Value,(r.length=sz/\p r)/\∀j,j<sz->w.cell? (a.add (i*sz+j))=r[j]?:=λi hi=>by
  have h1:=hE i hi;have h2:elems[i]?=some elems[i]:=gE (by omega);rw[h2,hsz,Option.bind_eq_some_iff]at h1;obtain⟨r,h3,h4⟩:=h1;obtain⟨_,h5,h6⟩:=World.cells?_some h3;refine⟨r,⟨h5,hp n r _ h4 ?_⟩,λj hj=>?_⟩
  ·rw[all_eq_true]at hw2⊢;exact λm hm=>hw2 m (qk (List.mem_map.2 ⟨elems[i],List.mem_of_getElem? h2,rfl⟩) hm)
  ·rw[<-h6 j hj,Addr.add_add]
 obtain⟨rs,hrs,hq⟩:=pick len key;have hq':∀r∈rs,r.length=sz/\p r:=λr hr=>by
  obtain⟨k,hk⟩:=List.mem_iff_getElem?.1 hr;exact(hq k r hk).1
 refine⟨_,rs,rfl,⟨λr hr=>(hq' r hr).1,?_⟩,λr hr=>(hq' r hr).2,?_⟩
 ·rcases eq_zero_or_pos cap with hz|hz
  ·obtain rfl:rs=[]:=eq_nil_of_length_eq_zero (by omega);have:len=0:=by omega
   subst this;subst hz;exact .inr (.inl ⟨a,rfl,rfl⟩)
  ·have h0:∃v,w.cell? a=some v:=by
    have add0:a.add (0*sz)=a:=by rw[zero_mul];unfold Addr.add;split<;>simp_all
    have fin:∀x,(w.cells? 0 (a.add (0*sz)) sz).bind (DataW.trod enc P w 0 (λ_=>true) held n e)=some x->∃v,w.cell? a=some v:=λx hx=>by
     rw[Option.bind_eq_some_iff,add0]at hx;obtain⟨r,h3,h4⟩:=hx;obtain⟨_,h5,h6⟩:=World.cells?_some h3;have:=h6 0 hpos;rw[show a.add 0=a by unfold Addr.add;split<;>simp_all,gE (by omega)]at this;exact⟨_,this⟩
    rcases eq_zero_or_pos len with hl|hl
    ·have:=hR 0 (by omega);rw[hl,hsz,gE (by omega)]at this;exact fin _ this
    ·have:=hE 0 hl;rw[hsz,gE (by omega)]at this;exact fin _ this
   obtain⟨v0,hv0⟩:=h0;obtain⟨hs,cs,tt,fr,hbk,hoff⟩:=MF hv0;obtain⟨b,off,spot⟩:=a
   cases (show spot=none from hs)
   have ho:=(Array.getElem?_eq_some_iff.1 hoff).1;refine .inr (.inr ⟨b,off,cap,cs,tt,fr,by rw[hrs],by omega,hcap,hbk,le_of_lt ho,λi r hi j hj=>?_⟩);have:=(hq i r hi).2 j hj;rw[cw,mF hbk]at this;exact this
 grind
end
end
end Go.Ab
end
section
namespace Go.Ab
open Go Go.RowKit Go.WideShapes Go.ChangeShapes
section
section
variable {H:Type} {enc:TypeId×Value->H} {P:Program}
theorem Nu{f:Func}{s:ChangeSpec}{apart fresh handsOn again:Bool}{W W':World}{args:Array Value}{v:Value}{ds:List (DataW H)}{places:List MemPlace}
  (hvars:s.vars=[]) (hW:DataW.Whole enc P f.params.toList s.vars apart W args.toList ds [] places) (hb:Below W.heap.size W W')
  (hsame:(s.fn H (ds++[])).args=ds) (hnov:(s.fn H (ds++[])).vars=[])
  (hres:∀(b:Nat)(sp:Nat->Bool)(hd:Bool),DataW.TrodAll enc P W' b sp hd f.resultTypes.toList (v.resultList f.resultTypes.size) (s.fn H (ds++[])).results [])
  (hok:∀(j:Nat)(t:TypeId)(r:Value),f.resultTypes[j]?=some t->(v.resultList f.resultTypes.size)[j]?=some r->Value.okWide P W' .any 0 t r)
  (hargs:∀sp:Nat->Bool,(∀p∈places,sp p.block=true)->DataW.TrodAll enc P W' 0 sp true f.params.toList args.toList ds places):s.post enc P f apart fresh handsOn again W args v W':=by
 have hin:∀p∈places,p.block<W.heap.size:=λp hp=>hW.lt p hp;have hmine:∀p∈places,(λb=>decide (b<W.heap.size)) p.block=true:=λp hp=>decide_eq_true (hin p hp);have hv0:∀sp:Nat->Bool,DataW.TrodVars enc P W' sp s.vars (s.fn H (ds++[])).vars []:=λsp=>by
  rw[hvars,hnov];rfl
 have hfr:=World.keptBut_mono (may':=λp=>p∈places/\(p∈([]:List MemPlace)\/p∈places\/p∈([]:List MemPlace))) (λp hp=>⟨hp,.inr (.inl hp)⟩) (hb.frame (· ∈places));obtain⟨_,_,_,_,_,hz,hn⟩:=id hW;have hargs':∀sp:Nat->Bool,(∀p∈places,sp p.block=true)->DataW.TrodAll enc P W' 0 sp true f.params.toList args.toList (s.fn H (ds++[])).args places:=λsp h=>by rw[hsame];exact hargs sp h
 refine⟨ds,[],places,[],places,[],hW,hres _ _ _,hargs' _ hmine,hv0 _,hfr,λ_=>⟨hok,_,_,([]++places)++[],⟨[]++places,[],trodAll_append (hargs' _ λ_ _=>rfl) (hres _ _ _),hv0 _,rfl,?_,?_⟩,?_⟩⟩
 ·intro b off hp;have hp:MemPlace.cell b off∈places:=by simpa using hp
  rw[hb.frozen (hin _ hp)];exact hz b off hp
 all_goals grind
end
end
end Go.Ab
end
section
namespace Go.Num
def bm(c:UInt8):Bool:=decide (48<=c.toNat)&&decide (c.toNat<=57)
def gP(c:UInt8):Nat:=c.toNat-48
def val(l:List UInt8):Nat:=l.foldl (λn c=>10*n+gP c) 0
def dP(n:Nat):UInt8:=UInt8.ofNat (48+n)
theorem iw:val []=0:=rfl
theorem fG(l:List UInt8)(c:UInt8):val (l++[c])=10*val l+gP c:=by simp[val,List.foldl_append]
theorem gT{n:Nat}(h:n<10):(dP n).toNat=48+n:=by grind[UInt8.toNat_ofNat',dP]
theorem xQ{n:Nat}(h:n<10):gP (dP n)=n:=by grind[gT,gP]
theorem pg{n:Nat}(h:n<10):bm (dP n)=true:=by grind[gT,bm]
theorem jj{c:UInt8}:bm c=true↔48<=c.toNat/\c.toNat<=57:=by simp[bm]
theorem nn{c:UInt8}(h:bm c=true):gP c<10:=by grind[jj,gP]
theorem sG{c:UInt8}(h:bm c=true):dP (gP c)=c:=by grind[jj,UInt8.toNat_inj,gT,gP]
theorem jk{α:Type}{P:List α->Prop}(h0:P [])(h1:∀l a,P l->P (l++[a]))(l:List α):P l:=by
 have:∀n (l:List α),l.length=n->P l:=by
  intro n
  induction n with
  |zero=>intro l hl;rw[eq_nil_of_length_eq_zero hl];exact h0
  |succ n ih=>
   intro l hl;have hne:l≠[]:=by intro e;subst e;simp at hl
   rw[<-List.dropLast_concat_getLast hne];exact h1 _ _ (ih _ (by simp[hl]))
 grind
theorem iu(a b:List UInt8):val (a++b)=val a*10^b.length+val b:=by
 induction b using jk with
 |h0=>simp[iw]
 |h1 b c ih=>grind[mul_assoc,mul_comm,val]
theorem xZ{l:List UInt8}(h:l.all bm=true):val l<10^l.length:=by
 induction l using jk with
 |h0=>simp[iw]
 |h1 l c ih=>
  simp only[all_append,all_cons,all_nil,Bool.and_true,and_eq_true]at h
  grind[nn,fG]
def aj(n:Nat):List UInt8:=if n<10 then[dP n]else aj (n/10)++[dP (n%10)]
termination_by n
decreasing_by omega
theorem cO{n:Nat}(h:n<10):aj n=[dP n]:=by rw[aj,if_pos h]
theorem gR{n:Nat}(h:10<=n):aj n=aj (n/10)++[dP (n%10)]:=by rw[aj,if_neg (by omega)]
theorem nu{n d:Nat}(hn:0<n)(hd:d<10):aj (10*n+d)=aj n++[dP d]:=by grind[gR]
theorem bC(n:Nat):val (aj n)=n:=by
 induction n using Nat.strongRecOn with
 |ind n ih=>grind[cO,fG,xQ,iw,gR]
theorem pk{m n:Nat}(h:aj m=aj n):m=n:=by grind[bC]
theorem rV(n:Nat):aj n≠[]:=by
 by_cases h:n<10
 ·grind[cO]
 ·rw[gR (by omega)];simp
theorem kC(n:Nat):0<(aj n).length:=length_pos_iff.2 (rV n)
theorem cj(n:Nat):(aj n).all bm=true:=by
 induction n using Nat.strongRecOn with
 |ind n ih=>grind[cO,pg,gR]
theorem lK(n:Nat):n<10^(aj n).length:=by grind[xZ,cj,bC]
theorem xY{n:Nat}(h:10<=n):10^((aj n).length-1)<=n:=by
 induction n using Nat.strongRecOn with
 | ind n ih=>
  rw[gR h,length_append,List.length_singleton];by_cases h1:n/10<10
  ·grind[cO]
  ·have h2:=ih (n/10) (by omega) (by omega);have h3:=kC (n/10);obtain⟨k,hk⟩:∃k,(aj (n/10)).length=k+1:=⟨(aj (n/10)).length-1,by omega⟩
   grind
theorem dy{n k:Nat}(hk:0<k):(aj n).length<=k↔n<10^k:=by
 constructor
 ·grind[lt_of_lt_of_le,lK,pow_le_pow_right]
 ·intro h;by_cases hn:n<10
  ·grind[cO]
  ·have h1:=xY (n:=n) (by omega);rcases lt_or_ge k (aj n).length with h2|h2
   ·have h3:10^k<=10^((aj n).length-1):=pow_le_pow_right (by omega) (by omega);omega
   omega
def w8(l:List UInt8):Prop:=l≠[]/\l.all bm=true/\(1<l.length->l.head?≠some 48)
theorem JV{l:List UInt8}(hd:l.all bm=true)(h0:l≠[])(h:l.head?≠some 48):0<val l:=by
 induction l using jk with
 |h0=>grind
 | h1 l c ih=>
  simp only[all_append,all_cons,all_nil,Bool.and_true,and_eq_true]at hd;rw[fG];by_cases hl:l=[]
  ·subst hl;have hc:c≠48:=by intro e;subst e;simp at h
   have h2:=jj.1 hd.2;have h3:c.toNat≠48:=λe=>hc (by apply UInt8.toNat_inj.1;rw[e];rfl)
   grind[gP]
  ·have:=ih hd.1 hl (by grind);omega
theorem pn{l:List UInt8}(h:w8 l):aj (val l)=l:=by
 induction l using jk with
 |h0=>exact absurd rfl h.1
 | h1 l c ih=>
  obtain⟨_,hd,hz⟩:=h;simp only[all_append,all_cons,all_nil,Bool.and_true,and_eq_true]at hd;rw[fG];by_cases hl:l=[]
  ·grind[iw,cO,nn,sG]
  ·have hh:l.head?≠some 48:=by
    have:=hz (by grind[length_pos_iff])
    cases l with
    |nil=>grind
    |cons a l=>grind
   have hp:=JV hd.1 hl hh;rw[nu hp (nn hd.2),ih ⟨hl,hd.1,λ_=>hh⟩,sG hd.2]
theorem An(n:Nat):w8 (aj n):=by
 refine⟨rV n,cj n,?_⟩
 induction n using Nat.strongRecOn with
 | ind n ih=>
  intro hl;by_cases h:n<10
  ·grind[cO]
  ·rw[gR (by omega)];by_cases h1:n/10<10
   ·rw[cO h1];simp only[cons_append,List.head?_cons,ne_eq,Option.some.injEq];intro e;have:=congrArg UInt8.toNat e;rw[gT h1]at this;have h48:(48:UInt8).toNat=48:=rfl;omega
   grind[aj]
def valid(l:List UInt8):Bool:= !l.isEmpty&&decide (l.length<=1000) && !(decide (1<l.length)&&l.head? == some 48)&&l.all bm
theorem fu{l:List UInt8}:valid l=true↔w8 l/\l.length<=1000:=by
 unfold valid w8
 grind
theorem j5{n:Nat}:valid (aj n)=true↔n<10^1000:=by grind[fu,dy,An]
theorem cP{l:List UInt8}(h:valid l=true):∃n,l=aj n/\n<10^1000/\val l=n:=by grind[fu,pn,j5]
def bv(b:Nat):List Nat->Nat
 |[]=>0
 |d::l=>d+b*bv b l
theorem eH(b:Nat):∀x y:List Nat,bv b (x++y)=bv b x+b^x.length*bv b y
 |[],y=>by simp[bv]
 |d::x,y=>by
  simp only[cons_append,bv,eH b x y,length_cons,pow_succ]
  grind
theorem m7(b:Nat)(x:List Nat)(d:Nat):bv b (x++[d])=bv b x+b^x.length*d:=by grind[eH,bv]
theorem dR{b:Nat}:∀{x:List Nat},(∀d∈x,d<b)->bv b x<b^x.length
 |[],_=>by simp[bv]
 | d::x,h=>by
  have h1:=dR (b:=b) (x:=x) λe he=>h e (by simp[he]);have h2:=h d (by simp);simp only[bv,length_cons,pow_succ];have:b*bv b x+b<=b*b^x.length:=by
   have:=mul_le_mul_left b (succ_le_of_lt h1);rw[mul_succ]at this;exact this
  grind
def aE(b n:Nat):List Nat:=if h:1<b/\0<n then n%b::aE b (n/b)else[]
termination_by n
decreasing_by exact div_lt_self h.2 h.1
theorem ek(b:Nat):aE b 0=[]:=by simp_all[aE]
theorem jL{b n:Nat}(hb:1<b)(hn:0<n):aE b n=n%b::aE b (n/b):=by rw[aE,dif_pos ⟨hb,hn⟩]
theorem bB{b:Nat}(hb:1<b)(n:Nat):bv b (aE b n)=n:=by
 induction n using Nat.strongRecOn with
 |ind n ih=>
  rcases eq_zero_or_pos n with rfl|hn
  all_goals grind[ek,jL,div_lt_self,mod_add_div,bv]
theorem cg{b:Nat}(hb:1<b)(n:Nat):∀d∈aE b n,d<b:=by
 induction n using Nat.strongRecOn with
 |ind n ih=>grind[eq_zero_or_pos,ek,jL,mod_lt,div_lt_self]
def G0(b:Nat)(l:List Nat):Prop:=(∀d∈l,d<b)/\l.getLast?≠some 0
theorem G9{b:Nat}(hb:1<b)(n:Nat):G0 b (aE b n):=by
 refine⟨cg hb n,?_⟩
 induction n using Nat.strongRecOn with
 | ind n ih=>
  rcases eq_zero_or_pos n with rfl|hn
  ·grind[ek]
  ·rw[jL hb hn];by_cases h0:n/b=0
   ·rw[h0,ek];have:n<b:=by
     rcases lt_or_ge n b with h|h
     ·exact h
     ·have:=Nat.div_pos h (by omega);omega
    simp[mod_eq_of_lt this];omega
   grind[div_lt_self,jL]
theorem Eu{b:Nat}(hb:1<b):∀{l:List Nat},G0 b l->aE b (bv b l)=l
 |[],_=>ek b
 | d::l,h=>by
  have hd:d<b:=h.1 d (by simp);have hp:0<bv b (d::l):=by
   have key:∀l:List Nat,l≠[]->l.getLast?≠some 0->0<bv b l:=by
    intro l
    induction l with
    |nil=>grind
    |cons a l ih=>
     intro _ h2;by_cases hl:l=[]
     ·grind[bv]
     ·have:0<bv b l:=ih hl (by grind);simp only[bv];have:=Nat.mul_pos (show 0<b by omega) this;omega
   exact key _ (by simp) h.2
  have hl:G0 b l:=⟨λe he=>h.1 e (by grind),by
   intro e
   cases l with
   |nil=>grind
   |cons c l=>exact h.2 (by grind)⟩
  rw[jL hb hp];simp only[bv];rw[show(d+b*bv b l)%b=d by rw[Nat.add_mul_mod_self_left,mod_eq_of_lt hd],show(d+b*bv b l)/b=bv b l by rw[Nat.add_mul_div_left _ _ (by omega),div_eq_of_lt hd,zero_add],Eu hb hl]
def cJ(l:List Nat):List Nat:=(l.reverse.dropWhile (· == 0)).reverse
theorem Ex:cJ []=[]:=rfl
theorem gy(l:List Nat):cJ (l++[0])=cJ l:=by simp[cJ]
theorem ir(l:List Nat){d:Nat}(h:d≠0):cJ (l++[d])=l++[d]:=by simp[cJ,h]
theorem iY{b:Nat}(hb:1<b){l:List Nat}(h:∀d∈l,d<b):cJ l=aE b (bv b l):=by
 induction l using jk with
 |h0=>rw[Ex];exact(ek b).symm
 | h1 l d ih=>
  by_cases hd:d=0
  ·subst hd
   grind[gy,m7]
  ·rw[ir l hd,Eu hb];exact⟨h,by grind⟩
theorem fF{b n:Nat}(hb:1<b):aE b n=[]↔n=0:=by
 constructor
 ·intro h;have:=bB hb n;rw[h]at this;exact this.symm
 simp_all[ek]
theorem jo{b:Nat}(hb:1<b){n k:Nat}(h:n<b^k):(aE b n).length<=k:=by
 induction k generalizing n with
 |zero=>rw[Nat.pow_zero]at h;grind[ek]
 |succ k ih=>grind[jL,div_lt_of_lt_mul]
theorem oG{b:Nat}(hb:1<b){n:Nat}(hn:0<n):b^((aE b n).length-1)<=n:=by
 induction n using Nat.strongRecOn with
 | ind n ih=>
  rw[jL hb hn,length_cons,Nat.add_sub_cancel];by_cases h0:n/b=0
  ·rw[h0,ek];simp;omega
  ·have h1:=ih (n/b) (div_lt_self hn hb) (Nat.pos_of_ne_zero h0);have h2:0<(aE b (n/b)).length:=length_pos_iff.2 (by simp_all[fF]);obtain⟨k,hk⟩:∃k,(aE b (n/b)).length=k+1:=⟨(aE b (n/b)).length-1,by omega⟩
   rw[hk]at h1⊢;rw[Nat.add_sub_cancel]at h1;rw[pow_succ];have h3:=mul_le_mul_right b h1;have h4:=Nat.div_mul_le_self n b;omega
theorem eG(b:Nat)(x:List Nat)(i:Nat):bv b (x.drop i)=x.getD i 0+b*bv b (x.drop (i+1)):=by grind[drop_eq_getElem_cons,drop_eq_nil_of_le,bv]
theorem aG{b:Nat}{x:List Nat}(hb:0<b)(h:∀d∈x,d<b)(i:Nat):x.getD i 0<b:=by
 rw[gD]
 cases hx:x[i]? with
 |none=>grind
 |some d=>exact h d (List.mem_of_getElem? hx)
def aL(F:Nat->Nat->Nat->Nat×Nat)(x y:List Nat):Nat->Nat->Nat->List Nat
 |_,0,_=>[]
 |i,k+1,c=>(F (x.getD i 0) (y.getD i 0) c).1::aL F x y (i+1) k (F (x.getD i 0) (y.getD i 0) c).2
theorem gQ{b:Nat}{F:Nat->Nat->Nat->Nat×Nat}(h:∀p q c,(F p q c).1<b)(x y:List Nat):∀k i c,∀d∈aL F x y i k c,d<b
 |0,_,_=>by simp[aL]
 |k+1,i,c=>by
  intro d hd;rcases mem_cons.1 hd with rfl|hd
  ·grind
  ·exact gQ h x y k _ _ d hd
def aC(b:Nat)(p q c:Nat):Nat×Nat:=((p+q+c)%b,(p+q+c)/b)
theorem uj{b:Nat}(hb:1<b){x y:List Nat}(hx:∀d∈x,d<b)(hy:∀d∈y,d<b):∀k i c,x.length<i+k->y.length<i+k->c<=1->0<k->
  bv b (aL (aC b) x y i k c)=bv b (x.drop i)+bv b (y.drop i)+c:=by
 intro k
 induction k with
 |zero=>omega
 | succ k ih=>
  intro i c h1 h2 hc _;have ha:=aG (by omega) hx i;have hbb:=aG (by omega) hy i;rw[eG b x i,eG b y i];simp only[aL,bv];have hm:=mod_add_div (x.getD i 0+y.getD i 0+c) b;have hc':(aC b (x.getD i 0) (y.getD i 0) c).2<=1:=by
   show(x.getD i 0+y.getD i 0+c)/b<=1;have:(x.getD i 0+y.getD i 0+c)/b<2:=div_lt_of_lt_mul (by omega);omega
  rcases eq_zero_or_pos k with rfl|hk
  ·rw[drop_eq_nil_of_le (show x.length<=i+1 by omega),drop_eq_nil_of_le (show y.length<=i+1 by omega)];have e1:x.getD i 0=0:=by rw[gD,getElem?_eq_none (by omega)];rfl
   have e2:y.getD i 0=0:=by rw[gD,getElem?_eq_none (by omega)];rfl
   simp only[aL,bv,aC,e1,e2,zero_add,mul_zero,add_zero];exact mod_eq_of_lt (by omega)
  grind[aC]
def bP(b m:Nat)(p _q c:Nat):Nat×Nat:=((p*m+c)%b,(p*m+c)/b)
theorem G7{b m:Nat}(hb:1<b)(hm:m<=b)(hm0:0<m){x y:List Nat}(hx:∀d∈x,d<b):∀k i c,x.length<i+k->c<m->0<k->
  bv b (aL (bP b m) x y i k c)=bv b (x.drop i)*m+c:=by
 intro k
 induction k with
 |zero=>omega
 | succ k ih=>
  intro i c h1 hc _;have ha:=aG (by omega) hx i;rw[eG b x i];simp only[aL,bv];have hmd:=mod_add_div (x.getD i 0*m+c) b;have hc':(bP b m (x.getD i 0) (y.getD i 0) c).2<m:=by
   show(x.getD i 0*m+c)/b<m;refine div_lt_of_lt_mul ?_;have:x.getD i 0*m+m<=b*m:=by
    have:=mul_le_mul_right m (succ_le_of_lt ha);rw[succ_mul]at this;exact this
   omega
  rcases eq_zero_or_pos k with rfl|hk
  ·rw[drop_eq_nil_of_le (show x.length<=i+1 by omega)];have e1:x.getD i 0=0:=by rw[gD,getElem?_eq_none (by omega)];rfl
   simp only[aL,bv,bP,e1,zero_mul,zero_add,mul_zero,add_zero];exact mod_eq_of_lt (by omega)
  grind[bP]
def bg(b:Nat)(p q c:Nat):Nat×Nat:=((p+b-q-c)%b,1-(p+b-q-c)/b)
theorem kM{b p q c:Nat}(hb:1<b)(hp:p<b)(hq:q<b)(hc:c<=1):p+b*(bg b p q c).2=(bg b p q c).1+q+c/\(bg b p q c).2<=1:=by
 unfold bg;dsimp only;rcases lt_or_ge (p+b-q-c) b with h|h
 ·grind[div_eq_of_lt,mod_eq_of_lt]
 ·have h2:(p+b-q-c)/b=1:=by
   refine Nat.le_antisymm ?_ ((Nat.le_div_iff_mul_le (by omega)).2 (by omega));have:(p+b-q-c)/b<2:=div_lt_of_lt_mul (by omega);omega
  grind[mod_add_div]
theorem xW{b:Nat}(hb:1<b){x y:List Nat}(hx:∀d∈x,d<b)(hy:∀d∈y,d<b):∀k i c,x.length<=i+k->y.length<=i+k->c<=1->bv b (y.drop i)+c<=bv b (x.drop i)->
  bv b (aL (bg b) x y i k c)+bv b (y.drop i)+c=bv b (x.drop i):=by
 intro k
 induction k with
 |zero=>grind[drop_eq_nil_of_le,bv,aL]
 | succ k ih=>
  intro i c h1 h2 hc h;have ha:=aG (by omega) hx i;have hbb:=aG (by omega) hy i;obtain⟨s1,s2⟩:=kM hb ha hbb hc;rw[eG b x i,eG b y i]at h⊢;simp only[aL,bv];have hlt:(bg b (x.getD i 0) (y.getD i 0) c).1<b:=mod_lt _ (by omega);have hle:bv b (y.drop (i+1))+(bg b (x.getD i 0) (y.getD i 0) c).2<=bv b (x.drop (i+1)):=by
   rcases lt_or_ge (bv b (x.drop (i+1))) (bv b (y.drop (i+1))+(bg b (x.getD i 0) (y.getD i 0) c).2)with g|g
   ·have g2:=mul_le_mul_left b (succ_le_of_lt g);rw[mul_succ,mul_add]at g2;omega
   ·exact g
  grind
theorem Ew{B n q v1 v2 rest u2 top U V Ul Vl:Nat}(hU:U=(top*B+u2)*B^n+Ul)(hUl:Ul<B^n)(hV:V=(v1*B+v2)*B^n+Vl)(ht:q*v1+rest=top)(h:rest*B+u2<q*v2):U<q*V:=by
 have h1:top*B+u2+1<=q*(v1*B+v2):=by
  have e:q*(v1*B+v2)=q*v1*B+q*v2:=by rw[mul_add,mul_assoc]
  have e2:top*B=q*v1*B+rest*B:=by rw[<-ht,add_mul]
  omega
 have h2:=mul_le_mul_right (B^n) h1;rw[add_mul,one_mul]at h2;have h3:q*V=q*(v1*B+v2)*B^n+q*Vl:=by rw[hV,mul_add,mul_assoc]
 omega
theorem CF{B n q v1 v2 rest u2 top U V Ul Vl:Nat}(hU:U=(top*B+u2)*B^n+Ul)(hV:V=(v1*B+v2)*B^n+Vl)(hVl:Vl<B^n)(ht:q*v1+rest=top)(hq:q<B)(hv1:0<v1)(h:q*v2<=rest*B+u2):q*V<U+V:=by
 have h1:q*(v1*B+v2)<=top*B+u2:=by
  have e:q*(v1*B+v2)=q*v1*B+q*v2:=by rw[mul_add,mul_assoc]
  have e2:top*B=q*v1*B+rest*B:=by rw[<-ht,add_mul]
  omega
 have h2:=mul_le_mul_right (B^n) h1;have h3:q*V=q*(v1*B+v2)*B^n+q*Vl:=by rw[hV,mul_add,mul_assoc]
 have h4:q*Vl<=q*B^n:=mul_le_mul_left q (le_of_lt hVl);have h5:q*B^n+B^n<=B*B^n:=by
  have:=mul_le_mul_right (B^n) (succ_le_of_lt hq);rw[succ_mul]at this;exact this
 have h6:B*B^n<=v1*B*B^n:=by
  have:=mul_le_mul_right (B*B^n) (succ_le_of_lt hv1);rw[Nat.succ_eq_add_one,zero_add,one_mul,<-mul_assoc]at this;exact this
 grind
def iG(B q u v borrow carry:Nat):Nat×Nat×Nat:=((u+B-(q*v+carry)%B-borrow)%B,1-(u+B-(q*v+carry)%B-borrow)/B,(q*v+carry)/B)
theorem G8{B q u v borrow carry:Nat}(hB:1<B)(hu:u<B)(hb:borrow<=1):
  u+B*((iG B q u v borrow carry).2.1+(iG B q u v borrow carry).2.2)=(iG B q u v borrow carry).1+q*v+(borrow+carry)/\(iG B q u v borrow carry).2.1<=1/\(iG B q u v borrow carry).1<B:=by
 have hp:=mod_lt (q*v+carry) (show 0<B by omega);have hpm:=mod_add_div (q*v+carry) B;have h:=kM (b:=B) (p:=u) (q:=(q*v+carry)%B) (c:=borrow) hB hu hp hb;unfold bg at h;dsimp only at h;unfold iG;dsimp only;refine⟨?_,h.2,mod_lt _ (by omega)⟩
 grind
def dn(m n:Nat):Int:=if m<n then -1 else if m=n then 0 else 1
theorem ji{m n:Nat}(h:m<n):dn m n = -1:=if_pos h
theorem jh{m n:Nat}(h:n<m):dn m n=1:=by unfold dn;omega
theorem m8(m:Nat):dn m m=0:=by simp_all[dn]
theorem rR{m n:Nat}:dn m n<0↔m<n:=by grind[dn]
theorem A7{m n:Nat}:dn m n>=0↔n<=m:=by grind[dn]
theorem js{m n:Nat}(h:(aj m).length<(aj n).length):m<n:=by grind[lt_or_ge,dy,lK]
theorem lN{a b:List UInt8}(hb:b.all bm=true)(ha:a.all bm=true)(hl:a.length=b.length){i:Nat}{c d:UInt8}(hp:a.take i=b.take i)(hc:a[i]?=some c)(hd:b[i]?=some d)(hcd:c<d):val a<val b:=by
 obtain⟨h1,rfl⟩:=List.getElem?_eq_some_iff.1 hc;obtain⟨h2,rfl⟩:=List.getElem?_eq_some_iff.1 hd;have ea:a=a.take i++(a[i]::a.drop (i+1)):=by rw[<-drop_eq_getElem_cons h1,take_append_drop]
 have eb:b=a.take i++(b[i]::b.drop (i+1)):=by rw[hp,<-drop_eq_getElem_cons h2,take_append_drop]
 have hA:val a=val (a.take i)*10^(a.drop i).length+val (a.drop i):=by rw[<-iu,take_append_drop]
 have hB:val b=val (a.take i)*10^(b.drop i).length+val (b.drop i):=by rw[hp,<-iu,take_append_drop]
 have ka:val (a.drop i)=gP a[i]*10^(a.drop (i+1)).length+val (a.drop (i+1)):=by
  rw[drop_eq_getElem_cons h1,<-List.singleton_append,iu];simp[val]
 have kb:val (b.drop i)=gP b[i]*10^(b.drop (i+1)).length+val (b.drop (i+1)):=by
  rw[drop_eq_getElem_cons h2,<-List.singleton_append,iu];simp[val]
 have hd1:(a.drop (i+1)).all bm=true:=by
  rw[all_eq_true]at ha⊢;exact λx hx=>ha x (List.mem_of_mem_drop hx)
 have hlt:=xZ hd1;have hdig:gP a[i]+1<=gP b[i]:=by
  have g1:=jj.1 (all_eq_true.1 ha _ (getElem_mem h1));have g2:=UInt8.lt_iff_toNat_lt.1 hcd;unfold gP;omega
 have e1:(a.drop i).length=(b.drop i).length:=by simp[hl]
 have e2:(a.drop (i+1)).length=(b.drop (i+1)).length:=by simp[hl]
 rw[hA,hB,ka,kb,e1,<-e2];rw[e2]at hlt⊢;have h5:=mul_le_mul_right (10^(b.drop (i+1)).length) hdig
 grind
def dS(l:List UInt8):List Nat:=l.reverse.map gP
theorem iX(l:List UInt8):(dS l).length=l.length:=by simp[dS]
theorem jK{l:List UInt8}(h:l.all bm=true):∀d∈dS l,d<10:=by simp_all[nn,dS]
theorem eE(l:List UInt8):bv 10 (dS l)=val l:=by
 induction l using jk with
 |h0=>rfl
 |h1 l c ih=>grind[fG,dS,bv]
def po(l:List Nat):List UInt8:=l.reverse.map dP
theorem Bh(l:List Nat):(po l).length=l.length:=by simp[po]
theorem JW{l:List Nat}(h:∀d∈l,d<10):val (po l)=bv 10 l:=by
 induction l with
 |nil=>rfl
 |cons d l ih=>grind[fG,xQ,po,bv]
theorem JT{l:List Nat}(h:∀d∈l,d<10):(po l).all bm=true:=by simp_all[pg,po]
theorem JU{l:List Nat}(h:∀d∈l,d<10)(h0:l≠[])(hz:1<l.length->l.getLast?≠some 0):po l=aj (bv 10 l):=by
 rw[<-JW h];refine(pn ⟨λe=>h0 ?_,JT h,λhl=>?_⟩).symm
 ·have:=congrArg List.length e
  grind[Bh]
 ·rw[Bh]at hl;have h1:=hz hl;rw[po,List.head?_map,List.head?_reverse]
  cases hg:l.getLast? with
  |none=>simp
  |some d=>
   rw[hg]at h1;have hd:=h d (List.mem_of_getLast? hg);simp only[Option.map_some,ne_eq,Option.some.injEq]at h1⊢;intro e;have:=congrArg UInt8.toNat e
   grind[gT]
theorem xK{l:List Nat}{n:Nat}(h:∀i,n<=i->l.getD i 0=0):bv 10 (l.take n)=bv 10 l:=by
 induction n generalizing l with
 | zero=>
  have:∀l:List Nat,(∀i,0<=i->l.getD i 0=0)->bv 10 l=0:=by
   intro l
   induction l with
   |nil=>intro _;rfl
   |cons a l ih=>
    intro h;have h1:=h 0 (by omega);rw[bv,ih (λi _=>by have:=h (i+1) (by omega);simpa using this)];simpa using h1
  grind
 | succ n ih=>
  cases l with
  |nil=>rfl
  |cons a l=>
   simp only[List.take_succ_cons,bv];rw[ih (λi hi=>by have:=h (i+1) (by omega);grind)]
def dE(p q c:Nat):Nat×Nat:=if p<q+c then(p+10-q-c,1)else(p-q-c,0)
theorem G5{p q c:Nat}(hp:p<10)(hq:q<10)(hc:c<=1):dE p q c=bg 10 p q c:=by grind[dE,bg]
theorem np{x y:List Nat}(hx:∀d∈x,d<10)(hy:∀d∈y,d<10):∀k i c,c<=1->aL dE x y i k c=aL (bg 10) x y i k c
 |0,_,_,_=>rfl
 |k+1,i,c,hc=>by
  have h1:=G5 (aG (by omega) hx i) (aG (by omega) hy i) hc;simp only[aL];rw[h1,np hx hy k (i+1) _ (kM (by omega) (aG (by omega) hx i) (aG (by omega) hy i) hc).2]
theorem A8{x y:List Nat}(hx:∀d∈x,d<10)(hy:∀d∈y,d<10)(hl:y.length<=x.length)(h:bv 10 y<=bv 10 x):bv 10 (aL dE x y 0 x.length 0)=bv 10 x-bv 10 y:=by
 rw[np hx hy _ _ _ (by omega)];have:=xW (b:=10) (by omega) hx hy x.length 0 0 (by omega) (by omega) (by omega) (by simpa using h)
 grind
theorem dx(F:Nat->Nat->Nat->Nat×Nat)(x y:List Nat):∀k i c,(aL F x y i k c).length=k
 |0,_,_=>rfl
 |k+1,i,c=>by simp[aL,dx F x y k]
theorem A9{x y:List Nat}(hx:∀d∈x,d<10)(hy:∀d∈y,d<10)(k i c:Nat)(hc:c<=1):∀d∈aL dE x y i k c,d<10:=by
 rw[np hx hy _ _ _ hc];exact gQ (λp q c=>mod_lt _ (by omega)) x y k i c
theorem kN:aj 0=[48]:=by rw[cO (by omega)];rfl
theorem Ev:aj 1=[49]:=by rw[cO (by omega)];rfl
theorem cI{n:Nat}:aj n=[48]↔n=0:=by grind[kN,pk]
theorem jr{n:Nat}:aj n=[49]↔n=1:=by grind[Ev,pk]
theorem CE{r:Nat}{c:UInt8}(hc:bm c=true):(if aj r=[48]then[c]else aj r++[c])=aj (10*r+gP c):=by
 have hd:=nn hc;by_cases h:r=0
 ·subst h;rw[if_pos kN,mul_zero,zero_add,cO hd,sG hc]
 ·rw[if_neg (λe=>h (cI.1 e)),nu (by omega) hd,sG hc]
theorem oJ{l:List UInt8}{i:Nat}{c:UInt8}(h:l[i]?=some c):val (l.take (i+1))=10*val (l.take i)+gP c:=by grind[List.take_succ_eq_append_getElem,fG]
theorem Em{V n d k:Nat}(hn:0<n)(h1:k*n<=10*(V%n)+d)(h2:10*(V%n)+d<(k+1)*n):(10*V+d)/n=10*(V/n)+k/\(10*V+d)%n=10*(V%n)+d-k*n:=by
 have e:=mod_add_div V n;have e2:10*V+d=n*(10*(V/n)+k)+(10*(V%n)+d-k*n):=by
  have g1:n*(10*(V/n)+k)=10*(n*(V/n))+k*n:=by rw[mul_add,Nat.mul_left_comm,mul_comm n k]
  omega
 have hlt:10*(V%n)+d-k*n<n:=by rw[add_mul,one_mul]at h2;omega
 rw[e2];constructor
 ·rw[Nat.mul_add_div hn,div_eq_of_lt hlt];rfl
 ·rw[Nat.mul_add_mod,mod_eq_of_lt hlt]
theorem El{V n d k:Nat}(hn:0<n)(hd:d<10)(h1:k*n<=10*(V%n)+d):k<10:=by
 have:=mod_lt V hn;rcases lt_or_ge k 10 with h|h
 ·exact h
 ·have:=mul_le_mul_right n h;omega
theorem Ey{l:List UInt8}(h:∀c∈l,c=48):val l=0:=by
 induction l using jk with
 |h0=>rfl
 |h1 l c ih=>
  rw[fG,ih (λx hx=>h x (by grind)),h c (by simp)];rfl
theorem Es{l:List UInt8}{k:Nat}(hd:l.all bm=true)(hk:k<l.length)(hz:∀i,i<k->l[i]?=some 48)(hs:k+1<l.length->l[k]?≠some 48):l.drop k=aj (val l):=by
 have h1:val l=val (l.drop k):=by
  have:=iu (l.take k) (l.drop k);rw[take_append_drop]at this;rw[this,Ey (λc hc=>by
   obtain⟨i,hi⟩:=List.getElem?_of_mem hc;rw[getElem?_take]at hi;split at hi
   ·next h=>rw[hz i h]at hi;exact(oI hi).symm
   ·cases hi),zero_mul,zero_add]
 rw[h1];refine(pn ⟨λe=>?_,?_,λhl=>?_⟩).symm
 ·have:=congrArg List.length e;simp at this;omega
 all_goals grind[List.head?_drop]
theorem G3(m n:Nat):Nat.gcd m n=Nat.gcd n (m%n):=by grind[Nat.gcd_comm,Nat.gcd_rec]
def bh(B q:Nat)(u v:List Nat):Nat->Nat->Nat->Nat->List Nat×Nat×Nat
 |_,0,b,c=>([],b,c)
 |i,k+1,b,c=>
  let s:=iG B q (u.getD i 0) (v.getD i 0) b c
  let r:=bh B q u v (i+1) k s.2.1 s.2.2
  (s.1::r.1,r.2)
theorem nr(B q:Nat)(u v:List Nat):∀k i b c,(bh B q u v i k b c).1.length=k
 |0,_,_,_=>rfl
 |k+1,i,b,c=>by simp[bh,nr B q u v k]
theorem qt{B q:Nat}(hB:1<B)(u v:List Nat):∀k i b c,∀d∈(bh B q u v i k b c).1,d<B
 |0,_,_,_=>by simp[bh]
 |k+1,i,b,c=>by
  intro d hd;simp only[bh]at hd;rcases mem_cons.1 hd with rfl|hd
  ·exact mod_lt _ (by omega)
  ·exact qt hB u v k _ _ _ d hd
theorem oY(b:Nat)(x:List Nat)(i k:Nat):bv b ((x.drop i).take (k+1))=x.getD i 0+b*bv b ((x.drop (i+1)).take k):=by grind[drop_eq_getElem_cons,drop_eq_nil_of_le,bv]
theorem uk{B q:Nat}(hB:1<B){u v:List Nat}(hu:∀d∈u,d<B):∀k i b c,b<=1->
  bv B ((u.drop i).take k)+B^k*((bh B q u v i k b c).2.1+(bh B q u v i k b c).2.2)=bv B (bh B q u v i k b c).1+q*bv B ((v.drop i).take k)+(b+c)/\(bh B q u v i k b c).2.1<=1
 |0,i,b,c,hb=>by grind[bh,bv]
 |k+1,i,b,c,hb=>by
  obtain⟨s1,s2,s3⟩:=G8 (B:=B) (q:=q) (u:=u.getD i 0) (v:=v.getD i 0) (borrow:=b) (carry:=c) hB (aG (by omega) hu i) hb;obtain⟨ih,ih2⟩:=uk hB (q:=q) (v:=v) hu k (i+1) _ (iG B q (u.getD i 0) (v.getD i 0) b c).2.2 s2;rw[oY,oY];simp only[bh,bv]
  grind
theorem wq{B:Nat}{l:List Nat}{n:Nat}(h:l.length=n):bv B (l.take n)=bv B l:=by grind
theorem Ej{B q:Nat}(hB:1<B){u v:List Nat}{n:Nat}(hu:∀d∈u,d<B)(hul:u.length=n+1)(hvl:v.length=n):
  (bh B q u v 0 (n+1) 0 0).2.2=0->((bh B q u v 0 (n+1) 0 0).2.1=0->bv B u=bv B (bh B q u v 0 (n+1) 0 0).1+q*bv B v)/\
  ((bh B q u v 0 (n+1) 0 0).2.1≠0->bv B u+B^(n+1)=bv B (bh B q u v 0 (n+1) 0 0).1+q*bv B v/\bv B u<q*bv B v):=by
 intro hc;obtain⟨e,hb⟩:=uk hB (q:=q) (v:=v) hu (n+1) 0 0 0 (by omega);rw[drop_zero,drop_zero,wq hul,take_of_length_le (by omega:v.length<=n+1),hc]at e;refine⟨λh0=>?_,λh0=>?_⟩
 ·grind
 ·have hb1:(bh B q u v 0 (n+1) 0 0).2.1=1:=by omega
  rw[hb1,mul_one]at e
  grind[dR,qt,nr]
theorem sL{B q:Nat}(hB:1<B){u v:List Nat}(hq:q<B)(hv:∀d∈v,d<B):∀k i b c,c<B->v.length<=i+k->0<k->v.length<i+k->(bh B q u v i k b c).2.2=0
 |0,_,_,_,_,_,h,_=>by omega
 |1,i,b,c,hc,_,_,hl=>by
  simp only[bh,iG];have:v.getD i 0=0:=by rw[gD,getElem?_eq_none (by omega)];rfl
  simp_all
 | k+2,i,b,c,hc,_,_,hl=>by
  have h2:=aG (by omega) hv i;simp only[bh];have:=sL hB (u:=u) hq hv (k+1) (i+1) (iG B q (u.getD i 0) (v.getD i 0) b c).2.1 (iG B q (u.getD i 0) (v.getD i 0) b c).2.2 (by
   show(q*v.getD i 0+c)/B<B;refine div_lt_of_lt_mul ?_;have h3:q*v.getD i 0<=(B-1)*(B-1):=mul_le_mul (by omega) (by omega);have h4:(B-1)*(B-1)+(B-1)=(B-1)*B:=by rw[<-mul_succ];congr 1;omega
   have h5:(B-1)*B+B=B*B:=by rw[<-succ_mul];congr 1;omega
   omega) (by omega) (by omega) (by omega)
  grind[bh]
theorem G1{B:Nat}(hB:1<B){u v:List Nat}{n Q V U:Nat}(hu:∀d∈u,d<B)(hv:∀d∈v,d<B)(hul:u.length=n+1)(hvl:v.length=n)(h1:U+B^(n+1)=bv B u+(Q+1)*V)(h2:U<(Q+1)*V)(h3:(Q+1)*V<U+V)(hV:V=bv B v):
  bv B ((aL (aC B) u v 0 (n+1) 0))+Q*V=U:=by
 have hs:=uj hB (x:=u) (y:=v) hu hv (n+2) 0 0 (by omega) (by omega) (by omega) (by omega);simp only[drop_zero,add_zero]at hs;have split:∀k i c,aL (aC B) u v i (k+1) c=aL (aC B) u v i k c++(aL (aC B) u v i (k+1) c).drop k:=by
  intro k
  induction k with
  |zero=>intro i c;simp[aL]
  |succ k ih=>
   intro i c;have:=ih (i+1) (aC B (u.getD i 0) (v.getD i 0) c).2;show _::aL (aC B) u v (i+1) (k+1) _=(_::aL (aC B) u v (i+1) k _)++(_::aL (aC B) u v (i+1) (k+1) _).drop (k+1);rw[cons_append,List.drop_succ_cons];exact congrArg _ this
 rw[split (n+1) 0 0,eH,dx]at hs;have hlt:=dR (gQ (b:=B) (F:=aC B) (λp q c=>mod_lt _ (by omega)) u v (n+1) 0 0);rw[dx]at hlt;rw[add_mul,one_mul]at h1 h2 h3;have hul':=dR hu;rw[hul]at hul';have hvl':=dR hv;rw[hvl]at hvl';have hpow:B^n<=B^(n+1):=pow_le_pow_right (by omega) (by omega);have key:bv B ((aL (aC B) u v 0 (n+1+1) 0).drop (n+1))=1:=by
  generalize bv B ((aL (aC B) u v 0 (n+1+1) 0).drop (n+1))=z at hs;rcases Nat.lt_trichotomy z 1 with hz|hz|hz
  ·have:z=0:=by omega
   subst this;rw[mul_zero]at hs;omega
  ·exact hz
  ·have:=mul_le_mul_left (B^(n+1)) hz;rw[mul_succ,mul_one]at this;omega
 grind
theorem xJ{B:Nat}:∀(l:List Nat)(i d:Nat),i<l.length->bv B (l.set i d)+B^i*l.getD i 0=bv B l+B^i*d
 |[],i,d,h=>by grind
 |a::l,0,d,_=>by grind[bv]
 |a::l,i+1,d,h=>by
  have ih:=congrArg (B*·) (xJ (B:=B) l i d (by simpa using h))
  grind[bv]
theorem Er{B:Nat}{l:List Nat}(h:∀d∈l,d<B){i d:Nat}(hd:d<B):∀x∈l.set i d,x<B:=λx hx=>by grind
theorem mC{B n:Nat}(_:1<B):∀{l:List Nat},bv B l<B^n->bv B (l.drop n)=0
 | l,h=>by
  rcases lt_or_ge n l.length with h1|h1
  ·have e:=eH B (l.take n) (l.drop n);rw[take_append_drop,length_take,min_eq_left (by omega)]at e;rcases eq_zero_or_pos (bv B (l.drop n))with h2|h2
   ·omega
   ·have:=mul_le_mul_left (B^n) h2;omega
  ·rw[drop_eq_nil_of_le h1];rfl
theorem rQ(B:Nat)(l:List Nat)(n:Nat):bv B l=bv B (l.take n)+B^(min n l.length)*bv B (l.drop n):=by grind[eH,take_append_drop]
structure fU(B n V XK:Nat)(u q:List Nat)(j:Nat):Prop where
 ul:∀d∈u,d<B
 ql:∀d∈q,d<B
 len:u.length=q.length+n
 Xz:j<=q.length
 lo:bv B (u.drop j)<V
 eq:XK=bv B u+V*bv B q
 qz:∀i,i<j->q.getD i 0=0
theorem fU.D7{B n V XK:Nat}{u q:List Nat}{at':Nat}(hB:1<B)(hV:V<=B^n)(h:fU B n V XK u q (at'+1)):
  bv B ((u.drop at').take (n+1))=bv B (u.drop at')/\bv B ((u.drop at').take (n+1))<B*V/\((u.drop at').take (n+1)).length=n+1:=by
 have hl:=h.len;have hj:=h.Xz;have h1:bv B (u.drop at')=u.getD at' 0+B*bv B (u.drop (at'+1)):=eG B u at';have h2:=aG (by omega) h.ul at';have h3:=h.lo;have h4:bv B (u.drop at')<B*V:=by
  have:=mul_le_mul_left B (succ_le_of_lt h3);rw[mul_succ]at this;omega
 have h5:bv B ((u.drop at').drop (n+1))=0:=by
  refine mC hB (lt_of_lt_of_le h4 ?_);rw[pow_succ,mul_comm];exact mul_le_mul_right B hV
 have h6:=rQ B (u.drop at') (n+1)
 grind
theorem fU.step{B n V XK:Nat}{u q w:List Nat}{at' d:Nat}(hB:1<B)(hV:V<=B^n)(h:fU B n V XK u q (at'+1))(hw:∀x∈w,x<B)(hwl:w.length=n+1)(hd:d<B)
  (he:bv B ((u.drop at').take (n+1))=bv B w+d*V) (hlt:bv B w<V):fU B n V XK (u.take at'++w++u.drop (at'+(n+1))) (q.set at' d) at':=by
 have hl:=h.len;have hj:=h.Xz;obtain⟨w1,w2,w3⟩:=h.D7 hB hV;have hz:bv B (u.drop (at'+(n+1)))=0:=by
  rw[<-List.drop_drop];refine mC hB ?_;rw[<-w1];refine lt_of_lt_of_le w2 ?_;rw[pow_succ,mul_comm];exact mul_le_mul_right B hV
 have htl:(u.take at').length=at':=by rw[length_take];omega
 have hdrop:(u.take at'++w++u.drop (at'+(n+1))).drop at'=w++u.drop (at'+(n+1)):=by
  rw[append_assoc,List.drop_append_of_le_length (by omega),List.drop_of_length_le (by omega),List.nil_append]
 refine⟨?_,Er h.ql hd,?_,by grind,?_,?_,?_⟩
 ·intro x hx;simp only[mem_append]at hx;rcases hx with(hx|hx)|hx
  ·exact h.ul x (mem_of_mem_take hx)
  ·grind
  ·exact h.ul x (List.mem_of_mem_drop hx)
 ·grind
 ·rw[hdrop,eH,hz,mul_zero,add_zero];omega
 ·have e1:=eH B (u.take at') (u.drop at');rw[take_append_drop,htl,<-w1,he]at e1;have e2:bv B (u.take at'++w++u.drop (at'+(n+1)))=bv B (u.take at')+B^at'*bv B w:=by
   rw[append_assoc,eH,eH,hz,htl,mul_zero,add_zero]
  have e3:=xJ (B:=B) q at' d (by omega);rw[h.qz at' (by omega),mul_zero,add_zero]at e3;rw[h.eq,e1,e2,e3,mul_add,mul_add]
  grind
 ·intro i hi;have:=h.qz i (by omega)
  grind
theorem fU.done{B n V XK:Nat}{u q:List Nat}(h:fU B n V XK u q 0):bv B q=XK/V/\bv B u=XK%V:=by
 have h1:=h.lo;rw[drop_zero]at h1;rw[h.eq]
 grind[Nat.mul_add_div,div_eq_of_lt,Nat.mul_add_mod,mod_eq_of_lt]
theorem fU.start{B n m k X Y:Nat}{u:List Nat}(hB:1<B)(hu:∀d∈u,d<B)(hul:u.length=m+1)(hn:n<=m)(hX:X<B^m)(hY:B^(n-1)<=Y)(hn0:0<n)(hk:0<k)(he:bv B u=X*k):fU B n (Y*k) (X*k) u (List.replicate (m+1-n) 0) (m+1-n):=by
 refine⟨hu,λd hd=>by rw[(List.mem_replicate.1 hd).2];omega,by rw[length_replicate];omega,by rw[length_replicate];exact Nat.le_refl _,?_,?_,λi hi=>?_⟩
 ·have h1:=rQ B u (m+1-n);rw[he,min_eq_left (by omega)]at h1;rcases lt_or_ge (bv B (u.drop (m+1-n))) (Y*k)with h2|h2
  ·exact h2
  ·have h3:=mul_le_mul_left (B^(m+1-n)) h2;have h4:B^m*k<=B^(m+1-n)*(Y*k):=by
    have e:B^m=B^(m+1-n)*B^(n-1):=by rw[<-Nat.pow_add];congr 1;omega
    rw[e,mul_assoc];exact mul_le_mul_left _ (mul_le_mul_right k hY)
   have h5:X*k<B^m*k:=Nat.mul_lt_mul_of_pos_right hX hk;omega
 ·have:bv B (List.replicate (m+1-n) 0)=0:=by
   induction (m+1-n)with
   |zero=>rfl
   |succ j ih=>rw[List.replicate_succ,bv,ih];rfl
  rw[this,he,mul_zero,add_zero]
 grind
theorem wu{X Y k:Nat}(hk:0<k):X*k/(Y*k)=X/Y/\X*k%(Y*k)=X%Y*k:=
 by grind[Nat.mul_div_mul_right,Nat.mul_mod_mul_right]
theorem Ar{B k left a:Nat}(hk:0<k)(hl:left<k)(ha:a<B):(left*B+a)/k<B/\(left*B+a)%k<k/\(left*B+a)/k*k+(left*B+a)%k=left*B+a:=by
 refine⟨div_lt_of_lt_mul ?_,mod_lt _ hk,by rw[mul_comm];exact Nat.div_add_mod _ _⟩;have:=mul_le_mul_right B (succ_le_of_lt hl)
 grind
structure iV(B k R:Nat)(r:List Nat)(j left:Nat):Prop where
 rl:∀d∈r,d<B
 Xz:j<=r.length
 lt:left<k
 eq:bv B (r.drop j)*k*B^j+left*B^j+bv B (r.take j)=R
theorem iV.step{B k R:Nat}{r:List Nat}{at' left:Nat}(hk:0<k)(h:iV B k R r (at'+1) left):iV B k R (r.set at' ((left*B+r.getD at' 0)/k)) at' ((left*B+r.getD at' 0)%k):=by
 have hj:=h.Xz;have hB:0<B:=by
  have:=h.rl (r.getD at' 0) (by
   rw[gD,gE (by omega)];exact getElem_mem _)
  omega
 obtain⟨s1,s2,s3⟩:=Ar (B:=B) hk h.lt (aG hB h.rl at');refine⟨Er h.rl s1,by rw[length_set];omega,s2,?_⟩;rw[List.take_set_of_le (by omega),eG,List.drop_set_of_lt (by omega)];have e1:(r.set at' ((left*B+r.getD at' 0)/k)).getD at' 0=(left*B+r.getD at' 0)/k:=by
  rw[gD,List.getElem?_set_self (by omega)];rfl
 rw[e1,<-h.eq]
 grind[List.take_succ_eq_append_getElem,m7]
theorem iV.done{B k R:Nat}{r:List Nat}{left:Nat}(hk:0<k)(h:iV B k R r 0 left):bv B r=R/k:=by
 have e:=h.eq;simp only[drop_zero,Nat.pow_zero,mul_one,List.take_zero,bv,add_zero]at e;rw[<-e,mul_comm,Nat.mul_add_div hk,div_eq_of_lt h.lt];rfl
section
theorem kK(B:Nat)(l:List Nat)(i:Nat)(h:i<=l.length):bv B l=bv B (l.take i)+B^i*bv B (l.drop i):=by grind[rQ]
theorem jm{B:Nat}{l:List Nat}{i:Nat}(h:l.length=i+1):bv B (l.drop i)=l.getD i 0:=by
 rw[eG,drop_eq_nil_of_le (by omega)];rfl
theorem iJ{B:Nat}{l:List Nat}{i:Nat}(h:l.length=i+2):bv B (l.drop i)=l.getD (i+1) 0*B+l.getD i 0:=by grind[eG,jm]
theorem oF{B:Nat}{l:List Nat}{i:Nat}(h:l.length=i+3):bv B (l.drop i)=(l.getD (i+2) 0*B+l.getD (i+1) 0)*B+l.getD i 0:=by grind[eG,iJ]
structure fB(B n:Nat)(u v:List Nat)(q rest:Nat):Prop where
 eq:q*v.getD (n-1) 0+rest=u.getD n 0*B+u.getD (n-1) 0
 hi:bv B u<(q+1)*bv B v
section
variable {B n:Nat} {u v:List Nat} {q rest:Nat}
theorem fB.start(hB:1<B)(hul:u.length=n+1)(hvl:v.length=n)(hn:0<n)(hu:∀d∈u,d<B)(h0:0<v.getD (n-1) 0):fB B n u v ((u.getD n 0*B+u.getD (n-1) 0)/v.getD (n-1) 0) ((u.getD n 0*B+u.getD (n-1) 0)%v.getD (n-1) 0):=by
 refine⟨by rw[mul_comm];exact Nat.div_add_mod _ _,?_⟩;have h1:=kK B u (n-1) (by omega);have h2:=kK B v (n-1) (by omega);have e1:bv B (u.drop (n-1))=u.getD n 0*B+u.getD (n-1) 0:=by
  have:=iJ (B:=B) (l:=u) (i:=n-1) (by omega);rwa[show n-1+1=n by omega]at this
 rw[jm (by omega)]at h2;rw[e1]at h1;rw[h1,h2];have h3:=dR (b:=B) (x:=u.take (n-1)) (λd hd=>hu d (mem_of_mem_take hd));rw[length_take,min_eq_left (by omega)]at h3;generalize u.getD n 0*B+u.getD (n-1) 0=top;generalize v.getD (n-1) 0=v1 at h0⊢;have h4:top<(top/v1+1)*v1:=by
  have:=Nat.div_add_mod top v1;have:=mod_lt top h0;rw[add_mul,one_mul,mul_comm];omega
 have h5:=mul_le_mul_left (B^(n-1)) (succ_le_of_lt h4)
 grind
theorem fB.lower(hq:bv B u<q*bv B v)(h:fB B n u v q rest):fB B n u v (q-1) (rest+v.getD (n-1) 0):=by
 have hq0:0<q:=by
  rcases eq_zero_or_pos q with h1|h1
  ·subst h1;rw[zero_mul]at hq;omega
  ·exact h1
 obtain⟨p,rfl⟩:∃p,q=p+1:=⟨q-1,by omega⟩
 refine⟨?_,by simpa using hq⟩;have:=h.eq
 grind
theorem fB.Vy(hU:bv B u<B*bv B v)(hq:B<=q):bv B u<q*bv B v:=lt_of_lt_of_le hU (mul_le_mul_right _ hq)
theorem fB.second(hul:u.length=n+1)(hvl:v.length=n)(hn:1<n)(hu:∀d∈u,d<B)(h:fB B n u v q rest)(hs:rest*B+u.getD (n-2) 0<q*v.getD (n-2) 0):bv B u<q*bv B v:=by
 have h1:=kK B u (n-2) (by omega);have h2:=kK B v (n-2) (by omega);have e1:bv B (u.drop (n-2))=(u.getD n 0*B+u.getD (n-1) 0)*B+u.getD (n-2) 0:=by
  have:=oF (B:=B) (l:=u) (i:=n-2) (by omega);rwa[show n-2+1=n-1 by omega,show n-2+2=n by omega]at this
 have e2:bv B (v.drop (n-2))=v.getD (n-1) 0*B+v.getD (n-2) 0:=by
  have:=iJ (B:=B) (l:=v) (i:=n-2) (by omega);rwa[show n-2+1=n-1 by omega]at this
 rw[e1,add_comm,mul_comm]at h1;rw[e2,add_comm,mul_comm]at h2;have h3:=dR (b:=B) (x:=u.take (n-2)) (λd hd=>hu d (mem_of_mem_take hd));rw[length_take,min_eq_left (by omega)]at h3;exact Ew h1 h3 h2 h.eq hs
theorem fB.last(hB:1<B)(hul:u.length=n+1)(hvl:v.length=n)(hn:0<n)(hv:∀d∈v,d<B)(h0:0<v.getD (n-1) 0)(h:fB B n u v q rest)(hq:q<B)(hs:1<n->q*v.getD (n-2) 0<=rest*B+u.getD (n-2) 0):q*bv B v<bv B u+bv B v:=by
 rcases lt_or_ge 1 n with h1|h1
 ·have h3:=kK B u (n-2) (by omega);have h4:=kK B v (n-2) (by omega);have e1:bv B (u.drop (n-2))=(u.getD n 0*B+u.getD (n-1) 0)*B+u.getD (n-2) 0:=by
   have:=oF (B:=B) (l:=u) (i:=n-2) (by omega);rwa[show n-2+1=n-1 by omega,show n-2+2=n by omega]at this
  have e2:bv B (v.drop (n-2))=v.getD (n-1) 0*B+v.getD (n-2) 0:=by
   have:=iJ (B:=B) (l:=v) (i:=n-2) (by omega);rwa[show n-2+1=n-1 by omega]at this
  rw[e1,add_comm,mul_comm]at h3;rw[e2,add_comm,mul_comm]at h4;have h5:=dR (b:=B) (x:=v.take (n-2)) (λd hd=>hv d (mem_of_mem_take hd));rw[length_take,min_eq_left (by omega)]at h5;exact CF h3 h4 h5 h.eq hq h0 (hs h1)
 ·obtain rfl:n=1:=by omega
  have e1:=iJ (B:=B) (l:=u) (i:=0) (by omega);have e2:=jm (B:=B) (l:=v) (i:=0) (by omega);rw[drop_zero]at e1 e2;have:=h.eq
  grind
theorem rh(hq:q<B){v2 u2:Nat}(hv:v2<B)(hr:B<=rest):q*v2<=rest*B+u2:=by
 have h1:q*v2<=B*B:=mul_le_mul (by omega) (by omega);have h2:B*B<=rest*B:=mul_le_mul_right B hr;omega
end
theorem CA{B q n:Nat}(hB:1<B){u v:List Nat}(hu:∀d∈u,d<B)(hv:∀d∈v,d<B)(hul:u.length=n+1)(hvl:v.length=n)(hq:q<B)(h1:bv B u<(q+1)*bv B v)(h2:q*bv B v<bv B u+bv B v):
  (bh B q u v 0 (n+1) 0 0).2.2=0/\
  ((bh B q u v 0 (n+1) 0 0).2.1=0->q=bv B u/bv B v/\bv B (bh B q u v 0 (n+1) 0 0).1=bv B u%bv B v)/\
  ((bh B q u v 0 (n+1) 0 0).2.1≠0->0<q/\q-1=bv B u/bv B v/\bv B (aL (aC B) (bh B q u v 0 (n+1) 0 0).1 v 0 (n+1) 0)=bv B u%bv B v):=by
 have hc:=sL hB (u:=u) hq hv (n+1) 0 0 0 (by omega) (by omega) (by omega) (by omega);obtain⟨d1,d2⟩:=Ej hB hu hul hvl hc (q:=q);have key:∀{k r:Nat},bv B u=r+k*bv B v->r<bv B v->k=bv B u/bv B v/\r=bv B u%bv B v:=by
  intro k r e hr;rw[e,mul_comm k,add_comm];constructor
  ·grind[Nat.mul_add_div,div_eq_of_lt]
  ·rw[Nat.mul_add_mod,mod_eq_of_lt hr]
 refine⟨hc,λh=>?_,λh=>?_⟩
 ·grind
 ·obtain⟨e1,e2⟩:=d2 h;have hq0:0<q:=by
   rcases eq_zero_or_pos q with h3|h3
   ·subst h3;rw[zero_mul]at e2;omega
   ·exact h3
  obtain⟨Q,rfl⟩:∃Q,q=Q+1:=⟨q-1,by omega⟩
  have e3:=G1 hB (Q:=Q) (V:=bv B v) (U:=bv B u) (qt (q:=Q+1) hB u v (n+1) 0 0 0) hv (nr _ _ _ _ _ _ _ _) hvl e1 e2 h2 rfl
  grind
end
def dq(F:Nat->Nat->Nat->Nat×Nat)(x y:List Nat)(i c:Nat):Nat->Nat
 |0=>c
 |k+1=>(F (x.getD (i+k) 0) (y.getD (i+k) 0) (dq F x y i c k)).2
theorem xM(F:Nat->Nat->Nat->Nat×Nat)(x y:List Nat)(i c:Nat):∀k,dq F x y (i+1) (F (x.getD i 0) (y.getD i 0) c).2 k=dq F x y i c (k+1)
 |0=>rfl
 |k+1=>by
  show(F (x.getD (i+1+k) 0) (y.getD (i+1+k) 0) (dq F x y (i+1) _ k)).2=(F (x.getD (i+(k+1)) 0) (y.getD (i+(k+1)) 0) (dq F x y i c (k+1))).2;rw[xM F x y i c k,show i+1+k=i+(k+1) by omega]
theorem fD(F:Nat->Nat->Nat->Nat×Nat)(x y:List Nat):∀k i c,aL F x y i (k+1) c=aL F x y i k c++[(F (x.getD (i+k) 0) (y.getD (i+k) 0) (dq F x y i c k)).1]
 |0,i,c=>rfl
 |k+1,i,c=>by
  have ih:=fD F x y k (i+1) (F (x.getD i 0) (y.getD i 0) c).2
  grind[xM,aL]
theorem I2{F:Nat->Nat->Nat->Nat×Nat}{m:Nat}(h:∀p q c,c<=m->(F p q c).2<=m)(x y:List Nat)(i c:Nat)(hc:c<=m):∀k,dq F x y i c k<=m
 |0=>hc
 |k+1=>h _ _ _ (I2 h x y i c hc k)
theorem oZ{b:Nat}(hb:1<b){x y:List Nat}(hx:∀d∈x,d<b)(hl:x.length=y.length){j:Nat}(hj:j<x.length)(hd:x.drop (j+1)=y.drop (j+1))(hlt:x.getD j 0<y.getD j 0):bv b x<bv b y:=by
 have h1:=kK b x j (by omega);have h2:=kK b y j (by omega);rw[eG]at h1 h2;rw[h1,h2,hd];have h3:=dR (b:=b) (x:=x.take j) (λd hm=>hx d (mem_of_mem_take hm));rw[length_take,min_eq_left (by omega)]at h3;have h4:=mul_le_mul_left (b^j) (succ_le_of_lt (Nat.add_lt_add_right hlt (b*bv b (y.drop (j+1)))))
 grind
theorem jq{b:Nat}(hb:1<b){m n:Nat}(h:(aE b m).length<(aE b n).length):m<n:=by
 have hn:0<n:=by
  rcases eq_zero_or_pos n with e|e
  ·grind[ek]
  ·exact e
 have h1:=dR (cg hb m);rw[bB hb]at h1;have h2:=oG hb hn;have h3:b^(aE b m).length<=b^((aE b n).length-1):=pow_le_pow_right (by omega) (by omega);omega
theorem pj(B q:Nat)(u v:List Nat):∀k i b c,bh B q u v i (k+1) b c =
    ((bh B q u v i k b c).1++[(iG B q (u.getD (i+k) 0) (v.getD (i+k) 0) (bh B q u v i k b c).2.1 (bh B q u v i k b c).2.2).1],
     (iG B q (u.getD (i+k) 0) (v.getD (i+k) 0) (bh B q u v i k b c).2.1 (bh B q u v i k b c).2.2).2.1,
     (iG B q (u.getD (i+k) 0) (v.getD (i+k) 0) (bh B q u v i k b c).2.1 (bh B q u v i k b c).2.2).2.2)
  |0,i,b,c=>rfl
  | k+1,i,b,c=>by
    have ih:=pj B q u v k (i+1) (iG B q (u.getD i 0) (v.getD i 0) b c).2.1 (iG B q (u.getD i 0) (v.getD i 0) b c).2.2
    grind[bh]
theorem As{B q:Nat}(hB:1<B){u v:List Nat}(hu:∀d∈u,d<B)(k:Nat):(bh B q u v 0 k 0 0).2.1<=1:=(uk hB (v:=v) hu k 0 0 0 (by omega)).2
theorem oH{B q:Nat}(hB:1<B)(hq:q<B){u v:List Nat}(hv:∀d∈v,d<B):∀k,(bh B q u v 0 k 0 0).2.2<B
  |0=>by grind[bh]
  | k+1=>by
    rw[pj];have ih:=oH hB hq (u:=u) hv k;have h2:=aG (by omega) hv (0+k);show(q*v.getD (0+k) 0+(bh B q u v 0 k 0 0).2.2)/B<B;refine div_lt_of_lt_mul ?_;have h3:q*v.getD (0+k) 0<=(B-1)*(B-1):=mul_le_mul (by omega) (by omega);have h4:(B-1)*(B-1)+(B-1)=(B-1)*B:=by rw[<-mul_succ];congr 1;omega
    have h5:(B-1)*B+B=B*B:=by rw[<-succ_mul];congr 1;omega
    omega
theorem vC{α:Type}(x y:List α){i:Nat}(hx:x.length=i)(hi:i<y.length)(d:α):(x++y.drop i).set i d=(x++[d])++y.drop (i+1):=by
  rw[List.set_append,if_neg (by omega),hx,Nat.sub_self,drop_eq_getElem_cons hi,List.set_cons_zero,append_assoc];rfl
theorem sH(x y:List Nat){i:Nat}(hx:x.length=i):(x++y.drop i).getD i 0=y.getD i 0:=by grind
theorem sM(l:List Nat):l.take (cJ l).length=cJ l/\(cJ l).length<=l.length:=by
 induction l using jk with
 |h0=>exact⟨rfl,Nat.le_refl _⟩
 | h1 l d ih=>
  by_cases hd:d=0
  ·grind[gy]
  ·rw[ir l hd,List.take_length]
   grind
theorem Bg{B n:Nat}(hB:1<B)(hn:0<n):0<(aE B n).getD ((aE B n).length-1) 0:=by
 have h1:=(G9 hB n).2
 grind[aE]
theorem CD{B n m:Nat}(hB:1<B)(h1:n<B^m)(h2:B^(m-1)<=n)(hm:0<m):(aE B n).length=m:=by
 refine Nat.le_antisymm (jo hB h1) ?_;rcases lt_or_ge (aE B n).length m with h|h
 ·have h3:=dR (cg hB n);rw[bB hB]at h3;have:B^(aE B n).length<=B^(m-1):=pow_le_pow_right (by omega) (by omega);omega
 omega
theorem L9{B Y:Nat}(hB:1<B)(hY:0<Y):let m:=(aE B Y).length;let top:=(aE B Y).getD (m-1) 0;let k:=B/(top+1)
  0<m/\top<B/\0<k/\k<=B/\B^(m-1)<=Y/\Y*k<B^m:=by
 intro m top k;have hm:0<m:=length_pos_iff.2 λe=>by grind[fF]
 have ht:top<B:=aG (by omega) (cg hB Y) _;have hk:0<k:=Nat.div_pos (by omega) (by omega);have hlow:=oG hB hY;refine⟨hm,ht,hk,Nat.div_le_self _ _,hlow,?_⟩;have hup:Y<(top+1)*B^(m-1):=by
  have h1:=kK B (aE B Y) (m-1) (by omega);rw[jm (show(aE B Y).length=m-1+1 by omega),bB hB]at h1;have h2:=dR (b:=B) (x:=(aE B Y).take (m-1)) (λd hd=>cg hB Y d (mem_of_mem_take hd));rw[length_take,min_eq_left (by omega)]at h2;rw[add_mul,one_mul,mul_comm top];show Y<B^(m-1)*top+_;have:(aE B Y).getD (m-1) 0=top:=rfl;rw[this]at h1;omega
 have h3:Y*k<(top+1)*B^(m-1)*k:=Nat.mul_lt_mul_of_pos_right hup hk;have h4:(top+1)*k<=B:=by rw[mul_comm];exact Nat.div_mul_le_self _ _
 have h5:(top+1)*B^(m-1)*k=(top+1)*k*B^(m-1):=by rw[Nat.mul_right_comm]
 have h6:(top+1)*k*B^(m-1)<=B*B^(m-1):=mul_le_mul_right _ h4;have h7:B*B^(m-1)=B^m:=by rw[mul_comm,<-pow_succ];congr 1;omega
 omega
def wid:Nat->Nat->List UInt8
 |0,_=>[]
 |n+1,u=>wid n (u/10)++[dP (u%10)]
theorem uo:∀n u,(wid n u).length=n
 |0,_=>rfl
 |n+1,u=>by rw[wid,length_append,uo n];rfl
theorem rW:∀(n u:Nat),wid (n+1) u=dP (u/10^n%10)::wid n u
 |0,u=>by simp[wid]
 |n+1,u=>by
  rw[wid,rW n (u/10),wid,cons_append,Nat.div_div_eq_div_mul,pow_succ,mul_comm 10]
theorem um{n u:Nat}(h1:u<10^(n+1))(h2:n=0\/10^n<=u):wid (n+1) u=aj u:=by
 induction n generalizing u with
 |zero=>grind[cO,wid]
 |succ n ih=>grind[gR,Nat.le_div_iff_mul_le,wid]
theorem Bi{u:Nat}:∀{n:Nat},u<10^n->0<n->wid n u=List.replicate (n-(aj u).length) 48++aj u
 |0,_,h=>absurd h (by omega)
 | n+1,h,_=>by
  by_cases hn:n=0\/10^n<=u
  ·have h1:=um h hn;have h2:=congrArg List.length h1;rw[uo]at h2
   simp_all
  ·have hn1:n≠0:=λh=>hn (.inl h);have hn2:u<10^n:=Nat.lt_of_not_le λh=>hn (.inr h);have hl:=(dy (n:=u) (k:=n) (by omega)).2 hn2;rw[rW,Bi hn2 (by omega),div_eq_of_lt hn2,show n+1-(aj u).length=(n-(aj u).length)+1 by omega,List.replicate_succ];rfl
theorem vD{Y:Nat}(hY:0<Y):∀{n b:Nat},b<10^n->aj (Y*10^n+b)=aj Y++wid n b
 |0,b,h=>by simp_all[wid]
 | n+1,b,h=>by
  have h1:b/10<10^n:=by rw[Nat.div_lt_iff_lt_mul (by omega),<-pow_succ];exact h
  have h2:=vD hY h1;have hp:0<10^n:=Nat.pow_pos (by omega);have h3:0<Y*10^n+b/10:=Nat.add_pos_left (Nat.mul_pos hY hp) _;have e:Y*10^(n+1)+b=10*(Y*10^n+b/10)+b%10:=by
   rw[pow_succ,mul_add,<-mul_assoc,mul_comm (Y*10^n) 10];omega
  simp_all[nu,mod_lt,wid]
theorem Au{Y b:Nat}(hY:0<Y)(hb:b<1000000000):aj (b+1000000000*Y)=aj Y++List.replicate (9-(aj b).length) 48++aj b:=by
 have h:=vD hY (n:=9) (b:=b) hb
 grind[Bi]
theorem Av{b:Nat}(hb:b<1000000000):(aj b).length<=9:=(dy (by omega)).2 hb
theorem o8(B:Nat)(y:List Nat)(k:Nat):bv B (y.take (k+1))=bv B (y.take k)+B^k*y.getD k 0:=by grind[List.take_succ_eq_append_getElem,m7,take_of_length_le]
theorem G4{B:Nat}{x:List Nat}(hB:0<B)(h:∀d∈x,d<B)(i:Nat):x.getD i 0<B:=by grind[getElem_mem]
theorem rU{B:Nat}(hB:1<B){L y:List Nat}{i k cy xi P p:Nat}(hL:∀d∈L,d<B)(hj:i+k<L.length)(hcy:cy<B)(hxi:xi<B)(hyk:y.getD k 0<B)(hp:p=L.getD (i+k) 0+cy+xi*y.getD k 0)(eq:bv B L+cy*B^(i+k)=P+xi*bv B (y.take k)*B^i):
  (∀d∈L.set (i+k) (p%B),d<B)/\p/B<B/\bv B (L.set (i+k) (p%B))+p/B*B^(i+(k+1))=P+xi*bv B (y.take (k+1))*B^i:=by
 have hLj:=G4 (by omega) hL (i+k);refine⟨λd hd=>?_,?_,?_⟩
 ·rcases List.mem_or_eq_of_mem_set hd with h|h
  ·exact hL d h
  ·rw[h];exact mod_lt _ (by omega)
 ·rw[Nat.div_lt_iff_lt_mul (by omega),hp];have h1:xi*y.getD k 0<=(B-1)*(B-1):=mul_le_mul (by omega) (by omega);obtain⟨C,rfl⟩:∃C,B=C+1:=⟨B-1,by omega⟩
  rw[Nat.add_sub_cancel]at h1;have h2:(C+1)*(C+1)=C*C+C+C+1:=by rw[mul_succ,succ_mul];omega
  omega
 grind[xJ,mod_add_div,o8]
theorem Bc{B:Nat}(hB:1<B){L x y:List Nat}{i cy:Nat}(hx:∀d∈x,d<B)(hy:∀d∈y,d<B)(hi:i<x.length)(hL:∀d∈L,d<B)(eq:bv B L+cy*B^(i+(y.length+1))=bv B (x.take i)*bv B y+x.getD i 0*bv B (y.take (y.length+1))*B^i):
  bv B L=bv B (x.take (i+1))*bv B y:=by
 have h1:bv B (x.take (i+1))*bv B y=bv B (x.take i)*bv B y+x.getD i 0*bv B y*B^i:=by
  rw[o8,add_mul];congr 1;rw[mul_assoc,mul_comm]
 rw[take_of_length_le (by omega:y.length<=y.length+1),<-h1]at eq;have h2:bv B (x.take (i+1))<B^(i+1):=by
  have:=dR (b:=B) (x:=x.take (i+1)) (λd hd=>hx d (mem_of_mem_take hd));rwa[length_take,min_eq_left (by omega)]at this
 have h3:=dR hy;have h4:bv B (x.take (i+1))*bv B y<B^(i+(y.length+1)):=by
  rw[show i+(y.length+1)=(i+1)+y.length by omega,Nat.pow_add];exact Nat.mul_lt_mul'' h2 h3
 rcases eq_zero_or_pos cy with h|h
 ·grind
 ·have h5:1*B^(i+(y.length+1))<=cy*B^(i+(y.length+1)):=mul_le_mul_right _ h;omega
theorem o7(B n:Nat):bv B (List.replicate n 0)=0:=by
 induction n with
 |zero=>rfl
 |succ n ih=>grind[bv]
def dp(c:UInt8):List UInt8->Nat
 |[]=>0
 |x::l=>if x=c then 0 else dp c l+1
theorem rT(c:UInt8):∀(l:List UInt8)(i:Nat),i<=l.length->(∀j,j<i->l.getD j 0≠c)->(i<l.length->l.getD i 0=c)->dp c l=i
 |[],i,h,_,_=>by simp at h;subst h;rfl
 |x::l,0,h,_,h2=>by simp_all[dp]
 |x::l,i+1,h,h1,h2=>by
  have h0:=h1 0 (by omega);unfold dp;rw[if_neg (by grind)];rw[rT c l i (by grind) (λj hj=>by grind) (λhi=>by grind)]
def isNeg(a:List UInt8):Bool:=a.head? == some 45
def bc(a:List UInt8):List UInt8:=if isNeg a then a.drop 1 else a
def numOf(a:List UInt8):List UInt8:=(bc a).take (dp 47 (bc a))
def bu(a:List UInt8):Bool:=decide (dp 47 (bc a)<(bc a).length)
def aZ(a:List UInt8):List UInt8:=if bu a then(bc a).drop (dp 47 (bc a)+1)else[49]
def bN(a:List UInt8):Bool:=valid (numOf a)&&valid (aZ a)&&decide ((numOf a).length<=400)&&decide ((aZ a).length<=400) && !(isNeg a&&numOf a==[48]) && !(bu a&&(aZ a==[48]||aZ a==[49]))&&decide (Nat.gcd (val (numOf a)) (val (aZ a))=1)
structure I1(a:List UInt8):Prop where
 num:valid (numOf a)=true
 den:valid (aZ a)=true
 ln:(numOf a).length<=400
 ld:(aZ a).length<=400
 neg:¬(isNeg a=true/\numOf a=[48])
 fr:¬(bu a=true/\(aZ a=[48]\/aZ a=[49]))
 one:Nat.gcd (val (numOf a)) (val (aZ a))=1
theorem eI{a:List UInt8}:bN a=true↔I1 a:=by
 unfold bN;simp only[and_eq_true,Bool.not_eq_true',Bool.and_eq_false_iff,Bool.or_eq_false_iff,decide_eq_true_eq,beq_eq_false_iff_ne];constructor
 ·rintro⟨⟨⟨⟨⟨⟨h1,h2⟩,h3⟩,h4⟩,h5⟩,h6⟩,h7⟩;refine⟨h1,h2,h3,h4,λ⟨e1,e2⟩=>?_,λ⟨e1,e2⟩=>?_,h7⟩
  all_goals grind
 ·rintro⟨h1,h2,h3,h4,h5,h6,h7⟩
  grind
theorem sN{a:List UInt8}(h:valid a=true):a=[48]↔val a=0:=by grind[cP,cI]
theorem vE{a:List UInt8}(h:valid a=true):a=[49]↔val a=1:=by grind[cP,jr]
theorem Mb:val [49]=1:=by decide
theorem x6{a:List UInt8}{k:Nat}(h:valid a=true)(hk:0<k)(hl:a.length<=k):val a<10^k:=by grind[cP,dy]
theorem vA{a:List UInt8}:I1 a↔(valid (numOf a)=true/\(numOf a).length<=400)/\(valid (aZ a)=true/\(aZ a).length<=400)/\aZ a≠[48]/\¬(numOf a=[48]/\(isNeg a=true\/bu a=true))/\¬(aZ a=[49]/\bu a=true)/\(Nat.gcd (val (numOf a)) (val (aZ a))=1\/aZ a=[49]):=by
 constructor
 ·rintro⟨h1,h2,h3,h4,h5,h6,h7⟩
  grind[sN,vE,aZ]
 ·rintro⟨⟨h1,h3⟩,⟨h2,h4⟩,h5,h6,h7,h8⟩;refine⟨h1,h2,h3,h4,λ⟨e1,e2⟩=>h6 ⟨e2,.inl e1⟩,λ⟨e1,e2⟩=>?_,?_⟩
  all_goals grind[Mb,Nat.gcd_one_right]
def iq(s:Bool)(A:Nat)(t:Bool)(B:Nat):Bool×Nat:=if s=t then(s,A+B)else if A<B then(t,B-A)else(s,A-B)
def ef(a b:List UInt8):Int:=
 if bN a=true/\bN b=true then
  if(iq (isNeg a) (val (numOf a)*val (aZ b)) (!isNeg b) (val (numOf b)*val (aZ a))).2=0 then 0
  else if(iq (isNeg a) (val (numOf a)*val (aZ b)) (!isNeg b) (val (numOf b)*val (aZ a))).1=true then -1 else 1
 else 0
theorem JS{A B k m:Nat}(e:k+k=m)(hA:A<10^k)(hB:B<10^k):A*B<10^m:=by
 subst e;rw[Nat.pow_add];exact Nat.mul_lt_mul'' hA hB
theorem Aq{A B:Nat}(hA:A<10^400)(hB:B<10^400):A*B<10^800:=JS (k:=400) (m:=800) rfl hA hB
theorem sJ{k m:Nat}(h:k<=m):10^k<=10^m:=pow_le_pow_right (by decide) h
theorem JR:(10:Nat)^800+10^800<=10^1000:=by omega
theorem Ep:bN [105,110,102]=false:=by rfl
theorem rf:bN [45,105,110,102]=false:=by rfl
theorem CC:bN [48]=true:=by decide
theorem Ao{a:List UInt8}(h:bN a=true):ef a [48]=0↔a=[48]:=by
 constructor
 ·intro e;unfold ef at e;rw[if_pos ⟨h,CC⟩]at e;have r:=eI.1 h;have e1:val (aZ [48])=1:=by decide
  have e2:val (numOf [48])=0:=by decide
  rw[e1,e2,mul_one,zero_mul,show isNeg [48]=false from rfl,Bool.not_false]at e;have hz:val (numOf a)=0:=by
   unfold iq at e;by_cases hn:isNeg a=true
   ·rw[if_pos hn]at e;dsimp only at e;rw[add_zero]at e;by_cases h0:val (numOf a)=0
    ·exact h0
    ·rw[if_neg h0,if_pos hn]at e;exact absurd e (by decide)
   ·rw[if_neg hn,if_neg (Nat.not_lt_zero _)]at e;dsimp only at e;rw[Nat.sub_zero]at e;by_cases h0:val (numOf a)=0
    ·exact h0
    ·rw[if_neg h0,if_neg hn]at e;exact absurd e (by decide)
  have hn:=(sN r.num).2 hz;have hneg:isNeg a=false:=by
   cases g:isNeg a with
   |false=>rfl
   |true=>exact absurd ⟨g,hn⟩ r.neg
  have hd:aZ a=[49]:=by
   refine(vE r.den).2 ?_;have:=r.one;rw[hz,Nat.gcd_zero_left]at this;exact this
  have hs:bu a=false:=by
   cases g:bu a with
   |false=>rfl
   |true=>exact absurd ⟨g,.inr hd⟩ r.fr
  grind[take_of_length_le,bc,numOf,bu]
 ·rintro rfl;decide
def cQ(kind:Int)(a:List UInt8):Bool:=decide (1<=kind/\kind<=3)&&bN a&&(kind==1||decide (0<ef a [48]))
def iW(L:List Bool):Nat:=(L.filter λb=> !b).length
theorem rS:∀{L:List Bool}{s:Nat},s<L.length->L.getD s false=false->iW (L.set s true)+1=iW L
 |[],s,h,_=>by simp at h
 |b::L,0,h,h0=>by
  have:b=false:=by simpa using h0
  subst this;simp[iW]
 |b::L,s+1,h,h0=>by
  have ih:=rS (L:=L) (s:=s) (by simpa using h) (by simpa using h0);unfold iW at ih⊢
  cases b<;>simp at ih⊢<;>omega
theorem Eo{L:List Bool}{s x:Nat}(hs:s<L.length):(L.set s true).getD x false=if x=s then true else L.getD x false:=by
 rw[gD,getElem?_set,gD];split
 ·next e=>subst e;simp
 ·next e=>rw[if_neg (λc=>e c.symm)]
section
def fE:List Nat->List Nat->Prop
 |x::u,y::v=>x<y\/(x=y/\fE u v)
 |_,_=>False
def dG(u v:List Nat):Prop:=u.length<v.length\/(u.length=v.length/\fE u v)
def pb:List Nat->List Nat->Int
 |x::u,y::v=>if x<y then -1 else if y<x then 1 else pb u v
 |_,_=>0
def pc(u v:List Nat):Int:=if u.length=v.length then pb u v else if u.length<v.length then -1 else 1
theorem A6:∀{u v:List Nat},u.length=v.length->(pb u v<0↔fE u v)
 |[],[],_=>by simp[pb,fE]
 |[],_::_,h=>by simp at h
 |_::_,[],h=>by simp at h
 | x::u,y::v,h=>by
  have ih:=A6 (u:=u) (v:=v) (by simpa using h);unfold pb fE;split
  ·simp;omega
  ·split
   ·constructor
    ·intro c;omega
    ·rintro(c|c)<;>omega
   ·rw[ih];constructor
    ·intro c;exact .inr ⟨by omega,c⟩
    ·rintro(c|c)
     ·omega
     ·exact c.2
theorem qq{u v:List Nat}:pc u v<0↔dG u v:=by
 unfold pc dG;split
 ·next h=>
  rw[A6 h];exact⟨λc=> .inr ⟨h,c⟩,λc=>c.elim (λd=>by omega) (·.2)⟩
 ·next h=>
  split
  ·next h1=>exact⟨λ_=> .inl h1,λ_=>by decide⟩
  ·next h1=>exact⟨λc=>by omega,λc=>c.elim (λd=>absurd d h1) (λd=>absurd d.1 h)⟩
theorem xV:∀{u v:List Nat},u.length=v.length->¬fE u v->¬fE v u->u=v
 |[],[],_,_,_=>rfl
 |[],_::_,h,_,_=>by simp at h
 |_::_,[],h,_,_=>by simp at h
 |x::u,y::v,h,h1,h2=>by
  unfold fE at h1 h2;have e:x=y:=by omega
  subst e;rw[xV (u:=u) (v:=v) (by simpa using h) (λc=>h1 (.inr ⟨rfl,c⟩)) (λc=>h2 (.inr ⟨rfl,c⟩))]
theorem Bb{u v:List Nat}(h1:¬dG u v)(h2:¬dG v u):u=v:=by
 have e:u.length=v.length:=by
  unfold dG at h1 h2;omega
 exact xV e (λc=>h1 (.inr ⟨e,c⟩)) (λc=>h2 (.inr ⟨e.symm,c⟩))
theorem sI:∀{u v w:List Nat},fE u v->fE v w->fE u w
 |x::u,y::v,z::w,h1,h2=>by
  unfold fE at h1 h2⊢;rcases h1 with a|a<;>rcases h2 with b|b
  ·left;omega
  ·left;omega
  ·left;omega
  ·exact .inr ⟨a.1.trans b.1,sI a.2 b.2⟩
 |[],_,_,h1,_=>by cases h1
 |_::_,[],_,h1,_=>by cases h1
 |_::_,_::_,[],_,h2=>by cases h2
theorem xT:∀{u:List Nat},¬fE u u
 |[]=>λh=>h
 |x::u=>λh=>by
  unfold fE at h;rcases h with a|a
  ·omega
  ·exact xT a.2
theorem vB{u v w:List Nat}(h1:dG u v)(h2:dG v w):dG u w:=by
 unfold dG at*;rcases h1 with a|a<;>rcases h2 with b|b
 ·left;omega
 ·left;omega
 ·left;omega
 ·exact .inr ⟨a.1.trans b.1,sI a.2 b.2⟩
theorem Ba{u:List Nat}:¬dG u u:=λh=>h.elim (λa=>by omega) (λa=>xT a.2)
theorem G6{x:Nat}{u v:List Nat}(h:dG (x::u) (x::v)):dG u v:=by
 unfold dG at*;rcases h with a|⟨a,b⟩
 ·left;simpa using a
 ·right;refine⟨by simpa using a,?_⟩;unfold fE at b;rcases b with b|b
  ·omega
  ·exact b.2
theorem vz{u v w:List Nat}(h1:¬dG u v)(h2:¬dG v w):¬dG u w:=λc=>by
 by_cases h:dG v u
 ·exact h2 (vB h c)
 ·rw[Bb h1 h]at c;exact h2 c
def m9(B:Nat):List Nat->Nat
 |[]=>0
 |x::u=>x*B^u.length+m9 B u
theorem sK{B:Nat}:∀{u:List Nat},(∀x∈u,1<=x/\x<B)->m9 B u<B^u.length
 |[],_=>by simp[m9]
 |x::u,h=>by
  have h1:=sK (u:=u) λy hy=>h y (mem_cons_of_mem _ hy);have h2:=h x (mem_cons_self ..);unfold m9;rw[length_cons,pow_succ];have h3:(x+1)*B^u.length<=B*B^u.length:=mul_le_mul_right _ (by omega);rw[add_mul,one_mul]at h3;rw[mul_comm (B^u.length)];omega
theorem Be{B:Nat}:∀{u v:List Nat},u.length=v.length->(∀x∈u,1<=x/\x<B)->fE u v->m9 B u<m9 B v
 |x::u,y::v,h,hu,hl=>by
  have e:u.length=v.length:=by simpa using h
  have h0:=hu x (mem_cons_self ..);have h1:=sK (B:=B) (u:=u) λy hy=>hu y (mem_cons_of_mem _ hy);unfold fE at hl;unfold m9;rcases hl with a|⟨rfl,a⟩
  ·have h3:(x+1)*B^u.length<=y*B^u.length:=mul_le_mul_right _ (by omega);rw[add_mul,one_mul]at h3;rw[<-e];omega
  ·have:=Be e (λy hy=>hu y (mem_cons_of_mem _ hy)) a;rw[e];omega
 |[],_,_,_,hl=>by cases hl
 |_::_,[],h,_,_=>by simp at h
theorem Ma{B:Nat}:∀{v:List Nat}{k:Nat},(∀x∈v,1<=x/\x<B)->k<v.length->B^k<=m9 B v
 |[],_,_,h=>by simp at h
 |y::v,k,hv,h=>by
  have h0:=hv y (mem_cons_self ..);unfold m9;have h1:B^k<=B^v.length:=pow_le_pow_right (by omega) (by simp at h;omega);have h2:1*B^v.length<=y*B^v.length:=mul_le_mul_right _ (by omega);omega
theorem xX{B:Nat}{u v:List Nat}(hu:∀x∈u,1<=x/\x<B)(hv:∀x∈v,1<=x/\x<B)(h:dG u v):m9 B u<m9 B v:=by
 rcases h with a|⟨a,b⟩
 ·exact lt_of_lt_of_le (sK hu) (Ma hv a)
 ·exact Be a hu b
def gj(A:Nat->List (Nat×Nat))(F:Nat->Prop):Nat->List Nat->Prop
 |q,[]=>F q
 |q,x::w=>∃t,(x,t)∈A q/\gj A F t w
def cE(A:Nat->List (Nat×Nat))(F:Nat->Prop)(q:Nat)(w:List Nat):Prop:=gj A F q w/\∀v,gj A F q v->¬dG v w
section
variable {A:Nat->List (Nat×Nat)} {F:Nat->Prop}
theorem cE.eq{q:Nat}{w w':List Nat}(h:cE A F q w)(h':cE A F q w'):w=w':=Bb (h'.2 _ h.1) (h.2 _ h'.1)
theorem vy{L:Nat->List Nat}{ok:Nat->Prop}(h0:∀q,F q->ok q/\¬dG [] (L q))(h1:∀q x t,(x,t)∈A q->ok t->ok q/\¬dG (x::L t) (L q)):∀v q,gj A F q v->ok q/\¬dG v (L q)
 |[],q,h=>h0 q h
 |x::v,q,⟨t,ht,hv⟩=>by
  obtain⟨a,b⟩:=vy h0 h1 v t hv;obtain⟨c,d⟩:=h1 q x t ht a;exact⟨c,vz (λe=>b (G6 e)) d⟩
structure lJ(A:Nat->List (Nat×Nat))(F:Nat->Prop)(q:Nat)(d:Int):Prop where
 none:d<0->∀v,¬gj A F q v
 some:0<=d->∃w,gj A F q w/\(w.length:Int)=d
 least:∀v,gj A F q v->d<=v.length
theorem cE.len{q:Nat}{w:List Nat}(h:cE A F q w){d:Int}(hd:lJ A F q d):(w.length:Int)=d:=by
 have h1:=hd.least w h.1;have h0:0<=d:=by
  rcases Int.lt_or_le d 0 with c|c
  ·exact absurd h.1 (hd.none c w)
  ·exact c
 obtain⟨v,h2,h3⟩:=hd.some h0;have h4:=h.2 v h2;unfold dG at h4;omega
theorem CB{d:Nat->Int}(hd:∀q,lJ A F q (d q)){p t:Nat}{x:Nat}{w:List Nat}(hp:0<d p)(hx:(x,t)∈A p)(ht:d t=d p-1)(hm:∀y s,(y,s)∈A p->d s=d p-1->x<=y)(X3:∀y s s',(y,s)∈A p->(y,s')∈A p->s=s')(hw:cE A F t w):cE A F p (x::w):=by
 have hl:=hw.len (hd t);refine⟨⟨t,hx,hw.1⟩,λv hv c=>?_⟩;have h1:=(hd p).least v hv;unfold dG at c;rw[length_cons]at c;rcases c with c|⟨c,e⟩
 ·omega
 ·cases v with
  |nil=>simp at c
  | cons y v=>
   obtain⟨s,hs,hv⟩:=hv;rw[length_cons]at c h1;unfold fE at e;have h2:=(hd s).least v hv;have h3:d p<=d s+1:=by
    rcases Int.lt_or_le (d s) 0 with g|g
    ·exact absurd hv ((hd s).none g v)
    ·obtain⟨u,u1,u2⟩:=(hd s).some g;have:=(hd p).least (y::u) ⟨s,hs,u1⟩;rw[length_cons]at this;omega
   have h4:=hm y s hs (by omega);rcases e with e|⟨e,f⟩
   ·omega
   ·subst e;obtain rfl:=X3 y s t hs hx;exact hw.2 v hv (.inr ⟨by omega,f⟩)
theorem En{d:Nat->Int}(hd:∀q,lJ A F q (d q)){q:Nat}(h:d q=0):cE A F q []:=by
 obtain⟨w,h1,h2⟩:=(hd q).some (by omega);obtain rfl:w=[]:=eq_nil_of_length_eq_zero (by omega);refine⟨h1,λv _ c=>?_⟩;unfold dG at c;rcases c with c|⟨c,e⟩
 ·simp at c
 ·cases v<;>simp[fE]at e
theorem Ek{d:Nat->Int}(hd:∀q,lJ A F q (d q)){p:Nat}(h:0<d p):∃x t,(x,t)∈A p/\d t=d p-1:=by
 obtain⟨w,h1,h2⟩:=(hd p).some (by omega)
 cases w with
 |nil=>simp at h2;omega
 |cons x w=>
  obtain⟨t,ht,hw⟩:=h1;rw[length_cons]at h2;refine⟨x,t,ht,?_⟩;have h3:=(hd t).least w hw;rcases Int.lt_or_le (d t) 0 with g|g
  ·exact absurd hw ((hd t).none g w)
  ·obtain⟨u,u1,u2⟩:=(hd t).some g;have:=(hd p).least (x::u) ⟨t,ht,u1⟩;rw[length_cons]at this;omega
structure iU(A:Nat->List (Nat×Nat))(F:Nat->Prop)(n:Nat)(D:List Int)(T:List Nat)(i:Nat)(Pd:Nat->Prop):Prop where
 len:D.length=n
 mem:∀q,q<n->(0<=D.getD q (-1)↔q∈T)
 low:∀q,q<n-> -1<=D.getD q (-1)
 tn:∀q∈T,q<n
 acc:∀q∈T,∃w,gj A F q w/\(w.length:Int)=D.getD q (-1)
 mono:∀a b x y:Nat,a<=b->T[a]?=some x->T[b]?=some y->D.getD x (-1)<=D.getD y (-1)
 NQ:∀x:Nat,T[i]?=some x->∀y∈T,D.getD y (-1)<=D.getD x (-1)+1
 fin:∀q,F q->q∈T/\D.getD q (-1)=0
 done:∀a t:Nat,a<i->T[a]?=some t->∀q x,(x,t)∈A q->q∈T/\D.getD q (-1)<=D.getD t (-1)+1
 part:∀t:Nat,T[i]?=some t->∀q,Pd q->q∈T/\D.getD q (-1)<=D.getD t (-1)+1
theorem iU.SU{n:Nat}{D:List Int}{T:List Nat}{i:Nat}{Pd:Nat->Prop}(b:iU A F n D T i Pd)(hA:∀q x t,(x,t)∈A q->q<n/\t<n)(hi:T.length<=i):∀q,lJ A F q (D.getD q (-1)):=by
 have key:∀v q,gj A F q v->q∈T/\D.getD q (-1)<=v.length:=by
  intro v
  induction v with
  |nil=>intro q h;obtain⟨h1,h2⟩:=b.fin q h;exact⟨h1,by rw[h2];simp⟩
  |cons x v ih=>
   rintro q ⟨t,ht,hv⟩;obtain⟨h1,h2⟩:=ih t hv;obtain⟨a,ha,he⟩:=List.mem_iff_getElem.1 h1;obtain⟨h3,h4⟩:=b.done a t (by omega) (by rw[gE ha,he]) q x ht;refine⟨h3,?_⟩;rw[length_cons];omega
 intro q;refine⟨λh v hv=>?_,λh=>?_,λv hv=>(key v q hv).2⟩
 ·have h1:=(key v q hv).1;have:=(b.mem q (b.tn q h1)).2 h1;omega
 ·rcases lt_or_ge q n with c|c
  ·exact b.acc q ((b.mem q c).1 h)
  ·rw[gD,getElem?_eq_none (by have:=b.len;omega)]at h;simp at h
theorem nq(D:List Int)(p q:Nat)(z:Int)(h:p<D.length):(D.set p z).getD q (-1)=if q=p then z else D.getD q (-1):=by
 rw[gD,getElem?_set];by_cases e:p=q
 ·subst e;rw[if_pos rfl,if_pos h,if_pos rfl];rfl
 ·rw[if_neg e,if_neg (λc=>e c.symm),gD]
theorem iU.ZJ{n:Nat}{D:List Int}{T:List Nat}{i t p:Nat}{Pd:Nat->Prop}(b:iU A F n D T i Pd)(ht:T[i]?=some t)(hp:p<n){x:Nat}(hx:(x,t)∈A p)(h:D.getD p (-1)<0):
  iU A F n (D.set p (D.getD t (-1)+1)) (T++[p]) i (λq=>Pd q\/q=p):=by
 have hpT:p∉T:=λc=>by have:=(b.mem p hp).2 c;omega
 have hl:p<D.length:=by rw[b.len];exact hp
 have hg:=λq=>nq D p q (D.getD t (-1)+1) hl;have hti:=(List.getElem?_eq_some_iff.1 ht).1;have htT:=List.mem_of_getElem? ht;have ht0:=(b.mem t (b.tn t htT)).2 htT;have hne:∀q∈T,q≠p:=λq hq e=>hpT (e▸hq);have hgT:∀q∈T,(D.set p (D.getD t (-1)+1)).getD q (-1)=D.getD q (-1):=λq hq=>by rw[hg,if_neg (hne q hq)]
 have hgp:(D.set p (D.getD t (-1)+1)).getD p (-1)=D.getD t (-1)+1:=by rw[hg,if_pos rfl]
 have hi':(T++[p])[i]?=some t:=by rw[List.getElem?_append_left hti];exact ht
 have hidx:∀{a y:Nat},(T++[p])[a]?=some y->(T[a]?=some y/\a<T.length)\/(y=p/\a=T.length):=λ{a y} h=>by
  rw[List.getElem?_append]at h;split at h
  ·next c=>exact .inl ⟨h,c⟩
  ·next c=>
   right
   cases e:a-T.length with
   |zero=>rw[e]at h;simp at h;exact⟨h.symm,by omega⟩
   |succ m=>rw[e]at h;simp at h
 refine⟨by rw[length_set];exact b.len,λq hq=>?_,λq hq=>?_,λq hq=>?_,λq hq=>?_,λa c x y hac h1 h2=>?_,λx' h1 y hy=>?_,λq hq=>?_,λa t' ha h1 q x' hq=>?_,λt' h1 q hq=>?_⟩
 ·rw[hg,mem_append,mem_singleton];split
  ·next e=>exact⟨λ_=> .inr e,λ_=>by omega⟩
  ·next e=>rw[b.mem q hq];exact⟨.inl,λc=>c.elim id λc=>absurd c e⟩
 ·rw[hg];split
  ·omega
  ·exact b.low q hq
 ·rcases mem_append.1 hq with c|c
  ·exact b.tn q c
  ·rw[mem_singleton]at c;subst c;exact hp
 ·rcases mem_append.1 hq with c|c
  ·rw[hgT q c];exact b.acc q c
  ·rw[mem_singleton]at c;subst c;obtain⟨w,h1,h2⟩:=b.acc t htT;exact⟨x::w,⟨t,hx,h1⟩,by rw[hgp,length_cons];omega⟩
 ·rcases hidx h1 with⟨g1,g2⟩|⟨g1,g2⟩<;>rcases hidx h2 with⟨g3,g4⟩|⟨g3,g4⟩
  ·rw[hgT _ (List.mem_of_getElem? g1),hgT _ (List.mem_of_getElem? g3)];exact b.mono a c x y hac g1 g3
  ·subst g3;rw[hgT _ (List.mem_of_getElem? g1),hgp];exact b.NQ t ht x (List.mem_of_getElem? g1)
  ·omega
  ·subst g1;subst g3;exact Int.le_refl _
 ·rw[hi']at h1;obtain rfl:=oI h1;rw[hgT _ htT];rcases mem_append.1 hy with c|c
  ·rw[hgT _ c];exact b.NQ t ht y c
  ·rw[mem_singleton]at c;subst c;rw[hgp];exact Int.le_refl _
 ·obtain⟨h1,h2⟩:=b.fin q hq;exact⟨List.mem_append_left _ h1,by rw[hgT _ h1];exact h2⟩
 ·have h2:T[a]?=some t':=by
   rcases hidx h1 with c|c
   ·exact c.1
   ·omega
  obtain⟨h3,h4⟩:=b.done a t' ha h2 q x' hq;exact⟨List.mem_append_left _ h3,by rw[hgT _ h3,hgT _ (List.mem_of_getElem? h2)];exact h4⟩
 ·rw[hi']at h1;obtain rfl:=oI h1;rw[hgT _ htT];rcases hq with c|c
  ·obtain⟨h3,h4⟩:=b.part t ht q c;exact⟨List.mem_append_left _ h3,by rw[hgT _ h3];exact h4⟩
  ·subst c;exact⟨List.mem_append_right _ (List.mem_singleton_self _),by rw[hgp];exact Int.le_refl _⟩
theorem iU.old{n:Nat}{D:List Int}{T:List Nat}{i t p:Nat}{Pd:Nat->Prop}(b:iU A F n D T i Pd)(ht:T[i]?=some t)(hp:p<n)(h:¬D.getD p (-1)<0):iU A F n D T i (λq=>Pd q\/q=p):=
 { b with
  part:=λt' h1 q hq=>by
   rcases hq with c|c
   ·exact b.part t' h1 q c
   ·subst c;have:=(b.mem q hp).1 (by omega);exact⟨this,b.NQ t' h1 q this⟩ }
theorem iU.next{n:Nat}{D:List Int}{T:List Nat}{i t:Nat}{Pd:Nat->Prop}(b:iU A F n D T i Pd)(ht:T[i]?=some t)(h:∀q x,(x,t)∈A q->Pd q):iU A F n D T (i+1) (λ_=>False):=
 { b with
  NQ:=λx h1 y hy=>by
   have h2:=b.NQ t ht y hy;have h3:=b.mono i (i+1) t x (by omega) ht h1;omega
  done:=λa t' ha h1 q x hq=>by
   rcases lt_or_ge a i with c|c
   ·exact b.done a t' c h1 q x hq
   ·obtain rfl:a=i:=by omega
    rw[ht]at h1;obtain rfl:=oI h1;exact b.part t ht q (h q x hq)
  part:=λ_ _ _ c=>c.elim }
end
end
section
def rP(A:Nat->List (Nat×Nat))(F:Nat->Prop)(L:List (List Nat))(O:List Bool)(q:Nat)(w:List Nat):Prop:=(w=[]/\F q)\/ ∃x t,(x,t)∈A q/\O.getD t false=true/\w=x::L.getD t []
def xH(A:Nat->List (Nat×Nat))(F:Nat->Prop)(L:List (List Nat))(O:List Bool)(q:Nat):Prop:=∀w,rP A F L O q w->O.getD q false=true/\¬dG w (L.getD q [])
structure wo(A:Nat->List (Nat×Nat))(F:Nat->Prop)(n B:Nat)(L:List (List Nat))(O:List Bool):Prop where
 VM:L.length=n
 S1:O.length=n
 acc:∀q,O.getD q false=true->gj A F q (L.getD q [])
 uF:∀q,O.getD q false=true->(L.getD q []).length+iW O+1<=n
 sym:∀q,O.getD q false=true->∀x∈L.getD q [],1<=x/\x<B
def ph(n B:Nat)(L:List (List Nat))(O:List Bool):Nat:=((List.range n).map λq=>if O.getD q false=true then m9 B (L.getD q [])else B^(n+1)).sum
theorem pe(L:List (List Nat))(p q:Nat)(z:List Nat)(h:p<L.length):(L.set p z).getD q []=if q=p then z else L.getD q []:=by
 rw[gD,getElem?_set];by_cases e:p=q
 ·subst e;rw[if_pos rfl,if_pos h,if_pos rfl];rfl
 ·rw[if_neg e,if_neg (λc=>e c.symm),gD]
theorem JQ(O:List Bool):iW O<=O.length:=List.length_filter_le _ _
theorem G2{O:List Bool}{q:Nat}(h:q<O.length):iW (O.set q true)<=iW O/\(O.getD q false=false->iW (O.set q true)+1=iW O):=by
 refine⟨?_,rS h⟩
 cases e:O.getD q false with
 |false=>have:=rS h e;omega
 | true=>
  have:O.set q true=O:=by
   apply List.ext_getElem?;intro i;rw[getElem?_set];split
   ·next hi=>
    subst hi;rw[gE h];rw[gD,gE h]at e;simpa using e.symm
   ·rfl
  rw[this];exact Nat.le_refl _
theorem Et{f g:Nat->Nat}:∀{l:List Nat},(∀x∈l,f x<=g x)->(∃x∈l,f x<g x)->(l.map f).sum<(l.map g).sum
 |[],_,⟨_,h,_⟩=>by cases h
 | a::l,h,⟨x,hx,hlt⟩=>by
  have h1:=h a (mem_cons_self ..);have h2:(l.map f).sum<=(l.map g).sum:=by
   clear hx hlt;have h':∀x∈l,f x<=g x:=λy hy=>h y (mem_cons_of_mem _ hy);clear h
   induction l with
   |nil=>simp
   |cons b l ih=>
    have:=ih (λy hy=>h' y (mem_cons_of_mem _ hy));have:=h' b (mem_cons_self ..);simp;omega
  simp only[List.map_cons,List.sum_cons];rcases mem_cons.1 hx with rfl|hx
  ·omega
  ·have:=Et (λy hy=>h y (mem_cons_of_mem _ hy)) ⟨x,hx,hlt⟩;omega
section
variable {A:Nat->List (Nat×Nat)} {F:Nat->Prop} {n B:Nat} {L:List (List Nat)} {O:List Bool}
theorem rP.ok(l:wo A F n B L O)(hA:∀q x t,(x,t)∈A q->1<=x/\x<B){q:Nat}{w:List Nat}(c:rP A F L O q w):gj A F q w/\w.length+iW O<=n/\∀x∈w,1<=x/\x<B:=by
 rcases c with⟨rfl,h⟩|⟨x,t,h1,h2,rfl⟩
 ·refine⟨h,?_,λx hx=>by cases hx⟩;have:=JQ O;rw[l.S1]at this;simpa using this
 ·refine⟨⟨t,h1,l.acc t h2⟩,?_,λy hy=>?_⟩
  ·have:=l.uF t h2;rw[length_cons];omega
  ·rcases mem_cons.1 hy with rfl|hy
   ·exact hA q y t h1
   ·exact l.sym t h2 y hy
theorem wo.IM(l:wo A F n B L O)(hA:∀q x t,(x,t)∈A q->1<=x/\x<B)(hB:1<B){q:Nat}(hq:q<n){w:List Nat}(c:rP A F L O q w)(hb:O.getD q false=true->dG w (L.getD q [])):
  wo A F n B (L.set q w) (O.set q true)/\ph n B (L.set q w) (O.set q true)<ph n B L O:=by
 obtain⟨c1,c2,c3⟩:=c.ok l hA;have hL:q<L.length:=by rw[l.VM];exact hq
 have hO:q<O.length:=by rw[l.S1];exact hq
 have gL:=λp=>pe L q p w hL;have gO:∀p,(O.set q true).getD p false=if p=q then true else O.getD p false:=λp=>Eo hO;have cnt:iW (O.set q true)<=iW O/\(O.getD q false=false->iW (O.set q true)+1=iW O):=G2 hO;refine⟨⟨by rw[length_set];exact l.VM,by rw[length_set];exact l.S1,λp hp=>?_,λp hp=>?_,λp hp=>?_⟩,?_⟩
 ·rw[gL];split
  ·next e=>subst e;exact c1
  ·next e=>rw[gO,if_neg e]at hp;exact l.acc p hp
 ·rw[gL];split
  ·cases e:O.getD q false with
   |true=>
    have h1:=hb e;have h2:=l.uF q e;unfold dG at h1;have:=cnt.1;omega
   |false=>have:=cnt.2 e;omega
  ·next e=>
   rw[gO,if_neg e]at hp;have:=l.uF p hp;have:=cnt.1;omega
 ·rw[gL];split
  ·exact c3
  ·next e=>rw[gO,if_neg e]at hp;exact l.sym p hp
 ·have rk:m9 B w<B^(n+1):=by
   have h1:=sK (B:=B) c3;have h2:B^w.length<=B^(n+1):=pow_le_pow_right (by omega) (by omega);omega
  refine Et (λp _=>?_) ⟨q,List.mem_range.2 hq,?_⟩
  ·rw[gL,gO];by_cases e:p=q
   ·subst e;rw[if_pos rfl,if_pos rfl,if_pos rfl];split
    ·next h=>exact le_of_lt (xX c3 (l.sym p h) (hb h))
    ·exact le_of_lt rk
   ·rw[if_neg e,if_neg e];exact Nat.le_refl _
  ·rw[gL,gO,if_pos rfl,if_pos rfl,if_pos rfl];split
   ·next h=>exact xX c3 (l.sym q h) (hb h)
   ·exact rk
theorem wo.start:wo A F n B (List.replicate n []) (List.replicate n false):=by
 have h:∀q,(List.replicate n false).getD q false≠true:=λq=>by
  rw[gD,List.getElem?_replicate];split<;>simp
 exact⟨length_replicate,length_replicate,λq e=>absurd e (h q),λq e=>absurd e (h q),λq e=>absurd e (h q)⟩
theorem wo.first(l:wo A F n B L O)(hF:∀q,F q->q<n)(hA:∀q x t,(x,t)∈A q->q<n)(h:∀q,q<n->xH A F L O q)(q:Nat):(O.getD q false=true/\cE A F q (L.getD q []))\/(O.getD q false=false/\∀v,¬gj A F q v):=by
 have key:=vy (A:=A) (F:=F) (L:=λq=>L.getD q []) (ok:=λq=>O.getD q false=true) (λq hq=>h q (hF q hq) [] (.inl ⟨rfl,hq⟩)) (λq x t hx ht=>h q (hA q x t hx) _ (.inr ⟨x,t,hx,ht,rfl⟩))
 cases e:O.getD q false with
 |true=>exact .inl ⟨rfl,l.acc q e,λv hv=>(key v q hv).2⟩
 |false=>exact .inr ⟨rfl,λv hv=>by have:=(key v q hv).1;rw[e]at this;cases this⟩
theorem cE.SU{q:Nat}{w:List Nat}(h:cE A F q w):lJ A F q (w.length:Int):=
 ⟨λc=>by omega,λ_=>⟨w,h.1,rfl⟩,λv hv=>by
  have:=h.2 v hv;unfold dG at this;omega⟩
end
end
end Go.Num
end
section
namespace Go.Proofs.YtaheifbogkjpdaaGreatDoor
open Go Go.Ab Go.RowKit
theorem Qc:(((Tryz.prog.funcs.toList.drop 0).take 40).all λf=>ee f)=true:=by kernel_rfl
theorem Qd:(((Tryz.prog.funcs.toList.drop 40).take 40).all λf=>ee f)=true:=by kernel_rfl
theorem Qe:(((Tryz.prog.funcs.toList.drop 80).take 40).all λf=>ee f)=true:=by kernel_rfl
theorem Qf:(((Tryz.prog.funcs.toList.drop 120).take 40).all λf=>ee f)=true:=by kernel_rfl
theorem Qg:(((Tryz.prog.funcs.toList.drop 160).take 40).all λf=>ee f)=true:=by kernel_rfl
theorem Qh:(((Tryz.prog.funcs.toList.drop 200).take 40).all λf=>ee f)=true:=by kernel_rfl
theorem Qi:(((Tryz.prog.funcs.toList.drop 240).take 40).all λf=>ee f)=true:=by kernel_rfl
theorem Ku:Tryz.prog.funcs.toList.length=244:=by kernel_rfl
theorem MS(i:Nat)(fn:Func)(h:Tryz.prog.funcs.toList[i]?=some fn):ee fn=true:=by
 have key:∀a,((Tryz.prog.funcs.toList.drop a).take 40).all (λf=>ee f)=true->a<=i->i<a+40->ee fn=true:=λa ha h1 h2=>by
  refine all_eq_true.1 ha fn (List.mem_of_getElem? (i:=i-a) ?_);rw[getElem?_take,if_pos (by omega),List.getElem?_drop,show a+(i-a)=i by omega];exact h
 have hlt:i<244:=by
  have:=(List.getElem?_eq_some_iff.1 h).1;rw[Ku]at this;exact this
 by_cases h0:i<40
 ·exact key 0 Qc (by omega) (by omega)
 by_cases h1:i<80
 ·exact key 40 Qd (by omega) (by omega)
 by_cases h2:i<120
 ·exact key 80 Qe (by omega) (by omega)
 by_cases h3:i<160
 ·exact key 120 Qf (by omega) (by omega)
 by_cases h4:i<200
 ·exact key 160 Qg (by omega) (by omega)
 by_cases h5:i<240
 ·exact key 200 Qh (by omega) (by omega)
 exact key 240 Qi (by omega) (by omega)
theorem KQ:(Tryz.prog.funcs.toList.all λf=> !(f.name == "runtime.NumGoroutine"))=true:=by kernel_rfl
theorem ax:rX Tryz.prog:={
 names:=λ_ fn h=>by
  have hm:fn∈Tryz.prog.funcs.toList:=by
   rw[<-Array.getElem?_toList]at h;exact List.mem_of_getElem? h
  have:=all_eq_true.1 KQ fn hm;simpa using this
 MQ:=λf fn h=>MS f fn (by rw[Array.getElem?_toList];exact h) }
theorem AR:jt Tryz.prog mc 215 jY:=vP (fn:=(Tryz.prog.funcs[215]?).getD default) (by kernel_rfl) (by kernel_rfl) (by kernel_rfl) (by kernel_rfl) (by kernel_rfl)
theorem yZ:jt Tryz.prog mc 217 ig:=tj (fn:=(Tryz.prog.funcs[217]?).getD default) (by kernel_rfl) (by kernel_rfl) (by kernel_rfl) (by kernel_rfl) (by kernel_rfl)
def Iw:Code->Code
 |.seq a _=>a
 |c=>c
def DZ:Code->Code
 |.seq _ b=>b
 |c=>c
noncomputable def Bu:Code:=(Tryz.f131.body).getD .skip
theorem th(args:Array Value)(w:World)(h:args.size=2):CallsDIn Fence.wide 0 Tryz.prog 160 args .returning w λe u' w'=>(∃v,e = .returned v)/\u' = .returning/\Below w.heap.size w w'/\w.drawn<=w'.drawn:=
 Qq (n:=2) Tryz.func160 rfl rfl (by kernel_rfl) args w h
theorem Eb:jt Tryz.prog mc 131 (sB Tryz.prog mc Tryz.f131 (Iw Bu) (DZ (DZ Bu)) 5):=
 ET ax.names Tryz.func131 rfl rfl rfl rfl rfl rfl rfl Tryz.func160 rfl th (by kernel_rfl) (by kernel_rfl)
noncomputable def S4:kI:=[(215,.Sd),(217,.Jk),(131,.defer Tryz.f131 (Iw Bu) (DZ (DZ Bu)) 5)]
theorem kV:lI Tryz.prog mc S4:=iZ AR (iZ yZ (iZ Eb (Bl)))
end Go.Proofs.YtaheifbogkjpdaaGreatDoor
end
section
namespace Go.Proofs.YtaheifbogkjpdaaGreatDoor
open Go Go.Ab Go.Num
def Nm:Nat->Bool:=λg=>Nat.beq g 0
noncomputable def S5:kI:=(6,.pF [([],.bool true)]) ::S4
noncomputable def SS:Sx:=⟨Tryz.prog,Nm,DB Tryz.prog Nm S5⟩
noncomputable def Kh:FD:=dJ Tryz.f180 []
theorem Hw(l m:LB)(h:aa)(Q:VH)(hx:FW SS 202 [(strOf l),(strOf m)] h λv1 h2=>yB v1 λb3=>aF (!b3) (Q (.tuple ⟨[(strOf l),(.bool false)]⟩) h2) (xS (bt SS.P 9 (strOf l) (some (.int .i64 ((m:LB).length:Int))) none none h2) λl4=>Q (.tuple ⟨[(strOf l4),(.bool true)]⟩) h2)):FW SS 180 [(strOf l),(strOf m)] h Q:=dM Kh Tryz.func180 (au hx)
noncomputable def ML:FD:=dJ Tryz.f158 []
theorem Ki(l m:LB)(h:aa)(Q:VH)(hx:FW SS 180 [(strOf l),(strOf m)] h λv1 h2=>∃l3:LB,∃b4:Bool,v1=(.tuple ⟨[(strOf l3),(.bool b4)]⟩)/\Q (.tuple ⟨[(strOf l3),(.bool b4)]⟩) h2):FW SS 158 [(strOf l),(strOf m)] h Q:=dM ML Tryz.func158 (au hx)
noncomputable def HO:FD:=dJ Tryz.f211 []
theorem Fu(l:LB)(c:Int)(h:aa)(Q:VH)(hx:FW SS 217 [(strOf l),(.int .u8 c)] h λv1 h2=>yI .i64 v1 λn3=>Q (.int .i64 n3) h2):FW SS 211 [(strOf l),(.int .u8 c)] h Q:=dM HO Tryz.func211 (au hx)
noncomputable def Np:FD:=dJ Tryz.f203 []
theorem Ky(l:LB)(h:aa)(Q:VH)(hx:aF (([47]:LB)==l) (Q (.int .i64 0) h) (xI .u8 (bp SS.P 9 (strOf [47]) (.int .i64 0)) λn1=>FW SS 211 [(strOf l),(.int .u8 n1)] h λv2 h3=>yI .i64 v2 λn4=>Q (.int .i64 n4) h3)):FW SS 203 [(strOf l),(strOf [47])] h Q:=dM Np Tryz.func203 (au hx)
noncomputable def SO:FD:=dJ Tryz.f181 []
theorem PX(l:LB)(h:aa)(Q:VH)(hx:FW SS 203 [(strOf l),(strOf [47])] h λv1 h2=>yI .i64 v1 λn3=>aF (decide ((n3:Int)>=0)) (xS (bt SS.P 9 (strOf l) none (some (.int .i64 n3)) none (room h2 12)) λl4=>xS (bt SS.P 9 (strOf l) (some (.int .i64 (wrap .i64 (n3+1)))) none none (room h2 12)) λl5=>Q (.tuple ⟨[(strOf l4),(strOf l5),(.bool true)]⟩) (room h2 12)) (Q (.tuple ⟨[(strOf l),(strOf []),(.bool false)]⟩) h2)):FW SS 181 [(strOf l),(strOf [47])] h Q:=dM SO Tryz.func181 (au hx)
noncomputable def Vi:FD:=dJ Tryz.f159 []
theorem SP(l:LB)(h:aa)(Q:VH)(hx:FW SS 181 [(strOf l),(strOf [47])] h λv1 h2=>∃l3:LB,∃l4:LB,∃b5:Bool,v1=(.tuple ⟨[(strOf l3),(strOf l4),(.bool b5)]⟩)/\Q (.tuple ⟨[(strOf l3),(strOf l4),(.bool b5)]⟩) h2):FW SS 159 [(strOf l),(strOf [47])] h Q:=dM Vi Tryz.func159 (au hx)
noncomputable def hP:FD:=dJ Tryz.f173 [([1,0,1,0,0],[0,1,5])]
abbrev gM(l:LB)(c:Int)(i:Nat):LV:=[(strOf l),(.int .u8 c),(iA i)]
theorem DH(l:LB)(c:Int)(h:aa)(Q:VH)(hx:LL SS hP [1,0,1,0,0] (gM l c 0) h (KK SS hP [1,0,1,0] [] (EE SS hP Q))):FW SS 173 [(strOf l),(.int .u8 c)] h Q:=dM hP Tryz.func173 (au hx)
theorem pT(l:LB)(c:Int)  (Inv:Nat->Nat->aa->Prop) (Q:VH) (step:∀(mz:Nat)(i:Nat)(zz:Nat->Value)(h:aa),Inv mz i h->aF (decide (((i:Int):Int)<((l:LB).length:Int))) (xI .u8 (bp SS.P 9 (strOf l) (iA i)) λn1=>aF (((n1:Int)==c)) (Q (iA i) h) (aH (iR (gM l c) Inv) mz [(strOf l),(.int .u8 c),(.int .i64 (wrap .i64 ((i:Int)+1)))] h)) (Q (.int .i64 (-1)) h)) (mz:Nat) {i:Nat} {h:aa} (hi:Inv mz i h):LL SS hP [1,0,1,0,0] (gM l c i) h (KK SS hP [1,0,1,0] [] (EE SS hP Q)):=
 dK (gM l c) Inv (λmz i zz h hi=>au (step mz i zz h hi)) mz hi
noncomputable def Gd:FD:=dJ Tryz.f174 []
theorem DM(l:LB)(h:aa)(Q:VH)(hx:aF (decide ((((l:LB).length:Int):Int)<=400)) (FW SS 194 [(strOf l)] h λv1 h2=>yB v1 λb3=>Q (.bool b3) h2) (Q (.bool false) h)):FW SS 174 [(strOf l)] h Q:=dM Gd Tryz.func174 (au hx)
noncomputable def an:FD:=dJ Tryz.f154 []
abbrev vT(l:LB)(cc:Code)(h:aa)(Q:VH):Prop:=aF (decide ((((l:LB).length:Int):Int)>0)) (xI .u8 (bp SS.P 9 (strOf l) (.int .i64 0)) λn1=>aF (((n1:Int)==45)) (xS (bt SS.P 9 (strOf l) (some (.int .i64 1)) none none h) λl2=>FW SS 173 [(strOf l2),(.int .u8 47)] h λv3 h4=>yI .i64 v3 λn5=>aF (decide ((n5:Int)>=0)) (xS (bt SS.P 9 (strOf l2) (some (.int .i64 (wrap .i64 (n5+1)))) none none h4) λl6=>xS (bt SS.P 9 (strOf l2) none (some (.int .i64 n5)) none h4) λl7=>wpS SS an.nm an.ms [1,1,1,1,1,1] cc (uN [(strOf l),undef,(.bool false),(strOf []),(strOf []),(.bool false),(strOf l7),(strOf l6),(.bool (((n1:Int)==45))),(.int .i64 n5),undef,undef,(strOf l),(strOf l),(.int .i64 ((l:LB).length:Int)),(.bool (decide ((((l:LB).length:Int):Int)>0))),(.bool true),(strOf l),(.int .u8 n1),(.bool (((n1:Int)==45))),(.bool (((n1:Int)==45))),(.bool (((n1:Int)==45))),(strOf l),(strOf l2),(strOf l2),(.int .i64 n5),(.int .i64 n5),(.bool (decide ((n5:Int)>=0))),(strOf l2),(.int .i64 n5),(.int .i64 (wrap .i64 (n5+1))),(strOf l6),(strOf l2),(.int .i64 n5),(strOf l7)] 46) h4 (EE SS an Q)) (wpS SS an.nm an.ms [1,1,1,1,1,1] cc (uN [(strOf l),undef,(.bool false),(strOf []),(strOf []),(.bool false),(strOf l2),(strOf [49]),(.bool (((n1:Int)==45))),(.int .i64 n5),undef,undef,(strOf l),(strOf l),(.int .i64 ((l:LB).length:Int)),(.bool (decide ((((l:LB).length:Int):Int)>0))),(.bool true),(strOf l),(.int .u8 n1),(.bool (((n1:Int)==45))),(.bool (((n1:Int)==45))),(.bool (((n1:Int)==45))),(strOf l),(strOf l2),(strOf l2),(.int .i64 n5),(.int .i64 n5),(.bool (decide ((n5:Int)>=0)))] 53) h4 (EE SS an Q))) (FW SS 173 [(strOf l),(.int .u8 47)] h λv8 h9=>yI .i64 v8 λn10=>aF (decide ((n10:Int)>=0)) (xS (bt SS.P 9 (strOf l) (some (.int .i64 (wrap .i64 (n10+1)))) none none h9) λl11=>xS (bt SS.P 9 (strOf l) none (some (.int .i64 n10)) none h9) λl12=>wpS SS an.nm an.ms [1,1,1,1,1,1] cc (uN [(strOf l),undef,(.bool false),(strOf []),(strOf []),(.bool false),(strOf l12),(strOf l11),(.bool (((n1:Int)==45))),(.int .i64 n10),undef,undef,(strOf l),(strOf l),(.int .i64 ((l:LB).length:Int)),(.bool (decide ((((l:LB).length:Int):Int)>0))),(.bool true),(strOf l),(.int .u8 n1),(.bool (((n1:Int)==45))),(.bool (((n1:Int)==45))),(.bool (((n1:Int)==45))),undef,undef,(strOf l),(.int .i64 n10),(.int .i64 n10),(.bool (decide ((n10:Int)>=0))),(strOf l),(.int .i64 n10),(.int .i64 (wrap .i64 (n10+1))),(strOf l11),(strOf l),(.int .i64 n10),(strOf l12)] 46) h9 (EE SS an Q)) (wpS SS an.nm an.ms [1,1,1,1,1,1] cc (uN [(strOf l),undef,(.bool false),(strOf []),(strOf []),(.bool false),(strOf l),(strOf [49]),(.bool (((n1:Int)==45))),(.int .i64 n10),undef,undef,(strOf l),(strOf l),(.int .i64 ((l:LB).length:Int)),(.bool (decide ((((l:LB).length:Int):Int)>0))),(.bool true),(strOf l),(.int .u8 n1),(.bool (((n1:Int)==45))),(.bool (((n1:Int)==45))),(.bool (((n1:Int)==45))),undef,undef,(strOf l),(.int .i64 n10),(.int .i64 n10),(.bool (decide ((n10:Int)>=0)))] 53) h9 (EE SS an Q)))) (FW SS 173 [(strOf l),(.int .u8 47)] h λv13 h14=>yI .i64 v13 λn15=>aF (decide ((n15:Int)>=0)) (xS (bt SS.P 9 (strOf l) (some (.int .i64 (wrap .i64 (n15+1)))) none none h14) λl16=>xS (bt SS.P 9 (strOf l) none (some (.int .i64 n15)) none h14) λl17=>wpS SS an.nm an.ms [1,1,1,1,1,1] cc (uN [(strOf l),undef,(.bool false),(strOf []),(strOf []),(.bool false),(strOf l17),(strOf l16),(.bool false),(.int .i64 n15),undef,undef,(strOf l),(strOf l),(.int .i64 ((l:LB).length:Int)),(.bool (decide ((((l:LB).length:Int):Int)>0))),(.bool false),undef,undef,undef,(.bool false),(.bool false),undef,undef,(strOf l),(.int .i64 n15),(.int .i64 n15),(.bool (decide ((n15:Int)>=0))),(strOf l),(.int .i64 n15),(.int .i64 (wrap .i64 (n15+1))),(strOf l16),(strOf l),(.int .i64 n15),(strOf l17)] 46) h14 (EE SS an Q)) (wpS SS an.nm an.ms [1,1,1,1,1,1] cc (uN [(strOf l),undef,(.bool false),(strOf []),(strOf []),(.bool false),(strOf l),(strOf [49]),(.bool false),(.int .i64 n15),undef,undef,(strOf l),(strOf l),(.int .i64 ((l:LB).length:Int)),(.bool (decide ((((l:LB).length:Int):Int)>0))),(.bool false),undef,undef,undef,(.bool false),(.bool false),undef,undef,(strOf l),(.int .i64 n15),(.int .i64 n15),(.bool (decide ((n15:Int)>=0)))] 53) h14 (EE SS an Q)))
theorem DK(l:LB)(h:aa)(Q:VH)(hx:vT l (iH [1,1,1,1,1,1] an.body) h Q):FW SS 154 [(strOf l)] h Q:=by
 have e:∀cc,vT l cc h Q=wpS SS an.nm an.ms [] (setAt [1,1,1,1,1,1] cc an.body) ([(strOf l)]++List.replicate (an.nm-([(strOf l)]:LV).length) undef) h (EE SS an Q):=λcc=>by kernel_rfl
 have e:=e (iH [1,1,1,1,1,1] an.body);rw[gh]at e;exact dM an Tryz.func154 (au hx e)
abbrev pU(n d:LB)(neg:Bool)(st:Int)(cc:Code)(x0 x1 x2 x3 x4 x5 x10 x11 x12 x13 x14 x15 x16 x17 x18 x19 x20 x21 x22 x23 x24 x25 x26 x27 x28 x29 x30 x31 x32 x33 x34 x35 x36 x37 x38 x39 x40 x41 x42 x43 x44 x45 x46 x47 x48 x49 x50 x51 x52 x53 x54 x55 x56 x57 x58 x59 x60 x61 x62 x63 x64 x65 x66 x67 x68 x69 x70 x71 x72 x73 x74 x75 x76 x77 x78 x79 x80:Value)(h:aa)(Q:VH):Prop:=FW SS 174 [(strOf n)] h λv1 h2=>yB v1 λb3=>aF (!b3) (Q (.tuple ⟨[(.bool false),(strOf []),(strOf []),(.bool false)]⟩) h2) (FW SS 174 [(strOf d)] h2 λv4 h5=>yB v4 λb6=>aF (!b6) (Q (.tuple ⟨[(.bool false),(strOf []),(strOf []),(.bool false)]⟩) h5) (aF ((d:LB)==[48]) (Q (.tuple ⟨[(.bool false),(strOf []),(strOf []),(.bool false)]⟩) h5) (aF ((n:LB)==[48]) (aF neg (Q (.tuple ⟨[(.bool false),(strOf []),(strOf []),(.bool false)]⟩) h5) (aF (decide ((st:Int)>=0)) (Q (.tuple ⟨[(.bool false),(strOf []),(strOf []),(.bool false)]⟩) h5) (aF ((d:LB)==[49]) (aF (decide ((st:Int)>=0)) (Q (.tuple ⟨[(.bool false),(strOf []),(strOf []),(.bool false)]⟩) h5) (wpS SS an.nm an.ms [1,1,1,1,1,1,1] cc [x0,x1,x2,x3,x4,x5,(strOf n),(strOf d),(.bool neg),(.int .i64 st),x10,x11,x12,x13,x14,x15,x16,x17,x18,x19,x20,x21,x22,x23,x24,x25,x26,x27,x28,x29,x30,x31,x32,x33,x34,(strOf n),(.bool b3),(.bool (!b3)),(.bool false),(strOf d),(.bool b6),(.bool (!b6)),(.bool (!b6)),(.bool false),(strOf d),(.bool ((d:LB)==[48])),(.bool ((d:LB)==[48])),(.bool false),(strOf n),(.bool ((n:LB)==[48])),(.bool true),(.bool neg),(.bool false),(.int .i64 st),(.bool (decide ((st:Int)>=0))),(.bool (decide ((st:Int)>=0))),(.bool (decide ((st:Int)>=0))),(.bool (decide ((st:Int)>=0))),(.bool false),(strOf d),(.bool ((d:LB)==[49])),(.bool true),(.int .i64 st),(.bool (decide ((st:Int)>=0))),(.bool (decide ((st:Int)>=0))),(.bool (decide ((st:Int)>=0))),x66,x67,x68,x69,x70,x71,x72,x73,x74,x75,x76,x77,x78,x79,x80] h5 (EE SS an Q))) (wpS SS an.nm an.ms [1,1,1,1,1,1,1] cc [x0,x1,x2,x3,x4,x5,(strOf n),(strOf d),(.bool neg),(.int .i64 st),x10,x11,x12,x13,x14,x15,x16,x17,x18,x19,x20,x21,x22,x23,x24,x25,x26,x27,x28,x29,x30,x31,x32,x33,x34,(strOf n),(.bool b3),(.bool (!b3)),(.bool false),(strOf d),(.bool b6),(.bool (!b6)),(.bool (!b6)),(.bool false),(strOf d),(.bool ((d:LB)==[48])),(.bool ((d:LB)==[48])),(.bool false),(strOf n),(.bool ((n:LB)==[48])),(.bool true),(.bool neg),(.bool false),(.int .i64 st),(.bool (decide ((st:Int)>=0))),(.bool (decide ((st:Int)>=0))),(.bool (decide ((st:Int)>=0))),(.bool (decide ((st:Int)>=0))),(.bool false),(strOf d),(.bool ((d:LB)==[49])),(.bool false),undef,undef,(.bool false),(.bool false),x66,x67,x68,x69,x70,x71,x72,x73,x74,x75,x76,x77,x78,x79,x80] h5 (EE SS an Q))))) (aF ((d:LB)==[49]) (aF (decide ((st:Int)>=0)) (Q (.tuple ⟨[(.bool false),(strOf []),(strOf []),(.bool false)]⟩) h5) (wpS SS an.nm an.ms [1,1,1,1,1,1,1] cc [x0,x1,x2,x3,x4,x5,(strOf n),(strOf d),(.bool neg),(.int .i64 st),x10,x11,x12,x13,x14,x15,x16,x17,x18,x19,x20,x21,x22,x23,x24,x25,x26,x27,x28,x29,x30,x31,x32,x33,x34,(strOf n),(.bool b3),(.bool (!b3)),(.bool false),(strOf d),(.bool b6),(.bool (!b6)),(.bool (!b6)),(.bool false),(strOf d),(.bool ((d:LB)==[48])),(.bool ((d:LB)==[48])),(.bool false),(strOf n),(.bool ((n:LB)==[48])),(.bool false),undef,undef,undef,undef,undef,(.bool false),(.bool false),(.bool false),(strOf d),(.bool ((d:LB)==[49])),(.bool true),(.int .i64 st),(.bool (decide ((st:Int)>=0))),(.bool (decide ((st:Int)>=0))),(.bool (decide ((st:Int)>=0))),x66,x67,x68,x69,x70,x71,x72,x73,x74,x75,x76,x77,x78,x79,x80] h5 (EE SS an Q))) (wpS SS an.nm an.ms [1,1,1,1,1,1,1] cc [x0,x1,x2,x3,x4,x5,(strOf n),(strOf d),(.bool neg),(.int .i64 st),x10,x11,x12,x13,x14,x15,x16,x17,x18,x19,x20,x21,x22,x23,x24,x25,x26,x27,x28,x29,x30,x31,x32,x33,x34,(strOf n),(.bool b3),(.bool (!b3)),(.bool false),(strOf d),(.bool b6),(.bool (!b6)),(.bool (!b6)),(.bool false),(strOf d),(.bool ((d:LB)==[48])),(.bool ((d:LB)==[48])),(.bool false),(strOf n),(.bool ((n:LB)==[48])),(.bool false),undef,undef,undef,undef,undef,(.bool false),(.bool false),(.bool false),(strOf d),(.bool ((d:LB)==[49])),(.bool false),undef,undef,(.bool false),(.bool false),x66,x67,x68,x69,x70,x71,x72,x73,x74,x75,x76,x77,x78,x79,x80] h5 (EE SS an Q))))))
theorem wY{n d:LB}{neg:Bool}{st:Int}{x0 x1 x2 x3 x4 x5 x10 x11 x12 x13 x14 x15 x16 x17 x18 x19 x20 x21 x22 x23 x24 x25 x26 x27 x28 x29 x30 x31 x32 x33 x34 x35 x36 x37 x38 x39 x40 x41 x42 x43 x44 x45 x46 x47 x48 x49 x50 x51 x52 x53 x54 x55 x56 x57 x58 x59 x60 x61 x62 x63 x64 x65 x66 x67 x68 x69 x70 x71 x72 x73 x74 x75 x76 x77 x78 x79 x80:Value}{h:aa}{Q:VH}(hx:pU n d neg st (iH [1,1,1,1,1,1,1] an.body) x0 x1 x2 x3 x4 x5 x10 x11 x12 x13 x14 x15 x16 x17 x18 x19 x20 x21 x22 x23 x24 x25 x26 x27 x28 x29 x30 x31 x32 x33 x34 x35 x36 x37 x38 x39 x40 x41 x42 x43 x44 x45 x46 x47 x48 x49 x50 x51 x52 x53 x54 x55 x56 x57 x58 x59 x60 x61 x62 x63 x64 x65 x66 x67 x68 x69 x70 x71 x72 x73 x74 x75 x76 x77 x78 x79 x80 h Q):TT SS an [1,1,1,1,1,1] [x0,x1,x2,x3,x4,x5,(strOf n),(strOf d),(.bool neg),(.int .i64 st),x10,x11,x12,x13,x14,x15,x16,x17,x18,x19,x20,x21,x22,x23,x24,x25,x26,x27,x28,x29,x30,x31,x32,x33,x34,x35,x36,x37,x38,x39,x40,x41,x42,x43,x44,x45,x46,x47,x48,x49,x50,x51,x52,x53,x54,x55,x56,x57,x58,x59,x60,x61,x62,x63,x64,x65,x66,x67,x68,x69,x70,x71,x72,x73,x74,x75,x76,x77,x78,x79,x80] h (EE SS an Q):=by
 have e:∀cc,pU n d neg st cc x0 x1 x2 x3 x4 x5 x10 x11 x12 x13 x14 x15 x16 x17 x18 x19 x20 x21 x22 x23 x24 x25 x26 x27 x28 x29 x30 x31 x32 x33 x34 x35 x36 x37 x38 x39 x40 x41 x42 x43 x44 x45 x46 x47 x48 x49 x50 x51 x52 x53 x54 x55 x56 x57 x58 x59 x60 x61 x62 x63 x64 x65 x66 x67 x68 x69 x70 x71 x72 x73 x74 x75 x76 x77 x78 x79 x80 h Q=wpS SS an.nm an.ms [1,1,1,1,1,1] (setAt [1] cc (iH [1,1,1,1,1,1] an.body)) [x0,x1,x2,x3,x4,x5,(strOf n),(strOf d),(.bool neg),(.int .i64 st),x10,x11,x12,x13,x14,x15,x16,x17,x18,x19,x20,x21,x22,x23,x24,x25,x26,x27,x28,x29,x30,x31,x32,x33,x34,x35,x36,x37,x38,x39,x40,x41,x42,x43,x44,x45,x46,x47,x48,x49,x50,x51,x52,x53,x54,x55,x56,x57,x58,x59,x60,x61,x62,x63,x64,x65,x66,x67,x68,x69,x70,x71,x72,x73,x74,x75,x76,x77,x78,x79,x80] h (EE SS an Q):=λcc=>by kernel_rfl
 have e:=e (iH [1,1,1,1,1,1,1] an.body);have ec:(iH [1,1,1,1,1,1,1] an.body)=iH [1] (iH [1,1,1,1,1,1] an.body):=by kernel_rfl
 have es:setAt [1] (iH [1,1,1,1,1,1,1] an.body) (iH [1,1,1,1,1,1] an.body)=iH [1,1,1,1,1,1] an.body:=by rw[ec,gh]
 rw[es]at e;exact au hx e
theorem wZ{n d:LB}{neg:Bool}{st:Int}{x0 x1 x2 x3 x4 x5 x10 x11 x12 x13 x14 x15 x16 x17 x18 x19 x20 x21 x22 x23 x24 x25 x26 x27 x28 x29 x30 x31 x32 x33 x34 x35 x36 x37 x38 x39 x40 x41 x42 x43 x44 x45 x46 x47 x48 x49 x50 x51 x52 x53 x54 x55 x56 x57 x58 x59 x60 x61 x62 x63 x64 x65 x66 x67 x68 x69 x70 x71 x72 x73 x74 x75 x76 x77 x78 x79 x80:Value}{h:aa}{Q:VH}(hx:FW SS 175 [(strOf n),(strOf d)] h λv1 h2=>∃l3:LB,∃n4:Int,v1=(.tuple ⟨[(strOf l3),(.int .i64 n4)]⟩)/\aF (!((l3:LB)==[49])) (aF (!((d:LB)==[49])) (Q (.tuple ⟨[(.bool false),(strOf []),(strOf []),(.bool false)]⟩) h2) (Q (.tuple ⟨[(.bool neg),(strOf n),(strOf d),(.bool true)]⟩) h2)) (Q (.tuple ⟨[(.bool neg),(strOf n),(strOf d),(.bool true)]⟩) h2)):TT SS an [1,1,1,1,1,1,1] [x0,x1,x2,x3,x4,x5,(strOf n),(strOf d),(.bool neg),(.int .i64 st),x10,x11,x12,x13,x14,x15,x16,x17,x18,x19,x20,x21,x22,x23,x24,x25,x26,x27,x28,x29,x30,x31,x32,x33,x34,x35,x36,x37,x38,x39,x40,x41,x42,x43,x44,x45,x46,x47,x48,x49,x50,x51,x52,x53,x54,x55,x56,x57,x58,x59,x60,x61,x62,x63,x64,x65,x66,x67,x68,x69,x70,x71,x72,x73,x74,x75,x76,x77,x78,x79,x80] h (EE SS an Q):=au hx
noncomputable def Gf:FD:=dJ Tryz.f121 []
theorem DO(l:LB)(h:aa)(Q:VH)(hx:FW SS 154 [(strOf l)] h λv1 h2=>∃b3:Bool,∃l4:LB,∃l5:LB,∃b6:Bool,v1=(.tuple ⟨[(.bool b3),(strOf l4),(strOf l5),(.bool b6)]⟩)/\Q (.bool b6) h2):FW SS 121 [(strOf l)] h Q:=dM Gf Tryz.func121 (au hx)
noncomputable def Ge:FD:=dJ Tryz.f156 []
theorem DN(l m:LB)(h:aa)(Q:VH)(hx:FW SS 179 [(strOf l),(strOf m)] h λv1 h2=>∃l3:LB,∃n4:Int,v1=(.tuple ⟨[(strOf l3),(.int .i64 n4)]⟩)/\Q (strOf l3) h2):FW SS 156 [(strOf l),(strOf m)] h Q:=dM Ge Tryz.func156 (au hx)
noncomputable def Ll:FD:=dJ Tryz.f155 []
theorem Ik(p:Bool)(l:LB)(q:Bool)(m:LB)(h:aa)(Q:VH)(hx:aF (p==q) (FW SS 176 [(strOf l),(strOf m)] h λv1 h2=>∃l3:LB,∃n4:Int,v1=(.tuple ⟨[(strOf l3),(.int .i64 n4)]⟩)/\Q (.tuple ⟨[(.bool p),(strOf l3)]⟩) h2) (FW SS 177 [(strOf l),(strOf m)] h λv5 h6=>yI .i64 v5 λn7=>aF (decide ((n7:Int)>=0)) (FW SS 178 [(strOf l),(strOf m)] h6 λv8 h9=>∃l10:LB,∃n11:Int,v8=(.tuple ⟨[(strOf l10),(.int .i64 n11)]⟩)/\Q (.tuple ⟨[(.bool p),(strOf l10)]⟩) h9) (FW SS 178 [(strOf m),(strOf l)] h6 λv12 h13=>∃l14:LB,∃n15:Int,v12=(.tuple ⟨[(strOf l14),(.int .i64 n15)]⟩)/\Q (.tuple ⟨[(.bool q),(strOf l14)]⟩) h13))):FW SS 155 [(.bool p),(strOf l),(.bool q),(strOf m)] h Q:=dM Ll Tryz.func155 (au hx)
noncomputable def Lk:FD:=dJ Tryz.f122 []
theorem Ii(l m:LB)(h:aa)(Q:VH)(hx:FW SS 154 [(strOf l)] h λv1 h2=>∃b3:Bool,∃l4:LB,∃l5:LB,∃b6:Bool,v1=(.tuple ⟨[(.bool b3),(strOf l4),(strOf l5),(.bool b6)]⟩)/\FW SS 154 [(strOf m)] h2 λv7 h8=>∃b9:Bool,∃l10:LB,∃l11:LB,∃b12:Bool,v7=(.tuple ⟨[(.bool b9),(strOf l10),(strOf l11),(.bool b12)]⟩)/\aF (!b6) (Q (.int .i64 0) h8) (aF (!b12) (Q (.int .i64 0) h8) (FW SS 156 [(strOf l4),(strOf l11)] h8 λv13 h14=>yS v13 λl15=>FW SS 156 [(strOf l10),(strOf l5)] h14 λv16 h17=>yS v16 λl18=>FW SS 155 [(.bool b3),(strOf l15),(.bool (!b9)),(strOf l18)] h17 λv19 h20=>∃b21:Bool,∃l22:LB,v19=(.tuple ⟨[(.bool b21),(strOf l22)]⟩)/\aF ((l22:LB)==[48]) (Q (.int .i64 0) h20) (aF b21 (Q (.int .i64 (-1)) h20) (Q (.int .i64 1) h20))))):FW SS 122 [(strOf l),(strOf m)] h Q:=dM Lk Tryz.func122 (au hx)
noncomputable def Lf:FD:=dJ Tryz.f93 []
theorem Ib(l:LB)(e:Int)(h:aa)(Q:VH)(hx:aF (((e:Int) !=0)) (xA (cF SS.P 149 []) λc1=>False) (Q (strOf l) h)):FW SS 93 [(strOf l),(.int .i64 e)] h Q:=dM Lf Tryz.func93 (au hx)
noncomputable def ak:FD:=dJ Tryz.f130 []
abbrev zw(l:LB)(cc:Code)(h:aa)(Q:VH):Prop:=xN (cq SS.P 120) h λB1 g2=>FW SS 158 [(strOf l),(strOf [45])] g2 λv3 h4=>∃l5:LB,∃b6:Bool,v3=(.tuple ⟨[(strOf l5),(.bool b6)]⟩)/\FW SS 159 [(strOf l5),(strOf [47])] h4 λv7 h8=>∃l9:LB,∃l10:LB,∃b11:Bool,v7=(.tuple ⟨[(strOf l9),(strOf l10),(.bool b11)]⟩)/\aF (!b11) (wpS SS ak.nm ak.ms [1,1,1,1] cc (uN [(strOf l),undef,(pA (h.next)),(.bool false),(strOf l5),(.bool b6),(strOf l9),(strOf [49]),(.bool b11),undef,undef,(.tuple ⟨[(strOf l5),(.bool b6)]⟩),(strOf l),(.tuple ⟨[(strOf l5),(.bool b6)]⟩),(strOf l5),(.bool b6),(.tuple ⟨[(strOf l9),(strOf l10),(.bool b11)]⟩),(strOf l5),(.tuple ⟨[(strOf l9),(strOf l10),(.bool b11)]⟩),(strOf l9),(strOf l10),(.bool b11),(.bool b11),(.bool (!b11))] 53) h8 (EE SS ak Q)) (wpS SS ak.nm ak.ms [1,1,1,1] cc (uN [(strOf l),undef,(pA (h.next)),(.bool false),(strOf l5),(.bool b6),(strOf l9),(strOf l10),(.bool b11),undef,undef,(.tuple ⟨[(strOf l5),(.bool b6)]⟩),(strOf l),(.tuple ⟨[(strOf l5),(.bool b6)]⟩),(strOf l5),(.bool b6),(.tuple ⟨[(strOf l9),(strOf l10),(.bool b11)]⟩),(strOf l5),(.tuple ⟨[(strOf l9),(strOf l10),(.bool b11)]⟩),(strOf l9),(strOf l10),(.bool b11),(.bool b11),(.bool (!b11))] 53) h8 (EE SS ak Q))
theorem Ga(l:LB)(h:aa)(Q:VH)(hx:zw l (iH [1,1,1,1] ak.body) h Q):FW SS 130 [(strOf l)] h Q:=by
 have e:∀cc,zw l cc h Q=wpS SS ak.nm ak.ms [] (setAt [1,1,1,1] cc ak.body) ([(strOf l)]++List.replicate (ak.nm-([(strOf l)]:LV).length) undef) h (EE SS ak Q):=λcc=>by kernel_rfl
 have e:=e (iH [1,1,1,1] ak.body);rw[gh]at e;exact dM ak Tryz.func130 (au hx e)
abbrev rF(n d:LB)(neg fnd:Bool)(p:Addr)(cc:Code)(x0 x1 x3 x4 x9 x10 x11 x12 x13 x14 x15 x16 x17 x18 x19 x20 x21 x22 x23 x24 x25 x26 x27 x28 x29 x30 x31 x32 x33 x34 x35 x36 x37 x38 x39 x40 x41 x42 x43 x44 x45 x46 x47 x48 x49 x50 x51 x52 x53 x54 x55 x56 x57 x58 x59 x60 x61 x62 x63 x64 x65 x66 x67 x68 x69 x70 x71 x72 x73 x74 x75 x76:Value)(h:aa)(Q:VH):Prop:=FW SS 136 [(strOf n)] h λv1 h2=>yB v1 λb3=>aF (!b3) (xA (cF SS.P 120 []) λc4=>xU (aw SS.P 120 (.pointer (some p)) (.agg ⟨c4⟩) h2) h2 λu5 g6=>lR SS [((.pointer (some p)),some 120),((.bool false),none)] g6 Q) (FW SS 136 [(strOf d)] h2 λv7 h8=>yB v7 λb9=>aF (!b9) (xA (cF SS.P 120 []) λcp=>xU (aw SS.P 120 (.pointer (some p)) (.agg ⟨cp⟩) h8) h8 λUN Pr=>lR SS [((.pointer (some p)),some 120),((.bool false),none)] Pr Q) (aF (decide ((((n:LB).length:Int):Int)>400)) (xA (cF SS.P 120 []) λcG=>xU (aw SS.P 120 (.pointer (some p)) (.agg ⟨cG⟩) h8) h8 λPt Ni=>lR SS [((.pointer (some p)),some 120),((.bool false),none)] Ni Q) (aF (decide ((((d:LB).length:Int):Int)>400)) (xA (cF SS.P 120 []) λc16=>xU (aw SS.P 120 (.pointer (some p)) (.agg ⟨c16⟩) h8) h8 λu17 g18=>lR SS [((.pointer (some p)),some 120),((.bool false),none)] g18 Q) (wpS SS ak.nm ak.ms [1,1,1,1,1] cc [x0,x1,(.pointer (some p)),x3,x4,(.bool neg),(strOf n),(strOf d),(.bool fnd),x9,x10,x11,x12,x13,x14,x15,x16,x17,x18,x19,x20,x21,x22,x23,(strOf n),(.bool b3),(.bool (!b3)),(.bool false),(strOf d),(.bool b9),(.bool (!b9)),(.bool (!b9)),(.bool false),(strOf n),(.int .i64 ((n:LB).length:Int)),(.bool (decide ((((n:LB).length:Int):Int)>400))),(.bool (decide ((((n:LB).length:Int):Int)>400))),(.bool false),(strOf d),(.int .i64 ((d:LB).length:Int)),(.bool (decide ((((d:LB).length:Int):Int)>400))),(.bool (decide ((((d:LB).length:Int):Int)>400))),x42,x43,x44,x45,x46,x47,x48,x49,x50,x51,x52,x53,x54,x55,x56,x57,x58,x59,x60,x61,x62,x63,x64,x65,x66,x67,x68,x69,x70,x71,x72,x73,x74,x75,x76] h8 (EE SS ak Q)))))
theorem zx{n d:LB}{neg fnd:Bool}{p:Addr}{x0 x1 x3 x4 x9 x10 x11 x12 x13 x14 x15 x16 x17 x18 x19 x20 x21 x22 x23 x24 x25 x26 x27 x28 x29 x30 x31 x32 x33 x34 x35 x36 x37 x38 x39 x40 x41 x42 x43 x44 x45 x46 x47 x48 x49 x50 x51 x52 x53 x54 x55 x56 x57 x58 x59 x60 x61 x62 x63 x64 x65 x66 x67 x68 x69 x70 x71 x72 x73 x74 x75 x76:Value}{h:aa}{Q:VH}(hx:rF n d neg fnd p (iH [1,1,1,1,1] ak.body) x0 x1 x3 x4 x9 x10 x11 x12 x13 x14 x15 x16 x17 x18 x19 x20 x21 x22 x23 x24 x25 x26 x27 x28 x29 x30 x31 x32 x33 x34 x35 x36 x37 x38 x39 x40 x41 x42 x43 x44 x45 x46 x47 x48 x49 x50 x51 x52 x53 x54 x55 x56 x57 x58 x59 x60 x61 x62 x63 x64 x65 x66 x67 x68 x69 x70 x71 x72 x73 x74 x75 x76 h Q):TT SS ak [1,1,1,1] [x0,x1,(.pointer (some p)),x3,x4,(.bool neg),(strOf n),(strOf d),(.bool fnd),x9,x10,x11,x12,x13,x14,x15,x16,x17,x18,x19,x20,x21,x22,x23,x24,x25,x26,x27,x28,x29,x30,x31,x32,x33,x34,x35,x36,x37,x38,x39,x40,x41,x42,x43,x44,x45,x46,x47,x48,x49,x50,x51,x52,x53,x54,x55,x56,x57,x58,x59,x60,x61,x62,x63,x64,x65,x66,x67,x68,x69,x70,x71,x72,x73,x74,x75,x76] h (EE SS ak Q):=by
 have e:∀cc,rF n d neg fnd p cc x0 x1 x3 x4 x9 x10 x11 x12 x13 x14 x15 x16 x17 x18 x19 x20 x21 x22 x23 x24 x25 x26 x27 x28 x29 x30 x31 x32 x33 x34 x35 x36 x37 x38 x39 x40 x41 x42 x43 x44 x45 x46 x47 x48 x49 x50 x51 x52 x53 x54 x55 x56 x57 x58 x59 x60 x61 x62 x63 x64 x65 x66 x67 x68 x69 x70 x71 x72 x73 x74 x75 x76 h Q=wpS SS ak.nm ak.ms [1,1,1,1] (setAt [1] cc (iH [1,1,1,1] ak.body)) [x0,x1,(.pointer (some p)),x3,x4,(.bool neg),(strOf n),(strOf d),(.bool fnd),x9,x10,x11,x12,x13,x14,x15,x16,x17,x18,x19,x20,x21,x22,x23,x24,x25,x26,x27,x28,x29,x30,x31,x32,x33,x34,x35,x36,x37,x38,x39,x40,x41,x42,x43,x44,x45,x46,x47,x48,x49,x50,x51,x52,x53,x54,x55,x56,x57,x58,x59,x60,x61,x62,x63,x64,x65,x66,x67,x68,x69,x70,x71,x72,x73,x74,x75,x76] h (EE SS ak Q):=λcc=>by kernel_rfl
 have e:=e (iH [1,1,1,1,1] ak.body);have ec:(iH [1,1,1,1,1] ak.body)=iH [1] (iH [1,1,1,1] ak.body):=by kernel_rfl
 have es:setAt [1] (iH [1,1,1,1,1] ak.body) (iH [1,1,1,1] ak.body)=iH [1,1,1,1] ak.body:=by rw[ec,gh]
 rw[es]at e;exact au hx e
abbrev rG(n d:LB)(neg fnd:Bool)(p:Addr)(cc:Code)(x0 x1 x3 x4 x9 x10 x11 x12 x13 x14 x15 x16 x17 x18 x19 x20 x21 x22 x23 x24 x25 x26 x27 x28 x29 x30 x31 x32 x33 x34 x35 x36 x37 x38 x39 x40 x41 x42 x43 x44 x45 x46 x47 x48 x49 x50 x51 x52 x53 x54 x55 x56 x57 x58 x59 x60 x61 x62 x63 x64 x65 x66 x67 x68 x69 x70 x71 x72 x73 x74 x75 x76:Value)(h:aa)(Q:VH):Prop:=aF neg (aF ((n:LB)==[48]) (xA (cF SS.P 120 []) λc1=>xU (aw SS.P 120 (.pointer (some p)) (.agg ⟨c1⟩) h) h λu2 g3=>lR SS [((.pointer (some p)),some 120),((.bool false),none)] g3 Q) (aF fnd (aF ((d:LB)==[48]) (xA (cF SS.P 120 []) λc4=>xU (aw SS.P 120 (.pointer (some p)) (.agg ⟨c4⟩) h) h λu5 g6=>lR SS [((.pointer (some p)),some 120),((.bool false),none)] g6 Q) (aF ((d:LB)==[49]) (xA (cF SS.P 120 []) λc7=>xU (aw SS.P 120 (.pointer (some p)) (.agg ⟨c7⟩) h) h λu8 g9=>lR SS [((.pointer (some p)),some 120),((.bool false),none)] g9 Q) (wpS SS ak.nm ak.ms [1,1,1,1,1,1] cc [x0,x1,(.pointer (some p)),x3,x4,(.bool neg),(strOf n),(strOf d),(.bool fnd),x9,x10,x11,x12,x13,x14,x15,x16,x17,x18,x19,x20,x21,x22,x23,x24,x25,x26,x27,x28,x29,x30,x31,x32,x33,x34,x35,x36,x37,x38,x39,x40,x41,x42,(.bool neg),(.bool true),(strOf n),(.bool ((n:LB)==[48])),(.bool ((n:LB)==[48])),(.bool false),(.bool fnd),(.bool true),(strOf d),(.bool ((d:LB)==[48])),(.bool false),(strOf d),(.bool ((d:LB)==[49])),(.bool ((d:LB)==[49])),(.bool ((d:LB)==[49])),(.bool ((d:LB)==[49])),x59,x60,x61,x62,x63,x64,x65,x66,x67,x68,x69,x70,x71,x72,x73,x74,x75,x76] h (EE SS ak Q)))) (wpS SS ak.nm ak.ms [1,1,1,1,1,1] cc [x0,x1,(.pointer (some p)),x3,x4,(.bool neg),(strOf n),(strOf d),(.bool fnd),x9,x10,x11,x12,x13,x14,x15,x16,x17,x18,x19,x20,x21,x22,x23,x24,x25,x26,x27,x28,x29,x30,x31,x32,x33,x34,x35,x36,x37,x38,x39,x40,x41,x42,(.bool neg),(.bool true),(strOf n),(.bool ((n:LB)==[48])),(.bool ((n:LB)==[48])),(.bool false),(.bool fnd),(.bool false),undef,undef,undef,undef,undef,undef,(.bool false),(.bool false),x59,x60,x61,x62,x63,x64,x65,x66,x67,x68,x69,x70,x71,x72,x73,x74,x75,x76] h (EE SS ak Q)))) (aF fnd (aF ((d:LB)==[48]) (xA (cF SS.P 120 []) λcp=>xU (aw SS.P 120 (.pointer (some p)) (.agg ⟨cp⟩) h) h λUN Pr=>lR SS [((.pointer (some p)),some 120),((.bool false),none)] Pr Q) (aF ((d:LB)==[49]) (xA (cF SS.P 120 []) λcG=>xU (aw SS.P 120 (.pointer (some p)) (.agg ⟨cG⟩) h) h λPt Ni=>lR SS [((.pointer (some p)),some 120),((.bool false),none)] Ni Q) (wpS SS ak.nm ak.ms [1,1,1,1,1,1] cc [x0,x1,(.pointer (some p)),x3,x4,(.bool neg),(strOf n),(strOf d),(.bool fnd),x9,x10,x11,x12,x13,x14,x15,x16,x17,x18,x19,x20,x21,x22,x23,x24,x25,x26,x27,x28,x29,x30,x31,x32,x33,x34,x35,x36,x37,x38,x39,x40,x41,x42,(.bool neg),(.bool false),undef,undef,(.bool false),(.bool false),(.bool fnd),(.bool true),(strOf d),(.bool ((d:LB)==[48])),(.bool false),(strOf d),(.bool ((d:LB)==[49])),(.bool ((d:LB)==[49])),(.bool ((d:LB)==[49])),(.bool ((d:LB)==[49])),x59,x60,x61,x62,x63,x64,x65,x66,x67,x68,x69,x70,x71,x72,x73,x74,x75,x76] h (EE SS ak Q)))) (wpS SS ak.nm ak.ms [1,1,1,1,1,1] cc [x0,x1,(.pointer (some p)),x3,x4,(.bool neg),(strOf n),(strOf d),(.bool fnd),x9,x10,x11,x12,x13,x14,x15,x16,x17,x18,x19,x20,x21,x22,x23,x24,x25,x26,x27,x28,x29,x30,x31,x32,x33,x34,x35,x36,x37,x38,x39,x40,x41,x42,(.bool neg),(.bool false),undef,undef,(.bool false),(.bool false),(.bool fnd),(.bool false),undef,undef,undef,undef,undef,undef,(.bool false),(.bool false),x59,x60,x61,x62,x63,x64,x65,x66,x67,x68,x69,x70,x71,x72,x73,x74,x75,x76] h (EE SS ak Q)))
theorem zy{n d:LB}{neg fnd:Bool}{p:Addr}{x0 x1 x3 x4 x9 x10 x11 x12 x13 x14 x15 x16 x17 x18 x19 x20 x21 x22 x23 x24 x25 x26 x27 x28 x29 x30 x31 x32 x33 x34 x35 x36 x37 x38 x39 x40 x41 x42 x43 x44 x45 x46 x47 x48 x49 x50 x51 x52 x53 x54 x55 x56 x57 x58 x59 x60 x61 x62 x63 x64 x65 x66 x67 x68 x69 x70 x71 x72 x73 x74 x75 x76:Value}{h:aa}{Q:VH}(hx:rG n d neg fnd p (iH [1,1,1,1,1,1] ak.body) x0 x1 x3 x4 x9 x10 x11 x12 x13 x14 x15 x16 x17 x18 x19 x20 x21 x22 x23 x24 x25 x26 x27 x28 x29 x30 x31 x32 x33 x34 x35 x36 x37 x38 x39 x40 x41 x42 x43 x44 x45 x46 x47 x48 x49 x50 x51 x52 x53 x54 x55 x56 x57 x58 x59 x60 x61 x62 x63 x64 x65 x66 x67 x68 x69 x70 x71 x72 x73 x74 x75 x76 h Q):TT SS ak [1,1,1,1,1] [x0,x1,(.pointer (some p)),x3,x4,(.bool neg),(strOf n),(strOf d),(.bool fnd),x9,x10,x11,x12,x13,x14,x15,x16,x17,x18,x19,x20,x21,x22,x23,x24,x25,x26,x27,x28,x29,x30,x31,x32,x33,x34,x35,x36,x37,x38,x39,x40,x41,x42,x43,x44,x45,x46,x47,x48,x49,x50,x51,x52,x53,x54,x55,x56,x57,x58,x59,x60,x61,x62,x63,x64,x65,x66,x67,x68,x69,x70,x71,x72,x73,x74,x75,x76] h (EE SS ak Q):=by
 have e:∀cc,rG n d neg fnd p cc x0 x1 x3 x4 x9 x10 x11 x12 x13 x14 x15 x16 x17 x18 x19 x20 x21 x22 x23 x24 x25 x26 x27 x28 x29 x30 x31 x32 x33 x34 x35 x36 x37 x38 x39 x40 x41 x42 x43 x44 x45 x46 x47 x48 x49 x50 x51 x52 x53 x54 x55 x56 x57 x58 x59 x60 x61 x62 x63 x64 x65 x66 x67 x68 x69 x70 x71 x72 x73 x74 x75 x76 h Q=wpS SS ak.nm ak.ms [1,1,1,1,1] (setAt [1] cc (iH [1,1,1,1,1] ak.body)) [x0,x1,(.pointer (some p)),x3,x4,(.bool neg),(strOf n),(strOf d),(.bool fnd),x9,x10,x11,x12,x13,x14,x15,x16,x17,x18,x19,x20,x21,x22,x23,x24,x25,x26,x27,x28,x29,x30,x31,x32,x33,x34,x35,x36,x37,x38,x39,x40,x41,x42,x43,x44,x45,x46,x47,x48,x49,x50,x51,x52,x53,x54,x55,x56,x57,x58,x59,x60,x61,x62,x63,x64,x65,x66,x67,x68,x69,x70,x71,x72,x73,x74,x75,x76] h (EE SS ak Q):=λcc=>by kernel_rfl
 have e:=e (iH [1,1,1,1,1,1] ak.body);have ec:(iH [1,1,1,1,1,1] ak.body)=iH [1] (iH [1,1,1,1,1] ak.body):=by kernel_rfl
 have es:setAt [1] (iH [1,1,1,1,1,1] ak.body) (iH [1,1,1,1,1] ak.body)=iH [1,1,1,1,1] ak.body:=by rw[ec,gh]
 rw[es]at e;exact au hx e
abbrev rH(n d:LB)(neg fnd:Bool)(p:Addr)(cc:Code)(x0 x1 x3 x4 x9 x10 x11 x12 x13 x14 x15 x16 x17 x18 x19 x20 x21 x22 x23 x24 x25 x26 x27 x28 x29 x30 x31 x32 x33 x34 x35 x36 x37 x38 x39 x40 x41 x42 x43 x44 x45 x46 x47 x48 x49 x50 x51 x52 x53 x54 x55 x56 x57 x58 x59 x60 x61 x62 x63 x64 x65 x66 x67 x68 x69 x70 x71 x72 x73 x74 x75 x76:Value)(h:aa)(Q:VH):Prop:=FW SS 140 [(strOf n),(strOf d)] h λv1 h2=>∃l3:LB,∃n4:Int,v1=(.tuple ⟨[(strOf l3),(.int .i64 n4)]⟩)/\aF (((n4:Int) !=0)) (xA (cF SS.P 120 []) λc5=>xU (aw SS.P 120 (.pointer (some p)) (.agg ⟨c5⟩) h2) h2 λu6 g7=>lR SS [((.pointer (some p)),some 120),((.bool false),none)] g7 Q) (aF (!((l3:LB)==[49])) (xA (cF SS.P 120 []) λc8=>xU (aw SS.P 120 (.pointer (some p)) (.agg ⟨c8⟩) h2) h2 λu9 yT=>lR SS [((.pointer (some p)),some 120),((.bool false),none)] yT Q) (wpS SS ak.nm ak.ms [1,1,1,1,1,1,1] cc [x0,x1,(.pointer (some p)),x3,x4,(.bool neg),(strOf n),(strOf d),(.bool fnd),(strOf l3),(.int .i64 n4),x11,x12,x13,x14,x15,x16,x17,x18,x19,x20,x21,x22,x23,x24,x25,x26,x27,x28,x29,x30,x31,x32,x33,x34,x35,x36,x37,x38,x39,x40,x41,x42,x43,x44,x45,x46,x47,x48,x49,x50,x51,x52,x53,x54,x55,x56,x57,x58,x59,(.tuple ⟨[(strOf l3),(.int .i64 n4)]⟩),(strOf n),(strOf d),(.tuple ⟨[(strOf l3),(.int .i64 n4)]⟩),(strOf l3),(.int .i64 n4),(.int .i64 n4),(.bool (((n4:Int) !=0))),(.bool false),(strOf l3),(.bool (!((l3:LB)==[49]))),(.bool (!((l3:LB)==[49]))),x72,x73,x74,x75,x76] h2 (EE SS ak Q)))
theorem zA{n d:LB}{neg fnd:Bool}{p:Addr}{x0 x1 x3 x4 x9 x10 x11 x12 x13 x14 x15 x16 x17 x18 x19 x20 x21 x22 x23 x24 x25 x26 x27 x28 x29 x30 x31 x32 x33 x34 x35 x36 x37 x38 x39 x40 x41 x42 x43 x44 x45 x46 x47 x48 x49 x50 x51 x52 x53 x54 x55 x56 x57 x58 x59 x60 x61 x62 x63 x64 x65 x66 x67 x68 x69 x70 x71 x72 x73 x74 x75 x76:Value}{h:aa}{Q:VH}(hx:rH n d neg fnd p (iH [1,1,1,1,1,1,1] ak.body) x0 x1 x3 x4 x9 x10 x11 x12 x13 x14 x15 x16 x17 x18 x19 x20 x21 x22 x23 x24 x25 x26 x27 x28 x29 x30 x31 x32 x33 x34 x35 x36 x37 x38 x39 x40 x41 x42 x43 x44 x45 x46 x47 x48 x49 x50 x51 x52 x53 x54 x55 x56 x57 x58 x59 x60 x61 x62 x63 x64 x65 x66 x67 x68 x69 x70 x71 x72 x73 x74 x75 x76 h Q):TT SS ak [1,1,1,1,1,1] [x0,x1,(.pointer (some p)),x3,x4,(.bool neg),(strOf n),(strOf d),(.bool fnd),x9,x10,x11,x12,x13,x14,x15,x16,x17,x18,x19,x20,x21,x22,x23,x24,x25,x26,x27,x28,x29,x30,x31,x32,x33,x34,x35,x36,x37,x38,x39,x40,x41,x42,x43,x44,x45,x46,x47,x48,x49,x50,x51,x52,x53,x54,x55,x56,x57,x58,x59,x60,x61,x62,x63,x64,x65,x66,x67,x68,x69,x70,x71,x72,x73,x74,x75,x76] h (EE SS ak Q):=by
 have e:∀cc,rH n d neg fnd p cc x0 x1 x3 x4 x9 x10 x11 x12 x13 x14 x15 x16 x17 x18 x19 x20 x21 x22 x23 x24 x25 x26 x27 x28 x29 x30 x31 x32 x33 x34 x35 x36 x37 x38 x39 x40 x41 x42 x43 x44 x45 x46 x47 x48 x49 x50 x51 x52 x53 x54 x55 x56 x57 x58 x59 x60 x61 x62 x63 x64 x65 x66 x67 x68 x69 x70 x71 x72 x73 x74 x75 x76 h Q=wpS SS ak.nm ak.ms [1,1,1,1,1,1] (setAt [1] cc (iH [1,1,1,1,1,1] ak.body)) [x0,x1,(.pointer (some p)),x3,x4,(.bool neg),(strOf n),(strOf d),(.bool fnd),x9,x10,x11,x12,x13,x14,x15,x16,x17,x18,x19,x20,x21,x22,x23,x24,x25,x26,x27,x28,x29,x30,x31,x32,x33,x34,x35,x36,x37,x38,x39,x40,x41,x42,x43,x44,x45,x46,x47,x48,x49,x50,x51,x52,x53,x54,x55,x56,x57,x58,x59,x60,x61,x62,x63,x64,x65,x66,x67,x68,x69,x70,x71,x72,x73,x74,x75,x76] h (EE SS ak Q):=λcc=>by kernel_rfl
 have e:=e (iH [1,1,1,1,1,1,1] ak.body);have ec:(iH [1,1,1,1,1,1,1] ak.body)=iH [1] (iH [1,1,1,1,1,1] ak.body):=by kernel_rfl
 have es:setAt [1] (iH [1,1,1,1,1,1,1] ak.body) (iH [1,1,1,1,1,1] ak.body)=iH [1,1,1,1,1,1] ak.body:=by rw[ec,gh]
 rw[es]at e;exact au hx e
theorem zB{n d:LB}{neg fnd:Bool}{p:Addr}{x0 x1 x3 x4 x9 x10 x11 x12 x13 x14 x15 x16 x17 x18 x19 x20 x21 x22 x23 x24 x25 x26 x27 x28 x29 x30 x31 x32 x33 x34 x35 x36 x37 x38 x39 x40 x41 x42 x43 x44 x45 x46 x47 x48 x49 x50 x51 x52 x53 x54 x55 x56 x57 x58 x59 x60 x61 x62 x63 x64 x65 x66 x67 x68 x69 x70 x71 x72 x73 x74 x75 x76:Value}{h:aa}{Q:VH}(hx:xA (cF SS.P 120 [(0,(.bool neg)),(1,(strOf n)),(2,(strOf d))]) λc1=>xU (aw SS.P 120 (.pointer (some p)) (.agg ⟨c1⟩) h) h λu2 g3=>lR SS [((.pointer (some p)),some 120),((.bool true),none)] g3 Q):TT SS ak [1,1,1,1,1,1,1] [x0,x1,(.pointer (some p)),x3,x4,(.bool neg),(strOf n),(strOf d),(.bool fnd),x9,x10,x11,x12,x13,x14,x15,x16,x17,x18,x19,x20,x21,x22,x23,x24,x25,x26,x27,x28,x29,x30,x31,x32,x33,x34,x35,x36,x37,x38,x39,x40,x41,x42,x43,x44,x45,x46,x47,x48,x49,x50,x51,x52,x53,x54,x55,x56,x57,x58,x59,x60,x61,x62,x63,x64,x65,x66,x67,x68,x69,x70,x71,x72,x73,x74,x75,x76] h (EE SS ak Q):=au hx
noncomputable def Ig:FD:=dJ Tryz.f96 []
theorem Gb(l:LB)(h:aa)(Q:VH)(hx:FW SS 130 [(strOf l)] h λv1 h2=>∃cs3:LV,∃b4:Bool,v1=(.tuple ⟨[(.agg ⟨cs3⟩),(.bool b4)]⟩)/\Q (.bool b4) h2):FW SS 96 [(strOf l)] h Q:=dM Ig Tryz.func96 (au hx)
noncomputable def Lg:FD:=dJ Tryz.f92 []
theorem Ic(p:Bool)(l:LB)(q:Bool)(m:LB)(h:aa)(Q:VH)(hx:aF (p==q) (FW SS 133 [(strOf l),(strOf m)] h λv1 h2=>∃l3:LB,∃n4:Int,v1=(.tuple ⟨[(strOf l3),(.int .i64 n4)]⟩)/\FW SS 93 [(strOf l3),(.int .i64 n4)] h2 λv5 h6=>yS v5 λl7=>Q (.tuple ⟨[(.bool p),(strOf l7)]⟩) h6) (FW SS 134 [(strOf l),(strOf m)] h λv8 h9=>yI .i64 v8 λn10=>aF (decide ((n10:Int)<0)) (FW SS 135 [(strOf m),(strOf l)] h9 λv11 h12=>∃l13:LB,∃n14:Int,v11=(.tuple ⟨[(strOf l13),(.int .i64 n14)]⟩)/\FW SS 93 [(strOf l13),(.int .i64 n14)] h12 λv15 h16=>yS v15 λl17=>Q (.tuple ⟨[(.bool q),(strOf l17)]⟩) h16) (FW SS 135 [(strOf l),(strOf m)] h9 λv18 h19=>∃l20:LB,∃n21:Int,v18=(.tuple ⟨[(strOf l20),(.int .i64 n21)]⟩)/\FW SS 93 [(strOf l20),(.int .i64 n21)] h19 λv22 h23=>yS v22 λl24=>Q (.tuple ⟨[(.bool p),(strOf l24)]⟩) h23))):FW SS 92 [(.bool p),(strOf l),(.bool q),(strOf m)] h Q:=dM Lg Tryz.func92 (au hx)
noncomputable def Oh:FD:=dJ Tryz.f152 []
theorem Ld(l m:LB)(h:aa)(Q:VH)(hx:FW SS 130 [(strOf l)] h λv1 h2=>∃cs3:LV,∃b4:Bool,v1=(.tuple ⟨[(.agg ⟨cs3⟩),(.bool b4)]⟩)/\xN (cq SS.P 120) h2 λB5 g6=>xU (aw SS.P 120 (pA (h2.next)) (.agg ⟨cs3⟩) g6) g6 λu7 g8=>FW SS 130 [(strOf m)] g8 λv9 h10=>∃cs11:LV,∃b12:Bool,v9=(.tuple ⟨[(.agg ⟨cs11⟩),(.bool b12)]⟩)/\xN (cq SS.P 120) h10 λB13 L4=>xU (aw SS.P 120 (pA (h10.next)) (.agg ⟨cs11⟩) L4) L4 λUP g16=>aF (!b4) (Q (.int .i64 0) g16) (aF (!b12) (Q (.int .i64 0) g16) (xP (ah SS.P 120 (pA (h2.next)) 0) λp17=>xB (ai SS.P 4 (room g16 27) (.pointer (some p17))) λb18=>xP (ah SS.P 120 (pA (h2.next)) 1) λp19=>xS (ai SS.P 9 (room g16 27) (.pointer (some p19))) λl20=>xP (ah SS.P 120 (pA (h10.next)) 2) λp21=>xS (ai SS.P 9 (room g16 27) (.pointer (some p21))) λl22=>FW SS 94 [(strOf l20),(strOf l22)] (room g16 27) λv23 h24=>∃l25:LB,∃n26:Int,v23=(.tuple ⟨[(strOf l25),(.int .i64 n26)]⟩)/\FW SS 93 [(strOf l25),(.int .i64 n26)] h24 λv27 h28=>yS v27 λl29=>xP (ah SS.P 120 (pA (h10.next)) 0) λp30=>xB (ai SS.P 4 h28 (.pointer (some p30))) λb31=>xP (ah SS.P 120 (pA (h10.next)) 1) λp32=>xS (ai SS.P 9 h28 (.pointer (some p32))) λl33=>xP (ah SS.P 120 (pA (h2.next)) 2) λp34=>xS (ai SS.P 9 h28 (.pointer (some p34))) λl35=>FW SS 94 [(strOf l33),(strOf l35)] h28 λv36 h37=>∃l38:LB,∃n39:Int,v36=(.tuple ⟨[(strOf l38),(.int .i64 n39)]⟩)/\FW SS 93 [(strOf l38),(.int .i64 n39)] h37 λv40 h41=>yS v40 λl42=>FW SS 92 [(.bool b18),(strOf l29),(.bool (!b31)),(strOf l42)] h41 λv43 h44=>∃b45:Bool,∃l46:LB,v43=(.tuple ⟨[(.bool b45),(strOf l46)]⟩)/\(ai SS.P 4 h24 (.pointer (some p17))=some (.bool b18)/\mq 4 (.bool b18) (.bool b18)=true)/\(ai SS.P 4 h28 (.pointer (some p17))=some (.bool b18)/\mq 4 (.bool b18) (.bool b18)=true)/\(ai SS.P 4 h37 (.pointer (some p17))=some (.bool b18)/\mq 4 (.bool b18) (.bool b18)=true)/\(ai SS.P 4 h41 (.pointer (some p17))=some (.bool b18)/\mq 4 (.bool b18) (.bool b18)=true)/\(ai SS.P 4 (room g16 27) (.pointer (some p30))=some (.bool b31)/\mq 4 (.bool b31) (.bool b31)=true)/\(ai SS.P 4 h24 (.pointer (some p30))=some (.bool b31)/\mq 4 (.bool b31) (.bool b31)=true)/\(ai SS.P 4 h37 (.pointer (some p30))=some (.bool b31)/\mq 4 (.bool b31) (.bool b31)=true)/\(ai SS.P 4 h41 (.pointer (some p30))=some (.bool b31)/\mq 4 (.bool b31) (.bool b31)=true)/\(ai SS.P 9 (room g16 27) (.pointer (some p32))=some (strOf l33)/\mq 4 (strOf l33) (strOf l33)=true)/\(ai SS.P 9 h24 (.pointer (some p32))=some (strOf l33)/\mq 4 (strOf l33) (strOf l33)=true)/\(ai SS.P 9 (room g16 27) (.pointer (some p34))=some (strOf l35)/\mq 4 (strOf l35) (strOf l35)=true)/\(ai SS.P 9 h24 (.pointer (some p34))=some (strOf l35)/\mq 4 (strOf l35) (strOf l35)=true)/\aF ((l46:LB)==[48]) (Q (.int .i64 0) h44) (aF b45 (Q (.int .i64 (-1)) h44) (Q (.int .i64 1) h44))))):FW SS 152 [(strOf l),(strOf m)] h Q:=dM Oh Tryz.func152 (au hx)
noncomputable def No:FD:=dJ Tryz.f202 []
theorem Kw(l m:LB)(h:aa)(Q:VH)(hx:aF (decide ((((l:LB).length:Int):Int)>=((m:LB).length:Int))) (xS (bt SS.P 9 (strOf l) none (some (.int .i64 ((m:LB).length:Int))) none h) λl1=>Q (.bool ((l1:LB)==m)) h) (Q (.bool false) h)):FW SS 202 [(strOf l),(strOf m)] h Q:=dM No Tryz.func202 (au hx)
noncomputable def eP:FD:=dJ Tryz.f136 [([1,1,0,1,0,0],[0,22,23])]
abbrev jU(l:LB)(i:Int):LV:=[(strOf l),(.int .i64 (l.length:Int)),(.int .i64 i)]
theorem vO(l:LB)(h:aa)(Q:VH)(hx:aF ((l:LB)==[]) (Q (.bool false) h) (aF (decide ((((l:LB).length:Int):Int)>1000)) (Q (.bool false) h) (aF (decide ((((l:LB).length:Int):Int)>1)) (xI .u8 (bp SS.P 9 (strOf l) (.int .i64 0)) λn1=>aF (((n1:Int)==48)) (Q (.bool false) h) (LL SS eP [1,1,0,1,0,0] [(strOf l),(.int .i64 ((l:LB).length:Int)),(.int .i64 0)] h (KK SS eP [1,1,0,1,0] [] (EE SS eP Q)))) (LL SS eP [1,1,0,1,0,0] [(strOf l),(.int .i64 ((l:LB).length:Int)),(.int .i64 0)] h (KK SS eP [1,1,0,1,0] [] (EE SS eP Q)))))):FW SS 136 [(strOf l)] h Q:=dM eP Tryz.func136 (au hx)
theorem qV(l:LB)  (Inv:Nat->Int->aa->Prop) (Q:VH) (step:∀(mz:Nat)(i:Int)(zz:Nat->Value)(h:aa),Inv mz i h->aF (decide ((i:Int)<(l.length:Int))) (xI .u8 (bp SS.P 9 (strOf l) (.int .i64 i)) λn2=>aF (decide ((n2:Int)<48)) (Q (.bool false) h) (xI .u8 (bp SS.P 9 (strOf l) (.int .i64 i)) λn3=>aF (decide ((n3:Int)>57)) (Q (.bool false) h) (aH (iR (jU l) Inv) mz [(strOf l),(.int .i64 (l.length:Int)),(.int .i64 (wrap .i64 (i+1)))] h))) (Q (.bool true) h)) (mz:Nat) {i:Int} {h:aa} (hi:Inv mz i h):LL SS eP [1,1,0,1,0,0] (jU l i) h (KK SS eP [1,1,0,1,0] [] (EE SS eP Q)):=
 dK (jU l) Inv (λmz i zz h hi=>au (step mz i zz h hi)) mz hi
noncomputable def eS:FD:=dJ Tryz.f194 [([1,1,0,1,0,0],[0,3])]
abbrev fk(l:LB)(i:Int):LV:=[(strOf l),(.int .i64 i)]
theorem vV(l:LB)(h:aa)(Q:VH)(hx:aF (decide ((((l:LB).length:Int):Int)<1)) (Q (.bool false) h) (aF (decide ((((l:LB).length:Int):Int)>1000)) (Q (.bool false) h) (xI .u8 (bp SS.P 9 (strOf l) (.int .i64 0)) λn1=>aF (((n1:Int)==48)) (aF (decide ((((l:LB).length:Int):Int)>1)) (Q (.bool false) h) (LL SS eS [1,1,0,1,0,0] (fk l 0) h (KK SS eS [1,1,0,1,0] [] (EE SS eS Q)))) (LL SS eS [1,1,0,1,0,0] (fk l 0) h (KK SS eS [1,1,0,1,0] [] (EE SS eS Q)))))):FW SS 194 [(strOf l)] h Q:=dM eS Tryz.func194 (au hx)
theorem qX(l:LB)  (Inv:Nat->Int->aa->Prop) (Q:VH) (step:∀(mz:Nat)(i:Int)(zz:Nat->Value)(h:aa),Inv mz i h->aF (decide ((i:Int)<((l:LB).length:Int))) (xI .u8 (bp SS.P 9 (strOf l) (.int .i64 i)) λn2=>aF (decide ((n2:Int)<48)) (Q (.bool false) h) (xI .u8 (bp SS.P 9 (strOf l) (.int .i64 i)) λn3=>aF (decide ((n3:Int)>57)) (Q (.bool false) h) (aH (iR (fk l) Inv) mz [(strOf l),(.int .i64 (wrap .i64 (i+1)))] h))) (Q (.bool true) h)) (mz:Nat) {i:Int} {h:aa} (hi:Inv mz i h):LL SS eS [1,1,0,1,0,0] (fk l i) h (KK SS eS [1,1,0,1,0] [] (EE SS eS Q)):=
 dK (fk l) Inv (λmz i zz h hi=>au (step mz i zz h hi)) mz hi
noncomputable def fQ:FD:=dJ Tryz.f200 [([1,1,0,1,0,0],[0,1,5])]
abbrev fR(a b:LB)(i:Int):LV:=[(strOf a),(strOf b),(.int .i64 i)]
theorem AV(a b:LB)(h:aa)(Q:VH)(hx:aF (((((a:LB).length:Int):Int) !=((b:LB).length:Int))) (aF (decide ((((a:LB).length:Int):Int)<((b:LB).length:Int))) (Q (.int .i64 (-1)) h) (Q (.int .i64 1) h)) (LL SS fQ [1,1,0,1,0,0] (fR a b 0) h (KK SS fQ [1,1,0,1,0] [] (EE SS fQ Q)))):FW SS 200 [(strOf a),(strOf b)] h Q:=dM fQ Tryz.func200 (au hx)
theorem oX(a b:LB)  (Inv:Nat->Int->aa->Prop) (Q:VH) (step:∀(mz:Nat)(i:Int)(zz:Nat->Value)(h:aa),Inv mz i h->aF (decide ((i:Int)<((a:LB).length:Int))) (xI .u8 (bp SS.P 9 (strOf a) (.int .i64 i)) λn1=>xI .u8 (bp SS.P 9 (strOf b) (.int .i64 i)) λn2=>aF (((n1:Int) !=n2)) (xI .u8 (bp SS.P 9 (strOf a) (.int .i64 i)) λn3=>xI .u8 (bp SS.P 9 (strOf b) (.int .i64 i)) λn4=>aF (decide ((n3:Int)<n4)) (Q (.int .i64 (-1)) (room (room h 7) 7)) (Q (.int .i64 1) (room (room h 7) 7))) (aH (iR (fR a b) Inv) mz [(strOf a),(strOf b),(.int .i64 (wrap .i64 (i+1)))] (room h 7))) (Q (.int .i64 0) h)) (mz:Nat) {i:Int} {h:aa} (hi:Inv mz i h):LL SS fQ [1,1,0,1,0,0] (fR a b i) h (KK SS fQ [1,1,0,1,0] [] (EE SS fQ Q)):=
 dK (fR a b) Inv (λmz i zz h hi=>au (step mz i zz h hi)) mz hi
noncomputable def Rj:FD:=dJ Tryz.f197 []
theorem Oo(a:OA)(n c:Nat)(i:Int)(h:aa)(Q:VH)(hx:aF (decide ((i:Int)<(n:Int))) (xP (af SS.P 32 (.slice a n c) (.int .i64 i)) λp1=>xI .i64 (ai SS.P 3 h (.pointer (some p1))) λn2=>Q (.int .i64 n2) h) (Q (.int .i64 0) h)):FW SS 197 [(.slice a n c),(.int .i64 i)] h Q:=dM Rj Tryz.func197 (au hx)
noncomputable def ia:FD:=dJ Tryz.f196 [([1,1,0,1,0,0],[0,3,4])]
abbrev jD(l:LB)(i:Int)(a:OA)(n c:Nat):LV:=[(strOf l),(.slice a n c),(.int .i64 i)]
theorem DT(l:LB)(h:aa)(Q:VH)(hx:LL SS ia [1,1,0,1,0,0] [(strOf l),nA,(.int .i64 (wrap .i64 (((l:LB).length:Int)-1)))] h (KK SS ia [1,1,0,1,0] [] (EE SS ia Q))):FW SS 196 [(strOf l)] h Q:=dM ia Tryz.func196 (au hx)
theorem pW(l:LB)  (Inv:Nat->Int->OA->Nat->Nat->aa->Prop) (Q:VH) (step:∀(mz:Nat)(i:Int)(a:OA)(n c:Nat)(zz:Nat->Value)(h:aa),Inv mz i a n c h->aF (decide ((i:Int)>=0)) (xI .u8 (bp SS.P 9 (strOf l) (.int .i64 i)) λn1=>xR (aI SS.P 32 1 [(0,(.int .i64 (wrap .i64 (wrap .u8 (n1-48)))))]) h λB2 n3 c4 g5=>xE (aO SS.P 32 32 (.slice a n c) (sA (h.next) n3 c4) g5) g5 λa6 n7 c8 u9 yT=>aH (Ei (jD l) Inv) mz [(strOf l),(.slice a6 n7 c8),(.int .i64 (wrap .i64 (i-1)))] yT) (Q (.slice a n c) h)) (mz:Nat) {i:Int} {a:OA} {n c:Nat} {h:aa} (hi:Inv mz i a n c h):LL SS ia [1,1,0,1,0,0] (jD l i a n c) h (KK SS ia [1,1,0,1,0] [] (EE SS ia Q)):=
 Gm (jD l) Inv (λmz i a n c zz h hi=>au (step mz i a n c zz h hi)) mz hi
theorem Ru:SS.P.underlying 9=some .string:=by kernel_rfl
theorem wC(l:List UInt8){h:aa}{i:Int}(h0:0<=i)(h1:i<l.length):bp SS.P 9 (strOf l) (.int .i64 i)=some (.int .u8 ((l.getD i.toNat 0).toNat:Nat)):=lC Ru l _ h0 h1
theorem MP{c:UInt8}(h1:¬(c.toNat:Int)<48)(h2:¬(c.toNat:Int)>57):bm c=true:=by
 unfold bm;simp;omega
theorem Dl{c:UInt8}(h:(c.toNat:Int)<48\/(c.toNat:Int)>57):bm c=false:=by
 unfold bm;simp;omega
theorem ri{l:List UInt8}{i:Nat}(hi:i<l.length)(h1:(l.take i).all bm=true)(h2:bm (l.getD i 0)=true):(l.take (i+1)).all bm=true:=by
 rw[List.take_succ_eq_append_getElem hi,all_append,h1];rw[gD,gE hi]at h2;simpa using h2
theorem qu{l:List UInt8}{i:Nat}(hi:i<l.length)(h2:bm (l.getD i 0)=false):l.all bm=false:=by
 rw[gD,gE hi]at h2;exact List.all_eq_false.2 ⟨l[i],getElem_mem hi,by simpa using h2⟩
theorem zV{l:List UInt8}(h:1000<l.length):Num.valid l=false:=by
 unfold Num.valid;rw[decide_eq_false (by omega:¬l.length<=1000)];simp
theorem zW{l:List UInt8}(h:1<l.length)(h0:l.getD 0 0=48):Num.valid l=false:=by
 unfold Num.valid
 cases l with
 |nil=>rfl
 |cons a l=>
  have h0:a=48:=h0;subst h0;rw[decide_eq_true h];simp
theorem qO{l:List UInt8}(h0:l≠[])(h1:l.length<=1000)(h2:1<l.length->l.getD 0 0≠48):Num.valid l=l.all bm:=by
 unfold Num.valid
 cases l with
 |nil=>exact absurd rfl h0
 |cons a l=>
  rw[decide_eq_true h1];by_cases h:1<(a::l).length
  ·have h3:a≠48:=h2 h;rw[decide_eq_true h];simp[h3]
  ·rw[decide_eq_false h];simp
theorem Cu{c:UInt8}:((c.toNat:Int)==48)=true↔c=48:=by
 rw[beq_iff_eq];refine⟨λh=>UInt8.toNat_inj.1 ?_,λh=>by rw[h];rfl⟩;have h48:(48:UInt8).toNat=48:=rfl;omega
theorem dm(l:List UInt8)(h:aa):FW SS 136 [strOf l] h (λv h'=>v = .bool (Num.valid l)/\h'=h):=by
 by_cases hlen:l.length<=1000
 case neg=>
  refine vO l h _ (ae (λh1=>?_) (λh1=>ae (λh2=>?_) (λh2=>?_)))
  ·obtain rfl:l=[]:=by simpa using h1
   exact⟨rfl,rfl⟩
  ·exact⟨by rw[zV (by omega)],rfl⟩
  ·have:=dF h2;omega
 have L:=λ(hv:Num.valid l=l.all bm)=>qV l (λmz i g=>0<=i/\i<=l.length/\mz=l.length-i.toNat/\(l.take i.toNat).all bm=true/\g=h) (λv h'=>v = .bool (Num.valid l)/\h'=h) (by
  intro mz i;intros;rename_i g hi;obtain⟨h1,h2,h3,h4,rfl⟩:=hi;refine ae (λh5=>?_) (λh5=>?_)
  ·have h5:=dT h5;have hin:i.toNat<l.length:=by omega
   refine⟨_,wC (h:=g) l h1 h5,ae (λh6=>?_) (λh6=>⟨_,wC (h:=g) l h1 h5,ae (λh7=>?_) (λh7=>?_)⟩)⟩
   ·exact⟨by rw[hv,qu hin (Dl (.inl (dT h6)))],rfl⟩
   ·exact⟨by rw[hv,qu hin (Dl (.inr (dT h7)))],rfl⟩
   ·have hw:wrap .i64 (i+1)=i+1:=aA (by omega) (by omega);refine cH (mz-1) (by omega) ?_;rw[hw];refine⟨by omega,by omega,by omega,?_,rfl⟩;rw[show(i+1).toNat=i.toNat+1 by omega];exact ri hin h4 (MP (dF h6) (dF h7))
  ·have h5:=dF h5;refine⟨?_,rfl⟩;rw[hv,<-h4,take_of_length_le (by omega)])
 refine vO l h _ (ae (λh1=>?_) (λh1=>ae (λh2=>?_) (λh2=>?_)))
 ·obtain rfl:l=[]:=by simpa using h1
  exact⟨rfl,rfl⟩
 ·have:=dT h2;omega
 ·have h1:l≠[]:=by simpa using h1
  have hpos:=length_pos_iff.2 h1;refine ae (λh3=>⟨_,wC (h:=h) l (by omega) (by omega),ae (λh4=>?_) (λh4=>?_)⟩) (λh3=>?_)
  ·exact⟨by rw[zW (by have:=dT h3;omega) (Cu.1 h4)],rfl⟩
  ·exact L (qO h1 hlen λ_ e=>by have h4:(((l.getD 0 0).toNat:Int)==48)=false:=h4;rw[Cu.2 e]at h4;cases h4) l.length ⟨by omega,by omega,by simp,by simp,rfl⟩
  ·exact L (qO h1 hlen λe=>by have:=dF h3;omega) l.length ⟨by omega,by omega,by simp,by simp,rfl⟩
theorem cU(l:List UInt8)(h:aa):FW SS 194 [strOf l] h (λv h'=>v = .bool (Num.valid l)/\h'=h):=by
 by_cases hlen:l.length<=1000
 case neg=>
  refine vV l h _ (ae (λh1=>?_) (λh1=>ae (λh2=>?_) (λh2=>?_)))
  ·have h1:=dT h1;omega
  ·exact⟨by rw[zV (by omega)],rfl⟩
  ·have:=dF h2;omega
 have L:=λ(hv:Num.valid l=l.all bm)=>qX l (λmz i g=>0<=i/\i<=l.length/\mz=l.length-i.toNat/\(l.take i.toNat).all bm=true/\g=h) (λv h'=>v = .bool (Num.valid l)/\h'=h) (by
  intro mz i;intros;rename_i g hi;obtain⟨h1,h2,h3,h4,rfl⟩:=hi;refine ae (λh5=>?_) (λh5=>?_)
  ·have h5:=dT h5;have hin:i.toNat<l.length:=by omega
   refine⟨_,wC (h:=g) l h1 h5,ae (λh6=>?_) (λh6=>⟨_,wC (h:=g) l h1 h5,ae (λh7=>?_) (λh7=>?_)⟩)⟩
   ·exact⟨by rw[hv,qu hin (Dl (.inl (dT h6)))],rfl⟩
   ·exact⟨by rw[hv,qu hin (Dl (.inr (dT h7)))],rfl⟩
   ·have hw:wrap .i64 (i+1)=i+1:=aA (by omega) (by omega);refine cH (mz-1) (by omega) ?_;rw[hw];refine⟨by omega,by omega,by omega,?_,rfl⟩;rw[show(i+1).toNat=i.toNat+1 by omega];exact ri hin h4 (MP (dF h6) (dF h7))
  ·have h5:=dF h5;refine⟨?_,rfl⟩;rw[hv,<-h4,take_of_length_le (by omega)])
 refine vV l h _ (ae (λh1=>?_) (λh1=>ae (λh2=>?_) (λh2=>?_)))
 ·have h1:=dT h1;obtain rfl:l=[]:=eq_nil_of_length_eq_zero (by omega);exact⟨rfl,rfl⟩
 ·have:=dT h2;omega
 ·have h1:=dF h1;have h1:l≠[]:=λe=>by subst e;simp at h1
  have hpos:=length_pos_iff.2 h1;refine⟨_,wC (h:=h) l (by omega) (by omega),ae (λh4=>ae (λh3=>?_) (λh3=>?_)) (λh4=>?_)⟩
  ·exact⟨by rw[zW (by have:=dT h3;omega) (Cu.1 h4)],rfl⟩
  ·exact L (qO h1 hlen λe=>by have:=dF h3;omega) l.length ⟨by omega,by omega,by simp,by simp,rfl⟩
  ·exact L (qO h1 hlen λ_ e=>by have h4:(((l.getD 0 0).toNat:Int)==48)=false:=h4;rw[Cu.2 e]at h4;cases h4) l.length ⟨by omega,by omega,by simp,by simp,rfl⟩
theorem H4{a b:Nat}(h:((a:Int) !=b)=true):a≠b:=by
 intro e;subst e;simp at h
theorem Hz{a b:Nat}(h:((a:Int) !=b)=false):a=b:=by
 by_cases e:a=b
 ·exact e
 ·exfalso;have:(a:Int)≠b:=by omega
  simp[this]at h
theorem m4(m n:Nat)(hm:(aj m).length<9223372036854775807)(hn:(aj n).length<9223372036854775807)(h:aa)(w:Wf h):FW SS 200 [strOf (aj m),strOf (aj n)] h (λv h'=>v = .int .i64 (dn m n)/\Ok h h'):=by
 have L:=λ(hl:(aj m).length=(aj n).length)=>oX (aj m) (aj n) (λmz i g=>0<=i/\i<=(aj m).length/\mz=(aj m).length-i.toNat/\(aj m).take i.toNat=(aj n).take i.toNat/\Ok h g) (λv h'=>v = .int .i64 (dn m n)/\Ok h h') (by
  intro mz i;intros;rename_i g hi;obtain⟨h1,h2,h3,h4,ok⟩:=hi;refine ae (λh5=>?_) (λh5=>?_)
  ·have h5:=dT h5;have hin:i.toNat<(aj m).length:=by omega
   have hin2:i.toNat<(aj n).length:=by omega
   have ga:(aj m)[i.toNat]?=some ((aj m).getD i.toNat 0):=by rw[gD,gE hin];rfl
   have gb:(aj n)[i.toNat]?=some ((aj n).getD i.toNat 0):=by rw[gD,gE hin2];rfl
   refine⟨_,wC (h:=g) _ h1 h5,_,wC (h:=g) _ h1 (by omega),ae (λh6=>?_) (λh6=>?_)⟩
   ·refine⟨_,wC (h:=g) _ h1 h5,_,wC (h:=g) _ h1 (by omega),ae (λh7=>?_) (λh7=>?_)⟩
    ·have h7:=dT h7;have:=lN (cj n) (cj m) hl h4 ga gb (UInt8.lt_iff_toNat_lt.2 (by omega));rw[bC,bC]at this;exact⟨by rw[ji this],(ok.room 7).room 7⟩
    ·have h7:=dF h7;have h6:=H4 h6;have:=lN (cj m) (cj n) hl.symm h4.symm gb ga (UInt8.lt_iff_toNat_lt.2 (by omega));rw[bC,bC]at this;exact⟨by rw[jh this],(ok.room 7).room 7⟩
   ·have h6:=Hz h6;have hw:wrap .i64 (i+1)=i+1:=aA (by omega) (by omega);refine cH (mz-1) (by omega) ?_;rw[hw];refine⟨by omega,by omega,by omega,?_,ok.room 7⟩;rw[show(i+1).toNat=i.toNat+1 by omega,List.take_add_one,List.take_add_one,h4,ga,gb,UInt8.toNat_inj.1 h6]
  ·have h5:=dF h5;rw[take_of_length_le (by omega),take_of_length_le (by omega)]at h4;exact⟨by rw[pk h4,m8],ok⟩)
 refine AV _ _ h _ (ae (λh1=>ae (λh2=>?_) (λh2=>?_)) (λh1=>?_))
 ·exact⟨by rw[ji (js (by have:=dT h2;omega))],Ok.refl w⟩
 ·have h1:=H4 h1;exact⟨by rw[jh (js (by have:=dF h2;omega))],Ok.refl w⟩
 ·have h1:=Hz h1;exact L h1 (aj m).length ⟨by omega,by omega,by simp,by simp,Ok.refl w⟩
def iv(d:Nat):Value:= .int .i64 (d:Int)
theorem ll:SS.P.underlying 32=some (.slice 3):=by kernel_rfl
theorem Pv:aB SS.P 3=some 1:=by kernel_rfl
theorem GS:SS.P.underlying 3=some (.int .i64):=by kernel_rfl
theorem GR:Go.Ab.isAgg SS.P 3=false:=by kernel_rfl
noncomputable def Yl:TypeInfo:=(eZ SS.P 3).getD default
theorem DF:eZ SS.P 3=some Yl:=by kernel_rfl
theorem tL:Yl.size=1:=by kernel_rfl
theorem vh:Yl.bytes=8:=by kernel_rfl
theorem pD(l:List Nat)(i:Nat)(h:i<l.length):(l.map iv).getD i undef = .int .i64 (l.getD i 0:Nat):=by
 simp[gD,List.getElem?_map,gE h,iv]
theorem pV{h:aa}{a:Option Addr}{n c:Nat}{l:List Nat}(r:Rd h 3 (.slice a n c) (l.map iv))(i:Nat):FW SS 197 [.slice a n c,.int .i64 (i:Int)] h (λv h'=>v = .int .i64 (l.getD i 0:Nat)/\h'=h):=by
 have hn:=r.len;rw[lM]at hn;refine Oo a n c i h _ (ae (λh1=>?_) (λh1=>?_))
 ·have h1:=dT h1;obtain⟨p,h2,h3⟩:=r.at_ ll Pv GS GR (k:= .i64) (i:=(i:Int)) (by omega) (by rw[lM];omega);rw[Int.toNat_natCast,pD l i (by omega)]at h3;exact⟨p,h2,_,h3,rfl,rfl⟩
 ·have h1:=dF h1;refine⟨?_,rfl⟩;rw[gD,getElem?_eq_none (by omega)];rfl
noncomputable def jW:FD:=dJ Tryz.f201 [([1,1,1,0,1,0,0],[0,1,5,6,7])]
abbrev fX(a:OA)(n c:Nat)(b:OA)(m d:Nat)(k cc:Nat)(r:OA)(rn rc:Nat):LV:=[(.slice a n c),(.slice b m d),(.slice r rn rc),(iA cc),(iA k)]
theorem Io(a:OA)(n c:Nat)(b:OA)(m d:Nat)(h:aa)(Q:VH)(hx:LL SS jW [1,1,1,0,1,0,0] (fX a n c b m d 0 0 none 0 0) h (KK SS jW [1,1,1,0,1,0] [] (EE SS jW Q))):FW SS 201 [(.slice a n c),(.slice b m d)] h Q:=dM jW Tryz.func201 (au hx)
theorem sv(a:OA)(n c:Nat)(b:OA)(m d:Nat)  (Inv:Nat->Nat->Nat->OA->Nat->Nat->aa->Prop) (Q:VH) (step:∀(mz:Nat)(k cc:Nat)(r:OA)(rn rc:Nat)(zz:Nat->Value)(h:aa),Inv mz k cc r rn rc h->aF (decide (((k:Int):Int)<(n:Int))) (FW SS 197 [(.slice a n c),(iA k)] h λv1 h2=>yI .i64 v1 λn3=>FW SS 197 [(.slice b m d),(iA k)] h2 λv4 h5=>yI .i64 v4 λn6=>aF (decide ((wrap .i64 (wrap .i64 (n3-n6)-(cc:Int)):Int)<0)) (xR (aI SS.P 32 1 [(0,(.int .i64 (wrap .i64 (wrap .i64 (wrap .i64 (n3-n6)-(cc:Int))+10))))]) h5 λB7 n8 c9 yT=>xE (aO SS.P 32 32 (.slice r rn rc) (sA (h5.next) n8 c9) yT) yT λa11 n12 cG Pt Ni=>aH (ui (fX a n c b m d) Inv) mz [(.slice a n c),(.slice b m d),(.slice a11 n12 cG),(.int .i64 1),(.int .i64 (wrap .i64 ((k:Int)+1)))] Ni) (xR (aI SS.P 32 1 [(0,(.int .i64 (wrap .i64 (wrap .i64 (n3-n6)-(cc:Int)))))]) h5 λB16 n17 c18 g19=>xE (aO SS.P 32 32 (.slice r rn rc) (sA (h5.next) n17 c18) g19) g19 λa20 n21 c22 u23 g24=>aH (ui (fX a n c b m d) Inv) mz [(.slice a n c),(.slice b m d),(.slice a20 n21 c22),(.int .i64 0),(.int .i64 (wrap .i64 ((k:Int)+1)))] g24)) (Q (.slice r rn rc) h)) (mz:Nat) {k cc:Nat} {r:OA} {rn rc:Nat} {h:aa} (hi:Inv mz k cc r rn rc h):LL SS jW [1,1,1,0,1,0,0] (fX a n c b m d k cc r rn rc) h (KK SS jW [1,1,1,0,1,0] [] (EE SS jW Q)):=
 zL (fX a n c b m d) Inv (λmz k cc r rn rc zz h hi=>au (step mz k cc r rn rc zz h hi)) mz hi
noncomputable def dj:FD:=dJ Tryz.f199 [([1,1,0,0,0],[0,3]),([1,1,1,1,0,1,0,0],[0,4,5])]
abbrev kH(a:OA)(n c:Nat)(z:Int):LV:=[(.slice a n c),(.int .i64 z)]
abbrev fY(a:OA)(n c:Nat)(i:Int)(r:OA)(rn rc:Nat):LV:=[(.slice a n c),(.slice r rn rc),(.int .i64 i)]
theorem Ip(a:OA)(n c:Nat)(h:aa)(Q:VH)(hx:LL SS dj [1,1,0,0,0] [(.slice a n c),(iA n)] h (KK SS dj [1,1,0,0] [] (EE SS dj Q))):FW SS 199 [(.slice a n c)] h Q:=dM dj Tryz.func199 (au hx)
theorem sw(a:OA)(n c:Nat)  (Inv:Nat->Int->aa->Prop) (Q:VH) (step:∀(mz:Nat)(z:Int)(zz:Nat->Value)(h:aa),Inv mz z h->aF (decide ((z:Int)>1)) (xP (af SS.P 32 (.slice a n c) (.int .i64 (wrap .i64 (z-1)))) λp1=>xI .i64 (ai SS.P 3 h (.pointer (some p1))) λn2=>aF (((n2:Int)==0)) (aH (iR (kH a n c) Inv) mz [(.slice a n c),(.int .i64 (wrap .i64 (z-1)))] h) (LL SS dj [1,1,1,1,0,1,0,0] (fY a n c (wrap .i64 (z-1)) none 0 0) h (KK SS dj [1,1,1,1,0,1,0] [] (EE SS dj Q)))) (LL SS dj [1,1,1,1,0,1,0,0] (fY a n c (wrap .i64 (z-1)) none 0 0) h (KK SS dj [1,1,1,1,0,1,0] [] (EE SS dj Q)))) (mz:Nat) {z:Int} {h:aa} (hi:Inv mz z h):LL SS dj [1,1,0,0,0] (kH a n c z) h (KK SS dj [1,1,0,0] [] (EE SS dj Q)):=
 dK (kH a n c) Inv (λmz z zz h hi=>au (step mz z zz h hi)) mz hi
theorem sy(a:OA)(n c:Nat)  (Inv:Nat->Int->OA->Nat->Nat->aa->Prop) (Q:VH) (step:∀(mz:Nat)(i:Int)(r:OA)(rn rc:Nat)(zz:Nat->Value)(h:aa),Inv mz i r rn rc h->aF (decide ((i:Int)>=0)) (xP (af SS.P 32 (.slice a n c) (.int .i64 i)) λp3=>xI .i64 (ai SS.P 3 h (.pointer (some p3))) λn4=>xR (aI SS.P 159 1 [(0,(.int .u8 (wrap .u8 (wrap .i64 (48+n4)))))]) h λB5 n6 c7 g8=>xE (aO SS.P 159 159 (.slice r rn rc) (sA (h.next) n6 c7) g8) g8 λa9 n10 bW RK Fm=>aH (Ei (fY a n c) Inv) mz [(.slice a n c),(.slice a9 n10 bW),(.int .i64 (wrap .i64 (i-1)))] Fm) (aF ((((rn:Int):Int)==0)) (Q (strOf [48]) h) (xS (w6 SS.P 159 9 (.slice r rn rc) h) λl14=>Q (strOf l14) h))) (mz:Nat) {i:Int} {r:OA} {rn rc:Nat} {h:aa} (hi:Inv mz i r rn rc h):LL SS dj [1,1,1,1,0,1,0,0] (fY a n c i r rn rc) h (KK SS dj [1,1,1,1,0,1,0] [] (EE SS dj Q)):=
 Gm (fY a n c) Inv (λmz i r rn rc zz h hi=>au (step mz i r rn rc zz h hi)) mz hi
theorem yj(z:Int):aI SS.P 32 1 [(0,.int .i64 z)]=some (.cells [.int .i64 z] 3 1 true,my 1 1):=by kernel_rfl
theorem RZ(z:Int):aI SS.P 159 1 [(0,.int .u8 z)]=some (.cells [.int .u8 z] 5 1 true,my 1 1):=by kernel_rfl
theorem vY:SS.P.underlying 159=some (.slice 5):=by kernel_rfl
theorem Zw:SS.P.underlying 5=some (.int .u8):=by kernel_rfl
theorem UR:aB SS.P 5=some 1:=by kernel_rfl
theorem Zx:Go.Ab.isAgg SS.P 5=false:=by kernel_rfl
noncomputable def Ym:TypeInfo:=(eZ SS.P 5).getD default
theorem Ug:eZ SS.P 5=some Ym:=by kernel_rfl
theorem Ol:Ym.size=1:=by kernel_rfl
theorem Li:Ym.bytes=1:=by kernel_rfl
theorem zS{h0 h:aa}(w0:Wf h0)(ok:Ok h0 h){v:Value}{vs:List Value}(o:cZ h0 h 3 v vs)(z:Int)(hl:vs.length<=100000):
  ∃(b:Option Addr)(n c:Nat)(u:cX),aO SS.P 32 32 v (.slice (some ⟨h.next,0,none⟩) 1 1) (h.push (.cells [.int .i64 z] 3 1 true))=some (.slice b n c,u)/\n=vs.length+1/\cZ h0 (u.app (h.push (.cells [.int .i64 z] 3 1 true))) 3 (.slice b n c) (vs++[.int .i64 z])/\Ok h0 (u.app (h.push (.cells [.int .i64 z] 3 1 true))):=
 cZ.snoc ll DF tL w0 ok o rfl (by rw[vh];omega) (by omega)
theorem JI{h0 h:aa}(w0:Wf h0)(ok:Ok h0 h){v:Value}{vs:List Value}(o:cZ h0 h 5 v vs)(z:Int)(hl:vs.length<=100000):
  ∃(b:Option Addr)(n c:Nat)(u:cX),aO SS.P 159 159 v (.slice (some ⟨h.next,0,none⟩) 1 1) (h.push (.cells [.int .u8 z] 5 1 true))=some (.slice b n c,u)/\n=vs.length+1/\cZ h0 (u.app (h.push (.cells [.int .u8 z] 5 1 true))) 5 (.slice b n c) (vs++[.int .u8 z])/\Ok h0 (u.app (h.push (.cells [.int .u8 z] 5 1 true))):=
 cZ.snoc vY Ug Ol w0 ok o rfl (by rw[Li];omega) (by omega)
theorem Kl(c:UInt8)(l:List UInt8):dS (c::l)=dS l++[gP c]:=by simp[dS]
theorem BC{l:List UInt8}{i:Nat}(h:i<l.length):l.drop i=l.getD i 0::l.drop (i+1):=by
 rw[gD,gE h,drop_eq_getElem_cons h];rfl
theorem yf{l:List UInt8}(hd:l.all bm=true){i:Nat}(h:i<l.length):bm (l.getD i 0)=true:=by
 rw[gD,gE h];exact all_eq_true.1 hd _ (getElem_mem h)
def gk(h:aa)(e:TypeId)(vs:List Value):VH:=λv h'=>∃a n c,v = .slice a n c/\cZ h h' e (.slice a n c) vs/\Ok h h'
theorem ob(l:List UInt8)(hd:l.all bm=true)(hlen:l.length<=100000)(h:aa)(w:Wf h):FW SS 196 [strOf l] h (gk h 3 ((dS l).map iv)):=by
 have L:=pW l (λmz i a n c g=> -1<=i/\i<l.length/\mz=(i+1).toNat/\cZ h g 3 (.slice a n c) ((dS (l.drop (i+1).toNat)).map iv)/\Ok h g) (gk h 3 ((dS l).map iv)) (by
  intro mz i a n c;intros;rename_i g hi;obtain⟨h1,h2,h3,h4,ok⟩:=hi;refine ae (λh5=>?_) (λh5=>?_)
  ·have h5:=dT h5;have hin:i.toNat<l.length:=by omega
   have hdig:=yf hd hin;have hdr:=jj.1 hdig;refine⟨_,wC (h:=g) l h5 h2,_,_,_,yj _,?_⟩;obtain⟨b,m,d,u,h6,h7,h8,h9⟩:=zS w ok h4 (wrap .i64 (wrap .u8 ((((l.getD i.toNat 0).toNat:Nat):Int)-48))) (by simp[dS];omega);refine⟨b,m,d,u,h6,?_⟩;have hw:wrap .i64 (i-1)=i-1:=aA (by omega) (by omega);refine BL (mz-1) (by omega) ?_;rw[hw];refine⟨by omega,by omega,by omega,?_,h9⟩;have e1:wrap .i64 (wrap .u8 ((((l.getD i.toNat 0).toNat:Nat):Int)-48))=((gP (l.getD i.toNat 0):Nat):Int):=by
    rw[oE (by omega) (by omega),aA (by omega) (by omega)];unfold gP;omega
   rw[e1]at h8;have e2:(i-1+1).toNat=i.toNat:=by omega
   have e3:(i+1).toNat=i.toNat+1:=by omega
   rw[e3]at h8;rw[e1,e2,BC hin,Kl,map_append];exact h8
  ·have h5:=dF h5;obtain rfl:i = -1:=by omega
   exact⟨a,n,c,rfl,h4,ok⟩)
 have hw:wrap .i64 ((l.length:Int)-1)=(l.length:Int)-1:=aA (by omega) (by omega);refine DT l h _ ?_;refine L l.length ⟨by rw[hw];omega,by rw[hw];omega,by rw[hw];omega,?_,Ok.refl w⟩;rw[hw,show((l.length:Int)-1+1).toNat=l.length by omega,List.drop_length];exact .inl ⟨rfl,rfl⟩
theorem zG{h:aa}{a b:Option Addr}{n c m d:Nat}{x y:List Nat}(ra:Rd h 3 (.slice a n c) (x.map iv))(rb:Rd h 3 (.slice b m d) (y.map iv))(hx:∀d∈x,d<10)(hy:∀d∈y,d<10)(hlen:x.length<=100000)(w:Wf h):
  FW SS 201 [.slice a n c,.slice b m d] h (gk h 3 ((aL dE x y 0 x.length 0).map iv)):=by
 have hn:n=x.length:=by have:=ra.len;rwa[lM]at this
 have hc1:∀k,dq dE x y 0 0 k<=1:=I2 (λp q c _=>by unfold dE;split<;>simp) x y 0 0 (by omega);have L:=sv a n c b m d (λmz k cc r rn rc g=>k<=x.length/\mz=x.length-k/\cc=dq dE x y 0 0 k/\cZ h g 3 (.slice r rn rc) ((aL dE x y 0 k 0).map iv)/\Ok h g) (gk h 3 ((aL dE x y 0 x.length 0).map iv)) (by
  intro mz k cc r rn rc;intros;rename_i g hi;obtain⟨h1,h2,h3,h4,ok⟩:=hi;have hcc:=hc1 k;have hp:=aG (by omega) hx k;have hq:=aG (by omega) hy k;refine ae (λh5=>?_) (λh5=>?_)
  ·have h5:=dT h5;refine(pV (ra.ok ok) k).mono ?_;rintro _ _ ⟨rfl,rfl⟩;refine⟨_,rfl,(pV (rb.ok ok) k).mono ?_⟩;rintro _ _ ⟨rfl,rfl⟩;refine⟨_,rfl,?_⟩;have hw1:wrap .i64 (((x.getD k 0:Nat):Int)-((y.getD k 0:Nat):Int))=((x.getD k 0:Nat):Int)-((y.getD k 0:Nat):Int):=aA (by omega) (by omega);have hw2:wrap .i64 (((x.getD k 0:Nat):Int)-((y.getD k 0:Nat):Int)-(cc:Int))=((x.getD k 0:Nat):Int)-((y.getD k 0:Nat):Int)-(cc:Int):=aA (by omega) (by omega);have hw3:wrap .i64 ((k:Int)+1)=((k+1:Nat):Int):=by rw[aA (by omega) (by omega)];omega
   dsimp only;rw[hw1,hw2,hw3];have hel:(aL dE x y 0 k 0).length=k:=dx _ _ _ _ _ _;have hsn:=fD dE x y k 0 0;have hcr:dq dE x y 0 0 (k+1)=(dE (x.getD (0+k) 0) (y.getD (0+k) 0) (dq dE x y 0 0 k)).2:=rfl;rw[zero_add,<-h3]at hsn hcr;refine ae (λh6=>?_) (λh6=>?_)
   ·have h6:=dT h6;refine⟨_,_,_,yj _,?_⟩;obtain⟨b',m',d',u,g6,g7,g8,g9⟩:=zS w ok h4 (wrap .i64 (((x.getD k 0:Nat):Int)-((y.getD k 0:Nat):Int)-(cc:Int)+10)) (by rw[lM,hel];omega);refine⟨b',m',d',u,g6,?_⟩;have e1:dE (x.getD k 0) (y.getD k 0) cc=(x.getD k 0+10-y.getD k 0-cc,1):=by unfold dE;rw[if_pos (by omega)]
    refine jw (b:=1) (mz-1) (by omega) ⟨by omega,by omega,by rw[hcr,e1],?_,g9⟩;rw[hsn,e1,map_append];have e2:wrap .i64 (((x.getD k 0:Nat):Int)-((y.getD k 0:Nat):Int)-(cc:Int)+10)=((x.getD k 0+10-y.getD k 0-cc:Nat):Int):=by rw[aA (by omega) (by omega)];omega
    rw[e2]at g8⊢;exact g8
   ·have h6:=dF h6;refine⟨_,_,_,yj _,?_⟩;obtain⟨b',m',d',u,g6,g7,g8,g9⟩:=zS w ok h4 (((x.getD k 0:Nat):Int)-((y.getD k 0:Nat):Int)-(cc:Int)) (by rw[lM,hel];omega);refine⟨b',m',d',u,g6,?_⟩;have e1:dE (x.getD k 0) (y.getD k 0) cc=(x.getD k 0-y.getD k 0-cc,0):=by unfold dE;rw[if_neg (by omega)]
    refine jw (b:=0) (mz-1) (by omega) ⟨by omega,by omega,by rw[hcr,e1],?_,g9⟩;rw[hsn,e1,map_append];have e2:((x.getD k 0:Nat):Int)-((y.getD k 0:Nat):Int)-(cc:Int)=((x.getD k 0-y.getD k 0-cc:Nat):Int):=by omega
    rw[e2]at g8⊢;exact g8
  ·have h5:=dF h5;obtain rfl:k=x.length:=by omega
   exact⟨r,rn,rc,rfl,h4,ok⟩)
 exact Io a n c b m d h _ (L x.length (k:=0) (cc:=0) ⟨by omega,by omega,rfl,.inl ⟨rfl,rfl⟩,Ok.refl w⟩)
theorem JJ{h:aa}{v:Value}{l:List UInt8}(r:Rd h 5 v (l.map oT)):w6 SS.P 159 9 v h=some (strOf l):=Rv vY Ru Zw r
theorem AZ{x:List Nat}{z i:Nat}(hi:i<z)(hz:z<=x.length):((x.take z).drop i).reverse=((x.take z).drop (i+1)).reverse++[x.getD i 0]:=by
 have hl:i<(x.take z).length:=by rw[length_take];omega
 rw[drop_eq_getElem_cons hl,List.reverse_cons,List.getElem_take,gD,gE (by omega)];rfl
theorem oc{h:aa}{a:Option Addr}{n c:Nat}{x:List Nat}(ra:Rd h 3 (.slice a n c) (x.map iv))(hx:∀d∈x,d<10)(hlen:x.length<=100000)(w:Wf h):
  FW SS 199 [.slice a n c] h (λv h'=>v=strOf (aj (Num.bv 10 x))/\Ok h h'):=by
 have hn:n=x.length:=by have:=ra.len;rwa[lM]at this
 have L2:=λ(zN:Nat) (hz:zN<=x.length) (hz1:0<x.length->0<zN) (hf:0<x.length->po (x.take zN)=aj (Num.bv 10 x))=>sy a n c (λmz i r rn rc g=> -1<=i/\i<(zN:Int)/\mz=(i+1).toNat/\cZ h g 5 (.slice r rn rc) ((((x.take zN).drop (i+1).toNat).reverse.map dP).map oT)/\Ok h g) (λv h'=>v=strOf (aj (Num.bv 10 x))/\Ok h h') (by
  intro mz i r rn rc;intros;rename_i g hi;obtain⟨h1,h2,h3,h4,ok⟩:=hi;refine ae (λh5=>?_) (λh5=>?_)
  ·have h5:=dT h5;obtain⟨p,g2,g3⟩:=(ra.ok ok).at_ ll Pv GS GR (k:= .i64) (i:=i) h5 (by rw[lM];omega);rw[pD x i.toNat (by omega)]at g3;refine⟨p,g2,_,g3,_,_,_,RZ _,?_⟩;have hd:=aG (by omega) hx i.toNat;obtain⟨b,m,d,u,g6,g7,g8,g9⟩:=JI w ok h4 (wrap .u8 (wrap .i64 (48+((x.getD i.toNat 0:Nat):Int)))) (by simp;omega);refine⟨b,m,d,u,g6,?_⟩;have hw:wrap .i64 (i-1)=i-1:=aA (by omega) (by omega);refine BL (mz-1) (by omega) ?_;rw[hw];refine⟨by omega,by omega,by omega,?_,g9⟩;rw[show(i-1+1).toNat=i.toNat by omega,AZ (by omega) hz,map_append,map_append];rw[show(i+1).toNat=i.toNat+1 by omega]at g8;have e1:oT (dP (x.getD i.toNat 0)) = .int .u8 (wrap .u8 (wrap .i64 (48+((x.getD i.toNat 0:Nat):Int)))):=by
    unfold oT;rw[gT hd,aA (by omega) (by omega),oE (by omega) (by omega)]
    first|rfl|(congr 1;omega)
   show cZ h _ 5 _ (_++[oT (dP (x.getD i.toNat 0))]);rw[e1];exact g8
  ·have h5:=dF h5;obtain rfl:i = -1:=by omega
   have e0:((-1:Int)+1).toNat=0:=rfl;rw[e0,drop_zero]at h4;have hrn:=h4.len;simp only[lM,List.length_reverse,length_take]at hrn;refine ae (λh6=>?_) (λh6=>?_)
   ·have h6:(rn:Int)=0:=by simpa using h6
    have hx0:x=[]:=by
     rcases eq_zero_or_pos x.length with e|e
     ·exact eq_nil_of_length_eq_zero e
     ·have:=hz1 e;omega
    subst hx0;exact⟨by rw[show Num.bv 10 []=0 from rfl,kN],ok⟩
   ·have h6:¬(rn:Int)=0:=by simpa using h6
    have hx0:0<x.length:=by omega
    have:=JJ h4.rd;rw[show((x.take zN).reverse.map dP)=po (x.take zN)from rfl,hf hx0]at this;exact⟨_,this,rfl,ok⟩)
 have start2:∀(zN:Nat),cZ h h 5 (.slice none 0 0) ((((x.take zN).drop ((zN:Int)-1+1).toNat).reverse.map dP).map oT):=λzN=>by
  rw[show((zN:Int)-1+1).toNat=zN by omega,List.drop_of_length_le (by rw[length_take];omega)];exact .inl ⟨rfl,rfl⟩
 have L1:=sw a n c (λmz z g=>0<=z/\z<=x.length/\mz=z.toNat/\(0<x.length->0<z)/\(∀j:Nat,z<=j->x.getD j 0=0)/\g=h) (λv h'=>v=strOf (aj (Num.bv 10 x))/\Ok h h') (by
  intro mz z;intros;rename_i g hi;obtain⟨h1,h2,h3,h4,h5,rfl⟩:=hi;obtain⟨zN,rfl⟩:∃zN:Nat,z=zN:=⟨z.toNat,by omega⟩
  have hw:wrap .i64 ((zN:Int)-1)=(zN:Int)-1:=aA (by omega) (by omega);have leave:(1<zN->x.getD (zN-1) 0≠0)->0<x.length->po (x.take zN)=aj (Num.bv 10 x):=λhl hp=>by
   rw[<-xK (l:=x) (n:=zN) (λj hj=>h5 j (by omega))];refine JU (λd hd=>hx d (mem_of_mem_take hd)) (λe=>?_) (λh7=>?_)
   ·have:=congrArg List.length e;rw[length_take]at this;have h9:min zN x.length=0:=this;have:=h4 hp;omega
   ·rw[length_take]at h7;have h8:=hl (by omega);rw[List.getLast?_eq_getElem?,length_take,getElem?_take,if_pos (by omega)];rw[gD,gE (by omega)]at h8;rw[show min zN x.length-1=zN-1 by omega,gE (by omega)];simpa using h8
  refine ae (λh6=>?_) (λh6=>?_)
  ·have h6:=dT h6;rw[hw];obtain⟨p,g2,g3⟩:=ra.at_ ll Pv GS GR (k:= .i64) (i:=(zN:Int)-1) (by omega) (by rw[lM];omega);rw[pD x _ (by omega),show((zN:Int)-1).toNat=zN-1 by omega]at g3;refine⟨p,g2,_,g3,ae (λh7=>?_) (λh7=>?_)⟩
   ·have h7:((x.getD (zN-1) 0:Nat):Int)=0:=by simpa using h7
    refine cH (mz-1) (by omega) ⟨by omega,by omega,by omega,λ_=>by omega,λj hj=>?_,rfl⟩;rcases lt_or_ge j zN with h8|h8
    ·obtain rfl:j=zN-1:=by omega
     omega
    ·exact h5 j (by omega)
   ·have h7:¬((x.getD (zN-1) 0:Nat):Int)=0:=by simpa using h7
    exact L2 zN (by omega) (λhp=>by have:=h4 hp;omega) (leave λ_=>by omega) zN ⟨by omega,by omega,by omega,start2 zN,Ok.refl w⟩
  ·have h6:=dF h6;rw[hw];exact L2 zN (by omega) (λhp=>by have:=h4 hp;omega) (leave λhh=>by omega) zN ⟨by omega,by omega,by omega,start2 zN,Ok.refl w⟩)
 refine Ip a n c h _ (L1 n (z:=(n:Int)) ⟨by omega,by omega,by omega,λhp=>by omega,λj hj=>?_,rfl⟩);rw[gD,getElem?_eq_none (by omega)];rfl
end Go.Proofs.YtaheifbogkjpdaaGreatDoor
end
