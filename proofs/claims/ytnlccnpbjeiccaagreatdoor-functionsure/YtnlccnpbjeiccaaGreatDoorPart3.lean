/- Laws and walks that the proof leans on (part 3): AbVc; AbLib; AbCut; AbLib2; AbLib3; AbRow and others. No condition. -/
import Derived.Test.YtnlccnpbjeiccaaGreatDoorPart2
import Derived.Laws.Bits64
import Derived.Test.YtnlccnpbjeiccaaGreatDoorPart1
import Derived.Shelf.SortM.Plain
import Derived.Shelf.SortM.SortNone
import Derived.ChangeArms
import Derived.DataElems
import Derived.Below
import Derived.ChangeSame
import Derived.Test.YtnlccnpbjeiccaaGreatDoorProg
set_option linter.unusedVariables false
set_option linter.unusedSimpArgs false
set_option maxRecDepth 100000
open List (all_append all_cons all_eq_true all_nil append_assoc append_nil cons_append drop_drop drop_eq_nil_of_le drop_take drop_zero eq_nil_of_length_eq_zero filterMap_cons flatten_append flatten_cons getElem?_drop getElem?_eq_none getElem?_of_mem getElem?_take getElem_mem length_append length_cons length_pos_iff length_replicate length_take mem_append mem_cons mem_cons_of_mem mem_cons_self mem_map mem_of_mem_take mem_range mem_singleton nil_append nodup_append take_length take_of_length_le)
open Nat (add_comm add_mul add_zero blt_eq div_eq_of_lt div_lt_of_lt_mul div_lt_self eq_zero_or_pos le_add_right le_succ lt_of_lt_of_le lt_or_ge min_eq_left mod_add_div mod_eq_of_lt mod_lt mul_add mul_assoc mul_comm mul_le_mul mul_le_mul_left mul_le_mul_right mul_one mul_succ mul_zero one_mul pow_le_pow_right pow_succ succ_le_of_lt succ_mul zero_add zero_mul)
open Option (map_some)
open Bool (and_eq_true)
open Go.IntKind (wrap)
section
namespace Go.Ab
open Go
variable{b:Bool}{P:Program}{h:aa}{X:Sx}{T:TypeId}{v:Value}{c:List Value}{E:Fr}{n:Nat}{x:List Nat}{Q:VH}{j:Nat}{y:List Nat}{A:Type}{B:Type}{w:Value}
noncomputable section
def aS(b:Bool)(A B:Prop):Prop:=Bool.rec (motive:=λ_=>Prop) B A b
theorem ah{A B:Prop}(a:b=true->A)(c:b=false->B):aS b A B:=by
 cases b with
 |true=>exact a rfl
 |false=>exact c rfl
theorem wy{A B:Prop}(h:aS b A B):(b=true/\A)\/(b=false/\B):=by
 cases b with
 |true=>exact .inl ⟨rfl,h⟩
 |false=>exact .inr ⟨rfl,h⟩
abbrev TS:=List Value
abbrev eO:=Exit->TS->aa->Prop
abbrev TH:=TS->aa->Prop
def fr(a:TS):Fr:=λt=>a.getD t undef
def NJ(P:Program)(t:TypeId)(K:Value->Prop):Prop:=match P.underlying t with
 |some (.int k)=>∃n:Int,K (.int k n)
 |some .bool=>∃b:Bool,K (.bool b)
 |some .string=>∃l:List UInt8,K (strOf l)
 |some (.slice _)=>∃(a:Option Addr)(n c:Nat),K (.slice a n c)
 |some (.pointer _)=>∃a:Option Addr,K (.pointer a)
 |some (.struct _)=>∃cs:List Value,K (.agg ⟨cs⟩)
 |some (.array ..)=>∃cs:List Value,K (.agg ⟨cs⟩)
 |some (.func ..)=>∃(g:Nat)(a c:List Value),K (.func (.func g) ⟨a⟩ ⟨c⟩)
 |_=>∃v:Value,K v
def ab9(P:Program):List TypeId->(List Value->Prop)->Prop
 |[],K=>K []
 |t::b,K=>NJ P t λx=>ab9 P b λa=>K (x::a)
def Iv(P:Program)(t:TypeId)(K:Value->Prop):Prop:=match P.underlying t with
 |some (.tuple b)=>ab9 P b.toList λa=>K (.tuple ⟨a⟩)
 |_=>NJ P t K
theorem Bg{t:TypeId}{K:Value->Prop}(a:NJ P t K):∃v,K v:=by grind[NJ]
theorem E0{P:Program}:∀{b:List TypeId}{K:List Value->Prop},ab9 P b K->∃c,K c
 |[],_,a=>⟨_,a⟩
 |t::b,K,a=>by
  obtain⟨x,h⟩:=Bg a;obtain⟨d,h⟩:=E0 h
  grind
theorem pg{t:TypeId}{K:Value->Prop}(a:Iv P t K):∃v,K v:=by
 unfold Iv at a;split at a
 ·obtain⟨_,h⟩:=E0 a;grind
 ·exact Bg a
def Iw(P:Program)(t:TypeId)(r:Option Value)(h:aa)(K:VH):Prop:=Iv P t λx=>r=some x/\K x h
def exP(r:Option Value)(h:aa)(K:VH):Prop:=∃a:Addr,r=some (.pointer (some a))/\K (.pointer (some a)) h
def exU(r:Option (Value×bp))(h:aa)(K:VH):Prop:=∃v u,r=some (v,u)/\K v (u.app h)
def exW(r:Option (Value×bp))(h:aa)(K:VH):Prop:=∃u,r=some (undef,u)/\K undef (u.app h)
def exS(r:Option (Value×bp))(h:aa)(K:VH):Prop:=∃(a:Option Addr)(n c:Nat)(u:bp),r=some (.slice a n c,u)/\K (.slice a n c) (u.app h)
def exC(r:Option (Value×bp))(h:aa)(K:VH):Prop:=∃(n:Int)(u:bp),r=some (.int .i64 n,u)/\K (.int .i64 n) (u.app h)
def dR(k:Nat):Value:= .pointer (some ⟨k,0,none⟩)
def jE(n c k:Nat):Value:= .slice (some ⟨k,0,none⟩) n c
abbrev OA:Type:=Option Addr
abbrev LV:Type:=List Value
abbrev LB:Type:=List UInt8
abbrev uN(l:List Value)(k:Nat):List Value:=l++List.replicate k undef
abbrev pA(k:Nat):Value:= .pointer (some ⟨k,0,none⟩)
abbrev sA(k n c:Nat):Value:= .slice (some ⟨k,0,none⟩) n c
abbrev nA:Value:= .slice none 0 0
abbrev iA(n:Nat):Value:= .int .i64 (n:Int)
abbrev xI(k:IntKind)(r:Option Value)(K:Int->Prop):Prop:=∃n:Int,r=some (.int k n)/\K n
abbrev xB(r:Option Value)(K:Bool->Prop):Prop:=∃b:Bool,r=some (.bool b)/\K b
abbrev xS(r:Option Value)(K:List UInt8->Prop):Prop:=∃l:List UInt8,r=some (strOf l)/\K l
abbrev xL(r:Option Value)(K:Option Addr->Nat->Nat->Prop):Prop:=∃(a:Option Addr)(n c:Nat),r=some (.slice a n c)/\K a n c
abbrev xO(r:Option Value)(K:Option Addr->Prop):Prop:=∃a:Option Addr,r=some (.pointer a)/\K a
abbrev xP(r:Option Value)(K:Addr->Prop):Prop:=∃a:Addr,r=some (.pointer (some a))/\K a
abbrev xA(r:Option Value)(K:List Value->Prop):Prop:=∃cs:List Value,r=some (.agg ⟨cs⟩)/\K cs
abbrev xF(r:Option Value)(K:Nat->List Value->List Value->Prop):Prop:=∃(g:Nat)(a c:List Value),r=some (.func (.func g) ⟨a⟩ ⟨c⟩)/\K g a c
abbrev xV(r:Option Value)(K:Value->Prop):Prop:=∃v:Value,r=some v/\K v
abbrev yI(k:IntKind)(r:Value)(K:Int->Prop):Prop:=∃n:Int,r = .int k n/\K n
abbrev yB(r:Value)(K:Bool->Prop):Prop:=∃b:Bool,r = .bool b/\K b
abbrev yS(r:Value)(K:List UInt8->Prop):Prop:=∃l:List UInt8,r=strOf l/\K l
abbrev yL(r:Value)(K:Option Addr->Nat->Nat->Prop):Prop:=∃(a:Option Addr)(n c:Nat),r = .slice a n c/\K a n c
abbrev yA(r:Value)(K:List Value->Prop):Prop:=∃cs:List Value,r = .agg ⟨cs⟩/\K cs
abbrev yV(r:Value)(K:Value->Prop):Prop:=∃v:Value,r=v/\K v
abbrev xU(r:Option (Value×bp))(h:aa)(K:bp->aa->Prop):Prop:=∃u:bp,r=some (undef,u)/\K u (u.app h)
abbrev xE(r:Option (Value×bp))(h:aa)(K:Option Addr->Nat->Nat->bp->aa->Prop):Prop:=∃(a:Option Addr)(n c:Nat)(u:bp),r=some (.slice a n c,u)/\K a n c u (u.app h)
abbrev xC(r:Option (Value×bp))(h:aa)(K:Int->bp->aa->Prop):Prop:=∃(n:Int)(u:bp),r=some (.int .i64 n,u)/\K n u (u.app h)
abbrev xG(r:Option (Value×bp))(h:aa)(K:Value->bp->aa->Prop):Prop:=∃(v:Value)(u:bp),r=some (v,u)/\K v u (u.app h)
abbrev xN(r:Option (bu×(Nat->Value)))(h:aa)(K:bu->aa->Prop):Prop:=∃B:bu,r=some (B,dR)/\K B (h.push B)
abbrev xR(r:Option (bu×(Nat->Value)))(h:aa)(K:bu->Nat->Nat->aa->Prop):Prop:=∃(B:bu)(n c:Nat),r=some (B,jE n c)/\K B n c (h.push B)
abbrev zN(r:Option (bu×(Nat->Value)))(K:bu->Prop):Prop:=∃B:bu,r=some (B,dR)/\K B
abbrev zR(r:Option (bu×(Nat->Value)))(K:bu->Nat->Nat->Prop):Prop:=∃(B:bu)(n c:Nat),r=some (B,jE n c)/\K B n c
abbrev abn(h:aa)(K:aa->Prop):Prop:=K h
def exA(r:Option (bu×(Nat->Value)))(h:aa)(K:VH):Prop:=∃B,r=some (B,dR)/\K (dR h.next) (h.push B)
def exR(r:Option (bu×(Nat->Value)))(h:aa)(K:VH):Prop:=∃B n c,r=some (B,jE n c)/\K (jE n c h.next) (h.push B)
def exM(r:Option (bu×(Nat->Value)))(h:aa)(K:VH):Prop:=∃B,r=some (B,λk=> .map (some k))/\K (.map (some h.next)) (h.push B)
def aA(P:Program)(t:TypeId):Option (bu×(Nat->Value)):=aT P (λ_=>undef) ⟨none,.alloc t,0,"",#[],none⟩
def dp(P:Program)(t:TypeId)(v:Value):Option (bu×(Nat->Value)):=aT P (λ_=>v) ⟨none,.box t (.tmp 0),0,"",#[],none⟩
def aX(P:Program)(t:TypeId)(l c:Value):Option (bu×(Nat->Value)):=aT P (λx=>match x with|.tmp 0=>l|_=>c) ⟨none,.makeSlice t (.tmp 0) (.tmp 1),0,"",#[],none⟩
def az(P:Program)(t:TypeId)(b:Nat)(a:List (Nat×Value)):Option (bu×(Nat->Value)):=
 aT P (λx=>match x with|.tmp i=>(a.getD i (0,undef)).2|_=>undef) ⟨none,.buildSlice t b ((List.range a.length).map λi=>((a.getD i (0,undef)).1,.tmp i)).toArray,0,"",#[],none⟩
def Uy(c a b:Value)(h:aa)(K:VH):Prop:=match c with
 |.bool t=>aS t (K a h) (K b h)
 |_=>False
def aaW(P:Program)(b:BinOp)(t a:TypeId)(x y:Value)(h:aa)(K:VH):Prop:=match b with
 |.quo|.rem|.shl|.shr=>Iw P a (ax P b t x y) h K
 |.add=>(match x with|.string _=>Iw P a (ax P .add t x y) h K|_=>sj (ax P .add t x y) h K)
 |.eql=>(match x with|.pointer _=>Iw P a (ax P .eql t x y) h K|.agg _=>Iw P a (ax P .eql t x y) h K|_=>sj (ax P .eql t x y) h K)
 |.neq=>(match x with|.pointer _=>Iw P a (ax P .neq t x y) h K|.agg _=>Iw P a (ax P .neq t x y) h K|_=>sj (ax P .neq t x y) h K)
 |b=>sj (ax P b t x y) h K
def SA(S:Sx)(c:TypeId)(f:Value)(b:List Value)(h:aa)(K:VH):Prop:=match f with
 |.func (.func g) first a=>aS (Nat.blt g YB) (FW S g (first.toList++b++a.toList) h λv h=>Iv S.P c λx=>v=x/\K x h) False
 |.func (.yield k) ⟨[]⟩ ⟨[]⟩=>FW S (YB+k) b h λv h=>Iv S.P c λx=>v=x/\K x h
 |_=>False
def Vz(P:Program)(s d:TypeId)(x:Value)(h:aa):Option Value:=bj P (λ_=>x) ⟨none,.convert s d (.tmp 0),0,"",#[],none⟩ h
def aeL(t:Option TypeDesc):Bool:=match t with
 |some .unsafePointer=>true
 |_=>false
def gH(P:Program)(t:TypeId)(m k x:Value)(h:aa):Option (Value×bp):=match P.underlying t,m with
  |some (.map b _),.map (some r)=>match h.get r with
   |some (.map c)=>if kW P b k then(jv P b k x c).map λa=>(undef,.set r (.map a))else none
   |_=>none
  |_,_=>none
def jF(P:Program)(t:TypeId)(m k:Value)(a:Bool)(h:aa):Option Value:=bj P (λx=>match x with|.tmp 0=>m|_=>k) ⟨none,.lookup t (.tmp 0) (.tmp 1) a,0,"",#[],none⟩ h
def oC(P:Program)(t:TypeId):Option (bu×(Nat->Value)):=aT P (λ_=>undef) ⟨none,.makeMap t none,0,"",#[],none⟩
def opQ(S:Sx)(ρ:Operand->Value)(o:Oper)(h:aa)(K:VH):Prop:=match o.op with
 |.move x|.assign x=>K (ρ x) h
 |.pick c a b=>Uy (ρ c) (ρ a) (ρ b) h K
 |.binOp g t x y _=>aaW S.P g t o.type (ρ x) (ρ y) h K
 |.unOp g _ x=>sj (E2 g (ρ x)) h K
 |.extract x i=>sj (aai (ρ x) i) h K
 |.index t x i=>Iw S.P o.type (bH S.P t (ρ x) (ρ i)) h K
 |.indexAddr t x i=>exP (ai S.P t (ρ x) (ρ i)) h K
 |.fieldAddr t x f=>exP (af S.P t (ρ x) f) h K
 |.field t x f=>Iw S.P o.type (Tg S.P t (ρ x) f) h K
 |.load t a=>Iw S.P t (ae S.P t h (ρ a)) h K
 |.slice t x q n j=>Iw S.P o.type (bE S.P t (ρ x) (q.map ρ) (n.map ρ) (j.map ρ) h) h K
 |.store t a x=>exW (aj S.P t (ρ a) (ρ x) h) h K
 |.alloc t=>exA (aA S.P t) h K
 |.box t x=>exA (dp S.P t (ρ x)) h K
 |.makeSlice t l c=>exR (aX S.P t (ρ l) (ρ c)) h K
 |.buildSlice .. =>exR (aT S.P ρ o) h K
 |.makeMap t r=>exM (match r with|none=>oC S.P t|some _=>aT S.P ρ o) h K
 |.mapUpdate t m k x=>exW (gH S.P t (ρ m) (ρ k) (ρ x) h) h K
 |.insert t m k x=>exW (gH S.P t (ρ m) (ρ k) (ρ x) h) h K
 |.lookup t m k u=>Iw S.P o.type (jF S.P t (ρ m) (ρ k) u h) h K
 |.convert s d x=>(match aeL (S.P.underlying s)with|true=>exU (bm S.P fb ρ o h) h K|false=>(match ρ x with|.int _ _=>sj (eP S.P s d (ρ x)) h K|.slice _ _ _=>Iw S.P o.type (Vz S.P s d (ρ x) h) h K|_=>exU (bm S.P fb ρ o h) h K))
 |.build t e=>Iw S.P o.type (aD S.P t (e.toList.map λp=>(p.1,ρ p.2))) h K
 |.makeFunc ..|.makeInterface ..|.nilCheck ..|.typeAssert .. =>sj (ba S.P ρ o) h K
 |.panic .. =>False
 |.call { callee:= .value f,args,.. }=>SA S o.type (ρ f) (args.toList.map ρ) h K
 |.call { callee:= .builtin .len,args,argTypes }=>(match args.toList,argTypes.toList with|[x],[t]=>(match ρ x with|.map _=>Iw S.P o.type (TK S.P t (ρ x) h) h K|_=>sj (TK S.P t (ρ x) h) h K)|_,_=>False)
 |.call { callee:= .builtin .max,args,.. }=>Iw S.P o.type (qq true (args.toList.map ρ)) h K
 |.call { callee:= .builtin .min,args,.. }=>Iw S.P o.type (qq false (args.toList.map ρ)) h K
 |.call { callee:= .builtin .append,args,argTypes }=>(match args.toList,argTypes.toList with|[s,x],[t,v]=>exS (aJ S.P t v (ρ s) (ρ x) h) h K|_,_=>False)
 |.call { callee:= .builtin .copy,args,argTypes }=>(match args.toList,argTypes.toList with|[d,s],[t,_]=>exC (copyV S.P t (ρ d) (ρ s) h) h K|_,_=>False)
 |.call { callee:= .builtin _,.. }=>exU (bm S.P fb ρ o h) h K
 |_=>exU (bm S.P fb ρ o h) h K
theorem eX{t:TypeId}{r:Option Value}{K:VH}(a:Iw P t r h K):sj r h K:=by
 obtain⟨v,b,c⟩:=pg a;rw[b];exact c
theorem CO{r:Option Value}{K:VH}(a:exP r h K):sj r h K:=by
 obtain⟨v,b,c⟩:=a;rw[b];exact c
theorem pX{r:Option (Value×bp)}{K:VH}(a:exU r h K):Hu r h K:=by
 obtain⟨v,u,b,c⟩:=a;rw[b];exact c
theorem uz{r:Option (Value×bp)}{K:VH}(a:exW r h K):Hu r h K:=by
 obtain⟨u,b,c⟩:=a;rw[b];exact c
theorem Nq{r:Option (Value×bp)}{K:VH}(b:exS r h K):Hu r h K:=by
 obtain⟨a,n,c,u,d,e⟩:=b;rw[d];exact e
theorem Np{r:Option (Value×bp)}{K:VH}(a:exC r h K):Hu r h K:=by
 obtain⟨n,u,b,c⟩:=a;rw[b];exact c
theorem CF{r:Option (bu×(Nat->Value))}{K:VH}(a:exA r h K):wpA r h K:=by
 obtain⟨B,b,c⟩:=a;rw[b];exact c
theorem CH{r:Option (bu×(Nat->Value))}{K:VH}(a:exR r h K):wpA r h K:=by
 obtain⟨B,n,c,b,d⟩:=a;rw[b];exact d
theorem CG{r:Option (bu×(Nat->Value))}{K:VH}(a:exM r h K):wpA r h K:=by
 obtain⟨B,b,c⟩:=a;rw[b];exact c
theorem SC{K:VH}(a:SA X T v c h K):pW X v c h K:=by
 unfold SA at a;unfold pW;split at a
 ·rcases wy a with⟨d,a⟩|⟨_,a⟩
  ·refine⟨by simpa[blt_eq]using d,a.mono λe h a=>?_⟩;obtain⟨x,rfl,b⟩:=pg a;exact b
  ·exact a.elim
 ·exact⟨⟨rfl,rfl⟩,a.mono λe h a=>by
   obtain⟨x,rfl,b⟩:=pg a;exact b⟩
 grind
theorem Sp{a:BinOp}{t:TypeId}{x:Value}{K:VH}(b:aaW P a t T x v h K):sj (ax P a t x v) h K:=by
 unfold aaW at b
 grind[eX]
theorem QK{c a b:Value}{K:VH}(d:Uy c a b h K):sj (aat c a b) h K:=by
 unfold Uy at d;split at d
 ·next t=>
  rcases wy d with⟨rfl,e⟩|⟨rfl,e⟩<;>exact e
 grind
theorem rZ{o:Oper}{K:VH}(b:opQ X (dW X.gl E) o h K):wpOp X E o h K:=by
 obtain⟨p,H,q,l,g,f⟩:=o;unfold opQ at b;split at b
 ·next e=>subst e;exact b
 ·next e=>subst e;exact b
 ·next e=>subst e;rw[RC];exact QK b
 ·next e=>subst e;rw[Nj];exact Sp b
 ·next e=>subst e;rw[RD];exact b
 ·next e=>subst e;rw[Hl];exact b
 ·next e=>subst e;rw[Nl];exact eX b
 ·next e=>subst e;rw[CN];exact CO b
 ·next e=>subst e;rw[CM];exact CO b
 ·next e=>subst e;rw[Nk];exact eX b
 ·next e=>subst e;rw[Rz];exact eX b
 ·next e=>subst e;rw[Nm];exact eX b
 ·next e=>subst e;rw[No];exact uz b
 ·next e=>subst e;rw[lz _ _ _ _ _ rfl rfl rfl rfl];exact CF b
 ·next e=>subst e;rw[lz _ _ _ _ _ rfl rfl rfl rfl];exact CF b
 ·next e=>subst e;rw[lz _ _ _ _ _ rfl rfl rfl rfl];exact CH b
 ·next e=>subst e;rw[lz _ _ _ _ _ rfl rfl rfl rfl];exact CH b
 ·next t r e=>
  subst e;rw[lz _ _ _ _ _ rfl rfl rfl rfl]
  cases r with
  |none=>exact CG b
  |some x=>exact CG b
 ·next t m k x e=>
  subst e;rw[fV _ _ _ _ rfl];have y:bm X.P fb (dW X.gl E) ⟨p,.mapUpdate t m k x,q,l,g,f⟩ h=gH X.P t (dW X.gl E m) (dW X.gl E k) (dW X.gl E x) h:=rfl;rw[y];exact uz b
 ·next t m k x e=>
  subst e;rw[fV _ _ _ _ rfl];have y:bm X.P fb (dW X.gl E) ⟨p,.insert t m k x,q,l,g,f⟩ h=gH X.P t (dW X.gl E m) (dW X.gl E k) (dW X.gl E x) h:=rfl;rw[y];exact uz b
 ·next t m k D e=>
  subst e;have b:sj (bj X.P (dW X.gl E) ⟨p,.lookup t m k D,q,l,g,f⟩ h) h K:=eX b;exact(oM X E h K ⟨p,.lookup t m k D,q,l,g,f⟩ rfl rfl rfl rfl)▸b
 ·next e=>
  subst e;rw[fV _ _ _ _ rfl];split at b
  ·exact pX b
  split at b
  ·next k n A=>
   unfold bm;generalize B:ba X.P (dW X.gl E) _=r
   cases r with
   |some v=>rw[show eP X.P _ _ _=some v from B]at b;exact b
   |none=>rw[show eP X.P _ _ _=none from B]at b;exact b.elim
  ·next a n c A=>
   obtain⟨v,u,w⟩:=pg b;have B:∀s d,eP X.P s d (.slice a n c)=none:=λs d=>by unfold eP;split<;>simp_all
   have F:∀s d x,dW X.gl E x = .slice a n c->ba X.P (dW X.gl E) ⟨p,.convert s d x,q,l,g,f⟩=none:=λs d x A=>by
    show eP X.P s d (dW X.gl E x)=none;rw[A];exact B s d
   have G:∀s d x,bj X.P (dW X.gl E) ⟨p,.convert s d x,q,l,g,f⟩ h=Vz X.P s d (dW X.gl E x) h:=λs d x=>rfl;unfold bm;rw[F _ _ _ A];dsimp only;rw[G,u];exact w
  ·exact pX b
 ·next e=>subst e;rw[dg _ _ _ _ _ _ _ _ _ rfl];exact eX b
 ·next e=>subst e;rw[dg _ _ _ _ _ _ _ _ _ rfl];exact b
 ·next e=>subst e;rw[dg _ _ _ _ _ _ _ _ _ rfl];exact b
 ·next e=>subst e;rw[dg _ _ _ _ _ _ _ _ _ rfl];exact b
 ·next e=>subst e;rw[dg _ _ _ _ _ _ _ _ _ rfl];exact b
 ·exact b.elim
 ·next e=>subst e;exact SC b
 ·next i j e=>
  subst e;split at b
  ·next x t u w=>
   obtain⟨i⟩:=i;obtain⟨j⟩:=j;obtain rfl:i=[x]:=u;obtain rfl:j=[t]:=w;have C:sj (TK X.P t (dW X.gl E x) h) h K:=by
    split at b
    ·exact eX b
    ·exact b
   exact(Wv X E p q l g f h K x t).symm▸C
  ·exact b.elim
 ·next e=>subst e;rw[Ww];exact eX b
 ·next e=>subst e;rw[Wx];exact eX b
 ·next i j e=>
  subst e;split at b
  ·next s x t z u w=>
   obtain⟨i⟩:=i;obtain⟨j⟩:=j;obtain rfl:i=[s,x]:=u;obtain rfl:j=[t,z]:=w;exact(Kl X E p q l g f h K s x t z).symm▸Nq b
  ·exact b.elim
 ·next i j e=>
  subst e;split at b
  ·next s x t z u w=>
   obtain⟨i⟩:=i;obtain⟨j⟩:=j;obtain rfl:i=[s,x]:=u;obtain rfl:j=[t,z]:=w;have y:wpOp X E ⟨p,.call ⟨.builtin .copy,#[s,x],#[t,z]⟩,q,l,g,f⟩ h K=Hu (copyV X.P t (dW X.gl E s) (dW X.gl E x) h) h K:=CL X E h K _ rfl rfl rfl rfl;exact y.symm▸Np b
  ·exact b.elim
 ·next e=>subst e;rw[fV _ _ _ _ rfl];exact pX b
 grind[fV,pX,aZ]
def Q8:TS->Nat->Value->(TS->Prop)->Prop
 |[],_,_,K=>K []
 |_::l,0,v,K=>K (v::l)
 |x::l,d+1,v,K=>Q8 l d v λl=>K (x::l)
def Tq:TS->Nat->(Value->Prop)->Prop
 |[],_,K=>K undef
 |x::_,0,K=>K x
 |_::l,t+1,K=>Tq l t K
theorem Ao:∀(l:TS)(d:Nat)(v:Value)(K:TS->Prop),Q8 l d v K=K (l.set d v)
 |[],_,_,_=>rfl
 |_::_,0,_,_=>rfl
 |x::l,d+1,v,K=>by rw[Q8,Ao l d v];rfl
theorem FO:∀(l:TS)(t:Nat)(K:Value->Prop),Tq l t K=K (l.getD t undef)
 |[],_,_=>rfl
 |_::_,0,_=>rfl
 |x::l,t+1,K=>by rw[Tq,FO l t];rfl
def GL(a:TS)(b:Option Tmp)(v:Value)(K:TS->Prop):Prop:=match b with
 |some d=>Q8 a d v K
 |none=>K a
theorem Ak(b:TS)(a:Option Tmp)(v:Value)(K:TS->Prop):GL b a v K=K (fe b a v):=by
 cases a with
 |none=>rfl
 |some d=>exact Ao _ _ _ _
def opT(S:Sx)(a:TS)(o:Oper)(h:aa)(K:VH):Prop:=match o.op with
 |.move (.tmp t)=>Tq a t λv=>K v h
 |.assign (.tmp t)=>Tq a t λv=>K v h
 |_=>opQ S (ev S.gl a) o h K
theorem Od{b:TS}{o:Oper}{K:VH}(a:opT X b o h K):opQ X (ev X.gl b) o h K:=by
 unfold opT at a;split at a
 ·next t e=>rw[FO]at a;unfold opQ;rw[e];exact a
 ·next t e=>rw[FO]at a;unfold opQ;rw[e];exact a
 omega
def gS(ops:Array Oper)(c:TS)(e:Option (Nat×Bool))(A B:TS->Prop):Prop:=match e with
 |none=>A c
 | some (j,a)=>match (ops[j]?).bind (·.dst)with
  |some d=>match c.getD d undef with
   |.bool b=>aS b (Q8 c d (.bool true) (Bool.rec (motive:=λ_=>TS->Prop) B A a)) (Q8 c d (.bool false) (Bool.rec (motive:=λ_=>TS->Prop) A B a))
   |.tuple _=>B c
   |_=>False
  |none=>False
def YW(S:Sx)(ops:Array Oper):List Oper->TS->aa->TH->Prop
 |[],a,h,R=>R a h
 |o::l,a,h,R=>gS ops a o.guard (λa=>opT S a o h λv h=>GL a o.dst v λa=>YW S ops l a h R) (λa=>GL a o.dst undef λa=>YW S ops l a h R)
def lift(b:Nat)(Q:TH):FH:=λE h=>∃a:TS,a.length=b/\E=fr a/\Q a h
def N1(a:Nat)(Q:eO):C1:=λx=>lift a (Q x)
def aaf(v:Value)(A B:Prop):Prop:=match v with
 |.bool b=>aS b A B
 |_=>False
def Ns(S:Sx)(a:Nat)(c:Code)(b:TS)(h:aa)(Q:eO):Prop:=DF S a c (fr b) h (N1 a Q)
def aaF(S:Sx)(a:Nat)(c:Code)(b:TS)(h:aa)(Q:eO):Prop:=KJ S a c (fr b) h (N1 a Q)
def adS(B:TH)(Q:eO)(x:Exit)(a:TS)(h:aa):Prop:=match x with
 |.normal=>B a h
 |x=>Q x a h
def KW(c:Nat)(Q:eO)(x:Exit)(b:TS)(h:aa):Prop:=match x with
 |.exit a=>(match Nat.beq a c with|true=>Q .normal b h|false=>Q (.exit a) b h)
 |x=>Q x b h
def room(h:aa)(n:Nat):aa:={ h with next:=h.next+n }
def LA:Op->Bool
 |.load ..|.slice ..|.lookup .. =>true
 |.call { callee:= .builtin .len,.. }=>true
 |_=>false
def afh:Op->Bool
 |.store .. =>true
 |.call { callee:= .value _,.. }=>true
 |_=>false
def Xc(ops:Array Oper)(f:Op->Bool)(j:Nat):Bool:=match ops[j]? with|some o=>f o.op|none=>false
def IU:Op->Bool
 |.alloc ..|.box ..|.makeSlice ..|.buildSlice .. =>true
 |_=>false
def Bx:Op->Bool
 |.store .. =>true
 |.call { callee:= .value _,.. }=>true
 |.call { callee:= .builtin .append,.. }|.call { callee:= .builtin .copy,.. }|.call { callee:= .builtin .unsafeSliceData,.. }|.call { callee:= .builtin .unsafeString,.. }=>true
 |_=>false
def ifC(b:Bool)(A B:Prop):Prop:=Bool.rec (motive:=λ_=>Prop) B A b
def Ot(S:Sx)(o:Oper)(E:Fr)(v:Value)(h:aa)(K:Prop):Prop:=match o.op with
 |.load t a=>(ae S.P t h (dW S.gl E a)=some v/\df 4 v v=true)/\K
 |.slice t x d c b=>(bE S.P t (dW S.gl E x) (d.map (dW S.gl E)) (c.map (dW S.gl E)) (b.map (dW S.gl E)) h=some v/\df 4 v v=true)/\K
 |_=>(bj S.P (dW S.gl E) o h=some v/\df 4 v v=true)/\K
def sb(S:Sx)(bf:Nat->Nat->Bool)(j:Nat)(o:Oper)(E:Fr)(v:Value):aa->List (Nat×aa)->Bool->Prop->Prop
 |h,[],a,K=>ifC a K (Ot S o E v h K)
 |h,(e,b)::r,a,K=>ifC ((a&&Nat.blt j e)||bf j e) (ifC (bf e j) K (sb S bf j o E v b r (Nat.blt e j) K)) (Ot S o E v h (ifC (bf e j) K (sb S bf j o E v b r (Nat.blt e j) K)))
def xZ(S:Sx)(bf:Nat->Nat->Bool)(h:aa)(a:List (Nat×aa)):List Kq->Nat->Prop->Prop
 |[],_,K=>K
 |(E,o,.read v)::r,j,K=>sb S bf j o E v h a true (xZ S bf h a r (j+1) K)
 |_::r,j,K=>xZ S bf h a r (j+1) K
def alQ(S:Sx)(ρ:Operand->Value)(o:Oper)(K:bu->(Nat->Value)->Prop):Prop:=match o.op with
 |.alloc t=>∃B,aA S.P t=some (B,dR)/\K B dR
 |.box t x=>∃B,dp S.P t (ρ x)=some (B,dR)/\K B dR
 |.makeSlice t l c=>∃B n d,aX S.P t (ρ l) (ρ c)=some (B,jE n d)/\K B (jE n d)
 |_=>∃B n d,aT S.P ρ o=some (B,jE n d)/\K B (jE n d)
def aao{f:Type}(e:Op)(a b c d:f):f:=match lG e with
 |true=>a
 | false=>match LA e with
  |true=>b
  |false=>match IU e with
   |true=>c
   |false=>d
def wG(S:Sx)(bf:Nat->Nat->Bool)(ops:Array Oper)(base:Nat)(d:aa):List Oper->Nat->TS->aa->List (Nat×bu)->List Kq->TH->Prop
 |[],_,a,h,pd,b,R=>xZ S bf d (nC b.reverse 0) b.reverse 0 (R a (aw h base pd))
 | o::l,j,a,h,pd,b,R=>gS ops a o.guard
   (λa=>aao o.op
    (opT S a o h λv _=>GL a o.dst v λc=>wG S bf ops base d l (j+1) c h pd ((fr a,o,.pure v)::b) R)
    (opT S a o h λv _=>GL a o.dst v λc=>wG S bf ops base d l (j+1) c h pd ((fr a,o,.read v)::b) R)
    (alQ S (ev S.gl a) o λB f=>GL a o.dst (f (base+j)) λc=>wG S bf ops base d l (j+1) c h ((j,B)::pd) ((fr a,o,.alloc B (f (base+j)))::b) R)
    (opT S a o (aw h base (pd.filter λp=>bf j p.1)) λv e=>GL a o.dst v λc=>wG S bf ops base d l (j+1) c e (pd.filter λp=> !bf j p.1) ((fr a,o,.qh v e)::b) R))
   (λa=>GL a o.dst undef λc=>wG S bf ops base d l (j+1) c h pd ((fr a,o,.skip)::b) R)
def pS(ops:Array Oper):Bool:= !tE ops&&(ops.toList.all λo=>lG o.op||LA o.op||IU o.op||Bx o.op)&&(List.range ops.size).all λe=> !Xc ops Bx e||(List.range ops.size).all λj=> !Xc ops Bx j || !Nat.blt j e||cD (fk ops) e j
def sJ(a:TS)(j:Nat):Value:=a.getD j undef
def zL:Nat->Nat->List (Nat×Value)->(Nat->Value)->TS
 |0,_,_,_=>[]
 |n+1,j,[],x=>x j::zL n (j+1) [] x
 |n+1,j,(i,v)::l,x=>match Nat.beq i j with
  |true=>v::zL n (j+1) l x
  |false=>x j::zL n (j+1) ((i,v)::l) x
theorem Gh:∀(n j:Nat)(l:List (Nat×Value))(x:Nat->Value),(∀p∈l,p.2=x p.1)->zL n j l x=(List.range' j n).map x
 |0,_,_,_,_=>by rfl
 |n+1,j,[],x,h=>by simp only[zL,List.range'_succ,List.map_cons];rw[Gh n (j+1) [] x h]
 | n+1,j,(i,v)::l,x,h=>by
  simp only[zL,List.range'_succ,List.map_cons]
  cases a:Nat.beq i j with
  |true=>
   dsimp only;rw[Gh n (j+1) l x λp b=>h p (mem_cons_of_mem _ b),<-Nat.eq_of_beq_eq_true a]
   simp_all
  |false=>
   dsimp only;rw[Gh n (j+1) ((i,v)::l) x h]
theorem Af:∀(n j:Nat)(l:List (Nat×Value))(x:Nat->Value),(zL n j l x).length=n
 |0,_,_,_=>by rfl
 |n+1,j,[],x=>by simp only[zL,length_cons];rw[Af n (j+1) [] x]
 |n+1,j,(i,v)::l,x=>by
  simp only[zL]
  cases a:Nat.beq i j with
  |true=>dsimp only;rw[length_cons,Af n (j+1) l x]
  |false=>dsimp only;rw[length_cons,Af n (j+1) ((i,v)::l) x]
theorem Ko(f:Nat->Value):∀(M:List Nat),∀p∈M.zip (M.map f),p.2=f p.1
 |[],p,h=>by simp at h
 |a::M,p,h=>by
  rw[List.map_cons,List.zip_cons_cons]at h;rcases mem_cons.1 h with rfl|h
  ·rfl
  ·exact Ko f M p h
theorem I7{a:TS}(b:a.length=n)(M:List Nat):zL n 0 (M.zip (M.map (sJ a))) (sJ a)=a:=by
 rw[Gh _ _ _ _ (Ko _ M)];refine List.ext_getElem? λi=>?_
 grind[sJ]
def ZY(S:Sx)(a:Nat)(M:List Nat)(c:Code)(w:List Value)(h:aa)(Q:eO):Prop:=∀x:Nat->Value,Ns S a c (zL a 0 (M.zip w) x) h Q
def TO(S:Sx)(b:Nat)(M:List Nat)(c:Code)(a:TS)(h:aa)(Q:eO):Prop:=match Nat.beq a.length b with
 |true=>ZY S b M c (M.map (sJ a)) h Q
 |false=>Ns S b c a h Q
theorem LH{c:Code}{a:TS}{Q:eO}(d:a.length=n)(b:TO X n x c a h Q):Ns X n c a h Q:=by
 unfold TO at b;rw[d,Nat.beq_refl]at b;have:=b (sJ a)
 grind[I7]
structure FD where
 nm:Nat
 body:Code
 rs:List ResultVar
 ms:List (List Nat×List Nat)
def dY(a:Func)(b:List (List Nat×List Nat)):FD:=⟨a.ntmps,a.body.getD .skip,a.results.toList,b⟩
def ac3:List Nat->List Nat->Bool
 |[],[]=>true
 |a::x,b::y=>(match Nat.beq a b with
  |true=>ac3 x y
  |false=>false)
 |_,_=>false
def xK:List (List Nat×List Nat)->List Nat->List Nat
 |[],_=>[]
 |(q,m)::r,p=>match ac3 q p with
  |true=>m
  |false=>xK r p
def wpS(S:Sx)(e:Nat)(M:List (List Nat×List Nat))(p:List Nat):Code->TS->aa->eO->Prop
 |.skip,d,h,Q=>Q .normal d h
 | .region _ ops i,d,h,Q=>(match i with
  |false=>YW S ops ops.toList d h λd h=>Q .normal d h
  |true=>(match pS ops with
   |true=>wG S (cD (fk ops)) ops h.next (room h ops.size) ops.toList 0 d (room h ops.size) [] [] λd h=>Q .normal d h
   |false=>wpD S e ops (fr d) h (lift e λd h=>Q .normal d h)))
 |.seq a b,d,h,Q=>wpS S e M (0::p) a d h (adS (λd h=>wpS S e M (1::p) b d h Q) Q)
 |.cond c a b,d,h,Q=>aaf (ev S.gl d c) (wpS S e M (0::p) a d h Q) (wpS S e M (1::p) b d h Q)
 |.block g c,d,h,Q=>wpS S e M (0::p) c d h (KW g Q)
 |.loop c,d,h,Q=>TO S e (xK M (0::p).reverse) c d h Q
 |.exit g,d,h,Q=>Q (.exit g) d h
 |.ret,d,h,Q=>Q .ret d h
 |.label _,d,h,Q=>Q .normal d h
 |.rangeFunc f j a b,d,h,Q=>aaF S e (.rangeFunc f j a b) d h Q
 |_,_,_,_=>False
end
theorem ac7{a:TS}(h:a.length=n):ER n (fr a) a:=⟨h,λ_=>rfl⟩
theorem Ef{a:TS}(gl:Nat->Bool):dW gl (fr a)=ev gl a:=rfl
theorem FM{b:TS}(h:b.length=n){a:Option Tmp}(c:vo n a=true)(v:Value):sG (fr b) a v=fr (fe b a v):=by
 funext t;exact((ac7 h).put c v).2 t |>.symm
theorem yP{a:TS}(h:a.getD n undef=v):a.set n v=a:=by
 refine List.ext_getElem? λi=>?_
 grind
theorem IK{ops:Array Oper}{h:TS}{c:Option (Nat×Bool)}{A B:TS->Prop}{k m:Unit->Prop}(n:A h->k ())(l:B h->m ())(a:gS ops h c A B):wpG (CD ops (fr h) c) k m:=by
 cases c with
 |none=>exact n a
 | some g=>
  obtain⟨j,e⟩:=g;unfold gS at a;rw[Nh];dsimp only at a
  cases o:(ops[j]?).bind (·.dst)with
  |none=>grind
  | some d=>
   rw[o]at a;dsimp only at a⊢;show wpG (match h.getD d undef with|.bool b=>some (b==e)|.tuple _=>some false|_=>none) k m
   cases i:h.getD d undef with
   | bool b=>
    rw[i]at a;dsimp only at a⊢;rcases wy a with⟨rfl,f⟩|⟨rfl,f⟩
    ·rw[Ao,yP i]at f
     cases e
     ·exact l f
     ·exact n f
    ·rw[Ao,yP i]at f
     cases e
     ·exact n f
     ·exact l f
   |tuple p=>rw[i]at a;exact l a
   |_=>rw[i]at a;exact a.elim
theorem Km{r:Option (Value×bp)}{K:VH}(b:∀v h,K v h->Q v h)(a:Hu r h K):Hu r h Q:=by
 cases r with
 |none=>exact a
 |some p=>obtain⟨v,u⟩:=p;exact b _ _ a
theorem zs{K:VH}(b:∀d h,K d h->Q d h)(a:pW X v c h K):pW X v c h Q:=by
 unfold pW at a⊢;split at a
 ·exact⟨a.1,a.2.mono b⟩
 ·exact⟨a.1,a.2.mono b⟩
 omega
theorem RA{o:Oper}{K:VH}(b:∀v h,K v h->Q v h)(a:wpOp X E o h K):wpOp X E o h Q:=by grind[zs,Km,wpOp]
theorem ub{S:Sx}{f:Nat}{ops:Array Oper}{R:TH}{c:FH}(g:∀b h,b.length=f->R b h->c (fr b) h):∀(l:List Oper){b:TS}{h:aa},b.length=f->(l.all λo=>vo f o.dst)=true->YW S ops l b h R->WK S ops l (fr b) h c
 |[],_,_,e,_,a=>g _ _ e a
 |o::l,b,h,e,d,a=>by
  simp only[all_cons,and_eq_true]at d;rw[Wu];refine IK (λa=>?_) (λa=>?_) a
  ·show wpOp S (fr b) o h (opK S ops o.dst l (fr b) c);have a:=Od a;rw[<-Ef]at a;refine RA (λv h a=>?_) (rZ a);show WK S ops l (sG (fr b) o.dst v) h c;rw[FM e d.1];rw[Ak]at a;exact ub g l (by grind[jc]) d.2 a
  ·show WK S ops l (sG (fr b) o.dst undef) h c;rw[FM e d.1];rw[Ak]at a;exact ub g l (by grind[jc]) d.2 a
theorem CK{o:Oper}{K:VH}(b:∀v h,K v h->Q v h)(a:CJ X E o h K):CJ X E o h Q:=by grind[zs,Km,CJ]
theorem Wt{r:Option Bool}{A B a b:Unit->Prop}(e:A ()->a ())(c:B ()->b ())(d:wpG r A B):wpG r a b:=by
 rcases Hj d with⟨rfl,h⟩|⟨rfl,h⟩
 ·exact e h
 ·exact c h
theorem ml{S:Sx}{bf:Nat->Nat->Bool}{ops:Array Oper}{base:Nat}{g:aa}{R i:FH}(c:∀E h,R E h->i E h):∀(l:List Oper)(j:Nat)(E:Fr)(h:aa)(pd:List (Nat×bu))(b:List Kq),wJ S bf ops base g l j E h pd b R->wJ S bf ops base g l j E h pd b i
 |[],_,_,_,_,_,a=>⟨a.1,c _ _ a.2⟩
 | o::l,j,E,h,pd,b,a=>by
  simp only[wJ]at a⊢;refine Wt (λa=>?_) (λa=>ml c l _ _ _ _ _ a) a
  cases k:ba S.P (dW S.gl E) o with
  |some v=>rw[k]at a;exact ml c l _ _ _ _ _ a
  | none=>
   rw[k]at a;dsimp only at a⊢
   cases e:bj S.P (dW S.gl E) o h with
   |some v=>rw[e]at a;exact ml c l _ _ _ _ _ a
   | none=>
    rw[e]at a;dsimp only at a⊢
    cases d:aT S.P (dW S.gl E) o with
    |some p=>obtain⟨B,f⟩:=p;rw[d]at a;exact ml c l _ _ _ _ _ a
    |none=>
     rw[d]at a;dsimp only at a⊢;exact CK (λv m a=>ml c l _ _ _ _ _ a) a
theorem Ws{ops:Array Oper}{R g:FH}(f:∀E h,R E h->g E h)(i:wpD X n ops E h R):wpD X n ops E h g:=i.imp (λa=>⟨a.1,ml f _ _ _ _ _ _ a.2⟩) λ⟨a,d,j,b,c,e⟩=>⟨a,d,j,b,c,f _ _ e⟩
theorem aaU{ops:Array Oper}{f:Op->Bool}(h:Xc ops f j=true):j<ops.size:=by grind[Xc]
theorem Bt{A B:Prop}(h:ifC b A B):(b=true/\A)\/(b=false/\B):=by
 cases b with
 |true=>exact .inl ⟨rfl,h⟩
 |false=>exact .inr ⟨rfl,h⟩
theorem rq{o:Oper}{K:Prop}(a:Ot X o E v h K):EL X o E v h=true/\K:=by
 obtain⟨f,i,g,d,c,b⟩:=o;have j:(bj X.P (dW X.gl E) ⟨f,i,g,d,c,b⟩ h=some v/\df 4 v v=true)/\K:=by
  unfold Ot at a;split at a
  ·next e=>subst e;exact a
  ·next e=>subst e;exact a
  ·exact a
 grind[EL]
theorem ti{S:Sx}{bf:Nat->Nat->Bool}{j:Nat}{o:Oper}{E:Fr}{v:Value}{K:Prop}:∀{g:List (Nat×aa)}{h:aa}{a:Bool},sb S bf j o E v h g a K->nL S bf j o E v h g a=true/\K
 |[],h,a,b=>by
  rcases Bt b with⟨rfl,d⟩|⟨rfl,d⟩
  ·exact⟨rfl,d⟩
  ·exact⟨(rq d).1,(rq d).2⟩
 | (e,i)::r,h,a,b=>by
  have m:∀{k:Prop},ifC (bf e j) K (sb S bf j o E v i r (Nat.blt e j) K)->((bf e j||nL S bf j o E v i r (Nat.blt e j))=true)/\K:=λb=>by
   rcases Bt b with⟨f,c⟩|⟨f,c⟩
   ·grind
   ·have:=ti c
    grind
  have b:ifC ((a&&Nat.blt j e)||bf j e) _ _:=b;simp only[nL,and_eq_true];rcases Bt b with⟨f,c⟩|⟨f,c⟩
  ·simp_all
  ·obtain⟨l,n⟩:=rq c
   simp_all
theorem pK{S:Sx}{bf:Nat->Nat->Bool}{h:aa}{b:List (Nat×aa)}{K:Prop}:∀{l:List Kq}{j:Nat},xZ S bf h b l j K->ui S bf h b l j=true/\K
 |[],_,a=>⟨rfl,a⟩
 | (E,o,e)::r,j,a=>by
  cases e with
  |read v=>
   have c:=ti (show sb S bf j o E v h b true (xZ S bf h b r (j+1) K)from a);have d:=pK c.2
   grind[ui]
  |_=>exact pK (l:=r) a
def DB(ops:Array Oper)(i:Nat)(l:List Kq):Prop:=∀k r,l[k]?=some r->∀v g,r.2.2 = .qh v g->Xc ops Bx (i+k)=true
theorem tK{ops:Array Oper}:∀{l:List Kq}{i:Nat},DB ops i l->∀p∈nC l i,Xc ops Bx p.1=true/\i<=p.1
 |[],_,_=>by simp[nC]
 | r::l,i,c=>by
  have a:DB ops (i+1) l:=λk r h=>by
   have:=c (k+1) r (by simpa using h)
   grind
  obtain⟨E,o,e⟩:=r;intro p b;have d:p∈nC l (i+1)->Xc ops Bx p.1=true/\i<=p.1:=λh=>⟨(tK a p h).1,by have:=(tK a p h).2;omega⟩
  cases e with
  |qh v g=>
   rcases mem_cons.1 b with rfl|b
   ·exact⟨c 0 _ rfl v g rfl,Nat.le_refl _⟩
   grind
  |_=>exact d b
theorem rB{ops:Array Oper}(b:pS ops=true):∀{l:List Kq}{i:Nat},DB ops i l->chained (cD (fk ops)) (nC l i)=true
 |[],_,_=>rfl
 | r::l,i,s=>by
  have c:DB ops (i+1) l:=λk r h=>by
   have:=s (k+1) r (by simpa using h)
   grind
  obtain⟨E,o,e⟩:=r;have d:=rB b c
  cases e with
  | qh v g=>
   show chained (cD (fk ops)) ((i,g)::nC l (i+1))=true;have a:=tK c
   cases q:nC l (i+1)with
   |nil=>rfl
   |cons p t=>
    obtain⟨j,f⟩:=p;rw[q]at d a;show(cD (fk ops) j i&&chained (cD (fk ops)) ((j,f)::t))=true;rw[d,Bool.and_true];have u:=s 0 _ rfl v g rfl;have n:=a (j,f) (mem_cons_self ..);unfold pS at b;simp only[and_eq_true]at b;have m:=all_eq_true.1 b.2 j (mem_range.2 (aaU n.1));rw[n.1]at m;simp only[Bool.not_true,Bool.false_or]at m
    grind[blt_eq,Xc]
  |_=>exact d
theorem OZ{ρ:Operand->Value}{o:Oper}(l:IU o.op=true){K:bu->(Nat->Value)->Prop}(a:alQ X ρ o K):∃B f,aT X.P ρ o=some (B,f)/\K B f:=by
 obtain⟨j,m,k,i,h,g⟩:=o;unfold alQ at a;split at a
 ·next e=>subst e;obtain⟨B,b,c⟩:=a;exact⟨B,_,b,c⟩
 ·next e=>subst e;obtain⟨B,b,c⟩:=a;exact⟨B,_,b,c⟩
 ·next e=>subst e;obtain⟨B,n,d,b,c⟩:=a;exact⟨B,_,b,c⟩
 grind
theorem ys{S:Sx}{Y:Nat}{ops:Array Oper}(N:pS ops=true){base:Nat}{O:aa}{R:TH}{R':FH}(hR:∀s h,s.length=Y->R s h->R' (fr s) h):∀(l:List Oper)(j:Nat)(s:TS)(h:aa)(pd:List (Nat×bu))(q:List Kq),s.length=Y->(l.all λo=>vo Y o.dst)=true->ops.toList.drop j=l->q.length=j->DB ops 0 q.reverse->wG S (cD (fk ops)) ops base O l j s h pd q R->wJ S (cD (fk ops)) ops base O l j (fr s) h pd q R'
 |[],j,s,h,pd,q,T,_,_,_,hr,n=>by
  have X:=pK (show xZ S (cD (fk ops)) O (nC q.reverse 0) q.reverse 0 (R s (aw h base pd))from n);refine⟨?_,hR _ _ T X.2⟩
  grind[rB,vk]
 | o::l,j,s,h,pd,q,T,Q,V,x4,hr,n=>by
  have ho:ops[j]?=some o:=by
   have:(ops.toList.drop j)[0]?=some o:=by rw[V];rfl
   rw[getElem?_drop]at this;rw[<-Array.getElem?_toList];simpa using this
  have L:ops.toList.drop (j+1)=l:=by rw[<-drop_drop,V];rfl
  simp only[all_cons,and_eq_true]at Q;have H:∀e,(∀v g,e=lE.qh v g->Bx o.op=true)->DB ops 0 ((fr s,o,e)::q).reverse:=by
   intro e U k r G;rw[List.reverse_cons]at G;rcases lt_or_ge k q.reverse.length with W|W
   ·rw[List.getElem?_append_left W]at G;exact hr k r G
   ·rw[List.getElem?_append_right W]at G;have x2:k-q.reverse.length=0:=by
     rcases eq_zero_or_pos (k-q.reverse.length)with h4|h4
     ·exact h4
     ·rw[getElem?_eq_none (by simp only[length_cons,List.length_nil];omega)]at G;cases G
    rw[x2]at G;obtain rfl:=oI G
    grind[Xc]
  simp only[wJ];refine IK (λn=>?_) (λn=>?_) n
  ·have Z:∀v e g M,(∀v g,e=lE.qh v g->Bx o.op=true)->GL s o.dst v (λx1=>wG S (cD (fk ops)) ops base O l (j+1) x1 g M ((fr s,o,e)::q) R)->wJ S (cD (fk ops)) ops base O l (j+1) (sG (fr s) o.dst v) g M ((fr s,o,e)::q) R':=by
    intro v e g M U n;rw[Ak]at n;rw[FM T Q.1];exact ys N hR l (j+1) _ g _ _ (by grind[jc]) Q.2 L (by grind) (H e U) n
   have D:(lG o.op||LA o.op||IU o.op||Bx o.op)=true:=by
    have hc:=N;unfold pS at hc;simp only[and_eq_true]at hc;exact all_eq_true.1 hc.1.2 o (List.mem_of_mem_drop (i:=j) (by grind))
   obtain⟨y,u,z,w,m,d⟩:=o;unfold aao at n
   cases A:lG u with
   |true=>
    rw[show lG (Oper.mk y u z w m d).op=true from A]at n;have n:=rZ (E:=fr s) (by rw[Ef];exact Od n)
    grind[dg,sj]
   |false=>
   rw[show lG (Oper.mk y u z w m d).op=false from A]at n;dsimp only at n
   cases I:LA u with
   | true=>
    rw[show LA (Oper.mk y u z w m d).op=true from I]at n;have n:=rZ (E:=fr s) (by rw[Ef];exact Od n);have J:ba S.P (dW S.gl (fr s)) ⟨y,u,z,w,m,d⟩=none/\aZ ⟨y,u,z,w,m,d⟩=false/\aT S.P (dW S.gl (fr s)) ⟨y,u,z,w,m,d⟩=none/\cJ S.P fb (dW S.gl (fr s)) ⟨y,u,z,w,m,d⟩ h=none:=by
     clear n H Z D A ho;revert I
     cases u with
     |load=>intro _;exact⟨rfl,rfl,rfl,rfl⟩
     |slice=>intro _;exact⟨rfl,rfl,rfl,rfl⟩
     |lookup=>intro _;exact⟨rfl,rfl,rfl,rfl⟩
     |call c=>
      obtain⟨F,x0,x3⟩:=c
      cases F with
      |builtin b=>cases b<;>intro A<;>first|exact⟨rfl,rfl,rfl,rfl⟩|cases A
      |_=>intro A;cases A
     |_=>intro A;cases A
    grind[oM,sj]
   |false=>
   rw[show LA (Oper.mk y u z w m d).op=false from I]at n;dsimp only at n
   cases C:IU u with
   | true=>
    rw[show IU (Oper.mk y u z w m d).op=true from C]at n;rw[<-Ef]at n;obtain⟨B,f,X,U⟩:=OZ C n;have J:ba S.P (dW S.gl (fr s)) ⟨y,u,z,w,m,d⟩=none/\bj S.P (dW S.gl (fr s)) ⟨y,u,z,w,m,d⟩ h=none:=by
     clear n H Z D A ho X U I;revert C
     cases u<;>intro C<;>first|exact⟨rfl,rfl⟩|cases C
    grind
   |false=>
   rw[show IU (Oper.mk y u z w m d).op=false from C]at n;dsimp only at n;have P:Bx u=true:=by
    have G:(lG u||LA u||IU u||Bx u)=true:=D;rw[A,I,C]at G;exact G
   have n:=rZ (E:=fr s) (by rw[Ef];exact Od n);generalize aw h base (pd.filter λp=>cD (fk ops) j p.1)=hs at n⊢;have J:(∀h,ba S.P (dW S.gl (fr s)) ⟨y,u,z,w,m,d⟩=none/\bj S.P (dW S.gl (fr s)) ⟨y,u,z,w,m,d⟩ h=none/\aT S.P (dW S.gl (fr s)) ⟨y,u,z,w,m,d⟩=none)/\
     ∀K:VH,wpOp S (fr s) ⟨y,u,z,w,m,d⟩ hs K->CJ S (fr s) ⟨y,u,z,w,m,d⟩ hs K:=by
    clear n H Z D A ho I C;revert P
    cases u with
    |store t a x=>intro _;exact⟨λ_=>⟨rfl,rfl,rfl⟩,λK n=>by rw[CL _ _ _ _ _ rfl rfl rfl rfl]at n;exact n⟩
    |call c=>
     obtain⟨F,x0,x3⟩:=c
     cases F with
     |value f=>intro _;exact⟨λ_=>⟨rfl,rfl,rfl⟩,λK n=>n⟩
     |builtin b=>cases b<;>intro P<;>first|exact⟨λ_=>⟨rfl,rfl,rfl⟩,λK n=>by rw[CL _ _ _ _ _ rfl rfl rfl rfl]at n;exact n⟩|cases P
     |_=>intro A;cases A
    |_=>intro A;cases A
   rw[(J.1 h).1];dsimp only;rw[(J.1 h).2.1];dsimp only;rw[(J.1 h).2.2]
   grind[CK]
  ·rw[Ak]at n;rw[FM T Q.1];exact ys N hR l (j+1) _ h _ _ (by grind[jc]) Q.2 L (by grind) (H .skip (by simp)) n
theorem kg{S:Sx}{l:Nat}{M:List (List Nat×List Nat)}:∀(c:Code){p:List Nat}{e:TS}{h:aa}{Q:eO}{Q':C1},e.length=l->gy l c=true->(∀x e h,e.length=l->Q x e h->Q' x (fr e) h)->wpS S l M p c e h Q->Wp S l c (fr e) h Q'
 |.skip,_,_,_,_,_,g,_,i,d=>i _ _ _ g d
 |.exit _,_,_,_,_,_,g,_,i,d=>i _ _ _ g d
 |.ret,_,_,_,_,_,g,_,i,d=>i _ _ _ g d
 |.label _,_,_,_,_,_,g,_,i,d=>i _ _ _ g d
 | .region _ ops v,p,e,h,Q,Q',g,j,i,d=>by
  cases v with
  |false=>exact ub (λe h g d=>i _ _ _ g d) ops.toList g j d
  | true=>
   cases n:pS ops with
   |true=>
    have d:(match pS ops with|true=>wG S (cD (fk ops)) ops h.next (room h ops.size) ops.toList 0 e (room h ops.size) [] [] λe h=>Q .normal e h|false=>_):=d;rw[n]at d;refine .inl ⟨?_,ys n (λe h g d=>i _ _ _ g d) ops.toList 0 e _ [] [] g j rfl rfl (λk r h=>by simp at h) d⟩
    simp_all[pS]
   |false=>
   have d:(match pS ops with|true=>_|false=>wpD S l ops (fr e) h (lift l λe h=>Q .normal e h)):=d;rw[n]at d;refine Ws (λE h d=>?_) (show wpD S l ops (fr e) h (lift l λe h=>Q .normal e h)from d);obtain⟨s,m,rfl,q⟩:=d
   grind
 |.seq a b,p,e,h,Q,Q',g,j,i,d=>by
  simp only[gy,and_eq_true]at j;refine kg a g j.1 (λx e h g d=>?_) d
  cases x with
  |normal=>exact kg b g j.2 i d
  |_=>exact i _ _ _ g d
 | .cond c a b,p,e,h,Q,Q',g,j,i,d=>by
  simp only[gy,and_eq_true]at j;rw[Wq,Ef];simp only[wpS]at d;unfold aaf at d;split at d
  ·next t B=>
   rw[B];rcases wy d with⟨rfl,m⟩|⟨rfl,m⟩
   ·exact kg a g j.1 i m
   ·exact kg b g j.2 i m
  grind
 | .block z c,p,e,h,Q,Q',g,j,i,d=>by
  refine kg c g j (λx e h g d=>?_) d
  cases x with
  | exit o=>
   show if o=z then Q' .normal (fr e) h else Q' (.exit o) (fr e) h;simp only[KW]at d
   cases y:Nat.beq o z with
   |true=>simp_all
   |false=>
    rw[y]at d;rw[if_neg (Nat.ne_of_beq_eq_false y)];grind
  |_=>exact i _ _ _ g d
 |.loop c,p,e,h,Q,Q',g,j,i,d=>by
  obtain⟨x,u,w,m,q⟩:=(show DF S l c (fr e) h (N1 l Q)from LH g d)
  refine⟨x,u,w,m,?_⟩;obtain⟨s,A,rfl,C⟩:=q
  grind
 |.rangeFunc f D a b,p,e,h,Q,Q',g,j,i,d=>by
  obtain⟨x,u,w,m,q⟩:=(show KJ S l (.rangeFunc f D a b) (fr e) h (N1 l Q)from d)
  refine⟨x,u,w,m,?_⟩;obtain⟨s,A,rfl,C⟩:=q
  grind
 |.scope _,_,_,_,_,_,_,_,_,d=>d.elim
 |.goto _,_,_,_,_,_,_,_,_,d=>d.elim
 |.refuse _,_,_,_,_,_,_,_,_,d=>d.elim
def aeu(I:Nat->TH)(n:Nat)(a:TS)(h:aa):Prop:=∃m,m<n/\I m a h
def abQ(I:Nat->TH)(n:Nat)(Q:eO)(x:Exit)(a:TS)(h:aa):Prop:=match x with
 |.normal=>aeu I n a h
 |x=>Q x a h
def Ol:Code->Nat->Oper
 |.region _ ops _,i=>ops.toList.getD i ⟨none,.nilCheck (.tmp 0),0,"",#[],none⟩
 |_,_=>⟨none,.nilCheck (.tmp 0),0,"",#[],none⟩
def jD:List Nat->Code->Code
 |[],c=>c
 |0::p,.seq a _=>jD p a
 |_::p,.seq _ b=>jD p b
 |0::p,.cond _ a _=>jD p a
 |_::p,.cond _ _ b=>jD p b
 |_::p,.block _ a=>jD p a
 |_::p,.loop a=>jD p a
 |0::p,.rangeFunc _ _ a _=>jD p a
 |_::p,.rangeFunc _ _ _ b=>jD p b
 |_,_=> .skip
theorem LG{M:List (List Nat×List Nat)}{p:List Nat}{c:Code}{Q:eO}(g:gy n c=true)(I:Nat->TH)(j:∀d a h,a.length=n->I d a h->wpS X n M p c a h (abQ I d Q)):∀d a h,a.length=n->I d a h->Ns X n c a h Q:=by
 intro d
 induction d using Nat.strongRecOn with
 | _ d k=>
  intro a h b l;refine TP g (kg c b g (λx a h b f=>?_) (j d a h b l))
  cases x with
  |normal=>
   obtain⟨m,i,e⟩:=f;exact k m i a h b e
  |_=>exact⟨a,b,rfl,f⟩
def aH(A:Nat->List Value->aa->Prop)(n:Nat)(w:List Value)(h:aa):Prop:=∃m,m<n/\A m w h
def abP(M:List Nat)(A:Nat->List Value->aa->Prop)(n:Nat)(Q:eO)(x:Exit)(a:TS)(h:aa):Prop:=match x with
 |.normal=>aH A n (M.map (sJ a)) h
 |x=>Q x a h
theorem av{A B:Prop}(h:A)(e:A=B:=by kernel_rfl):B:=cast e h
def kAt(S:Sx)(c:Nat)(M:List (List Nat×List Nat)):List Nat->List Nat->Code->eO->eO
 |_,[],_,K=>K
 |p,0::q,.seq a b,K=>kAt S c M (0::p) q a (adS (λe h=>wpS S c M (1::p) b e h K) K)
 |p,_::q,.seq _ b,K=>kAt S c M (1::p) q b K
 |p,0::q,.cond _ a _,K=>kAt S c M (0::p) q a K
 |p,_::q,.cond _ _ b,K=>kAt S c M (1::p) q b K
 |p,_::q,.block d a,K=>kAt S c M (0::p) q a (KW d K)
 |_,_,_,K=>K
def LL(S:Sx)(X:FD)(p:List Nat)(w:List Value)(h:aa)(Q:eO):Prop:=ZY S X.nm (xK X.ms p) (jD p X.body) w h Q
def TT(S:Sx)(X:FD)(p:List Nat)(a:TS)(h:aa)(Q:eO):Prop:=wpS S X.nm X.ms p.reverse (jD p X.body) a h Q
def KK(S:Sx)(X:FD)(q p:List Nat)(K:eO):eO:=kAt S X.nm X.ms p.reverse q (jD p X.body) K
def RR(X:FD)(p:List Nat)(A:Nat->List Value->aa->Prop)(n:Nat)(Q:eO):eO:=abP (xK X.ms p) A n Q
theorem EI{a:FD}{K:eO}(A:Nat->List Value->aa->Prop)(e:gy a.nm (jD y a.body)=true)
  (step:∀n w (x:Nat->Value) h,A n w h->TT X a y (zL a.nm 0 ((xK a.ms y).zip w) x) h (RR a y A n K)) (n:Nat) {w:List Value} {h:aa} (g:A n w h) (f:∀x:Nat->Value,(xK a.ms y).map (sJ (zL a.nm 0 ((xK a.ms y).zip w) x))=w):LL X a y w h K:=λx=>
 LG (M:=a.ms) (p:=y.reverse) e (λm b h=>A m ((xK a.ms y).map (sJ b)) h) (λm b h c d=>by
  have:=step m ((xK a.ms y).map (sJ b)) (sJ b) h d;rw[I7 c]at this;exact this) n _ h (Af ..) (by grind)
def fD{b:Type}(W:b->LV)(I:Nat->b->aa->Prop)(n:Nat)(w:LV)(h:aa):Prop:=∃a,w=W a/\I n a h
theorem cG{W:A->LV}{I:Nat->A->aa->Prop}(m:Nat){a:A}{h:aa}(b:m<n)(c:I m a h):aH (fD W I) n (W a) h:=⟨m,b,a,rfl,c⟩
theorem dN{b:FD}{K:eO}(W:A->LV)(I:Nat->A->aa->Prop)
  (step:∀n (a:A) (x:Nat->Value) h,I n a h->TT X b y (zL b.nm 0 ((xK b.ms y).zip (W a)) x) h (RR b y (fD W I) n K)) (n:Nat) {a:A} {h:aa} (c:I n a h) (e:gy b.nm (jD y b.body)=true:=by kernel_rfl) (d:∀x:Nat->Value,(xK b.ms y).map (sJ (zL b.nm 0 ((xK b.ms y).zip (W a)) x))=W a:=by intro;kernel_rfl):LL X b y (W a) h K:=
 EI (fD W I) e (λn w x h ⟨a,f,c⟩=>by grind) n ⟨a,rfl,c⟩ d
def qu{c d:Type}(W:c->d->LV)(I:Nat->c->d->aa->Prop)(n:Nat)(w:LV)(h:aa):Prop:=∃a b,w=W a b/\I n a b h
theorem ju{W:A->B->LV}{I:Nat->A->B->aa->Prop}(m:Nat){a:A}{b:B}{h:aa}(c:m<n)(d:I m a b h):aH (qu W I) n (W a b) h:=⟨m,c,a,b,rfl,d⟩
theorem oJ{c:FD}{K:eO}(W:A->B->LV)(I:Nat->A->B->aa->Prop)
  (step:∀n (a:A) (b:B) (x:Nat->Value) h,I n a b h->TT X c y (zL c.nm 0 ((xK c.ms y).zip (W a b)) x) h (RR c y (qu W I) n K)) (n:Nat) {a:A} {b:B} {h:aa} (d:I n a b h) (f:gy c.nm (jD y c.body)=true:=by kernel_rfl) (e:∀x:Nat->Value,(xK c.ms y).map (sJ (zL c.nm 0 ((xK c.ms y).zip (W a b)) x))=W a b:=by intro;kernel_rfl):LL X c y (W a b) h K:=
 EI (qu W I) f (λn w x h ⟨a,b,g,d⟩=>by grind) n ⟨a,b,rfl,d⟩ e
def LA3{d f e:Type}(W:d->f->e->LV)(I:Nat->d->f->e->aa->Prop)(n:Nat)(w:LV)(h:aa):Prop:=∃a b c,w=W a b c/\I n a b c h
theorem IM{d:Type}{W:A->B->d->LV}{I:Nat->A->B->d->aa->Prop}(m:Nat){a:A}{b:B}{c:d}{h:aa}(e:m<n)(f:I m a b c h):aH (LA3 W I) n (W a b c) h:=⟨m,e,a,b,c,rfl,f⟩
theorem Va{d:FD}{K:eO}{e:Type}(W:A->B->e->LV)(I:Nat->A->B->e->aa->Prop)
  (step:∀n (a:A) (b:B) (c:e) (x:Nat->Value) h,I n a b c h->TT X d y (zL d.nm 0 ((xK d.ms y).zip (W a b c)) x) h (RR d y (LA3 W I) n K)) (n:Nat) {a:A} {b:B} {c:e} {h:aa} (f:I n a b c h) (i:gy d.nm (jD y d.body)=true:=by kernel_rfl) (g:∀x:Nat->Value,(xK d.ms y).map (sJ (zL d.nm 0 ((xK d.ms y).zip (W a b c)) x))=W a b c:=by intro;kernel_rfl):LL X d y (W a b c) h K:=
 EI (LA3 W I) i (λn w x h ⟨a,b,c,j,f⟩=>by grind) n ⟨a,b,c,rfl,f⟩ g
def RF{f i g e:Type}(W:f->i->g->e->LV)(I:Nat->f->i->g->e->aa->Prop)(n:Nat)(w:LV)(h:aa):Prop:=∃a b c d,w=W a b c d/\I n a b c d h
theorem NT{f e:Type}{W:A->B->f->e->LV}{I:Nat->A->B->f->e->aa->Prop}(m:Nat){a:A}{b:B}{c:f}{d:e}{h:aa}(g:m<n)(i:I m a b c d h):aH (RF W I) n (W a b c d) h:=⟨m,g,a,b,c,d,rfl,i⟩
theorem Vb{e:FD}{K:eO}{g f:Type}(W:A->B->g->f->LV)(I:Nat->A->B->g->f->aa->Prop)
  (step:∀n (a:A) (b:B) (c:g) (d:f) (x:Nat->Value) h,I n a b c d h->TT X e y (zL e.nm 0 ((xK e.ms y).zip (W a b c d)) x) h (RR e y (RF W I) n K)) (n:Nat) {a:A} {b:B} {c:g} {d:f} {h:aa} (i:I n a b c d h) (k:gy e.nm (jD y e.body)=true:=by kernel_rfl) (j:∀x:Nat->Value,(xK e.ms y).map (sJ (zL e.nm 0 ((xK e.ms y).zip (W a b c d)) x))=W a b c d:=by intro;kernel_rfl):LL X e y (W a b c d) h K:=
 EI (RF W I) k (λn w x h ⟨a,b,c,d,l,i⟩=>by grind) n ⟨a,b,c,d,rfl,i⟩ j
def Kw{g k j f i:Type}(W:g->k->j->f->i->LV)(I:Nat->g->k->j->f->i->aa->Prop)(n:Nat)(w:LV)(h:aa):Prop:=∃a b c d e,w=W a b c d e/\I n a b c d e h
theorem sW{i f g:Type}{W:A->B->i->f->g->LV}{I:Nat->A->B->i->f->g->aa->Prop}(m:Nat){a:A}{b:B}{c:i}{d:f}{e:g}{h:aa}(j:m<n)(k:I m a b c d e h):aH (Kw W I) n (W a b c d e) h:=⟨m,j,a,b,c,d,e,rfl,k⟩
theorem Vc{f:FD}{K:eO}{j g i:Type}(W:A->B->j->g->i->LV)(I:Nat->A->B->j->g->i->aa->Prop)
  (step:∀n (a:A) (b:B) (c:j) (d:g) (e:i) (x:Nat->Value) h,I n a b c d e h->TT X f y (zL f.nm 0 ((xK f.ms y).zip (W a b c d e)) x) h (RR f y (Kw W I) n K)) (n:Nat) {a:A} {b:B} {c:j} {d:g} {e:i} {h:aa} (k:I n a b c d e h) (m:gy f.nm (jD y f.body)=true:=by kernel_rfl) (l:∀x:Nat->Value,(xK f.ms y).map (sJ (zL f.nm 0 ((xK f.ms y).zip (W a b c d e)) x))=W a b c d e:=by intro;kernel_rfl):LL X f y (W a b c d e) h K:=
 EI (Kw W I) m (λn w x h ⟨a,b,c,d,e,o,k⟩=>by grind) n ⟨a,b,c,d,e,rfl,k⟩ l
def LA6{i l k g j m:Type}(W:i->l->k->g->j->m->LV)(I:Nat->i->l->k->g->j->m->aa->Prop)(n:Nat)(w:LV)(h:aa):Prop:=∃a b c d e f,w=W a b c d e f/\I n a b c d e f h
theorem ade{j g i k:Type}{W:A->B->j->g->i->k->LV}{I:Nat->A->B->j->g->i->k->aa->Prop}(m:Nat){a:A}{b:B}{c:j}{d:g}{e:i}{f:k}{h:aa}(l:m<n)(o:I m a b c d e f h):aH (LA6 W I) n (W a b c d e f) h:=⟨m,l,a,b,c,d,e,f,rfl,o⟩
theorem adQ{g:FD}{K:eO}{k i j l:Type}(W:A->B->k->i->j->l->LV)(I:Nat->A->B->k->i->j->l->aa->Prop)
  (step:∀n (a:A) (b:B) (c:k) (d:i) (e:j) (f:l) (x:Nat->Value) h,I n a b c d e f h->TT X g y (zL g.nm 0 ((xK g.ms y).zip (W a b c d e f)) x) h (RR g y (LA6 W I) n K)) (n:Nat) {a:A} {b:B} {c:k} {d:i} {e:j} {f:l} {h:aa} (m:I n a b c d e f h) (p:gy g.nm (jD y g.body)=true:=by kernel_rfl) (o:∀x:Nat->Value,(xK g.ms y).map (sJ (zL g.nm 0 ((xK g.ms y).zip (W a b c d e f)) x))=W a b c d e f:=by intro;kernel_rfl):LL X g y (W a b c d e f) h K:=
 EI (LA6 W I) p (λn w x h ⟨a,b,c,d,e,f,q,m⟩=>by grind) n ⟨a,b,c,d,e,f,rfl,m⟩ o
noncomputable def Mt(S:Sx)(b:TS)(h:aa):List ResultVar->Option (List Value)
 |[]=>some []
 |.tmp t::r=>(Mt S b h r).map (b.getD t undef::·)
 |.cell a t::r=>match ae S.P t h (b.getD a undef)with
  |some v=>(Mt S b h r).map (v::·)
  |none=>none
theorem Am(S:Sx)(b:TS)(h:aa):∀l,sH S (fr b) h l=Mt S b h l
 |[]=>rfl
 |.tmp t::r=>by simp only[sH,Mt,Am S b h r,fr]
 |.cell a t::r=>by simp only[sH,Mt,Am S b h r,fr];try (cases ae S.P t h (b.getD a undef)<;>rfl)
noncomputable def ac2(S:Sx)(b:List ResultVar)(Q:VH)(x:Exit)(a:TS)(h:aa):Prop:=match x with
 |.normal=>zt (Mt S a h b) h Q
 |.ret=>zt (Mt S a h b) h Q
 |_=>False
noncomputable def JH(S:Sx)(h:aa):List (Value×Option TypeId)->Option (List Value)
 |[]=>some []
 |(v,none)::r=>(JH S h r).map (v::·)
 |(a,some t)::r=>match ae S.P t h a with
  |some v=>(JH S h r).map (v::·)
  |none=>none
noncomputable def dq(S:Sx)(l:List (Value×Option TypeId))(h:aa)(Q:VH):Prop:=zt (JH S h l) h Q
theorem Ip{a:Value}{t:TypeId}(b:ae X.P t h a=some v)(c:Q v h):dq X [(a,some t)] h Q:=by
 unfold dq;simp only[JH,b];exact c
theorem vp{a:Value}{t:TypeId}(b:ae X.P t h a=some v)(c:Q (.tuple ⟨[v,w]⟩) h):dq X [(a,some t),(w,none)] h Q:=by
 unfold dq;simp only[JH,b];exact c
noncomputable def EE(S:Sx)(X:FD)(Q:VH):eO:=ac2 S X.rs Q
theorem eh(d:FD){f:FuncId}{b:Func}{a:List Value}{h:aa}{Q:VH}(q:X.P.funcs[f]?=some b)
  (e:wpS X d.nm d.ms [] d.body (a++List.replicate (d.nm-a.length) undef) h (EE X d Q)) (j:d=dY b d.ms:=by kernel_rfl) (k:(Nat.blt f YB&&(X.pr f).isNone&&Nat.ble a.length d.nm&&gy d.nm d.body&&b.body.isSome)=true:=by kernel_rfl):FW X f a h Q:=by
 have m:d.nm=b.ntmps:=by rw[j];rfl
 have o:d.body=b.body.getD .skip:=by rw[j];rfl
 have v:d.rs=b.results.toList:=by rw[j];rfl
 unfold EE at e;rw[m,o,v]at e;rw[m,o]at k;simp only[and_eq_true,blt_eq,Nat.ble_eq,Option.isNone_iff_eq_none]at k;obtain⟨⟨⟨⟨u,w⟩,r⟩,g⟩,p⟩:=k;obtain⟨c,l⟩:=Option.isSome_iff_exists.1 p;rw[l]at e g;have e:wpS X b.ntmps d.ms [] c (a++List.replicate (b.ntmps-a.length) undef) h (ac2 X b.results.toList Q):=e;have g:gy b.ntmps c=true:=g;have s:(a++List.replicate (b.ntmps-a.length) undef).length=b.ntmps:=by simp;omega
 have y:fr (a++List.replicate (b.ntmps-a.length) undef)=aaT a:=by
  funext t;show(a++List.replicate (b.ntmps-a.length) undef).getD t undef=a.getD t undef;simp only[gD];by_cases p:t<a.length
  ·grind
  ·grind
 refine adb q l u w r g ?_;rw[<-y];refine kg c s g (λx n h _ i=>?_) e
 cases x with
 |normal=>show zt (sH X (fr n) h _) h Q;rw[Am];exact i
 |ret=>show zt (sH X (fr n) h _) h Q;rw[Am];exact i
 |_=>exact i.elim
variable{g:aa}{d:List Value}{a:Option Addr}
theorem aO{n:Int}(a: -9223372036854775808<=n)(b:n<9223372036854775808):wrap .i64 n=n:=by grind[IntKind.wrap_i64]
theorem eg{n:Int}(a:0<=n)(b:n<18446744073709551616):wrap .u64 n=n:=by grind[IntKind.wrap_u64]
theorem yv{n:Int}(a:0<=n)(b:n<256):wrap .u8 n=n:=by grind[IntKind.wrap_u8]
theorem rS{t:TypeId}(c:P.underlying t=some .string)(l:List UInt8)(k:IntKind){i:Int}(b:0<=i)(a:i<l.length):bH P t (strOf l) (.int k i)=some (.int .u8 ((l.getD i.toNat 0).toNat:Nat)):=by simp_all[bH,strOf]
theorem oK{t:TypeId}(g:P.underlying t=some .string)(l:List UInt8){h:aa}{lo hi:Option Value}{a b:Nat}(f:dH lo 0=some (a:Int))(c:dH hi l.length=some (b:Int))(d:a<=b)(e:b<=l.length):bE P t (strOf l) lo hi none h=some (strOf ((l.drop a).take (b-a))):=by simp_all[bE,strOf]
structure Ok(h0 h:aa):Prop where
 wf:∀k B,h.get k=some B->k<h.next
 ext:∀k B,h0.get k=some B->h.get k=some B
 nx:h0.next<=h.next
def Wf(h:aa):Prop:=∀k B,h.get k=some B->k<h.next
theorem Ok.refl(w:Wf h):Ok h h:=⟨w,λ_ _ h=>h,Nat.le_refl _⟩
theorem Ok.trans{c d:aa}(a:Ok g c)(b:Ok c d):Ok g d:=⟨b.wf,λk B h=>b.ext k B (a.ext k B h),Nat.le_trans a.nx b.nx⟩
theorem Ok.push(a:Ok g h)(B:bu):Ok g (h.push B):=by
 refine⟨aa.l5 a.wf B,λk C c=>?_,Nat.le_trans a.nx (le_succ _)⟩;have b:=a.ext k C c;rw[aa.aN,if_neg (λe=>by have:=a.wf _ _ b;omega)];omega
theorem Ok.set(a:Ok g h){k:Nat}(B:bu)(f:g.next<=k)(d:k<h.next)(c:Wf g):Ok g (h.set k B):=by
 refine⟨λj C b=>?_,λj C b=>?_,a.nx⟩
 ·rw[aa.ay]at b;split at b
  ·simp_all
  ·exact a.wf _ _ b
 ·rw[aa.ay,if_neg (λe=>by have:=c _ _ b;omega)];exact a.ext _ _ b
theorem Ok.room{b h:aa}(a:Ok b h)(n:Nat):Ok b (room h n):=⟨λk B c=>lt_of_lt_of_le (a.wf k B c) (le_add_right _ _),a.ext,Nat.le_trans a.nx (le_add_right _ _)⟩
def fi(b h:aa)(e:TypeId)(v:Value)(a:List Value):Prop:=
 (v = .slice none 0 0/\a=[])\/ ∃k cs,v = .slice (some ⟨k,0,none⟩) a.length (cj+cs.length)/\b.next<=k/\h.get k=some (.cells cs e 1 true)/\cs.take a.length=a/\a.length<=cs.length
theorem fi.push(a:Ok g h)(o:fi g h T v c)(B:bu):fi g (h.push B) T v c:=by
 rcases o with o|⟨k,cs,d,e,b,f,i⟩
 ·exact .inl o
 ·refine .inr ⟨k,cs,d,e,?_,f,i⟩;rw[aa.aN,if_neg (λT=>by have:=a.wf _ _ b;omega)];omega
theorem fi.snoc{t:TypeId}{i:TypeInfo}(D:P.underlying t=some (.slice T))(F:dC P T=some i)(r:i.size=1){m h:aa}(w:Wf m)(a:Ok m h){v:Value}{d:List Value}(o:fi m h T v d){x:Value}(M:bw x=true)(E:(d.length+1)*i.bytes<=70368744177664)(y:d.length+1<=1099511627776):
  ∃(b:Option Addr)(n c:Nat)(u:bp),aJ P t t v (jE 1 1 h.next) (h.push (.cells [x] T 1 true))=some (.slice b n c,u)/\n=d.length+1/\fi m (u.app (h.push (.cells [x] T 1 true))) T (.slice b n c) (d++[x])/\Ok m (u.app (h.push (.cells [x] T 1 true))):=by
 have I:ch P t=true:=by unfold ch;rw[D]
 have p:cQ (h.push (.cells [x] T 1 true)) i.size (jE 1 1 h.next)=some ([x],1):=by
  show(match (h.push (.cells [x] T 1 true)).get h.next with|some (.cells cs ..)=>if((cs.drop 0).take (1*i.size)).length=1*i.size then some ((cs.drop 0).take (1*i.size),1)else none|_=>none)=_;rw[aa.aN,if_pos rfl,r];rfl
 have z:=fi.push a o (.cells [x] T 1 true);have e:=a.push (.cells [x] T 1 true);generalize G:h.push (.cells [x] T 1 true)=g at*;have K:h.next<g.next:=by rw[<-G];exact Nat.lt_succ_self _
 unfold aJ;rw[D];dsimp only;rw[F];dsimp only;rw[if_pos I,p];dsimp only;rw[if_pos (by grind)];rcases z with⟨rfl,rfl⟩|⟨k,cs,rfl,A,q,N,O⟩
 ·show ∃b n c u,(if 1=0 then some (Value.slice none 0 0,bp.no)else if 1*i.bytes<=70368744177664/\1<=1099511627776 then some (Value.slice (some ⟨g.next,0,none⟩) 1 (cj+1),bp.push (.cells [x] T i.size true))else none)=_/\_;rw[if_neg (by omega),if_pos (by grind)];refine⟨_,_,_,_,rfl,rfl,.inr ⟨g.next,[x],rfl,e.nx,?_,rfl,by simp⟩,e.push _⟩;show(g.push (.cells [x] T i.size true)).get g.next=_;rw[aa.aN,if_pos rfl,r]
 ·dsimp only;rw[if_neg (by omega),r,mul_one];have s:aW (cj+cs.length)=cs.length:=by unfold aW;rw[if_pos (by omega)];omega
  rw[s];have B:=e.wf _ _ q;by_cases f:d.length+1<=cs.length
  ·rw[if_pos f];unfold storeAt;rw[zero_add,q];dsimp only;rw[if_pos ⟨by omega,by grind⟩];refine⟨_,_,_,_,rfl,rfl,.inr ⟨k,cs.take d.length++[x]++cs.drop (d.length+1),?_,A,?_,?_,?_⟩,?_⟩
   ·grind
   ·show(g.set k _).get k=_;simp[aa.ay]
   ·grind
   ·grind
   ·exact e.set _ A B w
  ·rw[if_neg f];have J:cs.length=d.length:=by omega
   unfold gU;rw[if_pos ⟨E,y⟩,q];dsimp only;rw[mul_one,if_pos ⟨rfl,rfl,by grind⟩,if_neg (by omega),if_pos ⟨rfl,by omega⟩];refine⟨_,_,_,_,rfl,rfl,.inr ⟨g.next,d++[x],?_,e.nx,?_,?_,?_⟩,?_⟩
   ·grind
   ·show((g.del k).push _).get g.next=_
    simp_all[aa.aN]
   ·grind
   ·omega
   ·refine⟨?_,λj C l=>?_,Nat.le_trans e.nx (le_succ _)⟩
    ·refine aa.l5 (λj C l=>?_) _;rw[aa.dt]at l;split at l
     ·grind
     ·exact e.wf _ _ l
    ·have H:=e.ext _ _ l;have L:=e.wf _ _ H;show((g.del k).push _).get j=_;rw[aa.aN,if_neg (λT=>by have:j=g.next:=T;omega),aa.dt,if_neg (λT=>by have:=w _ _ l;omega)];omega
def Rd(h:aa)(e:TypeId)(v:Value)(a:List Value):Prop:=
 (v = .slice none 0 0/\a=[])\/ ∃k b cs c d,v = .slice (some ⟨k,b,none⟩) a.length c/\h.get k=some (.cells cs e 1 d)/\(cs.drop b).take a.length=a
theorem fi.rd{h0:aa}(o:fi h0 h T v c):Rd h T v c:=by
 rcases o with o|⟨k,cs,b,d,a,e,f⟩
 ·exact .inl o
 ·exact .inr ⟨k,0,cs,_,true,b,a,by grind⟩
theorem Rd.ok(r:Rd h T v d)(o:Ok h g):Rd g T v d:=by
 rcases r with r|⟨k,a,cs,c,f,e,i,b⟩
 ·exact .inl r
 ·exact .inr ⟨k,a,cs,c,f,e,o.ext _ _ i,b⟩
theorem Rd.len{c:Nat}(r:Rd h T (.slice a n c) d):n=d.length:=by
 rcases r with⟨b,rfl⟩|⟨k,e,cs,c,g,b,i,f⟩
 all_goals grind
theorem fi.len{c:Nat}(r:fi g h T (.slice a n c) d):n=d.length:=r.rd.len
theorem Rd.at_{t:TypeId}{d:TypeDesc}(s:P.underlying t=some (.slice T))(g:au P T=some 1)(o:P.underlying T=some d)(q:isAgg P T=false){h:aa}{v:Value}{a:List Value}(r:Rd h T v a){k:IntKind}{i:Int}(n:0<=i)(j:i<a.length):
  ∃p:Addr,ai P t v (.int k i)=some (.pointer (some p))/\ae P T h (.pointer (some p))=some (a.getD i.toNat undef):=by
 rcases r with⟨_,rfl⟩|⟨b,e,cs,c,l,rfl,f,m⟩
 ·grind
 ·refine⟨⟨b,e+i.toNat*1,none⟩,?_,?_⟩
  ·simp_all[ai,Addr.add]
  ·unfold ae
   grind
def AO(c:UInt8):Value:= .int .u8 (c.toNat:Nat)
theorem qJ:∀l:List UInt8,bytesOf (l.map AO)=some l
 |[]=>rfl
 |c::l=>by
  have a:c.toNat<256:=c.toNat_lt;show(if 0<=((c.toNat:Nat):Int)/\((c.toNat:Nat):Int)<256 then(bytesOf (l.map AO)).map (UInt8.ofNat ((c.toNat:Nat):Int).toNat::·)else none)=_;rw[if_pos (by omega),qJ l,Int.toNat_natCast];simp
theorem fi.ok{a:aa}(r:fi g h T v c)(o:Ok h a):fi g a T v c:=by
 rcases r with r|⟨k,cs,d,e,b,f,i⟩
 ·exact .inl r
 ·exact .inr ⟨k,cs,d,e,o.ext _ _ b,f,i⟩
theorem fi.upto{t:TypeId}(m:P.underlying t=some (.slice T))(g:au P T=some 1){f h:aa}{v:Value}{b:List Value}(r:fi f h T v b){z:Nat}(p:z<=b.length)(q:0<b.length):
  ∃a n c,bE P t v none (some (.int .i64 (z:Int))) none h=some (.slice a n c)/\fi f h T (.slice a n c) (b.take z):=by
 rcases r with⟨rfl,rfl⟩|⟨k,cs,rfl,i,e,o,s⟩
 ·grind
 ·refine⟨some ⟨k,0+0*1,none⟩,z,cj+cs.length,?_,.inr ⟨k,cs,?_,i,e,?_,?_⟩⟩
  ·unfold bE;dsimp only;rw[m];dsimp only[dH];rw[g,e];dsimp only;have d:aW (cj+cs.length)=cs.length:=by unfold aW;rw[if_pos (by omega)];omega
   rw[if_pos (by simp),d,if_pos (by omega)];have j:((z:Int)-((0:Nat):Int)).toNat=z:=by omega
   have l:((0:Nat):Int).toNat=0:=rfl;rw[j,l];rfl
  all_goals grind
theorem vN(k:IntKind)(a b:Int):qq true [.int k a,.int k b]=some (.int k (if b>a then b else a)):=by simp[qq]
theorem fR{t:TypeId}{k:IntKind}{a:Int}{b:Nat}(d:0<=a)(c:0<b):ax P .rem t (.int k a) (.int k (b:Int))=some (.int k (a%(b:Int))):=by grind[Xf]
theorem nK{t:TypeId}{a:Int}{b:Nat}(c:0<=a)(d:a<18446744073709551616)(e:0<b):ax P .quo t (.int .u64 a) (.int .u64 (b:Int))=some (.int .u64 (a/(b:Int))):=by
 rw[NA P t .u64 _ _ (by omega),Int.tdiv_eq_ediv_of_nonneg c,eg (Int.ediv_nonneg c (by omega)) (Int.lt_of_le_of_lt (Int.ediv_le_self _ c) d)]
def setAt:List Nat->Code->Code->Code
 |[],n,_=>n
 |0::p,n,.seq a b=> .seq (setAt p n a) b
 |_::p,n,.seq a b=> .seq a (setAt p n b)
 |0::p,n,.cond c a b=> .cond c (setAt p n a) b
 |_::p,n,.cond c a b=> .cond c a (setAt p n b)
 |_::p,n,.block i c=> .block i (setAt p n c)
 |_::p,n,.loop c=> .loop (setAt p n c)
 |_::_,_,c=>c
theorem jf:∀(p:List Nat)(c:Code),setAt p (jD p c) c=c
 |[],c=>rfl
 |i::p,c=>by
  cases c with
  |seq a b=>cases i<;>simp only[jD,setAt,jf p]
  |cond c a b=>cases i<;>simp only[jD,setAt,jf p]
  |block i c=>simp only[jD,setAt,jf p]
  |loop c=>simp only[jD,setAt,jf p]
  |_=>simp only[setAt]
theorem fi.adW{t:TypeId}{i:TypeInfo}(I:P.underlying t=some (.slice T))(K:dC P T=some i)(z:i.size=1){q h:aa}(D:Wf q)(a:Ok q h){v:Value}{f:List Value}(o:fi q h T v f){x:Value}(U:bw x=true)(J:(f.length+1)*i.bytes<=70368744177664)(E:f.length+1<=1099511627776):
  ∃(b:Option Addr)(n c:Nat)(u:bp),aJ P t t v (jE 1 1 h.next) (h.push (.cells [x] T 1 true))=some (.slice b n c,u)/\n=f.length+1/\fi q (u.app (h.push (.cells [x] T 1 true))) T (.slice b n c) (f++[x])/\Ok q (u.app (h.push (.cells [x] T 1 true)))/\
   (∀j B,h.get j=some B->(∀o n c,v≠ .slice (some ⟨j,o,none⟩) n c)->(u.app (h.push (.cells [x] T 1 true))).get j=some B)/\
   (∀j o m d,Value.slice b n c = .slice (some ⟨j,o,none⟩) m d->h.next<=j\/ ∃o n c,v = .slice (some ⟨j,o,none⟩) n c):=by
 have N:ch P t=true:=by unfold ch;rw[I]
 have s:cQ (h.push (.cells [x] T 1 true)) i.size (jE 1 1 h.next)=some ([x],1):=by
  show(match (h.push (.cells [x] T 1 true)).get h.next with|some (.cells cs ..)=>if((cs.drop 0).take (1*i.size)).length=1*i.size then some ((cs.drop 0).take (1*i.size),1)else none|_=>none)=_;rw[aa.aN,if_pos rfl,z];rfl
 have F:=fi.push a o (.cells [x] T 1 true);have l:=a.push (.cells [x] T 1 true);have O:∀j B,h.get j=some B->(h.push (.cells [x] T 1 true)).get j=some B:=λj B e=>by
  rw[aa.aN,if_neg (λT=>by have:=a.wf _ _ e;omega)];omega
 have r:∀j B,h.get j=some B->j<h.next:=λj B e=>a.wf _ _ e;generalize L:h.push (.cells [x] T 1 true)=g at*;have R:h.next<g.next:=by rw[<-L];exact Nat.lt_succ_self _
 unfold aJ;rw[I];dsimp only;rw[K];dsimp only;rw[if_pos N,s];dsimp only;rw[if_pos (by grind)];rcases F with⟨rfl,rfl⟩|⟨k,cs,rfl,G,y,V,W⟩
 ·show ∃b n c u,(if 1=0 then some (Value.slice none 0 0,bp.no)else if 1*i.bytes<=70368744177664/\1<=1099511627776 then some (Value.slice (some ⟨g.next,0,none⟩) 1 (cj+1),bp.push (.cells [x] T i.size true))else none)=_/\_;rw[if_neg (by omega),if_pos (by grind)];refine⟨_,_,_,_,rfl,rfl,.inr ⟨g.next,[x],rfl,l.nx,?_,rfl,by simp⟩,l.push _,λj B e _=>?_,λj o m d T=> .inl ?_⟩
  rotate_left
  ·show(g.push _).get j=_;rw[aa.aN,if_neg (λT=>by have:=r _ _ e;omega)]
   grind
  ·grind
  show(g.push (.cells [x] T i.size true)).get g.next=_;rw[aa.aN,if_pos rfl,z]
 ·dsimp only;rw[if_neg (by omega),z,mul_one];have A:aW (cj+cs.length)=cs.length:=by unfold aW;rw[if_pos (by omega)];omega
  rw[A];have H:=l.wf _ _ y;by_cases p:f.length+1<=cs.length
  ·rw[if_pos p];unfold storeAt;rw[zero_add,y];dsimp only;rw[if_pos ⟨by omega,by grind⟩];refine⟨_,_,_,_,rfl,rfl,.inr ⟨k,cs.take f.length++[x]++cs.drop (f.length+1),?_,G,?_,?_,?_⟩,?_,λj B e w=>?_,λj o m d T=> .inr ?_⟩
   rotate_left 5
   ·show(g.set k _).get j=_;rw[aa.ay,if_neg (λT=>w 0 _ _ (by rw[T]))]
    grind
   ·grind
   ·grind
   ·show(g.set k _).get k=_;simp[aa.ay]
   ·grind
   ·grind
   ·exact l.set _ G H D
  ·rw[if_neg p];have Q:cs.length=f.length:=by omega
   unfold gU;rw[if_pos ⟨J,E⟩,y];dsimp only;rw[mul_one,if_pos ⟨rfl,rfl,by grind⟩,if_neg (by omega),if_pos ⟨rfl,by omega⟩];refine⟨_,_,_,_,rfl,rfl,.inr ⟨g.next,f++[x],?_,l.nx,?_,?_,?_⟩,?_,λj B e w=>?_,λj o m d T=> .inl ?_⟩
   rotate_left 5
   ·show((g.del k).push _).get j=_;rw[aa.aN,if_neg (λT=>by have:=r _ _ e;have:j=g.next:=T;omega),aa.dt,if_neg (λT=>w 0 _ _ (by rw[T]))]
    grind
   ·grind
   ·grind
   ·show((g.del k).push _).get g.next=_
    simp_all[aa.aN]
   ·grind
   ·omega
   ·refine⟨?_,λj C e=>?_,Nat.le_trans l.nx (le_succ _)⟩
    ·refine aa.l5 (λj C e=>?_) _;rw[aa.dt]at e;split at e
     ·grind
     ·exact l.wf _ _ e
    ·have M:=l.ext _ _ e;have S:=l.wf _ _ M;show((g.del k).push _).get j=_;rw[aa.aN,if_neg (λT=>by have:j=g.next:=T;omega),aa.dt,if_neg (λT=>by have:=D _ _ e;omega)];omega
variable{f:FuncId}
def KI(b h:aa)(e:TypeId)(v:Value)(a:List Value):Prop:=
 (v = .slice none 0 0/\a=[])\/ ∃k,v = .slice (some ⟨k,0,none⟩) a.length (cj+a.length)/\b.next<=k/\h.get k=some (.cells a e 1 true)
theorem KI.wX{t y:TypeId}{i:TypeInfo}(K:P.underlying t=some (.slice T))(E:dC P T=some i)(F:i.size=1)(J:ch P y=true){g h:aa}(z:Wf g)(a:Ok g h){v:Value}{f:List Value}(o:KI g h T v f){x:Value}{d:List Value}(p:cQ h 1 x=some (d,d.length))(G:d.all bw=true)(D:(f.length+d.length)*i.bytes<=70368744177664)(w:f.length+d.length<=1099511627776):
  ∃(b:Option Addr)(n c:Nat)(u:bp),aJ P t y v x h=some (.slice b n c,u)/\KI g (u.app h) T (.slice b n c) (f++d)/\Ok g (u.app h)/\(∀j B,h.get j=some B->(∀o n c,v≠ .slice (some ⟨j,o,none⟩) n c)->(u.app h).get j=some B):=by
 have m:∀j B,h.get j=some B->j<h.next:=λj B e=>a.wf _ _ e;unfold aJ;rw[K];dsimp only;rw[E];dsimp only;rw[if_pos J,F,p];dsimp only;rw[if_pos ⟨G,by omega⟩];rcases o with⟨rfl,rfl⟩|⟨k,rfl,H,r⟩
 ·show ∃b n c u,(if d.length=0 then some (Value.slice none 0 0,bp.no)else if d.length*i.bytes<=70368744177664/\d.length<=1099511627776 then some (Value.slice (some ⟨h.next,0,none⟩) d.length (cj+d.length),bp.push (.cells d T 1 true))else none)=_/\_;by_cases l:d.length=0
  ·have q:d=[]:=eq_nil_of_length_eq_zero l;subst q;exact⟨_,_,_,_,rfl,.inl ⟨rfl,rfl⟩,a,λj B e _=>e⟩
  ·rw[if_neg l,if_pos (by grind)];refine⟨_,_,_,_,rfl,.inr ⟨h.next,by simp,a.nx,?_⟩,a.push _,λj B e _=>?_⟩
   ·show(h.push _).get h.next=_;simp[aa.aN]
   ·show(h.push _).get j=_;rw[aa.aN,if_neg (λT=>by have:=m _ _ e;omega)];omega
 ·dsimp only;have L:=a.wf _ _ r;by_cases l:d.length=0
  ·have q:d=[]:=eq_nil_of_length_eq_zero l;subst q;refine⟨_,_,_,_,rfl,.inr ⟨k,by simp,H,by rw[append_nil];exact r⟩,a,λj B e _=>e⟩
  ·rw[if_neg l,mul_one];have s:aW (cj+f.length)=f.length:=by unfold aW;rw[if_pos (by omega)];omega
   rw[s,if_neg (by omega)];unfold gU;rw[if_pos ⟨D,w⟩,r];dsimp only;rw[mul_one,if_pos ⟨rfl,rfl,by simp⟩,if_neg (by omega),if_pos ⟨rfl,by omega⟩];refine⟨_,_,_,_,rfl,.inr ⟨h.next,by simp,a.nx,?_⟩,?_,λj B e A=>?_⟩
   ·show((h.del k).push _).get h.next=_
    simp_all[aa.aN]
   ·refine⟨?_,λj C e=>?_,Nat.le_trans a.nx (le_succ _)⟩
    ·refine aa.l5 (λj C e=>?_) _;rw[aa.dt]at e
     simp_all
    ·have I:=a.ext _ _ e;have M:=a.wf _ _ I;show((h.del k).push _).get j=_;rw[aa.aN,if_neg (λT=>by have:j=h.next:=T;omega),aa.dt,if_neg (λT=>by have:=z _ _ e;omega)];omega
   ·show((h.del k).push _).get j=_;rw[aa.aN,if_neg (λT=>by have:=m _ _ e;have:j=h.next:=T;omega),aa.dt,if_neg (λT=>A 0 _ _ (by rw[T]))];omega
theorem rR{p:kS}{h':aa}(a:Nat.ble YB f=false)(i:X.pr f=some p)(j:∀d,p d c h=some (v,h'))(b:Q v h'):FW X f c h Q:=by
 refine⟨v,h',⟨1,λn g=>?_⟩,b⟩;obtain⟨m,rfl⟩:∃m,n=m+1:=⟨n-1,by omega⟩
 have e:¬YB<=f:=λh=>by rw[<-Nat.ble_eq]at h;rw[a]at h;cases h
 simp_all[if_neg,bn]
variable{m:Nat}
theorem OX(k i j:Nat):Addr.add ⟨k,i,none⟩ j=⟨k,i+j,none⟩:=by simp[Addr.add]
theorem FU{t:TypeId}(e:P.underlying t=some (.slice T))(a:au P T=some m){k off n c:Nat}{ik:IntKind}{i:Int}(d:0<=i)(b:i<n):ai P t (.slice (some ⟨k,off,none⟩) n c) (.int ik i)=some (.pointer (some ⟨k,off+i.toNat*m,none⟩)):=by simp_all[OX,ai]
theorem aR{t:TypeId}{d:TypeDesc}(f:P.underlying t=some d)(a:isAgg P t=false){h:aa}{k i:Nat}{cs:List Value}{e:TypeId}{sz:Nat}{wr:Bool}(c:h.get k=some (.cells cs e sz wr))(b:i<cs.length):ae P t h (.pointer (some ⟨k,i,none⟩))=some (cs.getD i undef):=by simp_all[ae]
theorem gG{t:TypeId}{d:TypeDesc}(j:P.underlying t=some d)(c:isAgg P t=true)(b:au P t=some n){h:aa}{k i:Nat}{cs:List Value}{e:TypeId}{z:Nat}{a:Bool}(g:h.get k=some (.cells cs e z a))(f:i+n<=cs.length):ae P t h (.pointer (some ⟨k,i,none⟩))=some (.agg ⟨(cs.drop i).take n⟩):=by
 unfold ae
 grind
theorem bG{t:TypeId}(c:au P t=some 1){h:aa}{k i:Nat}{cs:List Value}{e:TypeId}{a:Nat}(d:h.get k=some (.cells cs e a true))(g:i<cs.length){v:Value}(b:bw v=true)(f:v.cells = #[v]):aj P t (.pointer (some ⟨k,i,none⟩)) v h=some (undef,.set k (.cells (cs.set i v) e a true)):=by
 unfold aj;dsimp only;rw[f,if_pos (show au P t=some (#[v]:Array Value).size from c)];unfold storeAt;rw[d];dsimp only;rw[if_pos ⟨by simp;omega,by simp[b]⟩]
 simp_all[List.set_eq_take_append_cons_drop]
structure uE(hb:aa)(kt:Nat)(e:TypeId)(vs:List Value)(g:aa):Prop where
 row:g.get kt=some (.cells vs e 1 true)
 new:hb.next<=kt
 ok:Ok hb g
theorem uE.lt(m:uE h n T c g):n<g.next:=m.ok.wf _ _ m.row
theorem uE.trans{a:aa}(m:uE h n T c g)(o:Ok g a):uE h n T c a:=⟨o.ext _ _ m.row,m.new,m.ok.trans o⟩
theorem uE.set(w:Wf h){a:Nat}{e:TypeId}{b:List Value}{g:aa}(m:uE h a e b g)(j:Nat)(v:Value):uE h a e (b.set j v) ((bp.set a (.cells (b.set j v) e 1 true)).app g):=by
 refine⟨?_,m.new,m.ok.set _ m.new m.lt w⟩;show(g.set a _).get a=_;rw[aa.ay,if_pos rfl]
theorem lA(z:Value)(n:Nat):bO [z] n=List.replicate n z:=by
 induction n with
 |zero=>rfl
 |succ n a=>grind[bO]
theorem Zt(f:A->Value)(L:List A)(j:Nat)(d:A):(L.map f).set j (f d)=(L.set j d).map f:=by simp
variable{L:List (List Value)}
def sV:Value:= .slice (some ⟨0,0,some 0⟩) 0 0
def wT(h:aa)(e:TypeId)(d:Nat)(v:Value)(b:List (List Value)):Prop:=
 (∀r∈b,r.length=d)/\(((v = .slice none 0 0\/v=sV)/\b=[])\/ ∃k a cs f z c g,v = .slice (some ⟨k,a,none⟩) b.length c/\h.get k=some (.cells cs f z g)/\a+b.length*d<=cs.length/\∀(i:Nat)(r:List Value),b[i]?=some r->(cs.drop (a+i*d)).take d=r)
theorem wT.ok(r:wT h T n v L)(o:Ok h g):wT g T n v L:=by
 obtain⟨a,r|⟨k,b,cs,d,z,c,i,f,j,e,l⟩⟩:=r
 ·exact⟨a,.inl r⟩
 ·exact⟨a,.inr ⟨k,b,cs,d,z,c,i,f,o.ext _ _ j,e,l⟩⟩
theorem wT.len{c:Nat}(r:wT h T n (.slice a m c) L):m=L.length:=by
 obtain⟨_,⟨b|b,rfl⟩|⟨k,d,cs,e,z,c,g,b,i,f,j⟩⟩:=r
 all_goals grind[sV]
theorem wT.oa(r:wT h T n v L):∃(a:Option Addr)(c:Nat),v = .slice a L.length c:=by
 obtain⟨_,⟨b|b,rfl⟩|⟨k,d,cs,e,z,c,g,b,i,f,j⟩⟩:=r
 ·exact⟨_,_,b⟩
 ·exact⟨_,_,b⟩
 grind
theorem wT.at_{t:TypeId}{d:TypeDesc}(L:P.underlying t=some (.slice T))(E:au P T=some n)(J:P.underlying T=some d)(K:isAgg P T=true){h:aa}{v:Value}{a:List (List Value)}(r:wT h T n v a){ik:IntKind}{i:Int}(I:0<=i)(F:i<a.length):
  ∃(k o:Nat),ai P t v (.int ik i)=some (.pointer (some ⟨k,o,none⟩))/\ae P T h (.pointer (some ⟨k,o,none⟩))=some (.agg ⟨a.getD i.toNat []⟩)/\
   ∀(e:TypeId)(g:TypeDesc)(j:Nat),P.underlying e=some g->isAgg P e=false->j<n->ae P e h (.pointer (some ⟨k,o+j,none⟩))=some ((a.getD i.toNat []).getD j undef):=by
 obtain⟨D,⟨_,rfl⟩|⟨b,f,cs,C,z,c,G,rfl,w,H,B⟩⟩:=r
 ·grind
 ·have m:i.toNat<a.length:=by omega
  have y:a[i.toNat]?=some (a.getD i.toNat []):=by rw[gD,gE m];rfl
  have l:=B _ _ y;have p:(i.toNat+1)*n<=a.length*n:=mul_le_mul_right _ m;rw[add_mul,one_mul]at p;obtain⟨q,x⟩:∃q,q=i.toNat*n:=⟨_,rfl⟩
  rw[<-x]at l p;refine⟨b,f+q,?_,?_,λe g j u s A=>?_⟩
  ·grind[FU]
  ·grind[gG]
  ·rw[aR u s w (by omega),<-l,gD,gD,getElem?_take,if_pos A,getElem?_drop]
def bZ:Value->Option Nat
 |.slice (some a) _ _=>some a.block
 |_=>none
def iu(d h:aa)(e:TypeId)(v:Value)(a:List Value):Prop:=
 (v = .slice none 0 0/\a=[])\/ ∃k b cs c,v = .slice (some ⟨k,b,none⟩) a.length c/\d.next<=k/\h.get k=some (.cells cs e 1 true)/\(cs.drop b).take a.length=a/\aW c+b=cs.length/\a.length<=aW c
theorem iu.rd{h0:aa}(o:iu h0 h T v d):Rd h T v d:=by
 rcases o with o|⟨k,a,cs,c,e,g,b,f,j,i⟩
 ·exact .inl o
 ·exact .inr ⟨k,a,cs,c,true,e,b,f⟩
theorem iu.jO{e:aa}(o:iu g h T v d)(l:∀(k:Nat) (B:bu),bZ v=some k->h.get k=some B->e.get k=some B):iu g e T v d:=by
 rcases o with o|⟨k,a,cs,c,b,i,f,j,n,m⟩
 ·exact .inl o
 ·exact .inr ⟨k,a,cs,c,b,i,l k _ (by rw[b];rfl) f,j,n,m⟩
theorem iu.ok{a:aa}(r:iu g h T v c)(o:Ok h a):iu g a T v c:=r.jO λk B _ b=>o.ext _ _ b
theorem iu.lt(o:iu g h T v d)(w:Wf h){k:Nat}(a:bZ v=some k):k<h.next/\g.next<=k:=by
 rcases o with⟨rfl,_⟩|⟨b,j,cs,c,f,i,e,l,n,m⟩
 ·cases a
 ·rw[f]at a;obtain rfl:b=k:=oI a;exact⟨w _ _ e,i⟩
theorem iu.nil(a h:aa)(e:TypeId):iu a h e (.slice none 0 0) []:= .inl ⟨rfl,rfl⟩
theorem iu.oa(o:iu g h T v d):∃(a:Option Addr)(c:Nat),v = .slice a d.length c:=by
 rcases o with⟨rfl,rfl⟩|⟨k,e,cs,c,b,i,f,j,m,l⟩
 ·exact⟨_,_,rfl⟩
 ·exact⟨_,_,b⟩
theorem iu.snoc{t:TypeId}{i:TypeInfo}(J:P.underlying t=some (.slice T))(M:dC P T=some i)(q:i.size=1){m g:aa}(E:Wf m)(a:Ok m g){v:Value}{d:List Value}(o:iu m g T v d){x:Value}(G:bw x=true){s:Nat}(D:g.get s=some (.cells [x] T 1 true))(F:(d.length+1)*i.bytes<=70368744177664)(w:d.length+1<=1099511627776):
  ∃(b:Option Addr)(n c:Nat)(u:bp),aJ P t t v (.slice (some ⟨s,0,none⟩) 1 1) g=some (.slice b n c,u)/\n=d.length+1/\iu m (u.app g) T (.slice b n c) (d++[x])/\Ok m (u.app g)/\
   (∀j B,g.get j=some B->bZ v≠some j->(u.app g).get j=some B)/\
   (∀j,bZ (.slice b n c)=some j->g.next<=j\/bZ v=some j)/\g.next<=(u.app g).next:=by
 have N:ch P t=true:=by unfold ch;rw[J]
 have y:cQ g i.size (.slice (some ⟨s,0,none⟩) 1 1)=some ([x],1):=by
  show(match g.get s with|some (.cells cs ..)=>if((cs.drop 0).take (1*i.size)).length=1*i.size then some ((cs.drop 0).take (1*i.size),1)else none|_=>none)=_;rw[D,q];rfl
 unfold aJ;rw[J];dsimp only;rw[M];dsimp only;rw[if_pos N,y];dsimp only;rw[if_pos (by simp[G,q])];rcases o with⟨rfl,rfl⟩|⟨k,f,cs,c,rfl,H,z,r,R,Q⟩
 ·show ∃b n c u,(if 1=0 then some (Value.slice none 0 0,bp.no)else if 1*i.bytes<=70368744177664/\1<=1099511627776 then some (Value.slice (some ⟨g.next,0,none⟩) 1 (cj+1),bp.push (.cells [x] T i.size true))else none)=_/\_;rw[if_neg (by omega),if_pos (by simpa using And.intro F w)];refine⟨_,_,_,_,rfl,rfl,.inr ⟨g.next,0,[x],cj+1,rfl,a.nx,?_,rfl,by rw[cw];rfl,by rw[cw];exact Nat.le_refl _⟩,a.push _,λj B e _=>?_,λj T=> .inl ?_,le_succ _⟩
  ·show(g.push (.cells [x] T i.size true)).get g.next=_;rw[aa.aN,if_pos rfl,q]
  ·show(g.push _).get j=_;rw[aa.aN,if_neg (λT=>by have:=a.wf _ _ e;omega)];exact e
  ·have:g.next=j:=oI T;omega
 ·dsimp only;rw[if_neg (by omega),q,mul_one];have I:=a.wf _ _ z;by_cases h:d.length+1<=aW c
  ·rw[if_pos h];unfold storeAt;rw[z];dsimp only;rw[if_pos ⟨by simp;omega,by simp[G]⟩];refine⟨_,_,_,_,rfl,rfl,.inr ⟨k,f,cs.take (f+d.length)++[x]++cs.drop (f+d.length+1),c,?_,H,?_,?_,?_,?_⟩,?_,λj B e p=>?_,λj T=> .inr T,Nat.le_refl _⟩
   ·simp
   ·show(g.set k _).get k=_;rw[aa.ay,if_pos rfl];rfl
   ·have l:(cs.take (f+d.length)).length=f+d.length:=by rw[length_take];omega
    rw[append_assoc,List.drop_append_of_le_length (by rw[l];omega),drop_take,show f+d.length-f=d.length by omega,r,length_append,length_cons,List.length_nil,List.take_append,take_of_length_le (by omega)];congr 1;rw[show d.length+(0+1)-d.length=1 by omega];rfl
   ·simp;omega
   ·simp;omega
   ·exact a.set _ H I E
   ·show(g.set k _).get j=_;rw[aa.ay,if_neg (λT=>p (by rw[T];rfl))];exact e
  ·rw[if_neg h];have O:aW c=d.length:=by omega
   have l:((cs.drop f).take d.length).length=d.length:=by rw[r]
   unfold gU;rw[if_pos ⟨F,w⟩,z];dsimp only;rw[mul_one,if_pos ⟨rfl,rfl,l⟩];have A:∀B:bu,iu m ((g.push (.cells (d++[x]) T 1 true))) T (.slice (some ⟨g.next,0,none⟩) (d.length+1) (cj+(d.length+1))) (d++[x]):=λ_=>
    .inr ⟨g.next,0,d++[x],cj+(d.length+1),by rw[length_append];rfl,a.nx,by rw[aa.aN,if_pos rfl],by rw[drop_zero,take_length],by rw[cw,length_append];rfl,by rw[cw,length_append];exact Nat.le_refl _⟩
   by_cases K:c<cj
   ·rw[if_pos K,r];refine⟨_,_,_,_,rfl,rfl,A (.map []),a.push _,λj B e _=>?_,λj T=> .inl ?_,le_succ _⟩
    ·show(g.push _).get j=_;rw[aa.aN,if_neg (λT=>by have:=a.wf _ _ e;omega)];exact e
    ·have:g.next=j:=oI T;omega
   ·rw[if_neg K,if_pos ⟨rfl,by omega⟩,r];refine⟨_,_,_,_,rfl,rfl,.inr ⟨g.next,0,d++[x],cj+(d.length+1),by rw[length_append];rfl,a.nx,?_,by rw[drop_zero,take_length],by rw[cw,length_append];rfl,by rw[cw,length_append];exact Nat.le_refl _⟩,?_,λj B e p=>?_,λj T=> .inl ?_,le_succ _⟩
    ·show((g.del k).push _).get g.next=_;rw[aa.aN,if_pos (show g.next=(g.del k).next from rfl)]
    ·refine⟨?_,λj C e=>?_,Nat.le_trans a.nx (le_succ _)⟩
     ·refine aa.l5 (λj C e=>?_) _;rw[aa.dt]at e;split at e
      ·cases e
      ·exact a.wf _ _ e
     ·have l:=a.ext _ _ e;have L:=a.wf _ _ l;show((g.del k).push _).get j=_;rw[aa.aN,if_neg (λT=>by have:j=g.next:=T;omega),aa.dt,if_neg (λT=>by have:=E _ _ e;omega)];exact l
    ·have L:=a.wf _ _ e;show((g.del k).push _).get j=_;rw[aa.aN,if_neg (λT=>by have:j=g.next:=T;omega),aa.dt,if_neg (λT=>p (by rw[T];rfl))];exact e
    ·have:g.next=j:=oI T;omega
theorem iu.upto{t:TypeId}(s:P.underlying t=some (.slice T))(i:au P T=some 1){g h:aa}{v:Value}{b:List Value}(r:iu g h T v b){z:Nat}(e:z<=b.length)(p:0<b.length):
  ∃a n c,bE P t v none (some (.int .i64 (z:Int))) none h=some (.slice a n c)/\iu g h T (.slice a n c) (b.take z)/\bZ (.slice a n c)=bZ v:=by
 rcases r with⟨rfl,rfl⟩|⟨k,d,cs,c,rfl,j,f,l,q,u⟩
 ·simp at p
 ·refine⟨some ⟨k,d+0*1,none⟩,z,c,?_,.inr ⟨k,d,cs,c,?_,j,f,?_,q,?_⟩,rfl⟩
  ·unfold bE;dsimp only;rw[s];dsimp only[dH];rw[i,f];dsimp only;rw[if_pos (by simp),if_pos (by omega)];have m:((z:Int)-((0:Nat):Int)).toNat=z:=by omega
   have o:((0:Nat):Int).toNat=0:=rfl;rw[m,o];rfl
  ·rw[length_take,min_eq_left e];rfl
  ·rw[length_take,min_eq_left e,<-l,List.take_take,min_eq_left e]
  ·rw[length_take];omega
variable{k:Nat}
theorem mg{a:Nat}:∀{l:List (List Value)},(∀r∈l,r.length=a)->l.flatten.length=l.length*a
 |[],_=>by simp
 |r::l,h=>by
  rw[flatten_cons,length_append,mg λx b=>h x (mem_cons_of_mem _ b),h r (mem_cons_self ..),length_cons,add_mul,one_mul,add_comm]
theorem IE{a:Nat}:∀{l:List (List Value)},(∀r∈l,r.length=a)->∀{i:Nat}{r:List Value},l[i]?=some r->(l.flatten.drop (i*a)).take a=r
 |[],_,i,r,h=>by grind
 |x::l,b,0,r,h=>by grind
 |x::l,b,i+1,r,h=>by
  have c:=b x (mem_cons_self ..);rw[flatten_cons,add_mul,one_mul,List.drop_append,drop_eq_nil_of_le (by omega),nil_append,c,show i*a+a-a=i*a by omega];exact IE (λy d=>b y (mem_cons_of_mem _ d)) (by grind)
theorem Eb{a:Nat}:∀{l:List (List Value)},(∀r∈l,r.length=a)->∀{i j:Nat}{r:List Value}{v:Value},l[i]?=some r->j<a->(l.set i (r.set j v)).flatten=l.flatten.set (i*a+j) v
 |[],_,i,j,r,v,h,_=>by rfl
 |x::l,b,0,j,r,v,h,c=>by grind
 |x::l,b,i+1,j,r,v,h,c=>by
  have d:=b x (mem_cons_self ..);rw[List.set_cons_succ,flatten_cons,flatten_cons,Eb (λy e=>b y (mem_cons_of_mem _ e)) (by grind) c,List.set_append,if_neg (by grind),add_mul,one_mul,d,show i*a+a+j-a=i*a+j by omega]
def eZ(f h:aa)(e:TypeId)(d:Nat)(v:Value)(a:List (List Value)):Prop:=
 (∀r∈a,r.length=d)/\((v = .slice none 0 0/\a=[])\/ ∃k b cs c,v = .slice (some ⟨k,b,none⟩) a.length c/\f.next<=k/\h.get k=some (.cells cs e d true)/\(cs.drop b).take (a.length*d)=a.flatten/\aW c*d+b=cs.length/\a.length<=aW c)
theorem eZ.rd{h0:aa}(o:eZ h0 h T n v L):wT h T n v L:=by
 obtain⟨a,⟨b,f⟩|⟨k,e,cs,c,b,f,j,s,t,m⟩⟩:=o
 ·exact⟨a,.inl ⟨.inl b,f⟩⟩
 ·have q:=mul_le_mul_right n m;refine⟨a,.inr ⟨k,e,cs,T,n,c,true,b,j,by omega,λi r g=>?_⟩⟩;have p:=IE a g;have d:i<L.length:=(List.getElem?_eq_some_iff.1 g).1;have l:(i+1)*n<=L.length*n:=mul_le_mul_right _ d;rw[add_mul,one_mul]at l
  grind[drop_take,drop_drop]
theorem eZ.jO{e:aa}(o:eZ g h T n v L)(l:∀(k:Nat) (B:bu),bZ v=some k->h.get k=some B->e.get k=some B):eZ g e T n v L:=by
 obtain⟨a,o|⟨k,b,cs,c,d,i,f,j,p,m⟩⟩:=o
 ·exact⟨a,.inl o⟩
 ·exact⟨a,.inr ⟨k,b,cs,c,d,i,l k _ (by rw[d];rfl) f,j,p,m⟩⟩
theorem eZ.ok{a:aa}(r:eZ g h T n v L)(o:Ok h a):eZ g a T n v L:=r.jO λk B _ b=>o.ext _ _ b
theorem eZ.lt(o:eZ g h T n v L)(w:Wf h){k:Nat}(a:bZ v=some k):k<h.next/\g.next<=k:=by
 obtain⟨_,⟨rfl,_⟩|⟨b,i,cs,c,e,f,d,j,m,l⟩⟩:=o
 ·cases a
 ·rw[e]at a;obtain rfl:b=k:=oI a;exact⟨w _ _ d,f⟩
theorem eZ.nil(b h:aa)(e:TypeId)(a:Nat):eZ b h e a (.slice none 0 0) []:=⟨λr c=>(by grind),.inl ⟨rfl,rfl⟩⟩
theorem eZ.oa(o:eZ g h T n v L):∃(a:Option Addr)(c:Nat),v = .slice a L.length c:=o.rd.oa
theorem eZ.made{h0:aa}{rs:List (List Value)}(e:h.get k=some (.cells rs.flatten T n true))(b:∀r∈rs,r.length=n)(a:h0.next<=k)(f:rs.length<cj):eZ h0 h T n (.slice (some ⟨k,0,none⟩) rs.length rs.length) rs:=by
 have c:aW rs.length=rs.length:=by unfold aW;rw[if_neg (by omega)]
 have d:=mg b;exact⟨b,.inr ⟨k,0,rs.flatten,rs.length,rfl,a,e,by rw[drop_zero,take_of_length_le (by omega)],by rw[c,d];rfl,by rw[c];exact Nat.le_refl _⟩⟩
theorem eZ.add{t e:TypeId}{i:TypeInfo}(hU:P.underlying t=some (.slice e))(W:dC P e=some i)(X:i.size=n)(Y:ch P T=true){y g:aa}(K:Wf y)(a:Ok y g){v:Value}{d:List (List Value)}(o:eZ y g e n v d){x:Value}{ns:List (List Value)}(D:cQ g n x=some (ns.flatten,ns.length))(A:∀r∈ns,r.length=n)(M:ns.flatten.all bw=true)(E:(d.length+ns.length)*i.bytes<=70368744177664)(w:d.length+ns.length<=1099511627776)(L:ns.length<=1\/v = .slice none 0 0):
  ∃(b:Option Addr)(U c:Nat)(u:bp),aJ P t T v x g=some (.slice b U c,u)/\U=d.length+ns.length/\eZ y (u.app g) e n (.slice b U c) (d++ns)/\Ok y (u.app g)/\
   (∀j B,g.get j=some B->bZ v≠some j->(u.app g).get j=some B)/\
   (∀j,bZ (.slice b U c)=some j->g.next<=j\/bZ v=some j)/\g.next<=(u.app g).next:=by
 obtain⟨R,o⟩:=o;have l:∀r∈d++ns,r.length=n:=λr h=>(mem_append.1 h).elim (R r) (A r);have f1:=mg R;have Q:=mg A;unfold aJ;rw[hU];dsimp only;rw[W];dsimp only;rw[X,if_pos Y,D];dsimp only;rw[if_pos ⟨M,Q⟩];have N:∀B:bu,∀j I,g.get j=some I->(g.push B).get j=some I:=λB j I f=>by
  rw[aa.aN,if_neg (λe=>by have:=a.wf _ _ f;omega)];omega
 rcases o with⟨rfl,rfl⟩|⟨k,p,cs,c,rfl,F,z,H,h5,h6⟩
 ·by_cases q:ns.length=0
  ·rw[if_pos q];obtain rfl:=eq_nil_of_length_eq_zero q;exact⟨_,_,_,_,rfl,rfl,⟨l,.inl ⟨rfl,rfl⟩⟩,a,λj B f _=>f,λj e=> .inr e,Nat.le_refl _⟩
  ·rw[List.length_nil,zero_add]at E w;rw[if_neg q,if_pos ⟨E,w⟩];refine⟨_,_,_,_,rfl,(zero_add _).symm,⟨l,.inr ⟨g.next,0,ns.flatten,cj+ns.length,rfl,a.nx,?_,?_,by rw[cw,Q];rfl,by rw[cw];exact Nat.le_refl _⟩⟩,a.push _,λj B f _=>N _ j B f,λj e=> .inl (Nat.le_of_eq (oI e)),le_succ _⟩
   ·show(g.push _).get g.next=_;rw[aa.aN,if_pos rfl]
   grind
 ·dsimp only;by_cases q:ns.length=0
  ·rw[if_pos q];obtain rfl:=eq_nil_of_length_eq_zero q;exact⟨_,_,_,_,rfl,rfl,⟨l,.inr ⟨k,p,cs,c,by grind,F,z,by grind,h5,by grind⟩⟩,a,λj B f _=>f,λj e=> .inr e,Nat.le_refl _⟩
  have O:=a.wf _ _ z;have m1:(d.length+ns.length)*n=d.length*n+ns.length*n:=add_mul ..;rw[if_neg q];by_cases m:d.length+ns.length<=aW c
  ·rw[if_pos m];have m2:(d.length+ns.length)*n<=aW c*n:=mul_le_mul_right _ m;unfold storeAt;rw[z];dsimp only;rw[if_pos ⟨by omega,M⟩];refine⟨_,_,_,_,rfl,rfl,⟨l,.inr ⟨k,p,cs.take (p+d.length*n)++ns.flatten++cs.drop (p+d.length*n+ns.flatten.length),c,?_,F,?_,?_,?_,?_⟩⟩,?_,λj B f s=>?_,λj e=> .inr e,Nat.le_refl _⟩
   ·grind
   ·show(g.set k _).get k=_;rw[aa.ay,if_pos rfl]
   ·grind
   ·grind
   ·grind
   ·exact a.set _ F O K
   ·show(g.set k _).get j=_;rw[aa.ay,if_neg (λe=>s (by rw[e];rfl))];omega
  ·rw[if_neg m];have G:((cs.drop p).take (d.length*n)).length=d.length*n:=by rw[H,f1]
   unfold gU;rw[if_pos ⟨E,w⟩,z];dsimp only;rw[if_pos ⟨rfl,rfl,G⟩];have fl:d.flatten++ns.flatten=(d++ns).flatten:=flatten_append.symm;have J:=mg l;rw[length_append]at J;by_cases S:c<cj
   ·rw[if_pos S,H,fl];refine⟨_,_,_,_,rfl,rfl,⟨l,.inr ⟨g.next,0,(d++ns).flatten,cj+(d.length+ns.length),by rw[length_append],a.nx,?_,?_,by rw[cw,J];rfl,by rw[cw,length_append];exact Nat.le_refl _⟩⟩,a.push _,λj B f _=>N _ j B f,λj e=> .inl (Nat.le_of_eq (oI e)),le_succ _⟩
    ·show(g.push _).get g.next=_;rw[aa.aN,if_pos rfl]
    grind
   ·rw[if_neg S];have Z:aW c=d.length:=by
     rcases L with h|h
     ·omega
     ·cases h
    rw[if_pos ⟨rfl,by grind⟩,H,fl];refine⟨_,_,_,_,rfl,rfl,⟨l,.inr ⟨g.next,0,(d++ns).flatten,cj+(d.length+ns.length),by grind,a.nx,?_,?_,by rw[cw,J];rfl,by simp[cw]⟩⟩,?_,λj B f s=>?_,λj e=> .inl (Nat.le_of_eq (oI e)),le_succ _⟩
    ·show((g.del k).push _).get g.next=_
     simp_all[aa.aN]
    ·grind
    ·refine⟨?_,λj C f=>?_,Nat.le_trans a.nx (le_succ _)⟩
     ·refine aa.l5 (λj C f=>?_) _;rw[aa.dt]at f;split at f
      ·grind
      ·exact a.wf _ _ f
     ·have G:=a.ext _ _ f;have V:=a.wf _ _ G;show((g.del k).push _).get j=_;rw[aa.aN,if_neg (λe=>by have:j=g.next:=e;omega),aa.dt,if_neg (λe=>by have:=K _ _ f;omega)];omega
    ·have V:=a.wf _ _ f;show((g.del k).push _).get j=_;rw[aa.aN,if_neg (λe=>by have:j=g.next:=e;omega),aa.dt,if_neg (λe=>s (by rw[e];rfl))];omega
theorem eZ.put{e t':TypeId}{sz:Nat}(z:au P t'=some 1){f g:aa}(w:Wf f)(a:Ok f g){k b n c:Nat}{h:List (List Value)}(o:eZ f g e sz (.slice (some ⟨k,b,none⟩) n c) h){i j:Nat}{r:List Value}(l:h[i]?=some r)(G:j<sz){v':Value}(y:bw v'=true)(H:v'.cells = #[v']):
  ∃u:bp,aj P t' (.pointer (some ⟨k,b+i*sz+j,none⟩)) v' g=some (undef,u)/\eZ f (u.app g) e sz (.slice (some ⟨k,b,none⟩) n c) (h.set i (r.set j v'))/\Ok f (u.app g)/\(∀j B,g.get j=some B->k≠j->(u.app g).get j=some B)/\(u.app g).next=g.next:=by
 obtain⟨v,⟨d,_⟩|⟨M,D,cs,N,d,s,p,A,Q,F⟩⟩:=o
 ·grind
 ·injection d with d hn t
  injection d with d
  injection d with d C _
  subst d;subst C;subst t;have m:i<h.length:=(List.getElem?_eq_some_iff.1 l).1;have E:(i+1)*sz<=h.length*sz:=mul_le_mul_right _ m;have L:=mul_le_mul_right sz F;have J:=v r (List.mem_of_getElem? l);rw[add_mul,one_mul]at E;refine⟨_,bG z p (by omega) y H,⟨λO K=>?_,.inr ⟨k,b,cs.set (b+i*sz+j) v',c,?_,s,?_,?_,?_,?_⟩⟩,a.set _ s (a.wf _ _ p) w,λx B I q=>?_,rfl⟩
  ·grind
  ·grind
  ·show(g.set k _).get k=_;rw[aa.ay,if_pos rfl]
  ·rw[List.length_set,Eb v l G,<-A,List.drop_set,if_neg (by omega),List.take_set,show b+i*sz+j-b=i*sz+j by omega]
  ·grind
  ·grind
  ·show(g.set k _).get x=_;rw[aa.ay,if_neg (λe=>q e.symm)];omega
theorem eZ.at_{t:TypeId}(G:P.underlying t=some (.slice T))(w:au P T=some n){B g:aa}{k a v c:Nat}{e:List (List Value)}(o:eZ B g T n (.slice (some ⟨k,a,none⟩) v c) e){i:Nat}{r:List Value}(p:e[i]?=some r)(ik:IntKind):
  ai P t (.slice (some ⟨k,a,none⟩) v c) (.int ik (i:Int))=some (.pointer (some ⟨k,a+i*n,none⟩))/\(∀(f:TypeId)(l:TypeDesc)(j:Nat),P.underlying f=some l->isAgg P f=false->j<n->ae P f g (.pointer (some ⟨k,a+i*n+j,none⟩))=some (r.getD j undef))/\
   (∀d,P.underlying T=some d->isAgg P T=true->ae P T g (.pointer (some ⟨k,a+i*n,none⟩))=some (.agg ⟨r⟩)):=by
 have I:=o.rd.len;have h:i<e.length:=(List.getElem?_eq_some_iff.1 p).1;have m:=FU (P:=P) G w (k:=k) (off:=a) (n:=v) (c:=c) (ik:=ik) (i:=(i:Int)) (by omega) (by omega);rw[Int.toNat_natCast]at m;obtain⟨Q,⟨b,_⟩|⟨H,C,cs,K,z,J,M,b,x,L,y⟩⟩:=o.rd
 ·grind
 ·injection b with b _ q
  injection b with b
  injection b with b A _
  subst b;subst A;subst q;have D:(i+1)*n<=e.length*n:=mul_le_mul_right _ h;rw[add_mul,one_mul]at D;have F:=y i r p;refine⟨m,λf l j u s E=>?_,λd O N=>?_⟩
  ·rw[aR u s x (by omega),<-F,gD,gD,getElem?_take,if_pos E,getElem?_drop]
  grind[gG]
theorem wK(z:List Value):∀n,bO z n=(List.replicate n z).flatten:=by
 intro n
 induction n with
 |zero=>simp[bO]
 |succ n a=>rw[bO,a,List.replicate_succ,flatten_cons]
variable{M:aG}{i:Nat}{p:List Int}
section
def bC(M:aG)(s:Nat):List bJ:=(M.ak.getD s ⟨[],[]⟩).an
def gz(M:aG)(s:Nat):Prop:=(M.ak.getD s ⟨[],[]⟩).f≠[]
def opt(c:Int)(x:List Int):List Int:=if c=0 then x else c::x
theorem bP(x:List Int):opt 0 x=x:=if_pos rfl
theorem ee{c:Int}(h:c≠0)(x:List Int):opt c x=c::x:=if_neg h
theorem lX(c:Int)(x:List Int):opt c x=opt c []++x:=by unfold opt;split<;>rfl
inductive di(M:aG):Nat->List Nat->Nat->List Int->List Int->Prop
 |nil (s:Nat):di M s [] s [] []
 |cons {s i e:Nat} {a:bJ} {l:List Nat} {x y:List Int} (h:(bC M s)[i]?=some a) (r:di M a.t.toNat l e x y):di M s (i::l) e (opt a.i x) (opt a.o y)
theorem di.cons_inv{s:Nat}{l:List Nat}{x:List Int}(r:di M s (i::l) n x p):∃a c b,(bC M s)[i]?=some a/\di M a.t.toNat l n c b/\x=opt a.i c/\p=opt a.o b:=by
 cases r with
 |cons h r=>exact⟨_,_,_,h,r,rfl,rfl⟩
theorem di.dZ{s:Nat}{x:List Int}(r:di M s [] n x p):s=n/\x=[]/\p=[]:=by
 cases r with
 |nil=>exact⟨rfl,rfl,rfl⟩
theorem di.app{s:Nat}{l l':List Nat}{x c b:List Int}(r:di M s l n x p)(d:di M n l' m c b):di M s (l++l') m (x++c) (p++b):=by
 induction r with
 |nil=>exact d
 |@cons s i m a l x p h r e=>
  have:=di.cons h (e d);rw[lX a.i x,lX a.o p,append_assoc,append_assoc,<-lX a.i,<-lX a.o];exact this
def uC(M:aG)(l:List Nat)(x y:List Int):Prop:=∃e,di M M.start.toNat l e x y/\gz M e
def yx(M:aG):Prop:=∀l l' x y z,uC M l x y->uC M l' x z->y=z
def qd(M:aG):Prop:=∀l l' x y z,uC M l x y->uC M l' x z->l=l'
theorem di.det{s:Nat}{l:List Nat}{x:List Int}(r:di M s l n x p):∀{b c a},di M s l b c a->n=b/\x=c/\p=a:=by
 induction r with
 |nil=>exact λd=>d.dZ.imp id λh=>⟨h.1.symm,h.2.symm⟩
 |cons h r f=>
  intro b c a d;obtain⟨i,k,j,g,e,rfl,rfl⟩:=d.cons_inv;obtain rfl:=oI (h.symm.trans g);obtain⟨rfl,rfl,rfl⟩:=f e;exact⟨rfl,rfl,rfl⟩
theorem qd.func{M:aG}(h:qd M):yx M:=by
 intro l l' x y z a b;obtain rfl:=h _ _ _ _ _ a b;obtain⟨e,r,_⟩:=a;obtain⟨d,c,_⟩:=b;exact(r.det c).2.2
structure Mv where
 i:Int
 l:Int
 r:Int
inductive DL(A B:aG):Nat×Nat->Mv->Nat×Nat->Prop
 |left {p q:Nat} {a:bJ} (h:a∈bC A p) (h0:a.i=0):DL A B (p,q) ⟨0,a.o,0⟩ (a.t.toNat,q)
 |right {p q:Nat} {b:bJ} (h:b∈bC B q) (h0:b.i=0):DL A B (p,q) ⟨0,0,b.o⟩ (p,b.t.toNat)
 |both {p q:Nat} {a b:bJ} (h:a∈bC A p) (h':b∈bC B q) (h0:a.i≠0) (e:a.i=b.i):DL A B (p,q) ⟨a.i,a.o,b.o⟩ (a.t.toNat,b.t.toNat)
inductive PR(A B:aG):Nat×Nat->List Mv->Nat×Nat->Prop
 |nil (s:Nat×Nat):PR A B s [] s
 |cons {s k e:Nat×Nat} {m:Mv} {ms:List Mv} (h:DL A B s m k) (r:PR A B k ms e):PR A B s (m::ms) e
def wI(a:List Mv):List Int:=a.foldr (λm x=>opt m.i x) []
def wL(a:List Mv):List Int:=a.foldr (λm x=>opt m.l x) []
def wR(a:List Mv):List Int:=a.foldr (λm x=>opt m.r x) []
theorem Hf(m:Mv)(a:List Mv):wI (m::a)=opt m.i (wI a):=rfl
theorem Hg(m:Mv)(a:List Mv):wL (m::a)=opt m.l (wL a):=rfl
theorem Hh(m:Mv)(a:List Mv):wR (m::a)=opt m.r (wR a):=rfl
theorem vB(f:Mv->Int):∀(a b:List Mv),(a++b).foldr (λm x=>opt (f m) x) []=a.foldr (λm x=>opt (f m) x) []++b.foldr (λm x=>opt (f m) x) []
 |[],_=>rfl
 |m::a,b=>by
  rw[cons_append,List.foldr_cons,List.foldr_cons,vB f a b,lX,lX (f m) (List.foldr _ _ a),append_assoc]
theorem Ng(b a:List Mv):wI (b++a)=wI b++wI a:=vB Mv.i b a
theorem CB(b a:List Mv):wL (b++a)=wL b++wL a:=vB Mv.l b a
theorem CC(b a:List Mv):wR (b++a)=wR b++wR a:=vB Mv.r b a
section
variable {A B:aG}
theorem PR.app{s m e:Nat×Nat}{b a:List Mv}(r:PR A B s b m)(c:PR A B m a e):PR A B s (b++a) e:=by
 induction r with
 |nil=>exact c
 |cons h _ d=>exact .cons h (d c)
theorem PR.snoc{s k e:Nat×Nat}{a:List Mv}{m:Mv}(r:PR A B s a k)(h:DL A B k m e):PR A B s (a++[m]) e:=r.app (.cons h (.nil _))
theorem PR.split{s e:Nat×Nat}:∀{b a:List Mv},PR A B s (b++a) e->∃k,PR A B s b k/\PR A B k a e
 |[],a,r=>⟨s,.nil _,r⟩
 | m::b,a,r=>by
  cases r with
  |cons h r=>
   obtain⟨k,c,d⟩:=r.split;exact⟨k,.cons h c,d⟩
theorem DL.fst{s k:Nat×Nat}{m:Mv}(h:DL A B s m k){e:Nat}{l:List Nat}{x y:List Int}(r:di A k.1 l e x y):∃l',di A s.1 l' e (opt m.i x) (opt m.l y):=by
 cases h with
 |left h b=>
  obtain⟨i,a⟩:=getElem?_of_mem h;have:=di.cons a r;rw[b]at this;exact⟨_,this⟩
 |right h b=>exact⟨l,by rw[bP,bP];exact r⟩
 |both h c b e=>
  obtain⟨i,a⟩:=getElem?_of_mem h;exact⟨_,di.cons a r⟩
theorem DL.snd{s k:Nat×Nat}{m:Mv}(h:DL A B s m k){e:Nat}{l:List Nat}{x y:List Int}(r:di B k.2 l e x y):∃l',di B s.2 l' e (opt m.i x) (opt m.r y):=by
 cases h with
 |left h b=>exact⟨l,by rw[bP,bP];exact r⟩
 |right h b=>
  obtain⟨i,a⟩:=getElem?_of_mem h;have:=di.cons a r;rw[b]at this;exact⟨_,this⟩
 |both h c b e=>
  obtain⟨i,a⟩:=getElem?_of_mem c;have:=di.cons a r;rw[<-e]at this;exact⟨_,this⟩
theorem PR.runs{s e:Nat×Nat}{a:List Mv}(r:PR A B s a e):(∃l,di A s.1 l e.1 (wI a) (wL a))/\∃l',di B s.2 l' e.2 (wI a) (wR a):=by
 induction r with
 |nil s=>exact⟨⟨_,.nil _⟩,⟨_,.nil _⟩⟩
 |cons h r c=>
  obtain⟨⟨l,b⟩,⟨l',d⟩⟩:=c;exact⟨h.fst b,h.snd d⟩
theorem Zl:∀(n:Nat){l l':List Nat},l.length+l'.length<=n->∀{p q e t:Nat}{x y z:List Int},di A p l e x y->di B q l' t x z->∃c,PR A B (p,q) c (e,t)/\wI c=x/\wL c=y/\wR c=z:=by
 intro n
 induction n with
 |zero=>
  intro l l' G p q e t x y z r u;obtain rfl:l=[]:=eq_nil_of_length_eq_zero (by omega);obtain rfl:l'=[]:=eq_nil_of_length_eq_zero (by omega);obtain⟨rfl,rfl,rfl⟩:=r.dZ;obtain⟨rfl,_,rfl⟩:=u.dZ;exact⟨[],.nil _,rfl,rfl,rfl⟩
 | succ n M=>
  intro l l' G p q e t x y z r u;have N:∀{i:Nat}{g:List Nat}{a:bJ}{j h:List Int},l=i::g->(bC A p)[i]?=some a->a.i=0->di A a.t.toNat g e j h->x=opt a.i j->y=opt a.o h->∃c,PR A B (p,q) c (e,t)/\wI c=x/\wL c=y/\wR c=z:=by
   intro i g a j h L w f m d s;rw[f,bP]at d;subst d;obtain⟨c,D,o,C,E⟩:=M (l:=g) (l':=l') (by rw[L,length_cons]at G;omega) m u;exact⟨_,.cons (.left (List.mem_of_getElem? w) f) D,by rw[Hf,o,bP],by rw[Hg,C,s],by rw[Hh,E,bP]⟩
  have J:∀{i:Nat}{g:List Nat}{a:bJ}{j h:List Int},l'=i::g->(bC B q)[i]?=some a->a.i=0->di B a.t.toNat g t j h->x=opt a.i j->z=opt a.o h->∃c,PR A B (p,q) c (e,t)/\wI c=x/\wL c=y/\wR c=z:=by
   intro i g a j h L w f m d s;rw[f,bP]at d;subst d;obtain⟨c,D,o,C,E⟩:=M (l:=l) (l':=g) (by rw[L,length_cons]at G;omega) r m;exact⟨_,.cons (.right (List.mem_of_getElem? w) f) D,by rw[Hf,o,bP],by rw[Hg,C,bP],by rw[Hh,E,s]⟩
  cases l with
  | nil=>
   cases l' with
   |nil=>
    obtain⟨rfl,rfl,rfl⟩:=r.dZ;obtain⟨rfl,_,rfl⟩:=u.dZ;exact⟨[],.nil _,rfl,rfl,rfl⟩
   |cons k K=>
    obtain⟨_,rfl,_⟩:=r.dZ;obtain⟨b,j,h,F,m,d,s⟩:=u.cons_inv;by_cases f:b.i=0
    ·exact J rfl F f m d s
    ·rw[ee f]at d;cases d
  | cons i g=>
   obtain⟨a,j,h,w,m,d,s⟩:=r.cons_inv;by_cases f:a.i=0
   ·exact N rfl w f m d s
   ·cases l' with
    |nil=>
     obtain⟨_,O,_⟩:=u.dZ;rw[ee f,O]at d;cases d
    | cons k K=>
     obtain⟨b,S,R,F,P,H,I⟩:=u.cons_inv;by_cases o:b.i=0
     ·exact J rfl F o P H I
     ·have v:=d.symm.trans H;rw[ee f,ee o]at v;injection v with Q v
      subst v;obtain⟨c,D,o,C,E⟩:=M (l:=g) (l':=K) (by simp only[length_cons]at G;omega) m P;exact⟨_,.cons (.both (List.mem_of_getElem? w) (List.mem_of_getElem? F) f Q) D,by rw[Hf,o,d],by rw[Hg,C,s],by rw[Hh,E,I]⟩
end
def lJ(A B:aG)(k:Nat×Nat):Prop:=gz A k.1/\gz B k.2
def Co(A B:aG)(k:Nat×Nat):Prop:=∃a e,PR A B k a e/\lJ A B e
def sI(A B:aG):Nat×Nat:=(A.start.toNat,B.start.toNat)
def Aq(A B:aG):Prop:=∀l l' x y z,uC A l x y->uC B l' x z->y=z
theorem DO{A B:aG}:Aq A B↔ ∀a e,PR A B (sI A B) a e->lJ A B e->wL a=wR a:=by
 constructor
 ·intro h a e r f;obtain⟨⟨l,b⟩,⟨l',c⟩⟩:=r.runs;exact h l l' _ _ _ ⟨_,b,f.1⟩ ⟨_,c,f.2⟩
 ·rintro h l l' x y z ⟨e,r,f⟩ ⟨k,j,i⟩;obtain⟨a,b,c,d,g⟩:=Zl _ (Nat.le_refl _) r j;rw[<-d,<-g];exact h a _ b ⟨f,i⟩
def iD:List Int->List Int->Option (List Int×List Int)
 |[],z=>some ([],z)
 |a::y,[]=>some (a::y,[])
 |a::y,b::z=>if a=b then iD y z else none
theorem H6:∀(y z u v:List Int),iD (y++u) (z++v)=(iD y z).bind λd=>iD (d.1++u) (d.2++v)
 |[],z,u,v=>rfl
 |a::y,[],u,v=>rfl
 |a::y,b::z,u,v=>by
  rw[cons_append,cons_append,iD,iD];by_cases h:a=b
  ·rw[if_pos h,if_pos h,H6 y z u v]
  ·rw[if_neg h,if_neg h];rfl
theorem D2:∀{y z:List Int},iD y z=none->∀u v,y++u≠z++v
 |[],z,h,_,_=>by cases h
 |a::y,[],h,_,_=>by cases h
 |a::y,b::z,h,u,v=>by
  rw[iD]at h;intro e;injection e with c d
  rw[if_pos c]at h;exact D2 h u v d
theorem rM:∀{y z:List Int}{d:List Int×List Int},iD y z=some d->(d.1=[]\/d.2=[])/\∀u v,(y++u=z++v↔d.1++u=d.2++v)
 |[],z,d,h=>by
  obtain rfl:=oI h;exact⟨.inl rfl,λu v=>Iff.rfl⟩
 |a::y,[],d,h=>by
  obtain rfl:=oI h;exact⟨.inr rfl,λu v=>Iff.rfl⟩
 | a::y,b::z,d,h=>by
  rw[iD]at h;split at h
  ·next e=>
   obtain⟨c,f⟩:=rM h;refine⟨c,λu v=>?_⟩;rw[<-f u v,e];constructor
   ·intro h;injection h
   ·intro h;rw[cons_append,cons_append,h]
  ·cases h
theorem Xp{z:List Int}(h:iD p z=some ([],[])):p=z:=by
 have:=((rM h).2 [] []).2 rfl;simpa using this
theorem Pb{z:List Int}(h:p=z):iD p z=some ([],[]):=by
 subst h
 induction p with
 |nil=>rfl
 |cons a p b=>rw[iD,if_pos rfl,b]
theorem ZK{d f:List Int×List Int}(h:d.1=[]\/d.2=[])(k:f.1=[]\/f.2=[]){u v:List Int}(e:d.1++u=d.2++v)(c:f.1++u=f.2++v):d=f:=by
 obtain⟨a,b⟩:=d;obtain⟨j,m⟩:=f;dsimp only at*;rcases h with rfl|rfl<;>rcases k with rfl|rfl
 ·rw[nil_append]at e c;rw[List.append_cancel_right (e.symm.trans c)]
 ·rw[nil_append]at e c;have g:=congrArg List.length e;have i:=congrArg List.length c;simp only[length_append]at g i;rw[eq_nil_of_length_eq_zero (l:=b) (by omega),eq_nil_of_length_eq_zero (l:=j) (by omega)]
 ·rw[nil_append]at e c;have g:=congrArg List.length e;have i:=congrArg List.length c;simp only[length_append]at g i;rw[eq_nil_of_length_eq_zero (l:=a) (by omega),eq_nil_of_length_eq_zero (l:=m) (by omega)]
 ·rw[nil_append]at e c;rw[List.append_cancel_right (e.trans c.symm)]
def zF(d:List Int×List Int)(m:Mv):Option (List Int×List Int):=iD (d.1++opt m.l []) (d.2++opt m.r [])
theorem A2{a:List Mv}{m:Mv}{d:List Int×List Int}(h:iD (wL a) (wR a)=some d):iD (wL (a++[m])) (wR (a++[m]))=zF d m:=by
 rw[CB,CC,H6,h];rfl
section
variable {A B:aG}
theorem Co.step{s k:Nat×Nat}{m:Mv}(h:DL A B s m k)(c:Co A B k):Co A B s:=by
 obtain⟨a,e,r,f⟩:=c;exact⟨m::a,e,.cons h r,f⟩
theorem XL(D:Nat×Nat->Option (List Int×List Int))(C:D (sI A B)=some ([],[]))(v:∀k d m b,D k=some d->DL A B k m b->Co A B b->∃i,zF d m=some i/\D b=some i)(t:∀k d,D k=some d->lJ A B k->d=([],[])):Aq A B:=by
 rw[DO];have p:∀(n:Nat)(a:List Mv),a.length=n->∀k,PR A B (sI A B) a k->Co A B k->∃d,D k=some d/\iD (wL a) (wR a)=some d:=by
  intro n
  induction n with
  |zero=>
   intro a g k r c;obtain rfl:=eq_nil_of_length_eq_zero g
   cases r
   exact⟨_,C,rfl⟩
  | succ n x=>
   intro a g k r c;obtain⟨o,m,rfl⟩:∃o m,a=o++[m]:=⟨a.dropLast,a.getLast (λe=>by rw[e]at g;simp at g),(List.dropLast_concat_getLast _).symm⟩
   obtain⟨b,u,w⟩:=r.split;have q:DL A B b m k:=by
    cases w with
    |cons h s=>cases s;exact h
   obtain⟨d,l,j⟩:=x o (by simp at g;omega) b u (c.step q);obtain⟨i,y,z⟩:=v _ _ _ _ l q c;exact⟨i,z,by rw[A2 j,y]⟩
 intro a e r f;obtain⟨d,l,j⟩:=p _ a rfl e r ⟨[],e,.nil _,f⟩;rw[t _ _ l f]at j;exact Xp j
theorem XO{k e:Nat×Nat}{i c g:List Mv}{d l:List Int×List Int}(r:PR A B (sI A B) i k)(u:PR A B (sI A B) c k)(s:iD (wL i) (wR i)=some d)(j:iD (wL c) (wR c)=some l)(n:d≠l)(t:PR A B k g e)(f:lJ A B e):wL (i++g)≠wR (i++g)\/wL (c++g)≠wR (c++g):=by
 refine Classical.byContradiction λh=>?_;have m:wL (i++g)=wR (i++g):=Classical.byContradiction λe=>h (.inl e);have o:wL (c++g)=wR (c++g):=Classical.byContradiction λe=>h (.inr e);rw[CB,CC]at m o;obtain⟨a,b⟩:=rM s;obtain⟨p,q⟩:=rM j;exact n (ZK a p ((b _ _).1 m) ((q _ _).1 o))
theorem XM{a ns:List Mv}(b:iD (wL a) (wR a)=none):wL (a++ns)≠wR (a++ns):=by
 rw[CB,CC];exact D2 b _ _
theorem XN{a:List Mv}{d:List Int×List Int}(c:iD (wL a) (wR a)=some d)(b:d≠([],[])):wL a≠wR a:=by
 intro e;rw[Pb e]at c;exact b (oI c).symm
end
end
section
theorem di.snoc{M:aG}{s:Nat}{a:bJ}{l:List Nat}{x:List Int}(r:di M s l n x p)(h:(bC M n)[i]?=some a):di M s (l++[i]) a.t.toNat (x++opt a.i []) (p++opt a.o []):=r.app (.cons h (.nil _))
inductive RU(M:aG):Nat×Nat×Nat->Int->Nat×Nat×Nat->Prop
 |WI {p q h:Nat} {a:bJ} (ha:a∈bC M p) (h0:a.i=0):RU M (p,q,h) 0 (a.t.toNat,q,if h=0 then 2 else h)
 |same {p q i:Nat} {a b:bJ} (ha:(bC M p)[i]?=some a) (hb:(bC M q)[i]?=some b) (e:a.i=b.i):RU M (p,q,0) a.i (a.t.toNat,b.t.toNat,0)
 |fork {p q i k:Nat} {a b:bJ} (ha:(bC M p)[i]?=some a) (hb:(bC M q)[k]?=some b) (e:a.i=b.i) (n:i≠k):RU M (p,q,0) a.i (a.t.toNat,b.t.toNat,1)
 |read {p q h:Nat} {a b:bJ} (ha:a∈bC M p) (hb:b∈bC M q) (e:a.i=b.i) (h0:a.i≠0) (hh:h≠0):RU M (p,q,h) a.i (a.t.toNat,b.t.toNat,1)
 |U9 {p q:Nat} {b:bJ} (hb:b∈bC M q) (h0:b.i=0):RU M (p,q,1) 0 (p,b.t.toNat,1)
def WB(l l':List Nat):Prop:=∀r a,l++r≠l'++a
theorem WB.app{l l':List Nat}(h:WB l l')(u v:List Nat):WB (l++u) (l'++v):=λr a=>by
 rw[append_assoc,append_assoc];exact h _ _
theorem WB.fork(l:List Nat){i k:Nat}(n:i≠k):WB (l++[i]) (l++[k]):=λr a e=>by
 rw[append_assoc,append_assoc]at e;have:=List.append_cancel_left e;injection this with h
 exact n h
theorem WB.ne{l l':List Nat}(h:WB l l'):l≠l':=λe=>h [] [] (by rw[e])
def Rel(M:aG)(x:List Int):Nat×Nat×Nat->Prop
 |(p,q,0)=>p=q/\∃l y,di M M.start.toNat l p x y
 |(p,q,1)=>∃l l' y z,di M M.start.toNat l p x y/\di M M.start.toNat l' q x z/\WB l l'
 |(p,q,_)=>∃l l' y z i r a,di M M.start.toNat l p x y/\di M M.start.toNat l' q x z/\l=l'++i::r/\(bC M q)[i]?=some a/\a.i=0
section
variable {M:aG}
theorem Rel.step{x:List Int}{k k':Nat×Nat×Nat}{c:Int}(f:Rel M x k)(C:RU M k c k'):Rel M (x++opt c []) k':=by
 cases C with
 | @WI p q h a o s=>
  rw[bP,append_nil];obtain⟨i,u⟩:=getElem?_of_mem o
  match h,f with
  |0,f=>
   obtain⟨rfl,l,y,r⟩:=f;have d:=r.snoc u;rw[s,bP,append_nil]at d;exact⟨_,l,_,y,i,[],a,d,r,rfl,u,s⟩
  |1,f=>
   obtain⟨l,l',y,z,r,m,n⟩:=f;have d:=r.snoc u;rw[s,bP,append_nil]at d;have:=n.app [i] [];rw[append_nil]at this;exact⟨_,_,_,_,d,m,this⟩
  |h+2,f=>
   obtain⟨l,l',y,z,j,t,b,r,m,n,g,A⟩:=f;have d:=r.snoc u;rw[s,bP,append_nil]at d;exact⟨_,l',_,z,j,t++[i],b,d,m,by rw[n];simp,g,A⟩
 |@same p q i a b o g e=>
  obtain⟨rfl,l,y,r⟩:=f;obtain rfl:=oI (o.symm.trans g);exact⟨rfl,_,_,r.snoc o⟩
 |@fork p q i k a b o g e n=>
  obtain⟨rfl,l,y,r⟩:=f;have d:=r.snoc g;rw[<-e]at d;exact⟨_,_,_,_,r.snoc o,d,WB.fork l n⟩
 | @read p q h a b o g e s D=>
  obtain⟨i,u⟩:=getElem?_of_mem o;obtain⟨k,v⟩:=getElem?_of_mem g
  match h,f with
  |0,f=>exact absurd rfl D
  |1,f=>
   obtain⟨l,l',y,z,r,m,n⟩:=f;have d:=m.snoc v;rw[<-e]at d;exact⟨_,_,_,_,r.snoc u,d,n.app _ _⟩
  | h+2,f=>
   obtain⟨l,l',y,z,j,t,c,r,m,n,hc,B⟩:=f;have d:=m.snoc v;rw[<-e]at d;have w:j≠k:=λE=>by
    rw[E,v]at hc;obtain rfl:=oI hc;exact s (e.trans B)
   have:=(WB.fork l' w).app (t++[i]) [];rw[append_nil,append_assoc]at this;refine⟨_,_,_,_,r.snoc u,d,?_⟩;rw[n];simpa using this
 |@U9 p q b g s=>
  rw[bP,append_nil];obtain⟨k,v⟩:=getElem?_of_mem g;obtain⟨l,l',y,z,r,m,n⟩:=f;have d:=m.snoc v;rw[s,bP,append_nil]at d;have:=n.app [] [k];rw[append_nil]at this;exact⟨_,_,_,_,r,d,this⟩
theorem Rel.end_{x:List Int}{p q h:Nat}(a:Rel M x (p,q,h))(g:h≠0)(f:gz M p)(d:gz M q):∃l l' y z,uC M l x y/\uC M l' x z/\l≠l':=by
 match h,a with
 |0,_=>exact absurd rfl g
 |1,a=>
  obtain⟨l,l',y,z,r,b,n⟩:=a;exact⟨l,l',y,z,⟨_,r,f⟩,⟨_,b,d⟩,n.ne⟩
 |h+2,a=>
  obtain⟨l,l',y,z,j,t,c,r,b,n,hc,i⟩:=a;refine⟨l,l',y,z,⟨_,r,f⟩,⟨_,b,d⟩,λe=>?_⟩;rw[e]at n;have:=congrArg List.length n;simp at this
section
variable {P:Nat×Nat×Nat->Prop} (hc: ∀ k c k',P k->RU M k c k'->P k')
include hc
theorem DT:∀(n:Nat){l l':List Nat},l.length+l'.length<=n->∀{p q e j:Nat}{x y z:List Int},P (p,q,1)->di M p l e x y->di M q l' j x z->P (e,j,1):=by
 intro n
 induction n with
 |zero=>
  intro l l' u p q e j x y z o r g;obtain rfl:l=[]:=eq_nil_of_length_eq_zero (by omega);obtain rfl:l'=[]:=eq_nil_of_length_eq_zero (by omega);obtain⟨rfl,rfl,rfl⟩:=r.dZ;obtain⟨rfl,_,rfl⟩:=g.dZ;exact o
 | succ n D=>
  intro l l' u p q e j x y z o r g;have B:∀{i:Nat}{f:List Nat}{a:bJ}{s v:List Int},l'=i::f->(bC M q)[i]?=some a->a.i=0->di M a.t.toNat f j s v->x=opt a.i s->P (e,j,1):=by
   intro i f a s v H w d m c;rw[d,bP]at c;subst c;exact D (l:=l) (l':=f) (by rw[H,length_cons]at u;omega) (hc _ _ _ o (.U9 (List.mem_of_getElem? w) d)) r m
  cases l with
  | nil=>
   obtain⟨rfl,rfl,rfl⟩:=r.dZ
   cases l' with
   |nil=>
    obtain⟨rfl,_,rfl⟩:=g.dZ;exact o
   |cons k C=>
    obtain⟨b,s,v,t,m,c,J⟩:=g.cons_inv;by_cases d:b.i=0
    ·exact B rfl t d m c
    ·rw[ee d]at c;cases c
  | cons i f=>
   obtain⟨a,s,v,w,m,c,J⟩:=r.cons_inv;by_cases d:a.i=0
   ·rw[d,bP]at c;subst c;exact D (l:=f) (l':=l') (by rw[length_cons]at u;omega) (hc _ _ _ o (.WI (List.mem_of_getElem? w) d)) m g
   ·cases l' with
    |nil=>
     obtain⟨_,E,_⟩:=g.dZ;rw[ee d,E]at c;cases c
    | cons k C=>
     obtain⟨b,N,L,t,F,A,K⟩:=g.cons_inv;by_cases G:b.i=0
     ·exact B rfl t G F A
     ·have h:=c.symm.trans A;rw[ee d,ee G]at h;injection h with I h
      subst h;exact D (l:=f) (l':=C) (by simp only[length_cons]at u;omega) (hc _ _ _ o (.read (List.mem_of_getElem? w) (List.mem_of_getElem? t) I d (by decide))) m F
theorem rE:∀(l:List Nat){l':List Nat}{p q e n:Nat}{x y z:List Int},P (p,q,2)->di M p l e x y->di M q l' n x z->(∀k t,l'=k::t->∀b,(bC M q)[k]?=some b->b.i≠0)->∃h,h≠0/\P (e,n,h)
 | [],l',p,q,e,n,x,y,z,o,r,f,m=>by
  obtain⟨rfl,rfl,rfl⟩:=r.dZ
  cases l' with
  |nil=>
   obtain⟨rfl,_,rfl⟩:=f.dZ;exact⟨2,by decide,o⟩
  |cons k t=>
   obtain⟨b,C,A,j,s,c,F⟩:=f.cons_inv;rw[ee (m _ _ rfl b j)]at c;cases c
 | i::l,l',p,q,e,n,x,y,z,o,r,f,m=>by
  obtain⟨a,C,A,v,s,c,F⟩:=r.cons_inv;by_cases g:a.i=0
  ·rw[g,bP]at c;subst c;exact rE l (hc _ _ _ o (.WI (List.mem_of_getElem? v) g)) s f m
  ·cases l' with
   |nil=>
    obtain⟨_,u,_⟩:=f.dZ;rw[ee g,u]at c;cases c
   |cons k t=>
    obtain⟨b,I,H,j,B,w,G⟩:=f.cons_inv;have D:=m _ _ rfl b j;have d:=c.symm.trans w;rw[ee g,ee D]at d;injection d with E d
    subst d;exact⟨1,by decide,DT hc _ (Nat.le_refl _) (hc _ _ _ o (.read (List.mem_of_getElem? v) (List.mem_of_getElem? j) E g (by decide))) s B⟩
theorem JR:∀(l:List Nat){l':List Nat}{p e u:Nat}{x y z:List Int},P (p,p,0)->di M p l e x y->di M p l' u x z->l≠l'->∃h,h≠0/\(P (e,u,h)\/P (u,e,h))
 | [],l',p,e,u,x,y,z,q,r,B,D=>by
  cases l' with
  |nil=>exact absurd rfl D
  |cons k G=>
   obtain⟨rfl,rfl,rfl⟩:=r.dZ;obtain⟨b,F,I,s,t,g,O⟩:=B.cons_inv;by_cases d:b.i=0
   ·rw[d,bP]at g;subst g;obtain⟨h,v,j⟩:=rE hc G (hc _ _ _ q (.WI (List.mem_of_getElem? s) d)) t (.nil p) (λ_ _ e=>by cases e);exact⟨h,v,.inr j⟩
   ·rw[ee d]at g;cases g
 | i::l,l',p,e,u,x,y,z,q,r,B,D=>by
  obtain⟨a,F,I,o,t,g,O⟩:=r.cons_inv
  cases l' with
  |nil=>
   obtain⟨rfl,rfl,rfl⟩:=B.dZ;by_cases d:a.i=0
   ·rw[d,bP]at g;subst g;obtain⟨h,v,j⟩:=rE hc l (hc _ _ _ q (.WI (List.mem_of_getElem? o) d)) t (.nil p) (λ_ _ e=>by cases e);exact⟨h,v,.inl j⟩
   ·rw[ee d]at g;cases g
  | cons k G=>
   obtain⟨b,H,R,s,E,w,Q⟩:=B.cons_inv;have f:=g.symm.trans w;by_cases C:i=k
   ·subst C;obtain rfl:=oI (o.symm.trans s);have n:F=H:=by
     by_cases d:a.i=0
     ·rw[d,bP,bP]at f;exact f
     ·rw[ee d,ee d]at f;injection f
    subst n;exact JR l (hc _ _ _ q (.same o o rfl)) t E (λe=>D (by rw[e]))
   ·by_cases m:a.i=b.i
    ·have n:F=H:=by
      by_cases d:a.i=0
      ·rw[<-m,d,bP,bP]at f;exact f
      ·rw[<-m,ee d,ee d]at f;injection f
     subst n;exact⟨1,by decide,.inl (DT hc _ (Nat.le_refl _) (hc _ _ _ q (.fork o s m C)) t E)⟩
    ·by_cases d:a.i=0
     ·rw[d,bP]at g;subst g;obtain⟨h,v,j⟩:=rE hc l (hc _ _ _ q (.WI (List.mem_of_getElem? o) d)) t B (λk' N e c A=>by
       injection e with n e2
       subst n;obtain rfl:=oI (s.symm.trans A);exact λe=>m (d.trans e.symm))
      exact⟨h,v,.inl j⟩
     ·by_cases j:b.i=0
      ·rw[j,bP]at w;subst w;obtain⟨h,J,K⟩:=rE hc G (hc _ _ _ q (.WI (List.mem_of_getElem? s) j)) E r (λk' N e c A=>by
        injection e with n e2
        subst n;obtain rfl:=oI (o.symm.trans A);exact d)
       exact⟨h,J,.inr K⟩
      ·rw[ee d,ee j]at f;injection f with L f
       exact absurd L m
theorem Wc(g:P (M.start.toNat,M.start.toNat,0))(b:∀p q h,P (p,q,h)->h≠0->gz M p->gz M q->False):qd M:=by
 rintro l l' x y z ⟨e,r,f⟩ ⟨j,i,d⟩;refine Classical.byContradiction λn=>?_;obtain⟨h,c,a|a⟩:=JR hc l g r i n
 ·exact b _ _ _ a c f d
 ·exact b _ _ _ a c d f
end
end
structure RP(N M:aG)(D:Nat->Prop)(φ:Nat->Nat)(ψ:Nat->Nat->Nat):Prop where
 start:D N.start.toNat/\φ N.start.toNat=M.start.toNat
 arc:∀s i a,D s->(bC N s)[i]?=some a->D a.t.toNat/\∃b,(bC M (φ s))[ψ s i]?=some b/\b.i=a.i/\b.o=a.o/\b.t.toNat=φ a.t.toNat
 inj:∀s i j a b,D s->(bC N s)[i]?=some a->(bC N s)[j]?=some b->ψ s i=ψ s j->i=j
 fin:∀s,D s->gz N s->gz M (φ s)
def RI(N:aG)(ψ:Nat->Nat->Nat):Nat->List Nat->List Nat
 |_,[]=>[]
 |s,i::l=>ψ s i::RI N ψ (((bC N s).getD i q0).t.toNat) l
section
variable {N M:aG} {D:Nat->Prop} {φ:Nat->Nat} {ψ:Nat->Nat->Nat}
theorem RP.run(h:RP N M D φ ψ){s e:Nat}{l:List Nat}{x y:List Int}(r:di N s l e x y):D s->D e/\di M (φ s) (RI N ψ s l) (φ e) x y:=by
 induction r with
 |nil=>exact λd=>⟨d,.nil _⟩
 |@cons s i e a l x y f r n=>
  intro d;obtain⟨j,b,g,k,p,o⟩:=h.arc s i a d f;obtain⟨m,c⟩:=n j;have q:(bC N s).getD i q0=a:=by rw[gD,f];rfl
  refine⟨m,?_⟩;rw[<-o]at c;have:=di.cons g c;rw[k,p]at this;rw[RI,q];exact this
theorem RP.FX(h:RP N M D φ ψ):∀(l l':List Nat){s e n:Nat}{x y q k:List Int},D s->di N s l e x y->di N s l' n q k->RI N ψ s l=RI N ψ s l'->l=l'
 |[],[],_,_,_,_,_,_,_,_,_,_,_=>rfl
 |[],_::_,_,_,_,_,_,_,_,_,_,_,e=>by cases e
 |_::_,[],_,_,_,_,_,_,_,_,_,_,e=>by cases e
 |i::l,j::l',s,_,_,_,_,_,_,d,r,u,e=>by
  obtain⟨a,_,_,c,o,_,_⟩:=r.cons_inv;obtain⟨b,_,_,f,p,_,_⟩:=u.cons_inv;rw[RI,RI]at e;injection e with m g
  obtain rfl:=h.inj s i j a b d c f m;obtain rfl:=oI (c.symm.trans f);have t:(bC N s).getD i q0=a:=by rw[gD,c];rfl
  rw[t]at g;rw[h.FX l l' (h.arc s i a d c).1 o p g]
theorem RP.acc(h:RP N M D φ ψ){l:List Nat}{x y:List Int}(a:uC N l x y):uC M (RI N ψ N.start.toNat l) x y:=by
 obtain⟨e,r,f⟩:=a;obtain⟨d,b⟩:=h.run r h.start.1;rw[h.start.2]at b;exact⟨_,b,h.fin _ d f⟩
theorem RP.func(h:RP N M D φ ψ)(f:yx M):yx N:=λl l' x y z a b=>f _ _ _ _ _ (h.acc a) (h.acc b)
theorem RP.aff(h:RP N M D φ ψ)(f:qd M):qd N:=λl l' x y z a b=>by
 have:=f _ _ _ _ _ (h.acc a) (h.acc b);obtain⟨_,r,_⟩:=a;obtain⟨_,c,_⟩:=b;exact h.FX l l' h.start.1 r c this
end
def IF{b c:Type}(f:b->Option c):List b->Nat->Nat
 |[],_=>0
 |a::l,0=>if(f a).isSome then 0 else IF f l 0+1
 |a::l,j+1=>if(f a).isSome then IF f l j+1 else IF f l (j+1)+1
theorem vz{f:A->Option B}{a:A}(h:f a=none)(l:List A)(j:Nat):IF f (a::l) j=IF f l j+1:=by
 cases j<;>simp[IF,h]
theorem vA{f:A->Option B}{a:A}{b:B}(h:f a=some b)(l:List A):IF f (a::l) 0=0:=by simp[IF,h]
theorem oB{f:A->Option B}{a:A}{b:B}(h:f a=some b)(l:List A)(j:Nat):IF f (a::l) (j+1)=IF f l j+1:=by simp[IF,h]
theorem Ln{k m:Type}(f:k->Option m):∀(l:List k){j:Nat}{b:m},(l.filterMap f)[j]?=some b->∃a,l[IF f l j]?=some a/\f a=some b
 |[],j,b,h=>by simp at h
 | a::l,j,b,h=>by
  rw[filterMap_cons]at h
  cases d:f a with
  |none=>
   rw[d]at h;obtain⟨g,e,i⟩:=Ln f l h;exact⟨g,by rw[vz d];exact e,i⟩
  | some c=>
   rw[d]at h;dsimp only at h
   cases j with
   |zero=>
    obtain rfl:c=b:=by simpa using h
    exact⟨a,by rw[vA d];rfl,d⟩
   |succ j=>
    obtain⟨g,e,i⟩:=Ln f l (j:=j) (by simpa using h);exact⟨g,by rw[oB d];exact e,i⟩
theorem FL{i m:Type}(f:i->Option m):∀(l:List i){j k:Nat},j<(l.filterMap f).length->k<(l.filterMap f).length->IF f l j=IF f l k->j=k
 |[],j,k,h,_,_=>by simp at h
 | a::l,j,k,g,d,e=>by
  rw[filterMap_cons]at g d
  cases b:f a with
  |none=>
   rw[b]at g d;rw[vz b,vz b]at e;exact FL f l g d (by simpa using e)
  | some c=>
   rw[b]at g d
   cases j with
   |zero=>
    cases k with
    |zero=>rfl
    |succ k=>rw[vA b,oB b]at e;omega
   | succ j=>
    cases k with
    |zero=>rw[vA b,oB b]at e;omega
    |succ k=>
     rw[oB b,oB b]at e;simp only[length_cons]at g d;have:=FL f l (j:=j) (k:=k) (by omega) (by omega) (by simpa using e);omega
theorem NS{g n:Type}(f:g->Option n):∀(l:List g){i:Nat}{a:g}{b:n},l[i]?=some a->f a=some b->∃j,(l.filterMap f)[j]?=some b/\IF f l j=i
 |[],i,a,b,h,_=>by simp at h
 |x::l,0,a,b,h,d=>by
  obtain rfl:x=a:=by simpa using h
  exact⟨0,by rw[filterMap_cons,d];rfl,vA d l⟩
 |x::l,i+1,a,b,h,d=>by
  obtain⟨j,k,m⟩:=NS f l (i:=i) (by simpa using h) d
  cases e:f x with
  |none=>exact⟨j,by rw[filterMap_cons,e];exact k,by rw[vz e,m]⟩
  |some c=>exact⟨j+1,by rw[filterMap_cons,e];exact k,by rw[oB e,m]⟩
end
theorem uo{t:TypeId}(f:P.underlying t=some (.slice T))(b:au P T=some m){g:aa}{k off n c z:Nat}{cs:List Value}(d:g.get k=some (.cells cs T m true))(e:z<=n)(a:n<=aW c):
  bE P t (.slice (some ⟨k,off,none⟩) n c) (some (.int .i64 (z:Int))) none none g=some (.slice (some ⟨k,off+z*m,none⟩) (n-z) (c-z)):=by simp_all[bE,dH]
section
def UU:Code->Array Oper
 |.region _ ops _=>ops
 |_=> #[]
def DA(P:Program)(a:Option Addr)(h:aa)(K:Value->aa->Prop):Prop:=sj (ba P (λ_=> .pointer a) ⟨none,.nilCheck (.tmp 0),0,"",#[],none⟩) h K
theorem gi{a:Addr}{K:Value->aa->Prop}(b:K (.pointer (some a)) h):DA P (some a) h K:=b
abbrev cC:=List (Nat×bu)
def keys(L:List cC):List Nat:=L.flatten.map (·.1)
structure OL(h0 g:aa)(L:List cC):Prop where
 ok:Ok h0 g
 nd:(keys L).Nodup
 lo:∀k∈keys L,h0.next<=k
 at_:∀p∈L.flatten,g.get p.1=some p.2
def Im(g:aa)(L:List cC)(k:Nat)(B:bu):Prop:=g.get k=some B/\k∉keys L
def eU(g:aa)(L:List cC)(g':aa)(a:List cC):Prop:=∀k B,Im g L k B->Im g' a k B
theorem eU.refl(g:aa)(L:List cC):eU g L g L:=λ_ _ h=>h
theorem eU.trans{g g' d:aa}{L e c:List cC}(a:eU g L g' e)(b:eU g' e d c):eU g L d c:=λk B h=>b k B (a k B h)
theorem kX(A B:List cC):keys (A++B)=keys A++keys B:=by unfold keys;rw[flatten_append,List.map_append]
theorem Bz(G:cC):keys [G]=G.map (·.1):=by unfold keys;simp
theorem J1{b:Type}:∀{L:List b}{i:Nat}{G:b},L[i]?=some G->∀a,∃A B,L=A++[G]++B/\L.set i a=A++[a]++B
 |[],_,_,h,_=>by simp at h
 |x::L,0,G,h,a=>by
  obtain rfl:x=G:=by simpa using h
  exact⟨[],L,rfl,rfl⟩
 |x::L,i+1,G,h,a=>by
  obtain⟨A,B,c,d⟩:=J1 (L:=L) (i:=i) (by simpa using h) a;exact⟨x::A,B,by rw[c];rfl,by rw[List.set_cons_succ,d];rfl⟩
theorem mem_keys{L:List cC}{p:Nat×bu}(h:p∈L.flatten):p.1∈keys L:=mem_map.2 ⟨p,h,rfl⟩
section
variable {h0 g g':aa} {L:List cC}
theorem OL.lt(o:OL h0 g L){k:Nat}(a:k∈keys L):k<g.next:=by
 obtain⟨p,b,rfl⟩:=mem_map.1 a;exact o.ok.wf _ _ (o.at_ p b)
theorem OL.nil(c:Ok h0 g):OL h0 g []:=⟨c,List.nodup_nil,λk a=>by simp[keys]at a,λp b=>by simp at b⟩
theorem OL.mem{G:cC}(a:L[i]?=some G){p:Nat×bu}(b:G[j]?=some p):p∈L.flatten:=List.mem_flatten.2 ⟨G,List.mem_of_getElem? a,List.mem_of_getElem? b⟩
theorem OL.get(o:OL h0 g L)(i:Nat){k:Nat}{B:bu}(a:L[i]?=some [(k,B)]):g.get k=some B:=o.at_ (k,B) (OL.mem a (j:=0) rfl)
theorem OL.old(w:Wf h0)(o:OL h0 g L){k:Nat}{B:bu}(a:h0.get k=some B):Im g L k B:=⟨o.ok.ext _ _ a,λh=>by have:=o.lo k h;have:=w _ _ a;omega⟩
theorem OL.UY(o:OL h0 g L){i:Nat}{G d:cC}(H:L[i]?=some G)(J:Ok h0 g')(u:∀p∈d,g'.get p.1=some p.2)(z:(d.map (·.1)).Nodup)(l:∀k∈d.map (·.1),k∈G.map (·.1)\/g.next<=k)(f:∀k B,g.get k=some B->k∉G.map (·.1)->g'.get k=some B):OL h0 g' (L.set i d)/\eU g L g' (L.set i d):=by
 obtain⟨A,B,s,I⟩:=J1 H d;rw[I];have c:keys L=keys A++G.map (·.1)++keys B:=by rw[s,kX,kX,Bz]
 have n:keys (A++[d]++B)=keys A++d.map (·.1)++keys B:=by rw[kX,kX,Bz]
 have r:=o.nd;rw[c]at r;obtain⟨D,E,t⟩:=nodup_append.1 r;obtain⟨K,M,F⟩:=nodup_append.1 D;have w:∀k∈keys A,k<g.next:=λk a=>o.lt (by rw[c];simp[a]);have x:∀k∈keys B,k<g.next:=λk a=>o.lt (by rw[c];simp[a]);have y:∀k∈keys A,k∉G.map (·.1):=λk a h=>F k a k h rfl;have v:∀k∈keys B,k∉G.map (·.1):=λk a h=>t k (List.mem_append_right _ h) k a rfl;refine⟨⟨J,?_,λk a=>?_,λp b=>?_⟩,λk C m=>⟨f k C m.1 λh=>m.2 (by rw[c];simp[h]),λh=>?_⟩⟩
 ·rw[n];refine nodup_append.2 ⟨nodup_append.2 ⟨K,z,λk a j q e=>?_⟩,E,λk a j q e=>?_⟩
  ·subst e;rcases l k q with h|h
   ·exact y k a h
   ·have:=w k a;omega
  ·subst e;rcases mem_append.1 a with a|a
   ·exact t k (List.mem_append_left _ a) k q rfl
   ·rcases l k a with h|h
    ·exact v k q h
    ·have:=x k q;omega
 ·rw[n]at a;rcases mem_append.1 a with a|a
  ·rcases mem_append.1 a with a|a
   ·exact o.lo k (by rw[c];simp[a])
   ·rcases l k a with h|h
    ·exact o.lo k (by rw[c];simp[h])
    ·have:=o.ok.nx;omega
  ·exact o.lo k (by rw[c];simp[a])
 ·rw[flatten_append,flatten_append]at b;rcases mem_append.1 b with b|b
  ·rcases mem_append.1 b with b|b
   ·exact f _ _ (o.at_ p (by rw[s,flatten_append,flatten_append];simp[b])) (y _ (mem_keys b))
   ·exact u p (by simpa using b)
  ·exact f _ _ (o.at_ p (by rw[s,flatten_append,flatten_append];simp[b])) (v _ (mem_keys b))
 ·rw[n]at h;rcases mem_append.1 h with h|h
  ·rcases mem_append.1 h with h|h
   ·exact m.2 (by rw[c];simp[h])
   ·rcases l k h with h|h
    ·exact m.2 (by rw[c];simp[h])
    ·have:=o.ok.wf _ _ m.1;omega
  ·exact m.2 (by rw[c];simp[h])
theorem OL.set(f:Wf h0)(o:OL h0 g L)(i:Nat){k:Nat}{B:bu}(c:L[i]?=some [(k,B)])(a:bu):OL h0 (g.set k a) (L.set i [(k,a)])/\eU g L (g.set k a) (L.set i [(k,a)]):=by
 have d:k∈keys L:=mem_keys (OL.mem c (j:=0) (p:=(k,B)) rfl);refine o.UY c (o.ok.set _ (o.lo k d) (o.lt d) f) (λp l=>?_) (by simp) (λj b=> .inl (by simpa using b)) (λj C b h=>?_)
 ·obtain rfl:=mem_singleton.1 l;rw[aa.ay,if_pos rfl]
 ·rw[aa.ay,if_neg (λe=>h (by simp[e]))];exact b
theorem OL.kJ(b:Wf h0)(o:OL h0 g L)(i:Nat){k:Nat}{B:bu}(c:L[i]?=some [(k,B)])(a:bu):OL h0 ((bp.set k a).app g) (L.set i [(k,a)])/\eU g L ((bp.set k a).app g) (L.set i [(k,a)]):=o.set b i c a
theorem OL.more(o:OL h0 g L){G:cC}(q:Ok h0 g')(i:∀p∈G,g'.get p.1=some p.2)(l:(G.map (·.1)).Nodup)(c:∀k∈G.map (·.1),g.next<=k)(d:∀k B,g.get k=some B->g'.get k=some B):OL h0 g' (L++[G])/\eU g L g' (L++[G]):=by
 have f:keys (L++[G])=keys L++G.map (·.1):=by rw[kX,Bz]
 refine⟨⟨q,?_,λk a=>?_,λp b=>?_⟩,λk C m=>⟨d k C m.1,λh=>?_⟩⟩
 ·rw[f];refine nodup_append.2 ⟨o.nd,l,λk a j n e=>?_⟩;subst e;have:=c k n;have:=o.lt a;omega
 ·rw[f]at a;rcases mem_append.1 a with a|a
  ·exact o.lo k a
  ·have:=c k a;have:=o.ok.nx;omega
 ·rw[flatten_append]at b;rcases mem_append.1 b with b|b
  ·exact d _ _ (o.at_ p b)
  ·exact i p (by simpa using b)
 ·rw[f]at h;rcases mem_append.1 h with h|h
  ·exact m.2 h
  ·have:=c k h;have:=o.ok.wf _ _ m.1;omega
theorem OL.push(o:OL h0 g L)(B:bu):OL h0 (g.push B) (L++[[(g.next,B)]])/\eU g L (g.push B) (L++[[(g.next,B)]]):=by
 refine o.more (o.ok.push B) (λp b=>?_) (by simp) (λk a=>by simp at a;omega) (λk C a=>?_)
 ·obtain rfl:=mem_singleton.1 b;rw[aa.aN,if_pos rfl]
 ·rw[aa.aN,if_neg (λe=>by have:=o.ok.wf _ _ a;omega)];exact a
theorem OL.none(o:OL h0 g L):OL h0 g (L++[[]])/\eU g L g (L++[[]]):=o.more o.ok (λp b=>by cases b) (by simp) (λk a=>by cases a) (λ_ _ h=>h)
theorem OL.grow(o:OL h0 g L)(e:Ok g g'):OL h0 g' L/\eU g L g' L:=⟨⟨o.ok.trans e,o.nd,o.lo,λp a=>e.ext _ _ (o.at_ p a)⟩,λk B m=>⟨e.ext _ _ m.1,m.2⟩⟩
theorem OL.new(o:OL h0 g L){k:Nat}{B:bu}(b:g.next<=k)(a:g'.get k=some B):Im g' L k B:=⟨a,λh=>by have:=o.lt h;omega⟩
theorem OL.fg(o:OL h0 g L)(B:bu):Im (g.push B) L g.next B:=o.new (Nat.le_refl _) (by rw[aa.aN,if_pos rfl])
theorem OL.left{A:List cC}(o:OL h0 g (L++A)):OL h0 g L/\eU g (L++A) g L:=by
 have a:keys (L++A)=keys L++keys A:=kX ..;refine⟨⟨o.ok,?_,λk b=>o.lo k (by rw[a];simp[b]),λp c=>o.at_ p (by rw[flatten_append];simp[c])⟩,λk B m=>⟨m.1,λh=>m.2 (by rw[a];simp[h])⟩⟩;have:=o.nd;rw[a]at this;exact(nodup_append.1 this).1
end
def fj(e:TypeId)(sz:Nat)(v:Value)(rs:List (List Value))(G:cC):Prop:=
 (∀r∈rs,r.length=sz)/\((v = .slice none 0 0/\rs=[]/\G=[])\/ ∃k a cs c,v = .slice (some ⟨k,a,none⟩) rs.length c/\G=[(k,.cells cs e sz true)]/\(cs.drop a).take (rs.length*sz)=rs.flatten/\aW c*sz+a=cs.length/\rs.length<=aW c)
theorem fj.nil(e:TypeId)(sz:Nat):fj e sz (.slice none 0 0) [] []:=⟨λr a=>(by cases a),.inl ⟨rfl,rfl,rfl⟩⟩
theorem fj.oa{e:TypeId}{sz:Nat}{v:Value}{rs:List (List Value)}{G:cC}(r:fj e sz v rs G):∃(a:Option Addr)(c:Nat),v = .slice a rs.length c:=by
 obtain⟨_,⟨rfl,rfl,_⟩|⟨k,d,cs,c,b,_⟩⟩:=r
 ·exact⟨_,_,rfl⟩
 ·exact⟨_,_,b⟩
theorem fj.len{e:TypeId}{sz:Nat}{c:Nat}{rs:List (List Value)}{G:cC}(r:fj e sz (.slice a n c) rs G):n=rs.length:=by
 obtain⟨d,b,h⟩:=r.oa;injection h
theorem fj.blk{e:TypeId}{sz:Nat}{v:Value}{rs:List (List Value)}{G:cC}(r:fj e sz v rs G):G.map (·.1)=(bZ v).toList:=by
 obtain⟨_,⟨rfl,rfl,rfl⟩|⟨k,a,cs,c,rfl,rfl,_⟩⟩:=r
 ·rfl
 ·rfl
theorem fj.made{e:TypeId}{sz:Nat}{rs:List (List Value)}(a:∀r∈rs,r.length=sz)(d:rs.length<cj):fj e sz (.slice (some ⟨k,0,none⟩) rs.length rs.length) rs [(k,.cells rs.flatten e sz true)]:=by
 have b:aW rs.length=rs.length:=by unfold aW;rw[if_neg (by omega)]
 have c:=mg a;exact⟨a,.inr ⟨k,0,rs.flatten,rs.length,rfl,rfl,by rw[drop_zero,take_of_length_le (by omega)],by rw[b,c];rfl,by rw[b];exact Nat.le_refl _⟩⟩
section
variable {h0 g:aa} {L:List cC} {e:TypeId} {sz:Nat} {v:Value} {rs:List (List Value)} {G:cC}
theorem fj.own(r:fj e sz v rs G)(o:OL h0 g L){i:Nat}(l:L[i]?=some G):eZ h0 g e sz v rs:=by
 obtain⟨f,⟨rfl,rfl,rfl⟩|⟨k,b,cs,c,rfl,rfl,d,h,m⟩⟩:=r
 ·exact eZ.nil ..
 ·have a:=OL.mem l (j:=0) (p:=(k,.cells cs e sz true)) rfl;exact⟨f,.inr ⟨k,b,cs,c,rfl,o.lo k (mem_keys a),o.at_ _ a,d,h,m⟩⟩
theorem fj.rd(r:fj e sz v rs G)(o:OL h0 g L){i:Nat}(a:L[i]?=some G):wT g e sz v rs:=(r.own o a).rd
theorem fj.of(o:eZ h0 g e sz v rs):∃G,fj e sz v rs G/\(∀p∈G,g.get p.1=some p.2):=by
 obtain⟨f,⟨rfl,rfl⟩|⟨k,b,cs,c,rfl,l,d,h,j,i⟩⟩:=o
 ·exact⟨[],fj.nil ..,λp a=>by cases a⟩
 ·exact⟨_,⟨f,.inr ⟨k,b,cs,c,rfl,rfl,h,j,i⟩⟩,λp a=>by obtain rfl:=mem_singleton.1 a;exact d⟩
theorem fj.nd(r:fj e sz v rs G):(G.map (·.1)).Nodup:=by
 rw[r.blk];cases bZ v<;>simp
theorem fj.add{t:TypeId}{i:TypeInfo}(O:P.underlying t=some (.slice e))(C:dC P e=some i)(D:i.size=sz)(K:ch P T=true)(w:Wf h0)(r:fj e sz v rs G)(o:OL h0 g L){j:Nat}(s:L[j]?=some G){x:Value}{ns:List (List Value)}(f:cQ g sz x=some (ns.flatten,ns.length))(p:∀r∈ns,r.length=sz)(E:ns.flatten.all bw=true)(A:(rs.length+ns.length)*i.bytes<=70368744177664)(q:rs.length+ns.length<=1099511627776)(m:ns.length<=1\/v = .slice none 0 0):
  ∃(b:Option Addr)(n c:Nat)(u:bp),aJ P t T v x g=some (.slice b n c,u)/\n=rs.length+ns.length/\∃a,fj e sz (.slice b n c) (rs++ns) a/\OL h0 (u.app g) (L.set j a)/\eU g L (u.app g) (L.set j a):=by
 obtain⟨b,n,c,u,F,I,z,J,N,M,Q⟩:=(r.own o s).add O C D K w o.ok f p E A q m;obtain⟨a,l,H⟩:=fj.of z;refine⟨b,n,c,u,F,I,a,l,o.UY s J H l.nd (λk d=>?_) (λk B d y=>N k B d λe=>y ?_)⟩
 ·rw[l.blk]at d;rw[r.blk];rcases M k (by simpa using d)with h|h
  ·exact .inr h
  ·exact .inl (by simp[h])
 ·rw[r.blk,e];simp
theorem fj.put{t':TypeId}(t:au P t'=some 1)(l:Wf h0){k a n c:Nat}(r:fj e sz (.slice (some ⟨k,a,none⟩) n c) rs G)(o:OL h0 g L){j:Nat}(h:L[j]?=some G){i q:Nat}{x:List Value}(C:rs[i]?=some x)(y:q<sz){v':Value}(p:bw v'=true)(D:v'.cells = #[v']):
  ∃u:bp,aj P t' (.pointer (some ⟨k,a+i*sz+q,none⟩)) v' g=some (undef,u)/\∃b,fj e sz (.slice (some ⟨k,a,none⟩) n c) (rs.set i (x.set q v')) b/\OL h0 (u.app g) (L.set j b)/\eU g L (u.app g) (L.set j b):=by
 obtain⟨u,v,z,s,A,E⟩:=(r.own o h).put t l o.ok C y p D;obtain⟨b,f,w⟩:=fj.of z;refine⟨u,v,b,f,o.UY h s w f.nd (λk d=> .inl ?_) (λk B d m=>A k B d λe=>m ?_)⟩
 ·rw[f.blk]at d;rw[r.blk];exact d
 ·rw[r.blk,<-e];exact mem_singleton.2 rfl
end
end
section
theorem BL:∀(N:Nat){l:List Nat},l.Nodup->(∀i∈l,i<N)->l.length<=N
 |0,[],_,_=>Nat.le_refl _
 |0,i::_,_,h=>absurd (h i (mem_cons_self ..)) (Nat.not_lt_zero _)
 | N+1,l,b,h=>by
  have c:(l.erase N).length<=N:=BL N (b.erase N) λi a=>by
   have f:=h i (List.mem_of_mem_erase a);have d:i≠N:=λe=>by rw[e,b.mem_erase_iff]at a;exact a.1 rfl
   omega
  rw[List.length_erase]at c;split at c<;>omega
section
variable {P:Program} {gl:Nat->Bool} {ops:Array Oper} {bf:Nat->Nat->Bool} {base N:Nat} (hN:ops.size=N) (St:(Nat->Bool)->yw->Prop) (step: ∀ D s j,j < N->D j=false->(∀ i,i < j->bf j i=true->D i=true)->St D s-> ∃ s',wz P gl ops base j s=some s'/\St (fun i=>i == j || D i) s')
include step
theorem J6:∀(n j:Nat)(s:yw),j+n=N->St (λi=>decide (i<j)) s->∃s',zm P gl ops base n j s=some s'/\St (λi=>decide (i<N)) s'
 |0,j,s,h,c=>⟨s,rfl,by rw[<-h];exact c⟩
 | n+1,j,s,h,c=>by
  obtain⟨l,b,a⟩:=step _ s j (by omega) (by simp) (λi k _=>by simpa using k) c;have e:(λi=>i==j||decide (i<j))=λi=>decide (i<j+1):=by
   funext i;by_cases b:i=j
   ·subst b;simp
   ·rw[show(i==j)=false by simpa using b,Bool.false_or];by_cases a:i<j
    ·simp[a,Nat.lt_succ_of_lt a]
    ·rw[decide_eq_false a,decide_eq_false (by omega)]
  rw[e]at a;obtain⟨f,d,g⟩:=J6 n (j+1) l (by omega) a;exact⟨f,by rw[zm,b];exact d,g⟩
include hN
theorem Ny{fin:yw}(d:∀D s,(∀i,i<N->D i=true)->St D s->D8 fin s=true):∀(n:Nat)(a:List Nat)(s:yw),a.Nodup->(∀i∈a,i<N)->a.length+n=N->St (λi=>a.contains i) s->HQ P gl ops bf base fin n a s=true
 | 0,a,s,g,k,h,l=>by
  rw[HQ];refine d _ s (λi b=>?_) l;rw[List.contains_iff_mem];refine Classical.byContradiction λf=>?_;have:=BL N (List.nodup_cons.2 ⟨f,g⟩) (λj c=>by
   rcases mem_cons.1 c with rfl|c
   ·exact b
   ·exact k j c)
  rw[length_cons]at this;omega
 | n+1,a,s,g,k,h,l=>by
  rw[HQ,all_eq_true];intro j c;rw[mem_range,hN]at c
  cases o:a.contains j with
  |true=>rfl
  | false=>
   rw[Bool.false_or]
   cases m:(List.range j).any λi=>bf j i && !a.contains i with
   |true=>rfl
   | false=>
    rw[Bool.false_or];obtain⟨t,q,r⟩:=step _ s j c o (λi b p=>by
     rw[List.any_eq_false]at m;have:=m i (mem_range.2 b);rw[p]at this;simpa using this) l
    rw[q];refine Ny d n (j::a) t (List.nodup_cons.2 ⟨λf=>?_,g⟩) (λi b=>?_) (by rw[length_cons];omega) ?_
    ·rw[<-List.contains_iff_mem,o]at f;cases f
    ·rcases mem_cons.1 b with rfl|b
     ·exact c
     ·exact k i b
    ·have e:(λi=>(j::a).contains i)=λi=>i==j||a.contains i:=by
      funext i;rw[List.contains_cons]
     rw[e];exact r
theorem SY{tm:List Value}(j:h.next=base)(f:St (λ_=>false) (tm,{ h with next:=h.next+ops.size },[]))(a:∀D c s s',(∀i,i<N->D i=true)->(∀i,i<N->c i=true)->St D s->St c s'->D8 s s'=true):∃s:yw,St (λi=>decide (i<N)) s/\vj P gl ops bf tm h=some (s.1,s.2.1):=by
 subst j;obtain⟨s,d,e⟩:=J6 St step N 0 _ (by omega) (by simpa using f);refine⟨s,e,?_⟩;unfold vj;rw[hN,show zm P gl ops h.next N 0 (tm,{ h with next:=h.next+N },[])=some s by rw[<-hN]at d⊢;exact d];dsimp only;rw[if_pos (Ny hN St step (fin:=s) (λD s' k g=>a _ D s s' (λi b=>by simpa using b) k e g) N [] _ List.nodup_nil (λi b=>by cases b) (by simp) (by simpa[hN]using f))]
end
end
section
def pD(vs:List Value):List (List Value):=vs.map λx=>[x]
theorem jU:∀vs:List Value,(pD vs).flatten=vs
 |[]=>rfl
 |x::vs=>by
  show[x]++(pD vs).flatten=_;rw[jU vs];rfl
theorem du(vs:List Value):(pD vs).length=vs.length:=lM ..
theorem vW{vs:List Value}:∀r∈pD vs,r.length=1:=λr a=>by
 obtain⟨x,_,rfl⟩:=mem_map.1 a;rfl
theorem Uk(vs a:List Value):pD (vs++a)=pD vs++pD a:=List.map_append
def dw(e:TypeId)(v:Value)(vs:List Value)(G:cC):Prop:=fj e 1 v (pD vs) G
theorem dw.nil(e:TypeId):dw e (.slice none 0 0) [] []:=fj.nil e 1
section
variable {h0 g:aa} {L:List cC} {e:TypeId} {v:Value} {vs:List Value} {G:cC}
theorem dw.oa(r:dw e v vs G):∃(a:Option Addr)(c:Nat),v = .slice a vs.length c:=by
 obtain⟨a,c,h⟩:=fj.oa r;rw[du]at h;exact⟨a,c,h⟩
theorem dw.rdp(r:dw e v vs G)(h:∀p∈G,g.get p.1=some p.2):Rd g e v vs:=by
 obtain⟨_,⟨rfl,f,_⟩|⟨k,b,cs,c,d,rfl,a,i,j⟩⟩:=r
 ·have:vs=[]:=by simpa[pD]using f
  subst this;exact .inl ⟨rfl,rfl⟩
 ·rw[du,mul_one,jU]at a;rw[du]at d;exact .inr ⟨k,b,cs,c,true,d,h _ (mem_singleton.2 rfl),a⟩
theorem OL.PH(o:OL h0 g L){i:Nat}(a:L[i]?=some G):∀p∈G,g.get p.1=some p.2:=λp b=>by
 obtain⟨j,c⟩:=getElem?_of_mem b;exact o.at_ p (OL.mem a c)
theorem dw.rd(r:dw e v vs G)(o:OL h0 g L){i:Nat}(a:L[i]?=some G):Rd g e v vs:=r.rdp (o.PH a)
theorem dw.snoc{t:TypeId}{i:TypeInfo}(F:P.underlying t=some (.slice e))(q:dC P e=some i)(s:i.size=1)(B:ch P t=true)(l:Wf h0)(r:dw e v vs G)(o:OL h0 g L){j:Nat}(C:L[j]?=some G){x:Value}(w:bw x=true){d:Nat}(h:g.get d=some (.cells [x] e 1 true))(p:(vs.length+1)*i.bytes<=70368744177664)(k:vs.length+1<=1099511627776):
  ∃(b:Option Addr)(n c:Nat)(u:bp),aJ P t t v (.slice (some ⟨d,0,none⟩) 1 1) g=some (.slice b n c,u)/\n=vs.length+1/\∃a,dw e (.slice b n c) (vs++[x]) a/\OL h0 (u.app g) (L.set j a)/\eU g L (u.app g) (L.set j a):=by
 have f:cQ g 1 (.slice (some ⟨d,0,none⟩) 1 1)=some (([[x]]:List (List Value)).flatten,1):=by
  show(match g.get d with|some (.cells cs ..)=>if((cs.drop 0).take (1*1)).length=1*1 then some ((cs.drop 0).take (1*1),1)else none|_=>none)=_;rw[h];rfl
 have E:fj e 1 v (pD vs) G:=r;obtain⟨b,n,c,u,y,z,a,m,A⟩:=E.add F q s B l o C (ns:=[[x]]) f (λr D=>by rw[mem_singleton.1 D];rfl) (by simp[w]) (by rw[du];exact p) (by rw[du];exact k) (.inl (Nat.le_refl _));refine⟨b,n,c,u,y,by rw[z,du];rfl,a,?_,A⟩;unfold dw;rw[Uk];exact m
theorem dw.tail{t:TypeId}(s:P.underlying t=some (.slice e))(i:au P e=some 1){x:Value}(r:dw e v (x::vs) G)(q:∀p∈G,g.get p.1=some p.2):∃(a:Option Addr)(n c:Nat),bE P t v (some (.int .i64 1)) none none g=some (.slice a n c)/\dw e (.slice a n c) vs G:=by
 obtain⟨_,⟨_,l,_⟩|⟨k,f,cs,c,rfl,rfl,h,m,d⟩⟩:=r
 ·cases l
 ·rw[du,length_cons]at h d;rw[jU,mul_one]at h;rw[mul_one]at m;have o:=q _ (mem_singleton.2 rfl);have j:=uo s i (k:=k) (off:=f) o (n:=(x::vs).length) (z:=1) (by rw[length_cons];omega) (by rw[length_cons];exact d);rw[du];refine⟨_,_,_,j,vW,.inr ⟨k,f+1*1,cs,c-1,?_,rfl,?_,?_,?_⟩⟩
  ·rw[du,length_cons];rfl
  ·rw[du,jU,mul_one];have:=congrArg (List.drop 1) h;rw[drop_take,drop_drop]at this;simpa using this
  ·have b:aW (c-1)=aW c-1:=by
    unfold aW at d⊢;by_cases b:cj<=c
    ·rw[if_pos b]at d;rw[if_pos b,if_pos (by omega)];omega
    ·rw[if_neg b,if_neg (by omega)]
   rw[b];omega
  ·have b:aW (c-1)=aW c-1:=by
    unfold aW at d⊢;by_cases b:cj<=c
    ·rw[if_pos b]at d;rw[if_pos b,if_pos (by omega)];omega
    ·rw[if_neg b,if_neg (by omega)]
   rw[b,du];omega
end
theorem mF{t e:TypeId}(b:P.underlying t=some (.slice e))(a:au P e=some 1){k n c i:Nat}(h:i<n):ai P t (sA k n c) (.int .i64 (i:Int))=some (.pointer (some ⟨k,i,none⟩)):=by
 rw[FU b a (by omega) (by omega)];simp
theorem Im.ld{t:TypeId}{d:TypeDesc}(b:P.underlying t=some d)(a:isAgg P t=false){g:aa}{L:List cC}{k:Nat}{v:Value}{e:TypeId}{z:Nat}{w:Bool}(m:Im g L k (.cells [v] e z w)):ae P t g (pA k)=some v:=aR b a m.1 (by simp)
theorem OL.Yw{h0 g:aa}{L A:List cC}(o:OL h0 g (L++A)):∀p∈A.flatten,Im g L p.1 p.2:=λp a=>⟨o.at_ p (by rw[flatten_append];exact List.mem_append_right _ a),λb=>by
 have:=o.nd;rw[kX]at this;exact(nodup_append.1 this).2.2 _ b _ (mem_keys a) rfl⟩
def sM(g:aa)(L:List cC)(e:TypeId)(v:Value)(vs:List Value):Prop:=∃G,dw e v vs G/\∀p∈G,Im g L p.1 p.2
theorem sM.cP{g:aa}{L a:List cC}{e:TypeId}{v:Value}{vs:List Value}(r:sM g L e v vs)(c:eU g L h a):sM h a e v vs:=by
 obtain⟨G,b,d⟩:=r;exact⟨G,b,λp f=>c _ _ (d p f)⟩
theorem sM.rd{g:aa}{L:List cC}{e:TypeId}{v:Value}{vs:List Value}(r:sM g L e v vs):Rd g e v vs:=by
 obtain⟨G,a,b⟩:=r;exact a.rdp λp c=>(b p c).1
theorem OL.Ly{h0 g:aa}{L:List cC}(o:OL h0 g L){n j:Nat}(a:j<n)(B:bu):OL h0 (aw (room g n) g.next [(j,B)]) L/\eU g L (aw (room g n) g.next [(j,B)]) L/\Im (aw (room g n) g.next [(j,B)]) L (g.next+j) B:=by
 have e:Ok g (aw (room g n) g.next [(j,B)]):=((Ok.refl o.ok.wf).room n).set B (le_add_right _ _) (Nat.add_lt_add_left a _) o.ok.wf;have b:(aw (room g n) g.next [(j,B)]).get (g.next+j)=some B:=by
  show((room g n).set (g.next+j) B).get (g.next+j)=_;rw[aa.ay,if_pos rfl]
 exact⟨(o.grow e).1,(o.grow e).2,o.new (le_add_right _ _) b⟩
theorem OL.IY{h0 g:aa}{L:List cC}{G:cC}(o:OL h0 g L){i:Nat}(a:L[i]?=some G):∀p∈G,h0.next<=p.1:=λp b=>o.lo _ (mem_keys (List.mem_flatten.2 ⟨G,List.mem_of_getElem? a,b⟩))
def nh(g a:aa)(e:TypeId)(v:Value)(vs:List Value):Prop:=∃G,dw e v vs G/\∀p∈G,g.next<=p.1/\a.get p.1=some p.2
theorem nh.im{h0 g:aa}{L:List cC}{e:TypeId}{v:Value}{vs:List Value}(r:nh g h e v vs)(o:OL h0 g L):sM h L e v vs:=by
 obtain⟨G,c,a⟩:=r;exact⟨G,c,λp b=>o.new (a p b).1 (a p b).2⟩
theorem nh.rd{g:aa}{e:TypeId}{v:Value}{vs:List Value}(r:nh g h e v vs):Rd h e v vs:=by
 obtain⟨G,a,b⟩:=r;exact a.rdp λp c=>(b p c).2
theorem abV{g:aa}{e:TypeId}{v:Value}{vs:List Value}(r:Rd g e v vs):cQ g 1 v=some (vs,vs.length):=by
 rcases r with⟨rfl,rfl⟩|⟨k,a,cs,c,f,rfl,d,b⟩
 ·rfl
 ·show(match g.get k with|some (.cells cs ..)=>if((cs.drop a).take (vs.length*1)).length=vs.length*1 then some ((cs.drop a).take (vs.length*1),vs.length)else none|_=>none)=_;rw[d,mul_one];dsimp only;rw[b,if_pos rfl]
theorem Xb{t e:TypeId}{i:TypeInfo}(y:P.underlying t=some (.slice e))(m:dC P e=some i)(o:i.size=1)(s:ch P t=true){g:aa}(w:Wf g){x:Value}{vs:List Value}(d:cQ (g.push (.cells [] e 1 true)) 1 x=some (vs,vs.length))(q:vs.all bw=true)(l:vs.length*i.bytes<=70368744177664)(h:vs.length<=1099511627776):
  ∃(b:Option Addr)(n c:Nat)(u:bp),aJ P t t (sA g.next 0 0) x (g.push (.cells [] e 1 true))=some (.slice b n c,u)/\nh g (u.app (g.push (.cells [] e 1 true))) e (.slice b n c) vs/\Ok g (u.app (g.push (.cells [] e 1 true))):=by
 have a:=(Ok.refl w).push (.cells [] e 1 true);have j:(g.push (.cells [] e 1 true)).get g.next=some (.cells [] e 1 true):=by rw[aa.aN,if_pos rfl]
 have k:g.next<(g.push (.cells [] e 1 true)).next:=Nat.lt_succ_self _;unfold aJ;rw[y];dsimp only;rw[m];dsimp only;rw[o,if_pos s,d];dsimp only;rw[if_pos ⟨q,(mul_one _).symm⟩];by_cases h0:vs.length=0
 ·rw[if_pos h0];obtain rfl:=eq_nil_of_length_eq_zero h0;exact⟨_,_,_,_,rfl,⟨[(g.next,.cells [] e 1 true)],fj.made (rs:=[]) (λr v=>by cases v) (by decide),λp f=>by obtain rfl:=mem_singleton.1 f;exact⟨Nat.le_refl _,j⟩⟩,a⟩
 ·have z:aW 0=0:=by unfold aW;rw[if_neg (by decide)]
  rw[if_neg h0,z,if_neg (by omega)];unfold gU;rw[if_pos ⟨by rw[zero_add];exact l,by rw[zero_add];exact h⟩,j];dsimp only;rw[if_pos ⟨rfl,rfl,rfl⟩,if_pos (by decide)];refine⟨_,_,_,_,rfl,⟨[((g.push (.cells [] e 1 true)).next,.cells ([]++vs) e 1 true)],⟨vW,.inr ⟨(g.push (.cells [] e 1 true)).next,0,vs,cj+(0+vs.length),?_,?_,?_,?_,?_⟩⟩,λp f=>?_⟩,a.push _⟩
  ·rw[du,zero_add]
  ·rfl
  ·rw[du,jU,mul_one,drop_zero,take_length]
  ·rw[zero_add,cw];simp
  ·rw[zero_add,cw,du];exact Nat.le_refl _
  ·obtain rfl:=mem_singleton.1 f;refine⟨Nat.le_of_lt k,?_⟩;show((g.push _).push _).get _=_;rw[aa.aN,if_pos rfl];rfl
theorem OL.cell{t:TypeId}(b:au P t=some 1){h0 g:aa}{L:List cC}(o:OL h0 g L)(z:Value){v:Value}(a:bw v=true)(c:v.cells = #[v]):∃u:bp,aj P t (pA g.next) v (g.push (.cells [z] t 0 true))=some (undef,u)/\Ok g (u.app (g.push (.cells [z] t 0 true)))/\Im (u.app (g.push (.cells [z] t 0 true))) L g.next (.cells [v] t 0 true):=by
 have k:(g.push (.cells [z] t 0 true)).get g.next=some (.cells [z] t 0 true):=by rw[aa.aN,if_pos rfl]
 have e:Ok g ((g.push (.cells [z] t 0 true)).set g.next (.cells [v] t 0 true)):=((Ok.refl o.ok.wf).push _).set _ (Nat.le_refl _) (Nat.lt_succ_self _) o.ok.wf;exact⟨_,bG b k (by simp) a c,e,o.new (Nat.le_refl _) (by show((g.push _).set _ _).get _=_;rw[aa.ay,if_pos rfl];rfl)⟩
theorem tR(L:List cC)(n:Nat):keys (L++List.replicate n [])=keys L:=by
 rw[kX];have:keys (List.replicate n ([]:cC))=[]:=by unfold keys;simp
 rw[this,append_nil]
theorem OL.cW{h0 g:aa}{L:List cC}(o:OL h0 g L)(n:Nat):OL h0 g (L++List.replicate n [])/\eU g L g (L++List.replicate n []):=
 ⟨⟨o.ok,by rw[tR];exact o.nd,λk a=>o.lo k (by rwa[tR]at a),λp b=>o.at_ p (by simpa using b)⟩,λk B m=>⟨m.1,by rw[tR];exact m.2⟩⟩
end
end Go.Ab
end
section
namespace Go.Ab
open Go Go.RowKit Go.Proofs Go.Sort Go.Shelf
variable{n:Nat}{a:Option Addr}{v:Value}{W:World}{V:Array Value}
section
variable {β:cI} {P:Program} {gl:Nat->Bool}
theorem D5:∀{cs:List Value}{l:List Int},Lc cs=some l->cs=l.map zV
 |[],l,h=>by obtain rfl:=oI h;rfl
 | v::r,l,h=>by
  unfold Lc at h;split at h
  ·next a=>cases a
  ·next z d a=>
   injection a with a c
   subst a;subst c;obtain⟨l',b,rfl⟩:=Option.map_eq_some_iff.1 h;rw[D5 b];rfl
  grind
theorem Ms{c:Nat}(h:aB β (.slice a n c) v):∃d b,v = .slice d n b:=by
 cases h with
 |kZ=>grind
 |slice=>grind
 |dead=>grind
theorem PL{b s:Nat}{t:TypeId}{d:Nat×Nat}{cs:List Value}{l:List Int}(g:W.heap[b]?=some (.cells V t d))(u:ff β cs s V)(i:Tm d V.size)(h:n+l.length<=cs.length)(m:(cs.drop n).take l.length=l.map zV):Holds (Value.int .i64) W b (s+n) l.toArray:=by
 intro j a;have a:j<l.length:=by simpa using a
 have f:(l.map zV)[j]?=some (zV l[j]):=by rw[List.getElem?_map,gE a];rfl
 rw[<-m,getElem?_take,if_pos a,getElem?_drop]at f;obtain⟨w,c,k⟩:=u _ _ f;rw[k.rL rfl]at c;rw[show s+(n+j)=s+n+j by omega]at c;have e:l.toArray[j]! = l[j]:=getElem!_pos l.toArray j (by simpa using a);refine⟨by rw[lL g,c,e];rfl,?_⟩;have v:s+n+j<V.size:=(Array.getElem?_eq_some_iff.1 c).1;unfold World.frozen?;rw[g];dsimp only;obtain⟨p,o⟩:=d;rw[Bool.and_eq_false_iff];by_cases r:p<=s+n+j
 ·right;have:¬s+n+j<o:=λq=>by
   have:=i (s+n+j) r q;omega
  simpa using this
 grind
set_option maxHeartbeats 1000000 in
theorem Vr{ρ:Ren}(L:SlLaysM.n5 P ρ){f5:Func}(T:P.funcs[ρ.f 5]?=some f5)(W:f5.body.isSome=true):gT P gl (ρ.f 5) Ck:=by
 intro x7 _ x4 h v h' g β w F o _ ha;refine⟨f5,T,.inl ⟨W,?_⟩⟩;unfold Ck at g;split at g
 ·next a n c=>
  obtain⟨v1,r1,e1,M,X⟩:=ha.cz;have e3:=X.dL;subst e3;have G:F = #[v1]:=by
   have:=congrArg List.toArray e1;simpa using this
  subst G;split at g
  ·next Q=>
   subst Q;simp only[Option.some.injEq,Prod.mk.injEq]at g;obtain⟨rfl,rfl⟩:=g;obtain⟨a',R,rfl⟩:=Ms M;refine(AnyM.slices_Sort_int_none L a' R w).mono ?_;rintro e w' ⟨rfl,rfl⟩;exact⟨_,β,rfl,Step.refl o,.tuple rfl λi v p h=>by simp at h⟩
  ·next Q=>
   split at g
   ·next b d=>
    split at g
    ·next cs t sz u=>
     split at g
     ·next B=>
      obtain⟨l,S,he⟩:=Option.map_eq_some_iff.1 g;simp only[Prod.mk.injEq]at he;obtain⟨rfl,rfl⟩:=he;have Y:=D5 S;obtain⟨f,i',R,s,V,_,rfl,x5,x9,x6,C,x8⟩:=M.fo;have C:i'=f.s+d:=by
       rcases C with h|⟨h,_⟩
       ·exact h
       ·exact absurd h Q
      subst C;obtain⟨V,ht,hz,r,fr,hw,Z,O,J⟩:=o.blk _ _ _ u s;have z:((cs.drop d).take n).length=n:=by rw[length_take,List.length_drop];omega
      have x1:l.length=n:=by
       rw[Y,lM]at z;exact z
      subst x1;have H:=PL (β:=β) hw O (J rfl) B.2 Y;refine(AnyM.slices_Sort_int L f.b (f.s+d) R l w H (o.lt _ _ s).2 B.1).mono ?_;rintro e w' ⟨rfl,m,os,rfl⟩;have A:(zk l).length=l.length:=List.length_mergeSort l;have e0:(l.mergeSort λx y=>decide (x<=y))=zk l:=rfl;rw[e0];generalize zk l=l' at*;have x3:d<=cs.length:=by omega
      have q:∀i v,cs[i]?=some v->∃p,r[f.s+i]?=some p/\aB β v p:=O;have I:Step β h w β (h.set b (.cells (cs.take d++l'.map zV++cs.drop (d+l.length)) t sz true)) (putRow (Value.int .i64) (Sort.ahead w m) f.b (f.s+d) l'.toArray):=by
       refine Step.at_ o u s rfl ⟨by simp,rfl,⟨rfl,le_add_right _ _⟩,rfl,λb' U=>?_⟩ ⟨V,ht,hz,putCells (Value.int .i64) (f.s+d) l'.toArray r,fr,?_,by simp[putCells,Z],λi v k=>?_,λ_=>by simpa[putCells]using J rfl⟩
       ·simp only[putRow,mapBlock,Array.getElem?_modify];rw[if_neg (Ne.symm U)];rfl
       ·simp only[putRow,mapBlock,Array.getElem?_modify,if_true,heap_ahead,hw,map_some,onCells]
       ·have x2:∀j,(putCells (Value.int .i64) (f.s+d) l'.toArray r)[j]?=(r[j]?).map λx=>if f.s+d<=j/\j<f.s+d+l.length then Value.int .i64 (l'.toArray[j-(f.s+d)]!)else x:=λj=>by
         simp only[putCells,Array.getElem?_mapIdx,List.size_toArray,A]
        rw[x2];have hf:(l'.map zV).length=l.length:=by rw[lM,A]
        have x0:(cs.take d).length=d:=by rw[length_take];omega
        rw[append_assoc,List.getElem?_append,x0]at k;split at k
        ·next hi=>
         rw[getElem?_take,if_pos hi]at k;obtain⟨p,D,E⟩:=q i v k;rw[D];exact⟨p,by simp only[map_some];rw[if_neg (by omega)],E⟩
        ·next hi=>
         rw[List.getElem?_append,hf]at k;split at k
         ·next N=>
          have g0:i<cs.length:=by omega
          obtain⟨p,D,E⟩:=q i _ (gE g0);rw[D];simp only[map_some];rw[if_pos (by omega)];have K:i-d<l'.length:=by rw[A];exact N
          rw[List.getElem?_map,gE K]at k;obtain rfl:=oI k;refine⟨_,rfl,?_⟩;rw[show f.s+i-(f.s+d)=i-d by omega];have e:l'.toArray[i-d]! = l'[i-d]:=getElem!_pos l'.toArray (i-d) (by simpa using K);rw[e];exact .vV rfl
         ·next N=>
          rw[getElem?_drop,show d+l.length+(i-d-l.length)=i by omega]at k;obtain⟨p,D,E⟩:=q i v k;rw[D];exact⟨p,by simp only[map_some];rw[if_neg (by omega)],E⟩
      refine⟨_,β,rfl,I.trans (od I.na ⟨rfl,rfl,rfl,by rw[size_grow];exact le_add_right _ _,λj hj=>heap_grow_old _ os hj⟩ (Nat.le_refl _)),.tuple rfl λi v p h=>by simp at h⟩
     ·cases g
    ·cases g
   ·cases g
 grind
end
end Go.Ab
end
section
namespace Go.Ab
open Go Go.RowKit
variable{A:Type}{n:Nat}{v:Value}{T:TypeId}
section
variable {β:cI} {P:Program} {h:aa} {w:World}
theorem FK{e:Type}{c:Nat}:∀{a:List (List e)},(∀r∈a,r.length=c)->∀{i:Nat}{r:List e},a[i]?=some r->∀{j:Nat},j<c->a.flatten[i*c+j]?=r[j]?
 |[],_,i,r,b,_,_=>by grind
 |x::a,d,0,r,b,j,f=>by grind
 |x::a,d,i+1,r,b,j,f=>by
  have h:=d x (mem_cons_self ..);rw[List.getElem?_cons_succ]at b;have k:=FK (λr g=>d r (mem_cons_of_mem _ g)) b f
  grind
theorem oA{d:Type}{b:Nat}:∀{a:List (List d)},(∀r∈a,r.length=b)->a.flatten.length=a.length*b
 |[],_=>by simp
 |x::a,c=>by
  have e:=c x (mem_cons_self ..);rw[flatten_cons,length_append,oA λr f=>c r (mem_cons_of_mem _ f),e,length_cons,add_mul];omega
theorem Tj{a:List (List A)}(b:∀r∈a,r.length=n){i:Nat}{r:List A}(c:a[i]?=some r):(a.flatten.drop (i*n)).take n=r:=by
 have d:=b r (List.mem_of_getElem? c);refine List.ext_getElem? λj=>?_
 grind[FK]
structure tw(β:cI)(h:aa)(w:World):Prop where
 na:iC β h w
 ro:∀k B,h.get k=some B->B.wr=false
theorem aeK(n:Nat)(w:World):tw β0 ⟨n,.nil⟩ w:=⟨GX n w,λk B h=>by grind[aa.get_nil]⟩
theorem tw.wf(i:tw β h w):Wf h:=i.na.wf
theorem tw.below(i:tw β h w){b:cI}{e:aa}{a:World}(s:Step β h w b e a):Below w.heap.size w a:=
 ⟨s.os,s.tape.1,s.output,s.size,λk f=>s.kept k f λ⟨k,B,g,c,d,_⟩=>by rw[i.ro k B c]at d;grind⟩
abbrev GQ(b n:Nat)(t:TypeId):Slot:=⟨b,0,n,t,0,false⟩
theorem tw.fresh(i:tw β h w):β h.next=none:=i.na.jT (Nat.le_refl _)
theorem tw.le(i:tw β h w)(a:Slot):β.le (β.ext h.next a):=cI.BD a i.fresh
theorem tw.push(i:tw β h w){cs:List Value}{t:TypeId}{c:Array Value}{o:Nat×Nat}{b:Nat}(l:w.heap[b]?=some (.cells c t o))(q:ff β cs 0 c):
  tw (β.ext h.next (GQ b c.size t)) (h.push (.cells cs t 0 false)) w:=by
 have j:=i.le (GQ b c.size t);have m:b<w.heap.size:=(Array.getElem?_eq_some_iff.1 l).1;have n:∀k B,(h.push (.cells cs t 0 false)).get k=some B->B.wr=false:=λk B a=>by
  rw[aa.aN]at a;split at a
  ·obtain rfl:=oI a;rfl
  ·exact i.ro k B a
 refine⟨⟨λk f a=>?_,λk B f d g=>?_,λk s B u f r _ d _ _ _ p=>?_,aa.l5 i.na.wf _⟩,n⟩
 ·by_cases e:k=h.next
  ·subst e;rw[cI.ca]at a;obtain rfl:=oI a;exact⟨by simp,m⟩
  ·rw[cI.dz _ _ e]at a;have:=i.na.lt k f a;exact⟨by simp;omega,this.2⟩
 ·rw[aa.aN]at d;split at d
  ·next e=>
   subst e;rw[cI.ca]at g;obtain rfl:=oI g;obtain rfl:=oI d;exact⟨rfl,rfl,⟨rfl,λ_=>rfl⟩,c,o,l,rfl,q.mono j,λp=>by cases p⟩
  ·next e=>
   rw[cI.dz _ _ e]at g;exact(i.na.blk k B f d g).mono j
 grind
theorem H5(r:tD P){q:FuncId->Option kS}{gl:Nat->Bool}(u:oU P gl q){f:FuncId}{l:Func}{b:List Value}{Q:Value->aa->Prop}(p:FW ⟨P,gl,q⟩ f b h Q)(x:f<YB)(m:P.funcs[f]?=some l)(s:l.body.isSome=true)
  {args':Array Value} (i:tw β h w) (C:Gl gl β) (A:aU β b args'.toList):
  Calls P f args' w λe g=>∃v d c a,e = .returned d/\Q v c/\aB a v d/\Step β h w a c g/\Below w.heap.size w g:=by
 obtain⟨v,c,⟨n,B⟩,z⟩:=p;obtain⟨D,j,k⟩:=(r.ae2 u n).fn f b h v c x (B n (Nat.le_refl _)) β w args' i.na C A;rw[m]at j;obtain rfl:=oI j;rcases k with⟨_,k⟩|⟨d,g,a,y,_,_⟩
 ·refine k.mono ?_;rintro e g ⟨d,a,rfl,o,t⟩;exact⟨v,d,c,a,rfl,z,t,o,i.below o⟩
 ·rw[eB r.names m s]at y
  grind
def DK(w:World)(v:Value)(f:Nat)(c:List (List Value)):Prop:=
 (∀r∈c,r.length=f)/\((v = .slice none 0 0/\c=[])\/(∃a,v = .slice (some a) 0 0/\c=[])\/
  ∃b e d cs t g,v = .slice (some ⟨b,e,none⟩) c.length d/\c.length<=d/\d<cj/\w.heap[b]?=some (.cells cs t g)/\e<=cs.size/\
   ∀(i:Nat)(r:List Value),c[i]?=some r->∀j,j<f->cs[e+(i*f+j)]?=r[j]?)
theorem tw.U6(i:tw β h w){f:Nat}{e:TypeId}{l d:List (List Value)}{b a g:Nat}{cs:Array Value}{t:TypeId}{J:Nat×Nat}(C:∀r∈d,r.length=f)(G:l.length=d.length)
  (x:∀(k:Nat) r E,l[k]?=some r->d[k]?=some E->aU β r E) (P:d.length<=g) (O:g<cj) (F:w.heap[b]?=some (.cells cs t J)) (Q:a<=cs.size)
  (R:∀(i:Nat)(r:List Value),d[i]?=some r->∀j,j<f->cs[a+(i*f+j)]?=r[j]?):
  ∃s y,tw s y w/\β.le s/\Ok h y/\aB s (.slice (some ⟨h.next,a,none⟩) l.length g) (.slice (some ⟨b,a,none⟩) d.length g)/\wT y e f (.slice (some ⟨h.next,a,none⟩) l.length g) l:=by
 have p:∀r∈l,r.length=f:=λr A=>by
  obtain⟨k,o,rfl⟩:=List.getElem_of_mem A;have I:d[k]?=some d[k]:=gE (by omega);rw[(x k _ _ (gE o) I).1]
  grind
 have u:ff β (List.replicate a fs++l.flatten) 0 cs:=λk v m=>by
  rw[zero_add];rw[List.getElem?_append]at m;split at m
  ·next o=>
   rw[length_replicate]at o;rw[List.getElem?_replicate,if_pos o]at m;obtain rfl:=oI m;exact⟨_,Array.getElem?_eq_getElem (by omega),.fs _⟩
  ·next o=>
   rw[length_replicate]at o m;have q:=(List.getElem?_eq_some_iff.1 m).1;rw[oA p]at q;rcases eq_zero_or_pos f with z|z
   ·subst z;simp at q
   have H:k-a=(k-a)/f*f+(k-a)%f:=by rw[mul_comm];exact(Nat.div_add_mod _ _).symm
   have L:=mod_lt (k-a) z;have K:(k-a)/f<l.length:=div_lt_of_lt_mul (by rw[mul_comm];exact q);have D:l[(k-a)/f]?=some l[(k-a)/f]:=gE K;have B:d[(k-a)/f]?=some d[(k-a)/f]:=gE (by omega);rw[H,FK p D L]at m;have A:=x _ _ _ D B;have N:=C _ (List.mem_of_getElem? B);have M:d[(k-a)/f][(k-a)%f]?=some d[(k-a)/f][(k-a)%f]:=gE (by omega);refine⟨_,?_,A.2 _ _ _ m M⟩
   grind
 refine⟨_,_,i.push F u,i.le _,(Ok.refl i.wf).push _,?_,p,.inr ⟨h.next,a,_,t,0,g,false,rfl,aa.gb _ _,?_,λk r o=>?_⟩⟩
 ·have:=aB.slice (β:=β.ext h.next (GQ b cs.size t)) (i:=a) (n:=l.length) (c:=g) (i':=a) (c':=g) (cI.ca _ _ _) rfl (λ_=>rfl) (λh=>by omega) (by unfold aW;split<;>omega) (.inl (by simp)) (.inl rfl)
  grind
 ·grind[oA]
 ·rw[List.drop_append,length_replicate,drop_eq_nil_of_le (by simp),nil_append,Nat.add_sub_cancel_left]
  grind[Tj]
theorem tw.row(i:tw β h w){m:Nat}{e:TypeId}{o:Value}{rs f:List (List Value)}(r:DK w o m f)(c:rs.length=f.length)(l:∀(k:Nat) r p,rs[k]?=some r->f[k]?=some p->aU β r p):
  ∃d g v,tw d g w/\β.le d/\Ok h g/\aB d v o/\wT g e m v rs:=by
 obtain⟨n,⟨rfl,rfl⟩|⟨a,rfl,rfl⟩|⟨b,A,z,cs,t,C,rfl,u,s,q,x,y⟩⟩:=r
 ·obtain rfl:rs=[]:=eq_nil_of_length_eq_zero c;exact⟨β,h,_,i,β.le_refl,Ok.refl i.wf,.kZ,⟨λ_ j=>absurd j (by simp),.inl ⟨.inl rfl,rfl⟩⟩⟩
 ·obtain rfl:rs=[]:=eq_nil_of_length_eq_zero c;exact⟨β,h,sV,i,β.le_refl,Ok.refl i.wf,.dead a,⟨λ_ j=>absurd j (by simp),.inl ⟨.inr rfl,rfl⟩⟩⟩
 ·obtain⟨d,g,E,G,F,D,B⟩:=i.U6 (e:=e) n c l u s q x y
  grind
theorem tw.U7(i:tw β h w){q:Nat}{e:TypeId}{p:Value}{rs f:List (List Value)}(r:DK w p q f)(c:rs.length=f.length)(o:∀(k:Nat) r x,rs[k]?=some r->f[k]?=some x->aU β r x)
  (C:∀a,p = .slice (some a) 0 0->a.spot=none/\∃cs t m,w.heap[a.block]?=some (.cells cs t m)):
  ∃d g v,tw d g w/\β.le d/\Ok h g/\aB d v p/\wT g e q v rs/\v≠sV:=by
 obtain⟨s,⟨rfl,rfl⟩|⟨a,rfl,rfl⟩|⟨b,u,F,cs,t,m,rfl,A,y,j,B,E⟩⟩:=r
 ·obtain rfl:rs=[]:=eq_nil_of_length_eq_zero c;exact⟨β,h,_,i,β.le_refl,Ok.refl i.wf,.kZ,⟨λ_ l=>absurd l (by simp),.inl ⟨.inl rfl,rfl⟩⟩,λe=>by cases e⟩
 ·obtain rfl:rs=[]:=eq_nil_of_length_eq_zero c;obtain⟨z,cs,t,m,j⟩:=C a rfl;obtain⟨b,u,n⟩:=a
  cases (show n=none from z)
  have D:=i.push (cs:=[]) j (λk v G=>by grind);refine⟨_,_,.slice (some ⟨h.next,0,none⟩) 0 0,D,i.le _,(Ok.refl i.wf).push _,?_,⟨λ_ l=>absurd l (by simp),.inr ⟨h.next,0,_,t,0,0,false,rfl,aa.gb _ _,by simp,λk r K=>by grind⟩⟩,λe=>by grind[sV]⟩;exact aB.slice (sl:=GQ b cs.size t) (cI.ca _ _ _) rfl (λ_=>rfl) (λh=>by omega) (by omega) (.inr ⟨rfl,rfl⟩) (.inl rfl)
 ·obtain⟨d,g,J,M,L,I,H⟩:=i.U6 (e:=e) s c o A y j B E
  grind[sV]
section
variable {H:Type} {enc:TypeId×Value->H} {held:Bool}
theorem SG{a:Addr}(b:w.cell? a=some v):a.spot=none/\∃cs t c,w.heap[a.block]?=some (.cells cs t c)/\cs[a.off]?=some v:=by
 unfold World.cell? at b;split at b
 all_goals simp_all
theorem pick{a:Type}{p:Nat->a->Prop}:∀n,(∀i,i<n->∃q,p i q)->∃l:List a,l.length=n/\∀i q,l[i]?=some q->p i q
 |0,_=>⟨[],rfl,λi q b=>by grind⟩
 |n+1,c=>by
  obtain⟨l,d,f⟩:=pick n λi b=>c i (by omega);obtain⟨q,e⟩:=c n (by omega);refine⟨l++[q],by simp[d],λi x b=>?_⟩
  grind
theorem rF{e:TypeId}{d:DataW H}{n:Nat}:∀{l:List (DataW H)},d∈l->n∈d.weights P e->n∈DataW.weightsAll P e l
 |[],h,_=>by cases h
 |x::l,h,a=>by
  rw[DataW.weightsAll,mem_append];rcases mem_cons.1 h with rfl|h
  ·grind
  ·exact .inr (rF h a)
theorem EF{t:TypeId}(ht:P.underlying t=some (.slice T))(l:P.cellsOf T=n)(C:0<n){p:List Value->Prop}
  (hp:∀x0 cs y,DataW.trod enc P w 0 (λ_=>true) held x0 T cs=some y->(y.1.weights P T).all (· <=reachBytes)=true->p cs) {E:Nat} {cv:List Value} {x:DataW H×List MemPlace}
  (h:DataW.trod enc P w 0 (λ_=>true) held E t cv=some x) (X:(x.1.weights P t).all (· <=reachBytes)=true):
  ∃v d,cv=[v]/\DK w v n d/\(∀r∈d,p r)/\d.length*P.bytesOf T<=reachBytes:=by
 rcases DataW.trod_slice ht h with⟨rfl,rfl⟩|⟨a,e,f,c,x1,x0,_,rfl,rfl,hb,x3,W,x5,N,G,_⟩
 ·exact⟨_,[],rfl,⟨λ_ g=>absurd g (by simp),.inl ⟨rfl,rfl⟩⟩,λ_ g=>absurd g (by simp),by simp⟩
 obtain⟨x6,G⟩:=G rfl;simp only[DataW.weights,ht,all_cons,and_eq_true,decide_eq_true_eq,all_append,lM]at X;obtain⟨x4,q,x2⟩:=X;have K:f<cj:=by unfold maxLen at W;unfold cj;omega
 have M:∀i,i<e->∃r:List Value,(r.length=n/\p r)/\∀j,j<n->w.cell? (a.add (i*n+j))=r[j]?:=λi F=>by
  have S:=N i F;have V:c[i]?=some c[i]:=gE (by omega);rw[V,l,Option.bind_eq_some_iff]at S;obtain⟨r,z,Z⟩:=S;obtain⟨_,h5,I⟩:=World.cells?_some z;refine⟨r,⟨h5,hp x0 r _ Z ?_⟩,λj J=>?_⟩
  ·rw[all_eq_true]at q⊢;exact λm g=>q m (rF (mem_map.2 ⟨c[i],List.mem_of_getElem? V,rfl⟩) g)
  ·rw[<-I j J,Addr.add_add]
 obtain⟨d,Y,U⟩:=pick e M;have u:∀r∈d,r.length=n/\p r:=λr o=>by
  obtain⟨k,hk⟩:=List.mem_iff_getElem?.1 o;exact(U k r hk).1
 refine⟨_,d,rfl,⟨λr o=>(u r o).1,?_⟩,λr o=>(u r o).2,?_⟩
 ·rcases eq_zero_or_pos f with hz|hz
  ·obtain rfl:d=[]:=eq_nil_of_length_eq_zero (by omega);have:e=0:=by omega
   subst this;subst hz;exact .inr (.inl ⟨a,rfl,rfl⟩)
  ·have h0:∃v,w.cell? a=some v:=by
    have L:a.add (0*n)=a:=by rw[zero_mul];unfold Addr.add;split<;>simp_all
    have fin:∀x,(w.cells? 0 (a.add (0*n)) n).bind (DataW.trod enc P w 0 (λ_=>true) held x0 T)=some x->∃v,w.cell? a=some v:=λx R=>by
     rw[Option.bind_eq_some_iff,L]at R;obtain⟨r,z,Z⟩:=R;obtain⟨_,h5,I⟩:=World.cells?_some z;have:=I 0 C;rw[show a.add 0=a by unfold Addr.add;split<;>simp_all,gE (by omega)]at this;exact⟨_,this⟩
    rcases eq_zero_or_pos e with A|A
    ·have:=G 0 (by omega);rw[A,l,gE (by omega)]at this;exact fin _ this
    ·have:=N 0 A;rw[l,gE (by omega)]at this;exact fin _ this
   obtain⟨v0,Q⟩:=h0;obtain⟨hs,cs,tt,fr,s,B⟩:=SG Q;obtain⟨b,O,D⟩:=a
   cases (show D=none from hs)
   have ho:=(Array.getElem?_eq_some_iff.1 B).1;refine .inr (.inr ⟨b,O,f,cs,tt,fr,by rw[Y],by omega,K,s,Nat.le_of_lt ho,λi r F j J=>?_⟩);have:=(U i r F).2 j J;rw[cF,lL s]at this;exact this
 grind
end
end
end Go.Ab
end
section
namespace Go.Ab
open Go Go.RowKit Go.WideShapes Go.ChangeShapes
variable{F:Func}{W:World}{V:Array Value}{v:Value}
section
section
variable {H:Type} {enc:TypeId×Value->H} {P:Program}
theorem TE{s:ChangeSpec}{f o g k:Bool}{e:World}{ds:List (DataW H)}{places:List MemPlace}
  (m:s.vars=[]) (y:DataW.Whole enc P F.params.toList s.vars f W V.toList ds [] places) (A:Below W.heap.size W e)
  (l:(s.fn H (ds++[])).args=ds) (z:(s.fn H (ds++[])).vars=[])
  (i:∀(b:Nat)(a:Nat->Bool)(E:Bool),DataW.TrodAll enc P e b a E F.resultTypes.toList (v.resultList F.resultTypes.size) (s.fn H (ds++[])).results [])
  (B:∀(j:Nat)(t:TypeId)(r:Value),F.resultTypes[j]?=some t->(v.resultList F.resultTypes.size)[j]?=some r->Value.okWide P e .any 0 t r)
  (q:∀a:Nat->Bool,(∀p∈places,a p.block=true)->DataW.TrodAll enc P e 0 a true F.params.toList V.toList ds places):s.post enc P F f o g k W V v e:=by
 have u:∀p∈places,p.block<W.heap.size:=λp c=>y.lt p c;have n:∀p∈places,(λb=>decide (b<W.heap.size)) p.block=true:=λp c=>decide_eq_true (u p c);have x:∀a:Nat->Bool,DataW.TrodVars enc P e a s.vars (s.fn H (ds++[])).vars []:=λa=>by
  rw[m,z];rfl
 have C:=World.keptBut_mono (may':=λp=>p∈places/\(p∈([]:List MemPlace)\/p∈places\/p∈([]:List MemPlace))) (λp c=>⟨c,.inr (.inl c)⟩) (A.frame (· ∈places));obtain⟨_,_,_,_,_,D,G⟩:=id y;have d:∀a:Nat->Bool,(∀p∈places,a p.block=true)->DataW.TrodAll enc P e 0 a true F.params.toList V.toList (s.fn H (ds++[])).args places:=λa h=>by rw[l];exact q a h
 refine⟨ds,[],places,[],places,[],y,i _ _ _,d _ n,x _,C,λ_=>⟨B,_,_,([]++places)++[],⟨[]++places,[],trodAll_append (d _ λ_ _=>rfl) (i _ _ _),x _,rfl,?_,?_⟩,?_⟩⟩
 ·intro b w c;have c:MemPlace.cell b w∈places:=by simpa using c
  rw[A.frozen (u _ c)];exact D b w c
 all_goals grind
end
end
end Go.Ab
end
section
namespace Go.Num
variable{n:Nat}{m:Nat}{k:Nat}
def cp(c:UInt8):Bool:=decide (48<=c.toNat)&&decide (c.toNat<=57)
def uG(c:UInt8):Nat:=c.toNat-48
def val(l:List UInt8):Nat:=l.foldl (λn c=>10*n+uG c) 0
def gk(n:Nat):UInt8:=UInt8.ofNat (48+n)
theorem jJ:val []=0:=rfl
theorem mq(l:List UInt8)(c:UInt8):val (l++[c])=10*val l+uG c:=by simp[val,List.foldl_append]
theorem ny(h:n<10):(gk n).toNat=48+n:=by grind[UInt8.toNat_ofNat',gk]
theorem RQ(h:n<10):uG (gk n)=n:=by grind[ny,uG]
theorem HB(h:n<10):cp (gk n)=true:=by grind[ny,cp]
theorem nu{c:UInt8}:cp c=true↔48<=c.toNat/\c.toNat<=57:=by simp[cp]
theorem zT{c:UInt8}(h:cp c=true):uG c<10:=by grind[nu,uG]
theorem Hz{c:UInt8}(h:cp c=true):gk (uG c)=c:=by grind[nu,UInt8.toNat_inj,ny,uG]
theorem mc{α:Type}{P:List α->Prop}(h0:P [])(h1:∀l a,P l->P (l++[a]))(l:List α):P l:=by
 have:∀n (l:List α),l.length=n->P l:=by
  intro n
  induction n with
  |zero=>intro l hl;rw[eq_nil_of_length_eq_zero hl];exact h0
  |succ n ih=>
   intro l hl;have hne:l≠[]:=by intro e;subst e;simp at hl
   rw[<-List.dropLast_concat_getLast hne];exact h1 _ _ (ih _ (by simp[hl]))
 grind
theorem Fe(a b:List UInt8):val (a++b)=val a*10^b.length+val b:=by
 induction b using mc with
 |h0=>simp[jJ]
 |h1 b c d=>grind[mul_assoc,mul_comm,val]
theorem HI{l:List UInt8}(h:l.all cp=true):val l<10^l.length:=by
 induction l using mc with
 |h0=>simp[jJ]
 |h1 l c a=>
  simp only[all_append,all_cons,all_nil,Bool.and_true,and_eq_true]at h
  grind[zT,mq]
def aC(n:Nat):List UInt8:=if n<10 then[gk n]else aC (n/10)++[gk (n%10)]
termination_by n
decreasing_by omega
theorem cX(h:n<10):aC n=[gk n]:=by rw[aC,if_pos h]
theorem gQ(h:10<=n):aC n=aC (n/10)++[gk (n%10)]:=by rw[aC,if_neg (by omega)]
theorem uK(a:0<n)(b:m<10):aC (10*n+m)=aC n++[gk m]:=by grind[gQ]
theorem fG(n:Nat):val (aC n)=n:=by
 induction n using Nat.strongRecOn with
 |ind n a=>grind[cX,mq,RQ,jJ,gQ]
theorem yC(h:aC n=aC m):n=m:=by grind[fG]
theorem tA(n:Nat):aC n≠[]:=by
 by_cases h:n<10
 ·grind[cX]
 ·rw[gQ (by omega)];simp
theorem qb(n:Nat):0<(aC n).length:=length_pos_iff.2 (tA n)
theorem yz(n:Nat):(aC n).all cp=true:=by
 induction n using Nat.strongRecOn with
 |ind n a=>grind[cX,HB,gQ]
theorem AA(n:Nat):n<10^(aC n).length:=by grind[HI,yz,fG]
theorem AD(h:10<=n):10^((aC n).length-1)<=n:=by
 induction n using Nat.strongRecOn with
 | ind n a=>
  rw[gQ h,length_append,List.length_singleton];by_cases c:n/10<10
  ·grind[cX]
  ·have d:=a (n/10) (by omega) (by omega);have b:=qb (n/10);obtain⟨k,e⟩:∃k,(aC (n/10)).length=k+1:=⟨(aC (n/10)).length-1,by omega⟩
   grind
theorem gR(e:0<k):(aC n).length<=k↔n<10^k:=by
 constructor
 ·grind[lt_of_lt_of_le,AA,pow_le_pow_right]
 ·intro h;by_cases b:n<10
  ·grind[cX]
  ·have d:=AD (n:=n) (by omega);rcases lt_or_ge k (aC n).length with a|a
   ·have c:10^k<=10^((aC n).length-1):=pow_le_pow_right (by omega) (by omega);omega
   omega
def zS(l:List UInt8):Prop:=l≠[]/\l.all cp=true/\(1<l.length->l.head?≠some 48)
theorem OS{l:List UInt8}(a:l.all cp=true)(h0:l≠[])(h:l.head?≠some 48):0<val l:=by
 induction l using mc with
 |h0=>grind
 | h1 l c d=>
  simp only[all_append,all_cons,all_nil,Bool.and_true,and_eq_true]at a;rw[mq];by_cases b:l=[]
  ·subst b;have f:c≠48:=by intro e;subst e;simp at h
   have i:=nu.1 a.2;have g:c.toNat≠48:=λe=>f (by apply UInt8.toNat_inj.1;rw[e];rfl)
   grind[uG]
  ·have:=d a.1 b (by grind);omega
theorem HF{l:List UInt8}(h:zS l):aC (val l)=l:=by
 induction l using mc with
 |h0=>exact absurd rfl h.1
 | h1 l c f=>
  obtain⟨_,b,g⟩:=h;simp only[all_append,all_cons,all_nil,Bool.and_true,and_eq_true]at b;rw[mq];by_cases d:l=[]
  ·grind[jJ,cX,zT,Hz]
  ·have e:l.head?≠some 48:=by
    have:=g (by grind[length_pos_iff])
    cases l with
    |nil=>grind
    |cons a l=>grind
   have i:=OS b.1 d e;rw[uK i (zT b.2),f ⟨d,b.1,λ_=>e⟩,Hz b.2]
theorem CV(n:Nat):zS (aC n):=by
 refine⟨tA n,yz n,?_⟩
 induction n using Nat.strongRecOn with
 | ind n d=>
  intro c;by_cases h:n<10
  ·grind[cX]
  ·rw[gQ (by omega)];by_cases a:n/10<10
   ·rw[cX a];simp only[cons_append,List.head?_cons,ne_eq,Option.some.injEq];intro e;have:=congrArg UInt8.toNat e;rw[ny a]at this;have b:(48:UInt8).toNat=48:=rfl;omega
   grind[aC]
def aM(l:List UInt8):Bool:= !l.isEmpty&&decide (l.length<=1000) && !(decide (1<l.length)&&l.head? == some 48)&&l.all cp
theorem kO{l:List UInt8}:aM l=true↔zS l/\l.length<=1000:=by
 unfold aM zS
 grind
theorem sO:aM (aC n)=true↔n<10^1000:=by grind[kO,gR,CV]
theorem mr{l:List UInt8}(h:aM l=true):∃n,l=aC n/\n<10^1000/\val l=n:=by grind[kO,HF,sO]
def bv(b:Nat):List Nat->Nat
 |[]=>0
 |d::l=>d+b*bv b l
theorem eN(b:Nat):∀x y:List Nat,bv b (x++y)=bv b x+b^x.length*bv b y
 |[],y=>by simp[bv]
 |d::x,y=>by
  simp only[cons_append,bv,eN b x y,length_cons,pow_succ]
  grind
theorem oj(b:Nat)(x:List Nat)(d:Nat):bv b (x++[d])=bv b x+b^x.length*d:=by grind[eN,bv]
theorem dV{b:Nat}:∀{x:List Nat},(∀d∈x,d<b)->bv b x<b^x.length
 |[],_=>by simp[bv]
 | d::x,h=>by
  have a:=dV (b:=b) (x:=x) λe c=>h e (by simp[c]);have f:=h d (by simp);simp only[bv,length_cons,pow_succ];have:b*bv b x+b<=b*b^x.length:=by
   have:=mul_le_mul_left b (succ_le_of_lt a);rw[mul_succ]at this;exact this
  grind
def aF(b n:Nat):List Nat:=if h:1<b/\0<n then n%b::aF b (n/b)else[]
termination_by n
decreasing_by exact div_lt_self h.2 h.1
theorem ew(b:Nat):aF b 0=[]:=by simp_all[aF]
theorem jI{b:Nat}(a:1<b)(c:0<n):aF b n=n%b::aF b (n/b):=by rw[aF,dif_pos ⟨a,c⟩]
theorem bK{b:Nat}(a:1<b)(n:Nat):bv b (aF b n)=n:=by
 induction n using Nat.strongRecOn with
 |ind n c=>
  rcases eq_zero_or_pos n with rfl|hn
  all_goals grind[ew,jI,div_lt_self,mod_add_div,bv]
theorem cr{b:Nat}(a:1<b)(n:Nat):∀d∈aF b n,d<b:=by
 induction n using Nat.strongRecOn with
 |ind n c=>grind[eq_zero_or_pos,ew,jI,mod_lt,div_lt_self]
def KA(b:Nat)(l:List Nat):Prop:=(∀d∈l,d<b)/\l.getLast?≠some 0
theorem KH{b:Nat}(a:1<b)(n:Nat):KA b (aF b n):=by
 refine⟨cr a n,?_⟩
 induction n using Nat.strongRecOn with
 | ind n d=>
  rcases eq_zero_or_pos n with rfl|hn
  ·grind[ew]
  ·rw[jI a hn];by_cases c:n/b=0
   ·rw[c,ew];have:n<b:=by
     rcases lt_or_ge n b with h|h
     ·exact h
     ·have:=Nat.div_pos h (by omega);omega
    simp[mod_eq_of_lt this];omega
   grind[div_lt_self,jI]
theorem HD{b:Nat}(g:1<b):∀{l:List Nat},KA b l->aF b (bv b l)=l
 |[],_=>ew b
 | d::l,h=>by
  have j:d<b:=h.1 d (by simp);have m:0<bv b (d::l):=by
   have i:∀l:List Nat,l≠[]->l.getLast?≠some 0->0<bv b l:=by
    intro l
    induction l with
    |nil=>grind
    |cons a l k=>
     intro _ n;by_cases f:l=[]
     ·grind[bv]
     ·have:0<bv b l:=k f (by grind);simp only[bv];have:=Nat.mul_pos (show 0<b by omega) this;omega
   exact i _ (by simp) h.2
  have f:KA b l:=⟨λe o=>h.1 e (by grind),by
   intro e
   cases l with
   |nil=>grind
   |cons c l=>exact h.2 (by grind)⟩
  rw[jI g m];simp only[bv];rw[show(d+b*bv b l)%b=d by rw[Nat.add_mul_mod_self_left,mod_eq_of_lt j],show(d+b*bv b l)/b=bv b l by rw[Nat.add_mul_div_left _ _ (by omega),div_eq_of_lt j,zero_add],HD g f]
def cM(l:List Nat):List Nat:=(l.reverse.dropWhile (· == 0)).reverse
theorem HH:cM []=[]:=rfl
theorem gm(l:List Nat):cM (l++[0])=cM l:=by simp[cM]
theorem ic(l:List Nat){d:Nat}(h:d≠0):cM (l++[d])=l++[d]:=by simp[cM,h]
theorem iS{b:Nat}(c:1<b){l:List Nat}(h:∀d∈l,d<b):cM l=aF b (bv b l):=by
 induction l using mc with
 |h0=>rw[HH];exact(ew b).symm
 | h1 l d e=>
  by_cases a:d=0
  ·subst a
   grind[gm,oj]
  ·rw[ic l a,HD c];exact⟨h,by grind⟩
theorem fK{b:Nat}(a:1<b):aF b n=[]↔n=0:=by
 constructor
 ·intro h;have:=bK a n;rw[h]at this;exact this.symm
 simp_all[ew]
theorem jm{b:Nat}(a:1<b){n k:Nat}(h:n<b^k):(aF b n).length<=k:=by
 induction k generalizing n with
 |zero=>rw[Nat.pow_zero]at h;grind[ew]
 |succ k c=>grind[jI,div_lt_of_lt_mul]
theorem pZ{b:Nat}(c:1<b){n:Nat}(d:0<n):b^((aF b n).length-1)<=n:=by
 induction n using Nat.strongRecOn with
 | ind n f=>
  rw[jI c d,length_cons,Nat.add_sub_cancel];by_cases e:n/b=0
  ·rw[e,ew];simp;omega
  ·have a:=f (n/b) (div_lt_self d c) (Nat.pos_of_ne_zero e);have i:0<(aF b (n/b)).length:=length_pos_iff.2 (by simp_all[fK]);obtain⟨k,g⟩:∃k,(aF b (n/b)).length=k+1:=⟨(aF b (n/b)).length-1,by omega⟩
   rw[g]at a⊢;rw[Nat.add_sub_cancel]at a;rw[pow_succ];have h:=mul_le_mul_right b a;have j:=Nat.div_mul_le_self n b;omega
variable{x:List Nat}{i:Nat}{j:Nat}{l:Nat}
theorem eK(b:Nat)(x:List Nat)(i:Nat):bv b (x.drop i)=x.getD i 0+b*bv b (x.drop (i+1)):=by grind[List.drop_eq_getElem_cons,drop_eq_nil_of_le,bv]
theorem bo{b:Nat}(c:0<b)(h:∀d∈x,d<b)(i:Nat):x.getD i 0<b:=by
 rw[gD]
 cases a:x[i]? with
 |none=>grind
 |some d=>exact h d (List.mem_of_getElem? a)
def bq(F:Nat->Nat->Nat->Nat×Nat)(x y:List Nat):Nat->Nat->Nat->List Nat
 |_,0,_=>[]
 |i,k+1,c=>(F (x.getD i 0) (y.getD i 0) c).1::bq F x y (i+1) k (F (x.getD i 0) (y.getD i 0) c).2
theorem jH{b:Nat}{F:Nat->Nat->Nat->Nat×Nat}(h:∀p q c,(F p q c).1<b)(x y:List Nat):∀k i c,∀d∈bq F x y i k c,d<b
 |0,_,_=>by simp[bq]
 |k+1,i,c=>by
  intro d a;rcases mem_cons.1 a with rfl|a
  ·grind
  ·exact jH h x y k _ _ d a
def aP(b:Nat)(p q c:Nat):Nat×Nat:=((p+q+c)%b,(p+q+c)/b)
theorem DG{b:Nat}(l:1<b){x y:List Nat}(e:∀d∈x,d<b)(g:∀d∈y,d<b):∀k i c,x.length<i+k->y.length<i+k->c<=1->0<k->
  bv b (bq (aP b) x y i k c)=bv b (x.drop i)+bv b (y.drop i)+c:=by
 intro k
 induction k with
 |zero=>omega
 | succ k o=>
  intro i c n p s _;have q:=bo (by omega) e i;have j:=bo (by omega) g i;rw[eK b x i,eK b y i];simp only[bq,bv];have m:=mod_add_div (x.getD i 0+y.getD i 0+c) b;have h:(aP b (x.getD i 0) (y.getD i 0) c).2<=1:=by
   show(x.getD i 0+y.getD i 0+c)/b<=1;have:(x.getD i 0+y.getD i 0+c)/b<2:=div_lt_of_lt_mul (by omega);omega
  rcases eq_zero_or_pos k with rfl|r
  ·rw[drop_eq_nil_of_le (show x.length<=i+1 by omega),drop_eq_nil_of_le (show y.length<=i+1 by omega)];have a:x.getD i 0=0:=by rw[gD,getElem?_eq_none (by omega)];rfl
   have f:y.getD i 0=0:=by rw[gD,getElem?_eq_none (by omega)];rfl
   simp only[bq,bv,aP,a,f,zero_add,mul_zero,add_zero];exact mod_eq_of_lt (by omega)
  grind[aP]
def b9(b m:Nat)(p a c:Nat):Nat×Nat:=((p*m+c)%b,(p*m+c)/b)
theorem KE{b:Nat}(l:1<b)(m:n<=b)(g:0<n){x y:List Nat}(e:∀d∈x,d<b):∀k i c,x.length<i+k->c<n->0<k->
  bv b (bq (b9 b n) x y i k c)=bv b (x.drop i)*n+c:=by
 intro k
 induction k with
 |zero=>omega
 | succ k p=>
  intro i c o r _;have f:=bo (by omega) e i;rw[eK b x i];simp only[bq,bv];have h:=mod_add_div (x.getD i 0*n+c) b;have j:(b9 b n (x.getD i 0) (y.getD i 0) c).2<n:=by
   show(x.getD i 0*n+c)/b<n;refine div_lt_of_lt_mul ?_;have:x.getD i 0*n+n<=b*n:=by
    have:=mul_le_mul_right n (succ_le_of_lt f);rw[succ_mul]at this;exact this
   omega
  rcases eq_zero_or_pos k with rfl|q
  ·rw[drop_eq_nil_of_le (show x.length<=i+1 by omega)];have a:x.getD i 0=0:=by rw[gD,getElem?_eq_none (by omega)];rfl
   simp only[bq,bv,b9,a,zero_mul,zero_add,mul_zero,add_zero];exact mod_eq_of_lt (by omega)
  grind[b9]
def bF(b:Nat)(p q c:Nat):Nat×Nat:=((p+b-q-c)%b,1-(p+b-q-c)/b)
theorem oS{b p q c:Nat}(a:1<b)(f:p<b)(d:q<b)(g:c<=1):p+b*(bF b p q c).2=(bF b p q c).1+q+c/\(bF b p q c).2<=1:=by
 unfold bF;dsimp only;rcases lt_or_ge (p+b-q-c) b with h|h
 ·grind[div_eq_of_lt,mod_eq_of_lt]
 ·have e:(p+b-q-c)/b=1:=by
   refine Nat.le_antisymm ?_ ((Nat.le_div_iff_mul_le (by omega)).2 (by omega));have:(p+b-q-c)/b<2:=div_lt_of_lt_mul (by omega);omega
  grind[mod_add_div]
theorem KD{b:Nat}(e:1<b){x y:List Nat}(j:∀d∈x,d<b)(n:∀d∈y,d<b):∀k i c,x.length<=i+k->y.length<=i+k->c<=1->bv b (y.drop i)+c<=bv b (x.drop i)->
  bv b (bq (bF b) x y i k c)+bv b (y.drop i)+c=bv b (x.drop i):=by
 intro k
 induction k with
 |zero=>grind[drop_eq_nil_of_le,bv,bq]
 | succ k r=>
  intro i c q s m h;have l:=bo (by omega) j i;have a:=bo (by omega) n i;obtain⟨u,t⟩:=oS e l a m;rw[eK b x i,eK b y i]at h⊢;simp only[bq,bv];have o:(bF b (x.getD i 0) (y.getD i 0) c).1<b:=mod_lt _ (by omega);have p:bv b (y.drop (i+1))+(bF b (x.getD i 0) (y.getD i 0) c).2<=bv b (x.drop (i+1)):=by
   rcases lt_or_ge (bv b (x.drop (i+1))) (bv b (y.drop (i+1))+(bF b (x.getD i 0) (y.getD i 0) c).2)with g|g
   ·have f:=mul_le_mul_left b (succ_le_of_lt g);rw[mul_succ,mul_add]at f;omega
   ·exact g
  grind
theorem HG{b a U V c d:Nat}(t:U=(a*n+b)*n^m+c)(q:c<n^m)(f:V=(i*n+j)*n^m+d)(p:k*i+l=a)(h:l*n+b<k*j):U<k*V:=by
 have g:a*n+b+1<=k*(i*n+j):=by
  have e:k*(i*n+j)=k*i*n+k*j:=by rw[mul_add,mul_assoc]
  have s:a*n=k*i*n+l*n:=by rw[<-p,add_mul]
  omega
 have o:=mul_le_mul_right (n^m) g;rw[add_mul,one_mul]at o;have r:k*V=k*(i*n+j)*n^m+k*d:=by rw[f,mul_add,mul_assoc]
 omega
theorem Fc{c a U V g b:Nat}(y:U=(a*n+c)*n^m+g)(o:V=(i*n+j)*n^m+b)(d:b<n^m)(r:k*i+l=a)(q:k<n)(f:0<i)(h:k*j<=l*n+c):k*V<U+V:=by
 have p:k*(i*n+j)<=a*n+c:=by
  have e:k*(i*n+j)=k*i*n+k*j:=by rw[mul_add,mul_assoc]
  have v:a*n=k*i*n+l*n:=by rw[<-r,add_mul]
  omega
 have t:=mul_le_mul_right (n^m) p;have s:k*V=k*(i*n+j)*n^m+k*b:=by rw[o,mul_add,mul_assoc]
 have u:k*b<=k*n^m:=mul_le_mul_left k (Nat.le_of_lt d);have x:k*n^m+n^m<=n*n^m:=by
  have:=mul_le_mul_right (n^m) (succ_le_of_lt q);rw[succ_mul]at this;exact this
 have w:n*n^m<=i*n*n^m:=by
  have:=mul_le_mul_right (n*n^m) (succ_le_of_lt f);rw[Nat.succ_eq_add_one,zero_add,one_mul,<-mul_assoc]at this;exact this
 grind
def iq(B q u v b a:Nat):Nat×Nat×Nat:=((u+B-(q*v+a)%B-b)%B,1-(u+B-(q*v+a)%B-b)/B,(q*v+a)/B)
theorem KG{B q u v borrow carry:Nat}(d:1<B)(e:u<B)(a:borrow<=1):
  u+B*((iq B q u v borrow carry).2.1+(iq B q u v borrow carry).2.2)=(iq B q u v borrow carry).1+q*v+(borrow+carry)/\(iq B q u v borrow carry).2.1<=1/\(iq B q u v borrow carry).1<B:=by
 have f:=mod_lt (q*v+carry) (show 0<B by omega);have g:=mod_add_div (q*v+carry) B;have h:=oS (b:=B) (p:=u) (q:=(q*v+carry)%B) (c:=borrow) d e f a;unfold bF at h;dsimp only at h;unfold iq;dsimp only;refine⟨?_,h.2,mod_lt _ (by omega)⟩
 grind
def eG(m n:Nat):Int:=if m<n then -1 else if m=n then 0 else 1
theorem ma(h:n<m):eG n m = -1:=if_pos h
theorem l9(h:m<n):eG n m=1:=by unfold eG;omega
theorem rI(m:Nat):eG m m=0:=by simp_all[eG]
theorem tz:eG n m<0↔n<m:=by grind[eG]
theorem gO(F:Nat->Nat->Nat->Nat×Nat)(x y:List Nat):∀k i c,(bq F x y i k c).length=k
 |0,_,_=>rfl
 |k+1,i,c=>by simp[bq,gO F x y k]
theorem Fb:aC 0=[48]:=by rw[cX (by omega)];rfl
theorem HE:aC 1=[49]:=by rw[cX (by omega)];rfl
theorem qa:aC n=[48]↔n=0:=by grind[Fb,yC]
theorem qC:aC n=[49]↔n=1:=by grind[HE,yC]
theorem zC{l:List UInt8}{c:UInt8}(h:l[i]?=some c):val (l.take (i+1))=10*val (l.take i)+uG c:=by grind[List.take_succ_eq_append_getElem,mq]
def bt(B q:Nat)(u v:List Nat):Nat->Nat->Nat->Nat->List Nat×Nat×Nat
 |_,0,b,c=>([],b,c)
 |i,k+1,b,c=>
  let s:=iq B q (u.getD i 0) (v.getD i 0) b c
  let r:=bt B q u v (i+1) k s.2.1 s.2.2
  (s.1::r.1,r.2)
theorem oT(B q:Nat)(u v:List Nat):∀k i b c,(bt B q u v i k b c).1.length=k
 |0,_,_,_=>rfl
 |k+1,i,b,c=>by simp[bt,oT B q u v k]
theorem rJ{B q:Nat}(e:1<B)(u v:List Nat):∀k i b c,∀d∈(bt B q u v i k b c).1,d<B
 |0,_,_,_=>by simp[bt]
 |k+1,i,b,c=>by
  intro d a;simp only[bt]at a;rcases mem_cons.1 a with rfl|a
  ·exact mod_lt _ (by omega)
  ·exact rJ e u v k _ _ _ d a
theorem qw(b:Nat)(x:List Nat)(i k:Nat):bv b ((x.drop i).take (k+1))=x.getD i 0+b*bv b ((x.drop (i+1)).take k):=by grind[List.drop_eq_getElem_cons,drop_eq_nil_of_le,bv]
theorem wP{B q:Nat}(e:1<B){u v:List Nat}(f:∀d∈u,d<B):∀k i b c,b<=1->
  bv B ((u.drop i).take k)+B^k*((bt B q u v i k b c).2.1+(bt B q u v i k b c).2.2)=bv B (bt B q u v i k b c).1+q*bv B ((v.drop i).take k)+(b+c)/\(bt B q u v i k b c).2.1<=1
 |0,i,b,c,a=>by grind[bt,bv]
 |k+1,i,b,c,a=>by
  obtain⟨m,g,j⟩:=KG (B:=B) (q:=q) (u:=u.getD i 0) (v:=v.getD i 0) (borrow:=b) (carry:=c) e (bo (by omega) f i) a;obtain⟨l,h⟩:=wP e (q:=q) (v:=v) f k (i+1) _ (iq B q (u.getD i 0) (v.getD i 0) b c).2.2 g;rw[qw,qw];simp only[bt,bv]
  grind
theorem zx{l:List Nat}(h:l.length=m):bv n (l.take m)=bv n l:=by grind
theorem HA{q:Nat}(f:1<n){u v:List Nat}{a:Nat}(g:∀d∈u,d<n)(c:u.length=a+1)(j:v.length=a):
  (bt n q u v 0 (a+1) 0 0).2.2=0->((bt n q u v 0 (a+1) 0 0).2.1=0->bv n u=bv n (bt n q u v 0 (a+1) 0 0).1+q*bv n v)/\
  ((bt n q u v 0 (a+1) 0 0).2.1≠0->bv n u+n^(a+1)=bv n (bt n q u v 0 (a+1) 0 0).1+q*bv n v/\bv n u<q*bv n v):=by
 intro i;obtain⟨e,k⟩:=wP f (q:=q) (v:=v) g (a+1) 0 0 0 (by omega);rw[drop_zero,drop_zero,zx c,take_of_length_le (by omega:v.length<=a+1),i]at e;refine⟨λh=>?_,λh=>?_⟩
 ·grind
 ·have b:(bt n q u v 0 (a+1) 0 0).2.1=1:=by omega
  rw[b,mul_one]at e
  grind[dV,rJ,oT]
theorem uJ{B q:Nat}(e:1<B){u v:List Nat}(g:q<B)(a:∀d∈v,d<B):∀k i b c,c<B->v.length<=i+k->0<k->v.length<i+k->(bt B q u v i k b c).2.2=0
 |0,_,_,_,_,_,h,_=>by omega
 |1,i,b,c,j,_,_,f=>by
  simp only[bt,iq];have:v.getD i 0=0:=by rw[gD,getElem?_eq_none (by omega)];rfl
  simp_all
 | k+2,i,b,c,j,_,_,f=>by
  have m:=bo (by omega) a i;simp only[bt];have:=uJ e (u:=u) g a (k+1) (i+1) (iq B q (u.getD i 0) (v.getD i 0) b c).2.1 (iq B q (u.getD i 0) (v.getD i 0) b c).2.2 (by
   show(q*v.getD i 0+c)/B<B;refine div_lt_of_lt_mul ?_;have l:q*v.getD i 0<=(B-1)*(B-1):=mul_le_mul (by omega) (by omega);have n:(B-1)*(B-1)+(B-1)=(B-1)*B:=by rw[<-mul_succ];congr 1;omega
   have o:(B-1)*B+B=B*B:=by rw[<-succ_mul];congr 1;omega
   omega) (by omega) (by omega) (by omega)
  grind[bt]
theorem KB(s:1<n){u v:List Nat}{a Q V U:Nat}(m:∀d∈u,d<n)(l:∀d∈v,d<n)(r:u.length=a+1)(o:v.length=a)(w:U+n^(a+1)=bv n u+(Q+1)*V)(B:U<(Q+1)*V)(t:(Q+1)*V<U+V)(E:V=bv n v):
  bv n ((bq (aP n) u v 0 (a+1) 0))+Q*V=U:=by
 have e:=DG s (x:=u) (y:=v) m l (a+2) 0 0 (by omega) (by omega) (by omega) (by omega);simp only[drop_zero,add_zero]at e;have split:∀k i c,bq (aP n) u v i (k+1) c=bq (aP n) u v i k c++(bq (aP n) u v i (k+1) c).drop k:=by
  intro k
  induction k with
  |zero=>intro i c;simp[bq]
  |succ k A=>
   intro i c;have:=A (i+1) (aP n (u.getD i 0) (v.getD i 0) c).2;show _::bq (aP n) u v (i+1) (k+1) _=(_::bq (aP n) u v (i+1) k _)++(_::bq (aP n) u v (i+1) (k+1) _).drop (k+1);rw[cons_append,List.drop_succ_cons];exact congrArg _ this
 rw[split (a+1) 0 0,eN,gO]at e;have j:=dV (jH (b:=n) (F:=aP n) (λp q c=>mod_lt _ (by omega)) u v (a+1) 0 0);rw[gO]at j;rw[add_mul,one_mul]at w B t;have g:=dV m;rw[r]at g;have h:=dV l;rw[o]at h;have C:n^a<=n^(a+1):=pow_le_pow_right (by omega) (by omega);have D:bv n ((bq (aP n) u v 0 (a+1+1) 0).drop (a+1))=1:=by
  generalize bv n ((bq (aP n) u v 0 (a+1+1) 0).drop (a+1))=z at e;rcases Nat.lt_trichotomy z 1 with f|f|f
  ·have:z=0:=by omega
   subst this;rw[mul_zero]at e;omega
  ·exact f
  ·have:=mul_le_mul_left (n^(a+1)) f;rw[mul_succ,mul_one]at this;omega
 grind
variable{y:List Nat}
theorem Aw{B:Nat}:∀(l:List Nat)(i d:Nat),i<l.length->bv B (l.set i d)+B^i*l.getD i 0=bv B l+B^i*d
 |[],i,d,h=>by grind
 |a::l,0,d,_=>by grind[bv]
 |a::l,i+1,d,h=>by
  have b:=congrArg (B*·) (Aw (B:=B) l i d (by simpa using h))
  grind[bv]
theorem HC{l:List Nat}(h:∀d∈l,d<n){i d:Nat}(b:d<n):∀x∈l.set i d,x<n:=λx a=>by grind
theorem nr(_:1<n):∀{l:List Nat},bv n l<n^m->bv n (l.drop m)=0
 | l,h=>by
  rcases lt_or_ge m l.length with a|a
  ·have e:=eN n (l.take m) (l.drop m);rw[List.take_append_drop,length_take,min_eq_left (by omega)]at e;rcases eq_zero_or_pos (bv n (l.drop m))with b|b
   ·omega
   ·have:=mul_le_mul_left (n^m) b;omega
  ·rw[drop_eq_nil_of_le a];rfl
theorem tx(B:Nat)(l:List Nat)(n:Nat):bv B l=bv B (l.take n)+B^(min n l.length)*bv B (l.drop n):=by grind[eN,List.take_append_drop]
structure fX(B n V XK:Nat)(u q:List Nat)(j:Nat):Prop where
 ul:∀d∈u,d<B
 ql:∀d∈q,d<B
 len:u.length=q.length+n
 jle:j<=q.length
 lo:bv B (u.drop j)<V
 eq:XK=bv B u+V*bv B q
 qz:∀i,i<j->q.getD i 0=0
theorem fX.Hi(b:1<n)(a:k<=n^m)(h:fX n m k i x y (j+1)):
  bv n ((x.drop j).take (m+1))=bv n (x.drop j)/\bv n ((x.drop j).take (m+1))<n*k/\((x.drop j).take (m+1)).length=m+1:=by
 have e:=h.len;have o:=h.jle;have f:bv n (x.drop j)=x.getD j 0+n*bv n (x.drop (j+1)):=eK n x j;have g:=bo (by omega) h.ul j;have c:=h.lo;have d:bv n (x.drop j)<n*k:=by
  have:=mul_le_mul_left n (succ_le_of_lt c);rw[mul_succ]at this;omega
 have p:bv n ((x.drop j).drop (m+1))=0:=by
  refine nr b (lt_of_lt_of_le d ?_);rw[pow_succ,mul_comm];exact mul_le_mul_right n a
 have l:=tx n (x.drop j) (m+1)
 grind
theorem fX.step{q w:List Nat}{at':Nat}(g:1<n)(d:k<=n^m)(h:fX n m k j y q (at'+1))(B:∀x∈w,x<n)(z:w.length=m+1)(u:l<n)
  (r:bv n ((y.drop at').take (m+1))=bv n w+l*k) (v:bv n w<k):fX n m k j (y.take at'++w++y.drop (at'+(m+1))) (q.set at' l) at':=by
 have A:=h.len;have D:=h.jle;obtain⟨e,s,E⟩:=h.Hi g d;have p:bv n (y.drop (at'+(m+1)))=0:=by
  rw[<-drop_drop];refine nr g ?_;rw[<-e];refine lt_of_lt_of_le s ?_;rw[pow_succ,mul_comm];exact mul_le_mul_right n d
 have c:(y.take at').length=at':=by rw[length_take];omega
 have b:(y.take at'++w++y.drop (at'+(m+1))).drop at'=w++y.drop (at'+(m+1)):=by
  rw[append_assoc,List.drop_append_of_le_length (by omega),List.drop_of_length_le (by omega),nil_append]
 refine⟨?_,HC h.ql u,?_,by grind,?_,?_,?_⟩
 ·intro x a;simp only[mem_append]at a;rcases a with(a|a)|a
  ·exact h.ul x (mem_of_mem_take a)
  ·grind
  ·exact h.ul x (List.mem_of_mem_drop a)
 ·grind
 ·rw[b,eN,p,mul_zero,add_zero];omega
 ·have f:=eN n (y.take at') (y.drop at');rw[List.take_append_drop,c,<-e,r]at f;have t:bv n (y.take at'++w++y.drop (at'+(m+1)))=bv n (y.take at')+n^at'*bv n w:=by
   rw[append_assoc,eN,eN,p,c,mul_zero,add_zero]
  have o:=Aw (B:=n) q at' l (by omega);rw[h.qz at' (by omega),mul_zero,add_zero]at o;rw[h.eq,f,t,o,mul_add,mul_add]
  grind
 ·intro i C;have:=h.qz i (by omega)
  grind
theorem fX.done(h:fX n m k i x y 0):bv n y=i/k/\bv n x=i%k:=by
 have a:=h.lo;rw[drop_zero]at a;rw[h.eq]
 grind[Nat.mul_add_div,div_eq_of_lt,Nat.mul_add_mod,mod_eq_of_lt]
theorem fX.start{X Y:Nat}(u:1<n)(h:∀d∈x,d<n)(s:x.length=l+1)(t:m<=l)(o:X<n^l)(c:n^(m-1)<=Y)(r:0<m)(p:0<k)(b:bv n x=X*k):fX n m (Y*k) (X*k) x (List.replicate (l+1-m) 0) (l+1-m):=by
 refine⟨h,λd q=>by rw[(List.mem_replicate.1 q).2];omega,by rw[length_replicate];omega,by rw[length_replicate];exact Nat.le_refl _,?_,?_,λi y=>?_⟩
 ·have f:=tx n x (l+1-m);rw[b,min_eq_left (by omega)]at f;rcases lt_or_ge (bv n (x.drop (l+1-m))) (Y*k)with a|a
  ·exact a
  ·have v:=mul_le_mul_left (n^(l+1-m)) a;have w:n^l*k<=n^(l+1-m)*(Y*k):=by
    have e:n^l=n^(l+1-m)*n^(m-1):=by rw[<-Nat.pow_add];congr 1;omega
    rw[e,mul_assoc];exact mul_le_mul_left _ (mul_le_mul_right k c)
   have z:X*k<n^l*k:=Nat.mul_lt_mul_of_pos_right o p;omega
 ·have:bv n (List.replicate (l+1-m) 0)=0:=by
   induction (l+1-m)with
   |zero=>rfl
   |succ j g=>rw[List.replicate_succ,bv,g];rfl
  rw[this,b,mul_zero,add_zero]
 grind
theorem zy{X Y:Nat}(a:0<k):X*k/(Y*k)=X/Y/\X*k%(Y*k)=X%Y*k:=
 by grind[Nat.mul_div_mul_right,Nat.mul_mod_mul_right]
theorem CX{B left a:Nat}(c:0<k)(b:left<k)(d:a<B):(left*B+a)/k<B/\(left*B+a)%k<k/\(left*B+a)/k*k+(left*B+a)%k=left*B+a:=by
 refine⟨div_lt_of_lt_mul ?_,mod_lt _ c,by rw[mul_comm];exact Nat.div_add_mod _ _⟩;have:=mul_le_mul_right B (succ_le_of_lt b)
 grind
structure iR(B k R:Nat)(r:List Nat)(j left:Nat):Prop where
 rl:∀d∈r,d<B
 jle:j<=r.length
 lt:left<k
 eq:bv B (r.drop j)*k*B^j+left*B^j+bv B (r.take j)=R
theorem iR.step{at' left:Nat}(d:0<k)(h:iR n k m x (at'+1) left):iR n k m (x.set at' ((left*n+x.getD at' 0)/k)) at' ((left*n+x.getD at' 0)%k):=by
 have g:=h.jle;have b:0<n:=by
  have:=h.rl (x.getD at' 0) (by
   rw[gD,gE (by omega)];exact getElem_mem _)
  omega
 obtain⟨e,c,f⟩:=CX (B:=n) d h.lt (bo b h.rl at');refine⟨HC h.rl e,by rw[List.length_set];omega,c,?_⟩;rw[List.take_set_of_le (by omega),eK,List.drop_set_of_lt (by omega)];have a:(x.set at' ((left*n+x.getD at' 0)/k)).getD at' 0=(left*n+x.getD at' 0)/k:=by
  rw[gD,List.getElem?_set_self (by omega)];rfl
 rw[a,<-h.eq]
 grind[List.take_succ_eq_append_getElem,oj]
theorem iR.done{left:Nat}(a:0<k)(h:iR n k m x 0 left):bv n x=m/k:=by
 have e:=h.eq;simp only[drop_zero,Nat.pow_zero,mul_one,List.take_zero,bv,add_zero]at e;rw[<-e,mul_comm,Nat.mul_add_div a,div_eq_of_lt h.lt];rfl
section
theorem lK(B:Nat)(l:List Nat)(i:Nat)(h:i<=l.length):bv B l=bv B (l.take i)+B^i*bv B (l.drop i):=by grind[tx]
theorem ji{B:Nat}{l:List Nat}(h:l.length=i+1):bv B (l.drop i)=l.getD i 0:=by
 rw[eK,drop_eq_nil_of_le (by omega)];rfl
theorem iB{B:Nat}{l:List Nat}(h:l.length=i+2):bv B (l.drop i)=l.getD (i+1) 0*B+l.getD i 0:=by grind[eK,ji]
theorem pY{B:Nat}{l:List Nat}(h:l.length=i+3):bv B (l.drop i)=(l.getD (i+2) 0*B+l.getD (i+1) 0)*B+l.getD i 0:=by grind[eK,iB]
structure fJ(B n:Nat)(u v:List Nat)(q rest:Nat):Prop where
 eq:q*v.getD (n-1) 0+rest=u.getD n 0*B+u.getD (n-1) 0
 hi:bv B u<(q+1)*bv B v
section
variable {B n:Nat} {u v:List Nat} {q rest:Nat}
theorem fJ.start(s:1<B)(q:u.length=n+1)(p:v.length=n)(r:0<n)(k:∀d∈u,d<B)(g:0<v.getD (n-1) 0):fJ B n u v ((u.getD n 0*B+u.getD (n-1) 0)/v.getD (n-1) 0) ((u.getD n 0*B+u.getD (n-1) 0)%v.getD (n-1) 0):=by
 refine⟨by rw[mul_comm];exact Nat.div_add_mod _ _,?_⟩;have e:=lK B u (n-1) (by omega);have f:=lK B v (n-1) (by omega);have h:bv B (u.drop (n-1))=u.getD n 0*B+u.getD (n-1) 0:=by
  have:=iB (B:=B) (l:=u) (i:=n-1) (by omega);rwa[show n-1+1=n by omega]at this
 rw[ji (by omega)]at f;rw[h]at e;rw[e,f];have j:=dV (b:=B) (x:=u.take (n-1)) (λd o=>k d (mem_of_mem_take o));rw[length_take,min_eq_left (by omega)]at j;generalize u.getD n 0*B+u.getD (n-1) 0=a;generalize v.getD (n-1) 0=c at g⊢;have m:a<(a/c+1)*c:=by
  have:=Nat.div_add_mod a c;have:=mod_lt a g;rw[add_mul,one_mul,mul_comm];omega
 have t:=mul_le_mul_left (B^(n-1)) (succ_le_of_lt m)
 grind
theorem fJ.lower(b:bv B u<q*bv B v)(h:fJ B n u v q rest):fJ B n u v (q-1) (rest+v.getD (n-1) 0):=by
 have c:0<q:=by
  rcases eq_zero_or_pos q with a|a
  ·subst a;rw[zero_mul]at b;omega
  ·exact a
 obtain⟨p,rfl⟩:∃p,q=p+1:=⟨q-1,by omega⟩
 refine⟨?_,by simpa using b⟩;have:=h.eq
 grind
theorem fJ.adf(b:bv B u<B*bv B v)(a:B<=q):bv B u<q*bv B v:=lt_of_lt_of_le b (mul_le_mul_right _ a)
theorem fJ.second(p:u.length=n+1)(o:v.length=n)(r:1<n)(j:∀d∈u,d<B)(h:fJ B n u v q rest)(g:rest*B+u.getD (n-2) 0<q*v.getD (n-2) 0):bv B u<q*bv B v:=by
 have c:=lK B u (n-2) (by omega);have e:=lK B v (n-2) (by omega);have f:bv B (u.drop (n-2))=(u.getD n 0*B+u.getD (n-1) 0)*B+u.getD (n-2) 0:=by
  have:=pY (B:=B) (l:=u) (i:=n-2) (by omega);rwa[show n-2+1=n-1 by omega,show n-2+2=n by omega]at this
 have k:bv B (v.drop (n-2))=v.getD (n-1) 0*B+v.getD (n-2) 0:=by
  have:=iB (B:=B) (l:=v) (i:=n-2) (by omega);rwa[show n-2+1=n-1 by omega]at this
 rw[f,add_comm,mul_comm]at c;rw[k,add_comm,mul_comm]at e;have a:=dV (b:=B) (x:=u.take (n-2)) (λd m=>j d (mem_of_mem_take m));rw[length_take,min_eq_left (by omega)]at a;exact HG c a e h.eq g
theorem fJ.last(y:1<B)(t:u.length=n+1)(s:v.length=n)(w:0<n)(k:∀d∈v,d<B)(p:0<v.getD (n-1) 0)(h:fJ B n u v q rest)(o:q<B)(m:1<n->q*v.getD (n-2) 0<=rest*B+u.getD (n-2) 0):q*bv B v<bv B u+bv B v:=by
 rcases lt_or_ge 1 n with f|f
 ·have e:=lK B u (n-2) (by omega);have g:=lK B v (n-2) (by omega);have a:bv B (u.drop (n-2))=(u.getD n 0*B+u.getD (n-1) 0)*B+u.getD (n-2) 0:=by
   have:=pY (B:=B) (l:=u) (i:=n-2) (by omega);rwa[show n-2+1=n-1 by omega,show n-2+2=n by omega]at this
  have c:bv B (v.drop (n-2))=v.getD (n-1) 0*B+v.getD (n-2) 0:=by
   have:=iB (B:=B) (l:=v) (i:=n-2) (by omega);rwa[show n-2+1=n-1 by omega]at this
  rw[a,add_comm,mul_comm]at e;rw[c,add_comm,mul_comm]at g;have j:=dV (b:=B) (x:=v.take (n-2)) (λd r=>k d (mem_of_mem_take r));rw[length_take,min_eq_left (by omega)]at j;exact Fc e g j h.eq o p (m f)
 ·obtain rfl:n=1:=by omega
  have a:=iB (B:=B) (l:=u) (i:=0) (by omega);have c:=ji (B:=B) (l:=v) (i:=0) (by omega);rw[drop_zero]at a c;have:=h.eq
  grind
theorem sN(f:q<B){a b:Nat}(d:a<B)(c:B<=rest):q*a<=rest*B+b:=by
 have e:q*a<=B*B:=mul_le_mul (by omega) (by omega);have g:B*B<=rest*B:=mul_le_mul_right B c;omega
end
theorem E9{B q n:Nat}(a:1<B){u v:List Nat}(s:∀d∈u,d<B)(f:∀d∈v,d<B)(i:u.length=n+1)(b:v.length=n)(o:q<B)(y:bv B u<(q+1)*bv B v)(p:q*bv B v<bv B u+bv B v):
  (bt B q u v 0 (n+1) 0 0).2.2=0/\
  ((bt B q u v 0 (n+1) 0 0).2.1=0->q=bv B u/bv B v/\bv B (bt B q u v 0 (n+1) 0 0).1=bv B u%bv B v)/\
  ((bt B q u v 0 (n+1) 0 0).2.1≠0->0<q/\q-1=bv B u/bv B v/\bv B (bq (aP B) (bt B q u v 0 (n+1) 0 0).1 v 0 (n+1) 0)=bv B u%bv B v):=by
 have j:=uJ a (u:=u) o f (n+1) 0 0 0 (by omega) (by omega) (by omega) (by omega);obtain⟨A,l⟩:=HA a s i b j (q:=q);have w:∀{k r:Nat},bv B u=r+k*bv B v->r<bv B v->k=bv B u/bv B v/\r=bv B u%bv B v:=by
  intro k r e t;rw[e,mul_comm k,add_comm];constructor
  ·grind[Nat.mul_add_div,div_eq_of_lt]
  ·rw[Nat.mul_add_mod,mod_eq_of_lt t]
 refine⟨j,λh=>?_,λh=>?_⟩
 ·grind
 ·obtain⟨m,g⟩:=l h;have x:0<q:=by
   rcases eq_zero_or_pos q with c|c
   ·subst c;rw[zero_mul]at g;omega
   ·exact c
  obtain⟨Q,rfl⟩:∃Q,q=Q+1:=⟨q-1,by omega⟩
  have z:=KB a (Q:=Q) (V:=bv B v) (U:=bv B u) (rJ (q:=Q+1) a u v (n+1) 0 0 0) f (oT _ _ _ _ _ _ _ _) b m g p rfl
  grind
end
def eH(F:Nat->Nat->Nat->Nat×Nat)(x y:List Nat)(i c:Nat):Nat->Nat
 |0=>c
 |k+1=>(F (x.getD (i+k) 0) (y.getD (i+k) 0) (eH F x y i c k)).2
theorem Ay(F:Nat->Nat->Nat->Nat×Nat)(x y:List Nat)(i c:Nat):∀k,eH F x y (i+1) (F (x.getD i 0) (y.getD i 0) c).2 k=eH F x y i c (k+1)
 |0=>rfl
 |k+1=>by
  show(F (x.getD (i+1+k) 0) (y.getD (i+1+k) 0) (eH F x y (i+1) _ k)).2=(F (x.getD (i+(k+1)) 0) (y.getD (i+(k+1)) 0) (eH F x y i c (k+1))).2;rw[Ay F x y i c k,show i+1+k=i+(k+1) by omega]
theorem jk(F:Nat->Nat->Nat->Nat×Nat)(x y:List Nat):∀k i c,bq F x y i (k+1) c=bq F x y i k c++[(F (x.getD (i+k) 0) (y.getD (i+k) 0) (eH F x y i c k)).1]
 |0,i,c=>rfl
 |k+1,i,c=>by
  have a:=jk F x y k (i+1) (F (x.getD i 0) (y.getD i 0) c).2
  grind[Ay,bq]
theorem qy{b:Nat}(k:1<b){x y:List Nat}(h:∀d∈x,d<b)(l:x.length=y.length){j:Nat}(n:j<x.length)(i:x.drop (j+1)=y.drop (j+1))(a:x.getD j 0<y.getD j 0):bv b x<bv b y:=by
 have c:=lK b x j (by omega);have e:=lK b y j (by omega);rw[eK]at c e;rw[c,e,i];have g:=dV (b:=b) (x:=x.take j) (λd f=>h d (mem_of_mem_take f));rw[length_take,min_eq_left (by omega)]at g;have m:=mul_le_mul_left (b^j) (succ_le_of_lt (Nat.add_lt_add_right a (b*bv b (y.drop (j+1)))))
 grind
theorem jo{b:Nat}(a:1<b){m n:Nat}(h:(aF b m).length<(aF b n).length):m<n:=by
 have c:0<n:=by
  rcases eq_zero_or_pos n with e|e
  ·grind[ew]
  ·exact e
 have d:=dV (cr a m);rw[bK a]at d;have g:=pZ a c;have f:b^(aF b m).length<=b^((aF b n).length-1):=pow_le_pow_right (by omega) (by omega);omega
variable{A:Type}
theorem qB(B q:Nat)(u v:List Nat):∀k i b c,bt B q u v i (k+1) b c =
    ((bt B q u v i k b c).1++[(iq B q (u.getD (i+k) 0) (v.getD (i+k) 0) (bt B q u v i k b c).2.1 (bt B q u v i k b c).2.2).1],
     (iq B q (u.getD (i+k) 0) (v.getD (i+k) 0) (bt B q u v i k b c).2.1 (bt B q u v i k b c).2.2).2.1,
     (iq B q (u.getD (i+k) 0) (v.getD (i+k) 0) (bt B q u v i k b c).2.1 (bt B q u v i k b c).2.2).2.2)
  |0,i,b,c=>rfl
  | k+1,i,b,c=>by
    have a:=qB B q u v k (i+1) (iq B q (u.getD i 0) (v.getD i 0) b c).2.1 (iq B q (u.getD i 0) (v.getD i 0) b c).2.2
    grind[bt]
theorem CY{q:Nat}(a:1<n){u v:List Nat}(b:∀d∈u,d<n)(k:Nat):(bt n q u v 0 k 0 0).2.1<=1:=(wP a (v:=v) b k 0 0 0 (by omega)).2
theorem p8{B q:Nat}(b:1<B)(c:q<B){u v:List Nat}(a:∀d∈v,d<B):∀k,(bt B q u v 0 k 0 0).2.2<B
  |0=>by grind[bt]
  | k+1=>by
    rw[qB];have f:=p8 b c (u:=u) a k;have g:=bo (by omega) a (0+k);show(q*v.getD (0+k) 0+(bt B q u v 0 k 0 0).2.2)/B<B;refine div_lt_of_lt_mul ?_;have e:q*v.getD (0+k) 0<=(B-1)*(B-1):=mul_le_mul (by omega) (by omega);have h:(B-1)*(B-1)+(B-1)=(B-1)*B:=by rw[<-mul_succ];congr 1;omega
    have i:(B-1)*B+B=B*B:=by rw[<-succ_mul];congr 1;omega
    omega
theorem yy(x y:List A){i:Nat}(a:x.length=i)(b:i<y.length)(d:A):(x++y.drop i).set i d=(x++[d])++y.drop (i+1):=by
  rw[List.set_append,if_neg (by omega),a,Nat.sub_self,List.drop_eq_getElem_cons b,List.set_cons_zero,append_assoc];rfl
theorem uH(x y:List Nat){i:Nat}(a:x.length=i):(x++y.drop i).getD i 0=y.getD i 0:=by grind
theorem uL(l:List Nat):l.take (cM l).length=cM l/\(cM l).length<=l.length:=by
 induction l using mc with
 |h0=>exact⟨rfl,Nat.le_refl _⟩
 | h1 l d b=>
  by_cases a:d=0
  ·grind[gm]
  ·rw[ic l a,take_length]
   grind
theorem DH(a:1<n)(b:0<m):0<(aF n m).getD ((aF n m).length-1) 0:=by
 have c:=(KH a m).2
 grind[aF]
theorem Fa(a:1<n)(c:m<n^k)(e:n^(k-1)<=m)(d:0<k):(aF n m).length=k:=by
 refine Nat.le_antisymm (jm a c) ?_;rcases lt_or_ge (aF n m).length k with h|h
 ·have b:=dV (cr a m);rw[bK a]at b;have:n^(aF n m).length<=n^(k-1):=pow_le_pow_right (by omega) (by omega);omega
 omega
theorem RT(f:1<n)(o:0<m):let c:=(aF n m).length;let a:=(aF n m).getD (c-1) 0;let k:=n/(a+1)
  0<c/\a<n/\0<k/\k<=n/\n^(c-1)<=m/\m*k<n^c:=by
 intro c a k;have l:0<c:=length_pos_iff.2 λe=>by grind[fK]
 have s:a<n:=bo (by omega) (cr f m) _;have j:0<k:=Nat.div_pos (by omega) (by omega);have g:=pZ f o;refine⟨l,s,j,Nat.div_le_self _ _,g,?_⟩;have i:m<(a+1)*n^(c-1):=by
  have h:=lK n (aF n m) (c-1) (by omega);rw[ji (show(aF n m).length=c-1+1 by omega),bK f]at h;have p:=dV (b:=n) (x:=(aF n m).take (c-1)) (λd r=>cr f m d (mem_of_mem_take r));rw[length_take,min_eq_left (by omega)]at p;rw[add_mul,one_mul,mul_comm a];show m<n^(c-1)*a+_;have:(aF n m).getD (c-1) 0=a:=rfl;rw[this]at h;omega
 have t:m*k<(a+1)*n^(c-1)*k:=Nat.mul_lt_mul_of_pos_right i j;have q:(a+1)*k<=n:=by rw[mul_comm];exact Nat.div_mul_le_self _ _
 have w:(a+1)*n^(c-1)*k=(a+1)*k*n^(c-1):=by rw[Nat.mul_right_comm]
 have v:(a+1)*k*n^(c-1)<=n*n^(c-1):=mul_le_mul_right _ q;have u:n*n^(c-1)=n^c:=by rw[mul_comm,<-pow_succ];congr 1;omega
 omega
def wid:Nat->Nat->List UInt8
 |0,_=>[]
 |n+1,u=>wid n (u/10)++[gk (u%10)]
theorem wS:∀n u,(wid n u).length=n
 |0,_=>rfl
 |n+1,u=>by rw[wid,length_append,wS n];rfl
theorem tB:∀(n u:Nat),wid (n+1) u=gk (u/10^n%10)::wid n u
 |0,u=>by simp[wid]
 |n+1,u=>by
  rw[wid,tB n (u/10),wid,cons_append,Nat.div_div_eq_div_mul,pow_succ,mul_comm 10]
theorem wQ(a:m<10^(n+1))(c:n=0\/10^n<=m):wid (n+1) m=aC m:=by
 induction n generalizing m with
 |zero=>grind[cX,wid]
 |succ n b=>grind[gQ,Nat.le_div_iff_mul_le,wid]
theorem DJ{u:Nat}:∀{n:Nat},u<10^n->0<n->wid n u=List.replicate (n-(aC u).length) 48++aC u
 |0,_,h=>absurd h (by omega)
 | n+1,h,_=>by
  by_cases b:n=0\/10^n<=u
  ·have c:=wQ h b;have d:=congrArg List.length c;rw[wS]at d
   simp_all
  ·have e:n≠0:=λh=>b (.inl h);have a:u<10^n:=Nat.lt_of_not_le λh=>b (.inr h);have f:=(gR (n:=u) (k:=n) (by omega)).2 a;rw[tB,DJ a (by omega),div_eq_of_lt a,show n+1-(aC u).length=(n-(aC u).length)+1 by omega,List.replicate_succ];rfl
theorem yD{Y:Nat}(a:0<Y):∀{n b:Nat},b<10^n->aC (Y*10^n+b)=aC Y++wid n b
 |0,b,h=>by simp_all[wid]
 | n+1,b,h=>by
  have c:b/10<10^n:=by rw[Nat.div_lt_iff_lt_mul (by omega),<-pow_succ];exact h
  have g:=yD a c;have d:0<10^n:=Nat.pow_pos (by omega);have f:0<Y*10^n+b/10:=Nat.add_pos_left (Nat.mul_pos a d) _;have e:Y*10^(n+1)+b=10*(Y*10^n+b/10)+b%10:=by
   rw[pow_succ,mul_add,<-mul_assoc,mul_comm (Y*10^n) 10];omega
  simp_all[uK,mod_lt,wid]
theorem CZ{b:Nat}(c:0<m)(a:b<1000000000):aC (b+1000000000*m)=aC m++List.replicate (9-(aC b).length) 48++aC b:=by
 have h:=yD c (n:=9) (b:=b) a
 grind[DJ]
theorem C0{b:Nat}(a:b<1000000000):(aC b).length<=9:=(gR (by omega)).2 a
theorem qA(B:Nat)(y:List Nat)(k:Nat):bv B (y.take (k+1))=bv B (y.take k)+B^k*y.getD k 0:=by grind[List.take_succ_eq_append_getElem,oj,take_of_length_le]
theorem KC(a:0<n)(h:∀d∈x,d<n)(i:Nat):x.getD i 0<n:=by grind[getElem_mem]
theorem Az{B:Nat}(m:1<B){L y:List Nat}{i k cy xi P p:Nat}(a:∀d∈L,d<B)(q:i+k<L.length)(f:cy<B)(j:xi<B)(g:y.getD k 0<B)(c:p=L.getD (i+k) 0+cy+xi*y.getD k 0)(n:bv B L+cy*B^(i+k)=P+xi*bv B (y.take k)*B^i):
  (∀d∈L.set (i+k) (p%B),d<B)/\p/B<B/\bv B (L.set (i+k) (p%B))+p/B*B^(i+(k+1))=P+xi*bv B (y.take (k+1))*B^i:=by
 have l:=KC (by omega) a (i+k);refine⟨λd e=>?_,?_,?_⟩
 ·rcases List.mem_or_eq_of_mem_set e with h|h
  ·exact a d h
  ·rw[h];exact mod_lt _ (by omega)
 ·rw[Nat.div_lt_iff_lt_mul (by omega),c];have b:xi*y.getD k 0<=(B-1)*(B-1):=mul_le_mul (by omega) (by omega);obtain⟨C,rfl⟩:∃C,B=C+1:=⟨B-1,by omega⟩
  rw[Nat.add_sub_cancel]at b;have o:(C+1)*(C+1)=C*C+C+C+1:=by rw[mul_succ,succ_mul];omega
  omega
 grind[Aw,mod_add_div,qA]
theorem OP(l:1<n){L x y:List Nat}{i cy:Nat}(e:∀d∈x,d<n)(k:∀d∈y,d<n)(p:i<x.length)(m:∀d∈L,d<n)(c:bv n L+cy*n^(i+(y.length+1))=bv n (x.take i)*bv n y+x.getD i 0*bv n (y.take (y.length+1))*n^i):
  bv n L=bv n (x.take (i+1))*bv n y:=by
 have f:bv n (x.take (i+1))*bv n y=bv n (x.take i)*bv n y+x.getD i 0*bv n y*n^i:=by
  rw[qA,add_mul];congr 1;rw[mul_assoc,mul_comm]
 rw[take_of_length_le (by omega:y.length<=y.length+1),<-f]at c;have g:bv n (x.take (i+1))<n^(i+1):=by
  have:=dV (b:=n) (x:=x.take (i+1)) (λd j=>e d (mem_of_mem_take j));rwa[length_take,min_eq_left (by omega)]at this
 have a:=dV k;have o:bv n (x.take (i+1))*bv n y<n^(i+(y.length+1)):=by
  rw[show i+(y.length+1)=(i+1)+y.length by omega,Nat.pow_add];exact Nat.mul_lt_mul'' g a
 rcases eq_zero_or_pos cy with h|h
 ·grind
 ·have q:1*n^(i+(y.length+1))<=cy*n^(i+(y.length+1)):=mul_le_mul_right _ h;omega
theorem Av(B n:Nat):bv B (List.replicate n 0)=0:=by
 induction n with
 |zero=>rfl
 |succ n a=>grind[bv]
def fh(c:UInt8):List UInt8->Nat
 |[]=>0
 |x::l=>if x=c then 0 else fh c l+1
def isNeg(a:List UInt8):Bool:=a.head? == some 45
def cq(a:List UInt8):List UInt8:=if isNeg a then a.drop 1 else a
def numOf(a:List UInt8):List UInt8:=(cq a).take (fh 47 (cq a))
def gP(a:List UInt8):Bool:=decide (fh 47 (cq a)<(cq a).length)
def cT(a:List UInt8):List UInt8:=if gP a then(cq a).drop (fh 47 (cq a)+1)else[49]
def eC(a:List UInt8):Bool:=aM (numOf a)&&aM (cT a)&&decide ((numOf a).length<=400)&&decide ((cT a).length<=400) && !(isNeg a&&numOf a==[48]) && !(gP a&&(cT a==[48]||cT a==[49]))&&decide (Nat.gcd (val (numOf a)) (val (cT a))=1)
structure WM(a:List UInt8):Prop where
 num:aM (numOf a)=true
 den:aM (cT a)=true
 ln:(numOf a).length<=400
 ld:(cT a).length<=400
 neg:¬(isNeg a=true/\numOf a=[48])
 fr:¬(gP a=true/\(cT a=[48]\/cT a=[49]))
 one:Nat.gcd (val (numOf a)) (val (cT a))=1
theorem nv{a:List UInt8}:eC a=true↔WM a:=by
 unfold eC;simp only[and_eq_true,Bool.not_eq_true',Bool.and_eq_false_iff,Bool.or_eq_false_iff,decide_eq_true_eq,beq_eq_false_iff_ne];constructor
 ·rintro⟨⟨⟨⟨⟨⟨c,d⟩,b⟩,f⟩,j⟩,i⟩,e⟩;refine⟨c,d,b,f,λ⟨g,h⟩=>?_,λ⟨g,h⟩=>?_,e⟩
  all_goals grind
 ·rintro⟨c,d,b,f,j,i,e⟩
  grind
theorem AE{a:List UInt8}(h:aM a=true)(c:0<k)(b:a.length<=k):val a<10^k:=by grind[mr,gR]
def nw(s:Bool)(A:Nat)(t:Bool)(B:Nat):Bool×Nat:=if s=t then(s,A+B)else if A<B then(t,B-A)else(s,A-B)
def oq(a b:List UInt8):Int:=
 if eC a=true/\eC b=true then
  if(nw (isNeg a) (val (numOf a)*val (cT b)) (!isNeg b) (val (numOf b)*val (cT a))).2=0 then 0
  else if(nw (isNeg a) (val (numOf a)*val (cT b)) (!isNeg b) (val (numOf b)*val (cT a))).1=true then -1 else 1
 else 0
theorem OR(e:k+k=m)(b:n<10^k)(a:i<10^k):n*i<10^m:=by
 subst e;rw[Nat.pow_add];exact Nat.mul_lt_mul'' b a
theorem CW(b:n<10^400)(a:i<10^400):n*i<10^800:=OR (k:=400) (m:=800) rfl b a
theorem uI(h:k<=m):10^k<=10^m:=pow_le_pow_right (by decide) h
theorem OQ:(10:Nat)^800+10^800<=10^1000:=by omega
def cY(b:Int)(a:List UInt8):Bool:=decide (1<=b/\b<=3)&&eC a&&(b==1||decide (0<oq a [48]))
section
inductive iz(E:Nat->Nat->Prop)(F:Nat->Prop):Nat->Prop where
 |base {x:Nat} (h:F x):iz E F x
 |step {y x:Nat} (h:iz E F y) (e:E y x):iz E F x
def jj(L:List Bool):Nat:=(L.filter λb=> !b).length
theorem Ax:∀{L:List Bool}{s:Nat},s<L.length->L.getD s false=false->jj (L.set s true)+1=jj L
 |[],s,h,_=>by grind
 |b::L,0,h,a=>by grind[jj]
 |b::L,s+1,h,a=>by
  have c:=Ax (L:=L) (s:=s) (by simpa using h) (by simpa using a)
  grind[jj]
theorem kN{L:List Bool}{s x:Nat}(a:s<L.length):(L.set s true).getD x false=if x=s then true else L.getD x false:=by grind
structure jG(E:Nat->Nat->Prop)(F:Nat->Prop)(N:Nat)(L:List Bool)(T:List Nat)(ex:Nat->Prop):Prop where
 len:L.length=N
 tin:∀x∈T,x<N/\L.getD x false=true
 snd:∀x,L.getD x false=true->iz E F x
 cls:∀y,L.getD y false=true->y∉T->¬ex y->∀z,E y z->L.getD z false=true
section
variable {E:Nat->Nat->Prop} {F:Nat->Prop} {N:Nat} {L:List Bool} {T:List Nat} {ex:Nat->Prop}
theorem KF(n:Nat)(ex:Nat->Prop):jG E F n (List.replicate n false) [] ex:=by
 have h:∀x,(List.replicate n false).getD x false=false:=λx=>by grind
 exact⟨length_replicate,λx a=>(by grind),λx a=>(by grind),λy b=>(by grind)⟩
theorem jG.see(v:jG E F N L T ex){s:Nat}(f:s<N)(m:iz E F s)(k:L.getD s false=false):jG E F N (L.set s true) (T++[s]) ex/\jj (L.set s true)+1=jj L:=by
 have b:s<L.length:=by rw[v.len];exact f
 refine⟨⟨by rw[List.length_set];exact v.len,λx a=>?_,λx a=>?_,λy d e j z l=>?_⟩,Ax b k⟩
 ·rcases mem_append.1 a with h|h
  ·obtain⟨g,i⟩:=v.tin x h;refine⟨g,?_⟩;rw[kN b];split
   ·rfl
   ·exact i
  grind
 ·rw[kN b]at a;split at a
  ·grind
  ·exact v.snd x a
 ·rw[kN b]at d⊢;split
  ·rfl
  ·split at d
   ·grind
   ·exact v.cls y d (λc=>e (mem_append.2 (.inl c))) j z l
theorem jG.take{s:Nat}(v:jG E F N L T (λ_=>False))(e:∀x∈y,x∈T)(f:∀x∈T,x∈y\/x=s):jG E F N L y (λb=>b=s):=
 ⟨v.len,λx d=>v.tin x (e x d),v.snd,λb i a g z h=>v.cls b i (λc=>(f b c).elim a g) (λc=>c) z h⟩
theorem jG.done{s:Nat}(v:jG E F N L T (λy=>y=s))(h:∀z,E s z->L.getD z false=true):jG E F N L T (λ_=>False):=
 ⟨v.len,v.tin,v.snd,λy c a _ z b=>by
  by_cases e:y=s
  ·grind
  ·exact v.cls y c a e z b⟩
theorem jG.final(v:jG E F N L [] (λ_=>False))(b:∀x,F x->L.getD x false=true)(x:Nat):L.getD x false=true↔iz E F x:=by
 refine⟨v.snd x,λh=>?_⟩
 induction h with
 |base h=>grind
 |step _ e a=>exact v.cls _ a (λc=>(by cases c)) (λc=>c) _ e
end
end
end Go.Num
end
section
namespace Go.Proofs.YtnlccnpbjeiccaaGreatDoor
open Go Go.Ab Go.RowKit
theorem XP:(((Tryz.prog.funcs.toList.drop 0).take 40).all λf=>dA f)=true:=by kernel_rfl
theorem XQ:(((Tryz.prog.funcs.toList.drop 40).take 40).all λf=>dA f)=true:=by kernel_rfl
theorem XR:(((Tryz.prog.funcs.toList.drop 80).take 40).all λf=>dA f)=true:=by kernel_rfl
theorem XS:(((Tryz.prog.funcs.toList.drop 120).take 40).all λf=>dA f)=true:=by kernel_rfl
theorem XT:(((Tryz.prog.funcs.toList.drop 160).take 40).all λf=>dA f)=true:=by kernel_rfl
theorem XU:(((Tryz.prog.funcs.toList.drop 200).take 40).all λf=>dA f)=true:=by kernel_rfl
theorem XV:(((Tryz.prog.funcs.toList.drop 240).take 40).all λf=>dA f)=true:=by kernel_rfl
theorem XW:(((Tryz.prog.funcs.toList.drop 280).take 40).all λf=>dA f)=true:=by kernel_rfl
theorem XX:(((Tryz.prog.funcs.toList.drop 320).take 40).all λf=>dA f)=true:=by kernel_rfl
theorem PG:Tryz.prog.funcs.toList.length=329:=by kernel_rfl
theorem S0(i:Nat)(c:Func)(h:Tryz.prog.funcs.toList[i]?=some c):dA c=true:=by
 have b:∀a,((Tryz.prog.funcs.toList.drop a).take 40).all (λf=>dA f)=true->a<=i->i<a+40->dA c=true:=λa g d e=>by
  refine all_eq_true.1 g c (List.mem_of_getElem? (i:=i-a) ?_);rw[getElem?_take,if_pos (by omega),getElem?_drop,show a+(i-a)=i by omega];exact h
 have j:i<329:=by
  have:=(List.getElem?_eq_some_iff.1 h).1;rw[PG]at this;exact this
 by_cases n:i<40
 ·exact b 0 XP (by omega) (by omega)
 by_cases d:i<80
 ·exact b 40 XQ (by omega) (by omega)
 by_cases e:i<120
 ·exact b 80 XR (by omega) (by omega)
 by_cases k:i<160
 ·exact b 120 XS (by omega) (by omega)
 by_cases m:i<200
 ·exact b 160 XT (by omega) (by omega)
 by_cases p:i<240
 ·exact b 200 XU (by omega) (by omega)
 by_cases o:i<280
 ·exact b 240 XV (by omega) (by omega)
 by_cases l:i<320
 ·exact b 280 XW (by omega) (by omega)
 exact b 320 XX (by omega) (by omega)
theorem Qi:(Tryz.prog.funcs.toList.all λf=> !(f.name == "runtime.NumGoroutine"))=true:=by kernel_rfl
theorem jB:tD Tryz.prog:={
 names:=λ_ a h=>by
  have b:a∈Tryz.prog.funcs.toList:=by
   rw[<-Array.getElem?_toList]at h;exact List.mem_of_getElem? h
  have:=all_eq_true.1 Qi a b;simpa using this
 SZ:=λf a h=>S0 f a (by rw[Array.getElem?_toList];exact h) }
theorem Dp:gT Tryz.prog mJ 296 jX:=yW (fn:=(Tryz.prog.funcs[296]?).getD default) (by kernel_rfl) (by kernel_rfl) (by kernel_rfl) (by kernel_rfl) (by kernel_rfl)
theorem Bu:gT Tryz.prog mJ 290 hJ:=vF (fn:=(Tryz.prog.funcs[290]?).getD default) (by kernel_rfl) (by kernel_rfl) (by kernel_rfl) (by kernel_rfl) (by kernel_rfl)
def MC:Code->Code
 |.seq a _=>a
 |c=>c
def GV:Code->Code
 |.seq _ b=>b
 |c=>c
noncomputable def DY:Code:=(Tryz.f228.body).getD .skip
theorem vD(a:Array Value)(w:World)(h:a.size=2):CallsDIn Fence.wide 0 Tryz.prog 254 a .returning w λe c b=>(∃v,e = .returned v)/\c = .returning/\Below w.heap.size w b/\w.drawn<=b.drawn:=
 Yi (n:=2) Tryz.func254 rfl rfl (by kernel_rfl) a w h
theorem Hm:gT Tryz.prog mJ 228 (um Tryz.prog mJ Tryz.f228 (MC DY) (GV (GV DY)) 5):=
 Ie jB.names Tryz.func228 rfl rfl rfl rfl rfl rfl rfl Tryz.func254 rfl vD (by kernel_rfl) (by kernel_rfl)
noncomputable def abp:lI:=[(296,.aas),(290,.NV),(228,.defer Tryz.f228 (MC DY) (GV (GV DY)) 5)]
theorem Ad:mn Tryz.prog mJ abp:=iU Dp (iU Bu (iU Hm (DP)))
end Go.Proofs.YtnlccnpbjeiccaaGreatDoor
end
section
namespace Go.Proofs.YtnlccnpbjeiccaaGreatDoor
open Go Go.Ab Go.Num
def Tr:Nat->Bool:=λg=>Nat.beq g 1
noncomputable def adr:lI:=(13,.Gg [([],.bool true)]) ::abp
noncomputable def prS:FuncId->Option kS:=λf=>AZ (Nat.beq f 146) (some Ck) (Jw Tryz.prog Tr adr f)
noncomputable def SS:Sx:=⟨Tryz.prog,Tr,prS⟩
variable{s:List UInt8}{t:List UInt8}{b:Bool}{e:Addr}{v:Value}{w:Value}{h:aa}{Q:VH}
noncomputable def Po:FD:=dY Tryz.f236 []
theorem La(l m:LB)(h:aa)(Q:VH)(c:FW SS 258 [(strOf l),(strOf m)] h λe a=>yB e λb=>aS (!b) (Q (.tuple ⟨[(strOf l),(.bool false)]⟩) a) (xS (bE SS.P 9 (strOf l) (some (.int .i64 ((m:LB).length:Int))) none none a) λd=>Q (.tuple ⟨[(strOf d),(.bool true)]⟩) a)):FW SS 236 [(strOf l),(strOf m)] h Q:=eh Po Tryz.func236 (av c)
noncomputable def SP:FD:=dY Tryz.f201 []
theorem Pp(l m:LB)(h:aa)(Q:VH)(c:FW SS 236 [(strOf l),(strOf m)] h λe d=>∃b:LB,∃a:Bool,e=(.tuple ⟨[(strOf b),(.bool a)]⟩)/\Q (.tuple ⟨[(strOf b),(.bool a)]⟩) d):FW SS 201 [(strOf l),(strOf m)] h Q:=eh SP Tryz.func201 (av c)
noncomputable def Lv:FD:=dY Tryz.f279 []
theorem IN(l:LB)(c:Int)(h:aa)(Q:VH)(b:FW SS 290 [(strOf l),(.int .u8 c)] h λe d=>yI .i64 e λa=>Q (.int .i64 a) d):FW SS 279 [(strOf l),(.int .u8 c)] h Q:=eh Lv Tryz.func279 (av b)
noncomputable def Tw:FD:=dY Tryz.f259 []
theorem PM(l:LB)(h:aa)(Q:VH)(d:aS (([47]:LB)==l) (Q (.int .i64 0) h) (xI .u8 (bH SS.P 9 (strOf [47]) (.int .i64 0)) λa=>FW SS 279 [(strOf l),(.int .u8 a)] h λb c=>yI .i64 b λe=>Q (.int .i64 e) c)):FW SS 259 [(strOf l),(strOf [47])] h Q:=eh Tw Tryz.func259 (av d)
noncomputable def aba:FD:=dY Tryz.f237 []
theorem XD(l:LB)(h:aa)(Q:VH)(c:FW SS 259 [(strOf l),(strOf [47])] h λe a=>yI .i64 e λb=>aS (decide ((b:Int)>=0)) (xS (bE SS.P 9 (strOf l) none (some (.int .i64 b)) none (room a 12)) λd=>xS (bE SS.P 9 (strOf l) (some (.int .i64 (wrap .i64 (b+1)))) none none (room a 12)) λf=>Q (.tuple ⟨[(strOf d),(strOf f),(.bool true)]⟩) (room a 12)) (Q (.tuple ⟨[(strOf l),(strOf []),(.bool false)]⟩) a)):FW SS 237 [(strOf l),(strOf [47])] h Q:=eh aba Tryz.func237 (av c)
noncomputable def ac0:FD:=dY Tryz.f202 []
theorem abb(l:LB)(h:aa)(Q:VH)(d:FW SS 237 [(strOf l),(strOf [47])] h λf e=>∃a:LB,∃c:LB,∃b:Bool,f=(.tuple ⟨[(strOf a),(strOf c),(.bool b)]⟩)/\Q (.tuple ⟨[(strOf a),(strOf c),(.bool b)]⟩) e):FW SS 202 [(strOf l),(strOf [47])] h Q:=eh ac0 Tryz.func202 (av d)
noncomputable def QQ:FD:=dY Tryz.f171 []
theorem Mn(l:LB)(e:Int)(h:aa)(Q:VH)(a:aS (((e:Int) !=0)) (xA (aD SS.P 259 []) λb=>False) (Q (strOf l) h)):FW SS 171 [(strOf l),(.int .i64 e)] h Q:=eh QQ Tryz.func171 (av a)
noncomputable def aq:FD:=dY Tryz.f169 []
abbrev B6(l:LB)(cc:Code)(h:aa)(Q:VH):Prop:=xN (aA SS.P 222) h λm j=>FW SS 201 [(strOf l),(strOf [45])] j λg k=>∃c:LB,∃d:Bool,g=(.tuple ⟨[(strOf c),(.bool d)]⟩)/\FW SS 202 [(strOf c),(strOf [47])] k λi f=>∃e:LB,∃b:LB,∃a:Bool,i=(.tuple ⟨[(strOf e),(strOf b),(.bool a)]⟩)/\aS (!a) (wpS SS aq.nm aq.ms [1,1,1,1] cc (uN [(strOf l),undef,(pA (h.next)),(.bool false),(strOf c),(.bool d),(strOf e),(strOf [49]),(.bool a),undef,undef,(.tuple ⟨[(strOf c),(.bool d)]⟩),(strOf l),(.tuple ⟨[(strOf c),(.bool d)]⟩),(strOf c),(.bool d),(.tuple ⟨[(strOf e),(strOf b),(.bool a)]⟩),(strOf c),(.tuple ⟨[(strOf e),(strOf b),(.bool a)]⟩),(strOf e),(strOf b),(.bool a),(.bool a),(.bool (!a))] 53) f (EE SS aq Q)) (wpS SS aq.nm aq.ms [1,1,1,1] cc (uN [(strOf l),undef,(pA (h.next)),(.bool false),(strOf c),(.bool d),(strOf e),(strOf b),(.bool a),undef,undef,(.tuple ⟨[(strOf c),(.bool d)]⟩),(strOf l),(.tuple ⟨[(strOf c),(.bool d)]⟩),(strOf c),(.bool d),(.tuple ⟨[(strOf e),(strOf b),(.bool a)]⟩),(strOf c),(.tuple ⟨[(strOf e),(strOf b),(.bool a)]⟩),(strOf e),(strOf b),(.bool a),(.bool a),(.bool (!a))] 53) f (EE SS aq Q))
theorem JB(l:LB)(h:aa)(Q:VH)(a:B6 l (jD [1,1,1,1] aq.body) h Q):FW SS 169 [(strOf l)] h Q:=by
 have e:∀cc,B6 l cc h Q=wpS SS aq.nm aq.ms [] (setAt [1,1,1,1] cc aq.body) ([(strOf l)]++List.replicate (aq.nm-([(strOf l)]:LV).length) undef) h (EE SS aq Q):=λcc=>by kernel_rfl
 have e:=e (jD [1,1,1,1] aq.body);rw[jf]at e;exact eh aq Tryz.func169 (av a e)
abbrev tf(n d:LB)(neg r:Bool)(p:Addr)(cc:Code)(x0 x1 x3 x4 x9 Z x5 v X G y1 y6 W y0 x7 w q m F z9 u9 u4 u1 z8 u3 u2 z7 u7 z0 z2 y9 z6 u8 u6 z5 z3 z1 u I l j x6 y7 y3 N y2 P t i x2 f x8 S U x Y s E J A o y C O z D K y4 T V H g:Value)(h:aa)(Q:VH):Prop:=FW SS 203 [(strOf n)] h λv1 e=>yB v1 λc=>aS (!c) (xA (aD SS.P 222 []) λc4=>xU (aj SS.P 222 (.pointer (some p)) (.agg ⟨c4⟩) e) e λu5 g6=>dq SS [((.pointer (some p)),some 222),((.bool false),none)] g6 Q) (FW SS 203 [(strOf d)] e λv7 a=>yB v7 λb=>aS (!b) (xA (aD SS.P 222 []) λy5=>xU (aj SS.P 222 (.pointer (some p)) (.agg ⟨y5⟩) a) a λz4 k=>dq SS [((.pointer (some p)),some 222),((.bool false),none)] k Q) (aS (decide ((((n:LB).length:Int):Int)>400)) (xA (aD SS.P 222 []) λM=>xU (aj SS.P 222 (.pointer (some p)) (.agg ⟨M⟩) a) a λy8 L=>dq SS [((.pointer (some p)),some 222),((.bool false),none)] L Q) (aS (decide ((((d:LB).length:Int):Int)>400)) (xA (aD SS.P 222 []) λR=>xU (aj SS.P 222 (.pointer (some p)) (.agg ⟨R⟩) a) a λu0 B=>dq SS [((.pointer (some p)),some 222),((.bool false),none)] B Q) (wpS SS aq.nm aq.ms [1,1,1,1,1] cc [x0,x1,(.pointer (some p)),x3,x4,(.bool neg),(strOf n),(strOf d),(.bool r),x9,Z,x5,v,X,G,y1,y6,W,y0,x7,w,q,m,F,(strOf n),(.bool c),(.bool (!c)),(.bool false),(strOf d),(.bool b),(.bool (!b)),(.bool (!b)),(.bool false),(strOf n),(.int .i64 ((n:LB).length:Int)),(.bool (decide ((((n:LB).length:Int):Int)>400))),(.bool (decide ((((n:LB).length:Int):Int)>400))),(.bool false),(strOf d),(.int .i64 ((d:LB).length:Int)),(.bool (decide ((((d:LB).length:Int):Int)>400))),(.bool (decide ((((d:LB).length:Int):Int)>400))),u,I,l,j,x6,y7,y3,N,y2,P,t,i,x2,f,x8,S,U,x,Y,s,E,J,A,o,y,C,O,z,D,K,y4,T,V,H,g] a (EE SS aq Q)))))
theorem Ca{neg:Bool}{x3 x4 x9 y1 y3 x x6 L y8 z4 x5 y7 y5 y p m K N z7 y0 S G x8 W C z2 f l d B z5 z1 A o k u O j i y4 z6 z0 T y9 V r g y2 a y6 X Z z x7 q J P F n D H U E I R z3 Y x2 M c:Value}(hx:tf s t neg b e (jD [1,1,1,1,1] aq.body) v w x3 x4 x9 y1 y3 x x6 L y8 z4 x5 y7 y5 y p m K N z7 y0 S G x8 W C z2 f l d B z5 z1 A o k u O j i y4 z6 z0 T y9 V r g y2 a y6 X Z z x7 q J P F n D H U E I R z3 Y x2 M c h Q):TT SS aq [1,1,1,1] [v,w,(.pointer (some e)),x3,x4,(.bool neg),(strOf s),(strOf t),(.bool b),x9,y1,y3,x,x6,L,y8,z4,x5,y7,y5,y,p,m,K,N,z7,y0,S,G,x8,W,C,z2,f,l,d,B,z5,z1,A,o,k,u,O,j,i,y4,z6,z0,T,y9,V,r,g,y2,a,y6,X,Z,z,x7,q,J,P,F,n,D,H,U,E,I,R,z3,Y,x2,M,c] h (EE SS aq Q):=by
 have z8:∀cc,tf s t neg b e cc v w x3 x4 x9 y1 y3 x x6 L y8 z4 x5 y7 y5 y p m K N z7 y0 S G x8 W C z2 f l d B z5 z1 A o k u O j i y4 z6 z0 T y9 V r g y2 a y6 X Z z x7 q J P F n D H U E I R z3 Y x2 M c h Q=wpS SS aq.nm aq.ms [1,1,1,1] (setAt [1] cc (jD [1,1,1,1] aq.body)) [v,w,(.pointer (some e)),x3,x4,(.bool neg),(strOf s),(strOf t),(.bool b),x9,y1,y3,x,x6,L,y8,z4,x5,y7,y5,y,p,m,K,N,z7,y0,S,G,x8,W,C,z2,f,l,d,B,z5,z1,A,o,k,u,O,j,i,y4,z6,z0,T,y9,V,r,g,y2,a,y6,X,Z,z,x7,q,J,P,F,n,D,H,U,E,I,R,z3,Y,x2,M,c] h (EE SS aq Q):=λcc=>by kernel_rfl
 have z8:=z8 (jD [1,1,1,1,1] aq.body);have ec:(jD [1,1,1,1,1] aq.body)=jD [1] (jD [1,1,1,1] aq.body):=by kernel_rfl
 have es:setAt [1] (jD [1,1,1,1,1] aq.body) (jD [1,1,1,1] aq.body)=jD [1,1,1,1] aq.body:=by rw[ec,jf]
 rw[es]at z8;exact av hx z8
abbrev tg(n d:LB)(neg a:Bool)(p:Addr)(cc:Code)(x0 x1 x3 x4 x9 U V q P E Y x6 O X W r l i D G x8 T J z S L v x2 e g c u x7 Z t k f o z1 y8 y7 z7 u1 u0 z2 z9 z3 z0 y6 z6 y5 z8 z4 z5 s R m C H y j w A K x B I x5 M N F b:Value)(h:aa)(Q:VH):Prop:=aS neg (aS ((n:LB)==[48]) (xA (aD SS.P 222 []) λc1=>xU (aj SS.P 222 (.pointer (some p)) (.agg ⟨c1⟩) h) h λu2 g3=>dq SS [((.pointer (some p)),some 222),((.bool false),none)] g3 Q) (aS a (aS ((d:LB)==[48]) (xA (aD SS.P 222 []) λc4=>xU (aj SS.P 222 (.pointer (some p)) (.agg ⟨c4⟩) h) h λu5 g6=>dq SS [((.pointer (some p)),some 222),((.bool false),none)] g6 Q) (aS ((d:LB)==[49]) (xA (aD SS.P 222 []) λc7=>xU (aj SS.P 222 (.pointer (some p)) (.agg ⟨c7⟩) h) h λu8 g9=>dq SS [((.pointer (some p)),some 222),((.bool false),none)] g9 Q) (wpS SS aq.nm aq.ms [1,1,1,1,1,1] cc [x0,x1,(.pointer (some p)),x3,x4,(.bool neg),(strOf n),(strOf d),(.bool a),x9,U,V,q,P,E,Y,x6,O,X,W,r,l,i,D,G,x8,T,J,z,S,L,v,x2,e,g,c,u,x7,Z,t,k,f,o,(.bool neg),(.bool true),(strOf n),(.bool ((n:LB)==[48])),(.bool ((n:LB)==[48])),(.bool false),(.bool a),(.bool true),(strOf d),(.bool ((d:LB)==[48])),(.bool false),(strOf d),(.bool ((d:LB)==[49])),(.bool ((d:LB)==[49])),(.bool ((d:LB)==[49])),(.bool ((d:LB)==[49])),s,R,m,C,H,y,j,w,A,K,x,B,I,x5,M,N,F,b] h (EE SS aq Q)))) (wpS SS aq.nm aq.ms [1,1,1,1,1,1] cc [x0,x1,(.pointer (some p)),x3,x4,(.bool neg),(strOf n),(strOf d),(.bool a),x9,U,V,q,P,E,Y,x6,O,X,W,r,l,i,D,G,x8,T,J,z,S,L,v,x2,e,g,c,u,x7,Z,t,k,f,o,(.bool neg),(.bool true),(strOf n),(.bool ((n:LB)==[48])),(.bool ((n:LB)==[48])),(.bool false),(.bool a),(.bool false),undef,undef,undef,undef,undef,undef,(.bool false),(.bool false),s,R,m,C,H,y,j,w,A,K,x,B,I,x5,M,N,F,b] h (EE SS aq Q)))) (aS a (aS ((d:LB)==[48]) (xA (aD SS.P 222 []) λy3=>xU (aj SS.P 222 (.pointer (some p)) (.agg ⟨y3⟩) h) h λy9 y0=>dq SS [((.pointer (some p)),some 222),((.bool false),none)] y0 Q) (aS ((d:LB)==[49]) (xA (aD SS.P 222 []) λy2=>xU (aj SS.P 222 (.pointer (some p)) (.agg ⟨y2⟩) h) h λy4 y1=>dq SS [((.pointer (some p)),some 222),((.bool false),none)] y1 Q) (wpS SS aq.nm aq.ms [1,1,1,1,1,1] cc [x0,x1,(.pointer (some p)),x3,x4,(.bool neg),(strOf n),(strOf d),(.bool a),x9,U,V,q,P,E,Y,x6,O,X,W,r,l,i,D,G,x8,T,J,z,S,L,v,x2,e,g,c,u,x7,Z,t,k,f,o,(.bool neg),(.bool false),undef,undef,(.bool false),(.bool false),(.bool a),(.bool true),(strOf d),(.bool ((d:LB)==[48])),(.bool false),(strOf d),(.bool ((d:LB)==[49])),(.bool ((d:LB)==[49])),(.bool ((d:LB)==[49])),(.bool ((d:LB)==[49])),s,R,m,C,H,y,j,w,A,K,x,B,I,x5,M,N,F,b] h (EE SS aq Q)))) (wpS SS aq.nm aq.ms [1,1,1,1,1,1] cc [x0,x1,(.pointer (some p)),x3,x4,(.bool neg),(strOf n),(strOf d),(.bool a),x9,U,V,q,P,E,Y,x6,O,X,W,r,l,i,D,G,x8,T,J,z,S,L,v,x2,e,g,c,u,x7,Z,t,k,f,o,(.bool neg),(.bool false),undef,undef,(.bool false),(.bool false),(.bool a),(.bool false),undef,undef,undef,undef,undef,undef,(.bool false),(.bool false),s,R,m,C,H,y,j,w,A,K,x,B,I,x5,M,N,F,b] h (EE SS aq Q)))
theorem Cb{neg:Bool}{x3 x4 x9 y1 y3 x x6 L y8 z4 x5 y7 y5 y p m K N z7 y0 S G x8 W C z2 f l d B z5 z1 A o k u O j i y4 z6 z0 T y9 V r g y2 a y6 X Z z x7 q J P F n D H U E I R z3 Y x2 M c:Value}(hx:tg s t neg b e (jD [1,1,1,1,1,1] aq.body) v w x3 x4 x9 y1 y3 x x6 L y8 z4 x5 y7 y5 y p m K N z7 y0 S G x8 W C z2 f l d B z5 z1 A o k u O j i y4 z6 z0 T y9 V r g y2 a y6 X Z z x7 q J P F n D H U E I R z3 Y x2 M c h Q):TT SS aq [1,1,1,1,1] [v,w,(.pointer (some e)),x3,x4,(.bool neg),(strOf s),(strOf t),(.bool b),x9,y1,y3,x,x6,L,y8,z4,x5,y7,y5,y,p,m,K,N,z7,y0,S,G,x8,W,C,z2,f,l,d,B,z5,z1,A,o,k,u,O,j,i,y4,z6,z0,T,y9,V,r,g,y2,a,y6,X,Z,z,x7,q,J,P,F,n,D,H,U,E,I,R,z3,Y,x2,M,c] h (EE SS aq Q):=by
 have z8:∀cc,tg s t neg b e cc v w x3 x4 x9 y1 y3 x x6 L y8 z4 x5 y7 y5 y p m K N z7 y0 S G x8 W C z2 f l d B z5 z1 A o k u O j i y4 z6 z0 T y9 V r g y2 a y6 X Z z x7 q J P F n D H U E I R z3 Y x2 M c h Q=wpS SS aq.nm aq.ms [1,1,1,1,1] (setAt [1] cc (jD [1,1,1,1,1] aq.body)) [v,w,(.pointer (some e)),x3,x4,(.bool neg),(strOf s),(strOf t),(.bool b),x9,y1,y3,x,x6,L,y8,z4,x5,y7,y5,y,p,m,K,N,z7,y0,S,G,x8,W,C,z2,f,l,d,B,z5,z1,A,o,k,u,O,j,i,y4,z6,z0,T,y9,V,r,g,y2,a,y6,X,Z,z,x7,q,J,P,F,n,D,H,U,E,I,R,z3,Y,x2,M,c] h (EE SS aq Q):=λcc=>by kernel_rfl
 have z8:=z8 (jD [1,1,1,1,1,1] aq.body);have ec:(jD [1,1,1,1,1,1] aq.body)=jD [1] (jD [1,1,1,1,1] aq.body):=by kernel_rfl
 have es:setAt [1] (jD [1,1,1,1,1,1] aq.body) (jD [1,1,1,1,1] aq.body)=jD [1,1,1,1,1] aq.body:=by rw[ec,jf]
 rw[es]at z8;exact av hx z8
abbrev th(n d:LB)(neg t:Bool)(p:Addr)(cc:Code)(x0 x1 x3 x4 x9 z9 W w S E x6 y3 R x5 Z x s q D G y6 U I C T L B y1 i o g A y4 y0 z r m v H l k Y y5 x8 J x7 K u j V e x2 M O y z8 y8 z4 z5 z1 y7 y9 z2 z7 z0 z3 z6 y2 N P F f:Value)(h:aa)(Q:VH):Prop:=FW SS 204 [(strOf n),(strOf d)] h λv1 c=>∃a:LB,∃b:Int,v1=(.tuple ⟨[(strOf a),(.int .i64 b)]⟩)/\aS (((b:Int) !=0)) (xA (aD SS.P 222 []) λc5=>xU (aj SS.P 222 (.pointer (some p)) (.agg ⟨c5⟩) c) c λu6 g7=>dq SS [((.pointer (some p)),some 222),((.bool false),none)] g7 Q) (aS (!((a:LB)==[49])) (xA (aD SS.P 222 []) λc8=>xU (aj SS.P 222 (.pointer (some p)) (.agg ⟨c8⟩) c) c λu9 X=>dq SS [((.pointer (some p)),some 222),((.bool false),none)] X Q) (wpS SS aq.nm aq.ms [1,1,1,1,1,1,1] cc [x0,x1,(.pointer (some p)),x3,x4,(.bool neg),(strOf n),(strOf d),(.bool t),(strOf a),(.int .i64 b),W,w,S,E,x6,y3,R,x5,Z,x,s,q,D,G,y6,U,I,C,T,L,B,y1,i,o,g,A,y4,y0,z,r,m,v,H,l,k,Y,y5,x8,J,x7,K,u,j,V,e,x2,M,O,y,(.tuple ⟨[(strOf a),(.int .i64 b)]⟩),(strOf n),(strOf d),(.tuple ⟨[(strOf a),(.int .i64 b)]⟩),(strOf a),(.int .i64 b),(.int .i64 b),(.bool (((b:Int) !=0))),(.bool false),(strOf a),(.bool (!((a:LB)==[49]))),(.bool (!((a:LB)==[49]))),y2,N,P,F,f] c (EE SS aq Q)))
theorem Cc{neg:Bool}{x3 x4 x9 y1 y3 x x6 L y8 z4 x5 y7 y5 y p m K N z7 y0 S G x8 W C z2 f l d B z5 z1 A o k u O j i y4 z6 z0 T y9 V r g y2 a y6 X Z z x7 q J P F n D H U E I R z3 Y x2 M c:Value}(hx:th s t neg b e (jD [1,1,1,1,1,1,1] aq.body) v w x3 x4 x9 y1 y3 x x6 L y8 z4 x5 y7 y5 y p m K N z7 y0 S G x8 W C z2 f l d B z5 z1 A o k u O j i y4 z6 z0 T y9 V r g y2 a y6 X Z z x7 q J P F n D H U E I R z3 Y x2 M c h Q):TT SS aq [1,1,1,1,1,1] [v,w,(.pointer (some e)),x3,x4,(.bool neg),(strOf s),(strOf t),(.bool b),x9,y1,y3,x,x6,L,y8,z4,x5,y7,y5,y,p,m,K,N,z7,y0,S,G,x8,W,C,z2,f,l,d,B,z5,z1,A,o,k,u,O,j,i,y4,z6,z0,T,y9,V,r,g,y2,a,y6,X,Z,z,x7,q,J,P,F,n,D,H,U,E,I,R,z3,Y,x2,M,c] h (EE SS aq Q):=by
 have z8:∀cc,th s t neg b e cc v w x3 x4 x9 y1 y3 x x6 L y8 z4 x5 y7 y5 y p m K N z7 y0 S G x8 W C z2 f l d B z5 z1 A o k u O j i y4 z6 z0 T y9 V r g y2 a y6 X Z z x7 q J P F n D H U E I R z3 Y x2 M c h Q=wpS SS aq.nm aq.ms [1,1,1,1,1,1] (setAt [1] cc (jD [1,1,1,1,1,1] aq.body)) [v,w,(.pointer (some e)),x3,x4,(.bool neg),(strOf s),(strOf t),(.bool b),x9,y1,y3,x,x6,L,y8,z4,x5,y7,y5,y,p,m,K,N,z7,y0,S,G,x8,W,C,z2,f,l,d,B,z5,z1,A,o,k,u,O,j,i,y4,z6,z0,T,y9,V,r,g,y2,a,y6,X,Z,z,x7,q,J,P,F,n,D,H,U,E,I,R,z3,Y,x2,M,c] h (EE SS aq Q):=λcc=>by kernel_rfl
 have z8:=z8 (jD [1,1,1,1,1,1,1] aq.body);have ec:(jD [1,1,1,1,1,1,1] aq.body)=jD [1] (jD [1,1,1,1,1,1] aq.body):=by kernel_rfl
 have es:setAt [1] (jD [1,1,1,1,1,1,1] aq.body) (jD [1,1,1,1,1,1] aq.body)=jD [1,1,1,1,1,1] aq.body:=by rw[ec,jf]
 rw[es]at z8;exact av hx z8
theorem Cd{neg:Bool}{x3 x4 x9 y1 y3 x x6 L y8 z4 x5 y7 y5 y p m K N z7 y0 S G x8 W C z2 f l d B z5 z1 A o k u O j i y4 z6 z0 T y9 V r g y2 a y6 X Z z x7 q J P F n D H U E I R z3 Y x2 M c:Value}(hx:xA (aD SS.P 222 [(0,(.bool neg)),(1,(strOf s)),(2,(strOf t))]) λc1=>xU (aj SS.P 222 (.pointer (some e)) (.agg ⟨c1⟩) h) h λu2 g3=>dq SS [((.pointer (some e)),some 222),((.bool true),none)] g3 Q):TT SS aq [1,1,1,1,1,1,1] [v,w,(.pointer (some e)),x3,x4,(.bool neg),(strOf s),(strOf t),(.bool b),x9,y1,y3,x,x6,L,y8,z4,x5,y7,y5,y,p,m,K,N,z7,y0,S,G,x8,W,C,z2,f,l,d,B,z5,z1,A,o,k,u,O,j,i,y4,z6,z0,T,y9,V,r,g,y2,a,y6,X,Z,z,x7,q,J,P,F,n,D,H,U,E,I,R,z3,Y,x2,M,c] h (EE SS aq Q):=av hx
noncomputable def Mq:FD:=dY Tryz.f155 []
theorem JC(l:LB)(h:aa)(Q:VH)(c:FW SS 169 [(strOf l)] h λe d=>∃b:LV,∃a:Bool,e=(.tuple ⟨[(.agg ⟨b⟩),(.bool a)]⟩)/\Q (.bool a) d):FW SS 155 [(strOf l)] h Q:=eh Mq Tryz.func155 (av c)
noncomputable def QR:FD:=dY Tryz.f170 []
theorem Mo(p:Bool)(l:LB)(q:Bool)(m:LB)(h:aa)(Q:VH)(z:aS (p==q) (FW SS 205 [(strOf l),(strOf m)] h λD A=>∃s:LB,∃v:Int,D=(.tuple ⟨[(strOf s),(.int .i64 v)]⟩)/\FW SS 171 [(strOf s),(.int .i64 v)] A λB C=>yS B λx=>Q (.tuple ⟨[(.bool p),(strOf x)]⟩) C) (FW SS 206 [(strOf l),(strOf m)] h λy t=>yI .i64 y λj=>aS (decide ((j:Int)<0)) (FW SS 207 [(strOf m),(strOf l)] t λg o=>∃c:LB,∃b:Int,g=(.tuple ⟨[(strOf c),(.int .i64 b)]⟩)/\FW SS 171 [(strOf c),(.int .i64 b)] o λe k=>yS e λn=>Q (.tuple ⟨[(.bool q),(strOf n)]⟩) k) (FW SS 207 [(strOf l),(strOf m)] t λf u=>∃a:LB,∃d:Int,f=(.tuple ⟨[(strOf a),(.int .i64 d)]⟩)/\FW SS 171 [(strOf a),(.int .i64 d)] u λw r=>yS w λi=>Q (.tuple ⟨[(.bool p),(strOf i)]⟩) r))):FW SS 170 [(.bool p),(strOf l),(.bool q),(strOf m)] h Q:=eh QR Tryz.func170 (av z)
noncomputable def UP:FD:=dY Tryz.f131 []
theorem QO(l m:LB)(h:aa)(Q:VH)(S:FW SS 169 [(strOf l)] h λU p=>∃y:LV,∃H:Bool,U=(.tuple ⟨[(.agg ⟨y⟩),(.bool H)]⟩)/\xN (aA SS.P 222) p λY K=>xU (aj SS.P 222 (pA (p.next)) (.agg ⟨y⟩) K) K λX R=>FW SS 169 [(strOf m)] R λT k=>∃n:LV,∃C:Bool,T=(.tuple ⟨[(.agg ⟨n⟩),(.bool C)]⟩)/\xN (aA SS.P 222) k λV v=>xU (aj SS.P 222 (pA (k.next)) (.agg ⟨n⟩) v) v λW c=>aS (!H) (Q (.int .i64 0) c) (aS (!C) (Q (.int .i64 0) c) (xP (af SS.P 222 (pA (p.next)) 0) λi=>xB (ae SS.P 4 (room c 27) (.pointer (some i))) λb=>xP (af SS.P 222 (pA (p.next)) 1) λG=>xS (ae SS.P 9 (room c 27) (.pointer (some G))) λE=>xP (af SS.P 222 (pA (k.next)) 2) λF=>xS (ae SS.P 9 (room c 27) (.pointer (some F))) λM=>FW SS 172 [(strOf E),(strOf M)] (room c 27) λJ g=>∃z:LB,∃B:Int,J=(.tuple ⟨[(strOf z),(.int .i64 B)]⟩)/\FW SS 171 [(strOf z),(.int .i64 B)] g λN j=>yS N λL=>xP (af SS.P 222 (pA (k.next)) 0) λf=>xB (ae SS.P 4 j (.pointer (some f))) λa=>xP (af SS.P 222 (pA (k.next)) 1) λr=>xS (ae SS.P 9 j (.pointer (some r))) λe=>xP (af SS.P 222 (pA (p.next)) 2) λs=>xS (ae SS.P 9 j (.pointer (some s))) λd=>FW SS 172 [(strOf e),(strOf d)] j λD t=>∃u:LB,∃A:Int,D=(.tuple ⟨[(strOf u),(.int .i64 A)]⟩)/\FW SS 171 [(strOf u),(.int .i64 A)] t λO q=>yS O λI=>FW SS 170 [(.bool b),(strOf L),(.bool (!a)),(strOf I)] q λP o=>∃x:Bool,∃w:LB,P=(.tuple ⟨[(.bool x),(strOf w)]⟩)/\(ae SS.P 4 g (.pointer (some i))=some (.bool b)/\df 4 (.bool b) (.bool b)=true)/\(ae SS.P 4 j (.pointer (some i))=some (.bool b)/\df 4 (.bool b) (.bool b)=true)/\(ae SS.P 4 t (.pointer (some i))=some (.bool b)/\df 4 (.bool b) (.bool b)=true)/\(ae SS.P 4 q (.pointer (some i))=some (.bool b)/\df 4 (.bool b) (.bool b)=true)/\(ae SS.P 4 (room c 27) (.pointer (some f))=some (.bool a)/\df 4 (.bool a) (.bool a)=true)/\(ae SS.P 4 g (.pointer (some f))=some (.bool a)/\df 4 (.bool a) (.bool a)=true)/\(ae SS.P 4 t (.pointer (some f))=some (.bool a)/\df 4 (.bool a) (.bool a)=true)/\(ae SS.P 4 q (.pointer (some f))=some (.bool a)/\df 4 (.bool a) (.bool a)=true)/\(ae SS.P 9 (room c 27) (.pointer (some r))=some (strOf e)/\df 4 (strOf e) (strOf e)=true)/\(ae SS.P 9 g (.pointer (some r))=some (strOf e)/\df 4 (strOf e) (strOf e)=true)/\(ae SS.P 9 (room c 27) (.pointer (some s))=some (strOf d)/\df 4 (strOf d) (strOf d)=true)/\(ae SS.P 9 g (.pointer (some s))=some (strOf d)/\df 4 (strOf d) (strOf d)=true)/\aS ((w:LB)==[48]) (Q (.int .i64 0) o) (aS x (Q (.int .i64 (-1)) o) (Q (.int .i64 1) o))))):FW SS 131 [(strOf l),(strOf m)] h Q:=eh UP Tryz.func131 (av S)
noncomputable def Tt:FD:=dY Tryz.f258 []
theorem PJ(l m:LB)(h:aa)(Q:VH)(a:aS (decide ((((l:LB).length:Int):Int)>=((m:LB).length:Int))) (xS (bE SS.P 9 (strOf l) none (some (.int .i64 ((m:LB).length:Int))) none h) λb=>Q (.bool ((b:LB)==m)) h) (Q (.bool false) h)):FW SS 258 [(strOf l),(strOf m)] h Q:=eh Tt Tryz.func258 (av a)
noncomputable def eW:FD:=dY Tryz.f203 [([1,1,0,1,0,0],[0,22,23])]
abbrev jS(l:LB)(i:Int):LV:=[(strOf l),(.int .i64 (l.length:Int)),(.int .i64 i)]
theorem yU(l:LB)(h:aa)(Q:VH)(b:aS ((l:LB)==[]) (Q (.bool false) h) (aS (decide ((((l:LB).length:Int):Int)>1000)) (Q (.bool false) h) (aS (decide ((((l:LB).length:Int):Int)>1)) (xI .u8 (bH SS.P 9 (strOf l) (.int .i64 0)) λa=>aS (((a:Int)==48)) (Q (.bool false) h) (LL SS eW [1,1,0,1,0,0] [(strOf l),(.int .i64 ((l:LB).length:Int)),(.int .i64 0)] h (KK SS eW [1,1,0,1,0] [] (EE SS eW Q)))) (LL SS eW [1,1,0,1,0,0] [(strOf l),(.int .i64 ((l:LB).length:Int)),(.int .i64 0)] h (KK SS eW [1,1,0,1,0] [] (EE SS eW Q)))))):FW SS 203 [(strOf l)] h Q:=eh eW Tryz.func203 (av b)
theorem sE(l:LB)  (b:Nat->Int->aa->Prop) (Q:VH) (step:∀(a:Nat)(i:Int)(d:Nat->Value)(h:aa),b a i h->aS (decide ((i:Int)<(l.length:Int))) (xI .u8 (bH SS.P 9 (strOf l) (.int .i64 i)) λf=>aS (decide ((f:Int)<48)) (Q (.bool false) h) (xI .u8 (bH SS.P 9 (strOf l) (.int .i64 i)) λe=>aS (decide ((e:Int)>57)) (Q (.bool false) h) (aH (fD (jS l) b) a [(strOf l),(.int .i64 (l.length:Int)),(.int .i64 (wrap .i64 (i+1)))] h))) (Q (.bool true) h)) (a:Nat) {i:Int} {h:aa} (c:b a i h):LL SS eW [1,1,0,1,0,0] (jS l i) h (KK SS eW [1,1,0,1,0] [] (EE SS eW Q)):=
 dN (jS l) b (λa i d h c=>av (step a i d h c)) a c
variable{i:Nat}
theorem adY:SS.P.underlying 9=some .string:=by kernel_rfl
theorem Yk(l:List UInt8){h:aa}{i:Int}(b:0<=i)(a:i<l.length):bH SS.P 9 (strOf l) (.int .i64 i)=some (.int .u8 ((l.getD i.toNat 0).toNat:Nat)):=rS adY l _ b a
theorem abe{c:UInt8}(a:¬(c.toNat:Int)<48)(b:¬(c.toNat:Int)>57):cp c=true:=by
 unfold cp;simp;omega
theorem Ui{c:UInt8}(h:(c.toNat:Int)<48\/(c.toNat:Int)>57):cp c=false:=by
 unfold cp;simp;omega
theorem C5{l:List UInt8}(b:i<l.length)(c:(l.take i).all cp=true)(a:cp (l.getD i 0)=true):(l.take (i+1)).all cp=true:=by
 rw[List.take_succ_eq_append_getElem b,all_append,c];rw[gD,gE b]at a;simpa using a
theorem DQ{l:List UInt8}(b:i<l.length)(a:cp (l.getD i 0)=false):l.all cp=false:=by
 rw[gD,gE b]at a;exact List.all_eq_false.2 ⟨l[i],getElem_mem b,by simpa using a⟩
theorem Nd{l:List UInt8}(h:1000<l.length):aM l=false:=by
 unfold aM;rw[decide_eq_false (by omega:¬l.length<=1000)];simp
theorem Nf{l:List UInt8}(h:1<l.length)(b:l.getD 0 0=48):aM l=false:=by
 unfold aM
 cases l with
 |nil=>rfl
 |cons a l=>
  have b:a=48:=b;subst b;rw[decide_eq_true h];simp
theorem E4{l:List UInt8}(e:l≠[])(c:l.length<=1000)(d:1<l.length->l.getD 0 0≠48):aM l=l.all cp:=by
 unfold aM
 cases l with
 |nil=>exact absurd rfl e
 |cons a l=>
  rw[decide_eq_true c];by_cases h:1<(a::l).length
  ·have b:a≠48:=d h;rw[decide_eq_true h];simp[b]
  ·rw[decide_eq_false h];simp
theorem aaz{c:UInt8}:((c.toNat:Int)==48)=true↔c=48:=by
 rw[beq_iff_eq];refine⟨λh=>UInt8.toNat_inj.1 ?_,λh=>by rw[h];rfl⟩;have a:(48:UInt8).toNat=48:=rfl;omega
theorem dk(l:List UInt8)(h:aa):FW SS 203 [strOf l] h (λv o=>v = .bool (aM l)/\o=h):=by
 by_cases j:l.length<=1000
 case neg=>
  refine yU l h _ (ah (λa=>?_) (λa=>ah (λd=>?_) (λd=>?_)))
  ·obtain rfl:l=[]:=by simpa using a
   exact⟨rfl,rfl⟩
  ·exact⟨by rw[Nd (by omega)],rfl⟩
  ·have:=dF d;omega
 have L:=λ(n:aM l=l.all cp)=>sE l (λm i g=>0<=i/\i<=l.length/\m=l.length-i.toNat/\(l.take i.toNat).all cp=true/\g=h) (λv o=>v = .bool (aM l)/\o=h) (by
  intro m i;intros;rename_i g t;obtain⟨a,d,k,b,rfl⟩:=t;refine ah (λc=>?_) (λc=>?_)
  ·have c:=dT c;have f:i.toNat<l.length:=by omega
   refine⟨_,Yk (h:=g) l a c,ah (λq=>?_) (λq=>⟨_,Yk (h:=g) l a c,ah (λp=>?_) (λp=>?_)⟩)⟩
   ·exact⟨by rw[n,DQ f (Ui (.inl (dT q)))],rfl⟩
   ·exact⟨by rw[n,DQ f (Ui (.inr (dT p)))],rfl⟩
   ·have s:wrap .i64 (i+1)=i+1:=aO (by omega) (by omega);refine cG (m-1) (by omega) ?_;rw[s];refine⟨by omega,by omega,by omega,?_,rfl⟩;rw[show(i+1).toNat=i.toNat+1 by omega];exact C5 f b (abe (dF q) (dF p))
  ·have c:=dF c;refine⟨?_,rfl⟩;rw[n,<-b,take_of_length_le (by omega)])
 refine yU l h _ (ah (λa=>?_) (λa=>ah (λd=>?_) (λd=>?_)))
 ·obtain rfl:l=[]:=by simpa using a
  exact⟨rfl,rfl⟩
 ·have:=dT d;omega
 ·have a:l≠[]:=by simpa using a
  have r:=length_pos_iff.2 a;refine ah (λk=>⟨_,Yk (h:=h) l (by omega) (by omega),ah (λb=>?_) (λb=>?_)⟩) (λk=>?_)
  ·exact⟨by rw[Nf (by have:=dT k;omega) (aaz.1 b)],rfl⟩
  ·exact L (E4 a j λ_ e=>by have b:(((l.getD 0 0).toNat:Int)==48)=false:=b;rw[aaz.2 e]at b;cases b) l.length ⟨by omega,by omega,by simp,by simp,rfl⟩
  ·exact L (E4 a j λe=>by have:=dF k;omega) l.length ⟨by omega,by omega,by simp,by simp,rfl⟩
theorem abx{a b:Nat}(h:((a:Int) !=b)=true):a≠b:=by
 intro e;subst e;simp at h
theorem abf{a b:Nat}(h:((a:Int) !=b)=false):a=b:=by
 by_cases e:a=b
 ·exact e
 ·exfalso;have:(a:Int)≠b:=by omega
  simp[this]at h
def iv(d:Nat):Value:= .int .i64 (d:Int)
theorem cO:SS.P.underlying 27=some (.slice 3):=by kernel_rfl
theorem wM:au SS.P 3=some 1:=by kernel_rfl
theorem lC:SS.P.underlying 3=some (.int .i64):=by kernel_rfl
theorem lB:Go.Ab.isAgg SS.P 3=false:=by kernel_rfl
noncomputable def re3:TypeInfo:=(dC SS.P 3).getD default
theorem rk:dC SS.P 3=some re3:=by kernel_rfl
theorem lj:re3.size=1:=by kernel_rfl
theorem jd:re3.bytes=8:=by kernel_rfl
theorem tG(z:Int):az SS.P 27 1 [(0,.int .i64 z)]=some (.cells [.int .i64 z] 3 1 true,jE 1 1):=by kernel_rfl
theorem Ox:SS.P.underlying 183=some (.slice 5):=by kernel_rfl
theorem zz5:au SS.P 5=some 1:=by kernel_rfl
theorem R9{l:List UInt8}(a:l.all cp=true){i:Nat}(h:i<l.length):cp (l.getD i 0)=true:=by
 rw[gD,gE h];exact all_eq_true.1 a _ (getElem_mem h)
def jK(h:aa)(e:TypeId)(d:List Value):VH:=λv b=>∃a n c,v = .slice a n c/\fi h b e (.slice a n c) d/\Ok h b
variable{k:Nat}
theorem abk{l:List UInt8}(h:k<l.length):l[k]?=some (l.getD k 0):=by
 rw[gD,gE h];rfl
def E1(a:List UInt8)(e:Int):Value:= .tuple ⟨[strOf a,.int .i64 e]⟩
def Ls(a b:List UInt8):Value:=if aM a=true/\aM b=true then E1 (aC (Nat.gcd (Num.val a) (Num.val b))) 0 else E1 [] 1
noncomputable def jR:FD:=dY Tryz.f210 [([1,0,0,0],[0])]
abbrev lH  (r:OA) (m d:Nat):LV:=[(.slice r m d)]
theorem BI(a:OA)(n c:Nat)(h:aa)(Q:VH)(b:LL SS jR [1,0,0,0] [(.slice a n c)] h (KK SS jR [1,0,0] [] (EE SS jR Q))):FW SS 210 [(.slice a n c)] h Q:=eh jR Tryz.func210 (av b)
theorem mI(a:OA)(n c:Nat)  (e:Nat->OA->Nat->Nat->aa->Prop) (Q:VH) (step:∀(b:Nat)(r:OA)(m d:Nat)(g:Nat->Value)(h:aa),e b r m d h->aS (decide (((m:Int):Int)>0)) (xP (ai SS.P 260 (.slice r m d) (.int .i64 (wrap .i64 ((m:Int)-1)))) λk=>xI .u64 (ae SS.P 240 h (.pointer (some k))) λi=>aS (((i:Int)==0)) (xL (bE SS.P 260 (.slice r m d) none (some (.int .i64 (wrap .i64 ((m:Int)-1)))) none h) λj l o=>aH (LA3 lH e) b [(.slice j l o)] h) (Q (.slice r m d) h)) (Q (.slice r m d) h)) (b:Nat) {r:OA} {m d:Nat} {h:aa} (f:e b r m d h):LL SS jR [1,0,0,0] (lH  r m d) h (KK SS jR [1,0,0] [] (EE SS jR Q)):=
 Va lH e (λb r m d g h f=>av (step b r m d g h f)) b f
noncomputable def cd:FD:=dY Tryz.f208 [([1,1,0,0,0],[0,3]),([1,1,0,0,0,1,0,1,1,0,1,0,0],[0,3,4,5,6])]
abbrev eR  (s:LB) (r:OA) (a b:Nat):LV:=[(strOf s),(.slice r a b)]
abbrev gI(s:LB)(r:OA)(b c:Nat)(a:Int)(i v:Int):LV:=[(strOf s),(.slice r b c),(.int .i64 a),(.int .u64 v),(.int .i64 i)]
theorem Gi(l:LB)(h:aa)(Q:VH)(a:LL SS cd [1,1,0,0,0] [(strOf l),nA] h (KK SS cd [1,1,0,0] [] (EE SS cd Q))):FW SS 208 [(strOf l)] h Q:=eh cd Tryz.func208 (av a)
theorem qQ(l:LB)  (d:Nat->LB->OA->Nat->Nat->aa->Prop) (Q:VH) (step:∀(c:Nat)(s:LB)(r:OA)(a b:Nat)(g:Nat->Value)(h:aa),d c s r a b h->aS (decide ((((s:LB).length:Int):Int)>0)) (xI .i64 (qq true [(.int .i64 0),(.int .i64 (wrap .i64 (((s:LB).length:Int)-9)))]) λf=>LL SS cd [1,1,0,0,0,1,0,1,1,0,1,0,0] (gI s r a b f f 0) h (KK SS cd [1,0,1,1,0,1,0] [1,1,0,0,0] (RR cd [1,1,0,0,0] (RF eR d) c (KK SS cd [1,1,0,0] [] (EE SS cd Q))))) (FW SS 210 [(.slice r a b)] h λj k=>yL j λm i n=>Q (.slice m i n) k)) (c:Nat) {s:LB} {r:OA} {a b:Nat} {h:aa} (e:d c s r a b h):LL SS cd [1,1,0,0,0] (eR  s r a b) h (KK SS cd [1,1,0,0] [] (EE SS cd Q)):=
 Vb eR d (λc s r a b g h e=>av (step c s r a b g h e)) c e
theorem qR(l:LB)(f:Nat->LB->OA->Nat->Nat->aa->Prop)(n:Nat)(s:LB)(r:OA)(d e:Nat)(c:Int)(b:Nat->Int->Int->aa->Prop)(Q:VH)(step:∀(a:Nat) (i v:Int) (q:Nat->Value) (h:aa),b a i v h->aS (decide ((i:Int)<((s:LB).length:Int))) (xI .u8 (bH SS.P 9 (strOf s) (.int .i64 i)) λx=>aH (qu (gI s r d e c) b) a [(strOf s),(.slice r d e),(.int .i64 c),(.int .u64 (wrap .u64 (wrap .u64 (10*v)+wrap .u64 (wrap .u8 (x-48))))),(.int .i64 (wrap .i64 (i+1)))] h) (xR (az SS.P 260 1 [(0,(.int .u64 v))]) h λz w u j=>xE (aJ SS.P 260 260 (.slice r d e) (sA (h.next) w u) j) j λm o t y g=>xS (bE SS.P 9 (strOf s) none (some (.int .i64 c)) none g) λp=>aH (RF eR f) n [(strOf p),(.slice m o t)] g))(a:Nat){i v:Int}{h:aa}(k:b a i v h):LL SS cd [1,1,0,0,0,1,0,1,1,0,1,0,0] (gI s r d e c i v) h (KK SS cd [1,0,1,1,0,1,0] [1,1,0,0,0] (RR cd [1,1,0,0,0] (RF eR f) n (KK SS cd [1,1,0,0] [] (EE SS cd Q)))):=
 oJ (gI s r d e c) b (λa i v q h k=>av (step a i v q h k)) a k
noncomputable def abv:FD:=dY Tryz.f289 []
theorem YN(x:Int)(h:aa)(Q:VH)(a:Q (.bool (((x:Int) !=x))) h):FW SS 289 [(.int .u64 x)] h Q:=eh abv Tryz.func289 (av a)
noncomputable def aa9:FD:=dY Tryz.f268 []
theorem Xz(x y:Int)(h:aa)(Q:VH)(e:FW SS 289 [(.int .u64 x)] h λg f=>yB g λd=>FW SS 289 [(.int .u64 y)] f λc a=>yB c λb=>aS d (aS b (Q (.int .i64 0) a) (Q (.int .i64 (-1)) a)) (aS b (Q (.int .i64 1) a) (aS (decide ((x:Int)<y)) (Q (.int .i64 (-1)) a) (aS (decide ((x:Int)>y)) (Q (.int .i64 1) a) (Q (.int .i64 0) a))))):FW SS 268 [(.int .u64 x),(.int .u64 y)] h Q:=eh aa9 Tryz.func268 (av e)
noncomputable def abu:FD:=dY Tryz.f175 []
theorem YM(x:Int)(h:aa)(Q:VH)(a:Q (.bool (((x:Int) !=x))) h):FW SS 175 [(.int .i64 x)] h Q:=eh abu Tryz.func175 (av a)
noncomputable def aa8:FD:=dY Tryz.f139 []
theorem Xv(x y:Int)(h:aa)(Q:VH)(e:FW SS 175 [(.int .i64 x)] h λg f=>yB g λd=>FW SS 175 [(.int .i64 y)] f λc a=>yB c λb=>aS d (aS b (Q (.int .i64 0) a) (Q (.int .i64 (-1)) a)) (aS b (Q (.int .i64 1) a) (aS (decide ((x:Int)<y)) (Q (.int .i64 (-1)) a) (aS (decide ((x:Int)>y)) (Q (.int .i64 1) a) (Q (.int .i64 0) a))))):FW SS 139 [(.int .i64 x),(.int .i64 y)] h Q:=eh aa8 Tryz.func139 (av e)
noncomputable def fN:FD:=dY Tryz.f241 [([1,1,0,1,0,0],[0,1,18,19])]
abbrev fO(a:OA)(n c:Nat)(b:OA)(m d:Nat)(i:Nat):LV:=[(.slice a n c),(.slice b m d),(iA n),(iA i)]
theorem Dl(a:OA)(n c:Nat)(b:OA)(m d:Nat)(h:aa)(Q:VH)(f:aS ((((n:Int):Int) !=(m:Int))) (FW SS 139 [(iA n),(iA m)] h λi g=>yI .i64 i λe=>Q (.int .i64 e) g) (LL SS fN [1,1,0,1,0,0] (fO a n c b m d 0) h (KK SS fN [1,1,0,1,0] [] (EE SS fN Q)))):FW SS 241 [(.slice a n c),(.slice b m d)] h Q:=eh fN Tryz.func241 (av f)
theorem qs(a:OA)(n c:Nat)(b:OA)(m d:Nat)  (f:Nat->Nat->aa->Prop) (Q:VH) (step:∀(e:Nat)(i:Nat)(k:Nat->Value)(h:aa),f e i h->aS (decide (((i:Int):Int)<(n:Int))) (xP (ai SS.P 260 (.slice a n c) (.int .i64 (wrap .i64 (wrap .i64 ((n:Int)-1)-(i:Int))))) λr=>xI .u64 (ae SS.P 240 (room h 18) (.pointer (some r))) λo=>xP (ai SS.P 260 (.slice b m d) (.int .i64 (wrap .i64 (wrap .i64 ((n:Int)-1)-(i:Int))))) λs=>xI .u64 (ae SS.P 240 (room h 18) (.pointer (some s))) λq=>FW SS 268 [(.int .u64 o),(.int .u64 q)] (room h 18) λp l=>yI .i64 p λg=>aS (((g:Int) !=0)) (Q (.int .i64 g) l) (aH (fD (fO a n c b m d) f) e [(.slice a n c),(.slice b m d),(iA n),(.int .i64 (wrap .i64 ((i:Int)+1)))] l)) (Q (.int .i64 0) h)) (e:Nat) {i:Nat} {h:aa} (j:f e i h):LL SS fN [1,1,0,1,0,0] (fO a n c b m d i) h (KK SS fN [1,1,0,1,0] [] (EE SS fN Q)):=
 dN (fO a n c b m d) f (λe i k h j=>av (step e i k h j)) e j
noncomputable def Q6:FD:=dY Tryz.f283 []
theorem My(x y z:Int)(p:OA)(h:aa)(Q:VH)(d:xI .u64 (ae SS.P 240 h (.pointer p)) λa=>xI .u64 (ax SS.P .rem 240 (.int .u64 (wrap .u64 (wrap .u64 (x*a)+z))) (.int .u64 1000000000)) λc=>xI .u64 (ax SS.P .quo 240 (.int .u64 (wrap .u64 (wrap .u64 (x*a)+z))) (.int .u64 1000000000)) λb=>Q (.tuple ⟨[(.int .u64 c),(.int .u64 b)]⟩) h):FW SS 283 [(.int .u64 x),(.int .u64 y),(.int .u64 z),(.pointer p)] h Q:=eh Q6 Tryz.func283 (av d)
noncomputable def fL:FD:=dY Tryz.f266 [([1,1,1,0,1,0,0],[0,1,2,7,8,18,19])]
abbrev dy(a:OA)(n c:Nat)(p:OA)(b:Int)(i:Nat)(cy:Int)(r:OA)(d e:Nat):LV:=[(.slice a n c),nA,(.func (.func 283) ⟨[]⟩ ⟨[(.pointer p)]⟩),(.slice r d e),(.int .u64 cy),(.int .i64 b),(iA i)]
theorem Da(a:OA)(n c:Nat)(p:OA)(h:aa)(Q:VH)(d:xI .i64 (qq true [(iA n),(.int .i64 0)]) λb=>LL SS fL [1,1,1,0,1,0,0] [(.slice a n c),nA,(.func (.func 283) ⟨[]⟩ ⟨[(.pointer p)]⟩),nA,(.int .u64 0),(.int .i64 (wrap .i64 (b+1))),(.int .i64 0)] h (KK SS fL [1,1,1,0,1,0] [] (EE SS fL Q))):FW SS 266 [(.slice a n c),nA,(.func (.func 283) ⟨[]⟩ ⟨[(.pointer p)]⟩)] h Q:=eh fL Tryz.func266 (av d)
theorem qp(a:OA)(n c:Nat)(p:OA)(b:Int)(d:Nat->Nat->Int->OA->Nat->Nat->aa->Prop)(Q:VH)(step:∀(g:Nat) (i:Nat) (cy:Int) (r:OA) (e f:Nat) (V:Nat->Value) (h:aa),d g i cy r e f h->aS (decide (((i:Int):Int)<b)) (aS (decide (((i:Int):Int)<(n:Int))) (xP (ai SS.P 260 (.slice a n c) (iA i)) λp2=>xI .u64 (ae SS.P 240 h (.pointer (some p2))) λC=>aS (decide (((i:Int):Int)<0)) (xP (ai SS.P 260 nA (iA i)) λp4=>xI .u64 (ae SS.P 240 h (.pointer (some p4))) λn5=>FW SS 283 [(.int .u64 C),(.int .u64 n5),(.int .u64 cy),(.pointer p)] h λv6 Y=>∃n8:Int,∃D:Int,v6=(.tuple ⟨[(.int .u64 n8),(.int .u64 D)]⟩)/\xR (az SS.P 260 1 [(0,(.int .u64 n8))]) Y λy5 P y0 k=>xE (aJ SS.P 260 260 (.slice r e f) (sA (Y.next) P y0) k) k λB L S y8 J=>aH (Kw (dy a n c p b) d) g [(.slice a n c),nA,(.func (.func 283) ⟨[]⟩ ⟨[(.pointer p)]⟩),(.slice B L S),(.int .u64 D),(.int .i64 b),(.int .i64 (wrap .i64 ((i:Int)+1)))] J) (FW SS 283 [(.int .u64 C),(.int .u64 0),(.int .u64 cy),(.pointer p)] h λx5 y=>∃o:Int,∃x:Int,x5=(.tuple ⟨[(.int .u64 o),(.int .u64 x)]⟩)/\xR (az SS.P 260 1 [(0,(.int .u64 o))]) y λz0 O E q=>xE (aJ SS.P 260 260 (.slice r e f) (sA (y.next) O E) q) q λy1 x2 x6 y9 Z=>aH (Kw (dy a n c p b) d) g [(.slice a n c),nA,(.func (.func 283) ⟨[]⟩ ⟨[(.pointer p)]⟩),(.slice y1 x2 x6),(.int .u64 x),(.int .i64 b),(.int .i64 (wrap .i64 ((i:Int)+1)))] Z)) (aS (decide (((i:Int):Int)<0)) (xP (ai SS.P 260 nA (iA i)) λx1=>xI .u64 (ae SS.P 240 h (.pointer (some x1))) λK=>FW SS 283 [(.int .u64 0),(.int .u64 K),(.int .u64 cy),(.pointer p)] h λx9 m=>∃j:Int,∃l:Int,x9=(.tuple ⟨[(.int .u64 j),(.int .u64 l)]⟩)/\xR (az SS.P 260 1 [(0,(.int .u64 j))]) m λy7 x7 F v=>xE (aJ SS.P 260 260 (.slice r e f) (sA (m.next) x7 F) v) v λT y2 R y3 I=>aH (Kw (dy a n c p b) d) g [(.slice a n c),nA,(.func (.func 283) ⟨[]⟩ ⟨[(.pointer p)]⟩),(.slice T y2 R),(.int .u64 l),(.int .i64 b),(.int .i64 (wrap .i64 ((i:Int)+1)))] I) (FW SS 283 [(.int .u64 0),(.int .u64 0),(.int .u64 cy),(.pointer p)] h λH w=>∃t:Int,∃u:Int,H=(.tuple ⟨[(.int .u64 t),(.int .u64 u)]⟩)/\xR (az SS.P 260 1 [(0,(.int .u64 t))]) w λy4 W x3 s=>xE (aJ SS.P 260 260 (.slice r e f) (sA (w.next) W x3) s) s λx4 x0 G y6 M=>aH (Kw (dy a n c p b) d) g [(.slice a n c),nA,(.func (.func 283) ⟨[]⟩ ⟨[(.pointer p)]⟩),(.slice x4 x0 G),(.int .u64 u),(.int .i64 b),(.int .i64 (wrap .i64 ((i:Int)+1)))] M))) (FW SS 210 [(.slice r e f)] h λx8 U=>yL x8 λA N X=>Q (.slice A N X) U))(g:Nat){i:Nat}{cy:Int}{r:OA}{e f:Nat}{h:aa}(z:d g i cy r e f h):LL SS fL [1,1,1,0,1,0,0] (dy a n c p b i cy r e f) h (KK SS fL [1,1,1,0,1,0] [] (EE SS fL Q)):=
 Vc (dy a n c p b) d (λg i cy r e f V h z=>av (step g i cy r e f V h z)) g z
noncomputable def Je:FD:=dY Tryz.f260 []
theorem Gn(a:OA)(n c:Nat)(k:Int)(h:aa)(Q:VH)(f:xN (dp SS.P 240 (.int .u64 k)) h λl d=>FW SS 266 [(.slice a n c),nA,(.func (.func 283) ⟨[]⟩ ⟨[(pA (h.next))]⟩)] d λb i=>yL b λj g e=>Q (.slice j g e) i):FW SS 260 [(.slice a n c),(.int .u64 k)] h Q:=eh Je Tryz.func260 (av f)
end Go.Proofs.YtnlccnpbjeiccaaGreatDoor
end
