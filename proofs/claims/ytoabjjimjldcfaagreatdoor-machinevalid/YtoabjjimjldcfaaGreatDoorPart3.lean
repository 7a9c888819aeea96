/- Laws and walks that the proof leans on (part 3): AbWp; AbOps; AbIdle; MTabBase; WBase; AbVc and others. No condition. -/
import Derived.Test.YtoabjjimjldcfaaGreatDoorPart2
import Derived.Attr
import Derived.Test.YtoabjjimjldcfaaGreatDoorProg
import Derived.Laws.Bits64
section
namespace Go.Ab
open Go
section
structure Sx where
 P:Program
 gl:Nat->Bool
 pr:FuncId->Option my
abbrev Fr:=Nat->Value
def upd (E:Fr)(d:Nat)(v:Value):Fr:=fun t=>if t=d then v else E t
@[go_sem] theorem Yb (E:Fr)(d t:Nat)(v:Value):upd E d v t=if t=d then v else E t:=rfl
def ll (E:Fr)(dst:Option Tmp)(v:Value):Fr:=match dst with
 | some d=>upd E d v
 | none=>E
@[go_sem] theorem V7 (E:Fr)(d:Tmp)(v:Value):ll E (some d) v=upd E d v:=rfl
@[go_sem] theorem VQ (E:Fr)(v:Value):ll E none v=E:=rfl
def bF (gl:Nat->Bool)(E:Fr):Operand->Value
 | .tmp t=>E t
 | .const v=>if plain v then v else junk
 | .global g=>if gl g then .pointer (some ⟨g,0,none⟩) else junk
 | .func f=> .func (.func f) #[] #[]
def ER (nm:Nat)(E:Fr)(tm:List Value):Prop:=tm.length=nm/\ ∀ t,tm.getD t undef=E t
def rg (nm:Nat):Option Tmp->Bool
 | none=>true
 | some d=>decide (d < nm)
theorem ER.ev {nm:Nat}{E:Fr}{tm:List Value}(gl:Nat->Bool)(h:ER nm E tm):ev gl tm=bF gl E:=by
 funext x
 cases x with
 | tmp t=>exact h.2 t
 | const v=>rfl
 | global g=>rfl
 | func f=>rfl
theorem ER.put {nm:Nat}{E:Fr}{tm:List Value}(h:ER nm E tm){dst:Option Tmp}(hd:rg nm dst=true)(v:Value):ER nm (ll E dst v) (dh tm dst v):=by
 cases dst with
 | none=>exact h
 | some d=>
  have hd:d < nm:=by simpa [rg] using hd
  refine ⟨by simp [dh,h.1],fun t=> ?_⟩
  simp only [dh,ll,upd,gD,List.getElem?_set]
  by_cases ht:t=d
  ·subst ht
   rw [if_pos rfl,if_pos rfl,if_pos (by rw [h.1]; exact hd)]
   rfl
  ·rw [if_neg ht,if_neg (fun e=>ht e.symm),<-gD]
   exact h.2 t
def FR (S:Sx)(f:FuncId)(args:List Value)(h:Heap)(v:Value)(h':Heap):Prop:= ∃ n0,∀ n,n0<=n->aM S.P S.gl S.pr n f args h=some (v,h')
def FW (S:Sx)(f:FuncId)(args:List Value)(h:Heap)(Q:Value->Heap->Prop):Prop:= ∃ v h',FR S f args h v h'/\Q v h'
theorem FW.mono {S:Sx}{f:FuncId}{args:List Value}{h:Heap}{Q R:Value->Heap->Prop}(hq:FW S f args h Q)(hr: ∀ v h',Q v h'->R v h'):FW S f args h R:=by
 obtain ⟨v,h',h1,h2⟩:=hq
 exact ⟨v,h',h1,hr v h' h2⟩
abbrev VH:=Value->Heap->Prop
abbrev FH:=Fr->Heap->Prop
abbrev yz:=Exit->Fr->Heap->Prop
def wK (ops:Array Oper)(E:Fr)(guard:Option (Nat×Bool)):Option Bool:=match guard with
 | none=>some true
 | some (j,want)=>match (ops[j]?).bind (·.dst) with
  | some d=>match E d with
   | .bool b=>some (b == want)
   | .tuple _=>some false
   | _=>none
  | none=>none
theorem kg {nm:Nat}{E:Fr}{tm:List Value}(h:ER nm E tm)(ops:Array Oper)(o:Oper):cm ops tm o=wK ops E o.guard:=by
 unfold cm wK
 cases o.guard with
 | none=>rfl
 | some g=>
  obtain ⟨j,want⟩:=g
  dsimp only
  cases (ops[j]?).bind (·.dst) with
  | none=>rfl
  | some d=>dsimp only; rw [h.2 d]; cases E d <;> rfl
def F6 (r:Option (Value×Upd))(h:Heap)(K:VH):Prop:=match r with
 | some (v,u)=>K v (u.app h)
 | none=>False
def nZ (r:Option Value)(h:Heap)(K:VH):Prop:=match r with
 | some v=>K v h
 | none=>False
@[go_sem] theorem WG (v:Value)(u:Upd)(h:Heap)(K:VH):F6 (some (v,u)) h K=K v (u.app h):=rfl
@[go_sem] theorem XH (h:Heap)(K:VH):F6 none h K=False:=rfl
@[go_sem] theorem WR (v:Value)(h:Heap)(K:VH):nZ (some v) h K=K v h:=rfl
@[go_sem] theorem WM (h:Heap)(K:VH):nZ none h K=False:=rfl
def lH (S:Sx)(f:Value)(args:List Value)(h:Heap)(K:VH):Prop:=match f with
 | .func (.func g) first captured=>g < YB/\FW S g (first.toList++args++captured.toList) h K
 | _=>False
def dC (S:Sx)(E:Fr)(o:Oper)(h:Heap)(K:VH):Prop:=match o.op with
 | .call { callee:= .value f,args,.. }=>lH S (bF S.gl E f) (args.toList.map (bF S.gl E)) h K
 | _=>F6 (aK S.P dj (bF S.gl E) o h) h K
def Rw (r:Option Bool)(A B:Unit->Prop):Prop:=match r with
 | some true=>A ()
 | some false=>B ()
 | none=>False
@[go_sem] theorem Xy (A B:Unit->Prop):Rw (some true) A B=A ():=rfl
@[go_sem] theorem V1 (A B:Unit->Prop):Rw (some false) A B=B ():=rfl
def Ln (S:Sx)(ops:Array Oper):List Oper->Fr->Heap->FH->Prop
 | [],E,h,R=>R E h
 | o::l,E,h,R=>Rw (wK ops E o.guard) (fun _=>dC S E o h fun v h=>Ln S ops l (ll E o.dst v) h R) (fun _=>Ln S ops l (ll E o.dst undef) h R)
def TV (S:Sx)(ops:Array Oper)(dst:Option Tmp)(l:List Oper)(E:Fr)(h:Heap)(R:FH)(_:Unit):Prop:=Ln S ops l (ll E dst undef) h R
def XS (S:Sx)(ops:Array Oper)(dst:Option Tmp)(l:List Oper)(E:Fr)(R:FH)(v:Value)(h:Heap):Prop:=Ln S ops l (ll E dst v) h R
def Xu (S:Sx)(ops:Array Oper)(o:Oper)(l:List Oper)(E:Fr)(h:Heap)(R:FH)(_:Unit):Prop:=dC S E o h (XS S ops o.dst l E R)
section
variable (S:Sx) (ops:Array Oper) (o:Oper) (l:List Oper) (dst:Option Tmp) (E:Fr) (h:Heap) (R:FH) (v:Value)
@[go_sem] theorem XU:Ln S ops [] E h R=R E h:=rfl
@[go_sem] theorem Q1:Ln S ops (o::l) E h R=Rw (wK ops E o.guard) (Xu S ops o l E h R) (TV S ops o.dst l E h R):=rfl
@[go_sem] theorem Wy (u:Unit):TV S ops dst l E h R u=Ln S ops l (ll E dst undef) h R:=rfl
@[go_sem] theorem X5:XS S ops dst l E R v h=Ln S ops l (ll E dst v) h R:=rfl
@[go_sem] theorem XP (u:Unit):Xu S ops o l E h R u=dC S E o h (XS S ops o.dst l E R):=rfl
@[go_sem] theorem UZ (ops:Array Oper)(E:Fr):wK ops E none=some true:=rfl
@[go_sem] theorem Kj (ops:Array Oper)(E:Fr)(j:Nat)(want:Bool):wK ops E (some (j,want))=match (ops[j]?).bind (·.dst) with
  | some d=>(match E d with | .bool b=>some (b == want) | .tuple _=>some false | _=>none)
  | none=>none:=rfl
end
noncomputable section
variable (S:Sx) (bf:Nat->Nat->Bool)
def DL (o:Oper)(E:Fr)(v:Value)(h:Heap):Bool:=match aH S.P (bF S.gl E) o h with
 | some v'=>cM 4 v v'
 | none=>false
def gV (j:Nat)(o:Oper)(E:Fr)(v:Value):Heap->List (Nat×Heap)->Bool->Bool
 | h,[],own=>own || DL S o E v h
 | h,(e,h')::r,own=>((own && Nat.blt j e) || bf j e || DL S o E v h) && (bf e j || gV j o E v h' r (Nat.blt e j))
abbrev BN:=Fr×Oper×Ent
def nw (h:Heap)(es:List (Nat×Heap)):List BN->Nat->Bool
 | [],_=>true
 | (E,o,.read v)::r,j=>gV S bf j o E v h es true && nw h es r (j+1)
 | _::r,j=>nw h es r (j+1)
def fe:List BN->Nat->List (Nat×Heap)
 | [],_=>[]
 | (_,_,.eff _ h)::r,j=>(j,h)::fe r (j+1)
 | _::r,j=>fe r (j+1)
def kK (h:Heap)(recs:List BN):Bool:=bS bf (fe recs 0) && nw S bf h (fe recs 0) recs 0
def xv (E:Fr)(o:Oper)(h:Heap)(K:VH):Prop:=match o.op with
 | .call { callee:= .value f,args,.. }=>lH S (bF S.gl E f) (args.toList.map (bF S.gl E)) h K
 | _=>F6 (bA S.P dj (bF S.gl E) o h) h K
def pL (ops:Array Oper)(base:Nat)(h0:Heap):List Oper->Nat->Fr->Heap->List (Nat×Blk)->List BN->FH->Prop
 | [],_,E,h,pd,recs,R=>kK S bf h0 recs.reverse=true/\R E (aC h base pd)
 | o::l,j,E,h,pd,recs,R=>Rw (wK ops E o.guard)
   (fun _=>match aD S.P (bF S.gl E) o with
    | some v=>pL ops base h0 l (j+1) (ll E o.dst v) h pd ((E,o,.pure v)::recs) R
    | none=>match aH S.P (bF S.gl E) o h with
     | some v=>pL ops base h0 l (j+1) (ll E o.dst v) h pd ((E,o,.read v)::recs) R
     | none=>match aG S.P (bF S.gl E) o with
      | some (B,f)=>pL ops base h0 l (j+1) (ll E o.dst (f (base+j))) h ((j,B)::pd) ((E,o,.alloc B (f (base+j)))::recs) R
      | none=>xv S E o (aC h base (pd.filter fun p=>bf j p.1)) fun v h'=>pL ops base h0 l (j+1) (ll E o.dst v) h' (pd.filter fun p=> !bf j p.1) ((E,o,.eff v h')::recs) R)
   (fun _=>pL ops base h0 l (j+1) (ll E o.dst undef) h pd ((E,o,.skip)::recs) R)
def Ug (ops:Array Oper)(E:Fr)(h:Heap)(R:FH):Prop:=
 pO ops=false/\pL S (ba (ck ops)) ops h.next { h with next:=h.next+ops.size } ops.toList 0 E { h with next:=h.next+ops.size } [] [] R
end
section
variable (S:Sx) (nm:Nat)
def TW (c:Code)(E:Fr)(h:Heap)(x:Exit)(E':Fr)(h':Heap):Prop:=
 ∃ n0,∀ n N,n0<=n->n0<=N-> ∀ tm,ER nm E tm-> ∃ tm',ER nm E' tm'/\az S.P S.gl (aM S.P S.gl S.pr n) N c tm h=some (x,tm',h')
def W3 (c:Code)(E:Fr)(h:Heap)(x:Exit)(E':Fr)(h':Heap):Prop:=
 ∃ n0,∀ n N j,n0<=n->n0<=N->n0<=j-> ∀ tm,ER nm E tm-> ∃ tm',ER nm E' tm'/\yj (az S.P S.gl (aM S.P S.gl S.pr n) N c) j tm h=some (x,tm',h')
def xr (c:Code)(E:Fr)(h:Heap)(Q:yz):Prop:= ∃ x E' h',W3 S nm c E h x E' h'/\Q x E' h'
def XG (v:Value)(A B:Unit->Prop):Prop:=match v with
 | .bool true=>A ()
 | .bool false=>B ()
 | _=>False
def yr:Code->Fr->Heap->yz->Prop
 | .skip,E,h,Q=>Q .normal E h
 | .region _ ops false,E,h,Q=>Ln S ops ops.toList E h fun E h=>Q .normal E h
 | .region _ ops true,E,h,Q=>Ug S ops E h fun E h=>Q .normal E h
 | .seq a b,E,h,Q=>yr a E h fun x E h=>match x with
  | .normal=>yr b E h Q
  | x=>Q x E h
 | .cond c a b,E,h,Q=>XG (bF S.gl E c) (fun _=>yr a E h Q) (fun _=>yr b E h Q)
 | .block id c,E,h,Q=>yr c E h fun x E h=>match x with
  | .exit id'=>if id'=id then Q .normal E h else Q (.exit id') E h
  | x=>Q x E h
 | .loop c,E,h,Q=>xr S nm c E h Q
 | .exit id,E,h,Q=>Q (.exit id) E h
 | .ret,E,h,Q=>Q .ret E h
 | .label _,E,h,Q=>Q .normal E h
 | _,_,_,_=>False
def Pc (Q:yz)(E:Fr)(h:Heap):Prop:=Q .normal E h
def KU (b:Code)(Q:yz)(x:Exit)(E:Fr)(h:Heap):Prop:=match x with
 | .normal=>yr S nm b E h Q
 | x=>Q x E h
def E3 (id:Nat)(Q:yz)(x:Exit)(E:Fr)(h:Heap):Prop:=match x with
 | .exit id'=>if id'=id then Q .normal E h else Q (.exit id') E h
 | x=>Q x E h
def Lf (c:Code)(Q:yz)(x:Exit)(E:Fr)(h:Heap):Prop:=match x with
 | .normal=>xr S nm c E h Q
 | x=>Q x E h
def YM (c:Code)(E:Fr)(h:Heap)(Q:yz)(_:Unit):Prop:=yr S nm c E h Q
variable (a b c:Code) (o:Operand) (id id':Nat) (ops:Array Oper) (E:Fr) (h:Heap) (Q:yz)
@[go_sem] theorem Xl:Pc Q E h=Q .normal E h:=rfl
@[go_sem] theorem YP (u:Unit):YM S nm c E h Q u=yr S nm c E h Q:=rfl
@[go_sem] theorem Wd:yr S nm .skip E h Q=Q .normal E h:=rfl
@[go_sem] theorem Ut:yr S nm (.region id ops false) E h Q=Ln S ops ops.toList E h (Pc Q):=rfl
@[go_sem] theorem W7:yr S nm (.region id ops true) E h Q=Ug S ops E h (Pc Q):=rfl
@[go_sem] theorem XR:yr S nm (.seq a b) E h Q=yr S nm a E h (KU S nm b Q):=rfl
@[go_sem] theorem Og:yr S nm (.cond o a b) E h Q=XG (bF S.gl E o) (YM S nm a E h Q) (YM S nm b E h Q):=rfl
@[go_sem] theorem V2:yr S nm (.block id c) E h Q=yr S nm c E h (E3 id Q):=rfl
@[go_sem] theorem WV:yr S nm (.loop c) E h Q=xr S nm c E h Q:=rfl
@[go_sem] theorem Wz:yr S nm (.exit id) E h Q=Q (.exit id) E h:=rfl
@[go_sem] theorem XT:yr S nm .ret E h Q=Q .ret E h:=rfl
@[go_sem] theorem VT:yr S nm (.label id) E h Q=Q .normal E h:=rfl
@[go_sem] theorem Tp:KU S nm b Q .normal E h=yr S nm b E h Q:=rfl
@[go_sem] theorem UI:KU S nm b Q (.exit id) E h=Q (.exit id) E h:=rfl
@[go_sem] theorem VR:KU S nm b Q .ret E h=Q .ret E h:=rfl
@[go_sem] theorem Rx:E3 id Q .normal E h=Q .normal E h:=rfl
@[go_sem] theorem Uj:E3 id Q (.exit id') E h=if id'=id then Q .normal E h else Q (.exit id') E h:=rfl
@[go_sem] theorem Vp:E3 id Q .ret E h=Q .ret E h:=rfl
@[go_sem] theorem So:Lf S nm c Q .normal E h=xr S nm c E h Q:=rfl
@[go_sem] theorem VD:Lf S nm c Q (.exit id) E h=Q (.exit id) E h:=rfl
@[go_sem] theorem VU:Lf S nm c Q .ret E h=Q .ret E h:=rfl
end
@[go_sem] theorem XC (A B:Unit->Prop):XG (.bool true) A B=A ():=rfl
@[go_sem] theorem VS (A B:Unit->Prop):XG (.bool false) A B=B ():=rfl
theorem Th {v:Value}{A B:Unit->Prop}(h:XG v A B): ∃ b,v = .bool b/\((b=true/\A ())\/(b=false/\B ())):=by
 cases v with
 | bool b=>
  cases b with
  | true=>exact ⟨true,rfl,.inl ⟨rfl,h⟩⟩
  | false=>exact ⟨false,rfl,.inr ⟨rfl,h⟩⟩
 | _=>exact h.elim
theorem EC {r:Option Bool}{A B:Unit->Prop}(h:Rw r A B):(r=some true/\A ())\/(r=some false/\B ()):=by
 cases r with
 | none=>exact h.elim
 | some b=>
  cases b with
  | true=>exact .inl ⟨rfl,h⟩
  | false=>exact .inr ⟨rfl,h⟩
section
variable {S:Sx} {nm:Nat}
theorem sv {fv:Value}{args:List Value}{h:Heap}{K:VH}(hw:lH S fv args h K): ∃ v h' n0,(∀ n,n0<=n->rV (aM S.P S.gl S.pr n) fv args h=some (v,.all h'))/\K v h':=by
 unfold lH at hw
 split at hw
 ·next g first captured=>
  obtain ⟨hY,v,h',⟨n0,hr⟩,hk⟩:=hw
  refine ⟨v,h',n0,fun n hn=> ?_,hk⟩
  simp only [rV]
  rw [if_pos hY,hr n hn]
  rfl
 ·exact hw.elim
theorem j5 {o:Oper}(hc:aE o=true): ∃ f args ts,o.op = .call { callee:= .value f,args:=args,argTypes:=ts }:=by
 obtain ⟨dst,op,ty,pos,after,guard⟩:=o
 unfold aE at hc
 split at hc
 ·next e=>exact ⟨_,_,_,e⟩
 ·cases hc
theorem Gn {E:Fr}{o:Oper}{h:Heap}{K:VH}(hw:xv S E o h K): ∃ v u n0,(∀ n,n0<=n->bA S.P (aM S.P S.gl S.pr n) (bF S.gl E) o h=some (v,u))/\K v (u.app h):=by
 cases hc:aE o with
 | true=>
  obtain ⟨f,args,ts,e⟩:=j5 hc
  obtain ⟨dst,op,ty,pos,after,guard⟩:=o
  dsimp only at e
  subst e
  obtain ⟨v,h',n0,h1,h2⟩:=sv hw
  exact ⟨v,.all h',n0,h1,h2⟩
 | false=>
  have hw':F6 (bA S.P dj (bF S.gl E) o h) h K:=by
   unfold xv at hw
   split at hw
   ·next e=>unfold aE at hc; rw [e] at hc; cases hc
   ·exact hw
  unfold F6 at hw'
  split at hw'
  ·next v u e=>exact ⟨v,u,0,fun n _=>by rw [<-rL hc]; exact e,hw'⟩
  ·exact hw'.elim
theorem HK {P:Program}{cf:aX}{ρ:Operand->Value}{o:Oper}{h:Heap}(hc:aE o=true):aK P cf ρ o h=bA P cf ρ o h:=by
 obtain ⟨f,args,ts,e⟩:=j5 hc
 obtain ⟨dst,op,ty,pos,after,guard⟩:=o
 dsimp only at e
 subst e
 rfl
theorem Jk {E:Fr}{o:Oper}{h:Heap}{K:VH}(hw:dC S E o h K): ∃ v u n0,(∀ n,n0<=n->aK S.P (aM S.P S.gl S.pr n) (bF S.gl E) o h=some (v,u))/\K v (u.app h):=by
 cases hc:aE o with
 | true=>
  obtain ⟨f,args,ts,e⟩:=j5 hc
  obtain ⟨dst,op,ty,pos,after,guard⟩:=o
  dsimp only at e
  subst e
  obtain ⟨v,h',n0,h1,h2⟩:=sv hw
  exact ⟨v,.all h',n0,fun n hn=>by rw [HK hc]; exact h1 n hn,h2⟩
 | false=>
  have hw':F6 (aK S.P dj (bF S.gl E) o h) h K:=by
   unfold dC at hw
   split at hw
   ·next e=>unfold aE at hc; rw [e] at hc; cases hc
   ·exact hw
  unfold F6 at hw'
  split at hw'
  ·next v u e=>exact ⟨v,u,0,fun n _=>by rw [<-zO hc]; exact e,hw'⟩
  ·exact hw'.elim
theorem ws (ops:Array Oper){R:FH}: ∀ (l:List Oper)(E:Fr)(h:Heap),(l.all fun o=>rg nm o.dst)=true->Ln S ops l E h R->
  ∃ E' h' n0,(∀ n,n0<=n-> ∀ tm,ER nm E tm-> ∃ tm',ER nm E' tm'/\dc S.P S.gl (aM S.P S.gl S.pr n) ops l tm h=some (tm',h'))/\R E' h'
 | [],E,h,_,hw=>⟨E,h,0,fun n _ tm ht=>⟨tm,ht,rfl⟩,hw⟩
 | o::l,E,h,hd,hw=>by
  simp only [List.all_cons,Bool.and_eq_true] at hd
  rcases EC hw with ⟨hg,hw⟩ | ⟨hg,hw⟩
  ·obtain ⟨v,u,n1,h1,h2⟩:=Jk hw
   obtain ⟨E',h',n2,h3,h4⟩:=ws ops l _ _ hd.2 h2
   refine ⟨E',h',max n1 n2,fun n hn tm ht=> ?_,h4⟩
   obtain ⟨tm',ht',h5⟩:=h3 n (by omega) _ (ht.put hd.1 v)
   refine ⟨tm',ht',?_⟩
   simp only [dc]
   rw [kg ht,hg,ht.ev,h1 n (by omega)]
   exact h5
  ·obtain ⟨E',h',n2,h3,h4⟩:=ws ops l _ _ hd.2 hw
   refine ⟨E',h',n2,fun n hn tm ht=> ?_,h4⟩
   obtain ⟨tm',ht',h5⟩:=h3 n hn _ (ht.put hd.1 undef)
   refine ⟨tm',ht',?_⟩
   simp only [dc]
   rw [kg ht,hg]
   exact h5
def A0 (nm:Nat):List Oper->List BN->List (List Value×Ent)->Prop
 | [],[],[]=>True
 | o::os,(E,o',e)::r,(tm,e')::r'=>o'=o/\e'=e/\ER nm E tm/\A0 nm os r r'
 | _,_,_=>False
theorem H2: ∀ {l:List Oper}{r:List BN}{r':List (List Value×Ent)}(j:Nat),A0 nm l r r'->bN r' j=fe r j
 | [],[],[],_,_=>rfl
 | o::os,(E,o',e)::r,(tm,e')::r',j,h=>by
  obtain ⟨rfl,rfl,_,h⟩:=h
  cases e' <;> simp only [bN,fe,H2 (j+1) h]
 | [],[],_::_,_,h=>h.elim
 | [],_::_,_,_,h=>h.elim
 | _::_,[],_,_,h=>h.elim
 | _::_,_::_,[],_,h=>h.elim
theorem uy {o:Oper}{E:Fr}{tm:List Value}{v:Value}{h:Heap}(ht:ER nm E tm):dO S.P S.gl o tm v h=DL S o E v h:=by
 unfold dO DL
 rw [ht.ev]
 cases aH S.P (bF S.gl E) o h <;> rfl
theorem Ba {bf:Nat->Nat->Bool}{j:Nat}{o:Oper}{E:Fr}{tm:List Value}{v:Value}(ht:ER nm E tm): ∀ (es:List (Nat×Heap))(h:Heap)(own:Bool),fu S.P S.gl bf j o tm v h es own=gV S bf j o E v h es own
 | [],h,own=>by simp only [fu,gV,uy ht]
 | (e,h')::es,h,own=>by simp only [fu,gV,uy ht,Ba ht es]
theorem DT {bf:Nat->Nat->Bool}{h:Heap}{es:List (Nat×Heap)}: ∀ {l:List Oper}{r:List BN}{r':List (List Value×Ent)}(j:Nat),A0 nm l r r'->di S.P S.gl bf h es l r' j=nw S bf h es r j
 | [],[],[],_,_=>rfl
 | o::os,(E,o',e)::r,(tm,e')::r',j,hr=>by
  obtain ⟨rfl,rfl,ht,hr⟩:=hr
  cases e' <;> simp only [di,nw,DT (j+1) hr,Ba ht]
 | [],[],_::_,_,h=>h.elim
 | [],_::_,_,_,h=>h.elim
 | _::_,[],_,_,h=>h.elim
 | _::_,_::_,[],_,h=>h.elim
theorem AF (bf:Nat->Nat->Bool)(ops:Array Oper)(base:Nat)(h0:Heap){R:FH}: ∀ (l:List Oper)(j:Nat)(E:Fr)(h:Heap)(pd:List (Nat×Blk))(recs:List BN),(l.all fun o=>rg nm o.dst)=true->pL S bf ops base h0 l j E h pd recs R->
  ∃ E' h' pd' r n0,(∀ n,n0<=n-> ∀ tm,ER nm E tm-> ∃ tm' r',ER nm E' tm'/\A0 nm l r r'/\bC S.P S.gl (aM S.P S.gl S.pr n) ops bf base l j tm h pd=some (r',tm',h',pd'))/\kK S bf h0 (recs.reverse++r)=true/\R E' (aC h' base pd')
 | [],j,E,h,pd,recs,_,hw=>⟨E,h,pd,[],0,fun n _ tm ht=>⟨tm,[],ht,trivial,rfl⟩,by rw [List.append_nil]; exact hw.1,hw.2⟩
 | o::l,j,E,h,pd,recs,hd,hw=>by
  simp only [List.all_cons,Bool.and_eq_true] at hd
  have fin: ∀ (v:Value)(e:Ent)(h1:Heap)(pd1:List (Nat×Blk))(n1:Nat),pL S bf ops base h0 l (j+1) (ll E o.dst v) h1 pd1 ((E,o,e)::recs) R->
    (∀ n,n1<=n-> ∀ tm,ER nm E tm-> ∀ q,bC S.P S.gl (aM S.P S.gl S.pr n) ops bf base l (j+1) (dh tm o.dst v) h1 pd1=some q->bC S.P S.gl (aM S.P S.gl S.pr n) ops bf base (o::l) j tm h pd=some ((tm,e)::q.1,q.2))->
    ∃ E' h' pd' r n0,(∀ n,n0<=n-> ∀ tm,ER nm E tm-> ∃ tm' r',ER nm E' tm'/\A0 nm (o::l) r r'/\bC S.P S.gl (aM S.P S.gl S.pr n) ops bf base (o::l) j tm h pd=some (r',tm',h',pd'))/\kK S bf h0 (recs.reverse++r)=true/\R E' (aC h' base pd'):=by
   intro v e h1 pd1 n1 hw1 hq
   obtain ⟨E',h',pd',r,n2,h2,h3,h4⟩:=AF bf ops base h0 l (j+1) _ _ _ _ hd.2 hw1
   refine ⟨E',h',pd',(E,o,e)::r,max n1 n2,fun n hn tm ht=> ?_,?_,h4⟩
   ·obtain ⟨tm',r',ht',hr,h5⟩:=h2 n (by omega) _ (ht.put hd.1 v)
    exact ⟨tm',(tm,e)::r',ht',⟨rfl,rfl,ht,hr⟩,hq n (by omega) tm ht _ h5⟩
   ·simpa using h3
  rcases EC hw with ⟨hg,hw⟩ | ⟨hg,hw⟩
  ·cases hp:aD S.P (bF S.gl E) o with
   | some v=>
    rw [hp] at hw
    refine fin v (.pure v) h pd 0 hw fun n _ tm ht q hq=> ?_
    simp only [bC]
    rw [kg ht,hg,ht.ev,hp]
    dsimp only
    rw [hq]
    rfl
   | none=>
    rw [hp] at hw
    dsimp only at hw
    cases hrd:aH S.P (bF S.gl E) o h with
    | some v=>
     rw [hrd] at hw
     refine fin v (.read v) h pd 0 hw fun n _ tm ht q hq=> ?_
     simp only [bC]
     rw [kg ht,hg,ht.ev,hp]
     dsimp only
     rw [hrd]
     dsimp only
     rw [hq]
     rfl
    | none=>
     rw [hrd] at hw
     dsimp only at hw
     cases hal:aG S.P (bF S.gl E) o with
     | some Bf=>
      obtain ⟨B,f⟩:=Bf
      rw [hal] at hw
      refine fin _ (.alloc B (f (base+j))) h ((j,B)::pd) 0 hw fun n _ tm ht q hq=> ?_
      simp only [bC]
      rw [kg ht,hg,ht.ev,hp]
      dsimp only
      rw [hrd]
      dsimp only
      rw [hal]
      dsimp only
      rw [hq]
      rfl
     | none=>
      rw [hal] at hw
      dsimp only at hw
      obtain ⟨v,u,n1,h1,h2⟩:=Gn hw
      refine fin v (.eff v _) _ _ n1 h2 fun n hn tm ht q hq=> ?_
      simp only [bC]
      rw [kg ht,hg,ht.ev,hp]
      dsimp only
      rw [hrd]
      dsimp only
      rw [hal]
      dsimp only
      rw [h1 n hn]
      dsimp only
      rw [hq]
      rfl
  ·refine fin undef .skip h pd 0 hw fun n _ tm ht q hq=> ?_
   simp only [bC]
   rw [kg ht,hg]
   dsimp only
   rw [hq]
   rfl
theorem Mi {ops:Array Oper}{E:Fr}{h:Heap}{R:FH}(hd:(ops.toList.all fun o=>rg nm o.dst)=true)(hw:Ug S ops E h R):
  ∃ E' h' n0,(∀ n,n0<=n-> ∀ tm,ER nm E tm-> ∃ tm',ER nm E' tm'/\AS S.P S.gl (aM S.P S.gl S.pr n) ops tm h=some (tm',h'))/\R E' h':=by
 obtain ⟨hany,hw⟩:=hw
 obtain ⟨E',h',pd',r,n0,h1,h2,h3⟩:=AF (ba (ck ops)) ops h.next _ ops.toList 0 E _ [] [] hd hw
 refine ⟨E',_,n0,fun n hn tm ht=> ?_,h3⟩
 obtain ⟨tm',r',ht',hr,h4⟩:=h1 n hn tm ht
 refine ⟨tm',ht',?_⟩
 unfold AS
 rw [hany,if_neg (by simp)]
 unfold pX
 rw [h4]
 dsimp only
 rw [H2 0 hr,DT 0 hr]
 have h2:kK S (ba (ck ops)) { h with next:=h.next+ops.size } r=true:=h2
 unfold kK at h2
 rw [if_pos h2]
def aF (nm:Nat):Code->Bool
 | .region _ ops _=>ops.toList.all fun o=>rg nm o.dst
 | .seq a b=>aF nm a && aF nm b
 | .cond _ a b=>aF nm a && aF nm b
 | .block _ c=>aF nm c
 | .loop c=>aF nm c
 | _=>true
theorem gC: ∀ (c:Code){E:Fr}{h:Heap}{Q:yz},aF nm c=true->yr S nm c E h Q-> ∃ x E' h',TW S nm c E h x E' h'/\Q x E' h'
 | .skip,E,h,_,_,hw=>⟨.normal,E,h,⟨0,fun _ _ _ _ tm ht=>⟨tm,ht,rfl⟩⟩,hw⟩
 | .exit id,E,h,_,_,hw=>⟨.exit id,E,h,⟨0,fun _ _ _ _ tm ht=>⟨tm,ht,rfl⟩⟩,hw⟩
 | .ret,E,h,_,_,hw=>⟨.ret,E,h,⟨0,fun _ _ _ _ tm ht=>⟨tm,ht,rfl⟩⟩,hw⟩
 | .label _,E,h,_,_,hw=>⟨.normal,E,h,⟨0,fun _ _ _ _ tm ht=>⟨tm,ht,rfl⟩⟩,hw⟩
 | .region _ ops false,E,h,_,hd,hw=>by
  obtain ⟨E',h',n0,h1,h2⟩:=ws ops ops.toList E h hd hw
  refine ⟨.normal,E',h',⟨n0,fun n N hn _ tm ht=> ?_⟩,h2⟩
  obtain ⟨tm',ht',h3⟩:=h1 n hn tm ht
  refine ⟨tm',ht',?_⟩
  simp only [az]
  rw [h3]
  rfl
 | .region _ ops true,E,h,_,hd,hw=>by
  obtain ⟨E',h',n0,h1,h2⟩:=Mi hd hw
  refine ⟨.normal,E',h',⟨n0,fun n N hn _ tm ht=> ?_⟩,h2⟩
  obtain ⟨tm',ht',h3⟩:=h1 n hn tm ht
  refine ⟨tm',ht',?_⟩
  simp only [az]
  rw [h3]
  rfl
 | .seq a b,E,h,Q,hd,hw=>by
  simp only [aF,Bool.and_eq_true] at hd
  obtain ⟨x,E1,h1,⟨n1,hr1⟩,hq⟩:=gC a hd.1 hw
  have els:(∀ n N tm' ,az S.P S.gl (aM S.P S.gl S.pr n) N a tm' h=some (x,tm',h1)->True)->x≠ .normal->Q x E1 h1-> ∃ x E' h',TW S nm (.seq a b) E h x E' h'/\Q x E' h':=by
   intro _ hx hq
   refine ⟨x,E1,h1,⟨n1,fun n N hn hN tm ht=> ?_⟩,hq⟩
   obtain ⟨tm',ht',h3⟩:=hr1 n N hn hN tm ht
   refine ⟨tm',ht',?_⟩
   simp only [az]
   rw [h3]
   cases x with
   | normal=>exact absurd rfl hx
   | _=>rfl
  cases x with
  | normal=>
   obtain ⟨x,E2,h2,⟨n2,hr2⟩,hq⟩:=gC b hd.2 hq
   refine ⟨x,E2,h2,⟨max n1 n2,fun n N hn hN tm ht=> ?_⟩,hq⟩
   obtain ⟨tm',ht',h3⟩:=hr1 n N (by omega) (by omega) tm ht
   obtain ⟨tm2,ht2,h4⟩:=hr2 n N (by omega) (by omega) tm' ht'
   refine ⟨tm2,ht2,?_⟩
   simp only [az]
   rw [h3]
   exact h4
  | exit id=>exact els (fun _ _ _ _=>trivial) (by simp) hq
  | goto l=>exact els (fun _ _ _ _=>trivial) (by simp) hq
  | ret=>exact els (fun _ _ _ _=>trivial) (by simp) hq
  | panic _=>exact els (fun _ _ _ _=>trivial) (by simp) hq
  | outgrown=>exact els (fun _ _ _ _=>trivial) (by simp) hq
 | .cond o a b,E,h,Q,hd,hw=>by
  simp only [aF,Bool.and_eq_true] at hd
  obtain ⟨t,hv,⟨ht,hw⟩ | ⟨ht,hw⟩⟩:=Th hw
  ·obtain ⟨x,E1,h1,⟨n1,hr1⟩,hq⟩:=gC a hd.1 hw
   refine ⟨x,E1,h1,⟨n1,fun n N hn hN tm htm=> ?_⟩,hq⟩
   obtain ⟨tm',ht',h3⟩:=hr1 n N hn hN tm htm
   refine ⟨tm',ht',?_⟩
   simp only [az]
   rw [htm.ev,hv,ht]
   exact h3
  ·obtain ⟨x,E1,h1,⟨n1,hr1⟩,hq⟩:=gC b hd.2 hw
   refine ⟨x,E1,h1,⟨n1,fun n N hn hN tm htm=> ?_⟩,hq⟩
   obtain ⟨tm',ht',h3⟩:=hr1 n N hn hN tm htm
   refine ⟨tm',ht',?_⟩
   simp only [az]
   rw [htm.ev,hv,ht]
   exact h3
 | .block id c,E,h,Q,hd,hw=>by
  obtain ⟨x,E1,h1,⟨n1,hr1⟩,hq⟩:=gC c hd hw
  by_cases hx:x = .exit id
  ·subst hx
   dsimp only at hq
   rw [if_pos rfl] at hq
   refine ⟨.normal,E1,h1,⟨n1,fun n N hn hN tm htm=> ?_⟩,hq⟩
   obtain ⟨tm',ht',h3⟩:=hr1 n N hn hN tm htm
   refine ⟨tm',ht',?_⟩
   simp only [az]
   rw [h3]
   simp
  ·refine ⟨x,E1,h1,⟨n1,fun n N hn hN tm htm=> ?_⟩,?_⟩
   ·obtain ⟨tm',ht',h3⟩:=hr1 n N hn hN tm htm
    refine ⟨tm',ht',?_⟩
    simp only [az]
    rw [h3]
    cases x with
    | exit id'=>dsimp only; rw [if_neg (fun e=>hx (by rw [e]))]
    | _=>rfl
   ·cases x with
    | exit id'=>dsimp only at hq; rw [if_neg (fun e=>hx (by rw [e]))] at hq; exact hq
    | _=>exact hq
 | .loop c,E,h,Q,hd,hw=>by
  obtain ⟨x,E1,h1,⟨n1,hr1⟩,hq⟩:=hw
  refine ⟨x,E1,h1,⟨n1,fun n N hn hN tm htm=> ?_⟩,hq⟩
  obtain ⟨tm',ht',h3⟩:=hr1 n N N hn hN hN tm htm
  exact ⟨tm',ht',h3⟩
 | .rangeFunc ..,_,_,_,_,hw=>hw.elim
 | .scope _,_,_,_,_,hw=>hw.elim
 | .goto _,_,_,_,_,hw=>hw.elim
 | .refuse _,_,_,_,_,hw=>hw.elim
theorem PD {c:Code}{E:Fr}{h:Heap}{Q:yz}(hd:aF nm c=true)(hw:yr S nm c E h (Lf S nm c Q)):xr S nm c E h Q:=by
 obtain ⟨x,E1,h1,⟨n1,hr1⟩,hq⟩:=gC c hd hw
 have els:x≠ .normal->Q x E1 h1->xr S nm c E h Q:=by
  intro hx hq
  refine ⟨x,E1,h1,⟨n1+1,fun n N j hn hN hj tm ht=> ?_⟩,hq⟩
  obtain ⟨j',rfl⟩: ∃ j',j=j'+1:=⟨j - 1,by omega⟩
  obtain ⟨tm',ht',h3⟩:=hr1 n N (by omega) (by omega) tm ht
  refine ⟨tm',ht',?_⟩
  simp only [yj]
  rw [h3]
  cases x with
  | normal=>exact absurd rfl hx
  | _=>rfl
 cases x with
 | normal=>
  obtain ⟨x,E2,h2,⟨n2,hr2⟩,hq⟩:=hq
  refine ⟨x,E2,h2,⟨max n1 n2+1,fun n N j hn hN hj tm ht=> ?_⟩,hq⟩
  obtain ⟨j',rfl⟩: ∃ j',j=j'+1:=⟨j - 1,by omega⟩
  obtain ⟨tm',ht',h3⟩:=hr1 n N (by omega) (by omega) tm ht
  obtain ⟨tm2,ht2,h4⟩:=hr2 n N j' (by omega) (by omega) (by omega) tm' ht'
  refine ⟨tm2,ht2,?_⟩
  simp only [yj]
  rw [h3]
  exact h4
 | exit id=>exact els (by simp) hq
 | goto l=>exact els (by simp) hq
 | ret=>exact els (by simp) hq
 | panic _=>exact els (by simp) hq
 | outgrown=>exact els (by simp) hq
noncomputable def li (S:Sx)(E:Fr)(h:Heap):List ResultVar->Option (List Value)
 | []=>some []
 | .tmp t::r=>(li S E h r).map (E t :: ·)
 | .cell a t::r=>match ah S.P t h (E a) with
  | some v=>(li S E h r).map (v :: ·)
  | none=>none
theorem yX {E:Fr}{h:Heap}{tm:List Value}(ht:ER nm E tm): ∀ l,be S.P tm h l=li S E h l
 | []=>rfl
 | .tmp t::r=>by simp only [be,li,yX ht r,ht.2 t]
 | .cell a t::r=>by
  simp only [be,li,yX ht r,ht.2 a]
  cases ah S.P t h (E a) <;> rfl
def oP (r:Option (List Value))(h:Heap)(Q:VH):Prop:=match r with
 | some vs=>Q (aI vs) h
 | none=>False
@[go_sem] theorem UD (vs:List Value)(h:Heap)(Q:VH):oP (some vs) h Q=Q (aI vs) h:=rfl
def U0 (S:Sx)(rs:List ResultVar)(Q:VH)(x:Exit)(E:Fr)(h:Heap):Prop:=match x with
 | .normal=>oP (li S E h rs) h Q
 | .ret=>oP (li S E h rs) h Q
 | _=>False
@[go_sem] theorem T6 (S:Sx)(rs:List ResultVar)(Q:VH)(E:Fr)(h:Heap):U0 S rs Q .normal E h=oP (li S E h rs) h Q:=rfl
@[go_sem] theorem XD (S:Sx)(rs:List ResultVar)(Q:VH)(E:Fr)(h:Heap):U0 S rs Q .ret E h=oP (li S E h rs) h Q:=rfl
@[go_sem] theorem WY (S:Sx)(E:Fr)(h:Heap):li S E h []=some []:=rfl
@[go_sem] theorem Wq (S:Sx)(E:Fr)(h:Heap)(t:Tmp)(r:List ResultVar):li S E h (.tmp t::r)=(li S E h r).map (E t :: ·):=rfl
def Kp (args:List Value):Fr:=fun t=>args.getD t undef
@[go_sem] theorem VW (v:Value)(l:List Value):Kp (v::l) 0=v:=rfl
@[go_sem] theorem VP (v:Value)(l:List Value)(n:Nat):Kp (v::l) (n+1)=Kp l n:=rfl
@[go_sem] theorem Xv (n:Nat):Kp [] n=undef:=rfl
theorem WJ {f:FuncId}{fn:Func}{c:Code}{args:List Value}{h:Heap}{Q:VH}(hf:S.P.funcs[f]?=some fn)(hb:fn.body=some c)(hY:f < YB)(hp:S.pr f=none)(hl:args.length<=fn.ntmps)(hd:aF fn.ntmps c=true)
  (hw:yr S fn.ntmps c (Kp args) h (U0 S fn.results.toList Q)):FW S f args h Q:=by
 obtain ⟨x,E',h',⟨n0,hr⟩,hq⟩:=gC c hd hw
 have ht:ER fn.ntmps (Kp args) (args++List.replicate (fn.ntmps - args.length) undef):=by
  refine ⟨by simp; omega,fun t=> ?_⟩
  show _=args.getD t undef
  simp only [gD]
  by_cases h1:t < args.length
  ·rw [List.getElem?_append_left h1]
  ·rw [List.getElem?_append_right (by omega),List.getElem?_eq_none (l:=args) (by omega),List.getElem?_replicate]
   split <;> rfl
 have hres: ∃ vs,li S E' h' fn.results.toList=some vs/\Q (aI vs) h'/\(x = .normal\/x = .ret):=by
  have key:oP (li S E' h' fn.results.toList) h' Q-> ∃ vs,li S E' h' fn.results.toList=some vs/\Q (aI vs) h':=by
   intro hq
   cases hv:li S E' h' fn.results.toList with
   | none=>rw [hv] at hq; exact hq.elim
   | some vs=>rw [hv] at hq; exact ⟨vs,rfl,hq⟩
  cases x with
  | normal=>obtain ⟨vs,h1,h2⟩:=key hq; exact ⟨vs,h1,h2,.inl rfl⟩
  | ret=>obtain ⟨vs,h1,h2⟩:=key hq; exact ⟨vs,h1,h2,.inr rfl⟩
  | _=>exact hq.elim
 obtain ⟨vs,hv,hq,hx⟩:=hres
 refine ⟨aI vs,h',⟨n0+1,fun n hn=> ?_⟩,hq⟩
 obtain ⟨n',rfl⟩: ∃ n',n=n'+1:=⟨n - 1,by omega⟩
 obtain ⟨tm',ht',h3⟩:=hr n' n' (by omega) (by omega) _ ht
 simp only [aM]
 rw [if_neg (Nat.not_le.2 hY),hp]
 dsimp only
 rw [hf]
 dsimp only
 rw [hb]
 dsimp only
 rw [h3]
 rcases hx with rfl | rfl
 ·dsimp only; rw [yX ht',hv]; rfl
 ·dsimp only; rw [yX ht',hv]; rfl
end
end
section
section
variable (gl:Nat->Bool) (E:Fr)
@[go_sem] theorem XY (t:Tmp):bF gl E (.tmp t)=E t:=rfl
@[go_sem] theorem Wi (f:FuncId):bF gl E (.func f) = .func (.func f) #[] #[]:=rfl
@[go_sem] theorem WC (b:Bool):bF gl E (.const (.bool b)) = .bool b:=rfl
@[go_sem] theorem XV (k:IntKind)(n:Int):bF gl E (.const (.int k n)) = .int k n:=rfl
@[go_sem] theorem Ve (s:ByteArray):bF gl E (.const (.string s)) = .string s:=rfl
@[go_sem] theorem RT:bF gl E (.const (.slice none 0 0)) = .slice none 0 0:=rfl
@[go_sem] theorem Vz:bF gl E (.const (.pointer none)) = .pointer none:=rfl
@[go_sem] theorem T4:bF gl E (.const .nilFunc) = .nilFunc:=rfl
@[go_sem] theorem Vn:bF gl E (.const (.map none)) = .map none:=rfl
@[go_sem] theorem Sz:bF gl E (.const .nilIface) = .nilIface:=rfl
@[go_sem] theorem map_nil {α β:Type}(f:α->β):[].map f=([]:List β):=rfl
@[go_sem] theorem map_cons {α β:Type}(f:α->β)(a:α)(l:List α):(a::l).map f=f a::l.map f:=rfl
end
section
variable (S:Sx) (E:Fr) (dst:Option Tmp) (ty:TypeId) (pos:String) (after:Array Edge) (guard:Option (Nat×Bool)) (h:Heap) (K:VH)
theorem dD {o:Oper}(hc:aE o=false):dC S E o h K=F6 (aK S.P dj (bF S.gl E) o h) h K:=by
 unfold dC
 split
 ·next e=>unfold aE at hc; rw [e] at hc; cases hc
 ·rfl
theorem Ot {P:Program}{ρ:Operand->Value}{o:Oper}(h1: ∀ h,aD P ρ o=none->aK P dj ρ o h=none):F6 (aK P dj ρ o h) h K=nZ (aD P ρ o) h K:=by
 cases hp:aD P ρ o with
 | none=>rw [h1 h hp]; rfl
 | some v=>unfold aK; rw [hp]; rfl
def eP:Op->Bool
 | .move _ | .assign _ | .pick .. | .build .. | .nilCheck _ | .binOp .. | .unOp .. | .makeInterface .. | .makeFunc .. | .fieldAddr .. | .field .. | .indexAddr .. | .index .. | .typeAssert .. | .extract .. =>true
 | .call { callee:= .builtin .max,.. } | .call { callee:= .builtin .min,.. } | .call { callee:= .builtin .cap,.. }=>true
 | _=>false
theorem MK {P:Program}{ρ:Operand->Value}{op:Op}(hp:eP op=true)(h:Heap)(h1:aD P ρ ⟨dst,op,ty,pos,after,guard⟩=none):aK P dj ρ ⟨dst,op,ty,pos,after,guard⟩ h=none:=by
 unfold aK
 rw [h1]
 unfold eP at hp
 split at hp <;> first | rfl | cases hp
theorem J1 {op:Op}(hp:eP op=true):aE ⟨dst,op,ty,pos,after,guard⟩=false:=by
 unfold eP at hp
 split at hp <;> first | rfl | cases hp
theorem bw {op:Op}(hp:eP op=true):dC S E ⟨dst,op,ty,pos,after,guard⟩ h K=nZ (aD S.P (bF S.gl E) ⟨dst,op,ty,pos,after,guard⟩) h K:=by
 rw [dD S E h K (J1 dst ty pos after guard hp)]
 exact Ot h K fun h h1=>MK dst ty pos after guard hp h h1
def KJ (c x y:Value):Option Value:=match c with
 | .bool t=>some (if t then x else y)
 | _=>none
@[go_sem] theorem UT (x y:Value):KJ (.bool true) x y=some x:=rfl
@[go_sem] theorem TQ (x y:Value):KJ (.bool false) x y=some y:=rfl
def P8 (v:Value)(i:Nat):Option Value:=match v with
 | .tuple vs=>vs[i]?
 | _=>none
@[go_sem] theorem UH (v:Value)(l:List Value):P8 (.tuple ⟨v::l⟩) 0=some v:=rfl
def aQ (P:Program)(t:TypeId)(x i:Value):Option Value:=match P.underlying t,x,i with
  | some (.array len e),.agg cs,.int _ j=>match aq P e with
   | some n=>if 0<=j/\j < (len:Int) then gM P e cs (j.toNat*n) else none
   | none=>none
  | some .string,.string s,.int _ j=>if 0<=j then match s.data.toList[j.toNat]? with | some b=>some (.int .u8 b.toNat) | none=>none else none
  | _,_,_=>none
def af (P:Program)(t:TypeId)(x i:Value):Option Value:=match P.underlying t,x,i with
  | some (.array len e),.pointer (some a),.int _ j=>match aq P e with
   | some n=>if 0<=j/\j < (len:Int) then some (.pointer (some (a.add (j.toNat*n)))) else none
   | none=>none
  | some (.slice e),.slice (some a) len _,.int _ j=>match aq P e with
   | some n=>if 0<=j/\j < (len:Int) then some (.pointer (some (a.add (j.toNat*n)))) else none
   | none=>none
  | _,_,_=>none
def ag (P:Program)(s:TypeId)(x:Value)(f:Nat):Option Value:=match P.underlying s,x with
  | some (.struct fields),.pointer (some a)=>match fields[f]? with
   | some fd=>if (aq P fd.type).any (· ≠0) then some (.pointer (some (a.add fd.offset))) else none
   | none=>none
  | _,_=>none
def OT (P:Program)(t:TypeId)(x:Value)(f:Nat):Option Value:=match P.underlying t,x with
  | some (.struct fields),.agg cs=>match fields[f]? with
   | some fd=>gM P fd.type cs fd.offset
   | none=>none
  | _,_=>none
noncomputable def HG (P:Program)(t:TypeId)(x:Value)(h:Heap):Option Value:=match P.underlying t,x with
   | some .string,.string s=>some (.int .i64 s.data.toList.length)
   | some (.array n _),_=>some (.int .i64 n)
   | some (.slice _),.slice _ n _=>some (.int .i64 n)
   | some (.map ..),.map none=>some (.int .i64 0)
   | some (.map ..),.map (some r)=>match h.get r with
    | some (.map es)=>some (.int .i64 es.length)
    | _=>none
   | _,_=>none
@[go_sem] theorem VZ (x:Operand):dC S E ⟨dst,.move x,ty,pos,after,guard⟩ h K=K (bF S.gl E x) h:=rfl
@[go_sem] theorem T3 (x:Operand):dC S E ⟨dst,.assign x,ty,pos,after,guard⟩ h K=K (bF S.gl E x) h:=rfl
@[go_sem] theorem Lx (c a b:Operand):dC S E ⟨dst,.pick c a b,ty,pos,after,guard⟩ h K=nZ (KJ (bF S.gl E c) (bF S.gl E a) (bF S.gl E b)) h K:=bw S E dst ty pos after guard h K rfl
@[go_sem] theorem Kh (op:BinOp)(t u:TypeId)(x y:Operand):dC S E ⟨dst,.binOp op t x y u,ty,pos,after,guard⟩ h K=nZ (am S.P op t (bF S.gl E x) (bF S.gl E y)) h K:=bw S E dst ty pos after guard h K rfl
@[go_sem] theorem Mo (op:UnOp)(t:TypeId)(x:Operand):dC S E ⟨dst,.unOp op t x,ty,pos,after,guard⟩ h K=nZ (AP op (bF S.gl E x)) h K:=bw S E dst ty pos after guard h K rfl
@[go_sem] theorem E4 (x:Operand)(i:Nat):dC S E ⟨dst,.extract x i,ty,pos,after,guard⟩ h K=nZ (P8 (bF S.gl E x) i) h K:=bw S E dst ty pos after guard h K rfl
@[go_sem] theorem IU (t:TypeId)(x i:Operand):dC S E ⟨dst,.index t x i,ty,pos,after,guard⟩ h K=nZ (aQ S.P t (bF S.gl E x) (bF S.gl E i)) h K:=bw S E dst ty pos after guard h K rfl
@[go_sem] theorem AO (t:TypeId)(x i:Operand):dC S E ⟨dst,.indexAddr t x i,ty,pos,after,guard⟩ h K=nZ (af S.P t (bF S.gl E x) (bF S.gl E i)) h K:=bw S E dst ty pos after guard h K rfl
@[go_sem] theorem By (t:TypeId)(x:Operand)(f:Nat):dC S E ⟨dst,.fieldAddr t x f,ty,pos,after,guard⟩ h K=nZ (ag S.P t (bF S.gl E x) f) h K:=bw S E dst ty pos after guard h K rfl
@[go_sem] theorem JO (t:TypeId)(x:Operand)(f:Nat):dC S E ⟨dst,.field t x f,ty,pos,after,guard⟩ h K=nZ (OT S.P t (bF S.gl E x) f) h K:=bw S E dst ty pos after guard h K rfl
@[go_sem] theorem Ra (args:Array Operand)(ts:Array TypeId):dC S E ⟨dst,.call ⟨.builtin .max,args,ts⟩,ty,pos,after,guard⟩ h K=nZ (ks true (args.toList.map (bF S.gl E))) h K:=bw S E dst ty pos after guard h K rfl
@[go_sem] theorem QQ (args:Array Operand)(ts:Array TypeId):dC S E ⟨dst,.call ⟨.builtin .min,args,ts⟩,ty,pos,after,guard⟩ h K=nZ (ks false (args.toList.map (bF S.gl E))) h K:=bw S E dst ty pos after guard h K rfl
theorem ml (o:Oper)(h1:aE o=false)(h2:aD S.P (bF S.gl E) o=none)(h3:aG S.P (bF S.gl E) o=none)(h4:bA S.P dj (bF S.gl E) o h=none):dC S E o h K=nZ (aH S.P (bF S.gl E) o h) h K:=by
 rw [dD S E h K h1]
 unfold aK
 rw [h2]
 dsimp only
 cases aH S.P (bF S.gl E) o h with
 | some v=>rfl
 | none=>dsimp only; rw [h3]; dsimp only; rw [h4]; rfl
@[go_sem] theorem NU (t:TypeId)(a:Operand):dC S E ⟨dst,.load t a,ty,pos,after,guard⟩ h K=nZ (ah S.P t h (bF S.gl E a)) h K:=ml S E h K _ rfl rfl rfl rfl
@[go_sem] theorem Jw (t:TypeId)(x:Operand)(lo hi mx:Option Operand):dC S E ⟨dst,.slice t x lo hi mx,ty,pos,after,guard⟩ h K=nZ (aL S.P t (bF S.gl E x) (lo.map (bF S.gl E)) (hi.map (bF S.gl E)) (mx.map (bF S.gl E)) h) h K:=ml S E h K _ rfl rfl rfl rfl
@[go_sem] theorem QZ (x:Operand)(t:TypeId):dC S E ⟨dst,.call ⟨.builtin .len,#[x],#[t]⟩,ty,pos,after,guard⟩ h K=nZ (HG S.P t (bF S.gl E x) h) h K:=ml S E h K _ rfl rfl rfl rfl
@[go_sem] theorem V6 (f:Operand)(args:Array Operand)(ts:Array TypeId):dC S E ⟨dst,.call ⟨.value f,args,ts⟩,ty,pos,after,guard⟩ h K=lH S (bF S.gl E f) (args.toList.map (bF S.gl E)) h K:=rfl
theorem sT (o:Oper)(h1:aE o=false)(h2:aD S.P (bF S.gl E) o=none)(h3:aH S.P (bF S.gl E) o h=none)(h4:aG S.P (bF S.gl E) o=none):dC S E o h K=F6 (bA S.P dj (bF S.gl E) o h) h K:=by
 rw [dD S E h K h1]
 unfold aK
 rw [h2]
 dsimp only
 rw [h3]
 dsimp only
 rw [h4]
@[go_sem] theorem HN (s x:Operand)(t t':TypeId):dC S E ⟨dst,.call ⟨.builtin .append,#[s,x],#[t,t']⟩,ty,pos,after,guard⟩ h K=F6 (aB S.P t t' (bF S.gl E s) (bF S.gl E x) h) h K:=sT S E h K _ rfl rfl rfl rfl
@[go_sem] theorem Ak (t:TypeId)(a x:Operand):dC S E ⟨dst,.store t a x,ty,pos,after,guard⟩ h K=F6 (al S.P t (bF S.gl E a) (bF S.gl E x) h) h K:=sT S E h K _ rfl rfl rfl rfl
def Ws (r:Option (Blk×(Nat->Value)))(h:Heap)(K:VH):Prop:=match r with
 | some (B,f)=>K (f h.next) (h.push B)
 | none=>False
@[go_sem] theorem XM (B:Blk)(f:Nat->Value)(h:Heap)(K:VH):Ws (some (B,f)) h K=K (f h.next) (h.push B):=rfl
theorem ii (o:Oper)(h1:aE o=false)(h2:aD S.P (bF S.gl E) o=none)(h3:aH S.P (bF S.gl E) o h=none)(h4:bA S.P dj (bF S.gl E) o h=none):dC S E o h K=Ws (aG S.P (bF S.gl E) o) h K:=by
 rw [dD S E h K h1]
 unfold aK
 rw [h2]
 dsimp only
 rw [h3]
 dsimp only
 cases aG S.P (bF S.gl E) o with
 | some r=>obtain ⟨B,f⟩:=r; rfl
 | none=>dsimp only; rw [h4]; rfl
end
section
variable {S:Sx} {g:FuncId} {first captured:Array Value} {args:List Value} {h:Heap} {K:VH}
end
section
variable (P:Program) (t:TypeId) (k:IntKind) (a b:Int)
theorem FV (hb:b≠0):am P .quo t (.int k a) (.int k b)=some (.int k (k.wrap (a.tdiv b))):=by simp [am,hb]
theorem Tl (hb:b≠0):am P .rem t (.int k a) (.int k b)=some (.int k (a.tmod b)):=by simp [am,hb]
variable (x y:ByteArray)
@[go_sem] theorem Xk:am P .eql t (.string x) (.string y)=some (.bool (x.data.toList == y.data.toList)):=rfl
@[go_sem] theorem Wa:am P .neq t (.string x) (.string y)=some (.bool !(x.data.toList == y.data.toList)):=rfl
@[go_sem] theorem XI (b:Bool):AP .not (.bool b)=some (.bool !b):=rfl
end
end
end Go.Ab
end
section
namespace Go.Ab
open Go Go.RowKit
section
variable {β:Inj} {P:Program} {gl:Nat->Bool}
theorem Qx {cf:aX}{tm:List Value}{a:Act}{h:Heap}{w:World}{o:Oper}{v:Value}{u:Upd}(hs:Sim β h w)(hg:Gl gl β)(ht:LRel β tm a.tmps.toList)(hc:aE o=false)(hr:aK P cf (ev gl tm) o h=some (v,u)):
  ∃ v' w' β',Step β h w β' (u.app h) w'/\VRel β' v v'/\((execOp a.eval o).run P w = .ok (.value v') w'\/((execOp a.eval o).run P w = .ok .skip w'/\v'=undef)):=by
 have hρ:=wt (β:=β) hg ht
 unfold aK at hr
 split at hr
 ·next v0 hp=>
  simp only [Option.some.injEq,Prod.mk.injEq] at hr
  obtain ⟨rfl,rfl⟩:=hr
  obtain ⟨v',h1,h2⟩:=mK hρ hp w
  exact ⟨v',w,β,Step.refl hs,h2,.inl h1⟩
 ·split at hr
  ·next v0 hp=>
   simp only [Option.some.injEq,Prod.mk.injEq] at hr
   obtain ⟨rfl,rfl⟩:=hr
   obtain ⟨v',h1,h2⟩:=nh hρ hs hp
   exact ⟨v',w,β,Step.refl hs,h2,.inl h1⟩
  ·split at hr
   ·next B f hp=>
    simp only [Option.some.injEq,Prod.mk.injEq] at hr
    obtain ⟨rfl,rfl⟩:=hr
    obtain ⟨v',w',h1,h2⟩:=kX hρ (w:=w) hp
    obtain ⟨β',h3,h4⟩:=h2.step hs
    exact ⟨v',w',β',h3,h4,.inl h1⟩
   ·obtain ⟨v',w',β',h1,h2,h3⟩:=wd hρ hc hs hr
    rcases h1 with h1 | ⟨h1,rfl⟩
    ·exact ⟨v',w',β',h2,h3,.inl h1⟩
    ·exact ⟨undef,w',β',h2,h3,.inr ⟨h1,rfl⟩⟩
theorem R5 {cf:aX}{ops:Array Oper}{cs:List Frame}(Q:Exit->Act->List Frame->World->Prop): ∀ (rest:List Oper)(i:Nat){β:Inj}{tm tm':List Value}{a:Act}{h h':Heap}{w:World},
  ops.toList.drop i=rest->(rest.all fun o=> !aE o)=true->dc P gl cf ops rest tm h=some (tm',h')->Sim β h w->Gl gl β->LRel β tm a.tmps.toList->
  (∀ a' w' β',Step β h w β' h' w'->LRel β' tm' a'.tmps.toList->a'.defers=a.defers->Q .normal a' cs w')->wpOpsS P ops Q (List.range' i rest.length) a cs w
 | [],i,β,tm,tm',a,h,h',w,hd,_,hr,hs,hg,ht,hk=>by
  simp only [dc,Option.some.injEq,Prod.mk.injEq] at hr
  obtain ⟨rfl,rfl⟩:=hr
  exact hk a w β (Step.refl hs) ht rfl
 | o::rest,i,β,tm,tm',a,h,h',w,hd,hall,hr,hs,hg,ht,hk=>by
  have ho:ops[i]?=some o:=by
   have:(ops.toList.drop i)[0]?=some o:=by rw [hd]; rfl
   rw [List.getElem?_drop] at this
   rw [<-Array.getElem?_toList]; simpa using this
  have hd':ops.toList.drop (i+1)=rest:=by rw [<-List.drop_drop,hd]; rfl
  simp only [List.all_cons,Bool.and_eq_true,Bool.not_eq_true'] at hall
  simp only [List.length_cons,List.range'_succ,wpOpsS,ho]
  simp only [dc] at hr
  split at hr
  ·next hw=>
   rw [gw ht hw]
   simp only [if_true]
   split at hr
   ·next v u hop=>
    obtain ⟨v',w',β',hst,hv,hrun⟩:=Qx hs hg ht hall.1 hop
    have hgo:=R5 (cs:=cs) Q rest (i+1) hd' (by simpa using hall.2) hr hst.sim (hg.mono hst.le) (f9 (ht.mono hst.le) o.dst hv) fun a' w2 β2 h1 h2 h3=>hk a' w2 β2 (hst.trans h1) h2 (h3.trans (bH a o.dst v'))
    rcases hrun with hrun | ⟨hrun,rfl⟩
    ·rw [hrun]; exact hgo
    ·rw [hrun]; exact hgo
   ·cases hr
  ·next hw=>
   rw [gw ht hw]
   simp only [Bool.false_eq_true,if_false]
   exact R5 (cs:=cs) Q rest (i+1) hd' (by simpa using hall.2) hr hs hg (f9 ht o.dst (.undef β)) fun a' w2 β2 h1 h2 h3=>hk a' w2 β2 h1 h2 (h3.trans (bH a o.dst undef))
  ·cases hr
noncomputable def KH (P:Program)(fn:Func)(ops0 ops1:Array Oper)(c:Operand)(n:Nat):Bool:=
 match ops0.toList with
 | o::rest=>match o.dst with
  | some d=>match dc P nP dj ops0 rest ((List.replicate n junk++List.replicate (fn.ntmps - n) undef).set d .nilIface) ⟨0,.nil⟩ with
   | some (tm1,h1)=>match dc P nP dj ops1 ops1.toList tm1 h1 with
    | some (tm2,_)=>match ev nP tm2 c with
     | .bool false=>(rest.all fun o=> !aE o) && (ops1.toList.all fun o=> !aE o) && o.guard.isNone && fn.results.size == 0
     | _=>false
    | none=>false
   | none=>false
  | none=>false
 | []=>false
theorem Ss {fC:FuncId}{fn:Func}{i0 i1 n:Nat}{o0:Oper}{rest0:List Oper}{ops1:Array Oper}{c:Operand}{X:Code}(hf:P.funcs[fC]?=some fn)(hb:fn.body=some (.seq (.region i0 (o0::rest0).toArray false) (.seq (.region i1 ops1 false) (.cond c X .skip))))
  (ho:o0.op = .call { callee:= .builtin .recover,args:= #[],argTypes:= #[] }) (hrun:KH P fn (o0::rest0).toArray ops1 c n=true) (args:Array Value) (w:World) (hn:args.size=n):
  CallsDIn Fence.wide 0 P fC args .returning w fun e u' w'=>(∃ v,e = .returned v)/\u' = .returning/\Below w.heap.size w w':=by
 subst hn
 unfold KH at hrun
 simp only at hrun
 split at hrun
 ·next d hd=>
  split at hrun
  ·next tm1 h1 hr1=>
   split at hrun
   ·next tm2 h2 hr2=>
    split at hrun
    ·next hev=>
     simp only [Bool.and_eq_true,beq_iff_eq,Option.isNone_iff_eq_none] at hrun
     obtain ⟨⟨⟨hall0,hall1⟩,hgd⟩,hres⟩:=hrun
     refine tr hf hb fun c₀ cs hu=> ?_
     refine wpS_seq (wpS_region ?_)
     have hjunk: ∀ (l:List Value),LRel β0 (List.replicate l.length junk) l:=fun l=>⟨by simp,fun i v v' h1 h2=>by
      rw [List.getElem?_replicate] at h1
      split at h1
      ·obtain rfl:=oI h1; exact .junk v'
      ·cases h1⟩
     have hrep: ∀ k,LRel β0 (List.replicate k undef) (List.replicate k undef):=fun k=>⟨rfl,fun i v v' h1 h2=>by
      rw [List.getElem?_replicate] at h1 h2
      split at h1
      ·next hi=>rw [if_pos hi] at h2; obtain rfl:=oI h1; obtain rfl:=oI h2; exact .undef _
      ·cases h1⟩
     have ht0:LRel β0 (List.replicate args.size junk++List.replicate (fn.ntmps - args.size) undef) (args++Array.replicate (fn.ntmps - args.size) undef).toList:=by
      simp only [Array.toList_append,Array.toList_replicate]
      have:=hjunk args.toList
      rw [Array.length_toList] at this
      exact this.append (hrep _)
     have hw0: ∀ t,Region.wanted o0 (yielded (o0::rest0).toArray t)=true:=fun t=>by simp [Region.wanted,hgd]
     have hrec: ∀ (ρ:Operand->Value),(execOp ρ o0).run P w = .ok .recover w:=fun ρ=>by
      unfold execOp
      simp only [ho,resolve,Sem.run_bind,Sem.run_pure,Result.andThen_ok,invoke]
      rfl
     have hnone:recoverD (c₀::cs)=none:=by simp [recoverD,hu]
     show wpOpsS P (o0::rest0).toArray _ (List.range (rest0.length+1)) _ _ w
     rw [List.range_eq_range',List.range'_succ]
     rw [wpOpsS]
     simp only [List.getElem?_toArray,List.getElem?_cons_zero,hw0,if_true,hrec,hnone]
     rw [hd]
     refine R5 (cf:=dj) (gl:=nP) _ rest0 1 (by simp) hall0 hr1 (E0 0 w) gl_nil (f9 ht0 (some d) (v:= .nilIface) .nilIface) fun a1 w1 β1 hst1 ht1 hd1=> ?_
     refine wpS_seq (wpS_region ?_)
     rw [<-Array.length_toList,List.range_eq_range']
     refine R5 (cf:=dj) (gl:=nP) _ ops1.toList 0 (by simp) hall1 hr2 hst1.sim (gl_nil.mono hst1.le) ht1 fun a2 w2 β2 hst2 ht2 hd2=> ?_
     refine wpS_cond (t:=false) ?_ ?_
     ·have:=wt (gl_nil.mono (hst1.trans hst2).le) ht2 c
      rw [hev] at this
      exact this.inv_bool
     ·show Code.wpS P .skip _ a2 (c₀::cs) w2
      refine wpS_of_wp (wp_skip ?_)
      refine ⟨hd2.trans (hd1.trans (bH _ _ _)),.returning,by cases c₀; simp_all,.tuple #[],?_,⟨⟨_,rfl⟩,rfl,q8 (hst1.trans hst2)⟩⟩
      have:fn.results = #[]:=Array.eq_empty_of_size_eq_zero hres
      simp [results,this]
    ·cases hrun
   ·cases hrun
  ·cases hrun
 ·cases hrun
end
end Go.Ab
end
section
namespace Go.Proofs.YtoabjjimjldcfaaGreatDoor
open Go Go.Ab Go.RowKit
theorem Td:(((Tryz.prog.funcs.toList.drop 0).take 40).all fun f=>cq f)=true:=by kernel_rfl
theorem To:(((Tryz.prog.funcs.toList.drop 40).take 40).all fun f=>cq f)=true:=by kernel_rfl
theorem RC:(((Tryz.prog.funcs.toList.drop 80).take 40).all fun f=>cq f)=true:=by kernel_rfl
theorem Sr:(((Tryz.prog.funcs.toList.drop 120).take 40).all fun f=>cq f)=true:=by kernel_rfl
theorem S9:(((Tryz.prog.funcs.toList.drop 160).take 40).all fun f=>cq f)=true:=by kernel_rfl
theorem Tw:(((Tryz.prog.funcs.toList.drop 200).take 40).all fun f=>cq f)=true:=by kernel_rfl
theorem LL:Tryz.prog.funcs.toList.length=230:=by kernel_rfl
theorem Q0 (i:Nat)(fn:Func)(h:Tryz.prog.funcs.toList[i]?=some fn):cq fn=true:=by
 have key: ∀ a,((Tryz.prog.funcs.toList.drop a).take 40).all (fun f=>cq f)=true->a<=i->i < a+40->cq fn=true:=fun a ha h1 h2=>by
  refine List.all_eq_true.1 ha fn (List.mem_of_getElem? (i:=i - a) ?_)
  rw [List.getElem?_take,if_pos (by omega),List.getElem?_drop,show a+(i - a)=i by omega]
  exact h
 have hlt:i < 230:=by
  have:=(List.getElem?_eq_some_iff.1 h).1
  rw [LL] at this; exact this
 by_cases h0:i < 40
 ·exact key 0 Td (by omega) (by omega)
 by_cases h1:i < 80
 ·exact key 40 To (by omega) (by omega)
 by_cases h2:i < 120
 ·exact key 80 RC (by omega) (by omega)
 by_cases h3:i < 160
 ·exact key 120 Sr (by omega) (by omega)
 by_cases h4:i < 200
 ·exact key 160 S9 (by omega) (by omega)
 exact key 200 Tw (by omega) (by omega)
theorem NM:(Tryz.prog.funcs.toList.all fun f=> !(f.name == "runtime.NumGoroutine"))=true:=by kernel_rfl
theorem text_ok:TextOk Tryz.prog:={
 names:=fun _ fn h=>by
  have hm:fn∈Tryz.prog.funcs.toList:=by
   rw [<-Array.getElem?_toList] at h
   exact List.mem_of_getElem? h
  have:=List.all_eq_true.1 NM fn hm
  simpa using this
 draws:=fun f fn h=>Q0 f fn (by rw [Array.getElem?_toList]; exact h) }
theorem Ct:fE Tryz.prog nP 194 gr:=xe (fn:=(Tryz.prog.funcs[194]?).getD default) (by kernel_rfl) (by kernel_rfl) (by kernel_rfl) (by kernel_rfl) (by kernel_rfl)
theorem Bn:fE Tryz.prog nP 196 dV:=um (fn:=(Tryz.prog.funcs[196]?).getD default) (by kernel_rfl) (by kernel_rfl) (by kernel_rfl) (by kernel_rfl) (by kernel_rfl)
def seqL:Code->Code
 | .seq a _=>a
 | c=>c
def seqR:Code->Code
 | .seq _ b=>b
 | c=>c
noncomputable def CJ:Code:=(Tryz.f134.body).getD .skip
theorem uO (args:Array Value)(w:World)(h:args.size=2):CallsDIn Fence.wide 0 Tryz.prog 157 args .returning w fun e u' w'=>(∃ v,e = .returned v)/\u' = .returning/\Below w.heap.size w w':=
 Ss (n:=2) Tryz.func157 rfl rfl (by kernel_rfl) args w h
theorem FO:fE Tryz.prog nP 134 (rP Tryz.prog nP Tryz.f134 (seqL CJ) (seqR (seqR CJ)) 5):=
 Hu text_ok.names Tryz.func134 rfl rfl rfl rfl rfl rfl rfl Tryz.func157 rfl uO (by kernel_rfl) (by kernel_rfl)
noncomputable def Xz:nK:=[(194,.noEsc),(196,.idxByte),(134,.defer Tryz.f134 (seqL CJ) (seqR (seqR CJ)) 5)]
theorem Ty:pk Tryz.prog nP Xz:=eU Ct (eU Bn (eU FO (CR)))
end Go.Proofs.YtoabjjimjldcfaaGreatDoor
end
section
namespace Go.Proofs.YtoabjjimjldcfaaGreatDoor
open Go Go.Ab
def Ry:Nat->Bool:=fun g=>Nat.beq g 1
noncomputable def W6:nK:=(9,.memo [([],.bool true)])::Xz
noncomputable def SS:Sx:=⟨Tryz.prog,Ry,E5 Tryz.prog Ry W6⟩
@[go_sem] theorem Zh:SS.P=Tryz.prog:=rfl
@[go_sem] theorem YX:SS.gl=Ry:=rfl
attribute [go_sem] Tryz.underlying0 Tryz.underlying1 Tryz.underlying2 Tryz.underlying3 Tryz.underlying4 Tryz.underlying5 Tryz.underlying6 Tryz.underlying7 Tryz.underlying8 Tryz.underlying9 Tryz.underlying10 Tryz.underlying11 Tryz.underlying12 Tryz.underlying13 Tryz.underlying14 Tryz.underlying15 Tryz.underlying16 Tryz.underlying17 Tryz.underlying18 Tryz.underlying19 Tryz.underlying20 Tryz.underlying21 Tryz.underlying22 Tryz.underlying23 Tryz.underlying24 Tryz.underlying25 Tryz.underlying26 Tryz.underlying27 Tryz.underlying28 Tryz.underlying29 Tryz.underlying30 Tryz.underlying31 Tryz.underlying32 Tryz.underlying33 Tryz.underlying34 Tryz.underlying35 Tryz.underlying36 Tryz.underlying37 Tryz.underlying38 Tryz.underlying39 Tryz.underlying40 Tryz.underlying41 Tryz.underlying42 Tryz.underlying43 Tryz.underlying44 Tryz.underlying45 Tryz.underlying46 Tryz.underlying47 Tryz.underlying48 Tryz.underlying49 Tryz.underlying50 Tryz.underlying51 Tryz.underlying52 Tryz.underlying53 Tryz.underlying54 Tryz.underlying55 Tryz.underlying56 Tryz.underlying57 Tryz.underlying58 Tryz.underlying59 Tryz.underlying60 Tryz.underlying61 Tryz.underlying62 Tryz.underlying63 Tryz.underlying64 Tryz.underlying65 Tryz.underlying66 Tryz.underlying67 Tryz.underlying68 Tryz.underlying69 Tryz.underlying70 Tryz.underlying71 Tryz.underlying72 Tryz.underlying73 Tryz.underlying74 Tryz.underlying75 Tryz.underlying76 Tryz.underlying77 Tryz.underlying78 Tryz.underlying79 Tryz.underlying80 Tryz.underlying81 Tryz.underlying82 Tryz.underlying83 Tryz.underlying84 Tryz.underlying85 Tryz.underlying86 Tryz.underlying87 Tryz.underlying88 Tryz.underlying89 Tryz.underlying90 Tryz.underlying91 Tryz.underlying92 Tryz.underlying93 Tryz.underlying94 Tryz.underlying95 Tryz.underlying96 Tryz.underlying97 Tryz.underlying98 Tryz.underlying99 Tryz.underlying100 Tryz.underlying101 Tryz.underlying102 Tryz.underlying103 Tryz.underlying104 Tryz.underlying105 Tryz.underlying106 Tryz.underlying107 Tryz.underlying108 Tryz.underlying109 Tryz.underlying110 Tryz.underlying111 Tryz.underlying112 Tryz.underlying113 Tryz.underlying114 Tryz.underlying115 Tryz.underlying116 Tryz.underlying117 Tryz.underlying118 Tryz.underlying119 Tryz.underlying120 Tryz.underlying121 Tryz.underlying122 Tryz.underlying123 Tryz.underlying124 Tryz.underlying125 Tryz.underlying126 Tryz.underlying127 Tryz.underlying128 Tryz.underlying129 Tryz.underlying130 Tryz.underlying131 Tryz.underlying132 Tryz.underlying133 Tryz.underlying134 Tryz.underlying135 Tryz.underlying136 Tryz.underlying137 Tryz.underlying138 Tryz.underlying139 Tryz.underlying140 Tryz.underlying141 Tryz.underlying142 Tryz.underlying143 Tryz.underlying144 Tryz.underlying145 Tryz.underlying146 Tryz.underlying147 Tryz.underlying148 Tryz.underlying149 Tryz.underlying150 Tryz.underlying151 Tryz.underlying152 Tryz.underlying153 Tryz.underlying154 Tryz.underlying155 Tryz.underlying156 Tryz.underlying157 Tryz.underlying158 Tryz.underlying159 Tryz.underlying160 Tryz.underlying161 Tryz.underlying162 Tryz.underlying163 Tryz.underlying164 Tryz.underlying165 Tryz.underlying166 Tryz.underlying167 Tryz.underlying168 Tryz.underlying169 Tryz.underlying170 Tryz.underlying171 Tryz.underlying172 Tryz.underlying173 Tryz.underlying174 Tryz.underlying175 Tryz.underlying176 Tryz.underlying177 Tryz.underlying185 Tryz.underlying186 Tryz.underlying188 Tryz.underlying189 Tryz.underlying191 Tryz.underlying192 Tryz.underlying194 Tryz.underlying195 Tryz.underlying196 Tryz.underlying197 Tryz.underlying198 Tryz.underlying199 Tryz.underlying201
end Go.Proofs.YtoabjjimjldcfaaGreatDoor
end
section
namespace Go.Ab
open Go
noncomputable section
def aw (b:Bool)(A B:Prop):Prop:=Bool.rec (motive:=fun _=>Prop) B A b
theorem ae {b:Bool}{A B:Prop}(h1:b=true->A)(h2:b=false->B):aw b A B:=by
 cases b with
 | true=>exact h1 rfl
 | false=>exact h2 rfl
theorem sU {b:Bool}{A B:Prop}(h:aw b A B):(b=true/\A)\/(b=false/\B):=by
 cases b with
 | true=>exact .inl ⟨rfl,h⟩
 | false=>exact .inr ⟨rfl,h⟩
abbrev TS:=List Value
abbrev aj:=Exit->TS->Heap->Prop
abbrev TH:=TS->Heap->Prop
def fr (tm:TS):Fr:=fun t=>tm.getD t undef
def KA (P:Program)(t:TypeId)(K:Value->Prop):Prop:=match P.underlying t with
 | some (.int k)=> ∃ n:Int,K (.int k n)
 | some .bool=> ∃ b:Bool,K (.bool b)
 | some .string=> ∃ l:List UInt8,K (aa l)
 | some (.slice _)=> ∃ (a:Option Addr)(n c:Nat),K (.slice a n c)
 | some (.pointer _)=> ∃ a:Option Addr,K (.pointer a)
 | some (.struct _)=> ∃ cs:List Value,K (.agg ⟨cs⟩)
 | some (.array ..)=> ∃ cs:List Value,K (.agg ⟨cs⟩)
 | some (.func ..)=> ∃ (g:Nat)(a c:List Value),K (.func (.func g) ⟨a⟩ ⟨c⟩)
 | _=> ∃ v:Value,K v
def UG (P:Program):List TypeId->(List Value->Prop)->Prop
 | [],K=>K []
 | t::ts,K=>KA P t fun x=>UG P ts fun xs=>K (x::xs)
def KK (P:Program)(t:TypeId)(K:Value->Prop):Prop:=match P.underlying t with
 | some (.tuple ts)=>UG P ts.toList fun vs=>K (.tuple ⟨vs⟩)
 | _=>KA P t K
theorem zM {P:Program}{t:TypeId}{K:Value->Prop}(hx:KA P t K): ∃ v,K v:=by
 unfold KA at hx
 split at hx
 ·obtain ⟨_,h⟩:=hx; exact ⟨_,h⟩
 ·obtain ⟨_,h⟩:=hx; exact ⟨_,h⟩
 ·obtain ⟨_,h⟩:=hx; exact ⟨_,h⟩
 ·obtain ⟨_,_,_,h⟩:=hx; exact ⟨_,h⟩
 ·obtain ⟨_,h⟩:=hx; exact ⟨_,h⟩
 ·obtain ⟨_,h⟩:=hx; exact ⟨_,h⟩
 ·obtain ⟨_,h⟩:=hx; exact ⟨_,h⟩
 ·obtain ⟨_,_,_,h⟩:=hx; exact ⟨_,h⟩
 ·exact hx
theorem D2 {P:Program}: ∀ {ts:List TypeId}{K:List Value->Prop},UG P ts K-> ∃ vs,K vs
 | [],_,hx=>⟨_,hx⟩
 | t::ts,K,hx=>by
  obtain ⟨x,h⟩:=zM hx
  obtain ⟨xs,h⟩:=D2 h
  exact ⟨_,h⟩
theorem rH {P:Program}{t:TypeId}{K:Value->Prop}(hx:KK P t K): ∃ v,K v:=by
 unfold KK at hx
 split at hx
 ·obtain ⟨_,h⟩:=D2 hx; exact ⟨_,h⟩
 ·exact zM hx
def KW (P:Program)(t:TypeId)(r:Option Value)(h:Heap)(K:VH):Prop:=KK P t fun x=>r=some x/\K x h
def YV (r:Option Value)(h:Heap)(K:VH):Prop:= ∃ a:Addr,r=some (.pointer (some a))/\K (.pointer (some a)) h
def Wp (r:Option (Value×Upd))(h:Heap)(K:VH):Prop:= ∃ v u,r=some (v,u)/\K v (u.app h)
def Yv (r:Option (Value×Upd))(h:Heap)(K:VH):Prop:= ∃ u,r=some (undef,u)/\K undef (u.app h)
def YY (r:Option (Value×Upd))(h:Heap)(K:VH):Prop:= ∃ (a:Option Addr)(n c:Nat)(u:Upd),r=some (.slice a n c,u)/\K (.slice a n c) (u.app h)
def kw (k:Nat):Value:= .pointer (some ⟨k,0,none⟩)
def nq (n c k:Nat):Value:= .slice (some ⟨k,0,none⟩) n c
abbrev OA:Type:=Option Addr
abbrev LV:Type:=List Value
abbrev LB:Type:=List UInt8
abbrev pA (k:Nat):Value:= .pointer (some ⟨k,0,none⟩)
abbrev sA (k n c:Nat):Value:= .slice (some ⟨k,0,none⟩) n c
abbrev nA:Value:= .slice none 0 0
abbrev iA (n:Nat):Value:= .int .i64 (n:Int)
abbrev xI (k:IntKind)(r:Option Value)(K:Int->Prop):Prop:= ∃ n:Int,r=some (.int k n)/\K n
abbrev xB (r:Option Value)(K:Bool->Prop):Prop:= ∃ b:Bool,r=some (.bool b)/\K b
abbrev xS (r:Option Value)(K:List UInt8->Prop):Prop:= ∃ l:List UInt8,r=some (aa l)/\K l
abbrev xL (r:Option Value)(K:Option Addr->Nat->Nat->Prop):Prop:= ∃ (a:Option Addr)(n c:Nat),r=some (.slice a n c)/\K a n c
abbrev xO (r:Option Value)(K:Option Addr->Prop):Prop:= ∃ a:Option Addr,r=some (.pointer a)/\K a
abbrev xP (r:Option Value)(K:Addr->Prop):Prop:= ∃ a:Addr,r=some (.pointer (some a))/\K a
abbrev xA (r:Option Value)(K:List Value->Prop):Prop:= ∃ cs:List Value,r=some (.agg ⟨cs⟩)/\K cs
abbrev xF (r:Option Value)(K:Nat->List Value->List Value->Prop):Prop:= ∃ (g:Nat)(a c:List Value),r=some (.func (.func g) ⟨a⟩ ⟨c⟩)/\K g a c
abbrev yI (k:IntKind)(r:Value)(K:Int->Prop):Prop:= ∃ n:Int,r = .int k n/\K n
abbrev yB (r:Value)(K:Bool->Prop):Prop:= ∃ b:Bool,r = .bool b/\K b
abbrev yS (r:Value)(K:List UInt8->Prop):Prop:= ∃ l:List UInt8,r=aa l/\K l
abbrev yL (r:Value)(K:Option Addr->Nat->Nat->Prop):Prop:= ∃ (a:Option Addr)(n c:Nat),r = .slice a n c/\K a n c
abbrev yA (r:Value)(K:List Value->Prop):Prop:= ∃ cs:List Value,r = .agg ⟨cs⟩/\K cs
abbrev yV (r:Value)(K:Value->Prop):Prop:= ∃ v:Value,r=v/\K v
abbrev xU (r:Option (Value×Upd))(h:Heap)(K:Upd->Heap->Prop):Prop:= ∃ u:Upd,r=some (undef,u)/\K u (u.app h)
abbrev xE (r:Option (Value×Upd))(h:Heap)(K:Option Addr->Nat->Nat->Upd->Heap->Prop):Prop:= ∃ (a:Option Addr)(n c:Nat)(u:Upd),r=some (.slice a n c,u)/\K a n c u (u.app h)
abbrev xG (r:Option (Value×Upd))(h:Heap)(K:Value->Upd->Heap->Prop):Prop:= ∃ (v:Value)(u:Upd),r=some (v,u)/\K v u (u.app h)
abbrev xN (r:Option (Blk×(Nat->Value)))(h:Heap)(K:Blk->Heap->Prop):Prop:= ∃ B:Blk,r=some (B,kw)/\K B (h.push B)
abbrev xR (r:Option (Blk×(Nat->Value)))(h:Heap)(K:Blk->Nat->Nat->Heap->Prop):Prop:= ∃ (B:Blk)(n c:Nat),r=some (B,nq n c)/\K B n c (h.push B)
abbrev zN (r:Option (Blk×(Nat->Value)))(K:Blk->Prop):Prop:= ∃ B:Blk,r=some (B,kw)/\K B
abbrev zR (r:Option (Blk×(Nat->Value)))(K:Blk->Nat->Nat->Prop):Prop:= ∃ (B:Blk)(n c:Nat),r=some (B,nq n c)/\K B n c
def Yz (r:Option (Blk×(Nat->Value)))(h:Heap)(K:VH):Prop:= ∃ B,r=some (B,kw)/\K (kw h.next) (h.push B)
def YN (r:Option (Blk×(Nat->Value)))(h:Heap)(K:VH):Prop:= ∃ B n c,r=some (B,nq n c)/\K (nq n c h.next) (h.push B)
def Y6 (r:Option (Blk×(Nat->Value)))(h:Heap)(K:VH):Prop:= ∃ B,r=some (B,fun k=> .map (some k))/\K (.map (some h.next)) (h.push B)
def bi (P:Program)(t:TypeId):Option (Blk×(Nat->Value)):=aG P (fun _=>undef) ⟨none,.alloc t,0,"",#[],none⟩
def fp (P:Program)(t:TypeId)(v:Value):Option (Blk×(Nat->Value)):=aG P (fun _=>v) ⟨none,.box t (.tmp 0),0,"",#[],none⟩
def aW (P:Program)(t:TypeId)(l c:Value):Option (Blk×(Nat->Value)):=aG P (fun x=>match x with | .tmp 0=>l | _=>c) ⟨none,.makeSlice t (.tmp 0) (.tmp 1),0,"",#[],none⟩
def ay (P:Program)(t:TypeId)(len:Nat)(vs:List (Nat×Value)):Option (Blk×(Nat->Value)):=
 aG P (fun x=>match x with | .tmp i=>(vs.getD i (0,undef)).2 | _=>undef) ⟨none,.buildSlice t len ((List.range vs.length).map fun i=>((vs.getD i (0,undef)).1,.tmp i)).toArray,0,"",#[],none⟩
def Qf (c a b:Value)(h:Heap)(K:VH):Prop:=match c with
 | .bool t=>aw t (K a h) (K b h)
 | _=>False
def Vr (P:Program)(op:BinOp)(t ty:TypeId)(x y:Value)(h:Heap)(K:VH):Prop:=match op with
 | .quo | .rem | .shl | .shr=>KW P ty (am P op t x y) h K
 | .add=>(match x with | .string _=>KW P ty (am P .add t x y) h K | _=>nZ (am P .add t x y) h K)
 | .eql=>(match x with | .pointer _=>KW P ty (am P .eql t x y) h K | _=>nZ (am P .eql t x y) h K)
 | .neq=>(match x with | .pointer _=>KW P ty (am P .neq t x y) h K | _=>nZ (am P .neq t x y) h K)
 | op=>nZ (am P op t x y) h K
def Rb (S:Sx)(ty:TypeId)(f:Value)(args:List Value)(h:Heap)(K:VH):Prop:=match f with
 | .func (.func g) first captured=>aw (Nat.blt g YB) (FW S g (first.toList++args++captured.toList) h fun v h=>KK S.P ty fun x=>v=x/\K x h) False
 | _=>False
def xZ (P:Program)(s d:TypeId)(x:Value)(h:Heap):Option Value:=aH P (fun _=>x) ⟨none,.convert s d (.tmp 0),0,"",#[],none⟩ h
def YR (t:Option TypeDesc):Bool:=match t with
 | some .unsafePointer=>true
 | _=>false
def uN (P:Program)(t:TypeId)(m k x:Value)(h:Heap):Option (Value×Upd):=match P.underlying t,m with
  | some (.map kt _),.map (some r)=>match h.get r with
   | some (.map es)=>if nM P kt k then (iR P kt k x es).map fun es'=>(undef,.set r (.map es')) else none
   | _=>none
  | _,_=>none
def A2 (P:Program)(t:TypeId):Option (Blk×(Nat->Value)):=aG P (fun _=>undef) ⟨none,.makeMap t none,0,"",#[],none⟩
def VY (S:Sx)(ρ:Operand->Value)(o:Oper)(h:Heap)(K:VH):Prop:=match o.op with
 | .move x | .assign x=>K (ρ x) h
 | .pick c a b=>Qf (ρ c) (ρ a) (ρ b) h K
 | .binOp op t x y _=>Vr S.P op t o.type (ρ x) (ρ y) h K
 | .unOp op _ x=>nZ (AP op (ρ x)) h K
 | .extract x i=>nZ (P8 (ρ x) i) h K
 | .index t x i=>KW S.P o.type (aQ S.P t (ρ x) (ρ i)) h K
 | .indexAddr t x i=>YV (af S.P t (ρ x) (ρ i)) h K
 | .fieldAddr t x f=>YV (ag S.P t (ρ x) f) h K
 | .field t x f=>KW S.P o.type (OT S.P t (ρ x) f) h K
 | .load t a=>KW S.P t (ah S.P t h (ρ a)) h K
 | .slice t x lo hi mx=>KW S.P o.type (aL S.P t (ρ x) (lo.map ρ) (hi.map ρ) (mx.map ρ) h) h K
 | .store t a x=>Yv (al S.P t (ρ a) (ρ x) h) h K
 | .alloc t=>Yz (bi S.P t) h K
 | .box t x=>Yz (fp S.P t (ρ x)) h K
 | .makeSlice t l c=>YN (aW S.P t (ρ l) (ρ c)) h K
 | .buildSlice .. =>YN (aG S.P ρ o) h K
 | .makeMap t r=>Y6 (match r with | none=>A2 S.P t | some _=>aG S.P ρ o) h K
 | .mapUpdate t m k x=>Yv (uN S.P t (ρ m) (ρ k) (ρ x) h) h K
 | .convert s d x=>(match YR (S.P.underlying s) with | true=>Wp (aK S.P dj ρ o h) h K | false=>(match ρ x with | .int _ _=>nZ (cw S.P s d (ρ x)) h K | .slice _ _ _=>KW S.P o.type (xZ S.P s d (ρ x) h) h K | _=>Wp (aK S.P dj ρ o h) h K))
 | .build t parts=>KW S.P o.type (bE S.P t (parts.toList.map fun p=>(p.1,ρ p.2))) h K
 | .makeFunc .. | .makeInterface .. | .nilCheck .. | .typeAssert .. =>nZ (aD S.P ρ o) h K
 | .call { callee:= .value f,args,.. }=>Rb S o.type (ρ f) (args.toList.map ρ) h K
 | .call { callee:= .builtin .len,args,argTypes }=>(match args.toList,argTypes.toList with | [x],[t]=>(match ρ x with | .map _=>KW S.P o.type (HG S.P t (ρ x) h) h K | _=>nZ (HG S.P t (ρ x) h) h K) | _,_=>False)
 | .call { callee:= .builtin .max,args,.. }=>KW S.P o.type (ks true (args.toList.map ρ)) h K
 | .call { callee:= .builtin .min,args,.. }=>KW S.P o.type (ks false (args.toList.map ρ)) h K
 | .call { callee:= .builtin .append,args,argTypes }=>(match args.toList,argTypes.toList with | [s,x],[t,t']=>YY (aB S.P t t' (ρ s) (ρ x) h) h K | _,_=>False)
 | .call { callee:= .builtin _,.. }=>Wp (aK S.P dj ρ o h) h K
 | _=>Wp (aK S.P dj ρ o h) h K
theorem bt {P:Program}{t:TypeId}{r:Option Value}{h:Heap}{K:VH}(hx:KW P t r h K):nZ r h K:=by
 obtain ⟨v,h1,h2⟩:=rH hx; rw [h1]; exact h2
theorem Ac {r:Option Value}{h:Heap}{K:VH}(hx:YV r h K):nZ r h K:=by
 obtain ⟨v,h1,h2⟩:=hx; rw [h1]; exact h2
theorem mG {r:Option (Value×Upd)}{h:Heap}{K:VH}(hx:Wp r h K):F6 r h K:=by
 obtain ⟨v,u,h1,h2⟩:=hx; rw [h1]; exact h2
theorem zl {r:Option (Value×Upd)}{h:Heap}{K:VH}(hx:Yv r h K):F6 r h K:=by
 obtain ⟨u,h1,h2⟩:=hx; rw [h1]; exact h2
theorem IS {r:Option (Value×Upd)}{h:Heap}{K:VH}(hx:YY r h K):F6 r h K:=by
 obtain ⟨a,n,c,u,h1,h2⟩:=hx; rw [h1]; exact h2
theorem zs {r:Option (Blk×(Nat->Value))}{h:Heap}{K:VH}(hx:Yz r h K):Ws r h K:=by
 obtain ⟨B,h1,h2⟩:=hx; rw [h1]; exact h2
theorem zr {r:Option (Blk×(Nat->Value))}{h:Heap}{K:VH}(hx:YN r h K):Ws r h K:=by
 obtain ⟨B,n,c,h1,h2⟩:=hx; rw [h1]; exact h2
theorem zD {r:Option (Blk×(Nat->Value))}{h:Heap}{K:VH}(hx:Y6 r h K):Ws r h K:=by
 obtain ⟨B,h1,h2⟩:=hx; rw [h1]; exact h2
theorem Of {S:Sx}{ty:TypeId}{f:Value}{args:List Value}{h:Heap}{K:VH}(hx:Rb S ty f args h K):lH S f args h K:=by
 unfold Rb at hx
 unfold lH
 split at hx
 ·rcases sU hx with ⟨hb,hx⟩ | ⟨_,hx⟩
  ·refine ⟨by simpa [Nat.blt_eq] using hb,hx.mono fun v h hx=> ?_⟩
   obtain ⟨x,rfl,h2⟩:=rH hx
   exact h2
  ·exact hx.elim
 ·exact hx.elim
theorem Pu {P:Program}{op:BinOp}{t ty:TypeId}{x y:Value}{h:Heap}{K:VH}(hx:Vr P op t ty x y h K):nZ (am P op t x y) h K:=by
 unfold Vr at hx
 split at hx
 ·exact bt hx
 ·exact bt hx
 ·exact bt hx
 ·exact bt hx
 ·split at hx
  ·exact bt hx
  ·exact hx
 ·split at hx
  ·exact bt hx
  ·exact hx
 ·split at hx
  ·exact bt hx
  ·exact hx
 ·exact hx
theorem Me {c a b:Value}{h:Heap}{K:VH}(hx:Qf c a b h K):nZ (KJ c a b) h K:=by
 unfold Qf at hx
 split at hx
 ·next t=>
  rcases sU hx with ⟨rfl,h1⟩ | ⟨rfl,h1⟩ <;> exact h1
 ·exact hx.elim
theorem lV {S:Sx}{E:Fr}{o:Oper}{h:Heap}{K:VH}(hx:VY S (bF S.gl E) o h K):dC S E o h K:=by
 obtain ⟨dst,op,ty,pos,after,guard⟩:=o
 unfold VY at hx
 split at hx
 ·next e=>subst e; exact hx
 ·next e=>subst e; exact hx
 ·next e=>subst e; rw [Lx]; exact Me hx
 ·next e=>subst e; rw [Kh]; exact Pu hx
 ·next e=>subst e; rw [Mo]; exact hx
 ·next e=>subst e; rw [E4]; exact hx
 ·next e=>subst e; rw [IU]; exact bt hx
 ·next e=>subst e; rw [AO]; exact Ac hx
 ·next e=>subst e; rw [By]; exact Ac hx
 ·next e=>subst e; rw [JO]; exact bt hx
 ·next e=>subst e; rw [NU]; exact bt hx
 ·next e=>subst e; rw [Jw]; exact bt hx
 ·next e=>subst e; rw [Ak]; exact zl hx
 ·next e=>subst e; rw [ii _ _ _ _ _ rfl rfl rfl rfl]; exact zs hx
 ·next e=>subst e; rw [ii _ _ _ _ _ rfl rfl rfl rfl]; exact zs hx
 ·next e=>subst e; rw [ii _ _ _ _ _ rfl rfl rfl rfl]; exact zr hx
 ·next e=>subst e; rw [ii _ _ _ _ _ rfl rfl rfl rfl]; exact zr hx
 ·next t r e=>
  subst e
  rw [ii _ _ _ _ _ rfl rfl rfl rfl]
  cases r with
  | none=>exact zD hx
  | some x=>exact zD hx
 ·next t m k x e=>
  subst e
  rw [dD _ _ _ _ rfl]
  have he:aK S.P dj (bF S.gl E) ⟨dst,.mapUpdate t m k x,ty,pos,after,guard⟩ h=uN S.P t (bF S.gl E m) (bF S.gl E k) (bF S.gl E x) h:=rfl
  rw [he]
  exact zl hx
 ·next e=>
  subst e
  rw [dD _ _ _ _ rfl]
  split at hx
  ·exact mG hx
  split at hx
  ·next k n hv=>
   unfold aK
   generalize hp:aD S.P (bF S.gl E) _=r
   cases r with
   | some v=>rw [show cw S.P _ _ _=some v from hp] at hx; exact hx
   | none=>rw [show cw S.P _ _ _=none from hp] at hx; exact hx.elim
  ·next a n c hv=>
   obtain ⟨v,h1,h2⟩:=rH hx
   have hp: ∀ s d,cw S.P s d (.slice a n c)=none:=fun s d=>by unfold cw; split <;> simp_all
   have e1: ∀ s d x,bF S.gl E x = .slice a n c->aD S.P (bF S.gl E) ⟨dst,.convert s d x,ty,pos,after,guard⟩=none:=fun s d x hv=>by
    show cw S.P s d (bF S.gl E x)=none
    rw [hv]; exact hp s d
   have e2: ∀ s d x,aH S.P (bF S.gl E) ⟨dst,.convert s d x,ty,pos,after,guard⟩ h=xZ S.P s d (bF S.gl E x) h:=fun s d x=>rfl
   unfold aK
   rw [e1 _ _ _ hv]
   dsimp only
   rw [e2,h1]
   exact h2
  ·exact mG hx
 ·next e=>subst e; rw [bw _ _ _ _ _ _ _ _ _ rfl]; exact bt hx
 ·next e=>subst e; rw [bw _ _ _ _ _ _ _ _ _ rfl]; exact hx
 ·next e=>subst e; rw [bw _ _ _ _ _ _ _ _ _ rfl]; exact hx
 ·next e=>subst e; rw [bw _ _ _ _ _ _ _ _ _ rfl]; exact hx
 ·next e=>subst e; rw [bw _ _ _ _ _ _ _ _ _ rfl]; exact hx
 ·next e=>subst e; exact Of hx
 ·next args ats e=>
  subst e
  split at hx
  ·next x t h1 h2=>
   obtain ⟨args⟩:=args; obtain ⟨ats⟩:=ats
   obtain rfl:args=[x]:=h1
   obtain rfl:ats=[t]:=h2
   have hx':nZ (HG S.P t (bF S.gl E x) h) h K:=by
    split at hx
    ·exact bt hx
    ·exact hx
   exact (QZ S E dst ty pos after guard h K x t).symm ▸ hx'
  ·exact hx.elim
 ·next e=>subst e; rw [Ra]; exact bt hx
 ·next e=>subst e; rw [QQ]; exact bt hx
 ·next args ats e=>
  subst e
  split at hx
  ·next s x t t' h1 h2=>
   obtain ⟨args⟩:=args; obtain ⟨ats⟩:=ats
   obtain rfl:args=[s,x]:=h1
   obtain rfl:ats=[t,t']:=h2
   exact (HN S E dst ty pos after guard h K s x t t').symm ▸ IS hx
  ·exact hx.elim
 ·next e=>subst e; rw [dD _ _ _ _ rfl]; exact mG hx
 ·next hno _ _=>
  rw [dD _ _ _ _ ?_]
  ·exact mG hx
  ·unfold aE
   split
   ·next e=>simp_all
   ·rfl
def NR:TS->Nat->Value->(TS->Prop)->Prop
 | [],_,_,K=>K []
 | _::l,0,v,K=>K (v::l)
 | x::l,d+1,v,K=>NR l d v fun l=>K (x::l)
def Q2:TS->Nat->(Value->Prop)->Prop
 | [],_,K=>K undef
 | x::_,0,K=>K x
 | _::l,t+1,K=>Q2 l t K
theorem yD: ∀ (l:TS)(d:Nat)(v:Value)(K:TS->Prop),NR l d v K=K (l.set d v)
 | [],_,_,_=>rfl
 | _::_,0,_,_=>rfl
 | x::l,d+1,v,K=>by rw [NR,yD l d v]; rfl
theorem EY: ∀ (l:TS)(t:Nat)(K:Value->Prop),Q2 l t K=K (l.getD t undef)
 | [],_,_=>rfl
 | _::_,0,_=>rfl
 | x::l,t+1,K=>by rw [Q2,EY l t]; rfl
def BS (tm:TS)(dst:Option Tmp)(v:Value)(K:TS->Prop):Prop:=match dst with
 | some d=>NR tm d v K
 | none=>K tm
theorem qf (tm:TS)(dst:Option Tmp)(v:Value)(K:TS->Prop):BS tm dst v K=K (dh tm dst v):=by
 cases dst with
 | none=>rfl
 | some d=>exact yD _ _ _ _
def VV (S:Sx)(tm:TS)(o:Oper)(h:Heap)(K:VH):Prop:=match o.op with
 | .move (.tmp t)=>Q2 tm t fun v=>K v h
 | .assign (.tmp t)=>Q2 tm t fun v=>K v h
 | _=>VY S (ev S.gl tm) o h K
theorem Ha {S:Sx}{tm:TS}{o:Oper}{h:Heap}{K:VH}(hx:VV S tm o h K):VY S (ev S.gl tm) o h K:=by
 unfold VV at hx
 split at hx
 ·next t e=>rw [EY] at hx; unfold VY; rw [e]; exact hx
 ·next t e=>rw [EY] at hx; unfold VY; rw [e]; exact hx
 ·exact hx
def gS (ops:Array Oper)(tm:TS)(guard:Option (Nat×Bool))(A B:TS->Prop):Prop:=match guard with
 | none=>A tm
 | some (j,want)=>match (ops[j]?).bind (·.dst) with
  | some d=>match tm.getD d undef with
   | .bool b=>aw b (NR tm d (.bool true) (Bool.rec (motive:=fun _=>TS->Prop) B A want)) (NR tm d (.bool false) (Bool.rec (motive:=fun _=>TS->Prop) A B want))
   | .tuple _=>B tm
   | _=>False
  | none=>False
def Gj (S:Sx)(ops:Array Oper):List Oper->TS->Heap->TH->Prop
 | [],tm,h,R=>R tm h
 | o::l,tm,h,R=>gS ops tm o.guard (fun tm=>VV S tm o h fun v h=>BS tm o.dst v fun tm=>Gj S ops l tm h R) (fun tm=>BS tm o.dst undef fun tm=>Gj S ops l tm h R)
def Tj (nm:Nat)(Q:TH):FH:=fun E h=> ∃ tm:TS,tm.length=nm/\E=fr tm/\Q tm h
def TR (nm:Nat)(Q:aj):yz:=fun x=>Tj nm (Q x)
def T7 (v:Value)(A B:Prop):Prop:=match v with
 | .bool b=>aw b A B
 | _=>False
def Lp (S:Sx)(nm:Nat)(c:Code)(tm:TS)(h:Heap)(Q:aj):Prop:=xr S nm c (fr tm) h (TR nm Q)
def Xn (B:TH)(Q:aj)(x:Exit)(tm:TS)(h:Heap):Prop:=match x with
 | .normal=>B tm h
 | x=>Q x tm h
def Kl (id:Nat)(Q:aj)(x:Exit)(tm:TS)(h:Heap):Prop:=match x with
 | .exit id'=>(match Nat.beq id' id with | true=>Q .normal tm h | false=>Q (.exit id') tm h)
 | x=>Q x tm h
def room (h:Heap)(n:Nat):Heap:={ h with next:=h.next+n }
def rI:Op->Bool
 | .load .. | .slice .. =>true
 | .call { callee:= .builtin .len,.. }=>true
 | _=>false
def vr:Op->Bool
 | .store .. =>true
 | .call { callee:= .value _,.. }=>true
 | _=>false
def BO (ops:Array Oper)(f:Op->Bool)(j:Nat):Bool:=match ops[j]? with | some o=>f o.op | none=>false
def calm (ops:Array Oper):Bool:=(ops.toList.all fun o=>eP o.op || rI o.op || vr o.op) && (List.range ops.size).all fun e=> !BO ops vr e || (List.range ops.size).all fun j=>(!BO ops vr j || Nat.beq j e) && (!BO ops rI j || (Nat.blt j e && ba (ck ops) e j))
def HM:Op->Bool
 | .alloc .. | .box .. | .makeSlice .. | .buildSlice .. =>true
 | _=>false
def xY:Op->Bool
 | .store .. =>true
 | .call { callee:= .value _,.. }=>true
 | .call { callee:= .builtin .append,.. } | .call { callee:= .builtin .copy,.. } | .call { callee:= .builtin .unsafeSliceData,.. } | .call { callee:= .builtin .unsafeString,.. }=>true
 | _=>false
def UR (b:Bool)(A B:Prop):Prop:=Bool.rec (motive:=fun _=>Prop) B A b
def Kx (S:Sx)(o:Oper)(E:Fr)(v:Value)(h:Heap)(K:Prop):Prop:=match o.op with
 | .load t a=>(ah S.P t h (bF S.gl E a)=some v/\cM 4 v v=true)/\K
 | .slice t x lo hi mx=>(aL S.P t (bF S.gl E x) (lo.map (bF S.gl E)) (hi.map (bF S.gl E)) (mx.map (bF S.gl E)) h=some v/\cM 4 v v=true)/\K
 | _=>(aH S.P (bF S.gl E) o h=some v/\cM 4 v v=true)/\K
def qb (S:Sx)(bf:Nat->Nat->Bool)(j:Nat)(o:Oper)(E:Fr)(v:Value):Heap->List (Nat×Heap)->Bool->Prop->Prop
 | h,[],own,K=>UR own K (Kx S o E v h K)
 | h,(e,h')::r,own,K=>UR ((own && Nat.blt j e) || bf j e) (UR (bf e j) K (qb S bf j o E v h' r (Nat.blt e j) K)) (Kx S o E v h (UR (bf e j) K (qb S bf j o E v h' r (Nat.blt e j) K)))
def vF (S:Sx)(bf:Nat->Nat->Bool)(h:Heap)(es:List (Nat×Heap)):List BN->Nat->Prop->Prop
 | [],_,K=>K
 | (E,o,.read v)::r,j,K=>qb S bf j o E v h es true (vF S bf h es r (j+1) K)
 | _::r,j,K=>vF S bf h es r (j+1) K
def Yr (S:Sx)(ρ:Operand->Value)(o:Oper)(K:Blk->(Nat->Value)->Prop):Prop:=match o.op with
 | .alloc t=> ∃ B,bi S.P t=some (B,kw)/\K B kw
 | .box t x=> ∃ B,fp S.P t (ρ x)=some (B,kw)/\K B kw
 | .makeSlice t l c=> ∃ B n d,aW S.P t (ρ l) (ρ c)=some (B,nq n d)/\K B (nq n d)
 | _=> ∃ B n d,aG S.P ρ o=some (B,nq n d)/\K B (nq n d)
def TP {α:Type}(op:Op)(a b c d:α):α:=match eP op with
 | true=>a
 | false=>match rI op with
  | true=>b
  | false=>match HM op with
   | true=>c
   | false=>d
def uD (S:Sx)(bf:Nat->Nat->Bool)(ops:Array Oper)(base:Nat)(h0:Heap):List Oper->Nat->TS->Heap->List (Nat×Blk)->List BN->TH->Prop
 | [],_,tm,h,pd,recs,R=>vF S bf h0 (fe recs.reverse 0) recs.reverse 0 (R tm (aC h base pd))
 | o::l,j,tm,h,pd,recs,R=>gS ops tm o.guard
   (fun tm=>TP o.op
    (VV S tm o h fun v _=>BS tm o.dst v fun tm'=>uD S bf ops base h0 l (j+1) tm' h pd ((fr tm,o,.pure v)::recs) R)
    (VV S tm o h fun v _=>BS tm o.dst v fun tm'=>uD S bf ops base h0 l (j+1) tm' h pd ((fr tm,o,.read v)::recs) R)
    (Yr S (ev S.gl tm) o fun B f=>BS tm o.dst (f (base+j)) fun tm'=>uD S bf ops base h0 l (j+1) tm' h ((j,B)::pd) ((fr tm,o,.alloc B (f (base+j)))::recs) R)
    (VV S tm o (aC h base (pd.filter fun p=>bf j p.1)) fun v h'=>BS tm o.dst v fun tm'=>uD S bf ops base h0 l (j+1) tm' h' (pd.filter fun p=> !bf j p.1) ((fr tm,o,.eff v h')::recs) R))
   (fun tm=>BS tm o.dst undef fun tm'=>uD S bf ops base h0 l (j+1) tm' h pd ((fr tm,o,.skip)::recs) R)
def mS (ops:Array Oper):Bool:= !pO ops && (ops.toList.all fun o=>eP o.op || rI o.op || HM o.op || xY o.op) && (List.range ops.size).all fun e=> !BO ops xY e || (List.range ops.size).all fun j=> !BO ops xY j || !Nat.blt j e || ba (ck ops) e j
def Cb (tm:TS)(j:Nat):Value:=tm.getD j undef
def JA:Nat->Nat->List (Nat×Value)->(Nat->Value)->TS
 | 0,_,_,_=>[]
 | n+1,j,[],x=>x j::JA n (j+1) [] x
 | n+1,j,(i,v)::l,x=>match Nat.beq i j with
  | true=>v::JA n (j+1) l x
  | false=>x j::JA n (j+1) ((i,v)::l) x
theorem Fs: ∀ (n j:Nat)(l:List (Nat×Value))(x:Nat->Value),(∀ p∈l,p.2=x p.1)->JA n j l x=(List.range' j n).map x
 | 0,_,_,_,_=>by simp [JA]
 | n+1,j,[],x,h=>by simp only [JA,List.range'_succ,List.map_cons]; rw [Fs n (j+1) [] x h]
 | n+1,j,(i,v)::l,x,h=>by
  simp only [JA,List.range'_succ,List.map_cons]
  cases hb:Nat.beq i j with
  | true=>
   dsimp only
   rw [Fs n (j+1) l x fun p hp=>h p (List.mem_cons_of_mem _ hp),<-Nat.eq_of_beq_eq_true hb]
   rw [show v=x i from h (i,v) (List.mem_cons_self ..)]
  | false=>
   dsimp only
   rw [Fs n (j+1) ((i,v)::l) x h]
theorem yR: ∀ (n j:Nat)(l:List (Nat×Value))(x:Nat->Value),(JA n j l x).length=n
 | 0,_,_,_=>by simp [JA]
 | n+1,j,[],x=>by simp only [JA,List.length_cons]; rw [yR n (j+1) [] x]
 | n+1,j,(i,v)::l,x=>by
  simp only [JA]
  cases hb:Nat.beq i j with
  | true=>dsimp only; rw [List.length_cons,yR n (j+1) l x]
  | false=>dsimp only; rw [List.length_cons,yR n (j+1) ((i,v)::l) x]
theorem Ig (f:Nat->Value): ∀ (M:List Nat),∀ p∈M.zip (M.map f),p.2=f p.1
 | [],p,h=>by simp at h
 | a::M,p,h=>by
  rw [List.map_cons,List.zip_cons_cons] at h
  rcases List.mem_cons.1 h with rfl | h
  ·rfl
  ·exact Ig f M p h
theorem Gh {tm:TS}{nm:Nat}(hl:tm.length=nm)(M:List Nat):JA nm 0 (M.zip (M.map (Cb tm))) (Cb tm)=tm:=by
 rw [Fs _ _ _ _ (Ig _ M)]
 refine List.ext_getElem? fun i=> ?_
 rw [List.getElem?_map]
 by_cases h:i < nm
 ·rw [List.getElem?_range' h]
  simp [Cb,gE (show i < tm.length by omega),gD]
 ·rw [List.getElem?_eq_none (by simpa using h),List.getElem?_eq_none (by omega)]; rfl
def bp (S:Sx)(nm:Nat)(M:List Nat)(c:Code)(w:List Value)(h:Heap)(Q:aj):Prop:= ∀ x:Nat->Value,Lp S nm c (JA nm 0 (M.zip w) x) h Q
def Py (S:Sx)(nm:Nat)(M:List Nat)(c:Code)(tm:TS)(h:Heap)(Q:aj):Prop:=match Nat.beq tm.length nm with
 | true=>bp S nm M c (M.map (Cb tm)) h Q
 | false=>Lp S nm c tm h Q
theorem Ji {S:Sx}{nm:Nat}{M:List Nat}{c:Code}{tm:TS}{h:Heap}{Q:aj}(hl:tm.length=nm)(hx:Py S nm M c tm h Q):Lp S nm c tm h Q:=by
 unfold Py at hx
 rw [hl,Nat.beq_refl] at hx
 have:=hx (Cb tm)
 rwa [Gh hl] at this
def wpS (S:Sx)(nm:Nat)(M:List Nat):Code->TS->Heap->aj->Prop
 | .skip,tm,h,Q=>Q .normal tm h
 | .region _ ops draw,tm,h,Q=>(match draw with
  | false=>Gj S ops ops.toList tm h fun tm h=>Q .normal tm h
  | true=>(match calm ops with
   | true=>Gj S ops ops.toList tm (room h ops.size) fun tm h=>Q .normal tm h
   | false=>(match mS ops with
    | true=>uD S (ba (ck ops)) ops h.next (room h ops.size) ops.toList 0 tm (room h ops.size) [] [] fun tm h=>Q .normal tm h
    | false=>Ug S ops (fr tm) h (Tj nm fun tm h=>Q .normal tm h))))
 | .seq a b,tm,h,Q=>wpS S nm M a tm h (Xn (fun tm h=>wpS S nm M b tm h Q) Q)
 | .cond c a b,tm,h,Q=>T7 (ev S.gl tm c) (wpS S nm M a tm h Q) (wpS S nm M b tm h Q)
 | .block id c,tm,h,Q=>wpS S nm M c tm h (Kl id Q)
 | .loop c,tm,h,Q=>Py S nm M c tm h Q
 | .exit id,tm,h,Q=>Q (.exit id) tm h
 | .ret,tm,h,Q=>Q .ret tm h
 | .label _,tm,h,Q=>Q .normal tm h
 | _,_,_,_=>False
end
theorem Ua {tm:TS}{nm:Nat}(h:tm.length=nm):ER nm (fr tm) tm:=⟨h,fun _=>rfl⟩
theorem zp {tm:TS}(gl:Nat->Bool):bF gl (fr tm)=ev gl tm:=((Ua rfl).ev gl).symm
theorem vk {tm:TS}{nm:Nat}(h:tm.length=nm){dst:Option Tmp}(hd:rg nm dst=true)(v:Value):ll (fr tm) dst v=fr (dh tm dst v):=by
 funext t
 exact ((Ua h).put hd v).2 t |>.symm
theorem wY {tm:TS}{d:Nat}{v:Value}(h:tm.getD d undef=v):tm.set d v=tm:=by
 refine List.ext_getElem? fun i=> ?_
 rw [List.getElem?_set]
 split
 ·next e=>
  subst e
  split
  ·next hl=>
   rw [gD,gE hl] at h
   rw [gE hl,<-h]; rfl
  ·next hl=>rw [List.getElem?_eq_none (by omega)]
 ·rfl
theorem zf {ops:Array Oper}{tm:TS}{guard:Option (Nat×Bool)}{A B:TS->Prop}{A' B':Unit->Prop}(hA:A tm->A' ())(hB:B tm->B' ())(hx:gS ops tm guard A B):Rw (wK ops (fr tm) guard) A' B':=by
 cases guard with
 | none=>exact hA hx
 | some g=>
  obtain ⟨j,want⟩:=g
  unfold gS at hx
  rw [Kj]
  dsimp only at hx
  cases hd:(ops[j]?).bind (·.dst) with
  | none=>rw [hd] at hx; exact hx.elim
  | some d=>
   rw [hd] at hx
   dsimp only at hx ⊢
   show Rw (match tm.getD d undef with | .bool b=>some (b == want) | .tuple _=>some false | _=>none) A' B'
   cases hv:tm.getD d undef with
   | bool b=>
    rw [hv] at hx
    dsimp only at hx ⊢
    rcases sU hx with ⟨rfl,h1⟩ | ⟨rfl,h1⟩
    ·rw [yD,wY hv] at h1
     cases want
     ·exact hB h1
     ·exact hA h1
    ·rw [yD,wY hv] at h1
     cases want
     ·exact hA h1
     ·exact hB h1
   | tuple vs=>rw [hv] at hx; exact hB hx
   | _=>rw [hv] at hx; exact hx.elim
theorem Gp {r:Option (Value×Upd)}{h:Heap}{K K':VH}(hk: ∀ v h,K v h->K' v h)(hx:F6 r h K):F6 r h K':=by
 cases r with
 | none=>exact hx
 | some p=>obtain ⟨v,u⟩:=p; exact hk _ _ hx
theorem wE {S:Sx}{f:Value}{args:List Value}{h:Heap}{K K':VH}(hk: ∀ v h,K v h->K' v h)(hx:lH S f args h K):lH S f args h K':=by
 unfold lH at hx ⊢
 split at hx
 ·exact ⟨hx.1,hx.2.mono hk⟩
 ·exact hx.elim
theorem LP {S:Sx}{E:Fr}{o:Oper}{h:Heap}{K K':VH}(hk: ∀ v h,K v h->K' v h)(hx:dC S E o h K):dC S E o h K':=by
 unfold dC at hx ⊢
 split at hx
 ·exact wE hk hx
 ·exact Gp hk hx
theorem rO {S:Sx}{nm:Nat}{ops:Array Oper}{R:TH}{R':FH}(hR: ∀ tm h,tm.length=nm->R tm h->R' (fr tm) h): ∀ (l:List Oper){tm:TS}{h:Heap},tm.length=nm->(l.all fun o=>rg nm o.dst)=true->Gj S ops l tm h R->Ln S ops l (fr tm) h R'
 | [],_,_,hl,_,hx=>hR _ _ hl hx
 | o::l,tm,h,hl,hd,hx=>by
  simp only [List.all_cons,Bool.and_eq_true] at hd
  rw [Q1]
  refine zf (fun hx=> ?_) (fun hx=> ?_) hx
  ·show dC S (fr tm) o h (XS S ops o.dst l (fr tm) R')
   have hx:=Ha hx
   rw [<-zp] at hx
   refine LP (fun v h hx=> ?_) (lV hx)
   show Ln S ops l (ll (fr tm) o.dst v) h R'
   rw [vk hl hd.1]
   rw [qf] at hx
   exact rO hR l (by rw [cY]; exact hl) hd.2 hx
  ·show Ln S ops l (ll (fr tm) o.dst undef) h R'
   rw [vk hl hd.1]
   rw [qf] at hx
   exact rO hR l (by rw [cY]; exact hl) hd.2 hx
theorem rC {S:Sx}{E:Fr}{o:Oper}{h:Heap}{K K':VH}(hk: ∀ v h,K v h->K' v h)(hx:xv S E o h K):xv S E o h K':=by
 unfold xv at hx ⊢
 split at hx
 ·exact wE hk hx
 ·exact Gp hk hx
theorem Q6 {r:Option Bool}{A B A' B':Unit->Prop}(hA:A ()->A' ())(hB:B ()->B' ())(hx:Rw r A B):Rw r A' B':=by
 rcases EC hx with ⟨rfl,h⟩ | ⟨rfl,h⟩
 ·exact hA h
 ·exact hB h
theorem i5 {S:Sx}{bf:Nat->Nat->Bool}{ops:Array Oper}{base:Nat}{h0:Heap}{R R':FH}(hR: ∀ E h,R E h->R' E h): ∀ (l:List Oper)(j:Nat)(E:Fr)(h:Heap)(pd:List (Nat×Blk))(recs:List BN),pL S bf ops base h0 l j E h pd recs R->pL S bf ops base h0 l j E h pd recs R'
 | [],_,_,_,_,_,hx=>⟨hx.1,hR _ _ hx.2⟩
 | o::l,j,E,h,pd,recs,hx=>by
  simp only [pL] at hx ⊢
  refine Q6 (fun hx=> ?_) (fun hx=>i5 hR l _ _ _ _ _ hx) hx
  cases hp:aD S.P (bF S.gl E) o with
  | some v=>rw [hp] at hx; exact i5 hR l _ _ _ _ _ hx
  | none=>
   rw [hp] at hx
   dsimp only at hx ⊢
   cases hp2:aH S.P (bF S.gl E) o h with
   | some v=>rw [hp2] at hx; exact i5 hR l _ _ _ _ _ hx
   | none=>
    rw [hp2] at hx
    dsimp only at hx ⊢
    cases hp3:aG S.P (bF S.gl E) o with
    | some p=>obtain ⟨B,f⟩:=p; rw [hp3] at hx; exact i5 hR l _ _ _ _ _ hx
    | none=>
     rw [hp3] at hx
     dsimp only at hx ⊢
     exact rC (fun v h' hx=>i5 hR l _ _ _ _ _ hx) hx
theorem Pz {S:Sx}{ops:Array Oper}{E:Fr}{h:Heap}{R R':FH}(hR: ∀ E h,R E h->R' E h)(hx:Ug S ops E h R):Ug S ops E h R':=⟨hx.1,i5 hR _ _ _ _ _ _ hx.2⟩
def E9 (ops:Array Oper)(i:Nat)(l:List BN):Prop:= ∀ k r,l[k]?=some r->(∀ v,r.2.2 = .read v->BO ops rI (i+k)=true)/\(∀ v g,r.2.2 = .eff v g->BO ops vr (i+k)=true)
theorem pY {ops:Array Oper}: ∀ {l:List BN}{i:Nat},E9 ops i l-> ∀ p∈fe l i,BO ops vr p.1=true/\i<=p.1
 | [],_,_=>by simp [fe]
 | r::l,i,hc=>by
  have hc':E9 ops (i+1) l:=fun k r h=>by
   have:=hc (k+1) r (by simpa using h)
   rwa [show i+(k+1)=i+1+k by omega] at this
  obtain ⟨E,o,e⟩:=r
  intro p hp
  have tl:p∈fe l (i+1)->BO ops vr p.1=true/\i<=p.1:=fun h=>⟨(pY hc' p h).1,by have:=(pY hc' p h).2; omega⟩
  cases e with
  | eff v g=>
   rcases List.mem_cons.1 hp with rfl | hp
   ·exact ⟨(hc 0 _ rfl).2 v g rfl,Nat.le_refl _⟩
   ·exact tl hp
  | _=>exact tl hp
theorem zH {ops:Array Oper}{f:Op->Bool}{j:Nat}(h:BO ops f j=true):j < ops.size:=by
 unfold BO at h
 split at h
 ·next o ho=>exact (Array.getElem?_eq_some_iff.1 ho).1
 ·cases h
theorem JH {S:Sx}{ops:Array Oper}(hc:calm ops=true){h0:Heap}{l:List BN}(hl:E9 ops 0 l):kK S (ba (ck ops)) h0 l=true:=by
 unfold calm at hc
 simp only [Bool.and_eq_true] at hc
 have key: ∀ e,BO ops vr e=true-> ∀ j,(BO ops vr j=true->j=e)/\(BO ops rI j=true->j < e/\ba (ck ops) e j=true):=by
  intro e he j
  have h1:=List.all_eq_true.1 hc.2 e (List.mem_range.2 (zH he))
  rw [he] at h1
  simp only [Bool.not_true,Bool.false_or] at h1
  refine ⟨fun hj=> ?_,fun hj=> ?_⟩
  ·have h2:=List.all_eq_true.1 h1 j (List.mem_range.2 (zH hj))
   rw [hj] at h2
   simp only [Bool.not_true,Bool.false_or,Bool.and_eq_true] at h2
   exact Nat.eq_of_beq_eq_true h2.1
  ·have h2:=List.all_eq_true.1 h1 j (List.mem_range.2 (zH hj))
   rw [hj] at h2
   simp only [Bool.not_true,Bool.false_or,Bool.and_eq_true,Nat.blt_eq] at h2
   exact h2.2
 have hes:=pY hl
 have hone: ∀ (l:List BN)(i:Nat),E9 ops i l->fe l i=[]\/ ∃ p,fe l i=[p]:=by
  intro l
  induction l with
  | nil=>intro i _; exact .inl rfl
  | cons r l ih=>
   intro i hc
   have hc':E9 ops (i+1) l:=fun k r h=>by
    have:=hc (k+1) r (by simpa using h)
    rwa [show i+(k+1)=i+1+k by omega] at this
   obtain ⟨E,o,e⟩:=r
   cases e with
   | eff v g=>
    have he:=(hc 0 _ rfl).2 v g rfl
    right
    refine ⟨(i,g),?_⟩
    show (i,g)::fe l (i+1)=_
    rcases ih (i+1) hc' with h1 | ⟨p,h1⟩
    ·rw [h1]
    ·have h2:=pY hc' p (by rw [h1]; simp)
     have:=(key i he p.1).1 h2.1
     omega
   | _=>exact ih (i+1) hc'
 have hread: ∀ (es:List (Nat×Heap)),(es=[]\/ ∃ p,es=[p]/\BO ops vr p.1=true)-> ∀ (l:List BN)(i:Nat),E9 ops i l->nw S (ba (ck ops)) h0 es l i=true:=by
  intro es hes l
  induction l with
  | nil=>intro i _; rfl
  | cons r l ih=>
   intro i hc
   have hc':E9 ops (i+1) l:=fun k r h=>by
    have:=hc (k+1) r (by simpa using h)
    rwa [show i+(k+1)=i+1+k by omega] at this
   have h1:=ih (i+1) hc'
   obtain ⟨E,o,e⟩:=r
   cases e with
   | read v=>
    have hr:=(hc 0 _ rfl).1 v rfl
    show (gV S (ba (ck ops)) i o E v h0 es true && nw S (ba (ck ops)) h0 es l (i+1))=true
    rw [h1,Bool.and_true]
    rcases hes with rfl | ⟨p,rfl,hp⟩
    ·rfl
    ·obtain ⟨g1,g2⟩:=(key p.1 hp i).2 hr
     obtain ⟨e,h'⟩:=p
     show (((true && Nat.blt i e) || _ || _) && (ba (ck ops) e i || _))=true
     rw [g2,show Nat.blt i e=true by rw [Nat.blt_eq]; exact g1]; rfl
   | _=>exact h1
 unfold kK
 rcases hone l 0 hl with h1 | ⟨p,h1⟩
 ·rw [h1,hread [] (.inl rfl) l 0 hl]; rfl
 ·rw [h1,hread [p] (.inr ⟨p,rfl,(hes p (by rw [h1]; simp)).1⟩) l 0 hl]; rfl
theorem vS {S:Sx}{nm:Nat}{ops:Array Oper}(hcalm:calm ops=true){base:Nat}{h0:Heap}{R:TH}{R':FH}(hR: ∀ tm h,tm.length=nm->R tm h->R' (fr tm) h): ∀ (l:List Oper)(j:Nat)(tm:TS)(h:Heap)(recs:List BN),tm.length=nm->(l.all fun o=>rg nm o.dst)=true->ops.toList.drop j=l->recs.length=j->E9 ops 0 recs.reverse->Gj S ops l tm h R->pL S (ba (ck ops)) ops base h0 l j (fr tm) h [] recs R'
 | [],j,tm,h,recs,hl,_,_,_,hr,hx=>⟨JH hcalm hr,hR _ _ hl hx⟩
 | o::l,j,tm,h,recs,hl,hd,hdr,hrl,hr,hx=>by
  have ho:ops[j]?=some o:=by
   have:(ops.toList.drop j)[0]?=some o:=by rw [hdr]; rfl
   rw [List.getElem?_drop] at this
   rw [<-Array.getElem?_toList]; simpa using this
  have hdr':ops.toList.drop (j+1)=l:=by rw [<-List.drop_drop,hdr]; rfl
  simp only [List.all_cons,Bool.and_eq_true] at hd
  have conf: ∀ e,(∀ v,e=Ent.read v->rI o.op=true)->(∀ v g,e=Ent.eff v g->vr o.op=true)->E9 ops 0 ((fr tm,o,e)::recs).reverse:=by
   intro e h1 h2 k r hk
   rw [List.reverse_cons] at hk
   rcases Nat.lt_or_ge k recs.reverse.length with h3 | h3
   ·rw [List.getElem?_append_left h3] at hk
    exact hr k r hk
   ·rw [List.getElem?_append_right h3] at hk
    have hk0:k - recs.reverse.length=0:=by
     rcases Nat.eq_zero_or_pos (k - recs.reverse.length) with h4 | h4
     ·exact h4
     ·rw [List.getElem?_eq_none (by simp only [List.length_cons,List.length_nil]; omega)] at hk; cases hk
    rw [hk0] at hk
    obtain rfl:=oI hk
    have hkj:0+k=j:=by rw [List.length_reverse] at h3 hk0; omega
    rw [hkj]
    refine ⟨fun v e=> ?_,fun v g e=> ?_⟩
    ·unfold BO; rw [ho]; exact h1 v e
    ·unfold BO; rw [ho]; exact h2 v g e
  simp only [pL]
  refine zf (fun hx=> ?_) (fun hx=> ?_) hx
  ·have hx:=lV (E:=fr tm) (by rw [zp]; exact Ha hx)
   have go: ∀ v e g,(∀ v,e=Ent.read v->rI o.op=true)->(∀ v g,e=Ent.eff v g->vr o.op=true)->BS tm o.dst v (fun tm=>Gj S ops l tm g R)->pL S (ba (ck ops)) ops base h0 l (j+1) (ll (fr tm) o.dst v) g [] ((fr tm,o,e)::recs) R':=by
    intro v e g h1 h2 hx
    rw [qf] at hx
    rw [vk hl hd.1]
    exact vS hcalm hR l (j+1) _ g _ (by rw [cY]; exact hl) hd.2 hdr' (by simp [hrl]) (conf e h1 h2) hx
   have hkind:(eP o.op || rI o.op || vr o.op)=true:=by
    have hc:=hcalm
    unfold calm at hc
    simp only [Bool.and_eq_true] at hc
    exact List.all_eq_true.1 hc.1 o (List.mem_of_mem_drop (i:=j) (by rw [hdr]; simp))
   obtain ⟨dst,op,ty,pos,after,guard⟩:=o
   simp only [Bool.or_eq_true] at hkind
   rcases hkind with (hp | hp) | hp
   ·have hx:nZ (aD S.P (bF S.gl (fr tm)) ⟨dst,op,ty,pos,after,guard⟩) h _:=(bw _ _ _ _ _ _ _ _ _ hp) ▸ hx
    cases hv:aD S.P (bF S.gl (fr tm)) ⟨dst,op,ty,pos,after,guard⟩ with
    | none=>rw [hv] at hx; exact hx.elim
    | some v=>rw [hv] at hx; exact go v (.pure v) h (by simp) (by simp) hx
   ·have key:aD S.P (bF S.gl (fr tm)) ⟨dst,op,ty,pos,after,guard⟩=none/\aE ⟨dst,op,ty,pos,after,guard⟩=false/\aG S.P (bF S.gl (fr tm)) ⟨dst,op,ty,pos,after,guard⟩=none/\bA S.P dj (bF S.gl (fr tm)) ⟨dst,op,ty,pos,after,guard⟩ h=none:=by
     clear hx conf go
     revert hp
     cases op with
     | load=>intro _; exact ⟨rfl,rfl,rfl,rfl⟩
     | slice=>intro _; exact ⟨rfl,rfl,rfl,rfl⟩
     | call c=>
      obtain ⟨callee,args,ats⟩:=c
      cases callee with
      | builtin b=>cases b <;> intro hp <;> first | exact ⟨rfl,rfl,rfl,rfl⟩ | cases hp
      | _=>intro hp; cases hp
     | _=>intro hp; cases hp
    have hx:nZ (aH S.P (bF S.gl (fr tm)) ⟨dst,op,ty,pos,after,guard⟩ h) h _:=(ml S (fr tm) h _ _ key.2.1 key.1 key.2.2.1 key.2.2.2) ▸ hx
    rw [key.1]
    dsimp only
    cases hv:aH S.P (bF S.gl (fr tm)) ⟨dst,op,ty,pos,after,guard⟩ h with
    | none=>rw [hv] at hx; exact hx.elim
    | some v=>rw [hv] at hx; exact go v (.read v) h (fun _ _=>hp) (by simp) hx
   ·have key:aD S.P (bF S.gl (fr tm)) ⟨dst,op,ty,pos,after,guard⟩=none/\aH S.P (bF S.gl (fr tm)) ⟨dst,op,ty,pos,after,guard⟩ h=none/\aG S.P (bF S.gl (fr tm)) ⟨dst,op,ty,pos,after,guard⟩=none/\
      ∀ K:VH,dC S (fr tm) ⟨dst,op,ty,pos,after,guard⟩ h K->xv S (fr tm) ⟨dst,op,ty,pos,after,guard⟩ h K:=by
     clear hx conf go
     revert hp
     cases op with
     | store t a x=>intro _; exact ⟨rfl,rfl,rfl,fun K hx=>by rw [Ak] at hx; exact hx⟩
     | call c=>
      obtain ⟨callee,args,ats⟩:=c
      cases callee with
      | value f=>intro _; exact ⟨rfl,rfl,rfl,fun K hx=>hx⟩
      | _=>intro hp; cases hp
     | _=>intro hp; cases hp
    rw [key.1]
    dsimp only
    rw [key.2.1]
    dsimp only
    rw [key.2.2.1]
    dsimp only
    exact rC (fun v g hx=>go v (.eff v g) g (by simp) (fun _ _ _=>hp) hx) (key.2.2.2 _ hx)
  ·rw [qf] at hx
   rw [vk hl hd.1]
   exact vS hcalm hR l (j+1) _ h _ (by rw [cY]; exact hl) hd.2 hdr' (by simp [hrl]) (conf .skip (by simp) (by simp)) hx
theorem Ro {ops:Array Oper}(hc:calm ops=true):pO ops=false:=by
 unfold pO
 have:ops.toList.any K0=false:=by
  rw [List.any_eq_false]
  intro o ho
  unfold calm at hc
  simp only [Bool.and_eq_true] at hc
  have h1:=List.all_eq_true.1 hc.1 o ho
  unfold K0
  split
  ·next e=>rw [e] at h1; simp [eP,rI,vr] at h1
  ·simp
 rw [this]; rfl
theorem AV {b:Bool}{A B:Prop}(h:UR b A B):(b=true/\A)\/(b=false/\B):=by
 cases b with
 | true=>exact .inl ⟨rfl,h⟩
 | false=>exact .inr ⟨rfl,h⟩
theorem pT {S:Sx}{o:Oper}{E:Fr}{v:Value}{h:Heap}{K:Prop}(hx:Kx S o E v h K):DL S o E v h=true/\K:=by
 obtain ⟨dst,op,ty,pos,after,guard⟩:=o
 have key:(aH S.P (bF S.gl E) ⟨dst,op,ty,pos,after,guard⟩ h=some v/\cM 4 v v=true)/\K:=by
  unfold Kx at hx
  split at hx
  ·next e=>subst e; exact hx
  ·next e=>subst e; exact hx
  ·exact hx
 refine ⟨?_,key.2⟩
 unfold DL
 rw [key.1.1]
 exact key.1.2
theorem qN {S:Sx}{bf:Nat->Nat->Bool}{j:Nat}{o:Oper}{E:Fr}{v:Value}{K:Prop}: ∀ {es:List (Nat×Heap)}{h:Heap}{own:Bool},qb S bf j o E v h es own K->gV S bf j o E v h es own=true/\K
 | [],h,own,hx=>by
  rcases AV hx with ⟨rfl,h1⟩ | ⟨rfl,h1⟩
  ·exact ⟨rfl,h1⟩
  ·exact ⟨(pT h1).1,(pT h1).2⟩
 | (e,h')::r,h,own,hx=>by
  have tl: ∀ {K'':Prop},UR (bf e j) K (qb S bf j o E v h' r (Nat.blt e j) K)->((bf e j || gV S bf j o E v h' r (Nat.blt e j))=true)/\K:=fun hx=>by
   rcases AV hx with ⟨h2,h3⟩ | ⟨h2,h3⟩
   ·rw [h2]; exact ⟨rfl,h3⟩
   ·have:=qN h3
    rw [this.1]; exact ⟨Bool.or_true _,this.2⟩
  have hx:UR ((own && Nat.blt j e) || bf j e) _ _:=hx
  simp only [gV,Bool.and_eq_true]
  rcases AV hx with ⟨h2,h3⟩ | ⟨h2,h3⟩
  ·have:=tl (K'':=K) h3
   exact ⟨⟨by rw [h2]; rfl,this.1⟩,this.2⟩
  ·obtain ⟨h4,h5⟩:=pT h3
   have:=tl (K'':=K) h5
   exact ⟨⟨by rw [h4,Bool.or_true],this.1⟩,this.2⟩
theorem ng {S:Sx}{bf:Nat->Nat->Bool}{h:Heap}{es:List (Nat×Heap)}{K:Prop}: ∀ {l:List BN}{j:Nat},vF S bf h es l j K->nw S bf h es l j=true/\K
 | [],_,hx=>⟨rfl,hx⟩
 | (E,o,e)::r,j,hx=>by
  cases e with
  | read v=>
   have h1:=qN (show qb S bf j o E v h es true (vF S bf h es r (j+1) K) from hx)
   have h2:=ng h1.2
   refine ⟨?_,h2.2⟩
   show (gV S bf j o E v h es true && nw S bf h es r (j+1))=true
   rw [h1.1,h2.1]; rfl
  | _=>exact ng (l:=r) hx
def DQ (ops:Array Oper)(i:Nat)(l:List BN):Prop:= ∀ k r,l[k]?=some r-> ∀ v g,r.2.2 = .eff v g->BO ops xY (i+k)=true
theorem rr {ops:Array Oper}: ∀ {l:List BN}{i:Nat},DQ ops i l-> ∀ p∈fe l i,BO ops xY p.1=true/\i<=p.1
 | [],_,_=>by simp [fe]
 | r::l,i,hc=>by
  have hc':DQ ops (i+1) l:=fun k r h=>by
   have:=hc (k+1) r (by simpa using h)
   rwa [show i+(k+1)=i+1+k by omega] at this
  obtain ⟨E,o,e⟩:=r
  intro p hp
  have tl:p∈fe l (i+1)->BO ops xY p.1=true/\i<=p.1:=fun h=>⟨(rr hc' p h).1,by have:=(rr hc' p h).2; omega⟩
  cases e with
  | eff v g=>
   rcases List.mem_cons.1 hp with rfl | hp
   ·exact ⟨hc 0 _ rfl v g rfl,Nat.le_refl _⟩
   ·exact tl hp
  | _=>exact tl hp
theorem oS {ops:Array Oper}(hs:mS ops=true): ∀ {l:List BN}{i:Nat},DQ ops i l->bS (ba (ck ops)) (fe l i)=true
 | [],_,_=>rfl
 | r::l,i,hc=>by
  have hc':DQ ops (i+1) l:=fun k r h=>by
   have:=hc (k+1) r (by simpa using h)
   rwa [show i+(k+1)=i+1+k by omega] at this
  obtain ⟨E,o,e⟩:=r
  have ih:=oS hs hc'
  cases e with
  | eff v g=>
   show bS (ba (ck ops)) ((i,g)::fe l (i+1))=true
   have hall:=rr hc'
   cases hes:fe l (i+1) with
   | nil=>rfl
   | cons p es=>
    obtain ⟨j,g'⟩:=p
    rw [hes] at ih hall
    show (ba (ck ops) j i && bS (ba (ck ops)) ((j,g')::es))=true
    rw [ih,Bool.and_true]
    have h1:=hc 0 _ rfl v g rfl
    have h2:=hall (j,g') (List.mem_cons_self ..)
    unfold mS at hs
    simp only [Bool.and_eq_true] at hs
    have h3:=List.all_eq_true.1 hs.2 j (List.mem_range.2 (zH h2.1))
    rw [h2.1] at h3
    simp only [Bool.not_true,Bool.false_or] at h3
    have h4:=List.all_eq_true.1 h3 i (List.mem_range.2 (zH h1))
    have h5:BO ops xY i=true:=h1
    rw [h5,show Nat.blt i j=true by rw [Nat.blt_eq]; have:=h2.2; omega] at h4
    simpa using h4
  | _=>exact ih
theorem LA {S:Sx}{ρ:Operand->Value}{o:Oper}(ha:HM o.op=true){K:Blk->(Nat->Value)->Prop}(hx:Yr S ρ o K): ∃ B f,aG S.P ρ o=some (B,f)/\K B f:=by
 obtain ⟨dst,op,ty,pos,after,guard⟩:=o
 unfold Yr at hx
 split at hx
 ·next e=>subst e; obtain ⟨B,h1,h2⟩:=hx; exact ⟨B,_,h1,h2⟩
 ·next e=>subst e; obtain ⟨B,h1,h2⟩:=hx; exact ⟨B,_,h1,h2⟩
 ·next e=>subst e; obtain ⟨B,n,d,h1,h2⟩:=hx; exact ⟨B,_,h1,h2⟩
 ·obtain ⟨B,n,d,h1,h2⟩:=hx; exact ⟨B,_,h1,h2⟩
theorem vH {S:Sx}{nm:Nat}{ops:Array Oper}(hst:mS ops=true){base:Nat}{h0:Heap}{R:TH}{R':FH}(hR: ∀ tm h,tm.length=nm->R tm h->R' (fr tm) h): ∀ (l:List Oper)(j:Nat)(tm:TS)(h:Heap)(pd:List (Nat×Blk))(recs:List BN),tm.length=nm->(l.all fun o=>rg nm o.dst)=true->ops.toList.drop j=l->recs.length=j->DQ ops 0 recs.reverse->uD S (ba (ck ops)) ops base h0 l j tm h pd recs R->pL S (ba (ck ops)) ops base h0 l j (fr tm) h pd recs R'
 | [],j,tm,h,pd,recs,hl,_,_,_,hr,hx=>by
  have h1:=ng (show vF S (ba (ck ops)) h0 (fe recs.reverse 0) recs.reverse 0 (R tm (aC h base pd)) from hx)
  refine ⟨?_,hR _ _ hl h1.2⟩
  unfold kK
  rw [h1.1,oS hst hr]; rfl
 | o::l,j,tm,h,pd,recs,hl,hd,hdr,hrl,hr,hx=>by
  have ho:ops[j]?=some o:=by
   have:(ops.toList.drop j)[0]?=some o:=by rw [hdr]; rfl
   rw [List.getElem?_drop] at this
   rw [<-Array.getElem?_toList]; simpa using this
  have hdr':ops.toList.drop (j+1)=l:=by rw [<-List.drop_drop,hdr]; rfl
  simp only [List.all_cons,Bool.and_eq_true] at hd
  have conf: ∀ e,(∀ v g,e=Ent.eff v g->xY o.op=true)->DQ ops 0 ((fr tm,o,e)::recs).reverse:=by
   intro e h2 k r hk
   rw [List.reverse_cons] at hk
   rcases Nat.lt_or_ge k recs.reverse.length with h3 | h3
   ·rw [List.getElem?_append_left h3] at hk
    exact hr k r hk
   ·rw [List.getElem?_append_right h3] at hk
    have hk0:k - recs.reverse.length=0:=by
     rcases Nat.eq_zero_or_pos (k - recs.reverse.length) with h4 | h4
     ·exact h4
     ·rw [List.getElem?_eq_none (by simp only [List.length_cons,List.length_nil]; omega)] at hk; cases hk
    rw [hk0] at hk
    obtain rfl:=oI hk
    have hkj:0+k=j:=by rw [List.length_reverse] at h3 hk0; omega
    rw [hkj]
    intro v g e
    unfold BO; rw [ho]; exact h2 v g e
  simp only [pL]
  refine zf (fun hx=> ?_) (fun hx=> ?_) hx
  ·have go: ∀ v e g pd',(∀ v g,e=Ent.eff v g->xY o.op=true)->BS tm o.dst v (fun tm'=>uD S (ba (ck ops)) ops base h0 l (j+1) tm' g pd' ((fr tm,o,e)::recs) R)->pL S (ba (ck ops)) ops base h0 l (j+1) (ll (fr tm) o.dst v) g pd' ((fr tm,o,e)::recs) R':=by
    intro v e g pd' h2 hx
    rw [qf] at hx
    rw [vk hl hd.1]
    exact vH hst hR l (j+1) _ g _ _ (by rw [cY]; exact hl) hd.2 hdr' (by simp [hrl]) (conf e h2) hx
   have hkind:(eP o.op || rI o.op || HM o.op || xY o.op)=true:=by
    have hc:=hst
    unfold mS at hc
    simp only [Bool.and_eq_true] at hc
    exact List.all_eq_true.1 hc.1.2 o (List.mem_of_mem_drop (i:=j) (by rw [hdr]; simp))
   obtain ⟨dst,op,ty,pos,after,guard⟩:=o
   unfold TP at hx
   cases hp:eP op with
   | true=>
    rw [show eP (Oper.mk dst op ty pos after guard).op=true from hp] at hx
    have hx:=lV (E:=fr tm) (by rw [zp]; exact Ha hx)
    have hx:nZ (aD S.P (bF S.gl (fr tm)) ⟨dst,op,ty,pos,after,guard⟩) h _:=(bw _ _ _ _ _ _ _ _ _ hp) ▸ hx
    cases hv:aD S.P (bF S.gl (fr tm)) ⟨dst,op,ty,pos,after,guard⟩ with
    | none=>rw [hv] at hx; exact hx.elim
    | some v=>rw [hv] at hx; exact go v (.pure v) h pd (by simp) hx
   | false=>
   rw [show eP (Oper.mk dst op ty pos after guard).op=false from hp] at hx
   dsimp only at hx
   cases hp2:rI op with
   | true=>
    rw [show rI (Oper.mk dst op ty pos after guard).op=true from hp2] at hx
    have hx:=lV (E:=fr tm) (by rw [zp]; exact Ha hx)
    have key:aD S.P (bF S.gl (fr tm)) ⟨dst,op,ty,pos,after,guard⟩=none/\aE ⟨dst,op,ty,pos,after,guard⟩=false/\aG S.P (bF S.gl (fr tm)) ⟨dst,op,ty,pos,after,guard⟩=none/\bA S.P dj (bF S.gl (fr tm)) ⟨dst,op,ty,pos,after,guard⟩ h=none:=by
     clear hx conf go hkind hp ho
     revert hp2
     cases op with
     | load=>intro _; exact ⟨rfl,rfl,rfl,rfl⟩
     | slice=>intro _; exact ⟨rfl,rfl,rfl,rfl⟩
     | call c=>
      obtain ⟨callee,args,ats⟩:=c
      cases callee with
      | builtin b=>cases b <;> intro hp <;> first | exact ⟨rfl,rfl,rfl,rfl⟩ | cases hp
      | _=>intro hp; cases hp
     | _=>intro hp; cases hp
    have hx:nZ (aH S.P (bF S.gl (fr tm)) ⟨dst,op,ty,pos,after,guard⟩ h) h _:=(ml S (fr tm) h _ _ key.2.1 key.1 key.2.2.1 key.2.2.2) ▸ hx
    rw [key.1]
    dsimp only
    cases hv:aH S.P (bF S.gl (fr tm)) ⟨dst,op,ty,pos,after,guard⟩ h with
    | none=>rw [hv] at hx; exact hx.elim
    | some v=>rw [hv] at hx; exact go v (.read v) h pd (by simp) hx
   | false=>
   rw [show rI (Oper.mk dst op ty pos after guard).op=false from hp2] at hx
   dsimp only at hx
   cases hp3:HM op with
   | true=>
    rw [show HM (Oper.mk dst op ty pos after guard).op=true from hp3] at hx
    rw [<-zp] at hx
    obtain ⟨B,f,h1,h2⟩:=LA hp3 hx
    have key:aD S.P (bF S.gl (fr tm)) ⟨dst,op,ty,pos,after,guard⟩=none/\aH S.P (bF S.gl (fr tm)) ⟨dst,op,ty,pos,after,guard⟩ h=none:=by
     clear hx conf go hkind hp ho h1 h2 hp2
     revert hp3
     cases op <;> intro hp3 <;> first | exact ⟨rfl,rfl⟩ | cases hp3
    rw [key.1]
    dsimp only
    rw [key.2]
    dsimp only
    rw [h1]
    exact go _ (.alloc B (f (base+j))) h _ (by simp) h2
   | false=>
   rw [show HM (Oper.mk dst op ty pos after guard).op=false from hp3] at hx
   dsimp only at hx
   have hp4:xY op=true:=by
    have hk:(eP op || rI op || HM op || xY op)=true:=hkind
    rw [hp,hp2,hp3] at hk; exact hk
   have hx:=lV (E:=fr tm) (by rw [zp]; exact Ha hx)
   generalize aC h base (pd.filter fun p=>ba (ck ops) j p.1)=hs at hx ⊢
   have key:(∀ h,aD S.P (bF S.gl (fr tm)) ⟨dst,op,ty,pos,after,guard⟩=none/\aH S.P (bF S.gl (fr tm)) ⟨dst,op,ty,pos,after,guard⟩ h=none/\aG S.P (bF S.gl (fr tm)) ⟨dst,op,ty,pos,after,guard⟩=none)/\
     ∀ K:VH,dC S (fr tm) ⟨dst,op,ty,pos,after,guard⟩ hs K->xv S (fr tm) ⟨dst,op,ty,pos,after,guard⟩ hs K:=by
    clear hx conf go hkind hp ho hp2 hp3
    revert hp4
    cases op with
    | store t a x=>intro _; exact ⟨fun _=>⟨rfl,rfl,rfl⟩,fun K hx=>by rw [sT _ _ _ _ _ rfl rfl rfl rfl] at hx; exact hx⟩
    | call c=>
     obtain ⟨callee,args,ats⟩:=c
     cases callee with
     | value f=>intro _; exact ⟨fun _=>⟨rfl,rfl,rfl⟩,fun K hx=>hx⟩
     | builtin b=>cases b <;> intro hp4 <;> first | exact ⟨fun _=>⟨rfl,rfl,rfl⟩,fun K hx=>by rw [sT _ _ _ _ _ rfl rfl rfl rfl] at hx; exact hx⟩ | cases hp4
     | _=>intro hp; cases hp
    | _=>intro hp; cases hp
   rw [(key.1 h).1]
   dsimp only
   rw [(key.1 h).2.1]
   dsimp only
   rw [(key.1 h).2.2]
   dsimp only
   exact rC (fun v g hx=>go v (.eff v g) g _ (fun _ _ _=>hp4) hx) (key.2 _ hx)
  ·rw [qf] at hx
   rw [vk hl hd.1]
   exact vH hst hR l (j+1) _ h _ _ (by rw [cY]; exact hl) hd.2 hdr' (by simp [hrl]) (conf .skip (by simp)) hx
theorem gL {S:Sx}{nm:Nat}{M:List Nat}: ∀ (c:Code){tm:TS}{h:Heap}{Q:aj}{Q':yz},tm.length=nm->aF nm c=true->(∀ x tm h,tm.length=nm->Q x tm h->Q' x (fr tm) h)->wpS S nm M c tm h Q->yr S nm c (fr tm) h Q'
 | .skip,_,_,_,_,hl,_,hQ,hx=>hQ _ _ _ hl hx
 | .exit _,_,_,_,_,hl,_,hQ,hx=>hQ _ _ _ hl hx
 | .ret,_,_,_,_,hl,_,hQ,hx=>hQ _ _ _ hl hx
 | .label _,_,_,_,_,hl,_,hQ,hx=>hQ _ _ _ hl hx
 | .region _ ops draw,tm,h,Q,Q',hl,hd,hQ,hx=>by
  cases draw with
  | false=>exact rO (fun tm h hl hx=>hQ _ _ _ hl hx) ops.toList hl hd hx
  | true=>
   cases hc:calm ops with
   | true=>
    have hx:(match calm ops with | true=>Gj S ops ops.toList tm (room h ops.size) fun tm h=>Q .normal tm h | false=>_):=hx
    rw [hc] at hx
    exact ⟨Ro hc,vS hc (fun tm h hl hx=>hQ _ _ _ hl hx) ops.toList 0 tm _ [] hl hd rfl rfl (fun k r h=>by simp at h) hx⟩
   | false=>
   cases hst:mS ops with
   | true=>
    have hx:(match calm ops with | true=>_ | false=>(match mS ops with | true=>uD S (ba (ck ops)) ops h.next (room h ops.size) ops.toList 0 tm (room h ops.size) [] [] fun tm h=>Q .normal tm h | false=>_)):=hx
    rw [hc,hst] at hx
    refine ⟨?_,vH hst (fun tm h hl hx=>hQ _ _ _ hl hx) ops.toList 0 tm _ [] [] hl hd rfl rfl (fun k r h=>by simp at h) hx⟩
    unfold mS at hst
    simp only [Bool.and_eq_true] at hst
    simpa using hst.1.1
   | false=>
   have hx:(match calm ops with | true=>_ | false=>(match mS ops with | true=>_ | false=>Ug S ops (fr tm) h (Tj nm fun tm h=>Q .normal tm h))):=hx
   rw [hc,hst] at hx
   refine Pz (fun E h hx=> ?_) (show Ug S ops (fr tm) h (Tj nm fun tm h=>Q .normal tm h) from hx)
   obtain ⟨tm',h1,rfl,h2⟩:=hx
   exact hQ _ _ _ h1 h2
 | .seq a b,tm,h,Q,Q',hl,hd,hQ,hx=>by
  simp only [aF,Bool.and_eq_true] at hd
  refine gL a hl hd.1 (fun x tm h hl hx=> ?_) hx
  cases x with
  | normal=>exact gL b hl hd.2 hQ hx
  | _=>exact hQ _ _ _ hl hx
 | .cond c a b,tm,h,Q,Q',hl,hd,hQ,hx=>by
  simp only [aF,Bool.and_eq_true] at hd
  rw [Og,zp]
  simp only [wpS] at hx
  unfold T7 at hx
  split at hx
  ·next t he=>
   rw [he]
   rcases sU hx with ⟨rfl,h1⟩ | ⟨rfl,h1⟩
   ·exact gL a hl hd.1 hQ h1
   ·exact gL b hl hd.2 hQ h1
  ·exact hx.elim
 | .block id c,tm,h,Q,Q',hl,hd,hQ,hx=>by
  refine gL c hl hd (fun x tm h hl hx=> ?_) hx
  cases x with
  | exit id'=>
   show if id'=id then Q' .normal (fr tm) h else Q' (.exit id') (fr tm) h
   simp only [Kl] at hx
   cases hb:Nat.beq id' id with
   | true=>
    rw [hb] at hx
    rw [if_pos (Nat.eq_of_beq_eq_true hb)]; exact hQ _ _ _ hl hx
   | false=>
    rw [hb] at hx
    rw [if_neg (Nat.ne_of_beq_eq_false hb)]; exact hQ _ _ _ hl hx
  | _=>exact hQ _ _ _ hl hx
 | .loop c,tm,h,Q,Q',hl,hd,hQ,hx=>by
  obtain ⟨x,E',h',h1,h2⟩:=(show xr S nm c (fr tm) h (TR nm Q) from Ji hl hx)
  refine ⟨x,E',h',h1,?_⟩
  obtain ⟨tm',h3,rfl,h4⟩:=h2
  exact hQ _ _ _ h3 h4
 | .rangeFunc ..,_,_,_,_,_,_,_,hx=>hx.elim
 | .scope _,_,_,_,_,_,_,_,hx=>hx.elim
 | .goto _,_,_,_,_,_,_,_,hx=>hx.elim
 | .refuse _,_,_,_,_,_,_,_,hx=>hx.elim
def YQ (I:Nat->TH)(n:Nat)(tm:TS)(h:Heap):Prop:= ∃ m,m < n/\I m tm h
def VL (I:Nat->TH)(n:Nat)(Q:aj)(x:Exit)(tm:TS)(h:Heap):Prop:=match x with
 | .normal=>YQ I n tm h
 | x=>Q x tm h
def GX:Code->Nat->Oper
 | .region _ ops _,i=>ops.toList.getD i ⟨none,.nilCheck (.tmp 0),0,"",#[],none⟩
 | _,_=>⟨none,.nilCheck (.tmp 0),0,"",#[],none⟩
def aP:List Nat->Code->Code
 | [],c=>c
 | 0::p,.seq a _=>aP p a
 | _::p,.seq _ b=>aP p b
 | 0::p,.cond _ a _=>aP p a
 | _::p,.cond _ _ b=>aP p b
 | _::p,.block _ a=>aP p a
 | _::p,.loop a=>aP p a
 | _,_=> .skip
theorem IV {S:Sx}{nm:Nat}{M:List Nat}{c:Code}{Q:aj}(hd:aF nm c=true)(I:Nat->TH)(hI: ∀ n tm h,tm.length=nm->I n tm h->wpS S nm M c tm h (VL I n Q)): ∀ n tm h,tm.length=nm->I n tm h->Lp S nm c tm h Q:=by
 intro n
 induction n using Nat.strongRecOn with
 | _ n ih=>
  intro tm h hl hi
  refine PD hd (gL c hl hd (fun x tm h hl hx=> ?_) (hI n tm h hl hi))
  cases x with
  | normal=>
   obtain ⟨m,hm,hi'⟩:=hx
   exact ih m hm tm h hl hi'
  | _=>exact ⟨tm,hl,rfl,hx⟩
def ak (A:Nat->List Value->Heap->Prop)(n:Nat)(w:List Value)(h:Heap):Prop:= ∃ m,m < n/\A m w h
def aT (M:List Nat)(A:Nat->List Value->Heap->Prop)(n:Nat)(Q:aj)(x:Exit)(tm:TS)(h:Heap):Prop:=match x with
 | .normal=>ak A n (M.map (Cb tm)) h
 | x=>Q x tm h
theorem ai {A B:Prop}(h:A)(e:A=B):B:=cast e h
theorem an {S:Sx}{nm:Nat}{M:List Nat}{c:Code}{K:aj}{A:Nat->List Value->Heap->Prop}(hd:aF nm c=true)
  (step: ∀ n w (x:Nat->Value) h,A n w h->wpS S nm M c (JA nm 0 (M.zip w) x) h (aT M A n K)) (n:Nat) (w:List Value) (h:Heap) (hA:A n w h) (hq: ∀ x:Nat->Value,M.map (Cb (JA nm 0 (M.zip w) x))=w) (_:w.length=M.length):bp S nm M c w h K:=fun x=>
 IV (M:=M) hd (fun m tm h=>A m (M.map (Cb tm)) h) (fun m tm h hl hi=>by
  have:=step m (M.map (Cb tm)) (Cb tm) h hi
  rw [Gh hl] at this
  exact this) n _ h (yR ..) (by rw [hq x]; exact hA)
def ky (S:Sx)(nm:Nat)(M:List Nat):List Nat->Code->aj->aj
 | [],_,K=>K
 | 0::p,.seq a b,K=>ky S nm M p a (Xn (fun tm h=>wpS S nm M b tm h K) K)
 | _::p,.seq _ b,K=>ky S nm M p b K
 | 0::p,.cond _ a _,K=>ky S nm M p a K
 | _::p,.cond _ _ b,K=>ky S nm M p b K
 | _::p,.block id a,K=>ky S nm M p a (Kl id K)
 | _,_,K=>K
noncomputable def Ki (S:Sx)(tm:TS)(h:Heap):List ResultVar->Option (List Value)
 | []=>some []
 | .tmp t::r=>(Ki S tm h r).map (tm.getD t undef :: ·)
 | .cell a t::r=>match ah S.P t h (tm.getD a undef) with
  | some v=>(Ki S tm h r).map (v :: ·)
  | none=>none
theorem yY (S:Sx)(tm:TS)(h:Heap): ∀ l,li S (fr tm) h l=Ki S tm h l
 | []=>rfl
 | .tmp t::r=>by simp only [li,Ki,yY S tm h r,fr]
 | .cell a t::r=>by simp only [li,Ki,yY S tm h r,fr]; try (cases ah S.P t h (tm.getD a undef) <;> rfl)
noncomputable def cE (S:Sx)(rs:List ResultVar)(Q:VH)(x:Exit)(tm:TS)(h:Heap):Prop:=match x with
 | .normal=>oP (Ki S tm h rs) h Q
 | .ret=>oP (Ki S tm h rs) h Q
 | _=>False
noncomputable def O5 (S:Sx)(h:Heap):List (Value×Option TypeId)->Option (List Value)
 | []=>some []
 | (v,none)::r=>(O5 S h r).map (v :: ·)
 | (a,some t)::r=>match ah S.P t h a with
  | some v=>(O5 S h r).map (v :: ·)
  | none=>none
noncomputable def ko (S:Sx)(l:List (Value×Option TypeId))(h:Heap)(Q:VH):Prop:=oP (O5 S h l) h Q
theorem PR {S:Sx}{a:Value}{t:TypeId}{v:Value}{h:Heap}{Q:VH}(hl:ah S.P t h a=some v)(hq:Q v h):ko S [(a,some t)] h Q:=by
 unfold ko
 simp only [O5,hl]
 exact hq
theorem GG {S:Sx}{a:Value}{t:TypeId}{v w:Value}{h:Heap}{Q:VH}(hl:ah S.P t h a=some v)(hq:Q (.tuple ⟨[v,w]⟩) h):ko S [(a,some t),(w,none)] h Q:=by
 unfold ko
 simp only [O5,hl]
 exact hq
theorem ax {S:Sx}{M:List Nat}{f:FuncId}{fn:Func}{c:Code}{args:List Value}{h:Heap}{Q:VH}(hf:S.P.funcs[f]?=some fn)(hb:fn.body=some c)(hp:(Nat.blt f YB && (S.pr f).isNone && Nat.ble args.length fn.ntmps && aF fn.ntmps c)=true)
  (hw:wpS S fn.ntmps M c (args++List.replicate (fn.ntmps - args.length) undef) h (cE S fn.results.toList Q)):FW S f args h Q:=by
 simp only [Bool.and_eq_true,Nat.blt_eq,Nat.ble_eq,Option.isNone_iff_eq_none] at hp
 obtain ⟨⟨⟨h1,h2⟩,h3⟩,h4⟩:=hp
 have hl:(args++List.replicate (fn.ntmps - args.length) undef).length=fn.ntmps:=by simp; omega
 have he:fr (args++List.replicate (fn.ntmps - args.length) undef)=Kp args:=by
  funext t
  show (args++List.replicate (fn.ntmps - args.length) undef).getD t undef=args.getD t undef
  simp only [gD]
  by_cases h5:t < args.length
  ·rw [List.getElem?_append_left h5]
  ·rw [List.getElem?_append_right (by omega),List.getElem?_eq_none (l:=args) (by omega),List.getElem?_replicate]
   split <;> rfl
 refine WJ hf hb h1 h2 h3 h4 ?_
 rw [<-he]
 refine gL c hl h4 (fun x tm h _ hx=> ?_) hw
 cases x with
 | normal=>show oP (li S (fr tm) h _) h Q; rw [yY]; exact hx
 | ret=>show oP (li S (fr tm) h _) h Q; rw [yY]; exact hx
 | _=>exact hx.elim
theorem ap {n:Int}(h1: -9223372036854775808<=n)(h2:n < 9223372036854775808):IntKind.wrap .i64 n=n:=by rw [IntKind.wrap_i64]; omega
theorem cI {n:Int}(h1:0<=n)(h2:n < 18446744073709551616):IntKind.wrap .u64 n=n:=by
 rw [IntKind.wrap_u64]; omega
theorem mU {n:Int}(h1:0<=n)(h2:n < 256):IntKind.wrap .u8 n=n:=by
 rw [IntKind.wrap_u8]; omega
theorem i6 {P:Program}{t:TypeId}(hU:P.underlying t=some .string)(l:List UInt8)(k:IntKind){i:Int}(h0:0<=i)(h1:i < l.length):aQ P t (aa l) (.int k i)=some (.int .u8 ((l.getD i.toNat 0).toNat:Nat)):=by
 unfold aQ aa
 rw [hU]
 dsimp only
 rw [if_pos h0,gD,gE (by omega)]
 rfl
theorem iY {P:Program}{t:TypeId}(hU:P.underlying t=some .string)(l:List UInt8){h:Heap}{lo hi:Option Value}{a b:Nat}(ha:bK lo 0=some (a:Int))(hb:bK hi l.length=some (b:Int))(h1:a<=b)(h2:b<=l.length):aL P t (aa l) lo hi none h=some (aa ((l.drop a).take (b - a))):=by
 unfold aL aa
 dsimp only
 rw [hU]
 dsimp only
 have hb':bK hi (l.length:Nat)=some (b:Int):=hb
 show (match (none:Option Value),bK lo 0,bK hi l.length with | none,some l_1,some r=>_ | _,_,_=>none)=_
 rw [ha,hb']
 dsimp only
 rw [if_pos (by omega)]
 have e1:(a:Int).toNat=a:=by omega
 have e2:((b:Int) - a).toNat=b - a:=by omega
 rw [e1,e2]
theorem R3 {P:Program}{t:TypeId}(a b:List UInt8)(h:a.length+b.length<=4611686018427387904):am P .add t (aa a) (aa b)=some (aa (a++b)):=by
 show DZ .add a b=_
 unfold DZ
 dsimp only
 rw [if_pos h]
structure Ok (h0 h:Heap):Prop where
 wf: ∀ k B,h.get k=some B->k < h.next
 ext: ∀ k B,h0.get k=some B->h.get k=some B
 nx:h0.next<=h.next
def Wf (h:Heap):Prop:= ∀ k B,h.get k=some B->k < h.next
theorem Ok.refl {h:Heap}(w:Wf h):Ok h h:=⟨w,fun _ _ h=>h,Nat.le_refl _⟩
theorem Ok.trans {h0 h1 h2:Heap}(a:Ok h0 h1)(b:Ok h1 h2):Ok h0 h2:=⟨b.wf,fun k B h=>b.ext k B (a.ext k B h),Nat.le_trans a.nx b.nx⟩
theorem Ok.push {h0 h:Heap}(a:Ok h0 h)(B:Blk):Ok h0 (h.push B):=by
 refine ⟨Heap.wf_push a.wf B,fun k C hk=> ?_,Nat.le_trans a.nx (Nat.le_succ _)⟩
 have h1:=a.ext k C hk
 rw [Heap.get_push,if_neg (fun e=>by have:=a.wf _ _ h1; omega)]
 exact h1
theorem Ok.set {h0 h:Heap}(a:Ok h0 h){k:Nat}(B:Blk)(hk:h0.next<=k)(hk2:k < h.next)(w0:Wf h0):Ok h0 (h.set k B):=by
 refine ⟨fun j C hj=> ?_,fun j C hj=> ?_,a.nx⟩
 ·rw [Heap.get_set] at hj
  split at hj
  ·next e=>rw [e]; exact hk2
  ·exact a.wf _ _ hj
 ·rw [Heap.get_set,if_neg (fun e=>by have:=w0 _ _ hj; omega)]
  exact a.ext _ _ hj
theorem Ok.room {h0 h:Heap}(a:Ok h0 h)(n:Nat):Ok h0 (room h n):=⟨fun k B hk=>Nat.lt_of_lt_of_le (a.wf k B hk) (Nat.le_add_right _ _),a.ext,Nat.le_trans a.nx (Nat.le_add_right _ _)⟩
def OwnR (h0 h:Heap)(e:TypeId)(v:Value)(vs:List Value):Prop:=
 (v = .slice none 0 0/\vs=[])\/ ∃ k cs,v = .slice (some ⟨k,0,none⟩) vs.length (bm+cs.length)/\h0.next<=k/\h.get k=some (.cells cs e 1 true)/\cs.take vs.length=vs/\vs.length<=cs.length
theorem OwnR.push {h0 h:Heap}{e:TypeId}{v:Value}{vs:List Value}(a:Ok h0 h)(o:OwnR h0 h e v vs)(B:Blk):OwnR h0 (h.push B) e v vs:=by
 rcases o with o | ⟨k,cs,h1,h2,h3,h4,h5⟩
 ·exact .inl o
 ·refine .inr ⟨k,cs,h1,h2,?_,h4,h5⟩
  rw [Heap.get_push,if_neg (fun e=>by have:=a.wf _ _ h3; omega)]
  exact h3
theorem OwnR.snoc {P:Program}{t e:TypeId}{i:TypeInfo}(hU:P.underlying t=some (.slice e))(hE:dz P e=some i)(hs:i.size=1){h0 h:Heap}(w0:Wf h0)(a:Ok h0 h){v:Value}{vs:List Value}(o:OwnR h0 h e v vs){x:Value}(hx:bL x=true)(hl:(vs.length+1)*i.bytes<=70368744177664)(hl2:vs.length+1<=1099511627776):
  ∃ (b:Option Addr)(n c:Nat)(u:Upd),aB P t t v (nq 1 1 h.next) (h.push (.cells [x] e 1 true))=some (.slice b n c,u)/\n=vs.length+1/\OwnR h0 (u.app (h.push (.cells [x] e 1 true))) e (.slice b n c) (vs++[x])/\Ok h0 (u.app (h.push (.cells [x] e 1 true))):=by
 have hT:ca P t=true:=by unfold ca; rw [hU]
 have hsrc:dJ (h.push (.cells [x] e 1 true)) i.size (nq 1 1 h.next)=some ([x],1):=by
  show (match (h.push (.cells [x] e 1 true)).get h.next with | some (.cells cs ..)=>if ((cs.drop 0).take (1*i.size)).length=1*i.size then some ((cs.drop 0).take (1*i.size),1) else none | _=>none)=_
  rw [Heap.get_push,if_pos rfl,hs]; rfl
 have hap:=OwnR.push a o (.cells [x] e 1 true)
 have a':=a.push (.cells [x] e 1 true)
 generalize hh:h.push (.cells [x] e 1 true)=g at *
 have hgn:h.next < g.next:=by rw [<-hh]; exact Nat.lt_succ_self _
 unfold aB
 rw [hU]; dsimp only
 rw [hE]; dsimp only
 rw [if_pos hT,hsrc]; dsimp only
 rw [if_pos (by simp [hx,hs])]
 rcases hap with ⟨rfl,rfl⟩ | ⟨k,cs,rfl,h2,h3,h4,h5⟩
 ·show ∃ b n c u,(if 1=0 then some (Value.slice none 0 0,Upd.no) else if 1*i.bytes<=70368744177664/\1<=1099511627776 then some (Value.slice (some ⟨g.next,0,none⟩) 1 (bm+1),Upd.push (.cells [x] e i.size true)) else none)=_/\_
  rw [if_neg (by omega),if_pos (by simpa using And.intro hl hl2)]
  refine ⟨_,_,_,_,rfl,rfl,.inr ⟨g.next,[x],rfl,a'.nx,?_,rfl,by simp⟩,a'.push _⟩
  show (g.push (.cells [x] e i.size true)).get g.next=_
  rw [Heap.get_push,if_pos rfl,hs]
 ·dsimp only
  rw [if_neg (by omega),hs,Nat.mul_one]
  have hcap:aN (bm+cs.length)=cs.length:=by unfold aN; rw [if_pos (by omega)]; omega
  rw [hcap]
  have hkn:=a'.wf _ _ h3
  by_cases hroom:vs.length+1<=cs.length
  ·rw [if_pos hroom]
   unfold storeAt
   rw [Nat.zero_add,h3]
   dsimp only
   rw [if_pos ⟨by simp; omega,by simp [hx]⟩]
   refine ⟨_,_,_,_,rfl,rfl,.inr ⟨k,cs.take vs.length++[x]++cs.drop (vs.length+1),?_,h2,?_,?_,?_⟩,?_⟩
   ·simp only [List.length_append,List.length_cons,List.length_nil,List.length_take,List.length_drop]
    congr 1; omega
   ·show (g.set k _).get k=_
    rw [Heap.get_set,if_pos rfl]; rfl
   ·have h6:(cs.take vs.length).length=vs.length:=by rw [List.length_take]; omega
    rw [List.length_append,List.append_assoc,<-List.append_assoc,List.take_append_of_le_length (by simp; omega),List.take_of_length_le (by simp; omega),h4]
   ·simp; omega
   ·exact a'.set _ h2 hkn w0
  ·rw [if_neg hroom]
   have hcl:cs.length=vs.length:=by omega
   unfold gz
   rw [if_pos ⟨hl,hl2⟩,h3]
   dsimp only
   rw [Nat.mul_one,if_pos ⟨rfl,rfl,by simp; omega⟩,if_neg (by omega),if_pos ⟨rfl,by omega⟩]
   refine ⟨_,_,_,_,rfl,rfl,.inr ⟨g.next,vs++[x],?_,a'.nx,?_,?_,?_⟩,?_⟩
   ·rw [List.length_append]; rfl
   ·show ((g.del k).push _).get g.next=_
    rw [Heap.get_push,if_pos (show g.next=(g.del k).next from rfl),List.drop_zero,h4]
   ·exact List.take_length
   ·exact Nat.le_refl _
   ·refine ⟨?_,fun j C hj=> ?_,Nat.le_trans a'.nx (Nat.le_succ _)⟩
    ·refine Heap.wf_push (fun j C hj=> ?_) _
     rw [Heap.get_del] at hj
     split at hj
     ·cases hj
     ·exact a'.wf _ _ hj
    ·have h7:=a'.ext _ _ hj
     have h8:=a'.wf _ _ h7
     show ((g.del k).push _).get j=_
     rw [Heap.get_push,if_neg (fun e=>by have:j=g.next:=e; omega),Heap.get_del,if_neg (fun e=>by have:=w0 _ _ hj; omega)]
     exact h7
def Rd (h:Heap)(e:TypeId)(v:Value)(vs:List Value):Prop:=
 (v = .slice none 0 0/\vs=[])\/ ∃ k off cs c wr,v = .slice (some ⟨k,off,none⟩) vs.length c/\h.get k=some (.cells cs e 1 wr)/\(cs.drop off).take vs.length=vs
theorem OwnR.rd {h0 h:Heap}{e:TypeId}{v:Value}{vs:List Value}(o:OwnR h0 h e v vs):Rd h e v vs:=by
 rcases o with o | ⟨k,cs,h1,h2,h3,h4,h5⟩
 ·exact .inl o
 ·exact .inr ⟨k,0,cs,_,true,h1,h3,by simpa using h4⟩
theorem Rd.ok {h h':Heap}{e:TypeId}{v:Value}{vs:List Value}(r:Rd h e v vs)(o:Ok h h'):Rd h' e v vs:=by
 rcases r with r | ⟨k,off,cs,c,wr,h1,h2,h3⟩
 ·exact .inl r
 ·exact .inr ⟨k,off,cs,c,wr,h1,o.ext _ _ h2,h3⟩
theorem Rd.len {h:Heap}{e:TypeId}{a:Option Addr}{n c:Nat}{vs:List Value}(r:Rd h e (.slice a n c) vs):n=vs.length:=by
 rcases r with ⟨h1,rfl⟩ | ⟨k,off,cs,c,wr,h1,h2,h3⟩
 ·injection h1
 ·injection h1
theorem OwnR.len {h0 h:Heap}{e:TypeId}{a:Option Addr}{n c:Nat}{vs:List Value}(r:OwnR h0 h e (.slice a n c) vs):n=vs.length:=r.rd.len
theorem Rd.at_ {P:Program}{t e:TypeId}{d:TypeDesc}(hU:P.underlying t=some (.slice e))(hs:aq P e=some 1)(hd:P.underlying e=some d)(hg:isAgg P e=false){h:Heap}{v:Value}{vs:List Value}(r:Rd h e v vs){k:IntKind}{i:Int}(h0:0<=i)(h1:i < vs.length):
  ∃ p:Addr,af P t v (.int k i)=some (.pointer (some p))/\ah P e h (.pointer (some p))=some (vs.getD i.toNat undef):=by
 rcases r with ⟨_,rfl⟩ | ⟨b,off,cs,c,wr,rfl,h3,h4⟩
 ·simp at h1; omega
 ·refine ⟨⟨b,off+i.toNat*1,none⟩,?_,?_⟩
  ·unfold af
   rw [hU]; dsimp only
   rw [hs]; dsimp only
   rw [if_pos ⟨h0,h1⟩]
   simp [Addr.add]
  ·unfold ah
   rw [hd]; dsimp only
   rw [h3]; dsimp only
   rw [hg]
   simp only [Bool.false_eq_true,if_false,Nat.mul_one]
   have h5:=congrArg (fun l=>l[i.toNat]?) h4
   simp only [List.getElem?_take,List.getElem?_drop] at h5
   rw [if_pos (by omega)] at h5
   rw [h5,gD,gE (by omega)]; rfl
def nW (c:UInt8):Value:= .int .u8 (c.toNat:Nat)
theorem kC: ∀ l:List UInt8,bytesOf (l.map nW)=some l
 | []=>rfl
 | c::l=>by
  have hc:c.toNat < 256:=c.toNat_lt
  show (if 0<=((c.toNat:Nat):Int)/\((c.toNat:Nat):Int) < 256 then (bytesOf (l.map nW)).map (UInt8.ofNat ((c.toNat:Nat):Int).toNat :: ·) else none)=_
  rw [if_pos (by omega),kC l,Int.toNat_natCast]
  simp
theorem RM {P:Program}{s d e:TypeId}(hs:P.underlying s=some (.slice e))(hd:P.underlying d=some .string)(he:P.underlying e=some (.int .u8)){h:Heap}{v:Value}{l:List UInt8}(r:Rd h e v (l.map nW)):xZ P s d v h=some (aa l):=by
 unfold xZ aH
 dsimp only
 rw [hs,hd]
 rcases r with ⟨rfl,h2⟩ | ⟨k,off,cs,c,wr,rfl,h2,h3⟩
 ·dsimp only
  rw [he]
  have:l=[]:=by simpa using h2
  subst this
  rfl
 ·dsimp only
  rw [he]
  dsimp only
  rw [h2]
  dsimp only
  rw [h3,if_pos rfl,kC]; rfl
theorem OwnR.ok {h0 h h':Heap}{e:TypeId}{v:Value}{vs:List Value}(r:OwnR h0 h e v vs)(o:Ok h h'):OwnR h0 h' e v vs:=by
 rcases r with r | ⟨k,cs,h1,h2,h3,h4,h5⟩
 ·exact .inl r
 ·exact .inr ⟨k,cs,h1,h2,o.ext _ _ h3,h4,h5⟩
theorem OwnR.from_ {P:Program}{t e:TypeId}(hU:P.underlying t=some (.slice e))(hs:aq P e=some 1){h0 h:Heap}{v:Value}{vs:List Value}(r:OwnR h0 h e v vs){z:Nat}(hz:z < vs.length):
  ∃ a n c,aL P t v (some (.int .i64 (z:Int))) none none h=some (.slice a n c)/\Rd h e (.slice a n c) (vs.drop z):=by
 rcases r with ⟨rfl,rfl⟩ | ⟨k,cs,rfl,h2,h3,h4,h5⟩
 ·simp at hz
 ·refine ⟨some ⟨k,0+z*1,none⟩,vs.length - z,bm+cs.length - z,?_,.inr ⟨k,0+z*1,cs,_,true,by rw [List.length_drop],h3,?_⟩⟩
  ·unfold aL
   dsimp only
   rw [hU]
   dsimp only [bK]
   rw [hs,h3]
   dsimp only
   have hcap:aN (bm+cs.length)=cs.length:=by unfold aN; rw [if_pos (by omega)]; omega
   rw [if_pos (by simp),hcap,if_pos (by omega)]
   have e1:((z:Int)).toNat=z:=by omega
   have e2:((vs.length:Int) - (z:Int)).toNat=vs.length - z:=by omega
   rw [e1,e2]
  ·rw [Nat.zero_add,Nat.mul_one,List.length_drop]
   have:=congrArg (List.drop z) h4
   rw [List.drop_take] at this
   exact this
theorem OwnR.upto {P:Program}{t e:TypeId}(hU:P.underlying t=some (.slice e))(hs:aq P e=some 1){h0 h:Heap}{v:Value}{vs:List Value}(r:OwnR h0 h e v vs){z:Nat}(hz:z<=vs.length)(hp:0 < vs.length):
  ∃ a n c,aL P t v none (some (.int .i64 (z:Int))) none h=some (.slice a n c)/\OwnR h0 h e (.slice a n c) (vs.take z):=by
 rcases r with ⟨rfl,rfl⟩ | ⟨k,cs,rfl,h2,h3,h4,h5⟩
 ·simp at hp
 ·refine ⟨some ⟨k,0+0*1,none⟩,z,bm+cs.length,?_,.inr ⟨k,cs,?_,h2,h3,?_,?_⟩⟩
  ·unfold aL
   dsimp only
   rw [hU]
   dsimp only [bK]
   rw [hs,h3]
   dsimp only
   have hcap:aN (bm+cs.length)=cs.length:=by unfold aN; rw [if_pos (by omega)]; omega
   rw [if_pos (by simp),hcap,if_pos (by omega)]
   have e2:((z:Int) - ((0:Nat):Int)).toNat=z:=by omega
   have e0:((0:Nat):Int).toNat=0:=rfl
   rw [e2,e0]; rfl
  ·rw [List.length_take,Nat.min_eq_left hz]
  ·rw [List.length_take,Nat.min_eq_left hz,<-h4,List.take_take,Nat.min_eq_left hz]
  ·rw [List.length_take]; omega
theorem sY (k:IntKind)(a b:Int):ks true [.int k a,.int k b]=some (.int k (if b > a then b else a)):=by simp [ks]
theorem cJ {P:Program}{t:TypeId}{k:IntKind}{a:Int}{b:Nat}(h0:0<=a)(hb:0 < b):am P .rem t (.int k a) (.int k (b:Int))=some (.int k (a % (b:Int))):=by
 rw [Tl P t k _ _ (by omega),Int.tmod_eq_emod_of_nonneg h0]
theorem kQ {P:Program}{t:TypeId}{a:Int}{b:Nat}(h0:0<=a)(h1:a < 18446744073709551616)(hb:0 < b):am P .quo t (.int .u64 a) (.int .u64 (b:Int))=some (.int .u64 (a / (b:Int))):=by
 rw [FV P t .u64 _ _ (by omega),Int.tdiv_eq_ediv_of_nonneg h0,cI (Int.ediv_nonneg h0 (by omega)) (Int.lt_of_le_of_lt (Int.ediv_le_self _ h0) h1)]
def eo:List Nat->Code->Code->Code
 | [],n,_=>n
 | 0::p,n,.seq a b=> .seq (eo p n a) b
 | _::p,n,.seq a b=> .seq a (eo p n b)
 | 0::p,n,.cond c a b=> .cond c (eo p n a) b
 | _::p,n,.cond c a b=> .cond c a (eo p n b)
 | _::p,n,.block i c=> .block i (eo p n c)
 | _::p,n,.loop c=> .loop (eo p n c)
 | _::_,_,c=>c
theorem dw: ∀ (p:List Nat)(c:Code),eo p (aP p c) c=c
 | [],c=>rfl
 | i::p,c=>by
  cases c with
  | seq a b=>cases i <;> simp only [aP,eo,dw p]
  | cond c a b=>cases i <;> simp only [aP,eo,dw p]
  | block i c=>simp only [aP,eo,dw p]
  | loop c=>simp only [aP,eo,dw p]
  | _=>simp only [eo]
end Go.Ab
end
section
set_option linter.unusedVariables false
set_option maxRecDepth 100000
namespace Go.Proofs.YtoabjjimjldcfaaGreatDoor
open Go Go.Ab
noncomputable def sV:Code:=(Tryz.f165.body).getD .skip
def NN:List Nat:=[]
abbrev NG (l m:LB)(h:Heap)(Q:VH):Prop:=FW SS 177 [(aa l),(aa m)] h fun v1 h2=>yB v1 fun b3=>aw (!b3) (Q (.tuple ⟨[(aa l),(.bool false)]⟩) h2) (xS (aL SS.P 9 (aa l) (some (.int .i64 ((m:LB).length:Int))) none none h2) fun l4=>Q (.tuple ⟨[(aa l4),(.bool true)]⟩) h2)
theorem Jq (l m:LB)(h:Heap)(Q:VH)(hx:NG l m h Q):FW SS 165 [(aa l),(aa m)] h Q:=ax (M:=NN) (c:=sV) Tryz.func165 (show Tryz.f165.body=some sV by kernel_rfl) (by kernel_rfl) (ai hx (by kernel_rfl))
noncomputable def xf:Code:=(Tryz.f145.body).getD .skip
def QJ:List Nat:=[]
abbrev OS (l m:LB)(h:Heap)(Q:VH):Prop:=FW SS 165 [(aa l),(aa m)] h fun v1 h2=> ∃ l3:LB,∃ b4:Bool,v1=(.tuple ⟨[(aa l3),(.bool b4)]⟩)/\Q (.tuple ⟨[(aa l3),(.bool b4)]⟩) h2
theorem LQ (l m:LB)(h:Heap)(Q:VH)(hx:OS l m h Q):FW SS 145 [(aa l),(aa m)] h Q:=ax (M:=QJ) (c:=xf) Tryz.func145 (show Tryz.f145.body=some xf by kernel_rfl) (by kernel_rfl) (ai hx (by kernel_rfl))
noncomputable def qK:Code:=(Tryz.f186.body).getD .skip
def IE:List Nat:=[]
abbrev Kg (l:LB)(c:Int)(h:Heap)(Q:VH):Prop:=FW SS 196 [(aa l),(.int .u8 c)] h fun v1 h2=>yI .i64 v1 fun n3=>Q (.int .i64 n3) h2
theorem HW (l:LB)(c:Int)(h:Heap)(Q:VH)(hx:Kg l c h Q):FW SS 186 [(aa l),(.int .u8 c)] h Q:=ax (M:=IE) (c:=qK) Tryz.func186 (show Tryz.f186.body=some qK by kernel_rfl) (by kernel_rfl) (ai hx (by kernel_rfl))
noncomputable def wJ:Code:=(Tryz.f178.body).getD .skip
def Ph:List Nat:=[]
abbrev Qh (l:LB)(h:Heap)(Q:VH):Prop:=aw (([47]:LB) == l) (Q (.int .i64 0) h) (xI .u8 (aQ SS.P 9 (aa [47]) (.int .i64 0)) fun n1=>FW SS 186 [(aa l),(.int .u8 n1)] h fun v2 h3=>yI .i64 v2 fun n4=>Q (.int .i64 n4) h3)
theorem LY (l:LB)(h:Heap)(Q:VH)(hx:Qh l h Q):FW SS 178 [(aa l),(aa [47])] h Q:=ax (M:=Ph) (c:=wJ) Tryz.func178 (show Tryz.f178.body=some wJ by kernel_rfl) (by kernel_rfl) (ai hx (by kernel_rfl))
noncomputable def DF:Code:=(Tryz.f166.body).getD .skip
def UU:List Nat:=[]
abbrev Uq (l:LB)(h:Heap)(Q:VH):Prop:=FW SS 178 [(aa l),(aa [47])] h fun v1 h2=>yI .i64 v1 fun n3=>aw (decide ((n3:Int)>=0)) (xS (aL SS.P 9 (aa l) none (some (.int .i64 n3)) none (room h2 12)) fun l4=>xS (aL SS.P 9 (aa l) (some (.int .i64 (IntKind.wrap .i64 (n3+1)))) none none (room h2 12)) fun l5=>Q (.tuple ⟨[(aa l4),(aa l5),(.bool true)]⟩) (room h2 12)) (Q (.tuple ⟨[(aa l),(aa []),(.bool false)]⟩) h2)
theorem SC (l:LB)(h:Heap)(Q:VH)(hx:Uq l h Q):FW SS 166 [(aa l),(aa [47])] h Q:=ax (M:=UU) (c:=DF) Tryz.func166 (show Tryz.f166.body=some DF by kernel_rfl) (by kernel_rfl) (ai hx (by kernel_rfl))
noncomputable def Ic:Code:=(Tryz.f146.body).getD .skip
def Xd:List Nat:=[]
abbrev W4 (l:LB)(h:Heap)(Q:VH):Prop:=FW SS 166 [(aa l),(aa [47])] h fun v1 h2=> ∃ l3:LB,∃ l4:LB,∃ b5:Bool,v1=(.tuple ⟨[(aa l3),(aa l4),(.bool b5)]⟩)/\Q (.tuple ⟨[(aa l3),(aa l4),(.bool b5)]⟩) h2
theorem UO (l:LB)(h:Heap)(Q:VH)(hx:W4 l h Q):FW SS 146 [(aa l),(aa [47])] h Q:=ax (M:=Xd) (c:=Ic) Tryz.func146 (show Tryz.f146.body=some Ic by kernel_rfl) (by kernel_rfl) (ai hx (by kernel_rfl))
noncomputable def dS:Code:=(Tryz.f126.body).getD .skip
noncomputable def w9 (Q:VH):aj:=cE SS Tryz.f126.results.toList Q
def oC:List Nat:=[0,1,5]
noncomputable def wX (p:List Nat)(w:LV)(h:Heap)(Q:aj):Prop:=bp SS Tryz.f126.ntmps oC (aP p dS) w h Q
noncomputable def wR (p b:List Nat)(K:aj):aj:=ky SS Tryz.f126.ntmps oC p (aP b dS) K
abbrev GJ (l:LB)(c:Int)(h:Heap)(Q:VH):Prop:=wX [1,0,1,0,0] [(aa l),(.int .u8 c),(.int .i64 0)] h (wR [1,0,1,0] [] (w9 Q))
theorem Fa (l:LB)(c:Int)(h:Heap)(Q:VH)(hx:GJ l c h Q):FW SS 126 [(aa l),(.int .u8 c)] h Q:=ax (M:=oC) (c:=dS) Tryz.func126 (show Tryz.f126.body=some dS by kernel_rfl) (by kernel_rfl) (ai hx (by kernel_rfl))
abbrev fM (l:LB)(c:Int)  (i:Nat)  : LV:=[(aa l),(.int .u8 c),(iA i)]
def fZ (l:LB)(c:Int)  (Inv:Nat->Nat->Heap->Prop) (mz:Nat) (w:LV) (h:Heap):Prop:= ∃ (i:Nat) ,w=(fM l c i )/\Inv mz i h
abbrev uK (l:LB)(c:Int)  (Inv:Nat->Nat->Heap->Prop) (Q:VH) (mz:Nat) (i:Nat)  (zz:Nat->Value) (h:Heap):Prop:=aw (decide (((i:Int):Int) < ((l:LB).length:Int))) (xI .u8 (aQ SS.P 9 (aa l) (iA i)) fun n1=>aw (((n1:Int) == c)) (Q (iA i) h) (ak (fZ l c Inv) mz [(aa l),(.int .u8 c),(.int .i64 (IntKind.wrap .i64 ((i:Int)+1)))] h)) (Q (.int .i64 (-1)) h)
theorem pz {l:LB}{c:Int}  {Inv:Nat->Nat->Heap->Prop} {mz:Nat} (mq:Nat) {i:Nat}  {h:Heap} (hm:mq < mz) (hi:Inv mq i h):ak (fZ l c Inv) mz (fM l c i ) h:=⟨mq,hm,i,rfl,hi⟩
theorem pK (l:LB)(c:Int)  (Inv:Nat->Nat->Heap->Prop) (Q:VH) (step: ∀ (mz:Nat)(i:Nat)  (zz:Nat->Value) (h:Heap),Inv mz i h->uK l c Inv Q mz i  zz h) (mz:Nat) {i:Nat}  {h:Heap} (hi:Inv mz i h):wX [1,0,1,0,0] (fM l c i ) h (wR [1,0,1,0] [] (w9 Q)):=
 an (A:=(fZ l c Inv)) (show aF Tryz.f126.ntmps (aP [1,0,1,0,0] dS)=true by kernel_rfl) (fun mz w zz h ⟨i,hw,hi⟩=>by subst hw; exact ai (step mz i  zz h hi) (by kernel_rfl)) mz _ h ⟨i,rfl,hi⟩ (fun zz=>by kernel_rfl) (by kernel_rfl)
noncomputable def oc:Code:=(Tryz.f127.body).getD .skip
def IB:List Nat:=[]
abbrev Hm (l:LB)(h:Heap)(Q:VH):Prop:=aw (decide ((((l:LB).length:Int):Int)<=400)) (FW SS 149 [(aa l)] h fun v1 h2=>yB v1 fun b3=>Q (.bool b3) h2) (Q (.bool false) h)
theorem Ef (l:LB)(h:Heap)(Q:VH)(hx:Hm l h Q):FW SS 127 [(aa l)] h Q:=ax (M:=IB) (c:=oc) Tryz.func127 (show Tryz.f127.body=some oc by kernel_rfl) (by kernel_rfl) (ai hx (by kernel_rfl))
noncomputable def aO:Code:=(Tryz.f104.body).getD .skip
noncomputable def bc (Q:VH):aj:=cE SS Tryz.f104.results.toList Q
def aY:List Nat:=[]
abbrev wT (l:LB)(cc:Code)(h:Heap)(Q:VH):Prop:=aw (decide ((((l:LB).length:Int):Int) > 0)) (xI .u8 (aQ SS.P 9 (aa l) (.int .i64 0)) fun n1=>aw (((n1:Int) == 45)) (xS (aL SS.P 9 (aa l) (some (.int .i64 1)) none none h) fun l2=>FW SS 126 [(aa l2),(.int .u8 47)] h fun v3 h4=>yI .i64 v3 fun n5=>aw (decide ((n5:Int)>=0)) (xS (aL SS.P 9 (aa l2) (some (.int .i64 (IntKind.wrap .i64 (n5+1)))) none none h4) fun l6=>xS (aL SS.P 9 (aa l2) none (some (.int .i64 n5)) none h4) fun l7=>wpS SS Tryz.f104.ntmps aY cc [(aa l),undef,(.bool false),(aa []),(aa []),(.bool false),(aa l7),(aa l6),(.bool (((n1:Int) == 45))),(.int .i64 n5),undef,undef,(aa l),(aa l),(.int .i64 ((l:LB).length:Int)),(.bool (decide ((((l:LB).length:Int):Int) > 0))),(.bool true),(aa l),(.int .u8 n1),(.bool (((n1:Int) == 45))),(.bool (((n1:Int) == 45))),(.bool (((n1:Int) == 45))),(aa l),(aa l2),(aa l2),(.int .i64 n5),(.int .i64 n5),(.bool (decide ((n5:Int)>=0))),(aa l2),(.int .i64 n5),(.int .i64 (IntKind.wrap .i64 (n5+1))),(aa l6),(aa l2),(.int .i64 n5),(aa l7),undef,undef,undef,undef,undef,undef,undef,undef,undef,undef,undef,undef,undef,undef,undef,undef,undef,undef,undef,undef,undef,undef,undef,undef,undef,undef,undef,undef,undef,undef,undef,undef,undef,undef,undef,undef,undef,undef,undef,undef,undef,undef,undef,undef,undef,undef] h4 (bc Q)) (wpS SS Tryz.f104.ntmps aY cc [(aa l),undef,(.bool false),(aa []),(aa []),(.bool false),(aa l2),(aa [49]),(.bool (((n1:Int) == 45))),(.int .i64 n5),undef,undef,(aa l),(aa l),(.int .i64 ((l:LB).length:Int)),(.bool (decide ((((l:LB).length:Int):Int) > 0))),(.bool true),(aa l),(.int .u8 n1),(.bool (((n1:Int) == 45))),(.bool (((n1:Int) == 45))),(.bool (((n1:Int) == 45))),(aa l),(aa l2),(aa l2),(.int .i64 n5),(.int .i64 n5),(.bool (decide ((n5:Int)>=0))),undef,undef,undef,undef,undef,undef,undef,undef,undef,undef,undef,undef,undef,undef,undef,undef,undef,undef,undef,undef,undef,undef,undef,undef,undef,undef,undef,undef,undef,undef,undef,undef,undef,undef,undef,undef,undef,undef,undef,undef,undef,undef,undef,undef,undef,undef,undef,undef,undef,undef,undef,undef,undef] h4 (bc Q))) (FW SS 126 [(aa l),(.int .u8 47)] h fun v8 h9=>yI .i64 v8 fun n10=>aw (decide ((n10:Int)>=0)) (xS (aL SS.P 9 (aa l) (some (.int .i64 (IntKind.wrap .i64 (n10+1)))) none none h9) fun l11=>xS (aL SS.P 9 (aa l) none (some (.int .i64 n10)) none h9) fun l12=>wpS SS Tryz.f104.ntmps aY cc [(aa l),undef,(.bool false),(aa []),(aa []),(.bool false),(aa l12),(aa l11),(.bool (((n1:Int) == 45))),(.int .i64 n10),undef,undef,(aa l),(aa l),(.int .i64 ((l:LB).length:Int)),(.bool (decide ((((l:LB).length:Int):Int) > 0))),(.bool true),(aa l),(.int .u8 n1),(.bool (((n1:Int) == 45))),(.bool (((n1:Int) == 45))),(.bool (((n1:Int) == 45))),undef,undef,(aa l),(.int .i64 n10),(.int .i64 n10),(.bool (decide ((n10:Int)>=0))),(aa l),(.int .i64 n10),(.int .i64 (IntKind.wrap .i64 (n10+1))),(aa l11),(aa l),(.int .i64 n10),(aa l12),undef,undef,undef,undef,undef,undef,undef,undef,undef,undef,undef,undef,undef,undef,undef,undef,undef,undef,undef,undef,undef,undef,undef,undef,undef,undef,undef,undef,undef,undef,undef,undef,undef,undef,undef,undef,undef,undef,undef,undef,undef,undef,undef,undef,undef,undef] h9 (bc Q)) (wpS SS Tryz.f104.ntmps aY cc [(aa l),undef,(.bool false),(aa []),(aa []),(.bool false),(aa l),(aa [49]),(.bool (((n1:Int) == 45))),(.int .i64 n10),undef,undef,(aa l),(aa l),(.int .i64 ((l:LB).length:Int)),(.bool (decide ((((l:LB).length:Int):Int) > 0))),(.bool true),(aa l),(.int .u8 n1),(.bool (((n1:Int) == 45))),(.bool (((n1:Int) == 45))),(.bool (((n1:Int) == 45))),undef,undef,(aa l),(.int .i64 n10),(.int .i64 n10),(.bool (decide ((n10:Int)>=0))),undef,undef,undef,undef,undef,undef,undef,undef,undef,undef,undef,undef,undef,undef,undef,undef,undef,undef,undef,undef,undef,undef,undef,undef,undef,undef,undef,undef,undef,undef,undef,undef,undef,undef,undef,undef,undef,undef,undef,undef,undef,undef,undef,undef,undef,undef,undef,undef,undef,undef,undef,undef,undef] h9 (bc Q)))) (FW SS 126 [(aa l),(.int .u8 47)] h fun v13 h14=>yI .i64 v13 fun n15=>aw (decide ((n15:Int)>=0)) (xS (aL SS.P 9 (aa l) (some (.int .i64 (IntKind.wrap .i64 (n15+1)))) none none h14) fun l16=>xS (aL SS.P 9 (aa l) none (some (.int .i64 n15)) none h14) fun l17=>wpS SS Tryz.f104.ntmps aY cc [(aa l),undef,(.bool false),(aa []),(aa []),(.bool false),(aa l17),(aa l16),(.bool false),(.int .i64 n15),undef,undef,(aa l),(aa l),(.int .i64 ((l:LB).length:Int)),(.bool (decide ((((l:LB).length:Int):Int) > 0))),(.bool false),undef,undef,undef,(.bool false),(.bool false),undef,undef,(aa l),(.int .i64 n15),(.int .i64 n15),(.bool (decide ((n15:Int)>=0))),(aa l),(.int .i64 n15),(.int .i64 (IntKind.wrap .i64 (n15+1))),(aa l16),(aa l),(.int .i64 n15),(aa l17),undef,undef,undef,undef,undef,undef,undef,undef,undef,undef,undef,undef,undef,undef,undef,undef,undef,undef,undef,undef,undef,undef,undef,undef,undef,undef,undef,undef,undef,undef,undef,undef,undef,undef,undef,undef,undef,undef,undef,undef,undef,undef,undef,undef,undef,undef] h14 (bc Q)) (wpS SS Tryz.f104.ntmps aY cc [(aa l),undef,(.bool false),(aa []),(aa []),(.bool false),(aa l),(aa [49]),(.bool false),(.int .i64 n15),undef,undef,(aa l),(aa l),(.int .i64 ((l:LB).length:Int)),(.bool (decide ((((l:LB).length:Int):Int) > 0))),(.bool false),undef,undef,undef,(.bool false),(.bool false),undef,undef,(aa l),(.int .i64 n15),(.int .i64 n15),(.bool (decide ((n15:Int)>=0))),undef,undef,undef,undef,undef,undef,undef,undef,undef,undef,undef,undef,undef,undef,undef,undef,undef,undef,undef,undef,undef,undef,undef,undef,undef,undef,undef,undef,undef,undef,undef,undef,undef,undef,undef,undef,undef,undef,undef,undef,undef,undef,undef,undef,undef,undef,undef,undef,undef,undef,undef,undef,undef] h14 (bc Q)))
theorem Eo (l:LB)(h:Heap)(Q:VH)(hx:wT l (aP [1,1,1,1,1,1] aO) h Q):FW SS 104 [(aa l)] h Q:=by
 have e: ∀ cc,wT l cc h Q=wpS SS Tryz.f104.ntmps aY (eo [1,1,1,1,1,1] cc aO) ([(aa l)]++List.replicate (Tryz.f104.ntmps - ([(aa l)]:LV).length) undef) h (bc Q):=fun cc=>by kernel_rfl
 have e:=e (aP [1,1,1,1,1,1] aO)
 rw [dw] at e
 exact ax (M:=aY) (c:=aO) Tryz.func104 (show Tryz.f104.body=some aO by kernel_rfl) (by kernel_rfl) (ai hx e)
abbrev pv (n d:LB)(neg:Bool)(st:Int)(cc:Code)(x0 x1 x2 x3 x4 x5 x10 x11 x12 x13 x14 x15 x16 x17 x18 x19 x20 x21 x22 x23 x24 x25 x26 x27 x28 x29 x30 x31 x32 x33 x34 x35 x36 x37 x38 x39 x40 x41 x42 x43 x44 x45 x46 x47 x48 x49 x50 x51 x52 x53 x54 x55 x56 x57 x58 x59 x60 x61 x62 x63 x64 x65 x66 x67 x68 x69 x70 x71 x72 x73 x74 x75 x76 x77 x78 x79 x80:Value)(h:Heap)(Q:VH):Prop:=FW SS 127 [(aa n)] h fun v1 h2=>yB v1 fun b3=>aw (!b3) (Q (.tuple ⟨[(.bool false),(aa []),(aa []),(.bool false)]⟩) h2) (FW SS 127 [(aa d)] h2 fun v4 h5=>yB v4 fun b6=>aw (!b6) (Q (.tuple ⟨[(.bool false),(aa []),(aa []),(.bool false)]⟩) h5) (aw ((d:LB) == [48]) (Q (.tuple ⟨[(.bool false),(aa []),(aa []),(.bool false)]⟩) h5) (aw ((n:LB) == [48]) (aw neg (Q (.tuple ⟨[(.bool false),(aa []),(aa []),(.bool false)]⟩) h5) (aw (decide ((st:Int)>=0)) (Q (.tuple ⟨[(.bool false),(aa []),(aa []),(.bool false)]⟩) h5) (aw ((d:LB) == [49]) (aw (decide ((st:Int)>=0)) (Q (.tuple ⟨[(.bool false),(aa []),(aa []),(.bool false)]⟩) h5) (wpS SS Tryz.f104.ntmps aY cc [x0,x1,x2,x3,x4,x5,(aa n),(aa d),(.bool neg),(.int .i64 st),x10,x11,x12,x13,x14,x15,x16,x17,x18,x19,x20,x21,x22,x23,x24,x25,x26,x27,x28,x29,x30,x31,x32,x33,x34,(aa n),(.bool b3),(.bool (!b3)),(.bool false),(aa d),(.bool b6),(.bool (!b6)),(.bool (!b6)),(.bool false),(aa d),(.bool ((d:LB) == [48])),(.bool ((d:LB) == [48])),(.bool false),(aa n),(.bool ((n:LB) == [48])),(.bool true),(.bool neg),(.bool false),(.int .i64 st),(.bool (decide ((st:Int)>=0))),(.bool (decide ((st:Int)>=0))),(.bool (decide ((st:Int)>=0))),(.bool (decide ((st:Int)>=0))),(.bool false),(aa d),(.bool ((d:LB) == [49])),(.bool true),(.int .i64 st),(.bool (decide ((st:Int)>=0))),(.bool (decide ((st:Int)>=0))),(.bool (decide ((st:Int)>=0))),x66,x67,x68,x69,x70,x71,x72,x73,x74,x75,x76,x77,x78,x79,x80] h5 (bc Q))) (wpS SS Tryz.f104.ntmps aY cc [x0,x1,x2,x3,x4,x5,(aa n),(aa d),(.bool neg),(.int .i64 st),x10,x11,x12,x13,x14,x15,x16,x17,x18,x19,x20,x21,x22,x23,x24,x25,x26,x27,x28,x29,x30,x31,x32,x33,x34,(aa n),(.bool b3),(.bool (!b3)),(.bool false),(aa d),(.bool b6),(.bool (!b6)),(.bool (!b6)),(.bool false),(aa d),(.bool ((d:LB) == [48])),(.bool ((d:LB) == [48])),(.bool false),(aa n),(.bool ((n:LB) == [48])),(.bool true),(.bool neg),(.bool false),(.int .i64 st),(.bool (decide ((st:Int)>=0))),(.bool (decide ((st:Int)>=0))),(.bool (decide ((st:Int)>=0))),(.bool (decide ((st:Int)>=0))),(.bool false),(aa d),(.bool ((d:LB) == [49])),(.bool false),undef,undef,(.bool false),(.bool false),x66,x67,x68,x69,x70,x71,x72,x73,x74,x75,x76,x77,x78,x79,x80] h5 (bc Q))))) (aw ((d:LB) == [49]) (aw (decide ((st:Int)>=0)) (Q (.tuple ⟨[(.bool false),(aa []),(aa []),(.bool false)]⟩) h5) (wpS SS Tryz.f104.ntmps aY cc [x0,x1,x2,x3,x4,x5,(aa n),(aa d),(.bool neg),(.int .i64 st),x10,x11,x12,x13,x14,x15,x16,x17,x18,x19,x20,x21,x22,x23,x24,x25,x26,x27,x28,x29,x30,x31,x32,x33,x34,(aa n),(.bool b3),(.bool (!b3)),(.bool false),(aa d),(.bool b6),(.bool (!b6)),(.bool (!b6)),(.bool false),(aa d),(.bool ((d:LB) == [48])),(.bool ((d:LB) == [48])),(.bool false),(aa n),(.bool ((n:LB) == [48])),(.bool false),undef,undef,undef,undef,undef,(.bool false),(.bool false),(.bool false),(aa d),(.bool ((d:LB) == [49])),(.bool true),(.int .i64 st),(.bool (decide ((st:Int)>=0))),(.bool (decide ((st:Int)>=0))),(.bool (decide ((st:Int)>=0))),x66,x67,x68,x69,x70,x71,x72,x73,x74,x75,x76,x77,x78,x79,x80] h5 (bc Q))) (wpS SS Tryz.f104.ntmps aY cc [x0,x1,x2,x3,x4,x5,(aa n),(aa d),(.bool neg),(.int .i64 st),x10,x11,x12,x13,x14,x15,x16,x17,x18,x19,x20,x21,x22,x23,x24,x25,x26,x27,x28,x29,x30,x31,x32,x33,x34,(aa n),(.bool b3),(.bool (!b3)),(.bool false),(aa d),(.bool b6),(.bool (!b6)),(.bool (!b6)),(.bool false),(aa d),(.bool ((d:LB) == [48])),(.bool ((d:LB) == [48])),(.bool false),(aa n),(.bool ((n:LB) == [48])),(.bool false),undef,undef,undef,undef,undef,(.bool false),(.bool false),(.bool false),(aa d),(.bool ((d:LB) == [49])),(.bool false),undef,undef,(.bool false),(.bool false),x66,x67,x68,x69,x70,x71,x72,x73,x74,x75,x76,x77,x78,x79,x80] h5 (bc Q))))))
theorem yv {n d:LB}{neg:Bool}{st:Int}{x0 x1 x2 x3 x4 x5 x10 x11 x12 x13 x14 x15 x16 x17 x18 x19 x20 x21 x22 x23 x24 x25 x26 x27 x28 x29 x30 x31 x32 x33 x34 x35 x36 x37 x38 x39 x40 x41 x42 x43 x44 x45 x46 x47 x48 x49 x50 x51 x52 x53 x54 x55 x56 x57 x58 x59 x60 x61 x62 x63 x64 x65 x66 x67 x68 x69 x70 x71 x72 x73 x74 x75 x76 x77 x78 x79 x80:Value}{h:Heap}{Q:VH}(hx:pv n d neg st (aP [1,1,1,1,1,1,1] aO) x0 x1 x2 x3 x4 x5 x10 x11 x12 x13 x14 x15 x16 x17 x18 x19 x20 x21 x22 x23 x24 x25 x26 x27 x28 x29 x30 x31 x32 x33 x34 x35 x36 x37 x38 x39 x40 x41 x42 x43 x44 x45 x46 x47 x48 x49 x50 x51 x52 x53 x54 x55 x56 x57 x58 x59 x60 x61 x62 x63 x64 x65 x66 x67 x68 x69 x70 x71 x72 x73 x74 x75 x76 x77 x78 x79 x80 h Q):wpS SS Tryz.f104.ntmps aY (aP [1,1,1,1,1,1] aO) [x0,x1,x2,x3,x4,x5,(aa n),(aa d),(.bool neg),(.int .i64 st),x10,x11,x12,x13,x14,x15,x16,x17,x18,x19,x20,x21,x22,x23,x24,x25,x26,x27,x28,x29,x30,x31,x32,x33,x34,x35,x36,x37,x38,x39,x40,x41,x42,x43,x44,x45,x46,x47,x48,x49,x50,x51,x52,x53,x54,x55,x56,x57,x58,x59,x60,x61,x62,x63,x64,x65,x66,x67,x68,x69,x70,x71,x72,x73,x74,x75,x76,x77,x78,x79,x80] h (bc Q):=by
 have e: ∀ cc,pv n d neg st cc x0 x1 x2 x3 x4 x5 x10 x11 x12 x13 x14 x15 x16 x17 x18 x19 x20 x21 x22 x23 x24 x25 x26 x27 x28 x29 x30 x31 x32 x33 x34 x35 x36 x37 x38 x39 x40 x41 x42 x43 x44 x45 x46 x47 x48 x49 x50 x51 x52 x53 x54 x55 x56 x57 x58 x59 x60 x61 x62 x63 x64 x65 x66 x67 x68 x69 x70 x71 x72 x73 x74 x75 x76 x77 x78 x79 x80 h Q=wpS SS Tryz.f104.ntmps aY (eo [1] cc (aP [1,1,1,1,1,1] aO)) [x0,x1,x2,x3,x4,x5,(aa n),(aa d),(.bool neg),(.int .i64 st),x10,x11,x12,x13,x14,x15,x16,x17,x18,x19,x20,x21,x22,x23,x24,x25,x26,x27,x28,x29,x30,x31,x32,x33,x34,x35,x36,x37,x38,x39,x40,x41,x42,x43,x44,x45,x46,x47,x48,x49,x50,x51,x52,x53,x54,x55,x56,x57,x58,x59,x60,x61,x62,x63,x64,x65,x66,x67,x68,x69,x70,x71,x72,x73,x74,x75,x76,x77,x78,x79,x80] h (bc Q):=fun cc=>by kernel_rfl
 have e:=e (aP [1,1,1,1,1,1,1] aO)
 have ec:(aP [1,1,1,1,1,1,1] aO)=aP [1] (aP [1,1,1,1,1,1] aO):=by kernel_rfl
 have es:eo [1] (aP [1,1,1,1,1,1,1] aO) (aP [1,1,1,1,1,1] aO)=aP [1,1,1,1,1,1] aO:=by rw [ec,dw]
 rw [es] at e
 exact ai hx e
abbrev BI (n d:LB)(neg:Bool)(st:Int)(x0 x1 x2 x3 x4 x5 x10 x11 x12 x13 x14 x15 x16 x17 x18 x19 x20 x21 x22 x23 x24 x25 x26 x27 x28 x29 x30 x31 x32 x33 x34 x35 x36 x37 x38 x39 x40 x41 x42 x43 x44 x45 x46 x47 x48 x49 x50 x51 x52 x53 x54 x55 x56 x57 x58 x59 x60 x61 x62 x63 x64 x65 x66 x67 x68 x69 x70 x71 x72 x73 x74 x75 x76 x77 x78 x79 x80:Value)(h:Heap)(Q:VH):Prop:=FW SS 128 [(aa n),(aa d)] h fun v1 h2=> ∃ l3:LB,∃ n4:Int,v1=(.tuple ⟨[(aa l3),(.int .i64 n4)]⟩)/\aw (!((l3:LB) == [49])) (aw (!((d:LB) == [49])) (Q (.tuple ⟨[(.bool false),(aa []),(aa []),(.bool false)]⟩) h2) (Q (.tuple ⟨[(.bool neg),(aa n),(aa d),(.bool true)]⟩) h2)) (Q (.tuple ⟨[(.bool neg),(aa n),(aa d),(.bool true)]⟩) h2)
theorem xW {n d:LB}{neg:Bool}{st:Int}{x0 x1 x2 x3 x4 x5 x10 x11 x12 x13 x14 x15 x16 x17 x18 x19 x20 x21 x22 x23 x24 x25 x26 x27 x28 x29 x30 x31 x32 x33 x34 x35 x36 x37 x38 x39 x40 x41 x42 x43 x44 x45 x46 x47 x48 x49 x50 x51 x52 x53 x54 x55 x56 x57 x58 x59 x60 x61 x62 x63 x64 x65 x66 x67 x68 x69 x70 x71 x72 x73 x74 x75 x76 x77 x78 x79 x80:Value}{h:Heap}{Q:VH}(hx:BI n d neg st x0 x1 x2 x3 x4 x5 x10 x11 x12 x13 x14 x15 x16 x17 x18 x19 x20 x21 x22 x23 x24 x25 x26 x27 x28 x29 x30 x31 x32 x33 x34 x35 x36 x37 x38 x39 x40 x41 x42 x43 x44 x45 x46 x47 x48 x49 x50 x51 x52 x53 x54 x55 x56 x57 x58 x59 x60 x61 x62 x63 x64 x65 x66 x67 x68 x69 x70 x71 x72 x73 x74 x75 x76 x77 x78 x79 x80 h Q):wpS SS Tryz.f104.ntmps aY (aP [1,1,1,1,1,1,1] aO) [x0,x1,x2,x3,x4,x5,(aa n),(aa d),(.bool neg),(.int .i64 st),x10,x11,x12,x13,x14,x15,x16,x17,x18,x19,x20,x21,x22,x23,x24,x25,x26,x27,x28,x29,x30,x31,x32,x33,x34,x35,x36,x37,x38,x39,x40,x41,x42,x43,x44,x45,x46,x47,x48,x49,x50,x51,x52,x53,x54,x55,x56,x57,x58,x59,x60,x61,x62,x63,x64,x65,x66,x67,x68,x69,x70,x71,x72,x73,x74,x75,x76,x77,x78,x79,x80] h (bc Q):=ai hx (by kernel_rfl)
noncomputable def pu:Code:=(Tryz.f76.body).getD .skip
def GQ:List Nat:=[]
abbrev HU (l:LB)(h:Heap)(Q:VH):Prop:=FW SS 104 [(aa l)] h fun v1 h2=> ∃ b3:Bool,∃ l4:LB,∃ l5:LB,∃ b6:Bool,v1=(.tuple ⟨[(.bool b3),(aa l4),(aa l5),(.bool b6)]⟩)/\Q (.bool b6) h2
theorem Ev (l:LB)(h:Heap)(Q:VH)(hx:HU l h Q):FW SS 76 [(aa l)] h Q:=ax (M:=GQ) (c:=pu) Tryz.func76 (show Tryz.f76.body=some pu by kernel_rfl) (by kernel_rfl) (ai hx (by kernel_rfl))
noncomputable def pG:Code:=(Tryz.f106.body).getD .skip
def In:List Nat:=[]
abbrev HS (l m:LB)(h:Heap)(Q:VH):Prop:=FW SS 132 [(aa l),(aa m)] h fun v1 h2=> ∃ l3:LB,∃ n4:Int,v1=(.tuple ⟨[(aa l3),(.int .i64 n4)]⟩)/\Q (aa l3) h2
theorem Ec (l m:LB)(h:Heap)(Q:VH)(hx:HS l m h Q):FW SS 106 [(aa l),(aa m)] h Q:=ax (M:=In) (c:=pG) Tryz.func106 (show Tryz.f106.body=some pG by kernel_rfl) (by kernel_rfl) (ai hx (by kernel_rfl))
noncomputable def uj:Code:=(Tryz.f105.body).getD .skip
def Nv:List Nat:=[]
abbrev My (p:Bool)(l:LB)(q:Bool)(m:LB)(h:Heap)(Q:VH):Prop:=aw (p == q) (FW SS 129 [(aa l),(aa m)] h fun v1 h2=> ∃ l3:LB,∃ n4:Int,v1=(.tuple ⟨[(aa l3),(.int .i64 n4)]⟩)/\Q (.tuple ⟨[(.bool p),(aa l3)]⟩) h2) (FW SS 130 [(aa l),(aa m)] h fun v5 h6=>yI .i64 v5 fun n7=>aw (decide ((n7:Int)>=0)) (FW SS 131 [(aa l),(aa m)] h6 fun v8 h9=> ∃ l10:LB,∃ n11:Int,v8=(.tuple ⟨[(aa l10),(.int .i64 n11)]⟩)/\Q (.tuple ⟨[(.bool p),(aa l10)]⟩) h9) (FW SS 131 [(aa m),(aa l)] h6 fun v12 h13=> ∃ l14:LB,∃ n15:Int,v12=(.tuple ⟨[(aa l14),(.int .i64 n15)]⟩)/\Q (.tuple ⟨[(.bool q),(aa l14)]⟩) h13))
theorem II (p:Bool)(l:LB)(q:Bool)(m:LB)(h:Heap)(Q:VH)(hx:My p l q m h Q):FW SS 105 [(.bool p),(aa l),(.bool q),(aa m)] h Q:=ax (M:=Nv) (c:=uj) Tryz.func105 (show Tryz.f105.body=some uj by kernel_rfl) (by kernel_rfl) (ai hx (by kernel_rfl))
noncomputable def tz:Code:=(Tryz.f77.body).getD .skip
def MP:List Nat:=[]
abbrev Nz (l m:LB)(h:Heap)(Q:VH):Prop:=FW SS 104 [(aa l)] h fun v1 h2=> ∃ b3:Bool,∃ l4:LB,∃ l5:LB,∃ b6:Bool,v1=(.tuple ⟨[(.bool b3),(aa l4),(aa l5),(.bool b6)]⟩)/\FW SS 104 [(aa m)] h2 fun v7 h8=> ∃ b9:Bool,∃ l10:LB,∃ l11:LB,∃ b12:Bool,v7=(.tuple ⟨[(.bool b9),(aa l10),(aa l11),(.bool b12)]⟩)/\aw (!b6) (Q (.int .i64 0) h8) (aw (!b12) (Q (.int .i64 0) h8) (FW SS 106 [(aa l4),(aa l11)] h8 fun v13 h14=>yS v13 fun l15=>FW SS 106 [(aa l10),(aa l5)] h14 fun v16 h17=>yS v16 fun l18=>FW SS 105 [(.bool b3),(aa l15),(.bool (!b9)),(aa l18)] h17 fun v19 h20=> ∃ b21:Bool,∃ l22:LB,v19=(.tuple ⟨[(.bool b21),(aa l22)]⟩)/\aw ((l22:LB) == [48]) (Q (.int .i64 0) h20) (aw b21 (Q (.int .i64 (-1)) h20) (Q (.int .i64 1) h20))))
theorem Kn (l m:LB)(h:Heap)(Q:VH)(hx:Nz l m h Q):FW SS 77 [(aa l),(aa m)] h Q:=ax (M:=MP) (c:=tz) Tryz.func77 (show Tryz.f77.body=some tz by kernel_rfl) (by kernel_rfl) (ai hx (by kernel_rfl))
noncomputable def mH:Code:=(Tryz.f118.body).getD .skip
def MM:List Nat:=[]
abbrev NS (l:LB)(e:Int)(h:Heap)(Q:VH):Prop:=aw (((e:Int) != 0)) (xA (bE SS.P 135 []) fun c1=>xG (aK SS.P dj (ev SS.gl [(aa l),(.int .i64 e),undef,undef,(aa []),(.int .i64 e),(.bool (((e:Int) != 0))),(.agg ⟨c1⟩),(.iface 135 (.agg ⟨c1⟩)),undef]) (GX (aP [1,0,1,0] mH) 2) h) h fun v2 u3 g4=>Q (aa l) g4) (Q (aa l) h)
theorem JR (l:LB)(e:Int)(h:Heap)(Q:VH)(hx:NS l e h Q):FW SS 118 [(aa l),(.int .i64 e)] h Q:=ax (M:=MM) (c:=mH) Tryz.func118 (show Tryz.f118.body=some mH by kernel_rfl) (by kernel_rfl) (ai hx (by kernel_rfl))
noncomputable def au:Code:=(Tryz.f121.body).getD .skip
noncomputable def bg (Q:VH):aj:=cE SS Tryz.f121.results.toList Q
def a0:List Nat:=[]
abbrev AT (l:LB)(cc:Code)(h:Heap)(Q:VH):Prop:=xN (bi SS.P 122) h fun B1 g2=>FW SS 145 [(aa l),(aa [45])] g2 fun v3 h4=> ∃ l5:LB,∃ b6:Bool,v3=(.tuple ⟨[(aa l5),(.bool b6)]⟩)/\FW SS 146 [(aa l5),(aa [47])] h4 fun v7 h8=> ∃ l9:LB,∃ l10:LB,∃ b11:Bool,v7=(.tuple ⟨[(aa l9),(aa l10),(.bool b11)]⟩)/\aw (!b11) (wpS SS Tryz.f121.ntmps a0 cc [(aa l),undef,(pA (h.next)),(.bool false),(aa l5),(.bool b6),(aa l9),(aa [49]),(.bool b11),undef,undef,(.tuple ⟨[(aa l5),(.bool b6)]⟩),(aa l),(.tuple ⟨[(aa l5),(.bool b6)]⟩),(aa l5),(.bool b6),(.tuple ⟨[(aa l9),(aa l10),(.bool b11)]⟩),(aa l5),(.tuple ⟨[(aa l9),(aa l10),(.bool b11)]⟩),(aa l9),(aa l10),(.bool b11),(.bool b11),(.bool (!b11)),undef,undef,undef,undef,undef,undef,undef,undef,undef,undef,undef,undef,undef,undef,undef,undef,undef,undef,undef,undef,undef,undef,undef,undef,undef,undef,undef,undef,undef,undef,undef,undef,undef,undef,undef,undef,undef,undef,undef,undef,undef,undef,undef,undef,undef,undef,undef,undef,undef,undef,undef,undef,undef] h8 (bg Q)) (wpS SS Tryz.f121.ntmps a0 cc [(aa l),undef,(pA (h.next)),(.bool false),(aa l5),(.bool b6),(aa l9),(aa l10),(.bool b11),undef,undef,(.tuple ⟨[(aa l5),(.bool b6)]⟩),(aa l),(.tuple ⟨[(aa l5),(.bool b6)]⟩),(aa l5),(.bool b6),(.tuple ⟨[(aa l9),(aa l10),(.bool b11)]⟩),(aa l5),(.tuple ⟨[(aa l9),(aa l10),(.bool b11)]⟩),(aa l9),(aa l10),(.bool b11),(.bool b11),(.bool (!b11)),undef,undef,undef,undef,undef,undef,undef,undef,undef,undef,undef,undef,undef,undef,undef,undef,undef,undef,undef,undef,undef,undef,undef,undef,undef,undef,undef,undef,undef,undef,undef,undef,undef,undef,undef,undef,undef,undef,undef,undef,undef,undef,undef,undef,undef,undef,undef,undef,undef,undef,undef,undef,undef] h8 (bg Q))
theorem Hb (l:LB)(h:Heap)(Q:VH)(hx:AT l (aP [1,1,1,1] au) h Q):FW SS 121 [(aa l)] h Q:=by
 have e: ∀ cc,AT l cc h Q=wpS SS Tryz.f121.ntmps a0 (eo [1,1,1,1] cc au) ([(aa l)]++List.replicate (Tryz.f121.ntmps - ([(aa l)]:LV).length) undef) h (bg Q):=fun cc=>by kernel_rfl
 have e:=e (aP [1,1,1,1] au)
 rw [dw] at e
 exact ax (M:=a0) (c:=au) Tryz.func121 (show Tryz.f121.body=some au by kernel_rfl) (by kernel_rfl) (ai hx e)
abbrev q0 (n d:LB)(neg fnd:Bool)(p:Addr)(cc:Code)(x0 x1 x3 x4 x9 x10 x11 x12 x13 x14 x15 x16 x17 x18 x19 x20 x21 x22 x23 x24 x25 x26 x27 x28 x29 x30 x31 x32 x33 x34 x35 x36 x37 x38 x39 x40 x41 x42 x43 x44 x45 x46 x47 x48 x49 x50 x51 x52 x53 x54 x55 x56 x57 x58 x59 x60 x61 x62 x63 x64 x65 x66 x67 x68 x69 x70 x71 x72 x73 x74 x75 x76:Value)(h:Heap)(Q:VH):Prop:=FW SS 139 [(aa n)] h fun v1 h2=>yB v1 fun b3=>aw (!b3) (xA (bE SS.P 122 []) fun c4=>xU (al SS.P 122 (.pointer (some p)) (.agg ⟨c4⟩) h2) h2 fun u5 g6=>ko SS [((.pointer (some p)),some 122),((.bool false),none)] g6 Q) (FW SS 139 [(aa d)] h2 fun v7 h8=>yB v7 fun b9=>aw (!b9) (xA (bE SS.P 122 []) fun c10=>xU (al SS.P 122 (.pointer (some p)) (.agg ⟨c10⟩) h8) h8 fun u11 g12=>ko SS [((.pointer (some p)),some 122),((.bool false),none)] g12 Q) (aw (decide ((((n:LB).length:Int):Int) > 400)) (xA (bE SS.P 122 []) fun c13=>xU (al SS.P 122 (.pointer (some p)) (.agg ⟨c13⟩) h8) h8 fun u14 g15=>ko SS [((.pointer (some p)),some 122),((.bool false),none)] g15 Q) (aw (decide ((((d:LB).length:Int):Int) > 400)) (xA (bE SS.P 122 []) fun c16=>xU (al SS.P 122 (.pointer (some p)) (.agg ⟨c16⟩) h8) h8 fun u17 g18=>ko SS [((.pointer (some p)),some 122),((.bool false),none)] g18 Q) (wpS SS Tryz.f121.ntmps a0 cc [x0,x1,(.pointer (some p)),x3,x4,(.bool neg),(aa n),(aa d),(.bool fnd),x9,x10,x11,x12,x13,x14,x15,x16,x17,x18,x19,x20,x21,x22,x23,(aa n),(.bool b3),(.bool (!b3)),(.bool false),(aa d),(.bool b9),(.bool (!b9)),(.bool (!b9)),(.bool false),(aa n),(.int .i64 ((n:LB).length:Int)),(.bool (decide ((((n:LB).length:Int):Int) > 400))),(.bool (decide ((((n:LB).length:Int):Int) > 400))),(.bool false),(aa d),(.int .i64 ((d:LB).length:Int)),(.bool (decide ((((d:LB).length:Int):Int) > 400))),(.bool (decide ((((d:LB).length:Int):Int) > 400))),x42,x43,x44,x45,x46,x47,x48,x49,x50,x51,x52,x53,x54,x55,x56,x57,x58,x59,x60,x61,x62,x63,x64,x65,x66,x67,x68,x69,x70,x71,x72,x73,x74,x75,x76] h8 (bg Q)))))
theorem AZ {n d:LB}{neg fnd:Bool}{p:Addr}{x0 x1 x3 x4 x9 x10 x11 x12 x13 x14 x15 x16 x17 x18 x19 x20 x21 x22 x23 x24 x25 x26 x27 x28 x29 x30 x31 x32 x33 x34 x35 x36 x37 x38 x39 x40 x41 x42 x43 x44 x45 x46 x47 x48 x49 x50 x51 x52 x53 x54 x55 x56 x57 x58 x59 x60 x61 x62 x63 x64 x65 x66 x67 x68 x69 x70 x71 x72 x73 x74 x75 x76:Value}{h:Heap}{Q:VH}(hx:q0 n d neg fnd p (aP [1,1,1,1,1] au) x0 x1 x3 x4 x9 x10 x11 x12 x13 x14 x15 x16 x17 x18 x19 x20 x21 x22 x23 x24 x25 x26 x27 x28 x29 x30 x31 x32 x33 x34 x35 x36 x37 x38 x39 x40 x41 x42 x43 x44 x45 x46 x47 x48 x49 x50 x51 x52 x53 x54 x55 x56 x57 x58 x59 x60 x61 x62 x63 x64 x65 x66 x67 x68 x69 x70 x71 x72 x73 x74 x75 x76 h Q):wpS SS Tryz.f121.ntmps a0 (aP [1,1,1,1] au) [x0,x1,(.pointer (some p)),x3,x4,(.bool neg),(aa n),(aa d),(.bool fnd),x9,x10,x11,x12,x13,x14,x15,x16,x17,x18,x19,x20,x21,x22,x23,x24,x25,x26,x27,x28,x29,x30,x31,x32,x33,x34,x35,x36,x37,x38,x39,x40,x41,x42,x43,x44,x45,x46,x47,x48,x49,x50,x51,x52,x53,x54,x55,x56,x57,x58,x59,x60,x61,x62,x63,x64,x65,x66,x67,x68,x69,x70,x71,x72,x73,x74,x75,x76] h (bg Q):=by
 have e: ∀ cc,q0 n d neg fnd p cc x0 x1 x3 x4 x9 x10 x11 x12 x13 x14 x15 x16 x17 x18 x19 x20 x21 x22 x23 x24 x25 x26 x27 x28 x29 x30 x31 x32 x33 x34 x35 x36 x37 x38 x39 x40 x41 x42 x43 x44 x45 x46 x47 x48 x49 x50 x51 x52 x53 x54 x55 x56 x57 x58 x59 x60 x61 x62 x63 x64 x65 x66 x67 x68 x69 x70 x71 x72 x73 x74 x75 x76 h Q=wpS SS Tryz.f121.ntmps a0 (eo [1] cc (aP [1,1,1,1] au)) [x0,x1,(.pointer (some p)),x3,x4,(.bool neg),(aa n),(aa d),(.bool fnd),x9,x10,x11,x12,x13,x14,x15,x16,x17,x18,x19,x20,x21,x22,x23,x24,x25,x26,x27,x28,x29,x30,x31,x32,x33,x34,x35,x36,x37,x38,x39,x40,x41,x42,x43,x44,x45,x46,x47,x48,x49,x50,x51,x52,x53,x54,x55,x56,x57,x58,x59,x60,x61,x62,x63,x64,x65,x66,x67,x68,x69,x70,x71,x72,x73,x74,x75,x76] h (bg Q):=fun cc=>by kernel_rfl
 have e:=e (aP [1,1,1,1,1] au)
 have ec:(aP [1,1,1,1,1] au)=aP [1] (aP [1,1,1,1] au):=by kernel_rfl
 have es:eo [1] (aP [1,1,1,1,1] au) (aP [1,1,1,1] au)=aP [1,1,1,1] au:=by rw [ec,dw]
 rw [es] at e
 exact ai hx e
abbrev qM (n d:LB)(neg fnd:Bool)(p:Addr)(cc:Code)(x0 x1 x3 x4 x9 x10 x11 x12 x13 x14 x15 x16 x17 x18 x19 x20 x21 x22 x23 x24 x25 x26 x27 x28 x29 x30 x31 x32 x33 x34 x35 x36 x37 x38 x39 x40 x41 x42 x43 x44 x45 x46 x47 x48 x49 x50 x51 x52 x53 x54 x55 x56 x57 x58 x59 x60 x61 x62 x63 x64 x65 x66 x67 x68 x69 x70 x71 x72 x73 x74 x75 x76:Value)(h:Heap)(Q:VH):Prop:=aw neg (aw ((n:LB) == [48]) (xA (bE SS.P 122 []) fun c1=>xU (al SS.P 122 (.pointer (some p)) (.agg ⟨c1⟩) h) h fun u2 g3=>ko SS [((.pointer (some p)),some 122),((.bool false),none)] g3 Q) (aw fnd (aw ((d:LB) == [48]) (xA (bE SS.P 122 []) fun c4=>xU (al SS.P 122 (.pointer (some p)) (.agg ⟨c4⟩) h) h fun u5 g6=>ko SS [((.pointer (some p)),some 122),((.bool false),none)] g6 Q) (aw ((d:LB) == [49]) (xA (bE SS.P 122 []) fun c7=>xU (al SS.P 122 (.pointer (some p)) (.agg ⟨c7⟩) h) h fun u8 g9=>ko SS [((.pointer (some p)),some 122),((.bool false),none)] g9 Q) (wpS SS Tryz.f121.ntmps a0 cc [x0,x1,(.pointer (some p)),x3,x4,(.bool neg),(aa n),(aa d),(.bool fnd),x9,x10,x11,x12,x13,x14,x15,x16,x17,x18,x19,x20,x21,x22,x23,x24,x25,x26,x27,x28,x29,x30,x31,x32,x33,x34,x35,x36,x37,x38,x39,x40,x41,x42,(.bool neg),(.bool true),(aa n),(.bool ((n:LB) == [48])),(.bool ((n:LB) == [48])),(.bool false),(.bool fnd),(.bool true),(aa d),(.bool ((d:LB) == [48])),(.bool false),(aa d),(.bool ((d:LB) == [49])),(.bool ((d:LB) == [49])),(.bool ((d:LB) == [49])),(.bool ((d:LB) == [49])),x59,x60,x61,x62,x63,x64,x65,x66,x67,x68,x69,x70,x71,x72,x73,x74,x75,x76] h (bg Q)))) (wpS SS Tryz.f121.ntmps a0 cc [x0,x1,(.pointer (some p)),x3,x4,(.bool neg),(aa n),(aa d),(.bool fnd),x9,x10,x11,x12,x13,x14,x15,x16,x17,x18,x19,x20,x21,x22,x23,x24,x25,x26,x27,x28,x29,x30,x31,x32,x33,x34,x35,x36,x37,x38,x39,x40,x41,x42,(.bool neg),(.bool true),(aa n),(.bool ((n:LB) == [48])),(.bool ((n:LB) == [48])),(.bool false),(.bool fnd),(.bool false),undef,undef,undef,undef,undef,undef,(.bool false),(.bool false),x59,x60,x61,x62,x63,x64,x65,x66,x67,x68,x69,x70,x71,x72,x73,x74,x75,x76] h (bg Q)))) (aw fnd (aw ((d:LB) == [48]) (xA (bE SS.P 122 []) fun c10=>xU (al SS.P 122 (.pointer (some p)) (.agg ⟨c10⟩) h) h fun u11 g12=>ko SS [((.pointer (some p)),some 122),((.bool false),none)] g12 Q) (aw ((d:LB) == [49]) (xA (bE SS.P 122 []) fun c13=>xU (al SS.P 122 (.pointer (some p)) (.agg ⟨c13⟩) h) h fun u14 g15=>ko SS [((.pointer (some p)),some 122),((.bool false),none)] g15 Q) (wpS SS Tryz.f121.ntmps a0 cc [x0,x1,(.pointer (some p)),x3,x4,(.bool neg),(aa n),(aa d),(.bool fnd),x9,x10,x11,x12,x13,x14,x15,x16,x17,x18,x19,x20,x21,x22,x23,x24,x25,x26,x27,x28,x29,x30,x31,x32,x33,x34,x35,x36,x37,x38,x39,x40,x41,x42,(.bool neg),(.bool false),undef,undef,(.bool false),(.bool false),(.bool fnd),(.bool true),(aa d),(.bool ((d:LB) == [48])),(.bool false),(aa d),(.bool ((d:LB) == [49])),(.bool ((d:LB) == [49])),(.bool ((d:LB) == [49])),(.bool ((d:LB) == [49])),x59,x60,x61,x62,x63,x64,x65,x66,x67,x68,x69,x70,x71,x72,x73,x74,x75,x76] h (bg Q)))) (wpS SS Tryz.f121.ntmps a0 cc [x0,x1,(.pointer (some p)),x3,x4,(.bool neg),(aa n),(aa d),(.bool fnd),x9,x10,x11,x12,x13,x14,x15,x16,x17,x18,x19,x20,x21,x22,x23,x24,x25,x26,x27,x28,x29,x30,x31,x32,x33,x34,x35,x36,x37,x38,x39,x40,x41,x42,(.bool neg),(.bool false),undef,undef,(.bool false),(.bool false),(.bool fnd),(.bool false),undef,undef,undef,undef,undef,undef,(.bool false),(.bool false),x59,x60,x61,x62,x63,x64,x65,x66,x67,x68,x69,x70,x71,x72,x73,x74,x75,x76] h (bg Q)))
theorem AC {n d:LB}{neg fnd:Bool}{p:Addr}{x0 x1 x3 x4 x9 x10 x11 x12 x13 x14 x15 x16 x17 x18 x19 x20 x21 x22 x23 x24 x25 x26 x27 x28 x29 x30 x31 x32 x33 x34 x35 x36 x37 x38 x39 x40 x41 x42 x43 x44 x45 x46 x47 x48 x49 x50 x51 x52 x53 x54 x55 x56 x57 x58 x59 x60 x61 x62 x63 x64 x65 x66 x67 x68 x69 x70 x71 x72 x73 x74 x75 x76:Value}{h:Heap}{Q:VH}(hx:qM n d neg fnd p (aP [1,1,1,1,1,1] au) x0 x1 x3 x4 x9 x10 x11 x12 x13 x14 x15 x16 x17 x18 x19 x20 x21 x22 x23 x24 x25 x26 x27 x28 x29 x30 x31 x32 x33 x34 x35 x36 x37 x38 x39 x40 x41 x42 x43 x44 x45 x46 x47 x48 x49 x50 x51 x52 x53 x54 x55 x56 x57 x58 x59 x60 x61 x62 x63 x64 x65 x66 x67 x68 x69 x70 x71 x72 x73 x74 x75 x76 h Q):wpS SS Tryz.f121.ntmps a0 (aP [1,1,1,1,1] au) [x0,x1,(.pointer (some p)),x3,x4,(.bool neg),(aa n),(aa d),(.bool fnd),x9,x10,x11,x12,x13,x14,x15,x16,x17,x18,x19,x20,x21,x22,x23,x24,x25,x26,x27,x28,x29,x30,x31,x32,x33,x34,x35,x36,x37,x38,x39,x40,x41,x42,x43,x44,x45,x46,x47,x48,x49,x50,x51,x52,x53,x54,x55,x56,x57,x58,x59,x60,x61,x62,x63,x64,x65,x66,x67,x68,x69,x70,x71,x72,x73,x74,x75,x76] h (bg Q):=by
 have e: ∀ cc,qM n d neg fnd p cc x0 x1 x3 x4 x9 x10 x11 x12 x13 x14 x15 x16 x17 x18 x19 x20 x21 x22 x23 x24 x25 x26 x27 x28 x29 x30 x31 x32 x33 x34 x35 x36 x37 x38 x39 x40 x41 x42 x43 x44 x45 x46 x47 x48 x49 x50 x51 x52 x53 x54 x55 x56 x57 x58 x59 x60 x61 x62 x63 x64 x65 x66 x67 x68 x69 x70 x71 x72 x73 x74 x75 x76 h Q=wpS SS Tryz.f121.ntmps a0 (eo [1] cc (aP [1,1,1,1,1] au)) [x0,x1,(.pointer (some p)),x3,x4,(.bool neg),(aa n),(aa d),(.bool fnd),x9,x10,x11,x12,x13,x14,x15,x16,x17,x18,x19,x20,x21,x22,x23,x24,x25,x26,x27,x28,x29,x30,x31,x32,x33,x34,x35,x36,x37,x38,x39,x40,x41,x42,x43,x44,x45,x46,x47,x48,x49,x50,x51,x52,x53,x54,x55,x56,x57,x58,x59,x60,x61,x62,x63,x64,x65,x66,x67,x68,x69,x70,x71,x72,x73,x74,x75,x76] h (bg Q):=fun cc=>by kernel_rfl
 have e:=e (aP [1,1,1,1,1,1] au)
 have ec:(aP [1,1,1,1,1,1] au)=aP [1] (aP [1,1,1,1,1] au):=by kernel_rfl
 have es:eo [1] (aP [1,1,1,1,1,1] au) (aP [1,1,1,1,1] au)=aP [1,1,1,1,1] au:=by rw [ec,dw]
 rw [es] at e
 exact ai hx e
abbrev q7 (n d:LB)(neg fnd:Bool)(p:Addr)(cc:Code)(x0 x1 x3 x4 x9 x10 x11 x12 x13 x14 x15 x16 x17 x18 x19 x20 x21 x22 x23 x24 x25 x26 x27 x28 x29 x30 x31 x32 x33 x34 x35 x36 x37 x38 x39 x40 x41 x42 x43 x44 x45 x46 x47 x48 x49 x50 x51 x52 x53 x54 x55 x56 x57 x58 x59 x60 x61 x62 x63 x64 x65 x66 x67 x68 x69 x70 x71 x72 x73 x74 x75 x76:Value)(h:Heap)(Q:VH):Prop:=FW SS 143 [(aa n),(aa d)] h fun v1 h2=> ∃ l3:LB,∃ n4:Int,v1=(.tuple ⟨[(aa l3),(.int .i64 n4)]⟩)/\aw (((n4:Int) != 0)) (xA (bE SS.P 122 []) fun c5=>xU (al SS.P 122 (.pointer (some p)) (.agg ⟨c5⟩) h2) h2 fun u6 g7=>ko SS [((.pointer (some p)),some 122),((.bool false),none)] g7 Q) (aw (!((l3:LB) == [49])) (xA (bE SS.P 122 []) fun c8=>xU (al SS.P 122 (.pointer (some p)) (.agg ⟨c8⟩) h2) h2 fun u9 g10=>ko SS [((.pointer (some p)),some 122),((.bool false),none)] g10 Q) (wpS SS Tryz.f121.ntmps a0 cc [x0,x1,(.pointer (some p)),x3,x4,(.bool neg),(aa n),(aa d),(.bool fnd),(aa l3),(.int .i64 n4),x11,x12,x13,x14,x15,x16,x17,x18,x19,x20,x21,x22,x23,x24,x25,x26,x27,x28,x29,x30,x31,x32,x33,x34,x35,x36,x37,x38,x39,x40,x41,x42,x43,x44,x45,x46,x47,x48,x49,x50,x51,x52,x53,x54,x55,x56,x57,x58,x59,(.tuple ⟨[(aa l3),(.int .i64 n4)]⟩),(aa n),(aa d),(.tuple ⟨[(aa l3),(.int .i64 n4)]⟩),(aa l3),(.int .i64 n4),(.int .i64 n4),(.bool (((n4:Int) != 0))),(.bool false),(aa l3),(.bool (!((l3:LB) == [49]))),(.bool (!((l3:LB) == [49]))),x72,x73,x74,x75,x76] h2 (bg Q)))
theorem AI {n d:LB}{neg fnd:Bool}{p:Addr}{x0 x1 x3 x4 x9 x10 x11 x12 x13 x14 x15 x16 x17 x18 x19 x20 x21 x22 x23 x24 x25 x26 x27 x28 x29 x30 x31 x32 x33 x34 x35 x36 x37 x38 x39 x40 x41 x42 x43 x44 x45 x46 x47 x48 x49 x50 x51 x52 x53 x54 x55 x56 x57 x58 x59 x60 x61 x62 x63 x64 x65 x66 x67 x68 x69 x70 x71 x72 x73 x74 x75 x76:Value}{h:Heap}{Q:VH}(hx:q7 n d neg fnd p (aP [1,1,1,1,1,1,1] au) x0 x1 x3 x4 x9 x10 x11 x12 x13 x14 x15 x16 x17 x18 x19 x20 x21 x22 x23 x24 x25 x26 x27 x28 x29 x30 x31 x32 x33 x34 x35 x36 x37 x38 x39 x40 x41 x42 x43 x44 x45 x46 x47 x48 x49 x50 x51 x52 x53 x54 x55 x56 x57 x58 x59 x60 x61 x62 x63 x64 x65 x66 x67 x68 x69 x70 x71 x72 x73 x74 x75 x76 h Q):wpS SS Tryz.f121.ntmps a0 (aP [1,1,1,1,1,1] au) [x0,x1,(.pointer (some p)),x3,x4,(.bool neg),(aa n),(aa d),(.bool fnd),x9,x10,x11,x12,x13,x14,x15,x16,x17,x18,x19,x20,x21,x22,x23,x24,x25,x26,x27,x28,x29,x30,x31,x32,x33,x34,x35,x36,x37,x38,x39,x40,x41,x42,x43,x44,x45,x46,x47,x48,x49,x50,x51,x52,x53,x54,x55,x56,x57,x58,x59,x60,x61,x62,x63,x64,x65,x66,x67,x68,x69,x70,x71,x72,x73,x74,x75,x76] h (bg Q):=by
 have e: ∀ cc,q7 n d neg fnd p cc x0 x1 x3 x4 x9 x10 x11 x12 x13 x14 x15 x16 x17 x18 x19 x20 x21 x22 x23 x24 x25 x26 x27 x28 x29 x30 x31 x32 x33 x34 x35 x36 x37 x38 x39 x40 x41 x42 x43 x44 x45 x46 x47 x48 x49 x50 x51 x52 x53 x54 x55 x56 x57 x58 x59 x60 x61 x62 x63 x64 x65 x66 x67 x68 x69 x70 x71 x72 x73 x74 x75 x76 h Q=wpS SS Tryz.f121.ntmps a0 (eo [1] cc (aP [1,1,1,1,1,1] au)) [x0,x1,(.pointer (some p)),x3,x4,(.bool neg),(aa n),(aa d),(.bool fnd),x9,x10,x11,x12,x13,x14,x15,x16,x17,x18,x19,x20,x21,x22,x23,x24,x25,x26,x27,x28,x29,x30,x31,x32,x33,x34,x35,x36,x37,x38,x39,x40,x41,x42,x43,x44,x45,x46,x47,x48,x49,x50,x51,x52,x53,x54,x55,x56,x57,x58,x59,x60,x61,x62,x63,x64,x65,x66,x67,x68,x69,x70,x71,x72,x73,x74,x75,x76] h (bg Q):=fun cc=>by kernel_rfl
 have e:=e (aP [1,1,1,1,1,1,1] au)
 have ec:(aP [1,1,1,1,1,1,1] au)=aP [1] (aP [1,1,1,1,1,1] au):=by kernel_rfl
 have es:eo [1] (aP [1,1,1,1,1,1,1] au) (aP [1,1,1,1,1,1] au)=aP [1,1,1,1,1,1] au:=by rw [ec,dw]
 rw [es] at e
 exact ai hx e
abbrev Cq (n d:LB)(neg fnd:Bool)(p:Addr)(x0 x1 x3 x4 x9 x10 x11 x12 x13 x14 x15 x16 x17 x18 x19 x20 x21 x22 x23 x24 x25 x26 x27 x28 x29 x30 x31 x32 x33 x34 x35 x36 x37 x38 x39 x40 x41 x42 x43 x44 x45 x46 x47 x48 x49 x50 x51 x52 x53 x54 x55 x56 x57 x58 x59 x60 x61 x62 x63 x64 x65 x66 x67 x68 x69 x70 x71 x72 x73 x74 x75 x76:Value)(h:Heap)(Q:VH):Prop:=xA (bE SS.P 122 [(0,(.bool neg)),(1,(aa n)),(2,(aa d))]) fun c1=>xU (al SS.P 122 (.pointer (some p)) (.agg ⟨c1⟩) h) h fun u2 g3=>ko SS [((.pointer (some p)),some 122),((.bool true),none)] g3 Q
theorem zC {n d:LB}{neg fnd:Bool}{p:Addr}{x0 x1 x3 x4 x9 x10 x11 x12 x13 x14 x15 x16 x17 x18 x19 x20 x21 x22 x23 x24 x25 x26 x27 x28 x29 x30 x31 x32 x33 x34 x35 x36 x37 x38 x39 x40 x41 x42 x43 x44 x45 x46 x47 x48 x49 x50 x51 x52 x53 x54 x55 x56 x57 x58 x59 x60 x61 x62 x63 x64 x65 x66 x67 x68 x69 x70 x71 x72 x73 x74 x75 x76:Value}{h:Heap}{Q:VH}(hx:Cq n d neg fnd p x0 x1 x3 x4 x9 x10 x11 x12 x13 x14 x15 x16 x17 x18 x19 x20 x21 x22 x23 x24 x25 x26 x27 x28 x29 x30 x31 x32 x33 x34 x35 x36 x37 x38 x39 x40 x41 x42 x43 x44 x45 x46 x47 x48 x49 x50 x51 x52 x53 x54 x55 x56 x57 x58 x59 x60 x61 x62 x63 x64 x65 x66 x67 x68 x69 x70 x71 x72 x73 x74 x75 x76 h Q):wpS SS Tryz.f121.ntmps a0 (aP [1,1,1,1,1,1,1] au) [x0,x1,(.pointer (some p)),x3,x4,(.bool neg),(aa n),(aa d),(.bool fnd),x9,x10,x11,x12,x13,x14,x15,x16,x17,x18,x19,x20,x21,x22,x23,x24,x25,x26,x27,x28,x29,x30,x31,x32,x33,x34,x35,x36,x37,x38,x39,x40,x41,x42,x43,x44,x45,x46,x47,x48,x49,x50,x51,x52,x53,x54,x55,x56,x57,x58,x59,x60,x61,x62,x63,x64,x65,x66,x67,x68,x69,x70,x71,x72,x73,x74,x75,x76] h (bg Q):=ai hx (by kernel_rfl)
noncomputable def qH:Code:=(Tryz.f97.body).getD .skip
def JQ:List Nat:=[]
abbrev JL (l:LB)(h:Heap)(Q:VH):Prop:=FW SS 121 [(aa l)] h fun v1 h2=> ∃ cs3:LV,∃ b4:Bool,v1=(.tuple ⟨[(.agg ⟨cs3⟩),(.bool b4)]⟩)/\Q (.bool b4) h2
theorem H1 (l:LB)(h:Heap)(Q:VH)(hx:JL l h Q):FW SS 97 [(aa l)] h Q:=ax (M:=JQ) (c:=qH) Tryz.func97 (show Tryz.f97.body=some qH by kernel_rfl) (by kernel_rfl) (ai hx (by kernel_rfl))
noncomputable def uR:Code:=(Tryz.f117.body).getD .skip
def LG:List Nat:=[]
abbrev Ls (p:Bool)(l:LB)(q:Bool)(m:LB)(h:Heap)(Q:VH):Prop:=aw (p == q) (FW SS 136 [(aa l),(aa m)] h fun v1 h2=> ∃ l3:LB,∃ n4:Int,v1=(.tuple ⟨[(aa l3),(.int .i64 n4)]⟩)/\FW SS 118 [(aa l3),(.int .i64 n4)] h2 fun v5 h6=>yS v5 fun l7=>Q (.tuple ⟨[(.bool p),(aa l7)]⟩) h6) (FW SS 137 [(aa l),(aa m)] h fun v8 h9=>yI .i64 v8 fun n10=>aw (decide ((n10:Int) < 0)) (FW SS 138 [(aa m),(aa l)] h9 fun v11 h12=> ∃ l13:LB,∃ n14:Int,v11=(.tuple ⟨[(aa l13),(.int .i64 n14)]⟩)/\FW SS 118 [(aa l13),(.int .i64 n14)] h12 fun v15 h16=>yS v15 fun l17=>Q (.tuple ⟨[(.bool q),(aa l17)]⟩) h16) (FW SS 138 [(aa l),(aa m)] h9 fun v18 h19=> ∃ l20:LB,∃ n21:Int,v18=(.tuple ⟨[(aa l20),(.int .i64 n21)]⟩)/\FW SS 118 [(aa l20),(.int .i64 n21)] h19 fun v22 h23=>yS v22 fun l24=>Q (.tuple ⟨[(.bool p),(aa l24)]⟩) h23))
theorem Jo (p:Bool)(l:LB)(q:Bool)(m:LB)(h:Heap)(Q:VH)(hx:Ls p l q m h Q):FW SS 117 [(.bool p),(aa l),(.bool q),(aa m)] h Q:=ax (M:=LG) (c:=uR) Tryz.func117 (show Tryz.f117.body=some uR by kernel_rfl) (by kernel_rfl) (ai hx (by kernel_rfl))
noncomputable def xc:Code:=(Tryz.f125.body).getD .skip
def N8:List Nat:=[]
abbrev P2 (l m:LB)(h:Heap)(Q:VH):Prop:=FW SS 121 [(aa l)] h fun v1 h2=> ∃ cs3:LV,∃ b4:Bool,v1=(.tuple ⟨[(.agg ⟨cs3⟩),(.bool b4)]⟩)/\xN (bi SS.P 122) h2 fun B5 g6=>xU (al SS.P 122 (pA (h2.next)) (.agg ⟨cs3⟩) g6) g6 fun u7 g8=>FW SS 121 [(aa m)] g8 fun v9 h10=> ∃ cs11:LV,∃ b12:Bool,v9=(.tuple ⟨[(.agg ⟨cs11⟩),(.bool b12)]⟩)/\xN (bi SS.P 122) h10 fun B13 g14=>xU (al SS.P 122 (pA (h10.next)) (.agg ⟨cs11⟩) g14) g14 fun u15 g16=>aw (!b4) (Q (.int .i64 0) g16) (aw (!b12) (Q (.int .i64 0) g16) (xP (ag SS.P 122 (pA (h2.next)) 0) fun p17=>xB (ah SS.P 4 (room g16 27) (.pointer (some p17))) fun b18=>xP (ag SS.P 122 (pA (h2.next)) 1) fun p19=>xS (ah SS.P 9 (room g16 27) (.pointer (some p19))) fun l20=>xP (ag SS.P 122 (pA (h10.next)) 2) fun p21=>xS (ah SS.P 9 (room g16 27) (.pointer (some p21))) fun l22=>FW SS 119 [(aa l20),(aa l22)] (room g16 27) fun v23 h24=> ∃ l25:LB,∃ n26:Int,v23=(.tuple ⟨[(aa l25),(.int .i64 n26)]⟩)/\FW SS 118 [(aa l25),(.int .i64 n26)] h24 fun v27 h28=>yS v27 fun l29=>xP (ag SS.P 122 (pA (h10.next)) 0) fun p30=>xB (ah SS.P 4 h28 (.pointer (some p30))) fun b31=>xP (ag SS.P 122 (pA (h10.next)) 1) fun p32=>xS (ah SS.P 9 h28 (.pointer (some p32))) fun l33=>xP (ag SS.P 122 (pA (h2.next)) 2) fun p34=>xS (ah SS.P 9 h28 (.pointer (some p34))) fun l35=>FW SS 119 [(aa l33),(aa l35)] h28 fun v36 h37=> ∃ l38:LB,∃ n39:Int,v36=(.tuple ⟨[(aa l38),(.int .i64 n39)]⟩)/\FW SS 118 [(aa l38),(.int .i64 n39)] h37 fun v40 h41=>yS v40 fun l42=>FW SS 117 [(.bool b18),(aa l29),(.bool (!b31)),(aa l42)] h41 fun v43 h44=> ∃ b45:Bool,∃ l46:LB,v43=(.tuple ⟨[(.bool b45),(aa l46)]⟩)/\(ah SS.P 4 h24 (.pointer (some p17))=some (.bool b18)/\cM 4 (.bool b18) (.bool b18)=true)/\(ah SS.P 4 h28 (.pointer (some p17))=some (.bool b18)/\cM 4 (.bool b18) (.bool b18)=true)/\(ah SS.P 4 h37 (.pointer (some p17))=some (.bool b18)/\cM 4 (.bool b18) (.bool b18)=true)/\(ah SS.P 4 h41 (.pointer (some p17))=some (.bool b18)/\cM 4 (.bool b18) (.bool b18)=true)/\(ah SS.P 4 (room g16 27) (.pointer (some p30))=some (.bool b31)/\cM 4 (.bool b31) (.bool b31)=true)/\(ah SS.P 4 h24 (.pointer (some p30))=some (.bool b31)/\cM 4 (.bool b31) (.bool b31)=true)/\(ah SS.P 4 h37 (.pointer (some p30))=some (.bool b31)/\cM 4 (.bool b31) (.bool b31)=true)/\(ah SS.P 4 h41 (.pointer (some p30))=some (.bool b31)/\cM 4 (.bool b31) (.bool b31)=true)/\(ah SS.P 9 (room g16 27) (.pointer (some p32))=some (aa l33)/\cM 4 (aa l33) (aa l33)=true)/\(ah SS.P 9 h24 (.pointer (some p32))=some (aa l33)/\cM 4 (aa l33) (aa l33)=true)/\(ah SS.P 9 (room g16 27) (.pointer (some p34))=some (aa l35)/\cM 4 (aa l35) (aa l35)=true)/\(ah SS.P 9 h24 (.pointer (some p34))=some (aa l35)/\cM 4 (aa l35) (aa l35)=true)/\aw ((l46:LB) == [48]) (Q (.int .i64 0) h44) (aw b45 (Q (.int .i64 (-1)) h44) (Q (.int .i64 1) h44))))
theorem Mz (l m:LB)(h:Heap)(Q:VH)(hx:P2 l m h Q):FW SS 125 [(aa l),(aa m)] h Q:=ax (M:=N8) (c:=xc) Tryz.func125 (show Tryz.f125.body=some xc by kernel_rfl) (by kernel_rfl) (ai hx (by kernel_rfl))
noncomputable def xg:Code:=(Tryz.f177.body).getD .skip
def Ru:List Nat:=[]
abbrev N4 (l m:LB)(h:Heap)(Q:VH):Prop:=aw (decide ((((l:LB).length:Int):Int)>=((m:LB).length:Int))) (xS (aL SS.P 9 (aa l) none (some (.int .i64 ((m:LB).length:Int))) none h) fun l1=>Q (.bool ((l1:LB) == m)) h) (Q (.bool false) h)
theorem LM (l m:LB)(h:Heap)(Q:VH)(hx:N4 l m h Q):FW SS 177 [(aa l),(aa m)] h Q:=ax (M:=Ru) (c:=xg) Tryz.func177 (show Tryz.f177.body=some xg by kernel_rfl) (by kernel_rfl) (ai hx (by kernel_rfl))
noncomputable def ez:Code:=(Tryz.f139.body).getD .skip
noncomputable def rB (Q:VH):aj:=cE SS Tryz.f139.results.toList Q
def sf:List Nat:=[0,22,23]
noncomputable def rm (p:List Nat)(w:LV)(h:Heap)(Q:aj):Prop:=bp SS Tryz.f139.ntmps sf (aP p ez) w h Q
noncomputable def rM (p b:List Nat)(K:aj):aj:=ky SS Tryz.f139.ntmps sf p (aP b ez) K
abbrev Jb (l:LB)(h:Heap)(Q:VH):Prop:=aw ((l:LB) == []) (Q (.bool false) h) (aw (decide ((((l:LB).length:Int):Int) > 1000)) (Q (.bool false) h) (aw (decide ((((l:LB).length:Int):Int) > 1)) (xI .u8 (aQ SS.P 9 (aa l) (.int .i64 0)) fun n1=>aw (((n1:Int) == 48)) (Q (.bool false) h) (rm [1,1,0,1,0,0] [(aa l),(.int .i64 ((l:LB).length:Int)),(.int .i64 0)] h (rM [1,1,0,1,0] [] (rB Q)))) (rm [1,1,0,1,0,0] [(aa l),(.int .i64 ((l:LB).length:Int)),(.int .i64 0)] h (rM [1,1,0,1,0] [] (rB Q)))))
theorem wH (l:LB)(h:Heap)(Q:VH)(hx:Jb l h Q):FW SS 139 [(aa l)] h Q:=ax (M:=sf) (c:=ez) Tryz.func139 (show Tryz.f139.body=some ez by kernel_rfl) (by kernel_rfl) (ai hx (by kernel_rfl))
abbrev gH (l:LB)  (i:Int)  : LV:=[(aa l),(.int .i64 (l.length:Int)),(.int .i64 i)]
def gN (l:LB)  (Inv:Nat->Int->Heap->Prop) (mz:Nat) (w:LV) (h:Heap):Prop:= ∃ (i:Int) ,w=(gH l i )/\Inv mz i h
abbrev vn (l:LB)  (Inv:Nat->Int->Heap->Prop) (Q:VH) (mz:Nat) (i:Int)  (zz:Nat->Value) (h:Heap):Prop:=aw (decide ((i:Int) < (l.length:Int))) (xI .u8 (aQ SS.P 9 (aa l) (.int .i64 i)) fun n2=>aw (decide ((n2:Int) < 48)) (Q (.bool false) h) (xI .u8 (aQ SS.P 9 (aa l) (.int .i64 i)) fun n3=>aw (decide ((n3:Int) > 57)) (Q (.bool false) h) (ak (gN l Inv) mz [(aa l),(.int .i64 (l.length:Int)),(.int .i64 (IntKind.wrap .i64 (i+1)))] h))) (Q (.bool true) h)
theorem qE {l:LB}  {Inv:Nat->Int->Heap->Prop} {mz:Nat} (mq:Nat) {i:Int}  {h:Heap} (hm:mq < mz) (hi:Inv mq i h):ak (gN l Inv) mz (gH l i ) h:=⟨mq,hm,i,rfl,hi⟩
theorem qw (l:LB)  (Inv:Nat->Int->Heap->Prop) (Q:VH) (step: ∀ (mz:Nat)(i:Int)  (zz:Nat->Value) (h:Heap),Inv mz i h->vn l Inv Q mz i  zz h) (mz:Nat) {i:Int}  {h:Heap} (hi:Inv mz i h):rm [1,1,0,1,0,0] (gH l i ) h (rM [1,1,0,1,0] [] (rB Q)):=
 an (A:=(gN l Inv)) (show aF Tryz.f139.ntmps (aP [1,1,0,1,0,0] ez)=true by kernel_rfl) (fun mz w zz h ⟨i,hw,hi⟩=>by subst hw; exact ai (step mz i  zz h hi) (by kernel_rfl)) mz _ h ⟨i,rfl,hi⟩ (fun zz=>by kernel_rfl) (by kernel_rfl)
noncomputable def eB:Code:=(Tryz.f149.body).getD .skip
noncomputable def rJ (Q:VH):aj:=cE SS Tryz.f149.results.toList Q
def rz:List Nat:=[0,3]
noncomputable def rU (p:List Nat)(w:LV)(h:Heap)(Q:aj):Prop:=bp SS Tryz.f149.ntmps rz (aP p eB) w h Q
noncomputable def sc (p b:List Nat)(K:aj):aj:=ky SS Tryz.f149.ntmps rz p (aP b eB) K
abbrev JJ (l:LB)(h:Heap)(Q:VH):Prop:=aw (decide ((((l:LB).length:Int):Int) < 1)) (Q (.bool false) h) (aw (decide ((((l:LB).length:Int):Int) > 1000)) (Q (.bool false) h) (xI .u8 (aQ SS.P 9 (aa l) (.int .i64 0)) fun n1=>aw (((n1:Int) == 48)) (aw (decide ((((l:LB).length:Int):Int) > 1)) (Q (.bool false) h) (rU [1,1,0,1,0,0] [(aa l),(.int .i64 0)] h (sc [1,1,0,1,0] [] (rJ Q)))) (rU [1,1,0,1,0,0] [(aa l),(.int .i64 0)] h (sc [1,1,0,1,0] [] (rJ Q)))))
theorem xm (l:LB)(h:Heap)(Q:VH)(hx:JJ l h Q):FW SS 149 [(aa l)] h Q:=ax (M:=rz) (c:=eB) Tryz.func149 (show Tryz.f149.body=some eB by kernel_rfl) (by kernel_rfl) (ai hx (by kernel_rfl))
abbrev gK (l:LB)  (i:Int)  : LV:=[(aa l),(.int .i64 i)]
def gB (l:LB)  (Inv:Nat->Int->Heap->Prop) (mz:Nat) (w:LV) (h:Heap):Prop:= ∃ (i:Int) ,w=(gK l i )/\Inv mz i h
abbrev vz (l:LB)  (Inv:Nat->Int->Heap->Prop) (Q:VH) (mz:Nat) (i:Int)  (zz:Nat->Value) (h:Heap):Prop:=aw (decide ((i:Int) < ((l:LB).length:Int))) (xI .u8 (aQ SS.P 9 (aa l) (.int .i64 i)) fun n2=>aw (decide ((n2:Int) < 48)) (Q (.bool false) h) (xI .u8 (aQ SS.P 9 (aa l) (.int .i64 i)) fun n3=>aw (decide ((n3:Int) > 57)) (Q (.bool false) h) (ak (gB l Inv) mz [(aa l),(.int .i64 (IntKind.wrap .i64 (i+1)))] h))) (Q (.bool true) h)
theorem qA {l:LB}  {Inv:Nat->Int->Heap->Prop} {mz:Nat} (mq:Nat) {i:Int}  {h:Heap} (hm:mq < mz) (hi:Inv mq i h):ak (gB l Inv) mz (gK l i ) h:=⟨mq,hm,i,rfl,hi⟩
theorem qB (l:LB)  (Inv:Nat->Int->Heap->Prop) (Q:VH) (step: ∀ (mz:Nat)(i:Int)  (zz:Nat->Value) (h:Heap),Inv mz i h->vz l Inv Q mz i  zz h) (mz:Nat) {i:Int}  {h:Heap} (hi:Inv mz i h):rU [1,1,0,1,0,0] (gK l i ) h (sc [1,1,0,1,0] [] (rJ Q)):=
 an (A:=(gB l Inv)) (show aF Tryz.f149.ntmps (aP [1,1,0,1,0,0] eB)=true by kernel_rfl) (fun mz w zz h ⟨i,hw,hi⟩=>by subst hw; exact ai (step mz i  zz h hi) (by kernel_rfl)) mz _ h ⟨i,rfl,hi⟩ (fun zz=>by kernel_rfl) (by kernel_rfl)
noncomputable def du:Code:=(Tryz.f155.body).getD .skip
noncomputable def sr (Q:VH):aj:=cE SS Tryz.f155.results.toList Q
def m3:List Nat:=[0,1,5]
noncomputable def uh (p:List Nat)(w:LV)(h:Heap)(Q:aj):Prop:=bp SS Tryz.f155.ntmps m3 (aP p du) w h Q
noncomputable def uz (p b:List Nat)(K:aj):aj:=ky SS Tryz.f155.ntmps m3 p (aP b du) K
abbrev Ee (a b:LB)(h:Heap)(Q:VH):Prop:=aw (((((a:LB).length:Int):Int) != ((b:LB).length:Int))) (aw (decide ((((a:LB).length:Int):Int) < ((b:LB).length:Int))) (Q (.int .i64 (-1)) h) (Q (.int .i64 1) h)) (uh [1,1,0,1,0,0] [(aa a),(aa b),(.int .i64 0)] h (uz [1,1,0,1,0] [] (sr Q)))
theorem Ca (a b:LB)(h:Heap)(Q:VH)(hx:Ee a b h Q):FW SS 155 [(aa a),(aa b)] h Q:=ax (M:=m3) (c:=du) Tryz.func155 (show Tryz.f155.body=some du by kernel_rfl) (by kernel_rfl) (ai hx (by kernel_rfl))
abbrev eQ (a b:LB)  (i:Int)  : LV:=[(aa a),(aa b),(.int .i64 i)]
def eW (a b:LB)  (Inv:Nat->Int->Heap->Prop) (mz:Nat) (w:LV) (h:Heap):Prop:= ∃ (i:Int) ,w=(eQ a b i )/\Inv mz i h
abbrev rD (a b:LB)  (Inv:Nat->Int->Heap->Prop) (Q:VH) (mz:Nat) (i:Int)  (zz:Nat->Value) (h:Heap):Prop:=aw (decide ((i:Int) < ((a:LB).length:Int))) (xI .u8 (aQ SS.P 9 (aa a) (.int .i64 i)) fun n1=>xI .u8 (aQ SS.P 9 (aa b) (.int .i64 i)) fun n2=>aw (((n1:Int) != n2)) (xI .u8 (aQ SS.P 9 (aa a) (.int .i64 i)) fun n3=>xI .u8 (aQ SS.P 9 (aa b) (.int .i64 i)) fun n4=>aw (decide ((n3:Int) < n4)) (Q (.int .i64 (-1)) (room (room h 7) 7)) (Q (.int .i64 1) (room (room h 7) 7))) (ak (eW a b Inv) mz [(aa a),(aa b),(.int .i64 (IntKind.wrap .i64 (i+1)))] (room h 7))) (Q (.int .i64 0) h)
theorem nT {a b:LB}  {Inv:Nat->Int->Heap->Prop} {mz:Nat} (mq:Nat) {i:Int}  {h:Heap} (hm:mq < mz) (hi:Inv mq i h):ak (eW a b Inv) mz (eQ a b i ) h:=⟨mq,hm,i,rfl,hi⟩
theorem nQ (a b:LB)  (Inv:Nat->Int->Heap->Prop) (Q:VH) (step: ∀ (mz:Nat)(i:Int)  (zz:Nat->Value) (h:Heap),Inv mz i h->rD a b Inv Q mz i  zz h) (mz:Nat) {i:Int}  {h:Heap} (hi:Inv mz i h):uh [1,1,0,1,0,0] (eQ a b i ) h (uz [1,1,0,1,0] [] (sr Q)):=
 an (A:=(eW a b Inv)) (show aF Tryz.f155.ntmps (aP [1,1,0,1,0,0] du)=true by kernel_rfl) (fun mz w zz h ⟨i,hw,hi⟩=>by subst hw; exact ai (step mz i  zz h hi) (by kernel_rfl)) mz _ h ⟨i,rfl,hi⟩ (fun zz=>by kernel_rfl) (by kernel_rfl)
noncomputable def Bb:Code:=(Tryz.f152.body).getD .skip
def SA:List Nat:=[]
abbrev Tk (a:OA)(n c:Nat)(i:Int)(h:Heap)(Q:VH):Prop:=aw (decide ((i:Int) < (n:Int))) (xP (af SS.P 48 (.slice a n c) (.int .i64 i)) fun p1=>xI .i64 (ah SS.P 3 h (.pointer (some p1))) fun n2=>Q (.int .i64 n2) h) (Q (.int .i64 0) h)
theorem Pi (a:OA)(n c:Nat)(i:Int)(h:Heap)(Q:VH)(hx:Tk a n c i h Q):FW SS 152 [(.slice a n c),(.int .i64 i)] h Q:=ax (M:=SA) (c:=Bb) Tryz.func152 (show Tryz.f152.body=some Bb by kernel_rfl) (by kernel_rfl) (ai hx (by kernel_rfl))
noncomputable def dH:Code:=(Tryz.f151.body).getD .skip
noncomputable def wG (Q:VH):aj:=cE SS Tryz.f151.results.toList Q
def ot:List Nat:=[0,3,4]
noncomputable def xu (p:List Nat)(w:LV)(h:Heap)(Q:aj):Prop:=bp SS Tryz.f151.ntmps ot (aP p dH) w h Q
noncomputable def xa (p b:List Nat)(K:aj):aj:=ky SS Tryz.f151.ntmps ot p (aP b dH) K
abbrev Gv (l:LB)(h:Heap)(Q:VH):Prop:=xu [1,1,0,1,0,0] [(aa l),nA,(.int .i64 (IntKind.wrap .i64 (((l:LB).length:Int) - 1)))] h (xa [1,1,0,1,0] [] (wG Q))
theorem EN (l:LB)(h:Heap)(Q:VH)(hx:Gv l h Q):FW SS 151 [(aa l)] h Q:=ax (M:=ot) (c:=dH) Tryz.func151 (show Tryz.f151.body=some dH by kernel_rfl) (by kernel_rfl) (ai hx (by kernel_rfl))
abbrev fG (l:LB)  (i:Int) (a:OA) (n:Nat) (c:Nat)  : LV:=[(aa l),(.slice a n c),(.int .i64 i)]
def fP (l:LB)  (Inv:Nat->Int->OA->Nat->Nat->Heap->Prop) (mz:Nat) (w:LV) (h:Heap):Prop:= ∃ (i:Int)(a:OA)(n:Nat)(c:Nat) ,w=(fG l i a n c )/\Inv mz i a n c h
abbrev tU (l:LB)  (Inv:Nat->Int->OA->Nat->Nat->Heap->Prop) (Q:VH) (mz:Nat) (i:Int) (a:OA) (n:Nat) (c:Nat)  (zz:Nat->Value) (h:Heap):Prop:=aw (decide ((i:Int)>=0)) (xI .u8 (aQ SS.P 9 (aa l) (.int .i64 i)) fun n1=>xR (ay SS.P 48 1 [(0,(.int .i64 (IntKind.wrap .i64 (IntKind.wrap .u8 (n1 - 48)))))]) h fun B2 n3 c4 g5=>xE (aB SS.P 48 48 (.slice a n c) (sA (h.next) n3 c4) g5) g5 fun a6 n7 c8 u9 g10=>ak (fP l Inv) mz [(aa l),(.slice a6 n7 c8),(.int .i64 (IntKind.wrap .i64 (i - 1)))] g10) (Q (.slice a n c) h)
theorem pJ {l:LB}  {Inv:Nat->Int->OA->Nat->Nat->Heap->Prop} {mz:Nat} (mq:Nat) {i:Int} {a:OA} {n:Nat} {c:Nat}  {h:Heap} (hm:mq < mz) (hi:Inv mq i a n c h):ak (fP l Inv) mz (fG l i a n c ) h:=⟨mq,hm,i,a,n,c,rfl,hi⟩
theorem pH (l:LB)  (Inv:Nat->Int->OA->Nat->Nat->Heap->Prop) (Q:VH) (step: ∀ (mz:Nat)(i:Int)(a:OA)(n:Nat)(c:Nat)  (zz:Nat->Value) (h:Heap),Inv mz i a n c h->tU l Inv Q mz i a n c  zz h) (mz:Nat) {i:Int} {a:OA} {n:Nat} {c:Nat}  {h:Heap} (hi:Inv mz i a n c h):xu [1,1,0,1,0,0] (fG l i a n c ) h (xa [1,1,0,1,0] [] (wG Q)):=
 an (A:=(fP l Inv)) (show aF Tryz.f151.ntmps (aP [1,1,0,1,0,0] dH)=true by kernel_rfl) (fun mz w zz h ⟨i,a,n,c,hw,hi⟩=>by subst hw; exact ai (step mz i a n c  zz h hi) (by kernel_rfl)) mz _ h ⟨i,a,n,c,rfl,hi⟩ (fun zz=>by kernel_rfl) (by kernel_rfl)
end Go.Proofs.YtoabjjimjldcfaaGreatDoor
end
section
namespace Go.Num
def isDig (c:UInt8):Bool:=decide (48<=c.toNat) && decide (c.toNat<=57)
def dv (c:UInt8):Nat:=c.toNat - 48
def val (l:List UInt8):Nat:=l.foldl (fun n c=>10*n+dv c) 0
def dig (n:Nat):UInt8:=UInt8.ofNat (48+n)
theorem val_nil:val []=0:=rfl
theorem val_snoc (l:List UInt8)(c:UInt8):val (l++[c])=10*val l+dv c:=by simp [val,List.foldl_append]
theorem toNat_dig {n:Nat}(h:n < 10):(dig n).toNat=48+n:=by
 unfold dig; rw [UInt8.toNat_ofNat']; omega
theorem dv_dig {n:Nat}(h:n < 10):dv (dig n)=n:=by
 unfold dv; rw [toNat_dig h]; omega
theorem isDig_dig {n:Nat}(h:n < 10):isDig (dig n)=true:=by
 unfold isDig; rw [toNat_dig h]; simp; omega
theorem isDig_iff {c:UInt8}:isDig c=true↔48<=c.toNat/\c.toNat<=57:=by simp [isDig]
theorem dv_lt {c:UInt8}(h:isDig c=true):dv c < 10:=by
 rw [isDig_iff] at h; unfold dv; omega
theorem Fl {c:UInt8}(h:isDig c=true):dig (dv c)=c:=by
 have h1:=dv_lt h
 rw [isDig_iff] at h
 apply UInt8.toNat_inj.1
 rw [toNat_dig h1]; unfold dv; omega
theorem kN {α:Type}{P:List α->Prop}(h0:P [])(h1: ∀ l a,P l->P (l++[a]))(l:List α):P l:=by
 have: ∀ n (l:List α),l.length=n->P l:=by
  intro n
  induction n with
  | zero=>intro l hl; rw [List.eq_nil_of_length_eq_zero hl]; exact h0
  | succ n ih=>
   intro l hl
   have hne:l≠[]:=by intro e; subst e; simp at hl
   rw [<-List.dropLast_concat_getLast hne]
   exact h1 _ _ (ih _ (by simp [hl]))
 exact this _ l rfl
theorem val_append (a b:List UInt8):val (a++b)=val a*10 ^ b.length+val b:=by
 induction b using kN with
 | h0=>simp [val_nil]
 | h1 b c ih=>
  rw [<-List.append_assoc,val_snoc,val_snoc,ih,List.length_append,List.length_singleton,Nat.pow_succ]
  have:10*(val a*10 ^ b.length+val b)=val a*(10 ^ b.length*10)+10*val b:=by
   rw [Nat.mul_add,<-Nat.mul_assoc 10,Nat.mul_comm 10 (val a),Nat.mul_assoc,Nat.mul_comm 10]
  omega
theorem val_lt {l:List UInt8}(h:l.all isDig=true):val l < 10 ^ l.length:=by
 induction l using kN with
 | h0=>simp [val_nil]
 | h1 l c ih=>
  simp only [List.all_append,List.all_cons,List.all_nil,Bool.and_true,Bool.and_eq_true] at h
  have h1:=ih h.1
  have h2:=dv_lt h.2
  rw [val_snoc,List.length_append,List.length_singleton,Nat.pow_succ]
  omega
def toDec (n:Nat):List UInt8:=if n < 10 then [dig n] else toDec (n / 10)++[dig (n % 10)]
termination_by n
decreasing_by omega
theorem toDec_lt {n:Nat}(h:n < 10):toDec n=[dig n]:=by rw [toDec,if_pos h]
theorem toDec_ge {n:Nat}(h:10<=n):toDec n=toDec (n / 10)++[dig (n % 10)]:=by rw [toDec,if_neg (by omega)]
theorem r8 {n d:Nat}(hn:0 < n)(hd:d < 10):toDec (10*n+d)=toDec n++[dig d]:=by
 rw [toDec_ge (by omega),show (10*n+d) / 10=n by omega,show (10*n+d) % 10=d by omega]
theorem val_toDec (n:Nat):val (toDec n)=n:=by
 induction n using Nat.strongRecOn with
 | ind n ih=>
  by_cases h:n < 10
  ·rw [toDec_lt h,show [dig n]=[]++[dig n] from rfl,val_snoc,dv_dig h,val_nil]; omega
  ·rw [toDec_ge (by omega),val_snoc,ih (n / 10) (by omega),dv_dig (by omega)]; omega
theorem toDec_inj {m n:Nat}(h:toDec m=toDec n):m=n:=by rw [<-val_toDec m,h,val_toDec]
theorem toDec_ne (n:Nat):toDec n≠[]:=by
 by_cases h:n < 10
 ·rw [toDec_lt h]; simp
 ·rw [toDec_ge (by omega)]; simp
theorem toDec_len_pos (n:Nat):0 < (toDec n).length:=List.length_pos_iff.2 (toDec_ne n)
theorem toDec_all (n:Nat):(toDec n).all isDig=true:=by
 induction n using Nat.strongRecOn with
 | ind n ih=>
  by_cases h:n < 10
  ·rw [toDec_lt h]; simp [isDig_dig h]
  ·rw [toDec_ge (by omega)]; simp [ih (n / 10) (by omega),isDig_dig (show n % 10 < 10 by omega)]
theorem toDec_lt_pow (n:Nat):n < 10 ^ (toDec n).length:=by
 have:=val_lt (toDec_all n)
 rwa [val_toDec] at this
theorem Fo {n:Nat}(h:10<=n):10 ^ ((toDec n).length - 1)<=n:=by
 induction n using Nat.strongRecOn with
 | ind n ih=>
  rw [toDec_ge h,List.length_append,List.length_singleton]
  by_cases h1:n / 10 < 10
  ·rw [toDec_lt h1]; simp; exact h
  ·have h2:=ih (n / 10) (by omega) (by omega)
   have h3:=toDec_len_pos (n / 10)
   obtain ⟨k,hk⟩: ∃ k,(toDec (n / 10)).length=k+1:=⟨(toDec (n / 10)).length - 1,by omega⟩
   rw [hk] at h2 ⊢
   simp only [Nat.add_sub_cancel] at h2 ⊢
   rw [Nat.pow_succ]
   omega
theorem toDec_len_le {n k:Nat}(hk:0 < k):(toDec n).length<=k↔n < 10 ^ k:=by
 constructor
 ·intro h
  exact Nat.lt_of_lt_of_le (toDec_lt_pow n) (Nat.pow_le_pow_right (by omega) h)
 ·intro h
  by_cases hn:n < 10
  ·rw [toDec_lt hn]; simp; omega
  ·have h1:=Fo (n:=n) (by omega)
   rcases Nat.lt_or_ge k (toDec n).length with h2 | h2
   ·have h3:10 ^ k<=10 ^ ((toDec n).length - 1):=Nat.pow_le_pow_right (by omega) (by omega)
    omega
   ·exact h2
def Ky (l:List UInt8):Prop:=l≠[]/\l.all isDig=true/\(1 < l.length->l.head?≠some 48)
theorem R1 {l:List UInt8}(hd:l.all isDig=true)(h0:l≠[])(h:l.head?≠some 48):0 < val l:=by
 induction l using kN with
 | h0=>exact absurd rfl h0
 | h1 l c ih=>
  simp only [List.all_append,List.all_cons,List.all_nil,Bool.and_true,Bool.and_eq_true] at hd
  rw [val_snoc]
  by_cases hl:l=[]
  ·subst hl
   have hc:c≠48:=by intro e; subst e; simp at h
   have h2:=isDig_iff.1 hd.2
   have h3:c.toNat≠48:=fun e=>hc (by apply UInt8.toNat_inj.1; rw [e]; rfl)
   rw [val_nil]; unfold dv; omega
  ·have:=ih hd.1 hl (by
    cases l with
    | nil=>exact absurd rfl hl
    | cons a l=>simpa using h)
   omega
theorem qe {l:List UInt8}(h:Ky l):toDec (val l)=l:=by
 induction l using kN with
 | h0=>exact absurd rfl h.1
 | h1 l c ih=>
  obtain ⟨_,hd,hz⟩:=h
  simp only [List.all_append,List.all_cons,List.all_nil,Bool.and_true,Bool.and_eq_true] at hd
  rw [val_snoc]
  by_cases hl:l=[]
  ·subst hl
   rw [val_nil,toDec_lt (by have:=dv_lt hd.2; omega)]
   simp [Fl hd.2]
  ·have hh:l.head?≠some 48:=by
    have:=hz (by have:=List.length_pos_iff.2 hl; simp; omega)
    cases l with
    | nil=>exact absurd rfl hl
    | cons a l=>simpa using this
   have hp:=R1 hd.1 hl hh
   rw [r8 hp (dv_lt hd.2),ih ⟨hl,hd.1,fun _=>hh⟩,Fl hd.2]
theorem GD (n:Nat):Ky (toDec n):=by
 refine ⟨toDec_ne n,toDec_all n,?_⟩
 induction n using Nat.strongRecOn with
 | ind n ih=>
  intro hl
  by_cases h:n < 10
  ·rw [toDec_lt h] at hl; simp at hl
  ·rw [toDec_ge (by omega)]
   by_cases h1:n / 10 < 10
   ·rw [toDec_lt h1]
    simp only [List.cons_append,List.head?_cons,ne_eq,Option.some.injEq]
    intro e
    have:=congrArg UInt8.toNat e
    rw [toNat_dig h1] at this
    have h48:(48:UInt8).toNat=48:=rfl
    omega
   ·have h2:=ih (n / 10) (by omega) (by rw [toDec_ge (by omega)]; have:=toDec_len_pos (n / 10 / 10); simp; omega)
    cases hh:toDec (n / 10) with
    | nil=>exact absurd hh (toDec_ne _)
    | cons a l=>rw [hh] at h2; simpa using h2
def valid (l:List UInt8):Bool:= !l.isEmpty && decide (l.length<=1000) && !(decide (1 < l.length) && l.head? == some 48) && l.all isDig
theorem valid_iff {l:List UInt8}:valid l=true↔Ky l/\l.length<=1000:=by
 unfold valid Ky
 cases l with
 | nil=>simp
 | cons a l=>
  simp only [List.isEmpty_cons,Bool.not_false,Bool.true_and,Bool.and_eq_true,decide_eq_true_eq,Bool.not_eq_true',Bool.and_eq_false_imp,ne_eq,reduceCtorEq,not_false_eq_true,true_and]
  constructor
  ·rintro ⟨⟨h1,h2⟩,h3⟩
   exact ⟨⟨h3,fun h4=>by simpa using h2 h4⟩,h1⟩
  ·rintro ⟨⟨h3,h2⟩,h1⟩
   exact ⟨⟨h1,fun h4=>by simpa using h2 h4⟩,h3⟩
theorem valid_toDec {n:Nat}:valid (toDec n)=true↔n < 10 ^ 1000:=by
 rw [valid_iff]
 have e:=toDec_len_le (n:=n) (k:=1000) (by decide)
 exact ⟨fun h=>e.1 h.2,fun h=>⟨GD n,e.2 h⟩⟩
theorem valid_ex {l:List UInt8}(h:valid l=true): ∃ n,l=toDec n/\n < 10 ^ 1000/\val l=n:=by
 have h1:=(valid_iff.1 h).1
 refine ⟨val l,(qe h1).symm,?_,rfl⟩
 rw [<-qe h1] at h
 exact valid_toDec.1 h
def bv (b:Nat):List Nat->Nat
 | []=>0
 | d::l=>d+b*bv b l
theorem ef (b:Nat): ∀ x y:List Nat,bv b (x++y)=bv b x+b ^ x.length*bv b y
 | [],y=>by simp [bv]
 | d::x,y=>by
  simp only [List.cons_append,bv,ef b x y,List.length_cons,Nat.pow_succ]
  rw [Nat.mul_add,Nat.mul_comm (b ^ x.length) b,Nat.mul_assoc]; omega
theorem bv_snoc (b:Nat)(x:List Nat)(d:Nat):bv b (x++[d])=bv b x+b ^ x.length*d:=by rw [ef]; simp [bv]
theorem bv_lt {b:Nat}: ∀ {x:List Nat},(∀ d∈x,d < b)->bv b x < b ^ x.length
 | [],_=>by simp [bv]
 | d::x,h=>by
  have h1:=bv_lt (b:=b) (x:=x) fun e he=>h e (by simp [he])
  have h2:=h d (by simp)
  simp only [bv,List.length_cons,Nat.pow_succ]
  have:b*bv b x+b<=b*b ^ x.length:=by
   have:=Nat.mul_le_mul_left b (Nat.succ_le_of_lt h1)
   rw [Nat.mul_succ] at this; exact this
  rw [Nat.mul_comm (b ^ x.length)]; omega
def toB (b n:Nat):List Nat:=if h:1 < b/\0 < n then n % b::toB b (n / b) else []
termination_by n
decreasing_by exact Nat.div_lt_self h.2 h.1
theorem toB_zero (b:Nat):toB b 0=[]:=by rw [toB,dif_neg (by omega)]
theorem nf {b n:Nat}(hb:1 < b)(hn:0 < n):toB b n=n % b::toB b (n / b):=by rw [toB,dif_pos ⟨hb,hn⟩]
theorem bv_toB {b:Nat}(hb:1 < b)(n:Nat):bv b (toB b n)=n:=by
 induction n using Nat.strongRecOn with
 | ind n ih=>
  rcases Nat.eq_zero_or_pos n with rfl | hn
  ·rw [toB_zero]; rfl
  ·rw [nf hb hn,bv,ih (n / b) (Nat.div_lt_self hn hb)]; exact Nat.mod_add_div n b
theorem toB_lt {b:Nat}(hb:1 < b)(n:Nat): ∀ d∈toB b n,d < b:=by
 induction n using Nat.strongRecOn with
 | ind n ih=>
  rcases Nat.eq_zero_or_pos n with rfl | hn
  ·rw [toB_zero]; simp
  ·rw [nf hb hn]
   intro d hd
   rcases List.mem_cons.1 hd with rfl | hd
   ·exact Nat.mod_lt _ (by omega)
   ·exact ih (n / b) (Nat.div_lt_self hn hb) d hd
def Vs (b:Nat)(l:List Nat):Prop:=(∀ d∈l,d < b)/\l.getLast?≠some 0
theorem OY {b:Nat}(hb:1 < b)(n:Nat):Vs b (toB b n):=by
 refine ⟨toB_lt hb n,?_⟩
 induction n using Nat.strongRecOn with
 | ind n ih=>
  rcases Nat.eq_zero_or_pos n with rfl | hn
  ·rw [toB_zero]; simp
  ·rw [nf hb hn]
   by_cases h0:n / b=0
   ·rw [h0,toB_zero]
    have:n < b:=by
     rcases Nat.lt_or_ge n b with h | h
     ·exact h
     ·have:=Nat.div_pos h (by omega); omega
    simp [Nat.mod_eq_of_lt this]; omega
   ·have:=ih (n / b) (Nat.div_lt_self hn hb)
    rw [nf hb (Nat.pos_of_ne_zero h0)] at this ⊢
    simpa using this
theorem Ox {b:Nat}(hb:1 < b): ∀ {l:List Nat},Vs b l->toB b (bv b l)=l
 | [],_=>toB_zero b
 | d::l,h=>by
  have hd:d < b:=h.1 d (by simp)
  have hp:0 < bv b (d::l):=by
   have key: ∀ l:List Nat,l≠[]->l.getLast?≠some 0->0 < bv b l:=by
    intro l
    induction l with
    | nil=>intro h; exact absurd rfl h
    | cons a l ih=>
     intro _ h2
     by_cases hl:l=[]
     ·subst hl; simp at h2; simp [bv]; omega
     ·have:0 < bv b l:=ih hl (by
       cases l with
       | nil=>exact absurd rfl hl
       | cons c l=>simpa using h2)
      simp only [bv]
      have:=Nat.mul_pos (show 0 < b by omega) this
      omega
   exact key _ (by simp) h.2
  have hl:Vs b l:=⟨fun e he=>h.1 e (by simp [he]),by
   intro e
   cases l with
   | nil=>simp at e
   | cons c l=>exact h.2 (by simpa using e)⟩
  rw [nf hb hp]
  simp only [bv]
  rw [show (d+b*bv b l) % b=d by rw [Nat.add_mul_mod_self_left,Nat.mod_eq_of_lt hd],show (d+b*bv b l) / b=bv b l by rw [Nat.add_mul_div_left _ _ (by omega),Nat.div_eq_of_lt hd,Nat.zero_add],Ox hb hl]
def trimL (l:List Nat):List Nat:=(l.reverse.dropWhile (· == 0)).reverse
theorem Lt:trimL []=[]:=rfl
theorem trimL_snoc_zero (l:List Nat):trimL (l++[0])=trimL l:=by simp [trimL]
theorem trimL_snoc_pos (l:List Nat){d:Nat}(h:d≠0):trimL (l++[d])=l++[d]:=by simp [trimL,h]
theorem trimL_eq {b:Nat}(hb:1 < b){l:List Nat}(h: ∀ d∈l,d < b):trimL l=toB b (bv b l):=by
 induction l using kN with
 | h0=>rw [Lt]; exact (toB_zero b).symm
 | h1 l d ih=>
  by_cases hd:d=0
  ·subst hd
   rw [trimL_snoc_zero,ih fun e he=>h e (by simp [he]),bv_snoc]; simp
  ·rw [trimL_snoc_pos l hd,Ox hb]
   exact ⟨h,by simpa using hd⟩
theorem toB_eq_nil {b n:Nat}(hb:1 < b):toB b n=[]↔n=0:=by
 constructor
 ·intro h; have:=bv_toB hb n; rw [h] at this; exact this.symm
 ·rintro rfl; exact toB_zero b
theorem toB_len_le {b:Nat}(hb:1 < b){n k:Nat}(h:n < b ^ k):(toB b n).length<=k:=by
 induction k generalizing n with
 | zero=>rw [Nat.pow_zero] at h; rw [show n=0 by omega,toB_zero]; simp
 | succ k ih=>
  rcases Nat.eq_zero_or_pos n with rfl | hn
  ·rw [toB_zero]; simp
  ·rw [nf hb hn]
   have:n / b < b ^ k:=Nat.div_lt_of_lt_mul (by rw [Nat.pow_succ,Nat.mul_comm] at h; exact h)
   have:=ih this
   simp; omega
theorem qI {b:Nat}(hb:1 < b){n:Nat}(hn:0 < n):b ^ ((toB b n).length - 1)<=n:=by
 induction n using Nat.strongRecOn with
 | ind n ih=>
  rw [nf hb hn,List.length_cons,Nat.add_sub_cancel]
  by_cases h0:n / b=0
  ·rw [h0,toB_zero]; simp; omega
  ·have h1:=ih (n / b) (Nat.div_lt_self hn hb) (Nat.pos_of_ne_zero h0)
   have h2:0 < (toB b (n / b)).length:=List.length_pos_iff.2 (by rw [Ne,toB_eq_nil hb]; exact h0)
   obtain ⟨k,hk⟩: ∃ k,(toB b (n / b)).length=k+1:=⟨(toB b (n / b)).length - 1,by omega⟩
   rw [hk] at h1 ⊢
   rw [Nat.add_sub_cancel] at h1
   rw [Nat.pow_succ]
   have h3:=Nat.mul_le_mul_right b h1
   have h4:=Nat.div_mul_le_self n b
   omega
theorem bv_drop (b:Nat)(x:List Nat)(i:Nat):bv b (x.drop i)=x.getD i 0+b*bv b (x.drop (i+1)):=by
 rcases Nat.lt_or_ge i x.length with h | h
 ·rw [List.drop_eq_getElem_cons h,bv,gD,gE h]; rfl
 ·rw [List.drop_eq_nil_of_le h,List.drop_eq_nil_of_le (by omega),gD,List.getElem?_eq_none h]; simp [bv]
theorem getD_lt {b:Nat}{x:List Nat}(hb:0 < b)(h: ∀ d∈x,d < b)(i:Nat):x.getD i 0 < b:=by
 rw [gD]
 cases hx:x[i]? with
 | none=>exact hb
 | some d=>exact h d (List.mem_of_getElem? hx)
def eachF (F:Nat->Nat->Nat->Nat×Nat)(x y:List Nat):Nat->Nat->Nat->List Nat
 | _,0,_=>[]
 | i,k+1,c=>(F (x.getD i 0) (y.getD i 0) c).1::eachF F x y (i+1) k (F (x.getD i 0) (y.getD i 0) c).2
theorem eachF_lt {b:Nat}{F:Nat->Nat->Nat->Nat×Nat}(h: ∀ p q c,(F p q c).1 < b)(x y:List Nat): ∀ k i c,∀ d∈eachF F x y i k c,d < b
 | 0,_,_=>by simp [eachF]
 | k+1,i,c=>by
  intro d hd
  rcases List.mem_cons.1 hd with rfl | hd
  ·exact h _ _ _
  ·exact eachF_lt h x y k _ _ d hd
def plusF (b:Nat)(p q c:Nat):Nat×Nat:=((p+q+c) % b,(p+q+c) / b)
theorem plus_bv {b:Nat}(hb:1 < b){x y:List Nat}(hx: ∀ d∈x,d < b)(hy: ∀ d∈y,d < b): ∀ k i c,x.length < i+k->y.length < i+k->c<=1->0 < k->
  bv b (eachF (plusF b) x y i k c)=bv b (x.drop i)+bv b (y.drop i)+c:=by
 intro k
 induction k with
 | zero=>intro i c _ _ _ h; omega
 | succ k ih=>
  intro i c h1 h2 hc _
  have ha:=getD_lt (by omega) hx i
  have hbb:=getD_lt (by omega) hy i
  rw [bv_drop b x i,bv_drop b y i]
  simp only [eachF,bv]
  have hm:=Nat.mod_add_div (x.getD i 0+y.getD i 0+c) b
  have hc':(plusF b (x.getD i 0) (y.getD i 0) c).2<=1:=by
   show (x.getD i 0+y.getD i 0+c) / b<=1
   have:(x.getD i 0+y.getD i 0+c) / b < 2:=Nat.div_lt_of_lt_mul (by omega)
   omega
  rcases Nat.eq_zero_or_pos k with rfl | hk
  ·rw [List.drop_eq_nil_of_le (show x.length<=i+1 by omega),List.drop_eq_nil_of_le (show y.length<=i+1 by omega)]
   have e1:x.getD i 0=0:=by rw [gD,List.getElem?_eq_none (by omega)]; rfl
   have e2:y.getD i 0=0:=by rw [gD,List.getElem?_eq_none (by omega)]; rfl
   simp only [eachF,bv,plusF,e1,e2,Nat.zero_add,Nat.mul_zero,Nat.add_zero]
   exact Nat.mod_eq_of_lt (by omega)
  ·rw [ih (i+1) _ (by omega) (by omega) hc' hk]
   simp only [plusF]
   rw [Nat.mul_add,Nat.mul_add]
   omega
def scaleF (b m:Nat)(p _q c:Nat):Nat×Nat:=((p*m+c) % b,(p*m+c) / b)
theorem scale_bv {b m:Nat}(hb:1 < b)(hm:m<=b)(hm0:0 < m){x y:List Nat}(hx: ∀ d∈x,d < b): ∀ k i c,x.length < i+k->c < m->0 < k->
  bv b (eachF (scaleF b m) x y i k c)=bv b (x.drop i)*m+c:=by
 intro k
 induction k with
 | zero=>intro i c _ _ h; omega
 | succ k ih=>
  intro i c h1 hc _
  have ha:=getD_lt (by omega) hx i
  rw [bv_drop b x i]
  simp only [eachF,bv]
  have hmd:=Nat.mod_add_div (x.getD i 0*m+c) b
  have hc':(scaleF b m (x.getD i 0) (y.getD i 0) c).2 < m:=by
   show (x.getD i 0*m+c) / b < m
   refine Nat.div_lt_of_lt_mul ?_
   have:x.getD i 0*m+m<=b*m:=by
    have:=Nat.mul_le_mul_right m (Nat.succ_le_of_lt ha)
    rw [Nat.succ_mul] at this; exact this
   omega
  rcases Nat.eq_zero_or_pos k with rfl | hk
  ·rw [List.drop_eq_nil_of_le (show x.length<=i+1 by omega)]
   have e1:x.getD i 0=0:=by rw [gD,List.getElem?_eq_none (by omega)]; rfl
   simp only [eachF,bv,scaleF,e1,Nat.zero_mul,Nat.zero_add,Nat.mul_zero,Nat.add_zero]
   exact Nat.mod_eq_of_lt (by omega)
  ·rw [ih (i+1) _ (by omega) hc' hk]
   simp only [scaleF]
   have e:(x.getD i 0+b*bv b (x.drop (i+1)))*m=x.getD i 0*m+b*(bv b (x.drop (i+1))*m):=by rw [Nat.add_mul,Nat.mul_assoc]
   rw [e,Nat.mul_add]
   omega
def minusF (b:Nat)(p q c:Nat):Nat×Nat:=((p+b - q - c) % b,1 - (p+b - q - c) / b)
theorem minus_step {b p q c:Nat}(hb:1 < b)(hp:p < b)(hq:q < b)(hc:c<=1):p+b*(minusF b p q c).2=(minusF b p q c).1+q+c/\(minusF b p q c).2<=1:=by
 unfold minusF
 dsimp only
 rcases Nat.lt_or_ge (p+b - q - c) b with h | h
 ·rw [Nat.div_eq_of_lt h,Nat.mod_eq_of_lt h]; omega
 ·have h2:(p+b - q - c) / b=1:=by
   refine Nat.le_antisymm ?_ ((Nat.le_div_iff_mul_le (by omega)).2 (by omega))
   have:(p+b - q - c) / b < 2:=Nat.div_lt_of_lt_mul (by omega)
   omega
  have h3:=Nat.mod_add_div (p+b - q - c) b
  rw [h2] at h3 ⊢
  omega
theorem minus_bv {b:Nat}(hb:1 < b){x y:List Nat}(hx: ∀ d∈x,d < b)(hy: ∀ d∈y,d < b): ∀ k i c,x.length<=i+k->y.length<=i+k->c<=1->bv b (y.drop i)+c<=bv b (x.drop i)->
  bv b (eachF (minusF b) x y i k c)+bv b (y.drop i)+c=bv b (x.drop i):=by
 intro k
 induction k with
 | zero=>
  intro i c h1 h2 _ h
  rw [List.drop_eq_nil_of_le (show x.length<=i by omega)] at h ⊢
  rw [List.drop_eq_nil_of_le (show y.length<=i by omega)] at h ⊢
  simp only [bv,eachF] at h ⊢
  omega
 | succ k ih=>
  intro i c h1 h2 hc h
  have ha:=getD_lt (by omega) hx i
  have hbb:=getD_lt (by omega) hy i
  obtain ⟨s1,s2⟩:=minus_step hb ha hbb hc
  rw [bv_drop b x i,bv_drop b y i] at h ⊢
  simp only [eachF,bv]
  have hlt:(minusF b (x.getD i 0) (y.getD i 0) c).1 < b:=Nat.mod_lt _ (by omega)
  have hle:bv b (y.drop (i+1))+(minusF b (x.getD i 0) (y.getD i 0) c).2<=bv b (x.drop (i+1)):=by
   rcases Nat.lt_or_ge (bv b (x.drop (i+1))) (bv b (y.drop (i+1))+(minusF b (x.getD i 0) (y.getD i 0) c).2) with g | g
   ·have g2:=Nat.mul_le_mul_left b (Nat.succ_le_of_lt g)
    rw [Nat.mul_succ,Nat.mul_add] at g2
    omega
   ·exact g
  have e:=ih (i+1) _ (by omega) (by omega) s2 hle
  have e2:=congrArg (b * ·) e
  simp only [Nat.mul_add] at e2
  omega
theorem NL {B n q v1 v2 rest u2 top U V Ul Vl:Nat}(hU:U=(top*B+u2)*B ^ n+Ul)(hUl:Ul < B ^ n)(hV:V=(v1*B+v2)*B ^ n+Vl)(ht:q*v1+rest=top)(h:rest*B+u2 < q*v2):U < q*V:=by
 have h1:top*B+u2+1<=q*(v1*B+v2):=by
  have e:q*(v1*B+v2)=q*v1*B+q*v2:=by rw [Nat.mul_add,Nat.mul_assoc]
  have e2:top*B=q*v1*B+rest*B:=by rw [<-ht,Nat.add_mul]
  omega
 have h2:=Nat.mul_le_mul_right (B ^ n) h1
 rw [Nat.add_mul,Nat.one_mul] at h2
 have h3:q*V=q*(v1*B+v2)*B ^ n+q*Vl:=by rw [hV,Nat.mul_add,Nat.mul_assoc]
 omega
theorem JK {B n q v1 v2 rest u2 top U V Ul Vl:Nat}(hU:U=(top*B+u2)*B ^ n+Ul)(hV:V=(v1*B+v2)*B ^ n+Vl)(hVl:Vl < B ^ n)(ht:q*v1+rest=top)(hq:q < B)(hv1:0 < v1)(h:q*v2<=rest*B+u2):q*V < U+V:=by
 have h1:q*(v1*B+v2)<=top*B+u2:=by
  have e:q*(v1*B+v2)=q*v1*B+q*v2:=by rw [Nat.mul_add,Nat.mul_assoc]
  have e2:top*B=q*v1*B+rest*B:=by rw [<-ht,Nat.add_mul]
  omega
 have h2:=Nat.mul_le_mul_right (B ^ n) h1
 have h3:q*V=q*(v1*B+v2)*B ^ n+q*Vl:=by rw [hV,Nat.mul_add,Nat.mul_assoc]
 have h4:q*Vl<=q*B ^ n:=Nat.mul_le_mul_left q (Nat.le_of_lt hVl)
 have h5:q*B ^ n+B ^ n<=B*B ^ n:=by
  have:=Nat.mul_le_mul_right (B ^ n) (Nat.succ_le_of_lt hq)
  rw [Nat.succ_mul] at this; exact this
 have h6:B*B ^ n<=v1*B*B ^ n:=by
  have:=Nat.mul_le_mul_right (B*B ^ n) (Nat.succ_le_of_lt hv1)
  rw [Nat.succ_eq_add_one,Nat.zero_add,Nat.one_mul,<-Nat.mul_assoc] at this; exact this
 have h7:v1*B*B ^ n<=V:=by rw [hV,Nat.add_mul]; omega
 have h8:0 < B ^ n:=Nat.pow_pos (by omega)
 omega
def qy (B q u v borrow carry:Nat):Nat×Nat×Nat:=((u+B - (q*v+carry) % B - borrow) % B,1 - (u+B - (q*v+carry) % B - borrow) / B,(q*v+carry) / B)
theorem OH {B q u v borrow carry:Nat}(hB:1 < B)(hu:u < B)(hb:borrow<=1):
  u+B*((qy B q u v borrow carry).2.1+(qy B q u v borrow carry).2.2)=(qy B q u v borrow carry).1+q*v+(borrow+carry)/\(qy B q u v borrow carry).2.1<=1/\(qy B q u v borrow carry).1 < B:=by
 have hp:=Nat.mod_lt (q*v+carry) (show 0 < B by omega)
 have hpm:=Nat.mod_add_div (q*v+carry) B
 have h:=minus_step (b:=B) (p:=u) (q:=(q*v+carry) % B) (c:=borrow) hB hu hp hb
 unfold minusF at h
 dsimp only at h
 unfold qy
 dsimp only
 refine ⟨?_,h.2,Nat.mod_lt _ (by omega)⟩
 rw [Nat.mul_add]
 omega
def cmpN (m n:Nat):Int:=if m < n then -1 else if m=n then 0 else 1
theorem cmpN_lt {m n:Nat}(h:m < n):cmpN m n = -1:=if_pos h
theorem cmpN_gt {m n:Nat}(h:n < m):cmpN m n=1:=by unfold cmpN; rw [if_neg (by omega),if_neg (by omega)]
theorem cmpN_eq (m:Nat):cmpN m m=0:=by unfold cmpN; rw [if_neg (by omega),if_pos rfl]
theorem cmpN_neg {m n:Nat}:cmpN m n < 0↔m < n:=by
 unfold cmpN; split
 ·simp; omega
 ·split <;> simp <;> omega
theorem cmpN_ge {m n:Nat}:cmpN m n>=0↔n<=m:=by
 unfold cmpN; split
 ·simp; omega
 ·split <;> simp <;> omega
theorem toDec_len_lt {m n:Nat}(h:(toDec m).length < (toDec n).length):m < n:=by
 rcases Nat.lt_or_ge m n with h1 | h1
 ·exact h1
 ·have h2:=(toDec_len_le (n:=n) (k:=(toDec m).length) (toDec_len_pos m)).2 (Nat.lt_of_le_of_lt h1 (toDec_lt_pow m))
  omega
theorem val_lt_of_prefix {a b:List UInt8}(hb:b.all isDig=true)(ha:a.all isDig=true)(hl:a.length=b.length){i:Nat}{c d:UInt8}(hp:a.take i=b.take i)(hc:a[i]?=some c)(hd:b[i]?=some d)(hcd:c < d):val a < val b:=by
 obtain ⟨h1,rfl⟩:=List.getElem?_eq_some_iff.1 hc
 obtain ⟨h2,rfl⟩:=List.getElem?_eq_some_iff.1 hd
 have ea:a=a.take i++(a[i]::a.drop (i+1)):=by rw [<-List.drop_eq_getElem_cons h1,List.take_append_drop]
 have eb:b=a.take i++(b[i]::b.drop (i+1)):=by rw [hp,<-List.drop_eq_getElem_cons h2,List.take_append_drop]
 have hA:val a=val (a.take i)*10 ^ (a.drop i).length+val (a.drop i):=by rw [<-val_append,List.take_append_drop]
 have hB:val b=val (a.take i)*10 ^ (b.drop i).length+val (b.drop i):=by rw [hp,<-val_append,List.take_append_drop]
 have ka:val (a.drop i)=dv a[i]*10 ^ (a.drop (i+1)).length+val (a.drop (i+1)):=by
  rw [List.drop_eq_getElem_cons h1,<-List.singleton_append,val_append]; simp [val]
 have kb:val (b.drop i)=dv b[i]*10 ^ (b.drop (i+1)).length+val (b.drop (i+1)):=by
  rw [List.drop_eq_getElem_cons h2,<-List.singleton_append,val_append]; simp [val]
 have hd1:(a.drop (i+1)).all isDig=true:=by
  rw [List.all_eq_true] at ha ⊢
  exact fun x hx=>ha x (List.mem_of_mem_drop hx)
 have hlt:=val_lt hd1
 have hdig:dv a[i]+1<=dv b[i]:=by
  have g1:=isDig_iff.1 (List.all_eq_true.1 ha _ (List.getElem_mem h1))
  have g2:=UInt8.lt_iff_toNat_lt.1 hcd
  unfold dv; omega
 have e1:(a.drop i).length=(b.drop i).length:=by simp [hl]
 have e2:(a.drop (i+1)).length=(b.drop (i+1)).length:=by simp [hl]
 rw [hA,hB,ka,kb,e1,<-e2]
 rw [e2] at hlt ⊢
 have h5:=Nat.mul_le_mul_right (10 ^ (b.drop (i+1)).length) hdig
 rw [Nat.add_mul,Nat.one_mul] at h5
 omega
def digs (l:List UInt8):List Nat:=l.reverse.map dv
theorem digs_len (l:List UInt8):(digs l).length=l.length:=by simp [digs]
theorem digs_lt {l:List UInt8}(h:l.all isDig=true): ∀ d∈digs l,d < 10:=by
 intro d hd
 simp only [digs,List.mem_map,List.mem_reverse] at hd
 obtain ⟨c,hc,rfl⟩:=hd
 exact dv_lt (List.all_eq_true.1 h c hc)
theorem bv_digs (l:List UInt8):bv 10 (digs l)=val l:=by
 induction l using kN with
 | h0=>rfl
 | h1 l c ih=>
  have:digs (l++[c])=dv c::digs l:=by simp [digs]
  rw [this,bv,ih,val_snoc]; omega
def txt (l:List Nat):List UInt8:=l.reverse.map dig
theorem Kw (l:List Nat):(txt l).length=l.length:=by simp [txt]
theorem Tn {l:List Nat}(h: ∀ d∈l,d < 10):val (txt l)=bv 10 l:=by
 induction l with
 | nil=>rfl
 | cons d l ih=>
  have:txt (d::l)=txt l++[dig d]:=by simp [txt]
  rw [this,val_snoc,ih (fun x hx=>h x (by simp [hx])),dv_dig (h d (by simp)),bv]; omega
theorem SY {l:List Nat}(h: ∀ d∈l,d < 10):(txt l).all isDig=true:=by
 rw [List.all_eq_true]
 intro c hc
 simp only [txt,List.mem_map,List.mem_reverse] at hc
 obtain ⟨d,hd,rfl⟩:=hc
 exact isDig_dig (h d hd)
theorem txt_dec {l:List Nat}(h: ∀ d∈l,d < 10)(h0:l≠[])(hz:1 < l.length->l.getLast?≠some 0):txt l=toDec (bv 10 l):=by
 rw [<-Tn h]
 refine (qe ⟨fun e=>h0 ?_,SY h,fun hl=> ?_⟩).symm
 ·have:=congrArg List.length e
  rw [Kw] at this
  exact List.eq_nil_of_length_eq_zero this
 ·rw [Kw] at hl
  have h1:=hz hl
  rw [txt,List.head?_map,List.head?_reverse]
  cases hg:l.getLast? with
  | none=>simp
  | some d=>
   rw [hg] at h1
   have hd:=h d (List.mem_of_getLast? hg)
   simp only [Option.map_some,ne_eq,Option.some.injEq] at h1 ⊢
   intro e
   have:=congrArg UInt8.toNat e
   rw [toNat_dig hd] at this
   have h48:(48:UInt8).toNat=48:=rfl
   omega
theorem bv_take_zero {l:List Nat}{n:Nat}(h: ∀ i,n<=i->l.getD i 0=0):bv 10 (l.take n)=bv 10 l:=by
 induction n generalizing l with
 | zero=>
  have: ∀ l:List Nat,(∀ i,0<=i->l.getD i 0=0)->bv 10 l=0:=by
   intro l
   induction l with
   | nil=>intro _; rfl
   | cons a l ih=>
    intro h
    have h1:=h 0 (by omega)
    rw [bv,ih (fun i _=>by have:=h (i+1) (by omega); simpa using this)]
    simpa using h1
  rw [this l h]; rfl
 | succ n ih=>
  cases l with
  | nil=>rfl
  | cons a l=>
   simp only [List.take_succ_cons,bv]
   rw [ih (fun i hi=>by have:=h (i+1) (by omega); simpa using this)]
def lessF (p q c:Nat):Nat×Nat:=if p < q+c then (p+10 - q - c,1) else (p - q - c,0)
theorem Pg {p q c:Nat}(hp:p < 10)(hq:q < 10)(hc:c<=1):lessF p q c=minusF 10 p q c:=by
 unfold lessF minusF
 split
 ·rw [Nat.mod_eq_of_lt (by omega),Nat.div_eq_of_lt (by omega)]
 ·have h1:(p+10 - q - c) / 10=1:=by omega
  have h2:(p+10 - q - c) % 10=p - q - c:=by omega
  rw [h1,h2]
theorem rT {x y:List Nat}(hx: ∀ d∈x,d < 10)(hy: ∀ d∈y,d < 10): ∀ k i c,c<=1->eachF lessF x y i k c=eachF (minusF 10) x y i k c
 | 0,_,_,_=>rfl
 | k+1,i,c,hc=>by
  have h1:=Pg (getD_lt (by omega) hx i) (getD_lt (by omega) hy i) hc
  simp only [eachF]
  rw [h1,rT hx hy k (i+1) _ (minus_step (by omega) (getD_lt (by omega) hx i) (getD_lt (by omega) hy i) hc).2]
theorem less_bv {x y:List Nat}(hx: ∀ d∈x,d < 10)(hy: ∀ d∈y,d < 10)(hl:y.length<=x.length)(h:bv 10 y<=bv 10 x):bv 10 (eachF lessF x y 0 x.length 0)=bv 10 x - bv 10 y:=by
 rw [rT hx hy _ _ _ (by omega)]
 have:=minus_bv (b:=10) (by omega) hx hy x.length 0 0 (by omega) (by omega) (by omega) (by simpa using h)
 simp only [List.drop_zero] at this
 omega
theorem eachF_len (F:Nat->Nat->Nat->Nat×Nat)(x y:List Nat): ∀ k i c,(eachF F x y i k c).length=k
 | 0,_,_=>rfl
 | k+1,i,c=>by simp [eachF,eachF_len F x y k]
theorem less_lt {x y:List Nat}(hx: ∀ d∈x,d < 10)(hy: ∀ d∈y,d < 10)(k i c:Nat)(hc:c<=1): ∀ d∈eachF lessF x y i k c,d < 10:=by
 rw [rT hx hy _ _ _ hc]
 exact eachF_lt (fun p q c=>Nat.mod_lt _ (by omega)) x y k i c
theorem toDec_zero:toDec 0=[48]:=by rw [toDec_lt (by omega)]; rfl
theorem MJ:toDec 1=[49]:=by rw [toDec_lt (by omega)]; rfl
theorem toDec_eq_zero {n:Nat}:toDec n=[48]↔n=0:=by
 rw [<-toDec_zero]; exact ⟨toDec_inj,fun h=>by rw [h]⟩
theorem toDec_eq_one {n:Nat}:toDec n=[49]↔n=1:=by
 rw [<-MJ]; exact ⟨toDec_inj,fun h=>by rw [h]⟩
theorem toDec_push {r:Nat}{c:UInt8}(hc:isDig c=true):(if toDec r=[48] then [c] else toDec r++[c])=toDec (10*r+dv c):=by
 have hd:=dv_lt hc
 by_cases h:r=0
 ·subst h
  rw [if_pos toDec_zero,Nat.mul_zero,Nat.zero_add,toDec_lt hd,Fl hc]
 ·rw [if_neg (fun e=>h (toDec_eq_zero.1 e)),r8 (by omega) hd,Fl hc]
theorem val_take_succ {l:List UInt8}{i:Nat}{c:UInt8}(h:l[i]?=some c):val (l.take (i+1))=10*val (l.take i)+dv c:=by
 obtain ⟨h1,rfl⟩:=List.getElem?_eq_some_iff.1 h
 rw [List.take_succ_eq_append_getElem h1,val_snoc]
theorem div_round {V n d k:Nat}(hn:0 < n)(h1:k*n<=10*(V % n)+d)(h2:10*(V % n)+d < (k+1)*n):(10*V+d) / n=10*(V / n)+k/\(10*V+d) % n=10*(V % n)+d - k*n:=by
 have e:=Nat.mod_add_div V n
 have e2:10*V+d=n*(10*(V / n)+k)+(10*(V % n)+d - k*n):=by
  have g1:n*(10*(V / n)+k)=10*(n*(V / n))+k*n:=by rw [Nat.mul_add,Nat.mul_left_comm,Nat.mul_comm n k]
  omega
 have hlt:10*(V % n)+d - k*n < n:=by rw [Nat.add_mul,Nat.one_mul] at h2; omega
 rw [e2]
 constructor
 ·rw [Nat.mul_add_div hn,Nat.div_eq_of_lt hlt]; rfl
 ·rw [Nat.mul_add_mod,Nat.mod_eq_of_lt hlt]
theorem div_digit {V n d k:Nat}(hn:0 < n)(hd:d < 10)(h1:k*n<=10*(V % n)+d):k < 10:=by
 have:=Nat.mod_lt V hn
 rcases Nat.lt_or_ge k 10 with h | h
 ·exact h
 ·have:=Nat.mul_le_mul_right n h
  omega
theorem ME {l:List UInt8}(h: ∀ c∈l,c=48):val l=0:=by
 induction l using kN with
 | h0=>rfl
 | h1 l c ih=>
  rw [val_snoc,ih (fun x hx=>h x (by simp [hx])),h c (by simp)]; rfl
theorem strip_dec {l:List UInt8}{k:Nat}(hd:l.all isDig=true)(hk:k < l.length)(hz: ∀ i,i < k->l[i]?=some 48)(hs:k+1 < l.length->l[k]?≠some 48):l.drop k=toDec (val l):=by
 have h1:val l=val (l.drop k):=by
  have:=val_append (l.take k) (l.drop k)
  rw [List.take_append_drop] at this
  rw [this,ME (fun c hc=>by
   obtain ⟨i,hi⟩:=List.getElem?_of_mem hc
   rw [List.getElem?_take] at hi
   split at hi
   ·next h=>rw [hz i h] at hi; exact (oI hi).symm
   ·cases hi),Nat.zero_mul,Nat.zero_add]
 rw [h1]
 refine (qe ⟨fun e=> ?_,?_,fun hl=> ?_⟩).symm
 ·have:=congrArg List.length e
  simp at this; omega
 ·rw [List.all_eq_true] at hd ⊢
  exact fun x hx=>hd x (List.mem_of_mem_drop hx)
 ·rw [List.length_drop] at hl
  rw [List.head?_drop]
  exact hs (by omega)
theorem gcd_step (m n:Nat):Nat.gcd m n=Nat.gcd n (m % n):=by rw [Nat.gcd_comm m n,Nat.gcd_rec n m,Nat.gcd_comm]
end Go.Num
end
section
set_option linter.unusedVariables false
set_option maxRecDepth 100000
namespace Go.Proofs.YtoabjjimjldcfaaGreatDoor
open Go Go.Ab
theorem RW:SS.P.underlying 9=some .string:=by kernel_rfl
theorem yf (l:List UInt8){h:Heap}{i:Int}(h0:0<=i)(h1:i < l.length):aQ SS.P 9 (aa l) (.int .i64 i)=some (.int .u8 ((l.getD i.toNat 0).toNat:Nat)):=i6 RW l _ h0 h1
theorem Oc {c:UInt8}(h1: ¬ (c.toNat:Int) < 48)(h2: ¬ (c.toNat:Int) > 57):Num.isDig c=true:=by
 unfold Num.isDig; simp; omega
theorem F2 {c:UInt8}(h:(c.toNat:Int) < 48\/(c.toNat:Int) > 57):Num.isDig c=false:=by
 unfold Num.isDig; simp; omega
theorem qJ {l:List UInt8}{i:Nat}(hi:i < l.length)(h1:(l.take i).all Num.isDig=true)(h2:Num.isDig (l.getD i 0)=true):(l.take (i+1)).all Num.isDig=true:=by
 rw [List.take_succ_eq_append_getElem hi,List.all_append,h1]
 rw [gD,gE hi] at h2
 simpa using h2
theorem qm {l:List UInt8}{i:Nat}(hi:i < l.length)(h2:Num.isDig (l.getD i 0)=false):l.all Num.isDig=false:=by
 rw [gD,gE hi] at h2
 exact List.all_eq_false.2 ⟨l[i],List.getElem_mem hi,by simpa using h2⟩
theorem Ae {l:List UInt8}(h:1000 < l.length):Num.valid l=false:=by
 unfold Num.valid
 rw [decide_eq_false (by omega: ¬ l.length<=1000)]; simp
theorem j2 {l:List UInt8}(h:1 < l.length)(h0:l.getD 0 0=48):Num.valid l=false:=by
 unfold Num.valid
 cases l with
 | nil=>rfl
 | cons a l=>
  have h0:a=48:=h0
  subst h0
  rw [decide_eq_true h]; simp
theorem p0 {l:List UInt8}(h0:l≠[])(h1:l.length<=1000)(h2:1 < l.length->l.getD 0 0≠48):Num.valid l=l.all Num.isDig:=by
 unfold Num.valid
 cases l with
 | nil=>exact absurd rfl h0
 | cons a l=>
  rw [decide_eq_true h1]
  by_cases h:1 < (a::l).length
  ·have h3:a≠48:=h2 h
   rw [decide_eq_true h]; simp [h3]
  ·rw [decide_eq_false h]; simp
theorem u8_eq {c:UInt8}:((c.toNat:Int) == 48)=true↔c=48:=by
 rw [beq_iff_eq]
 refine ⟨fun h=>UInt8.toNat_inj.1 ?_,fun h=>by rw [h]; rfl⟩
 have h48:(48:UInt8).toNat=48:=rfl
 omega
theorem bJ (l:List UInt8)(h:Heap):FW SS 139 [aa l] h (fun v h'=>v = .bool (Num.valid l)/\h'=h):=by
 by_cases hlen:l.length<=1000
 case neg=>
  refine wH l h _ (ae (fun h1=> ?_) (fun h1=>ae (fun h2=> ?_) (fun h2=> ?_)))
  ·obtain rfl:l=[]:=by simpa using h1
   exact ⟨rfl,rfl⟩
  ·exact ⟨by rw [Ae (by omega)],rfl⟩
  ·have:=dF h2; omega
 have L:=fun (hv:Num.valid l=l.all Num.isDig)=>qw l (fun mz i g=>0<=i/\i<=l.length/\mz=l.length - i.toNat/\(l.take i.toNat).all Num.isDig=true/\g=h) (fun v h'=>v = .bool (Num.valid l)/\h'=h) (by
  intro mz i; intros; rename_i g hi
  obtain ⟨h1,h2,h3,h4,rfl⟩:=hi
  refine ae (fun h5=> ?_) (fun h5=> ?_)
  ·have h5:=dT h5
   have hin:i.toNat < l.length:=by omega
   refine ⟨_,yf (h:=g) l h1 h5,ae (fun h6=> ?_) (fun h6=>⟨_,yf (h:=g) l h1 h5,ae (fun h7=> ?_) (fun h7=> ?_)⟩)⟩
   ·exact ⟨by rw [hv,qm hin (F2 (.inl (dT h6)))],rfl⟩
   ·exact ⟨by rw [hv,qm hin (F2 (.inr (dT h7)))],rfl⟩
   ·have hw:IntKind.wrap .i64 (i+1)=i+1:=ap (by omega) (by omega)
    refine qE (mz - 1) (by omega) ?_
    rw [hw]
    refine ⟨by omega,by omega,by omega,?_,rfl⟩
    rw [show (i+1).toNat=i.toNat+1 by omega]
    exact qJ hin h4 (Oc (dF h6) (dF h7))
  ·have h5:=dF h5
   refine ⟨?_,rfl⟩
   rw [hv,<-h4,List.take_of_length_le (by omega)])
 refine wH l h _ (ae (fun h1=> ?_) (fun h1=>ae (fun h2=> ?_) (fun h2=> ?_)))
 ·obtain rfl:l=[]:=by simpa using h1
  exact ⟨rfl,rfl⟩
 ·have:=dT h2; omega
 ·have h1:l≠[]:=by simpa using h1
  have hpos:=List.length_pos_iff.2 h1
  refine ae (fun h3=>⟨_,yf (h:=h) l (by omega) (by omega),ae (fun h4=> ?_) (fun h4=> ?_)⟩) (fun h3=> ?_)
  ·exact ⟨by rw [j2 (by have:=dT h3; omega) (u8_eq.1 h4)],rfl⟩
  ·exact L (p0 h1 hlen fun _ e=>by have h4:(((l.getD 0 0).toNat:Int) == 48)=false:=h4; rw [u8_eq.2 e] at h4; cases h4) l.length ⟨by omega,by omega,by simp,by simp,rfl⟩
  ·exact L (p0 h1 hlen fun e=>by have:=dF h3; omega) l.length ⟨by omega,by omega,by simp,by simp,rfl⟩
theorem bB (l:List UInt8)(h:Heap):FW SS 149 [aa l] h (fun v h'=>v = .bool (Num.valid l)/\h'=h):=by
 by_cases hlen:l.length<=1000
 case neg=>
  refine xm l h _ (ae (fun h1=> ?_) (fun h1=>ae (fun h2=> ?_) (fun h2=> ?_)))
  ·have h1:=dT h1; omega
  ·exact ⟨by rw [Ae (by omega)],rfl⟩
  ·have:=dF h2; omega
 have L:=fun (hv:Num.valid l=l.all Num.isDig)=>qB l (fun mz i g=>0<=i/\i<=l.length/\mz=l.length - i.toNat/\(l.take i.toNat).all Num.isDig=true/\g=h) (fun v h'=>v = .bool (Num.valid l)/\h'=h) (by
  intro mz i; intros; rename_i g hi
  obtain ⟨h1,h2,h3,h4,rfl⟩:=hi
  refine ae (fun h5=> ?_) (fun h5=> ?_)
  ·have h5:=dT h5
   have hin:i.toNat < l.length:=by omega
   refine ⟨_,yf (h:=g) l h1 h5,ae (fun h6=> ?_) (fun h6=>⟨_,yf (h:=g) l h1 h5,ae (fun h7=> ?_) (fun h7=> ?_)⟩)⟩
   ·exact ⟨by rw [hv,qm hin (F2 (.inl (dT h6)))],rfl⟩
   ·exact ⟨by rw [hv,qm hin (F2 (.inr (dT h7)))],rfl⟩
   ·have hw:IntKind.wrap .i64 (i+1)=i+1:=ap (by omega) (by omega)
    refine qA (mz - 1) (by omega) ?_
    rw [hw]
    refine ⟨by omega,by omega,by omega,?_,rfl⟩
    rw [show (i+1).toNat=i.toNat+1 by omega]
    exact qJ hin h4 (Oc (dF h6) (dF h7))
  ·have h5:=dF h5
   refine ⟨?_,rfl⟩
   rw [hv,<-h4,List.take_of_length_le (by omega)])
 refine xm l h _ (ae (fun h1=> ?_) (fun h1=>ae (fun h2=> ?_) (fun h2=> ?_)))
 ·have h1:=dT h1
  obtain rfl:l=[]:=List.eq_nil_of_length_eq_zero (by omega)
  exact ⟨rfl,rfl⟩
 ·have:=dT h2; omega
 ·have h1:=dF h1
  have h1:l≠[]:=fun e=>by subst e; simp at h1
  have hpos:=List.length_pos_iff.2 h1
  refine ⟨_,yf (h:=h) l (by omega) (by omega),ae (fun h4=>ae (fun h3=> ?_) (fun h3=> ?_)) (fun h4=> ?_)⟩
  ·exact ⟨by rw [j2 (by have:=dT h3; omega) (u8_eq.1 h4)],rfl⟩
  ·exact L (p0 h1 hlen fun e=>by have:=dF h3; omega) l.length ⟨by omega,by omega,by simp,by simp,rfl⟩
  ·exact L (p0 h1 hlen fun _ e=>by have h4:(((l.getD 0 0).toNat:Int) == 48)=false:=h4; rw [u8_eq.2 e] at h4; cases h4) l.length ⟨by omega,by omega,by simp,by simp,rfl⟩
theorem I7 {a b:Nat}(h:((a:Int) != b)=true):a≠b:=by
 intro e; subst e; simp at h
theorem J6 {a b:Nat}(h:((a:Int) != b)=false):a=b:=by
 by_cases e:a=b
 ·exact e
 ·exfalso
  have:(a:Int)≠b:=by omega
  simp [this] at h
theorem lI (m n:Nat)(hm:(Num.toDec m).length < 9223372036854775807)(hn:(Num.toDec n).length < 9223372036854775807)(h:Heap)(w:Wf h):FW SS 155 [aa (Num.toDec m),aa (Num.toDec n)] h (fun v h'=>v = .int .i64 (Num.cmpN m n)/\Ok h h'):=by
 have L:=fun (hl:(Num.toDec m).length=(Num.toDec n).length)=>nQ (Num.toDec m) (Num.toDec n) (fun mz i g=>0<=i/\i<=(Num.toDec m).length/\mz=(Num.toDec m).length - i.toNat/\(Num.toDec m).take i.toNat=(Num.toDec n).take i.toNat/\Ok h g) (fun v h'=>v = .int .i64 (Num.cmpN m n)/\Ok h h') (by
  intro mz i; intros; rename_i g hi
  obtain ⟨h1,h2,h3,h4,ok⟩:=hi
  refine ae (fun h5=> ?_) (fun h5=> ?_)
  ·have h5:=dT h5
   have hin:i.toNat < (Num.toDec m).length:=by omega
   have hin2:i.toNat < (Num.toDec n).length:=by omega
   have ga:(Num.toDec m)[i.toNat]?=some ((Num.toDec m).getD i.toNat 0):=by rw [gD,gE hin]; rfl
   have gb:(Num.toDec n)[i.toNat]?=some ((Num.toDec n).getD i.toNat 0):=by rw [gD,gE hin2]; rfl
   refine ⟨_,yf (h:=g) _ h1 h5,_,yf (h:=g) _ h1 (by omega),ae (fun h6=> ?_) (fun h6=> ?_)⟩
   ·refine ⟨_,yf (h:=g) _ h1 h5,_,yf (h:=g) _ h1 (by omega),ae (fun h7=> ?_) (fun h7=> ?_)⟩
    ·have h7:=dT h7
     have:=Num.val_lt_of_prefix (Num.toDec_all n) (Num.toDec_all m) hl h4 ga gb (UInt8.lt_iff_toNat_lt.2 (by omega))
     rw [Num.val_toDec,Num.val_toDec] at this
     exact ⟨by rw [Num.cmpN_lt this],(ok.room 7).room 7⟩
    ·have h7:=dF h7
     have h6:=I7 h6
     have:=Num.val_lt_of_prefix (Num.toDec_all m) (Num.toDec_all n) hl.symm h4.symm gb ga (UInt8.lt_iff_toNat_lt.2 (by omega))
     rw [Num.val_toDec,Num.val_toDec] at this
     exact ⟨by rw [Num.cmpN_gt this],(ok.room 7).room 7⟩
   ·have h6:=J6 h6
    have hw:IntKind.wrap .i64 (i+1)=i+1:=ap (by omega) (by omega)
    refine nT (mz - 1) (by omega) ?_
    rw [hw]
    refine ⟨by omega,by omega,by omega,?_,ok.room 7⟩
    rw [show (i+1).toNat=i.toNat+1 by omega,List.take_add_one,List.take_add_one,h4,ga,gb,UInt8.toNat_inj.1 h6]
  ·have h5:=dF h5
   rw [List.take_of_length_le (by omega),List.take_of_length_le (by omega)] at h4
   exact ⟨by rw [Num.toDec_inj h4,Num.cmpN_eq],ok⟩)
 refine Ca _ _ h _ (ae (fun h1=>ae (fun h2=> ?_) (fun h2=> ?_)) (fun h1=> ?_))
 ·exact ⟨by rw [Num.cmpN_lt (Num.toDec_len_lt (by have:=dT h2; omega))],Ok.refl w⟩
 ·have h1:=I7 h1
  exact ⟨by rw [Num.cmpN_gt (Num.toDec_len_lt (by have:=dF h2; omega))],Ok.refl w⟩
 ·have h1:=J6 h1
  exact L h1 (Num.toDec m).length ⟨by omega,by omega,by simp,by simp,Ok.refl w⟩
def iv (d:Nat):Value:= .int .i64 (d:Int)
theorem mV:SS.P.underlying 48=some (.slice 3):=by kernel_rfl
theorem TI:aq SS.P 3=some 1:=by kernel_rfl
theorem KF:SS.P.underlying 3=some (.int .i64):=by kernel_rfl
theorem Kv:Go.Ab.isAgg SS.P 3=false:=by kernel_rfl
noncomputable def re3:TypeInfo:=(dz SS.P 3).getD default
theorem OQ:dz SS.P 3=some re3:=by kernel_rfl
theorem Hw:re3.size=1:=by kernel_rfl
theorem Du:re3.bytes=8:=by kernel_rfl
theorem ob (l:List Nat)(i:Nat)(h:i < l.length):(l.map iv).getD i undef = .int .i64 (l.getD i 0:Nat):=by
 simp [gD,List.getElem?_map,gE h,iv]
theorem pU {h:Heap}{a:Option Addr}{n c:Nat}{l:List Nat}(r:Rd h 3 (.slice a n c) (l.map iv))(i:Nat):FW SS 152 [.slice a n c,.int .i64 (i:Int)] h (fun v h'=>v = .int .i64 (l.getD i 0:Nat)/\h'=h):=by
 have hn:=r.len
 rw [lM] at hn
 refine Pi a n c i h _ (ae (fun h1=> ?_) (fun h1=> ?_))
 ·have h1:=dT h1
  obtain ⟨p,h2,h3⟩:=r.at_ mV TI KF Kv (k:= .i64) (i:=(i:Int)) (by omega) (by rw [lM]; omega)
  rw [Int.toNat_natCast,ob l i (by omega)] at h3
  exact ⟨p,h2,_,h3,rfl,rfl⟩
 ·have h1:=dF h1
  refine ⟨?_,rfl⟩
  rw [gD,List.getElem?_eq_none (by omega)]; rfl
noncomputable def fq:Code:=(Tryz.f156.body).getD .skip
noncomputable def CI (Q:VH):aj:=cE SS Tryz.f156.results.toList Q
def vA:List Nat:=[0,1,5,6,7]
noncomputable def DR (p:List Nat)(w:LV)(h:Heap)(Q:aj):Prop:=bp SS Tryz.f156.ntmps vA (aP p fq) w h Q
noncomputable def D5 (p b:List Nat)(K:aj):aj:=ky SS Tryz.f156.ntmps vA p (aP b fq) K
abbrev Nm (a:OA)(n c:Nat)(b:OA)(m d:Nat)(h:Heap)(Q:VH):Prop:=DR [1,1,1,0,1,0,0] [(.slice a n c),(.slice b m d),nA,(.int .i64 0),(.int .i64 0)] h (D5 [1,1,1,0,1,0] [] (CI Q))
theorem JB (a:OA)(n c:Nat)(b:OA)(m d:Nat)(h:Heap)(Q:VH)(hx:Nm a n c b m d h Q):FW SS 156 [(.slice a n c),(.slice b m d)] h Q:=ax (M:=vA) (c:=fq) Tryz.func156 (show Tryz.f156.body=some fq by kernel_rfl) (by kernel_rfl) (ai hx (by kernel_rfl))
abbrev iF (a:OA)(n c:Nat)(b:OA)(m d:Nat)  (k:Nat) (cc:Nat) (r:OA) (rn:Nat) (rc:Nat)  : LV:=[(.slice a n c),(.slice b m d),(.slice r rn rc),(iA cc),(iA k)]
def eO (a:OA)(n c:Nat)(b:OA)(m d:Nat)  (Inv:Nat->Nat->Nat->OA->Nat->Nat->Heap->Prop) (mz:Nat) (w:LV) (h:Heap):Prop:= ∃ (k:Nat)(cc:Nat)(r:OA)(rn:Nat)(rc:Nat) ,w=(iF a n c b m d k cc r rn rc )/\Inv mz k cc r rn rc h
abbrev yh (a:OA)(n c:Nat)(b:OA)(m d:Nat)  (Inv:Nat->Nat->Nat->OA->Nat->Nat->Heap->Prop) (Q:VH) (mz:Nat) (k:Nat) (cc:Nat) (r:OA) (rn:Nat) (rc:Nat)  (zz:Nat->Value) (h:Heap):Prop:=aw (decide (((k:Int):Int) < (n:Int))) (FW SS 152 [(.slice a n c),(iA k)] h fun v1 h2=>yI .i64 v1 fun n3=>FW SS 152 [(.slice b m d),(iA k)] h2 fun v4 h5=>yI .i64 v4 fun n6=>aw (decide ((IntKind.wrap .i64 (IntKind.wrap .i64 (n3 - n6) - (cc:Int)):Int) < 0)) (xR (ay SS.P 48 1 [(0,(.int .i64 (IntKind.wrap .i64 (IntKind.wrap .i64 (IntKind.wrap .i64 (n3 - n6) - (cc:Int))+10))))]) h5 fun B7 n8 c9 g10=>xE (aB SS.P 48 48 (.slice r rn rc) (sA (h5.next) n8 c9) g10) g10 fun a11 n12 c13 u14 g15=>ak (eO a n c b m d Inv) mz [(.slice a n c),(.slice b m d),(.slice a11 n12 c13),(.int .i64 1),(.int .i64 (IntKind.wrap .i64 ((k:Int)+1)))] g15) (xR (ay SS.P 48 1 [(0,(.int .i64 (IntKind.wrap .i64 (IntKind.wrap .i64 (n3 - n6) - (cc:Int)))))]) h5 fun B16 n17 c18 g19=>xE (aB SS.P 48 48 (.slice r rn rc) (sA (h5.next) n17 c18) g19) g19 fun a20 n21 c22 u23 g24=>ak (eO a n c b m d Inv) mz [(.slice a n c),(.slice b m d),(.slice a20 n21 c22),(.int .i64 0),(.int .i64 (IntKind.wrap .i64 ((k:Int)+1)))] g24)) (Q (.slice r rn rc) h)
theorem jc {a:OA}{n c:Nat}{b:OA}{m d:Nat}  {Inv:Nat->Nat->Nat->OA->Nat->Nat->Heap->Prop} {mz:Nat} (mq:Nat) {k:Nat} {cc:Nat} {r:OA} {rn:Nat} {rc:Nat}  {h:Heap} (hm:mq < mz) (hi:Inv mq k cc r rn rc h):ak (eO a n c b m d Inv) mz (iF a n c b m d k cc r rn rc ) h:=⟨mq,hm,k,cc,r,rn,rc,rfl,hi⟩
theorem sn (a:OA)(n c:Nat)(b:OA)(m d:Nat)  (Inv:Nat->Nat->Nat->OA->Nat->Nat->Heap->Prop) (Q:VH) (step: ∀ (mz:Nat)(k:Nat)(cc:Nat)(r:OA)(rn:Nat)(rc:Nat)  (zz:Nat->Value) (h:Heap),Inv mz k cc r rn rc h->yh a n c b m d Inv Q mz k cc r rn rc  zz h) (mz:Nat) {k:Nat} {cc:Nat} {r:OA} {rn:Nat} {rc:Nat}  {h:Heap} (hi:Inv mz k cc r rn rc h):DR [1,1,1,0,1,0,0] (iF a n c b m d k cc r rn rc ) h (D5 [1,1,1,0,1,0] [] (CI Q)):=
 an (A:=(eO a n c b m d Inv)) (show aF Tryz.f156.ntmps (aP [1,1,1,0,1,0,0] fq)=true by kernel_rfl) (fun mz w zz h ⟨k,cc,r,rn,rc,hw,hi⟩=>by subst hw; exact ai (step mz k cc r rn rc  zz h hi) (by kernel_rfl)) mz _ h ⟨k,cc,r,rn,rc,rfl,hi⟩ (fun zz=>by kernel_rfl) (by kernel_rfl)
noncomputable def dZ:Code:=(Tryz.f154.body).getD .skip
noncomputable def me (Q:VH):aj:=cE SS Tryz.f154.results.toList Q
def vv:List Nat:=[0,3,4,5]
noncomputable def ma (p:List Nat)(w:LV)(h:Heap)(Q:aj):Prop:=bp SS Tryz.f154.ntmps vv (aP p dZ) w h Q
noncomputable def mg (p b:List Nat)(K:aj):aj:=ky SS Tryz.f154.ntmps vv p (aP b dZ) K
abbrev LF (a:OA)(n c:Nat)(h:Heap)(Q:VH):Prop:=ma [1,1,0,0,0] [(.slice a n c),(iA n),undef,undef] h (mg [1,1,0,0] [] (me Q))
theorem IM (a:OA)(n c:Nat)(h:Heap)(Q:VH)(hx:LF a n c h Q):FW SS 154 [(.slice a n c)] h Q:=ax (M:=vv) (c:=dZ) Tryz.func154 (show Tryz.f154.body=some dZ by kernel_rfl) (by kernel_rfl) (ai hx (by kernel_rfl))
abbrev iD (a:OA)(n c:Nat)  (z:Int) (y4 y5:Value):LV:=[(.slice a n c),(.int .i64 z),y4,y5]
def iI (a:OA)(n c:Nat)  (Inv:Nat->Int->Heap->Prop) (mz:Nat) (w:LV) (h:Heap):Prop:= ∃ (z:Int)(y4 y5:Value),w=(iD a n c z y4 y5)/\Inv mz z h
abbrev yn (a:OA)(n c:Nat)  (Inv:Nat->Int->Heap->Prop) (Q:VH) (mz:Nat) (z:Int) (y4 y5:Value) (zz:Nat->Value) (h:Heap):Prop:=aw (decide ((z:Int) > 1)) (xP (af SS.P 48 (.slice a n c) (.int .i64 (IntKind.wrap .i64 (z - 1)))) fun p1=>xI .i64 (ah SS.P 3 h (.pointer (some p1))) fun n2=>aw (((n2:Int) == 0)) (ak (iI a n c Inv) mz [(.slice a n c),(.int .i64 (IntKind.wrap .i64 (z - 1))),y4,y5] h) (ma [1,1,1,1,0,1,0,0] [(.slice a n c),(.int .i64 z),nA,(.int .i64 (IntKind.wrap .i64 (z - 1)))] h (mg [1,1,1,1,0,1,0] [] (me Q)))) (ma [1,1,1,1,0,1,0,0] [(.slice a n c),(.int .i64 z),nA,(.int .i64 (IntKind.wrap .i64 (z - 1)))] h (mg [1,1,1,1,0,1,0] [] (me Q)))
theorem ry {a:OA}{n c:Nat}  {Inv:Nat->Int->Heap->Prop} {mz:Nat} (mq:Nat) {z:Int} {y4 y5:Value} {h:Heap} (hm:mq < mz) (hi:Inv mq z h):ak (iI a n c Inv) mz (iD a n c z y4 y5) h:=⟨mq,hm,z,y4,y5,rfl,hi⟩
theorem rF (a:OA)(n c:Nat)  (Inv:Nat->Int->Heap->Prop) (Q:VH) (step: ∀ (mz:Nat)(z:Int)(y4 y5:Value)(zz:Nat->Value)(h:Heap),Inv mz z h->yn a n c Inv Q mz z y4 y5 zz h) (mz:Nat) {z:Int} {y4 y5:Value} {h:Heap} (hi:Inv mz z h):ma [1,1,0,0,0] (iD a n c z y4 y5) h (mg [1,1,0,0] [] (me Q)):=
 an (A:=(iI a n c Inv)) (show aF Tryz.f154.ntmps (aP [1,1,0,0,0] dZ)=true by kernel_rfl) (fun mz w zz h ⟨z,y4,y5,hw,hi⟩=>by subst hw; exact ai (step mz z y4 y5 zz h hi) (by kernel_rfl)) mz _ h ⟨z,y4,y5,rfl,hi⟩ (fun zz=>by kernel_rfl) (by kernel_rfl)
abbrev iB (a:OA)(n c:Nat)  (i:Int) (r:OA) (rn:Nat) (rc:Nat) (y3:Value):LV:=[(.slice a n c),y3,(.slice r rn rc),(.int .i64 i)]
def iC (a:OA)(n c:Nat)  (Inv:Nat->Int->OA->Nat->Nat->Heap->Prop) (mz:Nat) (w:LV) (h:Heap):Prop:= ∃ (i:Int)(r:OA)(rn:Nat)(rc:Nat)(y3:Value),w=(iB a n c i r rn rc y3)/\Inv mz i r rn rc h
abbrev yc (a:OA)(n c:Nat)  (Inv:Nat->Int->OA->Nat->Nat->Heap->Prop) (Q:VH) (mz:Nat) (i:Int) (r:OA) (rn:Nat) (rc:Nat) (y3:Value) (zz:Nat->Value) (h:Heap):Prop:=aw (decide ((i:Int)>=0)) (xP (af SS.P 48 (.slice a n c) (.int .i64 i)) fun p3=>xI .i64 (ah SS.P 3 h (.pointer (some p3))) fun n4=>xR (ay SS.P 157 1 [(0,(.int .u8 (IntKind.wrap .u8 (IntKind.wrap .i64 (48+n4)))))]) h fun B5 n6 c7 g8=>xE (aB SS.P 157 157 (.slice r rn rc) (sA (h.next) n6 c7) g8) g8 fun a9 n10 c11 u12 g13=>ak (iC a n c Inv) mz [(.slice a n c),y3,(.slice a9 n10 c11),(.int .i64 (IntKind.wrap .i64 (i - 1)))] g13) (aw ((((rn:Int):Int) == 0)) (Q (aa [48]) h) (xS (xZ SS.P 157 9 (.slice r rn rc) h) fun l14=>Q (aa l14) h))
theorem rx {a:OA}{n c:Nat}  {Inv:Nat->Int->OA->Nat->Nat->Heap->Prop} {mz:Nat} (mq:Nat) {i:Int} {r:OA} {rn:Nat} {rc:Nat} {y3:Value} {h:Heap} (hm:mq < mz) (hi:Inv mq i r rn rc h):ak (iC a n c Inv) mz (iB a n c i r rn rc y3) h:=⟨mq,hm,i,r,rn,rc,y3,rfl,hi⟩
theorem rZ (a:OA)(n c:Nat)  (Inv:Nat->Int->OA->Nat->Nat->Heap->Prop) (Q:VH) (step: ∀ (mz:Nat)(i:Int)(r:OA)(rn:Nat)(rc:Nat)(y3:Value)(zz:Nat->Value)(h:Heap),Inv mz i r rn rc h->yc a n c Inv Q mz i r rn rc y3 zz h) (mz:Nat) {i:Int} {r:OA} {rn:Nat} {rc:Nat} {y3:Value} {h:Heap} (hi:Inv mz i r rn rc h):ma [1,1,1,1,0,1,0,0] (iB a n c i r rn rc y3) h (mg [1,1,1,1,0,1,0] [] (me Q)):=
 an (A:=(iC a n c Inv)) (show aF Tryz.f154.ntmps (aP [1,1,1,1,0,1,0,0] dZ)=true by kernel_rfl) (fun mz w zz h ⟨i,r,rn,rc,y3,hw,hi⟩=>by subst hw; exact ai (step mz i r rn rc y3 zz h hi) (by kernel_rfl)) mz _ h ⟨i,r,rn,rc,y3,rfl,hi⟩ (fun zz=>by kernel_rfl) (by kernel_rfl)
end Go.Proofs.YtoabjjimjldcfaaGreatDoor
end
section
namespace Go.Num
def subL (B q:Nat)(u v:List Nat):Nat->Nat->Nat->Nat->List Nat×Nat×Nat
 | _,0,b,c=>([],b,c)
 | i,k+1,b,c=>
  let s:=qy B q (u.getD i 0) (v.getD i 0) b c
  let r:=subL B q u v (i+1) k s.2.1 s.2.2
  (s.1::r.1,r.2)
theorem subL_len (B q:Nat)(u v:List Nat): ∀ k i b c,(subL B q u v i k b c).1.length=k
 | 0,_,_,_=>rfl
 | k+1,i,b,c=>by simp [subL,subL_len B q u v k]
theorem subL_lt {B q:Nat}(hB:1 < B)(u v:List Nat): ∀ k i b c,∀ d∈(subL B q u v i k b c).1,d < B
 | 0,_,_,_=>by simp [subL]
 | k+1,i,b,c=>by
  intro d hd
  simp only [subL] at hd
  rcases List.mem_cons.1 hd with rfl | hd
  ·exact Nat.mod_lt _ (by omega)
  ·exact subL_lt hB u v k _ _ _ d hd
theorem uk (b:Nat)(x:List Nat)(i k:Nat):bv b ((x.drop i).take (k+1))=x.getD i 0+b*bv b ((x.drop (i+1)).take k):=by
 rcases Nat.lt_or_ge i x.length with h | h
 ·rw [List.drop_eq_getElem_cons h,List.take_succ_cons,bv,gD,gE h]; rfl
 ·rw [List.drop_eq_nil_of_le h,List.drop_eq_nil_of_le (by omega),gD,List.getElem?_eq_none h]; simp [bv]
theorem FM {B q:Nat}(hB:1 < B){u v:List Nat}(hu: ∀ d∈u,d < B): ∀ k i b c,b<=1->
  bv B ((u.drop i).take k)+B ^ k*((subL B q u v i k b c).2.1+(subL B q u v i k b c).2.2)=bv B (subL B q u v i k b c).1+q*bv B ((v.drop i).take k)+(b+c)/\(subL B q u v i k b c).2.1<=1
 | 0,i,b,c,hb=>by simp [subL,bv,hb]
 | k+1,i,b,c,hb=>by
  obtain ⟨s1,s2,s3⟩:=OH (B:=B) (q:=q) (u:=u.getD i 0) (v:=v.getD i 0) (borrow:=b) (carry:=c) hB (getD_lt (by omega) hu i) hb
  obtain ⟨ih,ih2⟩:=FM hB (q:=q) (v:=v) hu k (i+1) _ (qy B q (u.getD i 0) (v.getD i 0) b c).2.2 s2
  rw [uk,uk]
  simp only [subL,bv]
  refine ⟨?_,ih2⟩
  have e:=congrArg (B * ·) ih
  simp only [Nat.mul_add] at e s1 ⊢
  have e1: ∀ z,B ^ (k+1)*z=B*(B ^ k*z):=fun z=>by rw [Nat.pow_succ,Nat.mul_comm (B ^ k),Nat.mul_assoc]
  have e2:q*(B*bv B ((v.drop (i+1)).take k))=B*(q*bv B ((v.drop (i+1)).take k)):=by rw [Nat.mul_left_comm]
  rw [e1,e1,e2]
  omega
theorem Cw {B:Nat}{l:List Nat}{n:Nat}(h:l.length=n):bv B (l.take n)=bv B l:=by rw [List.take_of_length_le (by omega)]
theorem Np {B q:Nat}(hB:1 < B){u v:List Nat}{n:Nat}(hu: ∀ d∈u,d < B)(hul:u.length=n+1)(hvl:v.length=n):
  (subL B q u v 0 (n+1) 0 0).2.2=0->((subL B q u v 0 (n+1) 0 0).2.1=0->bv B u=bv B (subL B q u v 0 (n+1) 0 0).1+q*bv B v)/\
  ((subL B q u v 0 (n+1) 0 0).2.1≠0->bv B u+B ^ (n+1)=bv B (subL B q u v 0 (n+1) 0 0).1+q*bv B v/\bv B u < q*bv B v):=by
 intro hc
 obtain ⟨e,hb⟩:=FM hB (q:=q) (v:=v) hu (n+1) 0 0 0 (by omega)
 rw [List.drop_zero,List.drop_zero,Cw hul,List.take_of_length_le (by omega:v.length<=n+1),hc] at e
 refine ⟨fun h0=> ?_,fun h0=> ?_⟩
 ·rw [h0] at e; omega
 ·have hb1:(subL B q u v 0 (n+1) 0 0).2.1=1:=by omega
  rw [hb1,Nat.mul_one] at e
  have hlt:=bv_lt (subL_lt (q:=q) hB u v (n+1) 0 0 0)
  rw [subL_len] at hlt
  omega
theorem zL {B q:Nat}(hB:1 < B){u v:List Nat}(hq:q < B)(hv: ∀ d∈v,d < B): ∀ k i b c,c < B->v.length<=i+k->0 < k->v.length < i+k->(subL B q u v i k b c).2.2=0
 | 0,_,_,_,_,_,h,_=>by omega
 | 1,i,b,c,hc,_,_,hl=>by
  simp only [subL,qy]
  have:v.getD i 0=0:=by rw [gD,List.getElem?_eq_none (by omega)]; rfl
  rw [this,Nat.mul_zero,Nat.zero_add]
  exact Nat.div_eq_of_lt hc
 | k+2,i,b,c,hc,_,_,hl=>by
  have h2:=getD_lt (by omega) hv i
  simp only [subL]
  have:=zL hB (u:=u) hq hv (k+1) (i+1) (qy B q (u.getD i 0) (v.getD i 0) b c).2.1 (qy B q (u.getD i 0) (v.getD i 0) b c).2.2 (by
   show (q*v.getD i 0+c) / B < B
   refine Nat.div_lt_of_lt_mul ?_
   have h3:q*v.getD i 0<=(B - 1)*(B - 1):=Nat.mul_le_mul (by omega) (by omega)
   have h4:(B - 1)*(B - 1)+(B - 1)=(B - 1)*B:=by rw [<-Nat.mul_succ]; congr 1; omega
   have h5:(B - 1)*B+B=B*B:=by rw [<-Nat.succ_mul]; congr 1; omega
   omega) (by omega) (by omega) (by omega)
  simpa only [subL] using this
theorem P9 {B:Nat}(hB:1 < B){u v:List Nat}{n Q V U:Nat}(hu: ∀ d∈u,d < B)(hv: ∀ d∈v,d < B)(hul:u.length=n+1)(hvl:v.length=n)(h1:U+B ^ (n+1)=bv B u+(Q+1)*V)(h2:U < (Q+1)*V)(h3:(Q+1)*V < U+V)(hV:V=bv B v):
  bv B ((eachF (plusF B) u v 0 (n+1) 0))+Q*V=U:=by
 have hs:=plus_bv hB (x:=u) (y:=v) hu hv (n+2) 0 0 (by omega) (by omega) (by omega) (by omega)
 simp only [List.drop_zero,Nat.add_zero] at hs
 have split: ∀ k i c,eachF (plusF B) u v i (k+1) c=eachF (plusF B) u v i k c++(eachF (plusF B) u v i (k+1) c).drop k:=by
  intro k
  induction k with
  | zero=>intro i c; simp [eachF]
  | succ k ih=>
   intro i c
   have:=ih (i+1) (plusF B (u.getD i 0) (v.getD i 0) c).2
   show _::eachF (plusF B) u v (i+1) (k+1) _=(_::eachF (plusF B) u v (i+1) k _)++(_::eachF (plusF B) u v (i+1) (k+1) _).drop (k+1)
   rw [List.cons_append,List.drop_succ_cons]
   exact congrArg _ this
 rw [split (n+1) 0 0,ef,eachF_len] at hs
 have hlt:=bv_lt (eachF_lt (b:=B) (F:=plusF B) (fun p q c=>Nat.mod_lt _ (by omega)) u v (n+1) 0 0)
 rw [eachF_len] at hlt
 rw [Nat.add_mul,Nat.one_mul] at h1 h2 h3
 have hul':=bv_lt hu
 rw [hul] at hul'
 have hvl':=bv_lt hv
 rw [hvl] at hvl'
 have hpow:B ^ n<=B ^ (n+1):=Nat.pow_le_pow_right (by omega) (by omega)
 have key:bv B ((eachF (plusF B) u v 0 (n+1+1) 0).drop (n+1))=1:=by
  generalize bv B ((eachF (plusF B) u v 0 (n+1+1) 0).drop (n+1))=z at hs
  rcases Nat.lt_trichotomy z 1 with hz | hz | hz
  ·have:z=0:=by omega
   subst this
   rw [Nat.mul_zero] at hs
   omega
  ·exact hz
  ·have:=Nat.mul_le_mul_left (B ^ (n+1)) hz
   rw [Nat.mul_succ,Nat.mul_one] at this
   omega
 rw [key,Nat.mul_one] at hs
 omega
theorem JW {B:Nat}: ∀ (l:List Nat)(i d:Nat),i < l.length->bv B (l.set i d)+B ^ i*l.getD i 0=bv B l+B ^ i*d
 | [],i,d,h=>by simp at h
 | a::l,0,d,_=>by simp [bv]; omega
 | a::l,i+1,d,h=>by
  have ih:=congrArg (B * ·) (JW (B:=B) l i d (by simpa using h))
  simp only [List.set_cons_succ,bv,List.getD_cons_succ,Nat.pow_succ,Nat.mul_add] at ih ⊢
  have e: ∀ z,B ^ i*B*z=B*(B ^ i*z):=fun z=>by rw [Nat.mul_comm (B ^ i),Nat.mul_assoc]
  rw [e,e]; omega
theorem O1 {B:Nat}{l:List Nat}(h: ∀ d∈l,d < B){i d:Nat}(hd:d < B): ∀ x∈l.set i d,x < B:=fun x hx=>by
 rcases List.mem_or_eq_of_mem_set hx with h1 | h1
 ·exact h x h1
 ·rw [h1]; exact hd
theorem nL {B n:Nat}(_:1 < B): ∀ {l:List Nat},bv B l < B ^ n->bv B (l.drop n)=0
 | l,h=>by
  rcases Nat.lt_or_ge n l.length with h1 | h1
  ·have e:=ef B (l.take n) (l.drop n)
   rw [List.take_append_drop,List.length_take,Nat.min_eq_left (by omega)] at e
   rcases Nat.eq_zero_or_pos (bv B (l.drop n)) with h2 | h2
   ·exact h2
   ·have:=Nat.mul_le_mul_left (B ^ n) h2
    rw [Nat.mul_one] at this
    omega
  ·rw [List.drop_eq_nil_of_le h1]; rfl
theorem zI (B:Nat)(l:List Nat)(n:Nat):bv B l=bv B (l.take n)+B ^ (min n l.length)*bv B (l.drop n):=by
 have e:=ef B (l.take n) (l.drop n)
 rwa [List.take_append_drop,List.length_take] at e
structure DivInv (B n V XK:Nat)(u q:List Nat)(j:Nat):Prop where
 ul: ∀ d∈u,d < B
 ql: ∀ d∈q,d < B
 len:u.length=q.length+n
 jle:j<=q.length
 lo:bv B (u.drop j) < V
 eq:XK=bv B u+V*bv B q
 qz: ∀ i,i < j->q.getD i 0=0
theorem DivInv.window {B n V XK:Nat}{u q:List Nat}{at':Nat}(hB:1 < B)(hV:V<=B ^ n)(h:DivInv B n V XK u q (at'+1)):
  bv B ((u.drop at').take (n+1))=bv B (u.drop at')/\bv B ((u.drop at').take (n+1)) < B*V/\((u.drop at').take (n+1)).length=n+1:=by
 have hl:=h.len
 have hj:=h.jle
 have h1:bv B (u.drop at')=u.getD at' 0+B*bv B (u.drop (at'+1)):=bv_drop B u at'
 have h2:=getD_lt (by omega) h.ul at'
 have h3:=h.lo
 have h4:bv B (u.drop at') < B*V:=by
  have:=Nat.mul_le_mul_left B (Nat.succ_le_of_lt h3)
  rw [Nat.mul_succ] at this
  omega
 have h5:bv B ((u.drop at').drop (n+1))=0:=by
  refine nL hB (Nat.lt_of_lt_of_le h4 ?_)
  rw [Nat.pow_succ,Nat.mul_comm]
  exact Nat.mul_le_mul_right B hV
 have h6:=zI B (u.drop at') (n+1)
 rw [h5,Nat.mul_zero,Nat.add_zero] at h6
 refine ⟨h6.symm,by omega,?_⟩
 rw [List.length_take,List.length_drop]; omega
theorem DivInv.step {B n V XK:Nat}{u q w:List Nat}{at' d:Nat}(hB:1 < B)(hV:V<=B ^ n)(h:DivInv B n V XK u q (at'+1))(hw: ∀ x∈w,x < B)(hwl:w.length=n+1)(hd:d < B)
  (he:bv B ((u.drop at').take (n+1))=bv B w+d*V) (hlt:bv B w < V):DivInv B n V XK (u.take at'++w++u.drop (at'+(n+1))) (q.set at' d) at':=by
 have hl:=h.len
 have hj:=h.jle
 obtain ⟨w1,w2,w3⟩:=h.window hB hV
 have hz:bv B (u.drop (at'+(n+1)))=0:=by
  rw [<-List.drop_drop]
  refine nL hB ?_
  rw [<-w1]
  refine Nat.lt_of_lt_of_le w2 ?_
  rw [Nat.pow_succ,Nat.mul_comm]
  exact Nat.mul_le_mul_right B hV
 have htl:(u.take at').length=at':=by rw [List.length_take]; omega
 have hdrop:(u.take at'++w++u.drop (at'+(n+1))).drop at'=w++u.drop (at'+(n+1)):=by
  rw [List.append_assoc,List.drop_append_of_le_length (by omega),List.drop_of_length_le (by omega),List.nil_append]
 refine ⟨?_,O1 h.ql hd,?_,by rw [List.length_set]; omega,?_,?_,?_⟩
 ·intro x hx
  simp only [List.mem_append] at hx
  rcases hx with (hx | hx) | hx
  ·exact h.ul x (List.mem_of_mem_take hx)
  ·exact hw x hx
  ·exact h.ul x (List.mem_of_mem_drop hx)
 ·rw [List.length_append,List.length_append,htl,hwl,List.length_drop,List.length_set]; omega
 ·rw [hdrop,ef,hz,Nat.mul_zero,Nat.add_zero]; exact hlt
 ·have e1:=ef B (u.take at') (u.drop at')
  rw [List.take_append_drop,htl,<-w1,he] at e1
  have e2:bv B (u.take at'++w++u.drop (at'+(n+1)))=bv B (u.take at')+B ^ at'*bv B w:=by
   rw [List.append_assoc,ef,ef,hz,htl,Nat.mul_zero,Nat.add_zero]
  have e3:=JW (B:=B) q at' d (by omega)
  rw [h.qz at' (by omega),Nat.mul_zero,Nat.add_zero] at e3
  rw [h.eq,e1,e2,e3,Nat.mul_add,Nat.mul_add]
  have e4:B ^ at'*(d*V)=V*(B ^ at'*d):=by rw [Nat.mul_comm V,Nat.mul_assoc]
  omega
 ·intro i hi
  have:=h.qz i (by omega)
  rw [gD] at this ⊢
  rw [List.getElem?_set_ne (by omega)]
  exact this
theorem DivInv.done {B n V XK:Nat}{u q:List Nat}(h:DivInv B n V XK u q 0):bv B q=XK / V/\bv B u=XK % V:=by
 have h1:=h.lo
 rw [List.drop_zero] at h1
 rw [h.eq]
 constructor
 ·rw [Nat.add_comm,Nat.mul_add_div (by omega),Nat.div_eq_of_lt h1]; rfl
 ·rw [Nat.add_comm,Nat.mul_add_mod,Nat.mod_eq_of_lt h1]
theorem DivInv.start {B n m k X Y:Nat}{u:List Nat}(hB:1 < B)(hu: ∀ d∈u,d < B)(hul:u.length=m+1)(hn:n<=m)(hX:X < B ^ m)(hY:B ^ (n - 1)<=Y)(hn0:0 < n)(hk:0 < k)(he:bv B u=X*k):DivInv B n (Y*k) (X*k) u (List.replicate (m+1 - n) 0) (m+1 - n):=by
 refine ⟨hu,fun d hd=>by rw [(List.mem_replicate.1 hd).2]; omega,by rw [List.length_replicate]; omega,by rw [List.length_replicate]; exact Nat.le_refl _,?_,?_,fun i hi=> ?_⟩
 ·have h1:=zI B u (m+1 - n)
  rw [he,Nat.min_eq_left (by omega)] at h1
  rcases Nat.lt_or_ge (bv B (u.drop (m+1 - n))) (Y*k) with h2 | h2
  ·exact h2
  ·have h3:=Nat.mul_le_mul_left (B ^ (m+1 - n)) h2
   have h4:B ^ m*k<=B ^ (m+1 - n)*(Y*k):=by
    have e:B ^ m=B ^ (m+1 - n)*B ^ (n - 1):=by rw [<-Nat.pow_add]; congr 1; omega
    rw [e,Nat.mul_assoc]
    exact Nat.mul_le_mul_left _ (Nat.mul_le_mul_right k hY)
   have h5:X*k < B ^ m*k:=Nat.mul_lt_mul_of_pos_right hX hk
   omega
 ·have:bv B (List.replicate (m+1 - n) 0)=0:=by
   induction (m+1 - n) with
   | zero=>rfl
   | succ j ih=>rw [List.replicate_succ,bv,ih]; rfl
  rw [this,he,Nat.mul_zero,Nat.add_zero]
 ·rw [gD,List.getElem?_replicate]; split <;> rfl
theorem mul_div_mul_k {X Y k:Nat}(hk:0 < k):X*k / (Y*k)=X / Y/\X*k % (Y*k)=X % Y*k:=
 ⟨Nat.mul_div_mul_right X Y hk,Nat.mul_mod_mul_right k X Y⟩
theorem Iz {B k left a:Nat}(hk:0 < k)(hl:left < k)(ha:a < B):(left*B+a) / k < B/\(left*B+a) % k < k/\(left*B+a) / k*k+(left*B+a) % k=left*B+a:=by
 refine ⟨Nat.div_lt_of_lt_mul ?_,Nat.mod_lt _ hk,by rw [Nat.mul_comm]; exact Nat.div_add_mod _ _⟩
 have:=Nat.mul_le_mul_right B (Nat.succ_le_of_lt hl)
 rw [Nat.succ_mul] at this
 omega
structure SmallInv (B k R:Nat)(r:List Nat)(j left:Nat):Prop where
 rl: ∀ d∈r,d < B
 jle:j<=r.length
 lt:left < k
 eq:bv B (r.drop j)*k*B ^ j+left*B ^ j+bv B (r.take j)=R
theorem SmallInv.step {B k R:Nat}{r:List Nat}{at' left:Nat}(hk:0 < k)(h:SmallInv B k R r (at'+1) left):SmallInv B k R (r.set at' ((left*B+r.getD at' 0) / k)) at' ((left*B+r.getD at' 0) % k):=by
 have hj:=h.jle
 have hB:0 < B:=by
  have:=h.rl (r.getD at' 0) (by
   rw [gD,gE (by omega)]
   exact List.getElem_mem _)
  omega
 obtain ⟨s1,s2,s3⟩:=Iz (B:=B) hk h.lt (getD_lt hB h.rl at')
 refine ⟨O1 h.rl s1,by rw [List.length_set]; omega,s2,?_⟩
 rw [List.take_set_of_le (by omega),bv_drop,List.drop_set_of_lt (by omega)]
 have e1:(r.set at' ((left*B+r.getD at' 0) / k)).getD at' 0=(left*B+r.getD at' 0) / k:=by
  rw [gD,List.getElem?_set_self (by omega)]; rfl
 rw [e1,<-h.eq]
 have e2:bv B (r.take (at'+1))=bv B (r.take at')+B ^ at'*r.getD at' 0:=by
  rw [List.take_succ_eq_append_getElem (by omega),bv_snoc,List.length_take,Nat.min_eq_left (by omega),gD,gE (by omega)]; rfl
 rw [e2,Nat.pow_succ]
 generalize bv B (r.drop (at'+1))=D at *
 generalize r.getD at' 0=a at *
 generalize (left*B+a) / k=dq at *
 generalize (left*B+a) % k=dr at *
 have g1:(dq+B*D)*k*B ^ at'=dq*k*B ^ at'+D*k*(B ^ at'*B):=by
  rw [Nat.add_mul,Nat.add_mul]
  congr 1
  rw [Nat.mul_comm B D,Nat.mul_assoc D B k,Nat.mul_comm B k,<-Nat.mul_assoc,Nat.mul_assoc (D*k) B,Nat.mul_comm B (B ^ at')]
 have g2:dq*k*B ^ at'+dr*B ^ at'=left*(B ^ at'*B)+a*B ^ at':=by
  rw [<-Nat.add_mul,s3,Nat.add_mul,Nat.mul_assoc,Nat.mul_comm B]
 rw [g1,Nat.mul_comm (B ^ at') a]
 omega
theorem SmallInv.done {B k R:Nat}{r:List Nat}{left:Nat}(hk:0 < k)(h:SmallInv B k R r 0 left):bv B r=R / k:=by
 have e:=h.eq
 simp only [List.drop_zero,Nat.pow_zero,Nat.mul_one,List.take_zero,bv,Nat.add_zero] at e
 rw [<-e,Nat.mul_comm,Nat.mul_add_div hk,Nat.div_eq_of_lt h.lt]; rfl
section
theorem sy (B:Nat)(l:List Nat)(i:Nat)(h:i<=l.length):bv B l=bv B (l.take i)+B ^ i*bv B (l.drop i):=by
 have:=zI B l i
 rwa [Nat.min_eq_left h] at this
theorem iS {B:Nat}{l:List Nat}{i:Nat}(h:l.length=i+1):bv B (l.drop i)=l.getD i 0:=by
 rw [bv_drop,List.drop_eq_nil_of_le (by omega)]; rfl
theorem il {B:Nat}{l:List Nat}{i:Nat}(h:l.length=i+2):bv B (l.drop i)=l.getD (i+1) 0*B+l.getD i 0:=by
 rw [bv_drop,iS (by omega),Nat.mul_comm]; omega
theorem qS {B:Nat}{l:List Nat}{i:Nat}(h:l.length=i+3):bv B (l.drop i)=(l.getD (i+2) 0*B+l.getD (i+1) 0)*B+l.getD i 0:=by
 rw [bv_drop,il (by omega),Nat.mul_comm B,show i+1+1=i+2 by omega]; omega
structure Trial (B n:Nat)(u v:List Nat)(q rest:Nat):Prop where
 eq:q*v.getD (n - 1) 0+rest=u.getD n 0*B+u.getD (n - 1) 0
 hi:bv B u < (q+1)*bv B v
section
variable {B n:Nat} {u v:List Nat} {q rest:Nat}
theorem Trial.start (hB:1 < B)(hul:u.length=n+1)(hvl:v.length=n)(hn:0 < n)(hu: ∀ d∈u,d < B)(h0:0 < v.getD (n - 1) 0):Trial B n u v ((u.getD n 0*B+u.getD (n - 1) 0) / v.getD (n - 1) 0) ((u.getD n 0*B+u.getD (n - 1) 0) % v.getD (n - 1) 0):=by
 refine ⟨by rw [Nat.mul_comm]; exact Nat.div_add_mod _ _,?_⟩
 have h1:=sy B u (n - 1) (by omega)
 have h2:=sy B v (n - 1) (by omega)
 have e1:bv B (u.drop (n - 1))=u.getD n 0*B+u.getD (n - 1) 0:=by
  have:=il (B:=B) (l:=u) (i:=n - 1) (by omega)
  rwa [show n - 1+1=n by omega] at this
 rw [iS (by omega)] at h2
 rw [e1] at h1
 rw [h1,h2]
 have h3:=bv_lt (b:=B) (x:=u.take (n - 1)) (fun d hd=>hu d (List.mem_of_mem_take hd))
 rw [List.length_take,Nat.min_eq_left (by omega)] at h3
 generalize u.getD n 0*B+u.getD (n - 1) 0=top
 generalize v.getD (n - 1) 0=v1 at h0 ⊢
 have h4:top < (top / v1+1)*v1:=by
  have:=Nat.div_add_mod top v1
  have:=Nat.mod_lt top h0
  rw [Nat.add_mul,Nat.one_mul,Nat.mul_comm]; omega
 have h5:=Nat.mul_le_mul_left (B ^ (n - 1)) (Nat.succ_le_of_lt h4)
 rw [Nat.mul_succ] at h5
 rw [Nat.mul_add]
 have e:(top / v1+1)*(B ^ (n - 1)*v1)=B ^ (n - 1)*((top / v1+1)*v1):=Nat.mul_left_comm _ _ _
 omega
theorem Trial.lower (hq:bv B u < q*bv B v)(h:Trial B n u v q rest):Trial B n u v (q - 1) (rest+v.getD (n - 1) 0):=by
 have hq0:0 < q:=by
  rcases Nat.eq_zero_or_pos q with h1 | h1
  ·subst h1; rw [Nat.zero_mul] at hq; omega
  ·exact h1
 obtain ⟨p,rfl⟩: ∃ p,q=p+1:=⟨q - 1,by omega⟩
 refine ⟨?_,by simpa using hq⟩
 have:=h.eq
 rw [Nat.add_mul,Nat.one_mul] at this
 rw [Nat.add_sub_cancel]; omega
theorem Trial.great (hU:bv B u < B*bv B v)(hq:B<=q):bv B u < q*bv B v:=Nat.lt_of_lt_of_le hU (Nat.mul_le_mul_right _ hq)
theorem Trial.second (hul:u.length=n+1)(hvl:v.length=n)(hn:1 < n)(hu: ∀ d∈u,d < B)(h:Trial B n u v q rest)(hs:rest*B+u.getD (n - 2) 0 < q*v.getD (n - 2) 0):bv B u < q*bv B v:=by
 have h1:=sy B u (n - 2) (by omega)
 have h2:=sy B v (n - 2) (by omega)
 have e1:bv B (u.drop (n - 2))=(u.getD n 0*B+u.getD (n - 1) 0)*B+u.getD (n - 2) 0:=by
  have:=qS (B:=B) (l:=u) (i:=n - 2) (by omega)
  rwa [show n - 2+1=n - 1 by omega,show n - 2+2=n by omega] at this
 have e2:bv B (v.drop (n - 2))=v.getD (n - 1) 0*B+v.getD (n - 2) 0:=by
  have:=il (B:=B) (l:=v) (i:=n - 2) (by omega)
  rwa [show n - 2+1=n - 1 by omega] at this
 rw [e1,Nat.add_comm,Nat.mul_comm] at h1
 rw [e2,Nat.add_comm,Nat.mul_comm] at h2
 have h3:=bv_lt (b:=B) (x:=u.take (n - 2)) (fun d hd=>hu d (List.mem_of_mem_take hd))
 rw [List.length_take,Nat.min_eq_left (by omega)] at h3
 exact NL h1 h3 h2 h.eq hs
theorem Trial.last (hB:1 < B)(hul:u.length=n+1)(hvl:v.length=n)(hn:0 < n)(hv: ∀ d∈v,d < B)(h0:0 < v.getD (n - 1) 0)(h:Trial B n u v q rest)(hq:q < B)(hs:1 < n->q*v.getD (n - 2) 0<=rest*B+u.getD (n - 2) 0):q*bv B v < bv B u+bv B v:=by
 rcases Nat.lt_or_ge 1 n with h1 | h1
 ·have h3:=sy B u (n - 2) (by omega)
  have h4:=sy B v (n - 2) (by omega)
  have e1:bv B (u.drop (n - 2))=(u.getD n 0*B+u.getD (n - 1) 0)*B+u.getD (n - 2) 0:=by
   have:=qS (B:=B) (l:=u) (i:=n - 2) (by omega)
   rwa [show n - 2+1=n - 1 by omega,show n - 2+2=n by omega] at this
  have e2:bv B (v.drop (n - 2))=v.getD (n - 1) 0*B+v.getD (n - 2) 0:=by
   have:=il (B:=B) (l:=v) (i:=n - 2) (by omega)
   rwa [show n - 2+1=n - 1 by omega] at this
  rw [e1,Nat.add_comm,Nat.mul_comm] at h3
  rw [e2,Nat.add_comm,Nat.mul_comm] at h4
  have h5:=bv_lt (b:=B) (x:=v.take (n - 2)) (fun d hd=>hv d (List.mem_of_mem_take hd))
  rw [List.length_take,Nat.min_eq_left (by omega)] at h5
  exact JK h3 h4 h5 h.eq hq h0 (hs h1)
 ·obtain rfl:n=1:=by omega
  have e1:=il (B:=B) (l:=u) (i:=0) (by omega)
  have e2:=iS (B:=B) (l:=v) (i:=0) (by omega)
  rw [List.drop_zero] at e1 e2
  have:=h.eq
  rw [e1,e2]
  simp only [Nat.zero_add,Nat.sub_self] at this h0 ⊢
  omega
theorem trial_broke (hq:q < B){v2 u2:Nat}(hv:v2 < B)(hr:B<=rest):q*v2<=rest*B+u2:=by
 have h1:q*v2<=B*B:=Nat.mul_le_mul (by omega) (by omega)
 have h2:B*B<=rest*B:=Nat.mul_le_mul_right B hr
 omega
end
theorem digit_done {B q n:Nat}(hB:1 < B){u v:List Nat}(hu: ∀ d∈u,d < B)(hv: ∀ d∈v,d < B)(hul:u.length=n+1)(hvl:v.length=n)(hq:q < B)(h1:bv B u < (q+1)*bv B v)(h2:q*bv B v < bv B u+bv B v):
  (subL B q u v 0 (n+1) 0 0).2.2=0/\
  ((subL B q u v 0 (n+1) 0 0).2.1=0->q=bv B u / bv B v/\bv B (subL B q u v 0 (n+1) 0 0).1=bv B u % bv B v)/\
  ((subL B q u v 0 (n+1) 0 0).2.1≠0->0 < q/\q - 1=bv B u / bv B v/\bv B (eachF (plusF B) (subL B q u v 0 (n+1) 0 0).1 v 0 (n+1) 0)=bv B u % bv B v):=by
 have hc:=zL hB (u:=u) hq hv (n+1) 0 0 0 (by omega) (by omega) (by omega) (by omega)
 obtain ⟨d1,d2⟩:=Np hB hu hul hvl hc (q:=q)
 have key: ∀ {k r:Nat},bv B u=r+k*bv B v->r < bv B v->k=bv B u / bv B v/\r=bv B u % bv B v:=by
  intro k r e hr
  rw [e,Nat.mul_comm k,Nat.add_comm]
  constructor
  ·rw [Nat.mul_add_div (by omega),Nat.div_eq_of_lt hr]; rfl
  ·rw [Nat.mul_add_mod,Nat.mod_eq_of_lt hr]
 refine ⟨hc,fun h=> ?_,fun h=> ?_⟩
 ·have e:=d1 h
  refine key e ?_
  rw [Nat.add_mul,Nat.one_mul] at h1
  omega
 ·obtain ⟨e1,e2⟩:=d2 h
  have hq0:0 < q:=by
   rcases Nat.eq_zero_or_pos q with h3 | h3
   ·subst h3; rw [Nat.zero_mul] at e2; omega
   ·exact h3
  obtain ⟨Q,rfl⟩: ∃ Q,q=Q+1:=⟨q - 1,by omega⟩
  have e3:=P9 hB (Q:=Q) (V:=bv B v) (U:=bv B u) (subL_lt (q:=Q+1) hB u v (n+1) 0 0 0) hv (subL_len _ _ _ _ _ _ _ _) hvl e1 e2 h2 rfl
  refine ⟨hq0,?_⟩
  rw [Nat.add_sub_cancel]
  refine key e3.symm ?_
  rw [Nat.add_mul,Nat.one_mul] at e2
  omega
end
def cr (F:Nat->Nat->Nat->Nat×Nat)(x y:List Nat)(i c:Nat):Nat->Nat
 | 0=>c
 | k+1=>(F (x.getD (i+k) 0) (y.getD (i+k) 0) (cr F x y i c k)).2
theorem Hv (F:Nat->Nat->Nat->Nat×Nat)(x y:List Nat)(i c:Nat): ∀ k,cr F x y (i+1) (F (x.getD i 0) (y.getD i 0) c).2 k=cr F x y i c (k+1)
 | 0=>rfl
 | k+1=>by
  show (F (x.getD (i+1+k) 0) (y.getD (i+1+k) 0) (cr F x y (i+1) _ k)).2=(F (x.getD (i+(k+1)) 0) (y.getD (i+(k+1)) 0) (cr F x y i c (k+1))).2
  rw [Hv F x y i c k,show i+1+k=i+(k+1) by omega]
theorem eachF_snoc (F:Nat->Nat->Nat->Nat×Nat)(x y:List Nat): ∀ k i c,eachF F x y i (k+1) c=eachF F x y i k c++[(F (x.getD (i+k) 0) (y.getD (i+k) 0) (cr F x y i c k)).1]
 | 0,i,c=>rfl
 | k+1,i,c=>by
  have ih:=eachF_snoc F x y k (i+1) (F (x.getD i 0) (y.getD i 0) c).2
  rw [Hv,show i+1+k=i+(k+1) by omega] at ih
  rw [eachF,ih]; rfl
theorem cr_le {F:Nat->Nat->Nat->Nat×Nat}{m:Nat}(h: ∀ p q c,c<=m->(F p q c).2<=m)(x y:List Nat)(i c:Nat)(hc:c<=m): ∀ k,cr F x y i c k<=m
 | 0=>hc
 | k+1=>h _ _ _ (cr_le h x y i c hc k)
end Go.Num
end
