/- Laws and walks that the proof leans on (part 3): AbWp; AbOps; AbIdle; MTabBase; WBase; AbVc and others. No condition. -/
import Derived.Test.YtoabjjimjldcfaaGreatDoorPart2
import Derived.Attr
import Derived.Test.YtoabjjimjldcfaaGreatDoorProg
import Derived.Laws.Bits64
section
namespace Go.Ab
open Go
structure Sx where
 P:Program
 gl:Nat->Bool
 pr:FuncId->Option lU
abbrev Fr:=Nat->Value
def upd(E:Fr)(d:Nat)(v:Value):Fr:=fun t=>if t=d then v else E t
@[go_sem] theorem X6(E:Fr)(d t:Nat)(v:Value):upd E d v t=if t=d then v else E t:=rfl
def lE(E:Fr)(dst:Option Tmp)(v:Value):Fr:=match dst with
 | some d=>upd E d v
 | none=>E
@[go_sem] theorem VT(E:Fr)(d:Tmp)(v:Value):lE E(some d)v=upd E d v:=rfl
@[go_sem] theorem VU(E:Fr)(v:Value):lE E none v=E:=rfl
def bG(gl:Nat->Bool)(E:Fr):Operand->Value
 | .tmp t=>E t
 | .const v=>if plain v then v else junk
 | .global g=>if gl g then .pointer(some⟨g,0,none⟩) else junk
 | .func f=>.func(.func f) #[] #[]
def ER(nm:Nat)(E:Fr)(tm:List Value):Prop:=tm.length=nm/\∀ t,tm.getD t undef=E t
def qX(nm:Nat):Option Tmp->Bool
 | none=>true
 | some d=>decide(d < nm)
theorem ER.ev {nm:Nat}{E:Fr}{tm:List Value}(gl:Nat->Bool)(h:ER nm E tm):ev gl tm=bG gl E:=by
 funext x
 cases x with
 | tmp t=>exact h.2 t
 | const v=>rfl
 | global g=>rfl
 | func f=>rfl
theorem ER.put {nm:Nat}{E:Fr}{tm:List Value}(h:ER nm E tm){dst:Option Tmp}(hd:qX nm dst=true)(v:Value):ER nm(lE E dst v)(dj tm dst v):=by
 cases dst with
 | none=>exact h
 | some d =>
  have hd:d < nm:=by simpa [qX] using hd
  refine⟨by simp [dj,h.1],fun t=>?_⟩
  simp af [dj,lE,upd,List.getD_eq_getElem?_getD,List.getElem?_set]
  by_cases ht:t=d
  · subst ht
   rw [if_pos rfl,if_pos rfl,if_pos(by rw [h.1]; exact hd)]
   rfl
  · rw [if_neg ht,if_neg(fun e=>ht e.symm),<- List.getD_eq_getElem?_getD]
   exact h.2 t
def FR(S:Sx)(f:FuncId)(args:List Value)(h:Heap)(v:Value)(h' : Heap):Prop:= ∃ n0,∀ n,n0<=n->aN S.P S.gl S.pr n f args h=some(v,h')
def FW(S:Sx)(f:FuncId)(args:List Value)(h:Heap)(Q:Value->Heap->Prop):Prop:= ∃ v h',FR S f args h v h'/\Q v h'
theorem FW.mono {S:Sx}{f:FuncId}{args:List Value}{h:Heap}{Q R:Value->Heap->Prop}(hq:FW S f args h Q)(hr:∀ v h',Q v h'->R v h'):FW S f args h R:=by
 obtain⟨v,h',h1,h2⟩:=hq
 exact⟨v,h',h1,hr v h' h2⟩
abbrev VH:=Value->Heap->Prop
abbrev FH:=Fr->Heap->Prop
abbrev FD:=Exit->Fr->Heap->Prop
def w8(ops:Array Oper)(E:Fr)(guard:Option(Nat × Bool)):Option Bool:=match guard with
 | none=>some true
 | some(j,want)=>match(ops[j]?).bind(·.dst) with
  | some d=>match E d with
   | .bool b=>some(b == want)
   | .tuple _=>some false
   | _=>none
  | none=>none
theorem jG {nm:Nat}{E:Fr}{tm:List Value}(h:ER nm E tm)(ops:Array Oper)(o:Oper):cp ops tm o=w8 ops E o.guard:=by
 unfold cp w8
 cases o.guard with
 | none=>rfl
 | some g =>
  obtain⟨j,want⟩:=g
  dsimp af
  cases(ops[j]?).bind(·.dst) with
  | none=>rfl
  | some d=>dsimp af; rw [h.2 d]; cases E d <;> rfl
def FZ(r:Option(Value × Upd))(h:Heap)(K:VH):Prop:=match r with
 | some(v,u)=>K v(u.app h)
 | none=>False
def nW(r:Option Value)(h:Heap)(K:VH):Prop:=match r with
 | some v=>K v h
 | none=>False
@[go_sem] theorem Wg(v:Value)(u:Upd)(h:Heap)(K:VH):FZ(some(v,u))h K=K v(u.app h):=rfl
@[go_sem] theorem WT(h:Heap)(K:VH):FZ none h K=False:=rfl
@[go_sem] theorem WU(v:Value)(h:Heap)(K:VH):nW(some v)h K=K v h:=rfl
@[go_sem] theorem V8(h:Heap)(K:VH):nW none h K=False:=rfl
def lF(S:Sx)(f:Value)(args:List Value)(h:Heap)(K:VH):Prop:=match f with
 | .func(.func g)first captured=>g < YB/\FW S g(first.toList ++ args ++ captured.toList)h K
 | _=>False
def dE(S:Sx)(E:Fr)(o:Oper)(h:Heap)(K:VH):Prop:=match o.op with
 | .call { callee:= .value f,args,.. }=>lF S(bG S.gl E f)(args.toList.map(bG S.gl E))h K
 | _=>FZ(aL S.P dh(bG S.gl E)o h)h K
def Rn(r:Option Bool)(A B:Unit->Prop):Prop:=match r with
 | some true=>A()
 | some false=>B()
 | none=>False
@[go_sem] theorem WR(A B:Unit->Prop):Rn(some true)A B=A():=rfl
@[go_sem] theorem VR(A B:Unit->Prop):Rn(some false)A B=B():=rfl
def KW(S:Sx)(ops:Array Oper):List Oper->Fr->Heap->FH->Prop
 | [],E,h,R=>R E h
 | o :: l,E,h,R=>Rn(w8 ops E o.guard)(fun _=>dE S E o h fun v h=>KW S ops l(lE E o.dst v)h R)(fun _=>KW S ops l(lE E o.dst undef)h R)
def TL(S:Sx)(ops:Array Oper)(dst:Option Tmp)(l:List Oper)(E:Fr)(h:Heap)(R:FH)(_:Unit):Prop:=KW S ops l(lE E dst undef)h R
def XG(S:Sx)(ops:Array Oper)(dst:Option Tmp)(l:List Oper)(E:Fr)(R:FH)(v:Value)(h:Heap):Prop:=KW S ops l(lE E dst v)h R
def WF(S:Sx)(ops:Array Oper)(o:Oper)(l:List Oper)(E:Fr)(h:Heap)(R:FH)(_:Unit):Prop:=dE S E o h(XG S ops o.dst l E R)
section
variable(S:Sx)(ops:Array Oper)(o:Oper)(l:List Oper)(dst:Option Tmp)(E:Fr)(h:Heap)(R:FH)(v:Value)
@[go_sem] theorem XF:KW S ops [] E h R=R E h:=rfl
@[go_sem] theorem PG:KW S ops(o :: l)E h R=Rn(w8 ops E o.guard)(WF S ops o l E h R)(TL S ops o.dst l E h R):=rfl
@[go_sem] theorem Wv(u:Unit):TL S ops dst l E h R u=KW S ops l(lE E dst undef)h R:=rfl
@[go_sem] theorem XQ:XG S ops dst l E R v h=KW S ops l(lE E dst v)h R:=rfl
@[go_sem] theorem XJ(u:Unit):WF S ops o l E h R u=dE S E o h(XG S ops o.dst l E R):=rfl
@[go_sem] theorem Vr(ops:Array Oper)(E:Fr):w8 ops E none=some true:=rfl
@[go_sem] theorem Kj(ops:Array Oper)(E:Fr)(j:Nat)(want:Bool):w8 ops E(some(j,want))=match(ops[j]?).bind(·.dst) with
  | some d=>(match E d with | .bool b=>some(b == want) | .tuple _=>some false | _=>none)
  | none=>none:=rfl
end
noncomputable section
variable(S:Sx)(bf:Nat->Nat->Bool)
def CT(o:Oper)(E:Fr)(v:Value)(h:Heap):Bool:=match aI S.P(bG S.gl E)o h with
 | some v'=>cP 4 v v'
 | none=>false
def gT(j:Nat)(o:Oper)(E:Fr)(v:Value):Heap->List(Nat × Heap)->Bool->Bool
 | h,[],own=>own || CT S o E v h
 | h,(e,h') :: r,own=>((own && Nat.blt j e) || bf j e || CT S o E v h) && (bf e j || gT j o E v h' r(Nat.blt e j))
abbrev BH:=Fr × Oper × Ent
def nc(h:Heap)(es:List(Nat × Heap)):List BH->Nat->Bool
 | [],_=>true
 | (E,o,.read v) :: r,j=>gT S bf j o E v h es true && nc h es r(j + 1)
 | _ :: r,j=>nc h es r(j + 1)
def fo:List BH->Nat->List(Nat × Heap)
 | [],_=>[]
 | (_,_,.eff _ h) :: r,j=>(j,h) :: fo r(j + 1)
 | _ :: r,j=>fo r(j + 1)
def kC(h:Heap)(recs:List BH):Bool:=bT bf(fo recs 0) && nc S bf h(fo recs 0)recs 0
def wW(E:Fr)(o:Oper)(h:Heap)(K:VH):Prop:=match o.op with
 | .call { callee:= .value f,args,.. }=>lF S(bG S.gl E f)(args.toList.map(bG S.gl E))h K
 | _=>FZ(bA S.P dh(bG S.gl E)o h)h K
def nZ(ops:Array Oper)(base:Nat)(h0:Heap):List Oper->Nat->Fr->Heap->List(Nat × Blk)->List BH->FH->Prop
 | [],_,E,h,pd,recs,R=>kC S bf h0 recs.reverse=true/\R E(aE h base pd)
 | o :: l,j,E,h,pd,recs,R=>Rn(w8 ops E o.guard)
   (fun _=>match aD S.P(bG S.gl E)o with
    | some v=>nZ ops base h0 l(j + 1)(lE E o.dst v)h pd((E,o,.pure v) :: recs)R
    | none=>match aI S.P(bG S.gl E)o h with
     | some v=>nZ ops base h0 l(j + 1)(lE E o.dst v)h pd((E,o,.read v) :: recs)R
     | none=>match aH S.P(bG S.gl E)o with
      | some(B,f)=>nZ ops base h0 l(j + 1)(lE E o.dst(f(base + j)))h((j,B) :: pd)((E,o,.alloc B(f(base + j))) :: recs)R
      | none=>wW S E o(aE h base(pd.filter fun p=>bf j p.1))fun v h'=>nZ ops base h0 l(j + 1)(lE E o.dst v)h' (pd.filter fun p=>!bf j p.1)((E,o,.eff v h') :: recs)R)
   (fun _=>nZ ops base h0 l(j + 1)(lE E o.dst undef)h pd((E,o,.skip) :: recs)R)
def TD(ops:Array Oper)(E:Fr)(h:Heap)(R:FH):Prop:=
 oZ ops=false/\nZ S(bc(cj ops))ops h.next { h with next:=h.next + ops.size }ops.toList 0 E { h with next:=h.next + ops.size } [] [] R
end
section
variable(S:Sx)(nm:Nat)
def T1(c:Code)(E:Fr)(h:Heap)(x:Exit)(E' : Fr)(h' : Heap):Prop:=
 ∃ n0,∀ n N,n0<=n->n0<=N->∀ tm,ER nm E tm->∃ tm',ER nm E' tm'/\aA S.P S.gl(aN S.P S.gl S.pr n)N c tm h=some(x,tm',h')
def Xa(c:Code)(E:Fr)(h:Heap)(x:Exit)(E' : Fr)(h' : Heap):Prop:=
 ∃ n0,∀ n N j,n0<=n->n0<=N->n0<=j->∀ tm,ER nm E tm->∃ tm',ER nm E' tm'/\xz(aA S.P S.gl(aN S.P S.gl S.pr n)N c)j tm h=some(x,tm',h')
def xd(c:Code)(E:Fr)(h:Heap)(Q:FD):Prop:= ∃ x E' h',Xa S nm c E h x E' h'/\Q x E' h'
def Xz(v:Value)(A B:Unit->Prop):Prop:=match v with
 | .bool true=>A()
 | .bool false=>B()
 | _=>False
def yE:Code->Fr->Heap->FD->Prop
 | .skip,E,h,Q=>Q .normal E h
 | .region _ ops false,E,h,Q=>KW S ops ops.toList E h fun E h=>Q .normal E h
 | .region _ ops true,E,h,Q=>TD S ops E h fun E h=>Q .normal E h
 | .seq a b,E,h,Q=>yE a E h fun x E h=>match x with
  | .normal=>yE b E h Q
  | x=>Q x E h
 | .cond c a b,E,h,Q=>Xz(bG S.gl E c)(fun _=>yE a E h Q)(fun _=>yE b E h Q)
 | .block id c,E,h,Q=>yE c E h fun x E h=>match x with
  | .exit id'=>if id' = id then Q .normal E h else Q(.exit id')E h
  | x=>Q x E h
 | .loop c,E,h,Q=>xd S nm c E h Q
 | .exit id,E,h,Q=>Q(.exit id)E h
 | .ret,E,h,Q=>Q .ret E h
 | .label _,E,h,Q=>Q .normal E h
 | _,_,_,_=>False
def K9(c:Code)(Q:FD)(x:Exit)(E:Fr)(h:Heap):Prop:=match x with
 | .normal=>xd S nm c E h Q
 | x=>Q x E h
def Yr(c:Code)(E:Fr)(h:Heap)(Q:FD)(_:Unit):Prop:=yE S nm c E h Q
variable(a b c:Code)(o:Operand)(id id' : Nat)(ops:Array Oper)(E:Fr)(h:Heap)(Q:FD)
@[go_sem] theorem WB:normK Q E h=Q .normal E h:=rfl
@[go_sem] theorem Yc(u:Unit):Yr S nm c E h Q u=yE S nm c E h Q:=rfl
@[go_sem] theorem VY:yE S nm .skip E h Q=Q .normal E h:=rfl
@[go_sem] theorem Uz:yE S nm(.region id ops false)E h Q=KW S ops ops.toList E h(normK Q):=rfl
@[go_sem] theorem Wx:yE S nm(.region id ops true)E h Q=TD S ops E h(normK Q):=rfl
@[go_sem] theorem XM:yE S nm(.seq a b)E h Q=yE S nm a E h(codeK S nm b Q):=rfl
@[go_sem] theorem Ri:yE S nm(.cond o a b)E h Q=Xz(bG S.gl E o)(Yr S nm a E h Q)(Yr S nm b E h Q):=rfl
@[go_sem] theorem VL:yE S nm(.block id c)E h Q=yE S nm c E h(blockK id Q):=rfl
@[go_sem] theorem W5:yE S nm(.loop c)E h Q=xd S nm c E h Q:=rfl
@[go_sem] theorem V0:yE S nm(.exit id)E h Q=Q(.exit id)E h:=rfl
@[go_sem] theorem XH:yE S nm .ret E h Q=Q .ret E h:=rfl
@[go_sem] theorem VK:yE S nm(.label id)E h Q=Q .normal E h:=rfl
@[go_sem] theorem Ru:codeK S nm b Q .normal E h=yE S nm b E h Q:=rfl
@[go_sem] theorem US:codeK S nm b Q(.exit id)E h=Q(.exit id)E h:=rfl
@[go_sem] theorem VV:codeK S nm b Q .ret E h=Q .ret E h:=rfl
@[go_sem] theorem Rl:blockK id Q .normal E h=Q .normal E h:=rfl
@[go_sem] theorem T2:blockK id Q(.exit id')E h=if id' = id then Q .normal E h else Q(.exit id')E h:=rfl
@[go_sem] theorem Uw:blockK id Q .ret E h=Q .ret E h:=rfl
@[go_sem] theorem Tx:K9 S nm c Q .normal E h=xd S nm c E h Q:=rfl
@[go_sem] theorem UI:K9 S nm c Q(.exit id)E h=Q(.exit id)E h:=rfl
@[go_sem] theorem VM:K9 S nm c Q .ret E h=Q .ret E h:=rfl
end
@[go_sem] theorem Wb(A B:Unit->Prop):Xz(.bool true)A B=A():=rfl
@[go_sem] theorem VO(A B:Unit->Prop):Xz(.bool false)A B=B():=rfl
theorem SO {v:Value}{A B:Unit->Prop}(h:Xz v A B):∃ b,v = .bool b/\((b=true/\A())\/(b=false/\B())):=by
 cases v with
 | bool b =>
  cases b with
  | true=>exact⟨true,rfl,.inl⟨rfl,h⟩⟩
  | false=>exact⟨false,rfl,.inr⟨rfl,h⟩⟩
 | _=>exact h.elim
theorem Ek {r:Option Bool}{A B:Unit->Prop}(h:Rn r A B):(r=some true/\A())\/(r=some false/\B()):=by
 cases r with
 | none=>exact h.elim
 | some b =>
  cases b with
  | true=>exact .inl⟨rfl,h⟩
  | false=>exact .inr⟨rfl,h⟩
section
variable {S:Sx}{nm:Nat}
theorem sS {fv:Value}{args:List Value}{h:Heap}{K:VH}(hw:lF S fv args h K):∃ v h' n0,(∀ n,n0<=n->rO(aN S.P S.gl S.pr n)fv args h=some(v,.all h'))/\K v h':=by
 unfold lF at hw
 split at hw
 · next g first captured =>
  obtain⟨hY,v,h',⟨n0,hr⟩,hk⟩:=hw
  refine⟨v,h',n0,fun n hn=>?_,hk⟩
  simp af [rO]
  rw [if_pos hY,hr n hn]
  rfl
 · exact hw.elim
theorem jD {o:Oper}(hc:aF o=true):∃ f args ts,o.op = .call { callee:= .value f,args:=args,argTypes:=ts }:=by
 obtain⟨dst,op,ty,pos,after,guard⟩:=o
 unfold aF at hc
 split at hc
 · next e=>exact⟨_,_,_,e⟩
 · cases hc
theorem Gr {E:Fr}{o:Oper}{h:Heap}{K:VH}(hw:wW S E o h K):∃ v u n0,(∀ n,n0<=n->bA S.P(aN S.P S.gl S.pr n)(bG S.gl E)o h=some(v,u))/\K v(u.app h):=by
 cases hc:aF o with
 | true =>
  obtain⟨f,args,ts,e⟩:=jD hc
  obtain⟨dst,op,ty,pos,after,guard⟩:=o
  dsimp af at e
  subst e
  obtain⟨v,h',n0,h1,h2⟩:=sS hw
  exact⟨v,.all h',n0,h1,h2⟩
 | false =>
  have hw' : FZ(bA S.P dh(bG S.gl E)o h)h K:=by
   unfold wW at hw
   split at hw
   · next e=>unfold aF at hc; rw [e] at hc; cases hc
   · exact hw
  unfold FZ at hw'
  split at hw'
  · next v u e=>exact⟨v,u,0,fun n _=>by rw [<- rC hc]; exact e,hw'⟩
  · exact hw'.elim
theorem Gz {P:Program}{cf:aY}{ρ:Operand->Value}{o:Oper}{h:Heap}(hc:aF o=true):aL P cf ρ o h=bA P cf ρ o h:=by
 obtain⟨f,args,ts,e⟩:=jD hc
 obtain⟨dst,op,ty,pos,after,guard⟩:=o
 dsimp af at e
 subst e
 rfl
theorem IF {E:Fr}{o:Oper}{h:Heap}{K:VH}(hw:dE S E o h K):∃ v u n0,(∀ n,n0<=n->aL S.P(aN S.P S.gl S.pr n)(bG S.gl E)o h=some(v,u))/\K v(u.app h):=by
 cases hc:aF o with
 | true =>
  obtain⟨f,args,ts,e⟩:=jD hc
  obtain⟨dst,op,ty,pos,after,guard⟩:=o
  dsimp af at e
  subst e
  obtain⟨v,h',n0,h1,h2⟩:=sS hw
  exact⟨v,.all h',n0,fun n hn=>by rw [Gz hc]; exact h1 n hn,h2⟩
 | false =>
  have hw' : FZ(aL S.P dh(bG S.gl E)o h)h K:=by
   unfold dE at hw
   split at hw
   · next e=>unfold aF at hc; rw [e] at hc; cases hc
   · exact hw
  unfold FZ at hw'
  split at hw'
  · next v u e=>exact⟨v,u,0,fun n _=>by rw [<- A9 hc]; exact e,hw'⟩
  · exact hw'.elim
theorem vH(ops:Array Oper){R:FH} : ∀ (l:List Oper)(E:Fr)(h:Heap),(l.all fun o=>qX nm o.dst)=true->KW S ops l E h R->
  ∃ E' h' n0,(∀ n,n0<=n->∀ tm,ER nm E tm->∃ tm',ER nm E' tm'/\dg S.P S.gl(aN S.P S.gl S.pr n)ops l tm h=some(tm',h'))/\R E' h'
 | [],E,h,_,hw =>⟨E,h,0,fun n _ tm ht =>⟨tm,ht,rfl⟩,hw⟩
 | o :: l,E,h,hd,hw=>by
  simp af [List.all_cons,Bool.and_eq_true] at hd
  rcases Ek hw with⟨hg,hw⟩|⟨hg,hw⟩
  · obtain⟨v,u,n1,h1,h2⟩:=IF hw
   obtain⟨E',h',n2,h3,h4⟩:=vH ops l _ _ hd.2 h2
   refine⟨E',h',max n1 n2,fun n hn tm ht=>?_,h4⟩
   obtain⟨tm',ht',h5⟩:=h3 n(by omega)_(ht.put hd.1 v)
   refine⟨tm',ht',?_⟩
   simp af [dg]
   rw [jG ht,hg,ht.ev,h1 n(by omega)]
   exact h5
  · obtain⟨E',h',n2,h3,h4⟩:=vH ops l _ _ hd.2 hw
   refine⟨E',h',n2,fun n hn tm ht=>?_,h4⟩
   obtain⟨tm',ht',h5⟩:=h3 n hn _(ht.put hd.1 undef)
   refine⟨tm',ht',?_⟩
   simp af [dg]
   rw [jG ht,hg]
   exact h5
def AF(nm:Nat):List Oper->List BH->List(List Value × Ent)->Prop
 | [],[],[]=>True
 | o :: os,(E,o',e) :: r,(tm,e') :: r'=>o' = o/\e' = e/\ER nm E tm/\AF nm os r r'
 | _,_,_=>False
theorem H0:∀ {l:List Oper}{r:List BH}{r' : List(List Value × Ent)}(j:Nat),AF nm l r r'->bR r' j=fo r j
 | [],[],[],_,_=>rfl
 | o :: os,(E,o',e) :: r,(tm,e') :: r',j,h=>by
  obtain⟨rfl,rfl,_,h⟩:=h
  cases e' <;> simp af [bR,fo,H0(j + 1)h]
 | [],[],_ :: _,_,h=>h.elim
 | [],_ :: _,_,_,h=>h.elim
 | _ :: _,[],_,_,h=>h.elim
 | _ :: _,_ :: _,[],_,h=>h.elim
theorem ti {o:Oper}{E:Fr}{tm:List Value}{v:Value}{h:Heap}(ht:ER nm E tm):dJ S.P S.gl o tm v h=CT S o E v h:=by
 unfold dJ CT
 rw [ht.ev]
 cases aI S.P(bG S.gl E)o h <;> rfl
theorem zW {bf:Nat->Nat->Bool}{j:Nat}{o:Oper}{E:Fr}{tm:List Value}{v:Value}(ht:ER nm E tm):∀ (es:List(Nat × Heap))(h:Heap)(own:Bool),fK S.P S.gl bf j o tm v h es own=gT S bf j o E v h es own
 | [],h,own=>by simp af [fK,gT,ti ht]
 | (e,h') :: es,h,own=>by simp af [fK,gT,ti ht,zW ht es]
theorem Dt {bf:Nat->Nat->Bool}{h:Heap}{es:List(Nat × Heap)} : ∀ {l:List Oper}{r:List BH}{r' : List(List Value × Ent)}(j:Nat),AF nm l r r'->dk S.P S.gl bf h es l r' j=nc S bf h es r j
 | [],[],[],_,_=>rfl
 | o :: os,(E,o',e) :: r,(tm,e') :: r',j,hr=>by
  obtain⟨rfl,rfl,ht,hr⟩:=hr
  cases e' <;> simp af [dk,nc,Dt(j + 1)hr,zW ht]
 | [],[],_ :: _,_,h=>h.elim
 | [],_ :: _,_,_,h=>h.elim
 | _ :: _,[],_,_,h=>h.elim
 | _ :: _,_ :: _,[],_,h=>h.elim
theorem Bp(bf:Nat->Nat->Bool)(ops:Array Oper)(base:Nat)(h0:Heap){R:FH} : ∀ (l:List Oper)(j:Nat)(E:Fr)(h:Heap)(pd:List(Nat × Blk))(recs:List BH),(l.all fun o=>qX nm o.dst)=true->nZ S bf ops base h0 l j E h pd recs R->
  ∃ E' h' pd' r n0,(∀ n,n0<=n->∀ tm,ER nm E tm->∃ tm' r',ER nm E' tm'/\AF nm l r r'/\bD S.P S.gl(aN S.P S.gl S.pr n)ops bf base l j tm h pd=some(r',tm',h',pd'))/\kC S bf h0(recs.reverse ++ r)=true/\R E' (aE h' base pd')
 | [],j,E,h,pd,recs,_,hw =>⟨E,h,pd,[],0,fun n _ tm ht =>⟨tm,[],ht,trivial,rfl⟩,by rw [List.append_nil]; exact hw.1,hw.2⟩
 | o :: l,j,E,h,pd,recs,hd,hw=>by
  simp af [List.all_cons,Bool.and_eq_true] at hd
  have fin:∀ (v:Value)(e:Ent)(h1:Heap)(pd1:List(Nat × Blk))(n1:Nat),nZ S bf ops base h0 l(j + 1)(lE E o.dst v)h1 pd1((E,o,e) :: recs)R->
    (∀ n,n1<=n->∀ tm,ER nm E tm->∀ q,bD S.P S.gl(aN S.P S.gl S.pr n)ops bf base l(j + 1)(dj tm o.dst v)h1 pd1=some q->bD S.P S.gl(aN S.P S.gl S.pr n)ops bf base(o :: l)j tm h pd=some((tm,e) :: q.1,q.2))->
    ∃ E' h' pd' r n0,(∀ n,n0<=n->∀ tm,ER nm E tm->∃ tm' r',ER nm E' tm'/\AF nm(o :: l)r r'/\bD S.P S.gl(aN S.P S.gl S.pr n)ops bf base(o :: l)j tm h pd=some(r',tm',h',pd'))/\kC S bf h0(recs.reverse ++ r)=true/\R E' (aE h' base pd'):=by
   intro v e h1 pd1 n1 hw1 hq
   obtain⟨E',h',pd',r,n2,h2,h3,h4⟩:=Bp bf ops base h0 l(j + 1)_ _ _ _ hd.2 hw1
   refine⟨E',h',pd',(E,o,e) :: r,max n1 n2,fun n hn tm ht=>?_,?_,h4⟩
   · obtain⟨tm',r',ht',hr,h5⟩:=h2 n(by omega)_(ht.put hd.1 v)
    exact⟨tm',(tm,e) :: r',ht',⟨rfl,rfl,ht,hr⟩,hq n(by omega)tm ht _ h5⟩
   · simpa using h3
  rcases Ek hw with⟨hg,hw⟩|⟨hg,hw⟩
  · cases hp:aD S.P(bG S.gl E)o with
   | some v =>
    rw [hp] at hw
    refine fin v(.pure v)h pd 0 hw fun n _ tm ht q hq=>?_
    simp af [bD]
    rw [jG ht,hg,ht.ev,hp]
    dsimp af
    rw [hq]
    rfl
   | none =>
    rw [hp] at hw
    dsimp af at hw
    cases hrd:aI S.P(bG S.gl E)o h with
    | some v =>
     rw [hrd] at hw
     refine fin v(.read v)h pd 0 hw fun n _ tm ht q hq=>?_
     simp af [bD]
     rw [jG ht,hg,ht.ev,hp]
     dsimp af
     rw [hrd]
     dsimp af
     rw [hq]
     rfl
    | none =>
     rw [hrd] at hw
     dsimp af at hw
     cases hal:aH S.P(bG S.gl E)o with
     | some Bf =>
      obtain⟨B,f⟩:=Bf
      rw [hal] at hw
      refine fin _(.alloc B(f(base + j)))h((j,B) :: pd)0 hw fun n _ tm ht q hq=>?_
      simp af [bD]
      rw [jG ht,hg,ht.ev,hp]
      dsimp af
      rw [hrd]
      dsimp af
      rw [hal]
      dsimp af
      rw [hq]
      rfl
     | none =>
      rw [hal] at hw
      dsimp af at hw
      obtain⟨v,u,n1,h1,h2⟩:=Gr hw
      refine fin v(.eff v _)_ _ n1 h2 fun n hn tm ht q hq=>?_
      simp af [bD]
      rw [jG ht,hg,ht.ev,hp]
      dsimp af
      rw [hrd]
      dsimp af
      rw [hal]
      dsimp af
      rw [h1 n hn]
      dsimp af
      rw [hq]
      rfl
  · refine fin undef .skip h pd 0 hw fun n _ tm ht q hq=>?_
   simp af [bD]
   rw [jG ht,hg]
   dsimp af
   rw [hq]
   rfl
theorem Mi {ops:Array Oper}{E:Fr}{h:Heap}{R:FH}(hd:(ops.toList.all fun o=>qX nm o.dst)=true)(hw:TD S ops E h R) :
  ∃ E' h' n0,(∀ n,n0<=n->∀ tm,ER nm E tm->∃ tm',ER nm E' tm'/\z4 S.P S.gl(aN S.P S.gl S.pr n)ops tm h=some(tm',h'))/\R E' h':=by
 obtain⟨hany,hw⟩:=hw
 obtain⟨E',h',pd',r,n0,h1,h2,h3⟩:=Bp(bc(cj ops))ops h.next _ ops.toList 0 E _ [] [] hd hw
 refine⟨E',_,n0,fun n hn tm ht=>?_,h3⟩
 obtain⟨tm',r',ht',hr,h4⟩:=h1 n hn tm ht
 refine⟨tm',ht',?_⟩
 unfold z4
 rw [hany,if_neg(by simp)]
 unfold p0
 rw [h4]
 dsimp af
 rw [H0 0 hr,Dt 0 hr]
 have h2:kC S(bc(cj ops)){ h with next:=h.next + ops.size }r=true:=h2
 unfold kC at h2
 rw [if_pos h2]
def aG(nm:Nat):Code->Bool
 | .region _ ops _=>ops.toList.all fun o=>qX nm o.dst
 | .seq a b=>aG nm a && aG nm b
 | .cond _ a b=>aG nm a && aG nm b
 | .block _ c=>aG nm c
 | .loop c=>aG nm c
 | _=>true
theorem gL:∀ (c:Code){E:Fr}{h:Heap}{Q:FD},aG nm c=true->yE S nm c E h Q->∃ x E' h',T1 S nm c E h x E' h'/\Q x E' h'
 | .skip,E,h,_,_,hw =>⟨.normal,E,h,⟨0,fun _ _ _ _ tm ht =>⟨tm,ht,rfl⟩⟩,hw⟩
 | .exit id,E,h,_,_,hw =>⟨.exit id,E,h,⟨0,fun _ _ _ _ tm ht =>⟨tm,ht,rfl⟩⟩,hw⟩
 | .ret,E,h,_,_,hw =>⟨.ret,E,h,⟨0,fun _ _ _ _ tm ht =>⟨tm,ht,rfl⟩⟩,hw⟩
 | .label _,E,h,_,_,hw =>⟨.normal,E,h,⟨0,fun _ _ _ _ tm ht =>⟨tm,ht,rfl⟩⟩,hw⟩
 | .region _ ops false,E,h,_,hd,hw=>by
  obtain⟨E',h',n0,h1,h2⟩:=vH ops ops.toList E h hd hw
  refine⟨.normal,E',h',⟨n0,fun n N hn _ tm ht=>?_⟩,h2⟩
  obtain⟨tm',ht',h3⟩:=h1 n hn tm ht
  refine⟨tm',ht',?_⟩
  simp af [aA]
  rw [h3]
  rfl
 | .region _ ops true,E,h,_,hd,hw=>by
  obtain⟨E',h',n0,h1,h2⟩:=Mi hd hw
  refine⟨.normal,E',h',⟨n0,fun n N hn _ tm ht=>?_⟩,h2⟩
  obtain⟨tm',ht',h3⟩:=h1 n hn tm ht
  refine⟨tm',ht',?_⟩
  simp af [aA]
  rw [h3]
  rfl
 | .seq a b,E,h,Q,hd,hw=>by
  simp af [aG,Bool.and_eq_true] at hd
  obtain⟨x,E1,h1,⟨n1,hr1⟩,hq⟩:=gL a hd.1 hw
  have els:(∀ n N tm' ,aA S.P S.gl(aN S.P S.gl S.pr n)N a tm' h=some(x,tm',h1)->True)->x≠ .normal->Q x E1 h1->∃ x E' h',T1 S nm(.seq a b)E h x E' h'/\Q x E' h':=by
   intro _ hx hq
   refine⟨x,E1,h1,⟨n1,fun n N hn hN tm ht=>?_⟩,hq⟩
   obtain⟨tm',ht',h3⟩:=hr1 n N hn hN tm ht
   refine⟨tm',ht',?_⟩
   simp af [aA]
   rw [h3]
   cases x with
   | normal=>exact absurd rfl hx
   | _=>rfl
  cases x with
  | normal =>
   obtain⟨x,E2,h2,⟨n2,hr2⟩,hq⟩:=gL b hd.2 hq
   refine⟨x,E2,h2,⟨max n1 n2,fun n N hn hN tm ht=>?_⟩,hq⟩
   obtain⟨tm',ht',h3⟩:=hr1 n N(by omega)(by omega)tm ht
   obtain⟨tm2,ht2,h4⟩:=hr2 n N(by omega)(by omega)tm' ht'
   refine⟨tm2,ht2,?_⟩
   simp af [aA]
   rw [h3]
   exact h4
  | exit id=>exact els(fun _ _ _ _=>trivial)(by simp)hq
  | goto l=>exact els(fun _ _ _ _=>trivial)(by simp)hq
  | ret=>exact els(fun _ _ _ _=>trivial)(by simp)hq
  | panic _=>exact els(fun _ _ _ _=>trivial)(by simp)hq
  | outgrown=>exact els(fun _ _ _ _=>trivial)(by simp)hq
 | .cond o a b,E,h,Q,hd,hw=>by
  simp af [aG,Bool.and_eq_true] at hd
  obtain⟨t,hv,⟨ht,hw⟩|⟨ht,hw⟩⟩:=SO hw
  · obtain⟨x,E1,h1,⟨n1,hr1⟩,hq⟩:=gL a hd.1 hw
   refine⟨x,E1,h1,⟨n1,fun n N hn hN tm htm=>?_⟩,hq⟩
   obtain⟨tm',ht',h3⟩:=hr1 n N hn hN tm htm
   refine⟨tm',ht',?_⟩
   simp af [aA]
   rw [htm.ev,hv,ht]
   exact h3
  · obtain⟨x,E1,h1,⟨n1,hr1⟩,hq⟩:=gL b hd.2 hw
   refine⟨x,E1,h1,⟨n1,fun n N hn hN tm htm=>?_⟩,hq⟩
   obtain⟨tm',ht',h3⟩:=hr1 n N hn hN tm htm
   refine⟨tm',ht',?_⟩
   simp af [aA]
   rw [htm.ev,hv,ht]
   exact h3
 | .block id c,E,h,Q,hd,hw=>by
  obtain⟨x,E1,h1,⟨n1,hr1⟩,hq⟩:=gL c hd hw
  by_cases hx:x = .exit id
  · subst hx
   dsimp af at hq
   rw [if_pos rfl] at hq
   refine⟨.normal,E1,h1,⟨n1,fun n N hn hN tm htm=>?_⟩,hq⟩
   obtain⟨tm',ht',h3⟩:=hr1 n N hn hN tm htm
   refine⟨tm',ht',?_⟩
   simp af [aA]
   rw [h3]
   simp
  · refine⟨x,E1,h1,⟨n1,fun n N hn hN tm htm=>?_⟩,?_⟩
   · obtain⟨tm',ht',h3⟩:=hr1 n N hn hN tm htm
    refine⟨tm',ht',?_⟩
    simp af [aA]
    rw [h3]
    cases x with
    | exit id'=>dsimp af; rw [if_neg(fun e=>hx(by rw [e]))]
    | _=>rfl
   · cases x with
    | exit id'=>dsimp af at hq; rw [if_neg(fun e=>hx(by rw [e]))] at hq; exact hq
    | _=>exact hq
 | .loop c,E,h,Q,hd,hw=>by
  obtain⟨x,E1,h1,⟨n1,hr1⟩,hq⟩:=hw
  refine⟨x,E1,h1,⟨n1,fun n N hn hN tm htm=>?_⟩,hq⟩
  obtain⟨tm',ht',h3⟩:=hr1 n N N hn hN hN tm htm
  exact⟨tm',ht',h3⟩
 | .rangeFunc ..,_,_,_,_,hw=>hw.elim
 | .scope _,_,_,_,_,hw=>hw.elim
 | .goto _,_,_,_,_,hw=>hw.elim
 | .refuse _,_,_,_,_,hw=>hw.elim
theorem OL {c:Code}{E:Fr}{h:Heap}{Q:FD}(hd:aG nm c=true)(hw:yE S nm c E h(K9 S nm c Q)):xd S nm c E h Q:=by
 obtain⟨x,E1,h1,⟨n1,hr1⟩,hq⟩:=gL c hd hw
 have els:x≠ .normal->Q x E1 h1->xd S nm c E h Q:=by
  intro hx hq
  refine⟨x,E1,h1,⟨n1 + 1,fun n N j hn hN hj tm ht=>?_⟩,hq⟩
  obtain⟨j',rfl⟩: ∃ j',j=j' + 1 :=⟨j - 1,by omega⟩
  obtain⟨tm',ht',h3⟩:=hr1 n N(by omega)(by omega)tm ht
  refine⟨tm',ht',?_⟩
  simp af [xz]
  rw [h3]
  cases x with
  | normal=>exact absurd rfl hx
  | _=>rfl
 cases x with
 | normal =>
  obtain⟨x,E2,h2,⟨n2,hr2⟩,hq⟩:=hq
  refine⟨x,E2,h2,⟨max n1 n2 + 1,fun n N j hn hN hj tm ht=>?_⟩,hq⟩
  obtain⟨j',rfl⟩: ∃ j',j=j' + 1 :=⟨j - 1,by omega⟩
  obtain⟨tm',ht',h3⟩:=hr1 n N(by omega)(by omega)tm ht
  obtain⟨tm2,ht2,h4⟩:=hr2 n N j' (by omega)(by omega)(by omega)tm' ht'
  refine⟨tm2,ht2,?_⟩
  simp af [xz]
  rw [h3]
  exact h4
 | exit id=>exact els(by simp)hq
 | goto l=>exact els(by simp)hq
 | ret=>exact els(by simp)hq
 | panic _=>exact els(by simp)hq
 | outgrown=>exact els(by simp)hq
noncomputable def lC(S:Sx)(E:Fr)(h:Heap):List ResultVar->Option(List Value)
 | []=>some []
 | .tmp t :: r=>(lC S E h r).map(E t :: ·)
 | .cell a t :: r=>match ai S.P t h(E a) with
  | some v=>(lC S E h r).map(v :: ·)
  | none=>none
theorem yx {E:Fr}{h:Heap}{tm:List Value}(ht:ER nm E tm):∀ l,bg S.P tm h l=lC S E h l
 | []=>rfl
 | .tmp t :: r=>by simp af [bg,lC,yx ht r,ht.2 t]
 | .cell a t :: r=>by
  simp af [bg,lC,yx ht r,ht.2 a]
  cases ai S.P t h(E a) <;> rfl
def oD(r:Option(List Value))(h:Heap)(Q:VH):Prop:=match r with
 | some vs=>Q(aJ vs)h
 | none=>False
@[go_sem] theorem UY(vs:List Value)(h:Heap)(Q:VH):oD(some vs)h Q=Q(aJ vs)h:=rfl
def UQ(S:Sx)(rs:List ResultVar)(Q:VH)(x:Exit)(E:Fr)(h:Heap):Prop:=match x with
 | .normal=>oD(lC S E h rs)h Q
 | .ret=>oD(lC S E h rs)h Q
 | _=>False
@[go_sem] theorem TZ(S:Sx)(rs:List ResultVar)(Q:VH)(E:Fr)(h:Heap):UQ S rs Q .normal E h=oD(lC S E h rs)h Q:=rfl
@[go_sem] theorem WQ(S:Sx)(rs:List ResultVar)(Q:VH)(E:Fr)(h:Heap):UQ S rs Q .ret E h=oD(lC S E h rs)h Q:=rfl
@[go_sem] theorem V3(S:Sx)(E:Fr)(h:Heap):lC S E h []=some []:=rfl
@[go_sem] theorem W7(S:Sx)(E:Fr)(h:Heap)(t:Tmp)(r:List ResultVar):lC S E h(.tmp t :: r)=(lC S E h r).map(E t :: ·):=rfl
def Jn(args:List Value):Fr:=fun t=>args.getD t undef
@[go_sem] theorem VE(v:Value)(l:List Value):Jn(v :: l)0=v:=rfl
@[go_sem] theorem VN(v:Value)(l:List Value)(n:Nat):Jn(v :: l)(n + 1)=Jn l n:=rfl
@[go_sem] theorem Xi(n:Nat):Jn [] n=undef:=rfl
theorem VZ {f:FuncId}{fn:Func}{c:Code}{args:List Value}{h:Heap}{Q:VH}(hf:S.P.funcs[f]? = some fn)(hb:fn.body=some c)(hY:f < YB)(hp:S.pr f=none)(hl:args.length<=fn.ntmps)(hd:aG fn.ntmps c=true)
  (hw:yE S fn.ntmps c(Jn args)h(UQ S fn.results.toList Q)):FW S f args h Q:=by
 obtain⟨x,E',h',⟨n0,hr⟩,hq⟩:=gL c hd hw
 have ht:ER fn.ntmps(Jn args)(args ++ List.replicate(fn.ntmps - args.length)undef):=by
  refine⟨by simp; omega,fun t=>?_⟩
  show _=args.getD t undef
  simp af [List.getD_eq_getElem?_getD]
  by_cases h1:t < args.length
  · rw [List.getElem?_append_left h1]
  · rw [List.getElem?_append_right(by omega),List.getElem?_eq_none(l:=args)(by omega),List.getElem?_replicate]
   split <;> rfl
 have hres:∃ vs,lC S E' h' fn.results.toList=some vs/\Q(aJ vs)h'/\(x = .normal\/x = .ret):=by
  have key:oD(lC S E' h' fn.results.toList)h' Q->∃ vs,lC S E' h' fn.results.toList=some vs/\Q(aJ vs)h':=by
   intro hq
   cases hv:lC S E' h' fn.results.toList with
   | none=>rw [hv] at hq; exact hq.elim
   | some vs=>rw [hv] at hq; exact⟨vs,rfl,hq⟩
  cases x with
  | normal=>obtain⟨vs,h1,h2⟩:=key hq; exact⟨vs,h1,h2,.inl rfl⟩
  | ret=>obtain⟨vs,h1,h2⟩:=key hq; exact⟨vs,h1,h2,.inr rfl⟩
  | _=>exact hq.elim
 obtain⟨vs,hv,hq,hx⟩:=hres
 refine⟨aJ vs,h',⟨n0 + 1,fun n hn=>?_⟩,hq⟩
 obtain⟨n',rfl⟩: ∃ n',n=n' + 1 :=⟨n - 1,by omega⟩
 obtain⟨tm',ht',h3⟩:=hr n' n' (by omega)(by omega)_ ht
 simp af [aN]
 rw [if_neg(Nat.not_le.2 hY),hp]
 dsimp af
 rw [hf]
 dsimp af
 rw [hb]
 dsimp af
 rw [h3]
 rcases hx with rfl | rfl
 · dsimp af; rw [yx ht',hv]; rfl
 · dsimp af; rw [yx ht',hv]; rfl
end
end Go.Ab
end
section
namespace Go.Ab
open Go
section
variable(gl:Nat->Bool)(E:Fr)
@[go_sem] theorem XE(t:Tmp):bG gl E(.tmp t)=E t:=rfl
@[go_sem] theorem WD(f:FuncId):bG gl E(.func f) = .func(.func f) #[] #[]:=rfl
@[go_sem] theorem WV(b:Bool):bG gl E(.const(.bool b)) = .bool b:=rfl
@[go_sem] theorem XL(k:IntKind)(n:Int):bG gl E(.const(.int k n)) = .int k n:=rfl
@[go_sem] theorem Vf(s:ByteArray):bG gl E(.const(.string s)) = .string s:=rfl
@[go_sem] theorem Tp:bG gl E(.const(.slice none 0 0)) = .slice none 0 0:=rfl
@[go_sem] theorem UH:bG gl E(.const(.pointer none)) = .pointer none:=rfl
@[go_sem] theorem TT:bG gl E(.const .nilFunc) = .nilFunc:=rfl
@[go_sem] theorem UE:bG gl E(.const(.map none)) = .map none:=rfl
@[go_sem] theorem Rr:bG gl E(.const .nilIface) = .nilIface:=rfl
@[go_sem] theorem map_nil {α β:Type}(f:α->β) : [].map f=([] : List β):=rfl
@[go_sem] theorem map_cons {α β:Type}(f:α->β)(a:α)(l:List α):(a :: l).map f=f a :: l.map f:=rfl
end
section
variable(S:Sx)(E:Fr)(dst:Option Tmp)(ty:TypeId)(pos:String)(after:Array Edge)(guard:Option(Nat × Bool))(h:Heap)(K:VH)
theorem dN {o:Oper}(hc:aF o=false):dE S E o h K=FZ(aL S.P dh(bG S.gl E)o h)h K:=by
 unfold dE
 split
 · next e=>unfold aF at hc; rw [e] at hc; cases hc
 · rfl
theorem Q2 {P:Program}{ρ:Operand->Value}{o:Oper}(h1:∀ h,aD P ρ o=none->aL P dh ρ o h=none):FZ(aL P dh ρ o h)h K=nW(aD P ρ o)h K:=by
 cases hp:aD P ρ o with
 | none=>rw [h1 h hp]; rfl
 | some v=>unfold aL; rw [hp]; rfl
def eS:Op->Bool
 | .move _ | .assign _ | .pick .. | .build .. | .nilCheck _ | .binOp .. | .unOp .. | .makeInterface .. | .makeFunc .. | .fieldAddr .. | .field .. | .indexAddr .. | .index .. | .typeAssert .. | .extract ..=>true
 | .call { callee:= .builtin .max,.. } | .call { callee:= .builtin .min,.. } | .call { callee:= .builtin .cap,.. }=>true
 | _=>false
theorem MA {P:Program}{ρ:Operand->Value}{op:Op}(hp:eS op=true)(h:Heap)(h1:aD P ρ⟨dst,op,ty,pos,after,guard⟩= none):aL P dh ρ⟨dst,op,ty,pos,after,guard⟩h=none:=by
 unfold aL
 rw [h1]
 unfold eS at hp
 split at hp <;> first | rfl | cases hp
theorem JW {op:Op}(hp:eS op=true):aF⟨dst,op,ty,pos,after,guard⟩= false:=by
 unfold eS at hp
 split at hp <;> first | rfl | cases hp
theorem bC {op:Op}(hp:eS op=true):dE S E⟨dst,op,ty,pos,after,guard⟩h K=nW(aD S.P(bG S.gl E)⟨dst,op,ty,pos,after,guard⟩)h K:=by
 rw [dN S E h K(JW dst ty pos after guard hp)]
 exact Q2 h K fun h h1=>MA dst ty pos after guard hp h h1
def K0(c x y:Value):Option Value:=match c with
 | .bool t=>some(if t then x else y)
 | _=>none
@[go_sem] theorem Vg(x y:Value):K0(.bool true)x y=some x:=rfl
@[go_sem] theorem TM(x y:Value):K0(.bool false)x y=some y:=rfl
def PU(v:Value)(i:Nat):Option Value:=match v with
 | .tuple vs=>vs[i]?
 | _=>none
@[go_sem] theorem UK(v:Value)(l:List Value):PU(.tuple⟨v :: l⟩)0=some v:=rfl
def aR(P:Program)(t:TypeId)(x i:Value):Option Value:=match P.underlying t,x,i with
  | some(.array len e),.agg cs,.int _ j=>match au P e with
   | some n=>if 0<=j/\j < (len:Int) then gJ P e cs(j.toNat * n) else none
   | none=>none
  | some .string,.string s,.int _ j=>if 0<=j then match s.data.toList[j.toNat]? with | some b=>some(.int .u8 b.toNat) | none=>none else none
  | _,_,_=>none
def ag(P:Program)(t:TypeId)(x i:Value):Option Value:=match P.underlying t,x,i with
  | some(.array len e),.pointer(some a),.int _ j=>match au P e with
   | some n=>if 0<=j/\j < (len:Int) then some(.pointer(some(a.add(j.toNat * n)))) else none
   | none=>none
  | some(.slice e),.slice(some a)len _,.int _ j=>match au P e with
   | some n=>if 0<=j/\j < (len:Int) then some(.pointer(some(a.add(j.toNat * n)))) else none
   | none=>none
  | _,_,_=>none
def ah(P:Program)(s:TypeId)(x:Value)(f:Nat):Option Value:=match P.underlying s,x with
  | some(.struct fields),.pointer(some a)=>match fields[f]? with
   | some fd=>if(au P fd.type).any(·≠0) then some(.pointer(some(a.add fd.offset))) else none
   | none=>none
  | _,_=>none
def NV(P:Program)(t:TypeId)(x:Value)(f:Nat):Option Value:=match P.underlying t,x with
  | some(.struct fields),.agg cs=>match fields[f]? with
   | some fd=>gJ P fd.type cs fd.offset
   | none=>none
  | _,_=>none
noncomputable def GG(P:Program)(t:TypeId)(x:Value)(h:Heap):Option Value:=match P.underlying t,x with
   | some .string,.string s=>some(.int .i64 s.data.toList.length)
   | some(.array n _),_=>some(.int .i64 n)
   | some(.slice _),.slice _ n _=>some(.int .i64 n)
   | some(.map ..),.map none=>some(.int .i64 0)
   | some(.map ..),.map(some r)=>match h.get r with
    | some(.map es)=>some(.int .i64 es.length)
    | _=>none
   | _,_=>none
@[go_sem] theorem VP(x:Operand):dE S E⟨dst,.move x,ty,pos,after,guard⟩h K=K(bG S.gl E x)h:=rfl
@[go_sem] theorem TY(x:Operand):dE S E⟨dst,.assign x,ty,pos,after,guard⟩h K=K(bG S.gl E x)h:=rfl
@[go_sem] theorem Ni(c a b:Operand):dE S E⟨dst,.pick c a b,ty,pos,after,guard⟩h K=nW(K0(bG S.gl E c)(bG S.gl E a)(bG S.gl E b))h K:=bC S E dst ty pos after guard h K rfl
@[go_sem] theorem J4(op:BinOp)(t u:TypeId)(x y:Operand):dE S E⟨dst,.binOp op t x y u,ty,pos,after,guard⟩h K=nW(an S.P op t(bG S.gl E x)(bG S.gl E y))h K:=bC S E dst ty pos after guard h K rfl
@[go_sem] theorem NI(op:UnOp)(t:TypeId)(x:Operand):dE S E⟨dst,.unOp op t x,ty,pos,after,guard⟩h K=nW(zC op(bG S.gl E x))h K:=bC S E dst ty pos after guard h K rfl
@[go_sem] theorem EL(x:Operand)(i:Nat):dE S E⟨dst,.extract x i,ty,pos,after,guard⟩h K=nW(PU(bG S.gl E x)i)h K:=bC S E dst ty pos after guard h K rfl
@[go_sem] theorem Jc(t:TypeId)(x i:Operand):dE S E⟨dst,.index t x i,ty,pos,after,guard⟩h K=nW(aR S.P t(bG S.gl E x)(bG S.gl E i))h K:=bC S E dst ty pos after guard h K rfl
@[go_sem] theorem zn(t:TypeId)(x i:Operand):dE S E⟨dst,.indexAddr t x i,ty,pos,after,guard⟩h K=nW(ag S.P t(bG S.gl E x)(bG S.gl E i))h K:=bC S E dst ty pos after guard h K rfl
@[go_sem] theorem Bh(t:TypeId)(x:Operand)(f:Nat):dE S E⟨dst,.fieldAddr t x f,ty,pos,after,guard⟩h K=nW(ah S.P t(bG S.gl E x)f)h K:=bC S E dst ty pos after guard h K rfl
@[go_sem] theorem JX(t:TypeId)(x:Operand)(f:Nat):dE S E⟨dst,.field t x f,ty,pos,after,guard⟩h K=nW(NV S.P t(bG S.gl E x)f)h K:=bC S E dst ty pos after guard h K rfl
@[go_sem] theorem QF(args:Array Operand)(ts:Array TypeId):dE S E⟨dst,.call⟨.builtin .max,args,ts⟩,ty,pos,after,guard⟩h K=nW(km true(args.toList.map(bG S.gl E)))h K:=bC S E dst ty pos after guard h K rfl
@[go_sem] theorem PO(args:Array Operand)(ts:Array TypeId):dE S E⟨dst,.call⟨.builtin .min,args,ts⟩,ty,pos,after,guard⟩h K=nW(km false(args.toList.map(bG S.gl E)))h K:=bC S E dst ty pos after guard h K rfl
theorem lZ(o:Oper)(h1:aF o=false)(h2:aD S.P(bG S.gl E)o=none)(h3:aH S.P(bG S.gl E)o=none)(h4:bA S.P dh(bG S.gl E)o h=none):dE S E o h K=nW(aI S.P(bG S.gl E)o h)h K:=by
 rw [dN S E h K h1]
 unfold aL
 rw [h2]
 dsimp af
 cases aI S.P(bG S.gl E)o h with
 | some v=>rfl
 | none=>dsimp af; rw [h3]; dsimp af; rw [h4]; rfl
@[go_sem] theorem Ms(t:TypeId)(a:Operand):dE S E⟨dst,.load t a,ty,pos,after,guard⟩h K=nW(ai S.P t h(bG S.gl E a))h K:=lZ S E h K _ rfl rfl rfl rfl
@[go_sem] theorem JK(t:TypeId)(x:Operand)(lo hi mx:Option Operand):dE S E⟨dst,.slice t x lo hi mx,ty,pos,after,guard⟩h K=nW(aM S.P t(bG S.gl E x)(lo.map(bG S.gl E))(hi.map(bG S.gl E))(mx.map(bG S.gl E))h)h K:=lZ S E h K _ rfl rfl rfl rfl
@[go_sem] theorem Qs(x:Operand)(t:TypeId):dE S E⟨dst,.call⟨.builtin .len,#[x],#[t]⟩,ty,pos,after,guard⟩h K=nW(GG S.P t(bG S.gl E x)h)h K:=lZ S E h K _ rfl rfl rfl rfl
@[go_sem] theorem VW(f:Operand)(args:Array Operand)(ts:Array TypeId):dE S E⟨dst,.call⟨.value f,args,ts⟩,ty,pos,after,guard⟩h K=lF S(bG S.gl E f)(args.toList.map(bG S.gl E))h K:=rfl
theorem sO(o:Oper)(h1:aF o=false)(h2:aD S.P(bG S.gl E)o=none)(h3:aI S.P(bG S.gl E)o h=none)(h4:aH S.P(bG S.gl E)o=none):dE S E o h K=FZ(bA S.P dh(bG S.gl E)o h)h K:=by
 rw [dN S E h K h1]
 unfold aL
 rw [h2]
 dsimp af
 rw [h3]
 dsimp af
 rw [h4]
@[go_sem] theorem Hh(s x:Operand)(t t' : TypeId):dE S E⟨dst,.call⟨.builtin .append,#[s,x],#[t,t']⟩,ty,pos,after,guard⟩h K=FZ(aC S.P t t' (bG S.gl E s)(bG S.gl E x)h)h K:=sO S E h K _ rfl rfl rfl rfl
@[go_sem] theorem zQ(t:TypeId)(a x:Operand):dE S E⟨dst,.store t a x,ty,pos,after,guard⟩h K=FZ(am S.P t(bG S.gl E a)(bG S.gl E x)h)h K:=sO S E h K _ rfl rfl rfl rfl
def Xf(r:Option(Blk × (Nat->Value)))(h:Heap)(K:VH):Prop:=match r with
 | some(B,f)=>K(f h.next)(h.push B)
 | none=>False
@[go_sem] theorem Wd(B:Blk)(f:Nat->Value)(h:Heap)(K:VH):Xf(some(B,f))h K=K(f h.next)(h.push B):=rfl
theorem ia (o:Oper)(h1:aF o=false)(h2:aD S.P(bG S.gl E)o=none)(h3:aI S.P(bG S.gl E)o h=none)(h4:bA S.P dh(bG S.gl E)o h=none):dE S E o h K=Xf(aH S.P(bG S.gl E)o)h K:=by
 rw [dN S E h K h1]
 unfold aL
 rw [h2]
 dsimp af
 rw [h3]
 dsimp af
 cases aH S.P(bG S.gl E)o with
 | some r=>obtain⟨B,f⟩:=r; rfl
 | none=>dsimp af; rw [h4]; rfl
end
section
variable {S:Sx}{g:FuncId}{first captured:Array Value}{args:List Value}{h:Heap}{K:VH}
end
section
variable(P:Program)(t:TypeId)(k:IntKind)(a b:Int)
theorem Ez(hb:b≠0):an P .quo t(.int k a)(.int k b)=some(.int k(k.wrap(a.tdiv b))):=by simp [an,hb]
theorem SG(hb:b≠0):an P .rem t(.int k a)(.int k b)=some(.int k(a.tmod b)):=by simp [an,hb]
variable(x y:ByteArray)
@[go_sem] theorem Wq:an P .eql t(.string x)(.string y)=some(.bool(x.data.toList == y.data.toList)):=rfl
@[go_sem] theorem Xc:an P .neq t(.string x)(.string y)=some(.bool !(x.data.toList == y.data.toList)):=rfl
@[go_sem] theorem Ww(b:Bool):zC .not(.bool b)=some(.bool !b):=rfl
end
end Go.Ab
end
section
namespace Go.Ab
open Go Go.RowKit
variable {β:Inj}{P:Program}{gl:Nat->Bool}
theorem OU {cf:aY}{tm:List Value}{a:Act}{h:Heap}{w:World}{o:Oper}{v:Value}{u:Upd}(hs:Sim β h w)(hg:Gl gl β)(ht:LRel β tm a.tmps.toList)(hc:aF o=false)(hr:aL P cf(ev gl tm)o h=some(v,u)) :
  ∃ v' w' β',Step β h w β' (u.app h)w'/\VRel β' v v'/\((execOp a.eval o).run P w = .ok(.value v')w'\/((execOp a.eval o).run P w = .ok .skip w'/\v' = undef)):=by
 have hρ:=vG(β:=β)hg ht
 unfold aL at hr
 split at hr
 · next v0 hp =>
  simp af [Option.some.injEq,Prod.mk.injEq] at hr
  obtain⟨rfl,rfl⟩:=hr
  obtain⟨v',h1,h2⟩:=mF hρ hp w
  exact⟨v',w,β,Step.refl hs,h2,.inl h1⟩
 · split at hr
  · next v0 hp =>
   simp af [Option.some.injEq,Prod.mk.injEq] at hr
   obtain⟨rfl,rfl⟩:=hr
   obtain⟨v',h1,h2⟩:=nh hρ hs hp
   exact⟨v',w,β,Step.refl hs,h2,.inl h1⟩
  · split at hr
   · next B f hp =>
    simp af [Option.some.injEq,Prod.mk.injEq] at hr
    obtain⟨rfl,rfl⟩:=hr
    obtain⟨v',w',h1,h2⟩:=kQ hρ(w:=w)hp
    obtain⟨β',h3,h4⟩:=h2.step hs
    exact⟨v',w',β',h3,h4,.inl h1⟩
   · obtain⟨v',w',β',h1,h2,h3⟩:=wb hρ hc hs hr
    rcases h1 with h1 |⟨h1,rfl⟩
    · exact⟨v',w',β',h2,h3,.inl h1⟩
    · exact⟨undef,w',β',h2,h3,.inr⟨h1,rfl⟩⟩
theorem Tm {cf:aY}{ops:Array Oper}{cs:List Frame}(Q:Exit->Act->List Frame->World->Prop):∀ (rest:List Oper)(i:Nat){β:Inj}{tm tm' : List Value}{a:Act}{h h' : Heap}{w:World},
  ops.toList.drop i=rest->(rest.all fun o=>!aF o)=true->dg P gl cf ops rest tm h=some(tm',h')->Sim β h w->Gl gl β->LRel β tm a.tmps.toList->
  (∀ a' w' β',Step β h w β' h' w'->LRel β' tm' a'.tmps.toList->a'.defers=a.defers->Q .normal a' cs w')->wpOpsS P ops Q(List.range' i rest.length)a cs w
 | [],i,β,tm,tm',a,h,h',w,hd,_,hr,hs,hg,ht,hk=>by
  simp af [dg,Option.some.injEq,Prod.mk.injEq] at hr
  obtain⟨rfl,rfl⟩:=hr
  exact hk a w β(Step.refl hs)ht rfl
 | o :: rest,i,β,tm,tm',a,h,h',w,hd,hall,hr,hs,hg,ht,hk=>by
  have ho:ops[i]? = some o:=by
   have:(ops.toList.drop i)[0]? = some o:=by rw [hd]; rfl
   rw [List.getElem?_drop] at this
   rw [<- Array.getElem?_toList]; simpa using this
  have hd' : ops.toList.drop(i + 1)=rest:=by rw [<- List.drop_drop,hd]; rfl
  simp af [List.all_cons,Bool.and_eq_true,Bool.not_eq_true'] at hall
  simp af [List.length_cons,List.range'_succ,wpOpsS,ho]
  simp af [dg] at hr
  split at hr
  · next hw =>
   rw [gO ht hw]
   simp af [if_true]
   split at hr
   · next v u hop =>
    obtain⟨v',w',β',hst,hv,hrun⟩:=OU hs hg ht hall.1 hop
    have hgo:=Tm(cs:=cs)Q rest(i + 1)hd' (by simpa using hall.2)hr hst.sim(hg.mono hst.le)(fF(ht.mono hst.le)o.dst hv)fun a' w2 β2 h1 h2 h3=>hk a' w2 β2(hst.trans h1)h2(h3.trans(bK a o.dst v'))
    rcases hrun with hrun |⟨hrun,rfl⟩
    · rw [hrun]; exact hgo
    · rw [hrun]; exact hgo
   · cases hr
  · next hw =>
   rw [gO ht hw]
   simp af [Bool.false_eq_true,if_false]
   exact Tm(cs:=cs)Q rest(i + 1)hd' (by simpa using hall.2)hr hs hg(fF ht o.dst(.undef β))fun a' w2 β2 h1 h2 h3=>hk a' w2 β2 h1 h2(h3.trans(bK a o.dst undef))
  · cases hr
noncomputable def KF(P:Program)(fn:Func)(ops0 ops1:Array Oper)(c:Operand)(n:Nat):Bool:=
 match ops0.toList with
 | o :: rest=>match o.dst with
  | some d=>match dg P nP dh ops0 rest((List.replicate n junk ++ List.replicate(fn.ntmps - n)undef).set d .nilIface)⟨0,.nil⟩with
   | some(tm1,h1)=>match dg P nP dh ops1 ops1.toList tm1 h1 with
    | some(tm2,_)=>match ev nP tm2 c with
     | .bool false=>(rest.all fun o=>!aF o) && (ops1.toList.all fun o=>!aF o) && o.guard.isNone && fn.results.size == 0
     | _=>false
    | none=>false
   | none=>false
  | none=>false
 | []=>false
theorem SJ {fC:FuncId}{fn:Func}{i0 i1 n:Nat}{o0:Oper}{rest0:List Oper}{ops1:Array Oper}{c:Operand}{X:Code}(hf:P.funcs[fC]? = some fn)(hb:fn.body=some(.seq(.region i0(o0 :: rest0).toArray false)(.seq(.region i1 ops1 false)(.cond c X .skip))))
  (ho:o0.op = .call { callee:= .builtin .recover,args:= #[],argTypes:= #[] })(hrun:KF P fn(o0 :: rest0).toArray ops1 c n=true)(args:Array Value)(w:World)(hn:args.size=n) :
  CallsDIn Fence.wide 0 P fC args .returning w fun e u' w'=>(∃ v,e = .returned v)/\u' = .returning/\Below w.heap.size w w':=by
 subst hn
 unfold KF at hrun
 simp af at hrun
 split at hrun
 · next d hd =>
  split at hrun
  · next tm1 h1 hr1 =>
   split at hrun
   · next tm2 h2 hr2 =>
    split at hrun
    · next hev =>
     simp af [Bool.and_eq_true,beq_iff_eq,Option.isNone_iff_eq_none] at hrun
     obtain⟨⟨⟨hall0,hall1⟩,hgd⟩,hres⟩:=hrun
     refine uT hf hb fun c₀ cs hu=>?_
     refine wpS_seq(wpS_region ?_)
     have hjunk:∀ (l:List Value),LRel β0(List.replicate l.length junk)l:=fun l =>⟨by simp,fun i v v' h1 h2=>by
      rw [List.getElem?_replicate] at h1
      split at h1
      · obtain rfl:=Option.some.inj h1; exact .junk v'
      · cases h1⟩
     have hrep:∀ k,LRel β0(List.replicate k undef)(List.replicate k undef):=fun k =>⟨rfl,fun i v v' h1 h2=>by
      rw [List.getElem?_replicate] at h1 h2
      split at h1
      · next hi=>rw [if_pos hi] at h2; obtain rfl:=Option.some.inj h1; obtain rfl:=Option.some.inj h2; exact .undef _
      · cases h1⟩
     have ht0:LRel β0(List.replicate args.size junk ++ List.replicate(fn.ntmps - args.size)undef)(args ++ Array.replicate(fn.ntmps - args.size)undef).toList:=by
      simp af [Array.toList_append,Array.toList_replicate]
      have:=hjunk args.toList
      rw [Array.length_toList] at this
      exact this.append(hrep _)
     have hw0:∀ t,Region.wanted o0(yielded(o0 :: rest0).toArray t)=true:=fun t=>by simp [Region.wanted,hgd]
     have hrec:∀ (ρ:Operand->Value),(execOp ρ o0).run P w = .ok .recover w:=fun ρ=>by
      unfold execOp
      simp af [ho,resolve,Sem.run_bind,Sem.run_pure,Result.andThen_ok,invoke]
      rfl
     have hnone:recoverD(c₀ :: cs)=none:=by simp [recoverD,hu]
     show wpOpsS P(o0 :: rest0).toArray _(List.range(rest0.length + 1))_ _ w
     rw [List.range_eq_range',List.range'_succ]
     rw [wpOpsS]
     simp af [List.getElem?_toArray,List.getElem?_cons_zero,hw0,if_true,hrec,hnone]
     rw [hd]
     refine Tm(cf:=dh)(gl:=nP)_ rest0 1(by simp)hall0 hr1(Fs 0 w)gl_nil(fF ht0(some d)(v:= .nilIface) .nilIface)fun a1 w1 β1 hst1 ht1 hd1=>?_
     refine wpS_seq(wpS_region ?_)
     rw [<- Array.length_toList,List.range_eq_range']
     refine Tm(cf:=dh)(gl:=nP)_ ops1.toList 0(by simp)hall1 hr2 hst1.sim(gl_nil.mono hst1.le)ht1 fun a2 w2 β2 hst2 ht2 hd2=>?_
     refine wpS_cond(t:=false) ?_ ?_
     · have:=vG(gl_nil.mono(hst1.trans hst2).le)ht2 c
      rw [hev] at this
      exact this.inv_bool
     · show Code.wpS P .skip _ a2(c₀ :: cs)w2
      refine wpS_of_wp(wp_skip ?_)
      refine⟨hd2.trans(hd1.trans(bK _ _ _)),.returning,by cases c₀; simp_all,.tuple #[],?_,⟨⟨_,rfl⟩,rfl,qC(hst1.trans hst2)⟩⟩
      have:fn.results = #[]:=Array.eq_empty_of_size_eq_zero hres
      simp [results,this]
    · cases hrun
   · cases hrun
  · cases hrun
 · cases hrun
end Go.Ab
end
section
namespace Go.Proofs.YtoabjjimjldcfaaGreatDoor
open Go Go.Ab Go.RowKit
theorem SI:(((Tryz.prog.funcs.toList.drop 0).take 40).all fun f=>cw f)=true:=by kernel_rfl
theorem So:(((Tryz.prog.funcs.toList.drop 40).take 40).all fun f=>cw f)=true:=by kernel_rfl
theorem RR:(((Tryz.prog.funcs.toList.drop 80).take 40).all fun f=>cw f)=true:=by kernel_rfl
theorem Tc:(((Tryz.prog.funcs.toList.drop 120).take 40).all fun f=>cw f)=true:=by kernel_rfl
theorem R4:(((Tryz.prog.funcs.toList.drop 160).take 40).all fun f=>cw f)=true:=by kernel_rfl
theorem SN:(((Tryz.prog.funcs.toList.drop 200).take 40).all fun f=>cw f)=true:=by kernel_rfl
theorem Lo:Tryz.prog.funcs.toList.length=230:=by kernel_rfl
theorem OM(i:Nat)(fn:Func)(h:Tryz.prog.funcs.toList[i]? = some fn):cw fn=true:=by
 have key:∀ a,((Tryz.prog.funcs.toList.drop a).take 40).all(fun f=>cw f)=true->a<=i->i < a + 40->cw fn=true:=fun a ha h1 h2=>by
  refine List.all_eq_true.1 ha fn(List.mem_of_getElem? (i:=i - a) ?_)
  rw [List.getElem?_take,if_pos(by omega),List.getElem?_drop,show a + (i - a)=i by omega]
  exact h
 have hlt:i < 230:=by
  have:=(List.getElem?_eq_some_iff.1 h).1
  rw [Lo] at this; exact this
 by_cases h0:i < 40
 · exact key 0 SI(by omega)(by omega)
 by_cases h1:i < 80
 · exact key 40 So(by omega)(by omega)
 by_cases h2:i < 120
 · exact key 80 RR(by omega)(by omega)
 by_cases h3:i < 160
 · exact key 120 Tc(by omega)(by omega)
 by_cases h4:i < 200
 · exact key 160 R4(by omega)(by omega)
 exact key 200 SN(by omega)(by omega)
theorem NS:(Tryz.prog.funcs.toList.all fun f=>!(f.name == "runtime.NumGoroutine"))=true:=by kernel_rfl
theorem text_ok:TextOk Tryz.prog:={
 names:=fun _ fn h=>by
  have hm:fn∈Tryz.prog.funcs.toList:=by
   rw [<- Array.getElem?_toList] at h
   exact List.mem_of_getElem? h
  have:=List.all_eq_true.1 NS fn hm
  simpa using this
 draws:=fun f fn h=>OM f fn(by rw [Array.getElem?_toList]; exact h) }
theorem Ce:gf Tryz.prog nP 194 gE:=wO(fn:=(Tryz.prog.funcs[194]?).getD default)(by kernel_rfl)(by kernel_rfl)(by kernel_rfl)(by kernel_rfl)(by kernel_rfl)
theorem zT:gf Tryz.prog nP 196 dK:=un(fn:=(Tryz.prog.funcs[196]?).getD default)(by kernel_rfl)(by kernel_rfl)(by kernel_rfl)(by kernel_rfl)(by kernel_rfl)
def seqL:Code->Code
 | .seq a _=>a
 | c=>c
def seqR:Code->Code
 | .seq _ b=>b
 | c=>c
noncomputable def D4:Code:=(Tryz.f134.body).getD .skip
theorem tD(args:Array Value)(w:World)(h:args.size=2):CallsDIn Fence.wide 0 Tryz.prog 157 args .returning w fun e u' w'=>(∃ v,e = .returned v)/\u' = .returning/\Below w.heap.size w w':=
 SJ(n:=2)Tryz.func157 rfl rfl(by kernel_rfl)args w h
theorem Ew:gf Tryz.prog nP 134(rx Tryz.prog nP Tryz.f134(seqL D4)(seqR(seqR D4))5):=
 HA text_ok.names Tryz.func134 rfl rfl rfl rfl rfl rfl rfl Tryz.func157 rfl tD(by kernel_rfl)(by kernel_rfl)
noncomputable def Xj:nI:=[(194,.noEsc),(196,.idxByte),(134,.defer Tryz.f134(seqL D4)(seqR(seqR D4))5)]
theorem RV:oE Tryz.prog nP Xj:=eU Ce(eU zT(eU Ew(C8)))
end Go.Proofs.YtoabjjimjldcfaaGreatDoor
end
section
namespace Go.Proofs.YtoabjjimjldcfaaGreatDoor
open Go Go.Ab
def Rm:Nat->Bool:=fun g=>Nat.beq g 1
noncomputable def Xw:nI:=(9,.memo [([],.bool true)]) :: Xj
noncomputable def SS:Sx :=⟨Tryz.prog,Rm,Ej Tryz.prog Rm Xw⟩
@[go_sem] theorem Zf:SS.P=Tryz.prog:=rfl
@[go_sem] theorem Y0:SS.gl=Rm:=rfl
attribute [go_sem] Tryz.underlying0 Tryz.underlying1 Tryz.underlying2 Tryz.underlying3 Tryz.underlying4 Tryz.underlying5 Tryz.underlying6 Tryz.underlying7 Tryz.underlying8 Tryz.underlying9 Tryz.underlying10 Tryz.underlying11 Tryz.underlying12 Tryz.underlying13 Tryz.underlying14 Tryz.underlying15 Tryz.underlying16 Tryz.underlying17 Tryz.underlying18 Tryz.underlying19 Tryz.underlying20 Tryz.underlying21 Tryz.underlying22 Tryz.underlying23 Tryz.underlying24 Tryz.underlying25 Tryz.underlying26 Tryz.underlying27 Tryz.underlying28 Tryz.underlying29 Tryz.underlying30 Tryz.underlying31 Tryz.underlying32 Tryz.underlying33 Tryz.underlying34 Tryz.underlying35 Tryz.underlying36 Tryz.underlying37 Tryz.underlying38 Tryz.underlying39 Tryz.underlying40 Tryz.underlying41 Tryz.underlying42 Tryz.underlying43 Tryz.underlying44 Tryz.underlying45 Tryz.underlying46 Tryz.underlying47 Tryz.underlying48 Tryz.underlying49 Tryz.underlying50 Tryz.underlying51 Tryz.underlying52 Tryz.underlying53 Tryz.underlying54 Tryz.underlying55 Tryz.underlying56 Tryz.underlying57 Tryz.underlying58 Tryz.underlying59 Tryz.underlying60 Tryz.underlying61 Tryz.underlying62 Tryz.underlying63 Tryz.underlying64 Tryz.underlying65 Tryz.underlying66 Tryz.underlying67 Tryz.underlying68 Tryz.underlying69 Tryz.underlying70 Tryz.underlying71 Tryz.underlying72 Tryz.underlying73 Tryz.underlying74 Tryz.underlying75 Tryz.underlying76 Tryz.underlying77 Tryz.underlying78 Tryz.underlying79 Tryz.underlying80 Tryz.underlying81 Tryz.underlying82 Tryz.underlying83 Tryz.underlying84 Tryz.underlying85 Tryz.underlying86 Tryz.underlying87 Tryz.underlying88 Tryz.underlying89 Tryz.underlying90 Tryz.underlying91 Tryz.underlying92 Tryz.underlying93 Tryz.underlying94 Tryz.underlying95 Tryz.underlying96 Tryz.underlying97 Tryz.underlying98 Tryz.underlying99 Tryz.underlying100 Tryz.underlying101 Tryz.underlying102 Tryz.underlying103 Tryz.underlying104 Tryz.underlying105 Tryz.underlying106 Tryz.underlying107 Tryz.underlying108 Tryz.underlying109 Tryz.underlying110 Tryz.underlying111 Tryz.underlying112 Tryz.underlying113 Tryz.underlying114 Tryz.underlying115 Tryz.underlying116 Tryz.underlying117 Tryz.underlying118 Tryz.underlying119 Tryz.underlying120 Tryz.underlying121 Tryz.underlying122 Tryz.underlying123 Tryz.underlying124 Tryz.underlying125 Tryz.underlying126 Tryz.underlying127 Tryz.underlying128 Tryz.underlying129 Tryz.underlying130 Tryz.underlying131 Tryz.underlying132 Tryz.underlying133 Tryz.underlying134 Tryz.underlying135 Tryz.underlying136 Tryz.underlying137 Tryz.underlying138 Tryz.underlying139 Tryz.underlying140 Tryz.underlying141 Tryz.underlying142 Tryz.underlying143 Tryz.underlying144 Tryz.underlying145 Tryz.underlying146 Tryz.underlying147 Tryz.underlying148 Tryz.underlying149 Tryz.underlying150 Tryz.underlying151 Tryz.underlying152 Tryz.underlying153 Tryz.underlying154 Tryz.underlying155 Tryz.underlying156 Tryz.underlying157 Tryz.underlying158 Tryz.underlying159 Tryz.underlying160 Tryz.underlying161 Tryz.underlying162 Tryz.underlying163 Tryz.underlying164 Tryz.underlying165 Tryz.underlying166 Tryz.underlying167 Tryz.underlying168 Tryz.underlying169 Tryz.underlying170 Tryz.underlying171 Tryz.underlying172 Tryz.underlying173 Tryz.underlying174 Tryz.underlying175 Tryz.underlying176 Tryz.underlying177 Tryz.underlying185 Tryz.underlying186 Tryz.underlying188 Tryz.underlying189 Tryz.underlying191 Tryz.underlying192 Tryz.underlying194 Tryz.underlying195 Tryz.underlying196 Tryz.underlying197 Tryz.underlying198 Tryz.underlying199 Tryz.underlying201
end Go.Proofs.YtoabjjimjldcfaaGreatDoor
end
section
namespace Go.Ab
open Go
noncomputable section
def ax(b:Bool)(A B:Prop):Prop:=Bool.rec(motive:=fun _=>Prop)B A b
theorem ae {b:Bool}{A B:Prop}(h1:b=true->A)(h2:b=false->B):ax b A B:=by
 cases b with
 | true=>exact h1 rfl
 | false=>exact h2 rfl
theorem uM {b:Bool}{A B:Prop}(h:ax b A B):(b=true/\A)\/(b=false/\B):=by
 cases b with
 | true=>exact .inl⟨rfl,h⟩
 | false=>exact .inr⟨rfl,h⟩
abbrev TS:=List Value
abbrev ak:=Exit->TS->Heap->Prop
abbrev TH:=TS->Heap->Prop
def fr(tm:TS):Fr:=fun t=>tm.getD t undef
def KO(P:Program)(t:TypeId)(K:Value->Prop):Prop:=match P.underlying t with
 | some(.int k)=>∃ n:Int,K(.int k n)
 | some .bool=>∃ b:Bool,K(.bool b)
 | some .string=>∃ l:List UInt8,K(aa l)
 | some(.slice _)=>∃ (a:Option Addr)(n c:Nat),K(.slice a n c)
 | some(.pointer _)=>∃ a:Option Addr,K(.pointer a)
 | some(.struct _)=>∃ cs:List Value,K(.agg⟨cs⟩)
 | some(.array ..)=>∃ cs:List Value,K(.agg⟨cs⟩)
 | some(.func ..)=>∃ (g:Nat)(a c:List Value),K(.func(.func g)⟨a⟩⟨c⟩)
 | _=>∃ v:Value,K v
def Uh(P:Program):List TypeId->(List Value->Prop)->Prop
 | [],K=>K []
 | t :: ts,K=>KO P t fun x=>Uh P ts fun xs=>K(x :: xs)
def KY(P:Program)(t:TypeId)(K:Value->Prop):Prop:=match P.underlying t with
 | some(.tuple ts)=>Uh P ts.toList fun vs=>K(.tuple⟨vs⟩)
 | _=>KO P t K
theorem BD {P:Program}{t:TypeId}{K:Value->Prop}(hx:KO P t K):∃ v,K v:=by
 unfold KO at hx
 split at hx
 · obtain⟨_,h⟩:=hx; exact⟨_,h⟩
 · obtain⟨_,h⟩:=hx; exact⟨_,h⟩
 · obtain⟨_,h⟩:=hx; exact⟨_,h⟩
 · obtain⟨_,_,_,h⟩:=hx; exact⟨_,h⟩
 · obtain⟨_,h⟩:=hx; exact⟨_,h⟩
 · obtain⟨_,h⟩:=hx; exact⟨_,h⟩
 · obtain⟨_,h⟩:=hx; exact⟨_,h⟩
 · obtain⟨_,_,_,h⟩:=hx; exact⟨_,h⟩
 · exact hx
theorem CQ {P:Program} : ∀ {ts:List TypeId}{K:List Value->Prop},Uh P ts K->∃ vs,K vs
 | [],_,hx =>⟨_,hx⟩
 | t :: ts,K,hx=>by
  obtain⟨x,h⟩:=BD hx
  obtain⟨xs,h⟩:=CQ h
  exact⟨_,h⟩
theorem r8 {P:Program}{t:TypeId}{K:Value->Prop}(hx:KY P t K):∃ v,K v:=by
 unfold KY at hx
 split at hx
 · obtain⟨_,h⟩:=CQ hx; exact⟨_,h⟩
 · exact BD hx
def Kq(P:Program)(t:TypeId)(r:Option Value)(h:Heap)(K:VH):Prop:=KY P t fun x=>r=some x/\K x h
def XU(r:Option Value)(h:Heap)(K:VH):Prop:= ∃ a:Addr,r=some(.pointer(some a))/\K(.pointer(some a))h
def WN(r:Option(Value × Upd))(h:Heap)(K:VH):Prop:= ∃ v u,r=some(v,u)/\K v(u.app h)
def Yq(r:Option(Value × Upd))(h:Heap)(K:VH):Prop:= ∃ u,r=some(undef,u)/\K undef(u.app h)
def YR(r:Option(Value × Upd))(h:Heap)(K:VH):Prop:= ∃ (a:Option Addr)(n c:Nat)(u:Upd),r=some(.slice a n c,u)/\K(.slice a n c)(u.app h)
def ks(k:Nat):Value:= .pointer(some⟨k,0,none⟩)
def mC(n c k:Nat):Value:= .slice(some⟨k,0,none⟩)n c
abbrev OA:Type:=Option Addr
abbrev LV:Type:=List Value
abbrev LB:Type:=List UInt8
abbrev pA(k:Nat):Value:= .pointer(some⟨k,0,none⟩)
abbrev sA(k n c:Nat):Value:= .slice(some⟨k,0,none⟩)n c
abbrev nA:Value:= .slice none 0 0
abbrev iA(n:Nat):Value:= .int .i64(n:Int)
abbrev xI(k:IntKind)(r:Option Value)(K:Int->Prop):Prop:= ∃ n:Int,r=some(.int k n)/\K n
abbrev xB(r:Option Value)(K:Bool->Prop):Prop:= ∃ b:Bool,r=some(.bool b)/\K b
abbrev xS(r:Option Value)(K:List UInt8->Prop):Prop:= ∃ l:List UInt8,r=some(aa l)/\K l
abbrev xL(r:Option Value)(K:Option Addr->Nat->Nat->Prop):Prop:= ∃ (a:Option Addr)(n c:Nat),r=some(.slice a n c)/\K a n c
abbrev xO(r:Option Value)(K:Option Addr->Prop):Prop:= ∃ a:Option Addr,r=some(.pointer a)/\K a
abbrev xP(r:Option Value)(K:Addr->Prop):Prop:= ∃ a:Addr,r=some(.pointer(some a))/\K a
abbrev xA(r:Option Value)(K:List Value->Prop):Prop:= ∃ cs:List Value,r=some(.agg⟨cs⟩)/\K cs
abbrev xF(r:Option Value)(K:Nat->List Value->List Value->Prop):Prop:= ∃ (g:Nat)(a c:List Value),r=some(.func(.func g)⟨a⟩⟨c⟩)/\K g a c
abbrev yI(k:IntKind)(r:Value)(K:Int->Prop):Prop:= ∃ n:Int,r = .int k n/\K n
abbrev yB(r:Value)(K:Bool->Prop):Prop:= ∃ b:Bool,r = .bool b/\K b
abbrev yS(r:Value)(K:List UInt8->Prop):Prop:= ∃ l:List UInt8,r=aa l/\K l
abbrev yL(r:Value)(K:Option Addr->Nat->Nat->Prop):Prop:= ∃ (a:Option Addr)(n c:Nat),r = .slice a n c/\K a n c
abbrev yA(r:Value)(K:List Value->Prop):Prop:= ∃ cs:List Value,r = .agg⟨cs⟩/\K cs
abbrev yV(r:Value)(K:Value->Prop):Prop:= ∃ v:Value,r=v/\K v
abbrev xU(r:Option(Value × Upd))(h:Heap)(K:Upd->Heap->Prop):Prop:= ∃ u:Upd,r=some(undef,u)/\K u(u.app h)
abbrev xE(r:Option(Value × Upd))(h:Heap)(K:Option Addr->Nat->Nat->Upd->Heap->Prop):Prop:= ∃ (a:Option Addr)(n c:Nat)(u:Upd),r=some(.slice a n c,u)/\K a n c u(u.app h)
abbrev xG(r:Option(Value × Upd))(h:Heap)(K:Value->Upd->Heap->Prop):Prop:= ∃ (v:Value)(u:Upd),r=some(v,u)/\K v u(u.app h)
abbrev xN(r:Option(Blk × (Nat->Value)))(h:Heap)(K:Blk->Heap->Prop):Prop:= ∃ B:Blk,r=some(B,ks)/\K B(h.push B)
abbrev xR(r:Option(Blk × (Nat->Value)))(h:Heap)(K:Blk->Nat->Nat->Heap->Prop):Prop:= ∃ (B:Blk)(n c:Nat),r=some(B,mC n c)/\K B n c(h.push B)
abbrev zN(r:Option(Blk × (Nat->Value)))(K:Blk->Prop):Prop:= ∃ B:Blk,r=some(B,ks)/\K B
abbrev zR(r:Option(Blk × (Nat->Value)))(K:Blk->Nat->Nat->Prop):Prop:= ∃ (B:Blk)(n c:Nat),r=some(B,mC n c)/\K B n c
def Ys(r:Option(Blk × (Nat->Value)))(h:Heap)(K:VH):Prop:= ∃ B,r=some(B,ks)/\K(ks h.next)(h.push B)
def Yw(r:Option(Blk × (Nat->Value)))(h:Heap)(K:VH):Prop:= ∃ B n c,r=some(B,mC n c)/\K(mC n c h.next)(h.push B)
def YX(r:Option(Blk × (Nat->Value)))(h:Heap)(K:VH):Prop:= ∃ B,r=some(B,fun k=>.map(some k))/\K(.map(some h.next))(h.push B)
def bj(P:Program)(t:TypeId):Option(Blk × (Nat->Value)):=aH P(fun _=>undef)⟨none,.alloc t,0,"",#[],none⟩
def fp(P:Program)(t:TypeId)(v:Value):Option(Blk × (Nat->Value)):=aH P(fun _=>v)⟨none,.box t(.tmp 0),0,"",#[],none⟩
def aX(P:Program)(t:TypeId)(l c:Value):Option(Blk × (Nat->Value)):=aH P(fun x=>match x with | .tmp 0=>l | _=>c)⟨none,.makeSlice t(.tmp 0)(.tmp 1),0,"",#[],none⟩
def az(P:Program)(t:TypeId)(len:Nat)(vs:List(Nat × Value)):Option(Blk × (Nat->Value)):=
 aH P(fun x=>match x with | .tmp i=>(vs.getD i(0,undef)).2 | _=>undef)⟨none,.buildSlice t len((List.range vs.length).map fun i=>((vs.getD i(0,undef)).1,.tmp i)).toArray,0,"",#[],none⟩
def OF(c a b:Value)(h:Heap)(K:VH):Prop:=match c with
 | .bool t=>ax t(K a h)(K b h)
 | _=>False
def UL(P:Program)(op:BinOp)(t ty:TypeId)(x y:Value)(h:Heap)(K:VH):Prop:=match op with
 | .quo | .rem | .shl | .shr=>Kq P ty(an P op t x y)h K
 | .add=>(match x with | .string _=>Kq P ty(an P .add t x y)h K | _=>nW(an P .add t x y)h K)
 | .eql=>(match x with | .pointer _=>Kq P ty(an P .eql t x y)h K | _=>nW(an P .eql t x y)h K)
 | .neq=>(match x with | .pointer _=>Kq P ty(an P .neq t x y)h K | _=>nW(an P .neq t x y)h K)
 | op=>nW(an P op t x y)h K
def N9(S:Sx)(ty:TypeId)(f:Value)(args:List Value)(h:Heap)(K:VH):Prop:=match f with
 | .func(.func g)first captured=>ax(Nat.blt g YB)(FW S g(first.toList ++ args ++ captured.toList)h fun v h=>KY S.P ty fun x=>v=x/\K x h)False
 | _=>False
def xw(P:Program)(s d:TypeId)(x:Value)(h:Heap):Option Value:=aI P(fun _=>x)⟨none,.convert s d(.tmp 0),0,"",#[],none⟩h
def X2(t:Option TypeDesc):Bool:=match t with
 | some .unsafePointer=>true
 | _=>false
def sB(P:Program)(t:TypeId)(m k x:Value)(h:Heap):Option(Value × Upd):=match P.underlying t,m with
  | some(.map kt _),.map(some r)=>match h.get r with
   | some(.map es)=>if nC P kt k then(iK P kt k x es).map fun es'=>(undef,.set r(.map es')) else none
   | _=>none
  | _,_=>none
def AY(P:Program)(t:TypeId):Option(Blk × (Nat->Value)):=aH P(fun _=>undef)⟨none,.makeMap t none,0,"",#[],none⟩
def VG(S:Sx)(ρ:Operand->Value)(o:Oper)(h:Heap)(K:VH):Prop:=match o.op with
 | .move x | .assign x=>K(ρ x)h
 | .pick c a b=>OF(ρ c)(ρ a)(ρ b)h K
 | .binOp op t x y _=>UL S.P op t o.type(ρ x)(ρ y)h K
 | .unOp op _ x=>nW(zC op(ρ x))h K
 | .extract x i=>nW(PU(ρ x)i)h K
 | .index t x i=>Kq S.P o.type(aR S.P t(ρ x)(ρ i))h K
 | .indexAddr t x i=>XU(ag S.P t(ρ x)(ρ i))h K
 | .fieldAddr t x f=>XU(ah S.P t(ρ x)f)h K
 | .field t x f=>Kq S.P o.type(NV S.P t(ρ x)f)h K
 | .load t a=>Kq S.P t(ai S.P t h(ρ a))h K
 | .slice t x lo hi mx=>Kq S.P o.type(aM S.P t(ρ x)(lo.map ρ)(hi.map ρ)(mx.map ρ)h)h K
 | .store t a x=>Yq(am S.P t(ρ a)(ρ x)h)h K
 | .alloc t=>Ys(bj S.P t)h K
 | .box t x=>Ys(fp S.P t(ρ x))h K
 | .makeSlice t l c=>Yw(aX S.P t(ρ l)(ρ c))h K
 | .buildSlice ..=>Yw(aH S.P ρ o)h K
 | .makeMap t r=>YX(match r with | none=>AY S.P t | some _=>aH S.P ρ o)h K
 | .mapUpdate t m k x=>Yq(sB S.P t(ρ m)(ρ k)(ρ x)h)h K
 | .convert s d x=>(match X2(S.P.underlying s) with | true=>WN(aL S.P dh ρ o h)h K | false=>(match ρ x with | .int _ _=>nW(cC S.P s d(ρ x))h K | .slice _ _ _=>Kq S.P o.type(xw S.P s d(ρ x)h)h K | _=>WN(aL S.P dh ρ o h)h K))
 | .build t parts=>Kq S.P o.type(bE S.P t(parts.toList.map fun p=>(p.1,ρ p.2)))h K
 | .makeFunc .. | .makeInterface .. | .nilCheck .. | .typeAssert ..=>nW(aD S.P ρ o)h K
 | .call { callee:= .value f,args,.. }=>N9 S o.type(ρ f)(args.toList.map ρ)h K
 | .call { callee:= .builtin .len,args,argTypes }=>(match args.toList,argTypes.toList with | [x],[t]=>(match ρ x with | .map _=>Kq S.P o.type(GG S.P t(ρ x)h)h K | _=>nW(GG S.P t(ρ x)h)h K) | _,_=>False)
 | .call { callee:= .builtin .max,args,.. }=>Kq S.P o.type(km true(args.toList.map ρ))h K
 | .call { callee:= .builtin .min,args,.. }=>Kq S.P o.type(km false(args.toList.map ρ))h K
 | .call { callee:= .builtin .append,args,argTypes }=>(match args.toList,argTypes.toList with | [s,x],[t,t']=>YR(aC S.P t t' (ρ s)(ρ x)h)h K | _,_=>False)
 | .call { callee:= .builtin _,.. }=>WN(aL S.P dh ρ o h)h K
 | _=>WN(aL S.P dh ρ o h)h K
theorem bu {P:Program}{t:TypeId}{r:Option Value}{h:Heap}{K:VH}(hx:Kq P t r h K):nW r h K:=by
 obtain⟨v,h1,h2⟩:=r8 hx; rw [h1]; exact h2
theorem Bs {r:Option Value}{h:Heap}{K:VH}(hx:XU r h K):nW r h K:=by
 obtain⟨v,h1,h2⟩:=hx; rw [h1]; exact h2
theorem ng {r:Option(Value × Upd)}{h:Heap}{K:VH}(hx:WN r h K):FZ r h K:=by
 obtain⟨v,u,h1,h2⟩:=hx; rw [h1]; exact h2
theorem Bx {r:Option(Value × Upd)}{h:Heap}{K:VH}(hx:Yq r h K):FZ r h K:=by
 obtain⟨u,h1,h2⟩:=hx; rw [h1]; exact h2
theorem J1 {r:Option(Value × Upd)}{h:Heap}{K:VH}(hx:YR r h K):FZ r h K:=by
 obtain⟨a,n,c,u,h1,h2⟩:=hx; rw [h1]; exact h2
theorem Bn {r:Option(Blk × (Nat->Value))}{h:Heap}{K:VH}(hx:Ys r h K):Xf r h K:=by
 obtain⟨B,h1,h2⟩:=hx; rw [h1]; exact h2
theorem A1 {r:Option(Blk × (Nat->Value))}{h:Heap}{K:VH}(hx:Yw r h K):Xf r h K:=by
 obtain⟨B,n,c,h1,h2⟩:=hx; rw [h1]; exact h2
theorem Ao {r:Option(Blk × (Nat->Value))}{h:Heap}{K:VH}(hx:YX r h K):Xf r h K:=by
 obtain⟨B,h1,h2⟩:=hx; rw [h1]; exact h2
theorem Qm {S:Sx}{ty:TypeId}{f:Value}{args:List Value}{h:Heap}{K:VH}(hx:N9 S ty f args h K):lF S f args h K:=by
 unfold N9 at hx
 unfold lF
 split at hx
 · rcases uM hx with⟨hb,hx⟩|⟨_,hx⟩
  · refine⟨by simpa [Nat.blt_eq] using hb,hx.mono fun v h hx=>?_⟩
   obtain⟨x,rfl,h2⟩:=r8 hx
   exact h2
  · exact hx.elim
 · exact hx.elim
theorem Qy {P:Program}{op:BinOp}{t ty:TypeId}{x y:Value}{h:Heap}{K:VH}(hx:UL P op t ty x y h K):nW(an P op t x y)h K:=by
 unfold UL at hx
 split at hx
 · exact bu hx
 · exact bu hx
 · exact bu hx
 · exact bu hx
 · split at hx
  · exact bu hx
  · exact hx
 · split at hx
  · exact bu hx
  · exact hx
 · split at hx
  · exact bu hx
  · exact hx
 · exact hx
theorem M4 {c a b:Value}{h:Heap}{K:VH}(hx:OF c a b h K):nW(K0 c a b)h K:=by
 unfold OF at hx
 split at hx
 · next t =>
  rcases uM hx with⟨rfl,h1⟩|⟨rfl,h1⟩<;> exact h1
 · exact hx.elim
theorem mg {S:Sx}{E:Fr}{o:Oper}{h:Heap}{K:VH}(hx:VG S(bG S.gl E)o h K):dE S E o h K:=by
 obtain⟨dst,op,ty,pos,after,guard⟩:=o
 unfold VG at hx
 split at hx
 · next e=>subst e; exact hx
 · next e=>subst e; exact hx
 · next e=>subst e; rw [Ni]; exact M4 hx
 · next e=>subst e; rw [J4]; exact Qy hx
 · next e=>subst e; rw [NI]; exact hx
 · next e=>subst e; rw [EL]; exact hx
 · next e=>subst e; rw [Jc]; exact bu hx
 · next e=>subst e; rw [zn]; exact Bs hx
 · next e=>subst e; rw [Bh]; exact Bs hx
 · next e=>subst e; rw [JX]; exact bu hx
 · next e=>subst e; rw [Ms]; exact bu hx
 · next e=>subst e; rw [JK]; exact bu hx
 · next e=>subst e; rw [zQ]; exact Bx hx
 · next e=>subst e; rw [ia _ _ _ _ _ rfl rfl rfl rfl]; exact Bn hx
 · next e=>subst e; rw [ia _ _ _ _ _ rfl rfl rfl rfl]; exact Bn hx
 · next e=>subst e; rw [ia _ _ _ _ _ rfl rfl rfl rfl]; exact A1 hx
 · next e=>subst e; rw [ia _ _ _ _ _ rfl rfl rfl rfl]; exact A1 hx
 · next t r e =>
  subst e
  rw [ia _ _ _ _ _ rfl rfl rfl rfl]
  cases r with
  | none=>exact Ao hx
  | some x=>exact Ao hx
 · next t m k x e =>
  subst e
  rw [dN _ _ _ _ rfl]
  have he:aL S.P dh(bG S.gl E)⟨dst,.mapUpdate t m k x,ty,pos,after,guard⟩h=sB S.P t(bG S.gl E m)(bG S.gl E k)(bG S.gl E x)h:=rfl
  rw [he]
  exact Bx hx
 · next e =>
  subst e
  rw [dN _ _ _ _ rfl]
  split at hx
  · exact ng hx
  split at hx
  · next k n hv =>
   unfold aL
   generalize hp:aD S.P(bG S.gl E)_=r
   cases r with
   | some v=>rw [show cC S.P _ _ _=some v from hp] at hx; exact hx
   | none=>rw [show cC S.P _ _ _=none from hp] at hx; exact hx.elim
  · next a n c hv =>
   obtain⟨v,h1,h2⟩:=r8 hx
   have hp:∀ s d,cC S.P s d(.slice a n c)=none:=fun s d=>by unfold cC; split <;> simp_all
   have e1:∀ s d x,bG S.gl E x = .slice a n c->aD S.P(bG S.gl E)⟨dst,.convert s d x,ty,pos,after,guard⟩= none:=fun s d x hv=>by
    show cC S.P s d(bG S.gl E x)=none
    rw [hv]; exact hp s d
   have e2:∀ s d x,aI S.P(bG S.gl E)⟨dst,.convert s d x,ty,pos,after,guard⟩h=xw S.P s d(bG S.gl E x)h:=fun s d x=>rfl
   unfold aL
   rw [e1 _ _ _ hv]
   dsimp af
   rw [e2,h1]
   exact h2
  · exact ng hx
 · next e=>subst e; rw [bC _ _ _ _ _ _ _ _ _ rfl]; exact bu hx
 · next e=>subst e; rw [bC _ _ _ _ _ _ _ _ _ rfl]; exact hx
 · next e=>subst e; rw [bC _ _ _ _ _ _ _ _ _ rfl]; exact hx
 · next e=>subst e; rw [bC _ _ _ _ _ _ _ _ _ rfl]; exact hx
 · next e=>subst e; rw [bC _ _ _ _ _ _ _ _ _ rfl]; exact hx
 · next e=>subst e; exact Qm hx
 · next args ats e =>
  subst e
  split at hx
  · next x t h1 h2 =>
   obtain⟨args⟩:=args; obtain⟨ats⟩:=ats
   obtain rfl:args=[x]:=h1
   obtain rfl:ats=[t]:=h2
   have hx' : nW(GG S.P t(bG S.gl E x)h)h K:=by
    split at hx
    · exact bu hx
    · exact hx
   exact(Qs S E dst ty pos after guard h K x t).symm▸hx'
  · exact hx.elim
 · next e=>subst e; rw [QF]; exact bu hx
 · next e=>subst e; rw [PO]; exact bu hx
 · next args ats e =>
  subst e
  split at hx
  · next s x t t' h1 h2 =>
   obtain⟨args⟩:=args; obtain⟨ats⟩:=ats
   obtain rfl:args=[s,x]:=h1
   obtain rfl:ats=[t,t']:=h2
   exact(Hh S E dst ty pos after guard h K s x t t').symm▸J1 hx
  · exact hx.elim
 · next e=>subst e; rw [dN _ _ _ _ rfl]; exact ng hx
 · next hno _ _ =>
  rw [dN _ _ _ _ ?_]
  · exact ng hx
  · unfold aF
   split
   · next e=>simp_all
   · rfl
def Lm:TS->Nat->Value->(TS->Prop)->Prop
 | [],_,_,K=>K []
 | _ :: l,0,v,K=>K(v :: l)
 | x :: l,d + 1,v,K=>Lm l d v fun l=>K(x :: l)
def OQ:TS->Nat->(Value->Prop)->Prop
 | [],_,K=>K undef
 | x :: _,0,K=>K x
 | _ :: l,t + 1,K=>OQ l t K
theorem yN:∀ (l:TS)(d:Nat)(v:Value)(K:TS->Prop),Lm l d v K=K(l.set d v)
 | [],_,_,_=>rfl
 | _ :: _,0,_,_=>rfl
 | x :: l,d + 1,v,K=>by rw [Lm,yN l d v]; rfl
theorem E8:∀ (l:TS)(t:Nat)(K:Value->Prop),OQ l t K=K(l.getD t undef)
 | [],_,_=>rfl
 | _ :: _,0,_=>rfl
 | x :: l,t + 1,K=>by rw [OQ,E8 l t]; rfl
def Ct(tm:TS)(dst:Option Tmp)(v:Value)(K:TS->Prop):Prop:=match dst with
 | some d=>Lm tm d v K
 | none=>K tm
theorem qm(tm:TS)(dst:Option Tmp)(v:Value)(K:TS->Prop):Ct tm dst v K=K(dj tm dst v):=by
 cases dst with
 | none=>rfl
 | some d=>exact yN _ _ _ _
def VF(S:Sx)(tm:TS)(o:Oper)(h:Heap)(K:VH):Prop:=match o.op with
 | .move(.tmp t)=>OQ tm t fun v=>K v h
 | .assign(.tmp t)=>OQ tm t fun v=>K v h
 | _=>VG S(ev S.gl tm)o h K
theorem HZ {S:Sx}{tm:TS}{o:Oper}{h:Heap}{K:VH}(hx:VF S tm o h K):VG S(ev S.gl tm)o h K:=by
 unfold VF at hx
 split at hx
 · next t e=>rw [E8] at hx; unfold VG; rw [e]; exact hx
 · next t e=>rw [E8] at hx; unfold VG; rw [e]; exact hx
 · exact hx
def gS(ops:Array Oper)(tm:TS)(guard:Option(Nat × Bool))(A B:TS->Prop):Prop:=match guard with
 | none=>A tm
 | some(j,want)=>match(ops[j]?).bind(·.dst) with
  | some d=>match tm.getD d undef with
   | .bool b=>ax b(Lm tm d(.bool true)(Bool.rec(motive:=fun _=>TS->Prop)B A want))(Lm tm d(.bool false)(Bool.rec(motive:=fun _=>TS->Prop)A B want))
   | .tuple _=>B tm
   | _=>False
  | none=>False
def GV(S:Sx)(ops:Array Oper):List Oper->TS->Heap->TH->Prop
 | [],tm,h,R=>R tm h
 | o :: l,tm,h,R=>gS ops tm o.guard(fun tm=>VF S tm o h fun v h=>Ct tm o.dst v fun tm=>GV S ops l tm h R)(fun tm=>Ct tm o.dst undef fun tm=>GV S ops l tm h R)
def Tj(nm:Nat)(Q:TH):FH:=fun E h=>∃ tm:TS,tm.length=nm/\E=fr tm/\Q tm h
def TN(nm:Nat)(Q:ak):FD:=fun x=>Tj nm(Q x)
def TX(v:Value)(A B:Prop):Prop:=match v with
 | .bool b=>ax b A B
 | _=>False
def KJ(S:Sx)(nm:Nat)(c:Code)(tm:TS)(h:Heap)(Q:ak):Prop:=xd S nm c(fr tm)h(TN nm Q)
def Wp(B:TH)(Q:ak)(x:Exit)(tm:TS)(h:Heap):Prop:=match x with
 | .normal=>B tm h
 | x=>Q x tm h
def Kk(id:Nat)(Q:ak)(x:Exit)(tm:TS)(h:Heap):Prop:=match x with
 | .exit id'=>(match Nat.beq id' id with | true=>Q .normal tm h | false=>Q(.exit id')tm h)
 | x=>Q x tm h
def room(h:Heap)(n:Nat):Heap:={ h with next:=h.next + n }
def rP:Op->Bool
 | .load .. | .slice ..=>true
 | .call { callee:= .builtin .len,.. }=>true
 | _=>false
def vF:Op->Bool
 | .store ..=>true
 | .call { callee:= .value _,.. }=>true
 | _=>false
def BK(ops:Array Oper)(f:Op->Bool)(j:Nat):Bool:=match ops[j]? with | some o=>f o.op | none=>false
def calm(ops:Array Oper):Bool:=(ops.toList.all fun o=>eS o.op || rP o.op || vF o.op) && (List.range ops.size).all fun e=>!BK ops vF e || (List.range ops.size).all fun j=>(!BK ops vF j || Nat.beq j e) && (!BK ops rP j || (Nat.blt j e && bc(cj ops)e j))
def HO:Op->Bool
 | .alloc .. | .box .. | .makeSlice .. | .buildSlice ..=>true
 | _=>false
def xT:Op->Bool
 | .store ..=>true
 | .call { callee:= .value _,.. }=>true
 | .call { callee:= .builtin .append,.. } | .call { callee:= .builtin .copy,.. } | .call { callee:= .builtin .unsafeSliceData,.. } | .call { callee:= .builtin .unsafeString,.. }=>true
 | _=>false
def T9(b:Bool)(A B:Prop):Prop:=Bool.rec(motive:=fun _=>Prop)B A b
def Lf(S:Sx)(o:Oper)(E:Fr)(v:Value)(h:Heap)(K:Prop):Prop:=match o.op with
 | .load t a=>(ai S.P t h(bG S.gl E a)=some v/\cP 4 v v=true)/\K
 | .slice t x lo hi mx=>(aM S.P t(bG S.gl E x)(lo.map(bG S.gl E))(hi.map(bG S.gl E))(mx.map(bG S.gl E))h=some v/\cP 4 v v=true)/\K
 | _=>(aI S.P(bG S.gl E)o h=some v/\cP 4 v v=true)/\K
def qf(S:Sx)(bf:Nat->Nat->Bool)(j:Nat)(o:Oper)(E:Fr)(v:Value):Heap->List(Nat × Heap)->Bool->Prop->Prop
 | h,[],own,K=>T9 own K(Lf S o E v h K)
 | h,(e,h') :: r,own,K=>T9((own && Nat.blt j e) || bf j e)(T9(bf e j)K(qf S bf j o E v h' r(Nat.blt e j)K))(Lf S o E v h(T9(bf e j)K(qf S bf j o E v h' r(Nat.blt e j)K)))
def we(S:Sx)(bf:Nat->Nat->Bool)(h:Heap)(es:List(Nat × Heap)):List BH->Nat->Prop->Prop
 | [],_,K=>K
 | (E,o,.read v) :: r,j,K=>qf S bf j o E v h es true(we S bf h es r(j + 1)K)
 | _ :: r,j,K=>we S bf h es r(j + 1)K
def Yg(S:Sx)(ρ:Operand->Value)(o:Oper)(K:Blk->(Nat->Value)->Prop):Prop:=match o.op with
 | .alloc t=>∃ B,bj S.P t=some(B,ks)/\K B ks
 | .box t x=>∃ B,fp S.P t(ρ x)=some(B,ks)/\K B ks
 | .makeSlice t l c=>∃ B n d,aX S.P t(ρ l)(ρ c)=some(B,mC n d)/\K B(mC n d)
 | _=>∃ B n d,aH S.P ρ o=some(B,mC n d)/\K B(mC n d)
def TC {α:Type}(op:Op)(a b c d:α):α:=match eS op with
 | true=>a
 | false=>match rP op with
  | true=>b
  | false=>match HO op with
   | true=>c
   | false=>d
def tf(S:Sx)(bf:Nat->Nat->Bool)(ops:Array Oper)(base:Nat)(h0:Heap):List Oper->Nat->TS->Heap->List(Nat × Blk)->List BH->TH->Prop
 | [],_,tm,h,pd,recs,R=>we S bf h0(fo recs.reverse 0)recs.reverse 0(R tm(aE h base pd))
 | o :: l,j,tm,h,pd,recs,R=>gS ops tm o.guard
   (fun tm=>TC o.op
    (VF S tm o h fun v _=>Ct tm o.dst v fun tm'=>tf S bf ops base h0 l(j + 1)tm' h pd((fr tm,o,.pure v) :: recs)R)
    (VF S tm o h fun v _=>Ct tm o.dst v fun tm'=>tf S bf ops base h0 l(j + 1)tm' h pd((fr tm,o,.read v) :: recs)R)
    (Yg S(ev S.gl tm)o fun B f=>Ct tm o.dst(f(base + j))fun tm'=>tf S bf ops base h0 l(j + 1)tm' h((j,B) :: pd)((fr tm,o,.alloc B(f(base + j))) :: recs)R)
    (VF S tm o(aE h base(pd.filter fun p=>bf j p.1))fun v h'=>Ct tm o.dst v fun tm'=>tf S bf ops base h0 l(j + 1)tm' h' (pd.filter fun p=>!bf j p.1)((fr tm,o,.eff v h') :: recs)R))
   (fun tm=>Ct tm o.dst undef fun tm'=>tf S bf ops base h0 l(j + 1)tm' h pd((fr tm,o,.skip) :: recs)R)
def mM(ops:Array Oper):Bool:= !oZ ops && (ops.toList.all fun o=>eS o.op || rP o.op || HO o.op || xT o.op) && (List.range ops.size).all fun e=>!BK ops xT e || (List.range ops.size).all fun j=>!BK ops xT j || !Nat.blt j e || bc(cj ops)e j
def Cc(tm:TS)(j:Nat):Value:=tm.getD j undef
def Kf:Nat->Nat->List(Nat × Value)->(Nat->Value)->TS
 | 0,_,_,_=>[]
 | n + 1,j,[],x=>x j :: Kf n(j + 1) [] x
 | n + 1,j,(i,v) :: l,x=>match Nat.beq i j with
  | true=>v :: Kf n(j + 1)l x
  | false=>x j :: Kf n(j + 1)((i,v) :: l)x
theorem EJ:∀ (n j:Nat)(l:List(Nat × Value))(x:Nat->Value),(∀ p∈l,p.2=x p.1)->Kf n j l x=(List.range' j n).map x
 | 0,_,_,_,_=>by simp [Kf]
 | n + 1,j,[],x,h=>by simp af [Kf,List.range'_succ,List.map_cons]; rw [EJ n(j + 1) [] x h]
 | n + 1,j,(i,v) :: l,x,h=>by
  simp af [Kf,List.range'_succ,List.map_cons]
  cases hb:Nat.beq i j with
  | true =>
   dsimp af
   rw [EJ n(j + 1)l x fun p hp=>h p(List.mem_cons_of_mem _ hp),<- Nat.eq_of_beq_eq_true hb]
   rw [show v=x i from h(i,v)(List.mem_cons_self ..)]
  | false =>
   dsimp af
   rw [EJ n(j + 1)((i,v) :: l)x h]
theorem yG:∀ (n j:Nat)(l:List(Nat × Value))(x:Nat->Value),(Kf n j l x).length=n
 | 0,_,_,_=>by simp [Kf]
 | n + 1,j,[],x=>by simp af [Kf,List.length_cons]; rw [yG n(j + 1) [] x]
 | n + 1,j,(i,v) :: l,x=>by
  simp af [Kf]
  cases hb:Nat.beq i j with
  | true=>dsimp af; rw [List.length_cons,yG n(j + 1)l x]
  | false=>dsimp af; rw [List.length_cons,yG n(j + 1)((i,v) :: l)x]
theorem Ib(f:Nat->Value):∀ (M:List Nat),∀ p∈M.zip(M.map f),p.2=f p.1
 | [],p,h=>by simp at h
 | a :: M,p,h=>by
  rw [List.map_cons,List.zip_cons_cons] at h
  rcases List.mem_cons.1 h with rfl | h
  · rfl
  · exact Ib f M p h
theorem Hl {tm:TS}{nm:Nat}(hl:tm.length=nm)(M:List Nat):Kf nm 0(M.zip(M.map(Cc tm)))(Cc tm)=tm:=by
 rw [EJ _ _ _ _(Ib _ M)]
 refine List.ext_getElem? fun i=>?_
 rw [List.getElem?_map]
 by_cases h:i < nm
 · rw [List.getElem?_range' h]
  simp [Cc,List.getElem?_eq_getElem(show i < tm.length by omega),List.getD_eq_getElem?_getD]
 · rw [List.getElem?_eq_none(by simpa using h),List.getElem?_eq_none(by omega)]; rfl
def bq(S:Sx)(nm:Nat)(M:List Nat)(c:Code)(w:List Value)(h:Heap)(Q:ak):Prop:= ∀ x:Nat->Value,KJ S nm c(Kf nm 0(M.zip w)x)h Q
def Pr(S:Sx)(nm:Nat)(M:List Nat)(c:Code)(tm:TS)(h:Heap)(Q:ak):Prop:=match Nat.beq tm.length nm with
 | true=>bq S nm M c(M.map(Cc tm))h Q
 | false=>KJ S nm c tm h Q
theorem I1 {S:Sx}{nm:Nat}{M:List Nat}{c:Code}{tm:TS}{h:Heap}{Q:ak}(hl:tm.length=nm)(hx:Pr S nm M c tm h Q):KJ S nm c tm h Q:=by
 unfold Pr at hx
 rw [hl,Nat.beq_refl] at hx
 have:=hx(Cc tm)
 rwa [Hl hl] at this
def wpS(S:Sx)(nm:Nat)(M:List Nat):Code->TS->Heap->ak->Prop
 | .skip,tm,h,Q=>Q .normal tm h
 | .region _ ops draw,tm,h,Q=>(match draw with
  | false=>GV S ops ops.toList tm h fun tm h=>Q .normal tm h
  | true=>(match calm ops with
   | true=>GV S ops ops.toList tm(room h ops.size)fun tm h=>Q .normal tm h
   | false=>(match mM ops with
    | true=>tf S(bc(cj ops))ops h.next(room h ops.size)ops.toList 0 tm(room h ops.size) [] [] fun tm h=>Q .normal tm h
    | false=>TD S ops(fr tm)h(Tj nm fun tm h=>Q .normal tm h))))
 | .seq a b,tm,h,Q=>wpS S nm M a tm h(Wp(fun tm h=>wpS S nm M b tm h Q)Q)
 | .cond c a b,tm,h,Q=>TX(ev S.gl tm c)(wpS S nm M a tm h Q)(wpS S nm M b tm h Q)
 | .block id c,tm,h,Q=>wpS S nm M c tm h(Kk id Q)
 | .loop c,tm,h,Q=>Pr S nm M c tm h Q
 | .exit id,tm,h,Q=>Q(.exit id)tm h
 | .ret,tm,h,Q=>Q .ret tm h
 | .label _,tm,h,Q=>Q .normal tm h
 | _,_,_,_=>False
end
theorem Tz {tm:TS}{nm:Nat}(h:tm.length=nm):ER nm(fr tm)tm :=⟨h,fun _=>rfl⟩
theorem AM {tm:TS}(gl:Nat->Bool):bG gl(fr tm)=ev gl tm:=((Tz rfl).ev gl).symm
theorem vk {tm:TS}{nm:Nat}(h:tm.length=nm){dst:Option Tmp}(hd:qX nm dst=true)(v:Value):lE(fr tm)dst v=fr(dj tm dst v):=by
 funext t
 exact((Tz h).put hd v).2 t |>.symm
theorem ww {tm:TS}{d:Nat}{v:Value}(h:tm.getD d undef=v):tm.set d v=tm:=by
 refine List.ext_getElem? fun i=>?_
 rw [List.getElem?_set]
 split
 · next e =>
  subst e
  split
  · next hl =>
   rw [List.getD_eq_getElem?_getD,List.getElem?_eq_getElem hl] at h
   rw [List.getElem?_eq_getElem hl,<- h]; rfl
  · next hl=>rw [List.getElem?_eq_none(by omega)]
 · rfl
theorem zc {ops:Array Oper}{tm:TS}{guard:Option(Nat × Bool)}{A B:TS->Prop}{A' B' : Unit->Prop}(hA:A tm->A' ())(hB:B tm->B' ())(hx:gS ops tm guard A B):Rn(w8 ops(fr tm)guard)A' B':=by
 cases guard with
 | none=>exact hA hx
 | some g =>
  obtain⟨j,want⟩:=g
  unfold gS at hx
  rw [Kj]
  dsimp af at hx
  cases hd:(ops[j]?).bind(·.dst) with
  | none=>rw [hd] at hx; exact hx.elim
  | some d =>
   rw [hd] at hx
   dsimp af at hx ⊢
   show Rn(match tm.getD d undef with | .bool b=>some(b == want) | .tuple _=>some false | _=>none)A' B'
   cases hv:tm.getD d undef with
   | bool b =>
    rw [hv] at hx
    dsimp af at hx ⊢
    rcases uM hx with⟨rfl,h1⟩|⟨rfl,h1⟩
    · rw [yN,ww hv] at h1
     cases want
     · exact hB h1
     · exact hA h1
    · rw [yN,ww hv] at h1
     cases want
     · exact hA h1
     · exact hB h1
   | tuple vs=>rw [hv] at hx; exact hB hx
   | _=>rw [hv] at hx; exact hx.elim
theorem In {r:Option(Value × Upd)}{h:Heap}{K K' : VH}(hk:∀ v h,K v h->K' v h)(hx:FZ r h K):FZ r h K':=by
 cases r with
 | none=>exact hx
 | some p=>obtain⟨v,u⟩:=p; exact hk _ _ hx
theorem xr {S:Sx}{f:Value}{args:List Value}{h:Heap}{K K' : VH}(hk:∀ v h,K v h->K' v h)(hx:lF S f args h K):lF S f args h K':=by
 unfold lF at hx ⊢
 split at hx
 · exact⟨hx.1,hx.2.mono hk⟩
 · exact hx.elim
theorem NA {S:Sx}{E:Fr}{o:Oper}{h:Heap}{K K' : VH}(hk:∀ v h,K v h->K' v h)(hx:dE S E o h K):dE S E o h K':=by
 unfold dE at hx ⊢
 split at hx
 · exact xr hk hx
 · exact In hk hx
theorem rW {S:Sx}{nm:Nat}{ops:Array Oper}{R:TH}{R' : FH}(hR:∀ tm h,tm.length=nm->R tm h->R' (fr tm)h):∀ (l:List Oper){tm:TS}{h:Heap},tm.length=nm->(l.all fun o=>qX nm o.dst)=true->GV S ops l tm h R->KW S ops l(fr tm)h R'
 | [],_,_,hl,_,hx=>hR _ _ hl hx
 | o :: l,tm,h,hl,hd,hx=>by
  simp af [List.all_cons,Bool.and_eq_true] at hd
  rw [PG]
  refine zc(fun hx=>?_)(fun hx=>?_)hx
  · show dE S(fr tm)o h(XG S ops o.dst l(fr tm)R')
   have hx:=HZ hx
   rw [<- AM] at hx
   refine NA(fun v h hx=>?_)(mg hx)
   show KW S ops l(lE(fr tm)o.dst v)h R'
   rw [vk hl hd.1]
   rw [qm] at hx
   exact rW hR l(by rw [dc]; exact hl)hd.2 hx
  · show KW S ops l(lE(fr tm)o.dst undef)h R'
   rw [vk hl hd.1]
   rw [qm] at hx
   exact rW hR l(by rw [dc]; exact hl)hd.2 hx
theorem rB {S:Sx}{E:Fr}{o:Oper}{h:Heap}{K K' : VH}(hk:∀ v h,K v h->K' v h)(hx:wW S E o h K):wW S E o h K':=by
 unfold wW at hx ⊢
 split at hx
 · exact xr hk hx
 · exact In hk hx
theorem PK {r:Option Bool}{A B A' B' : Unit->Prop}(hA:A()->A' ())(hB:B()->B' ())(hx:Rn r A B):Rn r A' B':=by
 rcases Ek hx with⟨rfl,h⟩|⟨rfl,h⟩
 · exact hA h
 · exact hB h
theorem iY {S:Sx}{bf:Nat->Nat->Bool}{ops:Array Oper}{base:Nat}{h0:Heap}{R R' : FH}(hR:∀ E h,R E h->R' E h):∀ (l:List Oper)(j:Nat)(E:Fr)(h:Heap)(pd:List(Nat × Blk))(recs:List BH),nZ S bf ops base h0 l j E h pd recs R->nZ S bf ops base h0 l j E h pd recs R'
 | [],_,_,_,_,_,hx =>⟨hx.1,hR _ _ hx.2⟩
 | o :: l,j,E,h,pd,recs,hx=>by
  simp af [nZ] at hx ⊢
  refine PK(fun hx=>?_)(fun hx=>iY hR l _ _ _ _ _ hx)hx
  cases hp:aD S.P(bG S.gl E)o with
  | some v=>rw [hp] at hx; exact iY hR l _ _ _ _ _ hx
  | none =>
   rw [hp] at hx
   dsimp af at hx ⊢
   cases hp2:aI S.P(bG S.gl E)o h with
   | some v=>rw [hp2] at hx; exact iY hR l _ _ _ _ _ hx
   | none =>
    rw [hp2] at hx
    dsimp af at hx ⊢
    cases hp3:aH S.P(bG S.gl E)o with
    | some p=>obtain⟨B,f⟩:=p; rw [hp3] at hx; exact iY hR l _ _ _ _ _ hx
    | none =>
     rw [hp3] at hx
     dsimp af at hx ⊢
     exact rB(fun v h' hx=>iY hR l _ _ _ _ _ hx)hx
theorem Oh {S:Sx}{ops:Array Oper}{E:Fr}{h:Heap}{R R' : FH}(hR:∀ E h,R E h->R' E h)(hx:TD S ops E h R):TD S ops E h R' :=⟨hx.1,iY hR _ _ _ _ _ _ hx.2⟩
def Fh(ops:Array Oper)(i:Nat)(l:List BH):Prop:= ∀ k r,l[k]? = some r->(∀ v,r.2.2 = .read v->BK ops rP(i + k)=true)/\(∀ v g,r.2.2 = .eff v g->BK ops vF(i + k)=true)
theorem pY {ops:Array Oper} : ∀ {l:List BH}{i:Nat},Fh ops i l->∀ p∈fo l i,BK ops vF p.1=true/\i<=p.1
 | [],_,_=>by simp [fo]
 | r :: l,i,hc=>by
  have hc' : Fh ops(i + 1)l:=fun k r h=>by
   have:=hc(k + 1)r(by simpa using h)
   rwa [show i + (k + 1)=i + 1 + k by omega] at this
  obtain⟨E,o,e⟩:=r
  intro p hp
  have tl:p∈fo l(i + 1)->BK ops vF p.1=true/\i<=p.1:=fun h =>⟨(pY hc' p h).1,by have:=(pY hc' p h).2; omega⟩
  cases e with
  | eff v g =>
   rcases List.mem_cons.1 hp with rfl | hp
   · exact⟨(hc 0 _ rfl).2 v g rfl,Nat.le_refl _⟩
   · exact tl hp
  | _=>exact tl hp
theorem Ag {ops:Array Oper}{f:Op->Bool}{j:Nat}(h:BK ops f j=true):j < ops.size:=by
 unfold BK at h
 split at h
 · next o ho=>exact(Array.getElem?_eq_some_iff.1 ho).1
 · cases h
theorem JC {S:Sx}{ops:Array Oper}(hc:calm ops=true){h0:Heap}{l:List BH}(hl:Fh ops 0 l):kC S(bc(cj ops))h0 l=true:=by
 unfold calm at hc
 simp af [Bool.and_eq_true] at hc
 have key:∀ e,BK ops vF e=true->∀ j,(BK ops vF j=true->j=e)/\(BK ops rP j=true->j < e/\bc(cj ops)e j=true):=by
  intro e he j
  have h1:=List.all_eq_true.1 hc.2 e(List.mem_range.2(Ag he))
  rw [he] at h1
  simp af [Bool.not_true,Bool.false_or] at h1
  refine⟨fun hj=>?_,fun hj=>?_⟩
  · have h2:=List.all_eq_true.1 h1 j(List.mem_range.2(Ag hj))
   rw [hj] at h2
   simp af [Bool.not_true,Bool.false_or,Bool.and_eq_true] at h2
   exact Nat.eq_of_beq_eq_true h2.1
  · have h2:=List.all_eq_true.1 h1 j(List.mem_range.2(Ag hj))
   rw [hj] at h2
   simp af [Bool.not_true,Bool.false_or,Bool.and_eq_true,Nat.blt_eq] at h2
   exact h2.2
 have hes:=pY hl
 have hone:∀ (l:List BH)(i:Nat),Fh ops i l->fo l i=[]\/∃ p,fo l i=[p]:=by
  intro l
  induction l with
  | nil=>intro i _; exact .inl rfl
  | cons r l ih =>
   intro i hc
   have hc' : Fh ops(i + 1)l:=fun k r h=>by
    have:=hc(k + 1)r(by simpa using h)
    rwa [show i + (k + 1)=i + 1 + k by omega] at this
   obtain⟨E,o,e⟩:=r
   cases e with
   | eff v g =>
    have he:=(hc 0 _ rfl).2 v g rfl
    right
    refine⟨(i,g),?_⟩
    show(i,g) :: fo l(i + 1)=_
    rcases ih(i + 1)hc' with h1 |⟨p,h1⟩
    · rw [h1]
    · have h2:=pY hc' p(by rw [h1]; simp)
     have:=(key i he p.1).1 h2.1
     omega
   | _=>exact ih(i + 1)hc'
 have hread:∀ (es:List(Nat × Heap)),(es=[]\/∃ p,es=[p]/\BK ops vF p.1=true)->∀ (l:List BH)(i:Nat),Fh ops i l->nc S(bc(cj ops))h0 es l i=true:=by
  intro es hes l
  induction l with
  | nil=>intro i _; rfl
  | cons r l ih =>
   intro i hc
   have hc' : Fh ops(i + 1)l:=fun k r h=>by
    have:=hc(k + 1)r(by simpa using h)
    rwa [show i + (k + 1)=i + 1 + k by omega] at this
   have h1:=ih(i + 1)hc'
   obtain⟨E,o,e⟩:=r
   cases e with
   | read v =>
    have hr:=(hc 0 _ rfl).1 v rfl
    show(gT S(bc(cj ops))i o E v h0 es true && nc S(bc(cj ops))h0 es l(i + 1))=true
    rw [h1,Bool.and_true]
    rcases hes with rfl |⟨p,rfl,hp⟩
    · rfl
    · obtain⟨g1,g2⟩:=(key p.1 hp i).2 hr
     obtain⟨e,h'⟩:=p
     show(((true && Nat.blt i e) || _ || _) && (bc(cj ops)e i || _))=true
     rw [g2,show Nat.blt i e=true by rw [Nat.blt_eq]; exact g1]; rfl
   | _=>exact h1
 unfold kC
 rcases hone l 0 hl with h1 |⟨p,h1⟩
 · rw [h1,hread [] (.inl rfl)l 0 hl]; rfl
 · rw [h1,hread [p] (.inr⟨p,rfl,(hes p(by rw [h1]; simp)).1⟩)l 0 hl]; rfl
theorem vQ {S:Sx}{nm:Nat}{ops:Array Oper}(hcalm:calm ops=true){base:Nat}{h0:Heap}{R:TH}{R' : FH}(hR:∀ tm h,tm.length=nm->R tm h->R' (fr tm)h):∀ (l:List Oper)(j:Nat)(tm:TS)(h:Heap)(recs:List BH),tm.length=nm->(l.all fun o=>qX nm o.dst)=true->ops.toList.drop j=l->recs.length=j->Fh ops 0 recs.reverse->GV S ops l tm h R->nZ S(bc(cj ops))ops base h0 l j(fr tm)h [] recs R'
 | [],j,tm,h,recs,hl,_,_,_,hr,hx =>⟨JC hcalm hr,hR _ _ hl hx⟩
 | o :: l,j,tm,h,recs,hl,hd,hdr,hrl,hr,hx=>by
  have ho:ops[j]? = some o:=by
   have:(ops.toList.drop j)[0]? = some o:=by rw [hdr]; rfl
   rw [List.getElem?_drop] at this
   rw [<- Array.getElem?_toList]; simpa using this
  have hdr' : ops.toList.drop(j + 1)=l:=by rw [<- List.drop_drop,hdr]; rfl
  simp af [List.all_cons,Bool.and_eq_true] at hd
  have conf:∀ e,(∀ v,e=Ent.read v->rP o.op=true)->(∀ v g,e=Ent.eff v g->vF o.op=true)->Fh ops 0((fr tm,o,e) :: recs).reverse:=by
   intro e h1 h2 k r hk
   rw [List.reverse_cons] at hk
   rcases Nat.lt_or_ge k recs.reverse.length with h3 | h3
   · rw [List.getElem?_append_left h3] at hk
    exact hr k r hk
   · rw [List.getElem?_append_right h3] at hk
    have hk0:k - recs.reverse.length=0:=by
     rcases Nat.eq_zero_or_pos(k - recs.reverse.length) with h4 | h4
     · exact h4
     · rw [List.getElem?_eq_none(by simp af [List.length_cons,List.length_nil]; omega)] at hk; cases hk
    rw [hk0] at hk
    obtain rfl:=Option.some.inj hk
    have hkj:0 + k=j:=by rw [List.length_reverse] at h3 hk0; omega
    rw [hkj]
    refine⟨fun v e=>?_,fun v g e=>?_⟩
    · unfold BK; rw [ho]; exact h1 v e
    · unfold BK; rw [ho]; exact h2 v g e
  simp af [nZ]
  refine zc(fun hx=>?_)(fun hx=>?_)hx
  · have hx:=mg(E:=fr tm)(by rw [AM]; exact HZ hx)
   have go:∀ v e g,(∀ v,e=Ent.read v->rP o.op=true)->(∀ v g,e=Ent.eff v g->vF o.op=true)->Ct tm o.dst v(fun tm=>GV S ops l tm g R)->nZ S(bc(cj ops))ops base h0 l(j + 1)(lE(fr tm)o.dst v)g [] ((fr tm,o,e) :: recs)R':=by
    intro v e g h1 h2 hx
    rw [qm] at hx
    rw [vk hl hd.1]
    exact vQ hcalm hR l(j + 1)_ g _(by rw [dc]; exact hl)hd.2 hdr' (by simp [hrl])(conf e h1 h2)hx
   have hkind:(eS o.op || rP o.op || vF o.op)=true:=by
    have hc:=hcalm
    unfold calm at hc
    simp af [Bool.and_eq_true] at hc
    exact List.all_eq_true.1 hc.1 o(List.mem_of_mem_drop(i:=j)(by rw [hdr]; simp))
   obtain⟨dst,op,ty,pos,after,guard⟩:=o
   simp af [Bool.or_eq_true] at hkind
   rcases hkind with(hp | hp) | hp
   · have hx:nW(aD S.P(bG S.gl(fr tm))⟨dst,op,ty,pos,after,guard⟩)h _:=(bC _ _ _ _ _ _ _ _ _ hp)▸hx
    cases hv:aD S.P(bG S.gl(fr tm))⟨dst,op,ty,pos,after,guard⟩with
    | none=>rw [hv] at hx; exact hx.elim
    | some v=>rw [hv] at hx; exact go v(.pure v)h(by simp)(by simp)hx
   · have key:aD S.P(bG S.gl(fr tm))⟨dst,op,ty,pos,after,guard⟩= none/\aF⟨dst,op,ty,pos,after,guard⟩= false/\aH S.P(bG S.gl(fr tm))⟨dst,op,ty,pos,after,guard⟩= none/\bA S.P dh(bG S.gl(fr tm))⟨dst,op,ty,pos,after,guard⟩h=none:=by
     clear hx conf go
     revert hp
     cases op with
     | load=>intro _; exact⟨rfl,rfl,rfl,rfl⟩
     | slice=>intro _; exact⟨rfl,rfl,rfl,rfl⟩
     | call c =>
      obtain⟨callee,args,ats⟩:=c
      cases callee with
      | builtin b=>cases b <;> intro hp <;> first | exact⟨rfl,rfl,rfl,rfl⟩| cases hp
      | _=>intro hp; cases hp
     | _=>intro hp; cases hp
    have hx:nW(aI S.P(bG S.gl(fr tm))⟨dst,op,ty,pos,after,guard⟩h)h _:=(lZ S(fr tm)h _ _ key.2.1 key.1 key.2.2.1 key.2.2.2)▸hx
    rw [key.1]
    dsimp af
    cases hv:aI S.P(bG S.gl(fr tm))⟨dst,op,ty,pos,after,guard⟩h with
    | none=>rw [hv] at hx; exact hx.elim
    | some v=>rw [hv] at hx; exact go v(.read v)h(fun _ _=>hp)(by simp)hx
   · have key:aD S.P(bG S.gl(fr tm))⟨dst,op,ty,pos,after,guard⟩= none/\aI S.P(bG S.gl(fr tm))⟨dst,op,ty,pos,after,guard⟩h=none/\aH S.P(bG S.gl(fr tm))⟨dst,op,ty,pos,after,guard⟩= none/\
      ∀ K:VH,dE S(fr tm)⟨dst,op,ty,pos,after,guard⟩h K->wW S(fr tm)⟨dst,op,ty,pos,after,guard⟩h K:=by
     clear hx conf go
     revert hp
     cases op with
     | store t a x=>intro _; exact⟨rfl,rfl,rfl,fun K hx=>by rw [zQ] at hx; exact hx⟩
     | call c =>
      obtain⟨callee,args,ats⟩:=c
      cases callee with
      | value f=>intro _; exact⟨rfl,rfl,rfl,fun K hx=>hx⟩
      | _=>intro hp; cases hp
     | _=>intro hp; cases hp
    rw [key.1]
    dsimp af
    rw [key.2.1]
    dsimp af
    rw [key.2.2.1]
    dsimp af
    exact rB(fun v g hx=>go v(.eff v g)g(by simp)(fun _ _ _=>hp)hx)(key.2.2.2 _ hx)
  · rw [qm] at hx
   rw [vk hl hd.1]
   exact vQ hcalm hR l(j + 1)_ h _(by rw [dc]; exact hl)hd.2 hdr' (by simp [hrl])(conf .skip(by simp)(by simp))hx
theorem Q5 {ops:Array Oper}(hc:calm ops=true):oZ ops=false:=by
 unfold oZ
 have:ops.toList.any KK=false:=by
  rw [List.any_eq_false]
  intro o ho
  unfold calm at hc
  simp af [Bool.and_eq_true] at hc
  have h1:=List.all_eq_true.1 hc.1 o ho
  unfold KK
  split
  · next e=>rw [e] at h1; simp [eS,rP,vF] at h1
  · simp
 rw [this]; rfl
theorem ze {b:Bool}{A B:Prop}(h:T9 b A B):(b=true/\A)\/(b=false/\B):=by
 cases b with
 | true=>exact .inl⟨rfl,h⟩
 | false=>exact .inr⟨rfl,h⟩
theorem nY {S:Sx}{o:Oper}{E:Fr}{v:Value}{h:Heap}{K:Prop}(hx:Lf S o E v h K):CT S o E v h=true/\K:=by
 obtain⟨dst,op,ty,pos,after,guard⟩:=o
 have key:(aI S.P(bG S.gl E)⟨dst,op,ty,pos,after,guard⟩h=some v/\cP 4 v v=true)/\K:=by
  unfold Lf at hx
  split at hx
  · next e=>subst e; exact hx
  · next e=>subst e; exact hx
  · exact hx
 refine⟨?_,key.2⟩
 unfold CT
 rw [key.1.1]
 exact key.1.2
theorem qL {S:Sx}{bf:Nat->Nat->Bool}{j:Nat}{o:Oper}{E:Fr}{v:Value}{K:Prop} : ∀ {es:List(Nat × Heap)}{h:Heap}{own:Bool},qf S bf j o E v h es own K->gT S bf j o E v h es own=true/\K
 | [],h,own,hx=>by
  rcases ze hx with⟨rfl,h1⟩|⟨rfl,h1⟩
  · exact⟨rfl,h1⟩
  · exact⟨(nY h1).1,(nY h1).2⟩
 | (e,h') :: r,h,own,hx=>by
  have tl:∀ {K'' : Prop},T9(bf e j)K(qf S bf j o E v h' r(Nat.blt e j)K)->((bf e j || gT S bf j o E v h' r(Nat.blt e j))=true)/\K:=fun hx=>by
   rcases ze hx with⟨h2,h3⟩|⟨h2,h3⟩
   · rw [h2]; exact⟨rfl,h3⟩
   · have:=qL h3
    rw [this.1]; exact⟨Bool.or_true _,this.2⟩
  have hx:T9((own && Nat.blt j e) || bf j e)_ _:=hx
  simp af [gT,Bool.and_eq_true]
  rcases ze hx with⟨h2,h3⟩|⟨h2,h3⟩
  · have:=tl(K'':=K)h3
   exact⟨⟨by rw [h2]; rfl,this.1⟩,this.2⟩
  · obtain⟨h4,h5⟩:=nY h3
   have:=tl(K'':=K)h5
   exact⟨⟨by rw [h4,Bool.or_true],this.1⟩,this.2⟩
theorem m8 {S:Sx}{bf:Nat->Nat->Bool}{h:Heap}{es:List(Nat × Heap)}{K:Prop} : ∀ {l:List BH}{j:Nat},we S bf h es l j K->nc S bf h es l j=true/\K
 | [],_,hx =>⟨rfl,hx⟩
 | (E,o,e) :: r,j,hx=>by
  cases e with
  | read v =>
   have h1:=qL(show qf S bf j o E v h es true(we S bf h es r(j + 1)K) from hx)
   have h2:=m8 h1.2
   refine⟨?_,h2.2⟩
   show(gT S bf j o E v h es true && nc S bf h es r(j + 1))=true
   rw [h1.1,h2.1]; rfl
  | _=>exact m8(l:=r)hx
def DR(ops:Array Oper)(i:Nat)(l:List BH):Prop:= ∀ k r,l[k]? = some r->∀ v g,r.2.2 = .eff v g->BK ops xT(i + k)=true
theorem ry {ops:Array Oper} : ∀ {l:List BH}{i:Nat},DR ops i l->∀ p∈fo l i,BK ops xT p.1=true/\i<=p.1
 | [],_,_=>by simp [fo]
 | r :: l,i,hc=>by
  have hc' : DR ops(i + 1)l:=fun k r h=>by
   have:=hc(k + 1)r(by simpa using h)
   rwa [show i + (k + 1)=i + 1 + k by omega] at this
  obtain⟨E,o,e⟩:=r
  intro p hp
  have tl:p∈fo l(i + 1)->BK ops xT p.1=true/\i<=p.1:=fun h =>⟨(ry hc' p h).1,by have:=(ry hc' p h).2; omega⟩
  cases e with
  | eff v g =>
   rcases List.mem_cons.1 hp with rfl | hp
   · exact⟨hc 0 _ rfl v g rfl,Nat.le_refl _⟩
   · exact tl hp
  | _=>exact tl hp
theorem ox {ops:Array Oper}(hs:mM ops=true):∀ {l:List BH}{i:Nat},DR ops i l->bT(bc(cj ops))(fo l i)=true
 | [],_,_=>rfl
 | r :: l,i,hc=>by
  have hc' : DR ops(i + 1)l:=fun k r h=>by
   have:=hc(k + 1)r(by simpa using h)
   rwa [show i + (k + 1)=i + 1 + k by omega] at this
  obtain⟨E,o,e⟩:=r
  have ih:=ox hs hc'
  cases e with
  | eff v g =>
   show bT(bc(cj ops))((i,g) :: fo l(i + 1))=true
   have hall:=ry hc'
   cases hes:fo l(i + 1) with
   | nil=>rfl
   | cons p es =>
    obtain⟨j,g'⟩:=p
    rw [hes] at ih hall
    show(bc(cj ops)j i && bT(bc(cj ops))((j,g') :: es))=true
    rw [ih,Bool.and_true]
    have h1:=hc 0 _ rfl v g rfl
    have h2:=hall(j,g')(List.mem_cons_self ..)
    unfold mM at hs
    simp af [Bool.and_eq_true] at hs
    have h3:=List.all_eq_true.1 hs.2 j(List.mem_range.2(Ag h2.1))
    rw [h2.1] at h3
    simp af [Bool.not_true,Bool.false_or] at h3
    have h4:=List.all_eq_true.1 h3 i(List.mem_range.2(Ag h1))
    have h5:BK ops xT i=true:=h1
    rw [h5,show Nat.blt i j=true by rw [Nat.blt_eq]; have:=h2.2; omega] at h4
    simpa using h4
  | _=>exact ih
theorem L8 {S:Sx}{ρ:Operand->Value}{o:Oper}(ha:HO o.op=true){K:Blk->(Nat->Value)->Prop}(hx:Yg S ρ o K):∃ B f,aH S.P ρ o=some(B,f)/\K B f:=by
 obtain⟨dst,op,ty,pos,after,guard⟩:=o
 unfold Yg at hx
 split at hx
 · next e=>subst e; obtain⟨B,h1,h2⟩:=hx; exact⟨B,_,h1,h2⟩
 · next e=>subst e; obtain⟨B,h1,h2⟩:=hx; exact⟨B,_,h1,h2⟩
 · next e=>subst e; obtain⟨B,n,d,h1,h2⟩:=hx; exact⟨B,_,h1,h2⟩
 · obtain⟨B,n,d,h1,h2⟩:=hx; exact⟨B,_,h1,h2⟩
theorem ws {S:Sx}{nm:Nat}{ops:Array Oper}(hst:mM ops=true){base:Nat}{h0:Heap}{R:TH}{R' : FH}(hR:∀ tm h,tm.length=nm->R tm h->R' (fr tm)h):∀ (l:List Oper)(j:Nat)(tm:TS)(h:Heap)(pd:List(Nat × Blk))(recs:List BH),tm.length=nm->(l.all fun o=>qX nm o.dst)=true->ops.toList.drop j=l->recs.length=j->DR ops 0 recs.reverse->tf S(bc(cj ops))ops base h0 l j tm h pd recs R->nZ S(bc(cj ops))ops base h0 l j(fr tm)h pd recs R'
 | [],j,tm,h,pd,recs,hl,_,_,_,hr,hx=>by
  have h1:=m8(show we S(bc(cj ops))h0(fo recs.reverse 0)recs.reverse 0(R tm(aE h base pd)) from hx)
  refine⟨?_,hR _ _ hl h1.2⟩
  unfold kC
  rw [h1.1,ox hst hr]; rfl
 | o :: l,j,tm,h,pd,recs,hl,hd,hdr,hrl,hr,hx=>by
  have ho:ops[j]? = some o:=by
   have:(ops.toList.drop j)[0]? = some o:=by rw [hdr]; rfl
   rw [List.getElem?_drop] at this
   rw [<- Array.getElem?_toList]; simpa using this
  have hdr' : ops.toList.drop(j + 1)=l:=by rw [<- List.drop_drop,hdr]; rfl
  simp af [List.all_cons,Bool.and_eq_true] at hd
  have conf:∀ e,(∀ v g,e=Ent.eff v g->xT o.op=true)->DR ops 0((fr tm,o,e) :: recs).reverse:=by
   intro e h2 k r hk
   rw [List.reverse_cons] at hk
   rcases Nat.lt_or_ge k recs.reverse.length with h3 | h3
   · rw [List.getElem?_append_left h3] at hk
    exact hr k r hk
   · rw [List.getElem?_append_right h3] at hk
    have hk0:k - recs.reverse.length=0:=by
     rcases Nat.eq_zero_or_pos(k - recs.reverse.length) with h4 | h4
     · exact h4
     · rw [List.getElem?_eq_none(by simp af [List.length_cons,List.length_nil]; omega)] at hk; cases hk
    rw [hk0] at hk
    obtain rfl:=Option.some.inj hk
    have hkj:0 + k=j:=by rw [List.length_reverse] at h3 hk0; omega
    rw [hkj]
    intro v g e
    unfold BK; rw [ho]; exact h2 v g e
  simp af [nZ]
  refine zc(fun hx=>?_)(fun hx=>?_)hx
  · have go:∀ v e g pd',(∀ v g,e=Ent.eff v g->xT o.op=true)->Ct tm o.dst v(fun tm'=>tf S(bc(cj ops))ops base h0 l(j + 1)tm' g pd' ((fr tm,o,e) :: recs)R)->nZ S(bc(cj ops))ops base h0 l(j + 1)(lE(fr tm)o.dst v)g pd' ((fr tm,o,e) :: recs)R':=by
    intro v e g pd' h2 hx
    rw [qm] at hx
    rw [vk hl hd.1]
    exact ws hst hR l(j + 1)_ g _ _(by rw [dc]; exact hl)hd.2 hdr' (by simp [hrl])(conf e h2)hx
   have hkind:(eS o.op || rP o.op || HO o.op || xT o.op)=true:=by
    have hc:=hst
    unfold mM at hc
    simp af [Bool.and_eq_true] at hc
    exact List.all_eq_true.1 hc.1.2 o(List.mem_of_mem_drop(i:=j)(by rw [hdr]; simp))
   obtain⟨dst,op,ty,pos,after,guard⟩:=o
   unfold TC at hx
   cases hp:eS op with
   | true =>
    rw [show eS(Oper.mk dst op ty pos after guard).op=true from hp] at hx
    have hx:=mg(E:=fr tm)(by rw [AM]; exact HZ hx)
    have hx:nW(aD S.P(bG S.gl(fr tm))⟨dst,op,ty,pos,after,guard⟩)h _:=(bC _ _ _ _ _ _ _ _ _ hp)▸hx
    cases hv:aD S.P(bG S.gl(fr tm))⟨dst,op,ty,pos,after,guard⟩with
    | none=>rw [hv] at hx; exact hx.elim
    | some v=>rw [hv] at hx; exact go v(.pure v)h pd(by simp)hx
   | false =>
   rw [show eS(Oper.mk dst op ty pos after guard).op=false from hp] at hx
   dsimp af at hx
   cases hp2:rP op with
   | true =>
    rw [show rP(Oper.mk dst op ty pos after guard).op=true from hp2] at hx
    have hx:=mg(E:=fr tm)(by rw [AM]; exact HZ hx)
    have key:aD S.P(bG S.gl(fr tm))⟨dst,op,ty,pos,after,guard⟩= none/\aF⟨dst,op,ty,pos,after,guard⟩= false/\aH S.P(bG S.gl(fr tm))⟨dst,op,ty,pos,after,guard⟩= none/\bA S.P dh(bG S.gl(fr tm))⟨dst,op,ty,pos,after,guard⟩h=none:=by
     clear hx conf go hkind hp ho
     revert hp2
     cases op with
     | load=>intro _; exact⟨rfl,rfl,rfl,rfl⟩
     | slice=>intro _; exact⟨rfl,rfl,rfl,rfl⟩
     | call c =>
      obtain⟨callee,args,ats⟩:=c
      cases callee with
      | builtin b=>cases b <;> intro hp <;> first | exact⟨rfl,rfl,rfl,rfl⟩| cases hp
      | _=>intro hp; cases hp
     | _=>intro hp; cases hp
    have hx:nW(aI S.P(bG S.gl(fr tm))⟨dst,op,ty,pos,after,guard⟩h)h _:=(lZ S(fr tm)h _ _ key.2.1 key.1 key.2.2.1 key.2.2.2)▸hx
    rw [key.1]
    dsimp af
    cases hv:aI S.P(bG S.gl(fr tm))⟨dst,op,ty,pos,after,guard⟩h with
    | none=>rw [hv] at hx; exact hx.elim
    | some v=>rw [hv] at hx; exact go v(.read v)h pd(by simp)hx
   | false =>
   rw [show rP(Oper.mk dst op ty pos after guard).op=false from hp2] at hx
   dsimp af at hx
   cases hp3:HO op with
   | true =>
    rw [show HO(Oper.mk dst op ty pos after guard).op=true from hp3] at hx
    rw [<- AM] at hx
    obtain⟨B,f,h1,h2⟩:=L8 hp3 hx
    have key:aD S.P(bG S.gl(fr tm))⟨dst,op,ty,pos,after,guard⟩= none/\aI S.P(bG S.gl(fr tm))⟨dst,op,ty,pos,after,guard⟩h=none:=by
     clear hx conf go hkind hp ho h1 h2 hp2
     revert hp3
     cases op <;> intro hp3 <;> first | exact⟨rfl,rfl⟩| cases hp3
    rw [key.1]
    dsimp af
    rw [key.2]
    dsimp af
    rw [h1]
    exact go _(.alloc B(f(base + j)))h _(by simp)h2
   | false =>
   rw [show HO(Oper.mk dst op ty pos after guard).op=false from hp3] at hx
   dsimp af at hx
   have hp4:xT op=true:=by
    have hk:(eS op || rP op || HO op || xT op)=true:=hkind
    rw [hp,hp2,hp3] at hk; exact hk
   have hx:=mg(E:=fr tm)(by rw [AM]; exact HZ hx)
   generalize aE h base(pd.filter fun p=>bc(cj ops)j p.1)=hs at hx ⊢
   have key:(∀ h,aD S.P(bG S.gl(fr tm))⟨dst,op,ty,pos,after,guard⟩= none/\aI S.P(bG S.gl(fr tm))⟨dst,op,ty,pos,after,guard⟩h=none/\aH S.P(bG S.gl(fr tm))⟨dst,op,ty,pos,after,guard⟩= none)/\
     ∀ K:VH,dE S(fr tm)⟨dst,op,ty,pos,after,guard⟩hs K->wW S(fr tm)⟨dst,op,ty,pos,after,guard⟩hs K:=by
    clear hx conf go hkind hp ho hp2 hp3
    revert hp4
    cases op with
    | store t a x=>intro _; exact⟨fun _ =>⟨rfl,rfl,rfl⟩,fun K hx=>by rw [sO _ _ _ _ _ rfl rfl rfl rfl] at hx; exact hx⟩
    | call c =>
     obtain⟨callee,args,ats⟩:=c
     cases callee with
     | value f=>intro _; exact⟨fun _ =>⟨rfl,rfl,rfl⟩,fun K hx=>hx⟩
     | builtin b=>cases b <;> intro hp4 <;> first | exact⟨fun _ =>⟨rfl,rfl,rfl⟩,fun K hx=>by rw [sO _ _ _ _ _ rfl rfl rfl rfl] at hx; exact hx⟩| cases hp4
     | _=>intro hp; cases hp
    | _=>intro hp; cases hp
   rw [(key.1 h).1]
   dsimp af
   rw [(key.1 h).2.1]
   dsimp af
   rw [(key.1 h).2.2]
   dsimp af
   exact rB(fun v g hx=>go v(.eff v g)g _(fun _ _ _=>hp4)hx)(key.2 _ hx)
  · rw [qm] at hx
   rw [vk hl hd.1]
   exact ws hst hR l(j + 1)_ h _ _(by rw [dc]; exact hl)hd.2 hdr' (by simp [hrl])(conf .skip(by simp))hx
theorem gz {S:Sx}{nm:Nat}{M:List Nat} : ∀ (c:Code){tm:TS}{h:Heap}{Q:ak}{Q' : FD},tm.length=nm->aG nm c=true->(∀ x tm h,tm.length=nm->Q x tm h->Q' x(fr tm)h)->wpS S nm M c tm h Q->yE S nm c(fr tm)h Q'
 | .skip,_,_,_,_,hl,_,hQ,hx=>hQ _ _ _ hl hx
 | .exit _,_,_,_,_,hl,_,hQ,hx=>hQ _ _ _ hl hx
 | .ret,_,_,_,_,hl,_,hQ,hx=>hQ _ _ _ hl hx
 | .label _,_,_,_,_,hl,_,hQ,hx=>hQ _ _ _ hl hx
 | .region _ ops draw,tm,h,Q,Q',hl,hd,hQ,hx=>by
  cases draw with
  | false=>exact rW(fun tm h hl hx=>hQ _ _ _ hl hx)ops.toList hl hd hx
  | true =>
   cases hc:calm ops with
   | true =>
    have hx:(match calm ops with | true=>GV S ops ops.toList tm(room h ops.size)fun tm h=>Q .normal tm h | false=>_):=hx
    rw [hc] at hx
    exact⟨Q5 hc,vQ hc(fun tm h hl hx=>hQ _ _ _ hl hx)ops.toList 0 tm _ [] hl hd rfl rfl(fun k r h=>by simp at h)hx⟩
   | false =>
   cases hst:mM ops with
   | true =>
    have hx:(match calm ops with | true=>_ | false=>(match mM ops with | true=>tf S(bc(cj ops))ops h.next(room h ops.size)ops.toList 0 tm(room h ops.size) [] [] fun tm h=>Q .normal tm h | false=>_)):=hx
    rw [hc,hst] at hx
    refine⟨?_,ws hst(fun tm h hl hx=>hQ _ _ _ hl hx)ops.toList 0 tm _ [] [] hl hd rfl rfl(fun k r h=>by simp at h)hx⟩
    unfold mM at hst
    simp af [Bool.and_eq_true] at hst
    simpa using hst.1.1
   | false =>
   have hx:(match calm ops with | true=>_ | false=>(match mM ops with | true=>_ | false=>TD S ops(fr tm)h(Tj nm fun tm h=>Q .normal tm h))):=hx
   rw [hc,hst] at hx
   refine Oh(fun E h hx=>?_)(show TD S ops(fr tm)h(Tj nm fun tm h=>Q .normal tm h) from hx)
   obtain⟨tm',h1,rfl,h2⟩:=hx
   exact hQ _ _ _ h1 h2
 | .seq a b,tm,h,Q,Q',hl,hd,hQ,hx=>by
  simp af [aG,Bool.and_eq_true] at hd
  refine gz a hl hd.1(fun x tm h hl hx=>?_)hx
  cases x with
  | normal=>exact gz b hl hd.2 hQ hx
  | _=>exact hQ _ _ _ hl hx
 | .cond c a b,tm,h,Q,Q',hl,hd,hQ,hx=>by
  simp af [aG,Bool.and_eq_true] at hd
  rw [Ri,AM]
  simp af [wpS] at hx
  unfold TX at hx
  split at hx
  · next t he =>
   rw [he]
   rcases uM hx with⟨rfl,h1⟩|⟨rfl,h1⟩
   · exact gz a hl hd.1 hQ h1
   · exact gz b hl hd.2 hQ h1
  · exact hx.elim
 | .block id c,tm,h,Q,Q',hl,hd,hQ,hx=>by
  refine gz c hl hd(fun x tm h hl hx=>?_)hx
  cases x with
  | exit id' =>
   show if id' = id then Q' .normal(fr tm)h else Q' (.exit id')(fr tm)h
   simp af [Kk] at hx
   cases hb:Nat.beq id' id with
   | true =>
    rw [hb] at hx
    rw [if_pos(Nat.eq_of_beq_eq_true hb)]; exact hQ _ _ _ hl hx
   | false =>
    rw [hb] at hx
    rw [if_neg(Nat.ne_of_beq_eq_false hb)]; exact hQ _ _ _ hl hx
  | _=>exact hQ _ _ _ hl hx
 | .loop c,tm,h,Q,Q',hl,hd,hQ,hx=>by
  obtain⟨x,E',h',h1,h2⟩:=(show xd S nm c(fr tm)h(TN nm Q) from I1 hl hx)
  refine⟨x,E',h',h1,?_⟩
  obtain⟨tm',h3,rfl,h4⟩:=h2
  exact hQ _ _ _ h3 h4
 | .rangeFunc ..,_,_,_,_,_,_,_,hx=>hx.elim
 | .scope _,_,_,_,_,_,_,_,hx=>hx.elim
 | .goto _,_,_,_,_,_,_,_,hx=>hx.elim
 | .refuse _,_,_,_,_,_,_,_,hx=>hx.elim
def XW(I:Nat->TH)(n:Nat)(tm:TS)(h:Heap):Prop:= ∃ m,m < n/\I m tm h
def VA(I:Nat->TH)(n:Nat)(Q:ak)(x:Exit)(tm:TS)(h:Heap):Prop:=match x with
 | .normal=>XW I n tm h
 | x=>Q x tm h
def HL:Code->Nat->Oper
 | .region _ ops _,i=>ops.toList.getD i⟨none,.nilCheck(.tmp 0),0,"",#[],none⟩
 | _,_ =>⟨none,.nilCheck(.tmp 0),0,"",#[],none⟩
def aQ:List Nat->Code->Code
 | [],c=>c
 | 0 :: p,.seq a _=>aQ p a
 | _ :: p,.seq _ b=>aQ p b
 | 0 :: p,.cond _ a _=>aQ p a
 | _ :: p,.cond _ _ b=>aQ p b
 | _ :: p,.block _ a=>aQ p a
 | _ :: p,.loop a=>aQ p a
 | _,_=>.skip
theorem IN {S:Sx}{nm:Nat}{M:List Nat}{c:Code}{Q:ak}(hd:aG nm c=true)(I:Nat->TH)(hI:∀ n tm h,tm.length=nm->I n tm h->wpS S nm M c tm h(VA I n Q)):∀ n tm h,tm.length=nm->I n tm h->KJ S nm c tm h Q:=by
 intro n
 induction n using Nat.strongRecOn with
 | _ n ih =>
  intro tm h hl hi
  refine OL hd(gz c hl hd(fun x tm h hl hx=>?_)(hI n tm h hl hi))
  cases x with
  | normal =>
   obtain⟨m,hm,hi'⟩:=hx
   exact ih m hm tm h hl hi'
  | _=>exact⟨tm,hl,rfl,hx⟩
def al(A:Nat->List Value->Heap->Prop)(n:Nat)(w:List Value)(h:Heap):Prop:= ∃ m,m < n/\A m w h
def aU(M:List Nat)(A:Nat->List Value->Heap->Prop)(n:Nat)(Q:ak)(x:Exit)(tm:TS)(h:Heap):Prop:=match x with
 | .normal=>al A n(M.map(Cc tm))h
 | x=>Q x tm h
theorem aj {A B:Prop}(h:A)(e:A=B):B:=cast e h
theorem aq {S:Sx}{nm:Nat}{M:List Nat}{c:Code}{K:ak}{A:Nat->List Value->Heap->Prop}(hd:aG nm c=true)
  (step:∀ n w(x:Nat->Value)h,A n w h->wpS S nm M c(Kf nm 0(M.zip w)x)h(aU M A n K))(n:Nat)(w:List Value)(h:Heap)(hA:A n w h)(hq:∀ x:Nat->Value,M.map(Cc(Kf nm 0(M.zip w)x))=w)(_:w.length=M.length):bq S nm M c w h K:=fun x =>
 IN(M:=M)hd(fun m tm h=>A m(M.map(Cc tm))h)(fun m tm h hl hi=>by
  have:=step m(M.map(Cc tm))(Cc tm)h hi
  rw [Hl hl] at this
  exact this)n _ h(yG ..)(by rw [hq x]; exact hA)
def ko(S:Sx)(nm:Nat)(M:List Nat):List Nat->Code->ak->ak
 | [],_,K=>K
 | 0 :: p,.seq a b,K=>ko S nm M p a(Wp(fun tm h=>wpS S nm M b tm h K)K)
 | _ :: p,.seq _ b,K=>ko S nm M p b K
 | 0 :: p,.cond _ a _,K=>ko S nm M p a K
 | _ :: p,.cond _ _ b,K=>ko S nm M p b K
 | _ :: p,.block id a,K=>ko S nm M p a(Kk id K)
 | _,_,K=>K
noncomputable def IV(S:Sx)(tm:TS)(h:Heap):List ResultVar->Option(List Value)
 | []=>some []
 | .tmp t :: r=>(IV S tm h r).map(tm.getD t undef :: ·)
 | .cell a t :: r=>match ai S.P t h(tm.getD a undef) with
  | some v=>(IV S tm h r).map(v :: ·)
  | none=>none
theorem yu(S:Sx)(tm:TS)(h:Heap):∀ l,lC S(fr tm)h l=IV S tm h l
 | []=>rfl
 | .tmp t :: r=>by simp af [lC,IV,yu S tm h r,fr]
 | .cell a t :: r=>by simp af [lC,IV,yu S tm h r,fr]; cases ai S.P t h(tm.getD a undef) <;> rfl
noncomputable def cF(S:Sx)(rs:List ResultVar)(Q:VH)(x:Exit)(tm:TS)(h:Heap):Prop:=match x with
 | .normal=>oD(IV S tm h rs)h Q
 | .ret=>oD(IV S tm h rs)h Q
 | _=>False
noncomputable def PZ(S:Sx)(h:Heap):List(Value × Option TypeId)->Option(List Value)
 | []=>some []
 | (v,none) :: r=>(PZ S h r).map(v :: ·)
 | (a,some t) :: r=>match ai S.P t h a with
  | some v=>(PZ S h r).map(v :: ·)
  | none=>none
noncomputable def jh(S:Sx)(l:List(Value × Option TypeId))(h:Heap)(Q:VH):Prop:=oD(PZ S h l)h Q
theorem Ov {S:Sx}{a:Value}{t:TypeId}{v:Value}{h:Heap}{Q:VH}(hl:ai S.P t h a=some v)(hq:Q v h):jh S [(a,some t)] h Q:=by
 unfold jh
 simp af [PZ,hl]
 exact hq
theorem Hm {S:Sx}{a:Value}{t:TypeId}{v w:Value}{h:Heap}{Q:VH}(hl:ai S.P t h a=some v)(hq:Q(.tuple⟨[v,w]⟩)h):jh S [(a,some t),(w,none)] h Q:=by
 unfold jh
 simp af [PZ,hl]
 exact hq
theorem ay {S:Sx}{M:List Nat}{f:FuncId}{fn:Func}{c:Code}{args:List Value}{h:Heap}{Q:VH}(hf:S.P.funcs[f]? = some fn)(hb:fn.body=some c)(hp:(Nat.blt f YB && (S.pr f).isNone && Nat.ble args.length fn.ntmps && aG fn.ntmps c)=true)
  (hw:wpS S fn.ntmps M c(args ++ List.replicate(fn.ntmps - args.length)undef)h(cF S fn.results.toList Q)):FW S f args h Q:=by
 simp af [Bool.and_eq_true,Nat.blt_eq,Nat.ble_eq,Option.isNone_iff_eq_none] at hp
 obtain⟨⟨⟨h1,h2⟩,h3⟩,h4⟩:=hp
 have hl:(args ++ List.replicate(fn.ntmps - args.length)undef).length=fn.ntmps:=by simp; omega
 have he:fr(args ++ List.replicate(fn.ntmps - args.length)undef)=Jn args:=by
  funext t
  show(args ++ List.replicate(fn.ntmps - args.length)undef).getD t undef=args.getD t undef
  simp af [List.getD_eq_getElem?_getD]
  by_cases h5:t < args.length
  · rw [List.getElem?_append_left h5]
  · rw [List.getElem?_append_right(by omega),List.getElem?_eq_none(l:=args)(by omega),List.getElem?_replicate]
   split <;> rfl
 refine VZ hf hb h1 h2 h3 h4 ?_
 rw [<- he]
 refine gz c hl h4(fun x tm h _ hx=>?_)hw
 cases x with
 | normal=>show oD(lC S(fr tm)h _)h Q; rw [yu]; exact hx
 | ret=>show oD(lC S(fr tm)h _)h Q; rw [yu]; exact hx
 | _=>exact hx.elim
end Go.Ab
end
section
namespace Go.Ab
open Go
theorem ap {n:Int}(h1 : -9223372036854775808<=n)(h2:n < 9223372036854775808):IntKind.wrap .i64 n=n:=by rw [IntKind.wrap_i64]; omega
theorem cJ {n:Int}(h1:0<=n)(h2:n < 18446744073709551616):IntKind.wrap .u64 n=n:=by
 rw [IntKind.wrap_u64]; omega
theorem nq {n:Int}(h1:0<=n)(h2:n < 256):IntKind.wrap .u8 n=n:=by
 rw [IntKind.wrap_u8]; omega
theorem i4 {P:Program}{t:TypeId}(hU:P.underlying t=some .string)(l:List UInt8)(k:IntKind){i:Int}(h0:0<=i)(h1:i < l.length):aR P t(aa l)(.int k i)=some(.int .u8((l.getD i.toNat 0).toNat:Nat)):=by
 unfold aR aa
 rw [hU]
 dsimp af
 rw [if_pos h0,List.getD_eq_getElem?_getD,List.getElem?_eq_getElem(by omega)]
 rfl
theorem iV {P:Program}{t:TypeId}(hU:P.underlying t=some .string)(l:List UInt8){h:Heap}{lo hi:Option Value}{a b:Nat}(ha:bM lo 0=some(a:Int))(hb:bM hi l.length=some(b:Int))(h1:a<=b)(h2:b<=l.length):aM P t(aa l)lo hi none h=some(aa((l.drop a).take(b - a))):=by
 unfold aM aa
 dsimp af
 rw [hU]
 dsimp af
 have hb' : bM hi(l.length:Nat)=some(b:Int):=hb
 show(match(none:Option Value),bM lo 0,bM hi l.length with | none,some l_1,some r=>_ | _,_,_=>none)=_
 rw [ha,hb']
 dsimp af
 rw [if_pos(by omega)]
 have e1:(a:Int).toNat=a:=by omega
 have e2:((b:Int) - a).toNat=b - a:=by omega
 rw [e1,e2]
theorem Tr {P:Program}{t:TypeId}(a b:List UInt8)(h:a.length + b.length<=4611686018427387904):an P .add t(aa a)(aa b)=some(aa(a ++ b)):=by
 show Dm .add a b=_
 unfold Dm
 dsimp af
 rw [if_pos h]
structure Ok(h0 h:Heap):Prop where
 wf:∀ k B,h.get k=some B->k < h.next
 ext:∀ k B,h0.get k=some B->h.get k=some B
 nx:h0.next<=h.next
def Wf(h:Heap):Prop:= ∀ k B,h.get k=some B->k < h.next
theorem Ok.refl {h:Heap}(w:Wf h):Ok h h :=⟨w,fun _ _ h=>h,Nat.le_refl _⟩
theorem Ok.trans {h0 h1 h2:Heap}(a:Ok h0 h1)(b:Ok h1 h2):Ok h0 h2 :=⟨b.wf,fun k B h=>b.ext k B(a.ext k B h),Nat.le_trans a.nx b.nx⟩
theorem Ok.push {h0 h:Heap}(a:Ok h0 h)(B:Blk):Ok h0(h.push B):=by
 refine⟨Heap.wf_push a.wf B,fun k C hk=>?_,Nat.le_trans a.nx(Nat.le_succ _)⟩
 have h1:=a.ext k C hk
 rw [Heap.get_push,if_neg(fun e=>by have:=a.wf _ _ h1; omega)]
 exact h1
theorem Ok.set {h0 h:Heap}(a:Ok h0 h){k:Nat}(B:Blk)(hk:h0.next<=k)(hk2:k < h.next)(w0:Wf h0):Ok h0(h.set k B):=by
 refine⟨fun j C hj=>?_,fun j C hj=>?_,a.nx⟩
 · rw [Heap.get_set] at hj
  split at hj
  · next e=>rw [e]; exact hk2
  · exact a.wf _ _ hj
 · rw [Heap.get_set,if_neg(fun e=>by have:=w0 _ _ hj; omega)]
  exact a.ext _ _ hj
theorem Ok.room {h0 h:Heap}(a:Ok h0 h)(n:Nat):Ok h0(room h n) :=⟨fun k B hk=>Nat.lt_of_lt_of_le(a.wf k B hk)(Nat.le_add_right _ _),a.ext,Nat.le_trans a.nx(Nat.le_add_right _ _)⟩
def OwnR(h0 h:Heap)(e:TypeId)(v:Value)(vs:List Value):Prop:=
 (v = .slice none 0 0/\vs=[])\/∃ k cs,v = .slice(some⟨k,0,none⟩)vs.length(bn + cs.length)/\h0.next<=k/\h.get k=some(.cells cs e 1 true)/\cs.take vs.length=vs/\vs.length<=cs.length
theorem OwnR.push {h0 h:Heap}{e:TypeId}{v:Value}{vs:List Value}(a:Ok h0 h)(o:OwnR h0 h e v vs)(B:Blk):OwnR h0(h.push B)e v vs:=by
 rcases o with o |⟨k,cs,h1,h2,h3,h4,h5⟩
 · exact .inl o
 · refine .inr⟨k,cs,h1,h2,?_,h4,h5⟩
  rw [Heap.get_push,if_neg(fun e=>by have:=a.wf _ _ h3; omega)]
  exact h3
theorem OwnR.snoc {P:Program}{t e:TypeId}{i:TypeInfo}(hU:P.underlying t=some(.slice e))(hE:dD P e=some i)(hs:i.size=1){h0 h:Heap}(w0:Wf h0)(a:Ok h0 h){v:Value}{vs:List Value}(o:OwnR h0 h e v vs){x:Value}(hx:bN x=true)(hl:(vs.length + 1) * i.bytes<=70368744177664)(hl2:vs.length + 1<=1099511627776) :
  ∃ (b:Option Addr)(n c:Nat)(u:Upd),aC P t t v(mC 1 1 h.next)(h.push(.cells [x] e 1 true))=some(.slice b n c,u)/\n=vs.length + 1/\OwnR h0(u.app(h.push(.cells [x] e 1 true)))e(.slice b n c)(vs ++ [x])/\Ok h0(u.app(h.push(.cells [x] e 1 true))):=by
 have hT:cg P t=true:=by unfold cg; rw [hU]
 have hsrc:dS(h.push(.cells [x] e 1 true))i.size(mC 1 1 h.next)=some([x],1):=by
  show(match(h.push(.cells [x] e 1 true)).get h.next with | some(.cells cs ..)=>if((cs.drop 0).take(1 * i.size)).length=1 * i.size then some((cs.drop 0).take(1 * i.size),1) else none | _=>none)=_
  rw [Heap.get_push,if_pos rfl,hs]; rfl
 have hap:=OwnR.push a o(.cells [x] e 1 true)
 have a':=a.push(.cells [x] e 1 true)
 generalize hh:h.push(.cells [x] e 1 true)=g at *
 have hgn:h.next < g.next:=by rw [<- hh]; exact Nat.lt_succ_self _
 unfold aC
 rw [hU]; dsimp af
 rw [hE]; dsimp af
 rw [if_pos hT,hsrc]; dsimp af
 rw [if_pos(by simp [hx,hs])]
 rcases hap with⟨rfl,rfl⟩|⟨k,cs,rfl,h2,h3,h4,h5⟩
 · show ∃ b n c u,(if 1=0 then some(Value.slice none 0 0,Upd.no) else if 1 * i.bytes<=70368744177664/\1<=1099511627776 then some(Value.slice(some⟨g.next,0,none⟩)1(bn + 1),Upd.push(.cells [x] e i.size true)) else none)=_/\_
  rw [if_neg(by omega),if_pos(by simpa using And.intro hl hl2)]
  refine⟨_,_,_,_,rfl,rfl,.inr⟨g.next,[x],rfl,a'.nx,?_,rfl,by simp⟩,a'.push _⟩
  show(g.push(.cells [x] e i.size true)).get g.next=_
  rw [Heap.get_push,if_pos rfl,hs]
 · dsimp af
  rw [if_neg(by omega),hs,Nat.mul_one]
  have hcap:aO(bn + cs.length)=cs.length:=by unfold aO; rw [if_pos(by omega)]; omega
  rw [hcap]
  have hkn:=a'.wf _ _ h3
  by_cases hroom:vs.length + 1<=cs.length
  · rw [if_pos hroom]
   unfold storeAt
   rw [Nat.zero_add,h3]
   dsimp af
   rw [if_pos⟨by simp; omega,by simp [hx]⟩]
   refine⟨_,_,_,_,rfl,rfl,.inr⟨k,cs.take vs.length ++ [x] ++ cs.drop(vs.length + 1),?_,h2,?_,?_,?_⟩,?_⟩
   · simp af [List.length_append,List.length_cons,List.length_nil,List.length_take,List.length_drop]
    congr 1; omega
   · show(g.set k _).get k=_
    rw [Heap.get_set,if_pos rfl]; rfl
   · have h6:(cs.take vs.length).length=vs.length:=by rw [List.length_take]; omega
    rw [List.length_append,List.append_assoc,<- List.append_assoc,List.take_append_of_le_length(by simp; omega),List.take_of_length_le(by simp; omega),h4]
   · simp; omega
   · exact a'.set _ h2 hkn w0
  · rw [if_neg hroom]
   have hcl:cs.length=vs.length:=by omega
   unfold gG
   rw [if_pos⟨hl,hl2⟩,h3]
   dsimp af
   rw [Nat.mul_one,if_pos⟨rfl,rfl,by simp; omega⟩,if_neg(by omega),if_pos⟨rfl,by omega⟩]
   refine⟨_,_,_,_,rfl,rfl,.inr⟨g.next,vs ++ [x],?_,a'.nx,?_,?_,?_⟩,?_⟩
   · rw [List.length_append]; rfl
   · show((g.del k).push _).get g.next=_
    rw [Heap.get_push,if_pos(show g.next=(g.del k).next from rfl),List.drop_zero,h4]
   · exact List.take_length
   · exact Nat.le_refl _
   · refine⟨?_,fun j C hj=>?_,Nat.le_trans a'.nx(Nat.le_succ _)⟩
    · refine Heap.wf_push(fun j C hj=>?_)_
     rw [Heap.get_del] at hj
     split at hj
     · cases hj
     · exact a'.wf _ _ hj
    · have h7:=a'.ext _ _ hj
     have h8:=a'.wf _ _ h7
     show((g.del k).push _).get j=_
     rw [Heap.get_push,if_neg(fun e=>by have:j=g.next:=e; omega),Heap.get_del,if_neg(fun e=>by have:=w0 _ _ hj; omega)]
     exact h7
def Rd(h:Heap)(e:TypeId)(v:Value)(vs:List Value):Prop:=
 (v = .slice none 0 0/\vs=[])\/∃ k off cs c wr,v = .slice(some⟨k,off,none⟩)vs.length c/\h.get k=some(.cells cs e 1 wr)/\(cs.drop off).take vs.length=vs
theorem OwnR.rd {h0 h:Heap}{e:TypeId}{v:Value}{vs:List Value}(o:OwnR h0 h e v vs):Rd h e v vs:=by
 rcases o with o |⟨k,cs,h1,h2,h3,h4,h5⟩
 · exact .inl o
 · exact .inr⟨k,0,cs,_,true,h1,h3,by simpa using h4⟩
theorem Rd.ok {h h' : Heap}{e:TypeId}{v:Value}{vs:List Value}(r:Rd h e v vs)(o:Ok h h'):Rd h' e v vs:=by
 rcases r with r |⟨k,off,cs,c,wr,h1,h2,h3⟩
 · exact .inl r
 · exact .inr⟨k,off,cs,c,wr,h1,o.ext _ _ h2,h3⟩
theorem Rd.len {h:Heap}{e:TypeId}{a:Option Addr}{n c:Nat}{vs:List Value}(r:Rd h e(.slice a n c)vs):n=vs.length:=by
 rcases r with⟨h1,rfl⟩|⟨k,off,cs,c,wr,h1,h2,h3⟩
 · injection h1
 · injection h1
theorem OwnR.len {h0 h:Heap}{e:TypeId}{a:Option Addr}{n c:Nat}{vs:List Value}(r:OwnR h0 h e(.slice a n c)vs):n=vs.length:=r.rd.len
theorem Rd.at_ {P:Program}{t e:TypeId}{d:TypeDesc}(hU:P.underlying t=some(.slice e))(hs:au P e=some 1)(hd:P.underlying e=some d)(hg:isAgg P e=false){h:Heap}{v:Value}{vs:List Value}(r:Rd h e v vs){k:IntKind}{i:Int}(h0:0<=i)(h1:i < vs.length) :
  ∃ p:Addr,ag P t v(.int k i)=some(.pointer(some p))/\ai P e h(.pointer(some p))=some(vs.getD i.toNat undef):=by
 rcases r with⟨_,rfl⟩|⟨b,off,cs,c,wr,rfl,h3,h4⟩
 · simp at h1; omega
 · refine⟨⟨b,off + i.toNat * 1,none⟩,?_,?_⟩
  · unfold ag
   rw [hU]; dsimp af
   rw [hs]; dsimp af
   rw [if_pos⟨h0,h1⟩]
   simp [Addr.add]
  · unfold ai
   rw [hd]; dsimp af
   rw [h3]; dsimp af
   rw [hg]
   simp af [Bool.false_eq_true,if_false,Nat.mul_one]
   have h5:=congrArg(fun l=>l[i.toNat]?)h4
   simp af [List.getElem?_take,List.getElem?_drop] at h5
   rw [if_pos(by omega)] at h5
   rw [h5,List.getD_eq_getElem?_getD,List.getElem?_eq_getElem(by omega)]; rfl
def nT(c:UInt8):Value:= .int .u8(c.toNat:Nat)
theorem kM:∀ l:List UInt8,bytesOf(l.map nT)=some l
 | []=>rfl
 | c :: l=>by
  have hc:c.toNat < 256:=c.toNat_lt
  show(if 0<=((c.toNat:Nat):Int)/\((c.toNat:Nat):Int) < 256 then(bytesOf(l.map nT)).map(UInt8.ofNat((c.toNat:Nat):Int).toNat :: ·) else none)=_
  rw [if_pos(by omega),kM l,Int.toNat_natCast]
  simp
theorem SX {P:Program}{s d e:TypeId}(hs:P.underlying s=some(.slice e))(hd:P.underlying d=some .string)(he:P.underlying e=some(.int .u8)){h:Heap}{v:Value}{l:List UInt8}(r:Rd h e v(l.map nT)):xw P s d v h=some(aa l):=by
 unfold xw aI
 dsimp af
 rw [hs,hd]
 rcases r with⟨rfl,h2⟩|⟨k,off,cs,c,wr,rfl,h2,h3⟩
 · dsimp af
  rw [he]
  have:l=[]:=by simpa using h2
  subst this
  rfl
 · dsimp af
  rw [he]
  dsimp af
  rw [h2]
  dsimp af
  rw [h3,if_pos rfl,kM]; rfl
theorem OwnR.ok {h0 h h' : Heap}{e:TypeId}{v:Value}{vs:List Value}(r:OwnR h0 h e v vs)(o:Ok h h'):OwnR h0 h' e v vs:=by
 rcases r with r |⟨k,cs,h1,h2,h3,h4,h5⟩
 · exact .inl r
 · exact .inr⟨k,cs,h1,h2,o.ext _ _ h3,h4,h5⟩
theorem OwnR.from_ {P:Program}{t e:TypeId}(hU:P.underlying t=some(.slice e))(hs:au P e=some 1){h0 h:Heap}{v:Value}{vs:List Value}(r:OwnR h0 h e v vs){z:Nat}(hz:z < vs.length) :
  ∃ a n c,aM P t v(some(.int .i64(z:Int)))none none h=some(.slice a n c)/\Rd h e(.slice a n c)(vs.drop z):=by
 rcases r with⟨rfl,rfl⟩|⟨k,cs,rfl,h2,h3,h4,h5⟩
 · simp at hz
 · refine⟨some⟨k,0 + z * 1,none⟩,vs.length - z,bn + cs.length - z,?_,.inr⟨k,0 + z * 1,cs,_,true,by rw [List.length_drop],h3,?_⟩⟩
  · unfold aM
   dsimp af
   rw [hU]
   dsimp af [bM]
   rw [hs,h3]
   dsimp af
   have hcap:aO(bn + cs.length)=cs.length:=by unfold aO; rw [if_pos(by omega)]; omega
   rw [if_pos(by simp),hcap,if_pos(by omega)]
   have e1:((z:Int)).toNat=z:=by omega
   have e2:((vs.length:Int) - (z:Int)).toNat=vs.length - z:=by omega
   rw [e1,e2]
  · rw [Nat.zero_add,Nat.mul_one,List.length_drop]
   have:=congrArg(List.drop z)h4
   rw [List.drop_take] at this
   exact this
theorem OwnR.upto {P:Program}{t e:TypeId}(hU:P.underlying t=some(.slice e))(hs:au P e=some 1){h0 h:Heap}{v:Value}{vs:List Value}(r:OwnR h0 h e v vs){z:Nat}(hz:z<=vs.length)(hp:0 < vs.length) :
  ∃ a n c,aM P t v none(some(.int .i64(z:Int)))none h=some(.slice a n c)/\OwnR h0 h e(.slice a n c)(vs.take z):=by
 rcases r with⟨rfl,rfl⟩|⟨k,cs,rfl,h2,h3,h4,h5⟩
 · simp at hp
 · refine⟨some⟨k,0 + 0 * 1,none⟩,z,bn + cs.length,?_,.inr⟨k,cs,?_,h2,h3,?_,?_⟩⟩
  · unfold aM
   dsimp af
   rw [hU]
   dsimp af [bM]
   rw [hs,h3]
   dsimp af
   have hcap:aO(bn + cs.length)=cs.length:=by unfold aO; rw [if_pos(by omega)]; omega
   rw [if_pos(by simp),hcap,if_pos(by omega)]
   have e2:((z:Int) - ((0:Nat):Int)).toNat=z:=by omega
   have e0:((0:Nat):Int).toNat=0:=rfl
   rw [e2,e0]; rfl
  · rw [List.length_take,Nat.min_eq_left hz]
  · rw [List.length_take,Nat.min_eq_left hz,<- h4,List.take_take,Nat.min_eq_left hz]
  · rw [List.length_take]; omega
theorem uy(k:IntKind)(a b:Int):km true [.int k a,.int k b]=some(.int k(if b > a then b else a)):=by simp [km]
theorem cO {P:Program}{t:TypeId}{k:IntKind}{a:Int}{b:Nat}(h0:0<=a)(hb:0 < b):an P .rem t(.int k a)(.int k(b:Int))=some(.int k(a % (b:Int))):=by
 rw [SG P t k _ _(by omega),Int.tmod_eq_emod_of_nonneg h0]
theorem kw {P:Program}{t:TypeId}{a:Int}{b:Nat}(h0:0<=a)(h1:a < 18446744073709551616)(hb:0 < b):an P .quo t(.int .u64 a)(.int .u64(b:Int))=some(.int .u64(a / (b:Int))):=by
 rw [Ez P t .u64 _ _(by omega),Int.tdiv_eq_ediv_of_nonneg h0,cJ(Int.ediv_nonneg h0(by omega))(Int.lt_of_le_of_lt(Int.ediv_le_self _ h0)h1)]
end Go.Ab
end
section
namespace Go.Ab
open Go
def eo:List Nat->Code->Code->Code
 | [],n,_=>n
 | 0 :: p,n,.seq a b=>.seq(eo p n a)b
 | _ :: p,n,.seq a b=>.seq a(eo p n b)
 | 0 :: p,n,.cond c a b=>.cond c(eo p n a)b
 | _ :: p,n,.cond c a b=>.cond c a(eo p n b)
 | _ :: p,n,.block i c=>.block i(eo p n c)
 | _ :: p,n,.loop c=>.loop(eo p n c)
 | _ :: _,_,c=>c
theorem dy:∀ (p:List Nat)(c:Code),eo p(aQ p c)c=c
 | [],c=>rfl
 | i :: p,c=>by
  cases c with
  | seq a b=>cases i <;> simp af [aQ,eo,dy p]
  | cond c a b=>cases i <;> simp af [aQ,eo,dy p]
  | block i c=>simp af [aQ,eo,dy p]
  | loop c=>simp af [aQ,eo,dy p]
  | _=>simp af [eo]
end Go.Ab
end
section
set_option linter.unusedVariables false
set_option maxRecDepth 100000
namespace Go.Proofs.YtoabjjimjldcfaaGreatDoor
open Go Go.Ab
noncomputable def vd:Code:=(Tryz.f165.body).getD .skip
def Ns:List Nat:=[]
abbrev Nm(l m:LB)(h:Heap)(Q:VH):Prop:=FW SS 177 [(aa l),(aa m)] h fun v1 h2=>yB v1 fun b3=>ax(!b3)(Q(.tuple⟨[(aa l),(.bool false)]⟩)h2)(xS(aM SS.P 9(aa l)(some(.int .i64((m:LB).length:Int)))none none h2)fun l4=>Q(.tuple⟨[(aa l4),(.bool true)]⟩)h2)
theorem JG(l m:LB)(h:Heap)(Q:VH)(hx:Nm l m h Q):FW SS 165 [(aa l),(aa m)] h Q:=ay(M:=Ns)(c:=vd)Tryz.func165(show Tryz.f165.body=some vd by kernel_rfl)(by kernel_rfl)(aj hx(by kernel_rfl))
noncomputable def w6:Code:=(Tryz.f145.body).getD .skip
def Q1:List Nat:=[]
abbrev OR(l m:LB)(h:Heap)(Q:VH):Prop:=FW SS 165 [(aa l),(aa m)] h fun v1 h2=>∃ l3:LB,∃ b4:Bool,v1=(.tuple⟨[(aa l3),(.bool b4)]⟩)/\Q(.tuple⟨[(aa l3),(.bool b4)]⟩)h2
theorem Mf(l m:LB)(h:Heap)(Q:VH)(hx:OR l m h Q):FW SS 145 [(aa l),(aa m)] h Q:=ay(M:=Q1)(c:=w6)Tryz.func145(show Tryz.f145.body=some w6 by kernel_rfl)(by kernel_rfl)(aj hx(by kernel_rfl))
noncomputable def q7:Code:=(Tryz.f186.body).getD .skip
def JA:List Nat:=[]
abbrev IJ(l:LB)(c:Int)(h:Heap)(Q:VH):Prop:=FW SS 196 [(aa l),(.int .u8 c)] h fun v1 h2=>yI .i64 v1 fun n3=>Q(.int .i64 n3)h2
theorem Hd(l:LB)(c:Int)(h:Heap)(Q:VH)(hx:IJ l c h Q):FW SS 186 [(aa l),(.int .u8 c)] h Q:=ay(M:=JA)(c:=q7)Tryz.func186(show Tryz.f186.body=some q7 by kernel_rfl)(by kernel_rfl)(aj hx(by kernel_rfl))
noncomputable def wC:Code:=(Tryz.f178.body).getD .skip
def Oi:List Nat:=[]
abbrev QY(l:LB)(h:Heap)(Q:VH):Prop:=ax(([47] : LB) == l)(Q(.int .i64 0)h)(xI .u8(aR SS.P 9(aa [47])(.int .i64 0))fun n1=>FW SS 186 [(aa l),(.int .u8 n1)] h fun v2 h3=>yI .i64 v2 fun n4=>Q(.int .i64 n4)h3)
theorem Mh(l:LB)(h:Heap)(Q:VH)(hx:QY l h Q):FW SS 178 [(aa l),(aa [47])] h Q:=ay(M:=Oi)(c:=wC)Tryz.func178(show Tryz.f178.body=some wC by kernel_rfl)(by kernel_rfl)(aj hx(by kernel_rfl))
noncomputable def Dx:Code:=(Tryz.f166.body).getD .skip
def UR:List Nat:=[]
abbrev Vh(l:LB)(h:Heap)(Q:VH):Prop:=FW SS 178 [(aa l),(aa [47])] h fun v1 h2=>yI .i64 v1 fun n3=>ax(decide((n3:Int)>=0))(xS(aM SS.P 9(aa l)none(some(.int .i64 n3))none(room h2 12))fun l4=>xS(aM SS.P 9(aa l)(some(.int .i64(IntKind.wrap .i64(n3 + 1))))none none(room h2 12))fun l5=>Q(.tuple⟨[(aa l4),(aa l5),(.bool true)]⟩)(room h2 12))(Q(.tuple⟨[(aa l),(aa []),(.bool false)]⟩)h2)
theorem S1(l:LB)(h:Heap)(Q:VH)(hx:Vh l h Q):FW SS 166 [(aa l),(aa [47])] h Q:=ay(M:=UR)(c:=Dx)Tryz.func166(show Tryz.f166.body=some Dx by kernel_rfl)(by kernel_rfl)(aj hx(by kernel_rfl))
noncomputable def F4:Code:=(Tryz.f146.body).getD .skip
def V5:List Nat:=[]
abbrev Xx(l:LB)(h:Heap)(Q:VH):Prop:=FW SS 166 [(aa l),(aa [47])] h fun v1 h2=>∃ l3:LB,∃ l4:LB,∃ b5:Bool,v1=(.tuple⟨[(aa l3),(aa l4),(.bool b5)]⟩)/\Q(.tuple⟨[(aa l3),(aa l4),(.bool b5)]⟩)h2
theorem Uu(l:LB)(h:Heap)(Q:VH)(hx:Xx l h Q):FW SS 146 [(aa l),(aa [47])] h Q:=ay(M:=V5)(c:=F4)Tryz.func146(show Tryz.f146.body=some F4 by kernel_rfl)(by kernel_rfl)(aj hx(by kernel_rfl))
noncomputable def dV:Code:=(Tryz.f126.body).getD .skip
noncomputable def wR(Q:VH):ak:=cF SS Tryz.f126.results.toList Q
def pL:List Nat:=[0,1,5]
noncomputable def xn(p:List Nat)(w:LV)(h:Heap)(Q:ak):Prop:=bq SS Tryz.f126.ntmps pL(aQ p dV)w h Q
noncomputable def wt(p b:List Nat)(K:ak):ak:=ko SS Tryz.f126.ntmps pL p(aQ b dV)K
abbrev Gk(l:LB)(c:Int)(h:Heap)(Q:VH):Prop:=xn [1,0,1,0,0] [(aa l),(.int .u8 c),(.int .i64 0)] h(wt [1,0,1,0] [] (wR Q))
theorem Fw(l:LB)(c:Int)(h:Heap)(Q:VH)(hx:Gk l c h Q):FW SS 126 [(aa l),(.int .u8 c)] h Q:=ay(M:=pL)(c:=dV)Tryz.func126(show Tryz.f126.body=some dV by kernel_rfl)(by kernel_rfl)(aj hx(by kernel_rfl))
abbrev fU(l:LB)(c:Int)  (i:Nat)  : LV:=[(aa l),(.int .u8 c),(iA i)]
def f7(l:LB)(c:Int)  (Inv:Nat->Nat->Heap->Prop)(mz:Nat)(w:LV)(h:Heap):Prop:= ∃ (i:Nat) ,w=(fU l c i )/\Inv mz i h
abbrev tT(l:LB)(c:Int)  (Inv:Nat->Nat->Heap->Prop)(Q:VH)(mz:Nat)(i:Nat)  (zz:Nat->Value)(h:Heap):Prop:=ax(decide(((i:Int):Int) < ((l:LB).length:Int)))(xI .u8(aR SS.P 9(aa l)(iA i))fun n1=>ax(((n1:Int) == c))(Q(iA i)h)(al(f7 l c Inv)mz [(aa l),(.int .u8 c),(.int .i64(IntKind.wrap .i64((i:Int) + 1)))] h))(Q(.int .i64(-1))h)
theorem om {l:LB}{c:Int}  {Inv:Nat->Nat->Heap->Prop}{mz:Nat}(mq:Nat){i:Nat}  {h:Heap}(hm:mq < mz)(hi:Inv mq i h):al(f7 l c Inv)mz(fU l c i )h :=⟨mq,hm,i,rfl,hi⟩
theorem oJ(l:LB)(c:Int)  (Inv:Nat->Nat->Heap->Prop)(Q:VH)(step:∀ (mz:Nat)(i:Nat)  (zz:Nat->Value)(h:Heap),Inv mz i h->tT l c Inv Q mz i  zz h)(mz:Nat){i:Nat}  {h:Heap}(hi:Inv mz i h):xn [1,0,1,0,0] (fU l c i )h(wt [1,0,1,0] [] (wR Q)):=
 aq(A:=(f7 l c Inv))(show aG Tryz.f126.ntmps(aQ [1,0,1,0,0] dV)=true by kernel_rfl)(fun mz w zz h⟨i,hw,hi⟩=> by subst hw; exact aj(step mz i  zz h hi)(by kernel_rfl))mz _ h⟨i,rfl,hi⟩(fun zz=>by kernel_rfl)(by kernel_rfl)
noncomputable def ob:Code:=(Tryz.f127.body).getD .skip
def Ha:List Nat:=[]
abbrev F1(l:LB)(h:Heap)(Q:VH):Prop:=ax(decide((((l:LB).length:Int):Int)<=400))(FW SS 149 [(aa l)] h fun v1 h2=>yB v1 fun b3=>Q(.bool b3)h2)(Q(.bool false)h)
theorem FV(l:LB)(h:Heap)(Q:VH)(hx:F1 l h Q):FW SS 127 [(aa l)] h Q:=ay(M:=Ha)(c:=ob)Tryz.func127(show Tryz.f127.body=some ob by kernel_rfl)(by kernel_rfl)(aj hx(by kernel_rfl))
noncomputable def aP:Code:=(Tryz.f104.body).getD .skip
noncomputable def be(Q:VH):ak:=cF SS Tryz.f104.results.toList Q
def a0:List Nat:=[]
abbrev wG(l:LB)(cc:Code)(h:Heap)(Q:VH):Prop:=ax(decide((((l:LB).length:Int):Int) > 0))(xI .u8(aR SS.P 9(aa l)(.int .i64 0))fun n1=>ax(((n1:Int) == 45))(xS(aM SS.P 9(aa l)(some(.int .i64 1))none none h)fun l2=>FW SS 126 [(aa l2),(.int .u8 47)] h fun v3 h4=>yI .i64 v3 fun n5=>ax(decide((n5:Int)>=0))(xS(aM SS.P 9(aa l2)(some(.int .i64(IntKind.wrap .i64(n5 + 1))))none none h4)fun l6=>xS(aM SS.P 9(aa l2)none(some(.int .i64 n5))none h4)fun l7=>wpS SS Tryz.f104.ntmps a0 cc [(aa l),undef,(.bool false),(aa []),(aa []),(.bool false),(aa l7),(aa l6),(.bool(((n1:Int) == 45))),(.int .i64 n5),undef,undef,(aa l),(aa l),(.int .i64((l:LB).length:Int)),(.bool(decide((((l:LB).length:Int):Int) > 0))),(.bool true),(aa l),(.int .u8 n1),(.bool(((n1:Int) == 45))),(.bool(((n1:Int) == 45))),(.bool(((n1:Int) == 45))),(aa l),(aa l2),(aa l2),(.int .i64 n5),(.int .i64 n5),(.bool(decide((n5:Int)>=0))),(aa l2),(.int .i64 n5),(.int .i64(IntKind.wrap .i64(n5 + 1))),(aa l6),(aa l2),(.int .i64 n5),(aa l7),undef,undef,undef,undef,undef,undef,undef,undef,undef,undef,undef,undef,undef,undef,undef,undef,undef,undef,undef,undef,undef,undef,undef,undef,undef,undef,undef,undef,undef,undef,undef,undef,undef,undef,undef,undef,undef,undef,undef,undef,undef,undef,undef,undef,undef,undef] h4(be Q))(wpS SS Tryz.f104.ntmps a0 cc [(aa l),undef,(.bool false),(aa []),(aa []),(.bool false),(aa l2),(aa [49]),(.bool(((n1:Int) == 45))),(.int .i64 n5),undef,undef,(aa l),(aa l),(.int .i64((l:LB).length:Int)),(.bool(decide((((l:LB).length:Int):Int) > 0))),(.bool true),(aa l),(.int .u8 n1),(.bool(((n1:Int) == 45))),(.bool(((n1:Int) == 45))),(.bool(((n1:Int) == 45))),(aa l),(aa l2),(aa l2),(.int .i64 n5),(.int .i64 n5),(.bool(decide((n5:Int)>=0))),undef,undef,undef,undef,undef,undef,undef,undef,undef,undef,undef,undef,undef,undef,undef,undef,undef,undef,undef,undef,undef,undef,undef,undef,undef,undef,undef,undef,undef,undef,undef,undef,undef,undef,undef,undef,undef,undef,undef,undef,undef,undef,undef,undef,undef,undef,undef,undef,undef,undef,undef,undef,undef] h4(be Q)))(FW SS 126 [(aa l),(.int .u8 47)] h fun v8 h9=>yI .i64 v8 fun n10=>ax(decide((n10:Int)>=0))(xS(aM SS.P 9(aa l)(some(.int .i64(IntKind.wrap .i64(n10 + 1))))none none h9)fun l11=>xS(aM SS.P 9(aa l)none(some(.int .i64 n10))none h9)fun l12=>wpS SS Tryz.f104.ntmps a0 cc [(aa l),undef,(.bool false),(aa []),(aa []),(.bool false),(aa l12),(aa l11),(.bool(((n1:Int) == 45))),(.int .i64 n10),undef,undef,(aa l),(aa l),(.int .i64((l:LB).length:Int)),(.bool(decide((((l:LB).length:Int):Int) > 0))),(.bool true),(aa l),(.int .u8 n1),(.bool(((n1:Int) == 45))),(.bool(((n1:Int) == 45))),(.bool(((n1:Int) == 45))),undef,undef,(aa l),(.int .i64 n10),(.int .i64 n10),(.bool(decide((n10:Int)>=0))),(aa l),(.int .i64 n10),(.int .i64(IntKind.wrap .i64(n10 + 1))),(aa l11),(aa l),(.int .i64 n10),(aa l12),undef,undef,undef,undef,undef,undef,undef,undef,undef,undef,undef,undef,undef,undef,undef,undef,undef,undef,undef,undef,undef,undef,undef,undef,undef,undef,undef,undef,undef,undef,undef,undef,undef,undef,undef,undef,undef,undef,undef,undef,undef,undef,undef,undef,undef,undef] h9(be Q))(wpS SS Tryz.f104.ntmps a0 cc [(aa l),undef,(.bool false),(aa []),(aa []),(.bool false),(aa l),(aa [49]),(.bool(((n1:Int) == 45))),(.int .i64 n10),undef,undef,(aa l),(aa l),(.int .i64((l:LB).length:Int)),(.bool(decide((((l:LB).length:Int):Int) > 0))),(.bool true),(aa l),(.int .u8 n1),(.bool(((n1:Int) == 45))),(.bool(((n1:Int) == 45))),(.bool(((n1:Int) == 45))),undef,undef,(aa l),(.int .i64 n10),(.int .i64 n10),(.bool(decide((n10:Int)>=0))),undef,undef,undef,undef,undef,undef,undef,undef,undef,undef,undef,undef,undef,undef,undef,undef,undef,undef,undef,undef,undef,undef,undef,undef,undef,undef,undef,undef,undef,undef,undef,undef,undef,undef,undef,undef,undef,undef,undef,undef,undef,undef,undef,undef,undef,undef,undef,undef,undef,undef,undef,undef,undef] h9(be Q))))(FW SS 126 [(aa l),(.int .u8 47)] h fun v13 h14=>yI .i64 v13 fun n15=>ax(decide((n15:Int)>=0))(xS(aM SS.P 9(aa l)(some(.int .i64(IntKind.wrap .i64(n15 + 1))))none none h14)fun l16=>xS(aM SS.P 9(aa l)none(some(.int .i64 n15))none h14)fun l17=>wpS SS Tryz.f104.ntmps a0 cc [(aa l),undef,(.bool false),(aa []),(aa []),(.bool false),(aa l17),(aa l16),(.bool false),(.int .i64 n15),undef,undef,(aa l),(aa l),(.int .i64((l:LB).length:Int)),(.bool(decide((((l:LB).length:Int):Int) > 0))),(.bool false),undef,undef,undef,(.bool false),(.bool false),undef,undef,(aa l),(.int .i64 n15),(.int .i64 n15),(.bool(decide((n15:Int)>=0))),(aa l),(.int .i64 n15),(.int .i64(IntKind.wrap .i64(n15 + 1))),(aa l16),(aa l),(.int .i64 n15),(aa l17),undef,undef,undef,undef,undef,undef,undef,undef,undef,undef,undef,undef,undef,undef,undef,undef,undef,undef,undef,undef,undef,undef,undef,undef,undef,undef,undef,undef,undef,undef,undef,undef,undef,undef,undef,undef,undef,undef,undef,undef,undef,undef,undef,undef,undef,undef] h14(be Q))(wpS SS Tryz.f104.ntmps a0 cc [(aa l),undef,(.bool false),(aa []),(aa []),(.bool false),(aa l),(aa [49]),(.bool false),(.int .i64 n15),undef,undef,(aa l),(aa l),(.int .i64((l:LB).length:Int)),(.bool(decide((((l:LB).length:Int):Int) > 0))),(.bool false),undef,undef,undef,(.bool false),(.bool false),undef,undef,(aa l),(.int .i64 n15),(.int .i64 n15),(.bool(decide((n15:Int)>=0))),undef,undef,undef,undef,undef,undef,undef,undef,undef,undef,undef,undef,undef,undef,undef,undef,undef,undef,undef,undef,undef,undef,undef,undef,undef,undef,undef,undef,undef,undef,undef,undef,undef,undef,undef,undef,undef,undef,undef,undef,undef,undef,undef,undef,undef,undef,undef,undef,undef,undef,undef,undef,undef] h14(be Q)))
theorem EP(l:LB)(h:Heap)(Q:VH)(hx:wG l(aQ [1,1,1,1,1,1] aP)h Q):FW SS 104 [(aa l)] h Q:=by
 have e:∀ cc,wG l cc h Q=wpS SS Tryz.f104.ntmps a0(eo [1,1,1,1,1,1] cc aP)([(aa l)] ++ List.replicate(Tryz.f104.ntmps - ([(aa l)] : LV).length)undef)h(be Q):=fun cc=>by kernel_rfl
 have e:=e(aQ [1,1,1,1,1,1] aP)
 rw [dy] at e
 exact ay(M:=a0)(c:=aP)Tryz.func104(show Tryz.f104.body=some aP by kernel_rfl)(by kernel_rfl)(aj hx e)
abbrev oL(n d:LB)(neg:Bool)(st:Int)(cc:Code)(x0 x1 x2 x3 x4 x5 x10 x11 x12 x13 x14 x15 x16 x17 x18 x19 x20 x21 x22 x23 x24 x25 x26 x27 x28 x29 x30 x31 x32 x33 x34 x35 x36 x37 x38 x39 x40 x41 x42 x43 x44 x45 x46 x47 x48 x49 x50 x51 x52 x53 x54 x55 x56 x57 x58 x59 x60 x61 x62 x63 x64 x65 x66 x67 x68 x69 x70 x71 x72 x73 x74 x75 x76 x77 x78 x79 x80:Value)(h:Heap)(Q:VH):Prop:=FW SS 127 [(aa n)] h fun v1 h2=>yB v1 fun b3=>ax(!b3)(Q(.tuple⟨[(.bool false),(aa []),(aa []),(.bool false)]⟩)h2)(FW SS 127 [(aa d)] h2 fun v4 h5=>yB v4 fun b6=>ax(!b6)(Q(.tuple⟨[(.bool false),(aa []),(aa []),(.bool false)]⟩)h5)(ax((d:LB) == [48])(Q(.tuple⟨[(.bool false),(aa []),(aa []),(.bool false)]⟩)h5)(ax((n:LB) == [48])(ax neg(Q(.tuple⟨[(.bool false),(aa []),(aa []),(.bool false)]⟩)h5)(ax(decide((st:Int)>=0))(Q(.tuple⟨[(.bool false),(aa []),(aa []),(.bool false)]⟩)h5)(ax((d:LB) == [49])(ax(decide((st:Int)>=0))(Q(.tuple⟨[(.bool false),(aa []),(aa []),(.bool false)]⟩)h5)(wpS SS Tryz.f104.ntmps a0 cc [x0,x1,x2,x3,x4,x5,(aa n),(aa d),(.bool neg),(.int .i64 st),x10,x11,x12,x13,x14,x15,x16,x17,x18,x19,x20,x21,x22,x23,x24,x25,x26,x27,x28,x29,x30,x31,x32,x33,x34,(aa n),(.bool b3),(.bool(!b3)),(.bool false),(aa d),(.bool b6),(.bool(!b6)),(.bool(!b6)),(.bool false),(aa d),(.bool((d:LB) == [48])),(.bool((d:LB) == [48])),(.bool false),(aa n),(.bool((n:LB) == [48])),(.bool true),(.bool neg),(.bool false),(.int .i64 st),(.bool(decide((st:Int)>=0))),(.bool(decide((st:Int)>=0))),(.bool(decide((st:Int)>=0))),(.bool(decide((st:Int)>=0))),(.bool false),(aa d),(.bool((d:LB) == [49])),(.bool true),(.int .i64 st),(.bool(decide((st:Int)>=0))),(.bool(decide((st:Int)>=0))),(.bool(decide((st:Int)>=0))),x66,x67,x68,x69,x70,x71,x72,x73,x74,x75,x76,x77,x78,x79,x80] h5(be Q)))(wpS SS Tryz.f104.ntmps a0 cc [x0,x1,x2,x3,x4,x5,(aa n),(aa d),(.bool neg),(.int .i64 st),x10,x11,x12,x13,x14,x15,x16,x17,x18,x19,x20,x21,x22,x23,x24,x25,x26,x27,x28,x29,x30,x31,x32,x33,x34,(aa n),(.bool b3),(.bool(!b3)),(.bool false),(aa d),(.bool b6),(.bool(!b6)),(.bool(!b6)),(.bool false),(aa d),(.bool((d:LB) == [48])),(.bool((d:LB) == [48])),(.bool false),(aa n),(.bool((n:LB) == [48])),(.bool true),(.bool neg),(.bool false),(.int .i64 st),(.bool(decide((st:Int)>=0))),(.bool(decide((st:Int)>=0))),(.bool(decide((st:Int)>=0))),(.bool(decide((st:Int)>=0))),(.bool false),(aa d),(.bool((d:LB) == [49])),(.bool false),undef,undef,(.bool false),(.bool false),x66,x67,x68,x69,x70,x71,x72,x73,x74,x75,x76,x77,x78,x79,x80] h5(be Q)))))(ax((d:LB) == [49])(ax(decide((st:Int)>=0))(Q(.tuple⟨[(.bool false),(aa []),(aa []),(.bool false)]⟩)h5)(wpS SS Tryz.f104.ntmps a0 cc [x0,x1,x2,x3,x4,x5,(aa n),(aa d),(.bool neg),(.int .i64 st),x10,x11,x12,x13,x14,x15,x16,x17,x18,x19,x20,x21,x22,x23,x24,x25,x26,x27,x28,x29,x30,x31,x32,x33,x34,(aa n),(.bool b3),(.bool(!b3)),(.bool false),(aa d),(.bool b6),(.bool(!b6)),(.bool(!b6)),(.bool false),(aa d),(.bool((d:LB) == [48])),(.bool((d:LB) == [48])),(.bool false),(aa n),(.bool((n:LB) == [48])),(.bool false),undef,undef,undef,undef,undef,(.bool false),(.bool false),(.bool false),(aa d),(.bool((d:LB) == [49])),(.bool true),(.int .i64 st),(.bool(decide((st:Int)>=0))),(.bool(decide((st:Int)>=0))),(.bool(decide((st:Int)>=0))),x66,x67,x68,x69,x70,x71,x72,x73,x74,x75,x76,x77,x78,x79,x80] h5(be Q)))(wpS SS Tryz.f104.ntmps a0 cc [x0,x1,x2,x3,x4,x5,(aa n),(aa d),(.bool neg),(.int .i64 st),x10,x11,x12,x13,x14,x15,x16,x17,x18,x19,x20,x21,x22,x23,x24,x25,x26,x27,x28,x29,x30,x31,x32,x33,x34,(aa n),(.bool b3),(.bool(!b3)),(.bool false),(aa d),(.bool b6),(.bool(!b6)),(.bool(!b6)),(.bool false),(aa d),(.bool((d:LB) == [48])),(.bool((d:LB) == [48])),(.bool false),(aa n),(.bool((n:LB) == [48])),(.bool false),undef,undef,undef,undef,undef,(.bool false),(.bool false),(.bool false),(aa d),(.bool((d:LB) == [49])),(.bool false),undef,undef,(.bool false),(.bool false),x66,x67,x68,x69,x70,x71,x72,x73,x74,x75,x76,x77,x78,x79,x80] h5(be Q))))))
theorem xH {n d:LB}{neg:Bool}{st:Int}{x0 x1 x2 x3 x4 x5 x10 x11 x12 x13 x14 x15 x16 x17 x18 x19 x20 x21 x22 x23 x24 x25 x26 x27 x28 x29 x30 x31 x32 x33 x34 x35 x36 x37 x38 x39 x40 x41 x42 x43 x44 x45 x46 x47 x48 x49 x50 x51 x52 x53 x54 x55 x56 x57 x58 x59 x60 x61 x62 x63 x64 x65 x66 x67 x68 x69 x70 x71 x72 x73 x74 x75 x76 x77 x78 x79 x80:Value}{h:Heap}{Q:VH}(hx:oL n d neg st(aQ [1,1,1,1,1,1,1] aP)x0 x1 x2 x3 x4 x5 x10 x11 x12 x13 x14 x15 x16 x17 x18 x19 x20 x21 x22 x23 x24 x25 x26 x27 x28 x29 x30 x31 x32 x33 x34 x35 x36 x37 x38 x39 x40 x41 x42 x43 x44 x45 x46 x47 x48 x49 x50 x51 x52 x53 x54 x55 x56 x57 x58 x59 x60 x61 x62 x63 x64 x65 x66 x67 x68 x69 x70 x71 x72 x73 x74 x75 x76 x77 x78 x79 x80 h Q):wpS SS Tryz.f104.ntmps a0(aQ [1,1,1,1,1,1] aP) [x0,x1,x2,x3,x4,x5,(aa n),(aa d),(.bool neg),(.int .i64 st),x10,x11,x12,x13,x14,x15,x16,x17,x18,x19,x20,x21,x22,x23,x24,x25,x26,x27,x28,x29,x30,x31,x32,x33,x34,x35,x36,x37,x38,x39,x40,x41,x42,x43,x44,x45,x46,x47,x48,x49,x50,x51,x52,x53,x54,x55,x56,x57,x58,x59,x60,x61,x62,x63,x64,x65,x66,x67,x68,x69,x70,x71,x72,x73,x74,x75,x76,x77,x78,x79,x80] h(be Q):=by
 have e:∀ cc,oL n d neg st cc x0 x1 x2 x3 x4 x5 x10 x11 x12 x13 x14 x15 x16 x17 x18 x19 x20 x21 x22 x23 x24 x25 x26 x27 x28 x29 x30 x31 x32 x33 x34 x35 x36 x37 x38 x39 x40 x41 x42 x43 x44 x45 x46 x47 x48 x49 x50 x51 x52 x53 x54 x55 x56 x57 x58 x59 x60 x61 x62 x63 x64 x65 x66 x67 x68 x69 x70 x71 x72 x73 x74 x75 x76 x77 x78 x79 x80 h Q=wpS SS Tryz.f104.ntmps a0(eo [1] cc(aQ [1,1,1,1,1,1] aP)) [x0,x1,x2,x3,x4,x5,(aa n),(aa d),(.bool neg),(.int .i64 st),x10,x11,x12,x13,x14,x15,x16,x17,x18,x19,x20,x21,x22,x23,x24,x25,x26,x27,x28,x29,x30,x31,x32,x33,x34,x35,x36,x37,x38,x39,x40,x41,x42,x43,x44,x45,x46,x47,x48,x49,x50,x51,x52,x53,x54,x55,x56,x57,x58,x59,x60,x61,x62,x63,x64,x65,x66,x67,x68,x69,x70,x71,x72,x73,x74,x75,x76,x77,x78,x79,x80] h(be Q):=fun cc=>by kernel_rfl
 have e:=e(aQ [1,1,1,1,1,1,1] aP)
 have ec:(aQ [1,1,1,1,1,1,1] aP)=aQ [1] (aQ [1,1,1,1,1,1] aP):=by kernel_rfl
 have es:eo [1] (aQ [1,1,1,1,1,1,1] aP)(aQ [1,1,1,1,1,1] aP)=aQ [1,1,1,1,1,1] aP:=by rw [ec,dy]
 rw [es] at e
 exact aj hx e
abbrev zw(n d:LB)(neg:Bool)(st:Int)(x0 x1 x2 x3 x4 x5 x10 x11 x12 x13 x14 x15 x16 x17 x18 x19 x20 x21 x22 x23 x24 x25 x26 x27 x28 x29 x30 x31 x32 x33 x34 x35 x36 x37 x38 x39 x40 x41 x42 x43 x44 x45 x46 x47 x48 x49 x50 x51 x52 x53 x54 x55 x56 x57 x58 x59 x60 x61 x62 x63 x64 x65 x66 x67 x68 x69 x70 x71 x72 x73 x74 x75 x76 x77 x78 x79 x80:Value)(h:Heap)(Q:VH):Prop:=FW SS 128 [(aa n),(aa d)] h fun v1 h2=>∃ l3:LB,∃ n4:Int,v1=(.tuple⟨[(aa l3),(.int .i64 n4)]⟩)/\ax(!((l3:LB) == [49]))(ax(!((d:LB) == [49]))(Q(.tuple⟨[(.bool false),(aa []),(aa []),(.bool false)]⟩)h2)(Q(.tuple⟨[(.bool neg),(aa n),(aa d),(.bool true)]⟩)h2))(Q(.tuple⟨[(.bool neg),(aa n),(aa d),(.bool true)]⟩)h2)
theorem yg {n d:LB}{neg:Bool}{st:Int}{x0 x1 x2 x3 x4 x5 x10 x11 x12 x13 x14 x15 x16 x17 x18 x19 x20 x21 x22 x23 x24 x25 x26 x27 x28 x29 x30 x31 x32 x33 x34 x35 x36 x37 x38 x39 x40 x41 x42 x43 x44 x45 x46 x47 x48 x49 x50 x51 x52 x53 x54 x55 x56 x57 x58 x59 x60 x61 x62 x63 x64 x65 x66 x67 x68 x69 x70 x71 x72 x73 x74 x75 x76 x77 x78 x79 x80:Value}{h:Heap}{Q:VH}(hx:zw n d neg st x0 x1 x2 x3 x4 x5 x10 x11 x12 x13 x14 x15 x16 x17 x18 x19 x20 x21 x22 x23 x24 x25 x26 x27 x28 x29 x30 x31 x32 x33 x34 x35 x36 x37 x38 x39 x40 x41 x42 x43 x44 x45 x46 x47 x48 x49 x50 x51 x52 x53 x54 x55 x56 x57 x58 x59 x60 x61 x62 x63 x64 x65 x66 x67 x68 x69 x70 x71 x72 x73 x74 x75 x76 x77 x78 x79 x80 h Q):wpS SS Tryz.f104.ntmps a0(aQ [1,1,1,1,1,1,1] aP) [x0,x1,x2,x3,x4,x5,(aa n),(aa d),(.bool neg),(.int .i64 st),x10,x11,x12,x13,x14,x15,x16,x17,x18,x19,x20,x21,x22,x23,x24,x25,x26,x27,x28,x29,x30,x31,x32,x33,x34,x35,x36,x37,x38,x39,x40,x41,x42,x43,x44,x45,x46,x47,x48,x49,x50,x51,x52,x53,x54,x55,x56,x57,x58,x59,x60,x61,x62,x63,x64,x65,x66,x67,x68,x69,x70,x71,x72,x73,x74,x75,x76,x77,x78,x79,x80] h(be Q):=aj hx(by kernel_rfl)
noncomputable def pz:Code:=(Tryz.f76.body).getD .skip
def G0:List Nat:=[]
abbrev HV(l:LB)(h:Heap)(Q:VH):Prop:=FW SS 104 [(aa l)] h fun v1 h2=>∃ b3:Bool,∃ l4:LB,∃ l5:LB,∃ b6:Bool,v1=(.tuple⟨[(.bool b3),(aa l4),(aa l5),(.bool b6)]⟩)/\Q(.bool b6)h2
theorem Fj(l:LB)(h:Heap)(Q:VH)(hx:HV l h Q):FW SS 76 [(aa l)] h Q:=ay(M:=G0)(c:=pz)Tryz.func76(show Tryz.f76.body=some pz by kernel_rfl)(by kernel_rfl)(aj hx(by kernel_rfl))
noncomputable def pE:Code:=(Tryz.f106.body).getD .skip
def F9:List Nat:=[]
abbrev H7(l m:LB)(h:Heap)(Q:VH):Prop:=FW SS 132 [(aa l),(aa m)] h fun v1 h2=>∃ l3:LB,∃ n4:Int,v1=(.tuple⟨[(aa l3),(.int .i64 n4)]⟩)/\Q(aa l3)h2
theorem E4(l m:LB)(h:Heap)(Q:VH)(hx:H7 l m h Q):FW SS 106 [(aa l),(aa m)] h Q:=ay(M:=F9)(c:=pE)Tryz.func106(show Tryz.f106.body=some pE by kernel_rfl)(by kernel_rfl)(aj hx(by kernel_rfl))
noncomputable def uh:Code:=(Tryz.f105.body).getD .skip
def Mx:List Nat:=[]
abbrev Lz(p:Bool)(l:LB)(q:Bool)(m:LB)(h:Heap)(Q:VH):Prop:=ax(p == q)(FW SS 129 [(aa l),(aa m)] h fun v1 h2=>∃ l3:LB,∃ n4:Int,v1=(.tuple⟨[(aa l3),(.int .i64 n4)]⟩)/\Q(.tuple⟨[(.bool p),(aa l3)]⟩)h2)(FW SS 130 [(aa l),(aa m)] h fun v5 h6=>yI .i64 v5 fun n7=>ax(decide((n7:Int)>=0))(FW SS 131 [(aa l),(aa m)] h6 fun v8 h9=>∃ l10:LB,∃ n11:Int,v8=(.tuple⟨[(aa l10),(.int .i64 n11)]⟩)/\Q(.tuple⟨[(.bool p),(aa l10)]⟩)h9)(FW SS 131 [(aa m),(aa l)] h6 fun v12 h13=>∃ l14:LB,∃ n15:Int,v12=(.tuple⟨[(aa l14),(.int .i64 n15)]⟩)/\Q(.tuple⟨[(.bool q),(aa l14)]⟩)h13))
theorem Ka(p:Bool)(l:LB)(q:Bool)(m:LB)(h:Heap)(Q:VH)(hx:Lz p l q m h Q):FW SS 105 [(.bool p),(aa l),(.bool q),(aa m)] h Q:=ay(M:=Mx)(c:=uh)Tryz.func105(show Tryz.f105.body=some uh by kernel_rfl)(by kernel_rfl)(aj hx(by kernel_rfl))
noncomputable def uS:Code:=(Tryz.f77.body).getD .skip
def M5:List Nat:=[]
abbrev LM(l m:LB)(h:Heap)(Q:VH):Prop:=FW SS 104 [(aa l)] h fun v1 h2=>∃ b3:Bool,∃ l4:LB,∃ l5:LB,∃ b6:Bool,v1=(.tuple⟨[(.bool b3),(aa l4),(aa l5),(.bool b6)]⟩)/\FW SS 104 [(aa m)] h2 fun v7 h8=>∃ b9:Bool,∃ l10:LB,∃ l11:LB,∃ b12:Bool,v7=(.tuple⟨[(.bool b9),(aa l10),(aa l11),(.bool b12)]⟩)/\ax(!b6)(Q(.int .i64 0)h8)(ax(!b12)(Q(.int .i64 0)h8)(FW SS 106 [(aa l4),(aa l11)] h8 fun v13 h14=>yS v13 fun l15=>FW SS 106 [(aa l10),(aa l5)] h14 fun v16 h17=>yS v16 fun l18=>FW SS 105 [(.bool b3),(aa l15),(.bool(!b9)),(aa l18)] h17 fun v19 h20=>∃ b21:Bool,∃ l22:LB,v19=(.tuple⟨[(.bool b21),(aa l22)]⟩)/\ax((l22:LB) == [48])(Q(.int .i64 0)h20)(ax b21(Q(.int .i64(-1))h20)(Q(.int .i64 1)h20))))
theorem Ke(l m:LB)(h:Heap)(Q:VH)(hx:LM l m h Q):FW SS 77 [(aa l),(aa m)] h Q:=ay(M:=M5)(c:=uS)Tryz.func77(show Tryz.f77.body=some uS by kernel_rfl)(by kernel_rfl)(aj hx(by kernel_rfl))
noncomputable def nj:Code:=(Tryz.f118.body).getD .skip
def NM:List Nat:=[]
abbrev Ma(l:LB)(e:Int)(h:Heap)(Q:VH):Prop:=ax(((e:Int) != 0))(xA(bE SS.P 135 [])fun c1=>xG(aL SS.P dh(ev SS.gl [(aa l),(.int .i64 e),undef,undef,(aa []),(.int .i64 e),(.bool(((e:Int) != 0))),(.agg⟨c1⟩),(.iface 135(.agg⟨c1⟩)),undef])(HL(aQ [1,0,1,0] nj)2)h)h fun v2 u3 g4=>Q(aa l)g4)(Q(aa l)h)
theorem Jv(l:LB)(e:Int)(h:Heap)(Q:VH)(hx:Ma l e h Q):FW SS 118 [(aa l),(.int .i64 e)] h Q:=ay(M:=NM)(c:=nj)Tryz.func118(show Tryz.f118.body=some nj by kernel_rfl)(by kernel_rfl)(aj hx(by kernel_rfl))
noncomputable def av:Code:=(Tryz.f121.body).getD .skip
noncomputable def bh(Q:VH):ak:=cF SS Tryz.f121.results.toList Q
def ba:List Nat:=[]
abbrev Bb(l:LB)(cc:Code)(h:Heap)(Q:VH):Prop:=xN(bj SS.P 122)h fun B1 g2=>FW SS 145 [(aa l),(aa [45])] g2 fun v3 h4=>∃ l5:LB,∃ b6:Bool,v3=(.tuple⟨[(aa l5),(.bool b6)]⟩)/\FW SS 146 [(aa l5),(aa [47])] h4 fun v7 h8=>∃ l9:LB,∃ l10:LB,∃ b11:Bool,v7=(.tuple⟨[(aa l9),(aa l10),(.bool b11)]⟩)/\ax(!b11)(wpS SS Tryz.f121.ntmps ba cc [(aa l),undef,(pA(h.next)),(.bool false),(aa l5),(.bool b6),(aa l9),(aa [49]),(.bool b11),undef,undef,(.tuple⟨[(aa l5),(.bool b6)]⟩),(aa l),(.tuple⟨[(aa l5),(.bool b6)]⟩),(aa l5),(.bool b6),(.tuple⟨[(aa l9),(aa l10),(.bool b11)]⟩),(aa l5),(.tuple⟨[(aa l9),(aa l10),(.bool b11)]⟩),(aa l9),(aa l10),(.bool b11),(.bool b11),(.bool(!b11)),undef,undef,undef,undef,undef,undef,undef,undef,undef,undef,undef,undef,undef,undef,undef,undef,undef,undef,undef,undef,undef,undef,undef,undef,undef,undef,undef,undef,undef,undef,undef,undef,undef,undef,undef,undef,undef,undef,undef,undef,undef,undef,undef,undef,undef,undef,undef,undef,undef,undef,undef,undef,undef] h8(bh Q))(wpS SS Tryz.f121.ntmps ba cc [(aa l),undef,(pA(h.next)),(.bool false),(aa l5),(.bool b6),(aa l9),(aa l10),(.bool b11),undef,undef,(.tuple⟨[(aa l5),(.bool b6)]⟩),(aa l),(.tuple⟨[(aa l5),(.bool b6)]⟩),(aa l5),(.bool b6),(.tuple⟨[(aa l9),(aa l10),(.bool b11)]⟩),(aa l5),(.tuple⟨[(aa l9),(aa l10),(.bool b11)]⟩),(aa l9),(aa l10),(.bool b11),(.bool b11),(.bool(!b11)),undef,undef,undef,undef,undef,undef,undef,undef,undef,undef,undef,undef,undef,undef,undef,undef,undef,undef,undef,undef,undef,undef,undef,undef,undef,undef,undef,undef,undef,undef,undef,undef,undef,undef,undef,undef,undef,undef,undef,undef,undef,undef,undef,undef,undef,undef,undef,undef,undef,undef,undef,undef,undef] h8(bh Q))
theorem HP(l:LB)(h:Heap)(Q:VH)(hx:Bb l(aQ [1,1,1,1] av)h Q):FW SS 121 [(aa l)] h Q:=by
 have e:∀ cc,Bb l cc h Q=wpS SS Tryz.f121.ntmps ba(eo [1,1,1,1] cc av)([(aa l)] ++ List.replicate(Tryz.f121.ntmps - ([(aa l)] : LV).length)undef)h(bh Q):=fun cc=>by kernel_rfl
 have e:=e(aQ [1,1,1,1] av)
 rw [dy] at e
 exact ay(M:=ba)(c:=av)Tryz.func121(show Tryz.f121.body=some av by kernel_rfl)(by kernel_rfl)(aj hx e)
abbrev qV(n d:LB)(neg fnd:Bool)(p:Addr)(cc:Code)(x0 x1 x3 x4 x9 x10 x11 x12 x13 x14 x15 x16 x17 x18 x19 x20 x21 x22 x23 x24 x25 x26 x27 x28 x29 x30 x31 x32 x33 x34 x35 x36 x37 x38 x39 x40 x41 x42 x43 x44 x45 x46 x47 x48 x49 x50 x51 x52 x53 x54 x55 x56 x57 x58 x59 x60 x61 x62 x63 x64 x65 x66 x67 x68 x69 x70 x71 x72 x73 x74 x75 x76:Value)(h:Heap)(Q:VH):Prop:=FW SS 139 [(aa n)] h fun v1 h2=>yB v1 fun b3=>ax(!b3)(xA(bE SS.P 122 [])fun c4=>xU(am SS.P 122(.pointer(some p))(.agg⟨c4⟩)h2)h2 fun u5 g6=>jh SS [((.pointer(some p)),some 122),((.bool false),none)] g6 Q)(FW SS 139 [(aa d)] h2 fun v7 h8=>yB v7 fun b9=>ax(!b9)(xA(bE SS.P 122 [])fun c10=>xU(am SS.P 122(.pointer(some p))(.agg⟨c10⟩)h8)h8 fun u11 g12=>jh SS [((.pointer(some p)),some 122),((.bool false),none)] g12 Q)(ax(decide((((n:LB).length:Int):Int) > 400))(xA(bE SS.P 122 [])fun c13=>xU(am SS.P 122(.pointer(some p))(.agg⟨c13⟩)h8)h8 fun u14 g15=>jh SS [((.pointer(some p)),some 122),((.bool false),none)] g15 Q)(ax(decide((((d:LB).length:Int):Int) > 400))(xA(bE SS.P 122 [])fun c16=>xU(am SS.P 122(.pointer(some p))(.agg⟨c16⟩)h8)h8 fun u17 g18=>jh SS [((.pointer(some p)),some 122),((.bool false),none)] g18 Q)(wpS SS Tryz.f121.ntmps ba cc [x0,x1,(.pointer(some p)),x3,x4,(.bool neg),(aa n),(aa d),(.bool fnd),x9,x10,x11,x12,x13,x14,x15,x16,x17,x18,x19,x20,x21,x22,x23,(aa n),(.bool b3),(.bool(!b3)),(.bool false),(aa d),(.bool b9),(.bool(!b9)),(.bool(!b9)),(.bool false),(aa n),(.int .i64((n:LB).length:Int)),(.bool(decide((((n:LB).length:Int):Int) > 400))),(.bool(decide((((n:LB).length:Int):Int) > 400))),(.bool false),(aa d),(.int .i64((d:LB).length:Int)),(.bool(decide((((d:LB).length:Int):Int) > 400))),(.bool(decide((((d:LB).length:Int):Int) > 400))),x42,x43,x44,x45,x46,x47,x48,x49,x50,x51,x52,x53,x54,x55,x56,x57,x58,x59,x60,x61,x62,x63,x64,x65,x66,x67,x68,x69,x70,x71,x72,x73,x74,x75,x76] h8(bh Q)))))
theorem Ae {n d:LB}{neg fnd:Bool}{p:Addr}{x0 x1 x3 x4 x9 x10 x11 x12 x13 x14 x15 x16 x17 x18 x19 x20 x21 x22 x23 x24 x25 x26 x27 x28 x29 x30 x31 x32 x33 x34 x35 x36 x37 x38 x39 x40 x41 x42 x43 x44 x45 x46 x47 x48 x49 x50 x51 x52 x53 x54 x55 x56 x57 x58 x59 x60 x61 x62 x63 x64 x65 x66 x67 x68 x69 x70 x71 x72 x73 x74 x75 x76:Value}{h:Heap}{Q:VH}(hx:qV n d neg fnd p(aQ [1,1,1,1,1] av)x0 x1 x3 x4 x9 x10 x11 x12 x13 x14 x15 x16 x17 x18 x19 x20 x21 x22 x23 x24 x25 x26 x27 x28 x29 x30 x31 x32 x33 x34 x35 x36 x37 x38 x39 x40 x41 x42 x43 x44 x45 x46 x47 x48 x49 x50 x51 x52 x53 x54 x55 x56 x57 x58 x59 x60 x61 x62 x63 x64 x65 x66 x67 x68 x69 x70 x71 x72 x73 x74 x75 x76 h Q):wpS SS Tryz.f121.ntmps ba(aQ [1,1,1,1] av) [x0,x1,(.pointer(some p)),x3,x4,(.bool neg),(aa n),(aa d),(.bool fnd),x9,x10,x11,x12,x13,x14,x15,x16,x17,x18,x19,x20,x21,x22,x23,x24,x25,x26,x27,x28,x29,x30,x31,x32,x33,x34,x35,x36,x37,x38,x39,x40,x41,x42,x43,x44,x45,x46,x47,x48,x49,x50,x51,x52,x53,x54,x55,x56,x57,x58,x59,x60,x61,x62,x63,x64,x65,x66,x67,x68,x69,x70,x71,x72,x73,x74,x75,x76] h(bh Q):=by
 have e:∀ cc,qV n d neg fnd p cc x0 x1 x3 x4 x9 x10 x11 x12 x13 x14 x15 x16 x17 x18 x19 x20 x21 x22 x23 x24 x25 x26 x27 x28 x29 x30 x31 x32 x33 x34 x35 x36 x37 x38 x39 x40 x41 x42 x43 x44 x45 x46 x47 x48 x49 x50 x51 x52 x53 x54 x55 x56 x57 x58 x59 x60 x61 x62 x63 x64 x65 x66 x67 x68 x69 x70 x71 x72 x73 x74 x75 x76 h Q=wpS SS Tryz.f121.ntmps ba(eo [1] cc(aQ [1,1,1,1] av)) [x0,x1,(.pointer(some p)),x3,x4,(.bool neg),(aa n),(aa d),(.bool fnd),x9,x10,x11,x12,x13,x14,x15,x16,x17,x18,x19,x20,x21,x22,x23,x24,x25,x26,x27,x28,x29,x30,x31,x32,x33,x34,x35,x36,x37,x38,x39,x40,x41,x42,x43,x44,x45,x46,x47,x48,x49,x50,x51,x52,x53,x54,x55,x56,x57,x58,x59,x60,x61,x62,x63,x64,x65,x66,x67,x68,x69,x70,x71,x72,x73,x74,x75,x76] h(bh Q):=fun cc=>by kernel_rfl
 have e:=e(aQ [1,1,1,1,1] av)
 have ec:(aQ [1,1,1,1,1] av)=aQ [1] (aQ [1,1,1,1] av):=by kernel_rfl
 have es:eo [1] (aQ [1,1,1,1,1] av)(aQ [1,1,1,1] av)=aQ [1,1,1,1] av:=by rw [ec,dy]
 rw [es] at e
 exact aj hx e
abbrev qN(n d:LB)(neg fnd:Bool)(p:Addr)(cc:Code)(x0 x1 x3 x4 x9 x10 x11 x12 x13 x14 x15 x16 x17 x18 x19 x20 x21 x22 x23 x24 x25 x26 x27 x28 x29 x30 x31 x32 x33 x34 x35 x36 x37 x38 x39 x40 x41 x42 x43 x44 x45 x46 x47 x48 x49 x50 x51 x52 x53 x54 x55 x56 x57 x58 x59 x60 x61 x62 x63 x64 x65 x66 x67 x68 x69 x70 x71 x72 x73 x74 x75 x76:Value)(h:Heap)(Q:VH):Prop:=ax neg(ax((n:LB) == [48])(xA(bE SS.P 122 [])fun c1=>xU(am SS.P 122(.pointer(some p))(.agg⟨c1⟩)h)h fun u2 g3=>jh SS [((.pointer(some p)),some 122),((.bool false),none)] g3 Q)(ax fnd(ax((d:LB) == [48])(xA(bE SS.P 122 [])fun c4=>xU(am SS.P 122(.pointer(some p))(.agg⟨c4⟩)h)h fun u5 g6=>jh SS [((.pointer(some p)),some 122),((.bool false),none)] g6 Q)(ax((d:LB) == [49])(xA(bE SS.P 122 [])fun c7=>xU(am SS.P 122(.pointer(some p))(.agg⟨c7⟩)h)h fun u8 g9=>jh SS [((.pointer(some p)),some 122),((.bool false),none)] g9 Q)(wpS SS Tryz.f121.ntmps ba cc [x0,x1,(.pointer(some p)),x3,x4,(.bool neg),(aa n),(aa d),(.bool fnd),x9,x10,x11,x12,x13,x14,x15,x16,x17,x18,x19,x20,x21,x22,x23,x24,x25,x26,x27,x28,x29,x30,x31,x32,x33,x34,x35,x36,x37,x38,x39,x40,x41,x42,(.bool neg),(.bool true),(aa n),(.bool((n:LB) == [48])),(.bool((n:LB) == [48])),(.bool false),(.bool fnd),(.bool true),(aa d),(.bool((d:LB) == [48])),(.bool false),(aa d),(.bool((d:LB) == [49])),(.bool((d:LB) == [49])),(.bool((d:LB) == [49])),(.bool((d:LB) == [49])),x59,x60,x61,x62,x63,x64,x65,x66,x67,x68,x69,x70,x71,x72,x73,x74,x75,x76] h(bh Q))))(wpS SS Tryz.f121.ntmps ba cc [x0,x1,(.pointer(some p)),x3,x4,(.bool neg),(aa n),(aa d),(.bool fnd),x9,x10,x11,x12,x13,x14,x15,x16,x17,x18,x19,x20,x21,x22,x23,x24,x25,x26,x27,x28,x29,x30,x31,x32,x33,x34,x35,x36,x37,x38,x39,x40,x41,x42,(.bool neg),(.bool true),(aa n),(.bool((n:LB) == [48])),(.bool((n:LB) == [48])),(.bool false),(.bool fnd),(.bool false),undef,undef,undef,undef,undef,undef,(.bool false),(.bool false),x59,x60,x61,x62,x63,x64,x65,x66,x67,x68,x69,x70,x71,x72,x73,x74,x75,x76] h(bh Q))))(ax fnd(ax((d:LB) == [48])(xA(bE SS.P 122 [])fun c10=>xU(am SS.P 122(.pointer(some p))(.agg⟨c10⟩)h)h fun u11 g12=>jh SS [((.pointer(some p)),some 122),((.bool false),none)] g12 Q)(ax((d:LB) == [49])(xA(bE SS.P 122 [])fun c13=>xU(am SS.P 122(.pointer(some p))(.agg⟨c13⟩)h)h fun u14 g15=>jh SS [((.pointer(some p)),some 122),((.bool false),none)] g15 Q)(wpS SS Tryz.f121.ntmps ba cc [x0,x1,(.pointer(some p)),x3,x4,(.bool neg),(aa n),(aa d),(.bool fnd),x9,x10,x11,x12,x13,x14,x15,x16,x17,x18,x19,x20,x21,x22,x23,x24,x25,x26,x27,x28,x29,x30,x31,x32,x33,x34,x35,x36,x37,x38,x39,x40,x41,x42,(.bool neg),(.bool false),undef,undef,(.bool false),(.bool false),(.bool fnd),(.bool true),(aa d),(.bool((d:LB) == [48])),(.bool false),(aa d),(.bool((d:LB) == [49])),(.bool((d:LB) == [49])),(.bool((d:LB) == [49])),(.bool((d:LB) == [49])),x59,x60,x61,x62,x63,x64,x65,x66,x67,x68,x69,x70,x71,x72,x73,x74,x75,x76] h(bh Q))))(wpS SS Tryz.f121.ntmps ba cc [x0,x1,(.pointer(some p)),x3,x4,(.bool neg),(aa n),(aa d),(.bool fnd),x9,x10,x11,x12,x13,x14,x15,x16,x17,x18,x19,x20,x21,x22,x23,x24,x25,x26,x27,x28,x29,x30,x31,x32,x33,x34,x35,x36,x37,x38,x39,x40,x41,x42,(.bool neg),(.bool false),undef,undef,(.bool false),(.bool false),(.bool fnd),(.bool false),undef,undef,undef,undef,undef,undef,(.bool false),(.bool false),x59,x60,x61,x62,x63,x64,x65,x66,x67,x68,x69,x70,x71,x72,x73,x74,x75,x76] h(bh Q)))
theorem AO {n d:LB}{neg fnd:Bool}{p:Addr}{x0 x1 x3 x4 x9 x10 x11 x12 x13 x14 x15 x16 x17 x18 x19 x20 x21 x22 x23 x24 x25 x26 x27 x28 x29 x30 x31 x32 x33 x34 x35 x36 x37 x38 x39 x40 x41 x42 x43 x44 x45 x46 x47 x48 x49 x50 x51 x52 x53 x54 x55 x56 x57 x58 x59 x60 x61 x62 x63 x64 x65 x66 x67 x68 x69 x70 x71 x72 x73 x74 x75 x76:Value}{h:Heap}{Q:VH}(hx:qN n d neg fnd p(aQ [1,1,1,1,1,1] av)x0 x1 x3 x4 x9 x10 x11 x12 x13 x14 x15 x16 x17 x18 x19 x20 x21 x22 x23 x24 x25 x26 x27 x28 x29 x30 x31 x32 x33 x34 x35 x36 x37 x38 x39 x40 x41 x42 x43 x44 x45 x46 x47 x48 x49 x50 x51 x52 x53 x54 x55 x56 x57 x58 x59 x60 x61 x62 x63 x64 x65 x66 x67 x68 x69 x70 x71 x72 x73 x74 x75 x76 h Q):wpS SS Tryz.f121.ntmps ba(aQ [1,1,1,1,1] av) [x0,x1,(.pointer(some p)),x3,x4,(.bool neg),(aa n),(aa d),(.bool fnd),x9,x10,x11,x12,x13,x14,x15,x16,x17,x18,x19,x20,x21,x22,x23,x24,x25,x26,x27,x28,x29,x30,x31,x32,x33,x34,x35,x36,x37,x38,x39,x40,x41,x42,x43,x44,x45,x46,x47,x48,x49,x50,x51,x52,x53,x54,x55,x56,x57,x58,x59,x60,x61,x62,x63,x64,x65,x66,x67,x68,x69,x70,x71,x72,x73,x74,x75,x76] h(bh Q):=by
 have e:∀ cc,qN n d neg fnd p cc x0 x1 x3 x4 x9 x10 x11 x12 x13 x14 x15 x16 x17 x18 x19 x20 x21 x22 x23 x24 x25 x26 x27 x28 x29 x30 x31 x32 x33 x34 x35 x36 x37 x38 x39 x40 x41 x42 x43 x44 x45 x46 x47 x48 x49 x50 x51 x52 x53 x54 x55 x56 x57 x58 x59 x60 x61 x62 x63 x64 x65 x66 x67 x68 x69 x70 x71 x72 x73 x74 x75 x76 h Q=wpS SS Tryz.f121.ntmps ba(eo [1] cc(aQ [1,1,1,1,1] av)) [x0,x1,(.pointer(some p)),x3,x4,(.bool neg),(aa n),(aa d),(.bool fnd),x9,x10,x11,x12,x13,x14,x15,x16,x17,x18,x19,x20,x21,x22,x23,x24,x25,x26,x27,x28,x29,x30,x31,x32,x33,x34,x35,x36,x37,x38,x39,x40,x41,x42,x43,x44,x45,x46,x47,x48,x49,x50,x51,x52,x53,x54,x55,x56,x57,x58,x59,x60,x61,x62,x63,x64,x65,x66,x67,x68,x69,x70,x71,x72,x73,x74,x75,x76] h(bh Q):=fun cc=>by kernel_rfl
 have e:=e(aQ [1,1,1,1,1,1] av)
 have ec:(aQ [1,1,1,1,1,1] av)=aQ [1] (aQ [1,1,1,1,1] av):=by kernel_rfl
 have es:eo [1] (aQ [1,1,1,1,1,1] av)(aQ [1,1,1,1,1] av)=aQ [1,1,1,1,1] av:=by rw [ec,dy]
 rw [es] at e
 exact aj hx e
abbrev qU(n d:LB)(neg fnd:Bool)(p:Addr)(cc:Code)(x0 x1 x3 x4 x9 x10 x11 x12 x13 x14 x15 x16 x17 x18 x19 x20 x21 x22 x23 x24 x25 x26 x27 x28 x29 x30 x31 x32 x33 x34 x35 x36 x37 x38 x39 x40 x41 x42 x43 x44 x45 x46 x47 x48 x49 x50 x51 x52 x53 x54 x55 x56 x57 x58 x59 x60 x61 x62 x63 x64 x65 x66 x67 x68 x69 x70 x71 x72 x73 x74 x75 x76:Value)(h:Heap)(Q:VH):Prop:=FW SS 143 [(aa n),(aa d)] h fun v1 h2=>∃ l3:LB,∃ n4:Int,v1=(.tuple⟨[(aa l3),(.int .i64 n4)]⟩)/\ax(((n4:Int) != 0))(xA(bE SS.P 122 [])fun c5=>xU(am SS.P 122(.pointer(some p))(.agg⟨c5⟩)h2)h2 fun u6 g7=>jh SS [((.pointer(some p)),some 122),((.bool false),none)] g7 Q)(ax(!((l3:LB) == [49]))(xA(bE SS.P 122 [])fun c8=>xU(am SS.P 122(.pointer(some p))(.agg⟨c8⟩)h2)h2 fun u9 g10=>jh SS [((.pointer(some p)),some 122),((.bool false),none)] g10 Q)(wpS SS Tryz.f121.ntmps ba cc [x0,x1,(.pointer(some p)),x3,x4,(.bool neg),(aa n),(aa d),(.bool fnd),(aa l3),(.int .i64 n4),x11,x12,x13,x14,x15,x16,x17,x18,x19,x20,x21,x22,x23,x24,x25,x26,x27,x28,x29,x30,x31,x32,x33,x34,x35,x36,x37,x38,x39,x40,x41,x42,x43,x44,x45,x46,x47,x48,x49,x50,x51,x52,x53,x54,x55,x56,x57,x58,x59,(.tuple⟨[(aa l3),(.int .i64 n4)]⟩),(aa n),(aa d),(.tuple⟨[(aa l3),(.int .i64 n4)]⟩),(aa l3),(.int .i64 n4),(.int .i64 n4),(.bool(((n4:Int) != 0))),(.bool false),(aa l3),(.bool(!((l3:LB) == [49]))),(.bool(!((l3:LB) == [49]))),x72,x73,x74,x75,x76] h2(bh Q)))
theorem BE {n d:LB}{neg fnd:Bool}{p:Addr}{x0 x1 x3 x4 x9 x10 x11 x12 x13 x14 x15 x16 x17 x18 x19 x20 x21 x22 x23 x24 x25 x26 x27 x28 x29 x30 x31 x32 x33 x34 x35 x36 x37 x38 x39 x40 x41 x42 x43 x44 x45 x46 x47 x48 x49 x50 x51 x52 x53 x54 x55 x56 x57 x58 x59 x60 x61 x62 x63 x64 x65 x66 x67 x68 x69 x70 x71 x72 x73 x74 x75 x76:Value}{h:Heap}{Q:VH}(hx:qU n d neg fnd p(aQ [1,1,1,1,1,1,1] av)x0 x1 x3 x4 x9 x10 x11 x12 x13 x14 x15 x16 x17 x18 x19 x20 x21 x22 x23 x24 x25 x26 x27 x28 x29 x30 x31 x32 x33 x34 x35 x36 x37 x38 x39 x40 x41 x42 x43 x44 x45 x46 x47 x48 x49 x50 x51 x52 x53 x54 x55 x56 x57 x58 x59 x60 x61 x62 x63 x64 x65 x66 x67 x68 x69 x70 x71 x72 x73 x74 x75 x76 h Q):wpS SS Tryz.f121.ntmps ba(aQ [1,1,1,1,1,1] av) [x0,x1,(.pointer(some p)),x3,x4,(.bool neg),(aa n),(aa d),(.bool fnd),x9,x10,x11,x12,x13,x14,x15,x16,x17,x18,x19,x20,x21,x22,x23,x24,x25,x26,x27,x28,x29,x30,x31,x32,x33,x34,x35,x36,x37,x38,x39,x40,x41,x42,x43,x44,x45,x46,x47,x48,x49,x50,x51,x52,x53,x54,x55,x56,x57,x58,x59,x60,x61,x62,x63,x64,x65,x66,x67,x68,x69,x70,x71,x72,x73,x74,x75,x76] h(bh Q):=by
 have e:∀ cc,qU n d neg fnd p cc x0 x1 x3 x4 x9 x10 x11 x12 x13 x14 x15 x16 x17 x18 x19 x20 x21 x22 x23 x24 x25 x26 x27 x28 x29 x30 x31 x32 x33 x34 x35 x36 x37 x38 x39 x40 x41 x42 x43 x44 x45 x46 x47 x48 x49 x50 x51 x52 x53 x54 x55 x56 x57 x58 x59 x60 x61 x62 x63 x64 x65 x66 x67 x68 x69 x70 x71 x72 x73 x74 x75 x76 h Q=wpS SS Tryz.f121.ntmps ba(eo [1] cc(aQ [1,1,1,1,1,1] av)) [x0,x1,(.pointer(some p)),x3,x4,(.bool neg),(aa n),(aa d),(.bool fnd),x9,x10,x11,x12,x13,x14,x15,x16,x17,x18,x19,x20,x21,x22,x23,x24,x25,x26,x27,x28,x29,x30,x31,x32,x33,x34,x35,x36,x37,x38,x39,x40,x41,x42,x43,x44,x45,x46,x47,x48,x49,x50,x51,x52,x53,x54,x55,x56,x57,x58,x59,x60,x61,x62,x63,x64,x65,x66,x67,x68,x69,x70,x71,x72,x73,x74,x75,x76] h(bh Q):=fun cc=>by kernel_rfl
 have e:=e(aQ [1,1,1,1,1,1,1] av)
 have ec:(aQ [1,1,1,1,1,1,1] av)=aQ [1] (aQ [1,1,1,1,1,1] av):=by kernel_rfl
 have es:eo [1] (aQ [1,1,1,1,1,1,1] av)(aQ [1,1,1,1,1,1] av)=aQ [1,1,1,1,1,1] av:=by rw [ec,dy]
 rw [es] at e
 exact aj hx e
abbrev Cb(n d:LB)(neg fnd:Bool)(p:Addr)(x0 x1 x3 x4 x9 x10 x11 x12 x13 x14 x15 x16 x17 x18 x19 x20 x21 x22 x23 x24 x25 x26 x27 x28 x29 x30 x31 x32 x33 x34 x35 x36 x37 x38 x39 x40 x41 x42 x43 x44 x45 x46 x47 x48 x49 x50 x51 x52 x53 x54 x55 x56 x57 x58 x59 x60 x61 x62 x63 x64 x65 x66 x67 x68 x69 x70 x71 x72 x73 x74 x75 x76:Value)(h:Heap)(Q:VH):Prop:=xA(bE SS.P 122 [(0,(.bool neg)),(1,(aa n)),(2,(aa d))])fun c1=>xU(am SS.P 122(.pointer(some p))(.agg⟨c1⟩)h)h fun u2 g3=>jh SS [((.pointer(some p)),some 122),((.bool true),none)] g3 Q
theorem An {n d:LB}{neg fnd:Bool}{p:Addr}{x0 x1 x3 x4 x9 x10 x11 x12 x13 x14 x15 x16 x17 x18 x19 x20 x21 x22 x23 x24 x25 x26 x27 x28 x29 x30 x31 x32 x33 x34 x35 x36 x37 x38 x39 x40 x41 x42 x43 x44 x45 x46 x47 x48 x49 x50 x51 x52 x53 x54 x55 x56 x57 x58 x59 x60 x61 x62 x63 x64 x65 x66 x67 x68 x69 x70 x71 x72 x73 x74 x75 x76:Value}{h:Heap}{Q:VH}(hx:Cb n d neg fnd p x0 x1 x3 x4 x9 x10 x11 x12 x13 x14 x15 x16 x17 x18 x19 x20 x21 x22 x23 x24 x25 x26 x27 x28 x29 x30 x31 x32 x33 x34 x35 x36 x37 x38 x39 x40 x41 x42 x43 x44 x45 x46 x47 x48 x49 x50 x51 x52 x53 x54 x55 x56 x57 x58 x59 x60 x61 x62 x63 x64 x65 x66 x67 x68 x69 x70 x71 x72 x73 x74 x75 x76 h Q):wpS SS Tryz.f121.ntmps ba(aQ [1,1,1,1,1,1,1] av) [x0,x1,(.pointer(some p)),x3,x4,(.bool neg),(aa n),(aa d),(.bool fnd),x9,x10,x11,x12,x13,x14,x15,x16,x17,x18,x19,x20,x21,x22,x23,x24,x25,x26,x27,x28,x29,x30,x31,x32,x33,x34,x35,x36,x37,x38,x39,x40,x41,x42,x43,x44,x45,x46,x47,x48,x49,x50,x51,x52,x53,x54,x55,x56,x57,x58,x59,x60,x61,x62,x63,x64,x65,x66,x67,x68,x69,x70,x71,x72,x73,x74,x75,x76] h(bh Q):=aj hx(by kernel_rfl)
noncomputable def qQ:Code:=(Tryz.f97.body).getD .skip
def J9:List Nat:=[]
abbrev IT(l:LB)(h:Heap)(Q:VH):Prop:=FW SS 121 [(aa l)] h fun v1 h2=>∃ cs3:LV,∃ b4:Bool,v1=(.tuple⟨[(.agg⟨cs3⟩),(.bool b4)]⟩)/\Q(.bool b4)h2
theorem GH(l:LB)(h:Heap)(Q:VH)(hx:IT l h Q):FW SS 97 [(aa l)] h Q:=ay(M:=J9)(c:=qQ)Tryz.func97(show Tryz.f97.body=some qQ by kernel_rfl)(by kernel_rfl)(aj hx(by kernel_rfl))
noncomputable def tj:Code:=(Tryz.f117.body).getD .skip
def LL:List Nat:=[]
abbrev Nk(p:Bool)(l:LB)(q:Bool)(m:LB)(h:Heap)(Q:VH):Prop:=ax(p == q)(FW SS 136 [(aa l),(aa m)] h fun v1 h2=>∃ l3:LB,∃ n4:Int,v1=(.tuple⟨[(aa l3),(.int .i64 n4)]⟩)/\FW SS 118 [(aa l3),(.int .i64 n4)] h2 fun v5 h6=>yS v5 fun l7=>Q(.tuple⟨[(.bool p),(aa l7)]⟩)h6)(FW SS 137 [(aa l),(aa m)] h fun v8 h9=>yI .i64 v8 fun n10=>ax(decide((n10:Int) < 0))(FW SS 138 [(aa m),(aa l)] h9 fun v11 h12=>∃ l13:LB,∃ n14:Int,v11=(.tuple⟨[(aa l13),(.int .i64 n14)]⟩)/\FW SS 118 [(aa l13),(.int .i64 n14)] h12 fun v15 h16=>yS v15 fun l17=>Q(.tuple⟨[(.bool q),(aa l17)]⟩)h16)(FW SS 138 [(aa l),(aa m)] h9 fun v18 h19=>∃ l20:LB,∃ n21:Int,v18=(.tuple⟨[(aa l20),(.int .i64 n21)]⟩)/\FW SS 118 [(aa l20),(.int .i64 n21)] h19 fun v22 h23=>yS v22 fun l24=>Q(.tuple⟨[(.bool p),(aa l24)]⟩)h23))
theorem Jo(p:Bool)(l:LB)(q:Bool)(m:LB)(h:Heap)(Q:VH)(hx:Nk p l q m h Q):FW SS 117 [(.bool p),(aa l),(.bool q),(aa m)] h Q:=ay(M:=LL)(c:=tj)Tryz.func117(show Tryz.f117.body=some tj by kernel_rfl)(by kernel_rfl)(aj hx(by kernel_rfl))
noncomputable def xm:Code:=(Tryz.f125.body).getD .skip
def QS:List Nat:=[]
abbrev QO(l m:LB)(h:Heap)(Q:VH):Prop:=FW SS 121 [(aa l)] h fun v1 h2=>∃ cs3:LV,∃ b4:Bool,v1=(.tuple⟨[(.agg⟨cs3⟩),(.bool b4)]⟩)/\xN(bj SS.P 122)h2 fun B5 g6=>xU(am SS.P 122(pA(h2.next))(.agg⟨cs3⟩)g6)g6 fun u7 g8=>FW SS 121 [(aa m)] g8 fun v9 h10=>∃ cs11:LV,∃ b12:Bool,v9=(.tuple⟨[(.agg⟨cs11⟩),(.bool b12)]⟩)/\xN(bj SS.P 122)h10 fun B13 g14=>xU(am SS.P 122(pA(h10.next))(.agg⟨cs11⟩)g14)g14 fun u15 g16=>ax(!b4)(Q(.int .i64 0)g16)(ax(!b12)(Q(.int .i64 0)g16)(xP(ah SS.P 122(pA(h2.next))0)fun p17=>xB(ai SS.P 4(room g16 27)(.pointer(some p17)))fun b18=>xP(ah SS.P 122(pA(h2.next))1)fun p19=>xS(ai SS.P 9(room g16 27)(.pointer(some p19)))fun l20=>xP(ah SS.P 122(pA(h10.next))2)fun p21=>xS(ai SS.P 9(room g16 27)(.pointer(some p21)))fun l22=>FW SS 119 [(aa l20),(aa l22)] (room g16 27)fun v23 h24=>∃ l25:LB,∃ n26:Int,v23=(.tuple⟨[(aa l25),(.int .i64 n26)]⟩)/\FW SS 118 [(aa l25),(.int .i64 n26)] h24 fun v27 h28=>yS v27 fun l29=>xP(ah SS.P 122(pA(h10.next))0)fun p30=>xB(ai SS.P 4 h28(.pointer(some p30)))fun b31=>xP(ah SS.P 122(pA(h10.next))1)fun p32=>xS(ai SS.P 9 h28(.pointer(some p32)))fun l33=>xP(ah SS.P 122(pA(h2.next))2)fun p34=>xS(ai SS.P 9 h28(.pointer(some p34)))fun l35=>FW SS 119 [(aa l33),(aa l35)] h28 fun v36 h37=>∃ l38:LB,∃ n39:Int,v36=(.tuple⟨[(aa l38),(.int .i64 n39)]⟩)/\FW SS 118 [(aa l38),(.int .i64 n39)] h37 fun v40 h41=>yS v40 fun l42=>FW SS 117 [(.bool b18),(aa l29),(.bool(!b31)),(aa l42)] h41 fun v43 h44=>∃ b45:Bool,∃ l46:LB,v43=(.tuple⟨[(.bool b45),(aa l46)]⟩)/\(ai SS.P 4 h24(.pointer(some p17))=some(.bool b18)/\cP 4(.bool b18)(.bool b18)=true)/\(ai SS.P 4 h28(.pointer(some p17))=some(.bool b18)/\cP 4(.bool b18)(.bool b18)=true)/\(ai SS.P 4 h37(.pointer(some p17))=some(.bool b18)/\cP 4(.bool b18)(.bool b18)=true)/\(ai SS.P 4 h41(.pointer(some p17))=some(.bool b18)/\cP 4(.bool b18)(.bool b18)=true)/\(ai SS.P 4(room g16 27)(.pointer(some p30))=some(.bool b31)/\cP 4(.bool b31)(.bool b31)=true)/\(ai SS.P 4 h24(.pointer(some p30))=some(.bool b31)/\cP 4(.bool b31)(.bool b31)=true)/\(ai SS.P 4 h37(.pointer(some p30))=some(.bool b31)/\cP 4(.bool b31)(.bool b31)=true)/\(ai SS.P 4 h41(.pointer(some p30))=some(.bool b31)/\cP 4(.bool b31)(.bool b31)=true)/\(ai SS.P 9(room g16 27)(.pointer(some p32))=some(aa l33)/\cP 4(aa l33)(aa l33)=true)/\(ai SS.P 9 h24(.pointer(some p32))=some(aa l33)/\cP 4(aa l33)(aa l33)=true)/\(ai SS.P 9(room g16 27)(.pointer(some p34))=some(aa l35)/\cP 4(aa l35)(aa l35)=true)/\(ai SS.P 9 h24(.pointer(some p34))=some(aa l35)/\cP 4(aa l35)(aa l35)=true)/\ax((l46:LB) == [48])(Q(.int .i64 0)h44)(ax b45(Q(.int .i64(-1))h44)(Q(.int .i64 1)h44))))
theorem Mj(l m:LB)(h:Heap)(Q:VH)(hx:QO l m h Q):FW SS 125 [(aa l),(aa m)] h Q:=ay(M:=QS)(c:=xm)Tryz.func125(show Tryz.f125.body=some xm by kernel_rfl)(by kernel_rfl)(aj hx(by kernel_rfl))
end Go.Proofs.YtoabjjimjldcfaaGreatDoor
end
section
set_option linter.unusedVariables false
set_option maxRecDepth 100000
namespace Go.Proofs.YtoabjjimjldcfaaGreatDoor
open Go Go.Ab
noncomputable def xq:Code:=(Tryz.f177.body).getD .skip
def Pk:List Nat:=[]
abbrev Rg(l m:LB)(h:Heap)(Q:VH):Prop:=ax(decide((((l:LB).length:Int):Int)>=((m:LB).length:Int)))(xS(aM SS.P 9(aa l)none(some(.int .i64((m:LB).length:Int)))none h)fun l1=>Q(.bool((l1:LB) == m))h)(Q(.bool false)h)
theorem Nw(l m:LB)(h:Heap)(Q:VH)(hx:Rg l m h Q):FW SS 177 [(aa l),(aa m)] h Q:=ay(M:=Pk)(c:=xq)Tryz.func177(show Tryz.f177.body=some xq by kernel_rfl)(by kernel_rfl)(aj hx(by kernel_rfl))
end Go.Proofs.YtoabjjimjldcfaaGreatDoor
end
section
set_option linter.unusedVariables false
set_option maxRecDepth 100000
namespace Go.Proofs.YtoabjjimjldcfaaGreatDoor
open Go Go.Ab
noncomputable def ew:Code:=(Tryz.f139.body).getD .skip
noncomputable def rk(Q:VH):ak:=cF SS Tryz.f139.results.toList Q
def r7:List Nat:=[0,22,23]
noncomputable def rH(p:List Nat)(w:LV)(h:Heap)(Q:ak):Prop:=bq SS Tryz.f139.ntmps r7(aQ p ew)w h Q
noncomputable def rD(p b:List Nat)(K:ak):ak:=ko SS Tryz.f139.ntmps r7 p(aQ b ew)K
abbrev J3(l:LB)(h:Heap)(Q:VH):Prop:=ax((l:LB) == [])(Q(.bool false)h)(ax(decide((((l:LB).length:Int):Int) > 1000))(Q(.bool false)h)(ax(decide((((l:LB).length:Int):Int) > 1))(xI .u8(aR SS.P 9(aa l)(.int .i64 0))fun n1=>ax(((n1:Int) == 48))(Q(.bool false)h)(rH [1,1,0,1,0,0] [(aa l),(.int .i64((l:LB).length:Int)),(.int .i64 0)] h(rD [1,1,0,1,0] [] (rk Q))))(rH [1,1,0,1,0,0] [(aa l),(.int .i64((l:LB).length:Int)),(.int .i64 0)] h(rD [1,1,0,1,0] [] (rk Q)))))
theorem wM(l:LB)(h:Heap)(Q:VH)(hx:J3 l h Q):FW SS 139 [(aa l)] h Q:=ay(M:=r7)(c:=ew)Tryz.func139(show Tryz.f139.body=some ew by kernel_rfl)(by kernel_rfl)(aj hx(by kernel_rfl))
abbrev gD(l:LB)  (i:Int)  : LV:=[(aa l),(.int .i64(l.length:Int)),(.int .i64 i)]
def gP(l:LB)  (Inv:Nat->Int->Heap->Prop)(mz:Nat)(w:LV)(h:Heap):Prop:= ∃ (i:Int) ,w=(gD l i )/\Inv mz i h
abbrev vD(l:LB)  (Inv:Nat->Int->Heap->Prop)(Q:VH)(mz:Nat)(i:Int)  (zz:Nat->Value)(h:Heap):Prop:=ax(decide((i:Int) < (l.length:Int)))(xI .u8(aR SS.P 9(aa l)(.int .i64 i))fun n2=>ax(decide((n2:Int) < 48))(Q(.bool false)h)(xI .u8(aR SS.P 9(aa l)(.int .i64 i))fun n3=>ax(decide((n3:Int) > 57))(Q(.bool false)h)(al(gP l Inv)mz [(aa l),(.int .i64(l.length:Int)),(.int .i64(IntKind.wrap .i64(i + 1)))] h)))(Q(.bool true)h)
theorem qA {l:LB}  {Inv:Nat->Int->Heap->Prop}{mz:Nat}(mq:Nat){i:Int}  {h:Heap}(hm:mq < mz)(hi:Inv mq i h):al(gP l Inv)mz(gD l i )h :=⟨mq,hm,i,rfl,hi⟩
theorem qu(l:LB)  (Inv:Nat->Int->Heap->Prop)(Q:VH)(step:∀ (mz:Nat)(i:Int)  (zz:Nat->Value)(h:Heap),Inv mz i h->vD l Inv Q mz i  zz h)(mz:Nat){i:Int}  {h:Heap}(hi:Inv mz i h):rH [1,1,0,1,0,0] (gD l i )h(rD [1,1,0,1,0] [] (rk Q)):=
 aq(A:=(gP l Inv))(show aG Tryz.f139.ntmps(aQ [1,1,0,1,0,0] ew)=true by kernel_rfl)(fun mz w zz h⟨i,hw,hi⟩=> by subst hw; exact aj(step mz i  zz h hi)(by kernel_rfl))mz _ h⟨i,rfl,hi⟩(fun zz=>by kernel_rfl)(by kernel_rfl)
noncomputable def ez:Code:=(Tryz.f149.body).getD .skip
noncomputable def sg(Q:VH):ak:=cF SS Tryz.f149.results.toList Q
def sd:List Nat:=[0,3]
noncomputable def rA(p:List Nat)(w:LV)(h:Heap)(Q:ak):Prop:=bq SS Tryz.f149.ntmps sd(aQ p ez)w h Q
noncomputable def rE(p b:List Nat)(K:ak):ak:=ko SS Tryz.f149.ntmps sd p(aQ b ez)K
abbrev I0(l:LB)(h:Heap)(Q:VH):Prop:=ax(decide((((l:LB).length:Int):Int) < 1))(Q(.bool false)h)(ax(decide((((l:LB).length:Int):Int) > 1000))(Q(.bool false)h)(xI .u8(aR SS.P 9(aa l)(.int .i64 0))fun n1=>ax(((n1:Int) == 48))(ax(decide((((l:LB).length:Int):Int) > 1))(Q(.bool false)h)(rA [1,1,0,1,0,0] [(aa l),(.int .i64 0)] h(rE [1,1,0,1,0] [] (sg Q))))(rA [1,1,0,1,0,0] [(aa l),(.int .i64 0)] h(rE [1,1,0,1,0] [] (sg Q)))))
theorem wP(l:LB)(h:Heap)(Q:VH)(hx:I0 l h Q):FW SS 149 [(aa l)] h Q:=ay(M:=sd)(c:=ez)Tryz.func149(show Tryz.f149.body=some ez by kernel_rfl)(by kernel_rfl)(aj hx(by kernel_rfl))
abbrev gC(l:LB)  (i:Int)  : LV:=[(aa l),(.int .i64 i)]
def gM(l:LB)  (Inv:Nat->Int->Heap->Prop)(mz:Nat)(w:LV)(h:Heap):Prop:= ∃ (i:Int) ,w=(gC l i )/\Inv mz i h
abbrev vW(l:LB)  (Inv:Nat->Int->Heap->Prop)(Q:VH)(mz:Nat)(i:Int)  (zz:Nat->Value)(h:Heap):Prop:=ax(decide((i:Int) < ((l:LB).length:Int)))(xI .u8(aR SS.P 9(aa l)(.int .i64 i))fun n2=>ax(decide((n2:Int) < 48))(Q(.bool false)h)(xI .u8(aR SS.P 9(aa l)(.int .i64 i))fun n3=>ax(decide((n3:Int) > 57))(Q(.bool false)h)(al(gM l Inv)mz [(aa l),(.int .i64(IntKind.wrap .i64(i + 1)))] h)))(Q(.bool true)h)
theorem qB {l:LB}  {Inv:Nat->Int->Heap->Prop}{mz:Nat}(mq:Nat){i:Int}  {h:Heap}(hm:mq < mz)(hi:Inv mq i h):al(gM l Inv)mz(gC l i )h :=⟨mq,hm,i,rfl,hi⟩
theorem qx(l:LB)  (Inv:Nat->Int->Heap->Prop)(Q:VH)(step:∀ (mz:Nat)(i:Int)  (zz:Nat->Value)(h:Heap),Inv mz i h->vW l Inv Q mz i  zz h)(mz:Nat){i:Int}  {h:Heap}(hi:Inv mz i h):rA [1,1,0,1,0,0] (gC l i )h(rE [1,1,0,1,0] [] (sg Q)):=
 aq(A:=(gM l Inv))(show aG Tryz.f149.ntmps(aQ [1,1,0,1,0,0] ez)=true by kernel_rfl)(fun mz w zz h⟨i,hw,hi⟩=> by subst hw; exact aj(step mz i  zz h hi)(by kernel_rfl))mz _ h⟨i,rfl,hi⟩(fun zz=>by kernel_rfl)(by kernel_rfl)
noncomputable def dp:Code:=(Tryz.f155.body).getD .skip
noncomputable def tP(Q:VH):ak:=cF SS Tryz.f155.results.toList Q
def nl:List Nat:=[0,1,5]
noncomputable def ud(p:List Nat)(w:LV)(h:Heap)(Q:ak):Prop:=bq SS Tryz.f155.ntmps nl(aQ p dp)w h Q
noncomputable def ua(p b:List Nat)(K:ak):ak:=ko SS Tryz.f155.ntmps nl p(aQ b dp)K
abbrev FX(a b:LB)(h:Heap)(Q:VH):Prop:=ax(((((a:LB).length:Int):Int) != ((b:LB).length:Int)))(ax(decide((((a:LB).length:Int):Int) < ((b:LB).length:Int)))(Q(.int .i64(-1))h)(Q(.int .i64 1)h))(ud [1,1,0,1,0,0] [(aa a),(aa b),(.int .i64 0)] h(ua [1,1,0,1,0] [] (tP Q)))
theorem BU(a b:LB)(h:Heap)(Q:VH)(hx:FX a b h Q):FW SS 155 [(aa a),(aa b)] h Q:=ay(M:=nl)(c:=dp)Tryz.func155(show Tryz.f155.body=some dp by kernel_rfl)(by kernel_rfl)(aj hx(by kernel_rfl))
abbrev eP(a b:LB)  (i:Int)  : LV:=[(aa a),(aa b),(.int .i64 i)]
def eT(a b:LB)  (Inv:Nat->Int->Heap->Prop)(mz:Nat)(w:LV)(h:Heap):Prop:= ∃ (i:Int) ,w=(eP a b i )/\Inv mz i h
abbrev rV(a b:LB)  (Inv:Nat->Int->Heap->Prop)(Q:VH)(mz:Nat)(i:Int)  (zz:Nat->Value)(h:Heap):Prop:=ax(decide((i:Int) < ((a:LB).length:Int)))(xI .u8(aR SS.P 9(aa a)(.int .i64 i))fun n1=>xI .u8(aR SS.P 9(aa b)(.int .i64 i))fun n2=>ax(((n1:Int) != n2))(xI .u8(aR SS.P 9(aa a)(.int .i64 i))fun n3=>xI .u8(aR SS.P 9(aa b)(.int .i64 i))fun n4=>ax(decide((n3:Int) < n4))(Q(.int .i64(-1))(room(room h 7)7))(Q(.int .i64 1)(room(room h 7)7)))(al(eT a b Inv)mz [(aa a),(aa b),(.int .i64(IntKind.wrap .i64(i + 1)))] (room h 7)))(Q(.int .i64 0)h)
theorem nS {a b:LB}  {Inv:Nat->Int->Heap->Prop}{mz:Nat}(mq:Nat){i:Int}  {h:Heap}(hm:mq < mz)(hi:Inv mq i h):al(eT a b Inv)mz(eP a b i )h :=⟨mq,hm,i,rfl,hi⟩
theorem nM(a b:LB)  (Inv:Nat->Int->Heap->Prop)(Q:VH)(step:∀ (mz:Nat)(i:Int)  (zz:Nat->Value)(h:Heap),Inv mz i h->rV a b Inv Q mz i  zz h)(mz:Nat){i:Int}  {h:Heap}(hi:Inv mz i h):ud [1,1,0,1,0,0] (eP a b i )h(ua [1,1,0,1,0] [] (tP Q)):=
 aq(A:=(eT a b Inv))(show aG Tryz.f155.ntmps(aQ [1,1,0,1,0,0] dp)=true by kernel_rfl)(fun mz w zz h⟨i,hw,hi⟩=> by subst hw; exact aj(step mz i  zz h hi)(by kernel_rfl))mz _ h⟨i,rfl,hi⟩(fun zz=>by kernel_rfl)(by kernel_rfl)
noncomputable def Ai:Code:=(Tryz.f152.body).getD .skip
def RL:List Nat:=[]
abbrev Te(a:OA)(n c:Nat)(i:Int)(h:Heap)(Q:VH):Prop:=ax(decide((i:Int) < (n:Int)))(xP(ag SS.P 48(.slice a n c)(.int .i64 i))fun p1=>xI .i64(ai SS.P 3 h(.pointer(some p1)))fun n2=>Q(.int .i64 n2)h)(Q(.int .i64 0)h)
theorem PI(a:OA)(n c:Nat)(i:Int)(h:Heap)(Q:VH)(hx:Te a n c i h Q):FW SS 152 [(.slice a n c),(.int .i64 i)] h Q:=ay(M:=RL)(c:=Ai)Tryz.func152(show Tryz.f152.body=some Ai by kernel_rfl)(by kernel_rfl)(aj hx(by kernel_rfl))
noncomputable def dO:Code:=(Tryz.f151.body).getD .skip
noncomputable def wX(Q:VH):ak:=cF SS Tryz.f151.results.toList Q
def oF:List Nat:=[0,3,4]
noncomputable def wN(p:List Nat)(w:LV)(h:Heap)(Q:ak):Prop:=bq SS Tryz.f151.ntmps oF(aQ p dO)w h Q
noncomputable def wY(p b:List Nat)(K:ak):ak:=ko SS Tryz.f151.ntmps oF p(aQ b dO)K
abbrev HJ(l:LB)(h:Heap)(Q:VH):Prop:=wN [1,1,0,1,0,0] [(aa l),nA,(.int .i64(IntKind.wrap .i64(((l:LB).length:Int) - 1)))] h(wY [1,1,0,1,0] [] (wX Q))
theorem Eu(l:LB)(h:Heap)(Q:VH)(hx:HJ l h Q):FW SS 151 [(aa l)] h Q:=ay(M:=oF)(c:=dO)Tryz.func151(show Tryz.f151.body=some dO by kernel_rfl)(by kernel_rfl)(aj hx(by kernel_rfl))
abbrev fA(l:LB)  (i:Int)(a:OA)(n:Nat)(c:Nat)  : LV:=[(aa l),(.slice a n c),(.int .i64 i)]
def fQ(l:LB)  (Inv:Nat->Int->OA->Nat->Nat->Heap->Prop)(mz:Nat)(w:LV)(h:Heap):Prop:= ∃ (i:Int)(a:OA)(n:Nat)(c:Nat) ,w=(fA l i a n c )/\Inv mz i a n c h
abbrev sG(l:LB)  (Inv:Nat->Int->OA->Nat->Nat->Heap->Prop)(Q:VH)(mz:Nat)(i:Int)(a:OA)(n:Nat)(c:Nat)  (zz:Nat->Value)(h:Heap):Prop:=ax(decide((i:Int)>=0))(xI .u8(aR SS.P 9(aa l)(.int .i64 i))fun n1=>xR(az SS.P 48 1 [(0,(.int .i64(IntKind.wrap .i64(IntKind.wrap .u8(n1 - 48)))))])h fun B2 n3 c4 g5=>xE(aC SS.P 48 48(.slice a n c)(sA(h.next)n3 c4)g5)g5 fun a6 n7 c8 u9 g10=>al(fQ l Inv)mz [(aa l),(.slice a6 n7 c8),(.int .i64(IntKind.wrap .i64(i - 1)))] g10)(Q(.slice a n c)h)
theorem oC {l:LB}  {Inv:Nat->Int->OA->Nat->Nat->Heap->Prop}{mz:Nat}(mq:Nat){i:Int}{a:OA}{n:Nat}{c:Nat}  {h:Heap}(hm:mq < mz)(hi:Inv mq i a n c h):al(fQ l Inv)mz(fA l i a n c )h :=⟨mq,hm,i,a,n,c,rfl,hi⟩
theorem po(l:LB)  (Inv:Nat->Int->OA->Nat->Nat->Heap->Prop)(Q:VH)(step:∀ (mz:Nat)(i:Int)(a:OA)(n:Nat)(c:Nat)  (zz:Nat->Value)(h:Heap),Inv mz i a n c h->sG l Inv Q mz i a n c  zz h)(mz:Nat){i:Int}{a:OA}{n:Nat}{c:Nat}  {h:Heap}(hi:Inv mz i a n c h):wN [1,1,0,1,0,0] (fA l i a n c )h(wY [1,1,0,1,0] [] (wX Q)):=
 aq(A:=(fQ l Inv))(show aG Tryz.f151.ntmps(aQ [1,1,0,1,0,0] dO)=true by kernel_rfl)(fun mz w zz h⟨i,a,n,c,hw,hi⟩=> by subst hw; exact aj(step mz i a n c  zz h hi)(by kernel_rfl))mz _ h⟨i,a,n,c,rfl,hi⟩(fun zz=>by kernel_rfl)(by kernel_rfl)
end Go.Proofs.YtoabjjimjldcfaaGreatDoor
end
section
namespace Go.Num
def isDig(c:UInt8):Bool:=decide(48<=c.toNat) && decide(c.toNat<=57)
def dv(c:UInt8):Nat:=c.toNat - 48
def val(l:List UInt8):Nat:=l.foldl(fun n c=>10 * n + dv c)0
def dig(n:Nat):UInt8:=UInt8.ofNat(48 + n)
theorem val_nil:val []=0:=rfl
theorem val_snoc(l:List UInt8)(c:UInt8):val(l ++ [c])=10 * val l + dv c:=by simp [val,List.foldl_append]
theorem toNat_dig {n:Nat}(h:n < 10):(dig n).toNat=48 + n:=by
 unfold dig; rw [UInt8.toNat_ofNat']; omega
theorem dv_dig {n:Nat}(h:n < 10):dv(dig n)=n:=by
 unfold dv; rw [toNat_dig h]; omega
theorem isDig_dig {n:Nat}(h:n < 10):isDig(dig n)=true:=by
 unfold isDig; rw [toNat_dig h]; simp; omega
theorem isDig_iff {c:UInt8} : isDig c=true↔48<=c.toNat/\c.toNat<=57:=by simp [isDig]
theorem dv_lt {c:UInt8}(h:isDig c=true):dv c < 10:=by
 rw [isDig_iff] at h; unfold dv; omega
theorem Fy {c:UInt8}(h:isDig c=true):dig(dv c)=c:=by
 have h1:=dv_lt h
 rw [isDig_iff] at h
 apply UInt8.toNat_inj.1
 rw [toNat_dig h1]; unfold dv; omega
theorem kW {α:Type}{P:List α->Prop}(h0:P [])(h1:∀ l a,P l->P(l ++ [a]))(l:List α):P l:=by
 have:∀ n(l:List α),l.length=n->P l:=by
  intro n
  induction n with
  | zero=>intro l hl; rw [List.eq_nil_of_length_eq_zero hl]; exact h0
  | succ n ih =>
   intro l hl
   have hne:l≠[]:=by intro e; subst e; simp at hl
   rw [<- List.dropLast_concat_getLast hne]
   exact h1 _ _(ih _(by simp [hl]))
 exact this _ l rfl
theorem val_append(a b:List UInt8):val(a ++ b)=val a * 10 ^ b.length + val b:=by
 induction b using kW with
 | h0=>simp [val_nil]
 | h1 b c ih =>
  rw [<- List.append_assoc,val_snoc,val_snoc,ih,List.length_append,List.length_singleton,Nat.pow_succ]
  have:10 * (val a * 10 ^ b.length + val b)=val a * (10 ^ b.length * 10) + 10 * val b:=by
   rw [Nat.mul_add,<- Nat.mul_assoc 10,Nat.mul_comm 10(val a),Nat.mul_assoc,Nat.mul_comm 10]
  omega
theorem val_lt {l:List UInt8}(h:l.all isDig=true):val l < 10 ^ l.length:=by
 induction l using kW with
 | h0=>simp [val_nil]
 | h1 l c ih =>
  simp af [List.all_append,List.all_cons,List.all_nil,Bool.and_true,Bool.and_eq_true] at h
  have h1:=ih h.1
  have h2:=dv_lt h.2
  rw [val_snoc,List.length_append,List.length_singleton,Nat.pow_succ]
  omega
def toDec(n:Nat):List UInt8:=if n < 10 then [dig n] else toDec(n / 10) ++ [dig(n % 10)]
termination_by n
decreasing_by omega
theorem toDec_lt {n:Nat}(h:n < 10):toDec n=[dig n]:=by rw [toDec,if_pos h]
theorem toDec_ge {n:Nat}(h:10<=n):toDec n=toDec(n / 10) ++ [dig(n % 10)]:=by rw [toDec,if_neg(by omega)]
theorem sa {n d:Nat}(hn:0 < n)(hd:d < 10):toDec(10 * n + d)=toDec n ++ [dig d]:=by
 rw [toDec_ge(by omega),show(10 * n + d) / 10=n by omega,show(10 * n + d) % 10=d by omega]
theorem val_toDec(n:Nat):val(toDec n)=n:=by
 induction n using Nat.strongRecOn with
 | ind n ih =>
  by_cases h:n < 10
  · rw [toDec_lt h,show [dig n]=[] ++ [dig n] from rfl,val_snoc,dv_dig h,val_nil]; omega
  · rw [toDec_ge(by omega),val_snoc,ih(n / 10)(by omega),dv_dig(by omega)]; omega
theorem toDec_inj {m n:Nat}(h:toDec m=toDec n):m=n:=by rw [<- val_toDec m,h,val_toDec]
theorem toDec_ne(n:Nat):toDec n≠[]:=by
 by_cases h:n < 10
 · rw [toDec_lt h]; simp
 · rw [toDec_ge(by omega)]; simp
theorem toDec_len_pos(n:Nat):0 < (toDec n).length:=List.length_pos_iff.2(toDec_ne n)
theorem toDec_all(n:Nat):(toDec n).all isDig=true:=by
 induction n using Nat.strongRecOn with
 | ind n ih =>
  by_cases h:n < 10
  · rw [toDec_lt h]; simp [isDig_dig h]
  · rw [toDec_ge(by omega)]; simp [ih(n / 10)(by omega),isDig_dig(show n % 10 < 10 by omega)]
theorem toDec_lt_pow(n:Nat):n < 10 ^ (toDec n).length:=by
 have:=val_lt(toDec_all n)
 rwa [val_toDec] at this
theorem Fa {n:Nat}(h:10<=n):10 ^ ((toDec n).length - 1)<=n:=by
 induction n using Nat.strongRecOn with
 | ind n ih =>
  rw [toDec_ge h,List.length_append,List.length_singleton]
  by_cases h1:n / 10 < 10
  · rw [toDec_lt h1]; simp; exact h
  · have h2:=ih(n / 10)(by omega)(by omega)
   have h3:=toDec_len_pos(n / 10)
   obtain⟨k,hk⟩: ∃ k,(toDec(n / 10)).length=k + 1 :=⟨(toDec(n / 10)).length - 1,by omega⟩
   rw [hk] at h2 ⊢
   simp af [Nat.add_sub_cancel] at h2 ⊢
   rw [Nat.pow_succ]
   omega
theorem toDec_len_le {n k:Nat}(hk:0 < k):(toDec n).length<=k↔n < 10 ^ k:=by
 constructor
 · intro h
  exact Nat.lt_of_lt_of_le(toDec_lt_pow n)(Nat.pow_le_pow_right(by omega)h)
 · intro h
  by_cases hn:n < 10
  · rw [toDec_lt hn]; simp; omega
  · have h1:=Fa(n:=n)(by omega)
   rcases Nat.lt_or_ge k(toDec n).length with h2 | h2
   · have h3:10 ^ k<=10 ^ ((toDec n).length - 1):=Nat.pow_le_pow_right(by omega)(by omega)
    omega
   · exact h2
def K2(l:List UInt8):Prop:=l≠[]/\l.all isDig=true/\(1 < l.length->l.head?≠some 48)
theorem SZ {l:List UInt8}(hd:l.all isDig=true)(h0:l≠[])(h:l.head?≠some 48):0 < val l:=by
 induction l using kW with
 | h0=>exact absurd rfl h0
 | h1 l c ih =>
  simp af [List.all_append,List.all_cons,List.all_nil,Bool.and_true,Bool.and_eq_true] at hd
  rw [val_snoc]
  by_cases hl:l=[]
  · subst hl
   have hc:c≠48:=by intro e; subst e; simp at h
   have h2:=isDig_iff.1 hd.2
   have h3:c.toNat≠48:=fun e=>hc(by apply UInt8.toNat_inj.1; rw [e]; rfl)
   rw [val_nil]; unfold dv; omega
  · have:=ih hd.1 hl(by
    cases l with
    | nil=>exact absurd rfl hl
    | cons a l=>simpa using h)
   omega
theorem pZ {l:List UInt8}(h:K2 l):toDec(val l)=l:=by
 induction l using kW with
 | h0=>exact absurd rfl h.1
 | h1 l c ih =>
  obtain⟨_,hd,hz⟩:=h
  simp af [List.all_append,List.all_cons,List.all_nil,Bool.and_true,Bool.and_eq_true] at hd
  rw [val_snoc]
  by_cases hl:l=[]
  · subst hl
   rw [val_nil,toDec_lt(by have:=dv_lt hd.2; omega)]
   simp [Fy hd.2]
  · have hh:l.head?≠some 48:=by
    have:=hz(by have:=List.length_pos_iff.2 hl; simp; omega)
    cases l with
    | nil=>exact absurd rfl hl
    | cons a l=>simpa using this
   have hp:=SZ hd.1 hl hh
   rw [sa hp(dv_lt hd.2),ih⟨hl,hd.1,fun _=>hh⟩,Fy hd.2]
theorem He(n:Nat):K2(toDec n):=by
 refine⟨toDec_ne n,toDec_all n,?_⟩
 induction n using Nat.strongRecOn with
 | ind n ih =>
  intro hl
  by_cases h:n < 10
  · rw [toDec_lt h] at hl; simp at hl
  · rw [toDec_ge(by omega)]
   by_cases h1:n / 10 < 10
   · rw [toDec_lt h1]
    simp af [List.cons_append,List.head?_cons,ne_eq,Option.some.injEq]
    intro e
    have:=congrArg UInt8.toNat e
    rw [toNat_dig h1] at this
    have h48:(48:UInt8).toNat=48:=rfl
    omega
   · have h2:=ih(n / 10)(by omega)(by rw [toDec_ge(by omega)]; have:=toDec_len_pos(n / 10 / 10); simp; omega)
    cases hh:toDec(n / 10) with
    | nil=>exact absurd hh(toDec_ne _)
    | cons a l=>rw [hh] at h2; simpa using h2
def valid(l:List UInt8):Bool:= !l.isEmpty && decide(l.length<=1000) && !(decide(1 < l.length) && l.head? == some 48) && l.all isDig
theorem valid_iff {l:List UInt8} : valid l=true↔K2 l/\l.length<=1000:=by
 unfold valid K2
 cases l with
 | nil=>simp
 | cons a l =>
  simp af [List.isEmpty_cons,Bool.not_false,Bool.true_and,Bool.and_eq_true,decide_eq_true_eq,Bool.not_eq_true',Bool.and_eq_false_imp,ne_eq,reduceCtorEq,not_false_eq_true,true_and]
  constructor
  · rintro⟨⟨h1,h2⟩,h3⟩
   exact⟨⟨h3,fun h4=>by simpa using h2 h4⟩,h1⟩
  · rintro⟨⟨h3,h2⟩,h1⟩
   exact⟨⟨h1,fun h4=>by simpa using h2 h4⟩,h3⟩
theorem valid_toDec {n:Nat} : valid(toDec n)=true↔n < 10 ^ 1000:=by
 rw [valid_iff,<- toDec_len_le(by omega)]
 exact⟨fun h=>h.2,fun h =>⟨He n,h⟩⟩
theorem valid_ex {l:List UInt8}(h:valid l=true):∃ n,l=toDec n/\n < 10 ^ 1000/\val l=n:=by
 have h1:=(valid_iff.1 h).1
 refine⟨val l,(pZ h1).symm,?_,rfl⟩
 rw [<- pZ h1] at h
 exact valid_toDec.1 h
def bv(b:Nat):List Nat->Nat
 | []=>0
 | d :: l=>d + b * bv b l
theorem ee(b:Nat):∀ x y:List Nat,bv b(x ++ y)=bv b x + b ^ x.length * bv b y
 | [],y=>by simp [bv]
 | d :: x,y=>by
  simp af [List.cons_append,bv,ee b x y,List.length_cons,Nat.pow_succ]
  rw [Nat.mul_add,Nat.mul_comm(b ^ x.length)b,Nat.mul_assoc]; omega
theorem bv_snoc(b:Nat)(x:List Nat)(d:Nat):bv b(x ++ [d])=bv b x + b ^ x.length * d:=by rw [ee]; simp [bv]
theorem bv_lt {b:Nat} : ∀ {x:List Nat},(∀ d∈x,d < b)->bv b x < b ^ x.length
 | [],_=>by simp [bv]
 | d :: x,h=>by
  have h1:=bv_lt(b:=b)(x:=x)fun e he=>h e(by simp [he])
  have h2:=h d(by simp)
  simp af [bv,List.length_cons,Nat.pow_succ]
  have:b * bv b x + b<=b * b ^ x.length:=by
   have:=Nat.mul_le_mul_left b(Nat.succ_le_of_lt h1)
   rw [Nat.mul_succ] at this; exact this
  rw [Nat.mul_comm(b ^ x.length)]; omega
def toB(b n:Nat):List Nat:=if h:1 < b/\0 < n then n % b :: toB b(n / b) else []
termination_by n
decreasing_by exact Nat.div_lt_self h.2 h.1
theorem toB_zero(b:Nat):toB b 0=[]:=by rw [toB,dif_neg(by omega)]
theorem m4 {b n:Nat}(hb:1 < b)(hn:0 < n):toB b n=n % b :: toB b(n / b):=by rw [toB,dif_pos⟨hb,hn⟩]
theorem bv_toB {b:Nat}(hb:1 < b)(n:Nat):bv b(toB b n)=n:=by
 induction n using Nat.strongRecOn with
 | ind n ih =>
  rcases Nat.eq_zero_or_pos n with rfl | hn
  · rw [toB_zero]; rfl
  · rw [m4 hb hn,bv,ih(n / b)(Nat.div_lt_self hn hb)]; exact Nat.mod_add_div n b
theorem toB_lt {b:Nat}(hb:1 < b)(n:Nat):∀ d∈toB b n,d < b:=by
 induction n using Nat.strongRecOn with
 | ind n ih =>
  rcases Nat.eq_zero_or_pos n with rfl | hn
  · rw [toB_zero]; simp
  · rw [m4 hb hn]
   intro d hd
   rcases List.mem_cons.1 hd with rfl | hd
   · exact Nat.mod_lt _(by omega)
   · exact ih(n / b)(Nat.div_lt_self hn hb)d hd
def Uc(b:Nat)(l:List Nat):Prop:=(∀ d∈l,d < b)/\l.getLast?≠some 0
theorem Pe {b:Nat}(hb:1 < b)(n:Nat):Uc b(toB b n):=by
 refine⟨toB_lt hb n,?_⟩
 induction n using Nat.strongRecOn with
 | ind n ih =>
  rcases Nat.eq_zero_or_pos n with rfl | hn
  · rw [toB_zero]; simp
  · rw [m4 hb hn]
   by_cases h0:n / b=0
   · rw [h0,toB_zero]
    have:n < b:=by
     rcases Nat.lt_or_ge n b with h | h
     · exact h
     · have:=Nat.div_pos h(by omega); omega
    simp [Nat.mod_eq_of_lt this]; omega
   · have:=ih(n / b)(Nat.div_lt_self hn hb)
    rw [m4 hb(Nat.pos_of_ne_zero h0)] at this ⊢
    simpa using this
theorem QX {b:Nat}(hb:1 < b):∀ {l:List Nat},Uc b l->toB b(bv b l)=l
 | [],_=>toB_zero b
 | d :: l,h=>by
  have hd:d < b:=h.1 d(by simp)
  have hp:0 < bv b(d :: l):=by
   have key:∀ l:List Nat,l≠[]->l.getLast?≠some 0->0 < bv b l:=by
    intro l
    induction l with
    | nil=>intro h; exact absurd rfl h
    | cons a l ih =>
     intro _ h2
     by_cases hl:l=[]
     · subst hl; simp at h2; simp [bv]; omega
     · have:0 < bv b l:=ih hl(by
       cases l with
       | nil=>exact absurd rfl hl
       | cons c l=>simpa using h2)
      simp af [bv]
      have:=Nat.mul_pos(show 0 < b by omega)this
      omega
   exact key _(by simp)h.2
  have hl:Uc b l :=⟨fun e he=>h.1 e(by simp [he]),by
   intro e
   cases l with
   | nil=>simp at e
   | cons c l=>exact h.2(by simpa using e)⟩
  rw [m4 hb hp]
  simp af [bv]
  rw [show(d + b * bv b l) % b=d by rw [Nat.add_mul_mod_self_left,Nat.mod_eq_of_lt hd],show(d + b * bv b l) / b=bv b l by rw [Nat.add_mul_div_left _ _(by omega),Nat.div_eq_of_lt hd,Nat.zero_add],QX hb hl]
def trimL(l:List Nat):List Nat:=(l.reverse.dropWhile(· == 0)).reverse
theorem ME:trimL []=[]:=rfl
theorem trimL_snoc_zero(l:List Nat):trimL(l ++ [0])=trimL l:=by simp [trimL]
theorem trimL_snoc_pos(l:List Nat){d:Nat}(h:d≠0):trimL(l ++ [d])=l ++ [d]:=by simp [trimL,h]
theorem trimL_eq {b:Nat}(hb:1 < b){l:List Nat}(h:∀ d∈l,d < b):trimL l=toB b(bv b l):=by
 induction l using kW with
 | h0=>rw [ME]; exact(toB_zero b).symm
 | h1 l d ih =>
  by_cases hd:d=0
  · subst hd
   rw [trimL_snoc_zero,ih fun e he=>h e(by simp [he]),bv_snoc]; simp
  · rw [trimL_snoc_pos l hd,QX hb]
   exact⟨h,by simpa using hd⟩
theorem toB_eq_nil {b n:Nat}(hb:1 < b):toB b n=[]↔n=0:=by
 constructor
 · intro h; have:=bv_toB hb n; rw [h] at this; exact this.symm
 · rintro rfl; exact toB_zero b
theorem toB_len_le {b:Nat}(hb:1 < b){n k:Nat}(h:n < b ^ k):(toB b n).length<=k:=by
 induction k generalizing n with
 | zero=>rw [Nat.pow_zero] at h; rw [show n=0 by omega,toB_zero]; simp
 | succ k ih =>
  rcases Nat.eq_zero_or_pos n with rfl | hn
  · rw [toB_zero]; simp
  · rw [m4 hb hn]
   have:n / b < b ^ k:=Nat.div_lt_of_lt_mul(by rw [Nat.pow_succ,Nat.mul_comm] at h; exact h)
   have:=ih this
   simp; omega
theorem qR {b:Nat}(hb:1 < b){n:Nat}(hn:0 < n):b ^ ((toB b n).length - 1)<=n:=by
 induction n using Nat.strongRecOn with
 | ind n ih =>
  rw [m4 hb hn,List.length_cons,Nat.add_sub_cancel]
  by_cases h0:n / b=0
  · rw [h0,toB_zero]; simp; omega
  · have h1:=ih(n / b)(Nat.div_lt_self hn hb)(Nat.pos_of_ne_zero h0)
   have h2:0 < (toB b(n / b)).length:=List.length_pos_iff.2(by rw [Ne,toB_eq_nil hb]; exact h0)
   obtain⟨k,hk⟩: ∃ k,(toB b(n / b)).length=k + 1 :=⟨(toB b(n / b)).length - 1,by omega⟩
   rw [hk] at h1 ⊢
   rw [Nat.add_sub_cancel] at h1
   rw [Nat.pow_succ]
   have h3:=Nat.mul_le_mul_right b h1
   have h4:=Nat.div_mul_le_self n b
   omega
end Go.Num
end
section
namespace Go.Num
theorem bv_drop(b:Nat)(x:List Nat)(i:Nat):bv b(x.drop i)=x.getD i 0 + b * bv b(x.drop(i + 1)):=by
 rcases Nat.lt_or_ge i x.length with h | h
 · rw [List.drop_eq_getElem_cons h,bv,List.getD_eq_getElem?_getD,List.getElem?_eq_getElem h]; rfl
 · rw [List.drop_eq_nil_of_le h,List.drop_eq_nil_of_le(by omega),List.getD_eq_getElem?_getD,List.getElem?_eq_none h]; simp [bv]
theorem getD_lt {b:Nat}{x:List Nat}(hb:0 < b)(h:∀ d∈x,d < b)(i:Nat):x.getD i 0 < b:=by
 rw [List.getD_eq_getElem?_getD]
 cases hx:x[i]? with
 | none=>exact hb
 | some d=>exact h d(List.mem_of_getElem? hx)
def eachF(F:Nat->Nat->Nat->Nat × Nat)(x y:List Nat):Nat->Nat->Nat->List Nat
 | _,0,_=>[]
 | i,k + 1,c=>(F(x.getD i 0)(y.getD i 0)c).1 :: eachF F x y(i + 1)k(F(x.getD i 0)(y.getD i 0)c).2
theorem eachF_lt {b:Nat}{F:Nat->Nat->Nat->Nat × Nat}(h:∀ p q c,(F p q c).1 < b)(x y:List Nat):∀ k i c,∀ d∈eachF F x y i k c,d < b
 | 0,_,_=>by simp [eachF]
 | k + 1,i,c=>by
  intro d hd
  rcases List.mem_cons.1 hd with rfl | hd
  · exact h _ _ _
  · exact eachF_lt h x y k _ _ d hd
def plusF(b:Nat)(p q c:Nat):Nat × Nat:=((p + q + c) % b,(p + q + c) / b)
theorem plus_bv {b:Nat}(hb:1 < b){x y:List Nat}(hx:∀ d∈x,d < b)(hy:∀ d∈y,d < b):∀ k i c,x.length < i + k->y.length < i + k->c<=1->0 < k->
  bv b(eachF(plusF b)x y i k c)=bv b(x.drop i) + bv b(y.drop i) + c:=by
 intro k
 induction k with
 | zero=>intro i c _ _ _ h; omega
 | succ k ih =>
  intro i c h1 h2 hc _
  have ha:=getD_lt(by omega)hx i
  have hbb:=getD_lt(by omega)hy i
  rw [bv_drop b x i,bv_drop b y i]
  simp af [eachF,bv]
  have hm:=Nat.mod_add_div(x.getD i 0 + y.getD i 0 + c)b
  have hc' : (plusF b(x.getD i 0)(y.getD i 0)c).2<=1:=by
   show(x.getD i 0 + y.getD i 0 + c) / b<=1
   have:(x.getD i 0 + y.getD i 0 + c) / b < 2:=Nat.div_lt_of_lt_mul(by omega)
   omega
  rcases Nat.eq_zero_or_pos k with rfl | hk
  · rw [List.drop_eq_nil_of_le(show x.length<=i + 1 by omega),List.drop_eq_nil_of_le(show y.length<=i + 1 by omega)]
   have e1:x.getD i 0=0:=by rw [List.getD_eq_getElem?_getD,List.getElem?_eq_none(by omega)]; rfl
   have e2:y.getD i 0=0:=by rw [List.getD_eq_getElem?_getD,List.getElem?_eq_none(by omega)]; rfl
   simp af [eachF,bv,plusF,e1,e2,Nat.zero_add,Nat.mul_zero,Nat.add_zero]
   exact Nat.mod_eq_of_lt(by omega)
  · rw [ih(i + 1)_(by omega)(by omega)hc' hk]
   simp af [plusF]
   rw [Nat.mul_add,Nat.mul_add]
   omega
def scaleF(b m:Nat)(p _q c:Nat):Nat × Nat:=((p * m + c) % b,(p * m + c) / b)
theorem scale_bv {b m:Nat}(hb:1 < b)(hm:m<=b)(hm0:0 < m){x y:List Nat}(hx:∀ d∈x,d < b):∀ k i c,x.length < i + k->c < m->0 < k->
  bv b(eachF(scaleF b m)x y i k c)=bv b(x.drop i) * m + c:=by
 intro k
 induction k with
 | zero=>intro i c _ _ h; omega
 | succ k ih =>
  intro i c h1 hc _
  have ha:=getD_lt(by omega)hx i
  rw [bv_drop b x i]
  simp af [eachF,bv]
  have hmd:=Nat.mod_add_div(x.getD i 0 * m + c)b
  have hc' : (scaleF b m(x.getD i 0)(y.getD i 0)c).2 < m:=by
   show(x.getD i 0 * m + c) / b < m
   refine Nat.div_lt_of_lt_mul ?_
   have:x.getD i 0 * m + m<=b * m:=by
    have:=Nat.mul_le_mul_right m(Nat.succ_le_of_lt ha)
    rw [Nat.succ_mul] at this; exact this
   omega
  rcases Nat.eq_zero_or_pos k with rfl | hk
  · rw [List.drop_eq_nil_of_le(show x.length<=i + 1 by omega)]
   have e1:x.getD i 0=0:=by rw [List.getD_eq_getElem?_getD,List.getElem?_eq_none(by omega)]; rfl
   simp af [eachF,bv,scaleF,e1,Nat.zero_mul,Nat.zero_add,Nat.mul_zero,Nat.add_zero]
   exact Nat.mod_eq_of_lt(by omega)
  · rw [ih(i + 1)_(by omega)hc' hk]
   simp af [scaleF]
   have e:(x.getD i 0 + b * bv b(x.drop(i + 1))) * m=x.getD i 0 * m + b * (bv b(x.drop(i + 1)) * m):=by rw [Nat.add_mul,Nat.mul_assoc]
   rw [e,Nat.mul_add]
   omega
def minusF(b:Nat)(p q c:Nat):Nat × Nat:=((p + b - q - c) % b,1 - (p + b - q - c) / b)
theorem minus_step {b p q c:Nat}(hb:1 < b)(hp:p < b)(hq:q < b)(hc:c<=1):p + b * (minusF b p q c).2=(minusF b p q c).1 + q + c/\(minusF b p q c).2<=1:=by
 unfold minusF
 dsimp af
 rcases Nat.lt_or_ge(p + b - q - c)b with h | h
 · rw [Nat.div_eq_of_lt h,Nat.mod_eq_of_lt h]; omega
 · have h2:(p + b - q - c) / b=1:=by
   refine Nat.le_antisymm ?_((Nat.le_div_iff_mul_le(by omega)).2(by omega))
   have:(p + b - q - c) / b < 2:=Nat.div_lt_of_lt_mul(by omega)
   omega
  have h3:=Nat.mod_add_div(p + b - q - c)b
  rw [h2] at h3 ⊢
  omega
theorem minus_bv {b:Nat}(hb:1 < b){x y:List Nat}(hx:∀ d∈x,d < b)(hy:∀ d∈y,d < b):∀ k i c,x.length<=i + k->y.length<=i + k->c<=1->bv b(y.drop i) + c<=bv b(x.drop i)->
  bv b(eachF(minusF b)x y i k c) + bv b(y.drop i) + c=bv b(x.drop i):=by
 intro k
 induction k with
 | zero =>
  intro i c h1 h2 _ h
  rw [List.drop_eq_nil_of_le(show x.length<=i by omega)] at h ⊢
  rw [List.drop_eq_nil_of_le(show y.length<=i by omega)] at h ⊢
  simp af [bv,eachF] at h ⊢
  omega
 | succ k ih =>
  intro i c h1 h2 hc h
  have ha:=getD_lt(by omega)hx i
  have hbb:=getD_lt(by omega)hy i
  obtain⟨s1,s2⟩:=minus_step hb ha hbb hc
  rw [bv_drop b x i,bv_drop b y i] at h ⊢
  simp af [eachF,bv]
  have hlt:(minusF b(x.getD i 0)(y.getD i 0)c).1 < b:=Nat.mod_lt _(by omega)
  have hle:bv b(y.drop(i + 1)) + (minusF b(x.getD i 0)(y.getD i 0)c).2<=bv b(x.drop(i + 1)):=by
   rcases Nat.lt_or_ge(bv b(x.drop(i + 1)))(bv b(y.drop(i + 1)) + (minusF b(x.getD i 0)(y.getD i 0)c).2) with g | g
   · have g2:=Nat.mul_le_mul_left b(Nat.succ_le_of_lt g)
    rw [Nat.mul_succ,Nat.mul_add] at g2
    omega
   · exact g
  have e:=ih(i + 1)_(by omega)(by omega)s2 hle
  have e2:=congrArg(b * ·)e
  simp af [Nat.mul_add] at e2
  omega
theorem M9 {B n q v1 v2 rest u2 top U V Ul Vl:Nat}(hU:U=(top * B + u2) * B ^ n + Ul)(hUl:Ul < B ^ n)(hV:V=(v1 * B + v2) * B ^ n + Vl)(ht:q * v1 + rest=top)(h:rest * B + u2 < q * v2):U < q * V:=by
 have h1:top * B + u2 + 1<=q * (v1 * B + v2):=by
  have e:q * (v1 * B + v2)=q * v1 * B + q * v2:=by rw [Nat.mul_add,Nat.mul_assoc]
  have e2:top * B=q * v1 * B + rest * B:=by rw [<- ht,Nat.add_mul]
  omega
 have h2:=Nat.mul_le_mul_right(B ^ n)h1
 rw [Nat.add_mul,Nat.one_mul] at h2
 have h3:q * V=q * (v1 * B + v2) * B ^ n + q * Vl:=by rw [hV,Nat.mul_add,Nat.mul_assoc]
 omega
theorem I7 {B n q v1 v2 rest u2 top U V Ul Vl:Nat}(hU:U=(top * B + u2) * B ^ n + Ul)(hV:V=(v1 * B + v2) * B ^ n + Vl)(hVl:Vl < B ^ n)(ht:q * v1 + rest=top)(hq:q < B)(hv1:0 < v1)(h:q * v2<=rest * B + u2):q * V < U + V:=by
 have h1:q * (v1 * B + v2)<=top * B + u2:=by
  have e:q * (v1 * B + v2)=q * v1 * B + q * v2:=by rw [Nat.mul_add,Nat.mul_assoc]
  have e2:top * B=q * v1 * B + rest * B:=by rw [<- ht,Nat.add_mul]
  omega
 have h2:=Nat.mul_le_mul_right(B ^ n)h1
 have h3:q * V=q * (v1 * B + v2) * B ^ n + q * Vl:=by rw [hV,Nat.mul_add,Nat.mul_assoc]
 have h4:q * Vl<=q * B ^ n:=Nat.mul_le_mul_left q(Nat.le_of_lt hVl)
 have h5:q * B ^ n + B ^ n<=B * B ^ n:=by
  have:=Nat.mul_le_mul_right(B ^ n)(Nat.succ_le_of_lt hq)
  rw [Nat.succ_mul] at this; exact this
 have h6:B * B ^ n<=v1 * B * B ^ n:=by
  have:=Nat.mul_le_mul_right(B * B ^ n)(Nat.succ_le_of_lt hv1)
  rw [Nat.succ_eq_add_one,Nat.zero_add,Nat.one_mul,<- Nat.mul_assoc] at this; exact this
 have h7:v1 * B * B ^ n<=V:=by rw [hV,Nat.add_mul]; omega
 have h8:0 < B ^ n:=Nat.pow_pos(by omega)
 omega
def qt(B q u v borrow carry:Nat):Nat × Nat × Nat:=((u + B - (q * v + carry) % B - borrow) % B,1 - (u + B - (q * v + carry) % B - borrow) / B,(q * v + carry) / B)
theorem Oa {B q u v borrow carry:Nat}(hB:1 < B)(hu:u < B)(hb:borrow<=1) :
  u + B * ((qt B q u v borrow carry).2.1 + (qt B q u v borrow carry).2.2)=(qt B q u v borrow carry).1 + q * v + (borrow + carry)/\(qt B q u v borrow carry).2.1<=1/\(qt B q u v borrow carry).1 < B:=by
 have hp:=Nat.mod_lt(q * v + carry)(show 0 < B by omega)
 have hpm:=Nat.mod_add_div(q * v + carry)B
 have h:=minus_step(b:=B)(p:=u)(q:=(q * v + carry) % B)(c:=borrow)hB hu hp hb
 unfold minusF at h
 dsimp af at h
 unfold qt
 dsimp af
 refine⟨?_,h.2,Nat.mod_lt _(by omega)⟩
 rw [Nat.mul_add]
 omega
end Go.Num
end
section
namespace Go.Num
def cmpN(m n:Nat):Int:=if m < n then -1 else if m=n then 0 else 1
theorem cmpN_lt {m n:Nat}(h:m < n):cmpN m n = -1:=if_pos h
theorem cmpN_gt {m n:Nat}(h:n < m):cmpN m n=1:=by unfold cmpN; rw [if_neg(by omega),if_neg(by omega)]
theorem cmpN_eq(m:Nat):cmpN m m=0:=by unfold cmpN; rw [if_neg(by omega),if_pos rfl]
theorem cmpN_neg {m n:Nat} : cmpN m n < 0↔m < n:=by
 unfold cmpN; split
 · simp; omega
 · split <;> simp <;> omega
theorem cmpN_ge {m n:Nat} : cmpN m n>=0↔n<=m:=by
 unfold cmpN; split
 · simp; omega
 · split <;> simp <;> omega
theorem toDec_len_lt {m n:Nat}(h:(toDec m).length < (toDec n).length):m < n:=by
 rcases Nat.lt_or_ge m n with h1 | h1
 · exact h1
 · have h2:=(toDec_len_le(n:=n)(k:=(toDec m).length)(toDec_len_pos m)).2(Nat.lt_of_le_of_lt h1(toDec_lt_pow m))
  omega
theorem val_lt_of_prefix {a b:List UInt8}(hb:b.all isDig=true)(ha:a.all isDig=true)(hl:a.length=b.length){i:Nat}{c d:UInt8}(hp:a.take i=b.take i)(hc:a[i]? = some c)(hd:b[i]? = some d)(hcd:c < d):val a < val b:=by
 obtain⟨h1,rfl⟩:=List.getElem?_eq_some_iff.1 hc
 obtain⟨h2,rfl⟩:=List.getElem?_eq_some_iff.1 hd
 have ea:a=a.take i ++ (a[i] :: a.drop(i + 1)):=by rw [<- List.drop_eq_getElem_cons h1,List.take_append_drop]
 have eb:b=a.take i ++ (b[i] :: b.drop(i + 1)):=by rw [hp,<- List.drop_eq_getElem_cons h2,List.take_append_drop]
 have hA:val a=val(a.take i) * 10 ^ (a.drop i).length + val(a.drop i):=by rw [<- val_append,List.take_append_drop]
 have hB:val b=val(a.take i) * 10 ^ (b.drop i).length + val(b.drop i):=by rw [hp,<- val_append,List.take_append_drop]
 have ka:val(a.drop i)=dv a[i] * 10 ^ (a.drop(i + 1)).length + val(a.drop(i + 1)):=by
  rw [List.drop_eq_getElem_cons h1,<- List.singleton_append,val_append]; simp [val]
 have kb:val(b.drop i)=dv b[i] * 10 ^ (b.drop(i + 1)).length + val(b.drop(i + 1)):=by
  rw [List.drop_eq_getElem_cons h2,<- List.singleton_append,val_append]; simp [val]
 have hd1:(a.drop(i + 1)).all isDig=true:=by
  rw [List.all_eq_true] at ha ⊢
  exact fun x hx=>ha x(List.mem_of_mem_drop hx)
 have hlt:=val_lt hd1
 have hdig:dv a[i] + 1<=dv b[i]:=by
  have g1:=isDig_iff.1(List.all_eq_true.1 ha _(List.getElem_mem h1))
  have g2:=UInt8.lt_iff_toNat_lt.1 hcd
  unfold dv; omega
 have e1:(a.drop i).length=(b.drop i).length:=by simp [hl]
 have e2:(a.drop(i + 1)).length=(b.drop(i + 1)).length:=by simp [hl]
 rw [hA,hB,ka,kb,e1,<- e2]
 rw [e2] at hlt ⊢
 have h5:=Nat.mul_le_mul_right(10 ^ (b.drop(i + 1)).length)hdig
 rw [Nat.add_mul,Nat.one_mul] at h5
 omega
def digs(l:List UInt8):List Nat:=l.reverse.map dv
theorem digs_len(l:List UInt8):(digs l).length=l.length:=by simp [digs]
theorem digs_lt {l:List UInt8}(h:l.all isDig=true):∀ d∈digs l,d < 10:=by
 intro d hd
 simp af [digs,List.mem_map,List.mem_reverse] at hd
 obtain⟨c,hc,rfl⟩:=hd
 exact dv_lt(List.all_eq_true.1 h c hc)
theorem bv_digs(l:List UInt8):bv 10(digs l)=val l:=by
 induction l using kW with
 | h0=>rfl
 | h1 l c ih =>
  have:digs(l ++ [c])=dv c :: digs l:=by simp [digs]
  rw [this,bv,ih,val_snoc]; omega
def txt(l:List Nat):List UInt8:=l.reverse.map dig
theorem La(l:List Nat):(txt l).length=l.length:=by simp [txt]
theorem RS {l:List Nat}(h:∀ d∈l,d < 10):val(txt l)=bv 10 l:=by
 induction l with
 | nil=>rfl
 | cons d l ih =>
  have:txt(d :: l)=txt l ++ [dig d]:=by simp [txt]
  rw [this,val_snoc,ih(fun x hx=>h x(by simp [hx])),dv_dig(h d(by simp)),bv]; omega
theorem SU {l:List Nat}(h:∀ d∈l,d < 10):(txt l).all isDig=true:=by
 rw [List.all_eq_true]
 intro c hc
 simp af [txt,List.mem_map,List.mem_reverse] at hc
 obtain⟨d,hd,rfl⟩:=hc
 exact isDig_dig(h d hd)
theorem txt_dec {l:List Nat}(h:∀ d∈l,d < 10)(h0:l≠[])(hz:1 < l.length->l.getLast?≠some 0):txt l=toDec(bv 10 l):=by
 rw [<- RS h]
 refine(pZ⟨fun e=>h0 ?_,SU h,fun hl=>?_⟩).symm
 · have:=congrArg List.length e
  rw [La] at this
  exact List.eq_nil_of_length_eq_zero this
 · rw [La] at hl
  have h1:=hz hl
  rw [txt,List.head?_map,List.head?_reverse]
  cases hg:l.getLast? with
  | none=>simp
  | some d =>
   rw [hg] at h1
   have hd:=h d(List.mem_of_getLast? hg)
   simp af [Option.map_some,ne_eq,Option.some.injEq] at h1 ⊢
   intro e
   have:=congrArg UInt8.toNat e
   rw [toNat_dig hd] at this
   have h48:(48:UInt8).toNat=48:=rfl
   omega
theorem bv_take_zero {l:List Nat}{n:Nat}(h:∀ i,n<=i->l.getD i 0=0):bv 10(l.take n)=bv 10 l:=by
 induction n generalizing l with
 | zero =>
  have:∀ l:List Nat,(∀ i,0<=i->l.getD i 0=0)->bv 10 l=0:=by
   intro l
   induction l with
   | nil=>intro _; rfl
   | cons a l ih =>
    intro h
    have h1:=h 0(by omega)
    rw [bv,ih(fun i _=>by have:=h(i + 1)(by omega); simpa using this)]
    simpa using h1
  rw [this l h]; rfl
 | succ n ih =>
  cases l with
  | nil=>rfl
  | cons a l =>
   simp af [List.take_succ_cons,bv]
   rw [ih(fun i hi=>by have:=h(i + 1)(by omega); simpa using this)]
def lessF(p q c:Nat):Nat × Nat:=if p < q + c then(p + 10 - q - c,1) else(p - q - c,0)
theorem Px {p q c:Nat}(hp:p < 10)(hq:q < 10)(hc:c<=1):lessF p q c=minusF 10 p q c:=by
 unfold lessF minusF
 split
 · rw [Nat.mod_eq_of_lt(by omega),Nat.div_eq_of_lt(by omega)]
 · have h1:(p + 10 - q - c) / 10=1:=by omega
  have h2:(p + 10 - q - c) % 10=p - q - c:=by omega
  rw [h1,h2]
theorem rX {x y:List Nat}(hx:∀ d∈x,d < 10)(hy:∀ d∈y,d < 10):∀ k i c,c<=1->eachF lessF x y i k c=eachF(minusF 10)x y i k c
 | 0,_,_,_=>rfl
 | k + 1,i,c,hc=>by
  have h1:=Px(getD_lt(by omega)hx i)(getD_lt(by omega)hy i)hc
  simp af [eachF]
  rw [h1,rX hx hy k(i + 1)_(minus_step(by omega)(getD_lt(by omega)hx i)(getD_lt(by omega)hy i)hc).2]
theorem less_bv {x y:List Nat}(hx:∀ d∈x,d < 10)(hy:∀ d∈y,d < 10)(hl:y.length<=x.length)(h:bv 10 y<=bv 10 x):bv 10(eachF lessF x y 0 x.length 0)=bv 10 x - bv 10 y:=by
 rw [rX hx hy _ _ _(by omega)]
 have:=minus_bv(b:=10)(by omega)hx hy x.length 0 0(by omega)(by omega)(by omega)(by simpa using h)
 simp af [List.drop_zero] at this
 omega
theorem eachF_len(F:Nat->Nat->Nat->Nat × Nat)(x y:List Nat):∀ k i c,(eachF F x y i k c).length=k
 | 0,_,_=>rfl
 | k + 1,i,c=>by simp [eachF,eachF_len F x y k]
theorem less_lt {x y:List Nat}(hx:∀ d∈x,d < 10)(hy:∀ d∈y,d < 10)(k i c:Nat)(hc:c<=1):∀ d∈eachF lessF x y i k c,d < 10:=by
 rw [rX hx hy _ _ _ hc]
 exact eachF_lt(fun p q c=>Nat.mod_lt _(by omega))x y k i c
end Go.Num
end
section
namespace Go.Num
theorem toDec_zero:toDec 0=[48]:=by rw [toDec_lt(by omega)]; rfl
theorem Lq:toDec 1=[49]:=by rw [toDec_lt(by omega)]; rfl
theorem toDec_eq_zero {n:Nat} : toDec n=[48]↔n=0:=by
 rw [<- toDec_zero]; exact⟨toDec_inj,fun h=>by rw [h]⟩
theorem toDec_eq_one {n:Nat} : toDec n=[49]↔n=1:=by
 rw [<- Lq]; exact⟨toDec_inj,fun h=>by rw [h]⟩
theorem toDec_push {r:Nat}{c:UInt8}(hc:isDig c=true):(if toDec r=[48] then [c] else toDec r ++ [c])=toDec(10 * r + dv c):=by
 have hd:=dv_lt hc
 by_cases h:r=0
 · subst h
  rw [if_pos toDec_zero,Nat.mul_zero,Nat.zero_add,toDec_lt hd,Fy hc]
 · rw [if_neg(fun e=>h(toDec_eq_zero.1 e)),sa(by omega)hd,Fy hc]
theorem val_take_succ {l:List UInt8}{i:Nat}{c:UInt8}(h:l[i]? = some c):val(l.take(i + 1))=10 * val(l.take i) + dv c:=by
 obtain⟨h1,rfl⟩:=List.getElem?_eq_some_iff.1 h
 rw [List.take_succ_eq_append_getElem h1,val_snoc]
theorem div_round {V n d k:Nat}(hn:0 < n)(h1:k * n<=10 * (V % n) + d)(h2:10 * (V % n) + d < (k + 1) * n):(10 * V + d) / n=10 * (V / n) + k/\(10 * V + d) % n=10 * (V % n) + d - k * n:=by
 have e:=Nat.mod_add_div V n
 have e2:10 * V + d=n * (10 * (V / n) + k) + (10 * (V % n) + d - k * n):=by
  have g1:n * (10 * (V / n) + k)=10 * (n * (V / n)) + k * n:=by rw [Nat.mul_add,Nat.mul_left_comm,Nat.mul_comm n k]
  omega
 have hlt:10 * (V % n) + d - k * n < n:=by rw [Nat.add_mul,Nat.one_mul] at h2; omega
 rw [e2]
 constructor
 · rw [Nat.mul_add_div hn,Nat.div_eq_of_lt hlt]; rfl
 · rw [Nat.mul_add_mod,Nat.mod_eq_of_lt hlt]
theorem div_digit {V n d k:Nat}(hn:0 < n)(hd:d < 10)(h1:k * n<=10 * (V % n) + d):k < 10:=by
 have:=Nat.mod_lt V hn
 rcases Nat.lt_or_ge k 10 with h | h
 · exact h
 · have:=Nat.mul_le_mul_right n h
  omega
theorem LA {l:List UInt8}(h:∀ c∈l,c=48):val l=0:=by
 induction l using kW with
 | h0=>rfl
 | h1 l c ih =>
  rw [val_snoc,ih(fun x hx=>h x(by simp [hx])),h c(by simp)]; rfl
theorem strip_dec {l:List UInt8}{k:Nat}(hd:l.all isDig=true)(hk:k < l.length)(hz:∀ i,i < k->l[i]? = some 48)(hs:k + 1 < l.length->l[k]?≠some 48):l.drop k=toDec(val l):=by
 have h1:val l=val(l.drop k):=by
  have:=val_append(l.take k)(l.drop k)
  rw [List.take_append_drop] at this
  rw [this,LA(fun c hc=>by
   obtain⟨i,hi⟩:=List.getElem?_of_mem hc
   rw [List.getElem?_take] at hi
   split at hi
   · next h=>rw [hz i h] at hi; exact(Option.some.inj hi).symm
   · cases hi),Nat.zero_mul,Nat.zero_add]
 rw [h1]
 refine(pZ⟨fun e=>?_,?_,fun hl=>?_⟩).symm
 · have:=congrArg List.length e
  simp at this; omega
 · rw [List.all_eq_true] at hd ⊢
  exact fun x hx=>hd x(List.mem_of_mem_drop hx)
 · rw [List.length_drop] at hl
  rw [List.head?_drop]
  exact hs(by omega)
theorem gcd_step(m n:Nat):Nat.gcd m n=Nat.gcd n(m % n):=by rw [Nat.gcd_comm m n,Nat.gcd_rec n m,Nat.gcd_comm]
end Go.Num
end
section
set_option linter.unusedVariables false
set_option maxRecDepth 100000
namespace Go.Proofs.YtoabjjimjldcfaaGreatDoor
open Go Go.Ab
theorem Sj:SS.P.underlying 9=some .string:=by kernel_rfl
theorem xC(l:List UInt8){h:Heap}{i:Int}(h0:0<=i)(h1:i < l.length):aR SS.P 9(aa l)(.int .i64 i)=some(.int .u8((l.getD i.toNat 0).toNat:Nat)):=i4 Sj l _ h0 h1
theorem Qe {c:UInt8}(h1 : ¬ (c.toNat:Int) < 48)(h2 : ¬ (c.toNat:Int) > 57):Num.isDig c=true:=by
 unfold Num.isDig; simp; omega
theorem FI {c:UInt8}(h:(c.toNat:Int) < 48\/(c.toNat:Int) > 57):Num.isDig c=false:=by
 unfold Num.isDig; simp; omega
theorem q8 {l:List UInt8}{i:Nat}(hi:i < l.length)(h1:(l.take i).all Num.isDig=true)(h2:Num.isDig(l.getD i 0)=true):(l.take(i + 1)).all Num.isDig=true:=by
 rw [List.take_succ_eq_append_getElem hi,List.all_append,h1]
 rw [List.getD_eq_getElem?_getD,List.getElem?_eq_getElem hi] at h2
 simpa using h2
theorem qd {l:List UInt8}{i:Nat}(hi:i < l.length)(h2:Num.isDig(l.getD i 0)=false):l.all Num.isDig=false:=by
 rw [List.getD_eq_getElem?_getD,List.getElem?_eq_getElem hi] at h2
 exact List.all_eq_false.2⟨l[i],List.getElem_mem hi,by simpa using h2⟩
theorem zd {l:List UInt8}(h:1000 < l.length):Num.valid l=false:=by
 unfold Num.valid
 rw [decide_eq_false(by omega : ¬ l.length<=1000)]; simp
theorem jI {l:List UInt8}(h:1 < l.length)(h0:l.getD 0 0=48):Num.valid l=false:=by
 unfold Num.valid
 cases l with
 | nil=>rfl
 | cons a l =>
  have h0:a=48:=h0
  subst h0
  rw [decide_eq_true h]; simp
theorem qh {l:List UInt8}(h0:l≠[])(h1:l.length<=1000)(h2:1 < l.length->l.getD 0 0≠48):Num.valid l=l.all Num.isDig:=by
 unfold Num.valid
 cases l with
 | nil=>exact absurd rfl h0
 | cons a l =>
  rw [decide_eq_true h1]
  by_cases h:1 < (a :: l).length
  · have h3:a≠48:=h2 h
   rw [decide_eq_true h]; simp [h3]
  · rw [decide_eq_false h]; simp
theorem u8_eq {c:UInt8} : ((c.toNat:Int) == 48)=true↔c=48:=by
 rw [beq_iff_eq]
 refine⟨fun h=>UInt8.toNat_inj.1 ?_,fun h=>by rw [h]; rfl⟩
 have h48:(48:UInt8).toNat=48:=rfl
 omega
theorem bL(l:List UInt8)(h:Heap):FW SS 139 [aa l] h(fun v h'=>v = .bool(Num.valid l)/\h' = h):=by
 by_cases hlen:l.length<=1000
 case neg =>
  refine wM l h _(ae(fun h1=>?_)(fun h1=>ae(fun h2=>?_)(fun h2=>?_)))
  · obtain rfl:l=[]:=by simpa using h1
   exact⟨rfl,rfl⟩
  · exact⟨by rw [zd(by omega)],rfl⟩
  · have:=of_decide_eq_false h2; omega
 have L:=fun(hv:Num.valid l=l.all Num.isDig)=>qu l(fun mz i g=>0<=i/\i<=l.length/\mz=l.length - i.toNat/\(l.take i.toNat).all Num.isDig=true/\g=h)(fun v h'=>v = .bool(Num.valid l)/\h' = h)(by
  intro mz i; intros; rename_i g hi
  obtain⟨h1,h2,h3,h4,rfl⟩:=hi
  refine ae(fun h5=>?_)(fun h5=>?_)
  · have h5:=of_decide_eq_true h5
   have hin:i.toNat < l.length:=by omega
   refine⟨_,xC(h:=g)l h1 h5,ae(fun h6=>?_)(fun h6 =>⟨_,xC(h:=g)l h1 h5,ae(fun h7=>?_)(fun h7=>?_)⟩)⟩
   · exact⟨by rw [hv,qd hin(FI(.inl(of_decide_eq_true h6)))],rfl⟩
   · exact⟨by rw [hv,qd hin(FI(.inr(of_decide_eq_true h7)))],rfl⟩
   · have hw:IntKind.wrap .i64(i + 1)=i + 1:=ap(by omega)(by omega)
    refine qA(mz - 1)(by omega) ?_
    rw [hw]
    refine⟨by omega,by omega,by omega,?_,rfl⟩
    rw [show(i + 1).toNat=i.toNat + 1 by omega]
    exact q8 hin h4(Qe(of_decide_eq_false h6)(of_decide_eq_false h7))
  · have h5:=of_decide_eq_false h5
   refine⟨?_,rfl⟩
   rw [hv,<- h4,List.take_of_length_le(by omega)])
 refine wM l h _(ae(fun h1=>?_)(fun h1=>ae(fun h2=>?_)(fun h2=>?_)))
 · obtain rfl:l=[]:=by simpa using h1
  exact⟨rfl,rfl⟩
 · have:=of_decide_eq_true h2; omega
 · have h1:l≠[]:=by simpa using h1
  have hpos:=List.length_pos_iff.2 h1
  refine ae(fun h3 =>⟨_,xC(h:=h)l(by omega)(by omega),ae(fun h4=>?_)(fun h4=>?_)⟩)(fun h3=>?_)
  · exact⟨by rw [jI(by have:=of_decide_eq_true h3; omega)(u8_eq.1 h4)],rfl⟩
  · exact L(qh h1 hlen fun _ e=>by have h4:(((l.getD 0 0).toNat:Int) == 48)=false:=h4; rw [u8_eq.2 e] at h4; cases h4)l.length⟨by omega,by omega,by simp,by simp,rfl⟩
  · exact L(qh h1 hlen fun e=>by have:=of_decide_eq_false h3; omega)l.length⟨by omega,by omega,by simp,by simp,rfl⟩
theorem bB(l:List UInt8)(h:Heap):FW SS 149 [aa l] h(fun v h'=>v = .bool(Num.valid l)/\h' = h):=by
 by_cases hlen:l.length<=1000
 case neg =>
  refine wP l h _(ae(fun h1=>?_)(fun h1=>ae(fun h2=>?_)(fun h2=>?_)))
  · have h1:=of_decide_eq_true h1; omega
  · exact⟨by rw [zd(by omega)],rfl⟩
  · have:=of_decide_eq_false h2; omega
 have L:=fun(hv:Num.valid l=l.all Num.isDig)=>qx l(fun mz i g=>0<=i/\i<=l.length/\mz=l.length - i.toNat/\(l.take i.toNat).all Num.isDig=true/\g=h)(fun v h'=>v = .bool(Num.valid l)/\h' = h)(by
  intro mz i; intros; rename_i g hi
  obtain⟨h1,h2,h3,h4,rfl⟩:=hi
  refine ae(fun h5=>?_)(fun h5=>?_)
  · have h5:=of_decide_eq_true h5
   have hin:i.toNat < l.length:=by omega
   refine⟨_,xC(h:=g)l h1 h5,ae(fun h6=>?_)(fun h6 =>⟨_,xC(h:=g)l h1 h5,ae(fun h7=>?_)(fun h7=>?_)⟩)⟩
   · exact⟨by rw [hv,qd hin(FI(.inl(of_decide_eq_true h6)))],rfl⟩
   · exact⟨by rw [hv,qd hin(FI(.inr(of_decide_eq_true h7)))],rfl⟩
   · have hw:IntKind.wrap .i64(i + 1)=i + 1:=ap(by omega)(by omega)
    refine qB(mz - 1)(by omega) ?_
    rw [hw]
    refine⟨by omega,by omega,by omega,?_,rfl⟩
    rw [show(i + 1).toNat=i.toNat + 1 by omega]
    exact q8 hin h4(Qe(of_decide_eq_false h6)(of_decide_eq_false h7))
  · have h5:=of_decide_eq_false h5
   refine⟨?_,rfl⟩
   rw [hv,<- h4,List.take_of_length_le(by omega)])
 refine wP l h _(ae(fun h1=>?_)(fun h1=>ae(fun h2=>?_)(fun h2=>?_)))
 · have h1:=of_decide_eq_true h1
  obtain rfl:l=[]:=List.eq_nil_of_length_eq_zero(by omega)
  exact⟨rfl,rfl⟩
 · have:=of_decide_eq_true h2; omega
 · have h1:=of_decide_eq_false h1
  have h1:l≠[]:=fun e=>by subst e; simp at h1
  have hpos:=List.length_pos_iff.2 h1
  refine⟨_,xC(h:=h)l(by omega)(by omega),ae(fun h4=>ae(fun h3=>?_)(fun h3=>?_))(fun h4=>?_)⟩
  · exact⟨by rw [jI(by have:=of_decide_eq_true h3; omega)(u8_eq.1 h4)],rfl⟩
  · exact L(qh h1 hlen fun e=>by have:=of_decide_eq_false h3; omega)l.length⟨by omega,by omega,by simp,by simp,rfl⟩
  · exact L(qh h1 hlen fun _ e=>by have h4:(((l.getD 0 0).toNat:Int) == 48)=false:=h4; rw [u8_eq.2 e] at h4; cases h4)l.length⟨by omega,by omega,by simp,by simp,rfl⟩
theorem I9 {a b:Nat}(h:((a:Int) != b)=true):a≠b:=by
 intro e; subst e; simp at h
theorem IX {a b:Nat}(h:((a:Int) != b)=false):a=b:=by
 by_cases e:a=b
 · exact e
 · exfalso
  have:(a:Int)≠b:=by omega
  simp [this] at h
theorem lk(m n:Nat)(hm:(Num.toDec m).length < 9223372036854775807)(hn:(Num.toDec n).length < 9223372036854775807)(h:Heap)(w:Wf h):FW SS 155 [aa(Num.toDec m),aa(Num.toDec n)] h(fun v h'=>v = .int .i64(Num.cmpN m n)/\Ok h h'):=by
 have L:=fun(hl:(Num.toDec m).length=(Num.toDec n).length)=>nM(Num.toDec m)(Num.toDec n)(fun mz i g=>0<=i/\i<=(Num.toDec m).length/\mz=(Num.toDec m).length - i.toNat/\(Num.toDec m).take i.toNat=(Num.toDec n).take i.toNat/\Ok h g)(fun v h'=>v = .int .i64(Num.cmpN m n)/\Ok h h')(by
  intro mz i; intros; rename_i g hi
  obtain⟨h1,h2,h3,h4,ok⟩:=hi
  refine ae(fun h5=>?_)(fun h5=>?_)
  · have h5:=of_decide_eq_true h5
   have hin:i.toNat < (Num.toDec m).length:=by omega
   have hin2:i.toNat < (Num.toDec n).length:=by omega
   have ga:(Num.toDec m)[i.toNat]? = some((Num.toDec m).getD i.toNat 0):=by rw [List.getD_eq_getElem?_getD,List.getElem?_eq_getElem hin]; rfl
   have gb:(Num.toDec n)[i.toNat]? = some((Num.toDec n).getD i.toNat 0):=by rw [List.getD_eq_getElem?_getD,List.getElem?_eq_getElem hin2]; rfl
   refine⟨_,xC(h:=g)_ h1 h5,_,xC(h:=g)_ h1(by omega),ae(fun h6=>?_)(fun h6=>?_)⟩
   · refine⟨_,xC(h:=g)_ h1 h5,_,xC(h:=g)_ h1(by omega),ae(fun h7=>?_)(fun h7=>?_)⟩
    · have h7:=of_decide_eq_true h7
     have:=Num.val_lt_of_prefix(Num.toDec_all n)(Num.toDec_all m)hl h4 ga gb(UInt8.lt_iff_toNat_lt.2(by omega))
     rw [Num.val_toDec,Num.val_toDec] at this
     exact⟨by rw [Num.cmpN_lt this],(ok.room 7).room 7⟩
    · have h7:=of_decide_eq_false h7
     have h6:=I9 h6
     have:=Num.val_lt_of_prefix(Num.toDec_all m)(Num.toDec_all n)hl.symm h4.symm gb ga(UInt8.lt_iff_toNat_lt.2(by omega))
     rw [Num.val_toDec,Num.val_toDec] at this
     exact⟨by rw [Num.cmpN_gt this],(ok.room 7).room 7⟩
   · have h6:=IX h6
    have hw:IntKind.wrap .i64(i + 1)=i + 1:=ap(by omega)(by omega)
    refine nS(mz - 1)(by omega) ?_
    rw [hw]
    refine⟨by omega,by omega,by omega,?_,ok.room 7⟩
    rw [show(i + 1).toNat=i.toNat + 1 by omega,List.take_add_one,List.take_add_one,h4,ga,gb,UInt8.toNat_inj.1 h6]
  · have h5:=of_decide_eq_false h5
   rw [List.take_of_length_le(by omega),List.take_of_length_le(by omega)] at h4
   exact⟨by rw [Num.toDec_inj h4,Num.cmpN_eq],ok⟩)
 refine BU _ _ h _(ae(fun h1=>ae(fun h2=>?_)(fun h2=>?_))(fun h1=>?_))
 · exact⟨by rw [Num.cmpN_lt(Num.toDec_len_lt(by have:=of_decide_eq_true h2; omega))],Ok.refl w⟩
 · have h1:=I9 h1
  exact⟨by rw [Num.cmpN_gt(Num.toDec_len_lt(by have:=of_decide_eq_false h2; omega))],Ok.refl w⟩
 · have h1:=IX h1
  exact L h1(Num.toDec m).length⟨by omega,by omega,by simp,by simp,Ok.refl w⟩
def iv(d:Nat):Value:= .int .i64(d:Int)
theorem mA:SS.P.underlying 48=some(.slice 3):=by kernel_rfl
theorem Sm:au SS.P 3=some 1:=by kernel_rfl
theorem Ld:SS.P.underlying 3=some(.int .i64):=by kernel_rfl
theorem Ko:Go.Ab.isAgg SS.P 3=false:=by kernel_rfl
noncomputable def re3:TypeInfo:=(dD SS.P 3).getD default
theorem N8:dD SS.P 3=some re3:=by kernel_rfl
theorem GO:re3.size=1:=by kernel_rfl
theorem Df:re3.bytes=8:=by kernel_rfl
theorem pG(l:List Nat)(i:Nat)(h:i < l.length):(l.map iv).getD i undef = .int .i64(l.getD i 0:Nat):=by
 simp [List.getD_eq_getElem?_getD,List.getElem?_map,List.getElem?_eq_getElem h,iv]
theorem pD {h:Heap}{a:Option Addr}{n c:Nat}{l:List Nat}(r:Rd h 3(.slice a n c)(l.map iv))(i:Nat):FW SS 152 [.slice a n c,.int .i64(i:Int)] h(fun v h'=>v = .int .i64(l.getD i 0:Nat)/\h' = h):=by
 have hn:=r.len
 rw [List.length_map] at hn
 refine PI a n c i h _(ae(fun h1=>?_)(fun h1=>?_))
 · have h1:=of_decide_eq_true h1
  obtain⟨p,h2,h3⟩:=r.at_ mA Sm Ld Ko(k:= .i64)(i:=(i:Int))(by omega)(by rw [List.length_map]; omega)
  rw [Int.toNat_natCast,pG l i(by omega)] at h3
  exact⟨p,h2,_,h3,rfl,rfl⟩
 · have h1:=of_decide_eq_false h1
  refine⟨?_,rfl⟩
  rw [List.getD_eq_getElem?_getD,List.getElem?_eq_none(by omega)]; rfl
end Go.Proofs.YtoabjjimjldcfaaGreatDoor
end
section
set_option linter.unusedVariables false
set_option maxRecDepth 100000
namespace Go.Proofs.YtoabjjimjldcfaaGreatDoor
open Go Go.Ab
noncomputable def fI:Code:=(Tryz.f156.body).getD .skip
noncomputable def C3(Q:VH):ak:=cF SS Tryz.f156.results.toList Q
def vu:List Nat:=[0,1,5,6,7]
noncomputable def CZ(p:List Nat)(w:LV)(h:Heap)(Q:ak):Prop:=bq SS Tryz.f156.ntmps vu(aQ p fI)w h Q
noncomputable def CL(p b:List Nat)(K:ak):ak:=ko SS Tryz.f156.ntmps vu p(aQ b fI)K
abbrev LH(a:OA)(n c:Nat)(b:OA)(m d:Nat)(h:Heap)(Q:VH):Prop:=CZ [1,1,1,0,1,0,0] [(.slice a n c),(.slice b m d),nA,(.int .i64 0),(.int .i64 0)] h(CL [1,1,1,0,1,0] [] (C3 Q))
theorem Kd(a:OA)(n c:Nat)(b:OA)(m d:Nat)(h:Heap)(Q:VH)(hx:LH a n c b m d h Q):FW SS 156 [(.slice a n c),(.slice b m d)] h Q:=ay(M:=vu)(c:=fI)Tryz.func156(show Tryz.f156.body=some fI by kernel_rfl)(by kernel_rfl)(aj hx(by kernel_rfl))
abbrev iq(a:OA)(n c:Nat)(b:OA)(m d:Nat)  (k:Nat)(cc:Nat)(r:OA)(rn:Nat)(rc:Nat)  : LV:=[(.slice a n c),(.slice b m d),(.slice r rn rc),(iA cc),(iA k)]
def eL(a:OA)(n c:Nat)(b:OA)(m d:Nat)  (Inv:Nat->Nat->Nat->OA->Nat->Nat->Heap->Prop)(mz:Nat)(w:LV)(h:Heap):Prop:= ∃ (k:Nat)(cc:Nat)(r:OA)(rn:Nat)(rc:Nat) ,w=(iq a n c b m d k cc r rn rc )/\Inv mz k cc r rn rc h
abbrev xQ(a:OA)(n c:Nat)(b:OA)(m d:Nat)  (Inv:Nat->Nat->Nat->OA->Nat->Nat->Heap->Prop)(Q:VH)(mz:Nat)(k:Nat)(cc:Nat)(r:OA)(rn:Nat)(rc:Nat)  (zz:Nat->Value)(h:Heap):Prop:=ax(decide(((k:Int):Int) < (n:Int)))(FW SS 152 [(.slice a n c),(iA k)] h fun v1 h2=>yI .i64 v1 fun n3=>FW SS 152 [(.slice b m d),(iA k)] h2 fun v4 h5=>yI .i64 v4 fun n6=>ax(decide((IntKind.wrap .i64(IntKind.wrap .i64(n3 - n6) - (cc:Int)):Int) < 0))(xR(az SS.P 48 1 [(0,(.int .i64(IntKind.wrap .i64(IntKind.wrap .i64(IntKind.wrap .i64(n3 - n6) - (cc:Int)) + 10))))])h5 fun B7 n8 c9 g10=>xE(aC SS.P 48 48(.slice r rn rc)(sA(h5.next)n8 c9)g10)g10 fun a11 n12 c13 u14 g15=>al(eL a n c b m d Inv)mz [(.slice a n c),(.slice b m d),(.slice a11 n12 c13),(.int .i64 1),(.int .i64(IntKind.wrap .i64((k:Int) + 1)))] g15)(xR(az SS.P 48 1 [(0,(.int .i64(IntKind.wrap .i64(IntKind.wrap .i64(n3 - n6) - (cc:Int)))))])h5 fun B16 n17 c18 g19=>xE(aC SS.P 48 48(.slice r rn rc)(sA(h5.next)n17 c18)g19)g19 fun a20 n21 c22 u23 g24=>al(eL a n c b m d Inv)mz [(.slice a n c),(.slice b m d),(.slice a20 n21 c22),(.int .i64 0),(.int .i64(IntKind.wrap .i64((k:Int) + 1)))] g24))(Q(.slice r rn rc)h)
theorem jx {a:OA}{n c:Nat}{b:OA}{m d:Nat}  {Inv:Nat->Nat->Nat->OA->Nat->Nat->Heap->Prop}{mz:Nat}(mq:Nat){k:Nat}{cc:Nat}{r:OA}{rn:Nat}{rc:Nat}  {h:Heap}(hm:mq < mz)(hi:Inv mq k cc r rn rc h):al(eL a n c b m d Inv)mz(iq a n c b m d k cc r rn rc )h :=⟨mq,hm,k,cc,r,rn,rc,rfl,hi⟩
theorem rI(a:OA)(n c:Nat)(b:OA)(m d:Nat)  (Inv:Nat->Nat->Nat->OA->Nat->Nat->Heap->Prop)(Q:VH)(step:∀ (mz:Nat)(k:Nat)(cc:Nat)(r:OA)(rn:Nat)(rc:Nat)  (zz:Nat->Value)(h:Heap),Inv mz k cc r rn rc h->xQ a n c b m d Inv Q mz k cc r rn rc  zz h)(mz:Nat){k:Nat}{cc:Nat}{r:OA}{rn:Nat}{rc:Nat}  {h:Heap}(hi:Inv mz k cc r rn rc h):CZ [1,1,1,0,1,0,0] (iq a n c b m d k cc r rn rc )h(CL [1,1,1,0,1,0] [] (C3 Q)):=
 aq(A:=(eL a n c b m d Inv))(show aG Tryz.f156.ntmps(aQ [1,1,1,0,1,0,0] fI)=true by kernel_rfl)(fun mz w zz h⟨k,cc,r,rn,rc,hw,hi⟩=> by subst hw; exact aj(step mz k cc r rn rc  zz h hi)(by kernel_rfl))mz _ h⟨k,cc,r,rn,rc,rfl,hi⟩(fun zz=>by kernel_rfl)(by kernel_rfl)
noncomputable def ek:Code:=(Tryz.f154.body).getD .skip
noncomputable def lW(Q:VH):ak:=cF SS Tryz.f154.results.toList Q
def wp:List Nat:=[0,3,4,5]
noncomputable def lK(p:List Nat)(w:LV)(h:Heap)(Q:ak):Prop:=bq SS Tryz.f154.ntmps wp(aQ p ek)w h Q
noncomputable def lI(p b:List Nat)(K:ak):ak:=ko SS Tryz.f154.ntmps wp p(aQ b ek)K
abbrev Mk(a:OA)(n c:Nat)(h:Heap)(Q:VH):Prop:=lK [1,1,0,0,0] [(.slice a n c),(iA n),undef,undef] h(lI [1,1,0,0] [] (lW Q))
theorem Kc(a:OA)(n c:Nat)(h:Heap)(Q:VH)(hx:Mk a n c h Q):FW SS 154 [(.slice a n c)] h Q:=ay(M:=wp)(c:=ek)Tryz.func154(show Tryz.f154.body=some ek by kernel_rfl)(by kernel_rfl)(aj hx(by kernel_rfl))
abbrev ix(a:OA)(n c:Nat)  (z:Int)(y4 y5:Value):LV:=[(.slice a n c),(.int .i64 z),y4,y5]
def iy(a:OA)(n c:Nat)  (Inv:Nat->Int->Heap->Prop)(mz:Nat)(w:LV)(h:Heap):Prop:= ∃ (z:Int)(y4 y5:Value),w=(ix a n c z y4 y5)/\Inv mz z h
abbrev yl(a:OA)(n c:Nat)  (Inv:Nat->Int->Heap->Prop)(Q:VH)(mz:Nat)(z:Int)(y4 y5:Value)(zz:Nat->Value)(h:Heap):Prop:=ax(decide((z:Int) > 1))(xP(ag SS.P 48(.slice a n c)(.int .i64(IntKind.wrap .i64(z - 1))))fun p1=>xI .i64(ai SS.P 3 h(.pointer(some p1)))fun n2=>ax(((n2:Int) == 0))(al(iy a n c Inv)mz [(.slice a n c),(.int .i64(IntKind.wrap .i64(z - 1))),y4,y5] h)(lK [1,1,1,1,0,1,0,0] [(.slice a n c),(.int .i64 z),nA,(.int .i64(IntKind.wrap .i64(z - 1)))] h(lI [1,1,1,1,0,1,0] [] (lW Q))))(lK [1,1,1,1,0,1,0,0] [(.slice a n c),(.int .i64 z),nA,(.int .i64(IntKind.wrap .i64(z - 1)))] h(lI [1,1,1,1,0,1,0] [] (lW Q)))
theorem rj {a:OA}{n c:Nat}  {Inv:Nat->Int->Heap->Prop}{mz:Nat}(mq:Nat){z:Int}{y4 y5:Value}{h:Heap}(hm:mq < mz)(hi:Inv mq z h):al(iy a n c Inv)mz(ix a n c z y4 y5)h :=⟨mq,hm,z,y4,y5,rfl,hi⟩
theorem rF(a:OA)(n c:Nat)  (Inv:Nat->Int->Heap->Prop)(Q:VH)(step:∀ (mz:Nat)(z:Int)(y4 y5:Value)(zz:Nat->Value)(h:Heap),Inv mz z h->yl a n c Inv Q mz z y4 y5 zz h)(mz:Nat){z:Int}{y4 y5:Value}{h:Heap}(hi:Inv mz z h):lK [1,1,0,0,0] (ix a n c z y4 y5)h(lI [1,1,0,0] [] (lW Q)):=
 aq(A:=(iy a n c Inv))(show aG Tryz.f154.ntmps(aQ [1,1,0,0,0] ek)=true by kernel_rfl)(fun mz w zz h⟨z,y4,y5,hw,hi⟩=> by subst hw; exact aj(step mz z y4 y5 zz h hi)(by kernel_rfl))mz _ h⟨z,y4,y5,rfl,hi⟩(fun zz=>by kernel_rfl)(by kernel_rfl)
abbrev iC(a:OA)(n c:Nat)  (i:Int)(r:OA)(rn:Nat)(rc:Nat)(y3:Value):LV:=[(.slice a n c),y3,(.slice r rn rc),(.int .i64 i)]
def iG(a:OA)(n c:Nat)  (Inv:Nat->Int->OA->Nat->Nat->Heap->Prop)(mz:Nat)(w:LV)(h:Heap):Prop:= ∃ (i:Int)(r:OA)(rn:Nat)(rc:Nat)(y3:Value),w=(iC a n c i r rn rc y3)/\Inv mz i r rn rc h
abbrev ym(a:OA)(n c:Nat)  (Inv:Nat->Int->OA->Nat->Nat->Heap->Prop)(Q:VH)(mz:Nat)(i:Int)(r:OA)(rn:Nat)(rc:Nat)(y3:Value)(zz:Nat->Value)(h:Heap):Prop:=ax(decide((i:Int)>=0))(xP(ag SS.P 48(.slice a n c)(.int .i64 i))fun p3=>xI .i64(ai SS.P 3 h(.pointer(some p3)))fun n4=>xR(az SS.P 157 1 [(0,(.int .u8(IntKind.wrap .u8(IntKind.wrap .i64(48 + n4)))))])h fun B5 n6 c7 g8=>xE(aC SS.P 157 157(.slice r rn rc)(sA(h.next)n6 c7)g8)g8 fun a9 n10 c11 u12 g13=>al(iG a n c Inv)mz [(.slice a n c),y3,(.slice a9 n10 c11),(.int .i64(IntKind.wrap .i64(i - 1)))] g13)(ax((((rn:Int):Int) == 0))(Q(aa [48])h)(xS(xw SS.P 157 9(.slice r rn rc)h)fun l14=>Q(aa l14)h))
theorem ri {a:OA}{n c:Nat}  {Inv:Nat->Int->OA->Nat->Nat->Heap->Prop}{mz:Nat}(mq:Nat){i:Int}{r:OA}{rn:Nat}{rc:Nat}{y3:Value}{h:Heap}(hm:mq < mz)(hi:Inv mq i r rn rc h):al(iG a n c Inv)mz(iC a n c i r rn rc y3)h :=⟨mq,hm,i,r,rn,rc,y3,rfl,hi⟩
theorem sh(a:OA)(n c:Nat)  (Inv:Nat->Int->OA->Nat->Nat->Heap->Prop)(Q:VH)(step:∀ (mz:Nat)(i:Int)(r:OA)(rn:Nat)(rc:Nat)(y3:Value)(zz:Nat->Value)(h:Heap),Inv mz i r rn rc h->ym a n c Inv Q mz i r rn rc y3 zz h)(mz:Nat){i:Int}{r:OA}{rn:Nat}{rc:Nat}{y3:Value}{h:Heap}(hi:Inv mz i r rn rc h):lK [1,1,1,1,0,1,0,0] (iC a n c i r rn rc y3)h(lI [1,1,1,1,0,1,0] [] (lW Q)):=
 aq(A:=(iG a n c Inv))(show aG Tryz.f154.ntmps(aQ [1,1,1,1,0,1,0,0] ek)=true by kernel_rfl)(fun mz w zz h⟨i,r,rn,rc,y3,hw,hi⟩=> by subst hw; exact aj(step mz i r rn rc y3 zz h hi)(by kernel_rfl))mz _ h⟨i,r,rn,rc,y3,rfl,hi⟩(fun zz=>by kernel_rfl)(by kernel_rfl)
end Go.Proofs.YtoabjjimjldcfaaGreatDoor
end
section
namespace Go.Num
def subL(B q:Nat)(u v:List Nat):Nat->Nat->Nat->Nat->List Nat × Nat × Nat
 | _,0,b,c=>([],b,c)
 | i,k + 1,b,c =>
  let s:=qt B q(u.getD i 0)(v.getD i 0)b c
  let r:=subL B q u v(i + 1)k s.2.1 s.2.2
  (s.1 :: r.1,r.2)
theorem subL_len(B q:Nat)(u v:List Nat):∀ k i b c,(subL B q u v i k b c).1.length=k
 | 0,_,_,_=>rfl
 | k + 1,i,b,c=>by simp [subL,subL_len B q u v k]
theorem subL_lt {B q:Nat}(hB:1 < B)(u v:List Nat):∀ k i b c,∀ d∈(subL B q u v i k b c).1,d < B
 | 0,_,_,_=>by simp [subL]
 | k + 1,i,b,c=>by
  intro d hd
  simp af [subL] at hd
  rcases List.mem_cons.1 hd with rfl | hd
  · exact Nat.mod_lt _(by omega)
  · exact subL_lt hB u v k _ _ _ d hd
theorem uG(b:Nat)(x:List Nat)(i k:Nat):bv b((x.drop i).take(k + 1))=x.getD i 0 + b * bv b((x.drop(i + 1)).take k):=by
 rcases Nat.lt_or_ge i x.length with h | h
 · rw [List.drop_eq_getElem_cons h,List.take_succ_cons,bv,List.getD_eq_getElem?_getD,List.getElem?_eq_getElem h]; rfl
 · rw [List.drop_eq_nil_of_le h,List.drop_eq_nil_of_le(by omega),List.getD_eq_getElem?_getD,List.getElem?_eq_none h]; simp [bv]
theorem Eg {B q:Nat}(hB:1 < B){u v:List Nat}(hu:∀ d∈u,d < B):∀ k i b c,b<=1->
  bv B((u.drop i).take k) + B ^ k * ((subL B q u v i k b c).2.1 + (subL B q u v i k b c).2.2)=bv B(subL B q u v i k b c).1 + q * bv B((v.drop i).take k) + (b + c)/\(subL B q u v i k b c).2.1<=1
 | 0,i,b,c,hb=>by simp [subL,bv,hb]
 | k + 1,i,b,c,hb=>by
  obtain⟨s1,s2,s3⟩:=Oa(B:=B)(q:=q)(u:=u.getD i 0)(v:=v.getD i 0)(borrow:=b)(carry:=c)hB(getD_lt(by omega)hu i)hb
  obtain⟨ih,ih2⟩:=Eg hB(q:=q)(v:=v)hu k(i + 1)_(qt B q(u.getD i 0)(v.getD i 0)b c).2.2 s2
  rw [uG,uG]
  simp af [subL,bv]
  refine⟨?_,ih2⟩
  have e:=congrArg(B * ·)ih
  simp af [Nat.mul_add] at e s1 ⊢
  have e1:∀ z,B ^ (k + 1) * z=B * (B ^ k * z):=fun z=>by rw [Nat.pow_succ,Nat.mul_comm(B ^ k),Nat.mul_assoc]
  have e2:q * (B * bv B((v.drop(i + 1)).take k))=B * (q * bv B((v.drop(i + 1)).take k)):=by rw [Nat.mul_left_comm]
  rw [e1,e1,e2]
  omega
theorem B6 {B:Nat}{l:List Nat}{n:Nat}(h:l.length=n):bv B(l.take n)=bv B l:=by rw [List.take_of_length_le(by omega)]
theorem Mt {B q:Nat}(hB:1 < B){u v:List Nat}{n:Nat}(hu:∀ d∈u,d < B)(hul:u.length=n + 1)(hvl:v.length=n) :
  (subL B q u v 0(n + 1)0 0).2.2=0->((subL B q u v 0(n + 1)0 0).2.1=0->bv B u=bv B(subL B q u v 0(n + 1)0 0).1 + q * bv B v)/\
  ((subL B q u v 0(n + 1)0 0).2.1≠0->bv B u + B ^ (n + 1)=bv B(subL B q u v 0(n + 1)0 0).1 + q * bv B v/\bv B u < q * bv B v):=by
 intro hc
 obtain⟨e,hb⟩:=Eg hB(q:=q)(v:=v)hu(n + 1)0 0 0(by omega)
 rw [List.drop_zero,List.drop_zero,B6 hul,List.take_of_length_le(by omega:v.length<=n + 1),hc] at e
 refine⟨fun h0=>?_,fun h0=>?_⟩
 · rw [h0] at e; omega
 · have hb1:(subL B q u v 0(n + 1)0 0).2.1=1:=by omega
  rw [hb1,Nat.mul_one] at e
  have hlt:=bv_lt(subL_lt(q:=q)hB u v(n + 1)0 0 0)
  rw [subL_len] at hlt
  omega
theorem AK {B q:Nat}(hB:1 < B){u v:List Nat}(hq:q < B)(hv:∀ d∈v,d < B):∀ k i b c,c < B->v.length<=i + k->0 < k->v.length < i + k->(subL B q u v i k b c).2.2=0
 | 0,_,_,_,_,_,h,_=>by omega
 | 1,i,b,c,hc,_,_,hl=>by
  simp af [subL,qt]
  have:v.getD i 0=0:=by rw [List.getD_eq_getElem?_getD,List.getElem?_eq_none(by omega)]; rfl
  rw [this,Nat.mul_zero,Nat.zero_add]
  exact Nat.div_eq_of_lt hc
 | k + 2,i,b,c,hc,_,_,hl=>by
  have h2:=getD_lt(by omega)hv i
  simp af [subL]
  have:=AK hB(u:=u)hq hv(k + 1)(i + 1)(qt B q(u.getD i 0)(v.getD i 0)b c).2.1(qt B q(u.getD i 0)(v.getD i 0)b c).2.2(by
   show(q * v.getD i 0 + c) / B < B
   refine Nat.div_lt_of_lt_mul ?_
   have h3:q * v.getD i 0<=(B - 1) * (B - 1):=Nat.mul_le_mul(by omega)(by omega)
   have h4:(B - 1) * (B - 1) + (B - 1)=(B - 1) * B:=by rw [<- Nat.mul_succ]; congr 1; omega
   have h5:(B - 1) * B + B=B * B:=by rw [<- Nat.succ_mul]; congr 1; omega
   omega)(by omega)(by omega)(by omega)
  simpa af [subL] using this
theorem OZ {B:Nat}(hB:1 < B){u v:List Nat}{n Q V U:Nat}(hu:∀ d∈u,d < B)(hv:∀ d∈v,d < B)(hul:u.length=n + 1)(hvl:v.length=n)(h1:U + B ^ (n + 1)=bv B u + (Q + 1) * V)(h2:U < (Q + 1) * V)(h3:(Q + 1) * V < U + V)(hV:V=bv B v) :
  bv B((eachF(plusF B)u v 0(n + 1)0)) + Q * V=U:=by
 have hs:=plus_bv hB(x:=u)(y:=v)hu hv(n + 2)0 0(by omega)(by omega)(by omega)(by omega)
 simp af [List.drop_zero,Nat.add_zero] at hs
 have split:∀ k i c,eachF(plusF B)u v i(k + 1)c=eachF(plusF B)u v i k c ++ (eachF(plusF B)u v i(k + 1)c).drop k:=by
  intro k
  induction k with
  | zero=>intro i c; simp [eachF]
  | succ k ih =>
   intro i c
   have:=ih(i + 1)(plusF B(u.getD i 0)(v.getD i 0)c).2
   show _ :: eachF(plusF B)u v(i + 1)(k + 1)_=(_ :: eachF(plusF B)u v(i + 1)k _) ++ (_ :: eachF(plusF B)u v(i + 1)(k + 1)_).drop(k + 1)
   rw [List.cons_append,List.drop_succ_cons]
   exact congrArg _ this
 rw [split(n + 1)0 0,ee,eachF_len] at hs
 have hlt:=bv_lt(eachF_lt(b:=B)(F:=plusF B)(fun p q c=>Nat.mod_lt _(by omega))u v(n + 1)0 0)
 rw [eachF_len] at hlt
 rw [Nat.add_mul,Nat.one_mul] at h1 h2 h3
 have hul':=bv_lt hu
 rw [hul] at hul'
 have hvl':=bv_lt hv
 rw [hvl] at hvl'
 have hpow:B ^ n<=B ^ (n + 1):=Nat.pow_le_pow_right(by omega)(by omega)
 have key:bv B((eachF(plusF B)u v 0(n + 1 + 1)0).drop(n + 1))=1:=by
  generalize bv B((eachF(plusF B)u v 0(n + 1 + 1)0).drop(n + 1))=z at hs
  rcases Nat.lt_trichotomy z 1 with hz | hz | hz
  · have:z=0:=by omega
   subst this
   rw [Nat.mul_zero] at hs
   omega
  · exact hz
  · have:=Nat.mul_le_mul_left(B ^ (n + 1))hz
   rw [Nat.mul_succ,Nat.mul_one] at this
   omega
 rw [key,Nat.mul_one] at hs
 omega
end Go.Num
end
section
namespace Go.Num
theorem I3 {B:Nat} : ∀ (l:List Nat)(i d:Nat),i < l.length->bv B(l.set i d) + B ^ i * l.getD i 0=bv B l + B ^ i * d
 | [],i,d,h=>by simp at h
 | a :: l,0,d,_=>by simp [bv]; omega
 | a :: l,i + 1,d,h=>by
  have ih:=congrArg(B * ·)(I3(B:=B)l i d(by simpa using h))
  simp af [List.set_cons_succ,bv,List.getD_cons_succ,Nat.pow_succ,Nat.mul_add] at ih ⊢
  have e:∀ z,B ^ i * B * z=B * (B ^ i * z):=fun z=>by rw [Nat.mul_comm(B ^ i),Nat.mul_assoc]
  rw [e,e]; omega
theorem P1 {B:Nat}{l:List Nat}(h:∀ d∈l,d < B){i d:Nat}(hd:d < B):∀ x∈l.set i d,x < B:=fun x hx=>by
 rcases List.mem_or_eq_of_mem_set hx with h1 | h1
 · exact h x h1
 · rw [h1]; exact hd
theorem nJ {B n:Nat}(_:1 < B):∀ {l:List Nat},bv B l < B ^ n->bv B(l.drop n)=0
 | l,h=>by
  rcases Nat.lt_or_ge n l.length with h1 | h1
  · have e:=ee B(l.take n)(l.drop n)
   rw [List.take_append_drop,List.length_take,Nat.min_eq_left(by omega)] at e
   rcases Nat.eq_zero_or_pos(bv B(l.drop n)) with h2 | h2
   · exact h2
   · have:=Nat.mul_le_mul_left(B ^ n)h2
    rw [Nat.mul_one] at this
    omega
  · rw [List.drop_eq_nil_of_le h1]; rfl
theorem zp(B:Nat)(l:List Nat)(n:Nat):bv B l=bv B(l.take n) + B ^ (min n l.length) * bv B(l.drop n):=by
 have e:=ee B(l.take n)(l.drop n)
 rwa [List.take_append_drop,List.length_take] at e
structure DivInv(B n V XK:Nat)(u q:List Nat)(j:Nat):Prop where
 ul:∀ d∈u,d < B
 ql:∀ d∈q,d < B
 len:u.length=q.length + n
 jle:j<=q.length
 lo:bv B(u.drop j) < V
 eq:XK=bv B u + V * bv B q
 qz:∀ i,i < j->q.getD i 0=0
theorem DivInv.window {B n V XK:Nat}{u q:List Nat}{at' : Nat}(hB:1 < B)(hV:V<=B ^ n)(h:DivInv B n V XK u q(at' + 1)) :
  bv B((u.drop at').take(n + 1))=bv B(u.drop at')/\bv B((u.drop at').take(n + 1)) < B * V/\((u.drop at').take(n + 1)).length=n + 1:=by
 have hl:=h.len
 have hj:=h.jle
 have h1:bv B(u.drop at')=u.getD at' 0 + B * bv B(u.drop(at' + 1)):=bv_drop B u at'
 have h2:=getD_lt(by omega)h.ul at'
 have h3:=h.lo
 have h4:bv B(u.drop at') < B * V:=by
  have:=Nat.mul_le_mul_left B(Nat.succ_le_of_lt h3)
  rw [Nat.mul_succ] at this
  omega
 have h5:bv B((u.drop at').drop(n + 1))=0:=by
  refine nJ hB(Nat.lt_of_lt_of_le h4 ?_)
  rw [Nat.pow_succ,Nat.mul_comm]
  exact Nat.mul_le_mul_right B hV
 have h6:=zp B(u.drop at')(n + 1)
 rw [h5,Nat.mul_zero,Nat.add_zero] at h6
 refine⟨h6.symm,by omega,?_⟩
 rw [List.length_take,List.length_drop]; omega
theorem DivInv.step {B n V XK:Nat}{u q w:List Nat}{at' d:Nat}(hB:1 < B)(hV:V<=B ^ n)(h:DivInv B n V XK u q(at' + 1))(hw:∀ x∈w,x < B)(hwl:w.length=n + 1)(hd:d < B)
  (he:bv B((u.drop at').take(n + 1))=bv B w + d * V)(hlt:bv B w < V):DivInv B n V XK(u.take at' ++ w ++ u.drop(at' + (n + 1)))(q.set at' d) at':=by
 have hl:=h.len
 have hj:=h.jle
 obtain⟨w1,w2,w3⟩:=h.window hB hV
 have hz:bv B(u.drop(at' + (n + 1)))=0:=by
  rw [<- List.drop_drop]
  refine nJ hB ?_
  rw [<- w1]
  refine Nat.lt_of_lt_of_le w2 ?_
  rw [Nat.pow_succ,Nat.mul_comm]
  exact Nat.mul_le_mul_right B hV
 have htl:(u.take at').length=at':=by rw [List.length_take]; omega
 have hdrop:(u.take at' ++ w ++ u.drop(at' + (n + 1))).drop at' = w ++ u.drop(at' + (n + 1)):=by
  rw [List.append_assoc,List.drop_append_of_le_length(by omega),List.drop_of_length_le(by omega),List.nil_append]
 refine⟨?_,P1 h.ql hd,?_,by rw [List.length_set]; omega,?_,?_,?_⟩
 · intro x hx
  simp af [List.mem_append] at hx
  rcases hx with(hx | hx) | hx
  · exact h.ul x(List.mem_of_mem_take hx)
  · exact hw x hx
  · exact h.ul x(List.mem_of_mem_drop hx)
 · rw [List.length_append,List.length_append,htl,hwl,List.length_drop,List.length_set]; omega
 · rw [hdrop,ee,hz,Nat.mul_zero,Nat.add_zero]; exact hlt
 · have e1:=ee B(u.take at')(u.drop at')
  rw [List.take_append_drop,htl,<- w1,he] at e1
  have e2:bv B(u.take at' ++ w ++ u.drop(at' + (n + 1)))=bv B(u.take at') + B ^ at' * bv B w:=by
   rw [List.append_assoc,ee,ee,hz,htl,Nat.mul_zero,Nat.add_zero]
  have e3:=I3(B:=B)q at' d(by omega)
  rw [h.qz at' (by omega),Nat.mul_zero,Nat.add_zero] at e3
  rw [h.eq,e1,e2,e3,Nat.mul_add,Nat.mul_add]
  have e4:B ^ at' * (d * V)=V * (B ^ at' * d):=by rw [Nat.mul_comm V,Nat.mul_assoc]
  omega
 · intro i hi
  have:=h.qz i(by omega)
  rw [List.getD_eq_getElem?_getD] at this ⊢
  rw [List.getElem?_set_ne(by omega)]
  exact this
theorem DivInv.done {B n V XK:Nat}{u q:List Nat}(h:DivInv B n V XK u q 0):bv B q=XK / V/\bv B u=XK % V:=by
 have h1:=h.lo
 rw [List.drop_zero] at h1
 rw [h.eq]
 constructor
 · rw [Nat.add_comm,Nat.mul_add_div(by omega),Nat.div_eq_of_lt h1]; rfl
 · rw [Nat.add_comm,Nat.mul_add_mod,Nat.mod_eq_of_lt h1]
theorem DivInv.start {B n m k X Y:Nat}{u:List Nat}(hB:1 < B)(hu:∀ d∈u,d < B)(hul:u.length=m + 1)(hn:n<=m)(hX:X < B ^ m)(hY:B ^ (n - 1)<=Y)(hn0:0 < n)(hk:0 < k)(he:bv B u=X * k):DivInv B n(Y * k)(X * k)u(List.replicate(m + 1 - n)0)(m + 1 - n):=by
 refine⟨hu,fun d hd=>by rw [(List.mem_replicate.1 hd).2]; omega,by rw [List.length_replicate]; omega,by rw [List.length_replicate]; exact Nat.le_refl _,?_,?_,fun i hi=>?_⟩
 · have h1:=zp B u(m + 1 - n)
  rw [he,Nat.min_eq_left(by omega)] at h1
  rcases Nat.lt_or_ge(bv B(u.drop(m + 1 - n)))(Y * k) with h2 | h2
  · exact h2
  · have h3:=Nat.mul_le_mul_left(B ^ (m + 1 - n))h2
   have h4:B ^ m * k<=B ^ (m + 1 - n) * (Y * k):=by
    have e:B ^ m=B ^ (m + 1 - n) * B ^ (n - 1):=by rw [<- Nat.pow_add]; congr 1; omega
    rw [e,Nat.mul_assoc]
    exact Nat.mul_le_mul_left _(Nat.mul_le_mul_right k hY)
   have h5:X * k < B ^ m * k:=Nat.mul_lt_mul_of_pos_right hX hk
   omega
 · have:bv B(List.replicate(m + 1 - n)0)=0:=by
   induction(m + 1 - n) with
   | zero=>rfl
   | succ j ih=>rw [List.replicate_succ,bv,ih]; rfl
  rw [this,he,Nat.mul_zero,Nat.add_zero]
 · rw [List.getD_eq_getElem?_getD,List.getElem?_replicate]; split <;> rfl
theorem mul_div_mul_k {X Y k:Nat}(hk:0 < k):X * k / (Y * k)=X / Y/\X * k % (Y * k)=X % Y * k:=
 ⟨Nat.mul_div_mul_right X Y hk,Nat.mul_mod_mul_right k X Y⟩
theorem GE {B k bH a:Nat}(hk:0 < k)(hl:bH < k)(ha:a < B):(bH * B + a) / k < B/\(bH * B + a) % k < k/\(bH * B + a) / k * k + (bH * B + a) % k=bH * B + a:=by
 refine⟨Nat.div_lt_of_lt_mul ?_,Nat.mod_lt _ hk,by rw [Nat.mul_comm]; exact Nat.div_add_mod _ _⟩
 have:=Nat.mul_le_mul_right B(Nat.succ_le_of_lt hl)
 rw [Nat.succ_mul] at this
 omega
structure SmallInv(B k R:Nat)(r:List Nat)(j bH:Nat):Prop where
 rl:∀ d∈r,d < B
 jle:j<=r.length
 lt:bH < k
 eq:bv B(r.drop j) * k * B ^ j + bH * B ^ j + bv B(r.take j)=R
theorem SmallInv.step {B k R:Nat}{r:List Nat}{at' bH:Nat}(hk:0 < k)(h:SmallInv B k R r(at' + 1)bH):SmallInv B k R(r.set at' ((bH * B + r.getD at' 0) / k)) at' ((bH * B + r.getD at' 0) % k):=by
 have hj:=h.jle
 have hB:0 < B:=by
  have:=h.rl(r.getD at' 0)(by
   rw [List.getD_eq_getElem?_getD,List.getElem?_eq_getElem(by omega)]
   exact List.getElem_mem _)
  omega
 obtain⟨s1,s2,s3⟩:=GE(B:=B)hk h.lt(getD_lt hB h.rl at')
 refine⟨P1 h.rl s1,by rw [List.length_set]; omega,s2,?_⟩
 rw [List.take_set_of_le(by omega),bv_drop,List.drop_set_of_lt(by omega)]
 have e1:(r.set at' ((bH * B + r.getD at' 0) / k)).getD at' 0=(bH * B + r.getD at' 0) / k:=by
  rw [List.getD_eq_getElem?_getD,List.getElem?_set_self(by omega)]; rfl
 rw [e1,<- h.eq]
 have e2:bv B(r.take(at' + 1))=bv B(r.take at') + B ^ at' * r.getD at' 0:=by
  rw [List.take_succ_eq_append_getElem(by omega),bv_snoc,List.length_take,Nat.min_eq_left(by omega),List.getD_eq_getElem?_getD,List.getElem?_eq_getElem(by omega)]; rfl
 rw [e2,Nat.pow_succ]
 generalize bv B(r.drop(at' + 1))=D at *
 generalize r.getD at' 0=a at *
 generalize(bH * B + a) / k=dq at *
 generalize(bH * B + a) % k=dr at *
 have g1:(dq + B * D) * k * B ^ at' = dq * k * B ^ at' + D * k * (B ^ at' * B):=by
  rw [Nat.add_mul,Nat.add_mul]
  congr 1
  rw [Nat.mul_comm B D,Nat.mul_assoc D B k,Nat.mul_comm B k,<- Nat.mul_assoc,Nat.mul_assoc(D * k)B,Nat.mul_comm B(B ^ at')]
 have g2:dq * k * B ^ at' + dr * B ^ at' = bH * (B ^ at' * B) + a * B ^ at':=by
  rw [<- Nat.add_mul,s3,Nat.add_mul,Nat.mul_assoc,Nat.mul_comm B]
 rw [g1,Nat.mul_comm(B ^ at')a]
 omega
theorem SmallInv.done {B k R:Nat}{r:List Nat}{bH:Nat}(hk:0 < k)(h:SmallInv B k R r 0 bH):bv B r=R / k:=by
 have e:=h.eq
 simp af [List.drop_zero,Nat.pow_zero,Nat.mul_one,List.take_zero,bv,Nat.add_zero] at e
 rw [<- e,Nat.mul_comm,Nat.mul_add_div hk,Nat.div_eq_of_lt h.lt]; rfl
end Go.Num
end
section
namespace Go.Num
theorem sV(B:Nat)(l:List Nat)(i:Nat)(h:i<=l.length):bv B l=bv B(l.take i) + B ^ i * bv B(l.drop i):=by
 have:=zp B l i
 rwa [Nat.min_eq_left h] at this
theorem iL {B:Nat}{l:List Nat}{i:Nat}(h:l.length=i + 1):bv B(l.drop i)=l.getD i 0:=by
 rw [bv_drop,List.drop_eq_nil_of_le(by omega)]; rfl
theorem gY {B:Nat}{l:List Nat}{i:Nat}(h:l.length=i + 2):bv B(l.drop i)=l.getD(i + 1)0 * B + l.getD i 0:=by
 rw [bv_drop,iL(by omega),Nat.mul_comm]; omega
theorem qD {B:Nat}{l:List Nat}{i:Nat}(h:l.length=i + 3):bv B(l.drop i)=(l.getD(i + 2)0 * B + l.getD(i + 1)0) * B + l.getD i 0:=by
 rw [bv_drop,gY(by omega),Nat.mul_comm B,show i + 1 + 1=i + 2 by omega]; omega
structure Trial(B n:Nat)(u v:List Nat)(q rest:Nat):Prop where
 eq:q * v.getD(n - 1)0 + rest=u.getD n 0 * B + u.getD(n - 1)0
 hi:bv B u < (q + 1) * bv B v
section
variable {B n:Nat}{u v:List Nat}{q rest:Nat}
theorem Trial.start(hB:1 < B)(hul:u.length=n + 1)(hvl:v.length=n)(hn:0 < n)(hu:∀ d∈u,d < B)(h0:0 < v.getD(n - 1)0):Trial B n u v((u.getD n 0 * B + u.getD(n - 1)0) / v.getD(n - 1)0)((u.getD n 0 * B + u.getD(n - 1)0) % v.getD(n - 1)0):=by
 refine⟨by rw [Nat.mul_comm]; exact Nat.div_add_mod _ _,?_⟩
 have h1:=sV B u(n - 1)(by omega)
 have h2:=sV B v(n - 1)(by omega)
 have e1:bv B(u.drop(n - 1))=u.getD n 0 * B + u.getD(n - 1)0:=by
  have:=gY(B:=B)(l:=u)(i:=n - 1)(by omega)
  rwa [show n - 1 + 1=n by omega] at this
 rw [iL(by omega)] at h2
 rw [e1] at h1
 rw [h1,h2]
 have h3:=bv_lt(b:=B)(x:=u.take(n - 1))(fun d hd=>hu d(List.mem_of_mem_take hd))
 rw [List.length_take,Nat.min_eq_left(by omega)] at h3
 generalize u.getD n 0 * B + u.getD(n - 1)0=top
 generalize v.getD(n - 1)0=v1 at h0 ⊢
 have h4:top < (top / v1 + 1) * v1:=by
  have:=Nat.div_add_mod top v1
  have:=Nat.mod_lt top h0
  rw [Nat.add_mul,Nat.one_mul,Nat.mul_comm]; omega
 have h5:=Nat.mul_le_mul_left(B ^ (n - 1))(Nat.succ_le_of_lt h4)
 rw [Nat.mul_succ] at h5
 rw [Nat.mul_add]
 have e:(top / v1 + 1) * (B ^ (n - 1) * v1)=B ^ (n - 1) * ((top / v1 + 1) * v1):=Nat.mul_left_comm _ _ _
 omega
theorem Trial.lower(hq:bv B u < q * bv B v)(h:Trial B n u v q rest):Trial B n u v(q - 1)(rest + v.getD(n - 1)0):=by
 have hq0:0 < q:=by
  rcases Nat.eq_zero_or_pos q with h1 | h1
  · subst h1; rw [Nat.zero_mul] at hq; omega
  · exact h1
 obtain⟨p,rfl⟩: ∃ p,q=p + 1 :=⟨q - 1,by omega⟩
 refine⟨?_,by simpa using hq⟩
 have:=h.eq
 rw [Nat.add_mul,Nat.one_mul] at this
 rw [Nat.add_sub_cancel]; omega
theorem Trial.great(hU:bv B u < B * bv B v)(hq:B<=q):bv B u < q * bv B v:=Nat.lt_of_lt_of_le hU(Nat.mul_le_mul_right _ hq)
theorem Trial.second(hul:u.length=n + 1)(hvl:v.length=n)(hn:1 < n)(hu:∀ d∈u,d < B)(h:Trial B n u v q rest)(hs:rest * B + u.getD(n - 2)0 < q * v.getD(n - 2)0):bv B u < q * bv B v:=by
 have h1:=sV B u(n - 2)(by omega)
 have h2:=sV B v(n - 2)(by omega)
 have e1:bv B(u.drop(n - 2))=(u.getD n 0 * B + u.getD(n - 1)0) * B + u.getD(n - 2)0:=by
  have:=qD(B:=B)(l:=u)(i:=n - 2)(by omega)
  rwa [show n - 2 + 1=n - 1 by omega,show n - 2 + 2=n by omega] at this
 have e2:bv B(v.drop(n - 2))=v.getD(n - 1)0 * B + v.getD(n - 2)0:=by
  have:=gY(B:=B)(l:=v)(i:=n - 2)(by omega)
  rwa [show n - 2 + 1=n - 1 by omega] at this
 rw [e1,Nat.add_comm,Nat.mul_comm] at h1
 rw [e2,Nat.add_comm,Nat.mul_comm] at h2
 have h3:=bv_lt(b:=B)(x:=u.take(n - 2))(fun d hd=>hu d(List.mem_of_mem_take hd))
 rw [List.length_take,Nat.min_eq_left(by omega)] at h3
 exact M9 h1 h3 h2 h.eq hs
theorem Trial.last(hB:1 < B)(hul:u.length=n + 1)(hvl:v.length=n)(hn:0 < n)(hv:∀ d∈v,d < B)(h0:0 < v.getD(n - 1)0)(h:Trial B n u v q rest)(hq:q < B)(hs:1 < n->q * v.getD(n - 2)0<=rest * B + u.getD(n - 2)0):q * bv B v < bv B u + bv B v:=by
 rcases Nat.lt_or_ge 1 n with h1 | h1
 · have h3:=sV B u(n - 2)(by omega)
  have h4:=sV B v(n - 2)(by omega)
  have e1:bv B(u.drop(n - 2))=(u.getD n 0 * B + u.getD(n - 1)0) * B + u.getD(n - 2)0:=by
   have:=qD(B:=B)(l:=u)(i:=n - 2)(by omega)
   rwa [show n - 2 + 1=n - 1 by omega,show n - 2 + 2=n by omega] at this
  have e2:bv B(v.drop(n - 2))=v.getD(n - 1)0 * B + v.getD(n - 2)0:=by
   have:=gY(B:=B)(l:=v)(i:=n - 2)(by omega)
   rwa [show n - 2 + 1=n - 1 by omega] at this
  rw [e1,Nat.add_comm,Nat.mul_comm] at h3
  rw [e2,Nat.add_comm,Nat.mul_comm] at h4
  have h5:=bv_lt(b:=B)(x:=v.take(n - 2))(fun d hd=>hv d(List.mem_of_mem_take hd))
  rw [List.length_take,Nat.min_eq_left(by omega)] at h5
  exact I7 h3 h4 h5 h.eq hq h0(hs h1)
 · obtain rfl:n=1:=by omega
  have e1:=gY(B:=B)(l:=u)(i:=0)(by omega)
  have e2:=iL(B:=B)(l:=v)(i:=0)(by omega)
  rw [List.drop_zero] at e1 e2
  have:=h.eq
  rw [e1,e2]
  simp af [Nat.zero_add,Nat.sub_self] at this h0 ⊢
  omega
theorem trial_broke(hq:q < B){v2 u2:Nat}(hv:v2 < B)(hr:B<=rest):q * v2<=rest * B + u2:=by
 have h1:q * v2<=B * B:=Nat.mul_le_mul(by omega)(by omega)
 have h2:B * B<=rest * B:=Nat.mul_le_mul_right B hr
 omega
end
theorem digit_done {B q n:Nat}(hB:1 < B){u v:List Nat}(hu:∀ d∈u,d < B)(hv:∀ d∈v,d < B)(hul:u.length=n + 1)(hvl:v.length=n)(hq:q < B)(h1:bv B u < (q + 1) * bv B v)(h2:q * bv B v < bv B u + bv B v) :
  (subL B q u v 0(n + 1)0 0).2.2=0/\
  ((subL B q u v 0(n + 1)0 0).2.1=0->q=bv B u / bv B v/\bv B(subL B q u v 0(n + 1)0 0).1=bv B u % bv B v)/\
  ((subL B q u v 0(n + 1)0 0).2.1≠0->0 < q/\q - 1=bv B u / bv B v/\bv B(eachF(plusF B)(subL B q u v 0(n + 1)0 0).1 v 0(n + 1)0)=bv B u % bv B v):=by
 have hc:=AK hB(u:=u)hq hv(n + 1)0 0 0(by omega)(by omega)(by omega)(by omega)
 obtain⟨d1,d2⟩:=Mt hB hu hul hvl hc(q:=q)
 have key:∀ {k r:Nat},bv B u=r + k * bv B v->r < bv B v->k=bv B u / bv B v/\r=bv B u % bv B v:=by
  intro k r e hr
  rw [e,Nat.mul_comm k,Nat.add_comm]
  constructor
  · rw [Nat.mul_add_div(by omega),Nat.div_eq_of_lt hr]; rfl
  · rw [Nat.mul_add_mod,Nat.mod_eq_of_lt hr]
 refine⟨hc,fun h=>?_,fun h=>?_⟩
 · have e:=d1 h
  refine key e ?_
  rw [Nat.add_mul,Nat.one_mul] at h1
  omega
 · obtain⟨e1,e2⟩:=d2 h
  have hq0:0 < q:=by
   rcases Nat.eq_zero_or_pos q with h3 | h3
   · subst h3; rw [Nat.zero_mul] at e2; omega
   · exact h3
  obtain⟨Q,rfl⟩: ∃ Q,q=Q + 1 :=⟨q - 1,by omega⟩
  have e3:=OZ hB(Q:=Q)(V:=bv B v)(U:=bv B u)(subL_lt(q:=Q + 1)hB u v(n + 1)0 0 0)hv(subL_len _ _ _ _ _ _ _ _)hvl e1 e2 h2 rfl
  refine⟨hq0,?_⟩
  rw [Nat.add_sub_cancel]
  refine key e3.symm ?_
  rw [Nat.add_mul,Nat.one_mul] at e2
  omega
end Go.Num
end
section
namespace Go.Num
def cr(F:Nat->Nat->Nat->Nat × Nat)(x y:List Nat)(i c:Nat):Nat->Nat
 | 0=>c
 | k + 1=>(F(x.getD(i + k)0)(y.getD(i + k)0)(cr F x y i c k)).2
theorem Hr(F:Nat->Nat->Nat->Nat × Nat)(x y:List Nat)(i c:Nat):∀ k,cr F x y(i + 1)(F(x.getD i 0)(y.getD i 0)c).2 k=cr F x y i c(k + 1)
 | 0=>rfl
 | k + 1=>by
  show(F(x.getD(i + 1 + k)0)(y.getD(i + 1 + k)0)(cr F x y(i + 1)_ k)).2=(F(x.getD(i + (k + 1))0)(y.getD(i + (k + 1))0)(cr F x y i c(k + 1))).2
  rw [Hr F x y i c k,show i + 1 + k=i + (k + 1) by omega]
theorem eachF_snoc(F:Nat->Nat->Nat->Nat × Nat)(x y:List Nat):∀ k i c,eachF F x y i(k + 1)c=eachF F x y i k c ++ [(F(x.getD(i + k)0)(y.getD(i + k)0)(cr F x y i c k)).1]
 | 0,i,c=>rfl
 | k + 1,i,c=>by
  have ih:=eachF_snoc F x y k(i + 1)(F(x.getD i 0)(y.getD i 0)c).2
  rw [Hr,show i + 1 + k=i + (k + 1) by omega] at ih
  rw [eachF,ih]; rfl
theorem cr_le {F:Nat->Nat->Nat->Nat × Nat}{m:Nat}(h:∀ p q c,c<=m->(F p q c).2<=m)(x y:List Nat)(i c:Nat)(hc:c<=m):∀ k,cr F x y i c k<=m
 | 0=>hc
 | k + 1=>h _ _ _(cr_le h x y i c hc k)
end Go.Num
end
section
set_option linter.unusedVariables false
set_option maxRecDepth 100000
namespace Go.Proofs.YtoabjjimjldcfaaGreatDoor
open Go Go.Ab
theorem rv(z:Int):az SS.P 48 1 [(0,.int .i64 z)]=some(.cells [.int .i64 z] 3 1 true,mC 1 1):=by kernel_rfl
theorem TV(z:Int):az SS.P 157 1 [(0,.int .u8 z)]=some(.cells [.int .u8 z] 5 1 true,mC 1 1):=by kernel_rfl
theorem xp:SS.P.underlying 157=some(.slice 5):=by kernel_rfl
theorem YV:SS.P.underlying 5=some(.int .u8):=by kernel_rfl
theorem VX:au SS.P 5=some 1:=by kernel_rfl
theorem Y3:Go.Ab.isAgg SS.P 5=false:=by kernel_rfl
noncomputable def re5:TypeInfo:=(dD SS.P 5).getD default
theorem UN:dD SS.P 5=some re5:=by kernel_rfl
theorem N7:re5.size=1:=by kernel_rfl
theorem Mw:re5.bytes=1:=by kernel_rfl
theorem z7 {h0 h:Heap}(w0:Wf h0)(ok:Ok h0 h){v:Value}{vs:List Value}(o:OwnR h0 h 3 v vs)(z:Int)(hl:vs.length<=100000) :
  ∃ (b:Option Addr)(n c:Nat)(u:Upd),aC SS.P 48 48 v(.slice(some⟨h.next,0,none⟩)1 1)(h.push(.cells [.int .i64 z] 3 1 true))=some(.slice b n c,u)/\n=vs.length + 1/\OwnR h0(u.app(h.push(.cells [.int .i64 z] 3 1 true)))3(.slice b n c)(vs ++ [.int .i64 z])/\Ok h0(u.app(h.push(.cells [.int .i64 z] 3 1 true))):=
 OwnR.snoc mA N8 GO w0 ok o rfl(by rw [Df]; omega)(by omega)
theorem KN {h0 h:Heap}(w0:Wf h0)(ok:Ok h0 h){v:Value}{vs:List Value}(o:OwnR h0 h 5 v vs)(z:Int)(hl:vs.length<=100000) :
  ∃ (b:Option Addr)(n c:Nat)(u:Upd),aC SS.P 157 157 v(.slice(some⟨h.next,0,none⟩)1 1)(h.push(.cells [.int .u8 z] 5 1 true))=some(.slice b n c,u)/\n=vs.length + 1/\OwnR h0(u.app(h.push(.cells [.int .u8 z] 5 1 true)))5(.slice b n c)(vs ++ [.int .u8 z])/\Ok h0(u.app(h.push(.cells [.int .u8 z] 5 1 true))):=
 OwnR.snoc xp UN N7 w0 ok o rfl(by rw [Mw]; omega)(by omega)
theorem M0(c:UInt8)(l:List UInt8):Num.digs(c :: l)=Num.digs l ++ [Num.dv c]:=by simp [Num.digs]
theorem DL {l:List UInt8}{i:Nat}(h:i < l.length):l.drop i=l.getD i 0 :: l.drop(i + 1):=by
 rw [List.getD_eq_getElem?_getD,List.getElem?_eq_getElem h,List.drop_eq_getElem_cons h]; rfl
theorem z3 {l:List UInt8}(hd:l.all Num.isDig=true){i:Nat}(h:i < l.length):Num.isDig(l.getD i 0)=true:=by
 rw [List.getD_eq_getElem?_getD,List.getElem?_eq_getElem h]
 exact List.all_eq_true.1 hd _(List.getElem_mem h)
def dz(h:Heap)(e:TypeId)(vs:List Value):VH:=fun v h'=>∃ a n c,v = .slice a n c/\OwnR h h' e(.slice a n c)vs/\Ok h h'
theorem ni(l:List UInt8)(hd:l.all Num.isDig=true)(hlen:l.length<=100000)(h:Heap)(w:Wf h):FW SS 151 [aa l] h(dz h 3((Num.digs l).map iv)):=by
 have L:=po l(fun mz i a n c g=>-1<=i/\i < l.length/\mz=(i + 1).toNat/\OwnR h g 3(.slice a n c)((Num.digs(l.drop(i + 1).toNat)).map iv)/\Ok h g)(dz h 3((Num.digs l).map iv))(by
  intro mz i a n c; intros; rename_i g hi
  obtain⟨h1,h2,h3,h4,ok⟩:=hi
  refine ae(fun h5=>?_)(fun h5=>?_)
  · have h5:=of_decide_eq_true h5
   have hin:i.toNat < l.length:=by omega
   have hdig:=z3 hd hin
   have hdr:=Num.isDig_iff.1 hdig
   refine⟨_,xC(h:=g)l h5 h2,_,_,_,rv _,?_⟩
   obtain⟨b,m,d,u,h6,h7,h8,h9⟩:=z7 w ok h4(IntKind.wrap .i64(IntKind.wrap .u8((((l.getD i.toNat 0).toNat:Nat):Int) - 48)))(by simp [Num.digs]; omega)
   refine⟨b,m,d,u,h6,?_⟩
   have hw:IntKind.wrap .i64(i - 1)=i - 1:=ap(by omega)(by omega)
   refine oC(mz - 1)(by omega) ?_
   rw [hw]
   refine⟨by omega,by omega,by omega,?_,h9⟩
   have e1:IntKind.wrap .i64(IntKind.wrap .u8((((l.getD i.toNat 0).toNat:Nat):Int) - 48))=((Num.dv(l.getD i.toNat 0):Nat):Int):=by
    rw [nq(by omega)(by omega),ap(by omega)(by omega)]
    unfold Num.dv; omega
   rw [e1] at h8
   have e2:(i - 1 + 1).toNat=i.toNat:=by omega
   have e3:(i + 1).toNat=i.toNat + 1:=by omega
   rw [e3] at h8
   rw [e1,e2,DL hin,M0,List.map_append]
   exact h8
  · have h5:=of_decide_eq_false h5
   obtain rfl:i = -1:=by omega
   exact⟨a,n,c,rfl,h4,ok⟩)
 have hw:IntKind.wrap .i64((l.length:Int) - 1)=(l.length:Int) - 1:=ap(by omega)(by omega)
 refine Eu l h _ ?_
 refine L l.length⟨by rw [hw]; omega,by rw [hw]; omega,by rw [hw]; omega,?_,Ok.refl w⟩
 rw [hw,show((l.length:Int) - 1 + 1).toNat=l.length by omega,List.drop_length]
 exact .inl⟨rfl,rfl⟩
theorem AR {h:Heap}{a b:Option Addr}{n c m d:Nat}{x y:List Nat}(ra:Rd h 3(.slice a n c)(x.map iv))(rb:Rd h 3(.slice b m d)(y.map iv))(hx:∀ d∈x,d < 10)(hy:∀ d∈y,d < 10)(hlen:x.length<=100000)(w:Wf h) :
  FW SS 156 [.slice a n c,.slice b m d] h(dz h 3((Num.eachF Num.lessF x y 0 x.length 0).map iv)):=by
 have hn:n=x.length:=by have:=ra.len; rwa [List.length_map] at this
 have hc1:∀ k,Num.cr Num.lessF x y 0 0 k<=1:=Num.cr_le(fun p q c _=>by unfold Num.lessF; split <;> simp)x y 0 0(by omega)
 have L:=rI a n c b m d(fun mz k cc r rn rc g=>k<=x.length/\mz=x.length - k/\cc=Num.cr Num.lessF x y 0 0 k/\OwnR h g 3(.slice r rn rc)((Num.eachF Num.lessF x y 0 k 0).map iv)/\Ok h g)(dz h 3((Num.eachF Num.lessF x y 0 x.length 0).map iv))(by
  intro mz k cc r rn rc; intros; rename_i g hi
  obtain⟨h1,h2,h3,h4,ok⟩:=hi
  have hcc:=hc1 k
  have hp:=Num.getD_lt(by omega)hx k
  have hq:=Num.getD_lt(by omega)hy k
  refine ae(fun h5=>?_)(fun h5=>?_)
  · have h5:=of_decide_eq_true h5
   refine(pD(ra.ok ok)k).mono ?_
   rintro _ _⟨rfl,rfl⟩
   refine⟨_,rfl,(pD(rb.ok ok)k).mono ?_⟩
   rintro _ _⟨rfl,rfl⟩
   refine⟨_,rfl,?_⟩
   have hw1:IntKind.wrap .i64(((x.getD k 0:Nat):Int) - ((y.getD k 0:Nat):Int))=((x.getD k 0:Nat):Int) - ((y.getD k 0:Nat):Int):=ap(by omega)(by omega)
   have hw2:IntKind.wrap .i64(((x.getD k 0:Nat):Int) - ((y.getD k 0:Nat):Int) - (cc:Int))=((x.getD k 0:Nat):Int) - ((y.getD k 0:Nat):Int) - (cc:Int):=ap(by omega)(by omega)
   have hw3:IntKind.wrap .i64((k:Int) + 1)=((k + 1:Nat):Int):=by rw [ap(by omega)(by omega)]; omega
   dsimp af
   rw [hw1,hw2,hw3]
   have hel:(Num.eachF Num.lessF x y 0 k 0).length=k:=Num.eachF_len _ _ _ _ _ _
   have hsn:=Num.eachF_snoc Num.lessF x y k 0 0
   have hcr:Num.cr Num.lessF x y 0 0(k + 1)=(Num.lessF(x.getD(0 + k)0)(y.getD(0 + k)0)(Num.cr Num.lessF x y 0 0 k)).2:=rfl
   rw [Nat.zero_add,<- h3] at hsn hcr
   refine ae(fun h6=>?_)(fun h6=>?_)
   · have h6:=of_decide_eq_true h6
    refine⟨_,_,_,rv _,?_⟩
    obtain⟨b',m',d',u,g6,g7,g8,g9⟩:=z7 w ok h4(IntKind.wrap .i64(((x.getD k 0:Nat):Int) - ((y.getD k 0:Nat):Int) - (cc:Int) + 10))(by rw [List.length_map,hel]; omega)
    refine⟨b',m',d',u,g6,?_⟩
    have e1:Num.lessF(x.getD k 0)(y.getD k 0)cc=(x.getD k 0 + 10 - y.getD k 0 - cc,1):=by unfold Num.lessF; rw [if_pos(by omega)]
    refine jx(cc:=1)(mz - 1)(by omega)⟨by omega,by omega,by rw [hcr,e1],?_,g9⟩
    rw [hsn,e1,List.map_append]
    have e2:IntKind.wrap .i64(((x.getD k 0:Nat):Int) - ((y.getD k 0:Nat):Int) - (cc:Int) + 10)=((x.getD k 0 + 10 - y.getD k 0 - cc:Nat):Int):=by rw [ap(by omega)(by omega)]; omega
    rw [e2] at g8 ⊢
    exact g8
   · have h6:=of_decide_eq_false h6
    refine⟨_,_,_,rv _,?_⟩
    obtain⟨b',m',d',u,g6,g7,g8,g9⟩:=z7 w ok h4(((x.getD k 0:Nat):Int) - ((y.getD k 0:Nat):Int) - (cc:Int))(by rw [List.length_map,hel]; omega)
    refine⟨b',m',d',u,g6,?_⟩
    have e1:Num.lessF(x.getD k 0)(y.getD k 0)cc=(x.getD k 0 - y.getD k 0 - cc,0):=by unfold Num.lessF; rw [if_neg(by omega)]
    refine jx(cc:=0)(mz - 1)(by omega)⟨by omega,by omega,by rw [hcr,e1],?_,g9⟩
    rw [hsn,e1,List.map_append]
    have e2:((x.getD k 0:Nat):Int) - ((y.getD k 0:Nat):Int) - (cc:Int)=((x.getD k 0 - y.getD k 0 - cc:Nat):Int):=by omega
    rw [e2] at g8 ⊢
    exact g8
  · have h5:=of_decide_eq_false h5
   obtain rfl:k=x.length:=by omega
   exact⟨r,rn,rc,rfl,h4,ok⟩)
 exact Kd a n c b m d h _(L x.length(k:=0)(cc:=0)⟨by omega,by omega,rfl,.inl⟨rfl,rfl⟩,Ok.refl w⟩)
end Go.Proofs.YtoabjjimjldcfaaGreatDoor
end
