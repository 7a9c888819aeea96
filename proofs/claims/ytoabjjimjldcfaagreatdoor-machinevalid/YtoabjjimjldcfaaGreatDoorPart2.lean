/- Laws and walks that the proof leans on (part 2): AbCode; AbCall; AbFrame; AbCongr; AbOrder; AbDraw and others. No condition. -/
import Derived.Test.YtoabjjimjldcfaaGreatDoorPart1
import Derived.CallsIn
import Derived.RangeFuncLeaves
import Derived.RangeFuncNested
import Derived.Laws.Externs
import Derived.Below
import Derived.Recover
import Derived.ControlIn
section
namespace Go.Ab
open Go
variable {β:Inj}{P:Program}{gl:Nat->Bool}
def ep(r:Option Nat):Fence:={ Fence.wide with round:=r }
theorem q0 {r:Option Nat}{n:Nat}{f:FuncId}{args:Array Value}{w:World}{R:Ending->World->Prop}(h:Calls P f args w R):CallsIn(ep r)n P f args w R:=
 (callsIn_wide(n:=n)).2 h
def Gl(gl:Nat->Bool)(β:Inj):Prop:= ∀ g,gl g=true->∃ sl,β g=some sl/\sl.b=g/\sl.s=0/\sl.isMap=false
theorem Gl.mono {β β' : Inj}(h:Gl gl β)(hle:β.le β'):Gl gl β':=fun g hg=>let⟨sl,h1,h2⟩:=h g hg;⟨sl,hle _ _ h1,h2⟩
theorem LRel.getD {l l' : List Value}(h:LRel β l l')(i:Nat):VRel β(l.getD i undef)(l'.getD i undef):=by
 by_cases hi:i < l.length
 · have hi' : i < l'.length:=h.1▸hi
  simp af [List.getD,List.getElem?_eq_getElem hi,List.getElem?_eq_getElem hi',Option.getD_some]
  exact h.2 i _ _(List.getElem?_eq_getElem hi)(List.getElem?_eq_getElem hi')
 · have hi' : l'.length<=i:=by rw [<- h.1]; omega
  simp af [List.getD,List.getElem?_eq_none(Nat.le_of_not_lt hi),List.getElem?_eq_none hi',Option.getD_none]
  exact .undef β
theorem vG {tm:List Value}{a:Act}(hg:Gl gl β)(ht:LRel β tm a.tmps.toList)(x:Operand):VRel β(ev gl tm x)(a.eval x):=by
 cases x with
 | tmp t =>
  simp af [ev,Act.eval]
  have:=ht.getD t
  rwa [show a.tmps.toList.getD t undef=a.tmps.getD t undef by simp [List.getD,Array.getD_eq_getD_getElem?]] at this
 | const v =>
  simp af [ev,Act.eval]
  split
  · next h=>exact .of_plain h
  · exact .junk v
 | global g =>
  simp af [ev,Act.eval]
  split
  · next h =>
   obtain⟨sl,h1,h2,h3,h4⟩:=hg g h
   have:=VRel.ptr(i:=0)h1 h4
   rwa [h2,h3] at this
  · exact .junk _
 | func f =>
  simp af [ev,Act.eval]
  exact .func rfl rfl rfl(fun i v v' h=>by simp at h)(fun i v v' h=>by simp at h)
theorem fF {tm:List Value}{a:Act}(ht:LRel β tm a.tmps.toList)(dst:Option Tmp){v v' : Value}(hv:VRel β v v'):LRel β(dj tm dst v)(a.put dst v').tmps.toList:=by
 cases dst with
 | none=>exact ht
 | some d =>
  simp af [dj,Act.put,Array.toList_setIfInBounds]
  refine⟨by simp [ht.1],fun i u u' h1 h2=>?_⟩
  rw [List.getElem?_set] at h1 h2
  split at h1
  · next he =>
   subst he
   simp af [if_true] at h2
   split at h1
   · simp af [Option.some.injEq] at h1
    subst h1
    split at h2
    · simp af [Option.some.injEq] at h2; subst h2; exact hv
    · cases h2
   · cases h1
  · next he =>
   rw [if_neg he] at h2
   exact ht.2 i u u' h1 h2
theorem bK(a:Act)(dst:Option Tmp)(v:Value):(a.put dst v).defers=a.defers:=by cases dst <;> rfl
theorem D1 {l:List Value}{d:Nat}{b:Bool}(h:l.getD d undef = .bool b):l[d]? = some(.bool b):=by
 rw [List.getD_eq_getElem?_getD] at h
 cases hd:l[d]? with
 | none=>rw [hd] at h; cases h
 | some v=>rw [hd] at h; simp af [Option.getD_some] at h; rw [h]
theorem zo {l:List Value}{d:Nat}{vs:Array Value}(h:l.getD d undef = .tuple vs):l[d]? = some(.tuple vs)\/l[d]? = none:=by
 rw [List.getD_eq_getElem?_getD] at h
 cases hd:l[d]? with
 | none=>exact .inr rfl
 | some v=>rw [hd] at h; simp af [Option.getD_some] at h; rw [h]; exact .inl rfl
theorem gO {ops:Array Oper}{tm:List Value}{a:Act}(ht:LRel β tm a.tmps.toList){o:Oper}{b:Bool}(h:cp ops tm o=some b):Region.wanted o(yielded ops a.tmps)=b:=by
 unfold cp at h
 unfold Region.wanted
 split at h
 · next hg=>rw [hg]; simpa using h
 · next j want hg =>
  rw [hg]
  simp af [yielded]
  split at h
  · next d hd =>
   rw [hd]
   simp af [Option.bind_some]
   split at h
   · next b' hb =>
    obtain⟨v',h1,h2⟩:=ht.get(D1 hb)
    rw [h2.inv_bool] at h1
    rw [Array.getElem?_toList] at h1
    rw [h1]
    simp af [Option.some.injEq] at h
    subst h
    cases b' <;> cases want <;> rfl
   · next vs hb =>
    simp af [Option.some.injEq] at h
    subst h
    rcases zo hb with hb | hb
    · obtain⟨v',h1,h2⟩:=ht.get hb
     obtain⟨vs',rfl,_⟩:=h2.inv_tuple
     rw [Array.getElem?_toList] at h1
     rw [h1]
     rfl
    · have hd:a.tmps[d]? = none:=by
      rw [<- Array.getElem?_toList]
      exact List.getElem?_eq_none(by rw [<- ht.1]; exact List.getElem?_eq_none_iff.1 hb)
     rw [hd]
     rfl
   · cases h
  · cases h
def lc(β:Inj)(h:Heap)(w:World)(v:Value)(h' : Heap):Ending->World->Prop:=fun e w'=>∃ v' β',e = .returned v'/\Step β h w β' h' w'/\VRel β' v v'
def Yv(P:Program)(gl:Nat->Bool)(cf:aY):Prop:=
 ∀ f args h v h',f < YB->cf f args h=some(v,h')->∀ β w(args' : Array Value),Sim β h w->Gl gl β->LRel β args args'.toList->
  ∃ fn,P.funcs[f]? = some fn/\((fn.body.isSome=true/\Calls P f args' w(lc β h w v h'))\/
   (∃ v' w' β',(callFunc f args').run P w = .ok(.value v')w'/\Step β h w β' h' w'/\VRel β' v v'))
def YF(P:Program)(gl:Nat->Bool)(cf:aY):Prop:=
 ∀ k args h v h',cf(YB + k)args h=some(v,h')->∀ β w(args' : Array Value)sl,Sim β h w->Gl gl β->LRel β args args'.toList->β k=some sl->
  ∃ fn tmps asg body,(Instr.yield sl.b args').run P w = .ok(.round sl.b fn tmps asg body)w/\∀ (r:Option Nat)(n:Nat),RoundIn(ep r)n P sl.b fn tmps asg body w(lc β h w v h')
structure CfOk(P:Program)(gl:Nat->Bool)(cf:aY):Prop where
 fn:Yv P gl cf
 yd:YF P gl cf
def bV(P:Program):Prop:= ∀ (f:FuncId)(fn:Func),P.funcs[f]? = some fn->(fn.name == "runtime.NumGoroutine")=false
theorem co(hN:bV P){f:FuncId}{fn:Func}(hf:P.funcs[f]? = some fn)(hb:fn.body.isSome=true)(args:Array Value)(w:World):(callFunc f args).run P w = .ok(.enter f args)w:=by
 have h1:=hN f fn hf
 have h2:fn.body.isNone=false:=by cases h:fn.body <;> simp_all
 simp af [callFunc,Sem.run_bind,run_program,Result.andThen_ok,hf]
 rw [h1,h2]
 rfl
theorem VRel.inv_fn {g:FuncId}{first captured:Array Value}{x:Value}(hf:VRel β(.func(.func g)first captured)x):∃ first' captured',x = .func(.func g)first' captured'/\ARel β first first'/\ARel β captured captured':=by
 cases hf with
 | func hy ha hc ra rc=>exact⟨_,_,rfl,⟨ha,ra⟩,⟨hc,rc⟩⟩
theorem VRel.inv_yield {k:Nat}{first captured:Array Value}{x:Value}(hf:VRel β(.func(.yield k)first captured)x):∃ sl,β k=some sl/\x = .func(.yield sl.b)first captured:=by
 cases hf with
 | func hy ha hc ra rc=>cases hy
 | yield h ha hc=>exact⟨_,h,rfl⟩
theorem G6(hN:bV P){cf:aY}(hcf:CfOk P gl cf){r:Option Nat}{n:Nat}{a:Act}{h:Heap}{w:World}{o:Oper}{f:Operand}{args:Array Operand}{ats:Array TypeId}(ho:o.op = .call { callee:= .value f,args:=args,argTypes:=ats })
  {ρ:Operand->Value}{v:Value}{u:Upd}(hs:Sim β h w)(hg:Gl gl β)(hρ:∀ x,VRel β(ρ x)(a.eval x))(hr:rO cf(ρ f)(args.toList.map ρ)h=some(v,u))(next:Act->World->Prop)(Q:Exit->Act->World->Prop)
  (hk:∀ v' w' β',Step β h w β' (u.app h)w'->VRel β' v v'->next(a.put o.dst v')w'):o.uponIn(ep r)n P a next Q((execOp a.eval o).run P w):=by
 unfold rO at hr
 have hf:=hρ f
 split at hr
 · next g first captured hfv =>
  split at hr
  · next hgY =>
   rw [hfv] at hf
   obtain⟨⟨v0,h'⟩,hcall,he⟩:=Option.map_eq_some_iff.1 hr
   simp af [Prod.mk.injEq] at he
   obtain⟨rfl,rfl⟩:=he
   obtain⟨first',captured',hfe,hfr,hcr⟩:=hf.inv_fn
   have hargs:LRel β(first.toList ++ args.toList.map ρ ++ captured.toList)(first' ++ args.map a.eval ++ captured').toList:=by
    simp af [Array.toList_append,Array.toList_map]
    exact((ARel.toList.1 hfr).append(LRel.map _ fun x _=>hρ x)).append(ARel.toList.1 hcr)
   have hex:(execOp a.eval o).run P w=(callFunc g(first' ++ args.map a.eval ++ captured')).run P w:=by
    unfold execOp
    simp af [ho,resolve,hfe,Deferred.ofValue,Sem.run_bind,Sem.run_pure,Result.andThen_ok,invoke]
   rw [hex]
   obtain⟨fn,hfn,hres⟩:=hcf.fn g _ h _ h' hgY hcall β w _ hs hg hargs
   rcases hres with⟨hb,hcalls⟩|⟨v',w',β',h1,h2,h3⟩
   · rw [co hN hfn hb]
    refine⟨fun hd=>by simp [ep,Fence.wide] at hd,q0(hcalls.mono ?_)⟩
    rintro e w'⟨v',β',rfl,h2,h3⟩
    exact hk v' w' β' h2 h3
   · rw [h1]
    exact hk v' w' β' h2 h3
  · cases hr
 · next k first captured hfv =>
  split at hr
  · next hz =>
   rw [hfv] at hf
   obtain⟨⟨v0,h'⟩,hcall,he⟩:=Option.map_eq_some_iff.1 hr
   simp af [Prod.mk.injEq] at he
   obtain⟨rfl,rfl⟩:=he
   obtain⟨sl,hb,hfe⟩:=hf.inv_yield
   have hf0:first = #[]:=Array.eq_empty_of_size_eq_zero hz.1
   have hargs:LRel β(args.toList.map ρ)(args.map a.eval).toList:=by
    simp af [Array.toList_map]
    exact LRel.map _ fun x _=>hρ x
   have hex:(execOp a.eval o).run P w=(Instr.yield sl.b(args.map a.eval)).run P w:=by
    unfold execOp
    simp af [ho,resolve,hfe,Deferred.ofValue,Sem.run_bind,Sem.run_pure,Result.andThen_ok,invoke,hf0,Array.empty_append]
   rw [hex]
   obtain⟨fn,tmps,asg,body,h1,h2⟩:=hcf.yd k _ h _ h' hcall β w _ sl hs hg hargs hb
   rw [h1]
   refine⟨fun hd=>by simp [ep,Fence.wide] at hd,(h2 r(n - 1)).mono ?_⟩
   rintro e w'⟨v',β',rfl,h3,h4⟩
   exact hk v' w' β' h3 h4
  · cases hr
 · cases hr
theorem WS(hN:bV P){cf:aY}(hcf:CfOk P gl cf){r:Option Nat}{n:Nat}{tm:List Value}{a:Act}{h:Heap}{w:World}{o:Oper}{v:Value}{u:Upd}(hs:Sim β h w)(hg:Gl gl β)(ht:LRel β tm a.tmps.toList)
  (hr:aL P cf(ev gl tm)o h=some(v,u))(next:Act->World->Prop)(Q:Exit->Act->World->Prop)
  (hk:∀ v' w' β',Step β h w β' (u.app h)w'->VRel β' v v'->next(a.put o.dst v')w'):o.wpIn(ep r)n P a w next Q:=by
 refine⟨fun _ _=>trivial,?_⟩
 have hρ:=vG(β:=β)hg ht
 have hnd:∀ c,o.op≠ .defer c:=by
  intro c hc
  unfold aL at hr
  simp [aD,aI,aH,bA,hc] at hr
 rw [Oper.semAt_eq _ _ _ hnd]
 unfold aL at hr
 split at hr
 · next v0 hp =>
  simp af [Option.some.injEq,Prod.mk.injEq] at hr
  obtain⟨rfl,rfl⟩:=hr
  obtain⟨v',h1,h2⟩:=mF hρ hp w
  rw [h1]
  exact hk v' w β(Step.refl hs)h2
 · split at hr
  · next v0 hp =>
   simp af [Option.some.injEq,Prod.mk.injEq] at hr
   obtain⟨rfl,rfl⟩:=hr
   obtain⟨v',h1,h2⟩:=nh hρ hs hp
   rw [h1]
   exact hk v' w β(Step.refl hs)h2
  · split at hr
   · next B f hp =>
    simp af [Option.some.injEq,Prod.mk.injEq] at hr
    obtain⟨rfl,rfl⟩:=hr
    obtain⟨v',w',h1,h2⟩:=kQ hρ(w:=w)hp
    obtain⟨β',h3,h4⟩:=h2.step hs
    rw [h1]
    exact hk v' w' β' h3 h4
   · by_cases hc:aF o=false
    · obtain⟨v',w',β',h1,h2,h3⟩:=wb hρ hc hs hr
     rcases h1 with h1 |⟨h1,rfl⟩
     · rw [h1]
      exact hk v' w' β' h2 h3
     · rw [h1]
      exact hk undef w' β' h2 h3
    · unfold aF at hc
     split at hc
     · next f args ats ho =>
      simp af [bA,ho] at hr
      exact G6 hN hcf ho hs hg hρ hr next Q hk
     · exact absurd rfl hc
theorem Jp(hN:bV P){cf:aY}(hcf:CfOk P gl cf){r:Option Nat}{n:Nat}{ops:Array Oper}(Q:Exit->Act->World->Prop):∀ (rest:List Oper)(i:Nat){β:Inj}{tm tm' : List Value}{a:Act}{h h' : Heap}{w:World},
  ops.toList.drop i=rest->dg P gl cf ops rest tm h=some(tm',h')->Sim β h w->Gl gl β->LRel β tm a.tmps.toList->
  (∀ a' w' β',Step β h w β' h' w'->LRel β' tm' a'.tmps.toList->a'.defers=a.defers->Q .normal a' w')->wpOpsIn(ep r)n P ops Q(List.range' i rest.length)a w
 | [],i,β,tm,tm',a,h,h',w,hd,hr,hs,hg,ht,hk=>by
  simp af [dg,Option.some.injEq,Prod.mk.injEq] at hr
  obtain⟨rfl,rfl⟩:=hr
  exact hk a w β(Step.refl hs)ht rfl
 | o :: rest,i,β,tm,tm',a,h,h',w,hd,hr,hs,hg,ht,hk=>by
  have ho:ops[i]? = some o:=by
   have:(ops.toList.drop i)[0]? = some o:=by rw [hd]; rfl
   rw [List.getElem?_drop] at this
   rw [<- Array.getElem?_toList]; simpa using this
  have hd' : ops.toList.drop(i + 1)=rest:=by rw [<- List.drop_drop,hd]; rfl
  simp af [List.length_cons,List.range'_succ,wpOpsIn,ho]
  simp af [dg] at hr
  split at hr
  · next hw =>
   rw [gO ht hw]
   simp af [if_true]
   split at hr
   · next v u hop =>
    refine WS hN hcf hs hg ht hop _ _ fun v' w' β' hst hv=>?_
    refine Jp hN hcf Q rest(i + 1)hd' hr hst.sim(hg.mono hst.le)(fF(ht.mono hst.le)o.dst hv)fun a' w2 β2 h1 h2 h3=>?_
    exact hk a' w2 β2(hst.trans h1)h2(h3.trans(bK a o.dst v'))
   · cases hr
  · next hw =>
   rw [gO ht hw]
   simp af [Bool.false_eq_true,if_false]
   refine⟨fun _ _=>trivial,?_⟩
   refine Jp hN hcf Q rest(i + 1)hd' hr hs hg(fF ht o.dst(.undef β))fun a' w2 β2 h1 h2 h3=>?_
   exact hk a' w2 β2 h1 h2(h3.trans(bK a o.dst undef))
  · cases hr
theorem MX(hN:bV P){cf:aY}(hcf:CfOk P gl cf){r:Option Nat}{n:Nat}{id:Nat}{ops:Array Oper}(Q:Exit->Act->World->Prop){tm tm' : List Value}{a:Act}{h h' : Heap}{w:World}
  (hr:dg P gl cf ops ops.toList tm h=some(tm',h'))(hs:Sim β h w)(hg:Gl gl β)(ht:LRel β tm a.tmps.toList)
  (hk:∀ a' w' β',Step β h w β' h' w'->LRel β' tm' a'.tmps.toList->a'.defers=a.defers->Q .normal a' w'):(Code.region id ops false).wpIn(ep r)n P Q a w:=by
 refine wpIn_region ?_
 have:=Jp hN hcf(r:=r)(n:=n)Q ops.toList 0(by simp)hr hs hg ht hk
 rwa [<- List.range_eq_range',Array.length_toList] at this
theorem EX {F:Fence}{n:Nat}{c:Code}{Q:Exit->Act->World->Prop}(I:Nat->Act->World->Prop)(hz:∀ a w,¬ I 0 a w)
  (round:∀ j a w,I(j + 1)a w->c.wpIn F n P(Exit.then(I j)Q)a w){j:Nat}{a:Act}{w:World}(h₀:I j a w):(Code.loop c).wpIn F n P Q a w:=by
 intro b k cs hro hb hr
 have key:∀ j a w,I j a w->∃ e a' w',Q e a' w'/\ArrivesIn(Machine.fenced P F)P(lone(b.atR a(.code c :: .inLoop c :: k))cs w)b k cs e a' w':=by
  intro j
  induction j with
  | zero=>exact fun a w h=>absurd h(hz a w)
  | succ j ih =>
   intro a w hI
   obtain⟨e,a₁,w₁,hq,harr⟩:=round j a w hI b(.inLoop c :: k)cs hro hb hr
   cases e with
   | normal =>
    obtain⟨e₂,a₂,w₂,hq₂,harr₂⟩:=ih a₁ w₁ hq
    exact⟨e₂,a₂,w₂,hq₂,.of_steps(StepsIn.trans harr(.one(fenced_calm hb hr rfl)stepR_inLoop))harr₂⟩
   | exit id=>exact⟨_,a₁,w₁,hq,.pass(x:= .inLoop c)rfl(fun _ _=>.inl(by simp))harr⟩
   | goto l=>exact⟨_,a₁,w₁,hq,.pass(x:= .inLoop c)rfl(fun _ _=>.inl(by simp))harr⟩
   | ret=>exact⟨_,a₁,w₁,hq,.pass(x:= .inLoop c)rfl(fun _ _=>.inl(by simp))harr⟩
   | panic ch=>exact⟨_,a₁,w₁,hq,.pass(x:= .inLoop c)rfl(fun _ _=>.inl(by simp))harr⟩
   | outgrown=>exact⟨_,a₁,w₁,hq,.pass(x:= .inLoop c)rfl(fun _ _=>.inl(by simp))harr⟩
 obtain⟨e,a',w',hq,harr⟩:=key j a w h₀
 exact⟨e,a',w',hq,.of_steps(.one(fenced_calm hb hr rfl)stepR_loop)harr⟩
def gX(P:Program)(gl:Nat->Bool)(cf:aY)(c:Code):Prop:=
 ∀ id ops,c = .region id ops true->∀ β tm tm' (a:Act)h h' (w:World)(r:Option Nat)(n:Nat)(Q:Exit->Act->World->Prop),z4 P gl cf ops tm h=some(tm',h')->Sim β h w->Gl gl β->LRel β tm a.tmps.toList->
  (∀ a' w' β',Step β h w β' h' w'->LRel β' tm' a'.tmps.toList->a'.defers=a.defers->Q .normal a' w')->(Code.region id ops true).wpIn(ep r)n P Q a w
inductive Part:Code->Code->Prop where
 | refl(c:Code):Part c c
 | seqL {c a b:Code}(h:Part c a):Part c(.seq a b)
 | seqR {c a b:Code}(h:Part c b):Part c(.seq a b)
 | condT {c a b:Code}{o:Operand}(h:Part c a):Part c(.cond o a b)
 | condF {c a b:Code}{o:Operand}(h:Part c b):Part c(.cond o a b)
 | block {c a:Code}{id:Nat}(h:Part c a):Part c(.block id a)
 | loop {c a:Code}(h:Part c a):Part c(.loop a)
def Ee(b:Nat):Deferred:={ target:= .collected b,args:= #[] }
def Marks(w:World)(ds:List Deferred)(β:Inj)(h:Heap)(w' : World)(ds' : List Deferred):Prop:=
 ∃ ms:List Nat,ds' = ms.map Ee ++ ds/\ms.Nodup/\∀ b∈ms,w.heap.size<=b/\b < w'.heap.size/\w'.heap[b]? = some(.deferred(some []))/\¬ Wr β h b
theorem Marks.same {w w' : World}{ds ds' : List Deferred}{h:Heap}(e:ds' = ds):Marks w ds β h w' ds' :=⟨[],by simpa using e,by simp,by simp⟩
theorem Marks.trans {β₁ β₂:Inj}{w w₁ w₂:World}{ds ds₁ ds₂:List Deferred}{h₁ h₂:Heap}(m:Marks w ds β₁ h₁ w₁ ds₁)(hsz:w.heap.size<=w₁.heap.size)(st:Step β₁ h₁ w₁ β₂ h₂ w₂)(m' : Marks w₁ ds₁ β₂ h₂ w₂ ds₂):Marks w ds β₂ h₂ w₂ ds₂:=by
 obtain⟨ms,rfl,hn,hb⟩:=m
 obtain⟨ms',rfl,hn',hb'⟩:=m'
 refine⟨ms' ++ ms,by simp,List.nodup_append.2⟨hn',hn,fun a ha b hb2 e=>?_⟩,fun b hm=>?_⟩
 · subst e
  have:=(hb' a ha).1
  have:=(hb a hb2).2.1
  omega
 · rcases List.mem_append.1 hm with hm | hm
  · obtain⟨h1,h2⟩:=hb' b hm
   exact⟨by omega,h2⟩
  · obtain⟨h1,h2,h3,h4⟩:=hb b hm
   exact⟨h1,Nat.lt_of_lt_of_le h2 st.size,(st.kept b h2 h4).trans h3,fun hw=>h4(st.back b h2 hw)⟩
theorem IA {h:Heap}{w:World}(hs:Sim β h w)(o:Obj):Step β h w β h(w.alloc o):=by
 have hk:∀ b,b < w.heap.size->(w.alloc o).heap[b]? = w.heap[b]?:=fun b hb=>by
  show(w.heap.push o)[b]? = _
  rw [Array.getElem?_push,if_neg(by omega)]
 refine⟨β.le_refl,Nat.le_refl _,⟨fun k sl hk =>⟨(hs.lt k sl hk).1,?_⟩,fun k B sl h1 h2=>(hs.blk k B sl h1 h2).of_heap(hk _(hs.lt k sl h2).2),hs.own,hs.wf⟩,?_,rfl,rfl,rfl,fun b hb _=>hk b hb,fun _ _ h=>h,fun _ _ h=>.inl h,fun _ B h _ =>⟨B,h⟩⟩
 · have:=(hs.lt k sl hk).2
  simp; omega
 · simp
theorem No {h:Heap}{w:World}(hs:Sim β h w){tm:List Value}{r:Loop}(hr:r.state = .ready)(hp:r.pending=none)(ht:LRel β tm r.tmps.toList)(ok:gA r.assign r.body=true) :
  ∃ β',Step β h w β' (h.push(.loop .ready tm r.params.toList r.assign r.body ok))(w.alloc(.loop r))/\∃ sl,β' h.next=some sl/\sl.b=w.heap.size:=by
 have ha:Allocs β w(.loop .ready tm r.params.toList r.assign r.body ok)(fun k=>.func(.yield k) #[] #[])(.func(.yield w.heap.size) #[] #[])(w.alloc(.loop r)):=by
  refine⟨by simp,rfl,rfl,rfl,fun b hb=>?_,⟨w.heap.size,0,0,0,0,true⟩,rfl,fun β' k hle hk =>⟨⟨rfl,r,World.alloc_heap_new w _,⟨hr,hp⟩,ht.mono hle,rfl,rfl,rfl⟩,?_⟩⟩
  · show(w.heap.push _)[b]? = _
   rw [Array.getElem?_push,if_neg(by omega)]
  · exact .yield(sl :=⟨w.heap.size,0,0,0,0,true⟩)hk rfl rfl
 obtain⟨β',h1,h2⟩:=ha.step hs
 obtain⟨sl,h3,h4⟩:=h2.inv_yield
 refine⟨β',h1,sl,h3,?_⟩
 simp af [Value.func.injEq,Fn.yield.injEq] at h4
 exact h4.1.symm
theorem MZ {h:Heap}{w w' : World}(hs:Sim β h w){k:Nat}{B₀:Blk}{sl:Slot}(hk:h.get k=some B₀)(hb:β k=some sl)(hw:B₀.wr=true)(ha:At w w' sl.b):Step β h w β(h.del k)w':=by
 have hget:∀ k' B',(h.del k).get k' = some B'->k'≠k/\h.get k' = some B':=fun k' B' hg=>by
  rw [h.get_del] at hg
  split at hg
  · cases hg
  · next hne=>exact⟨hne,hg⟩
 have hown:∀ k' B' sl',k'≠k->h.get k' = some B'->β k' = some sl'->sl'.b≠sl.b:=fun k' B' sl' hne h1 h2=>(hs.own k k' B₀ B' sl sl' (Ne.symm hne)hk h1 hb h2 hw).symm
 refine⟨β.le_refl,Nat.le_refl _,⟨?_,?_,?_,Heap.wf_del hs.wf k⟩,by rw [ha.size]; exact Nat.le_refl _,ha.os,ha.tape,ha.output,?_,?_,fun _ _ h=>.inl h,?_⟩
 · intro k' sl' h1
  rw [ha.size]
  exact hs.lt k' sl' h1
 · intro k' B' sl' h1 h2
  obtain⟨hne,h1⟩:=hget _ _ h1
  exact(hs.blk k' B' sl' h1 h2).of_heap(ha.kept _(hown k' B' sl' hne h1 h2))
 · intro k₁ k₂ B₁ B₂ sl₁ sl₂ hne h1 h2 h3 h4 h5
  exact hs.own k₁ k₂ B₁ B₂ sl₁ sl₂ hne(hget _ _ h1).2(hget _ _ h2).2 h3 h4 h5
 · intro b hb' hn
  refine ha.kept b ?_
  rintro rfl
  exact hn⟨k,B₀,sl,hk,hw,hb,rfl⟩
 · rintro b hb'⟨k',B',sl',h1,h2,h3,h4⟩
  exact⟨k',B',sl',(hget _ _ h1).2,h2,h3,h4⟩
 · intro k' B' h1 h2
  exact⟨B',(hget _ _ h1).2⟩
theorem vv(w:World)(b:Nat)(o:Obj):At w(w.putObj b o)b :=⟨by simp,rfl,rfl,rfl,fun b' hb=>World.putObj_heap_other hb⟩
theorem w7 {P:Program}{g:FuncId}(h:pB P g=true):∃ fn,P.funcs[g]? = some fn/\fn.body.isSome=true:=by
 unfold pB at h
 split at h
 · next fn hf=>exact⟨fn,hf,h⟩
 · cases h
theorem ED {a b:Bool}(h:(a && b)=true):a=true:=by simp af [Bool.and_eq_true] at h; exact h.1
theorem Lb {a b:Bool}(h:(a && b)=true):b=true:=by simp af [Bool.and_eq_true] at h; exact h.2
theorem tG(hN:bV P){cf:aY}(hcf:CfOk P gl cf){r:Option Nat}{n N:Nat} : ∀ (c:Code),(r=none\/iN c=true)->(∀ d,Part d c->gX P gl cf d)->∀ {β:Inj}{tm tm' : List Value}{a:Act}{h h' : Heap}{w:World}{e:Exit}(Q:Exit->Act->World->Prop),
  aA P gl cf N c tm h=some(e,tm',h')->Sim β h w->Gl gl β->LRel β tm a.tmps.toList->
  (∀ a' w' β',Step β h w β' h' w'->LRel β' tm' a'.tmps.toList->Marks w a.defers β' h' w' a'.defers->Q e a' w')->c.wpIn(ep r)n P Q a w:=by
 intro c
 induction c with
 | skip =>
  intro hnr hdr β tm tm' a h h' w e Q hr hs hg ht hk
  simp af [aA,Option.some.injEq,Prod.mk.injEq] at hr
  obtain⟨rfl,rfl,rfl⟩:=hr
  exact wpIn_skip(hk a w β(Step.refl hs)ht(.same rfl))
 | region id ops draw =>
  intro hnr hdr β tm tm' a h h' w e Q hr hs hg ht hk
  cases draw
  · simp af [aA] at hr
   obtain⟨⟨tm2,h2⟩,hop,he⟩:=Option.map_eq_some_iff.1 hr
   simp af [Prod.mk.injEq] at he
   obtain⟨rfl,rfl,rfl⟩:=he
   exact MX hN hcf Q hop hs hg ht fun a' w' β' h1 h2 h3=>hk a' w' β' h1 h2(.same h3)
  · simp af [aA] at hr
   obtain⟨⟨tm2,h2⟩,hop,he⟩:=Option.map_eq_some_iff.1 hr
   simp af [Prod.mk.injEq] at he
   obtain⟨rfl,rfl,rfl⟩:=he
   exact hdr _(.refl _)id ops rfl β tm tm2 a h h2 w r n Q hop hs hg ht fun a' w' β' h1 h2 h3=>hk a' w' β' h1 h2(.same h3)
 | seq x y ihx ihy =>
  intro hnr hdr β tm tm' a h h' w e Q hr hs hg ht hk
  simp af [aA] at hr
  refine wpIn_seq ?_
  split at hr
  · next tm1 h1 hx =>
   refine ihx(hnr.imp id ED)(fun d hd=>hdr d(.seqL hd))_ hx hs hg ht fun a1 w1 β1 hst1 ht1 hd1=>?_
   exact ihy(hnr.imp id Lb)(fun d hd=>hdr d(.seqR hd))_ hr hst1.sim(hg.mono hst1.le)ht1 fun a2 w2 β2 hst2 ht2 hd2=>hk a2 w2 β2(hst1.trans hst2)ht2(hd1.trans hst1.size hst2 hd2)
  · next hne =>
   refine ihx(hnr.imp id ED)(fun d hd=>hdr d(.seqL hd))_ hr hs hg ht fun a1 w1 β1 hst1 ht1 hd1=>?_
   have:=hk a1 w1 β1 hst1 ht1 hd1
   cases e with
   | normal=>exact absurd hr(hne _ _)
   | _=>exact this
 | cond o x y ihx ihy =>
  intro hnr hdr β tm tm' a h h' w e Q hr hs hg ht hk
  simp af [aA] at hr
  split at hr
  · next t hev =>
   have hc:a.eval o = .bool t:=by
    have:=vG(β:=β)hg ht o
    rw [hev] at this
    exact this.inv_bool
   cases t
   · exact wpIn_cond hc(ihy(hnr.imp id Lb)(fun d hd=>hdr d(.condF hd))Q hr hs hg ht hk)
   · exact wpIn_cond hc(ihx(hnr.imp id ED)(fun d hd=>hdr d(.condT hd))Q hr hs hg ht hk)
  · cases hr
 | block id x ih =>
  intro hnr hdr β tm tm' a h h' w e Q hr hs hg ht hk
  simp af [aA] at hr
  refine wpIn_block ?_
  split at hr
  · next id' tm1 h1 hx =>
   refine ih hnr(fun d hd=>hdr d(.block hd))_ hx hs hg ht fun a1 w1 β1 hst1 ht1 hd1=>?_
   split at hr
   · next he =>
    simp af [Option.some.injEq,Prod.mk.injEq] at hr
    obtain⟨rfl,rfl,rfl⟩:=hr
    simp af [Exit.inBlock,he,if_true]
    exact hk a1 w1 β1 hst1 ht1 hd1
   · next he =>
    simp af [Option.some.injEq,Prod.mk.injEq] at hr
    obtain⟨rfl,rfl,rfl⟩:=hr
    simp af [Exit.inBlock,he,if_false]
    exact hk a1 w1 β1 hst1 ht1 hd1
  · next hne =>
   refine ih hnr(fun d hd=>hdr d(.block hd))_ hr hs hg ht fun a1 w1 β1 hst1 ht1 hd1=>?_
   have:=hk a1 w1 β1 hst1 ht1 hd1
   cases e with
   | exit id'=>exact absurd hr(hne _ _ _)
   | _=>exact this
 | loop x ih =>
  intro hnr hdr β tm tm' a h h' w e Q hr hs hg ht hk
  simp af [aA] at hr
  refine EX(fun j a1 w1=>∃ β1 tm1 h1,Step β h w β1 h1 w1/\LRel β1 tm1 a1.tmps.toList/\Marks w a.defers β1 h1 w1 a1.defers/\xz(aA P gl cf N x)j tm1 h1=some(e,tm',h')) ?_ ?_(j:=N)⟨β,tm,h,Step.refl hs,ht,.same rfl,hr⟩
  · rintro a1 w1⟨β1,tm1,h1,_,_,_,h5⟩
   simp [xz] at h5
  · rintro j a1 w1⟨β1,tm1,h1,hst1,ht1,hd1,hit⟩
   simp af [xz] at hit
   split at hit
   · next tm2 h2 hx =>
    refine ih hnr(fun d hd=>hdr d(.loop hd))_ hx hst1.sim(hg.mono hst1.le)ht1 fun a2 w2 β2 hst2 ht2 hd2=>?_
    exact⟨β2,tm2,h2,hst1.trans hst2,ht2,hd1.trans hst1.size hst2 hd2,hit⟩
   · next hne =>
    refine ih hnr(fun d hd=>hdr d(.loop hd))_ hit hst1.sim(hg.mono hst1.le)ht1 fun a2 w2 β2 hst2 ht2 hd2=>?_
    have:=hk a2 w2 β2(hst1.trans hst2)ht2(hd1.trans hst1.size hst2 hd2)
    cases e with
    | normal=>exact absurd hit(hne _ _)
    | _=>exact this
 | exit id =>
  intro hnr hdr β tm tm' a h h' w e Q hr hs hg ht hk
  simp af [aA,Option.some.injEq,Prod.mk.injEq] at hr
  obtain⟨rfl,rfl,rfl⟩:=hr
  exact wpIn_exit(hk a w β(Step.refl hs)ht(.same rfl))
 | ret =>
  intro hnr hdr β tm tm' a h h' w e Q hr hs hg ht hk
  simp af [aA,Option.some.injEq,Prod.mk.injEq] at hr
  obtain⟨rfl,rfl,rfl⟩:=hr
  exact wpIn_ret(hk a w β(Step.refl hs)ht(.same rfl))
 | label l =>
  intro hnr hdr β tm tm' a h h' w e Q hr hs hg ht hk
  simp af [aA,Option.some.injEq,Prod.mk.injEq] at hr
  obtain⟨rfl,rfl,rfl⟩:=hr
  exact wpIn_label(hk a w β(Step.refl hs)ht(.same rfl))
 | rangeFunc f ps x y _ _ =>
  intro hnr hdr β tm tm' a h h' w e Q hr hs hg ht hk
  rcases hnr with rfl | hnr
  · simp af [aA] at hr
   split at hr
   · next g first captured hfv =>
    split at hr
    · next hok =>
     split at hr
     · next hgb =>
      split at hr
      · next v2 h2 hcall =>
       obtain⟨e2,hend,he⟩:=Option.map_eq_some_iff.1 hr
       simp af [Prod.mk.injEq] at he
       obtain⟨rfl,rfl,rfl⟩:=he
       refine wpIn_rangeFunc fun fnI hFn=>?_
       have hs0:Step β h w β h(w.alloc(.deferred(some []))):=IA hs _
       obtain⟨β1,hst1,sl,hsl,hslb⟩:=No hs0.sim(tm:=tm)(r:={ state:= .ready,pending:=none,fn:=fnI,tmps:=a.tmps,params:=ps,assign:=x,body:=y,defers:=w.heap.size })rfl rfl ht hok
       have hst01:=hs0.trans hst1
       have hf:=vG(β:=β)hg ht f
       rw [hfv] at hf
       obtain⟨first',captured',hfe,hfr,hcr⟩:=hf.inv_fn
       have hslb' : sl.b=w.heap.size + 1:=by rw [hslb]; simp
       have hargs:LRel β1(first.toList ++ [Value.func(.yield h.next) #[] #[]] ++ captured.toList)(first' ++ #[Value.func(.yield(w.heap.size + 1)) #[] #[]] ++ captured').toList:=by
        simp af [Array.toList_append]
        refine(((ARel.toList.1 hfr).mono hst01.le).append ?_).append((ARel.toList.1 hcr).mono hst01.le)
        exact .cons(by have:=VRel.yield hsl(a:= #[])(c:= #[])rfl rfl; rwa [hslb'] at this)(.nil _)
       obtain⟨fn,hfn,hres⟩:=hcf.fn g _ _ _ h2 hgb.1 hcall β1 _ _ hst1.sim(hg.mono hst01.le)hargs
       obtain⟨fn2,hfn2,hbody⟩:=w7 hgb.2
       rw [hfn2] at hfn
       obtain rfl:=Option.some.inj hfn
       have hent:=co hN hfn2 hbody(first' ++ #[Value.func(.yield(w.heap.size + 1)) #[] #[]] ++ captured')
       have hcalls:Calls P g(first' ++ #[Value.func(.yield(w.heap.size + 1)) #[] #[]] ++ captured')((w.alloc(.deferred(some []))).alloc(.loop { state:= .ready,pending:=none,fn:=fnI,tmps:=a.tmps,params:=ps,assign:=x,body:=y,defers:=w.heap.size }))(lc β1(h.push(.loop .ready tm ps.toList x y hok))((w.alloc(.deferred(some []))).alloc(.loop { state:= .ready,pending:=none,fn:=fnI,tmps:=a.tmps,params:=ps,assign:=x,body:=y,defers:=w.heap.size }))v2 h2):=by
        rcases hres with⟨_,hc⟩|⟨v',w',β',hc,_⟩
        · exact hc
        · rw [hent] at hc; cases hc
       have henter:(Instr.enterLoop fnI a.tmps ps x y(ep none).round).run P w = .ok(w.heap.size + 1,[Ee w.heap.size])((w.alloc(.deferred(some []))).alloc(.loop { state:= .ready,pending:=none,fn:=fnI,tmps:=a.tmps,params:=ps,assign:=x,body:=y,defers:=w.heap.size })):=run_enterLoop_outer fnI a.tmps ps x y
       have hresv:(resolve a.eval(rangeCall f(w.heap.size + 1))0).run P((w.alloc(.deferred(some []))).alloc(.loop { state:= .ready,pending:=none,fn:=fnI,tmps:=a.tmps,params:=ps,assign:=x,body:=y,defers:=w.heap.size })) = .ok { target:= .fn(.func g)captured',args:=first' ++ #[Value.func(.yield(w.heap.size + 1)) #[] #[]] }((w.alloc(.deferred(some []))).alloc(.loop { state:= .ready,pending:=none,fn:=fnI,tmps:=a.tmps,params:=ps,assign:=x,body:=y,defers:=w.heap.size })):=by
        have he:resolve a.eval(rangeCall f(w.heap.size + 1))0=Deferred.ofValue(a.eval f) #[Value.func(.yield(w.heap.size + 1)) #[] #[]]:=by
         unfold resolve rangeCall
         simp af [List.map_toArray,List.map_cons,List.map_nil]
         rfl
        rw [he,hfe]
        rfl
       refine⟨_,_,_,_,_,g,_,_,henter,hresv,fun _ _=>trivial,hent _,fun hd=>by simp [ep,Fence.wide] at hd,q0(hcalls.mono ?_)⟩
       rintro e' w3⟨v',β3,rfl,hst3,hv3⟩
       cases hB:h2.get h.next with
       | none=>rw [hB] at hend; cases hend
       | some B =>
        rw [hB] at hend
        have hsl3:=hst3.le _ _ hsl
        cases B with
        | cells _ _ _ _=>cases hend
        | map _=>cases hend
        | loop st tm2 ps2 asg2 body2 ok2 =>
         obtain⟨_,r,hr1,hr2,_⟩:=hst3.sim.blk _ _ _ hB hsl3
         rw [hslb'] at hr1
         have hmk:Marks w a.defers β3(h2.del h.next)(w3.putObj(w.heap.size + 1)(.loop { r with state:= .exhausted }))([Ee w.heap.size] ++ a.defers):=by
          have hnw : ¬ Wr β1(h.push(.loop .ready tm ps.toList x y hok))w.heap.size:=fun hw=>by
           have:=hst1.back w.heap.size(by simp)hw
           obtain⟨k,B,sl0,_,_,h3,h4⟩:=this
           have:=(hs.lt k sl0 h3).2
           omega
          have hsz:w.heap.size < ((w.alloc(.deferred(some []))).alloc(.loop { state:= .ready,pending:=none,fn:=fnI,tmps:=a.tmps,params:=ps,assign:=x,body:=y,defers:=w.heap.size })).heap.size:=by simp; omega
          refine⟨[w.heap.size],rfl,by simp,fun b hb=>?_⟩
          obtain rfl:=List.mem_singleton.1 hb
          refine⟨Nat.le_refl _,?_,?_,fun hw=>?_⟩
          · rw [World.putObj_size]; exact Nat.lt_of_lt_of_le hsz hst3.size
          · rw [World.putObj_heap_other(by omega),hst3.kept _ hsz hnw]
           show((w.heap.push _).push _)[w.heap.size]? = _
           rw [Array.getElem?_push,if_neg(by simp),Array.getElem?_push,if_pos rfl]
          · obtain⟨k,B,sl0,h1,h2',h3,h4⟩:=hw
           refine hnw(hst3.back _ hsz⟨k,B,sl0,?_,h2',h3,h4⟩)
           rw [Heap.get_del] at h1
           split at h1
           · cases h1
           · exact h1
         have hdrop:Step β3 h2 w3 β3(h2.del h.next)(w3.putObj(w.heap.size + 1)(.loop { r with state:= .exhausted })):=MZ hst3.sim hB hsl3 rfl(by rw [hslb']; exact vv _ _ _)
         have hall:=(hst01.trans hst3).trans hdrop
         have htm:=ht.mono(hst01.trans hst3).le
         have hfin:=hk { a with defers:=[Ee w.heap.size] ++ a.defers }_ β3 hall htm hmk
         have hnb:r.state≠ .busy:=by
          cases st <;> simp af [J8] at hr2 <;> first | (rw [hr2.1]; simp; done) | cases hend
         refine⟨r.pending,_,run_endLoop hr1 hnb,?_⟩
         cases st with
         | ready =>
          obtain rfl:=Option.some.inj hend
          have hp:r.pending=none:=hr2.2
          rw [hp] at hfin ⊢
          exact hfin
         | busy=>cases hend
         | ret =>
          obtain rfl:=Option.some.inj hend
          have hp:r.pending=some .ret:=hr2.2
          rw [hp] at hfin ⊢
          exact wpIn_ret hfin
         | exit id =>
          obtain rfl:=Option.some.inj hend
          have hp:r.pending=some(.exit id):=hr2.2
          rw [hp] at hfin ⊢
          exact wpIn_exit hfin
      · cases hr
     · cases hr
    · cases hr
   · cases hr
  · cases hnr
 | scope x _=>intro hnr hdr β tm tm' a h h' w e Q hr; simp [aA] at hr
 | goto l=>intro hnr hdr β tm tm' a h h' w e Q hr; simp [aA] at hr
 | refuse s=>intro hnr hdr β tm tm' a h h' w e Q hr; simp [aA] at hr
end Go.Ab
end
section
namespace Go.Ab
open Go
variable {β:Inj}{P:Program}{gl:Nat->Bool}
def HY(tmps:Array Value):ResultVar->Sem Value
 | .tmp t=>pure(tmps.getD t undef)
 | .cell x t=>do loadVar t(<- asAddr(tmps.getD x undef))
theorem JQ(fn:Func)(tmps:Array Value):results fn tmps=(do let vs <- fn.results.mapM(HY tmps); pure(if h:vs.size=1 then vs[0] else .tuple vs)):=by
 unfold results
 congr 1
theorem mB {a:Act}{h:Heap}{w:World}(hs:Sim β h w){tm:List Value}(ht:LRel β tm a.tmps.toList):∀ (l:List ResultVar){vs:List Value},bg P tm h l=some vs->
  ∃ vs',(l.mapM(HY a.tmps)).run P w = .ok vs' w/\LRel β vs vs'
 | [],vs,h=>by simp af [bg,Option.some.injEq] at h; subst h; exact⟨[],by simp,.nil β⟩
 | .tmp t :: l,vs,hr=>by
  simp af [bg] at hr
  obtain⟨vs0,h0,rfl⟩:=Option.map_eq_some_iff.1 hr
  obtain⟨vs',h1,h2⟩:=mB hs ht l h0
  have hv:=ht.getD t
  rw [show a.tmps.toList.getD t undef=a.tmps.getD t undef by simp [List.getD,Array.getD_eq_getD_getElem?]] at hv
  refine⟨a.tmps.getD t undef :: vs',?_,.cons hv h2⟩
  rw [List.mapM_cons]
  simp af [Sem.run_bind,HY,Sem.run_pure,Result.andThen_ok,h1]
 | .cell x t :: l,vs,hr=>by
  simp af [bg] at hr
  split at hr
  · next v hl =>
   obtain⟨vs0,h0,rfl⟩:=Option.map_eq_some_iff.1 hr
   obtain⟨vs',h1,h2⟩:=mB hs ht l h0
   have hv:=ht.getD x
   rw [show a.tmps.toList.getD x undef=a.tmps.getD x undef by simp [List.getD,Array.getD_eq_getD_getElem?]] at hv
   obtain⟨ad,he,v',hrun,hvr⟩:=Gf(P:=P)hs hl hv
   refine⟨v' :: vs',?_,.cons hvr h2⟩
   rw [List.mapM_cons]
   simp af [Sem.run_bind,HY,he,asAddr,Sem.run_pure,Result.andThen_ok,hrun,h1]
  · cases hr
theorem HH {fn:Func}{a:Act}{h:Heap}{w:World}(hs:Sim β h w){tm:List Value}(ht:LRel β tm a.tmps.toList){vs:List Value}(hr:bg P tm h fn.results.toList=some vs) :
  ∃ v',(results fn a.tmps).run P w = .ok v' w/\VRel β(aJ vs)v':=by
 obtain⟨vs',h1,h2⟩:=mB(P:=P)hs ht fn.results.toList hr
 have hm:(fn.results.mapM(HY a.tmps)).run P w = .ok vs'.toArray w:=by
  rw [Array.mapM_eq_mapM_toList]
  simp af [Sem.run_map,h1,Result.andThen_ok]
 refine⟨if h:vs'.toArray.size=1 then vs'.toArray[0] else .tuple vs'.toArray,?_,?_⟩
 · rw [JQ]
  simp af [Sem.run_bind,hm,Result.andThen_ok,Sem.run_pure]
 · match vs,vs',h2 with
  | [],vs',h2=>rw [h2.inv_nil]; exact .tuple rfl fun i v v' h=>by simp at h
  | [v],vs',h2 =>
   obtain⟨v',r,rfl,hv,hr⟩:=h2.inv_cons
   rw [hr.inv_nil]
   exact hv
  | v :: u :: vs,vs',h2 =>
   have hl:=h2.1
   have hne : ¬ vs'.toArray.size=1:=by simp af [List.size_toArray]; simp af [List.length_cons] at hl; omega
   rw [dif_neg hne]
   exact .tuple(by simpa using hl)fun i x x' h3 h4=>h2.2 i x x' (by simpa using h3)(by simpa using h4)
theorem BRel.not_deferred {B:Blk}{sl:Slot}{w:World}(h:BRel β B sl w){d:Option(List Deferred)}(hd:w.heap[sl.b]? = some(.deferred d)):False:=by
 cases B with
 | cells cs t sz wr=>obtain⟨_,_,_,cs',fr,h4,_⟩:=h; rw [hd] at h4; cases h4
 | map es=>obtain⟨_,es',clock,h2,_⟩:=h; rw [hd] at h2; cases h2
 | loop st tm ps asg body ok=>obtain⟨_,r,h2,_⟩:=h; rw [hd] at h2; cases h2
theorem Ds {β₀:Inj}{h₀ h:Heap}{w₀ w:World}(st:Step β₀ h₀ w₀ β h w){b:Nat}{d d' : Option(List Deferred)}(hb:w₀.heap.size<=b)(hd:w.heap[b]? = some(.deferred d)):Step β₀ h₀ w₀ β h(w.putObj b(.deferred d')):=by
 refine⟨st.le,st.next,⟨fun k sl hk=>?_,fun k B sl h1 h2=>?_,st.sim.own,st.sim.wf⟩,?_,st.os,st.tape,st.output,fun b' hb' hw=>?_,st.back,st.fresh,st.keys⟩
 · rw [World.putObj_size]; exact st.sim.lt k sl hk
 · have hB:=st.sim.blk k B sl h1 h2
  refine hB.of_heap(World.putObj_heap_other fun e=>?_)
  rw [<- e] at hd
  exact hB.not_deferred hd
 · rw [World.putObj_size]; exact st.size
 · rw [World.putObj_heap_other(by omega)]
  exact st.kept b' hb' hw
theorem mZ {F:Fence}{n:Nat}{fn:Func}{β₀ β' : Inj}{h₀ h' : Heap}{w₀:World}{tm:List Value}{tmps:Array Value}{vs:List Value}(hres:bg P tm h' fn.results.toList=some vs)(ht:LRel β' tm tmps.toList) :
  ∀ (ms:List Nat)(w' : World),ms.Nodup->(∀ b∈ms,w₀.heap.size<=b/\w'.heap[b]? = some(.deferred(some [])))->Step β₀ h₀ w₀ β' h' w'->LeavesInM F n P fn tmps(lc β₀ h₀ w₀(aJ vs)h')(ms.map Ee) .returning w'
 | [],w',_,_,st=>by
  obtain⟨v',h1,h2⟩:=HH(P:=P)(fn:=fn)(a:={ tmps:=tmps,defers:=[] })st.sim ht hres
  exact⟨v',h1,v',β',rfl,st,h2⟩
 | b :: ms,w',hn,hb,st=>by
  obtain⟨h1,h2⟩:=hb b(by simp)
  obtain⟨hn1,hn2⟩:=List.nodup_cons.1 hn
  refine⟨by simp,.inl⟨b,_,rfl,run_takeDeferred h2,?_⟩⟩
  refine mZ hres ht ms _ hn2(fun b' hm=>?_)(Ds st h1 h2)
  obtain⟨h3,h4⟩:=hb b' (by simp [hm])
  exact⟨h3,by rw [World.putObj_heap_other(by rintro rfl; exact hn1 hm)]; exact h4⟩
def gf(P:Program)(gl:Nat->Bool)(f:FuncId)(p:lU):Prop:=
 ∀ cf,CfOk P gl cf->∀ args h v h',p cf args h=some(v,h')->∀ β w(args' : Array Value),Sim β h w->Gl gl β->LRel β args args'.toList->
  ∃ fn,P.funcs[f]? = some fn/\((fn.body.isSome=true/\Calls P f args' w(lc β h w v h'))\/
   (∃ v' w' β',(callFunc f args').run P w = .ok(.value v')w'/\Step β h w β' h' w'/\VRel β' v v'))
def KH(P:Program)(gl:Nat->Bool)(pr:FuncId->Option lU):Prop:= ∀ f p,pr f=some p->gf P gl f p
def GD(P:Program)(gl:Nat->Bool):Prop:= ∀ cf,CfOk P gl cf->∀ (f:FuncId)(fn:Func)(c d:Code),P.funcs[f]? = some fn->fn.body=some c->Part d c->gX P gl cf d
theorem Bc(hN:bV P){cf:aY}(hcf:CfOk P gl cf){N:Nat}{f:FuncId}{fn:Func}{c:Code}(hf:P.funcs[f]? = some fn)(hb:fn.body=some c)(hd:∀ d,Part d c->gX P gl cf d)
  {args:List Value}{h h' : Heap}{tm:List Value}{e:Exit}{vs:List Value}(hr:aA P gl cf N c(args ++ List.replicate(fn.ntmps - args.length)undef)h=some(e,tm,h'))(he:e = .normal\/e = .ret)
  (hres:bg P tm h' fn.results.toList=some vs){w:World}{args' : Array Value}(hs:Sim β h w)(hg:Gl gl β)(ha:LRel β args args'.toList) :
  Calls P f args' w(lc β h w(aJ vs)h'):=by
 refine(callsIn_wide(n:=0)).1(callsIn_of_wp_marks(F:=Fence.wide)hf hb trivial ?_)
 have hrep:∀ k,LRel β(List.replicate k undef)(List.replicate k undef):=fun k =>⟨rfl,fun i v v' h1 h2=>by
  rw [List.getElem?_replicate] at h1 h2
  split at h1
  · next hi=>rw [if_pos hi] at h2; obtain rfl:=Option.some.inj h1; obtain rfl:=Option.some.inj h2; exact .undef β
  · cases h1⟩
 have ht:LRel β(args ++ List.replicate(fn.ntmps - args.length)undef)(args' ++ Array.replicate(fn.ntmps - args'.size)undef).toList:=by
  have:args'.size=args.length:=by rw [ha.1]; simp
  rw [this]
  simp af [Array.toList_append,Array.toList_replicate]
  exact ha.append(hrep _)
 refine tG(r:=none)hN hcf c(.inl rfl)hd _ hr hs hg ht fun a w' β' hst ht' hd'=>?_
 obtain⟨ms,hms,hnd,hb'⟩:=hd'
 simp af [List.append_nil] at hms
 have key:=mZ(P:=P)(F:=Fence.wide)(n:=0)(fn:=fn)hres ht' ms w' hnd(fun b hm =>⟨(hb' b hm).1,(hb' b hm).2.2.1⟩)hst
 rw [<- hms] at key
 rcases he with rfl | rfl
 · exact key
 · exact key
theorem AH:∀ (l:List(Tmp × Value))(T:Array Value),(l.foldl(fun tmps(p:Tmp × Value)=>tmps.setIfInBounds p.1 p.2)T).toList=pv T.toList l
 | [],_=>rfl
 | p :: l,T=>by
  simp af [List.foldl_cons,pv]
  rw [AH l,pv,Array.toList_setIfInBounds]
theorem LRel.set {l l' : List Value}(h:LRel β l l')(i:Nat){v v' : Value}(hv:VRel β v v'):LRel β(l.set i v)(l'.set i v'):=by
 refine⟨by simp [h.1],fun j u u' h1 h2=>?_⟩
 rw [List.getElem?_set] at h1 h2
 split at h1
 · next he =>
  rw [if_pos he] at h2
  split at h1
  · split at h2
   · obtain rfl:=Option.some.inj h1; obtain rfl:=Option.some.inj h2; exact hv
   · cases h2
  · cases h1
 · next he=>rw [if_neg he] at h2; exact h.2 j u u' h1 h2
theorem C0:∀ (ps:List Tmp){tm tm' args args' : List Value},LRel β tm tm'->LRel β args args'->LRel β(pv tm(ps.zip args))(pv tm' (ps.zip args'))
 | [],_,_,_,_,ht,_=>by simpa [pv] using ht
 | p :: ps,_,_,[],_,ht,ha=>by rw [ha.inv_nil]; simpa [pv] using ht
 | p :: ps,_,_,v :: vs,_,ht,ha=>by
  obtain⟨v',r',rfl,hv,hrr⟩:=ha.inv_cons
  exact C0 ps(ht.set p hv)hrr
theorem eJ {cf:aY}(hD:∀ (d c:Code),Part d c->aW c=true->gX P gl cf d){c:Code}(h:aW c=true):∀ d,Part d c->gX P gl cf d:=fun d hd=>hD d c hd h
theorem QZ(hN:bV P){cf:aY}(hcf:CfOk P gl cf)(hD:∀ (d c:Code),Part d c->aW c=true->gX P gl cf d){N k:Nat}{args:List Value}{h h' : Heap}{v:Value}(hr:mt(aA P gl cf N)k args h=some(v,h')){w:World}{args' : Array Value}{sl:Slot}
  (hs:Sim β h w)(hg:Gl gl β)(ha:LRel β args args'.toList)(hb:β k=some sl) :
  ∃ fn tmps asg body,(Instr.yield sl.b args').run P w = .ok(.round sl.b fn tmps asg body)w/\∀ (r:Option Nat)(n:Nat),RoundIn(ep r)n P sl.b fn tmps asg body w(lc β h w v h'):=by
 unfold mt at hr
 split at hr
 · next tm ps asg body ok hk =>
  split at hr
  · next hlen =>
   split at hr
   · next tm1 h1 hasg =>
    split at hr
    · next tm' ps' asg' body' ok' hk1 =>
     split at hr
     · next e x h2 hbody =>
      split at hr
      · next st2 tm2 ps2 asg2 body2 ok2 b st hk2 hlst =>
       simp af [Option.some.injEq,Prod.mk.injEq] at hr
       obtain⟨rfl,rfl⟩:=hr
       obtain⟨_,lr,hr1,hr2,htm,hps,rfl,rfl⟩:=hs.blk _ _ _ hk hb
       have hsz:args'.size=lr.params.size:=by
        have:=ha.1
        rw [<- Array.length_toList,<- this,hlen,<- hps]; simp
       refine⟨lr.fn,_,lr.assign,lr.body,run_yield hr1 hsz,fun r n=>?_⟩
       simp af [gA,Bool.and_eq_true] at ok
       obtain⟨⟨⟨ok1,ok2'⟩,ok3⟩,ok4⟩:=ok
       have hset:LRel β(pv tm(ps.zip args))((lr.params.zip args').foldl(fun tmps(t,a)=>tmps.setIfInBounds t a)lr.tmps).toList:=by
        rw [<- Array.foldl_toList,Array.toList_zip,hps]
        have:=C0 ps htm ha
        rw [<- AH(ps.zip args'.toList)lr.tmps] at this
        exact this
       refine roundIn_of_wpIn trivial ?_
       refine tG(r:=some sl.b)hN hcf lr.assign(.inr ok3)(eJ hD ok1)_ hasg hs hg(a:={ tmps:=_,defers:=[] })hset fun a1 w1 β1 hst1 ht1 _=>?_
       have hb1:=hst1.le _ _ hb
       obtain⟨_,lr1,hr11,hr12,htm1,hps1,hasg1,hbody1⟩:=hst1.sim.blk _ _ _ hk1 hb1
       have hst2:Step β1 h1 w1 β1(h1.set k(.loop .busy tm' ps' asg' body' ok'))(w1.putObj sl.b(.loop { lr1 with state:= .busy })):=
        Step.at_ hst1.sim hk1 hb1 rfl(vv _ _ _)⟨by assumption,{ lr1 with state:= .busy },World.putObj_heap_same(hst1.sim.lt _ _ hb1).2,rfl,htm1,hps1,hasg1,hbody1⟩
       refine⟨_,run_beginRound hr11 hr12.1,?_⟩
       have hst12:=hst1.trans hst2
       refine tG(r:=some sl.b)hN hcf lr.body(.inr ok4)(eJ hD ok2')_ hbody hst2.sim(hg.mono hst12.le)ht1 fun a2 w2 β2 hst3 ht2 _=>?_
       have hb2:=hst3.le _ _ hb1
       obtain⟨hmap,lr2,hr21,hr22,htm2,hps2,hasg2,hbody2⟩:=hst3.sim.blk _ _ _ hk2 hb2
       have hst13:=hst12.trans hst3
       have fin:∀ jump:Option Code,b=jump.isNone->J8 st(if jump.isNone then .ready else .done)jump->
         ∃ v w',(Instr.endRound sl.b jump).run P w2 = .ok v w'/\lc β h w(.bool b)(h2.set k(.loop st tm2 ps2 asg2 body2 ok2))(.returned v)w':=fun jump hj hst=>by
        refine⟨_,_,run_endRound jump hr21,.bool jump.isNone,β2,rfl,hst13.trans(Step.at_ hst3.sim hk2 hb2 rfl(vv _ _ _)⟨hmap,_,World.putObj_heap_same(hst3.sim.lt _ _ hb2).2,hst,htm2,hps2,hasg2,hbody2⟩),?_⟩
        rw [hj]; exact .bool _
       cases e with
       | normal=>simp af [It,Option.some.injEq,Prod.mk.injEq] at hlst; obtain⟨rfl,rfl⟩:=hlst; exact fin none rfl⟨rfl,rfl⟩
       | ret=>simp af [It,Option.some.injEq,Prod.mk.injEq] at hlst; obtain⟨rfl,rfl⟩:=hlst; exact fin(some .ret)rfl⟨rfl,rfl⟩
       | exit id=>simp af [It,Option.some.injEq,Prod.mk.injEq] at hlst; obtain⟨rfl,rfl⟩:=hlst; exact fin(some(.exit id))rfl⟨rfl,rfl⟩
       | _=>cases hlst
      · cases hr
     · cases hr
    · cases hr
   · cases hr
  · cases hr
 · cases hr
def Do(P:Program)(gl:Nat->Bool):Prop:= ∀ cf,CfOk P gl cf->∀ (d c:Code),Part d c->aW c=true->gX P gl cf d
theorem K8(hN:bV P){pr:FuncId->Option lU}(hp:KH P gl pr)(hD:GD P gl)(hT:Do P gl):∀ n,CfOk P gl(aN P gl pr n)
 | 0 =>⟨fun f args h v h' _ hr=>by simp [aN] at hr,fun k args h v h' hr=>by simp [aN] at hr⟩
 | n + 1=>by
  have ih:=K8 hN hp hD hT n
  refine⟨fun f args h v h' hfY hr β w args' hs hg ha=>?_,fun k args h v h' hr β w args' sl hs hg ha hb=>?_⟩
  · simp af [aN] at hr
   rw [if_neg(by omega)] at hr
   split at hr
   · next p hpf=>exact hp f p hpf _ ih args h v h' hr β w args' hs hg ha
   · split at hr
    · next fn hf =>
     split at hr
     · next c hb =>
      refine⟨fn,hf,.inl⟨by simp [hb],?_⟩⟩
      split at hr
      · next tm h2 hcr =>
       obtain⟨vs,hres,he⟩:=Option.map_eq_some_iff.1 hr
       simp af [Prod.mk.injEq] at he
       obtain⟨rfl,rfl⟩:=he
       exact Bc hN ih hf hb(fun d hd=>hD _ ih f fn c d hf hb hd)hcr(.inl rfl)hres hs hg ha
      · next tm h2 hcr =>
       obtain⟨vs,hres,he⟩:=Option.map_eq_some_iff.1 hr
       simp af [Prod.mk.injEq] at he
       obtain⟨rfl,rfl⟩:=he
       exact Bc hN ih hf hb(fun d hd=>hD _ ih f fn c d hf hb hd)hcr(.inr rfl)hres hs hg ha
      · cases hr
     · cases hr
    · cases hr
  · simp af [aN] at hr
   rw [if_pos(by omega),Nat.add_sub_cancel_left] at hr
   exact QZ hN ih(hT _ ih)hr hs hg ha hb
end Go.Ab
end
section
namespace Go.Ab
open Go
variable {β:Inj}{P:Program}
structure Same(h h' : Heap):Prop where
 next:h.next=h'.next
 get:∀ k,h.get k=h'.get k
theorem Same.refl(h:Heap):Same h h :=⟨rfl,fun _=>rfl⟩
theorem Same.symm {h h' : Heap}(e:Same h h'):Same h' h :=⟨e.next.symm,fun k=>(e.get k).symm⟩
theorem Sim.same {h h' : Heap}{w:World}(e:Same h h')(hs:Sim β h w):Sim β h' w:=
 ⟨fun k sl hk=>by rw [<- e.next]; exact hs.lt k sl hk,fun k B sl h1 h2=>hs.blk k B sl(by rw [e.get]; exact h1)h2,
  fun k k' B B' sl sl' hne h1 h2 h3 h4 h5=>hs.own k k' B B' sl sl' hne(by rw [e.get]; exact h1)(by rw [e.get]; exact h2)h3 h4 h5,
  fun k B hk=>by rw [<- e.next]; exact hs.wf k B(by rw [e.get]; exact hk)⟩
theorem Wr.same {h h' : Heap}(e:Same h h'){b:Nat} : Wr β h b->Wr β h' b:=fun⟨k,B,sl,h1,h2⟩=>⟨k,B,sl,by rw [<- e.get]; exact h1,h2⟩
theorem Step.same {h h₂ h' h₂' : Heap}{β' : Inj}{w w' : World}(e:Same h h₂)(e' : Same h' h₂')(s:Step β h w β' h' w'):Step β h₂ w β' h₂' w':=
 ⟨s.le,by rw [<- e.next,<- e'.next]; exact s.next,s.sim.same e',s.size,s.os,s.tape,s.output,fun b hb hn=>s.kept b hb fun hw=>hn(hw.same e),fun b hb hw=>(s.back b hb(hw.same e'.symm)).same e,
  fun k sl hk=>(s.fresh k sl hk).imp id fun⟨h1,h2⟩=>⟨by rw [<- e.next]; exact h1,h2.imp id fun hw=>hw.same e⟩,
  fun k B hk hlt=>let⟨B₀,h0⟩:=s.keys k B(by rw [e'.get]; exact hk)(by rw [e.next]; exact hlt);⟨B₀,by rw [<- e.get]; exact h0⟩⟩
theorem Sim.sub {V G:Heap}{w:World}(hs:Sim β V w)(hn:G.next=V.next)(hg:∀ k B,G.get k=some B->V.get k=some B):Sim β G w:=
 ⟨fun k sl hk=>by rw [hn]; exact hs.lt k sl hk,fun k B sl h1 h2=>hs.blk k B sl(hg k B h1)h2,fun k k' B B' sl sl' hne h1 h2 h3 h4 h5=>hs.own k k' B B' sl sl' hne(hg k B h1)(hg k' B' h2)h3 h4 h5,
  fun k B hk=>by rw [hn]; exact hs.wf k B(hg k B hk)⟩
theorem Step.frame {G G' V V' : Heap}{β' : Inj}{w w' : World}(s:Step β G w β' G' w')(hv:Sim β V w)(hn:V.next=G.next)(hn' : V'.next=G'.next)(R:Nat->Blk->Prop)
  (hR:∀ k B,R k B->k < G.next/\G.get k=none)(eV:∀ k B,V.get k=some B↔G.get k=some B\/R k B)(eV' : ∀ k B,V'.get k=some B↔G'.get k=some B\/R k B):Step β V w β' V' w':=by
 have hold:∀ k sl,k < G.next->β' k=some sl->β k=some sl:=fun k sl hk hb=>by
  rcases s.fresh k sl hb with h |⟨h,_⟩
  · exact h
  · omega
 have hnw:∀ k B sl,R k B->β k=some sl->¬ Wr β G sl.b:=by
  rintro k B sl hr hb⟨k2,B2,sl2,h1,h2,h3,h4⟩
  have hne:k2≠k:=by rintro rfl; rw [(hR _ _ hr).2] at h1; cases h1
  exact hv.own k2 k B2 B sl2 sl hne((eV _ _).2(.inl h1))((eV _ _).2(.inr hr))h3 hb h2 h4
 have hwr:∀ b,Wr β G b->Wr β V b:=fun b⟨k,B,sl,h1,h2⟩=>⟨k,B,sl,(eV _ _).2(.inl h1),h2⟩
 refine⟨s.le,by rw [hn,hn']; exact s.next,⟨?_,?_,?_,?_⟩,s.size,s.os,s.tape,s.output,fun b hb hw=>s.kept b hb fun h=>hw(hwr b h),?_,?_,?_⟩
 · intro k sl hk
  rw [hn']
  exact s.sim.lt k sl hk
 · intro k B sl h1 h2
  rcases(eV' k B).1 h1 with h1 | h1
  · exact s.sim.blk k B sl h1 h2
  · have hb:=hold k sl(hR _ _ h1).1 h2
   exact((hv.blk k B sl((eV _ _).2(.inr h1))hb).mono s.le).of_heap(s.kept _(hv.lt k sl hb).2(hnw k B sl h1 hb))
 · intro k k' B B' sl sl' hne h1 h2 h3 h4 h5
  rcases(eV' k B).1 h1 with h1 | h1
  · rcases(eV' k' B').1 h2 with h2 | h2
   · exact s.sim.own k k' B B' sl sl' hne h1 h2 h3 h4 h5
   · have hb:=hold k' sl' (hR _ _ h2).1 h4
    intro he
    exact hnw k' B' sl' h2 hb(s.back _(hv.lt k' sl' hb).2⟨k,B,sl,h1,h5,h3,he⟩)
  · have hb:=hold k sl(hR _ _ h1).1 h3
   rcases(eV' k' B').1 h2 with h2 | h2
   · rcases s.fresh k' sl' h4 with h6 |⟨_,h6 | h6⟩
    · have hlt:=(hv.lt k' sl' h6).1
     obtain⟨B₀,h7⟩:=s.keys k' B' h2(by rw [<- hn]; exact hlt)
     exact hv.own k k' B B₀ sl sl' hne((eV _ _).2(.inr h1))((eV _ _).2(.inl h7))hb h6 h5
    · have:=(hv.lt k sl hb).2
     omega
    · intro he
     exact hnw k B sl h1 hb(by rw [he]; exact h6)
   · exact hv.own k k' B B' sl sl' hne((eV _ _).2(.inr h1))((eV _ _).2(.inr h2))hb(hold k' sl' (hR _ _ h2).1 h4)h5
 · intro k B hk
  rw [hn']
  rcases(eV' k B).1 hk with hk | hk
  · exact s.sim.wf k B hk
  · exact Nat.lt_of_lt_of_le(hR _ _ hk).1 s.next
 · rintro b hb⟨k,B,sl,h1,h2,h3,h4⟩
  rcases(eV' k B).1 h1 with h1 | h1
  · exact hwr b(s.back b hb⟨k,B,sl,h1,h2,h3,h4⟩)
  · exact⟨k,B,sl,(eV _ _).2(.inr h1),h2,hold k sl(hR _ _ h1).1 h3,h4⟩
 · intro k sl hk
  rcases s.fresh k sl hk with h |⟨h1,h2⟩
  · exact .inl h
  · exact .inr⟨by rw [hn]; exact h1,h2.imp id(hwr _)⟩
 · intro k B hk hlt
  rcases(eV' k B).1 hk with hk | hk
  · obtain⟨B₀,h0⟩:=s.keys k B hk(by rw [<- hn]; exact hlt)
   exact⟨B₀,(eV _ _).2(.inl h0)⟩
  · exact⟨B,(eV _ _).2(.inr hk)⟩
theorem Allocs.at_key {β₀:Inj}{h₀ V:Heap}{w₀ w w' : World}(st:Step β₀ h₀ w₀ β V w){B:Blk}{f:Nat->Value}{v' : Value}(ha:Allocs β w B f v' w'){k:Nat}(hk:β k=none)(h1:h₀.next<=k)(h2:k < V.next) :
  ∃ β',Step β₀ h₀ w₀ β' (V.set k B)w'/\VRel β' (f k)v'/\β.le β'/\∀ j,j≠k->β' j=β j:=by
 obtain⟨sl,hb,hnew⟩:=ha.new
 have hs:=st.sim
 have hle:β.le(β.ext k sl):=Inj.le_ext sl hk
 obtain⟨hB,hv⟩:=hnew _ k hle(β.ext_same _ _)
 have hlt:∀ k' sl',β k' = some sl'->sl'.b < w.heap.size:=fun k' sl' hk=>(hs.lt k' sl' hk).2
 have hsz:=st.size
 refine⟨β.ext k sl,⟨Inj.le_trans st.le hle,st.next,⟨?_,?_,?_,Heap.wf_set hs.wf B h2⟩,by rw [ha.size]; omega,ha.os.trans st.os,ha.tape.trans st.tape,ha.output.trans st.output,
  fun b hb' hn=>(ha.kept b(by omega)).trans(st.kept b hb' hn),?_,?_,?_⟩,hv,hle,fun j hj=>β.ext_ne sl hj⟩
 · intro k' sl' hk'
  by_cases hkn:k' = k
  · subst hkn
   rw [β.ext_same] at hk'
   obtain rfl:=Option.some.inj hk'
   exact⟨h2,by rw [ha.size,hb]; omega⟩
  · rw [β.ext_ne sl hkn] at hk'
   have:=hs.lt k' sl' hk'
   exact⟨this.1,by rw [ha.size]; omega⟩
 · intro k' B' sl' e1 e2
  by_cases hkn:k' = k
  · subst hkn
   rw [β.ext_same] at e2
   obtain rfl:=Option.some.inj e2
   rw [V.get_set_same] at e1
   obtain rfl:=Option.some.inj e1
   exact hB
  · rw [V.get_set_ne k k' B hkn] at e1
   rw [β.ext_ne sl hkn] at e2
   exact((hs.blk k' B' sl' e1 e2).mono hle).of_heap(ha.kept _(hlt k' sl' e2))
 · intro k₁ k₂ B₁ B₂ sl₁ sl₂ hne e1 e2 e3 e4 e5
  by_cases hk1:k₁=k
  · subst hk1
   rw [β.ext_same] at e3
   obtain rfl:=Option.some.inj e3
   rw [β.ext_ne sl(Ne.symm hne)] at e4
   have:=hlt k₂ sl₂ e4
   omega
  · by_cases hk2:k₂=k
   · subst hk2
    rw [β.ext_same] at e4
    obtain rfl:=Option.some.inj e4
    rw [β.ext_ne sl hne] at e3
    have:=hlt k₁ sl₁ e3
    omega
   · rw [V.get_set_ne k k₁ B hk1] at e1
    rw [V.get_set_ne k k₂ B hk2] at e2
    rw [β.ext_ne sl hk1] at e3
    rw [β.ext_ne sl hk2] at e4
    exact hs.own k₁ k₂ B₁ B₂ sl₁ sl₂ hne e1 e2 e3 e4 e5
 · rintro b hb'⟨k',B',sl',e1,e2,e3,e4⟩
  by_cases hkn:k' = k
  · subst hkn
   rw [β.ext_same] at e3
   obtain rfl:=Option.some.inj e3
   omega
  · rw [V.get_set_ne k k' B hkn] at e1
   rw [β.ext_ne sl hkn] at e3
   exact st.back b hb'⟨k',B',sl',e1,e2,e3,e4⟩
 · intro k' sl' hk'
  by_cases hkn:k' = k
  · subst hkn
   rw [β.ext_same] at hk'
   obtain rfl:=Option.some.inj hk'
   exact .inr⟨h1,.inl(by omega)⟩
  · rw [β.ext_ne sl hkn] at hk'
   exact st.fresh k' sl' hk'
 · intro k' B' e1 hlt'
  rw [V.get_set_ne k k' B(by omega)] at e1
  exact st.keys k' B' e1 hlt'
end Go.Ab
end
section
namespace Go.Ab
open Go
variable {P:Program}{ρ ρ' : Operand->Value}
theorem WJ {l:List(Nat × Operand)}(h:∀ x∈l.map(·.2),ρ x=ρ' x):l.map(fun p=>(p.1,ρ p.2))=l.map(fun p=>(p.1,ρ' p.2)):=
 List.map_congr_left fun p hp=>by rw [h p.2(List.mem_map_of_mem hp)]
theorem Uv {r:Option Operand}(h:∀ x∈r.toList,ρ x=ρ' x):r.map ρ=r.map ρ':=by
 cases r with
 | none=>rfl
 | some x=>simp [h x(by simp)]
theorem XV {l:List(Nat × Operand)}(h:∀ x∈l.map(·.2),ρ x=ρ' x)(q:Value->Bool):(l.all fun p=>q(ρ p.2))=l.all fun p=>q(ρ' p.2):=by
 induction l with
 | nil=>rfl
 | cons p l ih=>simp af [List.all_cons,h p.2(by simp),ih fun x hx=>h x(by simp af [List.map_cons,List.mem_cons]; exact .inr hx)]
theorem ET {o:Oper}(h:∀ x∈o.op.operands,ρ x=ρ' x):aD P ρ o=aD P ρ' o:=by
 obtain⟨dst,op,ty,pos,after,guard⟩:=o
 cases op
 case call c =>
  obtain⟨callee,args,ats⟩:=c
  cases callee with
  | builtin b =>
   have ha:args.toList.map ρ=args.toList.map ρ':=List.map_congr_left fun x hx=>h x(by simpa [Op.operands,Call.operands] using hx)
   cases b <;> simp af [aD,ha]
   split
   · next x t hx ht=>rw [h x(by simp [Op.operands,Call.operands]; exact Array.mem_of_getElem? hx)]
   · rfl
  | _=>rfl
 all_goals first
  | rfl
  | (simp af [Op.operands,Array.mem_append,List.mem_toArray,List.mem_cons,List.not_mem_nil,or_false,forall_eq_or_imp,forall_eq] at h; simp af [aD,h]; done)
  | skip
 case build t ps =>
  simp af [aD]
  rw [WJ fun x hx=>h x(by simpa [Op.operands] using hx)]
 case makeFunc fn first captured =>
  have h1:first.map ρ=first.map ρ':=Array.map_congr_left fun x hx=>h x(by simp [Op.operands,hx])
  have h2:captured.map ρ=captured.map ρ':=Array.map_congr_left fun x hx=>h x(by simp [Op.operands,hx])
  simp af [aD,h1,h2]
theorem Ft {o:Oper}{hp:Heap}(h:∀ x∈o.op.operands,ρ x=ρ' x):aI P ρ o hp=aI P ρ' o hp:=by
 obtain⟨dst,op,ty,pos,after,guard⟩:=o
 cases op
 case call c =>
  obtain⟨callee,args,ats⟩:=c
  cases callee with
  | builtin b =>
   cases b <;> simp af [aI]
   split
   · next x t hx ht=>rw [h x(by simp [Op.operands,Call.operands]; exact Array.mem_of_getElem? hx)]
   · rfl
  | _=>rfl
 all_goals first
  | rfl
  | (simp af [Op.operands,Array.mem_append,List.mem_toArray,List.mem_cons,List.not_mem_nil,or_false,forall_eq_or_imp,forall_eq] at h; simp af [aI,h]; done)
  | skip
 case slice t x l hi m =>
  have h1:ρ x=ρ' x:=h x(by simp [Op.operands])
  have h2:l.map ρ=l.map ρ':=Uv fun x hx=>h x(by simp at hx; simp [Op.operands,hx])
  have h3:hi.map ρ=hi.map ρ':=Uv fun x hx=>h x(by simp at hx; simp [Op.operands,hx])
  have h4:m.map ρ=m.map ρ':=Uv fun x hx=>h x(by simp at hx; simp [Op.operands,hx])
  simp af [aI,h1,h2,h3,h4]
theorem BW {o:Oper}(h:∀ x∈o.op.operands,ρ x=ρ' x):aH P ρ o=aH P ρ' o:=by
 obtain⟨dst,op,ty,pos,after,guard⟩:=o
 cases op
 all_goals first
  | rfl
  | (simp af [Op.operands,List.mem_toArray,List.mem_cons,List.not_mem_nil,or_false,forall_eq_or_imp,forall_eq] at h; simp af [aH,h]; done)
  | skip
 case buildSlice t len ps =>
  have hm:∀ x∈ps.toList.map(·.2),ρ x=ρ' x:=fun x hx=>h x(by simpa [Op.operands] using hx)
  simp af [aH]
  rw [WJ hm,XV hm]
 case makeMap t r =>
  cases r with
  | none=>rfl
  | some x=>simp af [aH,h x(by simp [Op.operands])]
theorem HE {cf:aY}{o:Oper}{hp:Heap}(h:∀ x∈o.op.operands,ρ x=ρ' x):bA P cf ρ o hp=bA P cf ρ' o hp:=by
 obtain⟨dst,op,ty,pos,after,guard⟩:=o
 cases op
 case call c =>
  obtain⟨callee,args,ats⟩:=c
  cases callee with
  | builtin b =>
   have ha:args.toList.map ρ=args.toList.map ρ':=List.map_congr_left fun x hx=>h x(by simpa [Op.operands,Call.operands] using hx)
   cases b <;> simp af [bA,ha]
   all_goals
    split
    · next s x t t' hx ht =>
     have h1:∀ y∈args.toList,ρ y=ρ' y:=fun y hy=>h y(by simpa [Op.operands,Call.operands] using hy)
     rw [hx] at h1
     rw [h1 s(by simp),h1 x(by simp)]
    · rfl
  | value f =>
   have ha:args.toList.map ρ=args.toList.map ρ':=List.map_congr_left fun x hx=>h x(by simp [Op.operands,Call.operands]; right; simpa using hx)
   simp af [bA,ha,h f(by simp [Op.operands,Call.operands])]
  | _=>rfl
 all_goals first
  | rfl
  | (simp af [Op.operands,List.mem_toArray,List.mem_cons,List.not_mem_nil,or_false,forall_eq_or_imp,forall_eq] at h; simp af [bA,h]; done)
  | skip
end Go.Ab
end
section
namespace Go.Ab
open Go Region
structure Topo(ops:Array Oper)(L:List Nat):Prop where
 mem:∀ i,i∈L↔i < ops.size
 nodup:L.Nodup
 deps:∀ pre i suf,L=pre ++ i :: suf->∀ o,ops[i]? = some o->∀ e∈o.after,binds .any e=true->e.on∈pre
theorem Nv {m:Region.Mode}{e:Edge}(h:binds .any e=true):binds m e=true:=by
 unfold binds at *
 split at h
 · simp at h
 · simp at h
 · rfl
def Uf(m:Region.Mode)(ops:Array Oper)(listed:Array Bool)(i:Nat):Prop:=
 listed.getD i true=false/\∃ o,ops[i]? = some o/\∀ e∈o.after,binds m e=true->listed.getD e.on false=true
theorem mem_ready' {m:Region.Mode}{ops:Array Oper}{listed:Array Bool}{i:Nat} :
  i∈(List.range ops.size).filter(fun i=>!listed.getD i true && ((ops[i]?).map(·.after.all fun e=>!binds m e || listed.getD e.on false)).getD false)↔i < ops.size/\Uf m ops listed i:=by
 simp af [List.mem_filter,List.mem_range,Bool.and_eq_true,Bool.not_eq_true',Uf]
 refine⟨fun⟨h1,h2,h3⟩=>⟨h1,h2,?_⟩,fun⟨h1,h2,o,h3,h4⟩=>⟨h1,h2,?_⟩⟩
 · rw [Array.getElem?_eq_getElem h1] at h3
  simp af [Option.map_some,Option.getD_some,Array.all_eq_true'] at h3
  refine⟨_,Array.getElem?_eq_getElem h1,fun e he hb=>?_⟩
  have:=h3 e he
  rw [hb] at this
  simpa using this
 · rw [h3]
  simp af [Option.map_some,Option.getD_some,Array.all_eq_true']
  intro e he
  cases hb:binds m e with
  | false=>rfl
  | true=>simp [h4 e he hb]
def bH(ops:Array Oper)(listed:Array Bool):List Nat:=(List.range ops.size).filter fun i=>!listed.getD i true
theorem Bl {l:Array Bool}{i j:Nat}(d:Bool)(hi:i < l.size):(l.setIfInBounds i true).getD j d=if j=i then true else l.getD j d:=by
 simp af [Array.getD_eq_getD_getElem?,Array.getElem?_setIfInBounds]
 by_cases h:i=j
 · subst h; simp [hi]
 · rw [if_neg h,if_neg(Ne.symm h)]
theorem Hc(m:Region.Mode)(ops:Array Oper) :
  ∀ (fuel t:Nat)(listed:Array Bool)(acc:List Nat),listed.size=ops.size->(∀ i,i∈acc↔i < ops.size/\listed.getD i true=true)->acc.Nodup->
   (∀ pre i suf,acc.reverse=pre ++ i :: suf->∀ o,ops[i]? = some o->∀ e∈o.after,binds m e=true->e.on∈pre)->
   let L:=linearise.go m ops fuel t listed acc
   (∀ i,i∈L->i < ops.size)/\L.Nodup/\∀ pre i suf,L=pre ++ i :: suf->∀ o,ops[i]? = some o->∀ e∈o.after,binds m e=true->e.on∈pre
 | 0,t,listed,acc,hs,ha,hn,hd=>by
  simp af [linearise.go]
  exact⟨fun i hi=>((ha i).1(List.mem_reverse.1 hi)).1,(List.reverse_perm acc).nodup_iff.2 hn,hd⟩
 | fuel + 1,t,listed,acc,hs,ha,hn,hd=>by
  simp af [linearise.go]
  split
  · next i hi =>
   have hi:=List.mem_of_getElem? hi
   obtain⟨hib,hfree,o,ho,hdep⟩:=mem_ready'.1 hi
   have hisz:i < listed.size:=by omega
   have hia:i ∉ acc:=fun h=>by have:=((ha i).1 h).2; rw [hfree] at this; cases this
   have hdep' : ∀ e∈o.after,binds m e=true->e.on∈acc.reverse:=fun e he hb=>by
    rw [List.mem_reverse,ha]
    have hl:=hdep e he hb
    have:e.on < listed.size:=by
     rcases Nat.lt_or_ge e.on listed.size with h5 | h5
     · exact h5
     · simp [Array.getD_eq_getD_getElem?,Array.getElem?_eq_none h5] at hl
    exact⟨by omega,by simp af [Array.getD_eq_getD_getElem?,Array.getElem?_eq_getElem this] at hl ⊢; exact hl⟩
   refine Hc m ops fuel(t / _)(listed.setIfInBounds i true)(i :: acc)(by simpa using hs) ?_(List.nodup_cons.2⟨hia,hn⟩) ?_
   · intro j
    rw [List.mem_cons,ha,Bl _ hisz]
    constructor
    · rintro(rfl |⟨h3,h4⟩)
     · exact⟨hib,by simp⟩
     · exact⟨h3,by split <;> simp_all⟩
    · rintro⟨h3,h4⟩
     split at h4
     · next he=>exact .inl he
     · exact .inr⟨h3,h4⟩
   · intro pre j suf heq o' ho' e he hb
    rw [List.reverse_cons] at heq
    rcases List.append_eq_append_iff.1 heq with⟨as,h3,h4⟩|⟨bs,h3,h4⟩
    · cases as with
     | nil =>
      simp af [List.nil_append,List.cons.injEq] at h4
      obtain⟨rfl,rfl⟩:=h4
      rw [ho] at ho'
      obtain rfl:=Option.some.inj ho'
      rw [h3,List.append_nil]
      exact hdep' e he hb
     | cons a as =>
      simp af [List.cons_append,List.cons.injEq] at h4
      obtain⟨_,h4⟩:=h4
      have:=congrArg List.length h4
      simp at this
    · cases bs with
     | nil =>
      simp af [List.nil_append,List.cons.injEq] at h4
      obtain⟨rfl,rfl⟩:=h4
      rw [ho] at ho'
      obtain rfl:=Option.some.inj ho'
      have h3' : pre=acc.reverse:=by simpa using h3.symm
      rw [h3']
      exact hdep' e he hb
     | cons b bs =>
      simp af [List.cons_append,List.cons.injEq] at h4
      obtain⟨rfl,_⟩:=h4
      exact hd pre j bs h3 o' ho' e he hb
  · exact⟨fun i hi=>((ha i).1(List.mem_reverse.1 hi)).1,(List.reverse_perm acc).nodup_iff.2 hn,hd⟩
theorem QT(m:Region.Mode)(ops:Array Oper)(prog:∀ listed:Array Bool,listed.size=ops.size->(∃ i,i < ops.size/\listed.getD i true=false)->∃ i,i < ops.size/\Uf m ops listed i) :
  ∀ (fuel t:Nat)(listed:Array Bool)(acc:List Nat),listed.size=ops.size->(bH ops listed).length<=fuel->(∀ i,i < ops.size->listed.getD i true=true->i∈acc)->
   ∀ i,i < ops.size->i∈linearise.go m ops fuel t listed acc
 | 0,t,listed,acc,hs,hl,ha=>fun i h=>by
  simp af [linearise.go]
  rw [List.mem_reverse]
  refine ha i h ?_
  cases hg:listed.getD i true with
  | true=>rfl
  | false =>
   have:i∈bH ops listed:=List.mem_filter.2⟨List.mem_range.2 h,by rw [hg]; rfl⟩
   have:=List.length_pos_of_mem this
   omega
 | fuel + 1,t,listed,acc,hs,hl,ha=>by
  simp af [linearise.go]
  split
  · next i hi =>
   have hi:=List.mem_of_getElem? hi
   obtain⟨hib,hfree,_⟩:=mem_ready'.1 hi
   have hisz:i < listed.size:=by omega
   refine QT m ops prog fuel(t / _)(listed.setIfInBounds i true)(i :: acc)(by simpa using hs) ?_ ?_
   · have hsub:∀ j,j∈bH ops(listed.setIfInBounds i true)->j∈bH ops listed/\j≠i:=by
     intro j hj
     simp af [bH,List.mem_filter,List.mem_range,Bool.not_eq_true',Bl _ hisz] at hj ⊢
     split at hj
     · exact absurd hj.2(by simp)
     · next hne=>exact⟨hj,hne⟩
    have him:i∈bH ops listed:=List.mem_filter.2⟨List.mem_range.2 hib,by rw [hfree]; rfl⟩
    have hnd:(bH ops(listed.setIfInBounds i true)).Nodup:=List.Pairwise.filter _ List.nodup_range
    have:(bH ops(listed.setIfInBounds i true)).length<=((bH ops listed).erase i).length:=by
     refine List.Nodup.length_le_of_subset hnd fun j hj=>?_
     obtain⟨h3,h4⟩:=hsub j hj
     exact(List.mem_erase_of_ne h4).2 h3
    rw [List.length_erase_of_mem him] at this
    omega
   · intro j hj hg
    rw [Bl _ hisz] at hg
    split at hg
    · next he=>exact List.mem_cons.2(.inl he)
    · exact List.mem_cons.2(.inr(ha j hj hg))
  · next hnone =>
   intro i hi
   rw [List.mem_reverse]
   cases hg:listed.getD i true with
   | true=>exact ha i hi hg
   | false =>
    obtain⟨i0,h1,h2⟩:=prog listed hs⟨i,hi,hg⟩
    have hmem:=mem_ready'.2⟨h1,h2⟩
    generalize(List.range ops.size).filter(fun i=>!listed.getD i true && ((ops[i]?).map(·.after.all fun e=>!binds m e || listed.getD e.on false)).getD false)=rs at hmem hnone
    have hpos:0 < rs.length:=List.length_pos_of_mem hmem
    rw [List.getElem?_eq_getElem(Nat.mod_lt _ hpos)] at hnone
    cases hnone
theorem H9(ops:Array Oper)(listed:Array Bool):(bH ops listed).length<=ops.size:=by
 have:=List.length_filter_le(fun i=>!listed.getD i true)(List.range ops.size)
 simpa [bH] using this
theorem CI(m:Region.Mode)(ops:Array Oper)(t:Nat) :
  (∀ i,i∈linearise m ops t->i < ops.size)/\(linearise m ops t).Nodup/\∀ pre i suf,linearise m ops t=pre ++ i :: suf->∀ o,ops[i]? = some o->∀ e∈o.after,binds m e=true->e.on∈pre:=by
 refine Hc m ops ops.size t _ [] (by simp)(fun i=>?_)List.nodup_nil(fun pre i suf h=>by simp at h)
 simp af [List.not_mem_nil,false_iff,not_and]
 intro hi
 simp [Array.getD_eq_getD_getElem?,hi]
theorem RX(m:Region.Mode)(ops:Array Oper)(t:Nat)(prog:∀ listed:Array Bool,listed.size=ops.size->(∃ i,i < ops.size/\listed.getD i true=false)->∃ i,i < ops.size/\Uf m ops listed i) :
  ∀ i,i < ops.size->i∈linearise m ops t:=by
 refine QT m ops prog ops.size t _ [] (by simp)(H9 _ _)fun i hi hg=>?_
 simp [Array.getD_eq_getD_getElem?,hi] at hg
def Back(ops:Array Oper):Prop:= ∀ i o,ops[i]? = some o->∀ e∈o.after,e.on < i\/binds .any e=false/\binds .text e=false
theorem TF {p:Nat->Prop} [DecidablePred p] : ∀ (n:Nat),(∃ i,i < n/\p i)->∃ i,i < n/\p i/\∀ j,j < i->¬ p j
 | 0,⟨_,h,_⟩=> absurd h(by omega)
 | n + 1,h=>by
  by_cases h' : ∃ i,i < n/\p i
  · obtain⟨i,h1,h2,h3⟩:=TF n h'
   exact⟨i,by omega,h2,h3⟩
  · obtain⟨i,h1,h2⟩:=h
   refine⟨i,h1,h2,fun j hj hp=>h'⟨j,by omega,hp⟩⟩
theorem De {m:Region.Mode}{ops:Array Oper}(hb:∀ i o,ops[i]? = some o->∀ e∈o.after,binds m e=true->e.on < i) :
  ∀ listed:Array Bool,listed.size=ops.size->(∃ i,i < ops.size/\listed.getD i true=false)->∃ i,i < ops.size/\Uf m ops listed i:=by
 intro listed hs hex
 obtain⟨i,h1,h2,h3⟩:=TF ops.size hex
 refine⟨i,h1,h2,ops[i],Array.getElem?_eq_getElem h1,fun e he hbe=>?_⟩
 have hlt:=hb i _(Array.getElem?_eq_getElem h1)e he hbe
 have hsz:e.on < listed.size:=by omega
 have:=h3 e.on hlt
 simp af [Array.getD_eq_getD_getElem?,Array.getElem?_eq_getElem hsz,Option.getD_some,Bool.not_eq_false] at this ⊢
 exact this
theorem GR {p:Nat->Prop} [DecidablePred p] : ∀ (L:List Nat),(∃ i∈L,p i)->∃ pre i suf,L=pre ++ i :: suf/\p i/\∀ j∈pre,¬ p j
 | [],⟨_,h,_⟩=> by cases h
 | x :: L,h=>by
  by_cases hx:p x
  · exact⟨[],x,L,rfl,hx,fun j hj=>by cases hj⟩
  · obtain⟨i,h1,h2⟩:=h
   rcases List.mem_cons.1 h1 with rfl | h1
   · exact absurd h2 hx
   · obtain⟨pre,j,suf,rfl,h3,h4⟩:=GR L⟨i,h1,h2⟩
    refine⟨x :: pre,j,suf,rfl,h3,fun y hy=>?_⟩
    rcases List.mem_cons.1 hy with rfl | hy
    · exact hx
    · exact h4 y hy
theorem Nh {m:Region.Mode}{ops:Array Oper}(hc:(linearise m ops 0).length=ops.size) :
  ∀ listed:Array Bool,listed.size=ops.size->(∃ i,i < ops.size/\listed.getD i true=false)->∃ i,i < ops.size/\Uf m ops listed i:=by
 intro listed hs hex
 obtain⟨h1,h2,h3⟩:=CI m ops 0
 have hall:∀ i,i < ops.size->i∈linearise m ops 0:=by
  intro i hi
  refine Classical.byContradiction fun hn=>?_
  have hnd:(i :: linearise m ops 0).Nodup:=List.nodup_cons.2⟨hn,h2⟩
  have:=List.Nodup.length_le_of_subset(l₂:=List.range ops.size)hnd fun j hj=>by
   rcases List.mem_cons.1 hj with rfl | hj
   · exact List.mem_range.2 hi
   · exact List.mem_range.2(h1 j hj)
  simp at this
  omega
 obtain⟨i,hi,hf⟩:=hex
 obtain⟨pre,j,suf,heq,h4,h5⟩:=GR(p:=fun i=>listed.getD i true=false)_⟨i,hall i hi,hf⟩
 have hj:j < ops.size:=h1 j(by rw [heq]; simp)
 refine⟨j,hj,h4,ops[j],Array.getElem?_eq_getElem hj,fun e he hbe=>?_⟩
 have hm:=h3 pre j suf heq _(Array.getElem?_eq_getElem hj)e he hbe
 have:=h5 _ hm
 have hsz:e.on < listed.size:=by
  have:=h1 e.on(by rw [heq]; simp [hm])
  omega
 simp af [Array.getD_eq_getD_getElem?,Array.getElem?_eq_getElem hsz,Option.getD_some,Bool.not_eq_false] at this ⊢
 exact this
theorem qH {ops:Array Oper}(hb:Back ops)(hc:departs ops=true->(linearise .gc ops 0).length=ops.size)(mixed:Bool)(t:Nat):Topo ops(schedule mixed ops t):=by
 have key:∀ (m:Region.Mode)(t:Nat),(∀ listed:Array Bool,listed.size=ops.size->(∃ i,i < ops.size/\listed.getD i true=false)->∃ i,i < ops.size/\Uf m ops listed i)->Topo ops(linearise m ops t):=by
  intro m t hp
  obtain⟨h1,h2,h3⟩:=CI m ops t
  exact⟨fun i =>⟨h1 i,RX m ops t hp i⟩,h2,fun pre i suf h o ho e he hbe=>h3 pre i suf h o ho e he(Nv hbe)⟩
 have hany:∀ i o,ops[i]? = some o->∀ e∈o.after,binds .any e=true->e.on < i:=fun i o ho e he hbe=>by
  rcases hb i o ho e he with h |⟨h,_⟩
  · exact h
  · rw [h] at hbe; cases hbe
 have htext:∀ i o,ops[i]? = some o->∀ e∈o.after,binds .text e=true->e.on < i:=fun i o ho e he hbe=>by
  rcases hb i o ho e he with h |⟨_,h⟩
  · exact h
  · rw [h] at hbe; cases hbe
 unfold schedule
 split
 · exact key _ _(De hany)
 · next hd =>
  split
  · exact key _ _(De htext)
  · refine key _ _(Nh(hc ?_))
   simp af [Bool.or_eq_true,Bool.not_eq_true',not_or,Bool.not_eq_false] at hd
   exact hd.2
end Go.Ab
end
section
namespace Go.Ab
open Go
variable {P:Program}{gl:Nat->Bool}
theorem pV {e:Value->Value->Bool}(he:∀ a b,e a b=true->a=b):∀ {x y:List Value},Ix e x y=true->x=y
 | [],[],_=>rfl
 | [],_ :: _,h=>by simp [Ix] at h
 | _ :: _,[],h=>by simp [Ix] at h
 | a :: x,b :: y,h=>by
  simp af [Ix,Bool.and_eq_true] at h
  rw [he a b h.1,pV he h.2]
theorem iZ:∀ (d:Nat)(a b:Value),cP d a b=true->a=b
 | 0,_,_,h=>by simp [cP] at h
 | d + 1,a,b,h=>by
  have ih:=iZ d
  have hl:∀ {x y:Array Value},Ix(cP d)x.toList y.toList=true->x=y:=fun hxy=>Array.ext' (pV ih hxy)
  unfold cP at h
  split at h
  · simpa using h
  · simp af [Bool.and_eq_true,decide_eq_true_eq] at h; rw [h.1,h.2]
  · next x y =>
   simp af [decide_eq_true_eq] at h
   have:x=y:=by
    obtain⟨x⟩:=x; obtain⟨y⟩:=y
    congr 1
    exact Array.ext' h
   rw [this]
  · rfl
  · simp af [Bool.and_eq_true,decide_eq_true_eq] at h; rw [h.1,h.2]
  · simp af [Bool.and_eq_true,decide_eq_true_eq] at h; rw [h.1,h.2]
  · simp af [Bool.and_eq_true,decide_eq_true_eq] at h; rw [h.1.1.1,h.1.1.2,h.1.2,h.2]
  · rfl
  · simp af [decide_eq_true_eq] at h; rw [h]
  · rfl
  · rfl
  · simp af [Bool.and_eq_true,decide_eq_true_eq] at h; rw [h.1.1,hl h.1.2,hl h.2]
  · simp af [Bool.and_eq_true,decide_eq_true_eq] at h; rw [h.1,ih _ _ h.2]
  · rw [hl h]
  · rw [hl h]
  · cases h
structure Ordd(ops:Array Oper)(bf:Nat->Nat->Bool):Prop where
 lt:∀ j i,bf j i=true->i < j
 trans:∀ k j i,bf k j=true->bf j i=true->bf k i=true
 topo:∀ L,Topo ops L->∀ pre j suf,L=pre ++ j :: suf->∀ i,bf j i=true->i∈pre
 names:∀ (j:Nat)(o:Oper)(t:Tmp),ops[j]? = some o->Operand.tmp t∈o.op.operands->∀ (i:Nat)(o' : Oper),ops[i]? = some o'->o'.dst=some t->i=j\/bf j i=true\/bf i j=true
 guards:∀ (j:Nat)(o:Oper)(i:Nat)(b:Bool),ops[j]? = some o->o.guard=some(i,b)->bf j i=true
 uniq:∀ (i j:Nat)(o o' : Oper)(t:Tmp),ops[i]? = some o->ops[j]? = some o'->o.dst=some t->o'.dst=some t->i=j
abbrev IO:=List Value × Heap × List(Nat × Blk)
def One(P:Program)(gl:Nat->Bool)(cf:aY)(ops:Array Oper)(bf:Nat->Nat->Bool)(base j:Nat)(o:Oper)(s:IO)(e:Ent)(s' : IO):Prop:=
 match e with
 | .skip=>cp ops s.1 o=some false/\s' = (dj s.1 o.dst undef,s.2.1,s.2.2)
 | .pure v=>cp ops s.1 o=some true/\aD P(ev gl s.1)o=some v/\s' = (dj s.1 o.dst v,s.2.1,s.2.2)
 | .read v=>cp ops s.1 o=some true/\aI P(ev gl s.1)o s.2.1=some v/\s' = (dj s.1 o.dst v,s.2.1,s.2.2)
 | .alloc B v=>cp ops s.1 o=some true/\(∃ f,aH P(ev gl s.1)o=some(B,f)/\v=f(base + j))/\s' = (dj s.1 o.dst v,s.2.1,(j,B) :: s.2.2)
 | .eff v h'=>cp ops s.1 o=some true/\(∃ u,bA P cf(ev gl s.1)o(aE s.2.1 base(s.2.2.filter fun p=>bf j p.1))=some(v,u)/\h' = u.app(aE s.2.1 base(s.2.2.filter fun p=>bf j p.1)))/\
   s' = (dj s.1 o.dst v,h',s.2.2.filter fun p=>!bf j p.1)
theorem oH {cf:aY}{ops:Array Oper}{bf:Nat->Nat->Bool}{base:Nat} : ∀ (rest:List Oper)(j:Nat)(s:IO)(recs:List(List Value × Ent))(out:IO),
  bD P gl cf ops bf base rest j s.1 s.2.1 s.2.2=some(recs,out)->∃ (st:Nat->IO)(en:Nat->Ent),st j=s/\st(j + rest.length)=out/\recs.length=rest.length/\
   ∀ i o,rest[i]? = some o->One P gl cf ops bf base(j + i)o(st(j + i))(en(j + i))(st(j + i + 1))/\recs[i]? = some((st(j + i)).1,en(j + i))
 | [],j,s,recs,out,h=>by
  simp af [bD,Option.some.injEq,Prod.mk.injEq] at h
  obtain⟨rfl,rfl⟩:=h
  exact⟨fun _=>s,fun _=>.skip,rfl,rfl,rfl,fun i o ho=>by simp at ho⟩
 | o :: rest,j,s,recs,out,h=>by
  have key:∀ (e:Ent)(s' : IO)(r:List(List Value × Ent) × IO),One P gl cf ops bf base j o s e s'->bD P gl cf ops bf base rest(j + 1)s'.1 s'.2.1 s'.2.2=some r->((s.1,e) :: r.1,r.2)=(recs,out)->
    ∃ (st:Nat->IO)(en:Nat->Ent),st j=s/\st(j + (o :: rest).length)=out/\recs.length=(o :: rest).length/\
     ∀ i o',(o :: rest)[i]? = some o'->One P gl cf ops bf base(j + i)o' (st(j + i))(en(j + i))(st(j + i + 1))/\recs[i]? = some((st(j + i)).1,en(j + i)):=by
   intro e s' r hone hr heq
   obtain⟨st,en,h1,h2,h3,h4⟩:=oH rest(j + 1)s' r.1 r.2 hr
   simp af [Prod.mk.injEq] at heq
   obtain⟨rfl,rfl⟩:=heq
   refine⟨fun i=>if i=j then s else st i,fun i=>if i=j then e else en i,by simp,?_,by simp [h3],?_⟩
   · have hne : ¬ j + (o :: rest).length=j:=by simp af [List.length_cons]; omega
    simp af [if_neg hne]
    rw [<- h2]; congr 1; simp af [List.length_cons]; omega
   · intro i o' ho
    cases i with
    | zero =>
     simp af [List.getElem?_cons_zero,Option.some.injEq] at ho
     subst ho
     simp af [Nat.add_zero,if_true,List.getElem?_cons_zero,and_true]
     rw [if_neg(by omega),h1]
     exact hone
    | succ i =>
     simp af [List.getElem?_cons_succ] at ho ⊢
     obtain⟨h5,h6⟩:=h4 i o' ho
     simp af [if_neg(show ¬ j + (i + 1)=j by omega),if_neg(show ¬ j + (i + 1) + 1=j by omega)]
     rw [show j + (i + 1)=j + 1 + i by omega]
     exact⟨h5,h6⟩
  simp af [bD] at h
  split at h
  · cases h
  · next hw =>
   obtain⟨r,hr,he⟩:=Option.map_eq_some_iff.1 h
   exact key .skip(dj s.1 o.dst undef,s.2.1,s.2.2)r⟨hw,rfl⟩hr he
  · next hw =>
   split at h
   · next v hv =>
    obtain⟨r,hr,he⟩:=Option.map_eq_some_iff.1 h
    exact key(.pure v)(dj s.1 o.dst v,s.2.1,s.2.2)r⟨hw,hv,rfl⟩hr he
   · split at h
    · next v hv =>
     obtain⟨r,hr,he⟩:=Option.map_eq_some_iff.1 h
     exact key(.read v)(dj s.1 o.dst v,s.2.1,s.2.2)r⟨hw,hv,rfl⟩hr he
    · split at h
     · next B f hv =>
      obtain⟨r,hr,he⟩:=Option.map_eq_some_iff.1 h
      exact key(.alloc B(f(base + j)))(dj s.1 o.dst(f(base + j)),s.2.1,(j,B) :: s.2.2)r⟨hw,⟨f,hv,rfl⟩,rfl⟩hr he
     · split at h
      · next v u hv =>
       obtain⟨r,hr,he⟩:=Option.map_eq_some_iff.1 h
       exact key(.eff v _)(dj s.1 o.dst v,_,_)r⟨hw,⟨u,hv,rfl⟩,rfl⟩hr he
      · cases h
def Ent.isEff:Ent->Bool
 | .eff ..=>true
 | _=>false
structure Run(P:Program)(gl:Nat->Bool)(cf:aY)(ops:Array Oper)(bf:Nat->Nat->Bool)(base:Nat)(st:Nat->IO)(en:Nat->Ent):Prop where
 one:∀ i o,ops[i]? = some o->One P gl cf ops bf base i o(st i)(en i)(st(i + 1))
 chain:∀ e₁ e₂,e₁ < e₂->e₂ < ops.size->(en e₁).isEff=true->(en e₂).isEff=true->bf e₂ e₁=true
 reads:∀ j o v,ops[j]? = some o->en j = .read v->∀ c,c<=ops.size->(∀ e,e < c->(en e).isEff=true->bf e j=false)->(∀ e,c<=e->e < ops.size->(en e).isEff=true->bf j e=false)->
  aI P(ev gl(st j).1)o(st c).2.1=some v
section
variable {cf:aY}{ops:Array Oper}{bf:Nat->Nat->Bool}{base:Nat}{st:Nat->IO}{en:Nat->Ent}
theorem One.heap {j:Nat}{o:Oper}{s s' : IO}{e:Ent}(h:One P gl cf ops bf base j o s e s'):(∀ v h',e = .eff v h'->s'.2.1=h')/\(e.isEff=false->s'.2.1=s.2.1):=by
 cases e <;> simp af [One] at h
 · exact⟨(fun v h' he=>by cases he),fun _=>by rw [h.2]⟩
 · exact⟨(fun v h' he=>by cases he),fun _=>by rw [h.2.2]⟩
 · exact⟨(fun v h' he=>by cases he),fun _=>by rw [h.2.2]⟩
 · exact⟨(fun v h' he=>by cases he),fun _=>by rw [h.2.2]⟩
 · exact⟨(fun v h' he=>by cases he; rw [h.2.2]),fun he=>by simp [Ent.isEff] at he⟩
theorem One.tm {j:Nat}{o:Oper}{s s' : IO}{e:Ent}(h:One P gl cf ops bf base j o s e s'):s'.1=dj s.1 o.dst e.val:=by
 cases e <;> simp af [One] at h
 · rw [h.2]; rfl
 · rw [h.2.2]; rfl
 · rw [h.2.2]; rfl
 · rw [h.2.2]; rfl
 · rw [h.2.2]; rfl
theorem nn(trans:∀ k j i,bf k j=true->bf j i=true->bf k i=true):∀ (recs:List(List Value × Ent))(i x:Nat)(hx:Heap),bT bf((x,hx) :: bR recs i)=true->
  ∀ k r,recs[k]? = some r->r.2.isEff=true->bf(i + k)x=true
 | [],i,x,hx,h,k,r,hr,he=>by simp at hr
 | (tm,e) :: recs,i,x,hx,h,k,r,hr,he=>by
  cases e with
  | eff v h' =>
   simp af [bR,bT,Bool.and_eq_true] at h
   cases k with
   | zero=>exact h.1
   | succ k =>
    have:=nn trans recs(i + 1)i h' h.2 k r(by simpa using hr)he
    rw [show i + (k + 1)=i + 1 + k by omega]
    exact trans _ _ _ this h.1
  | _ =>
   simp af [bR] at h
   cases k with
   | zero =>
    simp af [List.getElem?_cons_zero,Option.some.injEq] at hr
    subst hr
    simp [Ent.isEff] at he
   | succ k =>
    have:=nn trans recs(i + 1)x hx h k r(by simpa using hr)he
    rw [show i + (k + 1)=i + 1 + k by omega]
    exact this
theorem FO {x:Nat × Heap}{l:List(Nat × Heap)}(h:bT bf(x :: l)=true):bT bf l=true:=by
 cases l with
 | nil=>rfl
 | cons y l=>simp af [bT,Bool.and_eq_true] at h; exact h.2
theorem qO(trans:∀ k j i,bf k j=true->bf j i=true->bf k i=true):∀ (recs:List(List Value × Ent))(i:Nat),bT bf(bR recs i)=true->
  ∀ k₁ k₂ r₁ r₂,k₁ < k₂->recs[k₁]? = some r₁->recs[k₂]? = some r₂->r₁.2.isEff=true->r₂.2.isEff=true->bf(i + k₂)(i + k₁)=true
 | [],i,h,k₁,k₂,r₁,r₂,hlt,h1,h2,e1,e2=>by simp at h1
 | (tm,e) :: recs,i,h,k₁,k₂,r₁,r₂,hlt,h1,h2,e1,e2=>by
  cases k₂ with
  | zero=>omega
  | succ k₂ =>
   have h2' : recs[k₂]? = some r₂:=by simpa using h2
   cases k₁ with
   | zero =>
    simp af [List.getElem?_cons_zero,Option.some.injEq] at h1
    subst h1
    cases e with
    | eff v h' =>
     simp af [bR] at h
     have:=nn trans recs(i + 1)i h' h k₂ r₂ h2' e2
     rw [show i + (k₂ + 1)=i + 1 + k₂ by omega]
     exact this
    | _=>simp [Ent.isEff] at e1
   | succ k₁ =>
    have ht:bT bf(bR recs(i + 1))=true:=by
     cases e with
     | eff v h'=>simp af [bR] at h; exact FO h
     | _=>simpa af [bR] using h
    have:=qO trans recs(i + 1)ht k₁ k₂ r₁ r₂(by omega)(by simpa using h1)h2' e1 e2
    rw [show i + (k₂ + 1)=i + 1 + k₂ by omega,show i + (k₁ + 1)=i + 1 + k₁ by omega]
    exact this
theorem oM {o:Oper}{tm:List Value}{v:Value}{h:Heap}(hs:dJ P gl o tm v h=true):aI P(ev gl tm)o h=some v:=by
 unfold dJ at hs
 split at hs
 · next v' hv'=>rw [iZ _ _ _ hs]; exact hv'
 · cases hs
theorem iM {j:Nat}{o:Oper}{tm:List Value}{v:Value}{N:Nat}(hj:j < N)(hown:∀ c,c<=N->(∀ e,j<=e->e < c->(en e).isEff=false)->(∀ e,c<=e->e < j->(en e).isEff=false)->aI P(ev gl tm)o(st c).2.1=some v) :
  ∀ (recs:List(List Value × Ent))(i:Nat)(own:Bool),(∀ k r,recs[k]? = some r->r.2=en(i + k))->i + recs.length=N->
  (∀ k,i<=k->k < i + recs.length->(∀ v h',en k = .eff v h'->(st(k + 1)).2.1=h')/\((en k).isEff=false->(st(k + 1)).2.1=(st k).2.1))->
  (own=true->∀ e,j<=e->e < i->(en e).isEff=false)->
  fK P gl bf j o tm v(st i).2.1(bR recs i)own=true->∀ c,i<=c->c<=i + recs.length->(∀ e,i<=e->e < c->(en e).isEff=true->bf e j=false)->
  (∀ e,c<=e->e < i + recs.length->(en e).isEff=true->bf j e=false)->aI P(ev gl tm)o(st c).2.1=some v
 | [],i,own,hen,hN,hst,hp,h,c,h1,h2,h3,h4=>by
  simp af [bR,fK,Bool.or_eq_true] at h
  simp af [List.length_nil] at h2 hN
  obtain rfl:c=i:=by omega
  rcases h with h | h
  · exact hown c(by omega)(hp h)(fun e he1 he2=>by omega)
  · exact oM h
 | (tm',e) :: recs,i,own,hen,hN,hst,hp,h,c,h1,h2,h3,h4=>by
  simp af [List.length_cons] at h2 h4 hst hN
  have he:e=en i:=hen 0(tm',e)rfl
  have hen' : ∀ k r,recs[k]? = some r->r.2=en(i + 1 + k):=fun k r hr=>by
   rw [show i + 1 + k=i + (k + 1) by omega]; exact hen(k + 1)r(by simpa using hr)
  have hst' : ∀ k,i + 1<=k->k < i + 1 + recs.length->_:=fun k hk1 hk2=>hst k(by omega)(by omega)
  cases hef:e.isEff with
  | true =>
   cases e with
   | eff u h' =>
    simp af [bR,fK,Bool.and_eq_true,Bool.or_eq_true] at h
    have hi:=(hst i(by omega)(by omega)).1 u h' he.symm
    by_cases hc:c=i
    · subst hc
     rcases h.1 with(h5 | h5) | h5
     · have hlt:j < c:=by simpa [Nat.blt_eq] using h5.2
      exact hown c(by omega)(hp h5.1)(fun e he1 he2=>by omega)
     · rw [h4 c(by omega)(by omega)(by rw [<- he]; rfl)] at h5; cases h5
     · exact oM h5
    · rcases h.2 with h5 | h5
     · rw [h3 i(by omega)(by omega)(by rw [<- he]; rfl)] at h5; cases h5
     · rw [<- hi] at h5
      refine iM hj hown recs(i + 1)_ hen' (by omega)hst' ?_ h5 c(by omega)(by omega)(fun e he1 he2=>h3 e(by omega)he2)(fun e he1 he2=>h4 e he1(by omega))
      intro hlt e he1 he2
      have hlt:i < j:=by simpa [Nat.blt_eq] using hlt
      omega
   | _=>simp [Ent.isEff] at hef
  | false =>
   have hi:=(hst i(by omega)(by omega)).2(by rw [<- he]; exact hef)
   have h5:fK P gl bf j o tm v(st(i + 1)).2.1(bR recs(i + 1))own=true:=by
    rw [hi]
    cases e with
    | eff u h'=>simp [Ent.isEff] at hef
    | _=>simpa af [bR] using h
   have hp' : own=true->∀ e,j<=e->e < i + 1->(en e).isEff=false:=fun ho e' he1 he2=>by
    rcases Nat.lt_or_ge e' i with h6 | h6
    · exact hp ho e' he1 h6
    · obtain rfl:e' = i:=by omega
     rw [<- he]; exact hef
   by_cases hc:c=i
   · subst hc
    rw [<- hi]
    exact iM hj hown recs(c + 1)own hen' (by omega)hst' hp' h5(c + 1)(by omega)(by omega)(fun e he1 he2=>by omega)(fun e he1 he2=>h4 e(by omega)(by omega))
   · exact iM hj hown recs(i + 1)own hen' (by omega)hst' hp' h5 c(by omega)(by omega)(fun e he1 he2=>h3 e(by omega)he2)(fun e he1 he2=>h4 e he1(by omega))
theorem qT {hp:Heap}{es:List(Nat × Heap)} : ∀ (os:List Oper)(recs:List(List Value × Ent))(j:Nat),dk P gl bf hp es os recs j=true->
  ∀ (i:Nat)(o:Oper)(tm:List Value)(v:Value),os[i]? = some o->recs[i]? = some(tm,.read v)->fK P gl bf(j + i)o tm v hp es true=true
 | [],_,_,_,i,o,tm,v,ho,_=>by simp at ho
 | _ :: _,[],_,_,i,o,tm,v,_,hr=>by simp at hr
 | o' :: os,(tm',e) :: recs,j,h,i,o,tm,v,ho,hr=>by
  have ht:dk P gl bf hp es os recs(j + 1)=true:=by
   cases e <;> simp af [dk,Bool.and_eq_true] at h <;> first | exact h | exact h.2
  cases i with
  | zero =>
   simp af [List.getElem?_cons_zero,Option.some.injEq,Prod.mk.injEq] at ho hr
   obtain⟨rfl,rfl⟩:=hr
   subst ho
   simp af [dk,Bool.and_eq_true] at h
   exact h.1
  | succ i =>
   have:=qT os recs(j + 1)ht i o tm v(by simpa using ho)(by simpa using hr)
   rw [show j + (i + 1)=j + 1 + i by omega]
   exact this
theorem GK(hO:Ordd ops bf){tm tm' : List Value}{h h' : Heap}(hr:p0 P gl cf ops bf tm h=some(tm',h')) :
  ∃ st en,Run P gl cf ops bf h.next st en/\st 0=(tm,{ h with next:=h.next + ops.size },[])/\(st ops.size).1=tm'/\h' = aE(st ops.size).2.1 h.next(st ops.size).2.2:=by
 unfold p0 at hr
 split at hr
 · next recs tm2 h2 pd hd =>
  split at hr
  · next hck =>
   simp af [Bool.and_eq_true] at hck
   simp af [Option.some.injEq,Prod.mk.injEq] at hr
   obtain⟨rfl,rfl⟩:=hr
   obtain⟨st,en,h1,h2',h3,h4⟩:=oH(P:=P)(gl:=gl)(cf:=cf)ops.toList 0(tm,{ h with next:=h.next + ops.size },[])recs(tm2,h2,pd)hd
   simp af [Nat.zero_add,Array.length_toList,Array.getElem?_toList] at h2' h3 h4
   refine⟨st,en,⟨fun i o ho=>(h4 i o ho).1,?_,?_⟩,h1,by rw [h2'],by rw [h2']⟩
   · intro e₁ e₂ hlt hsz i1 i2
    have:=qO hO.trans recs 0 hck.1 e₁ e₂ _ _ hlt(h4 e₁ _(Array.getElem?_eq_getElem(by omega))).2(h4 e₂ _(Array.getElem?_eq_getElem hsz)).2 i1 i2
    simpa using this
   · intro j o v ho hen c hc hb1 hb2
    have hrec:=(h4 j o ho).2
    rw [hen] at hrec
    have h5:=qT ops.toList recs 0 hck.2 j o _ v(by simpa using ho)hrec
    rw [Nat.zero_add] at h5
    have h0:(st 0).2.1 = { h with next:=h.next + ops.size }:=by rw [h1]
    rw [<- h0] at h5
    have hheap:∀ c d,c + d<=ops.size->(∀ e,c<=e->e < c + d->(en e).isEff=false)->(st(c + d)).2.1=(st c).2.1:=by
     intro c d
     induction d with
     | zero=>intros; rfl
     | succ d ih =>
      intro hs hn
      have:=((h4(c + d)_(Array.getElem?_eq_getElem(by omega))).1).heap.2(hn(c + d)(by omega)(by omega))
      rw [show c + (d + 1)=c + d + 1 by omega,this]
      exact ih(by omega)fun e he1 he2=>hn e he1(by omega)
    have hjs:j < ops.size:=(Array.getElem?_eq_some_iff.1 ho).1
    have hone:=(h4 j o ho).1
    rw [hen] at hone
    simp af [One] at hone
    refine iM(st:=st)(en:=en)hjs ?_ recs 0 true(fun k r hk=>by
      have hlt:k < ops.size:=by rw [<- h3]; exact(List.getElem?_eq_some_iff.1 hk).1
      have:=(h4 k _(Array.getElem?_eq_getElem hlt)).2
      rw [this] at hk
      obtain rfl:=Option.some.inj hk
      simp)(by omega)
     (fun k _ hk=>by
      have hlt:k < ops.size:=by omega
      exact((h4 k _(Array.getElem?_eq_getElem hlt)).1).heap)(fun _ e _ he=>by omega)h5 c(by omega)(by omega)(fun e _=>hb1 e)(fun e he1 he2=>hb2 e he1(by omega))
    intro c hc hn1 hn2
    rcases Nat.lt_or_ge j c with hlt | hge
    · have:=hheap j(c - j)(by omega)fun e he1 he2=>hn1 e he1(by omega)
     rw [show j + (c - j)=c by omega] at this
     rw [this]; exact hone.2.1
    · have:=hheap c(j - c)(by omega)fun e he1 he2=>hn2 e he1(by omega)
     rw [show c + (j - c)=j by omega] at this
     rw [<- this]; exact hone.2.1
  · cases hr
 · cases hr
end
end Go.Ab
end
section
namespace Go.Ab
open Go
variable {P:Program}{gl:Nat->Bool}
theorem kj {h:Heap}{base:Nat} : ∀ (R:List(Nat × Blk)),(∀ i B B',(i,B)∈R->(i,B')∈R->B=B')->(∀ i B,(i,B)∈R->h.get(base + i)=none)->
  ∀ k B,(aE h base R).get k=some B↔h.get k=some B\/∃ i,k=base + i/\(i,B)∈R
 | [],_,_,k,B=>by simp [aE]
 | (j,B₀) :: R,hf,hn,k,B=>by
  have ih:=kj R(fun i B B' h1 h2=>hf i B B' (List.mem_cons_of_mem _ h1)(List.mem_cons_of_mem _ h2))(fun i B h1=>hn i B(List.mem_cons_of_mem _ h1))k B
  simp af [aE,Heap.get_set]
  by_cases hk:k=base + j
  · rw [if_pos hk]
   constructor
   · intro he
    obtain rfl:=Option.some.inj he
    exact .inr⟨j,hk,List.mem_cons_self⟩
   · rintro(he |⟨i,h1,h2⟩)
    · rw [hk,hn j B₀ List.mem_cons_self] at he; cases he
    · obtain rfl:i=j:=by omega
     rw [hf i B B₀ h2 List.mem_cons_self]
  · rw [if_neg hk,ih]
   constructor
   · rintro(he |⟨i,h1,h2⟩)
    · exact .inl he
    · exact .inr⟨i,h1,List.mem_cons_of_mem _ h2⟩
   · rintro(he |⟨i,h1,h2⟩)
    · exact .inl he
    · rcases List.mem_cons.1 h2 with h3 | h3
     · simp af [Prod.mk.injEq] at h3
      exact absurd(by rw [h1,h3.1])hk
     · exact .inr⟨i,h1,h3⟩
theorem cb {h:Heap}{base:Nat} : ∀ (R:List(Nat × Blk)),(aE h base R).next=h.next
 | []=>rfl
 | _ :: R=>cb R
theorem dc(tm:List Value)(d:Option Tmp)(v:Value):(dj tm d v).length=tm.length:=by cases d <;> simp [dj]
theorem Fk {tm:List Value}{d:Option Tmp}{v:Value}{t:Tmp}(h:d≠some t):(dj tm d v)[t]? = tm[t]?:=by
 cases d with
 | none=>rfl
 | some d=>simp af [dj]; rw [List.getElem?_set_ne]; rintro rfl; exact h rfl
theorem CV {tm:List Value}{v:Value}{t:Tmp}(h:t < tm.length):(dj tm(some t)v)[t]? = some v:=by
 simp af [dj]; rw [List.getElem?_set_self h]
section
variable {cf:aY}{ops:Array Oper}{bf:Nat->Nat->Bool}{base:Nat}{st:Nat->IO}{en:Nat->Ent}
theorem Run.tm_length(hR:Run P gl cf ops bf base st en):∀ i,i<=ops.size->(st i).1.length=(st 0).1.length
 | 0,_=>rfl
 | i + 1,h=>by
  rw [(hR.one i _(Array.getElem?_eq_getElem(by omega))).tm,dc]
  exact hR.tm_length i(by omega)
theorem Run.tm_old(hR:Run P gl cf ops bf base st en)(t:Tmp):∀ i,i<=ops.size->(∀ (i' : Nat)(o' : Oper),i' < i->ops[i']? = some o'->o'.dst≠some t)->(st i).1[t]? = (st 0).1[t]?
 | 0,_,_=>rfl
 | i + 1,h,hn=>by
  have ho:=Array.getElem?_eq_getElem(xs:=ops)(i:=i)(by omega)
  rw [(hR.one i _ ho).tm,Fk(hn i _(by omega)ho)]
  exact hR.tm_old t i(by omega)fun i' o' h1 h2=>hn i' o' (by omega)h2
theorem Run.tm_new(hO:Ordd ops bf)(hR:Run P gl cf ops bf base st en){t:Tmp}(ht:t < (st 0).1.length){i' : Nat}{o' : Oper}(ho' : ops[i']? = some o')(hd:o'.dst=some t):∀ i,i<=ops.size->i' < i->(st i).1[t]? = some(en i').val
 | 0,_,h=>absurd h(by omega)
 | i + 1,h,hlt=>by
  have ho:=Array.getElem?_eq_getElem(xs:=ops)(i:=i)(by omega)
  rw [(hR.one i _ ho).tm]
  by_cases he:i' = i
  · subst he
   rw [ho'] at ho
   obtain rfl:=Option.some.inj ho
   rw [hd,CV(by rw [hR.tm_length _(by omega)]; exact ht)]
  · rw [Fk fun hd2=>he(hO.uniq i' i o' _ t ho' ho hd hd2)]
   exact hR.tm_new hO ht ho' hd i(by omega)(by omega)
theorem Run.same_heap(hR:Run P gl cf ops bf base st en){c:Nat} : ∀ (d:Nat),c + d<=ops.size->(∀ e,c<=e->e < c + d->(en e).isEff=false)->(st(c + d)).2.1=(st c).2.1
 | 0,_,_=>rfl
 | d + 1,h,hn=>by
  rw [show c + (d + 1)=c + d + 1 by omega,(hR.one(c + d)_(Array.getElem?_eq_getElem(by omega))).heap.2(hn _(by omega)(by omega))]
  exact hR.same_heap d(by omega)fun e h1 h2=>hn e h1(by omega)
def Pend(bf:Nat->Nat->Bool)(en:Nat->Ent)(c i:Nat)(B:Blk):Prop:=(∃ v,en i = .alloc B v)/\∀ e,e < c->(en e).isEff=true->bf e i=false
theorem Run.pend(hO:Ordd ops bf)(hR:Run P gl cf ops bf base st en)(h0:(st 0).2.2=[]):∀ m,m<=ops.size->∀ i B,(i,B)∈(st m).2.2↔i < m/\Pend bf en m i B
 | 0,_,i,B=>by rw [h0]; simp
 | m + 1,h,i,B=>by
  have ih:=hR.pend hO h0 m(by omega)i B
  have hone:=hR.one m _(Array.getElem?_eq_getElem(by omega))
  have calm:(en m).isEff=false->(∀ B v,en m≠ .alloc B v)->(i < m + 1/\Pend bf en(m + 1)i B↔i < m/\Pend bf en m i B):=fun hne hna=>by
   constructor
   · rintro⟨h1,⟨v,h2⟩,h3⟩
    refine⟨?_,⟨v,h2⟩,fun e he=>h3 e(by omega)⟩
    rcases Nat.lt_or_ge i m with h4 | h4
    · exact h4
    · obtain rfl:i=m:=by omega
     exact absurd h2(hna B v)
   · rintro⟨h1,h2,h3⟩
    refine⟨by omega,h2,fun e he hef=>?_⟩
    rcases Nat.lt_or_ge e m with h4 | h4
    · exact h3 e h4 hef
    · obtain rfl:e=m:=by omega
     rw [hne] at hef; cases hef
  cases hm:en m with
  | skip =>
   rw [hm] at hone; simp af [One] at hone
   rw [hone.2,ih,calm(by rw [hm]; rfl)(by rw [hm]; intro B v h; cases h)]
  | pure v =>
   rw [hm] at hone; simp af [One] at hone
   rw [hone.2.2,ih,calm(by rw [hm]; rfl)(by rw [hm]; intro B v h; cases h)]
  | read v =>
   rw [hm] at hone; simp af [One] at hone
   rw [hone.2.2,ih,calm(by rw [hm]; rfl)(by rw [hm]; intro B v h; cases h)]
  | alloc B₀ v =>
   rw [hm] at hone; simp af [One] at hone
   rw [hone.2.2]
   simp af [List.mem_cons,Prod.mk.injEq]
   rw [ih]
   constructor
   · rintro(⟨rfl,rfl⟩|⟨h1,h2,h3⟩)
    · refine⟨by omega,⟨v,hm⟩,fun e he _=>?_⟩
     cases hb:bf e i with
     | false=>rfl
     | true=>have:=hO.lt _ _ hb; omega
    · refine⟨by omega,h2,fun e he hef=>?_⟩
     rcases Nat.lt_or_ge e m with h4 | h4
     · exact h3 e h4 hef
     · obtain rfl:e=m:=by omega
      rw [hm] at hef; cases hef
   · rintro⟨h1,⟨v',h2⟩,h3⟩
    rcases Nat.lt_or_ge i m with h4 | h4
    · exact .inr⟨h4,⟨v',h2⟩,fun e he=>h3 e(by omega)⟩
    · obtain rfl:i=m:=by omega
     rw [hm] at h2
     cases h2
     exact .inl⟨rfl,rfl⟩
  | eff v h' =>
   rw [hm] at hone; simp af [One] at hone
   rw [hone.2.2]
   simp af [List.mem_filter,Bool.not_eq_true']
   rw [ih]
   constructor
   · rintro⟨⟨h1,h2,h3⟩,h4⟩
    refine⟨by omega,h2,fun e he hef=>?_⟩
    rcases Nat.lt_or_ge e m with h5 | h5
    · exact h3 e h5 hef
    · obtain rfl:e=m:=by omega
     exact h4
   · rintro⟨h1,⟨v',h2⟩,h3⟩
    have hlt:i < m:=by
     rcases Nat.lt_or_ge i m with h5 | h5
     · exact h5
     · obtain rfl:i=m:=by omega
      rw [hm] at h2; cases h2
    exact⟨⟨hlt,⟨v',h2⟩,fun e he=>h3 e(by omega)⟩,h3 m(by omega)(by rw [hm]; rfl)⟩
def TmS(ops:Array Oper)(en:Nat->Ent)(tm₀:List Value)(S:List Nat)(β:Inj)(a:Act):Prop:=
 a.tmps.size=tm₀.length/\∀ (t:Tmp)(v' : Value),a.tmps[t]? = some v'->(∀ (i:Nat)(o:Oper),i∈S->ops[i]? = some o->o.dst=some t->VRel β(en i).val v')/\
  ((∀ (i:Nat)(o:Oper),i∈S->ops[i]? = some o->o.dst≠some t)->∀ v,tm₀[t]? = some v->VRel β v v')
theorem TmS.mono {tm₀:List Value}{S:List Nat}{β β' : Inj}{a:Act}(h:TmS ops en tm₀ S β a)(hle:β.le β'):TmS ops en tm₀ S β' a:=
 ⟨h.1,fun t v' hv =>⟨fun i o h1 h2 h3=>((h.2 t v' hv).1 i o h1 h2 h3).mono hle,fun h1 v h2=>((h.2 t v' hv).2 h1 v h2).mono hle⟩⟩
theorem TmS.put(hO:Ordd ops bf){tm₀:List Value}{S:List Nat}{β:Inj}{a:Act}(h:TmS ops en tm₀ S β a){j:Nat}{o:Oper}(ho:ops[j]? = some o){v' : Value}(hv:VRel β(en j).val v'):TmS ops en tm₀(S ++ [j])β(a.put o.dst v'):=by
 refine⟨by cases hd:o.dst <;> simp [Act.put,h.1],fun t u hu=>?_⟩
 by_cases hd:o.dst=some t
 · have hut:u=v':=by
   rw [hd] at hu
   simp af [Act.put,Array.getElem?_setIfInBounds,if_true] at hu
   split at hu
   · exact(Option.some.inj hu).symm
   · cases hu
  subst hut
  refine⟨fun i o' _ h2 h3=>?_,fun hno=>absurd hd(hno j o(by simp)ho)⟩
  obtain rfl:=hO.uniq i j o' o t h2 ho h3 hd
  exact hv
 · have hu' : a.tmps[t]? = some u:=by
   cases hdd:o.dst with
   | none=>rw [hdd] at hu; exact hu
   | some d =>
    rw [hdd] at hu hd
    simp af [Act.put,Array.getElem?_setIfInBounds] at hu
    rw [if_neg(by rintro rfl; exact hd rfl)] at hu
    exact hu
  obtain⟨h1,h2⟩:=h.2 t u hu'
  refine⟨fun i o' h3 h4 h5=>?_,fun hno=>h2 fun i o' h3=>hno i o' (List.mem_append_left _ h3)⟩
  rcases List.mem_append.1 h3 with h3 | h3
  · exact h1 i o' h3 h4 h5
  · simp af [List.mem_singleton] at h3
   subst h3
   rw [ho] at h4
   obtain rfl:=Option.some.inj h4
   exact absurd h5 hd
theorem TmS.sees(hO:Ordd ops bf)(hR:Run P gl cf ops bf base st en){L pre suf:List Nat}{j:Nat}(hL:Topo ops L)(he:L=pre ++ j :: suf){β:Inj}{a:Act}(h:TmS ops en(st 0).1 pre β a)(hg:Gl gl β){o:Oper}(ho:ops[j]? = some o) :
  ∀ x∈o.op.operands,VRel β(ev gl(st j).1 x)(a.eval x):=by
 have hjs:j < ops.size:=(Array.getElem?_eq_some_iff.1 ho).1
 intro x hx
 cases x with
 | tmp t =>
  simp af [ev,Act.eval]
  by_cases ht:t < (st 0).1.length
  · have hta:t < a.tmps.size:=by rw [h.1]; exact ht
   obtain⟨h1,h2⟩:=h.2 t _(Array.getElem?_eq_getElem hta)
   rw [Array.getD_eq_getD_getElem?,Array.getElem?_eq_getElem hta,Option.getD_some]
   by_cases hw:∃ (i:Nat)(o' : Oper),i∈pre/\ops[i]? = some o'/\o'.dst=some t
   · obtain⟨i,o',hi,ho',hd⟩:=hw
    have hlt:i < j:=by
     rcases hO.names j o t ho hx i o' ho' hd with rfl | hb | hb
     · have:=hL.nodup
      rw [he] at this
      exact absurd rfl(List.nodup_append.1 this |>.2.2 i hi i List.mem_cons_self)
     · exact hO.lt _ _ hb
     · obtain⟨p1,p2,rfl⟩:=List.append_of_mem hi
      have:=hO.topo L hL p1 i(p2 ++ j :: suf)(by rw [he]; simp)j hb
      have hnd:=hL.nodup
      rw [he] at hnd
      exact absurd rfl((List.nodup_append.1 hnd).2.2 j(List.mem_append_left _ this)j List.mem_cons_self)
    rw [List.getD_eq_getElem?_getD,hR.tm_new hO ht ho' hd j(by omega)hlt]
    exact h1 i o' hi ho' hd
   · have hold:=hR.tm_old t j(by omega)fun i' o' hlt ho' hd=>by
     rcases hO.names j o t ho hx i' o' ho' hd with rfl | hb | hb
     · omega
     · exact hw⟨i',o',hO.topo L hL pre j suf he i' hb,ho',hd⟩
     · have:=hO.lt _ _ hb; omega
    rw [List.getD_eq_getElem?_getD,hold,List.getElem?_eq_getElem ht]
    exact h2(fun i o' h3 h4 h5=>hw⟨i,o',h3,h4,h5⟩)_(List.getElem?_eq_getElem ht)
  · have hta : ¬ t < a.tmps.size:=by rw [h.1]; exact ht
   rw [List.getD_eq_getElem?_getD,List.getElem?_eq_none(by rw [hR.tm_length j(by omega)]; exact Nat.le_of_not_lt ht),Array.getD_eq_getD_getElem?,Array.getElem?_eq_none(Nat.le_of_not_lt hta)]
   exact .undef β
 | const v =>
  simp af [ev,Act.eval]
  split
  · next hp=>exact .of_plain hp
  · exact .junk v
 | global g =>
  simp af [ev,Act.eval]
  split
  · next hp =>
   obtain⟨sl,h1,h2,h3,h4⟩:=hg g hp
   have:=VRel.ptr(i:=0)h1 h4
   rwa [h2,h3] at this
  · exact .junk _
 | func f =>
  simp af [ev,Act.eval]
  exact .func rfl rfl rfl(fun i v v' h=>by simp at h)(fun i v v' h=>by simp at h)
theorem TmS.wanted(hO:Ordd ops bf)(hR:Run P gl cf ops bf base st en){L pre suf:List Nat}{j:Nat}(hL:Topo ops L)(he:L=pre ++ j :: suf){β:Inj}{a:Act}(h:TmS ops en(st 0).1 pre β a){o:Oper}(ho:ops[j]? = some o){b:Bool}
  (hw:cp ops(st j).1 o=some b):Region.wanted o(yielded ops a.tmps)=b:=by
 have hjs:j < ops.size:=(Array.getElem?_eq_some_iff.1 ho).1
 unfold cp at hw
 unfold Region.wanted
 split at hw
 · next hg=>rw [hg]; simpa using hw
 · next i want hg =>
  rw [hg]
  simp af [yielded]
  have hb:=hO.guards j o i want ho hg
  have hi:=hO.topo L hL pre j suf he i hb
  split at hw
  · next d hd =>
   rw [hd]
   simp af [Option.bind_some]
   obtain⟨oi,hoi,hdi⟩:=Option.bind_eq_some_iff.1 hd
   have hval:∀ v,(st j).1[d]? = some v->v=(en i).val/\∃ v',a.tmps[d]? = some v'/\VRel β v v':=by
    intro v hv
    have hdl:d < (st 0).1.length:=by rw [<- hR.tm_length j(by omega)]; exact(List.getElem?_eq_some_iff.1 hv).1
    have hda:d < a.tmps.size:=by rw [h.1]; exact hdl
    have:=hR.tm_new hO hdl hoi hdi j(by omega)(hO.lt _ _ hb)
    rw [this] at hv
    obtain rfl:=Option.some.inj hv
    exact⟨rfl,_,Array.getElem?_eq_getElem hda,(h.2 d _(Array.getElem?_eq_getElem hda)).1 i oi hi hoi hdi⟩
   split at hw
   · next b' hb' =>
    obtain⟨_,v',h1,h2⟩:=hval _(D1 hb')
    rw [h2.inv_bool] at h1
    rw [h1]
    simp af [Option.some.injEq] at hw
    subst hw
    cases b' <;> cases want <;> rfl
   · next vs hb' =>
    simp af [Option.some.injEq] at hw
    subst hw
    rcases zo hb' with hb' | hb'
    · obtain⟨_,v',h1,h2⟩:=hval _ hb'
     obtain⟨vs',rfl,_⟩:=h2.inv_tuple
     rw [h1]
     rfl
    · have hdn:a.tmps[d]? = none:=Array.getElem?_eq_none(by rw [h.1,<- hR.tm_length j(by omega)]; exact List.getElem?_eq_none_iff.1 hb')
     rw [hdn]
     rfl
   · cases hw
  · cases hw
end
end Go.Ab
end
section
namespace Go.Ab
open Go
variable {β:Inj}{P:Program}{gl:Nat->Bool}
theorem vo {r:Option Nat}{n:Nat}{o:Oper}{a:Act}{w w' : World}{v' : Value}(hnd:∀ c,o.op≠ .defer c)(hrun:(execOp a.eval o).run P w = .ok(.value v')w'){next:Act->World->Prop}{Q:Exit->Act->World->Prop}
  (h:next(a.put o.dst v')w'):o.wpIn(ep r)n P a w next Q:=by
 refine⟨fun _ _=>trivial,?_⟩
 rw [Oper.semAt_eq _ _ _ hnd,hrun]
 exact h
theorem PX(hN:bV P){cf:aY}(hcf:CfOk P gl cf){r:Option Nat}{n:Nat}{ρ:Operand->Value}{a:Act}{h:Heap}{w:World}{o:Oper}{v:Value}{u:Upd}(hs:Sim β h w)(hg:Gl gl β)(hρ:∀ x,VRel β(ρ x)(a.eval x))
  (hr:bA P cf ρ o h=some(v,u))(next:Act->World->Prop)(Q:Exit->Act->World->Prop)
  (hk:∀ v' w' β',Step β h w β' (u.app h)w'->VRel β' v v'->next(a.put o.dst v')w'):o.wpIn(ep r)n P a w next Q:=by
 refine⟨fun _ _=>trivial,?_⟩
 have hnd:∀ c,o.op≠ .defer c:=by
  intro c hc
  simp [bA,hc] at hr
 rw [Oper.semAt_eq _ _ _ hnd]
 by_cases hc:aF o=false
 · obtain⟨v',w',β',h1,h2,h3⟩:=wb hρ hc hs hr
  rcases h1 with h1 |⟨h1,rfl⟩
  · rw [h1]
   exact hk v' w' β' h2 h3
  · rw [h1]
   exact hk undef w' β' h2 h3
 · unfold aF at hc
  split at hc
  · next f args ats ho =>
   simp af [bA,ho] at hr
   exact G6 hN hcf ho hs hg hρ hr next Q hk
  · exact absurd rfl hc
open Classical in
noncomputable def af(o:Oper)(ρ:Operand->Value):Operand->Value:=fun x=>if x∈o.op.operands then ρ x else junk
theorem yD {o:Oper}{ρ:Operand->Value} : ∀ x∈o.op.operands,ρ x=af o ρ x:=fun x hx=>by simp [af,hx]
theorem QI {o:Oper}{ρ ρ' : Operand->Value}(h:∀ x∈o.op.operands,VRel β(ρ x)(ρ' x)):∀ x,VRel β(af o ρ x)(ρ' x):=fun x=>by
 unfold af
 split
 · next hx=>exact h x hx
 · exact .junk _
section
variable {cf:aY}{ops:Array Oper}{bf:Nat->Nat->Bool}{st:Nat->IO}{en:Nat->Ent}
structure Inv(ops:Array Oper)(bf:Nat->Nat->Bool)(st:Nat->IO)(en:Nat->Ent)(β₀:Inj)(h:Heap)(w₀:World)(a₀:Act)(pre:List Nat)(β:Inj)(w:World)(a:Act)(c:Nat)(R:List(Nat × Blk)):Prop where
 le:c<=ops.size
 effs:∀ e,e < ops.size->(en e).isEff=true->(e∈pre↔e < c)
 mem:∀ i B,(i,B)∈R↔i∈pre/\Pend bf en c i B
 step:Step β₀ h w₀ β(aE(st c).2.1 h.next R)w
 room:h.next + ops.size<=(st c).2.1.next
 nokey:∀ i B,i < ops.size->(st c).2.1.get(h.next + i)=some B->∃ e,e < c/\(en e).isEff=true/\bf e i=true
 free:∀ i,i < ops.size->i ∉ pre->(∃ B v,en i = .alloc B v)->β(h.next + i)=none
 tms:TmS ops en(st 0).1 pre β a
 dfs:a.defers=a₀.defers
theorem Pend.fun_ {c i:Nat}{B B' : Blk}(h:Pend bf en c i B)(h' : Pend bf en c i B'):B=B':=by
 obtain⟨v,h1⟩:=h.1
 obtain⟨v',h2⟩:=h'.1
 rw [h1] at h2; cases h2; rfl
variable {β₀:Inj}{h:Heap}{w₀:World}{a₀:Act}{pre:List Nat}{w:World}{a:Act}{c:Nat}{R:List(Nat × Blk)}
theorem Inv.none_(hI:Inv ops bf st en β₀ h w₀ a₀ pre β w a c R){i:Nat}{B:Blk}(hi:i < ops.size)(hp:Pend bf en c i B):(st c).2.1.get(h.next + i)=none:=by
 cases hg:(st c).2.1.get(h.next + i) with
 | none=>rfl
 | some B' =>
  obtain⟨e,h1,h2,h3⟩:=hI.nokey i B' hi hg
  rw [hp.2 e h1 h2] at h3; cases h3
theorem Inv.get(hI:Inv ops bf st en β₀ h w₀ a₀ pre β w a c R)(hpre:∀ i∈pre,i < ops.size)(k:Nat)(B:Blk) :
  (aE(st c).2.1 h.next R).get k=some B↔(st c).2.1.get k=some B\/∃ i,k=h.next + i/\(i,B)∈R:=
 kj R(fun i B B' h1 h2=>((hI.mem i B).1 h1).2.fun_((hI.mem i B').1 h2).2)(fun i B h1=>hI.none_(hpre i((hI.mem i B).1 h1).1)((hI.mem i B).1 h1).2)k B
theorem Inv.sub(hI:Inv ops bf st en β₀ h w₀ a₀ pre β w a c R)(hpre:∀ i∈pre,i < ops.size):Sim β(st c).2.1 w:=
 hI.step.sim.sub(cb R).symm fun k B hk=>(hI.get hpre k B).2(.inl hk)
theorem Inv.calm(hO:Ordd ops bf)(hI:Inv ops bf st en β₀ h w₀ a₀ pre β w a c R){j:Nat}{o:Oper}(ho:ops[j]? = some o)(hne:(en j).isEff=false)(hna:∀ B v,en j≠ .alloc B v){v' : Value}(hv:VRel β(en j).val v') :
  Inv ops bf st en β₀ h w₀ a₀(pre ++ [j])β w(a.put o.dst v')c R where
 le:=hI.le
 effs:=fun e he hef=>by
  rw [List.mem_append,hI.effs e he hef]
  refine⟨fun hh=>?_,.inl⟩
  rcases hh with hh | hh
  · exact hh
  · simp af [List.mem_singleton] at hh
   subst hh
   rw [hne] at hef; cases hef
 mem:=fun i B=>by
  rw [hI.mem,List.mem_append]
  refine⟨fun⟨h1,h2⟩=>⟨.inl h1,h2⟩,fun⟨h1,h2⟩=>⟨?_,h2⟩⟩
  rcases h1 with h1 | h1
  · exact h1
  · simp af [List.mem_singleton] at h1
   subst h1
   obtain⟨v,hv⟩:=h2.1
   exact absurd hv(hna B v)
 step:=hI.step
 room:=hI.room
 nokey:=hI.nokey
 free:=fun i h1 h2=>hI.free i h1 fun hh=>h2(List.mem_append_left _ hh)
 tms:=hI.tms.put hO ho hv
 dfs:=(bK a o.dst v').trans hI.dfs
theorem Ij(hN:bV P)(hcf:CfOk P gl cf)(hO:Ordd ops bf)(hR:Run P gl cf ops bf h.next st en)(hpd:(st 0).2.2=[]){L:List Nat}(hL:Topo ops L){r:Option Nat}{n:Nat}{Q:Exit->Act->World->Prop}(hg₀:Gl gl β₀)
  (hk:∀ a' w' β',Step β₀ h w₀ β' (aE(st ops.size).2.1 h.next(st ops.size).2.2)w'->LRel β' (st ops.size).1 a'.tmps.toList->a'.defers=a₀.defers->Q .normal a' w') :
  ∀ (suf pre:List Nat)(β:Inj)(w:World)(a:Act)(c:Nat)(R:List(Nat × Blk)),L=pre ++ suf->Inv ops bf st en β₀ h w₀ a₀ pre β w a c R->wpOpsIn(ep r)n P ops Q suf a w
 | [],pre,β,w,a,c,R,he,hI=>by
  rw [List.append_nil] at he
  subst he
  have hpre:∀ i∈L,i < ops.size:=fun i hi=>(hL.mem i).1 hi
  have hnoeff:∀ e,c<=e->e < ops.size->(en e).isEff=false:=fun e h1 h2=>by
   cases hef:(en e).isEff with
   | false=>rfl
   | true=>have:=(hI.effs e h2 hef).1((hL.mem e).2 h2); omega
  have hle:=hI.le
  have hsame:(st ops.size).2.1=(st c).2.1:=by
   have:=hR.same_heap(c:=c)(ops.size - c)(by omega)fun e h1 h2=>hnoeff e h1(by omega)
   rwa [show c + (ops.size - c)=ops.size by omega] at this
  have hpend:∀ i B,Pend bf en ops.size i B↔Pend bf en c i B:=fun i B=>by
   refine⟨fun hp =>⟨hp.1,fun e h1=>hp.2 e(by omega)⟩,fun hp =>⟨hp.1,fun e h1 h2=>hp.2 e ?_ h2⟩⟩
   rcases Nat.lt_or_ge e c with h3 | h3
   · exact h3
   · rw [hnoeff e h3 h1] at h2; cases h2
  have hmem:∀ i B,(i,B)∈(st ops.size).2.2↔(i,B)∈R:=fun i B=>by
   rw [hR.pend hO hpd ops.size(Nat.le_refl _),hI.mem,hpend,hL.mem]
  have hget:=hI.get hpre
  have hget2:∀ k B,(aE(st ops.size).2.1 h.next(st ops.size).2.2).get k=some B↔(st c).2.1.get k=some B\/∃ i,k=h.next + i/\(i,B)∈(st ops.size).2.2:=by
   rw [hsame]
   exact kj _(fun i B B' h1 h2=>((hI.mem i B).1((hmem i B).1 h1)).2.fun_((hI.mem i B').1((hmem i B').1 h2)).2)
    (fun i B h1=>hI.none_(hpre i((hI.mem i B).1((hmem i B).1 h1)).1)((hI.mem i B).1((hmem i B).1 h1)).2)
  have hS:Same(aE(st c).2.1 h.next R)(aE(st ops.size).2.1 h.next(st ops.size).2.2):=by
   refine⟨by rw [cb,cb,hsame],fun k=>Option.ext fun B=>?_⟩
   rw [hget,hget2]
   simp af [hmem]
  refine hk a w β(hI.step.same(Same.refl h)hS) ?_ hI.dfs
  refine⟨?_,fun t v v' h1 h2=>?_⟩
  · rw [hR.tm_length _(Nat.le_refl _),Array.length_toList,hI.tms.1]
  · rw [Array.getElem?_toList] at h2
   obtain⟨h3,h4⟩:=hI.tms.2 t v' h2
   have htl:t < (st 0).1.length:=by rw [<- hR.tm_length _(Nat.le_refl _)]; exact(List.getElem?_eq_some_iff.1 h1).1
   by_cases hw:∃ (i:Nat)(o:Oper),ops[i]? = some o/\o.dst=some t
   · obtain⟨i,o,ho,hd⟩:=hw
    have hi:i < ops.size:=(Array.getElem?_eq_some_iff.1 ho).1
    rw [hR.tm_new hO htl ho hd _(Nat.le_refl _)hi] at h1
    obtain rfl:=Option.some.inj h1
    exact h3 i o((hL.mem i).2 hi)ho hd
   · rw [hR.tm_old t _(Nat.le_refl _)fun i o _ ho hd=>hw⟨i,o,ho,hd⟩] at h1
    exact h4(fun i o _ ho hd=>hw⟨i,o,ho,hd⟩)v h1
 | j :: suf,pre,β,w,a,c,R,he,hI=>by
  have hpre:∀ i∈pre,i < ops.size:=fun i hi=>(hL.mem i).1(by rw [he]; exact List.mem_append_left _ hi)
  have hj:j < ops.size:=(hL.mem j).1(by rw [he]; simp)
  have hnj:j ∉ pre:=fun hm=>by
   have hnd:=hL.nodup
   rw [he] at hnd
   exact absurd rfl((List.nodup_append.1 hnd).2.2 j hm j List.mem_cons_self)
  have hbf:∀ i,bf j i=true->i∈pre:=hO.topo L hL pre j suf he
  have hfb:∀ i∈pre,bf i j=false:=fun i hi=>by
   cases hb:bf i j with
   | false=>rfl
   | true =>
    obtain⟨p1,p2,rfl⟩:=List.append_of_mem hi
    exact absurd(List.mem_append_left _(hO.topo L hL p1 i(p2 ++ j :: suf)(by rw [he]; simp)j hb))hnj
  have ho:=Array.getElem?_eq_getElem hj
  generalize ops[j]=o at ho
  have hone:=hR.one j o ho
  have hg:Gl gl β:=hg₀.mono hI.step.le
  have hsee:=hI.tms.sees hO hR hL he hg ho
  have hρ:=QI hsee
  have hrec:=Ij hN hcf hO hR hpd hL(r:=r)(n:=n)hg₀ hk suf(pre ++ [j])
  have he' : L=(pre ++ [j]) ++ suf:=by rw [he]; simp
  simp af [wpOpsIn,ho]
  cases hen:en j with
  | skip =>
   rw [hen] at hone; simp af [One] at hone
   rw [hI.tms.wanted hO hR hL he ho hone.1]
   simp af [Bool.false_eq_true,if_false]
   refine⟨fun _ _=>trivial,?_⟩
   exact hrec β w _ c R he' (hI.calm hO ho(by rw [hen]; rfl)(by rw [hen]; intro B v h; cases h)(by rw [hen]; exact .undef β))
  | pure v =>
   rw [hen] at hone; simp af [One] at hone
   obtain⟨hw,hop,_⟩:=hone
   rw [hI.tms.wanted hO hR hL he ho hw]
   simp af [if_true]
   rw [ET yD] at hop
   obtain⟨v',h1,h2⟩:=mF hρ hop w
   refine vo ?_ h1(hrec β w _ c R he' (hI.calm hO ho(by rw [hen]; rfl)(by rw [hen]; intro B v h; cases h)(by rw [hen]; exact h2)))
   intro cc hc; simp [aD,hc] at hop
  | read v =>
   rw [hen] at hone; simp af [One] at hone
   obtain⟨hw,_,_⟩:=hone
   rw [hI.tms.wanted hO hR hL he ho hw]
   simp af [if_true]
   have hop:=hR.reads j o v ho hen c hI.le
    (fun e h1 h2=>hfb e((hI.effs e(by have:=hI.le; omega)h2).2 h1))
    (fun e h1 h2 h3=>by
     cases hb:bf j e with
     | false=>rfl
     | true=>have:=(hI.effs e h2 h3).1(hbf e hb); omega)
   rw [Ft yD] at hop
   obtain⟨v',h1,h2⟩:=nh hρ(hI.sub hpre)hop
   refine vo ?_ h1(hrec β w _ c R he' (hI.calm hO ho(by rw [hen]; rfl)(by rw [hen]; intro B v h; cases h)(by rw [hen]; exact h2)))
   intro cc hc; simp [aI,hc] at hop
  | alloc B v =>
   rw [hen] at hone; simp af [One] at hone
   obtain⟨hw,⟨f,hop,rfl⟩,_⟩:=hone
   rw [hI.tms.wanted hO hR hL he ho hw]
   simp af [if_true]
   rw [BW yD] at hop
   obtain⟨v',w',h1,h2⟩:=kQ hρ(w:=w)hop
   have hfree:=hI.free j hj hnj⟨B,_,hen⟩
   have hroom:=hI.room
   obtain⟨β',h3,h4,h5,h6⟩:=h2.at_key hI.step hfree(by omega)(by rw [cb]; omega)
   refine vo(by intro cc hc; simp [aH,hc] at hop)h1(hrec β' w' _ c((j,B) :: R)he'⟨hI.le,?_,?_,h3,hI.room,hI.nokey,?_,?_,(bK a o.dst v').trans hI.dfs⟩)
   · intro e h7 h8
    rw [List.mem_append,hI.effs e h7 h8]
    refine⟨fun hh=>?_,.inl⟩
    rcases hh with hh | hh
    · exact hh
    · simp af [List.mem_singleton] at hh
     subst hh
     rw [hen] at h8; cases h8
   · intro i B'
    rw [List.mem_cons,hI.mem,List.mem_append]
    constructor
    · rintro(hh |⟨h7,h8⟩)
     · simp af [Prod.mk.injEq] at hh
      obtain⟨rfl,rfl⟩:=hh
      refine⟨.inr List.mem_cons_self,⟨_,hen⟩,fun e h7 h8=>hfb e((hI.effs e(by have:=hI.le; omega)h8).2 h7)⟩
     · exact⟨.inl h7,h8⟩
    · rintro⟨h7 | h7,h8⟩
     · exact .inr⟨h7,h8⟩
     · simp af [List.mem_singleton] at h7
      subst h7
      obtain⟨v2,h9⟩:=h8.1
      rw [hen] at h9
      cases h9
      exact .inl rfl
   · intro i h7 h8 h9
    rw [h6 _ fun hh=>h8(by rw [show i=j by omega]; simp)]
    exact hI.free i h7(fun hh=>h8(List.mem_append_left _ hh))h9
   · exact(hI.tms.mono h5).put hO ho(by rw [hen]; exact h4)
  | eff v h' =>
   rw [hen] at hone; simp af [One] at hone
   have hheap:(st(j + 1)).2.1=h':=by rw [hone.2.2]
   obtain⟨hw,⟨u,hop,hu⟩,_⟩:=hone
   rw [hI.tms.wanted hO hR hL he ho hw]
   simp af [if_true]
   have hcj:c<=j:=by
    rcases Nat.lt_or_ge j c with h1 | h1
    · exact absurd((hI.effs j hj(by rw [hen]; rfl)).2 h1)hnj
    · exact h1
   have hnoeff:∀ e,c<=e->e < j->(en e).isEff=false:=fun e h1 h2=>by
    cases hef:(en e).isEff with
    | false=>rfl
    | true =>
     have:=(hI.effs e(by omega)hef).1(hbf e(hR.chain e j h2 hj hef(by rw [hen]; rfl)))
     omega
   have hsame:(st j).2.1=(st c).2.1:=by
    have:=hR.same_heap(c:=c)(j - c)(by omega)fun e h1 h2=>hnoeff e h1(by omega)
    rwa [show c + (j - c)=j by omega] at this
   rw [hsame] at hop hu
   have hF:∀ i B,(i,B)∈(st j).2.2.filter(fun p=>bf j p.1)↔Pend bf en c i B/\bf j i=true:=fun i B=>by
    rw [List.mem_filter,hR.pend hO hpd j(by omega)]
    constructor
    · rintro⟨⟨h1,h2,h3⟩,h4⟩
     exact⟨⟨h2,fun e h5=>h3 e(by omega)⟩,h4⟩
    · rintro⟨⟨h2,h3⟩,h4⟩
     refine⟨⟨hO.lt _ _ h4,h2,fun e h5 h6=>?_⟩,h4⟩
     rcases Nat.lt_or_ge e c with h7 | h7
     · exact h3 e h7 h6
     · rw [hnoeff e h7 h5] at h6; cases h6
   generalize(st j).2.2.filter(fun p=>bf j p.1)=F at hF hop hu
   have hGp:=kj(h:=(st c).2.1)(base:=h.next)F(fun i B B' h1 h2=>((hF i B).1 h1).1.fun_((hF i B').1 h2).1)
    (fun i B h1=>hI.none_(by have:=hO.lt _ _((hF i B).1 h1).2; omega)((hF i B).1 h1).1)
   have hgetV:=hI.get hpre
   have hsub:Sim β(aE(st c).2.1 h.next F)w:=hI.step.sim.sub(by rw [cb,cb])fun k B hkk=>by
    rw [hgetV]
    rcases(hGp k B).1 hkk with h1 |⟨i,h1,h2⟩
    · exact .inl h1
    · exact .inr⟨i,h1,(hI.mem i B).2⟨hbf i((hF i B).1 h2).2,((hF i B).1 h2).1⟩⟩
   rw [HE yD] at hop
   refine PX hN hcf hsub hg hρ hop _ _ fun v' w' β' hst hv=>?_
   rw [<- hu,<- hheap] at hst
   have hroom:=hI.room
   have hnextF:(aE(st c).2.1 h.next F).next=(st c).2.1.next:=cb F
   have hRmem:∀ i B,(i,B)∈R.filter(fun p=>!bf j p.1)↔i∈pre/\Pend bf en c i B/\bf j i=false:=fun i B=>by
    rw [List.mem_filter,hI.mem]; simp [and_assoc]
   have hRnone:∀ i B,(i,B)∈R.filter(fun p=>!bf j p.1)->(aE(st c).2.1 h.next F).get(h.next + i)=none:=fun i B hm=>by
    obtain⟨h1,h2,h3⟩:=(hRmem i B).1 hm
    cases hgk:(aE(st c).2.1 h.next F).get(h.next + i) with
    | none=>rfl
    | some B' =>
     rcases(hGp _ _).1 hgk with h4 |⟨i',h4,h5⟩
     · rw [hI.none_(hpre i h1)h2] at h4; cases h4
     · obtain rfl:i=i':=by omega
      rw [((hF _ _).1 h5).2] at h3; cases h3
   have hback:∀ k B,(st(j + 1)).2.1.get k=some B->k < (st c).2.1.next->∃ B₀,(aE(st c).2.1 h.next F).get k=some B₀:=fun k B h1 h2=>hst.keys k B h1(by rw [hnextF]; exact h2)
   have hGn:=kj(h:=(st(j + 1)).2.1)(base:=h.next)(R.filter fun p=>!bf j p.1)(fun i B B' h1 h2=>((hRmem i B).1 h1).2.1.fun_((hRmem i B').1 h2).2.1)
    (fun i B hm=>by
     cases hgk:(st(j + 1)).2.1.get(h.next + i) with
     | none=>rfl
     | some B' =>
      obtain⟨B₀,h4⟩:=hback _ _ hgk(by have:=hpre i((hRmem i B).1 hm).1; omega)
      rw [hRnone i B hm] at h4; cases h4)
   have hframe:=hst.frame(V:=aE(st c).2.1 h.next R)(V':=aE(st(j + 1)).2.1 h.next(R.filter fun p=>!bf j p.1))hI.step.sim(by rw [cb,hnextF])(cb _)
    (fun k B=>∃ i,k=h.next + i/\(i,B)∈R.filter fun p=>!bf j p.1)
    (fun k B⟨i,h1,h2⟩=> by
     subst h1
     exact⟨by rw [hnextF]; have:=hpre i((hRmem i B).1 h2).1; omega,hRnone i B h2⟩)
    (fun k B=>by
     rw [hgetV,hGp]
     constructor
     · rintro(h1 |⟨i,h1,h2⟩)
      · exact .inl(.inl h1)
      · obtain⟨h3,h4⟩:=(hI.mem i B).1 h2
       cases hb:bf j i with
       | true=>exact .inl(.inr⟨i,h1,(hF i B).2⟨h4,hb⟩⟩)
       | false=>exact .inr⟨i,h1,(hRmem i B).2⟨h3,h4,hb⟩⟩
     · rintro((h1 |⟨i,h1,h2⟩) |⟨i,h1,h2⟩)
      · exact .inl h1
      · exact .inr⟨i,h1,(hI.mem i B).2⟨hbf i((hF i B).1 h2).2,((hF i B).1 h2).1⟩⟩
      · exact .inr⟨i,h1,(List.mem_filter.1 h2).1⟩)
    hGn
   have hnext:=hst.next
   rw [hnextF] at hnext
   refine hrec β' w' _(j + 1)_ he'⟨by omega,?_,?_,hI.step.trans hframe,by omega,?_,?_,(hI.tms.mono hst.le).put hO ho(by rw [hen]; exact hv),(bK a o.dst v').trans hI.dfs⟩
   · intro e h1 h2
    rw [List.mem_append,hI.effs e h1 h2,List.mem_singleton]
    constructor
    · rintro(h3 | h3) <;> omega
    · intro h3
     rcases Nat.lt_or_ge e c with h4 | h4
     · exact .inl h4
     · rcases Nat.lt_or_ge e j with h5 | h5
      · rw [hnoeff e h4 h5] at h2; cases h2
      · exact .inr(by omega)
   · intro i B
    rw [hRmem,List.mem_append]
    constructor
    · rintro⟨h1,⟨h2,h3⟩,h4⟩
     refine⟨.inl h1,h2,fun e h5 h6=>?_⟩
     rcases Nat.lt_or_ge e c with h7 | h7
     · exact h3 e h7 h6
     · rcases Nat.lt_or_ge e j with h8 | h8
      · rw [hnoeff e h7 h8] at h6; cases h6
      · obtain rfl:e=j:=by omega
       exact h4
    · rintro⟨h1,⟨v2,h2⟩,h3⟩
     rcases h1 with h1 | h1
     · exact⟨h1,⟨⟨v2,h2⟩,fun e h4=>h3 e(by omega)⟩,h3 j(by omega)(by rw [hen]; rfl)⟩
     · simp af [List.mem_singleton] at h1
      subst h1
      rw [hen] at h2; cases h2
   · intro i B h1 h2
    obtain⟨B₀,h3⟩:=hback _ _ h2(by omega)
    rcases(hGp _ _).1 h3 with h4 |⟨i',h4,h5⟩
    · obtain⟨e,h6,h7,h8⟩:=hI.nokey i B₀ h1 h4
     exact⟨e,by omega,h7,h8⟩
    · obtain rfl:i=i':=by omega
     exact⟨j,by omega,by rw [hen]; rfl,((hF _ _).1 h5).2⟩
   · intro i h1 h2 h3
    have hold:=hI.free i h1(fun hh=>h2(List.mem_append_left _ hh))h3
    cases hb:β' (h.next + i) with
    | none=>rfl
    | some sl =>
     rcases hst.fresh _ sl hb with h4 |⟨h4,_⟩
     · rw [hold] at h4; cases h4
     · rw [hnextF] at h4; omega
end
end Go.Ab
end
section
namespace Go.Ab
open Go
variable {P:Program}{gl:Nat->Bool}
theorem sI:∀ {x y:List(Value × Value)},vw x y=true->x=y
 | [],[],_=>rfl
 | [],_ :: _,h=>by simp [vw] at h
 | _ :: _,[],h=>by simp [vw] at h
 | (a,b) :: x,(c,d) :: y,h=>by
  simp af [vw,Bool.and_eq_true] at h
  rw [iZ _ _ _ h.1.1,iZ _ _ _ h.1.2,sI h.2]
theorem If {B C:Blk}(h:PC B C=true):B=C:=by
 unfold PC at h
 split at h
 · simp af [Bool.and_eq_true,Nat.beq_eq,beq_iff_eq] at h
  obtain⟨⟨⟨h1,rfl⟩,rfl⟩,rfl⟩:=h
  rw [pV(iZ 4)h1]
 · rw [sI h]
 · cases h
theorem zv {h h' : Heap}{k:Nat}(e:Rv h h' k=true):h.get k=h'.get k:=by
 unfold Rv at e
 split at e
 · next h1 h2=>rw [h1,h2,If e]
 · next h1 h2=>rw [h1,h2]
 · cases e
def Off(h₀:Heap)(s:Iw):Prop:=s.2.1.next=h₀.next/\∀ k,k ∉ s.2.2->s.2.1.get k=h₀.get k
theorem Off.lay {h₀:Heap}{s:Iw}(h:Off h₀ s)(dst:Option Tmp)(v:Value)(u:Option(Nat × Blk)):Off h₀(Hi s dst v u):=by
 cases u with
 | none=>exact h
 | some p =>
  obtain⟨k,b⟩:=p
  refine⟨h.1,fun j hj=>?_⟩
  simp af [Hi,List.mem_cons,not_or] at hj
  show(s.2.1.set k b).get j=_
  rw [Heap.get_set,if_neg hj.1]
  exact h.2 j hj.2
theorem CN {ops:Array Oper}{base j:Nat}{h₀:Heap}{s s' : Iw}(h:Off h₀ s)(hs:Hb P gl ops base j s=some s'):Off h₀ s':=by
 unfold Hb at hs
 split at hs
 · split at hs
  · split at hs
   · obtain rfl:=Option.some.inj hs; exact h.lay _ _ _
   · cases hs
  · obtain rfl:=Option.some.inj hs; exact h.lay _ _ _
  · cases hs
 · cases hs
theorem CO {ops:Array Oper}{base:Nat}{h₀:Heap} : ∀ (n j:Nat){s s' : Iw},Off h₀ s->Hw P gl ops base n j s=some s'->Off h₀ s'
 | 0,_,_,_,h,hs=>by simp af [Hw] at hs; obtain rfl:=Option.some.inj hs; exact h
 | n + 1,j,s,s',h,hs=>by
  simp af [Hw] at hs
  split at hs
  · next s1 h1=>exact CO n(j + 1)(CN h h1)hs
  · cases hs
theorem HW {h₀:Heap}{s s' : Iw}(h:Off h₀ s)(h' : Off h₀ s')(e:O8 s s' = true):s.1=s'.1/\Same s.2.1 s'.2.1:=by
 unfold O8 at e
 simp af [Bool.and_eq_true] at e
 obtain⟨⟨e1,e2⟩,e3⟩:=e
 refine⟨pV(iZ 4)e1,h.1.trans h'.1.symm,fun k=>?_⟩
 by_cases k1:k∈s.2.2
 · exact zv(List.all_eq_true.1 e2 k k1)
 · by_cases k2:k∈s'.2.2
  · exact zv(List.all_eq_true.1 e3 k k2)
  · rw [h.2 k k1,h'.2 k k2]
theorem Topo.length {ops:Array Oper}{L:List Nat}(h:Topo ops L):L.length=ops.size:=by
 have:=((List.perm_ext_iff_of_nodup h.nodup List.nodup_range).2 fun i=>by rw [h.mem,List.mem_range]).length_eq
 simpa using this
theorem RC:CfOk P gl dh :=⟨(by intro f args h v h' _ hr; cases hr),(by intro k args h v h' hr; cases hr)⟩
theorem LS(hN:bV P){ops:Array Oper}(hO:Ordd ops(bc(cj ops))){L:List Nat}(hL:Topo ops L){r:Option Nat}{n:Nat}{Q:Exit->Act->World->Prop}{base:Nat}{fin:Iw}{h₀ hb:Heap}{β₀:Inj}{w₀:World}{a₀:Act}(hg₀:Gl gl β₀)
  (hbase:hb.next=base + ops.size)(h0n:h₀.next<=base)(hfin:Off hb fin)
  (hk:∀ a' w' β',Step β₀ h₀ w₀ β' fin.2.1 w'->LRel β' fin.1 a'.tmps.toList->a'.defers=a₀.defers->Q .normal a' w') :
  ∀ (suf pre:List Nat)(β:Inj)(w:World)(a:Act)(s:Iw),L=pre ++ suf->QA P gl ops(bc(cj ops))base fin suf.length pre.reverse s=true->Off hb s->Step β₀ h₀ w₀ β s.2.1 w->
   (∀ i,i < ops.size->i ∉ pre->β(base + i)=none)->LRel β s.1 a.tmps.toList->a.defers=a₀.defers->wpOpsIn(ep r)n P ops Q suf a w
 | [],pre,β,w,a,s,he,hA,hoff,hst,hfree,ht,hd=>by
  obtain⟨e1,e2⟩:=HW hfin hoff hA
  refine hk a w β(hst.same(Same.refl _)e2.symm)(by rw [e1]; exact ht)hd
 | j :: suf,pre,β,w,a,s,he,hA,hoff,hst,hfree,ht,hd=>by
  have hj:j < ops.size:=(hL.mem j).1(by rw [he]; simp)
  have hnj:j ∉ pre:=fun hm=>by
   have hnd:=hL.nodup
   rw [he] at hnd
   exact absurd rfl((List.nodup_append.1 hnd).2.2 j hm j List.mem_cons_self)
  have hbf:∀ i,bc(cj ops)j i=true->i∈pre:=hO.topo L hL pre j suf he
  simp af [List.length_cons,QA] at hA
  have h1:=List.all_eq_true.1 hA j(List.mem_range.2 hj)
  simp af [Bool.or_eq_true] at h1
  rcases h1 with(h1 | h1) | h1
  · exact absurd(by simpa using h1)hnj
  · obtain⟨i,hi,hh⟩:=List.any_eq_true.1 h1
   simp af [Bool.and_eq_true,Bool.not_eq_true'] at hh
   have h2:i ∉ pre:=by simpa using hh.2
   exact absurd(hbf i hh.1)h2
  · split at h1
   · next s' hs' =>
    have hoff':=CN hoff hs'
    have ho:=Array.getElem?_eq_getElem hj
    generalize ops[j]=o at ho
    unfold Hb at hs'
    rw [ho] at hs'
    dsimp af at hs'
    have he' : L=(pre ++ [j]) ++ suf:=by rw [he]; simp
    have hrev:(pre ++ [j]).reverse=j :: pre.reverse:=by simp
    have hfree' : ∀ i,i < ops.size->i ∉ pre ++ [j]->β(base + i)=none:=fun i h1 h2=>hfree i h1 fun hh=>h2(List.mem_append_left _ hh)
    have hg:Gl gl β:=hg₀.mono hst.le
    simp af [wpOpsIn,ho]
    split at hs'
    · next hw =>
     rw [gO ht hw]
     simp af [if_true]
     split at hs'
     · next v u hop =>
      obtain rfl:=Option.some.inj hs'
      have hρ:=vG(β:=β)hg ht
      unfold W0 at hop
      split at hop
      · next v0 hp =>
       simp af [Option.some.injEq,Prod.mk.injEq] at hop
       obtain⟨rfl,rfl⟩:=hop
       obtain⟨v',g1,g2⟩:=mF hρ hp w
       refine vo(by intro cc hc; simp [aD,hc] at hp)g1(LS hN hO hL hg₀ hbase h0n hfin hk suf(pre ++ [j])β w _ _ he' (by rw [hrev]; exact h1)hoff' hst hfree' (fF ht o.dst g2)((bK a o.dst v').trans hd))
      · split at hop
       · next v0 hp =>
        simp af [Option.some.injEq,Prod.mk.injEq] at hop
        obtain⟨rfl,rfl⟩:=hop
        obtain⟨v',g1,g2⟩:=nh hρ hst.sim hp
        refine vo(by intro cc hc; simp [aI,hc] at hp)g1(LS hN hO hL hg₀ hbase h0n hfin hk suf(pre ++ [j])β w _ _ he' (by rw [hrev]; exact h1)hoff' hst hfree' (fF ht o.dst g2)((bK a o.dst v').trans hd))
       · split at hop
        · next B f hp =>
         simp af [Option.some.injEq,Prod.mk.injEq] at hop
         obtain⟨rfl,rfl⟩:=hop
         obtain⟨v',w',g1,g2⟩:=kQ hρ(w:=w)hp
         obtain⟨β',g3,g4,g5,g6⟩:=g2.at_key hst(hfree j hj hnj)(by omega)(by rw [hoff.1,hbase]; omega)
         refine vo(by intro cc hc; simp [aH,hc] at hp)g1(LS hN hO hL hg₀ hbase h0n hfin hk suf(pre ++ [j])β' w' _ _ he' (by rw [hrev]; exact h1)hoff' g3 ?_(fF(ht.mono g5)o.dst g4)((bK a o.dst v').trans hd))
         intro i h2 h3
         rw [g6 _ fun hh=>h3(by rw [show i=j by omega]; simp)]
         exact hfree' i h2 h3
        · have key:∀ {u' : Upd}{v:Value},bA P dh(ev gl s.1)o s.2.1=some(v,u')->u'.app s.2.1=(Hi s o.dst v u).2.1->(Hi s o.dst v u).1=dj s.1 o.dst v->QA P gl ops(bc(cj ops))base fin suf.length(j :: pre.reverse)(Hi s o.dst v u)=true->Off hb(Hi s o.dst v u)->
           o.wpIn(ep r)n P a w(fun a' w'=>wpOpsIn(ep r)n P ops Q suf a' w')Q:=by
          intro u' v hop hu hput h1 hoff'
          refine PX hN RC hst.sim hg hρ hop _ _ fun v' w' β' hst' hv=>?_
          rw [hu] at hst'
          refine LS hN hO hL hg₀ hbase h0n hfin hk suf(pre ++ [j])β' w' _ _ he' (by rw [hrev]; exact h1)hoff' (hst.trans hst')(fun i h2 h3=>?_)(by rw [hput]; exact fF(ht.mono hst'.le)o.dst hv)((bK a o.dst v').trans hd)
          have hold:=hfree' i h2 h3
          cases hb' : β' (base + i) with
          | none=>rfl
          | some sl =>
           rcases hst'.fresh _ sl hb' with h4 |⟨h4,_⟩
           · rw [hold] at h4; cases h4
           · rw [hoff.1,hbase] at h4; omega
         split at hop
         · next v0 hp =>
          simp af [Option.some.injEq,Prod.mk.injEq] at hop
          obtain⟨rfl,rfl⟩:=hop
          exact key hp rfl rfl h1 hoff'
         · next v0 k0 b0 hp =>
          simp af [Option.some.injEq,Prod.mk.injEq] at hop
          obtain⟨rfl,rfl⟩:=hop
          exact key hp rfl rfl h1 hoff'
         · cases hop
     · cases hs'
    · next hw =>
     obtain rfl:=Option.some.inj hs'
     rw [gO ht hw]
     simp af [Bool.false_eq_true,if_false]
     refine⟨fun _ _=>trivial,?_⟩
     exact LS hN hO hL hg₀ hbase h0n hfin hk suf(pre ++ [j])β w _ _ he' (by rw [hrev]; exact h1)hoff' hst hfree' (fF ht o.dst(.undef β))((bK a o.dst undef).trans hd)
    · cases hs'
   · cases h1
end Go.Ab
end
section
namespace Go.Ab
open Go
variable {P:Program}{gl:Nat->Bool}
theorem Step.room {β:Inj}{h:Heap}{w:World}(hs:Sim β h w)(m:Nat):Step β h w β { h with next:=h.next + m }w:=
 ⟨β.le_refl,Nat.le_add_right _ _,⟨fun k sl hk =>⟨Nat.lt_of_lt_of_le(hs.lt k sl hk).1(Nat.le_add_right _ _),(hs.lt k sl hk).2⟩,hs.blk,hs.own,fun k B hk=>Nat.lt_of_lt_of_le(hs.wf k B hk)(Nat.le_add_right _ _)⟩,Nat.le_refl _,rfl,rfl,rfl,
  fun _ _ _=>rfl,fun _ _ h=>h,fun _ _ h=>.inl h,fun _ B h _ =>⟨B,h⟩⟩
theorem On(hN:bV P){cf:aY}(hcf:CfOk P gl cf){id:Nat}{ops:Array Oper}(hO:Ordd ops(bc(cj ops)))(hB:Back ops)(hC:Region.departs ops=true->(Region.linearise .gc ops 0).length=ops.size) :
  gX P gl cf(.region id ops true):=by
 intro id' ops' heq β tm tm' a h h' w r n Q hr hs hg ht hk
 cases heq
 refine wpIn_region_draw fun t=>?_
 have hst0:Step β h w β { h with next:=h.next + ops.size }{ w with drawn:=w.drawn + 1 }:=
  (Step.of_heap hs rfl rfl rfl rfl:Step β h w β h { w with drawn:=w.drawn + 1 }).trans(Step.room(w:={ w with drawn:=w.drawn + 1 })(hs.of_heap rfl)ops.size)
 unfold z4 at hr
 split at hr
 · unfold G9 at hr
  split at hr
  · next fin hfin =>
   split at hr
   · next hall =>
    simp af [Option.some.injEq,Prod.mk.injEq] at hr
    obtain⟨rfl,rfl⟩:=hr
    have hL:=qH hB hC(P.follows .mixedOrders)t
    have hoff:Off { h with next:=h.next + ops.size }(tm,{ h with next:=h.next + ops.size },[]) :=⟨rfl,fun _ _=>rfl⟩
    have hlen:(Region.schedule(P.follows .mixedOrders)ops t).length=ops.size:=hL.length
    exact LS hN hO hL(base:=h.next)(fin:=fin)(a₀:=a)hg rfl(Nat.le_refl _)(CO _ _ hoff hfin)hk _ [] β _ a _ rfl(by rw [hlen]; exact hall)hoff hst0(fun i hi _=>hs.none_of_ge(by omega))ht rfl
   · cases hr
  · cases hr
 have hst0:True:=trivial
 obtain⟨st,en,hR,h0,h1,h2⟩:=GK hO hr
 have hL:=qH hB hC(P.follows .mixedOrders)t
 have hst0:Step β h w β { h with next:=h.next + ops.size }{ w with drawn:=w.drawn + 1 }:=
  (Step.of_heap hs rfl rfl rfl rfl:Step β h w β h { w with drawn:=w.drawn + 1 }).trans(Step.room(w:={ w with drawn:=w.drawn + 1 })(hs.of_heap rfl)ops.size)
 refine Ij(β₀:=β)(h:=h)(w₀:=w)(a₀:=a)hN hcf hO hR(by rw [h0])hL hg ?_ _ [] β _ a 0 [] rfl⟨Nat.zero_le _,?_,?_,?_,?_,?_,?_,?_,rfl⟩
 · intro a' w' β' h3 h4 h5
  exact hk a' w' β' (by rw [h2]; exact h3)(by rw [<- h1]; exact h4)h5
 · intro e _ _; simp
 · intro i B; simp
 · rw [h0]; exact hst0
 · rw [h0]; exact Nat.le_refl _
 · intro i B hi hb
  rw [h0] at hb
  have:h.get(h.next + i)=some B:=hb
  have:=hs.wf _ _ this
  omega
 · intro i hi _ _
  exact hs.none_of_ge(by omega)
 · rw [h0]
  refine⟨by rw [ht.1,Array.length_toList],fun t v' hv =>⟨fun i o hi=>by simp at hi,fun _ v h3=>?_⟩⟩
  exact ht.2 t v v' h3(by rw [Array.getElem?_toList]; exact hv)
theorem GP(g:Nat->Nat)(i:Nat):∀ (es:List Edge)(s:Nat),(es.foldl(fun s e=>if Region.binds .any e then s ||| 2 ^ e.on ||| g e.on else s)s).testBit i=true↔
  s.testBit i=true\/∃ e∈es,Region.binds .any e=true/\(e.on=i\/(g e.on).testBit i=true)
 | [],s=>by simp
 | e :: es,s=>by
  rw [List.foldl_cons,GP g i es]
  cases hb:Region.binds .any e with
  | false =>
   simp af [Bool.false_eq_true,if_false]
   constructor
   · rintro(h |⟨e',h1,h2⟩)
    · exact .inl h
    · exact .inr⟨e',List.mem_cons_of_mem _ h1,h2⟩
   · rintro(h |⟨e',h1,h2,h3⟩)
    · exact .inl h
    · rcases List.mem_cons.1 h1 with rfl | h1
     · rw [hb] at h2; cases h2
     · exact .inr⟨e',h1,h2,h3⟩
  | true =>
   simp af [if_true,Nat.testBit_or,Bool.or_eq_true,Nat.testBit_two_pow,decide_eq_true_eq]
   constructor
   · rintro(((h | h) | h) |⟨e',h1,h2⟩)
    · exact .inl h
    · exact .inr⟨e,List.mem_cons_self,hb,.inl h⟩
    · exact .inr⟨e,List.mem_cons_self,hb,.inr h⟩
    · exact .inr⟨e',List.mem_cons_of_mem _ h1,h2⟩
   · rintro(h |⟨e',h1,h2,h3⟩)
    · exact .inl(.inl(.inl h))
    · rcases List.mem_cons.1 h1 with rfl | h1
     · rcases h3 with h3 | h3
      · exact .inl(.inl(.inr h3))
      · exact .inl(.inr h3)
     · exact .inr⟨e',h1,h2,h3⟩
def oK(acc:Array Nat)(o:Oper):Nat:=o.after.foldl(fun s e=>if Region.binds .any e then s ||| 2 ^ e.on ||| acc.getD e.on 0 else s)0
theorem Dz:∀ (l:List Oper)(acc:Array Nat),(l.foldl(fun acc o=>acc.push(oK acc o))acc).size=acc.size + l.length/\
  (∀ i,i < acc.size->(l.foldl(fun acc o=>acc.push(oK acc o))acc)[i]? = acc[i]?)/\
  ∀ i o,l[i]? = some o->∃ acc',(l.foldl(fun acc o=>acc.push(oK acc o))acc)[acc.size + i]? = some(oK acc' o)/\∀ k,k < acc.size + i->acc'[k]? = (l.foldl(fun acc o=>acc.push(oK acc o))acc)[k]?
 | [],acc =>⟨by simp,fun _ _=>rfl,fun i o h=>by simp at h⟩
 | o :: l,acc=>by
  obtain⟨h1,h2,h3⟩:=Dz l(acc.push(oK acc o))
  simp af [Array.size_push] at h1 h2 h3
  refine⟨by rw [List.foldl_cons,h1,List.length_cons]; omega,fun i hi=>?_,fun i o' ho=>?_⟩
  · rw [List.foldl_cons,h2 i(by omega),Array.getElem?_push,if_neg(by omega)]
  · rw [List.foldl_cons]
   cases i with
   | zero =>
    simp af [List.getElem?_cons_zero,Option.some.injEq] at ho
    subst ho
    refine⟨acc,?_,fun k hk=>?_⟩
    · rw [Nat.add_zero,h2 _(by omega),Array.getElem?_push,if_pos rfl]
    · rw [h2 k(by omega),Array.getElem?_push,if_neg(by omega)]
   | succ i =>
    obtain⟨acc',h4,h5⟩:=h3 i o' (by simpa using ho)
    refine⟨acc',?_,fun k hk=>h5 k(by omega)⟩
    rw [show acc.size + (i + 1)=acc.size + 1 + i by omega]; exact h4
theorem Ll(ops:Array Oper):Region.before ops=ops.toList.foldl(fun acc o=>acc.push(oK acc o)) #[]:=by
 unfold Region.before
 rw [<- Array.foldl_toList]; rfl
theorem Sb {ops:Array Oper}(hB:Back ops)(j i:Nat):bc(cj ops)j i=true↔∃ o,ops[j]? = some o/\∃ e∈o.after,Region.binds .any e=true/\(e.on=i\/bc(cj ops)e.on i=true):=by
 have hg:∀ k,(cj ops).getD k 0=(Region.before ops).getD k 0:=fun k=>by simp [cj,List.getD,Array.getD_eq_getD_getElem?]
 obtain⟨h1,_,h3⟩:=Dz ops.toList #[]
 rw [<- Ll] at h1 h3
 simp af [List.size_toArray,List.length_nil,Nat.zero_add,Array.getElem?_toList,Array.length_toList] at h1 h3
 cases ho:ops[j]? with
 | none =>
  simp af [bc,hg]
  have hn : ¬ j < ops.size:=fun hj=>by rw [Array.getElem?_eq_getElem hj] at ho; cases ho
  rw [Array.getD_eq_getD_getElem?,Array.getElem?_eq_none(by omega)]
  simp
 | some o =>
  obtain⟨acc',h4,h5⟩:=h3 j o ho
  simp af [bc,hg]
  rw [Array.getD_eq_getD_getElem?,h4,Option.getD_some,oK,<- Array.foldl_toList,GP(fun k=>acc'.getD k 0)]
  simp af [Nat.zero_testBit,Bool.false_eq_true,false_or,Option.some.injEq,exists_eq_left',Array.mem_toList_iff]
  constructor
  · rintro⟨e,he,hb,hh⟩
   refine⟨e,he,hb,hh.imp id fun hh=>?_⟩
   have hlt:e.on < j:=by
    rcases hB j o ho e he with h |⟨h,_⟩
    · exact h
    · rw [h] at hb; cases hb
   rw [Array.getD_eq_getD_getElem?,h5 _ hlt,<- Array.getD_eq_getD_getElem?] at hh
   exact hh
  · rintro⟨e,he,hb,hh⟩
   refine⟨e,he,hb,hh.imp id fun hh=>?_⟩
   have hlt:e.on < j:=by
    rcases hB j o ho e he with h |⟨h,_⟩
    · exact h
    · rw [h] at hb; cases hb
   rw [Array.getD_eq_getD_getElem?,h5 _ hlt,<- Array.getD_eq_getD_getElem?]
   exact hh
theorem Back.lt {ops:Array Oper}(hB:Back ops){j:Nat}{o:Oper}(ho:ops[j]? = some o){e:Edge}(he:e∈o.after)(hb:Region.binds .any e=true):e.on < j:=by
 rcases hB j o ho e he with h |⟨h,_⟩
 · exact h
 · rw [h] at hb; cases hb
theorem sj:∀ (l:List Oper)(j:Nat),EM l j=true->∀ i o,l[i]? = some o->∀ e∈o.after,e.on < j + i\/Region.binds .any e=false/\Region.binds .text e=false
 | [],_,_,i,o,ho,_,_=>by simp at ho
 | o' :: l,j,h,i,o,ho,e,he=>by
  simp af [EM,Bool.and_eq_true] at h
  cases i with
  | zero =>
   simp af [List.getElem?_cons_zero,Option.some.injEq] at ho
   subst ho
   have:=List.all_eq_true.1 h.1 e(by simpa using he)
   simpa using this
  | succ i =>
   have:=sj l(j + 1)h.2 i o(by simpa using ho)e he
   rw [show j + (i + 1)=j + 1 + i by omega]; exact this
theorem oN {bs:List Nat}{j:Nat}{t:Tmp} : ∀ (l:List Oper)(k:Nat),oW bs j t l k=true->∀ i o,l[i]? = some o->o.dst=some t->k + i=j\/bc bs j(k + i)=true\/bc bs(k + i)j=true
 | [],_,_,i,o,ho,_=>by simp at ho
 | o' :: l,k,h,i,o,ho,hd=>by
  simp af [oW,Bool.and_eq_true] at h
  cases i with
  | zero =>
   simp af [List.getElem?_cons_zero,Option.some.injEq] at ho
   subst ho
   have h1:=h.1
   rw [hd] at h1
   simpa [or_assoc] using h1
  | succ i =>
   have:=oN l(k + 1)h.2 i o(by simpa using ho)hd
   rw [show k + (i + 1)=k + 1 + i by omega]; exact this
theorem m7 {bs:List Nat}{all:List Oper} : ∀ (l:List Oper)(k:Nat),EC bs all l k=true->∀ i o,l[i]? = some o->
  (∀ t,Operand.tmp t∈o.op.operands->oW bs(k + i)t all 0=true)/\∀ g b,o.guard=some(g,b)->bc bs(k + i)g=true
 | [],_,_,i,o,ho=>by simp at ho
 | o' :: l,k,h,i,o,ho=>by
  simp af [EC,Bool.and_eq_true] at h
  cases i with
  | zero =>
   simp af [List.getElem?_cons_zero,Option.some.injEq] at ho
   subst ho
   refine⟨fun t ht=>?_,fun g b hg=>?_⟩
   · exact List.all_eq_true.1 h.1.1(.tmp t)(by simpa using ht)
   · have h1:=h.1.2
    rw [hg] at h1
    exact h1
  | succ i =>
   have:=m7 l(k + 1)h.2 i o(by simpa using ho)
   rw [show k + (i + 1)=k + 1 + i by omega]; exact this
theorem mJ:∀ (l:List Oper)(m:Nat),vx l m=true->(∀ (i:Nat)(o:Oper)(t:Tmp),l[i]? = some o->o.dst=some t->m.testBit t=false)/\
  ∀ (i j:Nat)(o o' : Oper)(t:Tmp),l[i]? = some o->l[j]? = some o'->o.dst=some t->o'.dst=some t->i=j
 | [],_,_ =>⟨fun i o t h=>by simp at h,fun i j o o' t h=>by simp at h⟩
 | x :: l,m,h=>by
  cases hd:x.dst with
  | none =>
   simp af [vx,hd] at h
   obtain⟨h1,h2⟩:=mJ l m h
   refine⟨fun i o t ho ht=>?_,fun i j o o' t ho ho' ht ht'=>?_⟩
   · cases i with
    | zero =>
     simp af [List.getElem?_cons_zero,Option.some.injEq] at ho
     subst ho; rw [hd] at ht; cases ht
    | succ i=>exact h1 i o t(by simpa using ho)ht
   · cases i with
    | zero =>
     simp af [List.getElem?_cons_zero,Option.some.injEq] at ho
     subst ho; rw [hd] at ht; cases ht
    | succ i =>
     cases j with
     | zero =>
      simp af [List.getElem?_cons_zero,Option.some.injEq] at ho'
      subst ho'; rw [hd] at ht'; cases ht'
     | succ j=>rw [h2 i j o o' t(by simpa using ho)(by simpa using ho')ht ht']
  | some d =>
   simp af [vx,hd,Bool.and_eq_true,Bool.not_eq_true'] at h
   obtain⟨h1,h2⟩:=mJ l _ h.2
   have h1' : ∀ (i:Nat)(o:Oper)(t:Tmp),l[i]? = some o->o.dst=some t->m.testBit t=false/\d≠t:=fun i o t ho ht=>by
    have:=h1 i o t ho ht
    simp af [Nat.testBit_or,Bool.or_eq_false_iff,Nat.testBit_two_pow,decide_eq_false_iff_not] at this
    exact this
   refine⟨fun i o t ho ht=>?_,fun i j o o' t ho ho' ht ht'=>?_⟩
   · cases i with
    | zero =>
     simp af [List.getElem?_cons_zero,Option.some.injEq] at ho
     subst ho; rw [hd] at ht
     obtain rfl:=Option.some.inj ht
     exact h.1
    | succ i=>exact(h1' i o t(by simpa using ho)ht).1
   · cases i with
    | zero =>
     simp af [List.getElem?_cons_zero,Option.some.injEq] at ho
     subst ho; rw [hd] at ht
     obtain rfl:=Option.some.inj ht
     cases j with
     | zero=>rfl
     | succ j=>exact absurd rfl(h1' j o' _(by simpa using ho')ht').2
    | succ i =>
     cases j with
     | zero =>
      simp af [List.getElem?_cons_zero,Option.some.injEq] at ho'
      subst ho'; rw [hd] at ht'
      obtain rfl:=Option.some.inj ht'
      exact absurd rfl(h1' i o _(by simpa using ho)ht).2
     | succ j=>rw [h2 i j o o' t(by simpa using ho)(by simpa using ho')ht ht']
theorem EO {ops:Array Oper}(h:Jw ops=true):Ordd ops(bc(cj ops))/\Back ops/\(Region.departs ops=true->(Region.linearise .gc ops 0).length=ops.size):=by
 simp af [Jw,Bool.and_eq_true] at h
 obtain⟨⟨⟨h1,h2⟩,h3⟩,h4⟩:=h
 have hB:Back ops:=fun i o ho e he=>by
  have:=sj ops.toList 0 h1 i o(by simpa using ho)e he
  rwa [Nat.zero_add] at this
 have hbi:=Sb hB
 have hlt:∀ j i,bc(cj ops)j i=true->i < j:=by
  intro j
  induction j using Nat.strongRecOn with
  | _ j ih =>
   intro i hb
   obtain⟨o,ho,e,he,hbe,hh⟩:=(hbi j i).1 hb
   have:=hB.lt ho he hbe
   rcases hh with hh | hh
   · omega
   · have:=ih _ this i hh; omega
 refine⟨⟨hlt,?_,?_,?_,?_,?_⟩,hB,?_⟩
 · intro k
  induction k using Nat.strongRecOn with
  | _ k ih =>
   intro j i h5 h6
   obtain⟨o,ho,e,he,hbe,hh⟩:=(hbi k j).1 h5
   refine(hbi k i).2⟨o,ho,e,he,hbe,.inr ?_⟩
   rcases hh with rfl | hh
   · exact h6
   · exact ih _(hB.lt ho he hbe)j i hh h6
 · intro L hL pre j
  induction j using Nat.strongRecOn generalizing pre with
  | _ j ih =>
   intro suf heq i hb
   obtain⟨o,ho,e,he,hbe,hh⟩:=(hbi j i).1 hb
   have hm:=hL.deps pre j suf heq o ho e he hbe
   rcases hh with rfl | hh
   · exact hm
   · obtain⟨p1,p2,rfl⟩:=List.append_of_mem hm
    exact List.mem_append_left _(ih _(hB.lt ho he hbe)p1(p2 ++ j :: suf)(by rw [heq]; simp)i hh)
 · intro j o t ho ht i o' ho' hd
  have h5:=(m7 ops.toList 0 h4 j o(by simpa using ho)).1 t ht
  rw [Nat.zero_add] at h5
  have:=oN ops.toList 0 h5 i o' (by simpa using ho')hd
  rwa [Nat.zero_add] at this
 · intro j o i b ho hg
  have h5:=(m7 ops.toList 0 h4 j o(by simpa using ho)).2 i b hg
  rwa [Nat.zero_add] at h5
 · intro i j o o' t ho ho' ht ht'
  exact(mJ ops.toList 0 h2).2 i j o o' t(by simpa using ho)(by simpa using ho')ht ht'
 · intro hd
  simp af [hd,Bool.not_true,Bool.false_or,beq_iff_eq] at h3
  exact h3
theorem nF(hN:bV P){cf:aY}(hcf:CfOk P gl cf):∀ {d c:Code},Part d c->aW c=true->gX P gl cf d:=by
 have key:∀ c,aW c=true->gX P gl cf c:=by
  intro c h id ops heq
  subst heq
  obtain⟨h1,h2,h3⟩:=EO h
  exact On hN hcf h1 h2 h3 id ops rfl
 intro d c hp
 induction hp with
 | refl=>exact key _
 | seqL _ ih=>intro h; simp af [aW,Bool.and_eq_true] at h; exact ih h.1
 | seqR _ ih=>intro h; simp af [aW,Bool.and_eq_true] at h; exact ih h.2
 | condT _ ih=>intro h; simp af [aW,Bool.and_eq_true] at h; exact ih h.1
 | condF _ ih=>intro h; simp af [aW,Bool.and_eq_true] at h; exact ih h.2
 | block _ ih=>intro h; simp af [aW] at h; exact ih h
 | loop _ ih=>intro h; simp af [aW] at h; exact ih h
theorem mO(hN:bV P):Do P gl:=fun _ hcf _ _ hp h=>nF hN hcf hp h
def cw(fn:Func):Bool:=match fn.body with | some c=>aW c | none=>true
theorem HC(hN:bV P)(h:∀ (f:FuncId)(fn:Func),P.funcs[f]? = some fn->cw fn=true):GD P gl:=fun cf hcf f fn c d hf hb hp=>by
 have:=h f fn hf
 simp af [cw,hb] at this
 exact nF hN hcf hp this
end Go.Ab
end
section
namespace Go.Ab
open Go
variable {α:Type}
def Ref(bad x:Bool)(run:Option α)(K:α->Bool):Prop:=x=bad\/∃ r,run=some r/\x=K r
theorem Ref.bad {b:Bool}{run:Option α}{K:α->Bool} : Ref b b run K:= .inl rfl
theorem Ref.of {b x:Bool}{run:Option α}{K:α->Bool}{r:α}(h:run=some r)(hx:x=K r):Ref b x run K:= .inr⟨r,h,hx⟩
theorem bU(n:Nat)(c:Nat->Bool):eQ n c=c n:=by cases n <;> rfl
theorem Fc(n:Int)(c:Int->Bool):Qr n c=c n:=by
 cases n with
 | ofNat n=>exact bU n fun n=>c(.ofNat n)
 | negSucc n=>exact bU n fun n=>c(.negSucc n)
theorem Gu(a:Option Addr)(K:Option Addr->Bool):KU a K=K a:=by
 rcases a with _ |⟨b,o,s⟩
 · rfl
 · show eQ b(fun b=>eQ o fun o=>K(some⟨b,o,s⟩))=_
  rw [bU,bU]
theorem bW(v:Value)(K:Value->Bool):gB v K=K v:=by
 cases v with
 | int k n=>exact Fc n fun n=>K(.int k n)
 | pointer a=>exact Gu a fun a=>K(.pointer a)
 | slice a n c =>
  show KU a(fun a=>eQ n fun n=>eQ c fun c=>K(.slice a n c))=_
  rw [Gu,bU,bU]
 | _=>rfl
theorem dB {β:Type}{bad:Bool}{x:Option α}{K:α->Bool}{run:Option β}{K' : β->Bool}(h:∀ a,x=some a->Ref bad(K a)run K'):Ref bad(Ck bad x K)run K':=by
 cases x with
 | none=>exact .bad
 | some a=>exact h a rfl
theorem bJ {β:Type}{bad x y:Bool}{b:Bool}{run:Option β}{K' : β->Bool}(h1:b=true->Ref bad x run K')(h2:b=false->Ref bad y run K'):Ref bad(cZ b x y)run K':=by
 cases b with
 | true=>exact h1 rfl
 | false=>exact h2 rfl
theorem vf(l:List Value):∀ (K:List Value->Bool),wo l K=K l:=by
 induction l with
 | nil=>intro K; rfl
 | cons a l ih=>intro K; exact ih fun r=>K(a :: r)
theorem zA:∀ (l:List α)(i:Nat),WW l i=l[i]?
 | [],_=>rfl
 | _ :: _,0=>rfl
 | _ :: l,i + 1=>zA l i
theorem Dr(v:Value)(bad:Bool):∀ (l:List Value)(i:Nat)(K:List Value->Bool),Fz v bad l i K=if i < l.length then K(l.set i v) else bad
 | [],i,K=>by simp [Fz]
 | a :: l,0,K=>by show K(v :: l)=_; simp
 | a :: l,i + 1,K=>by
  show Fz v bad l i(fun r=>K(a :: r))=_
  rw [Dr v bad l i]
  simp
theorem HT.setK_eq(b:Option Blk):∀ (p:Pth)(t:HT)(K:HT->Bool),HT.setK b p t K=K(HT.set b p t)
 | .e,.nil,_=>rfl
 | .e,.node ..,_=>rfl
 | .l p,.nil,K=>HT.setK_eq b p .nil fun l=>K(.node none l .nil)
 | .l p,.node v l r,K=>HT.setK_eq b p l fun l=>K(.node v l r)
 | .r p,.nil,K=>HT.setK_eq b p .nil fun r=>K(.node none .nil r)
 | .r p,.node v l r,K=>HT.setK_eq b p r fun r=>K(.node v l r)
theorem tg(b:Blk)(K:Blk->Bool):Hf b K=K b:=by
 cases b with
 | cells cs t sz wr=>exact vf cs fun cs=>K(.cells cs t sz wr)
 | map es=>rfl
 | loop=>rfl
theorem yF(u:Upd)(h:Heap)(K:Heap->Bool):RT u h K=K(u.app h):=by
 cases u with
 | no=>rfl
 | set k b=>show Od k b h K=_; unfold Od; rw [tg,HT.setK_eq]; rfl
 | push b=>show rM b h K=_; unfold rM; rw [tg,HT.setK_eq,bU]; rfl
 | move k b=>show Jl k b h K=_; unfold Jl; rw [tg,HT.setK_eq,HT.setK_eq,bU]; rfl
 | all h'=>rfl
theorem Sh {k:IntKind}{m:Nat}(h:m < aS k):k.wrap(m:Int)=m:=by
 have key:∀ (s:Bool)(b:Nat),(m:Int) < 2 ^ b->(s=true->(m:Int) < 2 ^ (b - 1))->(if s && decide((m:Int) % 2 ^ b>=2 ^ (b - 1)) then(m:Int) % 2 ^ b - 2 ^ b else(m:Int) % 2 ^ b)=m:=by
  intro s b h1 h2
  have hm:(m:Int) % 2 ^ b=m:=Int.emod_eq_of_lt(by omega)h1
  rw [hm]
  cases s with
  | false=>rfl
  | true =>
   have:=h2 rfl
   rw [if_neg]
   simp af [Bool.true_and,ge_iff_le,decide_eq_true_eq]
   omega
 unfold IntKind.wrap
 cases k <;> exact key _ _(by simp af [aS,IntKind.bits] at h ⊢; omega)(by simp af [aS,IntKind.bits,IntKind.signed] at h ⊢; first | (intro hh; omega) | (intro hh; cases hh))
theorem H8(k:IntKind)(n:Int)(K:Int->Bool):P2 k n K=K(k.wrap n):=by
 cases n with
 | ofNat m =>
  show cZ(Nat.blt m(aS k))(eQ m fun m=>K(.ofNat m))(Qr(k.wrap(.ofNat m))K)=_
  cases hb:Nat.blt m(aS k) with
  | true =>
   have hlt:m < aS k:=by simpa [Nat.blt_eq] using hb
   show eQ m(fun m=>K(.ofNat m))=_
   rw [bU]
   exact congrArg K(Sh hlt).symm
  | false=>exact Fc _ K
 | negSucc m=>exact Fc _ K
theorem tK(a b:Int):GM a b=decide(a < b):=by
 cases a with
 | ofNat m=>cases b with
  | ofNat n=>show Nat.blt m n=_; rw [Bool.eq_iff_iff]; simp [Nat.blt_eq]
  | negSucc n=>show false=_; rw [Bool.eq_iff_iff]; simp; omega
 | negSucc m=>cases b with
  | ofNat n=>show true=_; rw [Bool.eq_iff_iff]; simp; omega
  | negSucc n=>show Nat.blt n m=_; rw [Bool.eq_iff_iff]; simp [Nat.blt_eq]; omega
theorem zY(a b:Int):K4 a b=(a == b):=by
 cases a with
 | ofNat m=>cases b with
  | ofNat n=>show Nat.beq m n=_; rw [Bool.eq_iff_iff]; simp [Nat.beq_eq]; omega
  | negSucc n=>show false=_; rw [Bool.eq_iff_iff]; simp
 | negSucc m=>cases b with
  | ofNat n=>show false=_; rw [Bool.eq_iff_iff]; simp
  | negSucc n=>show Nat.beq n m=_; rw [Bool.eq_iff_iff]; simp [Nat.beq_eq]; omega
end Go.Ab
end
section
namespace Go.Ab
open Go
def qZ(cx:Cx)(cf:aY):Prop:= ∀ f args h K,Ref cx.bad(cx.cf f args h K)(cf f args h)fun r=>K r.1 r.2
noncomputable abbrev ji(h:Heap)(K:Value->Heap->Bool)(r:Value × Upd):Bool:=K r.1(r.2.app h)
theorem zi {bad:Bool}{r:Option(Value × Upd)}{h:Heap}{K:Value->Heap->Bool}{run:Option(Value × Upd)}(hr:∀ x,r=some x->run=some x):Ref bad(JN bad r h K)run(ji h K):=by
 unfold JN
 refine dB fun x hx=>.of(hr x hx) ?_
 obtain⟨v,u⟩:=x
 show RT u h(fun h=>gB v fun v=>K v h)=_
 rw [yF,bW]
theorem rC {P:Program}{cf:aY}{ρ:Operand->Value}{o:Oper}{h:Heap}(hc:aF o=false):bA P dh ρ o h=bA P cf ρ o h:=by
 obtain⟨dst,op,ty,pos,after,guard⟩:=o
 cases op <;> try rfl
 rename_i c
 obtain⟨callee,args,ats⟩:=c
 cases callee with
 | value f=>simp [aF] at hc
 | invoke r m=>rfl
 | builtin b=>cases b <;> rfl
theorem A9 {P:Program}{cf:aY}{ρ:Operand->Value}{o:Oper}{h:Heap}(hc:aF o=false):aL P dh ρ o h=aL P cf ρ o h:=by
 unfold aL
 rw [rC hc]
variable {cx:Cx}{cf:aY}{ρ:Operand->Value}{h:Heap}{K:Value->Heap->Bool}{dst:Option Tmp}{ty:TypeId}{pos:String}{after:Array Edge}{guard:Option(Nat × Bool)}
theorem dC {o:Oper}(hc:aF o=false):Ref cx.bad(nV cx o ρ h K)(aL cx.P cf ρ o h)(ji h K):=
 zi fun x hx=>by rw [<- A9 hc]; exact hx
theorem run_pure {P:Program}{o:Oper}{v:Value}(hp:aD P ρ o=some v):aL P cf ρ o h=some(v,.no):=by
 unfold aL; rw [hp]
theorem OG {x:Operand} : Ref cx.bad(Le x cx⟨dst,.move x,ty,pos,after,guard⟩ρ h K)(aL cx.P cf ρ⟨dst,.move x,ty,pos,after,guard⟩h)(ji h K):=
 .of(run_pure(v:=ρ x)rfl)(bW _ _)
theorem Jg {x:Operand} : Ref cx.bad(Le x cx⟨dst,.assign x,ty,pos,after,guard⟩ρ h K)(aL cx.P cf ρ⟨dst,.assign x,ty,pos,after,guard⟩h)(ji h K):=
 .of(run_pure(v:=ρ x)rfl)(bW _ _)
theorem Di {α:Type}{v:Value}{bad:Bool}{K:Bool->Bool}{run:Option α}{K' : α->Bool}(hh:∀ b,v = .bool b->Ref bad(K b)run K'):Ref bad(wV v bad K)run K':=by
 rcases Hp v bad K with⟨h1,_⟩|⟨b,h1,h2⟩
 · rw [h1]; exact .bad
 · rw [h2]; exact hh b h1
theorem jc {α:Type}{v:Value}{bad els:Bool}{K:IntKind->Int->Bool}{run:Option α}{K' : α->Bool}(he:Ref bad els run K')(hh:∀ k n,v = .int k n->Ref bad(K k n)run K'):Ref bad(BO v els K)run K':=by
 rcases Ta v els K with⟨h1,_⟩|⟨k,n,h1,h2⟩
 · rw [h1]; exact he
 · rw [h2]; exact hh k n h1
theorem oz {α:Type}{v:Value}{bad els:Bool}{K:Option Addr->Bool}{run:Option α}{K' : α->Bool}(he:Ref bad els run K')(hh:∀ a,v = .pointer a->Ref bad(K a)run K'):Ref bad(Gb v els K)run K':=by
 rcases SQ v els K with⟨h1,_⟩|⟨a,h1,h2⟩
 · rw [h1]; exact he
 · rw [h2]; exact hh a h1
theorem Hy {α:Type}{v:Value}{bad:Bool}{K:ByteArray->Bool}{run:Option α}{K' : α->Bool}(hh:∀ s,v = .string s->Ref bad(K s)run K'):Ref bad(yC v bad K)run K':=by
 rcases Jh v bad K with⟨h1,_⟩|⟨a,h1,h2⟩
 · rw [h1]; exact .bad
 · rw [h2]; exact hh a h1
theorem By {α:Type}{v:Value}{bad:Bool}{K:Option Addr->Nat->Nat->Bool}{run:Option α}{K' : α->Bool}(hh:∀ a n c,v = .slice a n c->Ref bad(K a n c)run K'):Ref bad(yW v bad K)run K':=by
 rcases NK v bad K with⟨h1,_⟩|⟨a,n,c,h1,h2⟩
 · rw [h1]; exact .bad
 · rw [h2]; exact hh a n c h1
theorem NQ {α:Type}{v:Value}{bad:Bool}{K:Fn->Array Value->Array Value->Bool}{run:Option α}{K' : α->Bool}(hh:∀ f a c,v = .func f a c->Ref bad(K f a c)run K'):Ref bad(Hu v bad K)run K':=by
 rcases HM v bad K with⟨h1,_⟩|⟨f,a,c,h1,h2⟩
 · rw [h1]; exact .bad
 · rw [h2]; exact hh f a c h1
theorem PD {α:Type}{v:Value}{bad:Bool}{K:Array Value->Bool}{run:Option α}{K' : α->Bool}(hh:∀ a,v = .agg a->Ref bad(K a)run K'):Ref bad(S7 v bad K)run K':=by
 rcases Rq v bad K with⟨h1,_⟩|⟨a,h1,h2⟩
 · rw [h1]; exact .bad
 · rw [h2]; exact hh a h1
theorem JS {α:Type}{v:Value}{bad:Bool}{K:Array Value->Bool}{run:Option α}{K' : α->Bool}(hh:∀ a,v = .tuple a->Ref bad(K a)run K'):Ref bad(EB v bad K)run K':=by
 rcases ND v bad K with⟨h1,_⟩|⟨a,h1,h2⟩
 · rw [h1]; exact .bad
 · rw [h2]; exact hh a h1
theorem HQ {α:Type}{j:Int}{bad:Bool}{K:Nat->Bool}{run:Option α}{K' : α->Bool}(hh:∀ n:Nat,j=n->Ref bad(K n)run K'):Ref bad(U0 j bad K)run K':=by
 cases j with
 | ofNat n=>exact hh n rfl
 | negSucc n=>exact .bad
theorem ma {α:Type}{a:Option Addr}{bad:Bool}{K:Nat->Nat->Bool}{run:Option α}{K' : α->Bool}(hh:∀ b i,a=some⟨b,i,none⟩->Ref bad(K b i)run K'):Ref bad(F7 a bad K)run K':=by
 rcases a with _ |⟨b,i,_ | s⟩
 · exact .bad
 · exact hh b i rfl
 · exact .bad
theorem HR {α:Type}{k:Nat}{bad:Bool}{K:List Value->TypeId->Nat->Bool->Bool}{run:Option α}{K' : α->Bool}(hh:∀ cs t sz wr,h.get k=some(.cells cs t sz wr)->Ref bad(K cs t sz wr)run K'):Ref bad(Rt h k bad K)run K':=by
 unfold Rt
 refine dB fun B hB=>?_
 cases B with
 | cells cs t sz wr=>exact hh cs t sz wr hB
 | map es=>exact .bad
 | loop=>exact .bad
theorem Pw {c a b:Operand} : Ref cx.bad(QG c a b cx⟨dst,.pick c a b,ty,pos,after,guard⟩ρ h K)(aL cx.P cf ρ⟨dst,.pick c a b,ty,pos,after,guard⟩h)(ji h K):=by
 unfold QG
 refine Di fun t ht=>?_
 refine bJ(fun hb=>?_)(fun hb=>?_)
 · rw [bW]; exact .of(run_pure(v:=ρ a)(by simp [aD,ht,hb]))rfl
 · rw [bW]; exact .of(run_pure(v:=ρ b)(by simp [aD,ht,hb]))rfl
theorem Gh {b:Blk}{f:Nat->Value}{o:Oper}(hp:aD cx.P ρ o=none)(hr:aI cx.P ρ o h=none)(ha:aH cx.P ρ o=some(b,f))(hf:∀ k,f k = .pointer(some⟨k,0,none⟩)) :
  Ref cx.bad(Tq b h K)(aL cx.P cf ρ o h)(ji h K):=by
 refine .of(r:=(f h.next,.push b))(by unfold aL; rw [hp,hr,ha]) ?_
 unfold Tq
 rw [bU]
 have:=yF(.push b)h(fun h'=>K(Value.pointer(some⟨h.next,0,none⟩))h')
 rw [hf]
 exact this
theorem MH {t:TypeId} : Ref cx.bad(Kg t cx⟨dst,.alloc t,ty,pos,after,guard⟩ρ h K)(aL cx.P cf ρ⟨dst,.alloc t,ty,pos,after,guard⟩h)(ji h K):=by
 unfold Kg
 refine dB fun b hb=>?_
 unfold P5 at hb
 split at hb
 · next z hz =>
  split at hb
  · next hs =>
   obtain rfl:=Option.some.inj hb
   exact Gh(f:=fun k=>.pointer(some⟨k,0,none⟩))rfl rfl(by simp af [aH,hz,hs,if_true])fun _=>rfl
  · cases hb
 · cases hb
theorem R9 {t:TypeId}{x:Operand} : Ref cx.bad(Ue t x cx⟨dst,.box t x,ty,pos,after,guard⟩ρ h K)(aL cx.P cf ρ⟨dst,.box t x,ty,pos,after,guard⟩h)(ji h K):=by
 unfold Ue
 refine bJ(fun hb=>?_)(fun _=>dC rfl)
 rw [Ia] at hb
 rw [bW]
 have hc:(ρ x).cells = #[ρ x]:=by
  generalize ρ x=v at hb
  cases v <;> first | rfl | (simp [bN] at hb)
 refine Gh(f:=fun k=>.pointer(some⟨k,0,none⟩))rfl rfl ?_ fun _=>rfl
 simp af [aH,hc]
 rw [if_pos(by simp [hb])]
theorem N1 {t:TypeId}{a:Operand} : Ref cx.bad(QB t a cx⟨dst,.load t a,ty,pos,after,guard⟩ρ h K)(aL cx.P cf ρ⟨dst,.load t a,ty,pos,after,guard⟩h)(ji h K):=by
 have hrun:∀ v,ai cx.P t h(ρ a)=some v->aL cx.P cf ρ⟨dst,.load t a,ty,pos,after,guard⟩h=some(v,.no):=fun v hv=>by
  show(match aI cx.P ρ⟨dst,.load t a,ty,pos,after,guard⟩h with | some v=>some(v,Upd.no) | none=>_)=_
  simp af [aI,hv]
 unfold QB
 refine bJ(fun hb=>?_)(fun _=>dB fun v hv=>.of(hrun v hv)rfl)
 refine oz .bad fun ad had=>ma fun b i hbi=>HR fun cs te sz wr hg=>dB fun v hv=>.of(hrun v ?_)rfl
 rw [zA] at hv
 unfold Fd at hb
 simp af [Bool.and_eq_true,Bool.not_eq_true'] at hb
 obtain⟨hb1,hb2⟩:=hb
 cases hu:cx.P.underlying t with
 | none=>rw [hu] at hb1; cases hb1
 | some u=>simp af [ai,hu,had,hbi,hg,hb2,Bool.false_eq_true,if_false,hv]
theorem LY {t:TypeId}{a x:Operand} : Ref cx.bad(Kh t a x cx⟨dst,.store t a x,ty,pos,after,guard⟩ρ h K)(aL cx.P cf ρ⟨dst,.store t a x,ty,pos,after,guard⟩h)(ji h K):=by
 have hrun:∀ r,am cx.P t(ρ a)(ρ x)h=some r->aL cx.P cf ρ⟨dst,.store t a x,ty,pos,after,guard⟩h=some r:=fun r hr=>by
  show bA cx.P cf ρ⟨dst,.store t a x,ty,pos,after,guard⟩h=_
  exact hr
 unfold Kh
 refine bJ(fun hb=>?_)(fun _=>zi hrun)
 simp af [Bool.and_eq_true,Ia] at hb
 obtain⟨hb1,hb2⟩:=hb
 have hc:(ρ x).cells = #[ρ x]:=by
  generalize ρ x=v at hb2
  cases v <;> first | rfl | (simp [bN] at hb2)
 refine oz .bad fun ad had=>ma fun b i hbi=>HR fun cs te sz wr hg=>bJ(fun hw=>?_)(fun _=>.bad)
 rw [bW,Dr]
 by_cases hlt:i < cs.length
 · rw [if_pos hlt,HT.setK_eq]
  refine .of(r:=(undef,.set b(.cells(cs.set i(ρ x))te sz true)))(hrun _ ?_)rfl
  have hs1:au cx.P t=some 1:=by simpa [T6] using hb1
  subst hw
  simp af [am,had,hbi,hc,hs1,List.size_toArray,List.length_cons,List.length_nil,storeAt,hg]
  rw [if_pos trivial,if_pos⟨by omega,by simpa using hb2⟩]
  simp af [Option.map_some]
  rw [List.set_eq_take_append_cons_drop,if_pos hlt]
  simp
 · rw [if_neg hlt]; exact .bad
end Go.Ab
end
section
namespace Go.Ab
open Go
variable {cx:Cx}{cf:aY}{ρ:Operand->Value}{h:Heap}{K:Value->Heap->Bool}{dst:Option Tmp}{ty:TypeId}{pos:String}{after:Array Edge}{guard:Option(Nat × Bool)}
theorem Ff {x:Operand} : Ref cx.bad(wd x cx⟨dst,.nilCheck x,ty,pos,after,guard⟩ρ h K)(aL cx.P cf ρ⟨dst,.nilCheck x,ty,pos,after,guard⟩h)(ji h K):=by
 unfold wd
 refine oz(dC rfl)fun a ha=>dB fun ad had=>?_
 subst had
 exact .of(run_pure(v:= .pointer(some ad))(by simp [aD,ha]))rfl
theorem vU {op:BinOp}{f:Int->Int->Int}{t u:TypeId}{x y:Operand}(hf:∀ k a b,an cx.P op t(.int k a)(.int k b)=some(.int k(k.wrap(f a b)))) :
  Ref cx.bad(zE f x y cx⟨dst,.binOp op t x y u,ty,pos,after,guard⟩ρ h K)(aL cx.P cf ρ⟨dst,.binOp op t x y u,ty,pos,after,guard⟩h)(ji h K):=by
 unfold zE
 refine jc(dC rfl)fun k a ha=>jc .bad fun k' b hb=>bJ(fun hk=>?_)(fun _=>.bad)
 obtain rfl:=Em hk
 rw [H8]
 exact .of(run_pure(v:= .int k(k.wrap(f a b)))(by simp af [aD,ha,hb,hf]))rfl
theorem qa {op:BinOp}{f:Int->Int->Bool}{t u:TypeId}{x y:Operand}(hf:∀ k a b,an cx.P op t(.int k a)(.int k b)=some(.bool(f a b))) :
  Ref cx.bad(HK f x y cx⟨dst,.binOp op t x y u,ty,pos,after,guard⟩ρ h K)(aL cx.P cf ρ⟨dst,.binOp op t x y u,ty,pos,after,guard⟩h)(ji h K):=by
 unfold HK
 refine jc(dC rfl)fun k a ha=>jc .bad fun k' b hb=>bJ(fun hk=>?_)(fun _=>.bad)
 obtain rfl:=Em hk
 have hp:=run_pure(cf:=cf)(h:=h)(P:=cx.P)(ρ:=ρ)(o :=⟨dst,.binOp op t x y u,ty,pos,after,guard⟩)(v:= .bool(f a b))(by simp af [aD,ha,hb,hf])
 refine bJ(fun hc=>?_)(fun hc=>?_)
 · rw [hc] at hp; exact .of hp rfl
 · rw [hc] at hp; exact .of hp rfl
theorem LU {op:BinOp}{t u:TypeId}{x y:Operand} : Ref cx.bad(V6 op t x y u cx⟨dst,.binOp op t x y u,ty,pos,after,guard⟩ρ h K)(aL cx.P cf ρ⟨dst,.binOp op t x y u,ty,pos,after,guard⟩h)(ji h K):=by
 cases op with
 | add=>exact vU fun k a b=>by simp [an,W6]
 | sub=>exact vU fun k a b=>by simp [an,Wz]
 | mul=>exact vU fun k a b=>by simp [an,Xe]
 | eql=>exact qa fun k a b=>by simp [an,rh,zY]
 | neq=>exact qa fun k a b=>by simp af [an,rh,YO,zY,if_true,Option.map_some]; simp [bne]
 | lss=>exact qa fun k a b=>by simp [an,rh,tK]
 | leq=>exact qa fun k a b=>by simp af [an,rh,YY,tK,if_true,Option.map_some]; rw [<- decide_not]; simp [Int.not_lt]
 | gtr=>exact qa fun k a b=>by simp [an,rh,YT,tK]
 | geq=>exact qa fun k a b=>by simp af [an,rh,YQ,tK,if_true,Option.map_some]; rw [<- decide_not]; simp [Int.not_lt]
 | _=>exact dC(o :=⟨dst,_,ty,pos,after,guard⟩)rfl
theorem O5 {op:UnOp}{t:TypeId}{x:Operand} : Ref cx.bad(Xp op t x cx⟨dst,.unOp op t x,ty,pos,after,guard⟩ρ h K)(aL cx.P cf ρ⟨dst,.unOp op t x,ty,pos,after,guard⟩h)(ji h K):=by
 cases op with
 | not =>
  show Ref cx.bad(UU x cx⟨dst,.unOp .not t x,ty,pos,after,guard⟩ρ h K)_ _
  unfold UU
  refine Di fun b hb=>?_
  have hp:=run_pure(cf:=cf)(h:=h)(P:=cx.P)(ρ:=ρ)(o :=⟨dst,.unOp .not t x,ty,pos,after,guard⟩)(v:= .bool !b)(by simp af [aD,hb,zC])
  refine bJ(fun hc=>?_)(fun hc=>?_)
  · rw [hc] at hp; exact .of hp rfl
  · rw [hc] at hp; exact .of hp rfl
 | neg=>rw [show Xp .neg t x=nV from rfl]; exact dC rfl
 | xor=>rw [show Xp .xor t x=nV from rfl]; exact dC rfl
 | plus=>rw [show Xp .plus t x=nV from rfl]; exact dC rfl
theorem Hk {s d:TypeId}{x:Operand} : Ref cx.bad(Ad s d x cx⟨dst,.convert s d x,ty,pos,after,guard⟩ρ h K)(aL cx.P cf ρ⟨dst,.convert s d x,ty,pos,after,guard⟩h)(ji h K):=by
 unfold Ad
 cases hk:YE cx.P s d with
 | none=>exact dC rfl
 | some k =>
  refine jc .bad fun k' n hn=>?_
  rw [H8]
  refine .of(run_pure(v:= .int k(k.wrap n)) ?_)rfl
  unfold YE at hk
  split at hk
  · next u k2 hs hd =>
   obtain rfl:=Option.some.inj hk
   simp af [aD,cC,hs,hd,hn]
  · cases hk
theorem vV(b i n:Nat):Addr.add⟨b,i,none⟩n =⟨b,i + n,none⟩:=by
 unfold Addr.add
 split
 · next hn=>subst hn; rfl
 · rfl
theorem Cd {s:TypeId}{x:Operand}{f:Nat} : Ref cx.bad(q9 s x f cx⟨dst,.fieldAddr s x f,ty,pos,after,guard⟩ρ h K)(aL cx.P cf ρ⟨dst,.fieldAddr s x f,ty,pos,after,guard⟩h)(ji h K):=by
 unfold q9
 refine dB fun off hoff=>oz .bad fun a ha=>ma fun b i hbi=>?_
 rw [bU]
 refine .of(run_pure(v:= .pointer(some⟨b,i + off,none⟩)) ?_)rfl
 subst hbi
 unfold Xh at hoff
 split at hoff
 · next fields hu =>
  split at hoff
  · next fd hfd =>
   split at hoff
   · next hsz =>
    obtain rfl:=Option.some.inj hoff
    simp af [aD,hu,ha,hfd]
    rw [if_pos hsz,vV]
   · cases hoff
  · cases hoff
 · cases hoff
theorem Mv {s:TypeId}{x:Operand}{f:Nat} : Ref cx.bad(IU s x f cx⟨dst,.field s x f,ty,pos,after,guard⟩ρ h K)(aL cx.P cf ρ⟨dst,.field s x f,ty,pos,after,guard⟩h)(ji h K):=by
 unfold IU
 cases hoff:Jj cx.P s f with
 | none=>exact dC rfl
 | some off =>
  refine PD fun cs hcs=>dB fun v hv=>?_
  rw [bW]
  refine .of(run_pure(v:=v) ?_)rfl
  rw [zA] at hv
  unfold Jj at hoff
  split at hoff
  · next fields hu =>
   split at hoff
   · next fd hfd =>
    split at hoff
    · next hp =>
     obtain rfl:=Option.some.inj hoff
     unfold Fd at hp
     simp af [Bool.and_eq_true,Bool.not_eq_true'] at hp
     obtain⟨hp1,hp2⟩:=hp
     cases hu2:cx.P.underlying fd.type with
     | none=>rw [hu2] at hp1; cases hp1
     | some u =>
      simp af [aD,hu,hcs,hfd,gJ,hu2,hp2,Bool.false_eq_true,if_false]
      simpa using hv
    · cases hoff
   · cases hoff
  · cases hoff
theorem Cz {t:TypeId}{x i:Operand} : Ref cx.bad(rT t x i cx⟨dst,.indexAddr t x i,ty,pos,after,guard⟩ρ h K)(aL cx.P cf ρ⟨dst,.indexAddr t x i,ty,pos,after,guard⟩h)(ji h K):=by
 unfold rT
 refine dB fun inf hinf=>?_
 obtain⟨len,n⟩:=inf
 refine jc .bad fun k j hj=>HQ fun m hm=>?_
 subst hm
 unfold T0 at hinf
 split at hinf
 · next ln e hu =>
  obtain⟨n',hn,he⟩:=Option.map_eq_some_iff.1 hinf
  simp af [Prod.mk.injEq] at he
  obtain⟨rfl,rfl⟩:=he
  refine oz .bad fun a ha=>?_
  unfold Ex
  refine bJ(fun hlt=>ma fun b o hbo=>?_)(fun _=>.bad)
  rw [bU]
  refine .of(run_pure(v:= .pointer(some⟨b,o + m * n',none⟩)) ?_)rfl
  subst hbo
  have hlt:m < ln:=by simpa [Nat.blt_eq] using hlt
  simp af [aD,hu,ha,hj,hn]
  rw [if_pos⟨by omega,by omega⟩,vV]; rfl
 · next e hu =>
  obtain⟨n',hn,he⟩:=Option.map_eq_some_iff.1 hinf
  simp af [Prod.mk.injEq] at he
  obtain⟨rfl,rfl⟩:=he
  refine By fun a l c ha=>?_
  unfold Ex
  refine bJ(fun hlt=>ma fun b o hbo=>?_)(fun _=>.bad)
  rw [bU]
  refine .of(run_pure(v:= .pointer(some⟨b,o + m * n',none⟩)) ?_)rfl
  subst hbo
  have hlt:m < l:=by simpa [Nat.blt_eq] using hlt
  simp af [aD,hu,ha,hj,hn]
  rw [if_pos⟨by omega,by omega⟩,vV]; rfl
 · cases hinf
theorem Nu {t:TypeId}{x i:Operand} : Ref cx.bad(Jb t x i cx⟨dst,.index t x i,ty,pos,after,guard⟩ρ h K)(aL cx.P cf ρ⟨dst,.index t x i,ty,pos,after,guard⟩h)(ji h K):=by
 unfold Jb
 refine bJ(fun hs=>Hy fun s hsx=>jc .bad fun k j hj=>HQ fun m hm=>dB fun b hb=>?_)(fun _=>dC rfl)
 rw [bU]
 subst hm
 rw [zA] at hb
 refine .of(run_pure(v:= .int .u8 b.toNat) ?_)rfl
 unfold TG at hs
 split at hs
 · next hu =>
  simp af [aD,hu,hsx,hj]
  rw [if_pos(by omega)]
  simp af [Int.toNat_natCast,hb]
 · cases hs
theorem G8 {x:Operand}{i:Nat} : Ref cx.bad(AV x i cx⟨dst,.extract x i,ty,pos,after,guard⟩ρ h K)(aL cx.P cf ρ⟨dst,.extract x i,ty,pos,after,guard⟩h)(ji h K):=by
 unfold AV
 refine JS fun vs hvs=>dB fun v hv=>?_
 rw [bW]
 rw [zA] at hv
 exact .of(run_pure(v:=v)(by simp af [aD,hvs]; simpa using hv))rfl
theorem BC:∀ (l:List Operand)(K:List Value->Bool),Dg ρ l K=K(l.map ρ)
 | [],_=>rfl
 | x :: l,K=>by
  show gB(ρ x)(fun v=>Dg ρ l fun r=>K(v :: r))=_
  rw [bW,BC l]; rfl
theorem DH {a:Array Value}(h:vh a=true):a.size=0:=by
 unfold vh at h
 rw [<- Array.length_toList]
 generalize a.toList=l at h
 cases l with
 | nil=>rfl
 | cons x l=>cases h
theorem P8(hcf:qZ cx cf){c:Call} : Ref cx.bad(Q3 c cx⟨dst,.call c,ty,pos,after,guard⟩ρ h K)(aL cx.P cf ρ⟨dst,.call c,ty,pos,after,guard⟩h)(ji h K):=by
 obtain⟨callee,args,ats⟩:=c
 cases callee with
 | value f =>
  show Ref cx.bad(FQ f args ats cx⟨dst,.call⟨.value f,args,ats⟩,ty,pos,after,guard⟩ρ h K)_ _
  unfold FQ
  refine NQ fun fn first captured hf=>?_
  cases fn with
  | func g =>
   show Ref cx.bad(cZ(Nat.blt g YB)(Dg ρ args.toList fun vs=>wo(first.toList ++ vs ++ captured.toList)fun vs=>cx.cf g vs h K)cx.bad)_ _
   refine bJ(fun hg=>?_)(fun _=>.bad)
   have hg:g < YB:=by simpa [Nat.blt_eq] using hg
   rw [BC,vf]
   rcases hcf g(first.toList ++ args.toList.map ρ ++ captured.toList)h K with hb |⟨r,h1,h2⟩
   · rw [hb]; exact .bad
   · refine .of(r:=(r.1,.all r.2)) ?_ h2
    show bA cx.P cf ρ⟨dst,.call⟨.value f,args,ats⟩,ty,pos,after,guard⟩h=_
    simp af [bA,rO,hf,h1,Option.map_some,if_pos hg]
  | yield k =>
   show Ref cx.bad(cZ(vh first)(cZ(vh captured)(Dg ρ args.toList fun vs=>eQ(YB + k)fun id=>cx.cf id vs h K)cx.bad)cx.bad)_ _
   refine bJ(fun h1=>bJ(fun h2=>?_)(fun _=>.bad))(fun _=>.bad)
   rw [BC,bU]
   rcases hcf(YB + k)(args.toList.map ρ)h K with hb |⟨r,h3,h4⟩
   · rw [hb]; exact .bad
   · refine .of(r:=(r.1,.all r.2)) ?_ h4
    show bA cx.P cf ρ⟨dst,.call⟨.value f,args,ats⟩,ty,pos,after,guard⟩h=_
    simp af [bA,rO,hf,h3,Option.map_some,if_pos(show first.size=0/\captured.size=0 from⟨DH h1,DH h2⟩)]
  | method _=>exact .bad
  | methodOf _ _=>exact .bad
  | via _ _ _ _=>exact .bad
 | invoke r m=>exact .bad
 | builtin b =>
  by_cases hb1:b = .append
  · subst hb1
   show Ref cx.bad(z1 args ats cx⟨dst,.call⟨.builtin .append,args,ats⟩,ty,pos,after,guard⟩ρ h K)_ _
   unfold z1
   refine zi fun r hr=>?_
   show bA cx.P cf ρ⟨dst,.call⟨.builtin .append,args,ats⟩,ty,pos,after,guard⟩h=_
   exact hr
  by_cases hb2:b = .len
  · subst hb2
   show Ref cx.bad(Pz args ats cx⟨dst,.call⟨.builtin .len,args,ats⟩,ty,pos,after,guard⟩ρ h K)_ _
   unfold Pz
   cases hl:Es cx.P args ats with
   | none=>exact dC rfl
   | some x =>
    refine By fun a n c hx=>?_
    refine .of(r:=(.int .i64 n,.no)) ?_ rfl
    unfold Es at hl
    split at hl
    · next y t hy ht =>
     split at hl
     · next hs =>
      obtain rfl:=Option.some.inj hl
      unfold TO at hs
      split at hs
      · next e hu =>
       show(match aI cx.P ρ⟨dst,.call⟨.builtin .len,args,ats⟩,ty,pos,after,guard⟩h with | some v=>some(v,Upd.no) | none=>_)=_
       simp af [aI,hy,ht,hu,hx]
      · cases hs
     · cases hl
    · cases hl
  have hg:Q3⟨.builtin b,args,ats⟩= nV:=by
   cases b <;> first | rfl | exact absurd rfl hb1 | exact absurd rfl hb2
  rw [hg]
  exact dC rfl
theorem yM(hcf:qZ cx cf)(o:Oper):Ref cx.bad(Un o.op cx o ρ h K)(aL cx.P cf ρ o h)(ji h K):=by
 obtain⟨dst,op,ty,pos,after,guard⟩:=o
 cases op with
 | move x=>exact OG
 | assign x=>exact Jg
 | pick c a b=>exact Pw
 | alloc t=>exact MH
 | box t x=>exact R9
 | load t a=>exact N1
 | store t a x=>exact LY
 | nilCheck x=>exact Ff
 | binOp op t x y u=>exact LU
 | unOp op t x=>exact O5
 | convert s d x=>exact Hk
 | fieldAddr s x f=>exact Cd
 | field s x f=>exact Mv
 | indexAddr t x i=>exact Cz
 | index t x i=>exact Nu
 | extract x i=>exact G8
 | call c=>exact P8 hcf
 | go _=>exact .bad
 | defer _=>exact .bad
 | panic _=>exact .bad
 | send _ _=>exact .bad
 | recv _ _ _=>exact .bad
 | select _ _=>exact .bad
 | _=>exact dC(o :=⟨dst,_,ty,pos,after,guard⟩)rfl
end Go.Ab
end
section
namespace Go.Ab
open Go
variable {cx:Cx}{cf:aY}
def ct(n:Nat)(e:Env)(l:List Value):Prop:=l.length=n/\n<=256/\∀ t,Env.get t e=l.getD t undef
theorem zh {n:Nat}{e:Env}{l:List Value}(hr:ct n e l)(gl:Nat->Bool):KZ gl e=ev gl l:=by
 funext x
 cases x with
 | tmp t=>exact hr.2.2 t
 | const v =>
  show RF(plain v)v junk=if plain v then v else junk
  cases plain v <;> rfl
 | global g =>
  show RF(gl g)_ junk=if gl g then _ else junk
  cases gl g <;> rfl
 | func f=>rfl
theorem qg {n:Nat}{e:Env}{l:List Value}(hr:ct n e l)(dst:Option Tmp)(v:Value):∃ e',ct n e' (dj l dst v)/\∀ (K:Env->Bool),m5 n dst e v K=K e':=by
 cases dst with
 | none=>exact⟨e,hr,fun K=>rfl⟩
 | some d =>
  cases hd:Nat.blt d n with
  | true =>
   have hlt:d < n:=by simpa [Nat.blt_eq] using hd
   refine⟨Env.new d e v,⟨by rw [dc]; exact hr.1,hr.2.1,fun t=>?_⟩,fun K=>?_⟩
   · rw [Env.get_put(Nat.lt_of_lt_of_le hlt hr.2.1),List.getD_eq_getElem?_getD]
    split
    · next he=>subst he; rw [CV(by rw [hr.1]; exact hlt)]; rfl
    · next he=>rw [Fk(fun hh=>he(Option.some.inj hh).symm),<- List.getD_eq_getElem?_getD]; exact hr.2.2 t
   · show cZ(Nat.blt d n)(Env.put d e v K)(K e)=_
    rw [hd]
    exact Env.put_eq d e v K
  | false =>
   have hge:n<=d:=by
    rcases Nat.lt_or_ge d n with h | h
    · have:Nat.blt d n=true:=by simpa [Nat.blt_eq] using h
     rw [hd] at this; cases this
    · exact h
   refine⟨e,?_,fun K=>?_⟩
   · have:dj l(some d)v=l:=by simp af [dj]; exact List.set_eq_of_length_le(by rw [hr.1]; exact hge)
    rw [this]; exact hr
   · show cZ(Nat.blt d n)(Env.put d e v K)(K e)=_
    rw [hd]; rfl
theorem Mc(v:Value)(bad:Bool)(f:Bool->Bool)(sk:Bool):Bw v bad f sk=bad\/(∃ b,v = .bool b/\Bw v bad f sk=f b)\/∃ vs,v = .tuple vs/\Bw v bad f sk=sk:=by
 cases v with
 | bool b=>exact .inr(.inl⟨b,rfl,rfl⟩)
 | tuple vs=>exact .inr(.inr⟨vs,rfl,rfl⟩)
 | _=>exact .inl rfl
theorem Gt {n:Nat}{e:Env}{l:List Value}(hr:ct n e l){ops:Array Oper}(o:Oper)(bad run skip:Bool) :
  Ap ops e bad o.guard run skip=bad\/(cp ops l o=some true/\Ap ops e bad o.guard run skip=run)\/(cp ops l o=some false/\Ap ops e bad o.guard run skip=skip):=by
 unfold cp
 cases hg:o.guard with
 | none=>exact .inr(.inl⟨rfl,rfl⟩)
 | some g =>
  obtain⟨j,want⟩:=g
  cases hd:(ops[j]?).bind(·.dst) with
  | none =>
   bH
   show Ck bad(Ob ops j)_=bad
   unfold Ob
   rw [hd]; rfl
  | some d =>
   have hw:Ap ops e bad(some(j,want))run skip=Bw(Env.get d e)bad(fun b=>Bool.rec(motive:=fun _=>Bool)(cZ want skip run)(cZ want run skip)b)skip:=by
    show Ck bad(Ob ops j)_=_
    unfold Ob
    rw [hd]; rfl
   rw [hw]
   simp af [hd]
   rw [hr.2.2 d]
   rcases Mc(l.getD d undef)bad(fun b=>Bool.rec(motive:=fun _=>Bool)(cZ want skip run)(cZ want run skip)b)skip with h1 |⟨b,h1,h2⟩|⟨vs,h1,h2⟩
   · exact .inl h1
   · rw [h2]; simp af [h1]
    cases b <;> cases want <;> first | exact .inr(.inl⟨rfl,rfl⟩) | exact .inr(.inr⟨rfl,rfl⟩)
   · rw [h2]; simp af [h1]
    exact .inr(.inr⟨trivial,trivial⟩)
def Jq {α:Type}(n:Nat)(bad x:Bool)(run:Option(List Value × α))(K:Env->α->Bool):Prop:=x=bad\/∃ l a e,run=some(l,a)/\ct n e l/\x=K e a
theorem zF(hcf:qZ cx cf){ops:Array Oper} : ∀ (rest:List Oper){e:Env}{l:List Value}{h:Heap}{K:Env->Heap->Bool},ct cx.n e l->Jq cx.n cx.bad(G1 cx ops rest e h K)(dg cx.P cx.gl cf ops rest l h)K
 | [],e,l,h,K,hr=>.inr⟨l,h,e,rfl,hr,rfl⟩
 | o :: rest,e,l,h,K,hr=>by
  show Jq cx.n cx.bad(Vm cx ops o e h fun e h=>G1 cx ops rest e h K)_ K
  unfold Vm
  rcases Gt hr o cx.bad(Un o.op cx o(KZ cx.gl e)h fun v h=>m5 cx.n o.dst e v fun e=>G1 cx ops rest e h K)(m5 cx.n o.dst e undef fun e=>G1 cx ops rest e h K) with h1 |⟨h1,h2⟩|⟨h1,h2⟩
  · exact .inl h1
  · rw [h2]
   rcases yM hcf(ρ:=KZ cx.gl e)(h:=h)(K:=fun v h=>m5 cx.n o.dst e v fun e=>G1 cx ops rest e h K)o with h3 |⟨⟨v,u⟩,h3,h4⟩
   · exact .inl h3
   · rw [h4]
    rw [zh hr] at h3
    obtain⟨e',h5,h6⟩:=qg hr o.dst v
    show Jq cx.n cx.bad(m5 cx.n o.dst e v fun e=>G1 cx ops rest e(u.app h)K)_ K
    rw [h6]
    simp af [dg,h1,h3]
    exact zF hcf rest h5
  · rw [h2]
   obtain⟨e',h5,h6⟩:=qg hr o.dst undef
   rw [h6]
   simp af [dg,h1]
   exact zF hcf rest h5
end Go.Ab
end
section
namespace Go.Ab
open Go
variable {cx:Cx}{cf:aY}
theorem mL(base:Nat):∀ (l:List(Nat × Blk))(h:Heap)(K:Heap->Bool),kZ base l h K=K(aE h base l)
 | [],_,_=>rfl
 | (i,B) :: l,h,K=>by
  show kZ base l h(fun h=>HT.setK(some B)(bF(base + i))h.t fun t=>K⟨h.next,t⟩)=_
  rw [mL base l h,HT.setK_eq]; rfl
theorem Q4 {P:Program}{ρ:Operand->Value}{o:Oper}{h:Heap}{r:Value × Upd}(hc:LP o.op = .p)(hr:aL P cf ρ o h=some r):aD P ρ o=some r.1/\r.2 = .no:=by
 obtain⟨dst,op,ty,pos,after,guard⟩:=o
 unfold aL at hr
 cases hp:aD P ρ⟨dst,op,ty,pos,after,guard⟩with
 | some v=>rw [hp] at hr; obtain rfl:=Option.some.inj hr; exact⟨rfl,rfl⟩
 | none =>
  rw [hp] at hr
  cases op with
  | call c =>
   obtain⟨callee,args,ats⟩:=c
   cases callee with
   | builtin b=>cases b <;> exact nomatch hc
   | _=>exact nomatch hc
  | _=>first | (change(none:Option(Value × Upd))=some r at hr; exact nomatch hr) | cases hc
theorem Pd {P:Program}{ρ:Operand->Value}{o:Oper}{h:Heap}{r:Value × Upd}(hc:LP o.op = .r)(hr:aL P cf ρ o h=some r):aD P ρ o=none/\aI P ρ o h=some r.1/\r.2 = .no:=by
 obtain⟨dst,op,ty,pos,after,guard⟩:=o
 have key:aD P ρ⟨dst,op,ty,pos,after,guard⟩= none->(aI P ρ⟨dst,op,ty,pos,after,guard⟩h=none->aL P cf ρ⟨dst,op,ty,pos,after,guard⟩h=none)->aD P ρ⟨dst,op,ty,pos,after,guard⟩= none/\aI P ρ⟨dst,op,ty,pos,after,guard⟩h=some r.1/\r.2 = .no:=fun h1 h2=>by
  refine⟨h1,?_⟩
  cases hrd:aI P ρ⟨dst,op,ty,pos,after,guard⟩h with
  | none=>rw [h2 hrd] at hr; cases hr
  | some v =>
   unfold aL at hr
   rw [h1,hrd] at hr
   obtain rfl:=Option.some.inj hr
   exact⟨rfl,rfl⟩
 cases op with
 | load t a=>exact key rfl fun h2=>by unfold aL; rw [h2]; rfl
 | call c =>
  obtain⟨callee,args,ats⟩:=c
  cases callee with
  | builtin b=>cases b <;> first | exact key rfl fun h2=>by unfold aL; rw [h2]; rfl | cases hc
  | _=>exact nomatch hc
 | _=>exact nomatch hc
theorem Rs {P:Program}{ρ:Operand->Value}{o:Oper}{h:Heap}(hc:LP o.op = .e):(∀ h,aD P ρ o=none/\aI P ρ o h=none/\aH P ρ o=none)/\aL P cf ρ o h=bA P cf ρ o h:=by
 obtain⟨dst,op,ty,pos,after,guard⟩:=o
 cases op with
 | store t a x=>exact⟨fun _ =>⟨rfl,rfl,rfl⟩,rfl⟩
 | call c =>
  obtain⟨callee,args,ats⟩:=c
  cases callee with
  | builtin b=>cases b <;> first | exact⟨fun _ =>⟨rfl,rfl,rfl⟩,rfl⟩| cases hc
  | value f=>exact⟨fun _ =>⟨rfl,rfl,rfl⟩,rfl⟩
  | _=>exact nomatch hc
 | _=>exact nomatch hc
theorem Lp {o:Oper}(hc:LP o.op = .d):aF o=false:=by
 obtain⟨dst,op,ty,pos,after,guard⟩:=o
 cases op with
 | call c =>
  obtain⟨callee,args,ats⟩:=c
  cases callee with
  | value f=>exact nomatch hc
  | _=>rfl
 | _=>rfl
noncomputable def nw(P:Program)(cf:aY)(bf:Nat->Nat->Bool)(base j:Nat)(o:Oper)(ρ:Operand->Value)(h:Heap)(pd:List(Nat × Blk)):Option(Ent × Value × Heap × List(Nat × Blk)):=
 match aD P ρ o with
 | some v=>some(.pure v,v,h,pd)
 | none=>match aI P ρ o h with
  | some v=>some(.read v,v,h,pd)
  | none=>match aH P ρ o with
   | some(B,f)=>some(.alloc B(f(base + j)),f(base + j),h,(j,B) :: pd)
   | none=>match bA P cf ρ o(aE h base(pd.filter fun p=>bf j p.1)) with
    | some(v,u)=>some(.eff v(u.app(aE h base(pd.filter fun p=>bf j p.1))),v,u.app(aE h base(pd.filter fun p=>bf j p.1)),pd.filter fun p=>!bf j p.1)
    | none=>none
theorem Qg(hcf:qZ cx cf){bf:Nat->Nat->Bool}{base j:Nat}{o:Oper}{ρ:Operand->Value}{h:Heap}{pd:List(Nat × Blk)}{K:Ua} :
  Ref cx.bad(Pp cx bf base j o ρ h pd K)(nw cx.P cf bf base j o ρ h pd)fun r=>K r.1 r.2.1 r.2.2.1 r.2.2.2:=by
 unfold Pp
 cases hc:LP o.op with
 | p =>
  rcases yM hcf(ρ:=ρ)(h:=h)(K:=fun v _=>K(.pure v)v h pd)o with h1 |⟨r,h1,h2⟩
  · exact .inl h1
  · obtain⟨h3,_⟩:=Q4 hc h1
   exact .of(r:=(.pure r.1,r.1,h,pd))(by unfold nw; rw [h3])h2
 | r =>
  rcases yM hcf(ρ:=ρ)(h:=h)(K:=fun v _=>K(.read v)v h pd)o with h1 |⟨r,h1,h2⟩
  · exact .inl h1
  · obtain⟨h3,h4,_⟩:=Pd hc h1
   exact .of(r:=(.read r.1,r.1,h,pd))(by unfold nw; rw [h3,h4])h2
 | e =>
  show Ref cx.bad(kZ base(pd.filter fun p=>bf j p.1)h fun h=>Un o.op cx o ρ h fun v h'=>K(.eff v h')v h' (pd.filter fun p=>!bf j p.1))_ _
  rw [mL]
  rcases yM hcf(ρ:=ρ)(h:=aE h base(pd.filter fun p=>bf j p.1))(K:=fun v h'=>K(.eff v h')v h' (pd.filter fun p=>!bf j p.1))o with h1 |⟨⟨v,u⟩,h1,h2⟩
  · exact .inl h1
  · obtain⟨h3,h4⟩:=Rs(P:=cx.P)(ρ:=ρ)(cf:=cf)(h:=aE h base(pd.filter fun p=>bf j p.1))hc
   obtain⟨h5,h6,h7⟩:=h3 h
   rw [h4] at h1
   exact .of(r:=(.eff v(u.app(aE h base(pd.filter fun p=>bf j p.1))),v,u.app(aE h base(pd.filter fun p=>bf j p.1)),pd.filter fun p=>!bf j p.1))
    (by unfold nw; rw [h5,h6,h7,h1])h2
 | d =>
  show Ref cx.bad(U9 cx bf base j o ρ h pd K)_ _
  unfold U9 nw
  cases hp:aD cx.P ρ o with
  | some v=>exact .of rfl(bW _ _)
  | none =>
   cases hr:aI cx.P ρ o h with
   | some v=>exact .of rfl(bW _ _)
   | none =>
    cases ha:aH cx.P ρ o with
    | some r =>
     obtain⟨B,f⟩:=r
     refine .of rfl ?_
     show Hf B(fun B=>gB(f(base + j))fun v=>K(.alloc B v)v h((j,B) :: pd))=_
     rw [tg,bW]
    | none =>
     show Ref cx.bad(kZ base(pd.filter fun p=>bf j p.1)h fun h=>JN cx.bad(bA cx.P dh ρ o h)h fun v h'=>K(.eff v h')v h' (pd.filter fun p=>!bf j p.1))_ _
     rw [mL,rC(cf:=cf)(Lp hc)]
     cases he:bA cx.P cf ρ o(aE h base(pd.filter fun p=>bf j p.1)) with
     | none=>exact .bad
     | some r =>
      obtain⟨v,u⟩:=r
      refine .of rfl ?_
      show RT u(aE h base(pd.filter fun p=>bf j p.1))(fun h'=>gB v fun v=>K(.eff v h')v h' (pd.filter fun p=>!bf j p.1))=_
      rw [yF,bW]
theorem Fv {P:Program}{gl:Nat->Bool}{ops:Array Oper}{bf:Nat->Nat->Bool}{base:Nat}{o:Oper}{rest:List Oper}{j:Nat}{tm:List Value}{h:Heap}{pd:List(Nat × Blk)}(hw:cp ops tm o=some true)
  {r:Ent × Value × Heap × List(Nat × Blk)}(hr:nw P cf bf base j o(ev gl tm)h pd=some r) :
  bD P gl cf ops bf base(o :: rest)j tm h pd=(bD P gl cf ops bf base rest(j + 1)(dj tm o.dst r.2.1)r.2.2.1 r.2.2.2).map fun x=>((tm,r.1) :: x.1,x.2):=by
 unfold nw at hr
 simp af [bD,hw]
 split at hr
 · next v hp=>obtain rfl:=Option.some.inj hr; simp af [hp]
 · next hp =>
  simp af [hp]
  split at hr
  · next v hrd=>obtain rfl:=Option.some.inj hr; simp af [hrd]
  · next hrd =>
   simp af [hrd]
   split at hr
   · next B f ha=>obtain rfl:=Option.some.inj hr; simp af [ha]
   · next ha =>
    simp af [ha]
    split at hr
    · next v u he=>obtain rfl:=Option.some.inj hr; simp af [he]
    · cases hr
inductive Recs(n:Nat):List Oper->List FP->List(List Value × Ent)->Prop where
 | nil:Recs n [] [] []
 | cons {o:Oper}{os:List Oper}{e:Env}{ent:Ent}{tm:List Value}{a:List FP}{b:List(List Value × Ent)}(h:ct n e tm)(r:Recs n os a b):Recs n(o :: os)((o,e,ent) :: a)((tm,ent) :: b)
theorem np(hcf:qZ cx cf){ops:Array Oper}{bf:Nat->Nat->Bool}{base:Nat} : ∀ (l:List Oper){j:Nat}{e:Env}{tm:List Value}{h:Heap}{pd:List(Nat × Blk)}{K:List FP->Env->Heap->List(Nat × Blk)->Bool},ct cx.n e tm->
  fY cx ops bf base l j e h pd K=cx.bad\/∃ recs tm' h' pd' recsF e',bD cx.P cx.gl cf ops bf base l j tm h pd=some(recs,tm',h',pd')/\ct cx.n e' tm'/\Recs cx.n l recsF recs/\fY cx ops bf base l j e h pd K=K recsF e' h' pd'
 | [],j,e,tm,h,pd,K,hr=>.inr⟨[],tm,h,pd,[],e,rfl,hr,.nil,rfl⟩
 | o :: rest,j,e,tm,h,pd,K,hr=>by
  have hu:fY cx ops bf base(o :: rest)j e h pd K=Ap ops e cx.bad o.guard
   (Pp cx bf base j o(KZ cx.gl e)h pd fun ent v h pd=>m5 cx.n o.dst e v fun e'=>fY cx ops bf base rest(j + 1)e' h pd fun recs e2 h2 pd2=>K((o,e,ent) :: recs)e2 h2 pd2)
   (m5 cx.n o.dst e undef fun e'=>fY cx ops bf base rest(j + 1)e' h pd fun recs e2 h2 pd2=>K((o,e,.skip) :: recs)e2 h2 pd2):=rfl
  rw [hu]
  rcases Gt hr(ops:=ops)o cx.bad(Pp cx bf base j o(KZ cx.gl e)h pd fun ent v h pd=>m5 cx.n o.dst e v fun e'=>fY cx ops bf base rest(j + 1)e' h pd fun recs e2 h2 pd2=>K((o,e,ent) :: recs)e2 h2 pd2)
   (m5 cx.n o.dst e undef fun e'=>fY cx ops bf base rest(j + 1)e' h pd fun recs e2 h2 pd2=>K((o,e,.skip) :: recs)e2 h2 pd2) with h1 |⟨h1,h2⟩|⟨h1,h2⟩
  · exact .inl h1
  · rw [h2]
   rcases Qg hcf(bf:=bf)(base:=base)(j:=j)(o:=o)(ρ:=KZ cx.gl e)(h:=h)(pd:=pd)(K:=fun ent v h pd=>m5 cx.n o.dst e v fun e'=>fY cx ops bf base rest(j + 1)e' h pd fun recs e2 h2 pd2=>K((o,e,ent) :: recs)e2 h2 pd2) with h3 |⟨⟨ent,v,h',pd'⟩,h3,h4⟩
   · exact .inl h3
   · rw [h4]
    rw [zh hr] at h3
    obtain⟨e',h5,h6⟩:=qg hr o.dst v
    simp af [h6]
    rcases np hcf rest h5(ops:=ops)(bf:=bf)(base:=base)(j:=j + 1)(h:=h')(pd:=pd')(K:=fun recs e2 h2 pd2=>K((o,e,ent) :: recs)e2 h2 pd2) with h7 |⟨recs,tm',h'',pd'',recsF,e'',h7,h8,h9,h10⟩
    · exact .inl h7
    · refine .inr⟨_,_,_,_,_,_,?_,h8,.cons hr h9,h10⟩
     rw [Fv h1 h3,h7]; rfl
  · rw [h2]
   obtain⟨e',h5,h6⟩:=qg hr o.dst undef
   rw [h6]
   rcases np hcf rest h5(ops:=ops)(bf:=bf)(base:=base)(j:=j + 1)(h:=h)(pd:=pd)(K:=fun recs e2 h2 pd2=>K((o,e,.skip) :: recs)e2 h2 pd2) with h7 |⟨recs,tm',h'',pd'',recsF,e'',h7,h8,h9,h10⟩
   · exact .inl h7
   · refine .inr⟨_,_,_,_,_,_,?_,h8,.cons hr h9,h10⟩
    simp af [bD,h1,h7]; rfl
theorem N3 {n:Nat}{os:List Oper}{a:List FP}{b:List(List Value × Ent)}(h:Recs n os a b):∀ j,C4 a j=bR b j:=by
 induction h with
 | nil=>intro j; rfl
 | cons _ _ ih =>
  rename_i o os e ent tm a b _ _
  intro j
  show Xq ent j(C4 a(j + 1))=_
  rw [ih]
  cases ent <;> rfl
theorem Dw(bf:Nat->Nat->Bool):∀ (l:List(Nat × Heap))(p:Option Nat),vJ bf l p=(match p,l with | some i,(j,_) :: _=>bf j i && bT bf l | _,_=>bT bf l)
 | [],p=>by cases p <;> rfl
 | (j,h) :: l,p=>by
  have ih:=Dw bf l(some j)
  have hc:bT bf((j,h) :: l)=vJ bf l(some j):=by
   rw [ih]
   cases l with
   | nil=>rfl
   | cons x l=>rfl
  cases p with
  | none=>show vJ bf l(some j)=_; exact hc.symm
  | some i =>
   show cZ(bf j i)(vJ bf l(some j))false=(bf j i && bT bf((j,h) :: l))
   rw [hc]
   cases bf j i <;> rfl
theorem Gn {P:Program}{gl:Nat->Bool}{o:Oper}{tm:List Value}{v:Value}{h:Heap} : DQ P o(ev gl tm)v h=dJ P gl o tm v h:=by
 unfold DQ dJ
 cases aI P(ev gl tm)o h <;> rfl
theorem AQ {P:Program}{gl:Nat->Bool}{bf:Nat->Nat->Bool}{j:Nat}{o:Oper}{tm:List Value}{v:Value} : ∀ (es:List(Nat × Heap))(h:Heap)(own:Bool),yw P bf j o(ev gl tm)v es h own=fK P gl bf j o tm v h es own
 | [],h,own=>by
  show cZ own true(DQ P o(ev gl tm)v h)=(own || dJ P gl o tm v h)
  rw [Gn]; cases own <;> rfl
 | (x,h') :: es,h,own=>by
  show cZ(cZ(cZ own(Nat.blt j x)false)true(cZ(bf j x)true(DQ P o(ev gl tm)v h)))(cZ(bf x j)true(yw P bf j o(ev gl tm)v es h' (Nat.blt x j)))false=(((own && Nat.blt j x) || bf j x || dJ P gl o tm v h) && (bf x j || fK P gl bf j o tm v h' es(Nat.blt x j)))
  rw [Gn,AQ es]
  cases own <;> cases Nat.blt j x <;> cases bf j x <;> cases bf x j <;> cases dJ P gl o tm v h <;> rfl
theorem LN {os:List Oper}{a:List FP}{b:List(List Value × Ent)}{bf:Nat->Nat->Bool}{h:Heap}{es:List(Nat × Heap)}(hr:Recs cx.n os a b):∀ j,EG cx bf h es a j=dk cx.P cx.gl bf h es os b j:=by
 induction hr with
 | nil=>intro j; rfl
 | cons he _ ih =>
  rename_i o os e ent tm a b _
  intro j
  show TP cx bf h es j o e ent(EG cx bf h es a(j + 1))=_
  rw [ih]
  cases ent with
  | read v =>
   show cZ(yw cx.P bf j o(KZ cx.gl e)v es h true)(dk cx.P cx.gl bf h es os b(j + 1))false=(fK cx.P cx.gl bf j o tm v h es true && dk cx.P cx.gl bf h es os b(j + 1))
   rw [zh he,AQ]
   cases fK cx.P cx.gl bf j o tm v h es true <;> rfl
  | _=>rfl
theorem MM(hcf:qZ cx cf){ops:Array Oper}{bf:Nat->Nat->Bool}{e:Env}{l:List Value}{h:Heap}{K:Env->Heap->Bool}(hr:ct cx.n e l):Jq cx.n cx.bad(GY cx ops bf e h K)(p0 cx.P cx.gl cf ops bf l h)K:=by
 unfold GY
 rw [bU]
 rcases np hcf ops.toList hr(ops:=ops)(bf:=bf)(base:=h.next)(j:=0)(h :=⟨h.next + ops.size,h.t⟩)(pd:=[])(K:=fun recs e' h' pd =>
  cZ(cZ(vJ bf(C4 recs 0)none)(EG cx bf⟨h.next + ops.size,h.t⟩(C4 recs 0)recs 0)false)(kZ h.next pd h' fun h'=>K e' h')cx.bad) with h1 |⟨recs,tm',h',pd',recsF,e',h1,h2,h3,h4⟩
 · exact .inl h1
 · rw [h4,N3 h3,Dw,LN h3,mL]
  unfold p0
  rw [h1]
  show Jq cx.n cx.bad(cZ(cZ(bT bf(bR recs 0))(dk cx.P cx.gl bf⟨h.next + ops.size,h.t⟩(bR recs 0)ops.toList recs 0)false)(K e' (aE h' h.next pd'))cx.bad)
   (if bT bf(bR recs 0) && dk cx.P cx.gl bf⟨h.next + ops.size,h.t⟩(bR recs 0)ops.toList recs 0 then some(tm',aE h' h.next pd') else none)K
  cases bT bf(bR recs 0) with
  | false=>exact .inl rfl
  | true =>
   cases dk cx.P cx.gl bf⟨h.next + ops.size,h.t⟩(bR recs 0)ops.toList recs 0 with
   | false=>exact .inl rfl
   | true=>exact .inr⟨_,_,_,rfl,h2,rfl⟩
end Go.Ab
end
section
namespace Go.Ab
open Go
def vy(n:Nat)(bad x:Bool)(run:Option(Exit × List Value × Heap))(K:Exit->Env->Heap->Bool):Prop:=x=bad\/∃ ex l h e,run=some(ex,l,h)/\ct n e l/\x=K ex e h
theorem IZ {n:Nat}{v:Value}{bad:Bool}{K:Bool->Bool}{run:Option(Exit × List Value × Heap)}{K' : Exit->Env->Heap->Bool}(hh:∀ b,v = .bool b->vy n bad(K b)run K'):vy n bad(wV v bad K)run K':=by
 rcases Hp v bad K with⟨h1,_⟩|⟨b,h1,h2⟩
 · rw [h1]; exact .inl rfl
 · rw [h2]; exact hh b h1
theorem oV(x:Exit)(norm:Bool)(ex:Nat->Bool)(els:Bool):(x = .normal/\el x norm ex els=norm)\/(∃ id,x = .exit id/\el x norm ex els=ex id)\/((∀ id,x≠ .exit id)/\x≠ .normal/\el x norm ex els=els):=by
 cases x with
 | normal=>exact .inl⟨rfl,rfl⟩
 | exit id=>exact .inr(.inl⟨id,rfl,rfl⟩)
 | _=>exact .inr(.inr⟨fun _=>by simp,by simp,rfl⟩)
theorem DG {cx:Cx}{c:Code}{a:ig}{cf:aY}{N:Nat}(ih:∀ {e l h K},ct cx.n e l->vy cx.n cx.bad(a cx e h K)(aA cx.P cx.gl cf N c l h)K):∀ (m:Nat){e:Env}{l:List Value}{h:Heap}{K:Exit->Env->Heap->Bool},ct cx.n e l->
  vy cx.n cx.bad(Nat.rec(motive:=fun _=>Env->Heap->Bool)(fun _ _=>cx.bad)(fun _ ih e h=>a cx e h fun x e h=>el x(ih e h)(fun id=>K(.exit id)e h)(K x e h))m e h)(xz(aA cx.P cx.gl cf N c)m l h)K
 | 0,_,_,_,_,_=>.inl rfl
 | m + 1,e,l,h,K,hr=>by
  show vy cx.n cx.bad(a cx e h fun x e h=>el x((Nat.rec(motive:=fun _=>Env->Heap->Bool)(fun _ _=>cx.bad)(fun _ ih e h=>a cx e h fun x e h=>el x(ih e h)(fun id=>K(.exit id)e h)(K x e h))m:Env->Heap->Bool)e h)(fun id=>K(.exit id)e h)(K x e h))_ K
  rcases ih(h:=h)(K:=fun x e h=>el x((Nat.rec(motive:=fun _=>Env->Heap->Bool)(fun _ _=>cx.bad)(fun _ ih e h=>a cx e h fun x e h=>el x(ih e h)(fun id=>K(.exit id)e h)(K x e h))m:Env->Heap->Bool)e h)(fun id=>K(.exit id)e h)(K x e h))hr with h1 |⟨ex,l1,h1,e1,h2,h3,h4⟩
  · exact .inl h1
  · rw [h4]; dsimp af
   rcases oV ex((Nat.rec(motive:=fun _=>Env->Heap->Bool)(fun _ _=>cx.bad)(fun _ ih e h=>a cx e h fun x e h=>el x(ih e h)(fun id=>K(.exit id)e h)(K x e h))m:Env->Heap->Bool)e1 h1)(fun id=>K(.exit id)e1 h1)(K ex e1 h1) with⟨rfl,h5⟩|⟨id,rfl,h5⟩|⟨h6,h7,h5⟩
   · rw [h5]
    simp af [xz,h2]
    exact DG ih m h3
   · rw [h5]
    exact .inr⟨.exit id,l1,h1,e1,by simp af [xz,h2],h3,rfl⟩
   · rw [h5]
    refine .inr⟨ex,l1,h1,e1,?_,h3,rfl⟩
    simp af [xz,h2]
    cases ex <;> first | rfl | exact absurd rfl h7
theorem Vs(asg body:Code)(bad:Bool)(K:gA asg body=true->Bool):XI asg body bad K=bad\/∃ ok,XI asg body bad K=K ok:=by
 unfold XI
 have key:∀ (b:Bool)(hb:gA asg body=b),(Bool.rec(motive:=fun b=>gA asg body=b->Bool)(fun _=>bad)K b hb=bad)\/∃ ok,Bool.rec(motive:=fun b=>gA asg body=b->Bool)(fun _=>bad)K b hb=K ok:=by
  intro b hb
  cases b with
  | false=>exact .inl rfl
  | true=>exact .inr⟨hb,rfl⟩
 exact key _ rfl
theorem sw(b:Option Blk)(bad:Bool)(K:LSt->List Value->List Tmp->(asg body:Code)->gA asg body=true->Bool) :
  nD b bad K=bad\/∃ st tm ps asg body ok,b=some(.loop st tm ps asg body ok)/\nD b bad K=K st tm ps asg body ok:=by
 cases b with
 | none=>exact .inl rfl
 | some B=>cases B with
  | loop st tm ps asg body ok=>exact .inr⟨st,tm,ps,asg,body,ok,rfl,rfl⟩
  | _=>exact .inl rfl
theorem QK(e:Env):∀ (n i:Nat)(K:List Value->Bool),VQ e n i K=K((List.range' i n).map fun t=>Env.get t e)
 | 0,_,_=>rfl
 | n + 1,i,K=>by
  show gB(Env.get i e)(fun v=>VQ e n(i + 1)fun l=>K(v :: l))=_
  rw [bW,QK e n(i + 1)]
  rfl
theorem Og {n:Nat}{e:Env}{l:List Value}(hr:ct n e l)(K:List Value->Bool):VQ e n 0 K=K l:=by
 rw [QK]
 congr 1
 obtain⟨h1,_,h3⟩:=hr
 refine List.ext_getElem? fun t=>?_
 rw [List.getElem?_map]
 by_cases ht:t < n
 · rw [List.getElem?_range' ht]
  simp af [Option.map_some,Nat.zero_add,Nat.one_mul]
  rw [h3,List.getElem?_eq_getElem(by omega),List.getD_eq_getElem?_getD,List.getElem?_eq_getElem(by omega)]; rfl
 · rw [List.getElem?_eq_none(by simp; omega),List.getElem?_eq_none(by omega)]; rfl
theorem oa:∀ (l:List Value)(i:Nat)(e:Env),i + l.length<=256->∃ e' : Env,(∀ (K:Env->Bool),sT l i e K=K e')/\∀ t,Env.get t e' = if i<=t/\t < i + l.length then l.getD(t - i)undef else Env.get t e
 | [],i,e,_ =>⟨e,fun _=>rfl,fun t=>by rw [if_neg(by simp af [List.length_nil]; omega)]⟩
 | v :: l,i,e,hl=>by
  simp af [List.length_cons] at hl
  obtain⟨e',h1,h2⟩:=oa l(i + 1)(Env.new i e v)(by omega)
  refine⟨e',fun K=>?_,fun t=>?_⟩
  · show gB v(fun v=>Env.put i e v fun e=>sT l(i + 1)e K)=_
   rw [bW,Env.put_eq,h1]
  · rw [h2]
   simp af [List.length_cons]
   by_cases ht:t=i
   · subst ht
    rw [if_neg(by omega),Env.get_put(by omega),if_pos rfl,if_pos(by omega),Nat.sub_self]; rfl
   · rw [Env.get_put(by omega),if_neg ht]
    by_cases h3:i + 1<=t/\t < i + 1 + l.length
    · rw [if_pos h3,if_pos(by omega),show t - i=(t - (i + 1)) + 1 by omega]; rfl
    · rw [if_neg h3,if_neg(by omega)]
theorem Jr:∀ (t:HT)(K:HT->Bool),VC t K=K t
 | .nil,_=>rfl
 | .node v l r,K=>by
  show VC l(fun l=>VC r fun r=>Option.rec(motive:=fun _=>Bool)(K(.node none l r))(fun B=>Hf B fun B=>K(.node(some B)l r))v)=_
  rw [Jr l,Jr r]
  cases v with
  | none=>rfl
  | some B=>exact tg B _
theorem Oq {cx:Cx}{ops:Array Oper}{e:Env}{l:List Value}{h:Heap}{K:Env->Heap->Bool}(hr:ct cx.n e l):Jq cx.n cx.bad(RY cx ops e h K)(G9 cx.P cx.gl ops(bc(cj ops))l h)K:=by
 unfold RY
 rw [Og hr]
 cases hd:G9 cx.P cx.gl ops(bc(cj ops))l h with
 | none=>exact .inl rfl
 | some r =>
  obtain⟨tm,h'⟩:=r
  show Jq cx.n cx.bad(cZ(Nat.beq tm.length cx.n)(sT tm 0 vL fun e=>eQ h'.next fun nx=>VC h'.t fun t=>K e⟨nx,t⟩)cx.bad)_ K
  cases hb:Nat.beq tm.length cx.n with
  | false=>exact .inl rfl
  | true =>
   have hl:tm.length=cx.n:=by simpa [Nat.beq_eq] using hb
   obtain⟨e0,h3,h4⟩:=oa tm 0 vL(by have:=hr.2.1; omega)
   refine .inr⟨tm,h',e0,rfl,⟨hl,hr.2.1,fun t=>?_⟩,?_⟩
   · rw [h4]
    split
    · rfl
    · next ht=>rw [uU,List.getD_eq_getElem?_getD,List.getElem?_eq_none(by omega)]; rfl
   · show sT tm 0 vL(fun e=>eQ h'.next fun nx=>VC h'.t fun t=>K e⟨nx,t⟩)=_
    rw [h3,bU,Jr]
theorem cW {cx:Cx}{cf:aY}(hcf:qZ cx cf):∀ (c:Code){e:Env}{l:List Value}{h:Heap}{K:Exit->Env->Heap->Bool},ct cx.n e l->vy cx.n cx.bad(eA c cx e h K)(aA cx.P cx.gl cf cx.N c l h)K
 | .skip,e,l,h,K,hr=>.inr⟨_,_,_,_,rfl,hr,rfl⟩
 | .region id ops draw,e,l,h,K,hr=>by
  cases draw with
  | true =>
   show vy cx.n cx.bad(cZ(oZ ops)(RY cx ops e h fun e h=>K .normal e h)(GY cx ops(bc(cj ops))e h fun e h=>K .normal e h))((z4 cx.P cx.gl cf ops l h).map fun r=>(.normal,r.1,r.2))K
   unfold z4
   cases hany:oZ ops with
   | true =>
    rw [if_pos rfl]
    rcases Oq hr(ops:=ops)(h:=h)(K:=fun e h=>K .normal e h) with h1 |⟨l1,h1,e1,h2,h3,h4⟩
    · exact .inl h1
    · exact .inr⟨.normal,l1,h1,e1,by rw [h2]; rfl,h3,h4⟩
   | false =>
   rw [if_neg(by simp)]
   show vy cx.n cx.bad(GY cx ops(bc(cj ops))e h fun e h=>K .normal e h)_ K
   rcases MM hcf hr(ops:=ops)(bf:=bc(cj ops))(h:=h)(K:=fun e h=>K .normal e h) with h1 |⟨l1,h1,e1,h2,h3,h4⟩
   · exact .inl h1
   · exact .inr⟨.normal,l1,h1,e1,by rw [h2]; rfl,h3,h4⟩
  | false =>
   show vy cx.n cx.bad(G1 cx ops ops.toList e h fun e h=>K .normal e h)((dg cx.P cx.gl cf ops ops.toList l h).map fun r=>(.normal,r.1,r.2))K
   rcases zF hcf ops.toList hr(ops:=ops)(h:=h)(K:=fun e h=>K .normal e h) with h1 |⟨l1,h1,e1,h2,h3,h4⟩
   · exact .inl h1
   · exact .inr⟨.normal,l1,h1,e1,by rw [h2]; rfl,h3,h4⟩
 | .seq a b,e,l,h,K,hr=>by
  show vy cx.n cx.bad(eA a cx e h fun x e h=>el x(eA b cx e h K)(fun id=>K(.exit id)e h)(K x e h))_ K
  rcases cW hcf a hr(h:=h)(K:=fun x e h=>el x(eA b cx e h K)(fun id=>K(.exit id)e h)(K x e h)) with h1 |⟨ex,l1,h1,e1,h2,h3,h4⟩
  · exact .inl h1
  · rw [h4]; dsimp af
   rcases oV ex(eA b cx e1 h1 K)(fun id=>K(.exit id)e1 h1)(K ex e1 h1) with⟨rfl,h5⟩|⟨id,rfl,h5⟩|⟨h6,h7,h5⟩
   · rw [h5]
    simp af [aA,h2]
    exact cW hcf b h3
   · rw [h5]
    exact .inr⟨.exit id,l1,h1,e1,by simp af [aA,h2],h3,rfl⟩
   · rw [h5]
    refine .inr⟨ex,l1,h1,e1,?_,h3,rfl⟩
    simp af [aA,h2]
    cases ex <;> first | rfl | exact absurd rfl h7
 | .cond c a b,e,l,h,K,hr=>by
  show vy cx.n cx.bad(wV(KZ cx.gl e c)cx.bad fun t=>cZ t(eA a cx e h K)(eA b cx e h K))_ K
  refine IZ fun t ht=>?_
  rw [zh hr] at ht
  simp af [aA,ht]
  cases t with
  | true=>simp af [if_true]; exact cW hcf a hr
  | false=>simp af [Bool.false_eq_true,if_false]; exact cW hcf b hr
 | .block id a,e,l,h,K,hr=>by
  show vy cx.n cx.bad(eA a cx e h fun x e h=>el x(K .normal e h)(fun id'=>cZ(Nat.beq id' id)(K .normal e h)(K(.exit id')e h))(K x e h))_ K
  rcases cW hcf a hr(h:=h)(K:=fun x e h=>el x(K .normal e h)(fun id'=>cZ(Nat.beq id' id)(K .normal e h)(K(.exit id')e h))(K x e h)) with h1 |⟨ex,l1,h1,e1,h2,h3,h4⟩
  · exact .inl h1
  · rw [h4]; dsimp af
   rcases oV ex(K .normal e1 h1)(fun id'=>cZ(Nat.beq id' id)(K .normal e1 h1)(K(.exit id')e1 h1))(K ex e1 h1) with⟨rfl,h5⟩|⟨id',rfl,h5⟩|⟨h6,h7,h5⟩
   · rw [h5]
    exact .inr⟨.normal,l1,h1,e1,by simp af [aA,h2],h3,rfl⟩
   · rw [h5]
    by_cases hid:id' = id
    · subst hid
     refine .inr⟨.normal,l1,h1,e1,by simp af [aA,h2,if_true],h3,?_⟩
     rw [show Nat.beq id' id' = true by simp]; rfl
    · refine .inr⟨.exit id',l1,h1,e1,by simp af [aA,h2,if_neg hid],h3,?_⟩
     have:Nat.beq id' id=false:=by
      rw [Bool.eq_false_iff]; intro hb; exact hid(by simpa [Nat.beq_eq] using hb)
     rw [this]; rfl
   · rw [h5]
    refine .inr⟨ex,l1,h1,e1,?_,h3,rfl⟩
    simp af [aA,h2]
    cases ex <;> first | rfl | exact absurd rfl(h6 _)
 | .loop c,e,l,h,K,hr=>DG(fun {e l h K}hr=>cW hcf c hr)cx.N hr
 | .exit id,e,l,h,K,hr=>.inr⟨_,_,_,_,rfl,hr,rfl⟩
 | .ret,e,l,h,K,hr=>.inr⟨_,_,_,_,rfl,hr,rfl⟩
 | .label _,e,l,h,K,hr=>.inr⟨_,_,_,_,rfl,hr,rfl⟩
 | .rangeFunc f ps asg body,e,l,h,K,hr=>by
  show vy cx.n cx.bad(J6 f ps asg body cx e h K)_ K
  unfold J6
  rcases HM(KZ cx.gl e f)cx.bad _ with⟨h1,_⟩|⟨fn,first,captured,h1,h2⟩
  · rw [h1]; exact .inl rfl
  · rw [h2]
   rw [zh hr] at h1
   cases fn with
   | func g =>
    dsimp af [XX]
    rcases Vs asg body cx.bad(fun ok=>cZ(Nat.blt g YB)(cZ(pB cx.P g)
     (VQ e cx.n 0 fun tm=>wo(first.toList ++ [.func(.yield h.next) #[] #[]] ++ captured.toList)fun vs=>rM(.loop .ready tm ps.toList asg body ok)h fun h1=>cx.cf g vs h1 fun _ h2 =>
      nD(h2.get h.next)cx.bad fun st _ _ _ _ _=>KG st cx.bad fun x=>HT.setK none(bF h.next)h2.t fun t=>K x e⟨h2.next,t⟩)cx.bad)cx.bad) with h3 |⟨ok,h3⟩
    · rw [h3]; exact .inl rfl
    · rw [h3]
     cases hg:Nat.blt g YB with
     | false=>exact .inl rfl
     | true =>
      have hg' : g < YB:=by simpa [Nat.blt_eq] using hg
      cases hb:pB cx.P g with
      | false=>exact .inl rfl
      | true =>
       dsimp af [cZ]
       rw [Og hr,vf]
       have hup:∀ (B:Blk)(K:Heap->Bool),rM B h K=K(h.push B):=fun B K=>yF(.push B)h K
       rw [hup]
       rcases hcf g(first.toList ++ [.func(.yield h.next) #[] #[]] ++ captured.toList)(h.push(.loop .ready l ps.toList asg body ok))(fun _ h2 =>
        nD(h2.get h.next)cx.bad fun st _ _ _ _ _=>KG st cx.bad fun x=>HT.setK none(bF h.next)h2.t fun t=>K x e⟨h2.next,t⟩) with h4 |⟨⟨v,h2⟩,h4,h5⟩
       · rw [h4]; exact .inl rfl
       · rw [h5]
        dsimp af
        have hrun:aA cx.P cx.gl cf cx.N(.rangeFunc f ps asg body)l h=(K6(h2.get h.next)).map fun e=>(e,l,h2.del h.next):=by
         simp af [aA,h1]
         rw [dif_pos ok,if_pos⟨hg',hb⟩,h4]
        rcases sw(h2.get h.next)cx.bad(fun st _ _ _ _ _=>KG st cx.bad fun x=>HT.setK none(bF h.next)h2.t fun t=>K x e⟨h2.next,t⟩) with h6 |⟨st,tm2,ps2,a2,b2,ok2,h6,h7⟩
        · rw [h6]; exact .inl rfl
        · rw [h7]
         rw [h6] at hrun
         cases st with
         | ready=>exact .inr⟨_,_,_,e,hrun,hr,HT.setK_eq _ _ _ _⟩
         | busy=>exact .inl rfl
         | ret=>exact .inr⟨_,_,_,e,hrun,hr,HT.setK_eq _ _ _ _⟩
         | exit id=>exact .inr⟨_,_,_,e,hrun,hr,HT.setK_eq _ _ _ _⟩
   | _=>exact .inl rfl
 | .scope _,_,_,_,_,_=>.inl rfl
 | .goto _,_,_,_,_,_=>.inl rfl
 | .refuse _,_,_,_,_,_=>.inl rfl
theorem uk {P:Program}{n:Nat}{e:Env}{tm:List Value}{h:Heap}{bad:Bool}(hr:ct n e tm):∀ (l:List ResultVar)(K:List Value->Bool),Ref bad(yj P e h bad l K)(bg P tm h l)K
 | [],K=>.of rfl rfl
 | .tmp t :: l,K=>by
  show Ref bad(gB(Env.get t e)fun v=>yj P e h bad l fun vs=>K(v :: vs))_ K
  rw [bW,hr.2.2 t]
  rcases uk hr l(fun vs=>K(tm.getD t undef :: vs)) with h1 |⟨vs,h1,h2⟩
  · exact .inl h1
  · exact .of(by simp af [bg,h1]; rfl)h2
 | .cell a t :: l,K=>by
  show Ref bad(Ck bad(ai P t h(Env.get a e))fun v=>yj P e h bad l fun vs=>K(v :: vs))_ K
  refine dB fun v hv=>?_
  rw [hr.2.2 a] at hv
  rcases uk hr l(fun vs=>K(v :: vs)) with h1 |⟨vs,h1,h2⟩
  · exact .inl h1
  · exact .of(by simp af [bg,hv,h1]; rfl)h2
theorem H5 {n:Nat} : ∀ (pa:List(Tmp × Value)){e:Env}{l:List Value},ct n e l->∃ e',ct n e' (pv l pa)/\∀ (K:Env->Bool),Ox n pa e K=K e'
 | [],e,l,hr =>⟨e,hr,fun _=>rfl⟩
 | p :: pa,e,l,hr=>by
  obtain⟨e1,h1,h2⟩:=qg hr(some p.1)p.2
  obtain⟨e2,h3,h4⟩:=H5 pa h1
  refine⟨e2,h3,fun K=>?_⟩
  show m5 n(some p.1)e p.2(fun e=>Ox n pa e K)=_
  rw [h2,h4]
theorem Iy {P:Program}{gl:Nat->Bool}{bad:Bool}{fl:Nat}{cK:FuncId->List Value->Heap->(Value->Heap->Bool)->Bool}{cf:aY}(hcf:∀ f args h K,Ref bad(cK f args h K)(cf f args h)fun r=>K r.1 r.2)(k:Nat)(args:List Value)(h:Heap)(K:Value->Heap->Bool) :
  Ref bad(EE(fun nt =>⟨P,gl,cK,fl,nt,bad⟩)bad k args h K)(mt(aA P gl cf fl)k args h)fun r=>K r.1 r.2:=by
 unfold EE
 rcases sw(h.get k)bad _ with h1 |⟨st,tm,ps,asg,body,ok,h1,h2⟩
 · exact .inl h1
 rw [h2]
 cases st with
 | busy=>exact .inl rfl
 | ret=>exact .inl rfl
 | exit id=>exact .inl rfl
 | ready =>
 show Ref bad(cZ(Nat.beq args.length ps.length)_ bad)_ _
 refine bJ(fun hlen=>?_)(fun _=>.bad)
 have hlen:args.length=ps.length:=by simpa [Nat.beq_eq] using hlen
 rw [bU]
 refine bJ(fun hn=>?_)(fun _=>.bad)
 have hn:tm.length<=256:=by simpa [Nat.ble_eq] using hn
 obtain⟨e0,h3,h4⟩:=oa tm 0 vL(by omega)
 rw [h3]
 have hr0:ct tm.length e0 tm:=by
  refine⟨rfl,hn,fun t=>?_⟩
  rw [h4]
  split
  · rfl
  · next ht=>rw [uU,List.getD_eq_getElem?_getD,List.getElem?_eq_none(by omega)]; rfl
 obtain⟨e1,hr1,h5⟩:=H5(ps.zip args)hr0
 rw [h5]
 let cx:Cx :=⟨P,gl,cK,fl,tm.length,bad⟩
 have hcf' : qZ cx cf:=fun f args h K=>hcf f args h K
 rcases cW hcf' asg(h:=h)(K:=fun x e h1=>el x
   (nD(h1.get k)bad fun st' tm' ps' asg' body' ok'=>AD st' bad(HT.setK(some(.loop .busy tm' ps' asg' body' ok'))(bF k)h1.t fun t=>eA body cx e⟨h1.next,t⟩fun x _ h2 =>
    nD(h2.get k)bad fun _ tm2 ps2 asg2 body2 ok2=>Q7 x bad fun b st2=>HT.setK(some(.loop st2 tm2 ps2 asg2 body2 ok2))(bF k)h2.t fun t=>K(.bool b)⟨h2.next,t⟩))
   (fun _=>bad)bad)hr1 with h6 |⟨ex,l1,g1,e2,h6,hr2,h7⟩
 · exact .inl h6
 refine(show Ref bad _ _ _↔_ from Iff.rfl).2 ?_
 rw [h7]
 dsimp af
 cases ex with
 | normal =>
  dsimp af [el]
  rcases sw(g1.get k)bad(fun st' tm' ps' asg' body' ok'=>AD st' bad(HT.setK(some(.loop .busy tm' ps' asg' body' ok'))(bF k)g1.t fun t=>eA body cx e2⟨g1.next,t⟩fun x _ h2 =>
    nD(h2.get k)bad fun _ tm2 ps2 asg2 body2 ok2=>Q7 x bad fun b st2=>HT.setK(some(.loop st2 tm2 ps2 asg2 body2 ok2))(bF k)h2.t fun t=>K(.bool b)⟨h2.next,t⟩)) with h8 |⟨st',tm',ps',asg',body',ok',h8,h9⟩
  · exact .inl h8
  rw [h9]
  cases st' with
  | busy=>exact .inl rfl
  | ret=>exact .inl rfl
  | exit id=>exact .inl rfl
  | ready =>
  dsimp af [AD]
  rw [HT.setK_eq]
  rcases cW hcf' body(h:=g1.set k(.loop .busy tm' ps' asg' body' ok'))(K:=fun x _ h2 =>
    nD(h2.get k)bad fun _ tm2 ps2 asg2 body2 ok2=>Q7 x bad fun b st2=>HT.setK(some(.loop st2 tm2 ps2 asg2 body2 ok2))(bF k)h2.t fun t=>K(.bool b)⟨h2.next,t⟩)hr2 with h10 |⟨ex2,l2,g2,e3,h10,hr3,h11⟩
  · exact .inl h10
  · refine(show Ref bad(eA body cx e2(g1.set k(.loop .busy tm' ps' asg' body' ok'))_)_ _ from ?_)
   rw [h11]
   dsimp af
   rcases sw(g2.get k)bad(fun _ tm2 ps2 asg2 body2 ok2=>Q7 ex2 bad fun b st2=>HT.setK(some(.loop st2 tm2 ps2 asg2 body2 ok2))(bF k)g2.t fun t=>K(.bool b)⟨g2.next,t⟩) with h12 |⟨st2,tm2,ps2,asg2,body2,ok2,h12,h13⟩
   · exact .inl h12
   rw [h13]
   have hrun:∀ b st3,It ex2=some(b,st3)->mt(aA P gl cf fl)k args h=some(.bool b,g2.set k(.loop st3 tm2 ps2 asg2 body2 ok2)):=fun b st3 hl=>by
    have h6' : aA P gl cf fl asg(pv tm(ps.zip args))h=some(.normal,l1,g1):=h6
    have h10' : aA P gl cf fl body l1(g1.set k(.loop .busy tm' ps' asg' body' ok'))=some(ex2,l2,g2):=h10
    unfold mt
    simp af [h1,hlen,if_true,h6',h8,h10',h12,hl]
   cases ex2 with
   | normal=>exact .of(hrun true .ready rfl)(HT.setK_eq _ _ _ _)
   | ret=>exact .of(hrun false .ret rfl)(HT.setK_eq _ _ _ _)
   | exit id=>exact .of(hrun false(.exit id)rfl)(HT.setK_eq _ _ _ _)
   | _=>exact .inl rfl
 | _=>exact .inl rfl
def tE(bad:Bool)(pf:FuncId->Option(kG))(pr:FuncId->Option lU):Prop:=
 ∀ f,(pf f=none/\pr f=none)\/∃ p q,pf f=some p/\pr f=some q/\
  ∀ (cf:FuncId->List Value->Heap->(Value->Heap->Bool)->Bool)(cr:aY),(∀ f args h K,Ref bad(cf f args h K)(cr f args h)fun r=>K r.1 r.2)->∀ args h K,Ref bad(p cf args h K)(q cr args h)fun r=>K r.1 r.2
theorem CE {P:Program}{gl:Nat->Bool}{bad:Bool}{pf:FuncId->Option(kG)}{pr:FuncId->Option lU}(hp:tE bad pf pr):∀ n f args h K,Ref bad(qW P gl pf bad n f args h K)(aN P gl pr n f args h)fun r=>K r.1 r.2
 | 0,_,_,_,_=>.bad
 | n + 1,f,args,h,K=>by
  have ih:=CE hp(P:=P)(gl:=gl)n
  show Ref bad(cZ(Nat.ble YB f)(eQ(f - YB)fun k=>EE(fun nt =>⟨P,gl,qW P gl pf bad n,n,nt,bad⟩)bad k args h K)(Option.rec(motive:=fun _=>Bool)
   (Ck bad(P.funcs[f]?)fun fn=>Ck bad fn.body fun c=>cZ(Nat.ble fn.ntmps 256 && Nat.ble args.length fn.ntmps)
    (sT args 0 vL fun e=>eA c⟨P,gl,qW P gl pf bad n,n,fn.ntmps,bad⟩e h fun x e h=>Tk x bad(yj P e h bad fn.results.toList fun vs=>K(aJ vs)h))bad)
   (fun p=>p(qW P gl pf bad n)args h K)(pf f)))_ _
  refine bJ(fun hY=>?_)(fun hY=>?_)
  · have hY:YB<=f:=by simpa [Nat.ble_eq] using hY
   rw [bU]
   rcases Iy(P:=P)(gl:=gl)(fl:=n)ih(f - YB)args h K with h1 |⟨r,h1,h2⟩
   · exact .inl h1
   · exact .of(r:=r)(by simp af [aN,if_pos hY]; exact h1)h2
  have hY : ¬ YB<=f:=fun hh=>by
   have:Nat.ble YB f=true:=by simpa [Nat.ble_eq] using hh
   rw [hY] at this; cases this
  rcases hp f with⟨h1,h2⟩|⟨p,q,h1,h2,h3⟩
  · rw [h1]
   refine dB fun fn hfn=>dB fun c hc=>bJ(fun hb=>?_)(fun _=>.bad)
   simp af [Bool.and_eq_true,Nat.ble_eq] at hb
   obtain⟨e',h3,h4⟩:=oa args 0 vL(by omega)
   rw [h3]
   have hr:ct fn.ntmps e' (args ++ List.replicate(fn.ntmps - args.length)undef):=by
    refine⟨by simp; omega,hb.1,fun t=>?_⟩
    rw [h4]
    split
    · next ht=>rw [Nat.sub_zero,List.getD_eq_getElem?_getD,List.getD_eq_getElem?_getD,List.getElem?_append_left(by omega)]
    · next ht =>
     rw [uU,List.getD_eq_getElem?_getD,List.getElem?_append_right(by omega),List.getElem?_replicate]
     split <;> rfl
   let cx:Cx :=⟨P,gl,qW P gl pf bad n,n,fn.ntmps,bad⟩
   have hcf:qZ cx(aN P gl pr n):=fun f args h K=>ih f args h K
   have key:=cW hcf c(h:=h)(K:=fun x e h=>Tk x bad(yj P e h bad fn.results.toList fun vs=>K(aJ vs)h))(e:=e')(l:=args ++ List.replicate(fn.ntmps - args.length)undef)hr
   rcases key with h5 |⟨ex,l1,h5,e1,h6,h7,h8⟩
   · exact .inl h5
   · rw [show eA c⟨P,gl,qW P gl pf bad n,n,fn.ntmps,bad⟩e' h(fun x e h=>Tk x bad(yj P e h bad fn.results.toList fun vs=>K(aJ vs)h))=_ from h8]
    have hrun:aA P gl(aN P gl pr n)n c(args ++ List.replicate(fn.ntmps - args.length)undef)h=some(ex,l1,h5):=h6
    have fin:ex = .normal\/ex = .ret->Ref bad(yj P e1 h5 bad fn.results.toList fun vs=>K(aJ vs)h5)(aN P gl pr(n + 1)f args h)fun r=>K r.1 r.2:=fun hex=>by
     rcases uk h7 fn.results.toList(fun vs=>K(aJ vs)h5)(P:=P)(h:=h5)(bad:=bad) with h9 |⟨vs,h9,h10⟩
     · exact .inl h9
     · refine .of(r:=(aJ vs,h5)) ?_ h10
      simp af [aN,if_neg hY,h2,hfn,hc,hrun]
      rcases hex with rfl | rfl <;> simp af [h9,Option.map_some]
    cases ex with
    | normal=>exact fin(.inl rfl)
    | ret=>exact fin(.inr rfl)
    | _=>exact .bad
  · rw [h1]
   rcases h3(qW P gl pf bad n)(aN P gl pr n)ih args h K with h4 |⟨r,h4,h5⟩
   · exact .inl h4
   · exact .of(r:=r)(by simp af [aN,if_neg hY,h2]; exact h4)h5
end Go.Ab
end
section
namespace Go.Ab
open Go
variable {β:Inj}{P:Program}{gl:Nat->Bool}
theorem q6 {f:FuncId}{fn:Func}{e:Array Value->Sem Value}{p:lU}(hf:P.funcs[f]? = some fn)(hname:(fn.name == "runtime.NumGoroutine")=false)(hb:fn.body.isNone=true)(hn:Extern.findNext fn=none)(he:Extern.find fn=some e)
  (h:∀ cf args h v h',p cf args h=some(v,h')->∀ β w(args' : Array Value),Sim β h w->LRel β args args'.toList->∃ v' w' β',(e args').run P w = .ok v' w'/\Step β h w β' h' w'/\VRel β' v v'):gf P gl f p:=by
 intro cf _ args hh v h' hp β w args' hs _ ha
 obtain⟨v',w',β',h1,h2,h3⟩:=h cf args hh v h' hp β w args' hs ha
 refine⟨fn,hf,.inr⟨v',w',β',?_,h2,h3⟩⟩
 rw [run_callFunc_extern hf hname hb hn he,h1]
 rfl
def gE:lU:=fun _ args h=>match args with
 | [v]=>some(v,h)
 | _=>none
theorem wO {f:FuncId}{fn:Func}(hf:P.funcs[f]? = some fn)(hname:(fn.name == "runtime.NumGoroutine")=false)(hb:fn.body.isNone=true)(hn:Extern.findNext fn=none)(he:Extern.find fn=some Extern.AbiNoEscape.same):gf P gl f gE:=by
 refine q6 hf hname hb hn he fun cf args h v h' hp β w args' hs ha=>?_
 unfold gE at hp
 split at hp
 · next u =>
  simp af [Option.some.injEq,Prod.mk.injEq] at hp
  obtain⟨rfl,rfl⟩:=hp
  obtain⟨u',r,hr,hv,hn⟩:=ha.inv_cons
  obtain rfl:=hn.inv_nil
  obtain rfl:args' = #[u']:=by
   have:=congrArg List.toArray hr
   simpa using this
  exact⟨u',w,β,rfl,Step.refl hs,hv⟩
 · cases hp
noncomputable def jA(c:Nat):List UInt8->Nat->Int
 | [],_=>-1
 | b :: l,i=>if b.toNat=c then i else jA c l(i + 1)
noncomputable def dK:lU:=fun _ args h=>match args with
 | [.string s,.int .u8 c]=>if 0<=c/\c < 256 then some(.int .i64(jA c.toNat s.data.toList 0),h) else none
 | _=>none
theorem NG(s:ByteArray)(c:Nat)(hc:c < 256):jA c s.data.toList 0=firstIdx s c.toUInt8:=by
 have key:∀ (l:List UInt8)(i:Nat),s.data.toList.drop i=l->jA c l i=match(List.range' i l.length).find? fun j=>s[j]! == c.toUInt8 with | some j=>(j:Int) | none=>-1:=by
  intro l
  induction l with
  | nil=>intro i _; rfl
  | cons b l ih =>
   intro i hi
   have hlt:i < s.data.toList.length:=by
    rcases Nat.lt_or_ge i s.data.toList.length with h | h
    · exact h
    · rw [List.drop_eq_nil_of_le h] at hi; cases hi
   have hb:s[i]! = b:=by
    have h0:s.data.toList[i]? = some b:=by
     have:(s.data.toList.drop i)[0]? = some b:=by rw [hi]; rfl
     rw [List.getElem?_drop] at this; simpa using this
    have hsz:i < s.size:=by simpa using hlt
    rw [getElem!_pos s i hsz]
    have:s.data[i]? = some b:=by rw [<- Array.getElem?_toList]; exact h0
    rw [Array.getElem?_eq_getElem(by simpa using hlt)] at this
    exact Option.some.inj this
   have hd:s.data.toList.drop(i + 1)=l:=by rw [<- List.drop_drop,hi]; rfl
   simp af [jA,List.length_cons,List.range'_succ,List.find?_cons,hb]
   by_cases hbc:b.toNat=c
   · have:(b == c.toUInt8)=true:=by
     rw [beq_iff_eq,<- UInt8.toNat_inj]; simp [hbc]; omega
    rw [if_pos hbc,this]
   · have:(b == c.toUInt8)=false:=by
     rw [beq_eq_false_iff_ne]; rintro rfl; apply hbc; simp; omega
    rw [if_neg hbc,this]
    exact ih(i + 1)hd
 rw [key s.data.toList 0 rfl]
 unfold firstIdx
 rw [List.range_eq_range',show s.data.toList.length=s.size by simp]
 generalize List.find? (fun i=>s[i]! == c.toUInt8)(List.range' 0 s.size)=x
 cases x <;> rfl
theorem un {f:FuncId}{fn:Func}(hf:P.funcs[f]? = some fn)(hname:(fn.name == "runtime.NumGoroutine")=false)(hb:fn.body.isNone=true)(hn:Extern.findNext fn=none)(he:Extern.find fn=some Extern.BytealgIndexByte.indexByte):gf P gl f dK:=by
 refine q6 hf hname hb hn he fun cf args h v h' hp β w args' hs ha=>?_
 unfold dK at hp
 split at hp
 · next s c =>
  split at hp
  · next hc =>
   simp af [Option.some.injEq,Prod.mk.injEq] at hp
   obtain⟨rfl,rfl⟩:=hp
   obtain⟨u',r,hr,hv,hn⟩:=ha.inv_cons
   obtain⟨x',r',rfl,hx,hn'⟩:=hn.inv_cons
   obtain rfl:=hn'.inv_nil
   obtain rfl:=hv.inv_string
   obtain rfl:=hx.inv_int
   obtain rfl:args' = #[.string s,.int .u8 c]:=by
    have:=congrArg List.toArray hr
    simpa using this
   refine⟨_,w,β,run_indexByte_string s c w,Step.refl hs,?_⟩
   rw [NG s c.toNat(by omega)]
   exact .int _ _
  · cases hp
 · cases hp
section
noncomputable def Dc(bad:Bool):kG:=fun _ args h K=>List.rec(motive:=fun _=>Bool)bad(fun v r _=>List.rec(motive:=fun _=>Bool)(K v h)(fun _ _ _=>bad)r)args
theorem BT(bad:Bool)(cf:FuncId->List Value->Heap->(Value->Heap->Bool)->Bool)(cr:aY)(args:List Value)(h:Heap)(K:Value->Heap->Bool):Ref bad(Dc bad cf args h K)(gE cr args h)fun r=>K r.1 r.2:=by
 match args with
 | []=>exact .inl rfl
 | [v]=>exact .of rfl rfl
 | v :: u :: r=>exact .inl rfl
noncomputable def Qc(c:Nat)(l:List UInt8):Nat->(Int->Bool)->Bool:=List.rec(motive:=fun _=>Nat->(Int->Bool)->Bool)(fun _ K=>K(-1))(fun b _ ih i K=>eQ i fun i=>cZ(Nat.beq b.toNat c)(K(.ofNat i))(ih(i + 1)K))l
theorem Ih(c:Nat):∀ (l:List UInt8)(i:Nat)(K:Int->Bool),Qc c l i K=K(jA c l i)
 | [],_,_=>rfl
 | b :: l,i,K=>by
  show eQ i(fun i=>cZ(Nat.beq b.toNat c)(K(.ofNat i))(Qc c l(i + 1)K))=_
  rw [bU,Ih c l]
  simp af [jA]
  by_cases hb:b.toNat=c
  · rw [if_pos hb,show Nat.beq b.toNat c=true by simpa [Nat.beq_eq] using hb]; rfl
  · rw [if_neg hb]
   have:Nat.beq b.toNat c=false:=by
    rw [Bool.eq_false_iff]; intro hh; exact hb(by simpa [Nat.beq_eq] using hh)
   rw [this]; rfl
noncomputable def r9(bad:Bool):kG:=fun _ args h K=>match args with
 | [.string s,.int .u8(.ofNat c)]=>cZ(Nat.blt c 256)(Qc c s.data.toList 0 fun i=>K(.int .i64 i)h)bad
 | _=>bad
theorem zI(bad:Bool)(cf:FuncId->List Value->Heap->(Value->Heap->Bool)->Bool)(cr:aY)(args:List Value)(h:Heap)(K:Value->Heap->Bool):Ref bad(r9 bad cf args h K)(dK cr args h)fun r=>K r.1 r.2:=by
 unfold r9
 split
 · next s c =>
  refine bJ(fun hc=>?_)(fun _=>.bad)
  have hc:c < 256:=by simpa [Nat.blt_eq] using hc
  rw [Ih]
  refine .of(r:=(.int .i64(jA c s.data.toList 0),h)) ?_ rfl
  simp af [dK]
  rw [if_pos⟨by simp,by simp; omega⟩]
  rfl
 · exact .bad
end
def β0:Inj:=fun _=>none
def nP:Nat->Bool:=fun _=>false
theorem Heap.get_nil(n k:Nat):(⟨n,.nil⟩: Heap).get k=none:=HT.get_nil _
theorem Fs(n:Nat)(w:World):Sim β0⟨n,.nil⟩w:=
 { lt:=fun k sl h=>nomatch h
  blk:=fun k B sl h=>by rw [Heap.get_nil] at h; cases h
  own:=fun k k' B B' sl sl' _ h=>by rw [Heap.get_nil] at h; cases h
  wf:=fun k B h=>by rw [Heap.get_nil] at h; cases h }
theorem gl_nil:Gl nP β0:=fun g h=>by cases h
open Go.RowKit in
theorem qC {n:Nat}{w w' : World}{β' : Inj}{h' : Heap}(s:Step β0⟨n,.nil⟩w β' h' w'):Below w.heap.size w w':=
 ⟨s.os,s.tape,s.output,s.size,fun k hk=>s.kept k hk fun⟨k,B,sl,h1,_⟩=> by rw [Heap.get_nil] at h1; cases h1⟩
end Go.Ab
end
section
namespace Go.Ab
open Go Go.RowKit
variable {β:Inj}{P:Program}{gl:Nat->Bool}
theorem qP {h:Heap}{w w' : World}(hs:Sim β h w)(hb:Below w.heap.size w w'):Step β h w β h w':=
  { le:=β.le_refl,next:=Nat.le_refl _
    sim:={ lt:=fun k sl hk =>⟨(hs.lt k sl hk).1,Nat.lt_of_lt_of_le(hs.lt k sl hk).2 hb.size⟩
             blk:=fun k B sl h1 h2=>(hs.blk k B sl h1 h2).of_heap(hb.block _(hs.lt k sl h2).2)
             own:=hs.own,wf:=hs.wf }
    size:=hb.size,os:=hb.os,tape:=hb.tape,output:=hb.output
    kept:=fun b h1 _=>hb.block b h1
    back:=fun _ _ h=>h,fresh:=fun _ _ h=>.inl h,keys:=fun _ B h _ =>⟨B,h⟩}
def DM(P:Program)(f:FuncId)(args:List Value)(v:Value):Prop:=
  ∃ fn,P.funcs[f]? = some fn/\fn.body.isSome=true/\∀ w,Calls P f args.toArray w fun e w'=>e = .returned v/\Below w.heap.size w w'
theorem LRel.of_bares {β:Inj}{l:List Value}(h:l.all nQ=true):LRel β l l:=by
  induction l with
  | nil=>exact .nil β
  | cons v l ih =>
    simp af [List.all_cons,Bool.and_eq_true] at h
    exact .cons(.of_bare h.1)(ih h.2)
theorem VRel.bare_eq {β:Inj}{v v' : Value}(hv:nQ v=true)(h:VRel β v v'):v' = v:=by
  cases h <;> first | rfl | (simp [nQ] at hv)
theorem LRel.bares_eq {β:Inj} : ∀ {l l' : List Value},l.all nQ=true->LRel β l l'->l' = l
  | [],l',_,h=>h.inv_nil
  | v :: l,l',hb,h=>by
    simp af [List.all_cons,Bool.and_eq_true] at hb
    obtain⟨v',r,rfl,hv,hr⟩:=h.inv_cons
    rw [hv.bare_eq hb.1,hr.bares_eq hb.2]
theorem VRel.plain_eq {β:Inj}{v v' : Value}(hv:plain v=true)(h:VRel β v v'):v' = v:=by
  have key:∀ {a a' : Array Value},ARel β a a'->(∀ x∈a.toList,∀ y,VRel β x y->y=x)->a' = a:=fun {a a'}ha hx=>by
    refine Array.ext ha.1.symm fun i h1 h2=>?_
    have:=ha.2 i a[i] a'[i] (Array.getElem?_eq_getElem h2)(Array.getElem?_eq_getElem h1)
    exact hx _(by simp)_ this
  unfold plain at hv
  split at hv
  · next cs =>
    obtain⟨a',rfl,ha⟩:=h.inv_agg
    rw [key ha fun x hx y hy=>hy.bare_eq(List.all_eq_true.1 hv x hx)]
  · next cs =>
    obtain⟨a',rfl,ha⟩:=h.inv_tuple
    rw [key ha fun x hx y hy=>?_]
    have:=List.all_eq_true.1 hv x hx
    split at this
    · next ds =>
      obtain⟨b',rfl,hb⟩:=hy.inv_agg
      rw [key hb fun z hz u hu=>hu.bare_eq(List.all_eq_true.1 this z hz)]
    · exact hy.bare_eq this
  · exact h.bare_eq hv
theorem EU {cf:aY}(hcf:CfOk P nP cf){f:FuncId}{fn:Func}{args:List Value}{n:Nat}{v:Value}{h' : Heap}(hr:cf f args⟨n,.nil⟩= some(v,h'))(ha:args.all nQ=true)(hv:plain v=true)(hY:f < YB)(hf:P.funcs[f]? = some fn)(hb:fn.body.isSome=true)
    (hN:bV P):DM P f args v:=by
  refine⟨fn,hf,hb,fun w=>?_⟩
  obtain⟨fn',hfn,h⟩:=hcf.fn f args _ v h' hY hr β0 w args.toArray(Fs n w)gl_nil(by simpa using LRel.of_bares ha)
  rcases h with⟨_,h⟩|⟨v',w',β',h1,_,_⟩
  · refine h.mono ?_
    rintro e w'⟨v',β',rfl,h2,h3⟩
    exact⟨by rw [h3.plain_eq hv],qC h2⟩
  · rw [co hN hf hb] at h1
    cases h1
def yJ:List UInt8->List UInt8->Bool
  | [],[]=>true
  | a :: x,b :: y=>Nat.beq a.toNat b.toNat && yJ x y
  | _,_=>false
theorem Br:∀ {a b:List UInt8},yJ a b=true->a=b
  | [],[],_=>rfl
  | a :: x,b :: y,h=>by
    simp af [yJ,Bool.and_eq_true,Nat.beq_eq] at h
    rw [UInt8.toNat_inj.1 h.1,Br h.2]
noncomputable def vI:Value->Value->Bool
  | .bool a,.bool b=>a == b
  | .int k a,.int k' b=>SH k k' && K4 a b
  | .string a,.string b=>yJ a.data.toList b.data.toList
  | _,_=>false
theorem CM {a b:Value}(h:vI a b=true):a=b:=by
  unfold vI at h
  split at h
  · rw [beq_iff_eq.1 h]
  · simp af [Bool.and_eq_true,zY,beq_iff_eq] at h; rw [Em h.1,h.2]
  · next a b =>
    have h:=Br h
    obtain⟨⟨a⟩⟩:=a
    obtain⟨⟨b⟩⟩:=b
    simp af at h
    rw [h]
  · cases h
noncomputable def mN:List Value->List Value->Bool
  | [],[]=>true
  | a :: x,b :: y=>vI a b && mN x y
  | _,_=>false
theorem vi:∀ {a b:List Value},mN a b=true->a=b
  | [],[],_=>rfl
  | a :: x,b :: y,h=>by
    simp af [mN,Bool.and_eq_true] at h
    rw [CM h.1,vi h.2]
theorem Ik {a b:Value}(h:vI a b=true):nQ b=true:=by
  unfold vI at h
  split at h <;> first | rfl | cases h
theorem tQ:∀ {a b:List Value},mN a b=true->b.all nQ=true
  | [],[],_=>rfl
  | a :: x,b :: y,h=>by
    simp af [mN,Bool.and_eq_true] at h
    simp af [List.all_cons,Bool.and_eq_true]
    exact⟨Ik h.1,tQ h.2⟩
noncomputable def FN:Value->Value->Bool
  | .agg a,.agg b=>mN a.toList b.toList
  | a,b=>vI a b
noncomputable def yH:List Value->List Value->Bool
  | [],[]=>true
  | a :: x,b :: y=>FN a b && yH x y
  | _,_=>false
noncomputable def D3:Value->Value->Bool
  | .tuple a,.tuple b=>yH a.toList b.toList
  | a,b=>FN a b
theorem PL {a b:Array Value}(h:a.toList=b.toList):a=b:=by
  have:=congrArg List.toArray h
  simpa using this
theorem DU {a b:Value}(h:FN a b=true):a=b:=by
  unfold FN at h
  split at h
  · rw [PL(vi h)]
  · exact CM h
theorem zB:∀ {a b:List Value},yH a b=true->a=b
  | [],[],_=>rfl
  | a :: x,b :: y,h=>by
    simp af [yH,Bool.and_eq_true] at h
    rw [DU h.1,zB h.2]
theorem OY {a b:Value}(h:D3 a b=true):a=b:=by
  unfold D3 at h
  split at h
  · rw [PL(zB h)]
  · exact DU h
noncomputable def NX:List(List Value × Value)->List Value->Option Value
  | [],_=>none
  | (a,v) :: r,args=>if mN a args then some v else NX r args
noncomputable def D0(tab:List(List Value × Value)):lU:=fun _ args h=>(NX tab args).map fun v=>(v,h)
def CF(P:Program)(f:FuncId)(tab:List(List Value × Value)):Prop:= ∀ r∈tab,DM P f r.1 r.2/\plain r.2=true
theorem Hs:∀ {tab:List(List Value × Value)}{args:List Value}{v:Value},NX tab args=some v->(args,v)∈tab/\args.all nQ=true
  | [],_,_,h=>nomatch h
  | (a,u) :: r,args,v,h=>by
    simp af [NX] at h
    split at h
    · next he =>
      obtain rfl:=Option.some.inj h
      rw [vi he]
      exact⟨by simp,tQ he⟩
    · obtain⟨h1,h2⟩:=Hs h
      exact⟨by simp [h1],h2⟩
theorem Sn {f:FuncId}{tab:List(List Value × Value)}(ht:CF P f tab):gf P gl f(D0 tab):=by
  intro cf _ args h v h' hp β w args' hs _ ha
  unfold D0 at hp
  obtain⟨u,hu,he⟩:=Option.map_eq_some_iff.1 hp
  simp af [Prod.mk.injEq] at he
  obtain⟨rfl,rfl⟩:=he
  obtain⟨hm,hb⟩:=Hs hu
  obtain⟨⟨fn,hf,hbody,hcalls⟩,hv⟩:=ht _ hm
  refine⟨fn,hf,.inl⟨hbody,?_⟩⟩
  have hargs:args' = args.toArray:=by
    have:=LRel.bares_eq hb ha
    simpa using congrArg List.toArray this
  rw [hargs]
  refine(hcalls w).mono ?_
  rintro e w'⟨rfl,h2⟩
  exact⟨u,β,rfl,qP hs h2,.of_plain hv⟩
section
noncomputable def O3(bad:Bool)(tab:List(List Value × Value)):kG:=fun _ args h K=>List.rec(motive:=fun _=>Bool)bad(fun r _ ih=>cZ(mN r.1 args)(gB r.2 fun v=>K v h)ih)tab
theorem MU(bad:Bool)(tab:List(List Value × Value))(cf:FuncId->List Value->Heap->(Value->Heap->Bool)->Bool)(cr:aY)(args:List Value)(h:Heap)(K:Value->Heap->Bool):Ref bad(O3 bad tab cf args h K)(D0 tab cr args h)fun r=>K r.1 r.2:=by
  unfold D0
  induction tab with
  | nil=>exact .inl rfl
  | cons r tab ih =>
    obtain⟨a,v⟩:=r
    show Ref bad(cZ(mN a args)(gB v fun v=>K v h)(O3 bad tab cf args h K))_ _
    simp af [NX]
    refine bJ(fun hb=>?_)(fun hb=>?_)
    · rw [bW,if_pos hb]; exact .of rfl rfl
    · rw [if_neg(by rw [hb]; simp)]; exact ih
end
theorem OH {gl:Nat->Bool}{pf:FuncId->Option(kG)}{pr:FuncId->Option lU}(hp:tE false pf pr){n:Nat}{f:FuncId}{args:List Value}{h:Heap}{v:Value}(hr:qW P gl pf false n f args h(fun u _=>D3 v u)=true) :
    ∃ h',aN P gl pr n f args h=some(v,h'):=by
  rcases CE(P:=P)(gl:=gl)hp n f args h(fun u _=>D3 v u) with h1 |⟨⟨u,h'⟩,h1,h2⟩
  · rw [hr] at h1; cases h1
  · rw [hr] at h2
    exact⟨h',by rw [h1,OY h2.symm]⟩
theorem LG(hN:bV P){pf:FuncId->Option(kG)}{pr:FuncId->Option lU}(hp:tE false pf pr){n:Nat}(hcf:CfOk P nP(aN P nP pr n)){f:FuncId}{args:List Value}{v:Value}
    (hr:qW P nP pf false n f args⟨0,.nil⟩(fun u _=>D3 v u)=true)(hc:(args.all nQ && plain v && Nat.blt f YB && pB P f)=true):DM P f args v:=by
  simp af [Bool.and_eq_true] at hc
  obtain⟨⟨⟨h1,h2⟩,h3⟩,h4⟩:=hc
  obtain⟨fn,hf,hb⟩:=w7 h4
  obtain⟨h',hr'⟩:=OH hp hr
  exact EU hcf hr' h1 h2(by simpa [Nat.blt_eq] using h3)hf hb hN
theorem Td {f:FuncId} : CF P f []:=fun _ h=>by cases h
theorem Qu {f:FuncId}{a:List Value}{v:Value}{tab:List(List Value × Value)}(h:DM P f a v)(hv:plain v=true)(ht:CF P f tab):CF P f((a,v) :: tab):=fun r hr=>by
  rcases List.mem_cons.1 hr with rfl | hr
  · exact⟨h,hv⟩
  · exact ht r hr
end Go.Ab
end
section
namespace Go.Ab
open Go Go.RowKit
variable {β:Inj}{P:Program}{gl:Nat->Bool}
noncomputable def rx(P:Program)(gl:Nat->Bool)(fn:Func)(r0 rest:Code)(d:Tmp):lU:=fun cf args h =>
 match aA P gl cf 40 r0(args ++ List.replicate(fn.ntmps - args.length)undef)h with
 | some(.normal,tm,h1)=>if d < tm.length then
   match aA P gl cf 40 rest(tm.set d junk)h1 with
   | some(.ret,tm',h')=>(bg P tm' h' fn.results.toList).map fun vs=>(aJ vs,h')
   | _=>none
  else none
 | _=>none
theorem uT {n:Nat}{f:FuncId}{fn:Func}{c:Code}{args:Array Value}{u:FrameMode}{w:World}{Bool:Ending->FrameMode->World->Prop}(hf:P.funcs[f]? = some fn)(hb:fn.body=some c)
  (h:∀ (c₀:Frame)(cs:List Frame),c₀.mode=u->c.wpS P(bodyPostS P fn c₀ cs Bool){ tmps:=args ++ Array.replicate(fn.ntmps - args.size)undef,defers:=[] }(c₀ :: cs)w):CallsDIn Fence.wide n P f args u w Bool:=by
 refine⟨trivial,fun c₀ cs hu _=>?_⟩
 have hin:Frame.enter P f args .deferred=({ (default:Frame) with fn:=f,kind:= .deferred } : Frame).at { tmps:=args ++ Array.replicate(fn.ntmps - args.size)undef,defers:=[] } [.code c]:=by
  simp [Frame.enter,Frame.at,hf,hb]
 obtain⟨e,a',cs',w',hq,harr⟩:=h c₀ cs hu { (default:Frame) with fn:=f,kind:= .deferred } [] rfl rfl
 rw [<- hin] at harr
 rcases e with _ | _ | _ | _ | chain | _
 · obtain⟨hd,u',rfl,v,hr,hR⟩:=hq
  exact⟨.returned v,u',w',_,hR,comesIn_wide.2(Steps.trans harr(.one step_end)),rfl,rfl,rfl,hd,fn,hf,hr⟩
 · exact hq.elim
 · exact hq.elim
 · obtain⟨hd,u',rfl,v,hr,hR⟩:=hq
  obtain⟨todo,hs⟩:=harr
  exact⟨.returned v,u',w',_,hR,comesIn_wide.2 hs,rfl,rfl,rfl,hd,fn,hf,hr⟩
 · obtain⟨hd,u',rfl,hR⟩:=hq
  obtain⟨todo,hs⟩:=harr
  exact⟨.panicked chain,u',w',_,hR,comesIn_wide.2 hs,rfl,rfl,rfl,hd,fn,hf⟩
 · obtain⟨u',hR⟩:=hq
  exact⟨.outgrown,u',w',{ (default:Frame) with fn:=f,kind:= .deferred },hR,comesIn_wide.2(harr.resolve_left(by simp)),rfl,rfl,trivial⟩
theorem kF {F:Fence}{n:Nat}{fn:Func}{β₀ β' : Inj}{h₀ h' : Heap}{w₀:World}{tmps:Array Value}{Bool:Ending->World->Prop}{tl:List Deferred} :
  ∀ (ms:List Nat)(w' : World),ms.Nodup->(∀ b∈ms,w₀.heap.size<=b/\w'.heap[b]? = some(.deferred(some [])))->Step β₀ h₀ w₀ β' h' w'->
   (∀ w'',Step β₀ h₀ w₀ β' h' w''->(∀ b,b ∉ ms->w''.heap[b]? = w'.heap[b]?)->LeavesInM F n P fn tmps Bool tl .returning w'')->LeavesInM F n P fn tmps Bool(ms.map Ee ++ tl) .returning w'
 | [],w',_,_,st,hk=>hk w' st fun _ _=>rfl
 | b :: ms,w',hn,hb,st,hk=>by
  obtain⟨h1,h2⟩:=hb b(by simp)
  obtain⟨hn1,hn2⟩:=List.nodup_cons.1 hn
  refine⟨by simp,.inl⟨b,_,rfl,run_takeDeferred h2,?_⟩⟩
  refine kF ms _ hn2(fun b' hm=>?_)(Ds st h1 h2)fun w'' st' hsame=>hk w'' st' fun b' hb'=>?_
  · obtain⟨h3,h4⟩:=hb b' (by simp [hm])
   exact⟨h3,by rw [World.putObj_heap_other(by rintro rfl; exact hn1 hm)]; exact h4⟩
  · simp af [List.mem_cons,not_or] at hb'
   rw [hsame b' hb'.2,World.putObj_heap_other hb'.1]
theorem HA(hN:bV P){fW fC:FuncId}{fn fnC:Func}{r0 rest:Code}{i1:Nat}{mk df:Oper}{d:Tmp}{cap:Array Operand}
  (hf:P.funcs[fW]? = some fn)(hb:fn.body=some(.seq r0(.seq(.region i1 #[mk,df] false)rest)))
  (hmk:mk.op = .makeFunc(.func fC) #[] cap)(hmd:mk.dst=some d)(hmg:mk.guard=none)(hdf:df.op = .defer { callee:= .value(.tmp d),args:= #[],argTypes:= #[] })(hdg:df.guard=none)(hdd:df.dst=none)
  (hfC:P.funcs[fC]? = some fnC)(hbC:fnC.body.isSome=true)
  (hidle:∀ (args:Array Value)(w:World),args.size=cap.size->CallsDIn Fence.wide 0 P fC args .returning w fun e u' w'=>(∃ v,e = .returned v)/\u' = .returning/\Below w.heap.size w w')
  (hd0:aW r0=true)(hd1:aW rest=true):gf P gl fW(rx P gl fn r0 rest d):=by
 intro cf hcf args h v h' hp β w args' hs hg ha
 refine⟨fn,hf,.inl⟨by simp [hb],?_⟩⟩
 unfold rx at hp
 split at hp
 · next tm h1 hr0 =>
  split at hp
  · next hlt =>
   split at hp
   · next tm2 h2 hrest =>
    obtain⟨vs,hres,he⟩:=Option.map_eq_some_iff.1 hp
    simp af [Prod.mk.injEq] at he
    obtain⟨rfl,rfl⟩:=he
    refine(callsIn_wide(n:=0)).1(callsIn_of_wp_marks(F:=Fence.wide)hf hb trivial ?_)
    have hrep:∀ k,LRel β(List.replicate k undef)(List.replicate k undef):=fun k =>⟨rfl,fun i v v' h1 h2=>by
     rw [List.getElem?_replicate] at h1 h2
     split at h1
     · next hi=>rw [if_pos hi] at h2; obtain rfl:=Option.some.inj h1; obtain rfl:=Option.some.inj h2; exact .undef β
     · cases h1⟩
    have ht:LRel β(args ++ List.replicate(fn.ntmps - args.length)undef)(args' ++ Array.replicate(fn.ntmps - args'.size)undef).toList:=by
     have:args'.size=args.length:=by rw [ha.1]; simp
     rw [this]
     simp af [Array.toList_append,Array.toList_replicate]
     exact ha.append(hrep _)
    refine wpIn_seq ?_
    refine tG(r:=none)hN hcf r0(.inl rfl)(eJ(mO hN _ hcf)hd0)_ hr0 hs hg ht fun a1 w1 β1 hst1 ht1 hm1=>?_
    refine wpIn_seq(wpIn_region ?_)
    have hsz:d < a1.tmps.size:=by have:=ht1.1; rw [<- Array.length_toList,<- this]; exact hlt
    have hev:(a1.put(some d)(.func(.func fC) #[] (cap.map a1.eval))).eval(.tmp d) = .func(.func fC) #[] (cap.map a1.eval):=by
     simp [Act.put,Act.eval,hsz]
    have hw1:Region.wanted mk(yielded #[mk,df] a1.tmps)=true:=by simp [Region.wanted,hmg]
    have hw2:∀ t,Region.wanted df(yielded #[mk,df] t)=true:=fun t=>by simp [Region.wanted,hdg]
    show wpOpsIn(ep none)0 P #[mk,df] _ [0,1] a1 w1
    simp af [wpOpsIn,List.getElem?_toArray,List.getElem?_cons_zero,List.getElem?_cons_succ,hw1,if_true]
    refine⟨fun _ _=>trivial,?_⟩
    rw [Oper.semAt_eq _ _ _(fun c hc=>by rw [hmk] at hc; cases hc)]
    have hrun1:(execOp a1.eval mk).run P w1 = .ok(.value(.func(.func fC) #[] (cap.map a1.eval)))w1:=by
     unfold execOp
     simp [hmk,Instr.makeFunc]
    rw [hrun1]
    rw [Oper.uponIn_value]
    rw [hmd,if_pos(hw2 _)]
    refine⟨fun _ _=>trivial,?_⟩
    have hrun2:(df.semAt(ep none).round(a1.put(some d)(.func(.func fC) #[] (cap.map a1.eval))).eval).run P w1 = .ok(.defer { target:= .fn(.func fC)(cap.map a1.eval),args:= #[] })w1:=by
     show(execOp(a1.put(some d)(.func(.func fC) #[] (cap.map a1.eval))).eval df).run P w1=_
     unfold execOp
     simp af [hdf,resolve,hev,Deferred.ofValue,Sem.run_bind,Sem.run_pure,Result.andThen_ok]
     simp
    rw [hrun2]
    show Code.wpIn(ep none)0 P rest _({ (a1.put(some d)(.func(.func fC) #[] (cap.map a1.eval))) with defers:={ target:= .fn(.func fC)(cap.map a1.eval),args:= #[] } :: (a1.put(some d)(.func(.func fC) #[] (cap.map a1.eval))).defers }.put df.dst undef)w1
    rw [hdd]
    have ht1' : LRel β1(tm.set d junk)(a1.put(some d)(.func(.func fC) #[] (cap.map a1.eval))).tmps.toList:=by
     have:=fF ht1(some d)(v:=junk)(.junk(.func(.func fC) #[] (cap.map a1.eval)))
     exact this
    refine tG(r:=none)hN hcf rest(.inl rfl)(eJ(mO hN _ hcf)hd1)_ hrest hst1.sim(hg.mono hst1.le)(a:={ (a1.put(some d)(.func(.func fC) #[] (cap.map a1.eval))) with defers:=_ })ht1' fun a2 w2 β2 hst2 ht2 hm2=>?_
    have hst12:=hst1.trans hst2
    obtain⟨ms1,hd1',hn1,hb1⟩:=hm1
    obtain⟨ms2,hd2',hn2,hb2⟩:=hm2
    simp af [List.append_nil] at hd1'
    have hdd2:a2.defers=ms2.map Ee ++ ({ target:= .fn(.func fC)(cap.map a1.eval),args:= #[] } :: ms1.map Ee):=by
     rw [hd2']
     show _ ++ (_ :: (a1.put(some d)_).defers)=_
     rw [bK,hd1']
    show LeavesInM Fence.wide 0 P fn a2.tmps(lc β h w(aJ vs)h2)a2.defers .returning w2
    rw [hdd2]
    refine kF ms2 w2 hn2(fun b hm =>⟨Nat.le_trans hst1.size(hb2 b hm).1,(hb2 b hm).2.2.1⟩)hst12 fun w3 hst3 hsame=>?_
    refine⟨by simp,.inr⟨fun hd=>by simp [Fence.wide] at hd,.func fC,cap.map a1.eval,fC,#[] ++ cap.map a1.eval,rfl,co hN hfC hbC _ _,fun _ _=>trivial,?_⟩⟩
    refine(hidle(#[] ++ cap.map a1.eval)w3(by simp)).mono ?_
    rintro e u' w4⟨⟨v,rfl⟩,rfl,hbelow⟩
    show LeavesInM Fence.wide 0 P fn a2.tmps(lc β h w(aJ vs)h2)(ms1.map Ee) .returning w4
    refine mZ(P:=P)hres ht2 ms1 w4 hn1(fun b hm =>⟨(hb1 b hm).1,?_⟩)(hst3.trans(qP hst3.sim hbelow))
    obtain⟨h4,h5,h6,h7⟩:=hb1 b hm
    have hlt2:b < w2.heap.size:=Nat.lt_of_lt_of_le h5 hst2.size
    have hnot:b ∉ ms2:=fun hmem=>by have:=(hb2 b hmem).1; omega
    have h8:w2.heap[b]? = some(.deferred(some [])):=(hst2.kept b h5 h7).trans h6
    have h9:w3.heap[b]? = some(.deferred(some [])):=(hsame b hnot).trans h8
    rw [hbelow.block b ?_,h9]
    exact(Array.getElem?_eq_some_iff.1 h9).1
   · cases hp
  · cases hp
 · cases hp
section
noncomputable def sH(x:Exit)(bad r:Bool):Bool:=Exit.rec(motive:=fun _=>Bool)bad(fun _=>bad)(fun _=>bad)r(fun _=>bad)bad x
noncomputable def JY(P:Program)(gl:Nat->Bool)(bad:Bool)(fn:Func)(r0 rest:Code)(d:Tmp):kG:=fun cf args h K =>
 cZ(Nat.ble fn.ntmps 256 && Nat.ble args.length fn.ntmps && Nat.blt d fn.ntmps)
  (sT args 0 vL fun e=>eA r0⟨P,gl,cf,40,fn.ntmps,bad⟩e h fun x e h1=>el x
   (m5 fn.ntmps(some d)e junk fun e=>eA rest⟨P,gl,cf,40,fn.ntmps,bad⟩e h1 fun x e h2=>sH x bad(yj P e h2 bad fn.results.toList fun vs=>K(aJ vs)h2))
   (fun _=>bad)bad)bad
theorem Jx(bad:Bool)(fn:Func)(r0 rest:Code)(d:Tmp)(cf:FuncId->List Value->Heap->(Value->Heap->Bool)->Bool)(cr:aY)(hcf:∀ f args h K,Ref bad(cf f args h K)(cr f args h)fun r=>K r.1 r.2)(args:List Value)(h:Heap)(K:Value->Heap->Bool) :
  Ref bad(JY P gl bad fn r0 rest d cf args h K)(rx P gl fn r0 rest d cr args h)fun r=>K r.1 r.2:=by
 unfold JY
 refine bJ(fun hb=>?_)(fun _=>.bad)
 simp af [Bool.and_eq_true,Nat.ble_eq,Nat.blt_eq] at hb
 obtain⟨⟨hb1,hb2⟩,hb3⟩:=hb
 obtain⟨e',h3,h4⟩:=oa args 0 vL(by omega)
 rw [h3]
 have hr:ct fn.ntmps e' (args ++ List.replicate(fn.ntmps - args.length)undef):=by
  refine⟨by simp; omega,hb1,fun t=>?_⟩
  rw [h4]
  split
  · next ht=>rw [Nat.sub_zero,List.getD_eq_getElem?_getD,List.getD_eq_getElem?_getD,List.getElem?_append_left(by omega)]
  · next ht =>
   rw [uU,List.getD_eq_getElem?_getD,List.getElem?_append_right(by omega),List.getElem?_replicate]
   split <;> rfl
 let cx:Cx :=⟨P,gl,cf,40,fn.ntmps,bad⟩
 have hcf' : qZ cx cr:=fun f args h K=>hcf f args h K
 rcases cW hcf' r0(h:=h)(K:=fun x e h1=>el x
   (m5 fn.ntmps(some d)e junk fun e=>eA rest cx e h1 fun x e h2=>sH x bad(yj P e h2 bad fn.results.toList fun vs=>K(aJ vs)h2))
   (fun _=>bad)bad)hr with h5 |⟨ex,l1,g1,e1,h6,hr1,h7⟩
 · exact .inl h5
 · refine(show Ref bad(eA r0 cx e' h _)_ _ from ?_)
  rw [h7]
  dsimp af
  cases ex with
  | normal =>
   dsimp af [el]
   obtain⟨e2,h8,h9⟩:=qg hr1(some d)junk
   have h9':=fun(K:Env->Bool)=>h9 K
   rw [show(m5 fn.ntmps(some d)e1 junk fun e=>eA rest cx e g1 fun x e h2=>sH x bad(yj P e h2 bad fn.results.toList fun vs=>K(aJ vs)h2))=_ from h9' _]
   rcases cW hcf' rest(h:=g1)(K:=fun x e h2=>sH x bad(yj P e h2 bad fn.results.toList fun vs=>K(aJ vs)h2))h8 with h10 |⟨ex2,l2,g2,e3,h11,hr3,h12⟩
   · exact .inl h10
   · rw [h12]
    dsimp af
    cases ex2 with
    | ret =>
     dsimp af [sH]
     rcases uk hr3 fn.results.toList(fun vs=>K(aJ vs)g2)(P:=P)(h:=g2)(bad:=bad) with h13 |⟨vs,h13,h14⟩
     · exact .inl h13
     · refine .of(r:=(aJ vs,g2)) ?_ h14
      have h6' : aA P gl cr 40 r0(args ++ List.replicate(fn.ntmps - args.length)undef)h=some(.normal,l1,g1):=h6
      have h11' : aA P gl cr 40 rest(l1.set d junk)g1=some(.ret,l2,g2):=h11
      have hlen:d < l1.length:=by rw [hr1.1]; exact hb3
      simp af [rx,h6',if_pos hlen,h11',h13,Option.map_some]
    | _=>exact .inl rfl
  | _=>exact .inl rfl
end
end Go.Ab
end
section
namespace Go.Ab
open Go Go.RowKit
variable {β:Inj}{P:Program}{gl:Nat->Bool}
noncomputable def RZ(l:List(Nat × Blk))(t:HT):HT:=List.rec(motive:=fun _=>HT)t(fun p _ ih=>HT.set(some p.2)(bF p.1)ih)l
theorem MF(p:Nat × Blk)(l:List(Nat × Blk))(t:HT):RZ(p :: l)t=HT.set(some p.2)(bF p.1)(RZ l t):=rfl
structure KRow where
 args:List Value
 old:List(Nat × Blk)
 next:Nat
 v:Value
 new:List(Nat × Blk)
 next' : Nat
def ST(B C:Blk):Bool:=match B,C with
 | .cells cs t sz _,.cells cs' t' sz' _=>Ix(cP 4)cs cs' && Nat.beq t t' && Nat.beq sz sz'
 | _,_=>false
def R1:Blk->Bool
 | .cells _ _ _ wr=>!wr
 | _=>false
noncomputable def Va(h:Heap)(p:Nat × Blk):Bool:=R1 p.2 && (match h.get p.1 with | some C=>ST p.2 C | none=>false)
noncomputable def UP(h:Heap)(args:List Value)(r:KRow):Bool:=Ix(cP 4)r.args args && Nat.ble h.next r.next && r.old.all(Va h)
noncomputable def WO(r:KRow)(h:Heap):Heap :=⟨r.next',RZ r.new h.t⟩
noncomputable def OX(h:Heap)(args:List Value):List KRow->Option KRow
 | []=>none
 | r :: l=>if UP h args r then some r else OX h args l
noncomputable def QC(rows:List KRow):lU:=fun _ args h=>(OX h args rows).map fun r=>(r.v,WO r h)
noncomputable def KL(l:List(Nat × Blk))(t:HT)(K:HT->Bool):Bool:=List.rec(motive:=fun _=>(HT->Bool)->Bool)(fun K=>K t)(fun p _ ih K=>ih fun t=>HT.setK(some p.2)(bF p.1)t K)l K
theorem Ho(t:HT):∀ (l:List(Nat × Blk))(K:HT->Bool),KL l t K=K(RZ l t)
 | [],_=>rfl
 | p :: l,K=>by
  show KL l t(fun t=>HT.setK(some p.2)(bF p.1)t K)=_
  rw [Ho t l,HT.setK_eq,MF]
noncomputable def Oo(bad:Bool)(rows:List KRow):kG:=fun _ args h K=>List.rec(motive:=fun _=>Bool)bad(fun r _ ih=>cZ(UP h args r)(KL r.new h.t fun t=>gB r.v fun v=>K v⟨r.next',t⟩)ih)rows
theorem NR(bad:Bool)(rows:List KRow)(cf:FuncId->List Value->Heap->(Value->Heap->Bool)->Bool)(cr:aY)(args:List Value)(h:Heap)(K:Value->Heap->Bool):Ref bad(Oo bad rows cf args h K)(QC rows cr args h)fun r=>K r.1 r.2:=by
 unfold QC
 induction rows with
 | nil=>exact .inl rfl
 | cons r rows ih =>
  show Ref bad(cZ(UP h args r)(KL r.new h.t fun t=>gB r.v fun v=>K v⟨r.next',t⟩)(Oo bad rows cf args h K))_ _
  simp af [OX]
  refine bJ(fun hb=>?_)(fun hb=>?_)
  · rw [Ho,bW,if_pos hb]; exact .of rfl rfl
  · rw [if_neg(by rw [hb]; simp)]; exact ih
end Go.Ab
end
section
namespace Go.Ab
open Go Go.RowKit
variable {P:Program}{gl:Nat->Bool}
inductive PEntry where
 | memo(tab:List(List Value × Value))
 | noEsc
 | idxByte
 | defer(fn:Func)(r0 rest:Code)(d:Tmp)
 | keep(rows:List KRow)
noncomputable def PEntry.slow(P:Program)(gl:Nat->Bool)(e:PEntry):lU:=PEntry.rec(motive:=fun _=>lU)(fun tab=>D0 tab)gE dK(fun fn r0 rest d=>rx P gl fn r0 rest d)(fun rows=>QC rows)e
noncomputable def PEntry.fast(P:Program)(gl:Nat->Bool)(bad:Bool)(e:PEntry):kG:=PEntry.rec(motive:=fun _=>kG)(fun tab=>O3 bad tab)(Dc bad)(r9 bad)(fun fn r0 rest d=>JY P gl bad fn r0 rest d)(fun rows=>Oo bad rows)e
abbrev nI:=List(FuncId × PEntry)
noncomputable def FE {α:Type}(b:Bool)(x y:Option α):Option α:=Bool.rec(motive:=fun _=>Option α)y x b
noncomputable def Ej(P:Program)(gl:Nat->Bool)(l:nI)(f:FuncId):Option lU:=List.rec(motive:=fun _=>Option lU)none(fun x _ ih=>FE(Nat.beq f x.1)(some(x.2.slow P gl))ih)l
noncomputable def Om(P:Program)(gl:Nat->Bool)(bad:Bool)(l:nI)(f:FuncId):Option(kG):=List.rec(motive:=fun _=>Option(kG))none(fun x _ ih=>FE(Nat.beq f x.1)(some(x.2.fast P gl bad))ih)l
theorem PE(bad:Bool)(l:nI):tE bad(Om P gl bad l)(Ej P gl l):=fun f=>by
 induction l with
 | nil=>exact .inl⟨rfl,rfl⟩
 | cons x l ih =>
  show(FE(Nat.beq f x.1)(some(x.2.fast P gl bad))(Om P gl bad l f)=none/\FE(Nat.beq f x.1)(some(x.2.slow P gl))(Ej P gl l f)=none)\/_
  cases hx:Nat.beq f x.1 with
  | false =>
   rcases ih with⟨h1,h2⟩|⟨p,q,h1,h2,h3⟩
   · exact .inl⟨h1,h2⟩
   · refine .inr⟨p,q,?_,?_,h3⟩
    · show FE(Nat.beq f x.1)(some(x.2.fast P gl bad))(Om P gl bad l f)=_
     rw [hx]; exact h1
    · show FE(Nat.beq f x.1)(some(x.2.slow P gl))(Ej P gl l f)=_
     rw [hx]; exact h2
  | true =>
   refine .inr⟨x.2.fast P gl bad,x.2.slow P gl,?_,?_,fun cf cr hcf args h K=>?_⟩
   · show FE(Nat.beq f x.1)(some(x.2.fast P gl bad))(Om P gl bad l f)=_
    rw [hx]; rfl
   · show FE(Nat.beq f x.1)(some(x.2.slow P gl))(Ej P gl l f)=_
    rw [hx]; rfl
   · obtain⟨k,e⟩:=x
    cases e with
    | memo tab=>exact MU bad tab cf cr args h K
    | noEsc=>exact BT bad cf cr args h K
    | idxByte=>exact zI bad cf cr args h K
    | defer fn r0 rest d=>exact Jx bad fn r0 rest d cf cr hcf args h K
    | keep rows=>exact NR bad rows cf cr args h K
def oE(P:Program)(gl:Nat->Bool)(l:nI):Prop:= ∀ x∈l,gf P gl x.1(x.2.slow P gl)
theorem Tl {l:nI}(h:oE P gl l):KH P gl(Ej P gl l):=fun f p hp=>by
 induction l with
 | nil=>cases hp
 | cons x l ih =>
  have hp:FE(Nat.beq f x.1)(some(x.2.slow P gl))(Ej P gl l f)=some p:=hp
  cases hx:Nat.beq f x.1 with
  | false=>rw [hx] at hp; exact ih(fun y hy=>h y(by simp [hy]))hp
  | true =>
   rw [hx] at hp
   obtain rfl:=Option.some.inj hp
   obtain rfl:f=x.1:=by simpa [Nat.beq_eq] using hx
   exact h x(by simp)
theorem C8:oE P gl []:=fun _ h=>by cases h
theorem eU {x:FuncId × PEntry}{l:nI}(h:gf P gl x.1(x.2.slow P gl))(hl:oE P gl l):oE P gl(x :: l):=fun y hy=>by
 rcases List.mem_cons.1 hy with rfl | hy
 · exact h
 · exact hl y hy
theorem Ki {f:FuncId}{tab:List(List Value × Value)}{l:nI}(h:CF P f tab)(hl:oE P gl l):oE P gl((f,.memo tab) :: l):=eU(Sn h)hl
structure TextOk(P:Program):Prop where
 names:bV P
 draws:∀ (f:FuncId)(fn:Func),P.funcs[f]? = some fn->cw fn=true
theorem TextOk.run(h:TextOk P){l:nI}(hl:oE P gl l)(n:Nat):CfOk P gl(aN P gl(Ej P gl l)n):=K8 h.names(Tl hl)(HC h.names h.draws)(mO h.names)n
theorem LE(ht:TextOk P){l:nI}(hl:oE P nP l){n:Nat}{f:FuncId}{args:List Value}{v:Value}(hr:qW P nP(Om P nP false l)false n f args⟨0,.nil⟩(fun u _=>D3 v u)=true)
  (hc:(args.all nQ && plain v && Nat.blt f YB && pB P f)=true):DM P f args v:=
 LG ht.names(PE false l)(ht.run hl n)hr hc
end Go.Ab
end
