/- Laws and walks that the proof leans on (part 2): AbCode; AbCall; AbFrame; AbCongr; AbOrder; AbDraw and others. No condition. -/
import Derived.Test.YtoabjjimjldcfaaGreatDoorPart1
import Derived.CallsIn
import Derived.RangeFuncLeaves
import Derived.RangeFuncNested
import Derived.Laws.Externs
import Derived.Below
import Derived.Recover
import Derived.ControlIn
section
namespace Go.Ab
open Go
section
variable {β:Inj} {P:Program} {gl:Nat->Bool}
def eu (r:Option Nat):Fence:={ Fence.wide with round:=r }
theorem qU {r:Option Nat}{n:Nat}{f:FuncId}{args:Array Value}{w:World}{R:Ending->World->Prop}(h:Calls P f args w R):CallsIn (eu r) n P f args w R:=
 (callsIn_wide (n:=n)).2 h
def Gl (gl:Nat->Bool)(β:Inj):Prop:= ∀ g,gl g=true-> ∃ sl,β g=some sl/\sl.b=g/\sl.s=0/\sl.isMap=false
theorem Gl.mono {β β':Inj}(h:Gl gl β)(hle:β.le β'):Gl gl β':=fun g hg=>let ⟨sl,h1,h2⟩:=h g hg; ⟨sl,hle _ _ h1,h2⟩
theorem LRel.getD {l l':List Value}(h:LRel β l l')(i:Nat):VRel β (l.getD i undef) (l'.getD i undef):=by
 by_cases hi:i < l.length
 ·have hi':i < l'.length:=h.1 ▸ hi
  simp only [List.getD,gE hi,gE hi',Option.getD_some]
  exact h.2 i _ _ (gE hi) (gE hi')
 ·have hi':l'.length<=i:=by rw [<-h.1]; omega
  simp only [List.getD,List.getElem?_eq_none (Nat.le_of_not_lt hi),List.getElem?_eq_none hi',Option.getD_none]
  exact .undef β
theorem wt {tm:List Value}{a:Act}(hg:Gl gl β)(ht:LRel β tm a.tmps.toList)(x:Operand):VRel β (ev gl tm x) (a.eval x):=by
 cases x with
 | tmp t=>
  simp only [ev,Act.eval]
  have:=ht.getD t
  rwa [show a.tmps.toList.getD t undef=a.tmps.getD t undef by simp [List.getD,Array.getD_eq_getD_getElem?]] at this
 | const v=>
  simp only [ev,Act.eval]
  split
  ·next h=>exact .of_plain h
  ·exact .junk v
 | global g=>
  simp only [ev,Act.eval]
  split
  ·next h=>
   obtain ⟨sl,h1,h2,h3,h4⟩:=hg g h
   have:=VRel.ptr (i:=0) h1 h4
   rwa [h2,h3] at this
  ·exact .junk _
 | func f=>
  simp only [ev,Act.eval]
  exact .func rfl rfl rfl (fun i v v' h=>by simp at h) (fun i v v' h=>by simp at h)
theorem f9 {tm:List Value}{a:Act}(ht:LRel β tm a.tmps.toList)(dst:Option Tmp){v v':Value}(hv:VRel β v v'):LRel β (dh tm dst v) (a.put dst v').tmps.toList:=by
 cases dst with
 | none=>exact ht
 | some d=>
  simp only [dh,Act.put,Array.toList_setIfInBounds]
  refine ⟨by simp [ht.1],fun i u u' h1 h2=> ?_⟩
  rw [List.getElem?_set] at h1 h2
  split at h1
  ·next he=>
   subst he
   simp only [if_true] at h2
   split at h1
   ·simp only [Option.some.injEq] at h1
    subst h1
    split at h2
    ·simp only [Option.some.injEq] at h2; subst h2; exact hv
    ·cases h2
   ·cases h1
  ·next he=>
   rw [if_neg he] at h2
   exact ht.2 i u u' h1 h2
theorem bH (a:Act)(dst:Option Tmp)(v:Value):(a.put dst v).defers=a.defers:=by cases dst <;> rfl
theorem Dx {l:List Value}{d:Nat}{b:Bool}(h:l.getD d undef = .bool b):l[d]?=some (.bool b):=by
 rw [gD] at h
 cases hd:l[d]? with
 | none=>rw [hd] at h; cases h
 | some v=>rw [hd] at h; simp only [Option.getD_some] at h; rw [h]
theorem zV {l:List Value}{d:Nat}{vs:Array Value}(h:l.getD d undef = .tuple vs):l[d]?=some (.tuple vs)\/l[d]?=none:=by
 rw [gD] at h
 cases hd:l[d]? with
 | none=>exact .inr rfl
 | some v=>rw [hd] at h; simp only [Option.getD_some] at h; rw [h]; exact .inl rfl
theorem gw {ops:Array Oper}{tm:List Value}{a:Act}(ht:LRel β tm a.tmps.toList){o:Oper}{b:Bool}(h:cm ops tm o=some b):Region.wanted o (yielded ops a.tmps)=b:=by
 unfold cm at h
 unfold Region.wanted
 split at h
 ·next hg=>rw [hg]; simpa using h
 ·next j want hg=>
  rw [hg]
  simp only [yielded]
  split at h
  ·next d hd=>
   rw [hd]
   simp only [Option.bind_some]
   split at h
   ·next b' hb=>
    obtain ⟨v',h1,h2⟩:=ht.get (Dx hb)
    rw [h2.inv_bool] at h1
    rw [Array.getElem?_toList] at h1
    rw [h1]
    simp only [Option.some.injEq] at h
    subst h
    cases b' <;> cases want <;> rfl
   ·next vs hb=>
    simp only [Option.some.injEq] at h
    subst h
    rcases zV hb with hb | hb
    ·obtain ⟨v',h1,h2⟩:=ht.get hb
     obtain ⟨vs',rfl,_⟩:=h2.inv_tuple
     rw [Array.getElem?_toList] at h1
     rw [h1]
     rfl
    ·have hd:a.tmps[d]?=none:=by
      rw [<-Array.getElem?_toList]
      exact List.getElem?_eq_none (by rw [<-ht.1]; exact List.getElem?_eq_none_iff.1 hb)
     rw [hd]
     rfl
   ·cases h
  ·cases h
def lE (β:Inj)(h:Heap)(w:World)(v:Value)(h':Heap):Ending->World->Prop:=fun e w'=> ∃ v' β',e = .returned v'/\Step β h w β' h' w'/\VRel β' v v'
def X9 (P:Program)(gl:Nat->Bool)(cf:aX):Prop:=
 ∀ f args h v h',f < YB->cf f args h=some (v,h')-> ∀ β w (args':Array Value),Sim β h w->Gl gl β->LRel β args args'.toList->
  ∃ fn,P.funcs[f]?=some fn/\((fn.body.isSome=true/\Calls P f args' w (lE β h w v h'))\/
   (∃ v' w' β',(callFunc f args').run P w = .ok (.value v') w'/\Step β h w β' h' w'/\VRel β' v v'))
def Yf (P:Program)(gl:Nat->Bool)(cf:aX):Prop:=
 ∀ k args h v h',cf (YB+k) args h=some (v,h')-> ∀ β w (args':Array Value) sl,Sim β h w->Gl gl β->LRel β args args'.toList->β k=some sl->
  ∃ fn tmps asg body,(Instr.yield sl.b args').run P w = .ok (.round sl.b fn tmps asg body) w/\ ∀ (r:Option Nat)(n:Nat),RoundIn (eu r) n P sl.b fn tmps asg body w (lE β h w v h')
structure CfOk (P:Program)(gl:Nat->Bool)(cf:aX):Prop where
 fn:X9 P gl cf
 yd:Yf P gl cf
def bT (P:Program):Prop:= ∀ (f:FuncId)(fn:Func),P.funcs[f]?=some fn->(fn.name == "runtime.NumGoroutine")=false
theorem cj (hN:bT P){f:FuncId}{fn:Func}(hf:P.funcs[f]?=some fn)(hb:fn.body.isSome=true)(args:Array Value)(w:World):(callFunc f args).run P w = .ok (.enter f args) w:=by
 have h1:=hN f fn hf
 have h2:fn.body.isNone=false:=by cases h:fn.body <;> simp_all
 simp only [callFunc,Sem.run_bind,run_program,Result.andThen_ok,hf]
 rw [h1,h2]
 rfl
theorem VRel.inv_fn {g:FuncId}{first captured:Array Value}{x:Value}(hf:VRel β (.func (.func g) first captured) x): ∃ first' captured',x = .func (.func g) first' captured'/\ARel β first first'/\ARel β captured captured':=by
 cases hf with
 | func hy ha hc ra rc=>exact ⟨_,_,rfl,⟨ha,ra⟩,⟨hc,rc⟩⟩
theorem VRel.inv_yield {k:Nat}{first captured:Array Value}{x:Value}(hf:VRel β (.func (.yield k) first captured) x): ∃ sl,β k=some sl/\x = .func (.yield sl.b) first captured:=by
 cases hf with
 | func hy ha hc ra rc=>cases hy
 | yield h ha hc=>exact ⟨_,h,rfl⟩
theorem Ho (hN:bT P){cf:aX}(hcf:CfOk P gl cf){r:Option Nat}{n:Nat}{a:Act}{h:Heap}{w:World}{o:Oper}{f:Operand}{args:Array Operand}{ats:Array TypeId}(ho:o.op = .call { callee:= .value f,args:=args,argTypes:=ats })
  {ρ:Operand->Value} {v:Value} {u:Upd} (hs:Sim β h w) (hg:Gl gl β) (hρ: ∀ x,VRel β (ρ x) (a.eval x)) (hr:rV cf (ρ f) (args.toList.map ρ) h=some (v,u)) (next:Act->World->Prop) (Q:Exit->Act->World->Prop)
  (hk: ∀ v' w' β',Step β h w β' (u.app h) w'->VRel β' v v'->next (a.put o.dst v') w'):o.uponIn (eu r) n P a next Q ((execOp a.eval o).run P w):=by
 unfold rV at hr
 have hf:=hρ f
 split at hr
 ·next g first captured hfv=>
  split at hr
  ·next hgY=>
   rw [hfv] at hf
   obtain ⟨⟨v0,h'⟩,hcall,he⟩:=Option.map_eq_some_iff.1 hr
   simp only [Prod.mk.injEq] at he
   obtain ⟨rfl,rfl⟩:=he
   obtain ⟨first',captured',hfe,hfr,hcr⟩:=hf.inv_fn
   have hargs:LRel β (first.toList++args.toList.map ρ++captured.toList) (first'++args.map a.eval++captured').toList:=by
    simp only [Array.toList_append,Array.toList_map]
    exact ((ARel.toList.1 hfr).append (LRel.map _ fun x _=>hρ x)).append (ARel.toList.1 hcr)
   have hex:(execOp a.eval o).run P w=(callFunc g (first'++args.map a.eval++captured')).run P w:=by
    unfold execOp
    simp only [ho,resolve,hfe,Deferred.ofValue,Sem.run_bind,Sem.run_pure,Result.andThen_ok,invoke]
   rw [hex]
   obtain ⟨fn,hfn,hres⟩:=hcf.fn g _ h _ h' hgY hcall β w _ hs hg hargs
   rcases hres with ⟨hb,hcalls⟩ | ⟨v',w',β',h1,h2,h3⟩
   ·rw [cj hN hfn hb]
    refine ⟨fun hd=>by simp [eu,Fence.wide] at hd,qU (hcalls.mono ?_)⟩
    rintro e w' ⟨v',β',rfl,h2,h3⟩
    exact hk v' w' β' h2 h3
   ·rw [h1]
    exact hk v' w' β' h2 h3
  ·cases hr
 ·next k first captured hfv=>
  split at hr
  ·next hz=>
   rw [hfv] at hf
   obtain ⟨⟨v0,h'⟩,hcall,he⟩:=Option.map_eq_some_iff.1 hr
   simp only [Prod.mk.injEq] at he
   obtain ⟨rfl,rfl⟩:=he
   obtain ⟨sl,hb,hfe⟩:=hf.inv_yield
   have hf0:first = #[]:=Array.eq_empty_of_size_eq_zero hz.1
   have hargs:LRel β (args.toList.map ρ) (args.map a.eval).toList:=by
    simp only [Array.toList_map]
    exact LRel.map _ fun x _=>hρ x
   have hex:(execOp a.eval o).run P w=(Instr.yield sl.b (args.map a.eval)).run P w:=by
    unfold execOp
    simp only [ho,resolve,hfe,Deferred.ofValue,Sem.run_bind,Sem.run_pure,Result.andThen_ok,invoke,hf0,Array.empty_append]
   rw [hex]
   obtain ⟨fn,tmps,asg,body,h1,h2⟩:=hcf.yd k _ h _ h' hcall β w _ sl hs hg hargs hb
   rw [h1]
   refine ⟨fun hd=>by simp [eu,Fence.wide] at hd,(h2 r (n - 1)).mono ?_⟩
   rintro e w' ⟨v',β',rfl,h3,h4⟩
   exact hk v' w' β' h3 h4
  ·cases hr
 ·cases hr
theorem Xo (hN:bT P){cf:aX}(hcf:CfOk P gl cf){r:Option Nat}{n:Nat}{tm:List Value}{a:Act}{h:Heap}{w:World}{o:Oper}{v:Value}{u:Upd}(hs:Sim β h w)(hg:Gl gl β)(ht:LRel β tm a.tmps.toList)
  (hr:aK P cf (ev gl tm) o h=some (v,u)) (next:Act->World->Prop) (Q:Exit->Act->World->Prop)
  (hk: ∀ v' w' β',Step β h w β' (u.app h) w'->VRel β' v v'->next (a.put o.dst v') w'):o.wpIn (eu r) n P a w next Q:=by
 refine ⟨fun _ _=>trivial,?_⟩
 have hρ:=wt (β:=β) hg ht
 have hnd: ∀ c,o.op≠ .defer c:=by
  intro c hc
  unfold aK at hr
  simp [aD,aH,aG,bA,hc] at hr
 rw [Oper.semAt_eq _ _ _ hnd]
 unfold aK at hr
 split at hr
 ·next v0 hp=>
  simp only [Option.some.injEq,Prod.mk.injEq] at hr
  obtain ⟨rfl,rfl⟩:=hr
  obtain ⟨v',h1,h2⟩:=mK hρ hp w
  rw [h1]
  exact hk v' w β (Step.refl hs) h2
 ·split at hr
  ·next v0 hp=>
   simp only [Option.some.injEq,Prod.mk.injEq] at hr
   obtain ⟨rfl,rfl⟩:=hr
   obtain ⟨v',h1,h2⟩:=nh hρ hs hp
   rw [h1]
   exact hk v' w β (Step.refl hs) h2
  ·split at hr
   ·next B f hp=>
    simp only [Option.some.injEq,Prod.mk.injEq] at hr
    obtain ⟨rfl,rfl⟩:=hr
    obtain ⟨v',w',h1,h2⟩:=kX hρ (w:=w) hp
    obtain ⟨β',h3,h4⟩:=h2.step hs
    rw [h1]
    exact hk v' w' β' h3 h4
   ·by_cases hc:aE o=false
    ·obtain ⟨v',w',β',h1,h2,h3⟩:=wd hρ hc hs hr
     rcases h1 with h1 | ⟨h1,rfl⟩
     ·rw [h1]
      exact hk v' w' β' h2 h3
     ·rw [h1]
      exact hk undef w' β' h2 h3
    ·unfold aE at hc
     split at hc
     ·next f args ats ho=>
      simp only [bA,ho] at hr
      exact Ho hN hcf ho hs hg hρ hr next Q hk
     ·exact absurd rfl hc
theorem I3 (hN:bT P){cf:aX}(hcf:CfOk P gl cf){r:Option Nat}{n:Nat}{ops:Array Oper}(Q:Exit->Act->World->Prop): ∀ (rest:List Oper)(i:Nat){β:Inj}{tm tm':List Value}{a:Act}{h h':Heap}{w:World},
  ops.toList.drop i=rest->dc P gl cf ops rest tm h=some (tm',h')->Sim β h w->Gl gl β->LRel β tm a.tmps.toList->
  (∀ a' w' β',Step β h w β' h' w'->LRel β' tm' a'.tmps.toList->a'.defers=a.defers->Q .normal a' w')->wpOpsIn (eu r) n P ops Q (List.range' i rest.length) a w
 | [],i,β,tm,tm',a,h,h',w,hd,hr,hs,hg,ht,hk=>by
  simp only [dc,Option.some.injEq,Prod.mk.injEq] at hr
  obtain ⟨rfl,rfl⟩:=hr
  exact hk a w β (Step.refl hs) ht rfl
 | o::rest,i,β,tm,tm',a,h,h',w,hd,hr,hs,hg,ht,hk=>by
  have ho:ops[i]?=some o:=by
   have:(ops.toList.drop i)[0]?=some o:=by rw [hd]; rfl
   rw [List.getElem?_drop] at this
   rw [<-Array.getElem?_toList]; simpa using this
  have hd':ops.toList.drop (i+1)=rest:=by rw [<-List.drop_drop,hd]; rfl
  simp only [List.length_cons,List.range'_succ,wpOpsIn,ho]
  simp only [dc] at hr
  split at hr
  ·next hw=>
   rw [gw ht hw]
   simp only [if_true]
   split at hr
   ·next v u hop=>
    refine Xo hN hcf hs hg ht hop _ _ fun v' w' β' hst hv=> ?_
    refine I3 hN hcf Q rest (i+1) hd' hr hst.sim (hg.mono hst.le) (f9 (ht.mono hst.le) o.dst hv) fun a' w2 β2 h1 h2 h3=> ?_
    exact hk a' w2 β2 (hst.trans h1) h2 (h3.trans (bH a o.dst v'))
   ·cases hr
  ·next hw=>
   rw [gw ht hw]
   simp only [Bool.false_eq_true,if_false]
   refine ⟨fun _ _=>trivial,?_⟩
   refine I3 hN hcf Q rest (i+1) hd' hr hs hg (f9 ht o.dst (.undef β)) fun a' w2 β2 h1 h2 h3=> ?_
   exact hk a' w2 β2 h1 h2 (h3.trans (bH a o.dst undef))
  ·cases hr
theorem Mk (hN:bT P){cf:aX}(hcf:CfOk P gl cf){r:Option Nat}{n:Nat}{id:Nat}{ops:Array Oper}(Q:Exit->Act->World->Prop){tm tm':List Value}{a:Act}{h h':Heap}{w:World}
  (hr:dc P gl cf ops ops.toList tm h=some (tm',h')) (hs:Sim β h w) (hg:Gl gl β) (ht:LRel β tm a.tmps.toList)
  (hk: ∀ a' w' β',Step β h w β' h' w'->LRel β' tm' a'.tmps.toList->a'.defers=a.defers->Q .normal a' w'):(Code.region id ops false).wpIn (eu r) n P Q a w:=by
 refine wpIn_region ?_
 have:=I3 hN hcf (r:=r) (n:=n) Q ops.toList 0 (by simp) hr hs hg ht hk
 rwa [<-List.range_eq_range',Array.length_toList] at this
theorem FN {F:Fence}{n:Nat}{c:Code}{Q:Exit->Act->World->Prop}(I:Nat->Act->World->Prop)(hz: ∀ a w,¬ I 0 a w)
  (round: ∀ j a w,I (j+1) a w->c.wpIn F n P (Exit.then (I j) Q) a w) {j:Nat} {a:Act} {w:World} (h₀:I j a w):(Code.loop c).wpIn F n P Q a w:=by
 intro b k cs hro hb hr
 have key: ∀ j a w,I j a w-> ∃ e a' w',Q e a' w'/\ArrivesIn (Machine.fenced P F) P (lone (b.atR a (.code c :: .inLoop c::k)) cs w) b k cs e a' w':=by
  intro j
  induction j with
  | zero=>exact fun a w h=>absurd h (hz a w)
  | succ j ih=>
   intro a w hI
   obtain ⟨e,a₁,w₁,hq,harr⟩:=round j a w hI b (.inLoop c::k) cs hro hb hr
   cases e with
   | normal=>
    obtain ⟨e₂,a₂,w₂,hq₂,harr₂⟩:=ih a₁ w₁ hq
    exact ⟨e₂,a₂,w₂,hq₂,.of_steps (StepsIn.trans harr (.one (fenced_calm hb hr rfl) stepR_inLoop)) harr₂⟩
   | exit id=>exact ⟨_,a₁,w₁,hq,.pass (x:= .inLoop c) rfl (fun _ _=> .inl (by simp)) harr⟩
   | goto l=>exact ⟨_,a₁,w₁,hq,.pass (x:= .inLoop c) rfl (fun _ _=> .inl (by simp)) harr⟩
   | ret=>exact ⟨_,a₁,w₁,hq,.pass (x:= .inLoop c) rfl (fun _ _=> .inl (by simp)) harr⟩
   | panic ch=>exact ⟨_,a₁,w₁,hq,.pass (x:= .inLoop c) rfl (fun _ _=> .inl (by simp)) harr⟩
   | outgrown=>exact ⟨_,a₁,w₁,hq,.pass (x:= .inLoop c) rfl (fun _ _=> .inl (by simp)) harr⟩
 obtain ⟨e,a',w',hq,harr⟩:=key j a w h₀
 exact ⟨e,a',w',hq,.of_steps (.one (fenced_calm hb hr rfl) stepR_loop) harr⟩
def gX (P:Program)(gl:Nat->Bool)(cf:aX)(c:Code):Prop:=
 ∀ id ops,c = .region id ops true-> ∀ β tm tm' (a:Act) h h' (w:World) (r:Option Nat) (n:Nat) (Q:Exit->Act->World->Prop),AS P gl cf ops tm h=some (tm',h')->Sim β h w->Gl gl β->LRel β tm a.tmps.toList->
  (∀ a' w' β',Step β h w β' h' w'->LRel β' tm' a'.tmps.toList->a'.defers=a.defers->Q .normal a' w')->(Code.region id ops true).wpIn (eu r) n P Q a w
inductive Part:Code->Code->Prop where
 | refl (c:Code):Part c c
 | seqL {c a b:Code} (h:Part c a):Part c (.seq a b)
 | seqR {c a b:Code} (h:Part c b):Part c (.seq a b)
 | condT {c a b:Code} {o:Operand} (h:Part c a):Part c (.cond o a b)
 | condF {c a b:Code} {o:Operand} (h:Part c b):Part c (.cond o a b)
 | block {c a:Code} {id:Nat} (h:Part c a):Part c (.block id a)
 | loop {c a:Code} (h:Part c a):Part c (.loop a)
def FL (b:Nat):Deferred:={ target:= .collected b,args:= #[] }
def Marks (w:World)(ds:List Deferred)(β:Inj)(h:Heap)(w':World)(ds':List Deferred):Prop:=
 ∃ ms:List Nat,ds'=ms.map FL++ds/\ms.Nodup/\ ∀ b∈ms,w.heap.size<=b/\b < w'.heap.size/\w'.heap[b]?=some (.deferred (some []))/\ ¬ Wr β h b
theorem Marks.same {w w':World}{ds ds':List Deferred}{h:Heap}(e:ds'=ds):Marks w ds β h w' ds':=⟨[],by simpa using e,by simp,by simp⟩
theorem Marks.trans {β₁ β₂:Inj}{w w₁ w₂:World}{ds ds₁ ds₂:List Deferred}{h₁ h₂:Heap}(m:Marks w ds β₁ h₁ w₁ ds₁)(hsz:w.heap.size<=w₁.heap.size)(st:Step β₁ h₁ w₁ β₂ h₂ w₂)(m':Marks w₁ ds₁ β₂ h₂ w₂ ds₂):Marks w ds β₂ h₂ w₂ ds₂:=by
 obtain ⟨ms,rfl,hn,hb⟩:=m
 obtain ⟨ms',rfl,hn',hb'⟩:=m'
 refine ⟨ms'++ms,by simp,List.nodup_append.2 ⟨hn',hn,fun a ha b hb2 e=> ?_⟩,fun b hm=> ?_⟩
 ·subst e
  have:=(hb' a ha).1
  have:=(hb a hb2).2.1
  omega
 ·rcases List.mem_append.1 hm with hm | hm
  ·obtain ⟨h1,h2⟩:=hb' b hm
   exact ⟨by omega,h2⟩
  ·obtain ⟨h1,h2,h3,h4⟩:=hb b hm
   exact ⟨h1,Nat.lt_of_lt_of_le h2 st.size,(st.kept b h2 h4).trans h3,fun hw=>h4 (st.back b h2 hw)⟩
theorem Jz {h:Heap}{w:World}(hs:Sim β h w)(o:Obj):Step β h w β h (w.alloc o):=by
 have hk: ∀ b,b < w.heap.size->(w.alloc o).heap[b]?=w.heap[b]?:=fun b hb=>by
  show (w.heap.push o)[b]?=_
  rw [Array.getElem?_push,if_neg (by omega)]
 refine ⟨β.le_refl,Nat.le_refl _,⟨fun k sl hk=>⟨(hs.lt k sl hk).1,?_⟩,fun k B sl h1 h2=>(hs.blk k B sl h1 h2).of_heap (hk _ (hs.lt k sl h2).2),hs.own,hs.wf⟩,?_,rfl,rfl,rfl,fun b hb _=>hk b hb,fun _ _ h=>h,fun _ _ h=> .inl h,fun _ B h _=>⟨B,h⟩⟩
 ·have:=(hs.lt k sl hk).2
  simp; omega
 ·simp
theorem Mg {h:Heap}{w:World}(hs:Sim β h w){tm:List Value}{r:Loop}(hr:r.state = .ready)(hp:r.pending=none)(ht:LRel β tm r.tmps.toList)(ok:gJ r.assign r.body=true):
  ∃ β',Step β h w β' (h.push (.loop .ready tm r.params.toList r.assign r.body ok)) (w.alloc (.loop r))/\ ∃ sl,β' h.next=some sl/\sl.b=w.heap.size:=by
 have ha:Allocs β w (.loop .ready tm r.params.toList r.assign r.body ok) (fun k=> .func (.yield k) #[] #[]) (.func (.yield w.heap.size) #[] #[]) (w.alloc (.loop r)):=by
  refine ⟨by simp,rfl,rfl,rfl,fun b hb=> ?_,⟨w.heap.size,0,0,0,0,true⟩,rfl,fun β' k hle hk=>⟨⟨rfl,r,World.alloc_heap_new w _,⟨hr,hp⟩,ht.mono hle,rfl,rfl,rfl⟩,?_⟩⟩
  ·show (w.heap.push _)[b]?=_
   rw [Array.getElem?_push,if_neg (by omega)]
  ·exact .yield (sl:=⟨w.heap.size,0,0,0,0,true⟩) hk rfl rfl
 obtain ⟨β',h1,h2⟩:=ha.step hs
 obtain ⟨sl,h3,h4⟩:=h2.inv_yield
 refine ⟨β',h1,sl,h3,?_⟩
 simp only [Value.func.injEq,Fn.yield.injEq] at h4
 exact h4.1.symm
theorem Nd {h:Heap}{w w':World}(hs:Sim β h w){k:Nat}{B₀:Blk}{sl:Slot}(hk:h.get k=some B₀)(hb:β k=some sl)(hw:B₀.wr=true)(ha:At w w' sl.b):Step β h w β (h.del k) w':=by
 have hget: ∀ k' B',(h.del k).get k'=some B'->k'≠k/\h.get k'=some B':=fun k' B' hg=>by
  rw [h.get_del] at hg
  split at hg
  ·cases hg
  ·next hne=>exact ⟨hne,hg⟩
 have hown: ∀ k' B' sl',k'≠k->h.get k'=some B'->β k'=some sl'->sl'.b≠sl.b:=fun k' B' sl' hne h1 h2=>(hs.own k k' B₀ B' sl sl' (Ne.symm hne) hk h1 hb h2 hw).symm
 refine ⟨β.le_refl,Nat.le_refl _,⟨?_,?_,?_,Heap.wf_del hs.wf k⟩,by rw [ha.size]; exact Nat.le_refl _,ha.os,ha.tape,ha.output,?_,?_,fun _ _ h=> .inl h,?_⟩
 ·intro k' sl' h1
  rw [ha.size]
  exact hs.lt k' sl' h1
 ·intro k' B' sl' h1 h2
  obtain ⟨hne,h1⟩:=hget _ _ h1
  exact (hs.blk k' B' sl' h1 h2).of_heap (ha.kept _ (hown k' B' sl' hne h1 h2))
 ·intro k₁ k₂ B₁ B₂ sl₁ sl₂ hne h1 h2 h3 h4 h5
  exact hs.own k₁ k₂ B₁ B₂ sl₁ sl₂ hne (hget _ _ h1).2 (hget _ _ h2).2 h3 h4 h5
 ·intro b hb' hn
  refine ha.kept b ?_
  rintro rfl
  exact hn ⟨k,B₀,sl,hk,hw,hb,rfl⟩
 ·rintro b hb' ⟨k',B',sl',h1,h2,h3,h4⟩
  exact ⟨k',B',sl',(hget _ _ h1).2,h2,h3,h4⟩
 ·intro k' B' h1 h2
  exact ⟨B',(hget _ _ h1).2⟩
theorem vO (w:World)(b:Nat)(o:Obj):At w (w.putObj b o) b:=⟨by simp,rfl,rfl,rfl,fun b' hb=>World.putObj_heap_other hb⟩
theorem xp {P:Program}{g:FuncId}(h:pc P g=true): ∃ fn,P.funcs[g]?=some fn/\fn.body.isSome=true:=by
 unfold pc at h
 split at h
 ·next fn hf=>exact ⟨fn,hf,h⟩
 ·cases h
theorem Fu {a b:Bool}(h:(a && b)=true):a=true:=by simp only [Bool.and_eq_true] at h; exact h.1
theorem KO {a b:Bool}(h:(a && b)=true):b=true:=by simp only [Bool.and_eq_true] at h; exact h.2
theorem tJ (hN:bT P){cf:aX}(hcf:CfOk P gl cf){r:Option Nat}{n N:Nat}: ∀ (c:Code),(r=none\/iM c=true)->(∀ d,Part d c->gX P gl cf d)-> ∀ {β:Inj}{tm tm':List Value}{a:Act}{h h':Heap}{w:World}{e:Exit}(Q:Exit->Act->World->Prop),
  az P gl cf N c tm h=some (e,tm',h')->Sim β h w->Gl gl β->LRel β tm a.tmps.toList->
  (∀ a' w' β',Step β h w β' h' w'->LRel β' tm' a'.tmps.toList->Marks w a.defers β' h' w' a'.defers->Q e a' w')->c.wpIn (eu r) n P Q a w:=by
 intro c
 induction c with
 | skip=>
  intro hnr hdr β tm tm' a h h' w e Q hr hs hg ht hk
  simp only [az,Option.some.injEq,Prod.mk.injEq] at hr
  obtain ⟨rfl,rfl,rfl⟩:=hr
  exact wpIn_skip (hk a w β (Step.refl hs) ht (.same rfl))
 | region id ops draw=>
  intro hnr hdr β tm tm' a h h' w e Q hr hs hg ht hk
  cases draw
  ·simp only [az] at hr
   obtain ⟨⟨tm2,h2⟩,hop,he⟩:=Option.map_eq_some_iff.1 hr
   simp only [Prod.mk.injEq] at he
   obtain ⟨rfl,rfl,rfl⟩:=he
   exact Mk hN hcf Q hop hs hg ht fun a' w' β' h1 h2 h3=>hk a' w' β' h1 h2 (.same h3)
  ·simp only [az] at hr
   obtain ⟨⟨tm2,h2⟩,hop,he⟩:=Option.map_eq_some_iff.1 hr
   simp only [Prod.mk.injEq] at he
   obtain ⟨rfl,rfl,rfl⟩:=he
   exact hdr _ (.refl _) id ops rfl β tm tm2 a h h2 w r n Q hop hs hg ht fun a' w' β' h1 h2 h3=>hk a' w' β' h1 h2 (.same h3)
 | seq x y ihx ihy=>
  intro hnr hdr β tm tm' a h h' w e Q hr hs hg ht hk
  simp only [az] at hr
  refine wpIn_seq ?_
  split at hr
  ·next tm1 h1 hx=>
   refine ihx (hnr.imp id Fu) (fun d hd=>hdr d (.seqL hd)) _ hx hs hg ht fun a1 w1 β1 hst1 ht1 hd1=> ?_
   exact ihy (hnr.imp id KO) (fun d hd=>hdr d (.seqR hd)) _ hr hst1.sim (hg.mono hst1.le) ht1 fun a2 w2 β2 hst2 ht2 hd2=>hk a2 w2 β2 (hst1.trans hst2) ht2 (hd1.trans hst1.size hst2 hd2)
  ·next hne=>
   refine ihx (hnr.imp id Fu) (fun d hd=>hdr d (.seqL hd)) _ hr hs hg ht fun a1 w1 β1 hst1 ht1 hd1=> ?_
   have:=hk a1 w1 β1 hst1 ht1 hd1
   cases e with
   | normal=>exact absurd hr (hne _ _)
   | _=>exact this
 | cond o x y ihx ihy=>
  intro hnr hdr β tm tm' a h h' w e Q hr hs hg ht hk
  simp only [az] at hr
  split at hr
  ·next t hev=>
   have hc:a.eval o = .bool t:=by
    have:=wt (β:=β) hg ht o
    rw [hev] at this
    exact this.inv_bool
   cases t
   ·exact wpIn_cond hc (ihy (hnr.imp id KO) (fun d hd=>hdr d (.condF hd)) Q hr hs hg ht hk)
   ·exact wpIn_cond hc (ihx (hnr.imp id Fu) (fun d hd=>hdr d (.condT hd)) Q hr hs hg ht hk)
  ·cases hr
 | block id x ih=>
  intro hnr hdr β tm tm' a h h' w e Q hr hs hg ht hk
  simp only [az] at hr
  refine wpIn_block ?_
  split at hr
  ·next id' tm1 h1 hx=>
   refine ih hnr (fun d hd=>hdr d (.block hd)) _ hx hs hg ht fun a1 w1 β1 hst1 ht1 hd1=> ?_
   split at hr
   ·next he=>
    simp only [Option.some.injEq,Prod.mk.injEq] at hr
    obtain ⟨rfl,rfl,rfl⟩:=hr
    simp only [Exit.inBlock,he,if_true]
    exact hk a1 w1 β1 hst1 ht1 hd1
   ·next he=>
    simp only [Option.some.injEq,Prod.mk.injEq] at hr
    obtain ⟨rfl,rfl,rfl⟩:=hr
    simp only [Exit.inBlock,he,if_false]
    exact hk a1 w1 β1 hst1 ht1 hd1
  ·next hne=>
   refine ih hnr (fun d hd=>hdr d (.block hd)) _ hr hs hg ht fun a1 w1 β1 hst1 ht1 hd1=> ?_
   have:=hk a1 w1 β1 hst1 ht1 hd1
   cases e with
   | exit id'=>exact absurd hr (hne _ _ _)
   | _=>exact this
 | loop x ih=>
  intro hnr hdr β tm tm' a h h' w e Q hr hs hg ht hk
  simp only [az] at hr
  refine FN (fun j a1 w1=> ∃ β1 tm1 h1,Step β h w β1 h1 w1/\LRel β1 tm1 a1.tmps.toList/\Marks w a.defers β1 h1 w1 a1.defers/\yj (az P gl cf N x) j tm1 h1=some (e,tm',h')) ?_ ?_ (j:=N) ⟨β,tm,h,Step.refl hs,ht,.same rfl,hr⟩
  ·rintro a1 w1 ⟨β1,tm1,h1,_,_,_,h5⟩
   simp [yj] at h5
  ·rintro j a1 w1 ⟨β1,tm1,h1,hst1,ht1,hd1,hit⟩
   simp only [yj] at hit
   split at hit
   ·next tm2 h2 hx=>
    refine ih hnr (fun d hd=>hdr d (.loop hd)) _ hx hst1.sim (hg.mono hst1.le) ht1 fun a2 w2 β2 hst2 ht2 hd2=> ?_
    exact ⟨β2,tm2,h2,hst1.trans hst2,ht2,hd1.trans hst1.size hst2 hd2,hit⟩
   ·next hne=>
    refine ih hnr (fun d hd=>hdr d (.loop hd)) _ hit hst1.sim (hg.mono hst1.le) ht1 fun a2 w2 β2 hst2 ht2 hd2=> ?_
    have:=hk a2 w2 β2 (hst1.trans hst2) ht2 (hd1.trans hst1.size hst2 hd2)
    cases e with
    | normal=>exact absurd hit (hne _ _)
    | _=>exact this
 | exit id=>
  intro hnr hdr β tm tm' a h h' w e Q hr hs hg ht hk
  simp only [az,Option.some.injEq,Prod.mk.injEq] at hr
  obtain ⟨rfl,rfl,rfl⟩:=hr
  exact wpIn_exit (hk a w β (Step.refl hs) ht (.same rfl))
 | ret=>
  intro hnr hdr β tm tm' a h h' w e Q hr hs hg ht hk
  simp only [az,Option.some.injEq,Prod.mk.injEq] at hr
  obtain ⟨rfl,rfl,rfl⟩:=hr
  exact wpIn_ret (hk a w β (Step.refl hs) ht (.same rfl))
 | label l=>
  intro hnr hdr β tm tm' a h h' w e Q hr hs hg ht hk
  simp only [az,Option.some.injEq,Prod.mk.injEq] at hr
  obtain ⟨rfl,rfl,rfl⟩:=hr
  exact wpIn_label (hk a w β (Step.refl hs) ht (.same rfl))
 | rangeFunc f ps x y _ _=>
  intro hnr hdr β tm tm' a h h' w e Q hr hs hg ht hk
  rcases hnr with rfl | hnr
  ·simp only [az] at hr
   split at hr
   ·next g first captured hfv=>
    split at hr
    ·next hok=>
     split at hr
     ·next hgb=>
      split at hr
      ·next v2 h2 hcall=>
       obtain ⟨e2,hend,he⟩:=Option.map_eq_some_iff.1 hr
       simp only [Prod.mk.injEq] at he
       obtain ⟨rfl,rfl,rfl⟩:=he
       refine wpIn_rangeFunc fun fnI hFn=> ?_
       have hs0:Step β h w β h (w.alloc (.deferred (some []))):=Jz hs _
       obtain ⟨β1,hst1,sl,hsl,hslb⟩:=Mg hs0.sim (tm:=tm) (r:={ state:= .ready,pending:=none,fn:=fnI,tmps:=a.tmps,params:=ps,assign:=x,body:=y,defers:=w.heap.size }) rfl rfl ht hok
       have hst01:=hs0.trans hst1
       have hf:=wt (β:=β) hg ht f
       rw [hfv] at hf
       obtain ⟨first',captured',hfe,hfr,hcr⟩:=hf.inv_fn
       have hslb':sl.b=w.heap.size+1:=by rw [hslb]; simp
       have hargs:LRel β1 (first.toList++[Value.func (.yield h.next) #[] #[]]++captured.toList) (first' ++ #[Value.func (.yield (w.heap.size+1)) #[] #[]]++captured').toList:=by
        simp only [Array.toList_append]
        refine (((ARel.toList.1 hfr).mono hst01.le).append ?_).append ((ARel.toList.1 hcr).mono hst01.le)
        exact .cons (by have:=VRel.yield hsl (a:= #[]) (c:= #[]) rfl rfl; rwa [hslb'] at this) (.nil _)
       obtain ⟨fn,hfn,hres⟩:=hcf.fn g _ _ _ h2 hgb.1 hcall β1 _ _ hst1.sim (hg.mono hst01.le) hargs
       obtain ⟨fn2,hfn2,hbody⟩:=xp hgb.2
       rw [hfn2] at hfn
       obtain rfl:=oI hfn
       have hent:=cj hN hfn2 hbody (first' ++ #[Value.func (.yield (w.heap.size+1)) #[] #[]]++captured')
       have hcalls:Calls P g (first' ++ #[Value.func (.yield (w.heap.size+1)) #[] #[]]++captured') ((w.alloc (.deferred (some []))).alloc (.loop { state:= .ready,pending:=none,fn:=fnI,tmps:=a.tmps,params:=ps,assign:=x,body:=y,defers:=w.heap.size })) (lE β1 (h.push (.loop .ready tm ps.toList x y hok)) ((w.alloc (.deferred (some []))).alloc (.loop { state:= .ready,pending:=none,fn:=fnI,tmps:=a.tmps,params:=ps,assign:=x,body:=y,defers:=w.heap.size })) v2 h2):=by
        rcases hres with ⟨_,hc⟩ | ⟨v',w',β',hc,_⟩
        ·exact hc
        ·rw [hent] at hc; cases hc
       have henter:(Instr.enterLoop fnI a.tmps ps x y (eu none).round).run P w = .ok (w.heap.size+1,[FL w.heap.size]) ((w.alloc (.deferred (some []))).alloc (.loop { state:= .ready,pending:=none,fn:=fnI,tmps:=a.tmps,params:=ps,assign:=x,body:=y,defers:=w.heap.size })):=run_enterLoop_outer fnI a.tmps ps x y
       have hresv:(resolve a.eval (rangeCall f (w.heap.size+1)) 0).run P ((w.alloc (.deferred (some []))).alloc (.loop { state:= .ready,pending:=none,fn:=fnI,tmps:=a.tmps,params:=ps,assign:=x,body:=y,defers:=w.heap.size })) = .ok { target:= .fn (.func g) captured',args:=first' ++ #[Value.func (.yield (w.heap.size+1)) #[] #[]] } ((w.alloc (.deferred (some []))).alloc (.loop { state:= .ready,pending:=none,fn:=fnI,tmps:=a.tmps,params:=ps,assign:=x,body:=y,defers:=w.heap.size })):=by
        have he:resolve a.eval (rangeCall f (w.heap.size+1)) 0=Deferred.ofValue (a.eval f) #[Value.func (.yield (w.heap.size+1)) #[] #[]]:=by
         unfold resolve rangeCall
         simp only [List.map_toArray,List.map_cons,List.map_nil]
         rfl
        rw [he,hfe]
        rfl
       refine ⟨_,_,_,_,_,g,_,_,henter,hresv,fun _ _=>trivial,hent _,fun hd=>by simp [eu,Fence.wide] at hd,qU (hcalls.mono ?_)⟩
       rintro e' w3 ⟨v',β3,rfl,hst3,hv3⟩
       cases hB:h2.get h.next with
       | none=>rw [hB] at hend; cases hend
       | some B=>
        rw [hB] at hend
        have hsl3:=hst3.le _ _ hsl
        cases B with
        | cells _ _ _ _=>cases hend
        | map _=>cases hend
        | loop st tm2 ps2 asg2 body2 ok2=>
         obtain ⟨_,r,hr1,hr2,_⟩:=hst3.sim.blk _ _ _ hB hsl3
         rw [hslb'] at hr1
         have hmk:Marks w a.defers β3 (h2.del h.next) (w3.putObj (w.heap.size+1) (.loop { r with state:= .exhausted })) ([FL w.heap.size]++a.defers):=by
          have hnw: ¬ Wr β1 (h.push (.loop .ready tm ps.toList x y hok)) w.heap.size:=fun hw=>by
           have:=hst1.back w.heap.size (by simp) hw
           obtain ⟨k,B,sl0,_,_,h3,h4⟩:=this
           have:=(hs.lt k sl0 h3).2
           omega
          have hsz:w.heap.size < ((w.alloc (.deferred (some []))).alloc (.loop { state:= .ready,pending:=none,fn:=fnI,tmps:=a.tmps,params:=ps,assign:=x,body:=y,defers:=w.heap.size })).heap.size:=by simp; omega
          refine ⟨[w.heap.size],rfl,by simp,fun b hb=> ?_⟩
          obtain rfl:=List.mem_singleton.1 hb
          refine ⟨Nat.le_refl _,?_,?_,fun hw=> ?_⟩
          ·rw [World.putObj_size]; exact Nat.lt_of_lt_of_le hsz hst3.size
          ·rw [World.putObj_heap_other (by omega),hst3.kept _ hsz hnw]
           show ((w.heap.push _).push _)[w.heap.size]?=_
           rw [Array.getElem?_push,if_neg (by simp),Array.getElem?_push,if_pos rfl]
          ·obtain ⟨k,B,sl0,h1,h2',h3,h4⟩:=hw
           refine hnw (hst3.back _ hsz ⟨k,B,sl0,?_,h2',h3,h4⟩)
           rw [Heap.get_del] at h1
           split at h1
           ·cases h1
           ·exact h1
         have hdrop:Step β3 h2 w3 β3 (h2.del h.next) (w3.putObj (w.heap.size+1) (.loop { r with state:= .exhausted })):=Nd hst3.sim hB hsl3 rfl (by rw [hslb']; exact vO _ _ _)
         have hall:=(hst01.trans hst3).trans hdrop
         have htm:=ht.mono (hst01.trans hst3).le
         have hfin:=hk { a with defers:=[FL w.heap.size]++a.defers } _ β3 hall htm hmk
         have hnb:r.state≠ .busy:=by
          cases st <;> simp only [Jh] at hr2 <;> first | (rw [hr2.1]; simp; done) | cases hend
         refine ⟨r.pending,_,run_endLoop hr1 hnb,?_⟩
         cases st with
         | ready=>
          obtain rfl:=oI hend
          have hp:r.pending=none:=hr2.2
          rw [hp] at hfin ⊢
          exact hfin
         | busy=>cases hend
         | ret=>
          obtain rfl:=oI hend
          have hp:r.pending=some .ret:=hr2.2
          rw [hp] at hfin ⊢
          exact wpIn_ret hfin
         | exit id=>
          obtain rfl:=oI hend
          have hp:r.pending=some (.exit id):=hr2.2
          rw [hp] at hfin ⊢
          exact wpIn_exit hfin
      ·cases hr
     ·cases hr
    ·cases hr
   ·cases hr
  ·cases hnr
 | scope x _=>intro hnr hdr β tm tm' a h h' w e Q hr; simp [az] at hr
 | goto l=>intro hnr hdr β tm tm' a h h' w e Q hr; simp [az] at hr
 | refuse s=>intro hnr hdr β tm tm' a h h' w e Q hr; simp [az] at hr
end
section
variable {β:Inj} {P:Program} {gl:Nat->Bool}
def G3 (tmps:Array Value):ResultVar->Sem Value
 | .tmp t=>pure (tmps.getD t undef)
 | .cell x t=>do loadVar t (<-asAddr (tmps.getD x undef))
theorem JD (fn:Func)(tmps:Array Value):results fn tmps=(do let vs <-fn.results.mapM (G3 tmps); pure (if h:vs.size=1 then vs[0] else .tuple vs)):=by
 unfold results
 congr 1
theorem na {a:Act}{h:Heap}{w:World}(hs:Sim β h w){tm:List Value}(ht:LRel β tm a.tmps.toList): ∀ (l:List ResultVar){vs:List Value},be P tm h l=some vs->
  ∃ vs',(l.mapM (G3 a.tmps)).run P w = .ok vs' w/\LRel β vs vs'
 | [],vs,h=>by simp only [be,Option.some.injEq] at h; subst h; exact ⟨[],by simp,.nil β⟩
 | .tmp t::l,vs,hr=>by
  simp only [be] at hr
  obtain ⟨vs0,h0,rfl⟩:=Option.map_eq_some_iff.1 hr
  obtain ⟨vs',h1,h2⟩:=na hs ht l h0
  have hv:=ht.getD t
  rw [show a.tmps.toList.getD t undef=a.tmps.getD t undef by simp [List.getD,Array.getD_eq_getD_getElem?]] at hv
  refine ⟨a.tmps.getD t undef::vs',?_,.cons hv h2⟩
  rw [List.mapM_cons]
  simp only [Sem.run_bind,G3,Sem.run_pure,Result.andThen_ok,h1]
 | .cell x t::l,vs,hr=>by
  simp only [be] at hr
  split at hr
  ·next v hl=>
   obtain ⟨vs0,h0,rfl⟩:=Option.map_eq_some_iff.1 hr
   obtain ⟨vs',h1,h2⟩:=na hs ht l h0
   have hv:=ht.getD x
   rw [show a.tmps.toList.getD x undef=a.tmps.getD x undef by simp [List.getD,Array.getD_eq_getD_getElem?]] at hv
   obtain ⟨ad,he,v',hrun,hvr⟩:=Hc (P:=P) hs hl hv
   refine ⟨v'::vs',?_,.cons hvr h2⟩
   rw [List.mapM_cons]
   simp only [Sem.run_bind,G3,he,asAddr,Sem.run_pure,Result.andThen_ok,hrun,h1]
  ·cases hr
theorem F8 {fn:Func}{a:Act}{h:Heap}{w:World}(hs:Sim β h w){tm:List Value}(ht:LRel β tm a.tmps.toList){vs:List Value}(hr:be P tm h fn.results.toList=some vs):
  ∃ v',(results fn a.tmps).run P w = .ok v' w/\VRel β (aI vs) v':=by
 obtain ⟨vs',h1,h2⟩:=na (P:=P) hs ht fn.results.toList hr
 have hm:(fn.results.mapM (G3 a.tmps)).run P w = .ok vs'.toArray w:=by
  rw [Array.mapM_eq_mapM_toList]
  simp only [Sem.run_map,h1,Result.andThen_ok]
 refine ⟨if h:vs'.toArray.size=1 then vs'.toArray[0] else .tuple vs'.toArray,?_,?_⟩
 ·rw [JD]
  simp only [Sem.run_bind,hm,Result.andThen_ok,Sem.run_pure]
 ·match vs,vs',h2 with
  | [],vs',h2=>rw [h2.inv_nil]; exact .tuple rfl fun i v v' h=>by simp at h
  | [v],vs',h2=>
   obtain ⟨v',r,rfl,hv,hr⟩:=h2.inv_cons
   rw [hr.inv_nil]
   exact hv
  | v::u::vs,vs',h2=>
   have hl:=h2.1
   have hne: ¬ vs'.toArray.size=1:=by simp only [List.size_toArray]; simp only [List.length_cons] at hl; omega
   rw [dif_neg hne]
   exact .tuple (by simpa using hl) fun i x x' h3 h4=>h2.2 i x x' (by simpa using h3) (by simpa using h4)
theorem BRel.not_deferred {B:Blk}{sl:Slot}{w:World}(h:BRel β B sl w){d:Option (List Deferred)}(hd:w.heap[sl.b]?=some (.deferred d)):False:=by
 cases B with
 | cells cs t sz wr=>obtain ⟨_,_,_,cs',fr,h4,_⟩:=h; rw [hd] at h4; cases h4
 | map es=>obtain ⟨_,es',clock,h2,_⟩:=h; rw [hd] at h2; cases h2
 | loop st tm ps asg body ok=>obtain ⟨_,r,h2,_⟩:=h; rw [hd] at h2; cases h2
theorem Dp {β₀:Inj}{h₀ h:Heap}{w₀ w:World}(st:Step β₀ h₀ w₀ β h w){b:Nat}{d d':Option (List Deferred)}(hb:w₀.heap.size<=b)(hd:w.heap[b]?=some (.deferred d)):Step β₀ h₀ w₀ β h (w.putObj b (.deferred d')):=by
 refine ⟨st.le,st.next,⟨fun k sl hk=> ?_,fun k B sl h1 h2=> ?_,st.sim.own,st.sim.wf⟩,?_,st.os,st.tape,st.output,fun b' hb' hw=> ?_,st.back,st.fresh,st.keys⟩
 ·rw [World.putObj_size]; exact st.sim.lt k sl hk
 ·have hB:=st.sim.blk k B sl h1 h2
  refine hB.of_heap (World.putObj_heap_other fun e=> ?_)
  rw [<-e] at hd
  exact hB.not_deferred hd
 ·rw [World.putObj_size]; exact st.size
 ·rw [World.putObj_heap_other (by omega)]
  exact st.kept b' hb' hw
theorem mL {F:Fence}{n:Nat}{fn:Func}{β₀ β':Inj}{h₀ h':Heap}{w₀:World}{tm:List Value}{tmps:Array Value}{vs:List Value}(hres:be P tm h' fn.results.toList=some vs)(ht:LRel β' tm tmps.toList):
  ∀ (ms:List Nat)(w':World),ms.Nodup->(∀ b∈ms,w₀.heap.size<=b/\w'.heap[b]?=some (.deferred (some [])))->Step β₀ h₀ w₀ β' h' w'->LeavesInM F n P fn tmps (lE β₀ h₀ w₀ (aI vs) h') (ms.map FL) .returning w'
 | [],w',_,_,st=>by
  obtain ⟨v',h1,h2⟩:=F8 (P:=P) (fn:=fn) (a:={ tmps:=tmps,defers:=[] }) st.sim ht hres
  exact ⟨v',h1,v',β',rfl,st,h2⟩
 | b::ms,w',hn,hb,st=>by
  obtain ⟨h1,h2⟩:=hb b (by simp)
  obtain ⟨hn1,hn2⟩:=List.nodup_cons.1 hn
  refine ⟨by simp,.inl ⟨b,_,rfl,run_takeDeferred h2,?_⟩⟩
  refine mL hres ht ms _ hn2 (fun b' hm=> ?_) (Dp st h1 h2)
  obtain ⟨h3,h4⟩:=hb b' (by simp [hm])
  exact ⟨h3,by rw [World.putObj_heap_other (by rintro rfl; exact hn1 hm)]; exact h4⟩
def fE (P:Program)(gl:Nat->Bool)(f:FuncId)(p:my):Prop:=
 ∀ cf,CfOk P gl cf-> ∀ args h v h',p cf args h=some (v,h')-> ∀ β w (args':Array Value),Sim β h w->Gl gl β->LRel β args args'.toList->
  ∃ fn,P.funcs[f]?=some fn/\((fn.body.isSome=true/\Calls P f args' w (lE β h w v h'))\/
   (∃ v' w' β',(callFunc f args').run P w = .ok (.value v') w'/\Step β h w β' h' w'/\VRel β' v v'))
def Lm (P:Program)(gl:Nat->Bool)(pr:FuncId->Option my):Prop:= ∀ f p,pr f=some p->fE P gl f p
def HQ (P:Program)(gl:Nat->Bool):Prop:= ∀ cf,CfOk P gl cf-> ∀ (f:FuncId)(fn:Func)(c d:Code),P.funcs[f]?=some fn->fn.body=some c->Part d c->gX P gl cf d
theorem Bc (hN:bT P){cf:aX}(hcf:CfOk P gl cf){N:Nat}{f:FuncId}{fn:Func}{c:Code}(hf:P.funcs[f]?=some fn)(hb:fn.body=some c)(hd: ∀ d,Part d c->gX P gl cf d)
  {args:List Value} {h h':Heap} {tm:List Value} {e:Exit} {vs:List Value} (hr:az P gl cf N c (args++List.replicate (fn.ntmps - args.length) undef) h=some (e,tm,h')) (he:e = .normal\/e = .ret)
  (hres:be P tm h' fn.results.toList=some vs) {w:World} {args':Array Value} (hs:Sim β h w) (hg:Gl gl β) (ha:LRel β args args'.toList):
  Calls P f args' w (lE β h w (aI vs) h'):=by
 refine (callsIn_wide (n:=0)).1 (callsIn_of_wp_marks (F:=Fence.wide) hf hb trivial ?_)
 have hrep: ∀ k,LRel β (List.replicate k undef) (List.replicate k undef):=fun k=>⟨rfl,fun i v v' h1 h2=>by
  rw [List.getElem?_replicate] at h1 h2
  split at h1
  ·next hi=>rw [if_pos hi] at h2; obtain rfl:=oI h1; obtain rfl:=oI h2; exact .undef β
  ·cases h1⟩
 have ht:LRel β (args++List.replicate (fn.ntmps - args.length) undef) (args'++Array.replicate (fn.ntmps - args'.size) undef).toList:=by
  have:args'.size=args.length:=by rw [ha.1]; simp
  rw [this]
  simp only [Array.toList_append,Array.toList_replicate]
  exact ha.append (hrep _)
 refine tJ (r:=none) hN hcf c (.inl rfl) hd _ hr hs hg ht fun a w' β' hst ht' hd'=> ?_
 obtain ⟨ms,hms,hnd,hb'⟩:=hd'
 simp only [List.append_nil] at hms
 have key:=mL (P:=P) (F:=Fence.wide) (n:=0) (fn:=fn) hres ht' ms w' hnd (fun b hm=>⟨(hb' b hm).1,(hb' b hm).2.2.1⟩) hst
 rw [<-hms] at key
 rcases he with rfl | rfl
 ·exact key
 ·exact key
theorem zF: ∀ (l:List (Tmp×Value))(T:Array Value),(l.foldl (fun tmps (p:Tmp×Value)=>tmps.setIfInBounds p.1 p.2) T).toList=oM T.toList l
 | [],_=>rfl
 | p::l,T=>by
  simp only [List.foldl_cons,oM]
  rw [zF l,oM,Array.toList_setIfInBounds]
theorem LRel.set {l l':List Value}(h:LRel β l l')(i:Nat){v v':Value}(hv:VRel β v v'):LRel β (l.set i v) (l'.set i v'):=by
 refine ⟨by simp [h.1],fun j u u' h1 h2=> ?_⟩
 rw [List.getElem?_set] at h1 h2
 split at h1
 ·next he=>
  rw [if_pos he] at h2
  split at h1
  ·split at h2
   ·obtain rfl:=oI h1; obtain rfl:=oI h2; exact hv
   ·cases h2
  ·cases h1
 ·next he=>rw [if_neg he] at h2; exact h.2 j u u' h1 h2
theorem Dg: ∀ (ps:List Tmp){tm tm' args args':List Value},LRel β tm tm'->LRel β args args'->LRel β (oM tm (ps.zip args)) (oM tm' (ps.zip args'))
 | [],_,_,_,_,ht,_=>by simpa [oM] using ht
 | p::ps,_,_,[],_,ht,ha=>by rw [ha.inv_nil]; simpa [oM] using ht
 | p::ps,_,_,v::vs,_,ht,ha=>by
  obtain ⟨v',r',rfl,hv,hrr⟩:=ha.inv_cons
  exact Dg ps (ht.set p hv) hrr
theorem eM {cf:aX}(hD: ∀ (d c:Code),Part d c->aV c=true->gX P gl cf d){c:Code}(h:aV c=true): ∀ d,Part d c->gX P gl cf d:=fun d hd=>hD d c hd h
theorem OU (hN:bT P){cf:aX}(hcf:CfOk P gl cf)(hD: ∀ (d c:Code),Part d c->aV c=true->gX P gl cf d){N k:Nat}{args:List Value}{h h':Heap}{v:Value}(hr:mA (az P gl cf N) k args h=some (v,h')){w:World}{args':Array Value}{sl:Slot}
  (hs:Sim β h w) (hg:Gl gl β) (ha:LRel β args args'.toList) (hb:β k=some sl):
  ∃ fn tmps asg body,(Instr.yield sl.b args').run P w = .ok (.round sl.b fn tmps asg body) w/\ ∀ (r:Option Nat)(n:Nat),RoundIn (eu r) n P sl.b fn tmps asg body w (lE β h w v h'):=by
 unfold mA at hr
 split at hr
 ·next tm ps asg body ok hk=>
  split at hr
  ·next hlen=>
   split at hr
   ·next tm1 h1 hasg=>
    split at hr
    ·next tm' ps' asg' body' ok' hk1=>
     split at hr
     ·next e x h2 hbody=>
      split at hr
      ·next st2 tm2 ps2 asg2 body2 ok2 b st hk2 hlst=>
       simp only [Option.some.injEq,Prod.mk.injEq] at hr
       obtain ⟨rfl,rfl⟩:=hr
       obtain ⟨_,lr,hr1,hr2,htm,hps,rfl,rfl⟩:=hs.blk _ _ _ hk hb
       have hsz:args'.size=lr.params.size:=by
        have:=ha.1
        rw [<-Array.length_toList,<-this,hlen,<-hps]; simp
       refine ⟨lr.fn,_,lr.assign,lr.body,run_yield hr1 hsz,fun r n=> ?_⟩
       simp only [gJ,Bool.and_eq_true] at ok
       obtain ⟨⟨⟨ok1,ok2'⟩,ok3⟩,ok4⟩:=ok
       have hset:LRel β (oM tm (ps.zip args)) ((lr.params.zip args').foldl (fun tmps (t,a)=>tmps.setIfInBounds t a) lr.tmps).toList:=by
        rw [<-Array.foldl_toList,Array.toList_zip,hps]
        have:=Dg ps htm ha
        rw [<-zF (ps.zip args'.toList) lr.tmps] at this
        exact this
       refine roundIn_of_wpIn trivial ?_
       refine tJ (r:=some sl.b) hN hcf lr.assign (.inr ok3) (eM hD ok1) _ hasg hs hg (a:={ tmps:=_,defers:=[] }) hset fun a1 w1 β1 hst1 ht1 _=> ?_
       have hb1:=hst1.le _ _ hb
       obtain ⟨_,lr1,hr11,hr12,htm1,hps1,hasg1,hbody1⟩:=hst1.sim.blk _ _ _ hk1 hb1
       have hst2:Step β1 h1 w1 β1 (h1.set k (.loop .busy tm' ps' asg' body' ok')) (w1.putObj sl.b (.loop { lr1 with state:= .busy })):=
        Step.at_ hst1.sim hk1 hb1 rfl (vO _ _ _) ⟨by assumption,{ lr1 with state:= .busy },World.putObj_heap_same (hst1.sim.lt _ _ hb1).2,rfl,htm1,hps1,hasg1,hbody1⟩
       refine ⟨_,run_beginRound hr11 hr12.1,?_⟩
       have hst12:=hst1.trans hst2
       refine tJ (r:=some sl.b) hN hcf lr.body (.inr ok4) (eM hD ok2') _ hbody hst2.sim (hg.mono hst12.le) ht1 fun a2 w2 β2 hst3 ht2 _=> ?_
       have hb2:=hst3.le _ _ hb1
       obtain ⟨hmap,lr2,hr21,hr22,htm2,hps2,hasg2,hbody2⟩:=hst3.sim.blk _ _ _ hk2 hb2
       have hst13:=hst12.trans hst3
       have fin: ∀ jump:Option Code,b=jump.isNone->Jh st (if jump.isNone then .ready else .done) jump->
         ∃ v w',(Instr.endRound sl.b jump).run P w2 = .ok v w'/\lE β h w (.bool b) (h2.set k (.loop st tm2 ps2 asg2 body2 ok2)) (.returned v) w':=fun jump hj hst=>by
        refine ⟨_,_,run_endRound jump hr21,.bool jump.isNone,β2,rfl,hst13.trans (Step.at_ hst3.sim hk2 hb2 rfl (vO _ _ _) ⟨hmap,_,World.putObj_heap_same (hst3.sim.lt _ _ hb2).2,hst,htm2,hps2,hasg2,hbody2⟩),?_⟩
        rw [hj]; exact .bool _
       cases e with
       | normal=>simp only [HE,Option.some.injEq,Prod.mk.injEq] at hlst; obtain ⟨rfl,rfl⟩:=hlst; exact fin none rfl ⟨rfl,rfl⟩
       | ret=>simp only [HE,Option.some.injEq,Prod.mk.injEq] at hlst; obtain ⟨rfl,rfl⟩:=hlst; exact fin (some .ret) rfl ⟨rfl,rfl⟩
       | exit id=>simp only [HE,Option.some.injEq,Prod.mk.injEq] at hlst; obtain ⟨rfl,rfl⟩:=hlst; exact fin (some (.exit id)) rfl ⟨rfl,rfl⟩
       | _=>cases hlst
      ·cases hr
     ·cases hr
    ·cases hr
   ·cases hr
  ·cases hr
 ·cases hr
def C6 (P:Program)(gl:Nat->Bool):Prop:= ∀ cf,CfOk P gl cf-> ∀ (d c:Code),Part d c->aV c=true->gX P gl cf d
theorem K1 (hN:bT P){pr:FuncId->Option my}(hp:Lm P gl pr)(hD:HQ P gl)(hT:C6 P gl): ∀ n,CfOk P gl (aM P gl pr n)
 | 0=>⟨fun f args h v h' _ hr=>by simp [aM] at hr,fun k args h v h' hr=>by simp [aM] at hr⟩
 | n+1=>by
  have ih:=K1 hN hp hD hT n
  refine ⟨fun f args h v h' hfY hr β w args' hs hg ha=> ?_,fun k args h v h' hr β w args' sl hs hg ha hb=> ?_⟩
  ·simp only [aM] at hr
   rw [if_neg (by omega)] at hr
   split at hr
   ·next p hpf=>exact hp f p hpf _ ih args h v h' hr β w args' hs hg ha
   ·split at hr
    ·next fn hf=>
     split at hr
     ·next c hb=>
      refine ⟨fn,hf,.inl ⟨by simp [hb],?_⟩⟩
      split at hr
      ·next tm h2 hcr=>
       obtain ⟨vs,hres,he⟩:=Option.map_eq_some_iff.1 hr
       simp only [Prod.mk.injEq] at he
       obtain ⟨rfl,rfl⟩:=he
       exact Bc hN ih hf hb (fun d hd=>hD _ ih f fn c d hf hb hd) hcr (.inl rfl) hres hs hg ha
      ·next tm h2 hcr=>
       obtain ⟨vs,hres,he⟩:=Option.map_eq_some_iff.1 hr
       simp only [Prod.mk.injEq] at he
       obtain ⟨rfl,rfl⟩:=he
       exact Bc hN ih hf hb (fun d hd=>hD _ ih f fn c d hf hb hd) hcr (.inr rfl) hres hs hg ha
      ·cases hr
     ·cases hr
    ·cases hr
  ·simp only [aM] at hr
   rw [if_pos (by omega),Nat.add_sub_cancel_left] at hr
   exact OU hN ih (hT _ ih) hr hs hg ha hb
end
section
variable {β:Inj} {P:Program}
structure Same (h h':Heap):Prop where
 next:h.next=h'.next
 get: ∀ k,h.get k=h'.get k
theorem Same.refl (h:Heap):Same h h:=⟨rfl,fun _=>rfl⟩
theorem Same.symm {h h':Heap}(e:Same h h'):Same h' h:=⟨e.next.symm,fun k=>(e.get k).symm⟩
theorem Sim.same {h h':Heap}{w:World}(e:Same h h')(hs:Sim β h w):Sim β h' w:=
 ⟨fun k sl hk=>by rw [<-e.next]; exact hs.lt k sl hk,fun k B sl h1 h2=>hs.blk k B sl (by rw [e.get]; exact h1) h2,
  fun k k' B B' sl sl' hne h1 h2 h3 h4 h5=>hs.own k k' B B' sl sl' hne (by rw [e.get]; exact h1) (by rw [e.get]; exact h2) h3 h4 h5,
  fun k B hk=>by rw [<-e.next]; exact hs.wf k B (by rw [e.get]; exact hk)⟩
theorem Wr.same {h h':Heap}(e:Same h h'){b:Nat}:Wr β h b->Wr β h' b:=fun ⟨k,B,sl,h1,h2⟩=>⟨k,B,sl,by rw [<-e.get]; exact h1,h2⟩
theorem Step.same {h h₂ h' h₂':Heap}{β':Inj}{w w':World}(e:Same h h₂)(e':Same h' h₂')(s:Step β h w β' h' w'):Step β h₂ w β' h₂' w':=
 ⟨s.le,by rw [<-e.next,<-e'.next]; exact s.next,s.sim.same e',s.size,s.os,s.tape,s.output,fun b hb hn=>s.kept b hb fun hw=>hn (hw.same e),fun b hb hw=>(s.back b hb (hw.same e'.symm)).same e,
  fun k sl hk=>(s.fresh k sl hk).imp id fun ⟨h1,h2⟩=>⟨by rw [<-e.next]; exact h1,h2.imp id fun hw=>hw.same e⟩,
  fun k B hk hlt=>let ⟨B₀,h0⟩:=s.keys k B (by rw [e'.get]; exact hk) (by rw [e.next]; exact hlt); ⟨B₀,by rw [<-e.get]; exact h0⟩⟩
theorem Sim.sub {V G:Heap}{w:World}(hs:Sim β V w)(hn:G.next=V.next)(hg: ∀ k B,G.get k=some B->V.get k=some B):Sim β G w:=
 ⟨fun k sl hk=>by rw [hn]; exact hs.lt k sl hk,fun k B sl h1 h2=>hs.blk k B sl (hg k B h1) h2,fun k k' B B' sl sl' hne h1 h2 h3 h4 h5=>hs.own k k' B B' sl sl' hne (hg k B h1) (hg k' B' h2) h3 h4 h5,
  fun k B hk=>by rw [hn]; exact hs.wf k B (hg k B hk)⟩
theorem Step.frame {G G' V V':Heap}{β':Inj}{w w':World}(s:Step β G w β' G' w')(hv:Sim β V w)(hn:V.next=G.next)(hn':V'.next=G'.next)(R:Nat->Blk->Prop)
  (hR: ∀ k B,R k B->k < G.next/\G.get k=none) (eV: ∀ k B,V.get k=some B↔G.get k=some B\/R k B) (eV': ∀ k B,V'.get k=some B↔G'.get k=some B\/R k B):Step β V w β' V' w':=by
 have hold: ∀ k sl,k < G.next->β' k=some sl->β k=some sl:=fun k sl hk hb=>by
  rcases s.fresh k sl hb with h | ⟨h,_⟩
  ·exact h
  ·omega
 have hnw: ∀ k B sl,R k B->β k=some sl-> ¬ Wr β G sl.b:=by
  rintro k B sl hr hb ⟨k2,B2,sl2,h1,h2,h3,h4⟩
  have hne:k2≠k:=by rintro rfl; rw [(hR _ _ hr).2] at h1; cases h1
  exact hv.own k2 k B2 B sl2 sl hne ((eV _ _).2 (.inl h1)) ((eV _ _).2 (.inr hr)) h3 hb h2 h4
 have hwr: ∀ b,Wr β G b->Wr β V b:=fun b ⟨k,B,sl,h1,h2⟩=>⟨k,B,sl,(eV _ _).2 (.inl h1),h2⟩
 refine ⟨s.le,by rw [hn,hn']; exact s.next,⟨?_,?_,?_,?_⟩,s.size,s.os,s.tape,s.output,fun b hb hw=>s.kept b hb fun h=>hw (hwr b h),?_,?_,?_⟩
 ·intro k sl hk
  rw [hn']
  exact s.sim.lt k sl hk
 ·intro k B sl h1 h2
  rcases (eV' k B).1 h1 with h1 | h1
  ·exact s.sim.blk k B sl h1 h2
  ·have hb:=hold k sl (hR _ _ h1).1 h2
   exact ((hv.blk k B sl ((eV _ _).2 (.inr h1)) hb).mono s.le).of_heap (s.kept _ (hv.lt k sl hb).2 (hnw k B sl h1 hb))
 ·intro k k' B B' sl sl' hne h1 h2 h3 h4 h5
  rcases (eV' k B).1 h1 with h1 | h1
  ·rcases (eV' k' B').1 h2 with h2 | h2
   ·exact s.sim.own k k' B B' sl sl' hne h1 h2 h3 h4 h5
   ·have hb:=hold k' sl' (hR _ _ h2).1 h4
    intro he
    exact hnw k' B' sl' h2 hb (s.back _ (hv.lt k' sl' hb).2 ⟨k,B,sl,h1,h5,h3,he⟩)
  ·have hb:=hold k sl (hR _ _ h1).1 h3
   rcases (eV' k' B').1 h2 with h2 | h2
   ·rcases s.fresh k' sl' h4 with h6 | ⟨_,h6 | h6⟩
    ·have hlt:=(hv.lt k' sl' h6).1
     obtain ⟨B₀,h7⟩:=s.keys k' B' h2 (by rw [<-hn]; exact hlt)
     exact hv.own k k' B B₀ sl sl' hne ((eV _ _).2 (.inr h1)) ((eV _ _).2 (.inl h7)) hb h6 h5
    ·have:=(hv.lt k sl hb).2
     omega
    ·intro he
     exact hnw k B sl h1 hb (by rw [he]; exact h6)
   ·exact hv.own k k' B B' sl sl' hne ((eV _ _).2 (.inr h1)) ((eV _ _).2 (.inr h2)) hb (hold k' sl' (hR _ _ h2).1 h4) h5
 ·intro k B hk
  rw [hn']
  rcases (eV' k B).1 hk with hk | hk
  ·exact s.sim.wf k B hk
  ·exact Nat.lt_of_lt_of_le (hR _ _ hk).1 s.next
 ·rintro b hb ⟨k,B,sl,h1,h2,h3,h4⟩
  rcases (eV' k B).1 h1 with h1 | h1
  ·exact hwr b (s.back b hb ⟨k,B,sl,h1,h2,h3,h4⟩)
  ·exact ⟨k,B,sl,(eV _ _).2 (.inr h1),h2,hold k sl (hR _ _ h1).1 h3,h4⟩
 ·intro k sl hk
  rcases s.fresh k sl hk with h | ⟨h1,h2⟩
  ·exact .inl h
  ·exact .inr ⟨by rw [hn]; exact h1,h2.imp id (hwr _)⟩
 ·intro k B hk hlt
  rcases (eV' k B).1 hk with hk | hk
  ·obtain ⟨B₀,h0⟩:=s.keys k B hk (by rw [<-hn]; exact hlt)
   exact ⟨B₀,(eV _ _).2 (.inl h0)⟩
  ·exact ⟨B,(eV _ _).2 (.inr hk)⟩
theorem Allocs.at_key {β₀:Inj}{h₀ V:Heap}{w₀ w w':World}(st:Step β₀ h₀ w₀ β V w){B:Blk}{f:Nat->Value}{v':Value}(ha:Allocs β w B f v' w'){k:Nat}(hk:β k=none)(h1:h₀.next<=k)(h2:k < V.next):
  ∃ β',Step β₀ h₀ w₀ β' (V.set k B) w'/\VRel β' (f k) v'/\β.le β'/\ ∀ j,j≠k->β' j=β j:=by
 obtain ⟨sl,hb,hnew⟩:=ha.new
 have hs:=st.sim
 have hle:β.le (β.ext k sl):=Inj.le_ext sl hk
 obtain ⟨hB,hv⟩:=hnew _ k hle (β.ext_same _ _)
 have hlt: ∀ k' sl',β k'=some sl'->sl'.b < w.heap.size:=fun k' sl' hk=>(hs.lt k' sl' hk).2
 have hsz:=st.size
 refine ⟨β.ext k sl,⟨Inj.le_trans st.le hle,st.next,⟨?_,?_,?_,Heap.wf_set hs.wf B h2⟩,by rw [ha.size]; omega,ha.os.trans st.os,ha.tape.trans st.tape,ha.output.trans st.output,
  fun b hb' hn=>(ha.kept b (by omega)).trans (st.kept b hb' hn),?_,?_,?_⟩,hv,hle,fun j hj=>β.ext_ne sl hj⟩
 ·intro k' sl' hk'
  by_cases hkn:k'=k
  ·subst hkn
   rw [β.ext_same] at hk'
   obtain rfl:=oI hk'
   exact ⟨h2,by rw [ha.size,hb]; omega⟩
  ·rw [β.ext_ne sl hkn] at hk'
   have:=hs.lt k' sl' hk'
   exact ⟨this.1,by rw [ha.size]; omega⟩
 ·intro k' B' sl' e1 e2
  by_cases hkn:k'=k
  ·subst hkn
   rw [β.ext_same] at e2
   obtain rfl:=oI e2
   rw [V.get_set_same] at e1
   obtain rfl:=oI e1
   exact hB
  ·rw [V.get_set_ne k k' B hkn] at e1
   rw [β.ext_ne sl hkn] at e2
   exact ((hs.blk k' B' sl' e1 e2).mono hle).of_heap (ha.kept _ (hlt k' sl' e2))
 ·intro k₁ k₂ B₁ B₂ sl₁ sl₂ hne e1 e2 e3 e4 e5
  by_cases hk1:k₁=k
  ·subst hk1
   rw [β.ext_same] at e3
   obtain rfl:=oI e3
   rw [β.ext_ne sl (Ne.symm hne)] at e4
   have:=hlt k₂ sl₂ e4
   omega
  ·by_cases hk2:k₂=k
   ·subst hk2
    rw [β.ext_same] at e4
    obtain rfl:=oI e4
    rw [β.ext_ne sl hne] at e3
    have:=hlt k₁ sl₁ e3
    omega
   ·rw [V.get_set_ne k k₁ B hk1] at e1
    rw [V.get_set_ne k k₂ B hk2] at e2
    rw [β.ext_ne sl hk1] at e3
    rw [β.ext_ne sl hk2] at e4
    exact hs.own k₁ k₂ B₁ B₂ sl₁ sl₂ hne e1 e2 e3 e4 e5
 ·rintro b hb' ⟨k',B',sl',e1,e2,e3,e4⟩
  by_cases hkn:k'=k
  ·subst hkn
   rw [β.ext_same] at e3
   obtain rfl:=oI e3
   omega
  ·rw [V.get_set_ne k k' B hkn] at e1
   rw [β.ext_ne sl hkn] at e3
   exact st.back b hb' ⟨k',B',sl',e1,e2,e3,e4⟩
 ·intro k' sl' hk'
  by_cases hkn:k'=k
  ·subst hkn
   rw [β.ext_same] at hk'
   obtain rfl:=oI hk'
   exact .inr ⟨h1,.inl (by omega)⟩
  ·rw [β.ext_ne sl hkn] at hk'
   exact st.fresh k' sl' hk'
 ·intro k' B' e1 hlt'
  rw [V.get_set_ne k k' B (by omega)] at e1
  exact st.keys k' B' e1 hlt'
end
section
variable {P:Program} {ρ ρ':Operand->Value}
theorem XB {l:List (Nat×Operand)}(h: ∀ x∈l.map (·.2),ρ x=ρ' x):l.map (fun p=>(p.1,ρ p.2))=l.map (fun p=>(p.1,ρ' p.2)):=
 List.map_congr_left fun p hp=>by rw [h p.2 (List.mem_map_of_mem hp)]
theorem U9 {r:Option Operand}(h: ∀ x∈r.toList,ρ x=ρ' x):r.map ρ=r.map ρ':=by
 cases r with
 | none=>rfl
 | some x=>simp [h x (by simp)]
theorem Yx {l:List (Nat×Operand)}(h: ∀ x∈l.map (·.2),ρ x=ρ' x)(q:Value->Bool):(l.all fun p=>q (ρ p.2))=l.all fun p=>q (ρ' p.2):=by
 induction l with
 | nil=>rfl
 | cons p l ih=>simp only [List.all_cons,h p.2 (by simp),ih fun x hx=>h x (by simp only [List.map_cons,List.mem_cons]; exact .inr hx)]
theorem Fb {o:Oper}(h: ∀ x∈o.op.operands,ρ x=ρ' x):aD P ρ o=aD P ρ' o:=by
 obtain ⟨dst,op,ty,pos,after,guard⟩:=o
 cases op
 case call c=>
  obtain ⟨callee,args,ats⟩:=c
  cases callee with
  | builtin b=>
   have ha:args.toList.map ρ=args.toList.map ρ':=List.map_congr_left fun x hx=>h x (by simpa [Op.operands,Call.operands] using hx)
   cases b <;> simp only [aD,ha]
   split
   ·next x t hx ht=>rw [h x (by simp [Op.operands,Call.operands]; exact Array.mem_of_getElem? hx)]
   ·rfl
  | _=>rfl
 all_goals first
  | rfl
  | (simp only [Op.operands,Array.mem_append,List.mem_toArray,List.mem_cons,List.not_mem_nil,or_false,forall_eq_or_imp,forall_eq] at h; simp only [aD,h]; done)
  | skip
 case build t ps=>
  simp only [aD]
  rw [XB fun x hx=>h x (by simpa [Op.operands] using hx)]
 case makeFunc fn first captured=>
  have h1:first.map ρ=first.map ρ':=Array.map_congr_left fun x hx=>h x (by simp [Op.operands,hx])
  have h2:captured.map ρ=captured.map ρ':=Array.map_congr_left fun x hx=>h x (by simp [Op.operands,hx])
  simp only [aD,h1,h2]
theorem Fy {o:Oper}{hp:Heap}(h: ∀ x∈o.op.operands,ρ x=ρ' x):aH P ρ o hp=aH P ρ' o hp:=by
 obtain ⟨dst,op,ty,pos,after,guard⟩:=o
 cases op
 case call c=>
  obtain ⟨callee,args,ats⟩:=c
  cases callee with
  | builtin b=>
   cases b <;> simp only [aH]
   split
   ·next x t hx ht=>rw [h x (by simp [Op.operands,Call.operands]; exact Array.mem_of_getElem? hx)]
   ·rfl
  | _=>rfl
 all_goals first
  | rfl
  | (simp only [Op.operands,Array.mem_append,List.mem_toArray,List.mem_cons,List.not_mem_nil,or_false,forall_eq_or_imp,forall_eq] at h; simp only [aH,h]; done)
  | skip
 case slice t x l hi m=>
  have h1:ρ x=ρ' x:=h x (by simp [Op.operands])
  have h2:l.map ρ=l.map ρ':=U9 fun x hx=>h x (by simp at hx; simp [Op.operands,hx])
  have h3:hi.map ρ=hi.map ρ':=U9 fun x hx=>h x (by simp at hx; simp [Op.operands,hx])
  have h4:m.map ρ=m.map ρ':=U9 fun x hx=>h x (by simp at hx; simp [Op.operands,hx])
  simp only [aH,h1,h2,h3,h4]
theorem BW {o:Oper}(h: ∀ x∈o.op.operands,ρ x=ρ' x):aG P ρ o=aG P ρ' o:=by
 obtain ⟨dst,op,ty,pos,after,guard⟩:=o
 cases op
 all_goals first
  | rfl
  | (simp only [Op.operands,List.mem_toArray,List.mem_cons,List.not_mem_nil,or_false,forall_eq_or_imp,forall_eq] at h; simp only [aG,h]; done)
  | skip
 case buildSlice t len ps=>
  have hm: ∀ x∈ps.toList.map (·.2),ρ x=ρ' x:=fun x hx=>h x (by simpa [Op.operands] using hx)
  simp only [aG]
  rw [XB hm,Yx hm]
 case makeMap t r=>
  cases r with
  | none=>rfl
  | some x=>simp only [aG,h x (by simp [Op.operands])]
theorem HC {cf:aX}{o:Oper}{hp:Heap}(h: ∀ x∈o.op.operands,ρ x=ρ' x):bA P cf ρ o hp=bA P cf ρ' o hp:=by
 obtain ⟨dst,op,ty,pos,after,guard⟩:=o
 cases op
 case call c=>
  obtain ⟨callee,args,ats⟩:=c
  cases callee with
  | builtin b=>
   have ha:args.toList.map ρ=args.toList.map ρ':=List.map_congr_left fun x hx=>h x (by simpa [Op.operands,Call.operands] using hx)
   cases b <;> simp only [bA,ha]
   all_goals
    split
    ·next s x t t' hx ht=>
     have h1: ∀ y∈args.toList,ρ y=ρ' y:=fun y hy=>h y (by simpa [Op.operands,Call.operands] using hy)
     rw [hx] at h1
     rw [h1 s (by simp),h1 x (by simp)]
    ·rfl
  | value f=>
   have ha:args.toList.map ρ=args.toList.map ρ':=List.map_congr_left fun x hx=>h x (by simp [Op.operands,Call.operands]; right; simpa using hx)
   simp only [bA,ha,h f (by simp [Op.operands,Call.operands])]
  | _=>rfl
 all_goals first
  | rfl
  | (simp only [Op.operands,List.mem_toArray,List.mem_cons,List.not_mem_nil,or_false,forall_eq_or_imp,forall_eq] at h; simp only [bA,h]; done)
  | skip
end
end Go.Ab
end
section
namespace Go.Ab
open Go Region
structure Topo (ops:Array Oper)(L:List Nat):Prop where
 mem: ∀ i,i∈L↔i < ops.size
 nodup:L.Nodup
 deps: ∀ pre i suf,L=pre++i::suf-> ∀ o,ops[i]?=some o-> ∀ e∈o.after,binds .any e=true->e.on∈pre
theorem LJ {m:Region.Mode}{e:Edge}(h:binds .any e=true):binds m e=true:=by
 unfold binds at *
 split at h
 ·simp at h
 ·simp at h
 ·rfl
def Vq (m:Region.Mode)(ops:Array Oper)(listed:Array Bool)(i:Nat):Prop:=
 listed.getD i true=false/\ ∃ o,ops[i]?=some o/\ ∀ e∈o.after,binds m e=true->listed.getD e.on false=true
theorem mem_ready' {m:Region.Mode}{ops:Array Oper}{listed:Array Bool}{i:Nat}:
  i∈(List.range ops.size).filter (fun i=> !listed.getD i true && ((ops[i]?).map (·.after.all fun e=> !binds m e || listed.getD e.on false)).getD false)↔i < ops.size/\Vq m ops listed i:=by
 simp only [List.mem_filter,List.mem_range,Bool.and_eq_true,Bool.not_eq_true',Vq]
 refine ⟨fun ⟨h1,h2,h3⟩=>⟨h1,h2,?_⟩,fun ⟨h1,h2,o,h3,h4⟩=>⟨h1,h2,?_⟩⟩
 ·rw [Array.getElem?_eq_getElem h1] at h3
  simp only [Option.map_some,Option.getD_some,Array.all_eq_true'] at h3
  refine ⟨_,Array.getElem?_eq_getElem h1,fun e he hb=> ?_⟩
  have:=h3 e he
  rw [hb] at this
  simpa using this
 ·rw [h3]
  simp only [Option.map_some,Option.getD_some,Array.all_eq_true']
  intro e he
  cases hb:binds m e with
  | false=>rfl
  | true=>simp [h4 e he hb]
def left (ops:Array Oper)(listed:Array Bool):List Nat:=(List.range ops.size).filter fun i=> !listed.getD i true
theorem Bl {l:Array Bool}{i j:Nat}(d:Bool)(hi:i < l.size):(l.setIfInBounds i true).getD j d=if j=i then true else l.getD j d:=by
 simp only [Array.getD_eq_getD_getElem?,Array.getElem?_setIfInBounds]
 by_cases h:i=j
 ·subst h; simp [hi]
 ·rw [if_neg h,if_neg (Ne.symm h)]
theorem G6 (m:Region.Mode)(ops:Array Oper):
  ∀ (fuel t:Nat)(listed:Array Bool)(acc:List Nat),listed.size=ops.size->(∀ i,i∈acc↔i < ops.size/\listed.getD i true=true)->acc.Nodup->
   (∀ pre i suf,acc.reverse=pre++i::suf-> ∀ o,ops[i]?=some o-> ∀ e∈o.after,binds m e=true->e.on∈pre)->
   let L:=linearise.go m ops fuel t listed acc
   (∀ i,i∈L->i < ops.size)/\L.Nodup/\ ∀ pre i suf,L=pre++i::suf-> ∀ o,ops[i]?=some o-> ∀ e∈o.after,binds m e=true->e.on∈pre
 | 0,t,listed,acc,hs,ha,hn,hd=>by
  simp only [linearise.go]
  exact ⟨fun i hi=>((ha i).1 (List.mem_reverse.1 hi)).1,(List.reverse_perm acc).nodup_iff.2 hn,hd⟩
 | fuel+1,t,listed,acc,hs,ha,hn,hd=>by
  simp only [linearise.go]
  split
  ·next i hi=>
   have hi:=List.mem_of_getElem? hi
   obtain ⟨hib,hfree,o,ho,hdep⟩:=mem_ready'.1 hi
   have hisz:i < listed.size:=by omega
   have hia:i ∉ acc:=fun h=>by have:=((ha i).1 h).2; rw [hfree] at this; cases this
   have hdep': ∀ e∈o.after,binds m e=true->e.on∈acc.reverse:=fun e he hb=>by
    rw [List.mem_reverse,ha]
    have hl:=hdep e he hb
    have:e.on < listed.size:=by
     rcases Nat.lt_or_ge e.on listed.size with h5 | h5
     ·exact h5
     ·simp [Array.getD_eq_getD_getElem?,Array.getElem?_eq_none h5] at hl
    exact ⟨by omega,by simp only [Array.getD_eq_getD_getElem?,Array.getElem?_eq_getElem this] at hl ⊢; exact hl⟩
   refine G6 m ops fuel (t / _) (listed.setIfInBounds i true) (i::acc) (by simpa using hs) ?_ (List.nodup_cons.2 ⟨hia,hn⟩) ?_
   ·intro j
    rw [List.mem_cons,ha,Bl _ hisz]
    constructor
    ·rintro (rfl | ⟨h3,h4⟩)
     ·exact ⟨hib,by simp⟩
     ·exact ⟨h3,by split <;> simp_all⟩
    ·rintro ⟨h3,h4⟩
     split at h4
     ·next he=>exact .inl he
     ·exact .inr ⟨h3,h4⟩
   ·intro pre j suf heq o' ho' e he hb
    rw [List.reverse_cons] at heq
    rcases List.append_eq_append_iff.1 heq with ⟨as,h3,h4⟩ | ⟨bs,h3,h4⟩
    ·cases as with
     | nil=>
      simp only [List.nil_append,List.cons.injEq] at h4
      obtain ⟨rfl,rfl⟩:=h4
      rw [ho] at ho'
      obtain rfl:=oI ho'
      rw [h3,List.append_nil]
      exact hdep' e he hb
     | cons a as=>
      simp only [List.cons_append,List.cons.injEq] at h4
      obtain ⟨_,h4⟩:=h4
      have:=congrArg List.length h4
      simp at this
    ·cases bs with
     | nil=>
      simp only [List.nil_append,List.cons.injEq] at h4
      obtain ⟨rfl,rfl⟩:=h4
      rw [ho] at ho'
      obtain rfl:=oI ho'
      have h3':pre=acc.reverse:=by simpa using h3.symm
      rw [h3']
      exact hdep' e he hb
     | cons b bs=>
      simp only [List.cons_append,List.cons.injEq] at h4
      obtain ⟨rfl,_⟩:=h4
      exact hd pre j bs h3 o' ho' e he hb
  ·exact ⟨fun i hi=>((ha i).1 (List.mem_reverse.1 hi)).1,(List.reverse_perm acc).nodup_iff.2 hn,hd⟩
theorem PS (m:Region.Mode)(ops:Array Oper)(prog: ∀ listed:Array Bool,listed.size=ops.size->(∃ i,i < ops.size/\listed.getD i true=false)-> ∃ i,i < ops.size/\Vq m ops listed i):
  ∀ (fuel t:Nat)(listed:Array Bool)(acc:List Nat),listed.size=ops.size->(left ops listed).length<=fuel->(∀ i,i < ops.size->listed.getD i true=true->i∈acc)->
   ∀ i,i < ops.size->i∈linearise.go m ops fuel t listed acc
 | 0,t,listed,acc,hs,hl,ha=>fun i h=>by
  simp only [linearise.go]
  rw [List.mem_reverse]
  refine ha i h ?_
  cases hg:listed.getD i true with
  | true=>rfl
  | false=>
   have:i∈left ops listed:=List.mem_filter.2 ⟨List.mem_range.2 h,by rw [hg]; rfl⟩
   have:=List.length_pos_of_mem this
   omega
 | fuel+1,t,listed,acc,hs,hl,ha=>by
  simp only [linearise.go]
  split
  ·next i hi=>
   have hi:=List.mem_of_getElem? hi
   obtain ⟨hib,hfree,_⟩:=mem_ready'.1 hi
   have hisz:i < listed.size:=by omega
   refine PS m ops prog fuel (t / _) (listed.setIfInBounds i true) (i::acc) (by simpa using hs) ?_ ?_
   ·have hsub: ∀ j,j∈left ops (listed.setIfInBounds i true)->j∈left ops listed/\j≠i:=by
     intro j hj
     simp only [left,List.mem_filter,List.mem_range,Bool.not_eq_true',Bl _ hisz] at hj ⊢
     split at hj
     ·exact absurd hj.2 (by simp)
     ·next hne=>exact ⟨hj,hne⟩
    have him:i∈left ops listed:=List.mem_filter.2 ⟨List.mem_range.2 hib,by rw [hfree]; rfl⟩
    have hnd:(left ops (listed.setIfInBounds i true)).Nodup:=List.Pairwise.filter _ List.nodup_range
    have:(left ops (listed.setIfInBounds i true)).length<=((left ops listed).erase i).length:=by
     refine List.Nodup.length_le_of_subset hnd fun j hj=> ?_
     obtain ⟨h3,h4⟩:=hsub j hj
     exact (List.mem_erase_of_ne h4).2 h3
    rw [List.length_erase_of_mem him] at this
    omega
   ·intro j hj hg
    rw [Bl _ hisz] at hg
    split at hg
    ·next he=>exact List.mem_cons.2 (.inl he)
    ·exact List.mem_cons.2 (.inr (ha j hj hg))
  ·next hnone=>
   intro i hi
   rw [List.mem_reverse]
   cases hg:listed.getD i true with
   | true=>exact ha i hi hg
   | false=>
    obtain ⟨i0,h1,h2⟩:=prog listed hs ⟨i,hi,hg⟩
    have hmem:=mem_ready'.2 ⟨h1,h2⟩
    generalize (List.range ops.size).filter (fun i=> !listed.getD i true && ((ops[i]?).map (·.after.all fun e=> !binds m e || listed.getD e.on false)).getD false)=rs at hmem hnone
    have hpos:0 < rs.length:=List.length_pos_of_mem hmem
    rw [gE (Nat.mod_lt _ hpos)] at hnone
    cases hnone
theorem GB (ops:Array Oper)(listed:Array Bool):(left ops listed).length<=ops.size:=by
 have:=List.length_filter_le (fun i=> !listed.getD i true) (List.range ops.size)
 simpa [left] using this
theorem Dv (m:Region.Mode)(ops:Array Oper)(t:Nat):
  (∀ i,i∈linearise m ops t->i < ops.size)/\(linearise m ops t).Nodup/\ ∀ pre i suf,linearise m ops t=pre++i::suf-> ∀ o,ops[i]?=some o-> ∀ e∈o.after,binds m e=true->e.on∈pre:=by
 refine G6 m ops ops.size t _ [] (by simp) (fun i=> ?_) List.nodup_nil (fun pre i suf h=>by simp at h)
 simp only [List.not_mem_nil,false_iff,not_and]
 intro hi
 simp [Array.getD_eq_getD_getElem?,hi]
theorem RL (m:Region.Mode)(ops:Array Oper)(t:Nat)(prog: ∀ listed:Array Bool,listed.size=ops.size->(∃ i,i < ops.size/\listed.getD i true=false)-> ∃ i,i < ops.size/\Vq m ops listed i):
  ∀ i,i < ops.size->i∈linearise m ops t:=by
 refine PS m ops prog ops.size t _ [] (by simp) (GB _ _) fun i hi hg=> ?_
 simp [Array.getD_eq_getD_getElem?,hi] at hg
def Back (ops:Array Oper):Prop:= ∀ i o,ops[i]?=some o-> ∀ e∈o.after,e.on < i\/binds .any e=false/\binds .text e=false
theorem Ud {p:Nat->Prop}[DecidablePred p]: ∀ (n:Nat),(∃ i,i < n/\p i)-> ∃ i,i < n/\p i/\ ∀ j,j < i-> ¬ p j
 | 0,⟨_,h,_⟩=>absurd h (by omega)
 | n+1,h=>by
  by_cases h': ∃ i,i < n/\p i
  ·obtain ⟨i,h1,h2,h3⟩:=Ud n h'
   exact ⟨i,by omega,h2,h3⟩
  ·obtain ⟨i,h1,h2⟩:=h
   refine ⟨i,h1,h2,fun j hj hp=>h' ⟨j,by omega,hp⟩⟩
theorem CP {m:Region.Mode}{ops:Array Oper}(hb: ∀ i o,ops[i]?=some o-> ∀ e∈o.after,binds m e=true->e.on < i):
  ∀ listed:Array Bool,listed.size=ops.size->(∃ i,i < ops.size/\listed.getD i true=false)-> ∃ i,i < ops.size/\Vq m ops listed i:=by
 intro listed hs hex
 obtain ⟨i,h1,h2,h3⟩:=Ud ops.size hex
 refine ⟨i,h1,h2,ops[i],Array.getElem?_eq_getElem h1,fun e he hbe=> ?_⟩
 have hlt:=hb i _ (Array.getElem?_eq_getElem h1) e he hbe
 have hsz:e.on < listed.size:=by omega
 have:=h3 e.on hlt
 simp only [Array.getD_eq_getD_getElem?,Array.getElem?_eq_getElem hsz,Option.getD_some,Bool.not_eq_false] at this ⊢
 exact this
theorem Io {p:Nat->Prop}[DecidablePred p]: ∀ (L:List Nat),(∃ i∈L,p i)-> ∃ pre i suf,L=pre++i::suf/\p i/\ ∀ j∈pre,¬ p j
 | [],⟨_,h,_⟩=>by cases h
 | x::L,h=>by
  by_cases hx:p x
  ·exact ⟨[],x,L,rfl,hx,fun j hj=>by cases hj⟩
  ·obtain ⟨i,h1,h2⟩:=h
   rcases List.mem_cons.1 h1 with rfl | h1
   ·exact absurd h2 hx
   ·obtain ⟨pre,j,suf,rfl,h3,h4⟩:=Io L ⟨i,h1,h2⟩
    refine ⟨x::pre,j,suf,rfl,h3,fun y hy=> ?_⟩
    rcases List.mem_cons.1 hy with rfl | hy
    ·exact hx
    ·exact h4 y hy
theorem Nh {m:Region.Mode}{ops:Array Oper}(hc:(linearise m ops 0).length=ops.size):
  ∀ listed:Array Bool,listed.size=ops.size->(∃ i,i < ops.size/\listed.getD i true=false)-> ∃ i,i < ops.size/\Vq m ops listed i:=by
 intro listed hs hex
 obtain ⟨h1,h2,h3⟩:=Dv m ops 0
 have hall: ∀ i,i < ops.size->i∈linearise m ops 0:=by
  intro i hi
  refine Classical.byContradiction fun hn=> ?_
  have hnd:(i::linearise m ops 0).Nodup:=List.nodup_cons.2 ⟨hn,h2⟩
  have:=List.Nodup.length_le_of_subset (l₂:=List.range ops.size) hnd fun j hj=>by
   rcases List.mem_cons.1 hj with rfl | hj
   ·exact List.mem_range.2 hi
   ·exact List.mem_range.2 (h1 j hj)
  simp at this
  omega
 obtain ⟨i,hi,hf⟩:=hex
 obtain ⟨pre,j,suf,heq,h4,h5⟩:=Io (p:=fun i=>listed.getD i true=false) _ ⟨i,hall i hi,hf⟩
 have hj:j < ops.size:=h1 j (by rw [heq]; simp)
 refine ⟨j,hj,h4,ops[j],Array.getElem?_eq_getElem hj,fun e he hbe=> ?_⟩
 have hm:=h3 pre j suf heq _ (Array.getElem?_eq_getElem hj) e he hbe
 have:=h5 _ hm
 have hsz:e.on < listed.size:=by
  have:=h1 e.on (by rw [heq]; simp [hm])
  omega
 simp only [Array.getD_eq_getD_getElem?,Array.getElem?_eq_getElem hsz,Option.getD_some,Bool.not_eq_false] at this ⊢
 exact this
theorem qV {ops:Array Oper}(hb:Back ops)(hc:departs ops=true->(linearise .gc ops 0).length=ops.size)(mixed:Bool)(t:Nat):Topo ops (schedule mixed ops t):=by
 have key: ∀ (m:Region.Mode)(t:Nat),(∀ listed:Array Bool,listed.size=ops.size->(∃ i,i < ops.size/\listed.getD i true=false)-> ∃ i,i < ops.size/\Vq m ops listed i)->Topo ops (linearise m ops t):=by
  intro m t hp
  obtain ⟨h1,h2,h3⟩:=Dv m ops t
  exact ⟨fun i=>⟨h1 i,RL m ops t hp i⟩,h2,fun pre i suf h o ho e he hbe=>h3 pre i suf h o ho e he (LJ hbe)⟩
 have hany: ∀ i o,ops[i]?=some o-> ∀ e∈o.after,binds .any e=true->e.on < i:=fun i o ho e he hbe=>by
  rcases hb i o ho e he with h | ⟨h,_⟩
  ·exact h
  ·rw [h] at hbe; cases hbe
 have htext: ∀ i o,ops[i]?=some o-> ∀ e∈o.after,binds .text e=true->e.on < i:=fun i o ho e he hbe=>by
  rcases hb i o ho e he with h | ⟨_,h⟩
  ·exact h
  ·rw [h] at hbe; cases hbe
 unfold schedule
 split
 ·exact key _ _ (CP hany)
 ·next hd=>
  split
  ·exact key _ _ (CP htext)
  ·refine key _ _ (Nh (hc ?_))
   simp only [Bool.or_eq_true,Bool.not_eq_true',not_or,Bool.not_eq_false] at hd
   exact hd.2
end Go.Ab
end
section
namespace Go.Ab
open Go
section
variable {P:Program} {gl:Nat->Bool}
theorem pZ {e:Value->Value->Bool}(he: ∀ a b,e a b=true->a=b): ∀ {x y:List Value},ID e x y=true->x=y
 | [],[],_=>rfl
 | [],_::_,h=>by simp [ID] at h
 | _::_,[],h=>by simp [ID] at h
 | a::x,b::y,h=>by
  simp only [ID,Bool.and_eq_true] at h
  rw [he a b h.1,pZ he h.2]
theorem iZ: ∀ (d:Nat)(a b:Value),cM d a b=true->a=b
 | 0,_,_,h=>by simp [cM] at h
 | d+1,a,b,h=>by
  have ih:=iZ d
  have hl: ∀ {x y:Array Value},ID (cM d) x.toList y.toList=true->x=y:=fun hxy=>Array.ext' (pZ ih hxy)
  unfold cM at h
  split at h
  ·simpa using h
  ·simp only [Bool.and_eq_true,decide_eq_true_eq] at h; rw [h.1,h.2]
  ·next x y=>
   simp only [decide_eq_true_eq] at h
   have:x=y:=by
    obtain ⟨x⟩:=x; obtain ⟨y⟩:=y
    congr 1
    exact Array.ext' h
   rw [this]
  ·rfl
  ·simp only [Bool.and_eq_true,decide_eq_true_eq] at h; rw [h.1,h.2]
  ·simp only [Bool.and_eq_true,decide_eq_true_eq] at h; rw [h.1,h.2]
  ·simp only [Bool.and_eq_true,decide_eq_true_eq] at h; rw [h.1.1.1,h.1.1.2,h.1.2,h.2]
  ·rfl
  ·simp only [decide_eq_true_eq] at h; rw [h]
  ·rfl
  ·rfl
  ·simp only [Bool.and_eq_true,decide_eq_true_eq] at h; rw [h.1.1,hl h.1.2,hl h.2]
  ·simp only [Bool.and_eq_true,decide_eq_true_eq] at h; rw [h.1,ih _ _ h.2]
  ·rw [hl h]
  ·rw [hl h]
  ·cases h
structure Ordd (ops:Array Oper)(bf:Nat->Nat->Bool):Prop where
 lt: ∀ j i,bf j i=true->i < j
 trans: ∀ k j i,bf k j=true->bf j i=true->bf k i=true
 topo: ∀ L,Topo ops L-> ∀ pre j suf,L=pre++j::suf-> ∀ i,bf j i=true->i∈pre
 names: ∀ (j:Nat)(o:Oper)(t:Tmp),ops[j]?=some o->Operand.tmp t∈o.op.operands-> ∀ (i:Nat)(o':Oper),ops[i]?=some o'->o'.dst=some t->i=j\/bf j i=true\/bf i j=true
 guards: ∀ (j:Nat)(o:Oper)(i:Nat)(b:Bool),ops[j]?=some o->o.guard=some (i,b)->bf j i=true
 uniq: ∀ (i j:Nat)(o o':Oper)(t:Tmp),ops[i]?=some o->ops[j]?=some o'->o.dst=some t->o'.dst=some t->i=j
abbrev Jf:=List Value×Heap×List (Nat×Blk)
def One (P:Program)(gl:Nat->Bool)(cf:aX)(ops:Array Oper)(bf:Nat->Nat->Bool)(base j:Nat)(o:Oper)(s:Jf)(e:Ent)(s':Jf):Prop:=
 match e with
 | .skip=>cm ops s.1 o=some false/\s'=(dh s.1 o.dst undef,s.2.1,s.2.2)
 | .pure v=>cm ops s.1 o=some true/\aD P (ev gl s.1) o=some v/\s'=(dh s.1 o.dst v,s.2.1,s.2.2)
 | .read v=>cm ops s.1 o=some true/\aH P (ev gl s.1) o s.2.1=some v/\s'=(dh s.1 o.dst v,s.2.1,s.2.2)
 | .alloc B v=>cm ops s.1 o=some true/\(∃ f,aG P (ev gl s.1) o=some (B,f)/\v=f (base+j))/\s'=(dh s.1 o.dst v,s.2.1,(j,B)::s.2.2)
 | .eff v h'=>cm ops s.1 o=some true/\(∃ u,bA P cf (ev gl s.1) o (aC s.2.1 base (s.2.2.filter fun p=>bf j p.1))=some (v,u)/\h'=u.app (aC s.2.1 base (s.2.2.filter fun p=>bf j p.1)))/\
   s'=(dh s.1 o.dst v,h',s.2.2.filter fun p=> !bf j p.1)
theorem pM {cf:aX}{ops:Array Oper}{bf:Nat->Nat->Bool}{base:Nat}: ∀ (rest:List Oper)(j:Nat)(s:Jf)(recs:List (List Value×Ent))(out:Jf),
  bC P gl cf ops bf base rest j s.1 s.2.1 s.2.2=some (recs,out)-> ∃ (st:Nat->Jf)(en:Nat->Ent),st j=s/\st (j+rest.length)=out/\recs.length=rest.length/\
   ∀ i o,rest[i]?=some o->One P gl cf ops bf base (j+i) o (st (j+i)) (en (j+i)) (st (j+i+1))/\recs[i]?=some ((st (j+i)).1,en (j+i))
 | [],j,s,recs,out,h=>by
  simp only [bC,Option.some.injEq,Prod.mk.injEq] at h
  obtain ⟨rfl,rfl⟩:=h
  exact ⟨fun _=>s,fun _=> .skip,rfl,rfl,rfl,fun i o ho=>by simp at ho⟩
 | o::rest,j,s,recs,out,h=>by
  have key: ∀ (e:Ent)(s':Jf)(r:List (List Value×Ent)×Jf),One P gl cf ops bf base j o s e s'->bC P gl cf ops bf base rest (j+1) s'.1 s'.2.1 s'.2.2=some r->((s.1,e)::r.1,r.2)=(recs,out)->
    ∃ (st:Nat->Jf)(en:Nat->Ent),st j=s/\st (j+(o::rest).length)=out/\recs.length=(o::rest).length/\
     ∀ i o',(o::rest)[i]?=some o'->One P gl cf ops bf base (j+i) o' (st (j+i)) (en (j+i)) (st (j+i+1))/\recs[i]?=some ((st (j+i)).1,en (j+i)):=by
   intro e s' r hone hr heq
   obtain ⟨st,en,h1,h2,h3,h4⟩:=pM rest (j+1) s' r.1 r.2 hr
   simp only [Prod.mk.injEq] at heq
   obtain ⟨rfl,rfl⟩:=heq
   refine ⟨fun i=>if i=j then s else st i,fun i=>if i=j then e else en i,by simp,?_,by simp [h3],?_⟩
   ·have hne: ¬ j+(o::rest).length=j:=by simp only [List.length_cons]; omega
    simp only [if_neg hne]
    rw [<-h2]; congr 1; simp only [List.length_cons]; omega
   ·intro i o' ho
    cases i with
    | zero=>
     simp only [List.getElem?_cons_zero,Option.some.injEq] at ho
     subst ho
     simp only [Nat.add_zero,if_true,List.getElem?_cons_zero,and_true]
     rw [if_neg (by omega),h1]
     exact hone
    | succ i=>
     simp only [List.getElem?_cons_succ] at ho ⊢
     obtain ⟨h5,h6⟩:=h4 i o' ho
     simp only [if_neg (show ¬ j+(i+1)=j by omega),if_neg (show ¬ j+(i+1)+1=j by omega)]
     rw [show j+(i+1)=j+1+i by omega]
     exact ⟨h5,h6⟩
  simp only [bC] at h
  split at h
  ·cases h
  ·next hw=>
   obtain ⟨r,hr,he⟩:=Option.map_eq_some_iff.1 h
   exact key .skip (dh s.1 o.dst undef,s.2.1,s.2.2) r ⟨hw,rfl⟩ hr he
  ·next hw=>
   split at h
   ·next v hv=>
    obtain ⟨r,hr,he⟩:=Option.map_eq_some_iff.1 h
    exact key (.pure v) (dh s.1 o.dst v,s.2.1,s.2.2) r ⟨hw,hv,rfl⟩ hr he
   ·split at h
    ·next v hv=>
     obtain ⟨r,hr,he⟩:=Option.map_eq_some_iff.1 h
     exact key (.read v) (dh s.1 o.dst v,s.2.1,s.2.2) r ⟨hw,hv,rfl⟩ hr he
    ·split at h
     ·next B f hv=>
      obtain ⟨r,hr,he⟩:=Option.map_eq_some_iff.1 h
      exact key (.alloc B (f (base+j))) (dh s.1 o.dst (f (base+j)),s.2.1,(j,B)::s.2.2) r ⟨hw,⟨f,hv,rfl⟩,rfl⟩ hr he
     ·split at h
      ·next v u hv=>
       obtain ⟨r,hr,he⟩:=Option.map_eq_some_iff.1 h
       exact key (.eff v _) (dh s.1 o.dst v,_,_) r ⟨hw,⟨u,hv,rfl⟩,rfl⟩ hr he
      ·cases h
def Ent.isEff:Ent->Bool
 | .eff .. =>true
 | _=>false
structure Run (P:Program)(gl:Nat->Bool)(cf:aX)(ops:Array Oper)(bf:Nat->Nat->Bool)(base:Nat)(st:Nat->Jf)(en:Nat->Ent):Prop where
 one: ∀ i o,ops[i]?=some o->One P gl cf ops bf base i o (st i) (en i) (st (i+1))
 chain: ∀ e₁ e₂,e₁ < e₂->e₂ < ops.size->(en e₁).isEff=true->(en e₂).isEff=true->bf e₂ e₁=true
 reads: ∀ j o v,ops[j]?=some o->en j = .read v-> ∀ c,c<=ops.size->(∀ e,e < c->(en e).isEff=true->bf e j=false)->(∀ e,c<=e->e < ops.size->(en e).isEff=true->bf j e=false)->
  aH P (ev gl (st j).1) o (st c).2.1=some v
section
variable {cf:aX} {ops:Array Oper} {bf:Nat->Nat->Bool} {base:Nat} {st:Nat->Jf} {en:Nat->Ent}
theorem One.heap {j:Nat}{o:Oper}{s s':Jf}{e:Ent}(h:One P gl cf ops bf base j o s e s'):(∀ v h',e = .eff v h'->s'.2.1=h')/\(e.isEff=false->s'.2.1=s.2.1):=by
 cases e <;> simp only [One] at h
 ·exact ⟨(fun v h' he=>by cases he),fun _=>by rw [h.2]⟩
 ·exact ⟨(fun v h' he=>by cases he),fun _=>by rw [h.2.2]⟩
 ·exact ⟨(fun v h' he=>by cases he),fun _=>by rw [h.2.2]⟩
 ·exact ⟨(fun v h' he=>by cases he),fun _=>by rw [h.2.2]⟩
 ·exact ⟨(fun v h' he=>by cases he; rw [h.2.2]),fun he=>by simp [Ent.isEff] at he⟩
theorem One.tm {j:Nat}{o:Oper}{s s':Jf}{e:Ent}(h:One P gl cf ops bf base j o s e s'):s'.1=dh s.1 o.dst e.val:=by
 cases e <;> simp only [One] at h
 ·rw [h.2]; rfl
 ·rw [h.2.2]; rfl
 ·rw [h.2.2]; rfl
 ·rw [h.2.2]; rfl
 ·rw [h.2.2]; rfl
theorem nC (trans: ∀ k j i,bf k j=true->bf j i=true->bf k i=true): ∀ (recs:List (List Value×Ent))(i x:Nat)(hx:Heap),bS bf ((x,hx)::bN recs i)=true->
  ∀ k r,recs[k]?=some r->r.2.isEff=true->bf (i+k) x=true
 | [],i,x,hx,h,k,r,hr,he=>by simp at hr
 | (tm,e)::recs,i,x,hx,h,k,r,hr,he=>by
  cases e with
  | eff v h'=>
   simp only [bN,bS,Bool.and_eq_true] at h
   cases k with
   | zero=>exact h.1
   | succ k=>
    have:=nC trans recs (i+1) i h' h.2 k r (by simpa using hr) he
    rw [show i+(k+1)=i+1+k by omega]
    exact trans _ _ _ this h.1
  | _=>
   simp only [bN] at h
   cases k with
   | zero=>
    simp only [List.getElem?_cons_zero,Option.some.injEq] at hr
    subst hr
    simp [Ent.isEff] at he
   | succ k=>
    have:=nC trans recs (i+1) x hx h k r (by simpa using hr) he
    rw [show i+(k+1)=i+1+k by omega]
    exact this
theorem Et {x:Nat×Heap}{l:List (Nat×Heap)}(h:bS bf (x::l)=true):bS bf l=true:=by
 cases l with
 | nil=>rfl
 | cons y l=>simp only [bS,Bool.and_eq_true] at h; exact h.2
theorem qR (trans: ∀ k j i,bf k j=true->bf j i=true->bf k i=true): ∀ (recs:List (List Value×Ent))(i:Nat),bS bf (bN recs i)=true->
  ∀ k₁ k₂ r₁ r₂,k₁ < k₂->recs[k₁]?=some r₁->recs[k₂]?=some r₂->r₁.2.isEff=true->r₂.2.isEff=true->bf (i+k₂) (i+k₁)=true
 | [],i,h,k₁,k₂,r₁,r₂,hlt,h1,h2,e1,e2=>by simp at h1
 | (tm,e)::recs,i,h,k₁,k₂,r₁,r₂,hlt,h1,h2,e1,e2=>by
  cases k₂ with
  | zero=>omega
  | succ k₂=>
   have h2':recs[k₂]?=some r₂:=by simpa using h2
   cases k₁ with
   | zero=>
    simp only [List.getElem?_cons_zero,Option.some.injEq] at h1
    subst h1
    cases e with
    | eff v h'=>
     simp only [bN] at h
     have:=nC trans recs (i+1) i h' h k₂ r₂ h2' e2
     rw [show i+(k₂+1)=i+1+k₂ by omega]
     exact this
    | _=>simp [Ent.isEff] at e1
   | succ k₁=>
    have ht:bS bf (bN recs (i+1))=true:=by
     cases e with
     | eff v h'=>simp only [bN] at h; exact Et h
     | _=>simpa only [bN] using h
    have:=qR trans recs (i+1) ht k₁ k₂ r₁ r₂ (by omega) (by simpa using h1) h2' e1 e2
    rw [show i+(k₂+1)=i+1+k₂ by omega,show i+(k₁+1)=i+1+k₁ by omega]
    exact this
theorem oz {o:Oper}{tm:List Value}{v:Value}{h:Heap}(hs:dO P gl o tm v h=true):aH P (ev gl tm) o h=some v:=by
 unfold dO at hs
 split at hs
 ·next v' hv'=>rw [iZ _ _ _ hs]; exact hv'
 ·cases hs
theorem iT {j:Nat}{o:Oper}{tm:List Value}{v:Value}{N:Nat}(hj:j < N)(hown: ∀ c,c<=N->(∀ e,j<=e->e < c->(en e).isEff=false)->(∀ e,c<=e->e < j->(en e).isEff=false)->aH P (ev gl tm) o (st c).2.1=some v):
  ∀ (recs:List (List Value×Ent))(i:Nat)(own:Bool),(∀ k r,recs[k]?=some r->r.2=en (i+k))->i+recs.length=N->
  (∀ k,i<=k->k < i+recs.length->(∀ v h',en k = .eff v h'->(st (k+1)).2.1=h')/\((en k).isEff=false->(st (k+1)).2.1=(st k).2.1))->
  (own=true-> ∀ e,j<=e->e < i->(en e).isEff=false)->
  fu P gl bf j o tm v (st i).2.1 (bN recs i) own=true-> ∀ c,i<=c->c<=i+recs.length->(∀ e,i<=e->e < c->(en e).isEff=true->bf e j=false)->
  (∀ e,c<=e->e < i+recs.length->(en e).isEff=true->bf j e=false)->aH P (ev gl tm) o (st c).2.1=some v
 | [],i,own,hen,hN,hst,hp,h,c,h1,h2,h3,h4=>by
  simp only [bN,fu,Bool.or_eq_true] at h
  simp only [List.length_nil] at h2 hN
  obtain rfl:c=i:=by omega
  rcases h with h | h
  ·exact hown c (by omega) (hp h) (fun e he1 he2=>by omega)
  ·exact oz h
 | (tm',e)::recs,i,own,hen,hN,hst,hp,h,c,h1,h2,h3,h4=>by
  simp only [List.length_cons] at h2 h4 hst hN
  have he:e=en i:=hen 0 (tm',e) rfl
  have hen': ∀ k r,recs[k]?=some r->r.2=en (i+1+k):=fun k r hr=>by
   rw [show i+1+k=i+(k+1) by omega]; exact hen (k+1) r (by simpa using hr)
  have hst': ∀ k,i+1<=k->k < i+1+recs.length->_:=fun k hk1 hk2=>hst k (by omega) (by omega)
  cases hef:e.isEff with
  | true=>
   cases e with
   | eff u h'=>
    simp only [bN,fu,Bool.and_eq_true,Bool.or_eq_true] at h
    have hi:=(hst i (by omega) (by omega)).1 u h' he.symm
    by_cases hc:c=i
    ·subst hc
     rcases h.1 with (h5 | h5) | h5
     ·have hlt:j < c:=by simpa [Nat.blt_eq] using h5.2
      exact hown c (by omega) (hp h5.1) (fun e he1 he2=>by omega)
     ·rw [h4 c (by omega) (by omega) (by rw [<-he]; rfl)] at h5; cases h5
     ·exact oz h5
    ·rcases h.2 with h5 | h5
     ·rw [h3 i (by omega) (by omega) (by rw [<-he]; rfl)] at h5; cases h5
     ·rw [<-hi] at h5
      refine iT hj hown recs (i+1) _ hen' (by omega) hst' ?_ h5 c (by omega) (by omega) (fun e he1 he2=>h3 e (by omega) he2) (fun e he1 he2=>h4 e he1 (by omega))
      intro hlt e he1 he2
      have hlt:i < j:=by simpa [Nat.blt_eq] using hlt
      omega
   | _=>simp [Ent.isEff] at hef
  | false=>
   have hi:=(hst i (by omega) (by omega)).2 (by rw [<-he]; exact hef)
   have h5:fu P gl bf j o tm v (st (i+1)).2.1 (bN recs (i+1)) own=true:=by
    rw [hi]
    cases e with
    | eff u h'=>simp [Ent.isEff] at hef
    | _=>simpa only [bN] using h
   have hp':own=true-> ∀ e,j<=e->e < i+1->(en e).isEff=false:=fun ho e' he1 he2=>by
    rcases Nat.lt_or_ge e' i with h6 | h6
    ·exact hp ho e' he1 h6
    ·obtain rfl:e'=i:=by omega
     rw [<-he]; exact hef
   by_cases hc:c=i
   ·subst hc
    rw [<-hi]
    exact iT hj hown recs (c+1) own hen' (by omega) hst' hp' h5 (c+1) (by omega) (by omega) (fun e he1 he2=>by omega) (fun e he1 he2=>h4 e (by omega) (by omega))
   ·exact iT hj hown recs (i+1) own hen' (by omega) hst' hp' h5 c (by omega) (by omega) (fun e he1 he2=>h3 e (by omega) he2) (fun e he1 he2=>h4 e he1 (by omega))
theorem qG {hp:Heap}{es:List (Nat×Heap)}: ∀ (os:List Oper)(recs:List (List Value×Ent))(j:Nat),di P gl bf hp es os recs j=true->
  ∀ (i:Nat)(o:Oper)(tm:List Value)(v:Value),os[i]?=some o->recs[i]?=some (tm,.read v)->fu P gl bf (j+i) o tm v hp es true=true
 | [],_,_,_,i,o,tm,v,ho,_=>by simp at ho
 | _::_,[],_,_,i,o,tm,v,_,hr=>by simp at hr
 | o'::os,(tm',e)::recs,j,h,i,o,tm,v,ho,hr=>by
  have ht:di P gl bf hp es os recs (j+1)=true:=by
   cases e <;> simp only [di,Bool.and_eq_true] at h <;> first | exact h | exact h.2
  cases i with
  | zero=>
   simp only [List.getElem?_cons_zero,Option.some.injEq,Prod.mk.injEq] at ho hr
   obtain ⟨rfl,rfl⟩:=hr
   subst ho
   simp only [di,Bool.and_eq_true] at h
   exact h.1
  | succ i=>
   have:=qG os recs (j+1) ht i o tm v (by simpa using ho) (by simpa using hr)
   rw [show j+(i+1)=j+1+i by omega]
   exact this
theorem GF (hO:Ordd ops bf){tm tm':List Value}{h h':Heap}(hr:pX P gl cf ops bf tm h=some (tm',h')):
  ∃ st en,Run P gl cf ops bf h.next st en/\st 0=(tm,{ h with next:=h.next+ops.size },[])/\(st ops.size).1=tm'/\h'=aC (st ops.size).2.1 h.next (st ops.size).2.2:=by
 unfold pX at hr
 split at hr
 ·next recs tm2 h2 pd hd=>
  split at hr
  ·next hck=>
   simp only [Bool.and_eq_true] at hck
   simp only [Option.some.injEq,Prod.mk.injEq] at hr
   obtain ⟨rfl,rfl⟩:=hr
   obtain ⟨st,en,h1,h2',h3,h4⟩:=pM (P:=P) (gl:=gl) (cf:=cf) ops.toList 0 (tm,{ h with next:=h.next+ops.size },[]) recs (tm2,h2,pd) hd
   simp only [Nat.zero_add,Array.length_toList,Array.getElem?_toList] at h2' h3 h4
   refine ⟨st,en,⟨fun i o ho=>(h4 i o ho).1,?_,?_⟩,h1,by rw [h2'],by rw [h2']⟩
   ·intro e₁ e₂ hlt hsz i1 i2
    have:=qR hO.trans recs 0 hck.1 e₁ e₂ _ _ hlt (h4 e₁ _ (Array.getElem?_eq_getElem (by omega))).2 (h4 e₂ _ (Array.getElem?_eq_getElem hsz)).2 i1 i2
    simpa using this
   ·intro j o v ho hen c hc hb1 hb2
    have hrec:=(h4 j o ho).2
    rw [hen] at hrec
    have h5:=qG ops.toList recs 0 hck.2 j o _ v (by simpa using ho) hrec
    rw [Nat.zero_add] at h5
    have h0:(st 0).2.1={ h with next:=h.next+ops.size }:=by rw [h1]
    rw [<-h0] at h5
    have hheap: ∀ c d,c+d<=ops.size->(∀ e,c<=e->e < c+d->(en e).isEff=false)->(st (c+d)).2.1=(st c).2.1:=by
     intro c d
     induction d with
     | zero=>intros; rfl
     | succ d ih=>
      intro hs hn
      have:=((h4 (c+d) _ (Array.getElem?_eq_getElem (by omega))).1).heap.2 (hn (c+d) (by omega) (by omega))
      rw [show c+(d+1)=c+d+1 by omega,this]
      exact ih (by omega) fun e he1 he2=>hn e he1 (by omega)
    have hjs:j < ops.size:=(Array.getElem?_eq_some_iff.1 ho).1
    have hone:=(h4 j o ho).1
    rw [hen] at hone
    simp only [One] at hone
    refine iT (st:=st) (en:=en) hjs ?_ recs 0 true (fun k r hk=>by
      have hlt:k < ops.size:=by rw [<-h3]; exact (List.getElem?_eq_some_iff.1 hk).1
      have:=(h4 k _ (Array.getElem?_eq_getElem hlt)).2
      rw [this] at hk
      obtain rfl:=oI hk
      simp) (by omega)
     (fun k _ hk=>by
      have hlt:k < ops.size:=by omega
      exact ((h4 k _ (Array.getElem?_eq_getElem hlt)).1).heap) (fun _ e _ he=>by omega) h5 c (by omega) (by omega) (fun e _=>hb1 e) (fun e he1 he2=>hb2 e he1 (by omega))
    intro c hc hn1 hn2
    rcases Nat.lt_or_ge j c with hlt | hge
    ·have:=hheap j (c - j) (by omega) fun e he1 he2=>hn1 e he1 (by omega)
     rw [show j+(c - j)=c by omega] at this
     rw [this]; exact hone.2.1
    ·have:=hheap c (j - c) (by omega) fun e he1 he2=>hn2 e he1 (by omega)
     rw [show c+(j - c)=j by omega] at this
     rw [<-this]; exact hone.2.1
  ·cases hr
 ·cases hr
end
end
section
variable {P:Program} {gl:Nat->Bool}
theorem jA {h:Heap}{base:Nat}: ∀ (R:List (Nat×Blk)),(∀ i B B',(i,B)∈R->(i,B')∈R->B=B')->(∀ i B,(i,B)∈R->h.get (base+i)=none)->
  ∀ k B,(aC h base R).get k=some B↔h.get k=some B\/ ∃ i,k=base+i/\(i,B)∈R
 | [],_,_,k,B=>by simp [aC]
 | (j,B₀)::R,hf,hn,k,B=>by
  have ih:=jA R (fun i B B' h1 h2=>hf i B B' (List.mem_cons_of_mem _ h1) (List.mem_cons_of_mem _ h2)) (fun i B h1=>hn i B (List.mem_cons_of_mem _ h1)) k B
  simp only [aC,Heap.get_set]
  by_cases hk:k=base+j
  ·rw [if_pos hk]
   constructor
   ·intro he
    obtain rfl:=oI he
    exact .inr ⟨j,hk,List.mem_cons_self⟩
   ·rintro (he | ⟨i,h1,h2⟩)
    ·rw [hk,hn j B₀ List.mem_cons_self] at he; cases he
    ·obtain rfl:i=j:=by omega
     rw [hf i B B₀ h2 List.mem_cons_self]
  ·rw [if_neg hk,ih]
   constructor
   ·rintro (he | ⟨i,h1,h2⟩)
    ·exact .inl he
    ·exact .inr ⟨i,h1,List.mem_cons_of_mem _ h2⟩
   ·rintro (he | ⟨i,h1,h2⟩)
    ·exact .inl he
    ·rcases List.mem_cons.1 h2 with h3 | h3
     ·simp only [Prod.mk.injEq] at h3
      exact absurd (by rw [h1,h3.1]) hk
     ·exact .inr ⟨i,h1,h3⟩
theorem bW {h:Heap}{base:Nat}: ∀ (R:List (Nat×Blk)),(aC h base R).next=h.next
 | []=>rfl
 | _::R=>bW R
theorem cY (tm:List Value)(d:Option Tmp)(v:Value):(dh tm d v).length=tm.length:=by cases d <;> simp [dh]
theorem FG {tm:List Value}{d:Option Tmp}{v:Value}{t:Tmp}(h:d≠some t):(dh tm d v)[t]?=tm[t]?:=by
 cases d with
 | none=>rfl
 | some d=>simp only [dh]; rw [List.getElem?_set_ne]; rintro rfl; exact h rfl
theorem Dk {tm:List Value}{v:Value}{t:Tmp}(h:t < tm.length):(dh tm (some t) v)[t]?=some v:=by
 simp only [dh]; rw [List.getElem?_set_self h]
section
variable {cf:aX} {ops:Array Oper} {bf:Nat->Nat->Bool} {base:Nat} {st:Nat->Jf} {en:Nat->Ent}
theorem Run.tm_length (hR:Run P gl cf ops bf base st en): ∀ i,i<=ops.size->(st i).1.length=(st 0).1.length
 | 0,_=>rfl
 | i+1,h=>by
  rw [(hR.one i _ (Array.getElem?_eq_getElem (by omega))).tm,cY]
  exact hR.tm_length i (by omega)
theorem Run.tm_old (hR:Run P gl cf ops bf base st en)(t:Tmp): ∀ i,i<=ops.size->(∀ (i':Nat)(o':Oper),i' < i->ops[i']?=some o'->o'.dst≠some t)->(st i).1[t]?=(st 0).1[t]?
 | 0,_,_=>rfl
 | i+1,h,hn=>by
  have ho:=Array.getElem?_eq_getElem (xs:=ops) (i:=i) (by omega)
  rw [(hR.one i _ ho).tm,FG (hn i _ (by omega) ho)]
  exact hR.tm_old t i (by omega) fun i' o' h1 h2=>hn i' o' (by omega) h2
theorem Run.tm_new (hO:Ordd ops bf)(hR:Run P gl cf ops bf base st en){t:Tmp}(ht:t < (st 0).1.length){i':Nat}{o':Oper}(ho':ops[i']?=some o')(hd:o'.dst=some t): ∀ i,i<=ops.size->i' < i->(st i).1[t]?=some (en i').val
 | 0,_,h=>absurd h (by omega)
 | i+1,h,hlt=>by
  have ho:=Array.getElem?_eq_getElem (xs:=ops) (i:=i) (by omega)
  rw [(hR.one i _ ho).tm]
  by_cases he:i'=i
  ·subst he
   rw [ho'] at ho
   obtain rfl:=oI ho
   rw [hd,Dk (by rw [hR.tm_length _ (by omega)]; exact ht)]
  ·rw [FG fun hd2=>he (hO.uniq i' i o' _ t ho' ho hd hd2)]
   exact hR.tm_new hO ht ho' hd i (by omega) (by omega)
theorem Run.same_heap (hR:Run P gl cf ops bf base st en){c:Nat}: ∀ (d:Nat),c+d<=ops.size->(∀ e,c<=e->e < c+d->(en e).isEff=false)->(st (c+d)).2.1=(st c).2.1
 | 0,_,_=>rfl
 | d+1,h,hn=>by
  rw [show c+(d+1)=c+d+1 by omega,(hR.one (c+d) _ (Array.getElem?_eq_getElem (by omega))).heap.2 (hn _ (by omega) (by omega))]
  exact hR.same_heap d (by omega) fun e h1 h2=>hn e h1 (by omega)
def Pend (bf:Nat->Nat->Bool)(en:Nat->Ent)(c i:Nat)(B:Blk):Prop:=(∃ v,en i = .alloc B v)/\ ∀ e,e < c->(en e).isEff=true->bf e i=false
theorem Run.pend (hO:Ordd ops bf)(hR:Run P gl cf ops bf base st en)(h0:(st 0).2.2=[]): ∀ m,m<=ops.size-> ∀ i B,(i,B)∈(st m).2.2↔i < m/\Pend bf en m i B
 | 0,_,i,B=>by rw [h0]; simp
 | m+1,h,i,B=>by
  have ih:=hR.pend hO h0 m (by omega) i B
  have hone:=hR.one m _ (Array.getElem?_eq_getElem (by omega))
  have calm:(en m).isEff=false->(∀ B v,en m≠ .alloc B v)->(i < m+1/\Pend bf en (m+1) i B↔i < m/\Pend bf en m i B):=fun hne hna=>by
   constructor
   ·rintro ⟨h1,⟨v,h2⟩,h3⟩
    refine ⟨?_,⟨v,h2⟩,fun e he=>h3 e (by omega)⟩
    rcases Nat.lt_or_ge i m with h4 | h4
    ·exact h4
    ·obtain rfl:i=m:=by omega
     exact absurd h2 (hna B v)
   ·rintro ⟨h1,h2,h3⟩
    refine ⟨by omega,h2,fun e he hef=> ?_⟩
    rcases Nat.lt_or_ge e m with h4 | h4
    ·exact h3 e h4 hef
    ·obtain rfl:e=m:=by omega
     rw [hne] at hef; cases hef
  cases hm:en m with
  | skip=>
   rw [hm] at hone; simp only [One] at hone
   rw [hone.2,ih,calm (by rw [hm]; rfl) (by rw [hm]; intro B v h; cases h)]
  | pure v=>
   rw [hm] at hone; simp only [One] at hone
   rw [hone.2.2,ih,calm (by rw [hm]; rfl) (by rw [hm]; intro B v h; cases h)]
  | read v=>
   rw [hm] at hone; simp only [One] at hone
   rw [hone.2.2,ih,calm (by rw [hm]; rfl) (by rw [hm]; intro B v h; cases h)]
  | alloc B₀ v=>
   rw [hm] at hone; simp only [One] at hone
   rw [hone.2.2]
   simp only [List.mem_cons,Prod.mk.injEq]
   rw [ih]
   constructor
   ·rintro (⟨rfl,rfl⟩ | ⟨h1,h2,h3⟩)
    ·refine ⟨by omega,⟨v,hm⟩,fun e he _=> ?_⟩
     cases hb:bf e i with
     | false=>rfl
     | true=>have:=hO.lt _ _ hb; omega
    ·refine ⟨by omega,h2,fun e he hef=> ?_⟩
     rcases Nat.lt_or_ge e m with h4 | h4
     ·exact h3 e h4 hef
     ·obtain rfl:e=m:=by omega
      rw [hm] at hef; cases hef
   ·rintro ⟨h1,⟨v',h2⟩,h3⟩
    rcases Nat.lt_or_ge i m with h4 | h4
    ·exact .inr ⟨h4,⟨v',h2⟩,fun e he=>h3 e (by omega)⟩
    ·obtain rfl:i=m:=by omega
     rw [hm] at h2
     cases h2
     exact .inl ⟨rfl,rfl⟩
  | eff v h'=>
   rw [hm] at hone; simp only [One] at hone
   rw [hone.2.2]
   simp only [List.mem_filter,Bool.not_eq_true']
   rw [ih]
   constructor
   ·rintro ⟨⟨h1,h2,h3⟩,h4⟩
    refine ⟨by omega,h2,fun e he hef=> ?_⟩
    rcases Nat.lt_or_ge e m with h5 | h5
    ·exact h3 e h5 hef
    ·obtain rfl:e=m:=by omega
     exact h4
   ·rintro ⟨h1,⟨v',h2⟩,h3⟩
    have hlt:i < m:=by
     rcases Nat.lt_or_ge i m with h5 | h5
     ·exact h5
     ·obtain rfl:i=m:=by omega
      rw [hm] at h2; cases h2
    exact ⟨⟨hlt,⟨v',h2⟩,fun e he=>h3 e (by omega)⟩,h3 m (by omega) (by rw [hm]; rfl)⟩
def TmS (ops:Array Oper)(en:Nat->Ent)(tm₀:List Value)(S:List Nat)(β:Inj)(a:Act):Prop:=
 a.tmps.size=tm₀.length/\ ∀ (t:Tmp)(v':Value),a.tmps[t]?=some v'->(∀ (i:Nat)(o:Oper),i∈S->ops[i]?=some o->o.dst=some t->VRel β (en i).val v')/\
  ((∀ (i:Nat)(o:Oper),i∈S->ops[i]?=some o->o.dst≠some t)-> ∀ v,tm₀[t]?=some v->VRel β v v')
theorem TmS.mono {tm₀:List Value}{S:List Nat}{β β':Inj}{a:Act}(h:TmS ops en tm₀ S β a)(hle:β.le β'):TmS ops en tm₀ S β' a:=
 ⟨h.1,fun t v' hv=>⟨fun i o h1 h2 h3=>((h.2 t v' hv).1 i o h1 h2 h3).mono hle,fun h1 v h2=>((h.2 t v' hv).2 h1 v h2).mono hle⟩⟩
theorem TmS.put (hO:Ordd ops bf){tm₀:List Value}{S:List Nat}{β:Inj}{a:Act}(h:TmS ops en tm₀ S β a){j:Nat}{o:Oper}(ho:ops[j]?=some o){v':Value}(hv:VRel β (en j).val v'):TmS ops en tm₀ (S++[j]) β (a.put o.dst v'):=by
 refine ⟨by cases hd:o.dst <;> simp [Act.put,h.1],fun t u hu=> ?_⟩
 by_cases hd:o.dst=some t
 ·have hut:u=v':=by
   rw [hd] at hu
   simp only [Act.put,Array.getElem?_setIfInBounds,if_true] at hu
   split at hu
   ·exact (oI hu).symm
   ·cases hu
  subst hut
  refine ⟨fun i o' _ h2 h3=> ?_,fun hno=>absurd hd (hno j o (by simp) ho)⟩
  obtain rfl:=hO.uniq i j o' o t h2 ho h3 hd
  exact hv
 ·have hu':a.tmps[t]?=some u:=by
   cases hdd:o.dst with
   | none=>rw [hdd] at hu; exact hu
   | some d=>
    rw [hdd] at hu hd
    simp only [Act.put,Array.getElem?_setIfInBounds] at hu
    rw [if_neg (by rintro rfl; exact hd rfl)] at hu
    exact hu
  obtain ⟨h1,h2⟩:=h.2 t u hu'
  refine ⟨fun i o' h3 h4 h5=> ?_,fun hno=>h2 fun i o' h3=>hno i o' (List.mem_append_left _ h3)⟩
  rcases List.mem_append.1 h3 with h3 | h3
  ·exact h1 i o' h3 h4 h5
  ·simp only [List.mem_singleton] at h3
   subst h3
   rw [ho] at h4
   obtain rfl:=oI h4
   exact absurd h5 hd
theorem TmS.sees (hO:Ordd ops bf)(hR:Run P gl cf ops bf base st en){L pre suf:List Nat}{j:Nat}(hL:Topo ops L)(he:L=pre++j::suf){β:Inj}{a:Act}(h:TmS ops en (st 0).1 pre β a)(hg:Gl gl β){o:Oper}(ho:ops[j]?=some o):
  ∀ x∈o.op.operands,VRel β (ev gl (st j).1 x) (a.eval x):=by
 have hjs:j < ops.size:=(Array.getElem?_eq_some_iff.1 ho).1
 intro x hx
 cases x with
 | tmp t=>
  simp only [ev,Act.eval]
  by_cases ht:t < (st 0).1.length
  ·have hta:t < a.tmps.size:=by rw [h.1]; exact ht
   obtain ⟨h1,h2⟩:=h.2 t _ (Array.getElem?_eq_getElem hta)
   rw [Array.getD_eq_getD_getElem?,Array.getElem?_eq_getElem hta,Option.getD_some]
   by_cases hw: ∃ (i:Nat)(o':Oper),i∈pre/\ops[i]?=some o'/\o'.dst=some t
   ·obtain ⟨i,o',hi,ho',hd⟩:=hw
    have hlt:i < j:=by
     rcases hO.names j o t ho hx i o' ho' hd with rfl | hb | hb
     ·have:=hL.nodup
      rw [he] at this
      exact absurd rfl (List.nodup_append.1 this |>.2.2 i hi i List.mem_cons_self)
     ·exact hO.lt _ _ hb
     ·obtain ⟨p1,p2,rfl⟩:=List.append_of_mem hi
      have:=hO.topo L hL p1 i (p2++j::suf) (by rw [he]; simp) j hb
      have hnd:=hL.nodup
      rw [he] at hnd
      exact absurd rfl ((List.nodup_append.1 hnd).2.2 j (List.mem_append_left _ this) j List.mem_cons_self)
    rw [gD,hR.tm_new hO ht ho' hd j (by omega) hlt]
    exact h1 i o' hi ho' hd
   ·have hold:=hR.tm_old t j (by omega) fun i' o' hlt ho' hd=>by
     rcases hO.names j o t ho hx i' o' ho' hd with rfl | hb | hb
     ·omega
     ·exact hw ⟨i',o',hO.topo L hL pre j suf he i' hb,ho',hd⟩
     ·have:=hO.lt _ _ hb; omega
    rw [gD,hold,gE ht]
    exact h2 (fun i o' h3 h4 h5=>hw ⟨i,o',h3,h4,h5⟩) _ (gE ht)
  ·have hta: ¬ t < a.tmps.size:=by rw [h.1]; exact ht
   rw [gD,List.getElem?_eq_none (by rw [hR.tm_length j (by omega)]; exact Nat.le_of_not_lt ht),Array.getD_eq_getD_getElem?,Array.getElem?_eq_none (Nat.le_of_not_lt hta)]
   exact .undef β
 | const v=>
  simp only [ev,Act.eval]
  split
  ·next hp=>exact .of_plain hp
  ·exact .junk v
 | global g=>
  simp only [ev,Act.eval]
  split
  ·next hp=>
   obtain ⟨sl,h1,h2,h3,h4⟩:=hg g hp
   have:=VRel.ptr (i:=0) h1 h4
   rwa [h2,h3] at this
  ·exact .junk _
 | func f=>
  simp only [ev,Act.eval]
  exact .func rfl rfl rfl (fun i v v' h=>by simp at h) (fun i v v' h=>by simp at h)
theorem TmS.wanted (hO:Ordd ops bf)(hR:Run P gl cf ops bf base st en){L pre suf:List Nat}{j:Nat}(hL:Topo ops L)(he:L=pre++j::suf){β:Inj}{a:Act}(h:TmS ops en (st 0).1 pre β a){o:Oper}(ho:ops[j]?=some o){b:Bool}
  (hw:cm ops (st j).1 o=some b):Region.wanted o (yielded ops a.tmps)=b:=by
 have hjs:j < ops.size:=(Array.getElem?_eq_some_iff.1 ho).1
 unfold cm at hw
 unfold Region.wanted
 split at hw
 ·next hg=>rw [hg]; simpa using hw
 ·next i want hg=>
  rw [hg]
  simp only [yielded]
  have hb:=hO.guards j o i want ho hg
  have hi:=hO.topo L hL pre j suf he i hb
  split at hw
  ·next d hd=>
   rw [hd]
   simp only [Option.bind_some]
   obtain ⟨oi,hoi,hdi⟩:=Option.bind_eq_some_iff.1 hd
   have hval: ∀ v,(st j).1[d]?=some v->v=(en i).val/\ ∃ v',a.tmps[d]?=some v'/\VRel β v v':=by
    intro v hv
    have hdl:d < (st 0).1.length:=by rw [<-hR.tm_length j (by omega)]; exact (List.getElem?_eq_some_iff.1 hv).1
    have hda:d < a.tmps.size:=by rw [h.1]; exact hdl
    have:=hR.tm_new hO hdl hoi hdi j (by omega) (hO.lt _ _ hb)
    rw [this] at hv
    obtain rfl:=oI hv
    exact ⟨rfl,_,Array.getElem?_eq_getElem hda,(h.2 d _ (Array.getElem?_eq_getElem hda)).1 i oi hi hoi hdi⟩
   split at hw
   ·next b' hb'=>
    obtain ⟨_,v',h1,h2⟩:=hval _ (Dx hb')
    rw [h2.inv_bool] at h1
    rw [h1]
    simp only [Option.some.injEq] at hw
    subst hw
    cases b' <;> cases want <;> rfl
   ·next vs hb'=>
    simp only [Option.some.injEq] at hw
    subst hw
    rcases zV hb' with hb' | hb'
    ·obtain ⟨_,v',h1,h2⟩:=hval _ hb'
     obtain ⟨vs',rfl,_⟩:=h2.inv_tuple
     rw [h1]
     rfl
    ·have hdn:a.tmps[d]?=none:=Array.getElem?_eq_none (by rw [h.1,<-hR.tm_length j (by omega)]; exact List.getElem?_eq_none_iff.1 hb')
     rw [hdn]
     rfl
   ·cases hw
  ·cases hw
end
end
section
variable {β:Inj} {P:Program} {gl:Nat->Bool}
theorem wn {r:Option Nat}{n:Nat}{o:Oper}{a:Act}{w w':World}{v':Value}(hnd: ∀ c,o.op≠ .defer c)(hrun:(execOp a.eval o).run P w = .ok (.value v') w'){next:Act->World->Prop}{Q:Exit->Act->World->Prop}
  (h:next (a.put o.dst v') w'):o.wpIn (eu r) n P a w next Q:=by
 refine ⟨fun _ _=>trivial,?_⟩
 rw [Oper.semAt_eq _ _ _ hnd,hrun]
 exact h
theorem OF (hN:bT P){cf:aX}(hcf:CfOk P gl cf){r:Option Nat}{n:Nat}{ρ:Operand->Value}{a:Act}{h:Heap}{w:World}{o:Oper}{v:Value}{u:Upd}(hs:Sim β h w)(hg:Gl gl β)(hρ: ∀ x,VRel β (ρ x) (a.eval x))
  (hr:bA P cf ρ o h=some (v,u)) (next:Act->World->Prop) (Q:Exit->Act->World->Prop)
  (hk: ∀ v' w' β',Step β h w β' (u.app h) w'->VRel β' v v'->next (a.put o.dst v') w'):o.wpIn (eu r) n P a w next Q:=by
 refine ⟨fun _ _=>trivial,?_⟩
 have hnd: ∀ c,o.op≠ .defer c:=by
  intro c hc
  simp [bA,hc] at hr
 rw [Oper.semAt_eq _ _ _ hnd]
 by_cases hc:aE o=false
 ·obtain ⟨v',w',β',h1,h2,h3⟩:=wd hρ hc hs hr
  rcases h1 with h1 | ⟨h1,rfl⟩
  ·rw [h1]
   exact hk v' w' β' h2 h3
  ·rw [h1]
   exact hk undef w' β' h2 h3
 ·unfold aE at hc
  split at hc
  ·next f args ats ho=>
   simp only [bA,ho] at hr
   exact Ho hN hcf ho hs hg hρ hr next Q hk
  ·exact absurd rfl hc
open Classical in
noncomputable def only (o:Oper)(ρ:Operand->Value):Operand->Value:=fun x=>if x∈o.op.operands then ρ x else junk
theorem yM {o:Oper}{ρ:Operand->Value}: ∀ x∈o.op.operands,ρ x=only o ρ x:=fun x hx=>by simp [only,hx]
theorem PY {o:Oper}{ρ ρ':Operand->Value}(h: ∀ x∈o.op.operands,VRel β (ρ x) (ρ' x)): ∀ x,VRel β (only o ρ x) (ρ' x):=fun x=>by
 unfold only
 split
 ·next hx=>exact h x hx
 ·exact .junk _
section
variable {cf:aX} {ops:Array Oper} {bf:Nat->Nat->Bool} {st:Nat->Jf} {en:Nat->Ent}
structure Inv (ops:Array Oper)(bf:Nat->Nat->Bool)(st:Nat->Jf)(en:Nat->Ent)(β₀:Inj)(h:Heap)(w₀:World)(a₀:Act)(pre:List Nat)(β:Inj)(w:World)(a:Act)(c:Nat)(R:List (Nat×Blk)):Prop where
 le:c<=ops.size
 effs: ∀ e,e < ops.size->(en e).isEff=true->(e∈pre↔e < c)
 mem: ∀ i B,(i,B)∈R↔i∈pre/\Pend bf en c i B
 step:Step β₀ h w₀ β (aC (st c).2.1 h.next R) w
 room:h.next+ops.size<=(st c).2.1.next
 nokey: ∀ i B,i < ops.size->(st c).2.1.get (h.next+i)=some B-> ∃ e,e < c/\(en e).isEff=true/\bf e i=true
 free: ∀ i,i < ops.size->i ∉ pre->(∃ B v,en i = .alloc B v)->β (h.next+i)=none
 tms:TmS ops en (st 0).1 pre β a
 dfs:a.defers=a₀.defers
theorem Pend.fun_ {c i:Nat}{B B':Blk}(h:Pend bf en c i B)(h':Pend bf en c i B'):B=B':=by
 obtain ⟨v,h1⟩:=h.1
 obtain ⟨v',h2⟩:=h'.1
 rw [h1] at h2; cases h2; rfl
variable {β₀:Inj} {h:Heap} {w₀:World} {a₀:Act} {pre:List Nat} {w:World} {a:Act} {c:Nat} {R:List (Nat×Blk)}
theorem Inv.none_ (hI:Inv ops bf st en β₀ h w₀ a₀ pre β w a c R){i:Nat}{B:Blk}(hi:i < ops.size)(hp:Pend bf en c i B):(st c).2.1.get (h.next+i)=none:=by
 cases hg:(st c).2.1.get (h.next+i) with
 | none=>rfl
 | some B'=>
  obtain ⟨e,h1,h2,h3⟩:=hI.nokey i B' hi hg
  rw [hp.2 e h1 h2] at h3; cases h3
theorem Inv.get (hI:Inv ops bf st en β₀ h w₀ a₀ pre β w a c R)(hpre: ∀ i∈pre,i < ops.size)(k:Nat)(B:Blk):
  (aC (st c).2.1 h.next R).get k=some B↔(st c).2.1.get k=some B\/ ∃ i,k=h.next+i/\(i,B)∈R:=
 jA R (fun i B B' h1 h2=>((hI.mem i B).1 h1).2.fun_ ((hI.mem i B').1 h2).2) (fun i B h1=>hI.none_ (hpre i ((hI.mem i B).1 h1).1) ((hI.mem i B).1 h1).2) k B
theorem Inv.sub (hI:Inv ops bf st en β₀ h w₀ a₀ pre β w a c R)(hpre: ∀ i∈pre,i < ops.size):Sim β (st c).2.1 w:=
 hI.step.sim.sub (bW R).symm fun k B hk=>(hI.get hpre k B).2 (.inl hk)
theorem Inv.calm (hO:Ordd ops bf)(hI:Inv ops bf st en β₀ h w₀ a₀ pre β w a c R){j:Nat}{o:Oper}(ho:ops[j]?=some o)(hne:(en j).isEff=false)(hna: ∀ B v,en j≠ .alloc B v){v':Value}(hv:VRel β (en j).val v'):
  Inv ops bf st en β₀ h w₀ a₀ (pre++[j]) β w (a.put o.dst v') c R where
 le:=hI.le
 effs:=fun e he hef=>by
  rw [List.mem_append,hI.effs e he hef]
  refine ⟨fun hh=> ?_,.inl⟩
  rcases hh with hh | hh
  ·exact hh
  ·simp only [List.mem_singleton] at hh
   subst hh
   rw [hne] at hef; cases hef
 mem:=fun i B=>by
  rw [hI.mem,List.mem_append]
  refine ⟨fun ⟨h1,h2⟩=>⟨.inl h1,h2⟩,fun ⟨h1,h2⟩=>⟨?_,h2⟩⟩
  rcases h1 with h1 | h1
  ·exact h1
  ·simp only [List.mem_singleton] at h1
   subst h1
   obtain ⟨v,hv⟩:=h2.1
   exact absurd hv (hna B v)
 step:=hI.step
 room:=hI.room
 nokey:=hI.nokey
 free:=fun i h1 h2=>hI.free i h1 fun hh=>h2 (List.mem_append_left _ hh)
 tms:=hI.tms.put hO ho hv
 dfs:=(bH a o.dst v').trans hI.dfs
theorem GO (hN:bT P)(hcf:CfOk P gl cf)(hO:Ordd ops bf)(hR:Run P gl cf ops bf h.next st en)(hpd:(st 0).2.2=[]){L:List Nat}(hL:Topo ops L){r:Option Nat}{n:Nat}{Q:Exit->Act->World->Prop}(hg₀:Gl gl β₀)
  (hk: ∀ a' w' β',Step β₀ h w₀ β' (aC (st ops.size).2.1 h.next (st ops.size).2.2) w'->LRel β' (st ops.size).1 a'.tmps.toList->a'.defers=a₀.defers->Q .normal a' w'):
  ∀ (suf pre:List Nat)(β:Inj)(w:World)(a:Act)(c:Nat)(R:List (Nat×Blk)),L=pre++suf->Inv ops bf st en β₀ h w₀ a₀ pre β w a c R->wpOpsIn (eu r) n P ops Q suf a w
 | [],pre,β,w,a,c,R,he,hI=>by
  rw [List.append_nil] at he
  subst he
  have hpre: ∀ i∈L,i < ops.size:=fun i hi=>(hL.mem i).1 hi
  have hnoeff: ∀ e,c<=e->e < ops.size->(en e).isEff=false:=fun e h1 h2=>by
   cases hef:(en e).isEff with
   | false=>rfl
   | true=>have:=(hI.effs e h2 hef).1 ((hL.mem e).2 h2); omega
  have hle:=hI.le
  have hsame:(st ops.size).2.1=(st c).2.1:=by
   have:=hR.same_heap (c:=c) (ops.size - c) (by omega) fun e h1 h2=>hnoeff e h1 (by omega)
   rwa [show c+(ops.size - c)=ops.size by omega] at this
  have hpend: ∀ i B,Pend bf en ops.size i B↔Pend bf en c i B:=fun i B=>by
   refine ⟨fun hp=>⟨hp.1,fun e h1=>hp.2 e (by omega)⟩,fun hp=>⟨hp.1,fun e h1 h2=>hp.2 e ?_ h2⟩⟩
   rcases Nat.lt_or_ge e c with h3 | h3
   ·exact h3
   ·rw [hnoeff e h3 h1] at h2; cases h2
  have hmem: ∀ i B,(i,B)∈(st ops.size).2.2↔(i,B)∈R:=fun i B=>by
   rw [hR.pend hO hpd ops.size (Nat.le_refl _),hI.mem,hpend,hL.mem]
  have hget:=hI.get hpre
  have hget2: ∀ k B,(aC (st ops.size).2.1 h.next (st ops.size).2.2).get k=some B↔(st c).2.1.get k=some B\/ ∃ i,k=h.next+i/\(i,B)∈(st ops.size).2.2:=by
   rw [hsame]
   exact jA _ (fun i B B' h1 h2=>((hI.mem i B).1 ((hmem i B).1 h1)).2.fun_ ((hI.mem i B').1 ((hmem i B').1 h2)).2)
    (fun i B h1=>hI.none_ (hpre i ((hI.mem i B).1 ((hmem i B).1 h1)).1) ((hI.mem i B).1 ((hmem i B).1 h1)).2)
  have hS:Same (aC (st c).2.1 h.next R) (aC (st ops.size).2.1 h.next (st ops.size).2.2):=by
   refine ⟨by rw [bW,bW,hsame],fun k=>Option.ext fun B=> ?_⟩
   rw [hget,hget2]
   simp only [hmem]
  refine hk a w β (hI.step.same (Same.refl h) hS) ?_ hI.dfs
  refine ⟨?_,fun t v v' h1 h2=> ?_⟩
  ·rw [hR.tm_length _ (Nat.le_refl _),Array.length_toList,hI.tms.1]
  ·rw [Array.getElem?_toList] at h2
   obtain ⟨h3,h4⟩:=hI.tms.2 t v' h2
   have htl:t < (st 0).1.length:=by rw [<-hR.tm_length _ (Nat.le_refl _)]; exact (List.getElem?_eq_some_iff.1 h1).1
   by_cases hw: ∃ (i:Nat)(o:Oper),ops[i]?=some o/\o.dst=some t
   ·obtain ⟨i,o,ho,hd⟩:=hw
    have hi:i < ops.size:=(Array.getElem?_eq_some_iff.1 ho).1
    rw [hR.tm_new hO htl ho hd _ (Nat.le_refl _) hi] at h1
    obtain rfl:=oI h1
    exact h3 i o ((hL.mem i).2 hi) ho hd
   ·rw [hR.tm_old t _ (Nat.le_refl _) fun i o _ ho hd=>hw ⟨i,o,ho,hd⟩] at h1
    exact h4 (fun i o _ ho hd=>hw ⟨i,o,ho,hd⟩) v h1
 | j::suf,pre,β,w,a,c,R,he,hI=>by
  have hpre: ∀ i∈pre,i < ops.size:=fun i hi=>(hL.mem i).1 (by rw [he]; exact List.mem_append_left _ hi)
  have hj:j < ops.size:=(hL.mem j).1 (by rw [he]; simp)
  have hnj:j ∉ pre:=fun hm=>by
   have hnd:=hL.nodup
   rw [he] at hnd
   exact absurd rfl ((List.nodup_append.1 hnd).2.2 j hm j List.mem_cons_self)
  have hbf: ∀ i,bf j i=true->i∈pre:=hO.topo L hL pre j suf he
  have hfb: ∀ i∈pre,bf i j=false:=fun i hi=>by
   cases hb:bf i j with
   | false=>rfl
   | true=>
    obtain ⟨p1,p2,rfl⟩:=List.append_of_mem hi
    exact absurd (List.mem_append_left _ (hO.topo L hL p1 i (p2++j::suf) (by rw [he]; simp) j hb)) hnj
  have ho:=Array.getElem?_eq_getElem hj
  generalize ops[j]=o at ho
  have hone:=hR.one j o ho
  have hg:Gl gl β:=hg₀.mono hI.step.le
  have hsee:=hI.tms.sees hO hR hL he hg ho
  have hρ:=PY hsee
  have hrec:=GO hN hcf hO hR hpd hL (r:=r) (n:=n) hg₀ hk suf (pre++[j])
  have he':L=(pre++[j])++suf:=by rw [he]; simp
  simp only [wpOpsIn,ho]
  cases hen:en j with
  | skip=>
   rw [hen] at hone; simp only [One] at hone
   rw [hI.tms.wanted hO hR hL he ho hone.1]
   simp only [Bool.false_eq_true,if_false]
   refine ⟨fun _ _=>trivial,?_⟩
   exact hrec β w _ c R he' (hI.calm hO ho (by rw [hen]; rfl) (by rw [hen]; intro B v h; cases h) (by rw [hen]; exact .undef β))
  | pure v=>
   rw [hen] at hone; simp only [One] at hone
   obtain ⟨hw,hop,_⟩:=hone
   rw [hI.tms.wanted hO hR hL he ho hw]
   simp only [if_true]
   rw [Fb yM] at hop
   obtain ⟨v',h1,h2⟩:=mK hρ hop w
   refine wn ?_ h1 (hrec β w _ c R he' (hI.calm hO ho (by rw [hen]; rfl) (by rw [hen]; intro B v h; cases h) (by rw [hen]; exact h2)))
   intro cc hc; simp [aD,hc] at hop
  | read v=>
   rw [hen] at hone; simp only [One] at hone
   obtain ⟨hw,_,_⟩:=hone
   rw [hI.tms.wanted hO hR hL he ho hw]
   simp only [if_true]
   have hop:=hR.reads j o v ho hen c hI.le
    (fun e h1 h2=>hfb e ((hI.effs e (by have:=hI.le; omega) h2).2 h1))
    (fun e h1 h2 h3=>by
     cases hb:bf j e with
     | false=>rfl
     | true=>have:=(hI.effs e h2 h3).1 (hbf e hb); omega)
   rw [Fy yM] at hop
   obtain ⟨v',h1,h2⟩:=nh hρ (hI.sub hpre) hop
   refine wn ?_ h1 (hrec β w _ c R he' (hI.calm hO ho (by rw [hen]; rfl) (by rw [hen]; intro B v h; cases h) (by rw [hen]; exact h2)))
   intro cc hc; simp [aH,hc] at hop
  | alloc B v=>
   rw [hen] at hone; simp only [One] at hone
   obtain ⟨hw,⟨f,hop,rfl⟩,_⟩:=hone
   rw [hI.tms.wanted hO hR hL he ho hw]
   simp only [if_true]
   rw [BW yM] at hop
   obtain ⟨v',w',h1,h2⟩:=kX hρ (w:=w) hop
   have hfree:=hI.free j hj hnj ⟨B,_,hen⟩
   have hroom:=hI.room
   obtain ⟨β',h3,h4,h5,h6⟩:=h2.at_key hI.step hfree (by omega) (by rw [bW]; omega)
   refine wn (by intro cc hc; simp [aG,hc] at hop) h1 (hrec β' w' _ c ((j,B)::R) he' ⟨hI.le,?_,?_,h3,hI.room,hI.nokey,?_,?_,(bH a o.dst v').trans hI.dfs⟩)
   ·intro e h7 h8
    rw [List.mem_append,hI.effs e h7 h8]
    refine ⟨fun hh=> ?_,.inl⟩
    rcases hh with hh | hh
    ·exact hh
    ·simp only [List.mem_singleton] at hh
     subst hh
     rw [hen] at h8; cases h8
   ·intro i B'
    rw [List.mem_cons,hI.mem,List.mem_append]
    constructor
    ·rintro (hh | ⟨h7,h8⟩)
     ·simp only [Prod.mk.injEq] at hh
      obtain ⟨rfl,rfl⟩:=hh
      refine ⟨.inr List.mem_cons_self,⟨_,hen⟩,fun e h7 h8=>hfb e ((hI.effs e (by have:=hI.le; omega) h8).2 h7)⟩
     ·exact ⟨.inl h7,h8⟩
    ·rintro ⟨h7 | h7,h8⟩
     ·exact .inr ⟨h7,h8⟩
     ·simp only [List.mem_singleton] at h7
      subst h7
      obtain ⟨v2,h9⟩:=h8.1
      rw [hen] at h9
      cases h9
      exact .inl rfl
   ·intro i h7 h8 h9
    rw [h6 _ fun hh=>h8 (by rw [show i=j by omega]; simp)]
    exact hI.free i h7 (fun hh=>h8 (List.mem_append_left _ hh)) h9
   ·exact (hI.tms.mono h5).put hO ho (by rw [hen]; exact h4)
  | eff v h'=>
   rw [hen] at hone; simp only [One] at hone
   have hheap:(st (j+1)).2.1=h':=by rw [hone.2.2]
   obtain ⟨hw,⟨u,hop,hu⟩,_⟩:=hone
   rw [hI.tms.wanted hO hR hL he ho hw]
   simp only [if_true]
   have hcj:c<=j:=by
    rcases Nat.lt_or_ge j c with h1 | h1
    ·exact absurd ((hI.effs j hj (by rw [hen]; rfl)).2 h1) hnj
    ·exact h1
   have hnoeff: ∀ e,c<=e->e < j->(en e).isEff=false:=fun e h1 h2=>by
    cases hef:(en e).isEff with
    | false=>rfl
    | true=>
     have:=(hI.effs e (by omega) hef).1 (hbf e (hR.chain e j h2 hj hef (by rw [hen]; rfl)))
     omega
   have hsame:(st j).2.1=(st c).2.1:=by
    have:=hR.same_heap (c:=c) (j - c) (by omega) fun e h1 h2=>hnoeff e h1 (by omega)
    rwa [show c+(j - c)=j by omega] at this
   rw [hsame] at hop hu
   have hF: ∀ i B,(i,B)∈(st j).2.2.filter (fun p=>bf j p.1)↔Pend bf en c i B/\bf j i=true:=fun i B=>by
    rw [List.mem_filter,hR.pend hO hpd j (by omega)]
    constructor
    ·rintro ⟨⟨h1,h2,h3⟩,h4⟩
     exact ⟨⟨h2,fun e h5=>h3 e (by omega)⟩,h4⟩
    ·rintro ⟨⟨h2,h3⟩,h4⟩
     refine ⟨⟨hO.lt _ _ h4,h2,fun e h5 h6=> ?_⟩,h4⟩
     rcases Nat.lt_or_ge e c with h7 | h7
     ·exact h3 e h7 h6
     ·rw [hnoeff e h7 h5] at h6; cases h6
   generalize (st j).2.2.filter (fun p=>bf j p.1)=F at hF hop hu
   have hGp:=jA (h:=(st c).2.1) (base:=h.next) F (fun i B B' h1 h2=>((hF i B).1 h1).1.fun_ ((hF i B').1 h2).1)
    (fun i B h1=>hI.none_ (by have:=hO.lt _ _ ((hF i B).1 h1).2; omega) ((hF i B).1 h1).1)
   have hgetV:=hI.get hpre
   have hsub:Sim β (aC (st c).2.1 h.next F) w:=hI.step.sim.sub (by rw [bW,bW]) fun k B hkk=>by
    rw [hgetV]
    rcases (hGp k B).1 hkk with h1 | ⟨i,h1,h2⟩
    ·exact .inl h1
    ·exact .inr ⟨i,h1,(hI.mem i B).2 ⟨hbf i ((hF i B).1 h2).2,((hF i B).1 h2).1⟩⟩
   rw [HC yM] at hop
   refine OF hN hcf hsub hg hρ hop _ _ fun v' w' β' hst hv=> ?_
   rw [<-hu,<-hheap] at hst
   have hroom:=hI.room
   have hnextF:(aC (st c).2.1 h.next F).next=(st c).2.1.next:=bW F
   have hRmem: ∀ i B,(i,B)∈R.filter (fun p=> !bf j p.1)↔i∈pre/\Pend bf en c i B/\bf j i=false:=fun i B=>by
    rw [List.mem_filter,hI.mem]; simp [and_assoc]
   have hRnone: ∀ i B,(i,B)∈R.filter (fun p=> !bf j p.1)->(aC (st c).2.1 h.next F).get (h.next+i)=none:=fun i B hm=>by
    obtain ⟨h1,h2,h3⟩:=(hRmem i B).1 hm
    cases hgk:(aC (st c).2.1 h.next F).get (h.next+i) with
    | none=>rfl
    | some B'=>
     rcases (hGp _ _).1 hgk with h4 | ⟨i',h4,h5⟩
     ·rw [hI.none_ (hpre i h1) h2] at h4; cases h4
     ·obtain rfl:i=i':=by omega
      rw [((hF _ _).1 h5).2] at h3; cases h3
   have hback: ∀ k B,(st (j+1)).2.1.get k=some B->k < (st c).2.1.next-> ∃ B₀,(aC (st c).2.1 h.next F).get k=some B₀:=fun k B h1 h2=>hst.keys k B h1 (by rw [hnextF]; exact h2)
   have hGn:=jA (h:=(st (j+1)).2.1) (base:=h.next) (R.filter fun p=> !bf j p.1) (fun i B B' h1 h2=>((hRmem i B).1 h1).2.1.fun_ ((hRmem i B').1 h2).2.1)
    (fun i B hm=>by
     cases hgk:(st (j+1)).2.1.get (h.next+i) with
     | none=>rfl
     | some B'=>
      obtain ⟨B₀,h4⟩:=hback _ _ hgk (by have:=hpre i ((hRmem i B).1 hm).1; omega)
      rw [hRnone i B hm] at h4; cases h4)
   have hframe:=hst.frame (V:=aC (st c).2.1 h.next R) (V':=aC (st (j+1)).2.1 h.next (R.filter fun p=> !bf j p.1)) hI.step.sim (by rw [bW,hnextF]) (bW _)
    (fun k B=> ∃ i,k=h.next+i/\(i,B)∈R.filter fun p=> !bf j p.1)
    (fun k B ⟨i,h1,h2⟩=>by
     subst h1
     exact ⟨by rw [hnextF]; have:=hpre i ((hRmem i B).1 h2).1; omega,hRnone i B h2⟩)
    (fun k B=>by
     rw [hgetV,hGp]
     constructor
     ·rintro (h1 | ⟨i,h1,h2⟩)
      ·exact .inl (.inl h1)
      ·obtain ⟨h3,h4⟩:=(hI.mem i B).1 h2
       cases hb:bf j i with
       | true=>exact .inl (.inr ⟨i,h1,(hF i B).2 ⟨h4,hb⟩⟩)
       | false=>exact .inr ⟨i,h1,(hRmem i B).2 ⟨h3,h4,hb⟩⟩
     ·rintro ((h1 | ⟨i,h1,h2⟩) | ⟨i,h1,h2⟩)
      ·exact .inl h1
      ·exact .inr ⟨i,h1,(hI.mem i B).2 ⟨hbf i ((hF i B).1 h2).2,((hF i B).1 h2).1⟩⟩
      ·exact .inr ⟨i,h1,(List.mem_filter.1 h2).1⟩)
    hGn
   have hnext:=hst.next
   rw [hnextF] at hnext
   refine hrec β' w' _ (j+1) _ he' ⟨by omega,?_,?_,hI.step.trans hframe,by omega,?_,?_,(hI.tms.mono hst.le).put hO ho (by rw [hen]; exact hv),(bH a o.dst v').trans hI.dfs⟩
   ·intro e h1 h2
    rw [List.mem_append,hI.effs e h1 h2,List.mem_singleton]
    constructor
    ·rintro (h3 | h3) <;> omega
    ·intro h3
     rcases Nat.lt_or_ge e c with h4 | h4
     ·exact .inl h4
     ·rcases Nat.lt_or_ge e j with h5 | h5
      ·rw [hnoeff e h4 h5] at h2; cases h2
      ·exact .inr (by omega)
   ·intro i B
    rw [hRmem,List.mem_append]
    constructor
    ·rintro ⟨h1,⟨h2,h3⟩,h4⟩
     refine ⟨.inl h1,h2,fun e h5 h6=> ?_⟩
     rcases Nat.lt_or_ge e c with h7 | h7
     ·exact h3 e h7 h6
     ·rcases Nat.lt_or_ge e j with h8 | h8
      ·rw [hnoeff e h7 h8] at h6; cases h6
      ·obtain rfl:e=j:=by omega
       exact h4
    ·rintro ⟨h1,⟨v2,h2⟩,h3⟩
     rcases h1 with h1 | h1
     ·exact ⟨h1,⟨⟨v2,h2⟩,fun e h4=>h3 e (by omega)⟩,h3 j (by omega) (by rw [hen]; rfl)⟩
     ·simp only [List.mem_singleton] at h1
      subst h1
      rw [hen] at h2; cases h2
   ·intro i B h1 h2
    obtain ⟨B₀,h3⟩:=hback _ _ h2 (by omega)
    rcases (hGp _ _).1 h3 with h4 | ⟨i',h4,h5⟩
    ·obtain ⟨e,h6,h7,h8⟩:=hI.nokey i B₀ h1 h4
     exact ⟨e,by omega,h7,h8⟩
    ·obtain rfl:i=i':=by omega
     exact ⟨j,by omega,by rw [hen]; rfl,((hF _ _).1 h5).2⟩
   ·intro i h1 h2 h3
    have hold:=hI.free i h1 (fun hh=>h2 (List.mem_append_left _ hh)) h3
    cases hb:β' (h.next+i) with
    | none=>rfl
    | some sl=>
     rcases hst.fresh _ sl hb with h4 | ⟨h4,_⟩
     ·rw [hold] at h4; cases h4
     ·rw [hnextF] at h4; omega
end
end
section
variable {P:Program} {gl:Nat->Bool}
theorem uW: ∀ {x y:List (Value×Value)},vK x y=true->x=y
 | [],[],_=>rfl
 | [],_::_,h=>by simp [vK] at h
 | _::_,[],h=>by simp [vK] at h
 | (a,b)::x,(c,d)::y,h=>by
  simp only [vK,Bool.and_eq_true] at h
  rw [iZ _ _ _ h.1.1,iZ _ _ _ h.1.2,uW h.2]
theorem GY {B C:Blk}(h:Qo B C=true):B=C:=by
 unfold Qo at h
 split at h
 ·simp only [Bool.and_eq_true,Nat.beq_eq,beq_iff_eq] at h
  obtain ⟨⟨⟨h1,rfl⟩,rfl⟩,rfl⟩:=h
  rw [pZ (iZ 4) h1]
 ·rw [uW h]
 ·cases h
theorem Bs {h h':Heap}{k:Nat}(e:R4 h h' k=true):h.get k=h'.get k:=by
 unfold R4 at e
 split at e
 ·next h1 h2=>rw [h1,h2,GY e]
 ·next h1 h2=>rw [h1,h2]
 ·cases e
def Off (h₀:Heap)(s:IC):Prop:=s.2.1.next=h₀.next/\ ∀ k,k ∉ s.2.2->s.2.1.get k=h₀.get k
theorem Off.lay {h₀:Heap}{s:IC}(h:Off h₀ s)(dst:Option Tmp)(v:Value)(u:Option (Nat×Blk)):Off h₀ (Ij s dst v u):=by
 cases u with
 | none=>exact h
 | some p=>
  obtain ⟨k,b⟩:=p
  refine ⟨h.1,fun j hj=> ?_⟩
  simp only [Ij,List.mem_cons,not_or] at hj
  show (s.2.1.set k b).get j=_
  rw [Heap.get_set,if_neg hj.1]
  exact h.2 j hj.2
theorem CZ {ops:Array Oper}{base j:Nat}{h₀:Heap}{s s':IC}(h:Off h₀ s)(hs:HZ P gl ops base j s=some s'):Off h₀ s':=by
 unfold HZ at hs
 split at hs
 ·split at hs
  ·split at hs
   ·obtain rfl:=oI hs; exact h.lay _ _ _
   ·cases hs
  ·obtain rfl:=oI hs; exact h.lay _ _ _
  ·cases hs
 ·cases hs
theorem D0 {ops:Array Oper}{base:Nat}{h₀:Heap}: ∀ (n j:Nat){s s':IC},Off h₀ s->Gq P gl ops base n j s=some s'->Off h₀ s'
 | 0,_,_,_,h,hs=>by simp only [Gq] at hs; obtain rfl:=oI hs; exact h
 | n+1,j,s,s',h,hs=>by
  simp only [Gq] at hs
  split at hs
  ·next s1 h1=>exact D0 n (j+1) (CZ h h1) hs
  ·cases hs
theorem F9 {h₀:Heap}{s s':IC}(h:Off h₀ s)(h':Off h₀ s')(e:QB s s'=true):s.1=s'.1/\Same s.2.1 s'.2.1:=by
 unfold QB at e
 simp only [Bool.and_eq_true] at e
 obtain ⟨⟨e1,e2⟩,e3⟩:=e
 refine ⟨pZ (iZ 4) e1,h.1.trans h'.1.symm,fun k=> ?_⟩
 by_cases k1:k∈s.2.2
 ·exact Bs (List.all_eq_true.1 e2 k k1)
 ·by_cases k2:k∈s'.2.2
  ·exact Bs (List.all_eq_true.1 e3 k k2)
  ·rw [h.2 k k1,h'.2 k k2]
theorem Topo.length {ops:Array Oper}{L:List Nat}(h:Topo ops L):L.length=ops.size:=by
 have:=((List.perm_ext_iff_of_nodup h.nodup List.nodup_range).2 fun i=>by rw [h.mem,List.mem_range]).length_eq
 simpa using this
theorem ST:CfOk P gl dj:=⟨(by intro f args h v h' _ hr; cases hr),(by intro k args h v h' hr; cases hr)⟩
theorem NT (hN:bT P){ops:Array Oper}(hO:Ordd ops (ba (ck ops))){L:List Nat}(hL:Topo ops L){r:Option Nat}{n:Nat}{Q:Exit->Act->World->Prop}{base:Nat}{fin:IC}{h₀ hb:Heap}{β₀:Inj}{w₀:World}{a₀:Act}(hg₀:Gl gl β₀)
  (hbase:hb.next=base+ops.size) (h0n:h₀.next<=base) (hfin:Off hb fin)
  (hk: ∀ a' w' β',Step β₀ h₀ w₀ β' fin.2.1 w'->LRel β' fin.1 a'.tmps.toList->a'.defers=a₀.defers->Q .normal a' w'):
  ∀ (suf pre:List Nat)(β:Inj)(w:World)(a:Act)(s:IC),L=pre++suf->OP P gl ops (ba (ck ops)) base fin suf.length pre.reverse s=true->Off hb s->Step β₀ h₀ w₀ β s.2.1 w->
   (∀ i,i < ops.size->i ∉ pre->β (base+i)=none)->LRel β s.1 a.tmps.toList->a.defers=a₀.defers->wpOpsIn (eu r) n P ops Q suf a w
 | [],pre,β,w,a,s,he,hA,hoff,hst,hfree,ht,hd=>by
  obtain ⟨e1,e2⟩:=F9 hfin hoff hA
  refine hk a w β (hst.same (Same.refl _) e2.symm) (by rw [e1]; exact ht) hd
 | j::suf,pre,β,w,a,s,he,hA,hoff,hst,hfree,ht,hd=>by
  have hj:j < ops.size:=(hL.mem j).1 (by rw [he]; simp)
  have hnj:j ∉ pre:=fun hm=>by
   have hnd:=hL.nodup
   rw [he] at hnd
   exact absurd rfl ((List.nodup_append.1 hnd).2.2 j hm j List.mem_cons_self)
  have hbf: ∀ i,ba (ck ops) j i=true->i∈pre:=hO.topo L hL pre j suf he
  simp only [List.length_cons,OP] at hA
  have h1:=List.all_eq_true.1 hA j (List.mem_range.2 hj)
  simp only [Bool.or_eq_true] at h1
  rcases h1 with (h1 | h1) | h1
  ·exact absurd (by simpa using h1) hnj
  ·obtain ⟨i,hi,hh⟩:=List.any_eq_true.1 h1
   simp only [Bool.and_eq_true,Bool.not_eq_true'] at hh
   have h2:i ∉ pre:=by simpa using hh.2
   exact absurd (hbf i hh.1) h2
  ·split at h1
   ·next s' hs'=>
    have hoff':=CZ hoff hs'
    have ho:=Array.getElem?_eq_getElem hj
    generalize ops[j]=o at ho
    unfold HZ at hs'
    rw [ho] at hs'
    dsimp only at hs'
    have he':L=(pre++[j])++suf:=by rw [he]; simp
    have hrev:(pre++[j]).reverse=j::pre.reverse:=by simp
    have hfree': ∀ i,i < ops.size->i ∉ pre++[j]->β (base+i)=none:=fun i h1 h2=>hfree i h1 fun hh=>h2 (List.mem_append_left _ hh)
    have hg:Gl gl β:=hg₀.mono hst.le
    simp only [wpOpsIn,ho]
    split at hs'
    ·next hw=>
     rw [gw ht hw]
     simp only [if_true]
     split at hs'
     ·next v u hop=>
      obtain rfl:=oI hs'
      have hρ:=wt (β:=β) hg ht
      unfold Xq at hop
      split at hop
      ·next v0 hp=>
       simp only [Option.some.injEq,Prod.mk.injEq] at hop
       obtain ⟨rfl,rfl⟩:=hop
       obtain ⟨v',g1,g2⟩:=mK hρ hp w
       refine wn (by intro cc hc; simp [aD,hc] at hp) g1 (NT hN hO hL hg₀ hbase h0n hfin hk suf (pre++[j]) β w _ _ he' (by rw [hrev]; exact h1) hoff' hst hfree' (f9 ht o.dst g2) ((bH a o.dst v').trans hd))
      ·split at hop
       ·next v0 hp=>
        simp only [Option.some.injEq,Prod.mk.injEq] at hop
        obtain ⟨rfl,rfl⟩:=hop
        obtain ⟨v',g1,g2⟩:=nh hρ hst.sim hp
        refine wn (by intro cc hc; simp [aH,hc] at hp) g1 (NT hN hO hL hg₀ hbase h0n hfin hk suf (pre++[j]) β w _ _ he' (by rw [hrev]; exact h1) hoff' hst hfree' (f9 ht o.dst g2) ((bH a o.dst v').trans hd))
       ·split at hop
        ·next B f hp=>
         simp only [Option.some.injEq,Prod.mk.injEq] at hop
         obtain ⟨rfl,rfl⟩:=hop
         obtain ⟨v',w',g1,g2⟩:=kX hρ (w:=w) hp
         obtain ⟨β',g3,g4,g5,g6⟩:=g2.at_key hst (hfree j hj hnj) (by omega) (by rw [hoff.1,hbase]; omega)
         refine wn (by intro cc hc; simp [aG,hc] at hp) g1 (NT hN hO hL hg₀ hbase h0n hfin hk suf (pre++[j]) β' w' _ _ he' (by rw [hrev]; exact h1) hoff' g3 ?_ (f9 (ht.mono g5) o.dst g4) ((bH a o.dst v').trans hd))
         intro i h2 h3
         rw [g6 _ fun hh=>h3 (by rw [show i=j by omega]; simp)]
         exact hfree' i h2 h3
        ·have key: ∀ {u':Upd}{v:Value},bA P dj (ev gl s.1) o s.2.1=some (v,u')->u'.app s.2.1=(Ij s o.dst v u).2.1->(Ij s o.dst v u).1=dh s.1 o.dst v->OP P gl ops (ba (ck ops)) base fin suf.length (j::pre.reverse) (Ij s o.dst v u)=true->Off hb (Ij s o.dst v u)->
           o.wpIn (eu r) n P a w (fun a' w'=>wpOpsIn (eu r) n P ops Q suf a' w') Q:=by
          intro u' v hop hu hput h1 hoff'
          refine OF hN ST hst.sim hg hρ hop _ _ fun v' w' β' hst' hv=> ?_
          rw [hu] at hst'
          refine NT hN hO hL hg₀ hbase h0n hfin hk suf (pre++[j]) β' w' _ _ he' (by rw [hrev]; exact h1) hoff' (hst.trans hst') (fun i h2 h3=> ?_) (by rw [hput]; exact f9 (ht.mono hst'.le) o.dst hv) ((bH a o.dst v').trans hd)
          have hold:=hfree' i h2 h3
          cases hb':β' (base+i) with
          | none=>rfl
          | some sl=>
           rcases hst'.fresh _ sl hb' with h4 | ⟨h4,_⟩
           ·rw [hold] at h4; cases h4
           ·rw [hoff.1,hbase] at h4; omega
         split at hop
         ·next v0 hp=>
          simp only [Option.some.injEq,Prod.mk.injEq] at hop
          obtain ⟨rfl,rfl⟩:=hop
          exact key hp rfl rfl h1 hoff'
         ·next v0 k0 b0 hp=>
          simp only [Option.some.injEq,Prod.mk.injEq] at hop
          obtain ⟨rfl,rfl⟩:=hop
          exact key hp rfl rfl h1 hoff'
         ·cases hop
     ·cases hs'
    ·next hw=>
     obtain rfl:=oI hs'
     rw [gw ht hw]
     simp only [Bool.false_eq_true,if_false]
     refine ⟨fun _ _=>trivial,?_⟩
     exact NT hN hO hL hg₀ hbase h0n hfin hk suf (pre++[j]) β w _ _ he' (by rw [hrev]; exact h1) hoff' hst hfree' (f9 ht o.dst (.undef β)) ((bH a o.dst undef).trans hd)
    ·cases hs'
   ·cases h1
end
section
variable {P:Program} {gl:Nat->Bool}
theorem Step.room {β:Inj}{h:Heap}{w:World}(hs:Sim β h w)(m:Nat):Step β h w β { h with next:=h.next+m } w:=
 ⟨β.le_refl,Nat.le_add_right _ _,⟨fun k sl hk=>⟨Nat.lt_of_lt_of_le (hs.lt k sl hk).1 (Nat.le_add_right _ _),(hs.lt k sl hk).2⟩,hs.blk,hs.own,fun k B hk=>Nat.lt_of_lt_of_le (hs.wf k B hk) (Nat.le_add_right _ _)⟩,Nat.le_refl _,rfl,rfl,rfl,
  fun _ _ _=>rfl,fun _ _ h=>h,fun _ _ h=> .inl h,fun _ B h _=>⟨B,h⟩⟩
theorem Qs (hN:bT P){cf:aX}(hcf:CfOk P gl cf){id:Nat}{ops:Array Oper}(hO:Ordd ops (ba (ck ops)))(hB:Back ops)(hC:Region.departs ops=true->(Region.linearise .gc ops 0).length=ops.size):
  gX P gl cf (.region id ops true):=by
 intro id' ops' heq β tm tm' a h h' w r n Q hr hs hg ht hk
 cases heq
 refine wpIn_region_draw fun t=> ?_
 have hst0:Step β h w β { h with next:=h.next+ops.size } { w with drawn:=w.drawn+1 }:=
  (Step.of_heap hs rfl rfl rfl rfl:Step β h w β h { w with drawn:=w.drawn+1 }).trans (Step.room (w:={ w with drawn:=w.drawn+1 }) (hs.of_heap rfl) ops.size)
 unfold AS at hr
 split at hr
 ·unfold Gf at hr
  split at hr
  ·next fin hfin=>
   split at hr
   ·next hall=>
    simp only [Option.some.injEq,Prod.mk.injEq] at hr
    obtain ⟨rfl,rfl⟩:=hr
    have hL:=qV hB hC (P.follows .mixedOrders) t
    have hoff:Off { h with next:=h.next+ops.size } (tm,{ h with next:=h.next+ops.size },[]):=⟨rfl,fun _ _=>rfl⟩
    have hlen:(Region.schedule (P.follows .mixedOrders) ops t).length=ops.size:=hL.length
    exact NT hN hO hL (base:=h.next) (fin:=fin) (a₀:=a) hg rfl (Nat.le_refl _) (D0 _ _ hoff hfin) hk _ [] β _ a _ rfl (by rw [hlen]; exact hall) hoff hst0 (fun i hi _=>hs.none_of_ge (by omega)) ht rfl
   ·cases hr
  ·cases hr
 have hst0:True:=trivial
 obtain ⟨st,en,hR,h0,h1,h2⟩:=GF hO hr
 have hL:=qV hB hC (P.follows .mixedOrders) t
 have hst0:Step β h w β { h with next:=h.next+ops.size } { w with drawn:=w.drawn+1 }:=
  (Step.of_heap hs rfl rfl rfl rfl:Step β h w β h { w with drawn:=w.drawn+1 }).trans (Step.room (w:={ w with drawn:=w.drawn+1 }) (hs.of_heap rfl) ops.size)
 refine GO (β₀:=β) (h:=h) (w₀:=w) (a₀:=a) hN hcf hO hR (by rw [h0]) hL hg ?_ _ [] β _ a 0 [] rfl ⟨Nat.zero_le _,?_,?_,?_,?_,?_,?_,?_,rfl⟩
 ·intro a' w' β' h3 h4 h5
  exact hk a' w' β' (by rw [h2]; exact h3) (by rw [<-h1]; exact h4) h5
 ·intro e _ _; simp
 ·intro i B; simp
 ·rw [h0]; exact hst0
 ·rw [h0]; exact Nat.le_refl _
 ·intro i B hi hb
  rw [h0] at hb
  have:h.get (h.next+i)=some B:=hb
  have:=hs.wf _ _ this
  omega
 ·intro i hi _ _
  exact hs.none_of_ge (by omega)
 ·rw [h0]
  refine ⟨by rw [ht.1,Array.length_toList],fun t v' hv=>⟨fun i o hi=>by simp at hi,fun _ v h3=> ?_⟩⟩
  exact ht.2 t v v' h3 (by rw [Array.getElem?_toList]; exact hv)
theorem Hs (g:Nat->Nat)(i:Nat): ∀ (es:List Edge)(s:Nat),(es.foldl (fun s e=>if Region.binds .any e then s ||| 2 ^ e.on ||| g e.on else s) s).testBit i=true↔
  s.testBit i=true\/ ∃ e∈es,Region.binds .any e=true/\(e.on=i\/(g e.on).testBit i=true)
 | [],s=>by simp
 | e::es,s=>by
  rw [List.foldl_cons,Hs g i es]
  cases hb:Region.binds .any e with
  | false=>
   simp only [Bool.false_eq_true,if_false]
   constructor
   ·rintro (h | ⟨e',h1,h2⟩)
    ·exact .inl h
    ·exact .inr ⟨e',List.mem_cons_of_mem _ h1,h2⟩
   ·rintro (h | ⟨e',h1,h2,h3⟩)
    ·exact .inl h
    ·rcases List.mem_cons.1 h1 with rfl | h1
     ·rw [hb] at h2; cases h2
     ·exact .inr ⟨e',h1,h2,h3⟩
  | true=>
   simp only [if_true,Nat.testBit_or,Bool.or_eq_true,Nat.testBit_two_pow,decide_eq_true_eq]
   constructor
   ·rintro (((h | h) | h) | ⟨e',h1,h2⟩)
    ·exact .inl h
    ·exact .inr ⟨e,List.mem_cons_self,hb,.inl h⟩
    ·exact .inr ⟨e,List.mem_cons_self,hb,.inr h⟩
    ·exact .inr ⟨e',List.mem_cons_of_mem _ h1,h2⟩
   ·rintro (h | ⟨e',h1,h2,h3⟩)
    ·exact .inl (.inl (.inl h))
    ·rcases List.mem_cons.1 h1 with rfl | h1
     ·rcases h3 with h3 | h3
      ·exact .inl (.inl (.inr h3))
      ·exact .inl (.inr h3)
     ·exact .inr ⟨e',h1,h2,h3⟩
def pP (acc:Array Nat)(o:Oper):Nat:=o.after.foldl (fun s e=>if Region.binds .any e then s ||| 2 ^ e.on ||| acc.getD e.on 0 else s) 0
theorem CO: ∀ (l:List Oper)(acc:Array Nat),(l.foldl (fun acc o=>acc.push (pP acc o)) acc).size=acc.size+l.length/\
  (∀ i,i < acc.size->(l.foldl (fun acc o=>acc.push (pP acc o)) acc)[i]?=acc[i]?)/\
  ∀ i o,l[i]?=some o-> ∃ acc',(l.foldl (fun acc o=>acc.push (pP acc o)) acc)[acc.size+i]?=some (pP acc' o)/\ ∀ k,k < acc.size+i->acc'[k]?=(l.foldl (fun acc o=>acc.push (pP acc o)) acc)[k]?
 | [],acc=>⟨by simp,fun _ _=>rfl,fun i o h=>by simp at h⟩
 | o::l,acc=>by
  obtain ⟨h1,h2,h3⟩:=CO l (acc.push (pP acc o))
  simp only [Array.size_push] at h1 h2 h3
  refine ⟨by rw [List.foldl_cons,h1,List.length_cons]; omega,fun i hi=> ?_,fun i o' ho=> ?_⟩
  ·rw [List.foldl_cons,h2 i (by omega),Array.getElem?_push,if_neg (by omega)]
  ·rw [List.foldl_cons]
   cases i with
   | zero=>
    simp only [List.getElem?_cons_zero,Option.some.injEq] at ho
    subst ho
    refine ⟨acc,?_,fun k hk=> ?_⟩
    ·rw [Nat.add_zero,h2 _ (by omega),Array.getElem?_push,if_pos rfl]
    ·rw [h2 k (by omega),Array.getElem?_push,if_neg (by omega)]
   | succ i=>
    obtain ⟨acc',h4,h5⟩:=h3 i o' (by simpa using ho)
    refine ⟨acc',?_,fun k hk=>h5 k (by omega)⟩
    rw [show acc.size+(i+1)=acc.size+1+i by omega]; exact h4
theorem M5 (ops:Array Oper):Region.before ops=ops.toList.foldl (fun acc o=>acc.push (pP acc o)) #[]:=by
 unfold Region.before
 rw [<-Array.foldl_toList]; rfl
theorem Tm {ops:Array Oper}(hB:Back ops)(j i:Nat):ba (ck ops) j i=true↔ ∃ o,ops[j]?=some o/\ ∃ e∈o.after,Region.binds .any e=true/\(e.on=i\/ba (ck ops) e.on i=true):=by
 have hg: ∀ k,(ck ops).getD k 0=(Region.before ops).getD k 0:=fun k=>by simp [ck,List.getD,Array.getD_eq_getD_getElem?]
 obtain ⟨h1,_,h3⟩:=CO ops.toList #[]
 rw [<-M5] at h1 h3
 simp only [List.size_toArray,List.length_nil,Nat.zero_add,Array.getElem?_toList,Array.length_toList] at h1 h3
 cases ho:ops[j]? with
 | none=>
  simp only [ba,hg]
  have hn: ¬ j < ops.size:=fun hj=>by rw [Array.getElem?_eq_getElem hj] at ho; cases ho
  rw [Array.getD_eq_getD_getElem?,Array.getElem?_eq_none (by omega)]
  simp
 | some o=>
  obtain ⟨acc',h4,h5⟩:=h3 j o ho
  simp only [ba,hg]
  rw [Array.getD_eq_getD_getElem?,h4,Option.getD_some,pP,<-Array.foldl_toList,Hs (fun k=>acc'.getD k 0)]
  simp only [Nat.zero_testBit,Bool.false_eq_true,false_or,Option.some.injEq,exists_eq_left',Array.mem_toList_iff]
  constructor
  ·rintro ⟨e,he,hb,hh⟩
   refine ⟨e,he,hb,hh.imp id fun hh=> ?_⟩
   have hlt:e.on < j:=by
    rcases hB j o ho e he with h | ⟨h,_⟩
    ·exact h
    ·rw [h] at hb; cases hb
   rw [Array.getD_eq_getD_getElem?,h5 _ hlt,<-Array.getD_eq_getD_getElem?] at hh
   exact hh
  ·rintro ⟨e,he,hb,hh⟩
   refine ⟨e,he,hb,hh.imp id fun hh=> ?_⟩
   have hlt:e.on < j:=by
    rcases hB j o ho e he with h | ⟨h,_⟩
    ·exact h
    ·rw [h] at hb; cases hb
   rw [Array.getD_eq_getD_getElem?,h5 _ hlt,<-Array.getD_eq_getD_getElem?]
   exact hh
theorem Back.lt {ops:Array Oper}(hB:Back ops){j:Nat}{o:Oper}(ho:ops[j]?=some o){e:Edge}(he:e∈o.after)(hb:Region.binds .any e=true):e.on < j:=by
 rcases hB j o ho e he with h | ⟨h,_⟩
 ·exact h
 ·rw [h] at hb; cases hb
theorem uG: ∀ (l:List Oper)(j:Nat),EL l j=true-> ∀ i o,l[i]?=some o-> ∀ e∈o.after,e.on < j+i\/Region.binds .any e=false/\Region.binds .text e=false
 | [],_,_,i,o,ho,_,_=>by simp at ho
 | o'::l,j,h,i,o,ho,e,he=>by
  simp only [EL,Bool.and_eq_true] at h
  cases i with
  | zero=>
   simp only [List.getElem?_cons_zero,Option.some.injEq] at ho
   subst ho
   have:=List.all_eq_true.1 h.1 e (by simpa using he)
   simpa using this
  | succ i=>
   have:=uG l (j+1) h.2 i o (by simpa using ho) e he
   rw [show j+(i+1)=j+1+i by omega]; exact this
theorem od {bs:List Nat}{j:Nat}{t:Tmp}: ∀ (l:List Oper)(k:Nat),oh bs j t l k=true-> ∀ i o,l[i]?=some o->o.dst=some t->k+i=j\/ba bs j (k+i)=true\/ba bs (k+i) j=true
 | [],_,_,i,o,ho,_=>by simp at ho
 | o'::l,k,h,i,o,ho,hd=>by
  simp only [oh,Bool.and_eq_true] at h
  cases i with
  | zero=>
   simp only [List.getElem?_cons_zero,Option.some.injEq] at ho
   subst ho
   have h1:=h.1
   rw [hd] at h1
   simpa [or_assoc] using h1
  | succ i=>
   have:=od l (k+1) h.2 i o (by simpa using ho) hd
   rw [show k+(i+1)=k+1+i by omega]; exact this
theorem mE {bs:List Nat}{all:List Oper}: ∀ (l:List Oper)(k:Nat),EX bs all l k=true-> ∀ i o,l[i]?=some o->
  (∀ t,Operand.tmp t∈o.op.operands->oh bs (k+i) t all 0=true)/\ ∀ g b,o.guard=some (g,b)->ba bs (k+i) g=true
 | [],_,_,i,o,ho=>by simp at ho
 | o'::l,k,h,i,o,ho=>by
  simp only [EX,Bool.and_eq_true] at h
  cases i with
  | zero=>
   simp only [List.getElem?_cons_zero,Option.some.injEq] at ho
   subst ho
   refine ⟨fun t ht=> ?_,fun g b hg=> ?_⟩
   ·exact List.all_eq_true.1 h.1.1 (.tmp t) (by simpa using ht)
   ·have h1:=h.1.2
    rw [hg] at h1
    exact h1
  | succ i=>
   have:=mE l (k+1) h.2 i o (by simpa using ho)
   rw [show k+(i+1)=k+1+i by omega]; exact this
theorem nB: ∀ (l:List Oper)(m:Nat),vI l m=true->(∀ (i:Nat)(o:Oper)(t:Tmp),l[i]?=some o->o.dst=some t->m.testBit t=false)/\
  ∀ (i j:Nat)(o o':Oper)(t:Tmp),l[i]?=some o->l[j]?=some o'->o.dst=some t->o'.dst=some t->i=j
 | [],_,_=>⟨fun i o t h=>by simp at h,fun i j o o' t h=>by simp at h⟩
 | x::l,m,h=>by
  cases hd:x.dst with
  | none=>
   simp only [vI,hd] at h
   obtain ⟨h1,h2⟩:=nB l m h
   refine ⟨fun i o t ho ht=> ?_,fun i j o o' t ho ho' ht ht'=> ?_⟩
   ·cases i with
    | zero=>
     simp only [List.getElem?_cons_zero,Option.some.injEq] at ho
     subst ho; rw [hd] at ht; cases ht
    | succ i=>exact h1 i o t (by simpa using ho) ht
   ·cases i with
    | zero=>
     simp only [List.getElem?_cons_zero,Option.some.injEq] at ho
     subst ho; rw [hd] at ht; cases ht
    | succ i=>
     cases j with
     | zero=>
      simp only [List.getElem?_cons_zero,Option.some.injEq] at ho'
      subst ho'; rw [hd] at ht'; cases ht'
     | succ j=>rw [h2 i j o o' t (by simpa using ho) (by simpa using ho') ht ht']
  | some d=>
   simp only [vI,hd,Bool.and_eq_true,Bool.not_eq_true'] at h
   obtain ⟨h1,h2⟩:=nB l _ h.2
   have h1': ∀ (i:Nat)(o:Oper)(t:Tmp),l[i]?=some o->o.dst=some t->m.testBit t=false/\d≠t:=fun i o t ho ht=>by
    have:=h1 i o t ho ht
    simp only [Nat.testBit_or,Bool.or_eq_false_iff,Nat.testBit_two_pow,decide_eq_false_iff_not] at this
    exact this
   refine ⟨fun i o t ho ht=> ?_,fun i j o o' t ho ho' ht ht'=> ?_⟩
   ·cases i with
    | zero=>
     simp only [List.getElem?_cons_zero,Option.some.injEq] at ho
     subst ho; rw [hd] at ht
     obtain rfl:=oI ht
     exact h.1
    | succ i=>exact (h1' i o t (by simpa using ho) ht).1
   ·cases i with
    | zero=>
     simp only [List.getElem?_cons_zero,Option.some.injEq] at ho
     subst ho; rw [hd] at ht
     obtain rfl:=oI ht
     cases j with
     | zero=>rfl
     | succ j=>exact absurd rfl (h1' j o' _ (by simpa using ho') ht').2
    | succ i=>
     cases j with
     | zero=>
      simp only [List.getElem?_cons_zero,Option.some.injEq] at ho'
      subst ho'; rw [hd] at ht'
      obtain rfl:=oI ht'
      exact absurd rfl (h1' i o _ (by simpa using ho) ht).2
     | succ j=>rw [h2 i j o o' t (by simpa using ho) (by simpa using ho') ht ht']
theorem EE {ops:Array Oper}(h:JM ops=true):Ordd ops (ba (ck ops))/\Back ops/\(Region.departs ops=true->(Region.linearise .gc ops 0).length=ops.size):=by
 simp only [JM,Bool.and_eq_true] at h
 obtain ⟨⟨⟨h1,h2⟩,h3⟩,h4⟩:=h
 have hB:Back ops:=fun i o ho e he=>by
  have:=uG ops.toList 0 h1 i o (by simpa using ho) e he
  rwa [Nat.zero_add] at this
 have hbi:=Tm hB
 have hlt: ∀ j i,ba (ck ops) j i=true->i < j:=by
  intro j
  induction j using Nat.strongRecOn with
  | _ j ih=>
   intro i hb
   obtain ⟨o,ho,e,he,hbe,hh⟩:=(hbi j i).1 hb
   have:=hB.lt ho he hbe
   rcases hh with hh | hh
   ·omega
   ·have:=ih _ this i hh; omega
 refine ⟨⟨hlt,?_,?_,?_,?_,?_⟩,hB,?_⟩
 ·intro k
  induction k using Nat.strongRecOn with
  | _ k ih=>
   intro j i h5 h6
   obtain ⟨o,ho,e,he,hbe,hh⟩:=(hbi k j).1 h5
   refine (hbi k i).2 ⟨o,ho,e,he,hbe,.inr ?_⟩
   rcases hh with rfl | hh
   ·exact h6
   ·exact ih _ (hB.lt ho he hbe) j i hh h6
 ·intro L hL pre j
  induction j using Nat.strongRecOn generalizing pre with
  | _ j ih=>
   intro suf heq i hb
   obtain ⟨o,ho,e,he,hbe,hh⟩:=(hbi j i).1 hb
   have hm:=hL.deps pre j suf heq o ho e he hbe
   rcases hh with rfl | hh
   ·exact hm
   ·obtain ⟨p1,p2,rfl⟩:=List.append_of_mem hm
    exact List.mem_append_left _ (ih _ (hB.lt ho he hbe) p1 (p2++j::suf) (by rw [heq]; simp) i hh)
 ·intro j o t ho ht i o' ho' hd
  have h5:=(mE ops.toList 0 h4 j o (by simpa using ho)).1 t ht
  rw [Nat.zero_add] at h5
  have:=od ops.toList 0 h5 i o' (by simpa using ho') hd
  rwa [Nat.zero_add] at this
 ·intro j o i b ho hg
  have h5:=(mE ops.toList 0 h4 j o (by simpa using ho)).2 i b hg
  rwa [Nat.zero_add] at h5
 ·intro i j o o' t ho ho' ht ht'
  exact (nB ops.toList 0 h2).2 i j o o' t (by simpa using ho) (by simpa using ho') ht ht'
 ·intro hd
  simp only [hd,Bool.not_true,Bool.false_or,beq_iff_eq] at h3
  exact h3
theorem nO (hN:bT P){cf:aX}(hcf:CfOk P gl cf): ∀ {d c:Code},Part d c->aV c=true->gX P gl cf d:=by
 have key: ∀ c,aV c=true->gX P gl cf c:=by
  intro c h id ops heq
  subst heq
  obtain ⟨h1,h2,h3⟩:=EE h
  exact Qs hN hcf h1 h2 h3 id ops rfl
 intro d c hp
 induction hp with
 | refl=>exact key _
 | seqL _ ih=>intro h; simp only [aV,Bool.and_eq_true] at h; exact ih h.1
 | seqR _ ih=>intro h; simp only [aV,Bool.and_eq_true] at h; exact ih h.2
 | condT _ ih=>intro h; simp only [aV,Bool.and_eq_true] at h; exact ih h.1
 | condF _ ih=>intro h; simp only [aV,Bool.and_eq_true] at h; exact ih h.2
 | block _ ih=>intro h; simp only [aV] at h; exact ih h
 | loop _ ih=>intro h; simp only [aV] at h; exact ih h
theorem mX (hN:bT P):C6 P gl:=fun _ hcf _ _ hp h=>nO hN hcf hp h
def cq (fn:Func):Bool:=match fn.body with | some c=>aV c | none=>true
theorem Im (hN:bT P)(h: ∀ (f:FuncId) (fn:Func),P.funcs[f]?=some fn->cq fn=true):HQ P gl:=fun cf hcf f fn c d hf hb hp=>by
 have:=h f fn hf
 simp only [cq,hb] at this
 exact nO hN hcf hp this
end
section
variable {α:Type}
def Ref (bad x:Bool)(run:Option α)(K:α->Bool):Prop:=x=bad\/ ∃ r,run=some r/\x=K r
theorem Ref.bad {b:Bool}{run:Option α}{K:α->Bool}:Ref b b run K:= .inl rfl
theorem Ref.of {b x:Bool}{run:Option α}{K:α->Bool}{r:α}(h:run=some r)(hx:x=K r):Ref b x run K:= .inr ⟨r,h,hx⟩
theorem bP (n:Nat)(c:Nat->Bool):eZ n c=c n:=by cases n <;> rfl
theorem Ex (n:Int)(c:Int->Bool):Qz n c=c n:=by
 cases n with
 | ofNat n=>exact bP n fun n=>c (.ofNat n)
 | negSucc n=>exact bP n fun n=>c (.negSucc n)
theorem GC (a:Option Addr)(K:Option Addr->Bool):Li a K=K a:=by
 rcases a with _ | ⟨b,o,s⟩
 ·rfl
 ·show eZ b (fun b=>eZ o fun o=>K (some ⟨b,o,s⟩))=_
  rw [bP,bP]
theorem bU (v:Value)(K:Value->Bool):gm v K=K v:=by
 cases v with
 | int k n=>exact Ex n fun n=>K (.int k n)
 | pointer a=>exact GC a fun a=>K (.pointer a)
 | slice a n c=>
  show Li a (fun a=>eZ n fun n=>eZ c fun c=>K (.slice a n c))=_
  rw [GC,bP,bP]
 | _=>rfl
theorem dy {β:Type}{bad:Bool}{x:Option α}{K:α->Bool}{run:Option β}{K':β->Bool}(h: ∀ a,x=some a->Ref bad (K a) run K'):Ref bad (BT bad x K) run K':=by
 cases x with
 | none=>exact .bad
 | some a=>exact h a rfl
theorem bI {β:Type}{bad x y:Bool}{b:Bool}{run:Option β}{K':β->Bool}(h1:b=true->Ref bad x run K')(h2:b=false->Ref bad y run K'):Ref bad (cX b x y) run K':=by
 cases b with
 | true=>exact h1 rfl
 | false=>exact h2 rfl
theorem vx (l:List Value): ∀ (K:List Value->Bool),wh l K=K l:=by
 induction l with
 | nil=>intro K; rfl
 | cons a l ih=>intro K; exact ih fun r=>K (a::r)
theorem Bw: ∀ (l:List α)(i:Nat),XE l i=l[i]?
 | [],_=>rfl
 | _::_,0=>rfl
 | _::l,i+1=>Bw l i
theorem C3 (v:Value)(bad:Bool): ∀ (l:List Value)(i:Nat)(K:List Value->Bool),Eh v bad l i K=if i < l.length then K (l.set i v) else bad
 | [],i,K=>by simp [Eh]
 | a::l,0,K=>by show K (v::l)=_; simp
 | a::l,i+1,K=>by
  show Eh v bad l i (fun r=>K (a::r))=_
  rw [C3 v bad l i]
  simp
theorem HT.setK_eq (b:Option Blk): ∀ (p:Pth)(t:HT)(K:HT->Bool),HT.setK b p t K=K (HT.set b p t)
 | .e,.nil,_=>rfl
 | .e,.node ..,_=>rfl
 | .l p,.nil,K=>HT.setK_eq b p .nil fun l=>K (.node none l .nil)
 | .l p,.node v l r,K=>HT.setK_eq b p l fun l=>K (.node v l r)
 | .r p,.nil,K=>HT.setK_eq b p .nil fun r=>K (.node none .nil r)
 | .r p,.node v l r,K=>HT.setK_eq b p r fun r=>K (.node v l r)
theorem ud (b:Blk)(K:Blk->Bool):Ie b K=K b:=by
 cases b with
 | cells cs t sz wr=>exact vx cs fun cs=>K (.cells cs t sz wr)
 | map es=>rfl
 | loop=>rfl
theorem yJ (u:Upd)(h:Heap)(K:Heap->Bool):RU u h K=K (u.app h):=by
 cases u with
 | no=>rfl
 | set k b=>show Po k b h K=_; unfold Po; rw [ud,HT.setK_eq]; rfl
 | push b=>show rA b h K=_; unfold rA; rw [ud,HT.setK_eq,bP]; rfl
 | move k b=>show IG k b h K=_; unfold IG; rw [ud,HT.setK_eq,HT.setK_eq,bP]; rfl
 | all h'=>rfl
theorem SI {k:IntKind}{m:Nat}(h:m < aR k):k.wrap (m:Int)=m:=by
 have key: ∀ (s:Bool)(b:Nat),(m:Int) < 2 ^ b->(s=true->(m:Int) < 2 ^ (b - 1))->(if s && decide ((m:Int) % 2 ^ b>=2 ^ (b - 1)) then (m:Int) % 2 ^ b - 2 ^ b else (m:Int) % 2 ^ b)=m:=by
  intro s b h1 h2
  have hm:(m:Int) % 2 ^ b=m:=Int.emod_eq_of_lt (by omega) h1
  rw [hm]
  cases s with
  | false=>rfl
  | true=>
   have:=h2 rfl
   rw [if_neg]
   simp only [Bool.true_and,ge_iff_le,decide_eq_true_eq]
   omega
 unfold IntKind.wrap
 cases k <;> exact key _ _ (by simp only [aR,IntKind.bits] at h ⊢; omega) (by simp only [aR,IntKind.bits,IntKind.signed] at h ⊢; first | (intro hh; omega) | (intro hh; cases hh))
theorem Id (k:IntKind)(n:Int)(K:Int->Bool):Pm k n K=K (k.wrap n):=by
 cases n with
 | ofNat m=>
  show cX (Nat.blt m (aR k)) (eZ m fun m=>K (.ofNat m)) (Qz (k.wrap (.ofNat m)) K)=_
  cases hb:Nat.blt m (aR k) with
  | true=>
   have hlt:m < aR k:=by simpa [Nat.blt_eq] using hb
   show eZ m (fun m=>K (.ofNat m))=_
   rw [bP]
   exact congrArg K (SI hlt).symm
  | false=>exact Ex _ K
 | negSucc m=>exact Ex _ K
theorem tY (a b:Int):GT a b=decide (a < b):=by
 cases a with
 | ofNat m=>cases b with
  | ofNat n=>show Nat.blt m n=_; rw [Bool.eq_iff_iff]; simp [Nat.blt_eq]
  | negSucc n=>show false=_; rw [Bool.eq_iff_iff]; simp; omega
 | negSucc m=>cases b with
  | ofNat n=>show true=_; rw [Bool.eq_iff_iff]; simp; omega
  | negSucc n=>show Nat.blt n m=_; rw [Bool.eq_iff_iff]; simp [Nat.blt_eq]; omega
theorem AK (a b:Int):Lh a b=(a == b):=by
 cases a with
 | ofNat m=>cases b with
  | ofNat n=>show Nat.beq m n=_; rw [Bool.eq_iff_iff]; simp [Nat.beq_eq]; omega
  | negSucc n=>show false=_; rw [Bool.eq_iff_iff]; simp
 | negSucc m=>cases b with
  | ofNat n=>show false=_; rw [Bool.eq_iff_iff]; simp
  | negSucc n=>show Nat.beq n m=_; rw [Bool.eq_iff_iff]; simp [Nat.beq_eq]; omega
end
section
def rh (cx:Cx)(cf:aX):Prop:= ∀ f args h K,Ref cx.bad (cx.cf f args h K) (cf f args h) fun r=>K r.1 r.2
noncomputable abbrev kf (h:Heap)(K:Value->Heap->Bool)(r:Value×Upd):Bool:=K r.1 (r.2.app h)
theorem Ay {bad:Bool}{r:Option (Value×Upd)}{h:Heap}{K:Value->Heap->Bool}{run:Option (Value×Upd)}(hr: ∀ x,r=some x->run=some x):Ref bad (Jy bad r h K) run (kf h K):=by
 unfold Jy
 refine dy fun x hx=> .of (hr x hx) ?_
 obtain ⟨v,u⟩:=x
 show RU u h (fun h=>gm v fun v=>K v h)=_
 rw [yJ,bU]
theorem rL {P:Program}{cf:aX}{ρ:Operand->Value}{o:Oper}{h:Heap}(hc:aE o=false):bA P dj ρ o h=bA P cf ρ o h:=by
 obtain ⟨dst,op,ty,pos,after,guard⟩:=o
 cases op <;> try rfl
 rename_i c
 obtain ⟨callee,args,ats⟩:=c
 cases callee with
 | value f=>simp [aE] at hc
 | invoke r m=>rfl
 | builtin b=>cases b <;> rfl
theorem zO {P:Program}{cf:aX}{ρ:Operand->Value}{o:Oper}{h:Heap}(hc:aE o=false):aK P dj ρ o h=aK P cf ρ o h:=by
 unfold aK
 rw [rL hc]
variable {cx:Cx} {cf:aX} {ρ:Operand->Value} {h:Heap} {K:Value->Heap->Bool} {dst:Option Tmp} {ty:TypeId} {pos:String} {after:Array Edge} {guard:Option (Nat×Bool)}
theorem dA {o:Oper}(hc:aE o=false):Ref cx.bad (oa cx o ρ h K) (aK cx.P cf ρ o h) (kf h K):=
 Ay fun x hx=>by rw [<-zO hc]; exact hx
theorem run_pure {P:Program}{o:Oper}{v:Value}(hp:aD P ρ o=some v):aK P cf ρ o h=some (v,.no):=by
 unfold aK; rw [hp]
theorem PG {x:Operand}:Ref cx.bad (KQ x cx ⟨dst,.move x,ty,pos,after,guard⟩ ρ h K) (aK cx.P cf ρ ⟨dst,.move x,ty,pos,after,guard⟩ h) (kf h K):=
 .of (run_pure (v:=ρ x) rfl) (bU _ _)
theorem I0 {x:Operand}:Ref cx.bad (KQ x cx ⟨dst,.assign x,ty,pos,after,guard⟩ ρ h K) (aK cx.P cf ρ ⟨dst,.assign x,ty,pos,after,guard⟩ h) (kf h K):=
 .of (run_pure (v:=ρ x) rfl) (bU _ _)
theorem DX {α:Type}{v:Value}{bad:Bool}{K:Bool->Bool}{run:Option α}{K':α->Bool}(hh: ∀ b,v = .bool b->Ref bad (K b) run K'):Ref bad (wF v bad K) run K':=by
 rcases H0 v bad K with ⟨h1,_⟩ | ⟨b,h1,h2⟩
 ·rw [h1]; exact .bad
 ·rw [h2]; exact hh b h1
theorem jD {α:Type}{v:Value}{bad els:Bool}{K:IntKind->Int->Bool}{run:Option α}{K':α->Bool}(he:Ref bad els run K')(hh: ∀ k n,v = .int k n->Ref bad (K k n) run K'):Ref bad (CC v els K) run K':=by
 rcases S5 v els K with ⟨h1,_⟩ | ⟨k,n,h1,h2⟩
 ·rw [h1]; exact he
 ·rw [h2]; exact hh k n h1
theorem oD {α:Type}{v:Value}{bad els:Bool}{K:Option Addr->Bool}{run:Option α}{K':α->Bool}(he:Ref bad els run K')(hh: ∀ a,v = .pointer a->Ref bad (K a) run K'):Ref bad (Gg v els K) run K':=by
 rcases RJ v els K with ⟨h1,_⟩ | ⟨a,h1,h2⟩
 ·rw [h1]; exact he
 ·rw [h2]; exact hh a h1
theorem HD {α:Type}{v:Value}{bad:Bool}{K:ByteArray->Bool}{run:Option α}{K':α->Bool}(hh: ∀ s,v = .string s->Ref bad (K s) run K'):Ref bad (yO v bad K) run K':=by
 rcases Ka v bad K with ⟨h1,_⟩ | ⟨a,h1,h2⟩
 ·rw [h1]; exact .bad
 ·rw [h2]; exact hh a h1
theorem Ah {α:Type}{v:Value}{bad:Bool}{K:Option Addr->Nat->Nat->Bool}{run:Option α}{K':α->Bool}(hh: ∀ a n c,v = .slice a n c->Ref bad (K a n c) run K'):Ref bad (BC v bad K) run K':=by
 rcases Mf v bad K with ⟨h1,_⟩ | ⟨a,n,c,h1,h2⟩
 ·rw [h1]; exact .bad
 ·rw [h2]; exact hh a n c h1
theorem M7 {α:Type}{v:Value}{bad:Bool}{K:Fn->Array Value->Array Value->Bool}{run:Option α}{K':α->Bool}(hh: ∀ f a c,v = .func f a c->Ref bad (K f a c) run K'):Ref bad (GL v bad K) run K':=by
 rcases GE v bad K with ⟨h1,_⟩ | ⟨f,a,c,h1,h2⟩
 ·rw [h1]; exact .bad
 ·rw [h2]; exact hh f a c h1
theorem Rf {α:Type}{v:Value}{bad:Bool}{K:Array Value->Bool}{run:Option α}{K':α->Bool}(hh: ∀ a,v = .agg a->Ref bad (K a) run K'):Ref bad (SQ v bad K) run K':=by
 rcases RY v bad K with ⟨h1,_⟩ | ⟨a,h1,h2⟩
 ·rw [h1]; exact .bad
 ·rw [h2]; exact hh a h1
theorem JY {α:Type}{v:Value}{bad:Bool}{K:Array Value->Bool}{run:Option α}{K':α->Bool}(hh: ∀ a,v = .tuple a->Ref bad (K a) run K'):Ref bad (EB v bad K) run K':=by
 rcases Na v bad K with ⟨h1,_⟩ | ⟨a,h1,h2⟩
 ·rw [h1]; exact .bad
 ·rw [h2]; exact hh a h1
theorem GA {α:Type}{j:Int}{bad:Bool}{K:Nat->Bool}{run:Option α}{K':α->Bool}(hh: ∀ n:Nat,j=n->Ref bad (K n) run K'):Ref bad (Un j bad K) run K':=by
 cases j with
 | ofNat n=>exact hh n rfl
 | negSucc n=>exact .bad
theorem mn {α:Type}{a:Option Addr}{bad:Bool}{K:Nat->Nat->Bool}{run:Option α}{K':α->Bool}(hh: ∀ b i,a=some ⟨b,i,none⟩->Ref bad (K b i) run K'):Ref bad (H9 a bad K) run K':=by
 rcases a with _ | ⟨b,i,_ | s⟩
 ·exact .bad
 ·exact hh b i rfl
 ·exact .bad
theorem Gm {α:Type}{k:Nat}{bad:Bool}{K:List Value->TypeId->Nat->Bool->Bool}{run:Option α}{K':α->Bool}(hh: ∀ cs t sz wr,h.get k=some (.cells cs t sz wr)->Ref bad (K cs t sz wr) run K'):Ref bad (TG h k bad K) run K':=by
 unfold TG
 refine dy fun B hB=> ?_
 cases B with
 | cells cs t sz wr=>exact hh cs t sz wr hB
 | map es=>exact .bad
 | loop=>exact .bad
theorem PI {c a b:Operand}:Ref cx.bad (QA c a b cx ⟨dst,.pick c a b,ty,pos,after,guard⟩ ρ h K) (aK cx.P cf ρ ⟨dst,.pick c a b,ty,pos,after,guard⟩ h) (kf h K):=by
 unfold QA
 refine DX fun t ht=> ?_
 refine bI (fun hb=> ?_) (fun hb=> ?_)
 ·rw [bU]; exact .of (run_pure (v:=ρ a) (by simp [aD,ht,hb])) rfl
 ·rw [bU]; exact .of (run_pure (v:=ρ b) (by simp [aD,ht,hb])) rfl
theorem HO {b:Blk}{f:Nat->Value}{o:Oper}(hp:aD cx.P ρ o=none)(hr:aH cx.P ρ o h=none)(ha:aG cx.P ρ o=some (b,f))(hf: ∀ k,f k = .pointer (some ⟨k,0,none⟩)):
  Ref cx.bad (SE b h K) (aK cx.P cf ρ o h) (kf h K):=by
 refine .of (r:=(f h.next,.push b)) (by unfold aK; rw [hp,hr,ha]) ?_
 unfold SE
 rw [bP]
 have:=yJ (.push b) h (fun h'=>K (Value.pointer (some ⟨h.next,0,none⟩)) h')
 rw [hf]
 exact this
theorem MO {t:TypeId}:Ref cx.bad (J2 t cx ⟨dst,.alloc t,ty,pos,after,guard⟩ ρ h K) (aK cx.P cf ρ ⟨dst,.alloc t,ty,pos,after,guard⟩ h) (kf h K):=by
 unfold J2
 refine dy fun b hb=> ?_
 unfold QU at hb
 split at hb
 ·next z hz=>
  split at hb
  ·next hs=>
   obtain rfl:=oI hb
   exact HO (f:=fun k=> .pointer (some ⟨k,0,none⟩)) rfl rfl (by simp only [aG,hz,hs,if_true]) fun _=>rfl
  ·cases hb
 ·cases hb
theorem Sm {t:TypeId}{x:Operand}:Ref cx.bad (Vj t x cx ⟨dst,.box t x,ty,pos,after,guard⟩ ρ h K) (aK cx.P cf ρ ⟨dst,.box t x,ty,pos,after,guard⟩ h) (kf h K):=by
 unfold Vj
 refine bI (fun hb=> ?_) (fun _=>dA rfl)
 rw [HX] at hb
 rw [bU]
 have hc:(ρ x).cells = #[ρ x]:=by
  generalize ρ x=v at hb
  cases v <;> first | rfl | (simp [bL] at hb)
 refine HO (f:=fun k=> .pointer (some ⟨k,0,none⟩)) rfl rfl ?_ fun _=>rfl
 simp only [aG,hc]
 rw [if_pos (by simp [hb])]
theorem PV {t:TypeId}{a:Operand}:Ref cx.bad (PO t a cx ⟨dst,.load t a,ty,pos,after,guard⟩ ρ h K) (aK cx.P cf ρ ⟨dst,.load t a,ty,pos,after,guard⟩ h) (kf h K):=by
 have hrun: ∀ v,ah cx.P t h (ρ a)=some v->aK cx.P cf ρ ⟨dst,.load t a,ty,pos,after,guard⟩ h=some (v,.no):=fun v hv=>by
  show (match aH cx.P ρ ⟨dst,.load t a,ty,pos,after,guard⟩ h with | some v=>some (v,Upd.no) | none=>_)=_
  simp only [aH,hv]
 unfold PO
 refine bI (fun hb=> ?_) (fun _=>dy fun v hv=> .of (hrun v hv) rfl)
 refine oD .bad fun ad had=>mn fun b i hbi=>Gm fun cs te sz wr hg=>dy fun v hv=> .of (hrun v ?_) rfl
 rw [Bw] at hv
 unfold EO at hb
 simp only [Bool.and_eq_true,Bool.not_eq_true'] at hb
 obtain ⟨hb1,hb2⟩:=hb
 cases hu:cx.P.underlying t with
 | none=>rw [hu] at hb1; cases hb1
 | some u=>simp only [ah,hu,had,hbi,hg,hb2,Bool.false_eq_true,if_false,hv]
theorem MW {t:TypeId}{a x:Operand}:Ref cx.bad (J3 t a x cx ⟨dst,.store t a x,ty,pos,after,guard⟩ ρ h K) (aK cx.P cf ρ ⟨dst,.store t a x,ty,pos,after,guard⟩ h) (kf h K):=by
 have hrun: ∀ r,al cx.P t (ρ a) (ρ x) h=some r->aK cx.P cf ρ ⟨dst,.store t a x,ty,pos,after,guard⟩ h=some r:=fun r hr=>by
  show bA cx.P cf ρ ⟨dst,.store t a x,ty,pos,after,guard⟩ h=_
  exact hr
 unfold J3
 refine bI (fun hb=> ?_) (fun _=>Ay hrun)
 simp only [Bool.and_eq_true,HX] at hb
 obtain ⟨hb1,hb2⟩:=hb
 have hc:(ρ x).cells = #[ρ x]:=by
  generalize ρ x=v at hb2
  cases v <;> first | rfl | (simp [bL] at hb2)
 refine oD .bad fun ad had=>mn fun b i hbi=>Gm fun cs te sz wr hg=>bI (fun hw=> ?_) (fun _=> .bad)
 rw [bU,C3]
 by_cases hlt:i < cs.length
 ·rw [if_pos hlt,HT.setK_eq]
  refine .of (r:=(undef,.set b (.cells (cs.set i (ρ x)) te sz true))) (hrun _ ?_) rfl
  have hs1:aq cx.P t=some 1:=by simpa [T2] using hb1
  subst hw
  simp only [al,had,hbi,hc,hs1,List.size_toArray,List.length_cons,List.length_nil,storeAt,hg]
  rw [if_pos trivial,if_pos ⟨by omega,by simpa using hb2⟩]
  simp only [Option.map_some]
  rw [List.set_eq_take_append_cons_drop,if_pos hlt]
  simp
 ·rw [if_neg hlt]; exact .bad
end
section
variable {cx:Cx} {cf:aX} {ρ:Operand->Value} {h:Heap} {K:Value->Heap->Bool} {dst:Option Tmp} {ty:TypeId} {pos:String} {after:Array Edge} {guard:Option (Nat×Bool)}
theorem EI {x:Operand}:Ref cx.bad (wm x cx ⟨dst,.nilCheck x,ty,pos,after,guard⟩ ρ h K) (aK cx.P cf ρ ⟨dst,.nilCheck x,ty,pos,after,guard⟩ h) (kf h K):=by
 unfold wm
 refine oD (dA rfl) fun a ha=>dy fun ad had=> ?_
 subst had
 exact .of (run_pure (v:= .pointer (some ad)) (by simp [aD,ha])) rfl
theorem vt {op:BinOp}{f:Int->Int->Int}{t u:TypeId}{x y:Operand}(hf: ∀ k a b,am cx.P op t (.int k a) (.int k b)=some (.int k (k.wrap (f a b)))):
  Ref cx.bad (AU f x y cx ⟨dst,.binOp op t x y u,ty,pos,after,guard⟩ ρ h K) (aK cx.P cf ρ ⟨dst,.binOp op t x y u,ty,pos,after,guard⟩ h) (kf h K):=by
 unfold AU
 refine jD (dA rfl) fun k a ha=>jD .bad fun k' b hb=>bI (fun hk=> ?_) (fun _=> .bad)
 obtain rfl:=FD hk
 rw [Id]
 exact .of (run_pure (v:= .int k (k.wrap (f a b))) (by simp only [aD,ha,hb,hf])) rfl
theorem qq {op:BinOp}{f:Int->Int->Bool}{t u:TypeId}{x y:Operand}(hf: ∀ k a b,am cx.P op t (.int k a) (.int k b)=some (.bool (f a b))):
  Ref cx.bad (GP f x y cx ⟨dst,.binOp op t x y u,ty,pos,after,guard⟩ ρ h K) (aK cx.P cf ρ ⟨dst,.binOp op t x y u,ty,pos,after,guard⟩ h) (kf h K):=by
 unfold GP
 refine jD (dA rfl) fun k a ha=>jD .bad fun k' b hb=>bI (fun hk=> ?_) (fun _=> .bad)
 obtain rfl:=FD hk
 have hp:=run_pure (cf:=cf) (h:=h) (P:=cx.P) (ρ:=ρ) (o:=⟨dst,.binOp op t x y u,ty,pos,after,guard⟩) (v:= .bool (f a b)) (by simp only [aD,ha,hb,hf])
 refine bI (fun hc=> ?_) (fun hc=> ?_)
 ·rw [hc] at hp; exact .of hp rfl
 ·rw [hc] at hp; exact .of hp rfl
theorem MT {op:BinOp}{t u:TypeId}{x y:Operand}:Ref cx.bad (Xs op t x y u cx ⟨dst,.binOp op t x y u,ty,pos,after,guard⟩ ρ h K) (aK cx.P cf ρ ⟨dst,.binOp op t x y u,ty,pos,after,guard⟩ h) (kf h K):=by
 cases op with
 | add=>exact vt fun k a b=>by simp [am,WZ]
 | sub=>exact vt fun k a b=>by simp [am,We]
 | mul=>exact vt fun k a b=>by simp [am,Xe]
 | eql=>exact qq fun k a b=>by simp [am,si,AK]
 | neq=>exact qq fun k a b=>by simp only [am,si,Zc,AK,if_true,Option.map_some]; simp [bne]
 | lss=>exact qq fun k a b=>by simp [am,si,tY]
 | leq=>exact qq fun k a b=>by simp only [am,si,Y8,tY,if_true,Option.map_some]; rw [<-decide_not]; simp [Int.not_lt]
 | gtr=>exact qq fun k a b=>by simp [am,si,Y0,tY]
 | geq=>exact qq fun k a b=>by simp only [am,si,Zb,tY,if_true,Option.map_some]; rw [<-decide_not]; simp [Int.not_lt]
 | _=>exact dA (o:=⟨dst,_,ty,pos,after,guard⟩) rfl
theorem QS {op:UnOp}{t:TypeId}{x:Operand}:Ref cx.bad (Wc op t x cx ⟨dst,.unOp op t x,ty,pos,after,guard⟩ ρ h K) (aK cx.P cf ρ ⟨dst,.unOp op t x,ty,pos,after,guard⟩ h) (kf h K):=by
 cases op with
 | not=>
  show Ref cx.bad (Uo x cx ⟨dst,.unOp .not t x,ty,pos,after,guard⟩ ρ h K) _ _
  unfold Uo
  refine DX fun b hb=> ?_
  have hp:=run_pure (cf:=cf) (h:=h) (P:=cx.P) (ρ:=ρ) (o:=⟨dst,.unOp .not t x,ty,pos,after,guard⟩) (v:= .bool !b) (by simp only [aD,hb,AP])
  refine bI (fun hc=> ?_) (fun hc=> ?_)
  ·rw [hc] at hp; exact .of hp rfl
  ·rw [hc] at hp; exact .of hp rfl
 | neg=>rw [show Wc .neg t x=oa from rfl]; exact dA rfl
 | xor=>rw [show Wc .xor t x=oa from rfl]; exact dA rfl
 | plus=>rw [show Wc .plus t x=oa from rfl]; exact dA rfl
theorem H4 {s d:TypeId}{x:Operand}:Ref cx.bad (AN s d x cx ⟨dst,.convert s d x,ty,pos,after,guard⟩ ρ h K) (aK cx.P cf ρ ⟨dst,.convert s d x,ty,pos,after,guard⟩ h) (kf h K):=by
 unfold AN
 cases hk:YH cx.P s d with
 | none=>exact dA rfl
 | some k=>
  refine jD .bad fun k' n hn=> ?_
  rw [Id]
  refine .of (run_pure (v:= .int k (k.wrap n)) ?_) rfl
  unfold YH at hk
  split at hk
  ·next u k2 hs hd=>
   obtain rfl:=oI hk
   simp only [aD,cw,hs,hd,hn]
  ·cases hk
theorem vP (b i n:Nat):Addr.add ⟨b,i,none⟩ n=⟨b,i+n,none⟩:=by
 unfold Addr.add
 split
 ·next hn=>subst hn; rfl
 ·rfl
theorem CE {s:TypeId}{x:Operand}{f:Nat}:Ref cx.bad (rR s x f cx ⟨dst,.fieldAddr s x f,ty,pos,after,guard⟩ ρ h K) (aK cx.P cf ρ ⟨dst,.fieldAddr s x f,ty,pos,after,guard⟩ h) (kf h K):=by
 unfold rR
 refine dy fun off hoff=>oD .bad fun a ha=>mn fun b i hbi=> ?_
 rw [bP]
 refine .of (run_pure (v:= .pointer (some ⟨b,i+off,none⟩)) ?_) rfl
 subst hbi
 unfold XN at hoff
 split at hoff
 ·next fields hu=>
  split at hoff
  ·next fd hfd=>
   split at hoff
   ·next hsz=>
    obtain rfl:=oI hoff
    simp only [aD,hu,ha,hfd]
    rw [if_pos hsz,vP]
   ·cases hoff
  ·cases hoff
 ·cases hoff
theorem NP {s:TypeId}{x:Operand}{f:Nat}:Ref cx.bad (IW s x f cx ⟨dst,.field s x f,ty,pos,after,guard⟩ ρ h K) (aK cx.P cf ρ ⟨dst,.field s x f,ty,pos,after,guard⟩ h) (kf h K):=by
 unfold IW
 cases hoff:Kq cx.P s f with
 | none=>exact dA rfl
 | some off=>
  refine Rf fun cs hcs=>dy fun v hv=> ?_
  rw [bU]
  refine .of (run_pure (v:=v) ?_) rfl
  rw [Bw] at hv
  unfold Kq at hoff
  split at hoff
  ·next fields hu=>
   split at hoff
   ·next fd hfd=>
    split at hoff
    ·next hp=>
     obtain rfl:=oI hoff
     unfold EO at hp
     simp only [Bool.and_eq_true,Bool.not_eq_true'] at hp
     obtain ⟨hp1,hp2⟩:=hp
     cases hu2:cx.P.underlying fd.type with
     | none=>rw [hu2] at hp1; cases hp1
     | some u=>
      simp only [aD,hu,hcs,hfd,gM,hu2,hp2,Bool.false_eq_true,if_false]
      simpa using hv
    ·cases hoff
   ·cases hoff
  ·cases hoff
theorem CB {t:TypeId}{x i:Operand}:Ref cx.bad (ri t x i cx ⟨dst,.indexAddr t x i,ty,pos,after,guard⟩ ρ h K) (aK cx.P cf ρ ⟨dst,.indexAddr t x i,ty,pos,after,guard⟩ h) (kf h K):=by
 unfold ri
 refine dy fun inf hinf=> ?_
 obtain ⟨len,n⟩:=inf
 refine jD .bad fun k j hj=>GA fun m hm=> ?_
 subst hm
 unfold T5 at hinf
 split at hinf
 ·next ln e hu=>
  obtain ⟨n',hn,he⟩:=Option.map_eq_some_iff.1 hinf
  simp only [Prod.mk.injEq] at he
  obtain ⟨rfl,rfl⟩:=he
  refine oD .bad fun a ha=> ?_
  unfold FY
  refine bI (fun hlt=>mn fun b o hbo=> ?_) (fun _=> .bad)
  rw [bP]
  refine .of (run_pure (v:= .pointer (some ⟨b,o+m*n',none⟩)) ?_) rfl
  subst hbo
  have hlt:m < ln:=by simpa [Nat.blt_eq] using hlt
  simp only [aD,hu,ha,hj,hn]
  rw [if_pos ⟨by omega,by omega⟩,vP]; rfl
 ·next e hu=>
  obtain ⟨n',hn,he⟩:=Option.map_eq_some_iff.1 hinf
  simp only [Prod.mk.injEq] at he
  obtain ⟨rfl,rfl⟩:=he
  refine Ah fun a l c ha=> ?_
  unfold FY
  refine bI (fun hlt=>mn fun b o hbo=> ?_) (fun _=> .bad)
  rw [bP]
  refine .of (run_pure (v:= .pointer (some ⟨b,o+m*n',none⟩)) ?_) rfl
  subst hbo
  have hlt:m < l:=by simpa [Nat.blt_eq] using hlt
  simp only [aD,hu,ha,hj,hn]
  rw [if_pos ⟨by omega,by omega⟩,vP]; rfl
 ·cases hinf
theorem L5 {t:TypeId}{x i:Operand}:Ref cx.bad (J8 t x i cx ⟨dst,.index t x i,ty,pos,after,guard⟩ ρ h K) (aK cx.P cf ρ ⟨dst,.index t x i,ty,pos,after,guard⟩ h) (kf h K):=by
 unfold J8
 refine bI (fun hs=>HD fun s hsx=>jD .bad fun k j hj=>GA fun m hm=>dy fun b hb=> ?_) (fun _=>dA rfl)
 rw [bP]
 subst hm
 rw [Bw] at hb
 refine .of (run_pure (v:= .int .u8 b.toNat) ?_) rfl
 unfold TO at hs
 split at hs
 ·next hu=>
  simp only [aD,hu,hsx,hj]
  rw [if_pos (by omega)]
  simp only [Int.toNat_natCast,hb]
 ·cases hs
theorem H7 {x:Operand}{i:Nat}:Ref cx.bad (za x i cx ⟨dst,.extract x i,ty,pos,after,guard⟩ ρ h K) (aK cx.P cf ρ ⟨dst,.extract x i,ty,pos,after,guard⟩ h) (kf h K):=by
 unfold za
 refine JY fun vs hvs=>dy fun v hv=> ?_
 rw [bU]
 rw [Bw] at hv
 exact .of (run_pure (v:=v) (by simp only [aD,hvs]; simpa using hv)) rfl
theorem zj: ∀ (l:List Operand)(K:List Value->Bool),CN ρ l K=K (l.map ρ)
 | [],_=>rfl
 | x::l,K=>by
  show gm (ρ x) (fun v=>CN ρ l fun r=>K (v::r))=_
  rw [bU,zj l]; rfl
theorem D9 {a:Array Value}(h:wv a=true):a.size=0:=by
 unfold wv at h
 rw [<-Array.length_toList]
 generalize a.toList=l at h
 cases l with
 | nil=>rfl
 | cons x l=>cases h
theorem Pl (hcf:rh cx cf){c:Call}:Ref cx.bad (Q5 c cx ⟨dst,.call c,ty,pos,after,guard⟩ ρ h K) (aK cx.P cf ρ ⟨dst,.call c,ty,pos,after,guard⟩ h) (kf h K):=by
 obtain ⟨callee,args,ats⟩:=c
 cases callee with
 | value f=>
  show Ref cx.bad (Em f args ats cx ⟨dst,.call ⟨.value f,args,ats⟩,ty,pos,after,guard⟩ ρ h K) _ _
  unfold Em
  refine M7 fun fn first captured hf=> ?_
  cases fn with
  | func g=>
   show Ref cx.bad (cX (Nat.blt g YB) (CN ρ args.toList fun vs=>wh (first.toList++vs++captured.toList) fun vs=>cx.cf g vs h K) cx.bad) _ _
   refine bI (fun hg=> ?_) (fun _=> .bad)
   have hg:g < YB:=by simpa [Nat.blt_eq] using hg
   rw [zj,vx]
   rcases hcf g (first.toList++args.toList.map ρ++captured.toList) h K with hb | ⟨r,h1,h2⟩
   ·rw [hb]; exact .bad
   ·refine .of (r:=(r.1,.all r.2)) ?_ h2
    show bA cx.P cf ρ ⟨dst,.call ⟨.value f,args,ats⟩,ty,pos,after,guard⟩ h=_
    simp only [bA,rV,hf,h1,Option.map_some,if_pos hg]
  | yield k=>
   show Ref cx.bad (cX (wv first) (cX (wv captured) (CN ρ args.toList fun vs=>eZ (YB+k) fun id=>cx.cf id vs h K) cx.bad) cx.bad) _ _
   refine bI (fun h1=>bI (fun h2=> ?_) (fun _=> .bad)) (fun _=> .bad)
   rw [zj,bP]
   rcases hcf (YB+k) (args.toList.map ρ) h K with hb | ⟨r,h3,h4⟩
   ·rw [hb]; exact .bad
   ·refine .of (r:=(r.1,.all r.2)) ?_ h4
    show bA cx.P cf ρ ⟨dst,.call ⟨.value f,args,ats⟩,ty,pos,after,guard⟩ h=_
    simp only [bA,rV,hf,h3,Option.map_some,if_pos (show first.size=0/\captured.size=0 from ⟨D9 h1,D9 h2⟩)]
  | method _=>exact .bad
  | methodOf _ _=>exact .bad
  | via _ _ _ _=>exact .bad
 | invoke r m=>exact .bad
 | builtin b=>
  by_cases hb1:b = .append
  ·subst hb1
   show Ref cx.bad (zb args ats cx ⟨dst,.call ⟨.builtin .append,args,ats⟩,ty,pos,after,guard⟩ ρ h K) _ _
   unfold zb
   refine Ay fun r hr=> ?_
   show bA cx.P cf ρ ⟨dst,.call ⟨.builtin .append,args,ats⟩,ty,pos,after,guard⟩ h=_
   exact hr
  by_cases hb2:b = .len
  ·subst hb2
   show Ref cx.bad (Qv args ats cx ⟨dst,.call ⟨.builtin .len,args,ats⟩,ty,pos,after,guard⟩ ρ h K) _ _
   unfold Qv
   cases hl:Ft cx.P args ats with
   | none=>exact dA rfl
   | some x=>
    refine Ah fun a n c hx=> ?_
    refine .of (r:=(.int .i64 n,.no)) ?_ rfl
    unfold Ft at hl
    split at hl
    ·next y t hy ht=>
     split at hl
     ·next hs=>
      obtain rfl:=oI hl
      unfold T0 at hs
      split at hs
      ·next e hu=>
       show (match aH cx.P ρ ⟨dst,.call ⟨.builtin .len,args,ats⟩,ty,pos,after,guard⟩ h with | some v=>some (v,Upd.no) | none=>_)=_
       simp only [aH,hy,ht,hu,hx]
      ·cases hs
     ·cases hl
    ·cases hl
  have hg:Q5 ⟨.builtin b,args,ats⟩=oa:=by
   cases b <;> first | rfl | exact absurd rfl hb1 | exact absurd rfl hb2
  rw [hg]
  exact dA rfl
theorem yG (hcf:rh cx cf)(o:Oper):Ref cx.bad (UC o.op cx o ρ h K) (aK cx.P cf ρ o h) (kf h K):=by
 obtain ⟨dst,op,ty,pos,after,guard⟩:=o
 cases op with
 | move x=>exact PG
 | assign x=>exact I0
 | pick c a b=>exact PI
 | alloc t=>exact MO
 | box t x=>exact Sm
 | load t a=>exact PV
 | store t a x=>exact MW
 | nilCheck x=>exact EI
 | binOp op t x y u=>exact MT
 | unOp op t x=>exact QS
 | convert s d x=>exact H4
 | fieldAddr s x f=>exact CE
 | field s x f=>exact NP
 | indexAddr t x i=>exact CB
 | index t x i=>exact L5
 | extract x i=>exact H7
 | call c=>exact Pl hcf
 | go _=>exact .bad
 | defer _=>exact .bad
 | panic _=>exact .bad
 | send _ _=>exact .bad
 | recv _ _ _=>exact .bad
 | select _ _=>exact .bad
 | _=>exact dA (o:=⟨dst,_,ty,pos,after,guard⟩) rfl
end
section
variable {cx:Cx} {cf:aX}
def co (n:Nat)(e:Env)(l:List Value):Prop:=l.length=n/\n<=256/\ ∀ t,Env.get t e=l.getD t undef
theorem AD {n:Nat}{e:Env}{l:List Value}(hr:co n e l)(gl:Nat->Bool):K6 gl e=ev gl l:=by
 funext x
 cases x with
 | tmp t=>exact hr.2.2 t
 | const v=>
  show Tt (plain v) v junk=if plain v then v else junk
  cases plain v <;> rfl
 | global g=>
  show Tt (gl g) _ junk=if gl g then _ else junk
  cases gl g <;> rfl
 | func f=>rfl
theorem qj {n:Nat}{e:Env}{l:List Value}(hr:co n e l)(dst:Option Tmp)(v:Value): ∃ e',co n e' (dh l dst v)/\ ∀ (K:Env->Bool),mW n dst e v K=K e':=by
 cases dst with
 | none=>exact ⟨e,hr,fun K=>rfl⟩
 | some d=>
  cases hd:Nat.blt d n with
  | true=>
   have hlt:d < n:=by simpa [Nat.blt_eq] using hd
   refine ⟨Env.new d e v,⟨by rw [cY]; exact hr.1,hr.2.1,fun t=> ?_⟩,fun K=> ?_⟩
   ·rw [Env.get_put (Nat.lt_of_lt_of_le hlt hr.2.1),gD]
    split
    ·next he=>subst he; rw [Dk (by rw [hr.1]; exact hlt)]; rfl
    ·next he=>rw [FG (fun hh=>he (oI hh).symm),<-gD]; exact hr.2.2 t
   ·show cX (Nat.blt d n) (Env.put d e v K) (K e)=_
    rw [hd]
    exact Env.put_eq d e v K
  | false=>
   have hge:n<=d:=by
    rcases Nat.lt_or_ge d n with h | h
    ·have:Nat.blt d n=true:=by simpa [Nat.blt_eq] using h
     rw [hd] at this; cases this
    ·exact h
   refine ⟨e,?_,fun K=> ?_⟩
   ·have:dh l (some d) v=l:=by simp only [dh]; exact List.set_eq_of_length_le (by rw [hr.1]; exact hge)
    rw [this]; exact hr
   ·show cX (Nat.blt d n) (Env.put d e v K) (K e)=_
    rw [hd]; rfl
theorem NV (v:Value)(bad:Bool)(f:Bool->Bool)(sk:Bool):A8 v bad f sk=bad\/(∃ b,v = .bool b/\A8 v bad f sk=f b)\/ ∃ vs,v = .tuple vs/\A8 v bad f sk=sk:=by
 cases v with
 | bool b=>exact .inr (.inl ⟨b,rfl,rfl⟩)
 | tuple vs=>exact .inr (.inr ⟨vs,rfl,rfl⟩)
 | _=>exact .inl rfl
theorem Ht {n:Nat}{e:Env}{l:List Value}(hr:co n e l){ops:Array Oper}(o:Oper)(bad run skip:Bool):
  zg ops e bad o.guard run skip=bad\/(cm ops l o=some true/\zg ops e bad o.guard run skip=run)\/(cm ops l o=some false/\zg ops e bad o.guard run skip=skip):=by
 unfold cm
 cases hg:o.guard with
 | none=>exact .inr (.inl ⟨rfl,rfl⟩)
 | some g=>
  obtain ⟨j,want⟩:=g
  cases hd:(ops[j]?).bind (·.dst) with
  | none=>
   left
   show BT bad (Qu ops j) _=bad
   unfold Qu
   rw [hd]; rfl
  | some d=>
   have hw:zg ops e bad (some (j,want)) run skip=A8 (Env.get d e) bad (fun b=>Bool.rec (motive:=fun _=>Bool) (cX want skip run) (cX want run skip) b) skip:=by
    show BT bad (Qu ops j) _=_
    unfold Qu
    rw [hd]; rfl
   rw [hw]
   simp only [hd]
   rw [hr.2.2 d]
   rcases NV (l.getD d undef) bad (fun b=>Bool.rec (motive:=fun _=>Bool) (cX want skip run) (cX want run skip) b) skip with h1 | ⟨b,h1,h2⟩ | ⟨vs,h1,h2⟩
   ·exact .inl h1
   ·rw [h2]; simp only [h1]
    cases b <;> cases want <;> first | exact .inr (.inl ⟨rfl,rfl⟩) | exact .inr (.inr ⟨rfl,rfl⟩)
   ·rw [h2]; simp only [h1]
    exact .inr (.inr ⟨trivial,trivial⟩)
def I4 {α:Type}(n:Nat)(bad x:Bool)(run:Option (List Value×α))(K:Env->α->Bool):Prop:=x=bad\/ ∃ l a e,run=some (l,a)/\co n e l/\x=K e a
theorem Bk (hcf:rh cx cf){ops:Array Oper}: ∀ (rest:List Oper){e:Env}{l:List Value}{h:Heap}{K:Env->Heap->Bool},co cx.n e l->I4 cx.n cx.bad (Iw cx ops rest e h K) (dc cx.P cx.gl cf ops rest l h) K
 | [],e,l,h,K,hr=> .inr ⟨l,h,e,rfl,hr,rfl⟩
 | o::rest,e,l,h,K,hr=>by
  show I4 cx.n cx.bad (UB cx ops o e h fun e h=>Iw cx ops rest e h K) _ K
  unfold UB
  rcases Ht hr o cx.bad (UC o.op cx o (K6 cx.gl e) h fun v h=>mW cx.n o.dst e v fun e=>Iw cx ops rest e h K) (mW cx.n o.dst e undef fun e=>Iw cx ops rest e h K) with h1 | ⟨h1,h2⟩ | ⟨h1,h2⟩
  ·exact .inl h1
  ·rw [h2]
   rcases yG hcf (ρ:=K6 cx.gl e) (h:=h) (K:=fun v h=>mW cx.n o.dst e v fun e=>Iw cx ops rest e h K) o with h3 | ⟨⟨v,u⟩,h3,h4⟩
   ·exact .inl h3
   ·rw [h4]
    rw [AD hr] at h3
    obtain ⟨e',h5,h6⟩:=qj hr o.dst v
    show I4 cx.n cx.bad (mW cx.n o.dst e v fun e=>Iw cx ops rest e (u.app h) K) _ K
    rw [h6]
    simp only [dc,h1,h3]
    exact Bk hcf rest h5
  ·rw [h2]
   obtain ⟨e',h5,h6⟩:=qj hr o.dst undef
   rw [h6]
   simp only [dc,h1]
   exact Bk hcf rest h5
end
section
variable {cx:Cx} {cf:aX}
theorem mB (base:Nat): ∀ (l:List (Nat×Blk))(h:Heap)(K:Heap->Bool),kz base l h K=K (aC h base l)
 | [],_,_=>rfl
 | (i,B)::l,h,K=>by
  show kz base l h (fun h=>HT.setK (some B) (bD (base+i)) h.t fun t=>K ⟨h.next,t⟩)=_
  rw [mB base l h,HT.setK_eq]; rfl
theorem OL {P:Program}{ρ:Operand->Value}{o:Oper}{h:Heap}{r:Value×Upd}(hc:LR o.op = .p)(hr:aK P cf ρ o h=some r):aD P ρ o=some r.1/\r.2 = .no:=by
 obtain ⟨dst,op,ty,pos,after,guard⟩:=o
 unfold aK at hr
 cases hp:aD P ρ ⟨dst,op,ty,pos,after,guard⟩ with
 | some v=>rw [hp] at hr; obtain rfl:=oI hr; exact ⟨rfl,rfl⟩
 | none=>
  rw [hp] at hr
  cases op with
  | call c=>
   obtain ⟨callee,args,ats⟩:=c
   cases callee with
   | builtin b=>cases b <;> exact nomatch hc
   | _=>exact nomatch hc
  | _=>first | (change (none:Option (Value×Upd))=some r at hr; exact nomatch hr) | cases hc
theorem QI {P:Program}{ρ:Operand->Value}{o:Oper}{h:Heap}{r:Value×Upd}(hc:LR o.op = .r)(hr:aK P cf ρ o h=some r):aD P ρ o=none/\aH P ρ o h=some r.1/\r.2 = .no:=by
 obtain ⟨dst,op,ty,pos,after,guard⟩:=o
 have key:aD P ρ ⟨dst,op,ty,pos,after,guard⟩=none->(aH P ρ ⟨dst,op,ty,pos,after,guard⟩ h=none->aK P cf ρ ⟨dst,op,ty,pos,after,guard⟩ h=none)->aD P ρ ⟨dst,op,ty,pos,after,guard⟩=none/\aH P ρ ⟨dst,op,ty,pos,after,guard⟩ h=some r.1/\r.2 = .no:=fun h1 h2=>by
  refine ⟨h1,?_⟩
  cases hrd:aH P ρ ⟨dst,op,ty,pos,after,guard⟩ h with
  | none=>rw [h2 hrd] at hr; cases hr
  | some v=>
   unfold aK at hr
   rw [h1,hrd] at hr
   obtain rfl:=oI hr
   exact ⟨rfl,rfl⟩
 cases op with
 | load t a=>exact key rfl fun h2=>by unfold aK; rw [h2]; rfl
 | call c=>
  obtain ⟨callee,args,ats⟩:=c
  cases callee with
  | builtin b=>cases b <;> first | exact key rfl fun h2=>by unfold aK; rw [h2]; rfl | cases hc
  | _=>exact nomatch hc
 | _=>exact nomatch hc
theorem RR {P:Program}{ρ:Operand->Value}{o:Oper}{h:Heap}(hc:LR o.op = .e):(∀ h,aD P ρ o=none/\aH P ρ o h=none/\aG P ρ o=none)/\aK P cf ρ o h=bA P cf ρ o h:=by
 obtain ⟨dst,op,ty,pos,after,guard⟩:=o
 cases op with
 | store t a x=>exact ⟨fun _=>⟨rfl,rfl,rfl⟩,rfl⟩
 | call c=>
  obtain ⟨callee,args,ats⟩:=c
  cases callee with
  | builtin b=>cases b <;> first | exact ⟨fun _=>⟨rfl,rfl,rfl⟩,rfl⟩ | cases hc
  | value f=>exact ⟨fun _=>⟨rfl,rfl,rfl⟩,rfl⟩
  | _=>exact nomatch hc
 | _=>exact nomatch hc
theorem Mv {o:Oper}(hc:LR o.op = .d):aE o=false:=by
 obtain ⟨dst,op,ty,pos,after,guard⟩:=o
 cases op with
 | call c=>
  obtain ⟨callee,args,ats⟩:=c
  cases callee with
  | value f=>exact nomatch hc
  | _=>rfl
 | _=>rfl
noncomputable def nE (P:Program)(cf:aX)(bf:Nat->Nat->Bool)(base j:Nat)(o:Oper)(ρ:Operand->Value)(h:Heap)(pd:List (Nat×Blk)):Option (Ent×Value×Heap×List (Nat×Blk)):=
 match aD P ρ o with
 | some v=>some (.pure v,v,h,pd)
 | none=>match aH P ρ o h with
  | some v=>some (.read v,v,h,pd)
  | none=>match aG P ρ o with
   | some (B,f)=>some (.alloc B (f (base+j)),f (base+j),h,(j,B)::pd)
   | none=>match bA P cf ρ o (aC h base (pd.filter fun p=>bf j p.1)) with
    | some (v,u)=>some (.eff v (u.app (aC h base (pd.filter fun p=>bf j p.1))),v,u.app (aC h base (pd.filter fun p=>bf j p.1)),pd.filter fun p=> !bf j p.1)
    | none=>none
theorem P3 (hcf:rh cx cf){bf:Nat->Nat->Bool}{base j:Nat}{o:Oper}{ρ:Operand->Value}{h:Heap}{pd:List (Nat×Blk)}{K:UN}:
  Ref cx.bad (Qj cx bf base j o ρ h pd K) (nE cx.P cf bf base j o ρ h pd) fun r=>K r.1 r.2.1 r.2.2.1 r.2.2.2:=by
 unfold Qj
 cases hc:LR o.op with
 | p=>
  rcases yG hcf (ρ:=ρ) (h:=h) (K:=fun v _=>K (.pure v) v h pd) o with h1 | ⟨r,h1,h2⟩
  ·exact .inl h1
  ·obtain ⟨h3,_⟩:=OL hc h1
   exact .of (r:=(.pure r.1,r.1,h,pd)) (by unfold nE; rw [h3]) h2
 | r=>
  rcases yG hcf (ρ:=ρ) (h:=h) (K:=fun v _=>K (.read v) v h pd) o with h1 | ⟨r,h1,h2⟩
  ·exact .inl h1
  ·obtain ⟨h3,h4,_⟩:=QI hc h1
   exact .of (r:=(.read r.1,r.1,h,pd)) (by unfold nE; rw [h3,h4]) h2
 | e=>
  show Ref cx.bad (kz base (pd.filter fun p=>bf j p.1) h fun h=>UC o.op cx o ρ h fun v h'=>K (.eff v h') v h' (pd.filter fun p=> !bf j p.1)) _ _
  rw [mB]
  rcases yG hcf (ρ:=ρ) (h:=aC h base (pd.filter fun p=>bf j p.1)) (K:=fun v h'=>K (.eff v h') v h' (pd.filter fun p=> !bf j p.1)) o with h1 | ⟨⟨v,u⟩,h1,h2⟩
  ·exact .inl h1
  ·obtain ⟨h3,h4⟩:=RR (P:=cx.P) (ρ:=ρ) (cf:=cf) (h:=aC h base (pd.filter fun p=>bf j p.1)) hc
   obtain ⟨h5,h6,h7⟩:=h3 h
   rw [h4] at h1
   exact .of (r:=(.eff v (u.app (aC h base (pd.filter fun p=>bf j p.1))),v,u.app (aC h base (pd.filter fun p=>bf j p.1)),pd.filter fun p=> !bf j p.1))
    (by unfold nE; rw [h5,h6,h7,h1]) h2
 | d=>
  show Ref cx.bad (Vx cx bf base j o ρ h pd K) _ _
  unfold Vx nE
  cases hp:aD cx.P ρ o with
  | some v=>exact .of rfl (bU _ _)
  | none=>
   cases hr:aH cx.P ρ o h with
   | some v=>exact .of rfl (bU _ _)
   | none=>
    cases ha:aG cx.P ρ o with
    | some r=>
     obtain ⟨B,f⟩:=r
     refine .of rfl ?_
     show Ie B (fun B=>gm (f (base+j)) fun v=>K (.alloc B v) v h ((j,B)::pd))=_
     rw [ud,bU]
    | none=>
     show Ref cx.bad (kz base (pd.filter fun p=>bf j p.1) h fun h=>Jy cx.bad (bA cx.P dj ρ o h) h fun v h'=>K (.eff v h') v h' (pd.filter fun p=> !bf j p.1)) _ _
     rw [mB,rL (cf:=cf) (Mv hc)]
     cases he:bA cx.P cf ρ o (aC h base (pd.filter fun p=>bf j p.1)) with
     | none=>exact .bad
     | some r=>
      obtain ⟨v,u⟩:=r
      refine .of rfl ?_
      show RU u (aC h base (pd.filter fun p=>bf j p.1)) (fun h'=>gm v fun v=>K (.eff v h') v h' (pd.filter fun p=> !bf j p.1))=_
      rw [yJ,bU]
theorem EJ {P:Program}{gl:Nat->Bool}{ops:Array Oper}{bf:Nat->Nat->Bool}{base:Nat}{o:Oper}{rest:List Oper}{j:Nat}{tm:List Value}{h:Heap}{pd:List (Nat×Blk)}(hw:cm ops tm o=some true)
  {r:Ent×Value×Heap×List (Nat×Blk)} (hr:nE P cf bf base j o (ev gl tm) h pd=some r):
  bC P gl cf ops bf base (o::rest) j tm h pd=(bC P gl cf ops bf base rest (j+1) (dh tm o.dst r.2.1) r.2.2.1 r.2.2.2).map fun x=>((tm,r.1)::x.1,x.2):=by
 unfold nE at hr
 simp only [bC,hw]
 split at hr
 ·next v hp=>obtain rfl:=oI hr; simp only [hp]
 ·next hp=>
  simp only [hp]
  split at hr
  ·next v hrd=>obtain rfl:=oI hr; simp only [hrd]
  ·next hrd=>
   simp only [hrd]
   split at hr
   ·next B f ha=>obtain rfl:=oI hr; simp only [ha]
   ·next ha=>
    simp only [ha]
    split at hr
    ·next v u he=>obtain rfl:=oI hr; simp only [he]
    ·cases hr
inductive Recs (n:Nat):List Oper->List Fi->List (List Value×Ent)->Prop where
 | nil:Recs n [] [] []
 | cons {o:Oper} {os:List Oper} {e:Env} {ent:Ent} {tm:List Value} {a:List Fi} {b:List (List Value×Ent)} (h:co n e tm) (r:Recs n os a b):Recs n (o::os) ((o,e,ent)::a) ((tm,ent)::b)
theorem mY (hcf:rh cx cf){ops:Array Oper}{bf:Nat->Nat->Bool}{base:Nat}: ∀ (l:List Oper){j:Nat}{e:Env}{tm:List Value}{h:Heap}{pd:List (Nat×Blk)}{K:List Fi->Env->Heap->List (Nat×Blk)->Bool},co cx.n e tm->
  fJ cx ops bf base l j e h pd K=cx.bad\/ ∃ recs tm' h' pd' recsF e',bC cx.P cx.gl cf ops bf base l j tm h pd=some (recs,tm',h',pd')/\co cx.n e' tm'/\Recs cx.n l recsF recs/\fJ cx ops bf base l j e h pd K=K recsF e' h' pd'
 | [],j,e,tm,h,pd,K,hr=> .inr ⟨[],tm,h,pd,[],e,rfl,hr,.nil,rfl⟩
 | o::rest,j,e,tm,h,pd,K,hr=>by
  have hu:fJ cx ops bf base (o::rest) j e h pd K=zg ops e cx.bad o.guard
   (Qj cx bf base j o (K6 cx.gl e) h pd fun ent v h pd=>mW cx.n o.dst e v fun e'=>fJ cx ops bf base rest (j+1) e' h pd fun recs e2 h2 pd2=>K ((o,e,ent)::recs) e2 h2 pd2)
   (mW cx.n o.dst e undef fun e'=>fJ cx ops bf base rest (j+1) e' h pd fun recs e2 h2 pd2=>K ((o,e,.skip)::recs) e2 h2 pd2):=rfl
  rw [hu]
  rcases Ht hr (ops:=ops) o cx.bad (Qj cx bf base j o (K6 cx.gl e) h pd fun ent v h pd=>mW cx.n o.dst e v fun e'=>fJ cx ops bf base rest (j+1) e' h pd fun recs e2 h2 pd2=>K ((o,e,ent)::recs) e2 h2 pd2)
   (mW cx.n o.dst e undef fun e'=>fJ cx ops bf base rest (j+1) e' h pd fun recs e2 h2 pd2=>K ((o,e,.skip)::recs) e2 h2 pd2) with h1 | ⟨h1,h2⟩ | ⟨h1,h2⟩
  ·exact .inl h1
  ·rw [h2]
   rcases P3 hcf (bf:=bf) (base:=base) (j:=j) (o:=o) (ρ:=K6 cx.gl e) (h:=h) (pd:=pd) (K:=fun ent v h pd=>mW cx.n o.dst e v fun e'=>fJ cx ops bf base rest (j+1) e' h pd fun recs e2 h2 pd2=>K ((o,e,ent)::recs) e2 h2 pd2) with h3 | ⟨⟨ent,v,h',pd'⟩,h3,h4⟩
   ·exact .inl h3
   ·rw [h4]
    rw [AD hr] at h3
    obtain ⟨e',h5,h6⟩:=qj hr o.dst v
    simp only [h6]
    rcases mY hcf rest h5 (ops:=ops) (bf:=bf) (base:=base) (j:=j+1) (h:=h') (pd:=pd') (K:=fun recs e2 h2 pd2=>K ((o,e,ent)::recs) e2 h2 pd2) with h7 | ⟨recs,tm',h'',pd'',recsF,e'',h7,h8,h9,h10⟩
    ·exact .inl h7
    ·refine .inr ⟨_,_,_,_,_,_,?_,h8,.cons hr h9,h10⟩
     rw [EJ h1 h3,h7]; rfl
  ·rw [h2]
   obtain ⟨e',h5,h6⟩:=qj hr o.dst undef
   rw [h6]
   rcases mY hcf rest h5 (ops:=ops) (bf:=bf) (base:=base) (j:=j+1) (h:=h) (pd:=pd) (K:=fun recs e2 h2 pd2=>K ((o,e,.skip)::recs) e2 h2 pd2) with h7 | ⟨recs,tm',h'',pd'',recsF,e'',h7,h8,h9,h10⟩
   ·exact .inl h7
   ·refine .inr ⟨_,_,_,_,_,_,?_,h8,.cons hr h9,h10⟩
    simp only [bC,h1,h7]; rfl
theorem Pn {n:Nat}{os:List Oper}{a:List Fi}{b:List (List Value×Ent)}(h:Recs n os a b): ∀ j,CM a j=bN b j:=by
 induction h with
 | nil=>intro j; rfl
 | cons _ _ ih=>
  rename_i o os e ent tm a b _ _
  intro j
  show Xh ent j (CM a (j+1))=_
  rw [ih]
  cases ent <;> rfl
theorem CL (bf:Nat->Nat->Bool): ∀ (l:List (Nat×Heap))(p:Option Nat),vT bf l p=(match p,l with | some i,(j,_)::_=>bf j i && bS bf l | _,_=>bS bf l)
 | [],p=>by cases p <;> rfl
 | (j,h)::l,p=>by
  have ih:=CL bf l (some j)
  have hc:bS bf ((j,h)::l)=vT bf l (some j):=by
   rw [ih]
   cases l with
   | nil=>rfl
   | cons x l=>rfl
  cases p with
  | none=>show vT bf l (some j)=_; exact hc.symm
  | some i=>
   show cX (bf j i) (vT bf l (some j)) false=(bf j i && bS bf ((j,h)::l))
   rw [hc]
   cases bf j i <;> rfl
theorem Hn {P:Program}{gl:Nat->Bool}{o:Oper}{tm:List Value}{v:Value}{h:Heap}:D6 P o (ev gl tm) v h=dO P gl o tm v h:=by
 unfold D6 dO
 cases aH P (ev gl tm) o h <;> rfl
theorem zt {P:Program}{gl:Nat->Bool}{bf:Nat->Nat->Bool}{j:Nat}{o:Oper}{tm:List Value}{v:Value}: ∀ (es:List (Nat×Heap))(h:Heap)(own:Bool),yH P bf j o (ev gl tm) v es h own=fu P gl bf j o tm v h es own
 | [],h,own=>by
  show cX own true (D6 P o (ev gl tm) v h)=(own || dO P gl o tm v h)
  rw [Hn]; cases own <;> rfl
 | (x,h')::es,h,own=>by
  show cX (cX (cX own (Nat.blt j x) false) true (cX (bf j x) true (D6 P o (ev gl tm) v h))) (cX (bf x j) true (yH P bf j o (ev gl tm) v es h' (Nat.blt x j))) false=(((own && Nat.blt j x) || bf j x || dO P gl o tm v h) && (bf x j || fu P gl bf j o tm v h' es (Nat.blt x j)))
  rw [Hn,zt es]
  cases own <;> cases Nat.blt j x <;> cases bf j x <;> cases bf x j <;> cases dO P gl o tm v h <;> rfl
theorem ND {os:List Oper}{a:List Fi}{b:List (List Value×Ent)}{bf:Nat->Nat->Bool}{h:Heap}{es:List (Nat×Heap)}(hr:Recs cx.n os a b): ∀ j,Fe cx bf h es a j=di cx.P cx.gl bf h es os b j:=by
 induction hr with
 | nil=>intro j; rfl
 | cons he _ ih=>
  rename_i o os e ent tm a b _
  intro j
  show TZ cx bf h es j o e ent (Fe cx bf h es a (j+1))=_
  rw [ih]
  cases ent with
  | read v=>
   show cX (yH cx.P bf j o (K6 cx.gl e) v es h true) (di cx.P cx.gl bf h es os b (j+1)) false=(fu cx.P cx.gl bf j o tm v h es true && di cx.P cx.gl bf h es os b (j+1))
   rw [AD he,zt]
   cases fu cx.P cx.gl bf j o tm v h es true <;> rfl
  | _=>rfl
theorem Ng (hcf:rh cx cf){ops:Array Oper}{bf:Nat->Nat->Bool}{e:Env}{l:List Value}{h:Heap}{K:Env->Heap->Bool}(hr:co cx.n e l):I4 cx.n cx.bad (Ia cx ops bf e h K) (pX cx.P cx.gl cf ops bf l h) K:=by
 unfold Ia
 rw [bP]
 rcases mY hcf ops.toList hr (ops:=ops) (bf:=bf) (base:=h.next) (j:=0) (h:=⟨h.next+ops.size,h.t⟩) (pd:=[]) (K:=fun recs e' h' pd=>
  cX (cX (vT bf (CM recs 0) none) (Fe cx bf ⟨h.next+ops.size,h.t⟩ (CM recs 0) recs 0) false) (kz h.next pd h' fun h'=>K e' h') cx.bad) with h1 | ⟨recs,tm',h',pd',recsF,e',h1,h2,h3,h4⟩
 ·exact .inl h1
 ·rw [h4,Pn h3,CL,ND h3,mB]
  unfold pX
  rw [h1]
  show I4 cx.n cx.bad (cX (cX (bS bf (bN recs 0)) (di cx.P cx.gl bf ⟨h.next+ops.size,h.t⟩ (bN recs 0) ops.toList recs 0) false) (K e' (aC h' h.next pd')) cx.bad)
   (if bS bf (bN recs 0) && di cx.P cx.gl bf ⟨h.next+ops.size,h.t⟩ (bN recs 0) ops.toList recs 0 then some (tm',aC h' h.next pd') else none) K
  cases bS bf (bN recs 0) with
  | false=>exact .inl rfl
  | true=>
   cases di cx.P cx.gl bf ⟨h.next+ops.size,h.t⟩ (bN recs 0) ops.toList recs 0 with
   | false=>exact .inl rfl
   | true=>exact .inr ⟨_,_,_,rfl,h2,rfl⟩
end
def vC (n:Nat)(bad x:Bool)(run:Option (Exit×List Value×Heap))(K:Exit->Env->Heap->Bool):Prop:=x=bad\/ ∃ ex l h e,run=some (ex,l,h)/\co n e l/\x=K ex e h
theorem IK {n:Nat}{v:Value}{bad:Bool}{K:Bool->Bool}{run:Option (Exit×List Value×Heap)}{K':Exit->Env->Heap->Bool}(hh: ∀ b,v = .bool b->vC n bad (K b) run K'):vC n bad (wF v bad K) run K':=by
 rcases H0 v bad K with ⟨h1,_⟩ | ⟨b,h1,h2⟩
 ·rw [h1]; exact .inl rfl
 ·rw [h2]; exact hh b h1
theorem pi (x:Exit)(norm:Bool)(ex:Nat->Bool)(els:Bool):(x = .normal/\ep x norm ex els=norm)\/(∃ id,x = .exit id/\ep x norm ex els=ex id)\/((∀ id,x≠ .exit id)/\x≠ .normal/\ep x norm ex els=els):=by
 cases x with
 | normal=>exact .inl ⟨rfl,rfl⟩
 | exit id=>exact .inr (.inl ⟨id,rfl,rfl⟩)
 | _=>exact .inr (.inr ⟨fun _=>by simp,by simp,rfl⟩)
theorem D7 {cx:Cx}{c:Code}{a:io}{cf:aX}{N:Nat}(ih: ∀ {e l h K},co cx.n e l->vC cx.n cx.bad (a cx e h K) (az cx.P cx.gl cf N c l h) K): ∀ (m:Nat){e:Env}{l:List Value}{h:Heap}{K:Exit->Env->Heap->Bool},co cx.n e l->
  vC cx.n cx.bad (Nat.rec (motive:=fun _=>Env->Heap->Bool) (fun _ _=>cx.bad) (fun _ ih e h=>a cx e h fun x e h=>ep x (ih e h) (fun id=>K (.exit id) e h) (K x e h)) m e h) (yj (az cx.P cx.gl cf N c) m l h) K
 | 0,_,_,_,_,_=> .inl rfl
 | m+1,e,l,h,K,hr=>by
  show vC cx.n cx.bad (a cx e h fun x e h=>ep x ((Nat.rec (motive:=fun _=>Env->Heap->Bool) (fun _ _=>cx.bad) (fun _ ih e h=>a cx e h fun x e h=>ep x (ih e h) (fun id=>K (.exit id) e h) (K x e h)) m:Env->Heap->Bool) e h) (fun id=>K (.exit id) e h) (K x e h)) _ K
  rcases ih (h:=h) (K:=fun x e h=>ep x ((Nat.rec (motive:=fun _=>Env->Heap->Bool) (fun _ _=>cx.bad) (fun _ ih e h=>a cx e h fun x e h=>ep x (ih e h) (fun id=>K (.exit id) e h) (K x e h)) m:Env->Heap->Bool) e h) (fun id=>K (.exit id) e h) (K x e h)) hr with h1 | ⟨ex,l1,h1,e1,h2,h3,h4⟩
  ·exact .inl h1
  ·rw [h4]; dsimp only
   rcases pi ex ((Nat.rec (motive:=fun _=>Env->Heap->Bool) (fun _ _=>cx.bad) (fun _ ih e h=>a cx e h fun x e h=>ep x (ih e h) (fun id=>K (.exit id) e h) (K x e h)) m:Env->Heap->Bool) e1 h1) (fun id=>K (.exit id) e1 h1) (K ex e1 h1) with ⟨rfl,h5⟩ | ⟨id,rfl,h5⟩ | ⟨h6,h7,h5⟩
   ·rw [h5]
    simp only [yj,h2]
    exact D7 ih m h3
   ·rw [h5]
    exact .inr ⟨.exit id,l1,h1,e1,by simp only [yj,h2],h3,rfl⟩
   ·rw [h5]
    refine .inr ⟨ex,l1,h1,e1,?_,h3,rfl⟩
    simp only [yj,h2]
    cases ex <;> first | rfl | exact absurd rfl h7
theorem UK (asg body:Code)(bad:Bool)(K:gJ asg body=true->Bool):XQ asg body bad K=bad\/ ∃ ok,XQ asg body bad K=K ok:=by
 unfold XQ
 have key: ∀ (b:Bool)(hb:gJ asg body=b),(Bool.rec (motive:=fun b=>gJ asg body=b->Bool) (fun _=>bad) K b hb=bad)\/ ∃ ok,Bool.rec (motive:=fun b=>gJ asg body=b->Bool) (fun _=>bad) K b hb=K ok:=by
  intro b hb
  cases b with
  | false=>exact .inl rfl
  | true=>exact .inr ⟨hb,rfl⟩
 exact key _ rfl
theorem t8 (b:Option Blk)(bad:Bool)(K:LSt->List Value->List Tmp->(asg body:Code)->gJ asg body=true->Bool):
  nG b bad K=bad\/ ∃ st tm ps asg body ok,b=some (.loop st tm ps asg body ok)/\nG b bad K=K st tm ps asg body ok:=by
 cases b with
 | none=>exact .inl rfl
 | some B=>cases B with
  | loop st tm ps asg body ok=>exact .inr ⟨st,tm,ps,asg,body,ok,rfl,rfl⟩
  | _=>exact .inl rfl
theorem Rr (e:Env): ∀ (n i:Nat)(K:List Value->Bool),V5 e n i K=K ((List.range' i n).map fun t=>Env.get t e)
 | 0,_,_=>rfl
 | n+1,i,K=>by
  show gm (Env.get i e) (fun v=>V5 e n (i+1) fun l=>K (v::l))=_
  rw [bU,Rr e n (i+1)]
  rfl
theorem Re {n:Nat}{e:Env}{l:List Value}(hr:co n e l)(K:List Value->Bool):V5 e n 0 K=K l:=by
 rw [Rr]
 congr 1
 obtain ⟨h1,_,h3⟩:=hr
 refine List.ext_getElem? fun t=> ?_
 rw [List.getElem?_map]
 by_cases ht:t < n
 ·rw [List.getElem?_range' ht]
  simp only [Option.map_some,Nat.zero_add,Nat.one_mul]
  rw [h3,gE (by omega),gD,gE (by omega)]; rfl
 ·rw [List.getElem?_eq_none (by simp; omega),List.getElem?_eq_none (by omega)]; rfl
theorem oq: ∀ (l:List Value)(i:Nat)(e:Env),i+l.length<=256-> ∃ e':Env,(∀ (K:Env->Bool),tM l i e K=K e')/\ ∀ t,Env.get t e'=if i<=t/\t < i+l.length then l.getD (t - i) undef else Env.get t e
 | [],i,e,_=>⟨e,fun _=>rfl,fun t=>by rw [if_neg (by simp only [List.length_nil]; omega)]⟩
 | v::l,i,e,hl=>by
  simp only [List.length_cons] at hl
  obtain ⟨e',h1,h2⟩:=oq l (i+1) (Env.new i e v) (by omega)
  refine ⟨e',fun K=> ?_,fun t=> ?_⟩
  ·show gm v (fun v=>Env.put i e v fun e=>tM l (i+1) e K)=_
   rw [bU,Env.put_eq,h1]
  ·rw [h2]
   simp only [List.length_cons]
   by_cases ht:t=i
   ·subst ht
    rw [if_neg (by omega),Env.get_put (by omega),if_pos rfl,if_pos (by omega),Nat.sub_self]; rfl
   ·rw [Env.get_put (by omega),if_neg ht]
    by_cases h3:i+1<=t/\t < i+1+l.length
    ·rw [if_pos h3,if_pos (by omega),show t - i=(t - (i+1))+1 by omega]; rfl
    ·rw [if_neg h3,if_neg (by omega)]
theorem Jl: ∀ (t:HT)(K:HT->Bool),V0 t K=K t
 | .nil,_=>rfl
 | .node v l r,K=>by
  show V0 l (fun l=>V0 r fun r=>Option.rec (motive:=fun _=>Bool) (K (.node none l r)) (fun B=>Ie B fun B=>K (.node (some B) l r)) v)=_
  rw [Jl l,Jl r]
  cases v with
  | none=>rfl
  | some B=>exact ud B _
theorem Ou {cx:Cx}{ops:Array Oper}{e:Env}{l:List Value}{h:Heap}{K:Env->Heap->Bool}(hr:co cx.n e l):I4 cx.n cx.bad (R7 cx ops e h K) (Gf cx.P cx.gl ops (ba (ck ops)) l h) K:=by
 unfold R7
 rw [Re hr]
 cases hd:Gf cx.P cx.gl ops (ba (ck ops)) l h with
 | none=>exact .inl rfl
 | some r=>
  obtain ⟨tm,h'⟩:=r
  show I4 cx.n cx.bad (cX (Nat.beq tm.length cx.n) (tM tm 0 wk fun e=>eZ h'.next fun nx=>V0 h'.t fun t=>K e ⟨nx,t⟩) cx.bad) _ K
  cases hb:Nat.beq tm.length cx.n with
  | false=>exact .inl rfl
  | true=>
   have hl:tm.length=cx.n:=by simpa [Nat.beq_eq] using hb
   obtain ⟨e0,h3,h4⟩:=oq tm 0 wk (by have:=hr.2.1; omega)
   refine .inr ⟨tm,h',e0,rfl,⟨hl,hr.2.1,fun t=> ?_⟩,?_⟩
   ·rw [h4]
    split
    ·rfl
    ·next ht=>rw [uF,gD,List.getElem?_eq_none (by omega)]; rfl
   ·show tM tm 0 wk (fun e=>eZ h'.next fun nx=>V0 h'.t fun t=>K e ⟨nx,t⟩)=_
    rw [h3,bP,Jl]
theorem cO {cx:Cx}{cf:aX}(hcf:rh cx cf): ∀ (c:Code){e:Env}{l:List Value}{h:Heap}{K:Exit->Env->Heap->Bool},co cx.n e l->vC cx.n cx.bad (eH c cx e h K) (az cx.P cx.gl cf cx.N c l h) K
 | .skip,e,l,h,K,hr=> .inr ⟨_,_,_,_,rfl,hr,rfl⟩
 | .region id ops draw,e,l,h,K,hr=>by
  cases draw with
  | true=>
   show vC cx.n cx.bad (cX (pO ops) (R7 cx ops e h fun e h=>K .normal e h) (Ia cx ops (ba (ck ops)) e h fun e h=>K .normal e h)) ((AS cx.P cx.gl cf ops l h).map fun r=>(.normal,r.1,r.2)) K
   unfold AS
   cases hany:pO ops with
   | true=>
    rw [if_pos rfl]
    rcases Ou hr (ops:=ops) (h:=h) (K:=fun e h=>K .normal e h) with h1 | ⟨l1,h1,e1,h2,h3,h4⟩
    ·exact .inl h1
    ·exact .inr ⟨.normal,l1,h1,e1,by rw [h2]; rfl,h3,h4⟩
   | false=>
   rw [if_neg (by simp)]
   show vC cx.n cx.bad (Ia cx ops (ba (ck ops)) e h fun e h=>K .normal e h) _ K
   rcases Ng hcf hr (ops:=ops) (bf:=ba (ck ops)) (h:=h) (K:=fun e h=>K .normal e h) with h1 | ⟨l1,h1,e1,h2,h3,h4⟩
   ·exact .inl h1
   ·exact .inr ⟨.normal,l1,h1,e1,by rw [h2]; rfl,h3,h4⟩
  | false=>
   show vC cx.n cx.bad (Iw cx ops ops.toList e h fun e h=>K .normal e h) ((dc cx.P cx.gl cf ops ops.toList l h).map fun r=>(.normal,r.1,r.2)) K
   rcases Bk hcf ops.toList hr (ops:=ops) (h:=h) (K:=fun e h=>K .normal e h) with h1 | ⟨l1,h1,e1,h2,h3,h4⟩
   ·exact .inl h1
   ·exact .inr ⟨.normal,l1,h1,e1,by rw [h2]; rfl,h3,h4⟩
 | .seq a b,e,l,h,K,hr=>by
  show vC cx.n cx.bad (eH a cx e h fun x e h=>ep x (eH b cx e h K) (fun id=>K (.exit id) e h) (K x e h)) _ K
  rcases cO hcf a hr (h:=h) (K:=fun x e h=>ep x (eH b cx e h K) (fun id=>K (.exit id) e h) (K x e h)) with h1 | ⟨ex,l1,h1,e1,h2,h3,h4⟩
  ·exact .inl h1
  ·rw [h4]; dsimp only
   rcases pi ex (eH b cx e1 h1 K) (fun id=>K (.exit id) e1 h1) (K ex e1 h1) with ⟨rfl,h5⟩ | ⟨id,rfl,h5⟩ | ⟨h6,h7,h5⟩
   ·rw [h5]
    simp only [az,h2]
    exact cO hcf b h3
   ·rw [h5]
    exact .inr ⟨.exit id,l1,h1,e1,by simp only [az,h2],h3,rfl⟩
   ·rw [h5]
    refine .inr ⟨ex,l1,h1,e1,?_,h3,rfl⟩
    simp only [az,h2]
    cases ex <;> first | rfl | exact absurd rfl h7
 | .cond c a b,e,l,h,K,hr=>by
  show vC cx.n cx.bad (wF (K6 cx.gl e c) cx.bad fun t=>cX t (eH a cx e h K) (eH b cx e h K)) _ K
  refine IK fun t ht=> ?_
  rw [AD hr] at ht
  simp only [az,ht]
  cases t with
  | true=>simp only [if_true]; exact cO hcf a hr
  | false=>simp only [Bool.false_eq_true,if_false]; exact cO hcf b hr
 | .block id a,e,l,h,K,hr=>by
  show vC cx.n cx.bad (eH a cx e h fun x e h=>ep x (K .normal e h) (fun id'=>cX (Nat.beq id' id) (K .normal e h) (K (.exit id') e h)) (K x e h)) _ K
  rcases cO hcf a hr (h:=h) (K:=fun x e h=>ep x (K .normal e h) (fun id'=>cX (Nat.beq id' id) (K .normal e h) (K (.exit id') e h)) (K x e h)) with h1 | ⟨ex,l1,h1,e1,h2,h3,h4⟩
  ·exact .inl h1
  ·rw [h4]; dsimp only
   rcases pi ex (K .normal e1 h1) (fun id'=>cX (Nat.beq id' id) (K .normal e1 h1) (K (.exit id') e1 h1)) (K ex e1 h1) with ⟨rfl,h5⟩ | ⟨id',rfl,h5⟩ | ⟨h6,h7,h5⟩
   ·rw [h5]
    exact .inr ⟨.normal,l1,h1,e1,by simp only [az,h2],h3,rfl⟩
   ·rw [h5]
    by_cases hid:id'=id
    ·subst hid
     refine .inr ⟨.normal,l1,h1,e1,by simp only [az,h2,if_true],h3,?_⟩
     rw [show Nat.beq id' id'=true by simp]; rfl
    ·refine .inr ⟨.exit id',l1,h1,e1,by simp only [az,h2,if_neg hid],h3,?_⟩
     have:Nat.beq id' id=false:=by
      rw [Bool.eq_false_iff]; intro hb; exact hid (by simpa [Nat.beq_eq] using hb)
     rw [this]; rfl
   ·rw [h5]
    refine .inr ⟨ex,l1,h1,e1,?_,h3,rfl⟩
    simp only [az,h2]
    cases ex <;> first | rfl | exact absurd rfl (h6 _)
 | .loop c,e,l,h,K,hr=>D7 (fun {e l h K} hr=>cO hcf c hr) cx.N hr
 | .exit id,e,l,h,K,hr=> .inr ⟨_,_,_,_,rfl,hr,rfl⟩
 | .ret,e,l,h,K,hr=> .inr ⟨_,_,_,_,rfl,hr,rfl⟩
 | .label _,e,l,h,K,hr=> .inr ⟨_,_,_,_,rfl,hr,rfl⟩
 | .rangeFunc f ps asg body,e,l,h,K,hr=>by
  show vC cx.n cx.bad (Jx f ps asg body cx e h K) _ K
  unfold Jx
  rcases GE (K6 cx.gl e f) cx.bad _ with ⟨h1,_⟩ | ⟨fn,first,captured,h1,h2⟩
  ·rw [h1]; exact .inl rfl
  ·rw [h2]
   rw [AD hr] at h1
   cases fn with
   | func g=>
    dsimp only [Yu]
    rcases UK asg body cx.bad (fun ok=>cX (Nat.blt g YB) (cX (pc cx.P g)
     (V5 e cx.n 0 fun tm=>wh (first.toList++[.func (.yield h.next) #[] #[]]++captured.toList) fun vs=>rA (.loop .ready tm ps.toList asg body ok) h fun h1=>cx.cf g vs h1 fun _ h2=>
      nG (h2.get h.next) cx.bad fun st _ _ _ _ _=>KY st cx.bad fun x=>HT.setK none (bD h.next) h2.t fun t=>K x e ⟨h2.next,t⟩) cx.bad) cx.bad) with h3 | ⟨ok,h3⟩
    ·rw [h3]; exact .inl rfl
    ·rw [h3]
     cases hg:Nat.blt g YB with
     | false=>exact .inl rfl
     | true=>
      have hg':g < YB:=by simpa [Nat.blt_eq] using hg
      cases hb:pc cx.P g with
      | false=>exact .inl rfl
      | true=>
       dsimp only [cX]
       rw [Re hr,vx]
       have hup: ∀ (B:Blk)(K:Heap->Bool),rA B h K=K (h.push B):=fun B K=>yJ (.push B) h K
       rw [hup]
       rcases hcf g (first.toList++[.func (.yield h.next) #[] #[]]++captured.toList) (h.push (.loop .ready l ps.toList asg body ok)) (fun _ h2=>
        nG (h2.get h.next) cx.bad fun st _ _ _ _ _=>KY st cx.bad fun x=>HT.setK none (bD h.next) h2.t fun t=>K x e ⟨h2.next,t⟩) with h4 | ⟨⟨v,h2⟩,h4,h5⟩
       ·rw [h4]; exact .inl rfl
       ·rw [h5]
        dsimp only
        have hrun:az cx.P cx.gl cf cx.N (.rangeFunc f ps asg body) l h=(Lg (h2.get h.next)).map fun e=>(e,l,h2.del h.next):=by
         simp only [az,h1]
         rw [dif_pos ok,if_pos ⟨hg',hb⟩,h4]
        rcases t8 (h2.get h.next) cx.bad (fun st _ _ _ _ _=>KY st cx.bad fun x=>HT.setK none (bD h.next) h2.t fun t=>K x e ⟨h2.next,t⟩) with h6 | ⟨st,tm2,ps2,a2,b2,ok2,h6,h7⟩
        ·rw [h6]; exact .inl rfl
        ·rw [h7]
         rw [h6] at hrun
         cases st with
         | ready=>exact .inr ⟨_,_,_,e,hrun,hr,HT.setK_eq _ _ _ _⟩
         | busy=>exact .inl rfl
         | ret=>exact .inr ⟨_,_,_,e,hrun,hr,HT.setK_eq _ _ _ _⟩
         | exit id=>exact .inr ⟨_,_,_,e,hrun,hr,HT.setK_eq _ _ _ _⟩
   | _=>exact .inl rfl
 | .scope _,_,_,_,_,_=> .inl rfl
 | .goto _,_,_,_,_,_=> .inl rfl
 | .refuse _,_,_,_,_,_=> .inl rfl
theorem sG {P:Program}{n:Nat}{e:Env}{tm:List Value}{h:Heap}{bad:Bool}(hr:co n e tm): ∀ (l:List ResultVar)(K:List Value->Bool),Ref bad (yp P e h bad l K) (be P tm h l) K
 | [],K=> .of rfl rfl
 | .tmp t::l,K=>by
  show Ref bad (gm (Env.get t e) fun v=>yp P e h bad l fun vs=>K (v::vs)) _ K
  rw [bU,hr.2.2 t]
  rcases sG hr l (fun vs=>K (tm.getD t undef::vs)) with h1 | ⟨vs,h1,h2⟩
  ·exact .inl h1
  ·exact .of (by simp only [be,h1]; rfl) h2
 | .cell a t::l,K=>by
  show Ref bad (BT bad (ah P t h (Env.get a e)) fun v=>yp P e h bad l fun vs=>K (v::vs)) _ K
  refine dy fun v hv=> ?_
  rw [hr.2.2 a] at hv
  rcases sG hr l (fun vs=>K (v::vs)) with h1 | ⟨vs,h1,h2⟩
  ·exact .inl h1
  ·exact .of (by simp only [be,hv,h1]; rfl) h2
theorem Il {n:Nat}: ∀ (pa:List (Tmp×Value)){e:Env}{l:List Value},co n e l-> ∃ e',co n e' (oM l pa)/\ ∀ (K:Env->Bool),O7 n pa e K=K e'
 | [],e,l,hr=>⟨e,hr,fun _=>rfl⟩
 | p::pa,e,l,hr=>by
  obtain ⟨e1,h1,h2⟩:=qj hr (some p.1) p.2
  obtain ⟨e2,h3,h4⟩:=Il pa h1
  refine ⟨e2,h3,fun K=> ?_⟩
  show mW n (some p.1) e p.2 (fun e=>O7 n pa e K)=_
  rw [h2,h4]
theorem Kd {P:Program}{gl:Nat->Bool}{bad:Bool}{fl:Nat}{cK:FuncId->List Value->Heap->(Value->Heap->Bool)->Bool}{cf:aX}(hcf: ∀ f args h K,Ref bad (cK f args h K) (cf f args h) fun r=>K r.1 r.2)(k:Nat)(args:List Value)(h:Heap)(K:Value->Heap->Bool):
  Ref bad (ET (fun nt=>⟨P,gl,cK,fl,nt,bad⟩) bad k args h K) (mA (az P gl cf fl) k args h) fun r=>K r.1 r.2:=by
 unfold ET
 rcases t8 (h.get k) bad _ with h1 | ⟨st,tm,ps,asg,body,ok,h1,h2⟩
 ·exact .inl h1
 rw [h2]
 cases st with
 | busy=>exact .inl rfl
 | ret=>exact .inl rfl
 | exit id=>exact .inl rfl
 | ready=>
 show Ref bad (cX (Nat.beq args.length ps.length) _ bad) _ _
 refine bI (fun hlen=> ?_) (fun _=> .bad)
 have hlen:args.length=ps.length:=by simpa [Nat.beq_eq] using hlen
 rw [bP]
 refine bI (fun hn=> ?_) (fun _=> .bad)
 have hn:tm.length<=256:=by simpa [Nat.ble_eq] using hn
 obtain ⟨e0,h3,h4⟩:=oq tm 0 wk (by omega)
 rw [h3]
 have hr0:co tm.length e0 tm:=by
  refine ⟨rfl,hn,fun t=> ?_⟩
  rw [h4]
  split
  ·rfl
  ·next ht=>rw [uF,gD,List.getElem?_eq_none (by omega)]; rfl
 obtain ⟨e1,hr1,h5⟩:=Il (ps.zip args) hr0
 rw [h5]
 let cx:Cx:=⟨P,gl,cK,fl,tm.length,bad⟩
 have hcf':rh cx cf:=fun f args h K=>hcf f args h K
 rcases cO hcf' asg (h:=h) (K:=fun x e h1=>ep x
   (nG (h1.get k) bad fun st' tm' ps' asg' body' ok'=>Az st' bad (HT.setK (some (.loop .busy tm' ps' asg' body' ok')) (bD k) h1.t fun t=>eH body cx e ⟨h1.next,t⟩ fun x _ h2=>
    nG (h2.get k) bad fun _ tm2 ps2 asg2 body2 ok2=>PZ x bad fun b st2=>HT.setK (some (.loop st2 tm2 ps2 asg2 body2 ok2)) (bD k) h2.t fun t=>K (.bool b) ⟨h2.next,t⟩))
   (fun _=>bad) bad) hr1 with h6 | ⟨ex,l1,g1,e2,h6,hr2,h7⟩
 ·exact .inl h6
 refine (show Ref bad _ _ _↔_ from Iff.rfl).2 ?_
 rw [h7]
 dsimp only
 cases ex with
 | normal=>
  dsimp only [ep]
  rcases t8 (g1.get k) bad (fun st' tm' ps' asg' body' ok'=>Az st' bad (HT.setK (some (.loop .busy tm' ps' asg' body' ok')) (bD k) g1.t fun t=>eH body cx e2 ⟨g1.next,t⟩ fun x _ h2=>
    nG (h2.get k) bad fun _ tm2 ps2 asg2 body2 ok2=>PZ x bad fun b st2=>HT.setK (some (.loop st2 tm2 ps2 asg2 body2 ok2)) (bD k) h2.t fun t=>K (.bool b) ⟨h2.next,t⟩)) with h8 | ⟨st',tm',ps',asg',body',ok',h8,h9⟩
  ·exact .inl h8
  rw [h9]
  cases st' with
  | busy=>exact .inl rfl
  | ret=>exact .inl rfl
  | exit id=>exact .inl rfl
  | ready=>
  dsimp only [Az]
  rw [HT.setK_eq]
  rcases cO hcf' body (h:=g1.set k (.loop .busy tm' ps' asg' body' ok')) (K:=fun x _ h2=>
    nG (h2.get k) bad fun _ tm2 ps2 asg2 body2 ok2=>PZ x bad fun b st2=>HT.setK (some (.loop st2 tm2 ps2 asg2 body2 ok2)) (bD k) h2.t fun t=>K (.bool b) ⟨h2.next,t⟩) hr2 with h10 | ⟨ex2,l2,g2,e3,h10,hr3,h11⟩
  ·exact .inl h10
  ·refine (show Ref bad (eH body cx e2 (g1.set k (.loop .busy tm' ps' asg' body' ok')) _) _ _ from ?_)
   rw [h11]
   dsimp only
   rcases t8 (g2.get k) bad (fun _ tm2 ps2 asg2 body2 ok2=>PZ ex2 bad fun b st2=>HT.setK (some (.loop st2 tm2 ps2 asg2 body2 ok2)) (bD k) g2.t fun t=>K (.bool b) ⟨g2.next,t⟩) with h12 | ⟨st2,tm2,ps2,asg2,body2,ok2,h12,h13⟩
   ·exact .inl h12
   rw [h13]
   have hrun: ∀ b st3,HE ex2=some (b,st3)->mA (az P gl cf fl) k args h=some (.bool b,g2.set k (.loop st3 tm2 ps2 asg2 body2 ok2)):=fun b st3 hl=>by
    have h6':az P gl cf fl asg (oM tm (ps.zip args)) h=some (.normal,l1,g1):=h6
    have h10':az P gl cf fl body l1 (g1.set k (.loop .busy tm' ps' asg' body' ok'))=some (ex2,l2,g2):=h10
    unfold mA
    simp only [h1,hlen,if_true,h6',h8,h10',h12,hl]
   cases ex2 with
   | normal=>exact .of (hrun true .ready rfl) (HT.setK_eq _ _ _ _)
   | ret=>exact .of (hrun false .ret rfl) (HT.setK_eq _ _ _ _)
   | exit id=>exact .of (hrun false (.exit id) rfl) (HT.setK_eq _ _ _ _)
   | _=>exact .inl rfl
 | _=>exact .inl rfl
def sq (bad:Bool)(pf:FuncId->Option (kJ))(pr:FuncId->Option my):Prop:=
 ∀ f,(pf f=none/\pr f=none)\/ ∃ p q,pf f=some p/\pr f=some q/\
  ∀ (cf:FuncId->List Value->Heap->(Value->Heap->Bool)->Bool)(cr:aX),(∀ f args h K,Ref bad (cf f args h K) (cr f args h) fun r=>K r.1 r.2)-> ∀ args h K,Ref bad (p cf args h K) (q cr args h) fun r=>K r.1 r.2
theorem Df {P:Program}{gl:Nat->Bool}{bad:Bool}{pf:FuncId->Option (kJ)}{pr:FuncId->Option my}(hp:sq bad pf pr): ∀ n f args h K,Ref bad (qX P gl pf bad n f args h K) (aM P gl pr n f args h) fun r=>K r.1 r.2
 | 0,_,_,_,_=> .bad
 | n+1,f,args,h,K=>by
  have ih:=Df hp (P:=P) (gl:=gl) n
  show Ref bad (cX (Nat.ble YB f) (eZ (f - YB) fun k=>ET (fun nt=>⟨P,gl,qX P gl pf bad n,n,nt,bad⟩) bad k args h K) (Option.rec (motive:=fun _=>Bool)
   (BT bad (P.funcs[f]?) fun fn=>BT bad fn.body fun c=>cX (Nat.ble fn.ntmps 256 && Nat.ble args.length fn.ntmps)
    (tM args 0 wk fun e=>eH c ⟨P,gl,qX P gl pf bad n,n,fn.ntmps,bad⟩ e h fun x e h=>SU x bad (yp P e h bad fn.results.toList fun vs=>K (aI vs) h)) bad)
   (fun p=>p (qX P gl pf bad n) args h K) (pf f))) _ _
  refine bI (fun hY=> ?_) (fun hY=> ?_)
  ·have hY:YB<=f:=by simpa [Nat.ble_eq] using hY
   rw [bP]
   rcases Kd (P:=P) (gl:=gl) (fl:=n) ih (f - YB) args h K with h1 | ⟨r,h1,h2⟩
   ·exact .inl h1
   ·exact .of (r:=r) (by simp only [aM,if_pos hY]; exact h1) h2
  have hY: ¬ YB<=f:=fun hh=>by
   have:Nat.ble YB f=true:=by simpa [Nat.ble_eq] using hh
   rw [hY] at this; cases this
  rcases hp f with ⟨h1,h2⟩ | ⟨p,q,h1,h2,h3⟩
  ·rw [h1]
   refine dy fun fn hfn=>dy fun c hc=>bI (fun hb=> ?_) (fun _=> .bad)
   simp only [Bool.and_eq_true,Nat.ble_eq] at hb
   obtain ⟨e',h3,h4⟩:=oq args 0 wk (by omega)
   rw [h3]
   have hr:co fn.ntmps e' (args++List.replicate (fn.ntmps - args.length) undef):=by
    refine ⟨by simp; omega,hb.1,fun t=> ?_⟩
    rw [h4]
    split
    ·next ht=>rw [Nat.sub_zero,gD,gD,List.getElem?_append_left (by omega)]
    ·next ht=>
     rw [uF,gD,List.getElem?_append_right (by omega),List.getElem?_replicate]
     split <;> rfl
   let cx:Cx:=⟨P,gl,qX P gl pf bad n,n,fn.ntmps,bad⟩
   have hcf:rh cx (aM P gl pr n):=fun f args h K=>ih f args h K
   have key:=cO hcf c (h:=h) (K:=fun x e h=>SU x bad (yp P e h bad fn.results.toList fun vs=>K (aI vs) h)) (e:=e') (l:=args++List.replicate (fn.ntmps - args.length) undef) hr
   rcases key with h5 | ⟨ex,l1,h5,e1,h6,h7,h8⟩
   ·exact .inl h5
   ·rw [show eH c ⟨P,gl,qX P gl pf bad n,n,fn.ntmps,bad⟩ e' h (fun x e h=>SU x bad (yp P e h bad fn.results.toList fun vs=>K (aI vs) h))=_ from h8]
    have hrun:az P gl (aM P gl pr n) n c (args++List.replicate (fn.ntmps - args.length) undef) h=some (ex,l1,h5):=h6
    have fin:ex = .normal\/ex = .ret->Ref bad (yp P e1 h5 bad fn.results.toList fun vs=>K (aI vs) h5) (aM P gl pr (n+1) f args h) fun r=>K r.1 r.2:=fun hex=>by
     rcases sG h7 fn.results.toList (fun vs=>K (aI vs) h5) (P:=P) (h:=h5) (bad:=bad) with h9 | ⟨vs,h9,h10⟩
     ·exact .inl h9
     ·refine .of (r:=(aI vs,h5)) ?_ h10
      simp only [aM,if_neg hY,h2,hfn,hc,hrun]
      rcases hex with rfl | rfl <;> simp only [h9,Option.map_some]
    cases ex with
    | normal=>exact fin (.inl rfl)
    | ret=>exact fin (.inr rfl)
    | _=>exact .bad
  ·rw [h1]
   rcases h3 (qX P gl pf bad n) (aM P gl pr n) ih args h K with h4 | ⟨r,h4,h5⟩
   ·exact .inl h4
   ·exact .of (r:=r) (by simp only [aM,if_neg hY,h2]; exact h4) h5
section
variable {β:Inj} {P:Program} {gl:Nat->Bool}
theorem qZ {f:FuncId}{fn:Func}{e:Array Value->Sem Value}{p:my}(hf:P.funcs[f]?=some fn)(hname:(fn.name == "runtime.NumGoroutine")=false) (hb:fn.body.isNone=true) (hn:Extern.findNext fn=none) (he:Extern.find fn=some e)
  (h: ∀ cf args h v h',p cf args h=some (v,h')-> ∀ β w (args':Array Value),Sim β h w->LRel β args args'.toList-> ∃ v' w' β',(e args').run P w = .ok v' w'/\Step β h w β' h' w'/\VRel β' v v'):fE P gl f p:=by
 intro cf _ args hh v h' hp β w args' hs _ ha
 obtain ⟨v',w',β',h1,h2,h3⟩:=h cf args hh v h' hp β w args' hs ha
 refine ⟨fn,hf,.inr ⟨v',w',β',?_,h2,h3⟩⟩
 rw [run_callFunc_extern hf hname hb hn he,h1]
 rfl
def gr:my:=fun _ args h=>match args with
 | [v]=>some (v,h)
 | _=>none
theorem xe {f:FuncId}{fn:Func}(hf:P.funcs[f]?=some fn)(hname:(fn.name == "runtime.NumGoroutine")=false) (hb:fn.body.isNone=true) (hn:Extern.findNext fn=none) (he:Extern.find fn=some Extern.AbiNoEscape.same):fE P gl f gr:=by
 refine qZ hf hname hb hn he fun cf args h v h' hp β w args' hs ha=> ?_
 unfold gr at hp
 split at hp
 ·next u=>
  simp only [Option.some.injEq,Prod.mk.injEq] at hp
  obtain ⟨rfl,rfl⟩:=hp
  obtain ⟨u',r,hr,hv,hn⟩:=ha.inv_cons
  obtain rfl:=hn.inv_nil
  obtain rfl:args' = #[u']:=by
   have:=congrArg List.toArray hr
   simpa using this
  exact ⟨u',w,β,rfl,Step.refl hs,hv⟩
 ·cases hp
noncomputable def jF (c:Nat):List UInt8->Nat->Int
 | [],_=> -1
 | b::l,i=>if b.toNat=c then i else jF c l (i+1)
noncomputable def dV:my:=fun _ args h=>match args with
 | [.string s,.int .u8 c]=>if 0<=c/\c < 256 then some (.int .i64 (jF c.toNat s.data.toList 0),h) else none
 | _=>none
theorem Mw (s:ByteArray)(c:Nat)(hc:c < 256):jF c s.data.toList 0=firstIdx s c.toUInt8:=by
 have key: ∀ (l:List UInt8)(i:Nat),s.data.toList.drop i=l->jF c l i=match (List.range' i l.length).find? fun j=>s[j]! == c.toUInt8 with | some j=>(j:Int) | none=> -1:=by
  intro l
  induction l with
  | nil=>intro i _; rfl
  | cons b l ih=>
   intro i hi
   have hlt:i < s.data.toList.length:=by
    rcases Nat.lt_or_ge i s.data.toList.length with h | h
    ·exact h
    ·rw [List.drop_eq_nil_of_le h] at hi; cases hi
   have hb:s[i]! = b:=by
    have h0:s.data.toList[i]?=some b:=by
     have:(s.data.toList.drop i)[0]?=some b:=by rw [hi]; rfl
     rw [List.getElem?_drop] at this; simpa using this
    have hsz:i < s.size:=by simpa using hlt
    rw [getElem!_pos s i hsz]
    have:s.data[i]?=some b:=by rw [<-Array.getElem?_toList]; exact h0
    rw [Array.getElem?_eq_getElem (by simpa using hlt)] at this
    exact oI this
   have hd:s.data.toList.drop (i+1)=l:=by rw [<-List.drop_drop,hi]; rfl
   simp only [jF,List.length_cons,List.range'_succ,List.find?_cons,hb]
   by_cases hbc:b.toNat=c
   ·have:(b == c.toUInt8)=true:=by
     rw [beq_iff_eq,<-UInt8.toNat_inj]; simp [hbc]; omega
    rw [if_pos hbc,this]
   ·have:(b == c.toUInt8)=false:=by
     rw [beq_eq_false_iff_ne]; rintro rfl; apply hbc; simp; omega
    rw [if_neg hbc,this]
    exact ih (i+1) hd
 rw [key s.data.toList 0 rfl]
 unfold firstIdx
 rw [List.range_eq_range',show s.data.toList.length=s.size by simp]
 generalize List.find? (fun i=>s[i]! == c.toUInt8) (List.range' 0 s.size)=x
 cases x <;> rfl
theorem um {f:FuncId}{fn:Func}(hf:P.funcs[f]?=some fn)(hname:(fn.name == "runtime.NumGoroutine")=false) (hb:fn.body.isNone=true) (hn:Extern.findNext fn=none) (he:Extern.find fn=some Extern.BytealgIndexByte.indexByte):fE P gl f dV:=by
 refine qZ hf hname hb hn he fun cf args h v h' hp β w args' hs ha=> ?_
 unfold dV at hp
 split at hp
 ·next s c=>
  split at hp
  ·next hc=>
   simp only [Option.some.injEq,Prod.mk.injEq] at hp
   obtain ⟨rfl,rfl⟩:=hp
   obtain ⟨u',r,hr,hv,hn⟩:=ha.inv_cons
   obtain ⟨x',r',rfl,hx,hn'⟩:=hn.inv_cons
   obtain rfl:=hn'.inv_nil
   obtain rfl:=hv.inv_string
   obtain rfl:=hx.inv_int
   obtain rfl:args' = #[.string s,.int .u8 c]:=by
    have:=congrArg List.toArray hr
    simpa using this
   refine ⟨_,w,β,run_indexByte_string s c w,Step.refl hs,?_⟩
   rw [Mw s c.toNat (by omega)]
   exact .int _ _
  ·cases hp
 ·cases hp
section
noncomputable def DC (bad:Bool):kJ:=fun _ args h K=>List.rec (motive:=fun _=>Bool) bad (fun v r _=>List.rec (motive:=fun _=>Bool) (K v h) (fun _ _ _=>bad) r) args
theorem Cf (bad:Bool)(cf:FuncId->List Value->Heap->(Value->Heap->Bool)->Bool)(cr:aX)(args:List Value)(h:Heap)(K:Value->Heap->Bool):Ref bad (DC bad cf args h K) (gr cr args h) fun r=>K r.1 r.2:=by
 match args with
 | []=>exact .inl rfl
 | [v]=>exact .of rfl rfl
 | v::u::r=>exact .inl rfl
noncomputable def QG (c:Nat)(l:List UInt8):Nat->(Int->Bool)->Bool:=List.rec (motive:=fun _=>Nat->(Int->Bool)->Bool) (fun _ K=>K (-1)) (fun b _ ih i K=>eZ i fun i=>cX (Nat.beq b.toNat c) (K (.ofNat i)) (ih (i+1) K)) l
theorem Gw (c:Nat): ∀ (l:List UInt8)(i:Nat)(K:Int->Bool),QG c l i K=K (jF c l i)
 | [],_,_=>rfl
 | b::l,i,K=>by
  show eZ i (fun i=>cX (Nat.beq b.toNat c) (K (.ofNat i)) (QG c l (i+1) K))=_
  rw [bP,Gw c l]
  simp only [jF]
  by_cases hb:b.toNat=c
  ·rw [if_pos hb,show Nat.beq b.toNat c=true by simpa [Nat.beq_eq] using hb]; rfl
  ·rw [if_neg hb]
   have:Nat.beq b.toNat c=false:=by
    rw [Bool.eq_false_iff]; intro hh; exact hb (by simpa [Nat.beq_eq] using hh)
   rw [this]; rfl
noncomputable def rY (bad:Bool):kJ:=fun _ args h K=>match args with
 | [.string s,.int .u8 (.ofNat c)]=>cX (Nat.blt c 256) (QG c s.data.toList 0 fun i=>K (.int .i64 i) h) bad
 | _=>bad
theorem BA (bad:Bool)(cf:FuncId->List Value->Heap->(Value->Heap->Bool)->Bool)(cr:aX)(args:List Value)(h:Heap)(K:Value->Heap->Bool):Ref bad (rY bad cf args h K) (dV cr args h) fun r=>K r.1 r.2:=by
 unfold rY
 split
 ·next s c=>
  refine bI (fun hc=> ?_) (fun _=> .bad)
  have hc:c < 256:=by simpa [Nat.blt_eq] using hc
  rw [Gw]
  refine .of (r:=(.int .i64 (jF c s.data.toList 0),h)) ?_ rfl
  simp only [dV]
  rw [if_pos ⟨by simp,by simp; omega⟩]
  rfl
 ·exact .bad
end
def β0:Inj:=fun _=>none
def nP:Nat->Bool:=fun _=>false
theorem Heap.get_nil (n k:Nat):(⟨n,.nil⟩:Heap).get k=none:=HT.get_nil _
theorem E0 (n:Nat)(w:World):Sim β0 ⟨n,.nil⟩ w:=
 {
  lt:=fun k sl h=>nomatch h
  blk:=fun k B sl h=>by rw [Heap.get_nil] at h; cases h
  own:=fun k k' B B' sl sl' _ h=>by rw [Heap.get_nil] at h; cases h
  wf:=fun k B h=>by rw [Heap.get_nil] at h; cases h }
theorem gl_nil:Gl nP β0:=fun g h=>by cases h
open Go.RowKit in
theorem q8 {n:Nat}{w w':World}{β':Inj}{h':Heap}(s:Step β0 ⟨n,.nil⟩ w β' h' w'):Below w.heap.size w w':=
 ⟨s.os,s.tape,s.output,s.size,fun k hk=>s.kept k hk fun ⟨k,B,sl,h1,_⟩=>by rw [Heap.get_nil] at h1; cases h1⟩
end
end Go.Ab
end
section
namespace Go.Ab
open Go Go.RowKit
section
variable {β:Inj} {P:Program} {gl:Nat->Bool}
theorem qQ {h:Heap}{w w':World}(hs:Sim β h w)(hb:Below w.heap.size w w'):Step β h w β h w':=
 {
  le:=β.le_refl,next:=Nat.le_refl _
  sim:={ lt:=fun k sl hk=>⟨(hs.lt k sl hk).1,Nat.lt_of_lt_of_le (hs.lt k sl hk).2 hb.size⟩,blk:=fun k B sl h1 h2=>(hs.blk k B sl h1 h2).of_heap (hb.block _ (hs.lt k sl h2).2),own:=hs.own,wf:=hs.wf }
  size:=hb.size,os:=hb.os,tape:=hb.tape,output:=hb.output
  kept:=fun b h1 _=>hb.block b h1
  back:=fun _ _ h=>h,fresh:=fun _ _ h=> .inl h,keys:=fun _ B h _=>⟨B,h⟩ }
def Db (P:Program)(f:FuncId)(args:List Value)(v:Value):Prop:=
 ∃ fn,P.funcs[f]?=some fn/\fn.body.isSome=true/\ ∀ w,Calls P f args.toArray w fun e w'=>e = .returned v/\Below w.heap.size w w'
theorem LRel.of_bares {β:Inj}{l:List Value}(h:l.all nV=true):LRel β l l:=by
 induction l with
 | nil=>exact .nil β
 | cons v l ih=>
  simp only [List.all_cons,Bool.and_eq_true] at h
  exact .cons (.of_bare h.1) (ih h.2)
theorem VRel.bare_eq {β:Inj}{v v':Value}(hv:nV v=true)(h:VRel β v v'):v'=v:=by
 cases h <;> first | rfl | (simp [nV] at hv)
theorem LRel.bares_eq {β:Inj}: ∀ {l l':List Value},l.all nV=true->LRel β l l'->l'=l
 | [],l',_,h=>h.inv_nil
 | v::l,l',hb,h=>by
  simp only [List.all_cons,Bool.and_eq_true] at hb
  obtain ⟨v',r,rfl,hv,hr⟩:=h.inv_cons
  rw [hv.bare_eq hb.1,hr.bares_eq hb.2]
theorem VRel.plain_eq {β:Inj}{v v':Value}(hv:plain v=true)(h:VRel β v v'):v'=v:=by
 have key: ∀ {a a':Array Value},ARel β a a'->(∀ x∈a.toList,∀ y,VRel β x y->y=x)->a'=a:=fun {a a'} ha hx=>by
  refine Array.ext ha.1.symm fun i h1 h2=> ?_
  have:=ha.2 i a[i] a'[i] (Array.getElem?_eq_getElem h2) (Array.getElem?_eq_getElem h1)
  exact hx _ (by simp) _ this
 unfold plain at hv
 split at hv
 ·next cs=>
  obtain ⟨a',rfl,ha⟩:=h.inv_agg
  rw [key ha fun x hx y hy=>hy.bare_eq (List.all_eq_true.1 hv x hx)]
 ·next cs=>
  obtain ⟨a',rfl,ha⟩:=h.inv_tuple
  rw [key ha fun x hx y hy=> ?_]
  have:=List.all_eq_true.1 hv x hx
  split at this
  ·next ds=>
   obtain ⟨b',rfl,hb⟩:=hy.inv_agg
   rw [key hb fun z hz u hu=>hu.bare_eq (List.all_eq_true.1 this z hz)]
  ·exact hy.bare_eq this
 ·exact h.bare_eq hv
theorem FQ {cf:aX}(hcf:CfOk P nP cf){f:FuncId}{fn:Func}{args:List Value}{n:Nat}{v:Value}{h':Heap}(hr:cf f args ⟨n,.nil⟩=some (v,h'))(ha:args.all nV=true)(hv:plain v=true)(hY:f < YB)(hf:P.funcs[f]?=some fn)(hb:fn.body.isSome=true)
  (hN:bT P):Db P f args v:=by
 refine ⟨fn,hf,hb,fun w=> ?_⟩
 obtain ⟨fn',hfn,h⟩:=hcf.fn f args _ v h' hY hr β0 w args.toArray (E0 n w) gl_nil (by simpa using LRel.of_bares ha)
 rcases h with ⟨_,h⟩ | ⟨v',w',β',h1,_,_⟩
 ·refine h.mono ?_
  rintro e w' ⟨v',β',rfl,h2,h3⟩
  exact ⟨by rw [h3.plain_eq hv],q8 h2⟩
 ·rw [cj hN hf hb] at h1
  cases h1
def yK:List UInt8->List UInt8->Bool
 | [],[]=>true
 | a::x,b::y=>Nat.beq a.toNat b.toNat && yK x y
 | _,_=>false
theorem zG: ∀ {a b:List UInt8},yK a b=true->a=b
 | [],[],_=>rfl
 | a::x,b::y,h=>by
  simp only [yK,Bool.and_eq_true,Nat.beq_eq] at h
  rw [UInt8.toNat_inj.1 h.1,zG h.2]
noncomputable def wo:Value->Value->Bool
 | .bool a,.bool b=>a == b
 | .int k a,.int k' b=>R2 k k' && Lh a b
 | .string a,.string b=>yK a.data.toList b.data.toList
 | _,_=>false
theorem C8 {a b:Value}(h:wo a b=true):a=b:=by
 unfold wo at h
 split at h
 ·rw [beq_iff_eq.1 h]
 ·simp only [Bool.and_eq_true,AK,beq_iff_eq] at h; rw [FD h.1,h.2]
 ·next a b=>
  have h:=zG h
  obtain ⟨⟨a⟩⟩:=a
  obtain ⟨⟨b⟩⟩:=b
  simp only at h
  rw [h]
 ·cases h
noncomputable def mC:List Value->List Value->Bool
 | [],[]=>true
 | a::x,b::y=>wo a b && mC x y
 | _,_=>false
theorem vw: ∀ {a b:List Value},mC a b=true->a=b
 | [],[],_=>rfl
 | a::x,b::y,h=>by
  simp only [mC,Bool.and_eq_true] at h
  rw [C8 h.1,vw h.2]
theorem Gk {a b:Value}(h:wo a b=true):nV b=true:=by
 unfold wo at h
 split at h <;> first | rfl | cases h
theorem uE: ∀ {a b:List Value},mC a b=true->b.all nV=true
 | [],[],_=>rfl
 | a::x,b::y,h=>by
  simp only [mC,Bool.and_eq_true] at h
  simp only [List.all_cons,Bool.and_eq_true]
  exact ⟨Gk h.1,uE h.2⟩
noncomputable def Eu:Value->Value->Bool
 | .agg a,.agg b=>mC a.toList b.toList
 | a,b=>wo a b
noncomputable def yP:List Value->List Value->Bool
 | [],[]=>true
 | a::x,b::y=>Eu a b && yP x y
 | _,_=>false
noncomputable def CH:Value->Value->Bool
 | .tuple a,.tuple b=>yP a.toList b.toList
 | a,b=>Eu a b
theorem On {a b:Array Value}(h:a.toList=b.toList):a=b:=by
 have:=congrArg List.toArray h
 simpa using this
theorem C7 {a b:Value}(h:Eu a b=true):a=b:=by
 unfold Eu at h
 split at h
 ·rw [On (vw h)]
 ·exact C8 h
theorem AW: ∀ {a b:List Value},yP a b=true->a=b
 | [],[],_=>rfl
 | a::x,b::y,h=>by
  simp only [yP,Bool.and_eq_true] at h
  rw [C7 h.1,AW h.2]
theorem Pd {a b:Value}(h:CH a b=true):a=b:=by
 unfold CH at h
 split at h
 ·rw [On (AW h)]
 ·exact C7 h
noncomputable def Oi:List (List Value×Value)->List Value->Option Value
 | [],_=>none
 | (a,v)::r,args=>if mC a args then some v else Oi r args
noncomputable def DS (tab:List (List Value×Value)):my:=fun _ args h=>(Oi tab args).map fun v=>(v,h)
def Ds (P:Program)(f:FuncId)(tab:List (List Value×Value)):Prop:= ∀ r∈tab,Db P f r.1 r.2/\plain r.2=true
theorem Gz: ∀ {tab:List (List Value×Value)}{args:List Value}{v:Value},Oi tab args=some v->(args,v)∈tab/\args.all nV=true
 | [],_,_,h=>nomatch h
 | (a,u)::r,args,v,h=>by
  simp only [Oi] at h
  split at h
  ·next he=>
   obtain rfl:=oI h
   rw [vw he]
   exact ⟨by simp,uE he⟩
  ·obtain ⟨h1,h2⟩:=Gz h
   exact ⟨by simp [h1],h2⟩
theorem R9 {f:FuncId}{tab:List (List Value×Value)}(ht:Ds P f tab):fE P gl f (DS tab):=by
 intro cf _ args h v h' hp β w args' hs _ ha
 unfold DS at hp
 obtain ⟨u,hu,he⟩:=Option.map_eq_some_iff.1 hp
 simp only [Prod.mk.injEq] at he
 obtain ⟨rfl,rfl⟩:=he
 obtain ⟨hm,hb⟩:=Gz hu
 obtain ⟨⟨fn,hf,hbody,hcalls⟩,hv⟩:=ht _ hm
 refine ⟨fn,hf,.inl ⟨hbody,?_⟩⟩
 have hargs:args'=args.toArray:=by
  have:=LRel.bares_eq hb ha
  simpa using congrArg List.toArray this
 rw [hargs]
 refine (hcalls w).mono ?_
 rintro e w' ⟨rfl,h2⟩
 exact ⟨u,β,rfl,qQ hs h2,.of_plain hv⟩
section
noncomputable def Rs (bad:Bool)(tab:List (List Value×Value)):kJ:=fun _ args h K=>List.rec (motive:=fun _=>Bool) bad (fun r _ ih=>cX (mC r.1 args) (gm r.2 fun v=>K v h) ih) tab
theorem Nl (bad:Bool)(tab:List (List Value×Value))(cf:FuncId->List Value->Heap->(Value->Heap->Bool)->Bool)(cr:aX)(args:List Value)(h:Heap)(K:Value->Heap->Bool):Ref bad (Rs bad tab cf args h K) (DS tab cr args h) fun r=>K r.1 r.2:=by
 unfold DS
 induction tab with
 | nil=>exact .inl rfl
 | cons r tab ih=>
  obtain ⟨a,v⟩:=r
  show Ref bad (cX (mC a args) (gm v fun v=>K v h) (Rs bad tab cf args h K)) _ _
  simp only [Oi]
  refine bI (fun hb=> ?_) (fun hb=> ?_)
  ·rw [bU,if_pos hb]; exact .of rfl rfl
  ·rw [if_neg (by rw [hb]; simp)]; exact ih
end
theorem Rk {gl:Nat->Bool}{pf:FuncId->Option (kJ)}{pr:FuncId->Option my}(hp:sq false pf pr){n:Nat}{f:FuncId}{args:List Value}{h:Heap}{v:Value}(hr:qX P gl pf false n f args h (fun u _=>CH v u)=true):
  ∃ h',aM P gl pr n f args h=some (v,h'):=by
 rcases Df (P:=P) (gl:=gl) hp n f args h (fun u _=>CH v u) with h1 | ⟨⟨u,h'⟩,h1,h2⟩
 ·rw [hr] at h1; cases h1
 ·rw [hr] at h2
  exact ⟨h',by rw [h1,Pd h2.symm]⟩
theorem N1 (hN:bT P){pf:FuncId->Option (kJ)}{pr:FuncId->Option my}(hp:sq false pf pr){n:Nat}(hcf:CfOk P nP (aM P nP pr n)){f:FuncId}{args:List Value}{v:Value}
  (hr:qX P nP pf false n f args ⟨0,.nil⟩ (fun u _=>CH v u)=true) (hc:(args.all nV && plain v && Nat.blt f YB && pc P f)=true):Db P f args v:=by
 simp only [Bool.and_eq_true] at hc
 obtain ⟨⟨⟨h1,h2⟩,h3⟩,h4⟩:=hc
 obtain ⟨fn,hf,hb⟩:=xp h4
 obtain ⟨h',hr'⟩:=Rk hp hr
 exact FQ hcf hr' h1 h2 (by simpa [Nat.blt_eq] using h3) hf hb hN
theorem Su {f:FuncId}:Ds P f []:=fun _ h=>by cases h
theorem Qy {f:FuncId}{a:List Value}{v:Value}{tab:List (List Value×Value)}(h:Db P f a v)(hv:plain v=true)(ht:Ds P f tab):Ds P f ((a,v)::tab):=fun r hr=>by
 rcases List.mem_cons.1 hr with rfl | hr
 ·exact ⟨h,hv⟩
 ·exact ht r hr
end
section
variable {β:Inj} {P:Program} {gl:Nat->Bool}
noncomputable def rP (P:Program)(gl:Nat->Bool)(fn:Func)(r0 rest:Code)(d:Tmp):my:=fun cf args h=>
 match az P gl cf 40 r0 (args++List.replicate (fn.ntmps - args.length) undef) h with
 | some (.normal,tm,h1)=>if d < tm.length then
   match az P gl cf 40 rest (tm.set d junk) h1 with
   | some (.ret,tm',h')=>(be P tm' h' fn.results.toList).map fun vs=>(aI vs,h')
   | _=>none
  else none
 | _=>none
theorem tr {n:Nat}{f:FuncId}{fn:Func}{c:Code}{args:Array Value}{u:FrameMode}{w:World}{Bool:Ending->FrameMode->World->Prop}(hf:P.funcs[f]?=some fn)(hb:fn.body=some c)
  (h: ∀ (c₀:Frame)(cs:List Frame),c₀.mode=u->c.wpS P (bodyPostS P fn c₀ cs Bool) { tmps:=args++Array.replicate (fn.ntmps - args.size) undef,defers:=[] } (c₀::cs) w):CallsDIn Fence.wide n P f args u w Bool:=by
 refine ⟨trivial,fun c₀ cs hu _=> ?_⟩
 have hin:Frame.enter P f args .deferred=({ (default:Frame) with fn:=f,kind:= .deferred }:Frame).at { tmps:=args++Array.replicate (fn.ntmps - args.size) undef,defers:=[] } [.code c]:=by
  simp [Frame.enter,Frame.at,hf,hb]
 obtain ⟨e,a',cs',w',hq,harr⟩:=h c₀ cs hu { (default:Frame) with fn:=f,kind:= .deferred } [] rfl rfl
 rw [<-hin] at harr
 rcases e with _ | _ | _ | _ | chain | _
 ·obtain ⟨hd,u',rfl,v,hr,hR⟩:=hq
  exact ⟨.returned v,u',w',_,hR,comesIn_wide.2 (Steps.trans harr (.one step_end)),rfl,rfl,rfl,hd,fn,hf,hr⟩
 ·exact hq.elim
 ·exact hq.elim
 ·obtain ⟨hd,u',rfl,v,hr,hR⟩:=hq
  obtain ⟨todo,hs⟩:=harr
  exact ⟨.returned v,u',w',_,hR,comesIn_wide.2 hs,rfl,rfl,rfl,hd,fn,hf,hr⟩
 ·obtain ⟨hd,u',rfl,hR⟩:=hq
  obtain ⟨todo,hs⟩:=harr
  exact ⟨.panicked chain,u',w',_,hR,comesIn_wide.2 hs,rfl,rfl,rfl,hd,fn,hf⟩
 ·obtain ⟨u',hR⟩:=hq
  exact ⟨.outgrown,u',w',{ (default:Frame) with fn:=f,kind:= .deferred },hR,comesIn_wide.2 (harr.resolve_left (by simp)),rfl,rfl,trivial⟩
theorem kV {F:Fence}{n:Nat}{fn:Func}{β₀ β':Inj}{h₀ h':Heap}{w₀:World}{tmps:Array Value}{Bool:Ending->World->Prop}{tl:List Deferred}:
  ∀ (ms:List Nat)(w':World),ms.Nodup->(∀ b∈ms,w₀.heap.size<=b/\w'.heap[b]?=some (.deferred (some [])))->Step β₀ h₀ w₀ β' h' w'->
   (∀ w'',Step β₀ h₀ w₀ β' h' w''->(∀ b,b ∉ ms->w''.heap[b]?=w'.heap[b]?)->LeavesInM F n P fn tmps Bool tl .returning w'')->LeavesInM F n P fn tmps Bool (ms.map FL++tl) .returning w'
 | [],w',_,_,st,hk=>hk w' st fun _ _=>rfl
 | b::ms,w',hn,hb,st,hk=>by
  obtain ⟨h1,h2⟩:=hb b (by simp)
  obtain ⟨hn1,hn2⟩:=List.nodup_cons.1 hn
  refine ⟨by simp,.inl ⟨b,_,rfl,run_takeDeferred h2,?_⟩⟩
  refine kV ms _ hn2 (fun b' hm=> ?_) (Dp st h1 h2) fun w'' st' hsame=>hk w'' st' fun b' hb'=> ?_
  ·obtain ⟨h3,h4⟩:=hb b' (by simp [hm])
   exact ⟨h3,by rw [World.putObj_heap_other (by rintro rfl; exact hn1 hm)]; exact h4⟩
  ·simp only [List.mem_cons,not_or] at hb'
   rw [hsame b' hb'.2,World.putObj_heap_other hb'.1]
theorem Hu (hN:bT P){fW fC:FuncId}{fn fnC:Func}{r0 rest:Code}{i1:Nat}{mk df:Oper}{d:Tmp}{cap:Array Operand}
  (hf:P.funcs[fW]?=some fn) (hb:fn.body=some (.seq r0 (.seq (.region i1 #[mk,df] false) rest)))
  (hmk:mk.op = .makeFunc (.func fC) #[] cap) (hmd:mk.dst=some d) (hmg:mk.guard=none) (hdf:df.op = .defer { callee:= .value (.tmp d),args:= #[],argTypes:= #[] }) (hdg:df.guard=none) (hdd:df.dst=none)
  (hfC:P.funcs[fC]?=some fnC) (hbC:fnC.body.isSome=true)
  (hidle: ∀ (args:Array Value)(w:World),args.size=cap.size->CallsDIn Fence.wide 0 P fC args .returning w fun e u' w'=>(∃ v,e = .returned v)/\u' = .returning/\Below w.heap.size w w')
  (hd0:aV r0=true) (hd1:aV rest=true):fE P gl fW (rP P gl fn r0 rest d):=by
 intro cf hcf args h v h' hp β w args' hs hg ha
 refine ⟨fn,hf,.inl ⟨by simp [hb],?_⟩⟩
 unfold rP at hp
 split at hp
 ·next tm h1 hr0=>
  split at hp
  ·next hlt=>
   split at hp
   ·next tm2 h2 hrest=>
    obtain ⟨vs,hres,he⟩:=Option.map_eq_some_iff.1 hp
    simp only [Prod.mk.injEq] at he
    obtain ⟨rfl,rfl⟩:=he
    refine (callsIn_wide (n:=0)).1 (callsIn_of_wp_marks (F:=Fence.wide) hf hb trivial ?_)
    have hrep: ∀ k,LRel β (List.replicate k undef) (List.replicate k undef):=fun k=>⟨rfl,fun i v v' h1 h2=>by
     rw [List.getElem?_replicate] at h1 h2
     split at h1
     ·next hi=>rw [if_pos hi] at h2; obtain rfl:=oI h1; obtain rfl:=oI h2; exact .undef β
     ·cases h1⟩
    have ht:LRel β (args++List.replicate (fn.ntmps - args.length) undef) (args'++Array.replicate (fn.ntmps - args'.size) undef).toList:=by
     have:args'.size=args.length:=by rw [ha.1]; simp
     rw [this]
     simp only [Array.toList_append,Array.toList_replicate]
     exact ha.append (hrep _)
    refine wpIn_seq ?_
    refine tJ (r:=none) hN hcf r0 (.inl rfl) (eM (mX hN _ hcf) hd0) _ hr0 hs hg ht fun a1 w1 β1 hst1 ht1 hm1=> ?_
    refine wpIn_seq (wpIn_region ?_)
    have hsz:d < a1.tmps.size:=by have:=ht1.1; rw [<-Array.length_toList,<-this]; exact hlt
    have hev:(a1.put (some d) (.func (.func fC) #[] (cap.map a1.eval))).eval (.tmp d) = .func (.func fC) #[] (cap.map a1.eval):=by
     simp [Act.put,Act.eval,hsz]
    have hw1:Region.wanted mk (yielded #[mk,df] a1.tmps)=true:=by simp [Region.wanted,hmg]
    have hw2: ∀ t,Region.wanted df (yielded #[mk,df] t)=true:=fun t=>by simp [Region.wanted,hdg]
    show wpOpsIn (eu none) 0 P #[mk,df] _ [0,1] a1 w1
    simp only [wpOpsIn,List.getElem?_toArray,List.getElem?_cons_zero,List.getElem?_cons_succ,hw1,if_true]
    refine ⟨fun _ _=>trivial,?_⟩
    rw [Oper.semAt_eq _ _ _ (fun c hc=>by rw [hmk] at hc; cases hc)]
    have hrun1:(execOp a1.eval mk).run P w1 = .ok (.value (.func (.func fC) #[] (cap.map a1.eval))) w1:=by
     unfold execOp
     simp [hmk,Instr.makeFunc]
    rw [hrun1]
    rw [Oper.uponIn_value]
    rw [hmd,if_pos (hw2 _)]
    refine ⟨fun _ _=>trivial,?_⟩
    have hrun2:(df.semAt (eu none).round (a1.put (some d) (.func (.func fC) #[] (cap.map a1.eval))).eval).run P w1 = .ok (.defer { target:= .fn (.func fC) (cap.map a1.eval),args:= #[] }) w1:=by
     show (execOp (a1.put (some d) (.func (.func fC) #[] (cap.map a1.eval))).eval df).run P w1=_
     unfold execOp
     simp only [hdf,resolve,hev,Deferred.ofValue,Sem.run_bind,Sem.run_pure,Result.andThen_ok]
     simp
    rw [hrun2]
    show Code.wpIn (eu none) 0 P rest _ ({ (a1.put (some d) (.func (.func fC) #[] (cap.map a1.eval))) with defers:={ target:= .fn (.func fC) (cap.map a1.eval),args:= #[] }::(a1.put (some d) (.func (.func fC) #[] (cap.map a1.eval))).defers }.put df.dst undef) w1
    rw [hdd]
    have ht1':LRel β1 (tm.set d junk) (a1.put (some d) (.func (.func fC) #[] (cap.map a1.eval))).tmps.toList:=by
     have:=f9 ht1 (some d) (v:=junk) (.junk (.func (.func fC) #[] (cap.map a1.eval)))
     exact this
    refine tJ (r:=none) hN hcf rest (.inl rfl) (eM (mX hN _ hcf) hd1) _ hrest hst1.sim (hg.mono hst1.le) (a:={ (a1.put (some d) (.func (.func fC) #[] (cap.map a1.eval))) with defers:=_ }) ht1' fun a2 w2 β2 hst2 ht2 hm2=> ?_
    have hst12:=hst1.trans hst2
    obtain ⟨ms1,hd1',hn1,hb1⟩:=hm1
    obtain ⟨ms2,hd2',hn2,hb2⟩:=hm2
    simp only [List.append_nil] at hd1'
    have hdd2:a2.defers=ms2.map FL++({ target:= .fn (.func fC) (cap.map a1.eval),args:= #[] }::ms1.map FL):=by
     rw [hd2']
     show _++(_::(a1.put (some d) _).defers)=_
     rw [bH,hd1']
    show LeavesInM Fence.wide 0 P fn a2.tmps (lE β h w (aI vs) h2) a2.defers .returning w2
    rw [hdd2]
    refine kV ms2 w2 hn2 (fun b hm=>⟨Nat.le_trans hst1.size (hb2 b hm).1,(hb2 b hm).2.2.1⟩) hst12 fun w3 hst3 hsame=> ?_
    refine ⟨by simp,.inr ⟨fun hd=>by simp [Fence.wide] at hd,.func fC,cap.map a1.eval,fC,#[]++cap.map a1.eval,rfl,cj hN hfC hbC _ _,fun _ _=>trivial,?_⟩⟩
    refine (hidle (#[]++cap.map a1.eval) w3 (by simp)).mono ?_
    rintro e u' w4 ⟨⟨v,rfl⟩,rfl,hbelow⟩
    show LeavesInM Fence.wide 0 P fn a2.tmps (lE β h w (aI vs) h2) (ms1.map FL) .returning w4
    refine mL (P:=P) hres ht2 ms1 w4 hn1 (fun b hm=>⟨(hb1 b hm).1,?_⟩) (hst3.trans (qQ hst3.sim hbelow))
    obtain ⟨h4,h5,h6,h7⟩:=hb1 b hm
    have hlt2:b < w2.heap.size:=Nat.lt_of_lt_of_le h5 hst2.size
    have hnot:b ∉ ms2:=fun hmem=>by have:=(hb2 b hmem).1; omega
    have h8:w2.heap[b]?=some (.deferred (some [])):=(hst2.kept b h5 h7).trans h6
    have h9:w3.heap[b]?=some (.deferred (some [])):=(hsame b hnot).trans h8
    rw [hbelow.block b ?_,h9]
    exact (Array.getElem?_eq_some_iff.1 h9).1
   ·cases hp
  ·cases hp
 ·cases hp
section
noncomputable def tR (x:Exit)(bad r:Bool):Bool:=Exit.rec (motive:=fun _=>Bool) bad (fun _=>bad) (fun _=>bad) r (fun _=>bad) bad x
noncomputable def I9 (P:Program)(gl:Nat->Bool)(bad:Bool)(fn:Func)(r0 rest:Code)(d:Tmp):kJ:=fun cf args h K=>
 cX (Nat.ble fn.ntmps 256 && Nat.ble args.length fn.ntmps && Nat.blt d fn.ntmps)
  (tM args 0 wk fun e=>eH r0 ⟨P,gl,cf,40,fn.ntmps,bad⟩ e h fun x e h1=>ep x
   (mW fn.ntmps (some d) e junk fun e=>eH rest ⟨P,gl,cf,40,fn.ntmps,bad⟩ e h1 fun x e h2=>tR x bad (yp P e h2 bad fn.results.toList fun vs=>K (aI vs) h2))
   (fun _=>bad) bad) bad
theorem IL (bad:Bool)(fn:Func)(r0 rest:Code)(d:Tmp)(cf:FuncId->List Value->Heap->(Value->Heap->Bool)->Bool)(cr:aX)(hcf: ∀ f args h K,Ref bad (cf f args h K) (cr f args h) fun r=>K r.1 r.2)(args:List Value)(h:Heap)(K:Value->Heap->Bool):
  Ref bad (I9 P gl bad fn r0 rest d cf args h K) (rP P gl fn r0 rest d cr args h) fun r=>K r.1 r.2:=by
 unfold I9
 refine bI (fun hb=> ?_) (fun _=> .bad)
 simp only [Bool.and_eq_true,Nat.ble_eq,Nat.blt_eq] at hb
 obtain ⟨⟨hb1,hb2⟩,hb3⟩:=hb
 obtain ⟨e',h3,h4⟩:=oq args 0 wk (by omega)
 rw [h3]
 have hr:co fn.ntmps e' (args++List.replicate (fn.ntmps - args.length) undef):=by
  refine ⟨by simp; omega,hb1,fun t=> ?_⟩
  rw [h4]
  split
  ·next ht=>rw [Nat.sub_zero,gD,gD,List.getElem?_append_left (by omega)]
  ·next ht=>
   rw [uF,gD,List.getElem?_append_right (by omega),List.getElem?_replicate]
   split <;> rfl
 let cx:Cx:=⟨P,gl,cf,40,fn.ntmps,bad⟩
 have hcf':rh cx cr:=fun f args h K=>hcf f args h K
 rcases cO hcf' r0 (h:=h) (K:=fun x e h1=>ep x
   (mW fn.ntmps (some d) e junk fun e=>eH rest cx e h1 fun x e h2=>tR x bad (yp P e h2 bad fn.results.toList fun vs=>K (aI vs) h2))
   (fun _=>bad) bad) hr with h5 | ⟨ex,l1,g1,e1,h6,hr1,h7⟩
 ·exact .inl h5
 ·refine (show Ref bad (eH r0 cx e' h _) _ _ from ?_)
  rw [h7]
  dsimp only
  cases ex with
  | normal=>
   dsimp only [ep]
   obtain ⟨e2,h8,h9⟩:=qj hr1 (some d) junk
   have h9':=fun (K:Env->Bool)=>h9 K
   rw [show (mW fn.ntmps (some d) e1 junk fun e=>eH rest cx e g1 fun x e h2=>tR x bad (yp P e h2 bad fn.results.toList fun vs=>K (aI vs) h2))=_ from h9' _]
   rcases cO hcf' rest (h:=g1) (K:=fun x e h2=>tR x bad (yp P e h2 bad fn.results.toList fun vs=>K (aI vs) h2)) h8 with h10 | ⟨ex2,l2,g2,e3,h11,hr3,h12⟩
   ·exact .inl h10
   ·rw [h12]
    dsimp only
    cases ex2 with
    | ret=>
     dsimp only [tR]
     rcases sG hr3 fn.results.toList (fun vs=>K (aI vs) g2) (P:=P) (h:=g2) (bad:=bad) with h13 | ⟨vs,h13,h14⟩
     ·exact .inl h13
     ·refine .of (r:=(aI vs,g2)) ?_ h14
      have h6':az P gl cr 40 r0 (args++List.replicate (fn.ntmps - args.length) undef) h=some (.normal,l1,g1):=h6
      have h11':az P gl cr 40 rest (l1.set d junk) g1=some (.ret,l2,g2):=h11
      have hlen:d < l1.length:=by rw [hr1.1]; exact hb3
      simp only [rP,h6',if_pos hlen,h11',h13,Option.map_some]
    | _=>exact .inl rfl
  | _=>exact .inl rfl
end
end
section
variable {β:Inj} {P:Program} {gl:Nat->Bool}
noncomputable def TA (l:List (Nat×Blk))(t:HT):HT:=List.rec (motive:=fun _=>HT) t (fun p _ ih=>HT.set (some p.2) (bD p.1) ih) l
theorem NJ (p:Nat×Blk)(l:List (Nat×Blk))(t:HT):TA (p::l) t=HT.set (some p.2) (bD p.1) (TA l t):=rfl
structure KRow where
 args:List Value
 old:List (Nat×Blk)
 next:Nat
 v:Value
 new:List (Nat×Blk)
 next':Nat
def Tr (B C:Blk):Bool:=match B,C with
 | .cells cs t sz _,.cells cs' t' sz' _=>ID (cM 4) cs cs' && Nat.beq t t' && Nat.beq sz sz'
 | _,_=>false
def RF:Blk->Bool
 | .cells _ _ _ wr=> !wr
 | _=>false
noncomputable def Vv (h:Heap)(p:Nat×Blk):Bool:=RF p.2 && (match h.get p.1 with | some C=>Tr p.2 C | none=>false)
noncomputable def Vu (h:Heap)(args:List Value)(r:KRow):Bool:=ID (cM 4) r.args args && Nat.ble h.next r.next && r.old.all (Vv h)
noncomputable def Xt (r:KRow)(h:Heap):Heap:=⟨r.next',TA r.new h.t⟩
noncomputable def Qn (h:Heap)(args:List Value):List KRow->Option KRow
 | []=>none
 | r::l=>if Vu h args r then some r else Qn h args l
noncomputable def Ov (rows:List KRow):my:=fun _ args h=>(Qn h args rows).map fun r=>(r.v,Xt r h)
noncomputable def KE (l:List (Nat×Blk))(t:HT)(K:HT->Bool):Bool:=List.rec (motive:=fun _=>(HT->Bool)->Bool) (fun K=>K t) (fun p _ ih K=>ih fun t=>HT.setK (some p.2) (bD p.1) t K) l K
theorem HV (t:HT): ∀ (l:List (Nat×Blk))(K:HT->Bool),KE l t K=K (TA l t)
 | [],_=>rfl
 | p::l,K=>by
  show KE l t (fun t=>HT.setK (some p.2) (bD p.1) t K)=_
  rw [HV t l,HT.setK_eq,NJ]
noncomputable def PH (bad:Bool)(rows:List KRow):kJ:=fun _ args h K=>List.rec (motive:=fun _=>Bool) bad (fun r _ ih=>cX (Vu h args r) (KE r.new h.t fun t=>gm r.v fun v=>K v ⟨r.next',t⟩) ih) rows
theorem Mu (bad:Bool)(rows:List KRow)(cf:FuncId->List Value->Heap->(Value->Heap->Bool)->Bool)(cr:aX)(args:List Value)(h:Heap)(K:Value->Heap->Bool):Ref bad (PH bad rows cf args h K) (Ov rows cr args h) fun r=>K r.1 r.2:=by
 unfold Ov
 induction rows with
 | nil=>exact .inl rfl
 | cons r rows ih=>
  show Ref bad (cX (Vu h args r) (KE r.new h.t fun t=>gm r.v fun v=>K v ⟨r.next',t⟩) (PH bad rows cf args h K)) _ _
  simp only [Qn]
  refine bI (fun hb=> ?_) (fun hb=> ?_)
  ·rw [HV,bU,if_pos hb]; exact .of rfl rfl
  ·rw [if_neg (by rw [hb]; simp)]; exact ih
end
section
variable {P:Program} {gl:Nat->Bool}
inductive PEntry where
 | memo (tab:List (List Value×Value))
 | noEsc
 | idxByte
 | defer (fn:Func) (r0 rest:Code) (d:Tmp)
 | keep (rows:List KRow)
noncomputable def PEntry.slow (P:Program)(gl:Nat->Bool)(e:PEntry):my:=PEntry.rec (motive:=fun _=>my) (fun tab=>DS tab) gr dV (fun fn r0 rest d=>rP P gl fn r0 rest d) (fun rows=>Ov rows) e
noncomputable def PEntry.fast (P:Program)(gl:Nat->Bool)(bad:Bool)(e:PEntry):kJ:=PEntry.rec (motive:=fun _=>kJ) (fun tab=>Rs bad tab) (DC bad) (rY bad) (fun fn r0 rest d=>I9 P gl bad fn r0 rest d) (fun rows=>PH bad rows) e
abbrev nK:=List (FuncId×PEntry)
noncomputable def En {α:Type}(b:Bool)(x y:Option α):Option α:=Bool.rec (motive:=fun _=>Option α) y x b
noncomputable def E5 (P:Program)(gl:Nat->Bool)(l:nK)(f:FuncId):Option my:=List.rec (motive:=fun _=>Option my) none (fun x _ ih=>En (Nat.beq f x.1) (some (x.2.slow P gl)) ih) l
noncomputable def Ol (P:Program)(gl:Nat->Bool)(bad:Bool)(l:nK)(f:FuncId):Option (kJ):=List.rec (motive:=fun _=>Option (kJ)) none (fun x _ ih=>En (Nat.beq f x.1) (some (x.2.fast P gl bad)) ih) l
theorem Ob (bad:Bool)(l:nK):sq bad (Ol P gl bad l) (E5 P gl l):=fun f=>by
 induction l with
 | nil=>exact .inl ⟨rfl,rfl⟩
 | cons x l ih=>
  show (En (Nat.beq f x.1) (some (x.2.fast P gl bad)) (Ol P gl bad l f)=none/\En (Nat.beq f x.1) (some (x.2.slow P gl)) (E5 P gl l f)=none)\/_
  cases hx:Nat.beq f x.1 with
  | false=>
   rcases ih with ⟨h1,h2⟩ | ⟨p,q,h1,h2,h3⟩
   ·exact .inl ⟨h1,h2⟩
   ·refine .inr ⟨p,q,?_,?_,h3⟩
    ·show En (Nat.beq f x.1) (some (x.2.fast P gl bad)) (Ol P gl bad l f)=_
     rw [hx]; exact h1
    ·show En (Nat.beq f x.1) (some (x.2.slow P gl)) (E5 P gl l f)=_
     rw [hx]; exact h2
  | true=>
   refine .inr ⟨x.2.fast P gl bad,x.2.slow P gl,?_,?_,fun cf cr hcf args h K=> ?_⟩
   ·show En (Nat.beq f x.1) (some (x.2.fast P gl bad)) (Ol P gl bad l f)=_
    rw [hx]; rfl
   ·show En (Nat.beq f x.1) (some (x.2.slow P gl)) (E5 P gl l f)=_
    rw [hx]; rfl
   ·obtain ⟨k,e⟩:=x
    cases e with
    | memo tab=>exact Nl bad tab cf cr args h K
    | noEsc=>exact Cf bad cf cr args h K
    | idxByte=>exact BA bad cf cr args h K
    | defer fn r0 rest d=>exact IL bad fn r0 rest d cf cr hcf args h K
    | keep rows=>exact Mu bad rows cf cr args h K
def pk (P:Program)(gl:Nat->Bool)(l:nK):Prop:= ∀ x∈l,fE P gl x.1 (x.2.slow P gl)
theorem S1 {l:nK}(h:pk P gl l):Lm P gl (E5 P gl l):=fun f p hp=>by
 induction l with
 | nil=>cases hp
 | cons x l ih=>
  have hp:En (Nat.beq f x.1) (some (x.2.slow P gl)) (E5 P gl l f)=some p:=hp
  cases hx:Nat.beq f x.1 with
  | false=>rw [hx] at hp; exact ih (fun y hy=>h y (by simp [hy])) hp
  | true=>
   rw [hx] at hp
   obtain rfl:=oI hp
   obtain rfl:f=x.1:=by simpa [Nat.beq_eq] using hx
   exact h x (by simp)
theorem CR:pk P gl []:=fun _ h=>by cases h
theorem eU {x:FuncId×PEntry}{l:nK}(h:fE P gl x.1 (x.2.slow P gl))(hl:pk P gl l):pk P gl (x::l):=fun y hy=>by
 rcases List.mem_cons.1 hy with rfl | hy
 ·exact h
 ·exact hl y hy
theorem Jd {f:FuncId}{tab:List (List Value×Value)}{l:nK}(h:Ds P f tab)(hl:pk P gl l):pk P gl ((f,.memo tab)::l):=eU (R9 h) hl
structure TextOk (P:Program):Prop where
 names:bT P
 draws: ∀ (f:FuncId)(fn:Func),P.funcs[f]?=some fn->cq fn=true
theorem TextOk.run (h:TextOk P){l:nK}(hl:pk P gl l)(n:Nat):CfOk P gl (aM P gl (E5 P gl l) n):=K1 h.names (S1 hl) (Im h.names h.draws) (mX h.names) n
theorem No (ht:TextOk P){l:nK}(hl:pk P nP l){n:Nat}{f:FuncId}{args:List Value}{v:Value}(hr:qX P nP (Ol P nP false l) false n f args ⟨0,.nil⟩ (fun u _=>CH v u)=true)
  (hc:(args.all nV && plain v && Nat.blt f YB && pc P f)=true):Db P f args v:=
 N1 ht.names (Ob false l) (ht.run hl n) hr hc
end
end Go.Ab
end
