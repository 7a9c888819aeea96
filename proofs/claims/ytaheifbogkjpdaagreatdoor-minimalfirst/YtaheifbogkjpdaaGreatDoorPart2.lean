/- Laws and walks that the proof leans on (part 2): AbCode; AbCall; AbFrame; AbCongr; AbOrder; AbDraw and others. No condition. -/
import Derived.Test.YtaheifbogkjpdaaGreatDoorPart1
import Derived.CallsIn
import Derived.RangeFuncLeaves
import Derived.RangeFuncNested
import Derived.Laws.Externs
import Derived.Below
import Derived.Recover
import Derived.ControlIn
import Derived.Attr
set_option linter.unusedVariables false
set_option linter.unusedSimpArgs false
set_option maxRecDepth 100000
open List (all_cons all_eq_true append_nil drop_drop getElem?_eq_none getElem?_replicate length_cons length_nil map_congr_left mem_append mem_append_left mem_cons mem_filter mem_range mem_singleton nodup_cons range'_succ)
open Nat (beq_eq ble_eq blt_eq lt_of_lt_of_le lt_or_ge zero_add)
open Option (getD_some map_eq_some_iff map_some)
open Array (foldl_toList getElem?_eq_getElem getElem?_push getElem?_toList length_toList toList_append)
open Bool (and_eq_true false_eq_true not_eq_true')
open Go.Result (andThen_ok)
open Go.Sem (run_bind)
section
namespace Go.Ab
open Go
section
variable {β:cC} {P:Program} {gl:Nat->Bool}
def iF(r:Option Nat):Fence:={ Fence.wide with round:=r }
theorem rz{r:Option Nat}{n:Nat}{f:FuncId}{args:Array Value}{w:World}{R:Ending->World->Prop}(h:Calls P f args w R):CallsIn (iF r) n P f args w R:=
 (callsIn_wide (n:=n)).2 h
def Gl(gl:Nat->Bool)(β:cC):Prop:=∀g,gl g=true->∃sl,β g=some sl/\sl.b=g/\sl.s=0/\sl.isMap=false
theorem Gl.mono{β β':cC}(h:Gl gl β)(hle:β.le β'):Gl gl β':=λg hg=>let⟨sl,h1,h2⟩:=h g hg;⟨sl,hle _ _ h1,h2⟩
theorem aK.getD{l l':List Value}(h:aK β l l')(i:Nat):az β (l.getD i undef) (l'.getD i undef):=by
 by_cases hi:i<l.length
 ·have hi':i<l'.length:=h.1▸hi;simp only[List.getD,gE hi,gE hi',getD_some];exact h.2 i _ _ (gE hi) (gE hi')
 ·have hi':l'.length<=i:=by rw[<-h.1];omega
  simp only[List.getD,getElem?_eq_none (Nat.le_of_not_lt hi),getElem?_eq_none hi',Option.getD_none];exact .undef β
theorem uO{tm:List Value}{a:Act}(hg:Gl gl β)(ht:aK β tm a.tmps.toList)(x:Operand):az β (ev gl tm x) (a.eval x):=by
 cases x with
 |tmp t=>
  simp only[ev,Act.eval];have:=ht.getD t
  simp_all
 |const v=>
  simp only[ev,Act.eval];split
  ·next h=>exact .me h
  ·exact .fb v
 | global g=>
  simp only[ev,Act.eval];split
  ·next h=>
   obtain⟨sl,h1,h2,h3,h4⟩:=hg g h;have:=az.ptr (i:=0) h1 h4
   grind
  ·exact .fb _
 |func f=>
  simp only[ev,Act.eval];exact .func rfl rfl rfl (λi v v' h=>by grind) (λi v v' h=>by grind)
theorem jB{tm:List Value}{a:Act}(ht:aK β tm a.tmps.toList)(dst:Option Tmp){v v':Value}(hv:az β v v'):aK β (fO tm dst v) (a.put dst v').tmps.toList:=by
 cases dst with
 |none=>exact ht
 | some d=>
  simp only[fO,Act.put,Array.toList_setIfInBounds];refine⟨by simp[ht.1],λi u u' h1 h2=>?_⟩;rw[List.getElem?_set]at h1 h2;split at h1
  ·grind
  ·next he=>
   rw[if_neg he]at h2;exact ht.2 i u u' h1 h2
theorem put_defers(a:Act)(dst:Option Tmp)(v:Value):(a.put dst v).defers=a.defers:=by cases dst<;>rfl
theorem BK{l:List Value}{d:Nat}{b:Bool}(h:l.getD d undef = .bool b):l[d]?=some (.bool b):=by
 rw[gD]at h
 cases hd:l[d]? with
 |none=>rw[hd]at h;cases h
 |some v=>grind
theorem yW{l:List Value}{d:Nat}{vs:Array Value}(h:l.getD d undef = .tuple vs):l[d]?=some (.tuple vs)\/l[d]?=none:=by grind
theorem j1{ops:Array Oper}{tm:List Value}{a:Act}(ht:aK β tm a.tmps.toList){o:Oper}{b:Bool}(h:eC ops tm o=some b):Region.wanted o (yielded ops a.tmps)=b:=by
 unfold eC at h;unfold Region.wanted;split at h
 ·grind
 ·next j want hg=>
  rw[hg];simp only[yielded];split at h
  ·next d hd=>
   rw[hd];simp only[Option.bind_some];split at h
   ·next b' hb=>
    obtain⟨v',h1,h2⟩:=ht.get (BK hb);rw[h2.iP]at h1;rw[getElem?_toList]at h1;rw[h1];simp only[Option.some.injEq]at h;subst h
    cases b'<;>cases want<;>rfl
   ·next vs hb=>
    simp only[Option.some.injEq]at h;subst h;rcases yW hb with hb|hb
    ·obtain⟨v',h1,h2⟩:=ht.get hb;obtain⟨vs',rfl,_⟩:=h2.qC;rw[getElem?_toList]at h1;rw[h1];rfl
    ·have hd:a.tmps[d]?=none:=by
      rw[<-getElem?_toList];exact getElem?_eq_none (by rw[<-ht.1];exact List.getElem?_eq_none_iff.1 hb)
     rw[hd];rfl
   ·cases h
  grind
def mU(β:cC)(h:aa)(w:World)(v:Value)(h':aa):Ending->World->Prop:=λe w'=>∃v' β',e = .returned v'/\Step β h w β' h' w'/\az β' v v'
def XE(P:Program)(gl:Nat->Bool)(cf:bM):Prop:=
 ∀f args h v h',f<YB->cf f args h=some (v,h')->∀β w (args':Array Value),iK β h w->Gl gl β->aK β args args'.toList->
  ∃fn,P.funcs[f]?=some fn/\((fn.body.isSome=true/\Calls P f args' w (mU β h w v h'))\/
   (∃v' w' β',(callFunc f args').run P w = .ok (.value v') w'/\Step β h w β' h' w'/\az β' v v'))
def XH(P:Program)(gl:Nat->Bool)(cf:bM):Prop:=
 ∀k args h v h',cf (YB+k) args h=some (v,h')->∀β w (args':Array Value) sl,iK β h w->Gl gl β->aK β args args'.toList->β k=some sl->
  ∃fn tmps asg body,(Instr.yield sl.b args').run P w = .ok (.round sl.b fn tmps asg body) w/\∀(r:Option Nat)(n:Nat),RoundIn (iF r) n P sl.b fn tmps asg body w (mU β h w v h')
structure m6(P:Program)(gl:Nat->Bool)(cf:bM):Prop where
 fn:XE P gl cf
 yd:XH P gl cf
def dH(P:Program):Prop:=∀(f:FuncId)(fn:Func),P.funcs[f]?=some fn->(fn.name == "runtime.NumGoroutine")=false
theorem ez(hN:dH P){f:FuncId}{fn:Func}(hf:P.funcs[f]?=some fn)(hb:fn.body.isSome=true)(args:Array Value)(w:World):(callFunc f args).run P w = .ok (.enter f args) w:=by
 have h1:=hN f fn hf;have h2:fn.body.isNone=false:=by cases h:fn.body<;>simp_all
 simp only[callFunc,run_bind,run_program,andThen_ok,hf];rw[h1,h2];rfl
theorem az.Nq{g:FuncId}{first captured:Array Value}{x:Value}(hf:az β (.func (.func g) first captured) x):∃first' captured',x = .func (.func g) first' captured'/\gN β first first'/\gN β captured captured':=by
 cases hf with
 |func hy ha hc ra rc=>exact⟨_,_,rfl,⟨ha,ra⟩,⟨hc,rc⟩⟩
theorem az.BM{k:Nat}{first captured:Array Value}{x:Value}(hf:az β (.func (.yield k) first captured) x):∃sl,β k=some sl/\x = .func (.yield sl.b) first captured:=by
 cases hf with
 |func hy ha hc ra rc=>cases hy
 |yield h ha hc=>grind
theorem EM(hN:dH P){cf:bM}(hcf:m6 P gl cf){r:Option Nat}{n:Nat}{a:Act}{h:aa}{w:World}{o:Oper}{f:Operand}{args:Array Operand}{ats:Array TypeId}(ho:o.op = .call { callee:= .value f,args:=args,argTypes:=ats })
  {ρ:Operand->Value} {v:Value} {u:cX} (hs:iK β h w) (hg:Gl gl β) (hρ:∀x,az β (ρ x) (a.eval x)) (hr:pv cf (ρ f) (args.toList.map ρ) h=some (v,u)) (next:Act->World->Prop) (Q:Exit->Act->World->Prop)
  (hk:∀v' w' β',Step β h w β' (u.app h) w'->az β' v v'->next (a.put o.dst v') w'):o.uponIn (iF r) n P a next Q ((execOp a.eval o).run P w):=by
 unfold pv at hr;have hf:=hρ f;split at hr
 ·next g first captured hfv=>
  split at hr
  ·next hgY=>
   rw[hfv]at hf;obtain⟨⟨v0,h'⟩,hcall,he⟩:=map_eq_some_iff.1 hr;simp only[Prod.mk.injEq]at he;obtain⟨rfl,rfl⟩:=he;obtain⟨first',captured',hfe,hfr,hcr⟩:=hf.Nq;have hargs:aK β (first.toList++args.toList.map ρ++captured.toList) (first'++args.map a.eval++captured').toList:=by
    simp only[toList_append,Array.toList_map];exact((gN.toList.1 hfr).append (aK.map _ λx _=>hρ x)).append (gN.toList.1 hcr)
   have hex:(execOp a.eval o).run P w=(callFunc g (first'++args.map a.eval++captured')).run P w:=by
    unfold execOp;simp only[ho,resolve,hfe,Deferred.ofValue,run_bind,Sem.run_pure,andThen_ok,invoke]
   rw[hex];obtain⟨fn,hfn,hres⟩:=hcf.fn g _ h _ h' hgY hcall β w _ hs hg hargs;rcases hres with⟨hb,hcalls⟩|⟨v',w',β',h1,h2,h3⟩
   ·rw[ez hN hfn hb];refine⟨λhd=>by simp[iF,Fence.wide]at hd,rz (hcalls.mono ?_)⟩;rintro e w' ⟨v',β',rfl,h2,h3⟩;exact hk v' w' β' h2 h3
   ·rw[h1];exact hk v' w' β' h2 h3
  ·cases hr
 ·next k first captured hfv=>
  split at hr
  ·next hz=>
   rw[hfv]at hf;obtain⟨⟨v0,h'⟩,hcall,he⟩:=map_eq_some_iff.1 hr;simp only[Prod.mk.injEq]at he;obtain⟨rfl,rfl⟩:=he;obtain⟨sl,hb,hfe⟩:=hf.BM;have hf0:first = #[]:=Array.eq_empty_of_size_eq_zero hz.1
   have hargs:aK β (args.toList.map ρ) (args.map a.eval).toList:=by
    simp only[Array.toList_map];exact aK.map _ λx _=>hρ x
   have hex:(execOp a.eval o).run P w=(Instr.yield sl.b (args.map a.eval)).run P w:=by
    unfold execOp;simp only[ho,resolve,hfe,Deferred.ofValue,run_bind,Sem.run_pure,andThen_ok,invoke,hf0,Array.empty_append]
   rw[hex];obtain⟨fn,tmps,asg,body,h1,h2⟩:=hcf.yd k _ h _ h' hcall β w _ sl hs hg hargs hb;rw[h1];refine⟨λhd=>by simp[iF,Fence.wide]at hd,(h2 r (n-1)).mono ?_⟩;rintro e w' ⟨v',β',rfl,h3,h4⟩;exact hk v' w' β' h3 h4
  ·cases hr
 grind
theorem VZ(hN:dH P){cf:bM}(hcf:m6 P gl cf){r:Option Nat}{n:Nat}{tm:List Value}{a:Act}{h:aa}{w:World}{o:Oper}{v:Value}{u:cX}(hs:iK β h w)(hg:Gl gl β)(ht:aK β tm a.tmps.toList)
  (hr:aV P cf (ev gl tm) o h=some (v,u)) (next:Act->World->Prop) (Q:Exit->Act->World->Prop)
  (hk:∀v' w' β',Step β h w β' (u.app h) w'->az β' v v'->next (a.put o.dst v') w'):o.wpIn (iF r) n P a w next Q:=by
 refine⟨λ_ _=>trivial,?_⟩;have hρ:=uO (β:=β) hg ht;have hnd:∀c,o.op≠ .defer c:=by
  intro c hc;unfold aV at hr;simp[aT,aY,aS,cY,hc]at hr
 rw[Oper.semAt_eq _ _ _ hnd];unfold aV at hr;split at hr
 ·next v0 hp=>
  simp only[Option.some.injEq,Prod.mk.injEq]at hr;obtain⟨rfl,rfl⟩:=hr;obtain⟨v',h1,h2⟩:=nS hρ hp w;rw[h1];exact hk v' w β (Step.refl hs) h2
 ·split at hr
  ·next v0 hp=>
   simp only[Option.some.injEq,Prod.mk.injEq]at hr;obtain⟨rfl,rfl⟩:=hr;obtain⟨v',h1,h2⟩:=nT hρ hs hp;rw[h1];exact hk v' w β (Step.refl hs) h2
  ·split at hr
   ·next B f hp=>
    simp only[Option.some.injEq,Prod.mk.injEq]at hr;obtain⟨rfl,rfl⟩:=hr;obtain⟨v',w',h1,h2⟩:=mL hρ (w:=w) hp;obtain⟨β',h3,h4⟩:=h2.step hs;rw[h1];exact hk v' w' β' h3 h4
   ·by_cases hc:aQ o=false
    ·obtain⟨v',w',β',h1,h2,h3⟩:=uW hρ hc hs hr;rcases h1 with h1|⟨h1,rfl⟩
     ·rw[h1];exact hk v' w' β' h2 h3
     ·rw[h1];exact hk undef w' β' h2 h3
    ·unfold aQ at hc;split at hc
     ·next f args ats ho=>
      simp only[cY,ho]at hr;exact EM hN hcf ho hs hg hρ hr next Q hk
     grind
theorem H7(hN:dH P){cf:bM}(hcf:m6 P gl cf){r:Option Nat}{n:Nat}{ops:Array Oper}(Q:Exit->Act->World->Prop):∀(rest:List Oper)(i:Nat){β:cC}{tm tm':List Value}{a:Act}{h h':aa}{w:World},
  ops.toList.drop i=rest->fM P gl cf ops rest tm h=some (tm',h')->iK β h w->Gl gl β->aK β tm a.tmps.toList->
  (∀a' w' β',Step β h w β' h' w'->aK β' tm' a'.tmps.toList->a'.defers=a.defers->Q .normal a' w')->wpOpsIn (iF r) n P ops Q (List.range' i rest.length) a w
 |[],i,β,tm,tm',a,h,h',w,hd,hr,hs,hg,ht,hk=>by
  simp only[fM,Option.some.injEq,Prod.mk.injEq]at hr;obtain⟨rfl,rfl⟩:=hr;exact hk a w β (Step.refl hs) ht rfl
 | o::rest,i,β,tm,tm',a,h,h',w,hd,hr,hs,hg,ht,hk=>by
  have ho:ops[i]?=some o:=by
   have:(ops.toList.drop i)[0]?=some o:=by rw[hd];rfl
   rw[List.getElem?_drop]at this;rw[<-getElem?_toList];simpa using this
  have hd':ops.toList.drop (i+1)=rest:=by rw[<-drop_drop,hd];rfl
  simp only[length_cons,range'_succ,wpOpsIn,ho];simp only[fM]at hr;split at hr
  ·next hw=>
   rw[j1 ht hw];simp only[if_true];split at hr
   ·next v u hop=>
    refine VZ hN hcf hs hg ht hop _ _ λv' w' β' hst hv=>?_;refine H7 hN hcf Q rest (i+1) hd' hr hst.mB (hg.mono hst.le) (jB (ht.mono hst.le) o.dst hv) λa' w2 β2 h1 h2 h3=>?_;exact hk a' w2 β2 (hst.trans h1) h2 (h3.trans (put_defers a o.dst v'))
   ·cases hr
  ·next hw=>
   rw[j1 ht hw];simp only[false_eq_true,if_false];refine⟨λ_ _=>trivial,?_⟩;refine H7 hN hcf Q rest (i+1) hd' hr hs hg (jB ht o.dst (.undef β)) λa' w2 β2 h1 h2 h3=>?_;exact hk a' w2 β2 h1 h2 (h3.trans (put_defers a o.dst undef))
  grind
theorem Lx(hN:dH P){cf:bM}(hcf:m6 P gl cf){r:Option Nat}{n:Nat}{id:Nat}{ops:Array Oper}(Q:Exit->Act->World->Prop){tm tm':List Value}{a:Act}{h h':aa}{w:World}
  (hr:fM P gl cf ops ops.toList tm h=some (tm',h')) (hs:iK β h w) (hg:Gl gl β) (ht:aK β tm a.tmps.toList)
  (hk:∀a' w' β',Step β h w β' h' w'->aK β' tm' a'.tmps.toList->a'.defers=a.defers->Q .normal a' w'):(Code.region id ops false).wpIn (iF r) n P Q a w:=by grind[wpIn_region,H7,List.range_eq_range',length_toList]
theorem D9{F:Fence}{n:Nat}{c:Code}{Q:Exit->Act->World->Prop}(I:Nat->Act->World->Prop)(hz:∀a w,¬I 0 a w)
  (round:∀j a w,I (j+1) a w->c.wpIn F n P (Exit.then (I j) Q) a w) {j:Nat} {a:Act} {w:World} (h₀:I j a w):(Code.loop c).wpIn F n P Q a w:=by
 intro b k cs hro hb hr;have key:∀j a w,I j a w->∃e a' w',Q e a' w'/\ArrivesIn (Machine.fenced P F) P (lone (b.atR a (.code c :: .inLoop c::k)) cs w) b k cs e a' w':=by
  intro j
  induction j with
  |zero=>grind
  | succ j ih=>
   intro a w hI;obtain⟨e,a₁,w₁,hq,harr⟩:=round j a w hI b (.inLoop c::k) cs hro hb hr
   cases e with
   |normal=>
    obtain⟨e₂,a₂,w₂,hq₂,harr₂⟩:=ih a₁ w₁ hq;exact⟨e₂,a₂,w₂,hq₂,.of_steps (StepsIn.trans harr (.one (fenced_calm hb hr rfl) stepR_inLoop)) harr₂⟩
   |exit id=>exact⟨_,a₁,w₁,hq,.pass (x:= .inLoop c) rfl (λ_ _=> .inl (by simp)) harr⟩
   |goto l=>exact⟨_,a₁,w₁,hq,.pass (x:= .inLoop c) rfl (λ_ _=> .inl (by simp)) harr⟩
   |ret=>exact⟨_,a₁,w₁,hq,.pass (x:= .inLoop c) rfl (λ_ _=> .inl (by simp)) harr⟩
   |panic ch=>exact⟨_,a₁,w₁,hq,.pass (x:= .inLoop c) rfl (λ_ _=> .inl (by simp)) harr⟩
   |outgrown=>exact⟨_,a₁,w₁,hq,.pass (x:= .inLoop c) rfl (λ_ _=> .inl (by simp)) harr⟩
 obtain⟨e,a',w',hq,harr⟩:=key j a w h₀;exact⟨e,a',w',hq,.of_steps (.one (fenced_calm hb hr rfl) stepR_loop) harr⟩
def j4(P:Program)(gl:Nat->Bool)(cf:bM)(c:Code):Prop:=
 ∀id ops,c = .region id ops true->∀β tm tm' (a:Act) h h' (w:World) (r:Option Nat) (n:Nat) (Q:Exit->Act->World->Prop),yx P gl cf ops tm h=some (tm',h')->iK β h w->Gl gl β->aK β tm a.tmps.toList->
  (∀a' w' β',Step β h w β' h' w'->aK β' tm' a'.tmps.toList->a'.defers=a.defers->Q .normal a' w')->(Code.region id ops true).wpIn (iF r) n P Q a w
inductive Part:Code->Code->Prop where
 |refl (c:Code):Part c c
 |Iw {c a b:Code} (h:Part c a):Part c (.seq a b)
 |DZ {c a b:Code} (h:Part c b):Part c (.seq a b)
 |R2 {c a b:Code} {o:Operand} (h:Part c a):Part c (.cond o a b)
 |R0 {c a b:Code} {o:Operand} (h:Part c b):Part c (.cond o a b)
 |block {c a:Code} {id:Nat} (h:Part c a):Part c (.block id a)
 |loop {c a:Code} (h:Part c a):Part c (.loop a)
def mark(b:Nat):Deferred:={ target:= .collected b,args:= #[] }
def Marks(w:World)(ds:List Deferred)(β:cC)(h:aa)(w':World)(ds':List Deferred):Prop:=
 ∃ms:List Nat,ds'=ms.map mark++ds/\ms.Nodup/\∀b∈ms,w.heap.size<=b/\b<w'.heap.size/\w'.heap[b]?=some (.deferred (some []))/\¬Wr β h b
theorem Marks.same{w w':World}{ds ds':List Deferred}{h:aa}(e:ds'=ds):Marks w ds β h w' ds':=⟨[],by grind,by simp,by simp⟩
theorem Marks.trans{β₁ β₂:cC}{w w₁ w₂:World}{ds ds₁ ds₂:List Deferred}{h₁ h₂:aa}(m:Marks w ds β₁ h₁ w₁ ds₁)(hsz:w.heap.size<=w₁.heap.size)(st:Step β₁ h₁ w₁ β₂ h₂ w₂)(m':Marks w₁ ds₁ β₂ h₂ w₂ ds₂):Marks w ds β₂ h₂ w₂ ds₂:=by
 obtain⟨ms,rfl,hn,hb⟩:=m;obtain⟨ms',rfl,hn',hb'⟩:=m';refine⟨ms'++ms,by simp,List.nodup_append.2 ⟨hn',hn,λa ha b hb2 e=>?_⟩,λb hm=>?_⟩
 ·grind
 ·rcases mem_append.1 hm with hm|hm
  ·grind
  ·obtain⟨h1,h2,h3,h4⟩:=hb b hm;exact⟨h1,lt_of_lt_of_le h2 st.size,(st.kept b h2 h4).trans h3,λhw=>h4 (st.back b h2 hw)⟩
theorem ID{h:aa}{w:World}(hs:iK β h w)(o:Obj):Step β h w β h (w.alloc o):=by
 have hk:∀b,b<w.heap.size->(w.alloc o).heap[b]?=w.heap[b]?:=λb hb=>by
  show(w.heap.push o)[b]?=_;rw[getElem?_push,if_neg (by omega)]
 refine⟨β.le_refl,Nat.le_refl _,⟨λk sl hk=>⟨(hs.lt k sl hk).1,?_⟩,λk B sl h1 h2=>(hs.blk k B sl h1 h2).of_heap (hk _ (hs.lt k sl h2).2),hs.own,hs.wf⟩,?_,rfl,⟨rfl,Nat.le_refl _⟩,rfl,λb hb _=>hk b hb,λ_ _ h=>h,λ_ _ h=> .inl h,λ_ B h _=>⟨B,h⟩⟩
 ·have:=(hs.lt k sl hk).2;simp;omega
 simp
theorem LI{h:aa}{w:World}(hs:iK β h w){tm:List Value}{r:Loop}(hr:r.state = .ready)(hp:r.pending=none)(ht:aK β tm r.tmps.toList)(ok:jQ r.assign r.body=true):
  ∃β',Step β h w β' (h.push (.loop .ready tm r.params.toList r.assign r.body ok)) (w.alloc (.loop r))/\∃sl,β' h.next=some sl/\sl.b=w.heap.size:=by
 have ha:nj β w (.loop .ready tm r.params.toList r.assign r.body ok) (λk=> .func (.yield k) #[] #[]) (.func (.yield w.heap.size) #[] #[]) (w.alloc (.loop r)):=by
  refine⟨by simp,rfl,⟨rfl,Nat.le_refl _⟩,rfl,λb hb=>?_,⟨w.heap.size,0,0,0,0,true⟩,rfl,λβ' k hle hk=>⟨⟨rfl,r,World.alloc_heap_new w _,⟨hr,hp⟩,ht.mono hle,rfl,rfl,rfl⟩,?_⟩⟩
  ·show(w.heap.push _)[b]?=_;rw[getElem?_push,if_neg (by omega)]
  ·exact .yield (sl:=⟨w.heap.size,0,0,0,0,true⟩) hk rfl rfl
 obtain⟨β',h1,h2⟩:=ha.step hs;obtain⟨sl,h3,h4⟩:=h2.BM
 grind
theorem LH{h:aa}{w w':World}(hs:iK β h w){k:Nat}{B₀:bO}{sl:Slot}(hk:h.get k=some B₀)(hb:β k=some sl)(hw:B₀.wr=true)(ha:At w w' sl.b):Step β h w β (h.del k) w':=by
 have hget:∀k' B',(h.del k).get k'=some B'->k'≠k/\h.get k'=some B':=λk' B' hg=>by
  rw[h.dW]at hg;split at hg
  ·cases hg
  ·next hne=>exact⟨hne,hg⟩
 have hown:∀k' B' sl',k'≠k->h.get k'=some B'->β k'=some sl'->sl'.b≠sl.b:=λk' B' sl' hne h1 h2=>(hs.own k k' B₀ B' sl sl' (Ne.symm hne) hk h1 hb h2 hw).symm;refine⟨β.le_refl,Nat.le_refl _,⟨?_,?_,?_,aa.IP hs.wf k⟩,by rw[ha.size];exact Nat.le_refl _,ha.os,ha.tape,ha.output,?_,?_,λ_ _ h=> .inl h,?_⟩
 ·intro k' sl' h1;rw[ha.size];exact hs.lt k' sl' h1
 ·intro k' B' sl' h1 h2;obtain⟨hne,h1⟩:=hget _ _ h1;exact(hs.blk k' B' sl' h1 h2).of_heap (ha.kept _ (hown k' B' sl' hne h1 h2))
 ·intro k₁ k₂ B₁ B₂ sl₁ sl₂ hne h1 h2 h3 h4 h5;exact hs.own k₁ k₂ B₁ B₂ sl₁ sl₂ hne (hget _ _ h1).2 (hget _ _ h2).2 h3 h4 h5
 ·intro b hb' hn;refine ha.kept b ?_;rintro rfl;exact hn ⟨k,B₀,sl,hk,hw,hb,rfl⟩
 ·rintro b hb' ⟨k',B',sl',h1,h2,h3,h4⟩;exact⟨k',B',sl',(hget _ _ h1).2,h2,h3,h4⟩
 grind
theorem uB(w:World)(b:Nat)(o:Obj):At w (w.putObj b o) b:=⟨by simp,rfl,.refl _,rfl,λb' hb=>World.putObj_heap_other hb⟩
theorem vG{P:Program}{g:FuncId}(h:pw P g=true):∃fn,P.funcs[g]?=some fn/\fn.body.isSome=true:=by grind[pw]
theorem Dn{a b:Bool}(h:(a&&b)=true):a=true:=by grind
theorem Jx{a b:Bool}(h:(a&&b)=true):b=true:=by grind
theorem sW(hN:dH P){cf:bM}(hcf:m6 P gl cf){r:Option Nat}{n N:Nat}:∀(c:Code),(r=none\/kZ c=true)->(∀d,Part d c->j4 P gl cf d)->∀{β:cC}{tm tm':List Value}{a:Act}{h h':aa}{w:World}{e:Exit}(Q:Exit->Act->World->Prop),
  aJ P gl cf N c tm h=some (e,tm',h')->iK β h w->Gl gl β->aK β tm a.tmps.toList->
  (∀a' w' β',Step β h w β' h' w'->aK β' tm' a'.tmps.toList->Marks w a.defers β' h' w' a'.defers->Q e a' w')->c.wpIn (iF r) n P Q a w:=by
 intro c
 induction c with
 |skip=>
  intro hnr hdr β tm tm' a h h' w e Q hr hs hg ht hk;simp only[aJ,Option.some.injEq,Prod.mk.injEq]at hr;obtain⟨rfl,rfl,rfl⟩:=hr;exact wpIn_skip (hk a w β (Step.refl hs) ht (.same rfl))
 |region id ops draw=>
  intro hnr hdr β tm tm' a h h' w e Q hr hs hg ht hk
  cases draw
  ·simp only[aJ]at hr;obtain⟨⟨tm2,h2⟩,hop,he⟩:=map_eq_some_iff.1 hr;simp only[Prod.mk.injEq]at he;obtain⟨rfl,rfl,rfl⟩:=he;exact Lx hN hcf Q hop hs hg ht λa' w' β' h1 h2 h3=>hk a' w' β' h1 h2 (.same h3)
  ·simp only[aJ]at hr;obtain⟨⟨tm2,h2⟩,hop,he⟩:=map_eq_some_iff.1 hr;simp only[Prod.mk.injEq]at he;obtain⟨rfl,rfl,rfl⟩:=he;exact hdr _ (.refl _) id ops rfl β tm tm2 a h h2 w r n Q hop hs hg ht λa' w' β' h1 h2 h3=>hk a' w' β' h1 h2 (.same h3)
 | seq x y ihx ihy=>
  intro hnr hdr β tm tm' a h h' w e Q hr hs hg ht hk;simp only[aJ]at hr;refine wpIn_seq ?_;split at hr
  ·next tm1 h1 hx=>
   refine ihx (hnr.imp id Dn) (λd hd=>hdr d (.Iw hd)) _ hx hs hg ht λa1 w1 β1 hst1 ht1 hd1=>?_;exact ihy (hnr.imp id Jx) (λd hd=>hdr d (.DZ hd)) _ hr hst1.mB (hg.mono hst1.le) ht1 λa2 w2 β2 hst2 ht2 hd2=>hk a2 w2 β2 (hst1.trans hst2) ht2 (hd1.trans hst1.size hst2 hd2)
  ·next hne=>
   refine ihx (hnr.imp id Dn) (λd hd=>hdr d (.Iw hd)) _ hr hs hg ht λa1 w1 β1 hst1 ht1 hd1=>?_;have:=hk a1 w1 β1 hst1 ht1 hd1
   cases e with
   |normal=>grind
   |_=>exact this
 | cond o x y ihx ihy=>
  intro hnr hdr β tm tm' a h h' w e Q hr hs hg ht hk;simp only[aJ]at hr;split at hr
  ·next t hev=>
   have hc:a.eval o = .bool t:=by
    have:=uO (β:=β) hg ht o;rw[hev]at this;exact this.iP
   cases t
   ·exact wpIn_cond hc (ihy (hnr.imp id Jx) (λd hd=>hdr d (.R0 hd)) Q hr hs hg ht hk)
   ·exact wpIn_cond hc (ihx (hnr.imp id Dn) (λd hd=>hdr d (.R2 hd)) Q hr hs hg ht hk)
  grind
 | block id x ih=>
  intro hnr hdr β tm tm' a h h' w e Q hr hs hg ht hk;simp only[aJ]at hr;refine wpIn_block ?_;split at hr
  ·next id' tm1 h1 hx=>
   refine ih hnr (λd hd=>hdr d (.block hd)) _ hx hs hg ht λa1 w1 β1 hst1 ht1 hd1=>?_;split at hr
   ·next he=>
    simp only[Option.some.injEq,Prod.mk.injEq]at hr;obtain⟨rfl,rfl,rfl⟩:=hr;simp only[Exit.inBlock,he,if_true]
    grind
   ·next he=>
    simp only[Option.some.injEq,Prod.mk.injEq]at hr;obtain⟨rfl,rfl,rfl⟩:=hr;simp only[Exit.inBlock,he,if_false]
    grind
  ·next hne=>
   refine ih hnr (λd hd=>hdr d (.block hd)) _ hr hs hg ht λa1 w1 β1 hst1 ht1 hd1=>?_;have:=hk a1 w1 β1 hst1 ht1 hd1
   cases e with
   |exit id'=>grind
   |_=>exact this
 | loop x ih=>
  intro hnr hdr β tm tm' a h h' w e Q hr hs hg ht hk;simp only[aJ]at hr;refine D9 (λj a1 w1=>∃β1 tm1 h1,Step β h w β1 h1 w1/\aK β1 tm1 a1.tmps.toList/\Marks w a.defers β1 h1 w1 a1.defers/\iter (aJ P gl cf N x) j tm1 h1=some (e,tm',h')) ?_ ?_ (j:=N) ⟨β,tm,h,Step.refl hs,ht,.same rfl,hr⟩
  ·grind[iter]
  ·rintro j a1 w1 ⟨β1,tm1,h1,hst1,ht1,hd1,Qp⟩;simp only[iter]at Qp;split at Qp
   ·next tm2 h2 hx=>
    refine ih hnr (λd hd=>hdr d (.loop hd)) _ hx hst1.mB (hg.mono hst1.le) ht1 λa2 w2 β2 hst2 ht2 hd2=>?_;exact⟨β2,tm2,h2,hst1.trans hst2,ht2,hd1.trans hst1.size hst2 hd2,Qp⟩
   ·next hne=>
    refine ih hnr (λd hd=>hdr d (.loop hd)) _ Qp hst1.mB (hg.mono hst1.le) ht1 λa2 w2 β2 hst2 ht2 hd2=>?_;have:=hk a2 w2 β2 (hst1.trans hst2) ht2 (hd1.trans hst1.size hst2 hd2)
    cases e with
    |normal=>grind
    |_=>exact this
 |exit id=>
  intro hnr hdr β tm tm' a h h' w e Q hr hs hg ht hk;simp only[aJ,Option.some.injEq,Prod.mk.injEq]at hr;obtain⟨rfl,rfl,rfl⟩:=hr;exact wpIn_exit (hk a w β (Step.refl hs) ht (.same rfl))
 |ret=>
  intro hnr hdr β tm tm' a h h' w e Q hr hs hg ht hk;simp only[aJ,Option.some.injEq,Prod.mk.injEq]at hr;obtain⟨rfl,rfl,rfl⟩:=hr;exact wpIn_ret (hk a w β (Step.refl hs) ht (.same rfl))
 |label l=>
  intro hnr hdr β tm tm' a h h' w e Q hr hs hg ht hk;simp only[aJ,Option.some.injEq,Prod.mk.injEq]at hr;obtain⟨rfl,rfl,rfl⟩:=hr;exact wpIn_label (hk a w β (Step.refl hs) ht (.same rfl))
 | rangeFunc f ps x y _ _=>
  intro hnr hdr β tm tm' a h h' w e Q hr hs hg ht hk;rcases hnr with rfl|hnr
  ·simp only[aJ]at hr;split at hr
   ·next g first captured hfv=>
    split at hr
    ·next hok=>
     split at hr
     ·next hgb=>
      split at hr
      ·next v2 h2 hcall=>
       obtain⟨e2,hend,he⟩:=map_eq_some_iff.1 hr;simp only[Prod.mk.injEq]at he;obtain⟨rfl,rfl,rfl⟩:=he;refine wpIn_rangeFunc λfnI hFn=>?_;have hs0:Step β h w β h (w.alloc (.deferred (some []))):=ID hs _;obtain⟨β1,hst1,sl,hsl,hslb⟩:=LI hs0.mB (tm:=tm) (r:={ state:= .ready,pending:=none,fn:=fnI,tmps:=a.tmps,params:=ps,assign:=x,body:=y,defers:=w.heap.size }) rfl rfl ht hok;have hst01:=hs0.trans hst1;have hf:=uO (β:=β) hg ht f;rw[hfv]at hf;obtain⟨first',captured',hfe,hfr,hcr⟩:=hf.Nq;have hslb':sl.b=w.heap.size+1:=by rw[hslb];simp
       have hargs:aK β1 (first.toList++[Value.func (.yield h.next) #[] #[]]++captured.toList) (first' ++ #[Value.func (.yield (w.heap.size+1)) #[] #[]]++captured').toList:=by
        simp only[toList_append];refine(((gN.toList.1 hfr).mono hst01.le).append ?_).append ((gN.toList.1 hcr).mono hst01.le);exact .cons (by have:=az.yield hsl (a:= #[]) (c:= #[]) rfl rfl;rwa[hslb']at this) (.nil _)
       obtain⟨fn,hfn,hres⟩:=hcf.fn g _ _ _ h2 hgb.1 hcall β1 _ _ hst1.mB (hg.mono hst01.le) hargs;obtain⟨fn2,hfn2,hbody⟩:=vG hgb.2;rw[hfn2]at hfn;obtain rfl:=oI hfn;have hent:=ez hN hfn2 hbody (first' ++ #[Value.func (.yield (w.heap.size+1)) #[] #[]]++captured');have hcalls:Calls P g (first' ++ #[Value.func (.yield (w.heap.size+1)) #[] #[]]++captured') ((w.alloc (.deferred (some []))).alloc (.loop { state:= .ready,pending:=none,fn:=fnI,tmps:=a.tmps,params:=ps,assign:=x,body:=y,defers:=w.heap.size })) (mU β1 (h.push (.loop .ready tm ps.toList x y hok)) ((w.alloc (.deferred (some []))).alloc (.loop { state:= .ready,pending:=none,fn:=fnI,tmps:=a.tmps,params:=ps,assign:=x,body:=y,defers:=w.heap.size })) v2 h2):=by
        rcases hres with⟨_,hc⟩|⟨v',w',β',hc,_⟩
        ·exact hc
        ·rw[hent]at hc;cases hc
       have henter:(Instr.enterLoop fnI a.tmps ps x y (iF none).round).run P w = .ok (w.heap.size+1,[mark w.heap.size]) ((w.alloc (.deferred (some []))).alloc (.loop { state:= .ready,pending:=none,fn:=fnI,tmps:=a.tmps,params:=ps,assign:=x,body:=y,defers:=w.heap.size })):=run_enterLoop_outer fnI a.tmps ps x y;have hresv:(resolve a.eval (rangeCall f (w.heap.size+1)) 0).run P ((w.alloc (.deferred (some []))).alloc (.loop { state:= .ready,pending:=none,fn:=fnI,tmps:=a.tmps,params:=ps,assign:=x,body:=y,defers:=w.heap.size })) = .ok { target:= .fn (.func g) captured',args:=first' ++ #[Value.func (.yield (w.heap.size+1)) #[] #[]] } ((w.alloc (.deferred (some []))).alloc (.loop { state:= .ready,pending:=none,fn:=fnI,tmps:=a.tmps,params:=ps,assign:=x,body:=y,defers:=w.heap.size })):=by
        have he:resolve a.eval (rangeCall f (w.heap.size+1)) 0=Deferred.ofValue (a.eval f) #[Value.func (.yield (w.heap.size+1)) #[] #[]]:=by
         unfold resolve rangeCall;simp only[List.map_toArray,List.map_cons,List.map_nil];rfl
        rw[he,hfe];rfl
       refine⟨_,_,_,_,_,g,_,_,henter,hresv,λ_ _=>trivial,hent _,λhd=>by simp[iF,Fence.wide]at hd,rz (hcalls.mono ?_)⟩;rintro e' w3 ⟨v',β3,rfl,hst3,hv3⟩
       cases hB:h2.get h.next with
       |none=>rw[hB]at hend;cases hend
       | some B=>
        rw[hB]at hend;have hsl3:=hst3.le _ _ hsl
        cases B with
        |cells _ _ _ _=>cases hend
        |map _=>cases hend
        | loop st tm2 ps2 asg2 body2 ok2=>
         obtain⟨_,r,hr1,hr2,_⟩:=hst3.mB.blk _ _ _ hB hsl3;rw[hslb']at hr1;have hmk:Marks w a.defers β3 (h2.del h.next) (w3.putObj (w.heap.size+1) (.loop { r with state:= .exhausted })) ([mark w.heap.size]++a.defers):=by
          have hnw:¬Wr β1 (h.push (.loop .ready tm ps.toList x y hok)) w.heap.size:=λhw=>by
           have:=hst1.back w.heap.size (by simp) hw;obtain⟨k,B,sl0,_,_,h3,h4⟩:=this;have:=(hs.lt k sl0 h3).2;omega
          have hsz:w.heap.size<((w.alloc (.deferred (some []))).alloc (.loop { state:= .ready,pending:=none,fn:=fnI,tmps:=a.tmps,params:=ps,assign:=x,body:=y,defers:=w.heap.size })).heap.size:=by simp;omega
          refine⟨[w.heap.size],rfl,by simp,λb hb=>?_⟩;obtain rfl:=mem_singleton.1 hb;refine⟨Nat.le_refl _,?_,?_,λhw=>?_⟩
          ·rw[World.putObj_size];exact lt_of_lt_of_le hsz hst3.size
          ·rw[World.putObj_heap_other (by omega),hst3.kept _ hsz hnw];show((w.heap.push _).push _)[w.heap.size]?=_;rw[getElem?_push,if_neg (by simp),getElem?_push,if_pos rfl]
          ·obtain⟨k,B,sl0,h1,h2',h3,h4⟩:=hw;refine hnw (hst3.back _ hsz ⟨k,B,sl0,?_,h2',h3,h4⟩);rw[aa.dW]at h1;split at h1
           ·cases h1
           ·exact h1
         have hdrop:Step β3 h2 w3 β3 (h2.del h.next) (w3.putObj (w.heap.size+1) (.loop { r with state:= .exhausted })):=LH hst3.mB hB hsl3 rfl (by rw[hslb'];exact uB _ _ _);have hall:=(hst01.trans hst3).trans hdrop;have htm:=ht.mono (hst01.trans hst3).le;have hfin:=hk { a with defers:=[mark w.heap.size]++a.defers } _ β3 hall htm hmk;have hnb:r.state≠ .busy:=by
          cases st<;>simp only[GY]at hr2<;>first|(rw[hr2.1];simp;done)|cases hend
         refine⟨r.pending,_,run_endLoop hr1 hnb,?_⟩
         cases st with
         |ready=>
          obtain rfl:=oI hend;have hp:r.pending=none:=hr2.2;rw[hp]at hfin⊢;exact hfin
         |busy=>cases hend
         |ret=>
          obtain rfl:=oI hend;have hp:r.pending=some .ret:=hr2.2;rw[hp]at hfin⊢;exact wpIn_ret hfin
         |exit id=>
          obtain rfl:=oI hend;have hp:r.pending=some (.exit id):=hr2.2;rw[hp]at hfin⊢;exact wpIn_exit hfin
      ·cases hr
     ·cases hr
    ·cases hr
   grind
  ·cases hnr
 |scope x _=>grind[aJ]
 |goto l=>grind[aJ]
 |refuse s=>grind[aJ]
end
section
variable {β:cC} {P:Program} {gl:Nat->Bool}
def Gi(tmps:Array Value):ResultVar->Sem Value
 |.tmp t=>pure (tmps.getD t undef)
 |.cell x t=>do loadVar t (<-asAddr (tmps.getD x undef))
theorem Ir(fn:Func)(tmps:Array Value):results fn tmps=(do let vs <-fn.results.mapM (Gi tmps);pure (if h:vs.size=1 then vs[0]else .tuple vs)):=by rfl
theorem oe{a:Act}{h:aa}{w:World}(hs:iK β h w){tm:List Value}(ht:aK β tm a.tmps.toList):∀(l:List ResultVar){vs:List Value},ca P tm h l=some vs->
  ∃vs',(l.mapM (Gi a.tmps)).run P w = .ok vs' w/\aK β vs vs'
 |[],vs,h=>by simp only[ca,Option.some.injEq]at h;subst h;exact⟨[],by simp,.nil β⟩
 |.tmp t::l,vs,hr=>by
  simp only[ca]at hr;obtain⟨vs0,h0,rfl⟩:=map_eq_some_iff.1 hr;obtain⟨vs',h1,h2⟩:=oe hs ht l h0;have hv:=ht.getD t;rw[show a.tmps.toList.getD t undef=a.tmps.getD t undef by simp[List.getD,Array.getD_eq_getD_getElem?]]at hv;refine⟨a.tmps.getD t undef::vs',?_,.cons hv h2⟩
  grind[run_bind,Sem.run_pure,andThen_ok,Gi]
 | .cell x t::l,vs,hr=>by
  simp only[ca]at hr;split at hr
  ·next v hl=>
   obtain⟨vs0,h0,rfl⟩:=map_eq_some_iff.1 hr;obtain⟨vs',h1,h2⟩:=oe hs ht l h0;have hv:=ht.getD x;rw[show a.tmps.toList.getD x undef=a.tmps.getD x undef by simp[List.getD,Array.getD_eq_getD_getElem?]]at hv;obtain⟨ad,he,v',hrun,hvr⟩:=FI (P:=P) hs hl hv;refine⟨v'::vs',?_,.cons hvr h2⟩;rw[List.mapM_cons];simp only[run_bind,Gi,he,asAddr,Sem.run_pure,andThen_ok,hrun,h1]
  grind
theorem Gj{fn:Func}{a:Act}{h:aa}{w:World}(hs:iK β h w){tm:List Value}(ht:aK β tm a.tmps.toList){vs:List Value}(hr:ca P tm h fn.results.toList=some vs):
  ∃v',(results fn a.tmps).run P w = .ok v' w/\az β (aU vs) v':=by
 obtain⟨vs',h1,h2⟩:=oe (P:=P) hs ht fn.results.toList hr;have hm:(fn.results.mapM (Gi a.tmps)).run P w = .ok vs'.toArray w:=by
  rw[Array.mapM_eq_mapM_toList];simp only[Sem.run_map,h1,andThen_ok]
 refine⟨if h:vs'.toArray.size=1 then vs'.toArray[0]else .tuple vs'.toArray,?_,?_⟩
 ·grind[Ir,run_bind,andThen_ok,Sem.run_pure]
 ·match vs,vs',h2 with
  |[],vs',h2=>rw[h2.dX];exact .tuple rfl λi v v' h=>by grind
  |[v],vs',h2=>
   obtain⟨v',r,rfl,hv,hr⟩:=h2.cz;rw[hr.dX];exact hv
  |v::u::vs,vs',h2=>
   have hl:=h2.1;have hne:¬vs'.toArray.size=1:=by simp only[List.size_toArray];simp only[length_cons]at hl;omega
   rw[dif_neg hne];exact .tuple (by omega) λi x x' h3 h4=>h2.2 i x x' (by grind) (by grind)
theorem wm.Dm{B:bO}{sl:Slot}{w:World}(h:wm β B sl w){d:Option (List Deferred)}(hd:w.heap[sl.b]?=some (.deferred d)):False:=by
 cases B with
 |cells cs t sz wr=>obtain⟨_,_,_,cs',fr,h4,_⟩:=h;grind
 |map es=>obtain⟨_,es',clock,h2,_⟩:=h;grind
 |loop st tm ps asg body ok=>obtain⟨_,r,h2,_⟩:=h;grind
theorem Cn{β₀:cC}{h₀ h:aa}{w₀ w:World}(st:Step β₀ h₀ w₀ β h w){b:Nat}{d d':Option (List Deferred)}(hb:w₀.heap.size<=b)(hd:w.heap[b]?=some (.deferred d)):Step β₀ h₀ w₀ β h (w.putObj b (.deferred d')):=by
 refine⟨st.le,st.next,⟨λk sl hk=>?_,λk B sl h1 h2=>?_,st.mB.own,st.mB.wf⟩,?_,st.os,st.tape,st.output,λb' hb' hw=>?_,st.back,st.fresh,st.keys⟩
 ·rw[World.putObj_size];exact st.mB.lt k sl hk
 ·have hB:=st.mB.blk k B sl h1 h2;refine hB.of_heap (World.putObj_heap_other λe=>?_);rw[<-e]at hd;exact hB.Dm hd
 ·grind[World.putObj_size]
 ·rw[World.putObj_heap_other (by omega)];exact st.kept b' hb' hw
theorem nM{F:Fence}{n:Nat}{fn:Func}{β₀ β':cC}{h₀ h':aa}{w₀:World}{tm:List Value}{tmps:Array Value}{vs:List Value}(hres:ca P tm h' fn.results.toList=some vs)(ht:aK β' tm tmps.toList):
  ∀(ms:List Nat)(w':World),ms.Nodup->(∀b∈ms,w₀.heap.size<=b/\w'.heap[b]?=some (.deferred (some [])))->Step β₀ h₀ w₀ β' h' w'->LeavesInM F n P fn tmps (mU β₀ h₀ w₀ (aU vs) h') (ms.map mark) .returning w'
 |[],w',_,_,st=>by
  obtain⟨v',h1,h2⟩:=Gj (P:=P) (fn:=fn) (a:={ tmps:=tmps,defers:=[] }) st.mB ht hres;exact⟨v',h1,v',β',rfl,st,h2⟩
 |b::ms,w',hn,hb,st=>by
  obtain⟨h1,h2⟩:=hb b (by simp);obtain⟨hn1,hn2⟩:=nodup_cons.1 hn;refine⟨by simp,.inl ⟨b,_,rfl,run_takeDeferred h2,?_⟩⟩;refine nM hres ht ms _ hn2 (λb' hm=>?_) (Cn st h1 h2)
  grind[World.putObj_heap_other]
def jt(P:Program)(gl:Nat->Bool)(f:FuncId)(p:mw):Prop:=
 ∀cf,m6 P gl cf->∀args h v h',p cf args h=some (v,h')->∀β w (args':Array Value),iK β h w->Gl gl β->aK β args args'.toList->
  ∃fn,P.funcs[f]?=some fn/\((fn.body.isSome=true/\Calls P f args' w (mU β h w v h'))\/
   (∃v' w' β',(callFunc f args').run P w = .ok (.value v') w'/\Step β h w β' h' w'/\az β' v v'))
def sO(P:Program)(gl:Nat->Bool)(pr:FuncId->Option mw):Prop:=∀f p,pr f=some p->jt P gl f p
def Eg(P:Program)(gl:Nat->Bool):Prop:=∀cf,m6 P gl cf->∀(f:FuncId)(fn:Func)(c d:Code),P.funcs[f]?=some fn->fn.body=some c->Part d c->j4 P gl cf d
theorem yi(hN:dH P){cf:bM}(hcf:m6 P gl cf){N:Nat}{f:FuncId}{fn:Func}{c:Code}(hf:P.funcs[f]?=some fn)(hb:fn.body=some c)(hd:∀d,Part d c->j4 P gl cf d)
  {args:List Value} {h h':aa} {tm:List Value} {e:Exit} {vs:List Value} (hr:aJ P gl cf N c (args++List.replicate (fn.ntmps-args.length) undef) h=some (e,tm,h')) (he:e = .normal\/e = .ret)
  (hres:ca P tm h' fn.results.toList=some vs) {w:World} {args':Array Value} (hs:iK β h w) (hg:Gl gl β) (ha:aK β args args'.toList):
  Calls P f args' w (mU β h w (aU vs) h'):=by
 refine(callsIn_wide (n:=0)).1 (callsIn_of_wp_marks (F:=Fence.wide) hf hb trivial ?_);have hrep:∀k,aK β (List.replicate k undef) (List.replicate k undef):=λk=>⟨rfl,λi v v' h1 h2=>by
  rw[getElem?_replicate]at h1 h2;split at h1
  ·next hi=>rw[if_pos hi]at h2;obtain rfl:=oI h1;obtain rfl:=oI h2;exact .undef β
  grind⟩
 have ht:aK β (args++List.replicate (fn.ntmps-args.length) undef) (args'++Array.replicate (fn.ntmps-args'.size) undef).toList:=by
  have:args'.size=args.length:=by rw[ha.1];simp
  rw[this];simp only[toList_append,Array.toList_replicate];exact ha.append (hrep _)
 refine sW (r:=none) hN hcf c (.inl rfl) hd _ hr hs hg ht λa w' β' hst ht' hd'=>?_;obtain⟨ms,hms,hnd,hb'⟩:=hd';simp only[append_nil]at hms;have key:=nM (P:=P) (F:=Fence.wide) (n:=0) (fn:=fn) hres ht' ms w' hnd (λb hm=>⟨(hb' b hm).1,(hb' b hm).2.2.1⟩) hst;rw[<-hms]at key;rcases he with rfl|rfl
 ·exact key
 ·exact key
theorem yQ:∀(l:List (Tmp×Value))(T:Array Value),(l.foldl (λtmps (p:Tmp×Value)=>tmps.setIfInBounds p.1 p.2) T).toList=qe T.toList l
 |[],_=>rfl
 |p::l,T=>by
  simp only[List.foldl_cons,qe];rw[yQ l,qe,Array.toList_setIfInBounds]
theorem aK.set{l l':List Value}(h:aK β l l')(i:Nat){v v':Value}(hv:az β v v'):aK β (l.set i v) (l'.set i v'):=by
 refine⟨by simp[h.1],λj u u' h1 h2=>?_⟩;rw[List.getElem?_set]at h1 h2;split at h1
 ·grind
 ·next he=>rw[if_neg he]at h2;exact h.2 j u u' h1 h2
theorem Ck:∀(ps:List Tmp){tm tm' args args':List Value},aK β tm tm'->aK β args args'->aK β (qe tm (ps.zip args)) (qe tm' (ps.zip args'))
 |[],_,_,_,_,ht,_=>by simp_all[qe]
 |p::ps,_,_,[],_,ht,ha=>by rw[ha.dX];simp_all[qe]
 |p::ps,_,_,v::vs,_,ht,ha=>by
  obtain⟨v',r',rfl,hv,hrr⟩:=ha.cz;exact Ck ps (ht.set p hv) hrr
theorem iS{cf:bM}(hD:∀(d c:Code),Part d c->bJ c=true->j4 P gl cf d){c:Code}(h:bJ c=true):∀d,Part d c->j4 P gl cf d:=λd hd=>hD d c hd h
theorem Pn(hN:dH P){cf:bM}(hcf:m6 P gl cf)(hD:∀(d c:Code),Part d c->bJ c=true->j4 P gl cf d){N k:Nat}{args:List Value}{h h':aa}{v:Value}(hr:ni (aJ P gl cf N) k args h=some (v,h')){w:World}{args':Array Value}{sl:Slot}
  (hs:iK β h w) (hg:Gl gl β) (ha:aK β args args'.toList) (hb:β k=some sl):
  ∃fn tmps asg body,(Instr.yield sl.b args').run P w = .ok (.round sl.b fn tmps asg body) w/\∀(r:Option Nat)(n:Nat),RoundIn (iF r) n P sl.b fn tmps asg body w (mU β h w v h'):=by
 unfold ni at hr;split at hr
 ·next tm ps asg body ok hk=>
  split at hr
  ·next hlen=>
   split at hr
   ·next tm1 h1 hasg=>
    split at hr
    ·next tm' ps' asg' body' ok' hk1=>
     split at hr
     ·next e x h2 hbody=>
      split at hr
      ·next st2 tm2 ps2 asg2 body2 ok2 b st hk2 hlst=>
       simp only[Option.some.injEq,Prod.mk.injEq]at hr;obtain⟨rfl,rfl⟩:=hr;obtain⟨_,lr,hr1,hr2,htm,hps,rfl,rfl⟩:=hs.blk _ _ _ hk hb;have hsz:args'.size=lr.params.size:=by
        have:=ha.1;rw[<-length_toList,<-this,hlen,<-hps];simp
       refine⟨lr.fn,_,lr.assign,lr.body,run_yield hr1 hsz,λr n=>?_⟩;simp only[jQ,and_eq_true]at ok;obtain⟨⟨⟨ok1,ok2'⟩,ok3⟩,ok4⟩:=ok;have hset:aK β (qe tm (ps.zip args)) ((lr.params.zip args').foldl (λtmps (t,a)=>tmps.setIfInBounds t a) lr.tmps).toList:=by
        rw[<-foldl_toList,Array.toList_zip,hps];have:=Ck ps htm ha;rw[<-yQ (ps.zip args'.toList) lr.tmps]at this;exact this
       refine roundIn_of_wpIn trivial ?_;refine sW (r:=some sl.b) hN hcf lr.assign (.inr ok3) (iS hD ok1) _ hasg hs hg (a:={ tmps:=_,defers:=[] }) hset λa1 w1 β1 hst1 ht1 _=>?_;have hb1:=hst1.le _ _ hb;obtain⟨_,lr1,hr11,hr12,htm1,hps1,hasg1,hbody1⟩:=hst1.mB.blk _ _ _ hk1 hb1;have hst2:Step β1 h1 w1 β1 (h1.set k (.loop .busy tm' ps' asg' body' ok')) (w1.putObj sl.b (.loop { lr1 with state:= .busy })):=
        Step.at_ hst1.mB hk1 hb1 rfl (uB _ _ _) ⟨by assumption,{ lr1 with state:= .busy },World.putObj_heap_same (hst1.mB.lt _ _ hb1).2,rfl,htm1,hps1,hasg1,hbody1⟩
       refine⟨_,run_beginRound hr11 hr12.1,?_⟩;have hst12:=hst1.trans hst2;refine sW (r:=some sl.b) hN hcf lr.body (.inr ok4) (iS hD ok2') _ hbody hst2.mB (hg.mono hst12.le) ht1 λa2 w2 β2 hst3 ht2 _=>?_;have hb2:=hst3.le _ _ hb1;obtain⟨hmap,lr2,hr21,hr22,htm2,hps2,hasg2,hbody2⟩:=hst3.mB.blk _ _ _ hk2 hb2;have hst13:=hst12.trans hst3;have fin:∀jump:Option Code,b=jump.isNone->GY st (if jump.isNone then .ready else .done) jump->
         ∃v w',(Instr.endRound sl.b jump).run P w2 = .ok v w'/\mU β h w (.bool b) (h2.set k (.loop st tm2 ps2 asg2 body2 ok2)) (.returned v) w':=λjump hj hst=>by
        refine⟨_,_,run_endRound jump hr21,.bool jump.isNone,β2,rfl,hst13.trans (Step.at_ hst3.mB hk2 hb2 rfl (uB _ _ _) ⟨hmap,_,World.putObj_heap_same (hst3.mB.lt _ _ hb2).2,hst,htm2,hps2,hasg2,hbody2⟩),?_⟩;rw[hj];exact .bool _
       cases e with
       |normal=>simp only[FM,Option.some.injEq,Prod.mk.injEq]at hlst;obtain⟨rfl,rfl⟩:=hlst;exact fin none rfl ⟨rfl,rfl⟩
       |ret=>simp only[FM,Option.some.injEq,Prod.mk.injEq]at hlst;obtain⟨rfl,rfl⟩:=hlst;exact fin (some .ret) rfl ⟨rfl,rfl⟩
       |exit id=>simp only[FM,Option.some.injEq,Prod.mk.injEq]at hlst;obtain⟨rfl,rfl⟩:=hlst;exact fin (some (.exit id)) rfl ⟨rfl,rfl⟩
       |_=>cases hlst
      ·cases hr
     ·cases hr
    ·cases hr
   ·cases hr
  ·cases hr
 grind
def A4(P:Program)(gl:Nat->Bool):Prop:=∀cf,m6 P gl cf->∀(d c:Code),Part d c->bJ c=true->j4 P gl cf d
theorem CM(hN:dH P){pr:FuncId->Option mw}(hp:sO P gl pr)(hD:Eg P gl)(hT:A4 P gl):∀n,m6 P gl (aW P gl pr n)
 |0=>⟨λf args h v h' _ hr=>by grind[aW],λk args h v h' hr=>by grind[aW]⟩
 | n+1=>by
  have ih:=CM hN hp hD hT n;refine⟨λf args h v h' hfY hr β w args' hs hg ha=>?_,λk args h v h' hr β w args' sl hs hg ha hb=>?_⟩
  ·simp only[aW]at hr;rw[if_neg (by omega)]at hr;split at hr
   ·next p hpf=>exact hp f p hpf _ ih args h v h' hr β w args' hs hg ha
   ·split at hr
    ·next fn hf=>
     split at hr
     ·next c hb=>
      refine⟨fn,hf,.inl ⟨by simp[hb],?_⟩⟩;split at hr
      ·next tm h2 hcr=>
       obtain⟨vs,hres,he⟩:=map_eq_some_iff.1 hr;simp only[Prod.mk.injEq]at he;obtain⟨rfl,rfl⟩:=he;exact yi hN ih hf hb (λd hd=>hD _ ih f fn c d hf hb hd) hcr (.inl rfl) hres hs hg ha
      ·next tm h2 hcr=>
       obtain⟨vs,hres,he⟩:=map_eq_some_iff.1 hr;simp only[Prod.mk.injEq]at he;obtain⟨rfl,rfl⟩:=he;exact yi hN ih hf hb (λd hd=>hD _ ih f fn c d hf hb hd) hcr (.inr rfl) hres hs hg ha
      ·cases hr
     ·cases hr
    grind
  ·simp only[aW]at hr;rw[if_pos (by omega),Nat.add_sub_cancel_left]at hr;exact Pn hN ih (hT _ ih) hr hs hg ha hb
end
section
variable {β:cC} {P:Program}
structure uu(h h':aa):Prop where
 next:h.next=h'.next
 get:∀k,h.get k=h'.get k
theorem uu.refl(h:aa):uu h h:=⟨rfl,λ_=>rfl⟩
theorem uu.symm{h h':aa}(e:uu h h'):uu h' h:=⟨e.next.symm,λk=>(e.get k).symm⟩
theorem iK.same{h h':aa}{w:World}(e:uu h h')(hs:iK β h w):iK β h' w:=
 ⟨λk sl hk=>by rw[<-e.next];exact hs.lt k sl hk,λk B sl h1 h2=>hs.blk k B sl (by rw[e.get];omega) h2,
  λk k' B B' sl sl' hne h1 h2 h3 h4 h5=>hs.own k k' B B' sl sl' hne (by rw[e.get];omega) (by rw[e.get];omega) h3 h4 h5,
  λk B hk=>by rw[<-e.next];exact hs.wf k B (by rw[e.get];omega)⟩
theorem Wr.same{h h':aa}(e:uu h h'){b:Nat}:Wr β h b->Wr β h' b:=λ⟨k,B,sl,h1,h2⟩=>⟨k,B,sl,by rw[<-e.get];omega,h2⟩
theorem Step.same{h h₂ h' h₂':aa}{β':cC}{w w':World}(e:uu h h₂)(e':uu h' h₂')(s:Step β h w β' h' w'):Step β h₂ w β' h₂' w':=
 ⟨s.le,by rw[<-e.next,<-e'.next];exact s.next,s.mB.same e',s.size,s.os,s.tape,s.output,λb hb hn=>s.kept b hb λhw=>hn (hw.same e),λb hb hw=>(s.back b hb (hw.same e'.symm)).same e,
  λk sl hk=>(s.fresh k sl hk).imp id λ⟨h1,h2⟩=>⟨by rw[<-e.next];omega,h2.imp id λhw=>hw.same e⟩,
  λk B hk hlt=>let⟨B₀,h0⟩:=s.keys k B (by rw[e'.get];omega) (by rw[e.next];omega);⟨B₀,by rw[<-e.get];omega⟩⟩
theorem iK.sub{V G:aa}{w:World}(hs:iK β V w)(hn:G.next=V.next)(hg:∀k B,G.get k=some B->V.get k=some B):iK β G w:=
 ⟨λk sl hk=>by rw[hn];exact hs.lt k sl hk,λk B sl h1 h2=>hs.blk k B sl (hg k B h1) h2,λk k' B B' sl sl' hne h1 h2 h3 h4 h5=>hs.own k k' B B' sl sl' hne (hg k B h1) (hg k' B' h2) h3 h4 h5,
  λk B hk=>by rw[hn];exact hs.wf k B (hg k B hk)⟩
theorem Step.frame{G G' V V':aa}{β':cC}{w w':World}(s:Step β G w β' G' w')(hv:iK β V w)(hn:V.next=G.next)(hn':V'.next=G'.next)(R:Nat->bO->Prop)
  (hR:∀k B,R k B->k<G.next/\G.get k=none) (eV:∀k B,V.get k=some B↔G.get k=some B\/R k B) (eV':∀k B,V'.get k=some B↔G'.get k=some B\/R k B):Step β V w β' V' w':=by
 have hold:∀k sl,k<G.next->β' k=some sl->β k=some sl:=λk sl hk hb=>by
  rcases s.fresh k sl hb with h|⟨h,_⟩
  all_goals omega
 have hnw:∀k B sl,R k B->β k=some sl->¬Wr β G sl.b:=by
  rintro k B sl hr hb ⟨k2,B2,sl2,h1,h2,h3,h4⟩;have hne:k2≠k:=by rintro rfl;rw[(hR _ _ hr).2]at h1;cases h1
  exact hv.own k2 k B2 B sl2 sl hne ((eV _ _).2 (.inl h1)) ((eV _ _).2 (.inr hr)) h3 hb h2 h4
 have hwr:∀b,Wr β G b->Wr β V b:=λb ⟨k,B,sl,h1,h2⟩=>⟨k,B,sl,(eV _ _).2 (.inl h1),h2⟩
 refine⟨s.le,by rw[hn,hn'];exact s.next,⟨?_,?_,?_,?_⟩,s.size,s.os,s.tape,s.output,λb hb hw=>s.kept b hb λh=>hw (hwr b h),?_,?_,?_⟩
 ·intro k sl hk;rw[hn'];exact s.mB.lt k sl hk
 ·intro k B sl h1 h2;rcases(eV' k B).1 h1 with h1|h1
  ·exact s.mB.blk k B sl h1 h2
  ·have hb:=hold k sl (hR _ _ h1).1 h2;exact((hv.blk k B sl ((eV _ _).2 (.inr h1)) hb).mono s.le).of_heap (s.kept _ (hv.lt k sl hb).2 (hnw k B sl h1 hb))
 ·intro k k' B B' sl sl' hne h1 h2 h3 h4 h5;rcases(eV' k B).1 h1 with h1|h1
  ·rcases(eV' k' B').1 h2 with h2|h2
   ·exact s.mB.own k k' B B' sl sl' hne h1 h2 h3 h4 h5
   ·have hb:=hold k' sl' (hR _ _ h2).1 h4;intro he;exact hnw k' B' sl' h2 hb (s.back _ (hv.lt k' sl' hb).2 ⟨k,B,sl,h1,h5,h3,he⟩)
  ·have hb:=hold k sl (hR _ _ h1).1 h3;rcases(eV' k' B').1 h2 with h2|h2
   ·rcases s.fresh k' sl' h4 with h6|⟨_,h6|h6⟩
    ·have hlt:=(hv.lt k' sl' h6).1;obtain⟨B₀,h7⟩:=s.keys k' B' h2 (by rw[<-hn];exact hlt);exact hv.own k k' B B₀ sl sl' hne ((eV _ _).2 (.inr h1)) ((eV _ _).2 (.inl h7)) hb h6 h5
    ·have:=(hv.lt k sl hb).2;omega
    grind
   ·exact hv.own k k' B B' sl sl' hne ((eV _ _).2 (.inr h1)) ((eV _ _).2 (.inr h2)) hb (hold k' sl' (hR _ _ h2).1 h4) h5
 ·intro k B hk;rw[hn'];rcases(eV' k B).1 hk with hk|hk
  ·exact s.mB.wf k B hk
  ·exact lt_of_lt_of_le (hR _ _ hk).1 s.next
 ·rintro b hb ⟨k,B,sl,h1,h2,h3,h4⟩;rcases(eV' k B).1 h1 with h1|h1
  ·exact hwr b (s.back b hb ⟨k,B,sl,h1,h2,h3,h4⟩)
  ·exact⟨k,B,sl,(eV _ _).2 (.inr h1),h2,hold k sl (hR _ _ h1).1 h3,h4⟩
 ·intro k sl hk;rcases s.fresh k sl hk with h|⟨h1,h2⟩
  all_goals grind
 ·intro k B hk hlt;rcases(eV' k B).1 hk with hk|hk
  ·obtain⟨B₀,h0⟩:=s.keys k B hk (by rw[<-hn];exact hlt);exact⟨B₀,(eV _ _).2 (.inl h0)⟩
  grind
theorem nj.Mo{β₀:cC}{h₀ V:aa}{w₀ w w':World}(st:Step β₀ h₀ w₀ β V w){B:bO}{f:Nat->Value}{v':Value}(ha:nj β w B f v' w'){k:Nat}(hk:β k=none)(h1:h₀.next<=k)(h2:k<V.next):
  ∃β',Step β₀ h₀ w₀ β' (V.set k B) w'/\az β' (f k) v'/\β.le β'/\∀j,j≠k->β' j=β j:=by
 obtain⟨sl,hb,hnew⟩:=ha.new;have hs:=st.mB;have hle:β.le (β.ext k sl):=cC.za sl hk;obtain⟨hB,hv⟩:=hnew _ k hle (β.bR _ _);have hlt:∀k' sl',β k'=some sl'->sl'.b<w.heap.size:=λk' sl' hk=>(hs.lt k' sl' hk).2;have hsz:=st.size;refine⟨β.ext k sl,⟨cC.le_trans st.le hle,st.next,⟨?_,?_,?_,aa.wf_set hs.wf B h2⟩,by rw[ha.size];omega,ha.os.trans st.os,st.tape.trans ha.tape,ha.output.trans st.output,
  λb hb' hn=>(ha.kept b (by omega)).trans (st.kept b hb' hn),?_,?_,?_⟩,hv,hle,λj hj=>β.du sl hj⟩
 ·intro k' sl' hk';by_cases hkn:k'=k
  ·subst hkn;rw[β.bR]at hk';obtain rfl:=oI hk';exact⟨h2,by rw[ha.size,hb];omega⟩
  ·rw[β.du sl hkn]at hk';have:=hs.lt k' sl' hk';exact⟨this.1,by rw[ha.size];omega⟩
 ·intro k' B' sl' e1 e2;by_cases hkn:k'=k
  ·subst hkn;rw[β.bR]at e2;obtain rfl:=oI e2;rw[V.dg]at e1
   grind
  ·rw[V.bK k k' B hkn]at e1;rw[β.du sl hkn]at e2;exact((hs.blk k' B' sl' e1 e2).mono hle).of_heap (ha.kept _ (hlt k' sl' e2))
 ·intro k₁ k₂ B₁ B₂ sl₁ sl₂ hne e1 e2 e3 e4 e5;by_cases hk1:k₁=k
  ·subst hk1;rw[β.bR]at e3;obtain rfl:=oI e3;rw[β.du sl (Ne.symm hne)]at e4
   grind
  ·by_cases hk2:k₂=k
   ·subst hk2;rw[β.bR]at e4;obtain rfl:=oI e4;rw[β.du sl hne]at e3
    grind
   ·rw[V.bK k k₁ B hk1]at e1;rw[V.bK k k₂ B hk2]at e2;rw[β.du sl hk1]at e3;rw[β.du sl hk2]at e4;exact hs.own k₁ k₂ B₁ B₂ sl₁ sl₂ hne e1 e2 e3 e4 e5
 ·rintro b hb' ⟨k',B',sl',e1,e2,e3,e4⟩;by_cases hkn:k'=k
  ·subst hkn;rw[β.bR]at e3
   grind
  ·rw[V.bK k k' B hkn]at e1;rw[β.du sl hkn]at e3;exact st.back b hb' ⟨k',B',sl',e1,e2,e3,e4⟩
 ·intro k' sl' hk';by_cases hkn:k'=k
  ·subst hkn;rw[β.bR]at hk'
   grind
  ·rw[β.du sl hkn]at hk';exact st.fresh k' sl' hk'
 ·intro k' B' e1 hlt';rw[V.bK k k' B (by omega)]at e1;exact st.keys k' B' e1 hlt'
end
section
variable {P:Program} {ρ ρ':Operand->Value}
theorem VP{l:List (Nat×Operand)}(h:∀x∈l.map (·.2),ρ x=ρ' x):l.map (λp=>(p.1,ρ p.2))=l.map (λp=>(p.1,ρ' p.2)):=
 map_congr_left λp hp=>by grind
theorem Yi{r:Option Operand}(h:∀x∈r.toList,ρ x=ρ' x):r.map ρ=r.map ρ':=by
 cases r with
 |none=>rfl
 |some x=>grind
theorem XT{l:List (Nat×Operand)}(h:∀x∈l.map (·.2),ρ x=ρ' x)(q:Value->Bool):(l.all λp=>q (ρ p.2))=l.all λp=>q (ρ' p.2):=by grind
theorem Dt{o:Oper}(h:∀x∈o.op.operands,ρ x=ρ' x):aT P ρ o=aT P ρ' o:=by
 obtain⟨dst,op,ty,pos,after,guard⟩:=o
 cases op
 case call c=>
  obtain⟨callee,args,ats⟩:=c
  cases callee with
  |builtin b=>
   have ha:args.toList.map ρ=args.toList.map ρ':=map_congr_left λx hx=>h x (by simpa[Op.operands,Call.operands]using hx)
   cases b<;>simp only[aT,ha]
   split
   ·next x t hx ht=>rw[h x (by simp[Op.operands,Call.operands];exact Array.mem_of_getElem? hx)]
   ·rfl
  |_=>rfl
 all_goals first
  |rfl
  |(simp only[Op.operands,Array.mem_append,List.mem_toArray,mem_cons,List.not_mem_nil,or_false,forall_eq_or_imp,forall_eq]at h;simp only[aT,h];done)
  |skip
 case build t ps=>
  simp only[aT];rw[VP λx hx=>h x (by simpa[Op.operands]using hx)]
 grind[Array.map_congr_left,Op.operands,aT]
theorem Du{o:Oper}{hp:aa}(h:∀x∈o.op.operands,ρ x=ρ' x):aY P ρ o hp=aY P ρ' o hp:=by
 obtain⟨dst,op,ty,pos,after,guard⟩:=o
 cases op
 case call c=>
  obtain⟨callee,args,ats⟩:=c
  cases callee with
  |builtin b=>
   cases b<;>simp only[aY]
   split
   ·next x t hx ht=>rw[h x (by simp[Op.operands,Call.operands];exact Array.mem_of_getElem? hx)]
   ·rfl
  |_=>rfl
 all_goals first
  |rfl
  |(simp only[Op.operands,Array.mem_append,List.mem_toArray,mem_cons,List.not_mem_nil,or_false,forall_eq_or_imp,forall_eq]at h;simp only[aY,h];done)
  |skip
 grind[Yi,Op.operands,aY]
theorem AS{o:Oper}(h:∀x∈o.op.operands,ρ x=ρ' x):aS P ρ o=aS P ρ' o:=by
 obtain⟨dst,op,ty,pos,after,guard⟩:=o
 cases op
 all_goals first
  |rfl
  |(simp only[Op.operands,List.mem_toArray,mem_cons,List.not_mem_nil,or_false,forall_eq_or_imp,forall_eq]at h;simp only[aS,h];done)
  |skip
 case buildSlice t len ps=>
  have hm:∀x∈ps.toList.map (·.2),ρ x=ρ' x:=λx hx=>h x (by simpa[Op.operands]using hx);simp only[aS];rw[VP hm,XT hm]
 grind[aS,Op.operands]
theorem F4{cf:bM}{o:Oper}{hp:aa}(h:∀x∈o.op.operands,ρ x=ρ' x):cY P cf ρ o hp=cY P cf ρ' o hp:=by
 obtain⟨dst,op,ty,pos,after,guard⟩:=o
 cases op
 case call c=>
  obtain⟨callee,args,ats⟩:=c
  cases callee with
  | builtin b=>
   have ha:args.toList.map ρ=args.toList.map ρ':=map_congr_left λx hx=>h x (by simpa[Op.operands,Call.operands]using hx)
   cases b<;>simp only[cY,ha]
   all_goals
    split
    ·next s x t t' hx ht=>
     have h1:∀y∈args.toList,ρ y=ρ' y:=λy hy=>h y (by simpa[Op.operands,Call.operands]using hy);rw[hx]at h1;rw[h1 s (by simp),h1 x (by simp)]
    ·rfl
  |value f=>
   have ha:args.toList.map ρ=args.toList.map ρ':=map_congr_left λx hx=>h x (by simp[Op.operands,Call.operands];right;simpa using hx);simp only[cY,ha,h f (by simp[Op.operands,Call.operands])]
  |_=>rfl
 all_goals simp_all[Op.operands,cY]
end
end Go.Ab
end
section
namespace Go.Ab
open Go Region
structure CJ(ops:Array Oper)(L:List Nat):Prop where
 mem:∀i,i∈L↔i<ops.size
 nodup:L.Nodup
 X2:∀pre i suf,L=pre++i::suf->∀o,ops[i]?=some o->∀e∈o.after,binds .any e=true->e.on∈pre
theorem J8{m:Region.Mode}{e:Edge}(h:binds .any e=true):binds m e=true:=by grind[binds]
def may(m:Region.Mode)(ops:Array Oper)(listed:Array Bool)(i:Nat):Prop:=
 listed.getD i true=false/\∃o,ops[i]?=some o/\∀e∈o.after,binds m e=true->listed.getD e.on false=true
theorem sg{m:Region.Mode}{ops:Array Oper}{listed:Array Bool}{i:Nat}:
  i∈(List.range ops.size).filter (λi=> !listed.getD i true&&((ops[i]?).map (·.after.all λe=> !binds m e||listed.getD e.on false)).getD false)↔i<ops.size/\may m ops listed i:=by
 simp only[mem_filter,mem_range,and_eq_true,not_eq_true',may]
 grind[Array.all_eq_true']
def left(ops:Array Oper)(listed:Array Bool):List Nat:=(List.range ops.size).filter λi=> !listed.getD i true
theorem yU{l:Array Bool}{i j:Nat}(d:Bool)(hi:i<l.size):(l.setIfInBounds i true).getD j d=if j=i then true else l.getD j d:=by
 simp only[Array.getD_eq_getD_getElem?,Array.getElem?_setIfInBounds]
 grind
theorem Fs(m:Region.Mode)(ops:Array Oper):
  ∀(fuel t:Nat)(listed:Array Bool)(acc:List Nat),listed.size=ops.size->(∀i,i∈acc↔i<ops.size/\listed.getD i true=true)->acc.Nodup->
   (∀pre i suf,acc.reverse=pre++i::suf->∀o,ops[i]?=some o->∀e∈o.after,binds m e=true->e.on∈pre)->
   let L:=linearise.go m ops fuel t listed acc
   (∀i,i∈L->i<ops.size)/\L.Nodup/\∀pre i suf,L=pre++i::suf->∀o,ops[i]?=some o->∀e∈o.after,binds m e=true->e.on∈pre
 |0,t,listed,acc,hs,ha,hn,hd=>by grind[linearise.go]
 | fuel+1,t,listed,acc,hs,ha,hn,hd=>by
  simp only[linearise.go];split
  ·next i hi=>
   have hi:=List.mem_of_getElem? hi;obtain⟨hib,hfree,o,ho,hdep⟩:=sg.1 hi;have hisz:i<listed.size:=by omega
   have hia:i∉acc:=λh=>by have:=((ha i).1 h).2;rw[hfree]at this;cases this
   have hdep':∀e∈o.after,binds m e=true->e.on∈acc.reverse:=λe he hb=>by
    rw[List.mem_reverse,ha];have hl:=hdep e he hb;have:e.on<listed.size:=by
     rcases lt_or_ge e.on listed.size with h5|h5
     ·exact h5
     ·simp[Array.getD_eq_getD_getElem?,Array.getElem?_eq_none h5]at hl
    exact⟨by omega,by simp only[Array.getD_eq_getD_getElem?,getElem?_eq_getElem this]at hl⊢;exact hl⟩
   refine Fs m ops fuel (t/_) (listed.setIfInBounds i true) (i::acc) (by simpa using hs) ?_ (nodup_cons.2 ⟨hia,hn⟩) ?_
   ·intro j;rw[mem_cons,ha,yU _ hisz];constructor
    ·rintro(rfl|⟨h3,h4⟩)
     ·exact⟨hib,by simp⟩
     ·exact⟨h3,by split<;>simp_all⟩
    ·rintro⟨h3,h4⟩;split at h4
     ·next he=>exact .inl he
     ·exact .inr ⟨h3,h4⟩
   ·intro pre j suf heq o' ho' e he hb;rw[List.reverse_cons]at heq;rcases List.append_eq_append_iff.1 heq with⟨as,h3,h4⟩|⟨bs,h3,h4⟩
    ·cases as with
     |nil=>
      simp only[List.nil_append,List.cons.injEq]at h4;obtain⟨rfl,rfl⟩:=h4;rw[ho]at ho';obtain rfl:=oI ho';rw[h3,append_nil];exact hdep' e he hb
     |cons a as=>
      simp only[List.cons_append,List.cons.injEq]at h4;obtain⟨_,h4⟩:=h4;have:=congrArg List.length h4;simp at this
    ·cases bs with
     |nil=>
      simp only[List.nil_append,List.cons.injEq]at h4;obtain⟨rfl,rfl⟩:=h4;rw[ho]at ho';obtain rfl:=oI ho';have h3':pre=acc.reverse:=by simpa using h3.symm
      rw[h3'];exact hdep' e he hb
     |cons b bs=>
      simp only[List.cons_append,List.cons.injEq]at h4;obtain⟨rfl,_⟩:=h4;exact hd pre j bs h3 o' ho' e he hb
  grind
theorem Nn(m:Region.Mode)(ops:Array Oper)(prog:∀listed:Array Bool,listed.size=ops.size->(∃i,i<ops.size/\listed.getD i true=false)->∃i,i<ops.size/\may m ops listed i):
  ∀(fuel t:Nat)(listed:Array Bool)(acc:List Nat),listed.size=ops.size->(left ops listed).length<=fuel->(∀i,i<ops.size->listed.getD i true=true->i∈acc)->
   ∀i,i<ops.size->i∈linearise.go m ops fuel t listed acc
 |0,t,listed,acc,hs,hl,ha=>λi h=>by simp_all[linearise.go,left]
 | fuel+1,t,listed,acc,hs,hl,ha=>by
  simp only[linearise.go];split
  ·next i hi=>
   have hi:=List.mem_of_getElem? hi;obtain⟨hib,hfree,_⟩:=sg.1 hi;have hisz:i<listed.size:=by omega
   refine Nn m ops prog fuel (t/_) (listed.setIfInBounds i true) (i::acc) (by grind) ?_ ?_
   ·have hsub:∀j,j∈left ops (listed.setIfInBounds i true)->j∈left ops listed/\j≠i:=by
     intro j hj;simp only[left,mem_filter,mem_range,not_eq_true',yU _ hisz]at hj⊢;split at hj
     ·exact absurd hj.2 (by simp)
     ·next hne=>exact⟨hj,hne⟩
    have him:i∈left ops listed:=mem_filter.2 ⟨mem_range.2 hib,by rw[hfree];rfl⟩;have hnd:(left ops (listed.setIfInBounds i true)).Nodup:=List.Pairwise.filter _ List.nodup_range;have:(left ops (listed.setIfInBounds i true)).length<=((left ops listed).erase i).length:=by
     refine List.Nodup.length_le_of_subset hnd λj hj=>?_;obtain⟨h3,h4⟩:=hsub j hj;exact(List.mem_erase_of_ne h4).2 h3
    grind
   ·intro j hj hg;rw[yU _ hisz]at hg
    grind
  ·next hnone=>
   intro i hi;rw[List.mem_reverse]
   cases hg:listed.getD i true with
   |true=>grind
   |false=>
    obtain⟨i0,h1,h2⟩:=prog listed hs ⟨i,hi,hg⟩;have hmem:=sg.2 ⟨h1,h2⟩
    grind[Nat.mod_lt]
theorem FF(ops:Array Oper)(listed:Array Bool):(left ops listed).length<=ops.size:=by grind[left]
theorem BO(m:Region.Mode)(ops:Array Oper)(t:Nat):
  (∀i,i∈linearise m ops t->i<ops.size)/\(linearise m ops t).Nodup/\∀pre i suf,linearise m ops t=pre++i::suf->∀o,ops[i]?=some o->∀e∈o.after,binds m e=true->e.on∈pre:=by
 refine Fs m ops ops.size t _ [] (by simp) (λi=>?_) List.nodup_nil (λpre i suf h=>by simp at h)
 simp_all
theorem QG(m:Region.Mode)(ops:Array Oper)(t:Nat)(prog:∀listed:Array Bool,listed.size=ops.size->(∃i,i<ops.size/\listed.getD i true=false)->∃i,i<ops.size/\may m ops listed i):
  ∀i,i<ops.size->i∈linearise m ops t:=by
 refine Nn m ops prog ops.size t _ [] (by simp) (FF _ _) λi hi hg=>?_
 simp_all
def GV(ops:Array Oper):Prop:=∀i o,ops[i]?=some o->∀e∈o.after,e.on<i\/binds .any e=false/\binds .text e=false
theorem least{p:Nat->Prop}[DecidablePred p]:∀(n:Nat),(∃i,i<n/\p i)->∃i,i<n/\p i/\∀j,j<i->¬p j
 |0,⟨_,h,_⟩=>absurd h (by omega)
 |n+1,h=>by
  by_cases h':∃i,i<n/\p i
  ·obtain⟨i,h1,h2,h3⟩:=least n h';exact⟨i,by omega,h2,h3⟩
  grind
theorem B0{m:Region.Mode}{ops:Array Oper}(hb:∀i o,ops[i]?=some o->∀e∈o.after,binds m e=true->e.on<i):
  ∀listed:Array Bool,listed.size=ops.size->(∃i,i<ops.size/\listed.getD i true=false)->∃i,i<ops.size/\may m ops listed i:=by
 intro listed hs hex;obtain⟨i,h1,h2,h3⟩:=least ops.size hex;refine⟨i,h1,h2,ops[i],getElem?_eq_getElem h1,λe he hbe=>?_⟩
 grind
theorem Fg{p:Nat->Prop}[DecidablePred p]:∀(L:List Nat),(∃i∈L,p i)->∃pre i suf,L=pre++i::suf/\p i/\∀j∈pre,¬p j
 |[],⟨_,h,_⟩=>by cases h
 | x::L,h=>by
  by_cases hx:p x
  ·exact⟨[],x,L,rfl,hx,λj hj=>by grind⟩
  ·obtain⟨i,h1,h2⟩:=h;rcases mem_cons.1 h1 with rfl|h1
   ·grind
   ·obtain⟨pre,j,suf,rfl,h3,h4⟩:=Fg L ⟨i,h1,h2⟩
    grind
theorem K6{m:Region.Mode}{ops:Array Oper}(hc:(linearise m ops 0).length=ops.size):
  ∀listed:Array Bool,listed.size=ops.size->(∃i,i<ops.size/\listed.getD i true=false)->∃i,i<ops.size/\may m ops listed i:=by
 intro listed hs hex;obtain⟨h1,h2,h3⟩:=BO m ops 0;have hall:∀i,i<ops.size->i∈linearise m ops 0:=by
  intro i hi;refine Classical.byContradiction λhn=>?_;have hnd:(i::linearise m ops 0).Nodup:=nodup_cons.2 ⟨hn,h2⟩;have:=List.Nodup.length_le_of_subset (l₂:=List.range ops.size) hnd λj hj=>by
   rcases mem_cons.1 hj with rfl|hj
   ·exact mem_range.2 hi
   ·exact mem_range.2 (h1 j hj)
  simp at this;omega
 obtain⟨i,hi,hf⟩:=hex;obtain⟨pre,j,suf,heq,h4,h5⟩:=Fg (p:=λi=>listed.getD i true=false) _ ⟨i,hall i hi,hf⟩;have hj:j<ops.size:=h1 j (by rw[heq];simp);refine⟨j,hj,h4,ops[j],getElem?_eq_getElem hj,λe he hbe=>?_⟩;have hm:=h3 pre j suf heq _ (getElem?_eq_getElem hj) e he hbe
 grind
theorem rL{ops:Array Oper}(hb:GV ops)(hc:departs ops=true->(linearise .gc ops 0).length=ops.size)(mixed:Bool)(t:Nat):CJ ops (schedule mixed ops t):=by
 have key:∀(m:Region.Mode)(t:Nat),(∀listed:Array Bool,listed.size=ops.size->(∃i,i<ops.size/\listed.getD i true=false)->∃i,i<ops.size/\may m ops listed i)->CJ ops (linearise m ops t):=by
  intro m t hp;obtain⟨h1,h2,h3⟩:=BO m ops t;exact⟨λi=>⟨h1 i,QG m ops t hp i⟩,h2,λpre i suf h o ho e he hbe=>h3 pre i suf h o ho e he (J8 hbe)⟩
 have hany:∀i o,ops[i]?=some o->∀e∈o.after,binds .any e=true->e.on<i:=λi o ho e he hbe=>by
  rcases hb i o ho e he with h|⟨h,_⟩
  all_goals grind
 have htext:∀i o,ops[i]?=some o->∀e∈o.after,binds .text e=true->e.on<i:=λi o ho e he hbe=>by
  rcases hb i o ho e he with h|⟨_,h⟩
  all_goals grind
 unfold schedule;split
 ·exact key _ _ (B0 hany)
 ·next hd=>
  split
  ·exact key _ _ (B0 htext)
  ·refine key _ _ (K6 (hc ?_))
   grind
end Go.Ab
end
section
namespace Go.Ab
open Go
section
variable {P:Program} {gl:Nat->Bool}
theorem qA{e:Value->Value->Bool}(he:∀a b,e a b=true->a=b):∀{x y:List Value},Jc e x y=true->x=y
 |[],[],_=>rfl
 |[],_::_,h=>by grind[Jc]
 |_::_,[],h=>by grind[Jc]
 |a::x,b::y,h=>by
  simp only[Jc,and_eq_true]at h;rw[he a b h.1,qA he h.2]
theorem lE:∀(d:Nat)(a b:Value),mq d a b=true->a=b
 |0,_,_,h=>by grind[mq]
 | d+1,a,b,h=>by
  have ih:=lE d;have hl:∀{x y:Array Value},Jc (mq d) x.toList y.toList=true->x=y:=λhxy=>Array.ext' (qA ih hxy);unfold mq at h;split at h
  ·simpa using h
  ·simp only[and_eq_true,decide_eq_true_eq]at h;rw[h.1,h.2]
  ·next x y=>
   simp only[decide_eq_true_eq]at h;have:x=y:=by
    obtain⟨x⟩:=x;obtain⟨y⟩:=y;congr 1;exact Array.ext' h
   rw[this]
  all_goals grind
structure x7(ops:Array Oper)(bf:Nat->Nat->Bool):Prop where
 lt:∀j i,bf j i=true->i<j
 trans:∀k j i,bf k j=true->bf j i=true->bf k i=true
 LR:∀L,CJ ops L->∀pre j suf,L=pre++j::suf->∀i,bf j i=true->i∈pre
 names:∀(j:Nat)(o:Oper)(t:Tmp),ops[j]?=some o->Operand.tmp t∈o.op.operands->∀(i:Nat)(o':Oper),ops[i]?=some o'->o'.dst=some t->i=j\/bf j i=true\/bf i j=true
 guards:∀(j:Nat)(o:Oper)(i:Nat)(b:Bool),ops[j]?=some o->o.guard=some (i,b)->bf j i=true
 uniq:∀(i j:Nat)(o o':Oper)(t:Tmp),ops[i]?=some o->ops[j]?=some o'->o.dst=some t->o'.dst=some t->i=j
abbrev GW:=List Value×aa×List (Nat×bO)
def One(P:Program)(gl:Nat->Bool)(cf:bM)(ops:Array Oper)(bf:Nat->Nat->Bool)(base j:Nat)(o:Oper)(s:GW)(e:kA)(s':GW):Prop:=
 match e with
 |.skip=>eC ops s.1 o=some false/\s'=(fO s.1 o.dst undef,s.2.1,s.2.2)
 |.pure v=>eC ops s.1 o=some true/\aT P (ev gl s.1) o=some v/\s'=(fO s.1 o.dst v,s.2.1,s.2.2)
 |.read v=>eC ops s.1 o=some true/\aY P (ev gl s.1) o s.2.1=some v/\s'=(fO s.1 o.dst v,s.2.1,s.2.2)
 |.alloc B v=>eC ops s.1 o=some true/\(∃f,aS P (ev gl s.1) o=some (B,f)/\v=f (base+j))/\s'=(fO s.1 o.dst v,s.2.1,(j,B)::s.2.2)
 | .rB v h'=>eC ops s.1 o=some true/\(∃u,cY P cf (ev gl s.1) o (bj s.2.1 base (s.2.2.filter λp=>bf j p.1))=some (v,u)/\h'=u.app (bj s.2.1 base (s.2.2.filter λp=>bf j p.1)))/\
   s'=(fO s.1 o.dst v,h',s.2.2.filter λp=> !bf j p.1)
theorem px{cf:bM}{ops:Array Oper}{bf:Nat->Nat->Bool}{base:Nat}:∀(rest:List Oper)(j:Nat)(s:GW)(recs:List (List Value×kA))(out:GW),
  cV P gl cf ops bf base rest j s.1 s.2.1 s.2.2=some (recs,out)->∃(st:Nat->GW)(en:Nat->kA),st j=s/\st (j+rest.length)=out/\recs.length=rest.length/\
   ∀i o,rest[i]?=some o->One P gl cf ops bf base (j+i) o (st (j+i)) (en (j+i)) (st (j+i+1))/\recs[i]?=some ((st (j+i)).1,en (j+i))
 |[],j,s,recs,out,h=>by
  simp only[cV,Option.some.injEq,Prod.mk.injEq]at h;obtain⟨rfl,rfl⟩:=h;exact⟨λ_=>s,λ_=> .skip,rfl,rfl,rfl,λi o ho=>by grind⟩
 | o::rest,j,s,recs,out,h=>by
  have key:∀(e:kA)(s':GW)(r:List (List Value×kA)×GW),One P gl cf ops bf base j o s e s'->cV P gl cf ops bf base rest (j+1) s'.1 s'.2.1 s'.2.2=some r->((s.1,e)::r.1,r.2)=(recs,out)->
    ∃(st:Nat->GW)(en:Nat->kA),st j=s/\st (j+(o::rest).length)=out/\recs.length=(o::rest).length/\
     ∀i o',(o::rest)[i]?=some o'->One P gl cf ops bf base (j+i) o' (st (j+i)) (en (j+i)) (st (j+i+1))/\recs[i]?=some ((st (j+i)).1,en (j+i)):=by
   intro e s' r hone hr heq;obtain⟨st,en,h1,h2,h3,h4⟩:=px rest (j+1) s' r.1 r.2 hr;simp only[Prod.mk.injEq]at heq;obtain⟨rfl,rfl⟩:=heq;refine⟨λi=>if i=j then s else st i,λi=>if i=j then e else en i,by simp,?_,by grind,?_⟩
   ·grind
   ·grind
  simp only[cV]at h;split at h
  ·cases h
  ·next hw=>
   obtain⟨r,hr,he⟩:=map_eq_some_iff.1 h;exact key .skip (fO s.1 o.dst undef,s.2.1,s.2.2) r ⟨hw,rfl⟩ hr he
  ·next hw=>
   split at h
   ·next v hv=>
    obtain⟨r,hr,he⟩:=map_eq_some_iff.1 h;exact key (.pure v) (fO s.1 o.dst v,s.2.1,s.2.2) r ⟨hw,hv,rfl⟩ hr he
   ·split at h
    ·next v hv=>
     obtain⟨r,hr,he⟩:=map_eq_some_iff.1 h;exact key (.read v) (fO s.1 o.dst v,s.2.1,s.2.2) r ⟨hw,hv,rfl⟩ hr he
    ·split at h
     ·next B f hv=>
      obtain⟨r,hr,he⟩:=map_eq_some_iff.1 h;exact key (.alloc B (f (base+j))) (fO s.1 o.dst (f (base+j)),s.2.1,(j,B)::s.2.2) r ⟨hw,⟨f,hv,rfl⟩,rfl⟩ hr he
     ·split at h
      ·next v u hv=>
       obtain⟨r,hr,he⟩:=map_eq_some_iff.1 h;exact key (.rB v _) (fO s.1 o.dst v,_,_) r ⟨hw,⟨u,hv,rfl⟩,rfl⟩ hr he
      grind
def kA.dY:kA->Bool
 |.rB .. =>true
 |_=>false
structure I3(P:Program)(gl:Nat->Bool)(cf:bM)(ops:Array Oper)(bf:Nat->Nat->Bool)(base:Nat)(st:Nat->GW)(en:Nat->kA):Prop where
 one:∀i o,ops[i]?=some o->One P gl cf ops bf base i o (st i) (en i) (st (i+1))
 chain:∀e₁ e₂,e₁<e₂->e₂<ops.size->(en e₁).dY=true->(en e₂).dY=true->bf e₂ e₁=true
 reads:∀j o v,ops[j]?=some o->en j = .read v->∀c,c<=ops.size->(∀e,e<c->(en e).dY=true->bf e j=false)->(∀e,c<=e->e<ops.size->(en e).dY=true->bf j e=false)->
  aY P (ev gl (st j).1) o (st c).2.1=some v
section
variable {cf:bM} {ops:Array Oper} {bf:Nat->Nat->Bool} {base:Nat} {st:Nat->GW} {en:Nat->kA}
theorem One.heap{j:Nat}{o:Oper}{s s':GW}{e:kA}(h:One P gl cf ops bf base j o s e s'):(∀v h',e = .rB v h'->s'.2.1=h')/\(e.dY=false->s'.2.1=s.2.1):=by
 cases e<;>simp only[One]at h
 all_goals grind[kA.dY]
theorem One.tm{j:Nat}{o:Oper}{s s':GW}{e:kA}(h:One P gl cf ops bf base j o s e s'):s'.1=fO s.1 o.dst e.val:=by
 cases e<;>simp only[One]at h
 ·rw[h.2];rfl
 ·rw[h.2.2];rfl
 ·rw[h.2.2];rfl
 ·rw[h.2.2];rfl
 ·rw[h.2.2];rfl
theorem nC(trans:∀k j i,bf k j=true->bf j i=true->bf k i=true):∀(recs:List (List Value×kA))(i x:Nat)(hx:aa),chained bf ((x,hx)::dz recs i)=true->
  ∀k r,recs[k]?=some r->r.2.dY=true->bf (i+k) x=true
 |[],i,x,hx,h,k,r,hr,he=>by grind
 | (tm,e)::recs,i,x,hx,h,k,r,hr,he=>by
  cases e with
  | rB v h'=>
   simp only[dz,chained,and_eq_true]at h
   cases k with
   |zero=>grind
   |succ k=>
    have:=nC trans recs (i+1) i h' h.2 k r (by simpa using hr) he
    grind
  | _=>
   simp only[dz]at h
   cases k with
   |zero=>grind[kA.dY]
   |succ k=>
    have:=nC trans recs (i+1) x hx h k r (by simpa using hr) he
    grind
theorem CO{x:Nat×aa}{l:List (Nat×aa)}(h:chained bf (x::l)=true):chained bf l=true:=by
 cases l with
 |nil=>rfl
 |cons y l=>simp_all[chained]
theorem rA(trans:∀k j i,bf k j=true->bf j i=true->bf k i=true):∀(recs:List (List Value×kA))(i:Nat),chained bf (dz recs i)=true->
  ∀k₁ k₂ r₁ r₂,k₁<k₂->recs[k₁]?=some r₁->recs[k₂]?=some r₂->r₁.2.dY=true->r₂.2.dY=true->bf (i+k₂) (i+k₁)=true
 |[],i,h,k₁,k₂,r₁,r₂,hlt,h1,h2,e1,e2=>by grind
 | (tm,e)::recs,i,h,k₁,k₂,r₁,r₂,hlt,h1,h2,e1,e2=>by
  cases k₂ with
  |zero=>omega
  | succ k₂=>
   have h2':recs[k₂]?=some r₂:=by simpa using h2
   cases k₁ with
   |zero=>
    simp only[List.getElem?_cons_zero,Option.some.injEq]at h1;subst h1
    cases e with
    |rB v h'=>grind[nC,dz]
    |_=>grind[kA.dY]
   | succ k₁=>
    have ht:chained bf (dz recs (i+1))=true:=by
     cases e with
     |rB v h'=>simp only[dz]at h;exact CO h
     |_=>simpa only[dz]using h
    have:=rA trans recs (i+1) ht k₁ k₂ r₁ r₂ (by omega) (by simpa using h1) h2' e1 e2
    grind
theorem pZ{o:Oper}{tm:List Value}{v:Value}{h:aa}(hs:ij P gl o tm v h=true):aY P (ev gl tm) o h=some v:=by grind[lE,ij]
theorem lh{j:Nat}{o:Oper}{tm:List Value}{v:Value}{N:Nat}(hj:j<N)(hown:∀c,c<=N->(∀e,j<=e->e<c->(en e).dY=false)->(∀e,c<=e->e<j->(en e).dY=false)->aY P (ev gl tm) o (st c).2.1=some v):
  ∀(recs:List (List Value×kA))(i:Nat)(own:Bool),(∀k r,recs[k]?=some r->r.2=en (i+k))->i+recs.length=N->
  (∀k,i<=k->k<i+recs.length->(∀v h',en k = .rB v h'->(st (k+1)).2.1=h')/\((en k).dY=false->(st (k+1)).2.1=(st k).2.1))->
  (own=true->∀e,j<=e->e<i->(en e).dY=false)->
  jC P gl bf j o tm v (st i).2.1 (dz recs i) own=true->∀c,i<=c->c<=i+recs.length->(∀e,i<=e->e<c->(en e).dY=true->bf e j=false)->
  (∀e,c<=e->e<i+recs.length->(en e).dY=true->bf j e=false)->aY P (ev gl tm) o (st c).2.1=some v
 |[],i,own,hen,hN,hst,hp,h,c,h1,h2,h3,h4=>by
  simp only[dz,jC,Bool.or_eq_true]at h;simp only[length_nil]at h2 hN
  grind[pZ]
 | (tm',e)::recs,i,own,hen,hN,hst,hp,h,c,h1,h2,h3,h4=>by
  simp only[length_cons]at h2 h4 hst hN;have he:e=en i:=hen 0 (tm',e) rfl;have hen':∀k r,recs[k]?=some r->r.2=en (i+1+k):=λk r hr=>by
   rw[show i+1+k=i+(k+1) by omega];exact hen (k+1) r (by grind)
  have hst':∀k,i+1<=k->k<i+1+recs.length->_:=λk hk1 hk2=>hst k (by omega) (by omega)
  cases hef:e.dY with
  | true=>
   cases e with
   | rB u h'=>
    simp only[dz,jC,and_eq_true,Bool.or_eq_true]at h;have hi:=(hst i (by omega) (by omega)).1 u h' he.symm;by_cases hc:c=i
    ·grind[blt_eq,pZ]
    ·rcases h.2 with h5|h5
     ·grind
     ·rw[<-hi]at h5;refine lh hj hown recs (i+1) _ hen' (by omega) hst' ?_ h5 c (by omega) (by omega) (λe he1 he2=>h3 e (by omega) he2) (λe he1 he2=>h4 e he1 (by omega))
      grind[blt_eq]
   |_=>grind[kA.dY]
  | false=>
   have hi:=(hst i (by omega) (by omega)).2 (by grind);have h5:jC P gl bf j o tm v (st (i+1)).2.1 (dz recs (i+1)) own=true:=by
    rw[hi]
    cases e with
    |rB u h'=>grind[kA.dY]
    |_=>grind[dz]
   have hp':own=true->∀e,j<=e->e<i+1->(en e).dY=false:=λho e' he1 he2=>by grind
   by_cases hc:c=i
   ·subst hc;rw[<-hi];exact lh hj hown recs (c+1) own hen' (by omega) hst' hp' h5 (c+1) (by omega) (by omega) (λe he1 he2=>by omega) (λe he1 he2=>h4 e (by omega) (by omega))
   ·exact lh hj hown recs (i+1) own hen' (by omega) hst' hp' h5 c (by omega) (by omega) (λe he1 he2=>h3 e (by omega) he2) (λe he1 he2=>h4 e he1 (by omega))
theorem rJ{hp:aa}{es:List (Nat×aa)}:∀(os:List Oper)(recs:List (List Value×kA))(j:Nat),fP P gl bf hp es os recs j=true->
  ∀(i:Nat)(o:Oper)(tm:List Value)(v:Value),os[i]?=some o->recs[i]?=some (tm,.read v)->jC P gl bf (j+i) o tm v hp es true=true
 |[],_,_,_,i,o,tm,v,ho,_=>by grind
 |_::_,[],_,_,i,o,tm,v,_,hr=>by grind
 | o'::os,(tm',e)::recs,j,h,i,o,tm,v,ho,hr=>by
  have ht:fP P gl bf hp es os recs (j+1)=true:=by
   cases e<;>simp only[fP,and_eq_true]at h<;>first|exact h|grind
  cases i with
  |zero=>simp_all[fP]
  |succ i=>
   have:=rJ os recs (j+1) ht i o tm v (by simpa using ho) (by simpa using hr)
   grind
theorem EW(hO:x7 ops bf){tm tm':List Value}{h h':aa}(hr:qx P gl cf ops bf tm h=some (tm',h')):
  ∃st en,I3 P gl cf ops bf h.next st en/\st 0=(tm,{ h with next:=h.next+ops.size },[])/\(st ops.size).1=tm'/\h'=bj (st ops.size).2.1 h.next (st ops.size).2.2:=by
 unfold qx at hr;split at hr
 ·next recs tm2 h2 pd hd=>
  split at hr
  ·next hck=>
   simp only[and_eq_true]at hck;simp only[Option.some.injEq,Prod.mk.injEq]at hr;obtain⟨rfl,rfl⟩:=hr;obtain⟨st,en,h1,h2',h3,h4⟩:=px (P:=P) (gl:=gl) (cf:=cf) ops.toList 0 (tm,{ h with next:=h.next+ops.size },[]) recs (tm2,h2,pd) hd;simp only[zero_add,length_toList,getElem?_toList]at h2' h3 h4;refine⟨st,en,⟨λi o ho=>(h4 i o ho).1,?_,?_⟩,h1,by rw[h2'],by rw[h2']⟩
   ·intro e₁ e₂ hlt hsz i1 i2;have:=rA hO.trans recs 0 hck.1 e₁ e₂ _ _ hlt (h4 e₁ _ (getElem?_eq_getElem (by omega))).2 (h4 e₂ _ (getElem?_eq_getElem hsz)).2 i1 i2;simpa using this
   ·intro j o v ho hen c hc hb1 hb2;have hrec:=(h4 j o ho).2;rw[hen]at hrec;have h5:=rJ ops.toList recs 0 hck.2 j o _ v (by simpa using ho) hrec;rw[zero_add]at h5;have h0:(st 0).2.1={ h with next:=h.next+ops.size }:=by rw[h1]
    rw[<-h0]at h5;have hheap:∀c d,c+d<=ops.size->(∀e,c<=e->e<c+d->(en e).dY=false)->(st (c+d)).2.1=(st c).2.1:=by
     intro c d
     induction d with
     |zero=>intros;rfl
     |succ d ih=>
      intro hs hn;have:=((h4 (c+d) _ (getElem?_eq_getElem (by omega))).1).heap.2 (hn (c+d) (by omega) (by omega));rw[show c+(d+1)=c+d+1 by omega,this];exact ih (by omega) λe he1 he2=>hn e he1 (by omega)
    have hjs:j<ops.size:=(Array.getElem?_eq_some_iff.1 ho).1;have hone:=(h4 j o ho).1;rw[hen]at hone;simp only[One]at hone;refine lh (st:=st) (en:=en) hjs ?_ recs 0 true (λk r hk=>by
      have hlt:k<ops.size:=by rw[<-h3];exact(List.getElem?_eq_some_iff.1 hk).1
      have:=(h4 k _ (getElem?_eq_getElem hlt)).2;rw[this]at hk;obtain rfl:=oI hk;simp) (by omega)
     (λk _ hk=>by
      have hlt:k<ops.size:=by omega
      exact((h4 k _ (getElem?_eq_getElem hlt)).1).heap) (λ_ e _ he=>by omega) h5 c (by omega) (by omega) (λe _=>hb1 e) (λe he1 he2=>hb2 e he1 (by omega))
    intro c hc hn1 hn2;rcases lt_or_ge j c with hlt|hge
    ·have:=hheap j (c-j) (by omega) λe he1 he2=>hn1 e he1 (by omega);rw[show j+(c-j)=c by omega]at this;rw[this];exact hone.2.1
    ·have:=hheap c (j-c) (by omega) λe he1 he2=>hn2 e he1 (by omega);rw[show c+(j-c)=j by omega]at this;rw[<-this];exact hone.2.1
  ·cases hr
 grind
end
end
section
variable {P:Program} {gl:Nat->Bool}
theorem lS{h:aa}{base:Nat}:∀(R:List (Nat×bO)),(∀i B B',(i,B)∈R->(i,B')∈R->B=B')->(∀i B,(i,B)∈R->h.get (base+i)=none)->
  ∀k B,(bj h base R).get k=some B↔h.get k=some B\/ ∃i,k=base+i/\(i,B)∈R
 |[],_,_,k,B=>by simp[bj]
 |(j,B₀)::R,hf,hn,k,B=>by
  have ih:=lS R (λi B B' h1 h2=>hf i B B' (List.mem_cons_of_mem _ h1) (List.mem_cons_of_mem _ h2)) (λi B h1=>hn i B (List.mem_cons_of_mem _ h1)) k B;simp only[bj,aa.aX]
  grind
theorem fy{h:aa}{base:Nat}:∀(R:List (Nat×bO)),(bj h base R).next=h.next
 |[]=>rfl
 |_::R=>fy R
theorem jl(tm:List Value)(d:Option Tmp)(v:Value):(fO tm d v).length=tm.length:=by cases d<;>simp[fO]
theorem DD{tm:List Value}{d:Option Tmp}{v:Value}{t:Tmp}(h:d≠some t):(fO tm d v)[t]?=tm[t]?:=by
 cases d with
 |none=>rfl
 |some d=>simp_all[fO]
theorem B9{tm:List Value}{v:Value}{t:Tmp}(h:t<tm.length):(fO tm (some t) v)[t]?=some v:=by grind[fO]
section
variable {cf:bM} {ops:Array Oper} {bf:Nat->Nat->Bool} {base:Nat} {st:Nat->GW} {en:Nat->kA}
theorem I3.j0(hR:I3 P gl cf ops bf base st en):∀i,i<=ops.size->(st i).1.length=(st 0).1.length
 |0,_=>rfl
 |i+1,h=>by
  rw[(hR.one i _ (getElem?_eq_getElem (by omega))).tm,jl];exact hR.j0 i (by omega)
theorem I3.II(hR:I3 P gl cf ops bf base st en)(t:Tmp):∀i,i<=ops.size->(∀(i':Nat)(o':Oper),i'<i->ops[i']?=some o'->o'.dst≠some t)->(st i).1[t]?=(st 0).1[t]?
 |0,_,_=>rfl
 |i+1,h,hn=>by
  have ho:=getElem?_eq_getElem (xs:=ops) (i:=i) (by omega);rw[(hR.one i _ ho).tm,DD (hn i _ (by omega) ho)];exact hR.II t i (by omega) λi' o' h1 h2=>hn i' o' (by omega) h2
theorem I3.D4(hO:x7 ops bf)(hR:I3 P gl cf ops bf base st en){t:Tmp}(ht:t<(st 0).1.length){i':Nat}{o':Oper}(ho':ops[i']?=some o')(hd:o'.dst=some t):∀i,i<=ops.size->i'<i->(st i).1[t]?=some (en i').val
 |0,_,h=>absurd h (by omega)
 |i+1,h,hlt=>by
  have ho:=getElem?_eq_getElem (xs:=ops) (i:=i) (by omega);rw[(hR.one i _ ho).tm];by_cases he:i'=i
  ·subst he;rw[ho']at ho;obtain rfl:=oI ho;rw[hd,B9 (by rw[hR.j0 _ (by omega)];omega)]
  ·rw[DD λhd2=>he (hO.uniq i' i o' _ t ho' ho hd hd2)];exact hR.D4 hO ht ho' hd i (by omega) (by omega)
theorem I3.vp(hR:I3 P gl cf ops bf base st en){c:Nat}:∀(d:Nat),c+d<=ops.size->(∀e,c<=e->e<c+d->(en e).dY=false)->(st (c+d)).2.1=(st c).2.1
 |0,_,_=>rfl
 |d+1,h,hn=>by
  rw[show c+(d+1)=c+d+1 by omega,(hR.one (c+d) _ (getElem?_eq_getElem (by omega))).heap.2 (hn _ (by omega) (by omega))];exact hR.vp d (by omega) λe h1 h2=>hn e h1 (by omega)
def wx(bf:Nat->Nat->Bool)(en:Nat->kA)(c i:Nat)(B:bO):Prop:=(∃v,en i = .alloc B v)/\∀e,e<c->(en e).dY=true->bf e i=false
theorem I3.Tj(hO:x7 ops bf)(hR:I3 P gl cf ops bf base st en)(h0:(st 0).2.2=[]):∀m,m<=ops.size->∀i B,(i,B)∈(st m).2.2↔i<m/\wx bf en m i B
 |0,_,i,B=>by grind
 | m+1,h,i,B=>by
  have ih:=hR.Tj hO h0 m (by omega) i B;have hone:=hR.one m _ (getElem?_eq_getElem (by omega));have calm:(en m).dY=false->(∀B v,en m≠ .alloc B v)->(i<m+1/\wx bf en (m+1) i B↔i<m/\wx bf en m i B):=λhne hna=>by
   constructor
   ·rintro⟨h1,⟨v,h2⟩,h3⟩;refine⟨?_,⟨v,h2⟩,λe he=>h3 e (by omega)⟩
    grind
   ·rintro⟨h1,h2,h3⟩;refine⟨by omega,h2,λe he hef=>?_⟩
    grind
  cases hm:en m with
  |skip=>
   rw[hm]at hone;simp only[One]at hone;rw[hone.2,ih,calm (by rw[hm];rfl) (by grind)]
  |pure v=>
   rw[hm]at hone;simp only[One]at hone;rw[hone.2.2,ih,calm (by rw[hm];rfl) (by grind)]
  |read v=>
   rw[hm]at hone;simp only[One]at hone;rw[hone.2.2,ih,calm (by rw[hm];rfl) (by grind)]
  | alloc B₀ v=>
   rw[hm]at hone;simp only[One]at hone;rw[hone.2.2];simp only[mem_cons,Prod.mk.injEq];rw[ih];constructor
   ·rintro(⟨rfl,rfl⟩|⟨h1,h2,h3⟩)
    ·refine⟨by omega,⟨v,hm⟩,λe he _=>?_⟩
     cases hb:bf e i with
     |false=>rfl
     |true=>have:=hO.lt _ _ hb;omega
    ·refine⟨by omega,h2,λe he hef=>?_⟩;rcases lt_or_ge e m with h4|h4
     ·grind
     ·obtain rfl:e=m:=by omega
      rw[hm]at hef;cases hef
   ·rintro⟨h1,⟨v',h2⟩,h3⟩;rcases lt_or_ge i m with h4|h4
    ·exact .inr ⟨h4,⟨v',h2⟩,λe he=>h3 e (by omega)⟩
    grind
  | rB v h'=>
   rw[hm]at hone;simp only[One]at hone;rw[hone.2.2];simp only[mem_filter,not_eq_true'];rw[ih];constructor
   ·rintro⟨⟨h1,h2,h3⟩,h4⟩;refine⟨by omega,h2,λe he hef=>?_⟩
    grind
   ·rintro⟨h1,⟨v',h2⟩,h3⟩;have hlt:i<m:=by
     rcases lt_or_ge i m with h5|h5
     ·omega
     ·grind
    exact⟨⟨hlt,⟨v',h2⟩,λe he=>h3 e (by omega)⟩,h3 m (by omega) (by rw[hm];rfl)⟩
def Me(ops:Array Oper)(en:Nat->kA)(tm₀:List Value)(S:List Nat)(β:cC)(a:Act):Prop:=
 a.tmps.size=tm₀.length/\∀(t:Tmp)(v':Value),a.tmps[t]?=some v'->(∀(i:Nat)(o:Oper),i∈S->ops[i]?=some o->o.dst=some t->az β (en i).val v')/\
  ((∀(i:Nat)(o:Oper),i∈S->ops[i]?=some o->o.dst≠some t)->∀v,tm₀[t]?=some v->az β v v')
theorem Me.mono{tm₀:List Value}{S:List Nat}{β β':cC}{a:Act}(h:Me ops en tm₀ S β a)(hle:β.le β'):Me ops en tm₀ S β' a:=
 ⟨h.1,λt v' hv=>⟨λi o h1 h2 h3=>((h.2 t v' hv).1 i o h1 h2 h3).mono hle,λh1 v h2=>((h.2 t v' hv).2 h1 v h2).mono hle⟩⟩
theorem Me.put(hO:x7 ops bf){tm₀:List Value}{S:List Nat}{β:cC}{a:Act}(h:Me ops en tm₀ S β a){j:Nat}{o:Oper}(ho:ops[j]?=some o){v':Value}(hv:az β (en j).val v'):Me ops en tm₀ (S++[j]) β (a.put o.dst v'):=by
 refine⟨by cases hd:o.dst<;>simp[Act.put,h.1],λt u hu=>?_⟩;by_cases hd:o.dst=some t
 ·have hut:u=v':=by
   rw[hd]at hu;simp only[Act.put,Array.getElem?_setIfInBounds,if_true]at hu;split at hu
   ·exact(oI hu).symm
   ·cases hu
  subst hut;refine⟨λi o' _ h2 h3=>?_,λhno=>absurd hd (hno j o (by simp) ho)⟩;obtain rfl:=hO.uniq i j o' o t h2 ho h3 hd;omega
 ·have hu':a.tmps[t]?=some u:=by
   cases hdd:o.dst with
   |none=>rw[hdd]at hu;exact hu
   |some d=>
    rw[hdd]at hu hd;simp only[Act.put,Array.getElem?_setIfInBounds]at hu;rw[if_neg (by rintro rfl;exact hd rfl)]at hu;exact hu
  obtain⟨h1,h2⟩:=h.2 t u hu'
  grind
theorem Me.YI(hO:x7 ops bf)(hR:I3 P gl cf ops bf base st en){L pre suf:List Nat}{j:Nat}(hL:CJ ops L)(he:L=pre++j::suf){β:cC}{a:Act}(h:Me ops en (st 0).1 pre β a)(hg:Gl gl β){o:Oper}(ho:ops[j]?=some o):
  ∀x∈o.op.operands,az β (ev gl (st j).1 x) (a.eval x):=by
 have hjs:j<ops.size:=(Array.getElem?_eq_some_iff.1 ho).1;intro x hx
 cases x with
 | tmp t=>
  simp only[ev,Act.eval];by_cases ht:t<(st 0).1.length
  ·have hta:t<a.tmps.size:=by rw[h.1];exact ht
   obtain⟨h1,h2⟩:=h.2 t _ (getElem?_eq_getElem hta);rw[Array.getD_eq_getD_getElem?,getElem?_eq_getElem hta,getD_some];by_cases hw:∃(i:Nat)(o':Oper),i∈pre/\ops[i]?=some o'/\o'.dst=some t
   ·obtain⟨i,o',hi,ho',hd⟩:=hw;have hlt:i<j:=by
     rcases hO.names j o t ho hx i o' ho' hd with rfl|hb|hb
     ·have:=hL.nodup;rw[he]at this;exact absurd rfl (List.nodup_append.1 this |>.2.2 i hi i List.mem_cons_self)
     ·exact hO.lt _ _ hb
     ·obtain⟨p1,p2,rfl⟩:=List.append_of_mem hi;have:=hO.LR L hL p1 i (p2++j::suf) (by rw[he];simp) j hb;have hnd:=hL.nodup;rw[he]at hnd;exact absurd rfl ((List.nodup_append.1 hnd).2.2 j (mem_append_left _ this) j List.mem_cons_self)
    rw[gD,hR.D4 hO ht ho' hd j (by omega) hlt]
    grind
   ·have hold:=hR.II t j (by omega) λi' o' hlt ho' hd=>by
     rcases hO.names j o t ho hx i' o' ho' hd with rfl|hb|hb
     ·omega
     ·exact hw ⟨i',o',hO.LR L hL pre j suf he i' hb,ho',hd⟩
     ·have:=hO.lt _ _ hb;omega
    grind
  ·have hta:¬t<a.tmps.size:=by rw[h.1];exact ht
   rw[gD,getElem?_eq_none (by rw[hR.j0 j (by omega)];grind),Array.getD_eq_getD_getElem?,Array.getElem?_eq_none (Nat.le_of_not_lt hta)];exact .undef β
 |const v=>
  simp only[ev,Act.eval];split
  ·next hp=>exact .me hp
  ·exact .fb v
 | global g=>
  simp only[ev,Act.eval];split
  ·next hp=>
   obtain⟨sl,h1,h2,h3,h4⟩:=hg g hp;have:=az.ptr (i:=0) h1 h4
   grind
  ·exact .fb _
 |func f=>
  simp only[ev,Act.eval];exact .func rfl rfl rfl (λi v v' h=>by grind) (λi v v' h=>by grind)
theorem Me.wanted(hO:x7 ops bf)(hR:I3 P gl cf ops bf base st en){L pre suf:List Nat}{j:Nat}(hL:CJ ops L)(he:L=pre++j::suf){β:cC}{a:Act}(h:Me ops en (st 0).1 pre β a){o:Oper}(ho:ops[j]?=some o){b:Bool}
  (hw:eC ops (st j).1 o=some b):Region.wanted o (yielded ops a.tmps)=b:=by
 have hjs:j<ops.size:=(Array.getElem?_eq_some_iff.1 ho).1;unfold eC at hw;unfold Region.wanted;split at hw
 ·grind
 ·next i want hg=>
  rw[hg];simp only[yielded];have hb:=hO.guards j o i want ho hg;have hi:=hO.LR L hL pre j suf he i hb;split at hw
  ·next d hd=>
   rw[hd];simp only[Option.bind_some];obtain⟨oi,hoi,hdi⟩:=Option.bind_eq_some_iff.1 hd;have hval:∀v,(st j).1[d]?=some v->v=(en i).val/\∃v',a.tmps[d]?=some v'/\az β v v':=by
    intro v hv;have hdl:d<(st 0).1.length:=by rw[<-hR.j0 j (by omega)];exact(List.getElem?_eq_some_iff.1 hv).1
    have hda:d<a.tmps.size:=by rw[h.1];exact hdl
    have:=hR.D4 hO hdl hoi hdi j (by omega) (hO.lt _ _ hb);rw[this]at hv;obtain rfl:=oI hv;exact⟨rfl,_,getElem?_eq_getElem hda,(h.2 d _ (getElem?_eq_getElem hda)).1 i oi hi hoi hdi⟩
   split at hw
   ·next b' hb'=>
    obtain⟨_,v',h1,h2⟩:=hval _ (BK hb');rw[h2.iP]at h1;rw[h1];simp only[Option.some.injEq]at hw;subst hw
    cases b'<;>cases want<;>rfl
   ·next vs hb'=>
    simp only[Option.some.injEq]at hw;subst hw;rcases yW hb' with hb'|hb'
    ·obtain⟨_,v',h1,h2⟩:=hval _ hb';obtain⟨vs',rfl,_⟩:=h2.qC;rw[h1];rfl
    ·have hdn:a.tmps[d]?=none:=Array.getElem?_eq_none (by rw[h.1,<-hR.j0 j (by omega)];exact List.getElem?_eq_none_iff.1 hb');rw[hdn];rfl
   ·cases hw
  grind
end
end
section
variable {β:cC} {P:Program} {gl:Nat->Bool}
theorem vv{r:Option Nat}{n:Nat}{o:Oper}{a:Act}{w w':World}{v':Value}(hnd:∀c,o.op≠ .defer c)(hrun:(execOp a.eval o).run P w = .ok (.value v') w'){next:Act->World->Prop}{Q:Exit->Act->World->Prop}
  (h:next (a.put o.dst v') w'):o.wpIn (iF r) n P a w next Q:=by
 refine⟨λ_ _=>trivial,?_⟩;rw[Oper.semAt_eq _ _ _ hnd,hrun];exact h
theorem MU(hN:dH P){cf:bM}(hcf:m6 P gl cf){r:Option Nat}{n:Nat}{ρ:Operand->Value}{a:Act}{h:aa}{w:World}{o:Oper}{v:Value}{u:cX}(hs:iK β h w)(hg:Gl gl β)(hρ:∀x,az β (ρ x) (a.eval x))
  (hr:cY P cf ρ o h=some (v,u)) (next:Act->World->Prop) (Q:Exit->Act->World->Prop)
  (hk:∀v' w' β',Step β h w β' (u.app h) w'->az β' v v'->next (a.put o.dst v') w'):o.wpIn (iF r) n P a w next Q:=by
 refine⟨λ_ _=>trivial,?_⟩;have hnd:∀c,o.op≠ .defer c:=by
  intro c hc;simp[cY,hc]at hr
 rw[Oper.semAt_eq _ _ _ hnd];by_cases hc:aQ o=false
 ·obtain⟨v',w',β',h1,h2,h3⟩:=uW hρ hc hs hr;rcases h1 with h1|⟨h1,rfl⟩
  ·rw[h1];exact hk v' w' β' h2 h3
  ·rw[h1];exact hk undef w' β' h2 h3
 ·unfold aQ at hc;split at hc
  ·next f args ats ho=>
   simp only[cY,ho]at hr;exact EM hN hcf ho hs hg hρ hr next Q hk
  grind
open Classical in
noncomputable def only(o:Oper)(ρ:Operand->Value):Operand->Value:=λx=>if x∈o.op.operands then ρ x else fb
theorem xj{o:Oper}{ρ:Operand->Value}:∀x∈o.op.operands,ρ x=only o ρ x:=λx hx=>by grind[only]
theorem NT{o:Oper}{ρ ρ':Operand->Value}(h:∀x∈o.op.operands,az β (ρ x) (ρ' x)):∀x,az β (only o ρ x) (ρ' x):=λx=>by
 unfold only;split
 ·grind
 ·exact .fb _
section
variable {cf:bM} {ops:Array Oper} {bf:Nat->Nat->Bool} {st:Nat->GW} {en:Nat->kA}
structure Inv(ops:Array Oper)(bf:Nat->Nat->Bool)(st:Nat->GW)(en:Nat->kA)(β₀:cC)(h:aa)(w₀:World)(a₀:Act)(pre:List Nat)(β:cC)(w:World)(a:Act)(c:Nat)(R:List (Nat×bO)):Prop where
 le:c<=ops.size
 AE:∀e,e<ops.size->(en e).dY=true->(e∈pre↔e<c)
 mem:∀i B,(i,B)∈R↔i∈pre/\wx bf en c i B
 step:Step β₀ h w₀ β (bj (st c).2.1 h.next R) w
 room:h.next+ops.size<=(st c).2.1.next
 F1:∀i B,i<ops.size->(st c).2.1.get (h.next+i)=some B->∃e,e<c/\(en e).dY=true/\bf e i=true
 free:∀i,i<ops.size->i∉pre->(∃B v,en i = .alloc B v)->β (h.next+i)=none
 L7:Me ops en (st 0).1 pre β a
 Vj:a.defers=a₀.defers
theorem wx.Qn{c i:Nat}{B B':bO}(h:wx bf en c i B)(h':wx bf en c i B'):B=B':=by
 obtain⟨v,h1⟩:=h.1;obtain⟨v',h2⟩:=h'.1
 grind
variable {β₀:cC} {h:aa} {w₀:World} {a₀:Act} {pre:List Nat} {w:World} {a:Act} {c:Nat} {R:List (Nat×bO)}
theorem Inv.none_(hI:Inv ops bf st en β₀ h w₀ a₀ pre β w a c R){i:Nat}{B:bO}(hi:i<ops.size)(hp:wx bf en c i B):(st c).2.1.get (h.next+i)=none:=by
 cases hg:(st c).2.1.get (h.next+i)with
 |none=>rfl
 |some B'=>
  obtain⟨e,h1,h2,h3⟩:=hI.F1 i B' hi hg;rw[hp.2 e h1 h2]at h3;grind
theorem Inv.get(hI:Inv ops bf st en β₀ h w₀ a₀ pre β w a c R)(hpre:∀i∈pre,i<ops.size)(k:Nat)(B:bO):
  (bj (st c).2.1 h.next R).get k=some B↔(st c).2.1.get k=some B\/ ∃i,k=h.next+i/\(i,B)∈R:=
 lS R (λi B B' h1 h2=>((hI.mem i B).1 h1).2.Qn ((hI.mem i B').1 h2).2) (λi B h1=>hI.none_ (hpre i ((hI.mem i B).1 h1).1) ((hI.mem i B).1 h1).2) k B
theorem Inv.sub(hI:Inv ops bf st en β₀ h w₀ a₀ pre β w a c R)(hpre:∀i∈pre,i<ops.size):iK β (st c).2.1 w:=
 hI.step.mB.sub (fy R).symm λk B hk=>(hI.get hpre k B).2 (.inl hk)
theorem Inv.calm(hO:x7 ops bf)(hI:Inv ops bf st en β₀ h w₀ a₀ pre β w a c R){j:Nat}{o:Oper}(ho:ops[j]?=some o)(hne:(en j).dY=false)(hna:∀B v,en j≠ .alloc B v){v':Value}(hv:az β (en j).val v'):
  Inv ops bf st en β₀ h w₀ a₀ (pre++[j]) β w (a.put o.dst v') c R where
 le:=hI.le
 AE:=λe he hef=>by
  rw[mem_append,hI.AE e he hef]
  grind
 mem:=λi B=>by
  rw[hI.mem,mem_append];refine⟨λ⟨h1,h2⟩=>⟨.inl h1,h2⟩,λ⟨h1,h2⟩=>⟨?_,h2⟩⟩;rcases h1 with h1|h1
  ·omega
  ·simp only[mem_singleton]at h1;subst h1;obtain⟨v,hv⟩:=h2.1
   grind
 step:=hI.step
 room:=hI.room
 F1:=hI.F1
 free:=λi h1 h2=>hI.free i h1 λhh=>h2 (mem_append_left _ hh)
 L7:=hI.L7.put hO ho hv
 Vj:=(put_defers a o.dst v').trans hI.Vj
theorem EX(hN:dH P)(hcf:m6 P gl cf)(hO:x7 ops bf)(hR:I3 P gl cf ops bf h.next st en)(hpd:(st 0).2.2=[]){L:List Nat}(hL:CJ ops L){r:Option Nat}{n:Nat}{Q:Exit->Act->World->Prop}(hg₀:Gl gl β₀)
  (hk:∀a' w' β',Step β₀ h w₀ β' (bj (st ops.size).2.1 h.next (st ops.size).2.2) w'->aK β' (st ops.size).1 a'.tmps.toList->a'.defers=a₀.defers->Q .normal a' w'):
  ∀(suf pre:List Nat)(β:cC)(w:World)(a:Act)(c:Nat)(R:List (Nat×bO)),L=pre++suf->Inv ops bf st en β₀ h w₀ a₀ pre β w a c R->wpOpsIn (iF r) n P ops Q suf a w
 | [],pre,β,w,a,c,R,he,hI=>by
  rw[append_nil]at he;subst he;have hpre:∀i∈L,i<ops.size:=λi hi=>(hL.mem i).1 hi;have hnoeff:∀e,c<=e->e<ops.size->(en e).dY=false:=λe h1 h2=>by
   cases hef:(en e).dY with
   |false=>rfl
   |true=>have:=(hI.AE e h2 hef).1 ((hL.mem e).2 h2);omega
  have hle:=hI.le;have hsame:(st ops.size).2.1=(st c).2.1:=by
   have:=hR.vp (c:=c) (ops.size-c) (by omega) λe h1 h2=>hnoeff e h1 (by omega);rwa[show c+(ops.size-c)=ops.size by omega]at this
  have hpend:∀i B,wx bf en ops.size i B↔wx bf en c i B:=λi B=>by
   refine⟨λhp=>⟨hp.1,λe h1=>hp.2 e (by omega)⟩,λhp=>⟨hp.1,λe h1 h2=>hp.2 e ?_ h2⟩⟩
   grind
  have hmem:∀i B,(i,B)∈(st ops.size).2.2↔(i,B)∈R:=λi B=>by
   rw[hR.Tj hO hpd ops.size (Nat.le_refl _),hI.mem,hpend,hL.mem]
  have hget:=hI.get hpre;have hget2:∀k B,(bj (st ops.size).2.1 h.next (st ops.size).2.2).get k=some B↔(st c).2.1.get k=some B\/ ∃i,k=h.next+i/\(i,B)∈(st ops.size).2.2:=by
   rw[hsame];exact lS _ (λi B B' h1 h2=>((hI.mem i B).1 ((hmem i B).1 h1)).2.Qn ((hI.mem i B').1 ((hmem i B').1 h2)).2)
    (λi B h1=>hI.none_ (hpre i ((hI.mem i B).1 ((hmem i B).1 h1)).1) ((hI.mem i B).1 ((hmem i B).1 h1)).2)
  have hS:uu (bj (st c).2.1 h.next R) (bj (st ops.size).2.1 h.next (st ops.size).2.2):=by
   refine⟨by grind[fy],λk=>Option.ext λB=>?_⟩;rw[hget,hget2];simp only[hmem]
  refine hk a w β (hI.step.same (uu.refl h) hS) ?_ hI.Vj;refine⟨?_,λt v v' h1 h2=>?_⟩
  ·rw[hR.j0 _ (Nat.le_refl _),length_toList,hI.L7.1]
  ·rw[getElem?_toList]at h2;obtain⟨h3,h4⟩:=hI.L7.2 t v' h2;have htl:t<(st 0).1.length:=by rw[<-hR.j0 _ (Nat.le_refl _)];exact(List.getElem?_eq_some_iff.1 h1).1
   by_cases hw:∃(i:Nat)(o:Oper),ops[i]?=some o/\o.dst=some t
   ·obtain⟨i,o,ho,hd⟩:=hw;have hi:i<ops.size:=(Array.getElem?_eq_some_iff.1 ho).1;rw[hR.D4 hO htl ho hd _ (Nat.le_refl _) hi]at h1;obtain rfl:=oI h1;exact h3 i o ((hL.mem i).2 hi) ho hd
   ·rw[hR.II t _ (Nat.le_refl _) λi o _ ho hd=>hw ⟨i,o,ho,hd⟩]at h1
    grind
 | j::suf,pre,β,w,a,c,R,he,hI=>by
  have hpre:∀i∈pre,i<ops.size:=λi hi=>(hL.mem i).1 (by grind);have hj:j<ops.size:=(hL.mem j).1 (by grind);have hnj:j∉pre:=λhm=>by
   have hnd:=hL.nodup
   grind
  have hbf:∀i,bf j i=true->i∈pre:=hO.LR L hL pre j suf he;have hfb:∀i∈pre,bf i j=false:=λi hi=>by
   cases hb:bf i j with
   |false=>rfl
   |true=>
    obtain⟨p1,p2,rfl⟩:=List.append_of_mem hi;exact absurd (mem_append_left _ (hO.LR L hL p1 i (p2++j::suf) (by grind) j hb)) hnj
  have ho:=getElem?_eq_getElem hj;generalize ops[j]=o at ho;have hone:=hR.one j o ho;have hg:Gl gl β:=hg₀.mono hI.step.le;have hsee:=hI.L7.YI hO hR hL he hg ho;have hρ:=NT hsee;have hrec:=EX hN hcf hO hR hpd hL (r:=r) (n:=n) hg₀ hk suf (pre++[j]);have he':L=(pre++[j])++suf:=by rw[he];simp
  simp only[wpOpsIn,ho]
  cases hen:en j with
  |skip=>
   rw[hen]at hone;simp only[One]at hone;rw[hI.L7.wanted hO hR hL he ho hone.1];simp only[false_eq_true,if_false];refine⟨λ_ _=>trivial,?_⟩;exact hrec β w _ c R he' (hI.calm hO ho (by rw[hen];rfl) (by grind) (by rw[hen];exact .undef β))
  |pure v=>
   rw[hen]at hone;simp only[One]at hone;obtain⟨hw,hop,_⟩:=hone;rw[hI.L7.wanted hO hR hL he ho hw];simp only[if_true];rw[Dt xj]at hop;obtain⟨v',h1,h2⟩:=nS hρ hop w;refine vv ?_ h1 (hrec β w _ c R he' (hI.calm hO ho (by rw[hen];rfl) (by rw[hen];intro B v h;cases h) (by rw[hen];exact h2)))
   grind[aT]
  | read v=>
   rw[hen]at hone;simp only[One]at hone;obtain⟨hw,_,_⟩:=hone;rw[hI.L7.wanted hO hR hL he ho hw];simp only[if_true];have hop:=hR.reads j o v ho hen c hI.le
    (λe h1 h2=>hfb e ((hI.AE e (by have:=hI.le;omega) h2).2 h1))
    (λe h1 h2 h3=>by
     cases hb:bf j e with
     |false=>rfl
     |true=>have:=(hI.AE e h2 h3).1 (hbf e hb);omega)
   rw[Du xj]at hop;obtain⟨v',h1,h2⟩:=nT hρ (hI.sub hpre) hop;refine vv ?_ h1 (hrec β w _ c R he' (hI.calm hO ho (by rw[hen];rfl) (by rw[hen];intro B v h;cases h) (by rw[hen];exact h2)))
   grind[aY]
  | alloc B v=>
   rw[hen]at hone;simp only[One]at hone;obtain⟨hw,⟨f,hop,rfl⟩,_⟩:=hone;rw[hI.L7.wanted hO hR hL he ho hw];simp only[if_true];rw[AS xj]at hop;obtain⟨v',w',h1,h2⟩:=mL hρ (w:=w) hop;have hfree:=hI.free j hj hnj ⟨B,_,hen⟩;have hroom:=hI.room;obtain⟨β',h3,h4,h5,h6⟩:=h2.Mo hI.step hfree (by omega) (by grind[fy]);refine vv (by grind[aS]) h1 (hrec β' w' _ c ((j,B)::R) he' ⟨hI.le,?_,?_,h3,hI.room,hI.F1,?_,?_,(put_defers a o.dst v').trans hI.Vj⟩)
   ·intro e h7 h8;rw[mem_append,hI.AE e h7 h8];refine⟨λhh=>?_,.inl⟩;rcases hh with hh|hh
    ·omega
    ·simp only[mem_singleton]at hh;subst hh;rw[hen]at h8;cases h8
   ·intro i B';rw[mem_cons,hI.mem,mem_append];constructor
    ·rintro(hh|⟨h7,h8⟩)
     ·simp only[Prod.mk.injEq]at hh;obtain⟨rfl,rfl⟩:=hh;refine⟨.inr List.mem_cons_self,⟨_,hen⟩,λe h7 h8=>hfb e ((hI.AE e (by have:=hI.le;omega) h8).2 h7)⟩
     grind
    ·rintro⟨h7|h7,h8⟩
     ·grind
     ·simp only[mem_singleton]at h7;subst h7;obtain⟨v2,h9⟩:=h8.1
      grind
   ·intro i h7 h8 h9;rw[h6 _ λhh=>h8 (by grind)];exact hI.free i h7 (λhh=>h8 (mem_append_left _ hh)) h9
   ·exact(hI.L7.mono h5).put hO ho (by rw[hen];exact h4)
  | rB v h'=>
   rw[hen]at hone;simp only[One]at hone;have hheap:(st (j+1)).2.1=h':=by rw[hone.2.2]
   obtain⟨hw,⟨u,hop,hu⟩,_⟩:=hone;rw[hI.L7.wanted hO hR hL he ho hw];simp only[if_true];have hcj:c<=j:=by
    rcases lt_or_ge j c with h1|h1
    ·exact absurd ((hI.AE j hj (by rw[hen];rfl)).2 h1) hnj
    ·omega
   have hnoeff:∀e,c<=e->e<j->(en e).dY=false:=λe h1 h2=>by
    cases hef:(en e).dY with
    |false=>rfl
    |true=>
     have:=(hI.AE e (by omega) hef).1 (hbf e (hR.chain e j h2 hj hef (by rw[hen];rfl)));omega
   have hsame:(st j).2.1=(st c).2.1:=by
    have:=hR.vp (c:=c) (j-c) (by omega) λe h1 h2=>hnoeff e h1 (by omega);rwa[show c+(j-c)=j by omega]at this
   rw[hsame]at hop hu;have hF:∀i B,(i,B)∈(st j).2.2.filter (λp=>bf j p.1)↔wx bf en c i B/\bf j i=true:=λi B=>by
    rw[mem_filter,hR.Tj hO hpd j (by omega)];constructor
    ·rintro⟨⟨h1,h2,h3⟩,h4⟩;exact⟨⟨h2,λe h5=>h3 e (by omega)⟩,h4⟩
    ·rintro⟨⟨h2,h3⟩,h4⟩;refine⟨⟨hO.lt _ _ h4,h2,λe h5 h6=>?_⟩,h4⟩
     grind
   generalize (st j).2.2.filter (λp=>bf j p.1)=F at hF hop hu;have hGp:=lS (h:=(st c).2.1) (base:=h.next) F (λi B B' h1 h2=>((hF i B).1 h1).1.Qn ((hF i B').1 h2).1)
    (λi B h1=>hI.none_ (by grind) ((hF i B).1 h1).1)
   have hgetV:=hI.get hpre;have hsub:iK β (bj (st c).2.1 h.next F) w:=hI.step.mB.sub (by grind[fy]) λk B hkk=>by
    rw[hgetV];rcases(hGp k B).1 hkk with h1|⟨i,h1,h2⟩
    ·grind
    ·exact .inr ⟨i,h1,(hI.mem i B).2 ⟨hbf i ((hF i B).1 h2).2,((hF i B).1 h2).1⟩⟩
   rw[F4 xj]at hop;refine MU hN hcf hsub hg hρ hop _ _ λv' w' β' hst hv=>?_;rw[<-hu,<-hheap]at hst;have hroom:=hI.room;have hnextF:(bj (st c).2.1 h.next F).next=(st c).2.1.next:=fy F;have hRmem:∀i B,(i,B)∈R.filter (λp=> !bf j p.1)↔i∈pre/\wx bf en c i B/\bf j i=false:=λi B=>by
    rw[mem_filter,hI.mem];grind
   have hRnone:∀i B,(i,B)∈R.filter (λp=> !bf j p.1)->(bj (st c).2.1 h.next F).get (h.next+i)=none:=λi B hm=>by
    obtain⟨h1,h2,h3⟩:=(hRmem i B).1 hm
    cases hgk:(bj (st c).2.1 h.next F).get (h.next+i)with
    |none=>rfl
    |some B'=>
     rcases(hGp _ _).1 hgk with h4|⟨i',h4,h5⟩
     ·rw[hI.none_ (hpre i h1) h2]at h4;cases h4
     grind
   have hback:∀k B,(st (j+1)).2.1.get k=some B->k<(st c).2.1.next->∃B₀,(bj (st c).2.1 h.next F).get k=some B₀:=λk B h1 h2=>hst.keys k B h1 (by omega);have hGn:=lS (h:=(st (j+1)).2.1) (base:=h.next) (R.filter λp=> !bf j p.1) (λi B B' h1 h2=>((hRmem i B).1 h1).2.1.Qn ((hRmem i B').1 h2).2.1)
    (λi B hm=>by
     cases hgk:(st (j+1)).2.1.get (h.next+i)with
     |none=>rfl
     |some B'=>grind)
   have hframe:=hst.frame (V:=bj (st c).2.1 h.next R) (V':=bj (st (j+1)).2.1 h.next (R.filter λp=> !bf j p.1)) hI.step.mB (by grind[fy]) (fy _)
    (λk B=>∃i,k=h.next+i/\(i,B)∈R.filter λp=> !bf j p.1)
    (λk B ⟨i,h1,h2⟩=>by grind)
    (λk B=>by
     rw[hgetV,hGp];constructor
     ·rintro(h1|⟨i,h1,h2⟩)
      ·grind
      ·obtain⟨h3,h4⟩:=(hI.mem i B).1 h2
       grind
     ·rintro((h1|⟨i,h1,h2⟩)|⟨i,h1,h2⟩)
      ·exact .inl h1
      ·exact .inr ⟨i,h1,(hI.mem i B).2 ⟨hbf i ((hF i B).1 h2).2,((hF i B).1 h2).1⟩⟩
      grind)
    hGn
   have hnext:=hst.next;rw[hnextF]at hnext;refine hrec β' w' _ (j+1) _ he' ⟨by omega,?_,?_,hI.step.trans hframe,by omega,?_,?_,(hI.L7.mono hst.le).put hO ho (by rw[hen];exact hv),(put_defers a o.dst v').trans hI.Vj⟩
   ·intro e h1 h2;rw[mem_append,hI.AE e h1 h2,mem_singleton]
    grind
   ·intro i B;rw[hRmem,mem_append];constructor
    ·rintro⟨h1,⟨h2,h3⟩,h4⟩;refine⟨.inl h1,h2,λe h5 h6=>?_⟩
     grind
    ·rintro⟨h1,⟨v2,h2⟩,h3⟩;rcases h1 with h1|h1
     ·exact⟨h1,⟨⟨v2,h2⟩,λe h4=>h3 e (by omega)⟩,h3 j (by omega) (by rw[hen];rfl)⟩
     grind
   ·intro i B h1 h2;obtain⟨B₀,h3⟩:=hback _ _ h2 (by omega);rcases(hGp _ _).1 h3 with h4|⟨i',h4,h5⟩
    ·obtain⟨e,h6,h7,h8⟩:=hI.F1 i B₀ h1 h4
     grind
    ·obtain rfl:i=i':=by omega
     exact⟨j,by omega,by rw[hen];rfl,((hF _ _).1 h5).2⟩
   ·intro i h1 h2 h3;have hold:=hI.free i h1 (λhh=>h2 (mem_append_left _ hh)) h3
    cases hb:β' (h.next+i)with
    |none=>rfl
    |some sl=>
     rcases hst.fresh _ sl hb with h4|⟨h4,_⟩
     all_goals grind
end
end
section
variable {P:Program} {gl:Nat->Bool}
theorem sZ:∀{x y:List (Value×Value)},uL x y=true->x=y
 |[],[],_=>rfl
 |[],_::_,h=>by grind[uL]
 |_::_,[],h=>by grind[uL]
 |(a,b)::x,(c,d)::y,h=>by
  simp only[uL,and_eq_true]at h;rw[lE _ _ _ h.1.1,lE _ _ _ h.1.2,sZ h.2]
theorem EJ{B C:bO}(h:Ms B C=true):B=C:=by
 unfold Ms at h;split at h
 ·simp only[and_eq_true,beq_eq,beq_iff_eq]at h;obtain⟨⟨⟨h1,rfl⟩,rfl⟩,rfl⟩:=h;rw[qA (lE 4) h1]
 all_goals grind[sZ]
theorem yg{h h':aa}{k:Nat}(e:PH h h' k=true):h.get k=h'.get k:=by grind[EJ,PH]
def JX(h₀:aa)(s:GP):Prop:=s.2.1.next=h₀.next/\∀k,k∉s.2.2->s.2.1.get k=h₀.get k
theorem JX.lay{h₀:aa}{s:GP}(h:JX h₀ s)(dst:Option Tmp)(v:Value)(u:Option (Nat×bO)):JX h₀ (FE s dst v u):=by
 cases u with
 |none=>exact h
 |some p=>
  obtain⟨k,b⟩:=p;refine⟨h.1,λj hj=>?_⟩;simp only[FE,mem_cons,not_or]at hj;show(s.2.1.set k b).get j=_;rw[aa.aX,if_neg hj.1];exact h.2 j hj.2
theorem Cm{ops:Array Oper}{base j:Nat}{h₀:aa}{s s':GP}(h:JX h₀ s)(hs:GB P gl ops base j s=some s'):JX h₀ s':=by
 unfold GB at hs;split at hs
 ·split at hs
  ·split at hs
   ·obtain rfl:=oI hs;exact h.lay _ _ _
   ·cases hs
  ·obtain rfl:=oI hs;exact h.lay _ _ _
  ·cases hs
 grind
theorem Cs{ops:Array Oper}{base:Nat}{h₀:aa}:∀(n j:Nat){s s':GP},JX h₀ s->GH P gl ops base n j s=some s'->JX h₀ s'
 |0,_,_,_,h,hs=>by simp_all[GH]
 |n+1,j,s,s',h,hs=>by
  simp only[GH]at hs;split at hs
  ·next s1 h1=>exact Cs n (j+1) (Cm h h1) hs
  grind
theorem E4{h₀:aa}{s s':GP}(h:JX h₀ s)(h':JX h₀ s')(e:MY s s'=true):s.1=s'.1/\uu s.2.1 s'.2.1:=by
 unfold MY at e;simp only[and_eq_true]at e;obtain⟨⟨e1,e2⟩,e3⟩:=e;refine⟨qA (lE 4) e1,h.1.trans h'.1.symm,λk=>?_⟩;by_cases k1:k∈s.2.2
 ·grind[yg]
 ·by_cases k2:k∈s'.2.2
  ·grind[yg]
  ·rw[h.2 k k1,h'.2 k k2]
theorem CJ.length{ops:Array Oper}{L:List Nat}(h:CJ ops L):L.length=ops.size:=by
 have:=((List.perm_ext_iff_of_nodup h.nodup List.nodup_range).2 λi=>by rw[h.mem,mem_range]).length_eq
 grind
theorem QY:m6 P gl fV:=⟨(by intro f args h v h' _ hr;cases hr),(by intro k args h v h' hr;cases hr)⟩
theorem K2(hN:dH P){ops:Array Oper}(hO:x7 ops (cM (gm ops))){L:List Nat}(hL:CJ ops L){r:Option Nat}{n:Nat}{Q:Exit->Act->World->Prop}{base:Nat}{fin:GP}{h₀ hb:aa}{β₀:cC}{w₀:World}{a₀:Act}(hg₀:Gl gl β₀)
  (hbase:hb.next=base+ops.size) (h0n:h₀.next<=base) (hfin:JX hb fin)
  (hk:∀a' w' β',Step β₀ h₀ w₀ β' fin.2.1 w'->aK β' fin.1 a'.tmps.toList->a'.defers=a₀.defers->Q .normal a' w'):
  ∀(suf pre:List Nat)(β:cC)(w:World)(a:Act)(s:GP),L=pre++suf->Mh P gl ops (cM (gm ops)) base fin suf.length pre.reverse s=true->JX hb s->Step β₀ h₀ w₀ β s.2.1 w->
   (∀i,i<ops.size->i∉pre->β (base+i)=none)->aK β s.1 a.tmps.toList->a.defers=a₀.defers->wpOpsIn (iF r) n P ops Q suf a w
 |[],pre,β,w,a,s,he,hA,hoff,hst,hfree,ht,hd=>by
  obtain⟨e1,e2⟩:=E4 hfin hoff hA;refine hk a w β (hst.same (uu.refl _) e2.symm) (by grind) hd
 | j::suf,pre,β,w,a,s,he,hA,hoff,hst,hfree,ht,hd=>by
  have hj:j<ops.size:=(hL.mem j).1 (by grind);have hnj:j∉pre:=λhm=>by
   have hnd:=hL.nodup
   grind
  have hbf:∀i,cM (gm ops) j i=true->i∈pre:=hO.LR L hL pre j suf he;simp only[length_cons,Mh]at hA;have h1:=all_eq_true.1 hA j (mem_range.2 hj);simp only[Bool.or_eq_true]at h1;rcases h1 with(h1|h1)|h1
  ·grind
  ·grind
  ·split at h1
   ·next s' hs'=>
    have hoff':=Cm hoff hs';have ho:=getElem?_eq_getElem hj;generalize ops[j]=o at ho;unfold GB at hs';rw[ho]at hs';dsimp only at hs';have he':L=(pre++[j])++suf:=by rw[he];simp
    have hrev:(pre++[j]).reverse=j::pre.reverse:=by simp
    have hfree':∀i,i<ops.size->i∉pre++[j]->β (base+i)=none:=λi h1 h2=>hfree i h1 λhh=>h2 (mem_append_left _ hh);have hg:Gl gl β:=hg₀.mono hst.le;simp only[wpOpsIn,ho];split at hs'
    ·next hw=>
     rw[j1 ht hw];simp only[if_true];split at hs'
     ·next v u hop=>
      obtain rfl:=oI hs';have hρ:=uO (β:=β) hg ht;unfold VY at hop;split at hop
      ·next v0 hp=>
       simp only[Option.some.injEq,Prod.mk.injEq]at hop;obtain⟨rfl,rfl⟩:=hop;obtain⟨v',g1,g2⟩:=nS hρ hp w;refine vv (by intro cc hc;simp[aT,hc]at hp) g1 (K2 hN hO hL hg₀ hbase h0n hfin hk suf (pre++[j]) β w _ _ he' (by rw[hrev];exact h1) hoff' hst hfree' (jB ht o.dst g2) ((put_defers a o.dst v').trans hd))
      ·split at hop
       ·next v0 hp=>
        simp only[Option.some.injEq,Prod.mk.injEq]at hop;obtain⟨rfl,rfl⟩:=hop;obtain⟨v',g1,g2⟩:=nT hρ hst.mB hp;refine vv (by intro cc hc;simp[aY,hc]at hp) g1 (K2 hN hO hL hg₀ hbase h0n hfin hk suf (pre++[j]) β w _ _ he' (by rw[hrev];exact h1) hoff' hst hfree' (jB ht o.dst g2) ((put_defers a o.dst v').trans hd))
       ·split at hop
        ·next B f hp=>
         simp only[Option.some.injEq,Prod.mk.injEq]at hop;obtain⟨rfl,rfl⟩:=hop;obtain⟨v',w',g1,g2⟩:=mL hρ (w:=w) hp;obtain⟨β',g3,g4,g5,g6⟩:=g2.Mo hst (hfree j hj hnj) (by omega) (by rw[hoff.1,hbase];omega);refine vv (by intro cc hc;simp[aS,hc]at hp) g1 (K2 hN hO hL hg₀ hbase h0n hfin hk suf (pre++[j]) β' w' _ _ he' (by rw[hrev];exact h1) hoff' g3 ?_ (jB (ht.mono g5) o.dst g4) ((put_defers a o.dst v').trans hd));intro i h2 h3;rw[g6 _ λhh=>h3 (by rw[show i=j by omega];simp)];exact hfree' i h2 h3
        ·have key:∀{u':cX}{v:Value},cY P fV (ev gl s.1) o s.2.1=some (v,u')->u'.app s.2.1=(FE s o.dst v u).2.1->(FE s o.dst v u).1=fO s.1 o.dst v->Mh P gl ops (cM (gm ops)) base fin suf.length (j::pre.reverse) (FE s o.dst v u)=true->JX hb (FE s o.dst v u)->
           o.wpIn (iF r) n P a w (λa' w'=>wpOpsIn (iF r) n P ops Q suf a' w') Q:=by
          intro u' v hop hu hput h1 hoff';refine MU hN QY hst.mB hg hρ hop _ _ λv' w' β' hst' hv=>?_;rw[hu]at hst';refine K2 hN hO hL hg₀ hbase h0n hfin hk suf (pre++[j]) β' w' _ _ he' (by rw[hrev];exact h1) hoff' (hst.trans hst') (λi h2 h3=>?_) (by rw[hput];exact jB (ht.mono hst'.le) o.dst hv) ((put_defers a o.dst v').trans hd);have hold:=hfree' i h2 h3
          cases hb':β' (base+i)with
          |none=>rfl
          |some sl=>
           rcases hst'.fresh _ sl hb' with h4|⟨h4,_⟩
           ·rw[hold]at h4;cases h4
           ·rw[hoff.1,hbase]at h4;omega
         split at hop
         ·next v0 hp=>
          simp only[Option.some.injEq,Prod.mk.injEq]at hop;obtain⟨rfl,rfl⟩:=hop;exact key hp rfl rfl h1 hoff'
         ·next v0 k0 b0 hp=>
          simp only[Option.some.injEq,Prod.mk.injEq]at hop;obtain⟨rfl,rfl⟩:=hop;exact key hp rfl rfl h1 hoff'
         ·cases hop
     ·cases hs'
    ·next hw=>
     obtain rfl:=oI hs';rw[j1 ht hw];simp only[false_eq_true,if_false];refine⟨λ_ _=>trivial,?_⟩;exact K2 hN hO hL hg₀ hbase h0n hfin hk suf (pre++[j]) β w _ _ he' (by rw[hrev];exact h1) hoff' hst hfree' (jB ht o.dst (.undef β)) ((put_defers a o.dst undef).trans hd)
    ·cases hs'
   grind
end
section
variable {P:Program} {gl:Nat->Bool}
theorem Step.room{β:cC}{h:aa}{w:World}(hs:iK β h w)(m:Nat):Step β h w β { h with next:=h.next+m } w:=
 ⟨β.le_refl,Nat.le_add_right _ _,⟨λk sl hk=>⟨lt_of_lt_of_le (hs.lt k sl hk).1 (Nat.le_add_right _ _),(hs.lt k sl hk).2⟩,hs.blk,hs.own,λk B hk=>lt_of_lt_of_le (hs.wf k B hk) (Nat.le_add_right _ _)⟩,Nat.le_refl _,rfl,.refl _,rfl,
  λ_ _ _=>rfl,λ_ _ h=>h,λ_ _ h=> .inl h,λ_ B h _=>⟨B,h⟩⟩
theorem MT(hN:dH P){cf:bM}(hcf:m6 P gl cf){id:Nat}{ops:Array Oper}(hO:x7 ops (cM (gm ops)))(hB:GV ops)(hC:Region.departs ops=true->(Region.linearise .gc ops 0).length=ops.size):
  j4 P gl cf (.region id ops true):=by
 intro id' ops' heq β tm tm' a h h' w r n Q hr hs hg ht hk
 cases heq
 refine wpIn_region_draw λt=>?_;have hst0:Step β h w β { h with next:=h.next+ops.size } { w with drawn:=w.drawn+1 }:=
  (Step.of_heap hs rfl rfl ⟨rfl,Nat.le_succ _⟩ rfl:Step β h w β h { w with drawn:=w.drawn+1 }).trans (Step.room (w:={ w with drawn:=w.drawn+1 }) (hs.of_heap rfl) ops.size)
 unfold yx at hr;split at hr
 ·unfold EU at hr;split at hr
  ·next fin hfin=>
   split at hr
   ·next hall=>
    simp only[Option.some.injEq,Prod.mk.injEq]at hr;obtain⟨rfl,rfl⟩:=hr;have hL:=rL hB hC (P.follows .mixedOrders) t;have hoff:JX { h with next:=h.next+ops.size } (tm,{ h with next:=h.next+ops.size },[]):=⟨rfl,λ_ _=>rfl⟩
    have hlen:(Region.schedule (P.follows .mixedOrders) ops t).length=ops.size:=hL.length;exact K2 hN hO hL (base:=h.next) (fin:=fin) (a₀:=a) hg rfl (Nat.le_refl _) (Cs _ _ hoff hfin) hk _ [] β _ a _ rfl (by rw[hlen];exact hall) hoff hst0 (λi hi _=>hs.jV (by omega)) ht rfl
   ·cases hr
  grind
 have hst0:True:=trivial;obtain⟨st,en,hR,h0,h1,h2⟩:=EW hO hr;have hL:=rL hB hC (P.follows .mixedOrders) t;have hst0:Step β h w β { h with next:=h.next+ops.size } { w with drawn:=w.drawn+1 }:=
  (Step.of_heap hs rfl rfl ⟨rfl,Nat.le_succ _⟩ rfl:Step β h w β h { w with drawn:=w.drawn+1 }).trans (Step.room (w:={ w with drawn:=w.drawn+1 }) (hs.of_heap rfl) ops.size)
 refine EX (β₀:=β) (h:=h) (w₀:=w) (a₀:=a) hN hcf hO hR (by rw[h0]) hL hg ?_ _ [] β _ a 0 [] rfl ⟨Nat.zero_le _,?_,?_,?_,?_,?_,?_,?_,rfl⟩
 ·grind
 ·grind
 ·grind
 ·rw[h0];exact hst0
 ·grind
 ·intro i B hi hb;rw[h0]at hb;have:h.get (h.next+i)=some B:=hb;have:=hs.wf _ _ this;omega
 ·intro i hi _ _;exact hs.jV (by omega)
 ·rw[h0];refine⟨by rw[ht.1,length_toList],λt v' hv=>⟨λi o hi=>by grind,λ_ v h3=>?_⟩⟩;exact ht.2 t v v' h3 (by grind)
theorem Fk(g:Nat->Nat)(i:Nat):∀(es:List Edge)(s:Nat),(es.foldl (λs e=>if Region.binds .any e then s|||2^e.on|||g e.on else s) s).testBit i=true↔
  s.testBit i=true\/ ∃e∈es,Region.binds .any e=true/\(e.on=i\/(g e.on).testBit i=true)
 |[],s=>by simp
 |e::es,s=>by
  rw[List.foldl_cons,Fk g i es]
  grind
def pE(acc:Array Nat)(o:Oper):Nat:=o.after.foldl (λs e=>if Region.binds .any e then s|||2^e.on|||acc.getD e.on 0 else s) 0
theorem BH:∀(l:List Oper)(acc:Array Nat),(l.foldl (λacc o=>acc.push (pE acc o)) acc).size=acc.size+l.length/\
  (∀i,i<acc.size->(l.foldl (λacc o=>acc.push (pE acc o)) acc)[i]?=acc[i]?)/\
  ∀i o,l[i]?=some o->∃acc',(l.foldl (λacc o=>acc.push (pE acc o)) acc)[acc.size+i]?=some (pE acc' o)/\∀k,k<acc.size+i->acc'[k]?=(l.foldl (λacc o=>acc.push (pE acc o)) acc)[k]?
 |[],acc=>⟨by simp,λ_ _=>rfl,λi o h=>by grind⟩
 |o::l,acc=>by
  obtain⟨h1,h2,h3⟩:=BH l (acc.push (pE acc o))
  grind
theorem J5(ops:Array Oper):Region.before ops=ops.toList.foldl (λacc o=>acc.push (pE acc o)) #[]:=by
 unfold Region.before;rw[<-foldl_toList];rfl
theorem PJ{ops:Array Oper}(hB:GV ops)(j i:Nat):cM (gm ops) j i=true↔ ∃o,ops[j]?=some o/\∃e∈o.after,Region.binds .any e=true/\(e.on=i\/cM (gm ops) e.on i=true):=by
 have hg:∀k,(gm ops).getD k 0=(Region.before ops).getD k 0:=λk=>by simp[gm,List.getD,Array.getD_eq_getD_getElem?]
 obtain⟨h1,_,h3⟩:=BH ops.toList #[];rw[<-J5]at h1 h3;simp only[List.size_toArray,length_nil,zero_add,getElem?_toList,length_toList]at h1 h3
 cases ho:ops[j]? with
 |none=>grind[cM]
 | some o=>
  obtain⟨acc',h4,h5⟩:=h3 j o ho;simp only[cM,hg];rw[Array.getD_eq_getD_getElem?,h4,getD_some,pE,<-foldl_toList,Fk (λk=>acc'.getD k 0)];simp only[Nat.zero_testBit,false_eq_true,false_or,Option.some.injEq,exists_eq_left',Array.mem_toList_iff];constructor
  ·rintro⟨e,he,hb,hh⟩;refine⟨e,he,hb,hh.imp id λhh=>?_⟩;have hlt:e.on<j:=by
    rcases hB j o ho e he with h|⟨h,_⟩
    ·exact h
    ·rw[h]at hb;cases hb
   simp_all
  ·rintro⟨e,he,hb,hh⟩;refine⟨e,he,hb,hh.imp id λhh=>?_⟩;have hlt:e.on<j:=by
    rcases hB j o ho e he with h|⟨h,_⟩
    ·exact h
    ·rw[h]at hb;cases hb
   simp_all
theorem GV.lt{ops:Array Oper}(hB:GV ops){j:Nat}{o:Oper}(ho:ops[j]?=some o){e:Edge}(he:e∈o.after)(hb:Region.binds .any e=true):e.on<j:=by
 rcases hB j o ho e he with h|⟨h,_⟩
 all_goals grind
theorem sR:∀(l:List Oper)(j:Nat),CK l j=true->∀i o,l[i]?=some o->∀e∈o.after,e.on<j+i\/Region.binds .any e=false/\Region.binds .text e=false
 |[],_,_,i,o,ho,_,_=>by grind
 | o'::l,j,h,i,o,ho,e,he=>by
  simp only[CK,and_eq_true]at h
  cases i with
  |zero=>grind
  |succ i=>
   have:=sR l (j+1) h.2 i o (by simpa using ho) e he
   grind
theorem qo{bs:List Nat}{j:Nat}{t:Tmp}:∀(l:List Oper)(k:Nat),qm bs j t l k=true->∀i o,l[i]?=some o->o.dst=some t->k+i=j\/cM bs j (k+i)=true\/cM bs (k+i) j=true
 |[],_,_,i,o,ho,_=>by grind
 | o'::l,k,h,i,o,ho,hd=>by
  simp only[qm,and_eq_true]at h
  cases i with
  |zero=>grind
  |succ i=>
   have:=qo l (k+1) h.2 i o (by simpa using ho) hd
   grind
theorem nU{bs:List Nat}{all:List Oper}:∀(l:List Oper)(k:Nat),Dv bs all l k=true->∀i o,l[i]?=some o->
  (∀t,Operand.tmp t∈o.op.operands->qm bs (k+i) t all 0=true)/\∀g b,o.guard=some (g,b)->cM bs (k+i) g=true
 |[],_,_,i,o,ho=>by grind
 | o'::l,k,h,i,o,ho=>by
  simp only[Dv,and_eq_true]at h
  cases i with
  |zero=>
   simp only[List.getElem?_cons_zero,Option.some.injEq]at ho;subst ho;refine⟨λt ht=>?_,λg b hg=>?_⟩
   ·exact all_eq_true.1 h.1.1 (.tmp t) (by simpa using ht)
   grind
  |succ i=>
   have:=nU l (k+1) h.2 i o (by simpa using ho)
   grind
theorem oB:∀(l:List Oper)(m:Nat),vt l m=true->(∀(i:Nat)(o:Oper)(t:Tmp),l[i]?=some o->o.dst=some t->m.testBit t=false)/\
  ∀(i j:Nat)(o o':Oper)(t:Tmp),l[i]?=some o->l[j]?=some o'->o.dst=some t->o'.dst=some t->i=j
 |[],_,_=>⟨λi o t h=>by grind,λi j o o' t h=>by grind⟩
 | x::l,m,h=>by
  cases hd:x.dst with
  |none=>
   simp only[vt,hd]at h;obtain⟨h1,h2⟩:=oB l m h
   grind
  |some d=>
   simp only[vt,hd,and_eq_true,not_eq_true']at h;obtain⟨h1,h2⟩:=oB l _ h.2
   grind
theorem CR{ops:Array Oper}(h:Hy ops=true):x7 ops (cM (gm ops))/\GV ops/\(Region.departs ops=true->(Region.linearise .gc ops 0).length=ops.size):=by
 simp only[Hy,and_eq_true]at h;obtain⟨⟨⟨h1,h2⟩,h3⟩,h4⟩:=h;have hB:GV ops:=λi o ho e he=>by
  have:=sR ops.toList 0 h1 i o (by simpa using ho) e he;rwa[zero_add]at this
 have hbi:=PJ hB;have hlt:∀j i,cM (gm ops) j i=true->i<j:=by
  intro j
  induction j using Nat.strongRecOn with
  |_ j ih=>
   intro i hb;obtain⟨o,ho,e,he,hbe,hh⟩:=(hbi j i).1 hb;have:=hB.lt ho he hbe;rcases hh with hh|hh
   ·omega
   ·have:=ih _ this i hh;omega
 refine⟨⟨hlt,?_,?_,?_,?_,?_⟩,hB,?_⟩
 ·intro k
  induction k using Nat.strongRecOn with
  |_ k ih=>
   intro j i h5 h6;obtain⟨o,ho,e,he,hbe,hh⟩:=(hbi k j).1 h5;refine(hbi k i).2 ⟨o,ho,e,he,hbe,.inr ?_⟩;rcases hh with rfl|hh
   ·exact h6
   ·exact ih _ (hB.lt ho he hbe) j i hh h6
 ·intro L hL pre j
  induction j using Nat.strongRecOn generalizing pre with
  |_ j ih=>
   intro suf heq i hb;obtain⟨o,ho,e,he,hbe,hh⟩:=(hbi j i).1 hb;have hm:=hL.X2 pre j suf heq o ho e he hbe;rcases hh with rfl|hh
   ·exact hm
   ·obtain⟨p1,p2,rfl⟩:=List.append_of_mem hm;exact mem_append_left _ (ih _ (hB.lt ho he hbe) p1 (p2++j::suf) (by rw[heq];simp) i hh)
 ·intro j o t ho ht i o' ho' hd;have h5:=(nU ops.toList 0 h4 j o (by simpa using ho)).1 t ht;rw[zero_add]at h5;have:=qo ops.toList 0 h5 i o' (by simpa using ho') hd;rwa[zero_add]at this
 ·intro j o i b ho hg;have h5:=(nU ops.toList 0 h4 j o (by simpa using ho)).2 i b hg;rwa[zero_add]at h5
 ·intro i j o o' t ho ho' ht ht';exact(oB ops.toList 0 h2).2 i j o o' t (by simpa using ho) (by simpa using ho') ht ht'
 grind
theorem oL(hN:dH P){cf:bM}(hcf:m6 P gl cf):∀{d c:Code},Part d c->bJ c=true->j4 P gl cf d:=by
 have key:∀c,bJ c=true->j4 P gl cf c:=by
  intro c h id ops heq;subst heq;obtain⟨h1,h2,h3⟩:=CR h;exact MT hN hcf h1 h2 h3 id ops rfl
 intro d c hp
 induction hp with
 |refl=>grind
 |Iw _ ih=>simp_all[bJ]
 |DZ _ ih=>simp_all[bJ]
 |R2 _ ih=>simp_all[bJ]
 |R0 _ ih=>simp_all[bJ]
 |block _ ih=>grind[bJ]
 |loop _ ih=>grind[bJ]
theorem kO(hN:dH P):A4 P gl:=λ_ hcf _ _ hp h=>oL hN hcf hp h
def ee(fn:Func):Bool:=match fn.body with|some c=>bJ c|none=>true
theorem vF(hN:dH P)(h:∀(f:FuncId) (fn:Func),P.funcs[f]?=some fn->ee fn=true):Eg P gl:=λcf hcf f fn c d hf hb hp=>by grind[oL,ee]
end
section
variable {α:Type}
def Ref(bad x:Bool)(run:Option α)(K:α->Bool):Prop:=x=bad\/ ∃r,run=some r/\x=K r
theorem Ref.bad{b:Bool}{run:Option α}{K:α->Bool}:Ref b b run K:= .inl rfl
theorem Ref.of{b x:Bool}{run:Option α}{K:α->Bool}{r:α}(h:run=some r)(hx:x=K r):Ref b x run K:= .inr ⟨r,h,hx⟩
theorem dI(n:Nat)(c:Nat->Bool):jd n c=c n:=by cases n<;>rfl
theorem CW(n:Int)(c:Int->Bool):M4 n c=c n:=by
 cases n with
 |ofNat n=>exact dI n λn=>c (.ofNat n)
 |negSucc n=>exact dI n λn=>c (.negSucc n)
theorem Fb(a:Option Addr)(K:Option Addr->Bool):Jf a K=K a:=by
 rcases a with _|⟨b,o,s⟩
 ·rfl
 ·show jd b (λb=>jd o λo=>K (some ⟨b,o,s⟩))=_;rw[dI,dI]
theorem dV(v:Value)(K:Value->Bool):jO v K=K v:=by
 cases v with
 |int k n=>exact CW n λn=>K (.int k n)
 |pointer a=>exact Fb a λa=>K (.pointer a)
 |slice a n c=>
  show Jf a (λa=>jd n λn=>jd c λc=>K (.slice a n c))=_;rw[Fb,dI,dI]
 |_=>rfl
theorem gz{β:Type}{bad:Bool}{x:Option α}{K:α->Bool}{run:Option β}{K':β->Bool}(h:∀a,x=some a->Ref bad (K a) run K'):Ref bad (uF bad x K) run K':=by
 cases x with
 |none=>exact .bad
 |some a=>exact h a rfl
theorem dc{β:Type}{bad x y:Bool}{b:Bool}{run:Option β}{K':β->Bool}(h1:b=true->Ref bad x run K')(h2:b=false->Ref bad y run K'):Ref bad (ft b x y) run K':=by
 cases b with
 |true=>exact h1 rfl
 |false=>exact h2 rfl
theorem uQ(l:List Value):∀(K:List Value->Bool),uP l K=K l:=by
 induction l with
 |nil=>intro K;rfl
 |cons a l ih=>intro K;exact ih λr=>K (a::r)
theorem zl:∀(l:List α)(i:Nat),nth l i=l[i]?
 |[],_=>rfl
 |_::_,0=>rfl
 |_::l,i+1=>zl l i
theorem Cj(v:Value)(bad:Bool):∀(l:List Value)(i:Nat)(K:List Value->Bool),D0 v bad l i K=if i<l.length then K (l.set i v)else bad
 |[],i,K=>by simp[D0]
 |a::l,0,K=>by show K (v::l)=_;simp
 |a::l,i+1,K=>by
  show D0 v bad l i (λr=>K (a::r))=_;rw[Cj v bad l i];simp
theorem HT.eB(b:Option bO):∀(p:CG)(t:HT)(K:HT->Bool),HT.mA b p t K=K (HT.set b p t)
 |.e,.nil,_=>rfl
 |.e,.node ..,_=>rfl
 |.l p,.nil,K=>HT.eB b p .nil λl=>K (.node none l .nil)
 |.l p,.node v l r,K=>HT.eB b p l λl=>K (.node v l r)
 |.r p,.nil,K=>HT.eB b p .nil λr=>K (.node none .nil r)
 |.r p,.node v l r,K=>HT.eB b p r λr=>K (.node v l r)
theorem tf(b:bO)(K:bO->Bool):Fc b K=K b:=by
 cases b with
 |cells cs t sz wr=>exact uQ cs λcs=>K (.cells cs t sz wr)
 |map es=>rfl
 |loop=>rfl
theorem xb(u:cX)(h:aa)(K:aa->Bool):PF u h K=K (u.app h):=by
 cases u with
 |no=>rfl
 |set k b=>show Pa k b h K=_;unfold Pa;rw[tf,HT.eB];rfl
 |push b=>show sC b h K=_;unfold sC;rw[tf,HT.eB,dI];rfl
 |move k b=>show IL k b h K=_;unfold IL;rw[tf,HT.eB,HT.eB,dI];rfl
 |all h'=>rfl
theorem RN{k:IntKind}{m:Nat}(h:m<lim k):k.wrap (m:Int)=m:=by
 have key:∀(s:Bool)(b:Nat),(m:Int)<2^b->(s=true->(m:Int)<2^(b-1))->(if s&&decide ((m:Int)%2^b>=2^(b-1))then(m:Int)%2^b-2^b else(m:Int)%2^b)=m:=by
  intro s b h1 h2;have hm:(m:Int)%2^b=m:=Int.emod_eq_of_lt (by omega) h1;rw[hm]
  cases s with
  |false=>rfl
  |true=>
   have:=h2 rfl;rw[if_neg];simp only[Bool.true_and,ge_iff_le,decide_eq_true_eq];omega
 unfold IntKind.wrap
 cases k<;>exact key _ _ (by simp only[lim,IntKind.bits]at h⊢;omega) (by simp only[lim,IntKind.bits,IntKind.signed]at h⊢;first|(intro hh;omega)|(intro hh;cases hh))
theorem GN(k:IntKind)(n:Int)(K:Int->Bool):Pm k n K=K (k.wrap n):=by
 cases n with
 | ofNat m=>
  show ft (Nat.blt m (lim k)) (jd m λm=>K (.ofNat m)) (M4 (k.wrap (.ofNat m)) K)=_
  cases hb:Nat.blt m (lim k)with
  |true=>
   have hlt:m<lim k:=by simpa[blt_eq]using hb
   show jd m (λm=>K (.ofNat m))=_;rw[dI];exact congrArg K (RN hlt).symm
  |false=>exact CW _ K
 |negSucc m=>exact CW _ K
theorem tq(a b:Int):Fy a b=decide (a<b):=by
 cases a with
 |ofNat m=>cases b with
  |ofNat n=>show Nat.blt m n=_;rw[Bool.eq_iff_iff];simp[blt_eq]
  |negSucc n=>show false=_;rw[Bool.eq_iff_iff];simp;omega
 |negSucc m=>cases b with
  |ofNat n=>show true=_;rw[Bool.eq_iff_iff];simp;omega
  |negSucc n=>show Nat.blt n m=_;rw[Bool.eq_iff_iff];simp[blt_eq];omega
theorem y5(a b:Int):Jl a b=(a==b):=by
 cases a with
 |ofNat m=>cases b with
  |ofNat n=>show Nat.beq m n=_;rw[Bool.eq_iff_iff];simp[beq_eq];omega
  |negSucc n=>show false=_;rw[Bool.eq_iff_iff];simp
 |negSucc m=>cases b with
  |ofNat n=>show false=_;rw[Bool.eq_iff_iff];simp
  |negSucc n=>show Nat.beq n m=_;rw[Bool.eq_iff_iff];simp[beq_eq];omega
end
section
def q9(cx:Cx)(cf:bM):Prop:=∀f args h K,Ref cx.bad (cx.cf f args h K) (cf f args h) λr=>K r.1 r.2
noncomputable abbrev lO(h:aa)(K:Value->aa->Bool)(r:Value×cX):Bool:=K r.1 (r.2.app h)
theorem zp{bad:Bool}{r:Option (Value×cX)}{h:aa}{K:Value->aa->Bool}{run:Option (Value×cX)}(hr:∀x,r=some x->run=some x):Ref bad (H8 bad r h K) run (lO h K):=by
 unfold H8;refine gz λx hx=> .of (hr x hx) ?_;obtain⟨v,u⟩:=x;show PF u h (λh=>jO v λv=>K v h)=_;rw[xb,dV]
theorem sj{P:Program}{cf:bM}{ρ:Operand->Value}{o:Oper}{h:aa}(hc:aQ o=false):cY P fV ρ o h=cY P cf ρ o h:=by
 obtain⟨dst,op,ty,pos,after,guard⟩:=o
 cases op<;>try rfl
 rename_i c;obtain⟨callee,args,ats⟩:=c
 cases callee with
 |value f=>simp[aQ]at hc
 |invoke r m=>rfl
 |builtin b=>cases b<;>rfl
theorem zn{P:Program}{cf:bM}{ρ:Operand->Value}{o:Oper}{h:aa}(hc:aQ o=false):aV P fV ρ o h=aV P cf ρ o h:=by
 unfold aV;rw[sj hc]
variable {cx:Cx} {cf:bM} {ρ:Operand->Value} {h:aa} {K:Value->aa->Bool} {dst:Option Tmp} {ty:TypeId} {pos:String} {after:Array Edge} {guard:Option (Nat×Bool)}
theorem gC{o:Oper}(hc:aQ o=false):Ref cx.bad (gen cx o ρ h K) (aV cx.P cf ρ o h) (lO h K):=
 zp λx hx=>by rw[<-zn hc];exact hx
theorem run_pure{P:Program}{o:Oper}{v:Value}(hp:aT P ρ o=some v):aV P cf ρ o h=some (v,.no):=by
 unfold aV;rw[hp]
theorem NL{x:Operand}:Ref cx.bad (I7 x cx ⟨dst,.move x,ty,pos,after,guard⟩ ρ h K) (aV cx.P cf ρ ⟨dst,.move x,ty,pos,after,guard⟩ h) (lO h K):=
 .of (run_pure (v:=ρ x) rfl) (dV _ _)
theorem Hg{x:Operand}:Ref cx.bad (I7 x cx ⟨dst,.assign x,ty,pos,after,guard⟩ ρ h K) (aV cx.P cf ρ ⟨dst,.assign x,ty,pos,after,guard⟩ h) (lO h K):=
 .of (run_pure (v:=ρ x) rfl) (dV _ _)
theorem Bv{α:Type}{v:Value}{bad:Bool}{K:Bool->Bool}{run:Option α}{K':α->Bool}(hh:∀b,v = .bool b->Ref bad (K b) run K'):Ref bad (vH v bad K) run K':=by
 rcases EL v bad K with⟨h1,_⟩|⟨b,h1,h2⟩
 ·rw[h1];exact .bad
 ·rw[h2];exact hh b h1
theorem lT{α:Type}{v:Value}{bad els:Bool}{K:IntKind->Int->Bool}{run:Option α}{K':α->Bool}(he:Ref bad els run K')(hh:∀k n,v = .int k n->Ref bad (K k n) run K'):Ref bad (AK v els K) run K':=by
 rcases Qt v els K with⟨h1,_⟩|⟨k,n,h1,h2⟩
 ·rw[h1];exact he
 ·rw[h2];exact hh k n h1
theorem pO{α:Type}{v:Value}{bad els:Bool}{K:Option Addr->Bool}{run:Option α}{K':α->Bool}(he:Ref bad els run K')(hh:∀a,v = .pointer a->Ref bad (K a) run K'):Ref bad (F8 v els K) run K':=by
 rcases Q5 v els K with⟨h1,_⟩|⟨a,h1,h2⟩
 ·rw[h1];exact he
 ·rw[h2];exact hh a h1
theorem GC{α:Type}{v:Value}{bad:Bool}{K:ByteArray->Bool}{run:Option α}{K':α->Bool}(hh:∀s,v = .string s->Ref bad (K s) run K'):Ref bad (xz v bad K) run K':=by
 rcases IF v bad K with⟨h1,_⟩|⟨a,h1,h2⟩
 ·rw[h1];exact .bad
 ·rw[h2];exact hh a h1
theorem zQ{α:Type}{v:Value}{bad:Bool}{K:Option Addr->Nat->Nat->Bool}{run:Option α}{K':α->Bool}(hh:∀a n c,v = .slice a n c->Ref bad (K a n c) run K'):Ref bad (zP v bad K) run K':=by
 rcases LF v bad K with⟨h1,_⟩|⟨a,n,c,h1,h2⟩
 ·rw[h1];exact .bad
 ·rw[h2];exact hh a n c h1
theorem Kt{α:Type}{v:Value}{bad:Bool}{K:Fn->Array Value->Array Value->Bool}{run:Option α}{K':α->Bool}(hh:∀f a c,v = .func f a c->Ref bad (K f a c) run K'):Ref bad (funcF v bad K) run K':=by
 rcases Fl v bad K with⟨h1,_⟩|⟨f,a,c,h1,h2⟩
 ·rw[h1];exact .bad
 ·rw[h2];exact hh f a c h1
theorem Mf{α:Type}{v:Value}{bad:Bool}{K:Array Value->Bool}{run:Option α}{K':α->Bool}(hh:∀a,v = .agg a->Ref bad (K a) run K'):Ref bad (PA v bad K) run K':=by
 rcases PB v bad K with⟨h1,_⟩|⟨a,h1,h2⟩
 ·rw[h1];exact .bad
 ·rw[h2];exact hh a h1
theorem IJ{α:Type}{v:Value}{bad:Bool}{K:Array Value->Bool}{run:Option α}{K':α->Bool}(hh:∀a,v = .tuple a->Ref bad (K a) run K'):Ref bad (D5 v bad K) run K':=by
 rcases LS v bad K with⟨h1,_⟩|⟨a,h1,h2⟩
 ·rw[h1];exact .bad
 ·rw[h2];exact hh a h1
theorem FU{α:Type}{j:Int}{bad:Bool}{K:Nat->Bool}{run:Option α}{K':α->Bool}(hh:∀n:Nat,j=n->Ref bad (K n) run K'):Ref bad (Td j bad K) run K':=by
 cases j with
 |ofNat n=>exact hh n rfl
 |negSucc n=>exact .bad
theorem na{α:Type}{a:Option Addr}{bad:Bool}{K:Nat->Nat->Bool}{run:Option α}{K':α->Bool}(hh:∀b i,a=some ⟨b,i,none⟩->Ref bad (K b i) run K'):Ref bad (EC a bad K) run K':=by
 rcases a with _|⟨b,i,_|s⟩
 ·exact .bad
 ·exact hh b i rfl
 ·exact .bad
theorem Gk{α:Type}{k:Nat}{bad:Bool}{K:List Value->TypeId->Nat->Bool->Bool}{run:Option α}{K':α->Bool}(hh:∀cs t sz wr,h.get k=some (.cells cs t sz wr)->Ref bad (K cs t sz wr) run K'):Ref bad (Rn h k bad K) run K':=by
 unfold Rn;refine gz λB hB=>?_
 cases B with
 |cells cs t sz wr=>exact hh cs t sz wr hB
 |map es=>exact .bad
 |loop=>exact .bad
theorem NY{c a b:Operand}:Ref cx.bad (My c a b cx ⟨dst,.pick c a b,ty,pos,after,guard⟩ ρ h K) (aV cx.P cf ρ ⟨dst,.pick c a b,ty,pos,after,guard⟩ h) (lO h K):=by
 unfold My;refine Bv λt ht=>?_;refine dc (λhb=>?_) (λhb=>?_)
 ·rw[dV];exact .of (run_pure (v:=ρ a) (by simp[aT,ht,hb])) rfl
 ·rw[dV];exact .of (run_pure (v:=ρ b) (by simp[aT,ht,hb])) rfl
theorem F0{b:bO}{f:Nat->Value}{o:Oper}(hp:aT cx.P ρ o=none)(hr:aY cx.P ρ o h=none)(ha:aS cx.P ρ o=some (b,f))(hf:∀k,f k = .pointer (some ⟨k,0,none⟩)):
  Ref cx.bad (QX b h K) (aV cx.P cf ρ o h) (lO h K):=by
 refine .of (r:=(f h.next,.push b)) (by unfold aV;rw[hp,hr,ha]) ?_;unfold QX;rw[dI];have:=xb (.push b) h (λh'=>K (Value.pointer (some ⟨h.next,0,none⟩)) h');rw[hf];exact this
theorem J2{t:TypeId}:Ref cx.bad (Hm t cx ⟨dst,.alloc t,ty,pos,after,guard⟩ ρ h K) (aV cx.P cf ρ ⟨dst,.alloc t,ty,pos,after,guard⟩ h) (lO h K):=by
 unfold Hm;refine gz λb hb=>?_;unfold Mi at hb;split at hb
 ·next z hz=>
  split at hb
  ·next hs=>
   obtain rfl:=oI hb;exact F0 (f:=λk=> .pointer (some ⟨k,0,none⟩)) rfl rfl (by simp only[aS,hz,hs,if_true]) λ_=>rfl
  ·cases hb
 ·cases hb
theorem PM{t:TypeId}{x:Operand}:Ref cx.bad (SJ t x cx ⟨dst,.box t x,ty,pos,after,guard⟩ ρ h K) (aV cx.P cf ρ ⟨dst,.box t x,ty,pos,after,guard⟩ h) (lO h K):=by
 unfold SJ;refine dc (λhb=>?_) (λ_=>gC rfl);rw[Gv]at hb;rw[dV];have hc:(ρ x).cells = #[ρ x]:=by
  generalize ρ x=v at hb
  cases v<;>first|rfl|(simp[di]at hb)
 refine F0 (f:=λk=> .pointer (some ⟨k,0,none⟩)) rfl rfl ?_ λ_=>rfl;simp only[aS,hc];rw[if_pos (by simp[hb])]
theorem NA{t:TypeId}{a:Operand}:Ref cx.bad (Mx t a cx ⟨dst,.load t a,ty,pos,after,guard⟩ ρ h K) (aV cx.P cf ρ ⟨dst,.load t a,ty,pos,after,guard⟩ h) (lO h K):=by
 have hrun:∀v,ai cx.P t h (ρ a)=some v->aV cx.P cf ρ ⟨dst,.load t a,ty,pos,after,guard⟩ h=some (v,.no):=λv hv=>by
  show(match aY cx.P ρ ⟨dst,.load t a,ty,pos,after,guard⟩ h with|some v=>some (v,cX.no)|none=>_)=_;simp only[aY,hv]
 unfold Mx;refine dc (λhb=>?_) (λ_=>gz λv hv=> .of (hrun v hv) rfl);refine pO .bad λad had=>na λb i hbi=>Gk λcs te sz wr hg=>gz λv hv=> .of (hrun v ?_) rfl;rw[zl]at hv;unfold DA at hb;simp only[and_eq_true,not_eq_true']at hb;obtain⟨hb1,hb2⟩:=hb
 cases hu:cx.P.underlying t with
 |none=>rw[hu]at hb1;cases hb1
 |some u=>simp only[ai,hu,had,hbi,hg,hb2,false_eq_true,if_false,hv]
theorem LK{t:TypeId}{a x:Operand}:Ref cx.bad (Hq t a x cx ⟨dst,.store t a x,ty,pos,after,guard⟩ ρ h K) (aV cx.P cf ρ ⟨dst,.store t a x,ty,pos,after,guard⟩ h) (lO h K):=by
 have hrun:∀r,aw cx.P t (ρ a) (ρ x) h=some r->aV cx.P cf ρ ⟨dst,.store t a x,ty,pos,after,guard⟩ h=some r:=λr hr=>by
  show cY cx.P cf ρ ⟨dst,.store t a x,ty,pos,after,guard⟩ h=_;exact hr
 unfold Hq;refine dc (λhb=>?_) (λ_=>zp hrun);simp only[and_eq_true,Gv]at hb;obtain⟨hb1,hb2⟩:=hb;have hc:(ρ x).cells = #[ρ x]:=by
  generalize ρ x=v at hb2
  cases v<;>first|rfl|(simp[di]at hb2)
 refine pO .bad λad had=>na λb i hbi=>Gk λcs te sz wr hg=>dc (λhw=>?_) (λ_=> .bad);rw[dV,Cj];by_cases hlt:i<cs.length
 ·rw[if_pos hlt,HT.eB];refine .of (r:=(undef,.set b (.cells (cs.set i (ρ x)) te sz true))) (hrun _ ?_) rfl;have hs1:aB cx.P t=some 1:=by simpa[Si]using hb1
  subst hw;simp only[aw,had,hbi,hc,hs1,List.size_toArray,length_cons,length_nil,storeAt,hg];rw[if_pos trivial,if_pos ⟨by omega,by simpa using hb2⟩];simp only[map_some];rw[List.set_eq_take_append_cons_drop,if_pos hlt];simp
 ·rw[if_neg hlt];exact .bad
end
section
variable {cx:Cx} {cf:bM} {ρ:Operand->Value} {h:aa} {K:Value->aa->Bool} {dst:Option Tmp} {ty:TypeId} {pos:String} {after:Array Edge} {guard:Option (Nat×Bool)}
theorem Dk{x:Operand}:Ref cx.bad (uG x cx ⟨dst,.nilCheck x,ty,pos,after,guard⟩ ρ h K) (aV cx.P cf ρ ⟨dst,.nilCheck x,ty,pos,after,guard⟩ h) (lO h K):=by
 unfold uG;refine pO (gC rfl) λa ha=>gz λad had=>?_;subst had;exact .of (run_pure (v:= .pointer (some ad)) (by simp[aT,ha])) rfl
theorem uA{op:BinOp}{f:Int->Int->Int}{t u:TypeId}{x y:Operand}(hf:∀k a b,ay cx.P op t (.int k a) (.int k b)=some (.int k (k.wrap (f a b)))):
  Ref cx.bad (yh f x y cx ⟨dst,.binOp op t x y u,ty,pos,after,guard⟩ ρ h K) (aV cx.P cf ρ ⟨dst,.binOp op t x y u,ty,pos,after,guard⟩ h) (lO h K):=by
 unfold yh;refine lT (gC rfl) λk a ha=>lT .bad λk' b hb=>dc (λhk=>?_) (λ_=> .bad);obtain rfl:=C6 hk;rw[GN];exact .of (run_pure (v:= .int k (k.wrap (f a b))) (by simp only[aT,ha,hb,hf])) rfl
theorem qw{op:BinOp}{f:Int->Int->Bool}{t u:TypeId}{x y:Operand}(hf:∀k a b,ay cx.P op t (.int k a) (.int k b)=some (.bool (f a b))):
  Ref cx.bad (ED f x y cx ⟨dst,.binOp op t x y u,ty,pos,after,guard⟩ ρ h K) (aV cx.P cf ρ ⟨dst,.binOp op t x y u,ty,pos,after,guard⟩ h) (lO h K):=by
 unfold ED;refine lT (gC rfl) λk a ha=>lT .bad λk' b hb=>dc (λhk=>?_) (λ_=> .bad);obtain rfl:=C6 hk;have hp:=run_pure (cf:=cf) (h:=h) (P:=cx.P) (ρ:=ρ) (o:=⟨dst,.binOp op t x y u,ty,pos,after,guard⟩) (v:= .bool (f a b)) (by simp only[aT,ha,hb,hf]);refine dc (λhc=>?_) (λhc=>?_)
 ·rw[hc]at hp;exact .of hp rfl
 ·rw[hc]at hp;exact .of hp rfl
theorem J6{op:BinOp}{t u:TypeId}{x y:Operand}:Ref cx.bad (Vc op t x y u cx ⟨dst,.binOp op t x y u,ty,pos,after,guard⟩ ρ h K) (aV cx.P cf ρ ⟨dst,.binOp op t x y u,ty,pos,after,guard⟩ h) (lO h K):=by
 cases op with
 |add=>exact uA λk a b=>by simp[ay,Vz]
 |sub=>exact uA λk a b=>by simp[ay,VB]
 |mul=>exact uA λk a b=>by simp[ay,VA]
 |eql=>exact qw λk a b=>by simp[ay,intCmp,y5]
 |neq=>exact qw λk a b=>by simp only[ay,intCmp,Y9,y5,if_true,map_some];simp[bne]
 |lss=>exact qw λk a b=>by simp[ay,intCmp,tq]
 |leq=>exact qw λk a b=>by simp only[ay,intCmp,Y8,tq,if_true,map_some];rw[<-decide_not];simp[Int.not_lt]
 |gtr=>exact qw λk a b=>by simp[ay,intCmp,Y7,tq]
 |geq=>exact qw λk a b=>by simp only[ay,intCmp,Y6,tq,if_true,map_some];rw[<-decide_not];simp[Int.not_lt]
 |_=>exact gC (o:=⟨dst,_,ty,pos,after,guard⟩) rfl
theorem O8{op:UnOp}{t:TypeId}{x:Operand}:Ref cx.bad (Vd op t x cx ⟨dst,.unOp op t x,ty,pos,after,guard⟩ ρ h K) (aV cx.P cf ρ ⟨dst,.unOp op t x,ty,pos,after,guard⟩ h) (lO h K):=by
 cases op with
 |not=>
  show Ref cx.bad (UB x cx ⟨dst,.unOp .not t x,ty,pos,after,guard⟩ ρ h K) _ _;unfold UB;refine Bv λb hb=>?_;have hp:=run_pure (cf:=cf) (h:=h) (P:=cx.P) (ρ:=ρ) (o:=⟨dst,.unOp .not t x,ty,pos,after,guard⟩) (v:= .bool !b) (by simp only[aT,hb,Cv]);refine dc (λhc=>?_) (λhc=>?_)
  ·rw[hc]at hp;exact .of hp rfl
  ·rw[hc]at hp;exact .of hp rfl
 |neg=>rw[show Vd .neg t x=gen from rfl];exact gC rfl
 |xor=>rw[show Vd .xor t x=gen from rfl];exact gC rfl
 |plus=>rw[show Vd .plus t x=gen from rfl];exact gC rfl
theorem EP{s d:TypeId}{x:Operand}:Ref cx.bad (yn s d x cx ⟨dst,.convert s d x,ty,pos,after,guard⟩ ρ h K) (aV cx.P cf ρ ⟨dst,.convert s d x,ty,pos,after,guard⟩ h) (lO h K):=by
 unfold yn
 cases hk:Ye cx.P s d with
 |none=>exact gC rfl
 | some k=>
  refine lT .bad λk' n hn=>?_;rw[GN];refine .of (run_pure (v:= .int k (k.wrap n)) ?_) rfl;unfold Ye at hk;split at hk
  ·next u k2 hs hd=>
   obtain rfl:=oI hk;simp only[aT,eL,hs,hd,hn]
  ·cases hk
theorem uw(b i n:Nat):Addr.add ⟨b,i,none⟩ n=⟨b,i+n,none⟩:=by
 unfold Addr.add;split
 ·next hn=>subst hn;rfl
 ·rfl
theorem AG{s:TypeId}{x:Operand}{f:Nat}:Ref cx.bad (rY s x f cx ⟨dst,.fieldAddr s x f,ty,pos,after,guard⟩ ρ h K) (aV cx.P cf ρ ⟨dst,.fieldAddr s x f,ty,pos,after,guard⟩ h) (lO h K):=by
 unfold rY;refine gz λoff hoff=>pO .bad λa ha=>na λb i hbi=>?_;rw[dI];refine .of (run_pure (v:= .pointer (some ⟨b,i+off,none⟩)) ?_) rfl;subst hbi;unfold Vs at hoff;split at hoff
 ·next fields hu=>
  split at hoff
  ·next fd hfd=>
   split at hoff
   ·next hsz=>
    obtain rfl:=oI hoff;simp only[aT,hu,ha,hfd];rw[if_pos hsz,uw]
   ·cases hoff
  ·cases hoff
 ·cases hoff
theorem Kq{s:TypeId}{x:Operand}{f:Nat}:Ref cx.bad (Ho s x f cx ⟨dst,.field s x f,ty,pos,after,guard⟩ ρ h K) (aV cx.P cf ρ ⟨dst,.field s x f,ty,pos,after,guard⟩ h) (lO h K):=by
 unfold Ho
 cases hoff:HJ cx.P s f with
 |none=>exact gC rfl
 | some off=>
  refine Mf λcs hcs=>gz λv hv=>?_;rw[dV];refine .of (run_pure (v:=v) ?_) rfl;rw[zl]at hv;unfold HJ at hoff;split at hoff
  ·next fields hu=>
   split at hoff
   ·next fd hfd=>
    split at hoff
    ·next hp=>
     obtain rfl:=oI hoff;unfold DA at hp;simp only[and_eq_true,not_eq_true']at hp;obtain⟨hp1,hp2⟩:=hp
     cases hu2:cx.P.underlying fd.type with
     |none=>rw[hu2]at hp1;cases hp1
     |some u=>
      simp only[aT,hu,hcs,hfd,partOf,hu2,hp2,false_eq_true,if_false];simpa using hv
    ·cases hoff
   ·cases hoff
  ·cases hoff
theorem AJ{t:TypeId}{x i:Operand}:Ref cx.bad (rZ t x i cx ⟨dst,.indexAddr t x i,ty,pos,after,guard⟩ ρ h K) (aV cx.P cf ρ ⟨dst,.indexAddr t x i,ty,pos,after,guard⟩ h) (lO h K):=by
 unfold rZ;refine gz λinf hinf=>?_;obtain⟨len,n⟩:=inf;refine lT .bad λk j hj=>FU λm hm=>?_;subst hm;unfold R5 at hinf;split at hinf
 ·next ln e hu=>
  obtain⟨n',hn,he⟩:=map_eq_some_iff.1 hinf;simp only[Prod.mk.injEq]at he;obtain⟨rfl,rfl⟩:=he;refine pO .bad λa ha=>?_;unfold elemAt;refine dc (λhlt=>na λb o hbo=>?_) (λ_=> .bad);rw[dI];refine .of (run_pure (v:= .pointer (some ⟨b,o+m*n',none⟩)) ?_) rfl;subst hbo;have hlt:m<ln:=by simpa[blt_eq]using hlt
  simp only[aT,hu,ha,hj,hn];rw[if_pos ⟨by omega,by omega⟩,uw];rfl
 ·next e hu=>
  obtain⟨n',hn,he⟩:=map_eq_some_iff.1 hinf;simp only[Prod.mk.injEq]at he;obtain⟨rfl,rfl⟩:=he;refine zQ λa l c ha=>?_;unfold elemAt;refine dc (λhlt=>na λb o hbo=>?_) (λ_=> .bad);rw[dI];refine .of (run_pure (v:= .pointer (some ⟨b,o+m*n',none⟩)) ?_) rfl;subst hbo;have hlt:m<l:=by simpa[blt_eq]using hlt
  simp only[aT,hu,ha,hj,hn];rw[if_pos ⟨by omega,by omega⟩,uw];rfl
 ·cases hinf
theorem KA{t:TypeId}{x i:Operand}:Ref cx.bad (Hp t x i cx ⟨dst,.index t x i,ty,pos,after,guard⟩ ρ h K) (aV cx.P cf ρ ⟨dst,.index t x i,ty,pos,after,guard⟩ h) (lO h K):=by
 unfold Hp;refine dc (λhs=>GC λs hsx=>lT .bad λk j hj=>FU λm hm=>gz λb hb=>?_) (λ_=>gC rfl);rw[dI];subst hm;rw[zl]at hb;refine .of (run_pure (v:= .int .u8 b.toNat) ?_) rfl;unfold isStr at hs;split at hs
 ·next hu=>
  simp only[aT,hu,hsx,hj];rw[if_pos (by omega)];simp only[Int.toNat_natCast,hb]
 ·cases hs
theorem Fa{x:Operand}{i:Nat}:Ref cx.bad (yp x i cx ⟨dst,.extract x i,ty,pos,after,guard⟩ ρ h K) (aV cx.P cf ρ ⟨dst,.extract x i,ty,pos,after,guard⟩ h) (lO h K):=by
 unfold yp;refine IJ λvs hvs=>gz λv hv=>?_;rw[dV];rw[zl]at hv;exact .of (run_pure (v:=v) (by simp only[aT,hvs];simpa using hv)) rfl
theorem yJ:∀(l:List Operand)(K:List Value->Bool),fArgs ρ l K=K (l.map ρ)
 |[],_=>rfl
 |x::l,K=>by
  show jO (ρ x) (λv=>fArgs ρ l λr=>K (v::r))=_;rw[dV,yJ l];rfl
theorem BE{a:Array Value}(h:uK a=true):a.size=0:=by
 unfold uK at h;rw[<-length_toList];generalize a.toList=l at h
 cases l with
 |nil=>rfl
 |cons x l=>cases h
theorem MC(hcf:q9 cx cf){c:Call}:Ref cx.bad (Mw c cx ⟨dst,.call c,ty,pos,after,guard⟩ ρ h K) (aV cx.P cf ρ ⟨dst,.call c,ty,pos,after,guard⟩ h) (lO h K):=by
 obtain⟨callee,args,ats⟩:=c
 cases callee with
 | value f=>
  show Ref cx.bad (CN f args ats cx ⟨dst,.call ⟨.value f,args,ats⟩,ty,pos,after,guard⟩ ρ h K) _ _;unfold CN;refine Kt λfn first captured hf=>?_
  cases fn with
  |func g=>
   show Ref cx.bad (ft (Nat.blt g YB) (fArgs ρ args.toList λvs=>uP (first.toList++vs++captured.toList) λvs=>cx.cf g vs h K) cx.bad) _ _;refine dc (λhg=>?_) (λ_=> .bad);have hg:g<YB:=by simpa[blt_eq]using hg
   rw[yJ,uQ];rcases hcf g (first.toList++args.toList.map ρ++captured.toList) h K with hb|⟨r,h1,h2⟩
   ·rw[hb];exact .bad
   ·refine .of (r:=(r.1,.all r.2)) ?_ h2;show cY cx.P cf ρ ⟨dst,.call ⟨.value f,args,ats⟩,ty,pos,after,guard⟩ h=_;simp only[cY,pv,hf,h1,map_some,if_pos hg]
  |yield k=>
   show Ref cx.bad (ft (uK first) (ft (uK captured) (fArgs ρ args.toList λvs=>jd (YB+k) λid=>cx.cf id vs h K) cx.bad) cx.bad) _ _;refine dc (λh1=>dc (λh2=>?_) (λ_=> .bad)) (λ_=> .bad);rw[yJ,dI];rcases hcf (YB+k) (args.toList.map ρ) h K with hb|⟨r,h3,h4⟩
   ·rw[hb];exact .bad
   ·refine .of (r:=(r.1,.all r.2)) ?_ h4;show cY cx.P cf ρ ⟨dst,.call ⟨.value f,args,ats⟩,ty,pos,after,guard⟩ h=_;simp only[cY,pv,hf,h3,map_some,if_pos (show first.size=0/\captured.size=0 from⟨BE h1,BE h2⟩)]
  |method _=>exact .bad
  |methodOf _ _=>exact .bad
  |via _ _ _ _=>exact .bad
 |invoke r m=>exact .bad
 | builtin b=>
  by_cases hb1:b = .append
  ·subst hb1;show Ref cx.bad (yr args ats cx ⟨dst,.call ⟨.builtin .append,args,ats⟩,ty,pos,after,guard⟩ ρ h K) _ _;unfold yr;refine zp λr hr=>?_;show cY cx.P cf ρ ⟨dst,.call ⟨.builtin .append,args,ats⟩,ty,pos,after,guard⟩ h=_;exact hr
  by_cases hb2:b = .len
  ·subst hb2;show Ref cx.bad (MD args ats cx ⟨dst,.call ⟨.builtin .len,args,ats⟩,ty,pos,after,guard⟩ ρ h K) _ _;unfold MD
   cases hl:Da cx.P args ats with
   |none=>exact gC rfl
   | some x=>
    refine zQ λa n c hx=>?_;refine .of (r:=(.int .i64 n,.no)) ?_ rfl;unfold Da at hl;split at hl
    ·next y t hy ht=>
     split at hl
     ·next hs=>
      obtain rfl:=oI hl;unfold R7 at hs;split at hs
      ·next e hu=>
       show(match aY cx.P ρ ⟨dst,.call ⟨.builtin .len,args,ats⟩,ty,pos,after,guard⟩ h with|some v=>some (v,cX.no)|none=>_)=_;simp only[aY,hy,ht,hu,hx]
      ·cases hs
     ·cases hl
    ·cases hl
  have hg:Mw ⟨.builtin b,args,ats⟩=gen:=by
   cases b<;>first|rfl|exact absurd rfl hb1|exact absurd rfl hb2
  rw[hg];exact gC rfl
theorem xk(hcf:q9 cx cf)(o:Oper):Ref cx.bad (Ti o.op cx o ρ h K) (aV cx.P cf ρ o h) (lO h K):=by
 obtain⟨dst,op,ty,pos,after,guard⟩:=o
 cases op with
 |move x=>exact NL
 |assign x=>exact Hg
 |pick c a b=>exact NY
 |alloc t=>exact J2
 |box t x=>exact PM
 |load t a=>exact NA
 |store t a x=>exact LK
 |nilCheck x=>exact Dk
 |binOp op t x y u=>exact J6
 |unOp op t x=>exact O8
 |convert s d x=>exact EP
 |fieldAddr s x f=>exact AG
 |field s x f=>exact Kq
 |indexAddr t x i=>exact AJ
 |index t x i=>exact KA
 |extract x i=>exact Fa
 |call c=>exact MC hcf
 |go _=>exact .bad
 |defer _=>exact .bad
 |panic _=>exact .bad
 |send _ _=>exact .bad
 |recv _ _ _=>exact .bad
 |select _ _=>exact .bad
 |_=>exact gC (o:=⟨dst,_,ty,pos,after,guard⟩) rfl
end
section
variable {cx:Cx} {cf:bM}
def eD(n:Nat)(e:Env)(l:List Value):Prop:=l.length=n/\n<=256/\∀t,Env.get t e=l.getD t undef
theorem yG{n:Nat}{e:Env}{l:List Value}(hr:eD n e l)(gl:Nat->Bool):Jd gl e=ev gl l:=by
 funext x
 cases x with
 |tmp t=>exact hr.2.2 t
 |const v=>
  show PV (plain v) v fb=if plain v then v else fb
  cases plain v<;>rfl
 |global g=>
  show PV (gl g) _ fb=if gl g then _ else fb
  cases gl g<;>rfl
 |func f=>rfl
theorem qG{n:Nat}{e:Env}{l:List Value}(hr:eD n e l)(dst:Option Tmp)(v:Value):∃e',eD n e' (fO l dst v)/\∀(K:Env->Bool),nW n dst e v K=K e':=by
 cases dst with
 |none=>exact⟨e,hr,λK=>rfl⟩
 | some d=>
  cases hd:Nat.blt d n with
  | true=>
   have hlt:d<n:=by simpa[blt_eq]using hd
   refine⟨Env.new d e v,⟨by rw[jl];exact hr.1,hr.2.1,λt=>?_⟩,λK=>?_⟩
   ·rw[Env.C4 (lt_of_lt_of_le hlt hr.2.1),gD];split
    ·next he=>subst he;rw[B9 (by rw[hr.1];exact hlt)];rfl
    ·next he=>rw[DD (λhh=>he (oI hh).symm),<-gD];exact hr.2.2 t
   ·show ft (Nat.blt d n) (Env.put d e v K) (K e)=_;rw[hd];exact Env.put_eq d e v K
  | false=>
   have hge:n<=d:=by
    rcases lt_or_ge d n with h|h
    ·have:Nat.blt d n=true:=by simpa[blt_eq]using h
     rw[hd]at this;cases this
    ·exact h
   refine⟨e,?_,λK=>?_⟩
   ·have:fO l (some d) v=l:=by simp only[fO];exact List.set_eq_of_length_le (by rw[hr.1];exact hge)
    rw[this];exact hr
   ·show ft (Nat.blt d n) (Env.put d e v K) (K e)=_;rw[hd];rfl
theorem Kv(v:Value)(bad:Bool)(f:Bool->Bool)(sk:Bool):yX v bad f sk=bad\/(∃b,v = .bool b/\yX v bad f sk=f b)\/ ∃vs,v = .tuple vs/\yX v bad f sk=sk:=by
 cases v with
 |bool b=>exact .inr (.inl ⟨b,rfl,rfl⟩)
 |tuple vs=>exact .inr (.inr ⟨vs,rfl,rfl⟩)
 |_=>exact .inl rfl
theorem GJ{n:Nat}{e:Env}{l:List Value}(hr:eD n e l){ops:Array Oper}(o:Oper)(bad run skip:Bool):
  zY ops e bad o.guard run skip=bad\/(eC ops l o=some true/\zY ops e bad o.guard run skip=run)\/(eC ops l o=some false/\zY ops e bad o.guard run skip=skip):=by
 unfold eC
 cases hg:o.guard with
 |none=>exact .inr (.inl ⟨rfl,rfl⟩)
 | some g=>
  obtain⟨j,want⟩:=g
  cases hd:(ops[j]?).bind (·.dst)with
  |none=>
   left;show uF bad (Nk ops j) _=bad;unfold Nk;rw[hd];rfl
  | some d=>
   have hw:zY ops e bad (some (j,want)) run skip=yX (Env.get d e) bad (λb=>Bool.rec (motive:=λ_=>Bool) (ft want skip run) (ft want run skip) b) skip:=by
    show uF bad (Nk ops j) _=_;unfold Nk;rw[hd];rfl
   rw[hw];simp only[hd];rw[hr.2.2 d];rcases Kv (l.getD d undef) bad (λb=>Bool.rec (motive:=λ_=>Bool) (ft want skip run) (ft want run skip) b) skip with h1|⟨b,h1,h2⟩|⟨vs,h1,h2⟩
   ·exact .inl h1
   ·rw[h2];simp only[h1]
    cases b<;>cases want<;>first|exact .inr (.inl ⟨rfl,rfl⟩)|exact .inr (.inr ⟨rfl,rfl⟩)
   ·rw[h2];simp only[h1];exact .inr (.inr ⟨trivial,trivial⟩)
def Hc{α:Type}(n:Nat)(bad x:Bool)(run:Option (List Value×α))(K:Env->α->Bool):Prop:=x=bad\/ ∃l a e,run=some (l,a)/\eD n e l/\x=K e a
theorem zo(hcf:q9 cx cf){ops:Array Oper}:∀(rest:List Oper){e:Env}{l:List Value}{h:aa}{K:Env->aa->Bool},eD cx.n e l->Hc cx.n cx.bad (F6 cx ops rest e h K) (fM cx.P cx.gl cf ops rest l h) K
 |[],e,l,h,K,hr=> .inr ⟨l,h,e,rfl,hr,rfl⟩
 | o::rest,e,l,h,K,hr=>by
  show Hc cx.n cx.bad (Th cx ops o e h λe h=>F6 cx ops rest e h K) _ K;unfold Th;rcases GJ hr o cx.bad (Ti o.op cx o (Jd cx.gl e) h λv h=>nW cx.n o.dst e v λe=>F6 cx ops rest e h K) (nW cx.n o.dst e undef λe=>F6 cx ops rest e h K)with h1|⟨h1,h2⟩|⟨h1,h2⟩
  ·exact .inl h1
  ·rw[h2];rcases xk hcf (ρ:=Jd cx.gl e) (h:=h) (K:=λv h=>nW cx.n o.dst e v λe=>F6 cx ops rest e h K) o with h3|⟨⟨v,u⟩,h3,h4⟩
   ·exact .inl h3
   ·rw[h4];rw[yG hr]at h3;obtain⟨e',h5,h6⟩:=qG hr o.dst v;show Hc cx.n cx.bad (nW cx.n o.dst e v λe=>F6 cx ops rest e (u.app h) K) _ K;rw[h6];simp only[fM,h1,h3];exact zo hcf rest h5
  ·rw[h2];obtain⟨e',h5,h6⟩:=qG hr o.dst undef;rw[h6];simp only[fM,h1];exact zo hcf rest h5
end
section
variable {cx:Cx} {cf:bM}
theorem ot(base:Nat):∀(l:List (Nat×bO))(h:aa)(K:aa->Bool),mP base l h K=K (bj h base l)
 |[],_,_=>rfl
 |(i,B)::l,h,K=>by
  show mP base l h (λh=>HT.mA (some B) (pathOf (base+i)) h.t λt=>K ⟨h.next,t⟩)=_;rw[ot base l h,HT.eB];rfl
theorem MG{P:Program}{ρ:Operand->Value}{o:Oper}{h:aa}{r:Value×cX}(hc:Kc o.op = .p)(hr:aV P cf ρ o h=some r):aT P ρ o=some r.1/\r.2 = .no:=by
 obtain⟨dst,op,ty,pos,after,guard⟩:=o;unfold aV at hr
 cases hp:aT P ρ ⟨dst,op,ty,pos,after,guard⟩with
 |some v=>rw[hp]at hr;obtain rfl:=oI hr;exact⟨rfl,rfl⟩
 | none=>
  rw[hp]at hr
  cases op with
  |call c=>
   obtain⟨callee,args,ats⟩:=c
   cases callee with
   |builtin b=>cases b<;>exact nomatch hc
   |_=>exact nomatch hc
  |_=>first|(change (none:Option (Value×cX))=some r at hr;exact nomatch hr)|cases hc
theorem MH{P:Program}{ρ:Operand->Value}{o:Oper}{h:aa}{r:Value×cX}(hc:Kc o.op = .r)(hr:aV P cf ρ o h=some r):aT P ρ o=none/\aY P ρ o h=some r.1/\r.2 = .no:=by
 obtain⟨dst,op,ty,pos,after,guard⟩:=o;have key:aT P ρ ⟨dst,op,ty,pos,after,guard⟩=none->(aY P ρ ⟨dst,op,ty,pos,after,guard⟩ h=none->aV P cf ρ ⟨dst,op,ty,pos,after,guard⟩ h=none)->aT P ρ ⟨dst,op,ty,pos,after,guard⟩=none/\aY P ρ ⟨dst,op,ty,pos,after,guard⟩ h=some r.1/\r.2 = .no:=λh1 h2=>by
  refine⟨h1,?_⟩
  cases hrd:aY P ρ ⟨dst,op,ty,pos,after,guard⟩ h with
  |none=>rw[h2 hrd]at hr;cases hr
  |some v=>
   unfold aV at hr;rw[h1,hrd]at hr;obtain rfl:=oI hr;exact⟨rfl,rfl⟩
 cases op with
 |load t a=>exact key rfl λh2=>by unfold aV;rw[h2];rfl
 |call c=>
  obtain⟨callee,args,ats⟩:=c
  cases callee with
  |builtin b=>cases b<;>first|exact key rfl λh2=>by unfold aV;rw[h2];rfl|cases hc
  |_=>exact nomatch hc
 |_=>exact nomatch hc
theorem PQ{P:Program}{ρ:Operand->Value}{o:Oper}{h:aa}(hc:Kc o.op = .e):(∀h,aT P ρ o=none/\aY P ρ o h=none/\aS P ρ o=none)/\aV P cf ρ o h=cY P cf ρ o h:=by
 obtain⟨dst,op,ty,pos,after,guard⟩:=o
 cases op with
 |store t a x=>exact⟨λ_=>⟨rfl,rfl,rfl⟩,rfl⟩
 |call c=>
  obtain⟨callee,args,ats⟩:=c
  cases callee with
  |builtin b=>cases b<;>first|exact⟨λ_=>⟨rfl,rfl,rfl⟩,rfl⟩|cases hc
  |value f=>exact⟨λ_=>⟨rfl,rfl,rfl⟩,rfl⟩
  |_=>exact nomatch hc
 |_=>exact nomatch hc
theorem Kd{o:Oper}(hc:Kc o.op = .d):aQ o=false:=by
 obtain⟨dst,op,ty,pos,after,guard⟩:=o
 cases op with
 |call c=>
  obtain⟨callee,args,ats⟩:=c
  cases callee with
  |value f=>exact nomatch hc
  |_=>rfl
 |_=>rfl
noncomputable def nE(P:Program)(cf:bM)(bf:Nat->Nat->Bool)(base j:Nat)(o:Oper)(ρ:Operand->Value)(h:aa)(pd:List (Nat×bO)):Option (kA×Value×aa×List (Nat×bO)):=
 match aT P ρ o with
 |some v=>some (.pure v,v,h,pd)
 | none=>match aY P ρ o h with
  |some v=>some (.read v,v,h,pd)
  | none=>match aS P ρ o with
   |some (B,f)=>some (.alloc B (f (base+j)),f (base+j),h,(j,B)::pd)
   |none=>match cY P cf ρ o (bj h base (pd.filter λp=>bf j p.1))with
    |some (v,u)=>some (.rB v (u.app (bj h base (pd.filter λp=>bf j p.1))),v,u.app (bj h base (pd.filter λp=>bf j p.1)),pd.filter λp=> !bf j p.1)
    |none=>none
theorem MN(hcf:q9 cx cf){bf:Nat->Nat->Bool}{base j:Nat}{o:Oper}{ρ:Operand->Value}{h:aa}{pd:List (Nat×bO)}{K:Sq}:
  Ref cx.bad (MM cx bf base j o ρ h pd K) (nE cx.P cf bf base j o ρ h pd) λr=>K r.1 r.2.1 r.2.2.1 r.2.2.2:=by
 unfold MM
 cases hc:Kc o.op with
 |p=>
  rcases xk hcf (ρ:=ρ) (h:=h) (K:=λv _=>K (.pure v) v h pd) o with h1|⟨r,h1,h2⟩
  ·exact .inl h1
  ·obtain⟨h3,_⟩:=MG hc h1;exact .of (r:=(.pure r.1,r.1,h,pd)) (by unfold nE;rw[h3]) h2
 |r=>
  rcases xk hcf (ρ:=ρ) (h:=h) (K:=λv _=>K (.read v) v h pd) o with h1|⟨r,h1,h2⟩
  ·exact .inl h1
  ·obtain⟨h3,h4,_⟩:=MH hc h1;exact .of (r:=(.read r.1,r.1,h,pd)) (by unfold nE;rw[h3,h4]) h2
 |e=>
  show Ref cx.bad (mP base (pd.filter λp=>bf j p.1) h λh=>Ti o.op cx o ρ h λv h'=>K (.rB v h') v h' (pd.filter λp=> !bf j p.1)) _ _;rw[ot];rcases xk hcf (ρ:=ρ) (h:=bj h base (pd.filter λp=>bf j p.1)) (K:=λv h'=>K (.rB v h') v h' (pd.filter λp=> !bf j p.1)) o with h1|⟨⟨v,u⟩,h1,h2⟩
  ·exact .inl h1
  ·obtain⟨h3,h4⟩:=PQ (P:=cx.P) (ρ:=ρ) (cf:=cf) (h:=bj h base (pd.filter λp=>bf j p.1)) hc;obtain⟨h5,h6,h7⟩:=h3 h;rw[h4]at h1;exact .of (r:=(.rB v (u.app (bj h base (pd.filter λp=>bf j p.1))),v,u.app (bj h base (pd.filter λp=>bf j p.1)),pd.filter λp=> !bf j p.1))
    (by unfold nE;rw[h5,h6,h7,h1]) h2
 | d=>
  show Ref cx.bad (SR cx bf base j o ρ h pd K) _ _;unfold SR nE
  cases hp:aT cx.P ρ o with
  |some v=>exact .of rfl (dV _ _)
  | none=>
   cases hr:aY cx.P ρ o h with
   |some v=>exact .of rfl (dV _ _)
   | none=>
    cases ha:aS cx.P ρ o with
    |some r=>
     obtain⟨B,f⟩:=r;refine .of rfl ?_;show Fc B (λB=>jO (f (base+j)) λv=>K (.alloc B v) v h ((j,B)::pd))=_;rw[tf,dV]
    | none=>
     show Ref cx.bad (mP base (pd.filter λp=>bf j p.1) h λh=>H8 cx.bad (cY cx.P fV ρ o h) h λv h'=>K (.rB v h') v h' (pd.filter λp=> !bf j p.1)) _ _;rw[ot,sj (cf:=cf) (Kd hc)]
     cases he:cY cx.P cf ρ o (bj h base (pd.filter λp=>bf j p.1))with
     |none=>exact .bad
     |some r=>
      obtain⟨v,u⟩:=r;refine .of rfl ?_;show PF u (bj h base (pd.filter λp=>bf j p.1)) (λh'=>jO v λv=>K (.rB v h') v h' (pd.filter λp=> !bf j p.1))=_;rw[xb,dV]
theorem CS{P:Program}{gl:Nat->Bool}{ops:Array Oper}{bf:Nat->Nat->Bool}{base:Nat}{o:Oper}{rest:List Oper}{j:Nat}{tm:List Value}{h:aa}{pd:List (Nat×bO)}(hw:eC ops tm o=some true)
  {r:kA×Value×aa×List (Nat×bO)} (hr:nE P cf bf base j o (ev gl tm) h pd=some r):
  cV P gl cf ops bf base (o::rest) j tm h pd=(cV P gl cf ops bf base rest (j+1) (fO tm o.dst r.2.1) r.2.2.1 r.2.2.2).map λx=>((tm,r.1)::x.1,x.2):=by
 unfold nE at hr;simp only[cV,hw];split at hr
 ·next v hp=>obtain rfl:=oI hr;simp only[hp]
 ·next hp=>
  simp only[hp];split at hr
  ·next v hrd=>obtain rfl:=oI hr;simp only[hrd]
  ·next hrd=>
   simp only[hrd];split at hr
   ·next B f ha=>obtain rfl:=oI hr;simp only[ha]
   ·next ha=>
    simp only[ha];split at hr
    ·next v u he=>obtain rfl:=oI hr;simp only[he]
    ·cases hr
inductive JY(n:Nat):List Oper->List CI->List (List Value×kA)->Prop where
 |nil:JY n [] [] []
 |cons {o:Oper} {os:List Oper} {e:Env} {ent:kA} {tm:List Value} {a:List CI} {b:List (List Value×kA)} (h:eD n e tm) (r:JY n os a b):JY n (o::os) ((o,e,ent)::a) ((tm,ent)::b)
theorem nF(hcf:q9 cx cf){ops:Array Oper}{bf:Nat->Nat->Bool}{base:Nat}:∀(l:List Oper){j:Nat}{e:Env}{tm:List Value}{h:aa}{pd:List (Nat×bO)}{K:List CI->Env->aa->List (Nat×bO)->Bool},eD cx.n e tm->
  jv cx ops bf base l j e h pd K=cx.bad\/ ∃recs tm' h' pd' recsF e',cV cx.P cx.gl cf ops bf base l j tm h pd=some (recs,tm',h',pd')/\eD cx.n e' tm'/\JY cx.n l recsF recs/\jv cx ops bf base l j e h pd K=K recsF e' h' pd'
 |[],j,e,tm,h,pd,K,hr=> .inr ⟨[],tm,h,pd,[],e,rfl,hr,.nil,rfl⟩
 | o::rest,j,e,tm,h,pd,K,hr=>by
  have hu:jv cx ops bf base (o::rest) j e h pd K=zY ops e cx.bad o.guard
   (MM cx bf base j o (Jd cx.gl e) h pd λent v h pd=>nW cx.n o.dst e v λe'=>jv cx ops bf base rest (j+1) e' h pd λrecs e2 h2 pd2=>K ((o,e,ent)::recs) e2 h2 pd2)
   (nW cx.n o.dst e undef λe'=>jv cx ops bf base rest (j+1) e' h pd λrecs e2 h2 pd2=>K ((o,e,.skip)::recs) e2 h2 pd2):=rfl
  rw[hu];rcases GJ hr (ops:=ops) o cx.bad (MM cx bf base j o (Jd cx.gl e) h pd λent v h pd=>nW cx.n o.dst e v λe'=>jv cx ops bf base rest (j+1) e' h pd λrecs e2 h2 pd2=>K ((o,e,ent)::recs) e2 h2 pd2)
   (nW cx.n o.dst e undef λe'=>jv cx ops bf base rest (j+1) e' h pd λrecs e2 h2 pd2=>K ((o,e,.skip)::recs) e2 h2 pd2)with h1|⟨h1,h2⟩|⟨h1,h2⟩
  ·exact .inl h1
  ·rw[h2];rcases MN hcf (bf:=bf) (base:=base) (j:=j) (o:=o) (ρ:=Jd cx.gl e) (h:=h) (pd:=pd) (K:=λent v h pd=>nW cx.n o.dst e v λe'=>jv cx ops bf base rest (j+1) e' h pd λrecs e2 h2 pd2=>K ((o,e,ent)::recs) e2 h2 pd2)with h3|⟨⟨ent,v,h',pd'⟩,h3,h4⟩
   ·exact .inl h3
   ·rw[h4];rw[yG hr]at h3;obtain⟨e',h5,h6⟩:=qG hr o.dst v;simp only[h6];rcases nF hcf rest h5 (ops:=ops) (bf:=bf) (base:=base) (j:=j+1) (h:=h') (pd:=pd') (K:=λrecs e2 h2 pd2=>K ((o,e,ent)::recs) e2 h2 pd2)with h7|⟨recs,tm',h'',pd'',recsF,e'',h7,h8,h9,h10⟩
    ·exact .inl h7
    ·refine .inr ⟨_,_,_,_,_,_,?_,h8,.cons hr h9,h10⟩;rw[CS h1 h3,h7];rfl
  ·rw[h2];obtain⟨e',h5,h6⟩:=qG hr o.dst undef;rw[h6];rcases nF hcf rest h5 (ops:=ops) (bf:=bf) (base:=base) (j:=j+1) (h:=h) (pd:=pd) (K:=λrecs e2 h2 pd2=>K ((o,e,.skip)::recs) e2 h2 pd2)with h7|⟨recs,tm',h'',pd'',recsF,e'',h7,h8,h9,h10⟩
   ·exact .inl h7
   ·refine .inr ⟨_,_,_,_,_,_,?_,h8,.cons hr h9,h10⟩;simp only[cV,h1,h7];rfl
theorem MW{n:Nat}{os:List Oper}{a:List CI}{b:List (List Value×kA)}(h:JY n os a b):∀j,BD a j=dz b j:=by
 induction h with
 |nil=>intro j;rfl
 |cons _ _ ih=>
  rename_i o os e ent tm a b _ _;intro j;show Vm ent j (BD a (j+1))=_;rw[ih]
  cases ent<;>rfl
theorem Bz(bf:Nat->Nat->Bool):∀(l:List (Nat×aa))(p:Option Nat),uH bf l p=(match p,l with|some i,(j,_)::_=>bf j i&&chained bf l|_,_=>chained bf l)
 |[],p=>by cases p<;>rfl
 | (j,h)::l,p=>by
  have ih:=Bz bf l (some j);have hc:chained bf ((j,h)::l)=uH bf l (some j):=by
   rw[ih]
   cases l with
   |nil=>rfl
   |cons x l=>rfl
  cases p with
  |none=>show uH bf l (some j)=_;exact hc.symm
  |some i=>
   show ft (bf j i) (uH bf l (some j)) false=(bf j i&&chained bf ((j,h)::l));rw[hc]
   cases bf j i<;>rfl
theorem Gs{P:Program}{gl:Nat->Bool}{o:Oper}{tm:List Value}{v:Value}{h:aa}:Ch P o (ev gl tm) v h=ij P gl o tm v h:=by
 unfold Ch ij
 cases aY P (ev gl tm) o h<;>rfl
theorem zD{P:Program}{gl:Nat->Bool}{bf:Nat->Nat->Bool}{j:Nat}{o:Oper}{tm:List Value}{v:Value}:∀(es:List (Nat×aa))(h:aa)(own:Bool),xp P bf j o (ev gl tm) v es h own=jC P gl bf j o tm v h es own
 |[],h,own=>by
  show ft own true (Ch P o (ev gl tm) v h)=(own||ij P gl o tm v h);rw[Gs];cases own<;>rfl
 |(x,h')::es,h,own=>by
  show ft (ft (ft own (Nat.blt j x) false) true (ft (bf j x) true (Ch P o (ev gl tm) v h))) (ft (bf x j) true (xp P bf j o (ev gl tm) v es h' (Nat.blt x j))) false=(((own&&Nat.blt j x)||bf j x||ij P gl o tm v h)&&(bf x j||jC P gl bf j o tm v h' es (Nat.blt x j)));rw[Gs,zD es]
  cases own<;>cases Nat.blt j x<;>cases bf j x<;>cases bf x j<;>cases ij P gl o tm v h<;>rfl
theorem Lj{os:List Oper}{a:List CI}{b:List (List Value×kA)}{bf:Nat->Nat->Bool}{h:aa}{es:List (Nat×aa)}(hr:JY cx.n os a b):∀j,DG cx bf h es a j=fP cx.P cx.gl bf h es os b j:=by
 induction hr with
 |nil=>intro j;rfl
 | cons he _ ih=>
  rename_i o os e ent tm a b _;intro j;show Sf cx bf h es j o e ent (DG cx bf h es a (j+1))=_;rw[ih]
  cases ent with
  |read v=>
   show ft (xp cx.P bf j o (Jd cx.gl e) v es h true) (fP cx.P cx.gl bf h es os b (j+1)) false=(jC cx.P cx.gl bf j o tm v h es true&&fP cx.P cx.gl bf h es os b (j+1));rw[yG he,zD]
   cases jC cx.P cx.gl bf j o tm v h es true<;>rfl
  |_=>rfl
theorem Km(hcf:q9 cx cf){ops:Array Oper}{bf:Nat->Nat->Bool}{e:Env}{l:List Value}{h:aa}{K:Env->aa->Bool}(hr:eD cx.n e l):Hc cx.n cx.bad (EV cx ops bf e h K) (qx cx.P cx.gl cf ops bf l h) K:=by
 unfold EV;rw[dI];rcases nF hcf ops.toList hr (ops:=ops) (bf:=bf) (base:=h.next) (j:=0) (h:=⟨h.next+ops.size,h.t⟩) (pd:=[]) (K:=λrecs e' h' pd=>
  ft (ft (uH bf (BD recs 0) none) (DG cx bf ⟨h.next+ops.size,h.t⟩ (BD recs 0) recs 0) false) (mP h.next pd h' λh'=>K e' h') cx.bad)with h1|⟨recs,tm',h',pd',recsF,e',h1,h2,h3,h4⟩
 ·exact .inl h1
 ·rw[h4,MW h3,Bz,Lj h3,ot];unfold qx;rw[h1];show Hc cx.n cx.bad (ft (ft (chained bf (dz recs 0)) (fP cx.P cx.gl bf ⟨h.next+ops.size,h.t⟩ (dz recs 0) ops.toList recs 0) false) (K e' (bj h' h.next pd')) cx.bad)
   (if chained bf (dz recs 0)&&fP cx.P cx.gl bf ⟨h.next+ops.size,h.t⟩ (dz recs 0) ops.toList recs 0 then some (tm',bj h' h.next pd')else none) K
  cases chained bf (dz recs 0)with
  |false=>exact .inl rfl
  |true=>
   cases fP cx.P cx.gl bf ⟨h.next+ops.size,h.t⟩ (dz recs 0) ops.toList recs 0 with
   |false=>exact .inl rfl
   |true=>exact .inr ⟨_,_,_,rfl,h2,rfl⟩
end
def ur(n:Nat)(bad x:Bool)(run:Option (Exit×List Value×aa))(K:Exit->Env->aa->Bool):Prop:=x=bad\/ ∃ex l h e,run=some (ex,l,h)/\eD n e l/\x=K ex e h
theorem Hl{n:Nat}{v:Value}{bad:Bool}{K:Bool->Bool}{run:Option (Exit×List Value×aa)}{K':Exit->Env->aa->Bool}(hh:∀b,v = .bool b->ur n bad (K b) run K'):ur n bad (vH v bad K) run K':=by
 rcases EL v bad K with⟨h1,_⟩|⟨b,h1,h2⟩
 ·rw[h1];exact .inl rfl
 ·rw[h2];exact hh b h1
theorem pz(x:Exit)(norm:Bool)(ex:Nat->Bool)(els:Bool):(x = .normal/\iE x norm ex els=norm)\/(∃id,x = .exit id/\iE x norm ex els=ex id)\/((∀id,x≠ .exit id)/\x≠ .normal/\iE x norm ex els=els):=by
 cases x with
 |normal=>exact .inl ⟨rfl,rfl⟩
 |exit id=>exact .inr (.inl ⟨id,rfl,rfl⟩)
 |_=>exact .inr (.inr ⟨λ_=>by simp,by simp,rfl⟩)
theorem BQ{cx:Cx}{c:Code}{a:kh}{cf:bM}{N:Nat}(ih:∀{e l h K},eD cx.n e l->ur cx.n cx.bad (a cx e h K) (aJ cx.P cx.gl cf N c l h) K):∀(m:Nat){e:Env}{l:List Value}{h:aa}{K:Exit->Env->aa->Bool},eD cx.n e l->
  ur cx.n cx.bad (Nat.rec (motive:=λ_=>Env->aa->Bool) (λ_ _=>cx.bad) (λ_ ih e h=>a cx e h λx e h=>iE x (ih e h) (λid=>K (.exit id) e h) (K x e h)) m e h) (iter (aJ cx.P cx.gl cf N c) m l h) K
 |0,_,_,_,_,_=> .inl rfl
 | m+1,e,l,h,K,hr=>by
  show ur cx.n cx.bad (a cx e h λx e h=>iE x ((Nat.rec (motive:=λ_=>Env->aa->Bool) (λ_ _=>cx.bad) (λ_ ih e h=>a cx e h λx e h=>iE x (ih e h) (λid=>K (.exit id) e h) (K x e h)) m:Env->aa->Bool) e h) (λid=>K (.exit id) e h) (K x e h)) _ K;rcases ih (h:=h) (K:=λx e h=>iE x ((Nat.rec (motive:=λ_=>Env->aa->Bool) (λ_ _=>cx.bad) (λ_ ih e h=>a cx e h λx e h=>iE x (ih e h) (λid=>K (.exit id) e h) (K x e h)) m:Env->aa->Bool) e h) (λid=>K (.exit id) e h) (K x e h)) hr with h1|⟨ex,l1,h1,e1,h2,h3,h4⟩
  ·exact .inl h1
  ·rw[h4];dsimp only;rcases pz ex ((Nat.rec (motive:=λ_=>Env->aa->Bool) (λ_ _=>cx.bad) (λ_ ih e h=>a cx e h λx e h=>iE x (ih e h) (λid=>K (.exit id) e h) (K x e h)) m:Env->aa->Bool) e1 h1) (λid=>K (.exit id) e1 h1) (K ex e1 h1)with⟨rfl,h5⟩|⟨id,rfl,h5⟩|⟨h6,h7,h5⟩
   ·rw[h5];simp only[iter,h2];exact BQ ih m h3
   ·rw[h5];exact .inr ⟨.exit id,l1,h1,e1,by simp only[iter,h2],h3,rfl⟩
   ·rw[h5];refine .inr ⟨ex,l1,h1,e1,?_,h3,rfl⟩;simp only[iter,h2]
    cases ex<;>first|rfl|exact absurd rfl h7
theorem Tf(asg body:Code)(bad:Bool)(K:jQ asg body=true->Bool):okF asg body bad K=bad\/ ∃ok,okF asg body bad K=K ok:=by
 unfold okF;have key:∀(b:Bool)(hb:jQ asg body=b),(Bool.rec (motive:=λb=>jQ asg body=b->Bool) (λ_=>bad) K b hb=bad)\/ ∃ok,Bool.rec (motive:=λb=>jQ asg body=b->Bool) (λ_=>bad) K b hb=K ok:=by
  intro b hb
  cases b with
  |false=>exact .inl rfl
  |true=>exact .inr ⟨hb,rfl⟩
 exact key _ rfl
theorem tw(b:Option bO)(bad:Bool)(K:Pp->List Value->List Tmp->(asg body:Code)->jQ asg body=true->Bool):
  oN b bad K=bad\/ ∃st tm ps asg body ok,b=some (.loop st tm ps asg body ok)/\oN b bad K=K st tm ps asg body ok:=by
 cases b with
 |none=>exact .inl rfl
 |some B=>cases B with
  |loop st tm ps asg body ok=>exact .inr ⟨st,tm,ps,asg,body,ok,rfl,rfl⟩
  |_=>exact .inl rfl
theorem O1(e:Env):∀(n i:Nat)(K:List Value->Bool),UM e n i K=K ((List.range' i n).map λt=>Env.get t e)
 |0,_,_=>rfl
 |n+1,i,K=>by
  show jO (Env.get i e) (λv=>UM e n (i+1) λl=>K (v::l))=_;rw[dV,O1 e n (i+1)];rfl
theorem O2{n:Nat}{e:Env}{l:List Value}(hr:eD n e l)(K:List Value->Bool):UM e n 0 K=K l:=by
 rw[O1];congr 1;obtain⟨h1,_,h3⟩:=hr;refine List.ext_getElem? λt=>?_;rw[List.getElem?_map];by_cases ht:t<n
 ·rw[List.getElem?_range' ht];simp only[map_some,zero_add,Nat.one_mul];rw[h3,gE (by omega),gD,gE (by omega)];rfl
 ·rw[getElem?_eq_none (by simp;omega),getElem?_eq_none (by omega)];rfl
theorem pC:∀(l:List Value)(i:Nat)(e:Env),i+l.length<=256->∃e':Env,(∀(K:Env->Bool),tp l i e K=K e')/\∀t,Env.get t e'=if i<=t/\t<i+l.length then l.getD (t-i) undef else Env.get t e
 |[],i,e,_=>⟨e,λ_=>rfl,λt=>by rw[if_neg (by simp only[length_nil];omega)]⟩
 | v::l,i,e,hl=>by
  simp only[length_cons]at hl;obtain⟨e',h1,h2⟩:=pC l (i+1) (Env.new i e v) (by omega);refine⟨e',λK=>?_,λt=>?_⟩
  ·show jO v (λv=>Env.put i e v λe=>tp l (i+1) e K)=_;rw[dV,Env.put_eq,h1]
  ·rw[h2];simp only[length_cons];by_cases ht:t=i
   ·subst ht;rw[if_neg (by omega),Env.C4 (by omega),if_pos rfl,if_pos (by omega),Nat.sub_self];rfl
   ·rw[Env.C4 (by omega),if_neg ht];by_cases h3:i+1<=t/\t<i+1+l.length
    ·rw[if_pos h3,if_pos (by omega),show t-i=(t-(i+1))+1 by omega];rfl
    ·rw[if_neg h3,if_neg (by omega)]
theorem HD:∀(t:HT)(K:HT->Bool),UG t K=K t
 |.nil,_=>rfl
 |.node v l r,K=>by
  show UG l (λl=>UG r λr=>Option.rec (motive:=λ_=>Bool) (K (.node none l r)) (λB=>Fc B λB=>K (.node (some B) l r)) v)=_;rw[HD l,HD r]
  cases v with
  |none=>rfl
  |some B=>exact tf B _
theorem Mk{cx:Cx}{ops:Array Oper}{e:Env}{l:List Value}{h:aa}{K:Env->aa->Bool}(hr:eD cx.n e l):Hc cx.n cx.bad (PE cx ops e h K) (EU cx.P cx.gl ops (cM (gm ops)) l h) K:=by
 unfold PE;rw[O2 hr]
 cases hd:EU cx.P cx.gl ops (cM (gm ops)) l h with
 |none=>exact .inl rfl
 | some r=>
  obtain⟨tm,h'⟩:=r;show Hc cx.n cx.bad (ft (Nat.beq tm.length cx.n) (tp tm 0 uM λe=>jd h'.next λnx=>UG h'.t λt=>K e ⟨nx,t⟩) cx.bad) _ K
  cases hb:Nat.beq tm.length cx.n with
  |false=>exact .inl rfl
  | true=>
   have hl:tm.length=cx.n:=by simpa[beq_eq]using hb
   obtain⟨e0,h3,h4⟩:=pC tm 0 uM (by have:=hr.2.1;omega);refine .inr ⟨tm,h',e0,rfl,⟨hl,hr.2.1,λt=>?_⟩,?_⟩
   ·rw[h4];split
    ·rfl
    ·next ht=>rw[td,gD,getElem?_eq_none (by omega)];rfl
   ·show tp tm 0 uM (λe=>jd h'.next λnx=>UG h'.t λt=>K e ⟨nx,t⟩)=_;rw[h3,dI,HD]
theorem fa{cx:Cx}{cf:bM}(hcf:q9 cx cf):∀(c:Code){e:Env}{l:List Value}{h:aa}{K:Exit->Env->aa->Bool},eD cx.n e l->ur cx.n cx.bad (codeF c cx e h K) (aJ cx.P cx.gl cf cx.N c l h) K
 |.skip,e,l,h,K,hr=> .inr ⟨_,_,_,_,rfl,hr,rfl⟩
 | .region id ops draw,e,l,h,K,hr=>by
  cases draw with
  | true=>
   show ur cx.n cx.bad (ft (uy ops) (PE cx ops e h λe h=>K .normal e h) (EV cx ops (cM (gm ops)) e h λe h=>K .normal e h)) ((yx cx.P cx.gl cf ops l h).map λr=>(.normal,r.1,r.2)) K;unfold yx
   cases hany:uy ops with
   |true=>
    rw[if_pos rfl];rcases Mk hr (ops:=ops) (h:=h) (K:=λe h=>K .normal e h)with h1|⟨l1,h1,e1,h2,h3,h4⟩
    ·exact .inl h1
    ·exact .inr ⟨.normal,l1,h1,e1,by rw[h2];rfl,h3,h4⟩
   |false=>
   rw[if_neg (by simp)];show ur cx.n cx.bad (EV cx ops (cM (gm ops)) e h λe h=>K .normal e h) _ K;rcases Km hcf hr (ops:=ops) (bf:=cM (gm ops)) (h:=h) (K:=λe h=>K .normal e h)with h1|⟨l1,h1,e1,h2,h3,h4⟩
   ·exact .inl h1
   ·exact .inr ⟨.normal,l1,h1,e1,by rw[h2];rfl,h3,h4⟩
  |false=>
   show ur cx.n cx.bad (F6 cx ops ops.toList e h λe h=>K .normal e h) ((fM cx.P cx.gl cf ops ops.toList l h).map λr=>(.normal,r.1,r.2)) K;rcases zo hcf ops.toList hr (ops:=ops) (h:=h) (K:=λe h=>K .normal e h)with h1|⟨l1,h1,e1,h2,h3,h4⟩
   ·exact .inl h1
   ·exact .inr ⟨.normal,l1,h1,e1,by rw[h2];rfl,h3,h4⟩
 | .seq a b,e,l,h,K,hr=>by
  show ur cx.n cx.bad (codeF a cx e h λx e h=>iE x (codeF b cx e h K) (λid=>K (.exit id) e h) (K x e h)) _ K;rcases fa hcf a hr (h:=h) (K:=λx e h=>iE x (codeF b cx e h K) (λid=>K (.exit id) e h) (K x e h))with h1|⟨ex,l1,h1,e1,h2,h3,h4⟩
  ·exact .inl h1
  ·rw[h4];dsimp only;rcases pz ex (codeF b cx e1 h1 K) (λid=>K (.exit id) e1 h1) (K ex e1 h1)with⟨rfl,h5⟩|⟨id,rfl,h5⟩|⟨h6,h7,h5⟩
   ·rw[h5];simp only[aJ,h2];exact fa hcf b h3
   ·rw[h5];exact .inr ⟨.exit id,l1,h1,e1,by simp only[aJ,h2],h3,rfl⟩
   ·rw[h5];refine .inr ⟨ex,l1,h1,e1,?_,h3,rfl⟩;simp only[aJ,h2]
    cases ex<;>first|rfl|exact absurd rfl h7
 |.cond c a b,e,l,h,K,hr=>by
  show ur cx.n cx.bad (vH (Jd cx.gl e c) cx.bad λt=>ft t (codeF a cx e h K) (codeF b cx e h K)) _ K;refine Hl λt ht=>?_;rw[yG hr]at ht;simp only[aJ,ht]
  cases t with
  |true=>simp only[if_true];exact fa hcf a hr
  |false=>simp only[false_eq_true,if_false];exact fa hcf b hr
 | .block id a,e,l,h,K,hr=>by
  show ur cx.n cx.bad (codeF a cx e h λx e h=>iE x (K .normal e h) (λid'=>ft (Nat.beq id' id) (K .normal e h) (K (.exit id') e h)) (K x e h)) _ K;rcases fa hcf a hr (h:=h) (K:=λx e h=>iE x (K .normal e h) (λid'=>ft (Nat.beq id' id) (K .normal e h) (K (.exit id') e h)) (K x e h))with h1|⟨ex,l1,h1,e1,h2,h3,h4⟩
  ·exact .inl h1
  ·rw[h4];dsimp only;rcases pz ex (K .normal e1 h1) (λid'=>ft (Nat.beq id' id) (K .normal e1 h1) (K (.exit id') e1 h1)) (K ex e1 h1)with⟨rfl,h5⟩|⟨id',rfl,h5⟩|⟨h6,h7,h5⟩
   ·rw[h5];exact .inr ⟨.normal,l1,h1,e1,by simp only[aJ,h2],h3,rfl⟩
   ·rw[h5];by_cases hid:id'=id
    ·subst hid;refine .inr ⟨.normal,l1,h1,e1,by simp only[aJ,h2,if_true],h3,?_⟩;rw[show Nat.beq id' id'=true by simp];rfl
    ·refine .inr ⟨.exit id',l1,h1,e1,by simp only[aJ,h2,if_neg hid],h3,?_⟩;have:Nat.beq id' id=false:=by
      rw[Bool.eq_false_iff];intro hb;exact hid (by simpa[beq_eq]using hb)
     rw[this];rfl
   ·rw[h5];refine .inr ⟨ex,l1,h1,e1,?_,h3,rfl⟩;simp only[aJ,h2]
    cases ex<;>first|rfl|exact absurd rfl (h6 _)
 |.loop c,e,l,h,K,hr=>BQ (λ{e l h K} hr=>fa hcf c hr) cx.N hr
 |.exit id,e,l,h,K,hr=> .inr ⟨_,_,_,_,rfl,hr,rfl⟩
 |.ret,e,l,h,K,hr=> .inr ⟨_,_,_,_,rfl,hr,rfl⟩
 |.label _,e,l,h,K,hr=> .inr ⟨_,_,_,_,rfl,hr,rfl⟩
 | .rangeFunc f ps asg body,e,l,h,K,hr=>by
  show ur cx.n cx.bad (HU f ps asg body cx e h K) _ K;unfold HU;rcases Fl (Jd cx.gl e f) cx.bad _ with⟨h1,_⟩|⟨fn,first,captured,h1,h2⟩
  ·rw[h1];exact .inl rfl
  ·rw[h2];rw[yG hr]at h1
   cases fn with
   | func g=>
    dsimp only[X7];rcases Tf asg body cx.bad (λok=>ft (Nat.blt g YB) (ft (pw cx.P g)
     (UM e cx.n 0 λtm=>uP (first.toList++[.func (.yield h.next) #[] #[]]++captured.toList) λvs=>sC (.loop .ready tm ps.toList asg body ok) h λh1=>cx.cf g vs h1 λ_ h2=>
      oN (h2.get h.next) cx.bad λst _ _ _ _ _=>Jn st cx.bad λx=>HT.mA none (pathOf h.next) h2.t λt=>K x e ⟨h2.next,t⟩) cx.bad) cx.bad)with h3|⟨ok,h3⟩
    ·rw[h3];exact .inl rfl
    ·rw[h3]
     cases hg:Nat.blt g YB with
     |false=>exact .inl rfl
     | true=>
      have hg':g<YB:=by simpa[blt_eq]using hg
      cases hb:pw cx.P g with
      |false=>exact .inl rfl
      | true=>
       dsimp only[ft];rw[O2 hr,uQ];have hup:∀(B:bO)(K:aa->Bool),sC B h K=K (h.push B):=λB K=>xb (.push B) h K;rw[hup];rcases hcf g (first.toList++[.func (.yield h.next) #[] #[]]++captured.toList) (h.push (.loop .ready l ps.toList asg body ok)) (λ_ h2=>
        oN (h2.get h.next) cx.bad λst _ _ _ _ _=>Jn st cx.bad λx=>HT.mA none (pathOf h.next) h2.t λt=>K x e ⟨h2.next,t⟩)with h4|⟨⟨v,h2⟩,h4,h5⟩
       ·rw[h4];exact .inl rfl
       ·rw[h5];dsimp only;have hrun:aJ cx.P cx.gl cf cx.N (.rangeFunc f ps asg body) l h=(Js (h2.get h.next)).map λe=>(e,l,h2.del h.next):=by
         simp only[aJ,h1];rw[dif_pos ok,if_pos ⟨hg',hb⟩,h4]
        rcases tw (h2.get h.next) cx.bad (λst _ _ _ _ _=>Jn st cx.bad λx=>HT.mA none (pathOf h.next) h2.t λt=>K x e ⟨h2.next,t⟩)with h6|⟨st,tm2,ps2,a2,b2,ok2,h6,h7⟩
        ·rw[h6];exact .inl rfl
        ·rw[h7];rw[h6]at hrun
         cases st with
         |ready=>exact .inr ⟨_,_,_,e,hrun,hr,HT.eB _ _ _ _⟩
         |busy=>exact .inl rfl
         |ret=>exact .inr ⟨_,_,_,e,hrun,hr,HT.eB _ _ _ _⟩
         |exit id=>exact .inr ⟨_,_,_,e,hrun,hr,HT.eB _ _ _ _⟩
   |_=>exact .inl rfl
 |.scope _,_,_,_,_,_=> .inl rfl
 |.goto _,_,_,_,_,_=> .inl rfl
 |.refuse _,_,_,_,_,_=> .inl rfl
theorem tV{P:Program}{n:Nat}{e:Env}{tm:List Value}{h:aa}{bad:Bool}(hr:eD n e tm):∀(l:List ResultVar)(K:List Value->Bool),Ref bad (w5 P e h bad l K) (ca P tm h l) K
 |[],K=> .of rfl rfl
 |.tmp t::l,K=>by
  show Ref bad (jO (Env.get t e) λv=>w5 P e h bad l λvs=>K (v::vs)) _ K;rw[dV,hr.2.2 t];rcases tV hr l (λvs=>K (tm.getD t undef::vs))with h1|⟨vs,h1,h2⟩
  ·exact .inl h1
  ·exact .of (by simp only[ca,h1];rfl) h2
 |.cell a t::l,K=>by
  show Ref bad (uF bad (ai P t h (Env.get a e)) λv=>w5 P e h bad l λvs=>K (v::vs)) _ K;refine gz λv hv=>?_;rw[hr.2.2 a]at hv;rcases tV hr l (λvs=>K (v::vs))with h1|⟨vs,h1,h2⟩
  ·exact .inl h1
  ·exact .of (by simp only[ca,hv,h1];rfl) h2
theorem F9{n:Nat}:∀(pa:List (Tmp×Value)){e:Env}{l:List Value},eD n e l->∃e',eD n e' (qe l pa)/\∀(K:Env->Bool),N8 n pa e K=K e'
 |[],e,l,hr=>⟨e,hr,λ_=>rfl⟩
 |p::pa,e,l,hr=>by
  obtain⟨e1,h1,h2⟩:=qG hr (some p.1) p.2;obtain⟨e2,h3,h4⟩:=F9 pa h1;refine⟨e2,h3,λK=>?_⟩;show nW n (some p.1) e p.2 (λe=>N8 n pa e K)=_;rw[h2,h4]
theorem IZ{P:Program}{gl:Nat->Bool}{bad:Bool}{fl:Nat}{cK:FuncId->List Value->aa->(Value->aa->Bool)->Bool}{cf:bM}(hcf:∀f args h K,Ref bad (cK f args h K) (cf f args h) λr=>K r.1 r.2)(k:Nat)(args:List Value)(h:aa)(K:Value->aa->Bool):
  Ref bad (Ec (λnt=>⟨P,gl,cK,fl,nt,bad⟩) bad k args h K) (ni (aJ P gl cf fl) k args h) λr=>K r.1 r.2:=by
 unfold Ec;rcases tw (h.get k) bad _ with h1|⟨st,tm,ps,asg,body,ok,h1,h2⟩
 ·exact .inl h1
 rw[h2]
 cases st with
 |busy=>exact .inl rfl
 |ret=>exact .inl rfl
 |exit id=>exact .inl rfl
 |ready=>
 show Ref bad (ft (Nat.beq args.length ps.length) _ bad) _ _;refine dc (λhlen=>?_) (λ_=> .bad);have hlen:args.length=ps.length:=by simpa[beq_eq]using hlen
 rw[dI];refine dc (λhn=>?_) (λ_=> .bad);have hn:tm.length<=256:=by simpa[ble_eq]using hn
 obtain⟨e0,h3,h4⟩:=pC tm 0 uM (by omega);rw[h3];have hr0:eD tm.length e0 tm:=by
  refine⟨rfl,hn,λt=>?_⟩;rw[h4];split
  ·rfl
  ·next ht=>rw[td,gD,getElem?_eq_none (by omega)];rfl
 obtain⟨e1,hr1,h5⟩:=F9 (ps.zip args) hr0;rw[h5]
 let cx:Cx:=⟨P,gl,cK,fl,tm.length,bad⟩
 have hcf':q9 cx cf:=λf args h K=>hcf f args h K;rcases fa hcf' asg (h:=h) (K:=λx e h1=>iE x
   (oN (h1.get k) bad λst' tm' ps' asg' body' ok'=>zF st' bad (HT.mA (some (.loop .busy tm' ps' asg' body' ok')) (pathOf k) h1.t λt=>codeF body cx e ⟨h1.next,t⟩ λx _ h2=>
    oN (h2.get k) bad λ_ tm2 ps2 asg2 body2 ok2=>NF x bad λb st2=>HT.mA (some (.loop st2 tm2 ps2 asg2 body2 ok2)) (pathOf k) h2.t λt=>K (.bool b) ⟨h2.next,t⟩))
   (λ_=>bad) bad) hr1 with h6|⟨ex,l1,g1,e2,h6,hr2,h7⟩
 ·exact .inl h6
 refine(show Ref bad _ _ _↔_ from Iff.rfl).2 ?_;rw[h7];dsimp only
 cases ex with
 | normal=>
  dsimp only[iE];rcases tw (g1.get k) bad (λst' tm' ps' asg' body' ok'=>zF st' bad (HT.mA (some (.loop .busy tm' ps' asg' body' ok')) (pathOf k) g1.t λt=>codeF body cx e2 ⟨g1.next,t⟩ λx _ h2=>
    oN (h2.get k) bad λ_ tm2 ps2 asg2 body2 ok2=>NF x bad λb st2=>HT.mA (some (.loop st2 tm2 ps2 asg2 body2 ok2)) (pathOf k) h2.t λt=>K (.bool b) ⟨h2.next,t⟩))with h8|⟨st',tm',ps',asg',body',ok',h8,h9⟩
  ·exact .inl h8
  rw[h9]
  cases st' with
  |busy=>exact .inl rfl
  |ret=>exact .inl rfl
  |exit id=>exact .inl rfl
  |ready=>
  dsimp only[zF];rw[HT.eB];rcases fa hcf' body (h:=g1.set k (.loop .busy tm' ps' asg' body' ok')) (K:=λx _ h2=>
    oN (h2.get k) bad λ_ tm2 ps2 asg2 body2 ok2=>NF x bad λb st2=>HT.mA (some (.loop st2 tm2 ps2 asg2 body2 ok2)) (pathOf k) h2.t λt=>K (.bool b) ⟨h2.next,t⟩) hr2 with h10|⟨ex2,l2,g2,e3,h10,hr3,h11⟩
  ·exact .inl h10
  ·refine(show Ref bad (codeF body cx e2 (g1.set k (.loop .busy tm' ps' asg' body' ok')) _) _ _ from ?_);rw[h11];dsimp only;rcases tw (g2.get k) bad (λ_ tm2 ps2 asg2 body2 ok2=>NF ex2 bad λb st2=>HT.mA (some (.loop st2 tm2 ps2 asg2 body2 ok2)) (pathOf k) g2.t λt=>K (.bool b) ⟨g2.next,t⟩)with h12|⟨st2,tm2,ps2,asg2,body2,ok2,h12,h13⟩
   ·exact .inl h12
   rw[h13];have hrun:∀b st3,FM ex2=some (b,st3)->ni (aJ P gl cf fl) k args h=some (.bool b,g2.set k (.loop st3 tm2 ps2 asg2 body2 ok2)):=λb st3 hl=>by
    have h6':aJ P gl cf fl asg (qe tm (ps.zip args)) h=some (.normal,l1,g1):=h6;have h10':aJ P gl cf fl body l1 (g1.set k (.loop .busy tm' ps' asg' body' ok'))=some (ex2,l2,g2):=h10;unfold ni;simp only[h1,hlen,if_true,h6',h8,h10',h12,hl]
   cases ex2 with
   |normal=>exact .of (hrun true .ready rfl) (HT.eB _ _ _ _)
   |ret=>exact .of (hrun false .ret rfl) (HT.eB _ _ _ _)
   |exit id=>exact .of (hrun false (.exit id) rfl) (HT.eB _ _ _ _)
   |_=>exact .inl rfl
 |_=>exact .inl rfl
def sP(bad:Bool)(pf:FuncId->Option (mD))(pr:FuncId->Option mw):Prop:=
 ∀f,(pf f=none/\pr f=none)\/ ∃p q,pf f=some p/\pr f=some q/\
  ∀(cf:FuncId->List Value->aa->(Value->aa->Bool)->Bool)(cr:bM),(∀f args h K,Ref bad (cf f args h K) (cr f args h) λr=>K r.1 r.2)->∀args h K,Ref bad (p cf args h K) (q cr args h) λr=>K r.1 r.2
theorem Bx{P:Program}{gl:Nat->Bool}{bad:Bool}{pf:FuncId->Option (mD)}{pr:FuncId->Option mw}(hp:sP bad pf pr):∀n f args h K,Ref bad (rm P gl pf bad n f args h K) (aW P gl pr n f args h) λr=>K r.1 r.2
 |0,_,_,_,_=> .bad
 | n+1,f,args,h,K=>by
  have ih:=Bx hp (P:=P) (gl:=gl) n;show Ref bad (ft (Nat.ble YB f) (jd (f-YB) λk=>Ec (λnt=>⟨P,gl,rm P gl pf bad n,n,nt,bad⟩) bad k args h K) (Option.rec (motive:=λ_=>Bool)
   (uF bad (P.funcs[f]?) λfn=>uF bad fn.body λc=>ft (Nat.ble fn.ntmps 256&&Nat.ble args.length fn.ntmps)
    (tp args 0 uM λe=>codeF c ⟨P,gl,rm P gl pf bad n,n,fn.ntmps,bad⟩ e h λx e h=>Rl x bad (w5 P e h bad fn.results.toList λvs=>K (aU vs) h)) bad)
   (λp=>p (rm P gl pf bad n) args h K) (pf f))) _ _
  refine dc (λhY=>?_) (λhY=>?_)
  ·have hY:YB<=f:=by simpa[ble_eq]using hY
   rw[dI];rcases IZ (P:=P) (gl:=gl) (fl:=n) ih (f-YB) args h K with h1|⟨r,h1,h2⟩
   ·exact .inl h1
   ·exact .of (r:=r) (by simp only[aW,if_pos hY];exact h1) h2
  have hY:¬YB<=f:=λhh=>by
   have:Nat.ble YB f=true:=by simpa[ble_eq]using hh
   rw[hY]at this;cases this
  rcases hp f with⟨h1,h2⟩|⟨p,q,h1,h2,h3⟩
  ·rw[h1];refine gz λfn hfn=>gz λc hc=>dc (λhb=>?_) (λ_=> .bad);simp only[and_eq_true,ble_eq]at hb;obtain⟨e',h3,h4⟩:=pC args 0 uM (by omega);rw[h3];have hr:eD fn.ntmps e' (args++List.replicate (fn.ntmps-args.length) undef):=by
    refine⟨by simp;omega,hb.1,λt=>?_⟩;rw[h4];split
    ·next ht=>rw[Nat.sub_zero,gD,gD,List.getElem?_append_left (by omega)]
    ·next ht=>
     rw[td,gD,List.getElem?_append_right (by omega),getElem?_replicate];split<;>rfl
   let cx:Cx:=⟨P,gl,rm P gl pf bad n,n,fn.ntmps,bad⟩
   have hcf:q9 cx (aW P gl pr n):=λf args h K=>ih f args h K;have key:=fa hcf c (h:=h) (K:=λx e h=>Rl x bad (w5 P e h bad fn.results.toList λvs=>K (aU vs) h)) (e:=e') (l:=args++List.replicate (fn.ntmps-args.length) undef) hr;rcases key with h5|⟨ex,l1,h5,e1,h6,h7,h8⟩
   ·exact .inl h5
   ·rw[show codeF c ⟨P,gl,rm P gl pf bad n,n,fn.ntmps,bad⟩ e' h (λx e h=>Rl x bad (w5 P e h bad fn.results.toList λvs=>K (aU vs) h))=_ from h8];have hrun:aJ P gl (aW P gl pr n) n c (args++List.replicate (fn.ntmps-args.length) undef) h=some (ex,l1,h5):=h6;have fin:ex = .normal\/ex = .ret->Ref bad (w5 P e1 h5 bad fn.results.toList λvs=>K (aU vs) h5) (aW P gl pr (n+1) f args h) λr=>K r.1 r.2:=λhex=>by
     rcases tV h7 fn.results.toList (λvs=>K (aU vs) h5) (P:=P) (h:=h5) (bad:=bad)with h9|⟨vs,h9,h10⟩
     ·exact .inl h9
     ·refine .of (r:=(aU vs,h5)) ?_ h10;simp only[aW,if_neg hY,h2,hfn,hc,hrun];rcases hex with rfl|rfl<;>simp only[h9,map_some]
    cases ex with
    |normal=>exact fin (.inl rfl)
    |ret=>exact fin (.inr rfl)
    |_=>exact .bad
  ·rw[h1];rcases h3 (rm P gl pf bad n) (aW P gl pr n) ih args h K with h4|⟨r,h4,h5⟩
   ·exact .inl h4
   ·exact .of (r:=r) (by simp only[aW,if_neg hY,h2];exact h4) h5
section
variable {β:cC} {P:Program} {gl:Nat->Bool}
theorem rE{f:FuncId}{fn:Func}{e:Array Value->Sem Value}{p:mw}(hf:P.funcs[f]?=some fn)(hname:(fn.name == "runtime.NumGoroutine")=false) (hb:fn.body.isNone=true) (hn:Extern.findNext fn=none) (he:Extern.find fn=some e)
  (h:∀cf args h v h',p cf args h=some (v,h')->∀β w (args':Array Value),iK β h w->aK β args args'.toList->∃v' w' β',(e args').run P w = .ok v' w'/\Step β h w β' h' w'/\az β' v v'):jt P gl f p:=by
 intro cf _ args hh v h' hp β w args' hs _ ha;obtain⟨v',w',β',h1,h2,h3⟩:=h cf args hh v h' hp β w args' hs ha;refine⟨fn,hf,.inr ⟨v',w',β',?_,h2,h3⟩⟩;rw[run_callFunc_extern hf hname hb hn he,h1];rfl
def jY:mw:=λ_ args h=>match args with
 |[v]=>some (v,h)
 |_=>none
theorem vP{f:FuncId}{fn:Func}(hf:P.funcs[f]?=some fn)(hname:(fn.name == "runtime.NumGoroutine")=false) (hb:fn.body.isNone=true) (hn:Extern.findNext fn=none) (he:Extern.find fn=some Extern.AbiNoEscape.same):jt P gl f jY:=by
 refine rE hf hname hb hn he λcf args h v h' hp β w args' hs ha=>?_;unfold jY at hp;split at hp
 ·next u=>
  simp only[Option.some.injEq,Prod.mk.injEq]at hp;obtain⟨rfl,rfl⟩:=hp;obtain⟨u',r,hr,hv,hn⟩:=ha.cz;obtain rfl:=hn.dX;obtain rfl:args' = #[u']:=by
   have:=congrArg List.toArray hr;simpa using this
  exact⟨u',w,β,rfl,Step.refl hs,hv⟩
 grind
noncomputable def findAt(c:Nat):List UInt8->Nat->Int
 |[],_=> -1
 |b::l,i=>if b.toNat=c then i else findAt c l (i+1)
noncomputable def ig:mw:=λ_ args h=>match args with
 |[.string s,.int .u8 c]=>if 0<=c/\c<256 then some (.int .i64 (findAt c.toNat s.data.toList 0),h)else none
 |_=>none
theorem Kr(s:ByteArray)(c:Nat)(hc:c<256):findAt c s.data.toList 0=firstIdx s c.toUInt8:=by
 have key:∀(l:List UInt8)(i:Nat),s.data.toList.drop i=l->findAt c l i=match (List.range' i l.length).find? λj=>s[j]! == c.toUInt8 with|some j=>(j:Int)|none=> -1:=by
  intro l
  induction l with
  |nil=>intro i _;rfl
  | cons b l ih=>
   intro i hi;have hlt:i<s.data.toList.length:=by
    rcases lt_or_ge i s.data.toList.length with h|h
    ·exact h
    ·rw[List.drop_eq_nil_of_le h]at hi;cases hi
   have hb:s[i]! = b:=by
    have h0:s.data.toList[i]?=some b:=by
     have:(s.data.toList.drop i)[0]?=some b:=by rw[hi];rfl
     rw[List.getElem?_drop]at this;simpa using this
    have hsz:i<s.size:=by simpa using hlt
    rw[getElem!_pos s i hsz];have:s.data[i]?=some b:=by rw[<-getElem?_toList];exact h0
    rw[getElem?_eq_getElem (by simpa using hlt)]at this;exact oI this
   have hd:s.data.toList.drop (i+1)=l:=by rw[<-drop_drop,hi];rfl
   simp only[findAt,length_cons,range'_succ,List.find?_cons,hb];by_cases hbc:b.toNat=c
   ·have:(b==c.toUInt8)=true:=by
     rw[beq_iff_eq,<-UInt8.toNat_inj];simp[hbc];omega
    rw[if_pos hbc,this]
   ·have:(b==c.toUInt8)=false:=by
     rw[beq_eq_false_iff_ne];rintro rfl;apply hbc;simp;omega
    rw[if_neg hbc,this];exact ih (i+1) hd
 rw[key s.data.toList 0 rfl];unfold firstIdx;rw[List.range_eq_range',show s.data.toList.length=s.size by simp];rfl
theorem tj{f:FuncId}{fn:Func}(hf:P.funcs[f]?=some fn)(hname:(fn.name == "runtime.NumGoroutine")=false) (hb:fn.body.isNone=true) (hn:Extern.findNext fn=none) (he:Extern.find fn=some Extern.BytealgIndexByte.indexByte):jt P gl f ig:=by
 refine rE hf hname hb hn he λcf args h v h' hp β w args' hs ha=>?_;unfold ig at hp;split at hp
 ·next s c=>
  split at hp
  ·next hc=>
   simp only[Option.some.injEq,Prod.mk.injEq]at hp;obtain⟨rfl,rfl⟩:=hp;obtain⟨u',r,hr,hv,hn⟩:=ha.cz;obtain⟨x',r',rfl,hx,hn'⟩:=hn.cz;obtain rfl:=hn'.dX;obtain rfl:=hv.ep;obtain rfl:=hx.cW;obtain rfl:args' = #[.string s,.int .u8 c]:=by
    have:=congrArg List.toArray hr;simpa using this
   refine⟨_,w,β,run_indexByte_string s c w,Step.refl hs,?_⟩;rw[Kr s c.toNat (by omega)];exact .int _ _
  ·cases hp
 grind
section
noncomputable def BF(bad:Bool):mD:=λ_ args h K=>List.rec (motive:=λ_=>Bool) bad (λv r _=>List.rec (motive:=λ_=>Bool) (K v h) (λ_ _ _=>bad) r) args
theorem AF(bad:Bool)(cf:FuncId->List Value->aa->(Value->aa->Bool)->Bool)(cr:bM)(args:List Value)(h:aa)(K:Value->aa->Bool):Ref bad (BF bad cf args h K) (jY cr args h) λr=>K r.1 r.2:=by
 match args with
 |[]=>exact .inl rfl
 |[v]=>exact .of rfl rfl
 |v::u::r=>exact .inl rfl
noncomputable def Nb(c:Nat)(l:List UInt8):Nat->(Int->Bool)->Bool:=List.rec (motive:=λ_=>Nat->(Int->Bool)->Bool) (λ_ K=>K (-1)) (λb _ ih i K=>jd i λi=>ft (Nat.beq b.toNat c) (K (.ofNat i)) (ih (i+1) K)) l
theorem Fe(c:Nat):∀(l:List UInt8)(i:Nat)(K:Int->Bool),Nb c l i K=K (findAt c l i)
 |[],_,_=>rfl
 | b::l,i,K=>by
  show jd i (λi=>ft (Nat.beq b.toNat c) (K (.ofNat i)) (Nb c l (i+1) K))=_;rw[dI,Fe c l];simp only[findAt];by_cases hb:b.toNat=c
  ·rw[if_pos hb,show Nat.beq b.toNat c=true by simpa[beq_eq]using hb];rfl
  ·rw[if_neg hb];have:Nat.beq b.toNat c=false:=by
    rw[Bool.eq_false_iff];intro hh;exact hb (by simpa[beq_eq]using hh)
   rw[this];rfl
noncomputable def r8(bad:Bool):mD:=λ_ args h K=>match args with
 |[.string s,.int .u8 (.ofNat c)]=>ft (Nat.blt c 256) (Nb c s.data.toList 0 λi=>K (.int .i64 i) h) bad
 |_=>bad
theorem yK(bad:Bool)(cf:FuncId->List Value->aa->(Value->aa->Bool)->Bool)(cr:bM)(args:List Value)(h:aa)(K:Value->aa->Bool):Ref bad (r8 bad cf args h K) (ig cr args h) λr=>K r.1 r.2:=by
 unfold r8;split
 ·next s c=>
  refine dc (λhc=>?_) (λ_=> .bad);have hc:c<256:=by simpa[blt_eq]using hc
  rw[Fe];refine .of (r:=(.int .i64 (findAt c s.data.toList 0),h)) ?_ rfl;simp only[ig];rw[if_pos ⟨by simp,by simp;omega⟩];rfl
 ·exact .bad
end
def β0:cC:=λ_=>none
def mc:Nat->Bool:=λ_=>false
theorem aa.get_nil(n k:Nat):(⟨n,.nil⟩:aa).get k=none:=HT.get_nil _
theorem D1(n:Nat)(w:World):iK β0 ⟨n,.nil⟩ w:=
 {
  lt:=λk sl h=>nomatch h
  blk:=λk B sl h=>by grind[aa.get_nil]
  own:=λk k' B B' sl sl' _ h=>by grind[aa.get_nil]
  wf:=λk B h=>by grind[aa.get_nil] }
theorem C5:Gl mc β0:=λg h=>by cases h
open Go.RowKit in
theorem rj{n:Nat}{w w':World}{β':cC}{h':aa}(s:Step β0 ⟨n,.nil⟩ w β' h' w'):Below w.heap.size w w':=
 ⟨s.os,s.tape.1,s.output,s.size,λk hk=>s.kept k hk λ⟨k,B,sl,h1,_⟩=>by grind[aa.get_nil]⟩
end
end Go.Ab
end
section
namespace Go.Ab
open Go Go.RowKit
section
variable {β:cC} {P:Program} {gl:Nat->Bool}
theorem rM{h:aa}{w w':World}(hs:iK β h w)(hb:Below w.heap.size w w')(hd:w.drawn<=w'.drawn):Step β h w β h w':=
 {
  le:=β.le_refl,next:=Nat.le_refl _
  mB:={ lt:=λk sl hk=>⟨(hs.lt k sl hk).1,lt_of_lt_of_le (hs.lt k sl hk).2 hb.size⟩,blk:=λk B sl h1 h2=>(hs.blk k B sl h1 h2).of_heap (hb.block _ (hs.lt k sl h2).2),own:=hs.own,wf:=hs.wf }
  size:=hb.size,os:=hb.os,tape:=⟨hb.tape,hd⟩,output:=hb.output
  kept:=λb h1 _=>hb.block b h1
  back:=λ_ _ h=>h,fresh:=λ_ _ h=> .inl h,keys:=λ_ B h _=>⟨B,h⟩ }
def aM(P:Program)(f:FuncId)(args:List Value)(v:Value):Prop:=
 ∃fn,P.funcs[f]?=some fn/\fn.body.isSome=true/\∀w,Calls P f args.toArray w λe w'=>e = .returned v/\Below w.heap.size w w'/\w.drawn<=w'.drawn
theorem aK.pL{β:cC}{l:List Value}(h:l.all bare=true):aK β l l:=by
 induction l with
 |nil=>exact .nil β
 |cons v l ih=>
  simp only[all_cons,and_eq_true]at h;exact .cons (.xh h.1) (ih h.2)
theorem az.sS{β:cC}{v v':Value}(hv:bare v=true)(h:az β v v'):v'=v:=by
 cases h<;>first|rfl|(simp[bare]at hv)
theorem aK.EH{β:cC}:∀{l l':List Value},l.all bare=true->aK β l l'->l'=l
 |[],l',_,h=>h.dX
 |v::l,l',hb,h=>by
  simp only[all_cons,and_eq_true]at hb;obtain⟨v',r,rfl,hv,hr⟩:=h.cz;rw[hv.sS hb.1,hr.EH hb.2]
theorem az.NZ{β:cC}{v v':Value}(hv:plain v=true)(h:az β v v'):v'=v:=by
 have key:∀{a a':Array Value},gN β a a'->(∀x∈a.toList,∀y,az β x y->y=x)->a'=a:=λ{a a'} ha hx=>by
  refine Array.ext ha.1.symm λi h1 h2=>?_;have:=ha.2 i a[i] a'[i] (getElem?_eq_getElem h2) (getElem?_eq_getElem h1);exact hx _ (by simp) _ this
 unfold plain at hv;split at hv
 ·next cs=>
  obtain⟨a',rfl,ha⟩:=h.kQ;rw[key ha λx hx y hy=>hy.sS (all_eq_true.1 hv x hx)]
 ·next cs=>
  obtain⟨a',rfl,ha⟩:=h.qC;rw[key ha λx hx y hy=>?_];have:=all_eq_true.1 hv x hx;split at this
  ·next ds=>
   obtain⟨b',rfl,hb⟩:=hy.kQ;rw[key hb λz hz u hu=>hu.sS (all_eq_true.1 this z hz)]
  ·exact hy.sS this
 ·exact h.sS hv
theorem C9{cf:bM}(hcf:m6 P mc cf){f:FuncId}{fn:Func}{args:List Value}{n:Nat}{v:Value}{h':aa}(hr:cf f args ⟨n,.nil⟩=some (v,h'))(ha:args.all bare=true)(hv:plain v=true)(hY:f<YB)(hf:P.funcs[f]?=some fn)(hb:fn.body.isSome=true)
  (hN:dH P):aM P f args v:=by
 refine⟨fn,hf,hb,λw=>?_⟩;obtain⟨fn',hfn,h⟩:=hcf.fn f args _ v h' hY hr β0 w args.toArray (D1 n w) C5 (by simpa using aK.pL ha);rcases h with⟨_,h⟩|⟨v',w',β',h1,_,_⟩
 ·refine h.mono ?_;rintro e w' ⟨v',β',rfl,h2,h3⟩;exact⟨by rw[h3.NZ hv],rj h2,h2.tape.2⟩
 ·rw[ez hN hf hb]at h1
  cases h1
def xd:List UInt8->List UInt8->Bool
 |[],[]=>true
 |a::x,b::y=>Nat.beq a.toNat b.toNat&&xd x y
 |_,_=>false
theorem yk:∀{a b:List UInt8},xd a b=true->a=b
 |[],[],_=>rfl
 |a::x,b::y,h=>by
  simp only[xd,and_eq_true,beq_eq]at h;rw[UInt8.toNat_inj.1 h.1,yk h.2]
noncomputable def uE:Value->Value->Bool
 |.bool a,.bool b=>a==b
 |.int k a,.int k' b=>Qr k k'&&Jl a b
 |.string a,.string b=>xd a.data.toList b.data.toList
 |_,_=>false
theorem Br{a b:Value}(h:uE a b=true):a=b:=by
 unfold uE at h;split at h
 ·rw[beq_iff_eq.1 h]
 ·simp only[and_eq_true,y5,beq_iff_eq]at h;rw[C6 h.1,h.2]
 ·next a b=>
  have h:=yk h;obtain⟨⟨a⟩⟩:=a;obtain⟨⟨b⟩⟩:=b;simp only at h;rw[h]
 ·cases h
noncomputable def ny:List Value->List Value->Bool
 |[],[]=>true
 |a::x,b::y=>uE a b&&ny x y
 |_,_=>false
theorem uz:∀{a b:List Value},ny a b=true->a=b
 |[],[],_=>rfl
 |a::x,b::y,h=>by
  simp only[ny,and_eq_true]at h;rw[Br h.1,uz h.2]
theorem EG{a b:Value}(h:uE a b=true):bare b=true:=by
 unfold uE at h;split at h<;>first|rfl|cases h
theorem sQ:∀{a b:List Value},ny a b=true->b.all bare=true
 |[],[],_=>rfl
 |a::x,b::y,h=>by
  simp only[ny,and_eq_true]at h;simp only[all_cons,and_eq_true];exact⟨EG h.1,sQ h.2⟩
noncomputable def Dx:Value->Value->Bool
 |.agg a,.agg b=>ny a.toList b.toList
 |a,b=>uE a b
noncomputable def xl:List Value->List Value->Bool
 |[],[]=>true
 |a::x,b::y=>Dx a b&&xl x y
 |_,_=>false
noncomputable def Bn:Value->Value->Bool
 |.tuple a,.tuple b=>xl a.toList b.toList
 |a,b=>Dx a b
theorem Mn{a b:Array Value}(h:a.toList=b.toList):a=b:=by
 have:=congrArg List.toArray h;simpa using this
theorem BY{a b:Value}(h:Dx a b=true):a=b:=by
 unfold Dx at h;split at h
 ·rw[Mn (uz h)]
 ·exact Br h
theorem zq:∀{a b:List Value},xl a b=true->a=b
 |[],[],_=>rfl
 |a::x,b::y,h=>by
  simp only[xl,and_eq_true]at h;rw[BY h.1,zq h.2]
theorem Mj{a b:Value}(h:Bn a b=true):a=b:=by
 unfold Bn at h;split at h
 ·rw[Mn (zq h)]
 ·exact BY h
noncomputable def look:List (List Value×Value)->List Value->Option Value
 |[],_=>none
 |(a,v)::r,args=>if ny a args then some v else look r args
noncomputable def Cf(tab:List (List Value×Value)):mw:=λ_ args h=>(look tab args).map λv=>(v,h)
def ju(P:Program)(f:FuncId)(tab:List (List Value×Value)):Prop:=∀r∈tab,aM P f r.1 r.2/\plain r.2=true
theorem FL:∀{tab:List (List Value×Value)}{args:List Value}{v:Value},look tab args=some v->(args,v)∈tab/\args.all bare=true
 |[],_,_,h=>nomatch h
 | (a,u)::r,args,v,h=>by
  simp only[look]at h;split at h
  ·next he=>
   obtain rfl:=oI h;rw[uz he];exact⟨by simp,sQ he⟩
  ·obtain⟨h1,h2⟩:=FL h;exact⟨by simp[h1],h2⟩
theorem QT{f:FuncId}{tab:List (List Value×Value)}(ht:ju P f tab):jt P gl f (Cf tab):=by
 intro cf _ args h v h' hp β w args' hs _ ha;unfold Cf at hp;obtain⟨u,hu,he⟩:=map_eq_some_iff.1 hp;simp only[Prod.mk.injEq]at he;obtain⟨rfl,rfl⟩:=he;obtain⟨hm,hb⟩:=FL hu;obtain⟨⟨fn,hf,hbody,hcalls⟩,hv⟩:=ht _ hm;refine⟨fn,hf,.inl ⟨hbody,?_⟩⟩;have hargs:args'=args.toArray:=by
  have:=aK.EH hb ha;simpa using congrArg List.toArray this
 rw[hargs];refine(hcalls w).mono ?_;rintro e w' ⟨rfl,h2,h3⟩;exact⟨u,β,rfl,rM hs h2 h3,.me hv⟩
section
noncomputable def M6(bad:Bool)(tab:List (List Value×Value)):mD:=λ_ args h K=>List.rec (motive:=λ_=>Bool) bad (λr _ ih=>ft (ny r.1 args) (jO r.2 λv=>K v h) ih) tab
theorem Kp(bad:Bool)(tab:List (List Value×Value))(cf:FuncId->List Value->aa->(Value->aa->Bool)->Bool)(cr:bM)(args:List Value)(h:aa)(K:Value->aa->Bool):Ref bad (M6 bad tab cf args h K) (Cf tab cr args h) λr=>K r.1 r.2:=by
 unfold Cf
 induction tab with
 |nil=>exact .inl rfl
 |cons r tab ih=>
  obtain⟨a,v⟩:=r;show Ref bad (ft (ny a args) (jO v λv=>K v h) (M6 bad tab cf args h K)) _ _;simp only[look];refine dc (λhb=>?_) (λhb=>?_)
  ·rw[dV,if_pos hb];exact .of rfl rfl
  ·rw[if_neg (by rw[hb];simp)];exact ih
end
theorem NR{gl:Nat->Bool}{pf:FuncId->Option (mD)}{pr:FuncId->Option mw}(hp:sP false pf pr){n:Nat}{f:FuncId}{args:List Value}{h:aa}{v:Value}(hr:rm P gl pf false n f args h (λu _=>Bn v u)=true):
  ∃h',aW P gl pr n f args h=some (v,h'):=by
 rcases Bx (P:=P) (gl:=gl) hp n f args h (λu _=>Bn v u)with h1|⟨⟨u,h'⟩,h1,h2⟩
 ·rw[hr]at h1;cases h1
 ·rw[hr]at h2;exact⟨h',by rw[h1,Mj h2.symm]⟩
theorem KE(hN:dH P){pf:FuncId->Option (mD)}{pr:FuncId->Option mw}(hp:sP false pf pr){n:Nat}(hcf:m6 P mc (aW P mc pr n)){f:FuncId}{args:List Value}{v:Value}
  (hr:rm P mc pf false n f args ⟨0,.nil⟩ (λu _=>Bn v u)=true) (hc:(args.all bare&&plain v&&Nat.blt f YB&&pw P f)=true):aM P f args v:=by
 simp only[and_eq_true]at hc;obtain⟨⟨⟨h1,h2⟩,h3⟩,h4⟩:=hc;obtain⟨fn,hf,hb⟩:=vG h4;obtain⟨h',hr'⟩:=NR hp hr;exact C9 hcf hr' h1 h2 (by simpa[blt_eq]using h3) hf hb hN
theorem fS{f:FuncId}:ju P f []:=λ_ h=>by cases h
theorem av{f:FuncId}{a:List Value}{v:Value}{tab:List (List Value×Value)}(h:aM P f a v)(hv:plain v=true)(ht:ju P f tab):ju P f ((a,v)::tab):=λr hr=>by
 rcases mem_cons.1 hr with rfl|hr
 ·exact⟨h,hv⟩
 ·exact ht r hr
end
section
variable {β:cC} {P:Program} {gl:Nat->Bool}
noncomputable def sB(P:Program)(gl:Nat->Bool)(fn:Func)(r0 rest:Code)(d:Tmp):mw:=λcf args h=>
 match aJ P gl cf 40 r0 (args++List.replicate (fn.ntmps-args.length) undef) h with
 | some (.normal,tm,h1)=>if d<tm.length then
   match aJ P gl cf 40 rest (tm.set d fb) h1 with
   |some (.ret,tm',h')=>(ca P tm' h' fn.results.toList).map λvs=>(aU vs,h')
   |_=>none
  else none
 |_=>none
theorem sU{n:Nat}{f:FuncId}{fn:Func}{c:Code}{args:Array Value}{u:FrameMode}{w:World}{Bool:Ending->FrameMode->World->Prop}(hf:P.funcs[f]?=some fn)(hb:fn.body=some c)
  (h:∀(c₀:Frame)(cs:List Frame),c₀.mode=u->c.wpS P (bodyPostS P fn c₀ cs Bool) { tmps:=args++Array.replicate (fn.ntmps-args.size) undef,defers:=[] } (c₀::cs) w):CallsDIn Fence.wide n P f args u w Bool:=by
 refine⟨trivial,λc₀ cs hu _=>?_⟩;have hin:Frame.enter P f args .deferred=({ (default:Frame)with fn:=f,kind:= .deferred }:Frame).at { tmps:=args++Array.replicate (fn.ntmps-args.size) undef,defers:=[] } [.code c]:=by
  simp[Frame.enter,Frame.at,hf,hb]
 obtain⟨e,a',cs',w',hq,harr⟩:=h c₀ cs hu { (default:Frame)with fn:=f,kind:= .deferred } [] rfl rfl;rw[<-hin]at harr;rcases e with _|_|_|_|chain|_
 ·obtain⟨hd,u',rfl,v,hr,hR⟩:=hq;exact⟨.returned v,u',w',_,hR,comesIn_wide.2 (Steps.trans harr (.one step_end)),rfl,rfl,rfl,hd,fn,hf,hr⟩
 ·exact hq.elim
 ·exact hq.elim
 ·obtain⟨hd,u',rfl,v,hr,hR⟩:=hq;obtain⟨todo,hs⟩:=harr;exact⟨.returned v,u',w',_,hR,comesIn_wide.2 hs,rfl,rfl,rfl,hd,fn,hf,hr⟩
 ·obtain⟨hd,u',rfl,hR⟩:=hq;obtain⟨todo,hs⟩:=harr;exact⟨.panicked chain,u',w',_,hR,comesIn_wide.2 hs,rfl,rfl,rfl,hd,fn,hf⟩
 ·obtain⟨u',hR⟩:=hq;exact⟨.outgrown,u',w',{ (default:Frame)with fn:=f,kind:= .deferred },hR,comesIn_wide.2 (harr.resolve_left (by simp)),rfl,rfl,trivial⟩
theorem mJ{F:Fence}{n:Nat}{fn:Func}{β₀ β':cC}{h₀ h':aa}{w₀:World}{tmps:Array Value}{Bool:Ending->World->Prop}{tl:List Deferred}:
  ∀(ms:List Nat)(w':World),ms.Nodup->(∀b∈ms,w₀.heap.size<=b/\w'.heap[b]?=some (.deferred (some [])))->Step β₀ h₀ w₀ β' h' w'->
   (∀w'',Step β₀ h₀ w₀ β' h' w''->(∀b,b∉ms->w''.heap[b]?=w'.heap[b]?)->LeavesInM F n P fn tmps Bool tl .returning w'')->LeavesInM F n P fn tmps Bool (ms.map mark++tl) .returning w'
 |[],w',_,_,st,hk=>hk w' st λ_ _=>rfl
 | b::ms,w',hn,hb,st,hk=>by
  obtain⟨h1,h2⟩:=hb b (by simp);obtain⟨hn1,hn2⟩:=nodup_cons.1 hn;refine⟨by simp,.inl ⟨b,_,rfl,run_takeDeferred h2,?_⟩⟩;refine mJ ms _ hn2 (λb' hm=>?_) (Cn st h1 h2) λw'' st' hsame=>hk w'' st' λb' hb'=>?_
  ·grind[World.putObj_heap_other]
  ·simp only[mem_cons,not_or]at hb'
   grind[World.putObj_heap_other]
theorem ET(hN:dH P){fW fC:FuncId}{fn fnC:Func}{r0 rest:Code}{i1:Nat}{mk df:Oper}{d:Tmp}{cap:Array Operand}
  (hf:P.funcs[fW]?=some fn) (hb:fn.body=some (.seq r0 (.seq (.region i1 #[mk,df] false) rest)))
  (hmk:mk.op = .makeFunc (.func fC) #[] cap) (hmd:mk.dst=some d) (hmg:mk.guard=none) (hdf:df.op = .defer { callee:= .value (.tmp d),args:= #[],argTypes:= #[] }) (hdg:df.guard=none) (hdd:df.dst=none)
  (hfC:P.funcs[fC]?=some fnC) (hbC:fnC.body.isSome=true)
  (hidle:∀(args:Array Value)(w:World),args.size=cap.size->CallsDIn Fence.wide 0 P fC args .returning w λe u' w'=>(∃v,e = .returned v)/\u' = .returning/\Below w.heap.size w w'/\w.drawn<=w'.drawn)
  (hd0:bJ r0=true) (hd1:bJ rest=true):jt P gl fW (sB P gl fn r0 rest d):=by
 intro cf hcf args h v h' hp β w args' hs hg ha;refine⟨fn,hf,.inl ⟨by simp[hb],?_⟩⟩;unfold sB at hp;split at hp
 ·next tm h1 hr0=>
  split at hp
  ·next hlt=>
   split at hp
   ·next tm2 h2 hrest=>
    obtain⟨vs,hres,he⟩:=map_eq_some_iff.1 hp;simp only[Prod.mk.injEq]at he;obtain⟨rfl,rfl⟩:=he;refine(callsIn_wide (n:=0)).1 (callsIn_of_wp_marks (F:=Fence.wide) hf hb trivial ?_);have hrep:∀k,aK β (List.replicate k undef) (List.replicate k undef):=λk=>⟨rfl,λi v v' h1 h2=>by
     rw[getElem?_replicate]at h1 h2;split at h1
     ·next hi=>rw[if_pos hi]at h2;obtain rfl:=oI h1;obtain rfl:=oI h2;exact .undef β
     ·cases h1⟩
    have ht:aK β (args++List.replicate (fn.ntmps-args.length) undef) (args'++Array.replicate (fn.ntmps-args'.size) undef).toList:=by
     have:args'.size=args.length:=by rw[ha.1];simp
     rw[this];simp only[toList_append,Array.toList_replicate];exact ha.append (hrep _)
    refine wpIn_seq ?_;refine sW (r:=none) hN hcf r0 (.inl rfl) (iS (kO hN _ hcf) hd0) _ hr0 hs hg ht λa1 w1 β1 hst1 ht1 hm1=>?_;refine wpIn_seq (wpIn_region ?_);have hsz:d<a1.tmps.size:=by have:=ht1.1;rw[<-length_toList,<-this];exact hlt
    have hev:(a1.put (some d) (.func (.func fC) #[] (cap.map a1.eval))).eval (.tmp d) = .func (.func fC) #[] (cap.map a1.eval):=by
     simp[Act.put,Act.eval,hsz]
    have hw1:Region.wanted mk (yielded #[mk,df] a1.tmps)=true:=by simp[Region.wanted,hmg]
    have hw2:∀t,Region.wanted df (yielded #[mk,df] t)=true:=λt=>by simp[Region.wanted,hdg]
    show wpOpsIn (iF none) 0 P #[mk,df] _ [0,1] a1 w1;simp only[wpOpsIn,List.getElem?_toArray,List.getElem?_cons_zero,List.getElem?_cons_succ,hw1,if_true];refine⟨λ_ _=>trivial,?_⟩;rw[Oper.semAt_eq _ _ _ (λc hc=>by rw[hmk]at hc;cases hc)];have hrun1:(execOp a1.eval mk).run P w1 = .ok (.value (.func (.func fC) #[] (cap.map a1.eval))) w1:=by
     unfold execOp;simp[hmk,Instr.makeFunc]
    rw[hrun1];rw[Oper.uponIn_value];rw[hmd,if_pos (hw2 _)];refine⟨λ_ _=>trivial,?_⟩;have hrun2:(df.semAt (iF none).round (a1.put (some d) (.func (.func fC) #[] (cap.map a1.eval))).eval).run P w1 = .ok (.defer { target:= .fn (.func fC) (cap.map a1.eval),args:= #[] }) w1:=by
     show(execOp (a1.put (some d) (.func (.func fC) #[] (cap.map a1.eval))).eval df).run P w1=_;unfold execOp;simp only[hdf,resolve,hev,Deferred.ofValue,run_bind,Sem.run_pure,andThen_ok];simp
    rw[hrun2];show Code.wpIn (iF none) 0 P rest _ ({ (a1.put (some d) (.func (.func fC) #[] (cap.map a1.eval)))with defers:={ target:= .fn (.func fC) (cap.map a1.eval),args:= #[] }::(a1.put (some d) (.func (.func fC) #[] (cap.map a1.eval))).defers }.put df.dst undef) w1;rw[hdd];have ht1':aK β1 (tm.set d fb) (a1.put (some d) (.func (.func fC) #[] (cap.map a1.eval))).tmps.toList:=by
     have:=jB ht1 (some d) (v:=fb) (.fb (.func (.func fC) #[] (cap.map a1.eval)));exact this
    refine sW (r:=none) hN hcf rest (.inl rfl) (iS (kO hN _ hcf) hd1) _ hrest hst1.mB (hg.mono hst1.le) (a:={ (a1.put (some d) (.func (.func fC) #[] (cap.map a1.eval)))with defers:=_ }) ht1' λa2 w2 β2 hst2 ht2 hm2=>?_;have hst12:=hst1.trans hst2;obtain⟨ms1,hd1',hn1,hb1⟩:=hm1;obtain⟨ms2,hd2',hn2,hb2⟩:=hm2;simp only[append_nil]at hd1';have hdd2:a2.defers=ms2.map mark++({ target:= .fn (.func fC) (cap.map a1.eval),args:= #[] }::ms1.map mark):=by
     rw[hd2'];show _++(_::(a1.put (some d) _).defers)=_;rw[put_defers,hd1']
    show LeavesInM Fence.wide 0 P fn a2.tmps (mU β h w (aU vs) h2) a2.defers .returning w2;rw[hdd2];refine mJ ms2 w2 hn2 (λb hm=>⟨Nat.le_trans hst1.size (hb2 b hm).1,(hb2 b hm).2.2.1⟩) hst12 λw3 hst3 hsame=>?_;refine⟨by simp,.inr ⟨λhd=>by simp[Fence.wide]at hd,.func fC,cap.map a1.eval,fC,#[]++cap.map a1.eval,rfl,ez hN hfC hbC _ _,λ_ _=>trivial,?_⟩⟩;refine(hidle (#[]++cap.map a1.eval) w3 (by simp)).mono ?_;rintro e u' w4 ⟨⟨v,rfl⟩,rfl,hbelow,hdr⟩;show LeavesInM Fence.wide 0 P fn a2.tmps (mU β h w (aU vs) h2) (ms1.map mark) .returning w4;refine nM (P:=P) hres ht2 ms1 w4 hn1 (λb hm=>⟨(hb1 b hm).1,?_⟩) (hst3.trans (rM hst3.mB hbelow hdr));obtain⟨h4,h5,h6,h7⟩:=hb1 b hm;have hlt2:b<w2.heap.size:=lt_of_lt_of_le h5 hst2.size;have hnot:b∉ms2:=λhmem=>by have:=(hb2 b hmem).1;omega
    have h8:w2.heap[b]?=some (.deferred (some [])):=(hst2.kept b h5 h7).trans h6;have h9:w3.heap[b]?=some (.deferred (some [])):=(hsame b hnot).trans h8;rw[hbelow.block b ?_,h9];exact(Array.getElem?_eq_some_iff.1 h9).1
   ·cases hp
  ·cases hp
 grind
section
noncomputable def tW(x:Exit)(bad r:Bool):Bool:=Exit.rec (motive:=λ_=>Bool) bad (λ_=>bad) (λ_=>bad) r (λ_=>bad) bad x
noncomputable def HB(P:Program)(gl:Nat->Bool)(bad:Bool)(fn:Func)(r0 rest:Code)(d:Tmp):mD:=λcf args h K=>
 ft (Nat.ble fn.ntmps 256&&Nat.ble args.length fn.ntmps&&Nat.blt d fn.ntmps)
  (tp args 0 uM λe=>codeF r0 ⟨P,gl,cf,40,fn.ntmps,bad⟩ e h λx e h1=>iE x
   (nW fn.ntmps (some d) e fb λe=>codeF rest ⟨P,gl,cf,40,fn.ntmps,bad⟩ e h1 λx e h2=>tW x bad (w5 P e h2 bad fn.results.toList λvs=>K (aU vs) h2))
   (λ_=>bad) bad) bad
theorem HC(bad:Bool)(fn:Func)(r0 rest:Code)(d:Tmp)(cf:FuncId->List Value->aa->(Value->aa->Bool)->Bool)(cr:bM)(hcf:∀f args h K,Ref bad (cf f args h K) (cr f args h) λr=>K r.1 r.2)(args:List Value)(h:aa)(K:Value->aa->Bool):
  Ref bad (HB P gl bad fn r0 rest d cf args h K) (sB P gl fn r0 rest d cr args h) λr=>K r.1 r.2:=by
 unfold HB;refine dc (λhb=>?_) (λ_=> .bad);simp only[and_eq_true,ble_eq,blt_eq]at hb;obtain⟨⟨hb1,hb2⟩,hb3⟩:=hb;obtain⟨e',h3,h4⟩:=pC args 0 uM (by omega);rw[h3];have hr:eD fn.ntmps e' (args++List.replicate (fn.ntmps-args.length) undef):=by
  refine⟨by simp;omega,hb1,λt=>?_⟩;rw[h4];split
  ·next ht=>rw[Nat.sub_zero,gD,gD,List.getElem?_append_left (by omega)]
  ·next ht=>
   rw[td,gD,List.getElem?_append_right (by omega),getElem?_replicate];split<;>rfl
 let cx:Cx:=⟨P,gl,cf,40,fn.ntmps,bad⟩
 have hcf':q9 cx cr:=λf args h K=>hcf f args h K;rcases fa hcf' r0 (h:=h) (K:=λx e h1=>iE x
   (nW fn.ntmps (some d) e fb λe=>codeF rest cx e h1 λx e h2=>tW x bad (w5 P e h2 bad fn.results.toList λvs=>K (aU vs) h2))
   (λ_=>bad) bad) hr with h5|⟨ex,l1,g1,e1,h6,hr1,h7⟩
 ·exact .inl h5
 ·refine(show Ref bad (codeF r0 cx e' h _) _ _ from ?_);rw[h7];dsimp only
  cases ex with
  | normal=>
   dsimp only[iE];obtain⟨e2,h8,h9⟩:=qG hr1 (some d) fb;have h9':=λ(K:Env->Bool)=>h9 K;rw[show(nW fn.ntmps (some d) e1 fb λe=>codeF rest cx e g1 λx e h2=>tW x bad (w5 P e h2 bad fn.results.toList λvs=>K (aU vs) h2))=_ from h9' _];rcases fa hcf' rest (h:=g1) (K:=λx e h2=>tW x bad (w5 P e h2 bad fn.results.toList λvs=>K (aU vs) h2)) h8 with h10|⟨ex2,l2,g2,e3,h11,hr3,h12⟩
   ·exact .inl h10
   ·rw[h12];dsimp only
    cases ex2 with
    | ret=>
     dsimp only[tW];rcases tV hr3 fn.results.toList (λvs=>K (aU vs) g2) (P:=P) (h:=g2) (bad:=bad)with h13|⟨vs,h13,h14⟩
     ·exact .inl h13
     ·refine .of (r:=(aU vs,g2)) ?_ h14;have h6':aJ P gl cr 40 r0 (args++List.replicate (fn.ntmps-args.length) undef) h=some (.normal,l1,g1):=h6;have h11':aJ P gl cr 40 rest (l1.set d fb) g1=some (.ret,l2,g2):=h11;have hlen:d<l1.length:=by rw[hr1.1];exact hb3
      simp only[sB,h6',if_pos hlen,h11',h13,map_some]
    |_=>exact .inl rfl
  |_=>exact .inl rfl
end
end
section
variable {β:cC} {P:Program} {gl:Nat->Bool}
noncomputable def laid(l:List (Nat×bO))(t:HT):HT:=List.rec (motive:=λ_=>HT) t (λp _ ih=>HT.set (some p.2) (pathOf p.1) ih) l
theorem KF(p:Nat×bO)(l:List (Nat×bO))(t:HT):laid (p::l) t=HT.set (some p.2) (pathOf p.1) (laid l t):=rfl
structure Eh where
 args:List Value
 old:List (Nat×bO)
 next:Nat
 v:Value
 new:List (Nat×bO)
 next':Nat
def PO(B C:bO):Bool:=match B,C with
 |.cells cs t sz _,.cells cs' t' sz' _=>Jc (mq 4) cs cs'&&Nat.beq t t'&&Nat.beq sz sz'
 |_,_=>false
def Rm:bO->Bool
 |.cells _ _ _ wr=> !wr
 |_=>false
noncomputable def Tg(h:aa)(p:Nat×bO):Bool:=Rm p.2&&(match h.get p.1 with|some C=>PO p.2 C|none=>false)
noncomputable def fits(h:aa)(args:List Value)(r:Eh):Bool:=Jc (mq 4) r.args args&&Nat.ble h.next r.next&&r.old.all (Tg h)
noncomputable def VI(r:Eh)(h:aa):aa:=⟨r.next',laid r.new h.t⟩
noncomputable def NB(h:aa)(args:List Value):List Eh->Option Eh
 |[]=>none
 |r::l=>if fits h args r then some r else NB h args l
noncomputable def OD(rows:List Eh):mw:=λ_ args h=>(NB h args rows).map λr=>(r.v,VI r h)
noncomputable def Jm(l:List (Nat×bO))(t:HT)(K:HT->Bool):Bool:=List.rec (motive:=λ_=>(HT->Bool)->Bool) (λK=>K t) (λp _ ih K=>ih λt=>HT.mA (some p.2) (pathOf p.1) t K) l K
theorem FC(t:HT):∀(l:List (Nat×bO))(K:HT->Bool),Jm l t K=K (laid l t)
 |[],_=>rfl
 |p::l,K=>by
  show Jm l t (λt=>HT.mA (some p.2) (pathOf p.1) t K)=_;rw[FC t l,HT.eB,KF]
noncomputable def M5(bad:Bool)(rows:List Eh):mD:=λ_ args h K=>List.rec (motive:=λ_=>Bool) bad (λr _ ih=>ft (fits h args r) (Jm r.new h.t λt=>jO r.v λv=>K v ⟨r.next',t⟩) ih) rows
theorem Ko(bad:Bool)(rows:List Eh)(cf:FuncId->List Value->aa->(Value->aa->Bool)->Bool)(cr:bM)(args:List Value)(h:aa)(K:Value->aa->Bool):Ref bad (M5 bad rows cf args h K) (OD rows cr args h) λr=>K r.1 r.2:=by
 unfold OD
 induction rows with
 |nil=>exact .inl rfl
 |cons r rows ih=>
  show Ref bad (ft (fits h args r) (Jm r.new h.t λt=>jO r.v λv=>K v ⟨r.next',t⟩) (M5 bad rows cf args h K)) _ _;simp only[NB];refine dc (λhb=>?_) (λhb=>?_)
  ·rw[FC,dV,if_pos hb];exact .of rfl rfl
  ·rw[if_neg (by rw[hb];simp)];exact ih
end
section
variable {P:Program} {gl:Nat->Bool}
inductive pq where
 |pF (tab:List (List Value×Value))
 |Sd
 |Jk
 |defer (fn:Func) (r0 rest:Code) (d:Tmp)
 |fc (rows:List Eh)
noncomputable def pq.Gz(P:Program)(gl:Nat->Bool)(e:pq):mw:=pq.rec (motive:=λ_=>mw) (λtab=>Cf tab) jY ig (λfn r0 rest d=>sB P gl fn r0 rest d) (λrows=>OD rows) e
noncomputable def pq.M9(P:Program)(gl:Nat->Bool)(bad:Bool)(e:pq):mD:=pq.rec (motive:=λ_=>mD) (λtab=>M6 bad tab) (BF bad) (r8 bad) (λfn r0 rest d=>HB P gl bad fn r0 rest d) (λrows=>M5 bad rows) e
abbrev kI:=List (FuncId×pq)
noncomputable def CP{α:Type}(b:Bool)(x y:Option α):Option α:=Bool.rec (motive:=λ_=>Option α) y x b
noncomputable def DB(P:Program)(gl:Nat->Bool)(l:kI)(f:FuncId):Option mw:=List.rec (motive:=λ_=>Option mw) none (λx _ ih=>CP (Nat.beq f x.1) (some (x.2.Gz P gl)) ih) l
noncomputable def NV(P:Program)(gl:Nat->Bool)(bad:Bool)(l:kI)(f:FuncId):Option (mD):=List.rec (motive:=λ_=>Option (mD)) none (λx _ ih=>CP (Nat.beq f x.1) (some (x.2.M9 P gl bad)) ih) l
theorem NW(bad:Bool)(l:kI):sP bad (NV P gl bad l) (DB P gl l):=λf=>by
 induction l with
 |nil=>exact .inl ⟨rfl,rfl⟩
 | cons x l ih=>
  show(CP (Nat.beq f x.1) (some (x.2.M9 P gl bad)) (NV P gl bad l f)=none/\CP (Nat.beq f x.1) (some (x.2.Gz P gl)) (DB P gl l f)=none)\/_
  cases hx:Nat.beq f x.1 with
  | false=>
   rcases ih with⟨h1,h2⟩|⟨p,q,h1,h2,h3⟩
   ·exact .inl ⟨h1,h2⟩
   ·refine .inr ⟨p,q,?_,?_,h3⟩
    ·show CP (Nat.beq f x.1) (some (x.2.M9 P gl bad)) (NV P gl bad l f)=_;rw[hx];exact h1
    ·show CP (Nat.beq f x.1) (some (x.2.Gz P gl)) (DB P gl l f)=_;rw[hx];exact h2
  | true=>
   refine .inr ⟨x.2.M9 P gl bad,x.2.Gz P gl,?_,?_,λcf cr hcf args h K=>?_⟩
   ·show CP (Nat.beq f x.1) (some (x.2.M9 P gl bad)) (NV P gl bad l f)=_;rw[hx];rfl
   ·show CP (Nat.beq f x.1) (some (x.2.Gz P gl)) (DB P gl l f)=_;rw[hx];rfl
   ·obtain⟨k,e⟩:=x
    cases e with
    |pF tab=>exact Kp bad tab cf cr args h K
    |Sd=>exact AF bad cf cr args h K
    |Jk=>exact yK bad cf cr args h K
    |defer fn r0 rest d=>exact HC bad fn r0 rest d cf cr hcf args h K
    |fc rows=>exact Ko bad rows cf cr args h K
def lI(P:Program)(gl:Nat->Bool)(l:kI):Prop:=∀x∈l,jt P gl x.1 (x.2.Gz P gl)
theorem JB{l:kI}(h:lI P gl l):sO P gl (DB P gl l):=λf p hp=>by
 induction l with
 |nil=>cases hp
 | cons x l ih=>
  have hp:CP (Nat.beq f x.1) (some (x.2.Gz P gl)) (DB P gl l f)=some p:=hp
  cases hx:Nat.beq f x.1 with
  |false=>rw[hx]at hp;exact ih (λy hy=>h y (by simp[hy])) hp
  |true=>
   rw[hx]at hp;obtain rfl:=oI hp;obtain rfl:f=x.1:=by simpa[beq_eq]using hx
   exact h x (by simp)
theorem Bl:lI P gl []:=λ_ h=>by cases h
theorem iZ{x:FuncId×pq}{l:kI}(h:jt P gl x.1 (x.2.Gz P gl))(hl:lI P gl l):lI P gl (x::l):=λy hy=>by
 rcases mem_cons.1 hy with rfl|hy
 ·exact h
 ·exact hl y hy
theorem cR{f:FuncId}{tab:List (List Value×Value)}{l:kI}(h:ju P f tab)(hl:lI P gl l):lI P gl ((f,.pF tab)::l):=iZ (QT h) hl
structure rX(P:Program):Prop where
 names:dH P
 MQ:∀(f:FuncId)(fn:Func),P.funcs[f]?=some fn->ee fn=true
theorem rX.run(h:rX P){l:kI}(hl:lI P gl l)(n:Nat):m6 P gl (aW P gl (DB P gl l) n):=CM h.names (JB hl) (vF h.names h.MQ) (kO h.names) n
theorem rX.Yy(h:rX P){pr:FuncId->Option mw}(hp:sO P gl pr)(n:Nat):m6 P gl (aW P gl pr n):=CM h.names hp (vF h.names h.MQ) (kO h.names) n
theorem al(ht:rX P){l:kI}(hl:lI P mc l){n:Nat}{f:FuncId}{args:List Value}{v:Value}(hr:rm P mc (NV P mc false l) false n f args ⟨0,.nil⟩ (λu _=>Bn v u)=true)
  (hc:(args.all bare&&plain v&&Nat.blt f YB&&pw P f)=true):aM P f args v:=
 KE ht.names (NW false l) (ht.run hl n) hr hc
end
end Go.Ab
end
section
namespace Go.Ab
open Go
section
structure Sx where
 P:Program
 gl:Nat->Bool
 pr:FuncId->Option mw
abbrev Fr:=Nat->Value
def IM(E:Fr)(d:Nat)(v:Value):Fr:=λt=>if t=d then v else E t
def qW(E:Fr)(dst:Option Tmp)(v:Value):Fr:=match dst with
 |some d=>IM E d v
 |none=>E
def dU(gl:Nat->Bool)(E:Fr):Operand->Value
 |.tmp t=>E t
 |.const v=>if plain v then v else fb
 |.global g=>if gl g then .pointer (some ⟨g,0,none⟩)else fb
 |.func f=> .func (.func f) #[] #[]
def ER(nm:Nat)(E:Fr)(tm:List Value):Prop:=tm.length=nm/\∀t,tm.getD t undef=E t
def sY(nm:Nat):Option Tmp->Bool
 |none=>true
 |some d=>decide (d<nm)
theorem ER.ev{nm:Nat}{E:Fr}{tm:List Value}(gl:Nat->Bool)(h:ER nm E tm):ev gl tm=dU gl E:=by
 funext x
 cases x with
 |tmp t=>exact h.2 t
 |const v=>rfl
 |global g=>rfl
 |func f=>rfl
theorem ER.put{nm:Nat}{E:Fr}{tm:List Value}(h:ER nm E tm){dst:Option Tmp}(hd:sY nm dst=true)(v:Value):ER nm (qW E dst v) (fO tm dst v):=by
 cases dst with
 |none=>exact h
 |some d=>
  have hd:d<nm:=by simpa[sY]using hd
  refine⟨by simp[fO,h.1],λt=>?_⟩;simp only[fO,qW,IM,gD,List.getElem?_set];by_cases ht:t=d
  ·subst ht;rw[if_pos rfl,if_pos rfl,if_pos (by rw[h.1];omega)];rfl
  ·rw[if_neg ht,if_neg (λe=>ht e.symm),<-gD];exact h.2 t
def FR(S:Sx)(f:FuncId)(args:List Value)(h:aa)(v:Value)(h':aa):Prop:=∃n0,∀n,n0<=n->aW S.P S.gl S.pr n f args h=some (v,h')
def FW(S:Sx)(f:FuncId)(args:List Value)(h:aa)(Q:Value->aa->Prop):Prop:=∃v h',FR S f args h v h'/\Q v h'
theorem FW.mono{S:Sx}{f:FuncId}{args:List Value}{h:aa}{Q R:Value->aa->Prop}(hq:FW S f args h Q)(hr:∀v h',Q v h'->R v h'):FW S f args h R:=by
 obtain⟨v,h',h1,h2⟩:=hq;exact⟨v,h',h1,hr v h' h2⟩
abbrev VH:=Value->aa->Prop
abbrev FH:=Fr->aa->Prop
abbrev Aw:=Exit->Fr->aa->Prop
def zX(ops:Array Oper)(E:Fr)(guard:Option (Nat×Bool)):Option Bool:=match guard with
 |none=>some true
 | some (j,want)=>match (ops[j]?).bind (·.dst)with
  |some d=>match E d with
   |.bool b=>some (b==want)
   |.tuple _=>some false
   |_=>none
  |none=>none
theorem mu{nm:Nat}{E:Fr}{tm:List Value}(h:ER nm E tm)(ops:Array Oper)(o:Oper):eC ops tm o=zX ops E o.guard:=by
 unfold eC zX
 cases o.guard with
 |none=>rfl
 |some g=>
  obtain⟨j,want⟩:=g;dsimp only
  cases (ops[j]?).bind (·.dst)with
  |none=>rfl
  |some d=>dsimp only;rw[h.2 d];rfl
def Ef(r:Option (Value×cX))(h:aa)(K:VH):Prop:=match r with
 |some (v,u)=>K v (u.app h)
 |none=>False
def q6(r:Option Value)(h:aa)(K:VH):Prop:=match r with
 |some v=>K v h
 |none=>False
def oC(S:Sx)(f:Value)(args:List Value)(h:aa)(K:VH):Prop:=match f with
 |.func (.func g) first captured=>g<YB/\FW S g (first.toList++args++captured.toList) h K
 |.func (.yield k) first captured=>(first.size=0/\captured.size=0)/\FW S (YB+k) args h K
 |_=>False
def wpOp(S:Sx)(E:Fr)(o:Oper)(h:aa)(K:VH):Prop:=match o.op with
 |.call { callee:= .value f,args,.. }=>oC S (dU S.gl E f) (args.toList.map (dU S.gl E)) h K
 |_=>Ef (aV S.P fV (dU S.gl E) o h) h K
def Sm(r:Option Bool)(A B:Unit->Prop):Prop:=match r with
 |some true=>A ()
 |some false=>B ()
 |none=>False
def Pu(S:Sx)(ops:Array Oper):List Oper->Fr->aa->FH->Prop
 |[],E,h,R=>R E h
 |o::l,E,h,R=>Sm (zX ops E o.guard) (λ_=>wpOp S E o h λv h=>Pu S ops l (qW E o.dst v) h R) (λ_=>Pu S ops l (qW E o.dst undef) h R)
def WN(S:Sx)(ops:Array Oper)(dst:Option Tmp)(l:List Oper)(E:Fr)(h:aa)(R:FH)(_:Unit):Prop:=Pu S ops l (qW E dst undef) h R
def Zl(S:Sx)(ops:Array Oper)(dst:Option Tmp)(l:List Oper)(E:Fr)(R:FH)(v:Value)(h:aa):Prop:=Pu S ops l (qW E dst v) h R
def Yk(S:Sx)(ops:Array Oper)(o:Oper)(l:List Oper)(E:Fr)(h:aa)(R:FH)(_:Unit):Prop:=wpOp S E o h (Zl S ops o.dst l E R)
section
variable (S:Sx) (ops:Array Oper) (o:Oper) (l:List Oper) (dst:Option Tmp) (E:Fr) (h:aa) (R:FH) (v:Value)
theorem Pg:Pu S ops (o::l) E h R=Sm (zX ops E o.guard) (Yk S ops o l E h R) (WN S ops o.dst l E h R):=rfl
theorem IN(ops:Array Oper)(E:Fr)(j:Nat)(want:Bool):zX ops E (some (j,want))=match (ops[j]?).bind (·.dst)with
  |some d=>(match E d with|.bool b=>some (b==want)|.tuple _=>some false|_=>none)
  |none=>none:=rfl
end
noncomputable section
variable (S:Sx) (bf:Nat->Nat->Bool)
def Cg(o:Oper)(E:Fr)(v:Value)(h:aa):Bool:=match aY S.P (dU S.gl E) o h with
 |some v'=>mq 4 v v'
 |none=>false
def mN(j:Nat)(o:Oper)(E:Fr)(v:Value):aa->List (Nat×aa)->Bool->Bool
 |h,[],own=>own||Cg S o E v h
 |h,(e,h')::r,own=>((own&&Nat.blt j e)||bf j e||Cg S o E v h)&&(bf e j||mN j o E v h' r (Nat.blt e j))
abbrev GQ:=Fr×Oper×kA
def su(h:aa)(es:List (Nat×aa)):List GQ->Nat->Bool
 |[],_=>true
 |(E,o,.read v)::r,j=>mN S bf j o E v h es true&&su h es r (j+1)
 |_::r,j=>su h es r (j+1)
def mG:List GQ->Nat->List (Nat×aa)
 |[],_=>[]
 |(_,_,.rB _ h)::r,j=>(j,h)::mG r (j+1)
 |_::r,j=>mG r (j+1)
def sX(h:aa)(recs:List GQ):Bool:=chained bf (mG recs 0)&&su S bf h (mG recs 0) recs 0
def Aa(E:Fr)(o:Oper)(h:aa)(K:VH):Prop:=match o.op with
 |.call { callee:= .value f,args,.. }=>oC S (dU S.gl E f) (args.toList.map (dU S.gl E)) h K
 |_=>Ef (cY S.P fV (dU S.gl E) o h) h K
def ue(ops:Array Oper)(base:Nat)(h0:aa):List Oper->Nat->Fr->aa->List (Nat×bO)->List GQ->FH->Prop
 |[],_,E,h,pd,recs,R=>sX S bf h0 recs.reverse=true/\R E (bj h base pd)
 | o::l,j,E,h,pd,recs,R=>Sm (zX ops E o.guard)
   (λ_=>match aT S.P (dU S.gl E) o with
    |some v=>ue ops base h0 l (j+1) (qW E o.dst v) h pd ((E,o,.pure v)::recs) R
    | none=>match aY S.P (dU S.gl E) o h with
     |some v=>ue ops base h0 l (j+1) (qW E o.dst v) h pd ((E,o,.read v)::recs) R
     |none=>match aS S.P (dU S.gl E) o with
      |some (B,f)=>ue ops base h0 l (j+1) (qW E o.dst (f (base+j))) h ((j,B)::pd) ((E,o,.alloc B (f (base+j)))::recs) R
      |none=>Aa S E o (bj h base (pd.filter λp=>bf j p.1)) λv h'=>ue ops base h0 l (j+1) (qW E o.dst v) h' (pd.filter λp=> !bf j p.1) ((E,o,.rB v h')::recs) R)
   (λ_=>ue ops base h0 l (j+1) (qW E o.dst undef) h pd ((E,o,.skip)::recs) R)
def UE(ops:Array Oper)(E:Fr)(h:aa)(R:FH):Prop:=
 uy ops=false/\ue S (cM (gm ops)) ops h.next { h with next:=h.next+ops.size } ops.toList 0 E { h with next:=h.next+ops.size } [] [] R
end
section
variable (S:Sx) (nm:Nat)
def Mc(c:Code)(E:Fr)(h:aa)(x:Exit)(E':Fr)(h':aa):Prop:=
 ∃n0,∀n N,n0<=n->n0<=N->∀tm,ER nm E tm->∃tm',ER nm E' tm'/\aJ S.P S.gl (aW S.P S.gl S.pr n) N c tm h=some (x,tm',h')
def UU(c:Code)(E:Fr)(h:aa)(x:Exit)(E':Fr)(h':aa):Prop:=
 ∃n0,∀n N j,n0<=n->n0<=N->n0<=j->∀tm,ER nm E tm->∃tm',ER nm E' tm'/\iter (aJ S.P S.gl (aW S.P S.gl S.pr n) N c) j tm h=some (x,tm',h')
def A5(c:Code)(E:Fr)(h:aa)(Q:Aw):Prop:=∃x E' h',UU S nm c E h x E' h'/\Q x E' h'
def Hb(c:Code)(E:Fr)(h:aa)(Q:Aw):Prop:=∃x E' h',Mc S nm c E h x E' h'/\Q x E' h'
def YX(v:Value)(A B:Unit->Prop):Prop:=match v with
 |.bool true=>A ()
 |.bool false=>B ()
 |_=>False
def Pb:Code->Fr->aa->Aw->Prop
 |.skip,E,h,Q=>Q .normal E h
 |.region _ ops false,E,h,Q=>Pu S ops ops.toList E h λE h=>Q .normal E h
 |.region _ ops true,E,h,Q=>UE S ops E h λE h=>Q .normal E h
 |.seq a b,E,h,Q=>Pb a E h λx E h=>match x with
  |.normal=>Pb b E h Q
  |x=>Q x E h
 |.cond c a b,E,h,Q=>YX (dU S.gl E c) (λ_=>Pb a E h Q) (λ_=>Pb b E h Q)
 |.block id c,E,h,Q=>Pb c E h λx E h=>match x with
  |.exit id'=>if id'=id then Q .normal E h else Q (.exit id') E h
  |x=>Q x E h
 |.loop c,E,h,Q=>A5 S nm c E h Q
 |.exit id,E,h,Q=>Q (.exit id) E h
 |.ret,E,h,Q=>Q .ret E h
 |.label _,E,h,Q=>Q .normal E h
 |.rangeFunc f ps a b,E,h,Q=>Hb S nm (.rangeFunc f ps a b) E h Q
 |_,_,_,_=>False
def U7(c:Code)(Q:Aw)(x:Exit)(E:Fr)(h:aa):Prop:=match x with
 |.normal=>A5 S nm c E h Q
 |x=>Q x E h
def Y5(c:Code)(E:Fr)(h:aa)(Q:Aw)(_:Unit):Prop:=Pb S nm c E h Q
variable (a b c:Code) (o:Operand) (id id':Nat) (ops:Array Oper) (E:Fr) (h:aa) (Q:Aw)
theorem Pc:Pb S nm (.cond o a b) E h Q=YX (dU S.gl E o) (Y5 S nm a E h Q) (Y5 S nm b E h Q):=rfl
end
theorem RM{v:Value}{A B:Unit->Prop}(h:YX v A B):∃b,v = .bool b/\((b=true/\A ())\/(b=false/\B ())):=by
 cases v with
 |bool b=>
  cases b with
  |true=>exact⟨true,rfl,.inl ⟨rfl,h⟩⟩
  |false=>exact⟨false,rfl,.inr ⟨rfl,h⟩⟩
 |_=>exact h.elim
theorem D8{r:Option Bool}{A B:Unit->Prop}(h:Sm r A B):(r=some true/\A ())\/(r=some false/\B ()):=by
 cases r with
 |none=>exact h.elim
 |some b=>
  cases b with
  |true=>exact .inl ⟨rfl,h⟩
  |false=>exact .inr ⟨rfl,h⟩
section
variable {S:Sx} {nm:Nat}
theorem ud{fv:Value}{args:List Value}{h:aa}{K:VH}(hw:oC S fv args h K):∃v h' n0,(∀n,n0<=n->pv (aW S.P S.gl S.pr n) fv args h=some (v,.all h'))/\K v h':=by
 unfold oC at hw;split at hw
 ·next g first captured=>
  obtain⟨hY,v,h',⟨n0,hr⟩,hk⟩:=hw;refine⟨v,h',n0,λn hn=>?_,hk⟩;simp only[pv];rw[if_pos hY,hr n hn];rfl
 ·obtain⟨hz,v,h',⟨n0,hr⟩,hk⟩:=hw;refine⟨v,h',n0,λn hn=>?_,hk⟩;simp only[pv];rw[if_pos hz,hr n hn];rfl
 grind
theorem lQ{o:Oper}(hc:aQ o=true):∃f args ts,o.op = .call { callee:= .value f,args:=args,argTypes:=ts }:=by grind[aQ]
theorem GK{E:Fr}{o:Oper}{h:aa}{K:VH}(hw:Aa S E o h K):∃v u n0,(∀n,n0<=n->cY S.P (aW S.P S.gl S.pr n) (dU S.gl E) o h=some (v,u))/\K v (u.app h):=by
 cases hc:aQ o with
 |true=>
  obtain⟨f,args,ts,e⟩:=lQ hc;obtain⟨dst,op,ty,pos,after,guard⟩:=o;dsimp only at e;subst e;obtain⟨v,h',n0,h1,h2⟩:=ud hw;exact⟨v,.all h',n0,h1,h2⟩
 | false=>
  have hw':Ef (cY S.P fV (dU S.gl E) o h) h K:=by
   unfold Aa at hw;split at hw
   ·next e=>unfold aQ at hc;rw[e]at hc;cases hc
   ·exact hw
  unfold Ef at hw';split at hw'
  ·next v u e=>exact⟨v,u,0,λn _=>by rw[<-sj hc];exact e,hw'⟩
  grind
theorem F5{P:Program}{cf:bM}{ρ:Operand->Value}{o:Oper}{h:aa}(hc:aQ o=true):aV P cf ρ o h=cY P cf ρ o h:=by
 obtain⟨f,args,ts,e⟩:=lQ hc;obtain⟨dst,op,ty,pos,after,guard⟩:=o;dsimp only at e;subst e;rfl
theorem IV{E:Fr}{o:Oper}{h:aa}{K:VH}(hw:wpOp S E o h K):∃v u n0,(∀n,n0<=n->aV S.P (aW S.P S.gl S.pr n) (dU S.gl E) o h=some (v,u))/\K v (u.app h):=by
 cases hc:aQ o with
 |true=>
  obtain⟨f,args,ts,e⟩:=lQ hc;obtain⟨dst,op,ty,pos,after,guard⟩:=o;dsimp only at e;subst e;obtain⟨v,h',n0,h1,h2⟩:=ud hw;exact⟨v,.all h',n0,λn hn=>by rw[F5 hc];exact h1 n hn,h2⟩
 | false=>
  have hw':Ef (aV S.P fV (dU S.gl E) o h) h K:=by
   unfold wpOp at hw;split at hw
   ·next e=>unfold aQ at hc;rw[e]at hc;cases hc
   ·exact hw
  unfold Ef at hw';split at hw'
  ·next v u e=>exact⟨v,u,0,λn _=>by rw[<-zn hc];exact e,hw'⟩
  grind
theorem vx(ops:Array Oper){R:FH}:∀(l:List Oper)(E:Fr)(h:aa),(l.all λo=>sY nm o.dst)=true->Pu S ops l E h R->
  ∃E' h' n0,(∀n,n0<=n->∀tm,ER nm E tm->∃tm',ER nm E' tm'/\fM S.P S.gl (aW S.P S.gl S.pr n) ops l tm h=some (tm',h'))/\R E' h'
 |[],E,h,_,hw=>⟨E,h,0,λn _ tm ht=>⟨tm,ht,rfl⟩,hw⟩
 | o::l,E,h,hd,hw=>by
  simp only[all_cons,and_eq_true]at hd;rcases D8 hw with⟨hg,hw⟩|⟨hg,hw⟩
  ·obtain⟨v,u,n1,h1,h2⟩:=IV hw;obtain⟨E',h',n2,h3,h4⟩:=vx ops l _ _ hd.2 h2;refine⟨E',h',max n1 n2,λn hn tm ht=>?_,h4⟩;obtain⟨tm',ht',h5⟩:=h3 n (by omega) _ (ht.put hd.1 v);refine⟨tm',ht',?_⟩;simp only[fM];rw[mu ht,hg,ht.ev,h1 n (by omega)];omega
  ·obtain⟨E',h',n2,h3,h4⟩:=vx ops l _ _ hd.2 hw;refine⟨E',h',n2,λn hn tm ht=>?_,h4⟩;obtain⟨tm',ht',h5⟩:=h3 n hn _ (ht.put hd.1 undef)
   grind[mu,fM]
def x8(nm:Nat):List Oper->List GQ->List (List Value×kA)->Prop
 |[],[],[]=>True
 |o::os,(E,o',e)::r,(tm,e')::r'=>o'=o/\e'=e/\ER nm E tm/\x8 nm os r r'
 |_,_,_=>False
theorem E0:∀{l:List Oper}{r:List GQ}{r':List (List Value×kA)}(j:Nat),x8 nm l r r'->dz r' j=mG r j
 |[],[],[],_,_=>rfl
 |o::os,(E,o',e)::r,(tm,e')::r',j,h=>by
  obtain⟨rfl,rfl,_,h⟩:=h
  cases e'<;>simp only[dz,mG,E0 (j+1) h]
 |[],[],_::_,_,h=>h.elim
 |[],_::_,_,_,h=>h.elim
 |_::_,[],_,_,h=>h.elim
 |_::_,_::_,[],_,h=>h.elim
theorem tY{o:Oper}{E:Fr}{tm:List Value}{v:Value}{h:aa}(ht:ER nm E tm):ij S.P S.gl o tm v h=Cg S o E v h:=by
 unfold ij Cg;rw[ht.ev];rfl
theorem zE{bf:Nat->Nat->Bool}{j:Nat}{o:Oper}{E:Fr}{tm:List Value}{v:Value}(ht:ER nm E tm):∀(es:List (Nat×aa))(h:aa)(own:Bool),jC S.P S.gl bf j o tm v h es own=mN S bf j o E v h es own
 |[],h,own=>by grind[tY,jC,mN]
 |(e,h')::es,h,own=>by simp only[jC,mN,tY ht,zE ht es]
theorem Cc{bf:Nat->Nat->Bool}{h:aa}{es:List (Nat×aa)}:∀{l:List Oper}{r:List GQ}{r':List (List Value×kA)}(j:Nat),x8 nm l r r'->fP S.P S.gl bf h es l r' j=su S bf h es r j
 |[],[],[],_,_=>rfl
 |o::os,(E,o',e)::r,(tm,e')::r',j,hr=>by
  obtain⟨rfl,rfl,ht,hr⟩:=hr
  cases e'<;>simp only[fP,su,Cc (j+1) hr,zE ht]
 |[],[],_::_,_,h=>h.elim
 |[],_::_,_,_,h=>h.elim
 |_::_,[],_,_,h=>h.elim
 |_::_,_::_,[],_,h=>h.elim
theorem z8(bf:Nat->Nat->Bool)(ops:Array Oper)(base:Nat)(h0:aa){R:FH}:∀(l:List Oper)(j:Nat)(E:Fr)(h:aa)(pd:List (Nat×bO))(recs:List GQ),(l.all λo=>sY nm o.dst)=true->ue S bf ops base h0 l j E h pd recs R->
  ∃E' h' pd' r n0,(∀n,n0<=n->∀tm,ER nm E tm->∃tm' r',ER nm E' tm'/\x8 nm l r r'/\cV S.P S.gl (aW S.P S.gl S.pr n) ops bf base l j tm h pd=some (r',tm',h',pd'))/\sX S bf h0 (recs.reverse++r)=true/\R E' (bj h' base pd')
 |[],j,E,h,pd,recs,_,hw=>⟨E,h,pd,[],0,λn _ tm ht=>⟨tm,[],ht,trivial,rfl⟩,by rw[append_nil];exact hw.1,hw.2⟩
 | o::l,j,E,h,pd,recs,hd,hw=>by
  simp only[all_cons,and_eq_true]at hd;have fin:∀(v:Value)(e:kA)(h1:aa)(pd1:List (Nat×bO))(n1:Nat),ue S bf ops base h0 l (j+1) (qW E o.dst v) h1 pd1 ((E,o,e)::recs) R->
    (∀n,n1<=n->∀tm,ER nm E tm->∀q,cV S.P S.gl (aW S.P S.gl S.pr n) ops bf base l (j+1) (fO tm o.dst v) h1 pd1=some q->cV S.P S.gl (aW S.P S.gl S.pr n) ops bf base (o::l) j tm h pd=some ((tm,e)::q.1,q.2))->
    ∃E' h' pd' r n0,(∀n,n0<=n->∀tm,ER nm E tm->∃tm' r',ER nm E' tm'/\x8 nm (o::l) r r'/\cV S.P S.gl (aW S.P S.gl S.pr n) ops bf base (o::l) j tm h pd=some (r',tm',h',pd'))/\sX S bf h0 (recs.reverse++r)=true/\R E' (bj h' base pd'):=by
   intro v e h1 pd1 n1 hw1 hq;obtain⟨E',h',pd',r,n2,h2,h3,h4⟩:=z8 bf ops base h0 l (j+1) _ _ _ _ hd.2 hw1;refine⟨E',h',pd',(E,o,e)::r,max n1 n2,λn hn tm ht=>?_,?_,h4⟩
   ·obtain⟨tm',r',ht',hr,h5⟩:=h2 n (by omega) _ (ht.put hd.1 v);exact⟨tm',(tm,e)::r',ht',⟨rfl,rfl,ht,hr⟩,hq n (by omega) tm ht _ h5⟩
   ·grind
  rcases D8 hw with⟨hg,hw⟩|⟨hg,hw⟩
  ·cases hp:aT S.P (dU S.gl E) o with
   |some v=>
    rw[hp]at hw;refine fin v (.pure v) h pd 0 hw λn _ tm ht q hq=>?_;simp only[cV];rw[mu ht,hg,ht.ev,hp]
    grind
   | none=>
    rw[hp]at hw;dsimp only at hw
    cases hrd:aY S.P (dU S.gl E) o h with
    |some v=>
     rw[hrd]at hw;refine fin v (.read v) h pd 0 hw λn _ tm ht q hq=>?_;simp only[cV];rw[mu ht,hg,ht.ev,hp]
     grind
    | none=>
     rw[hrd]at hw;dsimp only at hw
     cases hal:aS S.P (dU S.gl E) o with
     |some Bf=>
      obtain⟨B,f⟩:=Bf;rw[hal]at hw;refine fin _ (.alloc B (f (base+j))) h ((j,B)::pd) 0 hw λn _ tm ht q hq=>?_;simp only[cV];rw[mu ht,hg,ht.ev,hp]
      grind
     |none=>
      rw[hal]at hw;dsimp only at hw;obtain⟨v,u,n1,h1,h2⟩:=GK hw;refine fin v (.rB v _) _ _ n1 h2 λn hn tm ht q hq=>?_;simp only[cV];rw[mu ht,hg,ht.ev,hp]
      grind
  ·refine fin undef .skip h pd 0 hw λn _ tm ht q hq=>?_
   grind[mu,cV]
theorem LU{ops:Array Oper}{E:Fr}{h:aa}{R:FH}(hd:(ops.toList.all λo=>sY nm o.dst)=true)(hw:UE S ops E h R):
  ∃E' h' n0,(∀n,n0<=n->∀tm,ER nm E tm->∃tm',ER nm E' tm'/\yx S.P S.gl (aW S.P S.gl S.pr n) ops tm h=some (tm',h'))/\R E' h':=by
 obtain⟨hany,hw⟩:=hw;obtain⟨E',h',pd',r,n0,h1,h2,h3⟩:=z8 (cM (gm ops)) ops h.next _ ops.toList 0 E _ [] [] hd hw;refine⟨E',_,n0,λn hn tm ht=>?_,h3⟩;obtain⟨tm',r',ht',hr,h4⟩:=h1 n hn tm ht;refine⟨tm',ht',?_⟩;unfold yx;rw[hany,if_neg (by simp)];unfold qx;rw[h4];dsimp only;rw[E0 0 hr,Cc 0 hr]
 simp_all[sX]
def gB(nm:Nat):Code->Bool
 |.region _ ops _=>ops.toList.all λo=>sY nm o.dst
 |.seq a b=>gB nm a&&gB nm b
 |.cond _ a b=>gB nm a&&gB nm b
 |.block _ c=>gB nm c
 |.loop c=>gB nm c
 |_=>true
theorem j2:∀(c:Code){E:Fr}{h:aa}{Q:Aw},gB nm c=true->Pb S nm c E h Q->∃x E' h',Mc S nm c E h x E' h'/\Q x E' h'
 |.skip,E,h,_,_,hw=>⟨.normal,E,h,⟨0,λ_ _ _ _ tm ht=>⟨tm,ht,rfl⟩⟩,hw⟩
 |.exit id,E,h,_,_,hw=>⟨.exit id,E,h,⟨0,λ_ _ _ _ tm ht=>⟨tm,ht,rfl⟩⟩,hw⟩
 |.ret,E,h,_,_,hw=>⟨.ret,E,h,⟨0,λ_ _ _ _ tm ht=>⟨tm,ht,rfl⟩⟩,hw⟩
 |.label _,E,h,_,_,hw=>⟨.normal,E,h,⟨0,λ_ _ _ _ tm ht=>⟨tm,ht,rfl⟩⟩,hw⟩
 |.region _ ops false,E,h,_,hd,hw=>by
  obtain⟨E',h',n0,h1,h2⟩:=vx ops ops.toList E h hd hw;refine⟨.normal,E',h',⟨n0,λn N hn _ tm ht=>?_⟩,h2⟩
  grind[aJ]
 |.region _ ops true,E,h,_,hd,hw=>by
  obtain⟨E',h',n0,h1,h2⟩:=LU hd hw;refine⟨.normal,E',h',⟨n0,λn N hn _ tm ht=>?_⟩,h2⟩
  grind[aJ]
 | .seq a b,E,h,Q,hd,hw=>by
  simp only[gB,and_eq_true]at hd;obtain⟨x,E1,h1,⟨n1,hr1⟩,hq⟩:=j2 a hd.1 hw;have els:(∀n N tm' ,aJ S.P S.gl (aW S.P S.gl S.pr n) N a tm' h=some (x,tm',h1)->True)->x≠ .normal->Q x E1 h1->∃x E' h',Mc S nm (.seq a b) E h x E' h'/\Q x E' h':=by
   intro _ hx hq;refine⟨x,E1,h1,⟨n1,λn N hn hN tm ht=>?_⟩,hq⟩;obtain⟨tm',ht',h3⟩:=hr1 n N hn hN tm ht;refine⟨tm',ht',?_⟩;simp only[aJ];rw[h3]
   cases x with
   |normal=>grind
   |_=>rfl
  cases x with
  |normal=>
   obtain⟨x,E2,h2,⟨n2,hr2⟩,hq⟩:=j2 b hd.2 hq;refine⟨x,E2,h2,⟨max n1 n2,λn N hn hN tm ht=>?_⟩,hq⟩;obtain⟨tm',ht',h3⟩:=hr1 n N (by omega) (by omega) tm ht;obtain⟨tm2,ht2,h4⟩:=hr2 n N (by omega) (by omega) tm' ht'
   grind[aJ]
  |exit id=>simp_all
  |goto l=>simp_all
  |ret=>simp_all
  |panic _=>simp_all
  |outgrown=>simp_all
 | .cond o a b,E,h,Q,hd,hw=>by
  simp only[gB,and_eq_true]at hd;obtain⟨t,hv,⟨ht,hw⟩|⟨ht,hw⟩⟩:=RM hw
  ·obtain⟨x,E1,h1,⟨n1,hr1⟩,hq⟩:=j2 a hd.1 hw;refine⟨x,E1,h1,⟨n1,λn N hn hN tm htm=>?_⟩,hq⟩;obtain⟨tm',ht',h3⟩:=hr1 n N hn hN tm htm;refine⟨tm',ht',?_⟩;simp only[aJ];rw[htm.ev,hv,ht]
   grind
  ·obtain⟨x,E1,h1,⟨n1,hr1⟩,hq⟩:=j2 b hd.2 hw;refine⟨x,E1,h1,⟨n1,λn N hn hN tm htm=>?_⟩,hq⟩;obtain⟨tm',ht',h3⟩:=hr1 n N hn hN tm htm;refine⟨tm',ht',?_⟩;simp only[aJ];rw[htm.ev,hv,ht]
   grind
 | .block id c,E,h,Q,hd,hw=>by
  obtain⟨x,E1,h1,⟨n1,hr1⟩,hq⟩:=j2 c hd hw;by_cases hx:x = .exit id
  ·subst hx;dsimp only at hq;rw[if_pos rfl]at hq;refine⟨.normal,E1,h1,⟨n1,λn N hn hN tm htm=>?_⟩,hq⟩
   grind[aJ]
  ·refine⟨x,E1,h1,⟨n1,λn N hn hN tm htm=>?_⟩,?_⟩
   ·obtain⟨tm',ht',h3⟩:=hr1 n N hn hN tm htm;refine⟨tm',ht',?_⟩;simp only[aJ];rw[h3]
    cases x with
    |exit id'=>dsimp only;rw[if_neg (λe=>hx (by rw[e]))]
    |_=>rfl
   grind
 |.loop c,E,h,Q,hd,hw=>by
  obtain⟨x,E1,h1,⟨n1,hr1⟩,hq⟩:=hw;refine⟨x,E1,h1,⟨n1,λn N hn hN tm htm=>?_⟩,hq⟩;obtain⟨tm',ht',h3⟩:=hr1 n N N hn hN hN tm htm;exact⟨tm',ht',h3⟩
 |.rangeFunc ..,_,_,_,_,hw=>hw
 |.scope _,_,_,_,_,hw=>hw.elim
 |.goto _,_,_,_,_,hw=>hw.elim
 |.refuse _,_,_,_,_,hw=>hw.elim
theorem ND{c:Code}{E:Fr}{h:aa}{Q:Aw}(hd:gB nm c=true)(hw:Pb S nm c E h (U7 S nm c Q)):A5 S nm c E h Q:=by
 obtain⟨x,E1,h1,⟨n1,hr1⟩,hq⟩:=j2 c hd hw;have els:x≠ .normal->Q x E1 h1->A5 S nm c E h Q:=by
  intro hx hq;refine⟨x,E1,h1,⟨n1+1,λn N j hn hN hj tm ht=>?_⟩,hq⟩;obtain⟨j',rfl⟩:∃j',j=j'+1:=⟨j-1,by omega⟩
  obtain⟨tm',ht',h3⟩:=hr1 n N (by omega) (by omega) tm ht;refine⟨tm',ht',?_⟩;simp only[iter];rw[h3]
  cases x with
  |normal=>grind
  |_=>rfl
 cases x with
 |normal=>
  obtain⟨x,E2,h2,⟨n2,hr2⟩,hq⟩:=hq;refine⟨x,E2,h2,⟨max n1 n2+1,λn N j hn hN hj tm ht=>?_⟩,hq⟩;obtain⟨j',rfl⟩:∃j',j=j'+1:=⟨j-1,by omega⟩
  obtain⟨tm',ht',h3⟩:=hr1 n N (by omega) (by omega) tm ht;obtain⟨tm2,ht2,h4⟩:=hr2 n N j' (by omega) (by omega) (by omega) tm' ht'
  grind[iter]
 |exit id=>exact els (by simp) hq
 |goto l=>exact els (by simp) hq
 |ret=>exact els (by simp) hq
 |panic _=>exact els (by simp) hq
 |outgrown=>exact els (by simp) hq
noncomputable def qY(S:Sx)(E:Fr)(h:aa):List ResultVar->Option (List Value)
 |[]=>some []
 |.tmp t::r=>(qY S E h r).map (E t::·)
 |.cell a t::r=>match ai S.P t h (E a)with
  |some v=>(qY S E h r).map (v::·)
  |none=>none
theorem DV{E:Fr}{h:aa}{tm:List Value}(ht:ER nm E tm):∀l,ca S.P tm h l=qY S E h l
 |[]=>rfl
 |.tmp t::r=>by simp only[ca,qY,DV ht r,ht.2 t]
 |.cell a t::r=>by
  simp only[ca,qY,DV ht r,ht.2 a];rfl
def wj(r:Option (List Value))(h:aa)(Q:VH):Prop:=match r with
 |some vs=>Q (aU vs) h
 |none=>False
def Yw(S:Sx)(rs:List ResultVar)(Q:VH)(x:Exit)(E:Fr)(h:aa):Prop:=match x with
 |.normal=>wj (qY S E h rs) h Q
 |.ret=>wj (qY S E h rs) h Q
 |_=>False
def SC(args:List Value):Fr:=λt=>args.getD t undef
theorem Vw{f:FuncId}{fn:Func}{c:Code}{args:List Value}{h:aa}{Q:VH}(hf:S.P.funcs[f]?=some fn)(hb:fn.body=some c)(hY:f<YB)(hp:S.pr f=none)(hl:args.length<=fn.ntmps)(hd:gB fn.ntmps c=true)
  (hw:Pb S fn.ntmps c (SC args) h (Yw S fn.results.toList Q)):FW S f args h Q:=by
 obtain⟨x,E',h',⟨n0,hr⟩,hq⟩:=j2 c hd hw;have ht:ER fn.ntmps (SC args) (args++List.replicate (fn.ntmps-args.length) undef):=by
  refine⟨by simp;omega,λt=>?_⟩;show _=args.getD t undef;simp only[gD];by_cases h1:t<args.length
  ·rw[List.getElem?_append_left h1]
  ·rw[List.getElem?_append_right (by omega),getElem?_eq_none (l:=args) (by omega),getElem?_replicate];split<;>rfl
 have hres:∃vs,qY S E' h' fn.results.toList=some vs/\Q (aU vs) h'/\(x = .normal\/x = .ret):=by
  have key:wj (qY S E' h' fn.results.toList) h' Q->∃vs,qY S E' h' fn.results.toList=some vs/\Q (aU vs) h':=by
   intro hq
   cases hv:qY S E' h' fn.results.toList with
   |none=>rw[hv]at hq;exact hq.elim
   |some vs=>rw[hv]at hq;exact⟨vs,rfl,hq⟩
  cases x with
  |normal=>obtain⟨vs,h1,h2⟩:=key hq;exact⟨vs,h1,h2,.inl rfl⟩
  |ret=>obtain⟨vs,h1,h2⟩:=key hq;exact⟨vs,h1,h2,.inr rfl⟩
  |_=>exact hq.elim
 obtain⟨vs,hv,hq,hx⟩:=hres;refine⟨aU vs,h',⟨n0+1,λn hn=>?_⟩,hq⟩;obtain⟨n',rfl⟩:∃n',n=n'+1:=⟨n-1,by omega⟩
 obtain⟨tm',ht',h3⟩:=hr n' n' (by omega) (by omega) _ ht;simp only[aW];rw[if_neg (Nat.not_le.2 hY),hp]
 grind[DV]
end
end
section
section
variable (gl:Nat->Bool) (E:Fr)
theorem map_nil{α β:Type}(f:α->β):[].map f=([]:List β):=rfl
theorem map_cons{α β:Type}(f:α->β)(a:α)(l:List α):(a::l).map f=f a::l.map f:=rfl
end
section
variable (S:Sx) (E:Fr) (dst:Option Tmp) (ty:TypeId) (pos:String) (after:Array Edge) (guard:Option (Nat×Bool)) (h:aa) (K:VH)
theorem fT{o:Oper}(hc:aQ o=false):wpOp S E o h K=Ef (aV S.P fV (dU S.gl E) o h) h K:=by grind[wpOp,aQ]
theorem Pl{P:Program}{ρ:Operand->Value}{o:Oper}(h1:∀h,aT P ρ o=none->aV P fV ρ o h=none):Ef (aV P fV ρ o h) h K=q6 (aT P ρ o) h K:=by
 cases hp:aT P ρ o with
 |none=>rw[h1 h hp];rfl
 |some v=>unfold aV;rw[hp];rfl
def kF:Op->Bool
 |.move _|.assign _|.pick ..|.build ..|.nilCheck _|.binOp ..|.unOp ..|.makeInterface ..|.makeFunc ..|.fieldAddr ..|.field ..|.indexAddr ..|.index ..|.typeAssert ..|.extract .. =>true
 |.call { callee:= .builtin .max,.. }|.call { callee:= .builtin .min,.. }|.call { callee:= .builtin .cap,.. }=>true
 |_=>false
theorem K7{P:Program}{ρ:Operand->Value}{op:Op}(hp:kF op=true)(h:aa)(h1:aT P ρ ⟨dst,op,ty,pos,after,guard⟩=none):aV P fV ρ ⟨dst,op,ty,pos,after,guard⟩ h=none:=by
 unfold aV;rw[h1];unfold kF at hp;split at hp<;>first|rfl|grind
theorem Ia{op:Op}(hp:kF op=true):aQ ⟨dst,op,ty,pos,after,guard⟩=false:=by
 unfold kF at hp;split at hp<;>first|rfl|grind
theorem dk{op:Op}(hp:kF op=true):wpOp S E ⟨dst,op,ty,pos,after,guard⟩ h K=q6 (aT S.P (dU S.gl E) ⟨dst,op,ty,pos,after,guard⟩) h K:=by grind[fT,Ia,Pl,K7]
def Se(c x y:Value):Option Value:=match c with
 |.bool t=>some (if t then x else y)
 |_=>none
def R4(v:Value)(i:Nat):Option Value:=match v with
 |.tuple vs=>vs[i]?
 |_=>none
def bp(P:Program)(t:TypeId)(x i:Value):Option Value:=match P.underlying t,x,i with
  |some (.array len e),.agg cs,.int _ j=>match aB P e with
   |some n=>if 0<=j/\j<(len:Int)then partOf P e cs (j.toNat*n)else none
   |none=>none
  |some .string,.string s,.int _ j=>if 0<=j then match s.data.toList[j.toNat]? with|some b=>some (.int .u8 b.toNat)|none=>none else none
  |_,_,_=>none
def af(P:Program)(t:TypeId)(x i:Value):Option Value:=match P.underlying t,x,i with
  |some (.array len e),.pointer (some a),.int _ j=>match aB P e with
   |some n=>if 0<=j/\j<(len:Int)then some (.pointer (some (a.add (j.toNat*n))))else none
   |none=>none
  |some (.slice e),.slice (some a) len _,.int _ j=>match aB P e with
   |some n=>if 0<=j/\j<(len:Int)then some (.pointer (some (a.add (j.toNat*n))))else none
   |none=>none
  |_,_,_=>none
def ah(P:Program)(s:TypeId)(x:Value)(f:Nat):Option Value:=match P.underlying s,x with
  |some (.struct fields),.pointer (some a)=>match fields[f]? with
   |some fd=>if(aB P fd.type).any (· ≠0)then some (.pointer (some (a.add fd.offset)))else none
   |none=>none
  |_,_=>none
def Na(P:Program)(t:TypeId)(x:Value)(f:Nat):Option Value:=match P.underlying t,x with
  |some (.struct fields),.agg cs=>match fields[f]? with
   |some fd=>partOf P fd.type cs fd.offset
   |none=>none
  |_,_=>none
noncomputable def FG(P:Program)(t:TypeId)(x:Value)(h:aa):Option Value:=match P.underlying t,x with
   |some .string,.string s=>some (.int .i64 s.data.toList.length)
   |some (.array n _),_=>some (.int .i64 n)
   |some (.slice _),.slice _ n _=>some (.int .i64 n)
   |some (.map ..),.map none=>some (.int .i64 0)
   |some (.map ..),.map (some r)=>match h.get r with
    |some (.map es)=>some (.int .i64 es.length)
    |_=>none
   |_,_=>none
theorem LY(c a b:Operand):wpOp S E ⟨dst,.pick c a b,ty,pos,after,guard⟩ h K=q6 (Se (dU S.gl E c) (dU S.gl E a) (dU S.gl E b)) h K:=dk S E dst ty pos after guard h K rfl
theorem IQ(op:BinOp)(t u:TypeId)(x y:Operand):wpOp S E ⟨dst,.binOp op t x y u,ty,pos,after,guard⟩ h K=q6 (ay S.P op t (dU S.gl E x) (dU S.gl E y)) h K:=dk S E dst ty pos after guard h K rfl
theorem LZ(op:UnOp)(t:TypeId)(x:Operand):wpOp S E ⟨dst,.unOp op t x,ty,pos,after,guard⟩ h K=q6 (Cv op (dU S.gl E x)) h K:=dk S E dst ty pos after guard h K rfl
theorem Ea(x:Operand)(i:Nat):wpOp S E ⟨dst,.extract x i,ty,pos,after,guard⟩ h K=q6 (R4 (dU S.gl E x) i) h K:=dk S E dst ty pos after guard h K rfl
theorem IT(t:TypeId)(x i:Operand):wpOp S E ⟨dst,.index t x i,ty,pos,after,guard⟩ h K=q6 (bp S.P t (dU S.gl E x) (dU S.gl E i)) h K:=dk S E dst ty pos after guard h K rfl
theorem Af(t:TypeId)(x i:Operand):wpOp S E ⟨dst,.indexAddr t x i,ty,pos,after,guard⟩ h K=q6 (af S.P t (dU S.gl E x) (dU S.gl E i)) h K:=dk S E dst ty pos after guard h K rfl
theorem Ae(t:TypeId)(x:Operand)(f:Nat):wpOp S E ⟨dst,.fieldAddr t x f,ty,pos,after,guard⟩ h K=q6 (ah S.P t (dU S.gl E x) f) h K:=dk S E dst ty pos after guard h K rfl
theorem IS(t:TypeId)(x:Operand)(f:Nat):wpOp S E ⟨dst,.field t x f,ty,pos,after,guard⟩ h K=q6 (Na S.P t (dU S.gl E x) f) h K:=dk S E dst ty pos after guard h K rfl
theorem Pj(args:Array Operand)(ts:Array TypeId):wpOp S E ⟨dst,.call ⟨.builtin .max,args,ts⟩,ty,pos,after,guard⟩ h K=q6 (oV true (args.toList.map (dU S.gl E))) h K:=dk S E dst ty pos after guard h K rfl
theorem Pk(args:Array Operand)(ts:Array TypeId):wpOp S E ⟨dst,.call ⟨.builtin .min,args,ts⟩,ty,pos,after,guard⟩ h K=q6 (oV false (args.toList.map (dU S.gl E))) h K:=dk S E dst ty pos after guard h K rfl
theorem nh(o:Oper)(h1:aQ o=false)(h2:aT S.P (dU S.gl E) o=none)(h3:aS S.P (dU S.gl E) o=none)(h4:cY S.P fV (dU S.gl E) o h=none):wpOp S E o h K=q6 (aY S.P (dU S.gl E) o h) h K:=by
 rw[fT S E h K h1];unfold aV;rw[h2];dsimp only
 cases aY S.P (dU S.gl E) o h with
 |some v=>rfl
 |none=>dsimp only;rw[h3];dsimp only;rw[h4];rfl
theorem LW(t:TypeId)(a:Operand):wpOp S E ⟨dst,.load t a,ty,pos,after,guard⟩ h K=q6 (ai S.P t h (dU S.gl E a)) h K:=nh S E h K _ rfl rfl rfl rfl
theorem IU(t:TypeId)(x:Operand)(lo hi mx:Option Operand):wpOp S E ⟨dst,.slice t x lo hi mx,ty,pos,after,guard⟩ h K=q6 (bt S.P t (dU S.gl E x) (lo.map (dU S.gl E)) (hi.map (dU S.gl E)) (mx.map (dU S.gl E)) h) h K:=nh S E h K _ rfl rfl rfl rfl
theorem Ph(x:Operand)(t:TypeId):wpOp S E ⟨dst,.call ⟨.builtin .len,#[x],#[t]⟩,ty,pos,after,guard⟩ h K=q6 (FG S.P t (dU S.gl E x) h) h K:=nh S E h K _ rfl rfl rfl rfl
theorem Ad(o:Oper)(h1:aQ o=false)(h2:aT S.P (dU S.gl E) o=none)(h3:aY S.P (dU S.gl E) o h=none)(h4:aS S.P (dU S.gl E) o=none):wpOp S E o h K=Ef (cY S.P fV (dU S.gl E) o h) h K:=by grind[fT,aV]
theorem GL(s x:Operand)(t t':TypeId):wpOp S E ⟨dst,.call ⟨.builtin .append,#[s,x],#[t,t']⟩,ty,pos,after,guard⟩ h K=Ef (aO S.P t t' (dU S.gl E s) (dU S.gl E x) h) h K:=rfl
theorem IW(t:TypeId)(a x:Operand):wpOp S E ⟨dst,.store t a x,ty,pos,after,guard⟩ h K=Ef (aw S.P t (dU S.gl E a) (dU S.gl E x) h) h K:=rfl
def XC(r:Option (bO×(Nat->Value)))(h:aa)(K:VH):Prop:=match r with
 |some (B,f)=>K (f h.next) (h.push B)
 |none=>False
theorem kz(o:Oper)(h1:aQ o=false)(h2:aT S.P (dU S.gl E) o=none)(h3:aY S.P (dU S.gl E) o h=none)(h4:cY S.P fV (dU S.gl E) o h=none):wpOp S E o h K=XC (aS S.P (dU S.gl E) o) h K:=by
 rw[fT S E h K h1];unfold aV;rw[h2];dsimp only;rw[h3];dsimp only
 cases aS S.P (dU S.gl E) o with
 |some r=>rfl
 |none=>dsimp only;rw[h4];rfl
end
section
variable (P:Program) (t:TypeId) (k:IntKind) (a b:Int)
theorem CL(hb:b≠0):ay P .quo t (.int k a) (.int k b)=some (.int k (k.wrap (a.tdiv b))):=by grind[ay]
theorem PK(hb:b≠0):ay P .rem t (.int k a) (.int k b)=some (.int k (a.tmod b)):=by grind[ay]
variable (x y:ByteArray)
end
end
structure dO where
 i:Int
 o:Int
 w:List UInt8
 t:Int
structure lA where
 f:List UInt8
 bq:List dO
structure bA where
 kind:Int
 start:Int
 lead:List UInt8
 aq:List lA
def kj(a:dO):List Value:=[.int .i64 a.i,.int .i64 a.o,strOf a.w,.int .i64 a.t]
end Go.Ab
end
section
namespace Go.Ab
open Go Go.RowKit
section
variable {β:cC} {P:Program} {gl:Nat->Bool}
theorem NU{cf:bM}{tm:List Value}{a:Act}{h:aa}{w:World}{o:Oper}{v:Value}{u:cX}(hs:iK β h w)(hg:Gl gl β)(ht:aK β tm a.tmps.toList)(hc:aQ o=false)(hr:aV P cf (ev gl tm) o h=some (v,u)):
  ∃v' w' β',Step β h w β' (u.app h) w'/\az β' v v'/\((execOp a.eval o).run P w = .ok (.value v') w'\/((execOp a.eval o).run P w = .ok .skip w'/\v'=undef)):=by
 have hρ:=uO (β:=β) hg ht;unfold aV at hr;split at hr
 ·next v0 hp=>
  simp only[Option.some.injEq,Prod.mk.injEq]at hr;obtain⟨rfl,rfl⟩:=hr;obtain⟨v',h1,h2⟩:=nS hρ hp w;exact⟨v',w,β,Step.refl hs,h2,.inl h1⟩
 ·split at hr
  ·next v0 hp=>
   simp only[Option.some.injEq,Prod.mk.injEq]at hr;obtain⟨rfl,rfl⟩:=hr;obtain⟨v',h1,h2⟩:=nT hρ hs hp;exact⟨v',w,β,Step.refl hs,h2,.inl h1⟩
  ·split at hr
   ·next B f hp=>
    simp only[Option.some.injEq,Prod.mk.injEq]at hr;obtain⟨rfl,rfl⟩:=hr;obtain⟨v',w',h1,h2⟩:=mL hρ (w:=w) hp;obtain⟨β',h3,h4⟩:=h2.step hs;exact⟨v',w',β',h3,h4,.inl h1⟩
   ·obtain⟨v',w',β',h1,h2,h3⟩:=uW hρ hc hs hr;rcases h1 with h1|⟨h1,rfl⟩
    all_goals grind
theorem Q1{cf:bM}{ops:Array Oper}{cs:List Frame}(Q:Exit->Act->List Frame->World->Prop):∀(rest:List Oper)(i:Nat){β:cC}{tm tm':List Value}{a:Act}{h h':aa}{w:World},
  ops.toList.drop i=rest->(rest.all λo=> !aQ o)=true->fM P gl cf ops rest tm h=some (tm',h')->iK β h w->Gl gl β->aK β tm a.tmps.toList->
  (∀a' w' β',Step β h w β' h' w'->aK β' tm' a'.tmps.toList->a'.defers=a.defers->Q .normal a' cs w')->wpOpsS P ops Q (List.range' i rest.length) a cs w
 |[],i,β,tm,tm',a,h,h',w,hd,_,hr,hs,hg,ht,hk=>by
  simp only[fM,Option.some.injEq,Prod.mk.injEq]at hr;obtain⟨rfl,rfl⟩:=hr;exact hk a w β (Step.refl hs) ht rfl
 | o::rest,i,β,tm,tm',a,h,h',w,hd,hall,hr,hs,hg,ht,hk=>by
  have ho:ops[i]?=some o:=by
   have:(ops.toList.drop i)[0]?=some o:=by rw[hd];rfl
   rw[List.getElem?_drop]at this;rw[<-getElem?_toList];simpa using this
  have hd':ops.toList.drop (i+1)=rest:=by rw[<-drop_drop,hd];rfl
  simp only[all_cons,and_eq_true,not_eq_true']at hall;simp only[length_cons,range'_succ,wpOpsS,ho];simp only[fM]at hr;split at hr
  ·next hw=>
   rw[j1 ht hw];simp only[if_true];split at hr
   ·next v u hop=>
    obtain⟨v',w',β',hst,hv,hrun⟩:=NU hs hg ht hall.1 hop;have hgo:=Q1 (cs:=cs) Q rest (i+1) hd' (by simpa using hall.2) hr hst.mB (hg.mono hst.le) (jB (ht.mono hst.le) o.dst hv) λa' w2 β2 h1 h2 h3=>hk a' w2 β2 (hst.trans h1) h2 (h3.trans (put_defers a o.dst v'));rcases hrun with hrun|⟨hrun,rfl⟩
    ·rw[hrun];exact hgo
    ·rw[hrun];exact hgo
   ·cases hr
  ·next hw=>
   rw[j1 ht hw];simp only[false_eq_true,if_false];exact Q1 (cs:=cs) Q rest (i+1) hd' (by simpa using hall.2) hr hs hg (jB ht o.dst (.undef β)) λa' w2 β2 h1 h2 h3=>hk a' w2 β2 h1 h2 (h3.trans (put_defers a o.dst undef))
  grind
noncomputable def Jj(P:Program)(fn:Func)(ops0 ops1:Array Oper)(c:Operand)(n:Nat):Bool:=
 match ops0.toList with
 | o::rest=>match o.dst with
  | some d=>match fM P mc fV ops0 rest ((List.replicate n fb++List.replicate (fn.ntmps-n) undef).set d .nilIface) ⟨0,.nil⟩with
   | some (tm1,h1)=>match fM P mc fV ops1 ops1.toList tm1 h1 with
    |some (tm2,_)=>match ev mc tm2 c with
     |.bool false=>(rest.all λo=> !aQ o)&&(ops1.toList.all λo=> !aQ o)&&o.guard.isNone&&fn.results.size==0
     |_=>false
    |none=>false
   |none=>false
  |none=>false
 |[]=>false
theorem Qq{fC:FuncId}{fn:Func}{i0 i1 n:Nat}{o0:Oper}{rest0:List Oper}{ops1:Array Oper}{c:Operand}{X:Code}(hf:P.funcs[fC]?=some fn)(hb:fn.body=some (.seq (.region i0 (o0::rest0).toArray false) (.seq (.region i1 ops1 false) (.cond c X .skip))))
  (ho:o0.op = .call { callee:= .builtin .recover,args:= #[],argTypes:= #[] }) (hrun:Jj P fn (o0::rest0).toArray ops1 c n=true) (args:Array Value) (w:World) (hn:args.size=n):
  CallsDIn Fence.wide 0 P fC args .returning w λe u' w'=>(∃v,e = .returned v)/\u' = .returning/\Below w.heap.size w w'/\w.drawn<=w'.drawn:=by
 subst hn;unfold Jj at hrun;simp only at hrun;split at hrun
 ·next d hd=>
  split at hrun
  ·next tm1 h1 hr1=>
   split at hrun
   ·next tm2 h2 hr2=>
    split at hrun
    ·next hev=>
     simp only[and_eq_true,beq_iff_eq,Option.isNone_iff_eq_none]at hrun;obtain⟨⟨⟨hall0,hall1⟩,hgd⟩,hres⟩:=hrun;refine sU hf hb λc₀ cs hu=>?_;refine wpS_seq (wpS_region ?_);have hjunk:∀(l:List Value),aK β0 (List.replicate l.length fb) l:=λl=>⟨by simp,λi v v' h1 h2=>by
      rw[getElem?_replicate]at h1;split at h1
      ·obtain rfl:=oI h1;exact .fb v'
      ·cases h1⟩
     have hrep:∀k,aK β0 (List.replicate k undef) (List.replicate k undef):=λk=>⟨rfl,λi v v' h1 h2=>by
      rw[getElem?_replicate]at h1 h2;split at h1
      ·next hi=>rw[if_pos hi]at h2;obtain rfl:=oI h1;obtain rfl:=oI h2;exact .undef _
      ·cases h1⟩
     have ht0:aK β0 (List.replicate args.size fb++List.replicate (fn.ntmps-args.size) undef) (args++Array.replicate (fn.ntmps-args.size) undef).toList:=by
      simp only[toList_append,Array.toList_replicate];have:=hjunk args.toList;rw[length_toList]at this;exact this.append (hrep _)
     have hw0:∀t,Region.wanted o0 (yielded (o0::rest0).toArray t)=true:=λt=>by simp[Region.wanted,hgd]
     have hrec:∀(ρ:Operand->Value),(execOp ρ o0).run P w = .ok .recover w:=λρ=>by
      unfold execOp;simp only[ho,resolve,run_bind,Sem.run_pure,andThen_ok,invoke];rfl
     have hnone:recoverD (c₀::cs)=none:=by simp[recoverD,hu]
     show wpOpsS P (o0::rest0).toArray _ (List.range (rest0.length+1)) _ _ w;rw[List.range_eq_range',range'_succ];rw[wpOpsS];simp only[List.getElem?_toArray,List.getElem?_cons_zero,hw0,if_true,hrec,hnone];rw[hd];refine Q1 (cf:=fV) (gl:=mc) _ rest0 1 (by simp) hall0 hr1 (D1 0 w) C5 (jB ht0 (some d) (v:= .nilIface) .nilIface) λa1 w1 β1 hst1 ht1 hd1=>?_;refine wpS_seq (wpS_region ?_);rw[<-length_toList,List.range_eq_range'];refine Q1 (cf:=fV) (gl:=mc) _ ops1.toList 0 (by simp) hall1 hr2 hst1.mB (C5.mono hst1.le) ht1 λa2 w2 β2 hst2 ht2 hd2=>?_;refine wpS_cond (t:=false) ?_ ?_
     ·have:=uO (C5.mono (hst1.trans hst2).le) ht2 c;rw[hev]at this;exact this.iP
     ·show Code.wpS P .skip _ a2 (c₀::cs) w2;refine wpS_of_wp (wp_skip ?_);refine⟨hd2.trans (hd1.trans (put_defers _ _ _)),.returning,by cases c₀;simp_all,.tuple #[],?_,⟨⟨_,rfl⟩,rfl,rj (hst1.trans hst2),(hst1.trans hst2).tape.2⟩⟩;have:fn.results = #[]:=Array.eq_empty_of_size_eq_zero hres;simp[results,this]
    ·cases hrun
   ·cases hrun
  ·cases hrun
 grind
end
end Go.Ab
end
