/- Laws and walks that the proof leans on (part 2): AbCode; AbCall; AbFrame; AbCongr; AbOrder; AbDraw and others. No condition. -/
import Derived.Test.YtaheifbogkjpdaaGreatDoorPart1
import Derived.CallsIn
import Derived.RangeFuncLeaves
import Derived.RangeFuncNested
import Derived.Laws.Externs
import Derived.Below
import Derived.Recover
import Derived.ControlIn
import Derived.Attr
set_option linter.unusedVariables false
set_option linter.unusedSimpArgs false
set_option maxRecDepth 100000
open List (all_cons all_eq_true append_nil drop_drop getElem?_eq_none getElem?_replicate length_cons length_nil map_congr_left mem_append mem_append_left mem_cons mem_filter mem_range mem_singleton nodup_cons range'_succ)
open Nat (beq_eq ble_eq blt_eq lt_of_lt_of_le lt_or_ge zero_add)
open Option (getD_some map_eq_some_iff map_some)
open Array (foldl_toList getElem?_eq_getElem getElem?_push getElem?_toList length_toList toList_append)
open Bool (and_eq_true false_eq_true not_eq_true')
open Go.Result (andThen_ok)
open Go.Sem (run_bind)
section
namespace Go.Ab
open Go
section
variable {β:cp} {P:Program} {gl:Nat->Bool}
def fG(r:Option Nat):Fence:={ Fence.wide with round:=r }
theorem nP{r:Option Nat}{n:Nat}{f:FuncId}{args:Array Value}{w:World}{R:Ending->World->Prop}(h:Calls P f args w R):CallsIn (fG r) n P f args w R:=
 (callsIn_wide (n:=n)).2 h
def Gl(gl:Nat->Bool)(β:cp):Prop:=∀g,gl g=true->∃sl,β g=some sl/\sl.b=g/\sl.s=0/\sl.isMap=false
theorem Gl.mono{β β':cp}(h:Gl gl β)(hle:β.le β'):Gl gl β':=λg hg=>let⟨sl,h1,h2⟩:=h g hg;⟨sl,hle _ _ h1,h2⟩
theorem aG.getD{l l':List Value}(h:aG β l l')(i:Nat):au β (l.getD i undef) (l'.getD i undef):=by
 by_cases hi:i<l.length
 ·have hi':i<l'.length:=h.1▸hi;simp only[List.getD,gE hi,gE hi',getD_some];exact h.2 i _ _ (gE hi) (gE hi')
 ·have hi':l'.length<=i:=by rw[<-h.1];omega
  simp only[List.getD,getElem?_eq_none (Nat.le_of_not_lt hi),getElem?_eq_none hi',Option.getD_none];exact .undef β
theorem qF{tm:List Value}{a:Act}(hg:Gl gl β)(ht:aG β tm a.tmps.toList)(x:Operand):au β (ev gl tm x) (a.eval x):=by
 cases x with
 |tmp t=>
  simp only[ev,Act.eval];have:=ht.getD t
  simp_all
 |const v=>
  simp only[ev,Act.eval];split
  ·next h=>exact .jv h
  ·exact .eu v
 | global g=>
  simp only[ev,Act.eval];split
  ·next h=>
   obtain⟨sl,h1,h2,h3,h4⟩:=hg g h;have:=au.ptr (i:=0) h1 h4
   grind
  ·exact .eu _
 |func f=>
  simp only[ev,Act.eval];exact .func rfl rfl rfl (λi v v' h=>by grind) (λi v v' h=>by grind)
theorem gF{tm:List Value}{a:Act}(ht:aG β tm a.tmps.toList)(dst:Option Tmp){v v':Value}(hv:au β v v'):aG β (eB tm dst v) (a.put dst v').tmps.toList:=by
 cases dst with
 |none=>exact ht
 | some d=>
  simp only[eB,Act.put,Array.toList_setIfInBounds];refine⟨by simp[ht.1],λi u u' h1 h2=>?_⟩;rw[List.getElem?_set]at h1 h2;split at h1
  ·grind
  ·next he=>
   rw[if_neg he]at h2;exact ht.2 i u u' h1 h2
theorem put_defers(a:Act)(dst:Option Tmp)(v:Value):(a.put dst v).defers=a.defers:=by cases dst<;>rfl
theorem wS{l:List Value}{d:Nat}{b:Bool}(h:l.getD d undef = .bool b):l[d]?=some (.bool b):=by
 rw[gD]at h
 cases hd:l[d]? with
 |none=>rw[hd]at h;cases h
 |some v=>grind
theorem tQ{l:List Value}{d:Nat}{vs:Array Value}(h:l.getD d undef = .tuple vs):l[d]?=some (.tuple vs)\/l[d]?=none:=by grind
theorem hP{ops:Array Oper}{tm:List Value}{a:Act}(ht:aG β tm a.tmps.toList){o:Oper}{b:Bool}(h:du ops tm o=some b):Region.wanted o (yielded ops a.tmps)=b:=by
 unfold du at h;unfold Region.wanted;split at h
 ·grind
 ·next j want hg=>
  rw[hg];simp only[yielded];split at h
  ·next d hd=>
   rw[hd];simp only[Option.bind_some];split at h
   ·next b' hb=>
    obtain⟨v',h1,h2⟩:=ht.get (wS hb);rw[h2.fM]at h1;rw[getElem?_toList]at h1;rw[h1];simp only[Option.some.injEq]at h;subst h
    cases b'<;>cases want<;>rfl
   ·next vs hb=>
    simp only[Option.some.injEq]at h;subst h;rcases tQ hb with hb|hb
    ·obtain⟨v',h1,h2⟩:=ht.get hb;obtain⟨vs',rfl,_⟩:=h2.nj;rw[getElem?_toList]at h1;rw[h1];rfl
    ·have hd:a.tmps[d]?=none:=by
      rw[<-getElem?_toList];exact getElem?_eq_none (by rw[<-ht.1];exact List.getElem?_eq_none_iff.1 hb)
     rw[hd];rfl
   ·cases h
  grind
def j5(β:cp)(h:aa)(w:World)(v:Value)(h':aa):Ending->World->Prop:=λe w'=>∃v' β',e = .returned v'/\Step β h w β' h' w'/\au β' v v'
def Sb(P:Program)(gl:Nat->Bool)(cf:br):Prop:=
 ∀f args h v h',f<YB->cf f args h=some (v,h')->∀β w (args':Array Value),fK β h w->Gl gl β->aG β args args'.toList->
  ∃fn,P.funcs[f]?=some fn/\((fn.body.isSome=true/\Calls P f args' w (j5 β h w v h'))\/
   (∃v' w' β',(callFunc f args').run P w = .ok (.value v') w'/\Step β h w β' h' w'/\au β' v v'))
def Sf(P:Program)(gl:Nat->Bool)(cf:br):Prop:=
 ∀k args h v h',cf (YB+k) args h=some (v,h')->∀β w (args':Array Value) sl,fK β h w->Gl gl β->aG β args args'.toList->β k=some sl->
  ∃fn tmps asg body,(Instr.yield sl.b args').run P w = .ok (.round sl.b fn tmps asg body) w/\∀(r:Option Nat)(n:Nat),RoundIn (fG r) n P sl.b fn tmps asg body w (j5 β h w v h')
structure ke(P:Program)(gl:Nat->Bool)(cf:br):Prop where
 fn:Sb P gl cf
 yd:Sf P gl cf
def cV(P:Program):Prop:=∀(f:FuncId)(fn:Func),P.funcs[f]?=some fn->(fn.name == "runtime.NumGoroutine")=false
theorem dq(hN:cV P){f:FuncId}{fn:Func}(hf:P.funcs[f]?=some fn)(hb:fn.body.isSome=true)(args:Array Value)(w:World):(callFunc f args).run P w = .ok (.enter f args) w:=by
 have h1:=hN f fn hf;have h2:fn.body.isNone=false:=by cases h:fn.body<;>simp_all
 simp only[callFunc,run_bind,run_program,andThen_ok,hf];rw[h1,h2];rfl
theorem au.IE{g:FuncId}{first captured:Array Value}{x:Value}(hf:au β (.func (.func g) first captured) x):∃first' captured',x = .func (.func g) first' captured'/\fz β first first'/\fz β captured captured':=by
 cases hf with
 |func hy ha hc ra rc=>exact⟨_,_,rfl,⟨ha,ra⟩,⟨hc,rc⟩⟩
theorem au.wT{k:Nat}{first captured:Array Value}{x:Value}(hf:au β (.func (.yield k) first captured) x):∃sl,β k=some sl/\x = .func (.yield sl.b) first captured:=by
 cases hf with
 |func hy ha hc ra rc=>cases hy
 |yield h ha hc=>grind
theorem Ah(hN:cV P){cf:br}(hcf:ke P gl cf){r:Option Nat}{n:Nat}{a:Act}{h:aa}{w:World}{o:Oper}{f:Operand}{args:Array Operand}{ats:Array TypeId}(ho:o.op = .call { callee:= .value f,args:=args,argTypes:=ats })
  {ρ:Operand->Value} {v:Value} {u:cL} (hs:fK β h w) (hg:Gl gl β) (hρ:∀x,au β (ρ x) (a.eval x)) (hr:mo cf (ρ f) (args.toList.map ρ) h=some (v,u)) (next:Act->World->Prop) (Q:Exit->Act->World->Prop)
  (hk:∀v' w' β',Step β h w β' (u.app h) w'->au β' v v'->next (a.put o.dst v') w'):o.uponIn (fG r) n P a next Q ((execOp a.eval o).run P w):=by
 unfold mo at hr;have hf:=hρ f;split at hr
 ·next g first captured hfv=>
  split at hr
  ·next hgY=>
   rw[hfv]at hf;obtain⟨⟨v0,h'⟩,hcall,he⟩:=map_eq_some_iff.1 hr;simp only[Prod.mk.injEq]at he;obtain⟨rfl,rfl⟩:=he;obtain⟨first',captured',hfe,hfr,hcr⟩:=hf.IE;have hargs:aG β (first.toList++args.toList.map ρ++captured.toList) (first'++args.map a.eval++captured').toList:=by
    simp only[toList_append,Array.toList_map];exact((fz.toList.1 hfr).append (aG.map _ λx _=>hρ x)).append (fz.toList.1 hcr)
   have hex:(execOp a.eval o).run P w=(callFunc g (first'++args.map a.eval++captured')).run P w:=by
    unfold execOp;simp only[ho,resolve,hfe,Deferred.ofValue,run_bind,Sem.run_pure,andThen_ok,invoke]
   rw[hex];obtain⟨fn,hfn,hres⟩:=hcf.fn g _ h _ h' hgY hcall β w _ hs hg hargs;rcases hres with⟨hb,hcalls⟩|⟨v',w',β',h1,h2,h3⟩
   ·rw[dq hN hfn hb];refine⟨λhd=>by simp[fG,Fence.wide]at hd,nP (hcalls.mono ?_)⟩;rintro e w' ⟨v',β',rfl,h2,h3⟩;exact hk v' w' β' h2 h3
   ·rw[h1];exact hk v' w' β' h2 h3
  ·cases hr
 ·next k first captured hfv=>
  split at hr
  ·next hz=>
   rw[hfv]at hf;obtain⟨⟨v0,h'⟩,hcall,he⟩:=map_eq_some_iff.1 hr;simp only[Prod.mk.injEq]at he;obtain⟨rfl,rfl⟩:=he;obtain⟨sl,hb,hfe⟩:=hf.wT;have hf0:first = #[]:=Array.eq_empty_of_size_eq_zero hz.1
   have hargs:aG β (args.toList.map ρ) (args.map a.eval).toList:=by
    simp only[Array.toList_map];exact aG.map _ λx _=>hρ x
   have hex:(execOp a.eval o).run P w=(Instr.yield sl.b (args.map a.eval)).run P w:=by
    unfold execOp;simp only[ho,resolve,hfe,Deferred.ofValue,run_bind,Sem.run_pure,andThen_ok,invoke,hf0,Array.empty_append]
   rw[hex];obtain⟨fn,tmps,asg,body,h1,h2⟩:=hcf.yd k _ h _ h' hcall β w _ sl hs hg hargs hb;rw[h1];refine⟨λhd=>by simp[fG,Fence.wide]at hd,(h2 r (n-1)).mono ?_⟩;rintro e w' ⟨v',β',rfl,h3,h4⟩;exact hk v' w' β' h3 h4
  ·cases hr
 grind
theorem QR(hN:cV P){cf:br}(hcf:ke P gl cf){r:Option Nat}{n:Nat}{tm:List Value}{a:Act}{h:aa}{w:World}{o:Oper}{v:Value}{u:cL}(hs:fK β h w)(hg:Gl gl β)(ht:aG β tm a.tmps.toList)
  (hr:aP P cf (ev gl tm) o h=some (v,u)) (next:Act->World->Prop) (Q:Exit->Act->World->Prop)
  (hk:∀v' w' β',Step β h w β' (u.app h) w'->au β' v v'->next (a.put o.dst v') w'):o.wpIn (fG r) n P a w next Q:=by
 refine⟨λ_ _=>trivial,?_⟩;have hρ:=qF (β:=β) hg ht;have hnd:∀c,o.op≠ .defer c:=by
  intro c hc;unfold aP at hr;simp[aK,aT,aJ,cB,hc]at hr
 rw[Oper.semAt_eq _ _ _ hnd];unfold aP at hr;split at hr
 ·next v0 hp=>
  simp only[Option.some.injEq,Prod.mk.injEq]at hr;obtain⟨rfl,rfl⟩:=hr;obtain⟨v',h1,h2⟩:=lf hρ hp w;rw[h1];exact hk v' w β (Step.refl hs) h2
 ·split at hr
  ·next v0 hp=>
   simp only[Option.some.injEq,Prod.mk.injEq]at hr;obtain⟨rfl,rfl⟩:=hr;obtain⟨v',h1,h2⟩:=lg hρ hs hp;rw[h1];exact hk v' w β (Step.refl hs) h2
  ·split at hr
   ·next B f hp=>
    simp only[Option.some.injEq,Prod.mk.injEq]at hr;obtain⟨rfl,rfl⟩:=hr;obtain⟨v',w',h1,h2⟩:=jT hρ (w:=w) hp;obtain⟨β',h3,h4⟩:=h2.step hs;rw[h1];exact hk v' w' β' h3 h4
   ·by_cases hc:aI o=false
    ·obtain⟨v',w',β',h1,h2,h3⟩:=qN hρ hc hs hr;rcases h1 with h1|⟨h1,rfl⟩
     ·rw[h1];exact hk v' w' β' h2 h3
     ·rw[h1];exact hk undef w' β' h2 h3
    ·unfold aI at hc;split at hc
     ·next f args ats ho=>
      simp only[cB,ho]at hr;exact Ah hN hcf ho hs hg hρ hr next Q hk
     grind
theorem Dx(hN:cV P){cf:br}(hcf:ke P gl cf){r:Option Nat}{n:Nat}{ops:Array Oper}(Q:Exit->Act->World->Prop):∀(rest:List Oper)(i:Nat){β:cp}{tm tm':List Value}{a:Act}{h h':aa}{w:World},
  ops.toList.drop i=rest->eA P gl cf ops rest tm h=some (tm',h')->fK β h w->Gl gl β->aG β tm a.tmps.toList->
  (∀a' w' β',Step β h w β' h' w'->aG β' tm' a'.tmps.toList->a'.defers=a.defers->Q .normal a' w')->wpOpsIn (fG r) n P ops Q (List.range' i rest.length) a w
 |[],i,β,tm,tm',a,h,h',w,hd,hr,hs,hg,ht,hk=>by
  simp only[eA,Option.some.injEq,Prod.mk.injEq]at hr;obtain⟨rfl,rfl⟩:=hr;exact hk a w β (Step.refl hs) ht rfl
 | o::rest,i,β,tm,tm',a,h,h',w,hd,hr,hs,hg,ht,hk=>by
  have ho:ops[i]?=some o:=by
   have:(ops.toList.drop i)[0]?=some o:=by rw[hd];rfl
   rw[List.getElem?_drop]at this;rw[<-getElem?_toList];simpa using this
  have hd':ops.toList.drop (i+1)=rest:=by rw[<-drop_drop,hd];rfl
  simp only[length_cons,range'_succ,wpOpsIn,ho];simp only[eA]at hr;split at hr
  ·next hw=>
   rw[hP ht hw];simp only[if_true];split at hr
   ·next v u hop=>
    refine QR hN hcf hs hg ht hop _ _ λv' w' β' hst hv=>?_;refine Dx hN hcf Q rest (i+1) hd' hr hst.jG (hg.mono hst.le) (gF (ht.mono hst.le) o.dst hv) λa' w2 β2 h1 h2 h3=>?_;exact hk a' w2 β2 (hst.trans h1) h2 (h3.trans (put_defers a o.dst v'))
   ·cases hr
  ·next hw=>
   rw[hP ht hw];simp only[false_eq_true,if_false];refine⟨λ_ _=>trivial,?_⟩;refine Dx hN hcf Q rest (i+1) hd' hr hs hg (gF ht o.dst (.undef β)) λa' w2 β2 h1 h2 h3=>?_;exact hk a' w2 β2 h1 h2 (h3.trans (put_defers a o.dst undef))
  grind
theorem GR(hN:cV P){cf:br}(hcf:ke P gl cf){r:Option Nat}{n:Nat}{id:Nat}{ops:Array Oper}(Q:Exit->Act->World->Prop){tm tm':List Value}{a:Act}{h h':aa}{w:World}
  (hr:eA P gl cf ops ops.toList tm h=some (tm',h')) (hs:fK β h w) (hg:Gl gl β) (ht:aG β tm a.tmps.toList)
  (hk:∀a' w' β',Step β h w β' h' w'->aG β' tm' a'.tmps.toList->a'.defers=a.defers->Q .normal a' w'):(Code.region id ops false).wpIn (fG r) n P Q a w:=by grind[wpIn_region,Dx,List.range_eq_range',length_toList]
theorem zw{F:Fence}{n:Nat}{c:Code}{Q:Exit->Act->World->Prop}(I:Nat->Act->World->Prop)(hz:∀a w,¬I 0 a w)
  (round:∀j a w,I (j+1) a w->c.wpIn F n P (Exit.then (I j) Q) a w) {j:Nat} {a:Act} {w:World} (h₀:I j a w):(Code.loop c).wpIn F n P Q a w:=by
 intro b k cs hro hb hr;have key:∀j a w,I j a w->∃e a' w',Q e a' w'/\ArrivesIn (Machine.fenced P F) P (lone (b.atR a (.code c :: .inLoop c::k)) cs w) b k cs e a' w':=by
  intro j
  induction j with
  |zero=>grind
  | succ j ih=>
   intro a w hI;obtain⟨e,a₁,w₁,hq,harr⟩:=round j a w hI b (.inLoop c::k) cs hro hb hr
   cases e with
   |normal=>
    obtain⟨e₂,a₂,w₂,hq₂,harr₂⟩:=ih a₁ w₁ hq;exact⟨e₂,a₂,w₂,hq₂,.of_steps (StepsIn.trans harr (.one (fenced_calm hb hr rfl) stepR_inLoop)) harr₂⟩
   |exit id=>exact⟨_,a₁,w₁,hq,.pass (x:= .inLoop c) rfl (λ_ _=> .inl (by simp)) harr⟩
   |goto l=>exact⟨_,a₁,w₁,hq,.pass (x:= .inLoop c) rfl (λ_ _=> .inl (by simp)) harr⟩
   |ret=>exact⟨_,a₁,w₁,hq,.pass (x:= .inLoop c) rfl (λ_ _=> .inl (by simp)) harr⟩
   |panic ch=>exact⟨_,a₁,w₁,hq,.pass (x:= .inLoop c) rfl (λ_ _=> .inl (by simp)) harr⟩
   |outgrown=>exact⟨_,a₁,w₁,hq,.pass (x:= .inLoop c) rfl (λ_ _=> .inl (by simp)) harr⟩
 obtain⟨e,a',w',hq,harr⟩:=key j a w h₀;exact⟨e,a',w',hq,.of_steps (.one (fenced_calm hb hr rfl) stepR_loop) harr⟩
def ib(P:Program)(gl:Nat->Bool)(cf:br)(c:Code):Prop:=
 ∀id ops,c = .region id ops true->∀β tm tm' (a:Act) h h' (w:World) (r:Option Nat) (n:Nat) (Q:Exit->Act->World->Prop),tz P gl cf ops tm h=some (tm',h')->fK β h w->Gl gl β->aG β tm a.tmps.toList->
  (∀a' w' β',Step β h w β' h' w'->aG β' tm' a'.tmps.toList->a'.defers=a.defers->Q .normal a' w')->(Code.region id ops true).wpIn (fG r) n P Q a w
inductive Part:Code->Code->Prop where
 |refl (c:Code):Part c c
 |DQ {c a b:Code} (h:Part c a):Part c (.seq a b)
 |zn {c a b:Code} (h:Part c b):Part c (.seq a b)
 |MJ {c a b:Code} {o:Operand} (h:Part c a):Part c (.cond o a b)
 |MH {c a b:Code} {o:Operand} (h:Part c b):Part c (.cond o a b)
 |block {c a:Code} {id:Nat} (h:Part c a):Part c (.block id a)
 |loop {c a:Code} (h:Part c a):Part c (.loop a)
def yQ(b:Nat):Deferred:={ target:= .collected b,args:= #[] }
def Marks(w:World)(ds:List Deferred)(β:cp)(h:aa)(w':World)(ds':List Deferred):Prop:=
 ∃ms:List Nat,ds'=ms.map yQ++ds/\ms.Nodup/\∀b∈ms,w.heap.size<=b/\b<w'.heap.size/\w'.heap[b]?=some (.deferred (some []))/\¬Wr β h b
theorem Marks.same{w w':World}{ds ds':List Deferred}{h:aa}(e:ds'=ds):Marks w ds β h w' ds':=⟨[],by grind,by simp,by simp⟩
theorem Marks.trans{β₁ β₂:cp}{w w₁ w₂:World}{ds ds₁ ds₂:List Deferred}{h₁ h₂:aa}(m:Marks w ds β₁ h₁ w₁ ds₁)(hsz:w.heap.size<=w₁.heap.size)(st:Step β₁ h₁ w₁ β₂ h₂ w₂)(m':Marks w₁ ds₁ β₂ h₂ w₂ ds₂):Marks w ds β₂ h₂ w₂ ds₂:=by
 obtain⟨ms,rfl,hn,hb⟩:=m;obtain⟨ms',rfl,hn',hb'⟩:=m';refine⟨ms'++ms,by simp,List.nodup_append.2 ⟨hn',hn,λa ha b hb2 e=>?_⟩,λb hm=>?_⟩
 ·grind
 ·rcases mem_append.1 hm with hm|hm
  ·grind
  ·obtain⟨h1,h2,h3,h4⟩:=hb b hm;exact⟨h1,lt_of_lt_of_le h2 st.size,(st.kept b h2 h4).trans h3,λhw=>h4 (st.back b h2 hw)⟩
theorem DX{h:aa}{w:World}(hs:fK β h w)(o:Obj):Step β h w β h (w.alloc o):=by
 have hk:∀b,b<w.heap.size->(w.alloc o).heap[b]?=w.heap[b]?:=λb hb=>by
  show(w.heap.push o)[b]?=_;rw[getElem?_push,if_neg (by omega)]
 refine⟨β.le_refl,Nat.le_refl _,⟨λk sl hk=>⟨(hs.lt k sl hk).1,?_⟩,λk B sl h1 h2=>(hs.blk k B sl h1 h2).of_heap (hk _ (hs.lt k sl h2).2),hs.own,hs.wf⟩,?_,rfl,⟨rfl,Nat.le_refl _⟩,rfl,λb hb _=>hk b hb,λ_ _ h=>h,λ_ _ h=> .inl h,λ_ B h _=>⟨B,h⟩⟩
 ·have:=(hs.lt k sl hk).2;simp;omega
 simp
theorem G0{h:aa}{w:World}(hs:fK β h w){tm:List Value}{r:Loop}(hr:r.state = .ready)(hp:r.pending=none)(ht:aG β tm r.tmps.toList)(ok:gV r.assign r.body=true):
  ∃β',Step β h w β' (h.push (.loop .ready tm r.params.toList r.assign r.body ok)) (w.alloc (.loop r))/\∃sl,β' h.next=some sl/\sl.b=w.heap.size:=by
 have ha:ks β w (.loop .ready tm r.params.toList r.assign r.body ok) (λk=> .func (.yield k) #[] #[]) (.func (.yield w.heap.size) #[] #[]) (w.alloc (.loop r)):=by
  refine⟨by simp,rfl,⟨rfl,Nat.le_refl _⟩,rfl,λb hb=>?_,⟨w.heap.size,0,0,0,0,true⟩,rfl,λβ' k hle hk=>⟨⟨rfl,r,World.alloc_heap_new w _,⟨hr,hp⟩,ht.mono hle,rfl,rfl,rfl⟩,?_⟩⟩
  ·show(w.heap.push _)[b]?=_;rw[getElem?_push,if_neg (by omega)]
  ·exact .yield (sl:=⟨w.heap.size,0,0,0,0,true⟩) hk rfl rfl
 obtain⟨β',h1,h2⟩:=ha.step hs;obtain⟨sl,h3,h4⟩:=h2.wT
 grind
theorem GZ{h:aa}{w w':World}(hs:fK β h w){k:Nat}{B₀:bt}{sl:Slot}(hk:h.get k=some B₀)(hb:β k=some sl)(hw:B₀.wr=true)(ha:At w w' sl.b):Step β h w β (h.del k) w':=by
 have hget:∀k' B',(h.del k).get k'=some B'->k'≠k/\h.get k'=some B':=λk' B' hg=>by
  rw[h.de]at hg;split at hg
  ·cases hg
  ·next hne=>exact⟨hne,hg⟩
 have hown:∀k' B' sl',k'≠k->h.get k'=some B'->β k'=some sl'->sl'.b≠sl.b:=λk' B' sl' hne h1 h2=>(hs.own k k' B₀ B' sl sl' (Ne.symm hne) hk h1 hb h2 hw).symm;refine⟨β.le_refl,Nat.le_refl _,⟨?_,?_,?_,aa.Ea hs.wf k⟩,by rw[ha.size];exact Nat.le_refl _,ha.os,ha.tape,ha.output,?_,?_,λ_ _ h=> .inl h,?_⟩
 ·intro k' sl' h1;rw[ha.size];exact hs.lt k' sl' h1
 ·intro k' B' sl' h1 h2;obtain⟨hne,h1⟩:=hget _ _ h1;exact(hs.blk k' B' sl' h1 h2).of_heap (ha.kept _ (hown k' B' sl' hne h1 h2))
 ·intro k₁ k₂ B₁ B₂ sl₁ sl₂ hne h1 h2 h3 h4 h5;exact hs.own k₁ k₂ B₁ B₂ sl₁ sl₂ hne (hget _ _ h1).2 (hget _ _ h2).2 h3 h4 h5
 ·intro b hb' hn;refine ha.kept b ?_;rintro rfl;exact hn ⟨k,B₀,sl,hk,hw,hb,rfl⟩
 ·rintro b hb' ⟨k',B',sl',h1,h2,h3,h4⟩;exact⟨k',B',sl',(hget _ _ h1).2,h2,h3,h4⟩
 grind
theorem qq(w:World)(b:Nat)(o:Obj):At w (w.putObj b o) b:=⟨by simp,rfl,.refl _,rfl,λb' hb=>World.putObj_heap_other hb⟩
theorem rh{P:Program}{g:FuncId}(h:mq P g=true):∃fn,P.funcs[g]?=some fn/\fn.body.isSome=true:=by grind[mq]
theorem y5{a b:Bool}(h:(a&&b)=true):a=true:=by grind
theorem EY{a b:Bool}(h:(a&&b)=true):b=true:=by grind
theorem pv(hN:cV P){cf:br}(hcf:ke P gl cf){r:Option Nat}{n N:Nat}:∀(c:Code),(r=none\/iY c=true)->(∀d,Part d c->ib P gl cf d)->∀{β:cp}{tm tm':List Value}{a:Act}{h h':aa}{w:World}{e:Exit}(Q:Exit->Act->World->Prop),
  aE P gl cf N c tm h=some (e,tm',h')->fK β h w->Gl gl β->aG β tm a.tmps.toList->
  (∀a' w' β',Step β h w β' h' w'->aG β' tm' a'.tmps.toList->Marks w a.defers β' h' w' a'.defers->Q e a' w')->c.wpIn (fG r) n P Q a w:=by
 intro c
 induction c with
 |skip=>
  intro hnr hdr β tm tm' a h h' w e Q hr hs hg ht hk;simp only[aE,Option.some.injEq,Prod.mk.injEq]at hr;obtain⟨rfl,rfl,rfl⟩:=hr;exact wpIn_skip (hk a w β (Step.refl hs) ht (.same rfl))
 |region id ops draw=>
  intro hnr hdr β tm tm' a h h' w e Q hr hs hg ht hk
  cases draw
  ·simp only[aE]at hr;obtain⟨⟨tm2,h2⟩,hop,he⟩:=map_eq_some_iff.1 hr;simp only[Prod.mk.injEq]at he;obtain⟨rfl,rfl,rfl⟩:=he;exact GR hN hcf Q hop hs hg ht λa' w' β' h1 h2 h3=>hk a' w' β' h1 h2 (.same h3)
  ·simp only[aE]at hr;obtain⟨⟨tm2,h2⟩,hop,he⟩:=map_eq_some_iff.1 hr;simp only[Prod.mk.injEq]at he;obtain⟨rfl,rfl,rfl⟩:=he;exact hdr _ (.refl _) id ops rfl β tm tm2 a h h2 w r n Q hop hs hg ht λa' w' β' h1 h2 h3=>hk a' w' β' h1 h2 (.same h3)
 | seq x y ihx ihy=>
  intro hnr hdr β tm tm' a h h' w e Q hr hs hg ht hk;simp only[aE]at hr;refine wpIn_seq ?_;split at hr
  ·next tm1 h1 hx=>
   refine ihx (hnr.imp id y5) (λd hd=>hdr d (.DQ hd)) _ hx hs hg ht λa1 w1 β1 hst1 ht1 hd1=>?_;exact ihy (hnr.imp id EY) (λd hd=>hdr d (.zn hd)) _ hr hst1.jG (hg.mono hst1.le) ht1 λa2 w2 β2 hst2 ht2 hd2=>hk a2 w2 β2 (hst1.trans hst2) ht2 (hd1.trans hst1.size hst2 hd2)
  ·next hne=>
   refine ihx (hnr.imp id y5) (λd hd=>hdr d (.DQ hd)) _ hr hs hg ht λa1 w1 β1 hst1 ht1 hd1=>?_;have:=hk a1 w1 β1 hst1 ht1 hd1
   cases e with
   |normal=>grind
   |_=>exact this
 | cond o x y ihx ihy=>
  intro hnr hdr β tm tm' a h h' w e Q hr hs hg ht hk;simp only[aE]at hr;split at hr
  ·next t hev=>
   have hc:a.eval o = .bool t:=by
    have:=qF (β:=β) hg ht o;rw[hev]at this;exact this.fM
   cases t
   ·exact wpIn_cond hc (ihy (hnr.imp id EY) (λd hd=>hdr d (.MH hd)) Q hr hs hg ht hk)
   ·exact wpIn_cond hc (ihx (hnr.imp id y5) (λd hd=>hdr d (.MJ hd)) Q hr hs hg ht hk)
  grind
 | block id x ih=>
  intro hnr hdr β tm tm' a h h' w e Q hr hs hg ht hk;simp only[aE]at hr;refine wpIn_block ?_;split at hr
  ·next id' tm1 h1 hx=>
   refine ih hnr (λd hd=>hdr d (.block hd)) _ hx hs hg ht λa1 w1 β1 hst1 ht1 hd1=>?_;split at hr
   ·next he=>
    simp only[Option.some.injEq,Prod.mk.injEq]at hr;obtain⟨rfl,rfl,rfl⟩:=hr;simp only[Exit.inBlock,he,if_true]
    grind
   ·next he=>
    simp only[Option.some.injEq,Prod.mk.injEq]at hr;obtain⟨rfl,rfl,rfl⟩:=hr;simp only[Exit.inBlock,he,if_false]
    grind
  ·next hne=>
   refine ih hnr (λd hd=>hdr d (.block hd)) _ hr hs hg ht λa1 w1 β1 hst1 ht1 hd1=>?_;have:=hk a1 w1 β1 hst1 ht1 hd1
   cases e with
   |exit id'=>grind
   |_=>exact this
 | loop x ih=>
  intro hnr hdr β tm tm' a h h' w e Q hr hs hg ht hk;simp only[aE]at hr;refine zw (λj a1 w1=>∃β1 tm1 h1,Step β h w β1 h1 w1/\aG β1 tm1 a1.tmps.toList/\Marks w a.defers β1 h1 w1 a1.defers/\iter (aE P gl cf N x) j tm1 h1=some (e,tm',h')) ?_ ?_ (j:=N) ⟨β,tm,h,Step.refl hs,ht,.same rfl,hr⟩
  ·grind[iter]
  ·rintro j a1 w1 ⟨β1,tm1,h1,hst1,ht1,hd1,Ld⟩;simp only[iter]at Ld;split at Ld
   ·next tm2 h2 hx=>
    refine ih hnr (λd hd=>hdr d (.loop hd)) _ hx hst1.jG (hg.mono hst1.le) ht1 λa2 w2 β2 hst2 ht2 hd2=>?_;exact⟨β2,tm2,h2,hst1.trans hst2,ht2,hd1.trans hst1.size hst2 hd2,Ld⟩
   ·next hne=>
    refine ih hnr (λd hd=>hdr d (.loop hd)) _ Ld hst1.jG (hg.mono hst1.le) ht1 λa2 w2 β2 hst2 ht2 hd2=>?_;have:=hk a2 w2 β2 (hst1.trans hst2) ht2 (hd1.trans hst1.size hst2 hd2)
    cases e with
    |normal=>grind
    |_=>exact this
 |exit id=>
  intro hnr hdr β tm tm' a h h' w e Q hr hs hg ht hk;simp only[aE,Option.some.injEq,Prod.mk.injEq]at hr;obtain⟨rfl,rfl,rfl⟩:=hr;exact wpIn_exit (hk a w β (Step.refl hs) ht (.same rfl))
 |ret=>
  intro hnr hdr β tm tm' a h h' w e Q hr hs hg ht hk;simp only[aE,Option.some.injEq,Prod.mk.injEq]at hr;obtain⟨rfl,rfl,rfl⟩:=hr;exact wpIn_ret (hk a w β (Step.refl hs) ht (.same rfl))
 |label l=>
  intro hnr hdr β tm tm' a h h' w e Q hr hs hg ht hk;simp only[aE,Option.some.injEq,Prod.mk.injEq]at hr;obtain⟨rfl,rfl,rfl⟩:=hr;exact wpIn_label (hk a w β (Step.refl hs) ht (.same rfl))
 | rangeFunc f ps x y _ _=>
  intro hnr hdr β tm tm' a h h' w e Q hr hs hg ht hk;rcases hnr with rfl|hnr
  ·simp only[aE]at hr;split at hr
   ·next g first captured hfv=>
    split at hr
    ·next hok=>
     split at hr
     ·next hgb=>
      split at hr
      ·next v2 h2 hcall=>
       obtain⟨e2,hend,he⟩:=map_eq_some_iff.1 hr;simp only[Prod.mk.injEq]at he;obtain⟨rfl,rfl,rfl⟩:=he;refine wpIn_rangeFunc λfnI hFn=>?_;have hs0:Step β h w β h (w.alloc (.deferred (some []))):=DX hs _;obtain⟨β1,hst1,sl,hsl,hslb⟩:=G0 hs0.jG (tm:=tm) (r:={ state:= .ready,pending:=none,fn:=fnI,tmps:=a.tmps,params:=ps,assign:=x,body:=y,defers:=w.heap.size }) rfl rfl ht hok;have hst01:=hs0.trans hst1;have hf:=qF (β:=β) hg ht f;rw[hfv]at hf;obtain⟨first',captured',hfe,hfr,hcr⟩:=hf.IE;have hslb':sl.b=w.heap.size+1:=by rw[hslb];simp
       have hargs:aG β1 (first.toList++[Value.func (.yield h.next) #[] #[]]++captured.toList) (first' ++ #[Value.func (.yield (w.heap.size+1)) #[] #[]]++captured').toList:=by
        simp only[toList_append];refine(((fz.toList.1 hfr).mono hst01.le).append ?_).append ((fz.toList.1 hcr).mono hst01.le);exact .cons (by have:=au.yield hsl (a:= #[]) (c:= #[]) rfl rfl;rwa[hslb']at this) (.nil _)
       obtain⟨fn,hfn,hres⟩:=hcf.fn g _ _ _ h2 hgb.1 hcall β1 _ _ hst1.jG (hg.mono hst01.le) hargs;obtain⟨fn2,hfn2,hbody⟩:=rh hgb.2;rw[hfn2]at hfn;obtain rfl:=oI hfn;have hent:=dq hN hfn2 hbody (first' ++ #[Value.func (.yield (w.heap.size+1)) #[] #[]]++captured');have hcalls:Calls P g (first' ++ #[Value.func (.yield (w.heap.size+1)) #[] #[]]++captured') ((w.alloc (.deferred (some []))).alloc (.loop { state:= .ready,pending:=none,fn:=fnI,tmps:=a.tmps,params:=ps,assign:=x,body:=y,defers:=w.heap.size })) (j5 β1 (h.push (.loop .ready tm ps.toList x y hok)) ((w.alloc (.deferred (some []))).alloc (.loop { state:= .ready,pending:=none,fn:=fnI,tmps:=a.tmps,params:=ps,assign:=x,body:=y,defers:=w.heap.size })) v2 h2):=by
        rcases hres with⟨_,hc⟩|⟨v',w',β',hc,_⟩
        ·exact hc
        ·rw[hent]at hc;cases hc
       have henter:(Instr.enterLoop fnI a.tmps ps x y (fG none).round).run P w = .ok (w.heap.size+1,[yQ w.heap.size]) ((w.alloc (.deferred (some []))).alloc (.loop { state:= .ready,pending:=none,fn:=fnI,tmps:=a.tmps,params:=ps,assign:=x,body:=y,defers:=w.heap.size })):=run_enterLoop_outer fnI a.tmps ps x y;have hresv:(resolve a.eval (rangeCall f (w.heap.size+1)) 0).run P ((w.alloc (.deferred (some []))).alloc (.loop { state:= .ready,pending:=none,fn:=fnI,tmps:=a.tmps,params:=ps,assign:=x,body:=y,defers:=w.heap.size })) = .ok { target:= .fn (.func g) captured',args:=first' ++ #[Value.func (.yield (w.heap.size+1)) #[] #[]] } ((w.alloc (.deferred (some []))).alloc (.loop { state:= .ready,pending:=none,fn:=fnI,tmps:=a.tmps,params:=ps,assign:=x,body:=y,defers:=w.heap.size })):=by
        have he:resolve a.eval (rangeCall f (w.heap.size+1)) 0=Deferred.ofValue (a.eval f) #[Value.func (.yield (w.heap.size+1)) #[] #[]]:=by
         unfold resolve rangeCall;simp only[List.map_toArray,List.map_cons,List.map_nil];rfl
        rw[he,hfe];rfl
       refine⟨_,_,_,_,_,g,_,_,henter,hresv,λ_ _=>trivial,hent _,λhd=>by simp[fG,Fence.wide]at hd,nP (hcalls.mono ?_)⟩;rintro e' w3 ⟨v',β3,rfl,hst3,hv3⟩
       cases hB:h2.get h.next with
       |none=>rw[hB]at hend;cases hend
       | some B=>
        rw[hB]at hend;have hsl3:=hst3.le _ _ hsl
        cases B with
        |cells _ _ _ _=>cases hend
        |map _=>cases hend
        | loop st tm2 ps2 asg2 body2 ok2=>
         obtain⟨_,r,hr1,hr2,_⟩:=hst3.jG.blk _ _ _ hB hsl3;rw[hslb']at hr1;have hmk:Marks w a.defers β3 (h2.del h.next) (w3.putObj (w.heap.size+1) (.loop { r with state:= .exhausted })) ([yQ w.heap.size]++a.defers):=by
          have hnw:¬Wr β1 (h.push (.loop .ready tm ps.toList x y hok)) w.heap.size:=λhw=>by
           have:=hst1.back w.heap.size (by simp) hw;obtain⟨k,B,sl0,_,_,h3,h4⟩:=this;have:=(hs.lt k sl0 h3).2;omega
          have hsz:w.heap.size<((w.alloc (.deferred (some []))).alloc (.loop { state:= .ready,pending:=none,fn:=fnI,tmps:=a.tmps,params:=ps,assign:=x,body:=y,defers:=w.heap.size })).heap.size:=by simp;omega
          refine⟨[w.heap.size],rfl,by simp,λb hb=>?_⟩;obtain rfl:=mem_singleton.1 hb;refine⟨Nat.le_refl _,?_,?_,λhw=>?_⟩
          ·rw[World.putObj_size];exact lt_of_lt_of_le hsz hst3.size
          ·rw[World.putObj_heap_other (by omega),hst3.kept _ hsz hnw];show((w.heap.push _).push _)[w.heap.size]?=_;rw[getElem?_push,if_neg (by simp),getElem?_push,if_pos rfl]
          ·obtain⟨k,B,sl0,h1,h2',h3,h4⟩:=hw;refine hnw (hst3.back _ hsz ⟨k,B,sl0,?_,h2',h3,h4⟩);rw[aa.de]at h1;split at h1
           ·cases h1
           ·exact h1
         have hdrop:Step β3 h2 w3 β3 (h2.del h.next) (w3.putObj (w.heap.size+1) (.loop { r with state:= .exhausted })):=GZ hst3.jG hB hsl3 rfl (by rw[hslb'];exact qq _ _ _);have hall:=(hst01.trans hst3).trans hdrop;have htm:=ht.mono (hst01.trans hst3).le;have hfin:=hk { a with defers:=[yQ w.heap.size]++a.defers } _ β3 hall htm hmk;have hnb:r.state≠ .busy:=by
          cases st<;>simp only[Cs]at hr2<;>first|(rw[hr2.1];simp;done)|cases hend
         refine⟨r.pending,_,run_endLoop hr1 hnb,?_⟩
         cases st with
         |ready=>
          obtain rfl:=oI hend;have hp:r.pending=none:=hr2.2;rw[hp]at hfin⊢;exact hfin
         |busy=>cases hend
         |ret=>
          obtain rfl:=oI hend;have hp:r.pending=some .ret:=hr2.2;rw[hp]at hfin⊢;exact wpIn_ret hfin
         |exit id=>
          obtain rfl:=oI hend;have hp:r.pending=some (.exit id):=hr2.2;rw[hp]at hfin⊢;exact wpIn_exit hfin
      ·cases hr
     ·cases hr
    ·cases hr
   grind
  ·cases hnr
 |scope x _=>grind[aE]
 |goto l=>grind[aE]
 |refuse s=>grind[aE]
end
section
variable {β:cp} {P:Program} {gl:Nat->Bool}
def BH(tmps:Array Value):ResultVar->Sem Value
 |.tmp t=>pure (tmps.getD t undef)
 |.cell x t=>do loadVar t (<-asAddr (tmps.getD x undef))
theorem DK(fn:Func)(tmps:Array Value):results fn tmps=(do let vs <-fn.results.mapM (BH tmps);pure (if h:vs.size=1 then vs[0]else .tuple vs)):=by rfl
theorem lA{a:Act}{h:aa}{w:World}(hs:fK β h w){tm:List Value}(ht:aG β tm a.tmps.toList):∀(l:List ResultVar){vs:List Value},bF P tm h l=some vs->
  ∃vs',(l.mapM (BH a.tmps)).run P w = .ok vs' w/\aG β vs vs'
 |[],vs,h=>by simp only[bF,Option.some.injEq]at h;subst h;exact⟨[],by simp,.nil β⟩
 |.tmp t::l,vs,hr=>by
  simp only[bF]at hr;obtain⟨vs0,h0,rfl⟩:=map_eq_some_iff.1 hr;obtain⟨vs',h1,h2⟩:=lA hs ht l h0;have hv:=ht.getD t;rw[show a.tmps.toList.getD t undef=a.tmps.getD t undef by simp[List.getD,Array.getD_eq_getD_getElem?]]at hv;refine⟨a.tmps.getD t undef::vs',?_,.cons hv h2⟩
  grind[run_bind,Sem.run_pure,andThen_ok,BH]
 | .cell x t::l,vs,hr=>by
  simp only[bF]at hr;split at hr
  ·next v hl=>
   obtain⟨vs0,h0,rfl⟩:=map_eq_some_iff.1 hr;obtain⟨vs',h1,h2⟩:=lA hs ht l h0;have hv:=ht.getD x;rw[show a.tmps.toList.getD x undef=a.tmps.getD x undef by simp[List.getD,Array.getD_eq_getD_getElem?]]at hv;obtain⟨ad,he,v',hrun,hvr⟩:=A8 (P:=P) hs hl hv;refine⟨v'::vs',?_,.cons hvr h2⟩;rw[List.mapM_cons];simp only[run_bind,BH,he,asAddr,Sem.run_pure,andThen_ok,hrun,h1]
  grind
theorem BI{fn:Func}{a:Act}{h:aa}{w:World}(hs:fK β h w){tm:List Value}(ht:aG β tm a.tmps.toList){vs:List Value}(hr:bF P tm h fn.results.toList=some vs):
  ∃v',(results fn a.tmps).run P w = .ok v' w/\au β (aO vs) v':=by
 obtain⟨vs',h1,h2⟩:=lA (P:=P) hs ht fn.results.toList hr;have hm:(fn.results.mapM (BH a.tmps)).run P w = .ok vs'.toArray w:=by
  rw[Array.mapM_eq_mapM_toList];simp only[Sem.run_map,h1,andThen_ok]
 refine⟨if h:vs'.toArray.size=1 then vs'.toArray[0]else .tuple vs'.toArray,?_,?_⟩
 ·grind[DK,run_bind,andThen_ok,Sem.run_pure]
 ·match vs,vs',h2 with
  |[],vs',h2=>rw[h2.dg];exact .tuple rfl λi v v' h=>by grind
  |[v],vs',h2=>
   obtain⟨v',r,rfl,hv,hr⟩:=h2.bS;rw[hr.dg];exact hv
  |v::u::vs,vs',h2=>
   have hl:=h2.1;have hne:¬vs'.toArray.size=1:=by simp only[List.size_toArray];simp only[length_cons]at hl;omega
   rw[dif_neg hne];exact .tuple (by omega) λi x x' h3 h4=>h2.2 i x x' (by grind) (by grind)
theorem rS.y4{B:bt}{sl:Slot}{w:World}(h:rS β B sl w){d:Option (List Deferred)}(hd:w.heap[sl.b]?=some (.deferred d)):False:=by
 cases B with
 |cells cs t sz wr=>obtain⟨_,_,_,cs',fr,h4,_⟩:=h;grind
 |map es=>obtain⟨_,es',clock,h2,_⟩:=h;grind
 |loop st tm ps asg body ok=>obtain⟨_,r,h2,_⟩:=h;grind
theorem xw{β₀:cp}{h₀ h:aa}{w₀ w:World}(st:Step β₀ h₀ w₀ β h w){b:Nat}{d d':Option (List Deferred)}(hb:w₀.heap.size<=b)(hd:w.heap[b]?=some (.deferred d)):Step β₀ h₀ w₀ β h (w.putObj b (.deferred d')):=by
 refine⟨st.le,st.next,⟨λk sl hk=>?_,λk B sl h1 h2=>?_,st.jG.own,st.jG.wf⟩,?_,st.os,st.tape,st.output,λb' hb' hw=>?_,st.back,st.fresh,st.keys⟩
 ·rw[World.putObj_size];exact st.jG.lt k sl hk
 ·have hB:=st.jG.blk k B sl h1 h2;refine hB.of_heap (World.putObj_heap_other λe=>?_);rw[<-e]at hd;exact hB.y4 hd
 ·grind[World.putObj_size]
 ·rw[World.putObj_heap_other (by omega)];exact st.kept b' hb' hw
theorem kV{F:Fence}{n:Nat}{fn:Func}{β₀ β':cp}{h₀ h':aa}{w₀:World}{tm:List Value}{tmps:Array Value}{vs:List Value}(hres:bF P tm h' fn.results.toList=some vs)(ht:aG β' tm tmps.toList):
  ∀(ms:List Nat)(w':World),ms.Nodup->(∀b∈ms,w₀.heap.size<=b/\w'.heap[b]?=some (.deferred (some [])))->Step β₀ h₀ w₀ β' h' w'->LeavesInM F n P fn tmps (j5 β₀ h₀ w₀ (aO vs) h') (ms.map yQ) .returning w'
 |[],w',_,_,st=>by
  obtain⟨v',h1,h2⟩:=BI (P:=P) (fn:=fn) (a:={ tmps:=tmps,defers:=[] }) st.jG ht hres;exact⟨v',h1,v',β',rfl,st,h2⟩
 |b::ms,w',hn,hb,st=>by
  obtain⟨h1,h2⟩:=hb b (by simp);obtain⟨hn1,hn2⟩:=nodup_cons.1 hn;refine⟨by simp,.inl ⟨b,_,rfl,run_takeDeferred h2,?_⟩⟩;refine kV hres ht ms _ hn2 (λb' hm=>?_) (xw st h1 h2)
  grind[World.putObj_heap_other]
def gm(P:Program)(gl:Nat->Bool)(f:FuncId)(p:jD):Prop:=
 ∀cf,ke P gl cf->∀args h v h',p cf args h=some (v,h')->∀β w (args':Array Value),fK β h w->Gl gl β->aG β args args'.toList->
  ∃fn,P.funcs[f]?=some fn/\((fn.body.isSome=true/\Calls P f args' w (j5 β h w v h'))\/
   (∃v' w' β',(callFunc f args').run P w = .ok (.value v') w'/\Step β h w β' h' w'/\au β' v v'))
def pg(P:Program)(gl:Nat->Bool)(pr:FuncId->Option jD):Prop:=∀f p,pr f=some p->gm P gl f p
def zJ(P:Program)(gl:Nat->Bool):Prop:=∀cf,ke P gl cf->∀(f:FuncId)(fn:Func)(c d:Code),P.funcs[f]?=some fn->fn.body=some c->Part d c->ib P gl cf d
theorem tf(hN:cV P){cf:br}(hcf:ke P gl cf){N:Nat}{f:FuncId}{fn:Func}{c:Code}(hf:P.funcs[f]?=some fn)(hb:fn.body=some c)(hd:∀d,Part d c->ib P gl cf d)
  {args:List Value} {h h':aa} {tm:List Value} {e:Exit} {vs:List Value} (hr:aE P gl cf N c (args++List.replicate (fn.ntmps-args.length) undef) h=some (e,tm,h')) (he:e = .normal\/e = .ret)
  (hres:bF P tm h' fn.results.toList=some vs) {w:World} {args':Array Value} (hs:fK β h w) (hg:Gl gl β) (ha:aG β args args'.toList):
  Calls P f args' w (j5 β h w (aO vs) h'):=by
 refine(callsIn_wide (n:=0)).1 (callsIn_of_wp_marks (F:=Fence.wide) hf hb trivial ?_);have hrep:∀k,aG β (List.replicate k undef) (List.replicate k undef):=λk=>⟨rfl,λi v v' h1 h2=>by
  rw[getElem?_replicate]at h1 h2;split at h1
  ·next hi=>rw[if_pos hi]at h2;obtain rfl:=oI h1;obtain rfl:=oI h2;exact .undef β
  grind⟩
 have ht:aG β (args++List.replicate (fn.ntmps-args.length) undef) (args'++Array.replicate (fn.ntmps-args'.size) undef).toList:=by
  have:args'.size=args.length:=by rw[ha.1];simp
  rw[this];simp only[toList_append,Array.toList_replicate];exact ha.append (hrep _)
 refine pv (r:=none) hN hcf c (.inl rfl) hd _ hr hs hg ht λa w' β' hst ht' hd'=>?_;obtain⟨ms,hms,hnd,hb'⟩:=hd';simp only[append_nil]at hms;have key:=kV (P:=P) (F:=Fence.wide) (n:=0) (fn:=fn) hres ht' ms w' hnd (λb hm=>⟨(hb' b hm).1,(hb' b hm).2.2.1⟩) hst;rw[<-hms]at key;rcases he with rfl|rfl
 ·exact key
 ·exact key
theorem tN:∀(l:List (Tmp×Value))(T:Array Value),(l.foldl (λtmps (p:Tmp×Value)=>tmps.setIfInBounds p.1 p.2) T).toList=mZ T.toList l
 |[],_=>rfl
 |p::l,T=>by
  simp only[List.foldl_cons,mZ];rw[tN l,mZ,Array.toList_setIfInBounds]
theorem aG.set{l l':List Value}(h:aG β l l')(i:Nat){v v':Value}(hv:au β v v'):aG β (l.set i v) (l'.set i v'):=by
 refine⟨by simp[h.1],λj u u' h1 h2=>?_⟩;rw[List.getElem?_set]at h1 h2;split at h1
 ·grind
 ·next he=>rw[if_neg he]at h2;exact h.2 j u u' h1 h2
theorem xp:∀(ps:List Tmp){tm tm' args args':List Value},aG β tm tm'->aG β args args'->aG β (mZ tm (ps.zip args)) (mZ tm' (ps.zip args'))
 |[],_,_,_,_,ht,_=>by simp_all[mZ]
 |p::ps,_,_,[],_,ht,ha=>by rw[ha.dg];simp_all[mZ]
 |p::ps,_,_,v::vs,_,ht,ha=>by
  obtain⟨v',r',rfl,hv,hrr⟩:=ha.bS;exact xp ps (ht.set p hv) hrr
theorem fO{cf:br}(hD:∀(d c:Code),Part d c->bp c=true->ib P gl cf d){c:Code}(h:bp c=true):∀d,Part d c->ib P gl cf d:=λd hd=>hD d c hd h
theorem Kf(hN:cV P){cf:br}(hcf:ke P gl cf)(hD:∀(d c:Code),Part d c->bp c=true->ib P gl cf d){N k:Nat}{args:List Value}{h h':aa}{v:Value}(hr:ko (aE P gl cf N) k args h=some (v,h')){w:World}{args':Array Value}{sl:Slot}
  (hs:fK β h w) (hg:Gl gl β) (ha:aG β args args'.toList) (hb:β k=some sl):
  ∃fn tmps asg body,(Instr.yield sl.b args').run P w = .ok (.round sl.b fn tmps asg body) w/\∀(r:Option Nat)(n:Nat),RoundIn (fG r) n P sl.b fn tmps asg body w (j5 β h w v h'):=by
 unfold ko at hr;split at hr
 ·next tm ps asg body ok hk=>
  split at hr
  ·next hlen=>
   split at hr
   ·next tm1 h1 hasg=>
    split at hr
    ·next tm' ps' asg' body' ok' hk1=>
     split at hr
     ·next e x h2 hbody=>
      split at hr
      ·next st2 tm2 ps2 asg2 body2 ok2 b st hk2 hlst=>
       simp only[Option.some.injEq,Prod.mk.injEq]at hr;obtain⟨rfl,rfl⟩:=hr;obtain⟨_,lr,hr1,hr2,htm,hps,rfl,rfl⟩:=hs.blk _ _ _ hk hb;have hsz:args'.size=lr.params.size:=by
        have:=ha.1;rw[<-length_toList,<-this,hlen,<-hps];simp
       refine⟨lr.fn,_,lr.assign,lr.body,run_yield hr1 hsz,λr n=>?_⟩;simp only[gV,and_eq_true]at ok;obtain⟨⟨⟨ok1,ok2'⟩,ok3⟩,ok4⟩:=ok;have hset:aG β (mZ tm (ps.zip args)) ((lr.params.zip args').foldl (λtmps (t,a)=>tmps.setIfInBounds t a) lr.tmps).toList:=by
        rw[<-foldl_toList,Array.toList_zip,hps];have:=xp ps htm ha;rw[<-tN (ps.zip args'.toList) lr.tmps]at this;exact this
       refine roundIn_of_wpIn trivial ?_;refine pv (r:=some sl.b) hN hcf lr.assign (.inr ok3) (fO hD ok1) _ hasg hs hg (a:={ tmps:=_,defers:=[] }) hset λa1 w1 β1 hst1 ht1 _=>?_;have hb1:=hst1.le _ _ hb;obtain⟨_,lr1,hr11,hr12,htm1,hps1,hasg1,hbody1⟩:=hst1.jG.blk _ _ _ hk1 hb1;have hst2:Step β1 h1 w1 β1 (h1.set k (.loop .busy tm' ps' asg' body' ok')) (w1.putObj sl.b (.loop { lr1 with state:= .busy })):=
        Step.at_ hst1.jG hk1 hb1 rfl (qq _ _ _) ⟨by assumption,{ lr1 with state:= .busy },World.putObj_heap_same (hst1.jG.lt _ _ hb1).2,rfl,htm1,hps1,hasg1,hbody1⟩
       refine⟨_,run_beginRound hr11 hr12.1,?_⟩;have hst12:=hst1.trans hst2;refine pv (r:=some sl.b) hN hcf lr.body (.inr ok4) (fO hD ok2') _ hbody hst2.jG (hg.mono hst12.le) ht1 λa2 w2 β2 hst3 ht2 _=>?_;have hb2:=hst3.le _ _ hb1;obtain⟨hmap,lr2,hr21,hr22,htm2,hps2,hasg2,hbody2⟩:=hst3.jG.blk _ _ _ hk2 hb2;have hst13:=hst12.trans hst3;have fin:∀jump:Option Code,b=jump.isNone->Cs st (if jump.isNone then .ready else .done) jump->
         ∃v w',(Instr.endRound sl.b jump).run P w2 = .ok v w'/\j5 β h w (.bool b) (h2.set k (.loop st tm2 ps2 asg2 body2 ok2)) (.returned v) w':=λjump hj hst=>by
        refine⟨_,_,run_endRound jump hr21,.bool jump.isNone,β2,rfl,hst13.trans (Step.at_ hst3.jG hk2 hb2 rfl (qq _ _ _) ⟨hmap,_,World.putObj_heap_same (hst3.jG.lt _ _ hb2).2,hst,htm2,hps2,hasg2,hbody2⟩),?_⟩;rw[hj];exact .bool _
       cases e with
       |normal=>simp only[Bb,Option.some.injEq,Prod.mk.injEq]at hlst;obtain⟨rfl,rfl⟩:=hlst;exact fin none rfl ⟨rfl,rfl⟩
       |ret=>simp only[Bb,Option.some.injEq,Prod.mk.injEq]at hlst;obtain⟨rfl,rfl⟩:=hlst;exact fin (some .ret) rfl ⟨rfl,rfl⟩
       |exit id=>simp only[Bb,Option.some.injEq,Prod.mk.injEq]at hlst;obtain⟨rfl,rfl⟩:=hlst;exact fin (some (.exit id)) rfl ⟨rfl,rfl⟩
       |_=>cases hlst
      ·cases hr
     ·cases hr
    ·cases hr
   ·cases hr
  ·cases hr
 grind
def wj(P:Program)(gl:Nat->Bool):Prop:=∀cf,ke P gl cf->∀(d c:Code),Part d c->bp c=true->ib P gl cf d
theorem yg(hN:cV P){pr:FuncId->Option jD}(hp:pg P gl pr)(hD:zJ P gl)(hT:wj P gl):∀n,ke P gl (aQ P gl pr n)
 |0=>⟨λf args h v h' _ hr=>by grind[aQ],λk args h v h' hr=>by grind[aQ]⟩
 | n+1=>by
  have ih:=yg hN hp hD hT n;refine⟨λf args h v h' hfY hr β w args' hs hg ha=>?_,λk args h v h' hr β w args' sl hs hg ha hb=>?_⟩
  ·simp only[aQ]at hr;rw[if_neg (by omega)]at hr;split at hr
   ·next p hpf=>exact hp f p hpf _ ih args h v h' hr β w args' hs hg ha
   ·split at hr
    ·next fn hf=>
     split at hr
     ·next c hb=>
      refine⟨fn,hf,.inl ⟨by simp[hb],?_⟩⟩;split at hr
      ·next tm h2 hcr=>
       obtain⟨vs,hres,he⟩:=map_eq_some_iff.1 hr;simp only[Prod.mk.injEq]at he;obtain⟨rfl,rfl⟩:=he;exact tf hN ih hf hb (λd hd=>hD _ ih f fn c d hf hb hd) hcr (.inl rfl) hres hs hg ha
      ·next tm h2 hcr=>
       obtain⟨vs,hres,he⟩:=map_eq_some_iff.1 hr;simp only[Prod.mk.injEq]at he;obtain⟨rfl,rfl⟩:=he;exact tf hN ih hf hb (λd hd=>hD _ ih f fn c d hf hb hd) hcr (.inr rfl) hres hs hg ha
      ·cases hr
     ·cases hr
    grind
  ·simp only[aQ]at hr;rw[if_pos (by omega),Nat.add_sub_cancel_left]at hr;exact Kf hN ih (hT _ ih) hr hs hg ha hb
end
section
variable {β:cp} {P:Program}
structure qj(h h':aa):Prop where
 next:h.next=h'.next
 get:∀k,h.get k=h'.get k
theorem qj.refl(h:aa):qj h h:=⟨rfl,λ_=>rfl⟩
theorem qj.symm{h h':aa}(e:qj h h'):qj h' h:=⟨e.next.symm,λk=>(e.get k).symm⟩
theorem fK.same{h h':aa}{w:World}(e:qj h h')(hs:fK β h w):fK β h' w:=
 ⟨λk sl hk=>by rw[<-e.next];exact hs.lt k sl hk,λk B sl h1 h2=>hs.blk k B sl (by rw[e.get];omega) h2,
  λk k' B B' sl sl' hne h1 h2 h3 h4 h5=>hs.own k k' B B' sl sl' hne (by rw[e.get];omega) (by rw[e.get];omega) h3 h4 h5,
  λk B hk=>by rw[<-e.next];exact hs.wf k B (by rw[e.get];omega)⟩
theorem Wr.same{h h':aa}(e:qj h h'){b:Nat}:Wr β h b->Wr β h' b:=λ⟨k,B,sl,h1,h2⟩=>⟨k,B,sl,by rw[<-e.get];omega,h2⟩
theorem Step.same{h h₂ h' h₂':aa}{β':cp}{w w':World}(e:qj h h₂)(e':qj h' h₂')(s:Step β h w β' h' w'):Step β h₂ w β' h₂' w':=
 ⟨s.le,by rw[<-e.next,<-e'.next];exact s.next,s.jG.same e',s.size,s.os,s.tape,s.output,λb hb hn=>s.kept b hb λhw=>hn (hw.same e),λb hb hw=>(s.back b hb (hw.same e'.symm)).same e,
  λk sl hk=>(s.fresh k sl hk).imp id λ⟨h1,h2⟩=>⟨by rw[<-e.next];omega,h2.imp id λhw=>hw.same e⟩,
  λk B hk hlt=>let⟨B₀,h0⟩:=s.keys k B (by rw[e'.get];omega) (by rw[e.next];omega);⟨B₀,by rw[<-e.get];omega⟩⟩
theorem fK.sub{V G:aa}{w:World}(hs:fK β V w)(hn:G.next=V.next)(hg:∀k B,G.get k=some B->V.get k=some B):fK β G w:=
 ⟨λk sl hk=>by rw[hn];exact hs.lt k sl hk,λk B sl h1 h2=>hs.blk k B sl (hg k B h1) h2,λk k' B B' sl sl' hne h1 h2 h3 h4 h5=>hs.own k k' B B' sl sl' hne (hg k B h1) (hg k' B' h2) h3 h4 h5,
  λk B hk=>by rw[hn];exact hs.wf k B (hg k B hk)⟩
theorem Step.frame{G G' V V':aa}{β':cp}{w w':World}(s:Step β G w β' G' w')(hv:fK β V w)(hn:V.next=G.next)(hn':V'.next=G'.next)(R:Nat->bt->Prop)
  (hR:∀k B,R k B->k<G.next/\G.get k=none) (eV:∀k B,V.get k=some B↔G.get k=some B\/R k B) (eV':∀k B,V'.get k=some B↔G'.get k=some B\/R k B):Step β V w β' V' w':=by
 have hold:∀k sl,k<G.next->β' k=some sl->β k=some sl:=λk sl hk hb=>by
  rcases s.fresh k sl hb with h|⟨h,_⟩
  all_goals omega
 have hnw:∀k B sl,R k B->β k=some sl->¬Wr β G sl.b:=by
  rintro k B sl hr hb ⟨k2,B2,sl2,h1,h2,h3,h4⟩;have hne:k2≠k:=by rintro rfl;rw[(hR _ _ hr).2]at h1;cases h1
  exact hv.own k2 k B2 B sl2 sl hne ((eV _ _).2 (.inl h1)) ((eV _ _).2 (.inr hr)) h3 hb h2 h4
 have hwr:∀b,Wr β G b->Wr β V b:=λb ⟨k,B,sl,h1,h2⟩=>⟨k,B,sl,(eV _ _).2 (.inl h1),h2⟩
 refine⟨s.le,by rw[hn,hn'];exact s.next,⟨?_,?_,?_,?_⟩,s.size,s.os,s.tape,s.output,λb hb hw=>s.kept b hb λh=>hw (hwr b h),?_,?_,?_⟩
 ·intro k sl hk;rw[hn'];exact s.jG.lt k sl hk
 ·intro k B sl h1 h2;rcases(eV' k B).1 h1 with h1|h1
  ·exact s.jG.blk k B sl h1 h2
  ·have hb:=hold k sl (hR _ _ h1).1 h2;exact((hv.blk k B sl ((eV _ _).2 (.inr h1)) hb).mono s.le).of_heap (s.kept _ (hv.lt k sl hb).2 (hnw k B sl h1 hb))
 ·intro k k' B B' sl sl' hne h1 h2 h3 h4 h5;rcases(eV' k B).1 h1 with h1|h1
  ·rcases(eV' k' B').1 h2 with h2|h2
   ·exact s.jG.own k k' B B' sl sl' hne h1 h2 h3 h4 h5
   ·have hb:=hold k' sl' (hR _ _ h2).1 h4;intro he;exact hnw k' B' sl' h2 hb (s.back _ (hv.lt k' sl' hb).2 ⟨k,B,sl,h1,h5,h3,he⟩)
  ·have hb:=hold k sl (hR _ _ h1).1 h3;rcases(eV' k' B').1 h2 with h2|h2
   ·rcases s.fresh k' sl' h4 with h6|⟨_,h6|h6⟩
    ·have hlt:=(hv.lt k' sl' h6).1;obtain⟨B₀,h7⟩:=s.keys k' B' h2 (by rw[<-hn];exact hlt);exact hv.own k k' B B₀ sl sl' hne ((eV _ _).2 (.inr h1)) ((eV _ _).2 (.inl h7)) hb h6 h5
    ·have:=(hv.lt k sl hb).2;omega
    grind
   ·exact hv.own k k' B B' sl sl' hne ((eV _ _).2 (.inr h1)) ((eV _ _).2 (.inr h2)) hb (hold k' sl' (hR _ _ h2).1 h4) h5
 ·intro k B hk;rw[hn'];rcases(eV' k B).1 hk with hk|hk
  ·exact s.jG.wf k B hk
  ·exact lt_of_lt_of_le (hR _ _ hk).1 s.next
 ·rintro b hb ⟨k,B,sl,h1,h2,h3,h4⟩;rcases(eV' k B).1 h1 with h1|h1
  ·exact hwr b (s.back b hb ⟨k,B,sl,h1,h2,h3,h4⟩)
  ·exact⟨k,B,sl,(eV _ _).2 (.inr h1),h2,hold k sl (hR _ _ h1).1 h3,h4⟩
 ·intro k sl hk;rcases s.fresh k sl hk with h|⟨h1,h2⟩
  all_goals grind
 ·intro k B hk hlt;rcases(eV' k B).1 hk with hk|hk
  ·obtain⟨B₀,h0⟩:=s.keys k B hk (by rw[<-hn];exact hlt);exact⟨B₀,(eV _ _).2 (.inl h0)⟩
  grind
theorem ks.HE{β₀:cp}{h₀ V:aa}{w₀ w w':World}(st:Step β₀ h₀ w₀ β V w){B:bt}{f:Nat->Value}{v':Value}(ha:ks β w B f v' w'){k:Nat}(hk:β k=none)(h1:h₀.next<=k)(h2:k<V.next):
  ∃β',Step β₀ h₀ w₀ β' (V.set k B) w'/\au β' (f k) v'/\β.le β'/\∀j,j≠k->β' j=β j:=by
 obtain⟨sl,hb,hnew⟩:=ha.new;have hs:=st.jG;have hle:β.le (β.ext k sl):=cp.tZ sl hk;obtain⟨hB,hv⟩:=hnew _ k hle (β.bH _ _);have hlt:∀k' sl',β k'=some sl'->sl'.b<w.heap.size:=λk' sl' hk=>(hs.lt k' sl' hk).2;have hsz:=st.size;refine⟨β.ext k sl,⟨cp.le_trans st.le hle,st.next,⟨?_,?_,?_,aa.wf_set hs.wf B h2⟩,by rw[ha.size];omega,ha.os.trans st.os,st.tape.trans ha.tape,ha.output.trans st.output,
  λb hb' hn=>(ha.kept b (by omega)).trans (st.kept b hb' hn),?_,?_,?_⟩,hv,hle,λj hj=>β.cR sl hj⟩
 ·intro k' sl' hk';by_cases hkn:k'=k
  ·subst hkn;rw[β.bH]at hk';obtain rfl:=oI hk';exact⟨h2,by rw[ha.size,hb];omega⟩
  ·rw[β.cR sl hkn]at hk';have:=hs.lt k' sl' hk';exact⟨this.1,by rw[ha.size];omega⟩
 ·intro k' B' sl' e1 e2;by_cases hkn:k'=k
  ·subst hkn;rw[β.bH]at e2;obtain rfl:=oI e2;rw[V.cF]at e1
   grind
  ·rw[V.bq k k' B hkn]at e1;rw[β.cR sl hkn]at e2;exact((hs.blk k' B' sl' e1 e2).mono hle).of_heap (ha.kept _ (hlt k' sl' e2))
 ·intro k₁ k₂ B₁ B₂ sl₁ sl₂ hne e1 e2 e3 e4 e5;by_cases hk1:k₁=k
  ·subst hk1;rw[β.bH]at e3;obtain rfl:=oI e3;rw[β.cR sl (Ne.symm hne)]at e4
   grind
  ·by_cases hk2:k₂=k
   ·subst hk2;rw[β.bH]at e4;obtain rfl:=oI e4;rw[β.cR sl hne]at e3
    grind
   ·rw[V.bq k k₁ B hk1]at e1;rw[V.bq k k₂ B hk2]at e2;rw[β.cR sl hk1]at e3;rw[β.cR sl hk2]at e4;exact hs.own k₁ k₂ B₁ B₂ sl₁ sl₂ hne e1 e2 e3 e4 e5
 ·rintro b hb' ⟨k',B',sl',e1,e2,e3,e4⟩;by_cases hkn:k'=k
  ·subst hkn;rw[β.bH]at e3
   grind
  ·rw[V.bq k k' B hkn]at e1;rw[β.cR sl hkn]at e3;exact st.back b hb' ⟨k',B',sl',e1,e2,e3,e4⟩
 ·intro k' sl' hk';by_cases hkn:k'=k
  ·subst hkn;rw[β.bH]at hk'
   grind
  ·rw[β.cR sl hkn]at hk';exact st.fresh k' sl' hk'
 ·intro k' B' e1 hlt';rw[V.bq k k' B (by omega)]at e1;exact st.keys k' B' e1 hlt'
end
section
variable {P:Program} {ρ ρ':Operand->Value}
theorem QI{l:List (Nat×Operand)}(h:∀x∈l.map (·.2),ρ x=ρ' x):l.map (λp=>(p.1,ρ p.2))=l.map (λp=>(p.1,ρ' p.2)):=
 map_congr_left λp hp=>by grind
theorem SQ{r:Option Operand}(h:∀x∈r.toList,ρ x=ρ' x):r.map ρ=r.map ρ':=by
 cases r with
 |none=>rfl
 |some x=>grind
theorem Sq{l:List (Nat×Operand)}(h:∀x∈l.map (·.2),ρ x=ρ' x)(q:Value->Bool):(l.all λp=>q (ρ p.2))=l.all λp=>q (ρ' p.2):=by grind
theorem y9{o:Oper}(h:∀x∈o.op.operands,ρ x=ρ' x):aK P ρ o=aK P ρ' o:=by
 obtain⟨dst,op,ty,pos,after,guard⟩:=o
 cases op
 case call c=>
  obtain⟨callee,args,ats⟩:=c
  cases callee with
  |builtin b=>
   have ha:args.toList.map ρ=args.toList.map ρ':=map_congr_left λx hx=>h x (by simpa[Op.operands,Call.operands]using hx)
   cases b<;>simp only[aK,ha]
   split
   ·next x t hx ht=>rw[h x (by simp[Op.operands,Call.operands];exact Array.mem_of_getElem? hx)]
   ·rfl
  |_=>rfl
 all_goals first
  |rfl
  |(simp only[Op.operands,Array.mem_append,List.mem_toArray,mem_cons,List.not_mem_nil,or_false,forall_eq_or_imp,forall_eq]at h;simp only[aK,h];done)
  |skip
 case build t ps=>
  simp only[aK];rw[QI λx hx=>h x (by simpa[Op.operands]using hx)]
 grind[Array.map_congr_left,Op.operands,aK]
theorem za{o:Oper}{hp:aa}(h:∀x∈o.op.operands,ρ x=ρ' x):aT P ρ o hp=aT P ρ' o hp:=by
 obtain⟨dst,op,ty,pos,after,guard⟩:=o
 cases op
 case call c=>
  obtain⟨callee,args,ats⟩:=c
  cases callee with
  |builtin b=>
   cases b<;>simp only[aT]
   split
   ·next x t hx ht=>rw[h x (by simp[Op.operands,Call.operands];exact Array.mem_of_getElem? hx)]
   ·rfl
  |_=>rfl
 all_goals first
  |rfl
  |(simp only[Op.operands,Array.mem_append,List.mem_toArray,mem_cons,List.not_mem_nil,or_false,forall_eq_or_imp,forall_eq]at h;simp only[aT,h];done)
  |skip
 grind[SQ,Op.operands,aT]
theorem vY{o:Oper}(h:∀x∈o.op.operands,ρ x=ρ' x):aJ P ρ o=aJ P ρ' o:=by
 obtain⟨dst,op,ty,pos,after,guard⟩:=o
 cases op
 all_goals first
  |rfl
  |(simp only[Op.operands,List.mem_toArray,mem_cons,List.not_mem_nil,or_false,forall_eq_or_imp,forall_eq]at h;simp only[aJ,h];done)
  |skip
 case buildSlice t len ps=>
  have hm:∀x∈ps.toList.map (·.2),ρ x=ρ' x:=λx hx=>h x (by simpa[Op.operands]using hx);simp only[aJ];rw[QI hm,Sq hm]
 grind[aJ,Op.operands]
theorem Bw{cf:br}{o:Oper}{hp:aa}(h:∀x∈o.op.operands,ρ x=ρ' x):cB P cf ρ o hp=cB P cf ρ' o hp:=by
 obtain⟨dst,op,ty,pos,after,guard⟩:=o
 cases op
 case call c=>
  obtain⟨callee,args,ats⟩:=c
  cases callee with
  | builtin b=>
   have ha:args.toList.map ρ=args.toList.map ρ':=map_congr_left λx hx=>h x (by simpa[Op.operands,Call.operands]using hx)
   cases b<;>simp only[cB,ha]
   all_goals
    split
    ·next s x t t' hx ht=>
     have h1:∀y∈args.toList,ρ y=ρ' y:=λy hy=>h y (by simpa[Op.operands,Call.operands]using hy);rw[hx]at h1;rw[h1 s (by simp),h1 x (by simp)]
    ·rfl
  |value f=>
   have ha:args.toList.map ρ=args.toList.map ρ':=map_congr_left λx hx=>h x (by simp[Op.operands,Call.operands];right;simpa using hx);simp only[cB,ha,h f (by simp[Op.operands,Call.operands])]
  |_=>rfl
 all_goals simp_all[Op.operands,cB]
end
end Go.Ab
end
section
namespace Go.Ab
open Go Region
structure ye(ops:Array Oper)(L:List Nat):Prop where
 mem:∀i,i∈L↔i<ops.size
 nodup:L.Nodup
 Sw:∀pre i suf,L=pre++i::suf->∀o,ops[i]?=some o->∀e∈o.after,binds .any e=true->e.on∈pre
theorem FC{m:Region.Mode}{e:Edge}(h:binds .any e=true):binds m e=true:=by grind[binds]
def may(m:Region.Mode)(ops:Array Oper)(listed:Array Bool)(i:Nat):Prop:=
 listed.getD i true=false/\∃o,ops[i]?=some o/\∀e∈o.after,binds m e=true->listed.getD e.on false=true
theorem oG{m:Region.Mode}{ops:Array Oper}{listed:Array Bool}{i:Nat}:
  i∈(List.range ops.size).filter (λi=> !listed.getD i true&&((ops[i]?).map (·.after.all λe=> !binds m e||listed.getD e.on false)).getD false)↔i<ops.size/\may m ops listed i:=by
 simp only[mem_filter,mem_range,and_eq_true,not_eq_true',may]
 grind[Array.all_eq_true']
def left(ops:Array Oper)(listed:Array Bool):List Nat:=(List.range ops.size).filter λi=> !listed.getD i true
theorem tP{l:Array Bool}{i j:Nat}(d:Bool)(hi:i<l.size):(l.setIfInBounds i true).getD j d=if j=i then true else l.getD j d:=by
 simp only[Array.getD_eq_getD_getElem?,Array.getElem?_setIfInBounds]
 grind
theorem AU(m:Region.Mode)(ops:Array Oper):
  ∀(fuel t:Nat)(listed:Array Bool)(acc:List Nat),listed.size=ops.size->(∀i,i∈acc↔i<ops.size/\listed.getD i true=true)->acc.Nodup->
   (∀pre i suf,acc.reverse=pre++i::suf->∀o,ops[i]?=some o->∀e∈o.after,binds m e=true->e.on∈pre)->
   let L:=linearise.go m ops fuel t listed acc
   (∀i,i∈L->i<ops.size)/\L.Nodup/\∀pre i suf,L=pre++i::suf->∀o,ops[i]?=some o->∀e∈o.after,binds m e=true->e.on∈pre
 |0,t,listed,acc,hs,ha,hn,hd=>by grind[linearise.go]
 | fuel+1,t,listed,acc,hs,ha,hn,hd=>by
  simp only[linearise.go];split
  ·next i hi=>
   have hi:=List.mem_of_getElem? hi;obtain⟨hib,hfree,o,ho,hdep⟩:=oG.1 hi;have hisz:i<listed.size:=by omega
   have hia:i∉acc:=λh=>by have:=((ha i).1 h).2;rw[hfree]at this;cases this
   have hdep':∀e∈o.after,binds m e=true->e.on∈acc.reverse:=λe he hb=>by
    rw[List.mem_reverse,ha];have hl:=hdep e he hb;have:e.on<listed.size:=by
     rcases lt_or_ge e.on listed.size with h5|h5
     ·exact h5
     ·simp[Array.getD_eq_getD_getElem?,Array.getElem?_eq_none h5]at hl
    exact⟨by omega,by simp only[Array.getD_eq_getD_getElem?,getElem?_eq_getElem this]at hl⊢;exact hl⟩
   refine AU m ops fuel (t/_) (listed.setIfInBounds i true) (i::acc) (by simpa using hs) ?_ (nodup_cons.2 ⟨hia,hn⟩) ?_
   ·intro j;rw[mem_cons,ha,tP _ hisz];constructor
    ·rintro(rfl|⟨h3,h4⟩)
     ·exact⟨hib,by simp⟩
     ·exact⟨h3,by split<;>simp_all⟩
    ·rintro⟨h3,h4⟩;split at h4
     ·next he=>exact .inl he
     ·exact .inr ⟨h3,h4⟩
   ·intro pre j suf heq o' ho' e he hb;rw[List.reverse_cons]at heq;rcases List.append_eq_append_iff.1 heq with⟨as,h3,h4⟩|⟨bs,h3,h4⟩
    ·cases as with
     |nil=>
      simp only[List.nil_append,List.cons.injEq]at h4;obtain⟨rfl,rfl⟩:=h4;rw[ho]at ho';obtain rfl:=oI ho';rw[h3,append_nil];exact hdep' e he hb
     |cons a as=>
      simp only[List.cons_append,List.cons.injEq]at h4;obtain⟨_,h4⟩:=h4;have:=congrArg List.length h4;simp at this
    ·cases bs with
     |nil=>
      simp only[List.nil_append,List.cons.injEq]at h4;obtain⟨rfl,rfl⟩:=h4;rw[ho]at ho';obtain rfl:=oI ho';have h3':pre=acc.reverse:=by simpa using h3.symm
      rw[h3'];exact hdep' e he hb
     |cons b bs=>
      simp only[List.cons_append,List.cons.injEq]at h4;obtain⟨rfl,_⟩:=h4;exact hd pre j bs h3 o' ho' e he hb
  grind
theorem IA(m:Region.Mode)(ops:Array Oper)(prog:∀listed:Array Bool,listed.size=ops.size->(∃i,i<ops.size/\listed.getD i true=false)->∃i,i<ops.size/\may m ops listed i):
  ∀(fuel t:Nat)(listed:Array Bool)(acc:List Nat),listed.size=ops.size->(left ops listed).length<=fuel->(∀i,i<ops.size->listed.getD i true=true->i∈acc)->
   ∀i,i<ops.size->i∈linearise.go m ops fuel t listed acc
 |0,t,listed,acc,hs,hl,ha=>λi h=>by simp_all[linearise.go,left]
 | fuel+1,t,listed,acc,hs,hl,ha=>by
  simp only[linearise.go];split
  ·next i hi=>
   have hi:=List.mem_of_getElem? hi;obtain⟨hib,hfree,_⟩:=oG.1 hi;have hisz:i<listed.size:=by omega
   refine IA m ops prog fuel (t/_) (listed.setIfInBounds i true) (i::acc) (by grind) ?_ ?_
   ·have hsub:∀j,j∈left ops (listed.setIfInBounds i true)->j∈left ops listed/\j≠i:=by
     intro j hj;simp only[left,mem_filter,mem_range,not_eq_true',tP _ hisz]at hj⊢;split at hj
     ·exact absurd hj.2 (by simp)
     ·next hne=>exact⟨hj,hne⟩
    have him:i∈left ops listed:=mem_filter.2 ⟨mem_range.2 hib,by rw[hfree];rfl⟩;have hnd:(left ops (listed.setIfInBounds i true)).Nodup:=List.Pairwise.filter _ List.nodup_range;have:(left ops (listed.setIfInBounds i true)).length<=((left ops listed).erase i).length:=by
     refine List.Nodup.length_le_of_subset hnd λj hj=>?_;obtain⟨h3,h4⟩:=hsub j hj;exact(List.mem_erase_of_ne h4).2 h3
    grind
   ·intro j hj hg;rw[tP _ hisz]at hg
    grind
  ·next hnone=>
   intro i hi;rw[List.mem_reverse]
   cases hg:listed.getD i true with
   |true=>grind
   |false=>
    obtain⟨i0,h1,h2⟩:=prog listed hs ⟨i,hi,hg⟩;have hmem:=oG.2 ⟨h1,h2⟩
    grind[Nat.mod_lt]
theorem A5(ops:Array Oper)(listed:Array Bool):(left ops listed).length<=ops.size:=by grind[left]
theorem wW(m:Region.Mode)(ops:Array Oper)(t:Nat):
  (∀i,i∈linearise m ops t->i<ops.size)/\(linearise m ops t).Nodup/\∀pre i suf,linearise m ops t=pre++i::suf->∀o,ops[i]?=some o->∀e∈o.after,binds m e=true->e.on∈pre:=by
 refine AU m ops ops.size t _ [] (by simp) (λi=>?_) List.nodup_nil (λpre i suf h=>by simp at h)
 simp_all
theorem Lt(m:Region.Mode)(ops:Array Oper)(t:Nat)(prog:∀listed:Array Bool,listed.size=ops.size->(∃i,i<ops.size/\listed.getD i true=false)->∃i,i<ops.size/\may m ops listed i):
  ∀i,i<ops.size->i∈linearise m ops t:=by
 refine IA m ops prog ops.size t _ [] (by simp) (A5 _ _) λi hi hg=>?_
 simp_all
def Cn(ops:Array Oper):Prop:=∀i o,ops[i]?=some o->∀e∈o.after,e.on<i\/binds .any e=false/\binds .text e=false
theorem least{p:Nat->Prop}[DecidablePred p]:∀(n:Nat),(∃i,i<n/\p i)->∃i,i<n/\p i/\∀j,j<i->¬p j
 |0,⟨_,h,_⟩=>absurd h (by omega)
 |n+1,h=>by
  by_cases h':∃i,i<n/\p i
  ·obtain⟨i,h1,h2,h3⟩:=least n h';exact⟨i,by omega,h2,h3⟩
  grind
theorem w9{m:Region.Mode}{ops:Array Oper}(hb:∀i o,ops[i]?=some o->∀e∈o.after,binds m e=true->e.on<i):
  ∀listed:Array Bool,listed.size=ops.size->(∃i,i<ops.size/\listed.getD i true=false)->∃i,i<ops.size/\may m ops listed i:=by
 intro listed hs hex;obtain⟨i,h1,h2,h3⟩:=least ops.size hex;refine⟨i,h1,h2,ops[i],getElem?_eq_getElem h1,λe he hbe=>?_⟩
 grind
theorem AN{p:Nat->Prop}[DecidablePred p]:∀(L:List Nat),(∃i∈L,p i)->∃pre i suf,L=pre++i::suf/\p i/\∀j∈pre,¬p j
 |[],⟨_,h,_⟩=>by cases h
 | x::L,h=>by
  by_cases hx:p x
  ·exact⟨[],x,L,rfl,hx,λj hj=>by grind⟩
  ·obtain⟨i,h1,h2⟩:=h;rcases mem_cons.1 h1 with rfl|h1
   ·grind
   ·obtain⟨pre,j,suf,rfl,h3,h4⟩:=AN L ⟨i,h1,h2⟩
    grind
theorem GG{m:Region.Mode}{ops:Array Oper}(hc:(linearise m ops 0).length=ops.size):
  ∀listed:Array Bool,listed.size=ops.size->(∃i,i<ops.size/\listed.getD i true=false)->∃i,i<ops.size/\may m ops listed i:=by
 intro listed hs hex;obtain⟨h1,h2,h3⟩:=wW m ops 0;have hall:∀i,i<ops.size->i∈linearise m ops 0:=by
  intro i hi;refine Classical.byContradiction λhn=>?_;have hnd:(i::linearise m ops 0).Nodup:=nodup_cons.2 ⟨hn,h2⟩;have:=List.Nodup.length_le_of_subset (l₂:=List.range ops.size) hnd λj hj=>by
   rcases mem_cons.1 hj with rfl|hj
   ·exact mem_range.2 hi
   ·exact mem_range.2 (h1 j hj)
  simp at this;omega
 obtain⟨i,hi,hf⟩:=hex;obtain⟨pre,j,suf,heq,h4,h5⟩:=AN (p:=λi=>listed.getD i true=false) _ ⟨i,hall i hi,hf⟩;have hj:j<ops.size:=h1 j (by rw[heq];simp);refine⟨j,hj,h4,ops[j],getElem?_eq_getElem hj,λe he hbe=>?_⟩;have hm:=h3 pre j suf heq _ (getElem?_eq_getElem hj) e he hbe
 grind
theorem oc{ops:Array Oper}(hb:Cn ops)(hc:departs ops=true->(linearise .gc ops 0).length=ops.size)(mixed:Bool)(t:Nat):ye ops (schedule mixed ops t):=by
 have key:∀(m:Region.Mode)(t:Nat),(∀listed:Array Bool,listed.size=ops.size->(∃i,i<ops.size/\listed.getD i true=false)->∃i,i<ops.size/\may m ops listed i)->ye ops (linearise m ops t):=by
  intro m t hp;obtain⟨h1,h2,h3⟩:=wW m ops t;exact⟨λi=>⟨h1 i,Lt m ops t hp i⟩,h2,λpre i suf h o ho e he hbe=>h3 pre i suf h o ho e he (FC hbe)⟩
 have hany:∀i o,ops[i]?=some o->∀e∈o.after,binds .any e=true->e.on<i:=λi o ho e he hbe=>by
  rcases hb i o ho e he with h|⟨h,_⟩
  all_goals grind
 have htext:∀i o,ops[i]?=some o->∀e∈o.after,binds .text e=true->e.on<i:=λi o ho e he hbe=>by
  rcases hb i o ho e he with h|⟨_,h⟩
  all_goals grind
 unfold schedule;split
 ·exact key _ _ (w9 hany)
 ·next hd=>
  split
  ·exact key _ _ (w9 htext)
  ·refine key _ _ (GG (hc ?_))
   grind
end Go.Ab
end
section
namespace Go.Ab
open Go
section
variable {P:Program} {gl:Nat->Bool}
theorem ng{e:Value->Value->Bool}(he:∀a b,e a b=true->a=b):∀{x y:List Value},EA e x y=true->x=y
 |[],[],_=>rfl
 |[],_::_,h=>by grind[EA]
 |_::_,[],h=>by grind[EA]
 |a::x,b::y,h=>by
  simp only[EA,and_eq_true]at h;rw[he a b h.1,ng he h.2]
theorem jf:∀(d:Nat)(a b:Value),jB d a b=true->a=b
 |0,_,_,h=>by grind[jB]
 | d+1,a,b,h=>by
  have ih:=jf d;have hl:∀{x y:Array Value},EA (jB d) x.toList y.toList=true->x=y:=λhxy=>Array.ext' (ng ih hxy);unfold jB at h;split at h
  ·simpa using h
  ·simp only[and_eq_true,decide_eq_true_eq]at h;rw[h.1,h.2]
  ·next x y=>
   simp only[decide_eq_true_eq]at h;have:x=y:=by
    obtain⟨x⟩:=x;obtain⟨y⟩:=y;congr 1;exact Array.ext' h
   rw[this]
  all_goals grind
structure sW(ops:Array Oper)(bf:Nat->Nat->Bool):Prop where
 lt:∀j i,bf j i=true->i<j
 trans:∀k j i,bf k j=true->bf j i=true->bf k i=true
 Ha:∀L,ye ops L->∀pre j suf,L=pre++j::suf->∀i,bf j i=true->i∈pre
 names:∀(j:Nat)(o:Oper)(t:Tmp),ops[j]?=some o->Operand.tmp t∈o.op.operands->∀(i:Nat)(o':Oper),ops[i]?=some o'->o'.dst=some t->i=j\/bf j i=true\/bf i j=true
 guards:∀(j:Nat)(o:Oper)(i:Nat)(b:Bool),ops[j]?=some o->o.guard=some (i,b)->bf j i=true
 uniq:∀(i j:Nat)(o o':Oper)(t:Tmp),ops[i]?=some o->ops[j]?=some o'->o.dst=some t->o'.dst=some t->i=j
abbrev Co:=List Value×aa×List (Nat×bt)
def One(P:Program)(gl:Nat->Bool)(cf:br)(ops:Array Oper)(bf:Nat->Nat->Bool)(base j:Nat)(o:Oper)(s:Co)(e:iF)(s':Co):Prop:=
 match e with
 |.skip=>du ops s.1 o=some false/\s'=(eB s.1 o.dst undef,s.2.1,s.2.2)
 |.pure v=>du ops s.1 o=some true/\aK P (ev gl s.1) o=some v/\s'=(eB s.1 o.dst v,s.2.1,s.2.2)
 |.read v=>du ops s.1 o=some true/\aT P (ev gl s.1) o s.2.1=some v/\s'=(eB s.1 o.dst v,s.2.1,s.2.2)
 |.alloc B v=>du ops s.1 o=some true/\(∃f,aJ P (ev gl s.1) o=some (B,f)/\v=f (base+j))/\s'=(eB s.1 o.dst v,s.2.1,(j,B)::s.2.2)
 | .nR v h'=>du ops s.1 o=some true/\(∃u,cB P cf (ev gl s.1) o (aV s.2.1 base (s.2.2.filter λp=>bf j p.1))=some (v,u)/\h'=u.app (aV s.2.1 base (s.2.2.filter λp=>bf j p.1)))/\
   s'=(eB s.1 o.dst v,h',s.2.2.filter λp=> !bf j p.1)
theorem mA{cf:br}{ops:Array Oper}{bf:Nat->Nat->Bool}{base:Nat}:∀(rest:List Oper)(j:Nat)(s:Co)(recs:List (List Value×iF))(out:Co),
  cw P gl cf ops bf base rest j s.1 s.2.1 s.2.2=some (recs,out)->∃(st:Nat->Co)(en:Nat->iF),st j=s/\st (j+rest.length)=out/\recs.length=rest.length/\
   ∀i o,rest[i]?=some o->One P gl cf ops bf base (j+i) o (st (j+i)) (en (j+i)) (st (j+i+1))/\recs[i]?=some ((st (j+i)).1,en (j+i))
 |[],j,s,recs,out,h=>by
  simp only[cw,Option.some.injEq,Prod.mk.injEq]at h;obtain⟨rfl,rfl⟩:=h;exact⟨λ_=>s,λ_=> .skip,rfl,rfl,rfl,λi o ho=>by grind⟩
 | o::rest,j,s,recs,out,h=>by
  have key:∀(e:iF)(s':Co)(r:List (List Value×iF)×Co),One P gl cf ops bf base j o s e s'->cw P gl cf ops bf base rest (j+1) s'.1 s'.2.1 s'.2.2=some r->((s.1,e)::r.1,r.2)=(recs,out)->
    ∃(st:Nat->Co)(en:Nat->iF),st j=s/\st (j+(o::rest).length)=out/\recs.length=(o::rest).length/\
     ∀i o',(o::rest)[i]?=some o'->One P gl cf ops bf base (j+i) o' (st (j+i)) (en (j+i)) (st (j+i+1))/\recs[i]?=some ((st (j+i)).1,en (j+i)):=by
   intro e s' r hone hr heq;obtain⟨st,en,h1,h2,h3,h4⟩:=mA rest (j+1) s' r.1 r.2 hr;simp only[Prod.mk.injEq]at heq;obtain⟨rfl,rfl⟩:=heq;refine⟨λi=>if i=j then s else st i,λi=>if i=j then e else en i,by simp,?_,by grind,?_⟩
   ·grind
   ·grind
  simp only[cw]at h;split at h
  ·cases h
  ·next hw=>
   obtain⟨r,hr,he⟩:=map_eq_some_iff.1 h;exact key .skip (eB s.1 o.dst undef,s.2.1,s.2.2) r ⟨hw,rfl⟩ hr he
  ·next hw=>
   split at h
   ·next v hv=>
    obtain⟨r,hr,he⟩:=map_eq_some_iff.1 h;exact key (.pure v) (eB s.1 o.dst v,s.2.1,s.2.2) r ⟨hw,hv,rfl⟩ hr he
   ·split at h
    ·next v hv=>
     obtain⟨r,hr,he⟩:=map_eq_some_iff.1 h;exact key (.read v) (eB s.1 o.dst v,s.2.1,s.2.2) r ⟨hw,hv,rfl⟩ hr he
    ·split at h
     ·next B f hv=>
      obtain⟨r,hr,he⟩:=map_eq_some_iff.1 h;exact key (.alloc B (f (base+j))) (eB s.1 o.dst (f (base+j)),s.2.1,(j,B)::s.2.2) r ⟨hw,⟨f,hv,rfl⟩,rfl⟩ hr he
     ·split at h
      ·next v u hv=>
       obtain⟨r,hr,he⟩:=map_eq_some_iff.1 h;exact key (.nR v _) (eB s.1 o.dst v,_,_) r ⟨hw,⟨u,hv,rfl⟩,rfl⟩ hr he
      grind
def iF.dh:iF->Bool
 |.nR .. =>true
 |_=>false
structure En(P:Program)(gl:Nat->Bool)(cf:br)(ops:Array Oper)(bf:Nat->Nat->Bool)(base:Nat)(st:Nat->Co)(en:Nat->iF):Prop where
 one:∀i o,ops[i]?=some o->One P gl cf ops bf base i o (st i) (en i) (st (i+1))
 chain:∀e₁ e₂,e₁<e₂->e₂<ops.size->(en e₁).dh=true->(en e₂).dh=true->bf e₂ e₁=true
 reads:∀j o v,ops[j]?=some o->en j = .read v->∀c,c<=ops.size->(∀e,e<c->(en e).dh=true->bf e j=false)->(∀e,c<=e->e<ops.size->(en e).dh=true->bf j e=false)->
  aT P (ev gl (st j).1) o (st c).2.1=some v
section
variable {cf:br} {ops:Array Oper} {bf:Nat->Nat->Bool} {base:Nat} {st:Nat->Co} {en:Nat->iF}
theorem One.heap{j:Nat}{o:Oper}{s s':Co}{e:iF}(h:One P gl cf ops bf base j o s e s'):(∀v h',e = .nR v h'->s'.2.1=h')/\(e.dh=false->s'.2.1=s.2.1):=by
 cases e<;>simp only[One]at h
 all_goals grind[iF.dh]
theorem One.tm{j:Nat}{o:Oper}{s s':Co}{e:iF}(h:One P gl cf ops bf base j o s e s'):s'.1=eB s.1 o.dst e.val:=by
 cases e<;>simp only[One]at h
 ·rw[h.2];rfl
 ·rw[h.2.2];rfl
 ·rw[h.2.2];rfl
 ·rw[h.2.2];rfl
 ·rw[h.2.2];rfl
theorem kK(trans:∀k j i,bf k j=true->bf j i=true->bf k i=true):∀(recs:List (List Value×iF))(i x:Nat)(hx:aa),chained bf ((x,hx)::cT recs i)=true->
  ∀k r,recs[k]?=some r->r.2.dh=true->bf (i+k) x=true
 |[],i,x,hx,h,k,r,hr,he=>by grind
 | (tm,e)::recs,i,x,hx,h,k,r,hr,he=>by
  cases e with
  | nR v h'=>
   simp only[cT,chained,and_eq_true]at h
   cases k with
   |zero=>grind
   |succ k=>
    have:=kK trans recs (i+1) i h' h.2 k r (by simpa using hr) he
    grind
  | _=>
   simp only[cT]at h
   cases k with
   |zero=>grind[iF.dh]
   |succ k=>
    have:=kK trans recs (i+1) x hx h k r (by simpa using hr) he
    grind
theorem yk{x:Nat×aa}{l:List (Nat×aa)}(h:chained bf (x::l)=true):chained bf l=true:=by
 cases l with
 |nil=>rfl
 |cons y l=>simp_all[chained]
theorem nQ(trans:∀k j i,bf k j=true->bf j i=true->bf k i=true):∀(recs:List (List Value×iF))(i:Nat),chained bf (cT recs i)=true->
  ∀k₁ k₂ r₁ r₂,k₁<k₂->recs[k₁]?=some r₁->recs[k₂]?=some r₂->r₁.2.dh=true->r₂.2.dh=true->bf (i+k₂) (i+k₁)=true
 |[],i,h,k₁,k₂,r₁,r₂,hlt,h1,h2,e1,e2=>by grind
 | (tm,e)::recs,i,h,k₁,k₂,r₁,r₂,hlt,h1,h2,e1,e2=>by
  cases k₂ with
  |zero=>omega
  | succ k₂=>
   have h2':recs[k₂]?=some r₂:=by simpa using h2
   cases k₁ with
   |zero=>
    simp only[List.getElem?_cons_zero,Option.some.injEq]at h1;subst h1
    cases e with
    |nR v h'=>grind[kK,cT]
    |_=>grind[iF.dh]
   | succ k₁=>
    have ht:chained bf (cT recs (i+1))=true:=by
     cases e with
     |nR v h'=>simp only[cT]at h;exact yk h
     |_=>simpa only[cT]using h
    have:=nQ trans recs (i+1) ht k₁ k₂ r₁ r₂ (by omega) (by simpa using h1) h2' e1 e2
    grind
theorem mW{o:Oper}{tm:List Value}{v:Value}{h:aa}(hs:fu P gl o tm v h=true):aT P (ev gl tm) o h=some v:=by grind[jf,fu]
theorem iZ{j:Nat}{o:Oper}{tm:List Value}{v:Value}{N:Nat}(hj:j<N)(hown:∀c,c<=N->(∀e,j<=e->e<c->(en e).dh=false)->(∀e,c<=e->e<j->(en e).dh=false)->aT P (ev gl tm) o (st c).2.1=some v):
  ∀(recs:List (List Value×iF))(i:Nat)(own:Bool),(∀k r,recs[k]?=some r->r.2=en (i+k))->i+recs.length=N->
  (∀k,i<=k->k<i+recs.length->(∀v h',en k = .nR v h'->(st (k+1)).2.1=h')/\((en k).dh=false->(st (k+1)).2.1=(st k).2.1))->
  (own=true->∀e,j<=e->e<i->(en e).dh=false)->
  gG P gl bf j o tm v (st i).2.1 (cT recs i) own=true->∀c,i<=c->c<=i+recs.length->(∀e,i<=e->e<c->(en e).dh=true->bf e j=false)->
  (∀e,c<=e->e<i+recs.length->(en e).dh=true->bf j e=false)->aT P (ev gl tm) o (st c).2.1=some v
 |[],i,own,hen,hN,hst,hp,h,c,h1,h2,h3,h4=>by
  simp only[cT,gG,Bool.or_eq_true]at h;simp only[length_nil]at h2 hN
  grind[mW]
 | (tm',e)::recs,i,own,hen,hN,hst,hp,h,c,h1,h2,h3,h4=>by
  simp only[length_cons]at h2 h4 hst hN;have he:e=en i:=hen 0 (tm',e) rfl;have hen':∀k r,recs[k]?=some r->r.2=en (i+1+k):=λk r hr=>by
   rw[show i+1+k=i+(k+1) by omega];exact hen (k+1) r (by grind)
  have hst':∀k,i+1<=k->k<i+1+recs.length->_:=λk hk1 hk2=>hst k (by omega) (by omega)
  cases hef:e.dh with
  | true=>
   cases e with
   | nR u h'=>
    simp only[cT,gG,and_eq_true,Bool.or_eq_true]at h;have hi:=(hst i (by omega) (by omega)).1 u h' he.symm;by_cases hc:c=i
    ·grind[blt_eq,mW]
    ·rcases h.2 with h5|h5
     ·grind
     ·rw[<-hi]at h5;refine iZ hj hown recs (i+1) _ hen' (by omega) hst' ?_ h5 c (by omega) (by omega) (λe he1 he2=>h3 e (by omega) he2) (λe he1 he2=>h4 e he1 (by omega))
      grind[blt_eq]
   |_=>grind[iF.dh]
  | false=>
   have hi:=(hst i (by omega) (by omega)).2 (by grind);have h5:gG P gl bf j o tm v (st (i+1)).2.1 (cT recs (i+1)) own=true:=by
    rw[hi]
    cases e with
    |nR u h'=>grind[iF.dh]
    |_=>grind[cT]
   have hp':own=true->∀e,j<=e->e<i+1->(en e).dh=false:=λho e' he1 he2=>by grind
   by_cases hc:c=i
   ·subst hc;rw[<-hi];exact iZ hj hown recs (c+1) own hen' (by omega) hst' hp' h5 (c+1) (by omega) (by omega) (λe he1 he2=>by omega) (λe he1 he2=>h4 e (by omega) (by omega))
   ·exact iZ hj hown recs (i+1) own hen' (by omega) hst' hp' h5 c (by omega) (by omega) (λe he1 he2=>h3 e (by omega) he2) (λe he1 he2=>h4 e he1 (by omega))
theorem ob{hp:aa}{es:List (Nat×aa)}:∀(os:List Oper)(recs:List (List Value×iF))(j:Nat),eC P gl bf hp es os recs j=true->
  ∀(i:Nat)(o:Oper)(tm:List Value)(v:Value),os[i]?=some o->recs[i]?=some (tm,.read v)->gG P gl bf (j+i) o tm v hp es true=true
 |[],_,_,_,i,o,tm,v,ho,_=>by grind
 |_::_,[],_,_,i,o,tm,v,_,hr=>by grind
 | o'::os,(tm',e)::recs,j,h,i,o,tm,v,ho,hr=>by
  have ht:eC P gl bf hp es os recs (j+1)=true:=by
   cases e<;>simp only[eC,and_eq_true]at h<;>first|exact h|grind
  cases i with
  |zero=>simp_all[eC]
  |succ i=>
   have:=ob os recs (j+1) ht i o tm v (by simpa using ho) (by simpa using hr)
   grind
theorem As(hO:sW ops bf){tm tm':List Value}{h h':aa}(hr:nf P gl cf ops bf tm h=some (tm',h')):
  ∃st en,En P gl cf ops bf h.next st en/\st 0=(tm,{ h with next:=h.next+ops.size },[])/\(st ops.size).1=tm'/\h'=aV (st ops.size).2.1 h.next (st ops.size).2.2:=by
 unfold nf at hr;split at hr
 ·next recs tm2 h2 pd hd=>
  split at hr
  ·next hck=>
   simp only[and_eq_true]at hck;simp only[Option.some.injEq,Prod.mk.injEq]at hr;obtain⟨rfl,rfl⟩:=hr;obtain⟨st,en,h1,h2',h3,h4⟩:=mA (P:=P) (gl:=gl) (cf:=cf) ops.toList 0 (tm,{ h with next:=h.next+ops.size },[]) recs (tm2,h2,pd) hd;simp only[zero_add,length_toList,getElem?_toList]at h2' h3 h4;refine⟨st,en,⟨λi o ho=>(h4 i o ho).1,?_,?_⟩,h1,by rw[h2'],by rw[h2']⟩
   ·intro e₁ e₂ hlt hsz i1 i2;have:=nQ hO.trans recs 0 hck.1 e₁ e₂ _ _ hlt (h4 e₁ _ (getElem?_eq_getElem (by omega))).2 (h4 e₂ _ (getElem?_eq_getElem hsz)).2 i1 i2;simpa using this
   ·intro j o v ho hen c hc hb1 hb2;have hrec:=(h4 j o ho).2;rw[hen]at hrec;have h5:=ob ops.toList recs 0 hck.2 j o _ v (by simpa using ho) hrec;rw[zero_add]at h5;have h0:(st 0).2.1={ h with next:=h.next+ops.size }:=by rw[h1]
    rw[<-h0]at h5;have hheap:∀c d,c+d<=ops.size->(∀e,c<=e->e<c+d->(en e).dh=false)->(st (c+d)).2.1=(st c).2.1:=by
     intro c d
     induction d with
     |zero=>intros;rfl
     |succ d ih=>
      intro hs hn;have:=((h4 (c+d) _ (getElem?_eq_getElem (by omega))).1).heap.2 (hn (c+d) (by omega) (by omega));rw[show c+(d+1)=c+d+1 by omega,this];exact ih (by omega) λe he1 he2=>hn e he1 (by omega)
    have hjs:j<ops.size:=(Array.getElem?_eq_some_iff.1 ho).1;have hone:=(h4 j o ho).1;rw[hen]at hone;simp only[One]at hone;refine iZ (st:=st) (en:=en) hjs ?_ recs 0 true (λk r hk=>by
      have hlt:k<ops.size:=by rw[<-h3];exact(List.getElem?_eq_some_iff.1 hk).1
      have:=(h4 k _ (getElem?_eq_getElem hlt)).2;rw[this]at hk;obtain rfl:=oI hk;simp) (by omega)
     (λk _ hk=>by
      have hlt:k<ops.size:=by omega
      exact((h4 k _ (getElem?_eq_getElem hlt)).1).heap) (λ_ e _ he=>by omega) h5 c (by omega) (by omega) (λe _=>hb1 e) (λe he1 he2=>hb2 e he1 (by omega))
    intro c hc hn1 hn2;rcases lt_or_ge j c with hlt|hge
    ·have:=hheap j (c-j) (by omega) λe he1 he2=>hn1 e he1 (by omega);rw[show j+(c-j)=c by omega]at this;rw[this];exact hone.2.1
    ·have:=hheap c (j-c) (by omega) λe he1 he2=>hn2 e he1 (by omega);rw[show c+(j-c)=j by omega]at this;rw[<-this];exact hone.2.1
  ·cases hr
 grind
end
end
section
variable {P:Program} {gl:Nat->Bool}
theorem jq{h:aa}{base:Nat}:∀(R:List (Nat×bt)),(∀i B B',(i,B)∈R->(i,B')∈R->B=B')->(∀i B,(i,B)∈R->h.get (base+i)=none)->
  ∀k B,(aV h base R).get k=some B↔h.get k=some B\/ ∃i,k=base+i/\(i,B)∈R
 |[],_,_,k,B=>by simp[aV]
 |(j,B₀)::R,hf,hn,k,B=>by
  have ih:=jq R (λi B B' h1 h2=>hf i B B' (List.mem_cons_of_mem _ h1) (List.mem_cons_of_mem _ h2)) (λi B h1=>hn i B (List.mem_cons_of_mem _ h1)) k B;simp only[aV,aa.aR]
  grind
theorem ee{h:aa}{base:Nat}:∀(R:List (Nat×bt)),(aV h base R).next=h.next
 |[]=>rfl
 |_::R=>ee R
theorem ga(tm:List Value)(d:Option Tmp)(v:Value):(eB tm d v).length=tm.length:=by cases d<;>simp[eB]
theorem zi{tm:List Value}{d:Option Tmp}{v:Value}{t:Tmp}(h:d≠some t):(eB tm d v)[t]?=tm[t]?:=by
 cases d with
 |none=>rfl
 |some d=>simp_all[eB]
theorem xd{tm:List Value}{v:Value}{t:Tmp}(h:t<tm.length):(eB tm (some t) v)[t]?=some v:=by grind[eB]
section
variable {cf:br} {ops:Array Oper} {bf:Nat->Nat->Bool} {base:Nat} {st:Nat->Co} {en:Nat->iF}
theorem En.hJ(hR:En P gl cf ops bf base st en):∀i,i<=ops.size->(st i).1.length=(st 0).1.length
 |0,_=>rfl
 |i+1,h=>by
  rw[(hR.one i _ (getElem?_eq_getElem (by omega))).tm,ga];exact hR.hJ i (by omega)
theorem En.D4(hR:En P gl cf ops bf base st en)(t:Tmp):∀i,i<=ops.size->(∀(i':Nat)(o':Oper),i'<i->ops[i']?=some o'->o'.dst≠some t)->(st i).1[t]?=(st 0).1[t]?
 |0,_,_=>rfl
 |i+1,h,hn=>by
  have ho:=getElem?_eq_getElem (xs:=ops) (i:=i) (by omega);rw[(hR.one i _ ho).tm,zi (hn i _ (by omega) ho)];exact hR.D4 t i (by omega) λi' o' h1 h2=>hn i' o' (by omega) h2
theorem En.zs(hO:sW ops bf)(hR:En P gl cf ops bf base st en){t:Tmp}(ht:t<(st 0).1.length){i':Nat}{o':Oper}(ho':ops[i']?=some o')(hd:o'.dst=some t):∀i,i<=ops.size->i'<i->(st i).1[t]?=some (en i').val
 |0,_,h=>absurd h (by omega)
 |i+1,h,hlt=>by
  have ho:=getElem?_eq_getElem (xs:=ops) (i:=i) (by omega);rw[(hR.one i _ ho).tm];by_cases he:i'=i
  ·subst he;rw[ho']at ho;obtain rfl:=oI ho;rw[hd,xd (by rw[hR.hJ _ (by omega)];omega)]
  ·rw[zi λhd2=>he (hO.uniq i' i o' _ t ho' ho hd hd2)];exact hR.zs hO ht ho' hd i (by omega) (by omega)
theorem En.qU(hR:En P gl cf ops bf base st en){c:Nat}:∀(d:Nat),c+d<=ops.size->(∀e,c<=e->e<c+d->(en e).dh=false)->(st (c+d)).2.1=(st c).2.1
 |0,_,_=>rfl
 |d+1,h,hn=>by
  rw[show c+(d+1)=c+d+1 by omega,(hR.one (c+d) _ (getElem?_eq_getElem (by omega))).heap.2 (hn _ (by omega) (by omega))];exact hR.qU d (by omega) λe h1 h2=>hn e h1 (by omega)
def rX(bf:Nat->Nat->Bool)(en:Nat->iF)(c i:Nat)(B:bt):Prop:=(∃v,en i = .alloc B v)/\∀e,e<c->(en e).dh=true->bf e i=false
theorem En.Oa(hO:sW ops bf)(hR:En P gl cf ops bf base st en)(h0:(st 0).2.2=[]):∀m,m<=ops.size->∀i B,(i,B)∈(st m).2.2↔i<m/\rX bf en m i B
 |0,_,i,B=>by grind
 | m+1,h,i,B=>by
  have ih:=hR.Oa hO h0 m (by omega) i B;have hone:=hR.one m _ (getElem?_eq_getElem (by omega));have calm:(en m).dh=false->(∀B v,en m≠ .alloc B v)->(i<m+1/\rX bf en (m+1) i B↔i<m/\rX bf en m i B):=λhne hna=>by
   constructor
   ·rintro⟨h1,⟨v,h2⟩,h3⟩;refine⟨?_,⟨v,h2⟩,λe he=>h3 e (by omega)⟩
    grind
   ·rintro⟨h1,h2,h3⟩;refine⟨by omega,h2,λe he hef=>?_⟩
    grind
  cases hm:en m with
  |skip=>
   rw[hm]at hone;simp only[One]at hone;rw[hone.2,ih,calm (by rw[hm];rfl) (by grind)]
  |pure v=>
   rw[hm]at hone;simp only[One]at hone;rw[hone.2.2,ih,calm (by rw[hm];rfl) (by grind)]
  |read v=>
   rw[hm]at hone;simp only[One]at hone;rw[hone.2.2,ih,calm (by rw[hm];rfl) (by grind)]
  | alloc B₀ v=>
   rw[hm]at hone;simp only[One]at hone;rw[hone.2.2];simp only[mem_cons,Prod.mk.injEq];rw[ih];constructor
   ·rintro(⟨rfl,rfl⟩|⟨h1,h2,h3⟩)
    ·refine⟨by omega,⟨v,hm⟩,λe he _=>?_⟩
     cases hb:bf e i with
     |false=>rfl
     |true=>have:=hO.lt _ _ hb;omega
    ·refine⟨by omega,h2,λe he hef=>?_⟩;rcases lt_or_ge e m with h4|h4
     ·grind
     ·obtain rfl:e=m:=by omega
      rw[hm]at hef;cases hef
   ·rintro⟨h1,⟨v',h2⟩,h3⟩;rcases lt_or_ge i m with h4|h4
    ·exact .inr ⟨h4,⟨v',h2⟩,λe he=>h3 e (by omega)⟩
    grind
  | nR v h'=>
   rw[hm]at hone;simp only[One]at hone;rw[hone.2.2];simp only[mem_filter,not_eq_true'];rw[ih];constructor
   ·rintro⟨⟨h1,h2,h3⟩,h4⟩;refine⟨by omega,h2,λe he hef=>?_⟩
    grind
   ·rintro⟨h1,⟨v',h2⟩,h3⟩;have hlt:i<m:=by
     rcases lt_or_ge i m with h5|h5
     ·omega
     ·grind
    exact⟨⟨hlt,⟨v',h2⟩,λe he=>h3 e (by omega)⟩,h3 m (by omega) (by rw[hm];rfl)⟩
def Hr(ops:Array Oper)(en:Nat->iF)(tm₀:List Value)(S:List Nat)(β:cp)(a:Act):Prop:=
 a.tmps.size=tm₀.length/\∀(t:Tmp)(v':Value),a.tmps[t]?=some v'->(∀(i:Nat)(o:Oper),i∈S->ops[i]?=some o->o.dst=some t->au β (en i).val v')/\
  ((∀(i:Nat)(o:Oper),i∈S->ops[i]?=some o->o.dst≠some t)->∀v,tm₀[t]?=some v->au β v v')
theorem Hr.mono{tm₀:List Value}{S:List Nat}{β β':cp}{a:Act}(h:Hr ops en tm₀ S β a)(hle:β.le β'):Hr ops en tm₀ S β' a:=
 ⟨h.1,λt v' hv=>⟨λi o h1 h2 h3=>((h.2 t v' hv).1 i o h1 h2 h3).mono hle,λh1 v h2=>((h.2 t v' hv).2 h1 v h2).mono hle⟩⟩
theorem Hr.put(hO:sW ops bf){tm₀:List Value}{S:List Nat}{β:cp}{a:Act}(h:Hr ops en tm₀ S β a){j:Nat}{o:Oper}(ho:ops[j]?=some o){v':Value}(hv:au β (en j).val v'):Hr ops en tm₀ (S++[j]) β (a.put o.dst v'):=by
 refine⟨by cases hd:o.dst<;>simp[Act.put,h.1],λt u hu=>?_⟩;by_cases hd:o.dst=some t
 ·have hut:u=v':=by
   rw[hd]at hu;simp only[Act.put,Array.getElem?_setIfInBounds,if_true]at hu;split at hu
   ·exact(oI hu).symm
   ·cases hu
  subst hut;refine⟨λi o' _ h2 h3=>?_,λhno=>absurd hd (hno j o (by simp) ho)⟩;obtain rfl:=hO.uniq i j o' o t h2 ho h3 hd;omega
 ·have hu':a.tmps[t]?=some u:=by
   cases hdd:o.dst with
   |none=>rw[hdd]at hu;exact hu
   |some d=>
    rw[hdd]at hu hd;simp only[Act.put,Array.getElem?_setIfInBounds]at hu;rw[if_neg (by rintro rfl;exact hd rfl)]at hu;exact hu
  obtain⟨h1,h2⟩:=h.2 t u hu'
  grind
theorem Hr.Th(hO:sW ops bf)(hR:En P gl cf ops bf base st en){L pre suf:List Nat}{j:Nat}(hL:ye ops L)(he:L=pre++j::suf){β:cp}{a:Act}(h:Hr ops en (st 0).1 pre β a)(hg:Gl gl β){o:Oper}(ho:ops[j]?=some o):
  ∀x∈o.op.operands,au β (ev gl (st j).1 x) (a.eval x):=by
 have hjs:j<ops.size:=(Array.getElem?_eq_some_iff.1 ho).1;intro x hx
 cases x with
 | tmp t=>
  simp only[ev,Act.eval];by_cases ht:t<(st 0).1.length
  ·have hta:t<a.tmps.size:=by rw[h.1];exact ht
   obtain⟨h1,h2⟩:=h.2 t _ (getElem?_eq_getElem hta);rw[Array.getD_eq_getD_getElem?,getElem?_eq_getElem hta,getD_some];by_cases hw:∃(i:Nat)(o':Oper),i∈pre/\ops[i]?=some o'/\o'.dst=some t
   ·obtain⟨i,o',hi,ho',hd⟩:=hw;have hlt:i<j:=by
     rcases hO.names j o t ho hx i o' ho' hd with rfl|hb|hb
     ·have:=hL.nodup;rw[he]at this;exact absurd rfl (List.nodup_append.1 this |>.2.2 i hi i List.mem_cons_self)
     ·exact hO.lt _ _ hb
     ·obtain⟨p1,p2,rfl⟩:=List.append_of_mem hi;have:=hO.Ha L hL p1 i (p2++j::suf) (by rw[he];simp) j hb;have hnd:=hL.nodup;rw[he]at hnd;exact absurd rfl ((List.nodup_append.1 hnd).2.2 j (mem_append_left _ this) j List.mem_cons_self)
    rw[gD,hR.zs hO ht ho' hd j (by omega) hlt]
    grind
   ·have hold:=hR.D4 t j (by omega) λi' o' hlt ho' hd=>by
     rcases hO.names j o t ho hx i' o' ho' hd with rfl|hb|hb
     ·omega
     ·exact hw ⟨i',o',hO.Ha L hL pre j suf he i' hb,ho',hd⟩
     ·have:=hO.lt _ _ hb;omega
    grind
  ·have hta:¬t<a.tmps.size:=by rw[h.1];exact ht
   rw[gD,getElem?_eq_none (by rw[hR.hJ j (by omega)];grind),Array.getD_eq_getD_getElem?,Array.getElem?_eq_none (Nat.le_of_not_lt hta)];exact .undef β
 |const v=>
  simp only[ev,Act.eval];split
  ·next hp=>exact .jv hp
  ·exact .eu v
 | global g=>
  simp only[ev,Act.eval];split
  ·next hp=>
   obtain⟨sl,h1,h2,h3,h4⟩:=hg g hp;have:=au.ptr (i:=0) h1 h4
   grind
  ·exact .eu _
 |func f=>
  simp only[ev,Act.eval];exact .func rfl rfl rfl (λi v v' h=>by grind) (λi v v' h=>by grind)
theorem Hr.wanted(hO:sW ops bf)(hR:En P gl cf ops bf base st en){L pre suf:List Nat}{j:Nat}(hL:ye ops L)(he:L=pre++j::suf){β:cp}{a:Act}(h:Hr ops en (st 0).1 pre β a){o:Oper}(ho:ops[j]?=some o){b:Bool}
  (hw:du ops (st j).1 o=some b):Region.wanted o (yielded ops a.tmps)=b:=by
 have hjs:j<ops.size:=(Array.getElem?_eq_some_iff.1 ho).1;unfold du at hw;unfold Region.wanted;split at hw
 ·grind
 ·next i want hg=>
  rw[hg];simp only[yielded];have hb:=hO.guards j o i want ho hg;have hi:=hO.Ha L hL pre j suf he i hb;split at hw
  ·next d hd=>
   rw[hd];simp only[Option.bind_some];obtain⟨oi,hoi,hdi⟩:=Option.bind_eq_some_iff.1 hd;have hval:∀v,(st j).1[d]?=some v->v=(en i).val/\∃v',a.tmps[d]?=some v'/\au β v v':=by
    intro v hv;have hdl:d<(st 0).1.length:=by rw[<-hR.hJ j (by omega)];exact(List.getElem?_eq_some_iff.1 hv).1
    have hda:d<a.tmps.size:=by rw[h.1];exact hdl
    have:=hR.zs hO hdl hoi hdi j (by omega) (hO.lt _ _ hb);rw[this]at hv;obtain rfl:=oI hv;exact⟨rfl,_,getElem?_eq_getElem hda,(h.2 d _ (getElem?_eq_getElem hda)).1 i oi hi hoi hdi⟩
   split at hw
   ·next b' hb'=>
    obtain⟨_,v',h1,h2⟩:=hval _ (wS hb');rw[h2.fM]at h1;rw[h1];simp only[Option.some.injEq]at hw;subst hw
    cases b'<;>cases want<;>rfl
   ·next vs hb'=>
    simp only[Option.some.injEq]at hw;subst hw;rcases tQ hb' with hb'|hb'
    ·obtain⟨_,v',h1,h2⟩:=hval _ hb';obtain⟨vs',rfl,_⟩:=h2.nj;rw[h1];rfl
    ·have hdn:a.tmps[d]?=none:=Array.getElem?_eq_none (by rw[h.1,<-hR.hJ j (by omega)];exact List.getElem?_eq_none_iff.1 hb');rw[hdn];rfl
   ·cases hw
  grind
end
end
section
variable {β:cp} {P:Program} {gl:Nat->Bool}
theorem qX{r:Option Nat}{n:Nat}{o:Oper}{a:Act}{w w':World}{v':Value}(hnd:∀c,o.op≠ .defer c)(hrun:(execOp a.eval o).run P w = .ok (.value v') w'){next:Act->World->Prop}{Q:Exit->Act->World->Prop}
  (h:next (a.put o.dst v') w'):o.wpIn (fG r) n P a w next Q:=by
 refine⟨λ_ _=>trivial,?_⟩;rw[Oper.semAt_eq _ _ _ hnd,hrun];exact h
theorem Ic(hN:cV P){cf:br}(hcf:ke P gl cf){r:Option Nat}{n:Nat}{ρ:Operand->Value}{a:Act}{h:aa}{w:World}{o:Oper}{v:Value}{u:cL}(hs:fK β h w)(hg:Gl gl β)(hρ:∀x,au β (ρ x) (a.eval x))
  (hr:cB P cf ρ o h=some (v,u)) (next:Act->World->Prop) (Q:Exit->Act->World->Prop)
  (hk:∀v' w' β',Step β h w β' (u.app h) w'->au β' v v'->next (a.put o.dst v') w'):o.wpIn (fG r) n P a w next Q:=by
 refine⟨λ_ _=>trivial,?_⟩;have hnd:∀c,o.op≠ .defer c:=by
  intro c hc;simp[cB,hc]at hr
 rw[Oper.semAt_eq _ _ _ hnd];by_cases hc:aI o=false
 ·obtain⟨v',w',β',h1,h2,h3⟩:=qN hρ hc hs hr;rcases h1 with h1|⟨h1,rfl⟩
  ·rw[h1];exact hk v' w' β' h2 h3
  ·rw[h1];exact hk undef w' β' h2 h3
 ·unfold aI at hc;split at hc
  ·next f args ats ho=>
   simp only[cB,ho]at hr;exact Ah hN hcf ho hs hg hρ hr next Q hk
  grind
open Classical in
noncomputable def only(o:Oper)(ρ:Operand->Value):Operand->Value:=λx=>if x∈o.op.operands then ρ x else eu
theorem sD{o:Oper}{ρ:Operand->Value}:∀x∈o.op.operands,ρ x=only o ρ x:=λx hx=>by grind[only]
theorem I8{o:Oper}{ρ ρ':Operand->Value}(h:∀x∈o.op.operands,au β (ρ x) (ρ' x)):∀x,au β (only o ρ x) (ρ' x):=λx=>by
 unfold only;split
 ·grind
 ·exact .eu _
section
variable {cf:br} {ops:Array Oper} {bf:Nat->Nat->Bool} {st:Nat->Co} {en:Nat->iF}
structure Inv(ops:Array Oper)(bf:Nat->Nat->Bool)(st:Nat->Co)(en:Nat->iF)(β₀:cp)(h:aa)(w₀:World)(a₀:Act)(pre:List Nat)(β:cp)(w:World)(a:Act)(c:Nat)(R:List (Nat×bt)):Prop where
 le:c<=ops.size
 vM:∀e,e<ops.size->(en e).dh=true->(e∈pre↔e<c)
 mem:∀i B,(i,B)∈R↔i∈pre/\rX bf en c i B
 step:Step β₀ h w₀ β (aV (st c).2.1 h.next R) w
 room:h.next+ops.size<=(st c).2.1.next
 Bt:∀i B,i<ops.size->(st c).2.1.get (h.next+i)=some B->∃e,e<c/\(en e).dh=true/\bf e i=true
 free:∀i,i<ops.size->i∉pre->(∃B v,en i = .alloc B v)->β (h.next+i)=none
 Hk:Hr ops en (st 0).1 pre β a
 Qf:a.defers=a₀.defers
theorem rX.Lb{c i:Nat}{B B':bt}(h:rX bf en c i B)(h':rX bf en c i B'):B=B':=by
 obtain⟨v,h1⟩:=h.1;obtain⟨v',h2⟩:=h'.1
 grind
variable {β₀:cp} {h:aa} {w₀:World} {a₀:Act} {pre:List Nat} {w:World} {a:Act} {c:Nat} {R:List (Nat×bt)}
theorem Inv.none_(hI:Inv ops bf st en β₀ h w₀ a₀ pre β w a c R){i:Nat}{B:bt}(hi:i<ops.size)(hp:rX bf en c i B):(st c).2.1.get (h.next+i)=none:=by
 cases hg:(st c).2.1.get (h.next+i)with
 |none=>rfl
 |some B'=>
  obtain⟨e,h1,h2,h3⟩:=hI.Bt i B' hi hg;rw[hp.2 e h1 h2]at h3;grind
theorem Inv.get(hI:Inv ops bf st en β₀ h w₀ a₀ pre β w a c R)(hpre:∀i∈pre,i<ops.size)(k:Nat)(B:bt):
  (aV (st c).2.1 h.next R).get k=some B↔(st c).2.1.get k=some B\/ ∃i,k=h.next+i/\(i,B)∈R:=
 jq R (λi B B' h1 h2=>((hI.mem i B).1 h1).2.Lb ((hI.mem i B').1 h2).2) (λi B h1=>hI.none_ (hpre i ((hI.mem i B).1 h1).1) ((hI.mem i B).1 h1).2) k B
theorem Inv.sub(hI:Inv ops bf st en β₀ h w₀ a₀ pre β w a c R)(hpre:∀i∈pre,i<ops.size):fK β (st c).2.1 w:=
 hI.step.jG.sub (ee R).symm λk B hk=>(hI.get hpre k B).2 (.inl hk)
theorem Inv.calm(hO:sW ops bf)(hI:Inv ops bf st en β₀ h w₀ a₀ pre β w a c R){j:Nat}{o:Oper}(ho:ops[j]?=some o)(hne:(en j).dh=false)(hna:∀B v,en j≠ .alloc B v){v':Value}(hv:au β (en j).val v'):
  Inv ops bf st en β₀ h w₀ a₀ (pre++[j]) β w (a.put o.dst v') c R where
 le:=hI.le
 vM:=λe he hef=>by
  rw[mem_append,hI.vM e he hef]
  grind
 mem:=λi B=>by
  rw[hI.mem,mem_append];refine⟨λ⟨h1,h2⟩=>⟨.inl h1,h2⟩,λ⟨h1,h2⟩=>⟨?_,h2⟩⟩;rcases h1 with h1|h1
  ·omega
  ·simp only[mem_singleton]at h1;subst h1;obtain⟨v,hv⟩:=h2.1
   grind
 step:=hI.step
 room:=hI.room
 Bt:=hI.Bt
 free:=λi h1 h2=>hI.free i h1 λhh=>h2 (mem_append_left _ hh)
 Hk:=hI.Hk.put hO ho hv
 Qf:=(put_defers a o.dst v').trans hI.Qf
theorem Au(hN:cV P)(hcf:ke P gl cf)(hO:sW ops bf)(hR:En P gl cf ops bf h.next st en)(hpd:(st 0).2.2=[]){L:List Nat}(hL:ye ops L){r:Option Nat}{n:Nat}{Q:Exit->Act->World->Prop}(hg₀:Gl gl β₀)
  (hk:∀a' w' β',Step β₀ h w₀ β' (aV (st ops.size).2.1 h.next (st ops.size).2.2) w'->aG β' (st ops.size).1 a'.tmps.toList->a'.defers=a₀.defers->Q .normal a' w'):
  ∀(suf pre:List Nat)(β:cp)(w:World)(a:Act)(c:Nat)(R:List (Nat×bt)),L=pre++suf->Inv ops bf st en β₀ h w₀ a₀ pre β w a c R->wpOpsIn (fG r) n P ops Q suf a w
 | [],pre,β,w,a,c,R,he,hI=>by
  rw[append_nil]at he;subst he;have hpre:∀i∈L,i<ops.size:=λi hi=>(hL.mem i).1 hi;have hnoeff:∀e,c<=e->e<ops.size->(en e).dh=false:=λe h1 h2=>by
   cases hef:(en e).dh with
   |false=>rfl
   |true=>have:=(hI.vM e h2 hef).1 ((hL.mem e).2 h2);omega
  have hle:=hI.le;have hsame:(st ops.size).2.1=(st c).2.1:=by
   have:=hR.qU (c:=c) (ops.size-c) (by omega) λe h1 h2=>hnoeff e h1 (by omega);rwa[show c+(ops.size-c)=ops.size by omega]at this
  have hpend:∀i B,rX bf en ops.size i B↔rX bf en c i B:=λi B=>by
   refine⟨λhp=>⟨hp.1,λe h1=>hp.2 e (by omega)⟩,λhp=>⟨hp.1,λe h1 h2=>hp.2 e ?_ h2⟩⟩
   grind
  have hmem:∀i B,(i,B)∈(st ops.size).2.2↔(i,B)∈R:=λi B=>by
   rw[hR.Oa hO hpd ops.size (Nat.le_refl _),hI.mem,hpend,hL.mem]
  have hget:=hI.get hpre;have hget2:∀k B,(aV (st ops.size).2.1 h.next (st ops.size).2.2).get k=some B↔(st c).2.1.get k=some B\/ ∃i,k=h.next+i/\(i,B)∈(st ops.size).2.2:=by
   rw[hsame];exact jq _ (λi B B' h1 h2=>((hI.mem i B).1 ((hmem i B).1 h1)).2.Lb ((hI.mem i B').1 ((hmem i B').1 h2)).2)
    (λi B h1=>hI.none_ (hpre i ((hI.mem i B).1 ((hmem i B).1 h1)).1) ((hI.mem i B).1 ((hmem i B).1 h1)).2)
  have hS:qj (aV (st c).2.1 h.next R) (aV (st ops.size).2.1 h.next (st ops.size).2.2):=by
   refine⟨by grind[ee],λk=>Option.ext λB=>?_⟩;rw[hget,hget2];simp only[hmem]
  refine hk a w β (hI.step.same (qj.refl h) hS) ?_ hI.Qf;refine⟨?_,λt v v' h1 h2=>?_⟩
  ·rw[hR.hJ _ (Nat.le_refl _),length_toList,hI.Hk.1]
  ·rw[getElem?_toList]at h2;obtain⟨h3,h4⟩:=hI.Hk.2 t v' h2;have htl:t<(st 0).1.length:=by rw[<-hR.hJ _ (Nat.le_refl _)];exact(List.getElem?_eq_some_iff.1 h1).1
   by_cases hw:∃(i:Nat)(o:Oper),ops[i]?=some o/\o.dst=some t
   ·obtain⟨i,o,ho,hd⟩:=hw;have hi:i<ops.size:=(Array.getElem?_eq_some_iff.1 ho).1;rw[hR.zs hO htl ho hd _ (Nat.le_refl _) hi]at h1;obtain rfl:=oI h1;exact h3 i o ((hL.mem i).2 hi) ho hd
   ·rw[hR.D4 t _ (Nat.le_refl _) λi o _ ho hd=>hw ⟨i,o,ho,hd⟩]at h1
    grind
 | j::suf,pre,β,w,a,c,R,he,hI=>by
  have hpre:∀i∈pre,i<ops.size:=λi hi=>(hL.mem i).1 (by grind);have hj:j<ops.size:=(hL.mem j).1 (by grind);have hnj:j∉pre:=λhm=>by
   have hnd:=hL.nodup
   grind
  have hbf:∀i,bf j i=true->i∈pre:=hO.Ha L hL pre j suf he;have hfb:∀i∈pre,bf i j=false:=λi hi=>by
   cases hb:bf i j with
   |false=>rfl
   |true=>
    obtain⟨p1,p2,rfl⟩:=List.append_of_mem hi;exact absurd (mem_append_left _ (hO.Ha L hL p1 i (p2++j::suf) (by grind) j hb)) hnj
  have ho:=getElem?_eq_getElem hj;generalize ops[j]=o at ho;have hone:=hR.one j o ho;have hg:Gl gl β:=hg₀.mono hI.step.le;have hsee:=hI.Hk.Th hO hR hL he hg ho;have hρ:=I8 hsee;have hrec:=Au hN hcf hO hR hpd hL (r:=r) (n:=n) hg₀ hk suf (pre++[j]);have he':L=(pre++[j])++suf:=by rw[he];simp
  simp only[wpOpsIn,ho]
  cases hen:en j with
  |skip=>
   rw[hen]at hone;simp only[One]at hone;rw[hI.Hk.wanted hO hR hL he ho hone.1];simp only[false_eq_true,if_false];refine⟨λ_ _=>trivial,?_⟩;exact hrec β w _ c R he' (hI.calm hO ho (by rw[hen];rfl) (by grind) (by rw[hen];exact .undef β))
  |pure v=>
   rw[hen]at hone;simp only[One]at hone;obtain⟨hw,hop,_⟩:=hone;rw[hI.Hk.wanted hO hR hL he ho hw];simp only[if_true];rw[y9 sD]at hop;obtain⟨v',h1,h2⟩:=lf hρ hop w;refine qX ?_ h1 (hrec β w _ c R he' (hI.calm hO ho (by rw[hen];rfl) (by rw[hen];intro B v h;cases h) (by rw[hen];exact h2)))
   grind[aK]
  | read v=>
   rw[hen]at hone;simp only[One]at hone;obtain⟨hw,_,_⟩:=hone;rw[hI.Hk.wanted hO hR hL he ho hw];simp only[if_true];have hop:=hR.reads j o v ho hen c hI.le
    (λe h1 h2=>hfb e ((hI.vM e (by have:=hI.le;omega) h2).2 h1))
    (λe h1 h2 h3=>by
     cases hb:bf j e with
     |false=>rfl
     |true=>have:=(hI.vM e h2 h3).1 (hbf e hb);omega)
   rw[za sD]at hop;obtain⟨v',h1,h2⟩:=lg hρ (hI.sub hpre) hop;refine qX ?_ h1 (hrec β w _ c R he' (hI.calm hO ho (by rw[hen];rfl) (by rw[hen];intro B v h;cases h) (by rw[hen];exact h2)))
   grind[aT]
  | alloc B v=>
   rw[hen]at hone;simp only[One]at hone;obtain⟨hw,⟨f,hop,rfl⟩,_⟩:=hone;rw[hI.Hk.wanted hO hR hL he ho hw];simp only[if_true];rw[vY sD]at hop;obtain⟨v',w',h1,h2⟩:=jT hρ (w:=w) hop;have hfree:=hI.free j hj hnj ⟨B,_,hen⟩;have hroom:=hI.room;obtain⟨β',h3,h4,h5,h6⟩:=h2.HE hI.step hfree (by omega) (by grind[ee]);refine qX (by grind[aJ]) h1 (hrec β' w' _ c ((j,B)::R) he' ⟨hI.le,?_,?_,h3,hI.room,hI.Bt,?_,?_,(put_defers a o.dst v').trans hI.Qf⟩)
   ·intro e h7 h8;rw[mem_append,hI.vM e h7 h8];refine⟨λhh=>?_,.inl⟩;rcases hh with hh|hh
    ·omega
    ·simp only[mem_singleton]at hh;subst hh;rw[hen]at h8;cases h8
   ·intro i B';rw[mem_cons,hI.mem,mem_append];constructor
    ·rintro(hh|⟨h7,h8⟩)
     ·simp only[Prod.mk.injEq]at hh;obtain⟨rfl,rfl⟩:=hh;refine⟨.inr List.mem_cons_self,⟨_,hen⟩,λe h7 h8=>hfb e ((hI.vM e (by have:=hI.le;omega) h8).2 h7)⟩
     grind
    ·rintro⟨h7|h7,h8⟩
     ·grind
     ·simp only[mem_singleton]at h7;subst h7;obtain⟨v2,h9⟩:=h8.1
      grind
   ·intro i h7 h8 h9;rw[h6 _ λhh=>h8 (by grind)];exact hI.free i h7 (λhh=>h8 (mem_append_left _ hh)) h9
   ·exact(hI.Hk.mono h5).put hO ho (by rw[hen];exact h4)
  | nR v h'=>
   rw[hen]at hone;simp only[One]at hone;have hheap:(st (j+1)).2.1=h':=by rw[hone.2.2]
   obtain⟨hw,⟨u,hop,hu⟩,_⟩:=hone;rw[hI.Hk.wanted hO hR hL he ho hw];simp only[if_true];have hcj:c<=j:=by
    rcases lt_or_ge j c with h1|h1
    ·exact absurd ((hI.vM j hj (by rw[hen];rfl)).2 h1) hnj
    ·omega
   have hnoeff:∀e,c<=e->e<j->(en e).dh=false:=λe h1 h2=>by
    cases hef:(en e).dh with
    |false=>rfl
    |true=>
     have:=(hI.vM e (by omega) hef).1 (hbf e (hR.chain e j h2 hj hef (by rw[hen];rfl)));omega
   have hsame:(st j).2.1=(st c).2.1:=by
    have:=hR.qU (c:=c) (j-c) (by omega) λe h1 h2=>hnoeff e h1 (by omega);rwa[show c+(j-c)=j by omega]at this
   rw[hsame]at hop hu;have hF:∀i B,(i,B)∈(st j).2.2.filter (λp=>bf j p.1)↔rX bf en c i B/\bf j i=true:=λi B=>by
    rw[mem_filter,hR.Oa hO hpd j (by omega)];constructor
    ·rintro⟨⟨h1,h2,h3⟩,h4⟩;exact⟨⟨h2,λe h5=>h3 e (by omega)⟩,h4⟩
    ·rintro⟨⟨h2,h3⟩,h4⟩;refine⟨⟨hO.lt _ _ h4,h2,λe h5 h6=>?_⟩,h4⟩
     grind
   generalize (st j).2.2.filter (λp=>bf j p.1)=F at hF hop hu;have hGp:=jq (h:=(st c).2.1) (base:=h.next) F (λi B B' h1 h2=>((hF i B).1 h1).1.Lb ((hF i B').1 h2).1)
    (λi B h1=>hI.none_ (by grind) ((hF i B).1 h1).1)
   have hgetV:=hI.get hpre;have hsub:fK β (aV (st c).2.1 h.next F) w:=hI.step.jG.sub (by grind[ee]) λk B hkk=>by
    rw[hgetV];rcases(hGp k B).1 hkk with h1|⟨i,h1,h2⟩
    ·grind
    ·exact .inr ⟨i,h1,(hI.mem i B).2 ⟨hbf i ((hF i B).1 h2).2,((hF i B).1 h2).1⟩⟩
   rw[Bw sD]at hop;refine Ic hN hcf hsub hg hρ hop _ _ λv' w' β' hst hv=>?_;rw[<-hu,<-hheap]at hst;have hroom:=hI.room;have hnextF:(aV (st c).2.1 h.next F).next=(st c).2.1.next:=ee F;have hRmem:∀i B,(i,B)∈R.filter (λp=> !bf j p.1)↔i∈pre/\rX bf en c i B/\bf j i=false:=λi B=>by
    rw[mem_filter,hI.mem];grind
   have hRnone:∀i B,(i,B)∈R.filter (λp=> !bf j p.1)->(aV (st c).2.1 h.next F).get (h.next+i)=none:=λi B hm=>by
    obtain⟨h1,h2,h3⟩:=(hRmem i B).1 hm
    cases hgk:(aV (st c).2.1 h.next F).get (h.next+i)with
    |none=>rfl
    |some B'=>
     rcases(hGp _ _).1 hgk with h4|⟨i',h4,h5⟩
     ·rw[hI.none_ (hpre i h1) h2]at h4;cases h4
     grind
   have hback:∀k B,(st (j+1)).2.1.get k=some B->k<(st c).2.1.next->∃B₀,(aV (st c).2.1 h.next F).get k=some B₀:=λk B h1 h2=>hst.keys k B h1 (by omega);have hGn:=jq (h:=(st (j+1)).2.1) (base:=h.next) (R.filter λp=> !bf j p.1) (λi B B' h1 h2=>((hRmem i B).1 h1).2.1.Lb ((hRmem i B').1 h2).2.1)
    (λi B hm=>by
     cases hgk:(st (j+1)).2.1.get (h.next+i)with
     |none=>rfl
     |some B'=>grind)
   have hframe:=hst.frame (V:=aV (st c).2.1 h.next R) (V':=aV (st (j+1)).2.1 h.next (R.filter λp=> !bf j p.1)) hI.step.jG (by grind[ee]) (ee _)
    (λk B=>∃i,k=h.next+i/\(i,B)∈R.filter λp=> !bf j p.1)
    (λk B ⟨i,h1,h2⟩=>by grind)
    (λk B=>by
     rw[hgetV,hGp];constructor
     ·rintro(h1|⟨i,h1,h2⟩)
      ·grind
      ·obtain⟨h3,h4⟩:=(hI.mem i B).1 h2
       grind
     ·rintro((h1|⟨i,h1,h2⟩)|⟨i,h1,h2⟩)
      ·exact .inl h1
      ·exact .inr ⟨i,h1,(hI.mem i B).2 ⟨hbf i ((hF i B).1 h2).2,((hF i B).1 h2).1⟩⟩
      grind)
    hGn
   have hnext:=hst.next;rw[hnextF]at hnext;refine hrec β' w' _ (j+1) _ he' ⟨by omega,?_,?_,hI.step.trans hframe,by omega,?_,?_,(hI.Hk.mono hst.le).put hO ho (by rw[hen];exact hv),(put_defers a o.dst v').trans hI.Qf⟩
   ·intro e h1 h2;rw[mem_append,hI.vM e h1 h2,mem_singleton]
    grind
   ·intro i B;rw[hRmem,mem_append];constructor
    ·rintro⟨h1,⟨h2,h3⟩,h4⟩;refine⟨.inl h1,h2,λe h5 h6=>?_⟩
     grind
    ·rintro⟨h1,⟨v2,h2⟩,h3⟩;rcases h1 with h1|h1
     ·exact⟨h1,⟨⟨v2,h2⟩,λe h4=>h3 e (by omega)⟩,h3 j (by omega) (by rw[hen];rfl)⟩
     grind
   ·intro i B h1 h2;obtain⟨B₀,h3⟩:=hback _ _ h2 (by omega);rcases(hGp _ _).1 h3 with h4|⟨i',h4,h5⟩
    ·obtain⟨e,h6,h7,h8⟩:=hI.Bt i B₀ h1 h4
     grind
    ·obtain rfl:i=i':=by omega
     exact⟨j,by omega,by rw[hen];rfl,((hF _ _).1 h5).2⟩
   ·intro i h1 h2 h3;have hold:=hI.free i h1 (λhh=>h2 (mem_append_left _ hh)) h3
    cases hb:β' (h.next+i)with
    |none=>rfl
    |some sl=>
     rcases hst.fresh _ sl hb with h4|⟨h4,_⟩
     all_goals grind
end
end
section
variable {P:Program} {gl:Nat->Bool}
theorem py:∀{x y:List (Value×Value)},qD x y=true->x=y
 |[],[],_=>rfl
 |[],_::_,h=>by grind[qD]
 |_::_,[],h=>by grind[qD]
 |(a,b)::x,(c,d)::y,h=>by
  simp only[qD,and_eq_true]at h;rw[jf _ _ _ h.1.1,jf _ _ _ h.1.2,py h.2]
theorem Ae{B C:bt}(h:HI B C=true):B=C:=by
 unfold HI at h;split at h
 ·simp only[and_eq_true,beq_eq,beq_iff_eq]at h;obtain⟨⟨⟨h1,rfl⟩,rfl⟩,rfl⟩:=h;rw[ng (jf 4) h1]
 all_goals grind[py]
theorem sZ{h h':aa}{k:Nat}(e:KC h h' k=true):h.get k=h'.get k:=by grind[Ae,KC]
def Fq(h₀:aa)(s:Ck):Prop:=s.2.1.next=h₀.next/\∀k,k∉s.2.2->s.2.1.get k=h₀.get k
theorem Fq.lay{h₀:aa}{s:Ck}(h:Fq h₀ s)(dst:Option Tmp)(v:Value)(u:Option (Nat×bt)):Fq h₀ (A4 s dst v u):=by
 cases u with
 |none=>exact h
 |some p=>
  obtain⟨k,b⟩:=p;refine⟨h.1,λj hj=>?_⟩;simp only[A4,mem_cons,not_or]at hj;show(s.2.1.set k b).get j=_;rw[aa.aR,if_neg hj.1];exact h.2 j hj.2
theorem xu{ops:Array Oper}{base j:Nat}{h₀:aa}{s s':Ck}(h:Fq h₀ s)(hs:BY P gl ops base j s=some s'):Fq h₀ s':=by
 unfold BY at hs;split at hs
 ·split at hs
  ·split at hs
   ·obtain rfl:=oI hs;exact h.lay _ _ _
   ·cases hs
  ·obtain rfl:=oI hs;exact h.lay _ _ _
  ·cases hs
 grind
theorem xH{ops:Array Oper}{base:Nat}{h₀:aa}:∀(n j:Nat){s s':Ck},Fq h₀ s->Cb P gl ops base n j s=some s'->Fq h₀ s'
 |0,_,_,_,h,hs=>by simp_all[Cb]
 |n+1,j,s,s',h,hs=>by
  simp only[Cb]at hs;split at hs
  ·next s1 h1=>exact xH n (j+1) (xu h h1) hs
  grind
theorem AA{h₀:aa}{s s':Ck}(h:Fq h₀ s)(h':Fq h₀ s')(e:Ig s s'=true):s.1=s'.1/\qj s.2.1 s'.2.1:=by
 unfold Ig at e;simp only[and_eq_true]at e;obtain⟨⟨e1,e2⟩,e3⟩:=e;refine⟨ng (jf 4) e1,h.1.trans h'.1.symm,λk=>?_⟩;by_cases k1:k∈s.2.2
 ·grind[sZ]
 ·by_cases k2:k∈s'.2.2
  ·grind[sZ]
  ·rw[h.2 k k1,h'.2 k k2]
theorem ye.length{ops:Array Oper}{L:List Nat}(h:ye ops L):L.length=ops.size:=by
 have:=((List.perm_ext_iff_of_nodup h.nodup List.nodup_range).2 λi=>by rw[h.mem,mem_range]).length_eq
 grind
theorem LO:ke P gl eJ:=⟨(by intro f args h v h' _ hr;cases hr),(by intro k args h v h' hr;cases hr)⟩
theorem GB(hN:cV P){ops:Array Oper}(hO:sW ops (cj (eL ops))){L:List Nat}(hL:ye ops L){r:Option Nat}{n:Nat}{Q:Exit->Act->World->Prop}{base:Nat}{fin:Ck}{h₀ hb:aa}{β₀:cp}{w₀:World}{a₀:Act}(hg₀:Gl gl β₀)
  (hbase:hb.next=base+ops.size) (h0n:h₀.next<=base) (hfin:Fq hb fin)
  (hk:∀a' w' β',Step β₀ h₀ w₀ β' fin.2.1 w'->aG β' fin.1 a'.tmps.toList->a'.defers=a₀.defers->Q .normal a' w'):
  ∀(suf pre:List Nat)(β:cp)(w:World)(a:Act)(s:Ck),L=pre++suf->Hx P gl ops (cj (eL ops)) base fin suf.length pre.reverse s=true->Fq hb s->Step β₀ h₀ w₀ β s.2.1 w->
   (∀i,i<ops.size->i∉pre->β (base+i)=none)->aG β s.1 a.tmps.toList->a.defers=a₀.defers->wpOpsIn (fG r) n P ops Q suf a w
 |[],pre,β,w,a,s,he,hA,hoff,hst,hfree,ht,hd=>by
  obtain⟨e1,e2⟩:=AA hfin hoff hA;refine hk a w β (hst.same (qj.refl _) e2.symm) (by grind) hd
 | j::suf,pre,β,w,a,s,he,hA,hoff,hst,hfree,ht,hd=>by
  have hj:j<ops.size:=(hL.mem j).1 (by grind);have hnj:j∉pre:=λhm=>by
   have hnd:=hL.nodup
   grind
  have hbf:∀i,cj (eL ops) j i=true->i∈pre:=hO.Ha L hL pre j suf he;simp only[length_cons,Hx]at hA;have h1:=all_eq_true.1 hA j (mem_range.2 hj);simp only[Bool.or_eq_true]at h1;rcases h1 with(h1|h1)|h1
  ·grind
  ·grind
  ·split at h1
   ·next s' hs'=>
    have hoff':=xu hoff hs';have ho:=getElem?_eq_getElem hj;generalize ops[j]=o at ho;unfold BY at hs';rw[ho]at hs';dsimp only at hs';have he':L=(pre++[j])++suf:=by rw[he];simp
    have hrev:(pre++[j]).reverse=j::pre.reverse:=by simp
    have hfree':∀i,i<ops.size->i∉pre++[j]->β (base+i)=none:=λi h1 h2=>hfree i h1 λhh=>h2 (mem_append_left _ hh);have hg:Gl gl β:=hg₀.mono hst.le;simp only[wpOpsIn,ho];split at hs'
    ·next hw=>
     rw[hP ht hw];simp only[if_true];split at hs'
     ·next v u hop=>
      obtain rfl:=oI hs';have hρ:=qF (β:=β) hg ht;unfold QQ at hop;split at hop
      ·next v0 hp=>
       simp only[Option.some.injEq,Prod.mk.injEq]at hop;obtain⟨rfl,rfl⟩:=hop;obtain⟨v',g1,g2⟩:=lf hρ hp w;refine qX (by intro cc hc;simp[aK,hc]at hp) g1 (GB hN hO hL hg₀ hbase h0n hfin hk suf (pre++[j]) β w _ _ he' (by rw[hrev];exact h1) hoff' hst hfree' (gF ht o.dst g2) ((put_defers a o.dst v').trans hd))
      ·split at hop
       ·next v0 hp=>
        simp only[Option.some.injEq,Prod.mk.injEq]at hop;obtain⟨rfl,rfl⟩:=hop;obtain⟨v',g1,g2⟩:=lg hρ hst.jG hp;refine qX (by intro cc hc;simp[aT,hc]at hp) g1 (GB hN hO hL hg₀ hbase h0n hfin hk suf (pre++[j]) β w _ _ he' (by rw[hrev];exact h1) hoff' hst hfree' (gF ht o.dst g2) ((put_defers a o.dst v').trans hd))
       ·split at hop
        ·next B f hp=>
         simp only[Option.some.injEq,Prod.mk.injEq]at hop;obtain⟨rfl,rfl⟩:=hop;obtain⟨v',w',g1,g2⟩:=jT hρ (w:=w) hp;obtain⟨β',g3,g4,g5,g6⟩:=g2.HE hst (hfree j hj hnj) (by omega) (by rw[hoff.1,hbase];omega);refine qX (by intro cc hc;simp[aJ,hc]at hp) g1 (GB hN hO hL hg₀ hbase h0n hfin hk suf (pre++[j]) β' w' _ _ he' (by rw[hrev];exact h1) hoff' g3 ?_ (gF (ht.mono g5) o.dst g4) ((put_defers a o.dst v').trans hd));intro i h2 h3;rw[g6 _ λhh=>h3 (by rw[show i=j by omega];simp)];exact hfree' i h2 h3
        ·have key:∀{u':cL}{v:Value},cB P eJ (ev gl s.1) o s.2.1=some (v,u')->u'.app s.2.1=(A4 s o.dst v u).2.1->(A4 s o.dst v u).1=eB s.1 o.dst v->Hx P gl ops (cj (eL ops)) base fin suf.length (j::pre.reverse) (A4 s o.dst v u)=true->Fq hb (A4 s o.dst v u)->
           o.wpIn (fG r) n P a w (λa' w'=>wpOpsIn (fG r) n P ops Q suf a' w') Q:=by
          intro u' v hop hu hput h1 hoff';refine Ic hN LO hst.jG hg hρ hop _ _ λv' w' β' hst' hv=>?_;rw[hu]at hst';refine GB hN hO hL hg₀ hbase h0n hfin hk suf (pre++[j]) β' w' _ _ he' (by rw[hrev];exact h1) hoff' (hst.trans hst') (λi h2 h3=>?_) (by rw[hput];exact gF (ht.mono hst'.le) o.dst hv) ((put_defers a o.dst v').trans hd);have hold:=hfree' i h2 h3
          cases hb':β' (base+i)with
          |none=>rfl
          |some sl=>
           rcases hst'.fresh _ sl hb' with h4|⟨h4,_⟩
           ·rw[hold]at h4;cases h4
           ·rw[hoff.1,hbase]at h4;omega
         split at hop
         ·next v0 hp=>
          simp only[Option.some.injEq,Prod.mk.injEq]at hop;obtain⟨rfl,rfl⟩:=hop;exact key hp rfl rfl h1 hoff'
         ·next v0 k0 b0 hp=>
          simp only[Option.some.injEq,Prod.mk.injEq]at hop;obtain⟨rfl,rfl⟩:=hop;exact key hp rfl rfl h1 hoff'
         ·cases hop
     ·cases hs'
    ·next hw=>
     obtain rfl:=oI hs';rw[hP ht hw];simp only[false_eq_true,if_false];refine⟨λ_ _=>trivial,?_⟩;exact GB hN hO hL hg₀ hbase h0n hfin hk suf (pre++[j]) β w _ _ he' (by rw[hrev];exact h1) hoff' hst hfree' (gF ht o.dst (.undef β)) ((put_defers a o.dst undef).trans hd)
    ·cases hs'
   grind
end
section
variable {P:Program} {gl:Nat->Bool}
theorem Step.room{β:cp}{h:aa}{w:World}(hs:fK β h w)(m:Nat):Step β h w β { h with next:=h.next+m } w:=
 ⟨β.le_refl,Nat.le_add_right _ _,⟨λk sl hk=>⟨lt_of_lt_of_le (hs.lt k sl hk).1 (Nat.le_add_right _ _),(hs.lt k sl hk).2⟩,hs.blk,hs.own,λk B hk=>lt_of_lt_of_le (hs.wf k B hk) (Nat.le_add_right _ _)⟩,Nat.le_refl _,rfl,.refl _,rfl,
  λ_ _ _=>rfl,λ_ _ h=>h,λ_ _ h=> .inl h,λ_ B h _=>⟨B,h⟩⟩
theorem Ib(hN:cV P){cf:br}(hcf:ke P gl cf){id:Nat}{ops:Array Oper}(hO:sW ops (cj (eL ops)))(hB:Cn ops)(hC:Region.departs ops=true->(Region.linearise .gc ops 0).length=ops.size):
  ib P gl cf (.region id ops true):=by
 intro id' ops' heq β tm tm' a h h' w r n Q hr hs hg ht hk
 cases heq
 refine wpIn_region_draw λt=>?_;have hst0:Step β h w β { h with next:=h.next+ops.size } { w with drawn:=w.drawn+1 }:=
  (Step.of_heap hs rfl rfl ⟨rfl,Nat.le_succ _⟩ rfl:Step β h w β h { w with drawn:=w.drawn+1 }).trans (Step.room (w:={ w with drawn:=w.drawn+1 }) (hs.of_heap rfl) ops.size)
 unfold tz at hr;split at hr
 ·unfold Aq at hr;split at hr
  ·next fin hfin=>
   split at hr
   ·next hall=>
    simp only[Option.some.injEq,Prod.mk.injEq]at hr;obtain⟨rfl,rfl⟩:=hr;have hL:=oc hB hC (P.follows .mixedOrders) t;have hoff:Fq { h with next:=h.next+ops.size } (tm,{ h with next:=h.next+ops.size },[]):=⟨rfl,λ_ _=>rfl⟩
    have hlen:(Region.schedule (P.follows .mixedOrders) ops t).length=ops.size:=hL.length;exact GB hN hO hL (base:=h.next) (fin:=fin) (a₀:=a) hg rfl (Nat.le_refl _) (xH _ _ hoff hfin) hk _ [] β _ a _ rfl (by rw[hlen];exact hall) hoff hst0 (λi hi _=>hs.gZ (by omega)) ht rfl
   ·cases hr
  grind
 have hst0:True:=trivial;obtain⟨st,en,hR,h0,h1,h2⟩:=As hO hr;have hL:=oc hB hC (P.follows .mixedOrders) t;have hst0:Step β h w β { h with next:=h.next+ops.size } { w with drawn:=w.drawn+1 }:=
  (Step.of_heap hs rfl rfl ⟨rfl,Nat.le_succ _⟩ rfl:Step β h w β h { w with drawn:=w.drawn+1 }).trans (Step.room (w:={ w with drawn:=w.drawn+1 }) (hs.of_heap rfl) ops.size)
 refine Au (β₀:=β) (h:=h) (w₀:=w) (a₀:=a) hN hcf hO hR (by rw[h0]) hL hg ?_ _ [] β _ a 0 [] rfl ⟨Nat.zero_le _,?_,?_,?_,?_,?_,?_,?_,rfl⟩
 ·grind
 ·grind
 ·grind
 ·rw[h0];exact hst0
 ·grind
 ·intro i B hi hb;rw[h0]at hb;have:h.get (h.next+i)=some B:=hb;have:=hs.wf _ _ this;omega
 ·intro i hi _ _;exact hs.gZ (by omega)
 ·rw[h0];refine⟨by rw[ht.1,length_toList],λt v' hv=>⟨λi o hi=>by grind,λ_ v h3=>?_⟩⟩;exact ht.2 t v v' h3 (by grind)
theorem AR(g:Nat->Nat)(i:Nat):∀(es:List Edge)(s:Nat),(es.foldl (λs e=>if Region.binds .any e then s|||2^e.on|||g e.on else s) s).testBit i=true↔
  s.testBit i=true\/ ∃e∈es,Region.binds .any e=true/\(e.on=i\/(g e.on).testBit i=true)
 |[],s=>by simp
 |e::es,s=>by
  rw[List.foldl_cons,AR g i es]
  grind
def mG(acc:Array Nat)(o:Oper):Nat:=o.after.foldl (λs e=>if Region.binds .any e then s|||2^e.on|||acc.getD e.on 0 else s) 0
theorem wP:∀(l:List Oper)(acc:Array Nat),(l.foldl (λacc o=>acc.push (mG acc o)) acc).size=acc.size+l.length/\
  (∀i,i<acc.size->(l.foldl (λacc o=>acc.push (mG acc o)) acc)[i]?=acc[i]?)/\
  ∀i o,l[i]?=some o->∃acc',(l.foldl (λacc o=>acc.push (mG acc o)) acc)[acc.size+i]?=some (mG acc' o)/\∀k,k<acc.size+i->acc'[k]?=(l.foldl (λacc o=>acc.push (mG acc o)) acc)[k]?
 |[],acc=>⟨by simp,λ_ _=>rfl,λi o h=>by grind⟩
 |o::l,acc=>by
  obtain⟨h1,h2,h3⟩:=wP l (acc.push (mG acc o))
  grind
theorem Fy(ops:Array Oper):Region.before ops=ops.toList.foldl (λacc o=>acc.push (mG acc o)) #[]:=by
 unfold Region.before;rw[<-foldl_toList];rfl
theorem KD{ops:Array Oper}(hB:Cn ops)(j i:Nat):cj (eL ops) j i=true↔ ∃o,ops[j]?=some o/\∃e∈o.after,Region.binds .any e=true/\(e.on=i\/cj (eL ops) e.on i=true):=by
 have hg:∀k,(eL ops).getD k 0=(Region.before ops).getD k 0:=λk=>by simp[eL,List.getD,Array.getD_eq_getD_getElem?]
 obtain⟨h1,_,h3⟩:=wP ops.toList #[];rw[<-Fy]at h1 h3;simp only[List.size_toArray,length_nil,zero_add,getElem?_toList,length_toList]at h1 h3
 cases ho:ops[j]? with
 |none=>grind[cj]
 | some o=>
  obtain⟨acc',h4,h5⟩:=h3 j o ho;simp only[cj,hg];rw[Array.getD_eq_getD_getElem?,h4,getD_some,mG,<-foldl_toList,AR (λk=>acc'.getD k 0)];simp only[Nat.zero_testBit,false_eq_true,false_or,Option.some.injEq,exists_eq_left',Array.mem_toList_iff];constructor
  ·rintro⟨e,he,hb,hh⟩;refine⟨e,he,hb,hh.imp id λhh=>?_⟩;have hlt:e.on<j:=by
    rcases hB j o ho e he with h|⟨h,_⟩
    ·exact h
    ·rw[h]at hb;cases hb
   simp_all
  ·rintro⟨e,he,hb,hh⟩;refine⟨e,he,hb,hh.imp id λhh=>?_⟩;have hlt:e.on<j:=by
    rcases hB j o ho e he with h|⟨h,_⟩
    ·exact h
    ·rw[h]at hb;cases hb
   simp_all
theorem Cn.lt{ops:Array Oper}(hB:Cn ops){j:Nat}{o:Oper}(ho:ops[j]?=some o){e:Edge}(he:e∈o.after)(hb:Region.binds .any e=true):e.on<j:=by
 rcases hB j o ho e he with h|⟨h,_⟩
 all_goals grind
theorem pk:∀(l:List Oper)(j:Nat),yf l j=true->∀i o,l[i]?=some o->∀e∈o.after,e.on<j+i\/Region.binds .any e=false/\Region.binds .text e=false
 |[],_,_,i,o,ho,_,_=>by grind
 | o'::l,j,h,i,o,ho,e,he=>by
  simp only[yf,and_eq_true]at h
  cases i with
  |zero=>grind
  |succ i=>
   have:=pk l (j+1) h.2 i o (by simpa using ho) e he
   grind
theorem m7{bs:List Nat}{j:Nat}{t:Tmp}:∀(l:List Oper)(k:Nat),m6 bs j t l k=true->∀i o,l[i]?=some o->o.dst=some t->k+i=j\/cj bs j (k+i)=true\/cj bs (k+i) j=true
 |[],_,_,i,o,ho,_=>by grind
 | o'::l,k,h,i,o,ho,hd=>by
  simp only[m6,and_eq_true]at h
  cases i with
  |zero=>grind
  |succ i=>
   have:=m7 l (k+1) h.2 i o (by simpa using ho) hd
   grind
theorem lh{bs:List Nat}{all:List Oper}:∀(l:List Oper)(k:Nat),zb bs all l k=true->∀i o,l[i]?=some o->
  (∀t,Operand.tmp t∈o.op.operands->m6 bs (k+i) t all 0=true)/\∀g b,o.guard=some (g,b)->cj bs (k+i) g=true
 |[],_,_,i,o,ho=>by grind
 | o'::l,k,h,i,o,ho=>by
  simp only[zb,and_eq_true]at h
  cases i with
  |zero=>
   simp only[List.getElem?_cons_zero,Option.some.injEq]at ho;subst ho;refine⟨λt ht=>?_,λg b hg=>?_⟩
   ·exact all_eq_true.1 h.1.1 (.tmp t) (by simpa using ht)
   grind
  |succ i=>
   have:=lh l (k+1) h.2 i o (by simpa using ho)
   grind
theorem lH:∀(l:List Oper)(m:Nat),qV l m=true->(∀(i:Nat)(o:Oper)(t:Tmp),l[i]?=some o->o.dst=some t->m.testBit t=false)/\
  ∀(i j:Nat)(o o':Oper)(t:Tmp),l[i]?=some o->l[j]?=some o'->o.dst=some t->o'.dst=some t->i=j
 |[],_,_=>⟨λi o t h=>by grind,λi j o o' t h=>by grind⟩
 | x::l,m,h=>by
  cases hd:x.dst with
  |none=>
   simp only[qV,hd]at h;obtain⟨h1,h2⟩:=lH l m h
   grind
  |some d=>
   simp only[qV,hd,and_eq_true,not_eq_true']at h;obtain⟨h1,h2⟩:=lH l _ h.2
   grind
theorem yp{ops:Array Oper}(h:C0 ops=true):sW ops (cj (eL ops))/\Cn ops/\(Region.departs ops=true->(Region.linearise .gc ops 0).length=ops.size):=by
 simp only[C0,and_eq_true]at h;obtain⟨⟨⟨h1,h2⟩,h3⟩,h4⟩:=h;have hB:Cn ops:=λi o ho e he=>by
  have:=pk ops.toList 0 h1 i o (by simpa using ho) e he;rwa[zero_add]at this
 have hbi:=KD hB;have hlt:∀j i,cj (eL ops) j i=true->i<j:=by
  intro j
  induction j using Nat.strongRecOn with
  |_ j ih=>
   intro i hb;obtain⟨o,ho,e,he,hbe,hh⟩:=(hbi j i).1 hb;have:=hB.lt ho he hbe;rcases hh with hh|hh
   ·omega
   ·have:=ih _ this i hh;omega
 refine⟨⟨hlt,?_,?_,?_,?_,?_⟩,hB,?_⟩
 ·intro k
  induction k using Nat.strongRecOn with
  |_ k ih=>
   intro j i h5 h6;obtain⟨o,ho,e,he,hbe,hh⟩:=(hbi k j).1 h5;refine(hbi k i).2 ⟨o,ho,e,he,hbe,.inr ?_⟩;rcases hh with rfl|hh
   ·exact h6
   ·exact ih _ (hB.lt ho he hbe) j i hh h6
 ·intro L hL pre j
  induction j using Nat.strongRecOn generalizing pre with
  |_ j ih=>
   intro suf heq i hb;obtain⟨o,ho,e,he,hbe,hh⟩:=(hbi j i).1 hb;have hm:=hL.Sw pre j suf heq o ho e he hbe;rcases hh with rfl|hh
   ·exact hm
   ·obtain⟨p1,p2,rfl⟩:=List.append_of_mem hm;exact mem_append_left _ (ih _ (hB.lt ho he hbe) p1 (p2++j::suf) (by rw[heq];simp) i hh)
 ·intro j o t ho ht i o' ho' hd;have h5:=(lh ops.toList 0 h4 j o (by simpa using ho)).1 t ht;rw[zero_add]at h5;have:=m7 ops.toList 0 h5 i o' (by simpa using ho') hd;rwa[zero_add]at this
 ·intro j o i b ho hg;have h5:=(lh ops.toList 0 h4 j o (by simpa using ho)).2 i b hg;rwa[zero_add]at h5
 ·intro i j o o' t ho ho' ht ht';exact(lH ops.toList 0 h2).2 i j o o' t (by simpa using ho) (by simpa using ho') ht ht'
 grind
theorem lS(hN:cV P){cf:br}(hcf:ke P gl cf):∀{d c:Code},Part d c->bp c=true->ib P gl cf d:=by
 have key:∀c,bp c=true->ib P gl cf c:=by
  intro c h id ops heq;subst heq;obtain⟨h1,h2,h3⟩:=yp h;exact Ib hN hcf h1 h2 h3 id ops rfl
 intro d c hp
 induction hp with
 |refl=>grind
 |DQ _ ih=>simp_all[bp]
 |zn _ ih=>simp_all[bp]
 |MJ _ ih=>simp_all[bp]
 |MH _ ih=>simp_all[bp]
 |block _ ih=>grind[bp]
 |loop _ ih=>grind[bp]
theorem iO(hN:cV P):wj P gl:=λ_ hcf _ _ hp h=>lS hN hcf hp h
def dk(fn:Func):Bool:=match fn.body with|some c=>bp c|none=>true
theorem rf(hN:cV P)(h:∀(f:FuncId) (fn:Func),P.funcs[f]?=some fn->dk fn=true):zJ P gl:=λcf hcf f fn c d hf hb hp=>by grind[lS,dk]
end
section
variable {α:Type}
def Ref(bad x:Bool)(run:Option α)(K:α->Bool):Prop:=x=bad\/ ∃r,run=some r/\x=K r
theorem Ref.bad{b:Bool}{run:Option α}{K:α->Bool}:Ref b b run K:= .inl rfl
theorem Ref.of{b x:Bool}{run:Option α}{K:α->Bool}{r:α}(h:run=some r)(hx:x=K r):Ref b x run K:= .inr ⟨r,h,hx⟩
theorem cX(n:Nat)(c:Nat->Bool):fY n c=c n:=by cases n<;>rfl
theorem yw(n:Int)(c:Int->Bool):Ik n c=c n:=by
 cases n with
 |ofNat n=>exact cX n λn=>c (.ofNat n)
 |negSucc n=>exact cX n λn=>c (.negSucc n)
theorem AJ(a:Option Addr)(K:Option Addr->Bool):ED a K=K a:=by
 rcases a with _|⟨b,o,s⟩
 ·rfl
 ·show fY b (λb=>fY o λo=>K (some ⟨b,o,s⟩))=_;rw[cX,cX]
theorem dc(v:Value)(K:Value->Bool):gT v K=K v:=by
 cases v with
 |int k n=>exact yw n λn=>K (.int k n)
 |pointer a=>exact AJ a λa=>K (.pointer a)
 |slice a n c=>
  show ED a (λa=>fY n λn=>fY c λc=>K (.slice a n c))=_;rw[AJ,cX,cX]
 |_=>rfl
theorem eR{β:Type}{bad:Bool}{x:Option α}{K:α->Bool}{run:Option β}{K':β->Bool}(h:∀a,x=some a->Ref bad (K a) run K'):Ref bad (vH bad x K) run K':=by
 cases x with
 |none=>exact .bad
 |some a=>exact h a rfl
theorem cD{β:Type}{bad x y:Bool}{b:Bool}{run:Option β}{K':β->Bool}(h1:b=true->Ref bad x run K')(h2:b=false->Ref bad y run K'):Ref bad (dW b x y) run K':=by
 cases b with
 |true=>exact h1 rfl
 |false=>exact h2 rfl
theorem qH(l:List Value):∀(K:List Value->Bool),qG l K=K l:=by
 induction l with
 |nil=>intro K;rfl
 |cons a l ih=>intro K;exact ih λr=>K (a::r)
theorem uo:∀(l:List α)(i:Nat),nth l i=l[i]?
 |[],_=>rfl
 |_::_,0=>rfl
 |_::l,i+1=>uo l i
theorem xm(v:Value)(bad:Bool):∀(l:List Value)(i:Nat)(K:List Value->Bool),zo v bad l i K=if i<l.length then K (l.set i v)else bad
 |[],i,K=>by simp[zo]
 |a::l,0,K=>by show K (v::l)=_;simp
 |a::l,i+1,K=>by
  show zo v bad l i (λr=>K (a::r))=_;rw[xm v bad l i];simp
theorem HT.dt(b:Option bt):∀(p:yb)(t:HT)(K:HT->Bool),HT.jF b p t K=K (HT.set b p t)
 |.e,.nil,_=>rfl
 |.e,.node ..,_=>rfl
 |.l p,.nil,K=>HT.dt b p .nil λl=>K (.node none l .nil)
 |.l p,.node v l r,K=>HT.dt b p l λl=>K (.node v l r)
 |.r p,.nil,K=>HT.dt b p .nil λr=>K (.node none .nil r)
 |.r p,.node v l r,K=>HT.dt b p r λr=>K (.node v l r)
theorem pB(b:bt)(K:bt->Bool):AK b K=K b:=by
 cases b with
 |cells cs t sz wr=>exact qH cs λcs=>K (.cells cs t sz wr)
 |map es=>rfl
 |loop=>rfl
theorem su(u:cL)(h:aa)(K:aa->Bool):KA u h K=K (u.app h):=by
 cases u with
 |no=>rfl
 |set k b=>show J4 k b h K=_;unfold J4;rw[pB,HT.dt];rfl
 |push b=>show oU b h K=_;unfold oU;rw[pB,HT.dt,cX];rfl
 |move k b=>show D6 k b h K=_;unfold D6;rw[pB,HT.dt,HT.dt,cX];rfl
 |all h'=>rfl
theorem Mw{k:IntKind}{m:Nat}(h:m<lim k):k.wrap (m:Int)=m:=by
 have key:∀(s:Bool)(b:Nat),(m:Int)<2^b->(s=true->(m:Int)<2^(b-1))->(if s&&decide ((m:Int)%2^b>=2^(b-1))then(m:Int)%2^b-2^b else(m:Int)%2^b)=m:=by
  intro s b h1 h2;have hm:(m:Int)%2^b=m:=Int.emod_eq_of_lt (by omega) h1;rw[hm]
  cases s with
  |false=>rfl
  |true=>
   have:=h2 rfl;rw[if_neg];simp only[Bool.true_and,ge_iff_le,decide_eq_true_eq];omega
 unfold IntKind.wrap
 cases k<;>exact key _ _ (by simp only[lim,IntKind.bits]at h⊢;omega) (by simp only[lim,IntKind.bits,IntKind.signed]at h⊢;first|(intro hh;omega)|(intro hh;cases hh))
theorem Ci(k:IntKind)(n:Int)(K:Int->Bool):Ke k n K=K (k.wrap n):=by
 cases n with
 | ofNat m=>
  show dW (Nat.blt m (lim k)) (fY m λm=>K (.ofNat m)) (Ik (k.wrap (.ofNat m)) K)=_
  cases hb:Nat.blt m (lim k)with
  |true=>
   have hlt:m<lim k:=by simpa[blt_eq]using hb
   show fY m (λm=>K (.ofNat m))=_;rw[cX];exact congrArg K (Mw hlt).symm
  |false=>exact yw _ K
 |negSucc m=>exact yw _ K
theorem pH(a b:Int):AZ a b=decide (a<b):=by
 cases a with
 |ofNat m=>cases b with
  |ofNat n=>show Nat.blt m n=_;rw[Bool.eq_iff_iff];simp[blt_eq]
  |negSucc n=>show false=_;rw[Bool.eq_iff_iff];simp;omega
 |negSucc m=>cases b with
  |ofNat n=>show true=_;rw[Bool.eq_iff_iff];simp;omega
  |negSucc n=>show Nat.blt n m=_;rw[Bool.eq_iff_iff];simp[blt_eq];omega
theorem tU(a b:Int):EL a b=(a==b):=by
 cases a with
 |ofNat m=>cases b with
  |ofNat n=>show Nat.beq m n=_;rw[Bool.eq_iff_iff];simp[beq_eq];omega
  |negSucc n=>show false=_;rw[Bool.eq_iff_iff];simp
 |negSucc m=>cases b with
  |ofNat n=>show false=_;rw[Bool.eq_iff_iff];simp
  |negSucc n=>show Nat.beq n m=_;rw[Bool.eq_iff_iff];simp[beq_eq];omega
end
section
def nK(cx:Cx)(cf:br):Prop:=∀f args h K,Ref cx.bad (cx.cf f args h K) (cf f args h) λr=>K r.1 r.2
noncomputable abbrev jl(h:aa)(K:Value->aa->Bool)(r:Value×cL):Bool:=K r.1 (r.2.app h)
theorem uy{bad:Bool}{r:Option (Value×cL)}{h:aa}{K:Value->aa->Bool}{run:Option (Value×cL)}(hr:∀x,r=some x->run=some x):Ref bad (Dy bad r h K) run (jl h K):=by
 unfold Dy;refine eR λx hx=> .of (hr x hx) ?_;obtain⟨v,u⟩:=x;show KA u h (λh=>gT v λv=>K v h)=_;rw[su,dc]
theorem oL{P:Program}{cf:br}{ρ:Operand->Value}{o:Oper}{h:aa}(hc:aI o=false):cB P eJ ρ o h=cB P cf ρ o h:=by
 obtain⟨dst,op,ty,pos,after,guard⟩:=o
 cases op<;>try rfl
 rename_i c;obtain⟨callee,args,ats⟩:=c
 cases callee with
 |value f=>simp[aI]at hc
 |invoke r m=>rfl
 |builtin b=>cases b<;>rfl
theorem uu{P:Program}{cf:br}{ρ:Operand->Value}{o:Oper}{h:aa}(hc:aI o=false):aP P eJ ρ o h=aP P cf ρ o h:=by
 unfold aP;rw[oL hc]
variable {cx:Cx} {cf:br} {ρ:Operand->Value} {h:aa} {K:Value->aa->Bool} {dst:Option Tmp} {ty:TypeId} {pos:String} {after:Array Edge} {guard:Option (Nat×Bool)}
theorem eU{o:Oper}(hc:aI o=false):Ref cx.bad (gen cx o ρ h K) (aP cx.P cf ρ o h) (jl h K):=
 uy λx hx=>by rw[<-uu hc];exact hx
theorem run_pure{P:Program}{o:Oper}{v:Value}(hp:aK P ρ o=some v):aP P cf ρ o h=some (v,.no):=by
 unfold aP;rw[hp]
theorem I0{x:Operand}:Ref cx.bad (Eu x cx ⟨dst,.move x,ty,pos,after,guard⟩ ρ h K) (aP cx.P cf ρ ⟨dst,.move x,ty,pos,after,guard⟩ h) (jl h K):=
 .of (run_pure (v:=ρ x) rfl) (dc _ _)
theorem CJ{x:Operand}:Ref cx.bad (Eu x cx ⟨dst,.assign x,ty,pos,after,guard⟩ ρ h K) (aP cx.P cf ρ ⟨dst,.assign x,ty,pos,after,guard⟩ h) (jl h K):=
 .of (run_pure (v:=ρ x) rfl) (dc _ _)
theorem wD{α:Type}{v:Value}{bad:Bool}{K:Bool->Bool}{run:Option α}{K':α->Bool}(hh:∀b,v = .bool b->Ref bad (K b) run K'):Ref bad (ri v bad K) run K':=by
 rcases Ag v bad K with⟨h1,_⟩|⟨b,h1,h2⟩
 ·rw[h1];exact .bad
 ·rw[h2];exact hh b h1
theorem jr{α:Type}{v:Value}{bad els:Bool}{K:IntKind->Int->Bool}{run:Option α}{K':α->Bool}(he:Ref bad els run K')(hh:∀k n,v = .int k n->Ref bad (K k n) run K'):Ref bad (vR v els K) run K':=by
 rcases Li v els K with⟨h1,_⟩|⟨k,n,h1,h2⟩
 ·rw[h1];exact he
 ·rw[h2];exact hh k n h1
theorem mR{α:Type}{v:Value}{bad els:Bool}{K:Option Addr->Bool}{run:Option α}{K':α->Bool}(he:Ref bad els run K')(hh:∀a,v = .pointer a->Ref bad (K a) run K'):Ref bad (BA v els K) run K':=by
 rcases LY v els K with⟨h1,_⟩|⟨a,h1,h2⟩
 ·rw[h1];exact he
 ·rw[h2];exact hh a h1
theorem BZ{α:Type}{v:Value}{bad:Bool}{K:ByteArray->Bool}{run:Option α}{K':α->Bool}(hh:∀s,v = .string s->Ref bad (K s) run K'):Ref bad (sM v bad K) run K':=by
 rcases DZ v bad K with⟨h1,_⟩|⟨a,h1,h2⟩
 ·rw[h1];exact .bad
 ·rw[h2];exact hh a h1
theorem uW{α:Type}{v:Value}{bad:Bool}{K:Option Addr->Nat->Nat->Bool}{run:Option α}{K':α->Bool}(hh:∀a n c,v = .slice a n c->Ref bad (K a n c) run K'):Ref bad (uV v bad K) run K':=by
 rcases GX v bad K with⟨h1,_⟩|⟨a,n,c,h1,h2⟩
 ·rw[h1];exact .bad
 ·rw[h2];exact hh a n c h1
theorem F0{α:Type}{v:Value}{bad:Bool}{K:Fn->Array Value->Array Value->Bool}{run:Option α}{K':α->Bool}(hh:∀f a c,v = .func f a c->Ref bad (K f a c) run K'):Ref bad (funcF v bad K) run K':=by
 rcases AS v bad K with⟨h1,_⟩|⟨f,a,c,h1,h2⟩
 ·rw[h1];exact .bad
 ·rw[h2];exact hh f a c h1
theorem Hu{α:Type}{v:Value}{bad:Bool}{K:Array Value->Bool}{run:Option α}{K':α->Bool}(hh:∀a,v = .agg a->Ref bad (K a) run K'):Ref bad (Kv v bad K) run K':=by
 rcases Kw v bad K with⟨h1,_⟩|⟨a,h1,h2⟩
 ·rw[h1];exact .bad
 ·rw[h2];exact hh a h1
theorem D5{α:Type}{v:Value}{bad:Bool}{K:Array Value->Bool}{run:Option α}{K':α->Bool}(hh:∀a,v = .tuple a->Ref bad (K a) run K'):Ref bad (zt v bad K) run K':=by
 rcases Hb v bad K with⟨h1,_⟩|⟨a,h1,h2⟩
 ·rw[h1];exact .bad
 ·rw[h2];exact hh a h1
theorem Bi{α:Type}{j:Int}{bad:Bool}{K:Nat->Bool}{run:Option α}{K':α->Bool}(hh:∀n:Nat,j=n->Ref bad (K n) run K'):Ref bad (N3 j bad K) run K':=by
 cases j with
 |ofNat n=>exact hh n rfl
 |negSucc n=>exact .bad
theorem ki{α:Type}{a:Option Addr}{bad:Bool}{K:Nat->Nat->Bool}{run:Option α}{K':α->Bool}(hh:∀b i,a=some ⟨b,i,none⟩->Ref bad (K b i) run K'):Ref bad (z6 a bad K) run K':=by
 rcases a with _|⟨b,i,_|s⟩
 ·exact .bad
 ·exact hh b i rfl
 ·exact .bad
theorem BJ{α:Type}{k:Nat}{bad:Bool}{K:List Value->TypeId->Nat->Bool->Bool}{run:Option α}{K':α->Bool}(hh:∀cs t sz wr,h.get k=some (.cells cs t sz wr)->Ref bad (K cs t sz wr) run K'):Ref bad (L7 h k bad K) run K':=by
 unfold L7;refine eR λB hB=>?_
 cases B with
 |cells cs t sz wr=>exact hh cs t sz wr hB
 |map es=>exact .bad
 |loop=>exact .bad
theorem Jd{c a b:Operand}:Ref cx.bad (HO c a b cx ⟨dst,.pick c a b,ty,pos,after,guard⟩ ρ h K) (aP cx.P cf ρ ⟨dst,.pick c a b,ty,pos,after,guard⟩ h) (jl h K):=by
 unfold HO;refine wD λt ht=>?_;refine cD (λhb=>?_) (λhb=>?_)
 ·rw[dc];exact .of (run_pure (v:=ρ a) (by simp[aK,ht,hb])) rfl
 ·rw[dc];exact .of (run_pure (v:=ρ b) (by simp[aK,ht,hb])) rfl
theorem Bp{b:bt}{f:Nat->Value}{o:Oper}(hp:aK cx.P ρ o=none)(hr:aT cx.P ρ o h=none)(ha:aJ cx.P ρ o=some (b,f))(hf:∀k,f k = .pointer (some ⟨k,0,none⟩)):
  Ref cx.bad (LN b h K) (aP cx.P cf ρ o h) (jl h K):=by
 refine .of (r:=(f h.next,.push b)) (by unfold aP;rw[hp,hr,ha]) ?_;unfold LN;rw[cX];have:=su (.push b) h (λh'=>K (Value.pointer (some ⟨h.next,0,none⟩)) h');rw[hf];exact this
theorem Fw{t:TypeId}:Ref cx.bad (CP t cx ⟨dst,.alloc t,ty,pos,after,guard⟩ ρ h K) (aP cx.P cf ρ ⟨dst,.alloc t,ty,pos,after,guard⟩ h) (jl h K):=by
 unfold CP;refine eR λb hb=>?_;unfold Hz at hb;split at hb
 ·next z hz=>
  split at hb
  ·next hs=>
   obtain rfl:=oI hb;exact Bp (f:=λk=> .pointer (some ⟨k,0,none⟩)) rfl rfl (by simp only[aJ,hz,hs,if_true]) λ_=>rfl
  ·cases hb
 ·cases hb
theorem KG{t:TypeId}{x:Operand}:Ref cx.bad (Nu t x cx ⟨dst,.box t x,ty,pos,after,guard⟩ ρ h K) (aP cx.P cf ρ ⟨dst,.box t x,ty,pos,after,guard⟩ h) (jl h K):=by
 unfold Nu;refine cD (λhb=>?_) (λ_=>eU rfl);rw[BQ]at hb;rw[dc];have hc:(ρ x).cells = #[ρ x]:=by
  generalize ρ x=v at hb
  cases v<;>first|rfl|(simp[cH]at hb)
 refine Bp (f:=λk=> .pointer (some ⟨k,0,none⟩)) rfl rfl ?_ λ_=>rfl;simp only[aJ,hc];rw[if_pos (by simp[hb])]
theorem IM{t:TypeId}{a:Operand}:Ref cx.bad (HN t a cx ⟨dst,.load t a,ty,pos,after,guard⟩ ρ h K) (aP cx.P cf ρ ⟨dst,.load t a,ty,pos,after,guard⟩ h) (jl h K):=by
 have hrun:∀v,ag cx.P t h (ρ a)=some v->aP cx.P cf ρ ⟨dst,.load t a,ty,pos,after,guard⟩ h=some (v,.no):=λv hv=>by
  show(match aT cx.P ρ ⟨dst,.load t a,ty,pos,after,guard⟩ h with|some v=>some (v,cL.no)|none=>_)=_;simp only[aT,hv]
 unfold HN;refine cD (λhb=>?_) (λ_=>eR λv hv=> .of (hrun v hv) rfl);refine mR .bad λad had=>ki λb i hbi=>BJ λcs te sz wr hg=>eR λv hv=> .of (hrun v ?_) rfl;rw[uo]at hv;unfold zf at hb;simp only[and_eq_true,not_eq_true']at hb;obtain⟨hb1,hb2⟩:=hb
 cases hu:cx.P.underlying t with
 |none=>rw[hu]at hb1;cases hb1
 |some u=>simp only[ag,hu,had,hbi,hg,hb2,false_eq_true,if_false,hv]
theorem G2{t:TypeId}{a x:Operand}:Ref cx.bad (CT t a x cx ⟨dst,.store t a x,ty,pos,after,guard⟩ ρ h K) (aP cx.P cf ρ ⟨dst,.store t a x,ty,pos,after,guard⟩ h) (jl h K):=by
 have hrun:∀r,an cx.P t (ρ a) (ρ x) h=some r->aP cx.P cf ρ ⟨dst,.store t a x,ty,pos,after,guard⟩ h=some r:=λr hr=>by
  show cB cx.P cf ρ ⟨dst,.store t a x,ty,pos,after,guard⟩ h=_;exact hr
 unfold CT;refine cD (λhb=>?_) (λ_=>uy hrun);simp only[and_eq_true,BQ]at hb;obtain⟨hb1,hb2⟩:=hb;have hc:(ρ x).cells = #[ρ x]:=by
  generalize ρ x=v at hb2
  cases v<;>first|rfl|(simp[cH]at hb2)
 refine mR .bad λad had=>ki λb i hbi=>BJ λcs te sz wr hg=>cD (λhw=>?_) (λ_=> .bad);rw[dc,xm];by_cases hlt:i<cs.length
 ·rw[if_pos hlt,HT.dt];refine .of (r:=(undef,.set b (.cells (cs.set i (ρ x)) te sz true))) (hrun _ ?_) rfl;have hs1:aw cx.P t=some 1:=by simpa[MZ]using hb1
  subst hw;simp only[an,had,hbi,hc,hs1,List.size_toArray,length_cons,length_nil,storeAt,hg];rw[if_pos trivial,if_pos ⟨by omega,by simpa using hb2⟩];simp only[map_some];rw[List.set_eq_take_append_cons_drop,if_pos hlt];simp
 ·rw[if_neg hlt];exact .bad
end
section
variable {cx:Cx} {cf:br} {ρ:Operand->Value} {h:aa} {K:Value->aa->Bool} {dst:Option Tmp} {ty:TypeId} {pos:String} {after:Array Edge} {guard:Option (Nat×Bool)}
theorem y3{x:Operand}:Ref cx.bad (qx x cx ⟨dst,.nilCheck x,ty,pos,after,guard⟩ ρ h K) (aP cx.P cf ρ ⟨dst,.nilCheck x,ty,pos,after,guard⟩ h) (jl h K):=by
 unfold qx;refine mR (eU rfl) λa ha=>eR λad had=>?_;subst had;exact .of (run_pure (v:= .pointer (some ad)) (by simp[aK,ha])) rfl
theorem qp{op:BinOp}{f:Int->Int->Int}{t u:TypeId}{x y:Operand}(hf:∀k a b,aq cx.P op t (.int k a) (.int k b)=some (.int k (k.wrap (f a b)))):
  Ref cx.bad (td f x y cx ⟨dst,.binOp op t x y u,ty,pos,after,guard⟩ ρ h K) (aP cx.P cf ρ ⟨dst,.binOp op t x y u,ty,pos,after,guard⟩ h) (jl h K):=by
 unfold td;refine jr (eU rfl) λk a ha=>jr .bad λk' b hb=>cD (λhk=>?_) (λ_=> .bad);obtain rfl:=yJ hk;rw[Ci];exact .of (run_pure (v:= .int k (k.wrap (f a b))) (by simp only[aK,ha,hb,hf])) rfl
theorem nc{op:BinOp}{f:Int->Int->Bool}{t u:TypeId}{x y:Operand}(hf:∀k a b,aq cx.P op t (.int k a) (.int k b)=some (.bool (f a b))):
  Ref cx.bad (z7 f x y cx ⟨dst,.binOp op t x y u,ty,pos,after,guard⟩ ρ h K) (aP cx.P cf ρ ⟨dst,.binOp op t x y u,ty,pos,after,guard⟩ h) (jl h K):=by
 unfold z7;refine jr (eU rfl) λk a ha=>jr .bad λk' b hb=>cD (λhk=>?_) (λ_=> .bad);obtain rfl:=yJ hk;have hp:=run_pure (cf:=cf) (h:=h) (P:=cx.P) (ρ:=ρ) (o:=⟨dst,.binOp op t x y u,ty,pos,after,guard⟩) (v:= .bool (f a b)) (by simp only[aK,ha,hb,hf]);refine cD (λhc=>?_) (λhc=>?_)
 ·rw[hc]at hp;exact .of hp rfl
 ·rw[hc]at hp;exact .of hp rfl
theorem Fz{op:BinOp}{t u:TypeId}{x y:Operand}:Ref cx.bad (PX op t x y u cx ⟨dst,.binOp op t x y u,ty,pos,after,guard⟩ ρ h K) (aP cx.P cf ρ ⟨dst,.binOp op t x y u,ty,pos,after,guard⟩ h) (jl h K):=by
 cases op with
 |add=>exact qp λk a b=>by simp[aq,Qv]
 |sub=>exact qp λk a b=>by simp[aq,Qx]
 |mul=>exact qp λk a b=>by simp[aq,Qw]
 |eql=>exact nc λk a b=>by simp[aq,intCmp,tU]
 |neq=>exact nc λk a b=>by simp only[aq,intCmp,TJ,tU,if_true,map_some];simp[bne]
 |lss=>exact nc λk a b=>by simp[aq,intCmp,pH]
 |leq=>exact nc λk a b=>by simp only[aq,intCmp,TI,pH,if_true,map_some];rw[<-decide_not];simp[Int.not_lt]
 |gtr=>exact nc λk a b=>by simp[aq,intCmp,TG,pH]
 |geq=>exact nc λk a b=>by simp only[aq,intCmp,TF,pH,if_true,map_some];rw[<-decide_not];simp[Int.not_lt]
 |_=>exact eU (o:=⟨dst,_,ty,pos,after,guard⟩) rfl
theorem J2{op:UnOp}{t:TypeId}{x:Operand}:Ref cx.bad (PY op t x cx ⟨dst,.unOp op t x,ty,pos,after,guard⟩ ρ h K) (aP cx.P cf ρ ⟨dst,.unOp op t x,ty,pos,after,guard⟩ h) (jl h K):=by
 cases op with
 |not=>
  show Ref cx.bad (Pq x cx ⟨dst,.unOp .not t x,ty,pos,after,guard⟩ ρ h K) _ _;unfold Pq;refine wD λb hb=>?_;have hp:=run_pure (cf:=cf) (h:=h) (P:=cx.P) (ρ:=ρ) (o:=⟨dst,.unOp .not t x,ty,pos,after,guard⟩) (v:= .bool !b) (by simp only[aK,hb,xM]);refine cD (λhc=>?_) (λhc=>?_)
  ·rw[hc]at hp;exact .of hp rfl
  ·rw[hc]at hp;exact .of hp rfl
 |neg=>rw[show PY .neg t x=gen from rfl];exact eU rfl
 |xor=>rw[show PY .xor t x=gen from rfl];exact eU rfl
 |plus=>rw[show PY .plus t x=gen from rfl];exact eU rfl
theorem Al{s d:TypeId}{x:Operand}:Ref cx.bad (tp s d x cx ⟨dst,.convert s d x,ty,pos,after,guard⟩ ρ h K) (aP cx.P cf ρ ⟨dst,.convert s d x,ty,pos,after,guard⟩ h) (jl h K):=by
 unfold tp
 cases hk:SK cx.P s d with
 |none=>exact eU rfl
 | some k=>
  refine jr .bad λk' n hn=>?_;rw[Ci];refine .of (run_pure (v:= .int k (k.wrap n)) ?_) rfl;unfold SK at hk;split at hk
  ·next u k2 hs hd=>
   obtain rfl:=oI hk;simp only[aK,dC,hs,hd,hn]
  ·cases hk
theorem qk(b i n:Nat):Addr.add ⟨b,i,none⟩ n=⟨b,i+n,none⟩:=by
 unfold Addr.add;split
 ·next hn=>subst hn;rfl
 ·rfl
theorem vO{s:TypeId}{x:Operand}{f:Nat}:Ref cx.bad (ot s x f cx ⟨dst,.fieldAddr s x f,ty,pos,after,guard⟩ ρ h K) (aP cx.P cf ρ ⟨dst,.fieldAddr s x f,ty,pos,after,guard⟩ h) (jl h K):=by
 unfold ot;refine eR λoff hoff=>mR .bad λa ha=>ki λb i hbi=>?_;rw[cX];refine .of (run_pure (v:= .pointer (some ⟨b,i+off,none⟩)) ?_) rfl;subst hbi;unfold Qn at hoff;split at hoff
 ·next fields hu=>
  split at hoff
  ·next fd hfd=>
   split at hoff
   ·next hsz=>
    obtain rfl:=oI hoff;simp only[aK,hu,ha,hfd];rw[if_pos hsz,qk]
   ·cases hoff
  ·cases hoff
 ·cases hoff
theorem FX{s:TypeId}{x:Operand}{f:Nat}:Ref cx.bad (CR s x f cx ⟨dst,.field s x f,ty,pos,after,guard⟩ ρ h K) (aP cx.P cf ρ ⟨dst,.field s x f,ty,pos,after,guard⟩ h) (jl h K):=by
 unfold CR
 cases hoff:Db cx.P s f with
 |none=>exact eU rfl
 | some off=>
  refine Hu λcs hcs=>eR λv hv=>?_;rw[dc];refine .of (run_pure (v:=v) ?_) rfl;rw[uo]at hv;unfold Db at hoff;split at hoff
  ·next fields hu=>
   split at hoff
   ·next fd hfd=>
    split at hoff
    ·next hp=>
     obtain rfl:=oI hoff;unfold zf at hp;simp only[and_eq_true,not_eq_true']at hp;obtain⟨hp1,hp2⟩:=hp
     cases hu2:cx.P.underlying fd.type with
     |none=>rw[hu2]at hp1;cases hp1
     |some u=>
      simp only[aK,hu,hcs,hfd,partOf,hu2,hp2,false_eq_true,if_false];simpa using hv
    ·cases hoff
   ·cases hoff
  ·cases hoff
theorem vQ{t:TypeId}{x i:Operand}:Ref cx.bad (oy t x i cx ⟨dst,.indexAddr t x i,ty,pos,after,guard⟩ ρ h K) (aP cx.P cf ρ ⟨dst,.indexAddr t x i,ty,pos,after,guard⟩ h) (jl h K):=by
 unfold oy;refine eR λinf hinf=>?_;obtain⟨len,n⟩:=inf;refine jr .bad λk j hj=>Bi λm hm=>?_;subst hm;unfold MM at hinf;split at hinf
 ·next ln e hu=>
  obtain⟨n',hn,he⟩:=map_eq_some_iff.1 hinf;simp only[Prod.mk.injEq]at he;obtain⟨rfl,rfl⟩:=he;refine mR .bad λa ha=>?_;unfold elemAt;refine cD (λhlt=>ki λb o hbo=>?_) (λ_=> .bad);rw[cX];refine .of (run_pure (v:= .pointer (some ⟨b,o+m*n',none⟩)) ?_) rfl;subst hbo;have hlt:m<ln:=by simpa[blt_eq]using hlt
  simp only[aK,hu,ha,hj,hn];rw[if_pos ⟨by omega,by omega⟩,qk];rfl
 ·next e hu=>
  obtain⟨n',hn,he⟩:=map_eq_some_iff.1 hinf;simp only[Prod.mk.injEq]at he;obtain⟨rfl,rfl⟩:=he;refine uW λa l c ha=>?_;unfold elemAt;refine cD (λhlt=>ki λb o hbo=>?_) (λ_=> .bad);rw[cX];refine .of (run_pure (v:= .pointer (some ⟨b,o+m*n',none⟩)) ?_) rfl;subst hbo;have hlt:m<l:=by simpa[blt_eq]using hlt
  simp only[aK,hu,ha,hj,hn];rw[if_pos ⟨by omega,by omega⟩,qk];rfl
 ·cases hinf
theorem F8{t:TypeId}{x i:Operand}:Ref cx.bad (CS t x i cx ⟨dst,.index t x i,ty,pos,after,guard⟩ ρ h K) (aP cx.P cf ρ ⟨dst,.index t x i,ty,pos,after,guard⟩ h) (jl h K):=by
 unfold CS;refine cD (λhs=>BZ λs hsx=>jr .bad λk j hj=>Bi λm hm=>eR λb hb=>?_) (λ_=>eU rfl);rw[cX];subst hm;rw[uo]at hb;refine .of (run_pure (v:= .int .u8 b.toNat) ?_) rfl;unfold isStr at hs;split at hs
 ·next hu=>
  simp only[aK,hu,hsx,hj];rw[if_pos (by omega)];simp only[Int.toNat_natCast,hb]
 ·cases hs
theorem AI{x:Operand}{i:Nat}:Ref cx.bad (tq x i cx ⟨dst,.extract x i,ty,pos,after,guard⟩ ρ h K) (aP cx.P cf ρ ⟨dst,.extract x i,ty,pos,after,guard⟩ h) (jl h K):=by
 unfold tq;refine D5 λvs hvs=>eR λv hv=>?_;rw[dc];rw[uo]at hv;exact .of (run_pure (v:=v) (by simp only[aK,hvs];simpa using hv)) rfl
theorem tH:∀(l:List Operand)(K:List Value->Bool),fArgs ρ l K=K (l.map ρ)
 |[],_=>rfl
 |x::l,K=>by
  show gT (ρ x) (λv=>fArgs ρ l λr=>K (v::r))=_;rw[dc,tH l];rfl
theorem wK{a:Array Value}(h:qC a=true):a.size=0:=by
 unfold qC at h;rw[<-length_toList];generalize a.toList=l at h
 cases l with
 |nil=>rfl
 |cons x l=>cases h
theorem HR(hcf:nK cx cf){c:Call}:Ref cx.bad (HM c cx ⟨dst,.call c,ty,pos,after,guard⟩ ρ h K) (aP cx.P cf ρ ⟨dst,.call c,ty,pos,after,guard⟩ h) (jl h K):=by
 obtain⟨callee,args,ats⟩:=c
 cases callee with
 | value f=>
  show Ref cx.bad (yh f args ats cx ⟨dst,.call ⟨.value f,args,ats⟩,ty,pos,after,guard⟩ ρ h K) _ _;unfold yh;refine F0 λfn first captured hf=>?_
  cases fn with
  |func g=>
   show Ref cx.bad (dW (Nat.blt g YB) (fArgs ρ args.toList λvs=>qG (first.toList++vs++captured.toList) λvs=>cx.cf g vs h K) cx.bad) _ _;refine cD (λhg=>?_) (λ_=> .bad);have hg:g<YB:=by simpa[blt_eq]using hg
   rw[tH,qH];rcases hcf g (first.toList++args.toList.map ρ++captured.toList) h K with hb|⟨r,h1,h2⟩
   ·rw[hb];exact .bad
   ·refine .of (r:=(r.1,.all r.2)) ?_ h2;show cB cx.P cf ρ ⟨dst,.call ⟨.value f,args,ats⟩,ty,pos,after,guard⟩ h=_;simp only[cB,mo,hf,h1,map_some,if_pos hg]
  |yield k=>
   show Ref cx.bad (dW (qC first) (dW (qC captured) (fArgs ρ args.toList λvs=>fY (YB+k) λid=>cx.cf id vs h K) cx.bad) cx.bad) _ _;refine cD (λh1=>cD (λh2=>?_) (λ_=> .bad)) (λ_=> .bad);rw[tH,cX];rcases hcf (YB+k) (args.toList.map ρ) h K with hb|⟨r,h3,h4⟩
   ·rw[hb];exact .bad
   ·refine .of (r:=(r.1,.all r.2)) ?_ h4;show cB cx.P cf ρ ⟨dst,.call ⟨.value f,args,ats⟩,ty,pos,after,guard⟩ h=_;simp only[cB,mo,hf,h3,map_some,if_pos (show first.size=0/\captured.size=0 from⟨wK h1,wK h2⟩)]
  |method _=>exact .bad
  |methodOf _ _=>exact .bad
  |via _ _ _ _=>exact .bad
 |invoke r m=>exact .bad
 | builtin b=>
  by_cases hb1:b = .append
  ·subst hb1;show Ref cx.bad (tt args ats cx ⟨dst,.call ⟨.builtin .append,args,ats⟩,ty,pos,after,guard⟩ ρ h K) _ _;unfold tt;refine uy λr hr=>?_;show cB cx.P cf ρ ⟨dst,.call ⟨.builtin .append,args,ats⟩,ty,pos,after,guard⟩ h=_;exact hr
  by_cases hb2:b = .len
  ·subst hb2;show Ref cx.bad (HS args ats cx ⟨dst,.call ⟨.builtin .len,args,ats⟩,ty,pos,after,guard⟩ ρ h K) _ _;unfold HS
   cases hl:yO cx.P args ats with
   |none=>exact eU rfl
   | some x=>
    refine uW λa n c hx=>?_;refine .of (r:=(.int .i64 n,.no)) ?_ rfl;unfold yO at hl;split at hl
    ·next y t hy ht=>
     split at hl
     ·next hs=>
      obtain rfl:=oI hl;unfold MO at hs;split at hs
      ·next e hu=>
       show(match aT cx.P ρ ⟨dst,.call ⟨.builtin .len,args,ats⟩,ty,pos,after,guard⟩ h with|some v=>some (v,cL.no)|none=>_)=_;simp only[aT,hy,ht,hu,hx]
      ·cases hs
     ·cases hl
    ·cases hl
  have hg:HM ⟨.builtin b,args,ats⟩=gen:=by
   cases b<;>first|rfl|exact absurd rfl hb1|exact absurd rfl hb2
  rw[hg];exact eU rfl
theorem sE(hcf:nK cx cf)(o:Oper):Ref cx.bad (N9 o.op cx o ρ h K) (aP cx.P cf ρ o h) (jl h K):=by
 obtain⟨dst,op,ty,pos,after,guard⟩:=o
 cases op with
 |move x=>exact I0
 |assign x=>exact CJ
 |pick c a b=>exact Jd
 |alloc t=>exact Fw
 |box t x=>exact KG
 |load t a=>exact IM
 |store t a x=>exact G2
 |nilCheck x=>exact y3
 |binOp op t x y u=>exact Fz
 |unOp op t x=>exact J2
 |convert s d x=>exact Al
 |fieldAddr s x f=>exact vO
 |field s x f=>exact FX
 |indexAddr t x i=>exact vQ
 |index t x i=>exact F8
 |extract x i=>exact AI
 |call c=>exact HR hcf
 |go _=>exact .bad
 |defer _=>exact .bad
 |panic _=>exact .bad
 |send _ _=>exact .bad
 |recv _ _ _=>exact .bad
 |select _ _=>exact .bad
 |_=>exact eU (o:=⟨dst,_,ty,pos,after,guard⟩) rfl
end
section
variable {cx:Cx} {cf:br}
def dv(n:Nat)(e:Env)(l:List Value):Prop:=l.length=n/\n<=256/\∀t,Env.get t e=l.getD t undef
theorem tF{n:Nat}{e:Env}{l:List Value}(hr:dv n e l)(gl:Nat->Bool):EB gl e=ev gl l:=by
 funext x
 cases x with
 |tmp t=>exact hr.2.2 t
 |const v=>
  show KT (plain v) v eu=if plain v then v else eu
  cases plain v<;>rfl
 |global g=>
  show KT (gl g) _ eu=if gl g then _ else eu
  cases gl g<;>rfl
 |func f=>rfl
theorem nq{n:Nat}{e:Env}{l:List Value}(hr:dv n e l)(dst:Option Tmp)(v:Value):∃e',dv n e' (eB l dst v)/\∀(K:Env->Bool),lj n dst e v K=K e':=by
 cases dst with
 |none=>exact⟨e,hr,λK=>rfl⟩
 | some d=>
  cases hd:Nat.blt d n with
  | true=>
   have hlt:d<n:=by simpa[blt_eq]using hd
   refine⟨Env.new d e v,⟨by rw[ga];exact hr.1,hr.2.1,λt=>?_⟩,λK=>?_⟩
   ·rw[Env.yG (lt_of_lt_of_le hlt hr.2.1),gD];split
    ·next he=>subst he;rw[xd (by rw[hr.1];exact hlt)];rfl
    ·next he=>rw[zi (λhh=>he (oI hh).symm),<-gD];exact hr.2.2 t
   ·show dW (Nat.blt d n) (Env.put d e v K) (K e)=_;rw[hd];exact Env.put_eq d e v K
  | false=>
   have hge:n<=d:=by
    rcases lt_or_ge d n with h|h
    ·have:Nat.blt d n=true:=by simpa[blt_eq]using h
     rw[hd]at this;cases this
    ·exact h
   refine⟨e,?_,λK=>?_⟩
   ·have:eB l (some d) v=l:=by simp only[eB];exact List.set_eq_of_length_le (by rw[hr.1];exact hge)
    rw[this];exact hr
   ·show dW (Nat.blt d n) (Env.put d e v K) (K e)=_;rw[hd];rfl
theorem F2(v:Value)(bad:Bool)(f:Bool->Bool)(sk:Bool):tR v bad f sk=bad\/(∃b,v = .bool b/\tR v bad f sk=f b)\/ ∃vs,v = .tuple vs/\tR v bad f sk=sk:=by
 cases v with
 |bool b=>exact .inr (.inl ⟨b,rfl,rfl⟩)
 |tuple vs=>exact .inr (.inr ⟨vs,rfl,rfl⟩)
 |_=>exact .inl rfl
theorem Cd{n:Nat}{e:Env}{l:List Value}(hr:dv n e l){ops:Array Oper}(o:Oper)(bad run skip:Bool):
  vd ops e bad o.guard run skip=bad\/(du ops l o=some true/\vd ops e bad o.guard run skip=run)\/(du ops l o=some false/\vd ops e bad o.guard run skip=skip):=by
 unfold du
 cases hg:o.guard with
 |none=>exact .inr (.inl ⟨rfl,rfl⟩)
 | some g=>
  obtain⟨j,want⟩:=g
  cases hd:(ops[j]?).bind (·.dst)with
  |none=>
   left;show vH bad (Ix ops j) _=bad;unfold Ix;rw[hd];rfl
  | some d=>
   have hw:vd ops e bad (some (j,want)) run skip=tR (Env.get d e) bad (λb=>Bool.rec (motive:=λ_=>Bool) (dW want skip run) (dW want run skip) b) skip:=by
    show vH bad (Ix ops j) _=_;unfold Ix;rw[hd];rfl
   rw[hw];simp only[hd];rw[hr.2.2 d];rcases F2 (l.getD d undef) bad (λb=>Bool.rec (motive:=λ_=>Bool) (dW want skip run) (dW want run skip) b) skip with h1|⟨b,h1,h2⟩|⟨vs,h1,h2⟩
   ·exact .inl h1
   ·rw[h2];simp only[h1]
    cases b<;>cases want<;>first|exact .inr (.inl ⟨rfl,rfl⟩)|exact .inr (.inr ⟨rfl,rfl⟩)
   ·rw[h2];simp only[h1];exact .inr (.inr ⟨trivial,trivial⟩)
def CE{α:Type}(n:Nat)(bad x:Bool)(run:Option (List Value×α))(K:Env->α->Bool):Prop:=x=bad\/ ∃l a e,run=some (l,a)/\dv n e l/\x=K e a
theorem uw(hcf:nK cx cf){ops:Array Oper}:∀(rest:List Oper){e:Env}{l:List Value}{h:aa}{K:Env->aa->Bool},dv cx.n e l->CE cx.n cx.bad (By cx ops rest e h K) (eA cx.P cx.gl cf ops rest l h) K
 |[],e,l,h,K,hr=> .inr ⟨l,h,e,rfl,hr,rfl⟩
 | o::rest,e,l,h,K,hr=>by
  show CE cx.n cx.bad (N8 cx ops o e h λe h=>By cx ops rest e h K) _ K;unfold N8;rcases Cd hr o cx.bad (N9 o.op cx o (EB cx.gl e) h λv h=>lj cx.n o.dst e v λe=>By cx ops rest e h K) (lj cx.n o.dst e undef λe=>By cx ops rest e h K)with h1|⟨h1,h2⟩|⟨h1,h2⟩
  ·exact .inl h1
  ·rw[h2];rcases sE hcf (ρ:=EB cx.gl e) (h:=h) (K:=λv h=>lj cx.n o.dst e v λe=>By cx ops rest e h K) o with h3|⟨⟨v,u⟩,h3,h4⟩
   ·exact .inl h3
   ·rw[h4];rw[tF hr]at h3;obtain⟨e',h5,h6⟩:=nq hr o.dst v;show CE cx.n cx.bad (lj cx.n o.dst e v λe=>By cx ops rest e (u.app h) K) _ K;rw[h6];simp only[eA,h1,h3];exact uw hcf rest h5
  ·rw[h2];obtain⟨e',h5,h6⟩:=nq hr o.dst undef;rw[h6];simp only[eA,h1];exact uw hcf rest h5
end
section
variable {cx:Cx} {cf:br}
theorem lD(base:Nat):∀(l:List (Nat×bt))(h:aa)(K:aa->Bool),jY base l h K=K (aV h base l)
 |[],_,_=>rfl
 |(i,B)::l,h,K=>by
  show jY base l h (λh=>HT.jF (some B) (pathOf (base+i)) h.t λt=>K ⟨h.next,t⟩)=_;rw[lD base l h,HT.dt];rfl
theorem HZ{P:Program}{ρ:Operand->Value}{o:Oper}{h:aa}{r:Value×cL}(hc:FI o.op = .p)(hr:aP P cf ρ o h=some r):aK P ρ o=some r.1/\r.2 = .no:=by
 obtain⟨dst,op,ty,pos,after,guard⟩:=o;unfold aP at hr
 cases hp:aK P ρ ⟨dst,op,ty,pos,after,guard⟩with
 |some v=>rw[hp]at hr;obtain rfl:=oI hr;exact⟨rfl,rfl⟩
 | none=>
  rw[hp]at hr
  cases op with
  |call c=>
   obtain⟨callee,args,ats⟩:=c
   cases callee with
   |builtin b=>cases b<;>exact nomatch hc
   |_=>exact nomatch hc
  |_=>first|(change (none:Option (Value×cL))=some r at hr;exact nomatch hr)|cases hc
theorem H0{P:Program}{ρ:Operand->Value}{o:Oper}{h:aa}{r:Value×cL}(hc:FI o.op = .r)(hr:aP P cf ρ o h=some r):aK P ρ o=none/\aT P ρ o h=some r.1/\r.2 = .no:=by
 obtain⟨dst,op,ty,pos,after,guard⟩:=o;have key:aK P ρ ⟨dst,op,ty,pos,after,guard⟩=none->(aT P ρ ⟨dst,op,ty,pos,after,guard⟩ h=none->aP P cf ρ ⟨dst,op,ty,pos,after,guard⟩ h=none)->aK P ρ ⟨dst,op,ty,pos,after,guard⟩=none/\aT P ρ ⟨dst,op,ty,pos,after,guard⟩ h=some r.1/\r.2 = .no:=λh1 h2=>by
  refine⟨h1,?_⟩
  cases hrd:aT P ρ ⟨dst,op,ty,pos,after,guard⟩ h with
  |none=>rw[h2 hrd]at hr;cases hr
  |some v=>
   unfold aP at hr;rw[h1,hrd]at hr;obtain rfl:=oI hr;exact⟨rfl,rfl⟩
 cases op with
 |load t a=>exact key rfl λh2=>by unfold aP;rw[h2];rfl
 |call c=>
  obtain⟨callee,args,ats⟩:=c
  cases callee with
  |builtin b=>cases b<;>first|exact key rfl λh2=>by unfold aP;rw[h2];rfl|cases hc
  |_=>exact nomatch hc
 |_=>exact nomatch hc
theorem KM{P:Program}{ρ:Operand->Value}{o:Oper}{h:aa}(hc:FI o.op = .e):(∀h,aK P ρ o=none/\aT P ρ o h=none/\aJ P ρ o=none)/\aP P cf ρ o h=cB P cf ρ o h:=by
 obtain⟨dst,op,ty,pos,after,guard⟩:=o
 cases op with
 |store t a x=>exact⟨λ_=>⟨rfl,rfl,rfl⟩,rfl⟩
 |call c=>
  obtain⟨callee,args,ats⟩:=c
  cases callee with
  |builtin b=>cases b<;>first|exact⟨λ_=>⟨rfl,rfl,rfl⟩,rfl⟩|cases hc
  |value f=>exact⟨λ_=>⟨rfl,rfl,rfl⟩,rfl⟩
  |_=>exact nomatch hc
 |_=>exact nomatch hc
theorem FJ{o:Oper}(hc:FI o.op = .d):aI o=false:=by
 obtain⟨dst,op,ty,pos,after,guard⟩:=o
 cases op with
 |call c=>
  obtain⟨callee,args,ats⟩:=c
  cases callee with
  |value f=>exact nomatch hc
  |_=>rfl
 |_=>rfl
noncomputable def kM(P:Program)(cf:br)(bf:Nat->Nat->Bool)(base j:Nat)(o:Oper)(ρ:Operand->Value)(h:aa)(pd:List (Nat×bt)):Option (iF×Value×aa×List (Nat×bt)):=
 match aK P ρ o with
 |some v=>some (.pure v,v,h,pd)
 | none=>match aT P ρ o h with
  |some v=>some (.read v,v,h,pd)
  | none=>match aJ P ρ o with
   |some (B,f)=>some (.alloc B (f (base+j)),f (base+j),h,(j,B)::pd)
   |none=>match cB P cf ρ o (aV h base (pd.filter λp=>bf j p.1))with
    |some (v,u)=>some (.nR v (u.app (aV h base (pd.filter λp=>bf j p.1))),v,u.app (aV h base (pd.filter λp=>bf j p.1)),pd.filter λp=> !bf j p.1)
    |none=>none
theorem H6(hcf:nK cx cf){bf:Nat->Nat->Bool}{base j:Nat}{o:Oper}{ρ:Operand->Value}{h:aa}{pd:List (Nat×bt)}{K:Na}:
  Ref cx.bad (H5 cx bf base j o ρ h pd K) (kM cx.P cf bf base j o ρ h pd) λr=>K r.1 r.2.1 r.2.2.1 r.2.2.2:=by
 unfold H5
 cases hc:FI o.op with
 |p=>
  rcases sE hcf (ρ:=ρ) (h:=h) (K:=λv _=>K (.pure v) v h pd) o with h1|⟨r,h1,h2⟩
  ·exact .inl h1
  ·obtain⟨h3,_⟩:=HZ hc h1;exact .of (r:=(.pure r.1,r.1,h,pd)) (by unfold kM;rw[h3]) h2
 |r=>
  rcases sE hcf (ρ:=ρ) (h:=h) (K:=λv _=>K (.read v) v h pd) o with h1|⟨r,h1,h2⟩
  ·exact .inl h1
  ·obtain⟨h3,h4,_⟩:=H0 hc h1;exact .of (r:=(.read r.1,r.1,h,pd)) (by unfold kM;rw[h3,h4]) h2
 |e=>
  show Ref cx.bad (jY base (pd.filter λp=>bf j p.1) h λh=>N9 o.op cx o ρ h λv h'=>K (.nR v h') v h' (pd.filter λp=> !bf j p.1)) _ _;rw[lD];rcases sE hcf (ρ:=ρ) (h:=aV h base (pd.filter λp=>bf j p.1)) (K:=λv h'=>K (.nR v h') v h' (pd.filter λp=> !bf j p.1)) o with h1|⟨⟨v,u⟩,h1,h2⟩
  ·exact .inl h1
  ·obtain⟨h3,h4⟩:=KM (P:=cx.P) (ρ:=ρ) (cf:=cf) (h:=aV h base (pd.filter λp=>bf j p.1)) hc;obtain⟨h5,h6,h7⟩:=h3 h;rw[h4]at h1;exact .of (r:=(.nR v (u.app (aV h base (pd.filter λp=>bf j p.1))),v,u.app (aV h base (pd.filter λp=>bf j p.1)),pd.filter λp=> !bf j p.1))
    (by unfold kM;rw[h5,h6,h7,h1]) h2
 | d=>
  show Ref cx.bad (NF cx bf base j o ρ h pd K) _ _;unfold NF kM
  cases hp:aK cx.P ρ o with
  |some v=>exact .of rfl (dc _ _)
  | none=>
   cases hr:aT cx.P ρ o h with
   |some v=>exact .of rfl (dc _ _)
   | none=>
    cases ha:aJ cx.P ρ o with
    |some r=>
     obtain⟨B,f⟩:=r;refine .of rfl ?_;show AK B (λB=>gT (f (base+j)) λv=>K (.alloc B v) v h ((j,B)::pd))=_;rw[pB,dc]
    | none=>
     show Ref cx.bad (jY base (pd.filter λp=>bf j p.1) h λh=>Dy cx.bad (cB cx.P eJ ρ o h) h λv h'=>K (.nR v h') v h' (pd.filter λp=> !bf j p.1)) _ _;rw[lD,oL (cf:=cf) (FJ hc)]
     cases he:cB cx.P cf ρ o (aV h base (pd.filter λp=>bf j p.1))with
     |none=>exact .bad
     |some r=>
      obtain⟨v,u⟩:=r;refine .of rfl ?_;show KA u (aV h base (pd.filter λp=>bf j p.1)) (λh'=>gT v λv=>K (.nR v h') v h' (pd.filter λp=> !bf j p.1))=_;rw[su,dc]
theorem yq{P:Program}{gl:Nat->Bool}{ops:Array Oper}{bf:Nat->Nat->Bool}{base:Nat}{o:Oper}{rest:List Oper}{j:Nat}{tm:List Value}{h:aa}{pd:List (Nat×bt)}(hw:du ops tm o=some true)
  {r:iF×Value×aa×List (Nat×bt)} (hr:kM P cf bf base j o (ev gl tm) h pd=some r):
  cw P gl cf ops bf base (o::rest) j tm h pd=(cw P gl cf ops bf base rest (j+1) (eB tm o.dst r.2.1) r.2.2.1 r.2.2.2).map λx=>((tm,r.1)::x.1,x.2):=by
 unfold kM at hr;simp only[cw,hw];split at hr
 ·next v hp=>obtain rfl:=oI hr;simp only[hp]
 ·next hp=>
  simp only[hp];split at hr
  ·next v hrd=>obtain rfl:=oI hr;simp only[hrd]
  ·next hrd=>
   simp only[hrd];split at hr
   ·next B f ha=>obtain rfl:=oI hr;simp only[ha]
   ·next ha=>
    simp only[ha];split at hr
    ·next v u he=>obtain rfl:=oI hr;simp only[he]
    ·cases hr
inductive Fs(n:Nat):List Oper->List yc->List (List Value×iF)->Prop where
 |nil:Fs n [] [] []
 |cons {o:Oper} {os:List Oper} {e:Env} {ent:iF} {tm:List Value} {a:List yc} {b:List (List Value×iF)} (h:dv n e tm) (r:Fs n os a b):Fs n (o::os) ((o,e,ent)::a) ((tm,ent)::b)
theorem kN(hcf:nK cx cf){ops:Array Oper}{bf:Nat->Nat->Bool}{base:Nat}:∀(l:List Oper){j:Nat}{e:Env}{tm:List Value}{h:aa}{pd:List (Nat×bt)}{K:List yc->Env->aa->List (Nat×bt)->Bool},dv cx.n e tm->
  gy cx ops bf base l j e h pd K=cx.bad\/ ∃recs tm' h' pd' recsF e',cw cx.P cx.gl cf ops bf base l j tm h pd=some (recs,tm',h',pd')/\dv cx.n e' tm'/\Fs cx.n l recsF recs/\gy cx ops bf base l j e h pd K=K recsF e' h' pd'
 |[],j,e,tm,h,pd,K,hr=> .inr ⟨[],tm,h,pd,[],e,rfl,hr,.nil,rfl⟩
 | o::rest,j,e,tm,h,pd,K,hr=>by
  have hu:gy cx ops bf base (o::rest) j e h pd K=vd ops e cx.bad o.guard
   (H5 cx bf base j o (EB cx.gl e) h pd λent v h pd=>lj cx.n o.dst e v λe'=>gy cx ops bf base rest (j+1) e' h pd λrecs e2 h2 pd2=>K ((o,e,ent)::recs) e2 h2 pd2)
   (lj cx.n o.dst e undef λe'=>gy cx ops bf base rest (j+1) e' h pd λrecs e2 h2 pd2=>K ((o,e,.skip)::recs) e2 h2 pd2):=rfl
  rw[hu];rcases Cd hr (ops:=ops) o cx.bad (H5 cx bf base j o (EB cx.gl e) h pd λent v h pd=>lj cx.n o.dst e v λe'=>gy cx ops bf base rest (j+1) e' h pd λrecs e2 h2 pd2=>K ((o,e,ent)::recs) e2 h2 pd2)
   (lj cx.n o.dst e undef λe'=>gy cx ops bf base rest (j+1) e' h pd λrecs e2 h2 pd2=>K ((o,e,.skip)::recs) e2 h2 pd2)with h1|⟨h1,h2⟩|⟨h1,h2⟩
  ·exact .inl h1
  ·rw[h2];rcases H6 hcf (bf:=bf) (base:=base) (j:=j) (o:=o) (ρ:=EB cx.gl e) (h:=h) (pd:=pd) (K:=λent v h pd=>lj cx.n o.dst e v λe'=>gy cx ops bf base rest (j+1) e' h pd λrecs e2 h2 pd2=>K ((o,e,ent)::recs) e2 h2 pd2)with h3|⟨⟨ent,v,h',pd'⟩,h3,h4⟩
   ·exact .inl h3
   ·rw[h4];rw[tF hr]at h3;obtain⟨e',h5,h6⟩:=nq hr o.dst v;simp only[h6];rcases kN hcf rest h5 (ops:=ops) (bf:=bf) (base:=base) (j:=j+1) (h:=h') (pd:=pd') (K:=λrecs e2 h2 pd2=>K ((o,e,ent)::recs) e2 h2 pd2)with h7|⟨recs,tm',h'',pd'',recsF,e'',h7,h8,h9,h10⟩
    ·exact .inl h7
    ·refine .inr ⟨_,_,_,_,_,_,?_,h8,.cons hr h9,h10⟩;rw[yq h1 h3,h7];rfl
  ·rw[h2];obtain⟨e',h5,h6⟩:=nq hr o.dst undef;rw[h6];rcases kN hcf rest h5 (ops:=ops) (bf:=bf) (base:=base) (j:=j+1) (h:=h) (pd:=pd) (K:=λrecs e2 h2 pd2=>K ((o,e,.skip)::recs) e2 h2 pd2)with h7|⟨recs,tm',h'',pd'',recsF,e'',h7,h8,h9,h10⟩
   ·exact .inl h7
   ·refine .inr ⟨_,_,_,_,_,_,?_,h8,.cons hr h9,h10⟩;simp only[cw,h1,h7];rfl
theorem Ie{n:Nat}{os:List Oper}{a:List yc}{b:List (List Value×iF)}(h:Fs n os a b):∀j,wJ a j=cT b j:=by
 induction h with
 |nil=>intro j;rfl
 |cons _ _ ih=>
  rename_i o os e ent tm a b _ _;intro j;show Qg ent j (wJ a (j+1))=_;rw[ih]
  cases ent<;>rfl
theorem wG(bf:Nat->Nat->Bool):∀(l:List (Nat×aa))(p:Option Nat),qB bf l p=(match p,l with|some i,(j,_)::_=>bf j i&&chained bf l|_,_=>chained bf l)
 |[],p=>by cases p<;>rfl
 | (j,h)::l,p=>by
  have ih:=wG bf l (some j);have hc:chained bf ((j,h)::l)=qB bf l (some j):=by
   rw[ih]
   cases l with
   |nil=>rfl
   |cons x l=>rfl
  cases p with
  |none=>show qB bf l (some j)=_;exact hc.symm
  |some i=>
   show dW (bf j i) (qB bf l (some j)) false=(bf j i&&chained bf ((j,h)::l));rw[hc]
   cases bf j i<;>rfl
theorem BN{P:Program}{gl:Nat->Bool}{o:Oper}{tm:List Value}{v:Value}{h:aa}:xk P o (ev gl tm) v h=fu P gl o tm v h:=by
 unfold xk fu
 cases aT P (ev gl tm) o h<;>rfl
theorem uK{P:Program}{gl:Nat->Bool}{bf:Nat->Nat->Bool}{j:Nat}{o:Oper}{tm:List Value}{v:Value}:∀(es:List (Nat×aa))(h:aa)(own:Bool),sH P bf j o (ev gl tm) v es h own=gG P gl bf j o tm v h es own
 |[],h,own=>by
  show dW own true (xk P o (ev gl tm) v h)=(own||fu P gl o tm v h);rw[BN];cases own<;>rfl
 |(x,h')::es,h,own=>by
  show dW (dW (dW own (Nat.blt j x) false) true (dW (bf j x) true (xk P o (ev gl tm) v h))) (dW (bf x j) true (sH P bf j o (ev gl tm) v es h' (Nat.blt x j))) false=(((own&&Nat.blt j x)||bf j x||fu P gl o tm v h)&&(bf x j||gG P gl bf j o tm v h' es (Nat.blt x j)));rw[BN,uK es]
  cases own<;>cases Nat.blt j x<;>cases bf j x<;>cases bf x j<;>cases fu P gl o tm v h<;>rfl
theorem GQ{os:List Oper}{a:List yc}{b:List (List Value×iF)}{bf:Nat->Nat->Bool}{h:aa}{es:List (Nat×aa)}(hr:Fs cx.n os a b):∀j,zj cx bf h es a j=eC cx.P cx.gl bf h es os b j:=by
 induction hr with
 |nil=>intro j;rfl
 | cons he _ ih=>
  rename_i o os e ent tm a b _;intro j;show MX cx bf h es j o e ent (zj cx bf h es a (j+1))=_;rw[ih]
  cases ent with
  |read v=>
   show dW (sH cx.P bf j o (EB cx.gl e) v es h true) (eC cx.P cx.gl bf h es os b (j+1)) false=(gG cx.P cx.gl bf j o tm v h es true&&eC cx.P cx.gl bf h es os b (j+1));rw[tF he,uK]
   cases gG cx.P cx.gl bf j o tm v h es true<;>rfl
  |_=>rfl
theorem FQ(hcf:nK cx cf){ops:Array Oper}{bf:Nat->Nat->Bool}{e:Env}{l:List Value}{h:aa}{K:Env->aa->Bool}(hr:dv cx.n e l):CE cx.n cx.bad (Ar cx ops bf e h K) (nf cx.P cx.gl cf ops bf l h) K:=by
 unfold Ar;rw[cX];rcases kN hcf ops.toList hr (ops:=ops) (bf:=bf) (base:=h.next) (j:=0) (h:=⟨h.next+ops.size,h.t⟩) (pd:=[]) (K:=λrecs e' h' pd=>
  dW (dW (qB bf (wJ recs 0) none) (zj cx bf ⟨h.next+ops.size,h.t⟩ (wJ recs 0) recs 0) false) (jY h.next pd h' λh'=>K e' h') cx.bad)with h1|⟨recs,tm',h',pd',recsF,e',h1,h2,h3,h4⟩
 ·exact .inl h1
 ·rw[h4,Ie h3,wG,GQ h3,lD];unfold nf;rw[h1];show CE cx.n cx.bad (dW (dW (chained bf (cT recs 0)) (eC cx.P cx.gl bf ⟨h.next+ops.size,h.t⟩ (cT recs 0) ops.toList recs 0) false) (K e' (aV h' h.next pd')) cx.bad)
   (if chained bf (cT recs 0)&&eC cx.P cx.gl bf ⟨h.next+ops.size,h.t⟩ (cT recs 0) ops.toList recs 0 then some (tm',aV h' h.next pd')else none) K
  cases chained bf (cT recs 0)with
  |false=>exact .inl rfl
  |true=>
   cases eC cx.P cx.gl bf ⟨h.next+ops.size,h.t⟩ (cT recs 0) ops.toList recs 0 with
   |false=>exact .inl rfl
   |true=>exact .inr ⟨_,_,_,rfl,h2,rfl⟩
end
def qi(n:Nat)(bad x:Bool)(run:Option (Exit×List Value×aa))(K:Exit->Env->aa->Bool):Prop:=x=bad\/ ∃ex l h e,run=some (ex,l,h)/\dv n e l/\x=K ex e h
theorem CO{n:Nat}{v:Value}{bad:Bool}{K:Bool->Bool}{run:Option (Exit×List Value×aa)}{K':Exit->Env->aa->Bool}(hh:∀b,v = .bool b->qi n bad (K b) run K'):qi n bad (ri v bad K) run K':=by
 rcases Ag v bad K with⟨h1,_⟩|⟨b,h1,h2⟩
 ·rw[h1];exact .inl rfl
 ·rw[h2];exact hh b h1
theorem mC(x:Exit)(norm:Bool)(ex:Nat->Bool)(els:Bool):(x = .normal/\fF x norm ex els=norm)\/(∃id,x = .exit id/\fF x norm ex els=ex id)\/((∀id,x≠ .exit id)/\x≠ .normal/\fF x norm ex els=els):=by
 cases x with
 |normal=>exact .inl ⟨rfl,rfl⟩
 |exit id=>exact .inr (.inl ⟨id,rfl,rfl⟩)
 |_=>exact .inr (.inr ⟨λ_=>by simp,by simp,rfl⟩)
theorem wX{cx:Cx}{c:Code}{a:iu}{cf:br}{N:Nat}(ih:∀{e l h K},dv cx.n e l->qi cx.n cx.bad (a cx e h K) (aE cx.P cx.gl cf N c l h) K):∀(m:Nat){e:Env}{l:List Value}{h:aa}{K:Exit->Env->aa->Bool},dv cx.n e l->
  qi cx.n cx.bad (Nat.rec (motive:=λ_=>Env->aa->Bool) (λ_ _=>cx.bad) (λ_ ih e h=>a cx e h λx e h=>fF x (ih e h) (λid=>K (.exit id) e h) (K x e h)) m e h) (iter (aE cx.P cx.gl cf N c) m l h) K
 |0,_,_,_,_,_=> .inl rfl
 | m+1,e,l,h,K,hr=>by
  show qi cx.n cx.bad (a cx e h λx e h=>fF x ((Nat.rec (motive:=λ_=>Env->aa->Bool) (λ_ _=>cx.bad) (λ_ ih e h=>a cx e h λx e h=>fF x (ih e h) (λid=>K (.exit id) e h) (K x e h)) m:Env->aa->Bool) e h) (λid=>K (.exit id) e h) (K x e h)) _ K;rcases ih (h:=h) (K:=λx e h=>fF x ((Nat.rec (motive:=λ_=>Env->aa->Bool) (λ_ _=>cx.bad) (λ_ ih e h=>a cx e h λx e h=>fF x (ih e h) (λid=>K (.exit id) e h) (K x e h)) m:Env->aa->Bool) e h) (λid=>K (.exit id) e h) (K x e h)) hr with h1|⟨ex,l1,h1,e1,h2,h3,h4⟩
  ·exact .inl h1
  ·rw[h4];dsimp only;rcases mC ex ((Nat.rec (motive:=λ_=>Env->aa->Bool) (λ_ _=>cx.bad) (λ_ ih e h=>a cx e h λx e h=>fF x (ih e h) (λid=>K (.exit id) e h) (K x e h)) m:Env->aa->Bool) e1 h1) (λid=>K (.exit id) e1 h1) (K ex e1 h1)with⟨rfl,h5⟩|⟨id,rfl,h5⟩|⟨h6,h7,h5⟩
   ·rw[h5];simp only[iter,h2];exact wX ih m h3
   ·rw[h5];exact .inr ⟨.exit id,l1,h1,e1,by simp only[iter,h2],h3,rfl⟩
   ·rw[h5];refine .inr ⟨ex,l1,h1,e1,?_,h3,rfl⟩;simp only[iter,h2]
    cases ex<;>first|rfl|exact absurd rfl h7
theorem N6(asg body:Code)(bad:Bool)(K:gV asg body=true->Bool):okF asg body bad K=bad\/ ∃ok,okF asg body bad K=K ok:=by
 unfold okF;have key:∀(b:Bool)(hb:gV asg body=b),(Bool.rec (motive:=λb=>gV asg body=b->Bool) (λ_=>bad) K b hb=bad)\/ ∃ok,Bool.rec (motive:=λb=>gV asg body=b->Bool) (λ_=>bad) K b hb=K ok:=by
  intro b hb
  cases b with
  |false=>exact .inl rfl
  |true=>exact .inr ⟨hb,rfl⟩
 exact key _ rfl
theorem pJ(b:Option bt)(bad:Bool)(K:Kh->List Value->List Tmp->(asg body:Code)->gV asg body=true->Bool):
  lV b bad K=bad\/ ∃st tm ps asg body ok,b=some (.loop st tm ps asg body ok)/\lV b bad K=K st tm ps asg body ok:=by
 cases b with
 |none=>exact .inl rfl
 |some B=>cases B with
  |loop st tm ps asg body ok=>exact .inr ⟨st,tm,ps,asg,body,ok,rfl,rfl⟩
  |_=>exact .inl rfl
theorem JW(e:Env):∀(n i:Nat)(K:List Value->Bool),PC e n i K=K ((List.range' i n).map λt=>Env.get t e)
 |0,_,_=>rfl
 |n+1,i,K=>by
  show gT (Env.get i e) (λv=>PC e n (i+1) λl=>K (v::l))=_;rw[dc,JW e n (i+1)];rfl
theorem JX{n:Nat}{e:Env}{l:List Value}(hr:dv n e l)(K:List Value->Bool):PC e n 0 K=K l:=by
 rw[JW];congr 1;obtain⟨h1,_,h3⟩:=hr;refine List.ext_getElem? λt=>?_;rw[List.getElem?_map];by_cases ht:t<n
 ·rw[List.getElem?_range' ht];simp only[map_some,zero_add,Nat.one_mul];rw[h3,gE (by omega),gD,gE (by omega)];rfl
 ·rw[getElem?_eq_none (by simp;omega),getElem?_eq_none (by omega)];rfl
theorem mF:∀(l:List Value)(i:Nat)(e:Env),i+l.length<=256->∃e':Env,(∀(K:Env->Bool),pG l i e K=K e')/\∀t,Env.get t e'=if i<=t/\t<i+l.length then l.getD (t-i) undef else Env.get t e
 |[],i,e,_=>⟨e,λ_=>rfl,λt=>by rw[if_neg (by simp only[length_nil];omega)]⟩
 | v::l,i,e,hl=>by
  simp only[length_cons]at hl;obtain⟨e',h1,h2⟩:=mF l (i+1) (Env.new i e v) (by omega);refine⟨e',λK=>?_,λt=>?_⟩
  ·show gT v (λv=>Env.put i e v λe=>pG l (i+1) e K)=_;rw[dc,Env.put_eq,h1]
  ·rw[h2];simp only[length_cons];by_cases ht:t=i
   ·subst ht;rw[if_neg (by omega),Env.yG (by omega),if_pos rfl,if_pos (by omega),Nat.sub_self];rfl
   ·rw[Env.yG (by omega),if_neg ht];by_cases h3:i+1<=t/\t<i+1+l.length
    ·rw[if_pos h3,if_pos (by omega),show t-i=(t-(i+1))+1 by omega];rfl
    ·rw[if_neg h3,if_neg (by omega)]
theorem C4:∀(t:HT)(K:HT->Bool),Pw t K=K t
 |.nil,_=>rfl
 |.node v l r,K=>by
  show Pw l (λl=>Pw r λr=>Option.rec (motive:=λ_=>Bool) (K (.node none l r)) (λB=>AK B λB=>K (.node (some B) l r)) v)=_;rw[C4 l,C4 r]
  cases v with
  |none=>rfl
  |some B=>exact pB B _
theorem HB{cx:Cx}{ops:Array Oper}{e:Env}{l:List Value}{h:aa}{K:Env->aa->Bool}(hr:dv cx.n e l):CE cx.n cx.bad (Kz cx ops e h K) (Aq cx.P cx.gl ops (cj (eL ops)) l h) K:=by
 unfold Kz;rw[JX hr]
 cases hd:Aq cx.P cx.gl ops (cj (eL ops)) l h with
 |none=>exact .inl rfl
 | some r=>
  obtain⟨tm,h'⟩:=r;show CE cx.n cx.bad (dW (Nat.beq tm.length cx.n) (pG tm 0 qE λe=>fY h'.next λnx=>Pw h'.t λt=>K e ⟨nx,t⟩) cx.bad) _ K
  cases hb:Nat.beq tm.length cx.n with
  |false=>exact .inl rfl
  | true=>
   have hl:tm.length=cx.n:=by simpa[beq_eq]using hb
   obtain⟨e0,h3,h4⟩:=mF tm 0 qE (by have:=hr.2.1;omega);refine .inr ⟨tm,h',e0,rfl,⟨hl,hr.2.1,λt=>?_⟩,?_⟩
   ·rw[h4];split
    ·rfl
    ·next ht=>rw[pz,gD,getElem?_eq_none (by omega)];rfl
   ·show pG tm 0 qE (λe=>fY h'.next λnx=>Pw h'.t λt=>K e ⟨nx,t⟩)=_;rw[h3,cX,C4]
theorem dP{cx:Cx}{cf:br}(hcf:nK cx cf):∀(c:Code){e:Env}{l:List Value}{h:aa}{K:Exit->Env->aa->Bool},dv cx.n e l->qi cx.n cx.bad (codeF c cx e h K) (aE cx.P cx.gl cf cx.N c l h) K
 |.skip,e,l,h,K,hr=> .inr ⟨_,_,_,_,rfl,hr,rfl⟩
 | .region id ops draw,e,l,h,K,hr=>by
  cases draw with
  | true=>
   show qi cx.n cx.bad (dW (qm ops) (Kz cx ops e h λe h=>K .normal e h) (Ar cx ops (cj (eL ops)) e h λe h=>K .normal e h)) ((tz cx.P cx.gl cf ops l h).map λr=>(.normal,r.1,r.2)) K;unfold tz
   cases hany:qm ops with
   |true=>
    rw[if_pos rfl];rcases HB hr (ops:=ops) (h:=h) (K:=λe h=>K .normal e h)with h1|⟨l1,h1,e1,h2,h3,h4⟩
    ·exact .inl h1
    ·exact .inr ⟨.normal,l1,h1,e1,by rw[h2];rfl,h3,h4⟩
   |false=>
   rw[if_neg (by simp)];show qi cx.n cx.bad (Ar cx ops (cj (eL ops)) e h λe h=>K .normal e h) _ K;rcases FQ hcf hr (ops:=ops) (bf:=cj (eL ops)) (h:=h) (K:=λe h=>K .normal e h)with h1|⟨l1,h1,e1,h2,h3,h4⟩
   ·exact .inl h1
   ·exact .inr ⟨.normal,l1,h1,e1,by rw[h2];rfl,h3,h4⟩
  |false=>
   show qi cx.n cx.bad (By cx ops ops.toList e h λe h=>K .normal e h) ((eA cx.P cx.gl cf ops ops.toList l h).map λr=>(.normal,r.1,r.2)) K;rcases uw hcf ops.toList hr (ops:=ops) (h:=h) (K:=λe h=>K .normal e h)with h1|⟨l1,h1,e1,h2,h3,h4⟩
   ·exact .inl h1
   ·exact .inr ⟨.normal,l1,h1,e1,by rw[h2];rfl,h3,h4⟩
 | .seq a b,e,l,h,K,hr=>by
  show qi cx.n cx.bad (codeF a cx e h λx e h=>fF x (codeF b cx e h K) (λid=>K (.exit id) e h) (K x e h)) _ K;rcases dP hcf a hr (h:=h) (K:=λx e h=>fF x (codeF b cx e h K) (λid=>K (.exit id) e h) (K x e h))with h1|⟨ex,l1,h1,e1,h2,h3,h4⟩
  ·exact .inl h1
  ·rw[h4];dsimp only;rcases mC ex (codeF b cx e1 h1 K) (λid=>K (.exit id) e1 h1) (K ex e1 h1)with⟨rfl,h5⟩|⟨id,rfl,h5⟩|⟨h6,h7,h5⟩
   ·rw[h5];simp only[aE,h2];exact dP hcf b h3
   ·rw[h5];exact .inr ⟨.exit id,l1,h1,e1,by simp only[aE,h2],h3,rfl⟩
   ·rw[h5];refine .inr ⟨ex,l1,h1,e1,?_,h3,rfl⟩;simp only[aE,h2]
    cases ex<;>first|rfl|exact absurd rfl h7
 |.cond c a b,e,l,h,K,hr=>by
  show qi cx.n cx.bad (ri (EB cx.gl e c) cx.bad λt=>dW t (codeF a cx e h K) (codeF b cx e h K)) _ K;refine CO λt ht=>?_;rw[tF hr]at ht;simp only[aE,ht]
  cases t with
  |true=>simp only[if_true];exact dP hcf a hr
  |false=>simp only[false_eq_true,if_false];exact dP hcf b hr
 | .block id a,e,l,h,K,hr=>by
  show qi cx.n cx.bad (codeF a cx e h λx e h=>fF x (K .normal e h) (λid'=>dW (Nat.beq id' id) (K .normal e h) (K (.exit id') e h)) (K x e h)) _ K;rcases dP hcf a hr (h:=h) (K:=λx e h=>fF x (K .normal e h) (λid'=>dW (Nat.beq id' id) (K .normal e h) (K (.exit id') e h)) (K x e h))with h1|⟨ex,l1,h1,e1,h2,h3,h4⟩
  ·exact .inl h1
  ·rw[h4];dsimp only;rcases mC ex (K .normal e1 h1) (λid'=>dW (Nat.beq id' id) (K .normal e1 h1) (K (.exit id') e1 h1)) (K ex e1 h1)with⟨rfl,h5⟩|⟨id',rfl,h5⟩|⟨h6,h7,h5⟩
   ·rw[h5];exact .inr ⟨.normal,l1,h1,e1,by simp only[aE,h2],h3,rfl⟩
   ·rw[h5];by_cases hid:id'=id
    ·subst hid;refine .inr ⟨.normal,l1,h1,e1,by simp only[aE,h2,if_true],h3,?_⟩;rw[show Nat.beq id' id'=true by simp];rfl
    ·refine .inr ⟨.exit id',l1,h1,e1,by simp only[aE,h2,if_neg hid],h3,?_⟩;have:Nat.beq id' id=false:=by
      rw[Bool.eq_false_iff];intro hb;exact hid (by simpa[beq_eq]using hb)
     rw[this];rfl
   ·rw[h5];refine .inr ⟨ex,l1,h1,e1,?_,h3,rfl⟩;simp only[aE,h2]
    cases ex<;>first|rfl|exact absurd rfl (h6 _)
 |.loop c,e,l,h,K,hr=>wX (λ{e l h K} hr=>dP hcf c hr) cx.N hr
 |.exit id,e,l,h,K,hr=> .inr ⟨_,_,_,_,rfl,hr,rfl⟩
 |.ret,e,l,h,K,hr=> .inr ⟨_,_,_,_,rfl,hr,rfl⟩
 |.label _,e,l,h,K,hr=> .inr ⟨_,_,_,_,rfl,hr,rfl⟩
 | .rangeFunc f ps asg body,e,l,h,K,hr=>by
  show qi cx.n cx.bad (Dk f ps asg body cx e h K) _ K;unfold Dk;rcases AS (EB cx.gl e f) cx.bad _ with⟨h1,_⟩|⟨fn,first,captured,h1,h2⟩
  ·rw[h1];exact .inl rfl
  ·rw[h2];rw[tF hr]at h1
   cases fn with
   | func g=>
    dsimp only[SE];rcases N6 asg body cx.bad (λok=>dW (Nat.blt g YB) (dW (mq cx.P g)
     (PC e cx.n 0 λtm=>qG (first.toList++[.func (.yield h.next) #[] #[]]++captured.toList) λvs=>oU (.loop .ready tm ps.toList asg body ok) h λh1=>cx.cf g vs h1 λ_ h2=>
      lV (h2.get h.next) cx.bad λst _ _ _ _ _=>EN st cx.bad λx=>HT.jF none (pathOf h.next) h2.t λt=>K x e ⟨h2.next,t⟩) cx.bad) cx.bad)with h3|⟨ok,h3⟩
    ·rw[h3];exact .inl rfl
    ·rw[h3]
     cases hg:Nat.blt g YB with
     |false=>exact .inl rfl
     | true=>
      have hg':g<YB:=by simpa[blt_eq]using hg
      cases hb:mq cx.P g with
      |false=>exact .inl rfl
      | true=>
       dsimp only[dW];rw[JX hr,qH];have hup:∀(B:bt)(K:aa->Bool),oU B h K=K (h.push B):=λB K=>su (.push B) h K;rw[hup];rcases hcf g (first.toList++[.func (.yield h.next) #[] #[]]++captured.toList) (h.push (.loop .ready l ps.toList asg body ok)) (λ_ h2=>
        lV (h2.get h.next) cx.bad λst _ _ _ _ _=>EN st cx.bad λx=>HT.jF none (pathOf h.next) h2.t λt=>K x e ⟨h2.next,t⟩)with h4|⟨⟨v,h2⟩,h4,h5⟩
       ·rw[h4];exact .inl rfl
       ·rw[h5];dsimp only;have hrun:aE cx.P cx.gl cf cx.N (.rangeFunc f ps asg body) l h=(ET (h2.get h.next)).map λe=>(e,l,h2.del h.next):=by
         simp only[aE,h1];rw[dif_pos ok,if_pos ⟨hg',hb⟩,h4]
        rcases pJ (h2.get h.next) cx.bad (λst _ _ _ _ _=>EN st cx.bad λx=>HT.jF none (pathOf h.next) h2.t λt=>K x e ⟨h2.next,t⟩)with h6|⟨st,tm2,ps2,a2,b2,ok2,h6,h7⟩
        ·rw[h6];exact .inl rfl
        ·rw[h7];rw[h6]at hrun
         cases st with
         |ready=>exact .inr ⟨_,_,_,e,hrun,hr,HT.dt _ _ _ _⟩
         |busy=>exact .inl rfl
         |ret=>exact .inr ⟨_,_,_,e,hrun,hr,HT.dt _ _ _ _⟩
         |exit id=>exact .inr ⟨_,_,_,e,hrun,hr,HT.dt _ _ _ _⟩
   |_=>exact .inl rfl
 |.scope _,_,_,_,_,_=> .inl rfl
 |.goto _,_,_,_,_,_=> .inl rfl
 |.refuse _,_,_,_,_,_=> .inl rfl
theorem pU{P:Program}{n:Nat}{e:Env}{tm:List Value}{h:aa}{bad:Bool}(hr:dv n e tm):∀(l:List ResultVar)(K:List Value->Bool),Ref bad (so P e h bad l K) (bF P tm h l) K
 |[],K=> .of rfl rfl
 |.tmp t::l,K=>by
  show Ref bad (gT (Env.get t e) λv=>so P e h bad l λvs=>K (v::vs)) _ K;rw[dc,hr.2.2 t];rcases pU hr l (λvs=>K (tm.getD t undef::vs))with h1|⟨vs,h1,h2⟩
  ·exact .inl h1
  ·exact .of (by simp only[bF,h1];rfl) h2
 |.cell a t::l,K=>by
  show Ref bad (vH bad (ag P t h (Env.get a e)) λv=>so P e h bad l λvs=>K (v::vs)) _ K;refine eR λv hv=>?_;rw[hr.2.2 a]at hv;rcases pU hr l (λvs=>K (v::vs))with h1|⟨vs,h1,h2⟩
  ·exact .inl h1
  ·exact .of (by simp only[bF,hv,h1];rfl) h2
theorem BD{n:Nat}:∀(pa:List (Tmp×Value)){e:Env}{l:List Value},dv n e l->∃e',dv n e' (mZ l pa)/\∀(K:Env->Bool),Jm n pa e K=K e'
 |[],e,l,hr=>⟨e,hr,λ_=>rfl⟩
 |p::pa,e,l,hr=>by
  obtain⟨e1,h1,h2⟩:=nq hr (some p.1) p.2;obtain⟨e2,h3,h4⟩:=BD pa h1;refine⟨e2,h3,λK=>?_⟩;show lj n (some p.1) e p.2 (λe=>Jm n pa e K)=_;rw[h2,h4]
theorem Ej{P:Program}{gl:Nat->Bool}{bad:Bool}{fl:Nat}{cK:FuncId->List Value->aa->(Value->aa->Bool)->Bool}{cf:br}(hcf:∀f args h K,Ref bad (cK f args h K) (cf f args h) λr=>K r.1 r.2)(k:Nat)(args:List Value)(h:aa)(K:Value->aa->Bool):
  Ref bad (zA (λnt=>⟨P,gl,cK,fl,nt,bad⟩) bad k args h K) (ko (aE P gl cf fl) k args h) λr=>K r.1 r.2:=by
 unfold zA;rcases pJ (h.get k) bad _ with h1|⟨st,tm,ps,asg,body,ok,h1,h2⟩
 ·exact .inl h1
 rw[h2]
 cases st with
 |busy=>exact .inl rfl
 |ret=>exact .inl rfl
 |exit id=>exact .inl rfl
 |ready=>
 show Ref bad (dW (Nat.beq args.length ps.length) _ bad) _ _;refine cD (λhlen=>?_) (λ_=> .bad);have hlen:args.length=ps.length:=by simpa[beq_eq]using hlen
 rw[cX];refine cD (λhn=>?_) (λ_=> .bad);have hn:tm.length<=256:=by simpa[ble_eq]using hn
 obtain⟨e0,h3,h4⟩:=mF tm 0 qE (by omega);rw[h3];have hr0:dv tm.length e0 tm:=by
  refine⟨rfl,hn,λt=>?_⟩;rw[h4];split
  ·rfl
  ·next ht=>rw[pz,gD,getElem?_eq_none (by omega)];rfl
 obtain⟨e1,hr1,h5⟩:=BD (ps.zip args) hr0;rw[h5]
 let cx:Cx:=⟨P,gl,cK,fl,tm.length,bad⟩
 have hcf':nK cx cf:=λf args h K=>hcf f args h K;rcases dP hcf' asg (h:=h) (K:=λx e h1=>fF x
   (lV (h1.get k) bad λst' tm' ps' asg' body' ok'=>uM st' bad (HT.jF (some (.loop .busy tm' ps' asg' body' ok')) (pathOf k) h1.t λt=>codeF body cx e ⟨h1.next,t⟩ λx _ h2=>
    lV (h2.get k) bad λ_ tm2 ps2 asg2 body2 ok2=>IS x bad λb st2=>HT.jF (some (.loop st2 tm2 ps2 asg2 body2 ok2)) (pathOf k) h2.t λt=>K (.bool b) ⟨h2.next,t⟩))
   (λ_=>bad) bad) hr1 with h6|⟨ex,l1,g1,e2,h6,hr2,h7⟩
 ·exact .inl h6
 refine(show Ref bad _ _ _↔_ from Iff.rfl).2 ?_;rw[h7];dsimp only
 cases ex with
 | normal=>
  dsimp only[fF];rcases pJ (g1.get k) bad (λst' tm' ps' asg' body' ok'=>uM st' bad (HT.jF (some (.loop .busy tm' ps' asg' body' ok')) (pathOf k) g1.t λt=>codeF body cx e2 ⟨g1.next,t⟩ λx _ h2=>
    lV (h2.get k) bad λ_ tm2 ps2 asg2 body2 ok2=>IS x bad λb st2=>HT.jF (some (.loop st2 tm2 ps2 asg2 body2 ok2)) (pathOf k) h2.t λt=>K (.bool b) ⟨h2.next,t⟩))with h8|⟨st',tm',ps',asg',body',ok',h8,h9⟩
  ·exact .inl h8
  rw[h9]
  cases st' with
  |busy=>exact .inl rfl
  |ret=>exact .inl rfl
  |exit id=>exact .inl rfl
  |ready=>
  dsimp only[uM];rw[HT.dt];rcases dP hcf' body (h:=g1.set k (.loop .busy tm' ps' asg' body' ok')) (K:=λx _ h2=>
    lV (h2.get k) bad λ_ tm2 ps2 asg2 body2 ok2=>IS x bad λb st2=>HT.jF (some (.loop st2 tm2 ps2 asg2 body2 ok2)) (pathOf k) h2.t λt=>K (.bool b) ⟨h2.next,t⟩) hr2 with h10|⟨ex2,l2,g2,e3,h10,hr3,h11⟩
  ·exact .inl h10
  ·refine(show Ref bad (codeF body cx e2 (g1.set k (.loop .busy tm' ps' asg' body' ok')) _) _ _ from ?_);rw[h11];dsimp only;rcases pJ (g2.get k) bad (λ_ tm2 ps2 asg2 body2 ok2=>IS ex2 bad λb st2=>HT.jF (some (.loop st2 tm2 ps2 asg2 body2 ok2)) (pathOf k) g2.t λt=>K (.bool b) ⟨g2.next,t⟩)with h12|⟨st2,tm2,ps2,asg2,body2,ok2,h12,h13⟩
   ·exact .inl h12
   rw[h13];have hrun:∀b st3,Bb ex2=some (b,st3)->ko (aE P gl cf fl) k args h=some (.bool b,g2.set k (.loop st3 tm2 ps2 asg2 body2 ok2)):=λb st3 hl=>by
    have h6':aE P gl cf fl asg (mZ tm (ps.zip args)) h=some (.normal,l1,g1):=h6;have h10':aE P gl cf fl body l1 (g1.set k (.loop .busy tm' ps' asg' body' ok'))=some (ex2,l2,g2):=h10;unfold ko;simp only[h1,hlen,if_true,h6',h8,h10',h12,hl]
   cases ex2 with
   |normal=>exact .of (hrun true .ready rfl) (HT.dt _ _ _ _)
   |ret=>exact .of (hrun false .ret rfl) (HT.dt _ _ _ _)
   |exit id=>exact .of (hrun false (.exit id) rfl) (HT.dt _ _ _ _)
   |_=>exact .inl rfl
 |_=>exact .inl rfl
def ph(bad:Bool)(pf:FuncId->Option (jM))(pr:FuncId->Option jD):Prop:=
 ∀f,(pf f=none/\pr f=none)\/ ∃p q,pf f=some p/\pr f=some q/\
  ∀(cf:FuncId->List Value->aa->(Value->aa->Bool)->Bool)(cr:br),(∀f args h K,Ref bad (cf f args h K) (cr f args h) λr=>K r.1 r.2)->∀args h K,Ref bad (p cf args h K) (q cr args h) λr=>K r.1 r.2
theorem wE{P:Program}{gl:Nat->Bool}{bad:Bool}{pf:FuncId->Option (jM)}{pr:FuncId->Option jD}(hp:ph bad pf pr):∀n f args h K,Ref bad (nO P gl pf bad n f args h K) (aQ P gl pr n f args h) λr=>K r.1 r.2
 |0,_,_,_,_=> .bad
 | n+1,f,args,h,K=>by
  have ih:=wE hp (P:=P) (gl:=gl) n;show Ref bad (dW (Nat.ble YB f) (fY (f-YB) λk=>zA (λnt=>⟨P,gl,nO P gl pf bad n,n,nt,bad⟩) bad k args h K) (Option.rec (motive:=λ_=>Bool)
   (vH bad (P.funcs[f]?) λfn=>vH bad fn.body λc=>dW (Nat.ble fn.ntmps 256&&Nat.ble args.length fn.ntmps)
    (pG args 0 qE λe=>codeF c ⟨P,gl,nO P gl pf bad n,n,fn.ntmps,bad⟩ e h λx e h=>L5 x bad (so P e h bad fn.results.toList λvs=>K (aO vs) h)) bad)
   (λp=>p (nO P gl pf bad n) args h K) (pf f))) _ _
  refine cD (λhY=>?_) (λhY=>?_)
  ·have hY:YB<=f:=by simpa[ble_eq]using hY
   rw[cX];rcases Ej (P:=P) (gl:=gl) (fl:=n) ih (f-YB) args h K with h1|⟨r,h1,h2⟩
   ·exact .inl h1
   ·exact .of (r:=r) (by simp only[aQ,if_pos hY];exact h1) h2
  have hY:¬YB<=f:=λhh=>by
   have:Nat.ble YB f=true:=by simpa[ble_eq]using hh
   rw[hY]at this;cases this
  rcases hp f with⟨h1,h2⟩|⟨p,q,h1,h2,h3⟩
  ·rw[h1];refine eR λfn hfn=>eR λc hc=>cD (λhb=>?_) (λ_=> .bad);simp only[and_eq_true,ble_eq]at hb;obtain⟨e',h3,h4⟩:=mF args 0 qE (by omega);rw[h3];have hr:dv fn.ntmps e' (args++List.replicate (fn.ntmps-args.length) undef):=by
    refine⟨by simp;omega,hb.1,λt=>?_⟩;rw[h4];split
    ·next ht=>rw[Nat.sub_zero,gD,gD,List.getElem?_append_left (by omega)]
    ·next ht=>
     rw[pz,gD,List.getElem?_append_right (by omega),getElem?_replicate];split<;>rfl
   let cx:Cx:=⟨P,gl,nO P gl pf bad n,n,fn.ntmps,bad⟩
   have hcf:nK cx (aQ P gl pr n):=λf args h K=>ih f args h K;have key:=dP hcf c (h:=h) (K:=λx e h=>L5 x bad (so P e h bad fn.results.toList λvs=>K (aO vs) h)) (e:=e') (l:=args++List.replicate (fn.ntmps-args.length) undef) hr;rcases key with h5|⟨ex,l1,h5,e1,h6,h7,h8⟩
   ·exact .inl h5
   ·rw[show codeF c ⟨P,gl,nO P gl pf bad n,n,fn.ntmps,bad⟩ e' h (λx e h=>L5 x bad (so P e h bad fn.results.toList λvs=>K (aO vs) h))=_ from h8];have hrun:aE P gl (aQ P gl pr n) n c (args++List.replicate (fn.ntmps-args.length) undef) h=some (ex,l1,h5):=h6;have fin:ex = .normal\/ex = .ret->Ref bad (so P e1 h5 bad fn.results.toList λvs=>K (aO vs) h5) (aQ P gl pr (n+1) f args h) λr=>K r.1 r.2:=λhex=>by
     rcases pU h7 fn.results.toList (λvs=>K (aO vs) h5) (P:=P) (h:=h5) (bad:=bad)with h9|⟨vs,h9,h10⟩
     ·exact .inl h9
     ·refine .of (r:=(aO vs,h5)) ?_ h10;simp only[aQ,if_neg hY,h2,hfn,hc,hrun];rcases hex with rfl|rfl<;>simp only[h9,map_some]
    cases ex with
    |normal=>exact fin (.inl rfl)
    |ret=>exact fin (.inr rfl)
    |_=>exact .bad
  ·rw[h1];rcases h3 (nO P gl pf bad n) (aQ P gl pr n) ih args h K with h4|⟨r,h4,h5⟩
   ·exact .inl h4
   ·exact .of (r:=r) (by simp only[aQ,if_neg hY,h2];exact h4) h5
section
variable {β:cp} {P:Program} {gl:Nat->Bool}
theorem nV{f:FuncId}{fn:Func}{e:Array Value->Sem Value}{p:jD}(hf:P.funcs[f]?=some fn)(hname:(fn.name == "runtime.NumGoroutine")=false) (hb:fn.body.isNone=true) (hn:Extern.findNext fn=none) (he:Extern.find fn=some e)
  (h:∀cf args h v h',p cf args h=some (v,h')->∀β w (args':Array Value),fK β h w->aG β args args'.toList->∃v' w' β',(e args').run P w = .ok v' w'/\Step β h w β' h' w'/\au β' v v'):gm P gl f p:=by
 intro cf _ args hh v h' hp β w args' hs _ ha;obtain⟨v',w',β',h1,h2,h3⟩:=h cf args hh v h' hp β w args' hs ha;refine⟨fn,hf,.inr ⟨v',w',β',?_,h2,h3⟩⟩;rw[run_callFunc_extern hf hname hb hn he,h1];rfl
def hH:jD:=λ_ args h=>match args with
 |[v]=>some (v,h)
 |_=>none
theorem rE{f:FuncId}{fn:Func}(hf:P.funcs[f]?=some fn)(hname:(fn.name == "runtime.NumGoroutine")=false) (hb:fn.body.isNone=true) (hn:Extern.findNext fn=none) (he:Extern.find fn=some Extern.AbiNoEscape.same):gm P gl f hH:=by
 refine nV hf hname hb hn he λcf args h v h' hp β w args' hs ha=>?_;unfold hH at hp;split at hp
 ·next u=>
  simp only[Option.some.injEq,Prod.mk.injEq]at hp;obtain⟨rfl,rfl⟩:=hp;obtain⟨u',r,hr,hv,hn⟩:=ha.bS;obtain rfl:=hn.dg;obtain rfl:args' = #[u']:=by
   have:=congrArg List.toArray hr;simpa using this
  exact⟨u',w,β,rfl,Step.refl hs,hv⟩
 grind
noncomputable def findAt(c:Nat):List UInt8->Nat->Int
 |[],_=> -1
 |b::l,i=>if b.toNat=c then i else findAt c l (i+1)
noncomputable def ft:jD:=λ_ args h=>match args with
 |[.string s,.int .u8 c]=>if 0<=c/\c<256 then some (.int .i64 (findAt c.toNat s.data.toList 0),h)else none
 |_=>none
theorem FY(s:ByteArray)(c:Nat)(hc:c<256):findAt c s.data.toList 0=firstIdx s c.toUInt8:=by
 have key:∀(l:List UInt8)(i:Nat),s.data.toList.drop i=l->findAt c l i=match (List.range' i l.length).find? λj=>s[j]! == c.toUInt8 with|some j=>(j:Int)|none=> -1:=by
  intro l
  induction l with
  |nil=>intro i _;rfl
  | cons b l ih=>
   intro i hi;have hlt:i<s.data.toList.length:=by
    rcases lt_or_ge i s.data.toList.length with h|h
    ·exact h
    ·rw[List.drop_eq_nil_of_le h]at hi;cases hi
   have hb:s[i]! = b:=by
    have h0:s.data.toList[i]?=some b:=by
     have:(s.data.toList.drop i)[0]?=some b:=by rw[hi];rfl
     rw[List.getElem?_drop]at this;simpa using this
    have hsz:i<s.size:=by simpa using hlt
    rw[getElem!_pos s i hsz];have:s.data[i]?=some b:=by rw[<-getElem?_toList];exact h0
    rw[getElem?_eq_getElem (by simpa using hlt)]at this;exact oI this
   have hd:s.data.toList.drop (i+1)=l:=by rw[<-drop_drop,hi];rfl
   simp only[findAt,length_cons,range'_succ,List.find?_cons,hb];by_cases hbc:b.toNat=c
   ·have:(b==c.toUInt8)=true:=by
     rw[beq_iff_eq,<-UInt8.toNat_inj];simp[hbc];omega
    rw[if_pos hbc,this]
   ·have:(b==c.toUInt8)=false:=by
     rw[beq_eq_false_iff_ne];rintro rfl;apply hbc;simp;omega
    rw[if_neg hbc,this];exact ih (i+1) hd
 rw[key s.data.toList 0 rfl];unfold firstIdx;rw[List.range_eq_range',show s.data.toList.length=s.size by simp];rfl
theorem pF{f:FuncId}{fn:Func}(hf:P.funcs[f]?=some fn)(hname:(fn.name == "runtime.NumGoroutine")=false) (hb:fn.body.isNone=true) (hn:Extern.findNext fn=none) (he:Extern.find fn=some Extern.BytealgIndexByte.indexByte):gm P gl f ft:=by
 refine nV hf hname hb hn he λcf args h v h' hp β w args' hs ha=>?_;unfold ft at hp;split at hp
 ·next s c=>
  split at hp
  ·next hc=>
   simp only[Option.some.injEq,Prod.mk.injEq]at hp;obtain⟨rfl,rfl⟩:=hp;obtain⟨u',r,hr,hv,hn⟩:=ha.bS;obtain⟨x',r',rfl,hx,hn'⟩:=hn.bS;obtain rfl:=hn'.dg;obtain rfl:=hv.dp;obtain rfl:=hx.cz;obtain rfl:args' = #[.string s,.int .u8 c]:=by
    have:=congrArg List.toArray hr;simpa using this
   refine⟨_,w,β,run_indexByte_string s c w,Step.refl hs,?_⟩;rw[FY s c.toNat (by omega)];exact .int _ _
  ·cases hp
 grind
section
noncomputable def wL(bad:Bool):jM:=λ_ args h K=>List.rec (motive:=λ_=>Bool) bad (λv r _=>List.rec (motive:=λ_=>Bool) (K v h) (λ_ _ _=>bad) r) args
theorem vN(bad:Bool)(cf:FuncId->List Value->aa->(Value->aa->Bool)->Bool)(cr:br)(args:List Value)(h:aa)(K:Value->aa->Bool):Ref bad (wL bad cf args h K) (hH cr args h) λr=>K r.1 r.2:=by
 match args with
 |[]=>exact .inl rfl
 |[v]=>exact .of rfl rfl
 |v::u::r=>exact .inl rfl
noncomputable def Ir(c:Nat)(l:List UInt8):Nat->(Int->Bool)->Bool:=List.rec (motive:=λ_=>Nat->(Int->Bool)->Bool) (λ_ K=>K (-1)) (λb _ ih i K=>fY i λi=>dW (Nat.beq b.toNat c) (K (.ofNat i)) (ih (i+1) K)) l
theorem AL(c:Nat):∀(l:List UInt8)(i:Nat)(K:Int->Bool),Ir c l i K=K (findAt c l i)
 |[],_,_=>rfl
 | b::l,i,K=>by
  show fY i (λi=>dW (Nat.beq b.toNat c) (K (.ofNat i)) (Ir c l (i+1) K))=_;rw[cX,AL c l];simp only[findAt];by_cases hb:b.toNat=c
  ·rw[if_pos hb,show Nat.beq b.toNat c=true by simpa[beq_eq]using hb];rfl
  ·rw[if_neg hb];have:Nat.beq b.toNat c=false:=by
    rw[Bool.eq_false_iff];intro hh;exact hb (by simpa[beq_eq]using hh)
   rw[this];rfl
noncomputable def oB(bad:Bool):jM:=λ_ args h K=>match args with
 |[.string s,.int .u8 (.ofNat c)]=>dW (Nat.blt c 256) (Ir c s.data.toList 0 λi=>K (.int .i64 i) h) bad
 |_=>bad
theorem tI(bad:Bool)(cf:FuncId->List Value->aa->(Value->aa->Bool)->Bool)(cr:br)(args:List Value)(h:aa)(K:Value->aa->Bool):Ref bad (oB bad cf args h K) (ft cr args h) λr=>K r.1 r.2:=by
 unfold oB;split
 ·next s c=>
  refine cD (λhc=>?_) (λ_=> .bad);have hc:c<256:=by simpa[blt_eq]using hc
  rw[AL];refine .of (r:=(.int .i64 (findAt c s.data.toList 0),h)) ?_ rfl;simp only[ft];rw[if_pos ⟨by simp,by simp;omega⟩];rfl
 ·exact .bad
end
def β0:cp:=λ_=>none
def ju:Nat->Bool:=λ_=>false
theorem aa.get_nil(n k:Nat):(⟨n,.nil⟩:aa).get k=none:=HT.get_nil _
theorem zp(n:Nat)(w:World):fK β0 ⟨n,.nil⟩ w:=
 {
  lt:=λk sl h=>nomatch h
  blk:=λk B sl h=>by grind[aa.get_nil]
  own:=λk k' B B' sl sl' _ h=>by grind[aa.get_nil]
  wf:=λk B h=>by grind[aa.get_nil] }
theorem yH:Gl ju β0:=λg h=>by cases h
open Go.RowKit in
theorem nN{n:Nat}{w w':World}{β':cp}{h':aa}(s:Step β0 ⟨n,.nil⟩ w β' h' w'):Below w.heap.size w w':=
 ⟨s.os,s.tape.1,s.output,s.size,λk hk=>s.kept k hk λ⟨k,B,sl,h1,_⟩=>by grind[aa.get_nil]⟩
end
end Go.Ab
end
section
namespace Go.Ab
open Go Go.RowKit
section
variable {β:cp} {P:Program} {gl:Nat->Bool}
theorem od{h:aa}{w w':World}(hs:fK β h w)(hb:Below w.heap.size w w')(hd:w.drawn<=w'.drawn):Step β h w β h w':=
 {
  le:=β.le_refl,next:=Nat.le_refl _
  jG:={ lt:=λk sl hk=>⟨(hs.lt k sl hk).1,lt_of_lt_of_le (hs.lt k sl hk).2 hb.size⟩,blk:=λk B sl h1 h2=>(hs.blk k B sl h1 h2).of_heap (hb.block _ (hs.lt k sl h2).2),own:=hs.own,wf:=hs.wf }
  size:=hb.size,os:=hb.os,tape:=⟨hb.tape,hd⟩,output:=hb.output
  kept:=λb h1 _=>hb.block b h1
  back:=λ_ _ h=>h,fresh:=λ_ _ h=> .inl h,keys:=λ_ B h _=>⟨B,h⟩ }
def aF(P:Program)(f:FuncId)(args:List Value)(v:Value):Prop:=
 ∃fn,P.funcs[f]?=some fn/\fn.body.isSome=true/\∀w,Calls P f args.toArray w λe w'=>e = .returned v/\Below w.heap.size w w'/\w.drawn<=w'.drawn
theorem aG.pT{β:cp}{l:List Value}(h:l.all bare=true):aG β l l:=by
 induction l with
 |nil=>exact .nil β
 |cons v l ih=>
  simp only[all_cons,and_eq_true]at h;exact .cons (.sC h.1) (ih h.2)
theorem au.pn{β:cp}{v v':Value}(hv:bare v=true)(h:au β v v'):v'=v:=by
 cases h<;>first|rfl|(simp[bare]at hv)
theorem aG.Ac{β:cp}:∀{l l':List Value},l.all bare=true->aG β l l'->l'=l
 |[],l',_,h=>h.dg
 |v::l,l',hb,h=>by
  simp only[all_cons,and_eq_true]at hb;obtain⟨v',r,rfl,hv,hr⟩:=h.bS;rw[hv.pn hb.1,hr.Ac hb.2]
theorem au.Je{β:cp}{v v':Value}(hv:plain v=true)(h:au β v v'):v'=v:=by
 have key:∀{a a':Array Value},fz β a a'->(∀x∈a.toList,∀y,au β x y->y=x)->a'=a:=λ{a a'} ha hx=>by
  refine Array.ext ha.1.symm λi h1 h2=>?_;have:=ha.2 i a[i] a'[i] (getElem?_eq_getElem h2) (getElem?_eq_getElem h1);exact hx _ (by simp) _ this
 unfold plain at hv;split at hv
 ·next cs=>
  obtain⟨a',rfl,ha⟩:=h.iR;rw[key ha λx hx y hy=>hy.pn (all_eq_true.1 hv x hx)]
 ·next cs=>
  obtain⟨a',rfl,ha⟩:=h.nj;rw[key ha λx hx y hy=>?_];have:=all_eq_true.1 hv x hx;split at this
  ·next ds=>
   obtain⟨b',rfl,hb⟩:=hy.iR;rw[key hb λz hz u hu=>hu.pn (all_eq_true.1 this z hz)]
  ·exact hy.pn this
 ·exact h.pn hv
theorem yN{cf:br}(hcf:ke P ju cf){f:FuncId}{fn:Func}{args:List Value}{n:Nat}{v:Value}{h':aa}(hr:cf f args ⟨n,.nil⟩=some (v,h'))(ha:args.all bare=true)(hv:plain v=true)(hY:f<YB)(hf:P.funcs[f]?=some fn)(hb:fn.body.isSome=true)
  (hN:cV P):aF P f args v:=by
 refine⟨fn,hf,hb,λw=>?_⟩;obtain⟨fn',hfn,h⟩:=hcf.fn f args _ v h' hY hr β0 w args.toArray (zp n w) yH (by simpa using aG.pT ha);rcases h with⟨_,h⟩|⟨v',w',β',h1,_,_⟩
 ·refine h.mono ?_;rintro e w' ⟨v',β',rfl,h2,h3⟩;exact⟨by rw[h3.Je hv],nN h2,h2.tape.2⟩
 ·rw[dq hN hf hb]at h1
  cases h1
def sv:List UInt8->List UInt8->Bool
 |[],[]=>true
 |a::x,b::y=>Nat.beq a.toNat b.toNat&&sv x y
 |_,_=>false
theorem th:∀{a b:List UInt8},sv a b=true->a=b
 |[],[],_=>rfl
 |a::x,b::y,h=>by
  simp only[sv,and_eq_true,beq_eq]at h;rw[UInt8.toNat_inj.1 h.1,th h.2]
noncomputable def qu:Value->Value->Bool
 |.bool a,.bool b=>a==b
 |.int k a,.int k' b=>Lg k k'&&EL a b
 |.string a,.string b=>sv a.data.toList b.data.toList
 |_,_=>false
theorem wA{a b:Value}(h:qu a b=true):a=b:=by
 unfold qu at h;split at h
 ·rw[beq_iff_eq.1 h]
 ·simp only[and_eq_true,tU,beq_iff_eq]at h;rw[yJ h.1,h.2]
 ·next a b=>
  have h:=th h;obtain⟨⟨a⟩⟩:=a;obtain⟨⟨b⟩⟩:=b;simp only at h;rw[h]
 ·cases h
noncomputable def kG:List Value->List Value->Bool
 |[],[]=>true
 |a::x,b::y=>qu a b&&kG x y
 |_,_=>false
theorem qo:∀{a b:List Value},kG a b=true->a=b
 |[],[],_=>rfl
 |a::x,b::y,h=>by
  simp only[kG,and_eq_true]at h;rw[wA h.1,qo h.2]
theorem Aa{a b:Value}(h:qu a b=true):bare b=true:=by
 unfold qu at h;split at h<;>first|rfl|cases h
theorem pj:∀{a b:List Value},kG a b=true->b.all bare=true
 |[],[],_=>rfl
 |a::x,b::y,h=>by
  simp only[kG,and_eq_true]at h;simp only[all_cons,and_eq_true];exact⟨Aa h.1,pj h.2⟩
noncomputable def zd:Value->Value->Bool
 |.agg a,.agg b=>kG a.toList b.toList
 |a,b=>qu a b
noncomputable def sF:List Value->List Value->Bool
 |[],[]=>true
 |a::x,b::y=>zd a b&&sF x y
 |_,_=>false
noncomputable def wx:Value->Value->Bool
 |.tuple a,.tuple b=>sF a.toList b.toList
 |a,b=>zd a b
theorem HD{a b:Array Value}(h:a.toList=b.toList):a=b:=by
 have:=congrArg List.toArray h;simpa using this
theorem w8{a b:Value}(h:zd a b=true):a=b:=by
 unfold zd at h;split at h
 ·rw[HD (qo h)]
 ·exact wA h
theorem uz:∀{a b:List Value},sF a b=true->a=b
 |[],[],_=>rfl
 |a::x,b::y,h=>by
  simp only[sF,and_eq_true]at h;rw[w8 h.1,uz h.2]
theorem HA{a b:Value}(h:wx a b=true):a=b:=by
 unfold wx at h;split at h
 ·rw[HD (uz h)]
 ·exact w8 h
noncomputable def look:List (List Value×Value)->List Value->Option Value
 |[],_=>none
 |(a,v)::r,args=>if kG a args then some v else look r args
noncomputable def xh(tab:List (List Value×Value)):jD:=λ_ args h=>(look tab args).map λv=>(v,h)
def gw(P:Program)(f:FuncId)(tab:List (List Value×Value)):Prop:=∀r∈tab,aF P f r.1 r.2/\plain r.2=true
theorem Ba:∀{tab:List (List Value×Value)}{args:List Value}{v:Value},look tab args=some v->(args,v)∈tab/\args.all bare=true
 |[],_,_,h=>nomatch h
 | (a,u)::r,args,v,h=>by
  simp only[look]at h;split at h
  ·next he=>
   obtain rfl:=oI h;rw[qo he];exact⟨by simp,pj he⟩
  ·obtain⟨h1,h2⟩:=Ba h;exact⟨by simp[h1],h2⟩
theorem LH{f:FuncId}{tab:List (List Value×Value)}(ht:gw P f tab):gm P gl f (xh tab):=by
 intro cf _ args h v h' hp β w args' hs _ ha;unfold xh at hp;obtain⟨u,hu,he⟩:=map_eq_some_iff.1 hp;simp only[Prod.mk.injEq]at he;obtain⟨rfl,rfl⟩:=he;obtain⟨hm,hb⟩:=Ba hu;obtain⟨⟨fn,hf,hbody,hcalls⟩,hv⟩:=ht _ hm;refine⟨fn,hf,.inl ⟨hbody,?_⟩⟩;have hargs:args'=args.toArray:=by
  have:=aG.Ac hb ha;simpa using congrArg List.toArray this
 rw[hargs];refine(hcalls w).mono ?_;rintro e w' ⟨rfl,h2,h3⟩;exact⟨u,β,rfl,od hs h2 h3,.jv hv⟩
section
noncomputable def Im(bad:Bool)(tab:List (List Value×Value)):jM:=λ_ args h K=>List.rec (motive:=λ_=>Bool) bad (λr _ ih=>dW (kG r.1 args) (gT r.2 λv=>K v h) ih) tab
theorem FV(bad:Bool)(tab:List (List Value×Value))(cf:FuncId->List Value->aa->(Value->aa->Bool)->Bool)(cr:br)(args:List Value)(h:aa)(K:Value->aa->Bool):Ref bad (Im bad tab cf args h K) (xh tab cr args h) λr=>K r.1 r.2:=by
 unfold xh
 induction tab with
 |nil=>exact .inl rfl
 |cons r tab ih=>
  obtain⟨a,v⟩:=r;show Ref bad (dW (kG a args) (gT v λv=>K v h) (Im bad tab cf args h K)) _ _;simp only[look];refine cD (λhb=>?_) (λhb=>?_)
  ·rw[dc,if_pos hb];exact .of rfl rfl
  ·rw[if_neg (by rw[hb];simp)];exact ih
end
theorem I7{gl:Nat->Bool}{pf:FuncId->Option (jM)}{pr:FuncId->Option jD}(hp:ph false pf pr){n:Nat}{f:FuncId}{args:List Value}{h:aa}{v:Value}(hr:nO P gl pf false n f args h (λu _=>wx v u)=true):
  ∃h',aQ P gl pr n f args h=some (v,h'):=by
 rcases wE (P:=P) (gl:=gl) hp n f args h (λu _=>wx v u)with h1|⟨⟨u,h'⟩,h1,h2⟩
 ·rw[hr]at h1;cases h1
 ·rw[hr]at h2;exact⟨h',by rw[h1,HA h2.symm]⟩
theorem Gc(hN:cV P){pf:FuncId->Option (jM)}{pr:FuncId->Option jD}(hp:ph false pf pr){n:Nat}(hcf:ke P ju (aQ P ju pr n)){f:FuncId}{args:List Value}{v:Value}
  (hr:nO P ju pf false n f args ⟨0,.nil⟩ (λu _=>wx v u)=true) (hc:(args.all bare&&plain v&&Nat.blt f YB&&mq P f)=true):aF P f args v:=by
 simp only[and_eq_true]at hc;obtain⟨⟨⟨h1,h2⟩,h3⟩,h4⟩:=hc;obtain⟨fn,hf,hb⟩:=rh h4;obtain⟨h',hr'⟩:=I7 hp hr;exact yN hcf hr' h1 h2 (by simpa[blt_eq]using h3) hf hb hN
theorem eD{f:FuncId}:gw P f []:=λ_ h=>by cases h
theorem ak{f:FuncId}{a:List Value}{v:Value}{tab:List (List Value×Value)}(h:aF P f a v)(hv:plain v=true)(ht:gw P f tab):gw P f ((a,v)::tab):=λr hr=>by
 rcases mem_cons.1 hr with rfl|hr
 ·exact⟨h,hv⟩
 ·exact ht r hr
end
section
variable {β:cp} {P:Program} {gl:Nat->Bool}
noncomputable def oQ(P:Program)(gl:Nat->Bool)(fn:Func)(r0 rest:Code)(d:Tmp):jD:=λcf args h=>
 match aE P gl cf 40 r0 (args++List.replicate (fn.ntmps-args.length) undef) h with
 | some (.normal,tm,h1)=>if d<tm.length then
   match aE P gl cf 40 rest (tm.set d eu) h1 with
   |some (.ret,tm',h')=>(bF P tm' h' fn.results.toList).map λvs=>(aO vs,h')
   |_=>none
  else none
 |_=>none
theorem pq{n:Nat}{f:FuncId}{fn:Func}{c:Code}{args:Array Value}{u:FrameMode}{w:World}{Bool:Ending->FrameMode->World->Prop}(hf:P.funcs[f]?=some fn)(hb:fn.body=some c)
  (h:∀(c₀:Frame)(cs:List Frame),c₀.mode=u->c.wpS P (bodyPostS P fn c₀ cs Bool) { tmps:=args++Array.replicate (fn.ntmps-args.size) undef,defers:=[] } (c₀::cs) w):CallsDIn Fence.wide n P f args u w Bool:=by
 refine⟨trivial,λc₀ cs hu _=>?_⟩;have hin:Frame.enter P f args .deferred=({ (default:Frame)with fn:=f,kind:= .deferred }:Frame).at { tmps:=args++Array.replicate (fn.ntmps-args.size) undef,defers:=[] } [.code c]:=by
  simp[Frame.enter,Frame.at,hf,hb]
 obtain⟨e,a',cs',w',hq,harr⟩:=h c₀ cs hu { (default:Frame)with fn:=f,kind:= .deferred } [] rfl rfl;rw[<-hin]at harr;rcases e with _|_|_|_|chain|_
 ·obtain⟨hd,u',rfl,v,hr,hR⟩:=hq;exact⟨.returned v,u',w',_,hR,comesIn_wide.2 (Steps.trans harr (.one step_end)),rfl,rfl,rfl,hd,fn,hf,hr⟩
 ·exact hq.elim
 ·exact hq.elim
 ·obtain⟨hd,u',rfl,v,hr,hR⟩:=hq;obtain⟨todo,hs⟩:=harr;exact⟨.returned v,u',w',_,hR,comesIn_wide.2 hs,rfl,rfl,rfl,hd,fn,hf,hr⟩
 ·obtain⟨hd,u',rfl,hR⟩:=hq;obtain⟨todo,hs⟩:=harr;exact⟨.panicked chain,u',w',_,hR,comesIn_wide.2 hs,rfl,rfl,rfl,hd,fn,hf⟩
 ·obtain⟨u',hR⟩:=hq;exact⟨.outgrown,u',w',{ (default:Frame)with fn:=f,kind:= .deferred },hR,comesIn_wide.2 (harr.resolve_left (by simp)),rfl,rfl,trivial⟩
theorem jR{F:Fence}{n:Nat}{fn:Func}{β₀ β':cp}{h₀ h':aa}{w₀:World}{tmps:Array Value}{Bool:Ending->World->Prop}{tl:List Deferred}:
  ∀(ms:List Nat)(w':World),ms.Nodup->(∀b∈ms,w₀.heap.size<=b/\w'.heap[b]?=some (.deferred (some [])))->Step β₀ h₀ w₀ β' h' w'->
   (∀w'',Step β₀ h₀ w₀ β' h' w''->(∀b,b∉ms->w''.heap[b]?=w'.heap[b]?)->LeavesInM F n P fn tmps Bool tl .returning w'')->LeavesInM F n P fn tmps Bool (ms.map yQ++tl) .returning w'
 |[],w',_,_,st,hk=>hk w' st λ_ _=>rfl
 | b::ms,w',hn,hb,st,hk=>by
  obtain⟨h1,h2⟩:=hb b (by simp);obtain⟨hn1,hn2⟩:=nodup_cons.1 hn;refine⟨by simp,.inl ⟨b,_,rfl,run_takeDeferred h2,?_⟩⟩;refine jR ms _ hn2 (λb' hm=>?_) (xw st h1 h2) λw'' st' hsame=>hk w'' st' λb' hb'=>?_
  ·grind[World.putObj_heap_other]
  ·simp only[mem_cons,not_or]at hb'
   grind[World.putObj_heap_other]
theorem An(hN:cV P){fW fC:FuncId}{fn fnC:Func}{r0 rest:Code}{i1:Nat}{mk df:Oper}{d:Tmp}{cap:Array Operand}
  (hf:P.funcs[fW]?=some fn) (hb:fn.body=some (.seq r0 (.seq (.region i1 #[mk,df] false) rest)))
  (hmk:mk.op = .makeFunc (.func fC) #[] cap) (hmd:mk.dst=some d) (hmg:mk.guard=none) (hdf:df.op = .defer { callee:= .value (.tmp d),args:= #[],argTypes:= #[] }) (hdg:df.guard=none) (hdd:df.dst=none)
  (hfC:P.funcs[fC]?=some fnC) (hbC:fnC.body.isSome=true)
  (hidle:∀(args:Array Value)(w:World),args.size=cap.size->CallsDIn Fence.wide 0 P fC args .returning w λe u' w'=>(∃v,e = .returned v)/\u' = .returning/\Below w.heap.size w w'/\w.drawn<=w'.drawn)
  (hd0:bp r0=true) (hd1:bp rest=true):gm P gl fW (oQ P gl fn r0 rest d):=by
 intro cf hcf args h v h' hp β w args' hs hg ha;refine⟨fn,hf,.inl ⟨by simp[hb],?_⟩⟩;unfold oQ at hp;split at hp
 ·next tm h1 hr0=>
  split at hp
  ·next hlt=>
   split at hp
   ·next tm2 h2 hrest=>
    obtain⟨vs,hres,he⟩:=map_eq_some_iff.1 hp;simp only[Prod.mk.injEq]at he;obtain⟨rfl,rfl⟩:=he;refine(callsIn_wide (n:=0)).1 (callsIn_of_wp_marks (F:=Fence.wide) hf hb trivial ?_);have hrep:∀k,aG β (List.replicate k undef) (List.replicate k undef):=λk=>⟨rfl,λi v v' h1 h2=>by
     rw[getElem?_replicate]at h1 h2;split at h1
     ·next hi=>rw[if_pos hi]at h2;obtain rfl:=oI h1;obtain rfl:=oI h2;exact .undef β
     ·cases h1⟩
    have ht:aG β (args++List.replicate (fn.ntmps-args.length) undef) (args'++Array.replicate (fn.ntmps-args'.size) undef).toList:=by
     have:args'.size=args.length:=by rw[ha.1];simp
     rw[this];simp only[toList_append,Array.toList_replicate];exact ha.append (hrep _)
    refine wpIn_seq ?_;refine pv (r:=none) hN hcf r0 (.inl rfl) (fO (iO hN _ hcf) hd0) _ hr0 hs hg ht λa1 w1 β1 hst1 ht1 hm1=>?_;refine wpIn_seq (wpIn_region ?_);have hsz:d<a1.tmps.size:=by have:=ht1.1;rw[<-length_toList,<-this];exact hlt
    have hev:(a1.put (some d) (.func (.func fC) #[] (cap.map a1.eval))).eval (.tmp d) = .func (.func fC) #[] (cap.map a1.eval):=by
     simp[Act.put,Act.eval,hsz]
    have hw1:Region.wanted mk (yielded #[mk,df] a1.tmps)=true:=by simp[Region.wanted,hmg]
    have hw2:∀t,Region.wanted df (yielded #[mk,df] t)=true:=λt=>by simp[Region.wanted,hdg]
    show wpOpsIn (fG none) 0 P #[mk,df] _ [0,1] a1 w1;simp only[wpOpsIn,List.getElem?_toArray,List.getElem?_cons_zero,List.getElem?_cons_succ,hw1,if_true];refine⟨λ_ _=>trivial,?_⟩;rw[Oper.semAt_eq _ _ _ (λc hc=>by rw[hmk]at hc;cases hc)];have hrun1:(execOp a1.eval mk).run P w1 = .ok (.value (.func (.func fC) #[] (cap.map a1.eval))) w1:=by
     unfold execOp;simp[hmk,Instr.makeFunc]
    rw[hrun1];rw[Oper.uponIn_value];rw[hmd,if_pos (hw2 _)];refine⟨λ_ _=>trivial,?_⟩;have hrun2:(df.semAt (fG none).round (a1.put (some d) (.func (.func fC) #[] (cap.map a1.eval))).eval).run P w1 = .ok (.defer { target:= .fn (.func fC) (cap.map a1.eval),args:= #[] }) w1:=by
     show(execOp (a1.put (some d) (.func (.func fC) #[] (cap.map a1.eval))).eval df).run P w1=_;unfold execOp;simp only[hdf,resolve,hev,Deferred.ofValue,run_bind,Sem.run_pure,andThen_ok];simp
    rw[hrun2];show Code.wpIn (fG none) 0 P rest _ ({ (a1.put (some d) (.func (.func fC) #[] (cap.map a1.eval)))with defers:={ target:= .fn (.func fC) (cap.map a1.eval),args:= #[] }::(a1.put (some d) (.func (.func fC) #[] (cap.map a1.eval))).defers }.put df.dst undef) w1;rw[hdd];have ht1':aG β1 (tm.set d eu) (a1.put (some d) (.func (.func fC) #[] (cap.map a1.eval))).tmps.toList:=by
     have:=gF ht1 (some d) (v:=eu) (.eu (.func (.func fC) #[] (cap.map a1.eval)));exact this
    refine pv (r:=none) hN hcf rest (.inl rfl) (fO (iO hN _ hcf) hd1) _ hrest hst1.jG (hg.mono hst1.le) (a:={ (a1.put (some d) (.func (.func fC) #[] (cap.map a1.eval)))with defers:=_ }) ht1' λa2 w2 β2 hst2 ht2 hm2=>?_;have hst12:=hst1.trans hst2;obtain⟨ms1,hd1',hn1,hb1⟩:=hm1;obtain⟨ms2,hd2',hn2,hb2⟩:=hm2;simp only[append_nil]at hd1';have hdd2:a2.defers=ms2.map yQ++({ target:= .fn (.func fC) (cap.map a1.eval),args:= #[] }::ms1.map yQ):=by
     rw[hd2'];show _++(_::(a1.put (some d) _).defers)=_;rw[put_defers,hd1']
    show LeavesInM Fence.wide 0 P fn a2.tmps (j5 β h w (aO vs) h2) a2.defers .returning w2;rw[hdd2];refine jR ms2 w2 hn2 (λb hm=>⟨Nat.le_trans hst1.size (hb2 b hm).1,(hb2 b hm).2.2.1⟩) hst12 λw3 hst3 hsame=>?_;refine⟨by simp,.inr ⟨λhd=>by simp[Fence.wide]at hd,.func fC,cap.map a1.eval,fC,#[]++cap.map a1.eval,rfl,dq hN hfC hbC _ _,λ_ _=>trivial,?_⟩⟩;refine(hidle (#[]++cap.map a1.eval) w3 (by simp)).mono ?_;rintro e u' w4 ⟨⟨v,rfl⟩,rfl,hbelow,hdr⟩;show LeavesInM Fence.wide 0 P fn a2.tmps (j5 β h w (aO vs) h2) (ms1.map yQ) .returning w4;refine kV (P:=P) hres ht2 ms1 w4 hn1 (λb hm=>⟨(hb1 b hm).1,?_⟩) (hst3.trans (od hst3.jG hbelow hdr));obtain⟨h4,h5,h6,h7⟩:=hb1 b hm;have hlt2:b<w2.heap.size:=lt_of_lt_of_le h5 hst2.size;have hnot:b∉ms2:=λhmem=>by have:=(hb2 b hmem).1;omega
    have h8:w2.heap[b]?=some (.deferred (some [])):=(hst2.kept b h5 h7).trans h6;have h9:w3.heap[b]?=some (.deferred (some [])):=(hsame b hnot).trans h8;rw[hbelow.block b ?_,h9];exact(Array.getElem?_eq_some_iff.1 h9).1
   ·cases hp
  ·cases hp
 grind
section
noncomputable def pV(x:Exit)(bad r:Bool):Bool:=Exit.rec (motive:=λ_=>Bool) bad (λ_=>bad) (λ_=>bad) r (λ_=>bad) bad x
noncomputable def C2(P:Program)(gl:Nat->Bool)(bad:Bool)(fn:Func)(r0 rest:Code)(d:Tmp):jM:=λcf args h K=>
 dW (Nat.ble fn.ntmps 256&&Nat.ble args.length fn.ntmps&&Nat.blt d fn.ntmps)
  (pG args 0 qE λe=>codeF r0 ⟨P,gl,cf,40,fn.ntmps,bad⟩ e h λx e h1=>fF x
   (lj fn.ntmps (some d) e eu λe=>codeF rest ⟨P,gl,cf,40,fn.ntmps,bad⟩ e h1 λx e h2=>pV x bad (so P e h2 bad fn.results.toList λvs=>K (aO vs) h2))
   (λ_=>bad) bad) bad
theorem C3(bad:Bool)(fn:Func)(r0 rest:Code)(d:Tmp)(cf:FuncId->List Value->aa->(Value->aa->Bool)->Bool)(cr:br)(hcf:∀f args h K,Ref bad (cf f args h K) (cr f args h) λr=>K r.1 r.2)(args:List Value)(h:aa)(K:Value->aa->Bool):
  Ref bad (C2 P gl bad fn r0 rest d cf args h K) (oQ P gl fn r0 rest d cr args h) λr=>K r.1 r.2:=by
 unfold C2;refine cD (λhb=>?_) (λ_=> .bad);simp only[and_eq_true,ble_eq,blt_eq]at hb;obtain⟨⟨hb1,hb2⟩,hb3⟩:=hb;obtain⟨e',h3,h4⟩:=mF args 0 qE (by omega);rw[h3];have hr:dv fn.ntmps e' (args++List.replicate (fn.ntmps-args.length) undef):=by
  refine⟨by simp;omega,hb1,λt=>?_⟩;rw[h4];split
  ·next ht=>rw[Nat.sub_zero,gD,gD,List.getElem?_append_left (by omega)]
  ·next ht=>
   rw[pz,gD,List.getElem?_append_right (by omega),getElem?_replicate];split<;>rfl
 let cx:Cx:=⟨P,gl,cf,40,fn.ntmps,bad⟩
 have hcf':nK cx cr:=λf args h K=>hcf f args h K;rcases dP hcf' r0 (h:=h) (K:=λx e h1=>fF x
   (lj fn.ntmps (some d) e eu λe=>codeF rest cx e h1 λx e h2=>pV x bad (so P e h2 bad fn.results.toList λvs=>K (aO vs) h2))
   (λ_=>bad) bad) hr with h5|⟨ex,l1,g1,e1,h6,hr1,h7⟩
 ·exact .inl h5
 ·refine(show Ref bad (codeF r0 cx e' h _) _ _ from ?_);rw[h7];dsimp only
  cases ex with
  | normal=>
   dsimp only[fF];obtain⟨e2,h8,h9⟩:=nq hr1 (some d) eu;have h9':=λ(K:Env->Bool)=>h9 K;rw[show(lj fn.ntmps (some d) e1 eu λe=>codeF rest cx e g1 λx e h2=>pV x bad (so P e h2 bad fn.results.toList λvs=>K (aO vs) h2))=_ from h9' _];rcases dP hcf' rest (h:=g1) (K:=λx e h2=>pV x bad (so P e h2 bad fn.results.toList λvs=>K (aO vs) h2)) h8 with h10|⟨ex2,l2,g2,e3,h11,hr3,h12⟩
   ·exact .inl h10
   ·rw[h12];dsimp only
    cases ex2 with
    | ret=>
     dsimp only[pV];rcases pU hr3 fn.results.toList (λvs=>K (aO vs) g2) (P:=P) (h:=g2) (bad:=bad)with h13|⟨vs,h13,h14⟩
     ·exact .inl h13
     ·refine .of (r:=(aO vs,g2)) ?_ h14;have h6':aE P gl cr 40 r0 (args++List.replicate (fn.ntmps-args.length) undef) h=some (.normal,l1,g1):=h6;have h11':aE P gl cr 40 rest (l1.set d eu) g1=some (.ret,l2,g2):=h11;have hlen:d<l1.length:=by rw[hr1.1];exact hb3
      simp only[oQ,h6',if_pos hlen,h11',h13,map_some]
    |_=>exact .inl rfl
  |_=>exact .inl rfl
end
end
section
variable {β:cp} {P:Program} {gl:Nat->Bool}
noncomputable def laid(l:List (Nat×bt))(t:HT):HT:=List.rec (motive:=λ_=>HT) t (λp _ ih=>HT.set (some p.2) (pathOf p.1) ih) l
theorem Gd(p:Nat×bt)(l:List (Nat×bt))(t:HT):laid (p::l) t=HT.set (some p.2) (pathOf p.1) (laid l t):=rfl
structure zK where
 args:List Value
 old:List (Nat×bt)
 next:Nat
 v:Value
 new:List (Nat×bt)
 next':Nat
def KL(B C:bt):Bool:=match B,C with
 |.cells cs t sz _,.cells cs' t' sz' _=>EA (jB 4) cs cs'&&Nat.beq t t'&&Nat.beq sz sz'
 |_,_=>false
def L6:bt->Bool
 |.cells _ _ _ wr=> !wr
 |_=>false
noncomputable def N7(h:aa)(p:Nat×bt):Bool:=L6 p.2&&(match h.get p.1 with|some C=>KL p.2 C|none=>false)
noncomputable def fits(h:aa)(args:List Value)(r:zK):Bool:=EA (jB 4) r.args args&&Nat.ble h.next r.next&&r.old.all (N7 h)
noncomputable def QC(r:zK)(h:aa):aa:=⟨r.next',laid r.new h.t⟩
noncomputable def IN(h:aa)(args:List Value):List zK->Option zK
 |[]=>none
 |r::l=>if fits h args r then some r else IN h args l
noncomputable def JB(rows:List zK):jD:=λ_ args h=>(IN h args rows).map λr=>(r.v,QC r h)
noncomputable def EM(l:List (Nat×bt))(t:HT)(K:HT->Bool):Bool:=List.rec (motive:=λ_=>(HT->Bool)->Bool) (λK=>K t) (λp _ ih K=>ih λt=>HT.jF (some p.2) (pathOf p.1) t K) l K
theorem A2(t:HT):∀(l:List (Nat×bt))(K:HT->Bool),EM l t K=K (laid l t)
 |[],_=>rfl
 |p::l,K=>by
  show EM l t (λt=>HT.jF (some p.2) (pathOf p.1) t K)=_;rw[A2 t l,HT.dt,Gd]
noncomputable def Il(bad:Bool)(rows:List zK):jM:=λ_ args h K=>List.rec (motive:=λ_=>Bool) bad (λr _ ih=>dW (fits h args r) (EM r.new h.t λt=>gT r.v λv=>K v ⟨r.next',t⟩) ih) rows
theorem FU(bad:Bool)(rows:List zK)(cf:FuncId->List Value->aa->(Value->aa->Bool)->Bool)(cr:br)(args:List Value)(h:aa)(K:Value->aa->Bool):Ref bad (Il bad rows cf args h K) (JB rows cr args h) λr=>K r.1 r.2:=by
 unfold JB
 induction rows with
 |nil=>exact .inl rfl
 |cons r rows ih=>
  show Ref bad (dW (fits h args r) (EM r.new h.t λt=>gT r.v λv=>K v ⟨r.next',t⟩) (Il bad rows cf args h K)) _ _;simp only[IN];refine cD (λhb=>?_) (λhb=>?_)
  ·rw[A2,dc,if_pos hb];exact .of rfl rfl
  ·rw[if_neg (by rw[hb];simp)];exact ih
end
section
variable {P:Program} {gl:Nat->Bool}
inductive ml where
 |mH (tab:List (List Value×Value))
 |MU
 |EK
 |defer (fn:Func) (r0 rest:Code) (d:Tmp)
 |dQ (rows:List zK)
noncomputable def ml.BV(P:Program)(gl:Nat->Bool)(e:ml):jD:=ml.rec (motive:=λ_=>jD) (λtab=>xh tab) hH ft (λfn r0 rest d=>oQ P gl fn r0 rest d) (λrows=>JB rows) e
noncomputable def ml.Ip(P:Program)(gl:Nat->Bool)(bad:Bool)(e:ml):jM:=ml.rec (motive:=λ_=>jM) (λtab=>Im bad tab) (wL bad) (oB bad) (λfn r0 rest d=>C2 P gl bad fn r0 rest d) (λrows=>Il bad rows) e
abbrev iK:=List (FuncId×ml)
noncomputable def yl{α:Type}(b:Bool)(x y:Option α):Option α:=Bool.rec (motive:=λ_=>Option α) y x b
noncomputable def zg(P:Program)(gl:Nat->Bool)(l:iK)(f:FuncId):Option jD:=List.rec (motive:=λ_=>Option jD) none (λx _ ih=>yl (Nat.beq f x.1) (some (x.2.BV P gl)) ih) l
noncomputable def Ja(P:Program)(gl:Nat->Bool)(bad:Bool)(l:iK)(f:FuncId):Option (jM):=List.rec (motive:=λ_=>Option (jM)) none (λx _ ih=>yl (Nat.beq f x.1) (some (x.2.Ip P gl bad)) ih) l
theorem Jb(bad:Bool)(l:iK):ph bad (Ja P gl bad l) (zg P gl l):=λf=>by
 induction l with
 |nil=>exact .inl ⟨rfl,rfl⟩
 | cons x l ih=>
  show(yl (Nat.beq f x.1) (some (x.2.Ip P gl bad)) (Ja P gl bad l f)=none/\yl (Nat.beq f x.1) (some (x.2.BV P gl)) (zg P gl l f)=none)\/_
  cases hx:Nat.beq f x.1 with
  | false=>
   rcases ih with⟨h1,h2⟩|⟨p,q,h1,h2,h3⟩
   ·exact .inl ⟨h1,h2⟩
   ·refine .inr ⟨p,q,?_,?_,h3⟩
    ·show yl (Nat.beq f x.1) (some (x.2.Ip P gl bad)) (Ja P gl bad l f)=_;rw[hx];exact h1
    ·show yl (Nat.beq f x.1) (some (x.2.BV P gl)) (zg P gl l f)=_;rw[hx];exact h2
  | true=>
   refine .inr ⟨x.2.Ip P gl bad,x.2.BV P gl,?_,?_,λcf cr hcf args h K=>?_⟩
   ·show yl (Nat.beq f x.1) (some (x.2.Ip P gl bad)) (Ja P gl bad l f)=_;rw[hx];rfl
   ·show yl (Nat.beq f x.1) (some (x.2.BV P gl)) (zg P gl l f)=_;rw[hx];rfl
   ·obtain⟨k,e⟩:=x
    cases e with
    |mH tab=>exact FV bad tab cf cr args h K
    |MU=>exact vN bad cf cr args h K
    |EK=>exact tI bad cf cr args h K
    |defer fn r0 rest d=>exact C3 bad fn r0 rest d cf cr hcf args h K
    |dQ rows=>exact FU bad rows cf cr args h K
def ji(P:Program)(gl:Nat->Bool)(l:iK):Prop:=∀x∈l,gm P gl x.1 (x.2.BV P gl)
theorem E4{l:iK}(h:ji P gl l):pg P gl (zg P gl l):=λf p hp=>by
 induction l with
 |nil=>cases hp
 | cons x l ih=>
  have hp:yl (Nat.beq f x.1) (some (x.2.BV P gl)) (zg P gl l f)=some p:=hp
  cases hx:Nat.beq f x.1 with
  |false=>rw[hx]at hp;exact ih (λy hy=>h y (by simp[hy])) hp
  |true=>
   rw[hx]at hp;obtain rfl:=oI hp;obtain rfl:f=x.1:=by simpa[beq_eq]using hx
   exact h x (by simp)
theorem wu:ji P gl []:=λ_ h=>by cases h
theorem fU{x:FuncId×ml}{l:iK}(h:gm P gl x.1 (x.2.BV P gl))(hl:ji P gl l):ji P gl (x::l):=λy hy=>by
 rcases mem_cons.1 hy with rfl|hy
 ·exact h
 ·exact hl y hy
theorem ck{f:FuncId}{tab:List (List Value×Value)}{l:iK}(h:gw P f tab)(hl:ji P gl l):ji P gl ((f,.mH tab)::l):=fU (LH h) hl
structure oq(P:Program):Prop where
 names:cV P
 H9:∀(f:FuncId)(fn:Func),P.funcs[f]?=some fn->dk fn=true
theorem oq.run(h:oq P){l:iK}(hl:ji P gl l)(n:Nat):ke P gl (aQ P gl (zg P gl l) n):=yg h.names (E4 hl) (rf h.names h.H9) (iO h.names) n
theorem oq.S8(h:oq P){pr:FuncId->Option jD}(hp:pg P gl pr)(n:Nat):ke P gl (aQ P gl pr n):=yg h.names hp (rf h.names h.H9) (iO h.names) n
theorem aj(ht:oq P){l:iK}(hl:ji P ju l){n:Nat}{f:FuncId}{args:List Value}{v:Value}(hr:nO P ju (Ja P ju false l) false n f args ⟨0,.nil⟩ (λu _=>wx v u)=true)
  (hc:(args.all bare&&plain v&&Nat.blt f YB&&mq P f)=true):aF P f args v:=
 Gc ht.names (Jb false l) (ht.run hl n) hr hc
end
end Go.Ab
end
section
namespace Go.Ab
open Go
section
structure Sx where
 P:Program
 gl:Nat->Bool
 pr:FuncId->Option jD
abbrev Fr:=Nat->Value
def Kn(E:Fr)(d:Nat)(v:Value):Fr:=λt=>if t=d then v else E t
def nF(E:Fr)(dst:Option Tmp)(v:Value):Fr:=match dst with
 |some d=>Kn E d v
 |none=>E
def cZ(gl:Nat->Bool)(E:Fr):Operand->Value
 |.tmp t=>E t
 |.const v=>if plain v then v else eu
 |.global g=>if gl g then .pointer (some ⟨g,0,none⟩)else eu
 |.func f=> .func (.func f) #[] #[]
def ER(nm:Nat)(E:Fr)(tm:List Value):Prop:=tm.length=nm/\∀t,tm.getD t undef=E t
def px(nm:Nat):Option Tmp->Bool
 |none=>true
 |some d=>decide (d<nm)
theorem ER.ev{nm:Nat}{E:Fr}{tm:List Value}(gl:Nat->Bool)(h:ER nm E tm):ev gl tm=cZ gl E:=by
 funext x
 cases x with
 |tmp t=>exact h.2 t
 |const v=>rfl
 |global g=>rfl
 |func f=>rfl
theorem ER.put{nm:Nat}{E:Fr}{tm:List Value}(h:ER nm E tm){dst:Option Tmp}(hd:px nm dst=true)(v:Value):ER nm (nF E dst v) (eB tm dst v):=by
 cases dst with
 |none=>exact h
 |some d=>
  have hd:d<nm:=by simpa[px]using hd
  refine⟨by simp[eB,h.1],λt=>?_⟩;simp only[eB,nF,Kn,gD,List.getElem?_set];by_cases ht:t=d
  ·subst ht;rw[if_pos rfl,if_pos rfl,if_pos (by rw[h.1];omega)];rfl
  ·rw[if_neg ht,if_neg (λe=>ht e.symm),<-gD];exact h.2 t
def FR(S:Sx)(f:FuncId)(args:List Value)(h:aa)(v:Value)(h':aa):Prop:=∃n0,∀n,n0<=n->aQ S.P S.gl S.pr n f args h=some (v,h')
def FW(S:Sx)(f:FuncId)(args:List Value)(h:aa)(Q:Value->aa->Prop):Prop:=∃v h',FR S f args h v h'/\Q v h'
theorem FW.mono{S:Sx}{f:FuncId}{args:List Value}{h:aa}{Q R:Value->aa->Prop}(hq:FW S f args h Q)(hr:∀v h',Q v h'->R v h'):FW S f args h R:=by
 obtain⟨v,h',h1,h2⟩:=hq;exact⟨v,h',h1,hr v h' h2⟩
abbrev VH:=Value->aa->Prop
abbrev FH:=Fr->aa->Prop
abbrev vD:=Exit->Fr->aa->Prop
def vc(ops:Array Oper)(E:Fr)(guard:Option (Nat×Bool)):Option Bool:=match guard with
 |none=>some true
 | some (j,want)=>match (ops[j]?).bind (·.dst)with
  |some d=>match E d with
   |.bool b=>some (b==want)
   |.tuple _=>some false
   |_=>none
  |none=>none
theorem jC{nm:Nat}{E:Fr}{tm:List Value}(h:ER nm E tm)(ops:Array Oper)(o:Oper):du ops tm o=vc ops E o.guard:=by
 unfold du vc
 cases o.guard with
 |none=>rfl
 |some g=>
  obtain⟨j,want⟩:=g;dsimp only
  cases (ops[j]?).bind (·.dst)with
  |none=>rfl
  |some d=>dsimp only;rw[h.2 d];rfl
def zI(r:Option (Value×cL))(h:aa)(K:VH):Prop:=match r with
 |some (v,u)=>K v (u.app h)
 |none=>False
def nI(r:Option Value)(h:aa)(K:VH):Prop:=match r with
 |some v=>K v h
 |none=>False
def lI(S:Sx)(f:Value)(args:List Value)(h:aa)(K:VH):Prop:=match f with
 |.func (.func g) first captured=>g<YB/\FW S g (first.toList++args++captured.toList) h K
 |.func (.yield k) first captured=>(first.size=0/\captured.size=0)/\FW S (YB+k) args h K
 |_=>False
def wpOp(S:Sx)(E:Fr)(o:Oper)(h:aa)(K:VH):Prop:=match o.op with
 |.call { callee:= .value f,args,.. }=>lI S (cZ S.gl E f) (args.toList.map (cZ S.gl E)) h K
 |_=>zI (aP S.P eJ (cZ S.gl E) o h) h K
def M6(r:Option Bool)(A B:Unit->Prop):Prop:=match r with
 |some true=>A ()
 |some false=>B ()
 |none=>False
def Ko(S:Sx)(ops:Array Oper):List Oper->Fr->aa->FH->Prop
 |[],E,h,R=>R E h
 |o::l,E,h,R=>M6 (vc ops E o.guard) (λ_=>wpOp S E o h λv h=>Ko S ops l (nF E o.dst v) h R) (λ_=>Ko S ops l (nF E o.dst undef) h R)
def Rv(S:Sx)(ops:Array Oper)(dst:Option Tmp)(l:List Oper)(E:Fr)(h:aa)(R:FH)(_:Unit):Prop:=Ko S ops l (nF E dst undef) h R
def TW(S:Sx)(ops:Array Oper)(dst:Option Tmp)(l:List Oper)(E:Fr)(R:FH)(v:Value)(h:aa):Prop:=Ko S ops l (nF E dst v) h R
def SW(S:Sx)(ops:Array Oper)(o:Oper)(l:List Oper)(E:Fr)(h:aa)(R:FH)(_:Unit):Prop:=wpOp S E o h (TW S ops o.dst l E R)
section
variable (S:Sx) (ops:Array Oper) (o:Oper) (l:List Oper) (dst:Option Tmp) (E:Fr) (h:aa) (R:FH) (v:Value)
theorem J9:Ko S ops (o::l) E h R=M6 (vc ops E o.guard) (SW S ops o l E h R) (Rv S ops o.dst l E h R):=rfl
theorem D9(ops:Array Oper)(E:Fr)(j:Nat)(want:Bool):vc ops E (some (j,want))=match (ops[j]?).bind (·.dst)with
  |some d=>(match E d with|.bool b=>some (b==want)|.tuple _=>some false|_=>none)
  |none=>none:=rfl
end
noncomputable section
variable (S:Sx) (bf:Nat->Nat->Bool)
def xj(o:Oper)(E:Fr)(v:Value)(h:aa):Bool:=match aT S.P (cZ S.gl E) o h with
 |some v'=>jB 4 v v'
 |none=>false
def jW(j:Nat)(o:Oper)(E:Fr)(v:Value):aa->List (Nat×aa)->Bool->Bool
 |h,[],own=>own||xj S o E v h
 |h,(e,h')::r,own=>((own&&Nat.blt j e)||bf j e||xj S o E v h)&&(bf e j||jW j o E v h' r (Nat.blt e j))
abbrev Cl:=Fr×Oper×iF
def oP(h:aa)(es:List (Nat×aa)):List Cl->Nat->Bool
 |[],_=>true
 |(E,o,.read v)::r,j=>jW S bf j o E v h es true&&oP h es r (j+1)
 |_::r,j=>oP h es r (j+1)
def jN:List Cl->Nat->List (Nat×aa)
 |[],_=>[]
 |(_,_,.nR _ h)::r,j=>(j,h)::jN r (j+1)
 |_::r,j=>jN r (j+1)
def pw(h:aa)(recs:List Cl):Bool:=chained bf (jN recs 0)&&oP S bf h (jN recs 0) recs 0
def vj(E:Fr)(o:Oper)(h:aa)(K:VH):Prop:=match o.op with
 |.call { callee:= .value f,args,.. }=>lI S (cZ S.gl E f) (args.toList.map (cZ S.gl E)) h K
 |_=>zI (cB S.P eJ (cZ S.gl E) o h) h K
def qd(ops:Array Oper)(base:Nat)(h0:aa):List Oper->Nat->Fr->aa->List (Nat×bt)->List Cl->FH->Prop
 |[],_,E,h,pd,recs,R=>pw S bf h0 recs.reverse=true/\R E (aV h base pd)
 | o::l,j,E,h,pd,recs,R=>M6 (vc ops E o.guard)
   (λ_=>match aK S.P (cZ S.gl E) o with
    |some v=>qd ops base h0 l (j+1) (nF E o.dst v) h pd ((E,o,.pure v)::recs) R
    | none=>match aT S.P (cZ S.gl E) o h with
     |some v=>qd ops base h0 l (j+1) (nF E o.dst v) h pd ((E,o,.read v)::recs) R
     |none=>match aJ S.P (cZ S.gl E) o with
      |some (B,f)=>qd ops base h0 l (j+1) (nF E o.dst (f (base+j))) h ((j,B)::pd) ((E,o,.alloc B (f (base+j)))::recs) R
      |none=>vj S E o (aV h base (pd.filter λp=>bf j p.1)) λv h'=>qd ops base h0 l (j+1) (nF E o.dst v) h' (pd.filter λp=> !bf j p.1) ((E,o,.nR v h')::recs) R)
   (λ_=>qd ops base h0 l (j+1) (nF E o.dst undef) h pd ((E,o,.skip)::recs) R)
def Pt(ops:Array Oper)(E:Fr)(h:aa)(R:FH):Prop:=
 qm ops=false/\qd S (cj (eL ops)) ops h.next { h with next:=h.next+ops.size } ops.toList 0 E { h with next:=h.next+ops.size } [] [] R
end
section
variable (S:Sx) (nm:Nat)
def Hq(c:Code)(E:Fr)(h:aa)(x:Exit)(E':Fr)(h':aa):Prop:=
 ∃n0,∀n N,n0<=n->n0<=N->∀tm,ER nm E tm->∃tm',ER nm E' tm'/\aE S.P S.gl (aQ S.P S.gl S.pr n) N c tm h=some (x,tm',h')
def PJ(c:Code)(E:Fr)(h:aa)(x:Exit)(E':Fr)(h':aa):Prop:=
 ∃n0,∀n N j,n0<=n->n0<=N->n0<=j->∀tm,ER nm E tm->∃tm',ER nm E' tm'/\iter (aE S.P S.gl (aQ S.P S.gl S.pr n) N c) j tm h=some (x,tm',h')
def wk(c:Code)(E:Fr)(h:aa)(Q:vD):Prop:=∃x E' h',PJ S nm c E h x E' h'/\Q x E' h'
def CD(c:Code)(E:Fr)(h:aa)(Q:vD):Prop:=∃x E' h',Hq S nm c E h x E' h'/\Q x E' h'
def Tx(v:Value)(A B:Unit->Prop):Prop:=match v with
 |.bool true=>A ()
 |.bool false=>B ()
 |_=>False
def J5:Code->Fr->aa->vD->Prop
 |.skip,E,h,Q=>Q .normal E h
 |.region _ ops false,E,h,Q=>Ko S ops ops.toList E h λE h=>Q .normal E h
 |.region _ ops true,E,h,Q=>Pt S ops E h λE h=>Q .normal E h
 |.seq a b,E,h,Q=>J5 a E h λx E h=>match x with
  |.normal=>J5 b E h Q
  |x=>Q x E h
 |.cond c a b,E,h,Q=>Tx (cZ S.gl E c) (λ_=>J5 a E h Q) (λ_=>J5 b E h Q)
 |.block id c,E,h,Q=>J5 c E h λx E h=>match x with
  |.exit id'=>if id'=id then Q .normal E h else Q (.exit id') E h
  |x=>Q x E h
 |.loop c,E,h,Q=>wk S nm c E h Q
 |.exit id,E,h,Q=>Q (.exit id) E h
 |.ret,E,h,Q=>Q .ret E h
 |.label _,E,h,Q=>Q .normal E h
 |.rangeFunc f ps a b,E,h,Q=>CD S nm (.rangeFunc f ps a b) E h Q
 |_,_,_,_=>False
def PS(c:Code)(Q:vD)(x:Exit)(E:Fr)(h:aa):Prop:=match x with
 |.normal=>wk S nm c E h Q
 |x=>Q x E h
def TE(c:Code)(E:Fr)(h:aa)(Q:vD)(_:Unit):Prop:=J5 S nm c E h Q
variable (a b c:Code) (o:Operand) (id id':Nat) (ops:Array Oper) (E:Fr) (h:aa) (Q:vD)
theorem J6:J5 S nm (.cond o a b) E h Q=Tx (cZ S.gl E o) (TE S nm a E h Q) (TE S nm b E h Q):=rfl
end
theorem Mv{v:Value}{A B:Unit->Prop}(h:Tx v A B):∃b,v = .bool b/\((b=true/\A ())\/(b=false/\B ())):=by
 cases v with
 |bool b=>
  cases b with
  |true=>exact⟨true,rfl,.inl ⟨rfl,h⟩⟩
  |false=>exact⟨false,rfl,.inr ⟨rfl,h⟩⟩
 |_=>exact h.elim
theorem zv{r:Option Bool}{A B:Unit->Prop}(h:M6 r A B):(r=some true/\A ())\/(r=some false/\B ()):=by
 cases r with
 |none=>exact h.elim
 |some b=>
  cases b with
  |true=>exact .inl ⟨rfl,h⟩
  |false=>exact .inr ⟨rfl,h⟩
section
variable {S:Sx} {nm:Nat}
theorem qc{fv:Value}{args:List Value}{h:aa}{K:VH}(hw:lI S fv args h K):∃v h' n0,(∀n,n0<=n->mo (aQ S.P S.gl S.pr n) fv args h=some (v,.all h'))/\K v h':=by
 unfold lI at hw;split at hw
 ·next g first captured=>
  obtain⟨hY,v,h',⟨n0,hr⟩,hk⟩:=hw;refine⟨v,h',n0,λn hn=>?_,hk⟩;simp only[mo];rw[if_pos hY,hr n hn];rfl
 ·obtain⟨hz,v,h',⟨n0,hr⟩,hk⟩:=hw;refine⟨v,h',n0,λn hn=>?_,hk⟩;simp only[mo];rw[if_pos hz,hr n hn];rfl
 grind
theorem jo{o:Oper}(hc:aI o=true):∃f args ts,o.op = .call { callee:= .value f,args:=args,argTypes:=ts }:=by grind[aI]
theorem Ce{E:Fr}{o:Oper}{h:aa}{K:VH}(hw:vj S E o h K):∃v u n0,(∀n,n0<=n->cB S.P (aQ S.P S.gl S.pr n) (cZ S.gl E) o h=some (v,u))/\K v (u.app h):=by
 cases hc:aI o with
 |true=>
  obtain⟨f,args,ts,e⟩:=jo hc;obtain⟨dst,op,ty,pos,after,guard⟩:=o;dsimp only at e;subst e;obtain⟨v,h',n0,h1,h2⟩:=qc hw;exact⟨v,.all h',n0,h1,h2⟩
 | false=>
  have hw':zI (cB S.P eJ (cZ S.gl E) o h) h K:=by
   unfold vj at hw;split at hw
   ·next e=>unfold aI at hc;rw[e]at hc;cases hc
   ·exact hw
  unfold zI at hw';split at hw'
  ·next v u e=>exact⟨v,u,0,λn _=>by rw[<-oL hc];exact e,hw'⟩
  grind
theorem Bx{P:Program}{cf:br}{ρ:Operand->Value}{o:Oper}{h:aa}(hc:aI o=true):aP P cf ρ o h=cB P cf ρ o h:=by
 obtain⟨f,args,ts,e⟩:=jo hc;obtain⟨dst,op,ty,pos,after,guard⟩:=o;dsimp only at e;subst e;rfl
theorem Ef{E:Fr}{o:Oper}{h:aa}{K:VH}(hw:wpOp S E o h K):∃v u n0,(∀n,n0<=n->aP S.P (aQ S.P S.gl S.pr n) (cZ S.gl E) o h=some (v,u))/\K v (u.app h):=by
 cases hc:aI o with
 |true=>
  obtain⟨f,args,ts,e⟩:=jo hc;obtain⟨dst,op,ty,pos,after,guard⟩:=o;dsimp only at e;subst e;obtain⟨v,h',n0,h1,h2⟩:=qc hw;exact⟨v,.all h',n0,λn hn=>by rw[Bx hc];exact h1 n hn,h2⟩
 | false=>
  have hw':zI (aP S.P eJ (cZ S.gl E) o h) h K:=by
   unfold wpOp at hw;split at hw
   ·next e=>unfold aI at hc;rw[e]at hc;cases hc
   ·exact hw
  unfold zI at hw';split at hw'
  ·next v u e=>exact⟨v,u,0,λn _=>by rw[<-uu hc];exact e,hw'⟩
  grind
theorem qZ(ops:Array Oper){R:FH}:∀(l:List Oper)(E:Fr)(h:aa),(l.all λo=>px nm o.dst)=true->Ko S ops l E h R->
  ∃E' h' n0,(∀n,n0<=n->∀tm,ER nm E tm->∃tm',ER nm E' tm'/\eA S.P S.gl (aQ S.P S.gl S.pr n) ops l tm h=some (tm',h'))/\R E' h'
 |[],E,h,_,hw=>⟨E,h,0,λn _ tm ht=>⟨tm,ht,rfl⟩,hw⟩
 | o::l,E,h,hd,hw=>by
  simp only[all_cons,and_eq_true]at hd;rcases zv hw with⟨hg,hw⟩|⟨hg,hw⟩
  ·obtain⟨v,u,n1,h1,h2⟩:=Ef hw;obtain⟨E',h',n2,h3,h4⟩:=qZ ops l _ _ hd.2 h2;refine⟨E',h',max n1 n2,λn hn tm ht=>?_,h4⟩;obtain⟨tm',ht',h5⟩:=h3 n (by omega) _ (ht.put hd.1 v);refine⟨tm',ht',?_⟩;simp only[eA];rw[jC ht,hg,ht.ev,h1 n (by omega)];omega
  ·obtain⟨E',h',n2,h3,h4⟩:=qZ ops l _ _ hd.2 hw;refine⟨E',h',n2,λn hn tm ht=>?_,h4⟩;obtain⟨tm',ht',h5⟩:=h3 n hn _ (ht.put hd.1 undef)
   grind[jC,eA]
def sX(nm:Nat):List Oper->List Cl->List (List Value×iF)->Prop
 |[],[],[]=>True
 |o::os,(E,o',e)::r,(tm,e')::r'=>o'=o/\e'=e/\ER nm E tm/\sX nm os r r'
 |_,_,_=>False
theorem Ax:∀{l:List Oper}{r:List Cl}{r':List (List Value×iF)}(j:Nat),sX nm l r r'->cT r' j=jN r j
 |[],[],[],_,_=>rfl
 |o::os,(E,o',e)::r,(tm,e')::r',j,h=>by
  obtain⟨rfl,rfl,_,h⟩:=h
  cases e'<;>simp only[cT,jN,Ax (j+1) h]
 |[],[],_::_,_,h=>h.elim
 |[],_::_,_,_,h=>h.elim
 |_::_,[],_,_,h=>h.elim
 |_::_,_::_,[],_,h=>h.elim
theorem pX{o:Oper}{E:Fr}{tm:List Value}{v:Value}{h:aa}(ht:ER nm E tm):fu S.P S.gl o tm v h=xj S o E v h:=by
 unfold fu xj;rw[ht.ev];rfl
theorem uL{bf:Nat->Nat->Bool}{j:Nat}{o:Oper}{E:Fr}{tm:List Value}{v:Value}(ht:ER nm E tm):∀(es:List (Nat×aa))(h:aa)(own:Bool),gG S.P S.gl bf j o tm v h es own=jW S bf j o E v h es own
 |[],h,own=>by grind[pX,gG,jW]
 |(e,h')::es,h,own=>by simp only[gG,jW,pX ht,uL ht es]
theorem xf{bf:Nat->Nat->Bool}{h:aa}{es:List (Nat×aa)}:∀{l:List Oper}{r:List Cl}{r':List (List Value×iF)}(j:Nat),sX nm l r r'->eC S.P S.gl bf h es l r' j=oP S bf h es r j
 |[],[],[],_,_=>rfl
 |o::os,(E,o',e)::r,(tm,e')::r',j,hr=>by
  obtain⟨rfl,rfl,ht,hr⟩:=hr
  cases e'<;>simp only[eC,oP,xf (j+1) hr,uL ht]
 |[],[],_::_,_,h=>h.elim
 |[],_::_,_,_,h=>h.elim
 |_::_,[],_,_,h=>h.elim
 |_::_,_::_,[],_,h=>h.elim
theorem vi(bf:Nat->Nat->Bool)(ops:Array Oper)(base:Nat)(h0:aa){R:FH}:∀(l:List Oper)(j:Nat)(E:Fr)(h:aa)(pd:List (Nat×bt))(recs:List Cl),(l.all λo=>px nm o.dst)=true->qd S bf ops base h0 l j E h pd recs R->
  ∃E' h' pd' r n0,(∀n,n0<=n->∀tm,ER nm E tm->∃tm' r',ER nm E' tm'/\sX nm l r r'/\cw S.P S.gl (aQ S.P S.gl S.pr n) ops bf base l j tm h pd=some (r',tm',h',pd'))/\pw S bf h0 (recs.reverse++r)=true/\R E' (aV h' base pd')
 |[],j,E,h,pd,recs,_,hw=>⟨E,h,pd,[],0,λn _ tm ht=>⟨tm,[],ht,trivial,rfl⟩,by rw[append_nil];exact hw.1,hw.2⟩
 | o::l,j,E,h,pd,recs,hd,hw=>by
  simp only[all_cons,and_eq_true]at hd;have fin:∀(v:Value)(e:iF)(h1:aa)(pd1:List (Nat×bt))(n1:Nat),qd S bf ops base h0 l (j+1) (nF E o.dst v) h1 pd1 ((E,o,e)::recs) R->
    (∀n,n1<=n->∀tm,ER nm E tm->∀q,cw S.P S.gl (aQ S.P S.gl S.pr n) ops bf base l (j+1) (eB tm o.dst v) h1 pd1=some q->cw S.P S.gl (aQ S.P S.gl S.pr n) ops bf base (o::l) j tm h pd=some ((tm,e)::q.1,q.2))->
    ∃E' h' pd' r n0,(∀n,n0<=n->∀tm,ER nm E tm->∃tm' r',ER nm E' tm'/\sX nm (o::l) r r'/\cw S.P S.gl (aQ S.P S.gl S.pr n) ops bf base (o::l) j tm h pd=some (r',tm',h',pd'))/\pw S bf h0 (recs.reverse++r)=true/\R E' (aV h' base pd'):=by
   intro v e h1 pd1 n1 hw1 hq;obtain⟨E',h',pd',r,n2,h2,h3,h4⟩:=vi bf ops base h0 l (j+1) _ _ _ _ hd.2 hw1;refine⟨E',h',pd',(E,o,e)::r,max n1 n2,λn hn tm ht=>?_,?_,h4⟩
   ·obtain⟨tm',r',ht',hr,h5⟩:=h2 n (by omega) _ (ht.put hd.1 v);exact⟨tm',(tm,e)::r',ht',⟨rfl,rfl,ht,hr⟩,hq n (by omega) tm ht _ h5⟩
   ·grind
  rcases zv hw with⟨hg,hw⟩|⟨hg,hw⟩
  ·cases hp:aK S.P (cZ S.gl E) o with
   |some v=>
    rw[hp]at hw;refine fin v (.pure v) h pd 0 hw λn _ tm ht q hq=>?_;simp only[cw];rw[jC ht,hg,ht.ev,hp]
    grind
   | none=>
    rw[hp]at hw;dsimp only at hw
    cases hrd:aT S.P (cZ S.gl E) o h with
    |some v=>
     rw[hrd]at hw;refine fin v (.read v) h pd 0 hw λn _ tm ht q hq=>?_;simp only[cw];rw[jC ht,hg,ht.ev,hp]
     grind
    | none=>
     rw[hrd]at hw;dsimp only at hw
     cases hal:aJ S.P (cZ S.gl E) o with
     |some Bf=>
      obtain⟨B,f⟩:=Bf;rw[hal]at hw;refine fin _ (.alloc B (f (base+j))) h ((j,B)::pd) 0 hw λn _ tm ht q hq=>?_;simp only[cw];rw[jC ht,hg,ht.ev,hp]
      grind
     |none=>
      rw[hal]at hw;dsimp only at hw;obtain⟨v,u,n1,h1,h2⟩:=Ce hw;refine fin v (.nR v _) _ _ n1 h2 λn hn tm ht q hq=>?_;simp only[cw];rw[jC ht,hg,ht.ev,hp]
      grind
  ·refine fin undef .skip h pd 0 hw λn _ tm ht q hq=>?_
   grind[jC,cw]
theorem Hc{ops:Array Oper}{E:Fr}{h:aa}{R:FH}(hd:(ops.toList.all λo=>px nm o.dst)=true)(hw:Pt S ops E h R):
  ∃E' h' n0,(∀n,n0<=n->∀tm,ER nm E tm->∃tm',ER nm E' tm'/\tz S.P S.gl (aQ S.P S.gl S.pr n) ops tm h=some (tm',h'))/\R E' h':=by
 obtain⟨hany,hw⟩:=hw;obtain⟨E',h',pd',r,n0,h1,h2,h3⟩:=vi (cj (eL ops)) ops h.next _ ops.toList 0 E _ [] [] hd hw;refine⟨E',_,n0,λn hn tm ht=>?_,h3⟩;obtain⟨tm',r',ht',hr,h4⟩:=h1 n hn tm ht;refine⟨tm',ht',?_⟩;unfold tz;rw[hany,if_neg (by simp)];unfold nf;rw[h4];dsimp only;rw[Ax 0 hr,xf 0 hr]
 simp_all[pw]
def eT(nm:Nat):Code->Bool
 |.region _ ops _=>ops.toList.all λo=>px nm o.dst
 |.seq a b=>eT nm a&&eT nm b
 |.cond _ a b=>eT nm a&&eT nm b
 |.block _ c=>eT nm c
 |.loop c=>eT nm c
 |_=>true
theorem hZ:∀(c:Code){E:Fr}{h:aa}{Q:vD},eT nm c=true->J5 S nm c E h Q->∃x E' h',Hq S nm c E h x E' h'/\Q x E' h'
 |.skip,E,h,_,_,hw=>⟨.normal,E,h,⟨0,λ_ _ _ _ tm ht=>⟨tm,ht,rfl⟩⟩,hw⟩
 |.exit id,E,h,_,_,hw=>⟨.exit id,E,h,⟨0,λ_ _ _ _ tm ht=>⟨tm,ht,rfl⟩⟩,hw⟩
 |.ret,E,h,_,_,hw=>⟨.ret,E,h,⟨0,λ_ _ _ _ tm ht=>⟨tm,ht,rfl⟩⟩,hw⟩
 |.label _,E,h,_,_,hw=>⟨.normal,E,h,⟨0,λ_ _ _ _ tm ht=>⟨tm,ht,rfl⟩⟩,hw⟩
 |.region _ ops false,E,h,_,hd,hw=>by
  obtain⟨E',h',n0,h1,h2⟩:=qZ ops ops.toList E h hd hw;refine⟨.normal,E',h',⟨n0,λn N hn _ tm ht=>?_⟩,h2⟩
  grind[aE]
 |.region _ ops true,E,h,_,hd,hw=>by
  obtain⟨E',h',n0,h1,h2⟩:=Hc hd hw;refine⟨.normal,E',h',⟨n0,λn N hn _ tm ht=>?_⟩,h2⟩
  grind[aE]
 | .seq a b,E,h,Q,hd,hw=>by
  simp only[eT,and_eq_true]at hd;obtain⟨x,E1,h1,⟨n1,hr1⟩,hq⟩:=hZ a hd.1 hw;have els:(∀n N tm' ,aE S.P S.gl (aQ S.P S.gl S.pr n) N a tm' h=some (x,tm',h1)->True)->x≠ .normal->Q x E1 h1->∃x E' h',Hq S nm (.seq a b) E h x E' h'/\Q x E' h':=by
   intro _ hx hq;refine⟨x,E1,h1,⟨n1,λn N hn hN tm ht=>?_⟩,hq⟩;obtain⟨tm',ht',h3⟩:=hr1 n N hn hN tm ht;refine⟨tm',ht',?_⟩;simp only[aE];rw[h3]
   cases x with
   |normal=>grind
   |_=>rfl
  cases x with
  |normal=>
   obtain⟨x,E2,h2,⟨n2,hr2⟩,hq⟩:=hZ b hd.2 hq;refine⟨x,E2,h2,⟨max n1 n2,λn N hn hN tm ht=>?_⟩,hq⟩;obtain⟨tm',ht',h3⟩:=hr1 n N (by omega) (by omega) tm ht;obtain⟨tm2,ht2,h4⟩:=hr2 n N (by omega) (by omega) tm' ht'
   grind[aE]
  |exit id=>simp_all
  |goto l=>simp_all
  |ret=>simp_all
  |panic _=>simp_all
  |outgrown=>simp_all
 | .cond o a b,E,h,Q,hd,hw=>by
  simp only[eT,and_eq_true]at hd;obtain⟨t,hv,⟨ht,hw⟩|⟨ht,hw⟩⟩:=Mv hw
  ·obtain⟨x,E1,h1,⟨n1,hr1⟩,hq⟩:=hZ a hd.1 hw;refine⟨x,E1,h1,⟨n1,λn N hn hN tm htm=>?_⟩,hq⟩;obtain⟨tm',ht',h3⟩:=hr1 n N hn hN tm htm;refine⟨tm',ht',?_⟩;simp only[aE];rw[htm.ev,hv,ht]
   grind
  ·obtain⟨x,E1,h1,⟨n1,hr1⟩,hq⟩:=hZ b hd.2 hw;refine⟨x,E1,h1,⟨n1,λn N hn hN tm htm=>?_⟩,hq⟩;obtain⟨tm',ht',h3⟩:=hr1 n N hn hN tm htm;refine⟨tm',ht',?_⟩;simp only[aE];rw[htm.ev,hv,ht]
   grind
 | .block id c,E,h,Q,hd,hw=>by
  obtain⟨x,E1,h1,⟨n1,hr1⟩,hq⟩:=hZ c hd hw;by_cases hx:x = .exit id
  ·subst hx;dsimp only at hq;rw[if_pos rfl]at hq;refine⟨.normal,E1,h1,⟨n1,λn N hn hN tm htm=>?_⟩,hq⟩
   grind[aE]
  ·refine⟨x,E1,h1,⟨n1,λn N hn hN tm htm=>?_⟩,?_⟩
   ·obtain⟨tm',ht',h3⟩:=hr1 n N hn hN tm htm;refine⟨tm',ht',?_⟩;simp only[aE];rw[h3]
    cases x with
    |exit id'=>dsimp only;rw[if_neg (λe=>hx (by rw[e]))]
    |_=>rfl
   grind
 |.loop c,E,h,Q,hd,hw=>by
  obtain⟨x,E1,h1,⟨n1,hr1⟩,hq⟩:=hw;refine⟨x,E1,h1,⟨n1,λn N hn hN tm htm=>?_⟩,hq⟩;obtain⟨tm',ht',h3⟩:=hr1 n N N hn hN hN tm htm;exact⟨tm',ht',h3⟩
 |.rangeFunc ..,_,_,_,_,hw=>hw
 |.scope _,_,_,_,_,hw=>hw.elim
 |.goto _,_,_,_,_,hw=>hw.elim
 |.refuse _,_,_,_,_,hw=>hw.elim
theorem IQ{c:Code}{E:Fr}{h:aa}{Q:vD}(hd:eT nm c=true)(hw:J5 S nm c E h (PS S nm c Q)):wk S nm c E h Q:=by
 obtain⟨x,E1,h1,⟨n1,hr1⟩,hq⟩:=hZ c hd hw;have els:x≠ .normal->Q x E1 h1->wk S nm c E h Q:=by
  intro hx hq;refine⟨x,E1,h1,⟨n1+1,λn N j hn hN hj tm ht=>?_⟩,hq⟩;obtain⟨j',rfl⟩:∃j',j=j'+1:=⟨j-1,by omega⟩
  obtain⟨tm',ht',h3⟩:=hr1 n N (by omega) (by omega) tm ht;refine⟨tm',ht',?_⟩;simp only[iter];rw[h3]
  cases x with
  |normal=>grind
  |_=>rfl
 cases x with
 |normal=>
  obtain⟨x,E2,h2,⟨n2,hr2⟩,hq⟩:=hq;refine⟨x,E2,h2,⟨max n1 n2+1,λn N j hn hN hj tm ht=>?_⟩,hq⟩;obtain⟨j',rfl⟩:∃j',j=j'+1:=⟨j-1,by omega⟩
  obtain⟨tm',ht',h3⟩:=hr1 n N (by omega) (by omega) tm ht;obtain⟨tm2,ht2,h4⟩:=hr2 n N j' (by omega) (by omega) (by omega) tm' ht'
  grind[iter]
 |exit id=>exact els (by simp) hq
 |goto l=>exact els (by simp) hq
 |ret=>exact els (by simp) hq
 |panic _=>exact els (by simp) hq
 |outgrown=>exact els (by simp) hq
noncomputable def nG(S:Sx)(E:Fr)(h:aa):List ResultVar->Option (List Value)
 |[]=>some []
 |.tmp t::r=>(nG S E h r).map (E t::·)
 |.cell a t::r=>match ag S.P t h (E a)with
  |some v=>(nG S E h r).map (v::·)
  |none=>none
theorem zk{E:Fr}{h:aa}{tm:List Value}(ht:ER nm E tm):∀l,bF S.P tm h l=nG S E h l
 |[]=>rfl
 |.tmp t::r=>by simp only[bF,nG,zk ht r,ht.2 t]
 |.cell a t::r=>by
  simp only[bF,nG,zk ht r,ht.2 a];rfl
def rP(r:Option (List Value))(h:aa)(Q:VH):Prop:=match r with
 |some vs=>Q (aO vs) h
 |none=>False
def S7(S:Sx)(rs:List ResultVar)(Q:VH)(x:Exit)(E:Fr)(h:aa):Prop:=match x with
 |.normal=>rP (nG S E h rs) h Q
 |.ret=>rP (nG S E h rs) h Q
 |_=>False
def Nn(args:List Value):Fr:=λt=>args.getD t undef
theorem Qs{f:FuncId}{fn:Func}{c:Code}{args:List Value}{h:aa}{Q:VH}(hf:S.P.funcs[f]?=some fn)(hb:fn.body=some c)(hY:f<YB)(hp:S.pr f=none)(hl:args.length<=fn.ntmps)(hd:eT fn.ntmps c=true)
  (hw:J5 S fn.ntmps c (Nn args) h (S7 S fn.results.toList Q)):FW S f args h Q:=by
 obtain⟨x,E',h',⟨n0,hr⟩,hq⟩:=hZ c hd hw;have ht:ER fn.ntmps (Nn args) (args++List.replicate (fn.ntmps-args.length) undef):=by
  refine⟨by simp;omega,λt=>?_⟩;show _=args.getD t undef;simp only[gD];by_cases h1:t<args.length
  ·rw[List.getElem?_append_left h1]
  ·rw[List.getElem?_append_right (by omega),getElem?_eq_none (l:=args) (by omega),getElem?_replicate];split<;>rfl
 have hres:∃vs,nG S E' h' fn.results.toList=some vs/\Q (aO vs) h'/\(x = .normal\/x = .ret):=by
  have key:rP (nG S E' h' fn.results.toList) h' Q->∃vs,nG S E' h' fn.results.toList=some vs/\Q (aO vs) h':=by
   intro hq
   cases hv:nG S E' h' fn.results.toList with
   |none=>rw[hv]at hq;exact hq.elim
   |some vs=>rw[hv]at hq;exact⟨vs,rfl,hq⟩
  cases x with
  |normal=>obtain⟨vs,h1,h2⟩:=key hq;exact⟨vs,h1,h2,.inl rfl⟩
  |ret=>obtain⟨vs,h1,h2⟩:=key hq;exact⟨vs,h1,h2,.inr rfl⟩
  |_=>exact hq.elim
 obtain⟨vs,hv,hq,hx⟩:=hres;refine⟨aO vs,h',⟨n0+1,λn hn=>?_⟩,hq⟩;obtain⟨n',rfl⟩:∃n',n=n'+1:=⟨n-1,by omega⟩
 obtain⟨tm',ht',h3⟩:=hr n' n' (by omega) (by omega) _ ht;simp only[aQ];rw[if_neg (Nat.not_le.2 hY),hp]
 grind[zk]
end
end
section
section
variable (gl:Nat->Bool) (E:Fr)
theorem map_nil{α β:Type}(f:α->β):[].map f=([]:List β):=rfl
theorem map_cons{α β:Type}(f:α->β)(a:α)(l:List α):(a::l).map f=f a::l.map f:=rfl
end
section
variable (S:Sx) (E:Fr) (dst:Option Tmp) (ty:TypeId) (pos:String) (after:Array Edge) (guard:Option (Nat×Bool)) (h:aa) (K:VH)
theorem eE{o:Oper}(hc:aI o=false):wpOp S E o h K=zI (aP S.P eJ (cZ S.gl E) o h) h K:=by grind[wpOp,aI]
theorem Kd{P:Program}{ρ:Operand->Value}{o:Oper}(h1:∀h,aK P ρ o=none->aP P eJ ρ o h=none):zI (aP P eJ ρ o h) h K=nI (aK P ρ o) h K:=by
 cases hp:aK P ρ o with
 |none=>rw[h1 h hp];rfl
 |some v=>unfold aP;rw[hp];rfl
def iI:Op->Bool
 |.move _|.assign _|.pick ..|.build ..|.nilCheck _|.binOp ..|.unOp ..|.makeInterface ..|.makeFunc ..|.fieldAddr ..|.field ..|.indexAddr ..|.index ..|.typeAssert ..|.extract .. =>true
 |.call { callee:= .builtin .max,.. }|.call { callee:= .builtin .min,.. }|.call { callee:= .builtin .cap,.. }=>true
 |_=>false
theorem GH{P:Program}{ρ:Operand->Value}{op:Op}(hp:iI op=true)(h:aa)(h1:aK P ρ ⟨dst,op,ty,pos,after,guard⟩=none):aP P eJ ρ ⟨dst,op,ty,pos,after,guard⟩ h=none:=by
 unfold aP;rw[h1];unfold iI at hp;split at hp<;>first|rfl|grind
theorem DB{op:Op}(hp:iI op=true):aI ⟨dst,op,ty,pos,after,guard⟩=false:=by
 unfold iI at hp;split at hp<;>first|rfl|grind
theorem cJ{op:Op}(hp:iI op=true):wpOp S E ⟨dst,op,ty,pos,after,guard⟩ h K=nI (aK S.P (cZ S.gl E) ⟨dst,op,ty,pos,after,guard⟩) h K:=by grind[eE,DB,Kd,GH]
def MW(c x y:Value):Option Value:=match c with
 |.bool t=>some (if t then x else y)
 |_=>none
def ML(v:Value)(i:Nat):Option Value:=match v with
 |.tuple vs=>vs[i]?
 |_=>none
def bu(P:Program)(t:TypeId)(x i:Value):Option Value:=match P.underlying t,x,i with
  |some (.array len e),.agg cs,.int _ j=>match aw P e with
   |some n=>if 0<=j/\j<(len:Int)then partOf P e cs (j.toNat*n)else none
   |none=>none
  |some .string,.string s,.int _ j=>if 0<=j then match s.data.toList[j.toNat]? with|some b=>some (.int .u8 b.toNat)|none=>none else none
  |_,_,_=>none
def af(P:Program)(t:TypeId)(x i:Value):Option Value:=match P.underlying t,x,i with
  |some (.array len e),.pointer (some a),.int _ j=>match aw P e with
   |some n=>if 0<=j/\j<(len:Int)then some (.pointer (some (a.add (j.toNat*n))))else none
   |none=>none
  |some (.slice e),.slice (some a) len _,.int _ j=>match aw P e with
   |some n=>if 0<=j/\j<(len:Int)then some (.pointer (some (a.add (j.toNat*n))))else none
   |none=>none
  |_,_,_=>none
def ah(P:Program)(s:TypeId)(x:Value)(f:Nat):Option Value:=match P.underlying s,x with
  |some (.struct fields),.pointer (some a)=>match fields[f]? with
   |some fd=>if(aw P fd.type).any (· ≠0)then some (.pointer (some (a.add fd.offset)))else none
   |none=>none
  |_,_=>none
def Iq(P:Program)(t:TypeId)(x:Value)(f:Nat):Option Value:=match P.underlying t,x with
  |some (.struct fields),.agg cs=>match fields[f]? with
   |some fd=>partOf P fd.type cs fd.offset
   |none=>none
  |_,_=>none
noncomputable def A6(P:Program)(t:TypeId)(x:Value)(h:aa):Option Value:=match P.underlying t,x with
   |some .string,.string s=>some (.int .i64 s.data.toList.length)
   |some (.array n _),_=>some (.int .i64 n)
   |some (.slice _),.slice _ n _=>some (.int .i64 n)
   |some (.map ..),.map none=>some (.int .i64 0)
   |some (.map ..),.map (some r)=>match h.get r with
    |some (.map es)=>some (.int .i64 es.length)
    |_=>none
   |_,_=>none
theorem Hf(c a b:Operand):wpOp S E ⟨dst,.pick c a b,ty,pos,after,guard⟩ h K=nI (MW (cZ S.gl E c) (cZ S.gl E a) (cZ S.gl E b)) h K:=cJ S E dst ty pos after guard h K rfl
theorem Eb(op:BinOp)(t u:TypeId)(x y:Operand):wpOp S E ⟨dst,.binOp op t x y u,ty,pos,after,guard⟩ h K=nI (aq S.P op t (cZ S.gl E x) (cZ S.gl E y)) h K:=cJ S E dst ty pos after guard h K rfl
theorem Hg(op:UnOp)(t:TypeId)(x:Operand):wpOp S E ⟨dst,.unOp op t x,ty,pos,after,guard⟩ h K=nI (xM op (cZ S.gl E x)) h K:=cJ S E dst ty pos after guard h K rfl
theorem zx(x:Operand)(i:Nat):wpOp S E ⟨dst,.extract x i,ty,pos,after,guard⟩ h K=nI (ML (cZ S.gl E x) i) h K:=cJ S E dst ty pos after guard h K rfl
theorem Ed(t:TypeId)(x i:Operand):wpOp S E ⟨dst,.index t x i,ty,pos,after,guard⟩ h K=nI (bu S.P t (cZ S.gl E x) (cZ S.gl E i)) h K:=cJ S E dst ty pos after guard h K rfl
theorem vp(t:TypeId)(x i:Operand):wpOp S E ⟨dst,.indexAddr t x i,ty,pos,after,guard⟩ h K=nI (af S.P t (cZ S.gl E x) (cZ S.gl E i)) h K:=cJ S E dst ty pos after guard h K rfl
theorem vo(t:TypeId)(x:Operand)(f:Nat):wpOp S E ⟨dst,.fieldAddr t x f,ty,pos,after,guard⟩ h K=nI (ah S.P t (cZ S.gl E x) f) h K:=cJ S E dst ty pos after guard h K rfl
theorem Ec(t:TypeId)(x:Operand)(f:Nat):wpOp S E ⟨dst,.field t x f,ty,pos,after,guard⟩ h K=nI (Iq S.P t (cZ S.gl E x) f) h K:=cJ S E dst ty pos after guard h K rfl
theorem Kb(args:Array Operand)(ts:Array TypeId):wpOp S E ⟨dst,.call ⟨.builtin .max,args,ts⟩,ty,pos,after,guard⟩ h K=nI (mc true (args.toList.map (cZ S.gl E))) h K:=cJ S E dst ty pos after guard h K rfl
theorem Kc(args:Array Operand)(ts:Array TypeId):wpOp S E ⟨dst,.call ⟨.builtin .min,args,ts⟩,ty,pos,after,guard⟩ h K=nI (mc false (args.toList.map (cZ S.gl E))) h K:=cJ S E dst ty pos after guard h K rfl
theorem kn(o:Oper)(h1:aI o=false)(h2:aK S.P (cZ S.gl E) o=none)(h3:aJ S.P (cZ S.gl E) o=none)(h4:cB S.P eJ (cZ S.gl E) o h=none):wpOp S E o h K=nI (aT S.P (cZ S.gl E) o h) h K:=by
 rw[eE S E h K h1];unfold aP;rw[h2];dsimp only
 cases aT S.P (cZ S.gl E) o h with
 |some v=>rfl
 |none=>dsimp only;rw[h3];dsimp only;rw[h4];rfl
theorem Hd(t:TypeId)(a:Operand):wpOp S E ⟨dst,.load t a,ty,pos,after,guard⟩ h K=nI (ag S.P t h (cZ S.gl E a)) h K:=kn S E h K _ rfl rfl rfl rfl
theorem Ee(t:TypeId)(x:Operand)(lo hi mx:Option Operand):wpOp S E ⟨dst,.slice t x lo hi mx,ty,pos,after,guard⟩ h K=nI (cA S.P t (cZ S.gl E x) (lo.map (cZ S.gl E)) (hi.map (cZ S.gl E)) (mx.map (cZ S.gl E)) h) h K:=kn S E h K _ rfl rfl rfl rfl
theorem Ka(x:Operand)(t:TypeId):wpOp S E ⟨dst,.call ⟨.builtin .len,#[x],#[t]⟩,ty,pos,after,guard⟩ h K=nI (A6 S.P t (cZ S.gl E x) h) h K:=kn S E h K _ rfl rfl rfl rfl
theorem vn(o:Oper)(h1:aI o=false)(h2:aK S.P (cZ S.gl E) o=none)(h3:aT S.P (cZ S.gl E) o h=none)(h4:aJ S.P (cZ S.gl E) o=none):wpOp S E o h K=zI (cB S.P eJ (cZ S.gl E) o h) h K:=by grind[eE,aP]
theorem Cf(s x:Operand)(t t':TypeId):wpOp S E ⟨dst,.call ⟨.builtin .append,#[s,x],#[t,t']⟩,ty,pos,after,guard⟩ h K=zI (aY S.P t t' (cZ S.gl E s) (cZ S.gl E x) h) h K:=rfl
theorem Eg(t:TypeId)(a x:Operand):wpOp S E ⟨dst,.store t a x,ty,pos,after,guard⟩ h K=zI (an S.P t (cZ S.gl E a) (cZ S.gl E x) h) h K:=rfl
def R7(r:Option (bt×(Nat->Value)))(h:aa)(K:VH):Prop:=match r with
 |some (B,f)=>K (f h.next) (h.push B)
 |none=>False
theorem iE(o:Oper)(h1:aI o=false)(h2:aK S.P (cZ S.gl E) o=none)(h3:aT S.P (cZ S.gl E) o h=none)(h4:cB S.P eJ (cZ S.gl E) o h=none):wpOp S E o h K=R7 (aJ S.P (cZ S.gl E) o) h K:=by
 rw[eE S E h K h1];unfold aP;rw[h2];dsimp only;rw[h3];dsimp only
 cases aJ S.P (cZ S.gl E) o with
 |some r=>rfl
 |none=>dsimp only;rw[h4];rfl
end
section
variable (P:Program) (t:TypeId) (k:IntKind) (a b:Int)
theorem Es(hb:b≠0):aq P .quo t (.int k a) (.int k b)=some (.int k (k.wrap (a.tdiv b))):=by grind[aq]
theorem KE(hb:b≠0):aq P .rem t (.int k a) (.int k b)=some (.int k (a.tmod b)):=by grind[aq]
variable (x y:ByteArray)
end
end
structure dj where
 i:Int
 o:Int
 w:List UInt8
 t:Int
structure iM where
 f:List UInt8
 bD:List dj
structure cb where
 kind:Int
 start:Int
 lead:List UInt8
 aA:List iM
def gf(a:dj):List Value:=[.int .i64 a.i,.int .i64 a.o,strOf a.w,.int .i64 a.t]
end Go.Ab
end
section
namespace Go.Ab
open Go Go.RowKit
section
variable {β:cp} {P:Program} {gl:Nat->Bool}
theorem I9{cf:br}{tm:List Value}{a:Act}{h:aa}{w:World}{o:Oper}{v:Value}{u:cL}(hs:fK β h w)(hg:Gl gl β)(ht:aG β tm a.tmps.toList)(hc:aI o=false)(hr:aP P cf (ev gl tm) o h=some (v,u)):
  ∃v' w' β',Step β h w β' (u.app h) w'/\au β' v v'/\((execOp a.eval o).run P w = .ok (.value v') w'\/((execOp a.eval o).run P w = .ok .skip w'/\v'=undef)):=by
 have hρ:=qF (β:=β) hg ht;unfold aP at hr;split at hr
 ·next v0 hp=>
  simp only[Option.some.injEq,Prod.mk.injEq]at hr;obtain⟨rfl,rfl⟩:=hr;obtain⟨v',h1,h2⟩:=lf hρ hp w;exact⟨v',w,β,Step.refl hs,h2,.inl h1⟩
 ·split at hr
  ·next v0 hp=>
   simp only[Option.some.injEq,Prod.mk.injEq]at hr;obtain⟨rfl,rfl⟩:=hr;obtain⟨v',h1,h2⟩:=lg hρ hs hp;exact⟨v',w,β,Step.refl hs,h2,.inl h1⟩
  ·split at hr
   ·next B f hp=>
    simp only[Option.some.injEq,Prod.mk.injEq]at hr;obtain⟨rfl,rfl⟩:=hr;obtain⟨v',w',h1,h2⟩:=jT hρ (w:=w) hp;obtain⟨β',h3,h4⟩:=h2.step hs;exact⟨v',w',β',h3,h4,.inl h1⟩
   ·obtain⟨v',w',β',h1,h2,h3⟩:=qN hρ hc hs hr;rcases h1 with h1|⟨h1,rfl⟩
    all_goals grind
theorem LS{cf:br}{ops:Array Oper}{cs:List Frame}(Q:Exit->Act->List Frame->World->Prop):∀(rest:List Oper)(i:Nat){β:cp}{tm tm':List Value}{a:Act}{h h':aa}{w:World},
  ops.toList.drop i=rest->(rest.all λo=> !aI o)=true->eA P gl cf ops rest tm h=some (tm',h')->fK β h w->Gl gl β->aG β tm a.tmps.toList->
  (∀a' w' β',Step β h w β' h' w'->aG β' tm' a'.tmps.toList->a'.defers=a.defers->Q .normal a' cs w')->wpOpsS P ops Q (List.range' i rest.length) a cs w
 |[],i,β,tm,tm',a,h,h',w,hd,_,hr,hs,hg,ht,hk=>by
  simp only[eA,Option.some.injEq,Prod.mk.injEq]at hr;obtain⟨rfl,rfl⟩:=hr;exact hk a w β (Step.refl hs) ht rfl
 | o::rest,i,β,tm,tm',a,h,h',w,hd,hall,hr,hs,hg,ht,hk=>by
  have ho:ops[i]?=some o:=by
   have:(ops.toList.drop i)[0]?=some o:=by rw[hd];rfl
   rw[List.getElem?_drop]at this;rw[<-getElem?_toList];simpa using this
  have hd':ops.toList.drop (i+1)=rest:=by rw[<-drop_drop,hd];rfl
  simp only[all_cons,and_eq_true,not_eq_true']at hall;simp only[length_cons,range'_succ,wpOpsS,ho];simp only[eA]at hr;split at hr
  ·next hw=>
   rw[hP ht hw];simp only[if_true];split at hr
   ·next v u hop=>
    obtain⟨v',w',β',hst,hv,hrun⟩:=I9 hs hg ht hall.1 hop;have hgo:=LS (cs:=cs) Q rest (i+1) hd' (by simpa using hall.2) hr hst.jG (hg.mono hst.le) (gF (ht.mono hst.le) o.dst hv) λa' w2 β2 h1 h2 h3=>hk a' w2 β2 (hst.trans h1) h2 (h3.trans (put_defers a o.dst v'));rcases hrun with hrun|⟨hrun,rfl⟩
    ·rw[hrun];exact hgo
    ·rw[hrun];exact hgo
   ·cases hr
  ·next hw=>
   rw[hP ht hw];simp only[false_eq_true,if_false];exact LS (cs:=cs) Q rest (i+1) hd' (by simpa using hall.2) hr hs hg (gF ht o.dst (.undef β)) λa' w2 β2 h1 h2 h3=>hk a' w2 β2 h1 h2 (h3.trans (put_defers a o.dst undef))
  grind
noncomputable def EJ(P:Program)(fn:Func)(ops0 ops1:Array Oper)(c:Operand)(n:Nat):Bool:=
 match ops0.toList with
 | o::rest=>match o.dst with
  | some d=>match eA P ju eJ ops0 rest ((List.replicate n eu++List.replicate (fn.ntmps-n) undef).set d .nilIface) ⟨0,.nil⟩with
   | some (tm1,h1)=>match eA P ju eJ ops1 ops1.toList tm1 h1 with
    |some (tm2,_)=>match ev ju tm2 c with
     |.bool false=>(rest.all λo=> !aI o)&&(ops1.toList.all λo=> !aI o)&&o.guard.isNone&&fn.results.size==0
     |_=>false
    |none=>false
   |none=>false
  |none=>false
 |[]=>false
theorem Le{fC:FuncId}{fn:Func}{i0 i1 n:Nat}{o0:Oper}{rest0:List Oper}{ops1:Array Oper}{c:Operand}{X:Code}(hf:P.funcs[fC]?=some fn)(hb:fn.body=some (.seq (.region i0 (o0::rest0).toArray false) (.seq (.region i1 ops1 false) (.cond c X .skip))))
  (ho:o0.op = .call { callee:= .builtin .recover,args:= #[],argTypes:= #[] }) (hrun:EJ P fn (o0::rest0).toArray ops1 c n=true) (args:Array Value) (w:World) (hn:args.size=n):
  CallsDIn Fence.wide 0 P fC args .returning w λe u' w'=>(∃v,e = .returned v)/\u' = .returning/\Below w.heap.size w w'/\w.drawn<=w'.drawn:=by
 subst hn;unfold EJ at hrun;simp only at hrun;split at hrun
 ·next d hd=>
  split at hrun
  ·next tm1 h1 hr1=>
   split at hrun
   ·next tm2 h2 hr2=>
    split at hrun
    ·next hev=>
     simp only[and_eq_true,beq_iff_eq,Option.isNone_iff_eq_none]at hrun;obtain⟨⟨⟨hall0,hall1⟩,hgd⟩,hres⟩:=hrun;refine pq hf hb λc₀ cs hu=>?_;refine wpS_seq (wpS_region ?_);have hjunk:∀(l:List Value),aG β0 (List.replicate l.length eu) l:=λl=>⟨by simp,λi v v' h1 h2=>by
      rw[getElem?_replicate]at h1;split at h1
      ·obtain rfl:=oI h1;exact .eu v'
      ·cases h1⟩
     have hrep:∀k,aG β0 (List.replicate k undef) (List.replicate k undef):=λk=>⟨rfl,λi v v' h1 h2=>by
      rw[getElem?_replicate]at h1 h2;split at h1
      ·next hi=>rw[if_pos hi]at h2;obtain rfl:=oI h1;obtain rfl:=oI h2;exact .undef _
      ·cases h1⟩
     have ht0:aG β0 (List.replicate args.size eu++List.replicate (fn.ntmps-args.size) undef) (args++Array.replicate (fn.ntmps-args.size) undef).toList:=by
      simp only[toList_append,Array.toList_replicate];have:=hjunk args.toList;rw[length_toList]at this;exact this.append (hrep _)
     have hw0:∀t,Region.wanted o0 (yielded (o0::rest0).toArray t)=true:=λt=>by simp[Region.wanted,hgd]
     have hrec:∀(ρ:Operand->Value),(execOp ρ o0).run P w = .ok .recover w:=λρ=>by
      unfold execOp;simp only[ho,resolve,run_bind,Sem.run_pure,andThen_ok,invoke];rfl
     have hnone:recoverD (c₀::cs)=none:=by simp[recoverD,hu]
     show wpOpsS P (o0::rest0).toArray _ (List.range (rest0.length+1)) _ _ w;rw[List.range_eq_range',range'_succ];rw[wpOpsS];simp only[List.getElem?_toArray,List.getElem?_cons_zero,hw0,if_true,hrec,hnone];rw[hd];refine LS (cf:=eJ) (gl:=ju) _ rest0 1 (by simp) hall0 hr1 (zp 0 w) yH (gF ht0 (some d) (v:= .nilIface) .nilIface) λa1 w1 β1 hst1 ht1 hd1=>?_;refine wpS_seq (wpS_region ?_);rw[<-length_toList,List.range_eq_range'];refine LS (cf:=eJ) (gl:=ju) _ ops1.toList 0 (by simp) hall1 hr2 hst1.jG (yH.mono hst1.le) ht1 λa2 w2 β2 hst2 ht2 hd2=>?_;refine wpS_cond (t:=false) ?_ ?_
     ·have:=qF (yH.mono (hst1.trans hst2).le) ht2 c;rw[hev]at this;exact this.fM
     ·show Code.wpS P .skip _ a2 (c₀::cs) w2;refine wpS_of_wp (wp_skip ?_);refine⟨hd2.trans (hd1.trans (put_defers _ _ _)),.returning,by cases c₀;simp_all,.tuple #[],?_,⟨⟨_,rfl⟩,rfl,nN (hst1.trans hst2),(hst1.trans hst2).tape.2⟩⟩;have:fn.results = #[]:=Array.eq_empty_of_size_eq_zero hres;simp[results,this]
    ·cases hrun
   ·cases hrun
  ·cases hrun
 grind
end
end Go.Ab
end
