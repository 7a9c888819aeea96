/- Laws and walks that the proof leans on (part 2): AbDraw; AbDraw2; AbDraw3; AbAny; AbDraw4; AbFastOk and others. No condition. -/
import Derived.Test.YtoabjjimjldcfaaGreatDoorPart1
import Derived.Laws.Externs
import Derived.Below
import Derived.Recover
import Derived.ControlIn
import Derived.Attr
import Derived.Test.YtoabjjimjldcfaaGreatDoorProg
import Derived.Laws.Bits64
open List (all_cons all_eq_true append_assoc append_nil drop_drop foldl_cons getElem?_cons_zero getElem?_drop getElem?_eq_none getElem?_replicate length_append length_cons length_drop length_nil length_take mem_append mem_append_left mem_cons mem_cons_of_mem mem_cons_self mem_filter mem_range mem_singleton nodup_append range'_succ)
open Nat (blt_eq le_add_right le_refl le_succ le_trans lt_of_lt_of_le lt_or_ge mul_one zero_add)
open Option (map_eq_some_iff)
open Array (getElem?_eq_getElem getElem?_toList length_toList)
open Bool (and_eq_true false_eq_true not_eq_true' or_eq_true)
open Go.IntKind (wrap)
section
namespace Go.Ab
open Go
section
variable {P:Program} {gl:Nat->Bool}
theorem nL {e:Value->Value->Bool}(he: ∀ a b,e a b=true->a=b): ∀ {x y:List Value},CW e x y=true->x=y
 | [],[],_=>rfl
 | [],_::_,h=>by simp [CW] at h
 | _::_,[],h=>by simp [CW] at h
 | a::x,b::y,h=>by
  simp only [CW,and_eq_true] at h;rw [he a b h.1,nL he h.2]
theorem jf: ∀ (d:Nat)(a b:Value),dY d a b=true->a=b
 | 0,_,_,h=>by simp [dY] at h
 | d+1,a,b,h=>by
  have ih:=jf d;have hl: ∀ {x y:Array Value},CW (dY d) x.toList y.toList=true->x=y:=fun hxy=>Array.ext' (nL ih hxy);unfold dY at h;split at h
  ·simpa using h
  ·simp only [and_eq_true,decide_eq_true_eq] at h; rw [h.1,h.2]
  ·next x y=>
   simp only [decide_eq_true_eq] at h;have:x=y:=by
    obtain ⟨x⟩:=x; obtain ⟨y⟩:=y;congr 1;exact Array.ext' h
   rw [this]
  ·rfl
  ·simp only [and_eq_true,decide_eq_true_eq] at h; rw [h.1,h.2]
  ·simp only [and_eq_true,decide_eq_true_eq] at h; rw [h.1,h.2]
  ·simp only [and_eq_true,decide_eq_true_eq] at h; rw [h.1.1.1,h.1.1.2,h.1.2,h.2]
  ·rfl
  ·simp only [decide_eq_true_eq] at h; rw [h]
  ·rfl
  ·rfl
  ·simp only [and_eq_true,decide_eq_true_eq] at h; rw [h.1.1,hl h.1.2,hl h.2]
  ·simp only [and_eq_true,decide_eq_true_eq] at h; rw [h.1,ih _ _ h.2]
  ·rw [hl h]
  ·rw [hl h]
  ·cases h
structure Ordd (ops:Array Oper)(bf:Nat->Nat->Bool):Prop where
 lt: ∀ j i,bf j i=true->i < j
 trans: ∀ k j i,bf k j=true->bf j i=true->bf k i=true
 topo: ∀ L,Topo ops L-> ∀ pre j suf,L=pre++j::suf-> ∀ i,bf j i=true->i∈pre
 names: ∀ (j:Nat)(o:Oper)(t:Tmp),ops[j]?=some o->Operand.tmp t∈o.op.operands-> ∀ (i:Nat)(o':Oper),ops[i]?=some o'->o'.dst=some t->i=j\/bf j i=true\/bf i j=true
 guards: ∀ (j:Nat)(o:Oper)(i:Nat)(b:Bool),ops[j]?=some o->o.guard=some (i,b)->bf j i=true
 uniq: ∀ (i j:Nat)(o o':Oper)(t:Tmp),ops[i]?=some o->ops[j]?=some o'->o.dst=some t->o'.dst=some t->i=j
abbrev Eg:=List Value×Heap×List (Nat×Blk)
def One (P:Program)(gl:Nat->Bool)(cf:bT)(ops:Array Oper)(bf:Nat->Nat->Bool)(base j:Nat)(o:Oper)(s:Eg)(e:Ent)(s':Eg):Prop:=
 match e with
 | .skip=>eI ops s.1 o=some false/\s'=(e9 s.1 o.dst undef,s.2.1,s.2.2)
 | .pure v=>eI ops s.1 o=some true/\bn P (ev gl s.1) o=some v/\s'=(e9 s.1 o.dst v,s.2.1,s.2.2)
 | .read v=>eI ops s.1 o=some true/\aV P (ev gl s.1) o s.2.1=some v/\s'=(e9 s.1 o.dst v,s.2.1,s.2.2)
 | .alloc B v=>eI ops s.1 o=some true/\(∃ f,aT P (ev gl s.1) o=some (B,f)/\v=f (base+j))/\s'=(e9 s.1 o.dst v,s.2.1,(j,B)::s.2.2)
 | .eff v h'=>eI ops s.1 o=some true/\(∃ u,dj P cf (ev gl s.1) o (aB s.2.1 base (s.2.2.filter fun p=>bf j p.1))=some (v,u)/\h'=u.app (aB s.2.1 base (s.2.2.filter fun p=>bf j p.1)))/\
   s'=(e9 s.1 o.dst v,h',s.2.2.filter fun p=> !bf j p.1)
theorem mK {cf:bT}{ops:Array Oper}{bf:Nat->Nat->Bool}{base:Nat}: ∀ (rest:List Oper)(j:Nat)(s:Eg)(recs:List (List Value×Ent))(out:Eg),
  cK P gl cf ops bf base rest j s.1 s.2.1 s.2.2=some (recs,out)-> ∃ (st:Nat->Eg)(en:Nat->Ent),st j=s/\st (j+rest.length)=out/\recs.length=rest.length/\
   ∀ i o,rest[i]?=some o->One P gl cf ops bf base (j+i) o (st (j+i)) (en (j+i)) (st (j+i+1))/\recs[i]?=some ((st (j+i)).1,en (j+i))
 | [],j,s,recs,out,h=>by
  simp only [cK,Option.some.injEq,Prod.mk.injEq] at h;obtain ⟨rfl,rfl⟩:=h;exact ⟨fun _=>s,fun _=> .skip,rfl,rfl,rfl,fun i o ho=>by simp at ho⟩
 | o::rest,j,s,recs,out,h=>by
  have key: ∀ (e:Ent)(s':Eg)(r:List (List Value×Ent)×Eg),One P gl cf ops bf base j o s e s'->cK P gl cf ops bf base rest (j+1) s'.1 s'.2.1 s'.2.2=some r->((s.1,e)::r.1,r.2)=(recs,out)->
    ∃ (st:Nat->Eg)(en:Nat->Ent),st j=s/\st (j+(o::rest).length)=out/\recs.length=(o::rest).length/\
     ∀ i o',(o::rest)[i]?=some o'->One P gl cf ops bf base (j+i) o' (st (j+i)) (en (j+i)) (st (j+i+1))/\recs[i]?=some ((st (j+i)).1,en (j+i)):=by
   intro e s' r hone hr heq;obtain ⟨st,en,h1,h2,h3,h4⟩:=mK rest (j+1) s' r.1 r.2 hr;simp only [Prod.mk.injEq] at heq;obtain ⟨rfl,rfl⟩:=heq;refine ⟨fun i=>if i=j then s else st i,fun i=>if i=j then e else en i,by simp,?_,by simp [h3],?_⟩
   ·have hne: ¬ j+(o::rest).length=j:=by simp only [length_cons]; omega
    simp only [if_neg hne];rw [<-h2]; congr 1; simp only [length_cons]; omega
   ·intro i o' ho
    cases i with
    | zero=>
     simp only [getElem?_cons_zero,Option.some.injEq] at ho;subst ho;simp only [Nat.add_zero,if_true,getElem?_cons_zero,and_true];rw [if_neg (by omega),h1];exact hone
    | succ i=>
     simp only [List.getElem?_cons_succ] at ho ⊢;obtain ⟨h5,h6⟩:=h4 i o' ho;simp only [if_neg (show ¬ j+(i+1)=j by omega),if_neg (show ¬ j+(i+1)+1=j by omega)];rw [show j+(i+1)=j+1+i by omega];exact ⟨h5,h6⟩
  simp only [cK] at h;split at h
  ·cases h
  ·next hw=>
   obtain ⟨r,hr,he⟩:=map_eq_some_iff.1 h;exact key .skip (e9 s.1 o.dst undef,s.2.1,s.2.2) r ⟨hw,rfl⟩ hr he
  ·next hw=>
   split at h
   ·next v hv=>
    obtain ⟨r,hr,he⟩:=map_eq_some_iff.1 h;exact key (.pure v) (e9 s.1 o.dst v,s.2.1,s.2.2) r ⟨hw,hv,rfl⟩ hr he
   ·split at h
    ·next v hv=>
     obtain ⟨r,hr,he⟩:=map_eq_some_iff.1 h;exact key (.read v) (e9 s.1 o.dst v,s.2.1,s.2.2) r ⟨hw,hv,rfl⟩ hr he
    ·split at h
     ·next B f hv=>
      obtain ⟨r,hr,he⟩:=map_eq_some_iff.1 h;exact key (.alloc B (f (base+j))) (e9 s.1 o.dst (f (base+j)),s.2.1,(j,B)::s.2.2) r ⟨hw,⟨f,hv,rfl⟩,rfl⟩ hr he
     ·split at h
      ·next v u hv=>
       obtain ⟨r,hr,he⟩:=map_eq_some_iff.1 h;exact key (.eff v _) (e9 s.1 o.dst v,_,_) r ⟨hw,⟨u,hv,rfl⟩,rfl⟩ hr he
      ·cases h
def Ent.isEff:Ent->Bool
 | .eff .. =>true
 | _=>false
structure Run (P:Program)(gl:Nat->Bool)(cf:bT)(ops:Array Oper)(bf:Nat->Nat->Bool)(base:Nat)(st:Nat->Eg)(en:Nat->Ent):Prop where
 one: ∀ i o,ops[i]?=some o->One P gl cf ops bf base i o (st i) (en i) (st (i+1))
 chain: ∀ e₁ e₂,e₁ < e₂->e₂ < ops.size->(en e₁).isEff=true->(en e₂).isEff=true->bf e₂ e₁=true
 reads: ∀ j o v,ops[j]?=some o->en j = .read v-> ∀ c,c<=ops.size->(∀ e,e < c->(en e).isEff=true->bf e j=false)->(∀ e,c<=e->e < ops.size->(en e).isEff=true->bf j e=false)->
  aV P (ev gl (st j).1) o (st c).2.1=some v
section
variable {cf:bT} {ops:Array Oper} {bf:Nat->Nat->Bool} {base:Nat} {st:Nat->Eg} {en:Nat->Ent}
theorem One.heap {j:Nat}{o:Oper}{s s':Eg}{e:Ent}(h:One P gl cf ops bf base j o s e s'):(∀ v h',e = .eff v h'->s'.2.1=h')/\(e.isEff=false->s'.2.1=s.2.1):=by
 cases e <;> simp only [One] at h
 ·exact ⟨(fun v h' he=>by cases he),fun _=>by rw [h.2]⟩
 ·exact ⟨(fun v h' he=>by cases he),fun _=>by rw [h.2.2]⟩
 ·exact ⟨(fun v h' he=>by cases he),fun _=>by rw [h.2.2]⟩
 ·exact ⟨(fun v h' he=>by cases he),fun _=>by rw [h.2.2]⟩
 ·exact ⟨(fun v h' he=>by cases he; rw [h.2.2]),fun he=>by simp [Ent.isEff] at he⟩
theorem One.tm {j:Nat}{o:Oper}{s s':Eg}{e:Ent}(h:One P gl cf ops bf base j o s e s'):s'.1=e9 s.1 o.dst e.val:=by
 cases e <;> simp only [One] at h
 ·rw [h.2]; rfl
 ·rw [h.2.2]; rfl
 ·rw [h.2.2]; rfl
 ·rw [h.2.2]; rfl
 ·rw [h.2.2]; rfl
theorem ml (trans: ∀ k j i,bf k j=true->bf j i=true->bf k i=true): ∀ (recs:List (List Value×Ent))(i x:Nat)(hx:Heap),fp bf ((x,hx)::dU recs i)=true->
  ∀ k r,recs[k]?=some r->r.2.isEff=true->bf (i+k) x=true
 | [],i,x,hx,h,k,r,hr,he=>by simp at hr
 | (tm,e)::recs,i,x,hx,h,k,r,hr,he=>by
  cases e with
  | eff v h'=>
   simp only [dU,fp,and_eq_true] at h
   cases k with
   | zero=>exact h.1
   | succ k=>
    have:=ml trans recs (i+1) i h' h.2 k r (by simpa using hr) he;rw [show i+(k+1)=i+1+k by omega];exact trans _ _ _ this h.1
  | _=>
   simp only [dU] at h
   cases k with
   | zero=>
    simp only [getElem?_cons_zero,Option.some.injEq] at hr;subst hr;simp [Ent.isEff] at he
   | succ k=>
    have:=ml trans recs (i+1) x hx h k r (by simpa using hr) he;rw [show i+(k+1)=i+1+k by omega];exact this
theorem zs {x:Nat×Heap}{l:List (Nat×Heap)}(h:fp bf (x::l)=true):fp bf l=true:=by
 cases l with
 | nil=>rfl
 | cons y l=>simp only [fp,and_eq_true] at h; exact h.2
theorem pq (trans: ∀ k j i,bf k j=true->bf j i=true->bf k i=true): ∀ (recs:List (List Value×Ent))(i:Nat),fp bf (dU recs i)=true->
  ∀ k₁ k₂ r₁ r₂,k₁ < k₂->recs[k₁]?=some r₁->recs[k₂]?=some r₂->r₁.2.isEff=true->r₂.2.isEff=true->bf (i+k₂) (i+k₁)=true
 | [],i,h,k₁,k₂,r₁,r₂,hlt,h1,h2,e1,e2=>by simp at h1
 | (tm,e)::recs,i,h,k₁,k₂,r₁,r₂,hlt,h1,h2,e1,e2=>by
  cases k₂ with
  | zero=>omega
  | succ k₂=>
   have h2':recs[k₂]?=some r₂:=by simpa using h2
   cases k₁ with
   | zero=>
    simp only [getElem?_cons_zero,Option.some.injEq] at h1;subst h1
    cases e with
    | eff v h'=>
     simp only [dU] at h;have:=ml trans recs (i+1) i h' h k₂ r₂ h2' e2;rw [show i+(k₂+1)=i+1+k₂ by omega];exact this
    | _=>simp [Ent.isEff] at e1
   | succ k₁=>
    have ht:fp bf (dU recs (i+1))=true:=by
     cases e with
     | eff v h'=>simp only [dU] at h; exact zs h
     | _=>simpa only [dU] using h
    have:=pq trans recs (i+1) ht k₁ k₂ r₁ r₂ (by omega) (by simpa using h1) h2' e1 e2;rw [show i+(k₂+1)=i+1+k₂ by omega,show i+(k₁+1)=i+1+k₁ by omega];exact this
theorem mV {o:Oper}{tm:List Value}{v:Value}{h:Heap}(hs:kJ P gl o tm v h=true):aV P (ev gl tm) o h=some v:=by
 unfold kJ at hs;split at hs
 ·next v' hv'=>rw [jf _ _ _ hs]; exact hv'
 ·cases hs
theorem iV {j:Nat}{o:Oper}{tm:List Value}{v:Value}{N:Nat}(hj:j < N)(hown: ∀ c,c<=N->(∀ e,j<=e->e < c->(en e).isEff=false)->(∀ e,c<=e->e < j->(en e).isEff=false)->aV P (ev gl tm) o (st c).2.1=some v):
  ∀ (recs:List (List Value×Ent))(i:Nat)(own:Bool),(∀ k r,recs[k]?=some r->r.2=en (i+k))->i+recs.length=N->
  (∀ k,i<=k->k < i+recs.length->(∀ v h',en k = .eff v h'->(st (k+1)).2.1=h')/\((en k).isEff=false->(st (k+1)).2.1=(st k).2.1))->
  (own=true-> ∀ e,j<=e->e < i->(en e).isEff=false)->
  kI P gl bf j o tm v (st i).2.1 (dU recs i) own=true-> ∀ c,i<=c->c<=i+recs.length->(∀ e,i<=e->e < c->(en e).isEff=true->bf e j=false)->
  (∀ e,c<=e->e < i+recs.length->(en e).isEff=true->bf j e=false)->aV P (ev gl tm) o (st c).2.1=some v
 | [],i,own,hen,hN,hst,hp,h,c,h1,h2,h3,h4=>by
  simp only [dU,kI,or_eq_true] at h;simp only [length_nil] at h2 hN;obtain rfl:c=i:=by omega
  rcases h with h | h
  ·exact hown c (by omega) (hp h) (fun e he1 he2=>by omega)
  ·exact mV h
 | (tm',e)::recs,i,own,hen,hN,hst,hp,h,c,h1,h2,h3,h4=>by
  simp only [length_cons] at h2 h4 hst hN;have he:e=en i:=hen 0 (tm',e) rfl;have hen': ∀ k r,recs[k]?=some r->r.2=en (i+1+k):=fun k r hr=>by
   rw [show i+1+k=i+(k+1) by omega]; exact hen (k+1) r (by simpa using hr)
  have hst': ∀ k,i+1<=k->k < i+1+recs.length->_:=fun k hk1 hk2=>hst k (by omega) (by omega)
  cases hef:e.isEff with
  | true=>
   cases e with
   | eff u h'=>
    simp only [dU,kI,and_eq_true,or_eq_true] at h;have hi:=(hst i (by omega) (by omega)).1 u h' he.symm;by_cases hc:c=i
    ·subst hc;rcases h.1 with (h5 | h5) | h5
     ·have hlt:j < c:=by simpa [blt_eq] using h5.2
      exact hown c (by omega) (hp h5.1) (fun e he1 he2=>by omega)
     ·rw [h4 c (by omega) (by omega) (by rw [<-he]; rfl)] at h5; cases h5
     ·exact mV h5
    ·rcases h.2 with h5 | h5
     ·rw [h3 i (by omega) (by omega) (by rw [<-he]; rfl)] at h5; cases h5
     ·rw [<-hi] at h5;refine iV hj hown recs (i+1) _ hen' (by omega) hst' ?_ h5 c (by omega) (by omega) (fun e he1 he2=>h3 e (by omega) he2) (fun e he1 he2=>h4 e he1 (by omega));intro hlt e he1 he2;have hlt:i < j:=by simpa [blt_eq] using hlt
      omega
   | _=>simp [Ent.isEff] at hef
  | false=>
   have hi:=(hst i (by omega) (by omega)).2 (by rw [<-he]; exact hef);have h5:kI P gl bf j o tm v (st (i+1)).2.1 (dU recs (i+1)) own=true:=by
    rw [hi]
    cases e with
    | eff u h'=>simp [Ent.isEff] at hef
    | _=>simpa only [dU] using h
   have hp':own=true-> ∀ e,j<=e->e < i+1->(en e).isEff=false:=fun ho e' he1 he2=>by
    rcases lt_or_ge e' i with h6 | h6
    ·exact hp ho e' he1 h6
    ·obtain rfl:e'=i:=by omega
     rw [<-he]; exact hef
   by_cases hc:c=i
   ·subst hc;rw [<-hi];exact iV hj hown recs (c+1) own hen' (by omega) hst' hp' h5 (c+1) (by omega) (by omega) (fun e he1 he2=>by omega) (fun e he1 he2=>h4 e (by omega) (by omega))
   ·exact iV hj hown recs (i+1) own hen' (by omega) hst' hp' h5 c (by omega) (by omega) (fun e he1 he2=>h3 e (by omega) he2) (fun e he1 he2=>h4 e he1 (by omega))
theorem pv {hp:Heap}{es:List (Nat×Heap)}: ∀ (os:List Oper)(recs:List (List Value×Ent))(j:Nat),jb P gl bf hp es os recs j=true->
  ∀ (i:Nat)(o:Oper)(tm:List Value)(v:Value),os[i]?=some o->recs[i]?=some (tm,.read v)->kI P gl bf (j+i) o tm v hp es true=true
 | [],_,_,_,i,o,tm,v,ho,_=>by simp at ho
 | _::_,[],_,_,i,o,tm,v,_,hr=>by simp at hr
 | o'::os,(tm',e)::recs,j,h,i,o,tm,v,ho,hr=>by
  have ht:jb P gl bf hp es os recs (j+1)=true:=by
   cases e <;> simp only [jb,and_eq_true] at h <;> first | exact h | exact h.2
  cases i with
  | zero=>
   simp only [getElem?_cons_zero,Option.some.injEq,Prod.mk.injEq] at ho hr;obtain ⟨rfl,rfl⟩:=hr;subst ho;simp only [jb,and_eq_true] at h;exact h.1
  | succ i=>
   have:=pv os recs (j+1) ht i o tm v (by simpa using ho) (by simpa using hr);rw [show j+(i+1)=j+1+i by omega];exact this
theorem AW (hO:Ordd ops bf){tm tm':List Value}{h h':Heap}(hr:un P gl cf ops bf tm h=some (tm',h')):
  ∃ st en,Run P gl cf ops bf h.next st en/\st 0=(tm,{ h with next:=h.next+ops.size },[])/\(st ops.size).1=tm'/\h'=aB (st ops.size).2.1 h.next (st ops.size).2.2:=by
 unfold un at hr;split at hr
 ·next recs tm2 h2 pd hd=>
  split at hr
  ·next hck=>
   simp only [and_eq_true] at hck;simp only [Option.some.injEq,Prod.mk.injEq] at hr;obtain ⟨rfl,rfl⟩:=hr;obtain ⟨st,en,h1,h2',h3,h4⟩:=mK (P:=P) (gl:=gl) (cf:=cf) ops.toList 0 (tm,{ h with next:=h.next+ops.size },[]) recs (tm2,h2,pd) hd;simp only [zero_add,length_toList,getElem?_toList] at h2' h3 h4;refine ⟨st,en,⟨fun i o ho=>(h4 i o ho).1,?_,?_⟩,h1,by rw [h2'],by rw [h2']⟩
   ·intro e₁ e₂ hlt hsz i1 i2;have:=pq hO.trans recs 0 hck.1 e₁ e₂ _ _ hlt (h4 e₁ _ (getElem?_eq_getElem (by omega))).2 (h4 e₂ _ (getElem?_eq_getElem hsz)).2 i1 i2;simpa using this
   ·intro j o v ho hen c hc hb1 hb2;have hrec:=(h4 j o ho).2;rw [hen] at hrec;have h5:=pv ops.toList recs 0 hck.2 j o _ v (by simpa using ho) hrec;rw [zero_add] at h5;have h0:(st 0).2.1={ h with next:=h.next+ops.size }:=by rw [h1]
    rw [<-h0] at h5;have hheap: ∀ c d,c+d<=ops.size->(∀ e,c<=e->e < c+d->(en e).isEff=false)->(st (c+d)).2.1=(st c).2.1:=by
     intro c d
     induction d with
     | zero=>intros; rfl
     | succ d ih=>
      intro hs hn;have:=((h4 (c+d) _ (getElem?_eq_getElem (by omega))).1).heap.2 (hn (c+d) (by omega) (by omega));rw [show c+(d+1)=c+d+1 by omega,this];exact ih (by omega) fun e he1 he2=>hn e he1 (by omega)
    have hjs:j < ops.size:=(Array.getElem?_eq_some_iff.1 ho).1;have hone:=(h4 j o ho).1;rw [hen] at hone;simp only [One] at hone;refine iV (st:=st) (en:=en) hjs ?_ recs 0 true (fun k r hk=>by
      have hlt:k < ops.size:=by rw [<-h3]; exact (List.getElem?_eq_some_iff.1 hk).1
      have:=(h4 k _ (getElem?_eq_getElem hlt)).2;rw [this] at hk;obtain rfl:=oI hk;simp) (by omega)
     (fun k _ hk=>by
      have hlt:k < ops.size:=by omega
      exact ((h4 k _ (getElem?_eq_getElem hlt)).1).heap) (fun _ e _ he=>by omega) h5 c (by omega) (by omega) (fun e _=>hb1 e) (fun e he1 he2=>hb2 e he1 (by omega))
    intro c hc hn1 hn2;rcases lt_or_ge j c with hlt | hge
    ·have:=hheap j (c - j) (by omega) fun e he1 he2=>hn1 e he1 (by omega);rw [show j+(c - j)=c by omega] at this;rw [this]; exact hone.2.1
    ·have:=hheap c (j - c) (by omega) fun e he1 he2=>hn2 e he1 (by omega);rw [show c+(j - c)=j by omega] at this;rw [<-this]; exact hone.2.1
  ·cases hr
 ·cases hr
end
end
section
variable {P:Program} {gl:Nat->Bool}
theorem jr {h:Heap}{base:Nat}: ∀ (R:List (Nat×Blk)),(∀ i B B',(i,B)∈R->(i,B')∈R->B=B')->(∀ i B,(i,B)∈R->h.get (base+i)=none)->
  ∀ k B,(aB h base R).get k=some B↔h.get k=some B\/ ∃ i,k=base+i/\(i,B)∈R
 | [],_,_,k,B=>by simp [aB]
 | (j,B₀)::R,hf,hn,k,B=>by
  have ih:=jr R (fun i B B' h1 h2=>hf i B B' (mem_cons_of_mem _ h1) (mem_cons_of_mem _ h2)) (fun i B h1=>hn i B (mem_cons_of_mem _ h1)) k B;simp only [aB,Heap.get_set];by_cases hk:k=base+j
  ·rw [if_pos hk];constructor
   ·intro he;obtain rfl:=oI he;exact .inr ⟨j,hk,mem_cons_self⟩
   ·rintro (he | ⟨i,h1,h2⟩)
    ·rw [hk,hn j B₀ mem_cons_self] at he; cases he
    ·obtain rfl:i=j:=by omega
     rw [hf i B B₀ h2 mem_cons_self]
  ·rw [if_neg hk,ih];constructor
   ·rintro (he | ⟨i,h1,h2⟩)
    ·exact .inl he
    ·exact .inr ⟨i,h1,mem_cons_of_mem _ h2⟩
   ·rintro (he | ⟨i,h1,h2⟩)
    ·exact .inl he
    ·rcases mem_cons.1 h2 with h3 | h3
     ·simp only [Prod.mk.injEq] at h3;exact absurd (by rw [h1,h3.1]) hk
     ·exact .inr ⟨i,h1,h3⟩
theorem cO {h:Heap}{base:Nat}: ∀ (R:List (Nat×Blk)),(aB h base R).next=h.next
 | []=>rfl
 | _::R=>cO R
theorem iG (tm:List Value)(d:Option Tmp)(v:Value):(e9 tm d v).length=tm.length:=by cases d <;> simp [e9]
theorem E4 {tm:List Value}{d:Option Tmp}{v:Value}{t:Tmp}(h:d≠some t):(e9 tm d v)[t]?=tm[t]?:=by
 cases d with
 | none=>rfl
 | some d=>simp only [e9]; rw [List.getElem?_set_ne]; rintro rfl; exact h rfl
theorem G0 {tm:List Value}{v:Value}{t:Tmp}(h:t < tm.length):(e9 tm (some t) v)[t]?=some v:=by
 simp only [e9]; rw [List.getElem?_set_self h]
section
variable {cf:bT} {ops:Array Oper} {bf:Nat->Nat->Bool} {base:Nat} {st:Nat->Eg} {en:Nat->Ent}
theorem Run.tm_length (hR:Run P gl cf ops bf base st en): ∀ i,i<=ops.size->(st i).1.length=(st 0).1.length
 | 0,_=>rfl
 | i+1,h=>by
  rw [(hR.one i _ (getElem?_eq_getElem (by omega))).tm,iG];exact hR.tm_length i (by omega)
theorem Run.tm_old (hR:Run P gl cf ops bf base st en)(t:Tmp): ∀ i,i<=ops.size->(∀ (i':Nat)(o':Oper),i' < i->ops[i']?=some o'->o'.dst≠some t)->(st i).1[t]?=(st 0).1[t]?
 | 0,_,_=>rfl
 | i+1,h,hn=>by
  have ho:=getElem?_eq_getElem (xs:=ops) (i:=i) (by omega);rw [(hR.one i _ ho).tm,E4 (hn i _ (by omega) ho)];exact hR.tm_old t i (by omega) fun i' o' h1 h2=>hn i' o' (by omega) h2
theorem Run.tm_new (hO:Ordd ops bf)(hR:Run P gl cf ops bf base st en){t:Tmp}(ht:t < (st 0).1.length){i':Nat}{o':Oper}(ho':ops[i']?=some o')(hd:o'.dst=some t): ∀ i,i<=ops.size->i' < i->(st i).1[t]?=some (en i').val
 | 0,_,h=>absurd h (by omega)
 | i+1,h,hlt=>by
  have ho:=getElem?_eq_getElem (xs:=ops) (i:=i) (by omega);rw [(hR.one i _ ho).tm];by_cases he:i'=i
  ·subst he;rw [ho'] at ho;obtain rfl:=oI ho;rw [hd,G0 (by rw [hR.tm_length _ (by omega)]; exact ht)]
  ·rw [E4 fun hd2=>he (hO.uniq i' i o' _ t ho' ho hd hd2)];exact hR.tm_new hO ht ho' hd i (by omega) (by omega)
theorem Run.same_heap (hR:Run P gl cf ops bf base st en){c:Nat}: ∀ (d:Nat),c+d<=ops.size->(∀ e,c<=e->e < c+d->(en e).isEff=false)->(st (c+d)).2.1=(st c).2.1
 | 0,_,_=>rfl
 | d+1,h,hn=>by
  rw [show c+(d+1)=c+d+1 by omega,(hR.one (c+d) _ (getElem?_eq_getElem (by omega))).heap.2 (hn _ (by omega) (by omega))];exact hR.same_heap d (by omega) fun e h1 h2=>hn e h1 (by omega)
def Pend (bf:Nat->Nat->Bool)(en:Nat->Ent)(c i:Nat)(B:Blk):Prop:=(∃ v,en i = .alloc B v)/\ ∀ e,e < c->(en e).isEff=true->bf e i=false
theorem Run.pend (hO:Ordd ops bf)(hR:Run P gl cf ops bf base st en)(h0:(st 0).2.2=[]): ∀ m,m<=ops.size-> ∀ i B,(i,B)∈(st m).2.2↔i < m/\Pend bf en m i B
 | 0,_,i,B=>by rw [h0]; simp
 | m+1,h,i,B=>by
  have ih:=hR.pend hO h0 m (by omega) i B;have hone:=hR.one m _ (getElem?_eq_getElem (by omega));have calm:(en m).isEff=false->(∀ B v,en m≠ .alloc B v)->(i < m+1/\Pend bf en (m+1) i B↔i < m/\Pend bf en m i B):=fun hne hna=>by
   constructor
   ·rintro ⟨h1,⟨v,h2⟩,h3⟩;refine ⟨?_,⟨v,h2⟩,fun e he=>h3 e (by omega)⟩;rcases lt_or_ge i m with h4 | h4
    ·exact h4
    ·obtain rfl:i=m:=by omega
     exact absurd h2 (hna B v)
   ·rintro ⟨h1,h2,h3⟩;refine ⟨by omega,h2,fun e he hef=> ?_⟩;rcases lt_or_ge e m with h4 | h4
    ·exact h3 e h4 hef
    ·obtain rfl:e=m:=by omega
     rw [hne] at hef; cases hef
  cases hm:en m with
  | skip=>
   rw [hm] at hone; simp only [One] at hone;rw [hone.2,ih,calm (by rw [hm]; rfl) (by rw [hm]; intro B v h; cases h)]
  | pure v=>
   rw [hm] at hone; simp only [One] at hone;rw [hone.2.2,ih,calm (by rw [hm]; rfl) (by rw [hm]; intro B v h; cases h)]
  | read v=>
   rw [hm] at hone; simp only [One] at hone;rw [hone.2.2,ih,calm (by rw [hm]; rfl) (by rw [hm]; intro B v h; cases h)]
  | alloc B₀ v=>
   rw [hm] at hone; simp only [One] at hone;rw [hone.2.2];simp only [mem_cons,Prod.mk.injEq];rw [ih];constructor
   ·rintro (⟨rfl,rfl⟩ | ⟨h1,h2,h3⟩)
    ·refine ⟨by omega,⟨v,hm⟩,fun e he _=> ?_⟩
     cases hb:bf e i with
     | false=>rfl
     | true=>have:=hO.lt _ _ hb; omega
    ·refine ⟨by omega,h2,fun e he hef=> ?_⟩;rcases lt_or_ge e m with h4 | h4
     ·exact h3 e h4 hef
     ·obtain rfl:e=m:=by omega
      rw [hm] at hef; cases hef
   ·rintro ⟨h1,⟨v',h2⟩,h3⟩;rcases lt_or_ge i m with h4 | h4
    ·exact .inr ⟨h4,⟨v',h2⟩,fun e he=>h3 e (by omega)⟩
    ·obtain rfl:i=m:=by omega
     rw [hm] at h2
     cases h2
     exact .inl ⟨rfl,rfl⟩
  | eff v h'=>
   rw [hm] at hone; simp only [One] at hone;rw [hone.2.2];simp only [mem_filter,not_eq_true'];rw [ih];constructor
   ·rintro ⟨⟨h1,h2,h3⟩,h4⟩;refine ⟨by omega,h2,fun e he hef=> ?_⟩;rcases lt_or_ge e m with h5 | h5
    ·exact h3 e h5 hef
    ·obtain rfl:e=m:=by omega
     exact h4
   ·rintro ⟨h1,⟨v',h2⟩,h3⟩;have hlt:i < m:=by
     rcases lt_or_ge i m with h5 | h5
     ·exact h5
     ·obtain rfl:i=m:=by omega
      rw [hm] at h2; cases h2
    exact ⟨⟨hlt,⟨v',h2⟩,fun e he=>h3 e (by omega)⟩,h3 m (by omega) (by rw [hm]; rfl)⟩
def TmS (ops:Array Oper)(en:Nat->Ent)(tm₀:List Value)(S:List Nat)(β:Inj)(a:Act):Prop:=
 a.tmps.size=tm₀.length/\ ∀ (t:Tmp)(v':Value),a.tmps[t]?=some v'->(∀ (i:Nat)(o:Oper),i∈S->ops[i]?=some o->o.dst=some t->VRel β (en i).val v')/\
  ((∀ (i:Nat)(o:Oper),i∈S->ops[i]?=some o->o.dst≠some t)-> ∀ v,tm₀[t]?=some v->VRel β v v')
theorem TmS.mono {tm₀:List Value}{S:List Nat}{β β':Inj}{a:Act}(h:TmS ops en tm₀ S β a)(hle:β.le β'):TmS ops en tm₀ S β' a:=
 ⟨h.1,fun t v' hv=>⟨fun i o h1 h2 h3=>((h.2 t v' hv).1 i o h1 h2 h3).mono hle,fun h1 v h2=>((h.2 t v' hv).2 h1 v h2).mono hle⟩⟩
theorem TmS.put (hO:Ordd ops bf){tm₀:List Value}{S:List Nat}{β:Inj}{a:Act}(h:TmS ops en tm₀ S β a){j:Nat}{o:Oper}(ho:ops[j]?=some o){v':Value}(hv:VRel β (en j).val v'):TmS ops en tm₀ (S++[j]) β (a.put o.dst v'):=by
 refine ⟨by cases hd:o.dst <;> simp [Act.put,h.1],fun t u hu=> ?_⟩;by_cases hd:o.dst=some t
 ·have hut:u=v':=by
   rw [hd] at hu;simp only [Act.put,Array.getElem?_setIfInBounds,if_true] at hu;split at hu
   ·exact (oI hu).symm
   ·cases hu
  subst hut;refine ⟨fun i o' _ h2 h3=> ?_,fun hno=>absurd hd (hno j o (by simp) ho)⟩;obtain rfl:=hO.uniq i j o' o t h2 ho h3 hd;exact hv
 ·have hu':a.tmps[t]?=some u:=by
   cases hdd:o.dst with
   | none=>rw [hdd] at hu; exact hu
   | some d=>
    rw [hdd] at hu hd;simp only [Act.put,Array.getElem?_setIfInBounds] at hu;rw [if_neg (by rintro rfl; exact hd rfl)] at hu;exact hu
  obtain ⟨h1,h2⟩:=h.2 t u hu';refine ⟨fun i o' h3 h4 h5=> ?_,fun hno=>h2 fun i o' h3=>hno i o' (mem_append_left _ h3)⟩;rcases mem_append.1 h3 with h3 | h3
  ·exact h1 i o' h3 h4 h5
  ·simp only [mem_singleton] at h3;subst h3;rw [ho] at h4;obtain rfl:=oI h4;exact absurd h5 hd
theorem TmS.sees (hO:Ordd ops bf)(hR:Run P gl cf ops bf base st en){L pre suf:List Nat}{j:Nat}(hL:Topo ops L)(he:L=pre++j::suf){β:Inj}{a:Act}(h:TmS ops en (st 0).1 pre β a)(hg:Gl gl β){o:Oper}(ho:ops[j]?=some o):
  ∀ x∈o.op.operands,VRel β (ev gl (st j).1 x) (a.eval x):=by
 have hjs:j < ops.size:=(Array.getElem?_eq_some_iff.1 ho).1;intro x hx
 cases x with
 | tmp t=>
  simp only [ev,Act.eval];by_cases ht:t < (st 0).1.length
  ·have hta:t < a.tmps.size:=by rw [h.1]; exact ht
   obtain ⟨h1,h2⟩:=h.2 t _ (getElem?_eq_getElem hta);rw [Array.getD_eq_getD_getElem?,getElem?_eq_getElem hta,Option.getD_some];by_cases hw: ∃ (i:Nat)(o':Oper),i∈pre/\ops[i]?=some o'/\o'.dst=some t
   ·obtain ⟨i,o',hi,ho',hd⟩:=hw;have hlt:i < j:=by
     rcases hO.names j o t ho hx i o' ho' hd with rfl | hb | hb
     ·have:=hL.nodup;rw [he] at this;exact absurd rfl (nodup_append.1 this |>.2.2 i hi i mem_cons_self)
     ·exact hO.lt _ _ hb
     ·obtain ⟨p1,p2,rfl⟩:=List.append_of_mem hi;have:=hO.topo L hL p1 i (p2++j::suf) (by rw [he]; simp) j hb;have hnd:=hL.nodup;rw [he] at hnd;exact absurd rfl ((nodup_append.1 hnd).2.2 j (mem_append_left _ this) j mem_cons_self)
    rw [gD,hR.tm_new hO ht ho' hd j (by omega) hlt];exact h1 i o' hi ho' hd
   ·have hold:=hR.tm_old t j (by omega) fun i' o' hlt ho' hd=>by
     rcases hO.names j o t ho hx i' o' ho' hd with rfl | hb | hb
     ·omega
     ·exact hw ⟨i',o',hO.topo L hL pre j suf he i' hb,ho',hd⟩
     ·have:=hO.lt _ _ hb; omega
    rw [gD,hold,gE ht];exact h2 (fun i o' h3 h4 h5=>hw ⟨i,o',h3,h4,h5⟩) _ (gE ht)
  ·have hta: ¬ t < a.tmps.size:=by rw [h.1]; exact ht
   rw [gD,getElem?_eq_none (by rw [hR.tm_length j (by omega)]; exact Nat.le_of_not_lt ht),Array.getD_eq_getD_getElem?,Array.getElem?_eq_none (Nat.le_of_not_lt hta)];exact .undef β
 | const v=>
  simp only [ev,Act.eval];split
  ·next hp=>exact .of_plain hp
  ·exact .junk v
 | global g=>
  simp only [ev,Act.eval];split
  ·next hp=>
   obtain ⟨sl,h1,h2,h3,h4⟩:=hg g hp;have:=VRel.ptr (i:=0) h1 h4;rwa [h2,h3] at this
  ·exact .junk _
 | func f=>
  simp only [ev,Act.eval];exact .func rfl rfl rfl (fun i v v' h=>by simp at h) (fun i v v' h=>by simp at h)
theorem TmS.wanted (hO:Ordd ops bf)(hR:Run P gl cf ops bf base st en){L pre suf:List Nat}{j:Nat}(hL:Topo ops L)(he:L=pre++j::suf){β:Inj}{a:Act}(h:TmS ops en (st 0).1 pre β a){o:Oper}(ho:ops[j]?=some o){b:Bool}
  (hw:eI ops (st j).1 o=some b):Region.wanted o (yielded ops a.tmps)=b:=by
 have hjs:j < ops.size:=(Array.getElem?_eq_some_iff.1 ho).1;unfold eI at hw;unfold Region.wanted;split at hw
 ·next hg=>rw [hg]; simpa using hw
 ·next i want hg=>
  rw [hg];simp only [yielded];have hb:=hO.guards j o i want ho hg;have hi:=hO.topo L hL pre j suf he i hb;split at hw
  ·next d hd=>
   rw [hd];simp only [Option.bind_some];obtain ⟨oi,hoi,hdi⟩:=Option.bind_eq_some_iff.1 hd;have hval: ∀ v,(st j).1[d]?=some v->v=(en i).val/\ ∃ v',a.tmps[d]?=some v'/\VRel β v v':=by
    intro v hv;have hdl:d < (st 0).1.length:=by rw [<-hR.tm_length j (by omega)]; exact (List.getElem?_eq_some_iff.1 hv).1
    have hda:d < a.tmps.size:=by rw [h.1]; exact hdl
    have:=hR.tm_new hO hdl hoi hdi j (by omega) (hO.lt _ _ hb);rw [this] at hv;obtain rfl:=oI hv;exact ⟨rfl,_,getElem?_eq_getElem hda,(h.2 d _ (getElem?_eq_getElem hda)).1 i oi hi hoi hdi⟩
   split at hw
   ·next b' hb'=>
    obtain ⟨_,v',h1,h2⟩:=hval _ (yj hb');rw [h2.inv_bool] at h1;rw [h1];simp only [Option.some.injEq] at hw;subst hw
    cases b' <;> cases want <;> rfl
   ·next vs hb'=>
    simp only [Option.some.injEq] at hw;subst hw;rcases vt hb' with hb' | hb'
    ·obtain ⟨_,v',h1,h2⟩:=hval _ hb';obtain ⟨vs',rfl,_⟩:=h2.inv_tuple;rw [h1];rfl
    ·have hdn:a.tmps[d]?=none:=Array.getElem?_eq_none (by rw [h.1,<-hR.tm_length j (by omega)]; exact List.getElem?_eq_none_iff.1 hb');rw [hdn];rfl
   ·cases hw
  ·cases hw
end
end
section
variable {β:Inj} {P:Program} {gl:Nat->Bool}
theorem r8 {r:Option Nat}{n:Nat}{o:Oper}{a:Act}{w w':World}{v':Value}(hnd: ∀ c,o.op≠ .defer c)(hrun:(execOp a.eval o).run P w = .ok (.value v') w'){next:Act->World->Prop}{Q:Exit->Act->World->Prop}
  (h:next (a.put o.dst v') w'):o.wpIn (fy r) n P a w next Q:=by
 refine ⟨fun _ _=>trivial,?_⟩;rw [Oper.semAt_eq _ _ _ hnd,hrun];exact h
theorem Jo (hN:cY P){cf:bT}(hcf:CfOk P gl cf){r:Option Nat}{n:Nat}{ρ:Operand->Value}{a:Act}{h:Heap}{w:World}{o:Oper}{v:Value}{u:Upd}(hs:Sim β h w)(hg:Gl gl β)(hρ: ∀ x,VRel β (ρ x) (a.eval x))
  (hr:dj P cf ρ o h=some (v,u)) (next:Act->World->Prop) (Q:Exit->Act->World->Prop)
  (hk: ∀ v' w' β',Step β h w β' (u.app h) w'->VRel β' v v'->next (a.put o.dst v') w'):o.wpIn (fy r) n P a w next Q:=by
 refine ⟨fun _ _=>trivial,?_⟩;have hnd: ∀ c,o.op≠ .defer c:=by
  intro c hc;simp [dj,hc] at hr
 rw [Oper.semAt_eq _ _ _ hnd];by_cases hc:aO o=false
 ·obtain ⟨v',w',β',h1,h2,h3⟩:=sa hρ hc hs hr;rcases h1 with h1 | ⟨h1,rfl⟩
  ·rw [h1];exact hk v' w' β' h2 h3
  ·rw [h1];exact hk undef w' β' h2 h3
 ·unfold aO at hc;split at hc
  ·next f args ats ho=>
   simp only [dj,ho] at hr;exact AJ hN hcf ho hs hg hρ hr next Q hk
  ·exact absurd rfl hc
open Classical in
noncomputable def only (o:Oper)(ρ:Operand->Value):Operand->Value:=fun x=>if x∈o.op.operands then ρ x else junk
theorem ux {o:Oper}{ρ:Operand->Value}: ∀ x∈o.op.operands,ρ x=only o ρ x:=fun x hx=>by simp [only,hx]
theorem Jz {o:Oper}{ρ ρ':Operand->Value}(h: ∀ x∈o.op.operands,VRel β (ρ x) (ρ' x)): ∀ x,VRel β (only o ρ x) (ρ' x):=fun x=>by
 unfold only;split
 ·next hx=>exact h x hx
 ·exact .junk _
section
variable {cf:bT} {ops:Array Oper} {bf:Nat->Nat->Bool} {st:Nat->Eg} {en:Nat->Ent}
structure Inv (ops:Array Oper)(bf:Nat->Nat->Bool)(st:Nat->Eg)(en:Nat->Ent)(β₀:Inj)(h:Heap)(w₀:World)(a₀:Act)(pre:List Nat)(β:Inj)(w:World)(a:Act)(c:Nat)(R:List (Nat×Blk)):Prop where
 le:c<=ops.size
 effs: ∀ e,e < ops.size->(en e).isEff=true->(e∈pre↔e < c)
 mem: ∀ i B,(i,B)∈R↔i∈pre/\Pend bf en c i B
 step:Step β₀ h w₀ β (aB (st c).2.1 h.next R) w
 room:h.next+ops.size<=(st c).2.1.next
 nokey: ∀ i B,i < ops.size->(st c).2.1.get (h.next+i)=some B-> ∃ e,e < c/\(en e).isEff=true/\bf e i=true
 free: ∀ i,i < ops.size->i ∉ pre->(∃ B v,en i = .alloc B v)->β (h.next+i)=none
 tms:TmS ops en (st 0).1 pre β a
 dfs:a.defers=a₀.defers
theorem Pend.fun_ {c i:Nat}{B B':Blk}(h:Pend bf en c i B)(h':Pend bf en c i B'):B=B':=by
 obtain ⟨v,h1⟩:=h.1;obtain ⟨v',h2⟩:=h'.1;rw [h1] at h2; cases h2; rfl
variable {β₀:Inj} {h:Heap} {w₀:World} {a₀:Act} {pre:List Nat} {w:World} {a:Act} {c:Nat} {R:List (Nat×Blk)}
theorem Inv.none_ (hI:Inv ops bf st en β₀ h w₀ a₀ pre β w a c R){i:Nat}{B:Blk}(hi:i < ops.size)(hp:Pend bf en c i B):(st c).2.1.get (h.next+i)=none:=by
 cases hg:(st c).2.1.get (h.next+i) with
 | none=>rfl
 | some B'=>
  obtain ⟨e,h1,h2,h3⟩:=hI.nokey i B' hi hg;rw [hp.2 e h1 h2] at h3; cases h3
theorem Inv.get (hI:Inv ops bf st en β₀ h w₀ a₀ pre β w a c R)(hpre: ∀ i∈pre,i < ops.size)(k:Nat)(B:Blk):
  (aB (st c).2.1 h.next R).get k=some B↔(st c).2.1.get k=some B\/ ∃ i,k=h.next+i/\(i,B)∈R:=
 jr R (fun i B B' h1 h2=>((hI.mem i B).1 h1).2.fun_ ((hI.mem i B').1 h2).2) (fun i B h1=>hI.none_ (hpre i ((hI.mem i B).1 h1).1) ((hI.mem i B).1 h1).2) k B
theorem Inv.sub (hI:Inv ops bf st en β₀ h w₀ a₀ pre β w a c R)(hpre: ∀ i∈pre,i < ops.size):Sim β (st c).2.1 w:=
 hI.step.sim.sub (cO R).symm fun k B hk=>(hI.get hpre k B).2 (.inl hk)
theorem Inv.calm (hO:Ordd ops bf)(hI:Inv ops bf st en β₀ h w₀ a₀ pre β w a c R){j:Nat}{o:Oper}(ho:ops[j]?=some o)(hne:(en j).isEff=false)(hna: ∀ B v,en j≠ .alloc B v){v':Value}(hv:VRel β (en j).val v'):
  Inv ops bf st en β₀ h w₀ a₀ (pre++[j]) β w (a.put o.dst v') c R where
 le:=hI.le
 effs:=fun e he hef=>by
  rw [mem_append,hI.effs e he hef];refine ⟨fun hh=> ?_,.inl⟩;rcases hh with hh | hh
  ·exact hh
  ·simp only [mem_singleton] at hh;subst hh;rw [hne] at hef; cases hef
 mem:=fun i B=>by
  rw [hI.mem,mem_append];refine ⟨fun ⟨h1,h2⟩=>⟨.inl h1,h2⟩,fun ⟨h1,h2⟩=>⟨?_,h2⟩⟩;rcases h1 with h1 | h1
  ·exact h1
  ·simp only [mem_singleton] at h1;subst h1;obtain ⟨v,hv⟩:=h2.1;exact absurd hv (hna B v)
 step:=hI.step
 room:=hI.room
 nokey:=hI.nokey
 free:=fun i h1 h2=>hI.free i h1 fun hh=>h2 (mem_append_left _ hh)
 tms:=hI.tms.put hO ho hv
 dfs:=(bU a o.dst v').trans hI.dfs
theorem BQ (hN:cY P)(hcf:CfOk P gl cf)(hO:Ordd ops bf)(hR:Run P gl cf ops bf h.next st en)(hpd:(st 0).2.2=[]){L:List Nat}(hL:Topo ops L){r:Option Nat}{n:Nat}{Q:Exit->Act->World->Prop}(hg₀:Gl gl β₀)
  (hk: ∀ a' w' β',Step β₀ h w₀ β' (aB (st ops.size).2.1 h.next (st ops.size).2.2) w'->LRel β' (st ops.size).1 a'.tmps.toList->a'.defers=a₀.defers->Q .normal a' w'):
  ∀ (suf pre:List Nat)(β:Inj)(w:World)(a:Act)(c:Nat)(R:List (Nat×Blk)),L=pre++suf->Inv ops bf st en β₀ h w₀ a₀ pre β w a c R->wpOpsIn (fy r) n P ops Q suf a w
 | [],pre,β,w,a,c,R,he,hI=>by
  rw [append_nil] at he;subst he;have hpre: ∀ i∈L,i < ops.size:=fun i hi=>(hL.mem i).1 hi;have hnoeff: ∀ e,c<=e->e < ops.size->(en e).isEff=false:=fun e h1 h2=>by
   cases hef:(en e).isEff with
   | false=>rfl
   | true=>have:=(hI.effs e h2 hef).1 ((hL.mem e).2 h2); omega
  have hle:=hI.le;have hsame:(st ops.size).2.1=(st c).2.1:=by
   have:=hR.same_heap (c:=c) (ops.size - c) (by omega) fun e h1 h2=>hnoeff e h1 (by omega);rwa [show c+(ops.size - c)=ops.size by omega] at this
  have hpend: ∀ i B,Pend bf en ops.size i B↔Pend bf en c i B:=fun i B=>by
   refine ⟨fun hp=>⟨hp.1,fun e h1=>hp.2 e (by omega)⟩,fun hp=>⟨hp.1,fun e h1 h2=>hp.2 e ?_ h2⟩⟩;rcases lt_or_ge e c with h3 | h3
   ·exact h3
   ·rw [hnoeff e h3 h1] at h2; cases h2
  have hmem: ∀ i B,(i,B)∈(st ops.size).2.2↔(i,B)∈R:=fun i B=>by
   rw [hR.pend hO hpd ops.size (le_refl _),hI.mem,hpend,hL.mem]
  have hget:=hI.get hpre;have hget2: ∀ k B,(aB (st ops.size).2.1 h.next (st ops.size).2.2).get k=some B↔(st c).2.1.get k=some B\/ ∃ i,k=h.next+i/\(i,B)∈(st ops.size).2.2:=by
   rw [hsame];exact jr _ (fun i B B' h1 h2=>((hI.mem i B).1 ((hmem i B).1 h1)).2.fun_ ((hI.mem i B').1 ((hmem i B').1 h2)).2)
    (fun i B h1=>hI.none_ (hpre i ((hI.mem i B).1 ((hmem i B).1 h1)).1) ((hI.mem i B).1 ((hmem i B).1 h1)).2)
  have hS:Same (aB (st c).2.1 h.next R) (aB (st ops.size).2.1 h.next (st ops.size).2.2):=by
   refine ⟨by rw [cO,cO,hsame],fun k=>Option.ext fun B=> ?_⟩;rw [hget,hget2];simp only [hmem]
  refine hk a w β (hI.step.same (Same.refl h) hS) ?_ hI.dfs;refine ⟨?_,fun t v v' h1 h2=> ?_⟩
  ·rw [hR.tm_length _ (le_refl _),length_toList,hI.tms.1]
  ·rw [getElem?_toList] at h2;obtain ⟨h3,h4⟩:=hI.tms.2 t v' h2;have htl:t < (st 0).1.length:=by rw [<-hR.tm_length _ (le_refl _)]; exact (List.getElem?_eq_some_iff.1 h1).1
   by_cases hw: ∃ (i:Nat)(o:Oper),ops[i]?=some o/\o.dst=some t
   ·obtain ⟨i,o,ho,hd⟩:=hw;have hi:i < ops.size:=(Array.getElem?_eq_some_iff.1 ho).1;rw [hR.tm_new hO htl ho hd _ (le_refl _) hi] at h1;obtain rfl:=oI h1;exact h3 i o ((hL.mem i).2 hi) ho hd
   ·rw [hR.tm_old t _ (le_refl _) fun i o _ ho hd=>hw ⟨i,o,ho,hd⟩] at h1;exact h4 (fun i o _ ho hd=>hw ⟨i,o,ho,hd⟩) v h1
 | j::suf,pre,β,w,a,c,R,he,hI=>by
  have hpre: ∀ i∈pre,i < ops.size:=fun i hi=>(hL.mem i).1 (by rw [he]; exact mem_append_left _ hi);have hj:j < ops.size:=(hL.mem j).1 (by rw [he]; simp);have hnj:j ∉ pre:=fun hm=>by
   have hnd:=hL.nodup;rw [he] at hnd;exact absurd rfl ((nodup_append.1 hnd).2.2 j hm j mem_cons_self)
  have hbf: ∀ i,bf j i=true->i∈pre:=hO.topo L hL pre j suf he;have hfb: ∀ i∈pre,bf i j=false:=fun i hi=>by
   cases hb:bf i j with
   | false=>rfl
   | true=>
    obtain ⟨p1,p2,rfl⟩:=List.append_of_mem hi;exact absurd (mem_append_left _ (hO.topo L hL p1 i (p2++j::suf) (by rw [he]; simp) j hb)) hnj
  have ho:=getElem?_eq_getElem hj;generalize ops[j]=o at ho;have hone:=hR.one j o ho;have hg:Gl gl β:=hg₀.mono hI.step.le;have hsee:=hI.tms.sees hO hR hL he hg ho;have hρ:=Jz hsee;have hrec:=BQ hN hcf hO hR hpd hL (r:=r) (n:=n) hg₀ hk suf (pre++[j]);have he':L=(pre++[j])++suf:=by rw [he]; simp
  simp only [wpOpsIn,ho]
  cases hen:en j with
  | skip=>
   rw [hen] at hone; simp only [One] at hone;rw [hI.tms.wanted hO hR hL he ho hone.1];simp only [false_eq_true,if_false];refine ⟨fun _ _=>trivial,?_⟩;exact hrec β w _ c R he' (hI.calm hO ho (by rw [hen]; rfl) (by rw [hen]; intro B v h; cases h) (by rw [hen]; exact .undef β))
  | pure v=>
   rw [hen] at hone; simp only [One] at hone;obtain ⟨hw,hop,_⟩:=hone;rw [hI.tms.wanted hO hR hL he ho hw];simp only [if_true];rw [zP ux] at hop;obtain ⟨v',h1,h2⟩:=lD hρ hop w;refine r8 ?_ h1 (hrec β w _ c R he' (hI.calm hO ho (by rw [hen]; rfl) (by rw [hen]; intro B v h; cases h) (by rw [hen]; exact h2)));intro cc hc; simp [bn,hc] at hop
  | read v=>
   rw [hen] at hone; simp only [One] at hone;obtain ⟨hw,_,_⟩:=hone;rw [hI.tms.wanted hO hR hL he ho hw];simp only [if_true];have hop:=hR.reads j o v ho hen c hI.le
    (fun e h1 h2=>hfb e ((hI.effs e (by have:=hI.le; omega) h2).2 h1))
    (fun e h1 h2 h3=>by
     cases hb:bf j e with
     | false=>rfl
     | true=>have:=(hI.effs e h2 h3).1 (hbf e hb); omega)
   rw [zB ux] at hop;obtain ⟨v',h1,h2⟩:=lc hρ (hI.sub hpre) hop;refine r8 ?_ h1 (hrec β w _ c R he' (hI.calm hO ho (by rw [hen]; rfl) (by rw [hen]; intro B v h; cases h) (by rw [hen]; exact h2)));intro cc hc; simp [aV,hc] at hop
  | alloc B v=>
   rw [hen] at hone; simp only [One] at hone;obtain ⟨hw,⟨f,hop,rfl⟩,_⟩:=hone;rw [hI.tms.wanted hO hR hL he ho hw];simp only [if_true];rw [xa ux] at hop;obtain ⟨v',w',h1,h2⟩:=kh hρ (w:=w) hop;have hfree:=hI.free j hj hnj ⟨B,_,hen⟩;have hroom:=hI.room;obtain ⟨β',h3,h4,h5,h6⟩:=h2.at_key hI.step hfree (by omega) (by rw [cO]; omega);refine r8 (by intro cc hc; simp [aT,hc] at hop) h1 (hrec β' w' _ c ((j,B)::R) he' ⟨hI.le,?_,?_,h3,hI.room,hI.nokey,?_,?_,(bU a o.dst v').trans hI.dfs⟩)
   ·intro e h7 h8;rw [mem_append,hI.effs e h7 h8];refine ⟨fun hh=> ?_,.inl⟩;rcases hh with hh | hh
    ·exact hh
    ·simp only [mem_singleton] at hh;subst hh;rw [hen] at h8; cases h8
   ·intro i B';rw [mem_cons,hI.mem,mem_append];constructor
    ·rintro (hh | ⟨h7,h8⟩)
     ·simp only [Prod.mk.injEq] at hh;obtain ⟨rfl,rfl⟩:=hh;refine ⟨.inr mem_cons_self,⟨_,hen⟩,fun e h7 h8=>hfb e ((hI.effs e (by have:=hI.le; omega) h8).2 h7)⟩
     ·exact ⟨.inl h7,h8⟩
    ·rintro ⟨h7 | h7,h8⟩
     ·exact .inr ⟨h7,h8⟩
     ·simp only [mem_singleton] at h7;subst h7;obtain ⟨v2,h9⟩:=h8.1;rw [hen] at h9
      cases h9
      exact .inl rfl
   ·intro i h7 h8 h9;rw [h6 _ fun hh=>h8 (by rw [show i=j by omega]; simp)];exact hI.free i h7 (fun hh=>h8 (mem_append_left _ hh)) h9
   ·exact (hI.tms.mono h5).put hO ho (by rw [hen]; exact h4)
  | eff v h'=>
   rw [hen] at hone; simp only [One] at hone;have hheap:(st (j+1)).2.1=h':=by rw [hone.2.2]
   obtain ⟨hw,⟨u,hop,hu⟩,_⟩:=hone;rw [hI.tms.wanted hO hR hL he ho hw];simp only [if_true];have hcj:c<=j:=by
    rcases lt_or_ge j c with h1 | h1
    ·exact absurd ((hI.effs j hj (by rw [hen]; rfl)).2 h1) hnj
    ·exact h1
   have hnoeff: ∀ e,c<=e->e < j->(en e).isEff=false:=fun e h1 h2=>by
    cases hef:(en e).isEff with
    | false=>rfl
    | true=>
     have:=(hI.effs e (by omega) hef).1 (hbf e (hR.chain e j h2 hj hef (by rw [hen]; rfl)));omega
   have hsame:(st j).2.1=(st c).2.1:=by
    have:=hR.same_heap (c:=c) (j - c) (by omega) fun e h1 h2=>hnoeff e h1 (by omega);rwa [show c+(j - c)=j by omega] at this
   rw [hsame] at hop hu;have hF: ∀ i B,(i,B)∈(st j).2.2.filter (fun p=>bf j p.1)↔Pend bf en c i B/\bf j i=true:=fun i B=>by
    rw [mem_filter,hR.pend hO hpd j (by omega)];constructor
    ·rintro ⟨⟨h1,h2,h3⟩,h4⟩;exact ⟨⟨h2,fun e h5=>h3 e (by omega)⟩,h4⟩
    ·rintro ⟨⟨h2,h3⟩,h4⟩;refine ⟨⟨hO.lt _ _ h4,h2,fun e h5 h6=> ?_⟩,h4⟩;rcases lt_or_ge e c with h7 | h7
     ·exact h3 e h7 h6
     ·rw [hnoeff e h7 h5] at h6; cases h6
   generalize (st j).2.2.filter (fun p=>bf j p.1)=F at hF hop hu;have hGp:=jr (h:=(st c).2.1) (base:=h.next) F (fun i B B' h1 h2=>((hF i B).1 h1).1.fun_ ((hF i B').1 h2).1)
    (fun i B h1=>hI.none_ (by have:=hO.lt _ _ ((hF i B).1 h1).2; omega) ((hF i B).1 h1).1)
   have hgetV:=hI.get hpre;have hsub:Sim β (aB (st c).2.1 h.next F) w:=hI.step.sim.sub (by rw [cO,cO]) fun k B hkk=>by
    rw [hgetV];rcases (hGp k B).1 hkk with h1 | ⟨i,h1,h2⟩
    ·exact .inl h1
    ·exact .inr ⟨i,h1,(hI.mem i B).2 ⟨hbf i ((hF i B).1 h2).2,((hF i B).1 h2).1⟩⟩
   rw [CG ux] at hop;refine Jo hN hcf hsub hg hρ hop _ _ fun v' w' β' hst hv=> ?_;rw [<-hu,<-hheap] at hst;have hroom:=hI.room;have hnextF:(aB (st c).2.1 h.next F).next=(st c).2.1.next:=cO F;have hRmem: ∀ i B,(i,B)∈R.filter (fun p=> !bf j p.1)↔i∈pre/\Pend bf en c i B/\bf j i=false:=fun i B=>by
    rw [mem_filter,hI.mem]; simp [and_assoc]
   have hRnone: ∀ i B,(i,B)∈R.filter (fun p=> !bf j p.1)->(aB (st c).2.1 h.next F).get (h.next+i)=none:=fun i B hm=>by
    obtain ⟨h1,h2,h3⟩:=(hRmem i B).1 hm
    cases hgk:(aB (st c).2.1 h.next F).get (h.next+i) with
    | none=>rfl
    | some B'=>
     rcases (hGp _ _).1 hgk with h4 | ⟨i',h4,h5⟩
     ·rw [hI.none_ (hpre i h1) h2] at h4; cases h4
     ·obtain rfl:i=i':=by omega
      rw [((hF _ _).1 h5).2] at h3; cases h3
   have hback: ∀ k B,(st (j+1)).2.1.get k=some B->k < (st c).2.1.next-> ∃ B₀,(aB (st c).2.1 h.next F).get k=some B₀:=fun k B h1 h2=>hst.keys k B h1 (by rw [hnextF]; exact h2);have hGn:=jr (h:=(st (j+1)).2.1) (base:=h.next) (R.filter fun p=> !bf j p.1) (fun i B B' h1 h2=>((hRmem i B).1 h1).2.1.fun_ ((hRmem i B').1 h2).2.1)
    (fun i B hm=>by
     cases hgk:(st (j+1)).2.1.get (h.next+i) with
     | none=>rfl
     | some B'=>
      obtain ⟨B₀,h4⟩:=hback _ _ hgk (by have:=hpre i ((hRmem i B).1 hm).1; omega);rw [hRnone i B hm] at h4; cases h4)
   have hframe:=hst.frame (V:=aB (st c).2.1 h.next R) (V':=aB (st (j+1)).2.1 h.next (R.filter fun p=> !bf j p.1)) hI.step.sim (by rw [cO,hnextF]) (cO _)
    (fun k B=> ∃ i,k=h.next+i/\(i,B)∈R.filter fun p=> !bf j p.1)
    (fun k B ⟨i,h1,h2⟩=>by
     subst h1;exact ⟨by rw [hnextF]; have:=hpre i ((hRmem i B).1 h2).1; omega,hRnone i B h2⟩)
    (fun k B=>by
     rw [hgetV,hGp];constructor
     ·rintro (h1 | ⟨i,h1,h2⟩)
      ·exact .inl (.inl h1)
      ·obtain ⟨h3,h4⟩:=(hI.mem i B).1 h2
       cases hb:bf j i with
       | true=>exact .inl (.inr ⟨i,h1,(hF i B).2 ⟨h4,hb⟩⟩)
       | false=>exact .inr ⟨i,h1,(hRmem i B).2 ⟨h3,h4,hb⟩⟩
     ·rintro ((h1 | ⟨i,h1,h2⟩) | ⟨i,h1,h2⟩)
      ·exact .inl h1
      ·exact .inr ⟨i,h1,(hI.mem i B).2 ⟨hbf i ((hF i B).1 h2).2,((hF i B).1 h2).1⟩⟩
      ·exact .inr ⟨i,h1,(mem_filter.1 h2).1⟩)
    hGn
   have hnext:=hst.next;rw [hnextF] at hnext;refine hrec β' w' _ (j+1) _ he' ⟨by omega,?_,?_,hI.step.trans hframe,by omega,?_,?_,(hI.tms.mono hst.le).put hO ho (by rw [hen]; exact hv),(bU a o.dst v').trans hI.dfs⟩
   ·intro e h1 h2;rw [mem_append,hI.effs e h1 h2,mem_singleton];constructor
    ·rintro (h3 | h3) <;> omega
    ·intro h3;rcases lt_or_ge e c with h4 | h4
     ·exact .inl h4
     ·rcases lt_or_ge e j with h5 | h5
      ·rw [hnoeff e h4 h5] at h2; cases h2
      ·exact .inr (by omega)
   ·intro i B;rw [hRmem,mem_append];constructor
    ·rintro ⟨h1,⟨h2,h3⟩,h4⟩;refine ⟨.inl h1,h2,fun e h5 h6=> ?_⟩;rcases lt_or_ge e c with h7 | h7
     ·exact h3 e h7 h6
     ·rcases lt_or_ge e j with h8 | h8
      ·rw [hnoeff e h7 h8] at h6; cases h6
      ·obtain rfl:e=j:=by omega
       exact h4
    ·rintro ⟨h1,⟨v2,h2⟩,h3⟩;rcases h1 with h1 | h1
     ·exact ⟨h1,⟨⟨v2,h2⟩,fun e h4=>h3 e (by omega)⟩,h3 j (by omega) (by rw [hen]; rfl)⟩
     ·simp only [mem_singleton] at h1;subst h1;rw [hen] at h2; cases h2
   ·intro i B h1 h2;obtain ⟨B₀,h3⟩:=hback _ _ h2 (by omega);rcases (hGp _ _).1 h3 with h4 | ⟨i',h4,h5⟩
    ·obtain ⟨e,h6,h7,h8⟩:=hI.nokey i B₀ h1 h4;exact ⟨e,by omega,h7,h8⟩
    ·obtain rfl:i=i':=by omega
     exact ⟨j,by omega,by rw [hen]; rfl,((hF _ _).1 h5).2⟩
   ·intro i h1 h2 h3;have hold:=hI.free i h1 (fun hh=>h2 (mem_append_left _ hh)) h3
    cases hb:β' (h.next+i) with
    | none=>rfl
    | some sl=>
     rcases hst.fresh _ sl hb with h4 | ⟨h4,_⟩
     ·rw [hold] at h4; cases h4
     ·rw [hnextF] at h4; omega
end
end
section
variable {P:Program} {gl:Nat->Bool}
theorem rE: ∀ {x y:List (Value×Value)},so x y=true->x=y
 | [],[],_=>rfl
 | [],_::_,h=>by simp [so] at h
 | _::_,[],h=>by simp [so] at h
 | (a,b)::x,(c,d)::y,h=>by
  simp only [so,and_eq_true] at h;rw [jf _ _ _ h.1.1,jf _ _ _ h.1.2,rE h.2]
theorem BJ {B C:Blk}(h:IB B C=true):B=C:=by
 unfold IB at h;split at h
 ·simp only [and_eq_true,Nat.beq_eq,beq_iff_eq] at h;obtain ⟨⟨⟨h1,rfl⟩,rfl⟩,rfl⟩:=h;rw [nL (jf 4) h1]
 ·rw [rE h]
 ·cases h
theorem uG {h h':Heap}{k:Nat}(e:MC h h' k=true):h.get k=h'.get k:=by
 unfold MC at e;split at e
 ·next h1 h2=>rw [h1,h2,BJ e]
 ·next h1 h2=>rw [h1,h2]
 ·cases e
def Off (h₀:Heap)(s:CZ):Prop:=s.2.1.next=h₀.next/\ ∀ k,k ∉ s.2.2->s.2.1.get k=h₀.get k
theorem Off.lay {h₀:Heap}{s:CZ}(h:Off h₀ s)(dst:Option Tmp)(v:Value)(u:Option (Nat×Blk)):Off h₀ (BM s dst v u):=by
 cases u with
 | none=>exact h
 | some p=>
  obtain ⟨k,b⟩:=p;refine ⟨h.1,fun j hj=> ?_⟩;simp only [BM,mem_cons,not_or] at hj;show (s.2.1.set k b).get j=_;rw [Heap.get_set,if_neg hj.1];exact h.2 j hj.2
theorem xw {ops:Array Oper}{base j:Nat}{h₀:Heap}{s s':CZ}(h:Off h₀ s)(hs:CL P gl ops base j s=some s'):Off h₀ s':=by
 unfold CL at hs;split at hs
 ·split at hs
  ·split at hs
   ·obtain rfl:=oI hs; exact h.lay _ _ _
   ·cases hs
  ·obtain rfl:=oI hs; exact h.lay _ _ _
  ·cases hs
 ·cases hs
theorem xq {ops:Array Oper}{base:Nat}{h₀:Heap}: ∀ (n j:Nat){s s':CZ},Off h₀ s->Bc P gl ops base n j s=some s'->Off h₀ s'
 | 0,_,_,_,h,hs=>by simp only [Bc] at hs; obtain rfl:=oI hs; exact h
 | n+1,j,s,s',h,hs=>by
  simp only [Bc] at hs;split at hs
  ·next s1 h1=>exact xq n (j+1) (xw h h1) hs
  ·cases hs
theorem CK {h₀:Heap}{s s':CZ}(h:Off h₀ s)(h':Off h₀ s')(e:Kv s s'=true):s.1=s'.1/\Same s.2.1 s'.2.1:=by
 unfold Kv at e;simp only [and_eq_true] at e;obtain ⟨⟨e1,e2⟩,e3⟩:=e;refine ⟨nL (jf 4) e1,h.1.trans h'.1.symm,fun k=> ?_⟩;by_cases k1:k∈s.2.2
 ·exact uG (all_eq_true.1 e2 k k1)
 ·by_cases k2:k∈s'.2.2
  ·exact uG (all_eq_true.1 e3 k k2)
  ·rw [h.2 k k1,h'.2 k k2]
theorem Topo.length {ops:Array Oper}{L:List Nat}(h:Topo ops L):L.length=ops.size:=by
 have:=((List.perm_ext_iff_of_nodup h.nodup List.nodup_range).2 fun i=>by rw [h.mem,mem_range]).length_eq;simpa using this
theorem M9:CfOk P gl eK:=⟨(by intro f args h v h' _ hr; cases hr),(by intro k args h v h' hr; cases hr)⟩
theorem FZ (hN:cY P){ops:Array Oper}(hO:Ordd ops (co (fU ops))){L:List Nat}(hL:Topo ops L){r:Option Nat}{n:Nat}{Q:Exit->Act->World->Prop}{base:Nat}{fin:CZ}{h₀ hb:Heap}{β₀:Inj}{w₀:World}{a₀:Act}(hg₀:Gl gl β₀)
  (hbase:hb.next=base+ops.size) (h0n:h₀.next<=base) (hfin:Off hb fin)
  (hk: ∀ a' w' β',Step β₀ h₀ w₀ β' fin.2.1 w'->LRel β' fin.1 a'.tmps.toList->a'.defers=a₀.defers->Q .normal a' w'):
  ∀ (suf pre:List Nat)(β:Inj)(w:World)(a:Act)(s:CZ),L=pre++suf->Jy P gl ops (co (fU ops)) base fin suf.length pre.reverse s=true->Off hb s->Step β₀ h₀ w₀ β s.2.1 w->
   (∀ i,i < ops.size->i ∉ pre->β (base+i)=none)->LRel β s.1 a.tmps.toList->a.defers=a₀.defers->wpOpsIn (fy r) n P ops Q suf a w
 | [],pre,β,w,a,s,he,hA,hoff,hst,hfree,ht,hd=>by
  obtain ⟨e1,e2⟩:=CK hfin hoff hA;refine hk a w β (hst.same (Same.refl _) e2.symm) (by rw [e1]; exact ht) hd
 | j::suf,pre,β,w,a,s,he,hA,hoff,hst,hfree,ht,hd=>by
  have hj:j < ops.size:=(hL.mem j).1 (by rw [he]; simp);have hnj:j ∉ pre:=fun hm=>by
   have hnd:=hL.nodup;rw [he] at hnd;exact absurd rfl ((nodup_append.1 hnd).2.2 j hm j mem_cons_self)
  have hbf: ∀ i,co (fU ops) j i=true->i∈pre:=hO.topo L hL pre j suf he;simp only [length_cons,Jy] at hA;have h1:=all_eq_true.1 hA j (mem_range.2 hj);simp only [or_eq_true] at h1;rcases h1 with (h1 | h1) | h1
  ·exact absurd (by simpa using h1) hnj
  ·obtain ⟨i,hi,hh⟩:=List.any_eq_true.1 h1;simp only [and_eq_true,not_eq_true'] at hh;have h2:i ∉ pre:=by simpa using hh.2
   exact absurd (hbf i hh.1) h2
  ·split at h1
   ·next s' hs'=>
    have hoff':=xw hoff hs';have ho:=getElem?_eq_getElem hj;generalize ops[j]=o at ho;unfold CL at hs';rw [ho] at hs';dsimp only at hs';have he':L=(pre++[j])++suf:=by rw [he]; simp
    have hrev:(pre++[j]).reverse=j::pre.reverse:=by simp
    have hfree': ∀ i,i < ops.size->i ∉ pre++[j]->β (base+i)=none:=fun i h1 h2=>hfree i h1 fun hh=>h2 (mem_append_left _ hh);have hg:Gl gl β:=hg₀.mono hst.le;simp only [wpOpsIn,ho];split at hs'
    ·next hw=>
     rw [gY ht hw];simp only [if_true];split at hs'
     ·next v u hop=>
      obtain rfl:=oI hs';have hρ:=sG (β:=β) hg ht;unfold PG at hop;split at hop
      ·next v0 hp=>
       simp only [Option.some.injEq,Prod.mk.injEq] at hop;obtain ⟨rfl,rfl⟩:=hop;obtain ⟨v',g1,g2⟩:=lD hρ hp w;refine r8 (by intro cc hc; simp [bn,hc] at hp) g1 (FZ hN hO hL hg₀ hbase h0n hfin hk suf (pre++[j]) β w _ _ he' (by rw [hrev]; exact h1) hoff' hst hfree' (gj ht o.dst g2) ((bU a o.dst v').trans hd))
      ·split at hop
       ·next v0 hp=>
        simp only [Option.some.injEq,Prod.mk.injEq] at hop;obtain ⟨rfl,rfl⟩:=hop;obtain ⟨v',g1,g2⟩:=lc hρ hst.sim hp;refine r8 (by intro cc hc; simp [aV,hc] at hp) g1 (FZ hN hO hL hg₀ hbase h0n hfin hk suf (pre++[j]) β w _ _ he' (by rw [hrev]; exact h1) hoff' hst hfree' (gj ht o.dst g2) ((bU a o.dst v').trans hd))
       ·split at hop
        ·next B f hp=>
         simp only [Option.some.injEq,Prod.mk.injEq] at hop;obtain ⟨rfl,rfl⟩:=hop;obtain ⟨v',w',g1,g2⟩:=kh hρ (w:=w) hp;obtain ⟨β',g3,g4,g5,g6⟩:=g2.at_key hst (hfree j hj hnj) (by omega) (by rw [hoff.1,hbase]; omega);refine r8 (by intro cc hc; simp [aT,hc] at hp) g1 (FZ hN hO hL hg₀ hbase h0n hfin hk suf (pre++[j]) β' w' _ _ he' (by rw [hrev]; exact h1) hoff' g3 ?_ (gj (ht.mono g5) o.dst g4) ((bU a o.dst v').trans hd));intro i h2 h3;rw [g6 _ fun hh=>h3 (by rw [show i=j by omega]; simp)];exact hfree' i h2 h3
        ·have key: ∀ {u':Upd}{v:Value},dj P eK (ev gl s.1) o s.2.1=some (v,u')->u'.app s.2.1=(BM s o.dst v u).2.1->(BM s o.dst v u).1=e9 s.1 o.dst v->Jy P gl ops (co (fU ops)) base fin suf.length (j::pre.reverse) (BM s o.dst v u)=true->Off hb (BM s o.dst v u)->
           o.wpIn (fy r) n P a w (fun a' w'=>wpOpsIn (fy r) n P ops Q suf a' w') Q:=by
          intro u' v hop hu hput h1 hoff';refine Jo hN M9 hst.sim hg hρ hop _ _ fun v' w' β' hst' hv=> ?_;rw [hu] at hst';refine FZ hN hO hL hg₀ hbase h0n hfin hk suf (pre++[j]) β' w' _ _ he' (by rw [hrev]; exact h1) hoff' (hst.trans hst') (fun i h2 h3=> ?_) (by rw [hput]; exact gj (ht.mono hst'.le) o.dst hv) ((bU a o.dst v').trans hd);have hold:=hfree' i h2 h3
          cases hb':β' (base+i) with
          | none=>rfl
          | some sl=>
           rcases hst'.fresh _ sl hb' with h4 | ⟨h4,_⟩
           ·rw [hold] at h4; cases h4
           ·rw [hoff.1,hbase] at h4; omega
         split at hop
         ·next v0 hp=>
          simp only [Option.some.injEq,Prod.mk.injEq] at hop;obtain ⟨rfl,rfl⟩:=hop;exact key hp rfl rfl h1 hoff'
         ·next v0 k0 b0 hp=>
          simp only [Option.some.injEq,Prod.mk.injEq] at hop;obtain ⟨rfl,rfl⟩:=hop;exact key hp rfl rfl h1 hoff'
         ·cases hop
     ·cases hs'
    ·next hw=>
     obtain rfl:=oI hs';rw [gY ht hw];simp only [false_eq_true,if_false];refine ⟨fun _ _=>trivial,?_⟩;exact FZ hN hO hL hg₀ hbase h0n hfin hk suf (pre++[j]) β w _ _ he' (by rw [hrev]; exact h1) hoff' hst hfree' (gj ht o.dst (.undef β)) ((bU a o.dst undef).trans hd)
    ·cases hs'
   ·cases h1
end
section
variable {P:Program} {gl:Nat->Bool}
theorem Step.room {β:Inj}{h:Heap}{w:World}(hs:Sim β h w)(m:Nat):Step β h w β { h with next:=h.next+m } w:=
 ⟨β.le_refl,le_add_right _ _,⟨fun k sl hk=>⟨lt_of_lt_of_le (hs.lt k sl hk).1 (le_add_right _ _),(hs.lt k sl hk).2⟩,hs.blk,hs.own,fun k B hk=>lt_of_lt_of_le (hs.wf k B hk) (le_add_right _ _)⟩,le_refl _,rfl,.refl _,rfl,
  fun _ _ _=>rfl,fun _ _ h=>h,fun _ _ h=> .inl h,fun _ B h _=>⟨B,h⟩⟩
theorem J6 (hN:cY P){cf:bT}(hcf:CfOk P gl cf){id:Nat}{ops:Array Oper}(hO:Ordd ops (co (fU ops)))(hB:Back ops)(hC:Region.departs ops=true->(Region.linearise .gc ops 0).length=ops.size):
  im P gl cf (.region id ops true):=by
 intro id' ops' heq β tm tm' a h h' w r n Q hr hs hg ht hk
 cases heq
 refine wpIn_region_draw fun t=> ?_;have hst0:Step β h w β { h with next:=h.next+ops.size } { w with drawn:=w.drawn+1 }:=
  (Step.of_heap hs rfl rfl ⟨rfl,le_succ _⟩ rfl:Step β h w β h { w with drawn:=w.drawn+1 }).trans (Step.room (w:={ w with drawn:=w.drawn+1 }) (hs.of_heap rfl) ops.size)
 unfold CQ at hr;split at hr
 ·unfold NK at hr;split at hr
  ·next fin hfin=>
   split at hr
   ·next hall=>
    simp only [Option.some.injEq,Prod.mk.injEq] at hr;obtain ⟨rfl,rfl⟩:=hr;have hL:=oW hB hC (P.follows .mixedOrders) t;have hoff:Off { h with next:=h.next+ops.size } (tm,{ h with next:=h.next+ops.size },[]):=⟨rfl,fun _ _=>rfl⟩
    have hlen:(Region.schedule (P.follows .mixedOrders) ops t).length=ops.size:=hL.length;exact FZ hN hO hL (base:=h.next) (fin:=fin) (a₀:=a) hg rfl (le_refl _) (xq _ _ hoff hfin) hk _ [] β _ a _ rfl (by rw [hlen]; exact hall) hoff hst0 (fun i hi _=>hs.none_of_ge (by omega)) ht rfl
   ·cases hr
  ·cases hr
 have hst0:True:=trivial;obtain ⟨st,en,hR,h0,h1,h2⟩:=AW hO hr;have hL:=oW hB hC (P.follows .mixedOrders) t;have hst0:Step β h w β { h with next:=h.next+ops.size } { w with drawn:=w.drawn+1 }:=
  (Step.of_heap hs rfl rfl ⟨rfl,le_succ _⟩ rfl:Step β h w β h { w with drawn:=w.drawn+1 }).trans (Step.room (w:={ w with drawn:=w.drawn+1 }) (hs.of_heap rfl) ops.size)
 refine BQ (β₀:=β) (h:=h) (w₀:=w) (a₀:=a) hN hcf hO hR (by rw [h0]) hL hg ?_ _ [] β _ a 0 [] rfl ⟨Nat.zero_le _,?_,?_,?_,?_,?_,?_,?_,rfl⟩
 ·intro a' w' β' h3 h4 h5;exact hk a' w' β' (by rw [h2]; exact h3) (by rw [<-h1]; exact h4) h5
 ·intro e _ _; simp
 ·intro i B; simp
 ·rw [h0]; exact hst0
 ·rw [h0]; exact le_refl _
 ·intro i B hi hb;rw [h0] at hb;have:h.get (h.next+i)=some B:=hb;have:=hs.wf _ _ this;omega
 ·intro i hi _ _;exact hs.none_of_ge (by omega)
 ·rw [h0];refine ⟨by rw [ht.1,length_toList],fun t v' hv=>⟨fun i o hi=>by simp at hi,fun _ v h3=> ?_⟩⟩;exact ht.2 t v v' h3 (by rw [getElem?_toList]; exact hv)
theorem BE (g:Nat->Nat)(i:Nat): ∀ (es:List Edge)(s:Nat),(es.foldl (fun s e=>if Region.binds .any e then s ||| 2 ^ e.on ||| g e.on else s) s).testBit i=true↔
  s.testBit i=true\/ ∃ e∈es,Region.binds .any e=true/\(e.on=i\/(g e.on).testBit i=true)
 | [],s=>by simp
 | e::es,s=>by
  rw [foldl_cons,BE g i es]
  cases hb:Region.binds .any e with
  | false=>
   simp only [false_eq_true,if_false];constructor
   ·rintro (h | ⟨e',h1,h2⟩)
    ·exact .inl h
    ·exact .inr ⟨e',mem_cons_of_mem _ h1,h2⟩
   ·rintro (h | ⟨e',h1,h2,h3⟩)
    ·exact .inl h
    ·rcases mem_cons.1 h1 with rfl | h1
     ·rw [hb] at h2; cases h2
     ·exact .inr ⟨e',h1,h2,h3⟩
  | true=>
   simp only [if_true,Nat.testBit_or,or_eq_true,Nat.testBit_two_pow,decide_eq_true_eq];constructor
   ·rintro (((h | h) | h) | ⟨e',h1,h2⟩)
    ·exact .inl h
    ·exact .inr ⟨e,mem_cons_self,hb,.inl h⟩
    ·exact .inr ⟨e,mem_cons_self,hb,.inr h⟩
    ·exact .inr ⟨e',mem_cons_of_mem _ h1,h2⟩
   ·rintro (h | ⟨e',h1,h2,h3⟩)
    ·exact .inl (.inl (.inl h))
    ·rcases mem_cons.1 h1 with rfl | h1
     ·rcases h3 with h3 | h3
      ·exact .inl (.inl (.inr h3))
      ·exact .inl (.inr h3)
     ·exact .inr ⟨e',h1,h2,h3⟩
def m8 (acc:Array Nat)(o:Oper):Nat:=o.after.foldl (fun s e=>if Region.binds .any e then s ||| 2 ^ e.on ||| acc.getD e.on 0 else s) 0
theorem xM: ∀ (l:List Oper)(acc:Array Nat),(l.foldl (fun acc o=>acc.push (m8 acc o)) acc).size=acc.size+l.length/\
  (∀ i,i < acc.size->(l.foldl (fun acc o=>acc.push (m8 acc o)) acc)[i]?=acc[i]?)/\
  ∀ i o,l[i]?=some o-> ∃ acc',(l.foldl (fun acc o=>acc.push (m8 acc o)) acc)[acc.size+i]?=some (m8 acc' o)/\ ∀ k,k < acc.size+i->acc'[k]?=(l.foldl (fun acc o=>acc.push (m8 acc o)) acc)[k]?
 | [],acc=>⟨by simp,fun _ _=>rfl,fun i o h=>by simp at h⟩
 | o::l,acc=>by
  obtain ⟨h1,h2,h3⟩:=xM l (acc.push (m8 acc o));simp only [Array.size_push] at h1 h2 h3;refine ⟨by rw [foldl_cons,h1,length_cons]; omega,fun i hi=> ?_,fun i o' ho=> ?_⟩
  ·rw [foldl_cons,h2 i (by omega),Array.getElem?_push,if_neg (by omega)]
  ·rw [foldl_cons]
   cases i with
   | zero=>
    simp only [getElem?_cons_zero,Option.some.injEq] at ho;subst ho;refine ⟨acc,?_,fun k hk=> ?_⟩
    ·rw [Nat.add_zero,h2 _ (by omega),Array.getElem?_push,if_pos rfl]
    ·rw [h2 k (by omega),Array.getElem?_push,if_neg (by omega)]
   | succ i=>
    obtain ⟨acc',h4,h5⟩:=h3 i o' (by simpa using ho);refine ⟨acc',?_,fun k hk=>h5 k (by omega)⟩;rw [show acc.size+(i+1)=acc.size+1+i by omega]; exact h4
theorem Hb (ops:Array Oper):Region.before ops=ops.toList.foldl (fun acc o=>acc.push (m8 acc o)) #[]:=by
 unfold Region.before;rw [<-Array.foldl_toList]; rfl
theorem MO {ops:Array Oper}(hB:Back ops)(j i:Nat):co (fU ops) j i=true↔ ∃ o,ops[j]?=some o/\ ∃ e∈o.after,Region.binds .any e=true/\(e.on=i\/co (fU ops) e.on i=true):=by
 have hg: ∀ k,(fU ops).getD k 0=(Region.before ops).getD k 0:=fun k=>by simp [fU,List.getD,Array.getD_eq_getD_getElem?]
 obtain ⟨h1,_,h3⟩:=xM ops.toList #[];rw [<-Hb] at h1 h3;simp only [List.size_toArray,length_nil,zero_add,getElem?_toList,length_toList] at h1 h3
 cases ho:ops[j]? with
 | none=>
  simp only [co,hg];have hn: ¬ j < ops.size:=fun hj=>by rw [getElem?_eq_getElem hj] at ho; cases ho
  rw [Array.getD_eq_getD_getElem?,Array.getElem?_eq_none (by omega)];simp
 | some o=>
  obtain ⟨acc',h4,h5⟩:=h3 j o ho;simp only [co,hg];rw [Array.getD_eq_getD_getElem?,h4,Option.getD_some,m8,<-Array.foldl_toList,BE (fun k=>acc'.getD k 0)];simp only [Nat.zero_testBit,false_eq_true,false_or,Option.some.injEq,exists_eq_left',Array.mem_toList_iff];constructor
  ·rintro ⟨e,he,hb,hh⟩;refine ⟨e,he,hb,hh.imp id fun hh=> ?_⟩;have hlt:e.on < j:=by
    rcases hB j o ho e he with h | ⟨h,_⟩
    ·exact h
    ·rw [h] at hb; cases hb
   rw [Array.getD_eq_getD_getElem?,h5 _ hlt,<-Array.getD_eq_getD_getElem?] at hh;exact hh
  ·rintro ⟨e,he,hb,hh⟩;refine ⟨e,he,hb,hh.imp id fun hh=> ?_⟩;have hlt:e.on < j:=by
    rcases hB j o ho e he with h | ⟨h,_⟩
    ·exact h
    ·rw [h] at hb; cases hb
   rw [Array.getD_eq_getD_getElem?,h5 _ hlt,<-Array.getD_eq_getD_getElem?];exact hh
theorem Back.lt {ops:Array Oper}(hB:Back ops){j:Nat}{o:Oper}(ho:ops[j]?=some o){e:Edge}(he:e∈o.after)(hb:Region.binds .any e=true):e.on < j:=by
 rcases hB j o ho e he with h | ⟨h,_⟩
 ·exact h
 ·rw [h] at hb; cases hb
theorem rg: ∀ (l:List Oper)(j:Nat),z6 l j=true-> ∀ i o,l[i]?=some o-> ∀ e∈o.after,e.on < j+i\/Region.binds .any e=false/\Region.binds .text e=false
 | [],_,_,i,o,ho,_,_=>by simp at ho
 | o'::l,j,h,i,o,ho,e,he=>by
  simp only [z6,and_eq_true] at h
  cases i with
  | zero=>
   simp only [getElem?_cons_zero,Option.some.injEq] at ho;subst ho;have:=all_eq_true.1 h.1 e (by simpa using he);simpa using this
  | succ i=>
   have:=rg l (j+1) h.2 i o (by simpa using ho) e he;rw [show j+(i+1)=j+1+i by omega]; exact this
theorem mU {bs:List Nat}{j:Nat}{t:Tmp}: ∀ (l:List Oper)(k:Nat),nE bs j t l k=true-> ∀ i o,l[i]?=some o->o.dst=some t->k+i=j\/co bs j (k+i)=true\/co bs (k+i) j=true
 | [],_,_,i,o,ho,_=>by simp at ho
 | o'::l,k,h,i,o,ho,hd=>by
  simp only [nE,and_eq_true] at h
  cases i with
  | zero=>
   simp only [getElem?_cons_zero,Option.some.injEq] at ho;subst ho;have h1:=h.1;rw [hd] at h1;simpa [or_assoc] using h1
  | succ i=>
   have:=mU l (k+1) h.2 i o (by simpa using ho) hd;rw [show k+(i+1)=k+1+i by omega]; exact this
theorem ll {bs:List Nat}{all:List Oper}: ∀ (l:List Oper)(k:Nat),zH bs all l k=true-> ∀ i o,l[i]?=some o->
  (∀ t,Operand.tmp t∈o.op.operands->nE bs (k+i) t all 0=true)/\ ∀ g b,o.guard=some (g,b)->co bs (k+i) g=true
 | [],_,_,i,o,ho=>by simp at ho
 | o'::l,k,h,i,o,ho=>by
  simp only [zH,and_eq_true] at h
  cases i with
  | zero=>
   simp only [getElem?_cons_zero,Option.some.injEq] at ho;subst ho;refine ⟨fun t ht=> ?_,fun g b hg=> ?_⟩
   ·exact all_eq_true.1 h.1.1 (.tmp t) (by simpa using ht)
   ·have h1:=h.1.2;rw [hg] at h1;exact h1
  | succ i=>
   have:=ll l (k+1) h.2 i o (by simpa using ho);rw [show k+(i+1)=k+1+i by omega]; exact this
theorem ls: ∀ (l:List Oper)(m:Nat),sr l m=true->(∀ (i:Nat)(o:Oper)(t:Tmp),l[i]?=some o->o.dst=some t->m.testBit t=false)/\
  ∀ (i j:Nat)(o o':Oper)(t:Tmp),l[i]?=some o->l[j]?=some o'->o.dst=some t->o'.dst=some t->i=j
 | [],_,_=>⟨fun i o t h=>by simp at h,fun i j o o' t h=>by simp at h⟩
 | x::l,m,h=>by
  cases hd:x.dst with
  | none=>
   simp only [sr,hd] at h;obtain ⟨h1,h2⟩:=ls l m h;refine ⟨fun i o t ho ht=> ?_,fun i j o o' t ho ho' ht ht'=> ?_⟩
   ·cases i with
    | zero=>
     simp only [getElem?_cons_zero,Option.some.injEq] at ho;subst ho; rw [hd] at ht; cases ht
    | succ i=>exact h1 i o t (by simpa using ho) ht
   ·cases i with
    | zero=>
     simp only [getElem?_cons_zero,Option.some.injEq] at ho;subst ho; rw [hd] at ht; cases ht
    | succ i=>
     cases j with
     | zero=>
      simp only [getElem?_cons_zero,Option.some.injEq] at ho';subst ho'; rw [hd] at ht'; cases ht'
     | succ j=>rw [h2 i j o o' t (by simpa using ho) (by simpa using ho') ht ht']
  | some d=>
   simp only [sr,hd,and_eq_true,not_eq_true'] at h;obtain ⟨h1,h2⟩:=ls l _ h.2;have h1': ∀ (i:Nat)(o:Oper)(t:Tmp),l[i]?=some o->o.dst=some t->m.testBit t=false/\d≠t:=fun i o t ho ht=>by
    have:=h1 i o t ho ht;simp only [Nat.testBit_or,Bool.or_eq_false_iff,Nat.testBit_two_pow,decide_eq_false_iff_not] at this;exact this
   refine ⟨fun i o t ho ht=> ?_,fun i j o o' t ho ho' ht ht'=> ?_⟩
   ·cases i with
    | zero=>
     simp only [getElem?_cons_zero,Option.some.injEq] at ho;subst ho; rw [hd] at ht;obtain rfl:=oI ht;exact h.1
    | succ i=>exact (h1' i o t (by simpa using ho) ht).1
   ·cases i with
    | zero=>
     simp only [getElem?_cons_zero,Option.some.injEq] at ho;subst ho; rw [hd] at ht;obtain rfl:=oI ht
     cases j with
     | zero=>rfl
     | succ j=>exact absurd rfl (h1' j o' _ (by simpa using ho') ht').2
    | succ i=>
     cases j with
     | zero=>
      simp only [getElem?_cons_zero,Option.some.injEq] at ho';subst ho'; rw [hd] at ht';obtain rfl:=oI ht';exact absurd rfl (h1' i o _ (by simpa using ho) ht).2
     | succ j=>rw [h2 i j o o' t (by simpa using ho) (by simpa using ho') ht ht']
theorem zI {ops:Array Oper}(h:D8 ops=true):Ordd ops (co (fU ops))/\Back ops/\(Region.departs ops=true->(Region.linearise .gc ops 0).length=ops.size):=by
 simp only [D8,and_eq_true] at h;obtain ⟨⟨⟨h1,h2⟩,h3⟩,h4⟩:=h;have hB:Back ops:=fun i o ho e he=>by
  have:=rg ops.toList 0 h1 i o (by simpa using ho) e he;rwa [zero_add] at this
 have hbi:=MO hB;have hlt: ∀ j i,co (fU ops) j i=true->i < j:=by
  intro j
  induction j using Nat.strongRecOn with
  | _ j ih=>
   intro i hb;obtain ⟨o,ho,e,he,hbe,hh⟩:=(hbi j i).1 hb;have:=hB.lt ho he hbe;rcases hh with hh | hh
   ·omega
   ·have:=ih _ this i hh; omega
 refine ⟨⟨hlt,?_,?_,?_,?_,?_⟩,hB,?_⟩
 ·intro k
  induction k using Nat.strongRecOn with
  | _ k ih=>
   intro j i h5 h6;obtain ⟨o,ho,e,he,hbe,hh⟩:=(hbi k j).1 h5;refine (hbi k i).2 ⟨o,ho,e,he,hbe,.inr ?_⟩;rcases hh with rfl | hh
   ·exact h6
   ·exact ih _ (hB.lt ho he hbe) j i hh h6
 ·intro L hL pre j
  induction j using Nat.strongRecOn generalizing pre with
  | _ j ih=>
   intro suf heq i hb;obtain ⟨o,ho,e,he,hbe,hh⟩:=(hbi j i).1 hb;have hm:=hL.deps pre j suf heq o ho e he hbe;rcases hh with rfl | hh
   ·exact hm
   ·obtain ⟨p1,p2,rfl⟩:=List.append_of_mem hm;exact mem_append_left _ (ih _ (hB.lt ho he hbe) p1 (p2++j::suf) (by rw [heq]; simp) i hh)
 ·intro j o t ho ht i o' ho' hd;have h5:=(ll ops.toList 0 h4 j o (by simpa using ho)).1 t ht;rw [zero_add] at h5;have:=mU ops.toList 0 h5 i o' (by simpa using ho') hd;rwa [zero_add] at this
 ·intro j o i b ho hg;have h5:=(ll ops.toList 0 h4 j o (by simpa using ho)).2 i b hg;rwa [zero_add] at h5
 ·intro i j o o' t ho ho' ht ht';exact (ls ops.toList 0 h2).2 i j o o' t (by simpa using ho) (by simpa using ho') ht ht'
 ·intro hd;simp only [hd,Bool.not_true,Bool.false_or,beq_iff_eq] at h3;exact h3
theorem mo (hN:cY P){cf:bT}(hcf:CfOk P gl cf): ∀ {d c:Code},Part d c->bg c=true->im P gl cf d:=by
 have key: ∀ c,bg c=true->im P gl cf c:=by
  intro c h id ops heq;subst heq;obtain ⟨h1,h2,h3⟩:=zI h;exact J6 hN hcf h1 h2 h3 id ops rfl
 intro d c hp
 induction hp with
 | refl=>exact key _
 | seqL _ ih=>intro h; simp only [bg,and_eq_true] at h; exact ih h.1
 | seqR _ ih=>intro h; simp only [bg,and_eq_true] at h; exact ih h.2
 | condT _ ih=>intro h; simp only [bg,and_eq_true] at h; exact ih h.1
 | condF _ ih=>intro h; simp only [bg,and_eq_true] at h; exact ih h.2
 | block _ ih=>intro h; simp only [bg] at h; exact ih h
 | loop _ ih=>intro h; simp only [bg] at h; exact ih h
theorem mj (hN:cY P):yT P gl:=fun _ hcf _ _ hp h=>mo hN hcf hp h
def dg (fn:Func):Bool:=match fn.body with | some c=>bg c | none=>true
theorem BT (hN:cY P)(h: ∀ (f:FuncId) (fn:Func),P.funcs[f]?=some fn->dg fn=true):Cs P gl:=fun cf hcf f fn c d hf hb hp=>by
 have:=h f fn hf;simp only [dg,hb] at this;exact mo hN hcf hp this
end
section
theorem uH {P:Program}{cf:bT}{ρ:Operand->Value}{o:Oper}{h:Heap}(hc:aO o=false):dj P eK ρ o h=dj P cf ρ o h:=by
 obtain ⟨dst,op,ty,pos,after,guard⟩:=o
 cases op <;> try rfl
 rename_i c;obtain ⟨callee,args,ats⟩:=c
 cases callee with
 | value f=>simp [aO] at hc
 | invoke r m=>rfl
 | builtin b=>cases b <;> rfl
theorem D4 {P:Program}{cf:bT}{ρ:Operand->Value}{o:Oper}{h:Heap}(hc:aO o=false):bP P eK ρ o h=bP P cf ρ o h:=by
 unfold bP;rw [uH hc]
variable {cf:bT} {ρ:Operand->Value} {h:Heap} {K:Value->Heap->Bool} {dst:Option Tmp} {ty:TypeId} {pos:String} {after:Array Edge} {guard:Option (Nat×Bool)}
end
section
variable {β:Inj} {P:Program} {gl:Nat->Bool}
theorem pm {f:FuncId}{fn:Func}{e:Array Value->Sem Value}{p:oz}(hf:P.funcs[f]?=some fn)(hname:(fn.name == "runtime.NumGoroutine")=false) (hb:fn.body.isNone=true) (hn:Extern.findNext fn=none) (he:Extern.find fn=some e)
  (h: ∀ cf args h v h',p cf args h=some (v,h')-> ∀ β w (args':Array Value),Sim β h w->LRel β args args'.toList-> ∃ v' w' β',(e args').run P w = .ok v' w'/\Step β h w β' h' w'/\VRel β' v v'):jt P gl f p:=by
 intro cf _ args hh v h' hp β w args' hs _ ha;obtain ⟨v',w',β',h1,h2,h3⟩:=h cf args hh v h' hp β w args' hs ha;refine ⟨fn,hf,.inr ⟨v',w',β',?_,h2,h3⟩⟩;rw [run_callFunc_extern hf hname hb hn he,h1];rfl
def kX:oz:=fun _ args h=>match args with
 | [v]=>some (v,h)
 | _=>none
theorem AQ {f:FuncId}{fn:Func}(hf:P.funcs[f]?=some fn)(hname:(fn.name == "runtime.NumGoroutine")=false) (hb:fn.body.isNone=true) (hn:Extern.findNext fn=none) (he:Extern.find fn=some Extern.AbiNoEscape.same):jt P gl f kX:=by
 refine pm hf hname hb hn he fun cf args h v h' hp β w args' hs ha=> ?_;unfold kX at hp;split at hp
 ·next u=>
  simp only [Option.some.injEq,Prod.mk.injEq] at hp;obtain ⟨rfl,rfl⟩:=hp;obtain ⟨u',r,hr,hv,hn⟩:=ha.inv_cons;obtain rfl:=hn.inv_nil;obtain rfl:args' = #[u']:=by
   have:=congrArg List.toArray hr;simpa using this
  exact ⟨u',w,β,rfl,Step.refl hs,hv⟩
 ·cases hp
noncomputable def nG (c:Nat):List UInt8->Nat->Int
 | [],_=> -1
 | b::l,i=>if b.toNat=c then i else nG c l (i+1)
noncomputable def jH:oz:=fun _ args h=>match args with
 | [.string s,.int .u8 c]=>if 0<=c/\c < 256 then some (.int .i64 (nG c.toNat s.data.toList 0),h) else none
 | _=>none
theorem Hh (s:ByteArray)(c:Nat)(hc:c < 256):nG c s.data.toList 0=firstIdx s c.toUInt8:=by
 have key: ∀ (l:List UInt8)(i:Nat),s.data.toList.drop i=l->nG c l i=match (List.range' i l.length).find? fun j=>s[j]! == c.toUInt8 with | some j=>(j:Int) | none=> -1:=by
  intro l
  induction l with
  | nil=>intro i _; rfl
  | cons b l ih=>
   intro i hi;have hlt:i < s.data.toList.length:=by
    rcases lt_or_ge i s.data.toList.length with h | h
    ·exact h
    ·rw [List.drop_eq_nil_of_le h] at hi; cases hi
   have hb:s[i]! = b:=by
    have h0:s.data.toList[i]?=some b:=by
     have:(s.data.toList.drop i)[0]?=some b:=by rw [hi]; rfl
     rw [getElem?_drop] at this; simpa using this
    have hsz:i < s.size:=by simpa using hlt
    rw [getElem!_pos s i hsz];have:s.data[i]?=some b:=by rw [<-getElem?_toList]; exact h0
    rw [getElem?_eq_getElem (by simpa using hlt)] at this;exact oI this
   have hd:s.data.toList.drop (i+1)=l:=by rw [<-drop_drop,hi]; rfl
   simp only [nG,length_cons,range'_succ,List.find?_cons,hb];by_cases hbc:b.toNat=c
   ·have:(b == c.toUInt8)=true:=by
     rw [beq_iff_eq,<-UInt8.toNat_inj]; simp [hbc]; omega
    rw [if_pos hbc,this]
   ·have:(b == c.toUInt8)=false:=by
     rw [beq_eq_false_iff_ne]; rintro rfl; apply hbc; simp; omega
    rw [if_neg hbc,this];exact ih (i+1) hd
 rw [key s.data.toList 0 rfl];unfold firstIdx;rw [List.range_eq_range',show s.data.toList.length=s.size by simp];generalize List.find? (fun i=>s[i]! == c.toUInt8) (List.range' 0 s.size)=x
 cases x <;> rfl
theorem Ax {f:FuncId}{fn:Func}(hf:P.funcs[f]?=some fn)(hname:(fn.name == "runtime.NumGoroutine")=false) (hb:fn.body.isNone=true) (hn:Extern.findNext fn=none) (he:Extern.find fn=some Extern.BytealgIndexByte.indexByte):jt P gl f jH:=by
 refine pm hf hname hb hn he fun cf args h v h' hp β w args' hs ha=> ?_;unfold jH at hp;split at hp
 ·next s c=>
  split at hp
  ·next hc=>
   simp only [Option.some.injEq,Prod.mk.injEq] at hp;obtain ⟨rfl,rfl⟩:=hp;obtain ⟨u',r,hr,hv,hn⟩:=ha.inv_cons;obtain ⟨x',r',rfl,hx,hn'⟩:=hn.inv_cons;obtain rfl:=hn'.inv_nil;obtain rfl:=hv.inv_string;obtain rfl:=hx.inv_int;obtain rfl:args' = #[.string s,.int .u8 c]:=by
    have:=congrArg List.toArray hr;simpa using this
   refine ⟨_,w,β,run_indexByte_string s c w,Step.refl hs,?_⟩;rw [Hh s c.toNat (by omega)];exact .int _ _
  ·cases hp
 ·cases hp
def β0:Inj:=fun _=>none
def zv:Nat->Bool:=fun _=>false
theorem Heap.get_nil (n k:Nat):(⟨n,.nil⟩:Heap).get k=none:=HT.get_nil _
theorem Aj (n:Nat)(w:World):Sim β0 ⟨n,.nil⟩ w:=
 {
  lt:=fun k sl h=>nomatch h
  blk:=fun k B sl h=>by rw [Heap.get_nil] at h; cases h
  own:=fun k k' B B' sl sl' _ h=>by rw [Heap.get_nil] at h; cases h
  wf:=fun k B h=>by rw [Heap.get_nil] at h; cases h }
theorem gl_nil:Gl zv β0:=fun g h=>by cases h
open Go.RowKit in
theorem py {n:Nat}{w w':World}{β':Inj}{h':Heap}(s:Step β0 ⟨n,.nil⟩ w β' h' w'):Below w.heap.size w w':=
 ⟨s.os,s.tape.1,s.output,s.size,fun k hk=>s.kept k hk fun ⟨k,B,sl,h1,_⟩=>by rw [Heap.get_nil] at h1; cases h1⟩
end
end Go.Ab
end
section
namespace Go.Ab
open Go Go.RowKit
section
variable {β:Inj} {P:Program} {gl:Nat->Bool}
theorem pk {h:Heap}{w w':World}(hs:Sim β h w)(hb:Below w.heap.size w w')(hd:w.drawn<=w'.drawn):Step β h w β h w':=
 {
  le:=β.le_refl,next:=le_refl _
  sim:={ lt:=fun k sl hk=>⟨(hs.lt k sl hk).1,lt_of_lt_of_le (hs.lt k sl hk).2 hb.size⟩,blk:=fun k B sl h1 h2=>(hs.blk k B sl h1 h2).of_heap (hb.block _ (hs.lt k sl h2).2),own:=hs.own,wf:=hs.wf }
  size:=hb.size,os:=hb.os,tape:=⟨hb.tape,hd⟩,output:=hb.output
  kept:=fun b h1 _=>hb.block b h1
  back:=fun _ _ h=>h,fresh:=fun _ _ h=> .inl h,keys:=fun _ B h _=>⟨B,h⟩ }
theorem LRel.of_bares {β:Inj}{l:List Value}(h:l.all pL=true):LRel β l l:=by
 induction l with
 | nil=>exact .nil β
 | cons v l ih=>
  simp only [all_cons,and_eq_true] at h;exact .cons (.of_bare h.1) (ih h.2)
theorem VRel.bare_eq {β:Inj}{v v':Value}(hv:pL v=true)(h:VRel β v v'):v'=v:=by
 cases h <;> first | rfl | (simp [pL] at hv)
end
section
variable {β:Inj} {P:Program} {gl:Nat->Bool}
noncomputable def zi (P:Program)(gl:Nat->Bool)(fn:Func)(r0 rest:Code)(d:Tmp):oz:=fun cf args h=>
 match aU P gl cf 40 r0 (args++List.replicate (fn.ntmps - args.length) undef) h with
 | some (.normal,tm,h1)=>if d < tm.length then
   match aU P gl cf 40 rest (tm.set d junk) h1 with
   | some (.ret,tm',h')=>(bK P tm' h' fn.results.toList).map fun vs=>(ce vs,h')
   | _=>none
  else none
 | _=>none
theorem rS {n:Nat}{f:FuncId}{fn:Func}{c:Code}{args:Array Value}{u:FrameMode}{w:World}{Bool:Ending->FrameMode->World->Prop}(hf:P.funcs[f]?=some fn)(hb:fn.body=some c)
  (h: ∀ (c₀:Frame)(cs:List Frame),c₀.mode=u->c.wpS P (bodyPostS P fn c₀ cs Bool) { tmps:=args++Array.replicate (fn.ntmps - args.size) undef,defers:=[] } (c₀::cs) w):CallsDIn Fence.wide n P f args u w Bool:=by
 refine ⟨trivial,fun c₀ cs hu _=> ?_⟩;have hin:Frame.enter P f args .deferred=({ (default:Frame) with fn:=f,kind:= .deferred }:Frame).at { tmps:=args++Array.replicate (fn.ntmps - args.size) undef,defers:=[] } [.code c]:=by
  simp [Frame.enter,Frame.at,hf,hb]
 obtain ⟨e,a',cs',w',hq,harr⟩:=h c₀ cs hu { (default:Frame) with fn:=f,kind:= .deferred } [] rfl rfl;rw [<-hin] at harr;rcases e with _ | _ | _ | _ | chain | _
 ·obtain ⟨hd,u',rfl,v,hr,hR⟩:=hq;exact ⟨.returned v,u',w',_,hR,comesIn_wide.2 (Steps.trans harr (.one step_end)),rfl,rfl,rfl,hd,fn,hf,hr⟩
 ·exact hq.elim
 ·exact hq.elim
 ·obtain ⟨hd,u',rfl,v,hr,hR⟩:=hq;obtain ⟨todo,hs⟩:=harr;exact ⟨.returned v,u',w',_,hR,comesIn_wide.2 hs,rfl,rfl,rfl,hd,fn,hf,hr⟩
 ·obtain ⟨hd,u',rfl,hR⟩:=hq;obtain ⟨todo,hs⟩:=harr;exact ⟨.panicked chain,u',w',_,hR,comesIn_wide.2 hs,rfl,rfl,rfl,hd,fn,hf⟩
 ·obtain ⟨u',hR⟩:=hq;exact ⟨.outgrown,u',w',{ (default:Frame) with fn:=f,kind:= .deferred },hR,comesIn_wide.2 (harr.resolve_left (by simp)),rfl,rfl,trivial⟩
theorem jX {F:Fence}{n:Nat}{fn:Func}{β₀ β':Inj}{h₀ h':Heap}{w₀:World}{tmps:Array Value}{Bool:Ending->World->Prop}{tl:List Deferred}:
  ∀ (ms:List Nat)(w':World),ms.Nodup->(∀ b∈ms,w₀.heap.size<=b/\w'.heap[b]?=some (.deferred (some [])))->Step β₀ h₀ w₀ β' h' w'->
   (∀ w'',Step β₀ h₀ w₀ β' h' w''->(∀ b,b ∉ ms->w''.heap[b]?=w'.heap[b]?)->LeavesInM F n P fn tmps Bool tl .returning w'')->LeavesInM F n P fn tmps Bool (ms.map Ak++tl) .returning w'
 | [],w',_,_,st,hk=>hk w' st fun _ _=>rfl
 | b::ms,w',hn,hb,st,hk=>by
  obtain ⟨h1,h2⟩:=hb b (by simp);obtain ⟨hn1,hn2⟩:=List.nodup_cons.1 hn;refine ⟨by simp,.inl ⟨b,_,rfl,run_takeDeferred h2,?_⟩⟩;refine jX ms _ hn2 (fun b' hm=> ?_) (yn st h1 h2) fun w'' st' hsame=>hk w'' st' fun b' hb'=> ?_
  ·obtain ⟨h3,h4⟩:=hb b' (by simp [hm]);exact ⟨h3,by rw [World.putObj_heap_other (by rintro rfl; exact hn1 hm)]; exact h4⟩
  ·simp only [mem_cons,not_or] at hb';rw [hsame b' hb'.2,World.putObj_heap_other hb'.1]
theorem Kw (hN:cY P){fW fC:FuncId}{fn fnC:Func}{r0 rest:Code}{i1:Nat}{mk df:Oper}{d:Tmp}{cap:Array Operand}
  (hf:P.funcs[fW]?=some fn) (hb:fn.body=some (.seq r0 (.seq (.region i1 #[mk,df] false) rest)))
  (hmk:mk.op = .makeFunc (.func fC) #[] cap) (hmd:mk.dst=some d) (hmg:mk.guard=none) (hdf:df.op = .defer { callee:= .value (.tmp d),args:= #[],argTypes:= #[] }) (hdg:df.guard=none) (hdd:df.dst=none)
  (hfC:P.funcs[fC]?=some fnC) (hbC:fnC.body.isSome=true)
  (hidle: ∀ (args:Array Value)(w:World),args.size=cap.size->CallsDIn Fence.wide 0 P fC args .returning w fun e u' w'=>(∃ v,e = .returned v)/\u' = .returning/\Below w.heap.size w w'/\w.drawn<=w'.drawn)
  (hd0:bg r0=true) (hd1:bg rest=true):jt P gl fW (zi P gl fn r0 rest d):=by
 intro cf hcf args h v h' hp β w args' hs hg ha;refine ⟨fn,hf,.inl ⟨by simp [hb],?_⟩⟩;unfold zi at hp;split at hp
 ·next tm h1 hr0=>
  split at hp
  ·next hlt=>
   split at hp
   ·next tm2 h2 hrest=>
    obtain ⟨vs,hres,he⟩:=map_eq_some_iff.1 hp;simp only [Prod.mk.injEq] at he;obtain ⟨rfl,rfl⟩:=he;refine (callsIn_wide (n:=0)).1 (callsIn_of_wp_marks (F:=Fence.wide) hf hb trivial ?_);have hrep: ∀ k,LRel β (List.replicate k undef) (List.replicate k undef):=fun k=>⟨rfl,fun i v v' h1 h2=>by
     rw [getElem?_replicate] at h1 h2;split at h1
     ·next hi=>rw [if_pos hi] at h2; obtain rfl:=oI h1; obtain rfl:=oI h2; exact .undef β
     ·cases h1⟩
    have ht:LRel β (args++List.replicate (fn.ntmps - args.length) undef) (args'++Array.replicate (fn.ntmps - args'.size) undef).toList:=by
     have:args'.size=args.length:=by rw [ha.1]; simp
     rw [this];simp only [Array.toList_append,Array.toList_replicate];exact ha.append (hrep _)
    refine wpIn_seq ?_;refine qp (r:=none) hN hcf r0 (.inl rfl) (fS (mj hN _ hcf) hd0) _ hr0 hs hg ht fun a1 w1 β1 hst1 ht1 hm1=> ?_;refine wpIn_seq (wpIn_region ?_);have hsz:d < a1.tmps.size:=by have:=ht1.1; rw [<-length_toList,<-this]; exact hlt
    have hev:(a1.put (some d) (.func (.func fC) #[] (cap.map a1.eval))).eval (.tmp d) = .func (.func fC) #[] (cap.map a1.eval):=by
     simp [Act.put,Act.eval,hsz]
    have hw1:Region.wanted mk (yielded #[mk,df] a1.tmps)=true:=by simp [Region.wanted,hmg]
    have hw2: ∀ t,Region.wanted df (yielded #[mk,df] t)=true:=fun t=>by simp [Region.wanted,hdg]
    show wpOpsIn (fy none) 0 P #[mk,df] _ [0,1] a1 w1;simp only [wpOpsIn,List.getElem?_toArray,getElem?_cons_zero,List.getElem?_cons_succ,hw1,if_true];refine ⟨fun _ _=>trivial,?_⟩;rw [Oper.semAt_eq _ _ _ (fun c hc=>by rw [hmk] at hc; cases hc)];have hrun1:(execOp a1.eval mk).run P w1 = .ok (.value (.func (.func fC) #[] (cap.map a1.eval))) w1:=by
     unfold execOp;simp [hmk,Instr.makeFunc]
    rw [hrun1];rw [Oper.uponIn_value];rw [hmd,if_pos (hw2 _)];refine ⟨fun _ _=>trivial,?_⟩;have hrun2:(df.semAt (fy none).round (a1.put (some d) (.func (.func fC) #[] (cap.map a1.eval))).eval).run P w1 = .ok (.defer { target:= .fn (.func fC) (cap.map a1.eval),args:= #[] }) w1:=by
     show (execOp (a1.put (some d) (.func (.func fC) #[] (cap.map a1.eval))).eval df).run P w1=_;unfold execOp;simp only [hdf,resolve,hev,Deferred.ofValue,Sem.run_bind,Sem.run_pure,Result.andThen_ok];simp
    rw [hrun2];show Code.wpIn (fy none) 0 P rest _ ({ (a1.put (some d) (.func (.func fC) #[] (cap.map a1.eval))) with defers:={ target:= .fn (.func fC) (cap.map a1.eval),args:= #[] }::(a1.put (some d) (.func (.func fC) #[] (cap.map a1.eval))).defers }.put df.dst undef) w1;rw [hdd];have ht1':LRel β1 (tm.set d junk) (a1.put (some d) (.func (.func fC) #[] (cap.map a1.eval))).tmps.toList:=by
     have:=gj ht1 (some d) (v:=junk) (.junk (.func (.func fC) #[] (cap.map a1.eval)));exact this
    refine qp (r:=none) hN hcf rest (.inl rfl) (fS (mj hN _ hcf) hd1) _ hrest hst1.sim (hg.mono hst1.le) (a:={ (a1.put (some d) (.func (.func fC) #[] (cap.map a1.eval))) with defers:=_ }) ht1' fun a2 w2 β2 hst2 ht2 hm2=> ?_;have hst12:=hst1.trans hst2;obtain ⟨ms1,hd1',hn1,hb1⟩:=hm1;obtain ⟨ms2,hd2',hn2,hb2⟩:=hm2;simp only [append_nil] at hd1';have hdd2:a2.defers=ms2.map Ak++({ target:= .fn (.func fC) (cap.map a1.eval),args:= #[] }::ms1.map Ak):=by
     rw [hd2'];show _++(_::(a1.put (some d) _).defers)=_;rw [bU,hd1']
    show LeavesInM Fence.wide 0 P fn a2.tmps (kD β h w (ce vs) h2) a2.defers .returning w2;rw [hdd2];refine jX ms2 w2 hn2 (fun b hm=>⟨le_trans hst1.size (hb2 b hm).1,(hb2 b hm).2.2.1⟩) hst12 fun w3 hst3 hsame=> ?_;refine ⟨by simp,.inr ⟨fun hd=>by simp [Fence.wide] at hd,.func fC,cap.map a1.eval,fC,#[]++cap.map a1.eval,rfl,cT hN hfC hbC _ _,fun _ _=>trivial,?_⟩⟩;refine (hidle (#[]++cap.map a1.eval) w3 (by simp)).mono ?_;rintro e u' w4 ⟨⟨v,rfl⟩,rfl,hbelow,hdr⟩;show LeavesInM Fence.wide 0 P fn a2.tmps (kD β h w (ce vs) h2) (ms1.map Ak) .returning w4;refine lJ (P:=P) hres ht2 ms1 w4 hn1 (fun b hm=>⟨(hb1 b hm).1,?_⟩) (hst3.trans (pk hst3.sim hbelow hdr));obtain ⟨h4,h5,h6,h7⟩:=hb1 b hm;have hlt2:b < w2.heap.size:=lt_of_lt_of_le h5 hst2.size;have hnot:b ∉ ms2:=fun hmem=>by have:=(hb2 b hmem).1; omega
    have h8:w2.heap[b]?=some (.deferred (some [])):=(hst2.kept b h5 h7).trans h6;have h9:w3.heap[b]?=some (.deferred (some [])):=(hsame b hnot).trans h8;rw [hbelow.block b ?_,h9];exact (Array.getElem?_eq_some_iff.1 h9).1
   ·cases hp
  ·cases hp
 ·cases hp
end
section
variable {P:Program} {gl:Nat->Bool}
noncomputable def JR {α:Type}(b:Bool)(x y:Option α):Option α:=Bool.rec (motive:=fun _=>Option α) y x b
theorem Bx:lH P gl (fun _=>none):=fun _ _ h=>by cases h
theorem iZ {f:FuncId}{p:oz}{pr:FuncId->Option oz}(h:jt P gl f p)(hr:lH P gl pr):lH P gl (fun g=>JR (Nat.beq g f) (some p) (pr g)):=fun g q hq=>by
 dsimp only at hq
 cases hx:Nat.beq g f with
 | false=>rw [hx] at hq; exact hr g q hq
 | true=>
  rw [hx] at hq;obtain rfl:=oI hq;obtain rfl:g=f:=by simpa [Nat.beq_eq] using hx
  exact h
structure TextOk (P:Program):Prop where
 names:cY P
 draws: ∀ (f:FuncId)(fn:Func),P.funcs[f]?=some fn->dg fn=true
theorem TextOk.runP (h:TextOk P){pr:FuncId->Option oz}(hp:lH P gl pr)(n:Nat):CfOk P gl (aX P gl pr n):=Fp h.names hp (BT h.names h.draws) (mj h.names) n
end
end Go.Ab
end
section
namespace Go.Ab
open Go
section
structure Sx where
 P:Program
 gl:Nat->Bool
 pr:FuncId->Option oz
abbrev Fr:=Nat->Value
def Re (E:Fr)(d:Nat)(v:Value):Fr:=fun t=>if t=d then v else E t
def oB (E:Fr)(dst:Option Tmp)(v:Value):Fr:=match dst with
 | some d=>Re E d v
 | none=>E
def cA (gl:Nat->Bool)(E:Fr):Operand->Value
 | .tmp t=>E t
 | .const v=>if plain v then v else junk
 | .global g=>if gl g then .pointer (some ⟨g,0,none⟩) else junk
 | .func f=> .func (.func f) #[] #[]
def ER (nm:Nat)(E:Fr)(tm:List Value):Prop:=tm.length=nm/\ ∀ t,tm.getD t undef=E t
def qE (nm:Nat):Option Tmp->Bool
 | none=>true
 | some d=>decide (d < nm)
theorem ER.ev {nm:Nat}{E:Fr}{tm:List Value}(gl:Nat->Bool)(h:ER nm E tm):ev gl tm=cA gl E:=by
 funext x
 cases x with
 | tmp t=>exact h.2 t
 | const v=>rfl
 | global g=>rfl
 | func f=>rfl
theorem ER.put {nm:Nat}{E:Fr}{tm:List Value}(h:ER nm E tm){dst:Option Tmp}(hd:qE nm dst=true)(v:Value):ER nm (oB E dst v) (e9 tm dst v):=by
 cases dst with
 | none=>exact h
 | some d=>
  have hd:d < nm:=by simpa [qE] using hd
  refine ⟨by simp [e9,h.1],fun t=> ?_⟩;simp only [e9,oB,Re,gD,List.getElem?_set];by_cases ht:t=d
  ·subst ht;rw [if_pos rfl,if_pos rfl,if_pos (by rw [h.1]; exact hd)];rfl
  ·rw [if_neg ht,if_neg (fun e=>ht e.symm),<-gD];exact h.2 t
def FR (S:Sx)(f:FuncId)(args:List Value)(h:Heap)(v:Value)(h':Heap):Prop:= ∃ n0,∀ n,n0<=n->aX S.P S.gl S.pr n f args h=some (v,h')
def FW (S:Sx)(f:FuncId)(args:List Value)(h:Heap)(Q:Value->Heap->Prop):Prop:= ∃ v h',FR S f args h v h'/\Q v h'
theorem FW.mono {S:Sx}{f:FuncId}{args:List Value}{h:Heap}{Q R:Value->Heap->Prop}(hq:FW S f args h Q)(hr: ∀ v h',Q v h'->R v h'):FW S f args h R:=by
 obtain ⟨v,h',h1,h2⟩:=hq;exact ⟨v,h',h1,hr v h' h2⟩
abbrev VH:=Value->Heap->Prop
abbrev FH:=Fr->Heap->Prop
abbrev wY:=Exit->Fr->Heap->Prop
def wF (ops:Array Oper)(E:Fr)(guard:Option (Nat×Bool)):Option Bool:=match guard with
 | none=>some true
 | some (j,want)=>match (ops[j]?).bind (·.dst) with
  | some d=>match E d with
   | .bool b=>some (b == want)
   | .tuple _=>some false
   | _=>none
  | none=>none
theorem jv {nm:Nat}{E:Fr}{tm:List Value}(h:ER nm E tm)(ops:Array Oper)(o:Oper):eI ops tm o=wF ops E o.guard:=by
 unfold eI wF
 cases o.guard with
 | none=>rfl
 | some g=>
  obtain ⟨j,want⟩:=g;dsimp only
  cases (ops[j]?).bind (·.dst) with
  | none=>rfl
  | some d=>dsimp only; rw [h.2 d]; cases E d <;> rfl
def AF (r:Option (Value×Upd))(h:Heap)(K:VH):Prop:=match r with
 | some (v,u)=>K v (u.app h)
 | none=>False
def oA (r:Option Value)(h:Heap)(K:VH):Prop:=match r with
 | some v=>K v h
 | none=>False
def li (S:Sx)(f:Value)(args:List Value)(h:Heap)(K:VH):Prop:=match f with
 | .func (.func g) first captured=>g < YB/\FW S g (first.toList++args++captured.toList) h K
 | .func (.yield k) first captured=>(first.size=0/\captured.size=0)/\FW S (YB+k) args h K
 | _=>False
def fK (S:Sx)(E:Fr)(o:Oper)(h:Heap)(K:VH):Prop:=match o.op with
 | .call { callee:= .value f,args,.. }=>li S (cA S.gl E f) (args.toList.map (cA S.gl E)) h K
 | _=>AF (bP S.P eK (cA S.gl E) o h) h K
def NI (r:Option Bool)(A B:Unit->Prop):Prop:=match r with
 | some true=>A ()
 | some false=>B ()
 | none=>False
def Lh (S:Sx)(ops:Array Oper):List Oper->Fr->Heap->FH->Prop
 | [],E,h,R=>R E h
 | o::l,E,h,R=>NI (wF ops E o.guard) (fun _=>fK S E o h fun v h=>Lh S ops l (oB E o.dst v) h R) (fun _=>Lh S ops l (oB E o.dst undef) h R)
def Ps (S:Sx)(ops:Array Oper)(dst:Option Tmp)(l:List Oper)(E:Fr)(h:Heap)(R:FH)(_:Unit):Prop:=Lh S ops l (oB E dst undef) h R
def Ro (S:Sx)(ops:Array Oper)(dst:Option Tmp)(l:List Oper)(E:Fr)(R:FH)(v:Value)(h:Heap):Prop:=Lh S ops l (oB E dst v) h R
def QP (S:Sx)(ops:Array Oper)(o:Oper)(l:List Oper)(E:Fr)(h:Heap)(R:FH)(_:Unit):Prop:=fK S E o h (Ro S ops o.dst l E R)
section
variable (S:Sx) (ops:Array Oper) (o:Oper) (l:List Oper) (dst:Option Tmp) (E:Fr) (h:Heap) (R:FH) (v:Value)
theorem IU:Lh S ops (o::l) E h R=NI (wF ops E o.guard) (QP S ops o l E h R) (Ps S ops o.dst l E h R):=rfl
theorem Ef (ops:Array Oper)(E:Fr)(j:Nat)(want:Bool):wF ops E (some (j,want))=match (ops[j]?).bind (·.dst) with
  | some d=>(match E d with | .bool b=>some (b == want) | .tuple _=>some false | _=>none)
  | none=>none:=rfl
end
noncomputable section
variable (S:Sx) (bf:Nat->Nat->Bool)
def yW (o:Oper)(E:Fr)(v:Value)(h:Heap):Bool:=match aV S.P (cA S.gl E) o h with
 | some v'=>dY 4 v v'
 | none=>false
def i6 (j:Nat)(o:Oper)(E:Fr)(v:Value):Heap->List (Nat×Heap)->Bool->Bool
 | h,[],own=>own || yW S o E v h
 | h,(e,h')::r,own=>((own && Nat.blt j e) || bf j e || yW S o E v h) && (bf e j || i6 j o E v h' r (Nat.blt e j))
abbrev CX:=Fr×Oper×Ent
def qe (h:Heap)(es:List (Nat×Heap)):List CX->Nat->Bool
 | [],_=>true
 | (E,o,.read v)::r,j=>i6 S bf j o E v h es true && qe h es r (j+1)
 | _::r,j=>qe h es r (j+1)
def kf:List CX->Nat->List (Nat×Heap)
 | [],_=>[]
 | (_,_,.eff _ h)::r,j=>(j,h)::kf r (j+1)
 | _::r,j=>kf r (j+1)
def oe (h:Heap)(recs:List CX):Bool:=fp bf (kf recs 0) && qe S bf h (kf recs 0) recs 0
def vI (E:Fr)(o:Oper)(h:Heap)(K:VH):Prop:=match o.op with
 | .call { callee:= .value f,args,.. }=>li S (cA S.gl E f) (args.toList.map (cA S.gl E)) h K
 | _=>AF (dj S.P eK (cA S.gl E) o h) h K
def qT (ops:Array Oper)(base:Nat)(h0:Heap):List Oper->Nat->Fr->Heap->List (Nat×Blk)->List CX->FH->Prop
 | [],_,E,h,pd,recs,R=>oe S bf h0 recs.reverse=true/\R E (aB h base pd)
 | o::l,j,E,h,pd,recs,R=>NI (wF ops E o.guard)
   (fun _=>match bn S.P (cA S.gl E) o with
    | some v=>qT ops base h0 l (j+1) (oB E o.dst v) h pd ((E,o,.pure v)::recs) R
    | none=>match aV S.P (cA S.gl E) o h with
     | some v=>qT ops base h0 l (j+1) (oB E o.dst v) h pd ((E,o,.read v)::recs) R
     | none=>match aT S.P (cA S.gl E) o with
      | some (B,f)=>qT ops base h0 l (j+1) (oB E o.dst (f (base+j))) h ((j,B)::pd) ((E,o,.alloc B (f (base+j)))::recs) R
      | none=>vI S E o (aB h base (pd.filter fun p=>bf j p.1)) fun v h'=>qT ops base h0 l (j+1) (oB E o.dst v) h' (pd.filter fun p=> !bf j p.1) ((E,o,.eff v h')::recs) R)
   (fun _=>qT ops base h0 l (j+1) (oB E o.dst undef) h pd ((E,o,.skip)::recs) R)
def Oq (ops:Array Oper)(E:Fr)(h:Heap)(R:FH):Prop:=
 Dk ops=false/\qT S (co (fU ops)) ops h.next { h with next:=h.next+ops.size } ops.toList 0 E { h with next:=h.next+ops.size } [] [] R
end
section
variable (S:Sx) (nm:Nat)
def JA (c:Code)(E:Fr)(h:Heap)(x:Exit)(E':Fr)(h':Heap):Prop:=
 ∃ n0,∀ n N,n0<=n->n0<=N-> ∀ tm,ER nm E tm-> ∃ tm',ER nm E' tm'/\aU S.P S.gl (aX S.P S.gl S.pr n) N c tm h=some (x,tm',h')
def Pf (c:Code)(E:Fr)(h:Heap)(x:Exit)(E':Fr)(h':Heap):Prop:=
 ∃ n0,∀ n N j,n0<=n->n0<=N->n0<=j-> ∀ tm,ER nm E tm-> ∃ tm',ER nm E' tm'/\Ci (aU S.P S.gl (aX S.P S.gl S.pr n) N c) j tm h=some (x,tm',h')
def yE (c:Code)(E:Fr)(h:Heap)(Q:wY):Prop:= ∃ x E' h',Pf S nm c E h x E' h'/\Q x E' h'
def EH (c:Code)(E:Fr)(h:Heap)(Q:wY):Prop:= ∃ x E' h',JA S nm c E h x E' h'/\Q x E' h'
def QV (v:Value)(A B:Unit->Prop):Prop:=match v with
 | .bool true=>A ()
 | .bool false=>B ()
 | _=>False
def JB:Code->Fr->Heap->wY->Prop
 | .skip,E,h,Q=>Q .normal E h
 | .region _ ops false,E,h,Q=>Lh S ops ops.toList E h fun E h=>Q .normal E h
 | .region _ ops true,E,h,Q=>Oq S ops E h fun E h=>Q .normal E h
 | .seq a b,E,h,Q=>JB a E h fun x E h=>match x with
  | .normal=>JB b E h Q
  | x=>Q x E h
 | .cond c a b,E,h,Q=>QV (cA S.gl E c) (fun _=>JB a E h Q) (fun _=>JB b E h Q)
 | .block id c,E,h,Q=>JB c E h fun x E h=>match x with
  | .exit id'=>if id'=id then Q .normal E h else Q (.exit id') E h
  | x=>Q x E h
 | .loop c,E,h,Q=>yE S nm c E h Q
 | .exit id,E,h,Q=>Q (.exit id) E h
 | .ret,E,h,Q=>Q .ret E h
 | .label _,E,h,Q=>Q .normal E h
 | .rangeFunc f ps a b,E,h,Q=>EH S nm (.rangeFunc f ps a b) E h Q
 | _,_,_,_=>False
def Ph (c:Code)(Q:wY)(x:Exit)(E:Fr)(h:Heap):Prop:=match x with
 | .normal=>yE S nm c E h Q
 | x=>Q x E h
def Rb (c:Code)(E:Fr)(h:Heap)(Q:wY)(_:Unit):Prop:=JB S nm c E h Q
variable (a b c:Code) (o:Operand) (id id':Nat) (ops:Array Oper) (E:Fr) (h:Heap) (Q:wY)
theorem Ka:JB S nm (.cond o a b) E h Q=QV (cA S.gl E o) (Rb S nm a E h Q) (Rb S nm b E h Q):=rfl
end
theorem Mc {v:Value}{A B:Unit->Prop}(h:QV v A B): ∃ b,v = .bool b/\((b=true/\A ())\/(b=false/\B ())):=by
 cases v with
 | bool b=>
  cases b with
  | true=>exact ⟨true,rfl,.inl ⟨rfl,h⟩⟩
  | false=>exact ⟨false,rfl,.inr ⟨rfl,h⟩⟩
 | _=>exact h.elim
theorem zp {r:Option Bool}{A B:Unit->Prop}(h:NI r A B):(r=some true/\A ())\/(r=some false/\B ()):=by
 cases r with
 | none=>exact h.elim
 | some b=>
  cases b with
  | true=>exact .inl ⟨rfl,h⟩
  | false=>exact .inr ⟨rfl,h⟩
section
variable {S:Sx} {nm:Nat}
theorem qt {fv:Value}{args:List Value}{h:Heap}{K:VH}(hw:li S fv args h K): ∃ v h' n0,(∀ n,n0<=n->sE (aX S.P S.gl S.pr n) fv args h=some (v,.all h'))/\K v h':=by
 unfold li at hw;split at hw
 ·next g first captured=>
  obtain ⟨hY,v,h',⟨n0,hr⟩,hk⟩:=hw;refine ⟨v,h',n0,fun n hn=> ?_,hk⟩;simp only [sE];rw [if_pos hY,hr n hn];rfl
 ·obtain ⟨hz,v,h',⟨n0,hr⟩,hk⟩:=hw;refine ⟨v,h',n0,fun n hn=> ?_,hk⟩;simp only [sE];rw [if_pos hz,hr n hn];rfl
 ·exact hw.elim
theorem jA {o:Oper}(hc:aO o=true): ∃ f args ts,o.op = .call { callee:= .value f,args:=args,argTypes:=ts }:=by
 obtain ⟨dst,op,ty,pos,after,guard⟩:=o;unfold aO at hc;split at hc
 ·next e=>exact ⟨_,_,_,e⟩
 ·cases hc
theorem AM {E:Fr}{o:Oper}{h:Heap}{K:VH}(hw:vI S E o h K): ∃ v u n0,(∀ n,n0<=n->dj S.P (aX S.P S.gl S.pr n) (cA S.gl E) o h=some (v,u))/\K v (u.app h):=by
 cases hc:aO o with
 | true=>
  obtain ⟨f,args,ts,e⟩:=jA hc;obtain ⟨dst,op,ty,pos,after,guard⟩:=o;dsimp only at e;subst e;obtain ⟨v,h',n0,h1,h2⟩:=qt hw;exact ⟨v,.all h',n0,h1,h2⟩
 | false=>
  have hw':AF (dj S.P eK (cA S.gl E) o h) h K:=by
   unfold vI at hw;split at hw
   ·next e=>unfold aO at hc; rw [e] at hc; cases hc
   ·exact hw
  unfold AF at hw';split at hw'
  ·next v u e=>exact ⟨v,u,0,fun n _=>by rw [<-uH hc]; exact e,hw'⟩
  ·exact hw'.elim
theorem BU {P:Program}{cf:bT}{ρ:Operand->Value}{o:Oper}{h:Heap}(hc:aO o=true):bP P cf ρ o h=dj P cf ρ o h:=by
 obtain ⟨f,args,ts,e⟩:=jA hc;obtain ⟨dst,op,ty,pos,after,guard⟩:=o;dsimp only at e;subst e;rfl
theorem DD {E:Fr}{o:Oper}{h:Heap}{K:VH}(hw:fK S E o h K): ∃ v u n0,(∀ n,n0<=n->bP S.P (aX S.P S.gl S.pr n) (cA S.gl E) o h=some (v,u))/\K v (u.app h):=by
 cases hc:aO o with
 | true=>
  obtain ⟨f,args,ts,e⟩:=jA hc;obtain ⟨dst,op,ty,pos,after,guard⟩:=o;dsimp only at e;subst e;obtain ⟨v,h',n0,h1,h2⟩:=qt hw;exact ⟨v,.all h',n0,fun n hn=>by rw [BU hc]; exact h1 n hn,h2⟩
 | false=>
  have hw':AF (bP S.P eK (cA S.gl E) o h) h K:=by
   unfold fK at hw;split at hw
   ·next e=>unfold aO at hc; rw [e] at hc; cases hc
   ·exact hw
  unfold AF at hw';split at hw'
  ·next v u e=>exact ⟨v,u,0,fun n _=>by rw [<-D4 hc]; exact e,hw'⟩
  ·exact hw'.elim
theorem sv (ops:Array Oper){R:FH}: ∀ (l:List Oper)(E:Fr)(h:Heap),(l.all fun o=>qE nm o.dst)=true->Lh S ops l E h R->
  ∃ E' h' n0,(∀ n,n0<=n-> ∀ tm,ER nm E tm-> ∃ tm',ER nm E' tm'/\f0 S.P S.gl (aX S.P S.gl S.pr n) ops l tm h=some (tm',h'))/\R E' h'
 | [],E,h,_,hw=>⟨E,h,0,fun n _ tm ht=>⟨tm,ht,rfl⟩,hw⟩
 | o::l,E,h,hd,hw=>by
  simp only [all_cons,and_eq_true] at hd;rcases zp hw with ⟨hg,hw⟩ | ⟨hg,hw⟩
  ·obtain ⟨v,u,n1,h1,h2⟩:=DD hw;obtain ⟨E',h',n2,h3,h4⟩:=sv ops l _ _ hd.2 h2;refine ⟨E',h',max n1 n2,fun n hn tm ht=> ?_,h4⟩;obtain ⟨tm',ht',h5⟩:=h3 n (by omega) _ (ht.put hd.1 v);refine ⟨tm',ht',?_⟩;simp only [f0];rw [jv ht,hg,ht.ev,h1 n (by omega)];exact h5
  ·obtain ⟨E',h',n2,h3,h4⟩:=sv ops l _ _ hd.2 hw;refine ⟨E',h',n2,fun n hn tm ht=> ?_,h4⟩;obtain ⟨tm',ht',h5⟩:=h3 n hn _ (ht.put hd.1 undef);refine ⟨tm',ht',?_⟩;simp only [f0];rw [jv ht,hg];exact h5
def uL (nm:Nat):List Oper->List CX->List (List Value×Ent)->Prop
 | [],[],[]=>True
 | o::os,(E,o',e)::r,(tm,e')::r'=>o'=o/\e'=e/\ER nm E tm/\uL nm os r r'
 | _,_,_=>False
theorem BL: ∀ {l:List Oper}{r:List CX}{r':List (List Value×Ent)}(j:Nat),uL nm l r r'->dU r' j=kf r j
 | [],[],[],_,_=>rfl
 | o::os,(E,o',e)::r,(tm,e')::r',j,h=>by
  obtain ⟨rfl,rfl,_,h⟩:=h
  cases e' <;> simp only [dU,kf,BL (j+1) h]
 | [],[],_::_,_,h=>h.elim
 | [],_::_,_,_,h=>h.elim
 | _::_,[],_,_,h=>h.elim
 | _::_,_::_,[],_,h=>h.elim
theorem qF {o:Oper}{E:Fr}{tm:List Value}{v:Value}{h:Heap}(ht:ER nm E tm):kJ S.P S.gl o tm v h=yW S o E v h:=by
 unfold kJ yW;rw [ht.ev]
 cases aV S.P (cA S.gl E) o h <;> rfl
theorem vx {bf:Nat->Nat->Bool}{j:Nat}{o:Oper}{E:Fr}{tm:List Value}{v:Value}(ht:ER nm E tm): ∀ (es:List (Nat×Heap))(h:Heap)(own:Bool),kI S.P S.gl bf j o tm v h es own=i6 S bf j o E v h es own
 | [],h,own=>by simp only [kI,i6,qF ht]
 | (e,h')::es,h,own=>by simp only [kI,i6,qF ht,vx ht es]
theorem xr {bf:Nat->Nat->Bool}{h:Heap}{es:List (Nat×Heap)}: ∀ {l:List Oper}{r:List CX}{r':List (List Value×Ent)}(j:Nat),uL nm l r r'->jb S.P S.gl bf h es l r' j=qe S bf h es r j
 | [],[],[],_,_=>rfl
 | o::os,(E,o',e)::r,(tm,e')::r',j,hr=>by
  obtain ⟨rfl,rfl,ht,hr⟩:=hr
  cases e' <;> simp only [jb,qe,xr (j+1) hr,vx ht]
 | [],[],_::_,_,h=>h.elim
 | [],_::_,_,_,h=>h.elim
 | _::_,[],_,_,h=>h.elim
 | _::_,_::_,[],_,h=>h.elim
theorem vE (bf:Nat->Nat->Bool)(ops:Array Oper)(base:Nat)(h0:Heap){R:FH}: ∀ (l:List Oper)(j:Nat)(E:Fr)(h:Heap)(pd:List (Nat×Blk))(recs:List CX),(l.all fun o=>qE nm o.dst)=true->qT S bf ops base h0 l j E h pd recs R->
  ∃ E' h' pd' r n0,(∀ n,n0<=n-> ∀ tm,ER nm E tm-> ∃ tm' r',ER nm E' tm'/\uL nm l r r'/\cK S.P S.gl (aX S.P S.gl S.pr n) ops bf base l j tm h pd=some (r',tm',h',pd'))/\oe S bf h0 (recs.reverse++r)=true/\R E' (aB h' base pd')
 | [],j,E,h,pd,recs,_,hw=>⟨E,h,pd,[],0,fun n _ tm ht=>⟨tm,[],ht,trivial,rfl⟩,by rw [append_nil]; exact hw.1,hw.2⟩
 | o::l,j,E,h,pd,recs,hd,hw=>by
  simp only [all_cons,and_eq_true] at hd;have fin: ∀ (v:Value)(e:Ent)(h1:Heap)(pd1:List (Nat×Blk))(n1:Nat),qT S bf ops base h0 l (j+1) (oB E o.dst v) h1 pd1 ((E,o,e)::recs) R->
    (∀ n,n1<=n-> ∀ tm,ER nm E tm-> ∀ q,cK S.P S.gl (aX S.P S.gl S.pr n) ops bf base l (j+1) (e9 tm o.dst v) h1 pd1=some q->cK S.P S.gl (aX S.P S.gl S.pr n) ops bf base (o::l) j tm h pd=some ((tm,e)::q.1,q.2))->
    ∃ E' h' pd' r n0,(∀ n,n0<=n-> ∀ tm,ER nm E tm-> ∃ tm' r',ER nm E' tm'/\uL nm (o::l) r r'/\cK S.P S.gl (aX S.P S.gl S.pr n) ops bf base (o::l) j tm h pd=some (r',tm',h',pd'))/\oe S bf h0 (recs.reverse++r)=true/\R E' (aB h' base pd'):=by
   intro v e h1 pd1 n1 hw1 hq;obtain ⟨E',h',pd',r,n2,h2,h3,h4⟩:=vE bf ops base h0 l (j+1) _ _ _ _ hd.2 hw1;refine ⟨E',h',pd',(E,o,e)::r,max n1 n2,fun n hn tm ht=> ?_,?_,h4⟩
   ·obtain ⟨tm',r',ht',hr,h5⟩:=h2 n (by omega) _ (ht.put hd.1 v);exact ⟨tm',(tm,e)::r',ht',⟨rfl,rfl,ht,hr⟩,hq n (by omega) tm ht _ h5⟩
   ·simpa using h3
  rcases zp hw with ⟨hg,hw⟩ | ⟨hg,hw⟩
  ·cases hp:bn S.P (cA S.gl E) o with
   | some v=>
    rw [hp] at hw;refine fin v (.pure v) h pd 0 hw fun n _ tm ht q hq=> ?_;simp only [cK];rw [jv ht,hg,ht.ev,hp];dsimp only;rw [hq];rfl
   | none=>
    rw [hp] at hw;dsimp only at hw
    cases hrd:aV S.P (cA S.gl E) o h with
    | some v=>
     rw [hrd] at hw;refine fin v (.read v) h pd 0 hw fun n _ tm ht q hq=> ?_;simp only [cK];rw [jv ht,hg,ht.ev,hp];dsimp only;rw [hrd];dsimp only;rw [hq];rfl
    | none=>
     rw [hrd] at hw;dsimp only at hw
     cases hal:aT S.P (cA S.gl E) o with
     | some Bf=>
      obtain ⟨B,f⟩:=Bf;rw [hal] at hw;refine fin _ (.alloc B (f (base+j))) h ((j,B)::pd) 0 hw fun n _ tm ht q hq=> ?_;simp only [cK];rw [jv ht,hg,ht.ev,hp];dsimp only;rw [hrd];dsimp only;rw [hal];dsimp only;rw [hq];rfl
     | none=>
      rw [hal] at hw;dsimp only at hw;obtain ⟨v,u,n1,h1,h2⟩:=AM hw;refine fin v (.eff v _) _ _ n1 h2 fun n hn tm ht q hq=> ?_;simp only [cK];rw [jv ht,hg,ht.ev,hp];dsimp only;rw [hrd];dsimp only;rw [hal];dsimp only;rw [h1 n hn];dsimp only;rw [hq];rfl
  ·refine fin undef .skip h pd 0 hw fun n _ tm ht q hq=> ?_;simp only [cK];rw [jv ht,hg];dsimp only;rw [hq];rfl
theorem Gk {ops:Array Oper}{E:Fr}{h:Heap}{R:FH}(hd:(ops.toList.all fun o=>qE nm o.dst)=true)(hw:Oq S ops E h R):
  ∃ E' h' n0,(∀ n,n0<=n-> ∀ tm,ER nm E tm-> ∃ tm',ER nm E' tm'/\CQ S.P S.gl (aX S.P S.gl S.pr n) ops tm h=some (tm',h'))/\R E' h':=by
 obtain ⟨hany,hw⟩:=hw;obtain ⟨E',h',pd',r,n0,h1,h2,h3⟩:=vE (co (fU ops)) ops h.next _ ops.toList 0 E _ [] [] hd hw;refine ⟨E',_,n0,fun n hn tm ht=> ?_,h3⟩;obtain ⟨tm',r',ht',hr,h4⟩:=h1 n hn tm ht;refine ⟨tm',ht',?_⟩;unfold CQ;rw [hany,if_neg (by simp)];unfold un;rw [h4];dsimp only;rw [BL 0 hr,xr 0 hr];have h2:oe S (co (fU ops)) { h with next:=h.next+ops.size } r=true:=h2;unfold oe at h2;rw [if_pos h2]
def du (nm:Nat):Code->Bool
 | .region _ ops _=>ops.toList.all fun o=>qE nm o.dst
 | .seq a b=>du nm a && du nm b
 | .cond _ a b=>du nm a && du nm b
 | .block _ c=>du nm c
 | .loop c=>du nm c
 | _=>true
theorem fi: ∀ (c:Code){E:Fr}{h:Heap}{Q:wY},du nm c=true->JB S nm c E h Q-> ∃ x E' h',JA S nm c E h x E' h'/\Q x E' h'
 | .skip,E,h,_,_,hw=>⟨.normal,E,h,⟨0,fun _ _ _ _ tm ht=>⟨tm,ht,rfl⟩⟩,hw⟩
 | .exit id,E,h,_,_,hw=>⟨.exit id,E,h,⟨0,fun _ _ _ _ tm ht=>⟨tm,ht,rfl⟩⟩,hw⟩
 | .ret,E,h,_,_,hw=>⟨.ret,E,h,⟨0,fun _ _ _ _ tm ht=>⟨tm,ht,rfl⟩⟩,hw⟩
 | .label _,E,h,_,_,hw=>⟨.normal,E,h,⟨0,fun _ _ _ _ tm ht=>⟨tm,ht,rfl⟩⟩,hw⟩
 | .region _ ops false,E,h,_,hd,hw=>by
  obtain ⟨E',h',n0,h1,h2⟩:=sv ops ops.toList E h hd hw;refine ⟨.normal,E',h',⟨n0,fun n N hn _ tm ht=> ?_⟩,h2⟩;obtain ⟨tm',ht',h3⟩:=h1 n hn tm ht;refine ⟨tm',ht',?_⟩;simp only [aU];rw [h3];rfl
 | .region _ ops true,E,h,_,hd,hw=>by
  obtain ⟨E',h',n0,h1,h2⟩:=Gk hd hw;refine ⟨.normal,E',h',⟨n0,fun n N hn _ tm ht=> ?_⟩,h2⟩;obtain ⟨tm',ht',h3⟩:=h1 n hn tm ht;refine ⟨tm',ht',?_⟩;simp only [aU];rw [h3];rfl
 | .seq a b,E,h,Q,hd,hw=>by
  simp only [du,and_eq_true] at hd;obtain ⟨x,E1,h1,⟨n1,hr1⟩,hq⟩:=fi a hd.1 hw;have els:(∀ n N tm' ,aU S.P S.gl (aX S.P S.gl S.pr n) N a tm' h=some (x,tm',h1)->True)->x≠ .normal->Q x E1 h1-> ∃ x E' h',JA S nm (.seq a b) E h x E' h'/\Q x E' h':=by
   intro _ hx hq;refine ⟨x,E1,h1,⟨n1,fun n N hn hN tm ht=> ?_⟩,hq⟩;obtain ⟨tm',ht',h3⟩:=hr1 n N hn hN tm ht;refine ⟨tm',ht',?_⟩;simp only [aU];rw [h3]
   cases x with
   | normal=>exact absurd rfl hx
   | _=>rfl
  cases x with
  | normal=>
   obtain ⟨x,E2,h2,⟨n2,hr2⟩,hq⟩:=fi b hd.2 hq;refine ⟨x,E2,h2,⟨max n1 n2,fun n N hn hN tm ht=> ?_⟩,hq⟩;obtain ⟨tm',ht',h3⟩:=hr1 n N (by omega) (by omega) tm ht;obtain ⟨tm2,ht2,h4⟩:=hr2 n N (by omega) (by omega) tm' ht';refine ⟨tm2,ht2,?_⟩;simp only [aU];rw [h3];exact h4
  | exit id=>exact els (fun _ _ _ _=>trivial) (by simp) hq
  | goto l=>exact els (fun _ _ _ _=>trivial) (by simp) hq
  | ret=>exact els (fun _ _ _ _=>trivial) (by simp) hq
  | panic _=>exact els (fun _ _ _ _=>trivial) (by simp) hq
  | outgrown=>exact els (fun _ _ _ _=>trivial) (by simp) hq
 | .cond o a b,E,h,Q,hd,hw=>by
  simp only [du,and_eq_true] at hd;obtain ⟨t,hv,⟨ht,hw⟩ | ⟨ht,hw⟩⟩:=Mc hw
  ·obtain ⟨x,E1,h1,⟨n1,hr1⟩,hq⟩:=fi a hd.1 hw;refine ⟨x,E1,h1,⟨n1,fun n N hn hN tm htm=> ?_⟩,hq⟩;obtain ⟨tm',ht',h3⟩:=hr1 n N hn hN tm htm;refine ⟨tm',ht',?_⟩;simp only [aU];rw [htm.ev,hv,ht];exact h3
  ·obtain ⟨x,E1,h1,⟨n1,hr1⟩,hq⟩:=fi b hd.2 hw;refine ⟨x,E1,h1,⟨n1,fun n N hn hN tm htm=> ?_⟩,hq⟩;obtain ⟨tm',ht',h3⟩:=hr1 n N hn hN tm htm;refine ⟨tm',ht',?_⟩;simp only [aU];rw [htm.ev,hv,ht];exact h3
 | .block id c,E,h,Q,hd,hw=>by
  obtain ⟨x,E1,h1,⟨n1,hr1⟩,hq⟩:=fi c hd hw;by_cases hx:x = .exit id
  ·subst hx;dsimp only at hq;rw [if_pos rfl] at hq;refine ⟨.normal,E1,h1,⟨n1,fun n N hn hN tm htm=> ?_⟩,hq⟩;obtain ⟨tm',ht',h3⟩:=hr1 n N hn hN tm htm;refine ⟨tm',ht',?_⟩;simp only [aU];rw [h3];simp
  ·refine ⟨x,E1,h1,⟨n1,fun n N hn hN tm htm=> ?_⟩,?_⟩
   ·obtain ⟨tm',ht',h3⟩:=hr1 n N hn hN tm htm;refine ⟨tm',ht',?_⟩;simp only [aU];rw [h3]
    cases x with
    | exit id'=>dsimp only; rw [if_neg (fun e=>hx (by rw [e]))]
    | _=>rfl
   ·cases x with
    | exit id'=>dsimp only at hq; rw [if_neg (fun e=>hx (by rw [e]))] at hq; exact hq
    | _=>exact hq
 | .loop c,E,h,Q,hd,hw=>by
  obtain ⟨x,E1,h1,⟨n1,hr1⟩,hq⟩:=hw;refine ⟨x,E1,h1,⟨n1,fun n N hn hN tm htm=> ?_⟩,hq⟩;obtain ⟨tm',ht',h3⟩:=hr1 n N N hn hN hN tm htm;exact ⟨tm',ht',h3⟩
 | .rangeFunc ..,_,_,_,_,hw=>hw
 | .scope _,_,_,_,_,hw=>hw.elim
 | .goto _,_,_,_,_,hw=>hw.elim
 | .refuse _,_,_,_,_,hw=>hw.elim
theorem Iw {c:Code}{E:Fr}{h:Heap}{Q:wY}(hd:du nm c=true)(hw:JB S nm c E h (Ph S nm c Q)):yE S nm c E h Q:=by
 obtain ⟨x,E1,h1,⟨n1,hr1⟩,hq⟩:=fi c hd hw;have els:x≠ .normal->Q x E1 h1->yE S nm c E h Q:=by
  intro hx hq;refine ⟨x,E1,h1,⟨n1+1,fun n N j hn hN hj tm ht=> ?_⟩,hq⟩;obtain ⟨j',rfl⟩: ∃ j',j=j'+1:=⟨j - 1,by omega⟩
  obtain ⟨tm',ht',h3⟩:=hr1 n N (by omega) (by omega) tm ht;refine ⟨tm',ht',?_⟩;simp only [Ci];rw [h3]
  cases x with
  | normal=>exact absurd rfl hx
  | _=>rfl
 cases x with
 | normal=>
  obtain ⟨x,E2,h2,⟨n2,hr2⟩,hq⟩:=hq;refine ⟨x,E2,h2,⟨max n1 n2+1,fun n N j hn hN hj tm ht=> ?_⟩,hq⟩;obtain ⟨j',rfl⟩: ∃ j',j=j'+1:=⟨j - 1,by omega⟩
  obtain ⟨tm',ht',h3⟩:=hr1 n N (by omega) (by omega) tm ht;obtain ⟨tm2,ht2,h4⟩:=hr2 n N j' (by omega) (by omega) (by omega) tm' ht';refine ⟨tm2,ht2,?_⟩;simp only [Ci];rw [h3];exact h4
 | exit id=>exact els (by simp) hq
 | goto l=>exact els (by simp) hq
 | ret=>exact els (by simp) hq
 | panic _=>exact els (by simp) hq
 | outgrown=>exact els (by simp) hq
noncomputable def oJ (S:Sx)(E:Fr)(h:Heap):List ResultVar->Option (List Value)
 | []=>some []
 | .tmp t::r=>(oJ S E h r).map (E t :: ·)
 | .cell a t::r=>match ah S.P t h (E a) with
  | some v=>(oJ S E h r).map (v :: ·)
  | none=>none
theorem uB {E:Fr}{h:Heap}{tm:List Value}(ht:ER nm E tm): ∀ l,bK S.P tm h l=oJ S E h l
 | []=>rfl
 | .tmp t::r=>by simp only [bK,oJ,uB ht r,ht.2 t]
 | .cell a t::r=>by
  simp only [bK,oJ,uB ht r,ht.2 a]
  cases ah S.P t h (E a) <;> rfl
def sS (r:Option (List Value))(h:Heap)(Q:VH):Prop:=match r with
 | some vs=>Q (ce vs) h
 | none=>False
def QD (S:Sx)(rs:List ResultVar)(Q:VH)(x:Exit)(E:Fr)(h:Heap):Prop:=match x with
 | .normal=>sS (oJ S E h rs) h Q
 | .ret=>sS (oJ S E h rs) h Q
 | _=>False
def N4 (args:List Value):Fr:=fun t=>args.getD t undef
theorem O5 {f:FuncId}{fn:Func}{c:Code}{args:List Value}{h:Heap}{Q:VH}(hf:S.P.funcs[f]?=some fn)(hb:fn.body=some c)(hY:f < YB)(hp:S.pr f=none)(hl:args.length<=fn.ntmps)(hd:du fn.ntmps c=true)
  (hw:JB S fn.ntmps c (N4 args) h (QD S fn.results.toList Q)):FW S f args h Q:=by
 obtain ⟨x,E',h',⟨n0,hr⟩,hq⟩:=fi c hd hw;have ht:ER fn.ntmps (N4 args) (args++List.replicate (fn.ntmps - args.length) undef):=by
  refine ⟨by simp; omega,fun t=> ?_⟩;show _=args.getD t undef;simp only [gD];by_cases h1:t < args.length
  ·rw [List.getElem?_append_left h1]
  ·rw [List.getElem?_append_right (by omega),getElem?_eq_none (l:=args) (by omega),getElem?_replicate];split <;> rfl
 have hres: ∃ vs,oJ S E' h' fn.results.toList=some vs/\Q (ce vs) h'/\(x = .normal\/x = .ret):=by
  have key:sS (oJ S E' h' fn.results.toList) h' Q-> ∃ vs,oJ S E' h' fn.results.toList=some vs/\Q (ce vs) h':=by
   intro hq
   cases hv:oJ S E' h' fn.results.toList with
   | none=>rw [hv] at hq; exact hq.elim
   | some vs=>rw [hv] at hq; exact ⟨vs,rfl,hq⟩
  cases x with
  | normal=>obtain ⟨vs,h1,h2⟩:=key hq; exact ⟨vs,h1,h2,.inl rfl⟩
  | ret=>obtain ⟨vs,h1,h2⟩:=key hq; exact ⟨vs,h1,h2,.inr rfl⟩
  | _=>exact hq.elim
 obtain ⟨vs,hv,hq,hx⟩:=hres;refine ⟨ce vs,h',⟨n0+1,fun n hn=> ?_⟩,hq⟩;obtain ⟨n',rfl⟩: ∃ n',n=n'+1:=⟨n - 1,by omega⟩
 obtain ⟨tm',ht',h3⟩:=hr n' n' (by omega) (by omega) _ ht;simp only [aX];rw [if_neg (Nat.not_le.2 hY),hp];dsimp only;rw [hf];dsimp only;rw [hb];dsimp only;rw [h3];rcases hx with rfl | rfl
 ·dsimp only; rw [uB ht',hv]; rfl
 ·dsimp only; rw [uB ht',hv]; rfl
end
end
section
section
variable (S:Sx) (E:Fr) (dst:Option Tmp) (ty:TypeId) (pos:String) (after:Array Edge) (guard:Option (Nat×Bool)) (h:Heap) (K:VH)
theorem dX {o:Oper}(hc:aO o=false):fK S E o h K=AF (bP S.P eK (cA S.gl E) o h) h K:=by
 unfold fK;split
 ·next e=>unfold aO at hc; rw [e] at hc; cases hc
 ·rfl
theorem Jg {P:Program}{ρ:Operand->Value}{o:Oper}(h1: ∀ h,bn P ρ o=none->bP P eK ρ o h=none):AF (bP P eK ρ o h) h K=oA (bn P ρ o) h K:=by
 cases hp:bn P ρ o with
 | none=>rw [h1 h hp]; rfl
 | some v=>unfold bP; rw [hp]; rfl
def iP:Op->Bool
 | .move _ | .assign _ | .pick .. | .build .. | .nilCheck _ | .binOp .. | .unOp .. | .makeInterface .. | .makeFunc .. | .fieldAddr .. | .field .. | .indexAddr .. | .index .. | .typeAssert .. | .extract .. =>true
 | .call { callee:= .builtin .max,.. } | .call { callee:= .builtin .min,.. } | .call { callee:= .builtin .cap,.. }=>true
 | _=>false
theorem Hk {P:Program}{ρ:Operand->Value}{op:Op}(hp:iP op=true)(h:Heap)(h1:bn P ρ ⟨dst,op,ty,pos,after,guard⟩=none):bP P eK ρ ⟨dst,op,ty,pos,after,guard⟩ h=none:=by
 unfold bP;rw [h1];unfold iP at hp;split at hp <;> first | rfl | cases hp
theorem Dc {op:Op}(hp:iP op=true):aO ⟨dst,op,ty,pos,after,guard⟩=false:=by
 unfold iP at hp;split at hp <;> first | rfl | cases hp
theorem ca {op:Op}(hp:iP op=true):fK S E ⟨dst,op,ty,pos,after,guard⟩ h K=oA (bn S.P (cA S.gl E) ⟨dst,op,ty,pos,after,guard⟩) h K:=by
 rw [dX S E h K (Dc dst ty pos after guard hp)];exact Jg h K fun h h1=>Hk dst ty pos after guard hp h h1
def Nn (c x y:Value):Option Value:=match c with
 | .bool t=>some (if t then x else y)
 | _=>none
def Nu (v:Value)(i:Nat):Option Value:=match v with
 | .tuple vs=>vs[i]?
 | _=>none
def aQ (P:Program)(t:TypeId)(x i:Value):Option Value:=match P.underlying t,x,i with
  | some (.array len e),.agg cs,.int _ j=>match an P e with
   | some n=>if 0<=j/\j < (len:Int) then iO P e cs (j.toNat*n) else none
   | none=>none
  | some .string,.string s,.int _ j=>if 0<=j then match s.data.toList[j.toNat]? with | some b=>some (.int .u8 b.toNat) | none=>none else none
  | _,_,_=>none
def ag (P:Program)(t:TypeId)(x i:Value):Option Value:=match P.underlying t,x,i with
  | some (.array len e),.pointer (some a),.int _ j=>match an P e with
   | some n=>if 0<=j/\j < (len:Int) then some (.pointer (some (a.add (j.toNat*n)))) else none
   | none=>none
  | some (.slice e),.slice (some a) len _,.int _ j=>match an P e with
   | some n=>if 0<=j/\j < (len:Int) then some (.pointer (some (a.add (j.toNat*n)))) else none
   | none=>none
  | _,_,_=>none
def af (P:Program)(s:TypeId)(x:Value)(f:Nat):Option Value:=match P.underlying s,x with
  | some (.struct fields),.pointer (some a)=>match fields[f]? with
   | some fd=>if (an P fd.type).any (· ≠0) then some (.pointer (some (a.add fd.offset))) else none
   | none=>none
  | _,_=>none
def J9 (P:Program)(t:TypeId)(x:Value)(f:Nat):Option Value:=match P.underlying t,x with
  | some (.struct fields),.agg cs=>match fields[f]? with
   | some fd=>iO P fd.type cs fd.offset
   | none=>none
  | _,_=>none
noncomputable def Cz (P:Program)(t:TypeId)(x:Value)(h:Heap):Option Value:=match P.underlying t,x with
   | some .string,.string s=>some (.int .i64 s.data.toList.length)
   | some (.array n _),_=>some (.int .i64 n)
   | some (.slice _),.slice _ n _=>some (.int .i64 n)
   | some (.map ..),.map none=>some (.int .i64 0)
   | some (.map ..),.map (some r)=>match h.get r with
    | some (.map es)=>some (.int .i64 es.length)
    | _=>none
   | _,_=>none
theorem Hj (c a b:Operand):fK S E ⟨dst,.pick c a b,ty,pos,after,guard⟩ h K=oA (Nn (cA S.gl E c) (cA S.gl E a) (cA S.gl E b)) h K:=ca S E dst ty pos after guard h K rfl
theorem Es (op:BinOp)(t u:TypeId)(x y:Operand):fK S E ⟨dst,.binOp op t x y u,ty,pos,after,guard⟩ h K=oA (al S.P op t (cA S.gl E x) (cA S.gl E y)) h K:=ca S E dst ty pos after guard h K rfl
theorem Ho (op:UnOp)(t:TypeId)(x:Operand):fK S E ⟨dst,.unOp op t x,ty,pos,after,guard⟩ h K=oA (BI op (cA S.gl E x)) h K:=ca S E dst ty pos after guard h K rfl
theorem zl (x:Operand)(i:Nat):fK S E ⟨dst,.extract x i,ty,pos,after,guard⟩ h K=oA (Nu (cA S.gl E x) i) h K:=ca S E dst ty pos after guard h K rfl
theorem D9 (t:TypeId)(x i:Operand):fK S E ⟨dst,.index t x i,ty,pos,after,guard⟩ h K=oA (aQ S.P t (cA S.gl E x) (cA S.gl E i)) h K:=ca S E dst ty pos after guard h K rfl
theorem uO (t:TypeId)(x i:Operand):fK S E ⟨dst,.indexAddr t x i,ty,pos,after,guard⟩ h K=oA (ag S.P t (cA S.gl E x) (cA S.gl E i)) h K:=ca S E dst ty pos after guard h K rfl
theorem vQ (t:TypeId)(x:Operand)(f:Nat):fK S E ⟨dst,.fieldAddr t x f,ty,pos,after,guard⟩ h K=oA (af S.P t (cA S.gl E x) f) h K:=ca S E dst ty pos after guard h K rfl
theorem D0 (t:TypeId)(x:Operand)(f:Nat):fK S E ⟨dst,.field t x f,ty,pos,after,guard⟩ h K=oA (J9 S.P t (cA S.gl E x) f) h K:=ca S E dst ty pos after guard h K rfl
theorem Jd (args:Array Operand)(ts:Array TypeId):fK S E ⟨dst,.call ⟨.builtin .max,args,ts⟩,ty,pos,after,guard⟩ h K=oA (kz true (args.toList.map (cA S.gl E))) h K:=ca S E dst ty pos after guard h K rfl
theorem IW (args:Array Operand)(ts:Array TypeId):fK S E ⟨dst,.call ⟨.builtin .min,args,ts⟩,ty,pos,after,guard⟩ h K=oA (kz false (args.toList.map (cA S.gl E))) h K:=ca S E dst ty pos after guard h K rfl
theorem kT (o:Oper)(h1:aO o=false)(h2:bn S.P (cA S.gl E) o=none)(h3:aT S.P (cA S.gl E) o=none)(h4:dj S.P eK (cA S.gl E) o h=none):fK S E o h K=oA (aV S.P (cA S.gl E) o h) h K:=by
 rw [dX S E h K h1];unfold bP;rw [h2];dsimp only
 cases aV S.P (cA S.gl E) o h with
 | some v=>rfl
 | none=>dsimp only; rw [h3]; dsimp only; rw [h4]; rfl
theorem HM (t:TypeId)(a:Operand):fK S E ⟨dst,.load t a,ty,pos,after,guard⟩ h K=oA (ah S.P t h (cA S.gl E a)) h K:=kT S E h K _ rfl rfl rfl rfl
theorem Dq (t:TypeId)(x:Operand)(lo hi mx:Option Operand):fK S E ⟨dst,.slice t x lo hi mx,ty,pos,after,guard⟩ h K=oA (aH S.P t (cA S.gl E x) (lo.map (cA S.gl E)) (hi.map (cA S.gl E)) (mx.map (cA S.gl E)) h) h K:=kT S E h K _ rfl rfl rfl rfl
theorem Kq (x:Operand)(t:TypeId):fK S E ⟨dst,.call ⟨.builtin .len,#[x],#[t]⟩,ty,pos,after,guard⟩ h K=oA (Cz S.P t (cA S.gl E x) h) h K:=kT S E h K _ rfl rfl rfl rfl
theorem np (o:Oper)(h1:aO o=false)(h2:bn S.P (cA S.gl E) o=none)(h3:aV S.P (cA S.gl E) o h=none)(h4:aT S.P (cA S.gl E) o=none):fK S E o h K=AF (dj S.P eK (cA S.gl E) o h) h K:=by
 rw [dX S E h K h1];unfold bP;rw [h2];dsimp only;rw [h3];dsimp only;rw [h4]
theorem BS (s x:Operand)(t t':TypeId):fK S E ⟨dst,.call ⟨.builtin .append,#[s,x],#[t,t']⟩,ty,pos,after,guard⟩ h K=AF (ay S.P t t' (cA S.gl E s) (cA S.gl E x) h) h K:=np S E h K _ rfl rfl rfl rfl
theorem Dx (t:TypeId)(a x:Operand):fK S E ⟨dst,.store t a x,ty,pos,after,guard⟩ h K=AF (ai S.P t (cA S.gl E a) (cA S.gl E x) h) h K:=np S E h K _ rfl rfl rfl rfl
def Qa (r:Option (Blk×(Nat->Value)))(h:Heap)(K:VH):Prop:=match r with
 | some (B,f)=>K (f h.next) (h.push B)
 | none=>False
theorem iD (o:Oper)(h1:aO o=false)(h2:bn S.P (cA S.gl E) o=none)(h3:aV S.P (cA S.gl E) o h=none)(h4:dj S.P eK (cA S.gl E) o h=none):fK S E o h K=Qa (aT S.P (cA S.gl E) o) h K:=by
 rw [dX S E h K h1];unfold bP;rw [h2];dsimp only;rw [h3];dsimp only
 cases aT S.P (cA S.gl E) o with
 | some r=>obtain ⟨B,f⟩:=r; rfl
 | none=>dsimp only; rw [h4]; rfl
end
section
variable (P:Program) (t:TypeId) (k:IntKind) (a b:Int)
theorem Ao (hb:b≠0):al P .quo t (.int k a) (.int k b)=some (.int k (k.wrap (a.tdiv b))):=by simp [al,hb]
theorem My (hb:b≠0):al P .rem t (.int k a) (.int k b)=some (.int k (a.tmod b)):=by simp [al,hb]
variable (x y:ByteArray)
end
end
end Go.Ab
end
section
set_option linter.unusedVariables false
namespace Go.Ab
open Go
structure MArc where
 i:Int
 o:Int
 w:List UInt8
 t:Int
structure MSt where
 f:List UInt8
 arcs:List MArc
structure Mach where
 kind:Int
 start:Int
 lead:List UInt8
 states:List MSt
def aD (a:MArc):List Value:=[.int .i64 a.i,.int .i64 a.o,aa a.w,.int .i64 a.t]
def iN (p q:MArc):Bool:=if p.i≠q.i then decide (p.i < q.i) else if p.o≠q.o then decide (p.o < q.o) else if p.w≠q.w then aZ p.w q.w else decide (p.t < q.t)
def mX (x y:Int):Int:=if x < y then -1 else if x > y then 1 else 0
def wc (x y:List UInt8):Int:=if aZ x y=true then -1 else if (aZ x y || x == y)=false then 1 else 0
def Is:List Int->Int
 | []=>0
 | x::l=>if x≠0 then x else Is l
def wW (p q:MArc):Int:=Is [mX p.i q.i,mX p.o q.o,wc p.w q.w,mX p.t q.t]
def q0:MArc:=⟨0,0,[],0⟩
def iw (x:MArc)(out:List MArc):Nat->Nat
 | 0=>0
 | p+1=>if iN x (out.getD p q0)=true then iw x out p else p+1
def m9 (out:List MArc)(x:MArc):List MArc:=out.take (iw x out out.length)++[x]++out.drop (iw x out out.length)
def cP (l:List MArc):List MArc:=l.foldl m9 []
theorem Ad (x:MArc)(out:List MArc): ∀ p,iw x out p<=p
 | 0=>le_refl _
 | p+1=>by
  unfold iw; split
  ·exact Nat.le_succ_of_le (Ad x out p)
  ·exact le_refl _
theorem Ks (out:List MArc)(x:MArc):(m9 out x).length=out.length+1:=by
 have:=Ad x out out.length;unfold m9;rw [length_append,length_append,length_take,length_drop,List.length_singleton]; omega
theorem C6 (l:List MArc)(x:MArc):cP (l++[x])=m9 (cP l) x:=by unfold cP; rw [List.foldl_append]; rfl
theorem pg: ∀ (l out:List MArc),(l.foldl m9 out).length=out.length+l.length
 | [],out=>rfl
 | x::l,out=>by rw [foldl_cons,pg l,Ks,length_cons]; omega
theorem jl (l:List MArc):(cP l).length=l.length:=by unfold cP; rw [pg]; simp
theorem Gg (out:List MArc)(x:MArc):(m9 out x).Perm (x::out):=by
 unfold m9;have h1:(out.take (iw x out out.length)++[x]++out.drop (iw x out out.length)).Perm (x::(out.take (iw x out out.length)++out.drop (iw x out out.length))):=by
  rw [append_assoc];exact List.perm_middle
 rwa [List.take_append_drop] at h1
theorem mE: ∀ (l out:List MArc),(l.foldl m9 out).Perm (l++out)
 | [],out=>List.Perm.refl _
 | x::l,out=>by
  rw [foldl_cons];refine (mE l (m9 out x)).trans ?_;refine ((Gg out x).append_left l).trans ?_;exact List.perm_middle
theorem DR (l:List MArc):(cP l).Perm l:=by
 have:=mE l [];rw [append_nil] at this;exact this
theorem NL {a b:UInt8}(h:a.toNat=b.toNat):a=b:=UInt8.toNat_inj.1 h
theorem lZ (a b:UInt8)(x y:List UInt8):aZ (a::x) (b::y)=true↔a.toNat < b.toNat\/(a=b/\aZ x y=true):=by
 simp [aZ,UInt8.lt_iff_toNat_lt]
theorem j0: ∀ x:List UInt8,¬ aZ x x=true
 | []=>by simp [aZ]
 | a::x=>by
  rw [lZ];rintro (h | ⟨_,h⟩)
  ·omega
  ·exact j0 x h
theorem pB: ∀ {x y z:List UInt8},aZ x y=true->aZ y z=true->aZ x z=true
 | [],[],_,h,_=>by simp [aZ] at h
 | [],_::_,[],_,h=>by simp [aZ] at h
 | [],_::_,_::_,_,_=>by simp [aZ]
 | _::_,[],_,h,_=>by simp [aZ] at h
 | _::_,_::_,[],_,h=>by simp [aZ] at h
 | a::x,b::y,c::z,h1,h2=>by
  rw [lZ] at h1 h2 ⊢;rcases h1 with h1 | ⟨rfl,h1⟩
  ·rcases h2 with h2 | ⟨rfl,h2⟩
   ·exact .inl (by omega)
   ·exact .inl h1
  ·rcases h2 with h2 | ⟨rfl,h2⟩
   ·exact .inl h2
   ·exact .inr ⟨rfl,pB h1 h2⟩
theorem te: ∀ {x y:List UInt8},¬ aZ x y=true-> ¬ aZ y x=true->x=y
 | [],[],_,_=>rfl
 | [],_::_,h,_=>by simp [aZ] at h
 | _::_,[],_,h=>by simp [aZ] at h
 | a::x,b::y,h1,h2=>by
  rw [lZ] at h1 h2;have e:a=b:=NL (by
   have h3: ¬ a.toNat < b.toNat:=fun h=>h1 (.inl h);have h4: ¬ b.toNat < a.toNat:=fun h=>h2 (.inl h);omega)
  subst e;rw [te (fun h=>h1 (.inr ⟨rfl,h⟩)) (fun h=>h2 (.inr ⟨rfl,h⟩))]
theorem rK (p q:MArc):iN p q=true↔p.i < q.i\/(p.i=q.i/\(p.o < q.o\/(p.o=q.o/\(aZ p.w q.w=true\/(p.w=q.w/\p.t < q.t))))):=by
 unfold iN;by_cases h1:p.i=q.i
 ·rw [if_neg (fun e=>e h1)];by_cases h2:p.o=q.o
  ·rw [if_neg (fun e=>e h2)];by_cases h3:p.w=q.w
   ·rw [if_neg (fun e=>e h3)];simp [h1,h2,h3,j0]
   ·rw [if_pos h3];simp [h1,h2,h3]
  ·rw [if_pos h2];simp [h1,h2]
 ·rw [if_pos h1];simp [h1]
theorem CD (p:MArc): ¬ iN p p=true:=by
 rw [rK];rintro (h | ⟨_,h | ⟨_,h | ⟨_,h⟩⟩⟩)
 ·omega
 ·omega
 ·exact j0 _ h
 ·omega
theorem qb {p q r:MArc}(h1:iN p q=true)(h2:iN q r=true):iN p r=true:=by
 rw [rK] at h1 h2 ⊢;rcases h1 with h1 | ⟨e1,h1⟩
 ·rcases h2 with h2 | ⟨e2,h2⟩
  ·exact .inl (by omega)
  ·exact .inl (by omega)
 rcases h2 with h2 | ⟨e2,h2⟩
 ·exact .inl (by omega)
 refine .inr ⟨by omega,?_⟩;rcases h1 with h1 | ⟨f1,h1⟩
 ·rcases h2 with h2 | ⟨f2,h2⟩
  ·exact .inl (by omega)
  ·exact .inl (by omega)
 rcases h2 with h2 | ⟨f2,h2⟩
 ·exact .inl (by omega)
 refine .inr ⟨by omega,?_⟩;rcases h1 with h1 | ⟨g1,h1⟩
 ·rcases h2 with h2 | ⟨g2,h2⟩
  ·exact .inl (pB h1 h2)
  ·exact .inl (g2 ▸ h1)
 rcases h2 with h2 | ⟨g2,h2⟩
 ·exact .inl (g1.symm ▸ h2)
 exact .inr ⟨g1.trans g2,by omega⟩
theorem uF {p q:MArc}(h1: ¬ iN p q=true)(h2: ¬ iN q p=true):p=q:=by
 rw [rK] at h1 h2;have e1:p.i=q.i:=by
  have h3: ¬ p.i < q.i:=fun h=>h1 (.inl h);have h4: ¬ q.i < p.i:=fun h=>h2 (.inl h);omega
 have e2:p.o=q.o:=by
  have h3: ¬ p.o < q.o:=fun h=>h1 (.inr ⟨e1,.inl h⟩);have h4: ¬ q.o < p.o:=fun h=>h2 (.inr ⟨e1.symm,.inl h⟩);omega
 have e3:p.w=q.w:=te (fun h=>h1 (.inr ⟨e1,.inr ⟨e2,.inl h⟩⟩)) (fun h=>h2 (.inr ⟨e1.symm,.inr ⟨e2.symm,.inl h⟩⟩));have e4:p.t=q.t:=by
  have h3: ¬ p.t < q.t:=fun h=>h1 (.inr ⟨e1,.inr ⟨e2,.inr ⟨e3,h⟩⟩⟩);have h4: ¬ q.t < p.t:=fun h=>h2 (.inr ⟨e1.symm,.inr ⟨e2.symm,.inr ⟨e3.symm,h⟩⟩⟩);omega
 cases p; cases q
 simp_all
def Dd (p q:MArc):Prop:= ¬ iN q p=true
theorem sF {p q r:MArc}(h1:Dd p q)(h2:Dd q r):Dd p r:=fun h=>by
 by_cases h3:iN p q=true
 ·exact h2 (qb h h3)
 ·rw [uF h3 h1] at h;exact h2 h
theorem Jh {p q:MArc}(h:iN p q=true):Dd p q:=fun h2=>CD _ (qb h h2)
theorem E3 (x:MArc)(out:List MArc): ∀ (p j:Nat),iw x out p<=j->j < p->iN x (out.getD j q0)=true
 | 0,j,_,h=>absurd h (Nat.not_lt_zero _)
 | p+1,j,h1,h2=>by
  unfold iw at h1;split at h1
  ·next hb=>
   by_cases e:j=p
   ·rw [e]; exact hb
   ·exact E3 x out p j h1 (by omega)
  ·omega
theorem Fq (x:MArc)(out:List MArc): ∀ (p:Nat),iw x out p=0\/ ∃ j,iw x out p=j+1/\ ¬ iN x (out.getD j q0)=true
 | 0=> .inl rfl
 | p+1=>by
  unfold iw;split
  ·exact Fq x out p
  ·next hb=>exact .inr ⟨p,rfl,hb⟩
theorem Cx {out:List MArc}(x:MArc)(h:out.Pairwise Dd):(m9 out x).Pairwise Dd:=by
 unfold m9;have hle:=Ad x out out.length;have hhi:=E3 x out out.length;have hlo:=Fq x out out.length;generalize iw x out out.length=p at *;have hx1: ∀ y∈out.take p,Dd y x:=fun y hy=>by
  rcases hlo with rfl | ⟨j,rfl,hj⟩
  ·simp at hy
  ·obtain ⟨i,hi,e⟩:=List.mem_iff_getElem.1 hy;rw [length_take] at hi;rw [List.getElem_take] at e;have hjl:j < out.length:=by omega
   rw [gD,gE hjl] at hj;by_cases ij:i=j
   ·subst ij; rw [<-e]; exact hj
   ·have:=List.pairwise_iff_getElem.1 h i j (by omega) hjl (by omega);rw [<-e];exact sF this hj
 have hx2: ∀ y∈out.drop p,Dd x y:=fun y hy=>by
  obtain ⟨i,hi,e⟩:=List.mem_iff_getElem.1 hy;rw [length_drop] at hi;rw [List.getElem_drop] at e;have hb:=hhi (p+i) (by omega) (by omega);rw [gD,gE (by omega)] at hb;rw [<-e];exact Jh hb
 have hs:=h;rw [<-List.take_append_drop p out,List.pairwise_append] at hs;rw [append_assoc,List.pairwise_append];refine ⟨hs.1,?_,fun y hy z hz=> ?_⟩
 ·rw [List.singleton_append,List.pairwise_cons];exact ⟨hx2,hs.2.1⟩
 ·rcases mem_append.1 hz with h1 | h1
  ·rw [mem_singleton.1 h1]; exact hx1 y hy
  ·exact hs.2.2 y hy z h1
theorem kQ: ∀ (l out:List MArc),out.Pairwise Dd->(l.foldl m9 out).Pairwise Dd
 | [],out,h=>h
 | x::l,out,h=>by
  rw [foldl_cons];exact kQ l _ (Cx x h)
theorem Ai (l:List MArc):(cP l).Pairwise Dd:=kQ l [] List.Pairwise.nil
theorem tA: ∀ {l l':List MArc},l.Perm l'->l.Pairwise Dd->l'.Pairwise Dd->l=l'
 | [],l',hp,_,_=>by rw [List.nil_perm.1 hp]
 | x::l,[],hp,_,_=>by have:=hp.length_eq; simp at this
 | x::l,y::l',hp,h1,h2=>by
  have h1':=List.pairwise_cons.1 h1;have h2':=List.pairwise_cons.1 h2;have e:x=y:=by
   have hx:x∈y::l':=hp.subset (mem_cons_self ..);have hy:y∈x::l:=hp.symm.subset (mem_cons_self ..);rcases mem_cons.1 hx with h | h
   ·exact h
   ·rcases mem_cons.1 hy with h' | h'
    ·exact h'.symm
    ·exact uF (h2'.1 x h) (h1'.1 y h')
  subst e;rw [tA (List.Perm.cons_inv hp) h1'.2 h2'.2]
theorem JH {l l':List MArc}(hp:l'.Perm l)(hs:l'.Pairwise Dd):l'=cP l:=tA (hp.trans (DR l).symm) hs (Ai l)
theorem EP (x y:Int):(x < y/\mX x y = -1)\/(x=y/\mX x y=0)\/(y < x/\mX x y=1):=by
 unfold mX;by_cases h:x < y
 ·exact .inl ⟨h,by simp [h]⟩
 ·by_cases h2:x=y
  ·exact .inr (.inl ⟨h2,by simp [h2]⟩)
  ·exact .inr (.inr ⟨by omega,by simp [h]; omega⟩)
theorem OO (x y:List UInt8):(aZ x y=true/\wc x y = -1)\/(x=y/\wc x y=0)\/(x≠y/\ ¬ aZ x y=true/\wc x y=1):=by
 unfold wc;by_cases h:aZ x y=true
 ·exact .inl ⟨h,by rw [if_pos h]⟩
 ·by_cases h2:x=y
  ·subst h2; exact .inr (.inl ⟨rfl,by simp [h]⟩)
  ·exact .inr (.inr ⟨h2,h,by simp [h,h2]⟩)
theorem CT (p q:MArc):wW p q < 0↔iN p q=true:=by
 rw [rK];unfold wW;rcases EP p.i q.i with ⟨h1,e1⟩ | ⟨h1,e1⟩ | ⟨h1,e1⟩ <;> rw [e1]
 ·simp [Is,h1]
 ·rcases EP p.o q.o with ⟨h2,e2⟩ | ⟨h2,e2⟩ | ⟨h2,e2⟩ <;> rw [e2]
  ·simp [Is,h1,h2]
  ·rcases OO p.w q.w with ⟨h3,e3⟩ | ⟨h3,e3⟩ | ⟨h3,h3',e3⟩ <;> rw [e3]
   ·simp [Is,h1,h2,h3]
   ·rcases EP p.t q.t with ⟨h4,e4⟩ | ⟨h4,e4⟩ | ⟨h4,e4⟩ <;> rw [e4] <;> simp [Is,h1,h2,h3,h4,j0] <;> omega
   ·simp [Is,h1,h2,h3,h3']
  ·simp [Is,h1]; omega
 ·simp [Is]; omega
def Hs:List Value->Option (List MArc)
 | []=>some []
 | .int .i64 i :: .int .i64 o :: .string w :: .int .i64 t::r=>(Hs r).map (⟨i,o,w.data.toList,t⟩ :: ·)
 | _=>none
theorem BZ: ∀ l:List MArc,Hs (l.map aD).flatten=some l
 | []=>rfl
 | q::l=>by
  show (Hs (l.map aD).flatten).map _=_;rw [BZ l]; rfl
theorem Km (cs:List Value): ∀ {l:List MArc},Hs cs=some l->cs=(l.map aD).flatten:=by
 fun_induction Hs cs with
 | case1=>
  intro l h;obtain rfl:=oI h;rfl
 | case2 i o w t r ih=>
  intro l h;obtain ⟨k,h1,rfl⟩:=map_eq_some_iff.1 h;rw [ih h1]; rfl
 | case3=>intro l h; cases h
noncomputable def Co (g k:Nat)(srt:List Value->Option (List Value)):oz:=fun _ args h=>match args with
 | [.slice a n c,.func (.func g') ⟨[]⟩ ⟨[]⟩]=>if g'=g then (if n=0 then some (.tuple ⟨[]⟩,h) else match a with
   | some ⟨b,off,none⟩=>(match h.get b with
    | some (.cells cs t sz true)=>if n < 4611686018427387904/\off+n*k<=cs.length then (srt ((cs.drop off).take (n*k))).map fun cs'=>(.tuple ⟨[]⟩,h.set b (.cells (cs.take off++cs'++cs.drop (off+n*k)) t sz true)) else none
    | _=>none)
   | _=>none) else none
 | _=>none
def Io (cs:List Value):Option (List Value):=(Hs cs).map fun l=>((cP l).map aD).flatten
end Go.Ab
end
section
namespace Go.Ab
open Go Go.RowKit
section
variable {β:Inj} {P:Program} {gl:Nat->Bool}
theorem IR {cf:bT}{tm:List Value}{a:Act}{h:Heap}{w:World}{o:Oper}{v:Value}{u:Upd}(hs:Sim β h w)(hg:Gl gl β)(ht:LRel β tm a.tmps.toList)(hc:aO o=false)(hr:bP P cf (ev gl tm) o h=some (v,u)):
  ∃ v' w' β',Step β h w β' (u.app h) w'/\VRel β' v v'/\((execOp a.eval o).run P w = .ok (.value v') w'\/((execOp a.eval o).run P w = .ok .skip w'/\v'=undef)):=by
 have hρ:=sG (β:=β) hg ht;unfold bP at hr;split at hr
 ·next v0 hp=>
  simp only [Option.some.injEq,Prod.mk.injEq] at hr;obtain ⟨rfl,rfl⟩:=hr;obtain ⟨v',h1,h2⟩:=lD hρ hp w;exact ⟨v',w,β,Step.refl hs,h2,.inl h1⟩
 ·split at hr
  ·next v0 hp=>
   simp only [Option.some.injEq,Prod.mk.injEq] at hr;obtain ⟨rfl,rfl⟩:=hr;obtain ⟨v',h1,h2⟩:=lc hρ hs hp;exact ⟨v',w,β,Step.refl hs,h2,.inl h1⟩
  ·split at hr
   ·next B f hp=>
    simp only [Option.some.injEq,Prod.mk.injEq] at hr;obtain ⟨rfl,rfl⟩:=hr;obtain ⟨v',w',h1,h2⟩:=kh hρ (w:=w) hp;obtain ⟨β',h3,h4⟩:=h2.step hs;exact ⟨v',w',β',h3,h4,.inl h1⟩
   ·obtain ⟨v',w',β',h1,h2,h3⟩:=sa hρ hc hs hr;rcases h1 with h1 | ⟨h1,rfl⟩
    ·exact ⟨v',w',β',h2,h3,.inl h1⟩
    ·exact ⟨undef,w',β',h2,h3,.inr ⟨h1,rfl⟩⟩
theorem MK {cf:bT}{ops:Array Oper}{cs:List Frame}(Q:Exit->Act->List Frame->World->Prop): ∀ (rest:List Oper)(i:Nat){β:Inj}{tm tm':List Value}{a:Act}{h h':Heap}{w:World},
  ops.toList.drop i=rest->(rest.all fun o=> !aO o)=true->f0 P gl cf ops rest tm h=some (tm',h')->Sim β h w->Gl gl β->LRel β tm a.tmps.toList->
  (∀ a' w' β',Step β h w β' h' w'->LRel β' tm' a'.tmps.toList->a'.defers=a.defers->Q .normal a' cs w')->wpOpsS P ops Q (List.range' i rest.length) a cs w
 | [],i,β,tm,tm',a,h,h',w,hd,_,hr,hs,hg,ht,hk=>by
  simp only [f0,Option.some.injEq,Prod.mk.injEq] at hr;obtain ⟨rfl,rfl⟩:=hr;exact hk a w β (Step.refl hs) ht rfl
 | o::rest,i,β,tm,tm',a,h,h',w,hd,hall,hr,hs,hg,ht,hk=>by
  have ho:ops[i]?=some o:=by
   have:(ops.toList.drop i)[0]?=some o:=by rw [hd]; rfl
   rw [getElem?_drop] at this;rw [<-getElem?_toList]; simpa using this
  have hd':ops.toList.drop (i+1)=rest:=by rw [<-drop_drop,hd]; rfl
  simp only [all_cons,and_eq_true,not_eq_true'] at hall;simp only [length_cons,range'_succ,wpOpsS,ho];simp only [f0] at hr;split at hr
  ·next hw=>
   rw [gY ht hw];simp only [if_true];split at hr
   ·next v u hop=>
    obtain ⟨v',w',β',hst,hv,hrun⟩:=IR hs hg ht hall.1 hop;have hgo:=MK (cs:=cs) Q rest (i+1) hd' (by simpa using hall.2) hr hst.sim (hg.mono hst.le) (gj (ht.mono hst.le) o.dst hv) fun a' w2 β2 h1 h2 h3=>hk a' w2 β2 (hst.trans h1) h2 (h3.trans (bU a o.dst v'));rcases hrun with hrun | ⟨hrun,rfl⟩
    ·rw [hrun]; exact hgo
    ·rw [hrun]; exact hgo
   ·cases hr
  ·next hw=>
   rw [gY ht hw];simp only [false_eq_true,if_false];exact MK (cs:=cs) Q rest (i+1) hd' (by simpa using hall.2) hr hs hg (gj ht o.dst (.undef β)) fun a' w2 β2 h1 h2 h3=>hk a' w2 β2 h1 h2 (h3.trans (bU a o.dst undef))
  ·cases hr
noncomputable def FJ (P:Program)(fn:Func)(ops0 ops1:Array Oper)(c:Operand)(n:Nat):Bool:=
 match ops0.toList with
 | o::rest=>match o.dst with
  | some d=>match f0 P zv eK ops0 rest ((List.replicate n junk++List.replicate (fn.ntmps - n) undef).set d .nilIface) ⟨0,.nil⟩ with
   | some (tm1,h1)=>match f0 P zv eK ops1 ops1.toList tm1 h1 with
    | some (tm2,_)=>match ev zv tm2 c with
     | .bool false=>(rest.all fun o=> !aO o) && (ops1.toList.all fun o=> !aO o) && o.guard.isNone && fn.results.size == 0
     | _=>false
    | none=>false
   | none=>false
  | none=>false
 | []=>false
theorem Lj {fC:FuncId}{fn:Func}{i0 i1 n:Nat}{o0:Oper}{rest0:List Oper}{ops1:Array Oper}{c:Operand}{X:Code}(hf:P.funcs[fC]?=some fn)(hb:fn.body=some (.seq (.region i0 (o0::rest0).toArray false) (.seq (.region i1 ops1 false) (.cond c X .skip))))
  (ho:o0.op = .call { callee:= .builtin .recover,args:= #[],argTypes:= #[] }) (hrun:FJ P fn (o0::rest0).toArray ops1 c n=true) (args:Array Value) (w:World) (hn:args.size=n):
  CallsDIn Fence.wide 0 P fC args .returning w fun e u' w'=>(∃ v,e = .returned v)/\u' = .returning/\Below w.heap.size w w'/\w.drawn<=w'.drawn:=by
 subst hn;unfold FJ at hrun;simp only at hrun;split at hrun
 ·next d hd=>
  split at hrun
  ·next tm1 h1 hr1=>
   split at hrun
   ·next tm2 h2 hr2=>
    split at hrun
    ·next hev=>
     simp only [and_eq_true,beq_iff_eq,Option.isNone_iff_eq_none] at hrun;obtain ⟨⟨⟨hall0,hall1⟩,hgd⟩,hres⟩:=hrun;refine rS hf hb fun c₀ cs hu=> ?_;refine wpS_seq (wpS_region ?_);have hjunk: ∀ (l:List Value),LRel β0 (List.replicate l.length junk) l:=fun l=>⟨by simp,fun i v v' h1 h2=>by
      rw [getElem?_replicate] at h1;split at h1
      ·obtain rfl:=oI h1; exact .junk v'
      ·cases h1⟩
     have hrep: ∀ k,LRel β0 (List.replicate k undef) (List.replicate k undef):=fun k=>⟨rfl,fun i v v' h1 h2=>by
      rw [getElem?_replicate] at h1 h2;split at h1
      ·next hi=>rw [if_pos hi] at h2; obtain rfl:=oI h1; obtain rfl:=oI h2; exact .undef _
      ·cases h1⟩
     have ht0:LRel β0 (List.replicate args.size junk++List.replicate (fn.ntmps - args.size) undef) (args++Array.replicate (fn.ntmps - args.size) undef).toList:=by
      simp only [Array.toList_append,Array.toList_replicate];have:=hjunk args.toList;rw [length_toList] at this;exact this.append (hrep _)
     have hw0: ∀ t,Region.wanted o0 (yielded (o0::rest0).toArray t)=true:=fun t=>by simp [Region.wanted,hgd]
     have hrec: ∀ (ρ:Operand->Value),(execOp ρ o0).run P w = .ok .recover w:=fun ρ=>by
      unfold execOp;simp only [ho,resolve,Sem.run_bind,Sem.run_pure,Result.andThen_ok,invoke];rfl
     have hnone:recoverD (c₀::cs)=none:=by simp [recoverD,hu]
     show wpOpsS P (o0::rest0).toArray _ (List.range (rest0.length+1)) _ _ w;rw [List.range_eq_range',range'_succ];rw [wpOpsS];simp only [List.getElem?_toArray,getElem?_cons_zero,hw0,if_true,hrec,hnone];rw [hd];refine MK (cf:=eK) (gl:=zv) _ rest0 1 (by simp) hall0 hr1 (Aj 0 w) gl_nil (gj ht0 (some d) (v:= .nilIface) .nilIface) fun a1 w1 β1 hst1 ht1 hd1=> ?_;refine wpS_seq (wpS_region ?_);rw [<-length_toList,List.range_eq_range'];refine MK (cf:=eK) (gl:=zv) _ ops1.toList 0 (by simp) hall1 hr2 hst1.sim (gl_nil.mono hst1.le) ht1 fun a2 w2 β2 hst2 ht2 hd2=> ?_;refine wpS_cond (t:=false) ?_ ?_
     ·have:=sG (gl_nil.mono (hst1.trans hst2).le) ht2 c;rw [hev] at this;exact this.inv_bool
     ·show Code.wpS P .skip _ a2 (c₀::cs) w2;refine wpS_of_wp (wp_skip ?_);refine ⟨hd2.trans (hd1.trans (bU _ _ _)),.returning,by cases c₀; simp_all,.tuple #[],?_,⟨⟨_,rfl⟩,rfl,py (hst1.trans hst2),(hst1.trans hst2).tape.2⟩⟩;have:fn.results = #[]:=Array.eq_empty_of_size_eq_zero hres;simp [results,this]
    ·cases hrun
   ·cases hrun
  ·cases hrun
 ·cases hrun
end
end Go.Ab
end
section
namespace Go.Proofs.YtoabjjimjldcfaaGreatDoor
open Go Go.Ab Go.RowKit
theorem LK:(((Tryz.prog.funcs.toList.drop 0).take 40).all fun f=>dg f)=true:=by kernel_rfl
theorem LO:(((Tryz.prog.funcs.toList.drop 40).take 40).all fun f=>dg f)=true:=by kernel_rfl
theorem MY:(((Tryz.prog.funcs.toList.drop 80).take 40).all fun f=>dg f)=true:=by kernel_rfl
theorem Na:(((Tryz.prog.funcs.toList.drop 120).take 40).all fun f=>dg f)=true:=by kernel_rfl
theorem L7:(((Tryz.prog.funcs.toList.drop 160).take 40).all fun f=>dg f)=true:=by kernel_rfl
theorem Me:(((Tryz.prog.funcs.toList.drop 200).take 40).all fun f=>dg f)=true:=by kernel_rfl
theorem GV:Tryz.prog.funcs.toList.length=230:=by kernel_rfl
theorem KX (i:Nat)(fn:Func)(h:Tryz.prog.funcs.toList[i]?=some fn):dg fn=true:=by
 have key: ∀ a,((Tryz.prog.funcs.toList.drop a).take 40).all (fun f=>dg f)=true->a<=i->i < a+40->dg fn=true:=fun a ha h1 h2=>by
  refine all_eq_true.1 ha fn (List.mem_of_getElem? (i:=i - a) ?_);rw [List.getElem?_take,if_pos (by omega),getElem?_drop,show a+(i - a)=i by omega];exact h
 have hlt:i < 230:=by
  have:=(List.getElem?_eq_some_iff.1 h).1;rw [GV] at this; exact this
 by_cases h0:i < 40
 ·exact key 0 LK (by omega) (by omega)
 by_cases h1:i < 80
 ·exact key 40 LO (by omega) (by omega)
 by_cases h2:i < 120
 ·exact key 80 MY (by omega) (by omega)
 by_cases h3:i < 160
 ·exact key 120 Na (by omega) (by omega)
 by_cases h4:i < 200
 ·exact key 160 L7 (by omega) (by omega)
 exact key 200 Me (by omega) (by omega)
theorem GA:(Tryz.prog.funcs.toList.all fun f=> !(f.name == "runtime.NumGoroutine"))=true:=by kernel_rfl
theorem text_ok:TextOk Tryz.prog:={
 names:=fun _ fn h=>by
  have hm:fn∈Tryz.prog.funcs.toList:=by
   rw [<-getElem?_toList] at h;exact List.mem_of_getElem? h
  have:=all_eq_true.1 GA fn hm;simpa using this
 draws:=fun f fn h=>KX f fn (by rw [getElem?_toList]; exact h) }
def seqL:Code->Code
 | .seq a _=>a
 | c=>c
def seqR:Code->Code
 | .seq _ b=>b
 | c=>c
noncomputable def Fx:Code:=(Tryz.f134.body).getD .skip
theorem zY (args:Array Value)(w:World)(h:args.size=2):CallsDIn Fence.wide 0 Tryz.prog 157 args .returning w fun e u' w'=>(∃ v,e = .returned v)/\u' = .returning/\Below w.heap.size w w'/\w.drawn<=w'.drawn:=
 Lj (n:=2) Tryz.func157 rfl rfl (by kernel_rfl) args w h
end Go.Proofs.YtoabjjimjldcfaaGreatDoor
end
section
namespace Go.Proofs.YtoabjjimjldcfaaGreatDoor
open Go Go.Ab
def Lf:Nat->Bool:=fun g=>Nat.beq g 1
noncomputable def SS0:Sx:=⟨Tryz.prog,zv,fun _=>none⟩
noncomputable def Rm:FuncId->Option oz:=fun f=>JR (Nat.beq f 48) (some (Co 47 4 Io)) (JR (Nat.beq f 194) (some kX) (JR (Nat.beq f 196) (some jH) (JR (Nat.beq f 134) (some (zi Tryz.prog Lf Tryz.f134 (seqL Fx) (seqR (seqR Fx)) 5)) none)))
noncomputable def SS:Sx:=⟨Tryz.prog,Lf,Rm⟩
theorem QC:an Tryz.prog 35=some 1:=by kernel_rfl
end Go.Proofs.YtoabjjimjldcfaaGreatDoor
end
section
namespace Go.Ab
open Go
noncomputable section
def au (b:Bool)(A B:Prop):Prop:=Bool.rec (motive:=fun _=>Prop) B A b
theorem ae {b:Bool}{A B:Prop}(h1:b=true->A)(h2:b=false->B):au b A B:=by
 cases b with
 | true=>exact h1 rfl
 | false=>exact h2 rfl
theorem qj {b:Bool}{A B:Prop}(h:au b A B):(b=true/\A)\/(b=false/\B):=by
 cases b with
 | true=>exact .inl ⟨rfl,h⟩
 | false=>exact .inr ⟨rfl,h⟩
abbrev TS:=List Value
abbrev cB:=Exit->TS->Heap->Prop
abbrev TH:=TS->Heap->Prop
def fr (tm:TS):Fr:=fun t=>tm.getD t undef
def FP (P:Program)(t:TypeId)(K:Value->Prop):Prop:=match P.underlying t with
 | some (.int k)=> ∃ n:Int,K (.int k n)
 | some .bool=> ∃ b:Bool,K (.bool b)
 | some .string=> ∃ l:List UInt8,K (aa l)
 | some (.slice _)=> ∃ (a:Option Addr)(n c:Nat),K (.slice a n c)
 | some (.pointer _)=> ∃ a:Option Addr,K (.pointer a)
 | some (.struct _)=> ∃ cs:List Value,K (.agg ⟨cs⟩)
 | some (.array ..)=> ∃ cs:List Value,K (.agg ⟨cs⟩)
 | some (.func ..)=> ∃ (g:Nat)(a c:List Value),K (.func (.func g) ⟨a⟩ ⟨c⟩)
 | _=> ∃ v:Value,K v
def NQ (P:Program):List TypeId->(List Value->Prop)->Prop
 | [],K=>K []
 | t::ts,K=>FP P t fun x=>NQ P ts fun xs=>K (x::xs)
def Cd (P:Program)(t:TypeId)(K:Value->Prop):Prop:=match P.underlying t with
 | some (.tuple ts)=>NQ P ts.toList fun vs=>K (.tuple ⟨vs⟩)
 | _=>FP P t K
theorem vd {P:Program}{t:TypeId}{K:Value->Prop}(hx:FP P t K): ∃ v,K v:=by
 unfold FP at hx;split at hx
 ·obtain ⟨_,h⟩:=hx; exact ⟨_,h⟩
 ·obtain ⟨_,h⟩:=hx; exact ⟨_,h⟩
 ·obtain ⟨_,h⟩:=hx; exact ⟨_,h⟩
 ·obtain ⟨_,_,_,h⟩:=hx; exact ⟨_,h⟩
 ·obtain ⟨_,h⟩:=hx; exact ⟨_,h⟩
 ·obtain ⟨_,h⟩:=hx; exact ⟨_,h⟩
 ·obtain ⟨_,h⟩:=hx; exact ⟨_,h⟩
 ·obtain ⟨_,_,_,h⟩:=hx; exact ⟨_,h⟩
 ·exact hx
theorem yq {P:Program}: ∀ {ts:List TypeId}{K:List Value->Prop},NQ P ts K-> ∃ vs,K vs
 | [],_,hx=>⟨_,hx⟩
 | t::ts,K,hx=>by
  obtain ⟨x,h⟩:=vd hx;obtain ⟨xs,h⟩:=yq h;exact ⟨_,h⟩
theorem me {P:Program}{t:TypeId}{K:Value->Prop}(hx:Cd P t K): ∃ v,K v:=by
 unfold Cd at hx;split at hx
 ·obtain ⟨_,h⟩:=yq hx; exact ⟨_,h⟩
 ·exact vd hx
def Al (P:Program)(t:TypeId)(r:Option Value)(h:Heap)(K:VH):Prop:=Cd P t fun x=>r=some x/\K x h
def Qw (r:Option Value)(h:Heap)(K:VH):Prop:= ∃ a:Addr,r=some (.pointer (some a))/\K (.pointer (some a)) h
def Nv (r:Option (Value×Upd))(h:Heap)(K:VH):Prop:= ∃ v u,r=some (v,u)/\K v (u.app h)
def P7 (r:Option (Value×Upd))(h:Heap)(K:VH):Prop:= ∃ u,r=some (undef,u)/\K undef (u.app h)
def Rf (r:Option (Value×Upd))(h:Heap)(K:VH):Prop:= ∃ (a:Option Addr)(n c:Nat)(u:Upd),r=some (.slice a n c,u)/\K (.slice a n c) (u.app h)
def Rg (r:Option (Value×Upd))(h:Heap)(K:VH):Prop:= ∃ (n:Int)(u:Upd),r=some (.int .i64 n,u)/\K (.int .i64 n) (u.app h)
def iy (k:Nat):Value:= .pointer (some ⟨k,0,none⟩)
def gU (n c k:Nat):Value:= .slice (some ⟨k,0,none⟩) n c
abbrev OA:Type:=Option Addr
abbrev LV:Type:=List Value
abbrev LB:Type:=List UInt8
abbrev uN (l:List Value)(k:Nat):List Value:=l++List.replicate k undef
abbrev pA (k:Nat):Value:= .pointer (some ⟨k,0,none⟩)
abbrev sA (k n c:Nat):Value:= .slice (some ⟨k,0,none⟩) n c
abbrev nA:Value:= .slice none 0 0
abbrev iA (n:Nat):Value:= .int .i64 (n:Int)
abbrev xI (k:IntKind)(r:Option Value)(K:Int->Prop):Prop:= ∃ n:Int,r=some (.int k n)/\K n
abbrev xB (r:Option Value)(K:Bool->Prop):Prop:= ∃ b:Bool,r=some (.bool b)/\K b
abbrev xS (r:Option Value)(K:List UInt8->Prop):Prop:= ∃ l:List UInt8,r=some (aa l)/\K l
abbrev xL (r:Option Value)(K:Option Addr->Nat->Nat->Prop):Prop:= ∃ (a:Option Addr)(n c:Nat),r=some (.slice a n c)/\K a n c
abbrev xO (r:Option Value)(K:Option Addr->Prop):Prop:= ∃ a:Option Addr,r=some (.pointer a)/\K a
abbrev xP (r:Option Value)(K:Addr->Prop):Prop:= ∃ a:Addr,r=some (.pointer (some a))/\K a
abbrev xA (r:Option Value)(K:List Value->Prop):Prop:= ∃ cs:List Value,r=some (.agg ⟨cs⟩)/\K cs
abbrev xF (r:Option Value)(K:Nat->List Value->List Value->Prop):Prop:= ∃ (g:Nat)(a c:List Value),r=some (.func (.func g) ⟨a⟩ ⟨c⟩)/\K g a c
abbrev yI (k:IntKind)(r:Value)(K:Int->Prop):Prop:= ∃ n:Int,r = .int k n/\K n
abbrev yB (r:Value)(K:Bool->Prop):Prop:= ∃ b:Bool,r = .bool b/\K b
abbrev yS (r:Value)(K:List UInt8->Prop):Prop:= ∃ l:List UInt8,r=aa l/\K l
abbrev yL (r:Value)(K:Option Addr->Nat->Nat->Prop):Prop:= ∃ (a:Option Addr)(n c:Nat),r = .slice a n c/\K a n c
abbrev yA (r:Value)(K:List Value->Prop):Prop:= ∃ cs:List Value,r = .agg ⟨cs⟩/\K cs
abbrev yF (r:Value)(K:Nat->List Value->List Value->Prop):Prop:= ∃ (g:Nat)(a c:List Value),r = .func (.func g) ⟨a⟩ ⟨c⟩/\K g a c
abbrev yV (r:Value)(K:Value->Prop):Prop:= ∃ v:Value,r=v/\K v
abbrev xU (r:Option (Value×Upd))(h:Heap)(K:Upd->Heap->Prop):Prop:= ∃ u:Upd,r=some (undef,u)/\K u (u.app h)
abbrev xE (r:Option (Value×Upd))(h:Heap)(K:Option Addr->Nat->Nat->Upd->Heap->Prop):Prop:= ∃ (a:Option Addr)(n c:Nat)(u:Upd),r=some (.slice a n c,u)/\K a n c u (u.app h)
abbrev xC (r:Option (Value×Upd))(h:Heap)(K:Int->Upd->Heap->Prop):Prop:= ∃ (n:Int)(u:Upd),r=some (.int .i64 n,u)/\K n u (u.app h)
abbrev xG (r:Option (Value×Upd))(h:Heap)(K:Value->Upd->Heap->Prop):Prop:= ∃ (v:Value)(u:Upd),r=some (v,u)/\K v u (u.app h)
abbrev xN (r:Option (Blk×(Nat->Value)))(h:Heap)(K:Blk->Heap->Prop):Prop:= ∃ B:Blk,r=some (B,iy)/\K B (h.push B)
abbrev xR (r:Option (Blk×(Nat->Value)))(h:Heap)(K:Blk->Nat->Nat->Heap->Prop):Prop:= ∃ (B:Blk)(n c:Nat),r=some (B,gU n c)/\K B n c (h.push B)
abbrev zN (r:Option (Blk×(Nat->Value)))(K:Blk->Prop):Prop:= ∃ B:Blk,r=some (B,iy)/\K B
abbrev zR (r:Option (Blk×(Nat->Value)))(K:Blk->Nat->Nat->Prop):Prop:= ∃ (B:Blk)(n c:Nat),r=some (B,gU n c)/\K B n c
def Qg (r:Option (Blk×(Nat->Value)))(h:Heap)(K:VH):Prop:= ∃ B,r=some (B,iy)/\K (iy h.next) (h.push B)
def Qr (r:Option (Blk×(Nat->Value)))(h:Heap)(K:VH):Prop:= ∃ B n c,r=some (B,gU n c)/\K (gU n c h.next) (h.push B)
def Rl (r:Option (Blk×(Nat->Value)))(h:Heap)(K:VH):Prop:= ∃ B,r=some (B,fun k=> .map (some k))/\K (.map (some h.next)) (h.push B)
def aF (P:Program)(t:TypeId):Option (Blk×(Nat->Value)):=aT P (fun _=>undef) ⟨none,.alloc t,0,"",#[],none⟩
def dc (P:Program)(t:TypeId)(v:Value):Option (Blk×(Nat->Value)):=aT P (fun _=>v) ⟨none,.box t (.tmp 0),0,"",#[],none⟩
def aP (P:Program)(t:TypeId)(l c:Value):Option (Blk×(Nat->Value)):=aT P (fun x=>match x with | .tmp 0=>l | _=>c) ⟨none,.makeSlice t (.tmp 0) (.tmp 1),0,"",#[],none⟩
def ak (P:Program)(t:TypeId)(len:Nat)(vs:List (Nat×Value)):Option (Blk×(Nat->Value)):=
 aT P (fun x=>match x with | .tmp i=>(vs.getD i (0,undef)).2 | _=>undef) ⟨none,.buildSlice t len ((List.range vs.length).map fun i=>((vs.getD i (0,undef)).1,.tmp i)).toArray,0,"",#[],none⟩
def Kx (c a b:Value)(h:Heap)(K:VH):Prop:=match c with
 | .bool t=>au t (K a h) (K b h)
 | _=>False
def Oo (P:Program)(op:BinOp)(t ty:TypeId)(x y:Value)(h:Heap)(K:VH):Prop:=match op with
 | .quo | .rem | .shl | .shr=>Al P ty (al P op t x y) h K
 | .add=>(match x with | .string _=>Al P ty (al P .add t x y) h K | _=>oA (al P .add t x y) h K)
 | .eql=>(match x with | .pointer _=>Al P ty (al P .eql t x y) h K | .agg _=>Al P ty (al P .eql t x y) h K | _=>oA (al P .eql t x y) h K)
 | .neq=>(match x with | .pointer _=>Al P ty (al P .neq t x y) h K | .agg _=>Al P ty (al P .neq t x y) h K | _=>oA (al P .neq t x y) h K)
 | op=>oA (al P op t x y) h K
def KC (S:Sx)(ty:TypeId)(f:Value)(args:List Value)(h:Heap)(K:VH):Prop:=match f with
 | .func (.func g) first captured=>au (Nat.blt g YB) (FW S g (first.toList++args++captured.toList) h fun v h=>Cd S.P ty fun x=>v=x/\K x h) False
 | .func (.yield k) ⟨[]⟩ ⟨[]⟩=>FW S (YB+k) args h fun v h=>Cd S.P ty fun x=>v=x/\K x h
 | _=>False
def tH (P:Program)(s d:TypeId)(x:Value)(h:Heap):Option Value:=aV P (fun _=>x) ⟨none,.convert s d (.tmp 0),0,"",#[],none⟩ h
def QG (t:Option TypeDesc):Bool:=match t with
 | some .unsafePointer=>true
 | _=>false
def iT (P:Program)(t:TypeId)(m k x:Value)(h:Heap):Option (Value×Upd):=match P.underlying t,m with
  | some (.map kt _),.map (some r)=>match h.get r with
   | some (.map es)=>if j8 P kt k then (iY P kt k x es).map fun es'=>(undef,.set r (.map es')) else none
   | _=>none
  | _,_=>none
def Fg (P:Program)(t:TypeId)(m k:Value)(ok:Bool)(h:Heap):Option Value:=aV P (fun x=>match x with | .tmp 0=>m | _=>k) ⟨none,.lookup t (.tmp 0) (.tmp 1) ok,0,"",#[],none⟩ h
def qi (P:Program)(t:TypeId):Option (Blk×(Nat->Value)):=aT P (fun _=>undef) ⟨none,.makeMap t none,0,"",#[],none⟩
def OX (S:Sx)(ρ:Operand->Value)(o:Oper)(h:Heap)(K:VH):Prop:=match o.op with
 | .move x | .assign x=>K (ρ x) h
 | .pick c a b=>Kx (ρ c) (ρ a) (ρ b) h K
 | .binOp op t x y _=>Oo S.P op t o.type (ρ x) (ρ y) h K
 | .unOp op _ x=>oA (BI op (ρ x)) h K
 | .extract x i=>oA (Nu (ρ x) i) h K
 | .index t x i=>Al S.P o.type (aQ S.P t (ρ x) (ρ i)) h K
 | .indexAddr t x i=>Qw (ag S.P t (ρ x) (ρ i)) h K
 | .fieldAddr t x f=>Qw (af S.P t (ρ x) f) h K
 | .field t x f=>Al S.P o.type (J9 S.P t (ρ x) f) h K
 | .load t a=>Al S.P t (ah S.P t h (ρ a)) h K
 | .slice t x lo hi mx=>Al S.P o.type (aH S.P t (ρ x) (lo.map ρ) (hi.map ρ) (mx.map ρ) h) h K
 | .store t a x=>P7 (ai S.P t (ρ a) (ρ x) h) h K
 | .alloc t=>Qg (aF S.P t) h K
 | .box t x=>Qg (dc S.P t (ρ x)) h K
 | .makeSlice t l c=>Qr (aP S.P t (ρ l) (ρ c)) h K
 | .buildSlice .. =>Qr (aT S.P ρ o) h K
 | .makeMap t r=>Rl (match r with | none=>qi S.P t | some _=>aT S.P ρ o) h K
 | .mapUpdate t m k x=>P7 (iT S.P t (ρ m) (ρ k) (ρ x) h) h K
 | .insert t m k x=>P7 (iT S.P t (ρ m) (ρ k) (ρ x) h) h K
 | .lookup t m k ok=>Al S.P o.type (Fg S.P t (ρ m) (ρ k) ok h) h K
 | .convert s d x=>(match QG (S.P.underlying s) with | true=>Nv (bP S.P eK ρ o h) h K | false=>(match ρ x with | .int _ _=>oA (dH S.P s d (ρ x)) h K | .slice _ _ _=>Al S.P o.type (tH S.P s d (ρ x) h) h K | _=>Nv (bP S.P eK ρ o h) h K))
 | .build t parts=>Al S.P o.type (aI S.P t (parts.toList.map fun p=>(p.1,ρ p.2))) h K
 | .makeFunc .. | .makeInterface .. | .nilCheck .. | .typeAssert .. =>oA (bn S.P ρ o) h K
 | .panic .. =>False
 | .call { callee:= .value f,args,.. }=>KC S o.type (ρ f) (args.toList.map ρ) h K
 | .call { callee:= .builtin .len,args,argTypes }=>(match args.toList,argTypes.toList with | [x],[t]=>(match ρ x with | .map _=>Al S.P o.type (Cz S.P t (ρ x) h) h K | _=>oA (Cz S.P t (ρ x) h) h K) | _,_=>False)
 | .call { callee:= .builtin .max,args,.. }=>Al S.P o.type (kz true (args.toList.map ρ)) h K
 | .call { callee:= .builtin .min,args,.. }=>Al S.P o.type (kz false (args.toList.map ρ)) h K
 | .call { callee:= .builtin .append,args,argTypes }=>(match args.toList,argTypes.toList with | [s,x],[t,t']=>Rf (ay S.P t t' (ρ s) (ρ x) h) h K | _,_=>False)
 | .call { callee:= .builtin .copy,args,argTypes }=>(match args.toList,argTypes.toList with | [d,s],[t,_]=>Rg (iS S.P t (ρ d) (ρ s) h) h K | _,_=>False)
 | .call { callee:= .builtin _,.. }=>Nv (bP S.P eK ρ o h) h K
 | _=>Nv (bP S.P eK ρ o h) h K
theorem bE {P:Program}{t:TypeId}{r:Option Value}{h:Heap}{K:VH}(hx:Al P t r h K):oA r h K:=by
 obtain ⟨v,h1,h2⟩:=me hx; rw [h1]; exact h2
theorem vH {r:Option Value}{h:Heap}{K:VH}(hx:Qw r h K):oA r h K:=by
 obtain ⟨v,h1,h2⟩:=hx; rw [h1]; exact h2
theorem lf {r:Option (Value×Upd)}{h:Heap}{K:VH}(hx:Nv r h K):AF r h K:=by
 obtain ⟨v,u,h1,h2⟩:=hx; rw [h1]; exact h2
theorem pZ {r:Option (Value×Upd)}{h:Heap}{K:VH}(hx:P7 r h K):AF r h K:=by
 obtain ⟨u,h1,h2⟩:=hx; rw [h1]; exact h2
theorem EN {r:Option (Value×Upd)}{h:Heap}{K:VH}(hx:Rf r h K):AF r h K:=by
 obtain ⟨a,n,c,u,h1,h2⟩:=hx; rw [h1]; exact h2
theorem C5 {r:Option (Value×Upd)}{h:Heap}{K:VH}(hx:Rg r h K):AF r h K:=by
 obtain ⟨n,u,h1,h2⟩:=hx; rw [h1]; exact h2
theorem ve {r:Option (Blk×(Nat->Value))}{h:Heap}{K:VH}(hx:Qg r h K):Qa r h K:=by
 obtain ⟨B,h1,h2⟩:=hx; rw [h1]; exact h2
theorem vL {r:Option (Blk×(Nat->Value))}{h:Heap}{K:VH}(hx:Qr r h K):Qa r h K:=by
 obtain ⟨B,n,c,h1,h2⟩:=hx; rw [h1]; exact h2
theorem wy {r:Option (Blk×(Nat->Value))}{h:Heap}{K:VH}(hx:Rl r h K):Qa r h K:=by
 obtain ⟨B,h1,h2⟩:=hx; rw [h1]; exact h2
theorem Jw {S:Sx}{ty:TypeId}{f:Value}{args:List Value}{h:Heap}{K:VH}(hx:KC S ty f args h K):li S f args h K:=by
 unfold KC at hx;unfold li;split at hx
 ·rcases qj hx with ⟨hb,hx⟩ | ⟨_,hx⟩
  ·refine ⟨by simpa [blt_eq] using hb,hx.mono fun v h hx=> ?_⟩;obtain ⟨x,rfl,h2⟩:=me hx;exact h2
  ·exact hx.elim
 ·exact ⟨⟨rfl,rfl⟩,hx.mono fun v h hx=>by
   obtain ⟨x,rfl,h2⟩:=me hx;exact h2⟩
 ·exact hx.elim
theorem JK {P:Program}{op:BinOp}{t ty:TypeId}{x y:Value}{h:Heap}{K:VH}(hx:Oo P op t ty x y h K):oA (al P op t x y) h K:=by
 unfold Oo at hx;split at hx
 ·exact bE hx
 ·exact bE hx
 ·exact bE hx
 ·exact bE hx
 ·split at hx <;> first | exact bE hx | exact hx
 ·split at hx <;> first | exact bE hx | exact hx
 ·split at hx <;> first | exact bE hx | exact hx
 ·exact hx
theorem Id {c a b:Value}{h:Heap}{K:VH}(hx:Kx c a b h K):oA (Nn c a b) h K:=by
 unfold Kx at hx;split at hx
 ·next t=>
  rcases qj hx with ⟨rfl,h1⟩ | ⟨rfl,h1⟩ <;> exact h1
 ·exact hx.elim
theorem od {S:Sx}{E:Fr}{o:Oper}{h:Heap}{K:VH}(hx:OX S (cA S.gl E) o h K):fK S E o h K:=by
 obtain ⟨dst,op,ty,pos,after,guard⟩:=o;unfold OX at hx;split at hx
 ·next e=>subst e; exact hx
 ·next e=>subst e; exact hx
 ·next e=>subst e; rw [Hj]; exact Id hx
 ·next e=>subst e; rw [Es]; exact JK hx
 ·next e=>subst e; rw [Ho]; exact hx
 ·next e=>subst e; rw [zl]; exact hx
 ·next e=>subst e; rw [D9]; exact bE hx
 ·next e=>subst e; rw [uO]; exact vH hx
 ·next e=>subst e; rw [vQ]; exact vH hx
 ·next e=>subst e; rw [D0]; exact bE hx
 ·next e=>subst e; rw [HM]; exact bE hx
 ·next e=>subst e; rw [Dq]; exact bE hx
 ·next e=>subst e; rw [Dx]; exact pZ hx
 ·next e=>subst e; rw [iD _ _ _ _ _ rfl rfl rfl rfl]; exact ve hx
 ·next e=>subst e; rw [iD _ _ _ _ _ rfl rfl rfl rfl]; exact ve hx
 ·next e=>subst e; rw [iD _ _ _ _ _ rfl rfl rfl rfl]; exact vL hx
 ·next e=>subst e; rw [iD _ _ _ _ _ rfl rfl rfl rfl]; exact vL hx
 ·next t r e=>
  subst e;rw [iD _ _ _ _ _ rfl rfl rfl rfl]
  cases r with
  | none=>exact wy hx
  | some x=>exact wy hx
 ·next t m k x e=>
  subst e;rw [dX _ _ _ _ rfl];have he:bP S.P eK (cA S.gl E) ⟨dst,.mapUpdate t m k x,ty,pos,after,guard⟩ h=iT S.P t (cA S.gl E m) (cA S.gl E k) (cA S.gl E x) h:=rfl;rw [he];exact pZ hx
 ·next t m k x e=>
  subst e;rw [dX _ _ _ _ rfl];have he:bP S.P eK (cA S.gl E) ⟨dst,.insert t m k x,ty,pos,after,guard⟩ h=iT S.P t (cA S.gl E m) (cA S.gl E k) (cA S.gl E x) h:=rfl;rw [he];exact pZ hx
 ·next t m k ok e=>
  subst e;have hx:oA (aV S.P (cA S.gl E) ⟨dst,.lookup t m k ok,ty,pos,after,guard⟩ h) h K:=bE hx;exact (kT S E h K ⟨dst,.lookup t m k ok,ty,pos,after,guard⟩ rfl rfl rfl rfl) ▸ hx
 ·next e=>
  subst e;rw [dX _ _ _ _ rfl];split at hx
  ·exact lf hx
  split at hx
  ·next k n hv=>
   unfold bP;generalize hp:bn S.P (cA S.gl E) _=r
   cases r with
   | some v=>rw [show dH S.P _ _ _=some v from hp] at hx; exact hx
   | none=>rw [show dH S.P _ _ _=none from hp] at hx; exact hx.elim
  ·next a n c hv=>
   obtain ⟨v,h1,h2⟩:=me hx;have hp: ∀ s d,dH S.P s d (.slice a n c)=none:=fun s d=>by unfold dH; split <;> simp_all
   have e1: ∀ s d x,cA S.gl E x = .slice a n c->bn S.P (cA S.gl E) ⟨dst,.convert s d x,ty,pos,after,guard⟩=none:=fun s d x hv=>by
    show dH S.P s d (cA S.gl E x)=none;rw [hv]; exact hp s d
   have e2: ∀ s d x,aV S.P (cA S.gl E) ⟨dst,.convert s d x,ty,pos,after,guard⟩ h=tH S.P s d (cA S.gl E x) h:=fun s d x=>rfl;unfold bP;rw [e1 _ _ _ hv];dsimp only;rw [e2,h1];exact h2
  ·exact lf hx
 ·next e=>subst e; rw [ca _ _ _ _ _ _ _ _ _ rfl]; exact bE hx
 ·next e=>subst e; rw [ca _ _ _ _ _ _ _ _ _ rfl]; exact hx
 ·next e=>subst e; rw [ca _ _ _ _ _ _ _ _ _ rfl]; exact hx
 ·next e=>subst e; rw [ca _ _ _ _ _ _ _ _ _ rfl]; exact hx
 ·next e=>subst e; rw [ca _ _ _ _ _ _ _ _ _ rfl]; exact hx
 ·exact hx.elim
 ·next e=>subst e; exact Jw hx
 ·next args ats e=>
  subst e;split at hx
  ·next x t h1 h2=>
   obtain ⟨args⟩:=args; obtain ⟨ats⟩:=ats;obtain rfl:args=[x]:=h1;obtain rfl:ats=[t]:=h2;have hx':oA (Cz S.P t (cA S.gl E x) h) h K:=by
    split at hx
    ·exact bE hx
    ·exact hx
   exact (Kq S E dst ty pos after guard h K x t).symm ▸ hx'
  ·exact hx.elim
 ·next e=>subst e; rw [Jd]; exact bE hx
 ·next e=>subst e; rw [IW]; exact bE hx
 ·next args ats e=>
  subst e;split at hx
  ·next s x t t' h1 h2=>
   obtain ⟨args⟩:=args; obtain ⟨ats⟩:=ats;obtain rfl:args=[s,x]:=h1;obtain rfl:ats=[t,t']:=h2;exact (BS S E dst ty pos after guard h K s x t t').symm ▸ EN hx
  ·exact hx.elim
 ·next args ats e=>
  subst e;split at hx
  ·next s x t t' h1 h2=>
   obtain ⟨args⟩:=args; obtain ⟨ats⟩:=ats;obtain rfl:args=[s,x]:=h1;obtain rfl:ats=[t,t']:=h2;have he:fK S E ⟨dst,.call ⟨.builtin .copy,#[s,x],#[t,t']⟩,ty,pos,after,guard⟩ h K=AF (iS S.P t (cA S.gl E s) (cA S.gl E x) h) h K:=np S E h K _ rfl rfl rfl rfl;exact he.symm ▸ C5 hx
  ·exact hx.elim
 ·next e=>subst e; rw [dX _ _ _ _ rfl]; exact lf hx
 ·next hno _ _=>
  rw [dX _ _ _ _ ?_]
  ·exact lf hx
  ·unfold aO;split
   ·next e=>simp_all
   ·rfl
def Gz:TS->Nat->Value->(TS->Prop)->Prop
 | [],_,_,K=>K []
 | _::l,0,v,K=>K (v::l)
 | x::l,d+1,v,K=>Gz l d v fun l=>K (x::l)
def JL:TS->Nat->(Value->Prop)->Prop
 | [],_,K=>K undef
 | x::_,0,K=>K x
 | _::l,t+1,K=>JL l t K
theorem ui: ∀ (l:TS)(d:Nat)(v:Value)(K:TS->Prop),Gz l d v K=K (l.set d v)
 | [],_,_,_=>rfl
 | _::_,0,_,_=>rfl
 | x::l,d+1,v,K=>by rw [Gz,ui l d v]; rfl
theorem AC: ∀ (l:TS)(t:Nat)(K:Value->Prop),JL l t K=K (l.getD t undef)
 | [],_,_=>rfl
 | _::_,0,_=>rfl
 | x::l,t+1,K=>by rw [JL,AC l t]; rfl
def zW (tm:TS)(dst:Option Tmp)(v:Value)(K:TS->Prop):Prop:=match dst with
 | some d=>Gz tm d v K
 | none=>K tm
theorem uj (tm:TS)(dst:Option Tmp)(v:Value)(K:TS->Prop):zW tm dst v K=K (e9 tm dst v):=by
 cases dst with
 | none=>rfl
 | some d=>exact ui _ _ _ _
def OY (S:Sx)(tm:TS)(o:Oper)(h:Heap)(K:VH):Prop:=match o.op with
 | .move (.tmp t)=>JL tm t fun v=>K v h
 | .assign (.tmp t)=>JL tm t fun v=>K v h
 | _=>OX S (ev S.gl tm) o h K
theorem Fw {S:Sx}{tm:TS}{o:Oper}{h:Heap}{K:VH}(hx:OY S tm o h K):OX S (ev S.gl tm) o h K:=by
 unfold OY at hx;split at hx
 ·next t e=>rw [AC] at hx; unfold OX; rw [e]; exact hx
 ·next t e=>rw [AC] at hx; unfold OX; rw [e]; exact hx
 ·exact hx
def gS (ops:Array Oper)(tm:TS)(guard:Option (Nat×Bool))(A B:TS->Prop):Prop:=match guard with
 | none=>A tm
 | some (j,want)=>match (ops[j]?).bind (·.dst) with
  | some d=>match tm.getD d undef with
   | .bool b=>au b (Gz tm d (.bool true) (Bool.rec (motive:=fun _=>TS->Prop) B A want)) (Gz tm d (.bool false) (Bool.rec (motive:=fun _=>TS->Prop) A B want))
   | .tuple _=>B tm
   | _=>False
  | none=>False
def LN (S:Sx)(ops:Array Oper):List Oper->TS->Heap->TH->Prop
 | [],tm,h,R=>R tm h
 | o::l,tm,h,R=>gS ops tm o.guard (fun tm=>OY S tm o h fun v h=>zW tm o.dst v fun tm=>LN S ops l tm h R) (fun tm=>zW tm o.dst undef fun tm=>LN S ops l tm h R)
def L6 (nm:Nat)(Q:TH):FH:=fun E h=> ∃ tm:TS,tm.length=nm/\E=fr tm/\Q tm h
def xX (nm:Nat)(Q:cB):wY:=fun x=>L6 nm (Q x)
def ND (v:Value)(A B:Prop):Prop:=match v with
 | .bool b=>au b A B
 | _=>False
def FN (S:Sx)(nm:Nat)(c:Code)(tm:TS)(h:Heap)(Q:cB):Prop:=yE S nm c (fr tm) h (xX nm Q)
def D1 (S:Sx)(nm:Nat)(c:Code)(tm:TS)(h:Heap)(Q:cB):Prop:=EH S nm c (fr tm) h (xX nm Q)
def Pd (B:TH)(Q:cB)(x:Exit)(tm:TS)(h:Heap):Prop:=match x with
 | .normal=>B tm h
 | x=>Q x tm h
def DA (id:Nat)(Q:cB)(x:Exit)(tm:TS)(h:Heap):Prop:=match x with
 | .exit id'=>(match Nat.beq id' id with | true=>Q .normal tm h | false=>Q (.exit id') tm h)
 | x=>Q x tm h
def room (h:Heap)(n:Nat):Heap:={ h with next:=h.next+n }
def DL:Op->Bool
 | .load .. | .slice .. =>true
 | .call { callee:= .builtin .len,.. }=>true
 | _=>false
def RS:Op->Bool
 | .store .. =>true
 | .call { callee:= .value _,.. }=>true
 | _=>false
def LP (ops:Array Oper)(f:Op->Bool)(j:Nat):Bool:=match ops[j]? with | some o=>f o.op | none=>false
def AG:Op->Bool
 | .alloc .. | .box .. | .makeSlice .. | .buildSlice .. =>true
 | _=>false
def tM:Op->Bool
 | .store .. =>true
 | .call { callee:= .value _,.. }=>true
 | .call { callee:= .builtin .append,.. } | .call { callee:= .builtin .copy,.. } | .call { callee:= .builtin .unsafeSliceData,.. } | .call { callee:= .builtin .unsafeString,.. }=>true
 | _=>false
def On (b:Bool)(A B:Prop):Prop:=Bool.rec (motive:=fun _=>Prop) B A b
def FG (S:Sx)(o:Oper)(E:Fr)(v:Value)(h:Heap)(K:Prop):Prop:=match o.op with
 | .load t a=>(ah S.P t h (cA S.gl E a)=some v/\dY 4 v v=true)/\K
 | .slice t x lo hi mx=>(aH S.P t (cA S.gl E x) (lo.map (cA S.gl E)) (hi.map (cA S.gl E)) (mx.map (cA S.gl E)) h=some v/\dY 4 v v=true)/\K
 | _=>(aV S.P (cA S.gl E) o h=some v/\dY 4 v v=true)/\K
def nO (S:Sx)(bf:Nat->Nat->Bool)(j:Nat)(o:Oper)(E:Fr)(v:Value):Heap->List (Nat×Heap)->Bool->Prop->Prop
 | h,[],own,K=>On own K (FG S o E v h K)
 | h,(e,h')::r,own,K=>On ((own && Nat.blt j e) || bf j e) (On (bf e j) K (nO S bf j o E v h' r (Nat.blt e j) K)) (FG S o E v h (On (bf e j) K (nO S bf j o E v h' r (Nat.blt e j) K)))
def rZ (S:Sx)(bf:Nat->Nat->Bool)(h:Heap)(es:List (Nat×Heap)):List CX->Nat->Prop->Prop
 | [],_,K=>K
 | (E,o,.read v)::r,j,K=>nO S bf j o E v h es true (rZ S bf h es r (j+1) K)
 | _::r,j,K=>rZ S bf h es r (j+1) K
def Q3 (S:Sx)(ρ:Operand->Value)(o:Oper)(K:Blk->(Nat->Value)->Prop):Prop:=match o.op with
 | .alloc t=> ∃ B,aF S.P t=some (B,iy)/\K B iy
 | .box t x=> ∃ B,dc S.P t (ρ x)=some (B,iy)/\K B iy
 | .makeSlice t l c=> ∃ B n d,aP S.P t (ρ l) (ρ c)=some (B,gU n d)/\K B (gU n d)
 | _=> ∃ B n d,aT S.P ρ o=some (B,gU n d)/\K B (gU n d)
def NH {α:Type}(op:Op)(a b c d:α):α:=match iP op with
 | true=>a
 | false=>match DL op with
  | true=>b
  | false=>match AG op with
   | true=>c
   | false=>d
def rr (S:Sx)(bf:Nat->Nat->Bool)(ops:Array Oper)(base:Nat)(h0:Heap):List Oper->Nat->TS->Heap->List (Nat×Blk)->List CX->TH->Prop
 | [],_,tm,h,pd,recs,R=>rZ S bf h0 (kf recs.reverse 0) recs.reverse 0 (R tm (aB h base pd))
 | o::l,j,tm,h,pd,recs,R=>gS ops tm o.guard
   (fun tm=>NH o.op
    (OY S tm o h fun v _=>zW tm o.dst v fun tm'=>rr S bf ops base h0 l (j+1) tm' h pd ((fr tm,o,.pure v)::recs) R)
    (OY S tm o h fun v _=>zW tm o.dst v fun tm'=>rr S bf ops base h0 l (j+1) tm' h pd ((fr tm,o,.read v)::recs) R)
    (Q3 S (ev S.gl tm) o fun B f=>zW tm o.dst (f (base+j)) fun tm'=>rr S bf ops base h0 l (j+1) tm' h ((j,B)::pd) ((fr tm,o,.alloc B (f (base+j)))::recs) R)
    (OY S tm o (aB h base (pd.filter fun p=>bf j p.1)) fun v h'=>zW tm o.dst v fun tm'=>rr S bf ops base h0 l (j+1) tm' h' (pd.filter fun p=> !bf j p.1) ((fr tm,o,.eff v h')::recs) R))
   (fun tm=>zW tm o.dst undef fun tm'=>rr S bf ops base h0 l (j+1) tm' h pd ((fr tm,o,.skip)::recs) R)
def lk (ops:Array Oper):Bool:= !Dk ops && (ops.toList.all fun o=>iP o.op || DL o.op || AG o.op || tM o.op) && (List.range ops.size).all fun e=> !LP ops tM e || (List.range ops.size).all fun j=> !LP ops tM j || !Nat.blt j e || co (fU ops) e j
def oh (tm:TS)(j:Nat):Value:=tm.getD j undef
def rX:Nat->Nat->List (Nat×Value)->(Nat->Value)->TS
 | 0,_,_,_=>[]
 | n+1,j,[],x=>x j::rX n (j+1) [] x
 | n+1,j,(i,v)::l,x=>match Nat.beq i j with
  | true=>v::rX n (j+1) l x
  | false=>x j::rX n (j+1) ((i,v)::l) x
theorem zc: ∀ (n j:Nat)(l:List (Nat×Value))(x:Nat->Value),(∀ p∈l,p.2=x p.1)->rX n j l x=(List.range' j n).map x
 | 0,_,_,_,_=>by simp [rX]
 | n+1,j,[],x,h=>by simp only [rX,range'_succ,List.map_cons]; rw [zc n (j+1) [] x h]
 | n+1,j,(i,v)::l,x,h=>by
  simp only [rX,range'_succ,List.map_cons]
  cases hb:Nat.beq i j with
  | true=>
   dsimp only;rw [zc n (j+1) l x fun p hp=>h p (mem_cons_of_mem _ hp),<-Nat.eq_of_beq_eq_true hb];rw [show v=x i from h (i,v) (mem_cons_self ..)]
  | false=>
   dsimp only;rw [zc n (j+1) ((i,v)::l) x h]
theorem uu: ∀ (n j:Nat)(l:List (Nat×Value))(x:Nat->Value),(rX n j l x).length=n
 | 0,_,_,_=>by simp [rX]
 | n+1,j,[],x=>by simp only [rX,length_cons]; rw [uu n (j+1) [] x]
 | n+1,j,(i,v)::l,x=>by
  simp only [rX]
  cases hb:Nat.beq i j with
  | true=>dsimp only; rw [length_cons,uu n (j+1) l x]
  | false=>dsimp only; rw [length_cons,uu n (j+1) ((i,v)::l) x]
theorem Bh (f:Nat->Value): ∀ (M:List Nat),∀ p∈M.zip (M.map f),p.2=f p.1
 | [],p,h=>by simp at h
 | a::M,p,h=>by
  rw [List.map_cons,List.zip_cons_cons] at h;rcases mem_cons.1 h with rfl | h
  ·rfl
  ·exact Bh f M p h
theorem AH {tm:TS}{nm:Nat}(hl:tm.length=nm)(M:List Nat):rX nm 0 (M.zip (M.map (oh tm))) (oh tm)=tm:=by
 rw [zc _ _ _ _ (Bh _ M)];refine List.ext_getElem? fun i=> ?_;rw [List.getElem?_map];by_cases h:i < nm
 ·rw [List.getElem?_range' h];simp [oh,gE (show i < tm.length by omega),gD]
 ·rw [getElem?_eq_none (by simpa using h),getElem?_eq_none (by omega)]; rfl
def No (S:Sx)(nm:Nat)(M:List Nat)(c:Code)(w:List Value)(h:Heap)(Q:cB):Prop:= ∀ x:Nat->Value,FN S nm c (rX nm 0 (M.zip w) x) h Q
def KU (S:Sx)(nm:Nat)(M:List Nat)(c:Code)(tm:TS)(h:Heap)(Q:cB):Prop:=match Nat.beq tm.length nm with
 | true=>No S nm M c (M.map (oh tm)) h Q
 | false=>FN S nm c tm h Q
theorem EG {S:Sx}{nm:Nat}{M:List Nat}{c:Code}{tm:TS}{h:Heap}{Q:cB}(hl:tm.length=nm)(hx:KU S nm M c tm h Q):FN S nm c tm h Q:=by
 unfold KU at hx;rw [hl,Nat.beq_refl] at hx;have:=hx (oh tm);rwa [AH hl] at this
structure FD where
 nm:Nat
 body:Code
 rs:List ResultVar
 ms:List (List Nat×List Nat)
def bF (fn:Func)(ms:List (List Nat×List Nat)):FD:=⟨fn.ntmps,fn.body.getD .skip,fn.results.toList,ms⟩
def Pp:List Nat->List Nat->Bool
 | [],[]=>true
 | a::x,b::y=>(match Nat.beq a b with
  | true=>Pp x y
  | false=>false)
 | _,_=>false
def sJ:List (List Nat×List Nat)->List Nat->List Nat
 | [],_=>[]
 | (q,m)::r,p=>match Pp q p with
  | true=>m
  | false=>sJ r p
def wpS (S:Sx)(nm:Nat)(M:List (List Nat×List Nat))(p:List Nat):Code->TS->Heap->cB->Prop
 | .skip,tm,h,Q=>Q .normal tm h
 | .region _ ops draw,tm,h,Q=>(match draw with
  | false=>LN S ops ops.toList tm h fun tm h=>Q .normal tm h
  | true=>(match lk ops with
   | true=>rr S (co (fU ops)) ops h.next (room h ops.size) ops.toList 0 tm (room h ops.size) [] [] fun tm h=>Q .normal tm h
   | false=>Oq S ops (fr tm) h (L6 nm fun tm h=>Q .normal tm h)))
 | .seq a b,tm,h,Q=>wpS S nm M (0::p) a tm h (Pd (fun tm h=>wpS S nm M (1::p) b tm h Q) Q)
 | .cond c a b,tm,h,Q=>ND (ev S.gl tm c) (wpS S nm M (0::p) a tm h Q) (wpS S nm M (1::p) b tm h Q)
 | .block id c,tm,h,Q=>wpS S nm M (0::p) c tm h (DA id Q)
 | .loop c,tm,h,Q=>KU S nm (sJ M (0::p).reverse) c tm h Q
 | .exit id,tm,h,Q=>Q (.exit id) tm h
 | .ret,tm,h,Q=>Q .ret tm h
 | .label _,tm,h,Q=>Q .normal tm h
 | .rangeFunc f ps a b,tm,h,Q=>D1 S nm (.rangeFunc f ps a b) tm h Q
 | _,_,_,_=>False
end
theorem I1 {tm:TS}{nm:Nat}(h:tm.length=nm):ER nm (fr tm) tm:=⟨h,fun _=>rfl⟩
theorem yw {tm:TS}(gl:Nat->Bool):cA gl (fr tm)=ev gl tm:=((I1 rfl).ev gl).symm
theorem zK {tm:TS}{nm:Nat}(h:tm.length=nm){dst:Option Tmp}(hd:qE nm dst=true)(v:Value):oB (fr tm) dst v=fr (e9 tm dst v):=by
 funext t;exact ((I1 h).put hd v).2 t |>.symm
theorem tz {tm:TS}{d:Nat}{v:Value}(h:tm.getD d undef=v):tm.set d v=tm:=by
 refine List.ext_getElem? fun i=> ?_;rw [List.getElem?_set];split
 ·next e=>
  subst e;split
  ·next hl=>
   rw [gD,gE hl] at h;rw [gE hl,<-h]; rfl
  ·next hl=>rw [getElem?_eq_none (by omega)]
 ·rfl
theorem CM {ops:Array Oper}{tm:TS}{guard:Option (Nat×Bool)}{A B:TS->Prop}{A' B':Unit->Prop}(hA:A tm->A' ())(hB:B tm->B' ())(hx:gS ops tm guard A B):NI (wF ops (fr tm) guard) A' B':=by
 cases guard with
 | none=>exact hA hx
 | some g=>
  obtain ⟨j,want⟩:=g;unfold gS at hx;rw [Ef];dsimp only at hx
  cases hd:(ops[j]?).bind (·.dst) with
  | none=>rw [hd] at hx; exact hx.elim
  | some d=>
   rw [hd] at hx;dsimp only at hx ⊢;show NI (match tm.getD d undef with | .bool b=>some (b == want) | .tuple _=>some false | _=>none) A' B'
   cases hv:tm.getD d undef with
   | bool b=>
    rw [hv] at hx;dsimp only at hx ⊢;rcases qj hx with ⟨rfl,h1⟩ | ⟨rfl,h1⟩
    ·rw [ui,tz hv] at h1
     cases want
     ·exact hB h1
     ·exact hA h1
    ·rw [ui,tz hv] at h1
     cases want
     ·exact hA h1
     ·exact hB h1
   | tuple vs=>rw [hv] at hx; exact hB hx
   | _=>rw [hv] at hx; exact hx.elim
theorem Cr {r:Option (Value×Upd)}{h:Heap}{K K':VH}(hk: ∀ v h,K v h->K' v h)(hx:AF r h K):AF r h K':=by
 cases r with
 | none=>exact hx
 | some p=>obtain ⟨v,u⟩:=p; exact hk _ _ hx
theorem sV {S:Sx}{f:Value}{args:List Value}{h:Heap}{K K':VH}(hk: ∀ v h,K v h->K' v h)(hx:li S f args h K):li S f args h K':=by
 unfold li at hx ⊢;split at hx
 ·exact ⟨hx.1,hx.2.mono hk⟩
 ·exact ⟨hx.1,hx.2.mono hk⟩
 ·exact hx.elim
theorem Hr {S:Sx}{E:Fr}{o:Oper}{h:Heap}{K K':VH}(hk: ∀ v h,K v h->K' v h)(hx:fK S E o h K):fK S E o h K':=by
 unfold fK at hx ⊢;split at hx
 ·exact sV hk hx
 ·exact Cr hk hx
theorem pI {S:Sx}{nm:Nat}{ops:Array Oper}{R:TH}{R':FH}(hR: ∀ tm h,tm.length=nm->R tm h->R' (fr tm) h): ∀ (l:List Oper){tm:TS}{h:Heap},tm.length=nm->(l.all fun o=>qE nm o.dst)=true->LN S ops l tm h R->Lh S ops l (fr tm) h R'
 | [],_,_,hl,_,hx=>hR _ _ hl hx
 | o::l,tm,h,hl,hd,hx=>by
  simp only [all_cons,and_eq_true] at hd;rw [IU];refine CM (fun hx=> ?_) (fun hx=> ?_) hx
  ·show fK S (fr tm) o h (Ro S ops o.dst l (fr tm) R');have hx:=Fw hx;rw [<-yw] at hx;refine Hr (fun v h hx=> ?_) (od hx);show Lh S ops l (oB (fr tm) o.dst v) h R';rw [zK hl hd.1];rw [uj] at hx;exact pI hR l (by rw [iG]; exact hl) hd.2 hx
  ·show Lh S ops l (oB (fr tm) o.dst undef) h R';rw [zK hl hd.1];rw [uj] at hx;exact pI hR l (by rw [iG]; exact hl) hd.2 hx
theorem vo {S:Sx}{E:Fr}{o:Oper}{h:Heap}{K K':VH}(hk: ∀ v h,K v h->K' v h)(hx:vI S E o h K):vI S E o h K':=by
 unfold vI at hx ⊢;split at hx
 ·exact sV hk hx
 ·exact Cr hk hx
theorem JT {r:Option Bool}{A B A' B':Unit->Prop}(hA:A ()->A' ())(hB:B ()->B' ())(hx:NI r A B):NI r A' B':=by
 rcases zp hx with ⟨rfl,h⟩ | ⟨rfl,h⟩
 ·exact hA h
 ·exact hB h
theorem jj {S:Sx}{bf:Nat->Nat->Bool}{ops:Array Oper}{base:Nat}{h0:Heap}{R R':FH}(hR: ∀ E h,R E h->R' E h): ∀ (l:List Oper)(j:Nat)(E:Fr)(h:Heap)(pd:List (Nat×Blk))(recs:List CX),qT S bf ops base h0 l j E h pd recs R->qT S bf ops base h0 l j E h pd recs R'
 | [],_,_,_,_,_,hx=>⟨hx.1,hR _ _ hx.2⟩
 | o::l,j,E,h,pd,recs,hx=>by
  simp only [qT] at hx ⊢;refine JT (fun hx=> ?_) (fun hx=>jj hR l _ _ _ _ _ hx) hx
  cases hp:bn S.P (cA S.gl E) o with
  | some v=>rw [hp] at hx; exact jj hR l _ _ _ _ _ hx
  | none=>
   rw [hp] at hx;dsimp only at hx ⊢
   cases hp2:aV S.P (cA S.gl E) o h with
   | some v=>rw [hp2] at hx; exact jj hR l _ _ _ _ _ hx
   | none=>
    rw [hp2] at hx;dsimp only at hx ⊢
    cases hp3:aT S.P (cA S.gl E) o with
    | some p=>obtain ⟨B,f⟩:=p; rw [hp3] at hx; exact jj hR l _ _ _ _ _ hx
    | none=>
     rw [hp3] at hx;dsimp only at hx ⊢;exact vo (fun v h' hx=>jj hR l _ _ _ _ _ hx) hx
theorem Kb {S:Sx}{ops:Array Oper}{E:Fr}{h:Heap}{R R':FH}(hR: ∀ E h,R E h->R' E h)(hx:Oq S ops E h R):Oq S ops E h R':=⟨hx.1,jj hR _ _ _ _ _ _ hx.2⟩
theorem IX {ops:Array Oper}{f:Op->Bool}{j:Nat}(h:LP ops f j=true):j < ops.size:=by
 unfold LP at h;split at h
 ·next o ho=>exact (Array.getElem?_eq_some_iff.1 ho).1
 ·cases h
theorem uZ {b:Bool}{A B:Prop}(h:On b A B):(b=true/\A)\/(b=false/\B):=by
 cases b with
 | true=>exact .inl ⟨rfl,h⟩
 | false=>exact .inr ⟨rfl,h⟩
theorem mF {S:Sx}{o:Oper}{E:Fr}{v:Value}{h:Heap}{K:Prop}(hx:FG S o E v h K):yW S o E v h=true/\K:=by
 obtain ⟨dst,op,ty,pos,after,guard⟩:=o;have key:(aV S.P (cA S.gl E) ⟨dst,op,ty,pos,after,guard⟩ h=some v/\dY 4 v v=true)/\K:=by
  unfold FG at hx;split at hx
  ·next e=>subst e; exact hx
  ·next e=>subst e; exact hx
  ·exact hx
 refine ⟨?_,key.2⟩;unfold yW;rw [key.1.1];exact key.1.2
theorem ph {S:Sx}{bf:Nat->Nat->Bool}{j:Nat}{o:Oper}{E:Fr}{v:Value}{K:Prop}: ∀ {es:List (Nat×Heap)}{h:Heap}{own:Bool},nO S bf j o E v h es own K->i6 S bf j o E v h es own=true/\K
 | [],h,own,hx=>by
  rcases uZ hx with ⟨rfl,h1⟩ | ⟨rfl,h1⟩
  ·exact ⟨rfl,h1⟩
  ·exact ⟨(mF h1).1,(mF h1).2⟩
 | (e,h')::r,h,own,hx=>by
  have tl: ∀ {K'':Prop},On (bf e j) K (nO S bf j o E v h' r (Nat.blt e j) K)->((bf e j || i6 S bf j o E v h' r (Nat.blt e j))=true)/\K:=fun hx=>by
   rcases uZ hx with ⟨h2,h3⟩ | ⟨h2,h3⟩
   ·rw [h2]; exact ⟨rfl,h3⟩
   ·have:=ph h3;rw [this.1]; exact ⟨Bool.or_true _,this.2⟩
  have hx:On ((own && Nat.blt j e) || bf j e) _ _:=hx;simp only [i6,and_eq_true];rcases uZ hx with ⟨h2,h3⟩ | ⟨h2,h3⟩
  ·have:=tl (K'':=K) h3;exact ⟨⟨by rw [h2]; rfl,this.1⟩,this.2⟩
  ·obtain ⟨h4,h5⟩:=mF h3;have:=tl (K'':=K) h5;exact ⟨⟨by rw [h4,Bool.or_true],this.1⟩,this.2⟩
theorem kZ {S:Sx}{bf:Nat->Nat->Bool}{h:Heap}{es:List (Nat×Heap)}{K:Prop}: ∀ {l:List CX}{j:Nat},rZ S bf h es l j K->qe S bf h es l j=true/\K
 | [],_,hx=>⟨rfl,hx⟩
 | (E,o,e)::r,j,hx=>by
  cases e with
  | read v=>
   have h1:=ph (show nO S bf j o E v h es true (rZ S bf h es r (j+1) K) from hx);have h2:=kZ h1.2;refine ⟨?_,h2.2⟩;show (i6 S bf j o E v h es true && qe S bf h es r (j+1))=true;rw [h1.1,h2.1]; rfl
  | _=>exact kZ (l:=r) hx
def y4 (ops:Array Oper)(i:Nat)(l:List CX):Prop:= ∀ k r,l[k]?=some r-> ∀ v g,r.2.2 = .eff v g->LP ops tM (i+k)=true
theorem pC {ops:Array Oper}: ∀ {l:List CX}{i:Nat},y4 ops i l-> ∀ p∈kf l i,LP ops tM p.1=true/\i<=p.1
 | [],_,_=>by simp [kf]
 | r::l,i,hc=>by
  have hc':y4 ops (i+1) l:=fun k r h=>by
   have:=hc (k+1) r (by simpa using h);rwa [show i+(k+1)=i+1+k by omega] at this
  obtain ⟨E,o,e⟩:=r;intro p hp;have tl:p∈kf l (i+1)->LP ops tM p.1=true/\i<=p.1:=fun h=>⟨(pC hc' p h).1,by have:=(pC hc' p h).2; omega⟩
  cases e with
  | eff v g=>
   rcases mem_cons.1 hp with rfl | hp
   ·exact ⟨hc 0 _ rfl v g rfl,le_refl _⟩
   ·exact tl hp
  | _=>exact tl hp
theorem ny {ops:Array Oper}(hs:lk ops=true): ∀ {l:List CX}{i:Nat},y4 ops i l->fp (co (fU ops)) (kf l i)=true
 | [],_,_=>rfl
 | r::l,i,hc=>by
  have hc':y4 ops (i+1) l:=fun k r h=>by
   have:=hc (k+1) r (by simpa using h);rwa [show i+(k+1)=i+1+k by omega] at this
  obtain ⟨E,o,e⟩:=r;have ih:=ny hs hc'
  cases e with
  | eff v g=>
   show fp (co (fU ops)) ((i,g)::kf l (i+1))=true;have hall:=pC hc'
   cases hes:kf l (i+1) with
   | nil=>rfl
   | cons p es=>
    obtain ⟨j,g'⟩:=p;rw [hes] at ih hall;show (co (fU ops) j i && fp (co (fU ops)) ((j,g')::es))=true;rw [ih,Bool.and_true];have h1:=hc 0 _ rfl v g rfl;have h2:=hall (j,g') (mem_cons_self ..);unfold lk at hs;simp only [and_eq_true] at hs;have h3:=all_eq_true.1 hs.2 j (mem_range.2 (IX h2.1));rw [h2.1] at h3;simp only [Bool.not_true,Bool.false_or] at h3;have h4:=all_eq_true.1 h3 i (mem_range.2 (IX h1));have h5:LP ops tM i=true:=h1;rw [h5,show Nat.blt i j=true by rw [blt_eq]; have:=h2.2; omega] at h4;simpa using h4
  | _=>exact ih
theorem Hx {S:Sx}{ρ:Operand->Value}{o:Oper}(ha:AG o.op=true){K:Blk->(Nat->Value)->Prop}(hx:Q3 S ρ o K): ∃ B f,aT S.P ρ o=some (B,f)/\K B f:=by
 obtain ⟨dst,op,ty,pos,after,guard⟩:=o;unfold Q3 at hx;split at hx
 ·next e=>subst e; obtain ⟨B,h1,h2⟩:=hx; exact ⟨B,_,h1,h2⟩
 ·next e=>subst e; obtain ⟨B,h1,h2⟩:=hx; exact ⟨B,_,h1,h2⟩
 ·next e=>subst e; obtain ⟨B,n,d,h1,h2⟩:=hx; exact ⟨B,_,h1,h2⟩
 ·obtain ⟨B,n,d,h1,h2⟩:=hx; exact ⟨B,_,h1,h2⟩
theorem sB {S:Sx}{nm:Nat}{ops:Array Oper}(hst:lk ops=true){base:Nat}{h0:Heap}{R:TH}{R':FH}(hR: ∀ tm h,tm.length=nm->R tm h->R' (fr tm) h): ∀ (l:List Oper)(j:Nat)(tm:TS)(h:Heap)(pd:List (Nat×Blk))(recs:List CX),tm.length=nm->(l.all fun o=>qE nm o.dst)=true->ops.toList.drop j=l->recs.length=j->y4 ops 0 recs.reverse->rr S (co (fU ops)) ops base h0 l j tm h pd recs R->qT S (co (fU ops)) ops base h0 l j (fr tm) h pd recs R'
 | [],j,tm,h,pd,recs,hl,_,_,_,hr,hx=>by
  have h1:=kZ (show rZ S (co (fU ops)) h0 (kf recs.reverse 0) recs.reverse 0 (R tm (aB h base pd)) from hx);refine ⟨?_,hR _ _ hl h1.2⟩;unfold oe;rw [h1.1,ny hst hr]; rfl
 | o::l,j,tm,h,pd,recs,hl,hd,hdr,hrl,hr,hx=>by
  have ho:ops[j]?=some o:=by
   have:(ops.toList.drop j)[0]?=some o:=by rw [hdr]; rfl
   rw [getElem?_drop] at this;rw [<-getElem?_toList]; simpa using this
  have hdr':ops.toList.drop (j+1)=l:=by rw [<-drop_drop,hdr]; rfl
  simp only [all_cons,and_eq_true] at hd;have conf: ∀ e,(∀ v g,e=Ent.eff v g->tM o.op=true)->y4 ops 0 ((fr tm,o,e)::recs).reverse:=by
   intro e h2 k r hk;rw [List.reverse_cons] at hk;rcases lt_or_ge k recs.reverse.length with h3 | h3
   ·rw [List.getElem?_append_left h3] at hk;exact hr k r hk
   ·rw [List.getElem?_append_right h3] at hk;have hk0:k - recs.reverse.length=0:=by
     rcases Nat.eq_zero_or_pos (k - recs.reverse.length) with h4 | h4
     ·exact h4
     ·rw [getElem?_eq_none (by simp only [length_cons,length_nil]; omega)] at hk; cases hk
    rw [hk0] at hk;obtain rfl:=oI hk;have hkj:0+k=j:=by rw [List.length_reverse] at h3 hk0; omega
    rw [hkj];intro v g e;unfold LP; rw [ho]; exact h2 v g e
  simp only [qT];refine CM (fun hx=> ?_) (fun hx=> ?_) hx
  ·have go: ∀ v e g pd',(∀ v g,e=Ent.eff v g->tM o.op=true)->zW tm o.dst v (fun tm'=>rr S (co (fU ops)) ops base h0 l (j+1) tm' g pd' ((fr tm,o,e)::recs) R)->qT S (co (fU ops)) ops base h0 l (j+1) (oB (fr tm) o.dst v) g pd' ((fr tm,o,e)::recs) R':=by
    intro v e g pd' h2 hx;rw [uj] at hx;rw [zK hl hd.1];exact sB hst hR l (j+1) _ g _ _ (by rw [iG]; exact hl) hd.2 hdr' (by simp [hrl]) (conf e h2) hx
   have hkind:(iP o.op || DL o.op || AG o.op || tM o.op)=true:=by
    have hc:=hst;unfold lk at hc;simp only [and_eq_true] at hc;exact all_eq_true.1 hc.1.2 o (List.mem_of_mem_drop (i:=j) (by rw [hdr]; simp))
   obtain ⟨dst,op,ty,pos,after,guard⟩:=o;unfold NH at hx
   cases hp:iP op with
   | true=>
    rw [show iP (Oper.mk dst op ty pos after guard).op=true from hp] at hx;have hx:=od (E:=fr tm) (by rw [yw]; exact Fw hx);have hx:oA (bn S.P (cA S.gl (fr tm)) ⟨dst,op,ty,pos,after,guard⟩) h _:=(ca _ _ _ _ _ _ _ _ _ hp) ▸ hx
    cases hv:bn S.P (cA S.gl (fr tm)) ⟨dst,op,ty,pos,after,guard⟩ with
    | none=>rw [hv] at hx; exact hx.elim
    | some v=>rw [hv] at hx; exact go v (.pure v) h pd (by simp) hx
   | false=>
   rw [show iP (Oper.mk dst op ty pos after guard).op=false from hp] at hx;dsimp only at hx
   cases hp2:DL op with
   | true=>
    rw [show DL (Oper.mk dst op ty pos after guard).op=true from hp2] at hx;have hx:=od (E:=fr tm) (by rw [yw]; exact Fw hx);have key:bn S.P (cA S.gl (fr tm)) ⟨dst,op,ty,pos,after,guard⟩=none/\aO ⟨dst,op,ty,pos,after,guard⟩=false/\aT S.P (cA S.gl (fr tm)) ⟨dst,op,ty,pos,after,guard⟩=none/\dj S.P eK (cA S.gl (fr tm)) ⟨dst,op,ty,pos,after,guard⟩ h=none:=by
     clear hx conf go hkind hp ho;revert hp2
     cases op with
     | load=>intro _; exact ⟨rfl,rfl,rfl,rfl⟩
     | slice=>intro _; exact ⟨rfl,rfl,rfl,rfl⟩
     | call c=>
      obtain ⟨callee,args,ats⟩:=c
      cases callee with
      | builtin b=>cases b <;> intro hp <;> first | exact ⟨rfl,rfl,rfl,rfl⟩ | cases hp
      | _=>intro hp; cases hp
     | _=>intro hp; cases hp
    have hx:oA (aV S.P (cA S.gl (fr tm)) ⟨dst,op,ty,pos,after,guard⟩ h) h _:=(kT S (fr tm) h _ _ key.2.1 key.1 key.2.2.1 key.2.2.2) ▸ hx;rw [key.1];dsimp only
    cases hv:aV S.P (cA S.gl (fr tm)) ⟨dst,op,ty,pos,after,guard⟩ h with
    | none=>rw [hv] at hx; exact hx.elim
    | some v=>rw [hv] at hx; exact go v (.read v) h pd (by simp) hx
   | false=>
   rw [show DL (Oper.mk dst op ty pos after guard).op=false from hp2] at hx;dsimp only at hx
   cases hp3:AG op with
   | true=>
    rw [show AG (Oper.mk dst op ty pos after guard).op=true from hp3] at hx;rw [<-yw] at hx;obtain ⟨B,f,h1,h2⟩:=Hx hp3 hx;have key:bn S.P (cA S.gl (fr tm)) ⟨dst,op,ty,pos,after,guard⟩=none/\aV S.P (cA S.gl (fr tm)) ⟨dst,op,ty,pos,after,guard⟩ h=none:=by
     clear hx conf go hkind hp ho h1 h2 hp2;revert hp3
     cases op <;> intro hp3 <;> first | exact ⟨rfl,rfl⟩ | cases hp3
    rw [key.1];dsimp only;rw [key.2];dsimp only;rw [h1];exact go _ (.alloc B (f (base+j))) h _ (by simp) h2
   | false=>
   rw [show AG (Oper.mk dst op ty pos after guard).op=false from hp3] at hx;dsimp only at hx;have hp4:tM op=true:=by
    have hk:(iP op || DL op || AG op || tM op)=true:=hkind;rw [hp,hp2,hp3] at hk; exact hk
   have hx:=od (E:=fr tm) (by rw [yw]; exact Fw hx);generalize aB h base (pd.filter fun p=>co (fU ops) j p.1)=hs at hx ⊢;have key:(∀ h,bn S.P (cA S.gl (fr tm)) ⟨dst,op,ty,pos,after,guard⟩=none/\aV S.P (cA S.gl (fr tm)) ⟨dst,op,ty,pos,after,guard⟩ h=none/\aT S.P (cA S.gl (fr tm)) ⟨dst,op,ty,pos,after,guard⟩=none)/\
     ∀ K:VH,fK S (fr tm) ⟨dst,op,ty,pos,after,guard⟩ hs K->vI S (fr tm) ⟨dst,op,ty,pos,after,guard⟩ hs K:=by
    clear hx conf go hkind hp ho hp2 hp3;revert hp4
    cases op with
    | store t a x=>intro _; exact ⟨fun _=>⟨rfl,rfl,rfl⟩,fun K hx=>by rw [np _ _ _ _ _ rfl rfl rfl rfl] at hx; exact hx⟩
    | call c=>
     obtain ⟨callee,args,ats⟩:=c
     cases callee with
     | value f=>intro _; exact ⟨fun _=>⟨rfl,rfl,rfl⟩,fun K hx=>hx⟩
     | builtin b=>cases b <;> intro hp4 <;> first | exact ⟨fun _=>⟨rfl,rfl,rfl⟩,fun K hx=>by rw [np _ _ _ _ _ rfl rfl rfl rfl] at hx; exact hx⟩ | cases hp4
     | _=>intro hp; cases hp
    | _=>intro hp; cases hp
   rw [(key.1 h).1];dsimp only;rw [(key.1 h).2.1];dsimp only;rw [(key.1 h).2.2];dsimp only;exact vo (fun v g hx=>go v (.eff v g) g _ (fun _ _ _=>hp4) hx) (key.2 _ hx)
  ·rw [uj] at hx;rw [zK hl hd.1];exact sB hst hR l (j+1) _ h _ _ (by rw [iG]; exact hl) hd.2 hdr' (by simp [hrl]) (conf .skip (by simp)) hx
theorem fk {S:Sx}{nm:Nat}{M:List (List Nat×List Nat)}: ∀ (c:Code){p:List Nat}{tm:TS}{h:Heap}{Q:cB}{Q':wY},tm.length=nm->du nm c=true->(∀ x tm h,tm.length=nm->Q x tm h->Q' x (fr tm) h)->wpS S nm M p c tm h Q->JB S nm c (fr tm) h Q'
 | .skip,_,_,_,_,_,hl,_,hQ,hx=>hQ _ _ _ hl hx
 | .exit _,_,_,_,_,_,hl,_,hQ,hx=>hQ _ _ _ hl hx
 | .ret,_,_,_,_,_,hl,_,hQ,hx=>hQ _ _ _ hl hx
 | .label _,_,_,_,_,_,hl,_,hQ,hx=>hQ _ _ _ hl hx
 | .region _ ops draw,p,tm,h,Q,Q',hl,hd,hQ,hx=>by
  cases draw with
  | false=>exact pI (fun tm h hl hx=>hQ _ _ _ hl hx) ops.toList hl hd hx
  | true=>
   cases hst:lk ops with
   | true=>
    have hx:(match lk ops with | true=>rr S (co (fU ops)) ops h.next (room h ops.size) ops.toList 0 tm (room h ops.size) [] [] fun tm h=>Q .normal tm h | false=>_):=hx;rw [hst] at hx;refine ⟨?_,sB hst (fun tm h hl hx=>hQ _ _ _ hl hx) ops.toList 0 tm _ [] [] hl hd rfl rfl (fun k r h=>by simp at h) hx⟩;unfold lk at hst;simp only [and_eq_true] at hst;simpa using hst.1.1
   | false=>
   have hx:(match lk ops with | true=>_ | false=>Oq S ops (fr tm) h (L6 nm fun tm h=>Q .normal tm h)):=hx;rw [hst] at hx;refine Kb (fun E h hx=> ?_) (show Oq S ops (fr tm) h (L6 nm fun tm h=>Q .normal tm h) from hx);obtain ⟨tm',h1,rfl,h2⟩:=hx;exact hQ _ _ _ h1 h2
 | .seq a b,p,tm,h,Q,Q',hl,hd,hQ,hx=>by
  simp only [du,and_eq_true] at hd;refine fk a hl hd.1 (fun x tm h hl hx=> ?_) hx
  cases x with
  | normal=>exact fk b hl hd.2 hQ hx
  | _=>exact hQ _ _ _ hl hx
 | .cond c a b,p,tm,h,Q,Q',hl,hd,hQ,hx=>by
  simp only [du,and_eq_true] at hd;rw [Ka,yw];simp only [wpS] at hx;unfold ND at hx;split at hx
  ·next t he=>
   rw [he];rcases qj hx with ⟨rfl,h1⟩ | ⟨rfl,h1⟩
   ·exact fk a hl hd.1 hQ h1
   ·exact fk b hl hd.2 hQ h1
  ·exact hx.elim
 | .block id c,p,tm,h,Q,Q',hl,hd,hQ,hx=>by
  refine fk c hl hd (fun x tm h hl hx=> ?_) hx
  cases x with
  | exit id'=>
   show if id'=id then Q' .normal (fr tm) h else Q' (.exit id') (fr tm) h;simp only [DA] at hx
   cases hb:Nat.beq id' id with
   | true=>
    rw [hb] at hx;rw [if_pos (Nat.eq_of_beq_eq_true hb)]; exact hQ _ _ _ hl hx
   | false=>
    rw [hb] at hx;rw [if_neg (Nat.ne_of_beq_eq_false hb)]; exact hQ _ _ _ hl hx
  | _=>exact hQ _ _ _ hl hx
 | .loop c,p,tm,h,Q,Q',hl,hd,hQ,hx=>by
  obtain ⟨x,E',h',h1,h2⟩:=(show yE S nm c (fr tm) h (xX nm Q) from EG hl hx)
  refine ⟨x,E',h',h1,?_⟩;obtain ⟨tm',h3,rfl,h4⟩:=h2;exact hQ _ _ _ h3 h4
 | .rangeFunc f ps a b,p,tm,h,Q,Q',hl,hd,hQ,hx=>by
  obtain ⟨x,E',h',h1,h2⟩:=(show EH S nm (.rangeFunc f ps a b) (fr tm) h (xX nm Q) from hx)
  refine ⟨x,E',h',h1,?_⟩;obtain ⟨tm',h3,rfl,h4⟩:=h2;exact hQ _ _ _ h3 h4
 | .scope _,_,_,_,_,_,_,_,_,hx=>hx.elim
 | .goto _,_,_,_,_,_,_,_,_,hx=>hx.elim
 | .refuse _,_,_,_,_,_,_,_,_,hx=>hx.elim
def QJ (I:Nat->TH)(n:Nat)(tm:TS)(h:Heap):Prop:= ∃ m,m < n/\I m tm h
def NV (I:Nat->TH)(n:Nat)(Q:cB)(x:Exit)(tm:TS)(h:Heap):Prop:=match x with
 | .normal=>QJ I n tm h
 | x=>Q x tm h
def FF:Code->Nat->Oper
 | .region _ ops _,i=>ops.toList.getD i ⟨none,.nilCheck (.tmp 0),0,"",#[],none⟩
 | _,_=>⟨none,.nilCheck (.tmp 0),0,"",#[],none⟩
def cZ:List Nat->Code->Code
 | [],c=>c
 | 0::p,.seq a _=>cZ p a
 | _::p,.seq _ b=>cZ p b
 | 0::p,.cond _ a _=>cZ p a
 | _::p,.cond _ _ b=>cZ p b
 | _::p,.block _ a=>cZ p a
 | _::p,.loop a=>cZ p a
 | 0::p,.rangeFunc _ _ a _=>cZ p a
 | _::p,.rangeFunc _ _ _ b=>cZ p b
 | _,_=> .skip
theorem Dj {S:Sx}{nm:Nat}{M:List (List Nat×List Nat)}{p:List Nat}{c:Code}{Q:cB}(hd:du nm c=true)(I:Nat->TH)(hI: ∀ n tm h,tm.length=nm->I n tm h->wpS S nm M p c tm h (NV I n Q)): ∀ n tm h,tm.length=nm->I n tm h->FN S nm c tm h Q:=by
 intro n
 induction n using Nat.strongRecOn with
 | _ n ih=>
  intro tm h hl hi;refine Iw hd (fk c hl hd (fun x tm h hl hx=> ?_) (hI n tm h hl hi))
  cases x with
  | normal=>
   obtain ⟨m,hm,hi'⟩:=hx;exact ih m hm tm h hl hi'
  | _=>exact ⟨tm,hl,rfl,hx⟩
def ax (A:Nat->List Value->Heap->Prop)(n:Nat)(w:List Value)(h:Heap):Prop:= ∃ m,m < n/\A m w h
def NS (M:List Nat)(A:Nat->List Value->Heap->Prop)(n:Nat)(Q:cB)(x:Exit)(tm:TS)(h:Heap):Prop:=match x with
 | .normal=>ax A n (M.map (oh tm)) h
 | x=>Q x tm h
theorem aj {A B:Prop}(h:A)(e:A=B:=by kernel_rfl):B:=cast e h
def O1 (S:Sx)(nm:Nat)(M:List (List Nat×List Nat)):List Nat->List Nat->Code->cB->cB
 | _,[],_,K=>K
 | p,0::q,.seq a b,K=>O1 S nm M (0::p) q a (Pd (fun tm h=>wpS S nm M (1::p) b tm h K) K)
 | p,_::q,.seq _ b,K=>O1 S nm M (1::p) q b K
 | p,0::q,.cond _ a _,K=>O1 S nm M (0::p) q a K
 | p,_::q,.cond _ _ b,K=>O1 S nm M (1::p) q b K
 | p,_::q,.block id a,K=>O1 S nm M (0::p) q a (DA id K)
 | _,_,_,K=>K
def LL (S:Sx)(X:FD)(p:List Nat)(w:List Value)(h:Heap)(Q:cB):Prop:=No S X.nm (sJ X.ms p) (cZ p X.body) w h Q
def TT (S:Sx)(X:FD)(p:List Nat)(tm:TS)(h:Heap)(Q:cB):Prop:=wpS S X.nm X.ms p.reverse (cZ p X.body) tm h Q
def KK (S:Sx)(X:FD)(q p:List Nat)(K:cB):cB:=O1 S X.nm X.ms p.reverse q (cZ p X.body) K
def RR (X:FD)(p:List Nat)(A:Nat->List Value->Heap->Prop)(n:Nat)(Q:cB):cB:=NS (sJ X.ms p) A n Q
theorem ya {S:Sx}{X:FD}{p:List Nat}{K:cB}(A:Nat->List Value->Heap->Prop)(hd:du X.nm (cZ p X.body)=true)
  (step: ∀ n w (x:Nat->Value) h,A n w h->TT S X p (rX X.nm 0 ((sJ X.ms p).zip w) x) h (RR X p A n K)) (n:Nat) {w:List Value} {h:Heap} (hA:A n w h) (hq: ∀ x:Nat->Value,(sJ X.ms p).map (oh (rX X.nm 0 ((sJ X.ms p).zip w) x))=w):LL S X p w h K:=fun x=>
 Dj (M:=X.ms) (p:=p.reverse) hd (fun m tm h=>A m ((sJ X.ms p).map (oh tm)) h) (fun m tm h hl hi=>by
  have:=step m ((sJ X.ms p).map (oh tm)) (oh tm) h hi;rw [AH hl] at this;exact this) n _ h (uu ..) (by rw [hq x]; exact hA)
def fA {α:Type}(W:α->LV)(I:Nat->α->Heap->Prop)(n:Nat)(w:LV)(h:Heap):Prop:= ∃ a,w=W a/\I n a h
theorem bp {α:Type}{W:α->LV}{I:Nat->α->Heap->Prop}{n:Nat}(m:Nat){a:α}{h:Heap}(hm:m < n)(hi:I m a h):ax (fA W I) n (W a) h:=⟨m,hm,a,rfl,hi⟩
theorem bH {S:Sx}{X:FD}{p:List Nat}{K:cB}{α:Type}(W:α->LV)(I:Nat->α->Heap->Prop)
  (step: ∀ n (a:α) (x:Nat->Value) h,I n a h->TT S X p (rX X.nm 0 ((sJ X.ms p).zip (W a)) x) h (RR X p (fA W I) n K)) (n:Nat) {a:α} {h:Heap} (hi:I n a h) (hd:du X.nm (cZ p X.body)=true:=by kernel_rfl) (hq: ∀ x:Nat->Value,(sJ X.ms p).map (oh (rX X.nm 0 ((sJ X.ms p).zip (W a)) x))=W a:=by intro; kernel_rfl):LL S X p (W a) h K:=
 ya (fA W I) hd (fun n w x h ⟨a,hw,hi⟩=>by subst hw; exact step n a x h hi) n ⟨a,rfl,hi⟩ hq
def qh {α β:Type}(W:α->β->LV)(I:Nat->α->β->Heap->Prop)(n:Nat)(w:LV)(h:Heap):Prop:= ∃ a b,w=W a b/\I n a b h
theorem gO {α β:Type}{W:α->β->LV}{I:Nat->α->β->Heap->Prop}{n:Nat}(m:Nat){a:α}{b:β}{h:Heap}(hm:m < n)(hi:I m a b h):ax (qh W I) n (W a b) h:=⟨m,hm,a,b,rfl,hi⟩
theorem ki {S:Sx}{X:FD}{p:List Nat}{K:cB}{α β:Type}(W:α->β->LV)(I:Nat->α->β->Heap->Prop)
  (step: ∀ n (a:α) (b:β) (x:Nat->Value) h,I n a b h->TT S X p (rX X.nm 0 ((sJ X.ms p).zip (W a b)) x) h (RR X p (qh W I) n K)) (n:Nat) {a:α} {b:β} {h:Heap} (hi:I n a b h) (hd:du X.nm (cZ p X.body)=true:=by kernel_rfl) (hq: ∀ x:Nat->Value,(sJ X.ms p).map (oh (rX X.nm 0 ((sJ X.ms p).zip (W a b)) x))=W a b:=by intro; kernel_rfl):LL S X p (W a b) h K:=
 ya (qh W I) hd (fun n w x h ⟨a,b,hw,hi⟩=>by subst hw; exact step n a b x h hi) n ⟨a,b,rfl,hi⟩ hq
def GP {α β γ:Type}(W:α->β->γ->LV)(I:Nat->α->β->γ->Heap->Prop)(n:Nat)(w:LV)(h:Heap):Prop:= ∃ a b c,w=W a b c/\I n a b c h
theorem uX {α β γ:Type}{W:α->β->γ->LV}{I:Nat->α->β->γ->Heap->Prop}{n:Nat}(m:Nat){a:α}{b:β}{c:γ}{h:Heap}(hm:m < n)(hi:I m a b c h):ax (GP W I) n (W a b c) h:=⟨m,hm,a,b,c,rfl,hi⟩
theorem Cv {S:Sx}{X:FD}{p:List Nat}{K:cB}{α β γ:Type}(W:α->β->γ->LV)(I:Nat->α->β->γ->Heap->Prop)
  (step: ∀ n (a:α) (b:β) (c:γ) (x:Nat->Value) h,I n a b c h->TT S X p (rX X.nm 0 ((sJ X.ms p).zip (W a b c)) x) h (RR X p (GP W I) n K)) (n:Nat) {a:α} {b:β} {c:γ} {h:Heap} (hi:I n a b c h) (hd:du X.nm (cZ p X.body)=true:=by kernel_rfl) (hq: ∀ x:Nat->Value,(sJ X.ms p).map (oh (rX X.nm 0 ((sJ X.ms p).zip (W a b c)) x))=W a b c:=by intro; kernel_rfl):LL S X p (W a b c) h K:=
 ya (GP W I) hd (fun n w x h ⟨a,b,c,hw,hi⟩=>by subst hw; exact step n a b c x h hi) n ⟨a,b,c,rfl,hi⟩ hq
def kY {α β γ δ:Type}(W:α->β->γ->δ->LV)(I:Nat->α->β->γ->δ->Heap->Prop)(n:Nat)(w:LV)(h:Heap):Prop:= ∃ a b c d,w=W a b c d/\I n a b c d h
theorem fG {α β γ δ:Type}{W:α->β->γ->δ->LV}{I:Nat->α->β->γ->δ->Heap->Prop}{n:Nat}(m:Nat){a:α}{b:β}{c:γ}{d:δ}{h:Heap}(hm:m < n)(hi:I m a b c d h):ax (kY W I) n (W a b c d) h:=⟨m,hm,a,b,c,d,rfl,hi⟩
theorem jW {S:Sx}{X:FD}{p:List Nat}{K:cB}{α β γ δ:Type}(W:α->β->γ->δ->LV)(I:Nat->α->β->γ->δ->Heap->Prop)
  (step: ∀ n (a:α) (b:β) (c:γ) (d:δ) (x:Nat->Value) h,I n a b c d h->TT S X p (rX X.nm 0 ((sJ X.ms p).zip (W a b c d)) x) h (RR X p (kY W I) n K)) (n:Nat) {a:α} {b:β} {c:γ} {d:δ} {h:Heap} (hi:I n a b c d h) (hd:du X.nm (cZ p X.body)=true:=by kernel_rfl) (hq: ∀ x:Nat->Value,(sJ X.ms p).map (oh (rX X.nm 0 ((sJ X.ms p).zip (W a b c d)) x))=W a b c d:=by intro; kernel_rfl):LL S X p (W a b c d) h K:=
 ya (kY W I) hd (fun n w x h ⟨a,b,c,d,hw,hi⟩=>by subst hw; exact step n a b c d x h hi) n ⟨a,b,c,d,rfl,hi⟩ hq
def wp {α β γ δ ε:Type}(W:α->β->γ->δ->ε->LV)(I:Nat->α->β->γ->δ->ε->Heap->Prop)(n:Nat)(w:LV)(h:Heap):Prop:= ∃ a b c d e,w=W a b c d e/\I n a b c d e h
theorem jF {α β γ δ ε:Type}{W:α->β->γ->δ->ε->LV}{I:Nat->α->β->γ->δ->ε->Heap->Prop}{n:Nat}(m:Nat){a:α}{b:β}{c:γ}{d:δ}{e:ε}{h:Heap}(hm:m < n)(hi:I m a b c d e h):ax (wp W I) n (W a b c d e) h:=⟨m,hm,a,b,c,d,e,rfl,hi⟩
theorem xK {S:Sx}{X:FD}{p:List Nat}{K:cB}{α β γ δ ε:Type}(W:α->β->γ->δ->ε->LV)(I:Nat->α->β->γ->δ->ε->Heap->Prop)
  (step: ∀ n (a:α) (b:β) (c:γ) (d:δ) (e:ε) (x:Nat->Value) h,I n a b c d e h->TT S X p (rX X.nm 0 ((sJ X.ms p).zip (W a b c d e)) x) h (RR X p (wp W I) n K)) (n:Nat) {a:α} {b:β} {c:γ} {d:δ} {e:ε} {h:Heap} (hi:I n a b c d e h) (hd:du X.nm (cZ p X.body)=true:=by kernel_rfl) (hq: ∀ x:Nat->Value,(sJ X.ms p).map (oh (rX X.nm 0 ((sJ X.ms p).zip (W a b c d e)) x))=W a b c d e:=by intro; kernel_rfl):LL S X p (W a b c d e) h K:=
 ya (wp W I) hd (fun n w x h ⟨a,b,c,d,e,hw,hi⟩=>by subst hw; exact step n a b c d e x h hi) n ⟨a,b,c,d,e,rfl,hi⟩ hq
def P6 {α β γ δ ε ζ:Type}(W:α->β->γ->δ->ε->ζ->LV)(I:Nat->α->β->γ->δ->ε->ζ->Heap->Prop)(n:Nat)(w:LV)(h:Heap):Prop:= ∃ a b c d e f,w=W a b c d e f/\I n a b c d e f h
theorem O9 {α β γ δ ε ζ:Type}{W:α->β->γ->δ->ε->ζ->LV}{I:Nat->α->β->γ->δ->ε->ζ->Heap->Prop}{n:Nat}(m:Nat){a:α}{b:β}{c:γ}{d:δ}{e:ε}{f:ζ}{h:Heap}(hm:m < n)(hi:I m a b c d e f h):ax (P6 W I) n (W a b c d e f) h:=⟨m,hm,a,b,c,d,e,f,rfl,hi⟩
theorem P0 {S:Sx}{X:FD}{p:List Nat}{K:cB}{α β γ δ ε ζ:Type}(W:α->β->γ->δ->ε->ζ->LV)(I:Nat->α->β->γ->δ->ε->ζ->Heap->Prop)
  (step: ∀ n (a:α) (b:β) (c:γ) (d:δ) (e:ε) (f:ζ) (x:Nat->Value) h,I n a b c d e f h->TT S X p (rX X.nm 0 ((sJ X.ms p).zip (W a b c d e f)) x) h (RR X p (P6 W I) n K)) (n:Nat) {a:α} {b:β} {c:γ} {d:δ} {e:ε} {f:ζ} {h:Heap} (hi:I n a b c d e f h) (hd:du X.nm (cZ p X.body)=true:=by kernel_rfl) (hq: ∀ x:Nat->Value,(sJ X.ms p).map (oh (rX X.nm 0 ((sJ X.ms p).zip (W a b c d e f)) x))=W a b c d e f:=by intro; kernel_rfl):LL S X p (W a b c d e f) h K:=
 ya (P6 W I) hd (fun n w x h ⟨a,b,c,d,e,f,hw,hi⟩=>by subst hw; exact step n a b c d e f x h hi) n ⟨a,b,c,d,e,f,rfl,hi⟩ hq
def RG (S:Sx)(X:FD)(p:List Nat)(tm:TS)(h:Heap)(Q:cB):Prop:=D1 S X.nm (cZ p X.body) tm h Q
theorem EA {S:Sx}{nm:Nat}{f:Operand}{ps:Array Tmp}{asg body:Code}{tm:TS}{h:Heap}{Q:cB}{g:Nat}{first cap:Array Value}(hl:tm.length=nm)(hf:ev S.gl tm f = .func (.func g) first cap)(hc:lh asg body=true)(hg:g < YB/\vf S.P g=true)
  (hx:FW S g (first.toList++[.func (.yield h.next) #[] #[]]++cap.toList) (h.push (.loop .ready tm ps.toList asg body hc)) fun _ h2=> ∃ e,Ah (h2.get h.next)=some e/\Q e tm (h2.del h.next)):D1 S nm (.rangeFunc f ps asg body) tm h Q:=by
 obtain ⟨v,h2,⟨n0,hr⟩,e,he,hq⟩:=hx;refine ⟨e,fr tm,h2.del h.next,⟨n0,fun n N hn _ tm' ht=>⟨tm',ht,?_⟩⟩,tm,hl,rfl,hq⟩;have htm:tm'=tm:=by
  refine List.ext_getElem? fun i=> ?_;have h1:=ht.2 i;unfold fr at h1;by_cases hi:i < nm
  ·have e1:tm'[i]?=some (tm'.getD i undef):=by rw [gD,gE (by rw [ht.1]; exact hi)]; rfl
   have e2:tm[i]?=some (tm.getD i undef):=by rw [gD,gE (by omega)]; rfl
   rw [e1,e2,h1]
  ·rw [getElem?_eq_none (by rw [ht.1]; omega),getElem?_eq_none (by omega)]
 subst htm;simp only [aU];rw [hf];dsimp only;rw [dif_pos hc,if_pos hg,hr n hn];dsimp only;rw [he]; rfl
theorem DK {S:Sx}{nm:Nat}{M:List (List Nat×List Nat)}{p0 p1:List Nat}{k:Nat}{args:List Value}{tm:TS}{ps:List Tmp}{asg body:Code}{hc:lh asg body=true}{h:Heap}{K:VH}(hk:h.get k=some (.loop .ready tm ps asg body hc))(hlen:args.length=ps.length)(hl:(jU tm (ps.zip args)).length=nm)(d0:du nm asg=true)(d1:du nm body=true)
  (hx:wpS S nm M p0 asg (jU tm (ps.zip args)) h fun e tm1 h1=>e = .normal/\h1.get k=some (.loop .ready tm ps asg body hc)/\wpS S nm M p1 body tm1 (h1.set k (.loop .busy tm ps asg body hc)) fun e _ h2=>h2.get k=some (.loop .busy tm ps asg body hc)/\ ∃ b st,tE e=some (b,st)/\K (.bool b) (h2.set k (.loop st tm ps asg body hc))):FW S (YB+k) args h K:=by
 have h1:=fk (Q':=xX nm fun e tm1 h1=>e = .normal/\h1.get k=some (.loop .ready tm ps asg body hc)/\wpS S nm M p1 body tm1 (h1.set k (.loop .busy tm ps asg body hc)) fun e _ h2=>h2.get k=some (.loop .busy tm ps asg body hc)/\ ∃ b st,tE e=some (b,st)/\K (.bool b) (h2.set k (.loop st tm ps asg body hc))) asg hl d0 (fun x tm h hl hx=>⟨tm,hl,rfl,hx⟩) hx;obtain ⟨x,E1,h1,⟨n1,hr1⟩,tm1,hl1,rfl,rfl,hk1,h2⟩:=fi asg d0 h1;have h2:=fk (Q':=xX nm fun e _ h2=>h2.get k=some (.loop .busy tm ps asg body hc)/\ ∃ b st,tE e=some (b,st)/\K (.bool b) (h2.set k (.loop st tm ps asg body hc))) body hl1 d1 (fun x tm h hl hx=>⟨tm,hl,rfl,hx⟩) h2;obtain ⟨x,E2,h2,⟨n2,hr2⟩,tm2,hl2,rfl,hk2,b,st,hls,hK⟩:=fi body d1 h2;refine ⟨_,_,⟨max n1 n2+1,fun n hn=> ?_⟩,hK⟩;obtain ⟨n',rfl⟩: ∃ n',n=n'+1:=⟨n - 1,by omega⟩
 obtain ⟨t1,ht1,e1⟩:=hr1 n' n' (by omega) (by omega) _ (I1 hl);obtain ⟨t2,ht2,e2⟩:=hr2 n' n' (by omega) (by omega) _ ht1;simp only [aX];rw [if_pos (by omega),Nat.add_sub_cancel_left];unfold qY;rw [hk];dsimp only;rw [if_pos hlen,e1];dsimp only;rw [hk1];dsimp only;rw [e2];dsimp only;rw [hk2,hls]
theorem ym: ∀ (l:List (Tmp×Value))(tm:TS),(jU tm l).length=tm.length
 | [],_=>rfl
 | p::l,tm=>by
  show (jU (tm.set p.1 p.2) l).length=_;rw [ym l,List.length_set]
theorem O6 {S:Sx}{X:FD}{p:List Nat}{f:Operand}{ps:Array Tmp}{tm:TS}{h:Heap}{Q:cB}{g:Nat}{first cap:List Value}(he:cZ p X.body = .rangeFunc f ps (cZ (p++[0]) X.body) (cZ (p++[1]) X.body))(hl:tm.length=X.nm)(hf:ev S.gl tm f = .func (.func g) ⟨first⟩ ⟨cap⟩)(hc:lh (cZ (p++[0]) X.body) (cZ (p++[1]) X.body)=true)(hg:g < YB/\vf S.P g=true)
  (hx:FW S g (first++[.func (.yield h.next) ⟨[]⟩ ⟨[]⟩]++cap) (h.push (.loop .ready tm ps.toList (cZ (p++[0]) X.body) (cZ (p++[1]) X.body) hc)) fun _ h2=> ∃ e,Ah (h2.get h.next)=some e/\Q e tm (h2.del h.next)):RG S X p tm h Q:=by
 unfold RG;rw [he];exact EA hl hf hc hg hx
theorem KV {S:Sx}{X:FD}{p:List Nat}{k:Nat}{args:List Value}{tm:TS}{ps:List Tmp}{hc:lh (cZ (p++[0]) X.body) (cZ (p++[1]) X.body)=true}{h:Heap}{K:VH}(hk:h.get k=some (.loop .ready tm ps (cZ (p++[0]) X.body) (cZ (p++[1]) X.body) hc))(hlen:args.length=ps.length)(hl:tm.length=X.nm)(d0:du X.nm (cZ (p++[0]) X.body)=true)(d1:du X.nm (cZ (p++[1]) X.body)=true)
  (hx:TT S X (p++[0]) (jU tm (ps.zip args)) h fun e tm1 h1=>e = .normal/\h1.get k=some (.loop .ready tm ps (cZ (p++[0]) X.body) (cZ (p++[1]) X.body) hc)/\TT S X (p++[1]) tm1 (h1.set k (.loop .busy tm ps (cZ (p++[0]) X.body) (cZ (p++[1]) X.body) hc)) fun e _ h2=>h2.get k=some (.loop .busy tm ps (cZ (p++[0]) X.body) (cZ (p++[1]) X.body) hc)/\ ∃ b st,tE e=some (b,st)/\K (.bool b) (h2.set k (.loop st tm ps (cZ (p++[0]) X.body) (cZ (p++[1]) X.body) hc))):FW S (YB+k) args h K:=
 DK hk hlen (by rw [ym]; exact hl) d0 d1 hx
noncomputable def C9 (S:Sx)(tm:TS)(h:Heap):List ResultVar->Option (List Value)
 | []=>some []
 | .tmp t::r=>(C9 S tm h r).map (tm.getD t undef :: ·)
 | .cell a t::r=>match ah S.P t h (tm.getD a undef) with
  | some v=>(C9 S tm h r).map (v :: ·)
  | none=>none
theorem uf (S:Sx)(tm:TS)(h:Heap): ∀ l,oJ S (fr tm) h l=C9 S tm h l
 | []=>rfl
 | .tmp t::r=>by simp only [oJ,C9,uf S tm h r,fr]
 | .cell a t::r=>by simp only [oJ,C9,uf S tm h r,fr]; try (cases ah S.P t h (tm.getD a undef) <;> rfl)
noncomputable def Pn (S:Sx)(rs:List ResultVar)(Q:VH)(x:Exit)(tm:TS)(h:Heap):Prop:=match x with
 | .normal=>sS (C9 S tm h rs) h Q
 | .ret=>sS (C9 S tm h rs) h Q
 | _=>False
noncomputable def Jv (S:Sx)(h:Heap):List (Value×Option TypeId)->Option (List Value)
 | []=>some []
 | (v,none)::r=>(Jv S h r).map (v :: ·)
 | (a,some t)::r=>match ah S.P t h a with
  | some v=>(Jv S h r).map (v :: ·)
  | none=>none
noncomputable def cX (S:Sx)(l:List (Value×Option TypeId))(h:Heap)(Q:VH):Prop:=sS (Jv S h l) h Q
theorem nC {S:Sx}{a:Value}{t:TypeId}{v:Value}{h:Heap}{Q:VH}(hl:ah S.P t h a=some v)(hq:Q v h):cX S [(a,some t)] h Q:=by
 unfold cX;simp only [Jv,hl];exact hq
theorem rH {S:Sx}{a:Value}{t:TypeId}{v w:Value}{h:Heap}{Q:VH}(hl:ah S.P t h a=some v)(hq:Q (.tuple ⟨[v,w]⟩) h):cX S [(a,some t),(w,none)] h Q:=by
 unfold cX;simp only [Jv,hl];exact hq
noncomputable def EE (S:Sx)(X:FD)(Q:VH):cB:=Pn S X.rs Q
theorem bG {S:Sx}(X:FD){f:FuncId}{fn:Func}{args:List Value}{h:Heap}{Q:VH}(hf:S.P.funcs[f]?=some fn)
  (hw:wpS S X.nm X.ms [] X.body (args++List.replicate (X.nm - args.length) undef) h (EE S X Q)) (hX:X=bF fn X.ms:=by kernel_rfl) (hp:(Nat.blt f YB && (S.pr f).isNone && Nat.ble args.length X.nm && du X.nm X.body && fn.body.isSome)=true:=by kernel_rfl):FW S f args h Q:=by
 have e1:X.nm=fn.ntmps:=by rw [hX]; rfl
 have e2:X.body=fn.body.getD .skip:=by rw [hX]; rfl
 have e3:X.rs=fn.results.toList:=by rw [hX]; rfl
 unfold EE at hw;rw [e1,e2,e3] at hw;rw [e1,e2] at hp;simp only [and_eq_true,blt_eq,Nat.ble_eq,Option.isNone_iff_eq_none] at hp;obtain ⟨⟨⟨⟨h1,h2⟩,h3⟩,h4⟩,h5⟩:=hp;obtain ⟨c,hb⟩:=Option.isSome_iff_exists.1 h5;rw [hb] at hw h4;have hw:wpS S fn.ntmps X.ms [] c (args++List.replicate (fn.ntmps - args.length) undef) h (Pn S fn.results.toList Q):=hw;have h4:du fn.ntmps c=true:=h4;have hl:(args++List.replicate (fn.ntmps - args.length) undef).length=fn.ntmps:=by simp; omega
 have he:fr (args++List.replicate (fn.ntmps - args.length) undef)=N4 args:=by
  funext t;show (args++List.replicate (fn.ntmps - args.length) undef).getD t undef=args.getD t undef;simp only [gD];by_cases h5:t < args.length
  ·rw [List.getElem?_append_left h5]
  ·rw [List.getElem?_append_right (by omega),getElem?_eq_none (l:=args) (by omega),getElem?_replicate];split <;> rfl
 refine O5 hf hb h1 h2 h3 h4 ?_;rw [<-he];refine fk c hl h4 (fun x tm h _ hx=> ?_) hw
 cases x with
 | normal=>show sS (oJ S (fr tm) h _) h Q; rw [uf]; exact hx
 | ret=>show sS (oJ S (fr tm) h _) h Q; rw [uf]; exact hx
 | _=>exact hx.elim
theorem am {n:Int}(h1: -9223372036854775808<=n)(h2:n < 9223372036854775808):wrap .i64 n=n:=by rw [IntKind.wrap_i64]; omega
theorem cJ {n:Int}(h1:0<=n)(h2:n < 18446744073709551616):wrap .u64 n=n:=by
 rw [IntKind.wrap_u64]; omega
theorem lU {n:Int}(h1:0<=n)(h2:n < 256):wrap .u8 n=n:=by
 rw [IntKind.wrap_u8]; omega
theorem jh {P:Program}{t:TypeId}(hU:P.underlying t=some .string)(l:List UInt8)(k:IntKind){i:Int}(h0:0<=i)(h1:i < l.length):aQ P t (aa l) (.int k i)=some (.int .u8 ((l.getD i.toNat 0).toNat:Nat)):=by
 unfold aQ aa;rw [hU];dsimp only;rw [if_pos h0,gD,gE (by omega)];rfl
theorem ji {P:Program}{t:TypeId}(hU:P.underlying t=some .string)(l:List UInt8){h:Heap}{lo hi:Option Value}{a b:Nat}(ha:bI lo 0=some (a:Int))(hb:bI hi l.length=some (b:Int))(h1:a<=b)(h2:b<=l.length):aH P t (aa l) lo hi none h=some (aa ((l.drop a).take (b - a))):=by
 unfold aH aa;dsimp only;rw [hU];dsimp only;have hb':bI hi (l.length:Nat)=some (b:Int):=hb;show (match (none:Option Value),bI lo 0,bI hi l.length with | none,some l_1,some r=>_ | _,_,_=>none)=_;rw [ha,hb'];dsimp only;rw [if_pos (by omega)];have e1:(a:Int).toNat=a:=by omega
 have e2:((b:Int) - a).toNat=b - a:=by omega
 rw [e1,e2]
theorem L9 {P:Program}{t:TypeId}(a b:List UInt8)(h:a.length+b.length<=4611686018427387904):al P .add t (aa a) (aa b)=some (aa (a++b)):=by
 show yc .add a b=_;unfold yc;dsimp only;rw [if_pos h]
structure Ok (h0 h:Heap):Prop where
 wf: ∀ k B,h.get k=some B->k < h.next
 ext: ∀ k B,h0.get k=some B->h.get k=some B
 nx:h0.next<=h.next
def Wf (h:Heap):Prop:= ∀ k B,h.get k=some B->k < h.next
theorem Ok.refl {h:Heap}(w:Wf h):Ok h h:=⟨w,fun _ _ h=>h,le_refl _⟩
theorem Ok.trans {h0 h1 h2:Heap}(a:Ok h0 h1)(b:Ok h1 h2):Ok h0 h2:=⟨b.wf,fun k B h=>b.ext k B (a.ext k B h),le_trans a.nx b.nx⟩
theorem Ok.push {h0 h:Heap}(a:Ok h0 h)(B:Blk):Ok h0 (h.push B):=by
 refine ⟨Heap.wf_push a.wf B,fun k C hk=> ?_,le_trans a.nx (le_succ _)⟩;have h1:=a.ext k C hk;rw [Heap.get_push,if_neg (fun e=>by have:=a.wf _ _ h1; omega)];exact h1
theorem Ok.set {h0 h:Heap}(a:Ok h0 h){k:Nat}(B:Blk)(hk:h0.next<=k)(hk2:k < h.next)(w0:Wf h0):Ok h0 (h.set k B):=by
 refine ⟨fun j C hj=> ?_,fun j C hj=> ?_,a.nx⟩
 ·rw [Heap.get_set] at hj;split at hj
  ·next e=>rw [e]; exact hk2
  ·exact a.wf _ _ hj
 ·rw [Heap.get_set,if_neg (fun e=>by have:=w0 _ _ hj; omega)];exact a.ext _ _ hj
theorem Ok.room {h0 h:Heap}(a:Ok h0 h)(n:Nat):Ok h0 (room h n):=⟨fun k B hk=>lt_of_lt_of_le (a.wf k B hk) (le_add_right _ _),a.ext,le_trans a.nx (le_add_right _ _)⟩
def OwnR (h0 h:Heap)(e:TypeId)(v:Value)(vs:List Value):Prop:=
 (v = .slice none 0 0/\vs=[])\/ ∃ k cs,v = .slice (some ⟨k,0,none⟩) vs.length (bi+cs.length)/\h0.next<=k/\h.get k=some (.cells cs e 1 true)/\cs.take vs.length=vs/\vs.length<=cs.length
theorem OwnR.push {h0 h:Heap}{e:TypeId}{v:Value}{vs:List Value}(a:Ok h0 h)(o:OwnR h0 h e v vs)(B:Blk):OwnR h0 (h.push B) e v vs:=by
 rcases o with o | ⟨k,cs,h1,h2,h3,h4,h5⟩
 ·exact .inl o
 ·refine .inr ⟨k,cs,h1,h2,?_,h4,h5⟩;rw [Heap.get_push,if_neg (fun e=>by have:=a.wf _ _ h3; omega)];exact h3
theorem OwnR.snoc {P:Program}{t e:TypeId}{i:TypeInfo}(hU:P.underlying t=some (.slice e))(hE:cL P e=some i)(hs:i.size=1){h0 h:Heap}(w0:Wf h0)(a:Ok h0 h){v:Value}{vs:List Value}(o:OwnR h0 h e v vs){x:Value}(hx:bw x=true)(hl:(vs.length+1)*i.bytes<=70368744177664)(hl2:vs.length+1<=1099511627776):
  ∃ (b:Option Addr)(n c:Nat)(u:Upd),ay P t t v (gU 1 1 h.next) (h.push (.cells [x] e 1 true))=some (.slice b n c,u)/\n=vs.length+1/\OwnR h0 (u.app (h.push (.cells [x] e 1 true))) e (.slice b n c) (vs++[x])/\Ok h0 (u.app (h.push (.cells [x] e 1 true))):=by
 have hT:bW P t=true:=by unfold bW; rw [hU]
 have hsrc:cg (h.push (.cells [x] e 1 true)) i.size (gU 1 1 h.next)=some ([x],1):=by
  show (match (h.push (.cells [x] e 1 true)).get h.next with | some (.cells cs ..)=>if ((cs.drop 0).take (1*i.size)).length=1*i.size then some ((cs.drop 0).take (1*i.size),1) else none | _=>none)=_;rw [Heap.get_push,if_pos rfl,hs]; rfl
 have hap:=OwnR.push a o (.cells [x] e 1 true);have a':=a.push (.cells [x] e 1 true);generalize hh:h.push (.cells [x] e 1 true)=g at *;have hgn:h.next < g.next:=by rw [<-hh]; exact Nat.lt_succ_self _
 unfold ay;rw [hU]; dsimp only;rw [hE]; dsimp only;rw [if_pos hT,hsrc]; dsimp only;rw [if_pos (by simp [hx,hs])];rcases hap with ⟨rfl,rfl⟩ | ⟨k,cs,rfl,h2,h3,h4,h5⟩
 ·show ∃ b n c u,(if 1=0 then some (Value.slice none 0 0,Upd.no) else if 1*i.bytes<=70368744177664/\1<=1099511627776 then some (Value.slice (some ⟨g.next,0,none⟩) 1 (bi+1),Upd.push (.cells [x] e i.size true)) else none)=_/\_;rw [if_neg (by omega),if_pos (by simpa using And.intro hl hl2)];refine ⟨_,_,_,_,rfl,rfl,.inr ⟨g.next,[x],rfl,a'.nx,?_,rfl,by simp⟩,a'.push _⟩;show (g.push (.cells [x] e i.size true)).get g.next=_;rw [Heap.get_push,if_pos rfl,hs]
 ·dsimp only;rw [if_neg (by omega),hs,mul_one];have hcap:aK (bi+cs.length)=cs.length:=by unfold aK; rw [if_pos (by omega)]; omega
  rw [hcap];have hkn:=a'.wf _ _ h3;by_cases hroom:vs.length+1<=cs.length
  ·rw [if_pos hroom];unfold storeAt;rw [zero_add,h3];dsimp only;rw [if_pos ⟨by simp; omega,by simp [hx]⟩];refine ⟨_,_,_,_,rfl,rfl,.inr ⟨k,cs.take vs.length++[x]++cs.drop (vs.length+1),?_,h2,?_,?_,?_⟩,?_⟩
   ·simp only [length_append,length_cons,length_nil,length_take,length_drop];congr 1; omega
   ·show (g.set k _).get k=_;rw [Heap.get_set,if_pos rfl]; rfl
   ·have h6:(cs.take vs.length).length=vs.length:=by rw [length_take]; omega
    rw [length_append,append_assoc,<-append_assoc,List.take_append_of_le_length (by simp; omega),List.take_of_length_le (by simp; omega),h4]
   ·simp; omega
   ·exact a'.set _ h2 hkn w0
  ·rw [if_neg hroom];have hcl:cs.length=vs.length:=by omega
   unfold fT;rw [if_pos ⟨hl,hl2⟩,h3];dsimp only;rw [mul_one,if_pos ⟨rfl,rfl,by simp; omega⟩,if_neg (by omega),if_pos ⟨rfl,by omega⟩];refine ⟨_,_,_,_,rfl,rfl,.inr ⟨g.next,vs++[x],?_,a'.nx,?_,?_,?_⟩,?_⟩
   ·rw [length_append]; rfl
   ·show ((g.del k).push _).get g.next=_;rw [Heap.get_push,if_pos (show g.next=(g.del k).next from rfl),List.drop_zero,h4]
   ·exact List.take_length
   ·exact le_refl _
   ·refine ⟨?_,fun j C hj=> ?_,le_trans a'.nx (le_succ _)⟩
    ·refine Heap.wf_push (fun j C hj=> ?_) _;rw [Heap.get_del] at hj;split at hj
     ·cases hj
     ·exact a'.wf _ _ hj
    ·have h7:=a'.ext _ _ hj;have h8:=a'.wf _ _ h7;show ((g.del k).push _).get j=_;rw [Heap.get_push,if_neg (fun e=>by have:j=g.next:=e; omega),Heap.get_del,if_neg (fun e=>by have:=w0 _ _ hj; omega)];exact h7
def Rd (h:Heap)(e:TypeId)(v:Value)(vs:List Value):Prop:=
 (v = .slice none 0 0/\vs=[])\/ ∃ k off cs c wr,v = .slice (some ⟨k,off,none⟩) vs.length c/\h.get k=some (.cells cs e 1 wr)/\(cs.drop off).take vs.length=vs
theorem OwnR.rd {h0 h:Heap}{e:TypeId}{v:Value}{vs:List Value}(o:OwnR h0 h e v vs):Rd h e v vs:=by
 rcases o with o | ⟨k,cs,h1,h2,h3,h4,h5⟩
 ·exact .inl o
 ·exact .inr ⟨k,0,cs,_,true,h1,h3,by simpa using h4⟩
theorem Rd.ok {h h':Heap}{e:TypeId}{v:Value}{vs:List Value}(r:Rd h e v vs)(o:Ok h h'):Rd h' e v vs:=by
 rcases r with r | ⟨k,off,cs,c,wr,h1,h2,h3⟩
 ·exact .inl r
 ·exact .inr ⟨k,off,cs,c,wr,h1,o.ext _ _ h2,h3⟩
theorem Rd.len {h:Heap}{e:TypeId}{a:Option Addr}{n c:Nat}{vs:List Value}(r:Rd h e (.slice a n c) vs):n=vs.length:=by
 rcases r with ⟨h1,rfl⟩ | ⟨k,off,cs,c,wr,h1,h2,h3⟩
 ·injection h1
 ·injection h1
theorem OwnR.len {h0 h:Heap}{e:TypeId}{a:Option Addr}{n c:Nat}{vs:List Value}(r:OwnR h0 h e (.slice a n c) vs):n=vs.length:=r.rd.len
theorem Rd.at_ {P:Program}{t e:TypeId}{d:TypeDesc}(hU:P.underlying t=some (.slice e))(hs:an P e=some 1)(hd:P.underlying e=some d)(hg:isAgg P e=false){h:Heap}{v:Value}{vs:List Value}(r:Rd h e v vs){k:IntKind}{i:Int}(h0:0<=i)(h1:i < vs.length):
  ∃ p:Addr,ag P t v (.int k i)=some (.pointer (some p))/\ah P e h (.pointer (some p))=some (vs.getD i.toNat undef):=by
 rcases r with ⟨_,rfl⟩ | ⟨b,off,cs,c,wr,rfl,h3,h4⟩
 ·simp at h1; omega
 ·refine ⟨⟨b,off+i.toNat*1,none⟩,?_,?_⟩
  ·unfold ag;rw [hU]; dsimp only;rw [hs]; dsimp only;rw [if_pos ⟨h0,h1⟩];simp [Addr.add]
  ·unfold ah;rw [hd]; dsimp only;rw [h3]; dsimp only;rw [hg];simp only [false_eq_true,if_false,mul_one];have h5:=congrArg (fun l=>l[i.toNat]?) h4;simp only [List.getElem?_take,getElem?_drop] at h5;rw [if_pos (by omega)] at h5;rw [h5,gD,gE (by omega)]; rfl
def mD (c:UInt8):Value:= .int .u8 (c.toNat:Nat)
theorem jV: ∀ l:List UInt8,bytesOf (l.map mD)=some l
 | []=>rfl
 | c::l=>by
  have hc:c.toNat < 256:=c.toNat_lt;show (if 0<=((c.toNat:Nat):Int)/\((c.toNat:Nat):Int) < 256 then (bytesOf (l.map mD)).map (UInt8.ofNat ((c.toNat:Nat):Int).toNat :: ·) else none)=_;rw [if_pos (by omega),jV l,Int.toNat_natCast];simp
theorem MA {P:Program}{s d e:TypeId}(hs:P.underlying s=some (.slice e))(hd:P.underlying d=some .string)(he:P.underlying e=some (.int .u8)){h:Heap}{v:Value}{l:List UInt8}(r:Rd h e v (l.map mD)):tH P s d v h=some (aa l):=by
 unfold tH aV;dsimp only;rw [hs,hd];rcases r with ⟨rfl,h2⟩ | ⟨k,off,cs,c,wr,rfl,h2,h3⟩
 ·dsimp only;rw [he];have:l=[]:=by simpa using h2
  subst this;rfl
 ·dsimp only;rw [he];dsimp only;rw [h2];dsimp only;rw [h3,if_pos rfl,jV]; rfl
theorem OwnR.ok {h0 h h':Heap}{e:TypeId}{v:Value}{vs:List Value}(r:OwnR h0 h e v vs)(o:Ok h h'):OwnR h0 h' e v vs:=by
 rcases r with r | ⟨k,cs,h1,h2,h3,h4,h5⟩
 ·exact .inl r
 ·exact .inr ⟨k,cs,h1,h2,o.ext _ _ h3,h4,h5⟩
theorem OwnR.from_ {P:Program}{t e:TypeId}(hU:P.underlying t=some (.slice e))(hs:an P e=some 1){h0 h:Heap}{v:Value}{vs:List Value}(r:OwnR h0 h e v vs){z:Nat}(hz:z < vs.length):
  ∃ a n c,aH P t v (some (.int .i64 (z:Int))) none none h=some (.slice a n c)/\Rd h e (.slice a n c) (vs.drop z):=by
 rcases r with ⟨rfl,rfl⟩ | ⟨k,cs,rfl,h2,h3,h4,h5⟩
 ·simp at hz
 ·refine ⟨some ⟨k,0+z*1,none⟩,vs.length - z,bi+cs.length - z,?_,.inr ⟨k,0+z*1,cs,_,true,by rw [length_drop],h3,?_⟩⟩
  ·unfold aH;dsimp only;rw [hU];dsimp only [bI];rw [hs,h3];dsimp only;have hcap:aK (bi+cs.length)=cs.length:=by unfold aK; rw [if_pos (by omega)]; omega
   rw [if_pos (by simp),hcap,if_pos (by omega)];have e1:((z:Int)).toNat=z:=by omega
   have e2:((vs.length:Int) - (z:Int)).toNat=vs.length - z:=by omega
   rw [e1,e2]
  ·rw [zero_add,mul_one,length_drop];have:=congrArg (List.drop z) h4;rw [List.drop_take] at this;exact this
theorem OwnR.upto {P:Program}{t e:TypeId}(hU:P.underlying t=some (.slice e))(hs:an P e=some 1){h0 h:Heap}{v:Value}{vs:List Value}(r:OwnR h0 h e v vs){z:Nat}(hz:z<=vs.length)(hp:0 < vs.length):
  ∃ a n c,aH P t v none (some (.int .i64 (z:Int))) none h=some (.slice a n c)/\OwnR h0 h e (.slice a n c) (vs.take z):=by
 rcases r with ⟨rfl,rfl⟩ | ⟨k,cs,rfl,h2,h3,h4,h5⟩
 ·simp at hp
 ·refine ⟨some ⟨k,0+0*1,none⟩,z,bi+cs.length,?_,.inr ⟨k,cs,?_,h2,h3,?_,?_⟩⟩
  ·unfold aH;dsimp only;rw [hU];dsimp only [bI];rw [hs,h3];dsimp only;have hcap:aK (bi+cs.length)=cs.length:=by unfold aK; rw [if_pos (by omega)]; omega
   rw [if_pos (by simp),hcap,if_pos (by omega)];have e2:((z:Int) - ((0:Nat):Int)).toNat=z:=by omega
   have e0:((0:Nat):Int).toNat=0:=rfl;rw [e2,e0]; rfl
  ·rw [length_take,Nat.min_eq_left hz]
  ·rw [length_take,Nat.min_eq_left hz,<-h4,List.take_take,Nat.min_eq_left hz]
  ·rw [length_take]; omega
theorem rj (k:IntKind)(a b:Int):kz true [.int k a,.int k b]=some (.int k (if b > a then b else a)):=by simp [kz]
theorem dy {P:Program}{t:TypeId}{k:IntKind}{a:Int}{b:Nat}(h0:0<=a)(hb:0 < b):al P .rem t (.int k a) (.int k (b:Int))=some (.int k (a % (b:Int))):=by
 rw [My P t k _ _ (by omega),Int.tmod_eq_emod_of_nonneg h0]
theorem jT {P:Program}{t:TypeId}{a:Int}{b:Nat}(h0:0<=a)(h1:a < 18446744073709551616)(hb:0 < b):al P .quo t (.int .u64 a) (.int .u64 (b:Int))=some (.int .u64 (a / (b:Int))):=by
 rw [Ao P t .u64 _ _ (by omega),Int.tdiv_eq_ediv_of_nonneg h0,cJ (Int.ediv_nonneg h0 (by omega)) (Int.lt_of_le_of_lt (Int.ediv_le_self _ h0) h1)]
def fz:List Nat->Code->Code->Code
 | [],n,_=>n
 | 0::p,n,.seq a b=> .seq (fz p n a) b
 | _::p,n,.seq a b=> .seq a (fz p n b)
 | 0::p,n,.cond c a b=> .cond c (fz p n a) b
 | _::p,n,.cond c a b=> .cond c a (fz p n b)
 | _::p,n,.block i c=> .block i (fz p n c)
 | _::p,n,.loop c=> .loop (fz p n c)
 | _::_,_,c=>c
theorem ek: ∀ (p:List Nat)(c:Code),fz p (cZ p c) c=c
 | [],c=>rfl
 | i::p,c=>by
  cases c with
  | seq a b=>cases i <;> simp only [cZ,fz,ek p]
  | cond c a b=>cases i <;> simp only [cZ,fz,ek p]
  | block i c=>simp only [cZ,fz,ek p]
  | loop c=>simp only [cZ,fz,ek p]
  | _=>simp only [fz]
end Go.Ab
end
section
set_option linter.unusedVariables false
set_option maxRecDepth 100000
namespace Go.Proofs.YtoabjjimjldcfaaGreatDoor
open Go Go.Ab
noncomputable def GL:FD:=bF Tryz.f165 []
theorem DS (l m:LB)(h:Heap)(Q:VH)(hx:FW SS 177 [(aa l),(aa m)] h fun v1 h2=>yB v1 fun b3=>au (!b3) (Q (.tuple ⟨[(aa l),(.bool false)]⟩) h2) (xS (aH SS.P 9 (aa l) (some (.int .i64 ((m:LB).length:Int))) none none h2) fun l4=>Q (.tuple ⟨[(aa l4),(.bool true)]⟩) h2)):FW SS 165 [(aa l),(aa m)] h Q:=bG GL Tryz.func165 (aj hx)
noncomputable def K1:FD:=bF Tryz.f145 []
theorem G1 (l m:LB)(h:Heap)(Q:VH)(hx:FW SS 165 [(aa l),(aa m)] h fun v1 h2=> ∃ l3:LB,∃ b4:Bool,v1=(.tuple ⟨[(aa l3),(.bool b4)]⟩)/\Q (.tuple ⟨[(aa l3),(.bool b4)]⟩) h2):FW SS 145 [(aa l),(aa m)] h Q:=bG K1 Tryz.func145 (aj hx)
noncomputable def EB:FD:=bF Tryz.f186 []
theorem AS (l:LB)(c:Int)(h:Heap)(Q:VH)(hx:FW SS 196 [(aa l),(.int .u8 c)] h fun v1 h2=>yI .i64 v1 fun n3=>Q (.int .i64 n3) h2):FW SS 186 [(aa l),(.int .u8 c)] h Q:=bG EB Tryz.func186 (aj hx)
noncomputable def KM:FD:=bF Tryz.f178 []
theorem Hn (l:LB)(h:Heap)(Q:VH)(hx:au (([47]:LB) == l) (Q (.int .i64 0) h) (xI .u8 (aQ SS.P 9 (aa [47]) (.int .i64 0)) fun n1=>FW SS 186 [(aa l),(.int .u8 n1)] h fun v2 h3=>yI .i64 v2 fun n4=>Q (.int .i64 n4) h3)):FW SS 178 [(aa l),(aa [47])] h Q:=bG KM Tryz.func178 (aj hx)
noncomputable def N2:FD:=bF Tryz.f166 []
theorem Ln (l:LB)(h:Heap)(Q:VH)(hx:FW SS 178 [(aa l),(aa [47])] h fun v1 h2=>yI .i64 v1 fun n3=>au (decide ((n3:Int)>=0)) (xS (aH SS.P 9 (aa l) none (some (.int .i64 n3)) none (room h2 12)) fun l4=>xS (aH SS.P 9 (aa l) (some (.int .i64 (wrap .i64 (n3+1)))) none none (room h2 12)) fun l5=>Q (.tuple ⟨[(aa l4),(aa l5),(.bool true)]⟩) (room h2 12)) (Q (.tuple ⟨[(aa l),(aa []),(.bool false)]⟩) h2)):FW SS 166 [(aa l),(aa [47])] h Q:=bG N2 Tryz.func166 (aj hx)
noncomputable def PF:FD:=bF Tryz.f146 []
theorem OM (l:LB)(h:Heap)(Q:VH)(hx:FW SS 166 [(aa l),(aa [47])] h fun v1 h2=> ∃ l3:LB,∃ l4:LB,∃ b5:Bool,v1=(.tuple ⟨[(aa l3),(aa l4),(.bool b5)]⟩)/\Q (.tuple ⟨[(aa l3),(aa l4),(.bool b5)]⟩) h2):FW SS 146 [(aa l),(aa [47])] h Q:=bG PF Tryz.func146 (aj hx)
noncomputable def eT:FD:=bF Tryz.f126 [([1,0,1,0,0],[0,1,5])]
abbrev ez (l:LB)(c:Int)(i:Nat):LV:=[(aa l),(.int .u8 c),(iA i)]
theorem zj (l:LB)(c:Int)(h:Heap)(Q:VH)(hx:LL SS eT [1,0,1,0,0] (ez l c 0) h (KK SS eT [1,0,1,0] [] (EE SS eT Q))):FW SS 126 [(aa l),(.int .u8 c)] h Q:=bG eT Tryz.func126 (aj hx)
theorem mZ (l:LB)(c:Int)  (Inv:Nat->Nat->Heap->Prop) (Q:VH) (step: ∀ (mz:Nat)(i:Nat)(zz:Nat->Value)(h:Heap),Inv mz i h->au (decide (((i:Int):Int) < ((l:LB).length:Int))) (xI .u8 (aQ SS.P 9 (aa l) (iA i)) fun n1=>au (((n1:Int) == c)) (Q (iA i) h) (ax (fA (ez l c) Inv) mz [(aa l),(.int .u8 c),(.int .i64 (wrap .i64 ((i:Int)+1)))] h)) (Q (.int .i64 (-1)) h)) (mz:Nat) {i:Nat} {h:Heap} (hi:Inv mz i h):LL SS eT [1,0,1,0,0] (ez l c i) h (KK SS eT [1,0,1,0] [] (EE SS eT Q)):=
 bH (ez l c) Inv (fun mz i zz h hi=>aj (step mz i zz h hi)) mz hi
noncomputable def B0:FD:=bF Tryz.f127 []
theorem Az (l:LB)(h:Heap)(Q:VH)(hx:au (decide ((((l:LB).length:Int):Int)<=400)) (FW SS 149 [(aa l)] h fun v1 h2=>yB v1 fun b3=>Q (.bool b3) h2) (Q (.bool false) h)):FW SS 127 [(aa l)] h Q:=bG B0 Tryz.func127 (aj hx)
noncomputable def ref3Parts_F:FD:=bF Tryz.f104 []
abbrev tw (l:LB)(cc:Code)(h:Heap)(Q:VH):Prop:=au (decide ((((l:LB).length:Int):Int) > 0)) (xI .u8 (aQ SS.P 9 (aa l) (.int .i64 0)) fun n1=>au (((n1:Int) == 45)) (xS (aH SS.P 9 (aa l) (some (.int .i64 1)) none none h) fun l2=>FW SS 126 [(aa l2),(.int .u8 47)] h fun v3 h4=>yI .i64 v3 fun n5=>au (decide ((n5:Int)>=0)) (xS (aH SS.P 9 (aa l2) (some (.int .i64 (wrap .i64 (n5+1)))) none none h4) fun l6=>xS (aH SS.P 9 (aa l2) none (some (.int .i64 n5)) none h4) fun l7=>wpS SS ref3Parts_F.nm ref3Parts_F.ms [1,1,1,1,1,1] cc (uN [(aa l),undef,(.bool false),(aa []),(aa []),(.bool false),(aa l7),(aa l6),(.bool (((n1:Int) == 45))),(.int .i64 n5),undef,undef,(aa l),(aa l),(.int .i64 ((l:LB).length:Int)),(.bool (decide ((((l:LB).length:Int):Int) > 0))),(.bool true),(aa l),(.int .u8 n1),(.bool (((n1:Int) == 45))),(.bool (((n1:Int) == 45))),(.bool (((n1:Int) == 45))),(aa l),(aa l2),(aa l2),(.int .i64 n5),(.int .i64 n5),(.bool (decide ((n5:Int)>=0))),(aa l2),(.int .i64 n5),(.int .i64 (wrap .i64 (n5+1))),(aa l6),(aa l2),(.int .i64 n5),(aa l7)] 46) h4 (EE SS ref3Parts_F Q)) (wpS SS ref3Parts_F.nm ref3Parts_F.ms [1,1,1,1,1,1] cc (uN [(aa l),undef,(.bool false),(aa []),(aa []),(.bool false),(aa l2),(aa [49]),(.bool (((n1:Int) == 45))),(.int .i64 n5),undef,undef,(aa l),(aa l),(.int .i64 ((l:LB).length:Int)),(.bool (decide ((((l:LB).length:Int):Int) > 0))),(.bool true),(aa l),(.int .u8 n1),(.bool (((n1:Int) == 45))),(.bool (((n1:Int) == 45))),(.bool (((n1:Int) == 45))),(aa l),(aa l2),(aa l2),(.int .i64 n5),(.int .i64 n5),(.bool (decide ((n5:Int)>=0)))] 53) h4 (EE SS ref3Parts_F Q))) (FW SS 126 [(aa l),(.int .u8 47)] h fun v8 h9=>yI .i64 v8 fun n10=>au (decide ((n10:Int)>=0)) (xS (aH SS.P 9 (aa l) (some (.int .i64 (wrap .i64 (n10+1)))) none none h9) fun l11=>xS (aH SS.P 9 (aa l) none (some (.int .i64 n10)) none h9) fun l12=>wpS SS ref3Parts_F.nm ref3Parts_F.ms [1,1,1,1,1,1] cc (uN [(aa l),undef,(.bool false),(aa []),(aa []),(.bool false),(aa l12),(aa l11),(.bool (((n1:Int) == 45))),(.int .i64 n10),undef,undef,(aa l),(aa l),(.int .i64 ((l:LB).length:Int)),(.bool (decide ((((l:LB).length:Int):Int) > 0))),(.bool true),(aa l),(.int .u8 n1),(.bool (((n1:Int) == 45))),(.bool (((n1:Int) == 45))),(.bool (((n1:Int) == 45))),undef,undef,(aa l),(.int .i64 n10),(.int .i64 n10),(.bool (decide ((n10:Int)>=0))),(aa l),(.int .i64 n10),(.int .i64 (wrap .i64 (n10+1))),(aa l11),(aa l),(.int .i64 n10),(aa l12)] 46) h9 (EE SS ref3Parts_F Q)) (wpS SS ref3Parts_F.nm ref3Parts_F.ms [1,1,1,1,1,1] cc (uN [(aa l),undef,(.bool false),(aa []),(aa []),(.bool false),(aa l),(aa [49]),(.bool (((n1:Int) == 45))),(.int .i64 n10),undef,undef,(aa l),(aa l),(.int .i64 ((l:LB).length:Int)),(.bool (decide ((((l:LB).length:Int):Int) > 0))),(.bool true),(aa l),(.int .u8 n1),(.bool (((n1:Int) == 45))),(.bool (((n1:Int) == 45))),(.bool (((n1:Int) == 45))),undef,undef,(aa l),(.int .i64 n10),(.int .i64 n10),(.bool (decide ((n10:Int)>=0)))] 53) h9 (EE SS ref3Parts_F Q)))) (FW SS 126 [(aa l),(.int .u8 47)] h fun v13 h14=>yI .i64 v13 fun n15=>au (decide ((n15:Int)>=0)) (xS (aH SS.P 9 (aa l) (some (.int .i64 (wrap .i64 (n15+1)))) none none h14) fun l16=>xS (aH SS.P 9 (aa l) none (some (.int .i64 n15)) none h14) fun l17=>wpS SS ref3Parts_F.nm ref3Parts_F.ms [1,1,1,1,1,1] cc (uN [(aa l),undef,(.bool false),(aa []),(aa []),(.bool false),(aa l17),(aa l16),(.bool false),(.int .i64 n15),undef,undef,(aa l),(aa l),(.int .i64 ((l:LB).length:Int)),(.bool (decide ((((l:LB).length:Int):Int) > 0))),(.bool false),undef,undef,undef,(.bool false),(.bool false),undef,undef,(aa l),(.int .i64 n15),(.int .i64 n15),(.bool (decide ((n15:Int)>=0))),(aa l),(.int .i64 n15),(.int .i64 (wrap .i64 (n15+1))),(aa l16),(aa l),(.int .i64 n15),(aa l17)] 46) h14 (EE SS ref3Parts_F Q)) (wpS SS ref3Parts_F.nm ref3Parts_F.ms [1,1,1,1,1,1] cc (uN [(aa l),undef,(.bool false),(aa []),(aa []),(.bool false),(aa l),(aa [49]),(.bool false),(.int .i64 n15),undef,undef,(aa l),(aa l),(.int .i64 ((l:LB).length:Int)),(.bool (decide ((((l:LB).length:Int):Int) > 0))),(.bool false),undef,undef,undef,(.bool false),(.bool false),undef,undef,(aa l),(.int .i64 n15),(.int .i64 n15),(.bool (decide ((n15:Int)>=0)))] 53) h14 (EE SS ref3Parts_F Q)))
theorem y6 (l:LB)(h:Heap)(Q:VH)(hx:tw l (cZ [1,1,1,1,1,1] ref3Parts_F.body) h Q):FW SS 104 [(aa l)] h Q:=by
 have e: ∀ cc,tw l cc h Q=wpS SS ref3Parts_F.nm ref3Parts_F.ms [] (fz [1,1,1,1,1,1] cc ref3Parts_F.body) ([(aa l)]++List.replicate (ref3Parts_F.nm - ([(aa l)]:LV).length) undef) h (EE SS ref3Parts_F Q):=fun cc=>by kernel_rfl
 have e:=e (cZ [1,1,1,1,1,1] ref3Parts_F.body);rw [ek] at e;exact bG ref3Parts_F Tryz.func104 (aj hx e)
abbrev mR (n d:LB)(neg:Bool)(st:Int)(cc:Code)(x0 x1 x2 x3 x4 x5 x10 x11 x12 x13 x14 x15 x16 x17 x18 x19 x20 x21 x22 x23 x24 x25 x26 x27 x28 x29 x30 x31 x32 x33 x34 x35 x36 x37 x38 x39 x40 x41 x42 x43 x44 x45 x46 x47 x48 x49 x50 x51 x52 x53 x54 x55 x56 x57 x58 x59 x60 x61 x62 x63 x64 x65 x66 x67 x68 x69 x70 x71 x72 x73 x74 x75 x76 x77 x78 x79 x80:Value)(h:Heap)(Q:VH):Prop:=FW SS 127 [(aa n)] h fun v1 h2=>yB v1 fun b3=>au (!b3) (Q (.tuple ⟨[(.bool false),(aa []),(aa []),(.bool false)]⟩) h2) (FW SS 127 [(aa d)] h2 fun v4 h5=>yB v4 fun b6=>au (!b6) (Q (.tuple ⟨[(.bool false),(aa []),(aa []),(.bool false)]⟩) h5) (au ((d:LB) == [48]) (Q (.tuple ⟨[(.bool false),(aa []),(aa []),(.bool false)]⟩) h5) (au ((n:LB) == [48]) (au neg (Q (.tuple ⟨[(.bool false),(aa []),(aa []),(.bool false)]⟩) h5) (au (decide ((st:Int)>=0)) (Q (.tuple ⟨[(.bool false),(aa []),(aa []),(.bool false)]⟩) h5) (au ((d:LB) == [49]) (au (decide ((st:Int)>=0)) (Q (.tuple ⟨[(.bool false),(aa []),(aa []),(.bool false)]⟩) h5) (wpS SS ref3Parts_F.nm ref3Parts_F.ms [1,1,1,1,1,1,1] cc [x0,x1,x2,x3,x4,x5,(aa n),(aa d),(.bool neg),(.int .i64 st),x10,x11,x12,x13,x14,x15,x16,x17,x18,x19,x20,x21,x22,x23,x24,x25,x26,x27,x28,x29,x30,x31,x32,x33,x34,(aa n),(.bool b3),(.bool (!b3)),(.bool false),(aa d),(.bool b6),(.bool (!b6)),(.bool (!b6)),(.bool false),(aa d),(.bool ((d:LB) == [48])),(.bool ((d:LB) == [48])),(.bool false),(aa n),(.bool ((n:LB) == [48])),(.bool true),(.bool neg),(.bool false),(.int .i64 st),(.bool (decide ((st:Int)>=0))),(.bool (decide ((st:Int)>=0))),(.bool (decide ((st:Int)>=0))),(.bool (decide ((st:Int)>=0))),(.bool false),(aa d),(.bool ((d:LB) == [49])),(.bool true),(.int .i64 st),(.bool (decide ((st:Int)>=0))),(.bool (decide ((st:Int)>=0))),(.bool (decide ((st:Int)>=0))),x66,x67,x68,x69,x70,x71,x72,x73,x74,x75,x76,x77,x78,x79,x80] h5 (EE SS ref3Parts_F Q))) (wpS SS ref3Parts_F.nm ref3Parts_F.ms [1,1,1,1,1,1,1] cc [x0,x1,x2,x3,x4,x5,(aa n),(aa d),(.bool neg),(.int .i64 st),x10,x11,x12,x13,x14,x15,x16,x17,x18,x19,x20,x21,x22,x23,x24,x25,x26,x27,x28,x29,x30,x31,x32,x33,x34,(aa n),(.bool b3),(.bool (!b3)),(.bool false),(aa d),(.bool b6),(.bool (!b6)),(.bool (!b6)),(.bool false),(aa d),(.bool ((d:LB) == [48])),(.bool ((d:LB) == [48])),(.bool false),(aa n),(.bool ((n:LB) == [48])),(.bool true),(.bool neg),(.bool false),(.int .i64 st),(.bool (decide ((st:Int)>=0))),(.bool (decide ((st:Int)>=0))),(.bool (decide ((st:Int)>=0))),(.bool (decide ((st:Int)>=0))),(.bool false),(aa d),(.bool ((d:LB) == [49])),(.bool false),undef,undef,(.bool false),(.bool false),x66,x67,x68,x69,x70,x71,x72,x73,x74,x75,x76,x77,x78,x79,x80] h5 (EE SS ref3Parts_F Q))))) (au ((d:LB) == [49]) (au (decide ((st:Int)>=0)) (Q (.tuple ⟨[(.bool false),(aa []),(aa []),(.bool false)]⟩) h5) (wpS SS ref3Parts_F.nm ref3Parts_F.ms [1,1,1,1,1,1,1] cc [x0,x1,x2,x3,x4,x5,(aa n),(aa d),(.bool neg),(.int .i64 st),x10,x11,x12,x13,x14,x15,x16,x17,x18,x19,x20,x21,x22,x23,x24,x25,x26,x27,x28,x29,x30,x31,x32,x33,x34,(aa n),(.bool b3),(.bool (!b3)),(.bool false),(aa d),(.bool b6),(.bool (!b6)),(.bool (!b6)),(.bool false),(aa d),(.bool ((d:LB) == [48])),(.bool ((d:LB) == [48])),(.bool false),(aa n),(.bool ((n:LB) == [48])),(.bool false),undef,undef,undef,undef,undef,(.bool false),(.bool false),(.bool false),(aa d),(.bool ((d:LB) == [49])),(.bool true),(.int .i64 st),(.bool (decide ((st:Int)>=0))),(.bool (decide ((st:Int)>=0))),(.bool (decide ((st:Int)>=0))),x66,x67,x68,x69,x70,x71,x72,x73,x74,x75,x76,x77,x78,x79,x80] h5 (EE SS ref3Parts_F Q))) (wpS SS ref3Parts_F.nm ref3Parts_F.ms [1,1,1,1,1,1,1] cc [x0,x1,x2,x3,x4,x5,(aa n),(aa d),(.bool neg),(.int .i64 st),x10,x11,x12,x13,x14,x15,x16,x17,x18,x19,x20,x21,x22,x23,x24,x25,x26,x27,x28,x29,x30,x31,x32,x33,x34,(aa n),(.bool b3),(.bool (!b3)),(.bool false),(aa d),(.bool b6),(.bool (!b6)),(.bool (!b6)),(.bool false),(aa d),(.bool ((d:LB) == [48])),(.bool ((d:LB) == [48])),(.bool false),(aa n),(.bool ((n:LB) == [48])),(.bool false),undef,undef,undef,undef,undef,(.bool false),(.bool false),(.bool false),(aa d),(.bool ((d:LB) == [49])),(.bool false),undef,undef,(.bool false),(.bool false),x66,x67,x68,x69,x70,x71,x72,x73,x74,x75,x76,x77,x78,x79,x80] h5 (EE SS ref3Parts_F Q))))))
theorem ud {n d:LB}{neg:Bool}{st:Int}{x0 x1 x2 x3 x4 x5 x10 x11 x12 x13 x14 x15 x16 x17 x18 x19 x20 x21 x22 x23 x24 x25 x26 x27 x28 x29 x30 x31 x32 x33 x34 x35 x36 x37 x38 x39 x40 x41 x42 x43 x44 x45 x46 x47 x48 x49 x50 x51 x52 x53 x54 x55 x56 x57 x58 x59 x60 x61 x62 x63 x64 x65 x66 x67 x68 x69 x70 x71 x72 x73 x74 x75 x76 x77 x78 x79 x80:Value}{h:Heap}{Q:VH}(hx:mR n d neg st (cZ [1,1,1,1,1,1,1] ref3Parts_F.body) x0 x1 x2 x3 x4 x5 x10 x11 x12 x13 x14 x15 x16 x17 x18 x19 x20 x21 x22 x23 x24 x25 x26 x27 x28 x29 x30 x31 x32 x33 x34 x35 x36 x37 x38 x39 x40 x41 x42 x43 x44 x45 x46 x47 x48 x49 x50 x51 x52 x53 x54 x55 x56 x57 x58 x59 x60 x61 x62 x63 x64 x65 x66 x67 x68 x69 x70 x71 x72 x73 x74 x75 x76 x77 x78 x79 x80 h Q):TT SS ref3Parts_F [1,1,1,1,1,1] [x0,x1,x2,x3,x4,x5,(aa n),(aa d),(.bool neg),(.int .i64 st),x10,x11,x12,x13,x14,x15,x16,x17,x18,x19,x20,x21,x22,x23,x24,x25,x26,x27,x28,x29,x30,x31,x32,x33,x34,x35,x36,x37,x38,x39,x40,x41,x42,x43,x44,x45,x46,x47,x48,x49,x50,x51,x52,x53,x54,x55,x56,x57,x58,x59,x60,x61,x62,x63,x64,x65,x66,x67,x68,x69,x70,x71,x72,x73,x74,x75,x76,x77,x78,x79,x80] h (EE SS ref3Parts_F Q):=by
 have e: ∀ cc,mR n d neg st cc x0 x1 x2 x3 x4 x5 x10 x11 x12 x13 x14 x15 x16 x17 x18 x19 x20 x21 x22 x23 x24 x25 x26 x27 x28 x29 x30 x31 x32 x33 x34 x35 x36 x37 x38 x39 x40 x41 x42 x43 x44 x45 x46 x47 x48 x49 x50 x51 x52 x53 x54 x55 x56 x57 x58 x59 x60 x61 x62 x63 x64 x65 x66 x67 x68 x69 x70 x71 x72 x73 x74 x75 x76 x77 x78 x79 x80 h Q=wpS SS ref3Parts_F.nm ref3Parts_F.ms [1,1,1,1,1,1] (fz [1] cc (cZ [1,1,1,1,1,1] ref3Parts_F.body)) [x0,x1,x2,x3,x4,x5,(aa n),(aa d),(.bool neg),(.int .i64 st),x10,x11,x12,x13,x14,x15,x16,x17,x18,x19,x20,x21,x22,x23,x24,x25,x26,x27,x28,x29,x30,x31,x32,x33,x34,x35,x36,x37,x38,x39,x40,x41,x42,x43,x44,x45,x46,x47,x48,x49,x50,x51,x52,x53,x54,x55,x56,x57,x58,x59,x60,x61,x62,x63,x64,x65,x66,x67,x68,x69,x70,x71,x72,x73,x74,x75,x76,x77,x78,x79,x80] h (EE SS ref3Parts_F Q):=fun cc=>by kernel_rfl
 have e:=e (cZ [1,1,1,1,1,1,1] ref3Parts_F.body);have ec:(cZ [1,1,1,1,1,1,1] ref3Parts_F.body)=cZ [1] (cZ [1,1,1,1,1,1] ref3Parts_F.body):=by kernel_rfl
 have es:fz [1] (cZ [1,1,1,1,1,1,1] ref3Parts_F.body) (cZ [1,1,1,1,1,1] ref3Parts_F.body)=cZ [1,1,1,1,1,1] ref3Parts_F.body:=by rw [ec,ek]
 rw [es] at e;exact aj hx e
theorem tW {n d:LB}{neg:Bool}{st:Int}{x0 x1 x2 x3 x4 x5 x10 x11 x12 x13 x14 x15 x16 x17 x18 x19 x20 x21 x22 x23 x24 x25 x26 x27 x28 x29 x30 x31 x32 x33 x34 x35 x36 x37 x38 x39 x40 x41 x42 x43 x44 x45 x46 x47 x48 x49 x50 x51 x52 x53 x54 x55 x56 x57 x58 x59 x60 x61 x62 x63 x64 x65 x66 x67 x68 x69 x70 x71 x72 x73 x74 x75 x76 x77 x78 x79 x80:Value}{h:Heap}{Q:VH}(hx:FW SS 128 [(aa n),(aa d)] h fun v1 h2=> ∃ l3:LB,∃ n4:Int,v1=(.tuple ⟨[(aa l3),(.int .i64 n4)]⟩)/\au (!((l3:LB) == [49])) (au (!((d:LB) == [49])) (Q (.tuple ⟨[(.bool false),(aa []),(aa []),(.bool false)]⟩) h2) (Q (.tuple ⟨[(.bool neg),(aa n),(aa d),(.bool true)]⟩) h2)) (Q (.tuple ⟨[(.bool neg),(aa n),(aa d),(.bool true)]⟩) h2)):TT SS ref3Parts_F [1,1,1,1,1,1,1] [x0,x1,x2,x3,x4,x5,(aa n),(aa d),(.bool neg),(.int .i64 st),x10,x11,x12,x13,x14,x15,x16,x17,x18,x19,x20,x21,x22,x23,x24,x25,x26,x27,x28,x29,x30,x31,x32,x33,x34,x35,x36,x37,x38,x39,x40,x41,x42,x43,x44,x45,x46,x47,x48,x49,x50,x51,x52,x53,x54,x55,x56,x57,x58,x59,x60,x61,x62,x63,x64,x65,x66,x67,x68,x69,x70,x71,x72,x73,x74,x75,x76,x77,x78,x79,x80] h (EE SS ref3Parts_F Q):=aj hx
noncomputable def Cg:FD:=bF Tryz.f76 []
theorem zx (l:LB)(h:Heap)(Q:VH)(hx:FW SS 104 [(aa l)] h fun v1 h2=> ∃ b3:Bool,∃ l4:LB,∃ l5:LB,∃ b6:Bool,v1=(.tuple ⟨[(.bool b3),(aa l4),(aa l5),(.bool b6)]⟩)/\Q (.bool b6) h2):FW SS 76 [(aa l)] h Q:=bG Cg Tryz.func76 (aj hx)
noncomputable def Bv:FD:=bF Tryz.f106 []
theorem Aw (l m:LB)(h:Heap)(Q:VH)(hx:FW SS 132 [(aa l),(aa m)] h fun v1 h2=> ∃ l3:LB,∃ n4:Int,v1=(.tuple ⟨[(aa l3),(.int .i64 n4)]⟩)/\Q (aa l3) h2):FW SS 106 [(aa l),(aa m)] h Q:=bG Bv Tryz.func106 (aj hx)
noncomputable def Hm:FD:=bF Tryz.f105 []
theorem ED (p:Bool)(l:LB)(q:Bool)(m:LB)(h:Heap)(Q:VH)(hx:au (p == q) (FW SS 129 [(aa l),(aa m)] h fun v1 h2=> ∃ l3:LB,∃ n4:Int,v1=(.tuple ⟨[(aa l3),(.int .i64 n4)]⟩)/\Q (.tuple ⟨[(.bool p),(aa l3)]⟩) h2) (FW SS 130 [(aa l),(aa m)] h fun v5 h6=>yI .i64 v5 fun n7=>au (decide ((n7:Int)>=0)) (FW SS 131 [(aa l),(aa m)] h6 fun v8 h9=> ∃ l10:LB,∃ n11:Int,v8=(.tuple ⟨[(aa l10),(.int .i64 n11)]⟩)/\Q (.tuple ⟨[(.bool p),(aa l10)]⟩) h9) (FW SS 131 [(aa m),(aa l)] h6 fun v12 h13=> ∃ l14:LB,∃ n15:Int,v12=(.tuple ⟨[(aa l14),(.int .i64 n15)]⟩)/\Q (.tuple ⟨[(.bool q),(aa l14)]⟩) h13))):FW SS 105 [(.bool p),(aa l),(.bool q),(aa m)] h Q:=bG Hm Tryz.func105 (aj hx)
noncomputable def FX:FD:=bF Tryz.f77 []
theorem DY (l m:LB)(h:Heap)(Q:VH)(hx:FW SS 104 [(aa l)] h fun v1 h2=> ∃ b3:Bool,∃ l4:LB,∃ l5:LB,∃ b6:Bool,v1=(.tuple ⟨[(.bool b3),(aa l4),(aa l5),(.bool b6)]⟩)/\FW SS 104 [(aa m)] h2 fun v7 h8=> ∃ b9:Bool,∃ l10:LB,∃ l11:LB,∃ b12:Bool,v7=(.tuple ⟨[(.bool b9),(aa l10),(aa l11),(.bool b12)]⟩)/\au (!b6) (Q (.int .i64 0) h8) (au (!b12) (Q (.int .i64 0) h8) (FW SS 106 [(aa l4),(aa l11)] h8 fun v13 h14=>yS v13 fun l15=>FW SS 106 [(aa l10),(aa l5)] h14 fun v16 h17=>yS v16 fun l18=>FW SS 105 [(.bool b3),(aa l15),(.bool (!b9)),(aa l18)] h17 fun v19 h20=> ∃ b21:Bool,∃ l22:LB,v19=(.tuple ⟨[(.bool b21),(aa l22)]⟩)/\au ((l22:LB) == [48]) (Q (.int .i64 0) h20) (au b21 (Q (.int .i64 (-1)) h20) (Q (.int .i64 1) h20))))):FW SS 77 [(aa l),(aa m)] h Q:=bG FX Tryz.func77 (aj hx)
noncomputable def Ga:FD:=bF Tryz.f118 []
theorem D6 (l:LB)(e:Int)(h:Heap)(Q:VH)(hx:au (((e:Int) != 0)) (xA (aI SS.P 135 []) fun c1=>False) (Q (aa l) h)):FW SS 118 [(aa l),(.int .i64 e)] h Q:=bG Ga Tryz.func118 (aj hx)
noncomputable def ratParse_F:FD:=bF Tryz.f121 []
abbrev wo (l:LB)(cc:Code)(h:Heap)(Q:VH):Prop:=xN (aF SS.P 122) h fun B1 g2=>FW SS 145 [(aa l),(aa [45])] g2 fun v3 h4=> ∃ l5:LB,∃ b6:Bool,v3=(.tuple ⟨[(aa l5),(.bool b6)]⟩)/\FW SS 146 [(aa l5),(aa [47])] h4 fun v7 h8=> ∃ l9:LB,∃ l10:LB,∃ b11:Bool,v7=(.tuple ⟨[(aa l9),(aa l10),(.bool b11)]⟩)/\au (!b11) (wpS SS ratParse_F.nm ratParse_F.ms [1,1,1,1] cc (uN [(aa l),undef,(pA (h.next)),(.bool false),(aa l5),(.bool b6),(aa l9),(aa [49]),(.bool b11),undef,undef,(.tuple ⟨[(aa l5),(.bool b6)]⟩),(aa l),(.tuple ⟨[(aa l5),(.bool b6)]⟩),(aa l5),(.bool b6),(.tuple ⟨[(aa l9),(aa l10),(.bool b11)]⟩),(aa l5),(.tuple ⟨[(aa l9),(aa l10),(.bool b11)]⟩),(aa l9),(aa l10),(.bool b11),(.bool b11),(.bool (!b11))] 53) h8 (EE SS ratParse_F Q)) (wpS SS ratParse_F.nm ratParse_F.ms [1,1,1,1] cc (uN [(aa l),undef,(pA (h.next)),(.bool false),(aa l5),(.bool b6),(aa l9),(aa l10),(.bool b11),undef,undef,(.tuple ⟨[(aa l5),(.bool b6)]⟩),(aa l),(.tuple ⟨[(aa l5),(.bool b6)]⟩),(aa l5),(.bool b6),(.tuple ⟨[(aa l9),(aa l10),(.bool b11)]⟩),(aa l5),(.tuple ⟨[(aa l9),(aa l10),(.bool b11)]⟩),(aa l9),(aa l10),(.bool b11),(.bool b11),(.bool (!b11))] 53) h8 (EE SS ratParse_F Q))
theorem AP (l:LB)(h:Heap)(Q:VH)(hx:wo l (cZ [1,1,1,1] ratParse_F.body) h Q):FW SS 121 [(aa l)] h Q:=by
 have e: ∀ cc,wo l cc h Q=wpS SS ratParse_F.nm ratParse_F.ms [] (fz [1,1,1,1] cc ratParse_F.body) ([(aa l)]++List.replicate (ratParse_F.nm - ([(aa l)]:LV).length) undef) h (EE SS ratParse_F Q):=fun cc=>by kernel_rfl
 have e:=e (cZ [1,1,1,1] ratParse_F.body);rw [ek] at e;exact bG ratParse_F Tryz.func121 (aj hx e)
abbrev pf (n d:LB)(neg fnd:Bool)(p:Addr)(cc:Code)(x0 x1 x3 x4 x9 x10 x11 x12 x13 x14 x15 x16 x17 x18 x19 x20 x21 x22 x23 x24 x25 x26 x27 x28 x29 x30 x31 x32 x33 x34 x35 x36 x37 x38 x39 x40 x41 x42 x43 x44 x45 x46 x47 x48 x49 x50 x51 x52 x53 x54 x55 x56 x57 x58 x59 x60 x61 x62 x63 x64 x65 x66 x67 x68 x69 x70 x71 x72 x73 x74 x75 x76:Value)(h:Heap)(Q:VH):Prop:=FW SS 139 [(aa n)] h fun v1 h2=>yB v1 fun b3=>au (!b3) (xA (aI SS.P 122 []) fun c4=>xU (ai SS.P 122 (.pointer (some p)) (.agg ⟨c4⟩) h2) h2 fun u5 g6=>cX SS [((.pointer (some p)),some 122),((.bool false),none)] g6 Q) (FW SS 139 [(aa d)] h2 fun v7 h8=>yB v7 fun b9=>au (!b9) (xA (aI SS.P 122 []) fun c10=>xU (ai SS.P 122 (.pointer (some p)) (.agg ⟨c10⟩) h8) h8 fun u11 g12=>cX SS [((.pointer (some p)),some 122),((.bool false),none)] g12 Q) (au (decide ((((n:LB).length:Int):Int) > 400)) (xA (aI SS.P 122 []) fun c13=>xU (ai SS.P 122 (.pointer (some p)) (.agg ⟨c13⟩) h8) h8 fun u14 g15=>cX SS [((.pointer (some p)),some 122),((.bool false),none)] g15 Q) (au (decide ((((d:LB).length:Int):Int) > 400)) (xA (aI SS.P 122 []) fun c16=>xU (ai SS.P 122 (.pointer (some p)) (.agg ⟨c16⟩) h8) h8 fun u17 g18=>cX SS [((.pointer (some p)),some 122),((.bool false),none)] g18 Q) (wpS SS ratParse_F.nm ratParse_F.ms [1,1,1,1,1] cc [x0,x1,(.pointer (some p)),x3,x4,(.bool neg),(aa n),(aa d),(.bool fnd),x9,x10,x11,x12,x13,x14,x15,x16,x17,x18,x19,x20,x21,x22,x23,(aa n),(.bool b3),(.bool (!b3)),(.bool false),(aa d),(.bool b9),(.bool (!b9)),(.bool (!b9)),(.bool false),(aa n),(.int .i64 ((n:LB).length:Int)),(.bool (decide ((((n:LB).length:Int):Int) > 400))),(.bool (decide ((((n:LB).length:Int):Int) > 400))),(.bool false),(aa d),(.int .i64 ((d:LB).length:Int)),(.bool (decide ((((d:LB).length:Int):Int) > 400))),(.bool (decide ((((d:LB).length:Int):Int) > 400))),x42,x43,x44,x45,x46,x47,x48,x49,x50,x51,x52,x53,x54,x55,x56,x57,x58,x59,x60,x61,x62,x63,x64,x65,x66,x67,x68,x69,x70,x71,x72,x73,x74,x75,x76] h8 (EE SS ratParse_F Q)))))
theorem vB {n d:LB}{neg fnd:Bool}{p:Addr}{x0 x1 x3 x4 x9 x10 x11 x12 x13 x14 x15 x16 x17 x18 x19 x20 x21 x22 x23 x24 x25 x26 x27 x28 x29 x30 x31 x32 x33 x34 x35 x36 x37 x38 x39 x40 x41 x42 x43 x44 x45 x46 x47 x48 x49 x50 x51 x52 x53 x54 x55 x56 x57 x58 x59 x60 x61 x62 x63 x64 x65 x66 x67 x68 x69 x70 x71 x72 x73 x74 x75 x76:Value}{h:Heap}{Q:VH}(hx:pf n d neg fnd p (cZ [1,1,1,1,1] ratParse_F.body) x0 x1 x3 x4 x9 x10 x11 x12 x13 x14 x15 x16 x17 x18 x19 x20 x21 x22 x23 x24 x25 x26 x27 x28 x29 x30 x31 x32 x33 x34 x35 x36 x37 x38 x39 x40 x41 x42 x43 x44 x45 x46 x47 x48 x49 x50 x51 x52 x53 x54 x55 x56 x57 x58 x59 x60 x61 x62 x63 x64 x65 x66 x67 x68 x69 x70 x71 x72 x73 x74 x75 x76 h Q):TT SS ratParse_F [1,1,1,1] [x0,x1,(.pointer (some p)),x3,x4,(.bool neg),(aa n),(aa d),(.bool fnd),x9,x10,x11,x12,x13,x14,x15,x16,x17,x18,x19,x20,x21,x22,x23,x24,x25,x26,x27,x28,x29,x30,x31,x32,x33,x34,x35,x36,x37,x38,x39,x40,x41,x42,x43,x44,x45,x46,x47,x48,x49,x50,x51,x52,x53,x54,x55,x56,x57,x58,x59,x60,x61,x62,x63,x64,x65,x66,x67,x68,x69,x70,x71,x72,x73,x74,x75,x76] h (EE SS ratParse_F Q):=by
 have e: ∀ cc,pf n d neg fnd p cc x0 x1 x3 x4 x9 x10 x11 x12 x13 x14 x15 x16 x17 x18 x19 x20 x21 x22 x23 x24 x25 x26 x27 x28 x29 x30 x31 x32 x33 x34 x35 x36 x37 x38 x39 x40 x41 x42 x43 x44 x45 x46 x47 x48 x49 x50 x51 x52 x53 x54 x55 x56 x57 x58 x59 x60 x61 x62 x63 x64 x65 x66 x67 x68 x69 x70 x71 x72 x73 x74 x75 x76 h Q=wpS SS ratParse_F.nm ratParse_F.ms [1,1,1,1] (fz [1] cc (cZ [1,1,1,1] ratParse_F.body)) [x0,x1,(.pointer (some p)),x3,x4,(.bool neg),(aa n),(aa d),(.bool fnd),x9,x10,x11,x12,x13,x14,x15,x16,x17,x18,x19,x20,x21,x22,x23,x24,x25,x26,x27,x28,x29,x30,x31,x32,x33,x34,x35,x36,x37,x38,x39,x40,x41,x42,x43,x44,x45,x46,x47,x48,x49,x50,x51,x52,x53,x54,x55,x56,x57,x58,x59,x60,x61,x62,x63,x64,x65,x66,x67,x68,x69,x70,x71,x72,x73,x74,x75,x76] h (EE SS ratParse_F Q):=fun cc=>by kernel_rfl
 have e:=e (cZ [1,1,1,1,1] ratParse_F.body);have ec:(cZ [1,1,1,1,1] ratParse_F.body)=cZ [1] (cZ [1,1,1,1] ratParse_F.body):=by kernel_rfl
 have es:fz [1] (cZ [1,1,1,1,1] ratParse_F.body) (cZ [1,1,1,1] ratParse_F.body)=cZ [1,1,1,1] ratParse_F.body:=by rw [ec,ek]
 rw [es] at e;exact aj hx e
abbrev pe (n d:LB)(neg fnd:Bool)(p:Addr)(cc:Code)(x0 x1 x3 x4 x9 x10 x11 x12 x13 x14 x15 x16 x17 x18 x19 x20 x21 x22 x23 x24 x25 x26 x27 x28 x29 x30 x31 x32 x33 x34 x35 x36 x37 x38 x39 x40 x41 x42 x43 x44 x45 x46 x47 x48 x49 x50 x51 x52 x53 x54 x55 x56 x57 x58 x59 x60 x61 x62 x63 x64 x65 x66 x67 x68 x69 x70 x71 x72 x73 x74 x75 x76:Value)(h:Heap)(Q:VH):Prop:=au neg (au ((n:LB) == [48]) (xA (aI SS.P 122 []) fun c1=>xU (ai SS.P 122 (.pointer (some p)) (.agg ⟨c1⟩) h) h fun u2 g3=>cX SS [((.pointer (some p)),some 122),((.bool false),none)] g3 Q) (au fnd (au ((d:LB) == [48]) (xA (aI SS.P 122 []) fun c4=>xU (ai SS.P 122 (.pointer (some p)) (.agg ⟨c4⟩) h) h fun u5 g6=>cX SS [((.pointer (some p)),some 122),((.bool false),none)] g6 Q) (au ((d:LB) == [49]) (xA (aI SS.P 122 []) fun c7=>xU (ai SS.P 122 (.pointer (some p)) (.agg ⟨c7⟩) h) h fun u8 g9=>cX SS [((.pointer (some p)),some 122),((.bool false),none)] g9 Q) (wpS SS ratParse_F.nm ratParse_F.ms [1,1,1,1,1,1] cc [x0,x1,(.pointer (some p)),x3,x4,(.bool neg),(aa n),(aa d),(.bool fnd),x9,x10,x11,x12,x13,x14,x15,x16,x17,x18,x19,x20,x21,x22,x23,x24,x25,x26,x27,x28,x29,x30,x31,x32,x33,x34,x35,x36,x37,x38,x39,x40,x41,x42,(.bool neg),(.bool true),(aa n),(.bool ((n:LB) == [48])),(.bool ((n:LB) == [48])),(.bool false),(.bool fnd),(.bool true),(aa d),(.bool ((d:LB) == [48])),(.bool false),(aa d),(.bool ((d:LB) == [49])),(.bool ((d:LB) == [49])),(.bool ((d:LB) == [49])),(.bool ((d:LB) == [49])),x59,x60,x61,x62,x63,x64,x65,x66,x67,x68,x69,x70,x71,x72,x73,x74,x75,x76] h (EE SS ratParse_F Q)))) (wpS SS ratParse_F.nm ratParse_F.ms [1,1,1,1,1,1] cc [x0,x1,(.pointer (some p)),x3,x4,(.bool neg),(aa n),(aa d),(.bool fnd),x9,x10,x11,x12,x13,x14,x15,x16,x17,x18,x19,x20,x21,x22,x23,x24,x25,x26,x27,x28,x29,x30,x31,x32,x33,x34,x35,x36,x37,x38,x39,x40,x41,x42,(.bool neg),(.bool true),(aa n),(.bool ((n:LB) == [48])),(.bool ((n:LB) == [48])),(.bool false),(.bool fnd),(.bool false),undef,undef,undef,undef,undef,undef,(.bool false),(.bool false),x59,x60,x61,x62,x63,x64,x65,x66,x67,x68,x69,x70,x71,x72,x73,x74,x75,x76] h (EE SS ratParse_F Q)))) (au fnd (au ((d:LB) == [48]) (xA (aI SS.P 122 []) fun c10=>xU (ai SS.P 122 (.pointer (some p)) (.agg ⟨c10⟩) h) h fun u11 g12=>cX SS [((.pointer (some p)),some 122),((.bool false),none)] g12 Q) (au ((d:LB) == [49]) (xA (aI SS.P 122 []) fun c13=>xU (ai SS.P 122 (.pointer (some p)) (.agg ⟨c13⟩) h) h fun u14 g15=>cX SS [((.pointer (some p)),some 122),((.bool false),none)] g15 Q) (wpS SS ratParse_F.nm ratParse_F.ms [1,1,1,1,1,1] cc [x0,x1,(.pointer (some p)),x3,x4,(.bool neg),(aa n),(aa d),(.bool fnd),x9,x10,x11,x12,x13,x14,x15,x16,x17,x18,x19,x20,x21,x22,x23,x24,x25,x26,x27,x28,x29,x30,x31,x32,x33,x34,x35,x36,x37,x38,x39,x40,x41,x42,(.bool neg),(.bool false),undef,undef,(.bool false),(.bool false),(.bool fnd),(.bool true),(aa d),(.bool ((d:LB) == [48])),(.bool false),(aa d),(.bool ((d:LB) == [49])),(.bool ((d:LB) == [49])),(.bool ((d:LB) == [49])),(.bool ((d:LB) == [49])),x59,x60,x61,x62,x63,x64,x65,x66,x67,x68,x69,x70,x71,x72,x73,x74,x75,x76] h (EE SS ratParse_F Q)))) (wpS SS ratParse_F.nm ratParse_F.ms [1,1,1,1,1,1] cc [x0,x1,(.pointer (some p)),x3,x4,(.bool neg),(aa n),(aa d),(.bool fnd),x9,x10,x11,x12,x13,x14,x15,x16,x17,x18,x19,x20,x21,x22,x23,x24,x25,x26,x27,x28,x29,x30,x31,x32,x33,x34,x35,x36,x37,x38,x39,x40,x41,x42,(.bool neg),(.bool false),undef,undef,(.bool false),(.bool false),(.bool fnd),(.bool false),undef,undef,undef,undef,undef,undef,(.bool false),(.bool false),x59,x60,x61,x62,x63,x64,x65,x66,x67,x68,x69,x70,x71,x72,x73,x74,x75,x76] h (EE SS ratParse_F Q)))
theorem uV {n d:LB}{neg fnd:Bool}{p:Addr}{x0 x1 x3 x4 x9 x10 x11 x12 x13 x14 x15 x16 x17 x18 x19 x20 x21 x22 x23 x24 x25 x26 x27 x28 x29 x30 x31 x32 x33 x34 x35 x36 x37 x38 x39 x40 x41 x42 x43 x44 x45 x46 x47 x48 x49 x50 x51 x52 x53 x54 x55 x56 x57 x58 x59 x60 x61 x62 x63 x64 x65 x66 x67 x68 x69 x70 x71 x72 x73 x74 x75 x76:Value}{h:Heap}{Q:VH}(hx:pe n d neg fnd p (cZ [1,1,1,1,1,1] ratParse_F.body) x0 x1 x3 x4 x9 x10 x11 x12 x13 x14 x15 x16 x17 x18 x19 x20 x21 x22 x23 x24 x25 x26 x27 x28 x29 x30 x31 x32 x33 x34 x35 x36 x37 x38 x39 x40 x41 x42 x43 x44 x45 x46 x47 x48 x49 x50 x51 x52 x53 x54 x55 x56 x57 x58 x59 x60 x61 x62 x63 x64 x65 x66 x67 x68 x69 x70 x71 x72 x73 x74 x75 x76 h Q):TT SS ratParse_F [1,1,1,1,1] [x0,x1,(.pointer (some p)),x3,x4,(.bool neg),(aa n),(aa d),(.bool fnd),x9,x10,x11,x12,x13,x14,x15,x16,x17,x18,x19,x20,x21,x22,x23,x24,x25,x26,x27,x28,x29,x30,x31,x32,x33,x34,x35,x36,x37,x38,x39,x40,x41,x42,x43,x44,x45,x46,x47,x48,x49,x50,x51,x52,x53,x54,x55,x56,x57,x58,x59,x60,x61,x62,x63,x64,x65,x66,x67,x68,x69,x70,x71,x72,x73,x74,x75,x76] h (EE SS ratParse_F Q):=by
 have e: ∀ cc,pe n d neg fnd p cc x0 x1 x3 x4 x9 x10 x11 x12 x13 x14 x15 x16 x17 x18 x19 x20 x21 x22 x23 x24 x25 x26 x27 x28 x29 x30 x31 x32 x33 x34 x35 x36 x37 x38 x39 x40 x41 x42 x43 x44 x45 x46 x47 x48 x49 x50 x51 x52 x53 x54 x55 x56 x57 x58 x59 x60 x61 x62 x63 x64 x65 x66 x67 x68 x69 x70 x71 x72 x73 x74 x75 x76 h Q=wpS SS ratParse_F.nm ratParse_F.ms [1,1,1,1,1] (fz [1] cc (cZ [1,1,1,1,1] ratParse_F.body)) [x0,x1,(.pointer (some p)),x3,x4,(.bool neg),(aa n),(aa d),(.bool fnd),x9,x10,x11,x12,x13,x14,x15,x16,x17,x18,x19,x20,x21,x22,x23,x24,x25,x26,x27,x28,x29,x30,x31,x32,x33,x34,x35,x36,x37,x38,x39,x40,x41,x42,x43,x44,x45,x46,x47,x48,x49,x50,x51,x52,x53,x54,x55,x56,x57,x58,x59,x60,x61,x62,x63,x64,x65,x66,x67,x68,x69,x70,x71,x72,x73,x74,x75,x76] h (EE SS ratParse_F Q):=fun cc=>by kernel_rfl
 have e:=e (cZ [1,1,1,1,1,1] ratParse_F.body);have ec:(cZ [1,1,1,1,1,1] ratParse_F.body)=cZ [1] (cZ [1,1,1,1,1] ratParse_F.body):=by kernel_rfl
 have es:fz [1] (cZ [1,1,1,1,1,1] ratParse_F.body) (cZ [1,1,1,1,1] ratParse_F.body)=cZ [1,1,1,1,1] ratParse_F.body:=by rw [ec,ek]
 rw [es] at e;exact aj hx e
abbrev pu (n d:LB)(neg fnd:Bool)(p:Addr)(cc:Code)(x0 x1 x3 x4 x9 x10 x11 x12 x13 x14 x15 x16 x17 x18 x19 x20 x21 x22 x23 x24 x25 x26 x27 x28 x29 x30 x31 x32 x33 x34 x35 x36 x37 x38 x39 x40 x41 x42 x43 x44 x45 x46 x47 x48 x49 x50 x51 x52 x53 x54 x55 x56 x57 x58 x59 x60 x61 x62 x63 x64 x65 x66 x67 x68 x69 x70 x71 x72 x73 x74 x75 x76:Value)(h:Heap)(Q:VH):Prop:=FW SS 143 [(aa n),(aa d)] h fun v1 h2=> ∃ l3:LB,∃ n4:Int,v1=(.tuple ⟨[(aa l3),(.int .i64 n4)]⟩)/\au (((n4:Int) != 0)) (xA (aI SS.P 122 []) fun c5=>xU (ai SS.P 122 (.pointer (some p)) (.agg ⟨c5⟩) h2) h2 fun u6 g7=>cX SS [((.pointer (some p)),some 122),((.bool false),none)] g7 Q) (au (!((l3:LB) == [49])) (xA (aI SS.P 122 []) fun c8=>xU (ai SS.P 122 (.pointer (some p)) (.agg ⟨c8⟩) h2) h2 fun u9 g10=>cX SS [((.pointer (some p)),some 122),((.bool false),none)] g10 Q) (wpS SS ratParse_F.nm ratParse_F.ms [1,1,1,1,1,1,1] cc [x0,x1,(.pointer (some p)),x3,x4,(.bool neg),(aa n),(aa d),(.bool fnd),(aa l3),(.int .i64 n4),x11,x12,x13,x14,x15,x16,x17,x18,x19,x20,x21,x22,x23,x24,x25,x26,x27,x28,x29,x30,x31,x32,x33,x34,x35,x36,x37,x38,x39,x40,x41,x42,x43,x44,x45,x46,x47,x48,x49,x50,x51,x52,x53,x54,x55,x56,x57,x58,x59,(.tuple ⟨[(aa l3),(.int .i64 n4)]⟩),(aa n),(aa d),(.tuple ⟨[(aa l3),(.int .i64 n4)]⟩),(aa l3),(.int .i64 n4),(.int .i64 n4),(.bool (((n4:Int) != 0))),(.bool false),(aa l3),(.bool (!((l3:LB) == [49]))),(.bool (!((l3:LB) == [49]))),x72,x73,x74,x75,x76] h2 (EE SS ratParse_F Q)))
theorem vj {n d:LB}{neg fnd:Bool}{p:Addr}{x0 x1 x3 x4 x9 x10 x11 x12 x13 x14 x15 x16 x17 x18 x19 x20 x21 x22 x23 x24 x25 x26 x27 x28 x29 x30 x31 x32 x33 x34 x35 x36 x37 x38 x39 x40 x41 x42 x43 x44 x45 x46 x47 x48 x49 x50 x51 x52 x53 x54 x55 x56 x57 x58 x59 x60 x61 x62 x63 x64 x65 x66 x67 x68 x69 x70 x71 x72 x73 x74 x75 x76:Value}{h:Heap}{Q:VH}(hx:pu n d neg fnd p (cZ [1,1,1,1,1,1,1] ratParse_F.body) x0 x1 x3 x4 x9 x10 x11 x12 x13 x14 x15 x16 x17 x18 x19 x20 x21 x22 x23 x24 x25 x26 x27 x28 x29 x30 x31 x32 x33 x34 x35 x36 x37 x38 x39 x40 x41 x42 x43 x44 x45 x46 x47 x48 x49 x50 x51 x52 x53 x54 x55 x56 x57 x58 x59 x60 x61 x62 x63 x64 x65 x66 x67 x68 x69 x70 x71 x72 x73 x74 x75 x76 h Q):TT SS ratParse_F [1,1,1,1,1,1] [x0,x1,(.pointer (some p)),x3,x4,(.bool neg),(aa n),(aa d),(.bool fnd),x9,x10,x11,x12,x13,x14,x15,x16,x17,x18,x19,x20,x21,x22,x23,x24,x25,x26,x27,x28,x29,x30,x31,x32,x33,x34,x35,x36,x37,x38,x39,x40,x41,x42,x43,x44,x45,x46,x47,x48,x49,x50,x51,x52,x53,x54,x55,x56,x57,x58,x59,x60,x61,x62,x63,x64,x65,x66,x67,x68,x69,x70,x71,x72,x73,x74,x75,x76] h (EE SS ratParse_F Q):=by
 have e: ∀ cc,pu n d neg fnd p cc x0 x1 x3 x4 x9 x10 x11 x12 x13 x14 x15 x16 x17 x18 x19 x20 x21 x22 x23 x24 x25 x26 x27 x28 x29 x30 x31 x32 x33 x34 x35 x36 x37 x38 x39 x40 x41 x42 x43 x44 x45 x46 x47 x48 x49 x50 x51 x52 x53 x54 x55 x56 x57 x58 x59 x60 x61 x62 x63 x64 x65 x66 x67 x68 x69 x70 x71 x72 x73 x74 x75 x76 h Q=wpS SS ratParse_F.nm ratParse_F.ms [1,1,1,1,1,1] (fz [1] cc (cZ [1,1,1,1,1,1] ratParse_F.body)) [x0,x1,(.pointer (some p)),x3,x4,(.bool neg),(aa n),(aa d),(.bool fnd),x9,x10,x11,x12,x13,x14,x15,x16,x17,x18,x19,x20,x21,x22,x23,x24,x25,x26,x27,x28,x29,x30,x31,x32,x33,x34,x35,x36,x37,x38,x39,x40,x41,x42,x43,x44,x45,x46,x47,x48,x49,x50,x51,x52,x53,x54,x55,x56,x57,x58,x59,x60,x61,x62,x63,x64,x65,x66,x67,x68,x69,x70,x71,x72,x73,x74,x75,x76] h (EE SS ratParse_F Q):=fun cc=>by kernel_rfl
 have e:=e (cZ [1,1,1,1,1,1,1] ratParse_F.body);have ec:(cZ [1,1,1,1,1,1,1] ratParse_F.body)=cZ [1] (cZ [1,1,1,1,1,1] ratParse_F.body):=by kernel_rfl
 have es:fz [1] (cZ [1,1,1,1,1,1,1] ratParse_F.body) (cZ [1,1,1,1,1,1] ratParse_F.body)=cZ [1,1,1,1,1,1] ratParse_F.body:=by rw [ec,ek]
 rw [es] at e;exact aj hx e
theorem wH {n d:LB}{neg fnd:Bool}{p:Addr}{x0 x1 x3 x4 x9 x10 x11 x12 x13 x14 x15 x16 x17 x18 x19 x20 x21 x22 x23 x24 x25 x26 x27 x28 x29 x30 x31 x32 x33 x34 x35 x36 x37 x38 x39 x40 x41 x42 x43 x44 x45 x46 x47 x48 x49 x50 x51 x52 x53 x54 x55 x56 x57 x58 x59 x60 x61 x62 x63 x64 x65 x66 x67 x68 x69 x70 x71 x72 x73 x74 x75 x76:Value}{h:Heap}{Q:VH}(hx:xA (aI SS.P 122 [(0,(.bool neg)),(1,(aa n)),(2,(aa d))]) fun c1=>xU (ai SS.P 122 (.pointer (some p)) (.agg ⟨c1⟩) h) h fun u2 g3=>cX SS [((.pointer (some p)),some 122),((.bool true),none)] g3 Q):TT SS ratParse_F [1,1,1,1,1,1,1] [x0,x1,(.pointer (some p)),x3,x4,(.bool neg),(aa n),(aa d),(.bool fnd),x9,x10,x11,x12,x13,x14,x15,x16,x17,x18,x19,x20,x21,x22,x23,x24,x25,x26,x27,x28,x29,x30,x31,x32,x33,x34,x35,x36,x37,x38,x39,x40,x41,x42,x43,x44,x45,x46,x47,x48,x49,x50,x51,x52,x53,x54,x55,x56,x57,x58,x59,x60,x61,x62,x63,x64,x65,x66,x67,x68,x69,x70,x71,x72,x73,x74,x75,x76] h (EE SS ratParse_F Q):=aj hx
noncomputable def Di:FD:=bF Tryz.f97 []
theorem BH (l:LB)(h:Heap)(Q:VH)(hx:FW SS 121 [(aa l)] h fun v1 h2=> ∃ cs3:LV,∃ b4:Bool,v1=(.tuple ⟨[(.agg ⟨cs3⟩),(.bool b4)]⟩)/\Q (.bool b4) h2):FW SS 97 [(aa l)] h Q:=bG Di Tryz.func97 (aj hx)
noncomputable def FV:FD:=bF Tryz.f117 []
theorem DQ (p:Bool)(l:LB)(q:Bool)(m:LB)(h:Heap)(Q:VH)(hx:au (p == q) (FW SS 136 [(aa l),(aa m)] h fun v1 h2=> ∃ l3:LB,∃ n4:Int,v1=(.tuple ⟨[(aa l3),(.int .i64 n4)]⟩)/\FW SS 118 [(aa l3),(.int .i64 n4)] h2 fun v5 h6=>yS v5 fun l7=>Q (.tuple ⟨[(.bool p),(aa l7)]⟩) h6) (FW SS 137 [(aa l),(aa m)] h fun v8 h9=>yI .i64 v8 fun n10=>au (decide ((n10:Int) < 0)) (FW SS 138 [(aa m),(aa l)] h9 fun v11 h12=> ∃ l13:LB,∃ n14:Int,v11=(.tuple ⟨[(aa l13),(.int .i64 n14)]⟩)/\FW SS 118 [(aa l13),(.int .i64 n14)] h12 fun v15 h16=>yS v15 fun l17=>Q (.tuple ⟨[(.bool q),(aa l17)]⟩) h16) (FW SS 138 [(aa l),(aa m)] h9 fun v18 h19=> ∃ l20:LB,∃ n21:Int,v18=(.tuple ⟨[(aa l20),(.int .i64 n21)]⟩)/\FW SS 118 [(aa l20),(.int .i64 n21)] h19 fun v22 h23=>yS v22 fun l24=>Q (.tuple ⟨[(.bool p),(aa l24)]⟩) h23))):FW SS 117 [(.bool p),(aa l),(.bool q),(aa m)] h Q:=bG FV Tryz.func117 (aj hx)
noncomputable def I8:FD:=bF Tryz.f125 []
theorem GO (l m:LB)(h:Heap)(Q:VH)(hx:FW SS 121 [(aa l)] h fun v1 h2=> ∃ cs3:LV,∃ b4:Bool,v1=(.tuple ⟨[(.agg ⟨cs3⟩),(.bool b4)]⟩)/\xN (aF SS.P 122) h2 fun B5 g6=>xU (ai SS.P 122 (pA (h2.next)) (.agg ⟨cs3⟩) g6) g6 fun u7 g8=>FW SS 121 [(aa m)] g8 fun v9 h10=> ∃ cs11:LV,∃ b12:Bool,v9=(.tuple ⟨[(.agg ⟨cs11⟩),(.bool b12)]⟩)/\xN (aF SS.P 122) h10 fun B13 g14=>xU (ai SS.P 122 (pA (h10.next)) (.agg ⟨cs11⟩) g14) g14 fun u15 g16=>au (!b4) (Q (.int .i64 0) g16) (au (!b12) (Q (.int .i64 0) g16) (xP (af SS.P 122 (pA (h2.next)) 0) fun p17=>xB (ah SS.P 4 (room g16 27) (.pointer (some p17))) fun b18=>xP (af SS.P 122 (pA (h2.next)) 1) fun p19=>xS (ah SS.P 9 (room g16 27) (.pointer (some p19))) fun l20=>xP (af SS.P 122 (pA (h10.next)) 2) fun p21=>xS (ah SS.P 9 (room g16 27) (.pointer (some p21))) fun l22=>FW SS 119 [(aa l20),(aa l22)] (room g16 27) fun v23 h24=> ∃ l25:LB,∃ n26:Int,v23=(.tuple ⟨[(aa l25),(.int .i64 n26)]⟩)/\FW SS 118 [(aa l25),(.int .i64 n26)] h24 fun v27 h28=>yS v27 fun l29=>xP (af SS.P 122 (pA (h10.next)) 0) fun p30=>xB (ah SS.P 4 h28 (.pointer (some p30))) fun b31=>xP (af SS.P 122 (pA (h10.next)) 1) fun p32=>xS (ah SS.P 9 h28 (.pointer (some p32))) fun l33=>xP (af SS.P 122 (pA (h2.next)) 2) fun p34=>xS (ah SS.P 9 h28 (.pointer (some p34))) fun l35=>FW SS 119 [(aa l33),(aa l35)] h28 fun v36 h37=> ∃ l38:LB,∃ n39:Int,v36=(.tuple ⟨[(aa l38),(.int .i64 n39)]⟩)/\FW SS 118 [(aa l38),(.int .i64 n39)] h37 fun v40 h41=>yS v40 fun l42=>FW SS 117 [(.bool b18),(aa l29),(.bool (!b31)),(aa l42)] h41 fun v43 h44=> ∃ b45:Bool,∃ l46:LB,v43=(.tuple ⟨[(.bool b45),(aa l46)]⟩)/\(ah SS.P 4 h24 (.pointer (some p17))=some (.bool b18)/\dY 4 (.bool b18) (.bool b18)=true)/\(ah SS.P 4 h28 (.pointer (some p17))=some (.bool b18)/\dY 4 (.bool b18) (.bool b18)=true)/\(ah SS.P 4 h37 (.pointer (some p17))=some (.bool b18)/\dY 4 (.bool b18) (.bool b18)=true)/\(ah SS.P 4 h41 (.pointer (some p17))=some (.bool b18)/\dY 4 (.bool b18) (.bool b18)=true)/\(ah SS.P 4 (room g16 27) (.pointer (some p30))=some (.bool b31)/\dY 4 (.bool b31) (.bool b31)=true)/\(ah SS.P 4 h24 (.pointer (some p30))=some (.bool b31)/\dY 4 (.bool b31) (.bool b31)=true)/\(ah SS.P 4 h37 (.pointer (some p30))=some (.bool b31)/\dY 4 (.bool b31) (.bool b31)=true)/\(ah SS.P 4 h41 (.pointer (some p30))=some (.bool b31)/\dY 4 (.bool b31) (.bool b31)=true)/\(ah SS.P 9 (room g16 27) (.pointer (some p32))=some (aa l33)/\dY 4 (aa l33) (aa l33)=true)/\(ah SS.P 9 h24 (.pointer (some p32))=some (aa l33)/\dY 4 (aa l33) (aa l33)=true)/\(ah SS.P 9 (room g16 27) (.pointer (some p34))=some (aa l35)/\dY 4 (aa l35) (aa l35)=true)/\(ah SS.P 9 h24 (.pointer (some p34))=some (aa l35)/\dY 4 (aa l35) (aa l35)=true)/\au ((l46:LB) == [48]) (Q (.int .i64 0) h44) (au b45 (Q (.int .i64 (-1)) h44) (Q (.int .i64 1) h44))))):FW SS 125 [(aa l),(aa m)] h Q:=bG I8 Tryz.func125 (aj hx)
noncomputable def IZ:FD:=bF Tryz.f177 []
theorem G4 (l m:LB)(h:Heap)(Q:VH)(hx:au (decide ((((l:LB).length:Int):Int)>=((m:LB).length:Int))) (xS (aH SS.P 9 (aa l) none (some (.int .i64 ((m:LB).length:Int))) none h) fun l1=>Q (.bool ((l1:LB) == m)) h) (Q (.bool false) h)):FW SS 177 [(aa l),(aa m)] h Q:=bG IZ Tryz.func177 (aj hx)
noncomputable def dp:FD:=bF Tryz.f139 [([1,1,0,1,0,0],[0,22,23])]
abbrev gZ (l:LB)(i:Int):LV:=[(aa l),(.int .i64 (l.length:Int)),(.int .i64 i)]
theorem tr (l:LB)(h:Heap)(Q:VH)(hx:au ((l:LB) == []) (Q (.bool false) h) (au (decide ((((l:LB).length:Int):Int) > 1000)) (Q (.bool false) h) (au (decide ((((l:LB).length:Int):Int) > 1)) (xI .u8 (aQ SS.P 9 (aa l) (.int .i64 0)) fun n1=>au (((n1:Int) == 48)) (Q (.bool false) h) (LL SS dp [1,1,0,1,0,0] [(aa l),(.int .i64 ((l:LB).length:Int)),(.int .i64 0)] h (KK SS dp [1,1,0,1,0] [] (EE SS dp Q)))) (LL SS dp [1,1,0,1,0,0] [(aa l),(.int .i64 ((l:LB).length:Int)),(.int .i64 0)] h (KK SS dp [1,1,0,1,0] [] (EE SS dp Q)))))):FW SS 139 [(aa l)] h Q:=bG dp Tryz.func139 (aj hx)
theorem ol (l:LB)  (Inv:Nat->Int->Heap->Prop) (Q:VH) (step: ∀ (mz:Nat)(i:Int)(zz:Nat->Value)(h:Heap),Inv mz i h->au (decide ((i:Int) < (l.length:Int))) (xI .u8 (aQ SS.P 9 (aa l) (.int .i64 i)) fun n2=>au (decide ((n2:Int) < 48)) (Q (.bool false) h) (xI .u8 (aQ SS.P 9 (aa l) (.int .i64 i)) fun n3=>au (decide ((n3:Int) > 57)) (Q (.bool false) h) (ax (fA (gZ l) Inv) mz [(aa l),(.int .i64 (l.length:Int)),(.int .i64 (wrap .i64 (i+1)))] h))) (Q (.bool true) h)) (mz:Nat) {i:Int} {h:Heap} (hi:Inv mz i h):LL SS dp [1,1,0,1,0,0] (gZ l i) h (KK SS dp [1,1,0,1,0] [] (EE SS dp Q)):=
 bH (gZ l) Inv (fun mz i zz h hi=>aj (step mz i zz h hi)) mz hi
noncomputable def dt:FD:=bF Tryz.f149 [([1,1,0,1,0,0],[0,3])]
abbrev dz (l:LB)(i:Int):LV:=[(aa l),(.int .i64 i)]
theorem sZ (l:LB)(h:Heap)(Q:VH)(hx:au (decide ((((l:LB).length:Int):Int) < 1)) (Q (.bool false) h) (au (decide ((((l:LB).length:Int):Int) > 1000)) (Q (.bool false) h) (xI .u8 (aQ SS.P 9 (aa l) (.int .i64 0)) fun n1=>au (((n1:Int) == 48)) (au (decide ((((l:LB).length:Int):Int) > 1)) (Q (.bool false) h) (LL SS dt [1,1,0,1,0,0] (dz l 0) h (KK SS dt [1,1,0,1,0] [] (EE SS dt Q)))) (LL SS dt [1,1,0,1,0,0] (dz l 0) h (KK SS dt [1,1,0,1,0] [] (EE SS dt Q)))))):FW SS 149 [(aa l)] h Q:=bG dt Tryz.func149 (aj hx)
theorem oq (l:LB)  (Inv:Nat->Int->Heap->Prop) (Q:VH) (step: ∀ (mz:Nat)(i:Int)(zz:Nat->Value)(h:Heap),Inv mz i h->au (decide ((i:Int) < ((l:LB).length:Int))) (xI .u8 (aQ SS.P 9 (aa l) (.int .i64 i)) fun n2=>au (decide ((n2:Int) < 48)) (Q (.bool false) h) (xI .u8 (aQ SS.P 9 (aa l) (.int .i64 i)) fun n3=>au (decide ((n3:Int) > 57)) (Q (.bool false) h) (ax (fA (dz l) Inv) mz [(aa l),(.int .i64 (wrap .i64 (i+1)))] h))) (Q (.bool true) h)) (mz:Nat) {i:Int} {h:Heap} (hi:Inv mz i h):LL SS dt [1,1,0,1,0,0] (dz l i) h (KK SS dt [1,1,0,1,0] [] (EE SS dt Q)):=
 bH (dz l) Inv (fun mz i zz h hi=>aj (step mz i zz h hi)) mz hi
noncomputable def d8:FD:=bF Tryz.f155 [([1,1,0,1,0,0],[0,1,5])]
abbrev d7 (a b:LB)(i:Int):LV:=[(aa a),(aa b),(.int .i64 i)]
theorem wO (a b:LB)(h:Heap)(Q:VH)(hx:au (((((a:LB).length:Int):Int) != ((b:LB).length:Int))) (au (decide ((((a:LB).length:Int):Int) < ((b:LB).length:Int))) (Q (.int .i64 (-1)) h) (Q (.int .i64 1) h)) (LL SS d8 [1,1,0,1,0,0] (d7 a b 0) h (KK SS d8 [1,1,0,1,0] [] (EE SS d8 Q)))):FW SS 155 [(aa a),(aa b)] h Q:=bG d8 Tryz.func155 (aj hx)
theorem mA (a b:LB)  (Inv:Nat->Int->Heap->Prop) (Q:VH) (step: ∀ (mz:Nat)(i:Int)(zz:Nat->Value)(h:Heap),Inv mz i h->au (decide ((i:Int) < ((a:LB).length:Int))) (xI .u8 (aQ SS.P 9 (aa a) (.int .i64 i)) fun n1=>xI .u8 (aQ SS.P 9 (aa b) (.int .i64 i)) fun n2=>au (((n1:Int) != n2)) (xI .u8 (aQ SS.P 9 (aa a) (.int .i64 i)) fun n3=>xI .u8 (aQ SS.P 9 (aa b) (.int .i64 i)) fun n4=>au (decide ((n3:Int) < n4)) (Q (.int .i64 (-1)) (room (room h 7) 7)) (Q (.int .i64 1) (room (room h 7) 7))) (ax (fA (d7 a b) Inv) mz [(aa a),(aa b),(.int .i64 (wrap .i64 (i+1)))] (room h 7))) (Q (.int .i64 0) h)) (mz:Nat) {i:Int} {h:Heap} (hi:Inv mz i h):LL SS d8 [1,1,0,1,0,0] (d7 a b i) h (KK SS d8 [1,1,0,1,0] [] (EE SS d8 Q)):=
 bH (d7 a b) Inv (fun mz i zz h hi=>aj (step mz i zz h hi)) mz hi
noncomputable def LT:FD:=bF Tryz.f152 []
theorem K9 (a:OA)(n c:Nat)(i:Int)(h:Heap)(Q:VH)(hx:au (decide ((i:Int) < (n:Int))) (xP (ag SS.P 48 (.slice a n c) (.int .i64 i)) fun p1=>xI .i64 (ah SS.P 3 h (.pointer (some p1))) fun n2=>Q (.int .i64 n2) h) (Q (.int .i64 0) h)):FW SS 152 [(.slice a n c),(.int .i64 i)] h Q:=bG LT Tryz.func152 (aj hx)
noncomputable def eQ:FD:=bF Tryz.f151 [([1,1,0,1,0,0],[0,3,4])]
abbrev gk (l:LB)(i:Int)(a:OA)(n c:Nat):LV:=[(aa l),(.slice a n c),(.int .i64 i)]
theorem zU (l:LB)(h:Heap)(Q:VH)(hx:LL SS eQ [1,1,0,1,0,0] [(aa l),nA,(.int .i64 (wrap .i64 (((l:LB).length:Int) - 1)))] h (KK SS eQ [1,1,0,1,0] [] (EE SS eQ Q))):FW SS 151 [(aa l)] h Q:=bG eQ Tryz.func151 (aj hx)
theorem mH (l:LB)  (Inv:Nat->Int->OA->Nat->Nat->Heap->Prop) (Q:VH) (step: ∀ (mz:Nat)(i:Int)(a:OA)(n c:Nat)(zz:Nat->Value)(h:Heap),Inv mz i a n c h->au (decide ((i:Int)>=0)) (xI .u8 (aQ SS.P 9 (aa l) (.int .i64 i)) fun n1=>xR (ak SS.P 48 1 [(0,(.int .i64 (wrap .i64 (wrap .u8 (n1 - 48)))))]) h fun B2 n3 c4 g5=>xE (ay SS.P 48 48 (.slice a n c) (sA (h.next) n3 c4) g5) g5 fun a6 n7 c8 u9 g10=>ax (kY (gk l) Inv) mz [(aa l),(.slice a6 n7 c8),(.int .i64 (wrap .i64 (i - 1)))] g10) (Q (.slice a n c) h)) (mz:Nat) {i:Int} {a:OA} {n c:Nat} {h:Heap} (hi:Inv mz i a n c h):LL SS eQ [1,1,0,1,0,0] (gk l i a n c) h (KK SS eQ [1,1,0,1,0] [] (EE SS eQ Q)):=
 jW (gk l) Inv (fun mz i a n c zz h hi=>aj (step mz i a n c zz h hi)) mz hi
end Go.Proofs.YtoabjjimjldcfaaGreatDoor
end
