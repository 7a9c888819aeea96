/- Laws and walks that the proof leans on (part 2): AbDraw; AbDraw2; AbDraw3; AbAny; AbDraw4; AbFastOk and others. No condition. -/
import Derived.Test.YtoabjjimjldcfaaGreatDoorPart1
import Derived.Laws.Externs
import Derived.Below
import Derived.Recover
import Derived.ControlIn
import Derived.Attr
import Derived.Test.YtoabjjimjldcfaaGreatDoorProg
import Derived.Laws.Bits64
open List (all_cons all_eq_true all_nil append_assoc append_nil drop_drop drop_eq_nil_of_le foldl_cons getElem?_cons_zero getElem?_drop getElem?_eq_none getElem?_replicate length_append length_cons length_nil length_take mem_append mem_append_left mem_cons mem_cons_of_mem mem_cons_self mem_filter mem_range mem_singleton nodup_append range'_succ)
open Nat (add_mul add_zero blt_eq div_lt_self eq_zero_or_pos le_add_right le_refl le_succ le_trans lt_of_lt_of_le lt_or_ge mod_add_div mod_eq_of_lt mod_lt mul_add mul_assoc mul_comm mul_le_mul_right pow_succ succ_le_of_lt zero_add)
open Option (map_eq_some_iff)
open Array (getElem?_eq_getElem getElem?_toList length_toList)
open Bool (and_eq_true false_eq_true not_eq_true' or_eq_true)
open Go.IntKind (wrap)
section
namespace Go.Ab
open Go
section
variable {P:Program} {gl:Nat->Bool}
theorem mu {e:Value->Value->Bool}(he: ∀ a b,e a b=true->a=b): ∀ {x y:List Value},Cy e x y=true->x=y
 | [],[],_=>rfl
 | [],_::_,h=>by simp [Cy] at h
 | _::_,[],h=>by simp [Cy] at h
 | a::x,b::y,h=>by
  simp only [Cy,and_eq_true] at h;rw [he a b h.1,mu he h.2]
theorem im: ∀ (d:Nat)(a b:Value),eK d a b=true->a=b
 | 0,_,_,h=>by simp [eK] at h
 | d+1,a,b,h=>by
  have ih:=im d;have hl: ∀ {x y:Array Value},Cy (eK d) x.toList y.toList=true->x=y:=fun hxy=>Array.ext' (mu ih hxy);unfold eK at h;split at h
  ·simpa using h
  ·simp only [and_eq_true,decide_eq_true_eq] at h; rw [h.1,h.2]
  ·next x y=>
   simp only [decide_eq_true_eq] at h;have:x=y:=by
    obtain ⟨x⟩:=x; obtain ⟨y⟩:=y;congr 1;exact Array.ext' h
   rw [this]
  ·rfl
  ·simp only [and_eq_true,decide_eq_true_eq] at h; rw [h.1,h.2]
  ·simp only [and_eq_true,decide_eq_true_eq] at h; rw [h.1,h.2]
  ·simp only [and_eq_true,decide_eq_true_eq] at h; rw [h.1.1.1,h.1.1.2,h.1.2,h.2]
  ·rfl
  ·simp only [decide_eq_true_eq] at h; rw [h]
  ·rfl
  ·rfl
  ·simp only [and_eq_true,decide_eq_true_eq] at h; rw [h.1.1,hl h.1.2,hl h.2]
  ·simp only [and_eq_true,decide_eq_true_eq] at h; rw [h.1,ih _ _ h.2]
  ·rw [hl h]
  ·rw [hl h]
  ·cases h
structure Ordd (ops:Array Oper)(bf:Nat->Nat->Bool):Prop where
 lt: ∀ j i,bf j i=true->i < j
 trans: ∀ k j i,bf k j=true->bf j i=true->bf k i=true
 topo: ∀ L,Topo ops L-> ∀ pre j suf,L=pre++j::suf-> ∀ i,bf j i=true->i∈pre
 names: ∀ (j:Nat)(o:Oper)(t:Tmp),ops[j]?=some o->Operand.tmp t∈o.op.operands-> ∀ (i:Nat)(o':Oper),ops[i]?=some o'->o'.dst=some t->i=j\/bf j i=true\/bf i j=true
 guards: ∀ (j:Nat)(o:Oper)(i:Nat)(b:Bool),ops[j]?=some o->o.guard=some (i,b)->bf j i=true
 uniq: ∀ (i j:Nat)(o o':Oper)(t:Tmp),ops[i]?=some o->ops[j]?=some o'->o.dst=some t->o'.dst=some t->i=j
abbrev BP:=List Value×Heap×List (Nat×Blk)
def One (P:Program)(gl:Nat->Bool)(cf:bL)(ops:Array Oper)(bf:Nat->Nat->Bool)(base j:Nat)(o:Oper)(s:BP)(e:Ent)(s':BP):Prop:=
 match e with
 | .skip=>dN ops s.1 o=some false/\s'=(ei s.1 o.dst undef,s.2.1,s.2.2)
 | .pure v=>dN ops s.1 o=some true/\bm P (ev gl s.1) o=some v/\s'=(ei s.1 o.dst v,s.2.1,s.2.2)
 | .read v=>dN ops s.1 o=some true/\aU P (ev gl s.1) o s.2.1=some v/\s'=(ei s.1 o.dst v,s.2.1,s.2.2)
 | .alloc B v=>dN ops s.1 o=some true/\(∃ f,aM P (ev gl s.1) o=some (B,f)/\v=f (base+j))/\s'=(ei s.1 o.dst v,s.2.1,(j,B)::s.2.2)
 | .eff v h'=>dN ops s.1 o=some true/\(∃ u,cV P cf (ev gl s.1) o (ax s.2.1 base (s.2.2.filter fun p=>bf j p.1))=some (v,u)/\h'=u.app (ax s.2.1 base (s.2.2.filter fun p=>bf j p.1)))/\
   s'=(ei s.1 o.dst v,h',s.2.2.filter fun p=> !bf j p.1)
theorem kU {cf:bL}{ops:Array Oper}{bf:Nat->Nat->Bool}{base:Nat}: ∀ (rest:List Oper)(j:Nat)(s:BP)(recs:List (List Value×Ent))(out:BP),
  cD P gl cf ops bf base rest j s.1 s.2.1 s.2.2=some (recs,out)-> ∃ (st:Nat->BP)(en:Nat->Ent),st j=s/\st (j+rest.length)=out/\recs.length=rest.length/\
   ∀ i o,rest[i]?=some o->One P gl cf ops bf base (j+i) o (st (j+i)) (en (j+i)) (st (j+i+1))/\recs[i]?=some ((st (j+i)).1,en (j+i))
 | [],j,s,recs,out,h=>by
  simp only [cD,Option.some.injEq,Prod.mk.injEq] at h;obtain ⟨rfl,rfl⟩:=h;exact ⟨fun _=>s,fun _=> .skip,rfl,rfl,rfl,fun i o ho=>by simp at ho⟩
 | o::rest,j,s,recs,out,h=>by
  have key: ∀ (e:Ent)(s':BP)(r:List (List Value×Ent)×BP),One P gl cf ops bf base j o s e s'->cD P gl cf ops bf base rest (j+1) s'.1 s'.2.1 s'.2.2=some r->((s.1,e)::r.1,r.2)=(recs,out)->
    ∃ (st:Nat->BP)(en:Nat->Ent),st j=s/\st (j+(o::rest).length)=out/\recs.length=(o::rest).length/\
     ∀ i o',(o::rest)[i]?=some o'->One P gl cf ops bf base (j+i) o' (st (j+i)) (en (j+i)) (st (j+i+1))/\recs[i]?=some ((st (j+i)).1,en (j+i)):=by
   intro e s' r hone hr heq;obtain ⟨st,en,h1,h2,h3,h4⟩:=kU rest (j+1) s' r.1 r.2 hr;simp only [Prod.mk.injEq] at heq;obtain ⟨rfl,rfl⟩:=heq;refine ⟨fun i=>if i=j then s else st i,fun i=>if i=j then e else en i,by simp,?_,by simp [h3],?_⟩
   ·have hne: ¬ j+(o::rest).length=j:=by simp only [length_cons]; omega
    simp only [if_neg hne];rw [<-h2]; congr 1; simp only [length_cons]; omega
   ·intro i o' ho
    cases i with
    | zero=>
     simp only [getElem?_cons_zero,Option.some.injEq] at ho;subst ho;simp only [add_zero,if_true,getElem?_cons_zero,and_true];rw [if_neg (by omega),h1];exact hone
    | succ i=>
     simp only [List.getElem?_cons_succ] at ho ⊢;obtain ⟨h5,h6⟩:=h4 i o' ho;simp only [if_neg (show ¬ j+(i+1)=j by omega),if_neg (show ¬ j+(i+1)+1=j by omega)];rw [show j+(i+1)=j+1+i by omega];exact ⟨h5,h6⟩
  simp only [cD] at h;split at h
  ·cases h
  ·next hw=>
   obtain ⟨r,hr,he⟩:=map_eq_some_iff.1 h;exact key .skip (ei s.1 o.dst undef,s.2.1,s.2.2) r ⟨hw,rfl⟩ hr he
  ·next hw=>
   split at h
   ·next v hv=>
    obtain ⟨r,hr,he⟩:=map_eq_some_iff.1 h;exact key (.pure v) (ei s.1 o.dst v,s.2.1,s.2.2) r ⟨hw,hv,rfl⟩ hr he
   ·split at h
    ·next v hv=>
     obtain ⟨r,hr,he⟩:=map_eq_some_iff.1 h;exact key (.read v) (ei s.1 o.dst v,s.2.1,s.2.2) r ⟨hw,hv,rfl⟩ hr he
    ·split at h
     ·next B f hv=>
      obtain ⟨r,hr,he⟩:=map_eq_some_iff.1 h;exact key (.alloc B (f (base+j))) (ei s.1 o.dst (f (base+j)),s.2.1,(j,B)::s.2.2) r ⟨hw,⟨f,hv,rfl⟩,rfl⟩ hr he
     ·split at h
      ·next v u hv=>
       obtain ⟨r,hr,he⟩:=map_eq_some_iff.1 h;exact key (.eff v _) (ei s.1 o.dst v,_,_) r ⟨hw,⟨u,hv,rfl⟩,rfl⟩ hr he
      ·cases h
def Ent.isEff:Ent->Bool
 | .eff .. =>true
 | _=>false
structure Run (P:Program)(gl:Nat->Bool)(cf:bL)(ops:Array Oper)(bf:Nat->Nat->Bool)(base:Nat)(st:Nat->BP)(en:Nat->Ent):Prop where
 one: ∀ i o,ops[i]?=some o->One P gl cf ops bf base i o (st i) (en i) (st (i+1))
 chain: ∀ e₁ e₂,e₁ < e₂->e₂ < ops.size->(en e₁).isEff=true->(en e₂).isEff=true->bf e₂ e₁=true
 reads: ∀ j o v,ops[j]?=some o->en j = .read v-> ∀ c,c<=ops.size->(∀ e,e < c->(en e).isEff=true->bf e j=false)->(∀ e,c<=e->e < ops.size->(en e).isEff=true->bf j e=false)->
  aU P (ev gl (st j).1) o (st c).2.1=some v
section
variable {cf:bL} {ops:Array Oper} {bf:Nat->Nat->Bool} {base:Nat} {st:Nat->BP} {en:Nat->Ent}
theorem One.heap {j:Nat}{o:Oper}{s s':BP}{e:Ent}(h:One P gl cf ops bf base j o s e s'):(∀ v h',e = .eff v h'->s'.2.1=h')/\(e.isEff=false->s'.2.1=s.2.1):=by
 cases e <;> simp only [One] at h
 ·exact ⟨(fun v h' he=>by cases he),fun _=>by rw [h.2]⟩
 ·exact ⟨(fun v h' he=>by cases he),fun _=>by rw [h.2.2]⟩
 ·exact ⟨(fun v h' he=>by cases he),fun _=>by rw [h.2.2]⟩
 ·exact ⟨(fun v h' he=>by cases he),fun _=>by rw [h.2.2]⟩
 ·exact ⟨(fun v h' he=>by cases he; rw [h.2.2]),fun he=>by simp [Ent.isEff] at he⟩
theorem One.tm {j:Nat}{o:Oper}{s s':BP}{e:Ent}(h:One P gl cf ops bf base j o s e s'):s'.1=ei s.1 o.dst e.val:=by
 cases e <;> simp only [One] at h
 ·rw [h.2]; rfl
 ·rw [h.2.2]; rfl
 ·rw [h.2.2]; rfl
 ·rw [h.2.2]; rfl
 ·rw [h.2.2]; rfl
theorem jJ (trans: ∀ k j i,bf k j=true->bf j i=true->bf k i=true): ∀ (recs:List (List Value×Ent))(i x:Nat)(hx:Heap),eI bf ((x,hx)::dB recs i)=true->
  ∀ k r,recs[k]?=some r->r.2.isEff=true->bf (i+k) x=true
 | [],i,x,hx,h,k,r,hr,he=>by simp at hr
 | (tm,e)::recs,i,x,hx,h,k,r,hr,he=>by
  cases e with
  | eff v h'=>
   simp only [dB,eI,and_eq_true] at h
   cases k with
   | zero=>exact h.1
   | succ k=>
    have:=jJ trans recs (i+1) i h' h.2 k r (by simpa using hr) he;rw [show i+(k+1)=i+1+k by omega];exact trans _ _ _ this h.1
  | _=>
   simp only [dB] at h
   cases k with
   | zero=>
    simp only [getElem?_cons_zero,Option.some.injEq] at hr;subst hr;simp [Ent.isEff] at he
   | succ k=>
    have:=jJ trans recs (i+1) x hx h k r (by simpa using hr) he;rw [show i+(k+1)=i+1+k by omega];exact this
theorem w6 {x:Nat×Heap}{l:List (Nat×Heap)}(h:eI bf (x::l)=true):eI bf l=true:=by
 cases l with
 | nil=>rfl
 | cons y l=>simp only [eI,and_eq_true] at h; exact h.2
theorem mQ (trans: ∀ k j i,bf k j=true->bf j i=true->bf k i=true): ∀ (recs:List (List Value×Ent))(i:Nat),eI bf (dB recs i)=true->
  ∀ k₁ k₂ r₁ r₂,k₁ < k₂->recs[k₁]?=some r₁->recs[k₂]?=some r₂->r₁.2.isEff=true->r₂.2.isEff=true->bf (i+k₂) (i+k₁)=true
 | [],i,h,k₁,k₂,r₁,r₂,hlt,h1,h2,e1,e2=>by simp at h1
 | (tm,e)::recs,i,h,k₁,k₂,r₁,r₂,hlt,h1,h2,e1,e2=>by
  cases k₂ with
  | zero=>omega
  | succ k₂=>
   have h2':recs[k₂]?=some r₂:=by simpa using h2
   cases k₁ with
   | zero=>
    simp only [getElem?_cons_zero,Option.some.injEq] at h1;subst h1
    cases e with
    | eff v h'=>
     simp only [dB] at h;have:=jJ trans recs (i+1) i h' h k₂ r₂ h2' e2;rw [show i+(k₂+1)=i+1+k₂ by omega];exact this
    | _=>simp [Ent.isEff] at e1
   | succ k₁=>
    have ht:eI bf (dB recs (i+1))=true:=by
     cases e with
     | eff v h'=>simp only [dB] at h; exact w6 h
     | _=>simpa only [dB] using h
    have:=mQ trans recs (i+1) ht k₁ k₂ r₁ r₂ (by omega) (by simpa using h1) h2' e1 e2;rw [show i+(k₂+1)=i+1+k₂ by omega,show i+(k₁+1)=i+1+k₁ by omega];exact this
theorem lw {o:Oper}{tm:List Value}{v:Value}{h:Heap}(hs:jA P gl o tm v h=true):aU P (ev gl tm) o h=some v:=by
 unfold jA at hs;split at hs
 ·next v' hv'=>rw [im _ _ _ hs]; exact hv'
 ·cases hs
theorem gP {j:Nat}{o:Oper}{tm:List Value}{v:Value}{N:Nat}(hj:j < N)(hown: ∀ c,c<=N->(∀ e,j<=e->e < c->(en e).isEff=false)->(∀ e,c<=e->e < j->(en e).isEff=false)->aU P (ev gl tm) o (st c).2.1=some v):
  ∀ (recs:List (List Value×Ent))(i:Nat)(own:Bool),(∀ k r,recs[k]?=some r->r.2=en (i+k))->i+recs.length=N->
  (∀ k,i<=k->k < i+recs.length->(∀ v h',en k = .eff v h'->(st (k+1)).2.1=h')/\((en k).isEff=false->(st (k+1)).2.1=(st k).2.1))->
  (own=true-> ∀ e,j<=e->e < i->(en e).isEff=false)->
  jm P gl bf j o tm v (st i).2.1 (dB recs i) own=true-> ∀ c,i<=c->c<=i+recs.length->(∀ e,i<=e->e < c->(en e).isEff=true->bf e j=false)->
  (∀ e,c<=e->e < i+recs.length->(en e).isEff=true->bf j e=false)->aU P (ev gl tm) o (st c).2.1=some v
 | [],i,own,hen,hN,hst,hp,h,c,h1,h2,h3,h4=>by
  simp only [dB,jm,or_eq_true] at h;simp only [length_nil] at h2 hN;obtain rfl:c=i:=by omega
  rcases h with h | h
  ·exact hown c (by omega) (hp h) (fun e he1 he2=>by omega)
  ·exact lw h
 | (tm',e)::recs,i,own,hen,hN,hst,hp,h,c,h1,h2,h3,h4=>by
  simp only [length_cons] at h2 h4 hst hN;have he:e=en i:=hen 0 (tm',e) rfl;have hen': ∀ k r,recs[k]?=some r->r.2=en (i+1+k):=fun k r hr=>by
   rw [show i+1+k=i+(k+1) by omega]; exact hen (k+1) r (by simpa using hr)
  have hst': ∀ k,i+1<=k->k < i+1+recs.length->_:=fun k hk1 hk2=>hst k (by omega) (by omega)
  cases hef:e.isEff with
  | true=>
   cases e with
   | eff u h'=>
    simp only [dB,jm,and_eq_true,or_eq_true] at h;have hi:=(hst i (by omega) (by omega)).1 u h' he.symm;by_cases hc:c=i
    ·subst hc;rcases h.1 with (h5 | h5) | h5
     ·have hlt:j < c:=by simpa [blt_eq] using h5.2
      exact hown c (by omega) (hp h5.1) (fun e he1 he2=>by omega)
     ·rw [h4 c (by omega) (by omega) (by rw [<-he]; rfl)] at h5; cases h5
     ·exact lw h5
    ·rcases h.2 with h5 | h5
     ·rw [h3 i (by omega) (by omega) (by rw [<-he]; rfl)] at h5; cases h5
     ·rw [<-hi] at h5;refine gP hj hown recs (i+1) _ hen' (by omega) hst' ?_ h5 c (by omega) (by omega) (fun e he1 he2=>h3 e (by omega) he2) (fun e he1 he2=>h4 e he1 (by omega));intro hlt e he1 he2;have hlt:i < j:=by simpa [blt_eq] using hlt
      omega
   | _=>simp [Ent.isEff] at hef
  | false=>
   have hi:=(hst i (by omega) (by omega)).2 (by rw [<-he]; exact hef);have h5:jm P gl bf j o tm v (st (i+1)).2.1 (dB recs (i+1)) own=true:=by
    rw [hi]
    cases e with
    | eff u h'=>simp [Ent.isEff] at hef
    | _=>simpa only [dB] using h
   have hp':own=true-> ∀ e,j<=e->e < i+1->(en e).isEff=false:=fun ho e' he1 he2=>by
    rcases lt_or_ge e' i with h6 | h6
    ·exact hp ho e' he1 h6
    ·obtain rfl:e'=i:=by omega
     rw [<-he]; exact hef
   by_cases hc:c=i
   ·subst hc;rw [<-hi];exact gP hj hown recs (c+1) own hen' (by omega) hst' hp' h5 (c+1) (by omega) (by omega) (fun e he1 he2=>by omega) (fun e he1 he2=>h4 e (by omega) (by omega))
   ·exact gP hj hown recs (i+1) own hen' (by omega) hst' hp' h5 c (by omega) (by omega) (fun e he1 he2=>h3 e (by omega) he2) (fun e he1 he2=>h4 e he1 (by omega))
theorem mO {hp:Heap}{es:List (Nat×Heap)}: ∀ (os:List Oper)(recs:List (List Value×Ent))(j:Nat),gX P gl bf hp es os recs j=true->
  ∀ (i:Nat)(o:Oper)(tm:List Value)(v:Value),os[i]?=some o->recs[i]?=some (tm,.read v)->jm P gl bf (j+i) o tm v hp es true=true
 | [],_,_,_,i,o,tm,v,ho,_=>by simp at ho
 | _::_,[],_,_,i,o,tm,v,_,hr=>by simp at hr
 | o'::os,(tm',e)::recs,j,h,i,o,tm,v,ho,hr=>by
  have ht:gX P gl bf hp es os recs (j+1)=true:=by
   cases e <;> simp only [gX,and_eq_true] at h <;> first | exact h | exact h.2
  cases i with
  | zero=>
   simp only [getElem?_cons_zero,Option.some.injEq,Prod.mk.injEq] at ho hr;obtain ⟨rfl,rfl⟩:=hr;subst ho;simp only [gX,and_eq_true] at h;exact h.1
  | succ i=>
   have:=mO os recs (j+1) ht i o tm v (by simpa using ho) (by simpa using hr);rw [show j+(i+1)=j+1+i by omega];exact this
theorem y8 (hO:Ordd ops bf){tm tm':List Value}{h h':Heap}(hr:rk P gl cf ops bf tm h=some (tm',h')):
  ∃ st en,Run P gl cf ops bf h.next st en/\st 0=(tm,{ h with next:=h.next+ops.size },[])/\(st ops.size).1=tm'/\h'=ax (st ops.size).2.1 h.next (st ops.size).2.2:=by
 unfold rk at hr;split at hr
 ·next recs tm2 h2 pd hd=>
  split at hr
  ·next hck=>
   simp only [and_eq_true] at hck;simp only [Option.some.injEq,Prod.mk.injEq] at hr;obtain ⟨rfl,rfl⟩:=hr;obtain ⟨st,en,h1,h2',h3,h4⟩:=kU (P:=P) (gl:=gl) (cf:=cf) ops.toList 0 (tm,{ h with next:=h.next+ops.size },[]) recs (tm2,h2,pd) hd;simp only [zero_add,length_toList,getElem?_toList] at h2' h3 h4;refine ⟨st,en,⟨fun i o ho=>(h4 i o ho).1,?_,?_⟩,h1,by rw [h2'],by rw [h2']⟩
   ·intro e₁ e₂ hlt hsz i1 i2;have:=mQ hO.trans recs 0 hck.1 e₁ e₂ _ _ hlt (h4 e₁ _ (getElem?_eq_getElem (by omega))).2 (h4 e₂ _ (getElem?_eq_getElem hsz)).2 i1 i2;simpa using this
   ·intro j o v ho hen c hc hb1 hb2;have hrec:=(h4 j o ho).2;rw [hen] at hrec;have h5:=mO ops.toList recs 0 hck.2 j o _ v (by simpa using ho) hrec;rw [zero_add] at h5;have h0:(st 0).2.1={ h with next:=h.next+ops.size }:=by rw [h1]
    rw [<-h0] at h5;have hheap: ∀ c d,c+d<=ops.size->(∀ e,c<=e->e < c+d->(en e).isEff=false)->(st (c+d)).2.1=(st c).2.1:=by
     intro c d
     induction d with
     | zero=>intros; rfl
     | succ d ih=>
      intro hs hn;have:=((h4 (c+d) _ (getElem?_eq_getElem (by omega))).1).heap.2 (hn (c+d) (by omega) (by omega));rw [show c+(d+1)=c+d+1 by omega,this];exact ih (by omega) fun e he1 he2=>hn e he1 (by omega)
    have hjs:j < ops.size:=(Array.getElem?_eq_some_iff.1 ho).1;have hone:=(h4 j o ho).1;rw [hen] at hone;simp only [One] at hone;refine gP (st:=st) (en:=en) hjs ?_ recs 0 true (fun k r hk=>by
      have hlt:k < ops.size:=by rw [<-h3]; exact (List.getElem?_eq_some_iff.1 hk).1
      have:=(h4 k _ (getElem?_eq_getElem hlt)).2;rw [this] at hk;obtain rfl:=oI hk;simp) (by omega)
     (fun k _ hk=>by
      have hlt:k < ops.size:=by omega
      exact ((h4 k _ (getElem?_eq_getElem hlt)).1).heap) (fun _ e _ he=>by omega) h5 c (by omega) (by omega) (fun e _=>hb1 e) (fun e he1 he2=>hb2 e he1 (by omega))
    intro c hc hn1 hn2;rcases lt_or_ge j c with hlt | hge
    ·have:=hheap j (c - j) (by omega) fun e he1 he2=>hn1 e he1 (by omega);rw [show j+(c - j)=c by omega] at this;rw [this]; exact hone.2.1
    ·have:=hheap c (j - c) (by omega) fun e he1 he2=>hn2 e he1 (by omega);rw [show c+(j - c)=j by omega] at this;rw [<-this]; exact hone.2.1
  ·cases hr
 ·cases hr
end
end
section
variable {P:Program} {gl:Nat->Bool}
theorem iw {h:Heap}{base:Nat}: ∀ (R:List (Nat×Blk)),(∀ i B B',(i,B)∈R->(i,B')∈R->B=B')->(∀ i B,(i,B)∈R->h.get (base+i)=none)->
  ∀ k B,(ax h base R).get k=some B↔h.get k=some B\/ ∃ i,k=base+i/\(i,B)∈R
 | [],_,_,k,B=>by simp [ax]
 | (j,B₀)::R,hf,hn,k,B=>by
  have ih:=iw R (fun i B B' h1 h2=>hf i B B' (mem_cons_of_mem _ h1) (mem_cons_of_mem _ h2)) (fun i B h1=>hn i B (mem_cons_of_mem _ h1)) k B;simp only [ax,Heap.get_set];by_cases hk:k=base+j
  ·rw [if_pos hk];constructor
   ·intro he;obtain rfl:=oI he;exact .inr ⟨j,hk,mem_cons_self⟩
   ·rintro (he | ⟨i,h1,h2⟩)
    ·rw [hk,hn j B₀ mem_cons_self] at he; cases he
    ·obtain rfl:i=j:=by omega
     rw [hf i B B₀ h2 mem_cons_self]
  ·rw [if_neg hk,ih];constructor
   ·rintro (he | ⟨i,h1,h2⟩)
    ·exact .inl he
    ·exact .inr ⟨i,h1,mem_cons_of_mem _ h2⟩
   ·rintro (he | ⟨i,h1,h2⟩)
    ·exact .inl he
    ·rcases mem_cons.1 h2 with h3 | h3
     ·simp only [Prod.mk.injEq] at h3;exact absurd (by rw [h1,h3.1]) hk
     ·exact .inr ⟨i,h1,h3⟩
theorem cG {h:Heap}{base:Nat}: ∀ (R:List (Nat×Blk)),(ax h base R).next=h.next
 | []=>rfl
 | _::R=>cG R
theorem gh (tm:List Value)(d:Option Tmp)(v:Value):(ei tm d v).length=tm.length:=by cases d <;> simp [ei]
theorem CR {tm:List Value}{d:Option Tmp}{v:Value}{t:Tmp}(h:d≠some t):(ei tm d v)[t]?=tm[t]?:=by
 cases d with
 | none=>rfl
 | some d=>simp only [ei]; rw [List.getElem?_set_ne]; rintro rfl; exact h rfl
theorem DG {tm:List Value}{v:Value}{t:Tmp}(h:t < tm.length):(ei tm (some t) v)[t]?=some v:=by
 simp only [ei]; rw [List.getElem?_set_self h]
section
variable {cf:bL} {ops:Array Oper} {bf:Nat->Nat->Bool} {base:Nat} {st:Nat->BP} {en:Nat->Ent}
theorem Run.tm_length (hR:Run P gl cf ops bf base st en): ∀ i,i<=ops.size->(st i).1.length=(st 0).1.length
 | 0,_=>rfl
 | i+1,h=>by
  rw [(hR.one i _ (getElem?_eq_getElem (by omega))).tm,gh];exact hR.tm_length i (by omega)
theorem Run.tm_old (hR:Run P gl cf ops bf base st en)(t:Tmp): ∀ i,i<=ops.size->(∀ (i':Nat)(o':Oper),i' < i->ops[i']?=some o'->o'.dst≠some t)->(st i).1[t]?=(st 0).1[t]?
 | 0,_,_=>rfl
 | i+1,h,hn=>by
  have ho:=getElem?_eq_getElem (xs:=ops) (i:=i) (by omega);rw [(hR.one i _ ho).tm,CR (hn i _ (by omega) ho)];exact hR.tm_old t i (by omega) fun i' o' h1 h2=>hn i' o' (by omega) h2
theorem Run.tm_new (hO:Ordd ops bf)(hR:Run P gl cf ops bf base st en){t:Tmp}(ht:t < (st 0).1.length){i':Nat}{o':Oper}(ho':ops[i']?=some o')(hd:o'.dst=some t): ∀ i,i<=ops.size->i' < i->(st i).1[t]?=some (en i').val
 | 0,_,h=>absurd h (by omega)
 | i+1,h,hlt=>by
  have ho:=getElem?_eq_getElem (xs:=ops) (i:=i) (by omega);rw [(hR.one i _ ho).tm];by_cases he:i'=i
  ·subst he;rw [ho'] at ho;obtain rfl:=oI ho;rw [hd,DG (by rw [hR.tm_length _ (by omega)]; exact ht)]
  ·rw [CR fun hd2=>he (hO.uniq i' i o' _ t ho' ho hd hd2)];exact hR.tm_new hO ht ho' hd i (by omega) (by omega)
theorem Run.same_heap (hR:Run P gl cf ops bf base st en){c:Nat}: ∀ (d:Nat),c+d<=ops.size->(∀ e,c<=e->e < c+d->(en e).isEff=false)->(st (c+d)).2.1=(st c).2.1
 | 0,_,_=>rfl
 | d+1,h,hn=>by
  rw [show c+(d+1)=c+d+1 by omega,(hR.one (c+d) _ (getElem?_eq_getElem (by omega))).heap.2 (hn _ (by omega) (by omega))];exact hR.same_heap d (by omega) fun e h1 h2=>hn e h1 (by omega)
def Pend (bf:Nat->Nat->Bool)(en:Nat->Ent)(c i:Nat)(B:Blk):Prop:=(∃ v,en i = .alloc B v)/\ ∀ e,e < c->(en e).isEff=true->bf e i=false
theorem Run.pend (hO:Ordd ops bf)(hR:Run P gl cf ops bf base st en)(h0:(st 0).2.2=[]): ∀ m,m<=ops.size-> ∀ i B,(i,B)∈(st m).2.2↔i < m/\Pend bf en m i B
 | 0,_,i,B=>by rw [h0]; simp
 | m+1,h,i,B=>by
  have ih:=hR.pend hO h0 m (by omega) i B;have hone:=hR.one m _ (getElem?_eq_getElem (by omega));have calm:(en m).isEff=false->(∀ B v,en m≠ .alloc B v)->(i < m+1/\Pend bf en (m+1) i B↔i < m/\Pend bf en m i B):=fun hne hna=>by
   constructor
   ·rintro ⟨h1,⟨v,h2⟩,h3⟩;refine ⟨?_,⟨v,h2⟩,fun e he=>h3 e (by omega)⟩;rcases lt_or_ge i m with h4 | h4
    ·exact h4
    ·obtain rfl:i=m:=by omega
     exact absurd h2 (hna B v)
   ·rintro ⟨h1,h2,h3⟩;refine ⟨by omega,h2,fun e he hef=> ?_⟩;rcases lt_or_ge e m with h4 | h4
    ·exact h3 e h4 hef
    ·obtain rfl:e=m:=by omega
     rw [hne] at hef; cases hef
  cases hm:en m with
  | skip=>
   rw [hm] at hone; simp only [One] at hone;rw [hone.2,ih,calm (by rw [hm]; rfl) (by rw [hm]; intro B v h; cases h)]
  | pure v=>
   rw [hm] at hone; simp only [One] at hone;rw [hone.2.2,ih,calm (by rw [hm]; rfl) (by rw [hm]; intro B v h; cases h)]
  | read v=>
   rw [hm] at hone; simp only [One] at hone;rw [hone.2.2,ih,calm (by rw [hm]; rfl) (by rw [hm]; intro B v h; cases h)]
  | alloc B₀ v=>
   rw [hm] at hone; simp only [One] at hone;rw [hone.2.2];simp only [mem_cons,Prod.mk.injEq];rw [ih];constructor
   ·rintro (⟨rfl,rfl⟩ | ⟨h1,h2,h3⟩)
    ·refine ⟨by omega,⟨v,hm⟩,fun e he _=> ?_⟩
     cases hb:bf e i with
     | false=>rfl
     | true=>have:=hO.lt _ _ hb; omega
    ·refine ⟨by omega,h2,fun e he hef=> ?_⟩;rcases lt_or_ge e m with h4 | h4
     ·exact h3 e h4 hef
     ·obtain rfl:e=m:=by omega
      rw [hm] at hef; cases hef
   ·rintro ⟨h1,⟨v',h2⟩,h3⟩;rcases lt_or_ge i m with h4 | h4
    ·exact .inr ⟨h4,⟨v',h2⟩,fun e he=>h3 e (by omega)⟩
    ·obtain rfl:i=m:=by omega
     rw [hm] at h2
     cases h2
     exact .inl ⟨rfl,rfl⟩
  | eff v h'=>
   rw [hm] at hone; simp only [One] at hone;rw [hone.2.2];simp only [mem_filter,not_eq_true'];rw [ih];constructor
   ·rintro ⟨⟨h1,h2,h3⟩,h4⟩;refine ⟨by omega,h2,fun e he hef=> ?_⟩;rcases lt_or_ge e m with h5 | h5
    ·exact h3 e h5 hef
    ·obtain rfl:e=m:=by omega
     exact h4
   ·rintro ⟨h1,⟨v',h2⟩,h3⟩;have hlt:i < m:=by
     rcases lt_or_ge i m with h5 | h5
     ·exact h5
     ·obtain rfl:i=m:=by omega
      rw [hm] at h2; cases h2
    exact ⟨⟨hlt,⟨v',h2⟩,fun e he=>h3 e (by omega)⟩,h3 m (by omega) (by rw [hm]; rfl)⟩
def TmS (ops:Array Oper)(en:Nat->Ent)(tm₀:List Value)(S:List Nat)(β:Inj)(a:Act):Prop:=
 a.tmps.size=tm₀.length/\ ∀ (t:Tmp)(v':Value),a.tmps[t]?=some v'->(∀ (i:Nat)(o:Oper),i∈S->ops[i]?=some o->o.dst=some t->VRel β (en i).val v')/\
  ((∀ (i:Nat)(o:Oper),i∈S->ops[i]?=some o->o.dst≠some t)-> ∀ v,tm₀[t]?=some v->VRel β v v')
theorem TmS.mono {tm₀:List Value}{S:List Nat}{β β':Inj}{a:Act}(h:TmS ops en tm₀ S β a)(hle:β.le β'):TmS ops en tm₀ S β' a:=
 ⟨h.1,fun t v' hv=>⟨fun i o h1 h2 h3=>((h.2 t v' hv).1 i o h1 h2 h3).mono hle,fun h1 v h2=>((h.2 t v' hv).2 h1 v h2).mono hle⟩⟩
theorem TmS.put (hO:Ordd ops bf){tm₀:List Value}{S:List Nat}{β:Inj}{a:Act}(h:TmS ops en tm₀ S β a){j:Nat}{o:Oper}(ho:ops[j]?=some o){v':Value}(hv:VRel β (en j).val v'):TmS ops en tm₀ (S++[j]) β (a.put o.dst v'):=by
 refine ⟨by cases hd:o.dst <;> simp [Act.put,h.1],fun t u hu=> ?_⟩;by_cases hd:o.dst=some t
 ·have hut:u=v':=by
   rw [hd] at hu;simp only [Act.put,Array.getElem?_setIfInBounds,if_true] at hu;split at hu
   ·exact (oI hu).symm
   ·cases hu
  subst hut;refine ⟨fun i o' _ h2 h3=> ?_,fun hno=>absurd hd (hno j o (by simp) ho)⟩;obtain rfl:=hO.uniq i j o' o t h2 ho h3 hd;exact hv
 ·have hu':a.tmps[t]?=some u:=by
   cases hdd:o.dst with
   | none=>rw [hdd] at hu; exact hu
   | some d=>
    rw [hdd] at hu hd;simp only [Act.put,Array.getElem?_setIfInBounds] at hu;rw [if_neg (by rintro rfl; exact hd rfl)] at hu;exact hu
  obtain ⟨h1,h2⟩:=h.2 t u hu';refine ⟨fun i o' h3 h4 h5=> ?_,fun hno=>h2 fun i o' h3=>hno i o' (mem_append_left _ h3)⟩;rcases mem_append.1 h3 with h3 | h3
  ·exact h1 i o' h3 h4 h5
  ·simp only [mem_singleton] at h3;subst h3;rw [ho] at h4;obtain rfl:=oI h4;exact absurd h5 hd
theorem TmS.sees (hO:Ordd ops bf)(hR:Run P gl cf ops bf base st en){L pre suf:List Nat}{j:Nat}(hL:Topo ops L)(he:L=pre++j::suf){β:Inj}{a:Act}(h:TmS ops en (st 0).1 pre β a)(hg:Gl gl β){o:Oper}(ho:ops[j]?=some o):
  ∀ x∈o.op.operands,VRel β (ev gl (st j).1 x) (a.eval x):=by
 have hjs:j < ops.size:=(Array.getElem?_eq_some_iff.1 ho).1;intro x hx
 cases x with
 | tmp t=>
  simp only [ev,Act.eval];by_cases ht:t < (st 0).1.length
  ·have hta:t < a.tmps.size:=by rw [h.1]; exact ht
   obtain ⟨h1,h2⟩:=h.2 t _ (getElem?_eq_getElem hta);rw [Array.getD_eq_getD_getElem?,getElem?_eq_getElem hta,Option.getD_some];by_cases hw: ∃ (i:Nat)(o':Oper),i∈pre/\ops[i]?=some o'/\o'.dst=some t
   ·obtain ⟨i,o',hi,ho',hd⟩:=hw;have hlt:i < j:=by
     rcases hO.names j o t ho hx i o' ho' hd with rfl | hb | hb
     ·have:=hL.nodup;rw [he] at this;exact absurd rfl (nodup_append.1 this |>.2.2 i hi i mem_cons_self)
     ·exact hO.lt _ _ hb
     ·obtain ⟨p1,p2,rfl⟩:=List.append_of_mem hi;have:=hO.topo L hL p1 i (p2++j::suf) (by rw [he]; simp) j hb;have hnd:=hL.nodup;rw [he] at hnd;exact absurd rfl ((nodup_append.1 hnd).2.2 j (mem_append_left _ this) j mem_cons_self)
    rw [gD,hR.tm_new hO ht ho' hd j (by omega) hlt];exact h1 i o' hi ho' hd
   ·have hold:=hR.tm_old t j (by omega) fun i' o' hlt ho' hd=>by
     rcases hO.names j o t ho hx i' o' ho' hd with rfl | hb | hb
     ·omega
     ·exact hw ⟨i',o',hO.topo L hL pre j suf he i' hb,ho',hd⟩
     ·have:=hO.lt _ _ hb; omega
    rw [gD,hold,gE ht];exact h2 (fun i o' h3 h4 h5=>hw ⟨i,o',h3,h4,h5⟩) _ (gE ht)
  ·have hta: ¬ t < a.tmps.size:=by rw [h.1]; exact ht
   rw [gD,getElem?_eq_none (by rw [hR.tm_length j (by omega)]; exact Nat.le_of_not_lt ht),Array.getD_eq_getD_getElem?,Array.getElem?_eq_none (Nat.le_of_not_lt hta)];exact .undef β
 | const v=>
  simp only [ev,Act.eval];split
  ·next hp=>exact .of_plain hp
  ·exact .junk v
 | global g=>
  simp only [ev,Act.eval];split
  ·next hp=>
   obtain ⟨sl,h1,h2,h3,h4⟩:=hg g hp;have:=VRel.ptr (i:=0) h1 h4;rwa [h2,h3] at this
  ·exact .junk _
 | func f=>
  simp only [ev,Act.eval];exact .func rfl rfl rfl (fun i v v' h=>by simp at h) (fun i v v' h=>by simp at h)
theorem TmS.wanted (hO:Ordd ops bf)(hR:Run P gl cf ops bf base st en){L pre suf:List Nat}{j:Nat}(hL:Topo ops L)(he:L=pre++j::suf){β:Inj}{a:Act}(h:TmS ops en (st 0).1 pre β a){o:Oper}(ho:ops[j]?=some o){b:Bool}
  (hw:dN ops (st j).1 o=some b):Region.wanted o (yielded ops a.tmps)=b:=by
 have hjs:j < ops.size:=(Array.getElem?_eq_some_iff.1 ho).1;unfold dN at hw;unfold Region.wanted;split at hw
 ·next hg=>rw [hg]; simpa using hw
 ·next i want hg=>
  rw [hg];simp only [yielded];have hb:=hO.guards j o i want ho hg;have hi:=hO.topo L hL pre j suf he i hb;split at hw
  ·next d hd=>
   rw [hd];simp only [Option.bind_some];obtain ⟨oi,hoi,hdi⟩:=Option.bind_eq_some_iff.1 hd;have hval: ∀ v,(st j).1[d]?=some v->v=(en i).val/\ ∃ v',a.tmps[d]?=some v'/\VRel β v v':=by
    intro v hv;have hdl:d < (st 0).1.length:=by rw [<-hR.tm_length j (by omega)]; exact (List.getElem?_eq_some_iff.1 hv).1
    have hda:d < a.tmps.size:=by rw [h.1]; exact hdl
    have:=hR.tm_new hO hdl hoi hdi j (by omega) (hO.lt _ _ hb);rw [this] at hv;obtain rfl:=oI hv;exact ⟨rfl,_,getElem?_eq_getElem hda,(h.2 d _ (getElem?_eq_getElem hda)).1 i oi hi hoi hdi⟩
   split at hw
   ·next b' hb'=>
    obtain ⟨_,v',h1,h2⟩:=hval _ (vA hb');rw [h2.inv_bool] at h1;rw [h1];simp only [Option.some.injEq] at hw;subst hw
    cases b' <;> cases want <;> rfl
   ·next vs hb'=>
    simp only [Option.some.injEq] at hw;subst hw;rcases sG hb' with hb' | hb'
    ·obtain ⟨_,v',h1,h2⟩:=hval _ hb';obtain ⟨vs',rfl,_⟩:=h2.inv_tuple;rw [h1];rfl
    ·have hdn:a.tmps[d]?=none:=Array.getElem?_eq_none (by rw [h.1,<-hR.tm_length j (by omega)]; exact List.getElem?_eq_none_iff.1 hb');rw [hdn];rfl
   ·cases hw
  ·cases hw
end
end
section
variable {β:Inj} {P:Program} {gl:Nat->Bool}
theorem pU {r:Option Nat}{n:Nat}{o:Oper}{a:Act}{w w':World}{v':Value}(hnd: ∀ c,o.op≠ .defer c)(hrun:(execOp a.eval o).run P w = .ok (.value v') w'){next:Act->World->Prop}{Q:Exit->Act->World->Prop}
  (h:next (a.put o.dst v') w'):o.wpIn (eJ r) n P a w next Q:=by
 refine ⟨fun _ _=>trivial,?_⟩;rw [Oper.semAt_eq _ _ _ hnd,hrun];exact h
theorem FX (hN:cM P){cf:bL}(hcf:CfOk P gl cf){r:Option Nat}{n:Nat}{ρ:Operand->Value}{a:Act}{h:Heap}{w:World}{o:Oper}{v:Value}{u:Upd}(hs:Sim β h w)(hg:Gl gl β)(hρ: ∀ x,VRel β (ρ x) (a.eval x))
  (hr:cV P cf ρ o h=some (v,u)) (next:Act->World->Prop) (Q:Exit->Act->World->Prop)
  (hk: ∀ v' w' β',Step β h w β' (u.app h) w'->VRel β' v v'->next (a.put o.dst v') w'):o.wpIn (eJ r) n P a w next Q:=by
 refine ⟨fun _ _=>trivial,?_⟩;have hnd: ∀ c,o.op≠ .defer c:=by
  intro c hc;simp [cV,hc] at hr
 rw [Oper.semAt_eq _ _ _ hnd];by_cases hc:aG o=false
 ·obtain ⟨v',w',β',h1,h2,h3⟩:=qk hρ hc hs hr;rcases h1 with h1 | ⟨h1,rfl⟩
  ·rw [h1];exact hk v' w' β' h2 h3
  ·rw [h1];exact hk undef w' β' h2 h3
 ·unfold aG at hc;split at hc
  ·next f args ats ho=>
   simp only [cV,ho] at hr;exact xT hN hcf ho hs hg hρ hr next Q hk
  ·exact absurd rfl hc
open Classical in
noncomputable def only (o:Oper)(ρ:Operand->Value):Operand->Value:=fun x=>if x∈o.op.operands then ρ x else junk
theorem rg {o:Oper}{ρ:Operand->Value}: ∀ x∈o.op.operands,ρ x=only o ρ x:=fun x hx=>by simp [only,hx]
theorem G1 {o:Oper}{ρ ρ':Operand->Value}(h: ∀ x∈o.op.operands,VRel β (ρ x) (ρ' x)): ∀ x,VRel β (only o ρ x) (ρ' x):=fun x=>by
 unfold only;split
 ·next hx=>exact h x hx
 ·exact .junk _
section
variable {cf:bL} {ops:Array Oper} {bf:Nat->Nat->Bool} {st:Nat->BP} {en:Nat->Ent}
structure Inv (ops:Array Oper)(bf:Nat->Nat->Bool)(st:Nat->BP)(en:Nat->Ent)(β₀:Inj)(h:Heap)(w₀:World)(a₀:Act)(pre:List Nat)(β:Inj)(w:World)(a:Act)(c:Nat)(R:List (Nat×Blk)):Prop where
 le:c<=ops.size
 effs: ∀ e,e < ops.size->(en e).isEff=true->(e∈pre↔e < c)
 mem: ∀ i B,(i,B)∈R↔i∈pre/\Pend bf en c i B
 step:Step β₀ h w₀ β (ax (st c).2.1 h.next R) w
 room:h.next+ops.size<=(st c).2.1.next
 nokey: ∀ i B,i < ops.size->(st c).2.1.get (h.next+i)=some B-> ∃ e,e < c/\(en e).isEff=true/\bf e i=true
 free: ∀ i,i < ops.size->i ∉ pre->(∃ B v,en i = .alloc B v)->β (h.next+i)=none
 tms:TmS ops en (st 0).1 pre β a
 dfs:a.defers=a₀.defers
theorem Pend.fun_ {c i:Nat}{B B':Blk}(h:Pend bf en c i B)(h':Pend bf en c i B'):B=B':=by
 obtain ⟨v,h1⟩:=h.1;obtain ⟨v',h2⟩:=h'.1;rw [h1] at h2; cases h2; rfl
variable {β₀:Inj} {h:Heap} {w₀:World} {a₀:Act} {pre:List Nat} {w:World} {a:Act} {c:Nat} {R:List (Nat×Blk)}
theorem Inv.none_ (hI:Inv ops bf st en β₀ h w₀ a₀ pre β w a c R){i:Nat}{B:Blk}(hi:i < ops.size)(hp:Pend bf en c i B):(st c).2.1.get (h.next+i)=none:=by
 cases hg:(st c).2.1.get (h.next+i) with
 | none=>rfl
 | some B'=>
  obtain ⟨e,h1,h2,h3⟩:=hI.nokey i B' hi hg;rw [hp.2 e h1 h2] at h3; cases h3
theorem Inv.get (hI:Inv ops bf st en β₀ h w₀ a₀ pre β w a c R)(hpre: ∀ i∈pre,i < ops.size)(k:Nat)(B:Blk):
  (ax (st c).2.1 h.next R).get k=some B↔(st c).2.1.get k=some B\/ ∃ i,k=h.next+i/\(i,B)∈R:=
 iw R (fun i B B' h1 h2=>((hI.mem i B).1 h1).2.fun_ ((hI.mem i B').1 h2).2) (fun i B h1=>hI.none_ (hpre i ((hI.mem i B).1 h1).1) ((hI.mem i B).1 h1).2) k B
theorem Inv.sub (hI:Inv ops bf st en β₀ h w₀ a₀ pre β w a c R)(hpre: ∀ i∈pre,i < ops.size):Sim β (st c).2.1 w:=
 hI.step.sim.sub (cG R).symm fun k B hk=>(hI.get hpre k B).2 (.inl hk)
theorem Inv.calm (hO:Ordd ops bf)(hI:Inv ops bf st en β₀ h w₀ a₀ pre β w a c R){j:Nat}{o:Oper}(ho:ops[j]?=some o)(hne:(en j).isEff=false)(hna: ∀ B v,en j≠ .alloc B v){v':Value}(hv:VRel β (en j).val v'):
  Inv ops bf st en β₀ h w₀ a₀ (pre++[j]) β w (a.put o.dst v') c R where
 le:=hI.le
 effs:=fun e he hef=>by
  rw [mem_append,hI.effs e he hef];refine ⟨fun hh=> ?_,.inl⟩;rcases hh with hh | hh
  ·exact hh
  ·simp only [mem_singleton] at hh;subst hh;rw [hne] at hef; cases hef
 mem:=fun i B=>by
  rw [hI.mem,mem_append];refine ⟨fun ⟨h1,h2⟩=>⟨.inl h1,h2⟩,fun ⟨h1,h2⟩=>⟨?_,h2⟩⟩;rcases h1 with h1 | h1
  ·exact h1
  ·simp only [mem_singleton] at h1;subst h1;obtain ⟨v,hv⟩:=h2.1;exact absurd hv (hna B v)
 step:=hI.step
 room:=hI.room
 nokey:=hI.nokey
 free:=fun i h1 h2=>hI.free i h1 fun hh=>h2 (mem_append_left _ hh)
 tms:=hI.tms.put hO ho hv
 dfs:=(bO a o.dst v').trans hI.dfs
theorem zF (hN:cM P)(hcf:CfOk P gl cf)(hO:Ordd ops bf)(hR:Run P gl cf ops bf h.next st en)(hpd:(st 0).2.2=[]){L:List Nat}(hL:Topo ops L){r:Option Nat}{n:Nat}{Q:Exit->Act->World->Prop}(hg₀:Gl gl β₀)
  (hk: ∀ a' w' β',Step β₀ h w₀ β' (ax (st ops.size).2.1 h.next (st ops.size).2.2) w'->LRel β' (st ops.size).1 a'.tmps.toList->a'.defers=a₀.defers->Q .normal a' w'):
  ∀ (suf pre:List Nat)(β:Inj)(w:World)(a:Act)(c:Nat)(R:List (Nat×Blk)),L=pre++suf->Inv ops bf st en β₀ h w₀ a₀ pre β w a c R->wpOpsIn (eJ r) n P ops Q suf a w
 | [],pre,β,w,a,c,R,he,hI=>by
  rw [append_nil] at he;subst he;have hpre: ∀ i∈L,i < ops.size:=fun i hi=>(hL.mem i).1 hi;have hnoeff: ∀ e,c<=e->e < ops.size->(en e).isEff=false:=fun e h1 h2=>by
   cases hef:(en e).isEff with
   | false=>rfl
   | true=>have:=(hI.effs e h2 hef).1 ((hL.mem e).2 h2); omega
  have hle:=hI.le;have hsame:(st ops.size).2.1=(st c).2.1:=by
   have:=hR.same_heap (c:=c) (ops.size - c) (by omega) fun e h1 h2=>hnoeff e h1 (by omega);rwa [show c+(ops.size - c)=ops.size by omega] at this
  have hpend: ∀ i B,Pend bf en ops.size i B↔Pend bf en c i B:=fun i B=>by
   refine ⟨fun hp=>⟨hp.1,fun e h1=>hp.2 e (by omega)⟩,fun hp=>⟨hp.1,fun e h1 h2=>hp.2 e ?_ h2⟩⟩;rcases lt_or_ge e c with h3 | h3
   ·exact h3
   ·rw [hnoeff e h3 h1] at h2; cases h2
  have hmem: ∀ i B,(i,B)∈(st ops.size).2.2↔(i,B)∈R:=fun i B=>by
   rw [hR.pend hO hpd ops.size (le_refl _),hI.mem,hpend,hL.mem]
  have hget:=hI.get hpre;have hget2: ∀ k B,(ax (st ops.size).2.1 h.next (st ops.size).2.2).get k=some B↔(st c).2.1.get k=some B\/ ∃ i,k=h.next+i/\(i,B)∈(st ops.size).2.2:=by
   rw [hsame];exact iw _ (fun i B B' h1 h2=>((hI.mem i B).1 ((hmem i B).1 h1)).2.fun_ ((hI.mem i B').1 ((hmem i B').1 h2)).2)
    (fun i B h1=>hI.none_ (hpre i ((hI.mem i B).1 ((hmem i B).1 h1)).1) ((hI.mem i B).1 ((hmem i B).1 h1)).2)
  have hS:Same (ax (st c).2.1 h.next R) (ax (st ops.size).2.1 h.next (st ops.size).2.2):=by
   refine ⟨by rw [cG,cG,hsame],fun k=>Option.ext fun B=> ?_⟩;rw [hget,hget2];simp only [hmem]
  refine hk a w β (hI.step.same (Same.refl h) hS) ?_ hI.dfs;refine ⟨?_,fun t v v' h1 h2=> ?_⟩
  ·rw [hR.tm_length _ (le_refl _),length_toList,hI.tms.1]
  ·rw [getElem?_toList] at h2;obtain ⟨h3,h4⟩:=hI.tms.2 t v' h2;have htl:t < (st 0).1.length:=by rw [<-hR.tm_length _ (le_refl _)]; exact (List.getElem?_eq_some_iff.1 h1).1
   by_cases hw: ∃ (i:Nat)(o:Oper),ops[i]?=some o/\o.dst=some t
   ·obtain ⟨i,o,ho,hd⟩:=hw;have hi:i < ops.size:=(Array.getElem?_eq_some_iff.1 ho).1;rw [hR.tm_new hO htl ho hd _ (le_refl _) hi] at h1;obtain rfl:=oI h1;exact h3 i o ((hL.mem i).2 hi) ho hd
   ·rw [hR.tm_old t _ (le_refl _) fun i o _ ho hd=>hw ⟨i,o,ho,hd⟩] at h1;exact h4 (fun i o _ ho hd=>hw ⟨i,o,ho,hd⟩) v h1
 | j::suf,pre,β,w,a,c,R,he,hI=>by
  have hpre: ∀ i∈pre,i < ops.size:=fun i hi=>(hL.mem i).1 (by rw [he]; exact mem_append_left _ hi);have hj:j < ops.size:=(hL.mem j).1 (by rw [he]; simp);have hnj:j ∉ pre:=fun hm=>by
   have hnd:=hL.nodup;rw [he] at hnd;exact absurd rfl ((nodup_append.1 hnd).2.2 j hm j mem_cons_self)
  have hbf: ∀ i,bf j i=true->i∈pre:=hO.topo L hL pre j suf he;have hfb: ∀ i∈pre,bf i j=false:=fun i hi=>by
   cases hb:bf i j with
   | false=>rfl
   | true=>
    obtain ⟨p1,p2,rfl⟩:=List.append_of_mem hi;exact absurd (mem_append_left _ (hO.topo L hL p1 i (p2++j::suf) (by rw [he]; simp) j hb)) hnj
  have ho:=getElem?_eq_getElem hj;generalize ops[j]=o at ho;have hone:=hR.one j o ho;have hg:Gl gl β:=hg₀.mono hI.step.le;have hsee:=hI.tms.sees hO hR hL he hg ho;have hρ:=G1 hsee;have hrec:=zF hN hcf hO hR hpd hL (r:=r) (n:=n) hg₀ hk suf (pre++[j]);have he':L=(pre++[j])++suf:=by rw [he]; simp
  simp only [wpOpsIn,ho]
  cases hen:en j with
  | skip=>
   rw [hen] at hone; simp only [One] at hone;rw [hI.tms.wanted hO hR hL he ho hone.1];simp only [false_eq_true,if_false];refine ⟨fun _ _=>trivial,?_⟩;exact hrec β w _ c R he' (hI.calm hO ho (by rw [hen]; rfl) (by rw [hen]; intro B v h; cases h) (by rw [hen]; exact .undef β))
  | pure v=>
   rw [hen] at hone; simp only [One] at hone;obtain ⟨hw,hop,_⟩:=hone;rw [hI.tms.wanted hO hR hL he ho hw];simp only [if_true];rw [xb rg] at hop;obtain ⟨v',h1,h2⟩:=j8 hρ hop w;refine pU ?_ h1 (hrec β w _ c R he' (hI.calm hO ho (by rw [hen]; rfl) (by rw [hen]; intro B v h; cases h) (by rw [hen]; exact h2)));intro cc hc; simp [bm,hc] at hop
  | read v=>
   rw [hen] at hone; simp only [One] at hone;obtain ⟨hw,_,_⟩:=hone;rw [hI.tms.wanted hO hR hL he ho hw];simp only [if_true];have hop:=hR.reads j o v ho hen c hI.le
    (fun e h1 h2=>hfb e ((hI.effs e (by have:=hI.le; omega) h2).2 h1))
    (fun e h1 h2 h3=>by
     cases hb:bf j e with
     | false=>rfl
     | true=>have:=(hI.effs e h2 h3).1 (hbf e hb); omega)
   rw [xd rg] at hop;obtain ⟨v',h1,h2⟩:=jN hρ (hI.sub hpre) hop;refine pU ?_ h1 (hrec β w _ c R he' (hI.calm hO ho (by rw [hen]; rfl) (by rw [hen]; intro B v h; cases h) (by rw [hen]; exact h2)));intro cc hc; simp [aU,hc] at hop
  | alloc B v=>
   rw [hen] at hone; simp only [One] at hone;obtain ⟨hw,⟨f,hop,rfl⟩,_⟩:=hone;rw [hI.tms.wanted hO hR hL he ho hw];simp only [if_true];rw [tW rg] at hop;obtain ⟨v',w',h1,h2⟩:=jb hρ (w:=w) hop;have hfree:=hI.free j hj hnj ⟨B,_,hen⟩;have hroom:=hI.room;obtain ⟨β',h3,h4,h5,h6⟩:=h2.at_key hI.step hfree (by omega) (by rw [cG]; omega);refine pU (by intro cc hc; simp [aM,hc] at hop) h1 (hrec β' w' _ c ((j,B)::R) he' ⟨hI.le,?_,?_,h3,hI.room,hI.nokey,?_,?_,(bO a o.dst v').trans hI.dfs⟩)
   ·intro e h7 h8;rw [mem_append,hI.effs e h7 h8];refine ⟨fun hh=> ?_,.inl⟩;rcases hh with hh | hh
    ·exact hh
    ·simp only [mem_singleton] at hh;subst hh;rw [hen] at h8; cases h8
   ·intro i B';rw [mem_cons,hI.mem,mem_append];constructor
    ·rintro (hh | ⟨h7,h8⟩)
     ·simp only [Prod.mk.injEq] at hh;obtain ⟨rfl,rfl⟩:=hh;refine ⟨.inr mem_cons_self,⟨_,hen⟩,fun e h7 h8=>hfb e ((hI.effs e (by have:=hI.le; omega) h8).2 h7)⟩
     ·exact ⟨.inl h7,h8⟩
    ·rintro ⟨h7 | h7,h8⟩
     ·exact .inr ⟨h7,h8⟩
     ·simp only [mem_singleton] at h7;subst h7;obtain ⟨v2,h9⟩:=h8.1;rw [hen] at h9
      cases h9
      exact .inl rfl
   ·intro i h7 h8 h9;rw [h6 _ fun hh=>h8 (by rw [show i=j by omega]; simp)];exact hI.free i h7 (fun hh=>h8 (mem_append_left _ hh)) h9
   ·exact (hI.tms.mono h5).put hO ho (by rw [hen]; exact h4)
  | eff v h'=>
   rw [hen] at hone; simp only [One] at hone;have hheap:(st (j+1)).2.1=h':=by rw [hone.2.2]
   obtain ⟨hw,⟨u,hop,hu⟩,_⟩:=hone;rw [hI.tms.wanted hO hR hL he ho hw];simp only [if_true];have hcj:c<=j:=by
    rcases lt_or_ge j c with h1 | h1
    ·exact absurd ((hI.effs j hj (by rw [hen]; rfl)).2 h1) hnj
    ·exact h1
   have hnoeff: ∀ e,c<=e->e < j->(en e).isEff=false:=fun e h1 h2=>by
    cases hef:(en e).isEff with
    | false=>rfl
    | true=>
     have:=(hI.effs e (by omega) hef).1 (hbf e (hR.chain e j h2 hj hef (by rw [hen]; rfl)));omega
   have hsame:(st j).2.1=(st c).2.1:=by
    have:=hR.same_heap (c:=c) (j - c) (by omega) fun e h1 h2=>hnoeff e h1 (by omega);rwa [show c+(j - c)=j by omega] at this
   rw [hsame] at hop hu;have hF: ∀ i B,(i,B)∈(st j).2.2.filter (fun p=>bf j p.1)↔Pend bf en c i B/\bf j i=true:=fun i B=>by
    rw [mem_filter,hR.pend hO hpd j (by omega)];constructor
    ·rintro ⟨⟨h1,h2,h3⟩,h4⟩;exact ⟨⟨h2,fun e h5=>h3 e (by omega)⟩,h4⟩
    ·rintro ⟨⟨h2,h3⟩,h4⟩;refine ⟨⟨hO.lt _ _ h4,h2,fun e h5 h6=> ?_⟩,h4⟩;rcases lt_or_ge e c with h7 | h7
     ·exact h3 e h7 h6
     ·rw [hnoeff e h7 h5] at h6; cases h6
   generalize (st j).2.2.filter (fun p=>bf j p.1)=F at hF hop hu;have hGp:=iw (h:=(st c).2.1) (base:=h.next) F (fun i B B' h1 h2=>((hF i B).1 h1).1.fun_ ((hF i B').1 h2).1)
    (fun i B h1=>hI.none_ (by have:=hO.lt _ _ ((hF i B).1 h1).2; omega) ((hF i B).1 h1).1)
   have hgetV:=hI.get hpre;have hsub:Sim β (ax (st c).2.1 h.next F) w:=hI.step.sim.sub (by rw [cG,cG]) fun k B hkk=>by
    rw [hgetV];rcases (hGp k B).1 hkk with h1 | ⟨i,h1,h2⟩
    ·exact .inl h1
    ·exact .inr ⟨i,h1,(hI.mem i B).2 ⟨hbf i ((hF i B).1 h2).2,((hF i B).1 h2).1⟩⟩
   rw [zu rg] at hop;refine FX hN hcf hsub hg hρ hop _ _ fun v' w' β' hst hv=> ?_;rw [<-hu,<-hheap] at hst;have hroom:=hI.room;have hnextF:(ax (st c).2.1 h.next F).next=(st c).2.1.next:=cG F;have hRmem: ∀ i B,(i,B)∈R.filter (fun p=> !bf j p.1)↔i∈pre/\Pend bf en c i B/\bf j i=false:=fun i B=>by
    rw [mem_filter,hI.mem]; simp [and_assoc]
   have hRnone: ∀ i B,(i,B)∈R.filter (fun p=> !bf j p.1)->(ax (st c).2.1 h.next F).get (h.next+i)=none:=fun i B hm=>by
    obtain ⟨h1,h2,h3⟩:=(hRmem i B).1 hm
    cases hgk:(ax (st c).2.1 h.next F).get (h.next+i) with
    | none=>rfl
    | some B'=>
     rcases (hGp _ _).1 hgk with h4 | ⟨i',h4,h5⟩
     ·rw [hI.none_ (hpre i h1) h2] at h4; cases h4
     ·obtain rfl:i=i':=by omega
      rw [((hF _ _).1 h5).2] at h3; cases h3
   have hback: ∀ k B,(st (j+1)).2.1.get k=some B->k < (st c).2.1.next-> ∃ B₀,(ax (st c).2.1 h.next F).get k=some B₀:=fun k B h1 h2=>hst.keys k B h1 (by rw [hnextF]; exact h2);have hGn:=iw (h:=(st (j+1)).2.1) (base:=h.next) (R.filter fun p=> !bf j p.1) (fun i B B' h1 h2=>((hRmem i B).1 h1).2.1.fun_ ((hRmem i B').1 h2).2.1)
    (fun i B hm=>by
     cases hgk:(st (j+1)).2.1.get (h.next+i) with
     | none=>rfl
     | some B'=>
      obtain ⟨B₀,h4⟩:=hback _ _ hgk (by have:=hpre i ((hRmem i B).1 hm).1; omega);rw [hRnone i B hm] at h4; cases h4)
   have hframe:=hst.frame (V:=ax (st c).2.1 h.next R) (V':=ax (st (j+1)).2.1 h.next (R.filter fun p=> !bf j p.1)) hI.step.sim (by rw [cG,hnextF]) (cG _)
    (fun k B=> ∃ i,k=h.next+i/\(i,B)∈R.filter fun p=> !bf j p.1)
    (fun k B ⟨i,h1,h2⟩=>by
     subst h1;exact ⟨by rw [hnextF]; have:=hpre i ((hRmem i B).1 h2).1; omega,hRnone i B h2⟩)
    (fun k B=>by
     rw [hgetV,hGp];constructor
     ·rintro (h1 | ⟨i,h1,h2⟩)
      ·exact .inl (.inl h1)
      ·obtain ⟨h3,h4⟩:=(hI.mem i B).1 h2
       cases hb:bf j i with
       | true=>exact .inl (.inr ⟨i,h1,(hF i B).2 ⟨h4,hb⟩⟩)
       | false=>exact .inr ⟨i,h1,(hRmem i B).2 ⟨h3,h4,hb⟩⟩
     ·rintro ((h1 | ⟨i,h1,h2⟩) | ⟨i,h1,h2⟩)
      ·exact .inl h1
      ·exact .inr ⟨i,h1,(hI.mem i B).2 ⟨hbf i ((hF i B).1 h2).2,((hF i B).1 h2).1⟩⟩
      ·exact .inr ⟨i,h1,(mem_filter.1 h2).1⟩)
    hGn
   have hnext:=hst.next;rw [hnextF] at hnext;refine hrec β' w' _ (j+1) _ he' ⟨by omega,?_,?_,hI.step.trans hframe,by omega,?_,?_,(hI.tms.mono hst.le).put hO ho (by rw [hen]; exact hv),(bO a o.dst v').trans hI.dfs⟩
   ·intro e h1 h2;rw [mem_append,hI.effs e h1 h2,mem_singleton];constructor
    ·rintro (h3 | h3) <;> omega
    ·intro h3;rcases lt_or_ge e c with h4 | h4
     ·exact .inl h4
     ·rcases lt_or_ge e j with h5 | h5
      ·rw [hnoeff e h4 h5] at h2; cases h2
      ·exact .inr (by omega)
   ·intro i B;rw [hRmem,mem_append];constructor
    ·rintro ⟨h1,⟨h2,h3⟩,h4⟩;refine ⟨.inl h1,h2,fun e h5 h6=> ?_⟩;rcases lt_or_ge e c with h7 | h7
     ·exact h3 e h7 h6
     ·rcases lt_or_ge e j with h8 | h8
      ·rw [hnoeff e h7 h8] at h6; cases h6
      ·obtain rfl:e=j:=by omega
       exact h4
    ·rintro ⟨h1,⟨v2,h2⟩,h3⟩;rcases h1 with h1 | h1
     ·exact ⟨h1,⟨⟨v2,h2⟩,fun e h4=>h3 e (by omega)⟩,h3 j (by omega) (by rw [hen]; rfl)⟩
     ·simp only [mem_singleton] at h1;subst h1;rw [hen] at h2; cases h2
   ·intro i B h1 h2;obtain ⟨B₀,h3⟩:=hback _ _ h2 (by omega);rcases (hGp _ _).1 h3 with h4 | ⟨i',h4,h5⟩
    ·obtain ⟨e,h6,h7,h8⟩:=hI.nokey i B₀ h1 h4;exact ⟨e,by omega,h7,h8⟩
    ·obtain rfl:i=i':=by omega
     exact ⟨j,by omega,by rw [hen]; rfl,((hF _ _).1 h5).2⟩
   ·intro i h1 h2 h3;have hold:=hI.free i h1 (fun hh=>h2 (mem_append_left _ hh)) h3
    cases hb:β' (h.next+i) with
    | none=>rfl
    | some sl=>
     rcases hst.fresh _ sl hb with h4 | ⟨h4,_⟩
     ·rw [hold] at h4; cases h4
     ·rw [hnextF] at h4; omega
end
end
section
variable {P:Program} {gl:Nat->Bool}
theorem oY: ∀ {x y:List (Value×Value)},pL x y=true->x=y
 | [],[],_=>rfl
 | [],_::_,h=>by simp [pL] at h
 | _::_,[],h=>by simp [pL] at h
 | (a,b)::x,(c,d)::y,h=>by
  simp only [pL,and_eq_true] at h;rw [im _ _ _ h.1.1,im _ _ _ h.1.2,oY h.2]
theorem zC {B C:Blk}(h:Ix B C=true):B=C:=by
 unfold Ix at h;split at h
 ·simp only [and_eq_true,Nat.beq_eq,beq_iff_eq] at h;obtain ⟨⟨⟨h1,rfl⟩,rfl⟩,rfl⟩:=h;rw [mu (im 4) h1]
 ·rw [oY h]
 ·cases h
theorem sY {h h':Heap}{k:Nat}(e:I2 h h' k=true):h.get k=h'.get k:=by
 unfold I2 at e;split at e
 ·next h1 h2=>rw [h1,h2,zC e]
 ·next h1 h2=>rw [h1,h2]
 ·cases e
def Off (h₀:Heap)(s:Aj):Prop:=s.2.1.next=h₀.next/\ ∀ k,k ∉ s.2.2->s.2.1.get k=h₀.get k
theorem Off.lay {h₀:Heap}{s:Aj}(h:Off h₀ s)(dst:Option Tmp)(v:Value)(u:Option (Nat×Blk)):Off h₀ (zf s dst v u):=by
 cases u with
 | none=>exact h
 | some p=>
  obtain ⟨k,b⟩:=p;refine ⟨h.1,fun j hj=> ?_⟩;simp only [zf,mem_cons,not_or] at hj;show (s.2.1.set k b).get j=_;rw [Heap.get_set,if_neg hj.1];exact h.2 j hj.2
theorem vC {ops:Array Oper}{base j:Nat}{h₀:Heap}{s s':Aj}(h:Off h₀ s)(hs:zb P gl ops base j s=some s'):Off h₀ s':=by
 unfold zb at hs;split at hs
 ·split at hs
  ·split at hs
   ·obtain rfl:=oI hs; exact h.lay _ _ _
   ·cases hs
  ·obtain rfl:=oI hs; exact h.lay _ _ _
  ·cases hs
 ·cases hs
theorem vB {ops:Array Oper}{base:Nat}{h₀:Heap}: ∀ (n j:Nat){s s':Aj},Off h₀ s->yX P gl ops base n j s=some s'->Off h₀ s'
 | 0,_,_,_,h,hs=>by simp only [yX] at hs; obtain rfl:=oI hs; exact h
 | n+1,j,s,s',h,hs=>by
  simp only [yX] at hs;split at hs
  ·next s1 h1=>exact vB n (j+1) (vC h h1) hs
  ·cases hs
theorem xH {h₀:Heap}{s s':Aj}(h:Off h₀ s)(h':Off h₀ s')(e:Gq s s'=true):s.1=s'.1/\Same s.2.1 s'.2.1:=by
 unfold Gq at e;simp only [and_eq_true] at e;obtain ⟨⟨e1,e2⟩,e3⟩:=e;refine ⟨mu (im 4) e1,h.1.trans h'.1.symm,fun k=> ?_⟩;by_cases k1:k∈s.2.2
 ·exact sY (all_eq_true.1 e2 k k1)
 ·by_cases k2:k∈s'.2.2
  ·exact sY (all_eq_true.1 e3 k k2)
  ·rw [h.2 k k1,h'.2 k k2]
theorem Topo.length {ops:Array Oper}{L:List Nat}(h:Topo ops L):L.length=ops.size:=by
 have:=((List.perm_ext_iff_of_nodup h.nodup List.nodup_range).2 fun i=>by rw [h.mem,mem_range]).length_eq;simpa using this
theorem JK:CfOk P gl d9:=⟨(by intro f args h v h' _ hr; cases hr),(by intro k args h v h' hr; cases hr)⟩
theorem Ey (hN:cM P){ops:Array Oper}(hO:Ordd ops (cj (e7 ops))){L:List Nat}(hL:Topo ops L){r:Option Nat}{n:Nat}{Q:Exit->Act->World->Prop}{base:Nat}{fin:Aj}{h₀ hb:Heap}{β₀:Inj}{w₀:World}{a₀:Act}(hg₀:Gl gl β₀)
  (hbase:hb.next=base+ops.size) (h0n:h₀.next<=base) (hfin:Off hb fin)
  (hk: ∀ a' w' β',Step β₀ h₀ w₀ β' fin.2.1 w'->LRel β' fin.1 a'.tmps.toList->a'.defers=a₀.defers->Q .normal a' w'):
  ∀ (suf pre:List Nat)(β:Inj)(w:World)(a:Act)(s:Aj),L=pre++suf->HS P gl ops (cj (e7 ops)) base fin suf.length pre.reverse s=true->Off hb s->Step β₀ h₀ w₀ β s.2.1 w->
   (∀ i,i < ops.size->i ∉ pre->β (base+i)=none)->LRel β s.1 a.tmps.toList->a.defers=a₀.defers->wpOpsIn (eJ r) n P ops Q suf a w
 | [],pre,β,w,a,s,he,hA,hoff,hst,hfree,ht,hd=>by
  obtain ⟨e1,e2⟩:=xH hfin hoff hA;refine hk a w β (hst.same (Same.refl _) e2.symm) (by rw [e1]; exact ht) hd
 | j::suf,pre,β,w,a,s,he,hA,hoff,hst,hfree,ht,hd=>by
  have hj:j < ops.size:=(hL.mem j).1 (by rw [he]; simp);have hnj:j ∉ pre:=fun hm=>by
   have hnd:=hL.nodup;rw [he] at hnd;exact absurd rfl ((nodup_append.1 hnd).2.2 j hm j mem_cons_self)
  have hbf: ∀ i,cj (e7 ops) j i=true->i∈pre:=hO.topo L hL pre j suf he;simp only [length_cons,HS] at hA;have h1:=all_eq_true.1 hA j (mem_range.2 hj);simp only [or_eq_true] at h1;rcases h1 with (h1 | h1) | h1
  ·exact absurd (by simpa using h1) hnj
  ·obtain ⟨i,hi,hh⟩:=List.any_eq_true.1 h1;simp only [and_eq_true,not_eq_true'] at hh;have h2:i ∉ pre:=by simpa using hh.2
   exact absurd (hbf i hh.1) h2
  ·split at h1
   ·next s' hs'=>
    have hoff':=vC hoff hs';have ho:=getElem?_eq_getElem hj;generalize ops[j]=o at ho;unfold zb at hs';rw [ho] at hs';dsimp only at hs';have he':L=(pre++[j])++suf:=by rw [he]; simp
    have hrev:(pre++[j]).reverse=j::pre.reverse:=by simp
    have hfree': ∀ i,i < ops.size->i ∉ pre++[j]->β (base+i)=none:=fun i h1 h2=>hfree i h1 fun hh=>h2 (mem_append_left _ hh);have hg:Gl gl β:=hg₀.mono hst.le;simp only [wpOpsIn,ho];split at hs'
    ·next hw=>
     rw [fz ht hw];simp only [if_true];split at hs'
     ·next v u hop=>
      obtain rfl:=oI hs';have hρ:=pS (β:=β) hg ht;unfold Na at hop;split at hop
      ·next v0 hp=>
       simp only [Option.some.injEq,Prod.mk.injEq] at hop;obtain ⟨rfl,rfl⟩:=hop;obtain ⟨v',g1,g2⟩:=j8 hρ hp w;refine pU (by intro cc hc; simp [bm,hc] at hp) g1 (Ey hN hO hL hg₀ hbase h0n hfin hk suf (pre++[j]) β w _ _ he' (by rw [hrev]; exact h1) hoff' hst hfree' (fp ht o.dst g2) ((bO a o.dst v').trans hd))
      ·split at hop
       ·next v0 hp=>
        simp only [Option.some.injEq,Prod.mk.injEq] at hop;obtain ⟨rfl,rfl⟩:=hop;obtain ⟨v',g1,g2⟩:=jN hρ hst.sim hp;refine pU (by intro cc hc; simp [aU,hc] at hp) g1 (Ey hN hO hL hg₀ hbase h0n hfin hk suf (pre++[j]) β w _ _ he' (by rw [hrev]; exact h1) hoff' hst hfree' (fp ht o.dst g2) ((bO a o.dst v').trans hd))
       ·split at hop
        ·next B f hp=>
         simp only [Option.some.injEq,Prod.mk.injEq] at hop;obtain ⟨rfl,rfl⟩:=hop;obtain ⟨v',w',g1,g2⟩:=jb hρ (w:=w) hp;obtain ⟨β',g3,g4,g5,g6⟩:=g2.at_key hst (hfree j hj hnj) (by omega) (by rw [hoff.1,hbase]; omega);refine pU (by intro cc hc; simp [aM,hc] at hp) g1 (Ey hN hO hL hg₀ hbase h0n hfin hk suf (pre++[j]) β' w' _ _ he' (by rw [hrev]; exact h1) hoff' g3 ?_ (fp (ht.mono g5) o.dst g4) ((bO a o.dst v').trans hd));intro i h2 h3;rw [g6 _ fun hh=>h3 (by rw [show i=j by omega]; simp)];exact hfree' i h2 h3
        ·have key: ∀ {u':Upd}{v:Value},cV P d9 (ev gl s.1) o s.2.1=some (v,u')->u'.app s.2.1=(zf s o.dst v u).2.1->(zf s o.dst v u).1=ei s.1 o.dst v->HS P gl ops (cj (e7 ops)) base fin suf.length (j::pre.reverse) (zf s o.dst v u)=true->Off hb (zf s o.dst v u)->
           o.wpIn (eJ r) n P a w (fun a' w'=>wpOpsIn (eJ r) n P ops Q suf a' w') Q:=by
          intro u' v hop hu hput h1 hoff';refine FX hN JK hst.sim hg hρ hop _ _ fun v' w' β' hst' hv=> ?_;rw [hu] at hst';refine Ey hN hO hL hg₀ hbase h0n hfin hk suf (pre++[j]) β' w' _ _ he' (by rw [hrev]; exact h1) hoff' (hst.trans hst') (fun i h2 h3=> ?_) (by rw [hput]; exact fp (ht.mono hst'.le) o.dst hv) ((bO a o.dst v').trans hd);have hold:=hfree' i h2 h3
          cases hb':β' (base+i) with
          | none=>rfl
          | some sl=>
           rcases hst'.fresh _ sl hb' with h4 | ⟨h4,_⟩
           ·rw [hold] at h4; cases h4
           ·rw [hoff.1,hbase] at h4; omega
         split at hop
         ·next v0 hp=>
          simp only [Option.some.injEq,Prod.mk.injEq] at hop;obtain ⟨rfl,rfl⟩:=hop;exact key hp rfl rfl h1 hoff'
         ·next v0 k0 b0 hp=>
          simp only [Option.some.injEq,Prod.mk.injEq] at hop;obtain ⟨rfl,rfl⟩:=hop;exact key hp rfl rfl h1 hoff'
         ·cases hop
     ·cases hs'
    ·next hw=>
     obtain rfl:=oI hs';rw [fz ht hw];simp only [false_eq_true,if_false];refine ⟨fun _ _=>trivial,?_⟩;exact Ey hN hO hL hg₀ hbase h0n hfin hk suf (pre++[j]) β w _ _ he' (by rw [hrev]; exact h1) hoff' hst hfree' (fp ht o.dst (.undef β)) ((bO a o.dst undef).trans hd)
    ·cases hs'
   ·cases h1
end
section
variable {P:Program} {gl:Nat->Bool}
theorem Step.room {β:Inj}{h:Heap}{w:World}(hs:Sim β h w)(m:Nat):Step β h w β { h with next:=h.next+m } w:=
 ⟨β.le_refl,le_add_right _ _,⟨fun k sl hk=>⟨lt_of_lt_of_le (hs.lt k sl hk).1 (le_add_right _ _),(hs.lt k sl hk).2⟩,hs.blk,hs.own,fun k B hk=>lt_of_lt_of_le (hs.wf k B hk) (le_add_right _ _)⟩,le_refl _,rfl,.refl _,rfl,
  fun _ _ _=>rfl,fun _ _ h=>h,fun _ _ h=> .inl h,fun _ B h _=>⟨B,h⟩⟩
theorem Iv (hN:cM P){cf:bL}(hcf:CfOk P gl cf){id:Nat}{ops:Array Oper}(hO:Ordd ops (cj (e7 ops)))(hB:Back ops)(hC:Region.departs ops=true->(Region.linearise .gc ops 0).length=ops.size):
  fQ P gl cf (.region id ops true):=by
 intro id' ops' heq β tm tm' a h h' w r n Q hr hs hg ht hk
 cases heq
 refine wpIn_region_draw fun t=> ?_;have hst0:Step β h w β { h with next:=h.next+ops.size } { w with drawn:=w.drawn+1 }:=
  (Step.of_heap hs rfl rfl ⟨rfl,le_succ _⟩ rfl:Step β h w β h { w with drawn:=w.drawn+1 }).trans (Step.room (w:={ w with drawn:=w.drawn+1 }) (hs.of_heap rfl) ops.size)
 unfold yH at hr;split at hr
 ·unfold KI at hr;split at hr
  ·next fin hfin=>
   split at hr
   ·next hall=>
    simp only [Option.some.injEq,Prod.mk.injEq] at hr;obtain ⟨rfl,rfl⟩:=hr;have hL:=mP hB hC (P.follows .mixedOrders) t;have hoff:Off { h with next:=h.next+ops.size } (tm,{ h with next:=h.next+ops.size },[]):=⟨rfl,fun _ _=>rfl⟩
    have hlen:(Region.schedule (P.follows .mixedOrders) ops t).length=ops.size:=hL.length;exact Ey hN hO hL (base:=h.next) (fin:=fin) (a₀:=a) hg rfl (le_refl _) (vB _ _ hoff hfin) hk _ [] β _ a _ rfl (by rw [hlen]; exact hall) hoff hst0 (fun i hi _=>hs.none_of_ge (by omega)) ht rfl
   ·cases hr
  ·cases hr
 have hst0:True:=trivial;obtain ⟨st,en,hR,h0,h1,h2⟩:=y8 hO hr;have hL:=mP hB hC (P.follows .mixedOrders) t;have hst0:Step β h w β { h with next:=h.next+ops.size } { w with drawn:=w.drawn+1 }:=
  (Step.of_heap hs rfl rfl ⟨rfl,le_succ _⟩ rfl:Step β h w β h { w with drawn:=w.drawn+1 }).trans (Step.room (w:={ w with drawn:=w.drawn+1 }) (hs.of_heap rfl) ops.size)
 refine zF (β₀:=β) (h:=h) (w₀:=w) (a₀:=a) hN hcf hO hR (by rw [h0]) hL hg ?_ _ [] β _ a 0 [] rfl ⟨Nat.zero_le _,?_,?_,?_,?_,?_,?_,?_,rfl⟩
 ·intro a' w' β' h3 h4 h5;exact hk a' w' β' (by rw [h2]; exact h3) (by rw [<-h1]; exact h4) h5
 ·intro e _ _; simp
 ·intro i B; simp
 ·rw [h0]; exact hst0
 ·rw [h0]; exact le_refl _
 ·intro i B hi hb;rw [h0] at hb;have:h.get (h.next+i)=some B:=hb;have:=hs.wf _ _ this;omega
 ·intro i hi _ _;exact hs.none_of_ge (by omega)
 ·rw [h0];refine ⟨by rw [ht.1,length_toList],fun t v' hv=>⟨fun i o hi=>by simp at hi,fun _ v h3=> ?_⟩⟩;exact ht.2 t v v' h3 (by rw [getElem?_toList]; exact hv)
theorem zv (g:Nat->Nat)(i:Nat): ∀ (es:List Edge)(s:Nat),(es.foldl (fun s e=>if Region.binds .any e then s ||| 2 ^ e.on ||| g e.on else s) s).testBit i=true↔
  s.testBit i=true\/ ∃ e∈es,Region.binds .any e=true/\(e.on=i\/(g e.on).testBit i=true)
 | [],s=>by simp
 | e::es,s=>by
  rw [foldl_cons,zv g i es]
  cases hb:Region.binds .any e with
  | false=>
   simp only [false_eq_true,if_false];constructor
   ·rintro (h | ⟨e',h1,h2⟩)
    ·exact .inl h
    ·exact .inr ⟨e',mem_cons_of_mem _ h1,h2⟩
   ·rintro (h | ⟨e',h1,h2,h3⟩)
    ·exact .inl h
    ·rcases mem_cons.1 h1 with rfl | h1
     ·rw [hb] at h2; cases h2
     ·exact .inr ⟨e',h1,h2,h3⟩
  | true=>
   simp only [if_true,Nat.testBit_or,or_eq_true,Nat.testBit_two_pow,decide_eq_true_eq];constructor
   ·rintro (((h | h) | h) | ⟨e',h1,h2⟩)
    ·exact .inl h
    ·exact .inr ⟨e,mem_cons_self,hb,.inl h⟩
    ·exact .inr ⟨e,mem_cons_self,hb,.inr h⟩
    ·exact .inr ⟨e',mem_cons_of_mem _ h1,h2⟩
   ·rintro (h | ⟨e',h1,h2,h3⟩)
    ·exact .inl (.inl (.inl h))
    ·rcases mem_cons.1 h1 with rfl | h1
     ·rcases h3 with h3 | h3
      ·exact .inl (.inl (.inr h3))
      ·exact .inl (.inr h3)
     ·exact .inr ⟨e',h1,h2,h3⟩
def ll (acc:Array Nat)(o:Oper):Nat:=o.after.foldl (fun s e=>if Region.binds .any e then s ||| 2 ^ e.on ||| acc.getD e.on 0 else s) 0
theorem uB: ∀ (l:List Oper)(acc:Array Nat),(l.foldl (fun acc o=>acc.push (ll acc o)) acc).size=acc.size+l.length/\
  (∀ i,i < acc.size->(l.foldl (fun acc o=>acc.push (ll acc o)) acc)[i]?=acc[i]?)/\
  ∀ i o,l[i]?=some o-> ∃ acc',(l.foldl (fun acc o=>acc.push (ll acc o)) acc)[acc.size+i]?=some (ll acc' o)/\ ∀ k,k < acc.size+i->acc'[k]?=(l.foldl (fun acc o=>acc.push (ll acc o)) acc)[k]?
 | [],acc=>⟨by simp,fun _ _=>rfl,fun i o h=>by simp at h⟩
 | o::l,acc=>by
  obtain ⟨h1,h2,h3⟩:=uB l (acc.push (ll acc o));simp only [Array.size_push] at h1 h2 h3;refine ⟨by rw [foldl_cons,h1,length_cons]; omega,fun i hi=> ?_,fun i o' ho=> ?_⟩
  ·rw [foldl_cons,h2 i (by omega),Array.getElem?_push,if_neg (by omega)]
  ·rw [foldl_cons]
   cases i with
   | zero=>
    simp only [getElem?_cons_zero,Option.some.injEq] at ho;subst ho;refine ⟨acc,?_,fun k hk=> ?_⟩
    ·rw [add_zero,h2 _ (by omega),Array.getElem?_push,if_pos rfl]
    ·rw [h2 k (by omega),Array.getElem?_push,if_neg (by omega)]
   | succ i=>
    obtain ⟨acc',h4,h5⟩:=h3 i o' (by simpa using ho);refine ⟨acc',?_,fun k hk=>h5 k (by omega)⟩;rw [show acc.size+(i+1)=acc.size+1+i by omega]; exact h4
theorem DK (ops:Array Oper):Region.before ops=ops.toList.foldl (fun acc o=>acc.push (ll acc o)) #[]:=by
 unfold Region.before;rw [<-Array.foldl_toList]; rfl
theorem IU {ops:Array Oper}(hB:Back ops)(j i:Nat):cj (e7 ops) j i=true↔ ∃ o,ops[j]?=some o/\ ∃ e∈o.after,Region.binds .any e=true/\(e.on=i\/cj (e7 ops) e.on i=true):=by
 have hg: ∀ k,(e7 ops).getD k 0=(Region.before ops).getD k 0:=fun k=>by simp [e7,List.getD,Array.getD_eq_getD_getElem?]
 obtain ⟨h1,_,h3⟩:=uB ops.toList #[];rw [<-DK] at h1 h3;simp only [List.size_toArray,length_nil,zero_add,getElem?_toList,length_toList] at h1 h3
 cases ho:ops[j]? with
 | none=>
  simp only [cj,hg];have hn: ¬ j < ops.size:=fun hj=>by rw [getElem?_eq_getElem hj] at ho; cases ho
  rw [Array.getD_eq_getD_getElem?,Array.getElem?_eq_none (by omega)];simp
 | some o=>
  obtain ⟨acc',h4,h5⟩:=h3 j o ho;simp only [cj,hg];rw [Array.getD_eq_getD_getElem?,h4,Option.getD_some,ll,<-Array.foldl_toList,zv (fun k=>acc'.getD k 0)];simp only [Nat.zero_testBit,false_eq_true,false_or,Option.some.injEq,exists_eq_left',Array.mem_toList_iff];constructor
  ·rintro ⟨e,he,hb,hh⟩;refine ⟨e,he,hb,hh.imp id fun hh=> ?_⟩;have hlt:e.on < j:=by
    rcases hB j o ho e he with h | ⟨h,_⟩
    ·exact h
    ·rw [h] at hb; cases hb
   rw [Array.getD_eq_getD_getElem?,h5 _ hlt,<-Array.getD_eq_getD_getElem?] at hh;exact hh
  ·rintro ⟨e,he,hb,hh⟩;refine ⟨e,he,hb,hh.imp id fun hh=> ?_⟩;have hlt:e.on < j:=by
    rcases hB j o ho e he with h | ⟨h,_⟩
    ·exact h
    ·rw [h] at hb; cases hb
   rw [Array.getD_eq_getD_getElem?,h5 _ hlt,<-Array.getD_eq_getD_getElem?];exact hh
theorem Back.lt {ops:Array Oper}(hB:Back ops){j:Nat}{o:Oper}(ho:ops[j]?=some o){e:Edge}(he:e∈o.after)(hb:Region.binds .any e=true):e.on < j:=by
 rcases hB j o ho e he with h | ⟨h,_⟩
 ·exact h
 ·rw [h] at hb; cases hb
theorem ol: ∀ (l:List Oper)(j:Nat),xc l j=true-> ∀ i o,l[i]?=some o-> ∀ e∈o.after,e.on < j+i\/Region.binds .any e=false/\Region.binds .text e=false
 | [],_,_,i,o,ho,_,_=>by simp at ho
 | o'::l,j,h,i,o,ho,e,he=>by
  simp only [xc,and_eq_true] at h
  cases i with
  | zero=>
   simp only [getElem?_cons_zero,Option.some.injEq] at ho;subst ho;have:=all_eq_true.1 h.1 e (by simpa using he);simpa using this
  | succ i=>
   have:=ol l (j+1) h.2 i o (by simpa using ho) e he;rw [show j+(i+1)=j+1+i by omega]; exact this
theorem kX {bs:List Nat}{j:Nat}{t:Tmp}: ∀ (l:List Oper)(k:Nat),lA bs j t l k=true-> ∀ i o,l[i]?=some o->o.dst=some t->k+i=j\/cj bs j (k+i)=true\/cj bs (k+i) j=true
 | [],_,_,i,o,ho,_=>by simp at ho
 | o'::l,k,h,i,o,ho,hd=>by
  simp only [lA,and_eq_true] at h
  cases i with
  | zero=>
   simp only [getElem?_cons_zero,Option.some.injEq] at ho;subst ho;have h1:=h.1;rw [hd] at h1;simpa [or_assoc] using h1
  | succ i=>
   have:=kX l (k+1) h.2 i o (by simpa using ho) hd;rw [show k+(i+1)=k+1+i by omega]; exact this
theorem jB {bs:List Nat}{all:List Oper}: ∀ (l:List Oper)(k:Nat),ws bs all l k=true-> ∀ i o,l[i]?=some o->
  (∀ t,Operand.tmp t∈o.op.operands->lA bs (k+i) t all 0=true)/\ ∀ g b,o.guard=some (g,b)->cj bs (k+i) g=true
 | [],_,_,i,o,ho=>by simp at ho
 | o'::l,k,h,i,o,ho=>by
  simp only [ws,and_eq_true] at h
  cases i with
  | zero=>
   simp only [getElem?_cons_zero,Option.some.injEq] at ho;subst ho;refine ⟨fun t ht=> ?_,fun g b hg=> ?_⟩
   ·exact all_eq_true.1 h.1.1 (.tmp t) (by simpa using ht)
   ·have h1:=h.1.2;rw [hg] at h1;exact h1
  | succ i=>
   have:=jB l (k+1) h.2 i o (by simpa using ho);rw [show k+(i+1)=k+1+i by omega]; exact this
theorem kh: ∀ (l:List Oper)(m:Nat),pQ l m=true->(∀ (i:Nat)(o:Oper)(t:Tmp),l[i]?=some o->o.dst=some t->m.testBit t=false)/\
  ∀ (i j:Nat)(o o':Oper)(t:Tmp),l[i]?=some o->l[j]?=some o'->o.dst=some t->o'.dst=some t->i=j
 | [],_,_=>⟨fun i o t h=>by simp at h,fun i j o o' t h=>by simp at h⟩
 | x::l,m,h=>by
  cases hd:x.dst with
  | none=>
   simp only [pQ,hd] at h;obtain ⟨h1,h2⟩:=kh l m h;refine ⟨fun i o t ho ht=> ?_,fun i j o o' t ho ho' ht ht'=> ?_⟩
   ·cases i with
    | zero=>
     simp only [getElem?_cons_zero,Option.some.injEq] at ho;subst ho; rw [hd] at ht; cases ht
    | succ i=>exact h1 i o t (by simpa using ho) ht
   ·cases i with
    | zero=>
     simp only [getElem?_cons_zero,Option.some.injEq] at ho;subst ho; rw [hd] at ht; cases ht
    | succ i=>
     cases j with
     | zero=>
      simp only [getElem?_cons_zero,Option.some.injEq] at ho';subst ho'; rw [hd] at ht'; cases ht'
     | succ j=>rw [h2 i j o o' t (by simpa using ho) (by simpa using ho') ht ht']
  | some d=>
   simp only [pQ,hd,and_eq_true,not_eq_true'] at h;obtain ⟨h1,h2⟩:=kh l _ h.2;have h1': ∀ (i:Nat)(o:Oper)(t:Tmp),l[i]?=some o->o.dst=some t->m.testBit t=false/\d≠t:=fun i o t ho ht=>by
    have:=h1 i o t ho ht;simp only [Nat.testBit_or,Bool.or_eq_false_iff,Nat.testBit_two_pow,decide_eq_false_iff_not] at this;exact this
   refine ⟨fun i o t ho ht=> ?_,fun i j o o' t ho ho' ht ht'=> ?_⟩
   ·cases i with
    | zero=>
     simp only [getElem?_cons_zero,Option.some.injEq] at ho;subst ho; rw [hd] at ht;obtain rfl:=oI ht;exact h.1
    | succ i=>exact (h1' i o t (by simpa using ho) ht).1
   ·cases i with
    | zero=>
     simp only [getElem?_cons_zero,Option.some.injEq] at ho;subst ho; rw [hd] at ht;obtain rfl:=oI ht
     cases j with
     | zero=>rfl
     | succ j=>exact absurd rfl (h1' j o' _ (by simpa using ho') ht').2
    | succ i=>
     cases j with
     | zero=>
      simp only [getElem?_cons_zero,Option.some.injEq] at ho';subst ho'; rw [hd] at ht';obtain rfl:=oI ht';exact absurd rfl (h1' i o _ (by simpa using ho) ht).2
     | succ j=>rw [h2 i j o o' t (by simpa using ho) (by simpa using ho') ht ht']
theorem wZ {ops:Array Oper}(h:Cl ops=true):Ordd ops (cj (e7 ops))/\Back ops/\(Region.departs ops=true->(Region.linearise .gc ops 0).length=ops.size):=by
 simp only [Cl,and_eq_true] at h;obtain ⟨⟨⟨h1,h2⟩,h3⟩,h4⟩:=h;have hB:Back ops:=fun i o ho e he=>by
  have:=ol ops.toList 0 h1 i o (by simpa using ho) e he;rwa [zero_add] at this
 have hbi:=IU hB;have hlt: ∀ j i,cj (e7 ops) j i=true->i < j:=by
  intro j
  induction j using Nat.strongRecOn with
  | _ j ih=>
   intro i hb;obtain ⟨o,ho,e,he,hbe,hh⟩:=(hbi j i).1 hb;have:=hB.lt ho he hbe;rcases hh with hh | hh
   ·omega
   ·have:=ih _ this i hh; omega
 refine ⟨⟨hlt,?_,?_,?_,?_,?_⟩,hB,?_⟩
 ·intro k
  induction k using Nat.strongRecOn with
  | _ k ih=>
   intro j i h5 h6;obtain ⟨o,ho,e,he,hbe,hh⟩:=(hbi k j).1 h5;refine (hbi k i).2 ⟨o,ho,e,he,hbe,.inr ?_⟩;rcases hh with rfl | hh
   ·exact h6
   ·exact ih _ (hB.lt ho he hbe) j i hh h6
 ·intro L hL pre j
  induction j using Nat.strongRecOn generalizing pre with
  | _ j ih=>
   intro suf heq i hb;obtain ⟨o,ho,e,he,hbe,hh⟩:=(hbi j i).1 hb;have hm:=hL.deps pre j suf heq o ho e he hbe;rcases hh with rfl | hh
   ·exact hm
   ·obtain ⟨p1,p2,rfl⟩:=List.append_of_mem hm;exact mem_append_left _ (ih _ (hB.lt ho he hbe) p1 (p2++j::suf) (by rw [heq]; simp) i hh)
 ·intro j o t ho ht i o' ho' hd;have h5:=(jB ops.toList 0 h4 j o (by simpa using ho)).1 t ht;rw [zero_add] at h5;have:=kX ops.toList 0 h5 i o' (by simpa using ho') hd;rwa [zero_add] at this
 ·intro j o i b ho hg;have h5:=(jB ops.toList 0 h4 j o (by simpa using ho)).2 i b hg;rwa [zero_add] at h5
 ·intro i j o o' t ho ho' ht ht';exact (kh ops.toList 0 h2).2 i j o o' t (by simpa using ho) (by simpa using ho') ht ht'
 ·intro hd;simp only [hd,Bool.not_true,Bool.false_or,beq_iff_eq] at h3;exact h3
theorem kH (hN:cM P){cf:bL}(hcf:CfOk P gl cf): ∀ {d c:Code},Part d c->bc c=true->fQ P gl cf d:=by
 have key: ∀ c,bc c=true->fQ P gl cf c:=by
  intro c h id ops heq;subst heq;obtain ⟨h1,h2,h3⟩:=wZ h;exact Iv hN hcf h1 h2 h3 id ops rfl
 intro d c hp
 induction hp with
 | refl=>exact key _
 | seqL _ ih=>intro h; simp only [bc,and_eq_true] at h; exact ih h.1
 | seqR _ ih=>intro h; simp only [bc,and_eq_true] at h; exact ih h.2
 | condT _ ih=>intro h; simp only [bc,and_eq_true] at h; exact ih h.1
 | condF _ ih=>intro h; simp only [bc,and_eq_true] at h; exact ih h.2
 | block _ ih=>intro h; simp only [bc] at h; exact ih h
 | loop _ ih=>intro h; simp only [bc] at h; exact ih h
theorem jC (hN:cM P):vi P gl:=fun _ hcf _ _ hp h=>kH hN hcf hp h
def cR (fn:Func):Bool:=match fn.body with | some c=>bc c | none=>true
theorem zB (hN:cM P)(h: ∀ (f:FuncId) (fn:Func),P.funcs[f]?=some fn->cR fn=true):Ac P gl:=fun cf hcf f fn c d hf hb hp=>by
 have:=h f fn hf;simp only [cR,hb] at this;exact kH hN hcf hp this
end
section
theorem sT {P:Program}{cf:bL}{ρ:Operand->Value}{o:Oper}{h:Heap}(hc:aG o=false):cV P d9 ρ o h=cV P cf ρ o h:=by
 obtain ⟨dst,op,ty,pos,after,guard⟩:=o
 cases op <;> try rfl
 rename_i c;obtain ⟨callee,args,ats⟩:=c
 cases callee with
 | value f=>simp [aG] at hc
 | invoke r m=>rfl
 | builtin b=>cases b <;> rfl
theorem Bj {P:Program}{cf:bL}{ρ:Operand->Value}{o:Oper}{h:Heap}(hc:aG o=false):bJ P d9 ρ o h=bJ P cf ρ o h:=by
 unfold bJ;rw [sT hc]
variable {cf:bL} {ρ:Operand->Value} {h:Heap} {K:Value->Heap->Bool} {dst:Option Tmp} {ty:TypeId} {pos:String} {after:Array Edge} {guard:Option (Nat×Bool)}
end
section
variable {β:Inj} {P:Program} {gl:Nat->Bool}
theorem mL {f:FuncId}{fn:Func}{e:Array Value->Sem Value}{p:mA}(hf:P.funcs[f]?=some fn)(hname:(fn.name == "runtime.NumGoroutine")=false) (hb:fn.body.isNone=true) (hn:Extern.findNext fn=none) (he:Extern.find fn=some e)
  (h: ∀ cf args h v h',p cf args h=some (v,h')-> ∀ β w (args':Array Value),Sim β h w->LRel β args args'.toList-> ∃ v' w' β',(e args').run P w = .ok v' w'/\Step β h w β' h' w'/\VRel β' v v'):iS P gl f p:=by
 intro cf _ args hh v h' hp β w args' hs _ ha;obtain ⟨v',w',β',h1,h2,h3⟩:=h cf args hh v h' hp β w args' hs ha;refine ⟨fn,hf,.inr ⟨v',w',β',?_,h2,h3⟩⟩;rw [run_callFunc_extern hf hname hb hn he,h1];rfl
def js:mA:=fun _ args h=>match args with
 | [v]=>some (v,h)
 | _=>none
theorem yR {f:FuncId}{fn:Func}(hf:P.funcs[f]?=some fn)(hname:(fn.name == "runtime.NumGoroutine")=false) (hb:fn.body.isNone=true) (hn:Extern.findNext fn=none) (he:Extern.find fn=some Extern.AbiNoEscape.same):iS P gl f js:=by
 refine mL hf hname hb hn he fun cf args h v h' hp β w args' hs ha=> ?_;unfold js at hp;split at hp
 ·next u=>
  simp only [Option.some.injEq,Prod.mk.injEq] at hp;obtain ⟨rfl,rfl⟩:=hp;obtain ⟨u',r,hr,hv,hn⟩:=ha.inv_cons;obtain rfl:=hn.inv_nil;obtain rfl:args' = #[u']:=by
   have:=congrArg List.toArray hr;simpa using this
  exact ⟨u',w,β,rfl,Step.refl hs,hv⟩
 ·cases hp
noncomputable def lJ (c:Nat):List UInt8->Nat->Int
 | [],_=> -1
 | b::l,i=>if b.toNat=c then i else lJ c l (i+1)
noncomputable def iE:mA:=fun _ args h=>match args with
 | [.string s,.int .u8 c]=>if 0<=c/\c < 256 then some (.int .i64 (lJ c.toNat s.data.toList 0),h) else none
 | _=>none
theorem DJ (s:ByteArray)(c:Nat)(hc:c < 256):lJ c s.data.toList 0=firstIdx s c.toUInt8:=by
 have key: ∀ (l:List UInt8)(i:Nat),s.data.toList.drop i=l->lJ c l i=match (List.range' i l.length).find? fun j=>s[j]! == c.toUInt8 with | some j=>(j:Int) | none=> -1:=by
  intro l
  induction l with
  | nil=>intro i _; rfl
  | cons b l ih=>
   intro i hi;have hlt:i < s.data.toList.length:=by
    rcases lt_or_ge i s.data.toList.length with h | h
    ·exact h
    ·rw [drop_eq_nil_of_le h] at hi; cases hi
   have hb:s[i]! = b:=by
    have h0:s.data.toList[i]?=some b:=by
     have:(s.data.toList.drop i)[0]?=some b:=by rw [hi]; rfl
     rw [getElem?_drop] at this; simpa using this
    have hsz:i < s.size:=by simpa using hlt
    rw [getElem!_pos s i hsz];have:s.data[i]?=some b:=by rw [<-getElem?_toList]; exact h0
    rw [getElem?_eq_getElem (by simpa using hlt)] at this;exact oI this
   have hd:s.data.toList.drop (i+1)=l:=by rw [<-drop_drop,hi]; rfl
   simp only [lJ,length_cons,range'_succ,List.find?_cons,hb];by_cases hbc:b.toNat=c
   ·have:(b == c.toUInt8)=true:=by
     rw [beq_iff_eq,<-UInt8.toNat_inj]; simp [hbc]; omega
    rw [if_pos hbc,this]
   ·have:(b == c.toUInt8)=false:=by
     rw [beq_eq_false_iff_ne]; rintro rfl; apply hbc; simp; omega
    rw [if_neg hbc,this];exact ih (i+1) hd
 rw [key s.data.toList 0 rfl];unfold firstIdx;rw [List.range_eq_range',show s.data.toList.length=s.size by simp];generalize List.find? (fun i=>s[i]! == c.toUInt8) (List.range' 0 s.size)=x
 cases x <;> rfl
theorem vV {f:FuncId}{fn:Func}(hf:P.funcs[f]?=some fn)(hname:(fn.name == "runtime.NumGoroutine")=false) (hb:fn.body.isNone=true) (hn:Extern.findNext fn=none) (he:Extern.find fn=some Extern.BytealgIndexByte.indexByte):iS P gl f iE:=by
 refine mL hf hname hb hn he fun cf args h v h' hp β w args' hs ha=> ?_;unfold iE at hp;split at hp
 ·next s c=>
  split at hp
  ·next hc=>
   simp only [Option.some.injEq,Prod.mk.injEq] at hp;obtain ⟨rfl,rfl⟩:=hp;obtain ⟨u',r,hr,hv,hn⟩:=ha.inv_cons;obtain ⟨x',r',rfl,hx,hn'⟩:=hn.inv_cons;obtain rfl:=hn'.inv_nil;obtain rfl:=hv.inv_string;obtain rfl:=hx.inv_int;obtain rfl:args' = #[.string s,.int .u8 c]:=by
    have:=congrArg List.toArray hr;simpa using this
   refine ⟨_,w,β,run_indexByte_string s c w,Step.refl hs,?_⟩;rw [DJ s c.toNat (by omega)];exact .int _ _
  ·cases hp
 ·cases hp
def β0:Inj:=fun _=>none
def wN:Nat->Bool:=fun _=>false
theorem Heap.get_nil (n k:Nat):(⟨n,.nil⟩:Heap).get k=none:=HT.get_nil _
theorem wJ (n:Nat)(w:World):Sim β0 ⟨n,.nil⟩ w:=
 {
  lt:=fun k sl h=>nomatch h
  blk:=fun k B sl h=>by rw [Heap.get_nil] at h; cases h
  own:=fun k k' B B' sl sl' _ h=>by rw [Heap.get_nil] at h; cases h
  wf:=fun k B h=>by rw [Heap.get_nil] at h; cases h }
theorem gl_nil:Gl wN β0:=fun g h=>by cases h
open Go.RowKit in
theorem na {n:Nat}{w w':World}{β':Inj}{h':Heap}(s:Step β0 ⟨n,.nil⟩ w β' h' w'):Below w.heap.size w w':=
 ⟨s.os,s.tape.1,s.output,s.size,fun k hk=>s.kept k hk fun ⟨k,B,sl,h1,_⟩=>by rw [Heap.get_nil] at h1; cases h1⟩
end
end Go.Ab
end
section
namespace Go.Ab
open Go Go.RowKit
section
variable {β:Inj} {P:Program} {gl:Nat->Bool}
theorem nf {h:Heap}{w w':World}(hs:Sim β h w)(hb:Below w.heap.size w w')(hd:w.drawn<=w'.drawn):Step β h w β h w':=
 {
  le:=β.le_refl,next:=le_refl _
  sim:={ lt:=fun k sl hk=>⟨(hs.lt k sl hk).1,lt_of_lt_of_le (hs.lt k sl hk).2 hb.size⟩,blk:=fun k B sl h1 h2=>(hs.blk k B sl h1 h2).of_heap (hb.block _ (hs.lt k sl h2).2),own:=hs.own,wf:=hs.wf }
  size:=hb.size,os:=hb.os,tape:=⟨hb.tape,hd⟩,output:=hb.output
  kept:=fun b h1 _=>hb.block b h1
  back:=fun _ _ h=>h,fresh:=fun _ _ h=> .inl h,keys:=fun _ B h _=>⟨B,h⟩ }
theorem LRel.of_bares {β:Inj}{l:List Value}(h:l.all np=true):LRel β l l:=by
 induction l with
 | nil=>exact .nil β
 | cons v l ih=>
  simp only [all_cons,and_eq_true] at h;exact .cons (.of_bare h.1) (ih h.2)
theorem VRel.bare_eq {β:Inj}{v v':Value}(hv:np v=true)(h:VRel β v v'):v'=v:=by
 cases h <;> first | rfl | (simp [np] at hv)
end
section
variable {β:Inj} {P:Program} {gl:Nat->Bool}
noncomputable def ww (P:Program)(gl:Nat->Bool)(fn:Func)(r0 rest:Code)(d:Tmp):mA:=fun cf args h=>
 match aP P gl cf 40 r0 (args++List.replicate (fn.ntmps - args.length) undef) h with
 | some (.normal,tm,h1)=>if d < tm.length then
   match aP P gl cf 40 rest (tm.set d junk) h1 with
   | some (.ret,tm',h')=>(bG P tm' h' fn.results.toList).map fun vs=>(bV vs,h')
   | _=>none
  else none
 | _=>none
theorem pu {n:Nat}{f:FuncId}{fn:Func}{c:Code}{args:Array Value}{u:FrameMode}{w:World}{Bool:Ending->FrameMode->World->Prop}(hf:P.funcs[f]?=some fn)(hb:fn.body=some c)
  (h: ∀ (c₀:Frame)(cs:List Frame),c₀.mode=u->c.wpS P (bodyPostS P fn c₀ cs Bool) { tmps:=args++Array.replicate (fn.ntmps - args.size) undef,defers:=[] } (c₀::cs) w):CallsDIn Fence.wide n P f args u w Bool:=by
 refine ⟨trivial,fun c₀ cs hu _=> ?_⟩;have hin:Frame.enter P f args .deferred=({ (default:Frame) with fn:=f,kind:= .deferred }:Frame).at { tmps:=args++Array.replicate (fn.ntmps - args.size) undef,defers:=[] } [.code c]:=by
  simp [Frame.enter,Frame.at,hf,hb]
 obtain ⟨e,a',cs',w',hq,harr⟩:=h c₀ cs hu { (default:Frame) with fn:=f,kind:= .deferred } [] rfl rfl;rw [<-hin] at harr;rcases e with _ | _ | _ | _ | chain | _
 ·obtain ⟨hd,u',rfl,v,hr,hR⟩:=hq;exact ⟨.returned v,u',w',_,hR,comesIn_wide.2 (Steps.trans harr (.one step_end)),rfl,rfl,rfl,hd,fn,hf,hr⟩
 ·exact hq.elim
 ·exact hq.elim
 ·obtain ⟨hd,u',rfl,v,hr,hR⟩:=hq;obtain ⟨todo,hs⟩:=harr;exact ⟨.returned v,u',w',_,hR,comesIn_wide.2 hs,rfl,rfl,rfl,hd,fn,hf,hr⟩
 ·obtain ⟨hd,u',rfl,hR⟩:=hq;obtain ⟨todo,hs⟩:=harr;exact ⟨.panicked chain,u',w',_,hR,comesIn_wide.2 hs,rfl,rfl,rfl,hd,fn,hf⟩
 ·obtain ⟨u',hR⟩:=hq;exact ⟨.outgrown,u',w',{ (default:Frame) with fn:=f,kind:= .deferred },hR,comesIn_wide.2 (harr.resolve_left (by simp)),rfl,rfl,trivial⟩
theorem iZ {F:Fence}{n:Nat}{fn:Func}{β₀ β':Inj}{h₀ h':Heap}{w₀:World}{tmps:Array Value}{Bool:Ending->World->Prop}{tl:List Deferred}:
  ∀ (ms:List Nat)(w':World),ms.Nodup->(∀ b∈ms,w₀.heap.size<=b/\w'.heap[b]?=some (.deferred (some [])))->Step β₀ h₀ w₀ β' h' w'->
   (∀ w'',Step β₀ h₀ w₀ β' h' w''->(∀ b,b ∉ ms->w''.heap[b]?=w'.heap[b]?)->LeavesInM F n P fn tmps Bool tl .returning w'')->LeavesInM F n P fn tmps Bool (ms.map we++tl) .returning w'
 | [],w',_,_,st,hk=>hk w' st fun _ _=>rfl
 | b::ms,w',hn,hb,st,hk=>by
  obtain ⟨h1,h2⟩:=hb b (by simp);obtain ⟨hn1,hn2⟩:=List.nodup_cons.1 hn;refine ⟨by simp,.inl ⟨b,_,rfl,run_takeDeferred h2,?_⟩⟩;refine iZ ms _ hn2 (fun b' hm=> ?_) (vo st h1 h2) fun w'' st' hsame=>hk w'' st' fun b' hb'=> ?_
  ·obtain ⟨h3,h4⟩:=hb b' (by simp [hm]);exact ⟨h3,by rw [World.putObj_heap_other (by rintro rfl; exact hn1 hm)]; exact h4⟩
  ·simp only [mem_cons,not_or] at hb';rw [hsame b' hb'.2,World.putObj_heap_other hb'.1]
theorem GF (hN:cM P){fW fC:FuncId}{fn fnC:Func}{r0 rest:Code}{i1:Nat}{mk df:Oper}{d:Tmp}{cap:Array Operand}
  (hf:P.funcs[fW]?=some fn) (hb:fn.body=some (.seq r0 (.seq (.region i1 #[mk,df] false) rest)))
  (hmk:mk.op = .makeFunc (.func fC) #[] cap) (hmd:mk.dst=some d) (hmg:mk.guard=none) (hdf:df.op = .defer { callee:= .value (.tmp d),args:= #[],argTypes:= #[] }) (hdg:df.guard=none) (hdd:df.dst=none)
  (hfC:P.funcs[fC]?=some fnC) (hbC:fnC.body.isSome=true)
  (hidle: ∀ (args:Array Value)(w:World),args.size=cap.size->CallsDIn Fence.wide 0 P fC args .returning w fun e u' w'=>(∃ v,e = .returned v)/\u' = .returning/\Below w.heap.size w w'/\w.drawn<=w'.drawn)
  (hd0:bc r0=true) (hd1:bc rest=true):iS P gl fW (ww P gl fn r0 rest d):=by
 intro cf hcf args h v h' hp β w args' hs hg ha;refine ⟨fn,hf,.inl ⟨by simp [hb],?_⟩⟩;unfold ww at hp;split at hp
 ·next tm h1 hr0=>
  split at hp
  ·next hlt=>
   split at hp
   ·next tm2 h2 hrest=>
    obtain ⟨vs,hres,he⟩:=map_eq_some_iff.1 hp;simp only [Prod.mk.injEq] at he;obtain ⟨rfl,rfl⟩:=he;refine (callsIn_wide (n:=0)).1 (callsIn_of_wp_marks (F:=Fence.wide) hf hb trivial ?_);have hrep: ∀ k,LRel β (List.replicate k undef) (List.replicate k undef):=fun k=>⟨rfl,fun i v v' h1 h2=>by
     rw [getElem?_replicate] at h1 h2;split at h1
     ·next hi=>rw [if_pos hi] at h2; obtain rfl:=oI h1; obtain rfl:=oI h2; exact .undef β
     ·cases h1⟩
    have ht:LRel β (args++List.replicate (fn.ntmps - args.length) undef) (args'++Array.replicate (fn.ntmps - args'.size) undef).toList:=by
     have:args'.size=args.length:=by rw [ha.1]; simp
     rw [this];simp only [Array.toList_append,Array.toList_replicate];exact ha.append (hrep _)
    refine wpIn_seq ?_;refine pm (r:=none) hN hcf r0 (.inl rfl) (eT (jC hN _ hcf) hd0) _ hr0 hs hg ht fun a1 w1 β1 hst1 ht1 hm1=> ?_;refine wpIn_seq (wpIn_region ?_);have hsz:d < a1.tmps.size:=by have:=ht1.1; rw [<-length_toList,<-this]; exact hlt
    have hev:(a1.put (some d) (.func (.func fC) #[] (cap.map a1.eval))).eval (.tmp d) = .func (.func fC) #[] (cap.map a1.eval):=by
     simp [Act.put,Act.eval,hsz]
    have hw1:Region.wanted mk (yielded #[mk,df] a1.tmps)=true:=by simp [Region.wanted,hmg]
    have hw2: ∀ t,Region.wanted df (yielded #[mk,df] t)=true:=fun t=>by simp [Region.wanted,hdg]
    show wpOpsIn (eJ none) 0 P #[mk,df] _ [0,1] a1 w1;simp only [wpOpsIn,List.getElem?_toArray,getElem?_cons_zero,List.getElem?_cons_succ,hw1,if_true];refine ⟨fun _ _=>trivial,?_⟩;rw [Oper.semAt_eq _ _ _ (fun c hc=>by rw [hmk] at hc; cases hc)];have hrun1:(execOp a1.eval mk).run P w1 = .ok (.value (.func (.func fC) #[] (cap.map a1.eval))) w1:=by
     unfold execOp;simp [hmk,Instr.makeFunc]
    rw [hrun1];rw [Oper.uponIn_value];rw [hmd,if_pos (hw2 _)];refine ⟨fun _ _=>trivial,?_⟩;have hrun2:(df.semAt (eJ none).round (a1.put (some d) (.func (.func fC) #[] (cap.map a1.eval))).eval).run P w1 = .ok (.defer { target:= .fn (.func fC) (cap.map a1.eval),args:= #[] }) w1:=by
     show (execOp (a1.put (some d) (.func (.func fC) #[] (cap.map a1.eval))).eval df).run P w1=_;unfold execOp;simp only [hdf,resolve,hev,Deferred.ofValue,Sem.run_bind,Sem.run_pure,Result.andThen_ok];simp
    rw [hrun2];show Code.wpIn (eJ none) 0 P rest _ ({ (a1.put (some d) (.func (.func fC) #[] (cap.map a1.eval))) with defers:={ target:= .fn (.func fC) (cap.map a1.eval),args:= #[] }::(a1.put (some d) (.func (.func fC) #[] (cap.map a1.eval))).defers }.put df.dst undef) w1;rw [hdd];have ht1':LRel β1 (tm.set d junk) (a1.put (some d) (.func (.func fC) #[] (cap.map a1.eval))).tmps.toList:=by
     have:=fp ht1 (some d) (v:=junk) (.junk (.func (.func fC) #[] (cap.map a1.eval)));exact this
    refine pm (r:=none) hN hcf rest (.inl rfl) (eT (jC hN _ hcf) hd1) _ hrest hst1.sim (hg.mono hst1.le) (a:={ (a1.put (some d) (.func (.func fC) #[] (cap.map a1.eval))) with defers:=_ }) ht1' fun a2 w2 β2 hst2 ht2 hm2=> ?_;have hst12:=hst1.trans hst2;obtain ⟨ms1,hd1',hn1,hb1⟩:=hm1;obtain ⟨ms2,hd2',hn2,hb2⟩:=hm2;simp only [append_nil] at hd1';have hdd2:a2.defers=ms2.map we++({ target:= .fn (.func fC) (cap.map a1.eval),args:= #[] }::ms1.map we):=by
     rw [hd2'];show _++(_::(a1.put (some d) _).defers)=_;rw [bO,hd1']
    show LeavesInM Fence.wide 0 P fn a2.tmps (jo β h w (bV vs) h2) a2.defers .returning w2;rw [hdd2];refine iZ ms2 w2 hn2 (fun b hm=>⟨le_trans hst1.size (hb2 b hm).1,(hb2 b hm).2.2.1⟩) hst12 fun w3 hst3 hsame=> ?_;refine ⟨by simp,.inr ⟨fun hd=>by simp [Fence.wide] at hd,.func fC,cap.map a1.eval,fC,#[]++cap.map a1.eval,rfl,cK hN hfC hbC _ _,fun _ _=>trivial,?_⟩⟩;refine (hidle (#[]++cap.map a1.eval) w3 (by simp)).mono ?_;rintro e u' w4 ⟨⟨v,rfl⟩,rfl,hbelow,hdr⟩;show LeavesInM Fence.wide 0 P fn a2.tmps (jo β h w (bV vs) h2) (ms1.map we) .returning w4;refine ki (P:=P) hres ht2 ms1 w4 hn1 (fun b hm=>⟨(hb1 b hm).1,?_⟩) (hst3.trans (nf hst3.sim hbelow hdr));obtain ⟨h4,h5,h6,h7⟩:=hb1 b hm;have hlt2:b < w2.heap.size:=lt_of_lt_of_le h5 hst2.size;have hnot:b ∉ ms2:=fun hmem=>by have:=(hb2 b hmem).1; omega
    have h8:w2.heap[b]?=some (.deferred (some [])):=(hst2.kept b h5 h7).trans h6;have h9:w3.heap[b]?=some (.deferred (some [])):=(hsame b hnot).trans h8;rw [hbelow.block b ?_,h9];exact (Array.getElem?_eq_some_iff.1 h9).1
   ·cases hp
  ·cases hp
 ·cases hp
end
section
variable {P:Program} {gl:Nat->Bool}
noncomputable def Hd {α:Type}(b:Bool)(x y:Option α):Option α:=Bool.rec (motive:=fun _=>Option α) y x b
theorem yk:j9 P gl (fun _=>none):=fun _ _ h=>by cases h
theorem hH {f:FuncId}{p:mA}{pr:FuncId->Option mA}(h:iS P gl f p)(hr:j9 P gl pr):j9 P gl (fun g=>Hd (Nat.beq g f) (some p) (pr g)):=fun g q hq=>by
 dsimp only at hq
 cases hx:Nat.beq g f with
 | false=>rw [hx] at hq; exact hr g q hq
 | true=>
  rw [hx] at hq;obtain rfl:=oI hq;obtain rfl:g=f:=by simpa [Nat.beq_eq] using hx
  exact h
structure TextOk (P:Program):Prop where
 names:cM P
 draws: ∀ (f:FuncId)(fn:Func),P.funcs[f]?=some fn->cR fn=true
theorem TextOk.runP (h:TextOk P){pr:FuncId->Option mA}(hp:j9 P gl pr)(n:Nat):CfOk P gl (aT P gl pr n):=Dc h.names hp (zB h.names h.draws) (jC h.names) n
end
end Go.Ab
end
section
namespace Go.Ab
open Go
section
structure Sx where
 P:Program
 gl:Nat->Bool
 pr:FuncId->Option mA
abbrev Fr:=Nat->Value
def OD (E:Fr)(d:Nat)(v:Value):Fr:=fun t=>if t=d then v else E t
def mC (E:Fr)(dst:Option Tmp)(v:Value):Fr:=match dst with
 | some d=>OD E d v
 | none=>E
def ct (gl:Nat->Bool)(E:Fr):Operand->Value
 | .tmp t=>E t
 | .const v=>if plain v then v else junk
 | .global g=>if gl g then .pointer (some ⟨g,0,none⟩) else junk
 | .func f=> .func (.func f) #[] #[]
def ER (nm:Nat)(E:Fr)(tm:List Value):Prop:=tm.length=nm/\ ∀ t,tm.getD t undef=E t
def px (nm:Nat):Option Tmp->Bool
 | none=>true
 | some d=>decide (d < nm)
theorem ER.ev {nm:Nat}{E:Fr}{tm:List Value}(gl:Nat->Bool)(h:ER nm E tm):ev gl tm=ct gl E:=by
 funext x
 cases x with
 | tmp t=>exact h.2 t
 | const v=>rfl
 | global g=>rfl
 | func f=>rfl
theorem ER.put {nm:Nat}{E:Fr}{tm:List Value}(h:ER nm E tm){dst:Option Tmp}(hd:px nm dst=true)(v:Value):ER nm (mC E dst v) (ei tm dst v):=by
 cases dst with
 | none=>exact h
 | some d=>
  have hd:d < nm:=by simpa [px] using hd
  refine ⟨by simp [ei,h.1],fun t=> ?_⟩;simp only [ei,mC,OD,gD,List.getElem?_set];by_cases ht:t=d
  ·subst ht;rw [if_pos rfl,if_pos rfl,if_pos (by rw [h.1]; exact hd)];rfl
  ·rw [if_neg ht,if_neg (fun e=>ht e.symm),<-gD];exact h.2 t
def FR (S:Sx)(f:FuncId)(args:List Value)(h:Heap)(v:Value)(h':Heap):Prop:= ∃ n0,∀ n,n0<=n->aT S.P S.gl S.pr n f args h=some (v,h')
def FW (S:Sx)(f:FuncId)(args:List Value)(h:Heap)(Q:Value->Heap->Prop):Prop:= ∃ v h',FR S f args h v h'/\Q v h'
theorem FW.mono {S:Sx}{f:FuncId}{args:List Value}{h:Heap}{Q R:Value->Heap->Prop}(hq:FW S f args h Q)(hr: ∀ v h',Q v h'->R v h'):FW S f args h R:=by
 obtain ⟨v,h',h1,h2⟩:=hq;exact ⟨v,h',h1,hr v h' h2⟩
abbrev VH:=Value->Heap->Prop
abbrev FH:=Fr->Heap->Prop
abbrev t8:=Exit->Fr->Heap->Prop
def sJ (ops:Array Oper)(E:Fr)(guard:Option (Nat×Bool)):Option Bool:=match guard with
 | none=>some true
 | some (j,want)=>match (ops[j]?).bind (·.dst) with
  | some d=>match E d with
   | .bool b=>some (b == want)
   | .tuple _=>some false
   | _=>none
  | none=>none
theorem iR {nm:Nat}{E:Fr}{tm:List Value}(h:ER nm E tm)(ops:Array Oper)(o:Oper):dN ops tm o=sJ ops E o.guard:=by
 unfold dN sJ
 cases o.guard with
 | none=>rfl
 | some g=>
  obtain ⟨j,want⟩:=g;dsimp only
  cases (ops[j]?).bind (·.dst) with
  | none=>rfl
  | some d=>dsimp only; rw [h.2 d]; cases E d <;> rfl
def xj (r:Option (Value×Upd))(h:Heap)(K:VH):Prop:=match r with
 | some (v,u)=>K v (u.app h)
 | none=>False
def mE (r:Option Value)(h:Heap)(K:VH):Prop:=match r with
 | some v=>K v h
 | none=>False
def jR (S:Sx)(f:Value)(args:List Value)(h:Heap)(K:VH):Prop:=match f with
 | .func (.func g) first captured=>g < YB/\FW S g (first.toList++args++captured.toList) h K
 | .func (.yield k) first captured=>(first.size=0/\captured.size=0)/\FW S (YB+k) args h K
 | _=>False
def eQ (S:Sx)(E:Fr)(o:Oper)(h:Heap)(K:VH):Prop:=match o.op with
 | .call { callee:= .value f,args,.. }=>jR S (ct S.gl E f) (args.toList.map (ct S.gl E)) h K
 | _=>xj (bJ S.P d9 (ct S.gl E) o h) h K
def KP (r:Option Bool)(A B:Unit->Prop):Prop:=match r with
 | some true=>A ()
 | some false=>B ()
 | none=>False
def IK (S:Sx)(ops:Array Oper):List Oper->Fr->Heap->FH->Prop
 | [],E,h,R=>R E h
 | o::l,E,h,R=>KP (sJ ops E o.guard) (fun _=>eQ S E o h fun v h=>IK S ops l (mC E o.dst v) h R) (fun _=>IK S ops l (mC E o.dst undef) h R)
def Ni (S:Sx)(ops:Array Oper)(dst:Option Tmp)(l:List Oper)(E:Fr)(h:Heap)(R:FH)(_:Unit):Prop:=IK S ops l (mC E dst undef) h R
def OH (S:Sx)(ops:Array Oper)(dst:Option Tmp)(l:List Oper)(E:Fr)(R:FH)(v:Value)(h:Heap):Prop:=IK S ops l (mC E dst v) h R
def NK (S:Sx)(ops:Array Oper)(o:Oper)(l:List Oper)(E:Fr)(h:Heap)(R:FH)(_:Unit):Prop:=eQ S E o h (OH S ops o.dst l E R)
section
variable (S:Sx) (ops:Array Oper) (o:Oper) (l:List Oper) (dst:Option Tmp) (E:Fr) (h:Heap) (R:FH) (v:Value)
theorem HB:IK S ops (o::l) E h R=KP (sJ ops E o.guard) (NK S ops o l E h R) (Ni S ops o.dst l E h R):=rfl
theorem BI (ops:Array Oper)(E:Fr)(j:Nat)(want:Bool):sJ ops E (some (j,want))=match (ops[j]?).bind (·.dst) with
  | some d=>(match E d with | .bool b=>some (b == want) | .tuple _=>some false | _=>none)
  | none=>none:=rfl
end
noncomputable section
variable (S:Sx) (bf:Nat->Nat->Bool)
def uy (o:Oper)(E:Fr)(v:Value)(h:Heap):Bool:=match aU S.P (ct S.gl E) o h with
 | some v'=>eK 4 v v'
 | none=>false
def gU (j:Nat)(o:Oper)(E:Fr)(v:Value):Heap->List (Nat×Heap)->Bool->Bool
 | h,[],own=>own || uy S o E v h
 | h,(e,h')::r,own=>((own && Nat.blt j e) || bf j e || uy S o E v h) && (bf e j || gU j o E v h' r (Nat.blt e j))
abbrev Ak:=Fr×Oper×Ent
def nw (h:Heap)(es:List (Nat×Heap)):List Ak->Nat->Bool
 | [],_=>true
 | (E,o,.read v)::r,j=>gU S bf j o E v h es true && nw h es r (j+1)
 | _::r,j=>nw h es r (j+1)
def iY:List Ak->Nat->List (Nat×Heap)
 | [],_=>[]
 | (_,_,.eff _ h)::r,j=>(j,h)::iY r (j+1)
 | _::r,j=>iY r (j+1)
def lW (h:Heap)(recs:List Ak):Bool:=eI bf (iY recs 0) && nw S bf h (iY recs 0) recs 0
def r6 (E:Fr)(o:Oper)(h:Heap)(K:VH):Prop:=match o.op with
 | .call { callee:= .value f,args,.. }=>jR S (ct S.gl E f) (args.toList.map (ct S.gl E)) h K
 | _=>xj (cV S.P d9 (ct S.gl E) o h) h K
def pp (ops:Array Oper)(base:Nat)(h0:Heap):List Oper->Nat->Fr->Heap->List (Nat×Blk)->List Ak->FH->Prop
 | [],_,E,h,pd,recs,R=>lW S bf h0 recs.reverse=true/\R E (ax h base pd)
 | o::l,j,E,h,pd,recs,R=>KP (sJ ops E o.guard)
   (fun _=>match bm S.P (ct S.gl E) o with
    | some v=>pp ops base h0 l (j+1) (mC E o.dst v) h pd ((E,o,.pure v)::recs) R
    | none=>match aU S.P (ct S.gl E) o h with
     | some v=>pp ops base h0 l (j+1) (mC E o.dst v) h pd ((E,o,.read v)::recs) R
     | none=>match aM S.P (ct S.gl E) o with
      | some (B,f)=>pp ops base h0 l (j+1) (mC E o.dst (f (base+j))) h ((j,B)::pd) ((E,o,.alloc B (f (base+j)))::recs) R
      | none=>r6 S E o (ax h base (pd.filter fun p=>bf j p.1)) fun v h'=>pp ops base h0 l (j+1) (mC E o.dst v) h' (pd.filter fun p=> !bf j p.1) ((E,o,.eff v h')::recs) R)
   (fun _=>pp ops base h0 l (j+1) (mC E o.dst undef) h pd ((E,o,.skip)::recs) R)
def LM (ops:Array Oper)(E:Fr)(h:Heap)(R:FH):Prop:=
 Bh ops=false/\pp S (cj (e7 ops)) ops h.next { h with next:=h.next+ops.size } ops.toList 0 E { h with next:=h.next+ops.size } [] [] R
end
section
variable (S:Sx) (nm:Nat)
def IB (c:Code)(E:Fr)(h:Heap)(x:Exit)(E':Fr)(h':Heap):Prop:=
 ∃ n0,∀ n N,n0<=n->n0<=N-> ∀ tm,ER nm E tm-> ∃ tm',ER nm E' tm'/\aP S.P S.gl (aT S.P S.gl S.pr n) N c tm h=some (x,tm',h')
def MO (c:Code)(E:Fr)(h:Heap)(x:Exit)(E':Fr)(h':Heap):Prop:=
 ∃ n0,∀ n N j,n0<=n->n0<=N->n0<=j-> ∀ tm,ER nm E tm-> ∃ tm',ER nm E' tm'/\z6 (aP S.P S.gl (aT S.P S.gl S.pr n) N c) j tm h=some (x,tm',h')
def vc (c:Code)(E:Fr)(h:Heap)(Q:t8):Prop:= ∃ x E' h',MO S nm c E h x E' h'/\Q x E' h'
def BM (c:Code)(E:Fr)(h:Heap)(Q:t8):Prop:= ∃ x E' h',IB S nm c E h x E' h'/\Q x E' h'
def Oa (v:Value)(A B:Unit->Prop):Prop:=match v with
 | .bool true=>A ()
 | .bool false=>B ()
 | _=>False
def Hb:Code->Fr->Heap->t8->Prop
 | .skip,E,h,Q=>Q .normal E h
 | .region _ ops false,E,h,Q=>IK S ops ops.toList E h fun E h=>Q .normal E h
 | .region _ ops true,E,h,Q=>LM S ops E h fun E h=>Q .normal E h
 | .seq a b,E,h,Q=>Hb a E h fun x E h=>match x with
  | .normal=>Hb b E h Q
  | x=>Q x E h
 | .cond c a b,E,h,Q=>Oa (ct S.gl E c) (fun _=>Hb a E h Q) (fun _=>Hb b E h Q)
 | .block id c,E,h,Q=>Hb c E h fun x E h=>match x with
  | .exit id'=>if id'=id then Q .normal E h else Q (.exit id') E h
  | x=>Q x E h
 | .loop c,E,h,Q=>vc S nm c E h Q
 | .exit id,E,h,Q=>Q (.exit id) E h
 | .ret,E,h,Q=>Q .ret E h
 | .label _,E,h,Q=>Q .normal E h
 | .rangeFunc f ps a b,E,h,Q=>BM S nm (.rangeFunc f ps a b) E h Q
 | _,_,_,_=>False
def Nb (c:Code)(Q:t8)(x:Exit)(E:Fr)(h:Heap):Prop:=match x with
 | .normal=>vc S nm c E h Q
 | x=>Q x E h
def Oz (c:Code)(E:Fr)(h:Heap)(Q:t8)(_:Unit):Prop:=Hb S nm c E h Q
variable (a b c:Code) (o:Operand) (id id':Nat) (ops:Array Oper) (E:Fr) (h:Heap) (Q:t8)
theorem Gn:Hb S nm (.cond o a b) E h Q=Oa (ct S.gl E o) (Oz S nm a E h Q) (Oz S nm b E h Q):=rfl
end
theorem Jg {v:Value}{A B:Unit->Prop}(h:Oa v A B): ∃ b,v = .bool b/\((b=true/\A ())\/(b=false/\B ())):=by
 cases v with
 | bool b=>
  cases b with
  | true=>exact ⟨true,rfl,.inl ⟨rfl,h⟩⟩
  | false=>exact ⟨false,rfl,.inr ⟨rfl,h⟩⟩
 | _=>exact h.elim
theorem xg {r:Option Bool}{A B:Unit->Prop}(h:KP r A B):(r=some true/\A ())\/(r=some false/\B ()):=by
 cases r with
 | none=>exact h.elim
 | some b=>
  cases b with
  | true=>exact .inl ⟨rfl,h⟩
  | false=>exact .inr ⟨rfl,h⟩
section
variable {S:Sx} {nm:Nat}
theorem oW {fv:Value}{args:List Value}{h:Heap}{K:VH}(hw:jR S fv args h K): ∃ v h' n0,(∀ n,n0<=n->pN (aT S.P S.gl S.pr n) fv args h=some (v,.all h'))/\K v h':=by
 unfold jR at hw;split at hw
 ·next g first captured=>
  obtain ⟨hY,v,h',⟨n0,hr⟩,hk⟩:=hw;refine ⟨v,h',n0,fun n hn=> ?_,hk⟩;simp only [pN];rw [if_pos hY,hr n hn];rfl
 ·obtain ⟨hz,v,h',⟨n0,hr⟩,hk⟩:=hw;refine ⟨v,h',n0,fun n hn=> ?_,hk⟩;simp only [pN];rw [if_pos hz,hr n hn];rfl
 ·exact hw.elim
theorem iz {o:Oper}(hc:aG o=true): ∃ f args ts,o.op = .call { callee:= .value f,args:=args,argTypes:=ts }:=by
 obtain ⟨dst,op,ty,pos,after,guard⟩:=o;unfold aG at hc;split at hc
 ·next e=>exact ⟨_,_,_,e⟩
 ·cases hc
theorem yp {E:Fr}{o:Oper}{h:Heap}{K:VH}(hw:r6 S E o h K): ∃ v u n0,(∀ n,n0<=n->cV S.P (aT S.P S.gl S.pr n) (ct S.gl E) o h=some (v,u))/\K v (u.app h):=by
 cases hc:aG o with
 | true=>
  obtain ⟨f,args,ts,e⟩:=iz hc;obtain ⟨dst,op,ty,pos,after,guard⟩:=o;dsimp only at e;subst e;obtain ⟨v,h',n0,h1,h2⟩:=oW hw;exact ⟨v,.all h',n0,h1,h2⟩
 | false=>
  have hw':xj (cV S.P d9 (ct S.gl E) o h) h K:=by
   unfold r6 at hw;split at hw
   ·next e=>unfold aG at hc; rw [e] at hc; cases hc
   ·exact hw
  unfold xj at hw';split at hw'
  ·next v u e=>exact ⟨v,u,0,fun n _=>by rw [<-sT hc]; exact e,hw'⟩
  ·exact hw'.elim
theorem yD {P:Program}{cf:bL}{ρ:Operand->Value}{o:Oper}{h:Heap}(hc:aG o=true):bJ P cf ρ o h=cV P cf ρ o h:=by
 obtain ⟨f,args,ts,e⟩:=iz hc;obtain ⟨dst,op,ty,pos,after,guard⟩:=o;dsimp only at e;subst e;rfl
theorem Cb {E:Fr}{o:Oper}{h:Heap}{K:VH}(hw:eQ S E o h K): ∃ v u n0,(∀ n,n0<=n->bJ S.P (aT S.P S.gl S.pr n) (ct S.gl E) o h=some (v,u))/\K v (u.app h):=by
 cases hc:aG o with
 | true=>
  obtain ⟨f,args,ts,e⟩:=iz hc;obtain ⟨dst,op,ty,pos,after,guard⟩:=o;dsimp only at e;subst e;obtain ⟨v,h',n0,h1,h2⟩:=oW hw;exact ⟨v,.all h',n0,fun n hn=>by rw [yD hc]; exact h1 n hn,h2⟩
 | false=>
  have hw':xj (bJ S.P d9 (ct S.gl E) o h) h K:=by
   unfold eQ at hw;split at hw
   ·next e=>unfold aG at hc; rw [e] at hc; cases hc
   ·exact hw
  unfold xj at hw';split at hw'
  ·next v u e=>exact ⟨v,u,0,fun n _=>by rw [<-Bj hc]; exact e,hw'⟩
  ·exact hw'.elim
theorem pC (ops:Array Oper){R:FH}: ∀ (l:List Oper)(E:Fr)(h:Heap),(l.all fun o=>px nm o.dst)=true->IK S ops l E h R->
  ∃ E' h' n0,(∀ n,n0<=n-> ∀ tm,ER nm E tm-> ∃ tm',ER nm E' tm'/\e8 S.P S.gl (aT S.P S.gl S.pr n) ops l tm h=some (tm',h'))/\R E' h'
 | [],E,h,_,hw=>⟨E,h,0,fun n _ tm ht=>⟨tm,ht,rfl⟩,hw⟩
 | o::l,E,h,hd,hw=>by
  simp only [all_cons,and_eq_true] at hd;rcases xg hw with ⟨hg,hw⟩ | ⟨hg,hw⟩
  ·obtain ⟨v,u,n1,h1,h2⟩:=Cb hw;obtain ⟨E',h',n2,h3,h4⟩:=pC ops l _ _ hd.2 h2;refine ⟨E',h',max n1 n2,fun n hn tm ht=> ?_,h4⟩;obtain ⟨tm',ht',h5⟩:=h3 n (by omega) _ (ht.put hd.1 v);refine ⟨tm',ht',?_⟩;simp only [e8];rw [iR ht,hg,ht.ev,h1 n (by omega)];exact h5
  ·obtain ⟨E',h',n2,h3,h4⟩:=pC ops l _ _ hd.2 hw;refine ⟨E',h',n2,fun n hn tm ht=> ?_,h4⟩;obtain ⟨tm',ht',h5⟩:=h3 n hn _ (ht.put hd.1 undef);refine ⟨tm',ht',?_⟩;simp only [e8];rw [iR ht,hg];exact h5
def tj (nm:Nat):List Oper->List Ak->List (List Value×Ent)->Prop
 | [],[],[]=>True
 | o::os,(E,o',e)::r,(tm,e')::r'=>o'=o/\e'=e/\ER nm E tm/\tj nm os r r'
 | _,_,_=>False
theorem yY: ∀ {l:List Oper}{r:List Ak}{r':List (List Value×Ent)}(j:Nat),tj nm l r r'->dB r' j=iY r j
 | [],[],[],_,_=>rfl
 | o::os,(E,o',e)::r,(tm,e')::r',j,h=>by
  obtain ⟨rfl,rfl,_,h⟩:=h
  cases e' <;> simp only [dB,iY,yY (j+1) h]
 | [],[],_::_,_,h=>h.elim
 | [],_::_,_,_,h=>h.elim
 | _::_,[],_,_,h=>h.elim
 | _::_,_::_,[],_,h=>h.elim
theorem nS {o:Oper}{E:Fr}{tm:List Value}{v:Value}{h:Heap}(ht:ER nm E tm):jA S.P S.gl o tm v h=uy S o E v h:=by
 unfold jA uy;rw [ht.ev]
 cases aU S.P (ct S.gl E) o h <;> rfl
theorem tq {bf:Nat->Nat->Bool}{j:Nat}{o:Oper}{E:Fr}{tm:List Value}{v:Value}(ht:ER nm E tm): ∀ (es:List (Nat×Heap))(h:Heap)(own:Bool),jm S.P S.gl bf j o tm v h es own=gU S bf j o E v h es own
 | [],h,own=>by simp only [jm,gU,nS ht]
 | (e,h')::es,h,own=>by simp only [jm,gU,nS ht,tq ht es]
theorem vF {bf:Nat->Nat->Bool}{h:Heap}{es:List (Nat×Heap)}: ∀ {l:List Oper}{r:List Ak}{r':List (List Value×Ent)}(j:Nat),tj nm l r r'->gX S.P S.gl bf h es l r' j=nw S bf h es r j
 | [],[],[],_,_=>rfl
 | o::os,(E,o',e)::r,(tm,e')::r',j,hr=>by
  obtain ⟨rfl,rfl,ht,hr⟩:=hr
  cases e' <;> simp only [gX,nw,vF (j+1) hr,tq ht]
 | [],[],_::_,_,h=>h.elim
 | [],_::_,_,_,h=>h.elim
 | _::_,[],_,_,h=>h.elim
 | _::_,_::_,[],_,h=>h.elim
theorem tf (bf:Nat->Nat->Bool)(ops:Array Oper)(base:Nat)(h0:Heap){R:FH}: ∀ (l:List Oper)(j:Nat)(E:Fr)(h:Heap)(pd:List (Nat×Blk))(recs:List Ak),(l.all fun o=>px nm o.dst)=true->pp S bf ops base h0 l j E h pd recs R->
  ∃ E' h' pd' r n0,(∀ n,n0<=n-> ∀ tm,ER nm E tm-> ∃ tm' r',ER nm E' tm'/\tj nm l r r'/\cD S.P S.gl (aT S.P S.gl S.pr n) ops bf base l j tm h pd=some (r',tm',h',pd'))/\lW S bf h0 (recs.reverse++r)=true/\R E' (ax h' base pd')
 | [],j,E,h,pd,recs,_,hw=>⟨E,h,pd,[],0,fun n _ tm ht=>⟨tm,[],ht,trivial,rfl⟩,by rw [append_nil]; exact hw.1,hw.2⟩
 | o::l,j,E,h,pd,recs,hd,hw=>by
  simp only [all_cons,and_eq_true] at hd;have fin: ∀ (v:Value)(e:Ent)(h1:Heap)(pd1:List (Nat×Blk))(n1:Nat),pp S bf ops base h0 l (j+1) (mC E o.dst v) h1 pd1 ((E,o,e)::recs) R->
    (∀ n,n1<=n-> ∀ tm,ER nm E tm-> ∀ q,cD S.P S.gl (aT S.P S.gl S.pr n) ops bf base l (j+1) (ei tm o.dst v) h1 pd1=some q->cD S.P S.gl (aT S.P S.gl S.pr n) ops bf base (o::l) j tm h pd=some ((tm,e)::q.1,q.2))->
    ∃ E' h' pd' r n0,(∀ n,n0<=n-> ∀ tm,ER nm E tm-> ∃ tm' r',ER nm E' tm'/\tj nm (o::l) r r'/\cD S.P S.gl (aT S.P S.gl S.pr n) ops bf base (o::l) j tm h pd=some (r',tm',h',pd'))/\lW S bf h0 (recs.reverse++r)=true/\R E' (ax h' base pd'):=by
   intro v e h1 pd1 n1 hw1 hq;obtain ⟨E',h',pd',r,n2,h2,h3,h4⟩:=tf bf ops base h0 l (j+1) _ _ _ _ hd.2 hw1;refine ⟨E',h',pd',(E,o,e)::r,max n1 n2,fun n hn tm ht=> ?_,?_,h4⟩
   ·obtain ⟨tm',r',ht',hr,h5⟩:=h2 n (by omega) _ (ht.put hd.1 v);exact ⟨tm',(tm,e)::r',ht',⟨rfl,rfl,ht,hr⟩,hq n (by omega) tm ht _ h5⟩
   ·simpa using h3
  rcases xg hw with ⟨hg,hw⟩ | ⟨hg,hw⟩
  ·cases hp:bm S.P (ct S.gl E) o with
   | some v=>
    rw [hp] at hw;refine fin v (.pure v) h pd 0 hw fun n _ tm ht q hq=> ?_;simp only [cD];rw [iR ht,hg,ht.ev,hp];dsimp only;rw [hq];rfl
   | none=>
    rw [hp] at hw;dsimp only at hw
    cases hrd:aU S.P (ct S.gl E) o h with
    | some v=>
     rw [hrd] at hw;refine fin v (.read v) h pd 0 hw fun n _ tm ht q hq=> ?_;simp only [cD];rw [iR ht,hg,ht.ev,hp];dsimp only;rw [hrd];dsimp only;rw [hq];rfl
    | none=>
     rw [hrd] at hw;dsimp only at hw
     cases hal:aM S.P (ct S.gl E) o with
     | some Bf=>
      obtain ⟨B,f⟩:=Bf;rw [hal] at hw;refine fin _ (.alloc B (f (base+j))) h ((j,B)::pd) 0 hw fun n _ tm ht q hq=> ?_;simp only [cD];rw [iR ht,hg,ht.ev,hp];dsimp only;rw [hrd];dsimp only;rw [hal];dsimp only;rw [hq];rfl
     | none=>
      rw [hal] at hw;dsimp only at hw;obtain ⟨v,u,n1,h1,h2⟩:=yp hw;refine fin v (.eff v _) _ _ n1 h2 fun n hn tm ht q hq=> ?_;simp only [cD];rw [iR ht,hg,ht.ev,hp];dsimp only;rw [hrd];dsimp only;rw [hal];dsimp only;rw [h1 n hn];dsimp only;rw [hq];rfl
  ·refine fin undef .skip h pd 0 hw fun n _ tm ht q hq=> ?_;simp only [cD];rw [iR ht,hg];dsimp only;rw [hq];rfl
theorem DT {ops:Array Oper}{E:Fr}{h:Heap}{R:FH}(hd:(ops.toList.all fun o=>px nm o.dst)=true)(hw:LM S ops E h R):
  ∃ E' h' n0,(∀ n,n0<=n-> ∀ tm,ER nm E tm-> ∃ tm',ER nm E' tm'/\yH S.P S.gl (aT S.P S.gl S.pr n) ops tm h=some (tm',h'))/\R E' h':=by
 obtain ⟨hany,hw⟩:=hw;obtain ⟨E',h',pd',r,n0,h1,h2,h3⟩:=tf (cj (e7 ops)) ops h.next _ ops.toList 0 E _ [] [] hd hw;refine ⟨E',_,n0,fun n hn tm ht=> ?_,h3⟩;obtain ⟨tm',r',ht',hr,h4⟩:=h1 n hn tm ht;refine ⟨tm',ht',?_⟩;unfold yH;rw [hany,if_neg (by simp)];unfold rk;rw [h4];dsimp only;rw [yY 0 hr,vF 0 hr];have h2:lW S (cj (e7 ops)) { h with next:=h.next+ops.size } r=true:=h2;unfold lW at h2;rw [if_pos h2]
def cY (nm:Nat):Code->Bool
 | .region _ ops _=>ops.toList.all fun o=>px nm o.dst
 | .seq a b=>cY nm a && cY nm b
 | .cond _ a b=>cY nm a && cY nm b
 | .block _ c=>cY nm c
 | .loop c=>cY nm c
 | _=>true
theorem ew: ∀ (c:Code){E:Fr}{h:Heap}{Q:t8},cY nm c=true->Hb S nm c E h Q-> ∃ x E' h',IB S nm c E h x E' h'/\Q x E' h'
 | .skip,E,h,_,_,hw=>⟨.normal,E,h,⟨0,fun _ _ _ _ tm ht=>⟨tm,ht,rfl⟩⟩,hw⟩
 | .exit id,E,h,_,_,hw=>⟨.exit id,E,h,⟨0,fun _ _ _ _ tm ht=>⟨tm,ht,rfl⟩⟩,hw⟩
 | .ret,E,h,_,_,hw=>⟨.ret,E,h,⟨0,fun _ _ _ _ tm ht=>⟨tm,ht,rfl⟩⟩,hw⟩
 | .label _,E,h,_,_,hw=>⟨.normal,E,h,⟨0,fun _ _ _ _ tm ht=>⟨tm,ht,rfl⟩⟩,hw⟩
 | .region _ ops false,E,h,_,hd,hw=>by
  obtain ⟨E',h',n0,h1,h2⟩:=pC ops ops.toList E h hd hw;refine ⟨.normal,E',h',⟨n0,fun n N hn _ tm ht=> ?_⟩,h2⟩;obtain ⟨tm',ht',h3⟩:=h1 n hn tm ht;refine ⟨tm',ht',?_⟩;simp only [aP];rw [h3];rfl
 | .region _ ops true,E,h,_,hd,hw=>by
  obtain ⟨E',h',n0,h1,h2⟩:=DT hd hw;refine ⟨.normal,E',h',⟨n0,fun n N hn _ tm ht=> ?_⟩,h2⟩;obtain ⟨tm',ht',h3⟩:=h1 n hn tm ht;refine ⟨tm',ht',?_⟩;simp only [aP];rw [h3];rfl
 | .seq a b,E,h,Q,hd,hw=>by
  simp only [cY,and_eq_true] at hd;obtain ⟨x,E1,h1,⟨n1,hr1⟩,hq⟩:=ew a hd.1 hw;have els:(∀ n N tm' ,aP S.P S.gl (aT S.P S.gl S.pr n) N a tm' h=some (x,tm',h1)->True)->x≠ .normal->Q x E1 h1-> ∃ x E' h',IB S nm (.seq a b) E h x E' h'/\Q x E' h':=by
   intro _ hx hq;refine ⟨x,E1,h1,⟨n1,fun n N hn hN tm ht=> ?_⟩,hq⟩;obtain ⟨tm',ht',h3⟩:=hr1 n N hn hN tm ht;refine ⟨tm',ht',?_⟩;simp only [aP];rw [h3]
   cases x with
   | normal=>exact absurd rfl hx
   | _=>rfl
  cases x with
  | normal=>
   obtain ⟨x,E2,h2,⟨n2,hr2⟩,hq⟩:=ew b hd.2 hq;refine ⟨x,E2,h2,⟨max n1 n2,fun n N hn hN tm ht=> ?_⟩,hq⟩;obtain ⟨tm',ht',h3⟩:=hr1 n N (by omega) (by omega) tm ht;obtain ⟨tm2,ht2,h4⟩:=hr2 n N (by omega) (by omega) tm' ht';refine ⟨tm2,ht2,?_⟩;simp only [aP];rw [h3];exact h4
  | exit id=>exact els (fun _ _ _ _=>trivial) (by simp) hq
  | goto l=>exact els (fun _ _ _ _=>trivial) (by simp) hq
  | ret=>exact els (fun _ _ _ _=>trivial) (by simp) hq
  | panic _=>exact els (fun _ _ _ _=>trivial) (by simp) hq
  | outgrown=>exact els (fun _ _ _ _=>trivial) (by simp) hq
 | .cond o a b,E,h,Q,hd,hw=>by
  simp only [cY,and_eq_true] at hd;obtain ⟨t,hv,⟨ht,hw⟩ | ⟨ht,hw⟩⟩:=Jg hw
  ·obtain ⟨x,E1,h1,⟨n1,hr1⟩,hq⟩:=ew a hd.1 hw;refine ⟨x,E1,h1,⟨n1,fun n N hn hN tm htm=> ?_⟩,hq⟩;obtain ⟨tm',ht',h3⟩:=hr1 n N hn hN tm htm;refine ⟨tm',ht',?_⟩;simp only [aP];rw [htm.ev,hv,ht];exact h3
  ·obtain ⟨x,E1,h1,⟨n1,hr1⟩,hq⟩:=ew b hd.2 hw;refine ⟨x,E1,h1,⟨n1,fun n N hn hN tm htm=> ?_⟩,hq⟩;obtain ⟨tm',ht',h3⟩:=hr1 n N hn hN tm htm;refine ⟨tm',ht',?_⟩;simp only [aP];rw [htm.ev,hv,ht];exact h3
 | .block id c,E,h,Q,hd,hw=>by
  obtain ⟨x,E1,h1,⟨n1,hr1⟩,hq⟩:=ew c hd hw;by_cases hx:x = .exit id
  ·subst hx;dsimp only at hq;rw [if_pos rfl] at hq;refine ⟨.normal,E1,h1,⟨n1,fun n N hn hN tm htm=> ?_⟩,hq⟩;obtain ⟨tm',ht',h3⟩:=hr1 n N hn hN tm htm;refine ⟨tm',ht',?_⟩;simp only [aP];rw [h3];simp
  ·refine ⟨x,E1,h1,⟨n1,fun n N hn hN tm htm=> ?_⟩,?_⟩
   ·obtain ⟨tm',ht',h3⟩:=hr1 n N hn hN tm htm;refine ⟨tm',ht',?_⟩;simp only [aP];rw [h3]
    cases x with
    | exit id'=>dsimp only; rw [if_neg (fun e=>hx (by rw [e]))]
    | _=>rfl
   ·cases x with
    | exit id'=>dsimp only at hq; rw [if_neg (fun e=>hx (by rw [e]))] at hq; exact hq
    | _=>exact hq
 | .loop c,E,h,Q,hd,hw=>by
  obtain ⟨x,E1,h1,⟨n1,hr1⟩,hq⟩:=hw;refine ⟨x,E1,h1,⟨n1,fun n N hn hN tm htm=> ?_⟩,hq⟩;obtain ⟨tm',ht',h3⟩:=hr1 n N N hn hN hN tm htm;exact ⟨tm',ht',h3⟩
 | .rangeFunc ..,_,_,_,_,hw=>hw
 | .scope _,_,_,_,_,hw=>hw.elim
 | .goto _,_,_,_,_,hw=>hw.elim
 | .refuse _,_,_,_,_,hw=>hw.elim
theorem GA {c:Code}{E:Fr}{h:Heap}{Q:t8}(hd:cY nm c=true)(hw:Hb S nm c E h (Nb S nm c Q)):vc S nm c E h Q:=by
 obtain ⟨x,E1,h1,⟨n1,hr1⟩,hq⟩:=ew c hd hw;have els:x≠ .normal->Q x E1 h1->vc S nm c E h Q:=by
  intro hx hq;refine ⟨x,E1,h1,⟨n1+1,fun n N j hn hN hj tm ht=> ?_⟩,hq⟩;obtain ⟨j',rfl⟩: ∃ j',j=j'+1:=⟨j - 1,by omega⟩
  obtain ⟨tm',ht',h3⟩:=hr1 n N (by omega) (by omega) tm ht;refine ⟨tm',ht',?_⟩;simp only [z6];rw [h3]
  cases x with
  | normal=>exact absurd rfl hx
  | _=>rfl
 cases x with
 | normal=>
  obtain ⟨x,E2,h2,⟨n2,hr2⟩,hq⟩:=hq;refine ⟨x,E2,h2,⟨max n1 n2+1,fun n N j hn hN hj tm ht=> ?_⟩,hq⟩;obtain ⟨j',rfl⟩: ∃ j',j=j'+1:=⟨j - 1,by omega⟩
  obtain ⟨tm',ht',h3⟩:=hr1 n N (by omega) (by omega) tm ht;obtain ⟨tm2,ht2,h4⟩:=hr2 n N j' (by omega) (by omega) (by omega) tm' ht';refine ⟨tm2,ht2,?_⟩;simp only [z6];rw [h3];exact h4
 | exit id=>exact els (by simp) hq
 | goto l=>exact els (by simp) hq
 | ret=>exact els (by simp) hq
 | panic _=>exact els (by simp) hq
 | outgrown=>exact els (by simp) hq
noncomputable def mB (S:Sx)(E:Fr)(h:Heap):List ResultVar->Option (List Value)
 | []=>some []
 | .tmp t::r=>(mB S E h r).map (E t :: ·)
 | .cell a t::r=>match ah S.P t h (E a) with
  | some v=>(mB S E h r).map (v :: ·)
  | none=>none
theorem rr {E:Fr}{h:Heap}{tm:List Value}(ht:ER nm E tm): ∀ l,bG S.P tm h l=mB S E h l
 | []=>rfl
 | .tmp t::r=>by simp only [bG,mB,rr ht r,ht.2 t]
 | .cell a t::r=>by
  simp only [bG,mB,rr ht r,ht.2 a]
  cases ah S.P t h (E a) <;> rfl
def qH (r:Option (List Value))(h:Heap)(Q:VH):Prop:=match r with
 | some vs=>Q (bV vs) h
 | none=>False
def Oj (S:Sx)(rs:List ResultVar)(Q:VH)(x:Exit)(E:Fr)(h:Heap):Prop:=match x with
 | .normal=>qH (mB S E h rs) h Q
 | .ret=>qH (mB S E h rs) h Q
 | _=>False
def KV (args:List Value):Fr:=fun t=>args.getD t undef
theorem Mx {f:FuncId}{fn:Func}{c:Code}{args:List Value}{h:Heap}{Q:VH}(hf:S.P.funcs[f]?=some fn)(hb:fn.body=some c)(hY:f < YB)(hp:S.pr f=none)(hl:args.length<=fn.ntmps)(hd:cY fn.ntmps c=true)
  (hw:Hb S fn.ntmps c (KV args) h (Oj S fn.results.toList Q)):FW S f args h Q:=by
 obtain ⟨x,E',h',⟨n0,hr⟩,hq⟩:=ew c hd hw;have ht:ER fn.ntmps (KV args) (args++List.replicate (fn.ntmps - args.length) undef):=by
  refine ⟨by simp; omega,fun t=> ?_⟩;show _=args.getD t undef;simp only [gD];by_cases h1:t < args.length
  ·rw [List.getElem?_append_left h1]
  ·rw [List.getElem?_append_right (by omega),getElem?_eq_none (l:=args) (by omega),getElem?_replicate];split <;> rfl
 have hres: ∃ vs,mB S E' h' fn.results.toList=some vs/\Q (bV vs) h'/\(x = .normal\/x = .ret):=by
  have key:qH (mB S E' h' fn.results.toList) h' Q-> ∃ vs,mB S E' h' fn.results.toList=some vs/\Q (bV vs) h':=by
   intro hq
   cases hv:mB S E' h' fn.results.toList with
   | none=>rw [hv] at hq; exact hq.elim
   | some vs=>rw [hv] at hq; exact ⟨vs,rfl,hq⟩
  cases x with
  | normal=>obtain ⟨vs,h1,h2⟩:=key hq; exact ⟨vs,h1,h2,.inl rfl⟩
  | ret=>obtain ⟨vs,h1,h2⟩:=key hq; exact ⟨vs,h1,h2,.inr rfl⟩
  | _=>exact hq.elim
 obtain ⟨vs,hv,hq,hx⟩:=hres;refine ⟨bV vs,h',⟨n0+1,fun n hn=> ?_⟩,hq⟩;obtain ⟨n',rfl⟩: ∃ n',n=n'+1:=⟨n - 1,by omega⟩
 obtain ⟨tm',ht',h3⟩:=hr n' n' (by omega) (by omega) _ ht;simp only [aT];rw [if_neg (Nat.not_le.2 hY),hp];dsimp only;rw [hf];dsimp only;rw [hb];dsimp only;rw [h3];rcases hx with rfl | rfl
 ·dsimp only; rw [rr ht',hv]; rfl
 ·dsimp only; rw [rr ht',hv]; rfl
end
end
section
section
variable (S:Sx) (E:Fr) (dst:Option Tmp) (ty:TypeId) (pos:String) (after:Array Edge) (guard:Option (Nat×Bool)) (h:Heap) (K:VH)
theorem dy {o:Oper}(hc:aG o=false):eQ S E o h K=xj (bJ S.P d9 (ct S.gl E) o h) h K:=by
 unfold eQ;split
 ·next e=>unfold aG at hc; rw [e] at hc; cases hc
 ·rfl
theorem HA {P:Program}{ρ:Operand->Value}{o:Oper}(h1: ∀ h,bm P ρ o=none->bJ P d9 ρ o h=none):xj (bJ P d9 ρ o h) h K=mE (bm P ρ o) h K:=by
 cases hp:bm P ρ o with
 | none=>rw [h1 h hp]; rfl
 | some v=>unfold bJ; rw [hp]; rfl
def gC:Op->Bool
 | .move _ | .assign _ | .pick .. | .build .. | .nilCheck _ | .binOp .. | .unOp .. | .makeInterface .. | .makeFunc .. | .fieldAddr .. | .field .. | .indexAddr .. | .index .. | .typeAssert .. | .extract .. =>true
 | .call { callee:= .builtin .max,.. } | .call { callee:= .builtin .min,.. } | .call { callee:= .builtin .cap,.. }=>true
 | _=>false
theorem FA {P:Program}{ρ:Operand->Value}{op:Op}(hp:gC op=true)(h:Heap)(h1:bm P ρ ⟨dst,op,ty,pos,after,guard⟩=none):bJ P d9 ρ ⟨dst,op,ty,pos,after,guard⟩ h=none:=by
 unfold bJ;rw [h1];unfold gC at hp;split at hp <;> first | rfl | cases hp
theorem Bs {op:Op}(hp:gC op=true):aG ⟨dst,op,ty,pos,after,guard⟩=false:=by
 unfold gC at hp;split at hp <;> first | rfl | cases hp
theorem bS {op:Op}(hp:gC op=true):eQ S E ⟨dst,op,ty,pos,after,guard⟩ h K=mE (bm S.P (ct S.gl E) ⟨dst,op,ty,pos,after,guard⟩) h K:=by
 rw [dy S E h K (Bs dst ty pos after guard hp)];exact HA h K fun h h1=>FA dst ty pos after guard hp h h1
def KR (c x y:Value):Option Value:=match c with
 | .bool t=>some (if t then x else y)
 | _=>none
def KQ (v:Value)(i:Nat):Option Value:=match v with
 | .tuple vs=>vs[i]?
 | _=>none
def be (P:Program)(t:TypeId)(x i:Value):Option Value:=match P.underlying t,x,i with
  | some (.array len e),.agg cs,.int _ j=>match al P e with
   | some n=>if 0<=j/\j < (len:Int) then gI P e cs (j.toNat*n) else none
   | none=>none
  | some .string,.string s,.int _ j=>if 0<=j then match s.data.toList[j.toNat]? with | some b=>some (.int .u8 b.toNat) | none=>none else none
  | _,_,_=>none
def ag (P:Program)(t:TypeId)(x i:Value):Option Value:=match P.underlying t,x,i with
  | some (.array len e),.pointer (some a),.int _ j=>match al P e with
   | some n=>if 0<=j/\j < (len:Int) then some (.pointer (some (a.add (j.toNat*n)))) else none
   | none=>none
  | some (.slice e),.slice (some a) len _,.int _ j=>match al P e with
   | some n=>if 0<=j/\j < (len:Int) then some (.pointer (some (a.add (j.toNat*n)))) else none
   | none=>none
  | _,_,_=>none
def af (P:Program)(s:TypeId)(x:Value)(f:Nat):Option Value:=match P.underlying s,x with
  | some (.struct fields),.pointer (some a)=>match fields[f]? with
   | some fd=>if (al P fd.type).any (· ≠0) then some (.pointer (some (a.add fd.offset))) else none
   | none=>none
  | _,_=>none
def FN (P:Program)(t:TypeId)(x:Value)(f:Nat):Option Value:=match P.underlying t,x with
  | some (.struct fields),.agg cs=>match fields[f]? with
   | some fd=>gI P fd.type cs fd.offset
   | none=>none
  | _,_=>none
noncomputable def yu (P:Program)(t:TypeId)(x:Value)(h:Heap):Option Value:=match P.underlying t,x with
   | some .string,.string s=>some (.int .i64 s.data.toList.length)
   | some (.array n _),_=>some (.int .i64 n)
   | some (.slice _),.slice _ n _=>some (.int .i64 n)
   | some (.map ..),.map none=>some (.int .i64 0)
   | some (.map ..),.map (some r)=>match h.get r with
    | some (.map es)=>some (.int .i64 es.length)
    | _=>none
   | _,_=>none
theorem FF (c a b:Operand):eQ S E ⟨dst,.pick c a b,ty,pos,after,guard⟩ h K=mE (KR (ct S.gl E c) (ct S.gl E a) (ct S.gl E b)) h K:=bS S E dst ty pos after guard h K rfl
theorem Av (op:BinOp)(t u:TypeId)(x y:Operand):eQ S E ⟨dst,.binOp op t x y u,ty,pos,after,guard⟩ h K=mE (ak S.P op t (ct S.gl E x) (ct S.gl E y)) h K:=bS S E dst ty pos after guard h K rfl
theorem Dw (op:UnOp)(t:TypeId)(x:Operand):eQ S E ⟨dst,.unOp op t x,ty,pos,after,guard⟩ h K=mE (xk op (ct S.gl E x)) h K:=bS S E dst ty pos after guard h K rfl
theorem wT (x:Operand)(i:Nat):eQ S E ⟨dst,.extract x i,ty,pos,after,guard⟩ h K=mE (KQ (ct S.gl E x) i) h K:=bS S E dst ty pos after guard h K rfl
theorem Ax (t:TypeId)(x i:Operand):eQ S E ⟨dst,.index t x i,ty,pos,after,guard⟩ h K=mE (be S.P t (ct S.gl E x) (ct S.gl E i)) h K:=bS S E dst ty pos after guard h K rfl
theorem ss (t:TypeId)(x i:Operand):eQ S E ⟨dst,.indexAddr t x i,ty,pos,after,guard⟩ h K=mE (ag S.P t (ct S.gl E x) (ct S.gl E i)) h K:=bS S E dst ty pos after guard h K rfl
theorem si (t:TypeId)(x:Operand)(f:Nat):eQ S E ⟨dst,.fieldAddr t x f,ty,pos,after,guard⟩ h K=mE (af S.P t (ct S.gl E x) f) h K:=bS S E dst ty pos after guard h K rfl
theorem AK (t:TypeId)(x:Operand)(f:Nat):eQ S E ⟨dst,.field t x f,ty,pos,after,guard⟩ h K=mE (FN S.P t (ct S.gl E x) f) h K:=bS S E dst ty pos after guard h K rfl
theorem H7 (args:Array Operand)(ts:Array TypeId):eQ S E ⟨dst,.call ⟨.builtin .max,args,ts⟩,ty,pos,after,guard⟩ h K=mE (jl true (args.toList.map (ct S.gl E))) h K:=bS S E dst ty pos after guard h K rfl
theorem FZ (args:Array Operand)(ts:Array TypeId):eQ S E ⟨dst,.call ⟨.builtin .min,args,ts⟩,ty,pos,after,guard⟩ h K=mE (jl false (args.toList.map (ct S.gl E))) h K:=bS S E dst ty pos after guard h K rfl
theorem jv (o:Oper)(h1:aG o=false)(h2:bm S.P (ct S.gl E) o=none)(h3:aM S.P (ct S.gl E) o=none)(h4:cV S.P d9 (ct S.gl E) o h=none):eQ S E o h K=mE (aU S.P (ct S.gl E) o h) h K:=by
 rw [dy S E h K h1];unfold bJ;rw [h2];dsimp only
 cases aU S.P (ct S.gl E) o h with
 | some v=>rfl
 | none=>dsimp only; rw [h3]; dsimp only; rw [h4]; rfl
theorem DH (t:TypeId)(a:Operand):eQ S E ⟨dst,.load t a,ty,pos,after,guard⟩ h K=mE (ah S.P t h (ct S.gl E a)) h K:=jv S E h K _ rfl rfl rfl rfl
theorem BQ (t:TypeId)(x:Operand)(lo hi mx:Option Operand):eQ S E ⟨dst,.slice t x lo hi mx,ty,pos,after,guard⟩ h K=mE (bh S.P t (ct S.gl E x) (lo.map (ct S.gl E)) (hi.map (ct S.gl E)) (mx.map (ct S.gl E)) h) h K:=jv S E h K _ rfl rfl rfl rfl
theorem GH (x:Operand)(t:TypeId):eQ S E ⟨dst,.call ⟨.builtin .len,#[x],#[t]⟩,ty,pos,after,guard⟩ h K=mE (yu S.P t (ct S.gl E x) h) h K:=jv S E h K _ rfl rfl rfl rfl
theorem ls (o:Oper)(h1:aG o=false)(h2:bm S.P (ct S.gl E) o=none)(h3:aU S.P (ct S.gl E) o h=none)(h4:aM S.P (ct S.gl E) o=none):eQ S E o h K=xj (cV S.P d9 (ct S.gl E) o h) h K:=by
 rw [dy S E h K h1];unfold bJ;rw [h2];dsimp only;rw [h3];dsimp only;rw [h4]
theorem Ad (s x:Operand)(t t':TypeId):eQ S E ⟨dst,.call ⟨.builtin .append,#[s,x],#[t,t']⟩,ty,pos,after,guard⟩ h K=xj (aJ S.P t t' (ct S.gl E s) (ct S.gl E x) h) h K:=ls S E h K _ rfl rfl rfl rfl
theorem AV (t:TypeId)(a x:Operand):eQ S E ⟨dst,.store t a x,ty,pos,after,guard⟩ h K=xj (ai S.P t (ct S.gl E a) (ct S.gl E x) h) h K:=ls S E h K _ rfl rfl rfl rfl
def Nq (r:Option (Blk×(Nat->Value)))(h:Heap)(K:VH):Prop:=match r with
 | some (B,f)=>K (f h.next) (h.push B)
 | none=>False
theorem fV (o:Oper)(h1:aG o=false)(h2:bm S.P (ct S.gl E) o=none)(h3:aU S.P (ct S.gl E) o h=none)(h4:cV S.P d9 (ct S.gl E) o h=none):eQ S E o h K=Nq (aM S.P (ct S.gl E) o) h K:=by
 rw [dy S E h K h1];unfold bJ;rw [h2];dsimp only;rw [h3];dsimp only
 cases aM S.P (ct S.gl E) o with
 | some r=>obtain ⟨B,f⟩:=r; rfl
 | none=>dsimp only; rw [h4]; rfl
end
section
variable (P:Program) (t:TypeId) (k:IntKind) (a b:Int)
theorem C3 (hb:b≠0):ak P .quo t (.int k a) (.int k b)=some (.int k (k.wrap (a.tdiv b))):=by simp [ak,hb]
theorem C0 (hb:b≠0):ak P .rem t (.int k a) (.int k b)=some (.int k (a.tmod b)):=by simp [ak,hb]
variable (x y:ByteArray)
end
end
end Go.Ab
end
section
set_option linter.unusedVariables false
namespace Go.Ab
open Go
structure MArc where
 i:Int
 o:Int
 w:List UInt8
 t:Int
structure MSt where
 f:List UInt8
 arcs:List MArc
structure Mach where
 kind:Int
 start:Int
 lead:List UInt8
 states:List MSt
def aO (a:MArc):List Value:=[.int .i64 a.i,.int .i64 a.o,aa a.w,.int .i64 a.t]
def jF (p q:MArc):Bool:=if p.i≠q.i then decide (p.i < q.i) else if p.o≠q.o then decide (p.o < q.o) else if p.w≠q.w then aV p.w q.w else decide (p.t < q.t)
def lz (x y:Int):Int:=if x < y then -1 else if x > y then 1 else 0
def rO (x y:List UInt8):Int:=if aV x y=true then -1 else if (aV x y || x == y)=false then 1 else 0
def FG:List Int->Int
 | []=>0
 | x::l=>if x≠0 then x else FG l
def ur (p q:MArc):Int:=FG [lz p.i q.i,lz p.o q.o,rO p.w q.w,lz p.t q.t]
def q0:MArc:=⟨0,0,[],0⟩
def lG (x:MArc)(out:List MArc):Nat->Nat
 | 0=>0
 | p+1=>if jF x (out.getD p q0)=true then lG x out p else p+1
def ph (out:List MArc)(x:MArc):List MArc:=out.take (lG x out out.length)++[x]++out.drop (lG x out out.length)
def bU (l:List MArc):List MArc:=l.foldl ph []
theorem wB (x:MArc)(out:List MArc): ∀ p,lG x out p<=p
 | 0=>le_refl _
 | p+1=>by
  unfold lG; split
  ·exact Nat.le_succ_of_le (wB x out p)
  ·exact le_refl _
theorem H6 (out:List MArc)(x:MArc):(ph out x).length=out.length+1:=by
 have:=wB x out out.length;unfold ph;rw [length_append,length_append,length_take,List.length_drop,List.length_singleton]; omega
theorem mX: ∀ (l out:List MArc),(l.foldl ph out).length=out.length+l.length
 | [],out=>rfl
 | x::l,out=>by rw [foldl_cons,mX l,H6,length_cons]; omega
theorem jz (l:List MArc):(bU l).length=l.length:=by unfold bU; rw [mX]; simp
theorem Ew (out:List MArc)(x:MArc):(ph out x).Perm (x::out):=by
 unfold ph;have h1:(out.take (lG x out out.length)++[x]++out.drop (lG x out out.length)).Perm (x::(out.take (lG x out out.length)++out.drop (lG x out out.length))):=by
  rw [append_assoc];exact List.perm_middle
 rwa [List.take_append_drop] at h1
theorem kZ: ∀ (l out:List MArc),(l.foldl ph out).Perm (l++out)
 | [],out=>List.Perm.refl _
 | x::l,out=>by
  rw [foldl_cons];refine (kZ l (ph out x)).trans ?_;refine ((Ew out x).append_left l).trans ?_;exact List.perm_middle
theorem ee (l:List MArc):(bU l).Perm l:=by
 have:=kZ l [];rw [append_nil] at this;exact this
theorem L5 {a b:UInt8}(h:a.toNat=b.toNat):a=b:=UInt8.toNat_inj.1 h
theorem jD (a b:UInt8)(x y:List UInt8):aV (a::x) (b::y)=true↔a.toNat < b.toNat\/(a=b/\aV x y=true):=by
 simp [aV,UInt8.lt_iff_toNat_lt]
theorem i9: ∀ x:List UInt8,¬ aV x x=true
 | []=>by simp [aV]
 | a::x=>by
  rw [jD];rintro (h | ⟨_,h⟩)
  ·omega
  ·exact i9 x h
theorem mU: ∀ {x y z:List UInt8},aV x y=true->aV y z=true->aV x z=true
 | [],[],_,h,_=>by simp [aV] at h
 | [],_::_,[],_,h=>by simp [aV] at h
 | [],_::_,_::_,_,_=>by simp [aV]
 | _::_,[],_,h,_=>by simp [aV] at h
 | _::_,_::_,[],_,h=>by simp [aV] at h
 | a::x,b::y,c::z,h1,h2=>by
  rw [jD] at h1 h2 ⊢;rcases h1 with h1 | ⟨rfl,h1⟩
  ·rcases h2 with h2 | ⟨rfl,h2⟩
   ·exact .inl (by omega)
   ·exact .inl h1
  ·rcases h2 with h2 | ⟨rfl,h2⟩
   ·exact .inl h2
   ·exact .inr ⟨rfl,mU h1 h2⟩
theorem lD: ∀ {x y:List UInt8},¬ aV x y=true-> ¬ aV y x=true->x=y
 | [],[],_,_=>rfl
 | [],_::_,h,_=>by simp [aV] at h
 | _::_,[],_,h=>by simp [aV] at h
 | a::x,b::y,h1,h2=>by
  rw [jD] at h1 h2;have e:a=b:=L5 (by
   have h3: ¬ a.toNat < b.toNat:=fun h=>h1 (.inl h);have h4: ¬ b.toNat < a.toNat:=fun h=>h2 (.inl h);omega)
  subst e;rw [lD (fun h=>h1 (.inr ⟨rfl,h⟩)) (fun h=>h2 (.inr ⟨rfl,h⟩))]
theorem iK (p q:MArc):jF p q=true↔p.i < q.i\/(p.i=q.i/\(p.o < q.o\/(p.o=q.o/\(aV p.w q.w=true\/(p.w=q.w/\p.t < q.t))))):=by
 unfold jF;by_cases h1:p.i=q.i
 ·rw [if_neg (fun e=>e h1)];by_cases h2:p.o=q.o
  ·rw [if_neg (fun e=>e h2)];by_cases h3:p.w=q.w
   ·rw [if_neg (fun e=>e h3)];simp [h1,h2,h3,i9]
   ·rw [if_pos h3];simp [h1,h2,h3]
  ·rw [if_pos h2];simp [h1,h2]
 ·rw [if_pos h1];simp [h1]
theorem tH (p:MArc): ¬ jF p p=true:=by
 rw [iK];rintro (h | ⟨_,h | ⟨_,h | ⟨_,h⟩⟩⟩)
 ·omega
 ·omega
 ·exact i9 _ h
 ·omega
theorem nz {p q r:MArc}(h1:jF p q=true)(h2:jF q r=true):jF p r=true:=by
 rw [iK] at h1 h2 ⊢;rcases h1 with h1 | ⟨e1,h1⟩
 ·rcases h2 with h2 | ⟨e2,h2⟩
  ·exact .inl (by omega)
  ·exact .inl (by omega)
 rcases h2 with h2 | ⟨e2,h2⟩
 ·exact .inl (by omega)
 refine .inr ⟨by omega,?_⟩;rcases h1 with h1 | ⟨f1,h1⟩
 ·rcases h2 with h2 | ⟨f2,h2⟩
  ·exact .inl (by omega)
  ·exact .inl (by omega)
 rcases h2 with h2 | ⟨f2,h2⟩
 ·exact .inl (by omega)
 refine .inr ⟨by omega,?_⟩;rcases h1 with h1 | ⟨g1,h1⟩
 ·rcases h2 with h2 | ⟨g2,h2⟩
  ·exact .inl (mU h1 h2)
  ·exact .inl (g2 ▸ h1)
 rcases h2 with h2 | ⟨g2,h2⟩
 ·exact .inl (g1.symm ▸ h2)
 exact .inr ⟨g1.trans g2,by omega⟩
theorem sc {p q:MArc}(h1: ¬ jF p q=true)(h2: ¬ jF q p=true):p=q:=by
 rw [iK] at h1 h2;have e1:p.i=q.i:=by
  have h3: ¬ p.i < q.i:=fun h=>h1 (.inl h);have h4: ¬ q.i < p.i:=fun h=>h2 (.inl h);omega
 have e2:p.o=q.o:=by
  have h3: ¬ p.o < q.o:=fun h=>h1 (.inr ⟨e1,.inl h⟩);have h4: ¬ q.o < p.o:=fun h=>h2 (.inr ⟨e1.symm,.inl h⟩);omega
 have e3:p.w=q.w:=lD (fun h=>h1 (.inr ⟨e1,.inr ⟨e2,.inl h⟩⟩)) (fun h=>h2 (.inr ⟨e1.symm,.inr ⟨e2.symm,.inl h⟩⟩));have e4:p.t=q.t:=by
  have h3: ¬ p.t < q.t:=fun h=>h1 (.inr ⟨e1,.inr ⟨e2,.inr ⟨e3,h⟩⟩⟩);have h4: ¬ q.t < p.t:=fun h=>h2 (.inr ⟨e1.symm,.inr ⟨e2.symm,.inr ⟨e3.symm,h⟩⟩⟩);omega
 cases p; cases q
 simp_all
def ua (p q:MArc):Prop:= ¬ jF q p=true
theorem qa {p q r:MArc}(h1:ua p q)(h2:ua q r):ua p r:=fun h=>by
 by_cases h3:jF p q=true
 ·exact h2 (nz h h3)
 ·rw [sc h3 h1] at h;exact h2 h
theorem Hg {p q:MArc}(h:jF p q=true):ua p q:=fun h2=>tH _ (nz h h2)
theorem CD (x:MArc)(out:List MArc): ∀ (p j:Nat),lG x out p<=j->j < p->jF x (out.getD j q0)=true
 | 0,j,_,h=>absurd h (Nat.not_lt_zero _)
 | p+1,j,h1,h2=>by
  unfold lG at h1;split at h1
  ·next hb=>
   by_cases e:j=p
   ·rw [e]; exact hb
   ·exact CD x out p j h1 (by omega)
  ·omega
theorem CQ (x:MArc)(out:List MArc): ∀ (p:Nat),lG x out p=0\/ ∃ j,lG x out p=j+1/\ ¬ jF x (out.getD j q0)=true
 | 0=> .inl rfl
 | p+1=>by
  unfold lG;split
  ·exact CQ x out p
  ·next hb=>exact .inr ⟨p,rfl,hb⟩
theorem xK {out:List MArc}(x:MArc)(h:out.Pairwise ua):(ph out x).Pairwise ua:=by
 unfold ph;have hle:=wB x out out.length;have hhi:=CD x out out.length;have hlo:=CQ x out out.length;generalize lG x out out.length=p at *;have hx1: ∀ y∈out.take p,ua y x:=fun y hy=>by
  rcases hlo with rfl | ⟨j,rfl,hj⟩
  ·simp at hy
  ·obtain ⟨i,hi,e⟩:=List.mem_iff_getElem.1 hy;rw [length_take] at hi;rw [List.getElem_take] at e;have hjl:j < out.length:=by omega
   rw [gD,gE hjl] at hj;by_cases ij:i=j
   ·subst ij; rw [<-e]; exact hj
   ·have:=List.pairwise_iff_getElem.1 h i j (by omega) hjl (by omega);rw [<-e];exact qa this hj
 have hx2: ∀ y∈out.drop p,ua x y:=fun y hy=>by
  obtain ⟨i,hi,e⟩:=List.mem_iff_getElem.1 hy;rw [List.length_drop] at hi;rw [List.getElem_drop] at e;have hb:=hhi (p+i) (by omega) (by omega);rw [gD,gE (by omega)] at hb;rw [<-e];exact Hg hb
 have hs:=h;rw [<-List.take_append_drop p out,List.pairwise_append] at hs;rw [append_assoc,List.pairwise_append];refine ⟨hs.1,?_,fun y hy z hz=> ?_⟩
 ·rw [List.singleton_append,List.pairwise_cons];exact ⟨hx2,hs.2.1⟩
 ·rcases mem_append.1 hz with h1 | h1
  ·rw [mem_singleton.1 h1]; exact hx1 y hy
  ·exact hs.2.2 y hy z h1
theorem jx: ∀ (l out:List MArc),out.Pairwise ua->(l.foldl ph out).Pairwise ua
 | [],out,h=>h
 | x::l,out,h=>by
  rw [foldl_cons];exact jx l _ (xK x h)
theorem dE (l:List MArc):(bU l).Pairwise ua:=jx l [] List.Pairwise.nil
theorem qC: ∀ {l l':List MArc},l.Perm l'->l.Pairwise ua->l'.Pairwise ua->l=l'
 | [],l',hp,_,_=>by rw [List.nil_perm.1 hp]
 | x::l,[],hp,_,_=>by have:=hp.length_eq; simp at this
 | x::l,y::l',hp,h1,h2=>by
  have h1':=List.pairwise_cons.1 h1;have h2':=List.pairwise_cons.1 h2;have e:x=y:=by
   have hx:x∈y::l':=hp.subset (mem_cons_self ..);have hy:y∈x::l:=hp.symm.subset (mem_cons_self ..);rcases mem_cons.1 hx with h | h
   ·exact h
   ·rcases mem_cons.1 hy with h' | h'
    ·exact h'.symm
    ·exact sc (h2'.1 x h) (h1'.1 y h')
  subst e;rw [qC (List.Perm.cons_inv hp) h1'.2 h2'.2]
theorem lE {l l':List MArc}(hp:l'.Perm l)(hs:l'.Pairwise ua):l'=bU l:=qC (hp.trans (ee l).symm) hs (dE l)
theorem Bn (x y:Int):(x < y/\lz x y = -1)\/(x=y/\lz x y=0)\/(y < x/\lz x y=1):=by
 unfold lz;by_cases h:x < y
 ·exact .inl ⟨h,by simp [h]⟩
 ·by_cases h2:x=y
  ·exact .inr (.inl ⟨h2,by simp [h2]⟩)
  ·exact .inr (.inr ⟨by omega,by simp [h]; omega⟩)
theorem Le (x y:List UInt8):(aV x y=true/\rO x y = -1)\/(x=y/\rO x y=0)\/(x≠y/\ ¬ aV x y=true/\rO x y=1):=by
 unfold rO;by_cases h:aV x y=true
 ·exact .inl ⟨h,by rw [if_pos h]⟩
 ·by_cases h2:x=y
  ·subst h2; exact .inr (.inl ⟨rfl,by simp [h]⟩)
  ·exact .inr (.inr ⟨h2,h,by simp [h,h2]⟩)
theorem yJ (p q:MArc):ur p q < 0↔jF p q=true:=by
 rw [iK];unfold ur;rcases Bn p.i q.i with ⟨h1,e1⟩ | ⟨h1,e1⟩ | ⟨h1,e1⟩ <;> rw [e1]
 ·simp [FG,h1]
 ·rcases Bn p.o q.o with ⟨h2,e2⟩ | ⟨h2,e2⟩ | ⟨h2,e2⟩ <;> rw [e2]
  ·simp [FG,h1,h2]
  ·rcases Le p.w q.w with ⟨h3,e3⟩ | ⟨h3,e3⟩ | ⟨h3,h3',e3⟩ <;> rw [e3]
   ·simp [FG,h1,h2,h3]
   ·rcases Bn p.t q.t with ⟨h4,e4⟩ | ⟨h4,e4⟩ | ⟨h4,e4⟩ <;> rw [e4] <;> simp [FG,h1,h2,h3,h4,i9] <;> omega
   ·simp [FG,h1,h2,h3,h3']
  ·simp [FG,h1]; omega
 ·simp [FG]; omega
def E4:List Value->Option (List MArc)
 | []=>some []
 | .int .i64 i :: .int .i64 o :: .string w :: .int .i64 t::r=>(E4 r).map (⟨i,o,w.data.toList,t⟩ :: ·)
 | _=>none
theorem y6: ∀ l:List MArc,E4 (l.map aO).flatten=some l
 | []=>rfl
 | q::l=>by
  show (E4 (l.map aO).flatten).map _=_;rw [y6 l]; rfl
theorem Ik (cs:List Value): ∀ {l:List MArc},E4 cs=some l->cs=(l.map aO).flatten:=by
 fun_induction E4 cs with
 | case1=>
  intro l h;obtain rfl:=oI h;rfl
 | case2 i o w t r ih=>
  intro l h;obtain ⟨k,h1,rfl⟩:=map_eq_some_iff.1 h;rw [ih h1]; rfl
 | case3=>intro l h; cases h
noncomputable def xD (g k:Nat)(srt:List Value->Option (List Value)):mA:=fun _ args h=>match args with
 | [.slice a n c,.func (.func g') ⟨[]⟩ ⟨[]⟩]=>if g'=g then (if n=0 then some (.tuple ⟨[]⟩,h) else match a with
   | some ⟨b,off,none⟩=>(match h.get b with
    | some (.cells cs t sz true)=>if n < 4611686018427387904/\off+n*k<=cs.length then (srt ((cs.drop off).take (n*k))).map fun cs'=>(.tuple ⟨[]⟩,h.set b (.cells (cs.take off++cs'++cs.drop (off+n*k)) t sz true)) else none
    | _=>none)
   | _=>none) else none
 | _=>none
def D9 (cs:List Value):Option (List Value):=(E4 cs).map fun l=>((bU l).map aO).flatten
end Go.Ab
end
section
namespace Go.Ab
open Go Go.RowKit
section
variable {β:Inj} {P:Program} {gl:Nat->Bool}
theorem IE {cf:bL}{tm:List Value}{a:Act}{h:Heap}{w:World}{o:Oper}{v:Value}{u:Upd}(hs:Sim β h w)(hg:Gl gl β)(ht:LRel β tm a.tmps.toList)(hc:aG o=false)(hr:bJ P cf (ev gl tm) o h=some (v,u)):
  ∃ v' w' β',Step β h w β' (u.app h) w'/\VRel β' v v'/\((execOp a.eval o).run P w = .ok (.value v') w'\/((execOp a.eval o).run P w = .ok .skip w'/\v'=undef)):=by
 have hρ:=pS (β:=β) hg ht;unfold bJ at hr;split at hr
 ·next v0 hp=>
  simp only [Option.some.injEq,Prod.mk.injEq] at hr;obtain ⟨rfl,rfl⟩:=hr;obtain ⟨v',h1,h2⟩:=j8 hρ hp w;exact ⟨v',w,β,Step.refl hs,h2,.inl h1⟩
 ·split at hr
  ·next v0 hp=>
   simp only [Option.some.injEq,Prod.mk.injEq] at hr;obtain ⟨rfl,rfl⟩:=hr;obtain ⟨v',h1,h2⟩:=jN hρ hs hp;exact ⟨v',w,β,Step.refl hs,h2,.inl h1⟩
  ·split at hr
   ·next B f hp=>
    simp only [Option.some.injEq,Prod.mk.injEq] at hr;obtain ⟨rfl,rfl⟩:=hr;obtain ⟨v',w',h1,h2⟩:=jb hρ (w:=w) hp;obtain ⟨β',h3,h4⟩:=h2.step hs;exact ⟨v',w',β',h3,h4,.inl h1⟩
   ·obtain ⟨v',w',β',h1,h2,h3⟩:=qk hρ hc hs hr;rcases h1 with h1 | ⟨h1,rfl⟩
    ·exact ⟨v',w',β',h2,h3,.inl h1⟩
    ·exact ⟨undef,w',β',h2,h3,.inr ⟨h1,rfl⟩⟩
theorem J2 {cf:bL}{ops:Array Oper}{cs:List Frame}(Q:Exit->Act->List Frame->World->Prop): ∀ (rest:List Oper)(i:Nat){β:Inj}{tm tm':List Value}{a:Act}{h h':Heap}{w:World},
  ops.toList.drop i=rest->(rest.all fun o=> !aG o)=true->e8 P gl cf ops rest tm h=some (tm',h')->Sim β h w->Gl gl β->LRel β tm a.tmps.toList->
  (∀ a' w' β',Step β h w β' h' w'->LRel β' tm' a'.tmps.toList->a'.defers=a.defers->Q .normal a' cs w')->wpOpsS P ops Q (List.range' i rest.length) a cs w
 | [],i,β,tm,tm',a,h,h',w,hd,_,hr,hs,hg,ht,hk=>by
  simp only [e8,Option.some.injEq,Prod.mk.injEq] at hr;obtain ⟨rfl,rfl⟩:=hr;exact hk a w β (Step.refl hs) ht rfl
 | o::rest,i,β,tm,tm',a,h,h',w,hd,hall,hr,hs,hg,ht,hk=>by
  have ho:ops[i]?=some o:=by
   have:(ops.toList.drop i)[0]?=some o:=by rw [hd]; rfl
   rw [getElem?_drop] at this;rw [<-getElem?_toList]; simpa using this
  have hd':ops.toList.drop (i+1)=rest:=by rw [<-drop_drop,hd]; rfl
  simp only [all_cons,and_eq_true,not_eq_true'] at hall;simp only [length_cons,range'_succ,wpOpsS,ho];simp only [e8] at hr;split at hr
  ·next hw=>
   rw [fz ht hw];simp only [if_true];split at hr
   ·next v u hop=>
    obtain ⟨v',w',β',hst,hv,hrun⟩:=IE hs hg ht hall.1 hop;have hgo:=J2 (cs:=cs) Q rest (i+1) hd' (by simpa using hall.2) hr hst.sim (hg.mono hst.le) (fp (ht.mono hst.le) o.dst hv) fun a' w2 β2 h1 h2 h3=>hk a' w2 β2 (hst.trans h1) h2 (h3.trans (bO a o.dst v'));rcases hrun with hrun | ⟨hrun,rfl⟩
    ·rw [hrun]; exact hgo
    ·rw [hrun]; exact hgo
   ·cases hr
  ·next hw=>
   rw [fz ht hw];simp only [false_eq_true,if_false];exact J2 (cs:=cs) Q rest (i+1) hd' (by simpa using hall.2) hr hs hg (fp ht o.dst (.undef β)) fun a' w2 β2 h1 h2 h3=>hk a' w2 β2 h1 h2 (h3.trans (bO a o.dst undef))
  ·cases hr
noncomputable def C6 (P:Program)(fn:Func)(ops0 ops1:Array Oper)(c:Operand)(n:Nat):Bool:=
 match ops0.toList with
 | o::rest=>match o.dst with
  | some d=>match e8 P wN d9 ops0 rest ((List.replicate n junk++List.replicate (fn.ntmps - n) undef).set d .nilIface) ⟨0,.nil⟩ with
   | some (tm1,h1)=>match e8 P wN d9 ops1 ops1.toList tm1 h1 with
    | some (tm2,_)=>match ev wN tm2 c with
     | .bool false=>(rest.all fun o=> !aG o) && (ops1.toList.all fun o=> !aG o) && o.guard.isNone && fn.results.size == 0
     | _=>false
    | none=>false
   | none=>false
  | none=>false
 | []=>false
theorem JC {fC:FuncId}{fn:Func}{i0 i1 n:Nat}{o0:Oper}{rest0:List Oper}{ops1:Array Oper}{c:Operand}{X:Code}(hf:P.funcs[fC]?=some fn)(hb:fn.body=some (.seq (.region i0 (o0::rest0).toArray false) (.seq (.region i1 ops1 false) (.cond c X .skip))))
  (ho:o0.op = .call { callee:= .builtin .recover,args:= #[],argTypes:= #[] }) (hrun:C6 P fn (o0::rest0).toArray ops1 c n=true) (args:Array Value) (w:World) (hn:args.size=n):
  CallsDIn Fence.wide 0 P fC args .returning w fun e u' w'=>(∃ v,e = .returned v)/\u' = .returning/\Below w.heap.size w w'/\w.drawn<=w'.drawn:=by
 subst hn;unfold C6 at hrun;simp only at hrun;split at hrun
 ·next d hd=>
  split at hrun
  ·next tm1 h1 hr1=>
   split at hrun
   ·next tm2 h2 hr2=>
    split at hrun
    ·next hev=>
     simp only [and_eq_true,beq_iff_eq,Option.isNone_iff_eq_none] at hrun;obtain ⟨⟨⟨hall0,hall1⟩,hgd⟩,hres⟩:=hrun;refine pu hf hb fun c₀ cs hu=> ?_;refine wpS_seq (wpS_region ?_);have hjunk: ∀ (l:List Value),LRel β0 (List.replicate l.length junk) l:=fun l=>⟨by simp,fun i v v' h1 h2=>by
      rw [getElem?_replicate] at h1;split at h1
      ·obtain rfl:=oI h1; exact .junk v'
      ·cases h1⟩
     have hrep: ∀ k,LRel β0 (List.replicate k undef) (List.replicate k undef):=fun k=>⟨rfl,fun i v v' h1 h2=>by
      rw [getElem?_replicate] at h1 h2;split at h1
      ·next hi=>rw [if_pos hi] at h2; obtain rfl:=oI h1; obtain rfl:=oI h2; exact .undef _
      ·cases h1⟩
     have ht0:LRel β0 (List.replicate args.size junk++List.replicate (fn.ntmps - args.size) undef) (args++Array.replicate (fn.ntmps - args.size) undef).toList:=by
      simp only [Array.toList_append,Array.toList_replicate];have:=hjunk args.toList;rw [length_toList] at this;exact this.append (hrep _)
     have hw0: ∀ t,Region.wanted o0 (yielded (o0::rest0).toArray t)=true:=fun t=>by simp [Region.wanted,hgd]
     have hrec: ∀ (ρ:Operand->Value),(execOp ρ o0).run P w = .ok .recover w:=fun ρ=>by
      unfold execOp;simp only [ho,resolve,Sem.run_bind,Sem.run_pure,Result.andThen_ok,invoke];rfl
     have hnone:recoverD (c₀::cs)=none:=by simp [recoverD,hu]
     show wpOpsS P (o0::rest0).toArray _ (List.range (rest0.length+1)) _ _ w;rw [List.range_eq_range',range'_succ];rw [wpOpsS];simp only [List.getElem?_toArray,getElem?_cons_zero,hw0,if_true,hrec,hnone];rw [hd];refine J2 (cf:=d9) (gl:=wN) _ rest0 1 (by simp) hall0 hr1 (wJ 0 w) gl_nil (fp ht0 (some d) (v:= .nilIface) .nilIface) fun a1 w1 β1 hst1 ht1 hd1=> ?_;refine wpS_seq (wpS_region ?_);rw [<-length_toList,List.range_eq_range'];refine J2 (cf:=d9) (gl:=wN) _ ops1.toList 0 (by simp) hall1 hr2 hst1.sim (gl_nil.mono hst1.le) ht1 fun a2 w2 β2 hst2 ht2 hd2=> ?_;refine wpS_cond (t:=false) ?_ ?_
     ·have:=pS (gl_nil.mono (hst1.trans hst2).le) ht2 c;rw [hev] at this;exact this.inv_bool
     ·show Code.wpS P .skip _ a2 (c₀::cs) w2;refine wpS_of_wp (wp_skip ?_);refine ⟨hd2.trans (hd1.trans (bO _ _ _)),.returning,by cases c₀; simp_all,.tuple #[],?_,⟨⟨_,rfl⟩,rfl,na (hst1.trans hst2),(hst1.trans hst2).tape.2⟩⟩;have:fn.results = #[]:=Array.eq_empty_of_size_eq_zero hres;simp [results,this]
    ·cases hrun
   ·cases hrun
  ·cases hrun
 ·cases hrun
end
end Go.Ab
end
section
namespace Go.Proofs.YtoabjjimjldcfaaGreatDoor
open Go Go.Ab Go.RowKit
theorem I9:(((Tryz.prog.funcs.toList.drop 0).take 40).all fun f=>cR f)=true:=by kernel_rfl
theorem Kh:(((Tryz.prog.funcs.toList.drop 40).take 40).all fun f=>cR f)=true:=by kernel_rfl
theorem Ka:(((Tryz.prog.funcs.toList.drop 80).take 40).all fun f=>cR f)=true:=by kernel_rfl
theorem JT:(((Tryz.prog.funcs.toList.drop 120).take 40).all fun f=>cR f)=true:=by kernel_rfl
theorem IT:(((Tryz.prog.funcs.toList.drop 160).take 40).all fun f=>cR f)=true:=by kernel_rfl
theorem JO:(((Tryz.prog.funcs.toList.drop 200).take 40).all fun f=>cR f)=true:=by kernel_rfl
theorem ET:Tryz.prog.funcs.toList.length=230:=by kernel_rfl
theorem Ht (i:Nat)(fn:Func)(h:Tryz.prog.funcs.toList[i]?=some fn):cR fn=true:=by
 have key: ∀ a,((Tryz.prog.funcs.toList.drop a).take 40).all (fun f=>cR f)=true->a<=i->i < a+40->cR fn=true:=fun a ha h1 h2=>by
  refine all_eq_true.1 ha fn (List.mem_of_getElem? (i:=i - a) ?_);rw [List.getElem?_take,if_pos (by omega),getElem?_drop,show a+(i - a)=i by omega];exact h
 have hlt:i < 230:=by
  have:=(List.getElem?_eq_some_iff.1 h).1;rw [ET] at this; exact this
 by_cases h0:i < 40
 ·exact key 0 I9 (by omega) (by omega)
 by_cases h1:i < 80
 ·exact key 40 Kh (by omega) (by omega)
 by_cases h2:i < 120
 ·exact key 80 Ka (by omega) (by omega)
 by_cases h3:i < 160
 ·exact key 120 JT (by omega) (by omega)
 by_cases h4:i < 200
 ·exact key 160 IT (by omega) (by omega)
 exact key 200 JO (by omega) (by omega)
theorem E0:(Tryz.prog.funcs.toList.all fun f=> !(f.name == "runtime.NumGoroutine"))=true:=by kernel_rfl
theorem text_ok:TextOk Tryz.prog:={
 names:=fun _ fn h=>by
  have hm:fn∈Tryz.prog.funcs.toList:=by
   rw [<-getElem?_toList] at h;exact List.mem_of_getElem? h
  have:=all_eq_true.1 E0 fn hm;simpa using this
 draws:=fun f fn h=>Ht f fn (by rw [getElem?_toList]; exact h) }
def seqL:Code->Code
 | .seq a _=>a
 | c=>c
def seqR:Code->Code
 | .seq _ b=>b
 | c=>c
noncomputable def Cw:Code:=(Tryz.f134.body).getD .skip
theorem wv (args:Array Value)(w:World)(h:args.size=2):CallsDIn Fence.wide 0 Tryz.prog 157 args .returning w fun e u' w'=>(∃ v,e = .returned v)/\u' = .returning/\Below w.heap.size w w'/\w.drawn<=w'.drawn:=
 JC (n:=2) Tryz.func157 rfl rfl (by kernel_rfl) args w h
end Go.Proofs.YtoabjjimjldcfaaGreatDoor
end
section
namespace Go.Proofs.YtoabjjimjldcfaaGreatDoor
open Go Go.Ab
def IM:Nat->Bool:=fun g=>Nat.beq g 1
noncomputable def SS0:Sx:=⟨Tryz.prog,wN,fun _=>none⟩
noncomputable def OF:FuncId->Option mA:=fun f=>Hd (Nat.beq f 48) (some (xD 47 4 D9)) (Hd (Nat.beq f 194) (some js) (Hd (Nat.beq f 196) (some iE) (Hd (Nat.beq f 134) (some (ww Tryz.prog IM Tryz.f134 (seqL Cw) (seqR (seqR Cw)) 5)) none)))
noncomputable def SS:Sx:=⟨Tryz.prog,IM,OF⟩
theorem N9:al Tryz.prog 35=some 1:=by kernel_rfl
end Go.Proofs.YtoabjjimjldcfaaGreatDoor
end
section
namespace Go.Ab
open Go
noncomputable section
def aB (b:Bool)(A B:Prop):Prop:=Bool.rec (motive:=fun _=>Prop) B A b
theorem ae {b:Bool}{A B:Prop}(h1:b=true->A)(h2:b=false->B):aB b A B:=by
 cases b with
 | true=>exact h1 rfl
 | false=>exact h2 rfl
theorem oe {b:Bool}{A B:Prop}(h:aB b A B):(b=true/\A)\/(b=false/\B):=by
 cases b with
 | true=>exact .inl ⟨rfl,h⟩
 | false=>exact .inr ⟨rfl,h⟩
abbrev TS:=List Value
abbrev cq:=Exit->TS->Heap->Prop
abbrev TH:=TS->Heap->Prop
def fr (tm:TS):Fr:=fun t=>tm.getD t undef
def CT (P:Program)(t:TypeId)(K:Value->Prop):Prop:=match P.underlying t with
 | some (.int k)=> ∃ n:Int,K (.int k n)
 | some .bool=> ∃ b:Bool,K (.bool b)
 | some .string=> ∃ l:List UInt8,K (aa l)
 | some (.slice _)=> ∃ (a:Option Addr)(n c:Nat),K (.slice a n c)
 | some (.pointer _)=> ∃ a:Option Addr,K (.pointer a)
 | some (.struct _)=> ∃ cs:List Value,K (.agg ⟨cs⟩)
 | some (.array ..)=> ∃ cs:List Value,K (.agg ⟨cs⟩)
 | some (.func ..)=> ∃ (g:Nat)(a c:List Value),K (.func (.func g) ⟨a⟩ ⟨c⟩)
 | _=> ∃ v:Value,K v
def Lm (P:Program):List TypeId->(List Value->Prop)->Prop
 | [],K=>K []
 | t::ts,K=>CT P t fun x=>Lm P ts fun xs=>K (x::xs)
def Af (P:Program)(t:TypeId)(K:Value->Prop):Prop:=match P.underlying t with
 | some (.tuple ts)=>Lm P ts.toList fun vs=>K (.tuple ⟨vs⟩)
 | _=>CT P t K
theorem su {P:Program}{t:TypeId}{K:Value->Prop}(hx:CT P t K): ∃ v,K v:=by
 unfold CT at hx;split at hx
 ·obtain ⟨_,h⟩:=hx; exact ⟨_,h⟩
 ·obtain ⟨_,h⟩:=hx; exact ⟨_,h⟩
 ·obtain ⟨_,h⟩:=hx; exact ⟨_,h⟩
 ·obtain ⟨_,_,_,h⟩:=hx; exact ⟨_,h⟩
 ·obtain ⟨_,h⟩:=hx; exact ⟨_,h⟩
 ·obtain ⟨_,h⟩:=hx; exact ⟨_,h⟩
 ·obtain ⟨_,h⟩:=hx; exact ⟨_,h⟩
 ·obtain ⟨_,_,_,h⟩:=hx; exact ⟨_,h⟩
 ·exact hx
theorem vI {P:Program}: ∀ {ts:List TypeId}{K:List Value->Prop},Lm P ts K-> ∃ vs,K vs
 | [],_,hx=>⟨_,hx⟩
 | t::ts,K,hx=>by
  obtain ⟨x,h⟩:=su hx;obtain ⟨xs,h⟩:=vI h;exact ⟨_,h⟩
theorem kz {P:Program}{t:TypeId}{K:Value->Prop}(hx:Af P t K): ∃ v,K v:=by
 unfold Af at hx;split at hx
 ·obtain ⟨_,h⟩:=vI hx; exact ⟨_,h⟩
 ·exact su hx
def xe (P:Program)(t:TypeId)(r:Option Value)(h:Heap)(K:VH):Prop:=Af P t fun x=>r=some x/\K x h
def Ot (r:Option Value)(h:Heap)(K:VH):Prop:= ∃ a:Addr,r=some (.pointer (some a))/\K (.pointer (some a)) h
def KL (r:Option (Value×Upd))(h:Heap)(K:VH):Prop:= ∃ v u,r=some (v,u)/\K v (u.app h)
def Nr (r:Option (Value×Upd))(h:Heap)(K:VH):Prop:= ∃ u,r=some (undef,u)/\K undef (u.app h)
def OE (r:Option (Value×Upd))(h:Heap)(K:VH):Prop:= ∃ (a:Option Addr)(n c:Nat)(u:Upd),r=some (.slice a n c,u)/\K (.slice a n c) (u.app h)
def OB (r:Option (Value×Upd))(h:Heap)(K:VH):Prop:= ∃ (n:Int)(u:Upd),r=some (.int .i64 n,u)/\K (.int .i64 n) (u.app h)
def gb (k:Nat):Value:= .pointer (some ⟨k,0,none⟩)
def gH (n c k:Nat):Value:= .slice (some ⟨k,0,none⟩) n c
abbrev OA:Type:=Option Addr
abbrev LV:Type:=List Value
abbrev LB:Type:=List UInt8
abbrev uN (l:List Value)(k:Nat):List Value:=l++List.replicate k undef
abbrev pA (k:Nat):Value:= .pointer (some ⟨k,0,none⟩)
abbrev sA (k n c:Nat):Value:= .slice (some ⟨k,0,none⟩) n c
abbrev nA:Value:= .slice none 0 0
abbrev iA (n:Nat):Value:= .int .i64 (n:Int)
abbrev xI (k:IntKind)(r:Option Value)(K:Int->Prop):Prop:= ∃ n:Int,r=some (.int k n)/\K n
abbrev xB (r:Option Value)(K:Bool->Prop):Prop:= ∃ b:Bool,r=some (.bool b)/\K b
abbrev xS (r:Option Value)(K:List UInt8->Prop):Prop:= ∃ l:List UInt8,r=some (aa l)/\K l
abbrev xL (r:Option Value)(K:Option Addr->Nat->Nat->Prop):Prop:= ∃ (a:Option Addr)(n c:Nat),r=some (.slice a n c)/\K a n c
abbrev xO (r:Option Value)(K:Option Addr->Prop):Prop:= ∃ a:Option Addr,r=some (.pointer a)/\K a
abbrev xP (r:Option Value)(K:Addr->Prop):Prop:= ∃ a:Addr,r=some (.pointer (some a))/\K a
abbrev xA (r:Option Value)(K:List Value->Prop):Prop:= ∃ cs:List Value,r=some (.agg ⟨cs⟩)/\K cs
abbrev xF (r:Option Value)(K:Nat->List Value->List Value->Prop):Prop:= ∃ (g:Nat)(a c:List Value),r=some (.func (.func g) ⟨a⟩ ⟨c⟩)/\K g a c
abbrev yI (k:IntKind)(r:Value)(K:Int->Prop):Prop:= ∃ n:Int,r = .int k n/\K n
abbrev yB (r:Value)(K:Bool->Prop):Prop:= ∃ b:Bool,r = .bool b/\K b
abbrev yS (r:Value)(K:List UInt8->Prop):Prop:= ∃ l:List UInt8,r=aa l/\K l
abbrev yL (r:Value)(K:Option Addr->Nat->Nat->Prop):Prop:= ∃ (a:Option Addr)(n c:Nat),r = .slice a n c/\K a n c
abbrev yA (r:Value)(K:List Value->Prop):Prop:= ∃ cs:List Value,r = .agg ⟨cs⟩/\K cs
abbrev yF (r:Value)(K:Nat->List Value->List Value->Prop):Prop:= ∃ (g:Nat)(a c:List Value),r = .func (.func g) ⟨a⟩ ⟨c⟩/\K g a c
abbrev yV (r:Value)(K:Value->Prop):Prop:= ∃ v:Value,r=v/\K v
abbrev xU (r:Option (Value×Upd))(h:Heap)(K:Upd->Heap->Prop):Prop:= ∃ u:Upd,r=some (undef,u)/\K u (u.app h)
abbrev xE (r:Option (Value×Upd))(h:Heap)(K:Option Addr->Nat->Nat->Upd->Heap->Prop):Prop:= ∃ (a:Option Addr)(n c:Nat)(u:Upd),r=some (.slice a n c,u)/\K a n c u (u.app h)
abbrev xC (r:Option (Value×Upd))(h:Heap)(K:Int->Upd->Heap->Prop):Prop:= ∃ (n:Int)(u:Upd),r=some (.int .i64 n,u)/\K n u (u.app h)
abbrev xG (r:Option (Value×Upd))(h:Heap)(K:Value->Upd->Heap->Prop):Prop:= ∃ (v:Value)(u:Upd),r=some (v,u)/\K v u (u.app h)
abbrev xN (r:Option (Blk×(Nat->Value)))(h:Heap)(K:Blk->Heap->Prop):Prop:= ∃ B:Blk,r=some (B,gb)/\K B (h.push B)
abbrev xR (r:Option (Blk×(Nat->Value)))(h:Heap)(K:Blk->Nat->Nat->Heap->Prop):Prop:= ∃ (B:Blk)(n c:Nat),r=some (B,gH n c)/\K B n c (h.push B)
abbrev zN (r:Option (Blk×(Nat->Value)))(K:Blk->Prop):Prop:= ∃ B:Blk,r=some (B,gb)/\K B
abbrev zR (r:Option (Blk×(Nat->Value)))(K:Blk->Nat->Nat->Prop):Prop:= ∃ (B:Blk)(n c:Nat),r=some (B,gH n c)/\K B n c
def Nv (r:Option (Blk×(Nat->Value)))(h:Heap)(K:VH):Prop:= ∃ B,r=some (B,gb)/\K (gb h.next) (h.push B)
def Nx (r:Option (Blk×(Nat->Value)))(h:Heap)(K:VH):Prop:= ∃ B n c,r=some (B,gH n c)/\K (gH n c h.next) (h.push B)
def Ow (r:Option (Blk×(Nat->Value)))(h:Heap)(K:VH):Prop:= ∃ B,r=some (B,fun k=> .map (some k))/\K (.map (some h.next)) (h.push B)
def aD (P:Program)(t:TypeId):Option (Blk×(Nat->Value)):=aM P (fun _=>undef) ⟨none,.alloc t,0,"",#[],none⟩
def dY (P:Program)(t:TypeId)(v:Value):Option (Blk×(Nat->Value)):=aM P (fun _=>v) ⟨none,.box t (.tmp 0),0,"",#[],none⟩
def aX (P:Program)(t:TypeId)(l c:Value):Option (Blk×(Nat->Value)):=aM P (fun x=>match x with | .tmp 0=>l | _=>c) ⟨none,.makeSlice t (.tmp 0) (.tmp 1),0,"",#[],none⟩
def an (P:Program)(t:TypeId)(len:Nat)(vs:List (Nat×Value)):Option (Blk×(Nat->Value)):=
 aM P (fun x=>match x with | .tmp i=>(vs.getD i (0,undef)).2 | _=>undef) ⟨none,.buildSlice t len ((List.range vs.length).map fun i=>((vs.getD i (0,undef)).1,.tmp i)).toArray,0,"",#[],none⟩
def Ha (c a b:Value)(h:Heap)(K:VH):Prop:=match c with
 | .bool t=>aB t (K a h) (K b h)
 | _=>False
def LS (P:Program)(op:BinOp)(t ty:TypeId)(x y:Value)(h:Heap)(K:VH):Prop:=match op with
 | .quo | .rem | .shl | .shr=>xe P ty (ak P op t x y) h K
 | .add=>(match x with | .string _=>xe P ty (ak P .add t x y) h K | _=>mE (ak P .add t x y) h K)
 | .eql=>(match x with | .pointer _=>xe P ty (ak P .eql t x y) h K | .agg _=>xe P ty (ak P .eql t x y) h K | _=>mE (ak P .eql t x y) h K)
 | .neq=>(match x with | .pointer _=>xe P ty (ak P .neq t x y) h K | .agg _=>xe P ty (ak P .neq t x y) h K | _=>mE (ak P .neq t x y) h K)
 | op=>mE (ak P op t x y) h K
def Il (S:Sx)(ty:TypeId)(f:Value)(args:List Value)(h:Heap)(K:VH):Prop:=match f with
 | .func (.func g) first captured=>aB (Nat.blt g YB) (FW S g (first.toList++args++captured.toList) h fun v h=>Af S.P ty fun x=>v=x/\K x h) False
 | .func (.yield k) ⟨[]⟩ ⟨[]⟩=>FW S (YB+k) args h fun v h=>Af S.P ty fun x=>v=x/\K x h
 | _=>False
def Ih (P:Program)(s d:TypeId)(x:Value)(h:Heap):Option Value:=aU P (fun _=>x) ⟨none,.convert s d (.tmp 0),0,"",#[],none⟩ h
def NE (t:Option TypeDesc):Bool:=match t with
 | some .unsafePointer=>true
 | _=>false
def hZ (P:Program)(t:TypeId)(m k x:Value)(h:Heap):Option (Value×Upd):=match P.underlying t,m with
  | some (.map kt _),.map (some r)=>match h.get r with
   | some (.map es)=>if i4 P kt k then (hJ P kt k x es).map fun es'=>(undef,.set r (.map es')) else none
   | _=>none
  | _,_=>none
def CJ (P:Program)(t:TypeId)(m k:Value)(ok:Bool)(h:Heap):Option Value:=aU P (fun x=>match x with | .tmp 0=>m | _=>k) ⟨none,.lookup t (.tmp 0) (.tmp 1) ok,0,"",#[],none⟩ h
def oh (P:Program)(t:TypeId):Option (Blk×(Nat->Value)):=aM P (fun _=>undef) ⟨none,.makeMap t none,0,"",#[],none⟩
def Me (S:Sx)(ρ:Operand->Value)(o:Oper)(h:Heap)(K:VH):Prop:=match o.op with
 | .move x | .assign x=>K (ρ x) h
 | .pick c a b=>Ha (ρ c) (ρ a) (ρ b) h K
 | .binOp op t x y _=>LS S.P op t o.type (ρ x) (ρ y) h K
 | .unOp op _ x=>mE (xk op (ρ x)) h K
 | .extract x i=>mE (KQ (ρ x) i) h K
 | .index t x i=>xe S.P o.type (be S.P t (ρ x) (ρ i)) h K
 | .indexAddr t x i=>Ot (ag S.P t (ρ x) (ρ i)) h K
 | .fieldAddr t x f=>Ot (af S.P t (ρ x) f) h K
 | .field t x f=>xe S.P o.type (FN S.P t (ρ x) f) h K
 | .load t a=>xe S.P t (ah S.P t h (ρ a)) h K
 | .slice t x lo hi mx=>xe S.P o.type (bh S.P t (ρ x) (lo.map ρ) (hi.map ρ) (mx.map ρ) h) h K
 | .store t a x=>Nr (ai S.P t (ρ a) (ρ x) h) h K
 | .alloc t=>Nv (aD S.P t) h K
 | .box t x=>Nv (dY S.P t (ρ x)) h K
 | .makeSlice t l c=>Nx (aX S.P t (ρ l) (ρ c)) h K
 | .buildSlice .. =>Nx (aM S.P ρ o) h K
 | .makeMap t r=>Ow (match r with | none=>oh S.P t | some _=>aM S.P ρ o) h K
 | .mapUpdate t m k x=>Nr (hZ S.P t (ρ m) (ρ k) (ρ x) h) h K
 | .insert t m k x=>Nr (hZ S.P t (ρ m) (ρ k) (ρ x) h) h K
 | .lookup t m k ok=>xe S.P o.type (CJ S.P t (ρ m) (ρ k) ok h) h K
 | .convert s d x=>(match NE (S.P.underlying s) with | true=>KL (bJ S.P d9 ρ o h) h K | false=>(match ρ x with | .int _ _=>mE (dd S.P s d (ρ x)) h K | .slice _ _ _=>xe S.P o.type (Ih S.P s d (ρ x) h) h K | _=>KL (bJ S.P d9 ρ o h) h K))
 | .build t parts=>xe S.P o.type (aC S.P t (parts.toList.map fun p=>(p.1,ρ p.2))) h K
 | .makeFunc .. | .makeInterface .. | .nilCheck .. | .typeAssert .. =>mE (bm S.P ρ o) h K
 | .panic .. =>False
 | .call { callee:= .value f,args,.. }=>Il S o.type (ρ f) (args.toList.map ρ) h K
 | .call { callee:= .builtin .len,args,argTypes }=>(match args.toList,argTypes.toList with | [x],[t]=>(match ρ x with | .map _=>xe S.P o.type (yu S.P t (ρ x) h) h K | _=>mE (yu S.P t (ρ x) h) h K) | _,_=>False)
 | .call { callee:= .builtin .max,args,.. }=>xe S.P o.type (jl true (args.toList.map ρ)) h K
 | .call { callee:= .builtin .min,args,.. }=>xe S.P o.type (jl false (args.toList.map ρ)) h K
 | .call { callee:= .builtin .append,args,argTypes }=>(match args.toList,argTypes.toList with | [s,x],[t,t']=>OE (aJ S.P t t' (ρ s) (ρ x) h) h K | _,_=>False)
 | .call { callee:= .builtin .copy,args,argTypes }=>(match args.toList,argTypes.toList with | [d,s],[t,_]=>OB (lj S.P t (ρ d) (ρ s) h) h K | _,_=>False)
 | .call { callee:= .builtin _,.. }=>KL (bJ S.P d9 ρ o h) h K
 | _=>KL (bJ S.P d9 ρ o h) h K
theorem bB {P:Program}{t:TypeId}{r:Option Value}{h:Heap}{K:VH}(hx:xe P t r h K):mE r h K:=by
 obtain ⟨v,h1,h2⟩:=kz hx; rw [h1]; exact h2
theorem te {r:Option Value}{h:Heap}{K:VH}(hx:Ot r h K):mE r h K:=by
 obtain ⟨v,h1,h2⟩:=hx; rw [h1]; exact h2
theorem jY {r:Option (Value×Upd)}{h:Heap}{K:VH}(hx:KL r h K):xj r h K:=by
 obtain ⟨v,u,h1,h2⟩:=hx; rw [h1]; exact h2
theorem nM {r:Option (Value×Upd)}{h:Heap}{K:VH}(hx:Nr r h K):xj r h K:=by
 obtain ⟨u,h1,h2⟩:=hx; rw [h1]; exact h2
theorem Aw {r:Option (Value×Upd)}{h:Heap}{K:VH}(hx:OE r h K):xj r h K:=by
 obtain ⟨a,n,c,u,h1,h2⟩:=hx; rw [h1]; exact h2
theorem A7 {r:Option (Value×Upd)}{h:Heap}{K:VH}(hx:OB r h K):xj r h K:=by
 obtain ⟨n,u,h1,h2⟩:=hx; rw [h1]; exact h2
theorem tk {r:Option (Blk×(Nat->Value))}{h:Heap}{K:VH}(hx:Nv r h K):Nq r h K:=by
 obtain ⟨B,h1,h2⟩:=hx; rw [h1]; exact h2
theorem sW {r:Option (Blk×(Nat->Value))}{h:Heap}{K:VH}(hx:Nx r h K):Nq r h K:=by
 obtain ⟨B,n,c,h1,h2⟩:=hx; rw [h1]; exact h2
theorem so {r:Option (Blk×(Nat->Value))}{h:Heap}{K:VH}(hx:Ow r h K):Nq r h K:=by
 obtain ⟨B,h1,h2⟩:=hx; rw [h1]; exact h2
theorem F4 {S:Sx}{ty:TypeId}{f:Value}{args:List Value}{h:Heap}{K:VH}(hx:Il S ty f args h K):jR S f args h K:=by
 unfold Il at hx;unfold jR;split at hx
 ·rcases oe hx with ⟨hb,hx⟩ | ⟨_,hx⟩
  ·refine ⟨by simpa [blt_eq] using hb,hx.mono fun v h hx=> ?_⟩;obtain ⟨x,rfl,h2⟩:=kz hx;exact h2
  ·exact hx.elim
 ·exact ⟨⟨rfl,rfl⟩,hx.mono fun v h hx=>by
   obtain ⟨x,rfl,h2⟩:=kz hx;exact h2⟩
 ·exact hx.elim
theorem GN {P:Program}{op:BinOp}{t ty:TypeId}{x y:Value}{h:Heap}{K:VH}(hx:LS P op t ty x y h K):mE (ak P op t x y) h K:=by
 unfold LS at hx;split at hx
 ·exact bB hx
 ·exact bB hx
 ·exact bB hx
 ·exact bB hx
 ·split at hx <;> first | exact bB hx | exact hx
 ·split at hx <;> first | exact bB hx | exact hx
 ·split at hx <;> first | exact bB hx | exact hx
 ·exact hx
theorem E8 {c a b:Value}{h:Heap}{K:VH}(hx:Ha c a b h K):mE (KR c a b) h K:=by
 unfold Ha at hx;split at hx
 ·next t=>
  rcases oe hx with ⟨rfl,h1⟩ | ⟨rfl,h1⟩ <;> exact h1
 ·exact hx.elim
theorem mf {S:Sx}{E:Fr}{o:Oper}{h:Heap}{K:VH}(hx:Me S (ct S.gl E) o h K):eQ S E o h K:=by
 obtain ⟨dst,op,ty,pos,after,guard⟩:=o;unfold Me at hx;split at hx
 ·next e=>subst e; exact hx
 ·next e=>subst e; exact hx
 ·next e=>subst e; rw [FF]; exact E8 hx
 ·next e=>subst e; rw [Av]; exact GN hx
 ·next e=>subst e; rw [Dw]; exact hx
 ·next e=>subst e; rw [wT]; exact hx
 ·next e=>subst e; rw [Ax]; exact bB hx
 ·next e=>subst e; rw [ss]; exact te hx
 ·next e=>subst e; rw [si]; exact te hx
 ·next e=>subst e; rw [AK]; exact bB hx
 ·next e=>subst e; rw [DH]; exact bB hx
 ·next e=>subst e; rw [BQ]; exact bB hx
 ·next e=>subst e; rw [AV]; exact nM hx
 ·next e=>subst e; rw [fV _ _ _ _ _ rfl rfl rfl rfl]; exact tk hx
 ·next e=>subst e; rw [fV _ _ _ _ _ rfl rfl rfl rfl]; exact tk hx
 ·next e=>subst e; rw [fV _ _ _ _ _ rfl rfl rfl rfl]; exact sW hx
 ·next e=>subst e; rw [fV _ _ _ _ _ rfl rfl rfl rfl]; exact sW hx
 ·next t r e=>
  subst e;rw [fV _ _ _ _ _ rfl rfl rfl rfl]
  cases r with
  | none=>exact so hx
  | some x=>exact so hx
 ·next t m k x e=>
  subst e;rw [dy _ _ _ _ rfl];have he:bJ S.P d9 (ct S.gl E) ⟨dst,.mapUpdate t m k x,ty,pos,after,guard⟩ h=hZ S.P t (ct S.gl E m) (ct S.gl E k) (ct S.gl E x) h:=rfl;rw [he];exact nM hx
 ·next t m k x e=>
  subst e;rw [dy _ _ _ _ rfl];have he:bJ S.P d9 (ct S.gl E) ⟨dst,.insert t m k x,ty,pos,after,guard⟩ h=hZ S.P t (ct S.gl E m) (ct S.gl E k) (ct S.gl E x) h:=rfl;rw [he];exact nM hx
 ·next t m k ok e=>
  subst e;have hx:mE (aU S.P (ct S.gl E) ⟨dst,.lookup t m k ok,ty,pos,after,guard⟩ h) h K:=bB hx;exact (jv S E h K ⟨dst,.lookup t m k ok,ty,pos,after,guard⟩ rfl rfl rfl rfl) ▸ hx
 ·next e=>
  subst e;rw [dy _ _ _ _ rfl];split at hx
  ·exact jY hx
  split at hx
  ·next k n hv=>
   unfold bJ;generalize hp:bm S.P (ct S.gl E) _=r
   cases r with
   | some v=>rw [show dd S.P _ _ _=some v from hp] at hx; exact hx
   | none=>rw [show dd S.P _ _ _=none from hp] at hx; exact hx.elim
  ·next a n c hv=>
   obtain ⟨v,h1,h2⟩:=kz hx;have hp: ∀ s d,dd S.P s d (.slice a n c)=none:=fun s d=>by unfold dd; split <;> simp_all
   have e1: ∀ s d x,ct S.gl E x = .slice a n c->bm S.P (ct S.gl E) ⟨dst,.convert s d x,ty,pos,after,guard⟩=none:=fun s d x hv=>by
    show dd S.P s d (ct S.gl E x)=none;rw [hv]; exact hp s d
   have e2: ∀ s d x,aU S.P (ct S.gl E) ⟨dst,.convert s d x,ty,pos,after,guard⟩ h=Ih S.P s d (ct S.gl E x) h:=fun s d x=>rfl;unfold bJ;rw [e1 _ _ _ hv];dsimp only;rw [e2,h1];exact h2
  ·exact jY hx
 ·next e=>subst e; rw [bS _ _ _ _ _ _ _ _ _ rfl]; exact bB hx
 ·next e=>subst e; rw [bS _ _ _ _ _ _ _ _ _ rfl]; exact hx
 ·next e=>subst e; rw [bS _ _ _ _ _ _ _ _ _ rfl]; exact hx
 ·next e=>subst e; rw [bS _ _ _ _ _ _ _ _ _ rfl]; exact hx
 ·next e=>subst e; rw [bS _ _ _ _ _ _ _ _ _ rfl]; exact hx
 ·exact hx.elim
 ·next e=>subst e; exact F4 hx
 ·next args ats e=>
  subst e;split at hx
  ·next x t h1 h2=>
   obtain ⟨args⟩:=args; obtain ⟨ats⟩:=ats;obtain rfl:args=[x]:=h1;obtain rfl:ats=[t]:=h2;have hx':mE (yu S.P t (ct S.gl E x) h) h K:=by
    split at hx
    ·exact bB hx
    ·exact hx
   exact (GH S E dst ty pos after guard h K x t).symm ▸ hx'
  ·exact hx.elim
 ·next e=>subst e; rw [H7]; exact bB hx
 ·next e=>subst e; rw [FZ]; exact bB hx
 ·next args ats e=>
  subst e;split at hx
  ·next s x t t' h1 h2=>
   obtain ⟨args⟩:=args; obtain ⟨ats⟩:=ats;obtain rfl:args=[s,x]:=h1;obtain rfl:ats=[t,t']:=h2;exact (Ad S E dst ty pos after guard h K s x t t').symm ▸ Aw hx
  ·exact hx.elim
 ·next args ats e=>
  subst e;split at hx
  ·next s x t t' h1 h2=>
   obtain ⟨args⟩:=args; obtain ⟨ats⟩:=ats;obtain rfl:args=[s,x]:=h1;obtain rfl:ats=[t,t']:=h2;have he:eQ S E ⟨dst,.call ⟨.builtin .copy,#[s,x],#[t,t']⟩,ty,pos,after,guard⟩ h K=xj (lj S.P t (ct S.gl E s) (ct S.gl E x) h) h K:=ls S E h K _ rfl rfl rfl rfl;exact he.symm ▸ A7 hx
  ·exact hx.elim
 ·next e=>subst e; rw [dy _ _ _ _ rfl]; exact jY hx
 ·next hno _ _=>
  rw [dy _ _ _ _ ?_]
  ·exact jY hx
  ·unfold aG;split
   ·next e=>simp_all
   ·rfl
def EQ:TS->Nat->Value->(TS->Prop)->Prop
 | [],_,_,K=>K []
 | _::l,0,v,K=>K (v::l)
 | x::l,d+1,v,K=>EQ l d v fun l=>K (x::l)
def Hj:TS->Nat->(Value->Prop)->Prop
 | [],_,K=>K undef
 | x::_,0,K=>K x
 | _::l,t+1,K=>Hj l t K
theorem rD: ∀ (l:TS)(d:Nat)(v:Value)(K:TS->Prop),EQ l d v K=K (l.set d v)
 | [],_,_,_=>rfl
 | _::_,0,_,_=>rfl
 | x::l,d+1,v,K=>by rw [EQ,rD l d v]; rfl
theorem vR: ∀ (l:TS)(t:Nat)(K:Value->Prop),Hj l t K=K (l.getD t undef)
 | [],_,_=>rfl
 | _::_,0,_=>rfl
 | x::l,t+1,K=>by rw [Hj,vR l t]; rfl
def wQ (tm:TS)(dst:Option Tmp)(v:Value)(K:TS->Prop):Prop:=match dst with
 | some d=>EQ tm d v K
 | none=>K tm
theorem rC (tm:TS)(dst:Option Tmp)(v:Value)(K:TS->Prop):wQ tm dst v K=K (ei tm dst v):=by
 cases dst with
 | none=>rfl
 | some d=>exact rD _ _ _ _
def Mh (S:Sx)(tm:TS)(o:Oper)(h:Heap)(K:VH):Prop:=match o.op with
 | .move (.tmp t)=>Hj tm t fun v=>K v h
 | .assign (.tmp t)=>Hj tm t fun v=>K v h
 | _=>Me S (ev S.gl tm) o h K
theorem Cz {S:Sx}{tm:TS}{o:Oper}{h:Heap}{K:VH}(hx:Mh S tm o h K):Me S (ev S.gl tm) o h K:=by
 unfold Mh at hx;split at hx
 ·next t e=>rw [vR] at hx; unfold Me; rw [e]; exact hx
 ·next t e=>rw [vR] at hx; unfold Me; rw [e]; exact hx
 ·exact hx
def gS (ops:Array Oper)(tm:TS)(guard:Option (Nat×Bool))(A B:TS->Prop):Prop:=match guard with
 | none=>A tm
 | some (j,want)=>match (ops[j]?).bind (·.dst) with
  | some d=>match tm.getD d undef with
   | .bool b=>aB b (EQ tm d (.bool true) (Bool.rec (motive:=fun _=>TS->Prop) B A want)) (EQ tm d (.bool false) (Bool.rec (motive:=fun _=>TS->Prop) A B want))
   | .tuple _=>B tm
   | _=>False
  | none=>False
def IY (S:Sx)(ops:Array Oper):List Oper->TS->Heap->TH->Prop
 | [],tm,h,R=>R tm h
 | o::l,tm,h,R=>gS ops tm o.guard (fun tm=>Mh S tm o h fun v h=>wQ tm o.dst v fun tm=>IY S ops l tm h R) (fun tm=>wQ tm o.dst undef fun tm=>IY S ops l tm h R)
def Kb (nm:Nat)(Q:TH):FH:=fun E h=> ∃ tm:TS,tm.length=nm/\E=fr tm/\Q tm h
def vr (nm:Nat)(Q:cq):t8:=fun x=>Kb nm (Q x)
def KM (v:Value)(A B:Prop):Prop:=match v with
 | .bool b=>aB b A B
 | _=>False
def CO (S:Sx)(nm:Nat)(c:Code)(tm:TS)(h:Heap)(Q:cq):Prop:=vc S nm c (fr tm) h (vr nm Q)
def Cd (S:Sx)(nm:Nat)(c:Code)(tm:TS)(h:Heap)(Q:cq):Prop:=BM S nm c (fr tm) h (vr nm Q)
def MZ (B:TH)(Q:cq)(x:Exit)(tm:TS)(h:Heap):Prop:=match x with
 | .normal=>B tm h
 | x=>Q x tm h
def Cp (id:Nat)(Q:cq)(x:Exit)(tm:TS)(h:Heap):Prop:=match x with
 | .exit id'=>(match Nat.beq id' id with | true=>Q .normal tm h | false=>Q (.exit id') tm h)
 | x=>Q x tm h
def room (h:Heap)(n:Nat):Heap:={ h with next:=h.next+n }
def AY:Op->Bool
 | .load .. | .slice .. =>true
 | .call { callee:= .builtin .len,.. }=>true
 | _=>false
def OX:Op->Bool
 | .store .. =>true
 | .call { callee:= .value _,.. }=>true
 | _=>false
def I1 (ops:Array Oper)(f:Op->Bool)(j:Nat):Bool:=match ops[j]? with | some o=>f o.op | none=>false
def yb:Op->Bool
 | .alloc .. | .box .. | .makeSlice .. | .buildSlice .. =>true
 | _=>false
def q8:Op->Bool
 | .store .. =>true
 | .call { callee:= .value _,.. }=>true
 | .call { callee:= .builtin .append,.. } | .call { callee:= .builtin .copy,.. } | .call { callee:= .builtin .unsafeSliceData,.. } | .call { callee:= .builtin .unsafeString,.. }=>true
 | _=>false
def Ln (b:Bool)(A B:Prop):Prop:=Bool.rec (motive:=fun _=>Prop) B A b
def CA (S:Sx)(o:Oper)(E:Fr)(v:Value)(h:Heap)(K:Prop):Prop:=match o.op with
 | .load t a=>(ah S.P t h (ct S.gl E a)=some v/\eK 4 v v=true)/\K
 | .slice t x lo hi mx=>(bh S.P t (ct S.gl E x) (lo.map (ct S.gl E)) (hi.map (ct S.gl E)) (mx.map (ct S.gl E)) h=some v/\eK 4 v v=true)/\K
 | _=>(aU S.P (ct S.gl E) o h=some v/\eK 4 v v=true)/\K
def lV (S:Sx)(bf:Nat->Nat->Bool)(j:Nat)(o:Oper)(E:Fr)(v:Value):Heap->List (Nat×Heap)->Bool->Prop->Prop
 | h,[],own,K=>Ln own K (CA S o E v h K)
 | h,(e,h')::r,own,K=>Ln ((own && Nat.blt j e) || bf j e) (Ln (bf e j) K (lV S bf j o E v h' r (Nat.blt e j) K)) (CA S o E v h (Ln (bf e j) K (lV S bf j o E v h' r (Nat.blt e j) K)))
def pW (S:Sx)(bf:Nat->Nat->Bool)(h:Heap)(es:List (Nat×Heap)):List Ak->Nat->Prop->Prop
 | [],_,K=>K
 | (E,o,.read v)::r,j,K=>lV S bf j o E v h es true (pW S bf h es r (j+1) K)
 | _::r,j,K=>pW S bf h es r (j+1) K
def NW (S:Sx)(ρ:Operand->Value)(o:Oper)(K:Blk->(Nat->Value)->Prop):Prop:=match o.op with
 | .alloc t=> ∃ B,aD S.P t=some (B,gb)/\K B gb
 | .box t x=> ∃ B,dY S.P t (ρ x)=some (B,gb)/\K B gb
 | .makeSlice t l c=> ∃ B n d,aX S.P t (ρ l) (ρ c)=some (B,gH n d)/\K B (gH n d)
 | _=> ∃ B n d,aM S.P ρ o=some (B,gH n d)/\K B (gH n d)
def KS {α:Type}(op:Op)(a b c d:α):α:=match gC op with
 | true=>a
 | false=>match AY op with
  | true=>b
  | false=>match yb op with
   | true=>c
   | false=>d
def oD (S:Sx)(bf:Nat->Nat->Bool)(ops:Array Oper)(base:Nat)(h0:Heap):List Oper->Nat->TS->Heap->List (Nat×Blk)->List Ak->TH->Prop
 | [],_,tm,h,pd,recs,R=>pW S bf h0 (iY recs.reverse 0) recs.reverse 0 (R tm (ax h base pd))
 | o::l,j,tm,h,pd,recs,R=>gS ops tm o.guard
   (fun tm=>KS o.op
    (Mh S tm o h fun v _=>wQ tm o.dst v fun tm'=>oD S bf ops base h0 l (j+1) tm' h pd ((fr tm,o,.pure v)::recs) R)
    (Mh S tm o h fun v _=>wQ tm o.dst v fun tm'=>oD S bf ops base h0 l (j+1) tm' h pd ((fr tm,o,.read v)::recs) R)
    (NW S (ev S.gl tm) o fun B f=>wQ tm o.dst (f (base+j)) fun tm'=>oD S bf ops base h0 l (j+1) tm' h ((j,B)::pd) ((fr tm,o,.alloc B (f (base+j)))::recs) R)
    (Mh S tm o (ax h base (pd.filter fun p=>bf j p.1)) fun v h'=>wQ tm o.dst v fun tm'=>oD S bf ops base h0 l (j+1) tm' h' (pd.filter fun p=> !bf j p.1) ((fr tm,o,.eff v h')::recs) R))
   (fun tm=>wQ tm o.dst undef fun tm'=>oD S bf ops base h0 l (j+1) tm' h pd ((fr tm,o,.skip)::recs) R)
def kw (ops:Array Oper):Bool:= !Bh ops && (ops.toList.all fun o=>gC o.op || AY o.op || yb o.op || q8 o.op) && (List.range ops.size).all fun e=> !I1 ops q8 e || (List.range ops.size).all fun j=> !I1 ops q8 j || !Nat.blt j e || cj (e7 ops) e j
def my (tm:TS)(j:Nat):Value:=tm.getD j undef
def qf:Nat->Nat->List (Nat×Value)->(Nat->Value)->TS
 | 0,_,_,_=>[]
 | n+1,j,[],x=>x j::qf n (j+1) [] x
 | n+1,j,(i,v)::l,x=>match Nat.beq i j with
  | true=>v::qf n (j+1) l x
  | false=>x j::qf n (j+1) ((i,v)::l) x
theorem w8: ∀ (n j:Nat)(l:List (Nat×Value))(x:Nat->Value),(∀ p∈l,p.2=x p.1)->qf n j l x=(List.range' j n).map x
 | 0,_,_,_,_=>by simp [qf]
 | n+1,j,[],x,h=>by simp only [qf,range'_succ,List.map_cons]; rw [w8 n (j+1) [] x h]
 | n+1,j,(i,v)::l,x,h=>by
  simp only [qf,range'_succ,List.map_cons]
  cases hb:Nat.beq i j with
  | true=>
   dsimp only;rw [w8 n (j+1) l x fun p hp=>h p (mem_cons_of_mem _ hp),<-Nat.eq_of_beq_eq_true hb];rw [show v=x i from h (i,v) (mem_cons_self ..)]
  | false=>
   dsimp only;rw [w8 n (j+1) ((i,v)::l) x h]
theorem rv: ∀ (n j:Nat)(l:List (Nat×Value))(x:Nat->Value),(qf n j l x).length=n
 | 0,_,_,_=>by simp [qf]
 | n+1,j,[],x=>by simp only [qf,length_cons]; rw [rv n (j+1) [] x]
 | n+1,j,(i,v)::l,x=>by
  simp only [qf]
  cases hb:Nat.beq i j with
  | true=>dsimp only; rw [length_cons,rv n (j+1) l x]
  | false=>dsimp only; rw [length_cons,rv n (j+1) ((i,v)::l) x]
theorem zH (f:Nat->Value): ∀ (M:List Nat),∀ p∈M.zip (M.map f),p.2=f p.1
 | [],p,h=>by simp at h
 | a::M,p,h=>by
  rw [List.map_cons,List.zip_cons_cons] at h;rcases mem_cons.1 h with rfl | h
  ·rfl
  ·exact zH f M p h
theorem y5 {tm:TS}{nm:Nat}(hl:tm.length=nm)(M:List Nat):qf nm 0 (M.zip (M.map (my tm))) (my tm)=tm:=by
 rw [w8 _ _ _ _ (zH _ M)];refine List.ext_getElem? fun i=> ?_;rw [List.getElem?_map];by_cases h:i < nm
 ·rw [List.getElem?_range' h];simp [my,gE (show i < tm.length by omega),gD]
 ·rw [getElem?_eq_none (by simpa using h),getElem?_eq_none (by omega)]; rfl
def KE (S:Sx)(nm:Nat)(M:List Nat)(c:Code)(w:List Value)(h:Heap)(Q:cq):Prop:= ∀ x:Nat->Value,CO S nm c (qf nm 0 (M.zip w) x) h Q
def Hx (S:Sx)(nm:Nat)(M:List Nat)(c:Code)(tm:TS)(h:Heap)(Q:cq):Prop:=match Nat.beq tm.length nm with
 | true=>KE S nm M c (M.map (my tm)) h Q
 | false=>CO S nm c tm h Q
theorem AP {S:Sx}{nm:Nat}{M:List Nat}{c:Code}{tm:TS}{h:Heap}{Q:cq}(hl:tm.length=nm)(hx:Hx S nm M c tm h Q):CO S nm c tm h Q:=by
 unfold Hx at hx;rw [hl,Nat.beq_refl] at hx;have:=hx (my tm);rwa [y5 hl] at this
structure FD where
 nm:Nat
 body:Code
 rs:List ResultVar
 ms:List (List Nat×List Nat)
def cB (fn:Func)(ms:List (List Nat×List Nat)):FD:=⟨fn.ntmps,fn.body.getD .skip,fn.results.toList,ms⟩
def Mk:List Nat->List Nat->Bool
 | [],[]=>true
 | a::x,b::y=>(match Nat.beq a b with
  | true=>Mk x y
  | false=>false)
 | _,_=>false
def pB:List (List Nat×List Nat)->List Nat->List Nat
 | [],_=>[]
 | (q,m)::r,p=>match Mk q p with
  | true=>m
  | false=>pB r p
def wpS (S:Sx)(nm:Nat)(M:List (List Nat×List Nat))(p:List Nat):Code->TS->Heap->cq->Prop
 | .skip,tm,h,Q=>Q .normal tm h
 | .region _ ops draw,tm,h,Q=>(match draw with
  | false=>IY S ops ops.toList tm h fun tm h=>Q .normal tm h
  | true=>(match kw ops with
   | true=>oD S (cj (e7 ops)) ops h.next (room h ops.size) ops.toList 0 tm (room h ops.size) [] [] fun tm h=>Q .normal tm h
   | false=>LM S ops (fr tm) h (Kb nm fun tm h=>Q .normal tm h)))
 | .seq a b,tm,h,Q=>wpS S nm M (0::p) a tm h (MZ (fun tm h=>wpS S nm M (1::p) b tm h Q) Q)
 | .cond c a b,tm,h,Q=>KM (ev S.gl tm c) (wpS S nm M (0::p) a tm h Q) (wpS S nm M (1::p) b tm h Q)
 | .block id c,tm,h,Q=>wpS S nm M (0::p) c tm h (Cp id Q)
 | .loop c,tm,h,Q=>Hx S nm (pB M (0::p).reverse) c tm h Q
 | .exit id,tm,h,Q=>Q (.exit id) tm h
 | .ret,tm,h,Q=>Q .ret tm h
 | .label _,tm,h,Q=>Q .normal tm h
 | .rangeFunc f ps a b,tm,h,Q=>Cd S nm (.rangeFunc f ps a b) tm h Q
 | _,_,_,_=>False
end
theorem GI {tm:TS}{nm:Nat}(h:tm.length=nm):ER nm (fr tm) tm:=⟨h,fun _=>rfl⟩
theorem uT {tm:TS}(gl:Nat->Bool):ct gl (fr tm)=ev gl tm:=((GI rfl).ev gl).symm
theorem w7 {tm:TS}{nm:Nat}(h:tm.length=nm){dst:Option Tmp}(hd:px nm dst=true)(v:Value):mC (fr tm) dst v=fr (ei tm dst v):=by
 funext t;exact ((GI h).put hd v).2 t |>.symm
theorem qL {tm:TS}{d:Nat}{v:Value}(h:tm.getD d undef=v):tm.set d v=tm:=by
 refine List.ext_getElem? fun i=> ?_;rw [List.getElem?_set];split
 ·next e=>
  subst e;split
  ·next hl=>
   rw [gD,gE hl] at h;rw [gE hl,<-h]; rfl
  ·next hl=>rw [getElem?_eq_none (by omega)]
 ·rfl
theorem Aa {ops:Array Oper}{tm:TS}{guard:Option (Nat×Bool)}{A B:TS->Prop}{A' B':Unit->Prop}(hA:A tm->A' ())(hB:B tm->B' ())(hx:gS ops tm guard A B):KP (sJ ops (fr tm) guard) A' B':=by
 cases guard with
 | none=>exact hA hx
 | some g=>
  obtain ⟨j,want⟩:=g;unfold gS at hx;rw [BI];dsimp only at hx
  cases hd:(ops[j]?).bind (·.dst) with
  | none=>rw [hd] at hx; exact hx.elim
  | some d=>
   rw [hd] at hx;dsimp only at hx ⊢;show KP (match tm.getD d undef with | .bool b=>some (b == want) | .tuple _=>some false | _=>none) A' B'
   cases hv:tm.getD d undef with
   | bool b=>
    rw [hv] at hx;dsimp only at hx ⊢;rcases oe hx with ⟨rfl,h1⟩ | ⟨rfl,h1⟩
    ·rw [rD,qL hv] at h1
     cases want
     ·exact hB h1
     ·exact hA h1
    ·rw [rD,qL hv] at h1
     cases want
     ·exact hA h1
     ·exact hB h1
   | tuple vs=>rw [hv] at hx; exact hB hx
   | _=>rw [hv] at hx; exact hx.elim
theorem yM {r:Option (Value×Upd)}{h:Heap}{K K':VH}(hk: ∀ v h,K v h->K' v h)(hx:xj r h K):xj r h K':=by
 cases r with
 | none=>exact hx
 | some p=>obtain ⟨v,u⟩:=p; exact hk _ _ hx
theorem qI {S:Sx}{f:Value}{args:List Value}{h:Heap}{K K':VH}(hk: ∀ v h,K v h->K' v h)(hx:jR S f args h K):jR S f args h K':=by
 unfold jR at hx ⊢;split at hx
 ·exact ⟨hx.1,hx.2.mono hk⟩
 ·exact ⟨hx.1,hx.2.mono hk⟩
 ·exact hx.elim
theorem Dr {S:Sx}{E:Fr}{o:Oper}{h:Heap}{K K':VH}(hk: ∀ v h,K v h->K' v h)(hx:eQ S E o h K):eQ S E o h K':=by
 unfold eQ at hx ⊢;split at hx
 ·exact qI hk hx
 ·exact yM hk hx
theorem nL {S:Sx}{nm:Nat}{ops:Array Oper}{R:TH}{R':FH}(hR: ∀ tm h,tm.length=nm->R tm h->R' (fr tm) h): ∀ (l:List Oper){tm:TS}{h:Heap},tm.length=nm->(l.all fun o=>px nm o.dst)=true->IY S ops l tm h R->IK S ops l (fr tm) h R'
 | [],_,_,hl,_,hx=>hR _ _ hl hx
 | o::l,tm,h,hl,hd,hx=>by
  simp only [all_cons,and_eq_true] at hd;rw [HB];refine Aa (fun hx=> ?_) (fun hx=> ?_) hx
  ·show eQ S (fr tm) o h (OH S ops o.dst l (fr tm) R');have hx:=Cz hx;rw [<-uT] at hx;refine Dr (fun v h hx=> ?_) (mf hx);show IK S ops l (mC (fr tm) o.dst v) h R';rw [w7 hl hd.1];rw [rC] at hx;exact nL hR l (by rw [gh]; exact hl) hd.2 hx
  ·show IK S ops l (mC (fr tm) o.dst undef) h R';rw [w7 hl hd.1];rw [rC] at hx;exact nL hR l (by rw [gh]; exact hl) hd.2 hx
theorem sa {S:Sx}{E:Fr}{o:Oper}{h:Heap}{K K':VH}(hk: ∀ v h,K v h->K' v h)(hx:r6 S E o h K):r6 S E o h K':=by
 unfold r6 at hx ⊢;split at hx
 ·exact qI hk hx
 ·exact yM hk hx
theorem Ge {r:Option Bool}{A B A' B':Unit->Prop}(hA:A ()->A' ())(hB:B ()->B' ())(hx:KP r A B):KP r A' B':=by
 rcases xg hx with ⟨rfl,h⟩ | ⟨rfl,h⟩
 ·exact hA h
 ·exact hB h
theorem io {S:Sx}{bf:Nat->Nat->Bool}{ops:Array Oper}{base:Nat}{h0:Heap}{R R':FH}(hR: ∀ E h,R E h->R' E h): ∀ (l:List Oper)(j:Nat)(E:Fr)(h:Heap)(pd:List (Nat×Blk))(recs:List Ak),pp S bf ops base h0 l j E h pd recs R->pp S bf ops base h0 l j E h pd recs R'
 | [],_,_,_,_,_,hx=>⟨hx.1,hR _ _ hx.2⟩
 | o::l,j,E,h,pd,recs,hx=>by
  simp only [pp] at hx ⊢;refine Ge (fun hx=> ?_) (fun hx=>io hR l _ _ _ _ _ hx) hx
  cases hp:bm S.P (ct S.gl E) o with
  | some v=>rw [hp] at hx; exact io hR l _ _ _ _ _ hx
  | none=>
   rw [hp] at hx;dsimp only at hx ⊢
   cases hp2:aU S.P (ct S.gl E) o h with
   | some v=>rw [hp2] at hx; exact io hR l _ _ _ _ _ hx
   | none=>
    rw [hp2] at hx;dsimp only at hx ⊢
    cases hp3:aM S.P (ct S.gl E) o with
    | some p=>obtain ⟨B,f⟩:=p; rw [hp3] at hx; exact io hR l _ _ _ _ _ hx
    | none=>
     rw [hp3] at hx;dsimp only at hx ⊢;exact sa (fun v h' hx=>io hR l _ _ _ _ _ hx) hx
theorem Im {S:Sx}{ops:Array Oper}{E:Fr}{h:Heap}{R R':FH}(hR: ∀ E h,R E h->R' E h)(hx:LM S ops E h R):LM S ops E h R':=⟨hx.1,io hR _ _ _ _ _ _ hx.2⟩
theorem GM {ops:Array Oper}{f:Op->Bool}{j:Nat}(h:I1 ops f j=true):j < ops.size:=by
 unfold I1 at h;split at h
 ·next o ho=>exact (Array.getElem?_eq_some_iff.1 ho).1
 ·cases h
theorem sH {b:Bool}{A B:Prop}(h:Ln b A B):(b=true/\A)\/(b=false/\B):=by
 cases b with
 | true=>exact .inl ⟨rfl,h⟩
 | false=>exact .inr ⟨rfl,h⟩
theorem lk {S:Sx}{o:Oper}{E:Fr}{v:Value}{h:Heap}{K:Prop}(hx:CA S o E v h K):uy S o E v h=true/\K:=by
 obtain ⟨dst,op,ty,pos,after,guard⟩:=o;have key:(aU S.P (ct S.gl E) ⟨dst,op,ty,pos,after,guard⟩ h=some v/\eK 4 v v=true)/\K:=by
  unfold CA at hx;split at hx
  ·next e=>subst e; exact hx
  ·next e=>subst e; exact hx
  ·exact hx
 refine ⟨?_,key.2⟩;unfold uy;rw [key.1.1];exact key.1.2
theorem mS {S:Sx}{bf:Nat->Nat->Bool}{j:Nat}{o:Oper}{E:Fr}{v:Value}{K:Prop}: ∀ {es:List (Nat×Heap)}{h:Heap}{own:Bool},lV S bf j o E v h es own K->gU S bf j o E v h es own=true/\K
 | [],h,own,hx=>by
  rcases sH hx with ⟨rfl,h1⟩ | ⟨rfl,h1⟩
  ·exact ⟨rfl,h1⟩
  ·exact ⟨(lk h1).1,(lk h1).2⟩
 | (e,h')::r,h,own,hx=>by
  have tl: ∀ {K'':Prop},Ln (bf e j) K (lV S bf j o E v h' r (Nat.blt e j) K)->((bf e j || gU S bf j o E v h' r (Nat.blt e j))=true)/\K:=fun hx=>by
   rcases sH hx with ⟨h2,h3⟩ | ⟨h2,h3⟩
   ·rw [h2]; exact ⟨rfl,h3⟩
   ·have:=mS h3;rw [this.1]; exact ⟨Bool.or_true _,this.2⟩
  have hx:Ln ((own && Nat.blt j e) || bf j e) _ _:=hx;simp only [gU,and_eq_true];rcases sH hx with ⟨h2,h3⟩ | ⟨h2,h3⟩
  ·have:=tl (K'':=K) h3;exact ⟨⟨by rw [h2]; rfl,this.1⟩,this.2⟩
  ·obtain ⟨h4,h5⟩:=lk h3;have:=tl (K'':=K) h5;exact ⟨⟨by rw [h4,Bool.or_true],this.1⟩,this.2⟩
theorem jW {S:Sx}{bf:Nat->Nat->Bool}{h:Heap}{es:List (Nat×Heap)}{K:Prop}: ∀ {l:List Ak}{j:Nat},pW S bf h es l j K->nw S bf h es l j=true/\K
 | [],_,hx=>⟨rfl,hx⟩
 | (E,o,e)::r,j,hx=>by
  cases e with
  | read v=>
   have h1:=mS (show lV S bf j o E v h es true (pW S bf h es r (j+1) K) from hx);have h2:=jW h1.2;refine ⟨?_,h2.2⟩;show (gU S bf j o E v h es true && nw S bf h es r (j+1))=true;rw [h1.1,h2.1]; rfl
  | _=>exact jW (l:=r) hx
def vD (ops:Array Oper)(i:Nat)(l:List Ak):Prop:= ∀ k r,l[k]?=some r-> ∀ v g,r.2.2 = .eff v g->I1 ops q8 (i+k)=true
theorem nK {ops:Array Oper}: ∀ {l:List Ak}{i:Nat},vD ops i l-> ∀ p∈iY l i,I1 ops q8 p.1=true/\i<=p.1
 | [],_,_=>by simp [iY]
 | r::l,i,hc=>by
  have hc':vD ops (i+1) l:=fun k r h=>by
   have:=hc (k+1) r (by simpa using h);rwa [show i+(k+1)=i+1+k by omega] at this
  obtain ⟨E,o,e⟩:=r;intro p hp;have tl:p∈iY l (i+1)->I1 ops q8 p.1=true/\i<=p.1:=fun h=>⟨(nK hc' p h).1,by have:=(nK hc' p h).2; omega⟩
  cases e with
  | eff v g=>
   rcases mem_cons.1 hp with rfl | hp
   ·exact ⟨hc 0 _ rfl v g rfl,le_refl _⟩
   ·exact tl hp
  | _=>exact tl hp
theorem kQ {ops:Array Oper}(hs:kw ops=true): ∀ {l:List Ak}{i:Nat},vD ops i l->eI (cj (e7 ops)) (iY l i)=true
 | [],_,_=>rfl
 | r::l,i,hc=>by
  have hc':vD ops (i+1) l:=fun k r h=>by
   have:=hc (k+1) r (by simpa using h);rwa [show i+(k+1)=i+1+k by omega] at this
  obtain ⟨E,o,e⟩:=r;have ih:=kQ hs hc'
  cases e with
  | eff v g=>
   show eI (cj (e7 ops)) ((i,g)::iY l (i+1))=true;have hall:=nK hc'
   cases hes:iY l (i+1) with
   | nil=>rfl
   | cons p es=>
    obtain ⟨j,g'⟩:=p;rw [hes] at ih hall;show (cj (e7 ops) j i && eI (cj (e7 ops)) ((j,g')::es))=true;rw [ih,Bool.and_true];have h1:=hc 0 _ rfl v g rfl;have h2:=hall (j,g') (mem_cons_self ..);unfold kw at hs;simp only [and_eq_true] at hs;have h3:=all_eq_true.1 hs.2 j (mem_range.2 (GM h2.1));rw [h2.1] at h3;simp only [Bool.not_true,Bool.false_or] at h3;have h4:=all_eq_true.1 h3 i (mem_range.2 (GM h1));have h5:I1 ops q8 i=true:=h1;rw [h5,show Nat.blt i j=true by rw [blt_eq]; have:=h2.2; omega] at h4;simpa using h4
  | _=>exact ih
theorem DD {S:Sx}{ρ:Operand->Value}{o:Oper}(ha:yb o.op=true){K:Blk->(Nat->Value)->Prop}(hx:NW S ρ o K): ∃ B f,aM S.P ρ o=some (B,f)/\K B f:=by
 obtain ⟨dst,op,ty,pos,after,guard⟩:=o;unfold NW at hx;split at hx
 ·next e=>subst e; obtain ⟨B,h1,h2⟩:=hx; exact ⟨B,_,h1,h2⟩
 ·next e=>subst e; obtain ⟨B,h1,h2⟩:=hx; exact ⟨B,_,h1,h2⟩
 ·next e=>subst e; obtain ⟨B,n,d,h1,h2⟩:=hx; exact ⟨B,_,h1,h2⟩
 ·obtain ⟨B,n,d,h1,h2⟩:=hx; exact ⟨B,_,h1,h2⟩
theorem qo {S:Sx}{nm:Nat}{ops:Array Oper}(hst:kw ops=true){base:Nat}{h0:Heap}{R:TH}{R':FH}(hR: ∀ tm h,tm.length=nm->R tm h->R' (fr tm) h): ∀ (l:List Oper)(j:Nat)(tm:TS)(h:Heap)(pd:List (Nat×Blk))(recs:List Ak),tm.length=nm->(l.all fun o=>px nm o.dst)=true->ops.toList.drop j=l->recs.length=j->vD ops 0 recs.reverse->oD S (cj (e7 ops)) ops base h0 l j tm h pd recs R->pp S (cj (e7 ops)) ops base h0 l j (fr tm) h pd recs R'
 | [],j,tm,h,pd,recs,hl,_,_,_,hr,hx=>by
  have h1:=jW (show pW S (cj (e7 ops)) h0 (iY recs.reverse 0) recs.reverse 0 (R tm (ax h base pd)) from hx);refine ⟨?_,hR _ _ hl h1.2⟩;unfold lW;rw [h1.1,kQ hst hr]; rfl
 | o::l,j,tm,h,pd,recs,hl,hd,hdr,hrl,hr,hx=>by
  have ho:ops[j]?=some o:=by
   have:(ops.toList.drop j)[0]?=some o:=by rw [hdr]; rfl
   rw [getElem?_drop] at this;rw [<-getElem?_toList]; simpa using this
  have hdr':ops.toList.drop (j+1)=l:=by rw [<-drop_drop,hdr]; rfl
  simp only [all_cons,and_eq_true] at hd;have conf: ∀ e,(∀ v g,e=Ent.eff v g->q8 o.op=true)->vD ops 0 ((fr tm,o,e)::recs).reverse:=by
   intro e h2 k r hk;rw [List.reverse_cons] at hk;rcases lt_or_ge k recs.reverse.length with h3 | h3
   ·rw [List.getElem?_append_left h3] at hk;exact hr k r hk
   ·rw [List.getElem?_append_right h3] at hk;have hk0:k - recs.reverse.length=0:=by
     rcases eq_zero_or_pos (k - recs.reverse.length) with h4 | h4
     ·exact h4
     ·rw [getElem?_eq_none (by simp only [length_cons,length_nil]; omega)] at hk; cases hk
    rw [hk0] at hk;obtain rfl:=oI hk;have hkj:0+k=j:=by rw [List.length_reverse] at h3 hk0; omega
    rw [hkj];intro v g e;unfold I1; rw [ho]; exact h2 v g e
  simp only [pp];refine Aa (fun hx=> ?_) (fun hx=> ?_) hx
  ·have go: ∀ v e g pd',(∀ v g,e=Ent.eff v g->q8 o.op=true)->wQ tm o.dst v (fun tm'=>oD S (cj (e7 ops)) ops base h0 l (j+1) tm' g pd' ((fr tm,o,e)::recs) R)->pp S (cj (e7 ops)) ops base h0 l (j+1) (mC (fr tm) o.dst v) g pd' ((fr tm,o,e)::recs) R':=by
    intro v e g pd' h2 hx;rw [rC] at hx;rw [w7 hl hd.1];exact qo hst hR l (j+1) _ g _ _ (by rw [gh]; exact hl) hd.2 hdr' (by simp [hrl]) (conf e h2) hx
   have hkind:(gC o.op || AY o.op || yb o.op || q8 o.op)=true:=by
    have hc:=hst;unfold kw at hc;simp only [and_eq_true] at hc;exact all_eq_true.1 hc.1.2 o (List.mem_of_mem_drop (i:=j) (by rw [hdr]; simp))
   obtain ⟨dst,op,ty,pos,after,guard⟩:=o;unfold KS at hx
   cases hp:gC op with
   | true=>
    rw [show gC (Oper.mk dst op ty pos after guard).op=true from hp] at hx;have hx:=mf (E:=fr tm) (by rw [uT]; exact Cz hx);have hx:mE (bm S.P (ct S.gl (fr tm)) ⟨dst,op,ty,pos,after,guard⟩) h _:=(bS _ _ _ _ _ _ _ _ _ hp) ▸ hx
    cases hv:bm S.P (ct S.gl (fr tm)) ⟨dst,op,ty,pos,after,guard⟩ with
    | none=>rw [hv] at hx; exact hx.elim
    | some v=>rw [hv] at hx; exact go v (.pure v) h pd (by simp) hx
   | false=>
   rw [show gC (Oper.mk dst op ty pos after guard).op=false from hp] at hx;dsimp only at hx
   cases hp2:AY op with
   | true=>
    rw [show AY (Oper.mk dst op ty pos after guard).op=true from hp2] at hx;have hx:=mf (E:=fr tm) (by rw [uT]; exact Cz hx);have key:bm S.P (ct S.gl (fr tm)) ⟨dst,op,ty,pos,after,guard⟩=none/\aG ⟨dst,op,ty,pos,after,guard⟩=false/\aM S.P (ct S.gl (fr tm)) ⟨dst,op,ty,pos,after,guard⟩=none/\cV S.P d9 (ct S.gl (fr tm)) ⟨dst,op,ty,pos,after,guard⟩ h=none:=by
     clear hx conf go hkind hp ho;revert hp2
     cases op with
     | load=>intro _; exact ⟨rfl,rfl,rfl,rfl⟩
     | slice=>intro _; exact ⟨rfl,rfl,rfl,rfl⟩
     | call c=>
      obtain ⟨callee,args,ats⟩:=c
      cases callee with
      | builtin b=>cases b <;> intro hp <;> first | exact ⟨rfl,rfl,rfl,rfl⟩ | cases hp
      | _=>intro hp; cases hp
     | _=>intro hp; cases hp
    have hx:mE (aU S.P (ct S.gl (fr tm)) ⟨dst,op,ty,pos,after,guard⟩ h) h _:=(jv S (fr tm) h _ _ key.2.1 key.1 key.2.2.1 key.2.2.2) ▸ hx;rw [key.1];dsimp only
    cases hv:aU S.P (ct S.gl (fr tm)) ⟨dst,op,ty,pos,after,guard⟩ h with
    | none=>rw [hv] at hx; exact hx.elim
    | some v=>rw [hv] at hx; exact go v (.read v) h pd (by simp) hx
   | false=>
   rw [show AY (Oper.mk dst op ty pos after guard).op=false from hp2] at hx;dsimp only at hx
   cases hp3:yb op with
   | true=>
    rw [show yb (Oper.mk dst op ty pos after guard).op=true from hp3] at hx;rw [<-uT] at hx;obtain ⟨B,f,h1,h2⟩:=DD hp3 hx;have key:bm S.P (ct S.gl (fr tm)) ⟨dst,op,ty,pos,after,guard⟩=none/\aU S.P (ct S.gl (fr tm)) ⟨dst,op,ty,pos,after,guard⟩ h=none:=by
     clear hx conf go hkind hp ho h1 h2 hp2;revert hp3
     cases op <;> intro hp3 <;> first | exact ⟨rfl,rfl⟩ | cases hp3
    rw [key.1];dsimp only;rw [key.2];dsimp only;rw [h1];exact go _ (.alloc B (f (base+j))) h _ (by simp) h2
   | false=>
   rw [show yb (Oper.mk dst op ty pos after guard).op=false from hp3] at hx;dsimp only at hx;have hp4:q8 op=true:=by
    have hk:(gC op || AY op || yb op || q8 op)=true:=hkind;rw [hp,hp2,hp3] at hk; exact hk
   have hx:=mf (E:=fr tm) (by rw [uT]; exact Cz hx);generalize ax h base (pd.filter fun p=>cj (e7 ops) j p.1)=hs at hx ⊢;have key:(∀ h,bm S.P (ct S.gl (fr tm)) ⟨dst,op,ty,pos,after,guard⟩=none/\aU S.P (ct S.gl (fr tm)) ⟨dst,op,ty,pos,after,guard⟩ h=none/\aM S.P (ct S.gl (fr tm)) ⟨dst,op,ty,pos,after,guard⟩=none)/\
     ∀ K:VH,eQ S (fr tm) ⟨dst,op,ty,pos,after,guard⟩ hs K->r6 S (fr tm) ⟨dst,op,ty,pos,after,guard⟩ hs K:=by
    clear hx conf go hkind hp ho hp2 hp3;revert hp4
    cases op with
    | store t a x=>intro _; exact ⟨fun _=>⟨rfl,rfl,rfl⟩,fun K hx=>by rw [ls _ _ _ _ _ rfl rfl rfl rfl] at hx; exact hx⟩
    | call c=>
     obtain ⟨callee,args,ats⟩:=c
     cases callee with
     | value f=>intro _; exact ⟨fun _=>⟨rfl,rfl,rfl⟩,fun K hx=>hx⟩
     | builtin b=>cases b <;> intro hp4 <;> first | exact ⟨fun _=>⟨rfl,rfl,rfl⟩,fun K hx=>by rw [ls _ _ _ _ _ rfl rfl rfl rfl] at hx; exact hx⟩ | cases hp4
     | _=>intro hp; cases hp
    | _=>intro hp; cases hp
   rw [(key.1 h).1];dsimp only;rw [(key.1 h).2.1];dsimp only;rw [(key.1 h).2.2];dsimp only;exact sa (fun v g hx=>go v (.eff v g) g _ (fun _ _ _=>hp4) hx) (key.2 _ hx)
  ·rw [rC] at hx;rw [w7 hl hd.1];exact qo hst hR l (j+1) _ h _ _ (by rw [gh]; exact hl) hd.2 hdr' (by simp [hrl]) (conf .skip (by simp)) hx
theorem eB {S:Sx}{nm:Nat}{M:List (List Nat×List Nat)}: ∀ (c:Code){p:List Nat}{tm:TS}{h:Heap}{Q:cq}{Q':t8},tm.length=nm->cY nm c=true->(∀ x tm h,tm.length=nm->Q x tm h->Q' x (fr tm) h)->wpS S nm M p c tm h Q->Hb S nm c (fr tm) h Q'
 | .skip,_,_,_,_,_,hl,_,hQ,hx=>hQ _ _ _ hl hx
 | .exit _,_,_,_,_,_,hl,_,hQ,hx=>hQ _ _ _ hl hx
 | .ret,_,_,_,_,_,hl,_,hQ,hx=>hQ _ _ _ hl hx
 | .label _,_,_,_,_,_,hl,_,hQ,hx=>hQ _ _ _ hl hx
 | .region _ ops draw,p,tm,h,Q,Q',hl,hd,hQ,hx=>by
  cases draw with
  | false=>exact nL (fun tm h hl hx=>hQ _ _ _ hl hx) ops.toList hl hd hx
  | true=>
   cases hst:kw ops with
   | true=>
    have hx:(match kw ops with | true=>oD S (cj (e7 ops)) ops h.next (room h ops.size) ops.toList 0 tm (room h ops.size) [] [] fun tm h=>Q .normal tm h | false=>_):=hx;rw [hst] at hx;refine ⟨?_,qo hst (fun tm h hl hx=>hQ _ _ _ hl hx) ops.toList 0 tm _ [] [] hl hd rfl rfl (fun k r h=>by simp at h) hx⟩;unfold kw at hst;simp only [and_eq_true] at hst;simpa using hst.1.1
   | false=>
   have hx:(match kw ops with | true=>_ | false=>LM S ops (fr tm) h (Kb nm fun tm h=>Q .normal tm h)):=hx;rw [hst] at hx;refine Im (fun E h hx=> ?_) (show LM S ops (fr tm) h (Kb nm fun tm h=>Q .normal tm h) from hx);obtain ⟨tm',h1,rfl,h2⟩:=hx;exact hQ _ _ _ h1 h2
 | .seq a b,p,tm,h,Q,Q',hl,hd,hQ,hx=>by
  simp only [cY,and_eq_true] at hd;refine eB a hl hd.1 (fun x tm h hl hx=> ?_) hx
  cases x with
  | normal=>exact eB b hl hd.2 hQ hx
  | _=>exact hQ _ _ _ hl hx
 | .cond c a b,p,tm,h,Q,Q',hl,hd,hQ,hx=>by
  simp only [cY,and_eq_true] at hd;rw [Gn,uT];simp only [wpS] at hx;unfold KM at hx;split at hx
  ·next t he=>
   rw [he];rcases oe hx with ⟨rfl,h1⟩ | ⟨rfl,h1⟩
   ·exact eB a hl hd.1 hQ h1
   ·exact eB b hl hd.2 hQ h1
  ·exact hx.elim
 | .block id c,p,tm,h,Q,Q',hl,hd,hQ,hx=>by
  refine eB c hl hd (fun x tm h hl hx=> ?_) hx
  cases x with
  | exit id'=>
   show if id'=id then Q' .normal (fr tm) h else Q' (.exit id') (fr tm) h;simp only [Cp] at hx
   cases hb:Nat.beq id' id with
   | true=>
    rw [hb] at hx;rw [if_pos (Nat.eq_of_beq_eq_true hb)]; exact hQ _ _ _ hl hx
   | false=>
    rw [hb] at hx;rw [if_neg (Nat.ne_of_beq_eq_false hb)]; exact hQ _ _ _ hl hx
  | _=>exact hQ _ _ _ hl hx
 | .loop c,p,tm,h,Q,Q',hl,hd,hQ,hx=>by
  obtain ⟨x,E',h',h1,h2⟩:=(show vc S nm c (fr tm) h (vr nm Q) from AP hl hx)
  refine ⟨x,E',h',h1,?_⟩;obtain ⟨tm',h3,rfl,h4⟩:=h2;exact hQ _ _ _ h3 h4
 | .rangeFunc f ps a b,p,tm,h,Q,Q',hl,hd,hQ,hx=>by
  obtain ⟨x,E',h',h1,h2⟩:=(show BM S nm (.rangeFunc f ps a b) (fr tm) h (vr nm Q) from hx)
  refine ⟨x,E',h',h1,?_⟩;obtain ⟨tm',h3,rfl,h4⟩:=h2;exact hQ _ _ _ h3 h4
 | .scope _,_,_,_,_,_,_,_,_,hx=>hx.elim
 | .goto _,_,_,_,_,_,_,_,_,hx=>hx.elim
 | .refuse _,_,_,_,_,_,_,_,_,hx=>hx.elim
def Om (I:Nat->TH)(n:Nat)(tm:TS)(h:Heap):Prop:= ∃ m,m < n/\I m tm h
def Ld (I:Nat->TH)(n:Nat)(Q:cq)(x:Exit)(tm:TS)(h:Heap):Prop:=match x with
 | .normal=>Om I n tm h
 | x=>Q x tm h
def CC:Code->Nat->Oper
 | .region _ ops _,i=>ops.toList.getD i ⟨none,.nilCheck (.tmp 0),0,"",#[],none⟩
 | _,_=>⟨none,.nilCheck (.tmp 0),0,"",#[],none⟩
def dw:List Nat->Code->Code
 | [],c=>c
 | 0::p,.seq a _=>dw p a
 | _::p,.seq _ b=>dw p b
 | 0::p,.cond _ a _=>dw p a
 | _::p,.cond _ _ b=>dw p b
 | _::p,.block _ a=>dw p a
 | _::p,.loop a=>dw p a
 | 0::p,.rangeFunc _ _ a _=>dw p a
 | _::p,.rangeFunc _ _ _ b=>dw p b
 | _,_=> .skip
theorem BX {S:Sx}{nm:Nat}{M:List (List Nat×List Nat)}{p:List Nat}{c:Code}{Q:cq}(hd:cY nm c=true)(I:Nat->TH)(hI: ∀ n tm h,tm.length=nm->I n tm h->wpS S nm M p c tm h (Ld I n Q)): ∀ n tm h,tm.length=nm->I n tm h->CO S nm c tm h Q:=by
 intro n
 induction n using Nat.strongRecOn with
 | _ n ih=>
  intro tm h hl hi;refine GA hd (eB c hl hd (fun x tm h hl hx=> ?_) (hI n tm h hl hi))
  cases x with
  | normal=>
   obtain ⟨m,hm,hi'⟩:=hx;exact ih m hm tm h hl hi'
  | _=>exact ⟨tm,hl,rfl,hx⟩
def aF (A:Nat->List Value->Heap->Prop)(n:Nat)(w:List Value)(h:Heap):Prop:= ∃ m,m < n/\A m w h
def LP (M:List Nat)(A:Nat->List Value->Heap->Prop)(n:Nat)(Q:cq)(x:Exit)(tm:TS)(h:Heap):Prop:=match x with
 | .normal=>aF A n (M.map (my tm)) h
 | x=>Q x tm h
theorem aj {A B:Prop}(h:A)(e:A=B:=by kernel_rfl):B:=cast e h
def Mf (S:Sx)(nm:Nat)(M:List (List Nat×List Nat)):List Nat->List Nat->Code->cq->cq
 | _,[],_,K=>K
 | p,0::q,.seq a b,K=>Mf S nm M (0::p) q a (MZ (fun tm h=>wpS S nm M (1::p) b tm h K) K)
 | p,_::q,.seq _ b,K=>Mf S nm M (1::p) q b K
 | p,0::q,.cond _ a _,K=>Mf S nm M (0::p) q a K
 | p,_::q,.cond _ _ b,K=>Mf S nm M (1::p) q b K
 | p,_::q,.block id a,K=>Mf S nm M (0::p) q a (Cp id K)
 | _,_,_,K=>K
def LL (S:Sx)(X:FD)(p:List Nat)(w:List Value)(h:Heap)(Q:cq):Prop:=KE S X.nm (pB X.ms p) (dw p X.body) w h Q
def TT (S:Sx)(X:FD)(p:List Nat)(tm:TS)(h:Heap)(Q:cq):Prop:=wpS S X.nm X.ms p.reverse (dw p X.body) tm h Q
def KK (S:Sx)(X:FD)(q p:List Nat)(K:cq):cq:=Mf S X.nm X.ms p.reverse q (dw p X.body) K
def RR (X:FD)(p:List Nat)(A:Nat->List Value->Heap->Prop)(n:Nat)(Q:cq):cq:=LP (pB X.ms p) A n Q
theorem uC {S:Sx}{X:FD}{p:List Nat}{K:cq}(A:Nat->List Value->Heap->Prop)(hd:cY X.nm (dw p X.body)=true)
  (step: ∀ n w (x:Nat->Value) h,A n w h->TT S X p (qf X.nm 0 ((pB X.ms p).zip w) x) h (RR X p A n K)) (n:Nat) {w:List Value} {h:Heap} (hA:A n w h) (hq: ∀ x:Nat->Value,(pB X.ms p).map (my (qf X.nm 0 ((pB X.ms p).zip w) x))=w):LL S X p w h K:=fun x=>
 BX (M:=X.ms) (p:=p.reverse) hd (fun m tm h=>A m ((pB X.ms p).map (my tm)) h) (fun m tm h hl hi=>by
  have:=step m ((pB X.ms p).map (my tm)) (my tm) h hi;rw [y5 hl] at this;exact this) n _ h (rv ..) (by rw [hq x]; exact hA)
def gM {α:Type}(W:α->LV)(I:Nat->α->Heap->Prop)(n:Nat)(w:LV)(h:Heap):Prop:= ∃ a,w=W a/\I n a h
theorem cA {α:Type}{W:α->LV}{I:Nat->α->Heap->Prop}{n:Nat}(m:Nat){a:α}{h:Heap}(hm:m < n)(hi:I m a h):aF (gM W I) n (W a) h:=⟨m,hm,a,rfl,hi⟩
theorem cQ {S:Sx}{X:FD}{p:List Nat}{K:cq}{α:Type}(W:α->LV)(I:Nat->α->Heap->Prop)
  (step: ∀ n (a:α) (x:Nat->Value) h,I n a h->TT S X p (qf X.nm 0 ((pB X.ms p).zip (W a)) x) h (RR X p (gM W I) n K)) (n:Nat) {a:α} {h:Heap} (hi:I n a h) (hd:cY X.nm (dw p X.body)=true:=by kernel_rfl) (hq: ∀ x:Nat->Value,(pB X.ms p).map (my (qf X.nm 0 ((pB X.ms p).zip (W a)) x))=W a:=by intro; kernel_rfl):LL S X p (W a) h K:=
 uC (gM W I) hd (fun n w x h ⟨a,hw,hi⟩=>by subst hw; exact step n a x h hi) n ⟨a,rfl,hi⟩ hq
def sy {α β:Type}(W:α->β->LV)(I:Nat->α->β->Heap->Prop)(n:Nat)(w:LV)(h:Heap):Prop:= ∃ a b,w=W a b/\I n a b h
theorem iL {α β:Type}{W:α->β->LV}{I:Nat->α->β->Heap->Prop}{n:Nat}(m:Nat){a:α}{b:β}{h:Heap}(hm:m < n)(hi:I m a b h):aF (sy W I) n (W a b) h:=⟨m,hm,a,b,rfl,hi⟩
theorem mT {S:Sx}{X:FD}{p:List Nat}{K:cq}{α β:Type}(W:α->β->LV)(I:Nat->α->β->Heap->Prop)
  (step: ∀ n (a:α) (b:β) (x:Nat->Value) h,I n a b h->TT S X p (qf X.nm 0 ((pB X.ms p).zip (W a b)) x) h (RR X p (sy W I) n K)) (n:Nat) {a:α} {b:β} {h:Heap} (hi:I n a b h) (hd:cY X.nm (dw p X.body)=true:=by kernel_rfl) (hq: ∀ x:Nat->Value,(pB X.ms p).map (my (qf X.nm 0 ((pB X.ms p).zip (W a b)) x))=W a b:=by intro; kernel_rfl):LL S X p (W a b) h K:=
 uC (sy W I) hd (fun n w x h ⟨a,b,hw,hi⟩=>by subst hw; exact step n a b x h hi) n ⟨a,b,rfl,hi⟩ hq
def Lg {α β γ:Type}(W:α->β->γ->LV)(I:Nat->α->β->γ->Heap->Prop)(n:Nat)(w:LV)(h:Heap):Prop:= ∃ a b c,w=W a b c/\I n a b c h
theorem xu {α β γ:Type}{W:α->β->γ->LV}{I:Nat->α->β->γ->Heap->Prop}{n:Nat}(m:Nat){a:α}{b:β}{c:γ}{h:Heap}(hm:m < n)(hi:I m a b c h):aF (Lg W I) n (W a b c) h:=⟨m,hm,a,b,c,rfl,hi⟩
theorem HX {S:Sx}{X:FD}{p:List Nat}{K:cq}{α β γ:Type}(W:α->β->γ->LV)(I:Nat->α->β->γ->Heap->Prop)
  (step: ∀ n (a:α) (b:β) (c:γ) (x:Nat->Value) h,I n a b c h->TT S X p (qf X.nm 0 ((pB X.ms p).zip (W a b c)) x) h (RR X p (Lg W I) n K)) (n:Nat) {a:α} {b:β} {c:γ} {h:Heap} (hi:I n a b c h) (hd:cY X.nm (dw p X.body)=true:=by kernel_rfl) (hq: ∀ x:Nat->Value,(pB X.ms p).map (my (qf X.nm 0 ((pB X.ms p).zip (W a b c)) x))=W a b c:=by intro; kernel_rfl):LL S X p (W a b c) h K:=
 uC (Lg W I) hd (fun n w x h ⟨a,b,c,hw,hi⟩=>by subst hw; exact step n a b c x h hi) n ⟨a,b,c,rfl,hi⟩ hq
def xh {α β γ δ:Type}(W:α->β->γ->δ->LV)(I:Nat->α->β->γ->δ->Heap->Prop)(n:Nat)(w:LV)(h:Heap):Prop:= ∃ a b c d,w=W a b c d/\I n a b c d h
theorem tp {α β γ δ:Type}{W:α->β->γ->δ->LV}{I:Nat->α->β->γ->δ->Heap->Prop}{n:Nat}(m:Nat){a:α}{b:β}{c:γ}{d:δ}{h:Heap}(hm:m < n)(hi:I m a b c d h):aF (xh W I) n (W a b c d) h:=⟨m,hm,a,b,c,d,rfl,hi⟩
theorem zr {S:Sx}{X:FD}{p:List Nat}{K:cq}{α β γ δ:Type}(W:α->β->γ->δ->LV)(I:Nat->α->β->γ->δ->Heap->Prop)
  (step: ∀ n (a:α) (b:β) (c:γ) (d:δ) (x:Nat->Value) h,I n a b c d h->TT S X p (qf X.nm 0 ((pB X.ms p).zip (W a b c d)) x) h (RR X p (xh W I) n K)) (n:Nat) {a:α} {b:β} {c:γ} {d:δ} {h:Heap} (hi:I n a b c d h) (hd:cY X.nm (dw p X.body)=true:=by kernel_rfl) (hq: ∀ x:Nat->Value,(pB X.ms p).map (my (qf X.nm 0 ((pB X.ms p).zip (W a b c d)) x))=W a b c d:=by intro; kernel_rfl):LL S X p (W a b c d) h K:=
 uC (xh W I) hd (fun n w x h ⟨a,b,c,d,hw,hi⟩=>by subst hw; exact step n a b c d x h hi) n ⟨a,b,c,d,rfl,hi⟩ hq
def Ci {α β γ δ ε:Type}(W:α->β->γ->δ->ε->LV)(I:Nat->α->β->γ->δ->ε->Heap->Prop)(n:Nat)(w:LV)(h:Heap):Prop:= ∃ a b c d e,w=W a b c d e/\I n a b c d e h
theorem m7 {α β γ δ ε:Type}{W:α->β->γ->δ->ε->LV}{I:Nat->α->β->γ->δ->ε->Heap->Prop}{n:Nat}(m:Nat){a:α}{b:β}{c:γ}{d:δ}{e:ε}{h:Heap}(hm:m < n)(hi:I m a b c d e h):aF (Ci W I) n (W a b c d e) h:=⟨m,hm,a,b,c,d,e,rfl,hi⟩
theorem FU {S:Sx}{X:FD}{p:List Nat}{K:cq}{α β γ δ ε:Type}(W:α->β->γ->δ->ε->LV)(I:Nat->α->β->γ->δ->ε->Heap->Prop)
  (step: ∀ n (a:α) (b:β) (c:γ) (d:δ) (e:ε) (x:Nat->Value) h,I n a b c d e h->TT S X p (qf X.nm 0 ((pB X.ms p).zip (W a b c d e)) x) h (RR X p (Ci W I) n K)) (n:Nat) {a:α} {b:β} {c:γ} {d:δ} {e:ε} {h:Heap} (hi:I n a b c d e h) (hd:cY X.nm (dw p X.body)=true:=by kernel_rfl) (hq: ∀ x:Nat->Value,(pB X.ms p).map (my (qf X.nm 0 ((pB X.ms p).zip (W a b c d e)) x))=W a b c d e:=by intro; kernel_rfl):LL S X p (W a b c d e) h K:=
 uC (Ci W I) hd (fun n w x h ⟨a,b,c,d,e,hw,hi⟩=>by subst hw; exact step n a b c d e x h hi) n ⟨a,b,c,d,e,rfl,hi⟩ hq
def No {α β γ δ ε ζ:Type}(W:α->β->γ->δ->ε->ζ->LV)(I:Nat->α->β->γ->δ->ε->ζ->Heap->Prop)(n:Nat)(w:LV)(h:Heap):Prop:= ∃ a b c d e f,w=W a b c d e f/\I n a b c d e f h
theorem Nd {α β γ δ ε ζ:Type}{W:α->β->γ->δ->ε->ζ->LV}{I:Nat->α->β->γ->δ->ε->ζ->Heap->Prop}{n:Nat}(m:Nat){a:α}{b:β}{c:γ}{d:δ}{e:ε}{f:ζ}{h:Heap}(hm:m < n)(hi:I m a b c d e f h):aF (No W I) n (W a b c d e f) h:=⟨m,hm,a,b,c,d,e,f,rfl,hi⟩
theorem ML {S:Sx}{X:FD}{p:List Nat}{K:cq}{α β γ δ ε ζ:Type}(W:α->β->γ->δ->ε->ζ->LV)(I:Nat->α->β->γ->δ->ε->ζ->Heap->Prop)
  (step: ∀ n (a:α) (b:β) (c:γ) (d:δ) (e:ε) (f:ζ) (x:Nat->Value) h,I n a b c d e f h->TT S X p (qf X.nm 0 ((pB X.ms p).zip (W a b c d e f)) x) h (RR X p (No W I) n K)) (n:Nat) {a:α} {b:β} {c:γ} {d:δ} {e:ε} {f:ζ} {h:Heap} (hi:I n a b c d e f h) (hd:cY X.nm (dw p X.body)=true:=by kernel_rfl) (hq: ∀ x:Nat->Value,(pB X.ms p).map (my (qf X.nm 0 ((pB X.ms p).zip (W a b c d e f)) x))=W a b c d e f:=by intro; kernel_rfl):LL S X p (W a b c d e f) h K:=
 uC (No W I) hd (fun n w x h ⟨a,b,c,d,e,f,hw,hi⟩=>by subst hw; exact step n a b c d e f x h hi) n ⟨a,b,c,d,e,f,rfl,hi⟩ hq
def RG (S:Sx)(X:FD)(p:List Nat)(tm:TS)(h:Heap)(Q:cq):Prop:=Cd S X.nm (dw p X.body) tm h Q
theorem Cf {S:Sx}{nm:Nat}{f:Operand}{ps:Array Tmp}{asg body:Code}{tm:TS}{h:Heap}{Q:cq}{g:Nat}{first cap:Array Value}(hl:tm.length=nm)(hf:ev S.gl tm f = .func (.func g) first cap)(hc:j5 asg body=true)(hg:g < YB/\sI S.P g=true)
  (hx:FW S g (first.toList++[.func (.yield h.next) #[] #[]]++cap.toList) (h.push (.loop .ready tm ps.toList asg body hc)) fun _ h2=> ∃ e,vQ (h2.get h.next)=some e/\Q e tm (h2.del h.next)):Cd S nm (.rangeFunc f ps asg body) tm h Q:=by
 obtain ⟨v,h2,⟨n0,hr⟩,e,he,hq⟩:=hx;refine ⟨e,fr tm,h2.del h.next,⟨n0,fun n N hn _ tm' ht=>⟨tm',ht,?_⟩⟩,tm,hl,rfl,hq⟩;have htm:tm'=tm:=by
  refine List.ext_getElem? fun i=> ?_;have h1:=ht.2 i;unfold fr at h1;by_cases hi:i < nm
  ·have e1:tm'[i]?=some (tm'.getD i undef):=by rw [gD,gE (by rw [ht.1]; exact hi)]; rfl
   have e2:tm[i]?=some (tm.getD i undef):=by rw [gD,gE (by omega)]; rfl
   rw [e1,e2,h1]
  ·rw [getElem?_eq_none (by rw [ht.1]; omega),getElem?_eq_none (by omega)]
 subst htm;simp only [aP];rw [hf];dsimp only;rw [dif_pos hc,if_pos hg,hr n hn];dsimp only;rw [he]; rfl
theorem A9 {S:Sx}{nm:Nat}{M:List (List Nat×List Nat)}{p0 p1:List Nat}{k:Nat}{args:List Value}{tm:TS}{ps:List Tmp}{asg body:Code}{hc:j5 asg body=true}{h:Heap}{K:VH}(hk:h.get k=some (.loop .ready tm ps asg body hc))(hlen:args.length=ps.length)(hl:(i7 tm (ps.zip args)).length=nm)(d0:cY nm asg=true)(d1:cY nm body=true)
  (hx:wpS S nm M p0 asg (i7 tm (ps.zip args)) h fun e tm1 h1=>e = .normal/\h1.get k=some (.loop .ready tm ps asg body hc)/\wpS S nm M p1 body tm1 (h1.set k (.loop .busy tm ps asg body hc)) fun e _ h2=>h2.get k=some (.loop .busy tm ps asg body hc)/\ ∃ b st,qR e=some (b,st)/\K (.bool b) (h2.set k (.loop st tm ps asg body hc))):FW S (YB+k) args h K:=by
 have h1:=eB (Q':=vr nm fun e tm1 h1=>e = .normal/\h1.get k=some (.loop .ready tm ps asg body hc)/\wpS S nm M p1 body tm1 (h1.set k (.loop .busy tm ps asg body hc)) fun e _ h2=>h2.get k=some (.loop .busy tm ps asg body hc)/\ ∃ b st,qR e=some (b,st)/\K (.bool b) (h2.set k (.loop st tm ps asg body hc))) asg hl d0 (fun x tm h hl hx=>⟨tm,hl,rfl,hx⟩) hx;obtain ⟨x,E1,h1,⟨n1,hr1⟩,tm1,hl1,rfl,rfl,hk1,h2⟩:=ew asg d0 h1;have h2:=eB (Q':=vr nm fun e _ h2=>h2.get k=some (.loop .busy tm ps asg body hc)/\ ∃ b st,qR e=some (b,st)/\K (.bool b) (h2.set k (.loop st tm ps asg body hc))) body hl1 d1 (fun x tm h hl hx=>⟨tm,hl,rfl,hx⟩) h2;obtain ⟨x,E2,h2,⟨n2,hr2⟩,tm2,hl2,rfl,hk2,b,st,hls,hK⟩:=ew body d1 h2;refine ⟨_,_,⟨max n1 n2+1,fun n hn=> ?_⟩,hK⟩;obtain ⟨n',rfl⟩: ∃ n',n=n'+1:=⟨n - 1,by omega⟩
 obtain ⟨t1,ht1,e1⟩:=hr1 n' n' (by omega) (by omega) _ (GI hl);obtain ⟨t2,ht2,e2⟩:=hr2 n' n' (by omega) (by omega) _ ht1;simp only [aT];rw [if_pos (by omega),Nat.add_sub_cancel_left];unfold oQ;rw [hk];dsimp only;rw [if_pos hlen,e1];dsimp only;rw [hk1];dsimp only;rw [e2];dsimp only;rw [hk2,hls]
theorem uX: ∀ (l:List (Tmp×Value))(tm:TS),(i7 tm l).length=tm.length
 | [],_=>rfl
 | p::l,tm=>by
  show (i7 (tm.set p.1 p.2) l).length=_;rw [uX l,List.length_set]
theorem My {S:Sx}{X:FD}{p:List Nat}{f:Operand}{ps:Array Tmp}{tm:TS}{h:Heap}{Q:cq}{g:Nat}{first cap:List Value}(he:dw p X.body = .rangeFunc f ps (dw (p++[0]) X.body) (dw (p++[1]) X.body))(hl:tm.length=X.nm)(hf:ev S.gl tm f = .func (.func g) ⟨first⟩ ⟨cap⟩)(hc:j5 (dw (p++[0]) X.body) (dw (p++[1]) X.body)=true)(hg:g < YB/\sI S.P g=true)
  (hx:FW S g (first++[.func (.yield h.next) ⟨[]⟩ ⟨[]⟩]++cap) (h.push (.loop .ready tm ps.toList (dw (p++[0]) X.body) (dw (p++[1]) X.body) hc)) fun _ h2=> ∃ e,vQ (h2.get h.next)=some e/\Q e tm (h2.del h.next)):RG S X p tm h Q:=by
 unfold RG;rw [he];exact Cf hl hf hc hg hx
theorem GY {S:Sx}{X:FD}{p:List Nat}{k:Nat}{args:List Value}{tm:TS}{ps:List Tmp}{hc:j5 (dw (p++[0]) X.body) (dw (p++[1]) X.body)=true}{h:Heap}{K:VH}(hk:h.get k=some (.loop .ready tm ps (dw (p++[0]) X.body) (dw (p++[1]) X.body) hc))(hlen:args.length=ps.length)(hl:tm.length=X.nm)(d0:cY X.nm (dw (p++[0]) X.body)=true)(d1:cY X.nm (dw (p++[1]) X.body)=true)
  (hx:TT S X (p++[0]) (i7 tm (ps.zip args)) h fun e tm1 h1=>e = .normal/\h1.get k=some (.loop .ready tm ps (dw (p++[0]) X.body) (dw (p++[1]) X.body) hc)/\TT S X (p++[1]) tm1 (h1.set k (.loop .busy tm ps (dw (p++[0]) X.body) (dw (p++[1]) X.body) hc)) fun e _ h2=>h2.get k=some (.loop .busy tm ps (dw (p++[0]) X.body) (dw (p++[1]) X.body) hc)/\ ∃ b st,qR e=some (b,st)/\K (.bool b) (h2.set k (.loop st tm ps (dw (p++[0]) X.body) (dw (p++[1]) X.body) hc))):FW S (YB+k) args h K:=
 A9 hk hlen (by rw [uX]; exact hl) d0 d1 hx
noncomputable def Cq (S:Sx)(tm:TS)(h:Heap):List ResultVar->Option (List Value)
 | []=>some []
 | .tmp t::r=>(Cq S tm h r).map (tm.getD t undef :: ·)
 | .cell a t::r=>match ah S.P t h (tm.getD a undef) with
  | some v=>(Cq S tm h r).map (v :: ·)
  | none=>none
theorem ry (S:Sx)(tm:TS)(h:Heap): ∀ l,mB S (fr tm) h l=Cq S tm h l
 | []=>rfl
 | .tmp t::r=>by simp only [mB,Cq,ry S tm h r,fr]
 | .cell a t::r=>by simp only [mB,Cq,ry S tm h r,fr]; try (cases ah S.P t h (tm.getD a undef) <;> rfl)
noncomputable def MN (S:Sx)(rs:List ResultVar)(Q:VH)(x:Exit)(tm:TS)(h:Heap):Prop:=match x with
 | .normal=>qH (Cq S tm h rs) h Q
 | .ret=>qH (Cq S tm h rs) h Q
 | _=>False
noncomputable def H0 (S:Sx)(h:Heap):List (Value×Option TypeId)->Option (List Value)
 | []=>some []
 | (v,none)::r=>(H0 S h r).map (v :: ·)
 | (a,some t)::r=>match ah S.P t h a with
  | some v=>(H0 S h r).map (v :: ·)
  | none=>none
noncomputable def dH (S:Sx)(l:List (Value×Option TypeId))(h:Heap)(Q:VH):Prop:=qH (H0 S h l) h Q
theorem tw {S:Sx}{a:Value}{t:TypeId}{v:Value}{h:Heap}{Q:VH}(hl:ah S.P t h a=some v)(hq:Q v h):dH S [(a,some t)] h Q:=by
 unfold dH;simp only [H0,hl];exact hq
theorem oX {S:Sx}{a:Value}{t:TypeId}{v w:Value}{h:Heap}{Q:VH}(hl:ah S.P t h a=some v)(hq:Q (.tuple ⟨[v,w]⟩) h):dH S [(a,some t),(w,none)] h Q:=by
 unfold dH;simp only [H0,hl];exact hq
noncomputable def EE (S:Sx)(X:FD)(Q:VH):cq:=MN S X.rs Q
theorem cE {S:Sx}(X:FD){f:FuncId}{fn:Func}{args:List Value}{h:Heap}{Q:VH}(hf:S.P.funcs[f]?=some fn)
  (hw:wpS S X.nm X.ms [] X.body (args++List.replicate (X.nm - args.length) undef) h (EE S X Q)) (hX:X=cB fn X.ms:=by kernel_rfl) (hp:(Nat.blt f YB && (S.pr f).isNone && Nat.ble args.length X.nm && cY X.nm X.body && fn.body.isSome)=true:=by kernel_rfl):FW S f args h Q:=by
 have e1:X.nm=fn.ntmps:=by rw [hX]; rfl
 have e2:X.body=fn.body.getD .skip:=by rw [hX]; rfl
 have e3:X.rs=fn.results.toList:=by rw [hX]; rfl
 unfold EE at hw;rw [e1,e2,e3] at hw;rw [e1,e2] at hp;simp only [and_eq_true,blt_eq,Nat.ble_eq,Option.isNone_iff_eq_none] at hp;obtain ⟨⟨⟨⟨h1,h2⟩,h3⟩,h4⟩,h5⟩:=hp;obtain ⟨c,hb⟩:=Option.isSome_iff_exists.1 h5;rw [hb] at hw h4;have hw:wpS S fn.ntmps X.ms [] c (args++List.replicate (fn.ntmps - args.length) undef) h (MN S fn.results.toList Q):=hw;have h4:cY fn.ntmps c=true:=h4;have hl:(args++List.replicate (fn.ntmps - args.length) undef).length=fn.ntmps:=by simp; omega
 have he:fr (args++List.replicate (fn.ntmps - args.length) undef)=KV args:=by
  funext t;show (args++List.replicate (fn.ntmps - args.length) undef).getD t undef=args.getD t undef;simp only [gD];by_cases h5:t < args.length
  ·rw [List.getElem?_append_left h5]
  ·rw [List.getElem?_append_right (by omega),getElem?_eq_none (l:=args) (by omega),getElem?_replicate];split <;> rfl
 refine Mx hf hb h1 h2 h3 h4 ?_;rw [<-he];refine eB c hl h4 (fun x tm h _ hx=> ?_) hw
 cases x with
 | normal=>show qH (mB S (fr tm) h _) h Q; rw [ry]; exact hx
 | ret=>show qH (mB S (fr tm) h _) h Q; rw [ry]; exact hx
 | _=>exact hx.elim
theorem aq {n:Int}(h1: -9223372036854775808<=n)(h2:n < 9223372036854775808):wrap .i64 n=n:=by rw [IntKind.wrap_i64]; omega
theorem cC {n:Int}(h1:0<=n)(h2:n < 18446744073709551616):wrap .u64 n=n:=by
 rw [IntKind.wrap_u64]; omega
theorem pR {n:Int}(h1:0<=n)(h2:n < 256):wrap .u8 n=n:=by
 rw [IntKind.wrap_u8]; omega
theorem md {P:Program}{t:TypeId}(hU:P.underlying t=some .string)(l:List UInt8)(k:IntKind){i:Int}(h0:0<=i)(h1:i < l.length):be P t (aa l) (.int k i)=some (.int .u8 ((l.getD i.toNat 0).toNat:Nat)):=by
 unfold be aa;rw [hU];dsimp only;rw [if_pos h0,gD,gE (by omega)];rfl
theorem jq {P:Program}{t:TypeId}(hU:P.underlying t=some .string)(l:List UInt8){h:Heap}{lo hi:Option Value}{a b:Nat}(ha:bZ lo 0=some (a:Int))(hb:bZ hi l.length=some (b:Int))(h1:a<=b)(h2:b<=l.length):bh P t (aa l) lo hi none h=some (aa ((l.drop a).take (b - a))):=by
 unfold bh aa;dsimp only;rw [hU];dsimp only;have hb':bZ hi (l.length:Nat)=some (b:Int):=hb;show (match (none:Option Value),bZ lo 0,bZ hi l.length with | none,some l_1,some r=>_ | _,_,_=>none)=_;rw [ha,hb'];dsimp only;rw [if_pos (by omega)];have e1:(a:Int).toNat=a:=by omega
 have e2:((b:Int) - a).toNat=b - a:=by omega
 rw [e1,e2]
structure Ok (h0 h:Heap):Prop where
 wf: ∀ k B,h.get k=some B->k < h.next
 ext: ∀ k B,h0.get k=some B->h.get k=some B
 nx:h0.next<=h.next
def Wf (h:Heap):Prop:= ∀ k B,h.get k=some B->k < h.next
theorem Ok.refl {h:Heap}(w:Wf h):Ok h h:=⟨w,fun _ _ h=>h,le_refl _⟩
theorem Ok.trans {h0 h1 h2:Heap}(a:Ok h0 h1)(b:Ok h1 h2):Ok h0 h2:=⟨b.wf,fun k B h=>b.ext k B (a.ext k B h),le_trans a.nx b.nx⟩
theorem Ok.push {h0 h:Heap}(a:Ok h0 h)(B:Blk):Ok h0 (h.push B):=by
 refine ⟨Heap.wf_push a.wf B,fun k C hk=> ?_,le_trans a.nx (le_succ _)⟩;have h1:=a.ext k C hk;rw [Heap.get_push,if_neg (fun e=>by have:=a.wf _ _ h1; omega)];exact h1
theorem Ok.set {h0 h:Heap}(a:Ok h0 h){k:Nat}(B:Blk)(hk:h0.next<=k)(hk2:k < h.next)(w0:Wf h0):Ok h0 (h.set k B):=by
 refine ⟨fun j C hj=> ?_,fun j C hj=> ?_,a.nx⟩
 ·rw [Heap.get_set] at hj;split at hj
  ·next e=>rw [e]; exact hk2
  ·exact a.wf _ _ hj
 ·rw [Heap.get_set,if_neg (fun e=>by have:=w0 _ _ hj; omega)];exact a.ext _ _ hj
theorem Ok.room {h0 h:Heap}(a:Ok h0 h)(n:Nat):Ok h0 (room h n):=⟨fun k B hk=>lt_of_lt_of_le (a.wf k B hk) (le_add_right _ _),a.ext,le_trans a.nx (le_add_right _ _)⟩
def OwnR (h0 h:Heap)(e:TypeId)(v:Value)(vs:List Value):Prop:=
 (v = .slice none 0 0/\vs=[])\/ ∃ k cs,v = .slice (some ⟨k,0,none⟩) vs.length (bj+cs.length)/\h0.next<=k/\h.get k=some (.cells cs e 1 true)/\cs.take vs.length=vs/\vs.length<=cs.length
theorem OwnR.push {h0 h:Heap}{e:TypeId}{v:Value}{vs:List Value}(a:Ok h0 h)(o:OwnR h0 h e v vs)(B:Blk):OwnR h0 (h.push B) e v vs:=by
 rcases o with o | ⟨k,cs,h1,h2,h3,h4,h5⟩
 ·exact .inl o
 ·refine .inr ⟨k,cs,h1,h2,?_,h4,h5⟩;rw [Heap.get_push,if_neg (fun e=>by have:=a.wf _ _ h3; omega)];exact h3
theorem OwnR.snoc {P:Program}{t e:TypeId}{i:TypeInfo}(hU:P.underlying t=some (.slice e))(hE:dA P e=some i)(hs:i.size=1){h0 h:Heap}(w0:Wf h0)(a:Ok h0 h){v:Value}{vs:List Value}(o:OwnR h0 h e v vs){x:Value}(hx:bI x=true)(hl:(vs.length+1)*i.bytes<=70368744177664)(hl2:vs.length+1<=1099511627776):
  ∃ (b:Option Addr)(n c:Nat)(u:Upd),aJ P t t v (gH 1 1 h.next) (h.push (.cells [x] e 1 true))=some (.slice b n c,u)/\n=vs.length+1/\OwnR h0 (u.app (h.push (.cells [x] e 1 true))) e (.slice b n c) (vs++[x])/\Ok h0 (u.app (h.push (.cells [x] e 1 true))):=by
 have hT:ca P t=true:=by unfold ca; rw [hU]
 have hsrc:cz (h.push (.cells [x] e 1 true)) i.size (gH 1 1 h.next)=some ([x],1):=by
  show (match (h.push (.cells [x] e 1 true)).get h.next with | some (.cells cs ..)=>if ((cs.drop 0).take (1*i.size)).length=1*i.size then some ((cs.drop 0).take (1*i.size),1) else none | _=>none)=_;rw [Heap.get_push,if_pos rfl,hs]; rfl
 have hap:=OwnR.push a o (.cells [x] e 1 true);have a':=a.push (.cells [x] e 1 true);generalize hh:h.push (.cells [x] e 1 true)=g at *;have hgn:h.next < g.next:=by rw [<-hh]; exact Nat.lt_succ_self _
 unfold aJ;rw [hU]; dsimp only;rw [hE]; dsimp only;rw [if_pos hT,hsrc]; dsimp only;rw [if_pos (by simp [hx,hs])];rcases hap with ⟨rfl,rfl⟩ | ⟨k,cs,rfl,h2,h3,h4,h5⟩
 ·show ∃ b n c u,(if 1=0 then some (Value.slice none 0 0,Upd.no) else if 1*i.bytes<=70368744177664/\1<=1099511627776 then some (Value.slice (some ⟨g.next,0,none⟩) 1 (bj+1),Upd.push (.cells [x] e i.size true)) else none)=_/\_;rw [if_neg (by omega),if_pos (by simpa using And.intro hl hl2)];refine ⟨_,_,_,_,rfl,rfl,.inr ⟨g.next,[x],rfl,a'.nx,?_,rfl,by simp⟩,a'.push _⟩;show (g.push (.cells [x] e i.size true)).get g.next=_;rw [Heap.get_push,if_pos rfl,hs]
 ·dsimp only;rw [if_neg (by omega),hs,Nat.mul_one];have hcap:aI (bj+cs.length)=cs.length:=by unfold aI; rw [if_pos (by omega)]; omega
  rw [hcap];have hkn:=a'.wf _ _ h3;by_cases hroom:vs.length+1<=cs.length
  ·rw [if_pos hroom];unfold storeAt;rw [zero_add,h3];dsimp only;rw [if_pos ⟨by simp; omega,by simp [hx]⟩];refine ⟨_,_,_,_,rfl,rfl,.inr ⟨k,cs.take vs.length++[x]++cs.drop (vs.length+1),?_,h2,?_,?_,?_⟩,?_⟩
   ·simp only [length_append,length_cons,length_nil,length_take,List.length_drop];congr 1; omega
   ·show (g.set k _).get k=_;rw [Heap.get_set,if_pos rfl]; rfl
   ·have h6:(cs.take vs.length).length=vs.length:=by rw [length_take]; omega
    rw [length_append,append_assoc,<-append_assoc,List.take_append_of_le_length (by simp; omega),List.take_of_length_le (by simp; omega),h4]
   ·simp; omega
   ·exact a'.set _ h2 hkn w0
  ·rw [if_neg hroom];have hcl:cs.length=vs.length:=by omega
   unfold eZ;rw [if_pos ⟨hl,hl2⟩,h3];dsimp only;rw [Nat.mul_one,if_pos ⟨rfl,rfl,by simp; omega⟩,if_neg (by omega),if_pos ⟨rfl,by omega⟩];refine ⟨_,_,_,_,rfl,rfl,.inr ⟨g.next,vs++[x],?_,a'.nx,?_,?_,?_⟩,?_⟩
   ·rw [length_append]; rfl
   ·show ((g.del k).push _).get g.next=_;rw [Heap.get_push,if_pos (show g.next=(g.del k).next from rfl),List.drop_zero,h4]
   ·exact List.take_length
   ·exact le_refl _
   ·refine ⟨?_,fun j C hj=> ?_,le_trans a'.nx (le_succ _)⟩
    ·refine Heap.wf_push (fun j C hj=> ?_) _;rw [Heap.get_del] at hj;split at hj
     ·cases hj
     ·exact a'.wf _ _ hj
    ·have h7:=a'.ext _ _ hj;have h8:=a'.wf _ _ h7;show ((g.del k).push _).get j=_;rw [Heap.get_push,if_neg (fun e=>by have:j=g.next:=e; omega),Heap.get_del,if_neg (fun e=>by have:=w0 _ _ hj; omega)];exact h7
def Rd (h:Heap)(e:TypeId)(v:Value)(vs:List Value):Prop:=
 (v = .slice none 0 0/\vs=[])\/ ∃ k off cs c wr,v = .slice (some ⟨k,off,none⟩) vs.length c/\h.get k=some (.cells cs e 1 wr)/\(cs.drop off).take vs.length=vs
theorem OwnR.rd {h0 h:Heap}{e:TypeId}{v:Value}{vs:List Value}(o:OwnR h0 h e v vs):Rd h e v vs:=by
 rcases o with o | ⟨k,cs,h1,h2,h3,h4,h5⟩
 ·exact .inl o
 ·exact .inr ⟨k,0,cs,_,true,h1,h3,by simpa using h4⟩
theorem Rd.ok {h h':Heap}{e:TypeId}{v:Value}{vs:List Value}(r:Rd h e v vs)(o:Ok h h'):Rd h' e v vs:=by
 rcases r with r | ⟨k,off,cs,c,wr,h1,h2,h3⟩
 ·exact .inl r
 ·exact .inr ⟨k,off,cs,c,wr,h1,o.ext _ _ h2,h3⟩
theorem Rd.len {h:Heap}{e:TypeId}{a:Option Addr}{n c:Nat}{vs:List Value}(r:Rd h e (.slice a n c) vs):n=vs.length:=by
 rcases r with ⟨h1,rfl⟩ | ⟨k,off,cs,c,wr,h1,h2,h3⟩
 ·injection h1
 ·injection h1
theorem OwnR.len {h0 h:Heap}{e:TypeId}{a:Option Addr}{n c:Nat}{vs:List Value}(r:OwnR h0 h e (.slice a n c) vs):n=vs.length:=r.rd.len
theorem Rd.at_ {P:Program}{t e:TypeId}{d:TypeDesc}(hU:P.underlying t=some (.slice e))(hs:al P e=some 1)(hd:P.underlying e=some d)(hg:isAgg P e=false){h:Heap}{v:Value}{vs:List Value}(r:Rd h e v vs){k:IntKind}{i:Int}(h0:0<=i)(h1:i < vs.length):
  ∃ p:Addr,ag P t v (.int k i)=some (.pointer (some p))/\ah P e h (.pointer (some p))=some (vs.getD i.toNat undef):=by
 rcases r with ⟨_,rfl⟩ | ⟨b,off,cs,c,wr,rfl,h3,h4⟩
 ·simp at h1; omega
 ·refine ⟨⟨b,off+i.toNat*1,none⟩,?_,?_⟩
  ·unfold ag;rw [hU]; dsimp only;rw [hs]; dsimp only;rw [if_pos ⟨h0,h1⟩];simp [Addr.add]
  ·unfold ah;rw [hd]; dsimp only;rw [h3]; dsimp only;rw [hg];simp only [false_eq_true,if_false,Nat.mul_one];have h5:=congrArg (fun l=>l[i.toNat]?) h4;simp only [List.getElem?_take,getElem?_drop] at h5;rw [if_pos (by omega)] at h5;rw [h5,gD,gE (by omega)]; rfl
def sn (c:UInt8):Value:= .int .u8 (c.toNat:Nat)
theorem lH: ∀ l:List UInt8,bytesOf (l.map sn)=some l
 | []=>rfl
 | c::l=>by
  have hc:c.toNat < 256:=c.toNat_lt;show (if 0<=((c.toNat:Nat):Int)/\((c.toNat:Nat):Int) < 256 then (bytesOf (l.map sn)).map (UInt8.ofNat ((c.toNat:Nat):Int).toNat :: ·) else none)=_;rw [if_pos (by omega),lH l,Int.toNat_natCast];simp
theorem OwnR.ok {h0 h h':Heap}{e:TypeId}{v:Value}{vs:List Value}(r:OwnR h0 h e v vs)(o:Ok h h'):OwnR h0 h' e v vs:=by
 rcases r with r | ⟨k,cs,h1,h2,h3,h4,h5⟩
 ·exact .inl r
 ·exact .inr ⟨k,cs,h1,h2,o.ext _ _ h3,h4,h5⟩
theorem OwnR.upto {P:Program}{t e:TypeId}(hU:P.underlying t=some (.slice e))(hs:al P e=some 1){h0 h:Heap}{v:Value}{vs:List Value}(r:OwnR h0 h e v vs){z:Nat}(hz:z<=vs.length)(hp:0 < vs.length):
  ∃ a n c,bh P t v none (some (.int .i64 (z:Int))) none h=some (.slice a n c)/\OwnR h0 h e (.slice a n c) (vs.take z):=by
 rcases r with ⟨rfl,rfl⟩ | ⟨k,cs,rfl,h2,h3,h4,h5⟩
 ·simp at hp
 ·refine ⟨some ⟨k,0+0*1,none⟩,z,bj+cs.length,?_,.inr ⟨k,cs,?_,h2,h3,?_,?_⟩⟩
  ·unfold bh;dsimp only;rw [hU];dsimp only [bZ];rw [hs,h3];dsimp only;have hcap:aI (bj+cs.length)=cs.length:=by unfold aI; rw [if_pos (by omega)]; omega
   rw [if_pos (by simp),hcap,if_pos (by omega)];have e2:((z:Int) - ((0:Nat):Int)).toNat=z:=by omega
   have e0:((0:Nat):Int).toNat=0:=rfl;rw [e2,e0]; rfl
  ·rw [length_take,Nat.min_eq_left hz]
  ·rw [length_take,Nat.min_eq_left hz,<-h4,List.take_take,Nat.min_eq_left hz]
  ·rw [length_take]; omega
theorem pw (k:IntKind)(a b:Int):jl true [.int k a,.int k b]=some (.int k (if b > a then b else a)):=by simp [jl]
theorem cP {P:Program}{t:TypeId}{k:IntKind}{a:Int}{b:Nat}(h0:0<=a)(hb:0 < b):ak P .rem t (.int k a) (.int k (b:Int))=some (.int k (a % (b:Int))):=by
 rw [C0 P t k _ _ (by omega),Int.tmod_eq_emod_of_nonneg h0]
theorem jd {P:Program}{t:TypeId}{a:Int}{b:Nat}(h0:0<=a)(h1:a < 18446744073709551616)(hb:0 < b):ak P .quo t (.int .u64 a) (.int .u64 (b:Int))=some (.int .u64 (a / (b:Int))):=by
 rw [C3 P t .u64 _ _ (by omega),Int.tdiv_eq_ediv_of_nonneg h0,cC (Int.ediv_nonneg h0 (by omega)) (Int.lt_of_le_of_lt (Int.ediv_le_self _ h0) h1)]
def fq:List Nat->Code->Code->Code
 | [],n,_=>n
 | 0::p,n,.seq a b=> .seq (fq p n a) b
 | _::p,n,.seq a b=> .seq a (fq p n b)
 | 0::p,n,.cond c a b=> .cond c (fq p n a) b
 | _::p,n,.cond c a b=> .cond c a (fq p n b)
 | _::p,n,.block i c=> .block i (fq p n c)
 | _::p,n,.loop c=> .loop (fq p n c)
 | _::_,_,c=>c
theorem fb: ∀ (p:List Nat)(c:Code),fq p (dw p c) c=c
 | [],c=>rfl
 | i::p,c=>by
  cases c with
  | seq a b=>cases i <;> simp only [dw,fq,fb p]
  | cond c a b=>cases i <;> simp only [dw,fq,fb p]
  | block i c=>simp only [dw,fq,fb p]
  | loop c=>simp only [dw,fq,fb p]
  | _=>simp only [fq]
end Go.Ab
end
section
set_option linter.unusedVariables false
set_option maxRecDepth 100000
namespace Go.Proofs.YtoabjjimjldcfaaGreatDoor
open Go Go.Ab
noncomputable def EU:FD:=cB Tryz.f165 []
theorem Am (l m:LB)(h:Heap)(Q:VH)(hx:FW SS 177 [(aa l),(aa m)] h fun v1 h2=>yB v1 fun b3=>aB (!b3) (Q (.tuple ⟨[(aa l),(.bool false)]⟩) h2) (xS (bh SS.P 9 (aa l) (some (.int .i64 ((m:LB).length:Int))) none none h2) fun l4=>Q (.tuple ⟨[(aa l4),(.bool true)]⟩) h2)):FW SS 165 [(aa l),(aa m)] h Q:=cE EU Tryz.func165 (aj hx)
noncomputable def HL:FD:=cB Tryz.f145 []
theorem Fs (l m:LB)(h:Heap)(Q:VH)(hx:FW SS 165 [(aa l),(aa m)] h fun v1 h2=> ∃ l3:LB,∃ b4:Bool,v1=(.tuple ⟨[(aa l3),(.bool b4)]⟩)/\Q (.tuple ⟨[(aa l3),(.bool b4)]⟩) h2):FW SS 145 [(aa l),(aa m)] h Q:=cE HL Tryz.func145 (aj hx)
noncomputable def A2:FD:=cB Tryz.f186 []
theorem xZ (l:LB)(c:Int)(h:Heap)(Q:VH)(hx:FW SS 196 [(aa l),(.int .u8 c)] h fun v1 h2=>yI .i64 v1 fun n3=>Q (.int .i64 n3) h2):FW SS 186 [(aa l),(.int .u8 c)] h Q:=cE A2 Tryz.func186 (aj hx)
noncomputable def Ii:FD:=cB Tryz.f178 []
theorem D7 (l:LB)(h:Heap)(Q:VH)(hx:aB (([47]:LB) == l) (Q (.int .i64 0) h) (xI .u8 (be SS.P 9 (aa [47]) (.int .i64 0)) fun n1=>FW SS 186 [(aa l),(.int .u8 n1)] h fun v2 h3=>yI .i64 v2 fun n4=>Q (.int .i64 n4) h3)):FW SS 178 [(aa l),(aa [47])] h Q:=cE Ii Tryz.func178 (aj hx)
noncomputable def Lr:FD:=cB Tryz.f166 []
theorem Jv (l:LB)(h:Heap)(Q:VH)(hx:FW SS 178 [(aa l),(aa [47])] h fun v1 h2=>yI .i64 v1 fun n3=>aB (decide ((n3:Int)>=0)) (xS (bh SS.P 9 (aa l) none (some (.int .i64 n3)) none (room h2 12)) fun l4=>xS (bh SS.P 9 (aa l) (some (.int .i64 (wrap .i64 (n3+1)))) none none (room h2 12)) fun l5=>Q (.tuple ⟨[(aa l4),(aa l5),(.bool true)]⟩) (room h2 12)) (Q (.tuple ⟨[(aa l),(aa []),(.bool false)]⟩) h2)):FW SS 166 [(aa l),(aa [47])] h Q:=cE Lr Tryz.func166 (aj hx)
noncomputable def Mj:FD:=cB Tryz.f146 []
theorem Lb (l:LB)(h:Heap)(Q:VH)(hx:FW SS 166 [(aa l),(aa [47])] h fun v1 h2=> ∃ l3:LB,∃ l4:LB,∃ b5:Bool,v1=(.tuple ⟨[(aa l3),(aa l4),(.bool b5)]⟩)/\Q (.tuple ⟨[(aa l3),(aa l4),(.bool b5)]⟩) h2):FW SS 146 [(aa l),(aa [47])] h Q:=cE Mj Tryz.func146 (aj hx)
noncomputable def EW:FD:=cB Tryz.f118 []
theorem Au (l:LB)(e:Int)(h:Heap)(Q:VH)(hx:aB (((e:Int) != 0)) (xA (aC SS.P 135 []) fun c1=>False) (Q (aa l) h)):FW SS 118 [(aa l),(.int .i64 e)] h Q:=cE EW Tryz.func118 (aj hx)
noncomputable def ratParse_F:FD:=cB Tryz.f121 []
abbrev r9 (l:LB)(cc:Code)(h:Heap)(Q:VH):Prop:=xN (aD SS.P 122) h fun B1 g2=>FW SS 145 [(aa l),(aa [45])] g2 fun v3 h4=> ∃ l5:LB,∃ b6:Bool,v3=(.tuple ⟨[(aa l5),(.bool b6)]⟩)/\FW SS 146 [(aa l5),(aa [47])] h4 fun v7 h8=> ∃ l9:LB,∃ l10:LB,∃ b11:Bool,v7=(.tuple ⟨[(aa l9),(aa l10),(.bool b11)]⟩)/\aB (!b11) (wpS SS ratParse_F.nm ratParse_F.ms [1,1,1,1] cc (uN [(aa l),undef,(pA (h.next)),(.bool false),(aa l5),(.bool b6),(aa l9),(aa [49]),(.bool b11),undef,undef,(.tuple ⟨[(aa l5),(.bool b6)]⟩),(aa l),(.tuple ⟨[(aa l5),(.bool b6)]⟩),(aa l5),(.bool b6),(.tuple ⟨[(aa l9),(aa l10),(.bool b11)]⟩),(aa l5),(.tuple ⟨[(aa l9),(aa l10),(.bool b11)]⟩),(aa l9),(aa l10),(.bool b11),(.bool b11),(.bool (!b11))] 53) h8 (EE SS ratParse_F Q)) (wpS SS ratParse_F.nm ratParse_F.ms [1,1,1,1] cc (uN [(aa l),undef,(pA (h.next)),(.bool false),(aa l5),(.bool b6),(aa l9),(aa l10),(.bool b11),undef,undef,(.tuple ⟨[(aa l5),(.bool b6)]⟩),(aa l),(.tuple ⟨[(aa l5),(.bool b6)]⟩),(aa l5),(.bool b6),(.tuple ⟨[(aa l9),(aa l10),(.bool b11)]⟩),(aa l5),(.tuple ⟨[(aa l9),(aa l10),(.bool b11)]⟩),(aa l9),(aa l10),(.bool b11),(.bool b11),(.bool (!b11))] 53) h8 (EE SS ratParse_F Q))
theorem zx (l:LB)(h:Heap)(Q:VH)(hx:r9 l (dw [1,1,1,1] ratParse_F.body) h Q):FW SS 121 [(aa l)] h Q:=by
 have e: ∀ cc,r9 l cc h Q=wpS SS ratParse_F.nm ratParse_F.ms [] (fq [1,1,1,1] cc ratParse_F.body) ([(aa l)]++List.replicate (ratParse_F.nm - ([(aa l)]:LV).length) undef) h (EE SS ratParse_F Q):=fun cc=>by kernel_rfl
 have e:=e (dw [1,1,1,1] ratParse_F.body);rw [fb] at e;exact cE ratParse_F Tryz.func121 (aj hx e)
abbrev m9 (n d:LB)(neg fnd:Bool)(p:Addr)(cc:Code)(x0 x1 x3 x4 x9 x10 x11 x12 x13 x14 x15 x16 x17 x18 x19 x20 x21 x22 x23 x24 x25 x26 x27 x28 x29 x30 x31 x32 x33 x34 x35 x36 x37 x38 x39 x40 x41 x42 x43 x44 x45 x46 x47 x48 x49 x50 x51 x52 x53 x54 x55 x56 x57 x58 x59 x60 x61 x62 x63 x64 x65 x66 x67 x68 x69 x70 x71 x72 x73 x74 x75 x76:Value)(h:Heap)(Q:VH):Prop:=FW SS 139 [(aa n)] h fun v1 h2=>yB v1 fun b3=>aB (!b3) (xA (aC SS.P 122 []) fun c4=>xU (ai SS.P 122 (.pointer (some p)) (.agg ⟨c4⟩) h2) h2 fun u5 g6=>dH SS [((.pointer (some p)),some 122),((.bool false),none)] g6 Q) (FW SS 139 [(aa d)] h2 fun v7 h8=>yB v7 fun b9=>aB (!b9) (xA (aC SS.P 122 []) fun c10=>xU (ai SS.P 122 (.pointer (some p)) (.agg ⟨c10⟩) h8) h8 fun u11 g12=>dH SS [((.pointer (some p)),some 122),((.bool false),none)] g12 Q) (aB (decide ((((n:LB).length:Int):Int) > 400)) (xA (aC SS.P 122 []) fun c13=>xU (ai SS.P 122 (.pointer (some p)) (.agg ⟨c13⟩) h8) h8 fun u14 g15=>dH SS [((.pointer (some p)),some 122),((.bool false),none)] g15 Q) (aB (decide ((((d:LB).length:Int):Int) > 400)) (xA (aC SS.P 122 []) fun c16=>xU (ai SS.P 122 (.pointer (some p)) (.agg ⟨c16⟩) h8) h8 fun u17 g18=>dH SS [((.pointer (some p)),some 122),((.bool false),none)] g18 Q) (wpS SS ratParse_F.nm ratParse_F.ms [1,1,1,1,1] cc [x0,x1,(.pointer (some p)),x3,x4,(.bool neg),(aa n),(aa d),(.bool fnd),x9,x10,x11,x12,x13,x14,x15,x16,x17,x18,x19,x20,x21,x22,x23,(aa n),(.bool b3),(.bool (!b3)),(.bool false),(aa d),(.bool b9),(.bool (!b9)),(.bool (!b9)),(.bool false),(aa n),(.int .i64 ((n:LB).length:Int)),(.bool (decide ((((n:LB).length:Int):Int) > 400))),(.bool (decide ((((n:LB).length:Int):Int) > 400))),(.bool false),(aa d),(.int .i64 ((d:LB).length:Int)),(.bool (decide ((((d:LB).length:Int):Int) > 400))),(.bool (decide ((((d:LB).length:Int):Int) > 400))),x42,x43,x44,x45,x46,x47,x48,x49,x50,x51,x52,x53,x54,x55,x56,x57,x58,x59,x60,x61,x62,x63,x64,x65,x66,x67,x68,x69,x70,x71,x72,x73,x74,x75,x76] h8 (EE SS ratParse_F Q)))))
theorem tB {n d:LB}{neg fnd:Bool}{p:Addr}{x0 x1 x3 x4 x9 x10 x11 x12 x13 x14 x15 x16 x17 x18 x19 x20 x21 x22 x23 x24 x25 x26 x27 x28 x29 x30 x31 x32 x33 x34 x35 x36 x37 x38 x39 x40 x41 x42 x43 x44 x45 x46 x47 x48 x49 x50 x51 x52 x53 x54 x55 x56 x57 x58 x59 x60 x61 x62 x63 x64 x65 x66 x67 x68 x69 x70 x71 x72 x73 x74 x75 x76:Value}{h:Heap}{Q:VH}(hx:m9 n d neg fnd p (dw [1,1,1,1,1] ratParse_F.body) x0 x1 x3 x4 x9 x10 x11 x12 x13 x14 x15 x16 x17 x18 x19 x20 x21 x22 x23 x24 x25 x26 x27 x28 x29 x30 x31 x32 x33 x34 x35 x36 x37 x38 x39 x40 x41 x42 x43 x44 x45 x46 x47 x48 x49 x50 x51 x52 x53 x54 x55 x56 x57 x58 x59 x60 x61 x62 x63 x64 x65 x66 x67 x68 x69 x70 x71 x72 x73 x74 x75 x76 h Q):TT SS ratParse_F [1,1,1,1] [x0,x1,(.pointer (some p)),x3,x4,(.bool neg),(aa n),(aa d),(.bool fnd),x9,x10,x11,x12,x13,x14,x15,x16,x17,x18,x19,x20,x21,x22,x23,x24,x25,x26,x27,x28,x29,x30,x31,x32,x33,x34,x35,x36,x37,x38,x39,x40,x41,x42,x43,x44,x45,x46,x47,x48,x49,x50,x51,x52,x53,x54,x55,x56,x57,x58,x59,x60,x61,x62,x63,x64,x65,x66,x67,x68,x69,x70,x71,x72,x73,x74,x75,x76] h (EE SS ratParse_F Q):=by
 have e: ∀ cc,m9 n d neg fnd p cc x0 x1 x3 x4 x9 x10 x11 x12 x13 x14 x15 x16 x17 x18 x19 x20 x21 x22 x23 x24 x25 x26 x27 x28 x29 x30 x31 x32 x33 x34 x35 x36 x37 x38 x39 x40 x41 x42 x43 x44 x45 x46 x47 x48 x49 x50 x51 x52 x53 x54 x55 x56 x57 x58 x59 x60 x61 x62 x63 x64 x65 x66 x67 x68 x69 x70 x71 x72 x73 x74 x75 x76 h Q=wpS SS ratParse_F.nm ratParse_F.ms [1,1,1,1] (fq [1] cc (dw [1,1,1,1] ratParse_F.body)) [x0,x1,(.pointer (some p)),x3,x4,(.bool neg),(aa n),(aa d),(.bool fnd),x9,x10,x11,x12,x13,x14,x15,x16,x17,x18,x19,x20,x21,x22,x23,x24,x25,x26,x27,x28,x29,x30,x31,x32,x33,x34,x35,x36,x37,x38,x39,x40,x41,x42,x43,x44,x45,x46,x47,x48,x49,x50,x51,x52,x53,x54,x55,x56,x57,x58,x59,x60,x61,x62,x63,x64,x65,x66,x67,x68,x69,x70,x71,x72,x73,x74,x75,x76] h (EE SS ratParse_F Q):=fun cc=>by kernel_rfl
 have e:=e (dw [1,1,1,1,1] ratParse_F.body);have ec:(dw [1,1,1,1,1] ratParse_F.body)=dw [1] (dw [1,1,1,1] ratParse_F.body):=by kernel_rfl
 have es:fq [1] (dw [1,1,1,1,1] ratParse_F.body) (dw [1,1,1,1] ratParse_F.body)=dw [1,1,1,1] ratParse_F.body:=by rw [ec,fb]
 rw [es] at e;exact aj hx e
abbrev ng (n d:LB)(neg fnd:Bool)(p:Addr)(cc:Code)(x0 x1 x3 x4 x9 x10 x11 x12 x13 x14 x15 x16 x17 x18 x19 x20 x21 x22 x23 x24 x25 x26 x27 x28 x29 x30 x31 x32 x33 x34 x35 x36 x37 x38 x39 x40 x41 x42 x43 x44 x45 x46 x47 x48 x49 x50 x51 x52 x53 x54 x55 x56 x57 x58 x59 x60 x61 x62 x63 x64 x65 x66 x67 x68 x69 x70 x71 x72 x73 x74 x75 x76:Value)(h:Heap)(Q:VH):Prop:=aB neg (aB ((n:LB) == [48]) (xA (aC SS.P 122 []) fun c1=>xU (ai SS.P 122 (.pointer (some p)) (.agg ⟨c1⟩) h) h fun u2 g3=>dH SS [((.pointer (some p)),some 122),((.bool false),none)] g3 Q) (aB fnd (aB ((d:LB) == [48]) (xA (aC SS.P 122 []) fun c4=>xU (ai SS.P 122 (.pointer (some p)) (.agg ⟨c4⟩) h) h fun u5 g6=>dH SS [((.pointer (some p)),some 122),((.bool false),none)] g6 Q) (aB ((d:LB) == [49]) (xA (aC SS.P 122 []) fun c7=>xU (ai SS.P 122 (.pointer (some p)) (.agg ⟨c7⟩) h) h fun u8 g9=>dH SS [((.pointer (some p)),some 122),((.bool false),none)] g9 Q) (wpS SS ratParse_F.nm ratParse_F.ms [1,1,1,1,1,1] cc [x0,x1,(.pointer (some p)),x3,x4,(.bool neg),(aa n),(aa d),(.bool fnd),x9,x10,x11,x12,x13,x14,x15,x16,x17,x18,x19,x20,x21,x22,x23,x24,x25,x26,x27,x28,x29,x30,x31,x32,x33,x34,x35,x36,x37,x38,x39,x40,x41,x42,(.bool neg),(.bool true),(aa n),(.bool ((n:LB) == [48])),(.bool ((n:LB) == [48])),(.bool false),(.bool fnd),(.bool true),(aa d),(.bool ((d:LB) == [48])),(.bool false),(aa d),(.bool ((d:LB) == [49])),(.bool ((d:LB) == [49])),(.bool ((d:LB) == [49])),(.bool ((d:LB) == [49])),x59,x60,x61,x62,x63,x64,x65,x66,x67,x68,x69,x70,x71,x72,x73,x74,x75,x76] h (EE SS ratParse_F Q)))) (wpS SS ratParse_F.nm ratParse_F.ms [1,1,1,1,1,1] cc [x0,x1,(.pointer (some p)),x3,x4,(.bool neg),(aa n),(aa d),(.bool fnd),x9,x10,x11,x12,x13,x14,x15,x16,x17,x18,x19,x20,x21,x22,x23,x24,x25,x26,x27,x28,x29,x30,x31,x32,x33,x34,x35,x36,x37,x38,x39,x40,x41,x42,(.bool neg),(.bool true),(aa n),(.bool ((n:LB) == [48])),(.bool ((n:LB) == [48])),(.bool false),(.bool fnd),(.bool false),undef,undef,undef,undef,undef,undef,(.bool false),(.bool false),x59,x60,x61,x62,x63,x64,x65,x66,x67,x68,x69,x70,x71,x72,x73,x74,x75,x76] h (EE SS ratParse_F Q)))) (aB fnd (aB ((d:LB) == [48]) (xA (aC SS.P 122 []) fun c10=>xU (ai SS.P 122 (.pointer (some p)) (.agg ⟨c10⟩) h) h fun u11 g12=>dH SS [((.pointer (some p)),some 122),((.bool false),none)] g12 Q) (aB ((d:LB) == [49]) (xA (aC SS.P 122 []) fun c13=>xU (ai SS.P 122 (.pointer (some p)) (.agg ⟨c13⟩) h) h fun u14 g15=>dH SS [((.pointer (some p)),some 122),((.bool false),none)] g15 Q) (wpS SS ratParse_F.nm ratParse_F.ms [1,1,1,1,1,1] cc [x0,x1,(.pointer (some p)),x3,x4,(.bool neg),(aa n),(aa d),(.bool fnd),x9,x10,x11,x12,x13,x14,x15,x16,x17,x18,x19,x20,x21,x22,x23,x24,x25,x26,x27,x28,x29,x30,x31,x32,x33,x34,x35,x36,x37,x38,x39,x40,x41,x42,(.bool neg),(.bool false),undef,undef,(.bool false),(.bool false),(.bool fnd),(.bool true),(aa d),(.bool ((d:LB) == [48])),(.bool false),(aa d),(.bool ((d:LB) == [49])),(.bool ((d:LB) == [49])),(.bool ((d:LB) == [49])),(.bool ((d:LB) == [49])),x59,x60,x61,x62,x63,x64,x65,x66,x67,x68,x69,x70,x71,x72,x73,x74,x75,x76] h (EE SS ratParse_F Q)))) (wpS SS ratParse_F.nm ratParse_F.ms [1,1,1,1,1,1] cc [x0,x1,(.pointer (some p)),x3,x4,(.bool neg),(aa n),(aa d),(.bool fnd),x9,x10,x11,x12,x13,x14,x15,x16,x17,x18,x19,x20,x21,x22,x23,x24,x25,x26,x27,x28,x29,x30,x31,x32,x33,x34,x35,x36,x37,x38,x39,x40,x41,x42,(.bool neg),(.bool false),undef,undef,(.bool false),(.bool false),(.bool fnd),(.bool false),undef,undef,undef,undef,undef,undef,(.bool false),(.bool false),x59,x60,x61,x62,x63,x64,x65,x66,x67,x68,x69,x70,x71,x72,x73,x74,x75,x76] h (EE SS ratParse_F Q)))
theorem tx {n d:LB}{neg fnd:Bool}{p:Addr}{x0 x1 x3 x4 x9 x10 x11 x12 x13 x14 x15 x16 x17 x18 x19 x20 x21 x22 x23 x24 x25 x26 x27 x28 x29 x30 x31 x32 x33 x34 x35 x36 x37 x38 x39 x40 x41 x42 x43 x44 x45 x46 x47 x48 x49 x50 x51 x52 x53 x54 x55 x56 x57 x58 x59 x60 x61 x62 x63 x64 x65 x66 x67 x68 x69 x70 x71 x72 x73 x74 x75 x76:Value}{h:Heap}{Q:VH}(hx:ng n d neg fnd p (dw [1,1,1,1,1,1] ratParse_F.body) x0 x1 x3 x4 x9 x10 x11 x12 x13 x14 x15 x16 x17 x18 x19 x20 x21 x22 x23 x24 x25 x26 x27 x28 x29 x30 x31 x32 x33 x34 x35 x36 x37 x38 x39 x40 x41 x42 x43 x44 x45 x46 x47 x48 x49 x50 x51 x52 x53 x54 x55 x56 x57 x58 x59 x60 x61 x62 x63 x64 x65 x66 x67 x68 x69 x70 x71 x72 x73 x74 x75 x76 h Q):TT SS ratParse_F [1,1,1,1,1] [x0,x1,(.pointer (some p)),x3,x4,(.bool neg),(aa n),(aa d),(.bool fnd),x9,x10,x11,x12,x13,x14,x15,x16,x17,x18,x19,x20,x21,x22,x23,x24,x25,x26,x27,x28,x29,x30,x31,x32,x33,x34,x35,x36,x37,x38,x39,x40,x41,x42,x43,x44,x45,x46,x47,x48,x49,x50,x51,x52,x53,x54,x55,x56,x57,x58,x59,x60,x61,x62,x63,x64,x65,x66,x67,x68,x69,x70,x71,x72,x73,x74,x75,x76] h (EE SS ratParse_F Q):=by
 have e: ∀ cc,ng n d neg fnd p cc x0 x1 x3 x4 x9 x10 x11 x12 x13 x14 x15 x16 x17 x18 x19 x20 x21 x22 x23 x24 x25 x26 x27 x28 x29 x30 x31 x32 x33 x34 x35 x36 x37 x38 x39 x40 x41 x42 x43 x44 x45 x46 x47 x48 x49 x50 x51 x52 x53 x54 x55 x56 x57 x58 x59 x60 x61 x62 x63 x64 x65 x66 x67 x68 x69 x70 x71 x72 x73 x74 x75 x76 h Q=wpS SS ratParse_F.nm ratParse_F.ms [1,1,1,1,1] (fq [1] cc (dw [1,1,1,1,1] ratParse_F.body)) [x0,x1,(.pointer (some p)),x3,x4,(.bool neg),(aa n),(aa d),(.bool fnd),x9,x10,x11,x12,x13,x14,x15,x16,x17,x18,x19,x20,x21,x22,x23,x24,x25,x26,x27,x28,x29,x30,x31,x32,x33,x34,x35,x36,x37,x38,x39,x40,x41,x42,x43,x44,x45,x46,x47,x48,x49,x50,x51,x52,x53,x54,x55,x56,x57,x58,x59,x60,x61,x62,x63,x64,x65,x66,x67,x68,x69,x70,x71,x72,x73,x74,x75,x76] h (EE SS ratParse_F Q):=fun cc=>by kernel_rfl
 have e:=e (dw [1,1,1,1,1,1] ratParse_F.body);have ec:(dw [1,1,1,1,1,1] ratParse_F.body)=dw [1] (dw [1,1,1,1,1] ratParse_F.body):=by kernel_rfl
 have es:fq [1] (dw [1,1,1,1,1,1] ratParse_F.body) (dw [1,1,1,1,1] ratParse_F.body)=dw [1,1,1,1,1] ratParse_F.body:=by rw [ec,fb]
 rw [es] at e;exact aj hx e
abbrev mV (n d:LB)(neg fnd:Bool)(p:Addr)(cc:Code)(x0 x1 x3 x4 x9 x10 x11 x12 x13 x14 x15 x16 x17 x18 x19 x20 x21 x22 x23 x24 x25 x26 x27 x28 x29 x30 x31 x32 x33 x34 x35 x36 x37 x38 x39 x40 x41 x42 x43 x44 x45 x46 x47 x48 x49 x50 x51 x52 x53 x54 x55 x56 x57 x58 x59 x60 x61 x62 x63 x64 x65 x66 x67 x68 x69 x70 x71 x72 x73 x74 x75 x76:Value)(h:Heap)(Q:VH):Prop:=FW SS 143 [(aa n),(aa d)] h fun v1 h2=> ∃ l3:LB,∃ n4:Int,v1=(.tuple ⟨[(aa l3),(.int .i64 n4)]⟩)/\aB (((n4:Int) != 0)) (xA (aC SS.P 122 []) fun c5=>xU (ai SS.P 122 (.pointer (some p)) (.agg ⟨c5⟩) h2) h2 fun u6 g7=>dH SS [((.pointer (some p)),some 122),((.bool false),none)] g7 Q) (aB (!((l3:LB) == [49])) (xA (aC SS.P 122 []) fun c8=>xU (ai SS.P 122 (.pointer (some p)) (.agg ⟨c8⟩) h2) h2 fun u9 g10=>dH SS [((.pointer (some p)),some 122),((.bool false),none)] g10 Q) (wpS SS ratParse_F.nm ratParse_F.ms [1,1,1,1,1,1,1] cc [x0,x1,(.pointer (some p)),x3,x4,(.bool neg),(aa n),(aa d),(.bool fnd),(aa l3),(.int .i64 n4),x11,x12,x13,x14,x15,x16,x17,x18,x19,x20,x21,x22,x23,x24,x25,x26,x27,x28,x29,x30,x31,x32,x33,x34,x35,x36,x37,x38,x39,x40,x41,x42,x43,x44,x45,x46,x47,x48,x49,x50,x51,x52,x53,x54,x55,x56,x57,x58,x59,(.tuple ⟨[(aa l3),(.int .i64 n4)]⟩),(aa n),(aa d),(.tuple ⟨[(aa l3),(.int .i64 n4)]⟩),(aa l3),(.int .i64 n4),(.int .i64 n4),(.bool (((n4:Int) != 0))),(.bool false),(aa l3),(.bool (!((l3:LB) == [49]))),(.bool (!((l3:LB) == [49]))),x72,x73,x74,x75,x76] h2 (EE SS ratParse_F Q)))
theorem sZ {n d:LB}{neg fnd:Bool}{p:Addr}{x0 x1 x3 x4 x9 x10 x11 x12 x13 x14 x15 x16 x17 x18 x19 x20 x21 x22 x23 x24 x25 x26 x27 x28 x29 x30 x31 x32 x33 x34 x35 x36 x37 x38 x39 x40 x41 x42 x43 x44 x45 x46 x47 x48 x49 x50 x51 x52 x53 x54 x55 x56 x57 x58 x59 x60 x61 x62 x63 x64 x65 x66 x67 x68 x69 x70 x71 x72 x73 x74 x75 x76:Value}{h:Heap}{Q:VH}(hx:mV n d neg fnd p (dw [1,1,1,1,1,1,1] ratParse_F.body) x0 x1 x3 x4 x9 x10 x11 x12 x13 x14 x15 x16 x17 x18 x19 x20 x21 x22 x23 x24 x25 x26 x27 x28 x29 x30 x31 x32 x33 x34 x35 x36 x37 x38 x39 x40 x41 x42 x43 x44 x45 x46 x47 x48 x49 x50 x51 x52 x53 x54 x55 x56 x57 x58 x59 x60 x61 x62 x63 x64 x65 x66 x67 x68 x69 x70 x71 x72 x73 x74 x75 x76 h Q):TT SS ratParse_F [1,1,1,1,1,1] [x0,x1,(.pointer (some p)),x3,x4,(.bool neg),(aa n),(aa d),(.bool fnd),x9,x10,x11,x12,x13,x14,x15,x16,x17,x18,x19,x20,x21,x22,x23,x24,x25,x26,x27,x28,x29,x30,x31,x32,x33,x34,x35,x36,x37,x38,x39,x40,x41,x42,x43,x44,x45,x46,x47,x48,x49,x50,x51,x52,x53,x54,x55,x56,x57,x58,x59,x60,x61,x62,x63,x64,x65,x66,x67,x68,x69,x70,x71,x72,x73,x74,x75,x76] h (EE SS ratParse_F Q):=by
 have e: ∀ cc,mV n d neg fnd p cc x0 x1 x3 x4 x9 x10 x11 x12 x13 x14 x15 x16 x17 x18 x19 x20 x21 x22 x23 x24 x25 x26 x27 x28 x29 x30 x31 x32 x33 x34 x35 x36 x37 x38 x39 x40 x41 x42 x43 x44 x45 x46 x47 x48 x49 x50 x51 x52 x53 x54 x55 x56 x57 x58 x59 x60 x61 x62 x63 x64 x65 x66 x67 x68 x69 x70 x71 x72 x73 x74 x75 x76 h Q=wpS SS ratParse_F.nm ratParse_F.ms [1,1,1,1,1,1] (fq [1] cc (dw [1,1,1,1,1,1] ratParse_F.body)) [x0,x1,(.pointer (some p)),x3,x4,(.bool neg),(aa n),(aa d),(.bool fnd),x9,x10,x11,x12,x13,x14,x15,x16,x17,x18,x19,x20,x21,x22,x23,x24,x25,x26,x27,x28,x29,x30,x31,x32,x33,x34,x35,x36,x37,x38,x39,x40,x41,x42,x43,x44,x45,x46,x47,x48,x49,x50,x51,x52,x53,x54,x55,x56,x57,x58,x59,x60,x61,x62,x63,x64,x65,x66,x67,x68,x69,x70,x71,x72,x73,x74,x75,x76] h (EE SS ratParse_F Q):=fun cc=>by kernel_rfl
 have e:=e (dw [1,1,1,1,1,1,1] ratParse_F.body);have ec:(dw [1,1,1,1,1,1,1] ratParse_F.body)=dw [1] (dw [1,1,1,1,1,1] ratParse_F.body):=by kernel_rfl
 have es:fq [1] (dw [1,1,1,1,1,1,1] ratParse_F.body) (dw [1,1,1,1,1,1] ratParse_F.body)=dw [1,1,1,1,1,1] ratParse_F.body:=by rw [ec,fb]
 rw [es] at e;exact aj hx e
theorem rM {n d:LB}{neg fnd:Bool}{p:Addr}{x0 x1 x3 x4 x9 x10 x11 x12 x13 x14 x15 x16 x17 x18 x19 x20 x21 x22 x23 x24 x25 x26 x27 x28 x29 x30 x31 x32 x33 x34 x35 x36 x37 x38 x39 x40 x41 x42 x43 x44 x45 x46 x47 x48 x49 x50 x51 x52 x53 x54 x55 x56 x57 x58 x59 x60 x61 x62 x63 x64 x65 x66 x67 x68 x69 x70 x71 x72 x73 x74 x75 x76:Value}{h:Heap}{Q:VH}(hx:xA (aC SS.P 122 [(0,(.bool neg)),(1,(aa n)),(2,(aa d))]) fun c1=>xU (ai SS.P 122 (.pointer (some p)) (.agg ⟨c1⟩) h) h fun u2 g3=>dH SS [((.pointer (some p)),some 122),((.bool true),none)] g3 Q):TT SS ratParse_F [1,1,1,1,1,1,1] [x0,x1,(.pointer (some p)),x3,x4,(.bool neg),(aa n),(aa d),(.bool fnd),x9,x10,x11,x12,x13,x14,x15,x16,x17,x18,x19,x20,x21,x22,x23,x24,x25,x26,x27,x28,x29,x30,x31,x32,x33,x34,x35,x36,x37,x38,x39,x40,x41,x42,x43,x44,x45,x46,x47,x48,x49,x50,x51,x52,x53,x54,x55,x56,x57,x58,x59,x60,x61,x62,x63,x64,x65,x66,x67,x68,x69,x70,x71,x72,x73,x74,x75,x76] h (EE SS ratParse_F Q):=aj hx
noncomputable def AU:FD:=cB Tryz.f97 []
theorem zO (l:LB)(h:Heap)(Q:VH)(hx:FW SS 121 [(aa l)] h fun v1 h2=> ∃ cs3:LV,∃ b4:Bool,v1=(.tuple ⟨[(.agg ⟨cs3⟩),(.bool b4)]⟩)/\Q (.bool b4) h2):FW SS 97 [(aa l)] h Q:=cE AU Tryz.func97 (aj hx)
noncomputable def Ez:FD:=cB Tryz.f117 []
theorem Bl (p:Bool)(l:LB)(q:Bool)(m:LB)(h:Heap)(Q:VH)(hx:aB (p == q) (FW SS 136 [(aa l),(aa m)] h fun v1 h2=> ∃ l3:LB,∃ n4:Int,v1=(.tuple ⟨[(aa l3),(.int .i64 n4)]⟩)/\FW SS 118 [(aa l3),(.int .i64 n4)] h2 fun v5 h6=>yS v5 fun l7=>Q (.tuple ⟨[(.bool p),(aa l7)]⟩) h6) (FW SS 137 [(aa l),(aa m)] h fun v8 h9=>yI .i64 v8 fun n10=>aB (decide ((n10:Int) < 0)) (FW SS 138 [(aa m),(aa l)] h9 fun v11 h12=> ∃ l13:LB,∃ n14:Int,v11=(.tuple ⟨[(aa l13),(.int .i64 n14)]⟩)/\FW SS 118 [(aa l13),(.int .i64 n14)] h12 fun v15 h16=>yS v15 fun l17=>Q (.tuple ⟨[(.bool q),(aa l17)]⟩) h16) (FW SS 138 [(aa l),(aa m)] h9 fun v18 h19=> ∃ l20:LB,∃ n21:Int,v18=(.tuple ⟨[(aa l20),(.int .i64 n21)]⟩)/\FW SS 118 [(aa l20),(.int .i64 n21)] h19 fun v22 h23=>yS v22 fun l24=>Q (.tuple ⟨[(.bool p),(aa l24)]⟩) h23))):FW SS 117 [(.bool p),(aa l),(.bool q),(aa m)] h Q:=cE Ez Tryz.func117 (aj hx)
noncomputable def GW:FD:=cB Tryz.f125 []
theorem E3 (l m:LB)(h:Heap)(Q:VH)(hx:FW SS 121 [(aa l)] h fun v1 h2=> ∃ cs3:LV,∃ b4:Bool,v1=(.tuple ⟨[(.agg ⟨cs3⟩),(.bool b4)]⟩)/\xN (aD SS.P 122) h2 fun B5 g6=>xU (ai SS.P 122 (pA (h2.next)) (.agg ⟨cs3⟩) g6) g6 fun u7 g8=>FW SS 121 [(aa m)] g8 fun v9 h10=> ∃ cs11:LV,∃ b12:Bool,v9=(.tuple ⟨[(.agg ⟨cs11⟩),(.bool b12)]⟩)/\xN (aD SS.P 122) h10 fun B13 g14=>xU (ai SS.P 122 (pA (h10.next)) (.agg ⟨cs11⟩) g14) g14 fun u15 g16=>aB (!b4) (Q (.int .i64 0) g16) (aB (!b12) (Q (.int .i64 0) g16) (xP (af SS.P 122 (pA (h2.next)) 0) fun p17=>xB (ah SS.P 4 (room g16 27) (.pointer (some p17))) fun b18=>xP (af SS.P 122 (pA (h2.next)) 1) fun p19=>xS (ah SS.P 9 (room g16 27) (.pointer (some p19))) fun l20=>xP (af SS.P 122 (pA (h10.next)) 2) fun p21=>xS (ah SS.P 9 (room g16 27) (.pointer (some p21))) fun l22=>FW SS 119 [(aa l20),(aa l22)] (room g16 27) fun v23 h24=> ∃ l25:LB,∃ n26:Int,v23=(.tuple ⟨[(aa l25),(.int .i64 n26)]⟩)/\FW SS 118 [(aa l25),(.int .i64 n26)] h24 fun v27 h28=>yS v27 fun l29=>xP (af SS.P 122 (pA (h10.next)) 0) fun p30=>xB (ah SS.P 4 h28 (.pointer (some p30))) fun b31=>xP (af SS.P 122 (pA (h10.next)) 1) fun p32=>xS (ah SS.P 9 h28 (.pointer (some p32))) fun l33=>xP (af SS.P 122 (pA (h2.next)) 2) fun p34=>xS (ah SS.P 9 h28 (.pointer (some p34))) fun l35=>FW SS 119 [(aa l33),(aa l35)] h28 fun v36 h37=> ∃ l38:LB,∃ n39:Int,v36=(.tuple ⟨[(aa l38),(.int .i64 n39)]⟩)/\FW SS 118 [(aa l38),(.int .i64 n39)] h37 fun v40 h41=>yS v40 fun l42=>FW SS 117 [(.bool b18),(aa l29),(.bool (!b31)),(aa l42)] h41 fun v43 h44=> ∃ b45:Bool,∃ l46:LB,v43=(.tuple ⟨[(.bool b45),(aa l46)]⟩)/\(ah SS.P 4 h24 (.pointer (some p17))=some (.bool b18)/\eK 4 (.bool b18) (.bool b18)=true)/\(ah SS.P 4 h28 (.pointer (some p17))=some (.bool b18)/\eK 4 (.bool b18) (.bool b18)=true)/\(ah SS.P 4 h37 (.pointer (some p17))=some (.bool b18)/\eK 4 (.bool b18) (.bool b18)=true)/\(ah SS.P 4 h41 (.pointer (some p17))=some (.bool b18)/\eK 4 (.bool b18) (.bool b18)=true)/\(ah SS.P 4 (room g16 27) (.pointer (some p30))=some (.bool b31)/\eK 4 (.bool b31) (.bool b31)=true)/\(ah SS.P 4 h24 (.pointer (some p30))=some (.bool b31)/\eK 4 (.bool b31) (.bool b31)=true)/\(ah SS.P 4 h37 (.pointer (some p30))=some (.bool b31)/\eK 4 (.bool b31) (.bool b31)=true)/\(ah SS.P 4 h41 (.pointer (some p30))=some (.bool b31)/\eK 4 (.bool b31) (.bool b31)=true)/\(ah SS.P 9 (room g16 27) (.pointer (some p32))=some (aa l33)/\eK 4 (aa l33) (aa l33)=true)/\(ah SS.P 9 h24 (.pointer (some p32))=some (aa l33)/\eK 4 (aa l33) (aa l33)=true)/\(ah SS.P 9 (room g16 27) (.pointer (some p34))=some (aa l35)/\eK 4 (aa l35) (aa l35)=true)/\(ah SS.P 9 h24 (.pointer (some p34))=some (aa l35)/\eK 4 (aa l35) (aa l35)=true)/\aB ((l46:LB) == [48]) (Q (.int .i64 0) h44) (aB b45 (Q (.int .i64 (-1)) h44) (Q (.int .i64 1) h44))))):FW SS 125 [(aa l),(aa m)] h Q:=cE GW Tryz.func125 (aj hx)
noncomputable def IA:FD:=cB Tryz.f177 []
theorem Et (l m:LB)(h:Heap)(Q:VH)(hx:aB (decide ((((l:LB).length:Int):Int)>=((m:LB).length:Int))) (xS (bh SS.P 9 (aa l) none (some (.int .i64 ((m:LB).length:Int))) none h) fun l1=>Q (.bool ((l1:LB) == m)) h) (Q (.bool false) h)):FW SS 177 [(aa l),(aa m)] h Q:=cE IA Tryz.func177 (aj hx)
noncomputable def cW:FD:=cB Tryz.f139 [([1,1,0,1,0,0],[0,22,23])]
abbrev fG (l:LB)(i:Int):LV:=[(aa l),(.int .i64 (l.length:Int)),(.int .i64 i)]
theorem qQ (l:LB)(h:Heap)(Q:VH)(hx:aB ((l:LB) == []) (Q (.bool false) h) (aB (decide ((((l:LB).length:Int):Int) > 1000)) (Q (.bool false) h) (aB (decide ((((l:LB).length:Int):Int) > 1)) (xI .u8 (be SS.P 9 (aa l) (.int .i64 0)) fun n1=>aB (((n1:Int) == 48)) (Q (.bool false) h) (LL SS cW [1,1,0,1,0,0] [(aa l),(.int .i64 ((l:LB).length:Int)),(.int .i64 0)] h (KK SS cW [1,1,0,1,0] [] (EE SS cW Q)))) (LL SS cW [1,1,0,1,0,0] [(aa l),(.int .i64 ((l:LB).length:Int)),(.int .i64 0)] h (KK SS cW [1,1,0,1,0] [] (EE SS cW Q)))))):FW SS 139 [(aa l)] h Q:=cE cW Tryz.func139 (aj hx)
theorem mI (l:LB)  (Inv:Nat->Int->Heap->Prop) (Q:VH) (step: ∀ (mz:Nat)(i:Int)(zz:Nat->Value)(h:Heap),Inv mz i h->aB (decide ((i:Int) < (l.length:Int))) (xI .u8 (be SS.P 9 (aa l) (.int .i64 i)) fun n2=>aB (decide ((n2:Int) < 48)) (Q (.bool false) h) (xI .u8 (be SS.P 9 (aa l) (.int .i64 i)) fun n3=>aB (decide ((n3:Int) > 57)) (Q (.bool false) h) (aF (gM (fG l) Inv) mz [(aa l),(.int .i64 (l.length:Int)),(.int .i64 (wrap .i64 (i+1)))] h))) (Q (.bool true) h)) (mz:Nat) {i:Int} {h:Heap} (hi:Inv mz i h):LL SS cW [1,1,0,1,0,0] (fG l i) h (KK SS cW [1,1,0,1,0] [] (EE SS cW Q)):=
 cQ (fG l) Inv (fun mz i zz h hi=>aj (step mz i zz h hi)) mz hi
end Go.Proofs.YtoabjjimjldcfaaGreatDoor
end
section
namespace Go.Num
def isDig (c:UInt8):Bool:=decide (48<=c.toNat) && decide (c.toNat<=57)
def dv (c:UInt8):Nat:=c.toNat - 48
def val (l:List UInt8):Nat:=l.foldl (fun n c=>10*n+dv c) 0
def dig (n:Nat):UInt8:=UInt8.ofNat (48+n)
theorem val_nil:val []=0:=rfl
theorem gf (l:List UInt8)(c:UInt8):val (l++[c])=10*val l+dv c:=by simp [val,List.foldl_append]
theorem mn {n:Nat}(h:n < 10):(dig n).toNat=48+n:=by
 unfold dig; rw [UInt8.toNat_ofNat']; omega
theorem GL {n:Nat}(h:n < 10):dv (dig n)=n:=by
 unfold dv; rw [mn h]; omega
theorem uV {n:Nat}(h:n < 10):isDig (dig n)=true:=by
 unfold isDig; rw [mn h]; simp; omega
theorem isDig_iff {c:UInt8}:isDig c=true↔48<=c.toNat/\c.toNat<=57:=by simp [isDig]
theorem dv_lt {c:UInt8}(h:isDig c=true):dv c < 10:=by
 rw [isDig_iff] at h; unfold dv; omega
theorem HH {c:UInt8}(h:isDig c=true):dig (dv c)=c:=by
 have h1:=dv_lt h;rw [isDig_iff] at h;apply UInt8.toNat_inj.1;rw [mn h1]; unfold dv; omega
theorem lZ {α:Type}{P:List α->Prop}(h0:P [])(h1: ∀ l a,P l->P (l++[a]))(l:List α):P l:=by
 have: ∀ n (l:List α),l.length=n->P l:=by
  intro n
  induction n with
  | zero=>intro l hl; rw [List.eq_nil_of_length_eq_zero hl]; exact h0
  | succ n ih=>
   intro l hl;have hne:l≠[]:=by intro e; subst e; simp at hl
   rw [<-List.dropLast_concat_getLast hne];exact h1 _ _ (ih _ (by simp [hl]))
 exact this _ l rfl
theorem val_append (a b:List UInt8):val (a++b)=val a*10 ^ b.length+val b:=by
 induction b using lZ with
 | h0=>simp [val_nil]
 | h1 b c ih=>
  rw [<-append_assoc,gf,gf,ih,length_append,List.length_singleton,pow_succ];have:10*(val a*10 ^ b.length+val b)=val a*(10 ^ b.length*10)+10*val b:=by
   rw [mul_add,<-mul_assoc 10,mul_comm 10 (val a),mul_assoc,mul_comm 10]
  omega
theorem val_lt {l:List UInt8}(h:l.all isDig=true):val l < 10 ^ l.length:=by
 induction l using lZ with
 | h0=>simp [val_nil]
 | h1 l c ih=>
  simp only [List.all_append,all_cons,all_nil,Bool.and_true,and_eq_true] at h;have h1:=ih h.1;have h2:=dv_lt h.2;rw [gf,length_append,List.length_singleton,pow_succ];omega
def toDec (n:Nat):List UInt8:=if n < 10 then [dig n] else toDec (n / 10)++[dig (n % 10)]
termination_by n
decreasing_by omega
theorem toDec_lt {n:Nat}(h:n < 10):toDec n=[dig n]:=by rw [toDec,if_pos h]
theorem toDec_ge {n:Nat}(h:10<=n):toDec n=toDec (n / 10)++[dig (n % 10)]:=by rw [toDec,if_neg (by omega)]
theorem tA {n d:Nat}(hn:0 < n)(hd:d < 10):toDec (10*n+d)=toDec n++[dig d]:=by
 rw [toDec_ge (by omega),show (10*n+d) / 10=n by omega,show (10*n+d) % 10=d by omega]
theorem val_toDec (n:Nat):val (toDec n)=n:=by
 induction n using Nat.strongRecOn with
 | ind n ih=>
  by_cases h:n < 10
  ·rw [toDec_lt h,show [dig n]=[]++[dig n] from rfl,gf,GL h,val_nil]; omega
  ·rw [toDec_ge (by omega),gf,ih (n / 10) (by omega),GL (by omega)]; omega
theorem uI {m n:Nat}(h:toDec m=toDec n):m=n:=by rw [<-val_toDec m,h,val_toDec]
theorem toDec_ne (n:Nat):toDec n≠[]:=by
 by_cases h:n < 10
 ·rw [toDec_lt h]; simp
 ·rw [toDec_ge (by omega)]; simp
theorem toDec_len_pos (n:Nat):0 < (toDec n).length:=List.length_pos_iff.2 (toDec_ne n)
theorem vk (n:Nat):(toDec n).all isDig=true:=by
 induction n using Nat.strongRecOn with
 | ind n ih=>
  by_cases h:n < 10
  ·rw [toDec_lt h]; simp [uV h]
  ·rw [toDec_ge (by omega)]; simp [ih (n / 10) (by omega),uV (show n % 10 < 10 by omega)]
theorem wY (n:Nat):n < 10 ^ (toDec n).length:=by
 have:=val_lt (vk n);rwa [val_toDec] at this
theorem wD {n:Nat}(h:10<=n):10 ^ ((toDec n).length - 1)<=n:=by
 induction n using Nat.strongRecOn with
 | ind n ih=>
  rw [toDec_ge h,length_append,List.length_singleton];by_cases h1:n / 10 < 10
  ·rw [toDec_lt h1]; simp; exact h
  ·have h2:=ih (n / 10) (by omega) (by omega);have h3:=toDec_len_pos (n / 10);obtain ⟨k,hk⟩: ∃ k,(toDec (n / 10)).length=k+1:=⟨(toDec (n / 10)).length - 1,by omega⟩
   rw [hk] at h2 ⊢;simp only [Nat.add_sub_cancel] at h2 ⊢;rw [pow_succ];omega
theorem toDec_len_le {n k:Nat}(hk:0 < k):(toDec n).length<=k↔n < 10 ^ k:=by
 constructor
 ·intro h;exact lt_of_lt_of_le (wY n) (Nat.pow_le_pow_right (by omega) h)
 ·intro h;by_cases hn:n < 10
  ·rw [toDec_lt hn]; simp; omega
  ·have h1:=wD (n:=n) (by omega);rcases lt_or_ge k (toDec n).length with h2 | h2
   ·have h3:10 ^ k<=10 ^ ((toDec n).length - 1):=Nat.pow_le_pow_right (by omega) (by omega);omega
   ·exact h2
def CY (l:List UInt8):Prop:=l≠[]/\l.all isDig=true/\(1 < l.length->l.head?≠some 48)
theorem Km {l:List UInt8}(hd:l.all isDig=true)(h0:l≠[])(h:l.head?≠some 48):0 < val l:=by
 induction l using lZ with
 | h0=>exact absurd rfl h0
 | h1 l c ih=>
  simp only [List.all_append,all_cons,all_nil,Bool.and_true,and_eq_true] at hd;rw [gf];by_cases hl:l=[]
  ·subst hl;have hc:c≠48:=by intro e; subst e; simp at h
   have h2:=isDig_iff.1 hd.2;have h3:c.toNat≠48:=fun e=>hc (by apply UInt8.toNat_inj.1; rw [e]; rfl);rw [val_nil]; unfold dv; omega
  ·have:=ih hd.1 hl (by
    cases l with
    | nil=>exact absurd rfl hl
    | cons a l=>simpa using h)
   omega
theorem vL {l:List UInt8}(h:CY l):toDec (val l)=l:=by
 induction l using lZ with
 | h0=>exact absurd rfl h.1
 | h1 l c ih=>
  obtain ⟨_,hd,hz⟩:=h;simp only [List.all_append,all_cons,all_nil,Bool.and_true,and_eq_true] at hd;rw [gf];by_cases hl:l=[]
  ·subst hl;rw [val_nil,toDec_lt (by have:=dv_lt hd.2; omega)];simp [HH hd.2]
  ·have hh:l.head?≠some 48:=by
    have:=hz (by have:=List.length_pos_iff.2 hl; simp; omega)
    cases l with
    | nil=>exact absurd rfl hl
    | cons a l=>simpa using this
   have hp:=Km hd.1 hl hh;rw [tA hp (dv_lt hd.2),ih ⟨hl,hd.1,fun _=>hh⟩,HH hd.2]
theorem yn (n:Nat):CY (toDec n):=by
 refine ⟨toDec_ne n,vk n,?_⟩
 induction n using Nat.strongRecOn with
 | ind n ih=>
  intro hl;by_cases h:n < 10
  ·rw [toDec_lt h] at hl; simp at hl
  ·rw [toDec_ge (by omega)];by_cases h1:n / 10 < 10
   ·rw [toDec_lt h1];simp only [List.cons_append,List.head?_cons,ne_eq,Option.some.injEq];intro e;have:=congrArg UInt8.toNat e;rw [mn h1] at this;have h48:(48:UInt8).toNat=48:=rfl;omega
   ·have h2:=ih (n / 10) (by omega) (by rw [toDec_ge (by omega)]; have:=toDec_len_pos (n / 10 / 10); simp; omega)
    cases hh:toDec (n / 10) with
    | nil=>exact absurd hh (toDec_ne _)
    | cons a l=>rw [hh] at h2; simpa using h2
def valid (l:List UInt8):Bool:= !l.isEmpty && decide (l.length<=1000) && !(decide (1 < l.length) && l.head? == some 48) && l.all isDig
theorem valid_iff {l:List UInt8}:valid l=true↔CY l/\l.length<=1000:=by
 unfold valid CY
 cases l with
 | nil=>simp
 | cons a l=>
  simp only [List.isEmpty_cons,Bool.not_false,Bool.true_and,and_eq_true,decide_eq_true_eq,not_eq_true',Bool.and_eq_false_imp,ne_eq,reduceCtorEq,not_false_eq_true,true_and];constructor
  ·rintro ⟨⟨h1,h2⟩,h3⟩;exact ⟨⟨h3,fun h4=>by simpa using h2 h4⟩,h1⟩
  ·rintro ⟨⟨h3,h2⟩,h1⟩;exact ⟨⟨h1,fun h4=>by simpa using h2 h4⟩,h3⟩
theorem valid_toDec {n:Nat}:valid (toDec n)=true↔n < 10 ^ 1000:=by
 rw [valid_iff];have e:=toDec_len_le (n:=n) (k:=1000) (by decide);exact ⟨fun h=>e.1 h.2,fun h=>⟨yn n,e.2 h⟩⟩
theorem valid_ex {l:List UInt8}(h:valid l=true): ∃ n,l=toDec n/\n < 10 ^ 1000/\val l=n:=by
 have h1:=(valid_iff.1 h).1;refine ⟨val l,(vL h1).symm,?_,rfl⟩;rw [<-vL h1] at h;exact valid_toDec.1 h
def bv (b:Nat):List Nat->Nat
 | []=>0
 | d::l=>d+b*bv b l
theorem eD (b:Nat): ∀ x y:List Nat,bv b (x++y)=bv b x+b ^ x.length*bv b y
 | [],y=>by simp [bv]
 | d::x,y=>by
  simp only [List.cons_append,bv,eD b x y,length_cons,pow_succ];rw [mul_add,mul_comm (b ^ x.length) b,mul_assoc]; omega
theorem bv_snoc (b:Nat)(x:List Nat)(d:Nat):bv b (x++[d])=bv b x+b ^ x.length*d:=by rw [eD]; simp [bv]
theorem bv_lt {b:Nat}: ∀ {x:List Nat},(∀ d∈x,d < b)->bv b x < b ^ x.length
 | [],_=>by simp [bv]
 | d::x,h=>by
  have h1:=bv_lt (b:=b) (x:=x) fun e he=>h e (by simp [he]);have h2:=h d (by simp);simp only [bv,length_cons,pow_succ];have:b*bv b x+b<=b*b ^ x.length:=by
   have:=Nat.mul_le_mul_left b (succ_le_of_lt h1);rw [Nat.mul_succ] at this; exact this
  rw [mul_comm (b ^ x.length)]; omega
def toB (b n:Nat):List Nat:=if h:1 < b/\0 < n then n % b::toB b (n / b) else []
termination_by n
decreasing_by exact div_lt_self h.2 h.1
theorem toB_zero (b:Nat):toB b 0=[]:=by rw [toB,dif_neg (by omega)]
theorem kf {b n:Nat}(hb:1 < b)(hn:0 < n):toB b n=n % b::toB b (n / b):=by rw [toB,dif_pos ⟨hb,hn⟩]
theorem bv_toB {b:Nat}(hb:1 < b)(n:Nat):bv b (toB b n)=n:=by
 induction n using Nat.strongRecOn with
 | ind n ih=>
  rcases eq_zero_or_pos n with rfl | hn
  ·rw [toB_zero]; rfl
  ·rw [kf hb hn,bv,ih (n / b) (div_lt_self hn hb)]; exact mod_add_div n b
theorem toB_lt {b:Nat}(hb:1 < b)(n:Nat): ∀ d∈toB b n,d < b:=by
 induction n using Nat.strongRecOn with
 | ind n ih=>
  rcases eq_zero_or_pos n with rfl | hn
  ·rw [toB_zero]; simp
  ·rw [kf hb hn];intro d hd;rcases mem_cons.1 hd with rfl | hd
   ·exact mod_lt _ (by omega)
   ·exact ih (n / b) (div_lt_self hn hb) d hd
def LR (b:Nat)(l:List Nat):Prop:=(∀ d∈l,d < b)/\l.getLast?≠some 0
theorem Io {b:Nat}(hb:1 < b)(n:Nat):LR b (toB b n):=by
 refine ⟨toB_lt hb n,?_⟩
 induction n using Nat.strongRecOn with
 | ind n ih=>
  rcases eq_zero_or_pos n with rfl | hn
  ·rw [toB_zero]; simp
  ·rw [kf hb hn];by_cases h0:n / b=0
   ·rw [h0,toB_zero];have:n < b:=by
     rcases lt_or_ge n b with h | h
     ·exact h
     ·have:=Nat.div_pos h (by omega); omega
    simp [mod_eq_of_lt this]; omega
   ·have:=ih (n / b) (div_lt_self hn hb);rw [kf hb (Nat.pos_of_ne_zero h0)] at this ⊢;simpa using this
theorem Ib {b:Nat}(hb:1 < b): ∀ {l:List Nat},LR b l->toB b (bv b l)=l
 | [],_=>toB_zero b
 | d::l,h=>by
  have hd:d < b:=h.1 d (by simp);have hp:0 < bv b (d::l):=by
   have key: ∀ l:List Nat,l≠[]->l.getLast?≠some 0->0 < bv b l:=by
    intro l
    induction l with
    | nil=>intro h; exact absurd rfl h
    | cons a l ih=>
     intro _ h2;by_cases hl:l=[]
     ·subst hl; simp at h2; simp [bv]; omega
     ·have:0 < bv b l:=ih hl (by
       cases l with
       | nil=>exact absurd rfl hl
       | cons c l=>simpa using h2)
      simp only [bv];have:=Nat.mul_pos (show 0 < b by omega) this;omega
   exact key _ (by simp) h.2
  have hl:LR b l:=⟨fun e he=>h.1 e (by simp [he]),by
   intro e
   cases l with
   | nil=>simp at e
   | cons c l=>exact h.2 (by simpa using e)⟩
  rw [kf hb hp];simp only [bv];rw [show (d+b*bv b l) % b=d by rw [Nat.add_mul_mod_self_left,mod_eq_of_lt hd],show (d+b*bv b l) / b=bv b l by rw [Nat.add_mul_div_left _ _ (by omega),Nat.div_eq_of_lt hd,zero_add],Ib hb hl]
def trimL (l:List Nat):List Nat:=(l.reverse.dropWhile (· == 0)).reverse
theorem DQ:trimL []=[]:=rfl
theorem trimL_snoc_zero (l:List Nat):trimL (l++[0])=trimL l:=by simp [trimL]
theorem trimL_snoc_pos (l:List Nat){d:Nat}(h:d≠0):trimL (l++[d])=l++[d]:=by simp [trimL,h]
theorem trimL_eq {b:Nat}(hb:1 < b){l:List Nat}(h: ∀ d∈l,d < b):trimL l=toB b (bv b l):=by
 induction l using lZ with
 | h0=>rw [DQ]; exact (toB_zero b).symm
 | h1 l d ih=>
  by_cases hd:d=0
  ·subst hd;rw [trimL_snoc_zero,ih fun e he=>h e (by simp [he]),bv_snoc]; simp
  ·rw [trimL_snoc_pos l hd,Ib hb];exact ⟨h,by simpa using hd⟩
theorem toB_eq_nil {b n:Nat}(hb:1 < b):toB b n=[]↔n=0:=by
 constructor
 ·intro h; have:=bv_toB hb n; rw [h] at this; exact this.symm
 ·rintro rfl; exact toB_zero b
theorem toB_len_le {b:Nat}(hb:1 < b){n k:Nat}(h:n < b ^ k):(toB b n).length<=k:=by
 induction k generalizing n with
 | zero=>rw [Nat.pow_zero] at h; rw [show n=0 by omega,toB_zero]; simp
 | succ k ih=>
  rcases eq_zero_or_pos n with rfl | hn
  ·rw [toB_zero]; simp
  ·rw [kf hb hn];have:n / b < b ^ k:=Nat.div_lt_of_lt_mul (by rw [pow_succ,mul_comm] at h; exact h);have:=ih this;simp; omega
theorem nh {b:Nat}(hb:1 < b){n:Nat}(hn:0 < n):b ^ ((toB b n).length - 1)<=n:=by
 induction n using Nat.strongRecOn with
 | ind n ih=>
  rw [kf hb hn,length_cons,Nat.add_sub_cancel];by_cases h0:n / b=0
  ·rw [h0,toB_zero]; simp; omega
  ·have h1:=ih (n / b) (div_lt_self hn hb) (Nat.pos_of_ne_zero h0);have h2:0 < (toB b (n / b)).length:=List.length_pos_iff.2 (by rw [Ne,toB_eq_nil hb]; exact h0);obtain ⟨k,hk⟩: ∃ k,(toB b (n / b)).length=k+1:=⟨(toB b (n / b)).length - 1,by omega⟩
   rw [hk] at h1 ⊢;rw [Nat.add_sub_cancel] at h1;rw [pow_succ];have h3:=mul_le_mul_right b h1;have h4:=Nat.div_mul_le_self n b;omega
theorem bv_drop (b:Nat)(x:List Nat)(i:Nat):bv b (x.drop i)=x.getD i 0+b*bv b (x.drop (i+1)):=by
 rcases lt_or_ge i x.length with h | h
 ·rw [List.drop_eq_getElem_cons h,bv,gD,gE h]; rfl
 ·rw [drop_eq_nil_of_le h,drop_eq_nil_of_le (by omega),gD,getElem?_eq_none h]; simp [bv]
theorem getD_lt {b:Nat}{x:List Nat}(hb:0 < b)(h: ∀ d∈x,d < b)(i:Nat):x.getD i 0 < b:=by
 rw [gD]
 cases hx:x[i]? with
 | none=>exact hb
 | some d=>exact h d (List.mem_of_getElem? hx)
def eachF (F:Nat->Nat->Nat->Nat×Nat)(x y:List Nat):Nat->Nat->Nat->List Nat
 | _,0,_=>[]
 | i,k+1,c=>(F (x.getD i 0) (y.getD i 0) c).1::eachF F x y (i+1) k (F (x.getD i 0) (y.getD i 0) c).2
theorem eachF_lt {b:Nat}{F:Nat->Nat->Nat->Nat×Nat}(h: ∀ p q c,(F p q c).1 < b)(x y:List Nat): ∀ k i c,∀ d∈eachF F x y i k c,d < b
 | 0,_,_=>by simp [eachF]
 | k+1,i,c=>by
  intro d hd;rcases mem_cons.1 hd with rfl | hd
  ·exact h _ _ _
  ·exact eachF_lt h x y k _ _ d hd
def plusF (b:Nat)(p q c:Nat):Nat×Nat:=((p+q+c) % b,(p+q+c) / b)
theorem plus_bv {b:Nat}(hb:1 < b){x y:List Nat}(hx: ∀ d∈x,d < b)(hy: ∀ d∈y,d < b): ∀ k i c,x.length < i+k->y.length < i+k->c<=1->0 < k->
  bv b (eachF (plusF b) x y i k c)=bv b (x.drop i)+bv b (y.drop i)+c:=by
 intro k
 induction k with
 | zero=>intro i c _ _ _ h; omega
 | succ k ih=>
  intro i c h1 h2 hc _;have ha:=getD_lt (by omega) hx i;have hbb:=getD_lt (by omega) hy i;rw [bv_drop b x i,bv_drop b y i];simp only [eachF,bv];have hm:=mod_add_div (x.getD i 0+y.getD i 0+c) b;have hc':(plusF b (x.getD i 0) (y.getD i 0) c).2<=1:=by
   show (x.getD i 0+y.getD i 0+c) / b<=1;have:(x.getD i 0+y.getD i 0+c) / b < 2:=Nat.div_lt_of_lt_mul (by omega);omega
  rcases eq_zero_or_pos k with rfl | hk
  ·rw [drop_eq_nil_of_le (show x.length<=i+1 by omega),drop_eq_nil_of_le (show y.length<=i+1 by omega)];have e1:x.getD i 0=0:=by rw [gD,getElem?_eq_none (by omega)]; rfl
   have e2:y.getD i 0=0:=by rw [gD,getElem?_eq_none (by omega)]; rfl
   simp only [eachF,bv,plusF,e1,e2,zero_add,Nat.mul_zero,add_zero];exact mod_eq_of_lt (by omega)
  ·rw [ih (i+1) _ (by omega) (by omega) hc' hk];simp only [plusF];rw [mul_add,mul_add];omega
def scaleF (b m:Nat)(p _q c:Nat):Nat×Nat:=((p*m+c) % b,(p*m+c) / b)
theorem scale_bv {b m:Nat}(hb:1 < b)(hm:m<=b)(hm0:0 < m){x y:List Nat}(hx: ∀ d∈x,d < b): ∀ k i c,x.length < i+k->c < m->0 < k->
  bv b (eachF (scaleF b m) x y i k c)=bv b (x.drop i)*m+c:=by
 intro k
 induction k with
 | zero=>intro i c _ _ h; omega
 | succ k ih=>
  intro i c h1 hc _;have ha:=getD_lt (by omega) hx i;rw [bv_drop b x i];simp only [eachF,bv];have hmd:=mod_add_div (x.getD i 0*m+c) b;have hc':(scaleF b m (x.getD i 0) (y.getD i 0) c).2 < m:=by
   show (x.getD i 0*m+c) / b < m;refine Nat.div_lt_of_lt_mul ?_;have:x.getD i 0*m+m<=b*m:=by
    have:=mul_le_mul_right m (succ_le_of_lt ha);rw [Nat.succ_mul] at this; exact this
   omega
  rcases eq_zero_or_pos k with rfl | hk
  ·rw [drop_eq_nil_of_le (show x.length<=i+1 by omega)];have e1:x.getD i 0=0:=by rw [gD,getElem?_eq_none (by omega)]; rfl
   simp only [eachF,bv,scaleF,e1,Nat.zero_mul,zero_add,Nat.mul_zero,add_zero];exact mod_eq_of_lt (by omega)
  ·rw [ih (i+1) _ (by omega) hc' hk];simp only [scaleF];have e:(x.getD i 0+b*bv b (x.drop (i+1)))*m=x.getD i 0*m+b*(bv b (x.drop (i+1))*m):=by rw [add_mul,mul_assoc]
   rw [e,mul_add];omega
def minusF (b:Nat)(p q c:Nat):Nat×Nat:=((p+b - q - c) % b,1 - (p+b - q - c) / b)
theorem minus_step {b p q c:Nat}(hb:1 < b)(hp:p < b)(hq:q < b)(hc:c<=1):p+b*(minusF b p q c).2=(minusF b p q c).1+q+c/\(minusF b p q c).2<=1:=by
 unfold minusF;dsimp only;rcases lt_or_ge (p+b - q - c) b with h | h
 ·rw [Nat.div_eq_of_lt h,mod_eq_of_lt h]; omega
 ·have h2:(p+b - q - c) / b=1:=by
   refine Nat.le_antisymm ?_ ((Nat.le_div_iff_mul_le (by omega)).2 (by omega));have:(p+b - q - c) / b < 2:=Nat.div_lt_of_lt_mul (by omega);omega
  have h3:=mod_add_div (p+b - q - c) b;rw [h2] at h3 ⊢;omega
theorem minus_bv {b:Nat}(hb:1 < b){x y:List Nat}(hx: ∀ d∈x,d < b)(hy: ∀ d∈y,d < b): ∀ k i c,x.length<=i+k->y.length<=i+k->c<=1->bv b (y.drop i)+c<=bv b (x.drop i)->
  bv b (eachF (minusF b) x y i k c)+bv b (y.drop i)+c=bv b (x.drop i):=by
 intro k
 induction k with
 | zero=>
  intro i c h1 h2 _ h;rw [drop_eq_nil_of_le (show x.length<=i by omega)] at h ⊢;rw [drop_eq_nil_of_le (show y.length<=i by omega)] at h ⊢;simp only [bv,eachF] at h ⊢;omega
 | succ k ih=>
  intro i c h1 h2 hc h;have ha:=getD_lt (by omega) hx i;have hbb:=getD_lt (by omega) hy i;obtain ⟨s1,s2⟩:=minus_step hb ha hbb hc;rw [bv_drop b x i,bv_drop b y i] at h ⊢;simp only [eachF,bv];have hlt:(minusF b (x.getD i 0) (y.getD i 0) c).1 < b:=mod_lt _ (by omega);have hle:bv b (y.drop (i+1))+(minusF b (x.getD i 0) (y.getD i 0) c).2<=bv b (x.drop (i+1)):=by
   rcases lt_or_ge (bv b (x.drop (i+1))) (bv b (y.drop (i+1))+(minusF b (x.getD i 0) (y.getD i 0) c).2) with g | g
   ·have g2:=Nat.mul_le_mul_left b (succ_le_of_lt g);rw [Nat.mul_succ,mul_add] at g2;omega
   ·exact g
  have e:=ih (i+1) _ (by omega) (by omega) s2 hle;have e2:=congrArg (b * ·) e;simp only [mul_add] at e2;omega
theorem DL {B n q v1 v2 rest u2 top U V Ul Vl:Nat}(hU:U=(top*B+u2)*B ^ n+Ul)(hUl:Ul < B ^ n)(hV:V=(v1*B+v2)*B ^ n+Vl)(ht:q*v1+rest=top)(h:rest*B+u2 < q*v2):U < q*V:=by
 have h1:top*B+u2+1<=q*(v1*B+v2):=by
  have e:q*(v1*B+v2)=q*v1*B+q*v2:=by rw [mul_add,mul_assoc]
  have e2:top*B=q*v1*B+rest*B:=by rw [<-ht,add_mul]
  omega
 have h2:=mul_le_mul_right (B ^ n) h1;rw [add_mul,Nat.one_mul] at h2;have h3:q*V=q*(v1*B+v2)*B ^ n+q*Vl:=by rw [hV,mul_add,mul_assoc]
 omega
theorem AS {B n q v1 v2 rest u2 top U V Ul Vl:Nat}(hU:U=(top*B+u2)*B ^ n+Ul)(hV:V=(v1*B+v2)*B ^ n+Vl)(hVl:Vl < B ^ n)(ht:q*v1+rest=top)(hq:q < B)(hv1:0 < v1)(h:q*v2<=rest*B+u2):q*V < U+V:=by
 have h1:q*(v1*B+v2)<=top*B+u2:=by
  have e:q*(v1*B+v2)=q*v1*B+q*v2:=by rw [mul_add,mul_assoc]
  have e2:top*B=q*v1*B+rest*B:=by rw [<-ht,add_mul]
  omega
 have h2:=mul_le_mul_right (B ^ n) h1;have h3:q*V=q*(v1*B+v2)*B ^ n+q*Vl:=by rw [hV,mul_add,mul_assoc]
 have h4:q*Vl<=q*B ^ n:=Nat.mul_le_mul_left q (Nat.le_of_lt hVl);have h5:q*B ^ n+B ^ n<=B*B ^ n:=by
  have:=mul_le_mul_right (B ^ n) (succ_le_of_lt hq);rw [Nat.succ_mul] at this; exact this
 have h6:B*B ^ n<=v1*B*B ^ n:=by
  have:=mul_le_mul_right (B*B ^ n) (succ_le_of_lt hv1);rw [Nat.succ_eq_add_one,zero_add,Nat.one_mul,<-mul_assoc] at this; exact this
 have h7:v1*B*B ^ n<=V:=by rw [hV,add_mul]; omega
 have h8:0 < B ^ n:=Nat.pow_pos (by omega);omega
def mH (B q u v borrow carry:Nat):Nat×Nat×Nat:=((u+B - (q*v+carry) % B - borrow) % B,1 - (u+B - (q*v+carry) % B - borrow) / B,(q*v+carry) / B)
theorem Hr {B q u v borrow carry:Nat}(hB:1 < B)(hu:u < B)(hb:borrow<=1):
  u+B*((mH B q u v borrow carry).2.1+(mH B q u v borrow carry).2.2)=(mH B q u v borrow carry).1+q*v+(borrow+carry)/\(mH B q u v borrow carry).2.1<=1/\(mH B q u v borrow carry).1 < B:=by
 have hp:=mod_lt (q*v+carry) (show 0 < B by omega);have hpm:=mod_add_div (q*v+carry) B;have h:=minus_step (b:=B) (p:=u) (q:=(q*v+carry) % B) (c:=borrow) hB hu hp hb;unfold minusF at h;dsimp only at h;unfold mH;dsimp only;refine ⟨?_,h.2,mod_lt _ (by omega)⟩;rw [mul_add];omega
def cmpN (m n:Nat):Int:=if m < n then -1 else if m=n then 0 else 1
theorem cmpN_lt {m n:Nat}(h:m < n):cmpN m n = -1:=if_pos h
theorem cmpN_gt {m n:Nat}(h:n < m):cmpN m n=1:=by unfold cmpN; rw [if_neg (by omega),if_neg (by omega)]
theorem cmpN_eq (m:Nat):cmpN m m=0:=by unfold cmpN; rw [if_neg (by omega),if_pos rfl]
theorem cmpN_neg {m n:Nat}:cmpN m n < 0↔m < n:=by
 unfold cmpN; split
 ·simp; omega
 ·split <;> simp <;> omega
theorem eachF_len (F:Nat->Nat->Nat->Nat×Nat)(x y:List Nat): ∀ k i c,(eachF F x y i k c).length=k
 | 0,_,_=>rfl
 | k+1,i,c=>by simp [eachF,eachF_len F x y k]
theorem Bo:toDec 0=[48]:=by rw [toDec_lt (by omega)]; rfl
theorem DX:toDec 1=[49]:=by rw [toDec_lt (by omega)]; rfl
theorem toDec_eq_zero {n:Nat}:toDec n=[48]↔n=0:=by
 rw [<-Bo]; exact ⟨uI,fun h=>by rw [h]⟩
theorem toDec_eq_one {n:Nat}:toDec n=[49]↔n=1:=by
 rw [<-DX]; exact ⟨uI,fun h=>by rw [h]⟩
theorem val_take_succ {l:List UInt8}{i:Nat}{c:UInt8}(h:l[i]?=some c):val (l.take (i+1))=10*val (l.take i)+dv c:=by
 obtain ⟨h1,rfl⟩:=List.getElem?_eq_some_iff.1 h;rw [List.take_succ_eq_append_getElem h1,gf]
end Go.Num
end
