/- Laws and walks that the proof leans on (part 2): AbCall; AbFrame; AbCongr; AbOrder; AbDraw; AbDraw2 and others. No condition. -/
import Derived.Test.YtnlccnpbjeiccaaGreatDoorPart1
import Derived.CallsIn
import Derived.Laws.Externs
import Derived.Below
import Derived.Recover
import Derived.ControlIn
import Derived.Attr
set_option linter.unusedVariables false
set_option linter.unusedSimpArgs false
set_option maxRecDepth 100000
open List (all_cons all_eq_true append_nil getElem?_eq_none getElem?_replicate length_cons length_nil map_congr_left mem_append mem_append_left mem_cons mem_filter mem_range mem_singleton nodup_cons)
open Nat (beq_eq ble_eq blt_eq lt_of_lt_of_le lt_or_ge zero_add)
open Option (map_eq_some_iff map_some)
open Array (foldl_toList getElem?_eq_getElem getElem?_toList length_toList)
open Bool (and_eq_true false_eq_true not_eq_true')
open Go.Result (andThen_ok)
open Go.Sem (run_bind)
section
namespace Go.Ab
open Go
variable{h:aa}{W:World}{I:bu}{G:Slot}{J:cI}{g:aa}
section
variable {β:cI} {P:Program} {gl:Nat->Bool}
def JG(a:Array Value):ResultVar->Sem Value
 |.tmp t=>pure (a.getD t undef)
 |.cell x t=>do loadVar t (<-asAddr (a.getD x undef))
theorem Mu(c:Func)(a:Array Value):results c a=(do let b <-c.results.mapM (JG a);pure (if h:b.size=1 then b[0]else .tuple b)):=by rfl
theorem pM{a:Act}{h:aa}{w:World}(i:iC β h w){m:List Value}(f:aU β m a.tmps.toList):∀(l:List ResultVar){d:List Value},cn P m h l=some d->
  ∃b,(l.mapM (JG a.tmps)).run P w = .ok b w/\aU β d b
 |[],d,h=>by simp only[cn,Option.some.injEq]at h;subst h;exact⟨[],by simp,.nil β⟩
 |.tmp t::l,d,c=>by
  simp only[cn]at c;obtain⟨p,k,rfl⟩:=map_eq_some_iff.1 c;obtain⟨b,n,j⟩:=pM i f l k;have e:=f.getD t;rw[show a.tmps.toList.getD t undef=a.tmps.getD t undef by simp[List.getD,Array.getD_eq_getD_getElem?]]at e;refine⟨a.tmps.getD t undef::b,?_,.cons e j⟩
  grind[run_bind,Sem.run_pure,andThen_ok,JG]
 | .cell x t::l,d,c=>by
  simp only[cn]at c;split at c
  ·next v q=>
   obtain⟨p,k,rfl⟩:=map_eq_some_iff.1 c;obtain⟨b,n,j⟩:=pM i f l k;have e:=f.getD x;rw[show a.tmps.toList.getD x undef=a.tmps.getD x undef by simp[List.getD,Array.getD_eq_getD_getElem?]]at e;obtain⟨u,r,s,g,o⟩:=IZ (P:=P) i q e;refine⟨s::b,?_,.cons o j⟩;rw[List.mapM_cons];simp only[run_bind,JG,r,asAddr,Sem.run_pure,andThen_ok,g,n]
  grind
theorem JJ{fn:Func}{a:Act}(m:iC β h W){g:List Value}(p:aU β g a.tmps.toList){d:List Value}(f:cn P g h fn.results.toList=some d):
  ∃e,(results fn a.tmps).run P W = .ok e W/\aB β (bh d) e:=by
 obtain⟨b,n,c⟩:=pM (P:=P) m p fn.results.toList f;have q:(fn.results.mapM (JG a.tmps)).run P W = .ok b.toArray W:=by
  rw[Array.mapM_eq_mapM_toList];simp only[Sem.run_map,n,andThen_ok]
 refine⟨if h:b.toArray.size=1 then b.toArray[0]else .tuple b.toArray,?_,?_⟩
 ·grind[Mu,run_bind,andThen_ok,Sem.run_pure]
 ·match d,b,c with
  |[],b,c=>rw[c.dL];exact .tuple rfl λi v e h=>by grind
  |[v],b,c=>
   obtain⟨e,r,rfl,k,f⟩:=c.cz;rw[f.dL];exact k
  |v::u::d,b,c=>
   have l:=c.1;have j:¬b.toArray.size=1:=by simp only[List.size_toArray];simp only[length_cons]at l;omega
   rw[dif_neg j];exact .tuple (by omega) λi x o s t=>c.2 i x o (by grind) (by grind)
theorem zw.Gr(h:zw β I G W){d:Option (List Deferred)}(q:W.heap[G.b]?=some (.deferred d)):False:=by
 cases I with
 |cells cs t i m=>obtain⟨_,_,_,g,k,n,_⟩:=h;grind
 |map l=>obtain⟨_,f,a,c,_⟩:=h;grind
 |loop o j p e b s=>obtain⟨_,r,c,_⟩:=h;grind
theorem EU{w:World}(a:Step J g W β h w){b:Nat}{d l:Option (List Deferred)}(r:W.heap.size<=b)(j:w.heap[b]?=some (.deferred d)):Step J g W β h (w.putObj b (.deferred l)):=by
 refine⟨a.le,a.next,⟨λk c q=>?_,λk B c m n=>?_,a.na.own,a.na.wf⟩,?_,a.os,a.tape,a.output,λp f o=>?_,a.back,a.fresh,a.keys⟩
 ·rw[World.putObj_size];exact a.na.lt k c q
 ·have i:=a.na.blk k B c m n;refine i.of_heap (World.putObj_heap_other λe=>?_);rw[<-e]at j;exact i.Gr j
 ·grind[World.putObj_size]
 ·rw[World.putObj_heap_other (by omega)];exact a.kept p f o
theorem py{F:Fence}{n:Nat}{fn:Func}{d f:cI}{g m:aa}{c:World}{q:List Value}{tmps:Array Value}{o:List Value}(i:cn P q m fn.results.toList=some o)(s:aU f q tmps.toList):
  ∀(h:List Nat)(e:World),h.Nodup->(∀b∈h,c.heap.size<=b/\e.heap[b]?=some (.deferred (some [])))->Step d g c f m e->LeavesInM F n P fn tmps (nS d g c (bh o) m) (h.map Ge) .returning e
 |[],e,_,_,k=>by
  obtain⟨r,l,j⟩:=JJ (P:=P) (fn:=fn) (a:={ tmps:=tmps,defers:=[] }) k.na s i;exact⟨r,l,r,f,rfl,k,j⟩
 |b::h,e,u,t,k=>by
  obtain⟨l,j⟩:=t b (by simp);obtain⟨v,p⟩:=nodup_cons.1 u;refine⟨by simp,.inl ⟨b,_,rfl,run_takeDeferred j,?_⟩⟩;refine py i s h _ p (λx w=>?_) (EU k l j)
  grind[World.putObj_heap_other]
def gT(P:Program)(gl:Nat->Bool)(f:FuncId)(p:kS):Prop:=
 ∀i,oe P gl i->∀b h v d,p i b h=some (v,d)->∀β w (a:Array Value),iC β h w->Gl gl β->aU β b a.toList->
  ∃g,P.funcs[f]?=some g/\((g.body.isSome=true/\Calls P f a w (nS β h w v d))\/
   (∃j e c,(callFunc f a).run P w = .ok (.value j) e/\Step β h w c d e/\aB c v j))
def oU(P:Program)(gl:Nat->Bool)(a:FuncId->Option kS):Prop:=∀f p,a f=some p->gT P gl f p
def Hw(P:Program)(gl:Nat->Bool):Prop:=∀b,oe P gl b->∀(f:FuncId)(a:Func)(c d:Code),P.funcs[f]?=some a->a.body=some c->Part d c->kh P gl b d
theorem AM(Q:dI P){x:bY}(G:oe P gl x){N:Nat}{f:FuncId}{l:Func}{c:Code}(L:P.funcs[f]?=some l)(J:l.body=some c)(T:∀d,Part d c->kh P gl x d)
  {j:List Value} {h u:aa} {E:List Value} {e:Exit} {z:List Value} (V:aQ P gl x N c (j++List.replicate (l.ntmps-j.length) undef) h=some (e,E,u)) (R:e = .normal\/e = .ret)
  (y:cn P E u l.results.toList=some z) {w:World} {g:Array Value} (O:iC β h w) (W:Gl gl β) (I:aU β j g.toList):
  Calls P f g w (nS β h w (bh z) u):=by
 refine(callsIn_wide (n:=0)).1 (callsIn_of_wp_marks (F:=Fence.wide) L J trivial ?_);have q:∀k,aU β (List.replicate k undef) (List.replicate k undef):=λk=>⟨rfl,λi v Y s t=>by
  rw[getElem?_replicate]at s t;split at s
  ·next S=>rw[if_pos S]at t;obtain rfl:=oI s;obtain rfl:=oI t;exact .undef β
  grind⟩
 have U:aU β (j++List.replicate (l.ntmps-j.length) undef) (g++Array.replicate (l.ntmps-g.size) undef).toList:=by
  have:g.size=j.length:=by rw[I.1];simp
  rw[this];simp only[Array.toList_append,Array.toList_replicate];exact I.append (q _)
 refine vf (r:=none) Q G c (.inl rfl) T _ V O W U λa K X H A D=>?_;obtain⟨M,p,B,o⟩:=D;simp only[append_nil]at p;have m:=py (P:=P) (F:=Fence.wide) (n:=0) (fn:=l) y A M K B (λb C=>⟨(o b C).1,(o b C).2.2.1⟩) H;rw[<-p]at m;rcases R with rfl|rfl
 ·exact m
 ·exact m
theorem Bl:∀(l:List (Tmp×Value))(T:Array Value),(l.foldl (λa (p:Tmp×Value)=>a.setIfInBounds p.1 p.2) T).toList=ry T.toList l
 |[],_=>rfl
 |p::l,T=>by
  simp only[List.foldl_cons,ry];rw[Bl l,ry,Array.toList_setIfInBounds]
theorem aU.set{l l':List Value}(h:aU β l l')(i:Nat){v c:Value}(f:aB β v c):aU β (l.set i v) (l'.set i c):=by
 refine⟨by simp[h.1],λj u e a b=>?_⟩;rw[List.getElem?_set]at a b;split at a
 ·grind
 ·next d=>rw[if_neg d]at b;exact h.2 j u e a b
theorem EP:∀(b:List Tmp){h d c a:List Value},aU β h d->aU β c a->aU β (ry h (b.zip c)) (ry d (b.zip a))
 |[],_,_,_,_,f,_=>by simp_all[ry]
 |p::b,_,_,[],_,f,e=>by rw[e.dL];simp_all[ry]
 |p::b,_,_,v::j,_,f,e=>by
  obtain⟨k,l,rfl,i,g⟩:=e.cz;exact EP b (f.set p i) g
theorem iM{a:bY}(b:∀(d c:Code),Part d c->bV c=true->kh P gl a d){c:Code}(h:bV c=true):∀d,Part d c->kh P gl a d:=λd e=>b d c e h
theorem WA(hN:dI P){cf:bY}(L:oe P gl cf)(hD:∀(d c:Code),Part d c->bV c=true->kh P gl cf d){N k:Nat}{s:List Value}{h h':aa}{v:Value}(j:oO (aQ P gl cf N) k s h=some (v,h')){w:World}{i:Array Value}{p:Slot}
  (hs:iC β h w) (hg:Gl gl β) (ha:aU β s i.toList) (hb:β k=some p):
  ∃fn tmps z q,(Instr.yield p.b i).run P w = .ok (.round p.b fn tmps z q) w/\∀(r:Option Nat)(n:Nat),RoundIn (ij r) n P p.b fn tmps z q w (nS β h w v h'):=by
 unfold oO at j;split at j
 ·next tm ps z q ok hk=>
  split at j
  ·next T=>
   split at j
   ·next z4 h1 S=>
    split at j
    ·next x6 y5 Z E y4 R=>
     split at j
     ·next e x h2 H=>
      split at j
      ·next z2 x8 x9 x3 G y7 b st K f=>
       simp only[Option.some.injEq,Prod.mk.injEq]at j;obtain⟨rfl,rfl⟩:=j;obtain⟨_,o,y0,z5,y9,M,rfl,rfl⟩:=hs.blk _ _ _ hk hb;have y1:i.size=o.params.size:=by
        have:=ha.1;rw[<-length_toList,<-this,T,<-M];simp
       refine⟨o.fn,_,o.assign,o.body,run_yield y0 y1,λr n=>?_⟩;simp only[jP,and_eq_true]at ok;obtain⟨⟨⟨x7,Y⟩,y6⟩,z0⟩:=ok;have x2:aU β (ry tm (ps.zip s)) ((o.params.zip i).foldl (λtmps (t,a)=>tmps.setIfInBounds t a) o.tmps).toList:=by
        rw[<-foldl_toList,Array.toList_zip,M];have:=EP ps y9 ha;rw[<-Bl (ps.zip i.toList) o.tmps]at this;exact this
       refine roundIn_of_wpIn trivial ?_;refine vf (r:=some p.b) hN L o.assign (.inr y6) (iM hD x7) _ S hs hg (a:={ tmps:=_,defers:=[] }) x2 λa1 w1 Q m y8 _=>?_;have u:=m.le _ _ hb;obtain⟨_,O,x1,W,U,V,F,B⟩:=m.na.blk _ _ _ R u;have C:Step Q h1 w1 Q (h1.set k (.loop .busy x6 y5 Z E y4)) (w1.putObj p.b (.loop { O with state:= .busy })):=
        Step.at_ m.na R u rfl (xd _ _ _) ⟨by assumption,{ O with state:= .busy },World.putObj_heap_same (m.na.lt _ _ u).2,rfl,U,V,F,B⟩
       refine⟨_,run_beginRound x1 W.1,?_⟩;have y:=m.trans C;refine vf (r:=some p.b) hN L o.body (.inr z0) (iM hD Y) _ H C.na (hg.mono y.le) y8 λa2 w2 y3 l z3 _=>?_;have A:=l.le _ _ u;obtain⟨x5,z6,x0,z1,x4,X,I,D⟩:=l.na.blk _ _ _ K A;have J:=y.trans l;have fin:∀g:Option Code,b=g.isNone->Ky st (if g.isNone then .ready else .done) g->
         ∃v w',(Instr.endRound p.b g).run P w2 = .ok v w'/\nS β h w (.bool b) (h2.set k (.loop st x8 x9 x3 G y7)) (.returned v) w':=λg hj y2=>by
        refine⟨_,_,run_endRound g x0,.bool g.isNone,y3,rfl,J.trans (Step.at_ l.na K A rfl (xd _ _ _) ⟨x5,_,World.putObj_heap_same (l.na.lt _ _ A).2,y2,x4,X,I,D⟩),?_⟩;rw[hj];exact .bool _
       cases e with
       |normal=>simp only[I3,Option.some.injEq,Prod.mk.injEq]at f;obtain⟨rfl,rfl⟩:=f;exact fin none rfl ⟨rfl,rfl⟩
       |ret=>simp only[I3,Option.some.injEq,Prod.mk.injEq]at f;obtain⟨rfl,rfl⟩:=f;exact fin (some .ret) rfl ⟨rfl,rfl⟩
       |exit id=>simp only[I3,Option.some.injEq,Prod.mk.injEq]at f;obtain⟨rfl,rfl⟩:=f;exact fin (some (.exit id)) rfl ⟨rfl,rfl⟩
       |_=>cases f
      ·cases j
     ·cases j
    ·cases j
   ·cases j
  ·cases j
 grind
def DD(P:Program)(gl:Nat->Bool):Prop:=∀a,oe P gl a->∀(d c:Code),Part d c->bV c=true->kh P gl a d
theorem Fs(t:dI P){A:FuncId->Option kS}(D:oU P gl A)(y:Hw P gl)(C:DD P gl):∀n,oe P gl (bn P gl A n)
 |0=>⟨λf b h v u _ a=>by grind[bn],λk b h v u a=>by grind[bn]⟩
 | n+1=>by
  have g:=Fs t D y C n;refine⟨λf b h v u H a β w j m s r=>?_,λk b h v u a β w j I m s r e=>?_⟩
  ·simp only[bn]at a;rw[if_neg (by omega)]at a;split at a
   ·next p B=>exact D f p B _ g b h v u a β w j m s r
   ·split at a
    ·next x l=>
     split at a
     ·next c e=>
      refine⟨x,l,.inl ⟨by simp[e],?_⟩⟩;split at a
      ·next F G o=>
       obtain⟨E,i,q⟩:=map_eq_some_iff.1 a;simp only[Prod.mk.injEq]at q;obtain⟨rfl,rfl⟩:=q;exact AM t g l e (λd z=>y _ g f x c d l e z) o (.inl rfl) i m s r
      ·next F G o=>
       obtain⟨E,i,q⟩:=map_eq_some_iff.1 a;simp only[Prod.mk.injEq]at q;obtain⟨rfl,rfl⟩:=q;exact AM t g l e (λd z=>y _ g f x c d l e z) o (.inr rfl) i m s r
      ·cases a
     ·cases a
    grind
  ·simp only[bn]at a;rw[if_pos (by omega),Nat.add_sub_cancel_left]at a;exact WA t g (C _ g) a m s r e
end
section
variable {β:cI} {P:Program}
structure wW(h h':aa):Prop where
 next:h.next=h'.next
 get:∀k,h.get k=h'.get k
theorem wW.refl(h:aa):wW h h:=⟨rfl,λ_=>rfl⟩
theorem wW.symm(e:wW h g):wW g h:=⟨e.next.symm,λk=>(e.get k).symm⟩
theorem iC.same{h f:aa}{w:World}(e:wW h f)(b:iC β h w):iC β f w:=
 ⟨λk a g=>by rw[<-e.next];exact b.lt k a g,λk B a m d=>b.blk k B a (by rw[e.get];omega) d,
  λk j B o a i c m d l n p=>b.own k j B o a i c (by rw[e.get];omega) (by rw[e.get];omega) l n p,
  λk B g=>by rw[<-e.next];exact b.wf k B (by rw[e.get];omega)⟩
theorem Wr.same{h a:aa}(e:wW h a){b:Nat}:Wr β h b->Wr β a b:=λ⟨k,B,c,f,d⟩=>⟨k,B,c,by rw[<-e.get];omega,d⟩
theorem Step.same{h c m a:aa}{g:cI}{w l:World}(e:wW h c)(f:wW m a)(s:Step β h w g m l):Step β c w g a l:=
 ⟨s.le,by rw[<-e.next,<-f.next];exact s.next,s.na.same f,s.size,s.os,s.tape,s.output,λb i o=>s.kept b i λd=>o (d.same e),λb i d=>(s.back b i (d.same f.symm)).same e,
  λk p n=>(s.fresh k p n).imp id λ⟨t,q⟩=>⟨by rw[<-e.next];omega,q.imp id λd=>d.same e⟩,
  λk B n r=>let⟨j,u⟩:=s.keys k B (by rw[f.get];omega) (by rw[e.next];omega);⟨j,by rw[<-e.get];omega⟩⟩
theorem iC.sub(b:iC β h W)(j:g.next=h.next)(c:∀k B,g.get k=some B->h.get k=some B):iC β g W:=
 ⟨λk a f=>by rw[j];exact b.lt k a f,λk B a d e=>b.blk k B a (c k B d) e,λk i B m a n l d e o p q=>b.own k i B m a n l (c k B d) (c i m e) o p q,
  λk B f=>by rw[j];exact b.wf k B (c k B f)⟩
theorem Step.frame{E V V':aa}{F:World}(s:Step β g W J E F)(p:iC β V W)(D:V.next=g.next)(x:V'.next=E.next)(R:Nat->bu->Prop)
  (u:∀k B,R k B->k<g.next/\g.get k=none) (n:∀k B,V.get k=some B↔g.get k=some B\/R k B) (l:∀k B,V'.get k=some B↔E.get k=some B\/R k B):Step β V W J V' F:=by
 have m:∀k a,k<g.next->J k=some a->β k=some a:=λk a f e=>by
  rcases s.fresh k a e with h|⟨h,_⟩
  all_goals omega
 have C:∀k B a,R k B->β k=some a->¬Wr β g a.b:=by
  rintro k B a H e ⟨G,N,I,c,d,q,o⟩;have r:G≠k:=by rintro rfl;rw[(u _ _ H).2]at c;cases c
  exact p.own G k N B I a r ((n _ _).2 (.inl c)) ((n _ _).2 (.inr H)) q e d o
 have A:∀b,Wr β g b->Wr β V b:=λb ⟨k,B,a,c,d⟩=>⟨k,B,a,(n _ _).2 (.inl c),d⟩
 refine⟨s.le,by rw[D,x];exact s.next,⟨?_,?_,?_,?_⟩,s.size,s.os,s.tape,s.output,λb e K=>s.kept b e λh=>K (A b h),?_,?_,?_⟩
 ·intro k a f;rw[x];exact s.na.lt k a f
 ·intro k B a c d;rcases(l k B).1 c with c|c
  ·exact s.na.blk k B a c d
  ·have e:=m k a (u _ _ c).1 d;exact((p.blk k B a ((n _ _).2 (.inr c)) e).mono s.le).of_heap (s.kept _ (p.lt k a e).2 (C k B a c e))
 ·intro k j B v a i r c d q o z;rcases(l k B).1 c with c|c
  ·rcases(l j v).1 d with d|d
   ·exact s.na.own k j B v a i r c d q o z
   ·have e:=m j i (u _ _ d).1 o;intro L;exact C j v i d e (s.back _ (p.lt j i e).2 ⟨k,B,a,c,z,q,L⟩)
  ·have e:=m k a (u _ _ c).1 q;rcases(l j v).1 d with d|d
   ·rcases s.fresh j i o with y|⟨_,y|y⟩
    ·have w:=(p.lt j i y).1;obtain⟨t,M⟩:=s.keys j v d (by rw[<-D];exact w);exact p.own k j B t a i r ((n _ _).2 (.inr c)) ((n _ _).2 (.inl M)) e y z
    ·have:=(p.lt k a e).2;omega
    grind
   ·exact p.own k j B v a i r ((n _ _).2 (.inr c)) ((n _ _).2 (.inr d)) e (m j i (u _ _ d).1 o) z
 ·intro k B f;rw[x];rcases(l k B).1 f with f|f
  ·exact s.na.wf k B f
  ·exact lt_of_lt_of_le (u _ _ f).1 s.next
 ·rintro b e ⟨k,B,a,c,d,q,o⟩;rcases(l k B).1 c with c|c
  ·exact A b (s.back b e ⟨k,B,a,c,d,q,o⟩)
  ·exact⟨k,B,a,(n _ _).2 (.inr c),d,m k a (u _ _ c).1 q,o⟩
 ·intro k a f;rcases s.fresh k a f with h|⟨c,d⟩
  all_goals grind
 ·intro k B f w;rcases(l k B).1 f with f|f
  ·obtain⟨t,O⟩:=s.keys k B f (by rw[<-D];exact w);exact⟨t,(n _ _).2 (.inl O)⟩
  grind
theorem oQ.Sj{w M:World}(m:Step J h W β g w){B:bu}{f:Nat->Value}{O:Value}(p:oQ β w B f O M){k:Nat}(I:β k=none)(X:h.next<=k)(N:k<g.next):
  ∃t,Step J h W t (g.set k B) M/\aB t (f k) O/\β.le t/\∀j,j≠k->t j=β j:=by
 obtain⟨l,P,K⟩:=p.new;have y:=m.na;have u:β.le (β.ext k l):=cI.BD l I;obtain⟨V,R⟩:=K _ k u (β.ca _ _);have L:∀a d,β a=some d->d.b<w.heap.size:=λa d I=>(y.lt a d I).2;have U:=m.size;refine⟨β.ext k l,⟨cI.le_trans m.le u,m.next,⟨?_,?_,?_,aa.wf_set y.wf B N⟩,by rw[p.size];omega,p.os.trans m.os,m.tape.trans p.tape,p.output.trans m.output,
  λb x Q=>(p.kept b (by omega)).trans (m.kept b x Q),?_,?_,?_⟩,R,u,λj S=>β.dz l S⟩
 ·intro a d e;by_cases c:a=k
  ·subst c;rw[β.ca]at e;obtain rfl:=oI e;exact⟨N,by rw[p.size,P];omega⟩
  ·rw[β.dz l c]at e;have:=y.lt a d e;exact⟨this.1,by rw[p.size];omega⟩
 ·intro a C d i n;by_cases c:a=k
  ·subst c;rw[β.ca]at n;obtain rfl:=oI n;rw[g.db]at i
   grind
  ·rw[g.bW k a B c]at i;rw[β.dz l c]at n;exact((y.blk a C d i n).mono u).of_heap (p.kept _ (L a d n))
 ·intro q s F G E D z i n o r T;by_cases A:q=k
  ·subst A;rw[β.ca]at o;obtain rfl:=oI o;rw[β.dz l (Ne.symm z)]at r
   grind
  ·by_cases v:s=k
   ·subst v;rw[β.ca]at r;obtain rfl:=oI r;rw[β.dz l z]at o
    grind
   ·rw[g.bW k q B A]at i;rw[g.bW k s B v]at n;rw[β.dz l A]at o;rw[β.dz l v]at r;exact y.own q s F G E D z i n o r T
 ·rintro b x ⟨a,C,d,i,n,o,r⟩;by_cases c:a=k
  ·subst c;rw[β.ca]at o
   grind
  ·rw[g.bW k a B c]at i;rw[β.dz l c]at o;exact m.back b x ⟨a,C,d,i,n,o,r⟩
 ·intro a d e;by_cases c:a=k
  ·subst c;rw[β.ca]at e
   grind
  ·rw[β.dz l c]at e;exact m.fresh a d e
 ·intro a C i H;rw[g.bW k a B (by omega)]at i;exact m.keys a C i H
end
section
variable {P:Program} {ρ ρ':Operand->Value}
theorem adt{l:List (Nat×Operand)}(h:∀x∈l.map (·.2),ρ x=ρ' x):l.map (λp=>(p.1,ρ p.2))=l.map (λp=>(p.1,ρ' p.2)):=
 map_congr_left λp a=>by grind
theorem aeO{r:Option Operand}(h:∀x∈r.toList,ρ x=ρ' x):r.map ρ=r.map ρ':=by
 cases r with
 |none=>rfl
 |some x=>grind
theorem aeA{l:List (Nat×Operand)}(h:∀x∈l.map (·.2),ρ x=ρ' x)(q:Value->Bool):(l.all λp=>q (ρ p.2))=l.all λp=>q (ρ' p.2):=by grind
theorem GA{o:Oper}(h:∀x∈o.op.operands,ρ x=ρ' x):ba P ρ o=ba P ρ' o:=by
 obtain⟨l,j,n,k,g,f⟩:=o
 cases j
 case call c=>
  obtain⟨d,e,m⟩:=c
  cases d with
  |builtin b=>
   have i:e.toList.map ρ=e.toList.map ρ':=map_congr_left λx a=>h x (by simpa[Op.operands,Call.operands]using a)
   cases b<;>simp only[ba,i]
   split
   ·next x t a q=>rw[h x (by simp[Op.operands,Call.operands];exact Array.mem_of_getElem? a)]
   ·rfl
  |_=>rfl
 all_goals first
  |rfl
  |(simp only[Op.operands,Array.mem_append,List.mem_toArray,mem_cons,List.not_mem_nil,or_false,forall_eq_or_imp,forall_eq]at h;simp only[ba,h];done)
  |skip
 case build t p=>
  simp only[ba];rw[adt λx a=>h x (by simpa[Op.operands]using a)]
 grind[Array.map_congr_left,Op.operands,ba]
theorem GB{o:Oper}(h:∀x∈o.op.operands,ρ x=ρ' x):bj P ρ o g=bj P ρ' o g:=by
 obtain⟨l,i,n,k,e,d⟩:=o
 cases i
 case call c=>
  obtain⟨a,j,m⟩:=c
  cases a with
  |builtin b=>
   cases b<;>simp only[bj]
   split
   ·next x t f p=>rw[h x (by simp[Op.operands,Call.operands];exact Array.mem_of_getElem? f)]
   ·rfl
  |_=>rfl
 all_goals first
  |rfl
  |(simp only[Op.operands,Array.mem_append,List.mem_toArray,mem_cons,List.not_mem_nil,or_false,forall_eq_or_imp,forall_eq]at h;simp only[bj,h];done)
  |skip
 grind[aeO,Op.operands,bj]
theorem Dq{o:Oper}(h:∀x∈o.op.operands,ρ x=ρ' x):aT P ρ o=aT P ρ' o:=by
 obtain⟨i,e,k,g,c,b⟩:=o
 cases e
 all_goals first
  |rfl
  |(simp only[Op.operands,List.mem_toArray,mem_cons,List.not_mem_nil,or_false,forall_eq_or_imp,forall_eq]at h;simp only[aT,h];done)
  |skip
 case buildSlice t j f=>
  have a:∀x∈f.toList.map (·.2),ρ x=ρ' x:=λx d=>h x (by simpa[Op.operands]using d);simp only[aT];rw[adt a,aeA a]
 grind[aT,Op.operands]
theorem Jn{k:bY}{o:Oper}(h:∀x∈o.op.operands,ρ x=ρ' x):cJ P k ρ o g=cJ P k ρ' o g:=by
 obtain⟨r,n,v,q,m,l⟩:=o
 cases n
 case call c=>
  obtain⟨e,a,u⟩:=c
  cases e with
  | builtin b=>
   have j:a.toList.map ρ=a.toList.map ρ':=map_congr_left λx d=>h x (by simpa[Op.operands,Call.operands]using d)
   cases b<;>simp only[cJ,j]
   all_goals
    split
    ·next s x t w d z=>
     have i:∀y∈a.toList,ρ y=ρ' y:=λy p=>h y (by simpa[Op.operands,Call.operands]using p);rw[d]at i;rw[i s (by simp),i x (by simp)]
    ·rfl
  |value f=>
   have j:a.toList.map ρ=a.toList.map ρ':=map_congr_left λx d=>h x (by simp[Op.operands,Call.operands];right;simpa using d);simp only[cJ,j,h f (by simp[Op.operands,Call.operands])]
  |_=>rfl
 all_goals simp_all[Op.operands,cJ]
end
end Go.Ab
end
section
namespace Go.Ab
open Go Region
variable{i:Nat}{j:Nat}
structure Fi(ops:Array Oper)(L:List Nat):Prop where
 mem:∀i,i∈L↔i<ops.size
 nodup:L.Nodup
 aeH:∀pre i suf,L=pre++i::suf->∀o,ops[i]?=some o->∀e∈o.after,binds .any e=true->e.on∈pre
theorem O9{m:Region.Mode}{e:Edge}(h:binds .any e=true):binds m e=true:=by grind[binds]
def may(m:Region.Mode)(ops:Array Oper)(a:Array Bool)(i:Nat):Prop:=
 a.getD i true=false/\∃o,ops[i]?=some o/\∀e∈o.after,binds m e=true->a.getD e.on false=true
theorem tW{m:Region.Mode}{ops:Array Oper}{a:Array Bool}:
  i∈(List.range ops.size).filter (λi=> !a.getD i true&&((ops[i]?).map (·.after.all λe=> !binds m e||a.getD e.on false)).getD false)↔i<ops.size/\may m ops a i:=by
 simp only[mem_filter,mem_range,and_eq_true,not_eq_true',may]
 grind[Array.all_eq_true']
def left(ops:Array Oper)(a:Array Bool):List Nat:=(List.range ops.size).filter λi=> !a.getD i true
theorem Bo{l:Array Bool}(d:Bool)(a:i<l.size):(l.setIfInBounds i true).getD j d=if j=i then true else l.getD j d:=by
 simp only[Array.getD_eq_getD_getElem?,Array.getElem?_setIfInBounds]
 grind
theorem IL(m:Region.Mode)(ops:Array Oper):
  ∀(p t:Nat)(c:Array Bool)(d:List Nat),c.size=ops.size->(∀i,i∈d↔i<ops.size/\c.getD i true=true)->d.Nodup->
   (∀g i q,d.reverse=g++i::q->∀o,ops[i]?=some o->∀e∈o.after,binds m e=true->e.on∈g)->
   let L:=linearise.go m ops p t c d
   (∀i,i∈L->i<ops.size)/\L.Nodup/\∀g i q,L=g++i::q->∀o,ops[i]?=some o->∀e∈o.after,binds m e=true->e.on∈g
 |0,t,c,d,G,v,E,J=>by grind[linearise.go]
 | p+1,t,c,d,G,v,E,J=>by
  simp only[linearise.go];split
  ·next i A=>
   have A:=List.mem_of_getElem? A;obtain⟨H,u,o,I,z⟩:=tW.1 A;have y:i<c.size:=by omega
   have K:i∉d:=λh=>by have:=((v i).1 h).2;rw[u]at this;cases this
   have r:∀e∈o.after,binds m e=true->e.on∈d.reverse:=λe n s=>by
    rw[List.mem_reverse,v];have x:=z e n s;have:e.on<c.size:=by
     rcases lt_or_ge e.on c.size with C|C
     ·exact C
     ·simp[Array.getD_eq_getD_getElem?,Array.getElem?_eq_none C]at x
    exact⟨by omega,by simp only[Array.getD_eq_getD_getElem?,getElem?_eq_getElem this]at x⊢;exact x⟩
   refine IL m ops p (t/_) (c.setIfInBounds i true) (i::d) (by simpa using G) ?_ (nodup_cons.2 ⟨K,E⟩) ?_
   ·intro j;rw[mem_cons,v,Bo _ y];constructor
    ·rintro(rfl|⟨k,f⟩)
     ·exact⟨H,by simp⟩
     ·exact⟨k,by split<;>simp_all⟩
    ·rintro⟨k,f⟩;split at f
     ·next n=>exact .inl n
     ·exact .inr ⟨k,f⟩
   ·intro g j q w M l e n s;rw[List.reverse_cons]at w;rcases List.append_eq_append_iff.1 w with⟨D,k,f⟩|⟨B,k,f⟩
    ·cases D with
     |nil=>
      simp only[List.nil_append,List.cons.injEq]at f;obtain⟨rfl,rfl⟩:=f;rw[I]at l;obtain rfl:=oI l;rw[k,append_nil];exact r e n s
     |cons a D=>
      simp only[List.cons_append,List.cons.injEq]at f;obtain⟨_,f⟩:=f;have:=congrArg List.length f;simp at this
    ·cases B with
     |nil=>
      simp only[List.nil_append,List.cons.injEq]at f;obtain⟨rfl,rfl⟩:=f;rw[I]at l;obtain rfl:=oI l;have F:g=d.reverse:=by simpa using k.symm
      rw[F];exact r e n s
     |cons b B=>
      simp only[List.cons_append,List.cons.injEq]at f;obtain⟨rfl,_⟩:=f;exact J g j B k M l e n s
  grind
theorem Ts(m:Region.Mode)(ops:Array Oper)(e:∀a:Array Bool,a.size=ops.size->(∃i,i<ops.size/\a.getD i true=false)->∃i,i<ops.size/\may m ops a i):
  ∀(b t:Nat)(a:Array Bool)(c:List Nat),a.size=ops.size->(left ops a).length<=b->(∀i,i<ops.size->a.getD i true=true->i∈c)->
   ∀i,i<ops.size->i∈linearise.go m ops b t a c
 |0,t,a,c,p,w,z=>λi h=>by simp_all[linearise.go,left]
 | b+1,t,a,c,p,w,z=>by
  simp only[linearise.go];split
  ·next i g=>
   have g:=List.mem_of_getElem? g;obtain⟨r,k,_⟩:=tW.1 g;have f:i<a.size:=by omega
   refine Ts m ops e b (t/_) (a.setIfInBounds i true) (i::c) (by grind) ?_ ?_
   ·have n:∀j,j∈left ops (a.setIfInBounds i true)->j∈left ops a/\j≠i:=by
     intro j d;simp only[left,mem_filter,mem_range,not_eq_true',Bo _ f]at d⊢;split at d
     ·exact absurd d.2 (by simp)
     ·next q=>exact⟨d,q⟩
    have B:i∈left ops a:=mem_filter.2 ⟨mem_range.2 r,by rw[k];rfl⟩;have o:(left ops (a.setIfInBounds i true)).Nodup:=List.Pairwise.filter _ List.nodup_range;have:(left ops (a.setIfInBounds i true)).length<=((left ops a).erase i).length:=by
     refine List.Nodup.length_le_of_subset o λj d=>?_;obtain⟨v,A⟩:=n j d;exact(List.mem_erase_of_ne A).2 v
    grind
   ·intro j d l;rw[Bo _ f]at l
    grind
  ·next s=>
   intro i g;rw[List.mem_reverse]
   cases l:a.getD i true with
   |true=>grind
   |false=>
    obtain⟨C,x,y⟩:=e a p ⟨i,g,l⟩;have u:=tW.2 ⟨x,y⟩
    grind[Nat.mod_lt]
theorem IW(ops:Array Oper)(a:Array Bool):(left ops a).length<=ops.size:=by grind[left]
theorem Ek(m:Region.Mode)(ops:Array Oper)(t:Nat):
  (∀i,i∈linearise m ops t->i<ops.size)/\(linearise m ops t).Nodup/\∀a i b,linearise m ops t=a++i::b->∀o,ops[i]?=some o->∀e∈o.after,binds m e=true->e.on∈a:=by
 refine IL m ops ops.size t _ [] (by simp) (λi=>?_) List.nodup_nil (λa i b h=>by simp at h)
 simp_all
theorem Yy(m:Region.Mode)(ops:Array Oper)(t:Nat)(b:∀a:Array Bool,a.size=ops.size->(∃i,i<ops.size/\a.getD i true=false)->∃i,i<ops.size/\may m ops a i):
  ∀i,i<ops.size->i∈linearise m ops t:=by
 refine Ts m ops b ops.size t _ [] (by simp) (IW _ _) λi c d=>?_
 simp_all
def Ku(ops:Array Oper):Prop:=∀i o,ops[i]?=some o->∀e∈o.after,e.on<i\/binds .any e=false/\binds .text e=false
theorem aap{p:Nat->Prop}[DecidablePred p]:∀(n:Nat),(∃i,i<n/\p i)->∃i,i<n/\p i/\∀j,j<i->¬p j
 |0,⟨_,h,_⟩=>absurd h (by omega)
 |n+1,h=>by
  by_cases c:∃i,i<n/\p i
  ·obtain⟨i,d,b,a⟩:=aap n c;exact⟨i,by omega,b,a⟩
  grind
theorem EA{m:Region.Mode}{ops:Array Oper}(g:∀i o,ops[i]?=some o->∀e∈o.after,binds m e=true->e.on<i):
  ∀a:Array Bool,a.size=ops.size->(∃i,i<ops.size/\a.getD i true=false)->∃i,i<ops.size/\may m ops a i:=by
 intro a j b;obtain⟨i,c,d,h⟩:=aap ops.size b;refine⟨i,c,d,ops[i],getElem?_eq_getElem c,λe k f=>?_⟩
 grind
theorem ID{p:Nat->Prop}[DecidablePred p]:∀(L:List Nat),(∃i∈L,p i)->∃a i b,L=a++i::b/\p i/\∀j∈a,¬p j
 |[],⟨_,h,_⟩=>by cases h
 | x::L,h=>by
  by_cases d:p x
  ·exact⟨[],x,L,rfl,d,λj k=>by grind⟩
  ·obtain⟨i,c,e⟩:=h;rcases mem_cons.1 c with rfl|c
   ·grind
   ·obtain⟨a,j,b,rfl,f,g⟩:=ID L ⟨i,c,e⟩
    grind
theorem QL{m:Region.Mode}{ops:Array Oper}(z:(linearise m ops 0).length=ops.size):
  ∀a:Array Bool,a.size=ops.size->(∃i,i<ops.size/\a.getD i true=false)->∃i,i<ops.size/\may m ops a i:=by
 intro a x k;obtain⟨n,t,s⟩:=Ek m ops 0;have f:∀i,i<ops.size->i∈linearise m ops 0:=by
  intro i d;refine Classical.byContradiction λq=>?_;have g:(i::linearise m ops 0).Nodup:=nodup_cons.2 ⟨q,t⟩;have:=List.Nodup.length_le_of_subset (l₂:=List.range ops.size) g λj b=>by
   rcases mem_cons.1 b with rfl|b
   ·exact mem_range.2 d
   ·exact mem_range.2 (n j b)
  simp at this;omega
 obtain⟨i,d,r⟩:=k;obtain⟨o,j,h,c,v,y⟩:=ID (p:=λi=>a.getD i true=false) _ ⟨i,f i d,r⟩;have b:j<ops.size:=n j (by rw[c];simp);refine⟨j,b,v,ops[j],getElem?_eq_getElem b,λe u l=>?_⟩;have w:=s o j h c _ (getElem?_eq_getElem b) e u l
 grind
theorem tl{ops:Array Oper}(l:Ku ops)(v:departs ops=true->(linearise .gc ops 0).length=ops.size)(g:Bool)(t:Nat):Fi ops (schedule g ops t):=by
 have b:∀(m:Region.Mode)(t:Nat),(∀a:Array Bool,a.size=ops.size->(∃i,i<ops.size/\a.getD i true=false)->∃i,i<ops.size/\may m ops a i)->Fi ops (linearise m ops t):=by
  intro m t u;obtain⟨r,s,q⟩:=Ek m ops t;exact⟨λi=>⟨r i,Yy m ops t u i⟩,s,λp i n h o f e d c=>q p i n h o f e d (O9 c)⟩
 have k:∀i o,ops[i]?=some o->∀e∈o.after,binds .any e=true->e.on<i:=λi o f e d c=>by
  rcases l i o f e d with h|⟨h,_⟩
  all_goals grind
 have j:∀i o,ops[i]?=some o->∀e∈o.after,binds .text e=true->e.on<i:=λi o f e d c=>by
  rcases l i o f e d with h|⟨_,h⟩
  all_goals grind
 unfold schedule;split
 ·exact b _ _ (EA k)
 ·next w=>
  split
  ·exact b _ _ (EA j)
  ·refine b _ _ (QL (v ?_))
   grind
end Go.Ab
end
section
namespace Go.Ab
open Go
variable{j:Nat}{c:List Value}{v:Value}{h:aa}
section
variable {P:Program} {gl:Nat->Bool}
theorem rP{e:Value->Value->Bool}(c:∀a b,e a b=true->a=b):∀{x y:List Value},wN e x y=true->x=y
 |[],[],_=>rfl
 |[],_::_,h=>by grind[wN]
 |_::_,[],h=>by grind[wN]
 |a::x,b::y,h=>by
  simp only[wN,and_eq_true]at h;rw[c a b h.1,rP c h.2]
theorem mh:∀(d:Nat)(a b:Value),df d a b=true->a=b
 |0,_,_,h=>by grind[df]
 | d+1,a,b,h=>by
  have e:=mh d;have f:∀{x y:Array Value},wN (df d) x.toList y.toList=true->x=y:=λc=>Array.ext' (rP e c);unfold df at h;split at h
  ·simpa using h
  ·simp only[and_eq_true,decide_eq_true_eq]at h;rw[h.1,h.2]
  ·next x y=>
   simp only[decide_eq_true_eq]at h;have:x=y:=by
    obtain⟨x⟩:=x;obtain⟨y⟩:=y;congr 1;exact Array.ext' h
   rw[this]
  all_goals grind
structure AG(ops:Array Oper)(bf:Nat->Nat->Bool):Prop where
 lt:∀j i,bf j i=true->i<j
 trans:∀k j i,bf k j=true->bf j i=true->bf k i=true
 Rr:∀L,Fi ops L->∀pre j suf,L=pre++j::suf->∀i,bf j i=true->i∈pre
 names:∀(j:Nat)(o:Oper)(t:Tmp),ops[j]?=some o->Operand.tmp t∈o.op.operands->∀(i:Nat)(o':Oper),ops[i]?=some o'->o'.dst=some t->i=j\/bf j i=true\/bf i j=true
 guards:∀(j:Nat)(o:Oper)(i:Nat)(b:Bool),ops[j]?=some o->o.guard=some (i,b)->bf j i=true
 uniq:∀(i j:Nat)(o o':Oper)(t:Tmp),ops[i]?=some o->ops[j]?=some o'->o.dst=some t->o'.dst=some t->i=j
abbrev Kv:=List Value×aa×List (Nat×bu)
def One(P:Program)(gl:Nat->Bool)(cf:bY)(ops:Array Oper)(bf:Nat->Nat->Bool)(base j:Nat)(o:Oper)(s:Kv)(e:lE)(a:Kv):Prop:=
 match e with
 |.skip=>ef ops s.1 o=some false/\a=(fe s.1 o.dst undef,s.2.1,s.2.2)
 |.pure v=>ef ops s.1 o=some true/\ba P (ev gl s.1) o=some v/\a=(fe s.1 o.dst v,s.2.1,s.2.2)
 |.read v=>ef ops s.1 o=some true/\bj P (ev gl s.1) o s.2.1=some v/\a=(fe s.1 o.dst v,s.2.1,s.2.2)
 |.alloc B v=>ef ops s.1 o=some true/\(∃f,aT P (ev gl s.1) o=some (B,f)/\v=f (base+j))/\a=(fe s.1 o.dst v,s.2.1,(j,B)::s.2.2)
 | .qh v b=>ef ops s.1 o=some true/\(∃u,cJ P cf (ev gl s.1) o (aw s.2.1 base (s.2.2.filter λp=>bf j p.1))=some (v,u)/\b=u.app (aw s.2.1 base (s.2.2.filter λp=>bf j p.1)))/\
   a=(fe s.1 o.dst v,b,s.2.2.filter λp=> !bf j p.1)
theorem qK{cf:bY}{ops:Array Oper}{bf:Nat->Nat->Bool}{base:Nat}:∀(a:List Oper)(j:Nat)(s:Kv)(b:List (List Value×lE))(d:Kv),
  cU P gl cf ops bf base a j s.1 s.2.1 s.2.2=some (b,d)->∃(st:Nat->Kv)(en:Nat->lE),st j=s/\st (j+a.length)=d/\b.length=a.length/\
   ∀i o,a[i]?=some o->One P gl cf ops bf base (j+i) o (st (j+i)) (en (j+i)) (st (j+i+1))/\b[i]?=some ((st (j+i)).1,en (j+i))
 |[],j,s,b,d,h=>by
  simp only[cU,Option.some.injEq,Prod.mk.injEq]at h;obtain⟨rfl,rfl⟩:=h;exact⟨λ_=>s,λ_=> .skip,rfl,rfl,rfl,λi o A=>by grind⟩
 | o::a,j,s,b,d,h=>by
  have k:∀(e:lE)(m:Kv)(r:List (List Value×lE)×Kv),One P gl cf ops bf base j o s e m->cU P gl cf ops bf base a (j+1) m.1 m.2.1 m.2.2=some r->((s.1,e)::r.1,r.2)=(b,d)->
    ∃(st:Nat->Kv)(en:Nat->lE),st j=s/\st (j+(o::a).length)=d/\b.length=(o::a).length/\
     ∀i q,(o::a)[i]?=some q->One P gl cf ops bf base (j+i) q (st (j+i)) (en (j+i)) (st (j+i+1))/\b[i]?=some ((st (j+i)).1,en (j+i)):=by
   intro e m r t c p;obtain⟨st,en,x,y,w,z⟩:=qK a (j+1) m r.1 r.2 c;simp only[Prod.mk.injEq]at p;obtain⟨rfl,rfl⟩:=p;refine⟨λi=>if i=j then s else st i,λi=>if i=j then e else en i,by simp,?_,by grind,?_⟩
   ·grind
   ·grind
  simp only[cU]at h;split at h
  ·cases h
  ·next n=>
   obtain⟨r,c,g⟩:=map_eq_some_iff.1 h;exact k .skip (fe s.1 o.dst undef,s.2.1,s.2.2) r ⟨n,rfl⟩ c g
  ·next n=>
   split at h
   ·next v l=>
    obtain⟨r,c,g⟩:=map_eq_some_iff.1 h;exact k (.pure v) (fe s.1 o.dst v,s.2.1,s.2.2) r ⟨n,l,rfl⟩ c g
   ·split at h
    ·next v l=>
     obtain⟨r,c,g⟩:=map_eq_some_iff.1 h;exact k (.read v) (fe s.1 o.dst v,s.2.1,s.2.2) r ⟨n,l,rfl⟩ c g
    ·split at h
     ·next B f l=>
      obtain⟨r,c,g⟩:=map_eq_some_iff.1 h;exact k (.alloc B (f (base+j))) (fe s.1 o.dst (f (base+j)),s.2.1,(j,B)::s.2.2) r ⟨n,⟨f,l,rfl⟩,rfl⟩ c g
     ·split at h
      ·next v u l=>
       obtain⟨r,c,g⟩:=map_eq_some_iff.1 h;exact k (.qh v _) (fe s.1 o.dst v,_,_) r ⟨n,⟨u,l,rfl⟩,rfl⟩ c g
      grind
def lE.ei:lE->Bool
 |.qh .. =>true
 |_=>false
structure Nu(P:Program)(gl:Nat->Bool)(cf:bY)(ops:Array Oper)(bf:Nat->Nat->Bool)(base:Nat)(st:Nat->Kv)(en:Nat->lE):Prop where
 one:∀i o,ops[i]?=some o->One P gl cf ops bf base i o (st i) (en i) (st (i+1))
 chain:∀e₁ e₂,e₁<e₂->e₂<ops.size->(en e₁).ei=true->(en e₂).ei=true->bf e₂ e₁=true
 reads:∀j o v,ops[j]?=some o->en j = .read v->∀c,c<=ops.size->(∀e,e<c->(en e).ei=true->bf e j=false)->(∀e,c<=e->e<ops.size->(en e).ei=true->bf j e=false)->
  bj P (ev gl (st j).1) o (st c).2.1=some v
section
variable {cf:bY} {ops:Array Oper} {bf:Nat->Nat->Bool} {base:Nat} {st:Nat->Kv} {en:Nat->lE}
theorem One.heap{o:Oper}{s a:Kv}{e:lE}(h:One P gl cf ops bf base j o s e a):(∀v b,e = .qh v b->a.2.1=b)/\(e.ei=false->a.2.1=s.2.1):=by
 cases e<;>simp only[One]at h
 all_goals grind[lE.ei]
theorem One.tm{o:Oper}{s a:Kv}{e:lE}(h:One P gl cf ops bf base j o s e a):a.1=fe s.1 o.dst e.val:=by
 cases e<;>simp only[One]at h
 ·rw[h.2];rfl
 ·rw[h.2.2];rfl
 ·rw[h.2.2];rfl
 ·rw[h.2.2];rfl
 ·rw[h.2.2];rfl
theorem pb(b:∀k j i,bf k j=true->bf j i=true->bf k i=true):∀(a:List (List Value×lE))(i x:Nat)(c:aa),chained bf ((x,c)::dE a i)=true->
  ∀k r,a[k]?=some r->r.2.ei=true->bf (i+k) x=true
 |[],i,x,c,h,k,r,f,d=>by grind
 | (l,e)::a,i,x,c,h,k,r,f,d=>by
  cases e with
  | qh v g=>
   simp only[dE,chained,and_eq_true]at h
   cases k with
   |zero=>grind
   |succ k=>
    have:=pb b a (i+1) i g h.2 k r (by simpa using f) d
    grind
  | _=>
   simp only[dE]at h
   cases k with
   |zero=>grind[lE.ei]
   |succ k=>
    have:=pb b a (i+1) x c h k r (by simpa using f) d
    grind
theorem Fu{x:Nat×aa}{l:List (Nat×aa)}(h:chained bf (x::l)=true):chained bf l=true:=by
 cases l with
 |nil=>rfl
 |cons y l=>simp_all[chained]
theorem sU(g:∀k j i,bf k j=true->bf j i=true->bf k i=true):∀(c:List (List Value×lE))(i:Nat),chained bf (dE c i)=true->
  ∀b a f d,b<a->c[b]?=some f->c[a]?=some d->f.2.ei=true->d.2.ei=true->bf (i+a) (i+b)=true
 |[],i,h,b,a,f,d,m,l,p,o,q=>by grind
 | (t,e)::c,i,h,b,a,f,d,m,l,p,o,q=>by
  cases a with
  |zero=>omega
  | succ a=>
   have n:c[a]?=some d:=by simpa using p
   cases b with
   |zero=>
    simp only[List.getElem?_cons_zero,Option.some.injEq]at l;subst l
    cases e with
    |qh v r=>grind[pb,dE]
    |_=>grind[lE.ei]
   | succ b=>
    have s:chained bf (dE c (i+1))=true:=by
     cases e with
     |qh v r=>simp only[dE]at h;exact Fu h
     |_=>simpa only[dE]using h
    have:=sU g c (i+1) s b a f d (by omega) (by simpa using l) n o q
    grind
theorem rp{o:Oper}(a:hO P gl o c v h=true):bj P (ev gl c) o h=some v:=by grind[mh,hO]
theorem lY{j:Nat}{o:Oper}{w:List Value}{v:Value}{N:Nat}(C:j<N)(m:∀c,c<=N->(∀e,j<=e->e<c->(en e).ei=false)->(∀e,c<=e->e<j->(en e).ei=false)->bj P (ev gl w) o (st c).2.1=some v):
  ∀(a:List (List Value×lE))(i:Nat)(b:Bool),(∀k r,a[k]?=some r->r.2=en (i+k))->i+a.length=N->
  (∀k,i<=k->k<i+a.length->(∀v s,en k = .qh v s->(st (k+1)).2.1=s)/\((en k).ei=false->(st (k+1)).2.1=(st k).2.1))->
  (b=true->∀e,j<=e->e<i->(en e).ei=false)->
  jz P gl bf j o w v (st i).2.1 (dE a i) b=true->∀c,i<=c->c<=i+a.length->(∀e,i<=e->e<c->(en e).ei=true->bf e j=false)->
  (∀e,c<=e->e<i+a.length->(en e).ei=true->bf j e=false)->bj P (ev gl w) o (st c).2.1=some v
 |[],i,b,q,A,g,H,h,c,F,B,z,t=>by
  simp only[dE,jz,Bool.or_eq_true]at h;simp only[length_nil]at B A
  grind[rp]
 | (D,e)::a,i,b,q,A,g,H,h,c,F,B,z,t=>by
  simp only[length_cons]at B t g A;have G:e=en i:=q 0 (D,e) rfl;have n:∀k r,a[k]?=some r->r.2=en (i+1+k):=λk r O=>by
   rw[show i+1+k=i+(k+1) by omega];exact q (k+1) r (by grind)
  have l:∀k,i+1<=k->k<i+1+a.length->_:=λk K I=>g k (by omega) (by omega)
  cases J:e.ei with
  | true=>
   cases e with
   | qh u s=>
    simp only[dE,jz,and_eq_true,Bool.or_eq_true]at h;have x:=(g i (by omega) (by omega)).1 u s G.symm;by_cases E:c=i
    ·grind[blt_eq,rp]
    ·rcases h.2 with p|p
     ·grind
     ·rw[<-x]at p;refine lY C m a (i+1) _ n (by omega) l ?_ p c (by omega) (by omega) (λe f d=>z e (by omega) d) (λe f d=>t e f (by omega))
      grind[blt_eq]
   |_=>grind[lE.ei]
  | false=>
   have x:=(g i (by omega) (by omega)).2 (by grind);have p:jz P gl bf j o w v (st (i+1)).2.1 (dE a (i+1)) b=true:=by
    rw[x]
    cases e with
    |qh u s=>grind[lE.ei]
    |_=>grind[dE]
   have y:b=true->∀e,j<=e->e<i+1->(en e).ei=false:=λM L f d=>by grind
   by_cases E:c=i
   ·subst E;rw[<-x];exact lY C m a (c+1) b n (by omega) l y p (c+1) (by omega) (by omega) (λe f d=>by omega) (λe f d=>t e (by omega) (by omega))
   ·exact lY C m a (i+1) b n (by omega) l y p c (by omega) (by omega) (λe f d=>z e (by omega) d) (λe f d=>t e f (by omega))
theorem tj{f:aa}{d:List (Nat×aa)}:∀(c:List Oper)(a:List (List Value×lE))(j:Nat),fQ P gl bf f d c a j=true->
  ∀(i:Nat)(o:Oper)(b:List Value)(v:Value),c[i]?=some o->a[i]?=some (b,.read v)->jz P gl bf (j+i) o b v f d true=true
 |[],_,_,_,i,o,b,v,g,_=>by grind
 |_::_,[],_,_,i,o,b,v,_,k=>by grind
 | n::c,(m,e)::a,j,h,i,o,b,v,g,k=>by
  have l:fQ P gl bf f d c a (j+1)=true:=by
   cases e<;>simp only[fQ,and_eq_true]at h<;>first|exact h|grind
  cases i with
  |zero=>simp_all[fQ]
  |succ i=>
   have:=tj c a (j+1) l i o b v (by simpa using g) (by simpa using k)
   grind
theorem Ii(S:AG ops bf){B z:List Value}{h N:aa}(p:rO P gl cf ops bf B h=some (z,N)):
  ∃st en,Nu P gl cf ops bf h.next st en/\st 0=(B,{ h with next:=h.next+ops.size },[])/\(st ops.size).1=z/\N=aw (st ops.size).2.1 h.next (st ops.size).2.2:=by
 unfold rO at p;split at p
 ·next f F T pd V=>
  split at p
  ·next s=>
   simp only[and_eq_true]at s;simp only[Option.some.injEq,Prod.mk.injEq]at p;obtain⟨rfl,rfl⟩:=p;obtain⟨st,en,L,q,H,g⟩:=qK (P:=P) (gl:=gl) (cf:=cf) ops.toList 0 (B,{ h with next:=h.next+ops.size },[]) f (F,T,pd) V;simp only[zero_add,length_toList,getElem?_toList]at q H g;refine⟨st,en,⟨λi o n=>(g i o n).1,?_,?_⟩,L,by rw[q],by rw[q]⟩
   ·intro x w b K O Q;have:=sU S.trans f 0 s.1 x w _ _ b (g x _ (getElem?_eq_getElem (by omega))).2 (g w _ (getElem?_eq_getElem K)).2 O Q;simpa using this
   ·intro j o v n A c W J G;have u:=(g j o n).2;rw[A]at u;have C:=tj ops.toList f 0 s.2 j o _ v (by simpa using n) u;rw[zero_add]at C;have U:(st 0).2.1={ h with next:=h.next+ops.size }:=by rw[L]
    rw[<-U]at C;have m:∀c d,c+d<=ops.size->(∀e,c<=e->e<c+d->(en e).ei=false)->(st (c+d)).2.1=(st c).2.1:=by
     intro c d
     induction d with
     |zero=>intros;rfl
     |succ d R=>
      intro Y D;have:=((g (c+d) _ (getElem?_eq_getElem (by omega))).1).heap.2 (D (c+d) (by omega) (by omega));rw[show c+(d+1)=c+d+1 by omega,this];exact R (by omega) λe a t=>D e a (by omega)
    have I:j<ops.size:=(Array.getElem?_eq_some_iff.1 n).1;have l:=(g j o n).1;rw[A]at l;simp only[One]at l;refine lY (st:=st) (en:=en) I ?_ f 0 true (λk r y=>by
      have b:k<ops.size:=by rw[<-H];exact(List.getElem?_eq_some_iff.1 y).1
      have:=(g k _ (getElem?_eq_getElem b)).2;rw[this]at y;obtain rfl:=oI y;simp) (by omega)
     (λk _ y=>by
      have b:k<ops.size:=by omega
      exact((g k _ (getElem?_eq_getElem b)).1).heap) (λ_ e _ Z=>by omega) C c (by omega) (by omega) (λe _=>J e) (λe a t=>G e a (by omega))
    intro c W M E;rcases lt_or_ge j c with b|X
    ·have:=m j (c-j) (by omega) λe a t=>M e a (by omega);rw[show j+(c-j)=c by omega]at this;rw[this];exact l.2.1
    ·have:=m c (j-c) (by omega) λe a t=>E e a (by omega);rw[show c+(j-c)=j by omega]at this;rw[<-this];exact l.2.1
  ·cases p
 grind
end
end
variable{x:List Nat}{J:cI}
section
variable {P:Program} {gl:Nat->Bool}
theorem mE{h:aa}{base:Nat}:∀(R:List (Nat×bu)),(∀i B a,(i,B)∈R->(i,a)∈R->B=a)->(∀i B,(i,B)∈R->h.get (base+i)=none)->
  ∀k B,(aw h base R).get k=some B↔h.get k=some B\/ ∃i,k=base+i/\(i,B)∈R
 |[],_,_,k,B=>by simp[aw]
 |(j,c)::R,e,d,k,B=>by
  have g:=mE R (λi B a b f=>e i B a (List.mem_cons_of_mem _ b) (List.mem_cons_of_mem _ f)) (λi B b=>d i B (List.mem_cons_of_mem _ b)) k B;simp only[aw,aa.ay]
  grind
theorem fI{h:aa}{base:Nat}:∀(R:List (Nat×bu)),(aw h base R).next=h.next
 |[]=>rfl
 |_::R=>fI R
theorem jc(a:List Value)(d:Option Tmp)(v:Value):(fe a d v).length=a.length:=by cases d<;>simp[fe]
theorem GM{d:Option Tmp}{t:Tmp}(h:d≠some t):(fe c d v)[t]?=c[t]?:=by
 cases d with
 |none=>rfl
 |some d=>simp_all[fe]
theorem EB{t:Tmp}(h:t<c.length):(fe c (some t) v)[t]?=some v:=by grind[fe]
section
variable {cf:bY} {ops:Array Oper} {bf:Nat->Nat->Bool} {base:Nat} {st:Nat->Kv} {en:Nat->lE}
theorem Nu.jZ(a:Nu P gl cf ops bf base st en):∀i,i<=ops.size->(st i).1.length=(st 0).1.length
 |0,_=>rfl
 |i+1,h=>by
  rw[(a.one i _ (getElem?_eq_getElem (by omega))).tm,jc];exact a.jZ i (by omega)
theorem Nu.M7(e:Nu P gl cf ops bf base st en)(t:Tmp):∀i,i<=ops.size->(∀(b:Nat)(a:Oper),b<i->ops[b]?=some a->a.dst≠some t)->(st i).1[t]?=(st 0).1[t]?
 |0,_,_=>rfl
 |i+1,h,c=>by
  have d:=getElem?_eq_getElem (xs:=ops) (i:=i) (by omega);rw[(e.one i _ d).tm,GM (c i _ (by omega) d)];exact e.M7 t i (by omega) λb a g f=>c b a (by omega) f
theorem Nu.Ha(j:AG ops bf)(e:Nu P gl cf ops bf base st en){t:Tmp}(l:t<(st 0).1.length){b:Nat}{d:Oper}(a:ops[b]?=some d)(f:d.dst=some t):∀i,i<=ops.size->b<i->(st i).1[t]?=some (en b).val
 |0,_,h=>absurd h (by omega)
 |i+1,h,m=>by
  have c:=getElem?_eq_getElem (xs:=ops) (i:=i) (by omega);rw[(e.one i _ c).tm];by_cases k:b=i
  ·subst k;rw[a]at c;obtain rfl:=oI c;rw[f,EB (by rw[e.jZ _ (by omega)];omega)]
  ·rw[GM λg=>k (j.uniq b i d _ t a c f g)];exact e.Ha j l a f i (by omega) (by omega)
theorem Nu.yg(b:Nu P gl cf ops bf base st en){c:Nat}:∀(d:Nat),c+d<=ops.size->(∀e,c<=e->e<c+d->(en e).ei=false)->(st (c+d)).2.1=(st c).2.1
 |0,_,_=>rfl
 |d+1,h,a=>by
  rw[show c+(d+1)=c+d+1 by omega,(b.one (c+d) _ (getElem?_eq_getElem (by omega))).heap.2 (a _ (by omega) (by omega))];exact b.yg d (by omega) λe f g=>a e f (by omega)
def zE(bf:Nat->Nat->Bool)(en:Nat->lE)(c i:Nat)(B:bu):Prop:=(∃v,en i = .alloc B v)/\∀e,e<c->(en e).ei=true->bf e i=false
theorem Nu.abE(q:AG ops bf)(r:Nu P gl cf ops bf base st en)(u:(st 0).2.2=[]):∀m,m<=ops.size->∀i B,(i,B)∈(st m).2.2↔i<m/\zE bf en m i B
 |0,_,i,B=>by grind
 | m+1,h,i,B=>by
  have l:=r.abE q u m (by omega) i B;have a:=r.one m _ (getElem?_eq_getElem (by omega));have f:(en m).ei=false->(∀B v,en m≠ .alloc B v)->(i<m+1/\zE bf en (m+1) i B↔i<m/\zE bf en m i B):=λy x=>by
   constructor
   ·rintro⟨k,⟨v,c⟩,d⟩;refine⟨?_,⟨v,c⟩,λe j=>d e (by omega)⟩
    grind
   ·rintro⟨k,c,d⟩;refine⟨by omega,c,λe j g=>?_⟩
    grind
  cases b:en m with
  |skip=>
   rw[b]at a;simp only[One]at a;rw[a.2,l,f (by rw[b];rfl) (by grind)]
  |pure v=>
   rw[b]at a;simp only[One]at a;rw[a.2.2,l,f (by rw[b];rfl) (by grind)]
  |read v=>
   rw[b]at a;simp only[One]at a;rw[a.2.2,l,f (by rw[b];rfl) (by grind)]
  | alloc t v=>
   rw[b]at a;simp only[One]at a;rw[a.2.2];simp only[mem_cons,Prod.mk.injEq];rw[l];constructor
   ·rintro(⟨rfl,rfl⟩|⟨k,c,d⟩)
    ·refine⟨by omega,⟨v,b⟩,λe j _=>?_⟩
     cases s:bf e i with
     |false=>rfl
     |true=>have:=q.lt _ _ s;omega
    ·refine⟨by omega,c,λe j g=>?_⟩;rcases lt_or_ge e m with n|n
     ·grind
     ·obtain rfl:e=m:=by omega
      rw[b]at g;cases g
   ·rintro⟨k,⟨o,c⟩,d⟩;rcases lt_or_ge i m with n|n
    ·exact .inr ⟨n,⟨o,c⟩,λe j=>d e (by omega)⟩
    grind
  | qh v z=>
   rw[b]at a;simp only[One]at a;rw[a.2.2];simp only[mem_filter,not_eq_true'];rw[l];constructor
   ·rintro⟨⟨k,c,d⟩,n⟩;refine⟨by omega,c,λe j g=>?_⟩
    grind
   ·rintro⟨k,⟨o,c⟩,d⟩;have p:i<m:=by
     rcases lt_or_ge i m with w|w
     ·omega
     ·grind
    exact⟨⟨p,⟨o,c⟩,λe j=>d e (by omega)⟩,d m (by omega) (by rw[b];rfl)⟩
def RY(ops:Array Oper)(en:Nat->lE)(b:List Value)(S:List Nat)(d:cI)(a:Act):Prop:=
 a.tmps.size=b.length/\∀(t:Tmp)(c:Value),a.tmps[t]?=some c->(∀(i:Nat)(o:Oper),i∈S->ops[i]?=some o->o.dst=some t->aB d (en i).val c)/\
  ((∀(i:Nat)(o:Oper),i∈S->ops[i]?=some o->o.dst≠some t)->∀v,b[t]?=some v->aB d v c)
theorem RY.mono{b:cI}{a:Act}(h:RY ops en c x J a)(d:J.le b):RY ops en c x b a:=
 ⟨h.1,λt j g=>⟨λi o e f k=>((h.2 t j g).1 i o e f k).mono d,λe v f=>((h.2 t j g).2 e v f).mono d⟩⟩
theorem RY.put(r:AG ops bf){c:List Value}{S:List Nat}{g:cI}{a:Act}(h:RY ops en c S g a){j:Nat}{o:Oper}(p:ops[j]?=some o){v':Value}(v:aB g (en j).val v'):RY ops en c (S++[j]) g (a.put o.dst v'):=by
 refine⟨by cases e:o.dst<;>simp[Act.put,h.1],λt u b=>?_⟩;by_cases e:o.dst=some t
 ·have k:u=v':=by
   rw[e]at b;simp only[Act.put,Array.getElem?_setIfInBounds,if_true]at b;split at b
   ·exact(oI b).symm
   ·cases b
  subst k;refine⟨λi s _ n q=>?_,λl=>absurd e (l j o (by simp) p)⟩;obtain rfl:=r.uniq i j s o t n p q e;omega
 ·have m:a.tmps[t]?=some u:=by
   cases f:o.dst with
   |none=>rw[f]at b;exact b
   |some d=>
    rw[f]at b e;simp only[Act.put,Array.getElem?_setIfInBounds]at b;rw[if_neg (by rintro rfl;exact e rfl)]at b;exact b
  obtain⟨w,n⟩:=h.2 t u m
  grind
theorem RY.ae5(d:AG ops bf)(y:Nu P gl cf ops bf base st en){L l m:List Nat}{j:Nat}(p:Fi ops L)(q:L=l++j::m){r:cI}{a:Act}(h:RY ops en (st 0).1 l r a)(N:Gl gl r){o:Oper}(w:ops[j]?=some o):
  ∀x∈o.op.operands,aB r (ev gl (st j).1 x) (a.eval x):=by
 have O:j<ops.size:=(Array.getElem?_eq_some_iff.1 w).1;intro x C
 cases x with
 | tmp t=>
  simp only[ev,Act.eval];by_cases B:t<(st 0).1.length
  ·have k:t<a.tmps.size:=by rw[h.1];exact B
   obtain⟨D,I⟩:=h.2 t _ (getElem?_eq_getElem k);rw[Array.getD_eq_getD_getElem?,getElem?_eq_getElem k,Option.getD_some];by_cases E:∃(i:Nat)(e:Oper),i∈l/\ops[i]?=some e/\e.dst=some t
   ·obtain⟨i,e,F,b,n⟩:=E;have s:i<j:=by
     rcases d.names j o t w C i e b n with rfl|c|c
     ·have:=p.nodup;rw[q]at this;exact absurd rfl (List.nodup_append.1 this |>.2.2 i F i List.mem_cons_self)
     ·exact d.lt _ _ c
     ·obtain⟨K,G,rfl⟩:=List.append_of_mem F;have:=d.Rr L p K i (G++j::m) (by rw[q];simp) j c;have u:=p.nodup;rw[q]at u;exact absurd rfl ((List.nodup_append.1 u).2.2 j (mem_append_left _ this) j List.mem_cons_self)
    rw[gD,y.Ha d B b n j (by omega) s]
    grind
   ·have H:=y.M7 t j (by omega) λA e s b n=>by
     rcases d.names j o t w C A e b n with rfl|c|c
     ·omega
     ·exact E ⟨A,e,d.Rr L p l j m q A c,b,n⟩
     ·have:=d.lt _ _ c;omega
    grind
  ·have k:¬t<a.tmps.size:=by rw[h.1];exact B
   rw[gD,getElem?_eq_none (by rw[y.jZ j (by omega)];grind),Array.getD_eq_getD_getElem?,Array.getElem?_eq_none (Nat.le_of_not_lt k)];exact .undef r
 |const v=>
  simp only[ev,Act.eval];split
  ·next z=>exact .mK z
  ·exact .fs v
 | global g=>
  simp only[ev,Act.eval];split
  ·next z=>
   obtain⟨R,D,I,Q,J⟩:=N g z;have:=aB.ptr (i:=0) D J
   grind
  ·exact .fs _
 |func f=>
  simp only[ev,Act.eval];exact .func rfl rfl rfl (λi v M h=>by grind) (λi v M h=>by grind)
theorem RY.wanted(m:AG ops bf)(x:Nu P gl cf ops bf base st en){L k r:List Nat}{j:Nat}(F:Fi ops L)(G:L=k++j::r){D:cI}{a:Act}(h:RY ops en (st 0).1 k D a){o:Oper}(A:ops[j]?=some o){b:Bool}
  (e:ef ops (st j).1 o=some b):Region.wanted o (yielded ops a.tmps)=b:=by
 have J:j<ops.size:=(Array.getElem?_eq_some_iff.1 A).1;unfold ef at e;unfold Region.wanted;split at e
 ·grind
 ·next i f C=>
  rw[C];simp only[yielded];have y:=m.guards j o i f A C;have I:=m.Rr L F k j r G i y;split at e
  ·next d B=>
   rw[B];simp only[Option.bind_some];obtain⟨E,q,p⟩:=Option.bind_eq_some_iff.1 B;have g:∀v,(st j).1[d]?=some v->v=(en i).val/\∃n,a.tmps[d]?=some n/\aB D v n:=by
    intro v u;have s:d<(st 0).1.length:=by rw[<-x.jZ j (by omega)];exact(List.getElem?_eq_some_iff.1 u).1
    have t:d<a.tmps.size:=by rw[h.1];exact s
    have:=x.Ha m s q p j (by omega) (m.lt _ _ y);rw[this]at u;obtain rfl:=oI u;exact⟨rfl,_,getElem?_eq_getElem t,(h.2 d _ (getElem?_eq_getElem t)).1 i E I q p⟩
   split at e
   ·next H c=>
    obtain⟨_,n,l,w⟩:=g _ (Eg c);rw[w.iF]at l;rw[l];simp only[Option.some.injEq]at e;subst e
    cases H<;>cases f<;>rfl
   ·next M c=>
    simp only[Option.some.injEq]at e;subst e;rcases Bp c with c|c
    ·obtain⟨_,n,l,w⟩:=g _ c;obtain⟨K,rfl,_⟩:=w.rU;rw[l];rfl
    ·have z:a.tmps[d]?=none:=Array.getElem?_eq_none (by rw[h.1,<-x.jZ j (by omega)];exact List.getElem?_eq_none_iff.1 c);rw[z];rfl
   ·cases e
  grind
end
end
variable{n:Nat}{W:World}{r:Operand->Value}{i:Nat}{I:bu}
section
variable {β:cI} {P:Program} {gl:Nat->Bool}
theorem yr{r:Option Nat}{o:Oper}{a:Act}{w:World}(d:∀c,o.op≠ .defer c)(b:(execOp a.eval o).run P w = .ok (.value v) W){next:Act->World->Prop}{Q:Exit->Act->World->Prop}
  (h:next (a.put o.dst v) W):o.wpIn (ij r) n P a w next Q:=by
 refine⟨λ_ _=>trivial,?_⟩;rw[Oper.semAt_eq _ _ _ d,b];exact h
theorem S3(z:dI P){cf:bY}(s:oe P gl cf){r:Option Nat}{n:Nat}{ρ:Operand->Value}{a:Act}{h:aa}{w:World}{o:Oper}{v:Value}{u:bp}(q:iC β h w)(B:Gl gl β)(k:∀x,aB β (ρ x) (a.eval x))
  (j:cJ P cf ρ o h=some (v,u)) (next:Act->World->Prop) (Q:Exit->Act->World->Prop)
  (l:∀i d b,Step β h w b (u.app h) d->aB b v i->next (a.put o.dst i) d):o.wpIn (ij r) n P a w next Q:=by
 refine⟨λ_ _=>trivial,?_⟩;have m:∀c,o.op≠ .defer c:=by
  intro c g;simp[cJ,g]at j
 rw[Oper.semAt_eq _ _ _ m];by_cases g:aZ o=false
 ·obtain⟨i,d,b,e,t,p⟩:=xT k g q j;rcases e with e|⟨e,rfl⟩
  ·rw[e];exact l i d b t p
  ·rw[e];exact l undef d b t p
 ·unfold aZ at g;split at g
  ·next f A C y=>
   simp only[cJ,y]at j;exact H4 z s y q B k j next Q l
  grind
open Classical in
noncomputable def only(o:Oper)(ρ:Operand->Value):Operand->Value:=λx=>if x∈o.op.operands then ρ x else fs
theorem Ah{o:Oper}{ρ:Operand->Value}:∀x∈o.op.operands,ρ x=only o ρ x:=λx a=>by grind[only]
theorem Um{o:Oper}{ρ:Operand->Value}(h:∀x∈o.op.operands,aB β (ρ x) (r x)):∀x,aB β (only o ρ x) (r x):=λx=>by
 unfold only;split
 ·grind
 ·exact .fs _
section
variable {cf:bY} {ops:Array Oper} {bf:Nat->Nat->Bool} {st:Nat->Kv} {en:Nat->lE}
structure Inv(ops:Array Oper)(bf:Nat->Nat->Bool)(st:Nat->Kv)(en:Nat->lE)(β₀:cI)(h:aa)(w₀:World)(a₀:Act)(pre:List Nat)(β:cI)(w:World)(a:Act)(c:Nat)(R:List (Nat×bu)):Prop where
 le:c<=ops.size
 Dc:∀e,e<ops.size->(en e).ei=true->(e∈pre↔e<c)
 mem:∀i B,(i,B)∈R↔i∈pre/\zE bf en c i B
 step:Step β₀ h w₀ β (aw (st c).2.1 h.next R) w
 room:h.next+ops.size<=(st c).2.1.next
 Jh:∀i B,i<ops.size->(st c).2.1.get (h.next+i)=some B->∃e,e<c/\(en e).ei=true/\bf e i=true
 free:∀i,i<ops.size->i∉pre->(∃B v,en i = .alloc B v)->β (h.next+i)=none
 RM:RY ops en (st 0).1 pre β a
 dfs:a.defers=a₀.defers
theorem zE.Yf{c:Nat}{a:bu}(h:zE bf en c i I)(b:zE bf en c i a):I=a:=by
 obtain⟨v,d⟩:=h.1;obtain⟨f,e⟩:=b.1
 grind
variable {β₀:cI} {h:aa} {w₀:World} {a₀:Act} {pre:List Nat} {w:World} {a:Act} {c:Nat} {R:List (Nat×bu)}
theorem Inv.none_(b:Inv ops bf st en β₀ h w₀ a₀ pre β w a c R){i:Nat}{B:bu}(j:i<ops.size)(l:zE bf en c i B):(st c).2.1.get (h.next+i)=none:=by
 cases m:(st c).2.1.get (h.next+i)with
 |none=>rfl
 |some k=>
  obtain⟨e,f,g,d⟩:=b.Jh i k j m;rw[l.2 e f g]at d;grind
theorem Inv.get(b:Inv ops bf st en β₀ h w₀ a₀ pre β w a c R)(e:∀i∈pre,i<ops.size)(k:Nat)(B:bu):
  (aw (st c).2.1 h.next R).get k=some B↔(st c).2.1.get k=some B\/ ∃i,k=h.next+i/\(i,B)∈R:=
 mE R (λi B g d f=>((b.mem i B).1 d).2.Yf ((b.mem i g).1 f).2) (λi B d=>b.none_ (e i ((b.mem i B).1 d).1) ((b.mem i B).1 d).2) k B
theorem Inv.sub(d:Inv ops bf st en β₀ h w₀ a₀ pre β w a c R)(b:∀i∈pre,i<ops.size):iC β (st c).2.1 w:=
 d.step.na.sub (fI R).symm λk B e=>(d.get b k B).2 (.inl e)
theorem Inv.calm(n:AG ops bf)(b:Inv ops bf st en β₀ h w₀ a₀ pre β w a c R){j:Nat}{o:Oper}(q:ops[j]?=some o)(s:(en j).ei=false)(r:∀B v,en j≠ .alloc B v){g:Value}(k:aB β (en j).val g):
  Inv ops bf st en β₀ h w₀ a₀ (pre++[j]) β w (a.put o.dst g) c R where
 le:=b.le
 Dc:=λe p l=>by
  rw[mem_append,b.Dc e p l]
  grind
 mem:=λi B=>by
  rw[b.mem,mem_append];refine⟨λ⟨d,f⟩=>⟨.inl d,f⟩,λ⟨d,f⟩=>⟨?_,f⟩⟩;rcases d with d|d
  ·omega
  ·simp only[mem_singleton]at d;subst d;obtain⟨v,k⟩:=f.1
   grind
 step:=b.step
 room:=b.room
 Jh:=b.Jh
 free:=λi d f=>b.free i d λm=>f (mem_append_left _ m)
 RM:=b.RM.put n q k
 dfs:=(put_defers a o.dst g).trans b.dfs
theorem Ij(hN:dI P)(y9:oe P gl cf)(z:AG ops bf)(A:Nu P gl cf ops bf h.next st en)(x8:(st 0).2.2=[]){L:List Nat}(C:Fi ops L){r:Option Nat}{n:Nat}{Q:Exit->Act->World->Prop}(x6:Gl gl β₀)
  (hk:∀a' w' I,Step β₀ h w₀ I (aw (st ops.size).2.1 h.next (st ops.size).2.2) w'->aU I (st ops.size).1 a'.tmps.toList->a'.defers=a₀.defers->Q .normal a' w'):
  ∀(J pre:List Nat)(β:cI)(w:World)(a:Act)(c:Nat)(R:List (Nat×bu)),L=pre++J->Inv ops bf st en β₀ h w₀ a₀ pre β w a c R->wpOpsIn (ij r) n P ops Q J a w
 | [],pre,β,w,a,c,R,O,d=>by
  rw[append_nil]at O;subst O;have E:∀i∈L,i<ops.size:=λi hi=>(C.mem i).1 hi;have M:∀e,c<=e->e<ops.size->(en e).ei=false:=λe b g=>by
   cases x3:(en e).ei with
   |false=>rfl
   |true=>have:=(d.Dc e g x3).1 ((C.mem e).2 g);omega
  have u1:=d.le;have W:(st ops.size).2.1=(st c).2.1:=by
   have:=A.yg (c:=c) (ops.size-c) (by omega) λe b g=>M e b (by omega);rwa[show c+(ops.size-c)=ops.size by omega]at this
  have y5:∀i B,zE bf en ops.size i B↔zE bf en c i B:=λi B=>by
   refine⟨λhp=>⟨hp.1,λe b=>hp.2 e (by omega)⟩,λhp=>⟨hp.1,λe b g=>hp.2 e ?_ g⟩⟩
   grind
  have K:∀i B,(i,B)∈(st ops.size).2.2↔(i,B)∈R:=λi B=>by
   rw[A.abE z x8 ops.size (Nat.le_refl _),d.mem,y5,C.mem]
  have z1:=d.get E;have y6:∀k B,(aw (st ops.size).2.1 h.next (st ops.size).2.2).get k=some B↔(st c).2.1.get k=some B\/ ∃i,k=h.next+i/\(i,B)∈(st ops.size).2.2:=by
   rw[W];exact mE _ (λi B X b g=>((d.mem i B).1 ((K i B).1 b)).2.Yf ((d.mem i X).1 ((K i X).1 g)).2)
    (λi B b=>d.none_ (E i ((d.mem i B).1 ((K i B).1 b)).1) ((d.mem i B).1 ((K i B).1 b)).2)
  have hS:wW (aw (st c).2.1 h.next R) (aw (st ops.size).2.1 h.next (st ops.size).2.2):=by
   refine⟨by grind[fI],λk=>Option.ext λB=>?_⟩;rw[z1,y6];simp only[K]
  refine hk a w β (d.step.same (wW.refl h) hS) ?_ d.dfs;refine⟨?_,λt v v' b g=>?_⟩
  ·rw[A.jZ _ (Nat.le_refl _),length_toList,d.RM.1]
  ·rw[getElem?_toList]at g;obtain⟨y,x⟩:=d.RM.2 t v' g;have z5:t<(st 0).1.length:=by rw[<-A.jZ _ (Nat.le_refl _)];exact(List.getElem?_eq_some_iff.1 b).1
   by_cases T:∃(i:Nat)(o:Oper),ops[i]?=some o/\o.dst=some t
   ·obtain⟨i,o,q,hd⟩:=T;have hi:i<ops.size:=(Array.getElem?_eq_some_iff.1 q).1;rw[A.Ha z z5 q hd _ (Nat.le_refl _) hi]at b;obtain rfl:=oI b;exact y i o ((C.mem i).2 hi) q hd
   ·rw[A.M7 t _ (Nat.le_refl _) λi o _ q hd=>T ⟨i,o,q,hd⟩]at b
    grind
 | j::J,pre,β,w,a,c,R,O,d=>by
  have E:∀i∈pre,i<ops.size:=λi hi=>(C.mem i).1 (by grind);have hj:j<ops.size:=(C.mem j).1 (by grind);have y0:j∉pre:=λhm=>by
   have z9:=C.nodup
   grind
  have x2:∀i,bf j i=true->i∈pre:=z.Rr L C pre j J O;have y8:∀i∈pre,bf i j=false:=λi hi=>by
   cases hb:bf i j with
   |false=>rfl
   |true=>
    obtain⟨p1,p2,rfl⟩:=List.append_of_mem hi;exact absurd (mem_append_left _ (z.Rr L C p1 i (p2++j::J) (by grind) j hb)) y0
  have q:=getElem?_eq_getElem hj;generalize ops[j]=o at q;have m:=A.one j o q;have hg:Gl gl β:=x6.mono d.step.le;have z2:=d.RM.ae5 z A C O hg q;have x5:=Um z2;have N:=Ij hN y9 z A x8 C (r:=r) (n:=n) x6 hk J (pre++[j]);have Z:L=(pre++[j])++J:=by rw[O];simp
  simp only[wpOpsIn,q]
  cases l:en j with
  |skip=>
   rw[l]at m;simp only[One]at m;rw[d.RM.wanted z A C O q m.1];simp only[false_eq_true,if_false];refine⟨λ_ _=>trivial,?_⟩;exact N β w _ c R Z (d.calm z q (by rw[l];rfl) (by grind) (by rw[l];exact .undef β))
  |pure v=>
   rw[l]at m;simp only[One]at m;obtain⟨T,s,_⟩:=m;rw[d.RM.wanted z A C O q T];simp only[if_true];rw[GA Ah]at s;obtain⟨v',b,g⟩:=pE x5 s w;refine yr ?_ b (N β w _ c R Z (d.calm z q (by rw[l];rfl) (by rw[l];intro B v h;cases h) (by rw[l];exact g)))
   grind[ba]
  | read v=>
   rw[l]at m;simp only[One]at m;obtain⟨T,_,_⟩:=m;rw[d.RM.wanted z A C O q T];simp only[if_true];have s:=A.reads j o v q l c d.le
    (λe b g=>y8 e ((d.Dc e (by have:=d.le;omega) g).2 b))
    (λe b g y=>by
     cases hb:bf j e with
     |false=>rfl
     |true=>have:=(d.Dc e g y).1 (x2 e hb);omega)
   rw[GB Ah]at s;obtain⟨v',b,g⟩:=pF x5 (d.sub E) s;refine yr ?_ b (N β w _ c R Z (d.calm z q (by rw[l];rfl) (by rw[l];intro B v h;cases h) (by rw[l];exact g)))
   grind[bj]
  | alloc B v=>
   rw[l]at m;simp only[One]at m;obtain⟨T,⟨f,s,rfl⟩,_⟩:=m;rw[d.RM.wanted z A C O q T];simp only[if_true];rw[Dq Ah]at s;obtain⟨v',w',b,g⟩:=nJ x5 (w:=w) s;have y3:=d.free j hj y0 ⟨B,_,l⟩;have y7:=d.room;obtain⟨I,y,x,h5,h6⟩:=g.Sj d.step y3 (by omega) (by grind[fI]);refine yr (by grind[aT]) b (N I w' _ c ((j,B)::R) Z ⟨d.le,?_,?_,y,d.room,d.Jh,?_,?_,(put_defers a o.dst v').trans d.dfs⟩)
   ·intro e S G;rw[mem_append,d.Dc e S G];refine⟨λD=>?_,.inl⟩;rcases D with D|D
    ·omega
    ·simp only[mem_singleton]at D;subst D;rw[l]at G;cases G
   ·intro i X;rw[mem_cons,d.mem,mem_append];constructor
    ·rintro(D|⟨S,G⟩)
     ·simp only[Prod.mk.injEq]at D;obtain⟨rfl,rfl⟩:=D;refine⟨.inr List.mem_cons_self,⟨_,l⟩,λe S G=>y8 e ((d.Dc e (by have:=d.le;omega) G).2 S)⟩
     grind
    ·rintro⟨S|S,G⟩
     ·grind
     ·simp only[mem_singleton]at S;subst S;obtain⟨v2,h9⟩:=G.1
      grind
   ·intro i S G h9;rw[h6 _ λD=>G (by grind)];exact d.free i S (λD=>G (mem_append_left _ D)) h9
   ·exact(d.RM.mono h5).put z q (by rw[l];exact x)
  | qh v h'=>
   rw[l]at m;simp only[One]at m;have y4:(st (j+1)).2.1=h':=by rw[m.2.2]
   obtain⟨T,⟨u,s,hu⟩,_⟩:=m;rw[d.RM.wanted z A C O q T];simp only[if_true];have u0:c<=j:=by
    rcases lt_or_ge j c with b|b
    ·exact absurd ((d.Dc j hj (by rw[l];rfl)).2 b) y0
    ·omega
   have M:∀e,c<=e->e<j->(en e).ei=false:=λe b g=>by
    cases x3:(en e).ei with
    |false=>rfl
    |true=>
     have:=(d.Dc e (by omega) x3).1 (x2 e (A.chain e j g hj x3 (by rw[l];rfl)));omega
   have W:(st j).2.1=(st c).2.1:=by
    have:=A.yg (c:=c) (j-c) (by omega) λe b g=>M e b (by omega);rwa[show c+(j-c)=j by omega]at this
   rw[W]at s hu;have Y:∀i B,(i,B)∈(st j).2.2.filter (λp=>bf j p.1)↔zE bf en c i B/\bf j i=true:=λi B=>by
    rw[mem_filter,A.abE z x8 j (by omega)];constructor
    ·rintro⟨⟨b,g,y⟩,x⟩;exact⟨⟨g,λe h5=>y e (by omega)⟩,x⟩
    ·rintro⟨⟨g,y⟩,x⟩;refine⟨⟨z.lt _ _ x,g,λe h5 h6=>?_⟩,x⟩
     grind
   generalize (st j).2.2.filter (λp=>bf j p.1)=F at Y s hu;have x1:=mE (h:=(st c).2.1) (base:=h.next) F (λi B X b g=>((Y i B).1 b).1.Yf ((Y i X).1 g).1)
    (λi B b=>d.none_ (by grind) ((Y i B).1 b).1)
   have x4:=d.get E;have z3:iC β (aw (st c).2.1 h.next F) w:=d.step.na.sub (by grind[fI]) λk B z4=>by
    rw[x4];rcases(x1 k B).1 z4 with b|⟨i,b,g⟩
    ·grind
    ·exact .inr ⟨i,b,(d.mem i B).2 ⟨x2 i ((Y i B).1 g).2,((Y i B).1 g).1⟩⟩
   rw[Jn Ah]at s;refine S3 hN y9 z3 hg x5 s _ _ λv' w' I U hv=>?_;rw[<-hu,<-y4]at U;have y7:=d.room;have x9:(aw (st c).2.1 h.next F).next=(st c).2.1.next:=fI F;have H:∀i B,(i,B)∈R.filter (λp=> !bf j p.1)↔i∈pre/\zE bf en c i B/\bf j i=false:=λi B=>by
    rw[mem_filter,d.mem];grind
   have z7:∀i B,(i,B)∈R.filter (λp=> !bf j p.1)->(aw (st c).2.1 h.next F).get (h.next+i)=none:=λi B hm=>by
    obtain⟨b,g,y⟩:=(H i B).1 hm
    cases z0:(aw (st c).2.1 h.next F).get (h.next+i)with
    |none=>rfl
    |some X=>
     rcases(x1 _ _).1 z0 with x|⟨i',x,h5⟩
     ·rw[d.none_ (E i b) g]at x;cases x
     grind
   have y2:∀k B,(st (j+1)).2.1.get k=some B->k<(st c).2.1.next->∃x0,(aw (st c).2.1 h.next F).get k=some x0:=λk B b g=>U.keys k B b (by omega);have z6:=mE (h:=(st (j+1)).2.1) (base:=h.next) (R.filter λp=> !bf j p.1) (λi B X b g=>((H i B).1 b).2.1.Yf ((H i X).1 g).2.1)
    (λi B hm=>by
     cases z0:(st (j+1)).2.1.get (h.next+i)with
     |none=>rfl
     |some X=>grind)
   have x7:=U.frame (V:=aw (st c).2.1 h.next R) (V':=aw (st (j+1)).2.1 h.next (R.filter λp=> !bf j p.1)) d.step.na (by grind[fI]) (fI _)
    (λk B=>∃i,k=h.next+i/\(i,B)∈R.filter λp=> !bf j p.1)
    (λk B ⟨i,b,g⟩=>by grind)
    (λk B=>by
     rw[x4,x1];constructor
     ·rintro(b|⟨i,b,g⟩)
      ·grind
      ·obtain⟨y,x⟩:=(d.mem i B).1 g
       grind
     ·rintro((b|⟨i,b,g⟩)|⟨i,b,g⟩)
      ·exact .inl b
      ·exact .inr ⟨i,b,(d.mem i B).2 ⟨x2 i ((Y i B).1 g).2,((Y i B).1 g).1⟩⟩
      grind)
    z6
   have y1:=U.next;rw[x9]at y1;refine N I w' _ (j+1) _ Z ⟨by omega,?_,?_,d.step.trans x7,by omega,?_,?_,(d.RM.mono U.le).put z q (by rw[l];exact hv),(put_defers a o.dst v').trans d.dfs⟩
   ·intro e b g;rw[mem_append,d.Dc e b g,mem_singleton]
    grind
   ·intro i B;rw[H,mem_append];constructor
    ·rintro⟨b,⟨g,y⟩,x⟩;refine⟨.inl b,g,λe h5 h6=>?_⟩
     grind
    ·rintro⟨b,⟨v2,g⟩,y⟩;rcases b with b|b
     ·exact⟨b,⟨⟨v2,g⟩,λe x=>y e (by omega)⟩,y j (by omega) (by rw[l];rfl)⟩
     grind
   ·intro i B b g;obtain⟨x0,y⟩:=y2 _ _ g (by omega);rcases(x1 _ _).1 y with x|⟨i',x,h5⟩
    ·obtain⟨e,h6,S,G⟩:=d.Jh i x0 b x
     grind
    ·obtain rfl:i=i':=by omega
     exact⟨j,by omega,by rw[l];rfl,((Y _ _).1 h5).2⟩
   ·intro i b g y;have z8:=d.free i b (λD=>g (mem_append_left _ D)) y
    cases hb:I (h.next+i)with
    |none=>rfl
    |some sl=>
     rcases U.fresh _ sl hb with x|⟨x,_⟩
     all_goals grind
end
end
variable{g:aa}{k:Nat}
section
variable {P:Program} {gl:Nat->Bool}
theorem vu:∀{x y:List (Value×Value)},tL x y=true->x=y
 |[],[],_=>rfl
 |[],_::_,h=>by grind[tL]
 |_::_,[],h=>by grind[tL]
 |(a,b)::x,(c,d)::y,h=>by
  simp only[tL,and_eq_true]at h;rw[mh _ _ _ h.1.1,mh _ _ _ h.1.2,vu h.2]
theorem HY{C:bu}(h:yJ I C=true):I=C:=by
 unfold yJ at h;split at h
 ·simp only[and_eq_true,beq_eq,beq_iff_eq]at h;obtain⟨⟨⟨a,rfl⟩,rfl⟩,rfl⟩:=h;rw[rP (mh 4) a]
 all_goals grind[vu]
theorem AK(e:O4 h g k=true):h.get k=g.get k:=by grind[HY,O4]
def OT(a:aa)(s:yw):Prop:=s.2.1.next=a.next/\∀k,k∉s.2.2->s.2.1.get k=a.get k
theorem OT.lay{s:yw}(h:OT g s)(c:Option Tmp)(v:Value)(u:Option (Nat×bu)):OT g (BC s c v u):=by
 cases u with
 |none=>exact h
 |some p=>
  obtain⟨k,b⟩:=p;refine⟨h.1,λj a=>?_⟩;simp only[BC,mem_cons,not_or]at a;show(s.2.1.set k b).get j=_;rw[aa.ay,if_neg a.1];exact h.2 j a.2
theorem ET{ops:Array Oper}{base:Nat}{s b:yw}(h:OT g s)(a:wz P gl ops base j s=some b):OT g b:=by
 unfold wz at a;split at a
 ·split at a
  ·split at a
   ·obtain rfl:=oI a;exact h.lay _ _ _
   ·cases a
  ·obtain rfl:=oI a;exact h.lay _ _ _
  ·cases a
 grind
theorem EY{ops:Array Oper}{base:Nat}{a:aa}:∀(n j:Nat){s c:yw},OT a s->zm P gl ops base n j s=some c->OT a c
 |0,_,_,_,h,b=>by simp_all[zm]
 |n+1,j,s,c,h,b=>by
  simp only[zm]at b;split at b
  ·next e d=>exact EY n (j+1) (ET h d) b
  grind
theorem Iq{s a:yw}(h:OT g s)(b:OT g a)(e:D8 s a=true):s.1=a.1/\wW s.2.1 a.2.1:=by
 unfold D8 at e;simp only[and_eq_true]at e;obtain⟨⟨c,j⟩,i⟩:=e;refine⟨rP (mh 4) c,h.1.trans b.1.symm,λk=>?_⟩;by_cases f:k∈s.2.2
 ·grind[AK]
 ·by_cases d:k∈a.2.2
  ·grind[AK]
  ·rw[h.2 k f,b.2 k d]
theorem Fi.length{ops:Array Oper}(h:Fi ops x):x.length=ops.size:=by
 have:=((List.perm_ext_iff_of_nodup h.nodup List.nodup_range).2 λi=>by rw[h.mem,mem_range]).length_eq
 grind
theorem YS:oe P gl fb:=⟨(by intro f a h v c _ b;cases b),(by intro k a h v c b;cases b)⟩
theorem Qw(S:dI P){ops:Array Oper}(R:AG ops (cD (fk ops))){L:List Nat}(J:Fi ops L){r:Option Nat}{n:Nat}{Q:Exit->Act->World->Prop}{base:Nat}{fin:yw}{K hb:aa}{D:cI}{V:World}{a₀:Act}(k:Gl gl D)
  (g:hb.next=base+ops.size) (G:K.next<=base) (t:OT hb fin)
  (T:∀W H y,Step D K V y fin.2.1 H->aU y fin.1 W.tmps.toList->W.defers=a₀.defers->Q .normal W H):
  ∀(e b:List Nat)(q:cI)(w:World)(a:Act)(s:yw),L=b++e->HQ P gl ops (cD (fk ops)) base fin e.length b.reverse s=true->OT hb s->Step D K V q s.2.1 w->
   (∀i,i<ops.size->i∉b->q (base+i)=none)->aU q s.1 a.tmps.toList->a.defers=a₀.defers->wpOpsIn (ij r) n P ops Q e a w
 |[],b,q,w,a,s,he,hA,A,m,C,F,M=>by
  obtain⟨e1,e2⟩:=Iq t A hA;refine T a w q (m.same (wW.refl _) e2.symm) (by grind) M
 | j::e,b,q,w,a,s,he,hA,A,m,C,F,M=>by
  have hj:j<ops.size:=(J.mem j).1 (by grind);have x4:j∉b:=λhm=>by
   have x5:=J.nodup
   grind
  have x6:∀i,cD (fk ops) j i=true->i∈b:=R.Rr L J b j e he;simp only[length_cons,HQ]at hA;have l:=all_eq_true.1 hA j (mem_range.2 hj);simp only[Bool.or_eq_true]at l;rcases l with(l|l)|l
  ·grind
  ·grind
  ·split at l
   ·next s' p=>
    have d:=ET A p;have ho:=getElem?_eq_getElem hj;generalize ops[j]=o at ho;unfold wz at p;rw[ho]at p;dsimp only at p;have I:L=(b++[j])++e:=by rw[he];simp
    have z:(b++[j]).reverse=j::b.reverse:=by simp
    have h:∀i,i<ops.size->i∉b++[j]->q (base+i)=none:=λi l X=>C i l λhh=>X (mem_append_left _ hh);have hg:Gl gl q:=k.mono m.le;simp only[wpOpsIn,ho];split at p
    ·next hw=>
     rw[kc F hw];simp only[if_true];split at p
     ·next v u c=>
      obtain rfl:=oI p;have O:=xu (β:=q) hg F;unfold Gz at c;split at c
      ·next v0 x=>
       simp only[Option.some.injEq,Prod.mk.injEq]at c;obtain⟨rfl,rfl⟩:=c;obtain⟨N,Y,U⟩:=pE O x w;refine yr (by intro cc Z;simp[ba,Z]at x) Y (Qw S R J k g G t T e (b++[j]) q w _ _ I (by rw[z];exact l) d m h (jy F o.dst U) ((put_defers a o.dst N).trans M))
      ·split at c
       ·next v0 x=>
        simp only[Option.some.injEq,Prod.mk.injEq]at c;obtain⟨rfl,rfl⟩:=c;obtain⟨N,Y,U⟩:=pF O m.na x;refine yr (by intro cc Z;simp[bj,Z]at x) Y (Qw S R J k g G t T e (b++[j]) q w _ _ I (by rw[z];exact l) d m h (jy F o.dst U) ((put_defers a o.dst N).trans M))
       ·split at c
        ·next B f x=>
         simp only[Option.some.injEq,Prod.mk.injEq]at c;obtain⟨rfl,rfl⟩:=c;obtain⟨N,H,Y,U⟩:=nJ O (w:=w) x;obtain⟨y,g3,g4,g5,g6⟩:=U.Sj m (C j hj x4) (by omega) (by rw[A.1,g];omega);refine yr (by intro cc Z;simp[aT,Z]at x) Y (Qw S R J k g G t T e (b++[j]) y H _ _ I (by rw[z];exact l) d g3 ?_ (jy (F.mono g5) o.dst g4) ((put_defers a o.dst N).trans M));intro i X h3;rw[g6 _ λhh=>h3 (by rw[show i=j by omega];simp)];exact h i X h3
        ·have x0:∀{u':bp}{v:Value},cJ P fb (ev gl s.1) o s.2.1=some (v,u')->u'.app s.2.1=(BC s o.dst v u).2.1->(BC s o.dst v u).1=fe s.1 o.dst v->HQ P gl ops (cD (fk ops)) base fin e.length (j::b.reverse) (BC s o.dst v u)=true->OT hb (BC s o.dst v u)->
           o.wpIn (ij r) n P a w (λW H=>wpOpsIn (ij r) n P ops Q e W H) Q:=by
          intro u' v c hu x2 l d;refine S3 S YS m.na hg O c _ _ λN H y E hv=>?_;rw[hu]at E;refine Qw S R J k g G t T e (b++[j]) y H _ _ I (by rw[z];exact l) d (m.trans E) (λi X h3=>?_) (by rw[x2];exact jy (F.mono E.le) o.dst hv) ((put_defers a o.dst N).trans M);have x1:=h i X h3
          cases x3:y (base+i)with
          |none=>rfl
          |some sl=>
           rcases E.fresh _ sl x3 with h4|⟨h4,_⟩
           ·rw[x1]at h4;cases h4
           ·rw[A.1,g]at h4;omega
         split at c
         ·next v0 x=>
          simp only[Option.some.injEq,Prod.mk.injEq]at c;obtain⟨rfl,rfl⟩:=c;exact x0 x rfl rfl l d
         ·next v0 k0 b0 x=>
          simp only[Option.some.injEq,Prod.mk.injEq]at c;obtain⟨rfl,rfl⟩:=c;exact x0 x rfl rfl l d
         ·cases c
     ·cases p
    ·next hw=>
     obtain rfl:=oI p;rw[kc F hw];simp only[false_eq_true,if_false];refine⟨λ_ _=>trivial,?_⟩;exact Qw S R J k g G t T e (b++[j]) q w _ _ I (by rw[z];exact l) d m h (jy F o.dst (.undef q)) ((put_defers a o.dst undef).trans M)
    ·cases p
   grind
end
section
variable {P:Program} {gl:Nat->Bool}
theorem Step.room{w:World}(a:iC J h w)(m:Nat):Step J h w J { h with next:=h.next+m } w:=
 ⟨J.le_refl,Nat.le_add_right _ _,⟨λk c b=>⟨lt_of_lt_of_le (a.lt k c b).1 (Nat.le_add_right _ _),(a.lt k c b).2⟩,a.blk,a.own,λk B b=>lt_of_lt_of_le (a.wf k B b) (Nat.le_add_right _ _)⟩,Nat.le_refl _,rfl,.refl _,rfl,
  λ_ _ _=>rfl,λ_ _ h=>h,λ_ _ h=> .inl h,λ_ B h _=>⟨B,h⟩⟩
theorem S1(A:dI P){C:bY}(z:oe P gl C){G:Nat}{ops:Array Oper}(m:AG ops (cD (fk ops)))(y:Ku ops)(x:Region.departs ops=true->(Region.linearise .gc ops 0).length=ops.size):
  kh P gl C (.region G ops true):=by
 intro N I D b H M a h U w r n Q d e E s J
 cases D
 refine wpIn_region_draw λt=>?_;have c:Step b h w b { h with next:=h.next+ops.size } { w with drawn:=w.drawn+1 }:=
  (Step.of_heap e rfl rfl ⟨rfl,Nat.le_succ _⟩ rfl:Step b h w b h { w with drawn:=w.drawn+1 }).trans (Step.room (w:={ w with drawn:=w.drawn+1 }) (e.of_heap rfl) ops.size)
 unfold yN at d;split at d
 ·unfold vj at d;split at d
  ·next fin l=>
   split at d
   ·next q=>
    simp only[Option.some.injEq,Prod.mk.injEq]at d;obtain⟨rfl,rfl⟩:=d;have g:=tl y x (P.follows .mixedOrders) t;have f:OT { h with next:=h.next+ops.size } (H,{ h with next:=h.next+ops.size },[]):=⟨rfl,λ_ _=>rfl⟩
    have k:(Region.schedule (P.follows .mixedOrders) ops t).length=ops.size:=g.length;exact Qw A m g (base:=h.next) (fin:=fin) (a₀:=a) E rfl (Nat.le_refl _) (EY _ _ f l) J _ [] b _ a _ rfl (by rw[k];exact q) f c (λi p _=>e.jT (by omega)) s rfl
   ·cases d
  grind
 have c:True:=trivial;obtain⟨V,R,K,j,S,T⟩:=Ii m d;have g:=tl y x (P.follows .mixedOrders) t;have c:Step b h w b { h with next:=h.next+ops.size } { w with drawn:=w.drawn+1 }:=
  (Step.of_heap e rfl rfl ⟨rfl,Nat.le_succ _⟩ rfl:Step b h w b h { w with drawn:=w.drawn+1 }).trans (Step.room (w:={ w with drawn:=w.drawn+1 }) (e.of_heap rfl) ops.size)
 refine Ij (β₀:=b) (h:=h) (w₀:=w) (a₀:=a) A z m K (by rw[j]) g E ?_ _ [] b _ a 0 [] rfl ⟨Nat.zero_le _,?_,?_,?_,?_,?_,?_,?_,rfl⟩
 ·grind
 ·grind
 ·grind
 ·rw[j];exact c
 ·grind
 ·intro i B p u;rw[j]at u;have:h.get (h.next+i)=some B:=u;have:=e.wf _ _ this;omega
 ·intro i p _ _;exact e.jT (by omega)
 ·rw[j];refine⟨by rw[s.1,length_toList],λt L O=>⟨λi o p=>by grind,λ_ v F=>?_⟩⟩;exact s.2 t v L F (by grind)
theorem II(g:Nat->Nat)(i:Nat):∀(a:List Edge)(s:Nat),(a.foldl (λs e=>if Region.binds .any e then s|||2^e.on|||g e.on else s) s).testBit i=true↔
  s.testBit i=true\/ ∃e∈a,Region.binds .any e=true/\(e.on=i\/(g e.on).testBit i=true)
 |[],s=>by simp
 |e::a,s=>by
  rw[List.foldl_cons,II g i a]
  grind
def qP(a:Array Nat)(o:Oper):Nat:=o.after.foldl (λs e=>if Region.binds .any e then s|||2^e.on|||a.getD e.on 0 else s) 0
theorem Ed:∀(l:List Oper)(a:Array Nat),(l.foldl (λa o=>a.push (qP a o)) a).size=a.size+l.length/\
  (∀i,i<a.size->(l.foldl (λa o=>a.push (qP a o)) a)[i]?=a[i]?)/\
  ∀i o,l[i]?=some o->∃b,(l.foldl (λa o=>a.push (qP a o)) a)[a.size+i]?=some (qP b o)/\∀k,k<a.size+i->b[k]?=(l.foldl (λa o=>a.push (qP a o)) a)[k]?
 |[],a=>⟨by simp,λ_ _=>rfl,λi o h=>by grind⟩
 |o::l,a=>by
  obtain⟨d,e,c⟩:=Ed l (a.push (qP a o))
  grind
theorem O6(ops:Array Oper):Region.before ops=ops.toList.foldl (λa o=>a.push (qP a o)) #[]:=by
 unfold Region.before;rw[<-foldl_toList];rfl
theorem Xe{ops:Array Oper}(m:Ku ops)(j i:Nat):cD (fk ops) j i=true↔ ∃o,ops[j]?=some o/\∃e∈o.after,Region.binds .any e=true/\(e.on=i\/cD (fk ops) e.on i=true):=by
 have q:∀k,(fk ops).getD k 0=(Region.before ops).getD k 0:=λk=>by simp[fk,List.getD,Array.getD_eq_getD_getElem?]
 obtain⟨n,_,f⟩:=Ed ops.toList #[];rw[<-O6]at n f;simp only[List.size_toArray,length_nil,zero_add,getElem?_toList,length_toList]at n f
 cases g:ops[j]? with
 |none=>grind[cD]
 | some o=>
  obtain⟨d,p,r⟩:=f j o g;simp only[cD,q];rw[Array.getD_eq_getD_getElem?,p,Option.getD_some,qP,<-foldl_toList,II (λk=>d.getD k 0)];simp only[Nat.zero_testBit,false_eq_true,false_or,Option.some.injEq,exists_eq_left',Array.mem_toList_iff];constructor
  ·rintro⟨e,c,a,b⟩;refine⟨e,c,a,b.imp id λb=>?_⟩;have l:e.on<j:=by
    rcases m j o g e c with h|⟨h,_⟩
    ·exact h
    ·rw[h]at a;cases a
   simp_all
  ·rintro⟨e,c,a,b⟩;refine⟨e,c,a,b.imp id λb=>?_⟩;have l:e.on<j:=by
    rcases m j o g e c with h|⟨h,_⟩
    ·exact h
    ·rw[h]at a;cases a
   simp_all
theorem Ku.lt{ops:Array Oper}(a:Ku ops){j:Nat}{o:Oper}(c:ops[j]?=some o){e:Edge}(b:e∈o.after)(d:Region.binds .any e=true):e.on<j:=by
 rcases a j o c e b with h|⟨h,_⟩
 all_goals grind
theorem uY:∀(l:List Oper)(j:Nat),Fo l j=true->∀i o,l[i]?=some o->∀e∈o.after,e.on<j+i\/Region.binds .any e=false/\Region.binds .text e=false
 |[],_,_,i,o,a,_,_=>by grind
 | c::l,j,h,i,o,a,e,b=>by
  simp only[Fo,and_eq_true]at h
  cases i with
  |zero=>grind
  |succ i=>
   have:=uY l (j+1) h.2 i o (by simpa using a) e b
   grind
theorem rH{a:List Nat}{j:Nat}{t:Tmp}:∀(l:List Oper)(k:Nat),rG a j t l k=true->∀i o,l[i]?=some o->o.dst=some t->k+i=j\/cD a j (k+i)=true\/cD a (k+i) j=true
 |[],_,_,i,o,b,_=>by grind
 | d::l,k,h,i,o,b,c=>by
  simp only[rG,and_eq_true]at h
  cases i with
  |zero=>grind
  |succ i=>
   have:=rH l (k+1) h.2 i o (by simpa using b) c
   grind
theorem pG{c:List Nat}{all:List Oper}:∀(l:List Oper)(k:Nat),GC c all l k=true->∀i o,l[i]?=some o->
  (∀t,Operand.tmp t∈o.op.operands->rG c (k+i) t all 0=true)/\∀g b,o.guard=some (g,b)->cD c (k+i) g=true
 |[],_,_,i,o,a=>by grind
 | e::l,k,h,i,o,a=>by
  simp only[GC,and_eq_true]at h
  cases i with
  |zero=>
   simp only[List.getElem?_cons_zero,Option.some.injEq]at a;subst a;refine⟨λt d=>?_,λg b f=>?_⟩
   ·exact all_eq_true.1 h.1.1 (.tmp t) (by simpa using d)
   grind
  |succ i=>
   have:=pG l (k+1) h.2 i o (by simpa using a)
   grind
theorem pV:∀(l:List Oper)(m:Nat),yp l m=true->(∀(i:Nat)(o:Oper)(t:Tmp),l[i]?=some o->o.dst=some t->m.testBit t=false)/\
  ∀(i j:Nat)(o a:Oper)(t:Tmp),l[i]?=some o->l[j]?=some a->o.dst=some t->a.dst=some t->i=j
 |[],_,_=>⟨λi o t h=>by grind,λi j o a t h=>by grind⟩
 | x::l,m,h=>by
  cases b:x.dst with
  |none=>
   simp only[yp,b]at h;obtain⟨c,e⟩:=pV l m h
   grind
  |some d=>
   simp only[yp,b,and_eq_true,not_eq_true']at h;obtain⟨c,e⟩:=pV l _ h.2
   grind
theorem Fw{ops:Array Oper}(h:Le ops=true):AG ops (cD (fk ops))/\Ku ops/\(Region.departs ops=true->(Region.linearise .gc ops 0).length=ops.size):=by
 simp only[Le,and_eq_true]at h;obtain⟨⟨⟨D,E⟩,I⟩,z⟩:=h;have l:Ku ops:=λi o a e d=>by
  have:=uY ops.toList 0 D i o (by simpa using a) e d;rwa[zero_add]at this
 have f:=Xe l;have x:∀j i,cD (fk ops) j i=true->i<j:=by
  intro j
  induction j using Nat.strongRecOn with
  |_ j m=>
   intro i s;obtain⟨o,a,e,d,c,hh⟩:=(f j i).1 s;have:=l.lt a d c;rcases hh with hh|hh
   ·omega
   ·have:=m _ this i hh;omega
 refine⟨⟨x,?_,?_,?_,?_,?_⟩,l,?_⟩
 ·intro k
  induction k using Nat.strongRecOn with
  |_ k m=>
   intro j i g A;obtain⟨o,a,e,d,c,hh⟩:=(f k j).1 g;refine(f k i).2 ⟨o,a,e,d,c,.inr ?_⟩;rcases hh with rfl|hh
   ·exact A
   ·exact m _ (l.lt a d c) j i hh A
 ·intro L C q j
  induction j using Nat.strongRecOn generalizing q with
  |_ j m=>
   intro p r i s;obtain⟨o,a,e,d,c,hh⟩:=(f j i).1 s;have y:=C.aeH q j p r o a e d c;rcases hh with rfl|hh
   ·exact y
   ·obtain⟨G,B,rfl⟩:=List.append_of_mem y;exact mem_append_left _ (m _ (l.lt a d c) G (B++j::p) (by rw[r];simp) i hh)
 ·intro j o t a v i u n F;have g:=(pG ops.toList 0 z j o (by simpa using a)).1 t v;rw[zero_add]at g;have:=rH ops.toList 0 g i u (by simpa using n) F;rwa[zero_add]at this
 ·intro j o i b a H;have g:=(pG ops.toList 0 z j o (by simpa using a)).2 i b H;rwa[zero_add]at g
 ·intro i j o u t a n v w;exact(pV ops.toList 0 E).2 i j o u t (by simpa using a) (by simpa using n) v w
 grind
theorem qg(k:dI P){b:bY}(e:oe P gl b):∀{d c:Code},Part d c->bV c=true->kh P gl b d:=by
 have n:∀c,bV c=true->kh P gl b c:=by
  intro c h i ops f;subst f;obtain⟨j,l,g⟩:=Fw h;exact S1 k e j l g i ops rfl
 intro d c m
 induction m with
 |refl=>grind
 |MC _ a=>simp_all[bV]
 |GV _ a=>simp_all[bV]
 |aag _ a=>simp_all[bV]
 |aae _ a=>simp_all[bV]
 |block _ a=>grind[bV]
 |loop _ a=>grind[bV]
theorem lN(b:dI P):DD P gl:=λ_ a _ _ c h=>qg b a c h
def dA(a:Func):Bool:=match a.body with|some c=>bV c|none=>true
theorem yH(i:dI P)(h:∀(f:FuncId) (a:Func),P.funcs[f]?=some a->dA a=true):Hw P gl:=λj b f a c d g e k=>by grind[qg,dA]
end
variable{b:Bool}{A:Type}
section
variable {α:Type}
def Ref(bad x:Bool)(a:Option α)(K:α->Bool):Prop:=x=bad\/ ∃r,a=some r/\x=K r
theorem Ref.bad{a:Option α}{K:α->Bool}:Ref b b a K:= .inl rfl
theorem Ref.of{x:Bool}{a:Option α}{K:α->Bool}{r:α}(h:a=some r)(c:x=K r):Ref b x a K:= .inr ⟨r,h,c⟩
theorem dJ(n:Nat)(c:Nat->Bool):iX n c=c n:=by cases n<;>rfl
theorem FC(n:Int)(c:Int->Bool):Tb n c=c n:=by
 cases n with
 |ofNat n=>exact dJ n λn=>c (.ofNat n)
 |negSucc n=>exact dJ n λn=>c (.negSucc n)
theorem Iy(a:Option Addr)(K:Option Addr->Bool):NL a K=K a:=by
 rcases a with _|⟨b,o,s⟩
 ·rfl
 ·show iX b (λb=>iX o λo=>K (some ⟨b,o,s⟩))=_;rw[dJ,dJ]
theorem dX(v:Value)(K:Value->Bool):jM v K=K v:=by
 cases v with
 |int k n=>exact FC n λn=>K (.int k n)
 |pointer a=>exact Iy a λa=>K (.pointer a)
 |slice a n c=>
  show NL a (λa=>iX n λn=>iX c λc=>K (.slice a n c))=_;rw[Iy,dJ,dJ]
 |_=>rfl
theorem gr{bad:Bool}{x:Option α}{K:α->Bool}{b:Option A}{c:A->Bool}(h:∀a,x=some a->Ref bad (K a) b c):Ref bad (C7 bad x K) b c:=by
 cases x with
 |none=>exact .bad
 |some a=>exact h a rfl
theorem cZ{bad x y:Bool}{a:Option A}{c:A->Bool}(d:b=true->Ref bad x a c)(e:b=false->Ref bad y a c):Ref bad (fE b x y) a c:=by
 cases b with
 |true=>exact d rfl
 |false=>exact e rfl
theorem xw(l:List Value):∀(K:List Value->Bool),xv l K=K l:=by
 induction l with
 |nil=>intro K;rfl
 |cons a l b=>intro K;exact b λr=>K (a::r)
theorem BN:∀(l:List α)(i:Nat),nth l i=l[i]?
 |[],_=>rfl
 |_::_,0=>rfl
 |_::l,i+1=>BN l i
theorem EO(v:Value)(bad:Bool):∀(l:List Value)(i:Nat)(K:List Value->Bool),GW v bad l i K=if i<l.length then K (l.set i v)else bad
 |[],i,K=>by simp[GW]
 |a::l,0,K=>by show K (v::l)=_;simp
 |a::l,i+1,K=>by
  show GW v bad l i (λr=>K (a::r))=_;rw[EO v bad l i];simp
theorem HT.eD(b:Option bu):∀(p:Fg)(t:HT)(K:HT->Bool),HT.np b p t K=K (HT.set b p t)
 |.e,.nil,_=>rfl
 |.e,.node ..,_=>rfl
 |.l p,.nil,K=>HT.eD b p .nil λl=>K (.node none l .nil)
 |.l p,.node v l r,K=>HT.eD b p l λl=>K (.node v l r)
 |.r p,.nil,K=>HT.eD b p .nil λr=>K (.node none .nil r)
 |.r p,.node v l r,K=>HT.eD b p r λr=>K (.node v l r)
theorem vx(b:bu)(K:bu->Bool):Iz b K=K b:=by
 cases b with
 |cells cs t a c=>exact xw cs λcs=>K (.cells cs t a c)
 |map d=>rfl
 |loop=>rfl
theorem zX(u:bp)(h:aa)(K:aa->Bool):Xa u h K=K (u.app h):=by
 cases u with
 |no=>rfl
 |set k b=>show We k b h K=_;unfold We;rw[vx,HT.eD];rfl
 |push b=>show uy b h K=_;unfold uy;rw[vx,HT.eD,dJ];rfl
 |move k b=>show Nb k b h K=_;unfold Nb;rw[vx,HT.eD,HT.eD,dJ];rfl
 |all a=>rfl
theorem ZQ{k:IntKind}(h:n<lim k):k.wrap (n:Int)=n:=by
 have a:∀(s:Bool)(b:Nat),(n:Int)<2^b->(s=true->(n:Int)<2^(b-1))->(if s&&decide ((n:Int)%2^b>=2^(b-1))then(n:Int)%2^b-2^b else(n:Int)%2^b)=n:=by
  intro s b e f;have d:(n:Int)%2^b=n:=Int.emod_eq_of_lt (by omega) e;rw[d]
  cases s with
  |false=>rfl
  |true=>
   have:=f rfl;rw[if_neg];simp only[Bool.true_and,ge_iff_le,decide_eq_true_eq];omega
 unfold IntKind.wrap
 cases k<;>exact a _ _ (by simp only[lim,IntKind.bits]at h⊢;omega) (by simp only[lim,IntKind.bits,IntKind.signed]at h⊢;first|(intro c;omega)|(intro c;cases c))
theorem Kn(k:IntKind)(n:Int)(K:Int->Bool):Wz k n K=K (k.wrap n):=by
 cases n with
 | ofNat m=>
  show fE (Nat.blt m (lim k)) (iX m λm=>K (.ofNat m)) (Tb (k.wrap (.ofNat m)) K)=_
  cases b:Nat.blt m (lim k)with
  |true=>
   have a:m<lim k:=by simpa[blt_eq]using b
   show iX m (λm=>K (.ofNat m))=_;rw[dJ];exact congrArg K (ZQ a).symm
  |false=>exact FC _ K
 |negSucc m=>exact FC _ K
theorem vH(a b:Int):IS a b=decide (a<b):=by
 cases a with
 |ofNat m=>cases b with
  |ofNat n=>show Nat.blt m n=_;rw[Bool.eq_iff_iff];simp[blt_eq]
  |negSucc n=>show false=_;rw[Bool.eq_iff_iff];simp;omega
 |negSucc m=>cases b with
  |ofNat n=>show true=_;rw[Bool.eq_iff_iff];simp;omega
  |negSucc n=>show Nat.blt n m=_;rw[Bool.eq_iff_iff];simp[blt_eq];omega
theorem Bv(a b:Int):NX a b=(a==b):=by
 cases a with
 |ofNat m=>cases b with
  |ofNat n=>show Nat.beq m n=_;rw[Bool.eq_iff_iff];simp[beq_eq];omega
  |negSucc n=>show false=_;rw[Bool.eq_iff_iff];simp
 |negSucc m=>cases b with
  |ofNat n=>show false=_;rw[Bool.eq_iff_iff];simp
  |negSucc n=>show Nat.beq n m=_;rw[Bool.eq_iff_iff];simp[beq_eq];omega
end
variable{P:Program}{a:Option Addr}
section
def sK(cx:Cx)(cf:bY):Prop:=∀f a h K,Ref cx.bad (cx.cf f a h K) (cf f a h) λr=>K r.1 r.2
noncomputable abbrev mu(h:aa)(K:Value->aa->Bool)(r:Value×bp):Bool:=K r.1 (r.2.app h)
theorem BW{bad:Bool}{r:Option (Value×bp)}{h:aa}{K:Value->aa->Bool}{a:Option (Value×bp)}(c:∀x,r=some x->a=some x):Ref bad (Mb bad r h K) a (mu h K):=by
 unfold Mb;refine gr λx b=> .of (c x b) ?_;obtain⟨v,u⟩:=x;show Xa u h (λh=>jM v λv=>K v h)=_;rw[zX,dX]
theorem tZ{cf:bY}{ρ:Operand->Value}{o:Oper}{h:aa}(g:aZ o=false):cJ P fb ρ o h=cJ P cf ρ o h:=by
 obtain⟨dst,d,ty,pos,after,guard⟩:=o
 cases d<;>try rfl
 rename_i c;obtain⟨a,e,i⟩:=c
 cases a with
 |value f=>simp[aZ]at g
 |invoke r m=>rfl
 |builtin b=>cases b<;>rfl
theorem BQ{cf:bY}{ρ:Operand->Value}{o:Oper}{h:aa}(a:aZ o=false):bm P fb ρ o h=bm P cf ρ o h:=by
 unfold bm;rw[tZ a]
variable {cx:Cx} {cf:bY} {ρ:Operand->Value} {h:aa} {K:Value->aa->Bool} {dst:Option Tmp} {ty:TypeId} {pos:String} {after:Array Edge} {guard:Option (Nat×Bool)}
theorem gC{o:Oper}(b:aZ o=false):Ref cx.bad (gen cx o ρ h K) (bm cx.P cf ρ o h) (mu h K):=
 BW λx a=>by rw[<-BQ b];exact a
theorem run_pure{o:Oper}(a:ba P ρ o=some v):bm P cf ρ o h=some (v,.no):=by
 unfold bm;rw[a]
theorem T5{x:Operand}:Ref cx.bad (ND x cx ⟨dst,.move x,ty,pos,after,guard⟩ ρ h K) (bm cx.P cf ρ ⟨dst,.move x,ty,pos,after,guard⟩ h) (mu h K):=
 .of (run_pure (v:=ρ x) rfl) (dX _ _)
theorem KO{x:Operand}:Ref cx.bad (ND x cx ⟨dst,.assign x,ty,pos,after,guard⟩ ρ h K) (bm cx.P cf ρ ⟨dst,.assign x,ty,pos,after,guard⟩ h) (mu h K):=
 .of (run_pure (v:=ρ x) rfl) (dX _ _)
theorem DZ{bad:Bool}{K:Bool->Bool}{a:Option A}{d:A->Bool}(e:∀b,v = .bool b->Ref bad (K b) a d):Ref bad (yM v bad K) a d:=by
 rcases H0 v bad K with⟨c,_⟩|⟨b,c,f⟩
 ·rw[c];exact .bad
 ·rw[f];exact e b c
theorem mG{bad:Bool}{K:IntKind->Int->Bool}{a:Option A}{d:A->Bool}(g:Ref bad b a d)(e:∀k n,v = .int k n->Ref bad (K k n) a d):Ref bad (Dh v b K) a d:=by
 rcases Yn v b K with⟨c,_⟩|⟨k,n,c,f⟩
 ·rw[c];exact g
 ·rw[f];exact e k n c
theorem re{bad:Bool}{K:Option Addr->Bool}{c:Option A}{e:A->Bool}(h:Ref bad b c e)(f:∀a,v = .pointer a->Ref bad (K a) c e):Ref bad (Jx v b K) c e:=by
 rcases Za v b K with⟨d,_⟩|⟨a,d,g⟩
 ·rw[d];exact h
 ·rw[g];exact f a d
theorem J3{bad:Bool}{K:ByteArray->Bool}{b:Option A}{d:A->Bool}(e:∀s,v = .string s->Ref bad (K s) b d):Ref bad (Ap v bad K) b d:=by
 rcases MO v bad K with⟨c,_⟩|⟨a,c,f⟩
 ·rw[c];exact .bad
 ·rw[f];exact e a c
theorem Cq{bad:Bool}{K:Option Addr->Nat->Nat->Bool}{b:Option A}{e:A->Bool}(f:∀a n c,v = .slice a n c->Ref bad (K a n c) b e):Ref bad (Cp v bad K) b e:=by
 rcases Rb v bad K with⟨d,_⟩|⟨a,n,c,d,g⟩
 ·rw[d];exact .bad
 ·rw[g];exact f a n c d
theorem PF{bad:Bool}{K:Fn->Array Value->Array Value->Bool}{b:Option A}{e:A->Bool}(g:∀f a c,v = .func f a c->Ref bad (K f a c) b e):Ref bad (funcF v bad K) b e:=by
 rcases IJ v bad K with⟨d,_⟩|⟨f,a,c,d,h⟩
 ·rw[d];exact .bad
 ·rw[h];exact g f a c d
theorem R5{bad:Bool}{K:Array Value->Bool}{b:Option A}{d:A->Bool}(e:∀a,v = .agg a->Ref bad (K a) b d):Ref bad (WW v bad K) b d:=by
 rcases WX v bad K with⟨c,_⟩|⟨a,c,f⟩
 ·rw[c];exact .bad
 ·rw[f];exact e a c
theorem Na{bad:Bool}{K:Array Value->Bool}{b:Option A}{d:A->Bool}(e:∀a,v = .tuple a->Ref bad (K a) b d):Ref bad (Hc v bad K) b d:=by
 rcases Rs v bad K with⟨c,_⟩|⟨a,c,f⟩
 ·rw[c];exact .bad
 ·rw[f];exact e a c
theorem Jb{j:Int}{bad:Bool}{K:Nat->Bool}{a:Option A}{b:A->Bool}(c:∀n:Nat,j=n->Ref bad (K n) a b):Ref bad (abw j bad K) a b:=by
 cases j with
 |ofNat n=>exact c n rfl
 |negSucc n=>exact .bad
theorem ou{bad:Bool}{K:Nat->Nat->Bool}{c:Option A}{d:A->Bool}(e:∀b i,a=some ⟨b,i,none⟩->Ref bad (K b i) c d):Ref bad (HL a bad K) c d:=by
 rcases a with _|⟨b,i,_|s⟩
 ·exact .bad
 ·exact e b i rfl
 ·exact .bad
theorem JL{bad:Bool}{K:List Value->TypeId->Nat->Bool->Bool}{c:Option A}{d:A->Bool}(f:∀cs t a b,h.get k=some (.cells cs t a b)->Ref bad (K cs t a b) c d):Ref bad (Zk h k bad K) c d:=by
 unfold Zk;refine gr λB e=>?_
 cases B with
 |cells cs t a b=>exact f cs t a b e
 |map g=>exact .bad
 |loop=>exact .bad
theorem Uz{c a b:Operand}:Ref cx.bad (Sz c a b cx ⟨dst,.pick c a b,ty,pos,after,guard⟩ ρ h K) (bm cx.P cf ρ ⟨dst,.pick c a b,ty,pos,after,guard⟩ h) (mu h K):=by
 unfold Sz;refine DZ λt e=>?_;refine cZ (λd=>?_) (λd=>?_)
 ·rw[dX];exact .of (run_pure (v:=ρ a) (by simp[ba,e,d])) rfl
 ·rw[dX];exact .of (run_pure (v:=ρ b) (by simp[ba,e,d])) rfl
theorem Jg{b:bu}{f:Nat->Value}{o:Oper}(e:ba cx.P ρ o=none)(g:bj cx.P ρ o h=none)(d:aT cx.P ρ o=some (b,f))(a:∀k,f k = .pointer (some ⟨k,0,none⟩)):
  Ref cx.bad (YP b h K) (bm cx.P cf ρ o h) (mu h K):=by
 refine .of (r:=(f h.next,.push b)) (by unfold bm;rw[e,g,d]) ?_;unfold YP;rw[dJ];have:=zX (.push b) h (λc=>K (Value.pointer (some ⟨h.next,0,none⟩)) c);rw[a];exact this
theorem O1{t:TypeId}:Ref cx.bad (K0 t cx ⟨dst,.alloc t,ty,pos,after,guard⟩ ρ h K) (bm cx.P cf ρ ⟨dst,.alloc t,ty,pos,after,guard⟩ h) (mu h K):=by
 unfold K0;refine gr λb a=>?_;unfold Sa at a;split at a
 ·next z d=>
  split at a
  ·next c=>
   obtain rfl:=oI a;exact Jg (f:=λk=> .pointer (some ⟨k,0,none⟩)) rfl rfl (by simp only[aT,d,c,if_true]) λ_=>rfl
  ·cases a
 ·cases a
theorem Xk{t:TypeId}{x:Operand}:Ref cx.bad (aa4 t x cx ⟨dst,.box t x,ty,pos,after,guard⟩ ρ h K) (bm cx.P cf ρ ⟨dst,.box t x,ty,pos,after,guard⟩ h) (mu h K):=by
 unfold aa4;refine cZ (λa=>?_) (λ_=>gC rfl);rw[JT]at a;rw[dX];have b:(ρ x).cells = #[ρ x]:=by
  generalize ρ x=v at a
  cases v<;>first|rfl|(simp[bw]at a)
 refine Jg (f:=λk=> .pointer (some ⟨k,0,none⟩)) rfl rfl ?_ λ_=>rfl;simp only[aT,b];rw[if_pos (by simp[a])]
theorem TM{t:TypeId}{a:Operand}:Ref cx.bad (Sy t a cx ⟨dst,.load t a,ty,pos,after,guard⟩ ρ h K) (bm cx.P cf ρ ⟨dst,.load t a,ty,pos,after,guard⟩ h) (mu h K):=by
 have d:∀v,ae cx.P t h (ρ a)=some v->bm cx.P cf ρ ⟨dst,.load t a,ty,pos,after,guard⟩ h=some (v,.no):=λv c=>by
  show(match bj cx.P ρ ⟨dst,.load t a,ty,pos,after,guard⟩ h with|some v=>some (v,bp.no)|none=>_)=_;simp only[bj,c]
 unfold Sy;refine cZ (λf=>?_) (λ_=>gr λv c=> .of (d v c) rfl);refine re .bad λp l=>ou λb i j=>JL λcs o n q m=>gr λv c=> .of (d v ?_) rfl;rw[BN]at c;unfold GJ at f;simp only[and_eq_true,not_eq_true']at f;obtain⟨e,g⟩:=f
 cases k:cx.P.underlying t with
 |none=>rw[k]at e;cases e
 |some u=>simp only[ae,k,l,j,m,g,false_eq_true,if_false,c]
theorem Ri{t:TypeId}{a x:Operand}:Ref cx.bad (K4 t a x cx ⟨dst,.store t a x,ty,pos,after,guard⟩ ρ h K) (bm cx.P cf ρ ⟨dst,.store t a x,ty,pos,after,guard⟩ h) (mu h K):=by
 have e:∀r,aj cx.P t (ρ a) (ρ x) h=some r->bm cx.P cf ρ ⟨dst,.store t a x,ty,pos,after,guard⟩ h=some r:=λr p=>by
  show cJ cx.P cf ρ ⟨dst,.store t a x,ty,pos,after,guard⟩ h=_;exact p
 unfold K4;refine cZ (λf=>?_) (λ_=>BW e);simp only[and_eq_true,JT]at f;obtain⟨k,d⟩:=f;have s:(ρ x).cells = #[ρ x]:=by
  generalize ρ x=v at d
  cases v<;>first|rfl|(simp[bw]at d)
 refine re .bad λu l=>ou λb i g=>JL λcs n m w q=>cZ (λo=>?_) (λ_=> .bad);rw[dX,EO];by_cases c:i<cs.length
 ·rw[if_pos c,HT.eD];refine .of (r:=(undef,.set b (.cells (cs.set i (ρ x)) n m true))) (e _ ?_) rfl;have j:au cx.P t=some 1:=by simpa[aax]using k
  subst o;simp only[aj,l,g,s,j,List.size_toArray,length_cons,length_nil,storeAt,q];rw[if_pos trivial,if_pos ⟨by omega,by simpa using d⟩];simp only[map_some];rw[List.set_eq_take_append_cons_drop,if_pos c];simp
 ·rw[if_neg c];exact .bad
end
variable{T:TypeId}
section
variable {cx:Cx} {cf:bY} {ρ:Operand->Value} {h:aa} {K:Value->aa->Bool} {dst:Option Tmp} {ty:TypeId} {pos:String} {after:Array Edge} {guard:Option (Nat×Bool)}
theorem Gp{x:Operand}:Ref cx.bad (xk x cx ⟨dst,.nilCheck x,ty,pos,after,guard⟩ ρ h K) (bm cx.P cf ρ ⟨dst,.nilCheck x,ty,pos,after,guard⟩ h) (mu h K):=by
 unfold xk;refine re (gC rfl) λa d=>gr λc b=>?_;subst b;exact .of (run_pure (v:= .pointer (some c)) (by simp[ba,d])) rfl
theorem xb{c:BinOp}{f:Int->Int->Int}{t:TypeId}{x y:Operand}(e:∀k a b,ax cx.P c t (.int k a) (.int k b)=some (.int k (k.wrap (f a b)))):
  Ref cx.bad (AL f x y cx ⟨dst,.binOp c t x y T,ty,pos,after,guard⟩ ρ h K) (bm cx.P cf ρ ⟨dst,.binOp c t x y T,ty,pos,after,guard⟩ h) (mu h K):=by
 unfold AL;refine mG (gC rfl) λk a g=>mG .bad λj b d=>cZ (λi=>?_) (λ_=> .bad);obtain rfl:=FV i;rw[Kn];exact .of (run_pure (v:= .int k (k.wrap (f a b))) (by simp only[ba,g,d,e])) rfl
theorem rN{c:BinOp}{f:Int->Int->Bool}{t:TypeId}{x y:Operand}(i:∀k a b,ax cx.P c t (.int k a) (.int k b)=some (.bool (f a b))):
  Ref cx.bad (HU f x y cx ⟨dst,.binOp c t x y T,ty,pos,after,guard⟩ ρ h K) (bm cx.P cf ρ ⟨dst,.binOp c t x y T,ty,pos,after,guard⟩ h) (mu h K):=by
 unfold HU;refine mG (gC rfl) λk a j=>mG .bad λm b g=>cZ (λl=>?_) (λ_=> .bad);obtain rfl:=FV l;have d:=run_pure (cf:=cf) (h:=h) (P:=cx.P) (ρ:=ρ) (o:=⟨dst,.binOp c t x y T,ty,pos,after,guard⟩) (v:= .bool (f a b)) (by simp only[ba,j,g,i]);refine cZ (λe=>?_) (λe=>?_)
 ·rw[e]at d;exact .of d rfl
 ·rw[e]at d;exact .of d rfl
theorem O7{c:BinOp}{t:TypeId}{x y:Operand}:Ref cx.bad (acV c t x y T cx ⟨dst,.binOp c t x y T,ty,pos,after,guard⟩ ρ h K) (bm cx.P cf ρ ⟨dst,.binOp c t x y T,ty,pos,after,guard⟩ h) (mu h K):=by
 cases c with
 |add=>exact xb λk a b=>by simp[ax,adg]
 |sub=>exact xb λk a b=>by simp[ax,adi]
 |mul=>exact xb λk a b=>by simp[ax,adh]
 |eql=>exact rN λk a b=>by simp[ax,intCmp,Bv]
 |neq=>exact rN λk a b=>by simp only[ax,intCmp,iNe,Bv,if_true,map_some];simp[bne]
 |lss=>exact rN λk a b=>by simp[ax,intCmp,vH]
 |leq=>exact rN λk a b=>by simp only[ax,intCmp,iLe,vH,if_true,map_some];rw[<-decide_not];simp[Int.not_lt]
 |gtr=>exact rN λk a b=>by simp[ax,intCmp,iGt,vH]
 |geq=>exact rN λk a b=>by simp only[ax,intCmp,iGe,vH,if_true,map_some];rw[<-decide_not];simp[Int.not_lt]
 |_=>exact gC (o:=⟨dst,_,ty,pos,after,guard⟩) rfl
theorem Wa{a:UnOp}{t:TypeId}{x:Operand}:Ref cx.bad (cUn a t x cx ⟨dst,.unOp a t x,ty,pos,after,guard⟩ ρ h K) (bm cx.P cf ρ ⟨dst,.unOp a t x,ty,pos,after,guard⟩ h) (mu h K):=by
 cases a with
 |not=>
  show Ref cx.bad (acb x cx ⟨dst,.unOp .not t x,ty,pos,after,guard⟩ ρ h K) _ _;unfold acb;refine DZ λb e=>?_;have c:=run_pure (cf:=cf) (h:=h) (P:=cx.P) (ρ:=ρ) (o:=⟨dst,.unOp .not t x,ty,pos,after,guard⟩) (v:= .bool !b) (by simp only[ba,e,E2]);refine cZ (λd=>?_) (λd=>?_)
  ·rw[d]at c;exact .of c rfl
  ·rw[d]at c;exact .of c rfl
 |neg=>rw[show cUn .neg t x=gen from rfl];exact gC rfl
 |xor=>rw[show cUn .xor t x=gen from rfl];exact gC rfl
 |plus=>rw[show cUn .plus t x=gen from rfl];exact gC rfl
theorem H9{s:TypeId}{x:Operand}:Ref cx.bad (AT s T x cx ⟨dst,.convert s T x,ty,pos,after,guard⟩ ρ h K) (bm cx.P cf ρ ⟨dst,.convert s T x,ty,pos,after,guard⟩ h) (mu h K):=by
 unfold AT
 cases a:kOf cx.P s T with
 |none=>exact gC rfl
 | some k=>
  refine mG .bad λe n b=>?_;rw[Kn];refine .of (run_pure (v:= .int k (k.wrap n)) ?_) rfl;unfold kOf at a;split at a
  ·next u f c d=>
   obtain rfl:=oI a;simp only[ba,eP,c,d,b]
  ·cases a
theorem wY(b i n:Nat):Addr.add ⟨b,i,none⟩ n=⟨b,i+n,none⟩:=by
 unfold Addr.add;split
 ·next a=>subst a;rfl
 ·rfl
theorem De{s:TypeId}{x:Operand}:Ref cx.bad (tH s x n cx ⟨dst,.fieldAddr s x n,ty,pos,after,guard⟩ ρ h K) (bm cx.P cf ρ ⟨dst,.fieldAddr s x n,ty,pos,after,guard⟩ h) (mu h K):=by
 unfold tH;refine gr λg c=>re .bad λa l=>ou λb i e=>?_;rw[dJ];refine .of (run_pure (v:= .pointer (some ⟨b,i+g,none⟩)) ?_) rfl;subst e;unfold ac6 at c;split at c
 ·next d k=>
  split at c
  ·next m j=>
   split at c
   ·next f=>
    obtain rfl:=oI c;simp only[ba,k,l,j];rw[if_pos f,wY]
   ·cases c
  ·cases c
 ·cases c
theorem Pz{s:TypeId}{x:Operand}:Ref cx.bad (K2 s x n cx ⟨dst,.field s x n,ty,pos,after,guard⟩ ρ h K) (bm cx.P cf ρ ⟨dst,.field s x n,ty,pos,after,guard⟩ h) (mu h K):=by
 unfold K2
 cases a:Lr cx.P s n with
 |none=>exact gC rfl
 | some m=>
  refine R5 λcs i=>gr λv e=>?_;rw[dX];refine .of (run_pure (v:=v) ?_) rfl;rw[BN]at e;unfold Lr at a;split at a
  ·next g l=>
   split at a
   ·next k j=>
    split at a
    ·next d=>
     obtain rfl:=oI a;unfold GJ at d;simp only[and_eq_true,not_eq_true']at d;obtain⟨c,f⟩:=d
     cases b:cx.P.underlying k.type with
     |none=>rw[b]at c;cases c
     |some u=>
      simp only[ba,l,i,j,partOf,b,f,false_eq_true,if_false];simpa using e
    ·cases a
   ·cases a
  ·cases a
theorem Dg{t:TypeId}{x i:Operand}:Ref cx.bad (tJ t x i cx ⟨dst,.indexAddr t x i,ty,pos,after,guard⟩ ρ h K) (bm cx.P cf ρ ⟨dst,.indexAddr t x i,ty,pos,after,guard⟩ h) (mu h K):=by
 unfold tJ;refine gr λw d=>?_;obtain⟨B,n⟩:=w;refine mG .bad λk j y=>Jb λm z=>?_;subst z;unfold aak at d;split at d
 ·next A e s=>
  obtain⟨r,q,p⟩:=map_eq_some_iff.1 d;simp only[Prod.mk.injEq]at p;obtain⟨rfl,rfl⟩:=p;refine re .bad λa u=>?_;unfold elemAt;refine cZ (λf=>ou λb o g=>?_) (λ_=> .bad);rw[dJ];refine .of (run_pure (v:= .pointer (some ⟨b,o+m*r,none⟩)) ?_) rfl;subst g;have f:m<A:=by simpa[blt_eq]using f
  simp only[ba,s,u,y,q];rw[if_pos ⟨by omega,by omega⟩,wY];rfl
 ·next e s=>
  obtain⟨r,q,p⟩:=map_eq_some_iff.1 d;simp only[Prod.mk.injEq]at p;obtain⟨rfl,rfl⟩:=p;refine Cq λa l c u=>?_;unfold elemAt;refine cZ (λf=>ou λb o g=>?_) (λ_=> .bad);rw[dJ];refine .of (run_pure (v:= .pointer (some ⟨b,o+m*r,none⟩)) ?_) rfl;subst g;have f:m<l:=by simpa[blt_eq]using f
  simp only[ba,s,u,y,q];rw[if_pos ⟨by omega,by omega⟩,wY];rfl
 ·cases d
theorem PO{t:TypeId}{x i:Operand}:Ref cx.bad (K3 t x i cx ⟨dst,.index t x i,ty,pos,after,guard⟩ ρ h K) (bm cx.P cf ρ ⟨dst,.index t x i,ty,pos,after,guard⟩ h) (mu h K):=by
 unfold K3;refine cZ (λa=>J3 λs d=>mG .bad λk j g=>Jb λm e=>gr λb c=>?_) (λ_=>gC rfl);rw[dJ];subst e;rw[BN]at c;refine .of (run_pure (v:= .int .u8 b.toNat) ?_) rfl;unfold isStr at a;split at a
 ·next f=>
  simp only[ba,f,d,g];rw[if_pos (by omega)];simp only[Int.toNat_natCast,c]
 ·cases a
theorem Ix{x:Operand}:Ref cx.bad (AU x i cx ⟨dst,.extract x i,ty,pos,after,guard⟩ ρ h K) (bm cx.P cf ρ ⟨dst,.extract x i,ty,pos,after,guard⟩ h) (mu h K):=by
 unfold AU;refine Na λc b=>gr λv a=>?_;rw[dX];rw[BN]at a;exact .of (run_pure (v:=v) (by simp only[ba,b];simpa using a)) rfl
theorem Bh:∀(l:List Operand)(K:List Value->Bool),fArgs ρ l K=K (l.map ρ)
 |[],_=>rfl
 |x::l,K=>by
  show jM (ρ x) (λv=>fArgs ρ l λr=>K (v::r))=_;rw[dX,Bh l];rfl
theorem D7{a:Array Value}(h:xp a=true):a.size=0:=by
 unfold xp at h;rw[<-length_toList];generalize a.toList=l at h
 cases l with
 |nil=>rfl
 |cons x l=>cases h
theorem SD(w:sK cx cf){c:Call}:Ref cx.bad (Sw c cx ⟨dst,.call c,ty,pos,after,guard⟩ ρ h K) (bm cx.P cf ρ ⟨dst,.call c,ty,pos,after,guard⟩ h) (mu h K):=by
 obtain⟨p,d,j⟩:=c
 cases p with
 | value f=>
  show Ref cx.bad (Ft f d j cx ⟨dst,.call ⟨.value f,d,j⟩,ty,pos,after,guard⟩ ρ h K) _ _;unfold Ft;refine PF λE first i D=>?_
  cases E with
  |func g=>
   show Ref cx.bad (fE (Nat.blt g YB) (fArgs ρ d.toList λo=>xv (first.toList++o++i.toList) λo=>cx.cf g o h K) cx.bad) _ _;refine cZ (λq=>?_) (λ_=> .bad);have q:g<YB:=by simpa[blt_eq]using q
   rw[Bh,xw];rcases w g (first.toList++d.toList.map ρ++i.toList) h K with z|⟨r,B,C⟩
   ·rw[z];exact .bad
   ·refine .of (r:=(r.1,.all r.2)) ?_ C;show cJ cx.P cf ρ ⟨dst,.call ⟨.value f,d,j⟩,ty,pos,after,guard⟩ h=_;simp only[cJ,qG,D,B,map_some,if_pos q]
  |yield k=>
   show Ref cx.bad (fE (xp first) (fE (xp i) (fArgs ρ d.toList λo=>iX (YB+k) λG=>cx.cf G o h K) cx.bad) cx.bad) _ _;refine cZ (λB=>cZ (λC=>?_) (λ_=> .bad)) (λ_=> .bad);rw[Bh,dJ];rcases w (YB+k) (d.toList.map ρ) h K with z|⟨r,F,J⟩
   ·rw[z];exact .bad
   ·refine .of (r:=(r.1,.all r.2)) ?_ J;show cJ cx.P cf ρ ⟨dst,.call ⟨.value f,d,j⟩,ty,pos,after,guard⟩ h=_;simp only[cJ,qG,D,F,map_some,if_pos (show first.size=0/\i.size=0 from⟨D7 B,D7 C⟩)]
  |method _=>exact .bad
  |methodOf _ _=>exact .bad
  |via _ _ _ _=>exact .bad
 |invoke r m=>exact .bad
 | builtin b=>
  by_cases u:b = .append
  ·subst u;show Ref cx.bad (AW d j cx ⟨dst,.call ⟨.builtin .append,d,j⟩,ty,pos,after,guard⟩ ρ h K) _ _;unfold AW;refine BW λr M=>?_;show cJ cx.P cf ρ ⟨dst,.call ⟨.builtin .append,d,j⟩,ty,pos,after,guard⟩ h=_;exact M
  by_cases s:b = .len
  ·subst s;show Ref cx.bad (SE d j cx ⟨dst,.call ⟨.builtin .len,d,j⟩,ty,pos,after,guard⟩ ρ h K) _ _;unfold SE
   cases l:Ga cx.P d j with
   |none=>exact gC rfl
   | some x=>
    refine Cq λa n c H=>?_;refine .of (r:=(.int .i64 n,.no)) ?_ rfl;unfold Ga at l;split at l
    ·next y t N L=>
     split at l
     ·next A=>
      obtain rfl:=oI l;unfold aam at A;split at A
      ·next e I=>
       show(match bj cx.P ρ ⟨dst,.call ⟨.builtin .len,d,j⟩,ty,pos,after,guard⟩ h with|some v=>some (v,bp.no)|none=>_)=_;simp only[bj,N,L,I,H]
      ·cases A
     ·cases l
    ·cases l
  have q:Sw ⟨.builtin b,d,j⟩=gen:=by
   cases b<;>first|rfl|exact absurd rfl u|exact absurd rfl s
  rw[q];exact gC rfl
theorem Ai(g:sK cx cf)(o:Oper):Ref cx.bad (opF o.op cx o ρ h K) (bm cx.P cf ρ o h) (mu h K):=by
 obtain⟨dst,e,ty,pos,after,guard⟩:=o
 cases e with
 |move x=>exact T5
 |assign x=>exact KO
 |pick c a b=>exact Uz
 |alloc t=>exact O1
 |box t x=>exact Xk
 |load t a=>exact TM
 |store t a x=>exact Ri
 |nilCheck x=>exact Gp
 |binOp e t x y u=>exact O7
 |unOp e t x=>exact Wa
 |convert s d x=>exact H9
 |fieldAddr s x f=>exact De
 |field s x f=>exact Pz
 |indexAddr t x i=>exact Dg
 |index t x i=>exact PO
 |extract x i=>exact Ix
 |call c=>exact SD g
 |go _=>exact .bad
 |defer _=>exact .bad
 |panic _=>exact .bad
 |send _ _=>exact .bad
 |recv _ _ _=>exact .bad
 |select _ _=>exact .bad
 |_=>exact gC (o:=⟨dst,_,ty,pos,after,guard⟩) rfl
end
section
variable {cx:Cx} {cf:bY}
def eF(n:Nat)(e:Env)(l:List Value):Prop:=l.length=n/\n<=256/\∀t,Env.get t e=l.getD t undef
theorem Bf{e:Env}{l:List Value}(a:eF n e l)(gl:Nat->Bool):NI gl e=ev gl l:=by
 funext x
 cases x with
 |tmp t=>exact a.2.2 t
 |const v=>
  show XB (plain v) v fs=if plain v then v else fs
  cases plain v<;>rfl
 |global g=>
  show XB (gl g) _ fs=if gl g then _ else fs
  cases gl g<;>rfl
 |func f=>rfl
theorem r9{e:Env}{l:List Value}(a:eF n e l)(b:Option Tmp)(v:Value):∃i,eF n i (fe l b v)/\∀(K:Env->Bool),pI n b e v K=K i:=by
 cases b with
 |none=>exact⟨e,a,λK=>rfl⟩
 | some d=>
  cases c:Nat.blt d n with
  | true=>
   have f:d<n:=by simpa[blt_eq]using c
   refine⟨Env.new d e v,⟨by rw[jc];exact a.1,a.2.1,λt=>?_⟩,λK=>?_⟩
   ·rw[Env.FQ (lt_of_lt_of_le f a.2.1),gD];split
    ·next g=>subst g;rw[EB (by rw[a.1];exact f)];rfl
    ·next g=>rw[GM (λk=>g (oI k).symm),<-gD];exact a.2.2 t
   ·show fE (Nat.blt d n) (Env.put d e v K) (K e)=_;rw[c];exact Env.put_eq d e v K
  | false=>
   have j:n<=d:=by
    rcases lt_or_ge d n with h|h
    ·have:Nat.blt d n=true:=by simpa[blt_eq]using h
     rw[c]at this;cases this
    ·exact h
   refine⟨e,?_,λK=>?_⟩
   ·have:fe l (some d) v=l:=by simp only[fe];exact List.set_eq_of_length_le (by rw[a.1];exact j)
    rw[this];exact a
   ·show fE (Nat.blt d n) (Env.put d e v K) (K e)=_;rw[c];rfl
theorem PI(v:Value)(bad:Bool)(f:Bool->Bool)(a:Bool):Br v bad f a=bad\/(∃b,v = .bool b/\Br v bad f a=f b)\/ ∃c,v = .tuple c/\Br v bad f a=a:=by
 cases v with
 |bool b=>exact .inr (.inl ⟨b,rfl,rfl⟩)
 |tuple c=>exact .inr (.inr ⟨c,rfl,rfl⟩)
 |_=>exact .inl rfl
theorem Ki{e:Env}{l:List Value}(p:eF n e l){ops:Array Oper}(o:Oper)(bad c a:Bool):
  CE ops e bad o.guard c a=bad\/(ef ops l o=some true/\CE ops e bad o.guard c a=c)\/(ef ops l o=some false/\CE ops e bad o.guard c a=a):=by
 unfold ef
 cases r:o.guard with
 |none=>exact .inr (.inl ⟨rfl,rfl⟩)
 | some g=>
  obtain⟨j,f⟩:=g
  cases k:(ops[j]?).bind (·.dst)with
  |none=>
   left;show C7 bad (Tp ops j) _=bad;unfold Tp;rw[k];rfl
  | some d=>
   have m:CE ops e bad (some (j,f)) c a=Br (Env.get d e) bad (λb=>Bool.rec (motive:=λ_=>Bool) (fE f a c) (fE f c a) b) a:=by
    show C7 bad (Tp ops j) _=_;unfold Tp;rw[k];rfl
   rw[m];simp only[k];rw[p.2.2 d];rcases PI (l.getD d undef) bad (λb=>Bool.rec (motive:=λ_=>Bool) (fE f a c) (fE f c a) b) a with h|⟨b,h,i⟩|⟨q,h,i⟩
   ·exact .inl h
   ·rw[i];simp only[h]
    cases b<;>cases f<;>first|exact .inr (.inl ⟨rfl,rfl⟩)|exact .inr (.inr ⟨rfl,rfl⟩)
   ·rw[i];simp only[h];exact .inr (.inr ⟨trivial,trivial⟩)
def KL{b:Type}(n:Nat)(bad x:Bool)(c:Option (List Value×b))(K:Env->b->Bool):Prop:=x=bad\/ ∃l a e,c=some (l,a)/\eF n e l/\x=K e a
theorem BT(c:sK cx cf){ops:Array Oper}:∀(a:List Oper){e:Env}{l:List Value}{h:aa}{K:Env->aa->Bool},eF cx.n e l->KL cx.n cx.bad (Jp cx ops a e h K) (fP cx.P cx.gl cf ops a l h) K
 |[],e,l,h,K,b=> .inr ⟨l,h,e,rfl,b,rfl⟩
 | o::a,e,l,h,K,b=>by
  show KL cx.n cx.bad (abD cx ops o e h λe h=>Jp cx ops a e h K) _ K;unfold abD;rcases Ki b o cx.bad (opF o.op cx o (NI cx.gl e) h λv h=>pI cx.n o.dst e v λe=>Jp cx ops a e h K) (pI cx.n o.dst e undef λe=>Jp cx ops a e h K)with d|⟨d,g⟩|⟨d,g⟩
  ·exact .inl d
  ·rw[g];rcases Ai c (ρ:=NI cx.gl e) (h:=h) (K:=λv h=>pI cx.n o.dst e v λe=>Jp cx ops a e h K) o with f|⟨⟨v,u⟩,f,m⟩
   ·exact .inl f
   ·rw[m];rw[Bf b]at f;obtain⟨k,j,i⟩:=r9 b o.dst v;show KL cx.n cx.bad (pI cx.n o.dst e v λe=>Jp cx ops a e (u.app h) K) _ K;rw[i];simp only[fP,d,f];exact BT c a j
  ·rw[g];obtain⟨k,j,i⟩:=r9 b o.dst undef;rw[i];simp only[fP,d];exact BT c a j
end
section
variable {cx:Cx} {cf:bY}
theorem pP(base:Nat):∀(l:List (Nat×bu))(h:aa)(K:aa->Bool),nN base l h K=K (aw h base l)
 |[],_,_=>rfl
 |(i,B)::l,h,K=>by
  show nN base l h (λh=>HT.np (some B) (pathOf (base+i)) h.t λt=>K ⟨h.next,t⟩)=_;rw[pP base l h,HT.eD];rfl
theorem SK{ρ:Operand->Value}{o:Oper}{r:Value×bp}(g:Pj o.op = .p)(a:bm P cf ρ o h=some r):ba P ρ o=some r.1/\r.2 = .no:=by
 obtain⟨j,k,m,i,f,e⟩:=o;unfold bm at a
 cases l:ba P ρ ⟨j,k,m,i,f,e⟩with
 |some v=>rw[l]at a;obtain rfl:=oI a;exact⟨rfl,rfl⟩
 | none=>
  rw[l]at a
  cases k with
  |call c=>
   obtain⟨d,n,p⟩:=c
   cases d with
   |builtin b=>cases b<;>exact nomatch g
   |_=>exact nomatch g
  |_=>first|(change (none:Option (Value×bp))=some r at a;exact nomatch a)|cases g
theorem SL{ρ:Operand->Value}{o:Oper}{r:Value×bp}(q:Pj o.op = .r)(m:bm P cf ρ o h=some r):ba P ρ o=none/\bj P ρ o h=some r.1/\r.2 = .no:=by
 obtain⟨g,i,j,f,e,d⟩:=o;have n:ba P ρ ⟨g,i,j,f,e,d⟩=none->(bj P ρ ⟨g,i,j,f,e,d⟩ h=none->bm P cf ρ ⟨g,i,j,f,e,d⟩ h=none)->ba P ρ ⟨g,i,j,f,e,d⟩=none/\bj P ρ ⟨g,i,j,f,e,d⟩ h=some r.1/\r.2 = .no:=λs l=>by
  refine⟨s,?_⟩
  cases p:bj P ρ ⟨g,i,j,f,e,d⟩ h with
  |none=>rw[l p]at m;cases m
  |some v=>
   unfold bm at m;rw[s,p]at m;obtain rfl:=oI m;exact⟨rfl,rfl⟩
 cases i with
 |load t a=>exact n rfl λl=>by unfold bm;rw[l];rfl
 |call c=>
  obtain⟨k,u,w⟩:=c
  cases k with
  |builtin b=>cases b<;>first|exact n rfl λl=>by unfold bm;rw[l];rfl|cases q
  |_=>exact nomatch q
 |_=>exact nomatch q
theorem Xu{ρ:Operand->Value}{o:Oper}(e:Pj o.op = .e):(∀h,ba P ρ o=none/\bj P ρ o h=none/\aT P ρ o=none)/\bm P cf ρ o h=cJ P cf ρ o h:=by
 obtain⟨m,j,p,l,i,g⟩:=o
 cases j with
 |store t a x=>exact⟨λ_=>⟨rfl,rfl,rfl⟩,rfl⟩
 |call c=>
  obtain⟨d,k,n⟩:=c
  cases d with
  |builtin b=>cases b<;>first|exact⟨λ_=>⟨rfl,rfl,rfl⟩,rfl⟩|cases e
  |value f=>exact⟨λ_=>⟨rfl,rfl,rfl⟩,rfl⟩
  |_=>exact nomatch e
 |_=>exact nomatch e
theorem Pk{o:Oper}(h:Pj o.op = .d):aZ o=false:=by
 obtain⟨j,e,l,i,d,b⟩:=o
 cases e with
 |call c=>
  obtain⟨a,g,k⟩:=c
  cases a with
  |value f=>exact nomatch h
  |_=>rfl
 |_=>rfl
noncomputable def pc(P:Program)(cf:bY)(bf:Nat->Nat->Bool)(base j:Nat)(o:Oper)(ρ:Operand->Value)(h:aa)(pd:List (Nat×bu)):Option (lE×Value×aa×List (Nat×bu)):=
 match ba P ρ o with
 |some v=>some (.pure v,v,h,pd)
 | none=>match bj P ρ o h with
  |some v=>some (.read v,v,h,pd)
  | none=>match aT P ρ o with
   |some (B,f)=>some (.alloc B (f (base+j)),f (base+j),h,(j,B)::pd)
   |none=>match cJ P cf ρ o (aw h base (pd.filter λp=>bf j p.1))with
    |some (v,u)=>some (.qh v (u.app (aw h base (pd.filter λp=>bf j p.1))),v,u.app (aw h base (pd.filter λp=>bf j p.1)),pd.filter λp=> !bf j p.1)
    |none=>none
theorem SR(g:sK cx cf){bf:Nat->Nat->Bool}{base j:Nat}{o:Oper}{ρ:Operand->Value}{h:aa}{pd:List (Nat×bu)}{K:aaE}:
  Ref cx.bad (SQ cx bf base j o ρ h pd K) (pc cx.P cf bf base j o ρ h pd) λr=>K r.1 r.2.1 r.2.2.1 r.2.2.2:=by
 unfold SQ
 cases k:Pj o.op with
 |p=>
  rcases Ai g (ρ:=ρ) (h:=h) (K:=λv _=>K (.pure v) v h pd) o with a|⟨r,a,i⟩
  ·exact .inl a
  ·obtain⟨c,_⟩:=SK k a;exact .of (r:=(.pure r.1,r.1,h,pd)) (by unfold pc;rw[c]) i
 |r=>
  rcases Ai g (ρ:=ρ) (h:=h) (K:=λv _=>K (.read v) v h pd) o with a|⟨r,a,i⟩
  ·exact .inl a
  ·obtain⟨c,l,_⟩:=SL k a;exact .of (r:=(.read r.1,r.1,h,pd)) (by unfold pc;rw[c,l]) i
 |e=>
  show Ref cx.bad (nN base (pd.filter λp=>bf j p.1) h λh=>opF o.op cx o ρ h λv b=>K (.qh v b) v b (pd.filter λp=> !bf j p.1)) _ _;rw[pP];rcases Ai g (ρ:=ρ) (h:=aw h base (pd.filter λp=>bf j p.1)) (K:=λv b=>K (.qh v b) v b (pd.filter λp=> !bf j p.1)) o with a|⟨⟨v,u⟩,a,i⟩
  ·exact .inl a
  ·obtain⟨c,l⟩:=Xu (P:=cx.P) (ρ:=ρ) (cf:=cf) (h:=aw h base (pd.filter λp=>bf j p.1)) k;obtain⟨q,n,m⟩:=c h;rw[l]at a;exact .of (r:=(.qh v (u.app (aw h base (pd.filter λp=>bf j p.1))),v,u.app (aw h base (pd.filter λp=>bf j p.1)),pd.filter λp=> !bf j p.1))
    (by unfold pc;rw[q,n,m,a]) i
 | d=>
  show Ref cx.bad (abd cx bf base j o ρ h pd K) _ _;unfold abd pc
  cases w:ba cx.P ρ o with
  |some v=>exact .of rfl (dX _ _)
  | none=>
   cases x:bj cx.P ρ o h with
   |some v=>exact .of rfl (dX _ _)
   | none=>
    cases t:aT cx.P ρ o with
    |some r=>
     obtain⟨B,f⟩:=r;refine .of rfl ?_;show Iz B (λB=>jM (f (base+j)) λv=>K (.alloc B v) v h ((j,B)::pd))=_;rw[vx,dX]
    | none=>
     show Ref cx.bad (nN base (pd.filter λp=>bf j p.1) h λh=>Mb cx.bad (cJ cx.P fb ρ o h) h λv b=>K (.qh v b) v b (pd.filter λp=> !bf j p.1)) _ _;rw[pP,tZ (cf:=cf) (Pk k)]
     cases s:cJ cx.P cf ρ o (aw h base (pd.filter λp=>bf j p.1))with
     |none=>exact .bad
     |some r=>
      obtain⟨v,u⟩:=r;refine .of rfl ?_;show Xa u (aw h base (pd.filter λp=>bf j p.1)) (λb=>jM v λv=>K (.qh v b) v b (pd.filter λp=> !bf j p.1))=_;rw[zX,dX]
theorem Fx{gl:Nat->Bool}{ops:Array Oper}{bf:Nat->Nat->Bool}{base:Nat}{o:Oper}{b:List Oper}{pd:List (Nat×bu)}(i:ef ops c o=some true)
  {r:lE×Value×aa×List (Nat×bu)} (a:pc P cf bf base j o (ev gl c) h pd=some r):
  cU P gl cf ops bf base (o::b) j c h pd=(cU P gl cf ops bf base b (j+1) (fe c o.dst r.2.1) r.2.2.1 r.2.2.2).map λx=>((c,r.1)::x.1,x.2):=by
 unfold pc at a;simp only[cU,i];split at a
 ·next v g=>obtain rfl:=oI a;simp only[g]
 ·next g=>
  simp only[g];split at a
  ·next v d=>obtain rfl:=oI a;simp only[d]
  ·next d=>
   simp only[d];split at a
   ·next B f e=>obtain rfl:=oI a;simp only[e]
   ·next e=>
    simp only[e];split at a
    ·next v u k=>obtain rfl:=oI a;simp only[k]
    ·cases a
inductive OU(n:Nat):List Oper->List Fh->List (List Value×lE)->Prop where
 |nil:OU n [] [] []
 |cons {o:Oper} {os:List Oper} {e:Env} {ent:lE} {tm:List Value} {a:List Fh} {b:List (List Value×lE)} (h:eF n e tm) (r:OU n os a b):OU n (o::os) ((o,e,ent)::a) ((tm,ent)::b)
theorem pe(s:sK cx cf){ops:Array Oper}{bf:Nat->Nat->Bool}{base:Nat}:∀(l:List Oper){j:Nat}{e:Env}{r:List Value}{h:aa}{pd:List (Nat×bu)}{K:List Fh->Env->aa->List (Nat×bu)->Bool},eF cx.n e r->
  jr cx ops bf base l j e h pd K=cx.bad\/ ∃a p x q i f,cU cx.P cx.gl cf ops bf base l j r h pd=some (a,p,x,q)/\eF cx.n f p/\OU cx.n l i a/\jr cx ops bf base l j e h pd K=K i f x q
 |[],j,e,r,h,pd,K,m=> .inr ⟨[],r,h,pd,[],e,rfl,m,.nil,rfl⟩
 | o::c,j,e,r,h,pd,K,m=>by
  have F:jr cx ops bf base (o::c) j e h pd K=CE ops e cx.bad o.guard
   (SQ cx bf base j o (NI cx.gl e) h pd λk v h pd=>pI cx.n o.dst e v λf=>jr cx ops bf base c (j+1) f h pd λa g d b=>K ((o,e,k)::a) g d b)
   (pI cx.n o.dst e undef λf=>jr cx ops bf base c (j+1) f h pd λa g d b=>K ((o,e,.skip)::a) g d b):=rfl
  rw[F];rcases Ki m (ops:=ops) o cx.bad (SQ cx bf base j o (NI cx.gl e) h pd λk v h pd=>pI cx.n o.dst e v λf=>jr cx ops bf base c (j+1) f h pd λa g d b=>K ((o,e,k)::a) g d b)
   (pI cx.n o.dst e undef λf=>jr cx ops bf base c (j+1) f h pd λa g d b=>K ((o,e,.skip)::a) g d b)with t|⟨t,d⟩|⟨t,d⟩
  ·exact .inl t
  ·rw[d];rcases SR s (bf:=bf) (base:=base) (j:=j) (o:=o) (ρ:=NI cx.gl e) (h:=h) (pd:=pd) (K:=λk v h pd=>pI cx.n o.dst e v λf=>jr cx ops bf base c (j+1) f h pd λa g d b=>K ((o,e,k)::a) g d b)with w|⟨⟨k,v,x,q⟩,w,G⟩
   ·exact .inl w
   ·rw[G];rw[Bf m]at w;obtain⟨f,C,B⟩:=r9 m o.dst v;simp only[B];rcases pe s c C (ops:=ops) (bf:=bf) (base:=base) (j:=j+1) (h:=x) (pd:=q) (K:=λa g d b=>K ((o,e,k)::a) g d b)with n|⟨a,p,D,z,i,E,n,y,A,u⟩
    ·exact .inl n
    ·refine .inr ⟨_,_,_,_,_,_,?_,y,.cons m A,u⟩;rw[Fx t w,n];rfl
  ·rw[d];obtain⟨f,C,B⟩:=r9 m o.dst undef;rw[B];rcases pe s c C (ops:=ops) (bf:=bf) (base:=base) (j:=j+1) (h:=h) (pd:=pd) (K:=λa g d b=>K ((o,e,.skip)::a) g d b)with n|⟨a,p,D,z,i,E,n,y,A,u⟩
   ·exact .inl n
   ·refine .inr ⟨_,_,_,_,_,_,?_,y,.cons m A,u⟩;simp only[cU,t,n];rfl
theorem S5{d:List Oper}{a:List Fh}{b:List (List Value×lE)}(h:OU n d a b):∀j,D6 a j=dE b j:=by
 induction h with
 |nil=>intro j;rfl
 |cons _ _ f=>
  rename_i o d e c g a b _ _;intro j;show ac1 c j (D6 a (j+1))=_;rw[f]
  cases c<;>rfl
theorem D3(bf:Nat->Nat->Bool):∀(l:List (Nat×aa))(p:Option Nat),xl bf l p=(match p,l with|some i,(j,_)::_=>bf j i&&chained bf l|_,_=>chained bf l)
 |[],p=>by cases p<;>rfl
 | (j,h)::l,p=>by
  have b:=D3 bf l (some j);have a:chained bf ((j,h)::l)=xl bf l (some j):=by
   rw[b]
   cases l with
   |nil=>rfl
   |cons x l=>rfl
  cases p with
  |none=>show xl bf l (some j)=_;exact a.symm
  |some i=>
   show fE (bf j i) (xl bf l (some j)) false=(bf j i&&chained bf ((j,h)::l));rw[a]
   cases bf j i<;>rfl
theorem JO{gl:Nat->Bool}{o:Oper}:EM P o (ev gl c) v h=hO P gl o c v h:=by
 unfold EM hO
 cases bj P (ev gl c) o h<;>rfl
theorem Cg{P:Program}{gl:Nat->Bool}{bf:Nat->Nat->Bool}{j:Nat}{o:Oper}{b:List Value}{v:Value}:∀(c:List (Nat×aa))(h:aa)(a:Bool),Al P bf j o (ev gl b) v c h a=jz P gl bf j o b v h c a
 |[],h,a=>by
  show fE a true (EM P o (ev gl b) v h)=(a||hO P gl o b v h);rw[JO];cases a<;>rfl
 |(x,d)::c,h,a=>by
  show fE (fE (fE a (Nat.blt j x) false) true (fE (bf j x) true (EM P o (ev gl b) v h))) (fE (bf x j) true (Al P bf j o (ev gl b) v c d (Nat.blt x j))) false=(((a&&Nat.blt j x)||bf j x||hO P gl o b v h)&&(bf x j||jz P gl bf j o b v d c (Nat.blt x j)));rw[JO,Cg c]
  cases a<;>cases Nat.blt j x<;>cases bf j x<;>cases bf x j<;>cases hO P gl o b v h<;>rfl
theorem QU{d:List Oper}{a:List Fh}{b:List (List Value×lE)}{bf:Nat->Nat->Bool}{c:List (Nat×aa)}(l:OU cx.n d a b):∀j,GN cx bf h c a j=fQ cx.P cx.gl bf h c d b j:=by
 induction l with
 |nil=>intro j;rfl
 | cons k _ i=>
  rename_i o d e f g a b _;intro j;show aav cx bf h c j o e f (GN cx bf h c a (j+1))=_;rw[i]
  cases f with
  |read v=>
   show fE (Al cx.P bf j o (NI cx.gl e) v c h true) (fQ cx.P cx.gl bf h c d b (j+1)) false=(jz cx.P cx.gl bf j o g v h c true&&fQ cx.P cx.gl bf h c d b (j+1));rw[Bf k,Cg]
   cases jz cx.P cx.gl bf j o g v h c true<;>rfl
  |_=>rfl
theorem Pu(k:sK cx cf){ops:Array Oper}{bf:Nat->Nat->Bool}{e:Env}{l:List Value}{h:aa}{K:Env->aa->Bool}(p:eF cx.n e l):KL cx.n cx.bad (Ih cx ops bf e h K) (rO cx.P cx.gl cf ops bf l h) K:=by
 unfold Ih;rw[dJ];rcases pe k ops.toList p (ops:=ops) (bf:=bf) (base:=h.next) (j:=0) (h:=⟨h.next+ops.size,h.t⟩) (pd:=[]) (K:=λa d b pd=>
  fE (fE (xl bf (D6 a 0) none) (GN cx bf ⟨h.next+ops.size,h.t⟩ (D6 a 0) a 0) false) (nN h.next pd b λb=>K d b) cx.bad)with f|⟨a,g,b,c,m,d,f,n,i,o⟩
 ·exact .inl f
 ·rw[o,S5 i,D3,QU i,pP];unfold rO;rw[f];show KL cx.n cx.bad (fE (fE (chained bf (dE a 0)) (fQ cx.P cx.gl bf ⟨h.next+ops.size,h.t⟩ (dE a 0) ops.toList a 0) false) (K d (aw b h.next c)) cx.bad)
   (if chained bf (dE a 0)&&fQ cx.P cx.gl bf ⟨h.next+ops.size,h.t⟩ (dE a 0) ops.toList a 0 then some (g,aw b h.next c)else none) K
  cases chained bf (dE a 0)with
  |false=>exact .inl rfl
  |true=>
   cases fQ cx.P cx.gl bf ⟨h.next+ops.size,h.t⟩ (dE a 0) ops.toList a 0 with
   |false=>exact .inl rfl
   |true=>exact .inr ⟨_,_,_,rfl,n,rfl⟩
end
def wV(n:Nat)(bad x:Bool)(b:Option (Exit×List Value×aa))(K:Exit->Env->aa->Bool):Prop:=x=bad\/ ∃a l h e,b=some (a,l,h)/\eF n e l/\x=K a e h
theorem KX{bad:Bool}{K:Bool->Bool}{a:Option (Exit×List Value×aa)}{d:Exit->Env->aa->Bool}(e:∀b,v = .bool b->wV n bad (K b) a d):wV n bad (yM v bad K) a d:=by
 rcases H0 v bad K with⟨c,_⟩|⟨b,c,f⟩
 ·rw[c];exact .inl rfl
 ·rw[f];exact e b c
theorem qM(x:Exit)(a:Bool)(d:Nat->Bool)(b:Bool):(x = .normal/\ig x a d b=a)\/(∃c,x = .exit c/\ig x a d b=d c)\/((∀c,x≠ .exit c)/\x≠ .normal/\ig x a d b=b):=by
 cases x with
 |normal=>exact .inl ⟨rfl,rfl⟩
 |exit c=>exact .inr (.inl ⟨c,rfl,rfl⟩)
 |_=>exact .inr (.inr ⟨λ_=>by simp,by simp,rfl⟩)
theorem Em{b:Cx}{c:Code}{a:kM}{q:bY}{N:Nat}(f:∀{e l h K},eF b.n e l->wV b.n b.bad (a b e h K) (aQ b.P b.gl q N c l h) K):∀(m:Nat){e:Env}{l:List Value}{h:aa}{K:Exit->Env->aa->Bool},eF b.n e l->
  wV b.n b.bad (Nat.rec (motive:=λ_=>Env->aa->Bool) (λ_ _=>b.bad) (λ_ f e h=>a b e h λx e h=>ig x (f e h) (λd=>K (.exit d) e h) (K x e h)) m e h) (iter (aQ b.P b.gl q N c) m l h) K
 |0,_,_,_,_,_=> .inl rfl
 | m+1,e,l,h,K,t=>by
  show wV b.n b.bad (a b e h λx e h=>ig x ((Nat.rec (motive:=λ_=>Env->aa->Bool) (λ_ _=>b.bad) (λ_ f e h=>a b e h λx e h=>ig x (f e h) (λd=>K (.exit d) e h) (K x e h)) m:Env->aa->Bool) e h) (λd=>K (.exit d) e h) (K x e h)) _ K;rcases f (h:=h) (K:=λx e h=>ig x ((Nat.rec (motive:=λ_=>Env->aa->Bool) (λ_ _=>b.bad) (λ_ f e h=>a b e h λx e h=>ig x (f e h) (λd=>K (.exit d) e h) (K x e h)) m:Env->aa->Bool) e h) (λd=>K (.exit d) e h) (K x e h)) t with g|⟨k,p,g,i,o,n,s⟩
  ·exact .inl g
  ·rw[s];dsimp only;rcases qM k ((Nat.rec (motive:=λ_=>Env->aa->Bool) (λ_ _=>b.bad) (λ_ f e h=>a b e h λx e h=>ig x (f e h) (λd=>K (.exit d) e h) (K x e h)) m:Env->aa->Bool) i g) (λd=>K (.exit d) i g) (K k i g)with⟨rfl,j⟩|⟨d,rfl,j⟩|⟨u,r,j⟩
   ·rw[j];simp only[iter,o];exact Em f m n
   ·rw[j];exact .inr ⟨.exit d,p,g,i,by simp only[iter,o],n,rfl⟩
   ·rw[j];refine .inr ⟨k,p,g,i,?_,n,rfl⟩;simp only[iter,o]
    cases k<;>first|rfl|exact absurd rfl r
theorem abB(c a:Code)(bad:Bool)(K:jP c a=true->Bool):okF c a bad K=bad\/ ∃e,okF c a bad K=K e:=by
 unfold okF;have f:∀(b:Bool)(d:jP c a=b),(Bool.rec (motive:=λb=>jP c a=b->Bool) (λ_=>bad) K b d=bad)\/ ∃e,Bool.rec (motive:=λb=>jP c a=b->Bool) (λ_=>bad) K b d=K e:=by
  intro b d
  cases b with
  |false=>exact .inl rfl
  |true=>exact .inr ⟨d,rfl⟩
 exact f _ rfl
theorem vK(b:Option bu)(bad:Bool)(K:WC->List Value->List Tmp->(c a:Code)->jP c a=true->Bool):
  qj b bad K=bad\/ ∃e d f c a g,b=some (.loop e d f c a g)/\qj b bad K=K e d f c a g:=by
 cases b with
 |none=>exact .inl rfl
 |some B=>cases B with
  |loop e d f c a g=>exact .inr ⟨e,d,f,c,a,g,rfl,rfl⟩
  |_=>exact .inl rfl
theorem VY(e:Env):∀(n i:Nat)(K:List Value->Bool),tmF e n i K=K ((List.range' i n).map λt=>Env.get t e)
 |0,_,_=>rfl
 |n+1,i,K=>by
  show jM (Env.get i e) (λv=>tmF e n (i+1) λl=>K (v::l))=_;rw[dX,VY e n (i+1)];rfl
theorem VZ{e:Env}{l:List Value}(c:eF n e l)(K:List Value->Bool):tmF e n 0 K=K l:=by
 rw[VY];congr 1;obtain⟨d,_,a⟩:=c;refine List.ext_getElem? λt=>?_;rw[List.getElem?_map];by_cases b:t<n
 ·rw[List.getElem?_range' b];simp only[map_some,zero_add,Nat.one_mul];rw[a,gE (by omega),gD,gE (by omega)];rfl
 ·rw[getElem?_eq_none (by simp;omega),getElem?_eq_none (by omega)];rfl
theorem qO:∀(l:List Value)(i:Nat)(e:Env),i+l.length<=256->∃a:Env,(∀(K:Env->Bool),vG l i e K=K a)/\∀t,Env.get t a=if i<=t/\t<i+l.length then l.getD (t-i) undef else Env.get t e
 |[],i,e,_=>⟨e,λ_=>rfl,λt=>by rw[if_neg (by simp only[length_nil];omega)]⟩
 | v::l,i,e,d=>by
  simp only[length_cons]at d;obtain⟨a,f,g⟩:=qO l (i+1) (Env.new i e v) (by omega);refine⟨a,λK=>?_,λt=>?_⟩
  ·show jM v (λv=>Env.put i e v λe=>vG l (i+1) e K)=_;rw[dX,Env.put_eq,f]
  ·rw[g];simp only[length_cons];by_cases c:t=i
   ·subst c;rw[if_neg (by omega),Env.FQ (by omega),if_pos rfl,if_pos (by omega),Nat.sub_self];rfl
   ·rw[Env.FQ (by omega),if_neg c];by_cases b:i+1<=t/\t<i+1+l.length
    ·rw[if_pos b,if_pos (by omega),show t-i=(t-(i+1))+1 by omega];rfl
    ·rw[if_neg b,if_neg (by omega)]
theorem Lj:∀(t:HT)(K:HT->Bool),fHT t K=K t
 |.nil,_=>rfl
 |.node v l r,K=>by
  show fHT l (λl=>fHT r λr=>Option.rec (motive:=λ_=>Bool) (K (.node none l r)) (λB=>Iz B λB=>K (.node (some B) l r)) v)=_;rw[Lj l,Lj r]
  cases v with
  |none=>rfl
  |some B=>exact vx B _
theorem Sd{a:Cx}{ops:Array Oper}{e:Env}{l:List Value}{K:Env->aa->Bool}(f:eF a.n e l):KL a.n a.bad (W0 a ops e h K) (vj a.P a.gl ops (cD (fk ops)) l h) K:=by
 unfold W0;rw[VZ f]
 cases n:vj a.P a.gl ops (cD (fk ops)) l h with
 |none=>exact .inl rfl
 | some r=>
  obtain⟨b,c⟩:=r;show KL a.n a.bad (fE (Nat.beq b.length a.n) (vG b 0 xq λe=>iX c.next λd=>fHT c.t λt=>K e ⟨d,t⟩) a.bad) _ K
  cases g:Nat.beq b.length a.n with
  |false=>exact .inl rfl
  | true=>
   have j:b.length=a.n:=by simpa[beq_eq]using g
   obtain⟨m,i,k⟩:=qO b 0 xq (by have:=f.2.1;omega);refine .inr ⟨b,c,m,rfl,⟨j,f.2.1,λt=>?_⟩,?_⟩
   ·rw[k];split
    ·rfl
    ·next o=>rw[vv,gD,getElem?_eq_none (by omega)];rfl
   ·show vG b 0 xq (λe=>iX c.next λd=>fHT c.t λt=>K e ⟨d,t⟩)=_;rw[i,dJ,Lj]
theorem fm{d:Cx}{H:bY}(q:sK d H):∀(c:Code){e:Env}{l:List Value}{h:aa}{K:Exit->Env->aa->Bool},eF d.n e l->wV d.n d.bad (codeF c d e h K) (aQ d.P d.gl H d.N c l h) K
 |.skip,e,l,h,K,k=> .inr ⟨_,_,_,_,rfl,k,rfl⟩
 | .region p ops N,e,l,h,K,k=>by
  cases N with
  | true=>
   show wV d.n d.bad (fE (tE ops) (W0 d ops e h λe h=>K .normal e h) (Ih d ops (cD (fk ops)) e h λe h=>K .normal e h)) ((yN d.P d.gl H ops l h).map λr=>(.normal,r.1,r.2)) K;unfold yN
   cases U:tE ops with
   |true=>
    rw[if_pos rfl];rcases Sd k (ops:=ops) (h:=h) (K:=λe h=>K .normal e h)with i|⟨s,i,n,j,o,u⟩
    ·exact .inl i
    ·exact .inr ⟨.normal,s,i,n,by rw[j];rfl,o,u⟩
   |false=>
   rw[if_neg (by simp)];show wV d.n d.bad (Ih d ops (cD (fk ops)) e h λe h=>K .normal e h) _ K;rcases Pu q k (ops:=ops) (bf:=cD (fk ops)) (h:=h) (K:=λe h=>K .normal e h)with i|⟨s,i,n,j,o,u⟩
   ·exact .inl i
   ·exact .inr ⟨.normal,s,i,n,by rw[j];rfl,o,u⟩
  |false=>
   show wV d.n d.bad (Jp d ops ops.toList e h λe h=>K .normal e h) ((fP d.P d.gl H ops ops.toList l h).map λr=>(.normal,r.1,r.2)) K;rcases BT q ops.toList k (ops:=ops) (h:=h) (K:=λe h=>K .normal e h)with i|⟨s,i,n,j,o,u⟩
   ·exact .inl i
   ·exact .inr ⟨.normal,s,i,n,by rw[j];rfl,o,u⟩
 | .seq a b,e,l,h,K,k=>by
  show wV d.n d.bad (codeF a d e h λx e h=>ig x (codeF b d e h K) (λp=>K (.exit p) e h) (K x e h)) _ K;rcases fm q a k (h:=h) (K:=λx e h=>ig x (codeF b d e h K) (λp=>K (.exit p) e h) (K x e h))with i|⟨C,s,i,n,j,o,u⟩
  ·exact .inl i
  ·rw[u];dsimp only;rcases qM C (codeF b d n i K) (λp=>K (.exit p) n i) (K C n i)with⟨rfl,w⟩|⟨p,rfl,w⟩|⟨F,I,w⟩
   ·rw[w];simp only[aQ,j];exact fm q b o
   ·rw[w];exact .inr ⟨.exit p,s,i,n,by simp only[aQ,j],o,rfl⟩
   ·rw[w];refine .inr ⟨C,s,i,n,?_,o,rfl⟩;simp only[aQ,j]
    cases C<;>first|rfl|exact absurd rfl I
 |.cond c a b,e,l,h,K,k=>by
  show wV d.n d.bad (yM (NI d.gl e c) d.bad λt=>fE t (codeF a d e h K) (codeF b d e h K)) _ K;refine KX λt Q=>?_;rw[Bf k]at Q;simp only[aQ,Q]
  cases t with
  |true=>simp only[if_true];exact fm q a k
  |false=>simp only[false_eq_true,if_false];exact fm q b k
 | .block p a,e,l,h,K,k=>by
  show wV d.n d.bad (codeF a d e h λx e h=>ig x (K .normal e h) (λm=>fE (Nat.beq m p) (K .normal e h) (K (.exit m) e h)) (K x e h)) _ K;rcases fm q a k (h:=h) (K:=λx e h=>ig x (K .normal e h) (λm=>fE (Nat.beq m p) (K .normal e h) (K (.exit m) e h)) (K x e h))with i|⟨C,s,i,n,j,o,u⟩
  ·exact .inl i
  ·rw[u];dsimp only;rcases qM C (K .normal n i) (λm=>fE (Nat.beq m p) (K .normal n i) (K (.exit m) n i)) (K C n i)with⟨rfl,w⟩|⟨m,rfl,w⟩|⟨F,I,w⟩
   ·rw[w];exact .inr ⟨.normal,s,i,n,by simp only[aQ,j],o,rfl⟩
   ·rw[w];by_cases G:m=p
    ·subst G;refine .inr ⟨.normal,s,i,n,by simp only[aQ,j,if_true],o,?_⟩;rw[show Nat.beq m m=true by simp];rfl
    ·refine .inr ⟨.exit m,s,i,n,by simp only[aQ,j,if_neg G],o,?_⟩;have:Nat.beq m p=false:=by
      rw[Bool.eq_false_iff];intro M;exact G (by simpa[beq_eq]using M)
     rw[this];rfl
   ·rw[w];refine .inr ⟨C,s,i,n,?_,o,rfl⟩;simp only[aQ,j]
    cases C<;>first|rfl|exact absurd rfl (F _)
 |.loop c,e,l,h,K,k=>Em (λ{e l h K} k=>fm q c k) d.N k
 |.exit p,e,l,h,K,k=> .inr ⟨_,_,_,_,rfl,k,rfl⟩
 |.ret,e,l,h,K,k=> .inr ⟨_,_,_,_,rfl,k,rfl⟩
 |.label _,e,l,h,K,k=> .inr ⟨_,_,_,_,rfl,k,rfl⟩
 | .rangeFunc f J D y,e,l,h,K,k=>by
  show wV d.n d.bad (LC f J D y d e h K) _ K;unfold LC;rcases IJ (NI d.gl e f) d.bad _ with⟨i,_⟩|⟨S,first,z,i,j⟩
  ·rw[i];exact .inl rfl
  ·rw[j];rw[Bf k]at i
   cases S with
   | func g=>
    dsimp only[fnF];rcases abB D y d.bad (λL=>fE (Nat.blt g YB) (fE (qH d.P g)
     (tmF e d.n 0 λT=>xv (first.toList++[.func (.yield h.next) #[] #[]]++z.toList) λR=>uy (.loop .ready T J.toList D y L) h λi=>d.cf g R i λ_ j=>
      qj (j.get h.next) d.bad λE _ _ _ _ _=>N0 E d.bad λx=>HT.np none (pathOf h.next) j.t λt=>K x e ⟨j.next,t⟩) d.bad) d.bad)with o|⟨L,o⟩
    ·rw[o];exact .inl rfl
    ·rw[o]
     cases V:Nat.blt g YB with
     |false=>exact .inl rfl
     | true=>
      have P:g<YB:=by simpa[blt_eq]using V
      cases M:qH d.P g with
      |false=>exact .inl rfl
      | true=>
       dsimp only[fE];rw[VZ k,xw];have O:∀(B:bu)(K:aa->Bool),uy B h K=K (h.push B):=λB K=>zX (.push B) h K;rw[O];rcases q g (first.toList++[.func (.yield h.next) #[] #[]]++z.toList) (h.push (.loop .ready l J.toList D y L)) (λ_ j=>
        qj (j.get h.next) d.bad λE _ _ _ _ _=>N0 E d.bad λx=>HT.np none (pathOf h.next) j.t λt=>K x e ⟨j.next,t⟩)with u|⟨⟨v,j⟩,u,w⟩
       ·rw[u];exact .inl rfl
       ·rw[w];dsimp only;have A:aQ d.P d.gl H d.N (.rangeFunc f J D y) l h=(N3 (j.get h.next)).map λe=>(e,l,j.del h.next):=by
         simp only[aQ,i];rw[dif_pos L,if_pos ⟨P,M⟩,u]
        rcases vK (j.get h.next) d.bad (λE _ _ _ _ _=>N0 E d.bad λx=>HT.np none (pathOf h.next) j.t λt=>K x e ⟨j.next,t⟩)with F|⟨E,W,X,Z,b2,Y,F,I⟩
        ·rw[F];exact .inl rfl
        ·rw[I];rw[F]at A
         cases E with
         |ready=>exact .inr ⟨_,_,_,e,A,k,HT.eD _ _ _ _⟩
         |busy=>exact .inl rfl
         |ret=>exact .inr ⟨_,_,_,e,A,k,HT.eD _ _ _ _⟩
         |exit p=>exact .inr ⟨_,_,_,e,A,k,HT.eD _ _ _ _⟩
   |_=>exact .inl rfl
 |.scope _,_,_,_,_,_=> .inl rfl
 |.goto _,_,_,_,_,_=> .inl rfl
 |.refuse _,_,_,_,_,_=> .inl rfl
theorem wh{P:Program}{n:Nat}{e:Env}{f:List Value}{h:aa}{bad:Bool}(d:eF n e f):∀(l:List ResultVar)(K:List Value->Bool),Ref bad (zQ P e h bad l K) (cn P f h l) K
 |[],K=> .of rfl rfl
 |.tmp t::l,K=>by
  show Ref bad (jM (Env.get t e) λv=>zQ P e h bad l λb=>K (v::b)) _ K;rw[dX,d.2.2 t];rcases wh d l (λb=>K (f.getD t undef::b))with c|⟨b,c,g⟩
  ·exact .inl c
  ·exact .of (by simp only[cn,c];rfl) g
 |.cell a t::l,K=>by
  show Ref bad (C7 bad (ae P t h (Env.get a e)) λv=>zQ P e h bad l λb=>K (v::b)) _ K;refine gr λv i=>?_;rw[d.2.2 a]at i;rcases wh d l (λb=>K (v::b))with c|⟨b,c,g⟩
  ·exact .inl c
  ·exact .of (by simp only[cn,i,c];rfl) g
theorem Jz{n:Nat}:∀(a:List (Tmp×Value)){e:Env}{l:List Value},eF n e l->∃c,eF n c (ry l a)/\∀(K:Env->Bool),UL n a e K=K c
 |[],e,l,b=>⟨e,b,λ_=>rfl⟩
 |p::a,e,l,b=>by
  obtain⟨j,f,g⟩:=r9 b (some p.1) p.2;obtain⟨i,d,h⟩:=Jz a f;refine⟨i,d,λK=>?_⟩;show pI n (some p.1) e p.2 (λe=>UL n a e K)=_;rw[g,h]
theorem Nr{gl:Nat->Bool}{bad:Bool}{fl:Nat}{S:FuncId->List Value->aa->(Value->aa->Bool)->Bool}{D:bY}(W:∀f a h K,Ref bad (S f a h K) (D f a h) λr=>K r.1 r.2)(k:Nat)(a:List Value)(h:aa)(K:Value->aa->Bool):
  Ref bad (Hn (λnt=>⟨P,gl,S,fl,nt,bad⟩) bad k a h K) (oO (aQ P gl D fl) k a h) λr=>K r.1 r.2:=by
 unfold Hn;rcases vK (h.get k) bad _ with z|⟨st,C,L,M,q,ok,z,n⟩
 ·exact .inl z
 rw[n]
 cases st with
 |busy=>exact .inl rfl
 |ret=>exact .inl rfl
 |exit O=>exact .inl rfl
 |ready=>
 show Ref bad (fE (Nat.beq a.length L.length) _ bad) _ _;refine cZ (λw=>?_) (λ_=> .bad);have w:a.length=L.length:=by simpa[beq_eq]using w
 rw[dJ];refine cZ (λN=>?_) (λ_=> .bad);have N:C.length<=256:=by simpa[ble_eq]using N
 obtain⟨e0,h3,h4⟩:=qO C 0 xq (by omega);rw[h3];have X:eF C.length e0 C:=by
  refine⟨rfl,N,λt=>?_⟩;rw[h4];split
  ·rfl
  ·next ht=>rw[vv,gD,getElem?_eq_none (by omega)];rfl
 obtain⟨e1,V,h5⟩:=Jz (L.zip a) X;rw[h5]
 let J:Cx:=⟨P,gl,S,fl,C.length,bad⟩
 have G:sK J D:=λf a h K=>W f a h K;rcases fm G M (h:=h) (K:=λx e z=>ig x
   (qj (z.get k) bad λv p u i d s=>Ci v bad (HT.np (some (.loop .busy p u i d s)) (pathOf k) z.t λt=>codeF q J e ⟨z.next,t⟩ λx _ n=>
    qj (n.get k) bad λ_ j l g c m=>TQ x bad λb o=>HT.np (some (.loop o j l g c m)) (pathOf k) n.t λt=>K (.bool b) ⟨n.next,t⟩))
   (λ_=>bad) bad) V with T|⟨ex,Z,A,e2,T,x1,h7⟩
 ·exact .inl T
 refine(show Ref bad _ _ _↔_ from Iff.rfl).2 ?_;rw[h7];dsimp only
 cases ex with
 | normal=>
  dsimp only[ig];rcases vK (A.get k) bad (λv p u i d s=>Ci v bad (HT.np (some (.loop .busy p u i d s)) (pathOf k) A.t λt=>codeF q J e2 ⟨A.next,t⟩ λx _ n=>
    qj (n.get k) bad λ_ j l g c m=>TQ x bad λb o=>HT.np (some (.loop o j l g c m)) (pathOf k) n.t λt=>K (.bool b) ⟨n.next,t⟩))with Q|⟨v,p,u,i,d,s,Q,h9⟩
  ·exact .inl Q
  rw[h9]
  cases v with
  |busy=>exact .inl rfl
  |ret=>exact .inl rfl
  |exit O=>exact .inl rfl
  |ready=>
  dsimp only[Ci];rw[HT.eD];rcases fm G q (h:=A.set k (.loop .busy p u i d s)) (K:=λx _ n=>
    qj (n.get k) bad λ_ j l g c m=>TQ x bad λb o=>HT.np (some (.loop o j l g c m)) (pathOf k) n.t λt=>K (.bool b) ⟨n.next,t⟩) x1 with I|⟨B,l2,F,e3,I,x2,U⟩
  ·exact .inl I
  ·refine(show Ref bad (codeF q J e2 (A.set k (.loop .busy p u i d s)) _) _ _ from ?_);rw[U];dsimp only;rcases vK (F.get k) bad (λ_ j l g c m=>TQ B bad λb o=>HT.np (some (.loop o j l g c m)) (pathOf k) F.t λt=>K (.bool b) ⟨F.next,t⟩)with H|⟨o,j,l,g,c,m,H,x0⟩
   ·exact .inl H
   rw[x0];have y:∀b E,I3 B=some (b,E)->oO (aQ P gl D fl) k a h=some (.bool b,F.set k (.loop E j l g c m)):=λb E hl=>by
    have Y:aQ P gl D fl M (ry C (L.zip a)) h=some (.normal,Z,A):=T;have R:aQ P gl D fl q Z (A.set k (.loop .busy p u i d s))=some (B,l2,F):=I;unfold oO;simp only[z,w,if_true,Y,Q,R,H,hl]
   cases B with
   |normal=>exact .of (y true .ready rfl) (HT.eD _ _ _ _)
   |ret=>exact .of (y false .ret rfl) (HT.eD _ _ _ _)
   |exit O=>exact .of (y false (.exit O) rfl) (HT.eD _ _ _ _)
   |_=>exact .inl rfl
 |_=>exact .inl rfl
def uM(bad:Bool)(c:FuncId->Option (nz))(e:FuncId->Option kS):Prop:=
 ∀f,(c f=none/\e f=none)\/ ∃p q,c f=some p/\e f=some q/\
  ∀(d:FuncId->List Value->aa->(Value->aa->Bool)->Bool)(b:bY),(∀f a h K,Ref bad (d f a h K) (b f a h) λr=>K r.1 r.2)->∀a h K,Ref bad (p d a h K) (q b a h) λr=>K r.1 r.2
theorem D0{P:Program}{gl:Nat->Bool}{bad:Bool}{i:FuncId->Option (nz)}{o:FuncId->Option kS}(H:uM bad i o):∀n f a h K,Ref bad (sS P gl i bad n f a h K) (bn P gl o n f a h) λr=>K r.1 r.2
 |0,_,_,_,_=> .bad
 | n+1,f,a,h,K=>by
  have A:=D0 H (P:=P) (gl:=gl) n;show Ref bad (fE (Nat.ble YB f) (iX (f-YB) λk=>Hn (λO=>⟨P,gl,sS P gl i bad n,n,O,bad⟩) bad k a h K) (Option.rec (motive:=λ_=>Bool)
   (C7 bad (P.funcs[f]?) λb=>C7 bad b.body λc=>fE (Nat.ble b.ntmps 256&&Nat.ble a.length b.ntmps)
    (vG a 0 xq λe=>codeF c ⟨P,gl,sS P gl i bad n,n,b.ntmps,bad⟩ e h λx e h=>Zi x bad (zQ P e h bad b.results.toList λd=>K (bh d) h)) bad)
   (λp=>p (sS P gl i bad n) a h K) (i f))) _ _
  refine cZ (λj=>?_) (λj=>?_)
  ·have j:YB<=f:=by simpa[ble_eq]using j
   rw[dJ];rcases Nr (P:=P) (gl:=gl) (fl:=n) A (f-YB) a h K with m|⟨r,m,s⟩
   ·exact .inl m
   ·exact .of (r:=r) (by simp only[bn,if_pos j];exact m) s
  have j:¬YB<=f:=λN=>by
   have:Nat.ble YB f=true:=by simpa[ble_eq]using N
   rw[j]at this;cases this
  rcases H f with⟨m,s⟩|⟨p,q,m,s,y⟩
  ·rw[m];refine gr λb E=>gr λc V=>cZ (λC=>?_) (λ_=> .bad);simp only[and_eq_true,ble_eq]at C;obtain⟨w,y,u⟩:=qO a 0 xq (by omega);rw[y];have U:eF b.ntmps w (a++List.replicate (b.ntmps-a.length) undef):=by
    refine⟨by simp;omega,C.1,λt=>?_⟩;rw[u];split
    ·next T=>rw[Nat.sub_zero,gD,gD,List.getElem?_append_left (by omega)]
    ·next T=>
     rw[vv,gD,List.getElem?_append_right (by omega),getElem?_replicate];split<;>rfl
   let L:Cx:=⟨P,gl,sS P gl i bad n,n,b.ntmps,bad⟩
   have G:sK L (bn P gl o n):=λf a h K=>A f a h K;have D:=fm G c (h:=h) (K:=λx e h=>Zi x bad (zQ P e h bad b.results.toList λd=>K (bh d) h)) (e:=w) (l:=a++List.replicate (b.ntmps-a.length) undef) U;rcases D with g|⟨v,R,g,J,S,Q,M⟩
   ·exact .inl g
   ·rw[show codeF c ⟨P,gl,sS P gl i bad n,n,b.ntmps,bad⟩ w h (λx e h=>Zi x bad (zQ P e h bad b.results.toList λd=>K (bh d) h))=_ from M];have z:aQ P gl (bn P gl o n) n c (a++List.replicate (b.ntmps-a.length) undef) h=some (v,R,g):=S;have fin:v = .normal\/v = .ret->Ref bad (zQ P J g bad b.results.toList λd=>K (bh d) g) (bn P gl o (n+1) f a h) λr=>K r.1 r.2:=λF=>by
     rcases wh Q b.results.toList (λd=>K (bh d) g) (P:=P) (h:=g) (bad:=bad)with B|⟨d,B,I⟩
     ·exact .inl B
     ·refine .of (r:=(bh d,g)) ?_ I;simp only[bn,if_neg j,s,E,V,z];rcases F with rfl|rfl<;>simp only[B,map_some]
    cases v with
    |normal=>exact fin (.inl rfl)
    |ret=>exact fin (.inr rfl)
    |_=>exact .bad
  ·rw[m];rcases y (sS P gl i bad n) (bn P gl o n) A a h K with u|⟨r,u,g⟩
   ·exact .inl u
   ·exact .of (r:=r) (by simp only[bn,if_neg j,s];exact u) g
variable{f:FuncId}{F:Func}
section
variable {β:cI} {P:Program} {gl:Nat->Bool}
theorem te{e:Array Value->Sem Value}{p:kS}(l:P.funcs[f]?=some F)(g:(F.name == "runtime.NumGoroutine")=false) (m:F.body.isNone=true) (n:Extern.findNext F=none) (u:Extern.find F=some e)
  (h:∀k b h v i,p k b h=some (v,i)->∀β w (a:Array Value),iC β h w->aU β b a.toList->∃j d c,(e a).run P w = .ok j d/\Step β h w c i d/\aB c v j):gT P gl f p:=by
 intro k _ b r v i y β w a q _ x;obtain⟨j,d,c,s,t,o⟩:=h k b r v i y β w a q x;refine⟨F,l,.inr ⟨j,d,c,?_,t,o⟩⟩;rw[run_callFunc_extern l g m n u,s];rfl
def jX:kS:=λ_ a h=>match a with
 |[v]=>some (v,h)
 |_=>none
theorem yW{fn:Func}(i:P.funcs[f]?=some fn)(a:(fn.name == "runtime.NumGoroutine")=false) (g:fn.body.isNone=true) (d:Extern.findNext fn=none) (l:Extern.find fn=some Extern.AbiNoEscape.same):gT P gl f jX:=by
 refine te i a g d l λq n h v p c β w b k m=>?_;unfold jX at c;split at c
 ·next u=>
  simp only[Option.some.injEq,Prod.mk.injEq]at c;obtain⟨rfl,rfl⟩:=c;obtain⟨e,r,o,j,d⟩:=m.cz;obtain rfl:=d.dL;obtain rfl:b = #[e]:=by
   have:=congrArg List.toArray o;simpa using this
  exact⟨e,w,β,rfl,Step.refl k,j⟩
 grind
noncomputable def findAt(c:Nat):List UInt8->Nat->Int
 |[],_=> -1
 |b::l,i=>if b.toNat=c then i else findAt c l (i+1)
noncomputable def hJ:kS:=λ_ a h=>match a with
 |[.string s,.int .u8 c]=>if 0<=c/\c<256 then some (.int .i64 (findAt c.toNat s.data.toList 0),h)else none
 |_=>none
theorem PD(s:ByteArray)(c:Nat)(p:c<256):findAt c s.data.toList 0=firstIdx s c.toUInt8:=by
 have f:∀(l:List UInt8)(i:Nat),s.data.toList.drop i=l->findAt c l i=match (List.range' i l.length).find? λj=>s[j]! == c.toUInt8 with|some j=>(j:Int)|none=> -1:=by
  intro l
  induction l with
  |nil=>intro i _;rfl
  | cons b l m=>
   intro i d;have e:i<s.data.toList.length:=by
    rcases lt_or_ge i s.data.toList.length with h|h
    ·exact h
    ·rw[List.drop_eq_nil_of_le h]at d;cases d
   have k:s[i]! = b:=by
    have n:s.data.toList[i]?=some b:=by
     have:(s.data.toList.drop i)[0]?=some b:=by rw[d];rfl
     rw[List.getElem?_drop]at this;simpa using this
    have g:i<s.size:=by simpa using e
    rw[getElem!_pos s i g];have:s.data[i]?=some b:=by rw[<-getElem?_toList];exact n
    rw[getElem?_eq_getElem (by simpa using e)]at this;exact oI this
   have o:s.data.toList.drop (i+1)=l:=by rw[<-List.drop_drop,d];rfl
   simp only[findAt,length_cons,List.range'_succ,List.find?_cons,k];by_cases a:b.toNat=c
   ·have:(b==c.toUInt8)=true:=by
     rw[beq_iff_eq,<-UInt8.toNat_inj];simp[a];omega
    rw[if_pos a,this]
   ·have:(b==c.toUInt8)=false:=by
     rw[beq_eq_false_iff_ne];rintro rfl;apply a;simp;omega
    rw[if_neg a,this];exact m (i+1) o
 rw[f s.data.toList 0 rfl];unfold firstIdx;rw[List.range_eq_range',show s.data.toList.length=s.size by simp];rfl
theorem vF{fn:Func}(j:P.funcs[f]?=some fn)(b:(fn.name == "runtime.NumGoroutine")=false) (i:fn.body.isNone=true) (e:Extern.findNext fn=none) (n:Extern.find fn=some Extern.BytealgIndexByte.indexByte):gT P gl f hJ:=by
 refine te j b i e n λy p h v u a β w d l o=>?_;unfold hJ at a;split at a
 ·next s c=>
  split at a
  ·next A=>
   simp only[Option.some.injEq,Prod.mk.injEq]at a;obtain⟨rfl,rfl⟩:=a;obtain⟨x,r,q,k,e⟩:=o.cz;obtain⟨t,z,rfl,m,g⟩:=e.cz;obtain rfl:=g.dL;obtain rfl:=k.ez;obtain rfl:=m.cV;obtain rfl:d = #[.string s,.int .u8 c]:=by
    have:=congrArg List.toArray q;simpa using this
   refine⟨_,w,β,run_indexByte_string s c w,Step.refl l,?_⟩;rw[PD s c.toNat (by omega)];exact .int _ _
  ·cases a
 grind
section
noncomputable def D9(bad:Bool):nz:=λ_ a h K=>List.rec (motive:=λ_=>Bool) bad (λv r _=>List.rec (motive:=λ_=>Bool) (K v h) (λ_ _ _=>bad) r) a
theorem Dd(bad:Bool)(c:FuncId->List Value->aa->(Value->aa->Bool)->Bool)(b:bY)(a:List Value)(h:aa)(K:Value->aa->Bool):Ref bad (D9 bad c a h K) (jX b a h) λr=>K r.1 r.2:=by
 match a with
 |[]=>exact .inl rfl
 |[v]=>exact .of rfl rfl
 |v::u::r=>exact .inl rfl
noncomputable def Th(c:Nat)(l:List UInt8):Nat->(Int->Bool)->Bool:=List.rec (motive:=λ_=>Nat->(Int->Bool)->Bool) (λ_ K=>K (-1)) (λb _ a i K=>iX i λi=>fE (Nat.beq b.toNat c) (K (.ofNat i)) (a (i+1) K)) l
theorem IB(c:Nat):∀(l:List UInt8)(i:Nat)(K:Int->Bool),Th c l i K=K (findAt c l i)
 |[],_,_=>rfl
 | b::l,i,K=>by
  show iX i (λi=>fE (Nat.beq b.toNat c) (K (.ofNat i)) (Th c l (i+1) K))=_;rw[dJ,IB c l];simp only[findAt];by_cases a:b.toNat=c
  ·rw[if_pos a,show Nat.beq b.toNat c=true by simpa[beq_eq]using a];rfl
  ·rw[if_neg a];have:Nat.beq b.toNat c=false:=by
    rw[Bool.eq_false_iff];intro d;exact a (by simpa[beq_eq]using d)
   rw[this];rfl
noncomputable def tN(bad:Bool):nz:=λ_ a h K=>match a with
 |[.string s,.int .u8 (.ofNat c)]=>fE (Nat.blt c 256) (Th c s.data.toList 0 λi=>K (.int .i64 i) h) bad
 |_=>bad
theorem Bi(bad:Bool)(e:FuncId->List Value->aa->(Value->aa->Bool)->Bool)(d:bY)(a:List Value)(h:aa)(K:Value->aa->Bool):Ref bad (tN bad e a h K) (hJ d a h) λr=>K r.1 r.2:=by
 unfold tN;split
 ·next s c=>
  refine cZ (λb=>?_) (λ_=> .bad);have b:c<256:=by simpa[blt_eq]using b
  rw[IB];refine .of (r:=(.int .i64 (findAt c s.data.toList 0),h)) ?_ rfl;simp only[hJ];rw[if_pos ⟨by simp,by simp;omega⟩];rfl
 ·exact .bad
end
def β0:cI:=λ_=>none
def mJ:Nat->Bool:=λ_=>false
theorem aa.get_nil(n k:Nat):(⟨n,.nil⟩:aa).get k=none:=HT.get_nil _
theorem GX(n:Nat)(w:World):iC β0 ⟨n,.nil⟩ w:=
 {
  lt:=λk a h=>nomatch h
  blk:=λk B a h=>by grind[aa.get_nil]
  own:=λk c B d a b _ h=>by grind[aa.get_nil]
  wf:=λk B h=>by grind[aa.get_nil] }
theorem FT:Gl mJ β0:=λg h=>by cases h
open Go.RowKit in
theorem sP{n:Nat}{w a:World}{b:cI}{c:aa}(s:Step β0 ⟨n,.nil⟩ w b c a):Below w.heap.size w a:=
 ⟨s.os,s.tape.1,s.output,s.size,λk d=>s.kept k d λ⟨k,B,f,e,_⟩=>by grind[aa.get_nil]⟩
end
end Go.Ab
end
section
namespace Go.Ab
open Go Go.RowKit
variable{h:aa}{W:World}{v:Value}{w:Value}{f:FuncId}
section
variable {β:cI} {P:Program} {gl:Nat->Bool}
theorem od{e:World}(c:iC β h W)(a:Below W.heap.size W e)(j:W.drawn<=e.drawn):Step β h W β h e:=
 {
  le:=β.le_refl,next:=Nat.le_refl _
  na:={ lt:=λk d i=>⟨(c.lt k d i).1,lt_of_lt_of_le (c.lt k d i).2 a.size⟩,blk:=λk B d f g=>(c.blk k B d f g).of_heap (a.block _ (c.lt k d g).2),own:=c.own,wf:=c.wf }
  size:=a.size,os:=a.os,tape:=⟨a.tape,j⟩,output:=a.output
  kept:=λb f _=>a.block b f
  back:=λ_ _ h=>h,fresh:=λ_ _ h=> .inl h,keys:=λ_ B h _=>⟨B,h⟩ }
def oh(P:Program)(f:FuncId)(a:List Value)(v:Value):Prop:=
 ∃c,P.funcs[f]?=some c/\c.body.isSome=true/\∀w,Calls P f a.toArray w λe b=>e = .returned v/\Below w.heap.size w b/\w.drawn<=b.drawn
theorem aU.qX{β:cI}{l:List Value}(h:l.all bare=true):aU β l l:=by
 induction l with
 |nil=>exact .nil β
 |cons v l a=>
  simp only[all_cons,and_eq_true]at h;exact .cons (.vV h.1) (a h.2)
theorem aB.rL{β:cI}(a:bare v=true)(h:aB β v w):w=v:=by
 cases h<;>first|rfl|(simp[bare]at a)
theorem aU.HX{β:cI}:∀{l l':List Value},l.all bare=true->aU β l l'->l'=l
 |[],l',_,h=>h.dL
 |v::l,l',a,h=>by
  simp only[all_cons,and_eq_true]at a;obtain⟨d,r,rfl,b,c⟩:=h.cz;rw[b.rL a.1,c.HX a.2]
theorem aB.UA{β:cI}(e:plain v=true)(h:aB β v w):w=v:=by
 have d:∀{a b:Array Value},gN β a b->(∀x∈a.toList,∀y,aB β x y->y=x)->b=a:=λ{a b} c f=>by
  refine Array.ext c.1.symm λi k l=>?_;have:=c.2 i a[i] b[i] (getElem?_eq_getElem l) (getElem?_eq_getElem k);exact f _ (by simp) _ this
 unfold plain at e;split at e
 ·next cs=>
  obtain⟨b,rfl,c⟩:=h.lR;rw[d c λx f y g=>g.rL (all_eq_true.1 e x f)]
 ·next cs=>
  obtain⟨b,rfl,c⟩:=h.rU;rw[d c λx f y g=>?_];have:=all_eq_true.1 e x f;split at this
  ·next o=>
   obtain⟨p,rfl,j⟩:=g.lR;rw[d j λz n u m=>m.rL (all_eq_true.1 this z n)]
  ·exact g.rL this
 ·exact h.rL e
theorem F9{m:bY}(i:oe P mJ m){f:FuncId}{b:Func}{a:List Value}{n:Nat}{v:Value}{l:aa}(x:m f a ⟨n,.nil⟩=some (v,l))(t:a.all bare=true)(p:plain v=true)(r:f<YB)(d:P.funcs[f]?=some b)(c:b.body.isSome=true)
  (s:dI P):oh P f a v:=by
 refine⟨b,d,c,λw=>?_⟩;obtain⟨y,z,h⟩:=i.fn f a _ v l r x β0 w a.toArray (GX n w) FT (by simpa using aU.qX t);rcases h with⟨_,h⟩|⟨u,o,g,j,_,_⟩
 ·refine h.mono ?_;rintro e o ⟨u,g,rfl,k,q⟩;exact⟨by rw[q.UA p],sP k,k.tape.2⟩
 ·rw[eB s d c]at j
  cases j
def zY:List UInt8->List UInt8->Bool
 |[],[]=>true
 |a::x,b::y=>Nat.beq a.toNat b.toNat&&zY x y
 |_,_=>false
theorem AP:∀{a b:List UInt8},zY a b=true->a=b
 |[],[],_=>rfl
 |a::x,b::y,h=>by
  simp only[zY,and_eq_true,beq_eq]at h;rw[UInt8.toNat_inj.1 h.1,AP h.2]
noncomputable def xg:Value->Value->Bool
 |.bool a,.bool b=>a==b
 |.int k a,.int c b=>Yl k c&&NX a b
 |.string a,.string b=>zY a.data.toList b.data.toList
 |_,_=>false
theorem DW{a b:Value}(h:xg a b=true):a=b:=by
 unfold xg at h;split at h
 ·rw[beq_iff_eq.1 h]
 ·simp only[and_eq_true,Bv,beq_iff_eq]at h;rw[FV h.1,h.2]
 ·next a b=>
  have h:=AP h;obtain⟨⟨a⟩⟩:=a;obtain⟨⟨b⟩⟩:=b;simp only at h;rw[h]
 ·cases h
noncomputable def oX:List Value->List Value->Bool
 |[],[]=>true
 |a::x,b::y=>xg a b&&oX x y
 |_,_=>false
theorem wZ:∀{a b:List Value},oX a b=true->a=b
 |[],[],_=>rfl
 |a::x,b::y,h=>by
  simp only[oX,and_eq_true]at h;rw[DW h.1,wZ h.2]
theorem HW{a b:Value}(h:xg a b=true):bare b=true:=by
 unfold xg at h;split at h<;>first|rfl|cases h
theorem uX:∀{a b:List Value},oX a b=true->b.all bare=true
 |[],[],_=>rfl
 |a::x,b::y,h=>by
  simp only[oX,and_eq_true]at h;simp only[all_cons,and_eq_true];exact⟨HW h.1,uX h.2⟩
noncomputable def GG:Value->Value->Bool
 |.agg a,.agg b=>oX a.toList b.toList
 |a,b=>xg a b
noncomputable def Aj:List Value->List Value->Bool
 |[],[]=>true
 |a::x,b::y=>GG a b&&Aj x y
 |_,_=>false
noncomputable def DS:Value->Value->Bool
 |.tuple a,.tuple b=>Aj a.toList b.toList
 |a,b=>GG a b
theorem Si{a b:Array Value}(h:a.toList=b.toList):a=b:=by
 have:=congrArg List.toArray h;simpa using this
theorem Ez{a b:Value}(h:GG a b=true):a=b:=by
 unfold GG at h;split at h
 ·rw[Si (wZ h)]
 ·exact DW h
theorem BY:∀{a b:List Value},Aj a b=true->a=b
 |[],[],_=>rfl
 |a::x,b::y,h=>by
  simp only[Aj,and_eq_true]at h;rw[Ez h.1,BY h.2]
theorem Sc{a b:Value}(h:DS a b=true):a=b:=by
 unfold DS at h;split at h
 ·rw[Si (BY h)]
 ·exact Ez h
noncomputable def look:List (List Value×Value)->List Value->Option Value
 |[],_=>none
 |(a,v)::r,b=>if oX a b then some v else look r b
noncomputable def EJ(b:List (List Value×Value)):kS:=λ_ a h=>(look b a).map λv=>(v,h)
def qE(P:Program)(f:FuncId)(a:List (List Value×Value)):Prop:=∀r∈a,oh P f r.1 r.2/\plain r.2=true
theorem I2:∀{c:List (List Value×Value)}{b:List Value}{v:Value},look c b=some v->(b,v)∈c/\b.all bare=true
 |[],_,_,h=>nomatch h
 | (a,u)::r,b,v,h=>by
  simp only[look]at h;split at h
  ·next d=>
   obtain rfl:=oI h;rw[wZ d];exact⟨by simp,uX d⟩
  ·obtain⟨e,f⟩:=I2 h;exact⟨by simp[e],f⟩
theorem YJ{g:List (List Value×Value)}(y:qE P f g):gT P gl f (EJ g):=by
 intro B _ i h v A k β w b r _ x;unfold EJ at k;obtain⟨u,t,j⟩:=map_eq_some_iff.1 k;simp only[Prod.mk.injEq]at j;obtain⟨rfl,rfl⟩:=j;obtain⟨o,l⟩:=I2 t;obtain⟨⟨m,n,d,a⟩,p⟩:=y _ o;refine⟨m,n,.inl ⟨d,?_⟩⟩;have c:b=i.toArray:=by
  have:=aU.HX l x;simpa using congrArg List.toArray this
 rw[c];refine(a w).mono ?_;rintro e z ⟨rfl,s,q⟩;exact⟨u,β,rfl,od r s q,.mK p⟩
section
noncomputable def Td(bad:Bool)(b:List (List Value×Value)):nz:=λ_ a h K=>List.rec (motive:=λ_=>Bool) bad (λr _ c=>fE (oX r.1 a) (jM r.2 λv=>K v h) c) b
theorem Py(bad:Bool)(c:List (List Value×Value))(e:FuncId->List Value->aa->(Value->aa->Bool)->Bool)(f:bY)(b:List Value)(h:aa)(K:Value->aa->Bool):Ref bad (Td bad c e b h K) (EJ c f b h) λr=>K r.1 r.2:=by
 unfold EJ
 induction c with
 |nil=>exact .inl rfl
 |cons r c g=>
  obtain⟨a,v⟩:=r;show Ref bad (fE (oX a b) (jM v λv=>K v h) (Td bad c e b h K)) _ _;simp only[look];refine cZ (λd=>?_) (λd=>?_)
  ·rw[dX,if_pos d];exact .of rfl rfl
  ·rw[if_neg (by rw[d];simp)];exact g
end
theorem Uj{gl:Nat->Bool}{d:FuncId->Option (nz)}{g:FuncId->Option kS}(j:uM false d g){n:Nat}{f:FuncId}{a:List Value}{h:aa}{v:Value}(i:sS P gl d false n f a h (λu _=>DS v u)=true):
  ∃c,bn P gl g n f a h=some (v,c):=by
 rcases D0 (P:=P) (gl:=gl) j n f a h (λu _=>DS v u)with b|⟨⟨u,c⟩,b,e⟩
 ·rw[i]at b;cases b
 ·rw[i]at e;exact⟨c,by rw[b,Sc e.symm]⟩
theorem PV(l:dI P){b:FuncId->Option (nz)}{d:FuncId->Option kS}(p:uM false b d){n:Nat}(c:oe P mJ (bn P mJ d n)){f:FuncId}{a:List Value}{v:Value}
  (q:sS P mJ b false n f a ⟨0,.nil⟩ (λu _=>DS v u)=true) (g:(a.all bare&&plain v&&Nat.blt f YB&&qH P f)=true):oh P f a v:=by
 simp only[and_eq_true]at g;obtain⟨⟨⟨k,m⟩,j⟩,o⟩:=g;obtain⟨r,i,h⟩:=yK o;obtain⟨s,e⟩:=Uj p q;exact F9 c e k m (by simpa[blt_eq]using j) i h l
theorem pU:qE P f []:=λ_ h=>by cases h
theorem lq{a:List Value}{b:List (List Value×Value)}(h:oh P f a v)(d:plain v=true)(e:qE P f b):qE P f ((a,v)::b):=λr c=>by
 rcases mem_cons.1 c with rfl|c
 ·exact⟨h,d⟩
 ·exact e r c
end
variable{n:Nat}{V:Array Value}
section
variable {β:cI} {P:Program} {gl:Nat->Bool}
noncomputable def um(P:Program)(gl:Nat->Bool)(e:Func)(k b:Code)(d:Tmp):kS:=λi a h=>
 match aQ P gl i 40 k (a++List.replicate (e.ntmps-a.length) undef) h with
 | some (.normal,f,l)=>if d<f.length then
   match aQ P gl i 40 b (f.set d fs) l with
   |some (.ret,c,g)=>(cn P c g e.results.toList).map λj=>(bh j,g)
   |_=>none
  else none
 |_=>none
theorem vc{fn:Func}{c:Code}{u:FrameMode}{Bool:Ending->FrameMode->World->Prop}(l:P.funcs[f]?=some fn)(s:fn.body=some c)
  (h:∀(a:Frame)(cs:List Frame),a.mode=u->c.wpS P (bodyPostS P fn a cs Bool) { tmps:=V++Array.replicate (fn.ntmps-V.size) undef,defers:=[] } (a::cs) W):CallsDIn Fence.wide n P f V u W Bool:=by
 refine⟨trivial,λa cs t _=>?_⟩;have r:Frame.enter P f V .deferred=({ (default:Frame)with fn:=f,kind:= .deferred }:Frame).at { tmps:=V++Array.replicate (fn.ntmps-V.size) undef,defers:=[] } [.code c]:=by
  simp[Frame.enter,Frame.at,l,s]
 obtain⟨e,x,w,k,i,b⟩:=h a cs t { (default:Frame)with fn:=f,kind:= .deferred } [] rfl rfl;rw[<-r]at b;rcases e with _|_|_|_|m|_
 ·obtain⟨j,d,rfl,v,q,g⟩:=i;exact⟨.returned v,d,k,_,g,comesIn_wide.2 (Steps.trans b (.one step_end)),rfl,rfl,rfl,j,fn,l,q⟩
 ·exact i.elim
 ·exact i.elim
 ·obtain⟨j,d,rfl,v,q,g⟩:=i;obtain⟨p,o⟩:=b;exact⟨.returned v,d,k,_,g,comesIn_wide.2 o,rfl,rfl,rfl,j,fn,l,q⟩
 ·obtain⟨j,d,rfl,g⟩:=i;obtain⟨p,o⟩:=b;exact⟨.panicked m,d,k,_,g,comesIn_wide.2 o,rfl,rfl,rfl,j,fn,l⟩
 ·obtain⟨d,g⟩:=i;exact⟨.outgrown,d,k,{ (default:Frame)with fn:=f,kind:= .deferred },g,comesIn_wide.2 (b.resolve_left (by simp)),rfl,rfl,trivial⟩
theorem nG{F:Fence}{n:Nat}{l:Func}{e i:cI}{h q:aa}{d:World}{g:Array Value}{Bool:Ending->World->Prop}{s:List Deferred}:
  ∀(f:List Nat)(c:World),f.Nodup->(∀b∈f,d.heap.size<=b/\c.heap[b]?=some (.deferred (some [])))->Step e h d i q c->
   (∀a,Step e h d i q a->(∀b,b∉f->a.heap[b]?=c.heap[b]?)->LeavesInM F n P l g Bool s .returning a)->LeavesInM F n P l g Bool (f.map Ge++s) .returning c
 |[],c,_,_,k,j=>j c k λ_ _=>rfl
 | b::f,c,v,u,k,j=>by
  obtain⟨w,p⟩:=u b (by simp);obtain⟨y,o⟩:=nodup_cons.1 v;refine⟨by simp,.inl ⟨b,_,rfl,run_takeDeferred p,?_⟩⟩;refine nG f _ o (λx z=>?_) (EU k w p) λa r t=>j a r λx m=>?_
  ·grind[World.putObj_heap_other]
  ·simp only[mem_cons,not_or]at m
   grind[World.putObj_heap_other]
theorem Ie(I:dI P){fW j:FuncId}{s Y:Func}{N l:Code}{i1:Nat}{p m:Oper}{d:Tmp}{g:Array Operand}
  (hf:P.funcs[fW]?=some s) (hb:s.body=some (.seq N (.seq (.region i1 #[p,m] false) l)))
  (W:p.op = .makeFunc (.func j) #[] g) (z1:p.dst=some d) (x8:p.guard=none) (y6:m.op = .defer { callee:= .value (.tmp d),args:= #[],argTypes:= #[] }) (z6:m.guard=none) (z3:m.dst=none)
  (z7:P.funcs[j]?=some Y) (z4:Y.body.isSome=true)
  (R:∀(args:Array Value)(w:World),args.size=g.size->CallsDIn Fence.wide 0 P j args .returning w λe u' w'=>(∃v,e = .returned v)/\u' = .returning/\Below w.heap.size w w'/\w.drawn<=w'.drawn)
  (y0:bV N=true) (y3:bV l=true):gT P gl fW (um P gl s N l d):=by
 intro cf A args h v h' z β w o hs hg ha;refine⟨s,hf,.inl ⟨by simp[hb],?_⟩⟩;unfold um at z;split at z
 ·next tm H y7=>
  split at z
  ·next x6=>
   split at z
   ·next z9 B O=>
    obtain⟨vs,x4,he⟩:=map_eq_some_iff.1 z;simp only[Prod.mk.injEq]at he;obtain⟨rfl,rfl⟩:=he;refine(callsIn_wide (n:=0)).1 (callsIn_of_wp_marks (F:=Fence.wide) hf hb trivial ?_);have x1:∀k,aU β (List.replicate k undef) (List.replicate k undef):=λk=>⟨rfl,λi v v' H B=>by
     rw[getElem?_replicate]at H B;split at H
     ·next hi=>rw[if_pos hi]at B;obtain rfl:=oI H;obtain rfl:=oI B;exact .undef β
     ·cases H⟩
    have ht:aU β (args++List.replicate (s.ntmps-args.length) undef) (o++Array.replicate (s.ntmps-o.size) undef).toList:=by
     have:o.size=args.length:=by rw[ha.1];simp
     rw[this];simp only[Array.toList_append,Array.toList_replicate];exact ha.append (x1 _)
    refine wpIn_seq ?_;refine vf (r:=none) I A N (.inl rfl) (iM (lN I _ A) y0) _ y7 hs hg ht λf x z0 q X z2=>?_;refine wpIn_seq (wpIn_region ?_);have y5:d<f.tmps.size:=by have:=X.1;rw[<-length_toList,<-this];exact x6
    have y8:(f.put (some d) (.func (.func j) #[] (g.map f.eval))).eval (.tmp d) = .func (.func j) #[] (g.map f.eval):=by
     simp[Act.put,Act.eval,y5]
    have y2:Region.wanted p (yielded #[p,m] f.tmps)=true:=by simp[Region.wanted,x8]
    have x7:∀t,Region.wanted m (yielded #[p,m] t)=true:=λt=>by simp[Region.wanted,z6]
    show wpOpsIn (ij none) 0 P #[p,m] _ [0,1] f x;simp only[wpOpsIn,List.getElem?_toArray,List.getElem?_cons_zero,List.getElem?_cons_succ,y2,if_true];refine⟨λ_ _=>trivial,?_⟩;rw[Oper.semAt_eq _ _ _ (λc hc=>by rw[W]at hc;cases hc)];have Q:(execOp f.eval p).run P x = .ok (.value (.func (.func j) #[] (g.map f.eval))) x:=by
     unfold execOp;simp[W,Instr.makeFunc]
    rw[Q];rw[Oper.uponIn_value];rw[z1,if_pos (x7 _)];refine⟨λ_ _=>trivial,?_⟩;have T:(m.semAt (ij none).round (f.put (some d) (.func (.func j) #[] (g.map f.eval))).eval).run P x = .ok (.defer { target:= .fn (.func j) (g.map f.eval),args:= #[] }) x:=by
     show(execOp (f.put (some d) (.func (.func j) #[] (g.map f.eval))).eval m).run P x=_;unfold execOp;simp only[y6,resolve,y8,Deferred.ofValue,run_bind,Sem.run_pure,andThen_ok];simp
    rw[T];show Code.wpIn (ij none) 0 P l _ ({ (f.put (some d) (.func (.func j) #[] (g.map f.eval)))with defers:={ target:= .fn (.func j) (g.map f.eval),args:= #[] }::(f.put (some d) (.func (.func j) #[] (g.map f.eval))).defers }.put m.dst undef) x;rw[z3];have x2:aU z0 (tm.set d fs) (f.put (some d) (.func (.func j) #[] (g.map f.eval))).tmps.toList:=by
     have:=jy X (some d) (v:=fs) (.fs (.func (.func j) #[] (g.map f.eval)));exact this
    refine vf (r:=none) I A l (.inl rfl) (iM (lN I _ A) y3) _ O q.na (hg.mono q.le) (a:={ (f.put (some d) (.func (.func j) #[] (g.map f.eval)))with defers:=_ }) x2 λM S u0 y y4 x9=>?_;have U:=q.trans y;obtain⟨J,C,y9,V⟩:=z2;obtain⟨K,x3,y1,E⟩:=x9;simp only[append_nil]at C;have x0:M.defers=K.map Ge++({ target:= .fn (.func j) (g.map f.eval),args:= #[] }::J.map Ge):=by
     rw[x3];show _++(_::(f.put (some d) _).defers)=_;rw[put_defers,C]
    show LeavesInM Fence.wide 0 P s M.tmps (nS β h w (bh vs) B) M.defers .returning S;rw[x0];refine nG K S y1 (λb D=>⟨Nat.le_trans q.size (E b D).1,(E b D).2.2.1⟩) U λw3 G L=>?_;refine⟨by simp,.inr ⟨λhd=>by simp[Fence.wide]at hd,.func j,g.map f.eval,j,#[]++g.map f.eval,rfl,eB I z7 z4 _ _,λ_ _=>trivial,?_⟩⟩;refine(R (#[]++g.map f.eval) w3 (by simp)).mono ?_;rintro e u' w4 ⟨⟨v,rfl⟩,rfl,u,z5⟩;show LeavesInM Fence.wide 0 P s M.tmps (nS β h w (bh vs) B) (J.map Ge) .returning w4;refine py (P:=P) x4 y4 J w4 y9 (λb D=>⟨(V b D).1,?_⟩) (G.trans (od G.na u z5));obtain⟨h4,h5,h6,h7⟩:=V b D;have z8:b<S.heap.size:=lt_of_lt_of_le h5 y.size;have x5:b∉K:=λZ=>by have:=(E b Z).1;omega
    have h8:S.heap[b]?=some (.deferred (some [])):=(y.kept b h5 h7).trans h6;have h9:w3.heap[b]?=some (.deferred (some [])):=(L b x5).trans h8;rw[u.block b ?_,h9];exact(Array.getElem?_eq_some_iff.1 h9).1
   ·cases z
  ·cases z
 grind
section
noncomputable def wk(x:Exit)(bad r:Bool):Bool:=Exit.rec (motive:=λ_=>Bool) bad (λ_=>bad) (λ_=>bad) r (λ_=>bad) bad x
noncomputable def Lh(P:Program)(gl:Nat->Bool)(bad:Bool)(a:Func)(j c:Code)(d:Tmp):nz:=λg b h K=>
 fE (Nat.ble a.ntmps 256&&Nat.ble b.length a.ntmps&&Nat.blt d a.ntmps)
  (vG b 0 xq λe=>codeF j ⟨P,gl,g,40,a.ntmps,bad⟩ e h λx e k=>ig x
   (pI a.ntmps (some d) e fs λe=>codeF c ⟨P,gl,g,40,a.ntmps,bad⟩ e k λx e f=>wk x bad (zQ P e f bad a.results.toList λi=>K (bh i) f))
   (λ_=>bad) bad) bad
theorem Li(bad:Bool)(c:Func)(k b:Code)(d:Tmp)(w:FuncId->List Value->aa->(Value->aa->Bool)->Bool)(j:bY)(E:∀f a h K,Ref bad (w f a h K) (j f a h) λr=>K r.1 r.2)(a:List Value)(h:aa)(K:Value->aa->Bool):
  Ref bad (Lh P gl bad c k b d w a h K) (um P gl c k b d j a h) λr=>K r.1 r.2:=by
 unfold Lh;refine cZ (λy=>?_) (λ_=> .bad);simp only[and_eq_true,ble_eq,blt_eq]at y;obtain⟨⟨B,x0⟩,D⟩:=y;obtain⟨A,N,S⟩:=qO a 0 xq (by omega);rw[N];have X:eF c.ntmps A (a++List.replicate (c.ntmps-a.length) undef):=by
  refine⟨by simp;omega,B,λt=>?_⟩;rw[S];split
  ·next W=>rw[Nat.sub_zero,gD,gD,List.getElem?_append_left (by omega)]
  ·next W=>
   rw[vv,gD,List.getElem?_append_right (by omega),getElem?_replicate];split<;>rfl
 let o:Cx:=⟨P,gl,w,40,c.ntmps,bad⟩
 have l:sK o j:=λf a h K=>E f a h K;rcases fm l k (h:=h) (K:=λx e Q=>ig x
   (pI c.ntmps (some d) e fs λe=>codeF b o e Q λx e i=>wk x bad (zQ P e i bad c.results.toList λg=>K (bh g) i))
   (λ_=>bad) bad) X with Y|⟨V,v,p,M,U,q,R⟩
 ·exact .inl Y
 ·refine(show Ref bad (codeF k o A h _) _ _ from ?_);rw[R];dsimp only
  cases V with
  | normal=>
   dsimp only[ig];obtain⟨e2,O,T⟩:=r9 q (some d) fs;have z:=λ(K:Env->Bool)=>T K;rw[show(pI c.ntmps (some d) M fs λe=>codeF b o e p λx e i=>wk x bad (zQ P e i bad c.results.toList λg=>K (bh g) i))=_ from z _];rcases fm l b (h:=p) (K:=λx e i=>wk x bad (zQ P e i bad c.results.toList λg=>K (bh g) i)) O with J|⟨F,Z,n,e3,C,I,H⟩
   ·exact .inl J
   ·rw[H];dsimp only
    cases F with
    | ret=>
     dsimp only[wk];rcases wh I c.results.toList (λg=>K (bh g) n) (P:=P) (h:=n) (bad:=bad)with m|⟨g,m,L⟩
     ·exact .inl m
     ·refine .of (r:=(bh g,n)) ?_ L;have G:aQ P gl j 40 k (a++List.replicate (c.ntmps-a.length) undef) h=some (.normal,v,p):=U;have u:aQ P gl j 40 b (v.set d fs) p=some (.ret,Z,n):=C;have s:d<v.length:=by rw[q.1];exact D
      simp only[um,G,if_pos s,u,m,map_some]
    |_=>exact .inl rfl
  |_=>exact .inl rfl
end
end
section
variable {β:cI} {P:Program} {gl:Nat->Bool}
noncomputable def laid(l:List (Nat×bu))(t:HT):HT:=List.rec (motive:=λ_=>HT) t (λp _ a=>HT.set (some p.2) (pathOf p.1) a) l
theorem PX(p:Nat×bu)(l:List (Nat×bu))(t:HT):laid (p::l) t=HT.set (some p.2) (pathOf p.1) (laid l t):=rfl
structure Hy where
 args:List Value
 old:List (Nat×bu)
 next:Nat
 v:Value
 new:List (Nat×bu)
 next':Nat
def Xq(B C:bu):Bool:=match B,C with
 |.cells cs t c _,.cells a d b _=>wN (df 4) cs a&&Nat.beq t d&&Nat.beq c b
 |_,_=>false
def Zj:bu->Bool
 |.cells _ _ _ a=> !a
 |_=>false
noncomputable def abC(h:aa)(p:Nat×bu):Bool:=Zj p.2&&(match h.get p.1 with|some C=>Xq p.2 C|none=>false)
noncomputable def fits(h:aa)(a:List Value)(r:Hy):Bool:=wN (df 4) r.args a&&Nat.ble h.next r.next&&r.old.all (abC h)
noncomputable def ado(r:Hy)(h:aa):aa:=⟨r.next',laid r.new h.t⟩
noncomputable def TN(h:aa)(a:List Value):List Hy->Option Hy
 |[]=>none
 |r::l=>if fits h a r then some r else TN h a l
noncomputable def Vd(a:List Hy):kS:=λ_ b h=>(TN h b a).map λr=>(r.v,ado r h)
noncomputable def NZ(l:List (Nat×bu))(t:HT)(K:HT->Bool):Bool:=List.rec (motive:=λ_=>(HT->Bool)->Bool) (λK=>K t) (λp _ a K=>a λt=>HT.np (some p.2) (pathOf p.1) t K) l K
theorem IV(t:HT):∀(l:List (Nat×bu))(K:HT->Bool),NZ l t K=K (laid l t)
 |[],_=>rfl
 |p::l,K=>by
  show NZ l t (λt=>HT.np (some p.2) (pathOf p.1) t K)=_;rw[IV t l,HT.eD,PX]
noncomputable def Tc(bad:Bool)(a:List Hy):nz:=λ_ b h K=>List.rec (motive:=λ_=>Bool) bad (λr _ c=>fE (fits h b r) (NZ r.new h.t λt=>jM r.v λv=>K v ⟨r.next',t⟩) c) a
theorem Px(bad:Bool)(a:List Hy)(d:FuncId->List Value->aa->(Value->aa->Bool)->Bool)(e:bY)(b:List Value)(h:aa)(K:Value->aa->Bool):Ref bad (Tc bad a d b h K) (Vd a e b h) λr=>K r.1 r.2:=by
 unfold Vd
 induction a with
 |nil=>exact .inl rfl
 |cons r a f=>
  show Ref bad (fE (fits h b r) (NZ r.new h.t λt=>jM r.v λv=>K v ⟨r.next',t⟩) (Tc bad a d b h K)) _ _;simp only[TN];refine cZ (λc=>?_) (λc=>?_)
  ·rw[IV,dX,if_pos c];exact .of rfl rfl
  ·rw[if_neg (by rw[c];simp)];exact f
end
section
variable {P:Program} {gl:Nat->Bool}
inductive qD where
 |Gg (tab:List (List Value×Value))
 |aas
 |NV
 |defer (fn:Func) (r0 rest:Code) (d:Tmp)
 |jO (rows:List Hy)
noncomputable def qD.JY(P:Program)(gl:Nat->Bool)(e:qD):kS:=qD.rec (motive:=λ_=>kS) (λc=>EJ c) jX hJ (λf g b d=>um P gl f g b d) (λa=>Vd a) e
noncomputable def qD.Tf(P:Program)(gl:Nat->Bool)(bad:Bool)(e:qD):nz:=qD.rec (motive:=λ_=>nz) (λc=>Td bad c) (D9 bad) (tN bad) (λf g b d=>Lh P gl bad f g b d) (λa=>Tc bad a) e
abbrev lI:=List (FuncId×qD)
noncomputable def AZ{a:Type}(b:Bool)(x y:Option a):Option a:=Bool.rec (motive:=λ_=>Option a) y x b
noncomputable def Jw(P:Program)(gl:Nat->Bool)(l:lI)(f:FuncId):Option kS:=List.rec (motive:=λ_=>Option kS) none (λx _ a=>AZ (Nat.beq f x.1) (some (x.2.JY P gl)) a) l
noncomputable def Uv(P:Program)(gl:Nat->Bool)(bad:Bool)(l:lI)(f:FuncId):Option (nz):=List.rec (motive:=λ_=>Option (nz)) none (λx _ a=>AZ (Nat.beq f x.1) (some (x.2.Tf P gl bad)) a) l
theorem Uw(bad:Bool)(l:lI):uM bad (Uv P gl bad l) (Jw P gl l):=λf=>by
 induction l with
 |nil=>exact .inl ⟨rfl,rfl⟩
 | cons x l v=>
  show(AZ (Nat.beq f x.1) (some (x.2.Tf P gl bad)) (Uv P gl bad l f)=none/\AZ (Nat.beq f x.1) (some (x.2.JY P gl)) (Jw P gl l f)=none)\/_
  cases g:Nat.beq f x.1 with
  | false=>
   rcases v with⟨m,n⟩|⟨p,q,m,n,u⟩
   ·exact .inl ⟨m,n⟩
   ·refine .inr ⟨p,q,?_,?_,u⟩
    ·show AZ (Nat.beq f x.1) (some (x.2.Tf P gl bad)) (Uv P gl bad l f)=_;rw[g];exact m
    ·show AZ (Nat.beq f x.1) (some (x.2.JY P gl)) (Jw P gl l f)=_;rw[g];exact n
  | true=>
   refine .inr ⟨x.2.Tf P gl bad,x.2.JY P gl,?_,?_,λc b r a h K=>?_⟩
   ·show AZ (Nat.beq f x.1) (some (x.2.Tf P gl bad)) (Uv P gl bad l f)=_;rw[g];rfl
   ·show AZ (Nat.beq f x.1) (some (x.2.JY P gl)) (Jw P gl l f)=_;rw[g];rfl
   ·obtain⟨k,e⟩:=x
    cases e with
    |Gg o=>exact Py bad o c b a h K
    |aas=>exact Dd bad c b a h K
    |NV=>exact Bi bad c b a h K
    |defer s t j d=>exact Li bad s t j d c b r a h K
    |jO i=>exact Px bad i c b a h K
def mn(P:Program)(gl:Nat->Bool)(l:lI):Prop:=∀x∈l,gT P gl x.1 (x.2.JY P gl)
theorem Of{l:lI}(h:mn P gl l):oU P gl (Jw P gl l):=λf p a=>by
 induction l with
 |nil=>cases a
 | cons x l c=>
  have a:AZ (Nat.beq f x.1) (some (x.2.JY P gl)) (Jw P gl l f)=some p:=a
  cases b:Nat.beq f x.1 with
  |false=>rw[b]at a;exact c (λy d=>h y (by simp[d])) a
  |true=>
   rw[b]at a;obtain rfl:=oI a;obtain rfl:f=x.1:=by simpa[beq_eq]using b
   exact h x (by simp)
theorem DP:mn P gl []:=λ_ h=>by cases h
theorem iU{x:FuncId×qD}{l:lI}(h:gT P gl x.1 (x.2.JY P gl))(b:mn P gl l):mn P gl (x::l):=λy a=>by
 rcases mem_cons.1 a with rfl|a
 ·exact h
 ·exact b y a
theorem iV{a:List (List Value×Value)}{l:lI}(h:qE P f a)(b:mn P gl l):mn P gl ((f,.Gg a)::l):=iU (YJ h) b
theorem GK{p:kS}{c:FuncId->Option kS}(h:gT P gl f p)(d:oU P gl c):oU P gl (λg=>AZ (Nat.beq g f) (some p) (c g)):=λg q a=>by
 dsimp only at a
 cases b:Nat.beq g f with
 |false=>rw[b]at a;exact d g q a
 |true=>
  rw[b]at a;obtain rfl:=oI a
  simp_all
structure tD(P:Program):Prop where
 names:dI P
 SZ:∀(f:FuncId)(fn:Func),P.funcs[f]?=some fn->dA fn=true
theorem tD.run(h:tD P){l:lI}(a:mn P gl l)(n:Nat):oe P gl (bn P gl (Jw P gl l) n):=Fs h.names (Of a) (yH h.names h.SZ) (lN h.names) n
theorem tD.ae2(h:tD P){pr:FuncId->Option kS}(a:oU P gl pr)(n:Nat):oe P gl (bn P gl pr n):=Fs h.names a (yH h.names h.SZ) (lN h.names) n
theorem je(b:tD P){l:lI}(c:mn P mJ l){n:Nat}{f:FuncId}{a:List Value}{v:Value}(d:sS P mJ (Uv P mJ false l) false n f a ⟨0,.nil⟩ (λu _=>DS v u)=true)
  (e:(a.all bare&&plain v&&Nat.blt f YB&&qH P f)=true):oh P f a v:=
 PV b.names (Uw false l) (b.run c n) d e
end
end Go.Ab
end
section
namespace Go.Ab
open Go
variable{d:List Value}{f:FuncId}{w:Value}{P:Program}{F:Func}
section
structure Sx where
 P:Program
 gl:Nat->Bool
 pr:FuncId->Option kS
abbrev Fr:=Nat->Value
def kJ(E:Fr)(d:Nat)(v:Value):Fr:=λt=>if t=d then v else E t
def sG(E:Fr)(dst:Option Tmp)(v:Value):Fr:=match dst with
 |some d=>kJ E d v
 |none=>E
def dW(gl:Nat->Bool)(E:Fr):Operand->Value
 |.tmp t=>E t
 |.const v=>if plain v then v else fs
 |.global g=>if gl g then .pointer (some ⟨g,0,none⟩)else fs
 |.func f=> .func (.func f) #[] #[]
def ER(nm:Nat)(E:Fr)(a:List Value):Prop:=a.length=nm/\∀t,a.getD t undef=E t
def vo(nm:Nat):Option Tmp->Bool
 |none=>true
 |some d=>decide (d<nm)
theorem ER.ev{nm:Nat}{E:Fr}{a:List Value}(gl:Nat->Bool)(h:ER nm E a):ev gl a=dW gl E:=by
 funext x
 cases x with
 |tmp t=>exact h.2 t
 |const v=>rfl
 |global g=>rfl
 |func f=>rfl
theorem ER.put{nm:Nat}{E:Fr}(h:ER nm E d){dst:Option Tmp}(b:vo nm dst=true)(v:Value):ER nm (sG E dst v) (fe d dst v):=by
 cases dst with
 |none=>exact h
 |some c=>
  have b:c<nm:=by simpa[vo]using b
  refine⟨by simp[fe,h.1],λt=>?_⟩;simp only[fe,sG,kJ,gD,List.getElem?_set];by_cases a:t=c
  ·subst a;rw[if_pos rfl,if_pos rfl,if_pos (by rw[h.1];omega)];rfl
  ·rw[if_neg a,if_neg (λe=>a e.symm),<-gD];exact h.2 t
def FR(S:Sx)(f:FuncId)(a:List Value)(h:aa)(v:Value)(b:aa):Prop:=∃c,∀n,c<=n->bn S.P S.gl S.pr n f a h=some (v,b)
def FW(S:Sx)(f:FuncId)(a:List Value)(h:aa)(Q:Value->aa->Prop):Prop:=∃v b,FR S f a h v b/\Q v b
theorem FW.mono{S:Sx}{h:aa}{Q R:Value->aa->Prop}(c:FW S f d h Q)(g:∀v a,Q v a->R v a):FW S f d h R:=by
 obtain⟨v,a,b,e⟩:=c;exact⟨v,a,b,g v a e⟩
abbrev VH:=Value->aa->Prop
abbrev FH:=Fr->aa->Prop
abbrev C1:=Exit->Fr->aa->Prop
def CD(ops:Array Oper)(E:Fr)(a:Option (Nat×Bool)):Option Bool:=match a with
 |none=>some true
 | some (j,c)=>match (ops[j]?).bind (·.dst)with
  |some d=>match E d with
   |.bool b=>some (b==c)
   |.tuple _=>some false
   |_=>none
  |none=>none
theorem mZ{nm:Nat}{E:Fr}(h:ER nm E d)(ops:Array Oper)(o:Oper):ef ops d o=CD ops E o.guard:=by
 unfold ef CD
 cases o.guard with
 |none=>rfl
 |some g=>
  obtain⟨j,a⟩:=g;dsimp only
  cases (ops[j]?).bind (·.dst)with
  |none=>rfl
  |some b=>dsimp only;rw[h.2 b];rfl
def Hu(r:Option (Value×bp))(h:aa)(K:VH):Prop:=match r with
 |some (v,u)=>K v (u.app h)
 |none=>False
def sj(r:Option Value)(h:aa)(K:VH):Prop:=match r with
 |some v=>K v h
 |none=>False
def pW(S:Sx)(f:Value)(b:List Value)(h:aa)(K:VH):Prop:=match f with
 |.func (.func g) first a=>g<YB/\FW S g (first.toList++b++a.toList) h K
 |.func (.yield k) first a=>(first.size=0/\a.size=0)/\FW S (YB+k) b h K
 |_=>False
def wpOp(S:Sx)(E:Fr)(o:Oper)(h:aa)(K:VH):Prop:=match o.op with
 |.call { callee:= .value f,args,.. }=>pW S (dW S.gl E f) (args.toList.map (dW S.gl E)) h K
 |_=>Hu (bm S.P fb (dW S.gl E) o h) h K
def wpG(r:Option Bool)(A B:Unit->Prop):Prop:=match r with
 |some true=>A ()
 |some false=>B ()
 |none=>False
def WK(S:Sx)(ops:Array Oper):List Oper->Fr->aa->FH->Prop
 |[],E,h,R=>R E h
 |o::l,E,h,R=>wpG (CD ops E o.guard) (λ_=>wpOp S E o h λv h=>WK S ops l (sG E o.dst v) h R) (λ_=>WK S ops l (sG E o.dst undef) h R)
def adT(S:Sx)(ops:Array Oper)(dst:Option Tmp)(l:List Oper)(E:Fr)(h:aa)(R:FH)(_:Unit):Prop:=WK S ops l (sG E dst undef) h R
def opK(S:Sx)(ops:Array Oper)(dst:Option Tmp)(l:List Oper)(E:Fr)(R:FH)(v:Value)(h:aa):Prop:=WK S ops l (sG E dst v) h R
def aeQ(S:Sx)(ops:Array Oper)(o:Oper)(l:List Oper)(E:Fr)(h:aa)(R:FH)(_:Unit):Prop:=wpOp S E o h (opK S ops o.dst l E R)
section
variable (S:Sx) (ops:Array Oper) (o:Oper) (l:List Oper) (dst:Option Tmp) (E:Fr) (h:aa) (R:FH) (v:Value)
theorem Wu:WK S ops (o::l) E h R=wpG (CD ops E o.guard) (aeQ S ops o l E h R) (adT S ops o.dst l E h R):=rfl
theorem Nh(ops:Array Oper)(E:Fr)(j:Nat)(a:Bool):CD ops E (some (j,a))=match (ops[j]?).bind (·.dst)with
  |some d=>(match E d with|.bool b=>some (b==a)|.tuple _=>some false|_=>none)
  |none=>none:=rfl
end
noncomputable section
variable (S:Sx) (bf:Nat->Nat->Bool)
def EL(o:Oper)(E:Fr)(v:Value)(h:aa):Bool:=match bj S.P (dW S.gl E) o h with
 |some a=>df 4 v a
 |none=>false
def nL(j:Nat)(o:Oper)(E:Fr)(v:Value):aa->List (Nat×aa)->Bool->Bool
 |h,[],a=>a||EL S o E v h
 |h,(e,b)::r,a=>((a&&Nat.blt j e)||bf j e||EL S o E v h)&&(bf e j||nL j o E v b r (Nat.blt e j))
abbrev Kq:=Fr×Oper×lE
def ui(h:aa)(a:List (Nat×aa)):List Kq->Nat->Bool
 |[],_=>true
 |(E,o,.read v)::r,j=>nL S bf j o E v h a true&&ui h a r (j+1)
 |_::r,j=>ui h a r (j+1)
def nC:List Kq->Nat->List (Nat×aa)
 |[],_=>[]
 |(_,_,.qh _ h)::r,j=>(j,h)::nC r (j+1)
 |_::r,j=>nC r (j+1)
def vk(h:aa)(a:List Kq):Bool:=chained bf (nC a 0)&&ui S bf h (nC a 0) a 0
def CJ(E:Fr)(o:Oper)(h:aa)(K:VH):Prop:=match o.op with
 |.call { callee:= .value f,args,.. }=>pW S (dW S.gl E f) (args.toList.map (dW S.gl E)) h K
 |_=>Hu (cJ S.P fb (dW S.gl E) o h) h K
def wJ(ops:Array Oper)(base:Nat)(b:aa):List Oper->Nat->Fr->aa->List (Nat×bu)->List Kq->FH->Prop
 |[],_,E,h,pd,a,R=>vk S bf b a.reverse=true/\R E (aw h base pd)
 | o::l,j,E,h,pd,a,R=>wpG (CD ops E o.guard)
   (λ_=>match ba S.P (dW S.gl E) o with
    |some v=>wJ ops base b l (j+1) (sG E o.dst v) h pd ((E,o,.pure v)::a) R
    | none=>match bj S.P (dW S.gl E) o h with
     |some v=>wJ ops base b l (j+1) (sG E o.dst v) h pd ((E,o,.read v)::a) R
     |none=>match aT S.P (dW S.gl E) o with
      |some (B,f)=>wJ ops base b l (j+1) (sG E o.dst (f (base+j))) h ((j,B)::pd) ((E,o,.alloc B (f (base+j)))::a) R
      |none=>CJ S E o (aw h base (pd.filter λp=>bf j p.1)) λv c=>wJ ops base b l (j+1) (sG E o.dst v) c (pd.filter λp=> !bf j p.1) ((E,o,.qh v c)::a) R)
   (λ_=>wJ ops base b l (j+1) (sG E o.dst undef) h pd ((E,o,.skip)::a) R)
def wpD(nm:Nat)(ops:Array Oper)(E:Fr)(h:aa)(R:FH):Prop:=
 (tE ops=false/\wJ S (cD (fk ops)) ops h.next { h with next:=h.next+ops.size } ops.toList 0 E { h with next:=h.next+ops.size } [] [] R)\/
  (tE ops=true/\∃(a:List Value)(b:aa),a.length=nm/\vj S.P S.gl ops (cD (fk ops)) ((List.range nm).map E) h=some (a,b)/\R (λt=>a.getD t undef) b)
end
section
variable (S:Sx) (nm:Nat)
def RV(c:Code)(E:Fr)(h:aa)(x:Exit)(e:Fr)(f:aa):Prop:=
 ∃d,∀n N,d<=n->d<=N->∀b,ER nm E b->∃a,ER nm e a/\aQ S.P S.gl (bn S.P S.gl S.pr n) N c b h=some (x,a,f)
def acs(c:Code)(E:Fr)(h:aa)(x:Exit)(e:Fr)(f:aa):Prop:=
 ∃b,∀n N j,b<=n->b<=N->b<=j->∀d,ER nm E d->∃a,ER nm e a/\iter (aQ S.P S.gl (bn S.P S.gl S.pr n) N c) j d h=some (x,a,f)
def DF(c:Code)(E:Fr)(h:aa)(Q:C1):Prop:=∃x a b,acs S nm c E h x a b/\Q x a b
def KJ(c:Code)(E:Fr)(h:aa)(Q:C1):Prop:=∃x a b,RV S nm c E h x a b/\Q x a b
def wpB(v:Value)(A B:Unit->Prop):Prop:=match v with
 |.bool true=>A ()
 |.bool false=>B ()
 |_=>False
def Wp:Code->Fr->aa->C1->Prop
 |.skip,E,h,Q=>Q .normal E h
 |.region _ ops false,E,h,Q=>WK S ops ops.toList E h λE h=>Q .normal E h
 |.region _ ops true,E,h,Q=>wpD S nm ops E h λE h=>Q .normal E h
 |.seq a b,E,h,Q=>Wp a E h λx E h=>match x with
  |.normal=>Wp b E h Q
  |x=>Q x E h
 |.cond c a b,E,h,Q=>wpB (dW S.gl E c) (λ_=>Wp a E h Q) (λ_=>Wp b E h Q)
 |.block id c,E,h,Q=>Wp c E h λx E h=>match x with
  |.exit id'=>if id'=id then Q .normal E h else Q (.exit id') E h
  |x=>Q x E h
 |.loop c,E,h,Q=>DF S nm c E h Q
 |.exit id,E,h,Q=>Q (.exit id) E h
 |.ret,E,h,Q=>Q .ret E h
 |.label _,E,h,Q=>Q .normal E h
 |.rangeFunc f d a b,E,h,Q=>KJ S nm (.rangeFunc f d a b) E h Q
 |_,_,_,_=>False
def acO(c:Code)(Q:C1)(x:Exit)(E:Fr)(h:aa):Prop:=match x with
 |.normal=>DF S nm c E h Q
 |x=>Q x E h
def goK(c:Code)(E:Fr)(h:aa)(Q:C1)(_:Unit):Prop:=Wp S nm c E h Q
variable (a b c:Code) (o:Operand) (id id':Nat) (ops:Array Oper) (E:Fr) (h:aa) (Q:C1)
theorem Wq:Wp S nm (.cond o a b) E h Q=wpB (dW S.gl E o) (goK S nm a E h Q) (goK S nm b E h Q):=rfl
end
theorem ZP{v:Value}{A B:Unit->Prop}(h:wpB v A B):∃b,v = .bool b/\((b=true/\A ())\/(b=false/\B ())):=by
 cases v with
 |bool b=>
  cases b with
  |true=>exact⟨true,rfl,.inl ⟨rfl,h⟩⟩
  |false=>exact⟨false,rfl,.inr ⟨rfl,h⟩⟩
 |_=>exact h.elim
theorem Hj{r:Option Bool}{A B:Unit->Prop}(h:wpG r A B):(r=some true/\A ())\/(r=some false/\B ()):=by
 cases r with
 |none=>exact h.elim
 |some b=>
  cases b with
  |true=>exact .inl ⟨rfl,h⟩
  |false=>exact .inr ⟨rfl,h⟩
section
variable {S:Sx} {nm:Nat}
theorem wH{h:aa}{K:VH}(c:pW S w d h K):∃v a b,(∀n,b<=n->qG (bn S.P S.gl S.pr n) w d h=some (v,.all a))/\K v a:=by
 unfold pW at c;split at c
 ·next g first j=>
  obtain⟨k,v,a,⟨b,i⟩,f⟩:=c;refine⟨v,a,b,λn e=>?_,f⟩;simp only[qG];rw[if_pos k,i n e];rfl
 ·obtain⟨l,v,a,⟨b,i⟩,f⟩:=c;refine⟨v,a,b,λn e=>?_,f⟩;simp only[qG];rw[if_pos l,i n e];rfl
 grind
theorem mB{o:Oper}(b:aZ o=true):∃f args a,o.op = .call { callee:= .value f,args:=args,argTypes:=a }:=by grind[aZ]
theorem Kk{E:Fr}{o:Oper}{h:aa}{K:VH}(c:CJ S E o h K):∃v u d,(∀n,d<=n->cJ S.P (bn S.P S.gl S.pr n) (dW S.gl E) o h=some (v,u))/\K v (u.app h):=by
 cases b:aZ o with
 |true=>
  obtain⟨f,m,s,e⟩:=mB b;obtain⟨dst,r,q,p,i,g⟩:=o;dsimp only at e;subst e;obtain⟨v,l,d,j,k⟩:=wH c;exact⟨v,.all l,d,j,k⟩
 | false=>
  have a:Hu (cJ S.P fb (dW S.gl E) o h) h K:=by
   unfold CJ at c;split at c
   ·next e=>unfold aZ at b;rw[e]at b;cases b
   ·exact c
  unfold Hu at a;split at a
  ·next v u e=>exact⟨v,u,0,λn _=>by rw[<-tZ b];exact e,a⟩
  grind
theorem Jo{a:bY}{ρ:Operand->Value}{o:Oper}{h:aa}(g:aZ o=true):bm P a ρ o h=cJ P a ρ o h:=by
 obtain⟨f,d,l,e⟩:=mB g;obtain⟨dst,k,j,i,c,b⟩:=o;dsimp only at e;subst e;rfl
theorem Nn{E:Fr}{o:Oper}{h:aa}{K:VH}(c:wpOp S E o h K):∃v u d,(∀n,d<=n->bm S.P (bn S.P S.gl S.pr n) (dW S.gl E) o h=some (v,u))/\K v (u.app h):=by
 cases a:aZ o with
 |true=>
  obtain⟨f,p,t,e⟩:=mB a;obtain⟨dst,s,r,q,i,g⟩:=o;dsimp only at e;subst e;obtain⟨v,m,d,k,l⟩:=wH c;exact⟨v,.all m,d,λn j=>by rw[Jo a];exact k n j,l⟩
 | false=>
  have b:Hu (bm S.P fb (dW S.gl E) o h) h K:=by
   unfold wpOp at c;split at c
   ·next e=>unfold aZ at a;rw[e]at a;cases a
   ·exact c
  unfold Hu at b;split at b
  ·next v u e=>exact⟨v,u,0,λn _=>by rw[<-BQ a];exact e,b⟩
  grind
theorem yu(ops:Array Oper){R:FH}:∀(l:List Oper)(E:Fr)(h:aa),(l.all λo=>vo nm o.dst)=true->WK S ops l E h R->
  ∃e f x,(∀n,x<=n->∀d,ER nm E d->∃a,ER nm e a/\fP S.P S.gl (bn S.P S.gl S.pr n) ops l d h=some (a,f))/\R e f
 |[],E,h,_,b=>⟨E,h,0,λn _ d c=>⟨d,c,rfl⟩,b⟩
 | o::l,E,h,g,b=>by
  simp only[all_cons,and_eq_true]at g;rcases Hj b with⟨q,b⟩|⟨q,b⟩
  ·obtain⟨v,u,r,s,t⟩:=Nn b;obtain⟨e,f,j,k,m⟩:=yu ops l _ _ g.2 t;refine⟨e,f,max r j,λn p d c=>?_,m⟩;obtain⟨a,i,w⟩:=k n (by omega) _ (c.put g.1 v);refine⟨a,i,?_⟩;simp only[fP];rw[mZ c,q,c.ev,s n (by omega)];omega
  ·obtain⟨e,f,j,k,m⟩:=yu ops l _ _ g.2 b;refine⟨e,f,j,λn p d c=>?_,m⟩;obtain⟨a,i,w⟩:=k n p _ (c.put g.1 undef)
   grind[mZ,fP]
def AH(nm:Nat):List Oper->List Kq->List (List Value×lE)->Prop
 |[],[],[]=>True
 |o::c,(E,d,e)::r,(b,a)::f=>d=o/\a=e/\ER nm E b/\AH nm c r f
 |_,_,_=>False
theorem Io:∀{l:List Oper}{r:List Kq}{a:List (List Value×lE)}(j:Nat),AH nm l r a->dE a j=nC r j
 |[],[],[],_,_=>rfl
 |o::d,(E,f,e)::r,(c,b)::a,j,h=>by
  obtain⟨rfl,rfl,_,h⟩:=h
  cases b<;>simp only[dE,nC,Io (j+1) h]
 |[],[],_::_,_,h=>h.elim
 |[],_::_,_,_,h=>h.elim
 |_::_,[],_,_,h=>h.elim
 |_::_,_::_,[],_,h=>h.elim
theorem wo{o:Oper}{E:Fr}{v:Value}{h:aa}(a:ER nm E d):hO S.P S.gl o d v h=EL S o E v h:=by
 unfold hO EL;rw[a.ev];rfl
theorem Ch{bf:Nat->Nat->Bool}{j:Nat}{o:Oper}{E:Fr}{c:List Value}{v:Value}(d:ER nm E c):∀(b:List (Nat×aa))(h:aa)(a:Bool),jz S.P S.gl bf j o c v h b a=nL S bf j o E v h b a
 |[],h,a=>by grind[wo,jz,nL]
 |(e,f)::b,h,a=>by simp only[jz,nL,wo d,Ch d b]
theorem EG{bf:Nat->Nat->Bool}{h:aa}{c:List (Nat×aa)}:∀{l:List Oper}{r:List Kq}{b:List (List Value×lE)}(j:Nat),AH nm l r b->fQ S.P S.gl bf h c l b j=ui S bf h c r j
 |[],[],[],_,_=>rfl
 |o::i,(E,k,e)::r,(g,d)::b,j,a=>by
  obtain⟨rfl,rfl,f,a⟩:=a
  cases d<;>simp only[fQ,ui,EG (j+1) a,Ch f]
 |[],[],_::_,_,h=>h.elim
 |[],_::_,_,_,h=>h.elim
 |_::_,[],_,_,h=>h.elim
 |_::_,_::_,[],_,h=>h.elim
theorem CI(bf:Nat->Nat->Bool)(ops:Array Oper)(base:Nat)(y:aa){R:FH}:∀(l:List Oper)(j:Nat)(E:Fr)(h:aa)(pd:List (Nat×bu))(d:List Kq),(l.all λo=>vo nm o.dst)=true->wJ S bf ops base y l j E h pd d R->
  ∃k m i r H,(∀n,H<=n->∀a,ER nm E a->∃g p,ER nm k g/\AH nm l r p/\cU S.P S.gl (bn S.P S.gl S.pr n) ops bf base l j a h pd=some (p,g,m,i))/\vk S bf y (d.reverse++r)=true/\R k (aw m base i)
 |[],j,E,h,pd,d,_,b=>⟨E,h,pd,[],0,λn _ a c=>⟨a,[],c,trivial,rfl⟩,by rw[append_nil];exact b.1,b.2⟩
 | o::l,j,E,h,pd,d,G,b=>by
  simp only[all_cons,and_eq_true]at G;have fin:∀(v:Value)(e:lE)(A:aa)(w:List (Nat×bu))(x:Nat),wJ S bf ops base y l (j+1) (sG E o.dst v) A w ((E,o,e)::d) R->
    (∀n,x<=n->∀a,ER nm E a->∀q,cU S.P S.gl (bn S.P S.gl S.pr n) ops bf base l (j+1) (fe a o.dst v) A w=some q->cU S.P S.gl (bn S.P S.gl S.pr n) ops bf base (o::l) j a h pd=some ((a,e)::q.1,q.2))->
    ∃k m i r H,(∀n,H<=n->∀a,ER nm E a->∃g p,ER nm k g/\AH nm (o::l) r p/\cU S.P S.gl (bn S.P S.gl S.pr n) ops bf base (o::l) j a h pd=some (p,g,m,i))/\vk S bf y (d.reverse++r)=true/\R k (aw m base i):=by
   intro v e A w x J s;obtain⟨k,m,i,r,M,F,Q,N⟩:=CI bf ops base y l (j+1) _ _ _ _ G.2 J;refine⟨k,m,i,(E,o,e)::r,max x M,λn L a c=>?_,?_,N⟩
   ·obtain⟨g,p,I,O,P⟩:=F n (by omega) _ (c.put G.1 v);exact⟨g,(a,e)::p,I,⟨rfl,rfl,c,O⟩,s n (by omega) a c _ P⟩
   ·grind
  rcases Hj b with⟨z,b⟩|⟨z,b⟩
  ·cases t:ba S.P (dW S.gl E) o with
   |some v=>
    rw[t]at b;refine fin v (.pure v) h pd 0 b λn _ a c q s=>?_;simp only[cU];rw[mZ c,z,c.ev,t]
    grind
   | none=>
    rw[t]at b;dsimp only at b
    cases C:bj S.P (dW S.gl E) o h with
    |some v=>
     rw[C]at b;refine fin v (.read v) h pd 0 b λn _ a c q s=>?_;simp only[cU];rw[mZ c,z,c.ev,t]
     grind
    | none=>
     rw[C]at b;dsimp only at b
     cases D:aT S.P (dW S.gl E) o with
     |some K=>
      obtain⟨B,f⟩:=K;rw[D]at b;refine fin _ (.alloc B (f (base+j))) h ((j,B)::pd) 0 b λn _ a c q s=>?_;simp only[cU];rw[mZ c,z,c.ev,t]
      grind
     |none=>
      rw[D]at b;dsimp only at b;obtain⟨v,u,x,A,F⟩:=Kk b;refine fin v (.qh v _) _ _ x F λn L a c q s=>?_;simp only[cU];rw[mZ c,z,c.ev,t]
      grind
  ·refine fin undef .skip h pd 0 b λn _ a c q s=>?_
   grind[mZ,cU]
theorem Ry{ops:Array Oper}{E:Fr}{h:aa}{R:FH}(x:(ops.toList.all λo=>vo nm o.dst)=true)(p:wpD S nm ops E h R):
  ∃g f q,(∀n,q<=n->∀c,ER nm E c->∃a,ER nm g a/\yN S.P S.gl (bn S.P S.gl S.pr n) ops c h=some (a,f))/\R g f:=by
 rcases p with⟨b,p⟩|⟨b,a,f,l,d,m⟩
 case inr=>
  refine⟨_,f,0,λn _ c j=>⟨a,⟨l,λ_=>rfl⟩,?_⟩,m⟩;have e:c=(List.range nm).map E:=by
   refine List.ext_getElem (by simp[j.1]) λi k m=>?_;have:=j.2 i;rw[gD,gE k]at this;simpa using this
  unfold yN;rw[b,if_pos rfl,e];exact d
 obtain⟨g,f,y,r,q,k,m,v⟩:=CI (cD (fk ops)) ops h.next _ ops.toList 0 E _ [] [] x p;refine⟨g,_,q,λn u c j=>?_,v⟩;obtain⟨a,z,s,t,w⟩:=k n u c j;refine⟨a,s,?_⟩;unfold yN;rw[b,if_neg (by simp)];unfold rO;rw[w];dsimp only;rw[Io 0 t,EG 0 t]
 simp_all[vk]
def gy(nm:Nat):Code->Bool
 |.region _ ops _=>ops.toList.all λo=>vo nm o.dst
 |.seq a b=>gy nm a&&gy nm b
 |.cond _ a b=>gy nm a&&gy nm b
 |.block _ c=>gy nm c
 |.loop c=>gy nm c
 |_=>true
theorem ke:∀(c:Code){E:Fr}{h:aa}{Q:C1},gy nm c=true->Wp S nm c E h Q->∃x y z,RV S nm c E h x y z/\Q x y z
 |.skip,E,h,_,_,d=>⟨.normal,E,h,⟨0,λ_ _ _ _ f j=>⟨f,j,rfl⟩⟩,d⟩
 |.exit id,E,h,_,_,d=>⟨.exit id,E,h,⟨0,λ_ _ _ _ f j=>⟨f,j,rfl⟩⟩,d⟩
 |.ret,E,h,_,_,d=>⟨.ret,E,h,⟨0,λ_ _ _ _ f j=>⟨f,j,rfl⟩⟩,d⟩
 |.label _,E,h,_,_,d=>⟨.normal,E,h,⟨0,λ_ _ _ _ f j=>⟨f,j,rfl⟩⟩,d⟩
 |.region _ ops false,E,h,_,r,d=>by
  obtain⟨y,z,D,q,B⟩:=yu ops ops.toList E h r d;refine⟨.normal,y,z,⟨D,λn N s _ f j=>?_⟩,B⟩
  grind[aQ]
 |.region _ ops true,E,h,_,r,d=>by
  obtain⟨y,z,D,q,B⟩:=Ry r d;refine⟨.normal,y,z,⟨D,λn N s _ f j=>?_⟩,B⟩
  grind[aQ]
 | .seq a b,E,h,Q,r,d=>by
  simp only[gy,and_eq_true]at r;obtain⟨x,w,q,⟨v,k⟩,p⟩:=ke a r.1 d;have J:(∀n N g ,aQ S.P S.gl (bn S.P S.gl S.pr n) N a g h=some (x,g,q)->True)->x≠ .normal->Q x w q->∃x y z,RV S nm (.seq a b) E h x y z/\Q x y z:=by
   intro _ C p;refine⟨x,w,q,⟨v,λn N s u f j=>?_⟩,p⟩;obtain⟨g,i,A⟩:=k n N s u f j;refine⟨g,i,?_⟩;simp only[aQ];rw[A]
   cases x with
   |normal=>grind
   |_=>rfl
  cases x with
  |normal=>
   obtain⟨x,I,B,⟨H,G⟩,p⟩:=ke b r.2 p;refine⟨x,I,B,⟨max v H,λn N s u f j=>?_⟩,p⟩;obtain⟨g,i,A⟩:=k n N (by omega) (by omega) f j;obtain⟨K,L,M⟩:=G n N (by omega) (by omega) g i
   grind[aQ]
  |exit id=>simp_all
  |goto l=>simp_all
  |ret=>simp_all
  |panic _=>simp_all
  |outgrown=>simp_all
 | .cond o a b,E,h,Q,r,d=>by
  simp only[gy,and_eq_true]at r;obtain⟨t,F,⟨j,d⟩|⟨j,d⟩⟩:=ZP d
  ·obtain⟨x,w,q,⟨v,k⟩,p⟩:=ke a r.1 d;refine⟨x,w,q,⟨v,λn N s u f m=>?_⟩,p⟩;obtain⟨g,i,A⟩:=k n N s u f m;refine⟨g,i,?_⟩;simp only[aQ];rw[m.ev,F,j]
   grind
  ·obtain⟨x,w,q,⟨v,k⟩,p⟩:=ke b r.2 d;refine⟨x,w,q,⟨v,λn N s u f m=>?_⟩,p⟩;obtain⟨g,i,A⟩:=k n N s u f m;refine⟨g,i,?_⟩;simp only[aQ];rw[m.ev,F,j]
   grind
 | .block id c,E,h,Q,r,d=>by
  obtain⟨x,w,q,⟨v,k⟩,p⟩:=ke c r d;by_cases C:x = .exit id
  ·subst C;dsimp only at p;rw[if_pos rfl]at p;refine⟨.normal,w,q,⟨v,λn N s u f m=>?_⟩,p⟩
   grind[aQ]
  ·refine⟨x,w,q,⟨v,λn N s u f m=>?_⟩,?_⟩
   ·obtain⟨g,i,A⟩:=k n N s u f m;refine⟨g,i,?_⟩;simp only[aQ];rw[A]
    cases x with
    |exit id'=>dsimp only;rw[if_neg (λe=>C (by rw[e]))]
    |_=>rfl
   grind
 |.loop c,E,h,Q,r,d=>by
  obtain⟨x,w,q,⟨v,k⟩,p⟩:=d;refine⟨x,w,q,⟨v,λn N s u f m=>?_⟩,p⟩;obtain⟨g,i,A⟩:=k n N N s u u f m;exact⟨g,i,A⟩
 |.rangeFunc ..,_,_,_,_,d=>d
 |.scope _,_,_,_,_,d=>d.elim
 |.goto _,_,_,_,_,d=>d.elim
 |.refuse _,_,_,_,_,d=>d.elim
theorem TP{c:Code}{E:Fr}{h:aa}{Q:C1}(z:gy nm c=true)(y:Wp S nm c E h (acO S nm c Q)):DF S nm c E h Q:=by
 obtain⟨x,r,p,⟨m,g⟩,a⟩:=ke c z y;have b:x≠ .normal->Q x r p->DF S nm c E h Q:=by
  intro D a;refine⟨x,r,p,⟨m+1,λn N j s v A i k=>?_⟩,a⟩;obtain⟨d,rfl⟩:∃d,j=d+1:=⟨j-1,by omega⟩
  obtain⟨f,e,o⟩:=g n N (by omega) (by omega) i k;refine⟨f,e,?_⟩;simp only[iter];rw[o]
  cases x with
  |normal=>grind
  |_=>rfl
 cases x with
 |normal=>
  obtain⟨x,u,w,⟨t,q⟩,a⟩:=a;refine⟨x,u,w,⟨max m t+1,λn N j s v A i k=>?_⟩,a⟩;obtain⟨d,rfl⟩:∃d,j=d+1:=⟨j-1,by omega⟩
  obtain⟨f,e,o⟩:=g n N (by omega) (by omega) i k;obtain⟨B,C,F⟩:=q n N d (by omega) (by omega) (by omega) f e
  grind[iter]
 |exit id=>exact b (by simp) a
 |goto l=>exact b (by simp) a
 |ret=>exact b (by simp) a
 |panic _=>exact b (by simp) a
 |outgrown=>exact b (by simp) a
noncomputable def sH(S:Sx)(E:Fr)(h:aa):List ResultVar->Option (List Value)
 |[]=>some []
 |.tmp t::r=>(sH S E h r).map (E t::·)
 |.cell a t::r=>match ae S.P t h (E a)with
  |some v=>(sH S E h r).map (v::·)
  |none=>none
theorem GP{E:Fr}{h:aa}{c:List Value}(b:ER nm E c):∀l,cn S.P c h l=sH S E h l
 |[]=>rfl
 |.tmp t::r=>by simp only[cn,sH,GP b r,b.2 t]
 |.cell a t::r=>by
  simp only[cn,sH,GP b r,b.2 a];rfl
def zt(r:Option (List Value))(h:aa)(Q:VH):Prop:=match r with
 |some a=>Q (bh a) h
 |none=>False
def ae1(S:Sx)(a:List ResultVar)(Q:VH)(x:Exit)(E:Fr)(h:aa):Prop:=match x with
 |.normal=>zt (sH S E h a) h Q
 |.ret=>zt (sH S E h a) h Q
 |_=>False
def aaT(a:List Value):Fr:=λt=>a.getD t undef
theorem adb{c:Code}{h:aa}{Q:VH}(D:S.P.funcs[f]?=some F)(B:F.body=some c)(q:f<YB)(s:S.pr f=none)(G:d.length<=F.ntmps)(u:gy F.ntmps c=true)
  (r:Wp S F.ntmps c (aaT d) h (ae1 S F.results.toList Q)):FW S f d h Q:=by
 obtain⟨x,i,e,⟨y,w⟩,b⟩:=ke c u r;have v:ER F.ntmps (aaT d) (d++List.replicate (F.ntmps-d.length) undef):=by
  refine⟨by simp;omega,λt=>?_⟩;show _=d.getD t undef;simp only[gD];by_cases g:t<d.length
  ·rw[List.getElem?_append_left g]
  ·rw[List.getElem?_append_right (by omega),getElem?_eq_none (l:=d) (by omega),getElem?_replicate];split<;>rfl
 have p:∃a,sH S i e F.results.toList=some a/\Q (bh a) e/\(x = .normal\/x = .ret):=by
  have k:zt (sH S i e F.results.toList) e Q->∃a,sH S i e F.results.toList=some a/\Q (bh a) e:=by
   intro b
   cases m:sH S i e F.results.toList with
   |none=>rw[m]at b;exact b.elim
   |some a=>rw[m]at b;exact⟨a,rfl,b⟩
  cases x with
  |normal=>obtain⟨a,g,o⟩:=k b;exact⟨a,g,o,.inl rfl⟩
  |ret=>obtain⟨a,g,o⟩:=k b;exact⟨a,g,o,.inr rfl⟩
  |_=>exact b.elim
 obtain⟨a,m,b,H⟩:=p;refine⟨bh a,e,⟨y+1,λn C=>?_⟩,b⟩;obtain⟨j,rfl⟩:∃j,n=j+1:=⟨n-1,by omega⟩
 obtain⟨A,z,E⟩:=w j j (by omega) (by omega) _ v;simp only[bn];rw[if_neg (Nat.not_le.2 q),s]
 grind[GP]
end
end
variable{A:Type}{B:Type}
section
section
variable (gl:Nat->Bool) (E:Fr)
theorem map_nil(f:A->B):[].map f=([]:List B):=rfl
theorem map_cons(f:A->B)(a:A)(l:List A):(a::l).map f=f a::l.map f:=rfl
end
section
variable (S:Sx) (E:Fr) (dst:Option Tmp) (ty:TypeId) (pos:String) (after:Array Edge) (guard:Option (Nat×Bool)) (h:aa) (K:VH)
theorem fV{o:Oper}(a:aZ o=false):wpOp S E o h K=Hu (bm S.P fb (dW S.gl E) o h) h K:=by grind[wpOp,aZ]
theorem Wy{P:Program}{ρ:Operand->Value}{o:Oper}(b:∀h,ba P ρ o=none->bm P fb ρ o h=none):Hu (bm P fb ρ o h) h K=sj (ba P ρ o) h K:=by
 cases a:ba P ρ o with
 |none=>rw[b h a];rfl
 |some v=>unfold bm;rw[a];rfl
def lG:Op->Bool
 |.move _|.assign _|.pick ..|.build ..|.nilCheck _|.binOp ..|.unOp ..|.makeInterface ..|.makeFunc ..|.fieldAddr ..|.field ..|.indexAddr ..|.index ..|.typeAssert ..|.extract .. =>true
 |.call { callee:= .builtin .max,.. }|.call { callee:= .builtin .min,.. }|.call { callee:= .builtin .cap,.. }=>true
 |_=>false
theorem QN{P:Program}{ρ:Operand->Value}{a:Op}(b:lG a=true)(h:aa)(c:ba P ρ ⟨dst,a,ty,pos,after,guard⟩=none):bm P fb ρ ⟨dst,a,ty,pos,after,guard⟩ h=none:=by
 unfold bm;rw[c];unfold lG at b;split at b<;>first|rfl|grind
theorem Ml{a:Op}(b:lG a=true):aZ ⟨dst,a,ty,pos,after,guard⟩=false:=by
 unfold lG at b;split at b<;>first|rfl|grind
theorem dg{a:Op}(b:lG a=true):wpOp S E ⟨dst,a,ty,pos,after,guard⟩ h K=sj (ba S.P (dW S.gl E) ⟨dst,a,ty,pos,after,guard⟩) h K:=by grind[fV,Ml,Wy,QN]
def aat(c x y:Value):Option Value:=match c with
 |.bool t=>some (if t then x else y)
 |_=>none
def aai(v:Value)(i:Nat):Option Value:=match v with
 |.tuple a=>a[i]?
 |_=>none
def bH(P:Program)(t:TypeId)(x i:Value):Option Value:=match P.underlying t,x,i with
  |some (.array a e),.agg cs,.int _ j=>match au P e with
   |some n=>if 0<=j/\j<(a:Int)then partOf P e cs (j.toNat*n)else none
   |none=>none
  |some .string,.string s,.int _ j=>if 0<=j then match s.data.toList[j.toNat]? with|some b=>some (.int .u8 b.toNat)|none=>none else none
  |_,_,_=>none
def ai(P:Program)(t:TypeId)(x i:Value):Option Value:=match P.underlying t,x,i with
  |some (.array b e),.pointer (some a),.int _ j=>match au P e with
   |some n=>if 0<=j/\j<(b:Int)then some (.pointer (some (a.add (j.toNat*n))))else none
   |none=>none
  |some (.slice e),.slice (some a) b _,.int _ j=>match au P e with
   |some n=>if 0<=j/\j<(b:Int)then some (.pointer (some (a.add (j.toNat*n))))else none
   |none=>none
  |_,_,_=>none
def af(P:Program)(s:TypeId)(x:Value)(f:Nat):Option Value:=match P.underlying s,x with
  |some (.struct b),.pointer (some a)=>match b[f]? with
   |some c=>if(au P c.type).any (· ≠0)then some (.pointer (some (a.add c.offset)))else none
   |none=>none
  |_,_=>none
def Tg(P:Program)(t:TypeId)(x:Value)(f:Nat):Option Value:=match P.underlying t,x with
  |some (.struct a),.agg cs=>match a[f]? with
   |some b=>partOf P b.type cs b.offset
   |none=>none
  |_,_=>none
noncomputable def TK(P:Program)(t:TypeId)(x:Value)(h:aa):Option Value:=match P.underlying t,x with
   |some .string,.string s=>some (.int .i64 s.data.toList.length)
   |some (.array n _),_=>some (.int .i64 n)
   |some (.slice _),.slice _ n _=>some (.int .i64 n)
   |some (.map ..),.map none=>some (.int .i64 0)
   |some (.map ..),.map (some r)=>match h.get r with
    |some (.map a)=>some (.int .i64 a.length)
    |_=>none
   |_,_=>none
theorem RC(c a b:Operand):wpOp S E ⟨dst,.pick c a b,ty,pos,after,guard⟩ h K=sj (aat (dW S.gl E c) (dW S.gl E a) (dW S.gl E b)) h K:=dg S E dst ty pos after guard h K rfl
theorem Nj(a:BinOp)(t u:TypeId)(x y:Operand):wpOp S E ⟨dst,.binOp a t x y u,ty,pos,after,guard⟩ h K=sj (ax S.P a t (dW S.gl E x) (dW S.gl E y)) h K:=dg S E dst ty pos after guard h K rfl
theorem RD(a:UnOp)(t:TypeId)(x:Operand):wpOp S E ⟨dst,.unOp a t x,ty,pos,after,guard⟩ h K=sj (E2 a (dW S.gl E x)) h K:=dg S E dst ty pos after guard h K rfl
theorem Hl(x:Operand)(i:Nat):wpOp S E ⟨dst,.extract x i,ty,pos,after,guard⟩ h K=sj (aai (dW S.gl E x) i) h K:=dg S E dst ty pos after guard h K rfl
theorem Nl(t:TypeId)(x i:Operand):wpOp S E ⟨dst,.index t x i,ty,pos,after,guard⟩ h K=sj (bH S.P t (dW S.gl E x) (dW S.gl E i)) h K:=dg S E dst ty pos after guard h K rfl
theorem CN(t:TypeId)(x i:Operand):wpOp S E ⟨dst,.indexAddr t x i,ty,pos,after,guard⟩ h K=sj (ai S.P t (dW S.gl E x) (dW S.gl E i)) h K:=dg S E dst ty pos after guard h K rfl
theorem CM(t:TypeId)(x:Operand)(f:Nat):wpOp S E ⟨dst,.fieldAddr t x f,ty,pos,after,guard⟩ h K=sj (af S.P t (dW S.gl E x) f) h K:=dg S E dst ty pos after guard h K rfl
theorem Nk(t:TypeId)(x:Operand)(f:Nat):wpOp S E ⟨dst,.field t x f,ty,pos,after,guard⟩ h K=sj (Tg S.P t (dW S.gl E x) f) h K:=dg S E dst ty pos after guard h K rfl
theorem Ww(a:Array Operand)(b:Array TypeId):wpOp S E ⟨dst,.call ⟨.builtin .max,a,b⟩,ty,pos,after,guard⟩ h K=sj (qq true (a.toList.map (dW S.gl E))) h K:=dg S E dst ty pos after guard h K rfl
theorem Wx(a:Array Operand)(b:Array TypeId):wpOp S E ⟨dst,.call ⟨.builtin .min,a,b⟩,ty,pos,after,guard⟩ h K=sj (qq false (a.toList.map (dW S.gl E))) h K:=dg S E dst ty pos after guard h K rfl
theorem oM(o:Oper)(b:aZ o=false)(c:ba S.P (dW S.gl E) o=none)(a:aT S.P (dW S.gl E) o=none)(d:cJ S.P fb (dW S.gl E) o h=none):wpOp S E o h K=sj (bj S.P (dW S.gl E) o h) h K:=by
 rw[fV S E h K b];unfold bm;rw[c];dsimp only
 cases bj S.P (dW S.gl E) o h with
 |some v=>rfl
 |none=>dsimp only;rw[a];dsimp only;rw[d];rfl
theorem Rz(t:TypeId)(a:Operand):wpOp S E ⟨dst,.load t a,ty,pos,after,guard⟩ h K=sj (ae S.P t h (dW S.gl E a)) h K:=oM S E h K _ rfl rfl rfl rfl
theorem Nm(t:TypeId)(x:Operand)(c b a:Option Operand):wpOp S E ⟨dst,.slice t x c b a,ty,pos,after,guard⟩ h K=sj (bE S.P t (dW S.gl E x) (c.map (dW S.gl E)) (b.map (dW S.gl E)) (a.map (dW S.gl E)) h) h K:=oM S E h K _ rfl rfl rfl rfl
theorem Wv(x:Operand)(t:TypeId):wpOp S E ⟨dst,.call ⟨.builtin .len,#[x],#[t]⟩,ty,pos,after,guard⟩ h K=sj (TK S.P t (dW S.gl E x) h) h K:=oM S E h K _ rfl rfl rfl rfl
theorem CL(o:Oper)(b:aZ o=false)(c:ba S.P (dW S.gl E) o=none)(a:bj S.P (dW S.gl E) o h=none)(d:aT S.P (dW S.gl E) o=none):wpOp S E o h K=Hu (cJ S.P fb (dW S.gl E) o h) h K:=by grind[fV,bm]
theorem Kl(s x:Operand)(t a:TypeId):wpOp S E ⟨dst,.call ⟨.builtin .append,#[s,x],#[t,a]⟩,ty,pos,after,guard⟩ h K=Hu (aJ S.P t a (dW S.gl E s) (dW S.gl E x) h) h K:=rfl
theorem No(t:TypeId)(a x:Operand):wpOp S E ⟨dst,.store t a x,ty,pos,after,guard⟩ h K=Hu (aj S.P t (dW S.gl E a) (dW S.gl E x) h) h K:=rfl
def wpA(r:Option (bu×(Nat->Value)))(h:aa)(K:VH):Prop:=match r with
 |some (B,f)=>K (f h.next) (h.push B)
 |none=>False
theorem lz(o:Oper)(b:aZ o=false)(c:ba S.P (dW S.gl E) o=none)(a:bj S.P (dW S.gl E) o h=none)(d:cJ S.P fb (dW S.gl E) o h=none):wpOp S E o h K=wpA (aT S.P (dW S.gl E) o) h K:=by
 rw[fV S E h K b];unfold bm;rw[c];dsimp only;rw[a];dsimp only
 cases aT S.P (dW S.gl E) o with
 |some r=>rfl
 |none=>dsimp only;rw[d];rfl
end
section
variable (P:Program) (t:TypeId) (k:IntKind) (a b:Int)
theorem NA(c:b≠0):ax P .quo t (.int k a) (.int k b)=some (.int k (k.wrap (a.tdiv b))):=by grind[ax]
theorem Xf(c:b≠0):ax P .rem t (.int k a) (.int k b)=some (.int k (a.tmod b)):=by grind[ax]
variable (x y:ByteArray)
end
end
structure bJ where
 i:Int
 o:Int
 w:List UInt8
 t:Int
structure fF where
 f:List UInt8
 an:List bJ
structure aG where
 kind:Int
 start:Int
 lead:List UInt8
 ak:List fF
def gV(a:bJ):List Value:=[.int .i64 a.i,.int .i64 a.o,strOf a.w,.int .i64 a.t]
def q0:bJ:=⟨0,0,[],0⟩
def zV(z:Int):Value:= .int .i64 z
def Lc:List Value->Option (List Int)
 |[]=>some []
 |.int .i64 z::r=>(Lc r).map (z::·)
 |_::_=>none
def zk(l:List Int):List Int:=l.mergeSort λx y=>decide (x<=y)
noncomputable def Ck:kS:=λ_ e h=>match e with
 | [.slice a n c]=>if n=0 then some (.tuple ⟨[]⟩,h)else match a with
   |some ⟨b,d,none⟩=>(match h.get b with
    |some (.cells cs t f true)=>if n<4611686018427387904/\d+n<=cs.length then(Lc ((cs.drop d).take n)).map λl=>(.tuple ⟨[]⟩,h.set b (.cells (cs.take d++(zk l).map zV++cs.drop (d+n)) t f true))else none
    |_=>none)
   |_=>none
 |_=>none
end Go.Ab
end
section
namespace Go.Ab
open Go Go.RowKit
variable{c:List Value}{h:aa}{W:World}{v:Value}{f:FuncId}{F:Func}{m:Nat}{j:Nat}{n:Nat}{q:Oper}{U:Array Oper}{H:Code}
section
variable {β:cI} {P:Program} {gl:Nat->Bool}
theorem Uo{r:bY}{a:Act}{o:Oper}{u:bp}(l:iC β h W)(t:Gl gl β)(s:aU β c a.tmps.toList)(w:aZ o=false)(b:bm P r (ev gl c) o h=some (v,u)):
  ∃d j g,Step β h W g (u.app h) j/\aB g v d/\((execOp a.eval o).run P W = .ok (.value d) j\/((execOp a.eval o).run P W = .ok .skip j/\d=undef)):=by
 have i:=xu (β:=β) t s;unfold bm at b;split at b
 ·next p m=>
  simp only[Option.some.injEq,Prod.mk.injEq]at b;obtain⟨rfl,rfl⟩:=b;obtain⟨d,e,k⟩:=pE i m W;exact⟨d,W,β,Step.refl l,k,.inl e⟩
 ·split at b
  ·next p m=>
   simp only[Option.some.injEq,Prod.mk.injEq]at b;obtain⟨rfl,rfl⟩:=b;obtain⟨d,e,k⟩:=pF i l m;exact⟨d,W,β,Step.refl l,k,.inl e⟩
  ·split at b
   ·next B f m=>
    simp only[Option.some.injEq,Prod.mk.injEq]at b;obtain⟨rfl,rfl⟩:=b;obtain⟨d,j,e,k⟩:=nJ i (w:=W) m;obtain⟨g,n,q⟩:=k.step l;exact⟨d,j,g,n,q,.inl e⟩
   ·obtain⟨d,j,g,e,k,n⟩:=xT i w l b;rcases e with e|⟨e,rfl⟩
    all_goals grind
theorem YX{cf:bY}{ops:Array Oper}{cs:List Frame}(Q:Exit->Act->List Frame->World->Prop):∀(b:List Oper)(i:Nat){β:cI}{p j:List Value}{a:Act}{h q:aa}{w:World},
  ops.toList.drop i=b->(b.all λo=> !aZ o)=true->fP P gl cf ops b p h=some (j,q)->iC β h w->Gl gl β->aU β p a.tmps.toList->
  (∀f y l,Step β h w l q y->aU l j f.tmps.toList->f.defers=a.defers->Q .normal f cs y)->wpOpsS P ops Q (List.range' i b.length) a cs w
 |[],i,β,p,j,a,h,q,w,E,_,e,n,s,g,r=>by
  simp only[fP,Option.some.injEq,Prod.mk.injEq]at e;obtain⟨rfl,rfl⟩:=e;exact r a w β (Step.refl n) g rfl
 | o::b,i,β,p,j,a,h,q,w,E,d,e,n,s,g,r=>by
  have H:ops[i]?=some o:=by
   have:(ops.toList.drop i)[0]?=some o:=by rw[E];rfl
   rw[List.getElem?_drop]at this;rw[<-getElem?_toList];simpa using this
  have t:ops.toList.drop (i+1)=b:=by rw[<-List.drop_drop,E];rfl
  simp only[all_cons,and_eq_true,not_eq_true']at d;simp only[length_cons,List.range'_succ,wpOpsS,H];simp only[fP]at e;split at e
  ·next C=>
   rw[kc g C];simp only[if_true];split at e
   ·next v u F=>
    obtain⟨I,y,l,k,G,c⟩:=Uo n s g d.1 F;have x:=YX (cs:=cs) Q b (i+1) t (by simpa using d.2) e k.na (s.mono k.le) (jy (g.mono k.le) o.dst G) λf D m A B z=>r f D m (k.trans A) B (z.trans (put_defers a o.dst I));rcases c with c|⟨c,rfl⟩
    ·rw[c];exact x
    ·rw[c];exact x
   ·cases e
  ·next C=>
   rw[kc g C];simp only[false_eq_true,if_false];exact YX (cs:=cs) Q b (i+1) t (by simpa using d.2) e n s (jy g o.dst (.undef β)) λf D m A B z=>r f D m A B (z.trans (put_defers a o.dst undef))
  grind
noncomputable def NU(P:Program)(f:Func)(e a:Array Oper)(c:Operand)(n:Nat):Bool:=
 match e.toList with
 | o::b=>match o.dst with
  | some d=>match fP P mJ fb e b ((List.replicate n fs++List.replicate (f.ntmps-n) undef).set d .nilIface) ⟨0,.nil⟩with
   | some (h,i)=>match fP P mJ fb a a.toList h i with
    |some (g,_)=>match ev mJ g c with
     |.bool false=>(b.all λo=> !aZ o)&&(a.toList.all λo=> !aZ o)&&o.guard.isNone&&f.results.size==0
     |_=>false
    |none=>false
   |none=>false
  |none=>false
 |[]=>false
theorem Yi{b:List Oper}{c:Operand}(T:P.funcs[f]?=some F)(R:F.body=some (.seq (.region m (q::b).toArray false) (.seq (.region j U false) (.cond c H .skip))))
  (Z:q.op = .call { callee:= .builtin .recover,args:= #[],argTypes:= #[] }) (a:NU P F (q::b).toArray U c n=true) (args:Array Value) (w:World) (S:args.size=n):
  CallsDIn Fence.wide 0 P f args .returning w λe X C=>(∃v,e = .returned v)/\X = .returning/\Below w.heap.size w C/\w.drawn<=C.drawn:=by
 subst S;unfold NU at a;simp only at a;split at a
 ·next d hd=>
  split at a
  ·next x3 h G=>
   split at a
   ·next x0 r N=>
    split at a
    ·next J=>
     simp only[and_eq_true,beq_iff_eq,Option.isNone_iff_eq_none]at a;obtain⟨⟨⟨y,x⟩,E⟩,B⟩:=a;refine vc T R λp cs W=>?_;refine wpS_seq (wpS_region ?_);have s:∀(l:List Value),aU β0 (List.replicate l.length fs) l:=λl=>⟨by simp,λi v Q h r=>by
      rw[getElem?_replicate]at h;split at h
      ·obtain rfl:=oI h;exact .fs Q
      ·cases h⟩
     have z:∀k,aU β0 (List.replicate k undef) (List.replicate k undef):=λk=>⟨rfl,λi v Q h r=>by
      rw[getElem?_replicate]at h r;split at h
      ·next Y=>rw[if_pos Y]at r;obtain rfl:=oI h;obtain rfl:=oI r;exact .undef _
      ·cases h⟩
     have O:aU β0 (List.replicate args.size fs++List.replicate (F.ntmps-args.size) undef) (args++Array.replicate (F.ntmps-args.size) undef).toList:=by
      simp only[Array.toList_append,Array.toList_replicate];have:=s args.toList;rw[length_toList]at this;exact this.append (z _)
     have L:∀t,Region.wanted q (yielded (q::b).toArray t)=true:=λt=>by simp[Region.wanted,E]
     have A:∀(ρ:Operand->Value),(execOp ρ q).run P w = .ok .recover w:=λρ=>by
      unfold execOp;simp only[Z,resolve,run_bind,Sem.run_pure,andThen_ok,invoke];rfl
     have u:recoverD (p::cs)=none:=by simp[recoverD,W]
     show wpOpsS P (q::b).toArray _ (List.range (b.length+1)) _ _ w;rw[List.range_eq_range',List.range'_succ];rw[wpOpsS];simp only[List.getElem?_toArray,List.getElem?_cons_zero,L,if_true,A,u];rw[hd];refine YX (cf:=fb) (gl:=mJ) _ b 1 (by simp) y G (GX 0 w) FT (jy O (some d) (v:= .nilIface) .nilIface) λa1 w1 x2 g M D=>?_;refine wpS_seq (wpS_region ?_);rw[<-length_toList,List.range_eq_range'];refine YX (cf:=fb) (gl:=mJ) _ U.toList 0 (by simp) x N g.na (FT.mono g.le) M λV w2 x1 o I K=>?_;refine wpS_cond (t:=false) ?_ ?_
     ·have:=xu (FT.mono (g.trans o).le) I c;rw[J]at this;exact this.iF
     ·show Code.wpS P .skip _ V (p::cs) w2;refine wpS_of_wp (wp_skip ?_);refine⟨K.trans (D.trans (put_defers _ _ _)),.returning,by cases p;simp_all,.tuple #[],?_,⟨⟨_,rfl⟩,rfl,sP (g.trans o),(g.trans o).tape.2⟩⟩;have:F.results = #[]:=Array.eq_empty_of_size_eq_zero B;simp[results,this]
    ·cases a
   ·cases a
  ·cases a
 grind
end
end Go.Ab
end
