/- Laws and walks that the proof leans on (part 2): AbCall; AbFrame; AbCongr; AbOrder; AbDraw; AbDraw2 and others. No condition. -/
import Derived.Test.YtnlccnpbjeiccaaGreatDoorPart1
import Derived.CallsIn
import Derived.Laws.Externs
import Derived.Below
import Derived.Attr
import Derived.Laws.Bits64
set_option linter.unusedVariables false
set_option linter.unusedSimpArgs false
set_option maxRecDepth 100000
open List (all_cons all_eq_true append_nil getElem?_eq_none length_cons length_nil map_congr_left mem_append mem_append_left mem_cons mem_cons_self mem_filter mem_range mem_singleton)
open Nat (beq_eq ble_eq blt_eq le_add_right le_succ lt_of_lt_of_le lt_or_ge mul_one zero_add)
open Option (map_eq_some_iff map_some)
open Array (foldl_toList getElem?_eq_getElem getElem?_toList length_toList)
open Bool (and_eq_true false_eq_true not_eq_true')
open Go.Result (andThen_ok)
open Go.IntKind (wrap)
section
namespace Go.Ab
open Go
variable{h:aa}{W:World}{I:bw}{G:Slot}{J:cO}{g:aa}
section
variable {β:cO} {P:Program} {gl:Nat->Bool}
def JI(a:Array Value):ResultVar->Sem Value
 |.tmp t=>pure (a.getD t undef)
 |.cell x t=>do loadVar t (<-asAddr (a.getD x undef))
theorem Mz(c:Func)(a:Array Value):results c a=(do let b <-c.results.mapM (JI a);pure (if h:b.size=1 then b[0]else .tuple b)):=by rfl
theorem pC{a:Act}{h:aa}{w:World}(i:iJ β h w){m:List Value}(f:aW β m a.tmps.toList):∀(l:List ResultVar){d:List Value},cB P m h l=some d->
  ∃b,(l.mapM (JI a.tmps)).run P w = .ok b w/\aW β d b
 |[],d,h=>by simp only[cB,Option.some.injEq]at h;subst h;exact⟨[],by simp,.nil β⟩
 |.tmp t::l,d,c=>by
  simp only[cB]at c;obtain⟨p,k,rfl⟩:=map_eq_some_iff.1 c;obtain⟨b,n,j⟩:=pC i f l k;have e:=f.getD t;rw[show a.tmps.toList.getD t undef=a.tmps.getD t undef by simp[List.getD,Array.getD_eq_getD_getElem?]]at e;refine⟨a.tmps.getD t undef::b,?_,.cons e j⟩
  grind[Sem.run_bind,Sem.run_pure,andThen_ok,JI]
 | .cell x t::l,d,c=>by
  simp only[cB]at c;split at c
  ·next v q=>
   obtain⟨p,k,rfl⟩:=map_eq_some_iff.1 c;obtain⟨b,n,j⟩:=pC i f l k;have e:=f.getD x;rw[show a.tmps.toList.getD x undef=a.tmps.getD x undef by simp[List.getD,Array.getD_eq_getD_getElem?]]at e;obtain⟨s,r,v',g,o⟩:=I0 (P:=P) i q e;refine⟨v'::b,?_,.cons o j⟩;rw[List.mapM_cons];simp only[Sem.run_bind,JI,r,asAddr,Sem.run_pure,andThen_ok,g,n]
  grind
theorem JM{fn:Func}{a:Act}(l:iJ β h W){f:List Value}(o:aW β f a.tmps.toList){d:List Value}(e:cB P f h fn.results.toList=some d):
  ∃v',(results fn a.tmps).run P W = .ok v' W/\aB β (cm d) v':=by
 obtain⟨b,m,c⟩:=pC (P:=P) l o fn.results.toList e;have p:(fn.results.mapM (JI a.tmps)).run P W = .ok b.toArray W:=by
  rw[Array.mapM_eq_mapM_toList];simp only[Sem.run_map,m,andThen_ok]
 refine⟨if h:b.toArray.size=1 then b.toArray[0]else .tuple b.toArray,?_,?_⟩
 ·grind[Mz,Sem.run_bind,andThen_ok,Sem.run_pure]
 ·match d,b,c with
  |[],b,c=>rw[c.dN];exact .tuple rfl λi v v' h=>by grind
  |[v],b,c=>
   obtain⟨v',r,rfl,j,e⟩:=c.cA;rw[e.dN];exact j
  |v::u::d,b,c=>
   have k:=c.1;have g:¬b.toArray.size=1:=by simp only[List.size_toArray];simp only[length_cons]at k;omega
   rw[dif_neg g];exact .tuple (by omega) λi x n q s=>c.2 i x n (by grind) (by grind)
theorem zw.Gy(h:zw β I G W){d:Option (List Deferred)}(q:W.heap[G.b]?=some (.deferred d)):False:=by
 cases I with
 |cells cs t i m=>obtain⟨_,_,_,g,k,n,_⟩:=h;grind
 |map l=>obtain⟨_,f,a,c,_⟩:=h;grind
 |loop o j p e b s=>obtain⟨_,r,c,_⟩:=h;grind
theorem Rk{w:World}(a:Step J g W β h w){b:Nat}{d l:Option (List Deferred)}(r:W.heap.size<=b)(j:w.heap[b]?=some (.deferred d)):Step J g W β h (w.putObj b (.deferred l)):=by
 refine⟨a.le,a.next,⟨λk c q=>?_,λk B c m n=>?_,a.nS.own,a.nS.wf⟩,?_,a.os,a.tape,a.output,λp f o=>?_,a.back,a.fresh,a.keys⟩
 ·rw[World.putObj_size];exact a.nS.lt k c q
 ·have i:=a.nS.blk k B c m n;refine i.of_heap (World.putObj_heap_other λe=>?_);rw[<-e]at j;exact i.Gy j
 ·grind[World.putObj_size]
 ·rw[World.putObj_heap_other (by omega)];exact a.kept p f o
theorem vD{F:Fence}{n:Nat}{fn:Func}{d f:cO}{g m:aa}{c:World}{q:List Value}{tmps:Array Value}{o:List Value}(i:cB P q m fn.results.toList=some o)(r:aW f q tmps.toList):
  ∀(h:List Nat)(e:World),h.Nodup->(∀b∈h,c.heap.size<=b/\e.heap[b]?=some (.deferred (some [])))->Step d g c f m e->LeavesInM F n P fn tmps (qB d g c (cm o) m) (h.map T3) .returning e
 |[],e,_,_,k=>by
  obtain⟨v',l,j⟩:=JM (P:=P) (fn:=fn) (a:={ tmps:=tmps,defers:=[] }) k.nS r i;exact⟨v',l,v',f,rfl,k,j⟩
 |b::h,e,t,s,k=>by
  obtain⟨l,j⟩:=s b (by simp);obtain⟨u,p⟩:=List.nodup_cons.1 t;refine⟨by simp,.inl ⟨b,_,rfl,run_takeDeferred j,?_⟩⟩;refine vD i r h _ p (λw v=>?_) (Rk k l j)
  grind[World.putObj_heap_other]
def jj(P:Program)(gl:Nat->Bool)(f:FuncId)(p:lK):Prop:=
 ∀i,nT P gl i->∀b h v d,p i b h=some (v,d)->∀β w (a:Array Value),iJ β h w->Gl gl β->aW β b a.toList->
  ∃g,P.funcs[f]?=some g/\((g.body.isSome=true/\Calls P f a w (qB β h w v d))\/
   (∃v' e c,(callFunc f a).run P w = .ok (.value v') e/\Step β h w c d e/\aB c v v'))
def oK(P:Program)(gl:Nat->Bool)(a:FuncId->Option lK):Prop:=∀f p,a f=some p->jj P gl f p
def Hz(P:Program)(gl:Nat->Bool):Prop:=∀b,nT P gl b->∀(f:FuncId)(a:Func)(c d:Code),P.funcs[f]?=some a->a.body=some c->Part d c->jZ P gl b d
theorem AO(Q:dV P){x:ck}(G:nT P gl x){N:Nat}{f:FuncId}{l:Func}{c:Code}(L:P.funcs[f]?=some l)(J:l.body=some c)(T:∀d,Part d c->jZ P gl x d)
  {j:List Value} {h u:aa} {E:List Value} {e:Exit} {z:List Value} (V:aU P gl x N c (j++List.replicate (l.ntmps-j.length) undef) h=some (e,E,u)) (R:e = .normal\/e = .ret)
  (y:cB P E u l.results.toList=some z) {w:World} {g:Array Value} (O:iJ β h w) (W:Gl gl β) (I:aW β j g.toList):
  Calls P f g w (qB β h w (cm z) u):=by
 refine(callsIn_wide (n:=0)).1 (callsIn_of_wp_marks (F:=Fence.wide) L J trivial ?_);have q:∀k,aW β (List.replicate k undef) (List.replicate k undef):=λk=>⟨rfl,λi v v' s t=>by
  rw[List.getElem?_replicate]at s t;split at s
  ·next S=>rw[if_pos S]at t;obtain rfl:=oI s;obtain rfl:=oI t;exact .undef β
  grind⟩
 have U:aW β (j++List.replicate (l.ntmps-j.length) undef) (g++Array.replicate (l.ntmps-g.size) undef).toList:=by
  have:g.size=j.length:=by rw[I.1];simp
  rw[this];simp only[Array.toList_append,Array.toList_replicate];exact I.append (q _)
 refine Fz (r:=none) Q G c (.inl rfl) T _ V O W U λa K X H A D=>?_;obtain⟨M,p,B,o⟩:=D;simp only[append_nil]at p;have m:=vD (P:=P) (F:=Fence.wide) (n:=0) (fn:=l) y A M K B (λb C=>⟨(o b C).1,(o b C).2.2.1⟩) H;rw[<-p]at m;rcases R with rfl|rfl
 ·exact m
 ·exact m
theorem Bv:∀(l:List (Tmp×Value))(T:Array Value),(l.foldl (λa (p:Tmp×Value)=>a.setIfInBounds p.1 p.2) T).toList=ry T.toList l
 |[],_=>rfl
 |p::l,T=>by
  simp only[List.foldl_cons,ry];rw[Bv l,ry,Array.toList_setIfInBounds]
theorem aW.set{l l':List Value}(h:aW β l l')(i:Nat){v v':Value}(e:aB β v v'):aW β (l.set i v) (l'.set i v'):=by
 refine⟨by simp[h.1],λj u d a b=>?_⟩;rw[List.getElem?_set]at a b;split at a
 ·grind
 ·next c=>rw[if_neg c]at b;exact h.2 j u d a b
theorem EV:∀(b:List Tmp){h d c a:List Value},aW β h d->aW β c a->aW β (ry h (b.zip c)) (ry d (b.zip a))
 |[],_,_,_,_,f,_=>by simp_all[ry]
 |p::b,_,_,[],_,f,e=>by rw[e.dN];simp_all[ry]
 |p::b,_,_,v::j,_,f,e=>by
  obtain⟨v',k,rfl,i,g⟩:=e.cA;exact EV b (f.set p i) g
theorem qa{a:ck}(b:∀(d c:Code),Part d c->cj c=true->jZ P gl a d){c:Code}(h:cj c=true):∀d,Part d c->jZ P gl a d:=λd e=>b d c e h
theorem Wv(hN:dV P){cf:ck}(L:nT P gl cf)(hD:∀(d c:Code),Part d c->cj c=true->jZ P gl cf d){N k:Nat}{s:List Value}{h h':aa}{v:Value}(j:oE (aU P gl cf N) k s h=some (v,h')){w:World}{i:Array Value}{p:Slot}
  (hs:iJ β h w) (hg:Gl gl β) (ha:aW β s i.toList) (hb:β k=some p):
  ∃fn tmps z q,(Instr.yield p.b i).run P w = .ok (.round p.b fn tmps z q) w/\∀(r:Option Nat)(n:Nat),RoundIn (jt r) n P p.b fn tmps z q w (qB β h w v h'):=by
 unfold oE at j;split at j
 ·next tm ps z q ok hk=>
  split at j
  ·next T=>
   split at j
   ·next z4 h1 S=>
    split at j
    ·next x6 y5 Z E y4 R=>
     split at j
     ·next e x h2 H=>
      split at j
      ·next z2 x8 x9 x3 G y7 b st K f=>
       simp only[Option.some.injEq,Prod.mk.injEq]at j;obtain⟨rfl,rfl⟩:=j;obtain⟨_,o,y0,z5,y9,M,rfl,rfl⟩:=hs.blk _ _ _ hk hb;have y1:i.size=o.params.size:=by
        have:=ha.1;rw[<-length_toList,<-this,T,<-M];simp
       refine⟨o.fn,_,o.assign,o.body,run_yield y0 y1,λr n=>?_⟩;simp only[jM,and_eq_true]at ok;obtain⟨⟨⟨x7,Y⟩,y6⟩,z0⟩:=ok;have x2:aW β (ry tm (ps.zip s)) ((o.params.zip i).foldl (λtmps (t,a)=>tmps.setIfInBounds t a) o.tmps).toList:=by
        rw[<-foldl_toList,Array.toList_zip,M];have:=EV ps y9 ha;rw[<-Bv (ps.zip i.toList) o.tmps]at this;exact this
       refine roundIn_of_wpIn trivial ?_;refine Fz (r:=some p.b) hN L o.assign (.inr y6) (qa hD x7) _ S hs hg (a:={ tmps:=_,defers:=[] }) x2 λa1 w1 Q m y8 _=>?_;have u:=m.le _ _ hb;obtain⟨_,O,x1,W,U,V,F,B⟩:=m.nS.blk _ _ _ R u;have C:Step Q h1 w1 Q (h1.set k (.loop .busy x6 y5 Z E y4)) (w1.putObj p.b (.loop { O with state:= .busy })):=
        Step.at_ m.nS R u rfl (wV _ _ _) ⟨by assumption,{ O with state:= .busy },World.putObj_heap_same (m.nS.lt _ _ u).2,rfl,U,V,F,B⟩
       refine⟨_,run_beginRound x1 W.1,?_⟩;have y:=m.trans C;refine Fz (r:=some p.b) hN L o.body (.inr z0) (qa hD Y) _ H C.nS (hg.mono y.le) y8 λa2 w2 y3 l z3 _=>?_;have A:=l.le _ _ u;obtain⟨x5,z6,x0,z1,x4,X,I,D⟩:=l.nS.blk _ _ _ K A;have J:=y.trans l;have fin:∀g:Option Code,b=g.isNone->KF st (if g.isNone then .ready else .done) g->
         ∃v w',(Instr.endRound p.b g).run P w2 = .ok v w'/\qB β h w (.bool b) (h2.set k (.loop st x8 x9 x3 G y7)) (.returned v) w':=λg hj y2=>by
        refine⟨_,_,run_endRound g x0,.bool g.isNone,y3,rfl,J.trans (Step.at_ l.nS K A rfl (wV _ _ _) ⟨x5,_,World.putObj_heap_same (l.nS.lt _ _ A).2,y2,x4,X,I,D⟩),?_⟩;rw[hj];exact .bool _
       cases e with
       |normal=>simp only[I4,Option.some.injEq,Prod.mk.injEq]at f;obtain⟨rfl,rfl⟩:=f;exact fin none rfl ⟨rfl,rfl⟩
       |ret=>simp only[I4,Option.some.injEq,Prod.mk.injEq]at f;obtain⟨rfl,rfl⟩:=f;exact fin (some .ret) rfl ⟨rfl,rfl⟩
       |exit id=>simp only[I4,Option.some.injEq,Prod.mk.injEq]at f;obtain⟨rfl,rfl⟩:=f;exact fin (some (.exit id)) rfl ⟨rfl,rfl⟩
       |_=>cases f
      ·cases j
     ·cases j
    ·cases j
   ·cases j
  ·cases j
 grind
def DJ(P:Program)(gl:Nat->Bool):Prop:=∀a,nT P gl a->∀(d c:Code),Part d c->cj c=true->jZ P gl a d
theorem Fw(t:dV P){A:FuncId->Option lK}(D:oK P gl A)(y:Hz P gl)(C:DJ P gl):∀n,nT P gl (bn P gl A n)
 |0=>⟨λf b h v u _ a=>by grind[bn],λk b h v u a=>by grind[bn]⟩
 | n+1=>by
  have g:=Fw t D y C n;refine⟨λf b h v u H a β w j m s r=>?_,λk b h v u a β w j I m s r e=>?_⟩
  ·simp only[bn]at a;rw[if_neg (by omega)]at a;split at a
   ·next p B=>exact D f p B _ g b h v u a β w j m s r
   ·split at a
    ·next x l=>
     split at a
     ·next c e=>
      refine⟨x,l,.inl ⟨by simp[e],?_⟩⟩;split at a
      ·next F G o=>
       obtain⟨E,i,q⟩:=map_eq_some_iff.1 a;simp only[Prod.mk.injEq]at q;obtain⟨rfl,rfl⟩:=q;exact AO t g l e (λd z=>y _ g f x c d l e z) o (.inl rfl) i m s r
      ·next F G o=>
       obtain⟨E,i,q⟩:=map_eq_some_iff.1 a;simp only[Prod.mk.injEq]at q;obtain⟨rfl,rfl⟩:=q;exact AO t g l e (λd z=>y _ g f x c d l e z) o (.inr rfl) i m s r
      ·cases a
     ·cases a
    grind
  ·simp only[bn]at a;rw[if_pos (by omega),Nat.add_sub_cancel_left]at a;exact Wv t g (C _ g) a m s r e
end
section
variable {β:cO} {P:Program}
structure wN(h h':aa):Prop where
 next:h.next=h'.next
 get:∀k,h.get k=h'.get k
theorem wN.refl(h:aa):wN h h:=⟨rfl,λ_=>rfl⟩
theorem wN.symm(e:wN h g):wN g h:=⟨e.next.symm,λk=>(e.get k).symm⟩
theorem iJ.same{h f:aa}{w:World}(e:wN h f)(b:iJ β h w):iJ β f w:=
 ⟨λk a g=>by rw[<-e.next];exact b.lt k a g,λk B a m d=>b.blk k B a (by rw[e.get];omega) d,
  λk j B o a i c m d l n p=>b.own k j B o a i c (by rw[e.get];omega) (by rw[e.get];omega) l n p,
  λk B g=>by rw[<-e.next];exact b.wf k B (by rw[e.get];omega)⟩
theorem Wr.same{h a:aa}(e:wN h a){b:Nat}:Wr β h b->Wr β a b:=λ⟨k,B,c,f,d⟩=>⟨k,B,c,by rw[<-e.get];omega,d⟩
theorem Step.same{h c m a:aa}{g:cO}{w l:World}(e:wN h c)(f:wN m a)(s:Step β h w g m l):Step β c w g a l:=
 ⟨s.le,by rw[<-e.next,<-f.next];exact s.next,s.nS.same f,s.size,s.os,s.tape,s.output,λb i o=>s.kept b i λd=>o (d.same e),λb i d=>(s.back b i (d.same f.symm)).same e,
  λk p n=>(s.fresh k p n).imp id λ⟨t,q⟩=>⟨by rw[<-e.next];omega,q.imp id λd=>d.same e⟩,
  λk B n r=>let⟨j,u⟩:=s.keys k B (by rw[f.get];omega) (by rw[e.next];omega);⟨j,by rw[<-e.get];omega⟩⟩
theorem iJ.sub(b:iJ β h W)(j:g.next=h.next)(c:∀k B,g.get k=some B->h.get k=some B):iJ β g W:=
 ⟨λk a f=>by rw[j];exact b.lt k a f,λk B a d e=>b.blk k B a (c k B d) e,λk i B m a n l d e o p q=>b.own k i B m a n l (c k B d) (c i m e) o p q,
  λk B f=>by rw[j];exact b.wf k B (c k B f)⟩
theorem Step.frame{E V V':aa}{F:World}(s:Step β g W J E F)(p:iJ β V W)(D:V.next=g.next)(x:V'.next=E.next)(R:Nat->bw->Prop)
  (u:∀k B,R k B->k<g.next/\g.get k=none) (n:∀k B,V.get k=some B↔g.get k=some B\/R k B) (l:∀k B,V'.get k=some B↔E.get k=some B\/R k B):Step β V W J V' F:=by
 have m:∀k a,k<g.next->J k=some a->β k=some a:=λk a f e=>by
  rcases s.fresh k a e with h|⟨h,_⟩
  all_goals omega
 have C:∀k B a,R k B->β k=some a->¬Wr β g a.b:=by
  rintro k B a H e ⟨G,N,I,c,d,q,o⟩;have r:G≠k:=by rintro rfl;rw[(u _ _ H).2]at c;cases c
  exact p.own G k N B I a r ((n _ _).2 (.inl c)) ((n _ _).2 (.inr H)) q e d o
 have A:∀b,Wr β g b->Wr β V b:=λb ⟨k,B,a,c,d⟩=>⟨k,B,a,(n _ _).2 (.inl c),d⟩
 refine⟨s.le,by rw[D,x];exact s.next,⟨?_,?_,?_,?_⟩,s.size,s.os,s.tape,s.output,λb e K=>s.kept b e λh=>K (A b h),?_,?_,?_⟩
 ·intro k a f;rw[x];exact s.nS.lt k a f
 ·intro k B a c d;rcases(l k B).1 c with c|c
  ·exact s.nS.blk k B a c d
  ·have e:=m k a (u _ _ c).1 d;exact((p.blk k B a ((n _ _).2 (.inr c)) e).mono s.le).of_heap (s.kept _ (p.lt k a e).2 (C k B a c e))
 ·intro k j B v a i r c d q o z;rcases(l k B).1 c with c|c
  ·rcases(l j v).1 d with d|d
   ·exact s.nS.own k j B v a i r c d q o z
   ·have e:=m j i (u _ _ d).1 o;intro L;exact C j v i d e (s.back _ (p.lt j i e).2 ⟨k,B,a,c,z,q,L⟩)
  ·have e:=m k a (u _ _ c).1 q;rcases(l j v).1 d with d|d
   ·rcases s.fresh j i o with y|⟨_,y|y⟩
    ·have w:=(p.lt j i y).1;obtain⟨t,M⟩:=s.keys j v d (by rw[<-D];exact w);exact p.own k j B t a i r ((n _ _).2 (.inr c)) ((n _ _).2 (.inl M)) e y z
    ·have:=(p.lt k a e).2;omega
    grind
   ·exact p.own k j B v a i r ((n _ _).2 (.inr c)) ((n _ _).2 (.inr d)) e (m j i (u _ _ d).1 o) z
 ·intro k B f;rw[x];rcases(l k B).1 f with f|f
  ·exact s.nS.wf k B f
  ·exact lt_of_lt_of_le (u _ _ f).1 s.next
 ·rintro b e ⟨k,B,a,c,d,q,o⟩;rcases(l k B).1 c with c|c
  ·exact A b (s.back b e ⟨k,B,a,c,d,q,o⟩)
  ·exact⟨k,B,a,(n _ _).2 (.inr c),d,m k a (u _ _ c).1 q,o⟩
 ·intro k a f;rcases s.fresh k a f with h|⟨c,d⟩
  all_goals grind
 ·intro k B f w;rcases(l k B).1 f with f|f
  ·obtain⟨t,O⟩:=s.keys k B f (by rw[<-D];exact w);exact⟨t,(n _ _).2 (.inl O)⟩
  grind
theorem oF.Sk{w M:World}(m:Step J h W β g w){B:bw}{f:Nat->Value}{v':Value}(p:oF β w B f v' M){k:Nat}(I:β k=none)(V:h.next<=k)(N:k<g.next):
  ∃t,Step J h W t (g.set k B) M/\aB t (f k) v'/\β.le t/\∀j,j≠k->t j=β j:=by
 obtain⟨l,O,K⟩:=p.new;have y:=m.nS;have u:β.le (β.ext k l):=cO.BM l I;obtain⟨U,Q⟩:=K _ k u (β.bW _ _);have L:∀a d,β a=some d->d.b<w.heap.size:=λa d I=>(y.lt a d I).2;have T:=m.size;refine⟨β.ext k l,⟨cO.le_trans m.le u,m.next,⟨?_,?_,?_,aa.wf_set y.wf B N⟩,by rw[p.size];omega,p.os.trans m.os,m.tape.trans p.tape,p.output.trans m.output,
  λb x P=>(p.kept b (by omega)).trans (m.kept b x P),?_,?_,?_⟩,Q,u,λj R=>β.dB l R⟩
 ·intro a d e;by_cases c:a=k
  ·subst c;rw[β.bW]at e;obtain rfl:=oI e;exact⟨N,by rw[p.size,O];omega⟩
  ·rw[β.dB l c]at e;have:=y.lt a d e;exact⟨this.1,by rw[p.size];omega⟩
 ·intro a C d i n;by_cases c:a=k
  ·subst c;rw[β.bW]at n;obtain rfl:=oI n;rw[g.dd]at i
   grind
  ·rw[g.bU k a B c]at i;rw[β.dB l c]at n;exact((y.blk a C d i n).mono u).of_heap (p.kept _ (L a d n))
 ·intro q s F G E D z i n o r S;by_cases A:q=k
  ·subst A;rw[β.bW]at o;obtain rfl:=oI o;rw[β.dB l (Ne.symm z)]at r
   grind
  ·by_cases v:s=k
   ·subst v;rw[β.bW]at r;obtain rfl:=oI r;rw[β.dB l z]at o
    grind
   ·rw[g.bU k q B A]at i;rw[g.bU k s B v]at n;rw[β.dB l A]at o;rw[β.dB l v]at r;exact y.own q s F G E D z i n o r S
 ·rintro b x ⟨a,C,d,i,n,o,r⟩;by_cases c:a=k
  ·subst c;rw[β.bW]at o
   grind
  ·rw[g.bU k a B c]at i;rw[β.dB l c]at o;exact m.back b x ⟨a,C,d,i,n,o,r⟩
 ·intro a d e;by_cases c:a=k
  ·subst c;rw[β.bW]at e
   grind
  ·rw[β.dB l c]at e;exact m.fresh a d e
 ·intro a C i H;rw[g.bU k a B (by omega)]at i;exact m.keys a C i H
end
variable{q:Oper}
section
variable {P:Program} {ρ ρ':Operand->Value}
theorem adk{l:List (Nat×Operand)}(h:∀x∈l.map (·.2),ρ x=ρ' x):l.map (λp=>(p.1,ρ p.2))=l.map (λp=>(p.1,ρ' p.2)):=
 map_congr_left λp a=>by grind
theorem aeG{r:Option Operand}(h:∀x∈r.toList,ρ x=ρ' x):r.map ρ=r.map ρ':=by
 cases r with
 |none=>rfl
 |some x=>grind
theorem aes{l:List (Nat×Operand)}(h:∀x∈l.map (·.2),ρ x=ρ' x)(q:Value->Bool):(l.all λp=>q (ρ p.2))=l.all λp=>q (ρ' p.2):=by grind
theorem GG(h:∀x∈q.op.operands,ρ x=ρ' x):aZ P ρ q=aZ P ρ' q:=by
 obtain⟨l,j,n,k,g,f⟩:=q
 cases j
 case call c=>
  obtain⟨d,e,m⟩:=c
  cases d with
  |builtin b=>
   have i:e.toList.map ρ=e.toList.map ρ':=map_congr_left λx a=>h x (by simpa[Op.operands,Call.operands]using a)
   cases b<;>simp only[aZ,i]
   split
   ·next x t a p=>rw[h x (by simp[Op.operands,Call.operands];exact Array.mem_of_getElem? a)]
   ·rfl
  |_=>rfl
 all_goals first
  |rfl
  |(simp only[Op.operands,Array.mem_append,List.mem_toArray,mem_cons,List.not_mem_nil,or_false,forall_eq_or_imp,forall_eq]at h;simp only[aZ,h];done)
  |skip
 case build t o=>
  simp only[aZ];rw[adk λx a=>h x (by simpa[Op.operands]using a)]
 grind[Array.map_congr_left,Op.operands,aZ]
theorem GH(h:∀x∈q.op.operands,ρ x=ρ' x):bj P ρ q g=bj P ρ' q g:=by
 obtain⟨l,i,n,k,e,d⟩:=q
 cases i
 case call c=>
  obtain⟨a,j,m⟩:=c
  cases a with
  |builtin b=>
   cases b<;>simp only[bj]
   split
   ·next x t f o=>rw[h x (by simp[Op.operands,Call.operands];exact Array.mem_of_getElem? f)]
   ·rfl
  |_=>rfl
 all_goals first
  |rfl
  |(simp only[Op.operands,Array.mem_append,List.mem_toArray,mem_cons,List.not_mem_nil,or_false,forall_eq_or_imp,forall_eq]at h;simp only[bj,h];done)
  |skip
 grind[aeG,Op.operands,bj]
theorem Dx(h:∀x∈q.op.operands,ρ x=ρ' x):aT P ρ q=aT P ρ' q:=by
 obtain⟨i,e,k,g,c,b⟩:=q
 cases e
 all_goals first
  |rfl
  |(simp only[Op.operands,List.mem_toArray,mem_cons,List.not_mem_nil,or_false,forall_eq_or_imp,forall_eq]at h;simp only[aT,h];done)
  |skip
 case buildSlice t j f=>
  have a:∀x∈f.toList.map (·.2),ρ x=ρ' x:=λx d=>h x (by simpa[Op.operands]using d);simp only[aT];rw[adk a,aes a]
 grind[aT,Op.operands]
theorem Jo{k:ck}(h:∀x∈q.op.operands,ρ x=ρ' x):cL P k ρ q g=cL P k ρ' q g:=by
 obtain⟨r,n,v,p,m,l⟩:=q
 cases n
 case call c=>
  obtain⟨e,a,u⟩:=c
  cases e with
  | builtin b=>
   have j:a.toList.map ρ=a.toList.map ρ':=map_congr_left λx d=>h x (by simpa[Op.operands,Call.operands]using d)
   cases b<;>simp only[cL,j]
   all_goals
    split
    ·next s x t t' d w=>
     have i:∀y∈a.toList,ρ y=ρ' y:=λy o=>h y (by simpa[Op.operands,Call.operands]using o);rw[d]at i;rw[i s (by simp),i x (by simp)]
    ·rfl
  |value f=>
   have j:a.toList.map ρ=a.toList.map ρ':=map_congr_left λx d=>h x (by simp[Op.operands,Call.operands];right;simpa using d);simp only[cL,j,h f (by simp[Op.operands,Call.operands])]
  |_=>rfl
 all_goals simp_all[Op.operands,cL]
end
end Go.Ab
end
section
namespace Go.Ab
open Go Region
variable{U:Array Oper}{i:Nat}{j:Nat}
structure Fm(ops:Array Oper)(L:List Nat):Prop where
 mem:∀i,i∈L↔i<ops.size
 nodup:L.Nodup
 aez:∀pre i suf,L=pre++i::suf->∀o,ops[i]?=some o->∀e∈o.after,binds .any e=true->e.on∈pre
theorem Pc{m:Region.Mode}{e:Edge}(h:binds .any e=true):binds m e=true:=by grind[binds]
def may(m:Region.Mode)(b:Array Oper)(a:Array Bool)(i:Nat):Prop:=
 a.getD i true=false/\∃o,b[i]?=some o/\∀e∈o.after,binds m e=true->a.getD e.on false=true
theorem tS{m:Region.Mode}{a:Array Bool}:
  i∈(List.range U.size).filter (λi=> !a.getD i true&&((U[i]?).map (·.after.all λe=> !binds m e||a.getD e.on false)).getD false)↔i<U.size/\may m U a i:=by
 simp only[mem_filter,mem_range,and_eq_true,not_eq_true',may]
 grind[Array.all_eq_true']
def left(b:Array Oper)(a:Array Bool):List Nat:=(List.range b.size).filter λi=> !a.getD i true
theorem Bx{l:Array Bool}(d:Bool)(a:i<l.size):(l.setIfInBounds i true).getD j d=if j=i then true else l.getD j d:=by
 simp only[Array.getD_eq_getD_getElem?,Array.getElem?_setIfInBounds]
 grind
theorem IM(m:Region.Mode)(k:Array Oper):
  ∀(q t:Nat)(c:Array Bool)(d:List Nat),c.size=k.size->(∀i,i∈d↔i<k.size/\c.getD i true=true)->d.Nodup->
   (∀g i r,d.reverse=g++i::r->∀o,k[i]?=some o->∀e∈o.after,binds m e=true->e.on∈g)->
   let L:=linearise.go m k q t c d
   (∀i,i∈L->i<k.size)/\L.Nodup/\∀g i r,L=g++i::r->∀o,k[i]?=some o->∀e∈o.after,binds m e=true->e.on∈g
 |0,t,c,d,H,w,F,K=>by grind[linearise.go]
 | q+1,t,c,d,H,w,F,K=>by
  simp only[linearise.go];split
  ·next i B=>
   have B:=List.mem_of_getElem? B;obtain⟨I,v,o,J,A⟩:=tS.1 B;have z:i<c.size:=by omega
   have M:i∉d:=λh=>by have:=((w i).1 h).2;rw[v]at this;cases this
   have s:∀e∈o.after,binds m e=true->e.on∈d.reverse:=λe p u=>by
    rw[List.mem_reverse,w];have y:=A e p u;have:e.on<c.size:=by
     rcases lt_or_ge e.on c.size with D|D
     ·exact D
     ·simp[Array.getD_eq_getD_getElem?,Array.getElem?_eq_none D]at y
    exact⟨by omega,by simp only[Array.getD_eq_getD_getElem?,getElem?_eq_getElem this]at y⊢;exact y⟩
   refine IM m k q (t/_) (c.setIfInBounds i true) (i::d) (by simpa using H) ?_ (List.nodup_cons.2 ⟨M,F⟩) ?_
   ·intro j;rw[mem_cons,w,Bx _ z];constructor
    ·rintro(rfl|⟨l,f⟩)
     ·exact⟨I,by simp⟩
     ·exact⟨l,by split<;>simp_all⟩
    ·rintro⟨l,f⟩;split at f
     ·next p=>exact .inl p
     ·exact .inr ⟨l,f⟩
   ·intro g j r x N n e p u;rw[List.reverse_cons]at x;rcases List.append_eq_append_iff.1 x with⟨E,l,f⟩|⟨C,l,f⟩
    ·cases E with
     |nil=>
      simp only[List.nil_append,List.cons.injEq]at f;obtain⟨rfl,rfl⟩:=f;rw[J]at n;obtain rfl:=oI n;rw[l,append_nil];exact s e p u
     |cons a E=>
      simp only[List.cons_append,List.cons.injEq]at f;obtain⟨_,f⟩:=f;have:=congrArg List.length f;simp at this
    ·cases C with
     |nil=>
      simp only[List.nil_append,List.cons.injEq]at f;obtain⟨rfl,rfl⟩:=f;rw[J]at n;obtain rfl:=oI n;have G:g=d.reverse:=by simpa using l.symm
      rw[G];exact s e p u
     |cons b C=>
      simp only[List.cons_append,List.cons.injEq]at f;obtain⟨rfl,_⟩:=f;exact K g j C l N n e p u
  grind
theorem Tr(m:Region.Mode)(b:Array Oper)(f:∀a:Array Bool,a.size=b.size->(∃i,i<b.size/\a.getD i true=false)->∃i,i<b.size/\may m b a i):
  ∀(c t:Nat)(a:Array Bool)(d:List Nat),a.size=b.size->(left b a).length<=c->(∀i,i<b.size->a.getD i true=true->i∈d)->
   ∀i,i<b.size->i∈linearise.go m b c t a d
 |0,t,a,d,q,x,A=>λi h=>by simp_all[linearise.go,left]
 | c+1,t,a,d,q,x,A=>by
  simp only[linearise.go];split
  ·next i k=>
   have k:=List.mem_of_getElem? k;obtain⟨s,l,_⟩:=tS.1 k;have g:i<a.size:=by omega
   refine Tr m b f c (t/_) (a.setIfInBounds i true) (i::d) (by grind) ?_ ?_
   ·have o:∀j,j∈left b (a.setIfInBounds i true)->j∈left b a/\j≠i:=by
     intro j e;simp only[left,mem_filter,mem_range,not_eq_true',Bx _ g]at e⊢;split at e
     ·exact absurd e.2 (by simp)
     ·next r=>exact⟨e,r⟩
    have C:i∈left b a:=mem_filter.2 ⟨mem_range.2 s,by rw[l];rfl⟩;have p:(left b (a.setIfInBounds i true)).Nodup:=List.Pairwise.filter _ List.nodup_range;have:(left b (a.setIfInBounds i true)).length<=((left b a).erase i).length:=by
     refine List.Nodup.length_le_of_subset p λj e=>?_;obtain⟨w,B⟩:=o j e;exact(List.mem_erase_of_ne B).2 w
    grind
   ·intro j e n;rw[Bx _ g]at n
    grind
  ·next u=>
   intro i k;rw[List.mem_reverse]
   cases n:a.getD i true with
   |true=>grind
   |false=>
    obtain⟨D,y,z⟩:=f a q ⟨i,k,n⟩;have v:=tS.2 ⟨y,z⟩
    grind[Nat.mod_lt]
theorem IW(b:Array Oper)(a:Array Bool):(left b a).length<=b.size:=by grind[left]
theorem En(m:Region.Mode)(a:Array Oper)(t:Nat):
  (∀i,i∈linearise m a t->i<a.size)/\(linearise m a t).Nodup/\∀b i c,linearise m a t=b++i::c->∀o,a[i]?=some o->∀e∈o.after,binds m e=true->e.on∈b:=by
 refine IM m a a.size t _ [] (by simp) (λi=>?_) List.nodup_nil (λb i c h=>by simp at h)
 simp_all
theorem Yu(m:Region.Mode)(a:Array Oper)(t:Nat)(c:∀b:Array Bool,b.size=a.size->(∃i,i<a.size/\b.getD i true=false)->∃i,i<a.size/\may m a b i):
  ∀i,i<a.size->i∈linearise m a t:=by
 refine Tr m a c a.size t _ [] (by simp) (IW _ _) λi d e=>?_
 simp_all
def KC(a:Array Oper):Prop:=∀i o,a[i]?=some o->∀e∈o.after,e.on<i\/binds .any e=false/\binds .text e=false
theorem aag{p:Nat->Prop}[DecidablePred p]:∀(n:Nat),(∃i,i<n/\p i)->∃i,i<n/\p i/\∀j,j<i->¬p j
 |0,⟨_,h,_⟩=>absurd h (by omega)
 |n+1,h=>by
  by_cases c:∃i,i<n/\p i
  ·obtain⟨i,d,b,a⟩:=aag n c;exact⟨i,by omega,b,a⟩
  grind
theorem ED{m:Region.Mode}(g:∀i o,U[i]?=some o->∀e∈o.after,binds m e=true->e.on<i):
  ∀a:Array Bool,a.size=U.size->(∃i,i<U.size/\a.getD i true=false)->∃i,i<U.size/\may m U a i:=by
 intro a j b;obtain⟨i,c,d,h⟩:=aag U.size b;refine⟨i,c,d,U[i],getElem?_eq_getElem c,λe k f=>?_⟩
 grind
theorem IE{p:Nat->Prop}[DecidablePred p]:∀(L:List Nat),(∃i∈L,p i)->∃a i b,L=a++i::b/\p i/\∀j∈a,¬p j
 |[],⟨_,h,_⟩=>by cases h
 | x::L,h=>by
  by_cases d:p x
  ·exact⟨[],x,L,rfl,d,λj k=>by grind⟩
  ·obtain⟨i,c,e⟩:=h;rcases mem_cons.1 c with rfl|c
   ·grind
   ·obtain⟨a,j,b,rfl,f,g⟩:=IE L ⟨i,c,e⟩
    grind
theorem QO{m:Region.Mode}(z:(linearise m U 0).length=U.size):
  ∀a:Array Bool,a.size=U.size->(∃i,i<U.size/\a.getD i true=false)->∃i,i<U.size/\may m U a i:=by
 intro a x k;obtain⟨n,t,s⟩:=En m U 0;have f:∀i,i<U.size->i∈linearise m U 0:=by
  intro i d;refine Classical.byContradiction λq=>?_;have g:(i::linearise m U 0).Nodup:=List.nodup_cons.2 ⟨q,t⟩;have:=List.Nodup.length_le_of_subset (l₂:=List.range U.size) g λj b=>by
   rcases mem_cons.1 b with rfl|b
   ·exact mem_range.2 d
   ·exact mem_range.2 (n j b)
  simp at this;omega
 obtain⟨i,d,r⟩:=k;obtain⟨o,j,h,c,v,y⟩:=IE (p:=λi=>a.getD i true=false) _ ⟨i,f i d,r⟩;have b:j<U.size:=n j (by rw[c];simp);refine⟨j,b,v,U[j],getElem?_eq_getElem b,λe u l=>?_⟩;have w:=s o j h c _ (getElem?_eq_getElem b) e u l
 grind
theorem tp(l:KC U)(v:departs U=true->(linearise .gc U 0).length=U.size)(g:Bool)(t:Nat):Fm U (schedule g U t):=by
 have b:∀(m:Region.Mode)(t:Nat),(∀a:Array Bool,a.size=U.size->(∃i,i<U.size/\a.getD i true=false)->∃i,i<U.size/\may m U a i)->Fm U (linearise m U t):=by
  intro m t u;obtain⟨r,s,q⟩:=En m U t;exact⟨λi=>⟨r i,Yu m U t u i⟩,s,λp i n h o f e d c=>q p i n h o f e d (Pc c)⟩
 have k:∀i o,U[i]?=some o->∀e∈o.after,binds .any e=true->e.on<i:=λi o f e d c=>by
  rcases l i o f e d with h|⟨h,_⟩
  all_goals grind
 have j:∀i o,U[i]?=some o->∀e∈o.after,binds .text e=true->e.on<i:=λi o f e d c=>by
  rcases l i o f e d with h|⟨_,h⟩
  all_goals grind
 unfold schedule;split
 ·exact b _ _ (ED k)
 ·next w=>
  split
  ·exact b _ _ (ED j)
  ·refine b _ _ (QO (v ?_))
   grind
end Go.Ab
end
section
namespace Go.Ab
open Go
variable{j:Nat}{q:Oper}{c:List Value}{v:Value}{h:aa}
section
variable {P:Program} {gl:Nat->Bool}
theorem rS{e:Value->Value->Bool}(c:∀a b,e a b=true->a=b):∀{x y:List Value},yN e x y=true->x=y
 |[],[],_=>rfl
 |[],_::_,h=>by grind[yN]
 |_::_,[],h=>by grind[yN]
 |a::x,b::y,h=>by
  simp only[yN,and_eq_true]at h;rw[c a b h.1,rS c h.2]
theorem mf:∀(d:Nat)(a b:Value),cZ d a b=true->a=b
 |0,_,_,h=>by grind[cZ]
 | d+1,a,b,h=>by
  have e:=mf d;have f:∀{x y:Array Value},yN (cZ d) x.toList y.toList=true->x=y:=λc=>Array.ext' (rS e c);unfold cZ at h;split at h
  ·simpa using h
  ·simp only[and_eq_true,decide_eq_true_eq]at h;rw[h.1,h.2]
  ·next x y=>
   simp only[decide_eq_true_eq]at h;have:x=y:=by
    obtain⟨x⟩:=x;obtain⟨y⟩:=y;congr 1;exact Array.ext' h
   rw[this]
  all_goals grind
structure AI(ops:Array Oper)(bf:Nat->Nat->Bool):Prop where
 lt:∀j i,bf j i=true->i<j
 trans:∀k j i,bf k j=true->bf j i=true->bf k i=true
 Ru:∀L,Fm ops L->∀pre j suf,L=pre++j::suf->∀i,bf j i=true->i∈pre
 names:∀(j:Nat)(o:Oper)(t:Tmp),ops[j]?=some o->Operand.tmp t∈o.op.operands->∀(i:Nat)(o':Oper),ops[i]?=some o'->o'.dst=some t->i=j\/bf j i=true\/bf i j=true
 guards:∀(j:Nat)(o:Oper)(i:Nat)(b:Bool),ops[j]?=some o->o.guard=some (i,b)->bf j i=true
 uniq:∀(i j:Nat)(o o':Oper)(t:Tmp),ops[i]?=some o->ops[j]?=some o'->o.dst=some t->o'.dst=some t->i=j
abbrev KD:=List Value×aa×List (Nat×bw)
def One(P:Program)(gl:Nat->Bool)(cf:ck)(ops:Array Oper)(bf:Nat->Nat->Bool)(base j:Nat)(o:Oper)(s:KD)(e:lz)(a:KD):Prop:=
 match e with
 |.skip=>dY ops s.1 o=some false/\a=(eZ s.1 o.dst undef,s.2.1,s.2.2)
 |.pure v=>dY ops s.1 o=some true/\aZ P (ev gl s.1) o=some v/\a=(eZ s.1 o.dst v,s.2.1,s.2.2)
 |.read v=>dY ops s.1 o=some true/\bj P (ev gl s.1) o s.2.1=some v/\a=(eZ s.1 o.dst v,s.2.1,s.2.2)
 |.alloc B v=>dY ops s.1 o=some true/\(∃f,aT P (ev gl s.1) o=some (B,f)/\v=f (base+j))/\a=(eZ s.1 o.dst v,s.2.1,(j,B)::s.2.2)
 | .qc v b=>dY ops s.1 o=some true/\(∃u,cL P cf (ev gl s.1) o (av s.2.1 base (s.2.2.filter λp=>bf j p.1))=some (v,u)/\b=u.app (av s.2.1 base (s.2.2.filter λp=>bf j p.1)))/\
   a=(eZ s.1 o.dst v,b,s.2.2.filter λp=> !bf j p.1)
theorem qI{cf:ck}{ops:Array Oper}{bf:Nat->Nat->Bool}{base:Nat}:∀(a:List Oper)(j:Nat)(s:KD)(b:List (List Value×lz))(d:KD),
  cW P gl cf ops bf base a j s.1 s.2.1 s.2.2=some (b,d)->∃(st:Nat->KD)(en:Nat->lz),st j=s/\st (j+a.length)=d/\b.length=a.length/\
   ∀i o,a[i]?=some o->One P gl cf ops bf base (j+i) o (st (j+i)) (en (j+i)) (st (j+i+1))/\b[i]?=some ((st (j+i)).1,en (j+i))
 |[],j,s,b,d,h=>by
  simp only[cW,Option.some.injEq,Prod.mk.injEq]at h;obtain⟨rfl,rfl⟩:=h;exact⟨λ_=>s,λ_=> .skip,rfl,rfl,rfl,λi o A=>by grind⟩
 | o::a,j,s,b,d,h=>by
  have k:∀(e:lz)(m:KD)(r:List (List Value×lz)×KD),One P gl cf ops bf base j o s e m->cW P gl cf ops bf base a (j+1) m.1 m.2.1 m.2.2=some r->((s.1,e)::r.1,r.2)=(b,d)->
    ∃(st:Nat->KD)(en:Nat->lz),st j=s/\st (j+(o::a).length)=d/\b.length=(o::a).length/\
     ∀i q,(o::a)[i]?=some q->One P gl cf ops bf base (j+i) q (st (j+i)) (en (j+i)) (st (j+i+1))/\b[i]?=some ((st (j+i)).1,en (j+i)):=by
   intro e m r t c p;obtain⟨st,en,x,y,w,z⟩:=qI a (j+1) m r.1 r.2 c;simp only[Prod.mk.injEq]at p;obtain⟨rfl,rfl⟩:=p;refine⟨λi=>if i=j then s else st i,λi=>if i=j then e else en i,by simp,?_,by grind,?_⟩
   ·grind
   ·grind
  simp only[cW]at h;split at h
  ·cases h
  ·next n=>
   obtain⟨r,c,g⟩:=map_eq_some_iff.1 h;exact k .skip (eZ s.1 o.dst undef,s.2.1,s.2.2) r ⟨n,rfl⟩ c g
  ·next n=>
   split at h
   ·next v l=>
    obtain⟨r,c,g⟩:=map_eq_some_iff.1 h;exact k (.pure v) (eZ s.1 o.dst v,s.2.1,s.2.2) r ⟨n,l,rfl⟩ c g
   ·split at h
    ·next v l=>
     obtain⟨r,c,g⟩:=map_eq_some_iff.1 h;exact k (.read v) (eZ s.1 o.dst v,s.2.1,s.2.2) r ⟨n,l,rfl⟩ c g
    ·split at h
     ·next B f l=>
      obtain⟨r,c,g⟩:=map_eq_some_iff.1 h;exact k (.alloc B (f (base+j))) (eZ s.1 o.dst (f (base+j)),s.2.1,(j,B)::s.2.2) r ⟨n,⟨f,l,rfl⟩,rfl⟩ c g
     ·split at h
      ·next v u l=>
       obtain⟨r,c,g⟩:=map_eq_some_iff.1 h;exact k (.qc v _) (eZ s.1 o.dst v,_,_) r ⟨n,⟨u,l,rfl⟩,rfl⟩ c g
      grind
def lz.ee:lz->Bool
 |.qc .. =>true
 |_=>false
structure Ny(P:Program)(gl:Nat->Bool)(cf:ck)(ops:Array Oper)(bf:Nat->Nat->Bool)(base:Nat)(st:Nat->KD)(en:Nat->lz):Prop where
 one:∀i o,ops[i]?=some o->One P gl cf ops bf base i o (st i) (en i) (st (i+1))
 chain:∀e₁ e₂,e₁<e₂->e₂<ops.size->(en e₁).ee=true->(en e₂).ee=true->bf e₂ e₁=true
 reads:∀j o v,ops[j]?=some o->en j = .read v->∀c,c<=ops.size->(∀e,e<c->(en e).ee=true->bf e j=false)->(∀e,c<=e->e<ops.size->(en e).ee=true->bf j e=false)->
  bj P (ev gl (st j).1) o (st c).2.1=some v
section
variable {cf:ck} {ops:Array Oper} {bf:Nat->Nat->Bool} {base:Nat} {st:Nat->KD} {en:Nat->lz}
theorem One.heap{s a:KD}{e:lz}(h:One P gl cf ops bf base j q s e a):(∀v b,e = .qc v b->a.2.1=b)/\(e.ee=false->a.2.1=s.2.1):=by
 cases e<;>simp only[One]at h
 all_goals grind[lz.ee]
theorem One.tm{s a:KD}{e:lz}(h:One P gl cf ops bf base j q s e a):a.1=eZ s.1 q.dst e.val:=by
 cases e<;>simp only[One]at h
 ·rw[h.2];rfl
 ·rw[h.2.2];rfl
 ·rw[h.2.2];rfl
 ·rw[h.2.2];rfl
 ·rw[h.2.2];rfl
theorem oT(b:∀k j i,bf k j=true->bf j i=true->bf k i=true):∀(a:List (List Value×lz))(i x:Nat)(c:aa),chained bf ((x,c)::dI a i)=true->
  ∀k r,a[k]?=some r->r.2.ee=true->bf (i+k) x=true
 |[],i,x,c,h,k,r,f,d=>by grind
 | (l,e)::a,i,x,c,h,k,r,f,d=>by
  cases e with
  | qc v g=>
   simp only[dI,chained,and_eq_true]at h
   cases k with
   |zero=>grind
   |succ k=>
    have:=oT b a (i+1) i g h.2 k r (by simpa using f) d
    grind
  | _=>
   simp only[dI]at h
   cases k with
   |zero=>grind[lz.ee]
   |succ k=>
    have:=oT b a (i+1) x c h k r (by simpa using f) d
    grind
theorem Fy{x:Nat×aa}{l:List (Nat×aa)}(h:chained bf (x::l)=true):chained bf l=true:=by
 cases l with
 |nil=>rfl
 |cons y l=>simp_all[chained]
theorem sU(g:∀k j i,bf k j=true->bf j i=true->bf k i=true):∀(c:List (List Value×lz))(i:Nat),chained bf (dI c i)=true->
  ∀b a f d,b<a->c[b]?=some f->c[a]?=some d->f.2.ee=true->d.2.ee=true->bf (i+a) (i+b)=true
 |[],i,h,b,a,f,d,m,l,p,o,q=>by grind
 | (t,e)::c,i,h,b,a,f,d,m,l,p,o,q=>by
  cases a with
  |zero=>omega
  | succ a=>
   have n:c[a]?=some d:=by simpa using p
   cases b with
   |zero=>
    simp only[List.getElem?_cons_zero,Option.some.injEq]at l;subst l
    cases e with
    |qc v r=>grind[oT,dI]
    |_=>grind[lz.ee]
   | succ b=>
    have s:chained bf (dI c (i+1))=true:=by
     cases e with
     |qc v r=>simp only[dI]at h;exact Fy h
     |_=>simpa only[dI]using h
    have:=sU g c (i+1) s b a f d (by omega) (by simpa using l) n o q
    grind
theorem rp(a:hH P gl q c v h=true):bj P (ev gl c) q h=some v:=by grind[mf,hH]
theorem lW{j:Nat}{o:Oper}{w:List Value}{v:Value}{N:Nat}(C:j<N)(m:∀c,c<=N->(∀e,j<=e->e<c->(en e).ee=false)->(∀e,c<=e->e<j->(en e).ee=false)->bj P (ev gl w) o (st c).2.1=some v):
  ∀(a:List (List Value×lz))(i:Nat)(b:Bool),(∀k r,a[k]?=some r->r.2=en (i+k))->i+a.length=N->
  (∀k,i<=k->k<i+a.length->(∀v s,en k = .qc v s->(st (k+1)).2.1=s)/\((en k).ee=false->(st (k+1)).2.1=(st k).2.1))->
  (b=true->∀e,j<=e->e<i->(en e).ee=false)->
  jz P gl bf j o w v (st i).2.1 (dI a i) b=true->∀c,i<=c->c<=i+a.length->(∀e,i<=e->e<c->(en e).ee=true->bf e j=false)->
  (∀e,c<=e->e<i+a.length->(en e).ee=true->bf j e=false)->bj P (ev gl w) o (st c).2.1=some v
 |[],i,b,q,A,g,H,h,c,F,B,z,t=>by
  simp only[dI,jz,Bool.or_eq_true]at h;simp only[length_nil]at B A
  grind[rp]
 | (D,e)::a,i,b,q,A,g,H,h,c,F,B,z,t=>by
  simp only[length_cons]at B t g A;have G:e=en i:=q 0 (D,e) rfl;have n:∀k r,a[k]?=some r->r.2=en (i+1+k):=λk r O=>by
   rw[show i+1+k=i+(k+1) by omega];exact q (k+1) r (by grind)
  have l:∀k,i+1<=k->k<i+1+a.length->_:=λk K I=>g k (by omega) (by omega)
  cases J:e.ee with
  | true=>
   cases e with
   | qc u s=>
    simp only[dI,jz,and_eq_true,Bool.or_eq_true]at h;have x:=(g i (by omega) (by omega)).1 u s G.symm;by_cases E:c=i
    ·grind[blt_eq,rp]
    ·rcases h.2 with p|p
     ·grind
     ·rw[<-x]at p;refine lW C m a (i+1) _ n (by omega) l ?_ p c (by omega) (by omega) (λe f d=>z e (by omega) d) (λe f d=>t e f (by omega))
      grind[blt_eq]
   |_=>grind[lz.ee]
  | false=>
   have x:=(g i (by omega) (by omega)).2 (by grind);have p:jz P gl bf j o w v (st (i+1)).2.1 (dI a (i+1)) b=true:=by
    rw[x]
    cases e with
    |qc u s=>grind[lz.ee]
    |_=>grind[dI]
   have y:b=true->∀e,j<=e->e<i+1->(en e).ee=false:=λM L f d=>by grind
   by_cases E:c=i
   ·subst E;rw[<-x];exact lW C m a (c+1) b n (by omega) l y p (c+1) (by omega) (by omega) (λe f d=>by omega) (λe f d=>t e (by omega) (by omega))
   ·exact lW C m a (i+1) b n (by omega) l y p c (by omega) (by omega) (λe f d=>z e (by omega) d) (λe f d=>t e f (by omega))
theorem tj{f:aa}{d:List (Nat×aa)}:∀(c:List Oper)(a:List (List Value×lz))(j:Nat),fP P gl bf f d c a j=true->
  ∀(i:Nat)(o:Oper)(b:List Value)(v:Value),c[i]?=some o->a[i]?=some (b,.read v)->jz P gl bf (j+i) o b v f d true=true
 |[],_,_,_,i,o,b,v,g,_=>by grind
 |_::_,[],_,_,i,o,b,v,_,k=>by grind
 | n::c,(m,e)::a,j,h,i,o,b,v,g,k=>by
  have l:fP P gl bf f d c a (j+1)=true:=by
   cases e<;>simp only[fP,and_eq_true]at h<;>first|exact h|grind
  cases i with
  |zero=>simp_all[fP]
  |succ i=>
   have:=tj c a (j+1) l i o b v (by simpa using g) (by simpa using k)
   grind
theorem Ik(S:AI ops bf){B z:List Value}{h N:aa}(p:rQ P gl cf ops bf B h=some (z,N)):
  ∃st en,Ny P gl cf ops bf h.next st en/\st 0=(B,{ h with next:=h.next+ops.size },[])/\(st ops.size).1=z/\N=av (st ops.size).2.1 h.next (st ops.size).2.2:=by
 unfold rQ at p;split at p
 ·next f F T V W=>
  split at p
  ·next s=>
   simp only[and_eq_true]at s;simp only[Option.some.injEq,Prod.mk.injEq]at p;obtain⟨rfl,rfl⟩:=p;obtain⟨st,en,L,q,H,g⟩:=qI (P:=P) (gl:=gl) (cf:=cf) ops.toList 0 (B,{ h with next:=h.next+ops.size },[]) f (F,T,V) W;simp only[zero_add,length_toList,getElem?_toList]at q H g;refine⟨st,en,⟨λi o n=>(g i o n).1,?_,?_⟩,L,by rw[q],by rw[q]⟩
   ·intro x w b K O Q;have:=sU S.trans f 0 s.1 x w _ _ b (g x _ (getElem?_eq_getElem (by omega))).2 (g w _ (getElem?_eq_getElem K)).2 O Q;simpa using this
   ·intro j o v n A c X J G;have u:=(g j o n).2;rw[A]at u;have C:=tj ops.toList f 0 s.2 j o _ v (by simpa using n) u;rw[zero_add]at C;have U:(st 0).2.1={ h with next:=h.next+ops.size }:=by rw[L]
    rw[<-U]at C;have m:∀c d,c+d<=ops.size->(∀e,c<=e->e<c+d->(en e).ee=false)->(st (c+d)).2.1=(st c).2.1:=by
     intro c d
     induction d with
     |zero=>intros;rfl
     |succ d R=>
      intro Z D;have:=((g (c+d) _ (getElem?_eq_getElem (by omega))).1).heap.2 (D (c+d) (by omega) (by omega));rw[show c+(d+1)=c+d+1 by omega,this];exact R (by omega) λe a t=>D e a (by omega)
    have I:j<ops.size:=(Array.getElem?_eq_some_iff.1 n).1;have l:=(g j o n).1;rw[A]at l;simp only[One]at l;refine lW (st:=st) (en:=en) I ?_ f 0 true (λk r y=>by
      have b:k<ops.size:=by rw[<-H];exact(List.getElem?_eq_some_iff.1 y).1
      have:=(g k _ (getElem?_eq_getElem b)).2;rw[this]at y;obtain rfl:=oI y;simp) (by omega)
     (λk _ y=>by
      have b:k<ops.size:=by omega
      exact((g k _ (getElem?_eq_getElem b)).1).heap) (λ_ e _ he=>by omega) C c (by omega) (by omega) (λe _=>J e) (λe a t=>G e a (by omega))
    intro c X M E;rcases lt_or_ge j c with b|Y
    ·have:=m j (c-j) (by omega) λe a t=>M e a (by omega);rw[show j+(c-j)=c by omega]at this;rw[this];exact l.2.1
    ·have:=m c (j-c) (by omega) λe a t=>E e a (by omega);rw[show c+(j-c)=j by omega]at this;rw[<-this];exact l.2.1
  ·cases p
 grind
end
end
variable{x:List Nat}{J:cO}
section
variable {P:Program} {gl:Nat->Bool}
theorem mD{h:aa}{base:Nat}:∀(R:List (Nat×bw)),(∀i B a,(i,B)∈R->(i,a)∈R->B=a)->(∀i B,(i,B)∈R->h.get (base+i)=none)->
  ∀k B,(av h base R).get k=some B↔h.get k=some B\/ ∃i,k=base+i/\(i,B)∈R
 |[],_,_,k,B=>by simp[av]
 |(j,c)::R,e,d,k,B=>by
  have g:=mD R (λi B a b f=>e i B a (List.mem_cons_of_mem _ b) (List.mem_cons_of_mem _ f)) (λi B b=>d i B (List.mem_cons_of_mem _ b)) k B;simp only[av,aa.aw]
  grind
theorem fF{h:aa}{base:Nat}:∀(R:List (Nat×bw)),(av h base R).next=h.next
 |[]=>rfl
 |_::R=>fF R
theorem iU(a:List Value)(d:Option Tmp)(v:Value):(eZ a d v).length=a.length:=by cases d<;>simp[eZ]
theorem GR{d:Option Tmp}{t:Tmp}(h:d≠some t):(eZ c d v)[t]?=c[t]?:=by
 cases d with
 |none=>rfl
 |some d=>simp_all[eZ]
theorem EF{t:Tmp}(h:t<c.length):(eZ c (some t) v)[t]?=some v:=by grind[eZ]
section
variable {cf:ck} {ops:Array Oper} {bf:Nat->Nat->Bool} {base:Nat} {st:Nat->KD} {en:Nat->lz}
theorem Ny.jW(a:Ny P gl cf ops bf base st en):∀i,i<=ops.size->(st i).1.length=(st 0).1.length
 |0,_=>rfl
 |i+1,h=>by
  rw[(a.one i _ (getElem?_eq_getElem (by omega))).tm,iU];exact a.jW i (by omega)
theorem Ny.Nb(e:Ny P gl cf ops bf base st en)(t:Tmp):∀i,i<=ops.size->(∀(b:Nat)(a:Oper),b<i->ops[b]?=some a->a.dst≠some t)->(st i).1[t]?=(st 0).1[t]?
 |0,_,_=>rfl
 |i+1,h,c=>by
  have d:=getElem?_eq_getElem (xs:=ops) (i:=i) (by omega);rw[(e.one i _ d).tm,GR (c i _ (by omega) d)];exact e.Nb t i (by omega) λb a g f=>c b a (by omega) f
theorem Ny.Hg(j:AI ops bf)(e:Ny P gl cf ops bf base st en){t:Tmp}(l:t<(st 0).1.length){b:Nat}{d:Oper}(a:ops[b]?=some d)(f:d.dst=some t):∀i,i<=ops.size->b<i->(st i).1[t]?=some (en b).val
 |0,_,h=>absurd h (by omega)
 |i+1,h,m=>by
  have c:=getElem?_eq_getElem (xs:=ops) (i:=i) (by omega);rw[(e.one i _ c).tm];by_cases k:b=i
  ·subst k;rw[a]at c;obtain rfl:=oI c;rw[f,EF (by rw[e.jW _ (by omega)];omega)]
  ·rw[GR λg=>k (j.uniq b i d _ t a c f g)];exact e.Hg j l a f i (by omega) (by omega)
theorem Ny.yf(b:Ny P gl cf ops bf base st en){c:Nat}:∀(d:Nat),c+d<=ops.size->(∀e,c<=e->e<c+d->(en e).ee=false)->(st (c+d)).2.1=(st c).2.1
 |0,_,_=>rfl
 |d+1,h,a=>by
  rw[show c+(d+1)=c+d+1 by omega,(b.one (c+d) _ (getElem?_eq_getElem (by omega))).heap.2 (a _ (by omega) (by omega))];exact b.yf d (by omega) λe f g=>a e f (by omega)
def zE(bf:Nat->Nat->Bool)(en:Nat->lz)(c i:Nat)(B:bw):Prop:=(∃v,en i = .alloc B v)/\∀e,e<c->(en e).ee=true->bf e i=false
theorem Ny.abt(p:AI ops bf)(q:Ny P gl cf ops bf base st en)(t:(st 0).2.2=[]):∀m,m<=ops.size->∀i B,(i,B)∈(st m).2.2↔i<m/\zE bf en m i B
 |0,_,i,B=>by grind
 | m+1,h,i,B=>by
  have l:=q.abt p t m (by omega) i B;have a:=q.one m _ (getElem?_eq_getElem (by omega));have f:(en m).ee=false->(∀B v,en m≠ .alloc B v)->(i<m+1/\zE bf en (m+1) i B↔i<m/\zE bf en m i B):=λx w=>by
   constructor
   ·rintro⟨k,⟨v,c⟩,d⟩;refine⟨?_,⟨v,c⟩,λe j=>d e (by omega)⟩
    grind
   ·rintro⟨k,c,d⟩;refine⟨by omega,c,λe j g=>?_⟩
    grind
  cases b:en m with
  |skip=>
   rw[b]at a;simp only[One]at a;rw[a.2,l,f (by rw[b];rfl) (by grind)]
  |pure v=>
   rw[b]at a;simp only[One]at a;rw[a.2.2,l,f (by rw[b];rfl) (by grind)]
  |read v=>
   rw[b]at a;simp only[One]at a;rw[a.2.2,l,f (by rw[b];rfl) (by grind)]
  | alloc s v=>
   rw[b]at a;simp only[One]at a;rw[a.2.2];simp only[mem_cons,Prod.mk.injEq];rw[l];constructor
   ·rintro(⟨rfl,rfl⟩|⟨k,c,d⟩)
    ·refine⟨by omega,⟨v,b⟩,λe j _=>?_⟩
     cases r:bf e i with
     |false=>rfl
     |true=>have:=p.lt _ _ r;omega
    ·refine⟨by omega,c,λe j g=>?_⟩;rcases lt_or_ge e m with n|n
     ·grind
     ·obtain rfl:e=m:=by omega
      rw[b]at g;cases g
   ·rintro⟨k,⟨v',c⟩,d⟩;rcases lt_or_ge i m with n|n
    ·exact .inr ⟨n,⟨v',c⟩,λe j=>d e (by omega)⟩
    grind
  | qc v y=>
   rw[b]at a;simp only[One]at a;rw[a.2.2];simp only[mem_filter,not_eq_true'];rw[l];constructor
   ·rintro⟨⟨k,c,d⟩,n⟩;refine⟨by omega,c,λe j g=>?_⟩
    grind
   ·rintro⟨k,⟨v',c⟩,d⟩;have o:i<m:=by
     rcases lt_or_ge i m with u|u
     ·omega
     ·grind
    exact⟨⟨o,⟨v',c⟩,λe j=>d e (by omega)⟩,d m (by omega) (by rw[b];rfl)⟩
def R0(ops:Array Oper)(en:Nat->lz)(b:List Value)(S:List Nat)(c:cO)(a:Act):Prop:=
 a.tmps.size=b.length/\∀(t:Tmp)(v':Value),a.tmps[t]?=some v'->(∀(i:Nat)(o:Oper),i∈S->ops[i]?=some o->o.dst=some t->aB c (en i).val v')/\
  ((∀(i:Nat)(o:Oper),i∈S->ops[i]?=some o->o.dst≠some t)->∀v,b[t]?=some v->aB c v v')
theorem R0.mono{b:cO}{a:Act}(h:R0 ops en c x J a)(d:J.le b):R0 ops en c x b a:=
 ⟨h.1,λt v' g=>⟨λi o e f j=>((h.2 t v' g).1 i o e f j).mono d,λe v f=>((h.2 t v' g).2 e v f).mono d⟩⟩
theorem R0.put(r:AI ops bf){c:List Value}{S:List Nat}{g:cO}{a:Act}(h:R0 ops en c S g a){j:Nat}{o:Oper}(p:ops[j]?=some o){v':Value}(v:aB g (en j).val v'):R0 ops en c (S++[j]) g (a.put o.dst v'):=by
 refine⟨by cases e:o.dst<;>simp[Act.put,h.1],λt u b=>?_⟩;by_cases e:o.dst=some t
 ·have k:u=v':=by
   rw[e]at b;simp only[Act.put,Array.getElem?_setIfInBounds,if_true]at b;split at b
   ·exact(oI b).symm
   ·cases b
  subst k;refine⟨λi s _ n q=>?_,λl=>absurd e (l j o (by simp) p)⟩;obtain rfl:=r.uniq i j s o t n p q e;omega
 ·have m:a.tmps[t]?=some u:=by
   cases f:o.dst with
   |none=>rw[f]at b;exact b
   |some d=>
    rw[f]at b e;simp only[Act.put,Array.getElem?_setIfInBounds]at b;rw[if_neg (by rintro rfl;exact e rfl)]at b;exact b
  obtain⟨w,n⟩:=h.2 t u m
  grind
theorem R0.aeY(d:AI ops bf)(y:Ny P gl cf ops bf base st en){L l m:List Nat}{j:Nat}(p:Fm ops L)(q:L=l++j::m){r:cO}{a:Act}(h:R0 ops en (st 0).1 l r a)(M:Gl gl r){o:Oper}(w:ops[j]?=some o):
  ∀x∈o.op.operands,aB r (ev gl (st j).1 x) (a.eval x):=by
 have N:j<ops.size:=(Array.getElem?_eq_some_iff.1 w).1;intro x C
 cases x with
 | tmp t=>
  simp only[ev,Act.eval];by_cases B:t<(st 0).1.length
  ·have k:t<a.tmps.size:=by rw[h.1];exact B
   obtain⟨D,I⟩:=h.2 t _ (getElem?_eq_getElem k);rw[Array.getD_eq_getD_getElem?,getElem?_eq_getElem k,Option.getD_some];by_cases E:∃(i:Nat)(e:Oper),i∈l/\ops[i]?=some e/\e.dst=some t
   ·obtain⟨i,e,F,b,n⟩:=E;have s:i<j:=by
     rcases d.names j o t w C i e b n with rfl|c|c
     ·have:=p.nodup;rw[q]at this;exact absurd rfl (List.nodup_append.1 this |>.2.2 i F i mem_cons_self)
     ·exact d.lt _ _ c
     ·obtain⟨K,G,rfl⟩:=List.append_of_mem F;have:=d.Ru L p K i (G++j::m) (by rw[q];simp) j c;have u:=p.nodup;rw[q]at u;exact absurd rfl ((List.nodup_append.1 u).2.2 j (mem_append_left _ this) j mem_cons_self)
    rw[gD,y.Hg d B b n j (by omega) s]
    grind
   ·have H:=y.Nb t j (by omega) λA e s b n=>by
     rcases d.names j o t w C A e b n with rfl|c|c
     ·omega
     ·exact E ⟨A,e,d.Ru L p l j m q A c,b,n⟩
     ·have:=d.lt _ _ c;omega
    grind
  ·have k:¬t<a.tmps.size:=by rw[h.1];exact B
   rw[gD,getElem?_eq_none (by rw[y.jW j (by omega)];grind),Array.getD_eq_getD_getElem?,Array.getElem?_eq_none (Nat.le_of_not_lt k)];exact .undef r
 |const v=>
  simp only[ev,Act.eval];split
  ·next z=>exact .mJ z
  ·exact .jE v
 | global g=>
  simp only[ev,Act.eval];split
  ·next z=>
   obtain⟨Q,D,I,O,J⟩:=M g z;have:=aB.ptr (i:=0) D J
   grind
  ·exact .jE _
 |func f=>
  simp only[ev,Act.eval];exact .func rfl rfl rfl (λi v v' h=>by grind) (λi v v' h=>by grind)
theorem R0.wanted(m:AI ops bf)(w:Ny P gl cf ops bf base st en){L k q:List Nat}{j:Nat}(E:Fm ops L)(F:L=k++j::q){C:cO}{a:Act}(h:R0 ops en (st 0).1 k C a){o:Oper}(z:ops[j]?=some o){b:Bool}
  (e:dY ops (st j).1 o=some b):Region.wanted o (yielded ops a.tmps)=b:=by
 have I:j<ops.size:=(Array.getElem?_eq_some_iff.1 z).1;unfold dY at e;unfold Region.wanted;split at e
 ·grind
 ·next i f B=>
  rw[B];simp only[yielded];have x:=m.guards j o i f z B;have H:=m.Ru L E k j q F i x;split at e
  ·next d A=>
   rw[A];simp only[Option.bind_some];obtain⟨D,p,n⟩:=Option.bind_eq_some_iff.1 A;have g:∀v,(st j).1[d]?=some v->v=(en i).val/\∃v',a.tmps[d]?=some v'/\aB C v v':=by
    intro v t;have r:d<(st 0).1.length:=by rw[<-w.jW j (by omega)];exact(List.getElem?_eq_some_iff.1 t).1
    have s:d<a.tmps.size:=by rw[h.1];exact r
    have:=w.Hg m r p n j (by omega) (m.lt _ _ x);rw[this]at t;obtain rfl:=oI t;exact⟨rfl,_,getElem?_eq_getElem s,(h.2 d _ (getElem?_eq_getElem s)).1 i D H p n⟩
   split at e
   ·next G c=>
    obtain⟨_,v',l,u⟩:=g _ (Ej c);rw[u.jv]at l;rw[l];simp only[Option.some.injEq]at e;subst e
    cases G<;>cases f<;>rfl
   ·next K c=>
    simp only[Option.some.injEq]at e;subst e;rcases By c with c|c
    ·obtain⟨_,v',l,u⟩:=g _ c;obtain⟨J,rfl,_⟩:=u.rX;rw[l];rfl
    ·have y:a.tmps[d]?=none:=Array.getElem?_eq_none (by rw[h.1,<-w.jW j (by omega)];exact List.getElem?_eq_none_iff.1 c);rw[y];rfl
   ·cases e
  grind
end
end
variable{n:Nat}{W:World}{r:Operand->Value}{i:Nat}{I:bw}
section
variable {β:cO} {P:Program} {gl:Nat->Bool}
theorem ys{r:Option Nat}{a:Act}{w:World}{v':Value}(d:∀c,q.op≠ .defer c)(b:(execOp a.eval q).run P w = .ok (.value v') W){next:Act->World->Prop}{Q:Exit->Act->World->Prop}
  (h:next (a.put q.dst v') W):q.wpIn (jt r) n P a w next Q:=by
 refine⟨λ_ _=>trivial,?_⟩;rw[Oper.semAt_eq _ _ _ d,b];exact h
theorem S5(z:dV P){cf:ck}(q:nT P gl cf){r:Option Nat}{n:Nat}{y:Operand->Value}{a:Act}{h:aa}{w:World}{o:Oper}{v:Value}{u:aY}(p:iJ β h w)(B:Gl gl β)(j:∀x,aB β (y x) (a.eval x))
  (i:cL P cf y o h=some (v,u)) (next:Act->World->Prop) (Q:Exit->Act->World->Prop)
  (k:∀v' d b,Step β h w b (u.app h) d->aB b v v'->next (a.put o.dst v') d):o.wpIn (jt r) n P a w next Q:=by
 refine⟨λ_ _=>trivial,?_⟩;have l:∀c,o.op≠ .defer c:=by
  intro c g;simp[cL,g]at i
 rw[Oper.semAt_eq _ _ _ l];by_cases g:bu o=false
 ·obtain⟨v',d,b,e,s,m⟩:=EA j g p i;rcases e with e|⟨e,rfl⟩
  ·rw[e];exact k v' d b s m
  ·rw[e];exact k undef d b s m
 ·unfold bu at g;split at g
  ·next f A C t=>
   simp only[cL,t]at i;exact H6 z q t p B j i next Q k
  grind
open Classical in
noncomputable def only(o:Oper)(a:Operand->Value):Operand->Value:=λx=>if x∈o.op.operands then a x else jE
theorem Ag:∀x∈q.op.operands,r x=only q r x:=λx a=>by grind[only]
theorem Uo{a:Operand->Value}(h:∀x∈q.op.operands,aB β (r x) (a x)):∀x,aB β (only q r x) (a x):=λx=>by
 unfold only;split
 ·grind
 ·exact .jE _
section
variable {cf:ck} {ops:Array Oper} {bf:Nat->Nat->Bool} {st:Nat->KD} {en:Nat->lz}
structure Inv(ops:Array Oper)(bf:Nat->Nat->Bool)(st:Nat->KD)(en:Nat->lz)(β₀:cO)(h:aa)(w₀:World)(a₀:Act)(pre:List Nat)(β:cO)(w:World)(a:Act)(c:Nat)(R:List (Nat×bw)):Prop where
 le:c<=ops.size
 Dj:∀e,e<ops.size->(en e).ee=true->(e∈pre↔e<c)
 mem:∀i B,(i,B)∈R↔i∈pre/\zE bf en c i B
 step:Step β₀ h w₀ β (av (st c).2.1 h.next R) w
 room:h.next+ops.size<=(st c).2.1.next
 Ji:∀i B,i<ops.size->(st c).2.1.get (h.next+i)=some B->∃e,e<c/\(en e).ee=true/\bf e i=true
 free:∀i,i<ops.size->i∉pre->(∃B v,en i = .alloc B v)->β (h.next+i)=none
 RQ:R0 ops en (st 0).1 pre β a
 dfs:a.defers=a₀.defers
theorem zE.Yb{c:Nat}{a:bw}(h:zE bf en c i I)(b:zE bf en c i a):I=a:=by
 obtain⟨v,d⟩:=h.1;obtain⟨v',e⟩:=b.1
 grind
variable {β₀:cO} {h:aa} {w₀:World} {a₀:Act} {pre:List Nat} {w:World} {a:Act} {c:Nat} {R:List (Nat×bw)}
theorem Inv.none_(b:Inv ops bf st en β₀ h w₀ a₀ pre β w a c R){i:Nat}{B:bw}(j:i<ops.size)(l:zE bf en c i B):(st c).2.1.get (h.next+i)=none:=by
 cases m:(st c).2.1.get (h.next+i)with
 |none=>rfl
 |some k=>
  obtain⟨e,f,g,d⟩:=b.Ji i k j m;rw[l.2 e f g]at d;grind
theorem Inv.get(b:Inv ops bf st en β₀ h w₀ a₀ pre β w a c R)(e:∀i∈pre,i<ops.size)(k:Nat)(B:bw):
  (av (st c).2.1 h.next R).get k=some B↔(st c).2.1.get k=some B\/ ∃i,k=h.next+i/\(i,B)∈R:=
 mD R (λi B g d f=>((b.mem i B).1 d).2.Yb ((b.mem i g).1 f).2) (λi B d=>b.none_ (e i ((b.mem i B).1 d).1) ((b.mem i B).1 d).2) k B
theorem Inv.sub(d:Inv ops bf st en β₀ h w₀ a₀ pre β w a c R)(b:∀i∈pre,i<ops.size):iJ β (st c).2.1 w:=
 d.step.nS.sub (fF R).symm λk B e=>(d.get b k B).2 (.inl e)
theorem Inv.calm(m:AI ops bf)(b:Inv ops bf st en β₀ h w₀ a₀ pre β w a c R){j:Nat}{o:Oper}(p:ops[j]?=some o)(r:(en j).ee=false)(q:∀B v,en j≠ .alloc B v){v':Value}(g:aB β (en j).val v'):
  Inv ops bf st en β₀ h w₀ a₀ (pre++[j]) β w (a.put o.dst v') c R where
 le:=b.le
 Dj:=λe n k=>by
  rw[mem_append,b.Dj e n k]
  grind
 mem:=λi B=>by
  rw[b.mem,mem_append];refine⟨λ⟨d,f⟩=>⟨.inl d,f⟩,λ⟨d,f⟩=>⟨?_,f⟩⟩;rcases d with d|d
  ·omega
  ·simp only[mem_singleton]at d;subst d;obtain⟨v,g⟩:=f.1
   grind
 step:=b.step
 room:=b.room
 Ji:=b.Ji
 free:=λi d f=>b.free i d λl=>f (mem_append_left _ l)
 RQ:=b.RQ.put m p g
 dfs:=(put_defers a o.dst v').trans b.dfs
theorem Il(hN:dV P)(y9:nT P gl cf)(z:AI ops bf)(A:Ny P gl cf ops bf h.next st en)(x8:(st 0).2.2=[]){L:List Nat}(C:Fm ops L){r:Option Nat}{n:Nat}{Q:Exit->Act->World->Prop}(x6:Gl gl β₀)
  (hk:∀a' w' I,Step β₀ h w₀ I (av (st ops.size).2.1 h.next (st ops.size).2.2) w'->aW I (st ops.size).1 a'.tmps.toList->a'.defers=a₀.defers->Q .normal a' w'):
  ∀(J pre:List Nat)(β:cO)(w:World)(a:Act)(c:Nat)(R:List (Nat×bw)),L=pre++J->Inv ops bf st en β₀ h w₀ a₀ pre β w a c R->wpOpsIn (jt r) n P ops Q J a w
 | [],pre,β,w,a,c,R,O,d=>by
  rw[append_nil]at O;subst O;have E:∀i∈L,i<ops.size:=λi hi=>(C.mem i).1 hi;have M:∀e,c<=e->e<ops.size->(en e).ee=false:=λe b g=>by
   cases x3:(en e).ee with
   |false=>rfl
   |true=>have:=(d.Dj e g x3).1 ((C.mem e).2 g);omega
  have u1:=d.le;have W:(st ops.size).2.1=(st c).2.1:=by
   have:=A.yf (c:=c) (ops.size-c) (by omega) λe b g=>M e b (by omega);rwa[show c+(ops.size-c)=ops.size by omega]at this
  have y5:∀i B,zE bf en ops.size i B↔zE bf en c i B:=λi B=>by
   refine⟨λhp=>⟨hp.1,λe b=>hp.2 e (by omega)⟩,λhp=>⟨hp.1,λe b g=>hp.2 e ?_ g⟩⟩
   grind
  have K:∀i B,(i,B)∈(st ops.size).2.2↔(i,B)∈R:=λi B=>by
   rw[A.abt z x8 ops.size (Nat.le_refl _),d.mem,y5,C.mem]
  have z1:=d.get E;have y6:∀k B,(av (st ops.size).2.1 h.next (st ops.size).2.2).get k=some B↔(st c).2.1.get k=some B\/ ∃i,k=h.next+i/\(i,B)∈(st ops.size).2.2:=by
   rw[W];exact mD _ (λi B X b g=>((d.mem i B).1 ((K i B).1 b)).2.Yb ((d.mem i X).1 ((K i X).1 g)).2)
    (λi B b=>d.none_ (E i ((d.mem i B).1 ((K i B).1 b)).1) ((d.mem i B).1 ((K i B).1 b)).2)
  have hS:wN (av (st c).2.1 h.next R) (av (st ops.size).2.1 h.next (st ops.size).2.2):=by
   refine⟨by grind[fF],λk=>Option.ext λB=>?_⟩;rw[z1,y6];simp only[K]
  refine hk a w β (d.step.same (wN.refl h) hS) ?_ d.dfs;refine⟨?_,λt v v' b g=>?_⟩
  ·rw[A.jW _ (Nat.le_refl _),length_toList,d.RQ.1]
  ·rw[getElem?_toList]at g;obtain⟨y,x⟩:=d.RQ.2 t v' g;have z5:t<(st 0).1.length:=by rw[<-A.jW _ (Nat.le_refl _)];exact(List.getElem?_eq_some_iff.1 b).1
   by_cases T:∃(i:Nat)(o:Oper),ops[i]?=some o/\o.dst=some t
   ·obtain⟨i,o,q,hd⟩:=T;have hi:i<ops.size:=(Array.getElem?_eq_some_iff.1 q).1;rw[A.Hg z z5 q hd _ (Nat.le_refl _) hi]at b;obtain rfl:=oI b;exact y i o ((C.mem i).2 hi) q hd
   ·rw[A.Nb t _ (Nat.le_refl _) λi o _ q hd=>T ⟨i,o,q,hd⟩]at b
    grind
 | j::J,pre,β,w,a,c,R,O,d=>by
  have E:∀i∈pre,i<ops.size:=λi hi=>(C.mem i).1 (by grind);have hj:j<ops.size:=(C.mem j).1 (by grind);have y0:j∉pre:=λhm=>by
   have z9:=C.nodup
   grind
  have x2:∀i,bf j i=true->i∈pre:=z.Ru L C pre j J O;have y8:∀i∈pre,bf i j=false:=λi hi=>by
   cases hb:bf i j with
   |false=>rfl
   |true=>
    obtain⟨p1,p2,rfl⟩:=List.append_of_mem hi;exact absurd (mem_append_left _ (z.Ru L C p1 i (p2++j::J) (by grind) j hb)) y0
  have q:=getElem?_eq_getElem hj;generalize ops[j]=o at q;have m:=A.one j o q;have hg:Gl gl β:=x6.mono d.step.le;have z2:=d.RQ.aeY z A C O hg q;have x5:=Uo z2;have N:=Il hN y9 z A x8 C (r:=r) (n:=n) x6 hk J (pre++[j]);have Z:L=(pre++[j])++J:=by rw[O];simp
  simp only[wpOpsIn,q]
  cases l:en j with
  |skip=>
   rw[l]at m;simp only[One]at m;rw[d.RQ.wanted z A C O q m.1];simp only[false_eq_true,if_false];refine⟨λ_ _=>trivial,?_⟩;exact N β w _ c R Z (d.calm z q (by rw[l];rfl) (by grind) (by rw[l];exact .undef β))
  |pure v=>
   rw[l]at m;simp only[One]at m;obtain⟨T,s,_⟩:=m;rw[d.RQ.wanted z A C O q T];simp only[if_true];rw[GG Ag]at s;obtain⟨v',b,g⟩:=tW x5 s w;refine ys ?_ b (N β w _ c R Z (d.calm z q (by rw[l];rfl) (by rw[l];intro B v h;cases h) (by rw[l];exact g)))
   grind[aZ]
  | read v=>
   rw[l]at m;simp only[One]at m;obtain⟨T,_,_⟩:=m;rw[d.RQ.wanted z A C O q T];simp only[if_true];have s:=A.reads j o v q l c d.le
    (λe b g=>y8 e ((d.Dj e (by have:=d.le;omega) g).2 b))
    (λe b g y=>by
     cases hb:bf j e with
     |false=>rfl
     |true=>have:=(d.Dj e g y).1 (x2 e hb);omega)
   rw[GH Ag]at s;obtain⟨v',b,g⟩:=tX x5 (d.sub E) s;refine ys ?_ b (N β w _ c R Z (d.calm z q (by rw[l];rfl) (by rw[l];intro B v h;cases h) (by rw[l];exact g)))
   grind[bj]
  | alloc B v=>
   rw[l]at m;simp only[One]at m;obtain⟨T,⟨f,s,rfl⟩,_⟩:=m;rw[d.RQ.wanted z A C O q T];simp only[if_true];rw[Dx Ag]at s;obtain⟨v',w',b,g⟩:=qX x5 (w:=w) s;have y3:=d.free j hj y0 ⟨B,_,l⟩;have y7:=d.room;obtain⟨I,y,x,h5,h6⟩:=g.Sk d.step y3 (by omega) (by grind[fF]);refine ys (by grind[aT]) b (N I w' _ c ((j,B)::R) Z ⟨d.le,?_,?_,y,d.room,d.Ji,?_,?_,(put_defers a o.dst v').trans d.dfs⟩)
   ·intro e S G;rw[mem_append,d.Dj e S G];refine⟨λD=>?_,.inl⟩;rcases D with D|D
    ·omega
    ·simp only[mem_singleton]at D;subst D;rw[l]at G;cases G
   ·intro i X;rw[mem_cons,d.mem,mem_append];constructor
    ·rintro(D|⟨S,G⟩)
     ·simp only[Prod.mk.injEq]at D;obtain⟨rfl,rfl⟩:=D;refine⟨.inr mem_cons_self,⟨_,l⟩,λe S G=>y8 e ((d.Dj e (by have:=d.le;omega) G).2 S)⟩
     grind
    ·rintro⟨S|S,G⟩
     ·grind
     ·simp only[mem_singleton]at S;subst S;obtain⟨v2,h9⟩:=G.1
      grind
   ·intro i S G h9;rw[h6 _ λD=>G (by grind)];exact d.free i S (λD=>G (mem_append_left _ D)) h9
   ·exact(d.RQ.mono h5).put z q (by rw[l];exact x)
  | qc v h'=>
   rw[l]at m;simp only[One]at m;have y4:(st (j+1)).2.1=h':=by rw[m.2.2]
   obtain⟨T,⟨u,s,hu⟩,_⟩:=m;rw[d.RQ.wanted z A C O q T];simp only[if_true];have u0:c<=j:=by
    rcases lt_or_ge j c with b|b
    ·exact absurd ((d.Dj j hj (by rw[l];rfl)).2 b) y0
    ·omega
   have M:∀e,c<=e->e<j->(en e).ee=false:=λe b g=>by
    cases x3:(en e).ee with
    |false=>rfl
    |true=>
     have:=(d.Dj e (by omega) x3).1 (x2 e (A.chain e j g hj x3 (by rw[l];rfl)));omega
   have W:(st j).2.1=(st c).2.1:=by
    have:=A.yf (c:=c) (j-c) (by omega) λe b g=>M e b (by omega);rwa[show c+(j-c)=j by omega]at this
   rw[W]at s hu;have Y:∀i B,(i,B)∈(st j).2.2.filter (λp=>bf j p.1)↔zE bf en c i B/\bf j i=true:=λi B=>by
    rw[mem_filter,A.abt z x8 j (by omega)];constructor
    ·rintro⟨⟨b,g,y⟩,x⟩;exact⟨⟨g,λe h5=>y e (by omega)⟩,x⟩
    ·rintro⟨⟨g,y⟩,x⟩;refine⟨⟨z.lt _ _ x,g,λe h5 h6=>?_⟩,x⟩
     grind
   generalize (st j).2.2.filter (λp=>bf j p.1)=F at Y s hu;have x1:=mD (h:=(st c).2.1) (base:=h.next) F (λi B X b g=>((Y i B).1 b).1.Yb ((Y i X).1 g).1)
    (λi B b=>d.none_ (by grind) ((Y i B).1 b).1)
   have x4:=d.get E;have z3:iJ β (av (st c).2.1 h.next F) w:=d.step.nS.sub (by grind[fF]) λk B z4=>by
    rw[x4];rcases(x1 k B).1 z4 with b|⟨i,b,g⟩
    ·grind
    ·exact .inr ⟨i,b,(d.mem i B).2 ⟨x2 i ((Y i B).1 g).2,((Y i B).1 g).1⟩⟩
   rw[Jo Ag]at s;refine S5 hN y9 z3 hg x5 s _ _ λv' w' I U hv=>?_;rw[<-hu,<-y4]at U;have y7:=d.room;have x9:(av (st c).2.1 h.next F).next=(st c).2.1.next:=fF F;have H:∀i B,(i,B)∈R.filter (λp=> !bf j p.1)↔i∈pre/\zE bf en c i B/\bf j i=false:=λi B=>by
    rw[mem_filter,d.mem];grind
   have z7:∀i B,(i,B)∈R.filter (λp=> !bf j p.1)->(av (st c).2.1 h.next F).get (h.next+i)=none:=λi B hm=>by
    obtain⟨b,g,y⟩:=(H i B).1 hm
    cases z0:(av (st c).2.1 h.next F).get (h.next+i)with
    |none=>rfl
    |some X=>
     rcases(x1 _ _).1 z0 with x|⟨i',x,h5⟩
     ·rw[d.none_ (E i b) g]at x;cases x
     grind
   have y2:∀k B,(st (j+1)).2.1.get k=some B->k<(st c).2.1.next->∃x0,(av (st c).2.1 h.next F).get k=some x0:=λk B b g=>U.keys k B b (by omega);have z6:=mD (h:=(st (j+1)).2.1) (base:=h.next) (R.filter λp=> !bf j p.1) (λi B X b g=>((H i B).1 b).2.1.Yb ((H i X).1 g).2.1)
    (λi B hm=>by
     cases z0:(st (j+1)).2.1.get (h.next+i)with
     |none=>rfl
     |some X=>grind)
   have x7:=U.frame (V:=av (st c).2.1 h.next R) (V':=av (st (j+1)).2.1 h.next (R.filter λp=> !bf j p.1)) d.step.nS (by grind[fF]) (fF _)
    (λk B=>∃i,k=h.next+i/\(i,B)∈R.filter λp=> !bf j p.1)
    (λk B ⟨i,b,g⟩=>by grind)
    (λk B=>by
     rw[x4,x1];constructor
     ·rintro(b|⟨i,b,g⟩)
      ·grind
      ·obtain⟨y,x⟩:=(d.mem i B).1 g
       grind
     ·rintro((b|⟨i,b,g⟩)|⟨i,b,g⟩)
      ·exact .inl b
      ·exact .inr ⟨i,b,(d.mem i B).2 ⟨x2 i ((Y i B).1 g).2,((Y i B).1 g).1⟩⟩
      grind)
    z6
   have y1:=U.next;rw[x9]at y1;refine N I w' _ (j+1) _ Z ⟨by omega,?_,?_,d.step.trans x7,by omega,?_,?_,(d.RQ.mono U.le).put z q (by rw[l];exact hv),(put_defers a o.dst v').trans d.dfs⟩
   ·intro e b g;rw[mem_append,d.Dj e b g,mem_singleton]
    grind
   ·intro i B;rw[H,mem_append];constructor
    ·rintro⟨b,⟨g,y⟩,x⟩;refine⟨.inl b,g,λe h5 h6=>?_⟩
     grind
    ·rintro⟨b,⟨v2,g⟩,y⟩;rcases b with b|b
     ·exact⟨b,⟨⟨v2,g⟩,λe x=>y e (by omega)⟩,y j (by omega) (by rw[l];rfl)⟩
     grind
   ·intro i B b g;obtain⟨x0,y⟩:=y2 _ _ g (by omega);rcases(x1 _ _).1 y with x|⟨i',x,h5⟩
    ·obtain⟨e,h6,S,G⟩:=d.Ji i x0 b x
     grind
    ·obtain rfl:i=i':=by omega
     exact⟨j,by omega,by rw[l];rfl,((Y _ _).1 h5).2⟩
   ·intro i b g y;have z8:=d.free i b (λD=>g (mem_append_left _ D)) y
    cases hb:I (h.next+i)with
    |none=>rfl
    |some sl=>
     rcases U.fresh _ sl hb with x|⟨x,_⟩
     all_goals grind
end
end
variable{g:aa}{k:Nat}{U:Array Oper}
section
variable {P:Program} {gl:Nat->Bool}
theorem vk:∀{x y:List (Value×Value)},tM x y=true->x=y
 |[],[],_=>rfl
 |[],_::_,h=>by grind[tM]
 |_::_,[],h=>by grind[tM]
 |(a,b)::x,(c,d)::y,h=>by
  simp only[tM,and_eq_true]at h;rw[mf _ _ _ h.1.1,mf _ _ _ h.1.2,vk h.2]
theorem H0{C:bw}(h:yG I C=true):I=C:=by
 unfold yG at h;split at h
 ·simp only[and_eq_true,beq_eq,beq_iff_eq]at h;obtain⟨⟨⟨a,rfl⟩,rfl⟩,rfl⟩:=h;rw[rS (mf 4) a]
 all_goals grind[vk]
theorem AM(e:O7 h g k=true):h.get k=g.get k:=by grind[H0,O7]
def OY(a:aa)(s:yx):Prop:=s.2.1.next=a.next/\∀k,k∉s.2.2->s.2.1.get k=a.get k
theorem OY.lay{s:yx}(h:OY g s)(c:Option Tmp)(v:Value)(u:Option (Nat×bw)):OY g (BK s c v u):=by
 cases u with
 |none=>exact h
 |some p=>
  obtain⟨k,b⟩:=p;refine⟨h.1,λj a=>?_⟩;simp only[BK,mem_cons,not_or]at a;show(s.2.1.set k b).get j=_;rw[aa.aw,if_neg a.1];exact h.2 j a.2
theorem EX{s b:yx}(h:OY g s)(a:wx P gl U n j s=some b):OY g b:=by
 unfold wx at a;split at a
 ·split at a
  ·split at a
   ·obtain rfl:=oI a;exact h.lay _ _ _
   ·cases a
  ·obtain rfl:=oI a;exact h.lay _ _ _
  ·cases a
 grind
theorem E2{e:Array Oper}{d:Nat}{a:aa}:∀(n j:Nat){s c:yx},OY a s->zm P gl e d n j s=some c->OY a c
 |0,_,_,_,h,b=>by simp_all[zm]
 |n+1,j,s,c,h,b=>by
  simp only[zm]at b;split at b
  ·next g f=>exact E2 n (j+1) (EX h f) b
  grind
theorem Ir{s a:yx}(h:OY g s)(b:OY g a)(e:Eb s a=true):s.1=a.1/\wN s.2.1 a.2.1:=by
 unfold Eb at e;simp only[and_eq_true]at e;obtain⟨⟨c,j⟩,i⟩:=e;refine⟨rS (mf 4) c,h.1.trans b.1.symm,λk=>?_⟩;by_cases f:k∈s.2.2
 ·grind[AM]
 ·by_cases d:k∈a.2.2
  ·grind[AM]
  ·rw[h.2 k f,b.2 k d]
theorem Fm.length(h:Fm U x):x.length=U.size:=by
 have:=((List.perm_ext_iff_of_nodup h.nodup List.nodup_range).2 λi=>by rw[h.mem,mem_range]).length_eq
 grind
theorem YK:nT P gl fZ:=⟨(by intro f a h v c _ b;cases b),(by intro k a h v c b;cases b)⟩
theorem Qz(S:dV P){d:Array Oper}(R:AI d (cE (fi d))){L:List Nat}(K:Fm d L){r:Option Nat}{n:Nat}{Q:Exit->Act->World->Prop}{base:Nat}{fin:yx}{M hb:aa}{E:cO}{V:World}{a₀:Act}(l:Gl gl E)
  (h:hb.next=base+d.size) (H:M.next<=base) (x:OY hb fin)
  (T:∀W I z,Step E M V z fin.2.1 I->aW z fin.1 W.tmps.toList->W.defers=a₀.defers->Q .normal W I):
  ∀(g b:List Nat)(t:cO)(w:World)(a:Act)(s:yx),L=b++g->HS P gl d (cE (fi d)) base fin g.length b.reverse s=true->OY hb s->Step E M V t s.2.1 w->
   (∀i,i<d.size->i∉b->t (base+i)=none)->aW t s.1 a.tmps.toList->a.defers=a₀.defers->wpOpsIn (jt r) n P d Q g a w
 |[],b,t,w,a,s,he,hA,C,p,D,G,N=>by
  obtain⟨e1,e2⟩:=Ir x C hA;refine T a w t (p.same (wN.refl _) e2.symm) (by grind) N
 | j::g,b,t,w,a,s,he,hA,C,p,D,G,N=>by
  have hj:j<d.size:=(K.mem j).1 (by grind);have x4:j∉b:=λhm=>by
   have x5:=K.nodup
   grind
  have x6:∀i,cE (fi d) j i=true->i∈b:=R.Ru L K b j g he;simp only[length_cons,HS]at hA;have m:=all_eq_true.1 hA j (mem_range.2 hj);simp only[Bool.or_eq_true]at m;rcases m with(m|m)|m
  ·grind
  ·grind
  ·split at m
   ·next s' q=>
    have e:=EX C q;have ho:=getElem?_eq_getElem hj;generalize d[j]=o at ho;unfold wx at q;rw[ho]at q;dsimp only at q;have J:L=(b++[j])++g:=by rw[he];simp
    have A:(b++[j]).reverse=j::b.reverse:=by simp
    have k:∀i,i<d.size->i∉b++[j]->t (base+i)=none:=λi m X=>D i m λhh=>X (mem_append_left _ hh);have hg:Gl gl t:=l.mono p.le;simp only[wpOpsIn,ho];split at q
    ·next hw=>
     rw[pO G hw];simp only[if_true];split at q
     ·next v u c=>
      obtain rfl:=oI q;have O:=FJ (β:=t) hg G;unfold GF at c;split at c
      ·next v0 y=>
       simp only[Option.some.injEq,Prod.mk.injEq]at c;obtain⟨rfl,rfl⟩:=c;obtain⟨v',Y,U⟩:=tW O y w;refine ys (by intro cc Z;simp[aZ,Z]at y) Y (Qz S R K l h H x T g (b++[j]) t w _ _ J (by rw[A];exact m) e p k (px G o.dst U) ((put_defers a o.dst v').trans N))
      ·split at c
       ·next v0 y=>
        simp only[Option.some.injEq,Prod.mk.injEq]at c;obtain⟨rfl,rfl⟩:=c;obtain⟨v',Y,U⟩:=tX O p.nS y;refine ys (by intro cc Z;simp[bj,Z]at y) Y (Qz S R K l h H x T g (b++[j]) t w _ _ J (by rw[A];exact m) e p k (px G o.dst U) ((put_defers a o.dst v').trans N))
       ·split at c
        ·next B f y=>
         simp only[Option.some.injEq,Prod.mk.injEq]at c;obtain⟨rfl,rfl⟩:=c;obtain⟨v',I,Y,U⟩:=qX O (w:=w) y;obtain⟨z,g3,g4,g5,g6⟩:=U.Sk p (D j hj x4) (by omega) (by rw[C.1,h];omega);refine ys (by intro cc Z;simp[aT,Z]at y) Y (Qz S R K l h H x T g (b++[j]) z I _ _ J (by rw[A];exact m) e g3 ?_ (px (G.mono g5) o.dst g4) ((put_defers a o.dst v').trans N));intro i X h3;rw[g6 _ λhh=>h3 (by rw[show i=j by omega];simp)];exact k i X h3
        ·have x0:∀{u':aY}{v:Value},cL P fZ (ev gl s.1) o s.2.1=some (v,u')->u'.app s.2.1=(BK s o.dst v u).2.1->(BK s o.dst v u).1=eZ s.1 o.dst v->HS P gl d (cE (fi d)) base fin g.length (j::b.reverse) (BK s o.dst v u)=true->OY hb (BK s o.dst v u)->
           o.wpIn (jt r) n P a w (λW I=>wpOpsIn (jt r) n P d Q g W I) Q:=by
          intro u' v c hu x2 m e;refine S5 S YK p.nS hg O c _ _ λv' I z F hv=>?_;rw[hu]at F;refine Qz S R K l h H x T g (b++[j]) z I _ _ J (by rw[A];exact m) e (p.trans F) (λi X h3=>?_) (by rw[x2];exact px (G.mono F.le) o.dst hv) ((put_defers a o.dst v').trans N);have x1:=k i X h3
          cases x3:z (base+i)with
          |none=>rfl
          |some sl=>
           rcases F.fresh _ sl x3 with h4|⟨h4,_⟩
           ·rw[x1]at h4;cases h4
           ·rw[C.1,h]at h4;omega
         split at c
         ·next v0 y=>
          simp only[Option.some.injEq,Prod.mk.injEq]at c;obtain⟨rfl,rfl⟩:=c;exact x0 y rfl rfl m e
         ·next v0 k0 b0 y=>
          simp only[Option.some.injEq,Prod.mk.injEq]at c;obtain⟨rfl,rfl⟩:=c;exact x0 y rfl rfl m e
         ·cases c
     ·cases q
    ·next hw=>
     obtain rfl:=oI q;rw[pO G hw];simp only[false_eq_true,if_false];refine⟨λ_ _=>trivial,?_⟩;exact Qz S R K l h H x T g (b++[j]) t w _ _ J (by rw[A];exact m) e p k (px G o.dst (.undef t)) ((put_defers a o.dst undef).trans N)
    ·cases q
   grind
end
section
variable {P:Program} {gl:Nat->Bool}
theorem Step.room{w:World}(a:iJ J h w)(m:Nat):Step J h w J { h with next:=h.next+m } w:=
 ⟨J.le_refl,le_add_right _ _,⟨λk c b=>⟨lt_of_lt_of_le (a.lt k c b).1 (le_add_right _ _),(a.lt k c b).2⟩,a.blk,a.own,λk B b=>lt_of_lt_of_le (a.wf k B b) (le_add_right _ _)⟩,Nat.le_refl _,rfl,.refl _,rfl,
  λ_ _ _=>rfl,λ_ _ h=>h,λ_ _ h=> .inl h,λ_ B h _=>⟨B,h⟩⟩
theorem S3(C:dV P){D:ck}(A:nT P gl D){H:Nat}{b:Array Oper}(p:AI b (cE (fi b)))(z:KC b)(y:Region.departs b=true->(Region.linearise .gc b 0).length=b.size):
  jZ P gl D (.region H b true):=by
 intro N J E c I M a h U w r n Q e f F u K
 cases E
 refine wpIn_region_draw λt=>?_;have d:Step c h w c { h with next:=h.next+b.size } { w with drawn:=w.drawn+1 }:=
  (Step.of_heap f rfl rfl ⟨rfl,le_succ _⟩ rfl:Step c h w c h { w with drawn:=w.drawn+1 }).trans (Step.room (w:={ w with drawn:=w.drawn+1 }) (f.of_heap rfl) b.size)
 unfold yK at e;split at e
 ·unfold vc at e;split at e
  ·next fin m=>
   split at e
   ·next s=>
    simp only[Option.some.injEq,Prod.mk.injEq]at e;obtain⟨rfl,rfl⟩:=e;have j:=tp z y (P.follows .mixedOrders) t;have g:OY { h with next:=h.next+b.size } (I,{ h with next:=h.next+b.size },[]):=⟨rfl,λ_ _=>rfl⟩
    have l:(Region.schedule (P.follows .mixedOrders) b t).length=b.size:=j.length;exact Qz C p j (base:=h.next) (fin:=fin) (a₀:=a) F rfl (Nat.le_refl _) (E2 _ _ g m) K _ [] c _ a _ rfl (by rw[l];exact s) g d (λi q _=>f.jQ (by omega)) u rfl
   ·cases e
  grind
 have d:True:=trivial;obtain⟨V,R,L,k,S,T⟩:=Ik p e;have j:=tp z y (P.follows .mixedOrders) t;have d:Step c h w c { h with next:=h.next+b.size } { w with drawn:=w.drawn+1 }:=
  (Step.of_heap f rfl rfl ⟨rfl,le_succ _⟩ rfl:Step c h w c h { w with drawn:=w.drawn+1 }).trans (Step.room (w:={ w with drawn:=w.drawn+1 }) (f.of_heap rfl) b.size)
 refine Il (β₀:=c) (h:=h) (w₀:=w) (a₀:=a) C A p L (by rw[k]) j F ?_ _ [] c _ a 0 [] rfl ⟨Nat.zero_le _,?_,?_,?_,?_,?_,?_,?_,rfl⟩
 ·grind
 ·grind
 ·grind
 ·rw[k];exact d
 ·grind
 ·intro i B q x;rw[k]at x;have:h.get (h.next+i)=some B:=x;have:=f.wf _ _ this;omega
 ·intro i q _ _;exact f.jQ (by omega)
 ·rw[k];refine⟨by rw[u.1,length_toList],λt v' O=>⟨λi o q=>by grind,λ_ v G=>?_⟩⟩;exact u.2 t v v' G (by grind)
theorem IJ(g:Nat->Nat)(i:Nat):∀(a:List Edge)(s:Nat),(a.foldl (λs e=>if Region.binds .any e then s|||2^e.on|||g e.on else s) s).testBit i=true↔
  s.testBit i=true\/ ∃e∈a,Region.binds .any e=true/\(e.on=i\/(g e.on).testBit i=true)
 |[],s=>by simp
 |e::a,s=>by
  rw[List.foldl_cons,IJ g i a]
  grind
def qN(a:Array Nat)(o:Oper):Nat:=o.after.foldl (λs e=>if Region.binds .any e then s|||2^e.on|||a.getD e.on 0 else s) 0
theorem Eg:∀(l:List Oper)(a:Array Nat),(l.foldl (λa o=>a.push (qN a o)) a).size=a.size+l.length/\
  (∀i,i<a.size->(l.foldl (λa o=>a.push (qN a o)) a)[i]?=a[i]?)/\
  ∀i o,l[i]?=some o->∃b,(l.foldl (λa o=>a.push (qN a o)) a)[a.size+i]?=some (qN b o)/\∀k,k<a.size+i->b[k]?=(l.foldl (λa o=>a.push (qN a o)) a)[k]?
 |[],a=>⟨by simp,λ_ _=>rfl,λi o h=>by grind⟩
 |o::l,a=>by
  obtain⟨d,e,c⟩:=Eg l (a.push (qN a o))
  grind
theorem O9(a:Array Oper):Region.before a=a.toList.foldl (λb o=>b.push (qN b o)) #[]:=by
 unfold Region.before;rw[<-foldl_toList];rfl
theorem WY(m:KC U)(j i:Nat):cE (fi U) j i=true↔ ∃o,U[j]?=some o/\∃e∈o.after,Region.binds .any e=true/\(e.on=i\/cE (fi U) e.on i=true):=by
 have q:∀k,(fi U).getD k 0=(Region.before U).getD k 0:=λk=>by simp[fi,List.getD,Array.getD_eq_getD_getElem?]
 obtain⟨n,_,f⟩:=Eg U.toList #[];rw[<-O9]at n f;simp only[List.size_toArray,length_nil,zero_add,getElem?_toList,length_toList]at n f
 cases g:U[j]? with
 |none=>grind[cE]
 | some o=>
  obtain⟨d,p,r⟩:=f j o g;simp only[cE,q];rw[Array.getD_eq_getD_getElem?,p,Option.getD_some,qN,<-foldl_toList,IJ (λk=>d.getD k 0)];simp only[Nat.zero_testBit,false_eq_true,false_or,Option.some.injEq,exists_eq_left',Array.mem_toList_iff];constructor
  ·rintro⟨e,c,a,b⟩;refine⟨e,c,a,b.imp id λb=>?_⟩;have l:e.on<j:=by
    rcases m j o g e c with h|⟨h,_⟩
    ·exact h
    ·rw[h]at a;cases a
   simp_all
  ·rintro⟨e,c,a,b⟩;refine⟨e,c,a,b.imp id λb=>?_⟩;have l:e.on<j:=by
    rcases m j o g e c with h|⟨h,_⟩
    ·exact h
    ·rw[h]at a;cases a
   simp_all
theorem KC.lt(a:KC U){j:Nat}{o:Oper}(c:U[j]?=some o){e:Edge}(b:e∈o.after)(d:Region.binds .any e=true):e.on<j:=by
 rcases a j o c e b with h|⟨h,_⟩
 all_goals grind
theorem uV:∀(l:List Oper)(j:Nat),Ft l j=true->∀i o,l[i]?=some o->∀e∈o.after,e.on<j+i\/Region.binds .any e=false/\Region.binds .text e=false
 |[],_,_,i,o,a,_,_=>by grind
 | c::l,j,h,i,o,a,e,b=>by
  simp only[Ft,and_eq_true]at h
  cases i with
  |zero=>grind
  |succ i=>
   have:=uV l (j+1) h.2 i o (by simpa using a) e b
   grind
theorem rI{a:List Nat}{j:Nat}{t:Tmp}:∀(l:List Oper)(k:Nat),rH a j t l k=true->∀i o,l[i]?=some o->o.dst=some t->k+i=j\/cE a j (k+i)=true\/cE a (k+i) j=true
 |[],_,_,i,o,b,_=>by grind
 | d::l,k,h,i,o,b,c=>by
  simp only[rH,and_eq_true]at h
  cases i with
  |zero=>grind
  |succ i=>
   have:=rI l (k+1) h.2 i o (by simpa using b) c
   grind
theorem pq{c:List Nat}{all:List Oper}:∀(l:List Oper)(k:Nat),GI c all l k=true->∀i o,l[i]?=some o->
  (∀t,Operand.tmp t∈o.op.operands->rH c (k+i) t all 0=true)/\∀g b,o.guard=some (g,b)->cE c (k+i) g=true
 |[],_,_,i,o,a=>by grind
 | e::l,k,h,i,o,a=>by
  simp only[GI,and_eq_true]at h
  cases i with
  |zero=>
   simp only[List.getElem?_cons_zero,Option.some.injEq]at a;subst a;refine⟨λt d=>?_,λg b f=>?_⟩
   ·exact all_eq_true.1 h.1.1 (.tmp t) (by simpa using d)
   grind
  |succ i=>
   have:=pq l (k+1) h.2 i o (by simpa using a)
   grind
theorem pL:∀(l:List Oper)(m:Nat),yq l m=true->(∀(i:Nat)(o:Oper)(t:Tmp),l[i]?=some o->o.dst=some t->m.testBit t=false)/\
  ∀(i j:Nat)(o a:Oper)(t:Tmp),l[i]?=some o->l[j]?=some a->o.dst=some t->a.dst=some t->i=j
 |[],_,_=>⟨λi o t h=>by grind,λi j o a t h=>by grind⟩
 | x::l,m,h=>by
  cases b:x.dst with
  |none=>
   simp only[yq,b]at h;obtain⟨c,e⟩:=pL l m h
   grind
  |some d=>
   simp only[yq,b,and_eq_true,not_eq_true']at h;obtain⟨c,e⟩:=pL l _ h.2
   grind
theorem FC(h:Ll U=true):AI U (cE (fi U))/\KC U/\(Region.departs U=true->(Region.linearise .gc U 0).length=U.size):=by
 simp only[Ll,and_eq_true]at h;obtain⟨⟨⟨D,E⟩,I⟩,z⟩:=h;have l:KC U:=λi o a e d=>by
  have:=uV U.toList 0 D i o (by simpa using a) e d;rwa[zero_add]at this
 have f:=WY l;have x:∀j i,cE (fi U) j i=true->i<j:=by
  intro j
  induction j using Nat.strongRecOn with
  |_ j m=>
   intro i s;obtain⟨o,a,e,d,c,hh⟩:=(f j i).1 s;have:=l.lt a d c;rcases hh with hh|hh
   ·omega
   ·have:=m _ this i hh;omega
 refine⟨⟨x,?_,?_,?_,?_,?_⟩,l,?_⟩
 ·intro k
  induction k using Nat.strongRecOn with
  |_ k m=>
   intro j i g A;obtain⟨o,a,e,d,c,hh⟩:=(f k j).1 g;refine(f k i).2 ⟨o,a,e,d,c,.inr ?_⟩;rcases hh with rfl|hh
   ·exact A
   ·exact m _ (l.lt a d c) j i hh A
 ·intro L C q j
  induction j using Nat.strongRecOn generalizing q with
  |_ j m=>
   intro p r i s;obtain⟨o,a,e,d,c,hh⟩:=(f j i).1 s;have y:=C.aez q j p r o a e d c;rcases hh with rfl|hh
   ·exact y
   ·obtain⟨G,B,rfl⟩:=List.append_of_mem y;exact mem_append_left _ (m _ (l.lt a d c) G (B++j::p) (by rw[r];simp) i hh)
 ·intro j o t a v i u n F;have g:=(pq U.toList 0 z j o (by simpa using a)).1 t v;rw[zero_add]at g;have:=rI U.toList 0 g i u (by simpa using n) F;rwa[zero_add]at this
 ·intro j o i b a H;have g:=(pq U.toList 0 z j o (by simpa using a)).2 i b H;rwa[zero_add]at g
 ·intro i j o u t a n v w;exact(pL U.toList 0 E).2 i j o u t (by simpa using a) (by simpa using n) v w
 grind
theorem qb(l:dV P){b:ck}(e:nT P gl b):∀{d c:Code},Part d c->cj c=true->jZ P gl b d:=by
 have o:∀c,cj c=true->jZ P gl b c:=by
  intro c h j f g;subst g;obtain⟨k,m,i⟩:=FC h;exact S3 l e k m i j f rfl
 intro d c n
 induction n with
 |refl=>grind
 |abH _ a=>simp_all[cj]
 |adH _ a=>simp_all[cj]
 |Z6 _ a=>simp_all[cj]
 |Z4 _ a=>simp_all[cj]
 |block _ a=>grind[cj]
 |loop _ a=>grind[cj]
theorem vf(b:dV P):DJ P gl:=λ_ a _ _ c h=>qb b a c h
def dC(a:Func):Bool:=match a.body with|some c=>cj c|none=>true
theorem yF(i:dV P)(h:∀(f:FuncId) (a:Func),P.funcs[f]?=some a->dC a=true):Hz P gl:=λj b f a c d g e k=>by grind[qb,dC]
end
variable{b:Bool}{A:Type}
section
variable {α:Type}
def Ref(a x:Bool)(b:Option α)(K:α->Bool):Prop:=x=a\/ ∃r,b=some r/\x=K r
theorem Ref.bad{a:Option α}{K:α->Bool}:Ref b b a K:= .inl rfl
theorem Ref.of{x:Bool}{a:Option α}{K:α->Bool}{r:α}(h:a=some r)(c:x=K r):Ref b x a K:= .inr ⟨r,h,c⟩
theorem dL(n:Nat)(c:Nat->Bool):iN n c=c n:=by cases n<;>rfl
theorem FK(n:Int)(c:Int->Bool):Tc n c=c n:=by
 cases n with
 |ofNat n=>exact dL n λn=>c (.ofNat n)
 |negSucc n=>exact dL n λn=>c (.negSucc n)
theorem Iz(a:Option Addr)(K:Option Addr->Bool):NQ a K=K a:=by
 rcases a with _|⟨b,o,s⟩
 ·rfl
 ·show iN b (λb=>iN o λo=>K (some ⟨b,o,s⟩))=_;rw[dL,dL]
theorem eA(v:Value)(K:Value->Bool):lC v K=K v:=by
 cases v with
 |int k n=>exact FK n λn=>K (.int k n)
 |pointer a=>exact Iz a λa=>K (.pointer a)
 |slice a n c=>
  show NQ a (λa=>iN n λn=>iN c λc=>K (.slice a n c))=_;rw[Iz,dL,dL]
 |_=>rfl
theorem gw{x:Option α}{K:α->Bool}{c:Option A}{d:A->Bool}(h:∀a,x=some a->Ref b (K a) c d):Ref b (De b x K) c d:=by
 cases x with
 |none=>exact .bad
 |some a=>exact h a rfl
theorem dE{a x y:Bool}{c:Option A}{d:A->Bool}(e:b=true->Ref a x c d)(f:b=false->Ref a y c d):Ref a (fJ b x y) c d:=by
 cases b with
 |true=>exact e rfl
 |false=>exact f rfl
theorem xr(l:List Value):∀(K:List Value->Bool),xq l K=K l:=by
 induction l with
 |nil=>intro K;rfl
 |cons a l b=>intro K;exact b λr=>K (a::r)
theorem BY:∀(l:List α)(i:Nat),nth l i=l[i]?
 |[],_=>rfl
 |_::_,0=>rfl
 |_::l,i+1=>BY l i
theorem EU(v:Value)(b:Bool):∀(l:List Value)(i:Nat)(K:List Value->Bool),Ha v b l i K=if i<l.length then K (l.set i v)else b
 |[],i,K=>by simp[Ha]
 |a::l,0,K=>by show K (v::l)=_;simp
 |a::l,i+1,K=>by
  show Ha v b l i (λr=>K (a::r))=_;rw[EU v b l i];simp
theorem HT.eQ(b:Option bw):∀(p:Fk)(t:HT)(K:HT->Bool),HT.oz b p t K=K (HT.set b p t)
 |.e,.nil,_=>rfl
 |.e,.node ..,_=>rfl
 |.l p,.nil,K=>HT.eQ b p .nil λl=>K (.node none l .nil)
 |.l p,.node v l r,K=>HT.eQ b p l λl=>K (.node v l r)
 |.r p,.nil,K=>HT.eQ b p .nil λr=>K (.node none .nil r)
 |.r p,.node v l r,K=>HT.eQ b p r λr=>K (.node v l r)
theorem vo(b:bw)(K:bw->Bool):IA b K=K b:=by
 cases b with
 |cells cs t a c=>exact xr cs λcs=>K (.cells cs t a c)
 |map d=>rfl
 |loop=>rfl
theorem zX(u:aY)(h:aa)(K:aa->Bool):WT u h K=K (u.app h):=by
 cases u with
 |no=>rfl
 |set k b=>show V9 k b h K=_;unfold V9;rw[vo,HT.eQ];rfl
 |push b=>show uo b h K=_;unfold uo;rw[vo,HT.eQ,dL];rfl
 |move k b=>show Ng k b h K=_;unfold Ng;rw[vo,HT.eQ,HT.eQ,dL];rfl
 |all a=>rfl
theorem ZI{k:IntKind}(h:n<lim k):k.wrap (n:Int)=n:=by
 have a:∀(s:Bool)(b:Nat),(n:Int)<2^b->(s=true->(n:Int)<2^(b-1))->(if s&&decide ((n:Int)%2^b>=2^(b-1))then(n:Int)%2^b-2^b else(n:Int)%2^b)=n:=by
  intro s b e f;have d:(n:Int)%2^b=n:=Int.emod_eq_of_lt (by omega) e;rw[d]
  cases s with
  |false=>rfl
  |true=>
   have:=f rfl;rw[if_neg];simp only[Bool.true_and,ge_iff_le,decide_eq_true_eq];omega
 unfold wrap
 cases k<;>exact a _ _ (by simp only[lim,IntKind.bits]at h⊢;omega) (by simp only[lim,IntKind.bits,IntKind.signed]at h⊢;first|(intro c;omega)|(intro c;cases c))
theorem Kt(k:IntKind)(n:Int)(K:Int->Bool):Wu k n K=K (k.wrap n):=by
 cases n with
 | ofNat m=>
  show fJ (Nat.blt m (lim k)) (iN m λm=>K (.ofNat m)) (Tc (k.wrap (.ofNat m)) K)=_
  cases b:Nat.blt m (lim k)with
  |true=>
   have a:m<lim k:=by simpa[blt_eq]using b
   show iN m (λm=>K (.ofNat m))=_;rw[dL];exact congrArg K (ZI a).symm
  |false=>exact FK _ K
 |negSucc m=>exact FK _ K
theorem vB(a b:Int):IT a b=decide (a<b):=by
 cases a with
 |ofNat m=>cases b with
  |ofNat n=>show Nat.blt m n=_;rw[Bool.eq_iff_iff];simp[blt_eq]
  |negSucc n=>show false=_;rw[Bool.eq_iff_iff];simp;omega
 |negSucc m=>cases b with
  |ofNat n=>show true=_;rw[Bool.eq_iff_iff];simp;omega
  |negSucc n=>show Nat.blt n m=_;rw[Bool.eq_iff_iff];simp[blt_eq];omega
theorem BE(a b:Int):N0 a b=(a==b):=by
 cases a with
 |ofNat m=>cases b with
  |ofNat n=>show Nat.beq m n=_;rw[Bool.eq_iff_iff];simp[beq_eq];omega
  |negSucc n=>show false=_;rw[Bool.eq_iff_iff];simp
 |negSucc m=>cases b with
  |ofNat n=>show false=_;rw[Bool.eq_iff_iff];simp
  |negSucc n=>show Nat.beq n m=_;rw[Bool.eq_iff_iff];simp[beq_eq];omega
end
variable{P:Program}{a:Option Addr}
section
def uz(cx:Cx)(cf:ck):Prop:=∀f a h K,Ref cx.bad (cx.cf f a h K) (cf f a h) λr=>K r.1 r.2
noncomputable abbrev mq(h:aa)(K:Value->aa->Bool)(r:Value×aY):Bool:=K r.1 (r.2.app h)
theorem Cc{r:Option (Value×aY)}{h:aa}{K:Value->aa->Bool}{a:Option (Value×aY)}(d:∀x,r=some x->a=some x):Ref b (Mg b r h K) a (mq h K):=by
 unfold Mg;refine gw λx c=> .of (d x c) ?_;obtain⟨v,u⟩:=x;show WT u h (λh=>lC v λv=>K v h)=_;rw[zX,eA]
theorem tV{cf:ck}{ρ:Operand->Value}{h:aa}(g:bu q=false):cL P fZ ρ q h=cL P cf ρ q h:=by
 obtain⟨dst,d,ty,pos,after,guard⟩:=q
 cases d<;>try rfl
 rename_i c;obtain⟨a,e,i⟩:=c
 cases a with
 |value f=>simp[bu]at g
 |invoke r m=>rfl
 |builtin b=>cases b<;>rfl
theorem B2{cf:ck}{ρ:Operand->Value}{h:aa}(a:bu q=false):bo P fZ ρ q h=bo P cf ρ q h:=by
 unfold bo;rw[tV a]
variable {cx:Cx} {cf:ck} {ρ:Operand->Value} {h:aa} {K:Value->aa->Bool} {dst:Option Tmp} {ty:TypeId} {pos:String} {after:Array Edge} {guard:Option (Nat×Bool)}
theorem gC{o:Oper}(b:bu o=false):Ref cx.bad (gen cx o ρ h K) (bo cx.P cf ρ o h) (mq h K):=
 Cc λx a=>by rw[<-B2 b];exact a
theorem run_pure{o:Oper}(a:aZ P ρ o=some v):bo P cf ρ o h=some (v,.no):=by
 unfold bo;rw[a]
theorem T7{x:Operand}:Ref cx.bad (NI x cx ⟨dst,.move x,ty,pos,after,guard⟩ ρ h K) (bo cx.P cf ρ ⟨dst,.move x,ty,pos,after,guard⟩ h) (mq h K):=
 .of (run_pure (v:=ρ x) rfl) (eA _ _)
theorem KW{x:Operand}:Ref cx.bad (NI x cx ⟨dst,.assign x,ty,pos,after,guard⟩ ρ h K) (bo cx.P cf ρ ⟨dst,.assign x,ty,pos,after,guard⟩ h) (mq h K):=
 .of (run_pure (v:=ρ x) rfl) (eA _ _)
theorem D3{a:Bool}{K:Bool->Bool}{c:Option A}{e:A->Bool}(f:∀b,v = .bool b->Ref a (K b) c e):Ref a (yJ v a K) c e:=by
 rcases H3 v a K with⟨d,_⟩|⟨b,d,g⟩
 ·rw[d];exact .bad
 ·rw[g];exact f b d
theorem mG{a:Bool}{K:IntKind->Int->Bool}{c:Option A}{e:A->Bool}(h:Ref b a c e)(f:∀k n,v = .int k n->Ref b (K k n) c e):Ref b (Dr v a K) c e:=by
 rcases Yj v a K with⟨d,_⟩|⟨k,n,d,g⟩
 ·rw[d];exact h
 ·rw[g];exact f k n d
theorem re{c:Bool}{K:Option Addr->Bool}{d:Option A}{f:A->Bool}(i:Ref b c d f)(g:∀a,v = .pointer a->Ref b (K a) d f):Ref b (Jz v c K) d f:=by
 rcases YW v c K with⟨e,_⟩|⟨a,e,h⟩
 ·rw[e];exact i
 ·rw[h];exact g a e
theorem J7{K:ByteArray->Bool}{c:Option A}{e:A->Bool}(f:∀s,v = .string s->Ref b (K s) c e):Ref b (Ao v b K) c e:=by
 rcases MS v b K with⟨d,_⟩|⟨a,d,g⟩
 ·rw[d];exact .bad
 ·rw[g];exact f a d
theorem Cz{K:Option Addr->Nat->Nat->Bool}{d:Option A}{f:A->Bool}(g:∀a n c,v = .slice a n c->Ref b (K a n c) d f):Ref b (Cy v b K) d f:=by
 rcases Re v b K with⟨e,_⟩|⟨a,n,c,e,h⟩
 ·rw[e];exact .bad
 ·rw[h];exact g a n c e
theorem PH{K:Fn->Array Value->Array Value->Bool}{d:Option A}{g:A->Bool}(h:∀f a c,v = .func f a c->Ref b (K f a c) d g):Ref b (funcF v b K) d g:=by
 rcases IK v b K with⟨e,_⟩|⟨f,a,c,e,i⟩
 ·rw[e];exact .bad
 ·rw[i];exact h f a c e
theorem R6{K:Array Value->Bool}{c:Option A}{e:A->Bool}(f:∀a,v = .agg a->Ref b (K a) c e):Ref b (WO v b K) c e:=by
 rcases WQ v b K with⟨d,_⟩|⟨a,d,g⟩
 ·rw[d];exact .bad
 ·rw[g];exact f a d
theorem Nf{K:Array Value->Bool}{c:Option A}{e:A->Bool}(f:∀a,v = .tuple a->Ref b (K a) c e):Ref b (Hi v b K) c e:=by
 rcases Rv v b K with⟨d,_⟩|⟨a,d,g⟩
 ·rw[d];exact .bad
 ·rw[g];exact f a d
theorem Jc{j:Int}{K:Nat->Bool}{a:Option A}{c:A->Bool}(d:∀n:Nat,j=n->Ref b (K n) a c):Ref b (abl j b K) a c:=by
 cases j with
 |ofNat n=>exact d n rfl
 |negSucc n=>exact .bad
theorem nZ{c:Bool}{K:Nat->Nat->Bool}{d:Option A}{e:A->Bool}(f:∀b i,a=some ⟨b,i,none⟩->Ref c (K b i) d e):Ref c (HN a c K) d e:=by
 rcases a with _|⟨b,i,_|s⟩
 ·exact .bad
 ·exact f b i rfl
 ·exact .bad
theorem JO{K:List Value->TypeId->Nat->Bool->Bool}{d:Option A}{e:A->Bool}(g:∀cs t a c,h.get k=some (.cells cs t a c)->Ref b (K cs t a c) d e):Ref b (Zc h k b K) d e:=by
 unfold Zc;refine gw λB f=>?_
 cases B with
 |cells cs t a c=>exact g cs t a c f
 |map i=>exact .bad
 |loop=>exact .bad
theorem Uz{c a b:Operand}:Ref cx.bad (SA c a b cx ⟨dst,.pick c a b,ty,pos,after,guard⟩ ρ h K) (bo cx.P cf ρ ⟨dst,.pick c a b,ty,pos,after,guard⟩ h) (mq h K):=by
 unfold SA;refine D3 λt e=>?_;refine dE (λd=>?_) (λd=>?_)
 ·rw[eA];exact .of (run_pure (v:=ρ a) (by simp[aZ,e,d])) rfl
 ·rw[eA];exact .of (run_pure (v:=ρ b) (by simp[aZ,e,d])) rfl
theorem Jh{b:bw}{f:Nat->Value}(e:aZ cx.P ρ q=none)(g:bj cx.P ρ q h=none)(d:aT cx.P ρ q=some (b,f))(a:∀k,f k = .pointer (some ⟨k,0,none⟩)):
  Ref cx.bad (YH b h K) (bo cx.P cf ρ q h) (mq h K):=by
 refine .of (r:=(f h.next,.push b)) (by unfold bo;rw[e,g,d]) ?_;unfold YH;rw[dL];have:=zX (.push b) h (λc=>K (Value.pointer (some ⟨h.next,0,none⟩)) c);rw[a];exact this
theorem O4{t:TypeId}:Ref cx.bad (K7 t cx ⟨dst,.alloc t,ty,pos,after,guard⟩ ρ h K) (bo cx.P cf ρ ⟨dst,.alloc t,ty,pos,after,guard⟩ h) (mq h K):=by
 unfold K7;refine gw λb a=>?_;unfold Sb at a;split at a
 ·next z d=>
  split at a
  ·next c=>
   obtain rfl:=oI a;exact Jh (f:=λk=> .pointer (some ⟨k,0,none⟩)) rfl rfl (by simp only[aT,d,c,if_true]) λ_=>rfl
  ·cases a
 ·cases a
theorem Xd{t:TypeId}{x:Operand}:Ref cx.bad (aaR t x cx ⟨dst,.box t x,ty,pos,after,guard⟩ ρ h K) (bo cx.P cf ρ ⟨dst,.box t x,ty,pos,after,guard⟩ h) (mq h K):=by
 unfold aaR;refine dE (λa=>?_) (λ_=>gC rfl);rw[JW]at a;rw[eA];have b:(ρ x).cells = #[ρ x]:=by
  generalize ρ x=v at a
  cases v<;>first|rfl|(simp[bc]at a)
 refine Jh (f:=λk=> .pointer (some ⟨k,0,none⟩)) rfl rfl ?_ λ_=>rfl;simp only[aT,b];rw[if_pos (by simp[a])]
theorem TO{t:TypeId}{a:Operand}:Ref cx.bad (Sz t a cx ⟨dst,.load t a,ty,pos,after,guard⟩ ρ h K) (bo cx.P cf ρ ⟨dst,.load t a,ty,pos,after,guard⟩ h) (mq h K):=by
 have d:∀v,ae cx.P t h (ρ a)=some v->bo cx.P cf ρ ⟨dst,.load t a,ty,pos,after,guard⟩ h=some (v,.no):=λv c=>by
  show(match bj cx.P ρ ⟨dst,.load t a,ty,pos,after,guard⟩ h with|some v=>some (v,aY.no)|none=>_)=_;simp only[bj,c]
 unfold Sz;refine dE (λf=>?_) (λ_=>gw λv c=> .of (d v c) rfl);refine re .bad λp l=>nZ λb i j=>JO λcs o n q m=>gw λv c=> .of (d v ?_) rfl;rw[BY]at c;unfold GO at f;simp only[and_eq_true,not_eq_true']at f;obtain⟨e,g⟩:=f
 cases k:cx.P.underlying t with
 |none=>rw[k]at e;cases e
 |some u=>simp only[ae,k,l,j,m,g,false_eq_true,if_false,c]
theorem Rl{t:TypeId}{a x:Operand}:Ref cx.bad (Lb t a x cx ⟨dst,.store t a x,ty,pos,after,guard⟩ ρ h K) (bo cx.P cf ρ ⟨dst,.store t a x,ty,pos,after,guard⟩ h) (mq h K):=by
 have e:∀r,aj cx.P t (ρ a) (ρ x) h=some r->bo cx.P cf ρ ⟨dst,.store t a x,ty,pos,after,guard⟩ h=some r:=λr p=>by
  show cL cx.P cf ρ ⟨dst,.store t a x,ty,pos,after,guard⟩ h=_;exact p
 unfold Lb;refine dE (λf=>?_) (λ_=>Cc e);simp only[and_eq_true,JW]at f;obtain⟨k,d⟩:=f;have s:(ρ x).cells = #[ρ x]:=by
  generalize ρ x=v at d
  cases v<;>first|rfl|(simp[bc]at d)
 refine re .bad λu l=>nZ λb i g=>JO λcs n m w q=>dE (λo=>?_) (λ_=> .bad);rw[eA,EU];by_cases c:i<cs.length
 ·rw[if_pos c,HT.eQ];refine .of (r:=(undef,.set b (.cells (cs.set i (ρ x)) n m true))) (e _ ?_) rfl;have j:au cx.P t=some 1:=by simpa[aap]using k
  subst o;simp only[aj,l,g,s,j,List.size_toArray,length_cons,length_nil,storeAt,q];rw[if_pos trivial,if_pos ⟨by omega,by simpa using d⟩];simp only[map_some];rw[List.set_eq_take_append_cons_drop,if_pos c];simp
 ·rw[if_neg c];exact .bad
end
variable{T:TypeId}
section
variable {cx:Cx} {cf:ck} {ρ:Operand->Value} {h:aa} {K:Value->aa->Bool} {dst:Option Tmp} {ty:TypeId} {pos:String} {after:Array Edge} {guard:Option (Nat×Bool)}
theorem Gx{x:Operand}:Ref cx.bad (xh x cx ⟨dst,.nilCheck x,ty,pos,after,guard⟩ ρ h K) (bo cx.P cf ρ ⟨dst,.nilCheck x,ty,pos,after,guard⟩ h) (mq h K):=by
 unfold xh;refine re (gC rfl) λa d=>gw λc b=>?_;subst b;exact .of (run_pure (v:= .pointer (some c)) (by simp[aZ,d])) rfl
theorem wT{c:BinOp}{f:Int->Int->Int}{t:TypeId}{x y:Operand}(e:∀k a b,ay cx.P c t (.int k a) (.int k b)=some (.int k (k.wrap (f a b)))):
  Ref cx.bad (AN f x y cx ⟨dst,.binOp c t x y T,ty,pos,after,guard⟩ ρ h K) (bo cx.P cf ρ ⟨dst,.binOp c t x y T,ty,pos,after,guard⟩ h) (mq h K):=by
 unfold AN;refine mG (gC rfl) λk a g=>mG .bad λj b d=>dE (λi=>?_) (λ_=> .bad);obtain rfl:=Ga i;rw[Kt];exact .of (run_pure (v:= .int k (k.wrap (f a b))) (by simp only[aZ,g,d,e])) rfl
theorem rP{c:BinOp}{f:Int->Int->Bool}{t:TypeId}{x y:Operand}(i:∀k a b,ay cx.P c t (.int k a) (.int k b)=some (.bool (f a b))):
  Ref cx.bad (HW f x y cx ⟨dst,.binOp c t x y T,ty,pos,after,guard⟩ ρ h K) (bo cx.P cf ρ ⟨dst,.binOp c t x y T,ty,pos,after,guard⟩ h) (mq h K):=by
 unfold HW;refine mG (gC rfl) λk a j=>mG .bad λm b g=>dE (λl=>?_) (λ_=> .bad);obtain rfl:=Ga l;have d:=run_pure (cf:=cf) (h:=h) (P:=cx.P) (ρ:=ρ) (o:=⟨dst,.binOp c t x y T,ty,pos,after,guard⟩) (v:= .bool (f a b)) (by simp only[aZ,j,g,i]);refine dE (λe=>?_) (λe=>?_)
 ·rw[e]at d;exact .of d rfl
 ·rw[e]at d;exact .of d rfl
theorem Pa{c:BinOp}{t:TypeId}{x y:Operand}:Ref cx.bad (acO c t x y T cx ⟨dst,.binOp c t x y T,ty,pos,after,guard⟩ ρ h K) (bo cx.P cf ρ ⟨dst,.binOp c t x y T,ty,pos,after,guard⟩ h) (mq h K):=by
 cases c with
 |add=>exact wT λk a b=>by simp[ay,ac6]
 |sub=>exact wT λk a b=>by simp[ay,ac8]
 |mul=>exact wT λk a b=>by simp[ay,ac7]
 |eql=>exact rP λk a b=>by simp[ay,intCmp,BE]
 |neq=>exact rP λk a b=>by simp only[ay,intCmp,iNe,BE,if_true,map_some];simp[bne]
 |lss=>exact rP λk a b=>by simp[ay,intCmp,vB]
 |leq=>exact rP λk a b=>by simp only[ay,intCmp,iLe,vB,if_true,map_some];rw[<-decide_not];simp[Int.not_lt]
 |gtr=>exact rP λk a b=>by simp[ay,intCmp,iGt,vB]
 |geq=>exact rP λk a b=>by simp only[ay,intCmp,iGe,vB,if_true,map_some];rw[<-decide_not];simp[Int.not_lt]
 |_=>exact gC (o:=⟨dst,_,ty,pos,after,guard⟩) rfl
theorem V5{a:UnOp}{t:TypeId}{x:Operand}:Ref cx.bad (cUn a t x cx ⟨dst,.unOp a t x,ty,pos,after,guard⟩ ρ h K) (bo cx.P cf ρ ⟨dst,.unOp a t x,ty,pos,after,guard⟩ h) (mq h K):=by
 cases a with
 |not=>
  show Ref cx.bad (ab3 x cx ⟨dst,.unOp .not t x,ty,pos,after,guard⟩ ρ h K) _ _;unfold ab3;refine D3 λb e=>?_;have c:=run_pure (cf:=cf) (h:=h) (P:=cx.P) (ρ:=ρ) (o:=⟨dst,.unOp .not t x,ty,pos,after,guard⟩) (v:= .bool !b) (by simp only[aZ,e,E6]);refine dE (λd=>?_) (λd=>?_)
  ·rw[d]at c;exact .of c rfl
  ·rw[d]at c;exact .of c rfl
 |neg=>rw[show cUn .neg t x=gen from rfl];exact gC rfl
 |xor=>rw[show cUn .xor t x=gen from rfl];exact gC rfl
 |plus=>rw[show cUn .plus t x=gen from rfl];exact gC rfl
theorem Ib{d:TypeId}{x:Operand}:Ref cx.bad (AV T d x cx ⟨dst,.convert T d x,ty,pos,after,guard⟩ ρ h K) (bo cx.P cf ρ ⟨dst,.convert T d x,ty,pos,after,guard⟩ h) (mq h K):=by
 unfold AV
 cases a:kOf cx.P T d with
 |none=>exact gC rfl
 | some k=>
  refine mG .bad λf n b=>?_;rw[Kt];refine .of (run_pure (v:= .int k (k.wrap n)) ?_) rfl;unfold kOf at a;split at a
  ·next u g c e=>
   obtain rfl:=oI a;simp only[aZ,eK,c,e,b]
  ·cases a
theorem wP(b i n:Nat):Addr.add ⟨b,i,none⟩ n=⟨b,i+n,none⟩:=by
 unfold Addr.add;split
 ·next a=>subst a;rfl
 ·rfl
theorem Dm{x:Operand}:Ref cx.bad (tJ T x n cx ⟨dst,.fieldAddr T x n,ty,pos,after,guard⟩ ρ h K) (bo cx.P cf ρ ⟨dst,.fieldAddr T x n,ty,pos,after,guard⟩ h) (mq h K):=by
 unfold tJ;refine gw λg c=>re .bad λa l=>nZ λb i e=>?_;rw[dL];refine .of (run_pure (v:= .pointer (some ⟨b,i+g,none⟩)) ?_) rfl;subst e;unfold acZ at c;split at c
 ·next d k=>
  split at c
  ·next m j=>
   split at c
   ·next f=>
    obtain rfl:=oI c;simp only[aZ,k,l,j];rw[if_pos f,wP]
   ·cases c
  ·cases c
 ·cases c
theorem PB{x:Operand}:Ref cx.bad (K9 T x n cx ⟨dst,.field T x n,ty,pos,after,guard⟩ ρ h K) (bo cx.P cf ρ ⟨dst,.field T x n,ty,pos,after,guard⟩ h) (mq h K):=by
 unfold K9
 cases a:Lw cx.P T n with
 |none=>exact gC rfl
 | some m=>
  refine R6 λcs i=>gw λv e=>?_;rw[eA];refine .of (run_pure (v:=v) ?_) rfl;rw[BY]at e;unfold Lw at a;split at a
  ·next g l=>
   split at a
   ·next k j=>
    split at a
    ·next d=>
     obtain rfl:=oI a;unfold GO at d;simp only[and_eq_true,not_eq_true']at d;obtain⟨c,f⟩:=d
     cases b:cx.P.underlying k.type with
     |none=>rw[b]at c;cases c
     |some u=>
      simp only[aZ,l,i,j,partOf,b,f,false_eq_true,if_false];simpa using e
    ·cases a
   ·cases a
  ·cases a
theorem Dq{t:TypeId}{x i:Operand}:Ref cx.bad (tK t x i cx ⟨dst,.indexAddr t x i,ty,pos,after,guard⟩ ρ h K) (bo cx.P cf ρ ⟨dst,.indexAddr t x i,ty,pos,after,guard⟩ h) (mq h K):=by
 unfold tK;refine gw λw d=>?_;obtain⟨B,n⟩:=w;refine mG .bad λk j y=>Jc λm z=>?_;subst z;unfold aab at d;split at d
 ·next A e s=>
  obtain⟨r,q,p⟩:=map_eq_some_iff.1 d;simp only[Prod.mk.injEq]at p;obtain⟨rfl,rfl⟩:=p;refine re .bad λa u=>?_;unfold elemAt;refine dE (λf=>nZ λb o g=>?_) (λ_=> .bad);rw[dL];refine .of (run_pure (v:= .pointer (some ⟨b,o+m*r,none⟩)) ?_) rfl;subst g;have f:m<A:=by simpa[blt_eq]using f
  simp only[aZ,s,u,y,q];rw[if_pos ⟨by omega,by omega⟩,wP];rfl
 ·next e s=>
  obtain⟨r,q,p⟩:=map_eq_some_iff.1 d;simp only[Prod.mk.injEq]at p;obtain⟨rfl,rfl⟩:=p;refine Cz λa l c u=>?_;unfold elemAt;refine dE (λf=>nZ λb o g=>?_) (λ_=> .bad);rw[dL];refine .of (run_pure (v:= .pointer (some ⟨b,o+m*r,none⟩)) ?_) rfl;subst g;have f:m<l:=by simpa[blt_eq]using f
  simp only[aZ,s,u,y,q];rw[if_pos ⟨by omega,by omega⟩,wP];rfl
 ·cases d
theorem PS{t:TypeId}{x i:Operand}:Ref cx.bad (La t x i cx ⟨dst,.index t x i,ty,pos,after,guard⟩ ρ h K) (bo cx.P cf ρ ⟨dst,.index t x i,ty,pos,after,guard⟩ h) (mq h K):=by
 unfold La;refine dE (λa=>J7 λs d=>mG .bad λk j g=>Jc λm e=>gw λb c=>?_) (λ_=>gC rfl);rw[dL];subst e;rw[BY]at c;refine .of (run_pure (v:= .int .u8 b.toNat) ?_) rfl;unfold isStr at a;split at a
 ·next f=>
  simp only[aZ,f,d,g];rw[if_pos (by omega)];simp only[Int.toNat_natCast,c]
 ·cases a
theorem Iy{x:Operand}:Ref cx.bad (AW x i cx ⟨dst,.extract x i,ty,pos,after,guard⟩ ρ h K) (bo cx.P cf ρ ⟨dst,.extract x i,ty,pos,after,guard⟩ h) (mq h K):=by
 unfold AW;refine Nf λc b=>gw λv a=>?_;rw[eA];rw[BY]at a;exact .of (run_pure (v:=v) (by simp only[aZ,b];simpa using a)) rfl
theorem Bo:∀(l:List Operand)(K:List Value->Bool),fArgs ρ l K=K (l.map ρ)
 |[],_=>rfl
 |x::l,K=>by
  show lC (ρ x) (λv=>fArgs ρ l λr=>K (v::r))=_;rw[eA,Bo l];rfl
theorem Ea{a:Array Value}(h:xl a=true):a.size=0:=by
 unfold xl at h;rw[<-length_toList];generalize a.toList=l at h
 cases l with
 |nil=>rfl
 |cons x l=>cases h
theorem SE(w:uz cx cf){c:Call}:Ref cx.bad (Sy c cx ⟨dst,.call c,ty,pos,after,guard⟩ ρ h K) (bo cx.P cf ρ ⟨dst,.call c,ty,pos,after,guard⟩ h) (mq h K):=by
 obtain⟨p,d,j⟩:=c
 cases p with
 | value f=>
  show Ref cx.bad (Fx f d j cx ⟨dst,.call ⟨.value f,d,j⟩,ty,pos,after,guard⟩ ρ h K) _ _;unfold Fx;refine PH λE first i D=>?_
  cases E with
  |func g=>
   show Ref cx.bad (fJ (Nat.blt g YB) (fArgs ρ d.toList λo=>xq (first.toList++o++i.toList) λo=>cx.cf g o h K) cx.bad) _ _;refine dE (λq=>?_) (λ_=> .bad);have q:g<YB:=by simpa[blt_eq]using q
   rw[Bo,xr];rcases w g (first.toList++d.toList.map ρ++i.toList) h K with z|⟨r,B,C⟩
   ·rw[z];exact .bad
   ·refine .of (r:=(r.1,.all r.2)) ?_ C;show cL cx.P cf ρ ⟨dst,.call ⟨.value f,d,j⟩,ty,pos,after,guard⟩ h=_;simp only[cL,qE,D,B,map_some,if_pos q]
  |yield k=>
   show Ref cx.bad (fJ (xl first) (fJ (xl i) (fArgs ρ d.toList λo=>iN (YB+k) λG=>cx.cf G o h K) cx.bad) cx.bad) _ _;refine dE (λB=>dE (λC=>?_) (λ_=> .bad)) (λ_=> .bad);rw[Bo,dL];rcases w (YB+k) (d.toList.map ρ) h K with z|⟨r,F,J⟩
   ·rw[z];exact .bad
   ·refine .of (r:=(r.1,.all r.2)) ?_ J;show cL cx.P cf ρ ⟨dst,.call ⟨.value f,d,j⟩,ty,pos,after,guard⟩ h=_;simp only[cL,qE,D,F,map_some,if_pos (show first.size=0/\i.size=0 from⟨Ea B,Ea C⟩)]
  |method _=>exact .bad
  |methodOf _ _=>exact .bad
  |via _ _ _ _=>exact .bad
 |invoke r m=>exact .bad
 | builtin b=>
  by_cases u:b = .append
  ·subst u;show Ref cx.bad (AY d j cx ⟨dst,.call ⟨.builtin .append,d,j⟩,ty,pos,after,guard⟩ ρ h K) _ _;unfold AY;refine Cc λr M=>?_;show cL cx.P cf ρ ⟨dst,.call ⟨.builtin .append,d,j⟩,ty,pos,after,guard⟩ h=_;exact M
  by_cases s:b = .len
  ·subst s;show Ref cx.bad (SF d j cx ⟨dst,.call ⟨.builtin .len,d,j⟩,ty,pos,after,guard⟩ ρ h K) _ _;unfold SF
   cases l:Gg cx.P d j with
   |none=>exact gC rfl
   | some x=>
    refine Cz λa n c H=>?_;refine .of (r:=(.int .i64 n,.no)) ?_ rfl;unfold Gg at l;split at l
    ·next y t N L=>
     split at l
     ·next A=>
      obtain rfl:=oI l;unfold aad at A;split at A
      ·next e I=>
       show(match bj cx.P ρ ⟨dst,.call ⟨.builtin .len,d,j⟩,ty,pos,after,guard⟩ h with|some v=>some (v,aY.no)|none=>_)=_;simp only[bj,N,L,I,H]
      ·cases A
     ·cases l
    ·cases l
  have q:Sy ⟨.builtin b,d,j⟩=gen:=by
   cases b<;>first|rfl|exact absurd rfl u|exact absurd rfl s
  rw[q];exact gC rfl
theorem Ah(g:uz cx cf)(o:Oper):Ref cx.bad (opF o.op cx o ρ h K) (bo cx.P cf ρ o h) (mq h K):=by
 obtain⟨dst,e,ty,pos,after,guard⟩:=o
 cases e with
 |move x=>exact T7
 |assign x=>exact KW
 |pick c a b=>exact Uz
 |alloc t=>exact O4
 |box t x=>exact Xd
 |load t a=>exact TO
 |store t a x=>exact Rl
 |nilCheck x=>exact Gx
 |binOp e t x y u=>exact Pa
 |unOp e t x=>exact V5
 |convert s d x=>exact Ib
 |fieldAddr s x f=>exact Dm
 |field s x f=>exact PB
 |indexAddr t x i=>exact Dq
 |index t x i=>exact PS
 |extract x i=>exact Iy
 |call c=>exact SE g
 |go _=>exact .bad
 |defer _=>exact .bad
 |panic _=>exact .bad
 |send _ _=>exact .bad
 |recv _ _ _=>exact .bad
 |select _ _=>exact .bad
 |_=>exact gC (o:=⟨dst,_,ty,pos,after,guard⟩) rfl
end
section
variable {cx:Cx} {cf:ck}
def eT(n:Nat)(e:Env)(l:List Value):Prop:=l.length=n/\n<=256/\∀t,Env.get t e=l.getD t undef
theorem Bk{e:Env}{l:List Value}(b:eT n e l)(a:Nat->Bool):NO a e=ev a l:=by
 funext x
 cases x with
 |tmp t=>exact b.2.2 t
 |const v=>
  show Xt (plain v) v jE=if plain v then v else jE
  cases plain v<;>rfl
 |global g=>
  show Xt (a g) _ jE=if a g then _ else jE
  cases a g<;>rfl
 |func f=>rfl
theorem wc{e:Env}{l:List Value}(a:eT n e l)(b:Option Tmp)(v:Value):∃i,eT n i (eZ l b v)/\∀(K:Env->Bool),sG n b e v K=K i:=by
 cases b with
 |none=>exact⟨e,a,λK=>rfl⟩
 | some d=>
  cases c:Nat.blt d n with
  | true=>
   have f:d<n:=by simpa[blt_eq]using c
   refine⟨Env.new d e v,⟨by rw[iU];exact a.1,a.2.1,λt=>?_⟩,λK=>?_⟩
   ·rw[Env.FZ (lt_of_lt_of_le f a.2.1),gD];split
    ·next g=>subst g;rw[EF (by rw[a.1];exact f)];rfl
    ·next g=>rw[GR (λk=>g (oI k).symm),<-gD];exact a.2.2 t
   ·show fJ (Nat.blt d n) (Env.put d e v K) (K e)=_;rw[c];exact Env.put_eq d e v K
  | false=>
   have j:n<=d:=by
    rcases lt_or_ge d n with h|h
    ·have:Nat.blt d n=true:=by simpa[blt_eq]using h
     rw[c]at this;cases this
    ·exact h
   refine⟨e,?_,λK=>?_⟩
   ·have:eZ l (some d) v=l:=by simp only[eZ];exact List.set_eq_of_length_le (by rw[a.1];exact j)
    rw[this];exact a
   ·show fJ (Nat.blt d n) (Env.put d e v K) (K e)=_;rw[c];rfl
theorem PK(v:Value)(a:Bool)(f:Bool->Bool)(c:Bool):Bz v a f c=a\/(∃b,v = .bool b/\Bz v a f c=f b)\/ ∃d,v = .tuple d/\Bz v a f c=c:=by
 cases v with
 |bool b=>exact .inr (.inl ⟨b,rfl,rfl⟩)
 |tuple d=>exact .inr (.inr ⟨d,rfl,rfl⟩)
 |_=>exact .inl rfl
theorem Ko{e:Env}{l:List Value}(q:eT n e l){ops:Array Oper}(o:Oper)(c f a:Bool):
  CL ops e c o.guard f a=c\/(dY ops l o=some true/\CL ops e c o.guard f a=f)\/(dY ops l o=some false/\CL ops e c o.guard f a=a):=by
 unfold dY
 cases s:o.guard with
 |none=>exact .inr (.inl ⟨rfl,rfl⟩)
 | some g=>
  obtain⟨j,h⟩:=g
  cases m:(ops[j]?).bind (·.dst)with
  |none=>
   left;show De c (Tp ops j) _=c;unfold Tp;rw[m];rfl
  | some d=>
   have p:CL ops e c (some (j,h)) f a=Bz (Env.get d e) c (λb=>Bool.rec (motive:=λ_=>Bool) (fJ h a f) (fJ h f a) b) a:=by
    show De c (Tp ops j) _=_;unfold Tp;rw[m];rfl
   rw[p];simp only[m];rw[q.2.2 d];rcases PK (l.getD d undef) c (λb=>Bool.rec (motive:=λ_=>Bool) (fJ h a f) (fJ h f a) b) a with i|⟨b,i,k⟩|⟨r,i,k⟩
   ·exact .inl i
   ·rw[k];simp only[i]
    cases b<;>cases h<;>first|exact .inr (.inl ⟨rfl,rfl⟩)|exact .inr (.inr ⟨rfl,rfl⟩)
   ·rw[k];simp only[i];exact .inr (.inr ⟨trivial,trivial⟩)
def KT{b:Type}(n:Nat)(c x:Bool)(d:Option (List Value×b))(K:Env->b->Bool):Prop:=x=c\/ ∃l a e,d=some (l,a)/\eT n e l/\x=K e a
theorem B6(c:uz cx cf){ops:Array Oper}:∀(a:List Oper){e:Env}{l:List Value}{h:aa}{K:Env->aa->Bool},eT cx.n e l->KT cx.n cx.bad (Jq cx ops a e h K) (jx cx.P cx.gl cf ops a l h) K
 |[],e,l,h,K,b=> .inr ⟨l,h,e,rfl,b,rfl⟩
 | o::a,e,l,h,K,b=>by
  show KT cx.n cx.bad (abr cx ops o e h λe h=>Jq cx ops a e h K) _ K;unfold abr;rcases Ko b o cx.bad (opF o.op cx o (NO cx.gl e) h λv h=>sG cx.n o.dst e v λe=>Jq cx ops a e h K) (sG cx.n o.dst e undef λe=>Jq cx ops a e h K)with d|⟨d,g⟩|⟨d,g⟩
  ·exact .inl d
  ·rw[g];rcases Ah c (ρ:=NO cx.gl e) (h:=h) (K:=λv h=>sG cx.n o.dst e v λe=>Jq cx ops a e h K) o with f|⟨⟨v,u⟩,f,m⟩
   ·exact .inl f
   ·rw[m];rw[Bk b]at f;obtain⟨k,j,i⟩:=wc b o.dst v;show KT cx.n cx.bad (sG cx.n o.dst e v λe=>Jq cx ops a e (u.app h) K) _ K;rw[i];simp only[jx,d,f];exact B6 c a j
  ·rw[g];obtain⟨k,j,i⟩:=wc b o.dst undef;rw[i];simp only[jx,d];exact B6 c a j
end
section
variable {cx:Cx} {cf:ck}
theorem pF(a:Nat):∀(l:List (Nat×bw))(h:aa)(K:aa->Bool),nH a l h K=K (av h a l)
 |[],_,_=>rfl
 |(i,B)::l,h,K=>by
  show nH a l h (λh=>HT.oz (some B) (pathOf (a+i)) h.t λt=>K ⟨h.next,t⟩)=_;rw[pF a l h,HT.eQ];rfl
theorem SL{m:Value×aY}(g:Po q.op = .p)(a:bo P cf r q h=some m):aZ P r q=some m.1/\m.2 = .no:=by
 obtain⟨j,k,n,i,f,e⟩:=q;unfold bo at a
 cases l:aZ P r ⟨j,k,n,i,f,e⟩with
 |some v=>rw[l]at a;obtain rfl:=oI a;exact⟨rfl,rfl⟩
 | none=>
  rw[l]at a
  cases k with
  |call c=>
   obtain⟨d,o,p⟩:=c
   cases d with
   |builtin b=>cases b<;>exact nomatch g
   |_=>exact nomatch g
  |_=>first|(change (none:Option (Value×aY))=some m at a;exact nomatch a)|cases g
theorem SN{s:Value×aY}(p:Po q.op = .r)(m:bo P cf r q h=some s):aZ P r q=none/\bj P r q h=some s.1/\s.2 = .no:=by
 obtain⟨g,i,j,f,e,d⟩:=q;have n:aZ P r ⟨g,i,j,f,e,d⟩=none->(bj P r ⟨g,i,j,f,e,d⟩ h=none->bo P cf r ⟨g,i,j,f,e,d⟩ h=none)->aZ P r ⟨g,i,j,f,e,d⟩=none/\bj P r ⟨g,i,j,f,e,d⟩ h=some s.1/\s.2 = .no:=λu l=>by
  refine⟨u,?_⟩
  cases o:bj P r ⟨g,i,j,f,e,d⟩ h with
  |none=>rw[l o]at m;cases m
  |some v=>
   unfold bo at m;rw[u,o]at m;obtain rfl:=oI m;exact⟨rfl,rfl⟩
 cases i with
 |load t a=>exact n rfl λl=>by unfold bo;rw[l];rfl
 |call c=>
  obtain⟨k,w,x⟩:=c
  cases k with
  |builtin b=>cases b<;>first|exact n rfl λl=>by unfold bo;rw[l];rfl|cases p
  |_=>exact nomatch p
 |_=>exact nomatch p
theorem Xm{ρ:Operand->Value}(e:Po q.op = .e):(∀h,aZ P ρ q=none/\bj P ρ q h=none/\aT P ρ q=none)/\bo P cf ρ q h=cL P cf ρ q h:=by
 obtain⟨m,j,o,l,i,g⟩:=q
 cases j with
 |store t a x=>exact⟨λ_=>⟨rfl,rfl,rfl⟩,rfl⟩
 |call c=>
  obtain⟨d,k,n⟩:=c
  cases d with
  |builtin b=>cases b<;>first|exact⟨λ_=>⟨rfl,rfl,rfl⟩,rfl⟩|cases e
  |value f=>exact⟨λ_=>⟨rfl,rfl,rfl⟩,rfl⟩
  |_=>exact nomatch e
 |_=>exact nomatch e
theorem Pp(h:Po q.op = .d):bu q=false:=by
 obtain⟨j,e,l,i,d,b⟩:=q
 cases e with
 |call c=>
  obtain⟨a,g,k⟩:=c
  cases a with
  |value f=>exact nomatch h
  |_=>rfl
 |_=>rfl
noncomputable def oU(P:Program)(cf:ck)(c:Nat->Nat->Bool)(a j:Nat)(o:Oper)(d:Operand->Value)(h:aa)(b:List (Nat×bw)):Option (lz×Value×aa×List (Nat×bw)):=
 match aZ P d o with
 |some v=>some (.pure v,v,h,b)
 | none=>match bj P d o h with
  |some v=>some (.read v,v,h,b)
  | none=>match aT P d o with
   |some (B,f)=>some (.alloc B (f (a+j)),f (a+j),h,(j,B)::b)
   |none=>match cL P cf d o (av h a (b.filter λp=>c j p.1))with
    |some (v,u)=>some (.qc v (u.app (av h a (b.filter λp=>c j p.1))),v,u.app (av h a (b.filter λp=>c j p.1)),b.filter λp=> !c j p.1)
    |none=>none
theorem SU(g:uz cx cf){bf:Nat->Nat->Bool}{base j:Nat}{o:Oper}{ρ:Operand->Value}{h:aa}{pd:List (Nat×bw)}{K:aax}:
  Ref cx.bad (SR cx bf base j o ρ h pd K) (oU cx.P cf bf base j o ρ h pd) λr=>K r.1 r.2.1 r.2.2.1 r.2.2.2:=by
 unfold SR
 cases k:Po o.op with
 |p=>
  rcases Ah g (ρ:=ρ) (h:=h) (K:=λv _=>K (.pure v) v h pd) o with a|⟨r,a,i⟩
  ·exact .inl a
  ·obtain⟨c,_⟩:=SL k a;exact .of (r:=(.pure r.1,r.1,h,pd)) (by unfold oU;rw[c]) i
 |r=>
  rcases Ah g (ρ:=ρ) (h:=h) (K:=λv _=>K (.read v) v h pd) o with a|⟨r,a,i⟩
  ·exact .inl a
  ·obtain⟨c,l,_⟩:=SN k a;exact .of (r:=(.read r.1,r.1,h,pd)) (by unfold oU;rw[c,l]) i
 |e=>
  show Ref cx.bad (nH base (pd.filter λp=>bf j p.1) h λh=>opF o.op cx o ρ h λv b=>K (.qc v b) v b (pd.filter λp=> !bf j p.1)) _ _;rw[pF];rcases Ah g (ρ:=ρ) (h:=av h base (pd.filter λp=>bf j p.1)) (K:=λv b=>K (.qc v b) v b (pd.filter λp=> !bf j p.1)) o with a|⟨⟨v,u⟩,a,i⟩
  ·exact .inl a
  ·obtain⟨c,l⟩:=Xm (P:=cx.P) (ρ:=ρ) (cf:=cf) (h:=av h base (pd.filter λp=>bf j p.1)) k;obtain⟨q,n,m⟩:=c h;rw[l]at a;exact .of (r:=(.qc v (u.app (av h base (pd.filter λp=>bf j p.1))),v,u.app (av h base (pd.filter λp=>bf j p.1)),pd.filter λp=> !bf j p.1))
    (by unfold oU;rw[q,n,m,a]) i
 | d=>
  show Ref cx.bad (aa2 cx bf base j o ρ h pd K) _ _;unfold aa2 oU
  cases w:aZ cx.P ρ o with
  |some v=>exact .of rfl (eA _ _)
  | none=>
   cases x:bj cx.P ρ o h with
   |some v=>exact .of rfl (eA _ _)
   | none=>
    cases t:aT cx.P ρ o with
    |some r=>
     obtain⟨B,f⟩:=r;refine .of rfl ?_;show IA B (λB=>lC (f (base+j)) λv=>K (.alloc B v) v h ((j,B)::pd))=_;rw[vo,eA]
    | none=>
     show Ref cx.bad (nH base (pd.filter λp=>bf j p.1) h λh=>Mg cx.bad (cL cx.P fZ ρ o h) h λv b=>K (.qc v b) v b (pd.filter λp=> !bf j p.1)) _ _;rw[pF,tV (cf:=cf) (Pp k)]
     cases s:cL cx.P cf ρ o (av h base (pd.filter λp=>bf j p.1))with
     |none=>exact .bad
     |some r=>
      obtain⟨v,u⟩:=r;refine .of rfl ?_;show WT u (av h base (pd.filter λp=>bf j p.1)) (λb=>lC v λv=>K (.qc v b) v b (pd.filter λp=> !bf j p.1))=_;rw[zX,eA]
theorem FE{g:Nat->Bool}{e:Nat->Nat->Bool}{b:List Oper}{l:List (Nat×bw)}(m:dY U c q=some true)
  {r:lz×Value×aa×List (Nat×bw)} (a:oU P cf e n j q (ev g c) h l=some r):
  cW P g cf U e n (q::b) j c h l=(cW P g cf U e n b (j+1) (eZ c q.dst r.2.1) r.2.2.1 r.2.2.2).map λx=>((c,r.1)::x.1,x.2):=by
 unfold oU at a;simp only[cW,m];split at a
 ·next v k=>obtain rfl:=oI a;simp only[k]
 ·next k=>
  simp only[k];split at a
  ·next v d=>obtain rfl:=oI a;simp only[d]
  ·next d=>
   simp only[d];split at a
   ·next B f i=>obtain rfl:=oI a;simp only[i]
   ·next i=>
    simp only[i];split at a
    ·next v u o=>obtain rfl:=oI a;simp only[o]
    ·cases a
inductive OZ(n:Nat):List Oper->List Fl->List (List Value×lz)->Prop where
 |nil:OZ n [] [] []
 |cons {o:Oper} {os:List Oper} {e:Env} {ent:lz} {tm:List Value} {a:List Fl} {b:List (List Value×lz)} (h:eT n e tm) (r:OZ n os a b):OZ n (o::os) ((o,e,ent)::a) ((tm,ent)::b)
theorem oV(s:uz cx cf){ops:Array Oper}{bf:Nat->Nat->Bool}{base:Nat}:∀(l:List Oper){j:Nat}{e:Env}{r:List Value}{h:aa}{pd:List (Nat×bw)}{K:List Fl->Env->aa->List (Nat×bw)->Bool},eT cx.n e r->
  jm cx ops bf base l j e h pd K=cx.bad\/ ∃a p x q i f,cW cx.P cx.gl cf ops bf base l j r h pd=some (a,p,x,q)/\eT cx.n f p/\OZ cx.n l i a/\jm cx ops bf base l j e h pd K=K i f x q
 |[],j,e,r,h,pd,K,m=> .inr ⟨[],r,h,pd,[],e,rfl,m,.nil,rfl⟩
 | o::c,j,e,r,h,pd,K,m=>by
  have F:jm cx ops bf base (o::c) j e h pd K=CL ops e cx.bad o.guard
   (SR cx bf base j o (NO cx.gl e) h pd λk v h pd=>sG cx.n o.dst e v λf=>jm cx ops bf base c (j+1) f h pd λa g d b=>K ((o,e,k)::a) g d b)
   (sG cx.n o.dst e undef λf=>jm cx ops bf base c (j+1) f h pd λa g d b=>K ((o,e,.skip)::a) g d b):=rfl
  rw[F];rcases Ko m (ops:=ops) o cx.bad (SR cx bf base j o (NO cx.gl e) h pd λk v h pd=>sG cx.n o.dst e v λf=>jm cx ops bf base c (j+1) f h pd λa g d b=>K ((o,e,k)::a) g d b)
   (sG cx.n o.dst e undef λf=>jm cx ops bf base c (j+1) f h pd λa g d b=>K ((o,e,.skip)::a) g d b)with t|⟨t,d⟩|⟨t,d⟩
  ·exact .inl t
  ·rw[d];rcases SU s (bf:=bf) (base:=base) (j:=j) (o:=o) (ρ:=NO cx.gl e) (h:=h) (pd:=pd) (K:=λk v h pd=>sG cx.n o.dst e v λf=>jm cx ops bf base c (j+1) f h pd λa g d b=>K ((o,e,k)::a) g d b)with w|⟨⟨k,v,x,q⟩,w,G⟩
   ·exact .inl w
   ·rw[G];rw[Bk m]at w;obtain⟨f,C,B⟩:=wc m o.dst v;simp only[B];rcases oV s c C (ops:=ops) (bf:=bf) (base:=base) (j:=j+1) (h:=x) (pd:=q) (K:=λa g d b=>K ((o,e,k)::a) g d b)with n|⟨a,p,D,z,i,E,n,y,A,u⟩
    ·exact .inl n
    ·refine .inr ⟨_,_,_,_,_,_,?_,y,.cons m A,u⟩;rw[FE t w,n];rfl
  ·rw[d];obtain⟨f,C,B⟩:=wc m o.dst undef;rw[B];rcases oV s c C (ops:=ops) (bf:=bf) (base:=base) (j:=j+1) (h:=h) (pd:=pd) (K:=λa g d b=>K ((o,e,.skip)::a) g d b)with n|⟨a,p,D,z,i,E,n,y,A,u⟩
   ·exact .inl n
   ·refine .inr ⟨_,_,_,_,_,_,?_,y,.cons m A,u⟩;simp only[cW,t,n];rfl
theorem S6{d:List Oper}{a:List Fl}{b:List (List Value×lz)}(h:OZ n d a b):∀j,D9 a j=dI b j:=by
 induction h with
 |nil=>intro j;rfl
 |cons _ _ f=>
  rename_i o d e c g a b _ _;intro j;show acU c j (D9 a (j+1))=_;rw[f]
  cases c<;>rfl
theorem D6(a:Nat->Nat->Bool):∀(l:List (Nat×aa))(p:Option Nat),xj a l p=(match p,l with|some i,(j,_)::_=>a j i&&chained a l|_,_=>chained a l)
 |[],p=>by cases p<;>rfl
 | (j,h)::l,p=>by
  have c:=D6 a l (some j);have b:chained a ((j,h)::l)=xj a l (some j):=by
   rw[c]
   cases l with
   |nil=>rfl
   |cons x l=>rfl
  cases p with
  |none=>show xj a l (some j)=_;exact b.symm
  |some i=>
   show fJ (a j i) (xj a l (some j)) false=(a j i&&chained a ((j,h)::l));rw[b]
   cases a j i<;>rfl
theorem JR{a:Nat->Bool}:ES P q (ev a c) v h=hH P a q c v h:=by
 unfold ES hH
 cases bj P (ev a c) q h<;>rfl
theorem Cp{P:Program}{c:Nat->Bool}{b:Nat->Nat->Bool}{j:Nat}{o:Oper}{d:List Value}{v:Value}:∀(e:List (Nat×aa))(h:aa)(a:Bool),Ak P b j o (ev c d) v e h a=jz P c b j o d v h e a
 |[],h,a=>by
  show fJ a true (ES P o (ev c d) v h)=(a||hH P c o d v h);rw[JR];cases a<;>rfl
 |(x,f)::e,h,a=>by
  show fJ (fJ (fJ a (Nat.blt j x) false) true (fJ (b j x) true (ES P o (ev c d) v h))) (fJ (b x j) true (Ak P b j o (ev c d) v e f (Nat.blt x j))) false=(((a&&Nat.blt j x)||b j x||hH P c o d v h)&&(b x j||jz P c b j o d v f e (Nat.blt x j)));rw[JR,Cp e]
  cases a<;>cases Nat.blt j x<;>cases b j x<;>cases b x j<;>cases hH P c o d v h<;>rfl
theorem QW{f:List Oper}{a:List Fl}{b:List (List Value×lz)}{c:Nat->Nat->Bool}{d:List (Nat×aa)}(m:OZ cx.n f a b):∀j,GU cx c h d a j=fP cx.P cx.gl c h d f b j:=by
 induction m with
 |nil=>intro j;rfl
 | cons l _ k=>
  rename_i o f e g i a b _;intro j;show aan cx c h d j o e g (GU cx c h d a (j+1))=_;rw[k]
  cases g with
  |read v=>
   show fJ (Ak cx.P c j o (NO cx.gl e) v d h true) (fP cx.P cx.gl c h d f b (j+1)) false=(jz cx.P cx.gl c j o i v h d true&&fP cx.P cx.gl c h d f b (j+1));rw[Bk l,Cp]
   cases jz cx.P cx.gl c j o i v h d true<;>rfl
  |_=>rfl
theorem Px(k:uz cx cf){ops:Array Oper}{bf:Nat->Nat->Bool}{e:Env}{l:List Value}{h:aa}{K:Env->aa->Bool}(q:eT cx.n e l):KT cx.n cx.bad (Ij cx ops bf e h K) (rQ cx.P cx.gl cf ops bf l h) K:=by
 unfold Ij;rw[dL];rcases oV k ops.toList q (ops:=ops) (bf:=bf) (base:=h.next) (j:=0) (h:=⟨h.next+ops.size,h.t⟩) (pd:=[]) (K:=λa d b m=>
  fJ (fJ (xj bf (D9 a 0) none) (GU cx bf ⟨h.next+ops.size,h.t⟩ (D9 a 0) a 0) false) (nH h.next m b λb=>K d b) cx.bad)with f|⟨a,g,b,c,n,d,f,o,i,p⟩
 ·exact .inl f
 ·rw[p,S6 i,D6,QW i,pF];unfold rQ;rw[f];show KT cx.n cx.bad (fJ (fJ (chained bf (dI a 0)) (fP cx.P cx.gl bf ⟨h.next+ops.size,h.t⟩ (dI a 0) ops.toList a 0) false) (K d (av b h.next c)) cx.bad)
   (if chained bf (dI a 0)&&fP cx.P cx.gl bf ⟨h.next+ops.size,h.t⟩ (dI a 0) ops.toList a 0 then some (g,av b h.next c)else none) K
  cases chained bf (dI a 0)with
  |false=>exact .inl rfl
  |true=>
   cases fP cx.P cx.gl bf ⟨h.next+ops.size,h.t⟩ (dI a 0) ops.toList a 0 with
   |false=>exact .inl rfl
   |true=>exact .inr ⟨_,_,_,rfl,o,rfl⟩
end
def wM(n:Nat)(a x:Bool)(c:Option (Exit×List Value×aa))(K:Exit->Env->aa->Bool):Prop:=x=a\/ ∃b l h e,c=some (b,l,h)/\eT n e l/\x=K b e h
theorem K4{a:Bool}{K:Bool->Bool}{c:Option (Exit×List Value×aa)}{e:Exit->Env->aa->Bool}(f:∀b,v = .bool b->wM n a (K b) c e):wM n a (yJ v a K) c e:=by
 rcases H3 v a K with⟨d,_⟩|⟨b,d,g⟩
 ·rw[d];exact .inl rfl
 ·rw[g];exact f b d
theorem qK(x:Exit)(a:Bool)(d:Nat->Bool)(b:Bool):(x = .normal/\jr x a d b=a)\/(∃c,x = .exit c/\jr x a d b=d c)\/((∀c,x≠ .exit c)/\x≠ .normal/\jr x a d b=b):=by
 cases x with
 |normal=>exact .inl ⟨rfl,rfl⟩
 |exit c=>exact .inr (.inl ⟨c,rfl,rfl⟩)
 |_=>exact .inr (.inr ⟨λ_=>by simp,by simp,rfl⟩)
theorem Ep{b:Cx}{c:Code}{a:kH}{q:ck}{N:Nat}(f:∀{e l h K},eT b.n e l->wM b.n b.bad (a b e h K) (aU b.P b.gl q N c l h) K):∀(m:Nat){e:Env}{l:List Value}{h:aa}{K:Exit->Env->aa->Bool},eT b.n e l->
  wM b.n b.bad (Nat.rec (motive:=λ_=>Env->aa->Bool) (λ_ _=>b.bad) (λ_ f e h=>a b e h λx e h=>jr x (f e h) (λd=>K (.exit d) e h) (K x e h)) m e h) (iter (aU b.P b.gl q N c) m l h) K
 |0,_,_,_,_,_=> .inl rfl
 | m+1,e,l,h,K,t=>by
  show wM b.n b.bad (a b e h λx e h=>jr x ((Nat.rec (motive:=λ_=>Env->aa->Bool) (λ_ _=>b.bad) (λ_ f e h=>a b e h λx e h=>jr x (f e h) (λd=>K (.exit d) e h) (K x e h)) m:Env->aa->Bool) e h) (λd=>K (.exit d) e h) (K x e h)) _ K;rcases f (h:=h) (K:=λx e h=>jr x ((Nat.rec (motive:=λ_=>Env->aa->Bool) (λ_ _=>b.bad) (λ_ f e h=>a b e h λx e h=>jr x (f e h) (λd=>K (.exit d) e h) (K x e h)) m:Env->aa->Bool) e h) (λd=>K (.exit d) e h) (K x e h)) t with g|⟨k,p,g,i,o,n,s⟩
  ·exact .inl g
  ·rw[s];dsimp only;rcases qK k ((Nat.rec (motive:=λ_=>Env->aa->Bool) (λ_ _=>b.bad) (λ_ f e h=>a b e h λx e h=>jr x (f e h) (λd=>K (.exit d) e h) (K x e h)) m:Env->aa->Bool) i g) (λd=>K (.exit d) i g) (K k i g)with⟨rfl,j⟩|⟨d,rfl,j⟩|⟨u,r,j⟩
   ·rw[j];simp only[iter,o];exact Ep f m n
   ·rw[j];exact .inr ⟨.exit d,p,g,i,by simp only[iter,o],n,rfl⟩
   ·rw[j];refine .inr ⟨k,p,g,i,?_,n,rfl⟩;simp only[iter,o]
    cases k<;>first|rfl|exact absurd rfl r
theorem abq(c a:Code)(d:Bool)(K:jM c a=true->Bool):okF c a d K=d\/ ∃f,okF c a d K=K f:=by
 unfold okF;have g:∀(b:Bool)(e:jM c a=b),(Bool.rec (motive:=λb=>jM c a=b->Bool) (λ_=>d) K b e=d)\/ ∃f,Bool.rec (motive:=λb=>jM c a=b->Bool) (λ_=>d) K b e=K f:=by
  intro b e
  cases b with
  |false=>exact .inl rfl
  |true=>exact .inr ⟨e,rfl⟩
 exact g _ rfl
theorem vG(b:Option bw)(d:Bool)(K:Wx->List Value->List Tmp->(c a:Code)->jM c a=true->Bool):
  qf b d K=d\/ ∃f e g c a h,b=some (.loop f e g c a h)/\qf b d K=K f e g c a h:=by
 cases b with
 |none=>exact .inl rfl
 |some B=>cases B with
  |loop f e g c a h=>exact .inr ⟨f,e,g,c,a,h,rfl,rfl⟩
  |_=>exact .inl rfl
theorem VT(e:Env):∀(n i:Nat)(K:List Value->Bool),tmF e n i K=K ((List.range' i n).map λt=>Env.get t e)
 |0,_,_=>rfl
 |n+1,i,K=>by
  show lC (Env.get i e) (λv=>tmF e n (i+1) λl=>K (v::l))=_;rw[eA,VT e n (i+1)];rfl
theorem VU{e:Env}{l:List Value}(c:eT n e l)(K:List Value->Bool):tmF e n 0 K=K l:=by
 rw[VT];congr 1;obtain⟨d,_,a⟩:=c;refine List.ext_getElem? λt=>?_;rw[List.getElem?_map];by_cases b:t<n
 ·rw[List.getElem?_range' b];simp only[map_some,zero_add,Nat.one_mul];rw[a,gE (by omega),gD,gE (by omega)];rfl
 ·rw[getElem?_eq_none (by simp;omega),getElem?_eq_none (by omega)];rfl
theorem vA:∀(l:List Value)(i:Nat)(e:Env),i+l.length<=256->∃a:Env,(∀(K:Env->Bool),yQ l i e K=K a)/\∀t,Env.get t a=if i<=t/\t<i+l.length then l.getD (t-i) undef else Env.get t e
 |[],i,e,_=>⟨e,λ_=>rfl,λt=>by rw[if_neg (by simp only[length_nil];omega)]⟩
 | v::l,i,e,d=>by
  simp only[length_cons]at d;obtain⟨a,f,g⟩:=vA l (i+1) (Env.new i e v) (by omega);refine⟨a,λK=>?_,λt=>?_⟩
  ·show lC v (λv=>Env.put i e v λe=>yQ l (i+1) e K)=_;rw[eA,Env.put_eq,f]
  ·rw[g];simp only[length_cons];by_cases c:t=i
   ·subst c;rw[if_neg (by omega),Env.FZ (by omega),if_pos rfl,if_pos (by omega),Nat.sub_self];rfl
   ·rw[Env.FZ (by omega),if_neg c];by_cases b:i+1<=t/\t<i+1+l.length
    ·rw[if_pos b,if_pos (by omega),show t-i=(t-(i+1))+1 by omega];rfl
    ·rw[if_neg b,if_neg (by omega)]
theorem Lo:∀(t:HT)(K:HT->Bool),fHT t K=K t
 |.nil,_=>rfl
 |.node v l r,K=>by
  show fHT l (λl=>fHT r λr=>Option.rec (motive:=λ_=>Bool) (K (.node none l r)) (λB=>IA B λB=>K (.node (some B) l r)) v)=_;rw[Lo l,Lo r]
  cases v with
  |none=>rfl
  |some B=>exact vo B _
theorem Se{a:Cx}{ops:Array Oper}{e:Env}{l:List Value}{K:Env->aa->Bool}(f:eT a.n e l):KT a.n a.bad (WR a ops e h K) (vc a.P a.gl ops (cE (fi ops)) l h) K:=by
 unfold WR;rw[VU f]
 cases n:vc a.P a.gl ops (cE (fi ops)) l h with
 |none=>exact .inl rfl
 | some r=>
  obtain⟨b,c⟩:=r;show KT a.n a.bad (fJ (Nat.beq b.length a.n) (yQ b 0 Bc λe=>iN c.next λd=>fHT c.t λt=>K e ⟨d,t⟩) a.bad) _ K
  cases g:Nat.beq b.length a.n with
  |false=>exact .inl rfl
  | true=>
   have j:b.length=a.n:=by simpa[beq_eq]using g
   obtain⟨m,i,k⟩:=vA b 0 Bc (by have:=f.2.1;omega);refine .inr ⟨b,c,m,rfl,⟨j,f.2.1,λt=>?_⟩,?_⟩
   ·rw[k];split
    ·rfl
    ·next o=>rw[Be,gD,getElem?_eq_none (by omega)];rfl
   ·show yQ b 0 Bc (λe=>iN c.next λd=>fHT c.t λt=>K e ⟨d,t⟩)=_;rw[i,dL,Lo]
theorem hZ{d:Cx}{I:ck}(s:uz d I):∀(c:Code){e:Env}{l:List Value}{h:aa}{K:Exit->Env->aa->Bool},eT d.n e l->wM d.n d.bad (codeF c d e h K) (aU d.P d.gl I d.N c l h) K
 |.skip,e,l,h,K,m=> .inr ⟨_,_,_,_,rfl,m,rfl⟩
 | .region q j O,e,l,h,K,m=>by
  cases O with
  | true=>
   show wM d.n d.bad (fJ (tF j) (WR d j e h λe h=>K .normal e h) (Ij d j (cE (fi j)) e h λe h=>K .normal e h)) ((yK d.P d.gl I j l h).map λr=>(.normal,r.1,r.2)) K;unfold yK
   cases V:tF j with
   |true=>
    rw[if_pos rfl];rcases Se m (ops:=j) (h:=h) (K:=λe h=>K .normal e h)with i|⟨u,i,o,k,p,w⟩
    ·exact .inl i
    ·exact .inr ⟨.normal,u,i,o,by rw[k];rfl,p,w⟩
   |false=>
   rw[if_neg (by simp)];show wM d.n d.bad (Ij d j (cE (fi j)) e h λe h=>K .normal e h) _ K;rcases Px s m (ops:=j) (bf:=cE (fi j)) (h:=h) (K:=λe h=>K .normal e h)with i|⟨u,i,o,k,p,w⟩
   ·exact .inl i
   ·exact .inr ⟨.normal,u,i,o,by rw[k];rfl,p,w⟩
  |false=>
   show wM d.n d.bad (Jq d j j.toList e h λe h=>K .normal e h) ((jx d.P d.gl I j j.toList l h).map λr=>(.normal,r.1,r.2)) K;rcases B6 s j.toList m (ops:=j) (h:=h) (K:=λe h=>K .normal e h)with i|⟨u,i,o,k,p,w⟩
   ·exact .inl i
   ·exact .inr ⟨.normal,u,i,o,by rw[k];rfl,p,w⟩
 | .seq a b,e,l,h,K,m=>by
  show wM d.n d.bad (codeF a d e h λx e h=>jr x (codeF b d e h K) (λq=>K (.exit q) e h) (K x e h)) _ K;rcases hZ s a m (h:=h) (K:=λx e h=>jr x (codeF b d e h K) (λq=>K (.exit q) e h) (K x e h))with i|⟨D,u,i,o,k,p,w⟩
  ·exact .inl i
  ·rw[w];dsimp only;rcases qK D (codeF b d o i K) (λq=>K (.exit q) o i) (K D o i)with⟨rfl,y⟩|⟨q,rfl,y⟩|⟨G,J,y⟩
   ·rw[y];simp only[aU,k];exact hZ s b p
   ·rw[y];exact .inr ⟨.exit q,u,i,o,by simp only[aU,k],p,rfl⟩
   ·rw[y];refine .inr ⟨D,u,i,o,?_,p,rfl⟩;simp only[aU,k]
    cases D<;>first|rfl|exact absurd rfl J
 |.cond c a b,e,l,h,K,m=>by
  show wM d.n d.bad (yJ (NO d.gl e c) d.bad λt=>fJ t (codeF a d e h K) (codeF b d e h K)) _ K;refine K4 λt R=>?_;rw[Bk m]at R;simp only[aU,R]
  cases t with
  |true=>simp only[if_true];exact hZ s a m
  |false=>simp only[false_eq_true,if_false];exact hZ s b m
 | .block q a,e,l,h,K,m=>by
  show wM d.n d.bad (codeF a d e h λx e h=>jr x (K .normal e h) (λn=>fJ (Nat.beq n q) (K .normal e h) (K (.exit n) e h)) (K x e h)) _ K;rcases hZ s a m (h:=h) (K:=λx e h=>jr x (K .normal e h) (λn=>fJ (Nat.beq n q) (K .normal e h) (K (.exit n) e h)) (K x e h))with i|⟨D,u,i,o,k,p,w⟩
  ·exact .inl i
  ·rw[w];dsimp only;rcases qK D (K .normal o i) (λn=>fJ (Nat.beq n q) (K .normal o i) (K (.exit n) o i)) (K D o i)with⟨rfl,y⟩|⟨n,rfl,y⟩|⟨G,J,y⟩
   ·rw[y];exact .inr ⟨.normal,u,i,o,by simp only[aU,k],p,rfl⟩
   ·rw[y];by_cases H:n=q
    ·subst H;refine .inr ⟨.normal,u,i,o,by simp only[aU,k,if_true],p,?_⟩;rw[show Nat.beq n n=true by simp];rfl
    ·refine .inr ⟨.exit n,u,i,o,by simp only[aU,k,if_neg H],p,?_⟩;have:Nat.beq n q=false:=by
      rw[Bool.eq_false_iff];intro N;exact H (by simpa[beq_eq]using N)
     rw[this];rfl
   ·rw[y];refine .inr ⟨D,u,i,o,?_,p,rfl⟩;simp only[aU,k]
    cases D<;>first|rfl|exact absurd rfl (G _)
 |.loop c,e,l,h,K,m=>Ep (λ{e l h K} m=>hZ s c m) d.N m
 |.exit q,e,l,h,K,m=> .inr ⟨_,_,_,_,rfl,m,rfl⟩
 |.ret,e,l,h,K,m=> .inr ⟨_,_,_,_,rfl,m,rfl⟩
 |.label _,e,l,h,K,m=> .inr ⟨_,_,_,_,rfl,m,rfl⟩
 | .rangeFunc f L E z,e,l,h,K,m=>by
  show wM d.n d.bad (LG f L E z d e h K) _ K;unfold LG;rcases IK (NO d.gl e f) d.bad _ with⟨i,_⟩|⟨T,first,A,i,k⟩
  ·rw[i];exact .inl rfl
  ·rw[k];rw[Bk m]at i
   cases T with
   | func g=>
    dsimp only[fnF];rcases abq E z d.bad (λM=>fJ (Nat.blt g YB) (fJ (qF d.P g)
     (tmF e d.n 0 λU=>xq (first.toList++[.func (.yield h.next) #[] #[]]++A.toList) λS=>uo (.loop .ready U L.toList E z M) h λi=>d.cf g S i λ_ k=>
      qf (k.get h.next) d.bad λF _ _ _ _ _=>N2 F d.bad λx=>HT.oz none (pathOf h.next) k.t λt=>K x e ⟨k.next,t⟩) d.bad) d.bad)with p|⟨M,p⟩
    ·rw[p];exact .inl rfl
    ·rw[p]
     cases W:Nat.blt g YB with
     |false=>exact .inl rfl
     | true=>
      have Q:g<YB:=by simpa[blt_eq]using W
      cases N:qF d.P g with
      |false=>exact .inl rfl
      | true=>
       dsimp only[fJ];rw[VU m,xr];have P:∀(B:bw)(K:aa->Bool),uo B h K=K (h.push B):=λB K=>zX (.push B) h K;rw[P];rcases s g (first.toList++[.func (.yield h.next) #[] #[]]++A.toList) (h.push (.loop .ready l L.toList E z M)) (λ_ k=>
        qf (k.get h.next) d.bad λF _ _ _ _ _=>N2 F d.bad λx=>HT.oz none (pathOf h.next) k.t λt=>K x e ⟨k.next,t⟩)with w|⟨⟨v,k⟩,w,y⟩
       ·rw[w];exact .inl rfl
       ·rw[y];dsimp only;have C:aU d.P d.gl I d.N (.rangeFunc f L E z) l h=(N6 (k.get h.next)).map λe=>(e,l,k.del h.next):=by
         simp only[aU,i];rw[dif_pos M,if_pos ⟨Q,N⟩,w]
        rcases vG (k.get h.next) d.bad (λF _ _ _ _ _=>N2 F d.bad λx=>HT.oz none (pathOf h.next) k.t λt=>K x e ⟨k.next,t⟩)with G|⟨F,X,Y,a2,b2,Z,G,J⟩
        ·rw[G];exact .inl rfl
        ·rw[J];rw[G]at C
         cases F with
         |ready=>exact .inr ⟨_,_,_,e,C,m,HT.eQ _ _ _ _⟩
         |busy=>exact .inl rfl
         |ret=>exact .inr ⟨_,_,_,e,C,m,HT.eQ _ _ _ _⟩
         |exit q=>exact .inr ⟨_,_,_,e,C,m,HT.eQ _ _ _ _⟩
   |_=>exact .inl rfl
 |.scope _,_,_,_,_,_=> .inl rfl
 |.goto _,_,_,_,_,_=> .inl rfl
 |.refuse _,_,_,_,_,_=> .inl rfl
theorem Ct{P:Program}{n:Nat}{e:Env}{f:List Value}{h:aa}{bad:Bool}(d:eT n e f):∀(l:List ResultVar)(K:List Value->Bool),Ref bad (JK P e h bad l K) (cB P f h l) K
 |[],K=> .of rfl rfl
 |.tmp t::l,K=>by
  show Ref bad (lC (Env.get t e) λv=>JK P e h bad l λb=>K (v::b)) _ K;rw[eA,d.2.2 t];rcases Ct d l (λb=>K (f.getD t undef::b))with c|⟨b,c,g⟩
  ·exact .inl c
  ·exact .of (by simp only[cB,c];rfl) g
 |.cell a t::l,K=>by
  show Ref bad (De bad (ae P t h (Env.get a e)) λv=>JK P e h bad l λb=>K (v::b)) _ K;refine gw λv i=>?_;rw[d.2.2 a]at i;rcases Ct d l (λb=>K (v::b))with c|⟨b,c,g⟩
  ·exact .inl c
  ·exact .of (by simp only[cB,i,c];rfl) g
theorem JB{n:Nat}:∀(a:List (Tmp×Value)){e:Env}{l:List Value},eT n e l->∃c,eT n c (ry l a)/\∀(K:Env->Bool),UK n a e K=K c
 |[],e,l,b=>⟨e,b,λ_=>rfl⟩
 |p::a,e,l,b=>by
  obtain⟨j,f,g⟩:=wc b (some p.1) p.2;obtain⟨i,d,h⟩:=JB a f;refine⟨i,d,λK=>?_⟩;show sG n (some p.1) e p.2 (λe=>UK n a e K)=_;rw[g,h]
theorem Nv{gl:Nat->Bool}{a:Bool}{fl:Nat}{T:FuncId->List Value->aa->(Value->aa->Bool)->Bool}{E:ck}(X:∀f c h K,Ref a (T f c h K) (E f c h) λr=>K r.1 r.2)(k:Nat)(c:List Value)(h:aa)(K:Value->aa->Bool):
  Ref a (Hr (λnt=>⟨P,gl,T,fl,nt,a⟩) a k c h K) (oE (aU P gl E fl) k c h) λr=>K r.1 r.2:=by
 unfold Hr;rcases vG (h.get k) a _ with A|⟨st,D,M,N,s,ok,A,o⟩
 ·exact .inl A
 rw[o]
 cases st with
 |busy=>exact .inl rfl
 |ret=>exact .inl rfl
 |exit Q=>exact .inl rfl
 |ready=>
 show Ref a (fJ (Nat.beq c.length M.length) _ a) _ _;refine dE (λy=>?_) (λ_=> .bad);have y:c.length=M.length:=by simpa[beq_eq]using y
 rw[dL];refine dE (λO=>?_) (λ_=> .bad);have O:D.length<=256:=by simpa[ble_eq]using O
 obtain⟨e0,h3,h4⟩:=vA D 0 Bc (by omega);rw[h3];have Y:eT D.length e0 D:=by
  refine⟨rfl,O,λt=>?_⟩;rw[h4];split
  ·rfl
  ·next ht=>rw[Be,gD,getElem?_eq_none (by omega)];rfl
 obtain⟨e1,W,h5⟩:=JB (M.zip c) Y;rw[h5]
 let L:Cx:=⟨P,gl,T,fl,D.length,a⟩
 have H:uz L E:=λf c h K=>X f c h K;rcases hZ H N (h:=h) (K:=λx e A=>jr x
   (qf (A.get k) a λw q v j g u=>Cr w a (HT.oz (some (.loop .busy q v j g u)) (pathOf k) A.t λt=>codeF s L e ⟨A.next,t⟩ λx _ o=>
    qf (o.get k) a λ_ l m i d n=>TR x a λb p=>HT.oz (some (.loop p l m i d n)) (pathOf k) o.t λt=>K (.bool b) ⟨o.next,t⟩))
   (λ_=>a) a) W with U|⟨ex,l1,B,e2,U,x1,h7⟩
 ·exact .inl U
 refine(show Ref a _ _ _↔_ from Iff.rfl).2 ?_;rw[h7];dsimp only
 cases ex with
 | normal=>
  dsimp only[jr];rcases vG (B.get k) a (λw q v j g u=>Cr w a (HT.oz (some (.loop .busy q v j g u)) (pathOf k) B.t λt=>codeF s L e2 ⟨B.next,t⟩ λx _ o=>
    qf (o.get k) a λ_ l m i d n=>TR x a λb p=>HT.oz (some (.loop p l m i d n)) (pathOf k) o.t λt=>K (.bool b) ⟨o.next,t⟩))with R|⟨w,q,v,j,g,u,R,h9⟩
  ·exact .inl R
  rw[h9]
  cases w with
  |busy=>exact .inl rfl
  |ret=>exact .inl rfl
  |exit Q=>exact .inl rfl
  |ready=>
  dsimp only[Cr];rw[HT.eQ];rcases hZ H s (h:=B.set k (.loop .busy q v j g u)) (K:=λx _ o=>
    qf (o.get k) a λ_ l m i d n=>TR x a λb p=>HT.oz (some (.loop p l m i d n)) (pathOf k) o.t λt=>K (.bool b) ⟨o.next,t⟩) x1 with J|⟨C,l2,G,e3,J,x2,V⟩
  ·exact .inl J
  ·refine(show Ref a (codeF s L e2 (B.set k (.loop .busy q v j g u)) _) _ _ from ?_);rw[V];dsimp only;rcases vG (G.get k) a (λ_ l m i d n=>TR C a λb p=>HT.oz (some (.loop p l m i d n)) (pathOf k) G.t λt=>K (.bool b) ⟨G.next,t⟩)with I|⟨p,l,m,i,d,n,I,x0⟩
   ·exact .inl I
   rw[x0];have z:∀b F,I4 C=some (b,F)->oE (aU P gl E fl) k c h=some (.bool b,G.set k (.loop F l m i d n)):=λb F hl=>by
    have Z:aU P gl E fl N (ry D (M.zip c)) h=some (.normal,l1,B):=U;have S:aU P gl E fl s l1 (B.set k (.loop .busy q v j g u))=some (C,l2,G):=J;unfold oE;simp only[A,y,if_true,Z,R,S,I,hl]
   cases C with
   |normal=>exact .of (z true .ready rfl) (HT.eQ _ _ _ _)
   |ret=>exact .of (z false .ret rfl) (HT.eQ _ _ _ _)
   |exit Q=>exact .of (z false (.exit Q) rfl) (HT.eQ _ _ _ _)
   |_=>exact .inl rfl
 |_=>exact .inl rfl
def uJ(b:Bool)(d:FuncId->Option (pY))(g:FuncId->Option lK):Prop:=
 ∀f,(d f=none/\g f=none)\/ ∃p q,d f=some p/\g f=some q/\
  ∀(e:FuncId->List Value->aa->(Value->aa->Bool)->Bool)(c:ck),(∀f a h K,Ref b (e f a h K) (c f a h) λr=>K r.1 r.2)->∀a h K,Ref b (p e a h K) (q c a h) λr=>K r.1 r.2
theorem D4{P:Program}{gl:Nat->Bool}{a:Bool}{j:FuncId->Option (pY)}{s:FuncId->Option lK}(I:uJ a j s):∀n f b h K,Ref a (sS P gl j a n f b h K) (bn P gl s n f b h) λr=>K r.1 r.2
 |0,_,_,_,_=> .bad
 | n+1,f,b,h,K=>by
  have B:=D4 I (P:=P) (gl:=gl) n;show Ref a (fJ (Nat.ble YB f) (iN (f-YB) λk=>Hr (λQ=>⟨P,gl,sS P gl j a n,n,Q,a⟩) a k b h K) (Option.rec (motive:=λ_=>Bool)
   (De a (P.funcs[f]?) λd=>De a d.body λc=>fJ (Nat.ble d.ntmps 256&&Nat.ble b.length d.ntmps)
    (yQ b 0 Bc λe=>codeF c ⟨P,gl,sS P gl j a n,n,d.ntmps,a⟩ e h λx e h=>Zb x a (JK P e h a d.results.toList λg=>K (cm g) h)) a)
   (λp=>p (sS P gl j a n) b h K) (j f))) _ _
  refine dE (λm=>?_) (λm=>?_)
  ·have m:YB<=f:=by simpa[ble_eq]using m
   rw[dL];rcases Nv (P:=P) (gl:=gl) (fl:=n) B (f-YB) b h K with o|⟨r,o,u⟩
   ·exact .inl o
   ·exact .of (r:=r) (by simp only[bn,if_pos m];exact o) u
  have m:¬YB<=f:=λO=>by
   have:Nat.ble YB f=true:=by simpa[ble_eq]using O
   rw[m]at this;cases this
  rcases I f with⟨o,u⟩|⟨p,q,o,u,z⟩
  ·rw[o];refine gw λd F=>gw λc W=>dE (λD=>?_) (λ_=> .bad);simp only[and_eq_true,ble_eq]at D;obtain⟨y,z,v⟩:=vA b 0 Bc (by omega);rw[z];have V:eT d.ntmps y (b++List.replicate (d.ntmps-b.length) undef):=by
    refine⟨by simp;omega,D.1,λt=>?_⟩;rw[v];split
    ·next U=>rw[Nat.sub_zero,gD,gD,List.getElem?_append_left (by omega)]
    ·next U=>
     rw[Be,gD,List.getElem?_append_right (by omega),List.getElem?_replicate];split<;>rfl
   let M:Cx:=⟨P,gl,sS P gl j a n,n,d.ntmps,a⟩
   have H:uz M (bn P gl s n):=λf b h K=>B f b h K;have E:=hZ H c (h:=h) (K:=λx e h=>Zb x a (JK P e h a d.results.toList λg=>K (cm g) h)) (e:=y) (l:=b++List.replicate (d.ntmps-b.length) undef) V;rcases E with i|⟨w,S,i,L,T,R,N⟩
   ·exact .inl i
   ·rw[show codeF c ⟨P,gl,sS P gl j a n,n,d.ntmps,a⟩ y h (λx e h=>Zb x a (JK P e h a d.results.toList λg=>K (cm g) h))=_ from N];have A:aU P gl (bn P gl s n) n c (b++List.replicate (d.ntmps-b.length) undef) h=some (w,S,i):=T;have fin:w = .normal\/w = .ret->Ref a (JK P L i a d.results.toList λg=>K (cm g) i) (bn P gl s (n+1) f b h) λr=>K r.1 r.2:=λG=>by
     rcases Ct R d.results.toList (λg=>K (cm g) i) (P:=P) (h:=i) (bad:=a)with C|⟨g,C,J⟩
     ·exact .inl C
     ·refine .of (r:=(cm g,i)) ?_ J;simp only[bn,if_neg m,u,F,W,A];rcases G with rfl|rfl<;>simp only[C,map_some]
    cases w with
    |normal=>exact fin (.inl rfl)
    |ret=>exact fin (.inr rfl)
    |_=>exact .bad
  ·rw[o];rcases z (sS P gl j a n) (bn P gl s n) B b h K with v|⟨r,v,i⟩
   ·exact .inl v
   ·exact .of (r:=r) (by simp only[bn,if_neg m,u];exact v) i
variable{f:FuncId}{F:Func}
section
variable {β:cO} {P:Program} {gl:Nat->Bool}
theorem te{e:Array Value->Sem Value}{p:lK}(k:P.funcs[f]?=some F)(g:(F.name == "runtime.NumGoroutine")=false) (l:F.body.isNone=true) (m:Extern.findNext F=none) (t:Extern.find F=some e)
  (h:∀j b h v i,p j b h=some (v,i)->∀β w (a:Array Value),iJ β h w->aW β b a.toList->∃v' d c,(e a).run P w = .ok v' d/\Step β h w c i d/\aB c v v'):jj P gl f p:=by
 intro j _ b q v i x β w a o _ u;obtain⟨v',d,c,r,s,n⟩:=h j b q v i x β w a o u;refine⟨F,k,.inr ⟨v',d,c,?_,s,n⟩⟩;rw[run_callFunc_extern k g l m t,r];rfl
def jU:lK:=λ_ a h=>match a with
 |[v]=>some (v,h)
 |_=>none
theorem yW{fn:Func}(i:P.funcs[f]?=some fn)(a:(fn.name == "runtime.NumGoroutine")=false) (g:fn.body.isNone=true) (d:Extern.findNext fn=none) (l:Extern.find fn=some Extern.AbiNoEscape.same):jj P gl f jU:=by
 refine te i a g d l λq n h v p c β w b k m=>?_;unfold jU at c;split at c
 ·next u=>
  simp only[Option.some.injEq,Prod.mk.injEq]at c;obtain⟨rfl,rfl⟩:=c;obtain⟨e,r,o,j,d⟩:=m.cA;obtain rfl:=d.dN;obtain rfl:b = #[e]:=by
   have:=congrArg List.toArray o;simpa using this
  exact⟨e,w,β,rfl,Step.refl k,j⟩
 grind
noncomputable def findAt(c:Nat):List UInt8->Nat->Int
 |[],_=> -1
 |b::l,i=>if b.toNat=c then i else findAt c l (i+1)
noncomputable def hE:lK:=λ_ a h=>match a with
 |[.string s,.int .u8 c]=>if 0<=c/\c<256 then some (.int .i64 (findAt c.toNat s.data.toList 0),h)else none
 |_=>none
theorem PF(s:ByteArray)(c:Nat)(p:c<256):findAt c s.data.toList 0=firstIdx s c.toUInt8:=by
 have f:∀(l:List UInt8)(i:Nat),s.data.toList.drop i=l->findAt c l i=match (List.range' i l.length).find? λj=>s[j]! == c.toUInt8 with|some j=>(j:Int)|none=> -1:=by
  intro l
  induction l with
  |nil=>intro i _;rfl
  | cons b l m=>
   intro i d;have e:i<s.data.toList.length:=by
    rcases lt_or_ge i s.data.toList.length with h|h
    ·exact h
    ·rw[List.drop_eq_nil_of_le h]at d;cases d
   have k:s[i]! = b:=by
    have n:s.data.toList[i]?=some b:=by
     have:(s.data.toList.drop i)[0]?=some b:=by rw[d];rfl
     rw[List.getElem?_drop]at this;simpa using this
    have g:i<s.size:=by simpa using e
    rw[getElem!_pos s i g];have:s.data[i]?=some b:=by rw[<-getElem?_toList];exact n
    rw[getElem?_eq_getElem (by simpa using e)]at this;exact oI this
   have o:s.data.toList.drop (i+1)=l:=by rw[<-List.drop_drop,d];rfl
   simp only[findAt,length_cons,List.range'_succ,List.find?_cons,k];by_cases a:b.toNat=c
   ·have:(b==c.toUInt8)=true:=by
     rw[beq_iff_eq,<-UInt8.toNat_inj];simp[a];omega
    rw[if_pos a,this]
   ·have:(b==c.toUInt8)=false:=by
     rw[beq_eq_false_iff_ne];rintro rfl;apply a;simp;omega
    rw[if_neg a,this];exact m (i+1) o
 rw[f s.data.toList 0 rfl];unfold firstIdx;rw[List.range_eq_range',show s.data.toList.length=s.size by simp];rfl
theorem vz{fn:Func}(j:P.funcs[f]?=some fn)(b:(fn.name == "runtime.NumGoroutine")=false) (i:fn.body.isNone=true) (e:Extern.findNext fn=none) (n:Extern.find fn=some Extern.BytealgIndexByte.indexByte):jj P gl f hE:=by
 refine te j b i e n λy p h v u a β w d l o=>?_;unfold hE at a;split at a
 ·next s c=>
  split at a
  ·next A=>
   simp only[Option.some.injEq,Prod.mk.injEq]at a;obtain⟨rfl,rfl⟩:=a;obtain⟨x,r,q,k,e⟩:=o.cA;obtain⟨t,z,rfl,m,g⟩:=e.cA;obtain rfl:=g.dN;obtain rfl:=k.ew;obtain rfl:=m.cX;obtain rfl:d = #[.string s,.int .u8 c]:=by
    have:=congrArg List.toArray q;simpa using this
   refine⟨_,w,β,run_indexByte_string s c w,Step.refl l,?_⟩;rw[PF s c.toNat (by omega)];exact .int _ _
  ·cases a
 grind
section
noncomputable def Ec(a:Bool):pY:=λ_ b h K=>List.rec (motive:=λ_=>Bool) a (λv r _=>List.rec (motive:=λ_=>Bool) (K v h) (λ_ _ _=>a) r) b
theorem Dl(b:Bool)(d:FuncId->List Value->aa->(Value->aa->Bool)->Bool)(c:ck)(a:List Value)(h:aa)(K:Value->aa->Bool):Ref b (Ec b d a h K) (jU c a h) λr=>K r.1 r.2:=by
 match a with
 |[]=>exact .inl rfl
 |[v]=>exact .of rfl rfl
 |v::u::r=>exact .inl rfl
noncomputable def Th(c:Nat)(l:List UInt8):Nat->(Int->Bool)->Bool:=List.rec (motive:=λ_=>Nat->(Int->Bool)->Bool) (λ_ K=>K (-1)) (λb _ a i K=>iN i λi=>fJ (Nat.beq b.toNat c) (K (.ofNat i)) (a (i+1) K)) l
theorem IC(c:Nat):∀(l:List UInt8)(i:Nat)(K:Int->Bool),Th c l i K=K (findAt c l i)
 |[],_,_=>rfl
 | b::l,i,K=>by
  show iN i (λi=>fJ (Nat.beq b.toNat c) (K (.ofNat i)) (Th c l (i+1) K))=_;rw[dL,IC c l];simp only[findAt];by_cases a:b.toNat=c
  ·rw[if_pos a,show Nat.beq b.toNat c=true by simpa[beq_eq]using a];rfl
  ·rw[if_neg a];have:Nat.beq b.toNat c=false:=by
    rw[Bool.eq_false_iff];intro d;exact a (by simpa[beq_eq]using d)
   rw[this];rfl
noncomputable def tO(a:Bool):pY:=λ_ b h K=>match b with
 |[.string s,.int .u8 (.ofNat c)]=>fJ (Nat.blt c 256) (Th c s.data.toList 0 λi=>K (.int .i64 i) h) a
 |_=>a
theorem Bp(b:Bool)(f:FuncId->List Value->aa->(Value->aa->Bool)->Bool)(e:ck)(a:List Value)(h:aa)(K:Value->aa->Bool):Ref b (tO b f a h K) (hE e a h) λr=>K r.1 r.2:=by
 unfold tO;split
 ·next s c=>
  refine dE (λd=>?_) (λ_=> .bad);have d:c<256:=by simpa[blt_eq]using d
  rw[IC];refine .of (r:=(.int .i64 (findAt c s.data.toList 0),h)) ?_ rfl;simp only[hE];rw[if_pos ⟨by simp,by simp;omega⟩];rfl
 ·exact .bad
end
def β0:cO:=λ_=>none
def sD:Nat->Bool:=λ_=>false
theorem aa.get_nil(n k:Nat):(⟨n,.nil⟩:aa).get k=none:=HT.get_nil _
theorem Oz(n:Nat)(w:World):iJ β0 ⟨n,.nil⟩ w:=
 {
  lt:=λk a h=>nomatch h
  blk:=λk B a h=>by grind[aa.get_nil]
  own:=λk c B d a b _ h=>by grind[aa.get_nil]
  wf:=λk B h=>by grind[aa.get_nil] }
theorem aba:Gl sD β0:=λg h=>by cases h
open Go.RowKit in
theorem Dd{n:Nat}{w a:World}{b:cO}{c:aa}(s:Step β0 ⟨n,.nil⟩ w b c a):Below w.heap.size w a:=
 ⟨s.os,s.tape.1,s.output,s.size,λk d=>s.kept k d λ⟨k,B,f,e,_⟩=>by grind[aa.get_nil]⟩
end
end Go.Ab
end
section
namespace Go.Ab
open Go Go.RowKit
variable{h:aa}{W:World}{v:Value}{f:FuncId}
section
variable {β:cO} {P:Program} {gl:Nat->Bool}
theorem tq{e:World}(c:iJ β h W)(a:Below W.heap.size W e)(j:W.drawn<=e.drawn):Step β h W β h e:=
 {
  le:=β.le_refl,next:=Nat.le_refl _
  nS:={ lt:=λk d i=>⟨(c.lt k d i).1,lt_of_lt_of_le (c.lt k d i).2 a.size⟩,blk:=λk B d f g=>(c.blk k B d f g).of_heap (a.block _ (c.lt k d g).2),own:=c.own,wf:=c.wf }
  size:=a.size,os:=a.os,tape:=⟨a.tape,j⟩,output:=a.output
  kept:=λb f _=>a.block b f
  back:=λ_ _ h=>h,fresh:=λ_ _ h=> .inl h,keys:=λ_ B h _=>⟨B,h⟩ }
def nU(P:Program)(f:FuncId)(a:List Value)(v:Value):Prop:=
 ∃c,P.funcs[f]?=some c/\c.body.isSome=true/\∀w,Calls P f a.toArray w λe b=>e = .returned v/\Below w.heap.size w b/\w.drawn<=b.drawn
theorem aW.qU{β:cO}{l:List Value}(h:l.all bare=true):aW β l l:=by
 induction l with
 |nil=>exact .nil β
 |cons v l a=>
  simp only[all_cons,and_eq_true]at h;exact .cons (.vS h.1) (a h.2)
theorem aB.rM{β:cO}{v':Value}(a:bare v=true)(h:aB β v v'):v'=v:=by
 cases h<;>first|rfl|(simp[bare]at a)
theorem aW.HZ{β:cO}:∀{l l':List Value},l.all bare=true->aW β l l'->l'=l
 |[],l',_,h=>h.dN
 |v::l,l',a,h=>by
  simp only[all_cons,and_eq_true]at a;obtain⟨v',r,rfl,b,c⟩:=h.cA;rw[b.rM a.1,c.HZ a.2]
theorem aB.UA{β:cO}{v':Value}(e:plain v=true)(h:aB β v v'):v'=v:=by
 have d:∀{a b:Array Value},gM β a b->(∀x∈a.toList,∀y,aB β x y->y=x)->b=a:=λ{a b} c f=>by
  refine Array.ext c.1.symm λi k l=>?_;have:=c.2 i a[i] b[i] (getElem?_eq_getElem l) (getElem?_eq_getElem k);exact f _ (by simp) _ this
 unfold plain at e;split at e
 ·next cs=>
  obtain⟨b,rfl,c⟩:=h.lQ;rw[d c λx f y g=>g.rM (all_eq_true.1 e x f)]
 ·next cs=>
  obtain⟨b,rfl,c⟩:=h.rX;rw[d c λx f y g=>?_];have:=all_eq_true.1 e x f;split at this
  ·next o=>
   obtain⟨p,rfl,j⟩:=g.lQ;rw[d j λz n u m=>m.rM (all_eq_true.1 this z n)]
  ·exact g.rM this
 ·exact h.rM e
theorem Gf{m:ck}(i:nT P sD m){f:FuncId}{b:Func}{a:List Value}{n:Nat}{v:Value}{l:aa}(u:m f a ⟨n,.nil⟩=some (v,l))(t:a.all bare=true)(p:plain v=true)(r:f<YB)(d:P.funcs[f]?=some b)(c:b.body.isSome=true)
  (s:dV P):nU P f a v:=by
 refine⟨b,d,c,λw=>?_⟩;obtain⟨x,y,h⟩:=i.fn f a _ v l r u β0 w a.toArray (Oz n w) aba (by simpa using aW.qU t);rcases h with⟨_,h⟩|⟨v',o,g,j,_,_⟩
 ·refine h.mono ?_;rintro e o ⟨v',g,rfl,k,q⟩;exact⟨by rw[q.UA p],Dd k,k.tape.2⟩
 ·rw[fS s d c]at j
  cases j
def zY:List UInt8->List UInt8->Bool
 |[],[]=>true
 |a::x,b::y=>Nat.beq a.toNat b.toNat&&zY x y
 |_,_=>false
theorem AR:∀{a b:List UInt8},zY a b=true->a=b
 |[],[],_=>rfl
 |a::x,b::y,h=>by
  simp only[zY,and_eq_true,beq_eq]at h;rw[UInt8.toNat_inj.1 h.1,AR h.2]
noncomputable def wY:Value->Value->Bool
 |.bool a,.bool b=>a==b
 |.int k a,.int c b=>Yh k c&&N0 a b
 |.string a,.string b=>zY a.data.toList b.data.toList
 |_,_=>false
theorem D1{a b:Value}(h:wY a b=true):a=b:=by
 unfold wY at h;split at h
 ·rw[beq_iff_eq.1 h]
 ·simp only[and_eq_true,BE,beq_iff_eq]at h;rw[Ga h.1,h.2]
 ·next a b=>
  have h:=AR h;obtain⟨⟨a⟩⟩:=a;obtain⟨⟨b⟩⟩:=b;simp only at h;rw[h]
 ·cases h
noncomputable def oN:List Value->List Value->Bool
 |[],[]=>true
 |a::x,b::y=>wY a b&&oN x y
 |_,_=>false
theorem wS:∀{a b:List Value},oN a b=true->a=b
 |[],[],_=>rfl
 |a::x,b::y,h=>by
  simp only[oN,and_eq_true]at h;rw[D1 h.1,wS h.2]
theorem HY{a b:Value}(h:wY a b=true):bare b=true:=by
 unfold wY at h;split at h<;>first|rfl|cases h
theorem uU:∀{a b:List Value},oN a b=true->b.all bare=true
 |[],[],_=>rfl
 |a::x,b::y,h=>by
  simp only[oN,and_eq_true]at h;simp only[all_cons,and_eq_true];exact⟨HY h.1,uU h.2⟩
noncomputable def GL:Value->Value->Bool
 |.agg a,.agg b=>oN a.toList b.toList
 |a,b=>wY a b
noncomputable def Ai:List Value->List Value->Bool
 |[],[]=>true
 |a::x,b::y=>GL a b&&Ai x y
 |_,_=>false
noncomputable def DX:Value->Value->Bool
 |.tuple a,.tuple b=>Ai a.toList b.toList
 |a,b=>GL a b
theorem Sj{a b:Array Value}(h:a.toList=b.toList):a=b:=by
 have:=congrArg List.toArray h;simpa using this
theorem EC{a b:Value}(h:GL a b=true):a=b:=by
 unfold GL at h;split at h
 ·rw[Sj (wS h)]
 ·exact D1 h
theorem Cd:∀{a b:List Value},Ai a b=true->a=b
 |[],[],_=>rfl
 |a::x,b::y,h=>by
  simp only[Ai,and_eq_true]at h;rw[EC h.1,Cd h.2]
theorem Sd{a b:Value}(h:DX a b=true):a=b:=by
 unfold DX at h;split at h
 ·rw[Sj (Cd h)]
 ·exact EC h
noncomputable def look:List (List Value×Value)->List Value->Option Value
 |[],_=>none
 |(a,v)::r,b=>if oN a b then some v else look r b
noncomputable def EN(b:List (List Value×Value)):lK:=λ_ a h=>(look b a).map λv=>(v,h)
def qC(P:Program)(f:FuncId)(a:List (List Value×Value)):Prop:=∀r∈a,nU P f r.1 r.2/\plain r.2=true
theorem I3:∀{c:List (List Value×Value)}{b:List Value}{v:Value},look c b=some v->(b,v)∈c/\b.all bare=true
 |[],_,_,h=>nomatch h
 | (a,u)::r,b,v,h=>by
  simp only[look]at h;split at h
  ·next d=>
   obtain rfl:=oI h;rw[wS d];exact⟨by simp,uU d⟩
  ·obtain⟨e,f⟩:=I3 h;exact⟨by simp[e],f⟩
theorem YA{g:List (List Value×Value)}(y:qC P f g):jj P gl f (EN g):=by
 intro B _ i h v A k β w b r _ x;unfold EN at k;obtain⟨u,t,j⟩:=map_eq_some_iff.1 k;simp only[Prod.mk.injEq]at j;obtain⟨rfl,rfl⟩:=j;obtain⟨o,l⟩:=I3 t;obtain⟨⟨m,n,d,a⟩,p⟩:=y _ o;refine⟨m,n,.inl ⟨d,?_⟩⟩;have c:b=i.toArray:=by
  have:=aW.HZ l x;simpa using congrArg List.toArray this
 rw[c];refine(a w).mono ?_;rintro e z ⟨rfl,s,q⟩;exact⟨u,β,rfl,tq r s q,.mJ p⟩
section
noncomputable def Td(b:Bool)(c:List (List Value×Value)):pY:=λ_ a h K=>List.rec (motive:=λ_=>Bool) b (λr _ d=>fJ (oN r.1 a) (lC r.2 λv=>K v h) d) c
theorem PA(d:Bool)(c:List (List Value×Value))(f:FuncId->List Value->aa->(Value->aa->Bool)->Bool)(g:ck)(b:List Value)(h:aa)(K:Value->aa->Bool):Ref d (Td d c f b h K) (EN c g b h) λr=>K r.1 r.2:=by
 unfold EN
 induction c with
 |nil=>exact .inl rfl
 |cons r c i=>
  obtain⟨a,v⟩:=r;show Ref d (fJ (oN a b) (lC v λv=>K v h) (Td d c f b h K)) _ _;simp only[look];refine dE (λe=>?_) (λe=>?_)
  ·rw[eA,if_pos e];exact .of rfl rfl
  ·rw[if_neg (by rw[e];simp)];exact i
end
theorem Ul{gl:Nat->Bool}{d:FuncId->Option (pY)}{g:FuncId->Option lK}(j:uJ false d g){n:Nat}{f:FuncId}{a:List Value}{h:aa}{v:Value}(i:sS P gl d false n f a h (λu _=>DX v u)=true):
  ∃c,bn P gl g n f a h=some (v,c):=by
 rcases D4 (P:=P) (gl:=gl) j n f a h (λu _=>DX v u)with b|⟨⟨u,c⟩,b,e⟩
 ·rw[i]at b;cases b
 ·rw[i]at e;exact⟨c,by rw[b,Sd e.symm]⟩
theorem PX(l:dV P){b:FuncId->Option (pY)}{d:FuncId->Option lK}(p:uJ false b d){n:Nat}(c:nT P sD (bn P sD d n)){f:FuncId}{a:List Value}{v:Value}
  (q:sS P sD b false n f a ⟨0,.nil⟩ (λu _=>DX v u)=true) (g:(a.all bare&&plain v&&Nat.blt f YB&&qF P f)=true):nU P f a v:=by
 simp only[and_eq_true]at g;obtain⟨⟨⟨k,m⟩,j⟩,o⟩:=g;obtain⟨r,i,h⟩:=yH o;obtain⟨s,e⟩:=Ul p q;exact Gf c e k m (by simpa[blt_eq]using j) i h l
theorem pK:qC P f []:=λ_ h=>by cases h
theorem lf{a:List Value}{b:List (List Value×Value)}(h:nU P f a v)(d:plain v=true)(e:qC P f b):qC P f ((a,v)::b):=λr c=>by
 rcases mem_cons.1 c with rfl|c
 ·exact⟨h,d⟩
 ·exact e r c
end
section
variable {P:Program} {gl:Nat->Bool}
inductive qy where
 |Gm (tab:List (List Value×Value))
 |aaj
 |NY
noncomputable def qy.J1(P:Program)(gl:Nat->Bool)(e:qy):lK:=qy.rec (motive:=λ_=>lK) (λa=>EN a) jU hE e
noncomputable def qy.Tf(P:Program)(gl:Nat->Bool)(a:Bool)(e:qy):pY:=qy.rec (motive:=λ_=>pY) (λb=>Td a b) (Ec a) (tO a) e
abbrev lG:=List (FuncId×qy)
noncomputable def A1{a:Type}(b:Bool)(x y:Option a):Option a:=Bool.rec (motive:=λ_=>Option a) y x b
noncomputable def Jy(P:Program)(gl:Nat->Bool)(l:lG)(f:FuncId):Option lK:=List.rec (motive:=λ_=>Option lK) none (λx _ a=>A1 (Nat.beq f x.1) (some (x.2.J1 P gl)) a) l
noncomputable def Uv(P:Program)(gl:Nat->Bool)(a:Bool)(l:lG)(f:FuncId):Option (pY):=List.rec (motive:=λ_=>Option (pY)) none (λx _ b=>A1 (Nat.beq f x.1) (some (x.2.Tf P gl a)) b) l
theorem Uw(a:Bool)(l:lG):uJ a (Uv P gl a l) (Jy P gl l):=λf=>by
 induction l with
 |nil=>exact .inl ⟨rfl,rfl⟩
 | cons x l o=>
  show(A1 (Nat.beq f x.1) (some (x.2.Tf P gl a)) (Uv P gl a l f)=none/\A1 (Nat.beq f x.1) (some (x.2.J1 P gl)) (Jy P gl l f)=none)\/_
  cases c:Nat.beq f x.1 with
  | false=>
   rcases o with⟨g,i⟩|⟨p,q,g,i,n⟩
   ·exact .inl ⟨g,i⟩
   ·refine .inr ⟨p,q,?_,?_,n⟩
    ·show A1 (Nat.beq f x.1) (some (x.2.Tf P gl a)) (Uv P gl a l f)=_;rw[c];exact g
    ·show A1 (Nat.beq f x.1) (some (x.2.J1 P gl)) (Jy P gl l f)=_;rw[c];exact i
  | true=>
   refine .inr ⟨x.2.Tf P gl a,x.2.J1 P gl,?_,?_,λj d r b h K=>?_⟩
   ·show A1 (Nat.beq f x.1) (some (x.2.Tf P gl a)) (Uv P gl a l f)=_;rw[c];rfl
   ·show A1 (Nat.beq f x.1) (some (x.2.J1 P gl)) (Jy P gl l f)=_;rw[c];rfl
   ·obtain⟨k,e⟩:=x
    cases e with
    |Gm m=>exact PA a m j d b h K
    |aaj=>exact Dl a j d b h K
    |NY=>exact Bp a j d b h K
def mj(P:Program)(gl:Nat->Bool)(l:lG):Prop:=∀x∈l,jj P gl x.1 (x.2.J1 P gl)
theorem Oi{l:lG}(h:mj P gl l):oK P gl (Jy P gl l):=λf p a=>by
 induction l with
 |nil=>cases a
 | cons x l c=>
  have a:A1 (Nat.beq f x.1) (some (x.2.J1 P gl)) (Jy P gl l f)=some p:=a
  cases b:Nat.beq f x.1 with
  |false=>rw[b]at a;exact c (λy d=>h y (by simp[d])) a
  |true=>
   rw[b]at a;obtain rfl:=oI a;obtain rfl:f=x.1:=by simpa[beq_eq]using b
   exact h x (by simp)
theorem DU:mj P gl []:=λ_ h=>by cases h
theorem mu{x:FuncId×qy}{l:lG}(h:jj P gl x.1 (x.2.J1 P gl))(b:mj P gl l):mj P gl (x::l):=λy a=>by
 rcases mem_cons.1 a with rfl|a
 ·exact h
 ·exact b y a
theorem iK{a:List (List Value×Value)}{l:lG}(h:qC P f a)(b:mj P gl l):mj P gl ((f,.Gm a)::l):=mu (YA h) b
theorem GP{p:lK}{c:FuncId->Option lK}(h:jj P gl f p)(d:oK P gl c):oK P gl (λg=>A1 (Nat.beq g f) (some p) (c g)):=λg q a=>by
 dsimp only at a
 cases b:Nat.beq g f with
 |false=>rw[b]at a;exact d g q a
 |true=>
  rw[b]at a;obtain rfl:=oI a
  simp_all
structure tE(P:Program):Prop where
 names:dV P
 S0:∀(f:FuncId)(fn:Func),P.funcs[f]?=some fn->dC fn=true
theorem tE.run(h:tE P){l:lG}(a:mj P gl l)(n:Nat):nT P gl (bn P gl (Jy P gl l) n):=Fw h.names (Oi a) (yF h.names h.S0) (vf h.names) n
theorem tE.aeV(h:tE P){pr:FuncId->Option lK}(a:oK P gl pr)(n:Nat):nT P gl (bn P gl pr n):=Fw h.names a (yF h.names h.S0) (vf h.names) n
theorem iW(b:tE P){l:lG}(c:mj P sD l){n:Nat}{f:FuncId}{a:List Value}{v:Value}(d:sS P sD (Uv P sD false l) false n f a ⟨0,.nil⟩ (λu _=>DX v u)=true)
  (e:(a.all bare&&plain v&&Nat.blt f YB&&qF P f)=true):nU P f a v:=
 PX b.names (Uw false l) (b.run c n) d e
end
end Go.Ab
end
section
namespace Go.Ab
open Go
variable{d:List Value}{f:FuncId}{w:Value}{P:Program}{r:Operand->Value}{F:Func}
section
structure Sx where
 P:Program
 gl:Nat->Bool
 pr:FuncId->Option lK
abbrev Fr:=Nat->Value
def kF(E:Fr)(d:Nat)(v:Value):Fr:=λt=>if t=d then v else E t
def sF(E:Fr)(dst:Option Tmp)(v:Value):Fr:=match dst with
 |some d=>kF E d v
 |none=>E
def dW(a:Nat->Bool)(E:Fr):Operand->Value
 |.tmp t=>E t
 |.const v=>if plain v then v else jE
 |.global g=>if a g then .pointer (some ⟨g,0,none⟩)else jE
 |.func f=> .func (.func f) #[] #[]
def ER(nm:Nat)(E:Fr)(a:List Value):Prop:=a.length=nm/\∀t,a.getD t undef=E t
def vi(nm:Nat):Option Tmp->Bool
 |none=>true
 |some d=>decide (d<nm)
theorem ER.ev{nm:Nat}{E:Fr}{b:List Value}(a:Nat->Bool)(h:ER nm E b):ev a b=dW a E:=by
 funext x
 cases x with
 |tmp t=>exact h.2 t
 |const v=>rfl
 |global g=>rfl
 |func f=>rfl
theorem ER.put{nm:Nat}{E:Fr}(h:ER nm E d){dst:Option Tmp}(b:vi nm dst=true)(v:Value):ER nm (sF E dst v) (eZ d dst v):=by
 cases dst with
 |none=>exact h
 |some c=>
  have b:c<nm:=by simpa[vi]using b
  refine⟨by simp[eZ,h.1],λt=>?_⟩;simp only[eZ,sF,kF,gD,List.getElem?_set];by_cases a:t=c
  ·subst a;rw[if_pos rfl,if_pos rfl,if_pos (by rw[h.1];omega)];rfl
  ·rw[if_neg a,if_neg (λe=>a e.symm),<-gD];exact h.2 t
def FR(S:Sx)(f:FuncId)(a:List Value)(h:aa)(v:Value)(b:aa):Prop:=∃c,∀n,c<=n->bn S.P S.gl S.pr n f a h=some (v,b)
def FW(S:Sx)(f:FuncId)(a:List Value)(h:aa)(Q:Value->aa->Prop):Prop:=∃v b,FR S f a h v b/\Q v b
theorem FW.mono{S:Sx}{h:aa}{Q R:Value->aa->Prop}(c:FW S f d h Q)(g:∀v a,Q v a->R v a):FW S f d h R:=by
 obtain⟨v,a,b,e⟩:=c;exact⟨v,a,b,g v a e⟩
abbrev VH:=Value->aa->Prop
abbrev FH:=Fr->aa->Prop
abbrev C8:=Exit->Fr->aa->Prop
def CK(ops:Array Oper)(E:Fr)(a:Option (Nat×Bool)):Option Bool:=match a with
 |none=>some true
 | some (j,c)=>match (ops[j]?).bind (·.dst)with
  |some d=>match E d with
   |.bool b=>some (b==c)
   |.tuple _=>some false
   |_=>none
  |none=>none
theorem mW{nm:Nat}{E:Fr}(h:ER nm E d)(ops:Array Oper)(o:Oper):dY ops d o=CK ops E o.guard:=by
 unfold dY CK
 cases o.guard with
 |none=>rfl
 |some g=>
  obtain⟨j,a⟩:=g;dsimp only
  cases (ops[j]?).bind (·.dst)with
  |none=>rfl
  |some b=>dsimp only;rw[h.2 b];rfl
def Hx(r:Option (Value×aY))(h:aa)(K:VH):Prop:=match r with
 |some (v,u)=>K v (u.app h)
 |none=>False
def si(r:Option Value)(h:aa)(K:VH):Prop:=match r with
 |some v=>K v h
 |none=>False
def pP(S:Sx)(f:Value)(b:List Value)(h:aa)(K:VH):Prop:=match f with
 |.func (.func g) first a=>g<YB/\FW S g (first.toList++b++a.toList) h K
 |.func (.yield k) first a=>(first.size=0/\a.size=0)/\FW S (YB+k) b h K
 |_=>False
def wpOp(S:Sx)(E:Fr)(o:Oper)(h:aa)(K:VH):Prop:=match o.op with
 |.call { callee:= .value f,args,.. }=>pP S (dW S.gl E f) (args.toList.map (dW S.gl E)) h K
 |_=>Hx (bo S.P fZ (dW S.gl E) o h) h K
def wpG(r:Option Bool)(A B:Unit->Prop):Prop:=match r with
 |some true=>A ()
 |some false=>B ()
 |none=>False
def WE(S:Sx)(ops:Array Oper):List Oper->Fr->aa->FH->Prop
 |[],E,h,R=>R E h
 |o::l,E,h,R=>wpG (CK ops E o.guard) (λ_=>wpOp S E o h λv h=>WE S ops l (sF E o.dst v) h R) (λ_=>WE S ops l (sF E o.dst undef) h R)
def adK(S:Sx)(ops:Array Oper)(dst:Option Tmp)(l:List Oper)(E:Fr)(h:aa)(R:FH)(_:Unit):Prop:=WE S ops l (sF E dst undef) h R
def opK(S:Sx)(ops:Array Oper)(dst:Option Tmp)(l:List Oper)(E:Fr)(R:FH)(v:Value)(h:aa):Prop:=WE S ops l (sF E dst v) h R
def aeJ(S:Sx)(ops:Array Oper)(o:Oper)(l:List Oper)(E:Fr)(h:aa)(R:FH)(_:Unit):Prop:=wpOp S E o h (opK S ops o.dst l E R)
section
variable (S:Sx) (ops:Array Oper) (o:Oper) (l:List Oper) (dst:Option Tmp) (E:Fr) (h:aa) (R:FH) (v:Value)
theorem Wo:WE S ops (o::l) E h R=wpG (CK ops E o.guard) (aeJ S ops o l E h R) (adK S ops o.dst l E h R):=rfl
theorem Nl(ops:Array Oper)(E:Fr)(j:Nat)(a:Bool):CK ops E (some (j,a))=match (ops[j]?).bind (·.dst)with
  |some d=>(match E d with|.bool b=>some (b==a)|.tuple _=>some false|_=>none)
  |none=>none:=rfl
end
noncomputable section
variable (S:Sx) (bf:Nat->Nat->Bool)
def EP(o:Oper)(E:Fr)(v:Value)(h:aa):Bool:=match bj S.P (dW S.gl E) o h with
 |some v'=>cZ 4 v v'
 |none=>false
def nF(j:Nat)(o:Oper)(E:Fr)(v:Value):aa->List (Nat×aa)->Bool->Bool
 |h,[],a=>a||EP S o E v h
 |h,(e,b)::r,a=>((a&&Nat.blt j e)||bf j e||EP S o E v h)&&(bf e j||nF j o E v b r (Nat.blt e j))
abbrev Kw:=Fr×Oper×lz
def ud(h:aa)(a:List (Nat×aa)):List Kw->Nat->Bool
 |[],_=>true
 |(E,o,.read v)::r,j=>nF S bf j o E v h a true&&ud h a r (j+1)
 |_::r,j=>ud h a r (j+1)
def nv:List Kw->Nat->List (Nat×aa)
 |[],_=>[]
 |(_,_,.qc _ h)::r,j=>(j,h)::nv r (j+1)
 |_::r,j=>nv r (j+1)
def ve(h:aa)(a:List Kw):Bool:=chained bf (nv a 0)&&ud S bf h (nv a 0) a 0
def CQ(E:Fr)(o:Oper)(h:aa)(K:VH):Prop:=match o.op with
 |.call { callee:= .value f,args,.. }=>pP S (dW S.gl E f) (args.toList.map (dW S.gl E)) h K
 |_=>Hx (cL S.P fZ (dW S.gl E) o h) h K
def wE(ops:Array Oper)(a:Nat)(d:aa):List Oper->Nat->Fr->aa->List (Nat×bw)->List Kw->FH->Prop
 |[],_,E,h,c,b,R=>ve S bf d b.reverse=true/\R E (av h a c)
 | o::l,j,E,h,c,b,R=>wpG (CK ops E o.guard)
   (λ_=>match aZ S.P (dW S.gl E) o with
    |some v=>wE ops a d l (j+1) (sF E o.dst v) h c ((E,o,.pure v)::b) R
    | none=>match bj S.P (dW S.gl E) o h with
     |some v=>wE ops a d l (j+1) (sF E o.dst v) h c ((E,o,.read v)::b) R
     |none=>match aT S.P (dW S.gl E) o with
      |some (B,f)=>wE ops a d l (j+1) (sF E o.dst (f (a+j))) h ((j,B)::c) ((E,o,.alloc B (f (a+j)))::b) R
      |none=>CQ S E o (av h a (c.filter λp=>bf j p.1)) λv e=>wE ops a d l (j+1) (sF E o.dst v) e (c.filter λp=> !bf j p.1) ((E,o,.qc v e)::b) R)
   (λ_=>wE ops a d l (j+1) (sF E o.dst undef) h c ((E,o,.skip)::b) R)
def wpD(nm:Nat)(ops:Array Oper)(E:Fr)(h:aa)(R:FH):Prop:=
 (tF ops=false/\wE S (cE (fi ops)) ops h.next { h with next:=h.next+ops.size } ops.toList 0 E { h with next:=h.next+ops.size } [] [] R)\/
  (tF ops=true/\∃(a:List Value)(b:aa),a.length=nm/\vc S.P S.gl ops (cE (fi ops)) ((List.range nm).map E) h=some (a,b)/\R (λt=>a.getD t undef) b)
end
section
variable (S:Sx) (nm:Nat)
def RY(c:Code)(E:Fr)(h:aa)(x:Exit)(e:Fr)(f:aa):Prop:=
 ∃d,∀n N,d<=n->d<=N->∀b,ER nm E b->∃a,ER nm e a/\aU S.P S.gl (bn S.P S.gl S.pr n) N c b h=some (x,a,f)
def aci(c:Code)(E:Fr)(h:aa)(x:Exit)(e:Fr)(f:aa):Prop:=
 ∃b,∀n N j,b<=n->b<=N->b<=j->∀d,ER nm E d->∃a,ER nm e a/\iter (aU S.P S.gl (bn S.P S.gl S.pr n) N c) j d h=some (x,a,f)
def DL(c:Code)(E:Fr)(h:aa)(Q:C8):Prop:=∃x a b,aci S nm c E h x a b/\Q x a b
def KR(c:Code)(E:Fr)(h:aa)(Q:C8):Prop:=∃x a b,RY S nm c E h x a b/\Q x a b
def wpB(v:Value)(A B:Unit->Prop):Prop:=match v with
 |.bool true=>A ()
 |.bool false=>B ()
 |_=>False
def Wj:Code->Fr->aa->C8->Prop
 |.skip,E,h,Q=>Q .normal E h
 |.region _ ops false,E,h,Q=>WE S ops ops.toList E h λE h=>Q .normal E h
 |.region _ ops true,E,h,Q=>wpD S nm ops E h λE h=>Q .normal E h
 |.seq a b,E,h,Q=>Wj a E h λx E h=>match x with
  |.normal=>Wj b E h Q
  |x=>Q x E h
 |.cond c a b,E,h,Q=>wpB (dW S.gl E c) (λ_=>Wj a E h Q) (λ_=>Wj b E h Q)
 |.block id c,E,h,Q=>Wj c E h λx E h=>match x with
  |.exit id'=>if id'=id then Q .normal E h else Q (.exit id') E h
  |x=>Q x E h
 |.loop c,E,h,Q=>DL S nm c E h Q
 |.exit id,E,h,Q=>Q (.exit id) E h
 |.ret,E,h,Q=>Q .ret E h
 |.label _,E,h,Q=>Q .normal E h
 |.rangeFunc f d a b,E,h,Q=>KR S nm (.rangeFunc f d a b) E h Q
 |_,_,_,_=>False
def acG(c:Code)(Q:C8)(x:Exit)(E:Fr)(h:aa):Prop:=match x with
 |.normal=>DL S nm c E h Q
 |x=>Q x E h
def goK(c:Code)(E:Fr)(h:aa)(Q:C8)(_:Unit):Prop:=Wj S nm c E h Q
variable (a b c:Code) (o:Operand) (id id':Nat) (ops:Array Oper) (E:Fr) (h:aa) (Q:C8)
theorem Wk:Wj S nm (.cond o a b) E h Q=wpB (dW S.gl E o) (goK S nm a E h Q) (goK S nm b E h Q):=rfl
end
theorem ZH{v:Value}{A B:Unit->Prop}(h:wpB v A B):∃b,v = .bool b/\((b=true/\A ())\/(b=false/\B ())):=by
 cases v with
 |bool b=>
  cases b with
  |true=>exact⟨true,rfl,.inl ⟨rfl,h⟩⟩
  |false=>exact⟨false,rfl,.inr ⟨rfl,h⟩⟩
 |_=>exact h.elim
theorem Ho{r:Option Bool}{A B:Unit->Prop}(h:wpG r A B):(r=some true/\A ())\/(r=some false/\B ()):=by
 cases r with
 |none=>exact h.elim
 |some b=>
  cases b with
  |true=>exact .inl ⟨rfl,h⟩
  |false=>exact .inr ⟨rfl,h⟩
section
variable {S:Sx} {nm:Nat}
theorem wD{h:aa}{K:VH}(c:pP S w d h K):∃v a b,(∀n,b<=n->qE (bn S.P S.gl S.pr n) w d h=some (v,.all a))/\K v a:=by
 unfold pP at c;split at c
 ·next g first j=>
  obtain⟨k,v,a,⟨b,i⟩,f⟩:=c;refine⟨v,a,b,λn e=>?_,f⟩;simp only[qE];rw[if_pos k,i n e];rfl
 ·obtain⟨l,v,a,⟨b,i⟩,f⟩:=c;refine⟨v,a,b,λn e=>?_,f⟩;simp only[qE];rw[if_pos l,i n e];rfl
 grind
theorem my{o:Oper}(b:bu o=true):∃f args a,o.op = .call { callee:= .value f,args:=args,argTypes:=a }:=by grind[bu]
theorem Kq{E:Fr}{o:Oper}{h:aa}{K:VH}(c:CQ S E o h K):∃v u d,(∀n,d<=n->cL S.P (bn S.P S.gl S.pr n) (dW S.gl E) o h=some (v,u))/\K v (u.app h):=by
 cases b:bu o with
 |true=>
  obtain⟨f,m,s,e⟩:=my b;obtain⟨dst,r,q,p,i,g⟩:=o;dsimp only at e;subst e;obtain⟨v,l,d,j,k⟩:=wD c;exact⟨v,.all l,d,j,k⟩
 | false=>
  have a:Hx (cL S.P fZ (dW S.gl E) o h) h K:=by
   unfold CQ at c;split at c
   ·next e=>unfold bu at b;rw[e]at b;cases b
   ·exact c
  unfold Hx at a;split at a
  ·next v u e=>exact⟨v,u,0,λn _=>by rw[<-tV b];exact e,a⟩
  grind
theorem Jp{a:ck}{o:Oper}{h:aa}(g:bu o=true):bo P a r o h=cL P a r o h:=by
 obtain⟨f,d,l,e⟩:=my g;obtain⟨dst,k,j,i,c,b⟩:=o;dsimp only at e;subst e;rfl
theorem Nr{E:Fr}{o:Oper}{h:aa}{K:VH}(c:wpOp S E o h K):∃v u d,(∀n,d<=n->bo S.P (bn S.P S.gl S.pr n) (dW S.gl E) o h=some (v,u))/\K v (u.app h):=by
 cases a:bu o with
 |true=>
  obtain⟨f,p,t,e⟩:=my a;obtain⟨dst,s,r,q,i,g⟩:=o;dsimp only at e;subst e;obtain⟨v,m,d,k,l⟩:=wD c;exact⟨v,.all m,d,λn j=>by rw[Jp a];exact k n j,l⟩
 | false=>
  have b:Hx (bo S.P fZ (dW S.gl E) o h) h K:=by
   unfold wpOp at c;split at c
   ·next e=>unfold bu at a;rw[e]at a;cases a
   ·exact c
  unfold Hx at b;split at b
  ·next v u e=>exact⟨v,u,0,λn _=>by rw[<-B2 a];exact e,b⟩
  grind
theorem yv(ops:Array Oper){R:FH}:∀(l:List Oper)(E:Fr)(h:aa),(l.all λo=>vi nm o.dst)=true->WE S ops l E h R->
  ∃e f x,(∀n,x<=n->∀d,ER nm E d->∃a,ER nm e a/\jx S.P S.gl (bn S.P S.gl S.pr n) ops l d h=some (a,f))/\R e f
 |[],E,h,_,b=>⟨E,h,0,λn _ d c=>⟨d,c,rfl⟩,b⟩
 | o::l,E,h,g,b=>by
  simp only[all_cons,and_eq_true]at g;rcases Ho b with⟨q,b⟩|⟨q,b⟩
  ·obtain⟨v,u,r,s,t⟩:=Nr b;obtain⟨e,f,j,k,m⟩:=yv ops l _ _ g.2 t;refine⟨e,f,max r j,λn p d c=>?_,m⟩;obtain⟨a,i,w⟩:=k n (by omega) _ (c.put g.1 v);refine⟨a,i,?_⟩;simp only[jx];rw[mW c,q,c.ev,s n (by omega)];omega
  ·obtain⟨e,f,j,k,m⟩:=yv ops l _ _ g.2 b;refine⟨e,f,j,λn p d c=>?_,m⟩;obtain⟨a,i,w⟩:=k n p _ (c.put g.1 undef)
   grind[mW,jx]
def AJ(nm:Nat):List Oper->List Kw->List (List Value×lz)->Prop
 |[],[],[]=>True
 |o::c,(E,d,e)::r,(b,a)::f=>d=o/\a=e/\ER nm E b/\AJ nm c r f
 |_,_,_=>False
theorem Iq:∀{l:List Oper}{r:List Kw}{a:List (List Value×lz)}(j:Nat),AJ nm l r a->dI a j=nv r j
 |[],[],[],_,_=>rfl
 |o::d,(E,f,e)::r,(c,b)::a,j,h=>by
  obtain⟨rfl,rfl,_,h⟩:=h
  cases b<;>simp only[dI,nv,Iq (j+1) h]
 |[],[],_::_,_,h=>h.elim
 |[],_::_,_,_,h=>h.elim
 |_::_,[],_,_,h=>h.elim
 |_::_,_::_,[],_,h=>h.elim
theorem wk{o:Oper}{E:Fr}{v:Value}{h:aa}(a:ER nm E d):hH S.P S.gl o d v h=EP S o E v h:=by
 unfold hH EP;rw[a.ev];rfl
theorem Cq{bf:Nat->Nat->Bool}{j:Nat}{o:Oper}{E:Fr}{c:List Value}{v:Value}(d:ER nm E c):∀(b:List (Nat×aa))(h:aa)(a:Bool),jz S.P S.gl bf j o c v h b a=nF S bf j o E v h b a
 |[],h,a=>by grind[wk,jz,nF]
 |(e,f)::b,h,a=>by simp only[jz,nF,wk d,Cq d b]
theorem EJ{bf:Nat->Nat->Bool}{h:aa}{c:List (Nat×aa)}:∀{l:List Oper}{r:List Kw}{b:List (List Value×lz)}(j:Nat),AJ nm l r b->fP S.P S.gl bf h c l b j=ud S bf h c r j
 |[],[],[],_,_=>rfl
 |o::i,(E,k,e)::r,(g,d)::b,j,a=>by
  obtain⟨rfl,rfl,f,a⟩:=a
  cases d<;>simp only[fP,ud,EJ (j+1) a,Cq f]
 |[],[],_::_,_,h=>h.elim
 |[],_::_,_,_,h=>h.elim
 |_::_,[],_,_,h=>h.elim
 |_::_,_::_,[],_,h=>h.elim
theorem CP(bf:Nat->Nat->Bool)(ops:Array Oper)(a:Nat)(A:aa){R:FH}:∀(l:List Oper)(j:Nat)(E:Fr)(h:aa)(m:List (Nat×bw))(g:List Kw),(l.all λo=>vi nm o.dst)=true->wE S bf ops a A l j E h m g R->
  ∃p s k r J,(∀n,J<=n->∀b,ER nm E b->∃i t,ER nm p i/\AJ nm l r t/\cW S.P S.gl (bn S.P S.gl S.pr n) ops bf a l j b h m=some (t,i,s,k))/\ve S bf A (g.reverse++r)=true/\R p (av s a k)
 |[],j,E,h,m,g,_,c=>⟨E,h,m,[],0,λn _ b d=>⟨b,[],d,trivial,rfl⟩,by rw[append_nil];exact c.1,c.2⟩
 | o::l,j,E,h,m,g,I,c=>by
  simp only[all_cons,and_eq_true]at I;have fin:∀(v:Value)(e:lz)(D:aa)(y:List (Nat×bw))(z:Nat),wE S bf ops a A l (j+1) (sF E o.dst v) D y ((E,o,e)::g) R->
    (∀n,z<=n->∀b,ER nm E b->∀q,cW S.P S.gl (bn S.P S.gl S.pr n) ops bf a l (j+1) (eZ b o.dst v) D y=some q->cW S.P S.gl (bn S.P S.gl S.pr n) ops bf a (o::l) j b h m=some ((b,e)::q.1,q.2))->
    ∃p s k r J,(∀n,J<=n->∀b,ER nm E b->∃i t,ER nm p i/\AJ nm (o::l) r t/\cW S.P S.gl (bn S.P S.gl S.pr n) ops bf a (o::l) j b h m=some (t,i,s,k))/\ve S bf A (g.reverse++r)=true/\R p (av s a k):=by
   intro v e D y z L w;obtain⟨p,s,k,r,O,H,U,P⟩:=CP bf ops a A l (j+1) _ _ _ _ I.2 L;refine⟨p,s,k,(E,o,e)::r,max z O,λn N b d=>?_,?_,P⟩
   ·obtain⟨i,t,K,Q,T⟩:=H n (by omega) _ (d.put I.1 v);exact⟨i,(b,e)::t,K,⟨rfl,rfl,d,Q⟩,w n (by omega) b d _ T⟩
   ·grind
  rcases Ho c with⟨C,c⟩|⟨C,c⟩
  ·cases x:aZ S.P (dW S.gl E) o with
   |some v=>
    rw[x]at c;refine fin v (.pure v) h m 0 c λn _ b d q w=>?_;simp only[cW];rw[mW d,C,d.ev,x]
    grind
   | none=>
    rw[x]at c;dsimp only at c
    cases F:bj S.P (dW S.gl E) o h with
    |some v=>
     rw[F]at c;refine fin v (.read v) h m 0 c λn _ b d q w=>?_;simp only[cW];rw[mW d,C,d.ev,x]
     grind
    | none=>
     rw[F]at c;dsimp only at c
     cases G:aT S.P (dW S.gl E) o with
     |some M=>
      obtain⟨B,f⟩:=M;rw[G]at c;refine fin _ (.alloc B (f (a+j))) h ((j,B)::m) 0 c λn _ b d q w=>?_;simp only[cW];rw[mW d,C,d.ev,x]
      grind
     |none=>
      rw[G]at c;dsimp only at c;obtain⟨v,u,z,D,H⟩:=Kq c;refine fin v (.qc v _) _ _ z H λn N b d q w=>?_;simp only[cW];rw[mW d,C,d.ev,x]
      grind
  ·refine fin undef .skip h m 0 c λn _ b d q w=>?_
   grind[mW,cW]
theorem RE{ops:Array Oper}{E:Fr}{h:aa}{R:FH}(x:(ops.toList.all λo=>vi nm o.dst)=true)(p:wpD S nm ops E h R):
  ∃g f q,(∀n,q<=n->∀c,ER nm E c->∃a,ER nm g a/\yK S.P S.gl (bn S.P S.gl S.pr n) ops c h=some (a,f))/\R g f:=by
 rcases p with⟨b,p⟩|⟨b,a,f,l,d,m⟩
 case inr=>
  refine⟨_,f,0,λn _ c j=>⟨a,⟨l,λ_=>rfl⟩,?_⟩,m⟩;have e:c=(List.range nm).map E:=by
   refine List.ext_getElem (by simp[j.1]) λi k m=>?_;have:=j.2 i;rw[gD,gE k]at this;simpa using this
  unfold yK;rw[b,if_pos rfl,e];exact d
 obtain⟨g,f,y,r,q,k,m,v⟩:=CP (cE (fi ops)) ops h.next _ ops.toList 0 E _ [] [] x p;refine⟨g,_,q,λn u c j=>?_,v⟩;obtain⟨a,z,s,t,w⟩:=k n u c j;refine⟨a,s,?_⟩;unfold yK;rw[b,if_neg (by simp)];unfold rQ;rw[w];dsimp only;rw[Iq 0 t,EJ 0 t]
 simp_all[ve]
def gz(nm:Nat):Code->Bool
 |.region _ ops _=>ops.toList.all λo=>vi nm o.dst
 |.seq a b=>gz nm a&&gz nm b
 |.cond _ a b=>gz nm a&&gz nm b
 |.block _ c=>gz nm c
 |.loop c=>gz nm c
 |_=>true
theorem jX:∀(c:Code){E:Fr}{h:aa}{Q:C8},gz nm c=true->Wj S nm c E h Q->∃x y z,RY S nm c E h x y z/\Q x y z
 |.skip,E,h,_,_,d=>⟨.normal,E,h,⟨0,λ_ _ _ _ f j=>⟨f,j,rfl⟩⟩,d⟩
 |.exit id,E,h,_,_,d=>⟨.exit id,E,h,⟨0,λ_ _ _ _ f j=>⟨f,j,rfl⟩⟩,d⟩
 |.ret,E,h,_,_,d=>⟨.ret,E,h,⟨0,λ_ _ _ _ f j=>⟨f,j,rfl⟩⟩,d⟩
 |.label _,E,h,_,_,d=>⟨.normal,E,h,⟨0,λ_ _ _ _ f j=>⟨f,j,rfl⟩⟩,d⟩
 |.region _ ops false,E,h,_,r,d=>by
  obtain⟨y,z,D,q,B⟩:=yv ops ops.toList E h r d;refine⟨.normal,y,z,⟨D,λn N s _ f j=>?_⟩,B⟩
  grind[aU]
 |.region _ ops true,E,h,_,r,d=>by
  obtain⟨y,z,D,q,B⟩:=RE r d;refine⟨.normal,y,z,⟨D,λn N s _ f j=>?_⟩,B⟩
  grind[aU]
 | .seq a b,E,h,Q,r,d=>by
  simp only[gz,and_eq_true]at r;obtain⟨x,w,q,⟨v,k⟩,p⟩:=jX a r.1 d;have J:(∀n N g ,aU S.P S.gl (bn S.P S.gl S.pr n) N a g h=some (x,g,q)->True)->x≠ .normal->Q x w q->∃x y z,RY S nm (.seq a b) E h x y z/\Q x y z:=by
   intro _ C p;refine⟨x,w,q,⟨v,λn N s u f j=>?_⟩,p⟩;obtain⟨g,i,A⟩:=k n N s u f j;refine⟨g,i,?_⟩;simp only[aU];rw[A]
   cases x with
   |normal=>grind
   |_=>rfl
  cases x with
  |normal=>
   obtain⟨x,I,B,⟨H,G⟩,p⟩:=jX b r.2 p;refine⟨x,I,B,⟨max v H,λn N s u f j=>?_⟩,p⟩;obtain⟨g,i,A⟩:=k n N (by omega) (by omega) f j;obtain⟨K,L,M⟩:=G n N (by omega) (by omega) g i
   grind[aU]
  |exit id=>simp_all
  |goto l=>simp_all
  |ret=>simp_all
  |panic _=>simp_all
  |outgrown=>simp_all
 | .cond o a b,E,h,Q,r,d=>by
  simp only[gz,and_eq_true]at r;obtain⟨t,F,⟨j,d⟩|⟨j,d⟩⟩:=ZH d
  ·obtain⟨x,w,q,⟨v,k⟩,p⟩:=jX a r.1 d;refine⟨x,w,q,⟨v,λn N s u f m=>?_⟩,p⟩;obtain⟨g,i,A⟩:=k n N s u f m;refine⟨g,i,?_⟩;simp only[aU];rw[m.ev,F,j]
   grind
  ·obtain⟨x,w,q,⟨v,k⟩,p⟩:=jX b r.2 d;refine⟨x,w,q,⟨v,λn N s u f m=>?_⟩,p⟩;obtain⟨g,i,A⟩:=k n N s u f m;refine⟨g,i,?_⟩;simp only[aU];rw[m.ev,F,j]
   grind
 | .block id c,E,h,Q,r,d=>by
  obtain⟨x,w,q,⟨v,k⟩,p⟩:=jX c r d;by_cases C:x = .exit id
  ·subst C;dsimp only at p;rw[if_pos rfl]at p;refine⟨.normal,w,q,⟨v,λn N s u f m=>?_⟩,p⟩
   grind[aU]
  ·refine⟨x,w,q,⟨v,λn N s u f m=>?_⟩,?_⟩
   ·obtain⟨g,i,A⟩:=k n N s u f m;refine⟨g,i,?_⟩;simp only[aU];rw[A]
    cases x with
    |exit id'=>dsimp only;rw[if_neg (λe=>C (by rw[e]))]
    |_=>rfl
   grind
 |.loop c,E,h,Q,r,d=>by
  obtain⟨x,w,q,⟨v,k⟩,p⟩:=d;refine⟨x,w,q,⟨v,λn N s u f m=>?_⟩,p⟩;obtain⟨g,i,A⟩:=k n N N s u u f m;exact⟨g,i,A⟩
 |.rangeFunc ..,_,_,_,_,d=>d
 |.scope _,_,_,_,_,d=>d.elim
 |.goto _,_,_,_,_,d=>d.elim
 |.refuse _,_,_,_,_,d=>d.elim
theorem TQ{c:Code}{E:Fr}{h:aa}{Q:C8}(z:gz nm c=true)(y:Wj S nm c E h (acG S nm c Q)):DL S nm c E h Q:=by
 obtain⟨x,r,p,⟨m,g⟩,a⟩:=jX c z y;have b:x≠ .normal->Q x r p->DL S nm c E h Q:=by
  intro D a;refine⟨x,r,p,⟨m+1,λn N j s v A i k=>?_⟩,a⟩;obtain⟨d,rfl⟩:∃d,j=d+1:=⟨j-1,by omega⟩
  obtain⟨f,e,o⟩:=g n N (by omega) (by omega) i k;refine⟨f,e,?_⟩;simp only[iter];rw[o]
  cases x with
  |normal=>grind
  |_=>rfl
 cases x with
 |normal=>
  obtain⟨x,u,w,⟨t,q⟩,a⟩:=a;refine⟨x,u,w,⟨max m t+1,λn N j s v A i k=>?_⟩,a⟩;obtain⟨d,rfl⟩:∃d,j=d+1:=⟨j-1,by omega⟩
  obtain⟨f,e,o⟩:=g n N (by omega) (by omega) i k;obtain⟨B,C,F⟩:=q n N d (by omega) (by omega) (by omega) f e
  grind[iter]
 |exit id=>exact b (by simp) a
 |goto l=>exact b (by simp) a
 |ret=>exact b (by simp) a
 |panic _=>exact b (by simp) a
 |outgrown=>exact b (by simp) a
noncomputable def sH(S:Sx)(E:Fr)(h:aa):List ResultVar->Option (List Value)
 |[]=>some []
 |.tmp t::r=>(sH S E h r).map (E t::·)
 |.cell a t::r=>match ae S.P t h (E a)with
  |some v=>(sH S E h r).map (v::·)
  |none=>none
theorem GW{E:Fr}{h:aa}{c:List Value}(b:ER nm E c):∀l,cB S.P c h l=sH S E h l
 |[]=>rfl
 |.tmp t::r=>by simp only[cB,sH,GW b r,b.2 t]
 |.cell a t::r=>by
  simp only[cB,sH,GW b r,b.2 a];rfl
def zt(r:Option (List Value))(h:aa)(Q:VH):Prop:=match r with
 |some a=>Q (cm a) h
 |none=>False
def aeU(S:Sx)(a:List ResultVar)(Q:VH)(x:Exit)(E:Fr)(h:aa):Prop:=match x with
 |.normal=>zt (sH S E h a) h Q
 |.ret=>zt (sH S E h a) h Q
 |_=>False
def aaF(a:List Value):Fr:=λt=>a.getD t undef
theorem ac3{c:Code}{h:aa}{Q:VH}(D:S.P.funcs[f]?=some F)(B:F.body=some c)(q:f<YB)(s:S.pr f=none)(G:d.length<=F.ntmps)(u:gz F.ntmps c=true)
  (r:Wj S F.ntmps c (aaF d) h (aeU S F.results.toList Q)):FW S f d h Q:=by
 obtain⟨x,i,e,⟨y,w⟩,b⟩:=jX c u r;have v:ER F.ntmps (aaF d) (d++List.replicate (F.ntmps-d.length) undef):=by
  refine⟨by simp;omega,λt=>?_⟩;show _=d.getD t undef;simp only[gD];by_cases g:t<d.length
  ·rw[List.getElem?_append_left g]
  ·rw[List.getElem?_append_right (by omega),getElem?_eq_none (l:=d) (by omega),List.getElem?_replicate];split<;>rfl
 have p:∃a,sH S i e F.results.toList=some a/\Q (cm a) e/\(x = .normal\/x = .ret):=by
  have k:zt (sH S i e F.results.toList) e Q->∃a,sH S i e F.results.toList=some a/\Q (cm a) e:=by
   intro b
   cases m:sH S i e F.results.toList with
   |none=>rw[m]at b;exact b.elim
   |some a=>rw[m]at b;exact⟨a,rfl,b⟩
  cases x with
  |normal=>obtain⟨a,g,o⟩:=k b;exact⟨a,g,o,.inl rfl⟩
  |ret=>obtain⟨a,g,o⟩:=k b;exact⟨a,g,o,.inr rfl⟩
  |_=>exact b.elim
 obtain⟨a,m,b,H⟩:=p;refine⟨cm a,e,⟨y+1,λn C=>?_⟩,b⟩;obtain⟨j,rfl⟩:∃j,n=j+1:=⟨n-1,by omega⟩
 obtain⟨A,z,E⟩:=w j j (by omega) (by omega) _ v;simp only[bn];rw[if_neg (Nat.not_le.2 q),s]
 grind[GW]
end
end
variable{A:Type}{B:Type}{q:Oper}
section
section
variable (gl:Nat->Bool) (E:Fr)
theorem map_nil(f:A->B):[].map f=([]:List B):=rfl
theorem map_cons(f:A->B)(a:A)(l:List A):(a::l).map f=f a::l.map f:=rfl
end
section
variable (S:Sx) (E:Fr) (dst:Option Tmp) (ty:TypeId) (pos:String) (after:Array Edge) (guard:Option (Nat×Bool)) (h:aa) (K:VH)
theorem fV(a:bu q=false):wpOp S E q h K=Hx (bo S.P fZ (dW S.gl E) q h) h K:=by grind[wpOp,bu]
theorem Wt{P:Program}(b:∀h,aZ P r q=none->bo P fZ r q h=none):Hx (bo P fZ r q h) h K=si (aZ P r q) h K:=by
 cases a:aZ P r q with
 |none=>rw[b h a];rfl
 |some v=>unfold bo;rw[a];rfl
def lD:Op->Bool
 |.move _|.assign _|.pick ..|.build ..|.nilCheck _|.binOp ..|.unOp ..|.makeInterface ..|.makeFunc ..|.fieldAddr ..|.field ..|.indexAddr ..|.index ..|.typeAssert ..|.extract .. =>true
 |.call { callee:= .builtin .max,.. }|.call { callee:= .builtin .min,.. }|.call { callee:= .builtin .cap,.. }=>true
 |_=>false
theorem QQ{P:Program}{a:Op}(b:lD a=true)(h:aa)(c:aZ P r ⟨dst,a,ty,pos,after,guard⟩=none):bo P fZ r ⟨dst,a,ty,pos,after,guard⟩ h=none:=by
 unfold bo;rw[c];unfold lD at b;split at b<;>first|rfl|grind
theorem Mq{a:Op}(b:lD a=true):bu ⟨dst,a,ty,pos,after,guard⟩=false:=by
 unfold lD at b;split at b<;>first|rfl|grind
theorem dg{a:Op}(b:lD a=true):wpOp S E ⟨dst,a,ty,pos,after,guard⟩ h K=si (aZ S.P (dW S.gl E) ⟨dst,a,ty,pos,after,guard⟩) h K:=by grind[fV,Mq,Wt,QQ]
def aak(c x y:Value):Option Value:=match c with
 |.bool t=>some (if t then x else y)
 |_=>none
def Z8(v:Value)(i:Nat):Option Value:=match v with
 |.tuple a=>a[i]?
 |_=>none
def bH(P:Program)(t:TypeId)(x i:Value):Option Value:=match P.underlying t,x,i with
  |some (.array a e),.agg cs,.int _ j=>match au P e with
   |some n=>if 0<=j/\j<(a:Int)then partOf P e cs (j.toNat*n)else none
   |none=>none
  |some .string,.string s,.int _ j=>if 0<=j then match s.data.toList[j.toNat]? with|some b=>some (.int .u8 b.toNat)|none=>none else none
  |_,_,_=>none
def ai(P:Program)(t:TypeId)(x i:Value):Option Value:=match P.underlying t,x,i with
  |some (.array b e),.pointer (some a),.int _ j=>match au P e with
   |some n=>if 0<=j/\j<(b:Int)then some (.pointer (some (a.add (j.toNat*n))))else none
   |none=>none
  |some (.slice e),.slice (some a) b _,.int _ j=>match au P e with
   |some n=>if 0<=j/\j<(b:Int)then some (.pointer (some (a.add (j.toNat*n))))else none
   |none=>none
  |_,_,_=>none
def af(P:Program)(s:TypeId)(x:Value)(f:Nat):Option Value:=match P.underlying s,x with
  |some (.struct b),.pointer (some a)=>match b[f]? with
   |some c=>if(au P c.type).any (· ≠0)then some (.pointer (some (a.add c.offset)))else none
   |none=>none
  |_,_=>none
def Tg(P:Program)(t:TypeId)(x:Value)(f:Nat):Option Value:=match P.underlying t,x with
  |some (.struct a),.agg cs=>match a[f]? with
   |some b=>partOf P b.type cs b.offset
   |none=>none
  |_,_=>none
noncomputable def TJ(P:Program)(t:TypeId)(x:Value)(h:aa):Option Value:=match P.underlying t,x with
   |some .string,.string s=>some (.int .i64 s.data.toList.length)
   |some (.array n _),_=>some (.int .i64 n)
   |some (.slice _),.slice _ n _=>some (.int .i64 n)
   |some (.map ..),.map none=>some (.int .i64 0)
   |some (.map ..),.map (some r)=>match h.get r with
    |some (.map a)=>some (.int .i64 a.length)
    |_=>none
   |_,_=>none
theorem RH(c a b:Operand):wpOp S E ⟨dst,.pick c a b,ty,pos,after,guard⟩ h K=si (aak (dW S.gl E c) (dW S.gl E a) (dW S.gl E b)) h K:=dg S E dst ty pos after guard h K rfl
theorem Nn(a:BinOp)(t u:TypeId)(x y:Operand):wpOp S E ⟨dst,.binOp a t x y u,ty,pos,after,guard⟩ h K=si (ay S.P a t (dW S.gl E x) (dW S.gl E y)) h K:=dg S E dst ty pos after guard h K rfl
theorem RI(a:UnOp)(t:TypeId)(x:Operand):wpOp S E ⟨dst,.unOp a t x,ty,pos,after,guard⟩ h K=si (E6 a (dW S.gl E x)) h K:=dg S E dst ty pos after guard h K rfl
theorem Hq(x:Operand)(i:Nat):wpOp S E ⟨dst,.extract x i,ty,pos,after,guard⟩ h K=si (Z8 (dW S.gl E x) i) h K:=dg S E dst ty pos after guard h K rfl
theorem Np(t:TypeId)(x i:Operand):wpOp S E ⟨dst,.index t x i,ty,pos,after,guard⟩ h K=si (bH S.P t (dW S.gl E x) (dW S.gl E i)) h K:=dg S E dst ty pos after guard h K rfl
theorem CU(t:TypeId)(x i:Operand):wpOp S E ⟨dst,.indexAddr t x i,ty,pos,after,guard⟩ h K=si (ai S.P t (dW S.gl E x) (dW S.gl E i)) h K:=dg S E dst ty pos after guard h K rfl
theorem CT(t:TypeId)(x:Operand)(f:Nat):wpOp S E ⟨dst,.fieldAddr t x f,ty,pos,after,guard⟩ h K=si (af S.P t (dW S.gl E x) f) h K:=dg S E dst ty pos after guard h K rfl
theorem No(t:TypeId)(x:Operand)(f:Nat):wpOp S E ⟨dst,.field t x f,ty,pos,after,guard⟩ h K=si (Tg S.P t (dW S.gl E x) f) h K:=dg S E dst ty pos after guard h K rfl
theorem Wq(a:Array Operand)(b:Array TypeId):wpOp S E ⟨dst,.call ⟨.builtin .max,a,b⟩,ty,pos,after,guard⟩ h K=si (qm true (a.toList.map (dW S.gl E))) h K:=dg S E dst ty pos after guard h K rfl
theorem Ws(a:Array Operand)(b:Array TypeId):wpOp S E ⟨dst,.call ⟨.builtin .min,a,b⟩,ty,pos,after,guard⟩ h K=si (qm false (a.toList.map (dW S.gl E))) h K:=dg S E dst ty pos after guard h K rfl
theorem oC(o:Oper)(b:bu o=false)(c:aZ S.P (dW S.gl E) o=none)(a:aT S.P (dW S.gl E) o=none)(d:cL S.P fZ (dW S.gl E) o h=none):wpOp S E o h K=si (bj S.P (dW S.gl E) o h) h K:=by
 rw[fV S E h K b];unfold bo;rw[c];dsimp only
 cases bj S.P (dW S.gl E) o h with
 |some v=>rfl
 |none=>dsimp only;rw[a];dsimp only;rw[d];rfl
theorem RF(t:TypeId)(a:Operand):wpOp S E ⟨dst,.load t a,ty,pos,after,guard⟩ h K=si (ae S.P t h (dW S.gl E a)) h K:=oC S E h K _ rfl rfl rfl rfl
theorem Nq(t:TypeId)(x:Operand)(c b a:Option Operand):wpOp S E ⟨dst,.slice t x c b a,ty,pos,after,guard⟩ h K=si (bm S.P t (dW S.gl E x) (c.map (dW S.gl E)) (b.map (dW S.gl E)) (a.map (dW S.gl E)) h) h K:=oC S E h K _ rfl rfl rfl rfl
theorem Wp(x:Operand)(t:TypeId):wpOp S E ⟨dst,.call ⟨.builtin .len,#[x],#[t]⟩,ty,pos,after,guard⟩ h K=si (TJ S.P t (dW S.gl E x) h) h K:=oC S E h K _ rfl rfl rfl rfl
theorem CS(o:Oper)(b:bu o=false)(c:aZ S.P (dW S.gl E) o=none)(a:bj S.P (dW S.gl E) o h=none)(d:aT S.P (dW S.gl E) o=none):wpOp S E o h K=Hx (cL S.P fZ (dW S.gl E) o h) h K:=by grind[fV,bo]
theorem Kr(s x:Operand)(t t':TypeId):wpOp S E ⟨dst,.call ⟨.builtin .append,#[s,x],#[t,t']⟩,ty,pos,after,guard⟩ h K=Hx (aE S.P t t' (dW S.gl E s) (dW S.gl E x) h) h K:=rfl
theorem Ns(t:TypeId)(a x:Operand):wpOp S E ⟨dst,.store t a x,ty,pos,after,guard⟩ h K=Hx (aj S.P t (dW S.gl E a) (dW S.gl E x) h) h K:=rfl
def wpA(r:Option (bw×(Nat->Value)))(h:aa)(K:VH):Prop:=match r with
 |some (B,f)=>K (f h.next) (h.push B)
 |none=>False
theorem lh(o:Oper)(b:bu o=false)(c:aZ S.P (dW S.gl E) o=none)(a:bj S.P (dW S.gl E) o h=none)(d:cL S.P fZ (dW S.gl E) o h=none):wpOp S E o h K=wpA (aT S.P (dW S.gl E) o) h K:=by
 rw[fV S E h K b];unfold bo;rw[c];dsimp only;rw[a];dsimp only
 cases aT S.P (dW S.gl E) o with
 |some r=>rfl
 |none=>dsimp only;rw[d];rfl
end
section
variable (P:Program) (t:TypeId) (k:IntKind) (a b:Int)
theorem NF(c:b≠0):ay P .quo t (.int k a) (.int k b)=some (.int k (k.wrap (a.tdiv b))):=by grind[ay]
theorem WZ(c:b≠0):ay P .rem t (.int k a) (.int k b)=some (.int k (a.tmod b)):=by grind[ay]
variable (x y:ByteArray)
end
end
structure cq where
 i:Int
 o:Int
 w:List UInt8
 t:Int
structure eC where
 f:List UInt8
 an:List cq
structure aH where
 kind:Int
 start:Int
 lead:List UInt8
 ak:List eC
def dk(a:cq):List Value:=[.int .i64 a.i,.int .i64 a.o,strOf a.w,.int .i64 a.t]
def q0:cq:=⟨0,0,[],0⟩
def zV(z:Int):Value:= .int .i64 z
def Li:List Value->Option (List Int)
 |[]=>some []
 |.int .i64 z::r=>(Li r).map (z::·)
 |_::_=>none
def zk(l:List Int):List Int:=l.mergeSort λx y=>decide (x<=y)
noncomputable def Cu:lK:=λ_ e h=>match e with
 | [.slice a n c]=>if n=0 then some (.tuple ⟨[]⟩,h)else match a with
   |some ⟨b,d,none⟩=>(match h.get b with
    |some (.cells cs t f true)=>if n<4611686018427387904/\d+n<=cs.length then(Li ((cs.drop d).take n)).map λl=>(.tuple ⟨[]⟩,h.set b (.cells (cs.take d++(zk l).map zV++cs.drop (d+n)) t f true))else none
    |_=>none)
   |_=>none
 |_=>none
variable{b:Bool}{h:aa}{X:Sx}{T:TypeId}{v:Value}{c:List Value}{E:Fr}{n:Nat}{x:List Nat}{U:Array Oper}{Q:VH}{j:Nat}{y:List Nat}
noncomputable section
def aQ(b:Bool)(A B:Prop):Prop:=Bool.rec (motive:=λ_=>Prop) B A b
theorem ah{A B:Prop}(a:b=true->A)(c:b=false->B):aQ b A B:=by
 cases b with
 |true=>exact a rfl
 |false=>exact c rfl
theorem wv{A B:Prop}(h:aQ b A B):(b=true/\A)\/(b=false/\B):=by
 cases b with
 |true=>exact .inl ⟨rfl,h⟩
 |false=>exact .inr ⟨rfl,h⟩
abbrev TS:=List Value
abbrev eJ:=Exit->TS->aa->Prop
abbrev TH:=TS->aa->Prop
def fr(a:TS):Fr:=λt=>a.getD t undef
def NP(P:Program)(t:TypeId)(K:Value->Prop):Prop:=match P.underlying t with
 |some (.int k)=>∃n:Int,K (.int k n)
 |some .bool=>∃b:Bool,K (.bool b)
 |some .string=>∃l:List UInt8,K (strOf l)
 |some (.slice _)=>∃(a:Option Addr)(n c:Nat),K (.slice a n c)
 |some (.pointer _)=>∃a:Option Addr,K (.pointer a)
 |some (.struct _)=>∃cs:List Value,K (.agg ⟨cs⟩)
 |some (.array ..)=>∃cs:List Value,K (.agg ⟨cs⟩)
 |some (.func ..)=>∃(g:Nat)(a c:List Value),K (.func (.func g) ⟨a⟩ ⟨c⟩)
 |_=>∃v:Value,K v
def ab1(P:Program):List TypeId->(List Value->Prop)->Prop
 |[],K=>K []
 |t::b,K=>NP P t λx=>ab1 P b λa=>K (x::a)
def Iw(P:Program)(t:TypeId)(K:Value->Prop):Prop:=match P.underlying t with
 |some (.tuple b)=>ab1 P b.toList λa=>K (.tuple ⟨a⟩)
 |_=>NP P t K
theorem Bl{t:TypeId}{K:Value->Prop}(a:NP P t K):∃v,K v:=by grind[NP]
theorem E4{P:Program}:∀{b:List TypeId}{K:List Value->Prop},ab1 P b K->∃c,K c
 |[],_,a=>⟨_,a⟩
 |t::b,K,a=>by
  obtain⟨x,h⟩:=Bl a;obtain⟨d,h⟩:=E4 h
  grind
theorem oX{t:TypeId}{K:Value->Prop}(a:Iw P t K):∃v,K v:=by
 unfold Iw at a;split at a
 ·obtain⟨_,h⟩:=E4 a;grind
 ·exact Bl a
def Ix(P:Program)(t:TypeId)(r:Option Value)(h:aa)(K:VH):Prop:=Iw P t λx=>r=some x/\K x h
def exP(r:Option Value)(h:aa)(K:VH):Prop:=∃a:Addr,r=some (.pointer (some a))/\K (.pointer (some a)) h
def exU(r:Option (Value×aY))(h:aa)(K:VH):Prop:=∃v u,r=some (v,u)/\K v (u.app h)
def exW(r:Option (Value×aY))(h:aa)(K:VH):Prop:=∃u,r=some (undef,u)/\K undef (u.app h)
def exS(r:Option (Value×aY))(h:aa)(K:VH):Prop:=∃(a:Option Addr)(n c:Nat)(u:aY),r=some (.slice a n c,u)/\K (.slice a n c) (u.app h)
def exC(r:Option (Value×aY))(h:aa)(K:VH):Prop:=∃(n:Int)(u:aY),r=some (.int .i64 n,u)/\K (.int .i64 n) (u.app h)
def dX(k:Nat):Value:= .pointer (some ⟨k,0,none⟩)
def jc(n c k:Nat):Value:= .slice (some ⟨k,0,none⟩) n c
abbrev OA:Type:=Option Addr
abbrev LV:Type:=List Value
abbrev LB:Type:=List UInt8
abbrev uN(l:List Value)(k:Nat):List Value:=l++List.replicate k undef
abbrev pA(k:Nat):Value:= .pointer (some ⟨k,0,none⟩)
abbrev sA(k n c:Nat):Value:= .slice (some ⟨k,0,none⟩) n c
abbrev nA:Value:= .slice none 0 0
abbrev iA(n:Nat):Value:= .int .i64 (n:Int)
abbrev xI(k:IntKind)(r:Option Value)(K:Int->Prop):Prop:=∃n:Int,r=some (.int k n)/\K n
abbrev xB(r:Option Value)(K:Bool->Prop):Prop:=∃b:Bool,r=some (.bool b)/\K b
abbrev xS(r:Option Value)(K:List UInt8->Prop):Prop:=∃l:List UInt8,r=some (strOf l)/\K l
abbrev xL(r:Option Value)(K:Option Addr->Nat->Nat->Prop):Prop:=∃(a:Option Addr)(n c:Nat),r=some (.slice a n c)/\K a n c
abbrev xO(r:Option Value)(K:Option Addr->Prop):Prop:=∃a:Option Addr,r=some (.pointer a)/\K a
abbrev xP(r:Option Value)(K:Addr->Prop):Prop:=∃a:Addr,r=some (.pointer (some a))/\K a
abbrev xA(r:Option Value)(K:List Value->Prop):Prop:=∃cs:List Value,r=some (.agg ⟨cs⟩)/\K cs
abbrev xF(r:Option Value)(K:Nat->List Value->List Value->Prop):Prop:=∃(g:Nat)(a c:List Value),r=some (.func (.func g) ⟨a⟩ ⟨c⟩)/\K g a c
abbrev xV(r:Option Value)(K:Value->Prop):Prop:=∃v:Value,r=some v/\K v
abbrev yI(k:IntKind)(r:Value)(K:Int->Prop):Prop:=∃n:Int,r = .int k n/\K n
abbrev yB(r:Value)(K:Bool->Prop):Prop:=∃b:Bool,r = .bool b/\K b
abbrev yS(r:Value)(K:List UInt8->Prop):Prop:=∃l:List UInt8,r=strOf l/\K l
abbrev yL(r:Value)(K:Option Addr->Nat->Nat->Prop):Prop:=∃(a:Option Addr)(n c:Nat),r = .slice a n c/\K a n c
abbrev yA(r:Value)(K:List Value->Prop):Prop:=∃cs:List Value,r = .agg ⟨cs⟩/\K cs
abbrev yV(r:Value)(K:Value->Prop):Prop:=∃v:Value,r=v/\K v
abbrev xU(r:Option (Value×aY))(h:aa)(K:aY->aa->Prop):Prop:=∃u:aY,r=some (undef,u)/\K u (u.app h)
abbrev xE(r:Option (Value×aY))(h:aa)(K:Option Addr->Nat->Nat->aY->aa->Prop):Prop:=∃(a:Option Addr)(n c:Nat)(u:aY),r=some (.slice a n c,u)/\K a n c u (u.app h)
abbrev xC(r:Option (Value×aY))(h:aa)(K:Int->aY->aa->Prop):Prop:=∃(n:Int)(u:aY),r=some (.int .i64 n,u)/\K n u (u.app h)
abbrev xG(r:Option (Value×aY))(h:aa)(K:Value->aY->aa->Prop):Prop:=∃(v:Value)(u:aY),r=some (v,u)/\K v u (u.app h)
abbrev xN(r:Option (bw×(Nat->Value)))(h:aa)(K:bw->aa->Prop):Prop:=∃B:bw,r=some (B,dX)/\K B (h.push B)
abbrev xR(r:Option (bw×(Nat->Value)))(h:aa)(K:bw->Nat->Nat->aa->Prop):Prop:=∃(B:bw)(n c:Nat),r=some (B,jc n c)/\K B n c (h.push B)
abbrev zN(r:Option (bw×(Nat->Value)))(K:bw->Prop):Prop:=∃B:bw,r=some (B,dX)/\K B
abbrev zR(r:Option (bw×(Nat->Value)))(K:bw->Nat->Nat->Prop):Prop:=∃(B:bw)(n c:Nat),r=some (B,jc n c)/\K B n c
abbrev abd(h:aa)(K:aa->Prop):Prop:=K h
def exA(r:Option (bw×(Nat->Value)))(h:aa)(K:VH):Prop:=∃B,r=some (B,dX)/\K (dX h.next) (h.push B)
def exR(r:Option (bw×(Nat->Value)))(h:aa)(K:VH):Prop:=∃B n c,r=some (B,jc n c)/\K (jc n c h.next) (h.push B)
def exM(r:Option (bw×(Nat->Value)))(h:aa)(K:VH):Prop:=∃B,r=some (B,λk=> .map (some k))/\K (.map (some h.next)) (h.push B)
def aA(P:Program)(t:TypeId):Option (bw×(Nat->Value)):=aT P (λ_=>undef) ⟨none,.alloc t,0,"",#[],none⟩
def dK(P:Program)(t:TypeId)(v:Value):Option (bw×(Nat->Value)):=aT P (λ_=>v) ⟨none,.box t (.tmp 0),0,"",#[],none⟩
def aR(P:Program)(t:TypeId)(l c:Value):Option (bw×(Nat->Value)):=aT P (λx=>match x with|.tmp 0=>l|_=>c) ⟨none,.makeSlice t (.tmp 0) (.tmp 1),0,"",#[],none⟩
def az(P:Program)(t:TypeId)(b:Nat)(a:List (Nat×Value)):Option (bw×(Nat->Value)):=
 aT P (λx=>match x with|.tmp i=>(a.getD i (0,undef)).2|_=>undef) ⟨none,.buildSlice t b ((List.range a.length).map λi=>((a.getD i (0,undef)).1,.tmp i)).toArray,0,"",#[],none⟩
def Uy(c a b:Value)(h:aa)(K:VH):Prop:=match c with
 |.bool t=>aQ t (K a h) (K b h)
 |_=>False
def aaI(P:Program)(b:BinOp)(t a:TypeId)(x y:Value)(h:aa)(K:VH):Prop:=match b with
 |.quo|.rem|.shl|.shr=>Ix P a (ay P b t x y) h K
 |.add=>(match x with|.string _=>Ix P a (ay P .add t x y) h K|_=>si (ay P .add t x y) h K)
 |.eql=>(match x with|.pointer _=>Ix P a (ay P .eql t x y) h K|.agg _=>Ix P a (ay P .eql t x y) h K|_=>si (ay P .eql t x y) h K)
 |.neq=>(match x with|.pointer _=>Ix P a (ay P .neq t x y) h K|.agg _=>Ix P a (ay P .neq t x y) h K|_=>si (ay P .neq t x y) h K)
 |b=>si (ay P b t x y) h K
def SC(S:Sx)(c:TypeId)(f:Value)(b:List Value)(h:aa)(K:VH):Prop:=match f with
 |.func (.func g) first a=>aQ (Nat.blt g YB) (FW S g (first.toList++b++a.toList) h λv h=>Iw S.P c λx=>v=x/\K x h) False
 |.func (.yield k) ⟨[]⟩ ⟨[]⟩=>FW S (YB+k) b h λv h=>Iw S.P c λx=>v=x/\K x h
 |_=>False
def Vv(P:Program)(s d:TypeId)(x:Value)(h:aa):Option Value:=bj P (λ_=>x) ⟨none,.convert s d (.tmp 0),0,"",#[],none⟩ h
def aeD(t:Option TypeDesc):Bool:=match t with
 |some .unsafePointer=>true
 |_=>false
def gG(P:Program)(t:TypeId)(m k x:Value)(h:aa):Option (Value×aY):=match P.underlying t,m with
  |some (.map b _),.map (some r)=>match h.get r with
   |some (.map c)=>if kO P b k then(ju P b k x c).map λa=>(undef,.set r (.map a))else none
   |_=>none
  |_,_=>none
def jF(P:Program)(t:TypeId)(m k:Value)(a:Bool)(h:aa):Option Value:=bj P (λx=>match x with|.tmp 0=>m|_=>k) ⟨none,.lookup t (.tmp 0) (.tmp 1) a,0,"",#[],none⟩ h
def oj(P:Program)(t:TypeId):Option (bw×(Nat->Value)):=aT P (λ_=>undef) ⟨none,.makeMap t none,0,"",#[],none⟩
def opQ(S:Sx)(e:Operand->Value)(o:Oper)(h:aa)(K:VH):Prop:=match o.op with
 |.move x|.assign x=>K (e x) h
 |.pick c a b=>Uy (e c) (e a) (e b) h K
 |.binOp j t x y _=>aaI S.P j t o.type (e x) (e y) h K
 |.unOp j _ x=>si (E6 j (e x)) h K
 |.extract x i=>si (Z8 (e x) i) h K
 |.index t x i=>Ix S.P o.type (bH S.P t (e x) (e i)) h K
 |.indexAddr t x i=>exP (ai S.P t (e x) (e i)) h K
 |.fieldAddr t x f=>exP (af S.P t (e x) f) h K
 |.field t x f=>Ix S.P o.type (Tg S.P t (e x) f) h K
 |.load t a=>Ix S.P t (ae S.P t h (e a)) h K
 |.slice t x u q n=>Ix S.P o.type (bm S.P t (e x) (u.map e) (q.map e) (n.map e) h) h K
 |.store t a x=>exW (aj S.P t (e a) (e x) h) h K
 |.alloc t=>exA (aA S.P t) h K
 |.box t x=>exA (dK S.P t (e x)) h K
 |.makeSlice t l c=>exR (aR S.P t (e l) (e c)) h K
 |.buildSlice .. =>exR (aT S.P e o) h K
 |.makeMap t r=>exM (match r with|none=>oj S.P t|some _=>aT S.P e o) h K
 |.mapUpdate t m k x=>exW (gG S.P t (e m) (e k) (e x) h) h K
 |.insert t m k x=>exW (gG S.P t (e m) (e k) (e x) h) h K
 |.lookup t m k v=>Ix S.P o.type (jF S.P t (e m) (e k) v h) h K
 |.convert s d x=>(match aeD (S.P.underlying s)with|true=>exU (bo S.P fZ e o h) h K|false=>(match e x with|.int _ _=>si (eK S.P s d (e x)) h K|.slice _ _ _=>Ix S.P o.type (Vv S.P s d (e x) h) h K|_=>exU (bo S.P fZ e o h) h K))
 |.build t g=>Ix S.P o.type (aD S.P t (g.toList.map λp=>(p.1,e p.2))) h K
 |.makeFunc ..|.makeInterface ..|.nilCheck ..|.typeAssert .. =>si (aZ S.P e o) h K
 |.panic .. =>False
 |.call { callee:= .value f,args,.. }=>SC S o.type (e f) (args.toList.map e) h K
 |.call { callee:= .builtin .len,args,argTypes }=>(match args.toList,argTypes.toList with|[x],[t]=>(match e x with|.map _=>Ix S.P o.type (TJ S.P t (e x) h) h K|_=>si (TJ S.P t (e x) h) h K)|_,_=>False)
 |.call { callee:= .builtin .max,args,.. }=>Ix S.P o.type (qm true (args.toList.map e)) h K
 |.call { callee:= .builtin .min,args,.. }=>Ix S.P o.type (qm false (args.toList.map e)) h K
 |.call { callee:= .builtin .append,args,argTypes }=>(match args.toList,argTypes.toList with|[s,x],[t,t']=>exS (aE S.P t t' (e s) (e x) h) h K|_,_=>False)
 |.call { callee:= .builtin .copy,args,argTypes }=>(match args.toList,argTypes.toList with|[d,s],[t,_]=>exC (copyV S.P t (e d) (e s) h) h K|_,_=>False)
 |.call { callee:= .builtin _,.. }=>exU (bo S.P fZ e o h) h K
 |_=>exU (bo S.P fZ e o h) h K
theorem eX{t:TypeId}{r:Option Value}{K:VH}(a:Ix P t r h K):si r h K:=by
 obtain⟨v,b,c⟩:=oX a;rw[b];exact c
theorem CV{r:Option Value}{K:VH}(a:exP r h K):si r h K:=by
 obtain⟨v,b,c⟩:=a;rw[b];exact c
theorem pQ{r:Option (Value×aY)}{K:VH}(a:exU r h K):Hx r h K:=by
 obtain⟨v,u,b,c⟩:=a;rw[b];exact c
theorem ur{r:Option (Value×aY)}{K:VH}(a:exW r h K):Hx r h K:=by
 obtain⟨u,b,c⟩:=a;rw[b];exact c
theorem Nu{r:Option (Value×aY)}{K:VH}(b:exS r h K):Hx r h K:=by
 obtain⟨a,n,c,u,d,e⟩:=b;rw[d];exact e
theorem Nt{r:Option (Value×aY)}{K:VH}(a:exC r h K):Hx r h K:=by
 obtain⟨n,u,b,c⟩:=a;rw[b];exact c
theorem CM{r:Option (bw×(Nat->Value))}{K:VH}(a:exA r h K):wpA r h K:=by
 obtain⟨B,b,c⟩:=a;rw[b];exact c
theorem CO{r:Option (bw×(Nat->Value))}{K:VH}(a:exR r h K):wpA r h K:=by
 obtain⟨B,n,c,b,d⟩:=a;rw[b];exact d
theorem CN{r:Option (bw×(Nat->Value))}{K:VH}(a:exM r h K):wpA r h K:=by
 obtain⟨B,b,c⟩:=a;rw[b];exact c
theorem SD{K:VH}(a:SC X T v c h K):pP X v c h K:=by
 unfold SC at a;unfold pP;split at a
 ·rcases wv a with⟨d,a⟩|⟨_,a⟩
  ·refine⟨by simpa[blt_eq]using d,a.mono λe h a=>?_⟩;obtain⟨x,rfl,b⟩:=oX a;exact b
  ·exact a.elim
 ·exact⟨⟨rfl,rfl⟩,a.mono λe h a=>by
   obtain⟨x,rfl,b⟩:=oX a;exact b⟩
 grind
theorem Sr{a:BinOp}{t:TypeId}{x:Value}{K:VH}(b:aaI P a t T x v h K):si (ay P a t x v) h K:=by
 unfold aaI at b
 grind[eX]
theorem QN{c a b:Value}{K:VH}(d:Uy c a b h K):si (aak c a b) h K:=by
 unfold Uy at d;split at d
 ·next t=>
  rcases wv d with⟨rfl,e⟩|⟨rfl,e⟩<;>exact e
 grind
theorem r9{K:VH}(b:opQ X (dW X.gl E) q h K):wpOp X E q h K:=by
 obtain⟨o,G,p,l,g,f⟩:=q;unfold opQ at b;split at b
 ·next e=>subst e;exact b
 ·next e=>subst e;exact b
 ·next e=>subst e;rw[RH];exact QN b
 ·next e=>subst e;rw[Nn];exact Sr b
 ·next e=>subst e;rw[RI];exact b
 ·next e=>subst e;rw[Hq];exact b
 ·next e=>subst e;rw[Np];exact eX b
 ·next e=>subst e;rw[CU];exact CV b
 ·next e=>subst e;rw[CT];exact CV b
 ·next e=>subst e;rw[No];exact eX b
 ·next e=>subst e;rw[RF];exact eX b
 ·next e=>subst e;rw[Nq];exact eX b
 ·next e=>subst e;rw[Ns];exact ur b
 ·next e=>subst e;rw[lh _ _ _ _ _ rfl rfl rfl rfl];exact CM b
 ·next e=>subst e;rw[lh _ _ _ _ _ rfl rfl rfl rfl];exact CM b
 ·next e=>subst e;rw[lh _ _ _ _ _ rfl rfl rfl rfl];exact CO b
 ·next e=>subst e;rw[lh _ _ _ _ _ rfl rfl rfl rfl];exact CO b
 ·next t r e=>
  subst e;rw[lh _ _ _ _ _ rfl rfl rfl rfl]
  cases r with
  |none=>exact CN b
  |some x=>exact CN b
 ·next t m k x e=>
  subst e;rw[fV _ _ _ _ rfl];have y:bo X.P fZ (dW X.gl E) ⟨o,.mapUpdate t m k x,p,l,g,f⟩ h=gG X.P t (dW X.gl E m) (dW X.gl E k) (dW X.gl E x) h:=rfl;rw[y];exact ur b
 ·next t m k x e=>
  subst e;rw[fV _ _ _ _ rfl];have y:bo X.P fZ (dW X.gl E) ⟨o,.insert t m k x,p,l,g,f⟩ h=gG X.P t (dW X.gl E m) (dW X.gl E k) (dW X.gl E x) h:=rfl;rw[y];exact ur b
 ·next t m k C e=>
  subst e;have b:si (bj X.P (dW X.gl E) ⟨o,.lookup t m k C,p,l,g,f⟩ h) h K:=eX b;exact(oC X E h K ⟨o,.lookup t m k C,p,l,g,f⟩ rfl rfl rfl rfl)▸b
 ·next e=>
  subst e;rw[fV _ _ _ _ rfl];split at b
  ·exact pQ b
  split at b
  ·next k n z=>
   unfold bo;generalize A:aZ X.P (dW X.gl E) _=r
   cases r with
   |some v=>rw[show eK X.P _ _ _=some v from A]at b;exact b
   |none=>rw[show eK X.P _ _ _=none from A]at b;exact b.elim
  ·next a n c z=>
   obtain⟨v,u,w⟩:=oX b;have A:∀s d,eK X.P s d (.slice a n c)=none:=λs d=>by unfold eK;split<;>simp_all
   have D:∀s d x,dW X.gl E x = .slice a n c->aZ X.P (dW X.gl E) ⟨o,.convert s d x,p,l,g,f⟩=none:=λs d x z=>by
    show eK X.P s d (dW X.gl E x)=none;rw[z];exact A s d
   have F:∀s d x,bj X.P (dW X.gl E) ⟨o,.convert s d x,p,l,g,f⟩ h=Vv X.P s d (dW X.gl E x) h:=λs d x=>rfl;unfold bo;rw[D _ _ _ z];dsimp only;rw[F,u];exact w
  ·exact pQ b
 ·next e=>subst e;rw[dg _ _ _ _ _ _ _ _ _ rfl];exact eX b
 ·next e=>subst e;rw[dg _ _ _ _ _ _ _ _ _ rfl];exact b
 ·next e=>subst e;rw[dg _ _ _ _ _ _ _ _ _ rfl];exact b
 ·next e=>subst e;rw[dg _ _ _ _ _ _ _ _ _ rfl];exact b
 ·next e=>subst e;rw[dg _ _ _ _ _ _ _ _ _ rfl];exact b
 ·exact b.elim
 ·next e=>subst e;exact SD b
 ·next i j e=>
  subst e;split at b
  ·next x t u w=>
   obtain⟨i⟩:=i;obtain⟨j⟩:=j;obtain rfl:i=[x]:=u;obtain rfl:j=[t]:=w;have B:si (TJ X.P t (dW X.gl E x) h) h K:=by
    split at b
    ·exact eX b
    ·exact b
   exact(Wp X E o p l g f h K x t).symm▸B
  ·exact b.elim
 ·next e=>subst e;rw[Wq];exact eX b
 ·next e=>subst e;rw[Ws];exact eX b
 ·next i j e=>
  subst e;split at b
  ·next s x t t' u w=>
   obtain⟨i⟩:=i;obtain⟨j⟩:=j;obtain rfl:i=[s,x]:=u;obtain rfl:j=[t,t']:=w;exact(Kr X E o p l g f h K s x t t').symm▸Nu b
  ·exact b.elim
 ·next i j e=>
  subst e;split at b
  ·next s x t t' u w=>
   obtain⟨i⟩:=i;obtain⟨j⟩:=j;obtain rfl:i=[s,x]:=u;obtain rfl:j=[t,t']:=w;have y:wpOp X E ⟨o,.call ⟨.builtin .copy,#[s,x],#[t,t']⟩,p,l,g,f⟩ h K=Hx (copyV X.P t (dW X.gl E s) (dW X.gl E x) h) h K:=CS X E h K _ rfl rfl rfl rfl;exact y.symm▸Nt b
  ·exact b.elim
 ·next e=>subst e;rw[fV _ _ _ _ rfl];exact pQ b
 grind[fV,pQ,bu]
def Ra:TS->Nat->Value->(TS->Prop)->Prop
 |[],_,_,K=>K []
 |_::l,0,v,K=>K (v::l)
 |x::l,d+1,v,K=>Ra l d v λl=>K (x::l)
def Tq:TS->Nat->(Value->Prop)->Prop
 |[],_,K=>K undef
 |x::_,0,K=>K x
 |_::l,t+1,K=>Tq l t K
theorem An:∀(l:TS)(d:Nat)(v:Value)(K:TS->Prop),Ra l d v K=K (l.set d v)
 |[],_,_,_=>rfl
 |_::_,0,_,_=>rfl
 |x::l,d+1,v,K=>by rw[Ra,An l d v];rfl
theorem FX:∀(l:TS)(t:Nat)(K:Value->Prop),Tq l t K=K (l.getD t undef)
 |[],_,_=>rfl
 |_::_,0,_=>rfl
 |x::l,t+1,K=>by rw[Tq,FX l t];rfl
def GQ(a:TS)(b:Option Tmp)(v:Value)(K:TS->Prop):Prop:=match b with
 |some d=>Ra a d v K
 |none=>K a
theorem Aj(b:TS)(a:Option Tmp)(v:Value)(K:TS->Prop):GQ b a v K=K (eZ b a v):=by
 cases a with
 |none=>rfl
 |some d=>exact An _ _ _ _
def opT(S:Sx)(a:TS)(o:Oper)(h:aa)(K:VH):Prop:=match o.op with
 |.move (.tmp t)=>Tq a t λv=>K v h
 |.assign (.tmp t)=>Tq a t λv=>K v h
 |_=>opQ S (ev S.gl a) o h K
theorem Og{b:TS}{K:VH}(a:opT X b q h K):opQ X (ev X.gl b) q h K:=by
 unfold opT at a;split at a
 ·next t e=>rw[FX]at a;unfold opQ;rw[e];exact a
 ·next t e=>rw[FX]at a;unfold opQ;rw[e];exact a
 omega
def gS(f:Array Oper)(c:TS)(e:Option (Nat×Bool))(A B:TS->Prop):Prop:=match e with
 |none=>A c
 | some (j,a)=>match (f[j]?).bind (·.dst)with
  |some d=>match c.getD d undef with
   |.bool b=>aQ b (Ra c d (.bool true) (Bool.rec (motive:=λ_=>TS->Prop) B A a)) (Ra c d (.bool false) (Bool.rec (motive:=λ_=>TS->Prop) A B a))
   |.tuple _=>B c
   |_=>False
  |none=>False
def YO(S:Sx)(b:Array Oper):List Oper->TS->aa->TH->Prop
 |[],a,h,R=>R a h
 |o::l,a,h,R=>gS b a o.guard (λa=>opT S a o h λv h=>GQ a o.dst v λa=>YO S b l a h R) (λa=>GQ a o.dst undef λa=>YO S b l a h R)
def lift(b:Nat)(Q:TH):FH:=λE h=>∃a:TS,a.length=b/\E=fr a/\Q a h
def N4(a:Nat)(Q:eJ):C8:=λx=>lift a (Q x)
def Z5(v:Value)(A B:Prop):Prop:=match v with
 |.bool b=>aQ b A B
 |_=>False
def Nw(S:Sx)(a:Nat)(c:Code)(b:TS)(h:aa)(Q:eJ):Prop:=DL S a c (fr b) h (N4 a Q)
def aay(S:Sx)(a:Nat)(c:Code)(b:TS)(h:aa)(Q:eJ):Prop:=KR S a c (fr b) h (N4 a Q)
def adI(B:TH)(Q:eJ)(x:Exit)(a:TS)(h:aa):Prop:=match x with
 |.normal=>B a h
 |x=>Q x a h
def K3(c:Nat)(Q:eJ)(x:Exit)(b:TS)(h:aa):Prop:=match x with
 |.exit a=>(match Nat.beq a c with|true=>Q .normal b h|false=>Q (.exit a) b h)
 |x=>Q x b h
def room(h:aa)(n:Nat):aa:={ h with next:=h.next+n }
def LF:Op->Bool
 |.load ..|.slice ..|.lookup .. =>true
 |.call { callee:= .builtin .len,.. }=>true
 |_=>false
def ae7:Op->Bool
 |.store .. =>true
 |.call { callee:= .value _,.. }=>true
 |_=>false
def WW(a:Array Oper)(f:Op->Bool)(j:Nat):Bool:=match a[j]? with|some o=>f o.op|none=>false
def IV:Op->Bool
 |.alloc ..|.box ..|.makeSlice ..|.buildSlice .. =>true
 |_=>false
def BG:Op->Bool
 |.store .. =>true
 |.call { callee:= .value _,.. }=>true
 |.call { callee:= .builtin .append,.. }|.call { callee:= .builtin .copy,.. }|.call { callee:= .builtin .unsafeSliceData,.. }|.call { callee:= .builtin .unsafeString,.. }=>true
 |_=>false
def ifC(b:Bool)(A B:Prop):Prop:=Bool.rec (motive:=λ_=>Prop) B A b
def Ow(S:Sx)(o:Oper)(E:Fr)(v:Value)(h:aa)(K:Prop):Prop:=match o.op with
 |.load t a=>(ae S.P t h (dW S.gl E a)=some v/\cZ 4 v v=true)/\K
 |.slice t x d c b=>(bm S.P t (dW S.gl E x) (d.map (dW S.gl E)) (c.map (dW S.gl E)) (b.map (dW S.gl E)) h=some v/\cZ 4 v v=true)/\K
 |_=>(bj S.P (dW S.gl E) o h=some v/\cZ 4 v v=true)/\K
def sd(S:Sx)(b:Nat->Nat->Bool)(j:Nat)(o:Oper)(E:Fr)(v:Value):aa->List (Nat×aa)->Bool->Prop->Prop
 |h,[],a,K=>ifC a K (Ow S o E v h K)
 |h,(e,c)::r,a,K=>ifC ((a&&Nat.blt j e)||b j e) (ifC (b e j) K (sd S b j o E v c r (Nat.blt e j) K)) (Ow S o E v h (ifC (b e j) K (sd S b j o E v c r (Nat.blt e j) K)))
def xY(S:Sx)(a:Nat->Nat->Bool)(h:aa)(b:List (Nat×aa)):List Kw->Nat->Prop->Prop
 |[],_,K=>K
 |(E,o,.read v)::r,j,K=>sd S a j o E v h b true (xY S a h b r (j+1) K)
 |_::r,j,K=>xY S a h b r (j+1) K
def alQ(S:Sx)(a:Operand->Value)(o:Oper)(K:bw->(Nat->Value)->Prop):Prop:=match o.op with
 |.alloc t=>∃B,aA S.P t=some (B,dX)/\K B dX
 |.box t x=>∃B,dK S.P t (a x)=some (B,dX)/\K B dX
 |.makeSlice t l c=>∃B n d,aR S.P t (a l) (a c)=some (B,jc n d)/\K B (jc n d)
 |_=>∃B n d,aT S.P a o=some (B,jc n d)/\K B (jc n d)
def aaf{f:Type}(e:Op)(a b c d:f):f:=match lD e with
 |true=>a
 | false=>match LF e with
  |true=>b
  |false=>match IV e with
   |true=>c
   |false=>d
def wC(S:Sx)(g:Nat->Nat->Bool)(e:Array Oper)(b:Nat)(k:aa):List Oper->Nat->TS->aa->List (Nat×bw)->List Kw->TH->Prop
 |[],_,a,h,i,c,R=>xY S g k (nv c.reverse 0) c.reverse 0 (R a (av h b i))
 | o::l,j,a,h,i,c,R=>gS e a o.guard
   (λa=>aaf o.op
    (opT S a o h λv _=>GQ a o.dst v λd=>wC S g e b k l (j+1) d h i ((fr a,o,.pure v)::c) R)
    (opT S a o h λv _=>GQ a o.dst v λd=>wC S g e b k l (j+1) d h i ((fr a,o,.read v)::c) R)
    (alQ S (ev S.gl a) o λB f=>GQ a o.dst (f (b+j)) λd=>wC S g e b k l (j+1) d h ((j,B)::i) ((fr a,o,.alloc B (f (b+j)))::c) R)
    (opT S a o (av h b (i.filter λp=>g j p.1)) λv m=>GQ a o.dst v λd=>wC S g e b k l (j+1) d m (i.filter λp=> !g j p.1) ((fr a,o,.qc v m)::c) R))
   (λa=>GQ a o.dst undef λd=>wC S g e b k l (j+1) d h i ((fr a,o,.skip)::c) R)
def pI(a:Array Oper):Bool:= !tF a&&(a.toList.all λo=>lD o.op||LF o.op||IV o.op||BG o.op)&&(List.range a.size).all λe=> !WW a BG e||(List.range a.size).all λj=> !WW a BG j || !Nat.blt j e||cE (fi a) e j
def sJ(a:TS)(j:Nat):Value:=a.getD j undef
def zL:Nat->Nat->List (Nat×Value)->(Nat->Value)->TS
 |0,_,_,_=>[]
 |n+1,j,[],x=>x j::zL n (j+1) [] x
 |n+1,j,(i,v)::l,x=>match Nat.beq i j with
  |true=>v::zL n (j+1) l x
  |false=>x j::zL n (j+1) ((i,v)::l) x
theorem Gn:∀(n j:Nat)(l:List (Nat×Value))(x:Nat->Value),(∀p∈l,p.2=x p.1)->zL n j l x=(List.range' j n).map x
 |0,_,_,_,_=>by rfl
 |n+1,j,[],x,h=>by simp only[zL,List.range'_succ,List.map_cons];rw[Gn n (j+1) [] x h]
 | n+1,j,(i,v)::l,x,h=>by
  simp only[zL,List.range'_succ,List.map_cons]
  cases a:Nat.beq i j with
  |true=>
   dsimp only;rw[Gn n (j+1) l x λp b=>h p (List.mem_cons_of_mem _ b),<-Nat.eq_of_beq_eq_true a]
   simp_all
  |false=>
   dsimp only;rw[Gn n (j+1) ((i,v)::l) x h]
theorem Af:∀(n j:Nat)(l:List (Nat×Value))(x:Nat->Value),(zL n j l x).length=n
 |0,_,_,_=>by rfl
 |n+1,j,[],x=>by simp only[zL,length_cons];rw[Af n (j+1) [] x]
 |n+1,j,(i,v)::l,x=>by
  simp only[zL]
  cases a:Nat.beq i j with
  |true=>dsimp only;rw[length_cons,Af n (j+1) l x]
  |false=>dsimp only;rw[length_cons,Af n (j+1) ((i,v)::l) x]
theorem Ku(f:Nat->Value):∀(M:List Nat),∀p∈M.zip (M.map f),p.2=f p.1
 |[],p,h=>by simp at h
 |a::M,p,h=>by
  rw[List.map_cons,List.zip_cons_cons]at h;rcases mem_cons.1 h with rfl|h
  ·rfl
  ·exact Ku f M p h
theorem I8{a:TS}(b:a.length=n)(M:List Nat):zL n 0 (M.zip (M.map (sJ a))) (sJ a)=a:=by
 rw[Gn _ _ _ _ (Ku _ M)];refine List.ext_getElem? λi=>?_
 grind[sJ]
def ZP(S:Sx)(a:Nat)(M:List Nat)(c:Code)(w:List Value)(h:aa)(Q:eJ):Prop:=∀x:Nat->Value,Nw S a c (zL a 0 (M.zip w) x) h Q
def TP(S:Sx)(b:Nat)(M:List Nat)(c:Code)(a:TS)(h:aa)(Q:eJ):Prop:=match Nat.beq a.length b with
 |true=>ZP S b M c (M.map (sJ a)) h Q
 |false=>Nw S b c a h Q
theorem LN{c:Code}{a:TS}{Q:eJ}(d:a.length=n)(b:TP X n x c a h Q):Nw X n c a h Q:=by
 unfold TP at b;rw[d,Nat.beq_refl]at b;have:=b (sJ a)
 grind[I8]
structure FD where
 nm:Nat
 body:Code
 rs:List ResultVar
 ms:List (List Nat×List Nat)
def ei(a:Func)(b:List (List Nat×List Nat)):FD:=⟨a.ntmps,a.body.getD .skip,a.results.toList,b⟩
def acW:List Nat->List Nat->Bool
 |[],[]=>true
 |a::x,b::y=>(match Nat.beq a b with
  |true=>acW x y
  |false=>false)
 |_,_=>false
def xD:List (List Nat×List Nat)->List Nat->List Nat
 |[],_=>[]
 |(q,m)::r,p=>match acW q p with
  |true=>m
  |false=>xD r p
def wpS(S:Sx)(g:Nat)(M:List (List Nat×List Nat))(p:List Nat):Code->TS->aa->eJ->Prop
 |.skip,d,h,Q=>Q .normal d h
 | .region _ e j,d,h,Q=>(match j with
  |false=>YO S e e.toList d h λd h=>Q .normal d h
  |true=>(match pI e with
   |true=>wC S (cE (fi e)) e h.next (room h e.size) e.toList 0 d (room h e.size) [] [] λd h=>Q .normal d h
   |false=>wpD S g e (fr d) h (lift g λd h=>Q .normal d h)))
 |.seq a b,d,h,Q=>wpS S g M (0::p) a d h (adI (λd h=>wpS S g M (1::p) b d h Q) Q)
 |.cond c a b,d,h,Q=>Z5 (ev S.gl d c) (wpS S g M (0::p) a d h Q) (wpS S g M (1::p) b d h Q)
 |.block i c,d,h,Q=>wpS S g M (0::p) c d h (K3 i Q)
 |.loop c,d,h,Q=>TP S g (xD M (0::p).reverse) c d h Q
 |.exit i,d,h,Q=>Q (.exit i) d h
 |.ret,d,h,Q=>Q .ret d h
 |.label _,d,h,Q=>Q .normal d h
 |.rangeFunc f k a b,d,h,Q=>aay S g (.rangeFunc f k a b) d h Q
 |_,_,_,_=>False
end
theorem ac0{a:TS}(h:a.length=n):ER n (fr a) a:=⟨h,λ_=>rfl⟩
theorem Ei{b:TS}(a:Nat->Bool):dW a (fr b)=ev a b:=rfl
theorem FU{b:TS}(h:b.length=n){a:Option Tmp}(c:vi n a=true)(v:Value):sF (fr b) a v=fr (eZ b a v):=by
 funext t;exact((ac0 h).put c v).2 t |>.symm
theorem yO{a:TS}(h:a.getD n undef=v):a.set n v=a:=by
 refine List.ext_getElem? λi=>?_
 grind
theorem IL{h:TS}{c:Option (Nat×Bool)}{A B:TS->Prop}{k m:Unit->Prop}(n:A h->k ())(l:B h->m ())(a:gS U h c A B):wpG (CK U (fr h) c) k m:=by
 cases c with
 |none=>exact n a
 | some g=>
  obtain⟨j,e⟩:=g;unfold gS at a;rw[Nl];dsimp only at a
  cases o:(U[j]?).bind (·.dst)with
  |none=>grind
  | some d=>
   rw[o]at a;dsimp only at a⊢;show wpG (match h.getD d undef with|.bool b=>some (b==e)|.tuple _=>some false|_=>none) k m
   cases i:h.getD d undef with
   | bool b=>
    rw[i]at a;dsimp only at a⊢;rcases wv a with⟨rfl,f⟩|⟨rfl,f⟩
    ·rw[An,yO i]at f
     cases e
     ·exact l f
     ·exact n f
    ·rw[An,yO i]at f
     cases e
     ·exact n f
     ·exact l f
   |tuple p=>rw[i]at a;exact l a
   |_=>rw[i]at a;exact a.elim
theorem Ks{r:Option (Value×aY)}{K:VH}(b:∀v h,K v h->Q v h)(a:Hx r h K):Hx r h Q:=by
 cases r with
 |none=>exact a
 |some p=>obtain⟨v,u⟩:=p;exact b _ _ a
theorem zs{K:VH}(b:∀d h,K d h->Q d h)(a:pP X v c h K):pP X v c h Q:=by
 unfold pP at a⊢;split at a
 ·exact⟨a.1,a.2.mono b⟩
 ·exact⟨a.1,a.2.mono b⟩
 omega
theorem RG{K:VH}(b:∀v h,K v h->Q v h)(a:wpOp X E q h K):wpOp X E q h Q:=by grind[zs,Ks,wpOp]
theorem tY{S:Sx}{g:Nat}{c:Array Oper}{R:TH}{d:FH}(i:∀b h,b.length=g->R b h->d (fr b) h):∀(l:List Oper){b:TS}{h:aa},b.length=g->(l.all λo=>vi g o.dst)=true->YO S c l b h R->WE S c l (fr b) h d
 |[],_,_,f,_,a=>i _ _ f a
 |o::l,b,h,f,e,a=>by
  simp only[all_cons,and_eq_true]at e;rw[Wo];refine IL (λa=>?_) (λa=>?_) a
  ·show wpOp S (fr b) o h (opK S c o.dst l (fr b) d);have a:=Og a;rw[<-Ei]at a;refine RG (λv h a=>?_) (r9 a);show WE S c l (sF (fr b) o.dst v) h d;rw[FU f e.1];rw[Aj]at a;exact tY i l (by grind[iU]) e.2 a
  ·show WE S c l (sF (fr b) o.dst undef) h d;rw[FU f e.1];rw[Aj]at a;exact tY i l (by grind[iU]) e.2 a
theorem CR{K:VH}(b:∀v h,K v h->Q v h)(a:CQ X E q h K):CQ X E q h Q:=by grind[zs,Ks,CQ]
theorem Wn{r:Option Bool}{A B a b:Unit->Prop}(e:A ()->a ())(c:B ()->b ())(d:wpG r A B):wpG r a b:=by
 rcases Ho d with⟨rfl,h⟩|⟨rfl,h⟩
 ·exact e h
 ·exact c h
theorem mh{S:Sx}{m:Nat->Nat->Bool}{i:Array Oper}{d:Nat}{n:aa}{R q:FH}(c:∀E h,R E h->q E h):∀(l:List Oper)(j:Nat)(E:Fr)(h:aa)(k:List (Nat×bw))(b:List Kw),wE S m i d n l j E h k b R->wE S m i d n l j E h k b q
 |[],_,_,_,_,_,a=>⟨a.1,c _ _ a.2⟩
 | o::l,j,E,h,k,b,a=>by
  simp only[wE]at a⊢;refine Wn (λa=>?_) (λa=>mh c l _ _ _ _ _ a) a
  cases r:aZ S.P (dW S.gl E) o with
  |some v=>rw[r]at a;exact mh c l _ _ _ _ _ a
  | none=>
   rw[r]at a;dsimp only at a⊢
   cases g:bj S.P (dW S.gl E) o h with
   |some v=>rw[g]at a;exact mh c l _ _ _ _ _ a
   | none=>
    rw[g]at a;dsimp only at a⊢
    cases e:aT S.P (dW S.gl E) o with
    |some p=>obtain⟨B,f⟩:=p;rw[e]at a;exact mh c l _ _ _ _ _ a
    |none=>
     rw[e]at a;dsimp only at a⊢;exact CR (λv s a=>mh c l _ _ _ _ _ a) a
theorem Wm{R g:FH}(f:∀E h,R E h->g E h)(i:wpD X n U E h R):wpD X n U E h g:=i.imp (λa=>⟨a.1,mh f _ _ _ _ _ _ a.2⟩) λ⟨a,d,j,b,c,e⟩=>⟨a,d,j,b,c,f _ _ e⟩
theorem aaG{f:Op->Bool}(h:WW U f j=true):j<U.size:=by grind[WW]
theorem BC{A B:Prop}(h:ifC b A B):(b=true/\A)\/(b=false/\B):=by
 cases b with
 |true=>exact .inl ⟨rfl,h⟩
 |false=>exact .inr ⟨rfl,h⟩
theorem rq{K:Prop}(a:Ow X q E v h K):EP X q E v h=true/\K:=by
 obtain⟨f,i,g,d,c,b⟩:=q;have j:(bj X.P (dW X.gl E) ⟨f,i,g,d,c,b⟩ h=some v/\cZ 4 v v=true)/\K:=by
  unfold Ow at a;split at a
  ·next e=>subst e;exact a
  ·next e=>subst e;exact a
  ·exact a
 grind[EP]
theorem ti{S:Sx}{b:Nat->Nat->Bool}{j:Nat}{o:Oper}{E:Fr}{v:Value}{K:Prop}:∀{i:List (Nat×aa)}{h:aa}{a:Bool},sd S b j o E v h i a K->nF S b j o E v h i a=true/\K
 |[],h,a,c=>by
  rcases BC c with⟨rfl,f⟩|⟨rfl,f⟩
  ·exact⟨rfl,f⟩
  ·exact⟨(rq f).1,(rq f).2⟩
 | (e,k)::r,h,a,c=>by
  have n:∀{l:Prop},ifC (b e j) K (sd S b j o E v k r (Nat.blt e j) K)->((b e j||nF S b j o E v k r (Nat.blt e j))=true)/\K:=λc=>by
   rcases BC c with⟨g,d⟩|⟨g,d⟩
   ·grind
   ·have:=ti d
    grind
  have c:ifC ((a&&Nat.blt j e)||b j e) _ _:=c;simp only[nF,and_eq_true];rcases BC c with⟨g,d⟩|⟨g,d⟩
  ·simp_all
  ·obtain⟨m,p⟩:=rq d
   simp_all
theorem pz{S:Sx}{a:Nat->Nat->Bool}{h:aa}{c:List (Nat×aa)}{K:Prop}:∀{l:List Kw}{j:Nat},xY S a h c l j K->ud S a h c l j=true/\K
 |[],_,b=>⟨rfl,b⟩
 | (E,o,e)::r,j,b=>by
  cases e with
  |read v=>
   have d:=ti (show sd S a j o E v h c true (xY S a h c r (j+1) K)from b);have f:=pz d.2
   grind[ud]
  |_=>exact pz (l:=r) b
def DH(a:Array Oper)(i:Nat)(l:List Kw):Prop:=∀k r,l[k]?=some r->∀v g,r.2.2 = .qc v g->WW a BG (i+k)=true
theorem tL{a:Array Oper}:∀{l:List Kw}{i:Nat},DH a i l->∀p∈nv l i,WW a BG p.1=true/\i<=p.1
 |[],_,_=>by simp[nv]
 | r::l,i,d=>by
  have b:DH a (i+1) l:=λk r h=>by
   have:=d (k+1) r (by simpa using h)
   grind
  obtain⟨E,o,e⟩:=r;intro p c;have f:p∈nv l (i+1)->WW a BG p.1=true/\i<=p.1:=λh=>⟨(tL b p h).1,by have:=(tL b p h).2;omega⟩
  cases e with
  |qc v g=>
   rcases mem_cons.1 c with rfl|c
   ·exact⟨d 0 _ rfl v g rfl,Nat.le_refl _⟩
   grind
  |_=>exact f c
theorem rC{a:Array Oper}(c:pI a=true):∀{l:List Kw}{i:Nat},DH a i l->chained (cE (fi a)) (nv l i)=true
 |[],_,_=>rfl
 | r::l,i,t=>by
  have d:DH a (i+1) l:=λk r h=>by
   have:=t (k+1) r (by simpa using h)
   grind
  obtain⟨E,o,e⟩:=r;have f:=rC c d
  cases e with
  | qc v g=>
   show chained (cE (fi a)) ((i,g)::nv l (i+1))=true;have b:=tL d
   cases s:nv l (i+1)with
   |nil=>rfl
   |cons p u=>
    obtain⟨j,m⟩:=p;rw[s]at f b;show(cE (fi a) j i&&chained (cE (fi a)) ((j,m)::u))=true;rw[f,Bool.and_true];have w:=t 0 _ rfl v g rfl;have q:=b (j,m) (mem_cons_self ..);unfold pI at c;simp only[and_eq_true]at c;have n:=all_eq_true.1 c.2 j (mem_range.2 (aaG q.1));rw[q.1]at n;simp only[Bool.not_true,Bool.false_or]at n
    grind[blt_eq,WW]
  |_=>exact f
theorem O3(l:IV q.op=true){K:bw->(Nat->Value)->Prop}(a:alQ X r q K):∃B f,aT X.P r q=some (B,f)/\K B f:=by
 obtain⟨j,m,k,i,h,g⟩:=q;unfold alQ at a;split at a
 ·next e=>subst e;obtain⟨B,b,c⟩:=a;exact⟨B,_,b,c⟩
 ·next e=>subst e;obtain⟨B,b,c⟩:=a;exact⟨B,_,b,c⟩
 ·next e=>subst e;obtain⟨B,n,d,b,c⟩:=a;exact⟨B,_,b,c⟩
 grind
theorem yu{S:Sx}{nm:Nat}{y:Array Oper}(Q:pI y=true){D:Nat}{T:aa}{R:TH}{R':FH}(hR:∀s h,s.length=nm->R s h->R' (fr s) h):∀(l:List Oper)(j:Nat)(s:TS)(h:aa)(N:List (Nat×bw))(q:List Kw),s.length=nm->(l.all λo=>vi nm o.dst)=true->y.toList.drop j=l->q.length=j->DH y 0 q.reverse->wC S (cE (fi y)) y D T l j s h N q R->wE S (cE (fi y)) y D T l j (fr s) h N q R'
 |[],j,s,h,N,q,W,_,_,_,hr,n=>by
  have h1:=pz (show xY S (cE (fi y)) T (nv q.reverse 0) q.reverse 0 (R s (av h D N))from n);refine⟨?_,hR _ _ W h1.2⟩
  grind[rC,ve]
 | o::l,j,s,h,N,q,W,V,Y,x4,hr,n=>by
  have ho:y[j]?=some o:=by
   have:(y.toList.drop j)[0]?=some o:=by rw[Y];rfl
   rw[List.getElem?_drop]at this;rw[<-getElem?_toList];simpa using this
  have O:y.toList.drop (j+1)=l:=by rw[<-List.drop_drop,Y];rfl
  simp only[all_cons,and_eq_true]at V;have J:∀e,(∀v g,e=lz.qc v g->BG o.op=true)->DH y 0 ((fr s,o,e)::q).reverse:=by
   intro e X k r I;rw[List.reverse_cons]at I;rcases lt_or_ge k q.reverse.length with Z|Z
   ·rw[List.getElem?_append_left Z]at I;exact hr k r I
   ·rw[List.getElem?_append_right Z]at I;have x2:k-q.reverse.length=0:=by
     rcases Nat.eq_zero_or_pos (k-q.reverse.length)with h4|h4
     ·exact h4
     ·rw[getElem?_eq_none (by simp only[length_cons,length_nil];omega)]at I;cases I
    rw[x2]at I;obtain rfl:=oI I
    grind[WW]
  simp only[wE];refine IL (λn=>?_) (λn=>?_) n
  ·have go:∀v e g P,(∀v g,e=lz.qc v g->BG o.op=true)->GQ s o.dst v (λx1=>wC S (cE (fi y)) y D T l (j+1) x1 g P ((fr s,o,e)::q) R)->wE S (cE (fi y)) y D T l (j+1) (sF (fr s) o.dst v) g P ((fr s,o,e)::q) R':=by
    intro v e g P X n;rw[Aj]at n;rw[FU W V.1];exact yu Q hR l (j+1) _ g _ _ (by grind[iU]) V.2 O (by grind) (J e X) n
   have G:(lD o.op||LF o.op||IV o.op||BG o.op)=true:=by
    have hc:=Q;unfold pI at hc;simp only[and_eq_true]at hc;exact all_eq_true.1 hc.1.2 o (List.mem_of_mem_drop (i:=j) (by grind))
   obtain⟨z,u,A,w,m,d⟩:=o;unfold aaf at n
   cases C:lD u with
   |true=>
    rw[show lD (Oper.mk z u A w m d).op=true from C]at n;have n:=r9 (E:=fr s) (by rw[Ei];exact Og n)
    grind[dg,si]
   |false=>
   rw[show lD (Oper.mk z u A w m d).op=false from C]at n;dsimp only at n
   cases L:LF u with
   | true=>
    rw[show LF (Oper.mk z u A w m d).op=true from L]at n;have n:=r9 (E:=fr s) (by rw[Ei];exact Og n);have M:aZ S.P (dW S.gl (fr s)) ⟨z,u,A,w,m,d⟩=none/\bu ⟨z,u,A,w,m,d⟩=false/\aT S.P (dW S.gl (fr s)) ⟨z,u,A,w,m,d⟩=none/\cL S.P fZ (dW S.gl (fr s)) ⟨z,u,A,w,m,d⟩ h=none:=by
     clear n J go G C ho;revert L
     cases u with
     |load=>intro _;exact⟨rfl,rfl,rfl,rfl⟩
     |slice=>intro _;exact⟨rfl,rfl,rfl,rfl⟩
     |lookup=>intro _;exact⟨rfl,rfl,rfl,rfl⟩
     |call c=>
      obtain⟨H,x0,x3⟩:=c
      cases H with
      |builtin b=>cases b<;>intro C<;>first|exact⟨rfl,rfl,rfl,rfl⟩|cases C
      |_=>intro C;cases C
     |_=>intro C;cases C
    grind[oC,si]
   |false=>
   rw[show LF (Oper.mk z u A w m d).op=false from L]at n;dsimp only at n
   cases F:IV u with
   | true=>
    rw[show IV (Oper.mk z u A w m d).op=true from F]at n;rw[<-Ei]at n;obtain⟨B,f,h1,X⟩:=O3 F n;have M:aZ S.P (dW S.gl (fr s)) ⟨z,u,A,w,m,d⟩=none/\bj S.P (dW S.gl (fr s)) ⟨z,u,A,w,m,d⟩ h=none:=by
     clear n J go G C ho h1 X L;revert F
     cases u<;>intro F<;>first|exact⟨rfl,rfl⟩|cases F
    grind
   |false=>
   rw[show IV (Oper.mk z u A w m d).op=false from F]at n;dsimp only at n;have U:BG u=true:=by
    have I:(lD u||LF u||IV u||BG u)=true:=G;rw[C,L,F]at I;exact I
   have n:=r9 (E:=fr s) (by rw[Ei];exact Og n);generalize av h D (N.filter λp=>cE (fi y) j p.1)=hs at n⊢;have M:(∀h,aZ S.P (dW S.gl (fr s)) ⟨z,u,A,w,m,d⟩=none/\bj S.P (dW S.gl (fr s)) ⟨z,u,A,w,m,d⟩ h=none/\aT S.P (dW S.gl (fr s)) ⟨z,u,A,w,m,d⟩=none)/\
     ∀K:VH,wpOp S (fr s) ⟨z,u,A,w,m,d⟩ hs K->CQ S (fr s) ⟨z,u,A,w,m,d⟩ hs K:=by
    clear n J go G C ho L F;revert U
    cases u with
    |store t a x=>intro _;exact⟨λ_=>⟨rfl,rfl,rfl⟩,λK n=>by rw[CS _ _ _ _ _ rfl rfl rfl rfl]at n;exact n⟩
    |call c=>
     obtain⟨H,x0,x3⟩:=c
     cases H with
     |value f=>intro _;exact⟨λ_=>⟨rfl,rfl,rfl⟩,λK n=>n⟩
     |builtin b=>cases b<;>intro U<;>first|exact⟨λ_=>⟨rfl,rfl,rfl⟩,λK n=>by rw[CS _ _ _ _ _ rfl rfl rfl rfl]at n;exact n⟩|cases U
     |_=>intro C;cases C
    |_=>intro C;cases C
   rw[(M.1 h).1];dsimp only;rw[(M.1 h).2.1];dsimp only;rw[(M.1 h).2.2]
   grind[CR]
  ·rw[Aj]at n;rw[FU W V.1];exact yu Q hR l (j+1) _ h _ _ (by grind[iU]) V.2 O (by grind) (J .skip (by simp)) n
theorem jY{S:Sx}{m:Nat}{M:List (List Nat×List Nat)}:∀(c:Code){p:List Nat}{e:TS}{h:aa}{Q:eJ}{Q':C8},e.length=m->gz m c=true->(∀x e h,e.length=m->Q x e h->Q' x (fr e) h)->wpS S m M p c e h Q->Wj S m c (fr e) h Q'
 |.skip,_,_,_,_,_,g,_,i,d=>i _ _ _ g d
 |.exit _,_,_,_,_,_,g,_,i,d=>i _ _ _ g d
 |.ret,_,_,_,_,_,g,_,i,d=>i _ _ _ g d
 |.label _,_,_,_,_,_,g,_,i,d=>i _ _ _ g d
 | .region _ j w,p,e,h,Q,Q',g,l,i,d=>by
  cases w with
  |false=>exact tY (λe h g d=>i _ _ _ g d) j.toList g l d
  | true=>
   cases o:pI j with
   |true=>
    have d:(match pI j with|true=>wC S (cE (fi j)) j h.next (room h j.size) j.toList 0 e (room h j.size) [] [] λe h=>Q .normal e h|false=>_):=d;rw[o]at d;refine .inl ⟨?_,yu o (λe h g d=>i _ _ _ g d) j.toList 0 e _ [] [] g l rfl rfl (λk r h=>by simp at h) d⟩
    simp_all[pI]
   |false=>
   have d:(match pI j with|true=>_|false=>wpD S m j (fr e) h (lift m λe h=>Q .normal e h)):=d;rw[o]at d;refine Wm (λE h d=>?_) (show wpD S m j (fr e) h (lift m λe h=>Q .normal e h)from d);obtain⟨u,n,rfl,s⟩:=d
   grind
 |.seq a b,p,e,h,Q,Q',g,l,i,d=>by
  simp only[gz,and_eq_true]at l;refine jY a g l.1 (λx e h g d=>?_) d
  cases x with
  |normal=>exact jY b g l.2 i d
  |_=>exact i _ _ _ g d
 | .cond c a b,p,e,h,Q,Q',g,l,i,d=>by
  simp only[gz,and_eq_true]at l;rw[Wk,Ei];simp only[wpS]at d;unfold Z5 at d;split at d
  ·next t C=>
   rw[C];rcases wv d with⟨rfl,n⟩|⟨rfl,n⟩
   ·exact jY a g l.1 i n
   ·exact jY b g l.2 i n
  grind
 | .block A c,p,e,h,Q,Q',g,l,i,d=>by
  refine jY c g l (λx e h g d=>?_) d
  cases x with
  | exit q=>
   show if q=A then Q' .normal (fr e) h else Q' (.exit q) (fr e) h;simp only[K3]at d
   cases z:Nat.beq q A with
   |true=>simp_all
   |false=>
    rw[z]at d;rw[if_neg (Nat.ne_of_beq_eq_false z)];grind
  |_=>exact i _ _ _ g d
 |.loop c,p,e,h,Q,Q',g,l,i,d=>by
  obtain⟨x,v,y,n,s⟩:=(show DL S m c (fr e) h (N4 m Q)from LN g d)
  refine⟨x,v,y,n,?_⟩;obtain⟨u,B,rfl,D⟩:=s
  grind
 |.rangeFunc f F a b,p,e,h,Q,Q',g,l,i,d=>by
  obtain⟨x,v,y,n,s⟩:=(show KR S m (.rangeFunc f F a b) (fr e) h (N4 m Q)from d)
  refine⟨x,v,y,n,?_⟩;obtain⟨u,B,rfl,D⟩:=s
  grind
 |.scope _,_,_,_,_,_,_,_,_,d=>d.elim
 |.goto _,_,_,_,_,_,_,_,_,d=>d.elim
 |.refuse _,_,_,_,_,_,_,_,_,d=>d.elim
def ael(I:Nat->TH)(n:Nat)(a:TS)(h:aa):Prop:=∃m,m<n/\I m a h
def abF(I:Nat->TH)(n:Nat)(Q:eJ)(x:Exit)(a:TS)(h:aa):Prop:=match x with
 |.normal=>ael I n a h
 |x=>Q x a h
def Oo:Code->Nat->Oper
 |.region _ a _,i=>a.toList.getD i ⟨none,.nilCheck (.tmp 0),0,"",#[],none⟩
 |_,_=>⟨none,.nilCheck (.tmp 0),0,"",#[],none⟩
def jD:List Nat->Code->Code
 |[],c=>c
 |0::p,.seq a _=>jD p a
 |_::p,.seq _ b=>jD p b
 |0::p,.cond _ a _=>jD p a
 |_::p,.cond _ _ b=>jD p b
 |_::p,.block _ a=>jD p a
 |_::p,.loop a=>jD p a
 |0::p,.rangeFunc _ _ a _=>jD p a
 |_::p,.rangeFunc _ _ _ b=>jD p b
 |_,_=> .skip
theorem LM{M:List (List Nat×List Nat)}{p:List Nat}{c:Code}{Q:eJ}(g:gz n c=true)(I:Nat->TH)(j:∀d a h,a.length=n->I d a h->wpS X n M p c a h (abF I d Q)):∀d a h,a.length=n->I d a h->Nw X n c a h Q:=by
 intro d
 induction d using Nat.strongRecOn with
 | _ d k=>
  intro a h b l;refine TQ g (jY c b g (λx a h b f=>?_) (j d a h b l))
  cases x with
  |normal=>
   obtain⟨m,i,e⟩:=f;exact k m i a h b e
  |_=>exact⟨a,b,rfl,f⟩
def aJ(A:Nat->List Value->aa->Prop)(n:Nat)(w:List Value)(h:aa):Prop:=∃m,m<n/\A m w h
def abE(M:List Nat)(A:Nat->List Value->aa->Prop)(n:Nat)(Q:eJ)(x:Exit)(a:TS)(h:aa):Prop:=match x with
 |.normal=>aJ A n (M.map (sJ a)) h
 |x=>Q x a h
theorem ax{A B:Prop}(h:A)(e:A=B:=by kernel_rfl):B:=cast e h
def kAt(S:Sx)(c:Nat)(M:List (List Nat×List Nat)):List Nat->List Nat->Code->eJ->eJ
 |_,[],_,K=>K
 |p,0::q,.seq a b,K=>kAt S c M (0::p) q a (adI (λe h=>wpS S c M (1::p) b e h K) K)
 |p,_::q,.seq _ b,K=>kAt S c M (1::p) q b K
 |p,0::q,.cond _ a _,K=>kAt S c M (0::p) q a K
 |p,_::q,.cond _ _ b,K=>kAt S c M (1::p) q b K
 |p,_::q,.block d a,K=>kAt S c M (0::p) q a (K3 d K)
 |_,_,_,K=>K
def LL(S:Sx)(X:FD)(p:List Nat)(w:List Value)(h:aa)(Q:eJ):Prop:=ZP S X.nm (xD X.ms p) (jD p X.body) w h Q
def TT(S:Sx)(X:FD)(p:List Nat)(a:TS)(h:aa)(Q:eJ):Prop:=wpS S X.nm X.ms p.reverse (jD p X.body) a h Q
def KK(S:Sx)(X:FD)(q p:List Nat)(K:eJ):eJ:=kAt S X.nm X.ms p.reverse q (jD p X.body) K
def RR(X:FD)(p:List Nat)(A:Nat->List Value->aa->Prop)(n:Nat)(Q:eJ):eJ:=abE (xD X.ms p) A n Q
theorem EM{a:FD}{K:eJ}(A:Nat->List Value->aa->Prop)(e:gz a.nm (jD y a.body)=true)
  (step:∀n w (x:Nat->Value) h,A n w h->TT X a y (zL a.nm 0 ((xD a.ms y).zip w) x) h (RR a y A n K)) (n:Nat) {w:List Value} {h:aa} (g:A n w h) (f:∀x:Nat->Value,(xD a.ms y).map (sJ (zL a.nm 0 ((xD a.ms y).zip w) x))=w):LL X a y w h K:=λx=>
 LM (M:=a.ms) (p:=y.reverse) e (λm b h=>A m ((xD a.ms y).map (sJ b)) h) (λm b h c d=>by
  have:=step m ((xD a.ms y).map (sJ b)) (sJ b) h d;rw[I8 c]at this;exact this) n _ h (Af ..) (by grind)
def fB{b:Type}(W:b->LV)(I:Nat->b->aa->Prop)(n:Nat)(w:LV)(h:aa):Prop:=∃a,w=W a/\I n a h
theorem cK{W:A->LV}{I:Nat->A->aa->Prop}(m:Nat){a:A}{h:aa}(b:m<n)(c:I m a h):aJ (fB W I) n (W a) h:=⟨m,b,a,rfl,c⟩
theorem dQ{b:FD}{K:eJ}(W:A->LV)(I:Nat->A->aa->Prop)
  (step:∀n (a:A) (x:Nat->Value) h,I n a h->TT X b y (zL b.nm 0 ((xD b.ms y).zip (W a)) x) h (RR b y (fB W I) n K)) (n:Nat) {a:A} {h:aa} (c:I n a h) (e:gz b.nm (jD y b.body)=true:=by kernel_rfl) (d:∀x:Nat->Value,(xD b.ms y).map (sJ (zL b.nm 0 ((xD b.ms y).zip (W a)) x))=W a:=by intro;kernel_rfl):LL X b y (W a) h K:=
 EM (fB W I) e (λn w x h ⟨a,f,c⟩=>by grind) n ⟨a,rfl,c⟩ d
def C1{c d:Type}(W:c->d->LV)(I:Nat->c->d->aa->Prop)(n:Nat)(w:LV)(h:aa):Prop:=∃a b,w=W a b/\I n a b h
theorem mE{W:A->B->LV}{I:Nat->A->B->aa->Prop}(m:Nat){a:A}{b:B}{h:aa}(c:m<n)(d:I m a b h):aJ (C1 W I) n (W a b) h:=⟨m,c,a,b,rfl,d⟩
theorem tl{c:FD}{K:eJ}(W:A->B->LV)(I:Nat->A->B->aa->Prop)
  (step:∀n (a:A) (b:B) (x:Nat->Value) h,I n a b h->TT X c y (zL c.nm 0 ((xD c.ms y).zip (W a b)) x) h (RR c y (C1 W I) n K)) (n:Nat) {a:A} {b:B} {h:aa} (d:I n a b h) (f:gz c.nm (jD y c.body)=true:=by kernel_rfl) (e:∀x:Nat->Value,(xD c.ms y).map (sJ (zL c.nm 0 ((xD c.ms y).zip (W a b)) x))=W a b:=by intro;kernel_rfl):LL X c y (W a b) h K:=
 EM (C1 W I) f (λn w x h ⟨a,b,g,d⟩=>by grind) n ⟨a,b,rfl,d⟩ e
def LA3{d f e:Type}(W:d->f->e->LV)(I:Nat->d->f->e->aa->Prop)(n:Nat)(w:LV)(h:aa):Prop:=∃a b c,w=W a b c/\I n a b c h
theorem IN{d:Type}{W:A->B->d->LV}{I:Nat->A->B->d->aa->Prop}(m:Nat){a:A}{b:B}{c:d}{h:aa}(e:m<n)(f:I m a b c h):aJ (LA3 W I) n (W a b c) h:=⟨m,e,a,b,c,rfl,f⟩
theorem U9{d:FD}{K:eJ}{e:Type}(W:A->B->e->LV)(I:Nat->A->B->e->aa->Prop)
  (step:∀n (a:A) (b:B) (c:e) (x:Nat->Value) h,I n a b c h->TT X d y (zL d.nm 0 ((xD d.ms y).zip (W a b c)) x) h (RR d y (LA3 W I) n K)) (n:Nat) {a:A} {b:B} {c:e} {h:aa} (f:I n a b c h) (i:gz d.nm (jD y d.body)=true:=by kernel_rfl) (g:∀x:Nat->Value,(xD d.ms y).map (sJ (zL d.nm 0 ((xD d.ms y).zip (W a b c)) x))=W a b c:=by intro;kernel_rfl):LL X d y (W a b c) h K:=
 EM (LA3 W I) i (λn w x h ⟨a,b,c,j,f⟩=>by grind) n ⟨a,b,c,rfl,f⟩ g
def RL{f i g e:Type}(W:f->i->g->e->LV)(I:Nat->f->i->g->e->aa->Prop)(n:Nat)(w:LV)(h:aa):Prop:=∃a b c d,w=W a b c d/\I n a b c d h
theorem NX{f e:Type}{W:A->B->f->e->LV}{I:Nat->A->B->f->e->aa->Prop}(m:Nat){a:A}{b:B}{c:f}{d:e}{h:aa}(g:m<n)(i:I m a b c d h):aJ (RL W I) n (W a b c d) h:=⟨m,g,a,b,c,d,rfl,i⟩
theorem Va{e:FD}{K:eJ}{g f:Type}(W:A->B->g->f->LV)(I:Nat->A->B->g->f->aa->Prop)
  (step:∀n (a:A) (b:B) (c:g) (d:f) (x:Nat->Value) h,I n a b c d h->TT X e y (zL e.nm 0 ((xD e.ms y).zip (W a b c d)) x) h (RR e y (RL W I) n K)) (n:Nat) {a:A} {b:B} {c:g} {d:f} {h:aa} (i:I n a b c d h) (k:gz e.nm (jD y e.body)=true:=by kernel_rfl) (j:∀x:Nat->Value,(xD e.ms y).map (sJ (zL e.nm 0 ((xD e.ms y).zip (W a b c d)) x))=W a b c d:=by intro;kernel_rfl):LL X e y (W a b c d) h K:=
 EM (RL W I) k (λn w x h ⟨a,b,c,d,l,i⟩=>by grind) n ⟨a,b,c,d,rfl,i⟩ j
def KE{g k j f i:Type}(W:g->k->j->f->i->LV)(I:Nat->g->k->j->f->i->aa->Prop)(n:Nat)(w:LV)(h:aa):Prop:=∃a b c d e,w=W a b c d e/\I n a b c d e h
theorem sW{i f g:Type}{W:A->B->i->f->g->LV}{I:Nat->A->B->i->f->g->aa->Prop}(m:Nat){a:A}{b:B}{c:i}{d:f}{e:g}{h:aa}(j:m<n)(k:I m a b c d e h):aJ (KE W I) n (W a b c d e) h:=⟨m,j,a,b,c,d,e,rfl,k⟩
theorem Vb{f:FD}{K:eJ}{j g i:Type}(W:A->B->j->g->i->LV)(I:Nat->A->B->j->g->i->aa->Prop)
  (step:∀n (a:A) (b:B) (c:j) (d:g) (e:i) (x:Nat->Value) h,I n a b c d e h->TT X f y (zL f.nm 0 ((xD f.ms y).zip (W a b c d e)) x) h (RR f y (KE W I) n K)) (n:Nat) {a:A} {b:B} {c:j} {d:g} {e:i} {h:aa} (k:I n a b c d e h) (m:gz f.nm (jD y f.body)=true:=by kernel_rfl) (l:∀x:Nat->Value,(xD f.ms y).map (sJ (zL f.nm 0 ((xD f.ms y).zip (W a b c d e)) x))=W a b c d e:=by intro;kernel_rfl):LL X f y (W a b c d e) h K:=
 EM (KE W I) m (λn w x h ⟨a,b,c,d,e,o,k⟩=>by grind) n ⟨a,b,c,d,e,rfl,k⟩ l
def LA6{i l k g j m:Type}(W:i->l->k->g->j->m->LV)(I:Nat->i->l->k->g->j->m->aa->Prop)(n:Nat)(w:LV)(h:aa):Prop:=∃a b c d e f,w=W a b c d e f/\I n a b c d e f h
theorem ac4{j g i k:Type}{W:A->B->j->g->i->k->LV}{I:Nat->A->B->j->g->i->k->aa->Prop}(m:Nat){a:A}{b:B}{c:j}{d:g}{e:i}{f:k}{h:aa}(l:m<n)(o:I m a b c d e f h):aJ (LA6 W I) n (W a b c d e f) h:=⟨m,l,a,b,c,d,e,f,rfl,o⟩
theorem adF{g:FD}{K:eJ}{k i j l:Type}(W:A->B->k->i->j->l->LV)(I:Nat->A->B->k->i->j->l->aa->Prop)
  (step:∀n (a:A) (b:B) (c:k) (d:i) (e:j) (f:l) (x:Nat->Value) h,I n a b c d e f h->TT X g y (zL g.nm 0 ((xD g.ms y).zip (W a b c d e f)) x) h (RR g y (LA6 W I) n K)) (n:Nat) {a:A} {b:B} {c:k} {d:i} {e:j} {f:l} {h:aa} (m:I n a b c d e f h) (p:gz g.nm (jD y g.body)=true:=by kernel_rfl) (o:∀x:Nat->Value,(xD g.ms y).map (sJ (zL g.nm 0 ((xD g.ms y).zip (W a b c d e f)) x))=W a b c d e f:=by intro;kernel_rfl):LL X g y (W a b c d e f) h K:=
 EM (LA6 W I) p (λn w x h ⟨a,b,c,d,e,f,q,m⟩=>by grind) n ⟨a,b,c,d,e,f,rfl,m⟩ o
noncomputable def My(S:Sx)(b:TS)(h:aa):List ResultVar->Option (List Value)
 |[]=>some []
 |.tmp t::r=>(My S b h r).map (b.getD t undef::·)
 |.cell a t::r=>match ae S.P t h (b.getD a undef)with
  |some v=>(My S b h r).map (v::·)
  |none=>none
theorem Al(S:Sx)(b:TS)(h:aa):∀l,sH S (fr b) h l=My S b h l
 |[]=>rfl
 |.tmp t::r=>by simp only[sH,My,Al S b h r,fr]
 |.cell a t::r=>by simp only[sH,My,Al S b h r,fr];try (cases ae S.P t h (b.getD a undef)<;>rfl)
noncomputable def acV(S:Sx)(b:List ResultVar)(Q:VH)(x:Exit)(a:TS)(h:aa):Prop:=match x with
 |.normal=>zt (My S a h b) h Q
 |.ret=>zt (My S a h b) h Q
 |_=>False
noncomputable def JJ(S:Sx)(h:aa):List (Value×Option TypeId)->Option (List Value)
 |[]=>some []
 |(v,none)::r=>(JJ S h r).map (v::·)
 |(a,some t)::r=>match ae S.P t h a with
  |some v=>(JJ S h r).map (v::·)
  |none=>none
noncomputable def di(S:Sx)(l:List (Value×Option TypeId))(h:aa)(Q:VH):Prop:=zt (JJ S h l) h Q
theorem Bb{a:Value}{t:TypeId}(b:ae X.P t h a=some v)(c:Q v h):di X [(a,some t)] h Q:=by
 unfold di;simp only[JJ,b];exact c
theorem vj{a:Value}{t:TypeId}(b:ae X.P t h a=some v)(c:Q (.tuple ⟨[v,w]⟩) h):di X [(a,some t),(w,none)] h Q:=by
 unfold di;simp only[JJ,b];exact c
noncomputable def EE(S:Sx)(X:FD)(Q:VH):eJ:=acV S X.rs Q
theorem eu(d:FD){f:FuncId}{b:Func}{a:List Value}{h:aa}{Q:VH}(q:X.P.funcs[f]?=some b)
  (e:wpS X d.nm d.ms [] d.body (a++List.replicate (d.nm-a.length) undef) h (EE X d Q)) (j:d=ei b d.ms:=by kernel_rfl) (k:(Nat.blt f YB&&(X.pr f).isNone&&Nat.ble a.length d.nm&&gz d.nm d.body&&b.body.isSome)=true:=by kernel_rfl):FW X f a h Q:=by
 have m:d.nm=b.ntmps:=by rw[j];rfl
 have o:d.body=b.body.getD .skip:=by rw[j];rfl
 have v:d.rs=b.results.toList:=by rw[j];rfl
 unfold EE at e;rw[m,o,v]at e;rw[m,o]at k;simp only[and_eq_true,blt_eq,ble_eq,Option.isNone_iff_eq_none]at k;obtain⟨⟨⟨⟨u,w⟩,r⟩,g⟩,p⟩:=k;obtain⟨c,l⟩:=Option.isSome_iff_exists.1 p;rw[l]at e g;have e:wpS X b.ntmps d.ms [] c (a++List.replicate (b.ntmps-a.length) undef) h (acV X b.results.toList Q):=e;have g:gz b.ntmps c=true:=g;have s:(a++List.replicate (b.ntmps-a.length) undef).length=b.ntmps:=by simp;omega
 have y:fr (a++List.replicate (b.ntmps-a.length) undef)=aaF a:=by
  funext t;show(a++List.replicate (b.ntmps-a.length) undef).getD t undef=a.getD t undef;simp only[gD];by_cases p:t<a.length
  ·grind
  ·grind
 refine ac3 q l u w r g ?_;rw[<-y];refine jY c s g (λx n h _ i=>?_) e
 cases x with
 |normal=>show zt (sH X (fr n) h _) h Q;rw[Al];exact i
 |ret=>show zt (sH X (fr n) h _) h Q;rw[Al];exact i
 |_=>exact i.elim
variable{g:aa}{a:Option Addr}
theorem aO{n:Int}(a: -9223372036854775808<=n)(b:n<9223372036854775808):wrap .i64 n=n:=by grind[IntKind.wrap_i64]
theorem dZ{n:Int}(a:0<=n)(b:n<18446744073709551616):wrap .u64 n=n:=by grind[IntKind.wrap_u64]
theorem yw{n:Int}(a:0<=n)(b:n<256):wrap .u8 n=n:=by grind[IntKind.wrap_u8]
theorem rV{t:TypeId}(c:P.underlying t=some .string)(l:List UInt8)(k:IntKind){i:Int}(b:0<=i)(a:i<l.length):bH P t (strOf l) (.int k i)=some (.int .u8 ((l.getD i.toNat 0).toNat:Nat)):=by simp_all[bH,strOf]
theorem oA{t:TypeId}(g:P.underlying t=some .string)(l:List UInt8){h:aa}{lo hi:Option Value}{a b:Nat}(f:dq lo 0=some (a:Int))(c:dq hi l.length=some (b:Int))(d:a<=b)(e:b<=l.length):bm P t (strOf l) lo hi none h=some (strOf ((l.drop a).take (b-a))):=by simp_all[bm,strOf]
structure Ok(h0 h:aa):Prop where
 wf:∀k B,h.get k=some B->k<h.next
 ext:∀k B,h0.get k=some B->h.get k=some B
 nx:h0.next<=h.next
def Wf(h:aa):Prop:=∀k B,h.get k=some B->k<h.next
theorem Ok.refl(w:Wf h):Ok h h:=⟨w,λ_ _ h=>h,Nat.le_refl _⟩
theorem Ok.trans{c d:aa}(a:Ok g c)(b:Ok c d):Ok g d:=⟨b.wf,λk B h=>b.ext k B (a.ext k B h),Nat.le_trans a.nx b.nx⟩
theorem Ok.push(a:Ok g h)(B:bw):Ok g (h.push B):=by
 refine⟨aa.lZ a.wf B,λk C c=>?_,Nat.le_trans a.nx (le_succ _)⟩;have b:=a.ext k C c;rw[aa.aM,if_neg (λe=>by have:=a.wf _ _ b;omega)];omega
theorem Ok.set(a:Ok g h){k:Nat}(B:bw)(f:g.next<=k)(d:k<h.next)(c:Wf g):Ok g (h.set k B):=by
 refine⟨λj C b=>?_,λj C b=>?_,a.nx⟩
 ·rw[aa.aw]at b;split at b
  ·simp_all
  ·exact a.wf _ _ b
 ·rw[aa.aw,if_neg (λe=>by have:=c _ _ b;omega)];exact a.ext _ _ b
theorem Ok.room{b h:aa}(a:Ok b h)(n:Nat):Ok b (room h n):=⟨λk B c=>lt_of_lt_of_le (a.wf k B c) (le_add_right _ _),a.ext,Nat.le_trans a.nx (le_add_right _ _)⟩
def fg(b h:aa)(e:TypeId)(v:Value)(a:List Value):Prop:=
 (v = .slice none 0 0/\a=[])\/ ∃k cs,v = .slice (some ⟨k,0,none⟩) a.length (ca+cs.length)/\b.next<=k/\h.get k=some (.cells cs e 1 true)/\cs.take a.length=a/\a.length<=cs.length
theorem fg.push(a:Ok g h)(o:fg g h T v c)(B:bw):fg g (h.push B) T v c:=by
 rcases o with o|⟨k,cs,d,e,b,f,i⟩
 ·exact .inl o
 ·refine .inr ⟨k,cs,d,e,?_,f,i⟩;rw[aa.aM,if_neg (λT=>by have:=a.wf _ _ b;omega)];omega
theorem fg.snoc{t:TypeId}{i:TypeInfo}(D:P.underlying t=some (.slice T))(F:dG P T=some i)(r:i.size=1){m h:aa}(w:Wf m)(a:Ok m h){v:Value}{d:List Value}(o:fg m h T v d){x:Value}(M:bc x=true)(E:(d.length+1)*i.bytes<=70368744177664)(y:d.length+1<=1099511627776):
  ∃(b:Option Addr)(n c:Nat)(u:aY),aE P t t v (jc 1 1 h.next) (h.push (.cells [x] T 1 true))=some (.slice b n c,u)/\n=d.length+1/\fg m (u.app (h.push (.cells [x] T 1 true))) T (.slice b n c) (d++[x])/\Ok m (u.app (h.push (.cells [x] T 1 true))):=by
 have I:bZ P t=true:=by unfold bZ;rw[D]
 have p:cI (h.push (.cells [x] T 1 true)) i.size (jc 1 1 h.next)=some ([x],1):=by
  show(match (h.push (.cells [x] T 1 true)).get h.next with|some (.cells cs ..)=>if((cs.drop 0).take (1*i.size)).length=1*i.size then some ((cs.drop 0).take (1*i.size),1)else none|_=>none)=_;rw[aa.aM,if_pos rfl,r];rfl
 have z:=fg.push a o (.cells [x] T 1 true);have e:=a.push (.cells [x] T 1 true);generalize G:h.push (.cells [x] T 1 true)=g at*;have K:h.next<g.next:=by rw[<-G];exact Nat.lt_succ_self _
 unfold aE;rw[D];dsimp only;rw[F];dsimp only;rw[if_pos I,p];dsimp only;rw[if_pos (by grind)];rcases z with⟨rfl,rfl⟩|⟨k,cs,rfl,A,q,N,O⟩
 ·show ∃b n c u,(if 1=0 then some (Value.slice none 0 0,aY.no)else if 1*i.bytes<=70368744177664/\1<=1099511627776 then some (Value.slice (some ⟨g.next,0,none⟩) 1 (ca+1),aY.push (.cells [x] T i.size true))else none)=_/\_;rw[if_neg (by omega),if_pos (by grind)];refine⟨_,_,_,_,rfl,rfl,.inr ⟨g.next,[x],rfl,e.nx,?_,rfl,by simp⟩,e.push _⟩;show(g.push (.cells [x] T i.size true)).get g.next=_;rw[aa.aM,if_pos rfl,r]
 ·dsimp only;rw[if_neg (by omega),r,mul_one];have s:aV (ca+cs.length)=cs.length:=by unfold aV;rw[if_pos (by omega)];omega
  rw[s];have B:=e.wf _ _ q;by_cases f:d.length+1<=cs.length
  ·rw[if_pos f];unfold storeAt;rw[zero_add,q];dsimp only;rw[if_pos ⟨by omega,by grind⟩];refine⟨_,_,_,_,rfl,rfl,.inr ⟨k,cs.take d.length++[x]++cs.drop (d.length+1),?_,A,?_,?_,?_⟩,?_⟩
   ·grind
   ·show(g.set k _).get k=_;simp[aa.aw]
   ·grind
   ·grind
   ·exact e.set _ A B w
  ·rw[if_neg f];have J:cs.length=d.length:=by omega
   unfold fI;rw[if_pos ⟨E,y⟩,q];dsimp only;rw[mul_one,if_pos ⟨rfl,rfl,by grind⟩,if_neg (by omega),if_pos ⟨rfl,by omega⟩];refine⟨_,_,_,_,rfl,rfl,.inr ⟨g.next,d++[x],?_,e.nx,?_,?_,?_⟩,?_⟩
   ·grind
   ·show((g.del k).push _).get g.next=_
    simp_all[aa.aM]
   ·grind
   ·omega
   ·refine⟨?_,λj C l=>?_,Nat.le_trans e.nx (le_succ _)⟩
    ·refine aa.lZ (λj C l=>?_) _;rw[aa.dt]at l;split at l
     ·grind
     ·exact e.wf _ _ l
    ·have H:=e.ext _ _ l;have L:=e.wf _ _ H;show((g.del k).push _).get j=_;rw[aa.aM,if_neg (λT=>by have:j=g.next:=T;omega),aa.dt,if_neg (λT=>by have:=w _ _ l;omega)];omega
def Rd(h:aa)(e:TypeId)(v:Value)(a:List Value):Prop:=
 (v = .slice none 0 0/\a=[])\/ ∃k b cs c d,v = .slice (some ⟨k,b,none⟩) a.length c/\h.get k=some (.cells cs e 1 d)/\(cs.drop b).take a.length=a
theorem fg.rd{h0:aa}(o:fg h0 h T v c):Rd h T v c:=by
 rcases o with o|⟨k,cs,b,d,a,e,f⟩
 ·exact .inl o
 ·exact .inr ⟨k,0,cs,_,true,b,a,by grind⟩
theorem Rd.ok(r:Rd h T v d)(o:Ok h g):Rd g T v d:=by
 rcases r with r|⟨k,a,cs,c,f,e,i,b⟩
 ·exact .inl r
 ·exact .inr ⟨k,a,cs,c,f,e,o.ext _ _ i,b⟩
theorem Rd.len{c:Nat}(r:Rd h T (.slice a n c) d):n=d.length:=by
 rcases r with⟨b,rfl⟩|⟨k,e,cs,c,g,b,i,f⟩
 all_goals grind
theorem fg.len{c:Nat}(r:fg g h T (.slice a n c) d):n=d.length:=r.rd.len
theorem Rd.at_{t:TypeId}{d:TypeDesc}(s:P.underlying t=some (.slice T))(g:au P T=some 1)(o:P.underlying T=some d)(q:isAgg P T=false){h:aa}{v:Value}{a:List Value}(r:Rd h T v a){k:IntKind}{i:Int}(n:0<=i)(j:i<a.length):
  ∃p:Addr,ai P t v (.int k i)=some (.pointer (some p))/\ae P T h (.pointer (some p))=some (a.getD i.toNat undef):=by
 rcases r with⟨_,rfl⟩|⟨b,e,cs,c,l,rfl,f,m⟩
 ·grind
 ·refine⟨⟨b,e+i.toNat*1,none⟩,?_,?_⟩
  ·simp_all[ai,Addr.add]
  ·unfold ae
   grind
def AQ(c:UInt8):Value:= .int .u8 (c.toNat:Nat)
theorem qH:∀l:List UInt8,bytesOf (l.map AQ)=some l
 |[]=>rfl
 |c::l=>by
  have a:c.toNat<256:=c.toNat_lt;show(if 0<=((c.toNat:Nat):Int)/\((c.toNat:Nat):Int)<256 then(bytesOf (l.map AQ)).map (UInt8.ofNat ((c.toNat:Nat):Int).toNat::·)else none)=_;rw[if_pos (by omega),qH l,Int.toNat_natCast];simp
theorem fg.ok{a:aa}(r:fg g h T v c)(o:Ok h a):fg g a T v c:=by
 rcases r with r|⟨k,cs,d,e,b,f,i⟩
 ·exact .inl r
 ·exact .inr ⟨k,cs,d,e,o.ext _ _ b,f,i⟩
theorem fg.upto{t:TypeId}(m:P.underlying t=some (.slice T))(g:au P T=some 1){f h:aa}{v:Value}{b:List Value}(r:fg f h T v b){z:Nat}(p:z<=b.length)(q:0<b.length):
  ∃a n c,bm P t v none (some (.int .i64 (z:Int))) none h=some (.slice a n c)/\fg f h T (.slice a n c) (b.take z):=by
 rcases r with⟨rfl,rfl⟩|⟨k,cs,rfl,i,e,o,s⟩
 ·grind
 ·refine⟨some ⟨k,0+0*1,none⟩,z,ca+cs.length,?_,.inr ⟨k,cs,?_,i,e,?_,?_⟩⟩
  ·unfold bm;dsimp only;rw[m];dsimp only[dq];rw[g,e];dsimp only;have d:aV (ca+cs.length)=cs.length:=by unfold aV;rw[if_pos (by omega)];omega
   rw[if_pos (by simp),d,if_pos (by omega)];have j:((z:Int)-((0:Nat):Int)).toNat=z:=by omega
   have l:((0:Nat):Int).toNat=0:=rfl;rw[j,l];rfl
  all_goals grind
theorem vK(k:IntKind)(a b:Int):qm true [.int k a,.int k b]=some (.int k (if b>a then b else a)):=by simp[qm]
theorem fQ{t:TypeId}{k:IntKind}{a:Int}{b:Nat}(d:0<=a)(c:0<b):ay P .rem t (.int k a) (.int k (b:Int))=some (.int k (a%(b:Int))):=by grind[WZ]
theorem nE{t:TypeId}{a:Int}{b:Nat}(c:0<=a)(d:a<18446744073709551616)(e:0<b):ay P .quo t (.int .u64 a) (.int .u64 (b:Int))=some (.int .u64 (a/(b:Int))):=by
 rw[NF P t .u64 _ _ (by omega),Int.tdiv_eq_ediv_of_nonneg c,dZ (Int.ediv_nonneg c (by omega)) (Int.lt_of_le_of_lt (Int.ediv_le_self _ c) d)]
def setAt:List Nat->Code->Code->Code
 |[],n,_=>n
 |0::p,n,.seq a b=> .seq (setAt p n a) b
 |_::p,n,.seq a b=> .seq a (setAt p n b)
 |0::p,n,.cond c a b=> .cond c (setAt p n a) b
 |_::p,n,.cond c a b=> .cond c a (setAt p n b)
 |_::p,n,.block i c=> .block i (setAt p n c)
 |_::p,n,.loop c=> .loop (setAt p n c)
 |_::_,_,c=>c
theorem iX:∀(p:List Nat)(c:Code),setAt p (jD p c) c=c
 |[],c=>rfl
 |i::p,c=>by
  cases c with
  |seq a b=>cases i<;>simp only[jD,setAt,iX p]
  |cond c a b=>cases i<;>simp only[jD,setAt,iX p]
  |block i c=>simp only[jD,setAt,iX p]
  |loop c=>simp only[jD,setAt,iX p]
  |_=>simp only[setAt]
theorem fg.adN{t:TypeId}{i:TypeInfo}(I:P.underlying t=some (.slice T))(K:dG P T=some i)(z:i.size=1){q h:aa}(D:Wf q)(a:Ok q h){v:Value}{f:List Value}(o:fg q h T v f){x:Value}(U:bc x=true)(J:(f.length+1)*i.bytes<=70368744177664)(E:f.length+1<=1099511627776):
  ∃(b:Option Addr)(n c:Nat)(u:aY),aE P t t v (jc 1 1 h.next) (h.push (.cells [x] T 1 true))=some (.slice b n c,u)/\n=f.length+1/\fg q (u.app (h.push (.cells [x] T 1 true))) T (.slice b n c) (f++[x])/\Ok q (u.app (h.push (.cells [x] T 1 true)))/\
   (∀j B,h.get j=some B->(∀o n c,v≠ .slice (some ⟨j,o,none⟩) n c)->(u.app (h.push (.cells [x] T 1 true))).get j=some B)/\
   (∀j o m d,Value.slice b n c = .slice (some ⟨j,o,none⟩) m d->h.next<=j\/ ∃o n c,v = .slice (some ⟨j,o,none⟩) n c):=by
 have N:bZ P t=true:=by unfold bZ;rw[I]
 have s:cI (h.push (.cells [x] T 1 true)) i.size (jc 1 1 h.next)=some ([x],1):=by
  show(match (h.push (.cells [x] T 1 true)).get h.next with|some (.cells cs ..)=>if((cs.drop 0).take (1*i.size)).length=1*i.size then some ((cs.drop 0).take (1*i.size),1)else none|_=>none)=_;rw[aa.aM,if_pos rfl,z];rfl
 have F:=fg.push a o (.cells [x] T 1 true);have l:=a.push (.cells [x] T 1 true);have O:∀j B,h.get j=some B->(h.push (.cells [x] T 1 true)).get j=some B:=λj B e=>by
  rw[aa.aM,if_neg (λT=>by have:=a.wf _ _ e;omega)];omega
 have r:∀j B,h.get j=some B->j<h.next:=λj B e=>a.wf _ _ e;generalize L:h.push (.cells [x] T 1 true)=g at*;have R:h.next<g.next:=by rw[<-L];exact Nat.lt_succ_self _
 unfold aE;rw[I];dsimp only;rw[K];dsimp only;rw[if_pos N,s];dsimp only;rw[if_pos (by grind)];rcases F with⟨rfl,rfl⟩|⟨k,cs,rfl,G,y,V,W⟩
 ·show ∃b n c u,(if 1=0 then some (Value.slice none 0 0,aY.no)else if 1*i.bytes<=70368744177664/\1<=1099511627776 then some (Value.slice (some ⟨g.next,0,none⟩) 1 (ca+1),aY.push (.cells [x] T i.size true))else none)=_/\_;rw[if_neg (by omega),if_pos (by grind)];refine⟨_,_,_,_,rfl,rfl,.inr ⟨g.next,[x],rfl,l.nx,?_,rfl,by simp⟩,l.push _,λj B e _=>?_,λj o m d T=> .inl ?_⟩
  rotate_left
  ·show(g.push _).get j=_;rw[aa.aM,if_neg (λT=>by have:=r _ _ e;omega)]
   grind
  ·grind
  show(g.push (.cells [x] T i.size true)).get g.next=_;rw[aa.aM,if_pos rfl,z]
 ·dsimp only;rw[if_neg (by omega),z,mul_one];have A:aV (ca+cs.length)=cs.length:=by unfold aV;rw[if_pos (by omega)];omega
  rw[A];have H:=l.wf _ _ y;by_cases p:f.length+1<=cs.length
  ·rw[if_pos p];unfold storeAt;rw[zero_add,y];dsimp only;rw[if_pos ⟨by omega,by grind⟩];refine⟨_,_,_,_,rfl,rfl,.inr ⟨k,cs.take f.length++[x]++cs.drop (f.length+1),?_,G,?_,?_,?_⟩,?_,λj B e w=>?_,λj o m d T=> .inr ?_⟩
   rotate_left 5
   ·show(g.set k _).get j=_;rw[aa.aw,if_neg (λT=>w 0 _ _ (by rw[T]))]
    grind
   ·grind
   ·grind
   ·show(g.set k _).get k=_;simp[aa.aw]
   ·grind
   ·grind
   ·exact l.set _ G H D
  ·rw[if_neg p];have Q:cs.length=f.length:=by omega
   unfold fI;rw[if_pos ⟨J,E⟩,y];dsimp only;rw[mul_one,if_pos ⟨rfl,rfl,by grind⟩,if_neg (by omega),if_pos ⟨rfl,by omega⟩];refine⟨_,_,_,_,rfl,rfl,.inr ⟨g.next,f++[x],?_,l.nx,?_,?_,?_⟩,?_,λj B e w=>?_,λj o m d T=> .inl ?_⟩
   rotate_left 5
   ·show((g.del k).push _).get j=_;rw[aa.aM,if_neg (λT=>by have:=r _ _ e;have:j=g.next:=T;omega),aa.dt,if_neg (λT=>w 0 _ _ (by rw[T]))]
    grind
   ·grind
   ·grind
   ·show((g.del k).push _).get g.next=_
    simp_all[aa.aM]
   ·grind
   ·omega
   ·refine⟨?_,λj C e=>?_,Nat.le_trans l.nx (le_succ _)⟩
    ·refine aa.lZ (λj C e=>?_) _;rw[aa.dt]at e;split at e
     ·grind
     ·exact l.wf _ _ e
    ·have M:=l.ext _ _ e;have S:=l.wf _ _ M;show((g.del k).push _).get j=_;rw[aa.aM,if_neg (λT=>by have:j=g.next:=T;omega),aa.dt,if_neg (λT=>by have:=D _ _ e;omega)];omega
def KQ(b h:aa)(e:TypeId)(v:Value)(a:List Value):Prop:=
 (v = .slice none 0 0/\a=[])\/ ∃k,v = .slice (some ⟨k,0,none⟩) a.length (ca+a.length)/\b.next<=k/\h.get k=some (.cells a e 1 true)
theorem KQ.wO{t t':TypeId}{i:TypeInfo}(J:P.underlying t=some (.slice T))(D:dG P T=some i)(E:i.size=1)(I:bZ P t'=true){g h:aa}(y:Wf g)(a:Ok g h){v:Value}{f:List Value}(o:KQ g h T v f){x:Value}{d:List Value}(p:cI h 1 x=some (d,d.length))(F:d.all bc=true)(A:(f.length+d.length)*i.bytes<=70368744177664)(w:f.length+d.length<=1099511627776):
  ∃(b:Option Addr)(n c:Nat)(u:aY),aE P t t' v x h=some (.slice b n c,u)/\KQ g (u.app h) T (.slice b n c) (f++d)/\Ok g (u.app h)/\(∀j B,h.get j=some B->(∀o n c,v≠ .slice (some ⟨j,o,none⟩) n c)->(u.app h).get j=some B):=by
 have m:∀j B,h.get j=some B->j<h.next:=λj B e=>a.wf _ _ e;unfold aE;rw[J];dsimp only;rw[D];dsimp only;rw[if_pos I,E,p];dsimp only;rw[if_pos ⟨F,by omega⟩];rcases o with⟨rfl,rfl⟩|⟨k,rfl,G,r⟩
 ·show ∃b n c u,(if d.length=0 then some (Value.slice none 0 0,aY.no)else if d.length*i.bytes<=70368744177664/\d.length<=1099511627776 then some (Value.slice (some ⟨h.next,0,none⟩) d.length (ca+d.length),aY.push (.cells d T 1 true))else none)=_/\_;by_cases l:d.length=0
  ·have q:d=[]:=List.eq_nil_of_length_eq_zero l;subst q;exact⟨_,_,_,_,rfl,.inl ⟨rfl,rfl⟩,a,λj B e _=>e⟩
  ·rw[if_neg l,if_pos (by grind)];refine⟨_,_,_,_,rfl,.inr ⟨h.next,by simp,a.nx,?_⟩,a.push _,λj B e _=>?_⟩
   ·show(h.push _).get h.next=_;simp[aa.aM]
   ·show(h.push _).get j=_;rw[aa.aM,if_neg (λT=>by have:=m _ _ e;omega)];omega
 ·dsimp only;have K:=a.wf _ _ r;by_cases l:d.length=0
  ·have q:d=[]:=List.eq_nil_of_length_eq_zero l;subst q;refine⟨_,_,_,_,rfl,.inr ⟨k,by simp,G,by rw[append_nil];exact r⟩,a,λj B e _=>e⟩
  ·rw[if_neg l,mul_one];have s:aV (ca+f.length)=f.length:=by unfold aV;rw[if_pos (by omega)];omega
   rw[s,if_neg (by omega)];unfold fI;rw[if_pos ⟨A,w⟩,r];dsimp only;rw[mul_one,if_pos ⟨rfl,rfl,by simp⟩,if_neg (by omega),if_pos ⟨rfl,by omega⟩];refine⟨_,_,_,_,rfl,.inr ⟨h.next,by simp,a.nx,?_⟩,?_,λj B e z=>?_⟩
   ·show((h.del k).push _).get h.next=_
    simp_all[aa.aM]
   ·refine⟨?_,λj C e=>?_,Nat.le_trans a.nx (le_succ _)⟩
    ·refine aa.lZ (λj C e=>?_) _;rw[aa.dt]at e
     simp_all
    ·have H:=a.ext _ _ e;have L:=a.wf _ _ H;show((h.del k).push _).get j=_;rw[aa.aM,if_neg (λT=>by have:j=h.next:=T;omega),aa.dt,if_neg (λT=>by have:=y _ _ e;omega)];omega
   ·show((h.del k).push _).get j=_;rw[aa.aM,if_neg (λT=>by have:=m _ _ e;have:j=h.next:=T;omega),aa.dt,if_neg (λT=>z 0 _ _ (by rw[T]))];omega
theorem rU{p:lK}{h':aa}(a:Nat.ble YB f=false)(i:X.pr f=some p)(j:∀d,p d c h=some (v,h'))(b:Q v h'):FW X f c h Q:=by
 refine⟨v,h',⟨1,λn g=>?_⟩,b⟩;obtain⟨m,rfl⟩:∃m,n=m+1:=⟨n-1,by omega⟩
 have e:¬YB<=f:=λh=>by rw[<-ble_eq]at h;rw[a]at h;cases h
 simp_all[if_neg,bn]
end Go.Ab
end
