/- Whatever machine is handed to it, in whatever memory, on every schedule, MachineValid returns true. No condition. -/
import Derived.Test.YtoabjjimjldcfaaGreatDoorPart5
import Derived.Test.YtoabjjimjldcfaaGreatDoorPart3
import Derived.Test.YtoabjjimjldcfaaGreatDoorPart2
import Derived.ChangeArms
import Derived.DataElems
import Derived.OpenShut
import Derived.MakeChecks
import Derived.FnData
import Derived.ChangeSame
import Derived.Test.YtoabjjimjldcfaaGreatDoorRows
import Derived.ProofKit
import Derived.LaidLaws
import Derived.LaidHandle
import Derived.ChangeVars
import Derived.Below
import Derived.Test.YtoabjjimjldcfaaGreatDoorCards
import Derived.Test.YtoabjjimjldcfaaGreatDoorTie
import Derived.WalkKit
import Derived.Carry
import Derived.SevenTiedAt
section
set_option linter.unusedVariables false
set_option maxRecDepth 100000
namespace Go.Proofs.YtoabjjimjldcfaaGreatDoor
open Go Go.Ab
def Wh(a b:Int):Int:=if b > a then b else a
theorem TE(a b c:Int):km true [.int .i64 a,.int .i64 b,.int .i64 c]=some(.int .i64(Wh(Wh a b)c)):=by simp [km,Wh]
def YS(g:Int)(l:List MArc):Int:=l.foldl(fun g q=>Wh(Wh g q.i)q.o)g
def Xn(g:Int)(l:List MSt):Int:=l.foldl(fun g s=>YS g s.arcs)g
def pI(M:Mach):Int:=if bZ M then Xn 0 M.states else 0
section
variable {h:Heap}{k:Nat}{M:Mach}{a:Option Addr}{n c:Nat}
def iQ(h:Heap)(V:Int):VH:=fun v h'=>v = .int .i64 V/\Ok h h'
def Sp(h:Heap)(k:Nat)(M:Mach)(a:Option Addr)(n c:Nat)(V:Int)(mz i:Nat)(x:Int)(g:Heap):Prop:=i<=n/\mz=n - i/\MB g k M a n c/\Ok h g/\Xn x(M.states.drop i)=V
def YU(h:Heap)(k:Nat)(M:Mach)(a:Option Addr)(n c:Nat)(s:MSt)(i:Nat)(V:Int)(mz2 j:Nat)(x:Int)(g:Heap):Prop:=j<=s.arcs.length/\mz2=s.arcs.length - j/\MB g k M a n c/\Ok h g/\Xn(YS x(s.arcs.drop j))(M.states.drop(i + 1))=V
set_option linter.defProp false in
def N4(w:Wf h)(sm:Small M)(V:Int){s:MSt}{b:Option Addr}{m d i k2:Nat}(hs:M.states[i]? = some s)(hi:i < n)(mv:List Value)(mz:Nat)(hmz:mz=n - i):=
 su mv k a n c k2 b m d(Sp h k M a n c V)mz i(fun mz2 j x g=>YU h k M a n c s i V mz2 j x g/\ArcRow g(.slice b m d)s.arcs)(iQ h V)(by
  intro mz2 j x; intros; rename_i g hin
  obtain⟨⟨f1,f2,mb,ok,hv⟩,ar⟩:=hin
  have hn:n<=300:=by rw [mb.len]; exact sm.sts
  obtain⟨l1,l2,l3⟩:=dl sm hs
  have hm:=ar.len
  refine ae(fun g1=>?_)(fun g1=>?_)
  · have g1:=of_decide_eq_true g1
   obtain⟨q,hq⟩: ∃ q,s.arcs[j]? = some q :=⟨_,List.getElem?_eq_getElem(by omega)⟩
   obtain⟨bb,o,e1,e2,e3⟩:=ar.at_ hq
   rw [bm hq] at hv
   obtain⟨u,p1,p2,p3⟩:=Iu ok.wf q
   refine⟨_,e1,_,e2,_,QE,u,p1,_,iF _ _,_,p3.l0,_,mK _ _,_,p3.l1,_,TE _ _ _,?_⟩
   rw [aK(i:=j)(n:=m)(by omega)(by omega)]
   exact sy(mz2 - 1)(by omega)⟨⟨by omega,by omega,mb.ok p2,ok.trans p2,hv⟩,ar.ok p2⟩
  · have g1:=of_decide_eq_false g1
   rw [List.drop_eq_nil_of_le(by omega)] at hv
   rw [aK hi(by omega)]
   exact tC(n - (i + 1))(by omega)⟨by omega,rfl,mb,ok,hv⟩)
theorem Mo {h:Heap}(tb:Tab h)(w:Wf h){M:Mach}(sm:Small M){a:Option Addr}{n c:Nat}(r:StRow h(.slice a n c)M.states):FW SS 20 [.agg⟨bw M a n c⟩] h(fun v h'=>v = .int .i64(pI M)/\Ok h h'):=by
 obtain⟨mb,ok⟩:=cV w r
 refine LF(bw M a n c)h _⟨_,fi M a n c,_,mb.all,(qo(tb.ok ok)ok.wf sm mb.row).mono ?_⟩
 generalize h.push(Bm M a n c)=g at *
 rintro _ g2⟨rfl,o2⟩
 have ok2:=ok.trans o2
 have mb2:=mb.ok o2
 have hn:n<=300:=by rw [mb.len]; exact sm.sts
 refine⟨_,rfl,ae(fun q =>⟨?_,ok2⟩)(fun q=>?_)⟩
 · rw [Bool.not_eq_true'] at q
  unfold pI; rw [q]; rfl
 rw [Bool.not_eq_false'] at q
 obtain⟨V,hV⟩: ∃ V,V=Xn 0 M.states :=⟨_,rfl⟩
 have:pI M=V:=by unfold pI; rw [if_pos q,hV]
 rw [this]
 refine⟨_,aT _,_,_,_,mb2.l3,?_⟩
 refine tq(bw M a n c)h.next a n c(Sp h h.next M a n c V)(iQ h V)(fun mz i x=>?_)n(i:=0)(g:=0)⟨by omega,rfl,mb2,ok2,hV.symm⟩
 intros; rename_i gg hi
 obtain⟨f1,f2,mb3,ok3,f5⟩:=hi
 have hl:=mb3.len
 refine ae(fun q1=>?_)(fun q1=>?_)
 · have q1:=of_decide_eq_true q1
  obtain⟨s,hs⟩: ∃ s,M.states[i]? = some s :=⟨_,List.getElem?_eq_getElem(by omega)⟩
  obtain⟨b,o,x',y,z,e1,e2,e3,e4,ar⟩:=mb3.row.at_ hs
  obtain⟨l1,l2,l3⟩:=dl sm hs
  rw [bm hs] at f5
  obtain⟨u,p1,p2,p3⟩:=Db ok3.wf s.f x' y z
  refine⟨_,e1,_,e2,_,M7,u,p1,_,bt _ _,_,_,_,p3.l1,?_⟩
  have hy:=ar.len
  exact N4 w sm V hs(by omega)_ mz f2 y(j:=0)(g:=x)⟨⟨by omega,by omega,mb3.ok p2,ok3.trans p2,by rw [List.drop_zero]; exact f5⟩,ar.ok p2⟩
 · have q1:=of_decide_eq_false q1
  rw [List.drop_eq_nil_of_le(by omega)] at f5
  exact⟨by rw [<- f5]; rfl,ok3⟩
set_option linter.defProp false in
def OP(w:Wf h)(sm:Small M)(V:Int){s:MSt}{i:Nat}(hs:M.states[i]? = some s)(hi:i < n)(mv:List Value)(mz:Nat)(hmz:mz=n - i):=
 uf mv k(Sp h k M a n c V)mz i(YU h k M a n c s i V)(iQ h V)(by
  intro mz2 j x; intros; rename_i g hin
  obtain⟨f1,f2,mb,ok,hv⟩:=hin
  have hn:n<=300:=by rw [mb.len]; exact sm.sts
  obtain⟨l1,l2,l3⟩:=dl sm hs
  obtain⟨b,o,x',y,z,e1,e2,e3,e4,ar⟩:=mb.row.at_ hs
  have hm:=ar.len
  refine⟨_,aT _,_,_,_,mb.l3,_,e1,_,bt _ _,_,_,_,e4,ae(fun g1=>?_)(fun g1=>?_)⟩
  · have g1:=of_decide_eq_true g1
   obtain⟨q,hq⟩: ∃ q,s.arcs[j]? = some q :=⟨_,List.getElem?_eq_getElem(by omega)⟩
   have or:=(Ok.refl ok.wf).room 23
   have mb':=mb.ok or
   obtain⟨b,o,x',y,z,e1,e2,e3,e4,ar⟩:=mb'.row.at_ hs
   obtain⟨bb,oo,d1,d2,d3,d4,d5,d6⟩:=ar.at_ hq
   rw [bm hq] at hv
   refine⟨_,aT _,_,_,_,mb'.l3,_,e1,_,bt _ _,_,_,_,e4,_,d1,_,iF _ _,_,d3,_,aT _,_,_,_,mb'.l3,_,e1,_,bt _ _,_,_,_,e4,_,d1,_,mK _ _,_,d4,_,TE _ _ _,?_⟩
   rw [aK(i:=j)(n:=s.arcs.length)(by omega)(by omega)]
   exact uL(mz2 - 1)(by omega)⟨by omega,by omega,mb',ok.trans or,hv⟩
  · have g1:=of_decide_eq_false g1
   rw [List.drop_eq_nil_of_le(by omega)] at hv
   rw [aK hi(by omega)]
   exact tS(n - (i + 1))(by omega)⟨by omega,rfl,mb,ok,hv⟩)
theorem MW {h:Heap}(w:Wf h){M:Mach}(sm:Small M){a:Option Addr}{n c:Nat}(r:StRow h(.slice a n c)M.states):FW SS 21 [.agg⟨bw M a n c⟩] h(fun v h'=>v = .int .i64(pI M)/\Ok h h'):=by
 obtain⟨mb,ok⟩:=cV w r
 refine LJ(bw M a n c)h _⟨_,fi M a n c,_,mb.all,(lN ok.wf sm mb.row).mono ?_⟩
 generalize h.push(Bm M a n c)=g at *
 rintro _ g2⟨rfl,o2⟩
 have ok2:=ok.trans o2
 have mb2:=mb.ok o2
 have hn:n<=300:=by rw [mb.len]; exact sm.sts
 refine⟨_,rfl,ae(fun q =>⟨?_,ok2⟩)(fun q=>?_)⟩
 · rw [Bool.not_eq_true'] at q
  unfold pI; rw [q]; rfl
 rw [Bool.not_eq_false'] at q
 obtain⟨V,hV⟩: ∃ V,V=Xn 0 M.states :=⟨_,rfl⟩
 have:pI M=V:=by unfold pI; rw [if_pos q,hV]
 rw [this]
 refine tr(bw M a n c)h.next(Sp h h.next M a n c V)(iQ h V)(fun mz i x=>?_)n(i:=0)(g:=0)⟨by omega,rfl,mb2,ok2,hV.symm⟩
 intros; rename_i gg hi
 obtain⟨f1,f2,mb3,ok3,f5⟩:=hi
 have hl:=mb3.len
 refine⟨_,aT _,_,_,_,mb3.l3,ae(fun q1=>?_)(fun q1=>?_)⟩
 · have q1:=of_decide_eq_true q1
  obtain⟨s,hs⟩: ∃ s,M.states[i]? = some s :=⟨_,List.getElem?_eq_getElem(by omega)⟩
  rw [bm hs] at f5
  exact OP w sm V hs(by omega)_ mz f2 s.arcs.length(j:=0)(g:=x)⟨by omega,by omega,mb3,ok3,by rw [List.drop_zero]; exact f5⟩
 · have q1:=of_decide_eq_false q1
  rw [List.drop_eq_nil_of_le(by omega)] at f5
  exact⟨by rw [<- f5]; rfl,ok3⟩
def SR(t:MArc->Bool)(h:Heap)(k:Nat)(M:Mach)(a:Option Addr)(n c:Nat)(V:Bool)(mz i:Nat)(g:Heap):Prop:=i<=n/\mz=n - i/\MB g k M a n c/\Ok h g/\BL t(M.states.drop i)=V
def YW(t:MArc->Bool)(h:Heap)(k:Nat)(M:Mach)(a:Option Addr)(n c:Nat)(s:MSt)(i:Nat)(V:Bool)(mz2 j:Nat)(g:Heap):Prop:=j<=s.arcs.length/\mz2=s.arcs.length - j/\MB g k M a n c/\Ok h g/\((s.arcs.drop j).all t && BL t(M.states.drop(i + 1)))=V
set_option linter.defProp false in
def Oc(w:Wf h)(sm:Small M)(V:Bool){s:MSt}{i:Nat}(hs:M.states[i]? = some s)(hi:i < n)(mv:List Value)(mz:Nat)(hmz:mz=n - i):=
 yk mv k(SR Cg h k M a n c V)mz i(YW Cg h k M a n c s i V)(bQ h V)(by
  intro mz2 j; intros; rename_i g hin
  obtain⟨f1,f2,mb,ok,hv⟩:=hin
  have hn:n<=300:=by rw [mb.len]; exact sm.sts
  obtain⟨l1,l2,l3⟩:=dl sm hs
  obtain⟨b,o,x',y,z,e1,e2,e3,e4,ar⟩:=mb.row.at_ hs
  have hm:=ar.len
  refine⟨_,aT _,_,_,_,mb.l3,_,e1,_,bt _ _,_,_,_,e4,ae(fun g1=>?_)(fun g1=>?_)⟩
  · have g1:=of_decide_eq_true g1
   obtain⟨q,hq⟩: ∃ q,s.arcs[j]? = some q :=⟨_,List.getElem?_eq_getElem(by omega)⟩
   have or:=(Ok.refl ok.wf).room 21
   have mb':=mb.ok or
   obtain⟨b,o,x',y,z,e1,e2,e3,e4,ar⟩:=mb'.row.at_ hs
   obtain⟨bb,oo,d1,d2,d3,d4,d5,d6⟩:=ar.at_ hq
   rw [bm hq,List.all_cons] at hv
   refine⟨_,aT _,_,_,_,mb'.l3,_,e1,_,bt _ _,_,_,_,e4,_,d1,_,iF _ _,_,d3,_,aT _,_,_,_,mb'.l3,_,e1,_,bt _ _,_,_,_,e4,_,d1,_,mK _ _,_,d4,ae(fun g2 =>⟨?_,ok.trans or⟩)(fun g2=>?_)⟩
   · have g2 : ¬ q.i=q.o:=by simpa using g2
    rw [<- hv,show Cg q=false by unfold Cg; simpa using g2]; rfl
   · have g2:q.i=q.o:=by simpa using g2
    rw [show Cg q=true by unfold Cg; simpa using g2,Bool.true_and] at hv
    rw [aK(i:=j)(n:=s.arcs.length)(by omega)(by omega)]
    exact xW(mz2 - 1)(by omega)⟨by omega,by omega,mb',ok.trans or,hv⟩
  · have g1:=of_decide_eq_false g1
   rw [List.drop_eq_nil_of_le(by omega)] at hv
   rw [aK hi(by omega)]
   exact yp(n - (i + 1))(by omega)⟨by omega,rfl,mb,ok,by simpa using hv⟩)
theorem Kx {h:Heap}(w:Wf h){M:Mach}(sm:Small M){a:Option Addr}{n c:Nat}(r:StRow h(.slice a n c)M.states):FW SS 13 [.agg⟨bw M a n c⟩] h(fun v h'=>v = .bool(Jk M)/\Ok h h'):=by
 obtain⟨mb,ok⟩:=cV w r
 refine SC(bw M a n c)h _⟨_,fi M a n c,_,mb.all,(lN ok.wf sm mb.row).mono ?_⟩
 generalize h.push(Bm M a n c)=g at *
 rintro _ g2⟨rfl,o2⟩
 have ok2:=ok.trans o2
 have mb2:=mb.ok o2
 have hn:n<=300:=by rw [mb.len]; exact sm.sts
 refine⟨_,rfl,ae(fun q =>⟨?_,ok2⟩)(fun q=>?_)⟩
 · rw [Bool.not_eq_true'] at q
  unfold Jk; rw [q]; rfl
 rw [Bool.not_eq_false'] at q
 obtain⟨V,hV⟩: ∃ V,V=BL Cg M.states :=⟨_,rfl⟩
 have:Jk M=V:=by unfold Jk; rw [q,hV]; rfl
 rw [this]
 refine yi(bw M a n c)h.next(SR Cg h h.next M a n c V)(bQ h V)(fun mz i=>?_)n(i:=0)⟨by omega,rfl,mb2,ok2,hV.symm⟩
 intros; rename_i gg hi
 obtain⟨f1,f2,mb3,ok3,f5⟩:=hi
 have hl:=mb3.len
 refine⟨_,aT _,_,_,_,mb3.l3,ae(fun q1=>?_)(fun q1=>?_)⟩
 · have q1:=of_decide_eq_true q1
  obtain⟨s,hs⟩: ∃ s,M.states[i]? = some s :=⟨_,List.getElem?_eq_getElem(by omega)⟩
  rw [bm hs] at f5
  exact Oc w sm V hs(by omega)_ mz f2 s.arcs.length(j:=0)⟨by omega,by omega,mb3,ok3,by rw [List.drop_zero]; exact f5⟩
 · have q1:=of_decide_eq_false q1
  rw [List.drop_eq_nil_of_le(by omega)] at f5
  exact⟨by rw [<- f5]; rfl,ok3⟩
set_option linter.defProp false in
def QP(w:Wf h)(sm:Small M)(V:Bool){s:MSt}{i:Nat}(hs:M.states[i]? = some s)(hi:i < n)(mv:List Value)(mz:Nat)(hmz:mz=n - i):=
 sv mv k(SR fR h k M a n c V)mz i(YW fR h k M a n c s i V)(bQ h V)(by
  intro mz2 j; intros; rename_i g hin
  obtain⟨f1,f2,mb,ok,hv⟩:=hin
  have hn:n<=300:=by rw [mb.len]; exact sm.sts
  obtain⟨l1,l2,l3⟩:=dl sm hs
  obtain⟨b,o,x',y,z,e1,e2,e3,e4,ar⟩:=mb.row.at_ hs
  have hm:=ar.len
  refine⟨_,aT _,_,_,_,mb.l3,_,e1,_,bt _ _,_,_,_,e4,ae(fun g1=>?_)(fun g1=>?_)⟩
  · have g1:=of_decide_eq_true g1
   obtain⟨q,hq⟩: ∃ q,s.arcs[j]? = some q :=⟨_,List.getElem?_eq_getElem(by omega)⟩
   obtain⟨bb,oo,d1,d2,d3,d4,d5,d6⟩:=ar.at_ hq
   rw [bm hq,List.all_cons] at hv
   have hw:=aK(i:=j)(n:=s.arcs.length)(by omega)(by omega)
   refine⟨_,aT _,_,_,_,mb.l3,_,e1,_,bt _ _,_,_,_,e4,_,d1,_,iF _ _,_,d3,ae(fun g2 =>⟨_,aT _,_,_,_,mb.l3,_,e1,_,bt _ _,_,_,_,e4,_,d1,_,mK _ _,_,d4,ae(fun g3 =>⟨?_,ok⟩)(fun g3=>?_)⟩)(fun g2=>?_)⟩
   · have g2:q.i=0:=by simpa using g2
    have g3:q.o=0:=by simpa using g3
    rw [<- hv,show fR q=false by unfold fR; rw [g2,g3]; rfl]; rfl
   · have g3 : ¬ q.o=0:=by simpa using g3
    rw [show fR q=true by unfold fR; simp [g3],Bool.true_and] at hv
    rw [hw]
    exact kX(mz2 - 1)(by omega)⟨by omega,by omega,mb,ok,hv⟩
   · have g2 : ¬ q.i=0:=by simpa using g2
    rw [show fR q=true by unfold fR; simp [g2],Bool.true_and] at hv
    rw [hw]
    exact kX(mz2 - 1)(by omega)⟨by omega,by omega,mb,ok,hv⟩
  · have g1:=of_decide_eq_false g1
   rw [List.drop_eq_nil_of_le(by omega)] at hv
   rw [aK hi(by omega)]
   exact uj(n - (i + 1))(by omega)⟨by omega,rfl,mb,ok,by simpa using hv⟩)
theorem C2 {h:Heap}(w:Wf h){M:Mach}(sm:Small M){a:Option Addr}{n c:Nat}(r:StRow h(.slice a n c)M.states):FW SS 15 [.agg⟨bw M a n c⟩] h(fun v h'=>v = .bool(vA M)/\Ok h h'):=by
 obtain⟨mb,ok⟩:=cV w r
 refine MQ(bw M a n c)h _⟨_,fi M a n c,_,mb.all,(lN ok.wf sm mb.row).mono ?_⟩
 generalize h.push(Bm M a n c)=g at *
 rintro _ g2⟨rfl,o2⟩
 have ok2:=ok.trans o2
 have mb2:=mb.ok o2
 have hn:n<=300:=by rw [mb.len]; exact sm.sts
 refine⟨_,rfl,ae(fun q =>⟨?_,ok2⟩)(fun q=>?_)⟩
 · rw [Bool.not_eq_true'] at q
  unfold vA; rw [q]; rfl
 rw [Bool.not_eq_false'] at q
 obtain⟨V,hV⟩: ∃ V,V=BL fR M.states :=⟨_,rfl⟩
 have:vA M=V:=by unfold vA; rw [q,hV]; rfl
 rw [this]
 refine sL(bw M a n c)h.next(SR fR h h.next M a n c V)(bQ h V)(fun mz i=>?_)n(i:=0)⟨by omega,rfl,mb2,ok2,hV.symm⟩
 intros; rename_i gg hi
 obtain⟨f1,f2,mb3,ok3,f5⟩:=hi
 have hl:=mb3.len
 refine⟨_,aT _,_,_,_,mb3.l3,ae(fun q1=>?_)(fun q1=>?_)⟩
 · have q1:=of_decide_eq_true q1
  obtain⟨s,hs⟩: ∃ s,M.states[i]? = some s :=⟨_,List.getElem?_eq_getElem(by omega)⟩
  rw [bm hs] at f5
  exact QP w sm V hs(by omega)_ mz f2 s.arcs.length(j:=0)⟨by omega,by omega,mb3,ok3,by rw [List.drop_zero]; exact f5⟩
 · have q1:=of_decide_eq_false q1
  rw [List.drop_eq_nil_of_le(by omega)] at f5
  exact⟨by rw [<- f5]; rfl,ok3⟩
end
end Go.Proofs.YtoabjjimjldcfaaGreatDoor
end
section
set_option linter.unusedVariables false
set_option maxRecDepth 100000
namespace Go.Proofs.YtoabjjimjldcfaaGreatDoor
open Go Go.Ab
theorem mj(s:MSt)(l:List MSt):lj(s :: l)=s.arcs.length + lj l:=by simp [lj]
theorem Ic {s:MSt} : ∀ {l:List MSt},s∈l->s.arcs.length<=lj l
 | x :: l,h=>by
  rw [mj]
  rcases List.mem_cons.1 h with rfl | h
  · omega
  · have:=Ic h; omega
theorem KT {B:Nat} : ∀ {l:List MSt},(∀ s∈l,s.arcs.length<=B)->lj l<=l.length * B
 | [],_=>by simp [lj]
 | x :: l,h=>by
  rw [mj,List.length_cons,Nat.add_mul,Nat.one_mul]
  have h1:=h x(List.mem_cons_self ..)
  have h2:=KT(l:=l)fun s hs=>h s(List.mem_cons_of_mem _ hs)
  omega
def XP(M:Mach):Prop:= ∀ s∈M.states,s.arcs.length<=281474976710656
section
variable {h:Heap}{k:Nat}{M:Mach}{a:Option Addr}{n c:Nat}
theorem Qd(w:Wf h)(bd:XP M)(hst:M.states.length<=300)(r:StRow h(.slice a n c)M.states):FW SS 33 [.agg⟨bw M a n c⟩] h(fun v h'=>v = .int .i64(lj M.states:Nat)/\Ok h h'):=by
 obtain⟨mb,ok⟩:=cV w r
 refine OT(bw M a n c)h _⟨_,fi M a n c,?_⟩
 generalize h.push(Bm M a n c)=g at *
 have hl:=mb.len
 have hB:=KT bd
 have hB2:M.states.length * 281474976710656<=300 * 281474976710656:=Nat.mul_le_mul_right _ hst
 have hS:lj M.states<=300 * 281474976710656:=Nat.le_trans hB hB2
 refine vK(bw M a n c)h.next(fun mz i acc g'=>i<=n/\mz=n - i/\MB g' h.next M a n c/\Ok h g'/\∃ ac:Nat,acc=(ac:Int)/\ac + lj(M.states.drop i)=lj M.states)(iQ h(lj M.states:Nat))(fun mz i acc=>?_)n(i:=0)(acc:=0)⟨by omega,rfl,mb,ok,0,rfl,by rw [List.drop_zero]; omega⟩
 intros; rename_i gg hi
 obtain⟨f1,f2,mb3,ok3,ac,rfl,f5⟩:=hi
 refine⟨_,aT _,_,_,_,mb3.l3,ae(fun q1=>?_)(fun q1=>?_)⟩
 · have q1:=of_decide_eq_true q1
  obtain⟨s,hs⟩: ∃ s,M.states[i]? = some s :=⟨_,List.getElem?_eq_getElem(by omega)⟩
  obtain⟨b,o,x',y,z,e1,e2,e3,e4,ar⟩:=mb3.row.at_ hs
  have hy:=ar.len
  rw [bm hs,mj] at f5
  refine⟨_,aT _,_,_,_,mb3.l3,_,e1,_,bt _ _,_,_,_,e4,?_⟩
  have hw:IntKind.wrap .i64((ac:Int) + (y:Int))=((ac + y:Nat):Int):=by rw [ap(by omega)(by omega)]; omega
  dsimp af
  rw [hw,aK(i:=i)(n:=n)(by omega)(by omega)]
  exact vt(mz - 1)(by omega)⟨by omega,by omega,mb3,ok3,_,rfl,by omega⟩
 · have q1:=of_decide_eq_false q1
  rw [List.drop_eq_nil_of_le(by omega)] at f5
  refine⟨?_,ok3⟩
  rw [show lj []=0 from rfl,Nat.add_zero] at f5
  rw [f5]
def Y2(M:Mach)(i:Nat):Prop:= ∀ i' s,i' < i->M.states[i']? = some s->s.f.length<=900/\∀ q∈s.arcs,q.w.length<=900
def lQ(h:Heap)(M:Mach):VH:=fun v h'=>∃ b:Bool,v = .bool b/\(b=false->Small M)/\Ok h h'
def Wm(h:Heap)(k:Nat)(M:Mach)(a:Option Addr)(n c:Nat)(mz i:Nat)(g:Heap):Prop:=i<=n/\mz=n - i/\MB g k M a n c/\Ok h g/\Y2 M i
def Zd(h:Heap)(k:Nat)(M:Mach)(a:Option Addr)(n c:Nat)(s:MSt)(i:Nat)(mz2 j:Nat)(g:Heap):Prop:=j<=s.arcs.length/\mz2=s.arcs.length - j/\MB g k M a n c/\Ok h g/\Y2 M i/\s.f.length<=900/\∀ j' q,j' < j->s.arcs[j']? = some q->q.w.length<=900
set_option linter.defProp false in
def Tf(w:Wf h)(hn:n<=300){s:MSt}{i:Nat}(hs:M.states[i]? = some s)(hsl:s.arcs.length<=2000)(hi:i < n)(mv:List Value)(mz:Nat)(hmz:mz=n - i):=
 vO mv k(Wm h k M a n c)mz i(Zd h k M a n c s i)(lQ h M)(by
  intro mz2 j; intros; rename_i g hin
  obtain⟨f1,f2,mb,ok,hv,hf,hw⟩:=hin
  obtain⟨b,o,x',y,z,e1,e2,e3,e4,ar⟩:=mb.row.at_ hs
  have hm:=ar.len
  refine⟨_,aT _,_,_,_,mb.l3,_,e1,_,bt _ _,_,_,_,e4,ae(fun g1=>?_)(fun g1=>?_)⟩
  · have g1:=of_decide_eq_true g1
   obtain⟨q,hq⟩: ∃ q,s.arcs[j]? = some q :=⟨_,List.getElem?_eq_getElem(by omega)⟩
   obtain⟨bb,oo,d1,d2,d3,d4,d5,d6⟩:=ar.at_ hq
   refine⟨_,aT _,_,_,_,mb.l3,_,e1,_,bt _ _,_,_,_,e4,_,d1,_,Ji _ _,_,d5,ae(fun g2 =>⟨_,rfl,(fun e=>by cases e),ok⟩)(fun g2=>?_)⟩
   have g2:=of_decide_eq_false g2
   rw [aK(i:=j)(n:=s.arcs.length)(by omega)(by omega)]
   refine vC(mz2 - 1)(by omega)⟨by omega,by omega,mb,ok,hv,hf,fun j' q' hj hq'=>?_⟩
   rcases Nat.lt_or_ge j' j with hj2 | hj2
   · exact hw j' q' hj2 hq'
   · obtain rfl:j' = j:=by omega
    rw [hq] at hq'
    obtain rfl:=Option.some.inj hq'
    omega
  · have g1:=of_decide_eq_false g1
   rw [aK hi(by omega)]
   refine wj(n - (i + 1))(by omega)⟨by omega,rfl,mb,ok,fun i' s' hi' hs'=>?_⟩
   rcases Nat.lt_or_ge i' i with hj2 | hj2
   · exact hv i' s' hj2 hs'
   · obtain rfl:i' = i:=by omega
    rw [hs] at hs'
    obtain rfl:=Option.some.inj hs'
    refine⟨hf,fun q hq=>?_⟩
    obtain⟨j',hj',rfl⟩:=List.mem_iff_getElem.1 hq
    exact hw j' _(by omega)(List.getElem?_eq_getElem hj'))
theorem O4(w:Wf h)(bd:XP M)(r:StRow h(.slice a n c)M.states):FW SS 8 [.agg⟨bw M a n c⟩] h(lQ h M):=by
 obtain⟨mb,ok⟩:=cV w r
 refine QU(bw M a n c)h _⟨_,fi M a n c,?_⟩
 generalize h.push(Bm M a n c)=g at *
 have hl:=mb.len
 refine⟨_,aT _,_,_,_,mb.l3,ae(fun q1 =>⟨_,rfl,(fun e=>by cases e),ok⟩)(fun q1=>?_)⟩
 have q1:=of_decide_eq_false q1
 refine⟨_,mb.all,(Qd ok.wf bd(by omega)mb.row).mono ?_⟩
 rintro _ g2⟨rfl,o2⟩
 have ok2:=ok.trans o2
 have mb2:=mb.ok o2
 refine⟨_,rfl,ae(fun q2 =>⟨_,rfl,(fun e=>by cases e),ok2⟩)(fun q2=>?_)⟩
 have q2:=of_decide_eq_false q2
 refine⟨_,Iz _,_,mb2.l2,ae(fun q3 =>⟨_,rfl,(fun e=>by cases e),ok2⟩)(fun q3=>?_)⟩
 have q3:=of_decide_eq_false q3
 have hS:∀ s∈M.states,s.arcs.length<=2000:=fun s hs=>by have:=Ic hs; omega
 refine vX(bw M a n c)h.next(Wm h h.next M a n c)(lQ h M)(fun mz i=>?_)n(i:=0)⟨by omega,rfl,mb2,ok2,fun i' s hi=>by omega⟩
 intros; rename_i gg hi
 obtain⟨f1,f2,mb3,ok3,f5⟩:=hi
 refine⟨_,aT _,_,_,_,mb3.l3,ae(fun t1=>?_)(fun t1=>?_)⟩
 · have t1:=of_decide_eq_true t1
  obtain⟨s,hs⟩: ∃ s,M.states[i]? = some s :=⟨_,List.getElem?_eq_getElem(by omega)⟩
  obtain⟨b,o,x',y,z,e1,e2,e3,e4,ar⟩:=mb3.row.at_ hs
  refine⟨_,aT _,_,_,_,mb3.l3,_,e1,_,rG _ _,_,e3,ae(fun t2 =>⟨_,rfl,(fun e=>by cases e),ok3⟩)(fun t2=>?_)⟩
  have t2:=of_decide_eq_false t2
  exact Tf w(by omega)hs(hS s(List.mem_of_getElem? hs))(by omega)_ mz f2 s.arcs.length(j:=0)⟨by omega,by omega,mb3,ok3,f5,by omega,fun j' q hj=>by omega⟩
 · have t1:=of_decide_eq_false t1
  have hget:∀ s∈M.states,s.f.length<=900/\∀ q∈s.arcs,q.w.length<=900:=fun s hs=>by
   obtain⟨i',hi',rfl⟩:=List.mem_iff_getElem.1 hs
   exact f5 i' _(by omega)(List.getElem?_eq_getElem hi')
  exact⟨_,rfl,fun _ =>⟨by omega,by omega,fun s hs=>(hget s hs).1,hS,fun s hs=>(hget s hs).2,by omega⟩,ok3⟩
end
end Go.Proofs.YtoabjjimjldcfaaGreatDoor
end
section
set_option linter.unusedVariables false
set_option maxRecDepth 100000
namespace Go.Proofs.YtoabjjimjldcfaaGreatDoor
open Go Go.Ab
noncomputable def iS:Code:=(Tryz.f16.body).getD .skip
noncomputable def Eb(Q:VH):ak:=cF SS Tryz.f16.results.toList Q
def Bv:List Nat:=[1,2,4,5,17,18,19,25,26,27]
noncomputable def FG(p:List Nat)(w:LV)(h:Heap)(Q:ak):Prop:=bq SS Tryz.f16.ntmps Bv(aQ p iS)w h Q
noncomputable def vP(p b:List Nat)(K:ak):ak:=ko SS Tryz.f16.ntmps Bv p(aQ b iS)K
abbrev Vy(mv:LV)(h:Heap)(Q:VH):Prop:=xN(fp SS.P 24(.agg⟨mv⟩))h fun B1 g2=>xA(ai SS.P 24 g2(pA(h.next)))fun c3=>FW SS 12 [(.agg⟨c3⟩)] g2 fun v4 h5=>yB v4 fun b6=>ax(!b6)(Q(.bool false)h5)(xA(ai SS.P 24 h5(pA(h.next)))fun c7=>FW SS 14 [(.agg⟨c7⟩)] h5 fun v8 h9=>yB v8 fun b10=>ax(!b10)(Q(.bool false)h9)(xP(ah SS.P 24(pA(h.next))3)fun p11=>xL(ai SS.P 22 h9(.pointer(some p11)))fun a12 n13 c14=>FG [1,1,0,1,0,0] [(pA(h.next)),(.bool false),undef,undef,(.slice a12 n13 c14),(iA n13),(.int .i64 0),undef,undef,undef] h9(vP [1,1,0,1,0] [] (Eb Q))))
theorem S9(mv:LV)(h:Heap)(Q:VH)(hx:Vy mv h Q):FW SS 16 [(.agg⟨mv⟩)] h Q:=ay(M:=Bv)(c:=iS)Tryz.func16(show Tryz.f16.body=some iS by kernel_rfl)(by kernel_rfl)(aj hx(by kernel_rfl))
abbrev nf(mv:LV)(k:Nat)(a:OA)(n c:Nat)(i:Nat)(y4 y5 y25 y26 y27:Value):LV:=[(pA k),(.bool false),y4,y5,(.slice a n c),(iA n),(iA i),y25,y26,y27]
def f9(mv:LV)(k:Nat)(a:OA)(n c:Nat)(Inv:Nat->Nat->Heap->Prop)(mz:Nat)(w:LV)(h:Heap):Prop:= ∃ (i:Nat)(y4 y5 y25 y26 y27:Value),w=(nf mv k a n c i y4 y5 y25 y26 y27)/\Inv mz i h
abbrev FK(mv:LV)(k:Nat)(a:OA)(n c:Nat)(Inv:Nat->Nat->Heap->Prop)(Q:VH)(mz:Nat)(i:Nat)(y4 y5 y25 y26 y27:Value)(zz:Nat->Value)(h:Heap):Prop:=ax(decide(((i:Int):Int) < (n:Int)))(xP(ag SS.P 22(.slice a n c)(iA i))fun p15=>xA(ai SS.P 37 h(.pointer(some p15)))fun c16=>xN(bj SS.P 37)h fun B17 g18=>xU(am SS.P 37(pA(h.next))(.agg⟨c16⟩)g18)g18 fun u19 g20=>∃ B21:Blk,AY SS.P 45=some(B21,fun k=>.map(some k))/\xP(ah SS.P 37(pA(h.next))1)fun p22=>xL(ai SS.P 35(g20.push B21)(.pointer(some p22)))fun a23 n24 c25=>FG [1,1,0,1,0,0,1,1,0,0,1,1,0,1,0,0] [(pA k),(.bool false),(pA(h.next)),(.map(some g20.next)),(.slice a n c),(iA n),(iA i),(.slice a23 n24 c25),(iA n24),(.int .i64 0)] (g20.push B21)(vP [1,1,0,0,1,1,0,1,0] [1,1,0,1,0,0] (aU Bv(f9 mv k a n c Inv)mz(vP [1,1,0,1,0] [] (Eb Q)))))(Q(.bool true)h)
theorem ya {mv:LV}{k:Nat}{a:OA}{n c:Nat}{Inv:Nat->Nat->Heap->Prop}{mz:Nat}(mq:Nat){i:Nat}{y4 y5 y25 y26 y27:Value}{h:Heap}(hm:mq < mz)(hi:Inv mq i h):al(f9 mv k a n c Inv)mz(nf mv k a n c i y4 y5 y25 y26 y27)h :=⟨mq,hm,i,y4,y5,y25,y26,y27,rfl,hi⟩
theorem xJ(mv:LV)(k:Nat)(a:OA)(n c:Nat)(Inv:Nat->Nat->Heap->Prop)(Q:VH)(step:∀ (mz:Nat)(i:Nat)(y4 y5 y25 y26 y27:Value)(zz:Nat->Value)(h:Heap),Inv mz i h->FK mv k a n c Inv Q mz i y4 y5 y25 y26 y27 zz h)(mz:Nat){i:Nat}{y4 y5 y25 y26 y27:Value}{h:Heap}(hi:Inv mz i h):FG [1,1,0,1,0,0] (nf mv k a n c i y4 y5 y25 y26 y27)h(vP [1,1,0,1,0] [] (Eb Q)):=
 aq(A:=(f9 mv k a n c Inv))(show aG Tryz.f16.ntmps(aQ [1,1,0,1,0,0] iS)=true by kernel_rfl)(fun mz w zz h⟨i,y4,y5,y25,y26,y27,hw,hi⟩=> by subst hw; exact aj(step mz i y4 y5 y25 y26 y27 zz h hi)(by kernel_rfl))mz _ h⟨i,y4,y5,y25,y26,y27,rfl,hi⟩(fun zz=>by kernel_rfl)(by kernel_rfl)
abbrev nr(mv:LV)(k:Nat)(a:OA)(n c k2 k3:Nat)(b:OA)(m d i:Nat)(j:Nat)  : LV:=[(pA k),(.bool false),(pA k2),(.map(some k3)),(.slice a n c),(iA n),(iA i),(.slice b m d),(iA m),(iA j)]
def mR(mv:LV)(k:Nat)(a:OA)(n c k2 k3:Nat)(b:OA)(m d i:Nat)(Inv2:Nat->Nat->Heap->Prop)(mz2:Nat)(w:LV)(h:Heap):Prop:= ∃ (j:Nat) ,w=(nr mv k a n c k2 k3 b m d i j )/\Inv2 mz2 j h
abbrev Eo(mv:LV)(k:Nat)(a:OA)(n c k2 k3:Nat)(b:OA)(m d:Nat)(Inv:Nat->Nat->Heap->Prop)(mz i:Nat)(Inv2:Nat->Nat->Heap->Prop)(Q:VH)(mz2:Nat)(j:Nat)  (zz:Nat->Value)(h:Heap):Prop:=ax(decide(((j:Int):Int) < (m:Int)))(xP(ag SS.P 35(.slice b m d)(iA j))fun p26=>xA(ai SS.P 39 h(.pointer(some p26)))fun c27=>xN(bj SS.P 39)h fun B28 g29=>xU(am SS.P 39(pA(h.next))(.agg⟨c27⟩)g29)g29 fun u30 g31=>xP(ah SS.P 39(pA(h.next))0)fun p32=>xI .i64(ai SS.P 3 g31(.pointer(some p32)))fun n33=>xU(sB SS.P 45(.map(some k3))(.int .i64 n33)(.bool true)g31)g31 fun u34 g35=>al(mR mv k a n c k2 k3 b m d i Inv2)mz2 [(pA k),(.bool false),(pA k2),(.map(some k3)),(.slice a n c),(iA n),(iA i),(.slice b m d),(iA m),(.int .i64(IntKind.wrap .i64((j:Int) + 1)))] g35)(xI .i64(GG SS.P 45(.map(some k3))h)fun n36=>xP(ah SS.P 37(pA k2)1)fun p37=>xL(ai SS.P 35 h(.pointer(some p37)))fun a38 n39 c40=>ax(((n36:Int) != (n39:Int)))(Q(.bool false)h)(al(f9 mv k a n c Inv)mz [(pA k),(.bool false),(pA k2),(.map(some k3)),(.slice a n c),(iA n),(.int .i64(IntKind.wrap .i64((i:Int) + 1))),(.slice b m d),(iA m),(iA j)] h))
theorem yf {mv:LV}{k:Nat}{a:OA}{n c k2 k3:Nat}{b:OA}{m d i:Nat}{Inv2:Nat->Nat->Heap->Prop}{mz2:Nat}(mq:Nat){j:Nat}  {h:Heap}(hm:mq < mz2)(hi:Inv2 mq j h):al(mR mv k a n c k2 k3 b m d i Inv2)mz2(nr mv k a n c k2 k3 b m d i j )h :=⟨mq,hm,j,rfl,hi⟩
theorem xY(mv:LV)(k:Nat)(a:OA)(n c k2 k3:Nat)(b:OA)(m d:Nat)(Inv:Nat->Nat->Heap->Prop)(mz i:Nat)(Inv2:Nat->Nat->Heap->Prop)(Q:VH)(step:∀ (mz2:Nat)(j:Nat)  (zz:Nat->Value)(h:Heap),Inv2 mz2 j h->Eo mv k a n c k2 k3 b m d Inv mz i Inv2 Q mz2 j  zz h)(mz2:Nat){j:Nat}  {h:Heap}(hi:Inv2 mz2 j h):FG [1,1,0,1,0,0,1,1,0,0,1,1,0,1,0,0] (nr mv k a n c k2 k3 b m d i j )h(vP [1,1,0,0,1,1,0,1,0] [1,1,0,1,0,0] (aU Bv(f9 mv k a n c Inv)mz(vP [1,1,0,1,0] [] (Eb Q)))):=
 aq(A:=(mR mv k a n c k2 k3 b m d i Inv2))(show aG Tryz.f16.ntmps(aQ [1,1,0,1,0,0,1,1,0,0,1,1,0,1,0,0] iS)=true by kernel_rfl)(fun mz2 w zz h⟨j,hw,hi⟩=> by subst hw; exact aj(step mz2 j  zz h hi)(by kernel_rfl))mz2 _ h⟨j,rfl,hi⟩(fun zz=>by kernel_rfl)(by kernel_rfl)
noncomputable def i3:Code:=(Tryz.f17.body).getD .skip
noncomputable def FY(Q:VH):ak:=cF SS Tryz.f17.results.toList Q
def yY:List Nat:=[1,2,3,4,5]
noncomputable def Fb(p:List Nat)(w:LV)(h:Heap)(Q:ak):Prop:=bq SS Tryz.f17.ntmps yY(aQ p i3)w h Q
noncomputable def wc(p b:List Nat)(K:ak):ak:=ko SS Tryz.f17.ntmps yY p(aQ b i3)K
abbrev Vi(mv:LV)(h:Heap)(Q:VH):Prop:=xN(fp SS.P 24(.agg⟨mv⟩))h fun B1 g2=>xA(ai SS.P 24 g2(pA(h.next)))fun c3=>FW SS 13 [(.agg⟨c3⟩)] g2 fun v4 h5=>yB v4 fun b6=>ax(!b6)(Q(.bool false)h5)(xA(ai SS.P 24 h5(pA(h.next)))fun c7=>FW SS 15 [(.agg⟨c7⟩)] h5 fun v8 h9=>yB v8 fun b10=>ax(!b10)(Q(.bool false)h9)(Fb [1,1,0,1,0,0] [(pA(h.next)),(.bool false),(.int .i64 0),undef,undef] h9(wc [1,1,0,1,0] [] (FY Q))))
theorem R0(mv:LV)(h:Heap)(Q:VH)(hx:Vi mv h Q):FW SS 17 [(.agg⟨mv⟩)] h Q:=ay(M:=yY)(c:=i3)Tryz.func17(show Tryz.f17.body=some i3 by kernel_rfl)(by kernel_rfl)(aj hx(by kernel_rfl))
abbrev mD(mv:LV)(k:Nat)(i:Nat)(y4 y5:Value):LV:=[(pA k),(.bool false),(iA i),y4,y5]
def fJ(mv:LV)(k:Nat)(Inv:Nat->Nat->Heap->Prop)(mz:Nat)(w:LV)(h:Heap):Prop:= ∃ (i:Nat)(y4 y5:Value),w=(mD mv k i y4 y5)/\Inv mz i h
abbrev Ev(mv:LV)(k:Nat)(Inv:Nat->Nat->Heap->Prop)(Q:VH)(mz:Nat)(i:Nat)(y4 y5:Value)(zz:Nat->Value)(h:Heap):Prop:=xP(ah SS.P 24(pA k)3)fun p11=>xL(ai SS.P 22 h(.pointer(some p11)))fun a12 n13 c14=>ax(decide(((i:Int):Int) < (n13:Int)))(xR(aX SS.P 46(.int .i64 501)(.int .i64 501))h fun B15 n16 c17 g18=>Fb [1,1,0,1,0,0,1,0,0,1,1,0,0] [(pA k),(.bool false),(iA i),(sA(h.next)n16 c17),(.int .i64 0)] g18(wc [1,0,0,1,1,0] [1,1,0,1,0,0] (aU yY(fJ mv k Inv)mz(wc [1,1,0,1,0] [] (FY Q)))))(Q(.bool true)h)
theorem xX {mv:LV}{k:Nat}{Inv:Nat->Nat->Heap->Prop}{mz:Nat}(mq:Nat){i:Nat}{y4 y5:Value}{h:Heap}(hm:mq < mz)(hi:Inv mq i h):al(fJ mv k Inv)mz(mD mv k i y4 y5)h :=⟨mq,hm,i,y4,y5,rfl,hi⟩
theorem ye(mv:LV)(k:Nat)(Inv:Nat->Nat->Heap->Prop)(Q:VH)(step:∀ (mz:Nat)(i:Nat)(y4 y5:Value)(zz:Nat->Value)(h:Heap),Inv mz i h->Ev mv k Inv Q mz i y4 y5 zz h)(mz:Nat){i:Nat}{y4 y5:Value}{h:Heap}(hi:Inv mz i h):Fb [1,1,0,1,0,0] (mD mv k i y4 y5)h(wc [1,1,0,1,0] [] (FY Q)):=
 aq(A:=(fJ mv k Inv))(show aG Tryz.f17.ntmps(aQ [1,1,0,1,0,0] i3)=true by kernel_rfl)(fun mz w zz h⟨i,y4,y5,hw,hi⟩=> by subst hw; exact aj(step mz i y4 y5 zz h hi)(by kernel_rfl))mz _ h⟨i,y4,y5,rfl,hi⟩(fun zz=>by kernel_rfl)(by kernel_rfl)
abbrev nd(mv:LV)(k kt tn tc i:Nat)(j:Nat)  : LV:=[(pA k),(.bool false),(iA i),(sA kt tn tc),(iA j)]
def nB(mv:LV)(k kt tn tc i:Nat)(Inv2:Nat->Nat->Heap->Prop)(mz2:Nat)(w:LV)(h:Heap):Prop:= ∃ (j:Nat) ,w=(nd mv k kt tn tc i j )/\Inv2 mz2 j h
abbrev En(mv:LV)(k kt tn tc:Nat)(Inv:Nat->Nat->Heap->Prop)(mz i:Nat)(Inv2:Nat->Nat->Heap->Prop)(Q:VH)(mz2:Nat)(j:Nat)  (zz:Nat->Value)(h:Heap):Prop:=xP(ah SS.P 24(pA k)3)fun p19=>xL(ai SS.P 22 h(.pointer(some p19)))fun a20 n21 c22=>xP(ag SS.P 22(.slice a20 n21 c22)(iA i))fun p23=>xP(ah SS.P 37(.pointer(some p23))1)fun p24=>xL(ai SS.P 35 h(.pointer(some p24)))fun a25 n26 c27=>ax(decide(((j:Int):Int) < (n26:Int)))(xP(ah SS.P 24(pA k)3)fun p28=>xL(ai SS.P 22 h(.pointer(some p28)))fun a29 n30 c31=>xP(ag SS.P 22(.slice a29 n30 c31)(iA i))fun p32=>xP(ah SS.P 37(.pointer(some p32))1)fun p33=>xL(ai SS.P 35 h(.pointer(some p33)))fun a34 n35 c36=>xP(ag SS.P 35(.slice a34 n35 c36)(iA j))fun p37=>xP(ah SS.P 39(.pointer(some p37))0)fun p38=>xI .i64(ai SS.P 3 h(.pointer(some p38)))fun n39=>xP(ag SS.P 46(sA kt tn tc)(.int .i64 n39))fun p40=>xB(ai SS.P 4 h(.pointer(some p40)))fun b41=>ax b41(Q(.bool false)h)(xP(ah SS.P 24(pA k)3)fun p42=>xL(ai SS.P 22 h(.pointer(some p42)))fun a43 n44 c45=>xP(ag SS.P 22(.slice a43 n44 c45)(iA i))fun p46=>xP(ah SS.P 37(.pointer(some p46))1)fun p47=>xL(ai SS.P 35 h(.pointer(some p47)))fun a48 n49 c50=>xP(ag SS.P 35(.slice a48 n49 c50)(iA j))fun p51=>xP(ah SS.P 39(.pointer(some p51))0)fun p52=>xI .i64(ai SS.P 3 h(.pointer(some p52)))fun n53=>xP(ag SS.P 46(sA kt tn tc)(.int .i64 n53))fun p54=>xU(am SS.P 4(.pointer(some p54))(.bool true)h)h fun u55 g56=>al(nB mv k kt tn tc i Inv2)mz2 [(pA k),(.bool false),(iA i),(sA kt tn tc),(.int .i64(IntKind.wrap .i64((j:Int) + 1)))] g56))(al(fJ mv k Inv)mz [(pA k),(.bool false),(.int .i64(IntKind.wrap .i64((i:Int) + 1))),(sA kt tn tc),(iA j)] h)
theorem yc {mv:LV}{k kt tn tc i:Nat}{Inv2:Nat->Nat->Heap->Prop}{mz2:Nat}(mq:Nat){j:Nat}  {h:Heap}(hm:mq < mz2)(hi:Inv2 mq j h):al(nB mv k kt tn tc i Inv2)mz2(nd mv k kt tn tc i j )h :=⟨mq,hm,j,rfl,hi⟩
theorem xu(mv:LV)(k kt tn tc:Nat)(Inv:Nat->Nat->Heap->Prop)(mz i:Nat)(Inv2:Nat->Nat->Heap->Prop)(Q:VH)(step:∀ (mz2:Nat)(j:Nat)  (zz:Nat->Value)(h:Heap),Inv2 mz2 j h->En mv k kt tn tc Inv mz i Inv2 Q mz2 j  zz h)(mz2:Nat){j:Nat}  {h:Heap}(hi:Inv2 mz2 j h):Fb [1,1,0,1,0,0,1,0,0,1,1,0,0] (nd mv k kt tn tc i j )h(wc [1,0,0,1,1,0] [1,1,0,1,0,0] (aU yY(fJ mv k Inv)mz(wc [1,1,0,1,0] [] (FY Q)))):=
 aq(A:=(nB mv k kt tn tc i Inv2))(show aG Tryz.f17.ntmps(aQ [1,1,0,1,0,0,1,0,0,1,1,0,0] i3)=true by kernel_rfl)(fun mz2 w zz h⟨j,hw,hi⟩=> by subst hw; exact aj(step mz2 j  zz h hi)(by kernel_rfl))mz2 _ h⟨j,rfl,hi⟩(fun zz=>by kernel_rfl)(by kernel_rfl)
end Go.Proofs.YtoabjjimjldcfaaGreatDoor
end
section
set_option linter.unusedVariables false
set_option maxRecDepth 100000
namespace Go.Proofs.YtoabjjimjldcfaaGreatDoor
open Go Go.Ab
theorem Dj {kind:Int}{N:Nat} : ∀ {l:List MSt}{acc:Int},nL kind N acc l=true->∀ s∈l,(s.f == [] || Num.weightOk kind s.f)=true/\∀ q∈s.arcs,eC kind N q=true
 | [],_,_,s,hs=>by cases hs
 | x :: l,acc,h,s,hs=>by
  unfold nL at h
  simp af [Bool.and_eq_true] at h
  obtain⟨⟨⟨h1,h2⟩,h3⟩,h4⟩:=h
  rcases List.mem_cons.1 hs with rfl | hs
  · exact⟨h2,fun q hq=>List.all_eq_true.1 h3 q hq⟩
  · exact Dj h4 s hs
structure ArcIn(N:Nat)(q:MArc):Prop where
 i0:0<=q.i
 i1:q.i<=500
 o0:0<=q.o
 o1:q.o<=500
 t0:0<=q.t
 t1:q.t < N
theorem QW {kind:Int}{N:Nat}{q:MArc}(h:eC kind N q=true):ArcIn N q:=by
 unfold eC px at h
 simp af [Bool.and_eq_true,decide_eq_true_eq] at h
 obtain⟨⟨⟨⟨⟨h1,h2⟩,h3,h4⟩,h5⟩,h6⟩,h7⟩:=h
 exact⟨h1,h2,h3,h4,h5,h6⟩
structure Good(M:Mach):Prop where
 start0:0<=M.start
 start1:M.start < M.states.length
 arcs:∀ s∈M.states,∀ q∈s.arcs,ArcIn M.states.length q
theorem pJ {M:Mach}(h:bZ M=true):Good M:=by
 unfold bZ at h
 simp af [Bool.and_eq_true,decide_eq_true_eq] at h
 obtain⟨⟨⟨⟨⟨⟨⟨h1,h2⟩,h3⟩,h4⟩,h5⟩,h6⟩,h7⟩,h8⟩:=h
 exact⟨h5,h6,fun s hs q hq=>QW((Dj h8 s hs).2 q hq)⟩
theorem Vo(a b:Int):wJ SS.P 3(.int .i64 a)(.int .i64 b)=some(decide(a=b)):=by
 by_cases h:a=b
 · subst h
  have e:e7 SS.P 3 3(.int .i64 a)(.int .i64 a)=some(a == a):=by kernel_rfl
  unfold wJ
  rw [if_pos(show vZ(Value.int .i64 a)=true from rfl),e]
  simp [K1,GJ]
 · have e:e7 SS.P 3 3(.int .i64 a)(.int .i64 b)=some(a == b):=by kernel_rfl
  unfold wJ
  rw [if_pos(show vZ(Value.int .i64 b)=true from rfl),e,show(a == b)=false by simpa using h]
  simp [h]
def rU(l:List Int)(k:Int):List Int:=if k∈l then l else l ++ [k]
def Cp(x:Int):Value × Value:=(.int .i64 x,.bool true)
theorem GA(k:Int):∀ l:List Int,iK SS.P 3(.int .i64 k)(.bool true)(l.map Cp)=some((rU l k).map Cp)
 | []=>rfl
 | x :: l=>by
  show(match wJ SS.P 3(.int .i64 k)(.int .i64 x) with | some true=>some((Value.int .i64 k,Value.bool true) :: l.map Cp) | some false=>(iK SS.P 3(.int .i64 k)(.bool true)(l.map Cp)).map(Cp x :: ·) | none=>none)=_
  rw [Vo]
  by_cases h:k=x
  · subst h
   simp [rU,Cp]
  · rw [show decide(k=x)=false by simpa using h]
   dsimp af
   rw [GA k l]
   unfold rU
   by_cases h2:k∈l
   · rw [if_pos h2,if_pos(List.mem_cons_of_mem _ h2)]; rfl
   · rw [if_neg h2,if_neg(fun e=>by rcases List.mem_cons.1 e with e | e; exact h e; exact h2 e)]; rfl
theorem zl:∀ (l acc:List Int),acc.Nodup->((l.foldl rU acc).length=acc.length + l.length↔(acc ++ l).Nodup)/\(l.foldl rU acc).length<=acc.length + l.length
 | [],acc,h=>by simp [h]
 | x :: l,acc,h=>by
  rw [List.foldl_cons]
  by_cases hx:x∈acc
  · have e:rU acc x=acc:=by unfold rU; rw [if_pos hx]
   rw [e]
   obtain⟨h1,h2⟩:=zl l acc h
   refine⟨⟨fun h3=>by simp at h3; omega,fun h3=>?_⟩,by simp; omega⟩
   rw [List.nodup_append] at h3
   exact absurd rfl(h3.2.2 x hx x(List.mem_cons_self ..))
  · have e:rU acc x=acc ++ [x]:=by unfold rU; rw [if_neg hx]
   rw [e]
   have hn:(acc ++ [x]).Nodup:=by
    rw [List.nodup_append]
    refine⟨h,by simp,fun a ha b hb=>?_⟩
    rw [List.mem_singleton] at hb
    rintro rfl
    exact hx(hb▸ha)
   obtain⟨h1,h2⟩:=zl l(acc ++ [x])hn
   rw [List.append_assoc] at h1
   simp af [List.length_append,List.length_cons,List.length_nil,List.singleton_append] at h1 h2 ⊢
   refine⟨⟨fun h3=>h1.1(by omega),fun h3=>?_⟩,by omega⟩
   have:=h1.2 h3; omega
theorem Wt:SS.P.underlying 45=some(.map 3 4):=by kernel_rfl
theorem XB {h:Heap}{k:Nat}{l:List Int}(hk:h.get k=some(.map(l.map Cp)))(x:Int):sB SS.P 45(.map(some k))(.int .i64 x)(.bool true)h=some(undef,.set k(.map((rU l x).map Cp))):=by
 unfold sB
 rw [Wt]; dsimp af
 rw [hk]; dsimp af
 rw [show nC SS.P 3(.int .i64 x)=true by kernel_rfl,if_pos rfl,GA]; rfl
theorem WK {h:Heap}{k:Nat}{es:List(Value × Value)}(hk:h.get k=some(.map es)):GG SS.P 45(.map(some k))h=some(.int .i64(es.length:Int)):=by
 unfold GG
 rw [Wt]; dsimp af
 rw [hk]
theorem W2:AY SS.P 45=some(.map [],fun k=>.map(some k)):=by kernel_rfl
def eu(s:MSt):List Int:=s.arcs.map(·.i)
def yh(s:MSt):Bool:=decide(eu s).Nodup
def BY(M:Mach):Bool:=Jk M && vA M && M.states.all yh
section
variable {h:Heap}{k:Nat}{M:Mach}{a:Option Addr}{n c:Nat}
def R8(h:Heap)(k:Nat)(M:Mach)(a:Option Addr)(n c:Nat)(V:Bool)(mz i:Nat)(g:Heap):Prop:=i<=n/\mz=n - i/\MB g k M a n c/\Ok h g/\(M.states.drop i).all yh=V
set_option linter.defProp false in
def PV {hb:Heap}(w:Wf hb)(okb:Ok h hb)(sm:Small M)(V:Bool){s:MSt}{b:Option Addr}{m d i k2 k3:Nat}(hs:M.states[i]? = some s)(hi:i < n)(mb0:MB hb k M a n c)(hv:(yh s && (M.states.drop(i + 1)).all yh)=V)(hk3:hb.next<=k3)(mv:List Value)(mz:Nat)(hmz:mz=n - i):=
 xY mv k a n c k2 k3 b m d(R8 h k M a n c V)mz i(fun mz2 j g=>j<=m/\mz2=m - j/\Ok hb g/\ArcRow g(.slice b m d)s.arcs/\g.get k2=some(.cells [aa s.f,.slice b m d] 37 0 true)/\k3≠k2/\hb.next<=k2/\g.get k3=some(.map((((eu s).take j).foldl rU []).map Cp)))(bQ h V)(by
  intro mz2 j; intros; rename_i g hin
  obtain⟨f1,f2,ok,ar,sb,hne,hk2,hm⟩:=hin
  have mb:=mb0.ok ok
  have hn:n<=300:=by rw [mb.len]; exact sm.sts
  obtain⟨l1,l2,l3⟩:=dl sm hs
  have hml:=ar.len
  refine ae(fun g1=>?_)(fun g1=>?_)
  · have g1:=of_decide_eq_true g1
   obtain⟨q,hq⟩: ∃ q,s.arcs[j]? = some q :=⟨_,List.getElem?_eq_getElem(by omega)⟩
   obtain⟨bb,o,e1,e2,e3⟩:=ar.at_ hq
   obtain⟨u,p1,p2,p3⟩:=Iu ok.wf q
   have hm2:=p2.ext _ _ hm
   refine⟨_,e1,_,e2,_,QE,u,p1,_,iF _ _,_,p3.l0,_,XB hm2 q.i,?_⟩
   have okg:=ok.trans p2
   have sb2:=p2.ext _ _ sb
   have ar2:=ar.ok p2
   generalize u.app(g.push PF)=g2 at *
   rw [aK(i:=j)(n:=m)(by omega)(by omega)]
   have ok3:Ok hb((Upd.set k3(.map((rU(((eu s).take j).foldl rU [])q.i).map Cp))).app g2):=okg.set _ hk3(okg.wf _ _ hm2)w
   have hq' : (eu s)[j]? = some q.i:=by unfold eu; rw [List.getElem?_map,hq]; rfl
   have ht:(eu s).take(j + 1)=(eu s).take j ++ [q.i]:=by rw [List.take_add_one,hq']; rfl
   refine yf(mz2 - 1)(by omega)⟨by omega,by omega,ok3,?_,?_,hne,hk2,?_⟩
   ·
    obtain⟨bb',oo',xx,yy,zz,_,_,_,w4,ar0⟩:=(mb0.ok ok3).row.at_ hs
    obtain⟨bb2,oo2,xx2,yy2,zz2,v1,_,_,v4,ar02⟩:=(mb0.ok okg).row.at_ hs
    obtain⟨r1,⟨r2,r3⟩|⟨kk,off,cs,e',z',cc,wr,r2,r3,r4,r5⟩⟩:=ar2
    · exact⟨r1,.inl⟨r2,r3⟩⟩
    · refine⟨r1,.inr⟨kk,off,cs,e',z',cc,wr,r2,?_,r4,r5⟩⟩
     show(g2.set k3 _).get kk=_
     rw [Heap.get_set,if_neg(fun e=>by rw [e,hm2] at r3; cases r3)]
     exact r3
   · show(g2.set k3 _).get k2=_
    rw [Heap.get_set,if_neg(fun e=>hne e.symm)]
    exact sb2
   · show(g2.set k3 _).get k3=_
    rw [Heap.get_set,if_pos rfl,ht,List.foldl_append]; rfl
  · have g1:=of_decide_eq_false g1
   obtain rfl:m=j:=by omega
   have sbl:SB g k2 s.f b m d:=sb
   refine⟨_,WK hm,_,bt _ _,_,_,_,sbl.l1,?_⟩
   have hlen:(eu s).length=m:=by unfold eu; rw [List.length_map]; exact hml.symm
   obtain⟨q1,q2⟩:=zl(eu s) [] List.nodup_nil
   rw [List.nil_append,List.length_nil,Nat.zero_add,hlen] at q1
   rw [List.length_map,List.take_of_length_le(by omega)]
   refine ae(fun t =>⟨?_,okb.trans ok⟩)(fun t=>?_)
   · have t : ¬ (((eu s).foldl rU []).length:Int)=(m:Int):=by simpa using t
    rw [<- hv,show yh s=false from decide_eq_false fun e=>t(by rw [q1.2 e])]; rfl
   · have t:(((eu s).foldl rU []).length:Int)=(m:Int):=by simpa using t
    rw [show yh s=true from decide_eq_true(q1.1(by omega)),Bool.true_and] at hv
    rw [aK hi(by omega)]
    exact ya(n - (i + 1))(by omega)⟨by omega,rfl,mb,okb.trans ok,hv⟩)
theorem Rx(tb:Tab h)(w:Wf h)(sm:Small M)(r:StRow h(.slice a n c)M.states):FW SS 16 [.agg⟨bw M a n c⟩] h(fun v h'=>v = .bool(BY M)/\Ok h h'):=by
 obtain⟨mb,ok⟩:=cV w r
 refine S9(bw M a n c)h _⟨_,fi M a n c,_,mb.all,(Kz(tb.ok ok)ok.wf sm mb.row).mono ?_⟩
 generalize h.push(Bm M a n c)=g at *
 rintro _ g2⟨rfl,o2⟩
 have ok2:=ok.trans o2
 have mb2:=mb.ok o2
 have hn:n<=300:=by rw [mb.len]; exact sm.sts
 refine⟨_,rfl,ae(fun q =>⟨?_,ok2⟩)(fun q=>?_)⟩
 · rw [Bool.not_eq_true'] at q
  unfold BY; rw [q]; rfl
 rw [Bool.not_eq_false'] at q
 refine⟨_,mb2.all,(CU(tb.ok ok2)ok2.wf sm mb2.row).mono ?_⟩
 rintro _ g3⟨rfl,o3⟩
 have ok3:=ok2.trans o3
 have mb3:=mb2.ok o3
 refine⟨_,rfl,ae(fun t =>⟨?_,ok3⟩)(fun t=>?_)⟩
 · rw [Bool.not_eq_true'] at t
  unfold BY; rw [t,Bool.and_false]; rfl
 rw [Bool.not_eq_false'] at t
 obtain⟨V,hV⟩: ∃ V,V=M.states.all yh :=⟨_,rfl⟩
 have:BY M=V:=by unfold BY; rw [q,t,hV]; rfl
 rw [this]
 refine⟨_,aT _,_,_,_,mb3.l3,?_⟩
 refine xJ(bw M a n c)h.next a n c(R8 h h.next M a n c V)(bQ h V)(fun mz i=>?_)n(i:=0)⟨by omega,rfl,mb3,ok3,hV.symm⟩
 intros; rename_i gg hi
 obtain⟨f1,f2,mb4,ok4,f5⟩:=hi
 have hl:=mb4.len
 refine ae(fun q1=>?_)(fun q1=>?_)
 · have q1:=of_decide_eq_true q1
  obtain⟨s,hs⟩: ∃ s,M.states[i]? = some s :=⟨_,List.getElem?_eq_getElem(by omega)⟩
  obtain⟨b,o,x',y,z,e1,e2,e3,e4,ar⟩:=mb4.row.at_ hs
  rw [bm hs,List.all_cons] at f5
  obtain⟨u,p1,p2,p3⟩:=Db ok4.wf s.f x' y z
  have p4:=(Ok.refl p2.wf).push(.map [])
  have hk3:=aZ(u.app(gg.push Nr))(.map [])
  have hlt:gg.next < (u.app(gg.push Nr)).next:=p2.wf _ _ p3
  refine⟨_,e1,_,e2,_,M7,u,p1,_,W2,_,bt _ _,_,_,_,(p3.ok p4).l1,?_⟩
  generalize u.app(gg.push Nr)=g5 at *
  exact PV ok4.wf ok4 sm V hs(by omega)mb4 f5(by omega)_ mz f2 y(j:=0)⟨by omega,rfl,p2.trans p4,(ar.ok p2).ok p4,p3.ok p4,by omega,Nat.le_refl _,hk3⟩
 · have q1:=of_decide_eq_false q1
  rw [List.drop_eq_nil_of_le(by omega)] at f5
  exact⟨by rw [<- f5]; rfl,ok4⟩
end
end Go.Proofs.YtoabjjimjldcfaaGreatDoor
end
section
set_option linter.unusedVariables false
set_option maxRecDepth 100000
namespace Go.Proofs.YtoabjjimjldcfaaGreatDoor
open Go Go.Ab
theorem My:SS.P.underlying 46=some(.slice 4):=by kernel_rfl
theorem RH : au SS.P 4=some 1:=by kernel_rfl
noncomputable def ti4:TypeInfo:=(SS.P.info? 4).getD default
theorem Ur:SS.P.info? 4=some ti4:=by kernel_rfl
theorem Oy:ti4.size=1:=by kernel_rfl
theorem Mp:ti4.bytes=1:=by kernel_rfl
theorem WZ:cq SS.P 4=some(.bool false):=by kernel_rfl
theorem Si(n:Nat)(hn:n<=100000):aX SS.P 46(.int .i64(n:Int))(.int .i64(n:Int))=some(.cells((List.replicate n false).map Value.bool)4 1 true,mC n n):=by
 unfold aX aH
 dsimp af
 rw [My]
 try dsimp af
 change(match SS.P.info? 4,cq SS.P 4 with
  | some i,some z=>(if z.cells.size=i.size/\0 < i.size/\(0:Int)<=(n:Int)/\(n:Int)<=(n:Int)/\(n:Int) * i.bytes<=140737488355328/\(n:Int)<=1099511627776 then some(Blk.cells(bi z.cells.toList(n:Int).toNat)4 i.size true,fun k=>Value.slice(some⟨k,0,none⟩)(n:Int).toNat(n:Int).toNat) else none)
  | _,_=>none)=_
 rw [Ur,WZ]
 dsimp af
 rw [Oy,Mp,if_pos⟨rfl,by omega,by omega,Int.le_refl _,by omega,by omega⟩]
 have e:((n:Int)).toNat=n:=by omega
 rw [e,show(Value.bool false).cells.toList=[Value.bool false] from rfl,pM,List.map_replicate]; rfl
structure BR(hb:Heap)(kt N:Nat)(L:List Bool)(g:Heap):Prop where
 len:L.length=N
 row:IRow hb kt 4(L.map Value.bool)g
theorem BR.trans {hb:Heap}{kt N:Nat}{L:List Bool}{g g' : Heap}(m:BR hb kt N L g)(o:Ok g g'):BR hb kt N L g' :=⟨m.len,m.row.trans o⟩
theorem BR.get {hb:Heap}{kt N c:Nat}{L:List Bool}{g:Heap}(m:BR hb kt N L g){x:Int}(h0:0<=x)(h1:x < N):ag SS.P 46(.slice(some⟨kt,0,none⟩)N c)(.int .i64 x)=some(.pointer(some⟨kt,x.toNat,none⟩))/\ai SS.P 4 g(.pointer(some⟨kt,x.toNat,none⟩))=some(.bool(L.getD x.toNat false))/\
  ∀ b:Bool,Wf hb->∃ u:Upd,am SS.P 4(.pointer(some⟨kt,x.toNat,none⟩))(.bool b)g=some(undef,u)/\BR hb kt N(L.set x.toNat b)(u.app g)/\(∀ k' B,g.get k' = some B->k'≠kt->(u.app g).get k' = some B):=by
 have e:0 + x.toNat * 1=x.toNat:=by omega
 have hl:x.toNat < L.length:=by rw [m.len]; omega
 refine⟨by rw [<- e]; exact Rh My RH h0 h1,?_,?_⟩
 · rw [ey Yx XS m.row.row(by rw [List.length_map]; exact hl),List.getD_eq_getElem?_getD,List.getElem?_map,List.getD_eq_getElem?_getD,List.getElem?_eq_getElem hl]; rfl
 · intro b w
  refine⟨_,yU RH m.row.row(by rw [List.length_map]; exact hl)rfl rfl,⟨by rw [List.length_set]; exact m.len,?_⟩,fun k' B hk hne=>?_⟩
  · have:=m.row.set w x.toNat(.bool b)
   rw [D6 Value.bool L x.toNat b] at this ⊢
   exact this
  · show(g.set kt _).get k' = _
   rw [Heap.get_set,if_neg hne]; exact hk
theorem BR.new {h:Heap}(w:Wf h)(n:Nat):BR h h.next n(List.replicate n false)(h.push(.cells((List.replicate n false).map Value.bool)4 1 true)):=
 ⟨List.length_replicate,aZ h _,Nat.le_refl _,(Ok.refl w).push _⟩
theorem AW {L:List Bool}{x y:Nat}{b:Bool}(hx:x < L.length):(L.set x b).getD y false=if y=x then b else L.getD y false:=by
 rw [List.getD_eq_getElem?_getD,List.getElem?_set,List.getD_eq_getElem?_getD]
 split
 · next e=>subst e; simp
 · next e=>rw [if_neg(fun c=>e c.symm)]
section
variable {h:Heap}{k:Nat}{M:Mach}{a:Option Addr}{n c:Nat}
set_option linter.defProp false in
def OE {hb:Heap}(w:Wf hb)(okb:Ok h hb)(sm:Small M)(gd:Good M)(V:Bool){s:MSt}{i kt:Nat}(hs:M.states[i]? = some s)(hi:i < n)(mb0:MB hb k M a n c)(hv:(yh s && (M.states.drop(i + 1)).all yh)=V)(mv:List Value)(mz:Nat)(hmz:mz=n - i):=
 xu mv k kt 501 501(R8 h k M a n c V)mz i(fun mz2 j g=>j<=s.arcs.length/\mz2=s.arcs.length - j/\∃ L,BR hb kt 501 L g/\(∀ x:Nat,x < 501->(L.getD x false=true↔(x:Int)∈(eu s).take j))/\((eu s).take j).Nodup)(bQ h V)(by
  intro mz2 j; intros; rename_i g hin
  obtain⟨f1,f2,L,br,hL,hnd⟩:=hin
  have ok:=br.row.ok
  have mb:=mb0.ok ok
  have hn:n<=300:=by rw [mb.len]; exact sm.sts
  obtain⟨l1,l2,l3⟩:=dl sm hs
  obtain⟨b,o,x',y,z,e1,e2,e3,e4,ar⟩:=mb.row.at_ hs
  have hm:=ar.len
  refine⟨_,aT _,_,_,_,mb.l3,_,e1,_,bt _ _,_,_,_,e4,ae(fun g1=>?_)(fun g1=>?_)⟩
  · have g1:=of_decide_eq_true g1
   obtain⟨q,hq⟩: ∃ q,s.arcs[j]? = some q :=⟨_,List.getElem?_eq_getElem(by omega)⟩
   obtain⟨bb,oo,d1,d2,d3,d4,d5,d6⟩:=ar.at_ hq
   have hin:=gd.arcs s(List.mem_of_getElem? hs)q(List.mem_of_getElem? hq)
   have hi0:=hin.i0
   have hi1:=hin.i1
   obtain⟨r1,r2,r3⟩:=br.get(c:=501)(x:=q.i)hi0(by omega)
   have hq' : (eu s)[j]? = some q.i:=by unfold eu; rw [List.getElem?_map,hq]; rfl
   have ht:(eu s).take(j + 1)=(eu s).take j ++ [q.i]:=by rw [List.take_add_one,hq']; rfl
   have hLq:=hL q.i.toNat(by omega)
   rw [show((q.i.toNat:Nat):Int)=q.i by omega] at hLq
   refine⟨_,aT _,_,_,_,mb.l3,_,e1,_,bt _ _,_,_,_,e4,_,d1,_,iF _ _,_,d3,_,r1,_,r2,ae(fun g2 =>⟨?_,okb.trans ok⟩)(fun g2=>?_)⟩
   · have hmem:=hLq.1 g2
    have : ¬ (eu s).Nodup:=fun hnd2=>by
     rw [<- List.take_append_drop j(eu s),List.nodup_append] at hnd2
     refine hnd2.2.2 _ hmem q.i ?_ rfl
     rw [bm hq']; exact List.mem_cons_self ..
    rw [<- hv,show yh s=false from decide_eq_false this]; rfl
   · have hnm:q.i ∉ (eu s).take j:=fun c=>by rw [hLq.2 c] at g2; cases g2
    obtain⟨u,s1,s2,s3⟩:=r3 true w
    refine⟨_,aT _,_,_,_,mb.l3,_,e1,_,bt _ _,_,_,_,e4,_,d1,_,iF _ _,_,d3,_,r1,u,s1,?_⟩
    rw [aK(i:=j)(n:=s.arcs.length)(by omega)(by omega)]
    refine yc(mz2 - 1)(by omega)⟨by omega,by omega,_,s2,fun x hx=>?_,?_⟩
    · rw [AW(by rw [br.len]; omega),ht,List.mem_append,List.mem_singleton]
     by_cases e:x=q.i.toNat
     · rw [if_pos e]
      exact⟨fun _=>.inr(by omega),fun _=>rfl⟩
     · rw [if_neg e,hL x hx]
      exact⟨.inl,fun c=>c.elim id(fun c=>absurd(by omega)e)⟩
    · rw [ht,List.nodup_append]
     refine⟨hnd,by simp,fun a1 h1 b1 h2=>?_⟩
     rw [List.mem_singleton] at h2
     rintro rfl
     exact hnm(h2▸h1)
  · have g1:=of_decide_eq_false g1
   rw [List.take_of_length_le(by unfold eu; rw [List.length_map]; omega)] at hnd
   rw [show yh s=true from decide_eq_true hnd,Bool.true_and] at hv
   rw [aK hi(by omega)]
   exact xX(n - (i + 1))(by omega)⟨by omega,rfl,mb,okb.trans ok,hv⟩)
theorem Tu(w:Wf h)(sm:Small M)(r:StRow h(.slice a n c)M.states):FW SS 17 [.agg⟨bw M a n c⟩] h(fun v h'=>v = .bool(BY M)/\Ok h h'):=by
 obtain⟨mb,ok⟩:=cV w r
 refine R0(bw M a n c)h _⟨_,fi M a n c,_,mb.all,(Kx ok.wf sm mb.row).mono ?_⟩
 generalize h.push(Bm M a n c)=g at *
 rintro _ g2⟨rfl,o2⟩
 have ok2:=ok.trans o2
 have mb2:=mb.ok o2
 have hn:n<=300:=by rw [mb.len]; exact sm.sts
 refine⟨_,rfl,ae(fun q =>⟨?_,ok2⟩)(fun q=>?_)⟩
 · rw [Bool.not_eq_true'] at q
  unfold BY; rw [q]; rfl
 rw [Bool.not_eq_false'] at q
 refine⟨_,mb2.all,(C2 ok2.wf sm mb2.row).mono ?_⟩
 rintro _ g3⟨rfl,o3⟩
 have ok3:=ok2.trans o3
 have mb3:=mb2.ok o3
 refine⟨_,rfl,ae(fun t =>⟨?_,ok3⟩)(fun t=>?_)⟩
 · rw [Bool.not_eq_true'] at t
  unfold BY; rw [t,Bool.and_false]; rfl
 rw [Bool.not_eq_false'] at t
 have gd:Good M:=pJ(by unfold Jk at q; rw [Bool.and_eq_true] at q; exact q.1)
 obtain⟨V,hV⟩: ∃ V,V=M.states.all yh :=⟨_,rfl⟩
 have:BY M=V:=by unfold BY; rw [q,t,hV]; rfl
 rw [this]
 refine ye(bw M a n c)h.next(R8 h h.next M a n c V)(bQ h V)(fun mz i=>?_)n(i:=0)⟨by omega,rfl,mb3,ok3,hV.symm⟩
 intros; rename_i gg hi
 obtain⟨f1,f2,mb4,ok4,f5⟩:=hi
 have hl:=mb4.len
 refine⟨_,aT _,_,_,_,mb4.l3,ae(fun q1=>?_)(fun q1=>?_)⟩
 · have q1:=of_decide_eq_true q1
  obtain⟨s,hs⟩: ∃ s,M.states[i]? = some s :=⟨_,List.getElem?_eq_getElem(by omega)⟩
  rw [bm hs,List.all_cons] at f5
  refine⟨_,_,_,Si 501(by omega),?_⟩
  exact OE ok4.wf ok4 sm gd V hs(by omega)mb4 f5 _ mz f2 s.arcs.length(j:=0)⟨by omega,by omega,_,BR.new ok4.wf 501,fun x hx=>by rw [List.take_zero,List.getD_eq_getElem?_getD,List.getElem?_replicate,if_pos hx]; simp,List.nodup_nil⟩
 · have q1:=of_decide_eq_false q1
  rw [List.drop_eq_nil_of_le(by omega)] at f5
  exact⟨by rw [<- f5]; rfl,ok4⟩
end
end Go.Proofs.YtoabjjimjldcfaaGreatDoor
end
section
set_option linter.unusedVariables false
set_option maxRecDepth 100000
namespace Go.Proofs.YtoabjjimjldcfaaGreatDoor
open Go Go.Ab
noncomputable def Ay:Code:=(Tryz.f79.body).getD .skip
def RA:List Nat:=[]
abbrev S5(s:Int)(k7 k8:Nat)(h:Heap)(Q:VH):Prop:=xL(ai SS.P 46 h(pA k7))fun a1 n2 c3=>xP(ag SS.P 46(.slice a1 n2 c3)(.int .i64 s))fun p4=>xB(ai SS.P 4 h(.pointer(some p4)))fun b5=>ax(!b5)(xL(ai SS.P 46 h(pA k7))fun a6 n7 c8=>xP(ag SS.P 46(.slice a6 n7 c8)(.int .i64 s))fun p9=>xU(am SS.P 4(.pointer(some p9))(.bool true)h)h fun u10 g11=>xL(ai SS.P 48 g11(pA k8))fun a12 n13 c14=>xR(az SS.P 48 1 [(0,(.int .i64 s))])g11 fun B15 n16 c17 g18=>xE(aC SS.P 48 48(.slice a12 n13 c14)(sA(g11.next)n16 c17)g18)g18 fun a19 n20 c21 u22 g23=>xU(am SS.P 48(pA k8)(.slice a19 n20 c21)g23)g23 fun u24 g25=>Q(.tuple⟨[]⟩)g25)(Q(.tuple⟨[]⟩)h)
theorem PP(s:Int)(k7 k8:Nat)(h:Heap)(Q:VH)(hx:S5 s k7 k8 h Q):FW SS 79 [(.int .i64 s),(pA k7),(pA k8)] h Q:=ay(M:=RA)(c:=Ay)Tryz.func79(show Tryz.f79.body=some Ay by kernel_rfl)(by kernel_rfl)(aj hx(by kernel_rfl))
noncomputable def Ac:Code:=(Tryz.f62.body).getD .skip
def S0:List Nat:=[]
abbrev Tb(s:Int)(k:Nat)(h:Heap)(Q:VH):Prop:=xL(ai SS.P 72 h(pA k))fun a1 n2 c3=>xP(ag SS.P 72(.slice a1 n2 c3)(.int .i64 s))fun p4=>xL(ai SS.P 48 h(.pointer(some p4)))fun a5 n6 c7=>Q(.slice a5 n6 c7)h
theorem QH(s:Int)(k:Nat)(h:Heap)(Q:VH)(hx:Tb s k h Q):FW SS 62 [(.int .i64 s),(pA k)] h Q:=ay(M:=S0)(c:=Ac)Tryz.func62(show Tryz.f62.body=some Ac by kernel_rfl)(by kernel_rfl)(aj hx(by kernel_rfl))
noncomputable def za:Code:=(Tryz.f63.body).getD .skip
def RM:List Nat:=[]
abbrev S6(s:Int)(k:Nat)(h:Heap)(Q:VH):Prop:=xL(ai SS.P 72 h(pA k))fun a1 n2 c3=>xP(ag SS.P 72(.slice a1 n2 c3)(.int .i64 s))fun p4=>xL(ai SS.P 48 h(.pointer(some p4)))fun a5 n6 c7=>Q(.slice a5 n6 c7)h
theorem Qa(s:Int)(k:Nat)(h:Heap)(Q:VH)(hx:S6 s k h Q):FW SS 63 [(.int .i64 s),(pA k)] h Q:=ay(M:=RM)(c:=za)Tryz.func63(show Tryz.f63.body=some za by kernel_rfl)(by kernel_rfl)(aj hx(by kernel_rfl))
noncomputable def dR:Code:=(Tryz.f61.body).getD .skip
noncomputable def lO(Q:VH):ak:=cF SS Tryz.f61.results.toList Q
def pQ:List Nat:=[0,1,2,7,8,9,18,19,20,44,45,46]
noncomputable def mh(p:List Nat)(w:LV)(h:Heap)(Q:ak):Prop:=bq SS Tryz.f61.ntmps pQ(aQ p dR)w h Q
noncomputable def ic(p b:List Nat)(K:ak):ak:=ko SS Tryz.f61.ntmps pQ p(aQ b dR)K
abbrev Pq(N:Int)(a:OA)(n c f kn:Nat)(h:Heap)(Q:VH):Prop:=xR(aX SS.P 46(.int .i64 N)(.int .i64 N))h fun B1 n2 c3 g4=>xN(bj SS.P 46)g4 fun B5 g6=>xU(am SS.P 46(pA(g4.next))(sA(h.next)n2 c3)g6)g6 fun u7 g8=>xN(bj SS.P 48)g8 fun B9 g10=>mh [1,1,1,1,0,1,0,0] [(.int .i64 N),(.slice a n c),(.func(.func f)⟨[]⟩⟨[(.pointer(some⟨kn,0,none⟩))]⟩),(pA(g4.next)),(pA(g8.next)),(.func(.func 79)⟨[]⟩⟨[(pA(g4.next)),(pA(g8.next))]⟩),(.slice a n c),(iA n),(.int .i64 0),undef,undef,undef] g10(ic [1,1,1,1,0,1,0] [] (lO Q))
theorem NL(N:Int)(a:OA)(n c f kn:Nat)(h:Heap)(Q:VH)(hx:Pq N a n c f kn h Q):FW SS 61 [(.int .i64 N),(.slice a n c),(.func(.func f)⟨[]⟩⟨[(.pointer(some⟨kn,0,none⟩))]⟩)] h Q:=ay(M:=pQ)(c:=dR)Tryz.func61(show Tryz.f61.body=some dR by kernel_rfl)(by kernel_rfl)(aj hx(by kernel_rfl))
abbrev i9(N:Int)(a:OA)(n c f kn:Nat)(k7 k8:Nat)(i:Nat)(y44 y45 y46:Value):LV:=[(.int .i64 N),(.slice a n c),(.func(.func f)⟨[]⟩⟨[(.pointer(some⟨kn,0,none⟩))]⟩),(pA k7),(pA k8),(.func(.func 79)⟨[]⟩⟨[(pA k7),(pA k8)]⟩),(.slice a n c),(iA n),(iA i),y44,y45,y46]
def kc(N:Int)(a:OA)(n c f kn:Nat)(k7 k8:Nat)(Inv:Nat->Nat->Heap->Prop)(mz:Nat)(w:LV)(h:Heap):Prop:= ∃ (i:Nat)(y44 y45 y46:Value),w=(i9 N a n c f kn k7 k8 i y44 y45 y46)/\Inv mz i h
abbrev Bu(N:Int)(a:OA)(n c f kn:Nat)(k7 k8:Nat)(Inv:Nat->Nat->Heap->Prop)(Q:VH)(mz:Nat)(i:Nat)(y44 y45 y46:Value)(zz:Nat->Value)(h:Heap):Prop:=ax(decide(((i:Int):Int) < (n:Int)))(xP(ag SS.P 48(.slice a n c)(iA i))fun p11=>xI .i64(ai SS.P 3 h(.pointer(some p11)))fun n12=>FW SS 79 [(.int .i64 n12),(pA k7),(pA k8)] h fun v13 h14=>v13=(.tuple⟨[]⟩)/\al(kc N a n c f kn k7 k8 Inv)mz [(.int .i64 N),(.slice a n c),(.func(.func f)⟨[]⟩⟨[(.pointer(some⟨kn,0,none⟩))]⟩),(pA k7),(pA k8),(.func(.func 79)⟨[]⟩⟨[(pA k7),(pA k8)]⟩),(.slice a n c),(iA n),(.int .i64(IntKind.wrap .i64((i:Int) + 1))),y44,y45,y46] h14)(mh [1,1,1,1,1,0,0,0] [(.int .i64 N),(.slice a n c),(.func(.func f)⟨[]⟩⟨[(.pointer(some⟨kn,0,none⟩))]⟩),(pA k7),(pA k8),(.func(.func 79)⟨[]⟩⟨[(pA k7),(pA k8)]⟩),(.slice a n c),(iA n),(iA i),y44,y45,y46] h(ic [1,1,1,1,1,0,0] [] (lO Q)))
theorem sR {N:Int}{a:OA}{n c f kn:Nat}{k7 k8:Nat}{Inv:Nat->Nat->Heap->Prop}{mz:Nat}(mq:Nat){i:Nat}{y44 y45 y46:Value}{h:Heap}(hm:mq < mz)(hi:Inv mq i h):al(kc N a n c f kn k7 k8 Inv)mz(i9 N a n c f kn k7 k8 i y44 y45 y46)h :=⟨mq,hm,i,y44,y45,y46,rfl,hi⟩
theorem uF(N:Int)(a:OA)(n c f kn:Nat)(k7 k8:Nat)(Inv:Nat->Nat->Heap->Prop)(Q:VH)(step:∀ (mz:Nat)(i:Nat)(y44 y45 y46:Value)(zz:Nat->Value)(h:Heap),Inv mz i h->Bu N a n c f kn k7 k8 Inv Q mz i y44 y45 y46 zz h)(mz:Nat){i:Nat}{y44 y45 y46:Value}{h:Heap}(hi:Inv mz i h):mh [1,1,1,1,0,1,0,0] (i9 N a n c f kn k7 k8 i y44 y45 y46)h(ic [1,1,1,1,0,1,0] [] (lO Q)):=
 aq(A:=(kc N a n c f kn k7 k8 Inv))(show aG Tryz.f61.ntmps(aQ [1,1,1,1,0,1,0,0] dR)=true by kernel_rfl)(fun mz w zz h⟨i,y44,y45,y46,hw,hi⟩=> by subst hw; exact aj(step mz i y44 y45 y46 zz h hi)(by kernel_rfl))mz _ h⟨i,y44,y45,y46,rfl,hi⟩(fun zz=>by kernel_rfl)(by kernel_rfl)
abbrev ju(N:Int)(a:OA)(n c f kn:Nat)(k7 k8:Nat)(dm:Nat)(y18 y19 y20 y44 y45 y46:Value):LV:=[(.int .i64 N),(.slice a n c),(.func(.func f)⟨[]⟩⟨[(.pointer(some⟨kn,0,none⟩))]⟩),(pA k7),(pA k8),(.func(.func 79)⟨[]⟩⟨[(pA k7),(pA k8)]⟩),y18,y19,y20,y44,y45,y46]
def dH(N:Int)(a:OA)(n c f kn:Nat)(k7 k8:Nat)(Inv2:Nat->Nat->Heap->Prop)(mz2:Nat)(w:LV)(h:Heap):Prop:= ∃ (dm:Nat)(y18 y19 y20 y44 y45 y46:Value),w=(ju N a n c f kn k7 k8 dm y18 y19 y20 y44 y45 y46)/\Inv2 mz2 dm h
abbrev zg(N:Int)(a:OA)(n c f kn:Nat)(k7 k8:Nat)(Inv2:Nat->Nat->Heap->Prop)(Q:VH)(mz2:Nat)(dm:Nat)(y18 y19 y20 y44 y45 y46:Value)(zz:Nat->Value)(h:Heap):Prop:=xL(ai SS.P 48 h(pA k8))fun a15 n16 c17=>ax(decide(((n16:Int):Int) > 0))(xL(ai SS.P 48 h(pA k8))fun a18 n19 c20=>xL(ai SS.P 48 h(pA k8))fun a21 n22 c23=>xP(ag SS.P 48(.slice a18 n19 c20)(.int .i64(IntKind.wrap .i64((n22:Int) - 1))))fun p24=>xI .i64(ai SS.P 3 h(.pointer(some p24)))fun n25=>xL(ai SS.P 48 h(pA k8))fun a26 n27 c28=>xL(ai SS.P 48 h(pA k8))fun a29 n30 c31=>xL(aM SS.P 48(.slice a26 n27 c28)none(some(.int .i64(IntKind.wrap .i64((n30:Int) - 1))))none h)fun a32 n33 c34=>xU(am SS.P 48(pA k8)(.slice a32 n33 c34)h)h fun u35 g36=>ax(Nat.blt f YB)(FW SS f([] ++ [(.int .i64 n25)] ++ [(.pointer(some⟨kn,0,none⟩))])g36 fun v37 h38=>yL v37 fun a39 n40 c41=>mh [1,1,1,1,1,0,0,0,1,0,1,1,1,0,0] [(.int .i64 N),(.slice a n c),(.func(.func f)⟨[]⟩⟨[(.pointer(some⟨kn,0,none⟩))]⟩),(pA k7),(pA k8),(.func(.func 79)⟨[]⟩⟨[(pA k7),(pA k8)]⟩),y18,y19,y20,(.slice a39 n40 c41),(iA n40),(.int .i64 0)] h38(ic [1,0,1,1,1,0] [1,1,1,1,1,0,0,0] (aU pQ(dH N a n c f kn k7 k8 Inv2)mz2(ic [1,1,1,1,1,0,0] [] (lO Q)))))False)(xL(ai SS.P 46 h(pA k7))fun a42 n43 c44=>Q(.slice a42 n43 c44)h)
theorem t9 {N:Int}{a:OA}{n c f kn:Nat}{k7 k8:Nat}{Inv2:Nat->Nat->Heap->Prop}{mz2:Nat}(mq:Nat){dm:Nat}{y18 y19 y20 y44 y45 y46:Value}{h:Heap}(hm:mq < mz2)(hi:Inv2 mq dm h):al(dH N a n c f kn k7 k8 Inv2)mz2(ju N a n c f kn k7 k8 dm y18 y19 y20 y44 y45 y46)h :=⟨mq,hm,dm,y18,y19,y20,y44,y45,y46,rfl,hi⟩
theorem td(N:Int)(a:OA)(n c f kn:Nat)(k7 k8:Nat)(Inv2:Nat->Nat->Heap->Prop)(Q:VH)(step:∀ (mz2:Nat)(dm:Nat)(y18 y19 y20 y44 y45 y46:Value)(zz:Nat->Value)(h:Heap),Inv2 mz2 dm h->zg N a n c f kn k7 k8 Inv2 Q mz2 dm y18 y19 y20 y44 y45 y46 zz h)(mz2:Nat){dm:Nat}{y18 y19 y20 y44 y45 y46:Value}{h:Heap}(hi:Inv2 mz2 dm h):mh [1,1,1,1,1,0,0,0] (ju N a n c f kn k7 k8 dm y18 y19 y20 y44 y45 y46)h(ic [1,1,1,1,1,0,0] [] (lO Q)):=
 aq(A:=(dH N a n c f kn k7 k8 Inv2))(show aG Tryz.f61.ntmps(aQ [1,1,1,1,1,0,0,0] dR)=true by kernel_rfl)(fun mz2 w zz h⟨dm,y18,y19,y20,y44,y45,y46,hw,hi⟩=> by subst hw; exact aj(step mz2 dm y18 y19 y20 y44 y45 y46 zz h hi)(by kernel_rfl))mz2 _ h⟨dm,y18,y19,y20,y44,y45,y46,rfl,hi⟩(fun zz=>by kernel_rfl)(by kernel_rfl)
abbrev jy(N:Int)(a:OA)(n c f kn:Nat)(k7 k8:Nat)(b:OA)(m d:Nat)(j:Nat)(y18 y19 y20:Value):LV:=[(.int .i64 N),(.slice a n c),(.func(.func f)⟨[]⟩⟨[(.pointer(some⟨kn,0,none⟩))]⟩),(pA k7),(pA k8),(.func(.func 79)⟨[]⟩⟨[(pA k7),(pA k8)]⟩),y18,y19,y20,(.slice b m d),(iA m),(iA j)]
def jQ(N:Int)(a:OA)(n c f kn:Nat)(k7 k8:Nat)(b:OA)(m d:Nat)(Inv3:Nat->Nat->Heap->Prop)(mz3:Nat)(w:LV)(h:Heap):Prop:= ∃ (j:Nat)(y18 y19 y20:Value),w=(jy N a n c f kn k7 k8 b m d j y18 y19 y20)/\Inv3 mz3 j h
abbrev Aj(N:Int)(a:OA)(n c f kn:Nat)(k7 k8:Nat)(b:OA)(m d:Nat)(Inv2:Nat->Nat->Heap->Prop)(mz2:Nat)(Inv3:Nat->Nat->Heap->Prop)(Q:VH)(mz3:Nat)(j:Nat)(y18 y19 y20:Value)(zz:Nat->Value)(h:Heap):Prop:=ax(decide(((j:Int):Int) < (m:Int)))(xP(ag SS.P 48(.slice b m d)(iA j))fun p45=>xI .i64(ai SS.P 3 h(.pointer(some p45)))fun n46=>FW SS 79 [(.int .i64 n46),(pA k7),(pA k8)] h fun v47 h48=>v47=(.tuple⟨[]⟩)/\al(jQ N a n c f kn k7 k8 b m d Inv3)mz3 [(.int .i64 N),(.slice a n c),(.func(.func f)⟨[]⟩⟨[(.pointer(some⟨kn,0,none⟩))]⟩),(pA k7),(pA k8),(.func(.func 79)⟨[]⟩⟨[(pA k7),(pA k8)]⟩),y18,y19,y20,(.slice b m d),(iA m),(.int .i64(IntKind.wrap .i64((j:Int) + 1)))] h48)(al(dH N a n c f kn k7 k8 Inv2)mz2 [(.int .i64 N),(.slice a n c),(.func(.func f)⟨[]⟩⟨[(.pointer(some⟨kn,0,none⟩))]⟩),(pA k7),(pA k8),(.func(.func 79)⟨[]⟩⟨[(pA k7),(pA k8)]⟩),y18,y19,y20,(.slice b m d),(iA m),(iA j)] h)
theorem sU {N:Int}{a:OA}{n c f kn:Nat}{k7 k8:Nat}{b:OA}{m d:Nat}{Inv3:Nat->Nat->Heap->Prop}{mz3:Nat}(mq:Nat){j:Nat}{y18 y19 y20:Value}{h:Heap}(hm:mq < mz3)(hi:Inv3 mq j h):al(jQ N a n c f kn k7 k8 b m d Inv3)mz3(jy N a n c f kn k7 k8 b m d j y18 y19 y20)h :=⟨mq,hm,j,y18,y19,y20,rfl,hi⟩
theorem uW(N:Int)(a:OA)(n c f kn:Nat)(k7 k8:Nat)(b:OA)(m d:Nat)(Inv2:Nat->Nat->Heap->Prop)(mz2:Nat)(Inv3:Nat->Nat->Heap->Prop)(Q:VH)(step:∀ (mz3:Nat)(j:Nat)(y18 y19 y20:Value)(zz:Nat->Value)(h:Heap),Inv3 mz3 j h->Aj N a n c f kn k7 k8 b m d Inv2 mz2 Inv3 Q mz3 j y18 y19 y20 zz h)(mz3:Nat){j:Nat}{y18 y19 y20:Value}{h:Heap}(hi:Inv3 mz3 j h):mh [1,1,1,1,1,0,0,0,1,0,1,1,1,0,0] (jy N a n c f kn k7 k8 b m d j y18 y19 y20)h(ic [1,0,1,1,1,0] [1,1,1,1,1,0,0,0] (aU pQ(dH N a n c f kn k7 k8 Inv2)mz2(ic [1,1,1,1,1,0,0] [] (lO Q)))):=
 aq(A:=(jQ N a n c f kn k7 k8 b m d Inv3))(show aG Tryz.f61.ntmps(aQ [1,1,1,1,1,0,0,0,1,0,1,1,1,0,0] dR)=true by kernel_rfl)(fun mz3 w zz h⟨j,y18,y19,y20,hw,hi⟩=> by subst hw; exact aj(step mz3 j y18 y19 y20 zz h hi)(by kernel_rfl))mz3 _ h⟨j,y18,y19,y20,rfl,hi⟩(fun zz=>by kernel_rfl)(by kernel_rfl)
end Go.Proofs.YtoabjjimjldcfaaGreatDoor
end
section
set_option linter.unusedVariables false
namespace Go.Ab
open Go
def bP:Value->Option Nat
 | .slice(some a)_ _=>some a.block
 | _=>none
def OwnG(h0 h:Heap)(e:TypeId)(v:Value)(vs:List Value):Prop:=
 (v = .slice none 0 0/\vs=[])\/∃ k off cs c,v = .slice(some⟨k,off,none⟩)vs.length c/\h0.next<=k/\h.get k=some(.cells cs e 1 true)/\(cs.drop off).take vs.length=vs/\aO c + off=cs.length/\vs.length<=aO c
theorem OwnG.rd {h0 h:Heap}{e:TypeId}{v:Value}{vs:List Value}(o:OwnG h0 h e v vs):Rd h e v vs:=by
 rcases o with o |⟨k,off,cs,c,h1,h2,h3,h4,h5,h6⟩
 · exact .inl o
 · exact .inr⟨k,off,cs,c,true,h1,h3,h4⟩
theorem OwnG.keep {h0 h h' : Heap}{e:TypeId}{v:Value}{vs:List Value}(o:OwnG h0 h e v vs)(hk:∀ (k:Nat)(B:Blk),bP v=some k->h.get k=some B->h'.get k=some B):OwnG h0 h' e v vs:=by
 rcases o with o |⟨k,off,cs,c,h1,h2,h3,h4,h5,h6⟩
 · exact .inl o
 · exact .inr⟨k,off,cs,c,h1,h2,hk k _(by rw [h1]; rfl)h3,h4,h5,h6⟩
theorem OwnG.ok {h0 h h' : Heap}{e:TypeId}{v:Value}{vs:List Value}(r:OwnG h0 h e v vs)(o:Ok h h'):OwnG h0 h' e v vs:=r.keep fun k B _ hk=>o.ext _ _ hk
theorem OwnG.lt {h0 h:Heap}{e:TypeId}{v:Value}{vs:List Value}(o:OwnG h0 h e v vs)(w:Wf h){k:Nat}(hk:bP v=some k):k < h.next/\h0.next<=k:=by
 rcases o with⟨rfl,_⟩|⟨k',off,cs,c,h1,h2,h3,h4,h5,h6⟩
 · cases hk
 · rw [h1] at hk
  obtain rfl:k' = k:=Option.some.inj hk
  exact⟨w _ _ h3,h2⟩
theorem OwnG.nil(h0 h:Heap)(e:TypeId):OwnG h0 h e(.slice none 0 0) []:= .inl⟨rfl,rfl⟩
theorem OwnG.slc {h0 h:Heap}{e:TypeId}{v:Value}{vs:List Value}(o:OwnG h0 h e v vs):∃ (a:Option Addr)(c:Nat),v = .slice a vs.length c:=by
 rcases o with⟨rfl,rfl⟩|⟨k,off,cs,c,h1,h2,h3,h4,h5,h6⟩
 · exact⟨_,_,rfl⟩
 · exact⟨_,_,h1⟩
theorem OwnG.snoc {P:Program}{t e:TypeId}{i:TypeInfo}(hU:P.underlying t=some(.slice e))(hE:dD P e=some i)(hs:i.size=1){h0 g:Heap}(w0:Wf h0)(a:Ok h0 g){v:Value}{vs:List Value}(o:OwnG h0 g e v vs){x:Value}(hx:bN x=true){kx:Nat}(hkx:g.get kx=some(.cells [x] e 1 true))(hl:(vs.length + 1) * i.bytes<=70368744177664)(hl2:vs.length + 1<=1099511627776) :
  ∃ (b:Option Addr)(n c:Nat)(u:Upd),aC P t t v(.slice(some⟨kx,0,none⟩)1 1)g=some(.slice b n c,u)/\n=vs.length + 1/\OwnG h0(u.app g)e(.slice b n c)(vs ++ [x])/\Ok h0(u.app g)/\
   (∀ j B,g.get j=some B->bP v≠some j->(u.app g).get j=some B)/\
   (∀ j,bP(.slice b n c)=some j->g.next<=j\/bP v=some j)/\g.next<=(u.app g).next:=by
 have hT:cg P t=true:=by unfold cg; rw [hU]
 have hsrc:dS g i.size(.slice(some⟨kx,0,none⟩)1 1)=some([x],1):=by
  show(match g.get kx with | some(.cells cs ..)=>if((cs.drop 0).take(1 * i.size)).length=1 * i.size then some((cs.drop 0).take(1 * i.size),1) else none | _=>none)=_
  rw [hkx,hs]; rfl
 unfold aC
 rw [hU]; dsimp af
 rw [hE]; dsimp af
 rw [if_pos hT,hsrc]; dsimp af
 rw [if_pos(by simp [hx,hs])]
 rcases o with⟨rfl,rfl⟩|⟨k,off,cs,c,rfl,h2,h3,h4,h5,h6⟩
 · show ∃ b n c u,(if 1=0 then some(Value.slice none 0 0,Upd.no) else if 1 * i.bytes<=70368744177664/\1<=1099511627776 then some(Value.slice(some⟨g.next,0,none⟩)1(bn + 1),Upd.push(.cells [x] e i.size true)) else none)=_/\_
  rw [if_neg(by omega),if_pos(by simpa using And.intro hl hl2)]
  refine⟨_,_,_,_,rfl,rfl,.inr⟨g.next,0,[x],bn + 1,rfl,a.nx,?_,rfl,by rw [di]; rfl,by rw [di]; exact Nat.le_refl _⟩,a.push _,fun j B hj _=>?_,fun j e=>.inl ?_,Nat.le_succ _⟩
  · show(g.push(.cells [x] e i.size true)).get g.next=_
   rw [Heap.get_push,if_pos rfl,hs]
  · show(g.push _).get j=_
   rw [Heap.get_push,if_neg(fun e=>by have:=a.wf _ _ hj; omega)]
   exact hj
  · have:g.next=j:=Option.some.inj e
   omega
 · dsimp af
  rw [if_neg(by omega),hs,Nat.mul_one]
  have hkn:=a.wf _ _ h3
  by_cases hroom:vs.length + 1<=aO c
  · rw [if_pos hroom]
   unfold storeAt
   rw [h3]
   dsimp af
   rw [if_pos⟨by simp; omega,by simp [hx]⟩]
   refine⟨_,_,_,_,rfl,rfl,.inr⟨k,off,cs.take(off + vs.length) ++ [x] ++ cs.drop(off + vs.length + 1),c,?_,h2,?_,?_,?_,?_⟩,?_,fun j B hj hne=>?_,fun j e=>.inr e,Nat.le_refl _⟩
   · simp
   · show(g.set k _).get k=_
    rw [Heap.get_set,if_pos rfl]; rfl
   · have h7:(cs.take(off + vs.length)).length=off + vs.length:=by rw [List.length_take]; omega
    rw [List.append_assoc,List.drop_append_of_le_length(by rw [h7]; omega),List.drop_take,show off + vs.length - off=vs.length by omega,h4,List.length_append,List.length_cons,List.length_nil,List.take_append,List.take_of_length_le(by omega)]
    congr 1
    rw [show vs.length + (0 + 1) - vs.length=1 by omega]; rfl
   · simp; omega
   · simp; omega
   · exact a.set _ h2 hkn w0
   · show(g.set k _).get j=_
    rw [Heap.get_set,if_neg(fun e=>hne(by rw [e]; rfl))]
    exact hj
  · rw [if_neg hroom]
   have hcl:aO c=vs.length:=by omega
   have h7:((cs.drop off).take vs.length).length=vs.length:=by rw [h4]
   unfold gG
   rw [if_pos⟨hl,hl2⟩,h3]
   dsimp af
   rw [Nat.mul_one,if_pos⟨rfl,rfl,h7⟩]
   have hnew:∀ B:Blk,OwnG h0((g.push(.cells(vs ++ [x])e 1 true)))e(.slice(some⟨g.next,0,none⟩)(vs.length + 1)(bn + (vs.length + 1)))(vs ++ [x]):=fun _ =>
    .inr⟨g.next,0,vs ++ [x],bn + (vs.length + 1),by rw [List.length_append]; rfl,a.nx,by rw [Heap.get_push,if_pos rfl],by rw [List.drop_zero,List.take_length],by rw [di,List.length_append]; rfl,by rw [di,List.length_append]; exact Nat.le_refl _⟩
   by_cases hc:c < bn
   · rw [if_pos hc,h4]
    refine⟨_,_,_,_,rfl,rfl,hnew(.map []),a.push _,fun j B hj _=>?_,fun j e=>.inl ?_,Nat.le_succ _⟩
    · show(g.push _).get j=_
     rw [Heap.get_push,if_neg(fun e=>by have:=a.wf _ _ hj; omega)]
     exact hj
    · have:g.next=j:=Option.some.inj e
     omega
   · rw [if_neg hc,if_pos⟨rfl,by omega⟩,h4]
    refine⟨_,_,_,_,rfl,rfl,.inr⟨g.next,0,vs ++ [x],bn + (vs.length + 1),by rw [List.length_append]; rfl,a.nx,?_,by rw [List.drop_zero,List.take_length],by rw [di,List.length_append]; rfl,by rw [di,List.length_append]; exact Nat.le_refl _⟩,?_,fun j B hj hne=>?_,fun j e=>.inl ?_,Nat.le_succ _⟩
    · show((g.del k).push _).get g.next=_
     rw [Heap.get_push,if_pos(show g.next=(g.del k).next from rfl)]
    · refine⟨?_,fun j C hj=>?_,Nat.le_trans a.nx(Nat.le_succ _)⟩
     · refine Heap.wf_push(fun j C hj=>?_)_
      rw [Heap.get_del] at hj
      split at hj
      · cases hj
      · exact a.wf _ _ hj
     · have h7:=a.ext _ _ hj
      have h8:=a.wf _ _ h7
      show((g.del k).push _).get j=_
      rw [Heap.get_push,if_neg(fun e=>by have:j=g.next:=e; omega),Heap.get_del,if_neg(fun e=>by have:=w0 _ _ hj; omega)]
      exact h7
    · have h8:=a.wf _ _ hj
     show((g.del k).push _).get j=_
     rw [Heap.get_push,if_neg(fun e=>by have:j=g.next:=e; omega),Heap.get_del,if_neg(fun e=>hne(by rw [e]; rfl))]
     exact hj
    · have:g.next=j:=Option.some.inj e
     omega
theorem OwnG.upto {P:Program}{t e:TypeId}(hU:P.underlying t=some(.slice e))(hs:au P e=some 1){h0 h:Heap}{v:Value}{vs:List Value}(r:OwnG h0 h e v vs){z:Nat}(hz:z<=vs.length)(hp:0 < vs.length) :
  ∃ a n c,aM P t v none(some(.int .i64(z:Int)))none h=some(.slice a n c)/\OwnG h0 h e(.slice a n c)(vs.take z)/\bP(.slice a n c)=bP v:=by
 rcases r with⟨rfl,rfl⟩|⟨k,off,cs,c,rfl,h2,h3,h4,h5,h6⟩
 · simp at hp
 · refine⟨some⟨k,off + 0 * 1,none⟩,z,c,?_,.inr⟨k,off,cs,c,?_,h2,h3,?_,h5,?_⟩,rfl⟩
  · unfold aM
   dsimp af
   rw [hU]
   dsimp af [bM]
   rw [hs,h3]
   dsimp af
   rw [if_pos(by simp),if_pos(by omega)]
   have e2:((z:Int) - ((0:Nat):Int)).toNat=z:=by omega
   have e0:((0:Nat):Int).toNat=0:=rfl
   rw [e2,e0]; rfl
  · rw [List.length_take,Nat.min_eq_left hz]; rfl
  · rw [List.length_take,Nat.min_eq_left hz,<- h4,List.take_take,Nat.min_eq_left hz]
  · rw [List.length_take]; omega
theorem OwnG.from_ {P:Program}{t e:TypeId}(hU:P.underlying t=some(.slice e))(hs:au P e=some 1){h0 h:Heap}{v:Value}{vs:List Value}(r:OwnG h0 h e v vs){z:Nat}(hz:z<=vs.length)(hp:0 < vs.length) :
  ∃ a n c,aM P t v(some(.int .i64(z:Int)))none none h=some(.slice a n c)/\OwnG h0 h e(.slice a n c)(vs.drop z)/\bP(.slice a n c)=bP v:=by
 rcases r with⟨rfl,rfl⟩|⟨k,off,cs,c,rfl,h2,h3,h4,h5,h6⟩
 · simp at hp
 · have hcap:aO(c - z)=aO c - z:=by
   unfold aO at h6 ⊢
   by_cases hc:bn<=c
   · rw [if_pos hc] at h6
    rw [if_pos hc,if_pos(by omega)]; omega
   · rw [if_neg hc,if_neg(by omega)]
  refine⟨some⟨k,off + z * 1,none⟩,vs.length - z,c - z,?_,.inr⟨k,off + z,cs,c - z,?_,h2,h3,?_,?_,?_⟩,rfl⟩
  · unfold aM
   dsimp af
   rw [hU]
   dsimp af [bM]
   rw [hs,h3]
   dsimp af
   rw [if_pos(by simp),if_pos(by omega)]
   have e1:((z:Int)).toNat=z:=by omega
   have e2:((vs.length:Int) - (z:Int)).toNat=vs.length - z:=by omega
   rw [e1,e2]
  · rw [List.length_drop,Nat.mul_one]
  · have:=congrArg(List.drop z)h4
   rw [List.drop_take,List.drop_drop] at this
   rw [List.length_drop]
   exact this
  · rw [hcap]; omega
  · rw [hcap,List.length_drop]; omega
theorem OwnG.built {h0 h:Heap}{e:TypeId}{k:Nat}{vs:List Value}(hk:h.get k=some(.cells vs e 1 true))(h0k:h0.next<=k)(hl:vs.length < bn):OwnG h0 h e(.slice(some⟨k,0,none⟩)vs.length vs.length)vs:=
 .inr⟨k,0,vs,vs.length,rfl,h0k,hk,by simp,by unfold aO; rw [if_neg(by omega)]; rfl,by unfold aO; rw [if_neg(by omega)]; exact Nat.le_refl _⟩
end Go.Ab
end
section
namespace Go.Num
inductive Rch(E:Nat->Nat->Prop)(F:Nat->Prop):Nat->Prop where
 | base {x:Nat}(h:F x):Rch E F x
 | step {y x:Nat}(h:Rch E F y)(e:E y x):Rch E F x
def cntF(L:List Bool):Nat:=(L.filter fun b=>!b).length
theorem GF:∀ {L:List Bool}{s:Nat},s < L.length->L.getD s false=false->cntF(L.set s true) + 1=cntF L
 | [],s,h,_=>by simp at h
 | b :: L,0,h,h0=>by
  have:b=false:=by simpa using h0
  subst this
  simp [cntF]
 | b :: L,s + 1,h,h0=>by
  have ih:=GF(L:=L)(s:=s)(by simpa using h)(by simpa using h0)
  unfold cntF at ih ⊢
  cases b <;> simp at ih ⊢ <;> omega
theorem getD_setT {L:List Bool}{s x:Nat}(hs:s < L.length):(L.set s true).getD x false=if x=s then true else L.getD x false:=by
 rw [List.getD_eq_getElem?_getD,List.getElem?_set,List.getD_eq_getElem?_getD]
 split
 · next e=>subst e; simp
 · next e=>rw [if_neg(fun c=>e c.symm)]
structure SInv(E:Nat->Nat->Prop)(F:Nat->Prop)(N:Nat)(L:List Bool)(T:List Nat)(ex:Nat->Prop):Prop where
 len:L.length=N
 tin:∀ x∈T,x < N/\L.getD x false=true
 snd:∀ x,L.getD x false=true->Rch E F x
 cls:∀ y,L.getD y false=true->y ∉ T->¬ ex y->∀ z,E y z->L.getD z false=true
section
variable {E:Nat->Nat->Prop}{F:Nat->Prop}{N:Nat}{L:List Bool}{T:List Nat}{ex:Nat->Prop}
theorem sinv_new(n:Nat)(ex:Nat->Prop):SInv E F n(List.replicate n false) [] ex:=by
 have h:∀ x,(List.replicate n false).getD x false=false:=fun x=>by
  rw [List.getD_eq_getElem?_getD,List.getElem?_replicate]; split <;> rfl
 exact⟨List.length_replicate,fun x hx=>(by cases hx),fun x hx=>(by rw [h] at hx; cases hx),fun y hy=>(by rw [h] at hy; cases hy)⟩
theorem SInv.see(v:SInv E F N L T ex){s:Nat}(hs:s < N)(hr:Rch E F s)(h0:L.getD s false=false):SInv E F N(L.set s true)(T ++ [s])ex/\cntF(L.set s true) + 1=cntF L:=by
 have hl:s < L.length:=by rw [v.len]; exact hs
 refine⟨⟨by rw [List.length_set]; exact v.len,fun x hx=>?_,fun x hx=>?_,fun y hy hyT he z hz=>?_⟩,GF hl h0⟩
 · rcases List.mem_append.1 hx with h | h
  · obtain⟨h1,h2⟩:=v.tin x h
   refine⟨h1,?_⟩
   rw [getD_setT hl]; split
   · rfl
   · exact h2
  · rw [List.mem_singleton] at h
   subst h
   exact⟨hs,by rw [getD_setT hl,if_pos rfl]⟩
 · rw [getD_setT hl] at hx
  split at hx
  · next e=>rw [e]; exact hr
  · exact v.snd x hx
 · rw [getD_setT hl] at hy ⊢
  split
  · rfl
  · split at hy
   · next e=>exact absurd(List.mem_append.2(.inr(by rw [List.mem_singleton]; exact e)))hyT
   · exact v.cls y hy(fun c=>hyT(List.mem_append.2(.inl c)))he z hz
theorem SInv.take {T' : List Nat}{s:Nat}(v:SInv E F N L T(fun _=>False))(h1:∀ x∈T',x∈T)(h2:∀ x∈T,x∈T'\/x=s):SInv E F N L T' (fun y=>y=s):=
 ⟨v.len,fun x hx=>v.tin x(h1 x hx),v.snd,fun y hy hyT he z hz=>v.cls y hy(fun c=>(h2 y c).elim hyT he)(fun c=>c)z hz⟩
theorem SInv.done {s:Nat}(v:SInv E F N L T(fun y=>y=s))(h:∀ z,E s z->L.getD z false=true):SInv E F N L T(fun _=>False):=
 ⟨v.len,v.tin,v.snd,fun y hy hyT _ z hz=>by
  by_cases e:y=s
  · subst e; exact h z hz
  · exact v.cls y hy hyT e z hz⟩
theorem SInv.final(v:SInv E F N L [] (fun _=>False))(hF:∀ x,F x->L.getD x false=true)(x:Nat):L.getD x false=true↔Rch E F x:=by
 refine⟨v.snd x,fun h=>?_⟩
 induction h with
 | base h=>exact hF _ h
 | step _ e ih=>exact v.cls _ ih(fun c=>(by cases c))(fun c=>c)_ e
end
end Go.Num
end
section
set_option linter.unusedVariables false
set_option maxRecDepth 100000
namespace Go.Proofs.YtoabjjimjldcfaaGreatDoor
open Go Go.Ab
theorem TJ {h0 g:Heap}(w0:Wf h0)(ok:Ok h0 g){v:Value}{vs:List Value}(o:OwnG h0 g 3 v vs){z:Int}{kx:Nat}(hkx:g.get kx=some(.cells [.int .i64 z] 3 1 true))(hl:vs.length<=100000) :
  ∃ (b:Option Addr)(n c:Nat)(u:Upd),aC SS.P 48 48 v(.slice(some⟨kx,0,none⟩)1 1)g=some(.slice b n c,u)/\n=vs.length + 1/\OwnG h0(u.app g)3(.slice b n c)(vs ++ [.int .i64 z])/\Ok h0(u.app g)/\
   (∀ j B,g.get j=some B->bP v≠some j->(u.app g).get j=some B)/\
   (∀ j,bP(.slice b n c)=some j->g.next<=j\/bP v=some j)/\g.next<=(u.app g).next:=
 OwnG.snoc mA N8 GO w0 ok o rfl hkx(by rw [Df]; omega)(by omega)
theorem GQ : au SS.P 48=some 1:=by kernel_rfl
theorem Xy : au SS.P 46=some 1:=by kernel_rfl
theorem Gy:Go.Ab.isAgg SS.P 48=false:=by kernel_rfl
theorem UZ:Go.Ab.isAgg SS.P 46=false:=by kernel_rfl
theorem z2:SS.P.underlying 72=some(.slice 48):=by kernel_rfl
theorem T7 : au SS.P 72=some 1:=by kernel_rfl
theorem Gg:Go.Ab.isAgg SS.P 72=false:=by kernel_rfl
theorem gm(a:Option Addr)(n c:Nat):bN(.slice a n c)=true:=by cases a <;> rfl
def Bx1(g:Heap)(k:Nat)(t:TypeId)(v:Value):Prop:=g.get k=some(.cells [v] t 0 true)
theorem Bx1.ok {g g' : Heap}{k:Nat}{t:TypeId}{v:Value}(b:Bx1 g k t v)(o:Ok g g'):Bx1 g' k t v:=o.ext _ _ b
theorem Bx1.ld {g:Heap}{k:Nat}{t:TypeId}{v:Value}{d:TypeDesc}(hU:SS.P.underlying t=some d)(ha:Go.Ab.isAgg SS.P t=false)(b:Bx1 g k t v):ai SS.P t g(.pointer(some⟨k,0,none⟩))=some v:=ey hU ha b(by simp)
theorem Bx1.st {g:Heap}{k:Nat}{t:TypeId}{v:Value}(hs:au SS.P t=some 1)(b:Bx1 g k t v){v' : Value}(hv:bN v' = true)(hc:v'.cells = #[v']):am SS.P t(.pointer(some⟨k,0,none⟩))v' g=some(undef,.set k(.cells [v'] t 0 true)):=yU hs b(by simp)hv hc
structure Sst(h:Heap)(k7 k8 kt N:Nat)(L:List Bool)(T:List Nat)(g:Heap):Prop where
 b7:Bx1 g k7 46(.slice(some⟨kt,0,none⟩)N N)
 b8:∃ tv,Bx1 g k8 48 tv/\OwnG h g 3 tv(T.map iv)/\bP tv≠some kt/\bP tv≠some k7/\bP tv≠some k8
 row:BR h kt N L g
 n7:h.next<=k7
 n8:h.next<=k8
 d1:k7≠kt
 d2:k8≠kt
 d3:k7≠k8
section
variable {h:Heap}{k7 k8 kt N:Nat}{L:List Bool}{T:List Nat}{g:Heap}
theorem Qo(w:Wf h)(st:Sst h k7 k8 kt N L T g){s:Nat}(hs:s < N)(hT:T.length<=100000) :
  FW SS 79 [.int .i64(s:Int),.pointer(some⟨k7,0,none⟩),.pointer(some⟨k8,0,none⟩)] g(fun v g'=>v = .tuple⟨[]⟩/\((L.getD s false=true/\Sst h k7 k8 kt N L T g')\/(L.getD s false=false/\Sst h k7 k8 kt N(L.set s true)(T ++ [s])g'))):=by
 obtain⟨tv,t1,t2,t3,t4,t5⟩:=st.b8
 obtain⟨r1,r2,r3⟩:=st.row.get(c:=N)(x:=(s:Int))(by omega)(by omega)
 rw [Int.toNat_natCast] at r1 r2 r3
 refine PP s k7 k8 g _⟨_,_,_,st.b7.ld My UZ,_,r1,_,r2,ae(fun q=>?_)(fun q=>?_)⟩
 · rw [Bool.not_eq_true'] at q
  obtain⟨u,s1,s2,s3⟩:=r3 true w
  refine⟨_,_,_,st.b7.ld My UZ,_,r1,u,s1,?_⟩
  have b7' : Bx1(u.app g)k7 46(.slice(some⟨kt,0,none⟩)N N):=s3 _ _ st.b7 st.d1
  have b8' : Bx1(u.app g)k8 48 tv:=s3 _ _ t1 st.d2
  have ow:OwnG h(u.app g)3 tv(T.map iv):=t2.keep fun j B hj hB=>s3 j B hB(fun e=>t3(by rw [hj,e]))
  generalize u.app g=g1 at *
  obtain⟨ta,tc,rfl⟩:=ow.slc
  rw [List.length_map] at *
  refine⟨_,_,_,b8'.ld mA Gy,?_⟩
  have ok1:=s2.row.ok
  have op:=(Ok.refl ok1.wf).push(.cells [.int .i64(s:Int)] 3 1 true)
  have hk:=aZ g1(.cells [.int .i64(s:Int)] 3 1 true)
  obtain⟨b,n',c',u2,a1,a2,a3,a4,a5,a6,a7⟩:=TJ w(ok1.trans op)(ow.ok op)hk(by rw [List.length_map]; exact hT)
  refine⟨_,_,_,rv _,b,n',c',u2,a1,?_⟩
  have b7'':=a5 _ _(b7'.ok op)t4
  have b8'' : Bx1(u2.app(g1.push(.cells [.int .i64(s:Int)] 3 1 true)))k8 48 _:=a5 _ _(b8'.ok op)t5
  have rw2:=a5 _ _(op.ext _ _ s2.row.row)t3
  have hgn:g1.next<=(g1.push(.cells [.int .i64(s:Int)] 3 1 true)).next:=Nat.le_succ _
  have l7:=ok1.wf _ _ b7'
  have l8:=ok1.wf _ _ b8'
  have lt:=s2.row.lt
  generalize g1.push(.cells [.int .i64(s:Int)] 3 1 true)=gp at *
  generalize u2.app gp=g2 at *
  refine⟨_,b8''.st GQ (gm _ _ _)rfl,rfl,.inr⟨q,?_⟩⟩
  have okf:Ok h((Upd.set k8(.cells [.slice b n' c'] 48 0 true)).app g2):=a4.set _ st.n8(a4.wf _ _ b8'')w
  have hset:∀ j,j≠k8->((Upd.set k8(.cells [.slice b n' c'] 48 0 true)).app g2).get j=g2.get j:=fun j hj=>by
   show(g2.set k8 _).get j=_
   rw [Heap.get_set,if_neg hj]
  have hself:((Upd.set k8(.cells [.slice b n' c'] 48 0 true)).app g2).get k8=some(.cells [.slice b n' c'] 48 0 true):=by
   show(g2.set k8 _).get k8=_
   rw [Heap.get_set,if_pos rfl]
  have nb:∀ j,bP(.slice ta T.length tc)≠some j->j < g1.next->bP(.slice b n' c')≠some j:=fun j h1 h2 e=>by
   rcases a6 j e with h3 | h3
   · omega
   · exact h1 h3
  refine⟨?_,⟨_,hself,?_,nb _ t3 lt,nb _ t4 l7,nb _ t5 l8⟩,⟨s2.len,?_,s2.row.new,okf⟩,st.n7,st.n8,st.d1,st.d2,st.d3⟩
  · show _=_
   rw [hset _ st.d3]; exact b7''
  · rw [List.map_append]
   exact a3.keep fun j B hj hB=>by rw [hset j(fun e=>nb _ t5 l8(by rw [hj,e]))]; exact hB
  · rw [hset _(fun e=>st.d2 e.symm)]; exact rw2
 · rw [Bool.not_eq_false'] at q
  exact⟨rfl,.inl⟨q,st⟩⟩
def AdjR(g:Heap)(a:Option Addr)(N c:Nat)(A:List(List Nat)):Prop:=A.length=N/\∃ vs:List Value,Rd g 48(.slice a N c)vs/\vs.length=N/\∀ (i:Nat)(l:List Nat),A[i]? = some l->∃ (b:Option Addr)(m d:Nat),vs[i]? = some(.slice b m d)/\Rd g 3(.slice b m d)(l.map iv)
theorem AdjR.ok {g g' : Heap}{a:Option Addr}{N c:Nat}{A:List(List Nat)}(r:AdjR g a N c A)(o:Ok g g'):AdjR g' a N c A:=by
 obtain⟨h1,vs,h2,h3,h4⟩:=r
 exact⟨h1,vs,h2.ok o,h3,fun i l hl=>let⟨b,m,d,e1,e2⟩:=h4 i l hl;⟨b,m,d,e1,e2.ok o⟩⟩
theorem AdjR.at2 {h g:Heap}{a:Option Addr}{N c:Nat}{A:List(List Nat)}(r:AdjR h a N c A)(o:Ok h g){i:Nat}{l:List Nat}(hl:A[i]? = some l) :
  ∃ (p:Addr)(b:Option Addr)(m d:Nat),ag SS.P 72(.slice a N c)(.int .i64(i:Int))=some(.pointer(some p))/\ai SS.P 48 g(.pointer(some p))=some(.slice b m d)/\Rd h 3(.slice b m d)(l.map iv):=by
 obtain⟨h1,vs,h2,h3,h4⟩:=r
 obtain⟨b,m,d,e1,e2⟩:=h4 i l hl
 have hi:=(List.getElem?_eq_some_iff.1 hl).1
 obtain⟨p,q1,q2⟩:=(h2.ok o).at_ z2 GQ mA Gy(k:= .i64)(i:=(i:Int))(by omega)(by omega)
 rw [Int.toNat_natCast,List.getD_eq_getElem?_getD,e1] at q2
 exact⟨p,b,m,d,q1,q2,e2⟩
def EF(h:Heap)(f kn:Nat)(A:List(List Nat)):Prop:=Nat.blt f YB=true/\∀ (g:Heap),Ok h g->∀ (s:Nat)(l:List Nat),A[s]? = some l->FW SS f [.int .i64(s:Int),.pointer(some⟨kn,0,none⟩)] g(fun v g'=>∃ (b:Option Addr)(m d:Nat),v = .slice b m d/\Rd h 3(.slice b m d)(l.map iv)/\g' = g)
theorem PR {kn c:Nat}{a:Option Addr}{A:List(List Nat)}(w:Wf h)(bx:Bx1 h kn 72(.slice a N c))(r:AdjR h a N c A):EF h 62 kn A:=by
 refine⟨by decide +kernel,fun g o s l hl=>?_⟩
 obtain⟨p,b,m,d,e1,e2,e3⟩:=r.at2 o hl
 exact QH s kn g _⟨_,_,_,(bx.ok o).ld z2 Gg,_,e1,_,_,_,e2,b,m,d,rfl,e3,rfl⟩
theorem PN {kn c:Nat}{a:Option Addr}{A:List(List Nat)}(w:Wf h)(bx:Bx1 h kn 72(.slice a N c))(r:AdjR h a N c A):EF h 63 kn A:=by
 refine⟨by decide +kernel,fun g o s l hl=>?_⟩
 obtain⟨p,b,m,d,e1,e2,e3⟩:=r.at2 o hl
 exact Qa s kn g _⟨_,_,_,(bx.ok o).ld z2 Gg,_,e1,_,_,_,e2,b,m,d,rfl,e3,rfl⟩
def BM(A:List(List Nat))(y x:Nat):Prop:=x∈A.getD y []
end
end Go.Proofs.YtoabjjimjldcfaaGreatDoor
end
section
set_option linter.unusedVariables false
set_option maxRecDepth 100000
namespace Go.Proofs.YtoabjjimjldcfaaGreatDoor
open Go Go.Ab
theorem VI {h:Heap}{a:Option Addr}{n c:Nat}{l:List Nat}(r:Rd h 3(.slice a n c)(l.map iv)){i:Nat}{x:Nat}(hx:l[i]? = some x):∃ p:Addr,ag SS.P 48(.slice a n c)(.int .i64(i:Int))=some(.pointer(some p))/\ai SS.P 3 h(.pointer(some p))=some(.int .i64(x:Int)):=by
 have hi:=(List.getElem?_eq_some_iff.1 hx).1
 obtain⟨p,h2,h3⟩:=r.at_ mA Sm Ld Ko(k:= .i64)(i:=(i:Int))(by omega)(by rw [List.length_map]; omega)
 rw [Int.toNat_natCast,List.getD_eq_getElem?_getD,List.getElem?_map,hx] at h3
 exact⟨p,h2,h3⟩
theorem PB {h:Heap}{a:Option Addr}{n c:Nat}{l:List Nat}(r:Rd h 3(.slice a n c)(l.map iv)):n=l.length:=by have:=r.len; rwa [List.length_map] at this
theorem Ls {T:List Nat}(h:0 < T.length):∃ s,T[T.length - 1]? = some s/\(∀ x∈T.take(T.length - 1),x∈T)/\(∀ x∈T,x∈T.take(T.length - 1)\/x=s)/\s∈T:=by
 obtain⟨s,hs⟩: ∃ s,T[T.length - 1]? = some s :=⟨_,List.getElem?_eq_getElem(by omega)⟩
 have e:T=T.take(T.length - 1) ++ [s]:=by
  have h1:(T.take(T.length - 1 + 1))=T:=List.take_of_length_le(by omega)
  rw [List.take_add_one,hs] at h1
  exact h1.symm
 refine⟨s,hs,fun x hx=>List.mem_of_mem_take hx,fun x hx=>?_,List.mem_of_getElem? hs⟩
 rw [e] at hx
 rcases List.mem_append.1 hx with h1 | h1
 · exact .inl h1
 · rw [List.mem_singleton] at h1; exact .inr h1
structure Sq(h:Heap)(E:Nat->Nat->Prop)(F:List Nat)(k7 k8 kt N:Nat)(ex:Nat->Prop)(L:List Bool)(T:List Nat)(g:Heap):Prop where
 st:Sst h k7 k8 kt N L T g
 inv:Num.SInv E(·∈F)N L T ex
 bd:2 * Num.cntF L + T.length<=2 * N
section
variable {h:Heap}{E:Nat->Nat->Prop}{F:List Nat}{k7 k8 kt N:Nat}{ex:Nat->Prop}{L:List Bool}{T:List Nat}{g:Heap}
theorem F3(w:Wf h)(hN:N<=1000)(q:Sq h E F k7 k8 kt N ex L T g){s:Nat}(hs:s < N)(hr:Num.Rch E(·∈F)s) :
  FW SS 79 [.int .i64(s:Int),.pointer(some⟨k7,0,none⟩),.pointer(some⟨k8,0,none⟩)] g(fun v g'=>v = .tuple⟨[]⟩/\∃ L' T',Sq h E F k7 k8 kt N ex L' T' g'/\(∀ x,L.getD x false=true->L'.getD x false=true)/\L'.getD s false=true/\2 * Num.cntF L' + T'.length<=2 * Num.cntF L + T.length):=by
 have hb:=q.bd
 refine(Qo w q.st hs(by omega)).mono ?_
 rintro _ g'⟨rfl,⟨h1,h2⟩|⟨h1,h2⟩⟩
 · exact⟨rfl,L,T,⟨h2,q.inv,q.bd⟩,fun _ h=>h,h1,Nat.le_refl _⟩
 · obtain⟨i1,i2⟩:=q.inv.see hs hr h1
  have hl:s < L.length:=by rw [q.inv.len]; exact hs
  refine⟨rfl,_,_,⟨h2,i1,?_⟩,fun x hx=>?_,?_,?_⟩
  · rw [List.length_append,List.length_singleton]; omega
  · rw [Num.getD_setT hl]; split
   · rfl
   · exact hx
  · rw [Num.getD_setT hl,if_pos rfl]
  · rw [List.length_append,List.length_singleton]; omega
theorem Sst.put(w:Wf h)(st:Sst h k7 k8 kt N L T g){T' : List Nat}{b:Option Addr}{m d:Nat}(ow:OwnG h g 3(.slice b m d)(T'.map iv))(hb:∀ tv,Bx1 g k8 48 tv->bP(.slice b m d)=bP tv) :
  ∃ u:Upd,am SS.P 48(.pointer(some⟨k8,0,none⟩))(.slice b m d)g=some(undef,u)/\Sst h k7 k8 kt N L T' (u.app g)/\Ok h(u.app g):=by
 obtain⟨tv,t1,t2,t3,t4,t5⟩:=st.b8
 have e:=hb tv t1
 refine⟨_,t1.st GQ (gm _ _ _)rfl,?_⟩
 have ok:=st.row.row.ok
 have okf:Ok h((Upd.set k8(.cells [.slice b m d] 48 0 true)).app g):=ok.set _ st.n8(ok.wf _ _ t1)w
 have hset:∀ j,j≠k8->((Upd.set k8(.cells [.slice b m d] 48 0 true)).app g).get j=g.get j:=fun j hj=>by
  show(g.set k8 _).get j=_
  rw [Heap.get_set,if_neg hj]
 refine⟨⟨?_,⟨.slice b m d,?_,ow.keep fun j B hj hB=>by rw [hset j(fun c=>t5(by rw [<- e,hj,c]))]; exact hB,by rw [e]; exact t3,by rw [e]; exact t4,by rw [e]; exact t5⟩,⟨st.row.len,?_,st.row.row.new,okf⟩,st.n7,st.n8,st.d1,st.d2,st.d3⟩,okf⟩
 · show _=_
  rw [hset _ st.d3]; exact st.b7
 · show(g.set k8 _).get k8=_
  rw [Heap.get_set,if_pos rfl]
 · rw [hset _(fun c=>st.d2 c.symm)]; exact st.row.row.row
end
section
variable {h:Heap}{N:Nat}{A:List(List Nat)}{f kn:Nat}{a:Option Addr}{n c:Nat}{F:List Nat}{k7 k8 kt:Nat}
def Y7(h:Heap)(A:List(List Nat))(F:List Nat)(k7 k8 kt N n:Nat)(mz i:Nat)(g:Heap):Prop:=i<=n/\mz=n - i/\∃ L T,Sq h(BM A)F k7 k8 kt N(fun _=>False)L T g/\∀ x∈F.take i,L.getD x false=true
def YN(h:Heap)(A:List(List Nat))(F:List Nat)(k7 k8 kt N:Nat)(mz2 dm:Nat)(g:Heap):Prop:= ∃ L T,Sq h(BM A)F k7 k8 kt N(fun _=>False)L T g/\(∀ x∈F,L.getD x false=true)/\2 * Num.cntF L + T.length<=mz2
def Za(h:Heap)(A:List(List Nat))(F:List Nat)(k7 k8 kt N:Nat)(l:List Nat)(s m mz2:Nat)(mz3 j:Nat)(g:Heap):Prop:=j<=m/\mz3=m - j/\∃ L T,Sq h(BM A)F k7 k8 kt N(fun y=>y=s)L T g/\(∀ x∈F,L.getD x false=true)/\2 * Num.cntF L + T.length + 1<=mz2/\(∀ z∈l.take j,L.getD z false=true)/\Num.Rch(BM A)(·∈F)s
def sQ(h:Heap)(A:List(List Nat))(F:List Nat)(N:Nat):VH:=fun v h'=>∃ kt L,v = .slice(some⟨kt,0,none⟩)N N/\BR h kt N L h'/\∀ x,L.getD x false=true↔Num.Rch(BM A)(·∈F)x
set_option linter.defProp false in
def Tn(w:Wf h)(hN:N<=1000)(hAin:∀ l∈A,∀ x∈l,x < N){s:Nat}{l:List Nat}(hl:A[s]? = some l)(hll:l.length<=100000){b:Option Addr}{m d:Nat}(rd:Rd h 3(.slice b m d)(l.map iv))(mz2:Nat)(hmz:0 < mz2):=
 uW(N:Int)a n c f kn k7 k8 b m d(YN h A F k7 k8 kt N)mz2(Za h A F k7 k8 kt N l s m mz2)(sQ h A F N)(by
  intro mz3 j; intros; rename_i g hin
  obtain⟨f1,f2,L,T,q,hF,hm2,hz,hr⟩:=hin
  have hm:=PB rd
  refine ae(fun g1=>?_)(fun g1=>?_)
  · have g1:=of_decide_eq_true g1
   obtain⟨x,hx⟩: ∃ x,l[j]? = some x :=⟨_,List.getElem?_eq_getElem(by omega)⟩
   obtain⟨p,e1,e2⟩:=VI(rd.ok q.st.row.row.ok)hx
   have hxl:=List.mem_of_getElem? hx
   have hE:BM A s x:=by
    show x∈A.getD s []
    rw [List.getD_eq_getElem?_getD,hl]; exact hxl
   refine⟨_,e1,_,e2,(F3 w hN q(hAin l(List.mem_of_getElem? hl)x hxl)(.step hr hE)).mono ?_⟩
   rintro _ g2⟨rfl,L',T',q',h1,h2,h3⟩
   refine⟨rfl,?_⟩
   rw [aK(i:=j)(n:=m)(by omega)(by omega)]
   refine sU(mz3 - 1)(by omega)⟨by omega,by omega,L',T',q',fun y hy=>h1 y(hF y hy),by omega,fun z hz'=>?_,hr⟩
   rw [List.take_add_one,hx] at hz'
   rcases List.mem_append.1 hz' with h4 | h4
   · exact h1 z(hz z h4)
   · have:z=x:=by simpa using h4
    rw [this]; exact h2
  · have g1:=of_decide_eq_false g1
   rw [List.take_of_length_le(by omega)] at hz
   refine t9(mz2 - 1)(dm:=0)(by omega)⟨L,T,⟨q.st,q.inv.done fun z hE=>hz z ?_,q.bd⟩,hF,by omega⟩
   have:z∈A.getD s []:=hE
   rw [List.getD_eq_getElem?_getD,hl] at this
   exact this)
set_option linter.defProp false in
def Sr(w:Wf h)(hN:N<=1000)(hA:A.length=N)(hAin:∀ l∈A,∀ x∈l,x < N)(hAl:∀ l∈A,l.length<=100000)(nx:EF h f kn A):=
 td(N:Int)a n c f kn k7 k8(YN h A F k7 k8 kt N)(sQ h A F N)(by
  intro mz2 dm; intros; rename_i g hin
  obtain⟨L,T,q,hF,hm2⟩:=hin
  obtain⟨tv,t1,t2,t3,t4,t5⟩:=q.st.b8
  obtain⟨ta,tc,htv⟩:=t2.slc
  rw [List.length_map] at htv
  subst htv
  refine⟨_,_,_,t1.ld mA Gy,ae(fun g1=>?_)(fun g1=>?_)⟩
  · have g1:=of_decide_eq_true g1
   obtain⟨s,hs,p1,p2,p3⟩:=Ls(T:=T)(by omega)
   have hb:=q.bd
   have hw:IntKind.wrap .i64((T.length:Int) - 1)=((T.length - 1:Nat):Int):=by rw [ap(by omega)(by omega)]; omega
   obtain⟨p,e1,e2⟩:=VI t2.rd hs
   refine⟨_,_,_,t1.ld mA Gy,_,_,_,t1.ld mA Gy,p,by rw [hw]; exact e1,_,e2,_,_,_,t1.ld mA Gy,_,_,_,t1.ld mA Gy,?_⟩
   dsimp af
   rw [hw]
   obtain⟨b,m,d,x1,x2,x3⟩:=t2.upto mA Sm(z:=T.length - 1)(by rw [List.length_map]; omega)(by rw [List.length_map]; omega)
   rw [<- List.map_take] at x2
   obtain⟨u,y1,y2,y3⟩:=q.st.put w x2(fun tv' ht'=>by
    have:Value.slice ta T.length tc=tv':=by
     have:=t1.symm.trans ht'
     injection this with this; injection this with this; injection this with this
    rw [<- this]; exact x3)
   refine⟨b,m,d,x1,u,y1,V1 nx.1 ?_⟩
   have hsN:=(q.inv.tin s p3).1
   obtain⟨l,hl⟩: ∃ l,A[s]? = some l :=⟨_,List.getElem?_eq_getElem(by omega)⟩
   refine(nx.2 _ y3 s l hl).mono ?_
   rintro _ g2⟨b',m',d',rfl,rd,rfl⟩
   refine⟨b',m',d',rfl,?_⟩
   have hT' : (T.take(T.length - 1)).length=T.length - 1:=by rw [List.length_take]; omega
   exact Tn w hN hAin hl(hAl l(List.mem_of_getElem? hl))rd mz2(by omega)m' (j:=0)⟨by omega,by omega,L,T.take(T.length - 1),⟨y2,q.inv.take p1 p2,by omega⟩,hF,by omega,fun z hz=>(by rw [List.take_zero] at hz; cases hz),q.inv.snd s(q.inv.tin s p3).2⟩
  · have g1:=of_decide_eq_false g1
   obtain rfl:T=[]:=List.eq_nil_of_length_eq_zero(by omega)
   exact⟨_,_,_,q.st.b7.ld My UZ,kt,L,rfl,q.st.row,q.inv.final hF⟩)
theorem DZ(w:Wf h)(hN:N<=1000)(hA:A.length=N)(hAin:∀ l∈A,∀ x∈l,x < N)(hAl:∀ l∈A,l.length<=100000)(nx:EF h f kn A)(rf:Rd h 3(.slice a n c)(F.map iv))(hF:∀ x∈F,x < N)(hFl:F.length<=100000) :
  FW SS 61 [.int .i64(N:Int),.slice a n c,.func(.func f)⟨[]⟩⟨[.pointer(some⟨kn,0,none⟩)]⟩] h(sQ h A F N):=by
 have b0:=BR.new w N
 have hal46:bj SS.P 46=some(.cells [.slice none 0 0] 46 0 true,ks):=by kernel_rfl
 have hal48:bj SS.P 48=some(.cells [.slice none 0 0] 48 0 true,ks):=by kernel_rfl
 refine NL(N:Int)a n c f kn h _⟨_,_,_,Si N(by omega),_,hal46,?_⟩
 have o0:=b0.row.ok
 have lt0:=b0.row.lt
 have n0:=b0.row.new
 generalize h.push(.cells((List.replicate N false).map Value.bool)4 1 true)=g0 at *
 have o1:=(Ok.refl o0.wf).push(.cells [.slice none 0 0] 46 0 true)
 have k1:Bx1(g0.push(.cells [.slice none 0 0] 46 0 true))g0.next 46(.slice none 0 0):=aZ g0 _
 refine⟨_,k1.st Xy (gm _ _ _)rfl,_,hal48,?_⟩
 obtain⟨o2,k2⟩:=rr(cs:=[.slice(some⟨h.next,0,none⟩)N N])o0.wf o1 k1(Nat.le_refl _)
 generalize(Upd.set g0.next(.cells [.slice(some⟨h.next,0,none⟩)N N] 46 0 true)).app(g0.push(.cells [.slice none 0 0] 46 0 true))=g1 at *
 have o3:=(Ok.refl o2.wf).push(.cells [.slice none 0 0] 48 0 true)
 have k3:Bx1(g1.push(.cells [.slice none 0 0] 48 0 true))g1.next 48(.slice none 0 0):=aZ g1 _
 have l1:=o2.nx
 have l2:=o2.wf _ _ k2
 have l0:=o0.nx
 have st:Sst h g0.next g1.next h.next N(List.replicate N false) [] (g1.push(.cells [.slice none 0 0] 48 0 true)):=
  ⟨Bx1.ok(show Bx1 g1 g0.next 46 _ from k2)o3,⟨_,k3,OwnG.nil _ _ _,by simp [bP],by simp [bP],by simp [bP]⟩,(b0.trans o2).trans o3,by omega,by omega,by omega,by omega,by omega⟩
 generalize g1.push(.cells [.slice none 0 0] 48 0 true)=g2 at *
 have hc:Num.cntF(List.replicate N false)=N:=by simp [Num.cntF]
 refine uF(N:Int)a n c f kn g0.next g1.next(Y7 h A F g0.next g1.next h.next N n)(sQ h A F N)(fun mz i=>?_)n(i:=0)⟨by omega,rfl,_,_,⟨st,Num.sinv_new N _,by rw [hc]; simp⟩,fun x hx=>(by rw [List.take_zero] at hx; cases hx)⟩
 intros; rename_i gg hi
 obtain⟨f1,f2,L,T,q,hz⟩:=hi
 have hn:=PB rf
 refine ae(fun q1=>?_)(fun q1=>?_)
 · have q1:=of_decide_eq_true q1
  obtain⟨x,hx⟩: ∃ x,F[i]? = some x :=⟨_,List.getElem?_eq_getElem(by omega)⟩
  obtain⟨p,e1,e2⟩:=VI(rf.ok q.st.row.row.ok)hx
  have hxF:=List.mem_of_getElem? hx
  refine⟨_,e1,_,e2,(F3 w hN q(hF x hxF)(.base hxF)).mono ?_⟩
  rintro _ g3⟨rfl,L',T',q',h1,h2,h3⟩
  refine⟨rfl,?_⟩
  rw [aK(i:=i)(n:=n)(by omega)(by omega)]
  refine sR(mz - 1)(by omega)⟨by omega,by omega,L',T',q',fun z hz'=>?_⟩
  rw [List.take_add_one,hx] at hz'
  rcases List.mem_append.1 hz' with h4 | h4
  · exact h1 z(hz z h4)
  · have:z=x:=by simpa using h4
   rw [this]; exact h2
 · have q1:=of_decide_eq_false q1
  rw [List.take_of_length_le(by omega)] at hz
  exact Sr w hN hA hAin hAl nx(2 * Num.cntF L + T.length)(dm:=0)⟨L,T,q,hz,Nat.le_refl _⟩
end
end Go.Proofs.YtoabjjimjldcfaaGreatDoor
end
section
set_option linter.unusedVariables false
set_option maxRecDepth 100000
namespace Go.Proofs.YtoabjjimjldcfaaGreatDoor
open Go Go.Ab
theorem aB {α:Type}{l:List α}{i j:Nat}{x y:α}(h:(l.set i x)[j]? = some y):(j=i/\y=x)\/(j≠i/\l[j]? = some y):=by
 rw [List.getElem?_set] at h
 split at h
 · next e =>
  split at h
  · exact .inl⟨e.symm,(Option.some.inj h).symm⟩
  · cases h
 · next e=>exact .inr⟨fun c=>e c.symm,h⟩
structure Fam(hb g:Heap)(X:Nat->Prop)(vs:List Value)(F:List(List Nat)):Prop where
 len:vs.length=F.length
 own:∀ (i:Nat)(v:Value)(l:List Nat),vs[i]? = some v->F[i]? = some l->OwnG hb g 3 v(l.map iv)
 dis:∀ (i j:Nat)(v v' : Value),i≠j->vs[i]? = some v->vs[j]? = some v'->∀ k,bP v=some k->bP v'≠some k
 out:∀ (i:Nat)(v:Value),vs[i]? = some v->∀ k,bP v=some k->¬ X k
section
variable {hb g:Heap}{X:Nat->Prop}{vs:List Value}{F:List(List Nat)}
theorem Fam.keep(f:Fam hb g X vs F){g' : Heap}(h:∀ (k:Nat)(B:Blk),¬ X k->g.get k=some B->g'.get k=some B):Fam hb g' X vs F:=
 ⟨f.len,fun i v l hv hl=>(f.own i v l hv hl).keep fun k B hk hB=>h k B(f.out i v hv k hk)hB,f.dis,f.out⟩
theorem Fam.ok(f:Fam hb g X vs F){g' : Heap}(o:Ok g g'):Fam hb g' X vs F:=f.keep fun k B _ hB=>o.ext k B hB
theorem Fam.at_(f:Fam hb g X vs F){i:Nat}{l:List Nat}(hl:F[i]? = some l):∃ (a:Option Addr)(c:Nat),vs[i]? = some(.slice a l.length c)/\OwnG hb g 3(.slice a l.length c)(l.map iv):=by
 have hi:=(List.getElem?_eq_some_iff.1 hl).1
 obtain⟨v,hv⟩: ∃ v,vs[i]? = some v :=⟨_,List.getElem?_eq_getElem(by rw [f.len]; exact hi)⟩
 have o:=f.own i v l hv hl
 obtain⟨a,c,rfl⟩:=o.slc
 rw [List.length_map] at *
 exact⟨a,c,hv,o⟩
theorem Fam.snoc(w:Wf hb)(ok:Ok hb g)(f:Fam hb g X vs F)(hX:∀ k,X k->k < g.next){idx:Nat}{v:Value}{l:List Nat}(hv:vs[idx]? = some v)(hl:F[idx]? = some l){x:Nat}{kx:Nat}(hkx:g.get kx=some(.cells [.int .i64(x:Int)] 3 1 true))(hll:l.length<=100000) :
  ∃ (b:Option Addr)(n c:Nat)(u:Upd),aC SS.P 48 48 v(.slice(some⟨kx,0,none⟩)1 1)g=some(.slice b n c,u)/\n=l.length + 1/\Fam hb(u.app g)X(vs.set idx(.slice b n c))(F.set idx(l ++ [x]))/\Ok hb(u.app g)/\
   (∀ j B,g.get j=some B->bP v≠some j->(u.app g).get j=some B)/\g.next<=(u.app g).next:=by
 have ov:=f.own idx v l hv hl
 obtain⟨b,n,c,u,a1,a2,a3,a4,a5,a6,a7⟩:=TJ w ok ov hkx(by rw [List.length_map]; exact hll)
 rw [List.length_map] at a2
 refine⟨b,n,c,u,a1,a2,⟨by rw [List.length_set,List.length_set]; exact f.len,fun i v' l' hv' hl'=>?_,fun i j v1 v2 hij h1 h2 k hk1 hk2=>?_,fun i v' hv' k hk hXk=>?_⟩,a4,a5,a7⟩
 · rcases aB hv' with⟨e1,rfl⟩|⟨e1,h1⟩
  · rcases aB hl' with⟨_,rfl⟩|⟨e2,_⟩
   · rw [List.map_append]; exact a3
   · exact absurd e1 e2
  · rcases aB hl' with⟨e2,_⟩|⟨_,h2⟩
   · exact absurd e2 e1
   · exact(f.own i v' l' h1 h2).keep fun k B hk hB=>a5 k B hB fun c=>f.dis i idx v' v e1 h1 hv k hk c
 · have lt:∀ (j:Nat)(v2:Value),vs[j]? = some v2->bP v2=some k->k < g.next:=fun j v2 h2 hk2=>by
   obtain⟨l2,hl2⟩: ∃ l2,F[j]? = some l2 :=⟨_,List.getElem?_eq_getElem(by rw [<- f.len]; exact(List.getElem?_eq_some_iff.1 h2).1)⟩
   exact((f.own j v2 l2 h2 hl2).lt ok.wf hk2).1
  rcases aB h1 with⟨e1,rfl⟩|⟨e1,h1⟩
  · rcases aB h2 with⟨e2,_⟩|⟨e2,h2⟩
   · exact hij(by rw [e1,e2])
   · rcases a6 k hk1 with h3 | h3
    · have:=lt j v2 h2 hk2; omega
    · exact f.dis idx j v v2(fun c=>e2 c.symm)hv h2 k h3 hk2
  · rcases aB h2 with⟨e2,rfl⟩|⟨e2,h2⟩
   · rcases a6 k hk2 with h3 | h3
    · have:=lt i v1 h1 hk1; omega
    · exact f.dis idx i v v1(fun c=>e1 c.symm)hv h1 k h3 hk1
   · exact f.dis i j v1 v2 hij h1 h2 k hk1 hk2
 · rcases aB hv' with⟨e1,rfl⟩|⟨e1,h1⟩
  · rcases a6 k hk with h3 | h3
   · have:=hX k hXk; omega
   · exact f.out idx v hv k h3 hXk
  · exact f.out i v' h1 k hk hXk
end
structure Us(hb:Heap)(R:Nat)(kt:Nat->Nat)(N:Nat)(X:Nat->Prop)(vs:List Value)(F:List(List Nat))(g:Heap):Prop where
 cc:∀ r,r < R->g.get(kt r)=some(.cells((vs.drop(r * N)).take N)48 1 true)
 fam:Fam hb g X vs F
 ok:Ok hb g
 len:F.length=R * N + 1
 xt:∀ r,r < R->X(kt r)/\hb.next<=kt r
 inj:∀ r r',r < R->r' < R->r≠r'->kt r≠kt r'
 xlt:∀ k,X k->k < g.next
section
variable {hb g:Heap}{R:Nat}{kt:Nat->Nat}{N:Nat}{X:Nat->Prop}{vs:List Value}{F:List(List Nat)}
theorem Us.ext(s:Us hb R kt N X vs F g){g' : Heap}(o:Ok g g'):Us hb R kt N X vs F g':=
 ⟨fun r hr=>o.ext _ _(s.cc r hr),s.fam.ok o,s.ok.trans o,s.len,s.xt,s.inj,fun k hk=>Nat.lt_of_lt_of_le(s.xlt k hk)o.nx⟩
theorem IE {r i:Nat}(hr:r < R)(hi:i < N):r * N + i < R * N + 1:=by
 have:(r + 1) * N<=R * N:=Nat.mul_le_mul_right _ hr
 rw [Nat.add_mul,Nat.one_mul] at this
 omega
theorem Us.ld(s:Us hb R kt N X vs F g){r i:Nat}(hr:r < R)(hi:i < N):∃ (l:List Nat)(a:Option Addr)(c:Nat),F[r * N + i]? = some l/\vs[r * N + i]? = some(.slice a l.length c)/\ag SS.P 72(.slice(some⟨kt r,0,none⟩)N N)(.int .i64(i:Int))=some(.pointer(some⟨kt r,i,none⟩))/\∀ g',Us hb R kt N X vs F g'->ai SS.P 48 g' (.pointer(some⟨kt r,i,none⟩))=some(.slice a l.length c)/\Rd g' 3(.slice a l.length c)(l.map iv):=by
 have hlt:=IE hr hi
 obtain⟨l,hl⟩: ∃ l,F[r * N + i]? = some l :=⟨_,List.getElem?_eq_getElem(by rw [s.len]; exact hlt)⟩
 obtain⟨a,c,hv,_⟩:=s.fam.at_ hl
 refine⟨l,a,c,hl,hv,?_,fun g' s' =>⟨?_,?_⟩⟩
 · have:=Rh(P:=SS.P)z2 GQ (k:=kt r)(off:=0)(n:=N)(c:=N)(ik:= .i64)(i:=(i:Int))(by omega)(by omega)
  rw [this,Int.toNat_natCast,Nat.zero_add,Nat.mul_one]
 · have h1:((vs.drop(r * N)).take N)[i]? = some(.slice a l.length c):=by rw [List.getElem?_take,if_pos hi,List.getElem?_drop]; exact hv
  rw [ey mA Gy(s'.cc r hr)(List.getElem?_eq_some_iff.1 h1).1,List.getD_eq_getElem?_getD,h1]; rfl
 · exact(s'.fam.own _ _ _ hv hl).rd
theorem B0 {α:Type}(vs:List α)(o N i:Nat)(x:α)(hi:i < N):((vs.set(o + i)x).drop o).take N=((vs.drop o).take N).set i x:=by
 rw [List.drop_set,if_neg(by omega),show o + i - o=i by omega,List.take_set]
theorem mT {α:Type}(vs:List α)(o N j:Nat)(x:α)(h:j < o\/o + N<=j):((vs.set j x).drop o).take N=(vs.drop o).take N:=by
 apply List.ext_getElem?
 intro i
 rw [List.getElem?_take,List.getElem?_take,List.getElem?_drop,List.getElem?_drop]
 split
 · rw [List.getElem?_set,if_neg(by omega)]
 · rfl
theorem Us.put(w:Wf hb)(s:Us hb R kt N X vs F g){r i:Nat}(hr:r < R)(hi:i < N){vs' : List Value}{F' : List(List Nat)}{b:Option Addr}{n c:Nat}{l' : List Nat}(ev:vs' = vs.set(r * N + i)(.slice b n c))(eF:F' = F.set(r * N + i)l'){g2:Heap}(fm:Fam hb g2 X vs' F')(ok2:Ok hb g2)(hk:∀ j B,g.get j=some B->X j->g2.get j=some B)(hn:g.next<=g2.next) :
  ∃ u:Upd,am SS.P 48(.pointer(some⟨kt r,i,none⟩))(.slice b n c)g2=some(undef,u)/\Us hb R kt N X vs' F' (u.app g2)/\(∀ j B,g2.get j=some B->j≠kt r->(u.app g2).get j=some B):=by
 have hc:=hk _ _(s.cc r hr)(s.xt r hr).1
 have hlt:=IE hr hi
 have hl:i < ((vs.drop(r * N)).take N).length:=by
  have h1:(R * N + 1)=vs.length:=by rw [s.fam.len,s.len]
  have h2:(r + 1) * N<=R * N:=Nat.mul_le_mul_right _ hr
  rw [Nat.add_mul,Nat.one_mul] at h2
  rw [List.length_take,List.length_drop]; omega
 refine⟨_,yU GQ hc hl(gm _ _ _)rfl,?_,fun j B hj hne=>?_⟩
 · have hset:∀ j,j≠kt r->((Upd.set(kt r)(.cells(((vs.drop(r * N)).take N).set i(.slice b n c))48 1 true)).app g2).get j=g2.get j:=fun j hj=>by
   show(g2.set(kt r)_).get j=_
   rw [Heap.get_set,if_neg hj]
  refine⟨fun r' hr'=>?_,fm.keep fun k B hX hB=>?_,ok2.set _(s.xt r hr).2(ok2.wf _ _ hc)w,by rw [eF,List.length_set]; exact s.len,s.xt,s.inj,fun k hX=>Nat.lt_of_lt_of_le(s.xlt k hX)hn⟩
  · by_cases e:r' = r
   · subst e
    show(g2.set(kt r')_).get(kt r')=_
    rw [Heap.get_set,if_pos rfl,ev,B0 _ _ _ _ _ hi]
   · rw [hset _(s.inj r' r hr' hr e),hk _ _(s.cc r' hr')(s.xt r' hr').1,ev,mT]
    rcases Nat.lt_or_ge r r' with h1 | h1
    · have:=Nat.mul_le_mul_right N(show r + 1<=r' from h1)
     rw [Nat.add_mul,Nat.one_mul] at this
     exact .inl(by omega)
    · have:=Nat.mul_le_mul_right N(show r' + 1<=r by omega)
     rw [Nat.add_mul,Nat.one_mul] at this
     exact .inr(by omega)
  · rw [hset k(fun c=>hX(c▸(s.xt r hr).1))]; exact hB
 · show(g2.set(kt r)_).get j=_
  rw [Heap.get_set,if_neg hne]; exact hj
theorem Us.adj(s:Us hb R kt N X vs F g){r:Nat}(hr:r < R):AdjR g(some⟨kt r,0,none⟩)N N((F.drop(r * N)).take N):=by
 have h2:(r + 1) * N<=R * N:=Nat.mul_le_mul_right _ hr
 rw [Nat.add_mul,Nat.one_mul] at h2
 have hF:=s.len
 have hv:=s.fam.len
 have l1:((vs.drop(r * N)).take N).length=N:=by rw [List.length_take,List.length_drop]; omega
 refine⟨by rw [List.length_take,List.length_drop]; omega,(vs.drop(r * N)).take N,.inr⟨kt r,0,_,N,true,by rw [l1],s.cc r hr,by rw [List.drop_zero,List.take_length]⟩,l1,fun i l hl=>?_⟩
 rw [List.getElem?_take] at hl
 split at hl
 · next hi =>
  rw [List.getElem?_drop] at hl
  obtain⟨a,c,h3,h4⟩:=s.fam.at_ hl
  exact⟨a,_,c,by rw [List.getElem?_take,if_pos hi,List.getElem?_drop]; exact h3,h4.rd⟩
 · cases hl
end
theorem Ky {g:Heap}(w:Wf g){n j:Nat}(hj:j < n)(B:Blk):Ok g(aE(Go.Ab.room g n)g.next [(j,B)])/\(aE(Go.Ab.room g n)g.next [(j,B)]).get(g.next + j)=some B:=by
 refine⟨((Ok.refl w).room n).set B(Nat.le_add_right _ _)(Nat.add_lt_add_left hj _)w,?_⟩
 show((Go.Ab.room g n).set(g.next + j)B).get(g.next + j)=_
 rw [Heap.get_set,if_pos rfl]
end Go.Proofs.YtoabjjimjldcfaaGreatDoor
end
section
set_option linter.unusedVariables false
set_option maxRecDepth 100000
namespace Go.Proofs.YtoabjjimjldcfaaGreatDoor
open Go Go.Ab
noncomputable def dL:Code:=(Tryz.f41.body).getD .skip
noncomputable def je(Q:VH):ak:=cF SS Tryz.f41.results.toList Q
def mc:List Nat:=[1,2,3,4,5,6,7,8,11,22,23,24,37,38,39,77,78,79]
noncomputable def jv(p:List Nat)(w:LV)(h:Heap)(Q:ak):Prop:=bq SS Tryz.f41.ntmps mc(aQ p dL)w h Q
noncomputable def eI(p b:List Nat)(K:ak):ak:=ko SS Tryz.f41.ntmps mc p(aQ b dL)K
abbrev QD(mv:LV)(h:Heap)(Q:VH):Prop:=xN(fp SS.P 24(.agg⟨mv⟩))h fun B1 g2=>xP(ah SS.P 24(pA(h.next))3)fun p3=>xL(ai SS.P 22 g2(.pointer(some p3)))fun a4 n5 c6=>zR(aX SS.P 72(iA n5)(iA n5))fun B7 n8 c9=>zR(aX SS.P 72(iA n5)(iA n5))fun B10 n11 c12=>zN(bj SS.P 72)fun B13=>zN(bj SS.P 72)fun B14=>xU(am SS.P 72(pA(g2.next + 4))(sA(g2.next + 1)n8 c9)(aE(room g2 8)g2.next [(5,B14),(4,B13),(1,B7)]))(aE(room g2 8)g2.next [(5,B14),(4,B13),(1,B7)])fun u15 g16=>xU(am SS.P 72(pA(g2.next + 5))(sA(g2.next + 3)n11 c12)(aE g16 g2.next [(3,B10)]))(aE g16 g2.next [(3,B10)])fun u17 g18=>xP(ah SS.P 24(pA(h.next))3)fun p19=>xL(ai SS.P 22 g18(.pointer(some p19)))fun a20 n21 c22=>jv [1,1,1,1,0,1,0,0] [(pA(h.next)),nA,(iA n5),(pA(g2.next + 4)),(pA(g2.next + 5)),nA,undef,undef,undef,(.slice a20 n21 c22),(iA n21),(.int .i64 0),undef,undef,undef,undef,undef,undef] g18(eI [1,1,1,1,0,1,0] [] (je Q))
theorem M1(mv:LV)(h:Heap)(Q:VH)(hx:QD mv h Q):FW SS 41 [(.agg⟨mv⟩)] h Q:=ay(M:=mc)(c:=dL)Tryz.func41(show Tryz.f41.body=some dL by kernel_rfl)(by kernel_rfl)(aj hx(by kernel_rfl))
abbrev j6(mv:LV)(k k4 k5:Nat)(a:OA)(n c:Nat)(i:Nat)(e:OA)(en:Nat)(ec:Nat)(y7 y8 y11 y37 y38 y39 y77 y78 y79:Value):LV:=[(pA k),nA,(iA n),(pA k4),(pA k5),(.slice e en ec),y7,y8,y11,(.slice a n c),(iA n),(iA i),y37,y38,y39,y77,y78,y79]
def cU(mv:LV)(k k4 k5:Nat)(a:OA)(n c:Nat)(Inv:Nat->Nat->OA->Nat->Nat->Heap->Prop)(mz:Nat)(w:LV)(h:Heap):Prop:= ∃ (i:Nat)(e:OA)(en:Nat)(ec:Nat)(y7 y8 y11 y37 y38 y39 y77 y78 y79:Value),w=(j6 mv k k4 k5 a n c i e en ec y7 y8 y11 y37 y38 y39 y77 y78 y79)/\Inv mz i e en ec h
abbrev zt(mv:LV)(k k4 k5:Nat)(a:OA)(n c:Nat)(Inv:Nat->Nat->OA->Nat->Nat->Heap->Prop)(Q:VH)(mz:Nat)(i:Nat)(e:OA)(en:Nat)(ec:Nat)(y7 y8 y11 y37 y38 y39 y77 y78 y79:Value)(zz:Nat->Value)(h:Heap):Prop:=ax(decide(((i:Int):Int) < (n:Int)))(xP(ag SS.P 22(.slice a n c)(iA i))fun p23=>xA(ai SS.P 37 h(.pointer(some p23)))fun c24=>xN(bj SS.P 37)h fun B25 g26=>xU(am SS.P 37(pA(h.next))(.agg⟨c24⟩)g26)g26 fun u27 g28=>xP(ah SS.P 37(pA(h.next))0)fun p29=>xS(ai SS.P 9 g28(.pointer(some p29)))fun l30=>ax(!((l30:LB) == []))(xR(az SS.P 48 1 [(0,(iA i))])g28 fun B31 n32 c33 g34=>xE(aC SS.P 48 48(.slice e en ec)(sA(g28.next)n32 c33)g34)g34 fun a35 n36 c37 u38 g39=>xP(ah SS.P 37(pA(h.next))1)fun p40=>xL(ai SS.P 35 g39(.pointer(some p40)))fun a41 n42 c43=>jv [1,1,1,1,0,1,0,0,1,1,0,0,1,1,1,0,0] [(pA k),nA,(iA n),(pA k4),(pA k5),(.slice a35 n36 c37),(iA i),(pA(h.next)),y11,(.slice a n c),(iA n),(iA i),(.slice a41 n42 c43),(iA n42),(.int .i64 0),y77,y78,y79] g39(eI [1,1,0,0,1,1,1,0] [1,1,1,1,0,1,0,0] (aU mc(cU mv k k4 k5 a n c Inv)mz(eI [1,1,1,1,0,1,0] [] (je Q)))))(xP(ah SS.P 37(pA(h.next))1)fun p44=>xL(ai SS.P 35 g28(.pointer(some p44)))fun a45 n46 c47=>jv [1,1,1,1,0,1,0,0,1,1,0,0,1,1,1,0,0] [(pA k),nA,(iA n),(pA k4),(pA k5),(.slice e en ec),(iA i),(pA(h.next)),y11,(.slice a n c),(iA n),(iA i),(.slice a45 n46 c47),(iA n46),(.int .i64 0),y77,y78,y79] g28(eI [1,1,0,0,1,1,1,0] [1,1,1,1,0,1,0,0] (aU mc(cU mv k k4 k5 a n c Inv)mz(eI [1,1,1,1,0,1,0] [] (je Q))))))(xP(ah SS.P 24(pA k)1)fun p48=>xI .i64(ai SS.P 3 h(.pointer(some p48)))fun n49=>xR(az SS.P 48 1 [(0,(.int .i64 n49))])h fun B50 n51 c52 g53=>FW SS 61 [(iA n),(sA(h.next)n51 c52),(.func(.func 62)⟨[]⟩⟨[(pA k4)]⟩)] g53 fun v54 h55=>yL v54 fun a56 n57 c58=>FW SS 61 [(iA n),(.slice e en ec),(.func(.func 63)⟨[]⟩⟨[(pA k5)]⟩)] h55 fun v59 h60=>yL v59 fun a61 n62 c63=>jv [1,1,1,1,1,1,0,1,0,0] [(pA k),nA,(iA n),(pA k4),(pA k5),(.slice e en ec),y7,y8,(.slice a56 n57 c58),(.slice a n c),(iA n),(iA i),y37,y38,y39,(.slice a61 n62 c63),(iA n62),(.int .i64 0)] h60(eI [1,1,1,1,1,1,0,1,0] [] (je Q)))
theorem uP {mv:LV}{k k4 k5:Nat}{a:OA}{n c:Nat}{Inv:Nat->Nat->OA->Nat->Nat->Heap->Prop}{mz:Nat}(mq:Nat){i:Nat}{e:OA}{en:Nat}{ec:Nat}{y7 y8 y11 y37 y38 y39 y77 y78 y79:Value}{h:Heap}(hm:mq < mz)(hi:Inv mq i e en ec h):al(cU mv k k4 k5 a n c Inv)mz(j6 mv k k4 k5 a n c i e en ec y7 y8 y11 y37 y38 y39 y77 y78 y79)h :=⟨mq,hm,i,e,en,ec,y7,y8,y11,y37,y38,y39,y77,y78,y79,rfl,hi⟩
theorem uB(mv:LV)(k k4 k5:Nat)(a:OA)(n c:Nat)(Inv:Nat->Nat->OA->Nat->Nat->Heap->Prop)(Q:VH)(step:∀ (mz:Nat)(i:Nat)(e:OA)(en:Nat)(ec:Nat)(y7 y8 y11 y37 y38 y39 y77 y78 y79:Value)(zz:Nat->Value)(h:Heap),Inv mz i e en ec h->zt mv k k4 k5 a n c Inv Q mz i e en ec y7 y8 y11 y37 y38 y39 y77 y78 y79 zz h)(mz:Nat){i:Nat}{e:OA}{en:Nat}{ec:Nat}{y7 y8 y11 y37 y38 y39 y77 y78 y79:Value}{h:Heap}(hi:Inv mz i e en ec h):jv [1,1,1,1,0,1,0,0] (j6 mv k k4 k5 a n c i e en ec y7 y8 y11 y37 y38 y39 y77 y78 y79)h(eI [1,1,1,1,0,1,0] [] (je Q)):=
 aq(A:=(cU mv k k4 k5 a n c Inv))(show aG Tryz.f41.ntmps(aQ [1,1,1,1,0,1,0,0] dL)=true by kernel_rfl)(fun mz w zz h⟨i,e,en,ec,y7,y8,y11,y37,y38,y39,y77,y78,y79,hw,hi⟩=> by subst hw; exact aj(step mz i e en ec y7 y8 y11 y37 y38 y39 y77 y78 y79 zz h hi)(by kernel_rfl))mz _ h⟨i,e,en,ec,y7,y8,y11,y37,y38,y39,y77,y78,y79,rfl,hi⟩(fun zz=>by kernel_rfl)(by kernel_rfl)
abbrev ja(mv:LV)(k k4 k5:Nat)(a:OA)(n c:Nat)(k8:Nat)(e:OA)(en ec:Nat)(b:OA)(m d i:Nat)(j:Nat)(y11 y77 y78 y79:Value):LV:=[(pA k),nA,(iA n),(pA k4),(pA k5),(.slice e en ec),(iA i),(pA k8),y11,(.slice a n c),(iA n),(iA i),(.slice b m d),(iA m),(iA j),y77,y78,y79]
def jJ(mv:LV)(k k4 k5:Nat)(a:OA)(n c:Nat)(k8:Nat)(e:OA)(en ec:Nat)(b:OA)(m d i:Nat)(Inv2:Nat->Nat->Heap->Prop)(mz2:Nat)(w:LV)(h:Heap):Prop:= ∃ (j:Nat)(y11 y77 y78 y79:Value),w=(ja mv k k4 k5 a n c k8 e en ec b m d i j y11 y77 y78 y79)/\Inv2 mz2 j h
abbrev zH(mv:LV)(k k4 k5:Nat)(a:OA)(n c:Nat)(k8:Nat)(e:OA)(en ec:Nat)(b:OA)(m d:Nat)(Inv:Nat->Nat->OA->Nat->Nat->Heap->Prop)(mz i:Nat)(Inv2:Nat->Nat->Heap->Prop)(Q:VH)(mz2:Nat)(j:Nat)(y11 y77 y78 y79:Value)(zz:Nat->Value)(h:Heap):Prop:=ax(decide(((j:Int):Int) < (m:Int)))(xP(ag SS.P 35(.slice b m d)(iA j))fun p64=>xA(ai SS.P 39 h(.pointer(some p64)))fun c65=>xN(bj SS.P 39)h fun B66 g67=>xU(am SS.P 39(pA(h.next))(.agg⟨c65⟩)g67)g67 fun u68 g69=>xL(ai SS.P 72(room g69 12)(pA k4))fun a70 n71 c72=>xL(ai SS.P 72(room g69 12)(pA k4))fun a73 n74 c75=>xP(ag SS.P 72(.slice a73 n74 c75)(iA i))fun p76=>xL(ai SS.P 48(room g69 12)(.pointer(some p76)))fun a77 n78 c79=>xP(ah SS.P 39(pA(h.next))3)fun p80=>xI .i64(ai SS.P 3(room g69 12)(.pointer(some p80)))fun n81=>zR(az SS.P 48 1 [(0,(.int .i64 n81))])fun B82 n83 c84=>xE(aC SS.P 48 48(.slice a77 n78 c79)(sA(g69.next + 8)n83 c84)(aE(room g69 12)g69.next [(8,B82)]))(aE(room g69 12)g69.next [(8,B82)])fun a85 n86 c87 u88 g89=>xP(ag SS.P 72(.slice a70 n71 c72)(iA i))fun p90=>xU(am SS.P 48(.pointer(some p90))(.slice a85 n86 c87)g89)g89 fun u91 g92=>(ai SS.P 72 g89(pA k4)=some(.slice a70 n71 c72)/\cP 4(.slice a70 n71 c72)(.slice a70 n71 c72)=true)/\xL(ai SS.P 72(room g92 13)(pA k5))fun a93 n94 c95=>xP(ah SS.P 39(pA(h.next))3)fun p96=>xI .i64(ai SS.P 3(room g92 13)(.pointer(some p96)))fun n97=>xL(ai SS.P 72(room g92 13)(pA k5))fun a98 n99 c100=>xP(ah SS.P 39(pA(h.next))3)fun p101=>xI .i64(ai SS.P 3(room g92 13)(.pointer(some p101)))fun n102=>xP(ag SS.P 72(.slice a98 n99 c100)(.int .i64 n102))fun p103=>xL(ai SS.P 48(room g92 13)(.pointer(some p103)))fun a104 n105 c106=>zR(az SS.P 48 1 [(0,(iA i))])fun B107 n108 c109=>xE(aC SS.P 48 48(.slice a104 n105 c106)(sA(g92.next + 9)n108 c109)(aE(room g92 13)g92.next [(9,B107)]))(aE(room g92 13)g92.next [(9,B107)])fun a110 n111 c112 u113 g114=>xP(ag SS.P 72(.slice a93 n94 c95)(.int .i64 n97))fun p115=>xU(am SS.P 48(.pointer(some p115))(.slice a110 n111 c112)g114)g114 fun u116 g117=>(ai SS.P 72 g114(pA k5)=some(.slice a93 n94 c95)/\cP 4(.slice a93 n94 c95)(.slice a93 n94 c95)=true)/\(ai SS.P 3 g114(.pointer(some p96))=some(.int .i64 n97)/\cP 4(.int .i64 n97)(.int .i64 n97)=true)/\al(jJ mv k k4 k5 a n c k8 e en ec b m d i Inv2)mz2 [(pA k),nA,(iA n),(pA k4),(pA k5),(.slice e en ec),(iA i),(pA k8),y11,(.slice a n c),(iA n),(iA i),(.slice b m d),(iA m),(.int .i64(IntKind.wrap .i64((j:Int) + 1))),y77,y78,y79] g117)(al(cU mv k k4 k5 a n c Inv)mz [(pA k),nA,(iA n),(pA k4),(pA k5),(.slice e en ec),(iA i),(pA k8),y11,(.slice a n c),(iA n),(.int .i64(IntKind.wrap .i64((i:Int) + 1))),(.slice b m d),(iA m),(iA j),y77,y78,y79] h)
theorem tU {mv:LV}{k k4 k5:Nat}{a:OA}{n c:Nat}{k8:Nat}{e:OA}{en ec:Nat}{b:OA}{m d i:Nat}{Inv2:Nat->Nat->Heap->Prop}{mz2:Nat}(mq:Nat){j:Nat}{y11 y77 y78 y79:Value}{h:Heap}(hm:mq < mz2)(hi:Inv2 mq j h):al(jJ mv k k4 k5 a n c k8 e en ec b m d i Inv2)mz2(ja mv k k4 k5 a n c k8 e en ec b m d i j y11 y77 y78 y79)h :=⟨mq,hm,j,y11,y77,y78,y79,rfl,hi⟩
theorem sD(mv:LV)(k k4 k5:Nat)(a:OA)(n c:Nat)(k8:Nat)(e:OA)(en ec:Nat)(b:OA)(m d:Nat)(Inv:Nat->Nat->OA->Nat->Nat->Heap->Prop)(mz i:Nat)(Inv2:Nat->Nat->Heap->Prop)(Q:VH)(step:∀ (mz2:Nat)(j:Nat)(y11 y77 y78 y79:Value)(zz:Nat->Value)(h:Heap),Inv2 mz2 j h->zH mv k k4 k5 a n c k8 e en ec b m d Inv mz i Inv2 Q mz2 j y11 y77 y78 y79 zz h)(mz2:Nat){j:Nat}{y11 y77 y78 y79:Value}{h:Heap}(hi:Inv2 mz2 j h):jv [1,1,1,1,0,1,0,0,1,1,0,0,1,1,1,0,0] (ja mv k k4 k5 a n c k8 e en ec b m d i j y11 y77 y78 y79)h(eI [1,1,0,0,1,1,1,0] [1,1,1,1,0,1,0,0] (aU mc(cU mv k k4 k5 a n c Inv)mz(eI [1,1,1,1,0,1,0] [] (je Q)))):=
 aq(A:=(jJ mv k k4 k5 a n c k8 e en ec b m d i Inv2))(show aG Tryz.f41.ntmps(aQ [1,1,1,1,0,1,0,0,1,1,0,0,1,1,1,0,0] dL)=true by kernel_rfl)(fun mz2 w zz h⟨j,y11,y77,y78,y79,hw,hi⟩=> by subst hw; exact aj(step mz2 j y11 y77 y78 y79 zz h hi)(by kernel_rfl))mz2 _ h⟨j,y11,y77,y78,y79,rfl,hi⟩(fun zz=>by kernel_rfl)(by kernel_rfl)
abbrev jq(mv:LV)(n kl kr:Nat)(i:Nat)(y1 y2 y3 y4 y5 y6 y7 y8 y22 y23 y24 y37 y38 y39:Value):LV:=[y1,y2,y3,y4,y5,y6,y7,y8,(sA kl n n),y22,y23,y24,y37,y38,y39,(sA kr n n),(iA n),(iA i)]
def fq(mv:LV)(n kl kr:Nat)(Inv3:Nat->Nat->Heap->Prop)(mz3:Nat)(w:LV)(h:Heap):Prop:= ∃ (i:Nat)(y1 y2 y3 y4 y5 y6 y7 y8 y22 y23 y24 y37 y38 y39:Value),w=(jq mv n kl kr i y1 y2 y3 y4 y5 y6 y7 y8 y22 y23 y24 y37 y38 y39)/\Inv3 mz3 i h
abbrev zu(mv:LV)(n kl kr:Nat)(Inv3:Nat->Nat->Heap->Prop)(Q:VH)(mz3:Nat)(i:Nat)(y1 y2 y3 y4 y5 y6 y7 y8 y22 y23 y24 y37 y38 y39:Value)(zz:Nat->Value)(h:Heap):Prop:=ax(decide(((i:Int):Int) < (n:Int)))(xP(ag SS.P 46(sA kr n n)(iA i))fun p118=>xB(ai SS.P 4 h(.pointer(some p118)))fun b119=>xP(ag SS.P 46(sA kl n n)(iA i))fun p120=>xB(ai SS.P 4 h(.pointer(some p120)))fun b121=>ax b121(xP(ag SS.P 46(sA kl n n)(iA i))fun p122=>xU(am SS.P 4(.pointer(some p122))(.bool b119)h)h fun u123 g124=>al(fq mv n kl kr Inv3)mz3 [y1,y2,y3,y4,y5,y6,y7,y8,(sA kl n n),y22,y23,y24,y37,y38,y39,(sA kr n n),(iA n),(.int .i64(IntKind.wrap .i64((i:Int) + 1)))] g124)(xP(ag SS.P 46(sA kl n n)(iA i))fun p125=>xU(am SS.P 4(.pointer(some p125))(.bool false)h)h fun u126 g127=>al(fq mv n kl kr Inv3)mz3 [y1,y2,y3,y4,y5,y6,y7,y8,(sA kl n n),y22,y23,y24,y37,y38,y39,(sA kr n n),(iA n),(.int .i64(IntKind.wrap .i64((i:Int) + 1)))] g127))(Q(sA kl n n)h)
theorem kT {mv:LV}{n kl kr:Nat}{Inv3:Nat->Nat->Heap->Prop}{mz3:Nat}(mq:Nat){i:Nat}{y1 y2 y3 y4 y5 y6 y7 y8 y22 y23 y24 y37 y38 y39:Value}{h:Heap}(hm:mq < mz3)(hi:Inv3 mq i h):al(fq mv n kl kr Inv3)mz3(jq mv n kl kr i y1 y2 y3 y4 y5 y6 y7 y8 y22 y23 y24 y37 y38 y39)h :=⟨mq,hm,i,y1,y2,y3,y4,y5,y6,y7,y8,y22,y23,y24,y37,y38,y39,rfl,hi⟩
theorem uO(mv:LV)(n kl kr:Nat)(Inv3:Nat->Nat->Heap->Prop)(Q:VH)(step:∀ (mz3:Nat)(i:Nat)(y1 y2 y3 y4 y5 y6 y7 y8 y22 y23 y24 y37 y38 y39:Value)(zz:Nat->Value)(h:Heap),Inv3 mz3 i h->zu mv n kl kr Inv3 Q mz3 i y1 y2 y3 y4 y5 y6 y7 y8 y22 y23 y24 y37 y38 y39 zz h)(mz3:Nat){i:Nat}{y1 y2 y3 y4 y5 y6 y7 y8 y22 y23 y24 y37 y38 y39:Value}{h:Heap}(hi:Inv3 mz3 i h):jv [1,1,1,1,1,1,0,1,0,0] (jq mv n kl kr i y1 y2 y3 y4 y5 y6 y7 y8 y22 y23 y24 y37 y38 y39)h(eI [1,1,1,1,1,1,0,1,0] [] (je Q)):=
 aq(A:=(fq mv n kl kr Inv3))(show aG Tryz.f41.ntmps(aQ [1,1,1,1,1,1,0,1,0,0] dL)=true by kernel_rfl)(fun mz3 w zz h⟨i,y1,y2,y3,y4,y5,y6,y7,y8,y22,y23,y24,y37,y38,y39,hw,hi⟩=> by subst hw; exact aj(step mz3 i y1 y2 y3 y4 y5 y6 y7 y8 y22 y23 y24 y37 y38 y39 zz h hi)(by kernel_rfl))mz3 _ h⟨i,y1,y2,y3,y4,y5,y6,y7,y8,y22,y23,y24,y37,y38,y39,rfl,hi⟩(fun zz=>by kernel_rfl)(by kernel_rfl)
noncomputable def wx:Code:=(Tryz.f18.body).getD .skip
def Pm:List Nat:=[]
abbrev QV(mv:LV)(h:Heap)(Q:VH):Prop:=xN(fp SS.P 24(.agg⟨mv⟩))h fun B1 g2=>xA(ai SS.P 24(room g2 12)(pA(h.next)))fun c3=>FW SS 10 [(.agg⟨c3⟩)] (room g2 12)fun v4 h5=>yB v4 fun b6=>ax b6(xA(ai SS.P 24 h5(pA(h.next)))fun c7=>FW SS 41 [(.agg⟨c7⟩)] h5 fun v8 h9=>yL v8 fun a10 n11 c12=>xP(ah SS.P 24(pA(h.next))1)fun p13=>xI .i64(ai SS.P 3 h9(.pointer(some p13)))fun n14=>xP(ag SS.P 46(.slice a10 n11 c12)(.int .i64 n14))fun p15=>xB(ai SS.P 4 h9(.pointer(some p15)))fun b16=>(ai SS.P 3 h5(.pointer(some p13))=some(.int .i64 n14)/\cP 4(.int .i64 n14)(.int .i64 n14)=true)/\Q(.bool(!b16))h9)(Q(.bool false)h5)
theorem Lx(mv:LV)(h:Heap)(Q:VH)(hx:QV mv h Q):FW SS 18 [(.agg⟨mv⟩)] h Q:=ay(M:=Pm)(c:=wx)Tryz.func18(show Tryz.f18.body=some wx by kernel_rfl)(by kernel_rfl)(aj hx(by kernel_rfl))
noncomputable def xl:Code:=(Tryz.f19.body).getD .skip
def Pl:List Nat:=[]
abbrev Qt(mv:LV)(h:Heap)(Q:VH):Prop:=xN(fp SS.P 24(.agg⟨mv⟩))h fun B1 g2=>xA(ai SS.P 24(room g2 12)(pA(h.next)))fun c3=>FW SS 11 [(.agg⟨c3⟩)] (room g2 12)fun v4 h5=>yB v4 fun b6=>ax b6(xA(ai SS.P 24 h5(pA(h.next)))fun c7=>FW SS 42 [(.agg⟨c7⟩)] h5 fun v8 h9=>yL v8 fun a10 n11 c12=>xP(ah SS.P 24(pA(h.next))1)fun p13=>xI .i64(ai SS.P 3 h9(.pointer(some p13)))fun n14=>xP(ag SS.P 46(.slice a10 n11 c12)(.int .i64 n14))fun p15=>xB(ai SS.P 4 h9(.pointer(some p15)))fun b16=>(ai SS.P 3 h5(.pointer(some p13))=some(.int .i64 n14)/\cP 4(.int .i64 n14)(.int .i64 n14)=true)/\Q(.bool(!b16))h9)(Q(.bool false)h5)
theorem LX(mv:LV)(h:Heap)(Q:VH)(hx:Qt mv h Q):FW SS 19 [(.agg⟨mv⟩)] h Q:=ay(M:=Pl)(c:=xl)Tryz.func19(show Tryz.f19.body=some xl by kernel_rfl)(by kernel_rfl)(aj hx(by kernel_rfl))
noncomputable def fD:Code:=(Tryz.f42.body).getD .skip
noncomputable def C5(Q:VH):ak:=cF SS Tryz.f42.results.toList Q
def vS:List Nat:=[3,4,5]
noncomputable def DJ(p:List Nat)(w:LV)(h:Heap)(Q:ak):Prop:=bq SS Tryz.f42.ntmps vS(aQ p fD)w h Q
noncomputable def Dh(p b:List Nat)(K:ak):ak:=ko SS Tryz.f42.ntmps vS p(aQ b fD)K
abbrev Np(mv:LV)(h:Heap)(Q:VH):Prop:=xN(fp SS.P 24(.agg⟨mv⟩))h fun B1 g2=>xA(ai SS.P 24(room g2 6)(pA(h.next)))fun c3=>FW SS 64 [(.agg⟨c3⟩)] (room g2 6)fun v4 h5=>yL v4 fun a6 n7 c8=>xA(ai SS.P 24 h5(pA(h.next)))fun c9=>FW SS 65 [(.agg⟨c9⟩)] h5 fun v10 h11=>yL v10 fun a12 n13 c14=>(ai SS.P 24(room g2 6)(pA(h.next))=some(.agg⟨c9⟩)/\cP 4(.agg⟨c9⟩)(.agg⟨c9⟩)=true)/\DJ [1,1,0,1,0,0] [(.slice a6 n7 c8),(.slice a12 n13 c14),(.int .i64 0)] h11(Dh [1,1,0,1,0] [] (C5 Q))
theorem I6(mv:LV)(h:Heap)(Q:VH)(hx:Np mv h Q):FW SS 42 [(.agg⟨mv⟩)] h Q:=ay(M:=vS)(c:=fD)Tryz.func42(show Tryz.f42.body=some fD by kernel_rfl)(by kernel_rfl)(aj hx(by kernel_rfl))
abbrev iB(mv:LV)(n kl kr:Nat)(i:Nat)  : LV:=[(sA kl n n),(sA kr n n),(iA i)]
def eM(mv:LV)(n kl kr:Nat)(Inv:Nat->Nat->Heap->Prop)(mz:Nat)(w:LV)(h:Heap):Prop:= ∃ (i:Nat) ,w=(iB mv n kl kr i )/\Inv mz i h
abbrev xM(mv:LV)(n kl kr:Nat)(Inv:Nat->Nat->Heap->Prop)(Q:VH)(mz:Nat)(i:Nat)  (zz:Nat->Value)(h:Heap):Prop:=ax(decide(((i:Int):Int) < (n:Int)))(xP(ag SS.P 46(sA kl n n)(iA i))fun p15=>xB(ai SS.P 4 h(.pointer(some p15)))fun b16=>ax b16(xP(ag SS.P 46(sA kr n n)(iA i))fun p17=>xB(ai SS.P 4 h(.pointer(some p17)))fun b18=>xP(ag SS.P 46(sA kl n n)(iA i))fun p19=>xU(am SS.P 4(.pointer(some p19))(.bool b18)h)h fun u20 g21=>al(eM mv n kl kr Inv)mz [(sA kl n n),(sA kr n n),(.int .i64(IntKind.wrap .i64((i:Int) + 1)))] g21)(xP(ag SS.P 46(sA kl n n)(iA i))fun p22=>xU(am SS.P 4(.pointer(some p22))(.bool false)h)h fun u23 g24=>al(eM mv n kl kr Inv)mz [(sA kl n n),(sA kr n n),(.int .i64(IntKind.wrap .i64((i:Int) + 1)))] g24))(Q(sA kl n n)h)
theorem jt {mv:LV}{n kl kr:Nat}{Inv:Nat->Nat->Heap->Prop}{mz:Nat}(mq:Nat){i:Nat}  {h:Heap}(hm:mq < mz)(hi:Inv mq i h):al(eM mv n kl kr Inv)mz(iB mv n kl kr i )h :=⟨mq,hm,i,rfl,hi⟩
theorem rL(mv:LV)(n kl kr:Nat)(Inv:Nat->Nat->Heap->Prop)(Q:VH)(step:∀ (mz:Nat)(i:Nat)  (zz:Nat->Value)(h:Heap),Inv mz i h->xM mv n kl kr Inv Q mz i  zz h)(mz:Nat){i:Nat}  {h:Heap}(hi:Inv mz i h):DJ [1,1,0,1,0,0] (iB mv n kl kr i )h(Dh [1,1,0,1,0] [] (C5 Q)):=
 aq(A:=(eM mv n kl kr Inv))(show aG Tryz.f42.ntmps(aQ [1,1,0,1,0,0] fD)=true by kernel_rfl)(fun mz w zz h⟨i,hw,hi⟩=> by subst hw; exact aj(step mz i  zz h hi)(by kernel_rfl))mz _ h⟨i,rfl,hi⟩(fun zz=>by kernel_rfl)(by kernel_rfl)
noncomputable def ef:Code:=(Tryz.f64.body).getD .skip
noncomputable def pR(Q:VH):ak:=cF SS Tryz.f64.results.toList Q
def mo:List Nat:=[1,3,4,5,6]
noncomputable def pT(p:List Nat)(w:LV)(h:Heap)(Q:ak):Prop:=bq SS Tryz.f64.ntmps mo(aQ p ef)w h Q
noncomputable def iW(p b:List Nat)(K:ak):ak:=ko SS Tryz.f64.ntmps mo p(aQ b ef)K
abbrev Lr(mv:LV)(h:Heap)(Q:VH):Prop:=xN(fp SS.P 24(.agg⟨mv⟩))h fun B1 g2=>xP(ah SS.P 24(pA(h.next))3)fun p3=>xL(ai SS.P 22 g2(.pointer(some p3)))fun a4 n5 c6=>xR(aX SS.P 46(iA n5)(iA n5))g2 fun B7 n8 c9 g10=>xP(ah SS.P 24(pA(h.next))1)fun p11=>xI .i64(ai SS.P 3 g10(.pointer(some p11)))fun n12=>xP(ag SS.P 46(sA(g2.next)n8 c9)(.int .i64 n12))fun p13=>xU(am SS.P 4(.pointer(some p13))(.bool true)g10)g10 fun u14 g15=>xP(ah SS.P 24(pA(h.next))1)fun p16=>xI .i64(ai SS.P 3 g15(.pointer(some p16)))fun n17=>xR(az SS.P 48 1 [(0,(.int .i64 n17))])g15 fun B18 n19 c20 g21=>pT [1,1,1,1,0,0,0] [(pA(h.next)),(sA(g2.next)n8 c9),(sA(g15.next)n19 c20),undef,undef] g21(iW [1,1,1,1,0,0] [] (pR Q))
theorem IL(mv:LV)(h:Heap)(Q:VH)(hx:Lr mv h Q):FW SS 64 [(.agg⟨mv⟩)] h Q:=ay(M:=mo)(c:=ef)Tryz.func64(show Tryz.f64.body=some ef by kernel_rfl)(by kernel_rfl)(aj hx(by kernel_rfl))
abbrev iw(mv:LV)(k n kl:Nat)(t:OA)(tn:Nat)(tc:Nat)(y5 y6:Value):LV:=[(pA k),(sA kl n n),(.slice t tn tc),y5,y6]
def dx(mv:LV)(k n kl:Nat)(Inv:Nat->OA->Nat->Nat->Heap->Prop)(mz:Nat)(w:LV)(h:Heap):Prop:= ∃ (t:OA)(tn:Nat)(tc:Nat)(y5 y6:Value),w=(iw mv k n kl t tn tc y5 y6)/\Inv mz t tn tc h
abbrev xy(mv:LV)(k n kl:Nat)(Inv:Nat->OA->Nat->Nat->Heap->Prop)(Q:VH)(mz:Nat)(t:OA)(tn:Nat)(tc:Nat)(y5 y6:Value)(zz:Nat->Value)(h:Heap):Prop:=ax(decide(((tn:Int):Int) > 0))(xP(ag SS.P 48(.slice t tn tc)(.int .i64 0))fun p22=>xI .i64(ai SS.P 3 h(.pointer(some p22)))fun n23=>xL(aM SS.P 48(.slice t tn tc)(some(.int .i64 1))none none h)fun a24 n25 c26=>pT [1,1,1,1,0,0,0,1,0,1,1,1,0,0] [(pA k),(sA kl n n),(.slice a24 n25 c26),(.int .i64 n23),(.int .i64 0)] h(iW [1,0,1,1,1,0] [1,1,1,1,0,0,0] (aU mo(dx mv k n kl Inv)mz(iW [1,1,1,1,0,0] [] (pR Q)))))(Q(sA kl n n)h)
theorem rg {mv:LV}{k n kl:Nat}{Inv:Nat->OA->Nat->Nat->Heap->Prop}{mz:Nat}(mq:Nat){t:OA}{tn:Nat}{tc:Nat}{y5 y6:Value}{h:Heap}(hm:mq < mz)(hi:Inv mq t tn tc h):al(dx mv k n kl Inv)mz(iw mv k n kl t tn tc y5 y6)h :=⟨mq,hm,t,tn,tc,y5,y6,rfl,hi⟩
theorem rK(mv:LV)(k n kl:Nat)(Inv:Nat->OA->Nat->Nat->Heap->Prop)(Q:VH)(step:∀ (mz:Nat)(t:OA)(tn:Nat)(tc:Nat)(y5 y6:Value)(zz:Nat->Value)(h:Heap),Inv mz t tn tc h->xy mv k n kl Inv Q mz t tn tc y5 y6 zz h)(mz:Nat){t:OA}{tn:Nat}{tc:Nat}{y5 y6:Value}{h:Heap}(hi:Inv mz t tn tc h):pT [1,1,1,1,0,0,0] (iw mv k n kl t tn tc y5 y6)h(iW [1,1,1,1,0,0] [] (pR Q)):=
 aq(A:=(dx mv k n kl Inv))(show aG Tryz.f64.ntmps(aQ [1,1,1,1,0,0,0] ef)=true by kernel_rfl)(fun mz w zz h⟨t,tn,tc,y5,y6,hw,hi⟩=> by subst hw; exact aj(step mz t tn tc y5 y6 zz h hi)(by kernel_rfl))mz _ h⟨t,tn,tc,y5,y6,rfl,hi⟩(fun zz=>by kernel_rfl)(by kernel_rfl)
abbrev iu(mv:LV)(k n kl s:Nat)(j:Nat)(t:OA)(tn:Nat)(tc:Nat)  : LV:=[(pA k),(sA kl n n),(.slice t tn tc),(iA s),(iA j)]
def eK(mv:LV)(k n kl s:Nat)(Inv2:Nat->Nat->OA->Nat->Nat->Heap->Prop)(mz2:Nat)(w:LV)(h:Heap):Prop:= ∃ (j:Nat)(t:OA)(tn:Nat)(tc:Nat) ,w=(iu mv k n kl s j t tn tc )/\Inv2 mz2 j t tn tc h
abbrev xV(mv:LV)(k n kl s:Nat)(Inv:Nat->OA->Nat->Nat->Heap->Prop)(mz:Nat)(Inv2:Nat->Nat->OA->Nat->Nat->Heap->Prop)(Q:VH)(mz2:Nat)(j:Nat)(t:OA)(tn:Nat)(tc:Nat)  (zz:Nat->Value)(h:Heap):Prop:=xP(ah SS.P 24(pA k)3)fun p27=>xL(ai SS.P 22 h(.pointer(some p27)))fun a28 n29 c30=>xP(ag SS.P 22(.slice a28 n29 c30)(iA s))fun p31=>xP(ah SS.P 37(.pointer(some p31))1)fun p32=>xL(ai SS.P 35 h(.pointer(some p32)))fun a33 n34 c35=>ax(decide(((j:Int):Int) < (n34:Int)))(xP(ah SS.P 24(pA k)3)fun p36=>xL(ai SS.P 22 h(.pointer(some p36)))fun a37 n38 c39=>xP(ag SS.P 22(.slice a37 n38 c39)(iA s))fun p40=>xP(ah SS.P 37(.pointer(some p40))1)fun p41=>xL(ai SS.P 35 h(.pointer(some p41)))fun a42 n43 c44=>xP(ag SS.P 35(.slice a42 n43 c44)(iA j))fun p45=>xP(ah SS.P 39(.pointer(some p45))3)fun p46=>xI .i64(ai SS.P 3 h(.pointer(some p46)))fun n47=>xP(ag SS.P 46(sA kl n n)(.int .i64 n47))fun p48=>xB(ai SS.P 4 h(.pointer(some p48)))fun b49=>ax(!b49)(xP(ag SS.P 46(sA kl n n)(.int .i64 n47))fun p50=>xU(am SS.P 4(.pointer(some p50))(.bool true)h)h fun u51 g52=>xR(az SS.P 48 1 [(0,(.int .i64 n47))])g52 fun B53 n54 c55 g56=>xE(aC SS.P 48 48(.slice t tn tc)(sA(g52.next)n54 c55)g56)g56 fun a57 n58 c59 u60 g61=>al(eK mv k n kl s Inv2)mz2 [(pA k),(sA kl n n),(.slice a57 n58 c59),(iA s),(.int .i64(IntKind.wrap .i64((j:Int) + 1)))] g61)(al(eK mv k n kl s Inv2)mz2 [(pA k),(sA kl n n),(.slice t tn tc),(iA s),(.int .i64(IntKind.wrap .i64((j:Int) + 1)))] h))(al(dx mv k n kl Inv)mz [(pA k),(sA kl n n),(.slice t tn tc),(iA s),(iA j)] h)
theorem j1 {mv:LV}{k n kl s:Nat}{Inv2:Nat->Nat->OA->Nat->Nat->Heap->Prop}{mz2:Nat}(mq:Nat){j:Nat}{t:OA}{tn:Nat}{tc:Nat}  {h:Heap}(hm:mq < mz2)(hi:Inv2 mq j t tn tc h):al(eK mv k n kl s Inv2)mz2(iu mv k n kl s j t tn tc )h :=⟨mq,hm,j,t,tn,tc,rfl,hi⟩
theorem rR(mv:LV)(k n kl s:Nat)(Inv:Nat->OA->Nat->Nat->Heap->Prop)(mz:Nat)(Inv2:Nat->Nat->OA->Nat->Nat->Heap->Prop)(Q:VH)(step:∀ (mz2:Nat)(j:Nat)(t:OA)(tn:Nat)(tc:Nat)  (zz:Nat->Value)(h:Heap),Inv2 mz2 j t tn tc h->xV mv k n kl s Inv mz Inv2 Q mz2 j t tn tc  zz h)(mz2:Nat){j:Nat}{t:OA}{tn:Nat}{tc:Nat}  {h:Heap}(hi:Inv2 mz2 j t tn tc h):pT [1,1,1,1,0,0,0,1,0,1,1,1,0,0] (iu mv k n kl s j t tn tc )h(iW [1,0,1,1,1,0] [1,1,1,1,0,0,0] (aU mo(dx mv k n kl Inv)mz(iW [1,1,1,1,0,0] [] (pR Q)))):=
 aq(A:=(eK mv k n kl s Inv2))(show aG Tryz.f64.ntmps(aQ [1,1,1,1,0,0,0,1,0,1,1,1,0,0] ef)=true by kernel_rfl)(fun mz2 w zz h⟨j,t,tn,tc,hw,hi⟩=> by subst hw; exact aj(step mz2 j t tn tc  zz h hi)(by kernel_rfl))mz2 _ h⟨j,t,tn,tc,rfl,hi⟩(fun zz=>by kernel_rfl)(by kernel_rfl)
noncomputable def de:Code:=(Tryz.f65.body).getD .skip
noncomputable def fu(Q:VH):ak:=cF SS Tryz.f65.results.toList Q
def ij:List Nat:=[1,3,4,5,6,7,9,10]
noncomputable def fH(p:List Nat)(w:LV)(h:Heap)(Q:ak):Prop:=bq SS Tryz.f65.ntmps ij(aQ p de)w h Q
noncomputable def cA(p b:List Nat)(K:ak):ak:=ko SS Tryz.f65.ntmps ij p(aQ b de)K
abbrev PJ(mv:LV)(h:Heap)(Q:VH):Prop:=xN(fp SS.P 24(.agg⟨mv⟩))h fun B1 g2=>xP(ah SS.P 24(pA(h.next))3)fun p3=>xL(ai SS.P 22 g2(.pointer(some p3)))fun a4 n5 c6=>xR(aX SS.P 46(iA n5)(iA n5))g2 fun B7 n8 c9 g10=>xP(ah SS.P 24(pA(h.next))3)fun p11=>xL(ai SS.P 22 g10(.pointer(some p11)))fun a12 n13 c14=>xR(aX SS.P 72(iA n13)(iA n13))g10 fun B15 n16 c17 g18=>fH [1,1,1,1,0,1,0,0] [(pA(h.next)),(sA(g2.next)n8 c9),(sA(g10.next)n16 c17),nA,(.int .i64 0),undef,undef,undef] g18(cA [1,1,1,1,0,1,0] [] (fu Q))
theorem Ng(mv:LV)(h:Heap)(Q:VH)(hx:PJ mv h Q):FW SS 65 [(.agg⟨mv⟩)] h Q:=ay(M:=ij)(c:=de)Tryz.func65(show Tryz.f65.body=some de by kernel_rfl)(by kernel_rfl)(aj hx(by kernel_rfl))
abbrev kg(mv:LV)(k n kl kb:Nat)(i:Nat)(t:OA)(tn:Nat)(tc:Nat)(y7 y9 y10:Value):LV:=[(pA k),(sA kl n n),(sA kb n n),(.slice t tn tc),(iA i),y7,y9,y10]
def cT(mv:LV)(k n kl kb:Nat)(Inv:Nat->Nat->OA->Nat->Nat->Heap->Prop)(mz:Nat)(w:LV)(h:Heap):Prop:= ∃ (i:Nat)(t:OA)(tn:Nat)(tc:Nat)(y7 y9 y10:Value),w=(kg mv k n kl kb i t tn tc y7 y9 y10)/\Inv mz i t tn tc h
abbrev Ba(mv:LV)(k n kl kb:Nat)(Inv:Nat->Nat->OA->Nat->Nat->Heap->Prop)(Q:VH)(mz:Nat)(i:Nat)(t:OA)(tn:Nat)(tc:Nat)(y7 y9 y10:Value)(zz:Nat->Value)(h:Heap):Prop:=xP(ah SS.P 24(pA k)3)fun p19=>xL(ai SS.P 22 h(.pointer(some p19)))fun a20 n21 c22=>ax(decide(((i:Int):Int) < (n21:Int)))(xP(ah SS.P 24(pA k)3)fun p23=>xL(ai SS.P 22 h(.pointer(some p23)))fun a24 n25 c26=>xP(ag SS.P 22(.slice a24 n25 c26)(iA i))fun p27=>xP(ah SS.P 37(.pointer(some p27))0)fun p28=>xS(ai SS.P 9 h(.pointer(some p28)))fun l29=>ax(!((l29:LB) == []))(xP(ag SS.P 46(sA kl n n)(iA i))fun p30=>xU(am SS.P 4(.pointer(some p30))(.bool true)h)h fun u31 g32=>xR(az SS.P 48 1 [(0,(iA i))])g32 fun B33 n34 c35 g36=>xE(aC SS.P 48 48(.slice t tn tc)(sA(g32.next)n34 c35)g36)g36 fun a37 n38 c39 u40 g41=>fH [1,1,1,1,0,1,0,0,1,0,0,1,1,0,0] [(pA k),(sA kl n n),(sA kb n n),(.slice a37 n38 c39),(iA i),(.int .i64 0),y9,y10] g41(cA [1,0,0,1,1,0] [1,1,1,1,0,1,0,0] (aU ij(cT mv k n kl kb Inv)mz(cA [1,1,1,1,0,1,0] [] (fu Q)))))(fH [1,1,1,1,0,1,0,0,1,0,0,1,1,0,0] [(pA k),(sA kl n n),(sA kb n n),(.slice t tn tc),(iA i),(.int .i64 0),y9,y10] h(cA [1,0,0,1,1,0] [1,1,1,1,0,1,0,0] (aU ij(cT mv k n kl kb Inv)mz(cA [1,1,1,1,0,1,0] [] (fu Q))))))(fH [1,1,1,1,1,0,0,0] [(pA k),(sA kl n n),(sA kb n n),(.slice t tn tc),(iA i),y7,y9,y10] h(cA [1,1,1,1,1,0,0] [] (fu Q)))
theorem si {mv:LV}{k n kl kb:Nat}{Inv:Nat->Nat->OA->Nat->Nat->Heap->Prop}{mz:Nat}(mq:Nat){i:Nat}{t:OA}{tn:Nat}{tc:Nat}{y7 y9 y10:Value}{h:Heap}(hm:mq < mz)(hi:Inv mq i t tn tc h):al(cT mv k n kl kb Inv)mz(kg mv k n kl kb i t tn tc y7 y9 y10)h :=⟨mq,hm,i,t,tn,tc,y7,y9,y10,rfl,hi⟩
theorem uY(mv:LV)(k n kl kb:Nat)(Inv:Nat->Nat->OA->Nat->Nat->Heap->Prop)(Q:VH)(step:∀ (mz:Nat)(i:Nat)(t:OA)(tn:Nat)(tc:Nat)(y7 y9 y10:Value)(zz:Nat->Value)(h:Heap),Inv mz i t tn tc h->Ba mv k n kl kb Inv Q mz i t tn tc y7 y9 y10 zz h)(mz:Nat){i:Nat}{t:OA}{tn:Nat}{tc:Nat}{y7 y9 y10:Value}{h:Heap}(hi:Inv mz i t tn tc h):fH [1,1,1,1,0,1,0,0] (kg mv k n kl kb i t tn tc y7 y9 y10)h(cA [1,1,1,1,0,1,0] [] (fu Q)):=
 aq(A:=(cT mv k n kl kb Inv))(show aG Tryz.f65.ntmps(aQ [1,1,1,1,0,1,0,0] de)=true by kernel_rfl)(fun mz w zz h⟨i,t,tn,tc,y7,y9,y10,hw,hi⟩=> by subst hw; exact aj(step mz i t tn tc y7 y9 y10 zz h hi)(by kernel_rfl))mz _ h⟨i,t,tn,tc,y7,y9,y10,rfl,hi⟩(fun zz=>by kernel_rfl)(by kernel_rfl)
abbrev j4(mv:LV)(k n kl kb:Nat)(t:OA)(tn tc i:Nat)(j:Nat)(y9 y10:Value):LV:=[(pA k),(sA kl n n),(sA kb n n),(.slice t tn tc),(iA i),(iA j),y9,y10]
def i7(mv:LV)(k n kl kb:Nat)(t:OA)(tn tc i:Nat)(Inv2:Nat->Nat->Heap->Prop)(mz2:Nat)(w:LV)(h:Heap):Prop:= ∃ (j:Nat)(y9 y10:Value),w=(j4 mv k n kl kb t tn tc i j y9 y10)/\Inv2 mz2 j h
abbrev Bj(mv:LV)(k n kl kb:Nat)(t:OA)(tn tc:Nat)(Inv:Nat->Nat->OA->Nat->Nat->Heap->Prop)(mz i:Nat)(Inv2:Nat->Nat->Heap->Prop)(Q:VH)(mz2:Nat)(j:Nat)(y9 y10:Value)(zz:Nat->Value)(h:Heap):Prop:=xP(ah SS.P 24(pA k)3)fun p42=>xL(ai SS.P 22 h(.pointer(some p42)))fun a43 n44 c45=>xP(ag SS.P 22(.slice a43 n44 c45)(iA i))fun p46=>xP(ah SS.P 37(.pointer(some p46))1)fun p47=>xL(ai SS.P 35 h(.pointer(some p47)))fun a48 n49 c50=>ax(decide(((j:Int):Int) < (n49:Int)))(xP(ah SS.P 24(pA k)3)fun p51=>xL(ai SS.P 22 h(.pointer(some p51)))fun a52 n53 c54=>xP(ag SS.P 22(.slice a52 n53 c54)(iA i))fun p55=>xP(ah SS.P 37(.pointer(some p55))1)fun p56=>xL(ai SS.P 35 h(.pointer(some p56)))fun a57 n58 c59=>xP(ag SS.P 35(.slice a57 n58 c59)(iA j))fun p60=>xP(ah SS.P 39(.pointer(some p60))3)fun p61=>xI .i64(ai SS.P 3 h(.pointer(some p61)))fun n62=>xP(ag SS.P 72(sA kb n n)(.int .i64 n62))fun p63=>xL(ai SS.P 48 h(.pointer(some p63)))fun a64 n65 c66=>xR(az SS.P 48 1 [(0,(iA i))])h fun B67 n68 c69 g70=>xE(aC SS.P 48 48(.slice a64 n65 c66)(sA(h.next)n68 c69)g70)g70 fun a71 n72 c73 u74 g75=>xP(ag SS.P 72(sA kb n n)(.int .i64 n62))fun p76=>xU(am SS.P 48(.pointer(some p76))(.slice a71 n72 c73)g75)g75 fun u77 g78=>al(i7 mv k n kl kb t tn tc i Inv2)mz2 [(pA k),(sA kl n n),(sA kb n n),(.slice t tn tc),(iA i),(.int .i64(IntKind.wrap .i64((j:Int) + 1))),y9,y10] g78)(al(cT mv k n kl kb Inv)mz [(pA k),(sA kl n n),(sA kb n n),(.slice t tn tc),(.int .i64(IntKind.wrap .i64((i:Int) + 1))),(iA j),y9,y10] h)
theorem tw {mv:LV}{k n kl kb:Nat}{t:OA}{tn tc i:Nat}{Inv2:Nat->Nat->Heap->Prop}{mz2:Nat}(mq:Nat){j:Nat}{y9 y10:Value}{h:Heap}(hm:mq < mz2)(hi:Inv2 mq j h):al(i7 mv k n kl kb t tn tc i Inv2)mz2(j4 mv k n kl kb t tn tc i j y9 y10)h :=⟨mq,hm,j,y9,y10,rfl,hi⟩
theorem uw(mv:LV)(k n kl kb:Nat)(t:OA)(tn tc:Nat)(Inv:Nat->Nat->OA->Nat->Nat->Heap->Prop)(mz i:Nat)(Inv2:Nat->Nat->Heap->Prop)(Q:VH)(step:∀ (mz2:Nat)(j:Nat)(y9 y10:Value)(zz:Nat->Value)(h:Heap),Inv2 mz2 j h->Bj mv k n kl kb t tn tc Inv mz i Inv2 Q mz2 j y9 y10 zz h)(mz2:Nat){j:Nat}{y9 y10:Value}{h:Heap}(hi:Inv2 mz2 j h):fH [1,1,1,1,0,1,0,0,1,0,0,1,1,0,0] (j4 mv k n kl kb t tn tc i j y9 y10)h(cA [1,0,0,1,1,0] [1,1,1,1,0,1,0,0] (aU ij(cT mv k n kl kb Inv)mz(cA [1,1,1,1,0,1,0] [] (fu Q)))):=
 aq(A:=(i7 mv k n kl kb t tn tc i Inv2))(show aG Tryz.f65.ntmps(aQ [1,1,1,1,0,1,0,0,1,0,0,1,1,0,0] de)=true by kernel_rfl)(fun mz2 w zz h⟨j,y9,y10,hw,hi⟩=> by subst hw; exact aj(step mz2 j y9 y10 zz h hi)(by kernel_rfl))mz2 _ h⟨j,y9,y10,rfl,hi⟩(fun zz=>by kernel_rfl)(by kernel_rfl)
abbrev jj(mv:LV)(n kl kb:Nat)(t:OA)(tn:Nat)(tc:Nat)(y1 y6 y7 y9 y10:Value):LV:=[y1,(sA kl n n),(sA kb n n),(.slice t tn tc),y6,y7,y9,y10]
def dT(mv:LV)(n kl kb:Nat)(Inv3:Nat->OA->Nat->Nat->Heap->Prop)(mz3:Nat)(w:LV)(h:Heap):Prop:= ∃ (t:OA)(tn:Nat)(tc:Nat)(y1 y6 y7 y9 y10:Value),w=(jj mv n kl kb t tn tc y1 y6 y7 y9 y10)/\Inv3 mz3 t tn tc h
abbrev Bz(mv:LV)(n kl kb:Nat)(Inv3:Nat->OA->Nat->Nat->Heap->Prop)(Q:VH)(mz3:Nat)(t:OA)(tn:Nat)(tc:Nat)(y1 y6 y7 y9 y10:Value)(zz:Nat->Value)(h:Heap):Prop:=ax(decide(((tn:Int):Int) > 0))(xP(ag SS.P 48(.slice t tn tc)(.int .i64 0))fun p79=>xI .i64(ai SS.P 3 h(.pointer(some p79)))fun n80=>xL(aM SS.P 48(.slice t tn tc)(some(.int .i64 1))none none h)fun a81 n82 c83=>fH [1,1,1,1,1,0,0,0,1,0,1,1,1,0,0] [y1,(sA kl n n),(sA kb n n),(.slice a81 n82 c83),y6,y7,(.int .i64 n80),(.int .i64 0)] h(cA [1,0,1,1,1,0] [1,1,1,1,1,0,0,0] (aU ij(dT mv n kl kb Inv3)mz3(cA [1,1,1,1,1,0,0] [] (fu Q)))))(Q(sA kl n n)h)
theorem ui {mv:LV}{n kl kb:Nat}{Inv3:Nat->OA->Nat->Nat->Heap->Prop}{mz3:Nat}(mq:Nat){t:OA}{tn:Nat}{tc:Nat}{y1 y6 y7 y9 y10:Value}{h:Heap}(hm:mq < mz3)(hi:Inv3 mq t tn tc h):al(dT mv n kl kb Inv3)mz3(jj mv n kl kb t tn tc y1 y6 y7 y9 y10)h :=⟨mq,hm,t,tn,tc,y1,y6,y7,y9,y10,rfl,hi⟩
theorem tZ(mv:LV)(n kl kb:Nat)(Inv3:Nat->OA->Nat->Nat->Heap->Prop)(Q:VH)(step:∀ (mz3:Nat)(t:OA)(tn:Nat)(tc:Nat)(y1 y6 y7 y9 y10:Value)(zz:Nat->Value)(h:Heap),Inv3 mz3 t tn tc h->Bz mv n kl kb Inv3 Q mz3 t tn tc y1 y6 y7 y9 y10 zz h)(mz3:Nat){t:OA}{tn:Nat}{tc:Nat}{y1 y6 y7 y9 y10:Value}{h:Heap}(hi:Inv3 mz3 t tn tc h):fH [1,1,1,1,1,0,0,0] (jj mv n kl kb t tn tc y1 y6 y7 y9 y10)h(cA [1,1,1,1,1,0,0] [] (fu Q)):=
 aq(A:=(dT mv n kl kb Inv3))(show aG Tryz.f65.ntmps(aQ [1,1,1,1,1,0,0,0] de)=true by kernel_rfl)(fun mz3 w zz h⟨t,tn,tc,y1,y6,y7,y9,y10,hw,hi⟩=> by subst hw; exact aj(step mz3 t tn tc y1 y6 y7 y9 y10 zz h hi)(by kernel_rfl))mz3 _ h⟨t,tn,tc,y1,y6,y7,y9,y10,rfl,hi⟩(fun zz=>by kernel_rfl)(by kernel_rfl)
abbrev jH(mv:LV)(n kl kb s:Nat)(j:Nat)(t:OA)(tn:Nat)(tc:Nat)(y1 y6 y7:Value):LV:=[y1,(sA kl n n),(sA kb n n),(.slice t tn tc),y6,y7,(iA s),(iA j)]
def fX(mv:LV)(n kl kb s:Nat)(Inv4:Nat->Nat->OA->Nat->Nat->Heap->Prop)(mz4:Nat)(w:LV)(h:Heap):Prop:= ∃ (j:Nat)(t:OA)(tn:Nat)(tc:Nat)(y1 y6 y7:Value),w=(jH mv n kl kb s j t tn tc y1 y6 y7)/\Inv4 mz4 j t tn tc h
abbrev z5(mv:LV)(n kl kb s:Nat)(Inv3:Nat->OA->Nat->Nat->Heap->Prop)(mz3:Nat)(Inv4:Nat->Nat->OA->Nat->Nat->Heap->Prop)(Q:VH)(mz4:Nat)(j:Nat)(t:OA)(tn:Nat)(tc:Nat)(y1 y6 y7:Value)(zz:Nat->Value)(h:Heap):Prop:=xP(ag SS.P 72(sA kb n n)(iA s))fun p84=>xL(ai SS.P 48 h(.pointer(some p84)))fun a85 n86 c87=>ax(decide(((j:Int):Int) < (n86:Int)))(xP(ag SS.P 72(sA kb n n)(iA s))fun p88=>xL(ai SS.P 48 h(.pointer(some p88)))fun a89 n90 c91=>xP(ag SS.P 48(.slice a89 n90 c91)(iA j))fun p92=>xI .i64(ai SS.P 3 h(.pointer(some p92)))fun n93=>xP(ag SS.P 46(sA kl n n)(.int .i64 n93))fun p94=>xB(ai SS.P 4 h(.pointer(some p94)))fun b95=>ax(!b95)(xP(ag SS.P 46(sA kl n n)(.int .i64 n93))fun p96=>xU(am SS.P 4(.pointer(some p96))(.bool true)h)h fun u97 g98=>xR(az SS.P 48 1 [(0,(.int .i64 n93))])g98 fun B99 n100 c101 g102=>xE(aC SS.P 48 48(.slice t tn tc)(sA(g98.next)n100 c101)g102)g102 fun a103 n104 c105 u106 g107=>al(fX mv n kl kb s Inv4)mz4 [y1,(sA kl n n),(sA kb n n),(.slice a103 n104 c105),y6,y7,(iA s),(.int .i64(IntKind.wrap .i64((j:Int) + 1)))] g107)(al(fX mv n kl kb s Inv4)mz4 [y1,(sA kl n n),(sA kb n n),(.slice t tn tc),y6,y7,(iA s),(.int .i64(IntKind.wrap .i64((j:Int) + 1)))] h))(al(dT mv n kl kb Inv3)mz3 [y1,(sA kl n n),(sA kb n n),(.slice t tn tc),y6,y7,(iA s),(iA j)] h)
theorem kI {mv:LV}{n kl kb s:Nat}{Inv4:Nat->Nat->OA->Nat->Nat->Heap->Prop}{mz4:Nat}(mq:Nat){j:Nat}{t:OA}{tn:Nat}{tc:Nat}{y1 y6 y7:Value}{h:Heap}(hm:mq < mz4)(hi:Inv4 mq j t tn tc h):al(fX mv n kl kb s Inv4)mz4(jH mv n kl kb s j t tn tc y1 y6 y7)h :=⟨mq,hm,j,t,tn,tc,y1,y6,y7,rfl,hi⟩
theorem uN(mv:LV)(n kl kb s:Nat)(Inv3:Nat->OA->Nat->Nat->Heap->Prop)(mz3:Nat)(Inv4:Nat->Nat->OA->Nat->Nat->Heap->Prop)(Q:VH)(step:∀ (mz4:Nat)(j:Nat)(t:OA)(tn:Nat)(tc:Nat)(y1 y6 y7:Value)(zz:Nat->Value)(h:Heap),Inv4 mz4 j t tn tc h->z5 mv n kl kb s Inv3 mz3 Inv4 Q mz4 j t tn tc y1 y6 y7 zz h)(mz4:Nat){j:Nat}{t:OA}{tn:Nat}{tc:Nat}{y1 y6 y7:Value}{h:Heap}(hi:Inv4 mz4 j t tn tc h):fH [1,1,1,1,1,0,0,0,1,0,1,1,1,0,0] (jH mv n kl kb s j t tn tc y1 y6 y7)h(cA [1,0,1,1,1,0] [1,1,1,1,1,0,0,0] (aU ij(dT mv n kl kb Inv3)mz3(cA [1,1,1,1,1,0,0] [] (fu Q)))):=
 aq(A:=(fX mv n kl kb s Inv4))(show aG Tryz.f65.ntmps(aQ [1,1,1,1,1,0,0,0,1,0,1,1,1,0,0] de)=true by kernel_rfl)(fun mz4 w zz h⟨j,t,tn,tc,y1,y6,y7,hw,hi⟩=> by subst hw; exact aj(step mz4 j t tn tc y1 y6 y7 zz h hi)(by kernel_rfl))mz4 _ h⟨j,t,tn,tc,y1,y6,y7,rfl,hi⟩(fun zz=>by kernel_rfl)(by kernel_rfl)
end Go.Proofs.YtoabjjimjldcfaaGreatDoor
end
section
set_option linter.unusedVariables false
set_option maxRecDepth 100000
namespace Go.Proofs.YtoabjjimjldcfaaGreatDoor
open Go Go.Ab
theorem E7 {P:Program}{t:TypeId}{g g' : Heap}(o:Ok g g'){a v:Value}(h:ai P t g a=some v):ai P t g' a=some v:=by
 unfold ai at h ⊢
 split at h
 · next d k i hd =>
  split at h
  · next cs e sz wr hk =>
   rw [o.ext _ _ hk]
   exact h
  · cases h
 · cases h
theorem StRow.at2 {g0 g:Heap}{a:Option Addr}{n c:Nat}{l:List MSt}(r:StRow g0(.slice a n c)l)(ok:Ok g0 g){i:Nat}{s:MSt}(hs:l[i]? = some s) :
  ∃ (b o:Nat)(x:Option Addr)(y z:Nat),ag SS.P 22(.slice a n c)(.int .i64(i:Int))=some(.pointer(some⟨b,o,none⟩))/\ai SS.P 37 g(.pointer(some⟨b,o,none⟩))=some(.agg⟨[aa s.f,.slice x y z]⟩)/\
   ai SS.P 9 g(.pointer(some⟨b,o + 0,none⟩))=some(aa s.f)/\ai SS.P 35 g(.pointer(some⟨b,o + 1,none⟩))=some(.slice x y z)/\ArcRow g0(.slice x y z)s.arcs:=by
 obtain⟨b,o,x,y,z,e1,e2,e3,e4,ar⟩:=r.at_ hs
 exact⟨b,o,x,y,z,e1,E7 ok e2,E7 ok e3,E7 ok e4,ar⟩
noncomputable def ti48:TypeInfo:=(SS.P.info? 48).getD default
theorem RO:SS.P.info? 48=some ti48:=by kernel_rfl
theorem Nd:ti48.size=1:=by kernel_rfl
theorem I5:ti48.bytes=24:=by kernel_rfl
def vn:Value:= .slice none 0 0
theorem Vp:cq SS.P 48=some vn:=by kernel_rfl
theorem UJ(n:Nat)(hn:n<=100000):aX SS.P 72(.int .i64(n:Int))(.int .i64(n:Int))=some(.cells(List.replicate n vn)48 1 true,mC n n):=by
 unfold aX aH
 dsimp af
 rw [z2]
 try dsimp af
 change(match SS.P.info? 48,cq SS.P 48 with
  | some i,some z=>(if z.cells.size=i.size/\0 < i.size/\(0:Int)<=(n:Int)/\(n:Int)<=(n:Int)/\(n:Int) * i.bytes<=140737488355328/\(n:Int)<=1099511627776 then some(Blk.cells(bi z.cells.toList(n:Int).toNat)48 i.size true,fun k=>Value.slice(some⟨k,0,none⟩)(n:Int).toNat(n:Int).toNat) else none)
  | _,_=>none)=_
 rw [RO,Vp]
 dsimp af
 rw [Nd,I5,if_pos⟨rfl,by omega,by omega,Int.le_refl _,by omega,by omega⟩]
 have e:((n:Int)).toNat=n:=by omega
 rw [e,show(vn).cells.toList=[vn] from rfl,pM]; rfl
def kO(s:MSt):List Nat:=s.arcs.map fun q=>q.t.toNat
def du(M:Mach)(y x:Nat):Prop:= ∃ s,M.states[y]? = some s/\x∈kO s
def rZ(M:Mach)(x:Nat):Prop:= ∃ s,M.states[x]? = some s/\s.f≠[]
def KV(M:Mach)(x:Nat):Prop:=Num.Rch(du M)(fun y=>y=M.start.toNat)x/\Num.Rch(fun y x=>du M x y)(rZ M)x
def Rp(M:Mach)(i j y x:Nat):Prop:=(y < i/\du M y x)\/(y=i/\∃ s,M.states[i]? = some s/\x∈(kO s).take j)
theorem gi {M:Mach}{i y x:Nat} : Rp M i 0 y x↔y < i/\du M y x:=by
 unfold Rp
 constructor
 · rintro(h |⟨_,s,_,h⟩)
  · exact h
  · rw [List.take_zero] at h; cases h
 · exact .inl
theorem yT {M:Mach}{i j y x:Nat}{s:MSt}(hs:M.states[i]? = some s)(hj:s.arcs.length<=j):Rp M i j y x↔y < i + 1/\du M y x:=by
 unfold Rp
 constructor
 · rintro(⟨h1,h2⟩|⟨rfl,s',h1,h2⟩)
  · exact⟨by omega,h2⟩
  · exact⟨by omega,s',h1,List.mem_of_mem_take h2⟩
 · rintro⟨h1,h2⟩
  rcases Nat.lt_or_ge y i with h3 | h3
  · exact .inl⟨h3,h2⟩
  · obtain rfl:y=i:=by omega
   obtain⟨s',h4,h5⟩:=h2
   refine .inr⟨rfl,s',h4,?_⟩
   rw [hs] at h4
   obtain rfl:=Option.some.inj h4
   rw [List.take_of_length_le(by unfold kO; rw [List.length_map]; exact hj)]
   exact h5
theorem Al {M:Mach}{i j y x:Nat}{s:MSt}{q:MArc}(hs:M.states[i]? = some s)(hq:s.arcs[j]? = some q):Rp M i(j + 1)y x↔Rp M i j y x\/(y=i/\x=q.t.toNat):=by
 have hq' : (kO s)[j]? = some q.t.toNat:=by unfold kO; rw [List.getElem?_map,hq]; rfl
 have ht:(kO s).take(j + 1)=(kO s).take j ++ [q.t.toNat]:=by rw [List.take_add_one,hq']; rfl
 unfold Rp
 constructor
 · rintro(h |⟨h1,s',h2,h3⟩)
  · exact .inl(.inl h)
  · rw [hs] at h2
   obtain rfl:=Option.some.inj h2
   rw [ht,List.mem_append,List.mem_singleton] at h3
   rcases h3 with h3 | h3
   · exact .inl(.inr⟨h1,s,hs,h3⟩)
   · exact .inr⟨h1,h3⟩
 · rintro((h |⟨h1,s',h2,h3⟩) |⟨h1,h2⟩)
  · exact .inl h
  · rw [hs] at h2
   obtain rfl:=Option.some.inj h2
   exact .inr⟨h1,s,hs,by rw [ht]; exact List.mem_append.2(.inl h3)⟩
  · exact .inr⟨h1,s,hs,by rw [ht,h2]; exact List.mem_append.2(.inr(List.mem_singleton.2 rfl))⟩
structure Dn(M:Mach)(n i j i' cN:Nat)(F:List(List Nat)):Prop where
 fw:∀ y l,y < n->F[0 * n + y]? = some l->∀ x,x∈l↔Rp M i j y x
 bk:∀ t l,t < n->F[1 * n + t]? = some l->∀ x,x∈l↔Rp M i j x t
 en:∀ l,F[2 * n]? = some l->∀ x,x∈l↔x < i'/\rZ M x
 ln:∀ l∈F,l.length<=cN
theorem rY {F:List(List Nat)}{idx:Nat}{l' : List Nat}{c:Nat}(h:∀ l∈F,l.length<=c)(h2:l'.length<=c + 1):∀ l∈F.set idx l',l.length<=c + 1:=fun l hl=>by
 rcases List.mem_or_eq_of_mem_set hl with h1 | h1
 · exact Nat.le_succ_of_le(h l h1)
 · rw [h1]; exact h2
theorem Dn.arc {M:Mach}{n i j i' cN:Nat}{F:List(List Nat)}(d:Dn M n i j i' cN F)(hi:i < n){s:MSt}{q:MArc}(hs:M.states[i]? = some s)(hq:s.arcs[j]? = some q)(ht:q.t.toNat < n){l1 l2:List Nat}(h1:F[0 * n + i]? = some l1)(h2:F[1 * n + q.t.toNat]? = some l2) :
  Dn M n i(j + 1)i' (cN + 1)((F.set(0 * n + i)(l1 ++ [q.t.toNat])).set(1 * n + q.t.toNat)(l2 ++ [i])):=by
 have b1:=d.ln l1(List.mem_of_getElem? h1)
 have b2:=d.ln l2(List.mem_of_getElem? h2)
 refine⟨fun y l hy hl x=>?_,fun t l ht' hl x=>?_,fun l hl x=>?_,fun l hl=>?_⟩
 · rw [Al hs hq]
  rcases aB hl with⟨e,_⟩|⟨_,hl⟩
  · omega
  · rcases aB hl with⟨e,rfl⟩|⟨e,hl⟩
   · obtain rfl:y=i:=by omega
    rw [List.mem_append,List.mem_singleton,d.fw y l1 hy h1 x]
    exact⟨fun c=>c.imp id fun c =>⟨rfl,c⟩,fun c=>c.imp id fun c=>c.2⟩
   · rw [d.fw y l hy hl x]
    exact⟨.inl,fun c=>c.elim id fun c=>absurd(by rw [c.1])e⟩
 · rw [Al hs hq]
  rcases aB hl with⟨e,rfl⟩|⟨e,hl⟩
  · obtain rfl:t=q.t.toNat:=by omega
   rw [List.mem_append,List.mem_singleton,d.bk _ l2 ht' h2 x]
   exact⟨fun c=>c.imp id fun c =>⟨c,rfl⟩,fun c=>c.imp id fun c=>c.1⟩
  · rcases aB hl with⟨e',_⟩|⟨_,hl⟩
   · omega
   · rw [d.bk t l ht' hl x]
    exact⟨.inl,fun c=>c.elim id fun c=>absurd(by rw [c.2])e⟩
 · rcases aB hl with⟨e,_⟩|⟨_,hl⟩
  · omega
  · rcases aB hl with⟨e,_⟩|⟨_,hl⟩
   · omega
   · exact d.en l hl x
 · rcases List.mem_or_eq_of_mem_set hl with h3 | h3
  · rcases List.mem_or_eq_of_mem_set h3 with h4 | h4
   · have:=d.ln l h4; omega
   · rw [h4,List.length_append,List.length_singleton]; omega
  · rw [h3,List.length_append,List.length_singleton]; omega
theorem Dn.fin {M:Mach}{n i cN:Nat}{F:List(List Nat)}(d:Dn M n i 0 i cN F)(hi:i < n){s:MSt}(hs:M.states[i]? = some s)(hf:s.f≠[]){l:List Nat}(hl:F[2 * n]? = some l):Dn M n i 0(i + 1)(cN + 1)(F.set(2 * n)(l ++ [i])):=by
 have b1:=d.ln l(List.mem_of_getElem? hl)
 refine⟨fun y l' hy hl' x=>?_,fun t l' ht hl' x=>?_,fun l' hl' x=>?_,rY d.ln(by rw [List.length_append,List.length_singleton]; omega)⟩
 · rcases aB hl' with⟨e,_⟩|⟨_,h⟩
  · omega
  · exact d.fw y l' hy h x
 · rcases aB hl' with⟨e,_⟩|⟨_,h⟩
  · omega
  · exact d.bk t l' ht h x
 · rcases aB hl' with⟨_,rfl⟩|⟨e,_⟩
  · rw [List.mem_append,List.mem_singleton,d.en l hl x]
   constructor
   · rintro(⟨h1,h2⟩| rfl)
    · exact⟨by omega,h2⟩
    · exact⟨by omega,s,hs,hf⟩
   · rintro⟨h1,h2⟩
    rcases Nat.lt_or_ge x i with h3 | h3
    · exact .inl⟨h3,h2⟩
    · exact .inr(by omega)
  · exact absurd rfl e
theorem Dn.nofin {M:Mach}{n i cN:Nat}{F:List(List Nat)}(d:Dn M n i 0 i cN F){s:MSt}(hs:M.states[i]? = some s)(hf:s.f=[]):Dn M n i 0(i + 1)(cN + 1)F:=by
 refine⟨d.fw,d.bk,fun l hl x=>?_,fun l hl=>Nat.le_succ_of_le(d.ln l hl)⟩
 rw [d.en l hl x]
 constructor
 · rintro⟨h1,h2⟩; exact⟨by omega,h2⟩
 · rintro⟨h1,h2⟩
  refine⟨?_,h2⟩
  rcases Nat.lt_or_ge x i with h3 | h3
  · exact h3
  · obtain rfl:x=i:=by omega
   obtain⟨s',h4,h5⟩:=h2
   rw [hs] at h4
   obtain rfl:=Option.some.inj h4
   exact absurd hf h5
theorem Dn.next {M:Mach}{n i j cN:Nat}{F:List(List Nat)}(d:Dn M n i j(i + 1)cN F){s:MSt}(hs:M.states[i]? = some s)(hj:s.arcs.length<=j):Dn M n(i + 1)0(i + 1)cN F:=by
 refine⟨fun y l hy hl x=>?_,fun t l ht hl x=>?_,d.en,d.ln⟩
 · rw [d.fw y l hy hl x,yT hs hj,gi]
 · rw [d.bk t l ht hl x,yT hs hj,gi]
theorem Dn.new(M:Mach)(n:Nat):Dn M n 0 0 0 0(List.replicate(2 * n + 1) []):=by
 have h:∀ {i:Nat}{l:List Nat},(List.replicate(2 * n + 1)([] : List Nat))[i]? = some l->l=[]:=fun {i l}hl=>by
  rw [List.getElem?_replicate] at hl
  split at hl
  · exact(Option.some.inj hl).symm
  · cases hl
 refine⟨fun y l hy hl x=>?_,fun t l ht hl x=>?_,fun l hl x=>?_,fun l hl=>?_⟩
 · rw [h hl,gi]; exact⟨fun c=>(by cases c),fun c=>absurd c.1(Nat.not_lt_zero _)⟩
 · rw [h hl,gi]; exact⟨fun c=>(by cases c),fun c=>absurd c.1(Nat.not_lt_zero _)⟩
 · rw [h hl]; exact⟨fun c=>(by cases c),fun c=>absurd c.1(Nat.not_lt_zero _)⟩
 · rw [List.eq_of_mem_replicate hl]; exact Nat.le_refl _
theorem Us.tail {hb g:Heap}{R:Nat}{kt:Nat->Nat}{N:Nat}{X:Nat->Prop}{vs:List Value}{F:List(List Nat)}(s:Us hb R kt N X vs F g){vs' : List Value}{F' : List(List Nat)}{v:Value}{l' : List Nat}(ev:vs' = vs.set(R * N)v)(eF:F' = F.set(R * N)l'){g2:Heap}(fm:Fam hb g2 X vs' F')(ok2:Ok hb g2)(hk:∀ j B,g.get j=some B->X j->g2.get j=some B)(hn:g.next<=g2.next):Us hb R kt N X vs' F' g2:=by
 refine⟨fun r hr=>?_,fm,ok2,by rw [eF,List.length_set]; exact s.len,s.xt,s.inj,fun k hX=>Nat.lt_of_lt_of_le(s.xlt k hX)hn⟩
 have h2:(r + 1) * N<=R * N:=Nat.mul_le_mul_right _ hr
 rw [Nat.add_mul,Nat.one_mul] at h2
 rw [hk _ _(s.cc r hr)(s.xt r hr).1,ev,mT _ _ _ _ _(.inr h2)]
theorem OS(k o n c:Nat):cP 4(.slice(some⟨k,o,none⟩)n c)(.slice(some⟨k,o,none⟩)n c)=true:=by simp [cP]
end Go.Proofs.YtoabjjimjldcfaaGreatDoor
end
section
set_option linter.unusedVariables false
set_option maxRecDepth 100000
namespace Go.Proofs.YtoabjjimjldcfaaGreatDoor
open Go Go.Ab
theorem Fam.lt {hb g:Heap}{X:Nat->Prop}{vs:List Value}{F:List(List Nat)}(f:Fam hb g X vs F)(w:Wf g){i:Nat}{v:Value}(hv:vs[i]? = some v){k:Nat}(hk:bP v=some k):k < g.next:=by
 obtain⟨l2,hl2⟩: ∃ l2,F[i]? = some l2 :=⟨_,List.getElem?_eq_getElem(by rw [<- f.len]; exact(List.getElem?_eq_some_iff.1 hv).1)⟩
 exact((f.own i v l2 hv hl2).lt w hk).1
def VS(hb:Heap):Nat->Prop:=fun k=>k=hb.next + 1\/k=hb.next + 3\/k=hb.next + 4\/k=hb.next + 5
def L5(hb:Heap):Nat->Nat:=fun r=>hb.next + 1 + 2 * r
structure Ub(hb:Heap)(M:Mach)(n i j i' cN:Nat)(vs:List Value)(F:List(List Nat))(g:Heap):Prop where
 us:Us hb 2(L5 hb)n(VS hb)vs F g
 b4:Bx1 g(hb.next + 4)72(.slice(some⟨L5 hb 0,0,none⟩)n n)
 b5:Bx1 g(hb.next + 5)72(.slice(some⟨L5 hb 1,0,none⟩)n n)
 dn:Dn M n i j i' cN F
section
variable {hb:Heap}{M:Mach}{a:Option Addr}{n c k:Nat}
def WG(hb:Heap)(M:Mach)(n:Nat)(mz i:Nat)(e:Option Addr)(en ec:Nat)(g:Heap):Prop:=i<=n/\mz=n - i/\∃ vs F cN,Ub hb M n i 0 i cN vs F g/\vs[2 * n]? = some(.slice e en ec)/\cN + lj(M.states.drop i) + (n - i)<=2300
def Zb(hb:Heap)(M:Mach)(n:Nat)(e:Option Addr)(en ec m i:Nat)(mz2 j:Nat)(g:Heap):Prop:=j<=m/\mz2=m - j/\∃ vs F cN,Ub hb M n i j(i + 1)cN vs F g/\vs[2 * n]? = some(.slice e en ec)/\cN + (m - j) + lj(M.states.drop(i + 1)) + (n - (i + 1))<=2300
set_option linter.defProp false in
def GN(w:Wf hb)(gd:Good M)(hnM:n=M.states.length)(hn:n<=300){s:MSt}{b:Option Addr}{m d i k8:Nat}(hs:M.states[i]? = some s)(hi:i < n)(ar:ArcRow hb(.slice b m d)s.arcs)(hsl:s.arcs.length<=2000)(mv:List Value)(e:Option Addr)(en ec mz:Nat)(hmz:mz=n - i)(Q:VH):=
 sD mv k(hb.next + 4)(hb.next + 5)a n c k8 e en ec b m d(WG hb M n)mz i(Zb hb M n e en ec m i)Q(by
  intro mz2 j; intros; rename_i g hin
  obtain⟨f1,f2,vs,F,cN,ub,hve,hcN⟩:=hin
  have hm:=ar.len
  have ok:=ub.us.ok
  refine ae(fun g1=>?_)(fun g1=>?_)
  · have g1:=of_decide_eq_true g1
   obtain⟨q,hq⟩: ∃ q,s.arcs[j]? = some q :=⟨_,List.getElem?_eq_getElem(by omega)⟩
   obtain⟨bb,o,e1,e2,_⟩:=(ar.ok ok).at_ hq
   have hin:=gd.arcs s(List.mem_of_getElem? hs)q(List.mem_of_getElem? hq)
   obtain⟨T,hT⟩: ∃ T:Nat,q.t=(T:Int) :=⟨q.t.toNat,by have:=hin.t0; omega⟩
   have hTn:T < n:=by have:=hin.t1; omega
   have hTq:q.t.toNat=T:=by omega
   obtain⟨u1,p1,p2,p3⟩:=Iu ok.wf q
   have l3:∀ g',AB g' g.next q->ai SS.P 3 g' (.pointer(some⟨g.next,0 + 3,none⟩))=some(.int .i64(T:Int)):=fun g' h=>by rw [<- hT]; exact AB.l3 h
   have hlt:∀ (idx:Nat)(v:Value),vs[idx]? = some v->bP v≠some g.next:=fun idx v hv e=>by have:=ub.us.fam.lt ok.wf hv e; omega
   have xlt:=ub.us.xlt
   have U2:=ub.us.ext p2
   have B4:=ub.b4.ok p2
   have B5:=ub.b5.ok p2
   refine⟨_,e1,_,e2,_,QE,u1,p1,?_⟩
   generalize u1.app(g.push PF)=g2 at *
   have w2:=U2.ok.wf
   have oR:=(Ok.refl w2).room 12
   obtain⟨r1,a1,c1,hF1,hv1,ix1,VD⟩:=U2.ld(r:=0)(i:=i)(by omega)hi
   have hr1:=ub.dn.ln r1(List.mem_of_getElem? hF1)
   obtain⟨o8,k8'⟩:=Ky w2(n:=12)(j:=8)(by omega)(.cells [.int .i64(T:Int)] 3 1 true)
   have ldR:=(VD _(U2.ext oR)).1
   have U3:=U2.ext o8
   have B43:=B4.ok o8
   have B53:=B5.ok o8
   have A3:=AB.ok p3 o8
   obtain⟨b',n',c',u78,ap1,en1,fm4,ok4,kp4,nx4⟩:=U3.fam.snoc w U3.ok U3.xlt hv1 hF1 k8' (by omega)
   have ne1:bP(.slice a1 r1.length c1)≠some g.next:=hlt _ _ hv1
   have nX1:∀ k,VS hb k->bP(.slice a1 r1.length c1)≠some k:=fun k hX e=>U3.fam.out _ _ hv1 k e hX
   refine⟨_,_,_,(B4.ok oR).ld z2 Gg,_,_,_,(B4.ok oR).ld z2 Gg,_,ix1,_,_,_,ldR,_,my _ _,_,l3 _(p3.ok oR),_,_,_,rv _,b',n',c',u78,ap1,_,ix1,?_⟩
   generalize aE(Go.Ab.room g2 12)g2.next [(8,.cells [.int .i64(T:Int)] 3 1 true)]=S at *
   have B44:=kp4 _ _ B43(nX1 _(.inr(.inr(.inl rfl))))
   have B54:=kp4 _ _ B53(nX1 _(.inr(.inr(.inr rfl))))
   have A4:=kp4 _ _ A3 ne1
   obtain⟨u80,VJ,U5,kp5⟩:=U3.put w(r:=0)(i:=i)(by omega)hi rfl rfl fm4 ok4(fun j' B' hj hX=>kp4 j' B' hj(nX1 j' hX))nx4
   refine⟨u80,VJ,⟨Bx1.ld z2 Gg B44,OS _ _ _ _⟩,?_⟩
   have B45:Bx1 _ _ _ _:=kp5 _ _ B44(by unfold L5; omega)
   have B55:Bx1 _ _ _ _:=kp5 _ _ B54(by unfold L5; omega)
   have A5:AB _ _ q:=kp5 _ _ A4(by have:=xlt _(ub.us.xt 0(by omega)).1; omega)
   generalize u78.app S=g4 at *
   generalize u80.app g4=g5 at *
   have w5:=U5.ok.wf
   have oR2:=(Ok.refl w5).room 13
   obtain⟨r2,a2,c2,hF2,hv2,ix2,ld2⟩:=U5.ld(r:=1)(i:=T)(by omega)hTn
   obtain⟨o9,k9⟩:=Ky w5(n:=13)(j:=9)(by omega)(.cells [.int .i64(i:Int)] 3 1 true)
   have ldR2:=(ld2 _(U5.ext oR2)).1
   have U6:=U5.ext o9
   have hv2' : vs[1 * n + T]? = some(.slice a2 r2.length c2):=by
    rcases aB hv2 with⟨e,_⟩|⟨_,h⟩
    · omega
    · exact h
   have hF2' : F[1 * n + T]? = some r2:=by
    rcases aB hF2 with⟨e,_⟩|⟨_,h⟩
    · omega
    · exact h
   have hr2:=ub.dn.ln r2(List.mem_of_getElem? hF2')
   have ne2:=hlt _ _ hv2'
   have nX2:∀ k,VS hb k->bP(.slice a2 r2.length c2)≠some k:=fun k hX e=>ub.us.fam.out _ _ hv2' k e hX
   obtain⟨b2',n2',c2',u101,ap2,en2,fm7,ok7,kp7,nx7⟩:=U6.fam.snoc w U6.ok U6.xlt hv2 hF2 k9(by omega)
   refine⟨_,_,_,(B55.ok oR2).ld z2 Gg,_,my _ _,_,l3 _(A5.ok oR2),_,_,_,(B55.ok oR2).ld z2 Gg,_,my _ _,_,l3 _(A5.ok oR2),_,ix2,_,_,_,ldR2,_,_,_,rv _,b2',n2',c2',u101,ap2,_,ix2,?_⟩
   have B46:=kp7 _ _(B45.ok o9)(nX2 _(.inr(.inr(.inl rfl))))
   have B56:=kp7 _ _(B55.ok o9)(nX2 _(.inr(.inr(.inr rfl))))
   have A6:AB _ _ q:=kp7 _ _(A5.ok o9)ne2
   obtain⟨u103,st2,U8,kp8⟩:=U6.put w(r:=1)(i:=T)(by omega)hTn rfl rfl fm7 ok7(fun j' B' hj hX=>kp7 j' B' hj(nX2 j' hX))nx7
   refine⟨u103,st2,⟨Bx1.ld z2 Gg B56,OS _ _ _ _⟩,⟨l3 _ A6,sK _⟩,?_⟩
   rw [aK(i:=j)(n:=m)(by omega)(by omega)]
   have B48:=kp8 _ _ B46(by unfold L5; omega)
   have B58:=kp8 _ _ B56(by unfold L5; omega)
   have D:=ub.dn.arc hi hs hq(by rw [hTq]; exact hTn)hF1(by rw [hTq]; exact hF2')
   rw [hTq] at D
   refine tU(mz2 - 1)(by omega)⟨by omega,by omega,_,_,cN + 1,⟨U8,B48,B58,D⟩,?_,by omega⟩
   rw [List.getElem?_set,if_neg(by omega),List.getElem?_set,if_neg(by omega)]
   exact hve
  · have g1:=of_decide_eq_false g1
   obtain rfl:m=j:=by omega
   rw [aK hi(by omega)]
   exact uP(n - (i + 1))(by omega)⟨by omega,rfl,vs,F,cN,⟨ub.us,ub.b4,ub.b5,ub.dn.next hs(by omega)⟩,hve,by omega⟩)
end
end Go.Proofs.YtoabjjimjldcfaaGreatDoor
end
section
set_option linter.unusedVariables false
set_option maxRecDepth 100000
namespace Go.Proofs.YtoabjjimjldcfaaGreatDoor
open Go Go.Ab
def io(n:Nat):Blk:= .cells(List.replicate n vn)48 1 true
def yq:Blk:= .cells [.slice none 0 0] 72 0 true
theorem Wc:bj SS.P 72=some(yq,ks):=by kernel_rfl
theorem CK {E E' : Nat->Nat->Prop}{F F' : Nat->Prop}(hE:∀ y x,E y x↔E' y x)(hF:∀ x,F x↔F' x)(x:Nat):Num.Rch E F x↔Num.Rch E' F' x:=by
 have e1:E=E':=funext fun y=>funext fun x=>propext(hE y x)
 have e2:F=F':=funext fun x=>propext(hF x)
 rw [e1,e2]
theorem Fp {g0:Heap}(w:Wf g0)(M:Mach)(n:Nat) :
  ∃ u14:Upd,am SS.P 72(.pointer(some⟨g0.next + 4,0,none⟩))(.slice(some⟨g0.next + 1,0,none⟩)n n)(aE(Go.Ab.room g0 8)g0.next [(5,yq),(4,yq),(1,io n)])=some(undef,u14)/\
  ∃ u15:Upd,am SS.P 72(.pointer(some⟨g0.next + 5,0,none⟩))(.slice(some⟨g0.next + 3,0,none⟩)n n)(aE(u14.app(aE(Go.Ab.room g0 8)g0.next [(5,yq),(4,yq),(1,io n)]))g0.next [(3,io n)])=some(undef,u15)/\
   Ub g0 M n 0 0 0 0(List.replicate(2 * n + 1)vn)(List.replicate(2 * n + 1) [])(u15.app(aE(u14.app(aE(Go.Ab.room g0 8)g0.next [(5,yq),(4,yq),(1,io n)]))g0.next [(3,io n)])):=by
 obtain⟨N,hN⟩: ∃ N,g0.next=N :=⟨_,rfl⟩
 have hnx:(Go.Ab.room g0 8).next=N + 8:=by rw [<- hN]; rfl
 rw [hN]
 have h4:Bx1(aE(Go.Ab.room g0 8)N [(5,yq),(4,yq),(1,io n)])(N + 4)72(.slice none 0 0):=by
  show(((Go.Ab.room g0 8).set(N + 1)_).set(N + 4)yq |>.set(N + 5)yq).get(N + 4)=_
  rw [Heap.get_set,if_neg(by omega),Heap.get_set,if_pos rfl]; rfl
 refine⟨_,h4.st T7 (gm _ _ _)rfl,?_⟩
 have h5:Bx1(aE((Upd.set(N + 4)(.cells [.slice(some⟨N + 1,0,none⟩)n n] 72 0 true)).app(aE(Go.Ab.room g0 8)N [(5,yq),(4,yq),(1,io n)]))N [(3,io n)])(N + 5)72(.slice none 0 0):=by
  show(((((Go.Ab.room g0 8).set(N + 1)(io n)).set(N + 4)yq |>.set(N + 5)yq).set(N + 4)_).set(N + 3)(io n)).get(N + 5)=_
  rw [Heap.get_set,if_neg(by omega),Heap.get_set,if_neg(by omega),Heap.get_set,if_pos rfl]; rfl
 refine⟨_,h5.st T7 (gm _ _ _)rfl,?_⟩
 show Ub g0 M n 0 0 0 0 _ _((((((Go.Ab.room g0 8).set(N + 1)(io n)).set(N + 4)yq |>.set(N + 5)yq).set(N + 4)(.cells [.slice(some⟨N + 1,0,none⟩)n n] 72 0 true)).set(N + 3)(io n)).set(N + 5)(.cells [.slice(some⟨N + 3,0,none⟩)n n] 72 0 true))
 have hget:∀ j,((((((Go.Ab.room g0 8).set(N + 1)(io n)).set(N + 4)yq |>.set(N + 5)yq).set(N + 4)(.cells [.slice(some⟨N + 1,0,none⟩)n n] 72 0 true)).set(N + 3)(io n)).set(N + 5)(.cells [.slice(some⟨N + 3,0,none⟩)n n] 72 0 true)).get j =
   if j=N + 5 then some(.cells [.slice(some⟨N + 3,0,none⟩)n n] 72 0 true) else if j=N + 3 then some(io n) else if j=N + 4 then some(.cells [.slice(some⟨N + 1,0,none⟩)n n] 72 0 true) else if j=N + 5 then some yq else if j=N + 4 then some yq else if j=N + 1 then some(io n) else g0.get j:=fun j=>by
  rw [Heap.get_set,Heap.get_set,Heap.get_set,Heap.get_set,Heap.get_set,Heap.get_set]; rfl
 have hok:Ok g0((((((Go.Ab.room g0 8).set(N + 1)(io n)).set(N + 4)yq |>.set(N + 5)yq).set(N + 4)(.cells [.slice(some⟨N + 1,0,none⟩)n n] 72 0 true)).set(N + 3)(io n)).set(N + 5)(.cells [.slice(some⟨N + 3,0,none⟩)n n] 72 0 true)):=by
  refine((((((Ok.refl w).room 8).set _ ?_ ?_ w).set _ ?_ ?_ w).set _ ?_ ?_ w).set _ ?_ ?_ w).set _ ?_ ?_ w |>.set _ ?_ ?_ w
  all_goals first
   | (rw [hN]; omega)
   | (show _ < (Go.Ab.room g0 8).next; rw [hnx]; omega)
 generalize((((((Go.Ab.room g0 8).set(N + 1)(io n)).set(N + 4)yq |>.set(N + 5)yq).set(N + 4)(.cells [.slice(some⟨N + 1,0,none⟩)n n] 72 0 true)).set(N + 3)(io n)).set(N + 5)(.cells [.slice(some⟨N + 3,0,none⟩)n n] 72 0 true))=gF at *
 have g1:gF.get(N + 1)=some(io n):=by rw [hget,if_neg(by omega),if_neg(by omega),if_neg(by omega),if_neg(by omega),if_neg(by omega),if_pos rfl]
 have g3:gF.get(N + 3)=some(io n):=by rw [hget,if_neg(by omega),if_pos rfl]
 have g4:gF.get(N + 4)=some(.cells [.slice(some⟨N + 1,0,none⟩)n n] 72 0 true):=by rw [hget,if_neg(by omega),if_neg(by omega),if_pos rfl]
 have g5:gF.get(N + 5)=some(.cells [.slice(some⟨N + 3,0,none⟩)n n] 72 0 true):=by rw [hget,if_pos rfl]
 have hrep:∀ {i:Nat}{v:Value},(List.replicate(2 * n + 1)vn)[i]? = some v->v=vn:=fun {i v}hl=>by
  rw [List.getElem?_replicate] at hl
  split at hl
  · exact(Option.some.inj hl).symm
  · cases hl
 have hrepF:∀ {i:Nat}{l:List Nat},(List.replicate(2 * n + 1)([] : List Nat))[i]? = some l->l=[]:=fun {i l}hl=>by
  rw [List.getElem?_replicate] at hl
  split at hl
  · exact(Option.some.inj hl).symm
  · cases hl
 refine⟨⟨fun r hr=>?_,⟨by rw [List.length_replicate,List.length_replicate],fun i v l hv hl=>?_,fun i j v v' _ hv _ k hk=>?_,fun i v hv k hk=>?_⟩,hok,List.length_replicate,fun r hr =>⟨?_,?_⟩,fun r r' _ _ hne=>?_,fun k hX=>?_⟩,?_,?_,Dn.new M n⟩
 · have e:((List.replicate(2 * n + 1)vn).drop(r * n)).take n=List.replicate n vn:=by
   rw [List.drop_replicate,List.take_replicate]
   congr 1
   have:r=0\/r=1:=by omega
   rcases this with rfl | rfl <;> omega
  rw [e]
  have:r=0\/r=1:=by omega
  unfold L5
  rw [hN]
  rcases this with rfl | rfl
  · exact g1
  · exact g3
 · rw [hrep hv,hrepF hl]; exact OwnG.nil _ _ _
 · rw [hrep hv] at hk; cases hk
 · rw [hrep hv] at hk; cases hk
 · unfold VS L5; rw [hN]
  have:r=0\/r=1:=by omega
  rcases this with rfl | rfl <;> omega
 · unfold L5; omega
 · unfold L5; omega
 · unfold VS at hX
  rw [hN] at hX
  rcases hX with rfl | rfl | rfl | rfl
  · exact hok.wf _ _ g1
  · exact hok.wf _ _ g3
  · exact hok.wf _ _ g4
  · exact hok.wf _ _ g5
 · rw [hN]; show gF.get(N + 4)=_; rw [g4]; unfold L5; rw [hN]
 · rw [hN]; show gF.get(N + 5)=_; rw [g5]; unfold L5; rw [hN]
theorem jz {g:Heap}{kt N c:Nat}{L:List Bool}(hg:g.get kt=some(.cells(L.map Value.bool)4 1 true))(hl:L.length=N){x:Nat}(h1:x < N):ag SS.P 46(.slice(some⟨kt,0,none⟩)N c)(.int .i64(x:Int))=some(.pointer(some⟨kt,x,none⟩))/\ai SS.P 4 g(.pointer(some⟨kt,x,none⟩))=some(.bool(L.getD x false)):=by
 refine⟨?_,?_⟩
 · have:=Rh(P:=SS.P)My RH (k:=kt)(off:=0)(n:=N)(c:=c)(ik:= .i64)(i:=(x:Int))(by omega)(by omega)
  rw [this,Int.toNat_natCast,Nat.zero_add,Nat.mul_one]
 · rw [ey Yx XS hg(by rw [List.length_map]; omega),List.getD_eq_getElem?_getD,List.getElem?_map,List.getD_eq_getElem?_getD,List.getElem?_eq_getElem(by omega)]; rfl
def SV(h1:Heap)(kl kr n:Nat)(L1 L2:List Bool)(mz i:Nat)(g:Heap):Prop:=i<=n/\mz=n - i/\∃ L,BR h1 kl n L g/\g.get kr=some(.cells(L2.map Value.bool)4 1 true)/\∀ x,L.getD x false=if x < i then(L1.getD x false && L2.getD x false) else L1.getD x false
theorem pS {h1:Heap}(w:Wf h1){kl kr n:Nat}{L1 L2:List Bool}{mz i:Nat}{g:Heap}(h:SV h1 kl kr n L1 L2 mz i g)(hL2:L2.length=n)(hne:kr≠kl)(hi:i < n){b:Bool}(hb:b=(L1.getD i false && L2.getD i false)) :
  ∃ u:Upd,am SS.P 4(.pointer(some⟨kl,i,none⟩))(.bool b)g=some(undef,u)/\SV h1 kl kr n L1 L2(mz - 1)(i + 1)(u.app g):=by
 obtain⟨f1,f2,L,br,hr,hL⟩:=h
 obtain⟨r1,r2,r3⟩:=br.get(c:=n)(x:=(i:Int))(by omega)(by omega)
 rw [Int.toNat_natCast] at r3
 obtain⟨u,s1,s2,s3⟩:=r3 b w
 refine⟨u,s1,by omega,by omega,_,s2,s3 _ _ hr hne,fun x=>?_⟩
 rw [AW(by rw [br.len]; exact hi),hL x]
 by_cases e:x=i
 · subst e
  rw [if_pos rfl,if_pos(by omega),hb]
 · rw [if_neg e]
  by_cases e2:x < i
  · rw [if_pos e2,if_pos(by omega)]
  · rw [if_neg e2,if_neg(by omega)]
def uQ(h:Heap)(M:Mach)(n:Nat):VH:=fun v h'=>∃ kl L,v = .slice(some⟨kl,0,none⟩)n n/\BR h kl n L h'/\∀ x,x < n->(L.getD x false=true↔KV M x)
theorem BR.base {h h1 g:Heap}{kl n:Nat}{L:List Bool}(b:BR h1 kl n L g)(o:Ok h h1):BR h kl n L g :=⟨b.len,b.row.row,Nat.le_trans o.nx b.row.new,o.trans b.row.ok⟩
end Go.Proofs.YtoabjjimjldcfaaGreatDoor
end
section
set_option linter.unusedVariables false
set_option maxRecDepth 100000
namespace Go.Proofs.YtoabjjimjldcfaaGreatDoor
open Go Go.Ab
section
variable {h:Heap}{M:Mach}{a:Option Addr}{n c:Nat}
theorem vB {i:Nat}(hi:i < M.states.length):∃ s,M.states[i]? = some s :=⟨_,List.getElem?_eq_getElem hi⟩
theorem KC(gd:Good M){y x:Nat}(h:du M y x):x < M.states.length:=by
 obtain⟨s,h1,h2⟩:=h
 unfold kO at h2
 obtain⟨q,h3,rfl⟩:=List.mem_map.1 h2
 have:=gd.arcs s(List.mem_of_getElem? h1)q h3
 have:=this.t1
 have:= ‹ArcIn _ q›.t0
 omega
theorem pu {y x:Nat}(h:du M y x):y < M.states.length:=by
 obtain⟨s,h1,h2⟩:=h
 exact(List.getElem?_eq_some_iff.1 h1).1
set_option linter.defProp false in
def G7(w1:Wf h){kl kr:Nat}{L1 L2:List Bool}(hL1:∀ x,L1.getD x false=true↔Num.Rch(du M)(fun y=>y=M.start.toNat)x)(hL2:∀ x,L2.getD x false=true↔Num.Rch(fun y x=>du M x y)(rZ M)x)(hl2:L2.length=n)(hne:kr≠kl)(hn:n<=300)(Q:VH)(hQ:∀ v g',uQ h M n v g'->Q v g')(mv:List Value):=
 uO mv n kl kr(SV h kl kr n L1 L2)Q(by
  intro mz3 i; intros; rename_i g hin
  have h3:=hin
  obtain⟨f1,f2,L,br,hr,hL⟩:=h3
  refine ae(fun q1=>?_)(fun q1=>?_)
  · have q1:=of_decide_eq_true q1
   have hi:i < n:=by omega
   obtain⟨x1,x2⟩:=jz(c:=n)hr hl2 hi
   obtain⟨y1,y2⟩:=jz(c:=n)br.row.row br.len hi
   have e:=hL i
   rw [if_neg(Nat.lt_irrefl i)] at e
   rw [e] at y2
   refine⟨_,x1,_,x2,_,y1,_,y2,ae(fun t=>?_)(fun t=>?_)⟩
   · obtain⟨u,s1,s2⟩:=pS w1 hin hl2 hne hi(b:=L2.getD i false)(by rw [t]; rfl)
    refine⟨_,y1,u,s1,?_⟩
    rw [aK hi(by omega)]
    exact kT(mz3 - 1)(by omega)s2
   · obtain⟨u,s1,s2⟩:=pS w1 hin hl2 hne hi(b:=false)(by rw [t]; rfl)
    refine⟨_,y1,u,s1,?_⟩
    rw [aK hi(by omega)]
    exact kT(mz3 - 1)(by omega)s2
  · have q1:=of_decide_eq_false q1
   refine hQ _ _⟨kl,L,rfl,br,fun x hx=>?_⟩
   rw [hL x,if_pos(by omega),Bool.and_eq_true,hL1,hL2]
   exact Iff.rfl)
theorem LZ(w:Wf h)(sm:Small M)(gd:Good M)(r:StRow h(.slice a n c)M.states):FW SS 41 [.agg⟨bw M a n c⟩] h(uQ h M n):=by
 obtain⟨mb,ok⟩:=cV w r
 have hl:=mb.len
 have hn:n<=300:=by rw [hl]; exact sm.sts
 refine M1(bw M a n c)h _⟨_,fi M a n c,_,aT _,_,_,_,mb.l3,_,_,_,UJ n(by omega),_,_,_,UJ n(by omega),_,Wc,_,Wc,?_⟩
 generalize h.push(Bm M a n c)=g0 at *
 have w0:=ok.wf
 obtain⟨u14,s14,u15,s15,ub0⟩:=Fp w0 M n
 refine⟨u14,s14,u15,s15,?_⟩
 have mbF:=mb.ok ub0.us.ok
 refine⟨_,aT _,_,_,_,mbF.l3,?_⟩
 refine uB(bw M a n c)h.next(g0.next + 4)(g0.next + 5)a n c(WG g0 M n)(uQ h M n)(fun mz i e en ec=>?_)n(i:=0)(e:=none)(en:=0)(ec:=0)⟨by omega,rfl,_,_,0,ub0,?_,?_⟩
 rotate_left
 · rw [List.getElem?_replicate,if_pos(by omega)]; rfl
 · rw [List.drop_zero]; have:=sm.tot; omega
 intros; rename_i gg hi
 obtain⟨f1,f2,vs,F,cN,ub,hve,hcN⟩:=hi
 have okg:=ub.us.ok
 refine ae(fun q1=>?_)(fun q1=>?_)
 · have q1:=of_decide_eq_true q1
  obtain⟨s,hs⟩:=vB(M:=M)(i:=i)(by omega)
  obtain⟨b,o,x',y,z,e1,e2,e3,e4,ar⟩:=mb.row.at2 okg hs
  obtain⟨l1,l2,l3⟩:=dl sm hs
  have hy:=ar.len
  have hd:lj(M.states.drop i)=s.arcs.length + lj(M.states.drop(i + 1)):=by rw [bm hs,mj]
  obtain⟨u,p1,p2,p3⟩:=Db okg.wf s.f x' y z
  refine⟨_,e1,_,e2,_,M7,u,p1,_,rG _ _,_,p3.l0,?_⟩
  have U2:=ub.us.ext p2
  have B4:=ub.b4.ok p2
  have B5:=ub.b5.ok p2
  have xlt:=ub.us.xlt
  have hfl:=ub.us.fam
  have wgg:=okg.wf
  generalize u.app(gg.push Nr)=g2 at *
  refine ae(fun q2=>?_)(fun q2=>?_)
  · have q2:s.f≠[]:=by simpa using q2
   have op:=(Ok.refl U2.ok.wf).push(.cells [.int .i64(i:Int)] 3 1 true)
   have kp:=aZ g2(.cells [.int .i64(i:Int)] 3 1 true)
   have U3:=U2.ext op
   obtain⟨le,hle⟩: ∃ le,F[2 * n]? = some le :=⟨_,List.getElem?_eq_getElem(by rw [ub.us.len]; omega)⟩
   have hlel:=ub.dn.ln le(List.mem_of_getElem? hle)
   obtain⟨b',n',c',u32,ap1,en1,fm4,ok4,kp4,nx4⟩:=U3.fam.snoc w0 U3.ok U3.xlt hve hle kp(by omega)
   have nX:∀ k,VS g0 k->bP(.slice e en ec)≠some k:=fun k hX e'=>U3.fam.out _ _ hve k e' hX
   have U4:=U3.tail rfl rfl fm4 ok4(fun j' B' hj hX=>kp4 j' B' hj(nX j' hX))nx4
   have B44:=kp4 _ _(B4.ok op)(nX _(.inr(.inr(.inl rfl))))
   have B54:=kp4 _ _(B5.ok op)(nX _(.inr(.inr(.inr rfl))))
   have S4:=kp4 _ _(p3.ok op)(fun e'=>by have:=hfl.lt wgg hve e'; omega)
   refine⟨_,_,_,rv _,b',n',c',u32,ap1,_,bt _ _,_,_,_,SB.l1 S4,?_⟩
   have hlen:(vs.length)=2 * n + 1:=by rw [ub.us.fam.len]; exact ub.us.len
   exact GN w0 gd hl hn hs(by omega)ar l1 _ b' n' c' mz f2 _ y(j:=0)⟨by omega,by omega,_,_,cN + 1,⟨U4,B44,B54,ub.dn.fin(by omega)hs q2 hle⟩,by rw [List.getElem?_set,if_pos rfl,if_pos(by omega)],by omega⟩
  · have q2:s.f=[]:=by simpa using q2
   refine⟨_,bt _ _,_,_,_,p3.l1,?_⟩
   exact GN w0 gd hl hn hs(by omega)ar l1 _ e en ec mz f2 _ y(j:=0)⟨by omega,by omega,vs,F,cN + 1,⟨U2,B4,B5,ub.dn.nofin hs q2⟩,hve,by omega⟩
 · have q1:=of_decide_eq_false q1
  obtain rfl:n=i:=by omega
  have mb2:=mb.ok okg
  have hst0:=gd.start0
  have hst1:=gd.start1
  obtain⟨S,hS⟩: ∃ S:Nat,M.start=(S:Int) :=⟨M.start.toNat,by omega⟩
  have hSn:S < n:=by omega
  have hSt:M.start.toNat=S:=by omega
  have l1:=mb2.l1
  rw [hS] at l1
  have op:=(Ok.refl okg.wf).push(.cells [.int .i64(S:Int)] 3 1 true)
  have kp:=aZ gg(.cells [.int .i64(S:Int)] 3 1 true)
  refine⟨_,m9 _,_,l1,_,_,_,rv _,?_⟩
  have U3:=ub.us.ext op
  have B4:=ub.b4.ok op
  have B5:=ub.b5.ok op
  have rf:Rd(gg.push(.cells [.int .i64(S:Int)] 3 1 true))3(.slice(some⟨gg.next,0,none⟩)1 1)([S].map iv):= .inr⟨gg.next,0,_,1,true,rfl,kp,rfl⟩
  have okh:=ok.trans(okg.trans op)
  generalize gg.push(.cells [.int .i64(S:Int)] 3 1 true)=h1 at *
  have w1:=okh.wf
  have adj1:=U3.adj(r:=0)(by omega)
  have adj2:=U3.adj(r:=1)(by omega)
  have hA1:∀ {y:Nat}{l:List Nat},((F.drop(0 * n)).take n)[y]? = some l->y < n/\l.length<=2300/\∀ x,x∈l↔du M y x:=fun {y l}hy=>by
   rw [List.getElem?_take] at hy
   split at hy
   · next hyn =>
    rw [List.getElem?_drop] at hy
    refine⟨hyn,by have:=ub.dn.ln l(List.mem_of_getElem? hy); omega,fun x=>?_⟩
    rw [ub.dn.fw y l hyn hy x,gi]
    exact⟨fun c=>c.2,fun c =>⟨hyn,c⟩⟩
   · cases hy
  have hA2:∀ {y:Nat}{l:List Nat},((F.drop(1 * n)).take n)[y]? = some l->y < n/\l.length<=2300/\∀ x,x∈l↔du M x y:=fun {y l}hy=>by
   rw [List.getElem?_take] at hy
   split at hy
   · next hyn =>
    rw [List.getElem?_drop] at hy
    refine⟨hyn,by have:=ub.dn.ln l(List.mem_of_getElem? hy); omega,fun x=>?_⟩
    rw [ub.dn.bk y l hyn hy x,gi]
    exact⟨fun c=>c.2,fun c =>⟨by rw [hl]; exact pu c,c⟩⟩
   · cases hy
  have hE1:∀ y x,BM((F.drop(0 * n)).take n)y x↔du M y x:=fun y x=>by
   unfold BM
   rw [List.getD_eq_getElem?_getD]
   cases he:((F.drop(0 * n)).take n)[y]? with
   | some l=>exact(hA1 he).2.2 x
   | none =>
    refine⟨fun c=>(by cases c),fun c=>?_⟩
    have:=pu c
    rw [List.getElem?_eq_none_iff,adj1.1] at he
    omega
  have hE2:∀ y x,BM((F.drop(1 * n)).take n)y x↔du M x y:=fun y x=>by
   unfold BM
   rw [List.getD_eq_getElem?_getD]
   cases he:((F.drop(1 * n)).take n)[y]? with
   | some l=>exact(hA2 he).2.2 x
   | none =>
    refine⟨fun c=>(by cases c),fun c=>?_⟩
    have:=KC gd c
    rw [List.getElem?_eq_none_iff,adj2.1] at he
    omega
  obtain⟨le,hle⟩: ∃ le,F[2 * n]? = some le :=⟨_,List.getElem?_eq_getElem(by rw [ub.us.len]; omega)⟩
  have hlel:=ub.dn.ln le(List.mem_of_getElem? hle)
  have ren:Rd h1 3(.slice e en ec)(le.map iv):=(U3.fam.own _ _ _ hve hle).rd
  have hmem:∀ x,x∈le↔rZ M x:=fun x=>by
   rw [ub.dn.en le hle x]
   refine⟨fun c=>c.2,fun c =>⟨?_,c⟩⟩
   obtain⟨s,h2,_⟩:=c
   have:=(List.getElem?_eq_some_iff.1 h2).1
   omega
  refine(DZ w1(by omega)adj1.1(fun l hl' x hx=>?_)(fun l hl'=>?_)(PR w1 B4 adj1)rf(fun x hx=>?_)(by simp)).mono ?_
  · obtain⟨y,hy⟩:=List.mem_iff_getElem?.1 hl'
   have:=KC gd((hA1 hy).2.2 x |>.1 hx); omega
  · obtain⟨y,hy⟩:=List.mem_iff_getElem?.1 hl'
   have:=(hA1 hy).2.1; omega
  · rw [List.mem_singleton] at hx; omega
  rintro _ g3⟨kl,L1,rfl,br1,hL1⟩
  refine⟨_,_,_,rfl,?_⟩
  have o3:=br1.row.ok
  refine(DZ o3.wf(by omega)adj2.1(fun l hl' x hx=>?_)(fun l hl'=>?_)(PN o3.wf(B5.ok o3)(adj2.ok o3))(ren.ok o3)(fun x hx=>?_)(by omega)).mono ?_
  · obtain⟨y,hy⟩:=List.mem_iff_getElem?.1 hl'
   have:=pu ((hA2 hy).2.2 x |>.1 hx); omega
  · obtain⟨y,hy⟩:=List.mem_iff_getElem?.1 hl'
   have:=(hA2 hy).2.1; omega
  · obtain⟨s,h2,_⟩:=(hmem x).1 hx
   have:=(List.getElem?_eq_some_iff.1 h2).1
   omega
  rintro _ g4⟨kr,L2,rfl,br2,hL2⟩
  refine⟨_,_,_,rfl,?_⟩
  have hne:kr≠kl:=by have:=br1.row.lt; have:=br2.row.new; omega
  have q1:∀ x,L1.getD x false=true↔Num.Rch(du M)(fun y=>y=M.start.toNat)x:=fun x=>by
   rw [hL1 x]; exact CK hE1(fun x=>by rw [List.mem_singleton,hSt])x
  have q2:∀ x,L2.getD x false=true↔Num.Rch(fun y x=>du M x y)(rZ M)x:=fun x=>by
   rw [hL2 x]; exact CK hE2 hmem x
  exact G7(n:=n)w1 q1 q2 br2.len hne hn(uQ h M n)(fun v g'⟨k1,L,e1,e2,e3⟩=>⟨k1,L,e1,e2.base okh,e3⟩)(bw M a n c)n(i:=0)⟨by omega,rfl,L1,br1.trans br2.row.ok,br2.row.row,fun x=>by rw [if_neg(Nat.not_lt_zero _)]⟩
noncomputable def wh(M:Mach):Bool:=bZ M && !(@decide(KV M M.start.toNat)(Classical.propDecidable _))
theorem Iq {b:Bool}{p:Prop}(h:b=true↔p):b = @decide p(Classical.propDecidable _):=by
 cases b with
 | true=>exact(@decide_eq_true p(Classical.propDecidable _)(h.1 rfl)).symm
 | false=>exact(@decide_eq_false p(Classical.propDecidable _)(fun c=>by cases h.2 c)).symm
theorem Lj(tb:Tab h)(w:Wf h)(sm:Small M)(r:StRow h(.slice a n c)M.states):FW SS 18 [.agg⟨bw M a n c⟩] h(fun v h'=>v = .bool(wh M)/\Ok h h'):=by
 obtain⟨mb,ok⟩:=cV w r
 refine Lx(bw M a n c)h _⟨_,fi M a n c,?_⟩
 generalize h.push(Bm M a n c)=g at *
 have oR:=(Ok.refl ok.wf).room 12
 have mbR:=mb.ok oR
 have okR:=ok.trans oR
 refine⟨_,mbR.all,(qo(tb.ok okR)okR.wf sm mbR.row).mono ?_⟩
 rintro _ g2⟨rfl,o2⟩
 have ok2:=okR.trans o2
 have mb2:=mbR.ok o2
 refine⟨_,rfl,ae(fun q=>?_)(fun q =>⟨?_,ok2⟩)⟩
 rotate_left
 · unfold wh; rw [q]; rfl
 have gd:=pJ q
 have hl:=mb2.len
 have h0:=gd.start0
 have h1:=gd.start1
 refine⟨_,mb2.all,(LZ ok2.wf sm gd mb2.row).mono ?_⟩
 rintro _ g3⟨kl,L,rfl,br,hL⟩
 have mb3:=mb2.ok br.row.ok
 obtain⟨x1,x2⟩:=jz(c:=n)br.row.row br.len(x:=M.start.toNat)(by omega)
 rw [show((M.start.toNat:Nat):Int)=M.start by omega] at x1
 refine⟨_,_,_,rfl,_,m9 _,_,mb3.l1,_,x1,_,x2,⟨mb2.l1,sK _⟩,?_,ok2.trans br.row.ok⟩
 unfold wh
 rw [q,Bool.true_and,Iq(hL M.start.toNat(by omega))]
end
end Go.Proofs.YtoabjjimjldcfaaGreatDoor
end
section
set_option linter.unusedVariables false
set_option maxRecDepth 100000
namespace Go.Proofs.YtoabjjimjldcfaaGreatDoor
open Go Go.Ab
structure Se(hb:Heap)(R:Nat)(kt:Nat->Nat)(N:Nat)(X:Nat->Prop)(kl:Nat)(vs:List Value)(F:List(List Nat))(L:List Bool)(T:List Nat)(tv:Value)(g:Heap):Prop where
 us:Us hb R kt N X vs F g
 br:BR hb kl N L g
 xk:X kl
 nk:∀ r,r < R->kt r≠kl
 hT:F[R * N]? = some T
 hv:vs[R * N]? = some tv
section
variable {hb g:Heap}{R:Nat}{kt:Nat->Nat}{N:Nat}{X:Nat->Prop}{kl:Nat}{vs:List Value}{F:List(List Nat)}{L:List Bool}{T:List Nat}{tv:Value}
theorem Se.own(s:Se hb R kt N X kl vs F L T tv g):OwnG hb g 3 tv(T.map iv):=s.us.fam.own _ _ _ s.hv s.hT
theorem Se.slc(s:Se hb R kt N X kl vs F L T tv g):∃ (a:Option Addr)(c:Nat),tv = .slice a T.length c:=by
 obtain⟨a,c,h⟩:=s.own.slc
 rw [List.length_map] at h
 exact⟨a,c,h⟩
theorem Se.get(s:Se hb R kt N X kl vs F L T tv g){x:Nat}(hx:x < N):ag SS.P 46(.slice(some⟨kl,0,none⟩)N N)(.int .i64(x:Int))=some(.pointer(some⟨kl,x,none⟩))/\ai SS.P 4 g(.pointer(some⟨kl,x,none⟩))=some(.bool(L.getD x false)):=jz s.br.row.row s.br.len hx
theorem Se.see(w:Wf hb)(s:Se hb R kt N X kl vs F L T tv g){x:Nat}(hx:x < N)(hT:T.length<=100000) :
  ∃ u:Upd,am SS.P 4(.pointer(some⟨kl,x,none⟩))(.bool true)g=some(undef,u)/\Ok hb(u.app g)/\∃ (b:Option Addr)(n c:Nat)(u2:Upd),aC SS.P 48 48 tv(.slice(some⟨(u.app g).next,0,none⟩)1 1)((u.app g).push(.cells [.int .i64(x:Int)] 3 1 true))=some(.slice b n c,u2)/\
   Se hb R kt N X kl(vs.set(R * N)(.slice b n c))(F.set(R * N)(T ++ [x]))(L.set x true)(T ++ [x])(.slice b n c)(u2.app((u.app g).push(.cells [.int .i64(x:Int)] 3 1 true))):=by
 obtain⟨r1,r2,r3⟩:=s.br.get(c:=N)(x:=(x:Int))(by omega)(by omega)
 rw [Int.toNat_natCast] at r3
 obtain⟨u,s1,s2,s3⟩:=r3 true w
 refine⟨u,s1,s2.row.ok,?_⟩
 have hkeep:∀ (k:Nat)(B:Blk),k≠kl->g.get k=some B->(u.app g).get k=some B:=fun k B hk hB=>s3 k B hB hk
 have U1:Us hb R kt N X vs F(u.app g) :=⟨fun r hr=>hkeep _ _(s.nk r hr)(s.us.cc r hr),s.us.fam.keep fun k B hX hB=>hkeep k B(fun c=>hX(c▸s.xk))hB,s2.row.ok,s.us.len,s.us.xt,s.us.inj,fun k hX=>by
  obtain⟨e1,e2⟩: True/\g.next<=(u.app g).next :=⟨trivial,by
   have e:=s1
   rw [yU RH s.br.row.row(by rw [List.length_map,s.br.len]; exact hx)rfl rfl] at e
   obtain rfl:Upd.set kl _=u:=by injection e with e; injection e with _ e
   exact Nat.le_refl _⟩
  exact Nat.lt_of_lt_of_le(s.us.xlt k hX)e2⟩
 generalize u.app g=g1 at *
 have op:=(Ok.refl s2.row.ok.wf).push(.cells [.int .i64(x:Int)] 3 1 true)
 have kp:=aZ g1(.cells [.int .i64(x:Int)] 3 1 true)
 have U2:=U1.ext op
 have br2:=s2.trans op
 obtain⟨b,n,c,u2,a1,a2,fm,ok4,kp4,nx4⟩:=U2.fam.snoc w U2.ok U2.xlt s.hv s.hT kp hT
 have nX:∀ k,X k->bP tv≠some k:=fun k hX e=>U2.fam.out _ _ s.hv k e hX
 have U4:=U2.tail rfl rfl fm ok4(fun j B hj hX=>kp4 j B hj(nX j hX))nx4
 refine⟨b,n,c,u2,a1,U4,⟨br2.len,⟨kp4 _ _ br2.row.row(nX _ s.xk),br2.row.new,ok4⟩⟩,s.xk,s.nk,?_,?_⟩
 · rw [List.getElem?_set,if_pos rfl,if_pos(by rw [s.us.len]; omega)]
 · rw [List.getElem?_set,if_pos rfl,if_pos(by rw [s.us.fam.len,s.us.len]; omega)]
theorem Se.pop(s:Se hb R kt N X kl vs F L T tv g)(h0:0 < T.length):∃ (b:Option Addr)(m d:Nat),aM SS.P 48 tv(some(.int .i64 1))none none g=some(.slice b m d)/\
  Se hb R kt N X kl(vs.set(R * N)(.slice b m d))(F.set(R * N)(T.drop 1))L(T.drop 1)(.slice b m d)g:=by
 obtain⟨b,m,d,e1,e2,e3⟩:=s.own.from_ mA Sm(z:=1)(by rw [List.length_map]; omega)(by rw [List.length_map]; omega)
 rw [<- List.map_drop] at e2
 refine⟨b,m,d,e1,⟨fun r hr=>?_,⟨by rw [List.length_set,List.length_set]; exact s.us.fam.len,fun i v l hv hl=>?_,fun i j v1 v2 hij h1 h2 k hk1 hk2=>?_,fun i v hv k hk=>?_⟩,s.us.ok,by rw [List.length_set]; exact s.us.len,s.us.xt,s.us.inj,s.us.xlt⟩,s.br,s.xk,s.nk,?_,?_⟩
 · have h2:(r + 1) * N<=R * N:=Nat.mul_le_mul_right _ hr
  rw [Nat.add_mul,Nat.one_mul] at h2
  rw [s.us.cc r hr,mT _ _ _ _ _(.inr h2)]
 · rcases aB hv with⟨c1,rfl⟩|⟨c1,h1⟩
  · rcases aB hl with⟨_,rfl⟩|⟨c2,_⟩
   · exact e2
   · exact absurd c1 c2
  · rcases aB hl with⟨c2,_⟩|⟨_,h2⟩
   · exact absurd c2 c1
   · exact s.us.fam.own i v l h1 h2
 · rcases aB h1 with⟨c1,rfl⟩|⟨c1,h1⟩
  · rcases aB h2 with⟨c2,_⟩|⟨c2,h2⟩
   · exact hij(by rw [c1,c2])
   · rw [e3] at hk1
    exact s.us.fam.dis _ j _ v2(fun c=>c2 c.symm)s.hv h2 k hk1 hk2
  · rcases aB h2 with⟨c2,rfl⟩|⟨c2,h2⟩
   · rw [e3] at hk2
    exact s.us.fam.dis _ i _ v1(fun c=>c1 c.symm)s.hv h1 k hk2 hk1
   · exact s.us.fam.dis i j v1 v2 hij h1 h2 k hk1 hk2
 · rcases aB hv with⟨c1,rfl⟩|⟨c1,h1⟩
  · rw [e3] at hk; exact s.us.fam.out _ _ s.hv k hk
  · exact s.us.fam.out i v h1 k hk
 · rw [List.getElem?_set,if_pos rfl,if_pos(by rw [s.us.len]; omega)]
 · rw [List.getElem?_set,if_pos rfl,if_pos(by rw [s.us.fam.len,s.us.len]; omega)]
end
theorem Av {T:List Nat}(h:0 < T.length):∃ s,T[0]? = some s/\(∀ x∈T.drop 1,x∈T)/\(∀ x∈T,x∈T.drop 1\/x=s)/\s∈T/\(T.drop 1).length + 1=T.length:=by
 cases T with
 | nil=>simp at h
 | cons s T=>exact⟨s,rfl,fun x hx=>List.mem_cons_of_mem _ hx,fun x hx=>(List.mem_cons.1 hx).symm,List.mem_cons_self ..,by simp⟩
section
variable {h:Heap}{M:Mach}{a:Option Addr}{n c k:Nat}
structure Sl(E:Nat->Nat->Prop)(F0:Nat->Prop)(N:Nat)(ex:Nat->Prop)(L:List Bool)(T:List Nat)(mz:Nat):Prop where
 inv:Num.SInv E F0 N L T ex
 bd:2 * Num.cntF L + T.length<=2 * N
 ms:2 * Num.cntF L + T.length<=mz
def YM(hb:Heap)(M:Mach)(n kl S:Nat)(mz:Nat)(t:Option Addr)(tn tc:Nat)(g:Heap):Prop:= ∃ vs F L T,Se hb 0(fun _=>0)n(fun k=>k=kl)kl vs F L T(.slice t tn tc)g/\Sl(du M)(fun y=>y=S)n(fun _=>False)L T mz/\L.getD S false=true
def Y4(hb:Heap)(M:Mach)(n kl S:Nat)(st:MSt)(s mz:Nat)(mz2 j:Nat)(t:Option Addr)(tn tc:Nat)(g:Heap):Prop:=j<=st.arcs.length/\mz2=st.arcs.length - j/\∃ vs F L T,Se hb 0(fun _=>0)n(fun k=>k=kl)kl vs F L T(.slice t tn tc)g/\Sl(du M)(fun y=>y=S)n(fun y=>y=s)L T(mz - 1)/\L.getD S false=true/\(∀ z∈(kO st).take j,L.getD z false=true)/\Num.Rch(du M)(fun y=>y=S)s
def Vj(h:Heap)(n:Nat)(P:Nat->Prop):VH:=fun v h'=>∃ kl L,v = .slice(some⟨kl,0,none⟩)n n/\BR h kl n L h'/\∀ x,L.getD x false=true↔P x
set_option linter.defProp false in
def SA {hb:Heap}(w:Wf hb)(gd:Good M)(hnM:n=M.states.length)(hn:n<=300)(mb0:MB hb k M a n c){kl S s:Nat}{st:MSt}(hs:M.states[s]? = some st)(hsl:st.arcs.length<=2000)(mv:List Value)(mz:Nat)(hmz:0 < mz)(Q:VH):=
 rR mv k n kl s(YM hb M n kl S)mz(Y4 hb M n kl S st s mz)Q(by
  intro mz2 j t tn tc; intros; rename_i g hin
  obtain⟨f1,f2,vs,F,L,T,se,sl,hS,hz,hr⟩:=hin
  have ok:=se.us.ok
  have mb:=mb0.ok ok
  obtain⟨b,o,x',y,z,e1,e2,e3,e4,ar⟩:=mb.row.at_ hs
  have hm:=ar.len
  refine⟨_,aT _,_,_,_,mb.l3,_,e1,_,bt _ _,_,_,_,e4,ae(fun g1=>?_)(fun g1=>?_)⟩
  · have g1:=of_decide_eq_true g1
   obtain⟨q,hq⟩: ∃ q,st.arcs[j]? = some q :=⟨_,List.getElem?_eq_getElem(by omega)⟩
   obtain⟨bb,oo,d1,d2,d3,d4,d5,d6⟩:=ar.at_ hq
   have hin:=gd.arcs st(List.mem_of_getElem? hs)q(List.mem_of_getElem? hq)
   obtain⟨X,hX⟩: ∃ X:Nat,q.t=(X:Int) :=⟨q.t.toNat,by have:=hin.t0; omega⟩
   have hXn:X < n:=by have:=hin.t1; omega
   have hXq:q.t.toNat=X:=by omega
   rw [hX] at d6
   have hq' : (kO st)[j]? = some X:=by unfold kO; rw [List.getElem?_map,hq]; exact congrArg some hXq
   have ht:(kO st).take(j + 1)=(kO st).take j ++ [X]:=by rw [List.take_add_one,hq']; rfl
   have hE:du M s X :=⟨st,hs,List.mem_of_getElem? hq'⟩
   obtain⟨x1,x2⟩:=se.get hXn
   have hw:=aK(i:=j)(n:=st.arcs.length)(by omega)(by omega)
   have bd:=sl.bd
   have ms:=sl.ms
   refine⟨_,aT _,_,_,_,mb.l3,_,e1,_,bt _ _,_,_,_,e4,_,d1,_,my _ _,_,d6,_,x1,_,x2,ae(fun g2=>?_)(fun g2=>?_)⟩
   · rw [Bool.not_eq_true'] at g2
    obtain⟨u,s1,s2,b',n',c',u2,s3,s4⟩:=se.see w hXn(by omega)
    obtain⟨i1,i2⟩:=sl.inv.see hXn(.step hr hE)g2
    have hl:X < L.length:=by rw [sl.inv.len]; exact hXn
    refine⟨_,x1,u,s1,_,_,_,rv _,b',n',c',u2,s3,?_⟩
    rw [hw]
    refine j1(mz2 - 1)(by omega)⟨by omega,by omega,_,_,_,_,s4,⟨i1,by rw [List.length_append,List.length_singleton]; omega,by rw [List.length_append,List.length_singleton]; omega⟩,?_,fun z hz'=>?_,hr⟩
    · rw [Num.getD_setT hl]; split
     · rfl
     · exact hS
    · rw [Num.getD_setT hl]; split
     · rfl
     · next hne =>
      rw [ht,List.mem_append,List.mem_singleton] at hz'
      rcases hz' with h1 | h1
      · exact hz z h1
      · exact absurd h1 hne
   · rw [Bool.not_eq_false'] at g2
    rw [hw]
    refine j1(mz2 - 1)(by omega)⟨by omega,by omega,vs,F,L,T,se,sl,hS,fun z hz'=>?_,hr⟩
    rw [ht,List.mem_append,List.mem_singleton] at hz'
    rcases hz' with h1 | h1
    · exact hz z h1
    · rw [h1]; exact g2
  · have g1:=of_decide_eq_false g1
   rw [List.take_of_length_le(by unfold kO; rw [List.length_map]; omega)] at hz
   refine rg(mz - 1)(by omega)⟨vs,F,L,T,se,⟨sl.inv.done fun z hE=>?_,sl.bd,sl.ms⟩,hS⟩
   obtain⟨s',h1,h2⟩:=hE
   rw [hs] at h1
   obtain rfl:=Option.some.inj h1
   exact hz z h2)
theorem J2(w:Wf h)(sm:Small M)(gd:Good M)(r:StRow h(.slice a n c)M.states):FW SS 64 [.agg⟨bw M a n c⟩] h(Vj h n(Num.Rch(du M)(fun y=>y=M.start.toNat))):=by
 obtain⟨mb,ok⟩:=cV w r
 have hl:=mb.len
 have hn:n<=300:=by rw [hl]; exact sm.sts
 have hst0:=gd.start0
 have hst1:=gd.start1
 obtain⟨S,hS⟩: ∃ S:Nat,M.start=(S:Int) :=⟨M.start.toNat,by omega⟩
 have hSn:S < n:=by omega
 have hSt:M.start.toNat=S:=by omega
 rw [hSt]
 refine IL(bw M a n c)h _⟨_,fi M a n c,_,aT _,_,_,_,mb.l3,_,_,_,Si n(by omega),?_⟩
 generalize h.push(Bm M a n c)=g0 at *
 have w0:=ok.wf
 have b0:=BR.new w0 n
 have mb1:=mb.ok b0.row.ok
 have l1:=mb1.l1
 rw [hS] at l1
 obtain⟨x1,x2,x3⟩:=b0.get(c:=n)(x:=(S:Int))(by omega)(by omega)
 obtain⟨u,s1,s2,s3⟩:=x3 true w0
 rw [Int.toNat_natCast] at s2
 refine⟨_,m9 _,_,l1,_,x1,u,s1,?_⟩
 generalize u.app(g0.push(.cells((List.replicate n false).map Value.bool)4 1 true))=g2 at *
 have mb2:=mb.ok s2.row.ok
 have l2:=mb2.l1
 rw [hS] at l2
 refine⟨_,m9 _,_,l2,_,_,_,rv _,?_⟩
 have op:=(Ok.refl s2.row.ok.wf).push(.cells [.int .i64(S:Int)] 3 1 true)
 have kp:=aZ g2(.cells [.int .i64(S:Int)] 3 1 true)
 have b3:=s2.trans op
 have hlt:=s2.row.lt
 have hnx:g0.next<=g2.next:=s2.row.ok.nx
 have se:Se g0 0(fun _=>0)n(fun k=>k=g0.next)g0.next [.slice(some⟨g2.next,0,none⟩)1 1] [[S]] ((List.replicate n false).set S true) [S] (.slice(some⟨g2.next,0,none⟩)1 1)(g2.push(.cells [.int .i64(S:Int)] 3 1 true)):=by
  refine⟨⟨fun r hr=>absurd hr(Nat.not_lt_zero _),⟨rfl,fun i v l hv hl'=>?_,fun i j v v' hij h1 h2=>?_,fun i v hv k hk=>?_⟩,b3.row.ok,by simp,fun r hr=>absurd hr(Nat.not_lt_zero _),fun r _ hr=>absurd hr(Nat.not_lt_zero _),fun k hX=>by rw [hX]; exact b3.row.lt⟩,b3,rfl,fun r hr=>absurd hr(Nat.not_lt_zero _),by rw [Nat.zero_mul]; rfl,by rw [Nat.zero_mul]; rfl⟩
  · cases i with
   | zero =>
    obtain rfl:=Option.some.inj hv
    obtain rfl:=Option.some.inj hl'
    exact OwnG.built(vs:=[.int .i64(S:Int)])kp hnx(by simp [bn])
   | succ i=>cases hv
  · cases i with
   | zero=>cases j with
    | zero=>exact absurd rfl hij
    | succ j=>cases h2
   | succ i=>cases h1
  · cases i with
   | zero =>
    obtain rfl:=Option.some.inj hv
    have:g2.next=k:=Option.some.inj hk
    show ¬ k=g0.next
    omega
   | succ i=>cases hv
 have hc:Num.cntF(List.replicate n false)=n:=by simp [Num.cntF]
 obtain⟨i1,i2⟩:=(Num.sinv_new(E:=du M)(F:=fun y=>y=S)n(fun _=>False)).see hSn(.base rfl)(by rw [List.getD_eq_getElem?_getD,List.getElem?_replicate]; split <;> rfl)
 refine rK(bw M a n c)h.next n g0.next(YM g0 M n g0.next S)_(fun mz t tn tc=>?_)(2 * n)⟨_,_,_,_,se,⟨i1,by simp; omega,by simp; omega⟩,by rw [Num.getD_setT(by rw [List.length_replicate]; exact hSn),if_pos rfl]⟩
 intros; rename_i gg hi
 obtain⟨vs,F,L,T,se,sl,hLS⟩:=hi
 have htn:tn=T.length:=by
  obtain⟨a',c',e⟩:=se.slc
  injection e
 refine ae(fun q1=>?_)(fun q1=>?_)
 · have q1:=of_decide_eq_true q1
  obtain⟨s,hs,p1,p2,p3,p4⟩:=Av(T:=T)(by omega)
  obtain⟨p,e1,e2⟩:=VI se.own.rd hs
  obtain⟨b,m,d,e3,se2⟩:=se.pop(by omega)
  have hsN:=(sl.inv.tin s p3).1
  obtain⟨st,hst⟩:=vB(M:=M)(i:=s)(by omega)
  have bd:=sl.bd
  have ms:=sl.ms
  refine⟨_,e1,_,e2,b,m,d,e3,?_⟩
  exact SA w0 gd hl hn mb hst(dl sm hst).1 _ mz(by omega)_ st.arcs.length(j:=0)⟨by omega,by omega,_,_,L,_,se2,⟨sl.inv.take p1 p2,by omega,by omega⟩,hLS,fun z hz=>(by rw [List.take_zero] at hz; cases hz),sl.inv.snd s(sl.inv.tin s p3).2⟩
 · have q1:=of_decide_eq_false q1
  obtain rfl:T=[]:=List.eq_nil_of_length_eq_zero(by omega)
  exact⟨_,L,rfl,se.br.base ok,sl.inv.final fun x hx=>by rw [hx]; exact hLS⟩
end
end Go.Proofs.YtoabjjimjldcfaaGreatDoor
end
section
set_option linter.unusedVariables false
set_option maxRecDepth 100000
namespace Go.Proofs.YtoabjjimjldcfaaGreatDoor
open Go Go.Ab
section
variable {hb g:Heap}{R:Nat}{kt:Nat->Nat}{N:Nat}{X:Nat->Prop}{kl:Nat}{vs:List Value}{F:List(List Nat)}{L:List Bool}{T:List Nat}{tv:Value}
theorem Se.add(w:Wf hb)(s:Se hb R kt N X kl vs F L T tv g){r t:Nat}(hr:r < R)(ht:t < N)(x:Nat)(hF:∀ l∈F,l.length<=100000) :
  ∃ (l:List Nat)(a:Option Addr)(c:Nat),F[r * N + t]? = some l/\ag SS.P 72(.slice(some⟨kt r,0,none⟩)N N)(.int .i64(t:Int))=some(.pointer(some⟨kt r,t,none⟩))/\ai SS.P 48 g(.pointer(some⟨kt r,t,none⟩))=some(.slice a l.length c)/\
  ∃ (b:Option Addr)(n' c' : Nat)(u:Upd),aC SS.P 48 48(.slice a l.length c)(.slice(some⟨g.next,0,none⟩)1 1)(g.push(.cells [.int .i64(x:Int)] 3 1 true))=some(.slice b n' c',u)/\
  ∃ u2:Upd,am SS.P 48(.pointer(some⟨kt r,t,none⟩))(.slice b n' c')(u.app(g.push(.cells [.int .i64(x:Int)] 3 1 true)))=some(undef,u2)/\
   Se hb R kt N X kl(vs.set(r * N + t)(.slice b n' c'))(F.set(r * N + t)(l ++ [x]))L T tv(u2.app(u.app(g.push(.cells [.int .i64(x:Int)] 3 1 true)))):=by
 obtain⟨l,a,c,h1,h2,h3,h4⟩:=s.us.ld hr ht
 have op:=(Ok.refl s.us.ok.wf).push(.cells [.int .i64(x:Int)] 3 1 true)
 have kp:=aZ g(.cells [.int .i64(x:Int)] 3 1 true)
 have U2:=s.us.ext op
 have br2:=s.br.trans op
 obtain⟨b,n',c',u,a1,a2,fm,ok4,kp4,nx4⟩:=U2.fam.snoc w U2.ok U2.xlt h2 h1 kp(hF l(List.mem_of_getElem? h1))
 have nX:∀ k,X k->bP(.slice a l.length c)≠some k:=fun k hX e=>U2.fam.out _ _ h2 k e hX
 obtain⟨u2,s1,U5,kp5⟩:=U2.put w hr ht rfl rfl fm ok4(fun j B hj hX=>kp4 j B hj(nX j hX))nx4
 have hlt:=IE hr ht
 have h2' : (r + 1) * N<=R * N:=Nat.mul_le_mul_right _ hr
 rw [Nat.add_mul,Nat.one_mul] at h2'
 refine⟨l,a,c,h1,h3,(h4 g s.us).1,b,n',c',u,a1,u2,s1,U5,⟨br2.len,kp5 _ _(kp4 _ _ br2.row.row(nX _ s.xk))(fun e=>s.nk r hr e.symm),br2.row.new,U5.ok⟩,s.xk,s.nk,?_,?_⟩
 · rw [List.getElem?_set,if_neg(by omega)]; exact s.hT
 · rw [List.getElem?_set,if_neg(by omega)]; exact s.hv
end
structure DB(M:Mach)(n i j cN:Nat)(F:List(List Nat)):Prop where
 bk:∀ t l,t < n->F[0 * n + t]? = some l->∀ x,x∈l↔Rp M i j x t
 ln:∀ l∈F,l.length<=cN
theorem DB.arc {M:Mach}{n i j cN:Nat}{F:List(List Nat)}(d:DB M n i j cN F){s:MSt}{q:MArc}(hs:M.states[i]? = some s)(hq:s.arcs[j]? = some q){T:Nat}(hT:q.t.toNat=T){l:List Nat}(hl:F[0 * n + T]? = some l):DB M n i(j + 1)(cN + 1)(F.set(0 * n + T)(l ++ [i])):=by
 have b1:=d.ln l(List.mem_of_getElem? hl)
 refine⟨fun t l' ht hl' x=>?_,rY d.ln(by rw [List.length_append,List.length_singleton]; omega)⟩
 rw [Al hs hq,hT]
 rcases aB hl' with⟨e,rfl⟩|⟨e,hl'⟩
 · obtain rfl:t=T:=by omega
  rw [List.mem_append,List.mem_singleton,d.bk _ l ht hl x]
  exact⟨fun c=>c.imp id fun c =>⟨c,rfl⟩,fun c=>c.imp id fun c=>c.1⟩
 · rw [d.bk t l' ht hl' x]
  exact⟨.inl,fun c=>c.elim id fun c=>absurd(by rw [c.2])e⟩
theorem DB.tail {M:Mach}{n i cN:Nat}{F:List(List Nat)}(d:DB M n i 0 cN F){l' : List Nat}(hl:l'.length<=cN + 1):DB M n i 0(cN + 1)(F.set(1 * n)l'):=by
 refine⟨fun t l ht hl' x=>?_,rY d.ln hl⟩
 rcases aB hl' with⟨e,_⟩|⟨_,h⟩
 · omega
 · exact d.bk t l ht h x
theorem DB.next {M:Mach}{n i j cN:Nat}{F:List(List Nat)}(d:DB M n i j cN F){s:MSt}(hs:M.states[i]? = some s)(hj:s.arcs.length<=j):DB M n(i + 1)0 cN F:=
 ⟨fun t l ht hl x=>by rw [d.bk t l ht hl x,yT hs hj,gi],d.ln⟩
def TI(M:Mach):Nat->Nat->Prop:=fun y x=>du M x y
section
variable {h:Heap}{M:Mach}{a:Option Addr}{n c k kl kb:Nat}
def eX(kl kb:Nat):Nat->Prop:=fun k=>k=kl\/k=kb
def T4(hb:Heap)(M:Mach)(n kl kb i j i' cN:Nat)(t:Option Addr)(tn tc:Nat)(g:Heap):Prop:= ∃ vs F L T,Se hb 1(fun _=>kb)n(eX kl kb)kl vs F L T(.slice t tn tc)g/\DB M n i j cN F/\Num.SInv(TI M)(rZ M)n L T(fun _=>False)/\2 * Num.cntF L + T.length<=2 * n/\(∀ x,L.getD x false=true↔x < i'/\rZ M x)
def YZ(hb:Heap)(M:Mach)(n kl kb:Nat)(mz i:Nat)(t:Option Addr)(tn tc:Nat)(g:Heap):Prop:=i<=n/\mz=n - i/\∃ cN,T4 hb M n kl kb i 0 i cN t tn tc g/\cN + lj(M.states.drop i) + (n - i)<=2300
def Y9(hb:Heap)(M:Mach)(n kl kb:Nat)(st:MSt)(t:Option Addr)(tn tc i:Nat)(mz2 j:Nat)(g:Heap):Prop:=j<=st.arcs.length/\mz2=st.arcs.length - j/\∃ cN,T4 hb M n kl kb i j(i + 1)cN t tn tc g/\cN + (st.arcs.length - j) + lj(M.states.drop(i + 1)) + (n - (i + 1))<=2300
set_option linter.defProp false in
def KI {hb:Heap}(w:Wf hb)(gd:Good M)(hnM:n=M.states.length)(hn:n<=300)(mb0:MB hb k M a n c){i:Nat}{st:MSt}(hs:M.states[i]? = some st)(hi:i < n)(hsl:st.arcs.length<=2000)(mv:List Value)(t:Option Addr)(tn tc mz:Nat)(hmz:mz=n - i)(Q:VH):=
 uw mv k n kl kb t tn tc(YZ hb M n kl kb)mz i(Y9 hb M n kl kb st t tn tc i)Q(by
  intro mz2 j; intros; rename_i g hin
  obtain⟨f1,f2,cN,⟨vs,F,L,T,se,db,iv',bd,hL⟩,hcN⟩:=hin
  have ok:=se.us.ok
  have mb:=mb0.ok ok
  obtain⟨b,o,x',y,z,e1,e2,e3,e4,ar⟩:=mb.row.at_ hs
  have hm:=ar.len
  refine⟨_,aT _,_,_,_,mb.l3,_,e1,_,bt _ _,_,_,_,e4,ae(fun g1=>?_)(fun g1=>?_)⟩
  · have g1:=of_decide_eq_true g1
   obtain⟨q,hq⟩: ∃ q,st.arcs[j]? = some q :=⟨_,List.getElem?_eq_getElem(by omega)⟩
   obtain⟨bb,oo,d1,d2,d3,d4,d5,d6⟩:=ar.at_ hq
   have hin:=gd.arcs st(List.mem_of_getElem? hs)q(List.mem_of_getElem? hq)
   obtain⟨Y,hY⟩: ∃ Y:Nat,q.t=(Y:Int) :=⟨q.t.toNat,by have:=hin.t0; omega⟩
   have hYn:Y < n:=by have:=hin.t1; omega
   have hYq:q.t.toNat=Y:=by omega
   rw [hY] at d6
   obtain⟨l,ra,rc,h1,h2,h3,b',n',c',u,a1,u2,a2,se2⟩:=se.add w(r:=0)(t:=Y)(by omega)hYn i(fun l hl=>by have:=db.ln l hl; omega)
   refine⟨_,aT _,_,_,_,mb.l3,_,e1,_,bt _ _,_,_,_,e4,_,d1,_,my _ _,_,d6,_,h2,_,_,_,h3,_,_,_,rv _,b',n',c',u,a1,_,h2,u2,a2,?_⟩
   rw [aK(i:=j)(n:=st.arcs.length)(by omega)(by omega)]
   exact tw(mz2 - 1)(by omega)⟨by omega,by omega,cN + 1,⟨_,_,L,T,se2,db.arc hs hq hYq h1,iv',bd,hL⟩,by omega⟩
  · have g1:=of_decide_eq_false g1
   rw [aK hi(by omega)]
   exact si(n - (i + 1))(by omega)⟨by omega,rfl,cN,⟨vs,F,L,T,se,db.next hs(by omega),iv',bd,hL⟩,by omega⟩)
def Bks(M:Mach)(n:Nat)(F:List(List Nat)):Prop:= ∀ t l,t < n->F[0 * n + t]? = some l->l.length<=2300/\∀ x,x∈l↔du M x t
def YP(hb:Heap)(M:Mach)(n kl kb:Nat)(mz3:Nat)(t:Option Addr)(tn tc:Nat)(g:Heap):Prop:= ∃ vs F L T,Se hb 1(fun _=>kb)n(eX kl kb)kl vs F L T(.slice t tn tc)g/\Sl(TI M)(rZ M)n(fun _=>False)L T mz3/\(∀ x,rZ M x->L.getD x false=true)/\Bks M n F
def Y5(hb:Heap)(M:Mach)(n kl kb s:Nat)(lS:List Nat)(mz3:Nat)(mz4 j:Nat)(t:Option Addr)(tn tc:Nat)(g:Heap):Prop:=j<=lS.length/\mz4=lS.length - j/\∃ vs F L T,Se hb 1(fun _=>kb)n(eX kl kb)kl vs F L T(.slice t tn tc)g/\Sl(TI M)(rZ M)n(fun y=>y=s)L T(mz3 - 1)/\(∀ x,rZ M x->L.getD x false=true)/\Bks M n F/\F[0 * n + s]? = some lS/\(∀ z∈lS.take j,L.getD z false=true)/\Num.Rch(TI M)(rZ M)s
theorem Bks.tail {F:List(List Nat)}(b:Bks M n F)(l' : List Nat):Bks M n(F.set(1 * n)l'):=fun t l ht hl=>by
 rcases aB hl with⟨e,_⟩|⟨_,h⟩
 · omega
 · exact b t l ht h
set_option linter.defProp false in
def Po {hb:Heap}(w:Wf hb)(hn:n<=300)(hnM:n=M.states.length){s:Nat}(hsn:s < n){lS:List Nat}(mv:List Value)(mz3:Nat)(hmz:0 < mz3)(hll:lS.length<=2300)(hlS:∀ x,x∈lS↔du M x s)(Q:VH):=
 uN mv n kl kb s(YP hb M n kl kb)mz3(Y5 hb M n kl kb s lS mz3)Q(by
  intro mz4 j t tn tc; intros; rename_i g hin
  obtain⟨f1,f2,vs,F,L,T,se,sl,hfin,bks,hFs,hz,hr⟩:=hin
  obtain⟨l,ra,rc,h1,h2,h3,h4⟩:=se.us.ld(r:=0)(i:=s)(by omega)hsn
  rw [hFs] at h1
  obtain rfl:=Option.some.inj h1
  obtain⟨l1,l2⟩:=h4 g se.us
  refine⟨_,h3,_,_,_,l1,ae(fun g1=>?_)(fun g1=>?_)⟩
  · have g1:=of_decide_eq_true g1
   obtain⟨x,hx⟩: ∃ x,lS[j]? = some x :=⟨_,List.getElem?_eq_getElem(by omega)⟩
   obtain⟨p,e1,e2⟩:=VI l2 hx
   have hE:TI M s x:=(hlS x).1(List.mem_of_getElem? hx)
   have hxn:x < n:=by have:=pu hE; omega
   have ht:lS.take(j + 1)=lS.take j ++ [x]:=by rw [List.take_add_one,hx]; rfl
   obtain⟨x1,x2⟩:=se.get hxn
   have hw:=aK(i:=j)(n:=lS.length)(by omega)(by omega)
   have bd:=sl.bd
   have ms:=sl.ms
   refine⟨_,h3,_,_,_,l1,_,e1,_,e2,_,x1,_,x2,ae(fun g2=>?_)(fun g2=>?_)⟩
   · rw [Bool.not_eq_true'] at g2
    obtain⟨u,s1,s2,b',n',c',u2,s3,s4⟩:=se.see w hxn(by omega)
    obtain⟨i1,i2⟩:=sl.inv.see hxn(.step hr hE)g2
    have hl:x < L.length:=by rw [sl.inv.len]; exact hxn
    refine⟨_,x1,u,s1,_,_,_,rv _,b',n',c',u2,s3,?_⟩
    rw [hw]
    refine kI(mz4 - 1)(by omega)⟨by omega,by omega,_,_,_,_,s4,⟨i1,by rw [List.length_append,List.length_singleton]; omega,by rw [List.length_append,List.length_singleton]; omega⟩,fun z hz'=>?_,bks.tail _,?_,fun z hz'=>?_,hr⟩
    · rw [Num.getD_setT hl]; split
     · rfl
     · exact hfin z hz'
    · rw [List.getElem?_set,if_neg(by omega)]; exact hFs
    · rw [Num.getD_setT hl]; split
     · rfl
     · next hne =>
      rw [ht,List.mem_append,List.mem_singleton] at hz'
      rcases hz' with h1 | h1
      · exact hz z h1
      · exact absurd h1 hne
   · rw [Bool.not_eq_false'] at g2
    rw [hw]
    refine kI(mz4 - 1)(by omega)⟨by omega,by omega,vs,F,L,T,se,sl,hfin,bks,hFs,fun z hz'=>?_,hr⟩
    rw [ht,List.mem_append,List.mem_singleton] at hz'
    rcases hz' with h1 | h1
    · exact hz z h1
    · rw [h1]; exact g2
  · have g1:=of_decide_eq_false g1
   rw [List.take_of_length_le(by omega)] at hz
   exact ui(mz3 - 1)(by omega)⟨vs,F,L,T,se,⟨sl.inv.done fun z hE=>hz z((hlS z).2 hE),sl.bd,sl.ms⟩,hfin,bks⟩)
set_option linter.defProp false in
def RG {hb:Heap}(w:Wf hb)(okb:Ok h hb)(hn:n<=300)(hnM:n=M.states.length)(mv:List Value):=
 tZ mv n kl kb(YP hb M n kl kb)(Vj h n(Num.Rch(TI M)(rZ M)))(by
  intro mz3 t tn tc; intros; rename_i g hin
  obtain⟨vs,F,L,T,se,sl,hfin,bks⟩:=hin
  have htn:tn=T.length:=by
   obtain⟨a',c',e⟩:=se.slc
   injection e
  refine ae(fun q1=>?_)(fun q1=>?_)
  · have q1:=of_decide_eq_true q1
   obtain⟨s,hs,p1,p2,p3,p4⟩:=Av(T:=T)(by omega)
   obtain⟨p,e1,e2⟩:=VI se.own.rd hs
   obtain⟨b,m,d,e3,se2⟩:=se.pop(by omega)
   have hsN:=(sl.inv.tin s p3).1
   have bd:=sl.bd
   have ms:=sl.ms
   obtain⟨lS,hlS⟩: ∃ lS,F[0 * n + s]? = some lS :=⟨_,List.getElem?_eq_getElem(by rw [se.us.len]; omega)⟩
   obtain⟨b1,b2⟩:=bks s lS hsN hlS
   refine⟨_,e1,_,e2,b,m,d,e3,?_⟩
   exact Po w hn hnM hsN _ mz3(by omega)b1 b2 _ lS.length(j:=0)⟨by omega,by omega,_,_,L,_,se2,⟨sl.inv.take p1 p2,by omega,by omega⟩,hfin,bks.tail _,by rw [List.getElem?_set,if_neg(by omega)]; exact hlS,fun z hz=>(by rw [List.take_zero] at hz; cases hz),sl.inv.snd s(sl.inv.tin s p3).2⟩
  · have q1:=of_decide_eq_false q1
   obtain rfl:T=[]:=List.eq_nil_of_length_eq_zero(by omega)
   exact⟨_,L,rfl,se.br.base okb,sl.inv.final hfin⟩)
theorem NF(w:Wf h)(sm:Small M)(gd:Good M)(r:StRow h(.slice a n c)M.states):FW SS 65 [.agg⟨bw M a n c⟩] h(Vj h n(Num.Rch(TI M)(rZ M))):=by
 obtain⟨mb,ok⟩:=cV w r
 have hl:=mb.len
 have hn:n<=300:=by rw [hl]; exact sm.sts
 refine Ng(bw M a n c)h _⟨_,fi M a n c,_,aT _,_,_,_,mb.l3,_,_,_,Si n(by omega),?_⟩
 generalize h.push(Bm M a n c)=g0 at *
 have w0:=ok.wf
 have b0:=BR.new w0 n
 have hn1:(g0.push(.cells((List.replicate n false).map Value.bool)4 1 true)).next=g0.next + 1:=rfl
 generalize g0.push(.cells((List.replicate n false).map Value.bool)4 1 true)=g1 at *
 have mb1:=mb.ok b0.row.ok
 refine⟨_,aT _,_,_,_,mb1.l3,_,_,_,UJ n(by omega),?_⟩
 have op:=(Ok.refl b0.row.ok.wf).push(io n)
 have kp:=aZ g1(io n)
 have b3:=b0.trans op
 have hlt:=b3.row.lt
 have hlt2:=op.wf _ _ kp
 have hrep:∀ {i:Nat}{v:Value},(List.replicate(n + 1)vn)[i]? = some v->v=vn:=fun {i v}hl=>by
  rw [List.getElem?_replicate] at hl
  split at hl
  · exact(Option.some.inj hl).symm
  · cases hl
 have hrepF:∀ {i:Nat}{l:List Nat},(List.replicate(n + 1)([] : List Nat))[i]? = some l->l=[]:=fun {i l}hl=>by
  rw [List.getElem?_replicate] at hl
  split at hl
  · exact(Option.some.inj hl).symm
  · cases hl
 have se:Se g0 1(fun _=>g1.next)n(eX g0.next g1.next)g0.next(List.replicate(n + 1)vn)(List.replicate(n + 1) [])(List.replicate n false) [] (.slice none 0 0)(g1.push(io n)):=by
  refine⟨⟨fun r hr=>?_,⟨by rw [List.length_replicate,List.length_replicate],fun i v l hv hl=>?_,fun i j v v' _ hv _ k hk=>?_,fun i v hv k hk=>?_⟩,b3.row.ok,by rw [List.length_replicate]; omega,fun r hr =>⟨.inr rfl,by omega⟩,fun r r' hr hr' hne=>absurd(by omega)hne,fun k hX=>?_⟩,b3,.inl rfl,fun r hr=>by omega,?_,?_⟩
  · have:r=0:=by omega
   subst this
   rw [Nat.zero_mul,List.drop_zero,List.take_replicate,show min n(n + 1)=n by omega]
   exact kp
  · rw [hrep hv,hrepF hl]; exact OwnG.nil _ _ _
  · rw [hrep hv] at hk; cases hk
  · rw [hrep hv] at hk; cases hk
  · rcases hX with rfl | rfl
   · exact hlt
   · exact hlt2
  · rw [List.getElem?_replicate,if_pos(by omega)]
  · rw [List.getElem?_replicate,if_pos(by omega)]; rfl
 have hc:Num.cntF(List.replicate n false)=n:=by simp [Num.cntF]
 have hf0:∀ x,(List.replicate n false).getD x false=false:=fun x=>by rw [List.getD_eq_getElem?_getD,List.getElem?_replicate]; split <;> rfl
 refine uY(bw M a n c)h.next n g0.next g1.next(YZ g0 M n g0.next g1.next)_(fun mz i t tn tc=>?_)n(i:=0)(t:=none)(tn:=0)(tc:=0)⟨by omega,rfl,0,⟨_,_,_,_,se,⟨fun t l ht hl x=>?_,fun l hl=>?_⟩,Num.sinv_new n _,by rw [hc]; simp,fun x=>?_⟩,by rw [List.drop_zero]; have:=sm.tot; omega⟩
 rotate_left
 · rw [hrepF hl,gi]; exact⟨fun c=>(by cases c),fun c=>absurd c.1(Nat.not_lt_zero _)⟩
 · rw [List.eq_of_mem_replicate hl]; exact Nat.le_refl _
 · rw [hf0]; exact⟨fun c=>(by cases c),fun c=>absurd c.1(Nat.not_lt_zero _)⟩
 intros; rename_i gg hi
 obtain⟨f1,f2,cN,⟨vs,F,L,T,se,db,iv',bd,hL⟩,hcN⟩:=hi
 have mbg:=mb.ok se.us.ok
 refine⟨_,aT _,_,_,_,mbg.l3,ae(fun q1=>?_)(fun q1=>?_)⟩
 · have q1:=of_decide_eq_true q1
  have hi:i < n:=by omega
  obtain⟨s,hs⟩:=vB(M:=M)(i:=i)(by omega)
  obtain⟨b,o,x',y,z,e1,e2,e3,e4,ar⟩:=mbg.row.at_ hs
  obtain⟨l1,l2,l3⟩:=dl sm hs
  have hd:lj(M.states.drop i)=s.arcs.length + lj(M.states.drop(i + 1)):=by rw [bm hs,mj]
  refine⟨_,aT _,_,_,_,mbg.l3,_,e1,_,rG _ _,_,e3,ae(fun q2=>?_)(fun q2=>?_)⟩
  · have q2:s.f≠[]:=by simpa using q2
   have hTl:=db.ln T(List.mem_of_getElem? se.hT)
   obtain⟨x1,x2⟩:=se.get hi
   have h0:L.getD i false=false:=by
    cases hb:L.getD i false with
    | false=>rfl
    | true=>have:=(hL i).1 hb; omega
   obtain⟨u,s1,s2,b',n',c',u2,s3,s4⟩:=se.see w0 hi(by omega)
   obtain⟨i1,i2⟩:=iv'.see hi(.base⟨s,hs,q2⟩)h0
   have hl' : i < L.length:=by rw [iv'.len]; exact hi
   refine⟨_,x1,u,s1,_,_,_,rv _,b',n',c',u2,s3,?_⟩
   refine KI w0 gd hl hn mb hs hi l1 _ b' n' c' mz f2 _ s.arcs.length(j:=0)⟨by omega,by omega,cN + 1,⟨_,_,_,_,s4,db.tail(by rw [List.length_append,List.length_singleton]; omega),i1,by rw [List.length_append,List.length_singleton]; omega,fun x=>?_⟩,by omega⟩
   rw [Num.getD_setT hl']
   split
   · next e=>subst e; exact⟨fun _ =>⟨by omega,s,hs,q2⟩,fun _=>rfl⟩
   · next e=>rw [hL x]; exact⟨fun c =>⟨by omega,c.2⟩,fun c =>⟨by omega,c.2⟩⟩
  · have q2:s.f=[]:=by simpa using q2
   refine KI w0 gd hl hn mb hs hi l1 _ t tn tc mz f2 _ s.arcs.length(j:=0)⟨by omega,by omega,cN + 1,⟨vs,F,L,T,se,⟨db.bk,fun l hl=>Nat.le_succ_of_le(db.ln l hl)⟩,iv',bd,fun x=>?_⟩,by omega⟩
   rw [hL x]
   refine⟨fun c =>⟨by omega,c.2⟩,fun c =>⟨?_,c.2⟩⟩
   rcases Nat.lt_or_ge x i with h3 | h3
   · exact h3
   · obtain rfl:x=i:=by omega
    obtain⟨s',h4,h5⟩:=c.2
    rw [hs] at h4
    obtain rfl:=Option.some.inj h4
    exact absurd q2 h5
 · have q1:=of_decide_eq_false q1
  obtain rfl:n=i:=by omega
  refine RG w0 ok hn hl(bw M a n c)(2 * n)⟨vs,F,L,T,se,⟨iv',bd,bd⟩,fun x hx=>(hL x).2⟨?_,hx⟩,fun t l ht hl' =>⟨by have:=db.ln l(List.mem_of_getElem? hl'); omega,fun x=>?_⟩⟩
  · obtain⟨s,h2,_⟩:=hx
   have:=(List.getElem?_eq_some_iff.1 h2).1
   omega
  · rw [db.bk t l ht hl' x,gi]
   exact⟨fun c=>c.2,fun c =>⟨by rw [hl]; exact pu c,c⟩⟩
end
end Go.Proofs.YtoabjjimjldcfaaGreatDoor
end
section
set_option linter.unusedVariables false
set_option maxRecDepth 100000
namespace Go.Proofs.YtoabjjimjldcfaaGreatDoor
open Go Go.Ab
section
variable {h:Heap}{M:Mach}{a:Option Addr}{n c:Nat}
theorem HN {g:Heap}(r:StRow g(.slice a n c)M.states):cP 4(.agg⟨bw M a n c⟩)(.agg⟨bw M a n c⟩)=true:=by
 obtain⟨ps,h1,⟨_,⟨h2 | h2,_⟩|⟨k,off,cs,e',z,c',wr,h2,_⟩⟩,_,hnd⟩:=r
 · rw [show bw M a n c=[.int .i64 M.kind,.int .i64 M.start,aa M.lead,.slice none 0 0] by unfold bw; rw [h2]]
  simp [cP,Ix,aa]
 · exact absurd h2 hnd
 · rw [show bw M a n c=[.int .i64 M.kind,.int .i64 M.start,aa M.lead,.slice(some⟨k,off,none⟩)(ps.map NU).length c'] by unfold bw; rw [h2]]
  simp [cP,Ix,aa]
set_option linter.defProp false in
def Fq(w1:Wf h){kl kr:Nat}{L1 L2:List Bool}(hL1:∀ x,L1.getD x false=true↔Num.Rch(du M)(fun y=>y=M.start.toNat)x)(hL2:∀ x,L2.getD x false=true↔Num.Rch(TI M)(rZ M)x)(hl2:L2.length=n)(hne:kr≠kl)(hn:n<=300)(Q:VH)(hQ:∀ v g',uQ h M n v g'->Q v g')(mv:List Value):=
 rL mv n kl kr(SV h kl kr n L1 L2)Q(by
  intro mz3 i; intros; rename_i g hin
  have h3:=hin
  obtain⟨f1,f2,L,br,hr,hL⟩:=h3
  refine ae(fun q1=>?_)(fun q1=>?_)
  · have q1:=of_decide_eq_true q1
   have hi:i < n:=by omega
   obtain⟨x1,x2⟩:=jz(c:=n)hr hl2 hi
   obtain⟨y1,y2⟩:=jz(c:=n)br.row.row br.len hi
   have e:=hL i
   rw [if_neg(Nat.lt_irrefl i)] at e
   rw [e] at y2
   refine⟨_,y1,_,y2,ae(fun t=>?_)(fun t=>?_)⟩
   · obtain⟨u,s1,s2⟩:=pS w1 hin hl2 hne hi(b:=L2.getD i false)(by rw [t]; rfl)
    refine⟨_,x1,_,x2,_,y1,u,s1,?_⟩
    rw [aK hi(by omega)]
    exact jt(mz3 - 1)(by omega)s2
   · obtain⟨u,s1,s2⟩:=pS w1 hin hl2 hne hi(b:=false)(by rw [t]; rfl)
    refine⟨_,y1,u,s1,?_⟩
    rw [aK hi(by omega)]
    exact jt(mz3 - 1)(by omega)s2
  · have q1:=of_decide_eq_false q1
   refine hQ _ _⟨kl,L,rfl,br,fun x hx=>?_⟩
   rw [hL x,if_pos(by omega),Bool.and_eq_true,hL1,hL2]
   exact Iff.rfl)
theorem J0(w:Wf h)(sm:Small M)(gd:Good M)(r:StRow h(.slice a n c)M.states):FW SS 42 [.agg⟨bw M a n c⟩] h(uQ h M n):=by
 obtain⟨mb,ok⟩:=cV w r
 have hl:=mb.len
 have hn:n<=300:=by rw [hl]; exact sm.sts
 refine I6(bw M a n c)h _⟨_,fi M a n c,?_⟩
 generalize h.push(Bm M a n c)=g at *
 have oR:=(Ok.refl ok.wf).room 6
 have mbR:=mb.ok oR
 have okR:=ok.trans oR
 have hv:=HN mbR.row
 refine⟨_,mbR.all,?_⟩
 have lR:=mbR.all
 generalize Go.Ab.room g 6=gR at *
 refine(J2 okR.wf sm gd mbR.row).mono ?_
 rintro _ g2⟨kl,L1,rfl,br1,hL1⟩
 have mb2:=mbR.ok br1.row.ok
 refine⟨_,_,_,rfl,_,mb2.all,(NF br1.row.ok.wf sm gd mb2.row).mono ?_⟩
 rintro _ g3⟨kr,L2,rfl,br2,hL2⟩
 refine⟨_,_,_,rfl,⟨lR,hv⟩,?_⟩
 have hne:kr≠kl:=by have:=br1.row.lt; have:=br2.row.new; omega
 exact Fq(n:=n)okR.wf hL1 hL2 br2.len hne hn(uQ h M n)(fun v g'⟨k1,L,e1,e2,e3⟩=>⟨k1,L,e1,e2.base okR,e3⟩)(bw M a n c)n(i:=0)⟨by omega,rfl,L1,br1.trans br2.row.ok,br2.row.row,fun x=>by rw [if_neg(Nat.not_lt_zero _)]⟩
theorem MI(w:Wf h)(sm:Small M)(r:StRow h(.slice a n c)M.states):FW SS 19 [.agg⟨bw M a n c⟩] h(fun v h'=>v = .bool(wh M)/\Ok h h'):=by
 obtain⟨mb,ok⟩:=cV w r
 refine LX(bw M a n c)h _⟨_,fi M a n c,?_⟩
 generalize h.push(Bm M a n c)=g at *
 have oR:=(Ok.refl ok.wf).room 12
 have mbR:=mb.ok oR
 have okR:=ok.trans oR
 refine⟨_,mbR.all,(lN okR.wf sm mbR.row).mono ?_⟩
 rintro _ g2⟨rfl,o2⟩
 have ok2:=okR.trans o2
 have mb2:=mbR.ok o2
 refine⟨_,rfl,ae(fun q=>?_)(fun q =>⟨?_,ok2⟩)⟩
 rotate_left
 · unfold wh; rw [q]; rfl
 have gd:=pJ q
 have hl:=mb2.len
 have h0:=gd.start0
 have h1:=gd.start1
 refine⟨_,mb2.all,(J0 ok2.wf sm gd mb2.row).mono ?_⟩
 rintro _ g3⟨kl,L,rfl,br,hL⟩
 have mb3:=mb2.ok br.row.ok
 obtain⟨x1,x2⟩:=jz(c:=n)br.row.row br.len(x:=M.start.toNat)(by omega)
 rw [show((M.start.toNat:Nat):Int)=M.start by omega] at x1
 refine⟨_,_,_,rfl,_,m9 _,_,mb3.l1,_,x1,_,x2,⟨mb2.l1,sK _⟩,?_,ok2.trans br.row.ok⟩
 unfold wh
 rw [q,Bool.true_and,Iq(hL M.start.toNat(by omega))]
end
end Go.Proofs.YtoabjjimjldcfaaGreatDoor
end
section
set_option linter.unusedVariables false
set_option maxRecDepth 100000
namespace Go.Proofs.YtoabjjimjldcfaaGreatDoor
open Go Go.Ab
noncomputable def Gd:Code:=(Tryz.f3.body).getD .skip
def WA:List Nat:=[]
abbrev Xs(mv:LV)(h:Heap)(Q:VH):Prop:=xN(fp SS.P 24(.agg⟨mv⟩))h fun B1 g2=>xA(ai SS.P 24 g2(pA(h.next)))fun c3=>FW SS 8 [(.agg⟨c3⟩)] g2 fun v4 h5=>yB v4 fun b6=>ax b6(FW SS 9 [] h5 fun v7 h8=>yB v7 fun b9=>Q(.bool b9)h8)(xA(ai SS.P 24(room h5 44)(pA(h.next)))fun c10=>FW SS 10 [(.agg⟨c10⟩)] (room h5 44)fun v11 h12=>yB v11 fun b13=>xA(ai SS.P 24 h12(pA(h.next)))fun c14=>FW SS 11 [(.agg⟨c14⟩)] h12 fun v15 h16=>yB v15 fun b17=>ax(b13 == b17)(xA(ai SS.P 24 h16(pA(h.next)))fun c18=>FW SS 12 [(.agg⟨c18⟩)] h16 fun v19 h20=>yB v19 fun b21=>xA(ai SS.P 24 h20(pA(h.next)))fun c22=>FW SS 13 [(.agg⟨c22⟩)] h20 fun v23 h24=>yB v23 fun b25=>ax(b21 == b25)(xA(ai SS.P 24 h24(pA(h.next)))fun c26=>FW SS 14 [(.agg⟨c26⟩)] h24 fun v27 h28=>yB v27 fun b29=>xA(ai SS.P 24 h28(pA(h.next)))fun c30=>FW SS 15 [(.agg⟨c30⟩)] h28 fun v31 h32=>yB v31 fun b33=>ax(b29 == b33)(xA(ai SS.P 24 h32(pA(h.next)))fun c34=>FW SS 16 [(.agg⟨c34⟩)] h32 fun v35 h36=>yB v35 fun b37=>xA(ai SS.P 24 h36(pA(h.next)))fun c38=>FW SS 17 [(.agg⟨c38⟩)] h36 fun v39 h40=>yB v39 fun b41=>ax(b37 == b41)(xA(ai SS.P 24 h40(pA(h.next)))fun c42=>FW SS 18 [(.agg⟨c42⟩)] h40 fun v43 h44=>yB v43 fun b45=>xA(ai SS.P 24 h44(pA(h.next)))fun c46=>FW SS 19 [(.agg⟨c46⟩)] h44 fun v47 h48=>yB v47 fun b49=>ax(b45 == b49)(xA(ai SS.P 24 h48(pA(h.next)))fun c50=>FW SS 20 [(.agg⟨c50⟩)] h48 fun v51 h52=>yI .i64 v51 fun n53=>xA(ai SS.P 24 h52(pA(h.next)))fun c54=>FW SS 21 [(.agg⟨c54⟩)] h52 fun v55 h56=>yI .i64 v55 fun n57=>ax(((n53:Int) == n57))(FW SS 9 [] h56 fun v58 h59=>yB v58 fun b60=>(ai SS.P 24(room h5 44)(pA(h.next))=some(.agg⟨c14⟩)/\cP 4(.agg⟨c14⟩)(.agg⟨c14⟩)=true)/\(ai SS.P 24 h16(pA(h.next))=some(.agg⟨c22⟩)/\cP 4(.agg⟨c22⟩)(.agg⟨c22⟩)=true)/\(ai SS.P 24 h24(pA(h.next))=some(.agg⟨c30⟩)/\cP 4(.agg⟨c30⟩)(.agg⟨c30⟩)=true)/\(ai SS.P 24 h32(pA(h.next))=some(.agg⟨c38⟩)/\cP 4(.agg⟨c38⟩)(.agg⟨c38⟩)=true)/\(ai SS.P 24 h40(pA(h.next))=some(.agg⟨c46⟩)/\cP 4(.agg⟨c46⟩)(.agg⟨c46⟩)=true)/\(ai SS.P 24 h48(pA(h.next))=some(.agg⟨c54⟩)/\cP 4(.agg⟨c54⟩)(.agg⟨c54⟩)=true)/\Q(.bool b60)h59)((ai SS.P 24(room h5 44)(pA(h.next))=some(.agg⟨c14⟩)/\cP 4(.agg⟨c14⟩)(.agg⟨c14⟩)=true)/\(ai SS.P 24 h16(pA(h.next))=some(.agg⟨c22⟩)/\cP 4(.agg⟨c22⟩)(.agg⟨c22⟩)=true)/\(ai SS.P 24 h24(pA(h.next))=some(.agg⟨c30⟩)/\cP 4(.agg⟨c30⟩)(.agg⟨c30⟩)=true)/\(ai SS.P 24 h32(pA(h.next))=some(.agg⟨c38⟩)/\cP 4(.agg⟨c38⟩)(.agg⟨c38⟩)=true)/\(ai SS.P 24 h40(pA(h.next))=some(.agg⟨c46⟩)/\cP 4(.agg⟨c46⟩)(.agg⟨c46⟩)=true)/\(ai SS.P 24 h48(pA(h.next))=some(.agg⟨c54⟩)/\cP 4(.agg⟨c54⟩)(.agg⟨c54⟩)=true)/\Q(.bool false)h56))((ai SS.P 24(room h5 44)(pA(h.next))=some(.agg⟨c14⟩)/\cP 4(.agg⟨c14⟩)(.agg⟨c14⟩)=true)/\(ai SS.P 24 h16(pA(h.next))=some(.agg⟨c22⟩)/\cP 4(.agg⟨c22⟩)(.agg⟨c22⟩)=true)/\(ai SS.P 24 h24(pA(h.next))=some(.agg⟨c30⟩)/\cP 4(.agg⟨c30⟩)(.agg⟨c30⟩)=true)/\(ai SS.P 24 h32(pA(h.next))=some(.agg⟨c38⟩)/\cP 4(.agg⟨c38⟩)(.agg⟨c38⟩)=true)/\(ai SS.P 24 h40(pA(h.next))=some(.agg⟨c46⟩)/\cP 4(.agg⟨c46⟩)(.agg⟨c46⟩)=true)/\Q(.bool false)h48))((ai SS.P 24(room h5 44)(pA(h.next))=some(.agg⟨c14⟩)/\cP 4(.agg⟨c14⟩)(.agg⟨c14⟩)=true)/\(ai SS.P 24 h16(pA(h.next))=some(.agg⟨c22⟩)/\cP 4(.agg⟨c22⟩)(.agg⟨c22⟩)=true)/\(ai SS.P 24 h24(pA(h.next))=some(.agg⟨c30⟩)/\cP 4(.agg⟨c30⟩)(.agg⟨c30⟩)=true)/\(ai SS.P 24 h32(pA(h.next))=some(.agg⟨c38⟩)/\cP 4(.agg⟨c38⟩)(.agg⟨c38⟩)=true)/\Q(.bool false)h40))((ai SS.P 24(room h5 44)(pA(h.next))=some(.agg⟨c14⟩)/\cP 4(.agg⟨c14⟩)(.agg⟨c14⟩)=true)/\(ai SS.P 24 h16(pA(h.next))=some(.agg⟨c22⟩)/\cP 4(.agg⟨c22⟩)(.agg⟨c22⟩)=true)/\(ai SS.P 24 h24(pA(h.next))=some(.agg⟨c30⟩)/\cP 4(.agg⟨c30⟩)(.agg⟨c30⟩)=true)/\Q(.bool false)h32))((ai SS.P 24(room h5 44)(pA(h.next))=some(.agg⟨c14⟩)/\cP 4(.agg⟨c14⟩)(.agg⟨c14⟩)=true)/\(ai SS.P 24 h16(pA(h.next))=some(.agg⟨c22⟩)/\cP 4(.agg⟨c22⟩)(.agg⟨c22⟩)=true)/\Q(.bool false)h24))((ai SS.P 24(room h5 44)(pA(h.next))=some(.agg⟨c14⟩)/\cP 4(.agg⟨c14⟩)(.agg⟨c14⟩)=true)/\Q(.bool false)h16))
theorem Uq(mv:LV)(h:Heap)(Q:VH)(hx:Xs mv h Q):FW SS 3 [(.agg⟨mv⟩)] h Q:=ay(M:=WA)(c:=Gd)Tryz.func3(show Tryz.f3.body=some Gd by kernel_rfl)(by kernel_rfl)(aj hx(by kernel_rfl))
end Go.Proofs.YtoabjjimjldcfaaGreatDoor
end
section
set_option linter.unusedVariables false
set_option maxRecDepth 100000
namespace Go.Proofs.YtoabjjimjldcfaaGreatDoor
open Go Go.Ab
theorem H1(h:Heap):FW SS 9 [] h(fun v h'=>v = .bool true/\h' = h):=
 EH(p:=D0 [([],.bool true)])(v:= .bool true)(h':=h)(by decide +kernel)(by kernel_rfl)(fun cf=>by kernel_rfl)⟨rfl,rfl⟩
theorem Vv {h:Heap}(tb:Tab h)(w:Wf h){M:Mach}(bd:XP M){a:Option Addr}{n c:Nat}(r:StRow h(.slice a n c)M.states):FW SS 3 [.agg⟨bw M a n c⟩] h(fun v h'=>v = .bool true/\Ok h h'):=by
 obtain⟨mb,ok⟩:=cV w r
 refine Uq(bw M a n c)h _⟨_,fi M a n c,_,mb.all,(O4 ok.wf bd mb.row).mono ?_⟩
 generalize h.push(Bm M a n c)=g at *
 rintro _ g2⟨b,rfl,hsm,o2⟩
 have ok2:=ok.trans o2
 have mb2:=mb.ok o2
 refine⟨_,rfl,ae(fun _=>?_)(fun q=>?_)⟩
 · refine(H1 g2).mono ?_
  rintro _ g3⟨rfl,rfl⟩
  exact⟨_,rfl,rfl,ok2⟩
 have sm:=hsm q
 have hv:=HN mb2.row
 have oR:=(Ok.refl ok2.wf).room 44
 have okR:=ok2.trans oR
 have mbR:=mb2.ok oR
 have lR:=mbR.all
 refine⟨_,lR,(qo(tb.ok okR)okR.wf sm mbR.row).mono ?_⟩
 rintro _ g3⟨rfl,o3⟩
 have ok3:=okR.trans o3
 have mb3:=mbR.ok o3
 refine⟨_,rfl,_,mb3.all,(lN ok3.wf sm mb3.row).mono ?_⟩
 rintro _ g4⟨rfl,o4⟩
 have ok4:=ok3.trans o4
 have mb4:=mb3.ok o4
 refine⟨_,rfl,ae(fun _=>?_)(fun q=>absurd q(by simp))⟩
 refine⟨_,mb4.all,(Kz(tb.ok ok4)ok4.wf sm mb4.row).mono ?_⟩
 rintro _ g5⟨rfl,o5⟩
 have ok5:=ok4.trans o5
 have mb5:=mb4.ok o5
 refine⟨_,rfl,_,mb5.all,(Kx ok5.wf sm mb5.row).mono ?_⟩
 rintro _ g6⟨rfl,o6⟩
 have ok6:=ok5.trans o6
 have mb6:=mb5.ok o6
 refine⟨_,rfl,ae(fun _=>?_)(fun q=>absurd q(by simp))⟩
 refine⟨_,mb6.all,(CU(tb.ok ok6)ok6.wf sm mb6.row).mono ?_⟩
 rintro _ g7⟨rfl,o7⟩
 have ok7:=ok6.trans o7
 have mb7:=mb6.ok o7
 refine⟨_,rfl,_,mb7.all,(C2 ok7.wf sm mb7.row).mono ?_⟩
 rintro _ g8⟨rfl,o8⟩
 have ok8:=ok7.trans o8
 have mb8:=mb7.ok o8
 refine⟨_,rfl,ae(fun _=>?_)(fun q=>absurd q(by simp))⟩
 refine⟨_,mb8.all,(Rx(tb.ok ok8)ok8.wf sm mb8.row).mono ?_⟩
 rintro _ g9⟨rfl,o9⟩
 have ok9:=ok8.trans o9
 have mb9:=mb8.ok o9
 refine⟨_,rfl,_,mb9.all,(Tu ok9.wf sm mb9.row).mono ?_⟩
 rintro _ g10⟨rfl,o10⟩
 have ok10:=ok9.trans o10
 have mb10:=mb9.ok o10
 refine⟨_,rfl,ae(fun _=>?_)(fun q=>absurd q(by simp))⟩
 refine⟨_,mb10.all,(Lj(tb.ok ok10)ok10.wf sm mb10.row).mono ?_⟩
 rintro _ g11⟨rfl,o11⟩
 have ok11:=ok10.trans o11
 have mb11:=mb10.ok o11
 refine⟨_,rfl,_,mb11.all,(MI ok11.wf sm mb11.row).mono ?_⟩
 rintro _ g12⟨rfl,o12⟩
 have ok12:=ok11.trans o12
 have mb12:=mb11.ok o12
 refine⟨_,rfl,ae(fun _=>?_)(fun q=>absurd q(by simp))⟩
 refine⟨_,mb12.all,(Mo(tb.ok ok12)ok12.wf sm mb12.row).mono ?_⟩
 rintro _ g13⟨rfl,o13⟩
 have ok13:=ok12.trans o13
 have mb13:=mb12.ok o13
 refine⟨_,rfl,_,mb13.all,(MW ok13.wf sm mb13.row).mono ?_⟩
 rintro _ g14⟨rfl,o14⟩
 have ok14:=ok13.trans o14
 refine⟨_,rfl,ae(fun _=>?_)(fun q=>absurd q(by simp))⟩
 refine(H1 g14).mono ?_
 rintro _ g15⟨rfl,rfl⟩
 exact⟨_,rfl,⟨lR,hv⟩,⟨mb4.all,hv⟩,⟨mb6.all,hv⟩,⟨mb8.all,hv⟩,⟨mb10.all,hv⟩,⟨mb12.all,hv⟩,rfl,ok14⟩
end Go.Proofs.YtoabjjimjldcfaaGreatDoor
end
section
set_option linter.unusedVariables false
namespace Go.Proofs.YtoabjjimjldcfaaGreatDoor
open Go Go.Ab Go.RowKit
theorem GB:DM Tryz.prog 9 [] (.bool true):=
 LE text_ok RV(n:=600)(by kernel_rfl)(by kernel_rfl)
theorem MN:CF Tryz.prog 9 [([],.bool true)]:=Qu GB rfl Td
theorem Ar:gf Tryz.prog Rm 194 gE:=wO(fn:=(Tryz.prog.funcs[194]?).getD default)(by kernel_rfl)(by kernel_rfl)(by kernel_rfl)(by kernel_rfl)(by kernel_rfl)
theorem xv:gf Tryz.prog Rm 196 dK:=un(fn:=(Tryz.prog.funcs[196]?).getD default)(by kernel_rfl)(by kernel_rfl)(by kernel_rfl)(by kernel_rfl)(by kernel_rfl)
theorem BV:gf Tryz.prog Rm 134(rx Tryz.prog Rm Tryz.f134(seqL D4)(seqR(seqR D4))5):=
 HA text_ok.names Tryz.func134 rfl rfl rfl rfl rfl rfl rfl Tryz.func157 rfl tD(by kernel_rfl)(by kernel_rfl)
theorem SD:oE Tryz.prog Rm Xw:=Ki MN(eU Ar(eU xv(eU BV C8)))
end Go.Proofs.YtoabjjimjldcfaaGreatDoor
end
section
namespace Go.Ab
open Go Go.RowKit
variable {β:Inj}{P:Program}{h:Heap}{w:World}
theorem D7 {α:Type}{sz:Nat} : ∀ {rs:List(List α)},(∀ r∈rs,r.length=sz)->∀ {i:Nat}{r:List α},rs[i]? = some r->∀ {j:Nat},j < sz->rs.flatten[i * sz + j]? = r[j]?
 | [],_,i,r,hi,_,_=>by simp at hi
 | x :: rs,hl,0,r,hi,j,hj=>by
  have hx:=hl x(List.mem_cons_self ..)
  simp af [List.getElem?_cons_zero,Option.some.injEq] at hi
  subst hi
  rw [List.flatten_cons,Nat.zero_mul,Nat.zero_add,List.getElem?_append_left(by omega)]
 | x :: rs,hl,i + 1,r,hi,j,hj=>by
  have hx:=hl x(List.mem_cons_self ..)
  rw [List.getElem?_cons_succ] at hi
  have ih:=D7(fun r hr=>hl r(List.mem_cons_of_mem _ hr))hi hj
  rw [List.flatten_cons,List.getElem?_append_right(by rw [Nat.add_mul]; omega),hx,<- ih]
  congr 1
  rw [Nat.add_mul]; omega
theorem zm {α:Type}{sz:Nat} : ∀ {rs:List(List α)},(∀ r∈rs,r.length=sz)->rs.flatten.length=rs.length * sz
 | [],_=>by simp
 | x :: rs,hl=>by
  have hx:=hl x(List.mem_cons_self ..)
  rw [List.flatten_cons,List.length_append,zm fun r hr=>hl r(List.mem_cons_of_mem _ hr),hx,List.length_cons,Nat.add_mul]; omega
theorem Of {α:Type}{sz:Nat}{rs:List(List α)}(hl:∀ r∈rs,r.length=sz){i:Nat}{r:List α}(hi:rs[i]? = some r):(rs.flatten.drop(i * sz)).take sz=r:=by
 have hr:=hl r(List.mem_of_getElem? hi)
 refine List.ext_getElem? fun j=>?_
 rw [List.getElem?_take]
 split
 · next hj=>rw [List.getElem?_drop]; exact D7 hl hi hj
 · next hj=>rw [List.getElem?_eq_none(by omega)]
structure Ini(β:Inj)(h:Heap)(w:World):Prop where
 sim:Sim β h w
 ro:∀ k B,h.get k=some B->B.wr=false
theorem Yi(n:Nat)(w:World):Ini β0⟨n,.nil⟩w :=⟨Fs n w,fun k B h=>by rw [Heap.get_nil] at h; cases h⟩
theorem Ini.wf(i:Ini β h w):Wf h:=i.sim.wf
theorem Ini.below(i:Ini β h w){β' : Inj}{h' : Heap}{w' : World}(s:Step β h w β' h' w'):Below w.heap.size w w':=
 ⟨s.os,s.tape,s.output,s.size,fun k hk=>s.kept k hk fun⟨k,B,sl,h1,h2,_⟩=> by rw [i.ro k B h1] at h2; cases h2⟩
abbrev D5(b n:Nat)(t:TypeId):Slot :=⟨b,0,n,t,0,false⟩
theorem Ini.fresh(i:Ini β h w):β h.next=none:=i.sim.none_of_ge(Nat.le_refl _)
theorem Ini.le(i:Ini β h w)(sl:Slot):β.le(β.ext h.next sl):=Inj.le_ext sl i.fresh
theorem Ini.push(i:Ini β h w){cs:List Value}{t:TypeId}{cs' : Array Value}{fr:Nat × Nat}{b:Nat}(hb:w.heap[b]? = some(.cells cs' t fr))(hc:CellsAt β cs 0 cs') :
  Ini(β.ext h.next(D5 b cs'.size t))(h.push(.cells cs t 0 false))w:=by
 have hle:=i.le(D5 b cs'.size t)
 have hlt:b < w.heap.size:=(Array.getElem?_eq_some_iff.1 hb).1
 have hro:∀ k B,(h.push(.cells cs t 0 false)).get k=some B->B.wr=false:=fun k B hk=>by
  rw [Heap.get_push] at hk
  split at hk
  · obtain rfl:=Option.some.inj hk; rfl
  · exact i.ro k B hk
 refine⟨⟨fun k sl hk=>?_,fun k B sl h1 h2=>?_,fun k k' B B' sl sl' _ h1 _ _ _ hw=>?_,Heap.wf_push i.sim.wf _⟩,hro⟩
 · by_cases e:k=h.next
  · subst e
   rw [Inj.ext_same] at hk
   obtain rfl:=Option.some.inj hk
   exact⟨by simp,hlt⟩
  · rw [Inj.ext_ne _ _ e] at hk
   have:=i.sim.lt k sl hk
   exact⟨by simp; omega,this.2⟩
 · rw [Heap.get_push] at h1
  split at h1
  · next e =>
   subst e
   rw [Inj.ext_same] at h2
   obtain rfl:=Option.some.inj h2
   obtain rfl:=Option.some.inj h1
   exact⟨rfl,rfl,⟨rfl,fun _=>rfl⟩,cs',fr,hb,rfl,hc.mono hle,fun hw=>by cases hw⟩
  · next e =>
   rw [Inj.ext_ne _ _ e] at h2
   exact(i.sim.blk k B sl h1 h2).mono hle
 · rw [hro k B h1] at hw; cases hw
theorem Iv(ht:TextOk P){l:nI}{gl:Nat->Bool}(hl:oE P gl l){f:FuncId}{fn:Func}{args:List Value}{Q:Value->Heap->Prop}(hfw:FW⟨P,gl,Ej P gl l⟩f args h Q)(hY:f < YB)(hf:P.funcs[f]? = some fn)(hb:fn.body.isSome=true)
  {args' : Array Value}(i:Ini β h w)(hg:Gl gl β)(ha:LRel β args args'.toList) :
  Calls P f args' w fun e w'=>∃ v v' h' β',e = .returned v'/\Q v h'/\VRel β' v v'/\Step β h w β' h' w'/\Below w.heap.size w w':=by
 obtain⟨v,h',⟨n,hr⟩,hq⟩:=hfw
 obtain⟨fn',hfn,hc⟩:=(ht.run hl n).fn f args h v h' hY(hr n(Nat.le_refl _))β w args' i.sim hg ha
 rw [hf] at hfn
 obtain rfl:=Option.some.inj hfn
 rcases hc with⟨_,hc⟩|⟨v',w',β',h1,_,_⟩
 · refine hc.mono ?_
  rintro e w'⟨v',β',rfl,h2,h3⟩
  exact⟨v,v',h',β',rfl,hq,h3,h2,i.below h2⟩
 · rw [co ht.names hf hb] at h1
  cases h1
def Dq(w:World)(v:Value)(sz:Nat)(rs:List(List Value)):Prop:=
 (∀ r∈rs,r.length=sz)/\((v = .slice none 0 0/\rs=[])\/(∃ a,v = .slice(some a)0 0/\rs=[])\/
  ∃ b off cap cs t fr,v = .slice(some⟨b,off,none⟩)rs.length cap/\rs.length<=cap/\cap < bn/\w.heap[b]? = some(.cells cs t fr)/\off<=cs.size/\
   ∀ (i:Nat)(r:List Value),rs[i]? = some r->∀ j,j < sz->cs[off + (i * sz + j)]? = r[j]?)
theorem Ini.row_at(i:Ini β h w){sz:Nat}{e:TypeId}{rs rs' : List(List Value)}{b off cap:Nat}{cs:Array Value}{t:TypeId}{fr:Nat × Nat}(hsz:∀ r∈rs',r.length=sz)(hlen:rs.length=rs'.length)
  (hrel:∀ (k:Nat)r r',rs[k]? = some r->rs'[k]? = some r'->LRel β r r')(h2:rs'.length<=cap)(h3:cap < bn)(hb:w.heap[b]? = some(.cells cs t fr))(ho:off<=cs.size)
  (hc:∀ (i:Nat)(r:List Value),rs'[i]? = some r->∀ j,j < sz->cs[off + (i * sz + j)]? = r[j]?) :
  ∃ β' h',Ini β' h' w/\β.le β'/\Ok h h'/\VRel β' (.slice(some⟨h.next,off,none⟩)rs.length cap)(.slice(some⟨b,off,none⟩)rs'.length cap)/\RdN h' e sz(.slice(some⟨h.next,off,none⟩)rs.length cap)rs:=by
 have hsz' : ∀ r∈rs,r.length=sz:=fun r hr=>by
  obtain⟨k,hk,rfl⟩:=List.getElem_of_mem hr
  have h1:rs'[k]? = some rs'[k]:=List.getElem?_eq_getElem(by omega)
  rw [(hrel k _ _(List.getElem?_eq_getElem hk)h1).1]
  exact hsz _(List.mem_of_getElem? h1)
 have hcells:CellsAt β(List.replicate off junk ++ rs.flatten)0 cs:=fun k v hv=>by
  rw [Nat.zero_add]
  rw [List.getElem?_append] at hv
  split at hv
  · next hk =>
   rw [List.length_replicate] at hk
   rw [List.getElem?_replicate,if_pos hk] at hv
   obtain rfl:=Option.some.inj hv
   exact⟨_,Array.getElem?_eq_getElem(by omega),.junk _⟩
  · next hk =>
   rw [List.length_replicate] at hk hv
   have hlt:=(List.getElem?_eq_some_iff.1 hv).1
   rw [zm hsz'] at hlt
   rcases Nat.eq_zero_or_pos sz with hz | hz
   · subst hz; simp at hlt
   have e1:k - off=(k - off) / sz * sz + (k - off) % sz:=by rw [Nat.mul_comm]; exact(Nat.div_add_mod _ _).symm
   have hj:=Nat.mod_lt(k - off)hz
   have hi:(k - off) / sz < rs.length:=Nat.div_lt_of_lt_mul(by rw [Nat.mul_comm]; exact hlt)
   have g1:rs[(k - off) / sz]? = some rs[(k - off) / sz]:=List.getElem?_eq_getElem hi
   have g2:rs'[(k - off) / sz]? = some rs'[(k - off) / sz]:=List.getElem?_eq_getElem(by omega)
   rw [e1,D7 hsz' g1 hj] at hv
   have hr:=hrel _ _ _ g1 g2
   have hl':=hsz _(List.mem_of_getElem? g2)
   have g3:rs'[(k - off) / sz][(k - off) % sz]? = some rs'[(k - off) / sz][(k - off) % sz]:=List.getElem?_eq_getElem(by omega)
   refine⟨_,?_,hr.2 _ _ _ hv g3⟩
   rw [<- g3,<- hc _ _ g2 _ hj,<- e1]
   congr 1
   omega
 refine⟨_,_,i.push hb hcells,i.le _,(Ok.refl i.wf).push _,?_,hsz',.inr⟨h.next,off,_,t,0,cap,false,rfl,Heap.get_push_same _ _,?_,fun k r hk=>?_⟩⟩
 · have:=VRel.slice(β:=β.ext h.next(D5 b cs.size t))(i:=off)(n:=rs.length)(c:=cap)(i':=off)(c':=cap)(Inj.ext_same _ _ _)rfl(fun _=>rfl)(fun h=>by omega)(by unfold aO; split <;> omega)(.inl(by simp))(.inl rfl)
  rw [<- hlen]
  exact this
 · rw [List.length_append,List.length_replicate,zm hsz']; omega
 · rw [List.drop_append,List.length_replicate,List.drop_eq_nil_of_le(by simp),List.nil_append,Nat.add_sub_cancel_left]
  exact Of hsz' hk
theorem Ini.row(i:Ini β h w){sz:Nat}{e:TypeId}{v' : Value}{rs rs' : List(List Value)}(r:Dq w v' sz rs')(hlen:rs.length=rs'.length)(hrel:∀ (k:Nat)r r',rs[k]? = some r->rs'[k]? = some r'->LRel β r r') :
  ∃ β' h' v,Ini β' h' w/\β.le β'/\Ok h h'/\VRel β' v v'/\RdN h' e sz v rs:=by
 obtain⟨hsz,⟨rfl,rfl⟩|⟨a,rfl,rfl⟩|⟨b,off,cap,cs,t,fr,rfl,h2,h3,hb,ho,hc⟩⟩:=r
 · obtain rfl:rs=[]:=List.eq_nil_of_length_eq_zero hlen
  exact⟨β,h,_,i,β.le_refl,Ok.refl i.wf,.nilSlice,⟨fun _ hm=>absurd hm(by simp),.inl⟨.inl rfl,rfl⟩⟩⟩
 · obtain rfl:rs=[]:=List.eq_nil_of_length_eq_zero hlen
  exact⟨β,h,BF,i,β.le_refl,Ok.refl i.wf,.dead a,⟨fun _ hm=>absurd hm(by simp),.inl⟨.inr rfl,rfl⟩⟩⟩
 · obtain⟨β',h',h4,h5,h6,h7,h8⟩:=i.row_at(e:=e)hsz hlen hrel h2 h3 hb ho hc
  exact⟨β',h',_,h4,h5,h6,h7,h8⟩
theorem Ini.row_live(i:Ini β h w){sz:Nat}{e:TypeId}{v' : Value}{rs rs' : List(List Value)}(r:Dq w v' sz rs')(hlen:rs.length=rs'.length)(hrel:∀ (k:Nat)r r',rs[k]? = some r->rs'[k]? = some r'->LRel β r r')
  (hd:∀ a,v' = .slice(some a)0 0->a.spot=none/\∃ cs t fr,w.heap[a.block]? = some(.cells cs t fr)) :
  ∃ β' h' v,Ini β' h' w/\β.le β'/\Ok h h'/\VRel β' v v'/\RdN h' e sz v rs/\v≠BF:=by
 obtain⟨hsz,⟨rfl,rfl⟩|⟨a,rfl,rfl⟩|⟨b,off,cap,cs,t,fr,rfl,h2,h3,hb,ho,hc⟩⟩:=r
 · obtain rfl:rs=[]:=List.eq_nil_of_length_eq_zero hlen
  exact⟨β,h,_,i,β.le_refl,Ok.refl i.wf,.nilSlice,⟨fun _ hm=>absurd hm(by simp),.inl⟨.inl rfl,rfl⟩⟩,fun e=>by cases e⟩
 · obtain rfl:rs=[]:=List.eq_nil_of_length_eq_zero hlen
  obtain⟨hs,cs,t,fr,hb⟩:=hd a rfl
  obtain⟨b,off,spot⟩:=a
  cases(show spot=none from hs)
  have i':=i.push(cs:=[])hb(fun k v hv=>by simp at hv)
  refine⟨_,_,.slice(some⟨h.next,0,none⟩)0 0,i',i.le _,(Ok.refl i.wf).push _,?_,⟨fun _ hm=>absurd hm(by simp),.inr⟨h.next,0,_,t,0,0,false,rfl,Heap.get_push_same _ _,by simp,fun k r hk=>by simp at hk⟩⟩,fun e=>by simp [BF] at e⟩
  exact VRel.slice(sl:=D5 b cs.size t)(Inj.ext_same _ _ _)rfl(fun _=>rfl)(fun h=>by unfold bn at h; omega)(by unfold aO; split <;> omega)(.inr⟨rfl,rfl⟩)(.inl rfl)
 · obtain⟨β',h',h4,h5,h6,h7,h8⟩:=i.row_at(e:=e)hsz hlen hrel h2 h3 hb ho hc
  exact⟨β',h',_,h4,h5,h6,h7,h8,fun e=>by simp [BF] at e⟩
section
variable {H:Type}{enc:TypeId × Value->H}{held:Bool}
theorem Pj {a:Addr}{v:Value}(hv:w.cell? a=some v):a.spot=none/\∃ cs t fr,w.heap[a.block]? = some(.cells cs t fr)/\cs[a.off]? = some v:=by
 unfold World.cell? at hv
 split at hv
 · next c t fr hb =>
  split at hv
  · cases hv
  · next hs=>exact⟨by simpa using hs,c,t,fr,hb,hv⟩
 · cases hv
theorem pick {α:Type}{p:Nat->α->Prop} : ∀ n,(∀ i,i < n->∃ q,p i q)->∃ l:List α,l.length=n/\∀ i q,l[i]? = some q->p i q
 | 0,_ =>⟨[],rfl,fun i q hi=>by simp at hi⟩
 | n + 1,hp=>by
  obtain⟨l,hl,hq⟩:=pick n fun i hi=>hp i(by omega)
  obtain⟨q,hq'⟩:=hp n(by omega)
  refine⟨l ++ [q],by simp [hl],fun i x hi=>?_⟩
  rw [List.getElem?_append] at hi
  split at hi
  · exact hq i x hi
  · next hn =>
   have:i=n:=by
    have:=(List.getElem?_eq_some_iff.1 hi).1
    simp at this; omega
   subst this
   simp [hl] at hi
   rw [<- hi]; exact hq'
theorem oI {e:TypeId}{d:DataW H}{n:Nat} : ∀ {l:List(DataW H)},d∈l->n∈d.weights P e->n∈DataW.weightsAll P e l
 | [],h,_=>by cases h
 | x :: l,h,hn=>by
  rw [DataW.weightsAll,List.mem_append]
  rcases List.mem_cons.1 h with rfl | h
  · exact .inl hn
  · exact .inr(oI h hn)
theorem Dv {t e:TypeId}{sz:Nat}(ht:P.underlying t=some(.slice e))(hsz:P.cellsOf e=sz)(hpos:0 < sz){p:List Value->Prop}
  (hp:∀ n cs y,DataW.trod enc P w 0(fun _=>true)held n e cs=some y->(y.1.weights P e).all(·<=reachBytes)=true->p cs){fuel:Nat}{cv:List Value}{x:DataW H × List MemPlace}
  (h:DataW.trod enc P w 0(fun _=>true)held fuel t cv=some x)(hw:(x.1.weights P t).all(·<=reachBytes)=true) :
  ∃ v rs,cv=[v]/\Dq w v sz rs/\(∀ r∈rs,p r)/\rs.length * P.bytesOf e<=reachBytes:=by
 rcases DataW.trod_slice ht h with⟨rfl,rfl⟩|⟨a,len,cap,elems,rest,n,_,rfl,rfl,hb,hlc,hcm,hel,hE,hR,_⟩
 · exact⟨_,[],rfl,⟨fun _ hm=>absurd hm(by simp),.inl⟨rfl,rfl⟩⟩,fun _ hm=>absurd hm(by simp),by simp⟩
 obtain⟨hrl,hR⟩:=hR rfl
 simp af [DataW.weights,ht,List.all_cons,Bool.and_eq_true,decide_eq_true_eq,List.all_append,List.length_map] at hw
 obtain⟨hw1,hw2,hw3⟩:=hw
 have hcap:cap < bn:=by unfold maxLen at hcm; unfold bn; omega
 have key:∀ i,i < len->∃ r:List Value,(r.length=sz/\p r)/\∀ j,j < sz->w.cell? (a.add(i * sz + j))=r[j]?:=fun i hi=>by
  have h1:=hE i hi
  have h2:elems[i]? = some elems[i]:=List.getElem?_eq_getElem(by omega)
  rw [h2,hsz,Option.bind_eq_some_iff] at h1
  obtain⟨r,h3,h4⟩:=h1
  obtain⟨_,h5,h6⟩:=World.cells?_some h3
  refine⟨r,⟨h5,hp n r _ h4 ?_⟩,fun j hj=>?_⟩
  · rw [List.all_eq_true] at hw2 ⊢
   exact fun m hm=>hw2 m(oI(List.mem_map.2⟨elems[i],List.mem_of_getElem? h2,rfl⟩)hm)
  · rw [<- h6 j hj,Addr.add_add]
 obtain⟨rs,hrs,hq⟩:=pick len key
 have hq' : ∀ r∈rs,r.length=sz/\p r:=fun r hr=>by
  obtain⟨k,hk⟩:=List.mem_iff_getElem?.1 hr
  exact(hq k r hk).1
 refine⟨_,rs,rfl,⟨fun r hr=>(hq' r hr).1,?_⟩,fun r hr=>(hq' r hr).2,?_⟩
 · rcases Nat.eq_zero_or_pos cap with hz | hz
  · obtain rfl:rs=[]:=List.eq_nil_of_length_eq_zero(by omega)
   have:len=0:=by omega
   subst this; subst hz
   exact .inr(.inl⟨a,rfl,rfl⟩)
  · have h0:∃ v,w.cell? a=some v:=by
    have add0:a.add(0 * sz)=a:=by rw [Nat.zero_mul]; unfold Addr.add; split <;> simp_all
    have fin:∀ x,(w.cells? 0(a.add(0 * sz))sz).bind(DataW.trod enc P w 0(fun _=>true)held n e)=some x->∃ v,w.cell? a=some v:=fun x hx=>by
     rw [Option.bind_eq_some_iff,add0] at hx
     obtain⟨r,h3,h4⟩:=hx
     obtain⟨_,h5,h6⟩:=World.cells?_some h3
     have:=h6 0 hpos
     rw [show a.add 0=a by unfold Addr.add; split <;> simp_all,List.getElem?_eq_getElem(by omega)] at this
     exact⟨_,this⟩
    rcases Nat.eq_zero_or_pos len with hl | hl
    · have:=hR 0(by omega)
     rw [hl,hsz,List.getElem?_eq_getElem(by omega)] at this
     exact fin _ this
    · have:=hE 0 hl
     rw [hsz,List.getElem?_eq_getElem(by omega)] at this
     exact fin _ this
   obtain⟨v0,hv0⟩:=h0
   obtain⟨hs,cs,tt,fr,hbk,hoff⟩:=Pj hv0
   obtain⟨b,off,spot⟩:=a
   cases(show spot=none from hs)
   have ho:=(Array.getElem?_eq_some_iff.1 hoff).1
   refine .inr(.inr⟨b,off,cap,cs,tt,fr,by rw [hrs],by omega,hcap,hbk,Nat.le_of_lt ho,fun i r hi j hj=>?_⟩)
   have:=(hq i r hi).2 j hj
   rw [bp,kP hbk] at this
   exact this
 · rw [hrs]
  refine Nat.le_trans(Nat.mul_le_mul_right _ ?_)hw1
  omega
end
end Go.Ab
end
section
set_option linter.unusedVariables false
set_option maxRecDepth 100000
namespace Go.Proofs.YtoabjjimjldcfaaGreatDoor
open Go Go.Ab Go.ChangeShapes Go.RowKit
theorem YL:Tryz.prog.cellsOf 3=1:=by kernel_rfl
theorem Yt:Tryz.prog.cellsOf 9=1:=by kernel_rfl
theorem Ya:Tryz.prog.cellsOf 22=1:=by kernel_rfl
theorem XR:Tryz.prog.cellsOf 24=4:=by kernel_rfl
theorem Yu:Tryz.prog.cellsOf 35=1:=by kernel_rfl
theorem V4:Tryz.prog.cellsOf 37=2:=by kernel_rfl
theorem W3:Tryz.prog.cellsOf 39=4:=by kernel_rfl
theorem WX:Tryz.prog.cellsOf 103=1:=by kernel_rfl
theorem Yd:Tryz.prog.bytesOf 39=40:=by kernel_rfl
theorem Je {α β:Type}{p:α->β}{P:α->Prop} : ∀ {l:List β},(∀ x∈l,∃ q,x=p q/\P q)->∃ k:List α,l=k.map p/\∀ q∈k,P q
 | [],_ =>⟨[],rfl,fun _ h=>by cases h⟩
 | x :: l,h=>by
  obtain⟨q,rfl,hq⟩:=h x(List.mem_cons_self ..)
  obtain⟨k,rfl,hk⟩:=Je fun x hx=>h x(List.mem_cons_of_mem _ hx)
  exact⟨q :: k,rfl,fun y hy=>by
   rcases List.mem_cons.1 hy with rfl | hy
   · exact hq
   · exact hk y hy⟩
def QL(W:World)(q:MSt × Value):Prop:=Dq W q.2 4(q.1.arcs.map lG)/\q.1.arcs.length<=281474976710656
section
variable {H:Type}{enc:TypeId × Value->H}{W:World}{held:Bool}
theorem O1 {n:Nat}{cs:List Value}{y:DataW H × List MemPlace}(h:DataW.trod enc Tryz.prog W 0(fun _=>true)held n 39 cs=some y):∃ q:MArc,cs=lG q/\True:=by
 obtain⟨xs,m,_,_,hl,hlen,hf⟩:=DataW.trod_struct Tryz.underlying39 h
 rw [W3] at hl
 have hlen:xs.length=4:=hlen
 match xs,hlen,cs,hl with
 | [y0,y1,y2,y3],_,[c0,c1,c2,c3],_ =>
  obtain⟨i,e0,_,_⟩:=DataW.trod_int(x:=y0)Tryz.underlying3(show DataW.trod enc Tryz.prog W 0(fun _=>true)held m 3(([c0,c1,c2,c3].drop 0).take(Tryz.prog.cellsOf 3))=some y0 from hf 0 _ rfl)
  obtain⟨o,e1,_,_⟩:=DataW.trod_int(x:=y1)Tryz.underlying3(show DataW.trod enc Tryz.prog W 0(fun _=>true)held m 3(([c0,c1,c2,c3].drop 1).take(Tryz.prog.cellsOf 3))=some y1 from hf 1 _ rfl)
  obtain⟨s,e2,_,_⟩:=DataW.trod_string(x:=y2)Tryz.underlying9(show DataW.trod enc Tryz.prog W 0(fun _=>true)held m 9(([c0,c1,c2,c3].drop 2).take(Tryz.prog.cellsOf 9))=some y2 from hf 2 _ rfl)
  obtain⟨t,e3,_,_⟩:=DataW.trod_int(x:=y3)Tryz.underlying3(show DataW.trod enc Tryz.prog W 0(fun _=>true)held m 3(([c0,c1,c2,c3].drop 3).take(Tryz.prog.cellsOf 3))=some y3 from hf 3 _ rfl)
  simp af [YL,Yt,List.drop,List.take,List.cons.injEq,and_true] at e0 e1 e2 e3
  subst e0; subst e1; subst e2; subst e3
  exact⟨⟨i,o,s.data.toList,t⟩,rfl,trivial⟩
theorem IC {n:Nat}{cs:List Value}{y:DataW H × List MemPlace}(h:DataW.trod enc Tryz.prog W 0(fun _=>true)held n 37 cs=some y)(hw:(y.1.weights Tryz.prog 37).all(·<=reachBytes)=true):∃ q:MSt × Value,cs=NU q/\QL W q:=by
 obtain⟨y0,y1,m,rfl,hl,h0,h1⟩:=trod_struct2 Tryz.underlying37 h
 rw [V4] at hl
 match cs,hl with
 | [c0,c1],_ =>
  obtain⟨s,e0,_,_⟩:=DataW.trod_string Tryz.underlying9 h0
  simp af [DataW.weights,Tryz.underlying37,DataW.weightsEach,List.map,List.append_nil,List.all_append,Bool.and_eq_true] at hw
  obtain⟨v,rs,e1,r,hr,hb⟩:=Dv(P:=Tryz.prog)(p:=fun cs=>∃ q:MArc,cs=lG q/\True)Tryz.underlying35 W3(by decide)(fun n cs y h _=>O1 h)h1 hw.2
  simp af [Yt,Yu,List.drop,List.take,List.cons.injEq,and_true] at e0 e1
  subst e0; subst e1
  obtain⟨l,rfl,_⟩:=Je hr
  refine⟨(⟨s.data.toList,l⟩,c1),rfl,r,?_⟩
  rw [Yd,List.length_map] at hb
  unfold reachBytes at hb
  show l.length<=_
  omega
theorem Eh {n:Nat}{cs:List Value}{y:DataW H × List MemPlace}(h:DataW.trod enc Tryz.prog W 0(fun _=>true)held n 24 cs=some y)(hw:(y.1.weights Tryz.prog 24).all(·<=reachBytes)=true) :
  ∃ (k s:Int)(ld:List UInt8)(v:Value)(sts:List(MSt × Value)),cs=[.int .i64 k,.int .i64 s,aa ld,v]/\Dq W v 2(sts.map NU)/\∀ q∈sts,QL W q:=by
 obtain⟨xs,m,_,rfl,hl,hlen,hf⟩:=DataW.trod_struct Tryz.underlying24 h
 rw [XR] at hl
 have hlen:xs.length=4:=hlen
 match xs,hlen,cs,hl with
 | [y0,y1,y2,y3],_,[c0,c1,c2,c3],_ =>
  obtain⟨k,e0,_,_⟩:=DataW.trod_int(x:=y0)Tryz.underlying3(show DataW.trod enc Tryz.prog W 0(fun _=>true)held m 3(([c0,c1,c2,c3].drop 0).take(Tryz.prog.cellsOf 3))=some y0 from hf 0 _ rfl)
  obtain⟨s,e1,_,_⟩:=DataW.trod_int(x:=y1)Tryz.underlying3(show DataW.trod enc Tryz.prog W 0(fun _=>true)held m 3(([c0,c1,c2,c3].drop 1).take(Tryz.prog.cellsOf 3))=some y1 from hf 1 _ rfl)
  obtain⟨ld,e2,_,_⟩:=DataW.trod_string(x:=y2)Tryz.underlying9(show DataW.trod enc Tryz.prog W 0(fun _=>true)held m 9(([c0,c1,c2,c3].drop 2).take(Tryz.prog.cellsOf 9))=some y2 from hf 2 _ rfl)
  simp af [DataW.weights,Tryz.underlying24,DataW.weightsEach,List.map,List.append_nil,List.all_append,Bool.and_eq_true] at hw
  obtain⟨v,rs,e3,r,hr,_⟩:=Dv(P:=Tryz.prog)(x:=y3)(p:=fun cs=>∃ q:MSt × Value,cs=NU q/\QL W q)Tryz.underlying22 V4(by decide)(fun n cs y h hw=>IC h hw)(show DataW.trod enc Tryz.prog W 0(fun _=>true)held m 22(([c0,c1,c2,c3].drop 3).take(Tryz.prog.cellsOf 22))=some y3 from hf 3 _ rfl)hw.2.2.2
  simp af [YL,Yt,Ya,List.drop,List.take,List.cons.injEq,and_true] at e0 e1 e2 e3
  subst e0; subst e1; subst e2; subst e3
  obtain⟨l,rfl,hl⟩:=Je hr
  exact⟨k,s,ld.data.toList,c3,l,rfl,r,hl⟩
end
section
variable {W:World}
theorem Mn(q:MArc):(lG q).all nQ=true:=rfl
theorem SP {β:Inj}{f:List UInt8}{v v' : Value}(h:VRel β v v'):LRel β [aa f,v] [aa f,v']:= .cons(.string _)(.cons h(.nil β))
theorem CP:∀ (sts:List(MSt × Value)),(∀ q∈sts,QL W q)->∀ {β:Inj}{h:Heap},Ini β h W->
  ∃ (β' : Inj)(h' : Heap)(ps:List(MSt × Value)),Ini β' h' W/\β.le β'/\Ok h h'/\ps.length=sts.length/\ps.map(·.1)=sts.map(·.1)/\(∀ p∈ps,ArcRow h' p.2 p.1.arcs)/\
   ∀ (k:Nat)r r',(ps.map NU)[k]? = some r->(sts.map NU)[k]? = some r'->LRel β' r r'
 | [],_,β,h,i =>⟨β,h,[],i,β.le_refl,Ok.refl i.wf,rfl,rfl,fun _ hm=>absurd hm(by simp),fun k v q h=>absurd h(by simp)⟩
 | q :: sts,hq,β,h,i=>by
  obtain⟨r,_⟩:=hq q(List.mem_cons_self ..)
  obtain⟨β1,h1,v,i1,l1,o1,r1,a1⟩:=i.row(e:=39)r(rs:=q.1.arcs.map lG)rfl(fun k r r' h1 h2=>by
    rw [h1] at h2
    obtain rfl:=Option.some.inj h2
    rw [List.getElem?_map] at h1
    obtain⟨x,_,rfl⟩:=Option.map_eq_some_iff.1 h1
    exact LRel.of_bares(Mn x))
  obtain⟨β2,h2,ps,i2,l2,o2,hl,hm,ha,hk⟩:=CP sts(fun q hm=>hq q(List.mem_cons_of_mem _ hm))i1
  refine⟨β2,h2,(q.1,v) :: ps,i2,Inj.le_trans l1 l2,o1.trans o2,by simp [hl],by simp [hm],fun p hp=>?_,fun k v' q' g1 g2=>?_⟩
  · rcases List.mem_cons.1 hp with rfl | hp
   · exact ArcRow.ok a1 o2
   · exact ha p hp
  · cases k with
   | zero =>
    simp af [List.map_cons,List.getElem?_cons_zero,Option.some.injEq] at g1 g2
    subst g1; subst g2
    exact SP(r1.mono l2)
   | succ k=>exact hk k v' q' (by simpa using g1)(by simpa using g2)
theorem Gj {β:Inj}{h:Heap}(i:Ini β h W){v:Value}{sts:List(MSt × Value)}(r:Dq W v 2(sts.map NU))(hq:∀ q∈sts,QL W q)(hd:∀ a,v = .slice(some a)0 0->a.spot=none/\∃ cs t fr,W.heap[a.block]? = some(.cells cs t fr)) :
  ∃ β' h' v',Ini β' h' W/\β.le β'/\Ok h h'/\VRel β' v' v/\StRow h' v' (sts.map(·.1)):=by
 obtain⟨β1,h1,ps,i1,l1,o1,hl,hm,ha,hk⟩:=CP sts hq i
 obtain⟨β2,h2,v',i2,l2,o2,r2,a2,ne⟩:=i1.row_live(e:=37)(rs:=ps.map NU)r(by simp [hl])hk hd
 exact⟨β2,h2,v',i2,Inj.le_trans l1 l2,o1.trans o2,r2,ps,hm,a2,fun p hp=>ArcRow.ok(ha p hp)o2,ne⟩
end
end Go.Proofs.YtoabjjimjldcfaaGreatDoor
end
section
namespace Go.Proofs.YtoabjjimjldcfaaGreatDoor
open Go Go.ChangeShapes Go.WideShapes Go.ChangeAt Go.RowKit
theorem Oj:ownKnob Tryz.prog.godebug=none:=by kernel_rfl
abbrev hP {H:Type} : List(String × DataW H):=[("math/bits.deBruijn32tab",Rows.laid_math_bits_deBruijn32tab),("math/bits.deBruijn64tab",Rows.laid_math_bits_deBruijn64tab),("internal/strconv.uint64pow10",Rows.laid_internal_strconv_uint64pow10)]
def Uy:DataW Unit->Value
 | .lit(.int k n)=>.int k n
 | _=>undef
def zj:DataW Unit->Array Value
 | .agg l=>(l.map Uy).toArray
 | _=>#[]
def OI(c:Array Value):Obj->Obj
 | .cells _ t frozen=>.cells c t frozen
 | o=>o
noncomputable def CX(os:Os):World:=
 { World.holding Tryz.prog os⟨#[],#[],[]⟩with heap:=(((World.holding Tryz.prog os⟨#[],#[],[]⟩).heap.modify 2(OI(zj Rows.laid_math_bits_deBruijn32tab))).modify 3(OI(zj Rows.laid_math_bits_deBruijn64tab))).modify 1(OI(zj Rows.laid_internal_strconv_uint64pow10)) }
theorem Cu(os:Os)(args:Array Value):laidMetH Tryz.prog hP((CX os).forCall(fun _ _=>0)⟨#[],args,[]⟩).memory:=
 laidMetH_of_parts(laidMet_of_run' 24(by kernel_rfl)(by kernel_rfl))(by kernel_rfl)
end Go.Proofs.YtoabjjimjldcfaaGreatDoor
end
section
set_option linter.unusedVariables false
set_option maxRecDepth 100000
namespace Go.Proofs.YtoabjjimjldcfaaGreatDoor
open Go Go.Ab Go.ChangeShapes Go.WideShapes Go.RowKit
theorem A0 {P:Program}{w:World} : ∀ {l:List(String × DataW Unit)}{ps:List MemPlace},DataW.LaidVars P w l ps->∀ n d,(n,d)∈l->
  ∃ g t cs fuel p,P.globalNamed n=some g/\(P.globals[g]?).map(·.type)=some t/\w.var? P n=some cs/\DataW.trod(fun _=>())P w 0(fun _=>true)false fuel t cs.toList=some(d,p)
 | [],_,_,_,_,hm=>by cases hm
 | (n',d') :: r,ps,h,n,d,hm=>by
  obtain⟨g,t,cs,fuel,p,q,h1,h2,h3,h4,h5,_⟩:=h
  rcases List.mem_cons.1 hm with e | e
  · cases e
   exact⟨g,t,cs,fuel,p,h1,h2,h3,h4⟩
  · exact A0 h5 n d e
theorem OW:Rows.laid_internal_strconv_uint64pow10=(.agg((List.range 20).map fun i=>(.lit(.int .u64((10 ^ i:Nat):Int)):DataW Unit)):DataW Unit):=by kernel_rfl
section
variable {W:World}
theorem Sa(hL:laidMetH Tryz.prog hP W):∃ cs t fr,W.heap[1]? = some(.cells cs t fr)/\∀ β,CellsAt β Ig 0 cs:=by
 rw [MakeChecks.laidMetH_plain _ _ _(by kernel_rfl)] at hL
 obtain⟨ps,hl,_⟩:=hL
 obtain⟨g,t,cs,fuel,p,hg,ht,hv,hd⟩:=A0 hl "internal/strconv.uint64pow10" Rows.laid_internal_strconv_uint64pow10(by simp [hP])
 obtain rfl:=Option.some.inj((show Tryz.prog.globalNamed "internal/strconv.uint64pow10" = some 1 by kernel_rfl).symm.trans hg)
 obtain rfl:=Option.some.inj((show(Tryz.prog.globals[1]?).map(·.type)=some 185 by kernel_rfl).symm.trans ht)
 obtain⟨xs,m,_,ex,_,hl,hel⟩:=DataW.trod_array Tryz.underlying185 hd
 have e3:xs.map(·.1)=(List.range 20).map fun i=>(.lit(.int .u64((10 ^ i:Nat):Int)):DataW Unit):=by
  have:=(Prod.mk.inj ex).1.symm.trans OW
  exact DataW.agg.inj this
 have hb:∃ t fr,W.heap[1]? = some(.cells cs t fr):=by
  simp af [World.var?,hg,Option.bind_some] at hv
  split at hv
  · next c t fr hb=>obtain rfl:=Option.some.inj hv; exact⟨t,fr,hb⟩
  · cases hv
 obtain⟨t,fr,hb⟩:=hb
 refine⟨cs,t,fr,hb,fun β k v hk=>?_⟩
 have hlt:k < 20:=by
  have:=(List.getElem?_eq_some_iff.1 hk).1
  simpa [Ig] using this
 have hv:v=uv(10 ^ k):=by
  simp [Ig,List.getElem?_range hlt] at hk
  exact hk.symm
 have hE:=hel k hlt
 rw [WX,Nat.mul_one,List.getElem?_eq_getElem(by omega)] at hE
 obtain⟨z,e1,e2,_⟩:=DataW.trod_int Tryz.underlying103 hE
 have e4:(xs.map(·.1))[k]? = some(.lit(.int .u64((10 ^ k:Nat):Int))):=by rw [e3]; simp [List.getElem?_range hlt]
 rw [List.getElem?_map,List.getElem?_eq_getElem(by omega:k < xs.length),e2] at e4
 have hz:z=((10 ^ k:Nat):Int):=by
  simpa using e4
 subst hz
 have:cs.toList[k]? = some(.int .u64((10 ^ k:Nat):Int)):=by
  have h0:((cs.toList.drop k).take 1)[0]? = some(.int .u64((10 ^ k:Nat):Int)):=by rw [e1]; rfl
  simpa using h0
 refine⟨.int .u64((10 ^ k:Nat):Int),by simpa using this,?_⟩
 rw [hv]; exact .int _ _
theorem Sy(hL:laidMetH Tryz.prog hP W):∃ β h,Ini β h W/\Gl Rm β/\Tab h:=by
 obtain⟨cs,t,fr,hb,hc⟩:=Sa hL
 refine⟨_,_,(Yi 1 W).push hb(hc _),fun g hg=>?_,t,false,Heap.get_push_same⟨1,.nil⟩_⟩
 have:g=1:=by simpa [Rm] using hg
 subst this
 exact⟨_,Inj.ext_same _ _ _,rfl,rfl,rfl⟩
theorem N2 {base:Nat}{k s:Int}{ld:List UInt8}{v:Value}(hval:Value.okWide Tryz.prog W .any base 24(.agg #[.int .i64 k,.int .i64 s,aa ld,v]))(a:Addr)(e:v = .slice(some a)0 0):a.spot=none/\∃ cs t fr,W.heap[a.block]? = some(.cells cs t fr):=by
 simp af [Value.okWide,Tryz.underlying24] at hval
 obtain⟨cs,hcs,_,ts,hts,_,hc⟩:=hval
 obtain rfl:=Value.agg.inj hcs
 obtain rfl:=Option.some.inj((show Tryz.prog.cellTypes Tryz.prog.depth 24=some [3,3,9,22] by kernel_rfl).symm.trans hts)
 obtain⟨u,hu,hk⟩:=hc 3 v rfl
 obtain rfl:22=u:=Option.some.inj hu
 subst e
 simp af [Cell.okWide,Cell.ok,Tryz.underlying22] at hk
 obtain⟨_,_,_,hs,row,cells,hsh,_⟩:=hk
 refine⟨hs,?_⟩
 unfold World.shape? at hsh
 split at hsh
 · next c t fr hb=>exact⟨c,t,fr,hb⟩
 · cases hsh
theorem F8 {H:Type}{enc:TypeId × Value->H}{base:Nat}{v0:Value}{d0:DataW H}{p:List MemPlace}(hL:laidMetH Tryz.prog hP W)(hval:Value.okWide Tryz.prog W .any base 24 v0)
  (hd:DataW.Trod enc Tryz.prog W 0(fun _=>true)true 24 v0 d0 p)(hw:(d0.weights Tryz.prog 24).all(·<=reachBytes)=true) :
  Calls Tryz.prog 3 #[v0] W fun e w'=>e = .returned(.bool true)/\Below W.heap.size W w':=by
 obtain⟨cs,rfl,_⟩:=okWide_struct Tryz.underlying24 hval
 obtain⟨fuel,hd⟩:=hd
 obtain⟨k,s,ld,v,sts,hcs,hr,hq⟩:=Eh hd hw
 have hcs:cs = #[.int .i64 k,.int .i64 s,aa ld,v]:=by
  rw [<- Array.toList_inj]; exact hcs
 subst hcs
 obtain⟨β0',h0,i0,g0,t0⟩:=Sy hL
 obtain⟨β1,h1,v',i1,l1,o1,r1,VJ⟩:=Gj i0 hr hq(N2 hval)
 obtain⟨ps,hps,hrd,_,_⟩:=id VJ
 obtain⟨a,c,rfl⟩:=hrd.slc
 have hfw:=Vv(M :=⟨k,s,ld,sts.map(·.1)⟩)(t0.ok o1)i1.wf(fun x hx=>by
  obtain⟨q,hq',rfl⟩:=List.mem_map.1 hx
  exact(hq q hq').2)VJ
 refine(Iv text_ok SD hfw(by unfold YB; decide)Tryz.func3(by kernel_rfl)i1(g0.mono l1)(.cons ?_(.nil _))).mono ?_
 · exact .agg rfl(ARel.toList.2(.cons(.int _ _)(.cons(.int _ _)(.cons(.string _)(.cons r1(.nil _)))))).2
 · rintro e w'⟨x,x',h',β',rfl,⟨rfl,_⟩,hx,_,hb⟩
  cases hx
  exact⟨rfl,hb⟩
end
end Go.Proofs.YtoabjjimjldcfaaGreatDoor
end
section
namespace Go.Ab
open Go Go.RowKit Go.WideShapes Go.ChangeShapes
section
variable {H:Type}{enc:TypeId × Value->H}{P:Program}
theorem O2 {f:Func}{s:ChangeSpec}{apart fresh handsOn again:Bool}{W W' : World}{args:Array Value}{v:Value}{ds:List(DataW H)}{places:List MemPlace}
  (hvars:s.vars=[])(hW:DataW.Whole enc P f.params.toList s.vars apart W args.toList ds [] places)(hb:Below W.heap.size W W')
  (hsame:(s.fn H(ds ++ [])).args=ds)(hnov:(s.fn H(ds ++ [])).vars=[])
  (hres:∀ (b:Nat)(sp:Nat->Bool)(hd:Bool),DataW.TrodAll enc P W' b sp hd f.resultTypes.toList(v.resultList f.resultTypes.size)(s.fn H(ds ++ [])).results [])
  (hok:∀ (j:Nat)(t:TypeId)(r:Value),f.resultTypes[j]? = some t->(v.resultList f.resultTypes.size)[j]? = some r->Value.okWide P W' .any 0 t r)
  (hargs:∀ sp:Nat->Bool,(∀ p∈places,sp p.block=true)->DataW.TrodAll enc P W' 0 sp true f.params.toList args.toList ds places):s.post enc P f apart fresh handsOn again W args v W':=by
 have hin:∀ p∈places,p.block < W.heap.size:=fun p hp=>hW.lt p hp
 have hmine:∀ p∈places,(fun b=>decide(b < W.heap.size))p.block=true:=fun p hp=>decide_eq_true(hin p hp)
 have hv0:∀ sp:Nat->Bool,DataW.TrodVars enc P W' sp s.vars(s.fn H(ds ++ [])).vars []:=fun sp=>by
  rw [hvars,hnov]; rfl
 have hfr:=World.keptBut_mono(may':=fun p=>p∈places/\(p∈([] : List MemPlace)\/p∈places\/p∈([] : List MemPlace)))(fun p hp =>⟨hp,.inr(.inl hp)⟩)(hb.frame(·∈places))
 obtain⟨_,_,_,_,_,hz,hn⟩:=id hW
 have hargs' : ∀ sp:Nat->Bool,(∀ p∈places,sp p.block=true)->DataW.TrodAll enc P W' 0 sp true f.params.toList args.toList(s.fn H(ds ++ [])).args places:=fun sp h=>by rw [hsame]; exact hargs sp h
 refine⟨ds,[],places,[],places,[],hW,hres _ _ _,hargs' _ hmine,hv0 _,hfr,fun _ =>⟨hok,_,_,([] ++ places) ++ [],⟨[] ++ places,[],trodAll_append(hargs' _ fun _ _=>rfl)(hres _ _ _),hv0 _,rfl,?_,?_⟩,?_⟩⟩
 · intro b off hp
  have hp:MemPlace.cell b off∈places:=by simpa using hp
  rw [hb.frozen(hin _ hp)]
  exact hz b off hp
 · intro ha
  simpa using hn ha
 · intro p hp _
  simpa using hp
end
end Go.Ab
end
section
namespace Go.Proofs.YtoabjjimjldcfaaGreatDoor
open Go Go.Ab Go.ChangeShapes Go.WideShapes Go.ChangeAt Go.RowKit
theorem HD:laidOutB Tryz.prog=true:=by kernel_rfl
set_option maxRecDepth 100000 in
theorem FF(os:Os)(started:os.Started)(H:Type)(enc:TypeId × Value->H) :
  ReturnsInHanded {}Tryz.checked os 3 .any(fun w args=>(Rows.machineValidSpec.pre enc Tryz.prog Tryz.f3 [] false w args/\laidMetH Tryz.prog hP w)/\sizedMet enc Tryz.prog Tryz.f3(OpenSpec.ofChange Rows.machineValidSpec)false w args)
   (Rows.machineValidSpec.post enc Tryz.prog Tryz.f3 false true false false):=by
 refine returnsInHanded_of_change_and(C:=Tryz.checked)(X:=fun w _=>laidMetH Tryz.prog hP w)(fun _ _ _ hh h=>h.of_heap hh)Oj started(by kernel_rfl)Tryz.func3
  (ChangeSpec.witness_at(enc:=enc)(C:=Tryz.checked)(os:=os)(X:=fun w _=>laidMetH Tryz.prog hP w)false(CX os) #[.agg #[.int .i64 0,.int .i64 0,.string⟨#[]⟩,.slice none 0 0]] 8 rfl(by kernel_rfl)(by kernel_rfl)(by kernel_rfl)(by kernel_rfl)(by kernel_rfl)(Cu os _)) ?_
 intro W base args ds gs before hval0 hW _ hwt hL _
 have hval:∀ (j:Nat)t v,Tryz.f3.params[j]? = some t->args[j]? = some v->Value.okWide Tryz.prog W .any base t v:=hval0
 have hW':=hW
 obtain⟨p,q,hA0,hV,rfl,hfz,hnd⟩:=hW
 have hA:DataW.TrodAll enc Tryz.prog W 0(fun _=>true)true Tryz.f3.params.toList args.toList ds p:=hA0
 rw [Tryz.params3] at hA hval
 obtain⟨v0,d0,rfl,rfl,h0⟩:=trodAll_one hA
 obtain⟨rfl,rfl⟩:=trodVars_none hV
 simp af [List.append_nil] at hW'
 have hw:(d0.weights Tryz.prog 24).all(·<=reachBytes)=true:=by
  have h1:(DataW.weightsEach Tryz.prog(Tryz.f3.params.toList ++ Rows.machineValidSpec.plain.varTypes Tryz.prog)([d0] ++ [])).all(·<=reachBytes)=true:=hwt
  rw [Tryz.params3] at h1
  have h2:(d0.weights Tryz.prog 24 ++ DataW.weightsEach Tryz.prog(Rows.machineValidSpec.plain.varTypes Tryz.prog) []).all(·<=reachBytes)=true:=h1
  rw [List.all_append,Bool.and_eq_true] at h2
  exact h2.1
 refine(F8 hL(hval 0 24 v0 rfl rfl)h0 hw).mono fun e W'⟨he,hb⟩=> ?_
 subst he
 have hlt:∀ x∈p,x.block < W.heap.size:=fun x hx=>hW'.lt x hx
 have h0':=Below.trod HD(by kernel_rfl)(of_decide_eq_true(by kernel_rfl))h0 hb hlt
 exact⟨_,rfl,O2(ds:=[d0])(places:=p)rfl hW' hb rfl rfl(fun _ _ _=>(trodAll_cons_mk(shut_bool Tryz.underlying4 _)trodAll_mk0))
  (ok_one(by kernel_rfl)rfl(okWide_bool_mk Tryz.underlying4 _))(fun sp hsp=>by
   rw [Tryz.params3]
   exact trodAll_mk1(WideElems.Trod_stays HD(by kernel_rfl)(of_decide_eq_true(by kernel_rfl))h0(fun x hx=>hb.same(hlt x hx))hsp))⟩
theorem Jy:Rows.MachineValidSaid:=
 OpenClaim.holds_of_wide 3 Tryz.f3 rfl rfl rfl rfl rfl rfl rfl⟨rfl,rfl,rfl,rfl,rfl⟩rfl rfl rfl rfl rfl(by kernel_rfl)Tryz.func3(by kernel_rfl)
  (of_decide_eq_true(by kernel_rfl))(by unfold Func.isWrapper; first | (rw [if_pos(by decide +kernel)]; kernel_rfl) | (rw [if_neg(by decide +kernel)]; exact⟨rfl,rfl⟩))
  (fun os started H enc _=>FF os started H enc)
theorem machineValid_holds:Rows.MachineValidCardSaid:=
 Claim7.holds_tied_plain_at .later [] [.data,.data,.data] true(true,"ea4656df63b73b94884b59f7838f0dfac73e8ec20c036833f77c270eb3448717")true
  Jy(fun _ h=>by cases h)(by kernel_rfl)(fun _ h=>by cases h)machineValid_row_tie rfl⟨rfl,rfl⟩(by kernel_rfl)rfl
  (fun f fn hf hfn=>by
   obtain rfl:f=3:=Option.some.inj((show Tryz.prog.funcNamed "abugida/abugidalaw06.MachineValid" = some 3 by kernel_rfl).symm.trans hf) |>.symm
   obtain rfl:fn=Tryz.f3:=(Option.some.inj(Tryz.func3.symm.trans hfn)).symm
   exact⟨by kernel_rfl,fun j t ht=>by
    rw [Tryz.params3] at ht
    have hm:t∈[24]:=by simpa using Array.mem_of_getElem? ht
    have hall:([24].all fun u=>!Tryz.prog.wantsStandIn u)=true:=by kernel_rfl
    exact(show Tryz.prog.wantsStandIn t=false by simpa using List.all_eq_true.1 hall t hm)⟩)
  (by kernel_rfl)
end Go.Proofs.YtoabjjimjldcfaaGreatDoor
end
