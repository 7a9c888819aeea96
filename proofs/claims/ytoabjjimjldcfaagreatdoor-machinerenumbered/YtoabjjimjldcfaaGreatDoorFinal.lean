/- Whatever machine and number are handed to it, in whatever memory, on every schedule, MachineRenumbered returns true. No condition. -/
import Derived.Test.YtoabjjimjldcfaaGreatDoorPart2
import Derived.Test.YtoabjjimjldcfaaGreatDoorPart5
import Derived.Test.YtoabjjimjldcfaaGreatDoorPart4
import Derived.Below
import Derived.ChangeSame
import Derived.Test.YtoabjjimjldcfaaGreatDoorCards
import Derived.Test.YtoabjjimjldcfaaGreatDoorTie
import Derived.WalkKit
import Derived.OpenShut
import Derived.Carry
import Derived.SevenTiedAt
open Go.IntKind (wrap)
section
set_option linter.unusedVariables false
set_option maxRecDepth 100000
namespace Go.Proofs.YtoabjjimjldcfaaGreatDoor
open Go Go.Ab
noncomputable def dl:FD:=cB Tryz.f5 [([1,1,1,1,1,0,1,0,0],[1,2,5,6,7]),([1,1,1,1,1,0,1,0,0,1,0,0,1,0,1,0,0],[1,2,5,6,7,8,9])]
abbrev eE (km ko by_ n:Nat)(i:Nat):LV:=[(iA by_),(pA km),(iA n),(pA ko),(iA i)]
abbrev jZ (km ko by_ n ks i:Nat)(j:Nat):LV:=[(iA by_),(pA km),(iA n),(pA ko),(iA i),(pA ks),(.int .i64 ((j:Int) - 1))]
theorem JM (mv:LV)(d:Int)(h:Heap)(Q:VH)(hx:xN (dY SS.P 24 (.agg ⟨mv⟩)) h fun B1 g2=>xA (ah SS.P 24 g2 (pA (h.next))) fun c3=>FW SS 8 [(.agg ⟨c3⟩)] g2 fun v4 h5=>yB v4 fun b6=>aB b6 (FW SS 9 [] h5 fun v7 h8=>yB v7 fun b9=>Q (.bool b9) h8) (xA (ah SS.P 24 h5 (pA (h.next))) fun c10=>FW SS 16 [(.agg ⟨c10⟩)] h5 fun v11 h12=>yB v11 fun b13=>aB (!b13) (FW SS 9 [] h12 fun v14 h15=>yB v14 fun b16=>Q (.bool b16) h15) (xP (af SS.P 24 (pA (h.next)) 3) fun p17=>xL (ah SS.P 22 h12 (.pointer (some p17))) fun a18 n19 c20=>xI .i64 (ak SS.P .rem 3 (.int .i64 d) (iA n19)) fun n21=>xI .i64 (ak SS.P .rem 3 (.int .i64 (wrap .i64 (n21+(n19:Int)))) (iA n19)) fun n22=>xP (af SS.P 24 (pA (h.next)) 0) fun p23=>xI .i64 (ah SS.P 3 (room h12 17) (.pointer (some p23))) fun n24=>xP (af SS.P 24 (pA (h.next)) 1) fun p25=>xI .i64 (ah SS.P 3 (room h12 17) (.pointer (some p25))) fun n26=>xI .i64 (ak SS.P .rem 3 (.int .i64 n26) (iA n19)) fun n27=>xI .i64 (ak SS.P .rem 3 (.int .i64 (wrap .i64 (n27+n22))) (iA n19)) fun n28=>xP (af SS.P 24 (pA (h.next)) 2) fun p29=>xS (ah SS.P 9 (room h12 17) (.pointer (some p29))) fun l30=>zR (aX SS.P 22 (iA n19) (iA n19)) fun B31 n32 c33=>xA (aC SS.P 24 [(0,(.int .i64 n24)),(1,(.int .i64 n28)),(2,(aa l30)),(3,(sA (h12.next+13) n32 c33))]) fun c34=>zN (aD SS.P 24) fun B35=>xU (ai SS.P 24 (pA (h12.next+15)) (.agg ⟨c34⟩) (ax (room h12 17) h12.next [(15,B35),(13,B31)])) (ax (room h12 17) h12.next [(15,B35),(13,B31)]) fun u36 g37=>LL SS dl [1,1,1,1,1,0,1,0,0] [(.int .i64 n22),(pA (h.next)),(iA n19),(pA (h12.next+15)),(.int .i64 0)] g37 (KK SS dl [1,1,1,1,1,0,1,0] [] (EE SS dl Q))))):FW SS 5 [(.agg ⟨mv⟩),(.int .i64 d)] h Q:=cE dl Tryz.func5 (aj hx)
theorem re (mv:LV)(d:Int)(km ko by_ n:Nat)(Inv:Nat->Nat->Heap->Prop)(Q:VH)(step: ∀ (mz:Nat) (i:Nat) (zz:Nat->Value) (h:Heap),Inv mz i h->aB (decide (((i:Int):Int) < (n:Int))) (xP (af SS.P 24 (pA km) 3) fun p38=>xL (ah SS.P 22 h (.pointer (some p38))) fun a39 n40 c41=>xP (ag SS.P 22 (.slice a39 n40 c41) (iA i)) fun p42=>xP (af SS.P 37 (.pointer (some p42)) 0) fun p43=>xS (ah SS.P 9 h (.pointer (some p43))) fun l44=>xA (aC SS.P 37 [(0,(aa l44))]) fun c45=>xN (aD SS.P 37) h fun B46 g47=>xU (ai SS.P 37 (pA (h.next)) (.agg ⟨c45⟩) g47) g47 fun u48 g49=>xP (af SS.P 24 (pA km) 3) fun p50=>xL (ah SS.P 22 g49 (.pointer (some p50))) fun a51 n52 c53=>xP (ag SS.P 22 (.slice a51 n52 c53) (iA i)) fun p54=>xP (af SS.P 37 (.pointer (some p54)) 1) fun p55=>xL (ah SS.P 35 g49 (.pointer (some p55))) fun a56 n57 c58=>LL SS dl [1,1,1,1,1,0,1,0,0,1,0,0,1,0,1,0,0] [(iA by_),(pA km),(iA n),(pA ko),(iA i),(pA (h.next)),(.int .i64 (wrap .i64 ((n57:Int) - 1)))] g49 (KK SS dl [1,0,0,1,0,1,0] [1,1,1,1,1,0,1,0,0] (RR dl [1,1,1,1,1,0,1,0,0] (gM (eE km ko by_ n) Inv) mz (KK SS dl [1,1,1,1,1,0,1,0] [] (EE SS dl Q))))) (xA (ah SS.P 24 h (pA km)) fun c59=>FW SS 25 [(.agg ⟨c59⟩)] h fun v60 h61=> ∃ cs62:LV,∃ n63:Int,v60=(.tuple ⟨[(.agg ⟨cs62⟩),(.int .i64 n63)]⟩)/\xN (aD SS.P 24) h61 fun B64 g65=>xU (ai SS.P 24 (pA (h61.next)) (.agg ⟨cs62⟩) g65) g65 fun u66 g67=>xA (ah SS.P 24 g67 (pA ko)) fun c68=>FW SS 25 [(.agg ⟨c68⟩)] g67 fun v69 h70=> ∃ cs71:LV,∃ n72:Int,v69=(.tuple ⟨[(.agg ⟨cs71⟩),(.int .i64 n72)]⟩)/\xN (aD SS.P 24) h70 fun B73 g74=>xU (ai SS.P 24 (pA (h70.next)) (.agg ⟨cs71⟩) g74) g74 fun u75 g76=>aB (((n63:Int) == 0)) (aB (((n72:Int) == 0)) (xA (ah SS.P 24 g76 (pA (h61.next))) fun c77=>xA (ah SS.P 24 g76 (pA (h70.next))) fun c78=>FW SS 30 [(.agg ⟨c77⟩),(.agg ⟨c78⟩)] g76 fun v79 h80=>yB v79 fun b81=>aB b81 (FW SS 9 [] h80 fun v82 h83=>yB v82 fun b84=>Q (.bool b84) h83) (Q (.bool false) h80)) (Q (.bool false) g76)) (Q (.bool false) g76)))(mz:Nat){i:Nat}{h:Heap}(hi:Inv mz i h):LL SS dl [1,1,1,1,1,0,1,0,0] (eE km ko by_ n i) h (KK SS dl [1,1,1,1,1,0,1,0] [] (EE SS dl Q)):=
 cQ (eE km ko by_ n) Inv (fun mz i zz h hi=>aj (step mz i zz h hi)) mz hi
theorem q7 (mv:LV)(d:Int)(km ko by_ n ks:Nat)(Inv:Nat->Nat->Heap->Prop)(mz i:Nat)(Inv2:Nat->Nat->Heap->Prop)(Q:VH)(step: ∀ (mz2:Nat) (j:Nat) (zz:Nat->Value) (h:Heap),Inv2 mz2 j h->aB (decide ((((j:Int) - 1):Int)>=0)) (xP (af SS.P 24 (pA km) 3) fun p85=>xL (ah SS.P 22 h (.pointer (some p85))) fun a86 n87 c88=>xP (ag SS.P 22 (.slice a86 n87 c88) (iA i)) fun p89=>xP (af SS.P 37 (.pointer (some p89)) 1) fun p90=>xL (ah SS.P 35 h (.pointer (some p90))) fun a91 n92 c93=>xP (ag SS.P 35 (.slice a91 n92 c93) (.int .i64 ((j:Int) - 1))) fun p94=>xA (ah SS.P 39 h (.pointer (some p94))) fun c95=>xN (aD SS.P 39) h fun B96 g97=>xU (ai SS.P 39 (pA (h.next)) (.agg ⟨c95⟩) g97) g97 fun u98 g99=>xP (af SS.P 39 (pA (h.next)) 3) fun p100=>xI .i64 (ah SS.P 3 g99 (.pointer (some p100))) fun n101=>xI .i64 (ak SS.P .rem 3 (.int .i64 n101) (iA n)) fun n102=>xI .i64 (ak SS.P .rem 3 (.int .i64 (wrap .i64 (n102+(by_:Int)))) (iA n)) fun n103=>xP (af SS.P 39 (pA (h.next)) 3) fun p104=>xU (ai SS.P 3 (.pointer (some p104)) (.int .i64 n103) g99) g99 fun u105 g106=>xP (af SS.P 37 (pA ks) 1) fun p107=>xL (ah SS.P 35 g106 (.pointer (some p107))) fun a108 n109 c110=>xA (ah SS.P 39 g106 (pA (h.next))) fun c111=>xR (an SS.P 35 1 [(0,(.agg ⟨c111⟩))]) g106 fun B112 n113 c114 g115=>xE (aJ SS.P 35 35 (.slice a108 n109 c110) (sA (g106.next) n113 c114) g115) g115 fun a116 n117 c118 u119 g120=>xP (af SS.P 37 (pA ks) 1) fun p121=>xU (ai SS.P 35 (.pointer (some p121)) (.slice a116 n117 c118) g120) g120 fun u122 g123=>aF (gM (jZ km ko by_ n ks i) Inv2) mz2 [(iA by_),(pA km),(iA n),(pA ko),(iA i),(pA ks),(.int .i64 (wrap .i64 (((j:Int) - 1) - 1)))] g123) (xP (af SS.P 24 (pA ko) 3) fun p124=>xL (ah SS.P 22 (room h 10) (.pointer (some p124))) fun a125 n126 c127=>xI .i64 (ak SS.P .rem 3 (.int .i64 (wrap .i64 ((i:Int)+(by_:Int)))) (iA n)) fun n128=>xA (ah SS.P 37 (room h 10) (pA ks)) fun c129=>xP (ag SS.P 22 (.slice a125 n126 c127) (.int .i64 n128)) fun p130=>xU (ai SS.P 37 (.pointer (some p130)) (.agg ⟨c129⟩) (room h 10)) (room h 10) fun u131 g132=>aF (gM (eE km ko by_ n) Inv) mz [(iA by_),(pA km),(iA n),(pA ko),(.int .i64 (wrap .i64 ((i:Int)+1)))] g132))(mz2:Nat){j:Nat}{h:Heap}(hi:Inv2 mz2 j h):LL SS dl [1,1,1,1,1,0,1,0,0,1,0,0,1,0,1,0,0] (jZ km ko by_ n ks i j) h (KK SS dl [1,0,0,1,0,1,0] [1,1,1,1,1,0,1,0,0] (RR dl [1,1,1,1,1,0,1,0,0] (gM (eE km ko by_ n) Inv) mz (KK SS dl [1,1,1,1,1,0,1,0] [] (EE SS dl Q)))):=
 cQ (jZ km ko by_ n ks i) Inv2 (fun mz2 j zz h hi=>aj (step mz2 j zz h hi)) mz2 hi
section
section
variable {hb g:Heap} {k off n c:Nat} {ps:List (MSt×Value)}
theorem OwnM.put (w:Wf hb)(ok:Ok hb g)(m:OwnM hb g (.slice (some ⟨k,off,none⟩) n c) ps){i:Nat}(hi:i < ps.length)(f:List UInt8){arcs:List MArc}{b:Option Addr}{n' c':Nat}(ox:OwnK hb g 39 4 (.slice b n' c') (arcs.map aO))(nx: ∀ j,aK (.slice b n' c')=some j->j≠k/\ ∀ (i:Nat) (p:MSt×Value),ps[i]?=some p->aK p.2≠some j):
  ∃ u:Upd,ai SS.P 37 (.pointer (some ⟨k,off+i*2,none⟩)) (.agg ⟨[aa f,.slice b n' c']⟩) g=some (undef,u)/\OwnM hb (u.app g) (.slice (some ⟨k,off,none⟩) n c) (ps.set i (⟨f,arcs⟩,.slice b n' c'))/\Ok hb (u.app g)/\(∀ j B,g.get j=some B->k≠j->(u.app g).get j=some B):=by
 obtain ⟨u,s1,s2,s3,s4,s5⟩:=OwnK.putR rF w ok m.row (i:=i) (by rw [lM]; exact hi) (x:=[aa f,.slice b n' c']) rfl (by cases b <;> rfl);refine ⟨u,s1,⟨by rw [nJ]; exact s2,fun j q hq=> ?_,fun j q hq k' hk'=> ?_,fun j1 j2 q1 q2 hne hq1 hq2 k' hk'=> ?_⟩,s3,s4⟩
 ·rcases az hq with ⟨e,rfl⟩ | ⟨e,hq⟩
  ·exact ox.keep fun k' B hk' hB=>s4 k' B hB fun e=>(nx k' hk').1 e.symm
  ·exact (m.arcs j q hq).keep fun k' B hk' hB=>s4 k' B hB (fun e=>m.ne j q hq k' hk' (by rw [<-e]; rfl))
 ·rcases az hq with ⟨e,rfl⟩ | ⟨e,hq⟩
  ·exact fun e=>(nx k' hk').1 (oI e).symm
  ·exact m.ne j q hq k' hk'
 ·rcases az hq1 with ⟨e1,rfl⟩ | ⟨e1,f1⟩ <;> rcases az hq2 with ⟨e2,rfl⟩ | ⟨e2,f2⟩
  ·exact absurd (e1.trans e2.symm) hne
  ·exact (nx k' hk').2 j2 q2 f2
  ·exact fun e=>(nx k' e).2 j1 q1 f1 hk'
  ·exact m.dis j1 j2 q1 q2 hne f1 f2 k' hk'
end
def Oy (hb:Heap)(M:Mach)(b ko kr:Nat)(O:Mach)(mz i:Nat)(g:Heap):Prop:=i<=M.states.length/\mz=M.states.length - i/\ ∃ ps,TrI M b i (ps.map (·.1))/\RenI hb ko kr M.states.length O ps g
def NG (hI:Heap)(φ:Nat->Nat)(s:MSt)(ks:Nat)(mz2 j:Nat)(g:Heap):Prop:=j<=s.arcs.length/\mz2=j/\Ok hI g/\ ∃ x y z,SB g ks s.f x y z/\OwnK hI g 39 4 (.slice x y z) (((s.arcs.drop j).reverse.map (tU φ)).map aO)/\aK (.slice x y z)≠some ks
theorem td {n b x:Nat}(hn:n<=300)(hb:b < n)(hx:x < n):ak SS.P .rem 3 (.int .i64 (wrap .i64 ((x:Int)+(b:Int)))) (iA n)=some (.int .i64 ((ff n b x:Nat):Int)):=by
 rw [aq (by omega) (by omega),cP (by omega) (by omega)];congr 2
theorem zJ {n x:Nat}(hx:x < n):ak SS.P .rem 3 (iA x) (iA n)=some (iA x):=by
 rw [cP (by omega) (by omega),Int.emod_eq_of_lt (by omega) (by omega)]
theorem L0 {φ:Nat->Nat}{q:MArc}{Y:Nat}(h:q.t=(Y:Int)):tU φ q=⟨q.i,q.o,q.w,((φ Y:Nat):Int)⟩:=by
 unfold tU;rw [h]; rfl
theorem Ed {hb:Heap}(tb:Tab hb)(w:Wf hb){M:Mach}(hM:tP M=true)(sm:Small M){km ko kr b:Nat}{a:Option Addr}{n c:Nat}(mb:MB hb km M a n c)(hbn:b < M.states.length){ps:List (MSt×Value)}{g0:Heap}(hps:ps.length=M.states.length)
  (ri:RenI hb ko kr M.states.length ⟨M.kind,((ff M.states.length b M.start.toNat:Nat):Int),M.lead,[]⟩ ps g0) (mv:List Value) (d:Int) {Q:VH} (hQ: ∀ h',Ok hb h'->Q (.bool true) h'):
  LL SS dl [1,1,1,1,1,0,1,0,0] (eE km ko b n 0) g0 (KK SS dl [1,1,1,1,1,0,1,0] [] (EE SS dl Q)):=by
 obtain ⟨hv,dt⟩:=ID hM;have gd:=bC hv;have hnl:n=M.states.length:=mb.len;subst hnl;have hn:=sm.sts;refine re mv d km ko b _ (Oy hb M b ko kr ⟨M.kind,((ff M.states.length b M.start.toNat:Nat):Int),M.lead,[]⟩) _ (fun mz i=> ?_) M.states.length (i:=0) ⟨Nat.zero_le _,rfl,ps,⟨by rw [lM]; exact hps,fun x hx=>absurd hx (Nat.not_lt_zero _)⟩,ri⟩;clear ri hps ps;intros; rename_i g hin;obtain ⟨f1,rfl,ps,tr,ri⟩:=hin;have okg:=ri.ok;have mg:=mb.ok okg;refine ae (fun q1=> ?_) (fun q1=> ?_)
 ·have q1:=dT q1;have hi:i < M.states.length:=by omega
  have hs:=eR hi;obtain ⟨bb,o,x',y,z,j1,j2,j3,j4,ar⟩:=mb.row.at2 okg hs;have hal:(jr M i).arcs.length<=2000:=sm.arcs _ (List.mem_of_getElem? hs);obtain ⟨u,p1,p2,p3⟩:=pe okg.wf (jr M i).f none 0 0;have mg2:=mg.ok p2;obtain ⟨bb',o',x2,y2,z2,l1,l2,l3,l4,ar2⟩:=mb.row.at2 (okg.trans p2) hs;have hy2:y2=(jr M i).arcs.length:=ar2.len;refine ⟨_,bA _,_,_,_,mg.l3,_,j1,_,iG _ _,_,j3,_,K9 _,_,rJ,u,p1,_,bA _,_,_,_,mg2.l3,_,l1,_,bW _ _,_,_,_,l4,?_⟩;have ox0:OwnK g (u.app (g.push uh)) 39 4 (.slice none 0 0) ((((jr M i).arcs.drop y2).reverse.map (tU (ff M.states.length b))).map aO):=by
   rw [List.drop_of_length_le (by omega)];exact OwnK.nil _ _ _ _
  dsimp only;rw [aq (by omega) (by omega)];refine q7 mv d km ko b _ g.next (Oy hb M b ko kr ⟨M.kind,((ff M.states.length b M.start.toNat:Nat):Int),M.lead,[]⟩) _ i (NG g (ff M.states.length b) (jr M i) g.next) _ (fun mz2 j=> ?_) y2 (j:=y2) ⟨by omega,rfl,p2,none,0,0,p3,ox0,fun e=>by cases e⟩;intros; rename_i gg hin;obtain ⟨f2,rfl,okI,x0,y0,z0,s10,ox,nxk⟩:=hin;have wI:=okg.wf;have wg:=okI.wf;have okb:=okg.trans okI;have mG:=mb.ok okb;refine ae (fun q2=> ?_) (fun q2=> ?_)
  ·have q2:=dT q2;obtain ⟨p,rfl⟩: ∃ p,mz2=p+1:=⟨mz2 - 1,by omega⟩
   have ep:((p+1:Nat):Int) - 1=(p:Int):=by omega
   obtain ⟨q,hq⟩: ∃ q,(jr M i).arcs[p]?=some q:=⟨_,gE (by omega)⟩
   have hin:=gd.arcs _ (List.mem_of_getElem? hs) q (List.mem_of_getElem? hq);obtain ⟨Y,hY⟩: ∃ Y:Nat,q.t=(Y:Int):=⟨q.t.toNat,by have:=hin.t0; omega⟩
   have hYn:Y < M.states.length:=by have:=hin.t1; omega
   obtain ⟨bb3,o3,x3,y3,z3,m1,m2,m3,m4,ar3⟩:=mb.row.at2 okb hs;obtain ⟨bb4,o4,d1,d2,d3,d4,d5,d6⟩:=(ar3.ok okb).at_ hq;obtain ⟨u5,r1,r2,r3⟩:=oz wg q;have lt3:=r3.l3;rw [hY] at lt3;have t1e:=zJ hYn;have t2e:=td hn hbn hYn;rw [ep];refine ⟨_,bA _,_,_,_,mG.l3,_,m1,_,bW _ _,_,_,_,m4,_,d1,_,d2,_,wn,u5,r1,_,eW _ _,_,lt3,_,t1e,_,t2e,?_⟩;have oxg:=ox.ok r2;have s10g:=s10.ok r2;have okI2:=okI.trans r2;generalize u5.app (gg.push A0)=g5 at *;obtain ⟨u6,w1,w2,w3⟩:=r3.setT wg r2 (Nat.le_refl _) ((ff M.states.length b Y:Nat):Int);refine ⟨_,eW _ _,u6,w1,_,bW _ _,_,_,_,(s10.ok w2).l1,_,w3.all,_,_,_,KX _,?_⟩;have oxg2:=ox.ok w2;have s10g2:=s10.ok w2;have okI3:=okI.trans w2;generalize u6.app g5=g6 at *;have oP:=(Ok.refl okI3.wf).push (.cells (aO ⟨q.i,q.o,q.w,((ff M.states.length b Y:Nat):Int)⟩) 39 4 true);have kP:=ay g6 (.cells (aO ⟨q.i,q.o,q.w,((ff M.states.length b Y:Nat):Int)⟩) 39 4 true);have oxP:=oxg2.ok oP;have s10P:=s10g2.ok oP;have okIP:=okI3.trans oP;generalize g6.push (.cells (aO ⟨q.i,q.o,q.w,((ff M.states.length b Y:Nat):Int)⟩) 39 4 true)=g71 at *;obtain ⟨b2,n2',c2,u3,a1,a2,a3,a4,a5,a6⟩:=rK wI okIP oxP kP (by rw [lM,List.length_reverse,List.length_drop]; omega);have s10A:=a4 _ _ s10P nxk;obtain ⟨u4,v1,v2,v3,v4⟩:=SB.setA wI a3 s10A (Nat.le_refl _) b2 n2' c2;have hk10g:=okIP.wf _ _ s10P;have nk2:aK (.slice b2 n2' c2)≠some g.next:=fun e=>by
    rcases a5 _ e with h | h
    ·omega
    ·exact nxk h
   refine ⟨b2,n2',c2,u3,a1,_,bW _ _,u4,v1,?_⟩;dsimp only;rw [aq (by omega) (by omega)];refine cA p (by omega) ⟨by omega,rfl,v2,b2,n2',c2,v3,?_,nk2⟩;have ed:(jr M i).arcs.drop p=q::(jr M i).arcs.drop (p+1):=by
    obtain ⟨h1,h2⟩:=List.getElem?_eq_some_iff.1 hq;rw [List.drop_eq_getElem_cons h1,h2]
   rw [ed,List.reverse_cons,List.map_append,List.map_cons,List.map_nil,L0 hY];exact a2.keep fun k' B hk' hB=>v4 _ _ hB (fun e=>nk2 (by rw [hk',e]))
  ·have q2:=dF q2;obtain rfl:mz2=0:=by omega
   have oR:=(Ok.refl wg).room 10;have riG:=(ri.ext okI).ext oR;have t2e:=td hn hbn hi;have htl:ff M.states.length b i < ps.length:=by
    have:=tr.len;rw [lM] at this;rw [this];exact Nat.mod_lt _ (by omega)
   have oxR:=(ox.ok oR).base okg;rw [List.drop_zero] at oxR;obtain ⟨u9,z1,z2,z3,z4⟩:=riG.own.put w riG.ok htl (jr M i).f (b:=x0) (n':=y0) (c':=z0) oxR (fun j hj=>by
    have h1:=(ox.lt wg hj).2;have h2:kr < g.next:=(ri.own.row.lt okg.wf rfl).1;exact ⟨by omega,fun i' p hp e=>by have:=((ri.own.arcs i' p hp).lt okg.wf e).1; omega⟩)
   obtain ⟨p0,hp0⟩: ∃ p,ps[ff M.states.length b i]?=some p:=⟨_,gE htl⟩
   have ix:=(riG.own.at_ hp0).1;refine ⟨_,bA _,_,_,_,riG.l3,_,t2e,_,(s10.ok oR).all,_,ix,u9,z1,?_⟩
   ·rw [aH hi (by omega)];refine cA (M.states.length - (i+1)) (by omega) ⟨by omega,rfl,_,?_,⟨z2,z3,z4 _ _ riG.box riG.nk,fun i' p hp j hj=> ?_,riG.nk⟩⟩
    ·rw [List.map_set];exact tr.succ hbn hi
    ·rcases az hp with ⟨e,rfl⟩ | ⟨e,hp⟩
     ·have h1:=(ox.lt wg hj).2;have h2:=okg.wf _ _ ri.box;omega
     ·exact riG.hi i' p hp j hj
 ·have q1:=dF q1;obtain rfl:i=M.states.length:=by omega
  have is:=tr.iso hbn;have hO:=is.valid hv;have sO:=is.small sm;have cO:=is.canon hv hO dt;obtain ⟨c1,c2,c3,c4⟩:=zG hv;have e2:cJ M=((cJ M).1,0):=by rw [<-c2]
  generalize (cJ M).1=C at *;rw [e2] at cO;have k1:=uw (tb.ok okg) okg.wf sm mg.row;rw [e2] at k1;refine ⟨_,mg.all,k1.mono ?_⟩;rintro _ g1 ⟨a4,n4,c4,ps4,rfl,e4,om4,o1⟩;obtain ⟨u4,s4,p4,b4,_⟩:=oA e4 om4 o1;refine ⟨_,_,rfl,_,qY,u4,s4,?_⟩;have x2:=o1.trans p4;have ok2:=okg.trans x2;have ri2:=ri.ext x2;generalize u4.app (g1.push jp)=g2 at *;have k2:=uw (tb.ok ok2) ok2.wf sO ri2.own.st;rw [cO] at k2;refine ⟨_,ri2.all,k2.mono ?_⟩;rintro _ g3 ⟨a5,n5,c5,ps5,rfl,e5,om5,o3⟩;obtain ⟨u5,s5,p5,b5,_⟩:=oA e5 om5 o3;refine ⟨_,_,rfl,_,qY,u5,s5,?_⟩;have x4:=o3.trans p5;have ok4:=ok2.trans x4;have b4X:=b4.ok x4;generalize u5.app (g3.push jp)=g4 at *;have sC:Small C:=by
   have:=wj hv sm;rwa [e2] at this
  refine ae (fun _=>ae (fun _=> ?_) (fun q=>by simp at q)) (fun q=>by simp at q);refine ⟨_,b4X.all,_,b5.all,(yh ok4.wf b4X.row b5.row (Nat.le_trans sC.sts (by decide)) (fun s hs=>Nat.le_trans (sC.arcs s hs) (by decide))).mono ?_⟩;rintro _ g5 ⟨rfl,o5⟩;have ok5:=ok4.trans o5;rw [jf rfl];refine ⟨_,rfl,ae (fun _=> ?_) (fun q=>by cases q)⟩;refine (xy (tb.ok ok5) ok5.wf).mono ?_;rintro _ g6 ⟨rfl,o6⟩;exact ⟨_,rfl,hQ _ (ok5.trans o6)⟩
end
theorem J9 {n:Nat}(hn:n<=300)(h0:0 < n)(d:Int): ∃ b:Nat,b < n/\ ∃ n1:Int,ak SS.P .rem 3 (.int .i64 d) (iA n)=some (.int .i64 n1)/\ak SS.P .rem 3 (.int .i64 (wrap .i64 (n1+(n:Int)))) (iA n)=some (iA b):=by
 have hnz:(n:Int)≠0:=by omega
 have h1:d.tmod (n:Int) < (n:Int):=Int.tmod_lt_of_pos d (by omega);have h2: -(n:Int) < d.tmod (n:Int):=by
  have h:=Int.tmod_lt_of_pos (-d) (b:=(n:Int)) (by omega);rw [Int.neg_tmod] at h;omega
 have h3:=Int.emod_nonneg (d.tmod (n:Int)+(n:Int)) hnz;have h4:=Int.emod_lt_of_pos (d.tmod (n:Int)+(n:Int)) (b:=(n:Int)) (by omega);refine ⟨((d.tmod (n:Int)+(n:Int)) % (n:Int)).toNat,by omega,_,C0 _ _ _ _ _ hnz,?_⟩;rw [aq (by omega) (by omega),cP (by omega) h0];congr 2;omega
theorem Ke {h:Heap}(tb:Tab h)(w:Wf h){M:Mach}(bd:Nm M)(d:Int){a:Option Addr}{n c:Nat}(r:StRow h (.slice a n c) M.states):FW SS 5 [.agg ⟨aQ M a n c⟩,.int .i64 d] h (fun v h'=>v = .bool true/\Ok h h'):=by
 obtain ⟨mb,ok⟩:=ef w r;refine JM (aQ M a n c) d h _ ⟨_,gi M a n c,_,mb.all,(Gx ok.wf bd mb.row).mono ?_⟩;generalize h.push (Bm M a n c)=g at *;rintro _ g2 ⟨bl,rfl,hsm,o2⟩;have ok2:=ok.trans o2;have mb2:=mb.ok o2;have aw: ∀ {g:Heap},Ok h g->FW SS 9 [] g fun v h'=>yB v fun b=>(Value.bool b = .bool true/\Ok h h'):=fun o=>(xy (tb.ok o) o.wf).mono (by
  rintro _ g3 ⟨rfl,o3⟩;exact ⟨_,rfl,rfl,o.trans o3⟩)
 refine ⟨_,rfl,ae (fun _=>aw ok2) (fun q=> ?_)⟩;have sm:=hsm q;refine ⟨_,mb2.all,(CM (tb.ok ok2) ok2.wf sm mb2.row).mono ?_⟩;rintro _ g3 ⟨rfl,o3⟩;have ok3:=ok2.trans o3;have mb3:=mb2.ok o3;refine ⟨_,rfl,ae (fun _=>aw ok3) (fun hd=> ?_)⟩;have hd:tP M=true:=by simpa using hd
 have hv:=(ID hd).1;have gd:=bC hv;have hnl:n=M.states.length:=mb.len;subst hnl;have hn:=sm.sts;have h0:=gd.start0;have h1:=gd.start1;obtain ⟨S,hS⟩: ∃ S:Nat,M.start=(S:Int):=⟨M.start.toNat,by omega⟩
 have hSn:S < M.states.length:=by omega
 have hSt:M.start.toNat=S:=by omega
 obtain ⟨b,hb,n1,e1,e2⟩:=J9 hn (by omega) d;have oR:=(Ok.refl ok3.wf).room 17;have mR:=mb3.ok oR;have lS:=mR.l1;rw [hS] at lS;obtain ⟨o4,k13,k15⟩:=wq ok3.wf (n:=17) (i:=13) (j:=15) (by omega) (by omega) (by omega) (.cells ((List.replicate M.states.length zst).map fg).flatten 37 2 true) jp;refine ⟨_,bA _,_,_,_,mb3.l3,_,e1,_,e2,_,gJ _,_,mR.l0,_,gx _,_,lS,_,zJ hSn,_,td hn hb hSn,_,jM _,_,mR.l2,_,_,_,LX _ (by omega),_,G3 _ _ _ _ _ _,_,qY,?_⟩;dsimp only;have hlt3:g3.next+15 < (ax (Go.Ab.room g3 17) g3.next [(15,jp),(13,.cells ((List.replicate M.states.length zst).map fg).flatten 37 2 true)]).next:=o4.wf _ _ k15;generalize ax (Go.Ab.room g3 17) g3.next [(15,jp),(13,.cells ((List.replicate M.states.length zst).map fg).flatten 37 2 true)]=S2 at *;have pa:=cL (t:=24) gK (cs0:=[.int .i64 0,.int .i64 0,aa [],.slice none 0 0]) rfl k15 (cs:=aQ ⟨M.kind,((ff M.states.length b S:Nat):Int),M.lead,[]⟩ (some ⟨g3.next+13,0,none⟩) M.states.length M.states.length) rfl rfl;obtain ⟨o5,k15'⟩:=dG (cs:=aQ ⟨M.kind,((ff M.states.length b S:Nat):Int),M.lead,[]⟩ (some ⟨g3.next+13,0,none⟩) M.states.length M.states.length) ok3.wf o4 k15 (by omega);refine ⟨_,pa,?_⟩;have k13':((Upd.set (g3.next+15) (.cells (aQ ⟨M.kind,((ff M.states.length b S:Nat):Int),M.lead,[]⟩ (some ⟨g3.next+13,0,none⟩) M.states.length M.states.length) 24 0 true)).app S2).get (g3.next+13)=some (.cells ((List.replicate M.states.length zst).map fg).flatten 37 2 true):=by
  show (S2.set (g3.next+15) _).get (g3.next+13)=_;rw [Heap.get_set,if_neg (by omega)]; exact k13
 generalize (Upd.set (g3.next+15) (.cells (aQ ⟨M.kind,((ff M.states.length b S:Nat):Int),M.lead,[]⟩ (some ⟨g3.next+13,0,none⟩) M.states.length M.states.length) 24 0 true)).app S2=g4 at *;have ri:RenI g3 (g3.next+15) (g3.next+13) M.states.length ⟨M.kind,((ff M.states.length b M.start.toNat:Nat):Int),M.lead,[]⟩ (List.replicate M.states.length zst) g4:=⟨OwnM.made k13' (by omega) (by omega),o5,by rw [hSt]; exact k15',fun i p hp j hj=>(by
  rw [List.getElem?_replicate] at hp;split at hp
  ·obtain rfl:=oI hp; cases hj
  ·cases hp),by omega⟩
 exact Ed (tb.ok ok3) ok3.wf hd sm mb3 hb (List.length_replicate ..) ri (aQ M a M.states.length c) d fun h' o=>⟨rfl,ok3.trans o⟩
end Go.Proofs.YtoabjjimjldcfaaGreatDoor
end
section
namespace Go.Ab
open Go Go.RowKit Go.WideShapes Go.ChangeShapes
section
section
variable {H:Type} {enc:TypeId×Value->H} {P:Program}
theorem GG {f:Func}{s:ChangeSpec}{apart fresh handsOn again:Bool}{W W':World}{args:Array Value}{v:Value}{ds:List (DataW H)}{places:List MemPlace}
  (hvars:s.vars=[]) (hW:DataW.Whole enc P f.params.toList s.vars apart W args.toList ds [] places) (hb:Below W.heap.size W W')
  (hsame:(s.fn H (ds++[])).args=ds) (hnov:(s.fn H (ds++[])).vars=[])
  (hres: ∀ (b:Nat)(sp:Nat->Bool)(hd:Bool),DataW.TrodAll enc P W' b sp hd f.resultTypes.toList (v.resultList f.resultTypes.size) (s.fn H (ds++[])).results [])
  (hok: ∀ (j:Nat)(t:TypeId)(r:Value),f.resultTypes[j]?=some t->(v.resultList f.resultTypes.size)[j]?=some r->Value.okWide P W' .any 0 t r)
  (hargs: ∀ sp:Nat->Bool,(∀ p∈places,sp p.block=true)->DataW.TrodAll enc P W' 0 sp true f.params.toList args.toList ds places):s.post enc P f apart fresh handsOn again W args v W':=by
 have hin: ∀ p∈places,p.block < W.heap.size:=fun p hp=>hW.lt p hp;have hmine: ∀ p∈places,(fun b=>decide (b < W.heap.size)) p.block=true:=fun p hp=>decide_eq_true (hin p hp);have hv0: ∀ sp:Nat->Bool,DataW.TrodVars enc P W' sp s.vars (s.fn H (ds++[])).vars []:=fun sp=>by
  rw [hvars,hnov]; rfl
 have hfr:=World.keptBut_mono (may':=fun p=>p∈places/\(p∈([]:List MemPlace)\/p∈places\/p∈([]:List MemPlace))) (fun p hp=>⟨hp,.inr (.inl hp)⟩) (hb.frame (· ∈places));obtain ⟨_,_,_,_,_,hz,hn⟩:=id hW;have hargs': ∀ sp:Nat->Bool,(∀ p∈places,sp p.block=true)->DataW.TrodAll enc P W' 0 sp true f.params.toList args.toList (s.fn H (ds++[])).args places:=fun sp h=>by rw [hsame]; exact hargs sp h
 refine ⟨ds,[],places,[],places,[],hW,hres _ _ _,hargs' _ hmine,hv0 _,hfr,fun _=>⟨hok,_,_,([]++places)++[],⟨[]++places,[],trodAll_append (hargs' _ fun _ _=>rfl) (hres _ _ _),hv0 _,rfl,?_,?_⟩,?_⟩⟩
 ·intro b off hp;have hp:MemPlace.cell b off∈places:=by simpa using hp
  rw [hb.frozen (hin _ hp)];exact hz b off hp
 ·intro ha;simpa using hn ha
 ·intro p hp _;simpa using hp
end
end
end Go.Ab
end
section
namespace Go.Proofs.YtoabjjimjldcfaaGreatDoor
open Go Go.Ab Go.ChangeShapes Go.WideShapes Go.ChangeAt Go.RowKit
theorem qh:laidOutB Tryz.prog=true:=by kernel_rfl
set_option maxRecDepth 100000 in
theorem wy (os:Os)(started:os.Started)(H:Type)(enc:TypeId×Value->H):
  ReturnsInHanded {} Tryz.checked os 5 .any (fun w args=>(Rows.machineRenumberedSpec.pre enc Tryz.prog Tryz.f5 [] false w args/\laidMetH Tryz.prog fX w)/\sizedMet enc Tryz.prog Tryz.f5 (OpenSpec.ofChange Rows.machineRenumberedSpec) false w args)
   (Rows.machineRenumberedSpec.post enc Tryz.prog Tryz.f5 false true false false):=by
 refine returnsInHanded_of_change_and (C:=Tryz.checked) (X:=fun w _=>laidMetH Tryz.prog fX w) (fun _ _ _ hh h=>h.of_heap hh) H9 started (by kernel_rfl) Tryz.func5
  (ChangeSpec.witness_at (enc:=enc) (C:=Tryz.checked) (os:=os) (X:=fun w _=>laidMetH Tryz.prog fX w) false (uZ os) #[.agg #[.int .i64 0,.int .i64 0,.string ⟨#[]⟩,.slice none 0 0],.int .i64 0] 8 rfl (by kernel_rfl) (by kernel_rfl) (by kernel_rfl) (by kernel_rfl) (by kernel_rfl) (tN os _)) ?_
 intro W base args ds gs before hval0 hW _ hwt hL _;have hval: ∀ (j:Nat) t v,Tryz.f5.params[j]?=some t->args[j]?=some v->Value.okWide Tryz.prog W .any base t v:=hval0;have hW':=hW;obtain ⟨p,q,hA0,hV,rfl,hfz,hnd⟩:=hW;have hA:DataW.TrodAll enc Tryz.prog W 0 (fun _=>true) true Tryz.f5.params.toList args.toList ds p:=hA0;rw [Tryz.params5] at hA hval;obtain ⟨v0,v1,d0,d1,p0,p1,rfl,rfl,rfl,h0,h1⟩:=trodAll_two hA;obtain ⟨rfl,rfl⟩:=trodVars_none hV;simp only [List.append_nil] at hW';obtain ⟨kind,rfl⟩:=okWide_int Tryz.underlying3 (hval 1 3 v1 rfl rfl);have hw:(d0.weights Tryz.prog 24).all (· <=reachBytes)=true:=by
  have h1:(DataW.weightsEach Tryz.prog (Tryz.f5.params.toList++Rows.machineRenumberedSpec.plain.varTypes Tryz.prog) ([d0,d1]++[])).all (· <=reachBytes)=true:=hwt;rw [Tryz.params5] at h1;have h2:(d0.weights Tryz.prog 24++DataW.weightsEach Tryz.prog ([3]++Rows.machineRenumberedSpec.plain.varTypes Tryz.prog) [d1]).all (· <=reachBytes)=true:=h1;rw [List.all_append,Bool.and_eq_true] at h2;exact h2.1
 refine (Bt Tryz.func5 (by kernel_rfl) (by unfold YB; decide) (extra:=[.int .i64 kind]) rfl (fun tb w _ bd _ _ _ r=>Ke tb w bd kind r) hL (hval 0 24 v0 rfl rfl) h0 hw rfl).mono fun e W' ⟨he,hb⟩=> ?_;subst he;have hlt: ∀ x∈p0++p1,x.block < W.heap.size:=fun x hx=>hW'.lt x hx;have h0':=Below.trod qh (by kernel_rfl) (dT (by kernel_rfl)) h0 hb (fun x hx=>hlt x (List.mem_append_left _ hx));exact ⟨_,rfl,GG (ds:=[d0,d1]) (places:=p0++p1) rfl hW' hb rfl rfl (fun _ _ _=>(trodAll_cons_mk (shut_bool Tryz.underlying4 _) trodAll_mk0))
  (ok_one (by kernel_rfl) rfl (okWide_bool_mk Tryz.underlying4 _)) (fun sp hsp=>by
   rw [Tryz.params5];exact trodAll_mk2 (WideElems.Trod_stays qh (by kernel_rfl) (dT (by kernel_rfl)) h0 (fun x hx=>hb.same (hlt x (List.mem_append_left _ hx))) (fun x hx=>hsp x (List.mem_append_left _ hx)))
    (WideElems.Trod_stays qh (by kernel_rfl) (dT (by kernel_rfl)) h1 (fun x hx=>hb.same (hlt x (List.mem_append_right _ hx))) (fun x hx=>hsp x (List.mem_append_right _ hx))))⟩
theorem An:Rows.MachineRenumberedSaid:=
 OpenClaim.holds_of_wide 5 Tryz.f5 rfl rfl rfl rfl rfl rfl rfl ⟨rfl,rfl,rfl,rfl,rfl⟩ rfl rfl rfl rfl rfl (by kernel_rfl) Tryz.func5 (by kernel_rfl)
  (dT (by kernel_rfl)) (by unfold Func.isWrapper; first | (rw [if_pos (by decide +kernel)]; kernel_rfl) | (rw [if_neg (by decide +kernel)]; exact ⟨rfl,rfl⟩))
  (fun os started H enc _=>wy os started H enc)
theorem machineRenumbered_holds:Rows.MachineRenumberedCardSaid:=
 Claim7.holds_tied_plain_at .later [] [.data,.data,.data] true (true,"ea4656df63b73b94884b59f7838f0dfac73e8ec20c036833f77c270eb3448717") true
  An (fun _ h=>by cases h) (by kernel_rfl) (fun _ h=>by cases h) machineRenumbered_row_tie rfl ⟨rfl,rfl⟩ (by kernel_rfl) rfl
  (fun f fn hf hfn=>by
   obtain rfl:f=5:=oI ((show Tryz.prog.funcNamed "abugida/abugidalaw06.MachineRenumbered" = some 5 by kernel_rfl).symm.trans hf) |>.symm
   obtain rfl:fn=Tryz.f5:=(oI (Tryz.func5.symm.trans hfn)).symm;exact ⟨by kernel_rfl,fun j t ht=>by
    rw [Tryz.params5] at ht;have hm:t∈[24,3]:=by simpa using Array.mem_of_getElem? ht
    have hall:([24,3].all fun u=> !Tryz.prog.wantsStandIn u)=true:=by kernel_rfl
    exact (show Tryz.prog.wantsStandIn t=false by simpa using List.all_eq_true.1 hall t hm)⟩)
  (by kernel_rfl)
end Go.Proofs.YtoabjjimjldcfaaGreatDoor
end
