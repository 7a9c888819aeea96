/- Whatever machine is handed to it, in whatever memory, on every schedule, MachineTrimmed returns true. No condition. -/
import Derived.Test.YtoabjjimjldcfaaGreatDoorPart5
import Derived.Test.YtoabjjimjldcfaaGreatDoorPart4
import Derived.Test.YtoabjjimjldcfaaGreatDoorPart2
import Derived.Below
import Derived.ChangeSame
import Derived.Test.YtoabjjimjldcfaaGreatDoorCards
import Derived.Test.YtoabjjimjldcfaaGreatDoorTie
import Derived.WalkKit
import Derived.OpenShut
import Derived.Carry
import Derived.SevenTiedAt
open List (getElem?_map map_set)
open Nat (le_trans zero_le)
open Go.IntKind (wrap)
section
set_option linter.unusedVariables false
set_option maxRecDepth 100000
namespace Go.Proofs.YtoabjjimjldcfaaGreatDoor
open Go Go.Ab
section
structure Fr (T:Mach)(l:List MSt):Prop where
 len:l.length=T.states.length
 st: ∀ (i:Nat)(s:MSt),l[i]?=some s-> ∃ s0,T.states[i]?=some s0/\s.arcs=s0.arcs/\(s.f=s0.f\/s.f=[]\/s.f=T.lead)
theorem Fr.self (T:Mach):Fr T T.states:=⟨rfl,fun i s h=>⟨s,h,rfl,.inl rfl⟩⟩
section
variable {T:Mach} {l:List MSt}
theorem Fr.set (f:Fr T l){i:Nat}{p:MSt}(hp:l[i]?=some p){b:List UInt8}(hb:b=[]\/b=T.lead):Fr T (l.set i ⟨b,p.arcs⟩):=by
 refine ⟨by rw [List.length_set]; exact f.len,fun j s hs=> ?_⟩;rw [List.getElem?_set] at hs;split at hs
 ·next e=>
  subst e;split at hs
  ·obtain rfl:=oI hs;obtain ⟨s0,h0,h1,_⟩:=f.st i p hp;exact ⟨s0,h0,h1,.inr hb⟩
  ·cases hs
 ·exact f.st j s hs
theorem Fr.of (f:Fr T l){s:MSt}(hs:s∈l): ∃ s0∈T.states,s.arcs=s0.arcs/\(s.f=s0.f\/s.f=[]\/s.f=T.lead):=by
 obtain ⟨i,hi⟩:=List.getElem?_of_mem hs;obtain ⟨s0,h0,h1⟩:=f.st i s hi;exact ⟨s0,List.mem_of_getElem? h0,h1⟩
theorem Fr.at_ (f:Fr T l){i:Nat}{s0:MSt}(h:T.states[i]?=some s0): ∃ s,l[i]?=some s/\s.arcs=s0.arcs:=by
 have hi:=(List.getElem?_eq_some_iff.1 h).1;obtain ⟨s,hs⟩: ∃ s,l[i]?=some s:=⟨_,gE (by rw [f.len]; exact hi)⟩
 obtain ⟨s1,h1,h2,_⟩:=f.st i s hs;rw [h] at h1;obtain rfl:=oI h1;exact ⟨s,hs,h2⟩
theorem Fr.sum (f:Fr T l):eO l=eO T.states:=by
 unfold eO;congr 1;refine List.ext_getElem? fun i=> ?_;rw [getElem?_map,getElem?_map]
 cases h:T.states[i]? with
 | none=>rw [List.getElem?_eq_none (by rw [f.len]; exact List.getElem?_eq_none_iff.1 h)]
 | some s0=>
  obtain ⟨s,hs,e⟩:=f.at_ h;rw [hs];show some s.arcs.length=some s0.arcs.length;rw [e]
theorem Fr.small (f:Fr T l)(sm:Small T)(st:Int):Small ⟨T.kind,st,T.lead,l⟩:=by
 refine ⟨sm.lead,?_,fun s hs=> ?_,fun s hs=> ?_,fun s hs q hq=> ?_,?_⟩
 ·show l.length<=300;rw [f.len]; exact sm.sts
 ·obtain ⟨s0,h0,e1,e2⟩:=f.of hs;rcases e2 with e | e | e <;> rw [e]
  ·exact sm.fin s0 h0
  ·exact zero_le _
  ·exact sm.lead
 ·obtain ⟨s0,h0,e1,e2⟩:=f.of hs;rw [e1]; exact sm.arcs s0 h0
 ·obtain ⟨s0,h0,e1,e2⟩:=f.of hs;rw [e1] at hq;exact sm.w s0 h0 q hq
 ·show eO l<=2000;rw [f.sum]; exact sm.tot
theorem Ja (hv:aL T=true):T.lead≠[]:=fun e=>by
 have h:=(cj hv).2.2.2.1;rw [e] at h;unfold Num.weightOk at h;simp only [Bool.and_eq_true] at h;have h2:Num.isRat []=true:=h.1.2;exact absurd h2 (by decide +kernel)
theorem Fr.succ (f:Fr T l){x y:Nat}(h:bF T x y)(st:Int):bF ⟨T.kind,st,T.lead,l⟩ x y:=by
 obtain ⟨s,hs,hm⟩:=h;obtain ⟨s',h1,h2⟩:=f.at_ hs;refine ⟨s',h1,?_⟩;unfold nL at hm ⊢;rw [h2]; exact hm
theorem zx {M:Mach}(h:aL M=true->bI M M.start.toNat):iE M=false:=by
 unfold iE
 cases hv:aL M with
 | false=>rfl
 | true=>rw [@decide_eq_true _ (Classical.propDecidable _) (h hv)]; rfl
theorem Fr.only (f:Fr T l)(hv:aL T=true)(au:kF T){s:Nat}(hs:s < T.states.length){x:MSt}(hx:l[s]?=some x)(hf:x.f=T.lead):iE ⟨T.kind,T.start,T.lead,l⟩=false:=by
 refine zx fun _=>⟨.base rfl,?_⟩
 have h0:jO ⟨T.kind,T.start,T.lead,l⟩ s:=⟨x,hx,by rw [hf]; exact Ja hv⟩
 have key: ∀ {x:Nat},Num.Rch (bF T) (fun y=>y=T.start.toNat) x->Num.Rch (fun y x=>bF ⟨T.kind,T.start,T.lead,l⟩ x y) (jO ⟨T.kind,T.start,T.lead,l⟩) x->Num.Rch (fun y x=>bF ⟨T.kind,T.start,T.lead,l⟩ x y) (jO ⟨T.kind,T.start,T.lead,l⟩) T.start.toNat:=by
  intro x h1
  induction h1 with
  | @base x hx=>subst hx; exact fun h=>h
  | @step y x _ e ih=>exact fun h=>ih (.step h (f.succ e _))
 exact key (au s hs).1 (.base h0)
theorem MH (au:kF T){s:Nat}(hs:s < T.states.length):iE ⟨T.kind,(s:Int),T.lead,T.states⟩=false:=by
 refine zx fun _=>⟨.base rfl,?_⟩
 exact tz (fun _ _ h=>h) (fun _ h=>h) (au s hs).2
theorem qE {M:Mach}(hv:aL M=true)(sm:Small M):Small (bt M).1:=by
 rcases iI hv with ⟨T,h1,h2,h3,hu⟩ | ⟨h1,_⟩
 ·rw [jj hv hu]; exact vi sm (lV M)
 ·have hk:M.kind=1\/M.kind=2\/M.kind=3:=by have:=(cj hv).1; omega
  rw [h1];show Small (T0 M.kind);refine ⟨?_,(show 1<=300 by decide),fun s hs=> ?_,fun s hs=> ?_,fun s hs=> ?_,(show 0<=2000 by decide)⟩
  ·rcases hk with e | e | e <;> rw [e] <;> decide +kernel
  ·rw [List.mem_singleton.1 hs]; exact zero_le _
  ·rw [List.mem_singleton.1 hs]; exact zero_le _
  ·rw [List.mem_singleton.1 hs]; exact fun q hq=>by cases hq
theorem wH {M:Mach}(hv:aL M=true)(sm:Small M):Small (cF M).1:=by
 have h:=(ni hv).2;rw [fH h.1];exact AA (vi (qE hv sm) (i5 (cL h.2)))
end
end
noncomputable def dx:FD:=cD Tryz.f7 [([1,1,1,1,1,1,1,1,1,0,1,0,0],[3,15]),([1,1,1,1,1,1,1,1,1,0,1,0,0,1,0,0,1,0,1,0,0],[3,15,16,17,18])]
abbrev cH (kt:Nat)(s:Nat):LV:=[(pA kt),(iA s)]
abbrev gU (kt ka kb s:Nat)(q:Nat):LV:=[(pA kt),(iA s),(pA ka),(pA kb),(iA q)]
theorem Kq (mv:LV)(h:Heap)(Q:VH)(hx:xN (dU SS.P 24 (.agg ⟨mv⟩)) h fun B1 g2=>xA (ag SS.P 24 g2 (pA (h.next))) fun c3=>FW SS 8 [(.agg ⟨c3⟩)] g2 fun v4 h5=>yB v4 fun b6=>az b6 (FW SS 9 [] h5 fun v7 h8=>yB v7 fun b9=>Q (.bool b9) h8) (xA (ag SS.P 24 h5 (pA (h.next))) fun c10=>FW SS 10 [(.agg ⟨c10⟩)] h5 fun v11 h12=>yB v11 fun b13=>az (!b13) (FW SS 9 [] h12 fun v14 h15=>yB v14 fun b16=>Q (.bool b16) h15) (xA (ag SS.P 24 h12 (pA (h.next))) fun c17=>FW SS 23 [(.agg ⟨c17⟩)] h12 fun v18 h19=> ∃ cs20:LV,∃ n21:Int,v18=(.tuple ⟨[(.agg ⟨cs20⟩),(.int .i64 n21)]⟩)/\xN (aB SS.P 24) h19 fun B22 g23=>xU (ai SS.P 24 (pA (h19.next)) (.agg ⟨cs20⟩) g23) g23 fun u24 g25=>xA (ag SS.P 24 g25 (pA (h19.next))) fun c26=>FW SS 23 [(.agg ⟨c26⟩)] g25 fun v27 h28=> ∃ cs29:LV,∃ n30:Int,v27=(.tuple ⟨[(.agg ⟨cs29⟩),(.int .i64 n30)]⟩)/\xN (aB SS.P 24) h28 fun B31 g32=>xU (ai SS.P 24 (pA (h28.next)) (.agg ⟨cs29⟩) g32) g32 fun u33 g34=>xA (ag SS.P 24 g34 (pA (h.next))) fun c35=>FW SS 25 [(.agg ⟨c35⟩)] g34 fun v36 h37=> ∃ cs38:LV,∃ n39:Int,v36=(.tuple ⟨[(.agg ⟨cs38⟩),(.int .i64 n39)]⟩)/\xN (aB SS.P 24) h37 fun B40 g41=>xU (ai SS.P 24 (pA (h37.next)) (.agg ⟨cs38⟩) g41) g41 fun u42 g43=>xA (ag SS.P 24 g43 (pA (h37.next))) fun c44=>FW SS 25 [(.agg ⟨c44⟩)] g43 fun v45 h46=> ∃ cs47:LV,∃ n48:Int,v45=(.tuple ⟨[(.agg ⟨cs47⟩),(.int .i64 n48)]⟩)/\xN (aB SS.P 24) h46 fun B49 g50=>xU (ai SS.P 24 (pA (h46.next)) (.agg ⟨cs47⟩) g50) g50 fun u51 g52=>xA (ag SS.P 24 g52 (pA (h19.next))) fun c53=>FW SS 25 [(.agg ⟨c53⟩)] g52 fun v54 h55=> ∃ cs56:LV,∃ n57:Int,v54=(.tuple ⟨[(.agg ⟨cs56⟩),(.int .i64 n57)]⟩)/\xN (aB SS.P 24) h55 fun B58 g59=>xU (ai SS.P 24 (pA (h55.next)) (.agg ⟨cs56⟩) g59) g59 fun u60 g61=>az (((n21:Int) != 0)) (Q (.bool false) g61) (az (((n30:Int) != 0)) (Q (.bool false) g61) (az (((n39:Int) != 0)) (Q (.bool false) g61) (az (((n48:Int) != 0)) (Q (.bool false) g61) (az (((n57:Int) != 0)) (Q (.bool false) g61) (xA (ag SS.P 24 g61 (pA (h19.next))) fun c62=>FW SS 10 [(.agg ⟨c62⟩)] g61 fun v63 h64=>yB v63 fun b65=>az (!b65) (Q (.bool false) h64) (xA (ag SS.P 24 h64 (pA (h37.next))) fun c66=>FW SS 10 [(.agg ⟨c66⟩)] h64 fun v67 h68=>yB v67 fun b69=>az (!b69) (Q (.bool false) h68) (xA (ag SS.P 24 h68 (pA (h19.next))) fun c70=>xA (ag SS.P 24 h68 (pA (h28.next))) fun c71=>FW SS 30 [(.agg ⟨c70⟩),(.agg ⟨c71⟩)] h68 fun v72 h73=>yB v72 fun b74=>az (!b74) (Q (.bool false) h73) (xA (ag SS.P 24 h73 (pA (h37.next))) fun c75=>xA (ag SS.P 24 h73 (pA (h46.next))) fun c76=>FW SS 30 [(.agg ⟨c75⟩),(.agg ⟨c76⟩)] h73 fun v77 h78=>yB v77 fun b79=>az (!b79) (Q (.bool false) h78) (xA (ag SS.P 24 h78 (pA (h37.next))) fun c80=>xA (ag SS.P 24 h78 (pA (h55.next))) fun c81=>FW SS 30 [(.agg ⟨c80⟩),(.agg ⟨c81⟩)] h78 fun v82 h83=>yB v82 fun b84=>az (!b84) (Q (.bool false) h83) (xP (af SS.P 24 (pA (h37.next)) 3) fun p85=>xL (ag SS.P 22 h83 (.pointer (some p85))) fun a86 n87 c88=>xP (af SS.P 24 (pA (h19.next)) 3) fun p89=>xL (ag SS.P 22 h83 (.pointer (some p89))) fun a90 n91 c92=>az ((((n87:Int):Int) != (n91:Int))) (Q (.bool false) h83) (xA (ag SS.P 24 h83 (pA (h.next))) fun c93=>FW SS 18 [(.agg ⟨c93⟩)] h83 fun v94 h95=>yB v94 fun b96=>az b96 (xP (af SS.P 24 (pA (h.next)) 0) fun p97=>xI .i64 (ag SS.P 3 h95 (.pointer (some p97))) fun n98=>FW SS 27 [(.int .i64 n98)] h95 fun v99 h100=> ∃ cs101:LV,∃ n102:Int,v99=(.tuple ⟨[(.agg ⟨cs101⟩),(.int .i64 n102)]⟩)/\xN (aB SS.P 24) h100 fun B103 g104=>xU (ai SS.P 24 (pA (h100.next)) (.agg ⟨cs101⟩) g104) g104 fun u105 g106=>az (((n102:Int) == 0)) (xA (ag SS.P 24 g106 (pA (h19.next))) fun c107=>xA (ag SS.P 24 g106 (pA (h100.next))) fun c108=>FW SS 30 [(.agg ⟨c107⟩),(.agg ⟨c108⟩)] g106 fun v109 h110=>yB v109 fun b111=>az b111 (FW SS 9 [] h110 fun v112 h113=>yB v112 fun b114=>Q (.bool b114) h113) (Q (.bool false) h110)) (Q (.bool false) g106)) (LL SS dx [1,1,1,1,1,1,1,1,1,0,1,0,0] (cH (h19.next) 0) h95 (KK SS dx [1,1,1,1,1,1,1,1,1,0,1,0] [] (EE SS dx Q))))))))))))))))):FW SS 7 [(.agg ⟨mv⟩)] h Q:=cE dx Tryz.func7 (aj hx)
theorem qR (mv:LV)(kt:Nat)(Inv:Nat->Nat->Heap->Prop)(Q:VH)(step: ∀ (mz:Nat) (s:Nat) (zz:Nat->Value) (h:Heap),Inv mz s h->xP (af SS.P 24 (pA kt) 3) fun p115=>xL (ag SS.P 22 h (.pointer (some p115))) fun a116 n117 c118=>az (decide (((s:Int):Int) < (n117:Int))) (xA (ag SS.P 24 (room h 8) (pA kt)) fun c119=>FW SS 32 [(.agg ⟨c119⟩)] (room h 8) fun v120 h121=>yA v120 fun c122=>xA (ag SS.P 24 h121 (pA kt)) fun c123=>FW SS 32 [(.agg ⟨c123⟩)] h121 fun v124 h125=>yA v124 fun c126=>zN (aB SS.P 24) fun B127=>zN (aB SS.P 24) fun B128=>xU (ai SS.P 24 (pA (h.next+4)) (.agg ⟨c122⟩) (ay h125 h.next [(5,B128),(4,B127)])) (ay h125 h.next [(5,B128),(4,B127)]) fun u129 g130=>xU (ai SS.P 24 (pA (h.next+5)) (.agg ⟨c126⟩) g130) g130 fun u131 g132=>(ag SS.P 24 (room h 8) (pA kt)=some (.agg ⟨c123⟩)/\d7 4 (.agg ⟨c123⟩) (.agg ⟨c123⟩)=true)/\LL SS dx [1,1,1,1,1,1,1,1,1,0,1,0,0,1,0,0,1,0,1,0,0] (gU kt (h.next+4) (h.next+5) s 0) g132 (KK SS dx [1,0,0,1,0,1,0] [1,1,1,1,1,1,1,1,1,0,1,0,0] (RR dx [1,1,1,1,1,1,1,1,1,0,1,0,0] (ga (cH kt) Inv) mz (KK SS dx [1,1,1,1,1,1,1,1,1,0,1,0] [] (EE SS dx Q))))) (FW SS 9 [] h fun v133 h134=>yB v133 fun b135=>Q (.bool b135) h134))(mz:Nat){s:Nat}{h:Heap}(hi:Inv mz s h):LL SS dx [1,1,1,1,1,1,1,1,1,0,1,0,0] (cH kt s) h (KK SS dx [1,1,1,1,1,1,1,1,1,0,1,0] [] (EE SS dx Q)):=
 cP (cH kt) Inv (fun mz s zz h hi=>aj (step mz s zz h hi)) mz hi
theorem q6 (mv:LV)(kt ka kb:Nat)(Inv:Nat->Nat->Heap->Prop)(mz s:Nat)(Inv2:Nat->Nat->Heap->Prop)(Q:VH)(step: ∀ (mz2:Nat) (q:Nat) (zz:Nat->Value) (h:Heap),Inv2 mz2 q h->xP (af SS.P 24 (pA ka) 3) fun p136=>xL (ag SS.P 22 h (.pointer (some p136))) fun a137 n138 c139=>az (decide (((q:Int):Int) < (n138:Int))) (xP (af SS.P 24 (pA ka) 3) fun p140=>xL (ag SS.P 22 h (.pointer (some p140))) fun a141 n142 c143=>xP (ah SS.P 22 (.slice a141 n142 c143) (iA q)) fun p144=>xP (af SS.P 37 (.pointer (some p144)) 0) fun p145=>xU (ai SS.P 9 (.pointer (some p145)) (aa []) h) h fun u146 g147=>aF (ga (gU kt ka kb s) Inv2) mz2 [(pA kt),(iA s),(pA ka),(pA kb),(.int .i64 (wrap .i64 ((q:Int)+1)))] g147) (xP (af SS.P 24 (pA ka) 3) fun p148=>xL (ag SS.P 22 h (.pointer (some p148))) fun a149 n150 c151=>xP (af SS.P 24 (pA kt) 2) fun p152=>xS (ag SS.P 9 h (.pointer (some p152))) fun l153=>xP (ah SS.P 22 (.slice a149 n150 c151) (iA s)) fun p154=>xP (af SS.P 37 (.pointer (some p154)) 0) fun p155=>xU (ai SS.P 9 (.pointer (some p155)) (aa l153) h) h fun u156 g157=>xP (af SS.P 24 (pA kb) 1) fun p158=>xU (ai SS.P 3 (.pointer (some p158)) (iA s) g157) g157 fun u159 g160=>az (decide (((s:Int):Int) < 40)) (xA (ag SS.P 24 g160 (pA ka)) fun c161=>FW SS 18 [(.agg ⟨c161⟩)] g160 fun v162 h163=>yB v162 fun b164=>az b164 (Q (.bool false) h163) (xA (ag SS.P 24 h163 (pA kb)) fun c165=>FW SS 18 [(.agg ⟨c165⟩)] h163 fun v166 h167=>yB v166 fun b168=>az b168 (Q (.bool false) h167) (aF (ga (cH kt) Inv) mz [(pA kt),(.int .i64 (wrap .i64 ((s:Int)+1)))] h167))) (aF (ga (cH kt) Inv) mz [(pA kt),(.int .i64 (wrap .i64 ((s:Int)+1)))] g160)))(mz2:Nat){q:Nat}{h:Heap}(hi:Inv2 mz2 q h):LL SS dx [1,1,1,1,1,1,1,1,1,0,1,0,0,1,0,0,1,0,1,0,0] (gU kt ka kb s q) h (KK SS dx [1,0,0,1,0,1,0] [1,1,1,1,1,1,1,1,1,0,1,0,0] (RR dx [1,1,1,1,1,1,1,1,1,0,1,0,0] (ga (cH kt) Inv) mz (KK SS dx [1,1,1,1,1,1,1,1,1,0,1,0] [] (EE SS dx Q)))):=
 cP (gU kt ka kb s) Inv2 (fun mz2 q zz h hi=>aj (step mz2 q zz h hi)) mz2 hi
section
theorem ol {h0 h:Heap}(o:Ok h0 h){k:Nat}(hn:h0.get k=none)(hk:k < h.next)(B:Blk):Ok h0 (h.set k B):=by
 refine ⟨fun j C hj=> ?_,fun j C hj=> ?_,o.nx⟩
 ·rw [Heap.get_set] at hj;split at hj
  ·next e=>rw [e]; exact hk
  ·exact o.wf _ _ hj
 ·rw [Heap.get_set];split
  ·next e=>rw [e,hn] at hj; cases hj
  ·exact o.ext _ _ hj
theorem Dr {R g:Heap}(o:Ok R g){ka kb:Nat}(na:R.get ka=none)(nb:R.get kb=none)(ha:ka < R.next)(hb:kb < R.next)(ne:ka≠kb){A B:Mach}{a b:Option Addr}{n c m d:Nat}:
  ∃ u1 u2:Upd,ai SS.P 24 (pA ka) (.agg ⟨aA A a n c⟩) ((g.set ka dH).set kb dH)=some (undef,u1)/\ai SS.P 24 (pA kb) (.agg ⟨aA B b m d⟩) (u1.app ((g.set ka dH).set kb dH))=some (undef,u2)/\
   Ok R (u2.app (u1.app ((g.set ka dH).set kb dH)))/\(u2.app (u1.app ((g.set ka dH).set kb dH))).get ka=some (Bm A a n c)/\(u2.app (u1.app ((g.set ka dH).set kb dH))).get kb=some (Bm B b m d)/\ ∀ j C,g.get j=some C->R.next<=j->(u2.app (u1.app ((g.set ka dH).set kb dH))).get j=some C:=by
 have hx:ka < g.next/\kb < g.next:=by have:=o.nx; omega
 have o1:=ol o na hx.1 dH;have o2:=ol o1 nb hx.2 dH;have k1:((g.set ka dH).set kb dH).get ka=some dH:=by rw [Heap.get_set,if_neg ne,Heap.get_set,if_pos rfl]
 have s1:=cC (t:=24) fg (cs0:=[.int .i64 0,.int .i64 0,aa [],.slice none 0 0]) rfl k1 (cs:=aA A a n c) rfl (dQ ..);have o3:Ok R ((Upd.set ka (.cells (aA A a n c) 24 0 true)).app ((g.set ka dH).set kb dH)):=ol o2 na hx.1 _;have k2:((Upd.set ka (.cells (aA A a n c) 24 0 true)).app ((g.set ka dH).set kb dH)).get kb=some dH:=by
  show (((g.set ka dH).set kb dH).set ka _).get kb=_;rw [Heap.get_set,if_neg (fun e=>ne e.symm),Heap.get_set,if_pos rfl]
 have s2:=cC (t:=24) fg (cs0:=[.int .i64 0,.int .i64 0,aa [],.slice none 0 0]) rfl k2 (cs:=aA B b m d) rfl (dQ ..);refine ⟨_,_,s1,s2,ol o3 nb hx.2 _,?_,?_,fun j C hj hl=> ?_⟩
 ·show ((((g.set ka dH).set kb dH).set ka _).set kb _).get ka=_;rw [Heap.get_set,if_neg ne,Heap.get_set,if_pos rfl]; rfl
 ·show ((((g.set ka dH).set kb dH).set ka _).set kb _).get kb=_;rw [Heap.get_set,if_pos rfl]; rfl
 ·show ((((g.set ka dH).set kb dH).set ka _).set kb _).get j=_;rw [Heap.get_set,if_neg (by omega),Heap.get_set,if_neg (by omega),Heap.get_set,if_neg (by omega),Heap.get_set,if_neg (by omega)]; exact hj
structure Two (R h1:Heap)(A B:Mach)(ka kb:Nat)(a:Option Addr)(n c:Nat)(b:Option Addr)(m d:Nat)(ps:List (MSt×Value))(g:Heap):Prop where
 ok:Ok R g
 ba:g.get ka=some (Bm A a n c)
 bb:g.get kb=some (Bm B b m d)
 oa:OwnM R g (.slice a n c) ps
 ob: ∃ qs,qs.map (·.1)=B.states/\OwnM h1 g (.slice b m d) qs
 lt: ∀ k,aM (.slice a n c)=some k->k < h1.next
section
variable {R h1 g:Heap} {A B:Mach} {ka kb:Nat} {a:Option Addr} {n c:Nat} {b:Option Addr} {m d:Nat} {ps:List (MSt×Value)}
theorem Two.len (t:Two R h1 A B ka kb a n c b m d ps g):n=ps.length:=by
 have:=t.oa.st.len;rwa [lM] at this
theorem Two.l3 (t:Two R h1 A B ka kb a n c b m d ps g):ag SS.P 22 g (.pointer (some ⟨ka,3,none⟩))=some (.slice a n c):=cM qS Bl t.ba (by simp [aA])
theorem Two.setF (w:Wf R)(w1:Wf h1)(ha:ka < R.next)(hb:kb < R.next)(t:Two R h1 A B ka kb a n c b m d ps g){i:Nat}{p:MSt×Value}(hp:ps[i]?=some p)(f:List UInt8):
  ∃ (k o:Nat)(u:Upd),ah SS.P 22 (.slice a n c) (iA i)=some (.pointer (some ⟨k,o,none⟩))/\ai SS.P 9 (.pointer (some ⟨k,o+0,none⟩)) (aa f) g=some (undef,u)/\Two R h1 A B ka kb a n c b m d (ps.set i (⟨f,p.1.arcs⟩,p.2)) (u.app g):=by
 have hi:=(List.getElem?_eq_some_iff.1 hp).1;obtain ⟨k,off,c',e,hk⟩:=t.oa.row.blk (by rw [lM]; omega);injection e with e1 e2 e3
 subst e1;have i1:=(t.oa.at_ hp).1;obtain ⟨u,s1,s2,s3,s4,s5⟩:=t.oa.setF w t.ok hp f;have hlt:=t.lt k rfl;refine ⟨k,off+i*2,u,i1,s1,s3,s4 _ _ t.ba (by omega),s4 _ _ t.bb (by omega),s2,?_,t.lt⟩;obtain ⟨qs,q1,q2⟩:=t.ob;exact ⟨qs,q1,q2.low (Ok.refl w1) fun j C hj hl=>s4 j C hj (by omega)⟩
theorem Two.setS (w:Wf R)(w1:Wf h1)(nb:R.get kb=none)(ha:ka < R.next)(hb:kb < R.next)(ne:ka≠kb)(hl:R.next<=h1.next)(t:Two R h1 A B ka kb a n c b m d ps g)(s:Nat):
  ∃ u:Upd,ai SS.P 3 (.pointer (some ⟨kb,1,none⟩)) (iA s) g=some (undef,u)/\Two R h1 A ⟨B.kind,(s:Int),B.lead,B.states⟩ ka kb a n c b m d ps (u.app g):=by
 have st:=j6 (t:=3) Hz t.bb (i:=1) (by simp [aA]) (v:=iA s) rfl rfl;have kp: ∀ j C,g.get j=some C->j≠kb->((Upd.set kb (.cells ((aA B b m d).set 1 (iA s)) 24 0 true)).app g).get j=some C:=fun j C hj hne=>by
  show (g.set kb _).get j=_;rw [Heap.get_set,if_neg hne]; exact hj
 refine ⟨_,st,ol t.ok nb (t.ok.wf _ _ t.bb) _,kp _ _ t.ba ne,?_,t.oa.low (Ok.refl w) fun j C hj hl2=>kp j C hj (by omega),?_,t.lt⟩
 ·show (g.set kb _).get kb=_;rw [Heap.get_set,if_pos rfl]; rfl
 ·obtain ⟨qs,q1,q2⟩:=t.ob;exact ⟨qs,q1,q2.low (Ok.refl w1) fun j C hj hl2=>kp j C hj (by omega)⟩
end
def dI (g0:Heap)(T:Mach)(mz s:Nat)(g:Heap):Prop:=s<=T.states.length/\mz=T.states.length - s/\Ok g0 g
def OW (R h1:Heap)(T:Mach)(ka kb:Nat)(a:Option Addr)(n c:Nat)(b:Option Addr)(m d:Nat)(mz q:Nat)(g:Heap):Prop:=q<=n/\mz=n - q/\ ∃ ps,Fr T (ps.map (·.1))/\Two R h1 T T ka kb a n c b m d ps g
theorem Dx {g0:Heap}(tb:Tab g0)(w0:Wf g0){T:Mach}(hv:aL T=true)(au:kF T)(sm:Small T){kt:Nat}{at_:Option Addr}{nt ct:Nat}(mt:MB g0 kt T at_ nt ct)(mv:List Value){Q:VH}(hQ: ∀ h',Ok g0 h'->Q (.bool true) h'):
  LL SS dx [1,1,1,1,1,1,1,1,1,0,1,0,0] (cH kt 0) g0 (KK SS dx [1,1,1,1,1,1,1,1,1,0,1,0] [] (EE SS dx Q)):=by
 refine qR mv kt (dI g0 T) _ (fun mz s=> ?_) T.states.length (s:=0) ⟨zero_le _,rfl,Ok.refl w0⟩;intros; rename_i g hin;obtain ⟨f1,rfl,ok⟩:=hin;have mg:=mt.ok ok;have hnt:nt=T.states.length:=mg.len;refine ⟨_,bn _,_,_,_,mg.l3,ae (fun q1=> ?_) (fun q1=> ?_)⟩
 ·have q1:=dT q1;have hs:s < T.states.length:=by omega
  have oR:=(Ok.refl ok.wf).room 8;have wR:=oR.wf;have mR:=mg.ok oR;have h3:T.states.length<=100000:=le_trans sm.sts (by decide);have h4: ∀ s∈T.states,s.arcs.length<=100000:=fun s hs=>le_trans (sm.arcs s hs) (by decide);have hole: ∀ j,(Go.Ab.room g 8).get (g.next+j)=none:=fun j=>by
   cases e:(Go.Ab.room g 8).get (g.next+j) with
   | none=>rfl
   | some C=>have:=ok.wf (g.next+j) C e; omega
  have hRn:(Go.Ab.room g 8).next=g.next+8:=rfl;have na:=hole 4;have nb:=hole 5;generalize hR:Go.Ab.room g 8=R at *;refine ⟨_,mR.all,(ui wR h3 h4 mR.row).mono ?_⟩;rintro _ g1 ⟨a,n,c,ps,rfl,e1,om1,o1⟩;have m1:=mR.ok o1;refine ⟨_,rfl,_,m1.all,(ui o1.wf h3 h4 m1.row).mono ?_⟩;rintro _ g2 ⟨b,m,d,qs,rfl,e2,om2,o2⟩;have o12:=o1.trans o2;obtain ⟨u1,u2,s1,s2,s3,s4,s5,s6⟩:=Dr (A:=T) (B:=T) (a:=a) (n:=n) (c:=c) (b:=b) (m:=m) (d:=d) o12 na nb (by omega) (by omega) (by omega);refine ⟨_,rfl,_,kC,_,kC,u1,s1,u2,s2,⟨mR.all,Hv mR.row⟩,?_⟩;have t0:Two R g1 T T (g.next+4) (g.next+5) a n c b m d ps (u2.app (u1.app ((g2.set (g.next+4) dH).set (g.next+5) dH))):=⟨s3,s4,s5,(om1.ok o2).low (Ok.refl wR) s6,⟨qs,e2,om2.low (Ok.refl o1.wf) fun j C hj hl=>s6 j C hj (le_trans o1.nx hl)⟩,fun k hk=>(om1.row.lt o1.wf hk).1⟩
  have hn:n=T.states.length:=by rw [<-e1,lM]; exact t0.len
  refine q6 mv kt (g.next+4) (g.next+5) (dI g0 T) _ s (OW R g1 T (g.next+4) (g.next+5) a n c b m d) _ (fun mz2 q=> ?_) n (q:=0) ⟨zero_le _,rfl,ps,by rw [e1]; exact Fr.self T,t0⟩;clear t0;intros; rename_i g3 hin;obtain ⟨f2,rfl,ps,fr,t⟩:=hin;have hpl:=t.len;refine ⟨_,bn _,_,_,_,t.l3,ae (fun q2=> ?_) (fun q2=> ?_)⟩
  ·have q2:=dT q2;obtain ⟨p,hp⟩: ∃ p,ps[q]?=some p:=⟨_,gE (by omega)⟩
   obtain ⟨k,o,u,i1,i2,t2⟩:=t.setF wR o1.wf (by omega) (by omega) hp [];refine ⟨_,bn _,_,_,_,t.l3,_,i1,_,gG _ _,u,i2,?_⟩;have:=sm.sts;dsimp only;rw [aG (n:=n) (by omega) (by omega)];refine cA (n - (q+1)) (by omega) ⟨by omega,rfl,_,?_,t2⟩;rw [map_set];exact fr.set (p:=p.1) (by rw [getElem?_map,hp]; rfl) (.inl rfl)
  ·have q2:=dF q2;obtain ⟨p,hp⟩: ∃ p,ps[s]?=some p:=⟨_,gE (by omega)⟩
   obtain ⟨k,o,u,i1,i2,t2⟩:=t.setF wR o1.wf (by omega) (by omega) hp T.lead;obtain ⟨u3,i3,t3⟩:=t2.setS wR o1.wf nb (by omega) (by omega) (by omega) o1.nx s;refine ⟨_,bn _,_,_,_,t.l3,_,jM _,_,((mR.ok t.ok).l2),_,i1,_,gG _ _,u,i2,_,fF _,u3,i3,?_⟩;have okE:=(ok.trans oR).trans t3.ok;have fr3:Fr T ((ps.set s (⟨T.lead,p.1.arcs⟩,p.2)).map (·.1)):=by
    rw [map_set];exact fr.set (p:=p.1) (by rw [getElem?_map,hp]; rfl) (.inr rfl)
   have hx:((ps.set s (⟨T.lead,p.1.arcs⟩,p.2)).map (·.1))[s]?=some ⟨T.lead,p.1.arcs⟩:=by
    rw [map_set,List.getElem?_set,if_pos rfl,if_pos (by rw [lM]; omega)]
   have hgo: ∀ {g4:Heap},Ok g0 g4->aF (ga (cH kt) (dI g0 T)) (T.states.length - s) [(pA kt),(.int .i64 (wrap .i64 ((s:Int)+1)))] g4:=fun o4=>by
    have:=sm.sts;rw [aG (n:=T.states.length) (by omega) (by omega)];exact cA (T.states.length - (s+1)) (by omega) ⟨by omega,rfl,o4⟩
   generalize u3.app (u.app g3)=g4 at *;refine ae (fun _=> ?_) (fun _=>hgo okE);have ma:MB g4 (g.next+4) ⟨T.kind,T.start,T.lead,(ps.set s (⟨T.lead,p.1.arcs⟩,p.2)).map (·.1)⟩ a n c:=⟨t3.ba,t3.oa.st⟩
   obtain ⟨qs3,y1,y2⟩:=t3.ob;have mb:MB g4 (g.next+5) ⟨T.kind,(s:Int),T.lead,T.states⟩ b m d:=⟨t3.bb,by have:=y2.st; rwa [y1] at this⟩
   refine ⟨_,ma.all,(pC (tb.ok okE) okE.wf (fr3.small sm _) ma.row).mono ?_⟩;rintro _ g5 ⟨rfl,o5⟩;have ok5:=okE.trans o5;rw [fr3.only hv au hs hx rfl];refine ⟨_,rfl,ae (fun q=>by cases q) (fun _=> ?_)⟩;have mb5:=mb.ok o5;refine ⟨_,mb5.all,(pC (tb.ok ok5) ok5.wf ((Fr.self T).small sm _) mb5.row).mono ?_⟩;rintro _ g6 ⟨rfl,o6⟩;rw [MH au hs];exact ⟨_,rfl,ae (fun q=>by cases q) (fun _=>hgo (ok5.trans o6))⟩
 ·refine (zd (tb.ok ok) ok.wf).mono ?_;rintro _ g2 ⟨rfl,o2⟩;exact ⟨_,rfl,hQ _ (ok.trans o2)⟩
end
theorem K9 {M:Mach}(hv:aL M=true)(sm:Small M): ∃ T C,bt M=(T,0)/\cF M=(C,0)/\bt T=(T,0)/\cF C=(C,0)/\cF T=(C,0)/\(aL T=true/\aL C=true)/\(Small T/\Small C)/\C.states.length=T.states.length/\(iE M=true->jh M.kind=(T,0))/\(iE M=false->kF T):=by
 obtain ⟨t1,t2,t3⟩:=ni hv;obtain ⟨c1,c2,c3,c4⟩:=yH hv;have ct:=sr hv;have s1:=qE hv sm;have s2:=wH hv sm;have hu:iE M=true↔ ¬ bI M M.start.toNat:=by
  unfold iE;rw [hv,Bool.true_and];by_cases h:bI M M.start.toNat
  ·rw [@decide_eq_true _ (Classical.propDecidable _) h]; simp [h]
  ·rw [@decide_eq_false _ (Classical.propDecidable _) h]; simp [h]
 have e1:bt M=((bt M).1,0):=by rw [<-t2]
 have e2:cF M=((cF M).1,0):=by rw [<-c2]
 refine ⟨(bt M).1,(cF M).1,e1,e2,t1.trans e1,c1.trans e2,ct.trans e2,⟨t3,c3⟩,⟨s1,s2⟩,c4,fun h=> ?_,fun h=> ?_⟩
 ·rcases iI hv with ⟨T,h1,h2,h3,h4⟩ | ⟨h1,h2⟩
  ·exact absurd h4 (hu.1 h)
  ·rw [h1]; exact w9 (cj hv).1
 ·rcases iI hv with ⟨T,h1,h2,h3,h4⟩ | ⟨h1,h2⟩
  ·rw [h1]; exact h3
  ·rw [hu.2 h2] at h; cases h
theorem Jl {h:Heap}(tb:Tab h)(w:Wf h){M:Mach}(bd:Np M){a:Option Addr}{n c:Nat}(r:StRow h (.slice a n c) M.states):FW SS 7 [.agg ⟨aA M a n c⟩] h (fun v h'=>v = .bool true/\Ok h h'):=by
 obtain ⟨mb,ok⟩:=dM w r;refine Kq (aA M a n c) h _ ⟨_,fo M a n c,_,mb.all,(FQ ok.wf bd mb.row).mono ?_⟩;generalize h.push (Bm M a n c)=g at *;rintro _ g2 ⟨b,rfl,hsm,o2⟩;have ok2:=ok.trans o2;have mb2:=mb.ok o2;have aw: ∀ {g:Heap},Ok h g->FW SS 9 [] g fun v h'=>yB v fun b=>(Value.bool b = .bool true/\Ok h h'):=fun o=>(zd (tb.ok o) o.wf).mono (by
  rintro _ g3 ⟨rfl,o3⟩;exact ⟨_,rfl,rfl,o.trans o3⟩)
 refine ⟨_,rfl,ae (fun _=>aw ok2) (fun q=> ?_)⟩;have sm:=hsm q;refine ⟨_,mb2.all,(fc (tb.ok ok2) ok2.wf sm mb2.row).mono ?_⟩;rintro _ g3 ⟨rfl,o3⟩;have ok3:=ok2.trans o3;have mb3:=mb2.ok o3;refine ⟨_,rfl,ae (fun _=>aw ok3) (fun hv=> ?_)⟩;have hv:aL M=true:=by simpa using hv
 obtain ⟨T,C,hT,hC,hTT,hCC,hTC,⟨vT,vC⟩,⟨sT,sC⟩,hl,hE,hN⟩:=K9 hv sm;have c1:=nR (tb.ok ok3) ok3.wf sm mb3.row;rw [hT] at c1;refine ⟨_,mb3.all,c1.mono ?_⟩;rintro _ g5 ⟨a2,n2,c2,ps2,rfl,e2,om2,o5⟩;obtain ⟨u2,s2,p2,b2,_⟩:=ib e2 om2 o5;refine ⟨_,_,rfl,_,kC,u2,s2,?_⟩;have x6:=o5.trans p2;have ok6:=ok3.trans x6;have mb6:=mb3.ok x6;generalize u2.app (g5.push dH)=g6 at *;have c2:=nR (tb.ok ok6) ok6.wf sT b2.row;rw [hTT] at c2;refine ⟨_,b2.all,c2.mono ?_⟩;rintro _ g7 ⟨a3,n3,c3,ps3,rfl,e3,om3,o7⟩;obtain ⟨u3,s3,p3,b3,_⟩:=ib e3 om3 o7;refine ⟨_,_,rfl,_,kC,u3,s3,?_⟩;have x8:=o7.trans p3;have ok8:=ok6.trans x8;have mb8:=mb6.ok x8;have b28:=b2.ok x8;generalize u3.app (g7.push dH)=g8 at *;have c3':=pX (tb.ok ok8) ok8.wf sm mb8.row;rw [hC] at c3';refine ⟨_,mb8.all,c3'.mono ?_⟩;rintro _ g9 ⟨a4,n4,c4,ps4,rfl,e4,om4,o9⟩;obtain ⟨u4,s4,p4,b4,_⟩:=ib e4 om4 o9;refine ⟨_,_,rfl,_,kC,u4,s4,?_⟩;have x10:=o9.trans p4;have ok10:=ok8.trans x10;have mb10:=mb8.ok x10;have b2X:=b28.ok x10;have b3X:=b3.ok x10;generalize u4.app (g9.push dH)=g10 at *;have c4':=pX (tb.ok ok10) ok10.wf sC b4.row;rw [hCC] at c4';refine ⟨_,b4.all,c4'.mono ?_⟩;rintro _ g11 ⟨a5,n5,c5,ps5,rfl,e5,om5,o11⟩;obtain ⟨u5,s5,p5,b5,_⟩:=ib e5 om5 o11;refine ⟨_,_,rfl,_,kC,u5,s5,?_⟩;have x12:=o11.trans p5;have ok12:=ok10.trans x12;have mb12:=mb10.ok x12;have b2Y:=b2X.ok x12;have b3Y:=b3X.ok x12;have b4Y:=b4.ok x12;generalize u5.app (g11.push dH)=g12 at *;have c5':=pX (tb.ok ok12) ok12.wf sT b2Y.row;rw [hTC] at c5';refine ⟨_,b2Y.all,c5'.mono ?_⟩;rintro _ g13 ⟨a6,n6,c6,ps6,rfl,e6,om6,o13⟩;obtain ⟨u6,s6,p6,b6,_⟩:=ib e6 om6 o13;refine ⟨_,_,rfl,_,kC,u6,s6,?_⟩;have x14:=o13.trans p6;have ok14:=ok12.trans x14;have mbZ:=mb12.ok x14;have b2Z:=b2Y.ok x14;have b3Z:=b3Y.ok x14;have b4Z:=b4Y.ok x14;have b5Z:=b5.ok x14;generalize u6.app (g13.push dH)=g14 at *;refine ae (fun q=>by simp at q) (fun _=>ae (fun q=>by simp at q) (fun _=>ae (fun q=>by simp at q) (fun _=>ae (fun q=>by simp at q) (fun _=>ae (fun q=>by simp at q) (fun _=> ?_)))));refine ⟨_,b2Z.all,(fc (tb.ok ok14) ok14.wf sT b2Z.row).mono ?_⟩;rintro _ g15 ⟨rfl,o15⟩;have ok15:=ok14.trans o15;refine ⟨_,rfl,ae (fun q=>by rw [vT] at q; cases q) (fun _=> ?_)⟩;refine ⟨_,(b4Z.ok o15).all,(fc (tb.ok ok15) ok15.wf sC (b4Z.ok o15).row).mono ?_⟩;rintro _ g16 ⟨rfl,o16⟩;have z16:=o15.trans o16;have ok16:=ok14.trans z16;refine ⟨_,rfl,ae (fun q=>by rw [vC] at q; cases q) (fun _=> ?_)⟩;have lT:T.states.length<=100000:=le_trans sT.sts (by decide);have lC:C.states.length<=100000:=le_trans sC.sts (by decide);have aT: ∀ s∈T.states,s.arcs.length<=100000:=fun s hs=>le_trans (sT.arcs s hs) (by decide);have aC: ∀ s∈C.states,s.arcs.length<=100000:=fun s hs=>le_trans (sC.arcs s hs) (by decide);refine ⟨_,(b2Z.ok z16).all,_,(b3Z.ok z16).all,(lK ok16.wf (b2Z.ok z16).row (b3Z.ok z16).row lT aT).mono ?_⟩;rintro _ g17 ⟨rfl,o17⟩;have z17:=z16.trans o17;have ok17:=ok14.trans z17;rw [gb rfl];refine ⟨_,rfl,ae (fun q=>by cases q) (fun _=> ?_)⟩;refine ⟨_,(b4Z.ok z17).all,_,(b5Z.ok z17).all,(lK ok17.wf (b4Z.ok z17).row (b5Z.ok z17).row lC aC).mono ?_⟩;rintro _ g18 ⟨rfl,o18⟩;have z18:=z17.trans o18;have ok18:=ok14.trans z18;rw [gb rfl];refine ⟨_,rfl,ae (fun q=>by cases q) (fun _=> ?_)⟩;refine ⟨_,(b4Z.ok z18).all,_,(b6.ok z18).all,(lK ok18.wf (b4Z.ok z18).row (b6.ok z18).row lC aC).mono ?_⟩;rintro _ g19 ⟨rfl,o19⟩;have z19:=z18.trans o19;have ok19:=ok14.trans z19;rw [gb rfl];refine ⟨_,rfl,ae (fun q=>by cases q) (fun _=> ?_)⟩;have b2E:=b2Z.ok z19;have b4E:=b4Z.ok z19;have mbE:=mbZ.ok z19;have n2E:=b2E.len;have n4E:=b4E.len;refine ⟨_,bn _,_,_,_,b4E.l3,_,bn _,_,_,_,b2E.l3,ae (fun q=> ?_) (fun _=> ?_)⟩
 ·rw [n2E,n4E,hl] at q;simp at q
 refine ⟨_,mbE.all,(pC (tb.ok ok19) ok19.wf sm mbE.row).mono ?_⟩;rintro _ g20 ⟨rfl,o20⟩;have ok20:=ok19.trans o20;have b20:=b2E.ok o20;have mb20:=mbE.ok o20;refine ⟨_,rfl,ae (fun he=> ?_) (fun he=> ?_)⟩
 ·have c6':=kL M.kind ok20.wf;rw [hE he] at c6';refine ⟨_,gH _,_,mb20.l0,c6'.mono ?_⟩;rintro _ g21 ⟨a7,n7,c7,ps7,rfl,e7,om7,o21⟩;obtain ⟨u7,s7,p7,b7,_⟩:=ib e7 om7 o21;refine ⟨_,_,rfl,_,kC,u7,s7,?_⟩;have x22:=o21.trans p7;have ok22:=ok20.trans x22;have b2F:=b20.ok x22;generalize u7.app (g21.push dH)=g22 at *;refine ae (fun _=> ?_) (fun q=>by simp at q);refine ⟨_,b2F.all,_,b7.all,(lK ok22.wf b2F.row b7.row lT aT).mono ?_⟩;rintro _ g23 ⟨rfl,o23⟩;rw [gb rfl];exact ⟨_,rfl,ae (fun _=>aw (ok22.trans o23)) (fun q=>by cases q)⟩
 ·exact Dx (tb.ok ok20) ok20.wf vT (hN he) sT b20 (aA M a n c) fun h' o=>⟨rfl,ok20.trans o⟩
end Go.Proofs.YtoabjjimjldcfaaGreatDoor
end
section
namespace Go.Ab
open Go Go.RowKit Go.WideShapes Go.ChangeShapes
section
section
variable {H:Type} {enc:TypeId×Value->H} {P:Program}
theorem HS {f:Func}{s:ChangeSpec}{apart fresh handsOn again:Bool}{W W':World}{args:Array Value}{v:Value}{ds:List (DataW H)}{places:List MemPlace}
  (hvars:s.vars=[]) (hW:DataW.Whole enc P f.params.toList s.vars apart W args.toList ds [] places) (hb:Below W.heap.size W W')
  (hsame:(s.fn H (ds++[])).args=ds) (hnov:(s.fn H (ds++[])).vars=[])
  (hres: ∀ (b:Nat)(sp:Nat->Bool)(hd:Bool),DataW.TrodAll enc P W' b sp hd f.resultTypes.toList (v.resultList f.resultTypes.size) (s.fn H (ds++[])).results [])
  (hok: ∀ (j:Nat)(t:TypeId)(r:Value),f.resultTypes[j]?=some t->(v.resultList f.resultTypes.size)[j]?=some r->Value.okWide P W' .any 0 t r)
  (hargs: ∀ sp:Nat->Bool,(∀ p∈places,sp p.block=true)->DataW.TrodAll enc P W' 0 sp true f.params.toList args.toList ds places):s.post enc P f apart fresh handsOn again W args v W':=by
 have hin: ∀ p∈places,p.block < W.heap.size:=fun p hp=>hW.lt p hp;have hmine: ∀ p∈places,(fun b=>decide (b < W.heap.size)) p.block=true:=fun p hp=>decide_eq_true (hin p hp);have hv0: ∀ sp:Nat->Bool,DataW.TrodVars enc P W' sp s.vars (s.fn H (ds++[])).vars []:=fun sp=>by
  rw [hvars,hnov]; rfl
 have hfr:=World.keptBut_mono (may':=fun p=>p∈places/\(p∈([]:List MemPlace)\/p∈places\/p∈([]:List MemPlace))) (fun p hp=>⟨hp,.inr (.inl hp)⟩) (hb.frame (· ∈places));obtain ⟨_,_,_,_,_,hz,hn⟩:=id hW;have hargs': ∀ sp:Nat->Bool,(∀ p∈places,sp p.block=true)->DataW.TrodAll enc P W' 0 sp true f.params.toList args.toList (s.fn H (ds++[])).args places:=fun sp h=>by rw [hsame]; exact hargs sp h
 refine ⟨ds,[],places,[],places,[],hW,hres _ _ _,hargs' _ hmine,hv0 _,hfr,fun _=>⟨hok,_,_,([]++places)++[],⟨[]++places,[],trodAll_append (hargs' _ fun _ _=>rfl) (hres _ _ _),hv0 _,rfl,?_,?_⟩,?_⟩⟩
 ·intro b off hp;have hp:MemPlace.cell b off∈places:=by simpa using hp
  rw [hb.frozen (hin _ hp)];exact hz b off hp
 ·intro ha;simpa using hn ha
 ·intro p hp _;simpa using hp
end
end
end Go.Ab
end
section
namespace Go.Proofs.YtoabjjimjldcfaaGreatDoor
open Go Go.Ab Go.ChangeShapes Go.WideShapes Go.ChangeAt Go.RowKit
theorem uJ:laidOutB Tryz.prog=true:=by kernel_rfl
set_option maxRecDepth 100000 in
theorem tg (os:Os)(started:os.Started)(H:Type)(enc:TypeId×Value->H):
  ReturnsInHanded {} Tryz.checked os 7 .any (fun w args=>(Rows.machineTrimmedSpec.pre enc Tryz.prog Tryz.f7 [] false w args/\laidMetH Tryz.prog f0 w)/\sizedMet enc Tryz.prog Tryz.f7 (OpenSpec.ofChange Rows.machineTrimmedSpec) false w args)
   (Rows.machineTrimmedSpec.post enc Tryz.prog Tryz.f7 false true false false):=by
 refine returnsInHanded_of_change_and (C:=Tryz.checked) (X:=fun w _=>laidMetH Tryz.prog f0 w) (fun _ _ _ hh h=>h.of_heap hh) GK started (by kernel_rfl) Tryz.func7
  (ChangeSpec.witness_at (enc:=enc) (C:=Tryz.checked) (os:=os) (X:=fun w _=>laidMetH Tryz.prog f0 w) false (uj os) #[.agg #[.int .i64 0,.int .i64 0,.string ⟨#[]⟩,.slice none 0 0]] 8 rfl (by kernel_rfl) (by kernel_rfl) (by kernel_rfl) (by kernel_rfl) (by kernel_rfl) (tX os _)) ?_
 intro W base args ds gs before hval0 hW _ hwt hL _;have hval: ∀ (j:Nat) t v,Tryz.f7.params[j]?=some t->args[j]?=some v->Value.okWide Tryz.prog W .any base t v:=hval0;have hW':=hW;obtain ⟨p,q,hA0,hV,rfl,hfz,hnd⟩:=hW;have hA:DataW.TrodAll enc Tryz.prog W 0 (fun _=>true) true Tryz.f7.params.toList args.toList ds p:=hA0;rw [Tryz.params7] at hA hval;obtain ⟨v0,d0,rfl,rfl,h0⟩:=trodAll_one hA;obtain ⟨rfl,rfl⟩:=trodVars_none hV;simp only [List.append_nil] at hW';have hw:(d0.weights Tryz.prog 24).all (· <=reachBytes)=true:=by
  have h1:(DataW.weightsEach Tryz.prog (Tryz.f7.params.toList++Rows.machineTrimmedSpec.plain.varTypes Tryz.prog) ([d0]++[])).all (· <=reachBytes)=true:=hwt;rw [Tryz.params7] at h1;have h2:(d0.weights Tryz.prog 24++DataW.weightsEach Tryz.prog (Rows.machineTrimmedSpec.plain.varTypes Tryz.prog) []).all (· <=reachBytes)=true:=h1;rw [List.all_append,Bool.and_eq_true] at h2;exact h2.1
 refine (Ap Tryz.func7 (by kernel_rfl) (by unfold YB; decide) (extra:=[]) rfl (fun tb w _ bd _ _ _ r=>Jl tb w bd r) hL (hval 0 24 v0 rfl rfl) h0 hw rfl).mono fun e W' ⟨he,hb⟩=> ?_;subst he;have hlt: ∀ x∈p,x.block < W.heap.size:=fun x hx=>hW'.lt x hx;have h0':=Below.trod uJ (by kernel_rfl) (dT (by kernel_rfl)) h0 hb hlt;exact ⟨_,rfl,HS (ds:=[d0]) (places:=p) rfl hW' hb rfl rfl (fun _ _ _=>(trodAll_cons_mk (shut_bool Tryz.underlying4 _) trodAll_mk0))
  (ok_one (by kernel_rfl) rfl (okWide_bool_mk Tryz.underlying4 _)) (fun sp hsp=>by
   rw [Tryz.params7];exact trodAll_mk1 (WideElems.Trod_stays uJ (by kernel_rfl) (dT (by kernel_rfl)) h0 (fun x hx=>hb.same (hlt x hx)) hsp))⟩
theorem ww:Rows.MachineTrimmedSaid:=
 OpenClaim.holds_of_wide 7 Tryz.f7 rfl rfl rfl rfl rfl rfl rfl ⟨rfl,rfl,rfl,rfl,rfl⟩ rfl rfl rfl rfl rfl (by kernel_rfl) Tryz.func7 (by kernel_rfl)
  (dT (by kernel_rfl)) (by unfold Func.isWrapper; first | (rw [if_pos (by decide +kernel)]; kernel_rfl) | (rw [if_neg (by decide +kernel)]; exact ⟨rfl,rfl⟩))
  (fun os started H enc _=>tg os started H enc)
theorem machineTrimmed_holds:Rows.MachineTrimmedCardSaid:=
 Claim7.holds_tied_plain_at .later [] [.data,.data,.data] true (true,"ea4656df63b73b94884b59f7838f0dfac73e8ec20c036833f77c270eb3448717") true
  ww (fun _ h=>by cases h) (by kernel_rfl) (fun _ h=>by cases h) machineTrimmed_row_tie rfl ⟨rfl,rfl⟩ (by kernel_rfl) rfl
  (fun f fn hf hfn=>by
   obtain rfl:f=7:=oI ((show Tryz.prog.funcNamed "abugida/abugidalaw06.MachineTrimmed" = some 7 by kernel_rfl).symm.trans hf) |>.symm
   obtain rfl:fn=Tryz.f7:=(oI (Tryz.func7.symm.trans hfn)).symm;exact ⟨by kernel_rfl,fun j t ht=>by
    rw [Tryz.params7] at ht;have hm:t∈[24]:=by simpa using Array.mem_of_getElem? ht
    have hall:([24].all fun u=> !Tryz.prog.wantsStandIn u)=true:=by kernel_rfl
    exact (show Tryz.prog.wantsStandIn t=false by simpa using List.all_eq_true.1 hall t hm)⟩)
  (by kernel_rfl)
end Go.Proofs.YtoabjjimjldcfaaGreatDoor
end
