/- Whatever is handed to it, in whatever memory, on every schedule, MinimalLength returns true. No condition. -/
import Derived.Test.YtaheifbogkjpdaaGreatDoorPart3
import Derived.Test.YtaheifbogkjpdaaGreatDoorPart4
import Derived.OpenShut
import Derived.MakeChecks
import Derived.FnData
import Derived.ChangeSame
import Derived.Test.YtaheifbogkjpdaaGreatDoorRows
import Derived.ProofKit
import Derived.LaidLaws
import Derived.LaidHandle
import Derived.ChangeVars
import Derived.Test.YtaheifbogkjpdaaGreatDoorCards
import Derived.Test.YtaheifbogkjpdaaGreatDoorTie
import Derived.WalkKit
import Derived.Carry
import Derived.SevenTiedAt
set_option linter.unusedVariables false
set_option linter.unusedSimpArgs false
set_option maxRecDepth 100000
open List (getElem?_map getElem?_range length_append length_range length_singleton map_append map_replicate map_set mem_append mem_map mem_singleton)
open Nat (lt_or_ge not_lt_zero zero_le)
open Option (map_some)
open Go.IntKind (wrap)
section
namespace Go.Proofs.YtaheifbogkjpdaaGreatDoor
open Go Go.Ab Go.Num
noncomputable def NY:FD:=fo Tryz.f17 []
theorem Lz(mv:LV)(h:aa)(Q:VH)(hx:xN (l8 SS.P 24 (.agg ⟨mv⟩)) h λB1 g2=>xA (ag SS.P 24 g2 (pA (h.next))) λc3=>FW SS 30 [(.agg ⟨c3⟩)] g2 λv4 h5=>yB v4 λb6=>aZ (!b6) (Q (.int .i64 1) h5) (xA (ag SS.P 24 h5 (pA (h.next))) λc7=>FW SS 31 [(.agg ⟨c7⟩)] h5 λv8 h9=>yB v8 λb10=>aZ (!b10) (Q (.int .i64 6) h9) (Q (.int .i64 0) h9))):FW SS 17 [(.agg ⟨mv⟩)] h Q:=fy NY Tryz.func17 (az hx)
noncomputable def L4:FD:=fo Tryz.f32 []
theorem Jt(s d:Int)(k4 k5:Nat)(h:aa)(Q:VH)(hx:xL (ag SS.P 32 h (pA k4)) λa1 n2 c3=>xP (af SS.P 32 (.slice a1 n2 c3) (.int .i64 s)) λp4=>xI .i64 (ag SS.P 3 h (.pointer (some p4))) λn5=>aZ (decide ((n5:Int)<0)) (xL (ag SS.P 32 h (pA k4)) λa6 n7 c8=>xP (af SS.P 32 (.slice a6 n7 c8) (.int .i64 s)) λp9=>xU (an SS.P 3 (.pointer (some p9)) (.int .i64 d) h) h λKl Dc=>xL (ag SS.P 32 Dc (pA k5)) λa12 n13 bV=>xR (aL SS.P 32 1 [(0,(.int .i64 s))]) Dc λB15 n16 c17 g18=>xE (aY SS.P 32 32 (.slice a12 n13 bV) (sA (Dc.next) n16 c17) g18) g18 λa19 n20 c21 u22 g23=>xU (an SS.P 32 (pA k5) (.slice a19 n20 c21) g23) g23 λu24 g25=>Q (.tuple ⟨[]⟩) g25) (Q (.tuple ⟨[]⟩) h)):FW SS 32 [(.int .i64 s),(.int .i64 d),(pA k4),(pA k5)] h Q:=fy L4 Tryz.func32 (az hx)
noncomputable def bB:FD:=fo Tryz.f18 [([1,1,1,1,1,0,1,0,0],[1,2,3,4,5,6,26,27,28]),([1,1,1,1,1,0,1,0,0,1,1,0,0,1,1,1,0,0],[1,2,3,4,5,6,7,8,26,27,28,37,38,39]),([1,1,1,1,1,1,0,1,0,0],[1,2,3,4,5,6,58,59,60]),([1,1,1,1,1,1,1,0,1,0,0],[1,2,3,4,5,6,13]),([1,1,1,1,1,1,1,0,1,0,0,1,0,0,1,0,0],[1,2,3,4,5,6,13,84,85,86])]
abbrev gA(k N kb k4 k5:Nat)(a:OA)(n c:Nat)(i:Nat):LV:=[(pA k),nA,(sA kb N N),(pA k4),(pA k5),(.func (.func 32) ⟨[]⟩ ⟨[(pA k4),(pA k5)]⟩),(.slice a n c),(iA n),(iA i)]
abbrev iT(k N kb k4 k5:Nat)(a:OA)(n c k8:Nat)(b:OA)(m d i:Nat)(j:Nat):LV:=[(pA k),nA,(sA kb N N),(pA k4),(pA k5),(.func (.func 32) ⟨[]⟩ ⟨[(pA k4),(pA k5)]⟩),(iA i),(pA k8),(.slice a n c),(iA n),(iA i),(.slice b m d),(iA m),(iA j)]
abbrev gB(k N kb k4 k5:Nat)(a:OA)(n c:Nat)(i:Nat):LV:=[(pA k),nA,(sA kb N N),(pA k4),(pA k5),(.func (.func 32) ⟨[]⟩ ⟨[(pA k4),(pA k5)]⟩),(.slice a n c),(iA n),(iA i)]
abbrev fB(k N kb k4 k5:Nat)(i:Nat):LV:=[(pA k),nA,(sA kb N N),(pA k4),(pA k5),(.func (.func 32) ⟨[]⟩ ⟨[(pA k4),(pA k5)]⟩),(iA i)]
abbrev iU(k N kb k4 k5:Nat)(b:OA)(m d i:Nat)(j:Nat):LV:=[(pA k),nA,(sA kb N N),(pA k4),(pA k5),(.func (.func 32) ⟨[]⟩ ⟨[(pA k4),(pA k5)]⟩),(iA i),(.slice b m d),(iA m),(iA j)]
theorem Lr(mv:LV)(h:aa)(Q:VH)(hx:xN (l8 SS.P 24 (.agg ⟨mv⟩)) h λB1 g2=>xP (ah SS.P 24 (pA (h.next)) 3) λp3=>xL (ag SS.P 22 g2 (.pointer (some p3))) λa4 n5 c6=>xR (bM SS.P 27 (iA n5) (iA n5)) g2 λB7 n8 c9 zG=>xP (ah SS.P 24 (pA (h.next)) 3) λp11=>xL (ag SS.P 22 zG (.pointer (some p11))) λa12 n13 bV=>xR (bM SS.P 32 (iA n13) (iA n13)) zG λB15 n16 c17 g18=>xN (bN SS.P 32) g18 λB19 g20=>xU (an SS.P 32 (pA (g18.next)) (sA (zG.next) n16 c17) g20) g20 λu21 g22=>xN (bN SS.P 32) g22 λB23 g24=>xP (ah SS.P 24 (pA (h.next)) 3) λp25=>xL (ag SS.P 22 g24 (.pointer (some p25))) λa26 n27 c28=>LL SS bB [1,1,1,1,1,0,1,0,0] [(pA (h.next)),nA,(sA (g2.next) n8 c9),(pA (g18.next)),(pA (g22.next)),(.func (.func 32) ⟨[]⟩ ⟨[(pA (g18.next)),(pA (g22.next))]⟩),(.slice a26 n27 c28),(iA n27),(.int .i64 0)] g24 (KK SS bB [1,1,1,1,1,0,1,0] [] (EE SS bB Q))):FW SS 18 [(.agg ⟨mv⟩)] h Q:=fy bB Tryz.func18 (az hx)
theorem r8(mv:LV)(k N kb k4 k5:Nat)(a:OA)(n c:Nat)(Inv:Nat->Nat->aa->Prop)(Q:VH)(step:∀(mz:Nat) (i:Nat) (zz:Nat->Value) (h:aa),Inv mz i h->aZ (decide (((i:Int):Int)<(n:Int))) (xP (af SS.P 22 (.slice a n c) (iA i)) λp29=>xA (ag SS.P 38 h (.pointer (some p29))) λc30=>xN (bN SS.P 38) h λB31 g32=>xU (an SS.P 38 (pA (h.next)) (.agg ⟨c30⟩) g32) g32 λu33 g34=>xL (ag SS.P 32 g34 (pA k4)) λa35 n36 c37=>xP (af SS.P 32 (.slice a35 n36 c37) (iA i)) λp38=>xU (an SS.P 3 (.pointer (some p38)) (.int .i64 (-1)) g34) g34 λu39 g40=>xP (ah SS.P 38 (pA (h.next)) 1) λp41=>xL (ag SS.P 36 g40 (.pointer (some p41))) λa42 n43 c44=>LL SS bB [1,1,1,1,1,0,1,0,0,1,1,0,0,1,1,1,0,0] (iT k N kb k4 k5 a n c (h.next) a42 n43 c44 i 0) g40 (KK SS bB [1,1,0,0,1,1,1,0] [1,1,1,1,1,0,1,0,0] (RR bB [1,1,1,1,1,0,1,0,0] (lZ (gA k N kb k4 k5 a n c) Inv) mz (KK SS bB [1,1,1,1,1,0,1,0] [] (EE SS bB Q))))) (xP (ah SS.P 24 (pA k) 3) λp45=>xL (ag SS.P 22 h (.pointer (some p45))) λa46 n47 c48=>LL SS bB [1,1,1,1,1,1,0,1,0,0] (gB k N kb k4 k5 a46 n47 c48 0) h (KK SS bB [1,1,1,1,1,1,0,1,0] [] (EE SS bB Q))))(mz:Nat){i:Nat}{h:aa}(hi:Inv mz i h):LL SS bB [1,1,1,1,1,0,1,0,0] (gA k N kb k4 k5 a n c i) h (KK SS bB [1,1,1,1,1,0,1,0] [] (EE SS bB Q)):=
 gH (gA k N kb k4 k5 a n c) Inv (λmz i zz h hi=>az (step mz i zz h hi)) mz hi
theorem r9(mv:LV)(k N kb k4 k5:Nat)(a:OA)(n c k8:Nat)(b:OA)(m d:Nat)(Inv:Nat->Nat->aa->Prop)(mz i:Nat)(Inv2:Nat->Nat->aa->Prop)(Q:VH)(step:∀(mz2:Nat) (j:Nat) (zz:Nat->Value) (h:aa),Inv2 mz2 j h->aZ (decide (((j:Int):Int)<(m:Int))) (xP (af SS.P 36 (.slice b m d) (iA j)) λp49=>xA (ag SS.P 34 h (.pointer (some p49))) λc50=>xN (bN SS.P 34) h λB51 g52=>xU (an SS.P 34 (pA (h.next)) (.agg ⟨c50⟩) g52) g52 λu53 g54=>xP (ah SS.P 34 (pA (h.next)) 3) λp55=>xI .i64 (ag SS.P 3 (room g54 13) (.pointer (some p55))) λn56=>xP (ah SS.P 34 (pA (h.next)) 3) λp57=>xI .i64 (ag SS.P 3 (room g54 13) (.pointer (some p57))) λn58=>xP (af SS.P 27 (sA kb N N) (.int .i64 n58)) λp59=>xL (ag SS.P 32 (room g54 13) (.pointer (some p59))) λa60 n61 c62=>zR (aL SS.P 32 1 [(0,(iA i))]) λB63 n64 c65=>xE (aY SS.P 32 32 (.slice a60 n61 c62) (sA (g54.next+9) n64 c65) (aV (room g54 13) g54.next [(9,B63)])) (aV (room g54 13) g54.next [(9,B63)]) λa66 n67 c68 u69 g70=>xP (af SS.P 27 (sA kb N N) (.int .i64 n56)) λp71=>xU (an SS.P 32 (.pointer (some p71)) (.slice a66 n67 c68) g70) g70 λu72 g73=>(ag SS.P 3 g70 (.pointer (some p55))=some (.int .i64 n56)/\jB 4 (.int .i64 n56) (.int .i64 n56)=true)/\ba (lZ (iT k N kb k4 k5 a n c k8 b m d i) Inv2) mz2 [(pA k),nA,(sA kb N N),(pA k4),(pA k5),(.func (.func 32) ⟨[]⟩ ⟨[(pA k4),(pA k5)]⟩),(iA i),(pA k8),(.slice a n c),(iA n),(iA i),(.slice b m d),(iA m),(.int .i64 (wrap .i64 ((j:Int)+1)))] g73) (ba (lZ (gA k N kb k4 k5 a n c) Inv) mz [(pA k),nA,(sA kb N N),(pA k4),(pA k5),(.func (.func 32) ⟨[]⟩ ⟨[(pA k4),(pA k5)]⟩),(.slice a n c),(iA n),(.int .i64 (wrap .i64 ((i:Int)+1)))] h))(mz2:Nat){j:Nat}{h:aa}(hi:Inv2 mz2 j h):LL SS bB [1,1,1,1,1,0,1,0,0,1,1,0,0,1,1,1,0,0] (iT k N kb k4 k5 a n c k8 b m d i j) h (KK SS bB [1,1,0,0,1,1,1,0] [1,1,1,1,1,0,1,0,0] (RR bB [1,1,1,1,1,0,1,0,0] (lZ (gA k N kb k4 k5 a n c) Inv) mz (KK SS bB [1,1,1,1,1,0,1,0] [] (EE SS bB Q)))):=
 gH (iT k N kb k4 k5 a n c k8 b m d i) Inv2 (λmz2 j zz h hi=>az (step mz2 j zz h hi)) mz2 hi
theorem sa(mv:LV)(k N kb k4 k5:Nat)(a:OA)(n c:Nat)(Inv3:Nat->Nat->aa->Prop)(Q:VH)(step:∀(mz3:Nat) (i:Nat) (zz:Nat->Value) (h:aa),Inv3 mz3 i h->aZ (decide (((i:Int):Int)<(n:Int))) (xP (af SS.P 22 (.slice a n c) (iA i)) λp74=>xA (ag SS.P 38 h (.pointer (some p74))) λc75=>xN (bN SS.P 38) h λB76 g77=>xU (an SS.P 38 (pA (h.next)) (.agg ⟨c75⟩) g77) g77 λu78 g79=>xP (ah SS.P 38 (pA (h.next)) 0) λp80=>xS (ag SS.P 9 g79 (.pointer (some p80))) λl81=>aZ (!((l81:LB)==[])) (FW SS 32 [(iA i),(.int .i64 0),(pA k4),(pA k5)] g79 λv82 h83=>v82=(.tuple ⟨[]⟩)/\ba (lZ (gB k N kb k4 k5 a n c) Inv3) mz3 [(pA k),nA,(sA kb N N),(pA k4),(pA k5),(.func (.func 32) ⟨[]⟩ ⟨[(pA k4),(pA k5)]⟩),(.slice a n c),(iA n),(.int .i64 (wrap .i64 ((i:Int)+1)))] h83) (ba (lZ (gB k N kb k4 k5 a n c) Inv3) mz3 [(pA k),nA,(sA kb N N),(pA k4),(pA k5),(.func (.func 32) ⟨[]⟩ ⟨[(pA k4),(pA k5)]⟩),(.slice a n c),(iA n),(.int .i64 (wrap .i64 ((i:Int)+1)))] g79)) (LL SS bB [1,1,1,1,1,1,1,0,1,0,0] (fB k N kb k4 k5 0) h (KK SS bB [1,1,1,1,1,1,1,0,1,0] [] (EE SS bB Q))))(mz3:Nat){i:Nat}{h:aa}(hi:Inv3 mz3 i h):LL SS bB [1,1,1,1,1,1,0,1,0,0] (gB k N kb k4 k5 a n c i) h (KK SS bB [1,1,1,1,1,1,0,1,0] [] (EE SS bB Q)):=
 gH (gB k N kb k4 k5 a n c) Inv3 (λmz3 i zz h hi=>az (step mz3 i zz h hi)) mz3 hi
theorem sc(mv:LV)(k N kb k4 k5:Nat)(Inv4:Nat->Nat->aa->Prop)(Q:VH)(step:∀(mz4:Nat) (i:Nat) (zz:Nat->Value) (h:aa),Inv4 mz4 i h->xL (ag SS.P 32 h (pA k5)) λa84 n85 c86=>aZ (decide (((i:Int):Int)<(n85:Int))) (xL (ag SS.P 32 h (pA k5)) λa87 n88 c89=>xP (af SS.P 32 (.slice a87 n88 c89) (iA i)) λp90=>xI .i64 (ag SS.P 3 h (.pointer (some p90))) λn91=>xP (af SS.P 27 (sA kb N N) (.int .i64 n91)) λp92=>xL (ag SS.P 32 h (.pointer (some p92))) λa93 n94 c95=>LL SS bB [1,1,1,1,1,1,1,0,1,0,0,1,0,0,1,0,0] (iU k N kb k4 k5 a93 n94 c95 i 0) h (KK SS bB [1,0,0,1,0] [1,1,1,1,1,1,1,0,1,0,0] (RR bB [1,1,1,1,1,1,1,0,1,0,0] (lZ (fB k N kb k4 k5) Inv4) mz4 (KK SS bB [1,1,1,1,1,1,1,0,1,0] [] (EE SS bB Q))))) (xL (ag SS.P 32 h (pA k4)) λa96 n97 c98=>Q (.slice a96 n97 c98) h))(mz4:Nat){i:Nat}{h:aa}(hi:Inv4 mz4 i h):LL SS bB [1,1,1,1,1,1,1,0,1,0,0] (fB k N kb k4 k5 i) h (KK SS bB [1,1,1,1,1,1,1,0,1,0] [] (EE SS bB Q)):=
 gH (fB k N kb k4 k5) Inv4 (λmz4 i zz h hi=>az (step mz4 i zz h hi)) mz4 hi
theorem sd(mv:LV)(k N kb k4 k5:Nat)(b:OA)(m d:Nat)(Inv4:Nat->Nat->aa->Prop)(mz4 i:Nat)(Inv5:Nat->Nat->aa->Prop)(Q:VH)(step:∀(mz5:Nat) (j:Nat) (zz:Nat->Value) (h:aa),Inv5 mz5 j h->aZ (decide (((j:Int):Int)<(m:Int))) (xP (af SS.P 32 (.slice b m d) (iA j)) λp99=>xI .i64 (ag SS.P 3 h (.pointer (some p99))) λn100=>xL (ag SS.P 32 (room h 11) (pA k4)) λa101 n102 c103=>xL (ag SS.P 32 (room h 11) (pA k5)) λa104 n105 c106=>xP (af SS.P 32 (.slice a104 n105 c106) (iA i)) λp107=>xI .i64 (ag SS.P 3 (room h 11) (.pointer (some p107))) λn108=>xP (af SS.P 32 (.slice a101 n102 c103) (.int .i64 n108)) λp109=>xI .i64 (ag SS.P 3 (room h 11) (.pointer (some p109))) λn110=>FW SS 32 [(.int .i64 n100),(.int .i64 (wrap .i64 (n110+1))),(pA k4),(pA k5)] (room h 11) λv111 h112=>v111=(.tuple ⟨[]⟩)/\ba (lZ (iU k N kb k4 k5 b m d i) Inv5) mz5 [(pA k),nA,(sA kb N N),(pA k4),(pA k5),(.func (.func 32) ⟨[]⟩ ⟨[(pA k4),(pA k5)]⟩),(iA i),(.slice b m d),(iA m),(.int .i64 (wrap .i64 ((j:Int)+1)))] h112) (ba (lZ (fB k N kb k4 k5) Inv4) mz4 [(pA k),nA,(sA kb N N),(pA k4),(pA k5),(.func (.func 32) ⟨[]⟩ ⟨[(pA k4),(pA k5)]⟩),(.int .i64 (wrap .i64 ((i:Int)+1)))] h))(mz5:Nat){j:Nat}{h:aa}(hi:Inv5 mz5 j h):LL SS bB [1,1,1,1,1,1,1,0,1,0,0,1,0,0,1,0,0] (iU k N kb k4 k5 b m d i j) h (KK SS bB [1,0,0,1,0] [1,1,1,1,1,1,1,0,1,0,0] (RR bB [1,1,1,1,1,1,1,0,1,0,0] (lZ (fB k N kb k4 k5) Inv4) mz4 (KK SS bB [1,1,1,1,1,1,1,0,1,0] [] (EE SS bB Q)))):=
 gH (iU k N kb k4 k5 b m d i) Inv5 (λmz5 j zz h hi=>az (step mz5 j zz h hi)) mz5 hi
section
structure ZR(hb:aa)(kt N:Nat)(D:List Int)(g:aa):Prop where
 len:D.length=N
 row:xX hb kt 3 (D.map (Value.int .i64)) g
theorem ZR.trans{hb:aa}{kt N:Nat}{D:List Int}{g g':aa}(m:ZR hb kt N D g)(o:Ok g g'):ZR hb kt N D g':=⟨m.len,m.row.trans o⟩
theorem ZR.get{hb:aa}{kt N c:Nat}{D:List Int}{g:aa}(m:ZR hb kt N D g){x:Nat}(h1:x<N):af SS.P 32 (.slice (some ⟨kt,0,none⟩) N c) (.int .i64 (x:Int))=some (.pointer (some ⟨kt,x,none⟩))/\ag SS.P 3 g (.pointer (some ⟨kt,x,none⟩))=some (.int .i64 (D.getD x (-1)))/\
  ∀z:Int,Wf hb->∃u:cL,an SS.P 3 (.pointer (some ⟨kt,x,none⟩)) (.int .i64 z) g=some (undef,u)/\ZR hb kt N (D.set x z) (u.app g)/\(∀k' B,g.get k'=some B->k'≠kt->(u.app g).get k'=some B)/\(u.app g).next=g.next:=by
 have e:0+(x:Int).toNat*1=x:=by omega
 have hl:x<D.length:=by rw[m.len];omega
 refine⟨?_,?_,?_⟩
 ·have:=F5 oT R8 (k:=kt) (off:=0) (n:=N) (c:=c) (ik:= .i64) (i:=(x:Int)) (by omega) (by omega);rwa[e]at this
 ·rw[eI J1 Ht m.row.row (by rw[lM];exact hl),gD,getElem?_map,gD,gE hl];rfl
 ·intro z w;refine⟨_,zq R8 m.row.row (by rw[lM];exact hl) rfl rfl,⟨by rw[List.length_set];exact m.len,?_⟩,λk' B hk hne=>?_,rfl⟩
  ·have:=m.row.set w x (.int .i64 z);rw[L9 (Value.int .i64) D x z]at this⊢;exact this
  ·show(g.set kt _).get k'=_;rw[aa.aR,if_neg hne];exact hk
structure Nc(h:aa)(k4 k5 kl N:Nat)(D:List Int)(T:List Nat)(g:aa):Prop where
 b4:qe g k4 32 (.slice (some ⟨kl,0,none⟩) N N)
 b5:∃tv,qe g k5 32 tv/\dX h g 3 tv (T.map iv)/\bc tv≠some kl/\bc tv≠some k4/\bc tv≠some k5
 row:ZR h kl N D g
 n4:h.next<=k4
 n5:h.next<=k5
 d1:k4≠kl
 d2:k5≠kl
 d3:k4≠k5
section
variable {h:aa} {k4 k5 kl N:Nat} {D:List Int} {T:List Nat} {g:aa}
theorem Nc.ext(s:Nc h k4 k5 kl N D T g){g':aa}(o:Ok g g'):Nc h k4 k5 kl N D T g':=by
 obtain⟨tv,t1,t2,t3⟩:=s.b5;exact⟨s.b4.ok o,⟨tv,t1.ok o,t2.ok o,t3⟩,s.row.trans o,s.n4,s.n5,s.d1,s.d2,s.d3⟩
theorem Ju(w:Wf h)(st:Nc h k4 k5 kl N D T g){s:Nat}(hs:s<N)(hT:T.length<=100000)(d:Int){X:Nat->Prop}(hX:∀k,X k->k<g.next/\k≠kl/\k≠k5/\∀tv,qe g k5 32 tv->bc tv≠some k):
  FW SS 32 [.int .i64 (s:Int),.int .i64 d,.pointer (some ⟨k4,0,none⟩),.pointer (some ⟨k5,0,none⟩)] g (λv g'=>v = .tuple ⟨[]⟩/\g.next<=g'.next/\Ok h g'/\(∀k B,X k->g.get k=some B->g'.get k=some B)/\(∀k,X k->∀tv,qe g' k5 32 tv->bc tv≠some k)/\
   ((¬D.getD s (-1)<0/\Nc h k4 k5 kl N D T g')\/(D.getD s (-1)<0/\Nc h k4 k5 kl N (D.set s d) (T++[s]) g'))):=by
 obtain⟨tv,t1,t2,t3,t4,t5⟩:=st.b5;obtain⟨r1,r2,r3⟩:=st.row.get (c:=N) hs;refine Jt s d k4 k5 g _ ⟨_,_,_,st.b4.ld oT vE,_,r1,_,r2,ae (λq=>?_) (λq=>?_)⟩
 ·have q:=dT q;obtain⟨u,s1,s2,s3,s4⟩:=r3 d w;refine⟨_,_,_,st.b4.ld oT vE,_,r1,u,s1,?_⟩;have b4':qe (u.app g) k4 32 (.slice (some ⟨kl,0,none⟩) N N):=s3 _ _ st.b4 st.d1;have b5':qe (u.app g) k5 32 tv:=s3 _ _ t1 st.d2;have ow:dX h (u.app g) 3 tv (T.map iv):=t2.dQ λj B hj hB=>s3 j B hB (λe=>t3 (by rw[hj,e]));have kX:∀k B,X k->g.get k=some B->(u.app g).get k=some B:=λk B hk hB=>s3 k B hB (hX k hk).2.1;have nX:∀k,X k->bc tv≠some k:=λk hk=>(hX k hk).2.2.2 tv t1;have lX:∀k,X k->k<(u.app g).next:=λk hk=>by
   have h1:=(hX k hk).1;omega
  generalize u.app g=g1 at*;obtain⟨ta,tc,rfl⟩:=ow.Mc;rw[lM]at*;refine⟨_,_,_,b5'.ld oT vE,?_⟩;have ok1:=s2.row.ok;have op:=(Ok.refl ok1.wf).push (.cells [.int .i64 (s:Int)] 3 1 true);have hk:=bm g1 (.cells [.int .i64 (s:Int)] 3 1 true);obtain⟨b,n',c',u2,a1,a2,a3,a4,a5,a6,a7⟩:=JM w (ok1.trans op) (ow.ok op) hk (by rw[lM];exact hT);refine⟨_,_,_,KH _,b,n',c',u2,a1,?_⟩;have b4'':=a5 _ _ (b4'.ok op) t4;have b5'':qe (u2.app (g1.push (.cells [.int .i64 (s:Int)] 3 1 true))) k5 32 _:=a5 _ _ (b5'.ok op) t5;have rw2:=a5 _ _ (op.ext _ _ s2.row.row) t3;have kX2:∀k B,X k->g.get k=some B->(u2.app (g1.push (.cells [.int .i64 (s:Int)] 3 1 true))).get k=some B:=λk B hk hB=>a5 _ _ (op.ext _ _ (kX k B hk hB)) (nX k hk);have hgn:g1.next<=(g1.push (.cells [.int .i64 (s:Int)] 3 1 true)).next:=Nat.le_succ _;have l4:=ok1.wf _ _ b4';have l5:=ok1.wf _ _ b5';have lt:=s2.row.lt;generalize g1.push (.cells [.int .i64 (s:Int)] 3 1 true)=gp at*;generalize u2.app gp=g2 at*;have okf:Ok h ((cL.set k5 (.cells [.slice b n' c'] 32 0 true)).app g2):=a4.set _ st.n5 (a4.wf _ _ b5'') w;have hset:∀j,j≠k5->((cL.set k5 (.cells [.slice b n' c'] 32 0 true)).app g2).get j=g2.get j:=λj hj=>by
   show(g2.set k5 _).get j=_;rw[aa.aR,if_neg hj]
  have hself:((cL.set k5 (.cells [.slice b n' c'] 32 0 true)).app g2).get k5=some (.cells [.slice b n' c'] 32 0 true):=by
   show(g2.set k5 _).get k5=_;rw[aa.aR,if_pos rfl]
  have nb:∀j,bc (.slice ta T.length tc)≠some j->j<g1.next->bc (.slice b n' c')≠some j:=λj h1 h2 e=>by
   rcases a6 j e with h3|h3
   ·omega
   ·exact h1 h3
  have hbx:∀tv,qe ((cL.set k5 (.cells [.slice b n' c'] 32 0 true)).app g2) k5 32 tv->tv = .slice b n' c':=λtv ht=>by
   have:=hself.symm.trans ht;injection this with this;injection this with this;injection this with this
   exact this.symm
  refine⟨_,b5''.st xD (jA _ _ _) rfl,rfl,?_,okf,λk B hk hB=>?_,λk hk tv ht=>?_,.inr ⟨q,?_,⟨_,hself,?_,nb _ t3 lt,nb _ t4 l4,nb _ t5 l5⟩,⟨s2.len,?_,s2.row.new,okf⟩,st.n4,st.n5,st.d1,st.d2,st.d3⟩⟩
  ·show _<=g2.next;omega
  ·rw[hset _ (hX k hk).2.2.1];exact kX2 k B hk hB
  ·rw[hbx tv ht];exact nb k (nX k hk) (lX k hk)
  ·show _=_;rw[hset _ st.d3];exact b4''
  ·rw[map_append];exact a3.dQ λj B hj hB=>by rw[hset j (λe=>nb _ t5 l5 (by rw[hj,e]))];exact hB
  ·rw[hset _ (λe=>st.d2 e.symm)];exact rw2
 ·have q:=dF q;exact⟨rfl,Nat.le_refl _,st.row.row.ok,λ_ _ _ h=>h,λk hk=>(hX k hk).2.2.2,.inl ⟨q,st⟩⟩
end
end
section
def lX(kb kl k4 k5:Nat):Nat->Prop:=λk=>k=kb\/k=kl\/k=k4\/k=k5
structure Ds(kb kl k4 k5:Nat):Prop where
 d1:kb≠kl
 d2:kb≠k4
 d3:kb≠k5
 d4:k4≠kl
 d5:k5≠kl
 d6:k4≠k5
structure B1(hb:aa)(n kb kl k4 k5:Nat)(D:List Int)(vs:List Value)(F:List (List Nat))(g:aa):Prop where
 us:Us hb 1 (λ_=>kb) n (lX kb kl k4 k5) vs F g
 zr:ZR hb kl n D g
 b4:qe g k4 32 (.slice (some ⟨kl,0,none⟩) n n)
 b5:qe g k5 32 (.slice none 0 0)
 d:Ds kb kl k4 k5
section
variable {hb g:aa} {n kb kl k4 k5:Nat} {D:List Int} {vs:List Value} {F:List (List Nat)}
theorem B1.ext(s:B1 hb n kb kl k4 k5 D vs F g){g':aa}(o:Ok g g'):B1 hb n kb kl k4 k5 D vs F g':=⟨s.us.ext o,s.zr.trans o,s.b4.ok o,s.b5.ok o,s.d⟩
theorem B1.neg(w:Wf hb)(s:B1 hb n kb kl k4 k5 D vs F g){i:Nat}(hi:i<n)(z:Int):
  ∃u:cL,an SS.P 3 (.pointer (some ⟨kl,i,none⟩)) (.int .i64 z) g=some (undef,u)/\B1 hb n kb kl k4 k5 (D.set i z) vs F (u.app g)/\(∀k B,g.get k=some B->k≠kl->(u.app g).get k=some B):=by
 obtain⟨_,_,r3⟩:=s.zr.get (c:=n) hi;obtain⟨u,s1,s2,s3,s4⟩:=r3 z w;refine⟨u,s1,⟨⟨λr hr=>s3 _ _ (s.us.cc r hr) s.d.d1,s.us.Hi.dQ λk B hX hB=>s3 k B hB (λe=>hX (.inr (.inl e))),s2.row.ok,s.us.len,s.us.xt,s.us.inj,λk hk=>by rw[s4];exact s.us.RZ k hk⟩,s2,s3 _ _ s.b4 s.d.d4,s3 _ _ s.b5 s.d.d5,s.d⟩,s3⟩
theorem B1.add(w:Wf hb)(s:B1 hb n kb kl k4 k5 D vs F g){t:Nat}(ht:t<n)(x:Nat){kx:Nat}(hkx:g.get kx=some (.cells [.int .i64 (x:Int)] 3 1 true)){l:List Nat}{a:Option Addr}{c:Nat}(hF:F[0*n+t]?=some l)(hv:vs[0*n+t]?=some (.slice a l.length c))(hl:l.length<=100000):
  ∃(b:Option Addr)(n' c':Nat)(u:cL),aY SS.P 32 32 (.slice a l.length c) (.slice (some ⟨kx,0,none⟩) 1 1) g=some (.slice b n' c',u)/\
  (∀j B,g.get j=some B->bc (.slice a l.length c)≠some j->(u.app g).get j=some B)/\
  ∃u2:cL,an SS.P 32 (.pointer (some ⟨kb,t,none⟩)) (.slice b n' c') (u.app g)=some (undef,u2)/\
   B1 hb n kb kl k4 k5 D (vs.set (0*n+t) (.slice b n' c')) (F.set (0*n+t) (l++[x])) (u2.app (u.app g)):=by
 obtain⟨b,n',c',u,a1,a2,fm,ok4,kp4,nx4⟩:=s.us.Hi.snoc w s.us.ok s.us.RZ hv hF hkx hl;have nX:∀k,lX kb kl k4 k5 k->bc (.slice a l.length c)≠some k:=λk hX e=>s.us.Hi.out _ _ hv k e hX;obtain⟨u2,s1,U5,kp5⟩:=s.us.put w (r:=0) (by omega) ht rfl rfl fm ok4 (λj B hj hX=>kp4 j B hj (nX j hX)) nx4;refine⟨b,n',c',u,a1,kp4,u2,s1,U5,⟨s.zr.len,kp5 _ _ (kp4 _ _ s.zr.row.row (nX _ (.inr (.inl rfl)))) (λe=>s.d.d1 e.symm),s.zr.row.new,U5.ok⟩,kp5 _ _ (kp4 _ _ s.b4 (nX _ (.inr (.inr (.inl rfl))))) (λe=>s.d.d2 e.symm),kp5 _ _ (kp4 _ _ s.b5 (nX _ (.inr (.inr (.inr rfl))))) (λe=>s.d.d3 e.symm),s.d⟩
end
structure DL(M:cb)(n i j cN:Nat)(F:List (List Nat)):Prop where
 bk:∀t l,t<n->F[0*n+t]?=some l->∀x,x∈l↔MF M i j x t
 ln:∀l∈F,l.length<=cN
theorem DL.T4{M:cb}{n i j cN:Nat}{F:List (List Nat)}(d:DL M n i j cN F){s:iM}{q:dj}(hs:M.aA[i]?=some s)(hq:s.bD[j]?=some q){T:Nat}(hT:q.t.toNat=T){l:List Nat}(hl:F[0*n+T]?=some l):DL M n i (j+1) (cN+1) (F.set (0*n+T) (l++[i])):=by
 have b1:=d.ln l (List.mem_of_getElem? hl);refine⟨λt l' ht hl' x=>?_,λl' hl'=>?_⟩
 ·rw[Jj hs hq,hT];rcases dd hl' with⟨e,rfl⟩|⟨e,hl'⟩
  ·obtain rfl:t=T:=by omega
   rw[mem_append,mem_singleton,d.bk _ l ht hl x];exact⟨λc=>c.imp id λc=>⟨c,rfl⟩,λc=>c.imp id λc=>c.1⟩
  ·rw[d.bk t l' ht hl' x];exact⟨.inl,λc=>c.elim id λc=>absurd (by rw[c.2]) e⟩
 ·rcases List.mem_or_eq_of_mem_set hl' with h|h
  ·have:=d.ln l' h;omega
  ·subst h;rw[length_append,length_singleton];omega
theorem DL.next{M:cb}{n i j cN:Nat}{F:List (List Nat)}(d:DL M n i j cN F){s:iM}(hs:M.aA[i]?=some s)(hj:s.bD.length<=j):DL M n (i+1) 0 cN F:=
 ⟨λt l ht hl x=>by rw[d.bk t l ht hl x,Ji hs hj,uB],d.ln⟩
section
variable {hb:aa} {M:cb} {a:Option Addr} {n c k kb kl k4 k5:Nat}
def TK(hb:aa)(M:cb)(n kb kl k4 k5:Nat)(mz i:Nat)(g:aa):Prop:=i<=n/\mz=n-i/\∃D vs F cN,B1 hb n kb kl k4 k5 D vs F g/\DL M n i 0 cN F/\(∀q,q<i->D.getD q (-1) = -1)/\cN+uY (M.aA.drop i)<=2300
def T7(hb:aa)(M:cb)(n kb kl k4 k5 m i:Nat)(mz2 j:Nat)(g:aa):Prop:=j<=m/\mz2=m-j/\∃D vs F cN,B1 hb n kb kl k4 k5 D vs F g/\DL M n i j cN F/\(∀q,q<i+1->D.getD q (-1) = -1)/\cN+(m-j)+uY (M.aA.drop (i+1))<=2300
set_option linter.defProp false in
def Ll(w:Wf hb)(gd:Good M)(hnM:n=M.aA.length)(hn:n<=300){s:iM}{b:Option Addr}{m d i k8:Nat}(hs:M.aA[i]?=some s)(hi:i<n)(ar:fQ hb (.slice b m d) s.bD)(hsl:s.bD.length<=2000)(mv:List Value)(mz:Nat)(hmz:mz=n-i)(Q:VH):=
 r9 mv k n kb k4 k5 a n c k8 b m d (TK hb M n kb kl k4 k5) mz i (T7 hb M n kb kl k4 k5 m i) Q (by
  intro mz2 j;intros;rename_i g hin;obtain⟨f1,f2,D,vs,F,cN,ub,dl,hD,hcN⟩:=hin;have hm:=ar.len;have ok:=ub.us.ok;refine ae (λg1=>?_) (λg1=>?_)
  ·have g1:=dT g1;obtain⟨q,hq⟩:∃q,s.bD[j]?=some q:=⟨_,gE (by omega)⟩
   obtain⟨bb,o,e1,e2,_⟩:=(ar.ok ok).at_ hq;have hin:=gd.bD s (List.mem_of_getElem? hs) q (List.mem_of_getElem? hq);obtain⟨T,hT⟩:∃T:Nat,q.t=(T:Int):=⟨q.t.toNat,by have:=hin.t0;omega⟩
   have hTn:T<n:=by have:=hin.t1;omega
   have hTq:q.t.toNat=T:=by omega
   obtain⟨u1,p1,p2,p3⟩:=xb ok.wf q;have l3:∀g',AB g' g.next q->ag SS.P 3 g' (.pointer (some ⟨g.next,0+3,none⟩))=some (.int .i64 (T:Int)):=λg' h=>by rw[<-hT];exact AB.l3 h
   have hlt:∀(idx:Nat)(v:Value),vs[idx]?=some v->bc v≠some g.next:=λidx v hv e=>by have:=ub.us.Hi.lt ok.wf hv e;omega
   have U2:=ub.ext p2;refine⟨_,e1,_,e2,_,Fu,u1,p1,?_⟩;generalize u1.app (g.push Hm)=g2 at*;have w2:=U2.us.ok.wf;have oR:=(Ok.refl w2).room 13;obtain⟨r1,a1,c1,hF1,hv1,ix1,Py⟩:=U2.us.ld (r:=0) (i:=T) (by omega) hTn;have hr1:=dl.ln r1 (List.mem_of_getElem? hF1);obtain⟨o9,k9⟩:=LQ w2 (n:=13) (j:=9) (by omega) (.cells [.int .i64 (i:Int)] 3 1 true);have ldR:=(Py _ (U2.us.ext oR)).1;have U3:=U2.ext o9;have A3:=AB.ok p3 o9;obtain⟨b',n',c',u,ap1,kp4,u2,To,U5⟩:=U3.add w hTn i k9 hF1 hv1 (by omega);refine⟨_,qI _ _,_,l3 _ (p3.ok oR),_,qI _ _,_,l3 _ (p3.ok oR),_,ix1,_,_,_,ldR,_,_,_,KH _,b',n',c',u,ap1,_,ix1,u2,To,⟨l3 _ (kp4 _ _ A3 (hlt _ _ hv1)),Mt _⟩,?_⟩;rw[bW (i:=j) (n:=m) (by omega) (by omega)];exact eH (mz2-1) (by omega) ⟨by omega,by omega,D,_,_,cN+1,U5,dl.T4 hs hq hTq hF1,hD,by omega⟩
  ·have g1:=dF g1;rw[bW hi (by omega)];exact eH (n-(i+1)) (by omega) ⟨by omega,rfl,D,vs,F,cN,ub,dl.next hs (by omega),hD,by omega⟩)
end
end
section
def aN(M:cb)(q:Nat):List (Nat×Nat):=match M.aA[q]? with|some s=>s.bD.map λa=>(a.i.toNat,a.t.toNat)|none=>[]
def fN(M:cb)(q:Nat):Prop:=∃s,M.aA[q]?=some s/\s.f≠[]
theorem j9{M:cb}{q x t:Nat}:(x,t)∈aN M q↔ ∃s,M.aA[q]?=some s/\∃a∈s.bD,a.i.toNat=x/\a.t.toNat=t:=by
 unfold aN
 cases h:M.aA[q]? with
 |none=>simp
 |some s=>simp
theorem Eo{M:cb}{q t:Nat}:(∃x,(x,t)∈aN M q)↔rJ M q t:=by
 unfold rJ rK;constructor
 ·rintro⟨x,h⟩;obtain⟨s,h1,a,h2,h3,h4⟩:=j9.1 h;exact⟨s,h1,mem_map.2 ⟨a,h2,h4⟩⟩
 ·rintro⟨s,h1,h2⟩;obtain⟨a,h3,h4⟩:=mem_map.1 h2;exact⟨_,j9.2 ⟨s,h1,a,h3,rfl,h4⟩⟩
theorem B6{M:cb}{q t:Nat}(h:rJ M q t):q<M.aA.length:=by
 obtain⟨s,h1,_⟩:=h;exact(List.getElem?_eq_some_iff.1 h1).1
theorem um{n:Nat}:∀{T:List Nat},T.Nodup->(∀q∈T,q<n)->T.length<=n:=by
 intro T h1 h2;have:=List.Nodup.length_le_of_subset (l₂:=List.range n) h1 λq hq=>List.mem_range.2 (h2 q hq);rwa[length_range]at this
structure Bk(hb:aa)(kb n:Nat)(vs:List Value)(F:List (List Nat))(g:aa):Prop where
 row:g.get kb=some (.cells vs 32 1 true)
 lv:vs.length=n
 lF:F.length=n
 own:∀(i:Nat)(v:Value)(l:List Nat),vs[i]?=some v->F[i]?=some l->dX hb g 3 v (l.map iv)
def BX(kb:Nat)(vs:List Value):Nat->Prop:=λk=>k=kb\/ ∃(i:Nat)(v:Value),vs[i]?=some v/\bc v=some k
structure Bf(hb:aa)(k4 k5 kl kb n:Nat)(vs:List Value)(F:List (List Nat))(D:List Int)(T:List Nat)(g:aa):Prop where
 st:Nc hb k4 k5 kl n D T g
 bk:Bk hb kb n vs F g
 hX:∀k,BX kb vs k->k<g.next/\k≠kl/\k≠k5/\∀tv,qe g k5 32 tv->bc tv≠some k
section
variable {hb g:aa} {k4 k5 kl kb n:Nat} {vs:List Value} {F:List (List Nat)} {D:List Int} {T:List Nat}
theorem Bk.dQ(b:Bk hb kb n vs F g){g':aa}(h:∀k B,BX kb vs k->g.get k=some B->g'.get k=some B):Bk hb kb n vs F g':=
 ⟨h _ _ (.inl rfl) b.row,b.lv,b.lF,λi v l hv hl=>(b.own i v l hv hl).dQ λk B hk hB=>h k B (.inr ⟨i,v,hv,hk⟩) hB⟩
theorem PW{g g':aa}{k:Nat}{v v':Value}(b:qe g k 32 v)(o:Ok g g')(b':qe g' k 32 v'):v=v':=by
 have:=(o.ext _ _ b).symm.trans b';injection this with this;injection this with this;injection this with this
theorem Bf.ext(b:Bf hb k4 k5 kl kb n vs F D T g){g':aa}(o:Ok g g'):Bf hb k4 k5 kl kb n vs F D T g':=by
 obtain⟨tv,t1,_⟩:=b.st.b5;refine⟨b.st.ext o,b.bk.dQ λk B _ h=>o.ext k B h,λk hk=>?_⟩;obtain⟨h1,h2,h3,h4⟩:=b.hX k hk;exact⟨Nat.lt_of_lt_of_le h1 o.nx,h2,h3,λtv' ht=>PW t1 o ht▸h4 tv t1⟩
theorem Bf.ok(b:Bf hb k4 k5 kl kb n vs F D T g):Ok hb g:=b.st.row.row.ok
theorem Ad(w:Wf hb)(b:Bf hb k4 k5 kl kb n vs F D T g){s:Nat}(hs:s<n)(hT:T.length<=100000)(d:Int):
  FW SS 32 [.int .i64 (s:Int),.int .i64 d,.pointer (some ⟨k4,0,none⟩),.pointer (some ⟨k5,0,none⟩)] g (λv g'=>v = .tuple ⟨[]⟩/\((¬D.getD s (-1)<0/\Bf hb k4 k5 kl kb n vs F D T g')\/(D.getD s (-1)<0/\Bf hb k4 k5 kl kb n vs F (D.set s d) (T++[s]) g'))):=by
 refine(Ju w b.st hs hT d b.hX).mono ?_;rintro _ g' ⟨rfl,h1,h2,h3,h4,h5⟩;have hX:∀k,BX kb vs k->k<g'.next/\k≠kl/\k≠k5/\∀tv,qe g' k5 32 tv->bc tv≠some k:=λk hk=>by
  obtain⟨e1,e2,e3,_⟩:=b.hX k hk;exact⟨Nat.lt_of_lt_of_le e1 h1,e2,e3,h4 k hk⟩
 exact⟨rfl,h5.imp (λc=>⟨c.1,c.2,b.bk.dQ h3,hX⟩) (λc=>⟨c.1,c.2,b.bk.dQ h3,hX⟩)⟩
theorem Bf.todo(b:Bf hb k4 k5 kl kb n vs F D T g):∃(a:Option Addr)(c:Nat),ag SS.P 32 g (.pointer (some ⟨k5,0,none⟩))=some (.slice a T.length c)/\Rd g 3 (.slice a T.length c) (T.map iv):=by
 obtain⟨tv,t1,t2,_⟩:=b.st.b5;obtain⟨a,c,rfl⟩:=t2.Mc;rw[lM]at*;exact⟨a,c,t1.ld oT vE,t2.rd⟩
theorem Bf.back(b:Bf hb k4 k5 kl kb n vs F D T g){t:Nat}{l:List Nat}(hl:F[t]?=some l):∃(a:Option Addr)(c:Nat),af SS.P 27 (.slice (some ⟨kb,0,none⟩) n n) (.int .i64 (t:Int))=some (.pointer (some ⟨kb,t,none⟩))/\ag SS.P 32 g (.pointer (some ⟨kb,t,none⟩))=some (.slice a l.length c)/\vs[t]?=some (.slice a l.length c)/\Rd g 3 (.slice a l.length c) (l.map iv):=by
 have ht:=(List.getElem?_eq_some_iff.1 hl).1;have h1:=b.bk.lF;have h2:=b.bk.lv;obtain⟨v,hv⟩:∃v,vs[t]?=some v:=⟨_,gE (by omega)⟩
 have o:=b.bk.own t v l hv hl;obtain⟨a,c,rfl⟩:=o.Mc;rw[lM]at*;refine⟨a,c,?_,?_,hv,o.rd⟩
 ·have:=F5 (P:=SS.P) JI xD (k:=kb) (off:=0) (n:=n) (c:=n) (ik:= .i64) (i:=(t:Int)) (by omega) (by omega);rw[this,Int.toNat_natCast,Nat.zero_add,Nat.mul_one]
 ·rw[eI oT vE b.bk.row (by omega),gD,hv];rfl
end
structure Bs(hb:aa)(M:cb)(k4 k5 kl kb n:Nat)(vs:List Value)(F:List (List Nat))(D:List Int)(T:List Nat)(i:Nat)(Pd:Nat->Prop)(g:aa):Prop where
 bf:Bf hb k4 k5 kl kb n vs F D T g
 inv:fR (aN M) (fN M) n D T i Pd
 nd:T.Nodup
 up:∀q,D.getD q (-1)<=T.length
 il:i<=T.length
def Ty(M:cb)(n:Nat)(F:List (List Nat)):Prop:=∀t l,t<n->F[t]?=some l->l.length<=2300/\∀x,x∈l↔rJ M x t
section
variable {hb:aa} {M:cb} {n k k4 k5 kl kb:Nat} {vs:List Value} {F:List (List Nat)}
def TL(hb:aa)(M:cb)(k4 k5 kl kb n:Nat)(vs:List Value)(F:List (List Nat))(mz4 i:Nat)(g:aa):Prop:=mz4=n-i/\∃D T,Bs hb M k4 k5 kl kb n vs F D T i (λ_=>False) g
def T9(hb:aa)(M:cb)(k4 k5 kl kb n:Nat)(vs:List Value)(F:List (List Nat))(t:Nat)(l:List Nat)(i:Nat)(mz5 j:Nat)(g:aa):Prop:=j<=l.length/\mz5=l.length-j/\∃D T,T[i]?=some t/\Bs hb M k4 k5 kl kb n vs F D T i (λq=>q∈l.take j) g
def NS(h:aa)(M:cb)(n:Nat):VH:=λv h'=>∃kl D,v = .slice (some ⟨kl,0,none⟩) n n/\ZR h kl n D h'/\∀q,ky (aN M) (fN M) q (D.getD q (-1))
theorem M8.congr{A:Nat->List (Nat×Nat)}{Fp:Nat->Prop}{D:List Int}{T:List Nat}{i:Nat}{P P':Nat->Prop}(b:fR A Fp n D T i P)(h:∀q,P' q->P q):fR A Fp n D T i P':=
 { b with part:=λt ht q hq=>b.part t ht q (h q hq) }
set_option linter.defProp false in
def IF(w:Wf hb)(hn:n<=300)(hnM:n=M.aA.length){t i:Nat}{l:List Nat}(hl:F[t]?=some l)(ht:t<n)(hll:l.length<=2300)(hlS:∀x,x∈l↔rJ M x t){a:Option Addr}{c:Nat}(hv:vs[t]?=some (.slice a l.length c))(mv:List Value)(Q:VH)(mz4:Nat)(hmz:mz4=n-i):=
 sd mv k n kb k4 k5 a l.length c (TL hb M k4 k5 kl kb n vs F) mz4 i (T9 hb M k4 k5 kl kb n vs F t l i) Q (by
  intro mz5 j;intros;rename_i g hin;obtain⟨f1,f2,D,T,hti,bs⟩:=hin;have hTl:=um bs.nd bs.inv.tn;have hil:i<T.length:=(List.getElem?_eq_some_iff.1 hti).1;refine ae (λg1=>?_) (λg1=>?_)
  ·have g1:=dT g1;obtain⟨p,hp⟩:∃p,l[j]?=some p:=⟨_,gE (by omega)⟩
   have hS:=(hlS p).1 (List.mem_of_getElem? hp);have hpn:p<n:=by rw[hnM];exact B6 hS
   obtain⟨x,hx⟩:=Eo.2 hS;obtain⟨a',c',_,_,hv',rd⟩:=bs.bf.back hl;rw[hv]at hv';injection hv' with hv'
   injection hv' with q1 q2 q3
   subst q1;subst q3;obtain⟨P,e1,e2⟩:=R3 rd hp;have oR:=(Ok.refl bs.bf.ok.wf).room 11;have BR:=bs.bf.ext oR;obtain⟨ta,tc,t1,t2⟩:=BR.todo;obtain⟨P2,e3,e4⟩:=R3 t2 hti;obtain⟨z1,z2,_⟩:=BR.st.row.get (c:=n) ht;have hup:=bs.up t;have hlo:=bs.inv.low t ht;refine⟨_,e1,_,e2,_,_,_,BR.st.b4.ld oT vE,_,_,_,t1,_,e3,_,e4,_,z1,_,z2,?_⟩;dsimp only;rw[show wrap .i64 (D.getD t (-1)+1)=D.getD t (-1)+1 from aB (by omega) (by omega)];refine(Ad w BR hpn (by omega) (D.getD t (-1)+1)).mono ?_;rintro _ g2 ⟨rfl,hc⟩;refine⟨rfl,?_⟩;rw[bW (i:=j) (n:=l.length) (by omega) (by omega)];have htk:∀q,q∈l.take (j+1)->q∈l.take j\/q=p:=λq hq=>by
    rw[List.take_add_one,hp]at hq;rcases mem_append.1 hq with h|h
    ·exact .inl h
    ·exact .inr (by simpa using h)
   rcases hc with⟨c1,c2⟩|⟨c1,c2⟩
   ·exact eH (mz5-1) (by omega) ⟨by omega,by omega,D,T,hti,c2,M8.congr (bs.inv.old hti hpn c1) htk,bs.nd,bs.up,bs.il⟩
   ·have hpT:p∉T:=λh=>by have:=(bs.inv.mem p hpn).2 h;omega
    refine eH (mz5-1) (by omega) ⟨by omega,by omega,_,_,by rw[List.getElem?_append_left hil];exact hti,c2,M8.congr (bs.inv.Ud hti hpn hx c1) htk,?_,λq=>?_,by rw[length_append];omega⟩
    ·rw[List.nodup_append];refine⟨bs.nd,by simp,λa ha b hb' e=>?_⟩;rw[mem_singleton]at hb';subst hb';subst e;exact hpT ha
    ·rw[kz D p q _ (by rw[bs.inv.len];exact hpn),length_append,length_singleton];have:=bs.up q;split<;>omega
  ·have g1:=dF g1;have hjl:l.take j=l:=List.take_of_length_le (by omega);rw[bW (i:=i) (n:=T.length) hil (by omega)];refine eH (n-(i+1)) (by omega) ⟨rfl,D,T,bs.bf,bs.inv.next hti λq x hq=>?_,bs.nd,bs.up,by omega⟩;rw[hjl];exact(hlS q).2 (Eo.1 ⟨x,hq⟩))
set_option linter.defProp false in
def Lm{h:aa}(w:Wf hb)(okb:Ok h hb)(hn:n<=300)(hnM:n=M.aA.length)(hA:∀q x t,(x,t)∈aN M q->q<n/\t<n)(bk:Ty M n F)(mv:List Value):=
 sc mv k n kb k4 k5 (TL hb M k4 k5 kl kb n vs F) (NS h M n) (by
  intro mz4 i;intros;rename_i g hin;obtain⟨f1,D,T,bs⟩:=hin;obtain⟨ta,tc,t1,t2⟩:=bs.bf.todo;have hTl:=um bs.nd bs.inv.tn;refine⟨_,_,_,t1,ae (λg1=>?_) (λg1=>?_)⟩
  ·have g1:=dT g1;obtain⟨t,hti⟩:∃t,T[i]?=some t:=⟨_,gE (by omega)⟩
   have htn:=bs.inv.tn t (List.mem_of_getElem? hti);obtain⟨P,e1,e2⟩:=R3 t2 hti;obtain⟨l,hl⟩:∃l,F[t]?=some l:=⟨_,gE (by rw[bs.bf.bk.lF];exact htn)⟩
   obtain⟨a,c,b1,b2,b3,b4⟩:=bs.bf.back hl;obtain⟨h1,h2⟩:=bk t l htn hl;refine⟨_,_,_,t1,_,e1,_,e2,_,b1,_,_,_,b2,?_⟩;exact IF w hn hnM hl htn h1 h2 b3 mv _ mz4 f1 l.length (j:=0) ⟨by omega,by omega,D,T,hti,bs.bf,M8.congr bs.inv (λq hq=>by simp at hq),bs.nd,bs.up,bs.il⟩
  ·have g1:=dF g1;refine⟨_,_,_,bs.bf.st.b4.ld oT vE,kl,D,rfl,⟨bs.bf.st.row.len,bs.bf.st.row.row.row,Nat.le_trans okb.nx bs.bf.st.row.row.new,okb.trans bs.bf.ok⟩,bs.inv.Sz hA (by omega)⟩)
end
end
section
theorem uh{M:cb}{i:Nat}(hi:i<M.aA.length):∃s,M.aA[i]?=some s:=⟨_,gE hi⟩
theorem QM(n:Nat)(hn:n<=100000):bM SS.P 32 (.int .i64 (n:Int)) (.int .i64 (n:Int))=some (.cells ((List.replicate n (0:Int)).map (Value.int .i64)) 3 1 true,jE n n):=by
 rw[SV n hn,map_replicate,map_replicate];rfl
def Hn(n:Nat):bt:= .cells (List.replicate n Br) 32 1 true
theorem QK(n:Nat)(hn:n<=100000):bM SS.P 27 (.int .i64 (n:Int)) (.int .i64 (n:Int))=some (Hn n,jE n n):=SU n hn
def Kg:bt:= .cells [.slice none 0 0] 32 0 true
theorem PO:bN SS.P 32=some (Kg,kj):=by kernel_rfl
structure Fi(M:cb)(n:Nat)(D:List Int)(T:List Nat)(i:Nat):Prop where
 len:D.length=n
 val:∀q,q<n->D.getD q (-1)=if q∈T then 0 else -1
 mem:∀q,q∈T↔q<i/\fN M q
 nd:T.Nodup
theorem Fi.inv{M:cb}{n:Nat}{D:List Int}{T:List Nat}(f:Fi M n D T n)(hn:n=M.aA.length):fR (aN M) (fN M) n D T 0 (λ_=>False):=by
 have tn:∀q∈T,q<n:=λq hq=>((f.mem q).1 hq).1;have v0:∀q∈T,D.getD q (-1)=0:=λq hq=>by rw[f.val q (tn q hq),if_pos hq]
 refine⟨f.len,λq hq=>?_,λq hq=>?_,tn,λq hq=>⟨[],((f.mem q).1 hq).2,by rw[v0 q hq];rfl⟩,λa b x y _ h1 h2=>?_,λx h1 y hy=>?_,λq hq=>?_,λa t ha=>absurd ha (not_lt_zero _),λ_ _ _ h=>h.elim⟩
 ·rw[f.val q hq];split
  ·next h=>exact⟨λ_=>h,λ_=>Int.le_refl _⟩
  ·next h=>exact⟨λc=>by omega,λc=>absurd c h⟩
 ·rw[f.val q hq];split<;>omega
 ·rw[v0 x (List.mem_of_getElem? h1),v0 y (List.mem_of_getElem? h2)];exact Int.le_refl _
 ·rw[v0 x (List.mem_of_getElem? h1),v0 y hy];omega
 ·have h1:q<n:=by
   obtain⟨s,h,_⟩:=hq;rw[hn];exact(List.getElem?_eq_some_iff.1 h).1
  have h2:=(f.mem q).2 ⟨h1,hq⟩;exact⟨h2,v0 q h2⟩
section
variable {hb:aa} {M:cb} {a:Option Addr} {n c k kb kl k4 k5:Nat} {vs:List Value} {F:List (List Nat)}
def T8(hb:aa)(M:cb)(k4 k5 kl kb n:Nat)(vs:List Value)(F:List (List Nat))(mz3 i:Nat)(g:aa):Prop:=i<=n/\mz3=n-i/\∃D T,Bf hb k4 k5 kl kb n vs F D T g/\Fi M n D T i
set_option linter.defProp false in
def QD{h:aa}(w:Wf hb)(okb:Ok h hb)(hn:n<=300)(hnM:n=M.aA.length)(hA:∀q x t,(x,t)∈aN M q->q<n/\t<n)(bk:Ty M n F)(mb0:MB hb k M a n c)(mv:List Value):=
 sa mv k n kb k4 k5 a n c (T8 hb M k4 k5 kl kb n vs F) (NS h M n) (by
  intro mz3 i;intros;rename_i g hin;obtain⟨f1,f2,D,T,bf,fi⟩:=hin;have mb:=mb0.ok bf.ok;have hTl:T.length<=n:=um fi.nd λq hq=>by have:=((fi.mem q).1 hq).1;omega
  refine ae (λg1=>?_) (λg1=>?_)
  ·have g1:=dT g1;have hi:i<n:=by omega
   obtain⟨s,hs⟩:=uh (M:=M) (i:=i) (by omega);obtain⟨b,o,x',y,z,e1,e2,e3,e4,ar⟩:=mb.row.at_ hs;obtain⟨u,p1,p2,p3⟩:=BC bf.ok.wf s.f x' y z;have B2:=bf.ext p2;refine⟨_,e1,_,e2,_,Hw,u,p1,_,yx _ _,_,p3.l0,ae (λg2=>?_) (λg2=>?_)⟩
   ·have g2:s.f≠[]:=by simpa using g2
    refine(Ad w B2 hi (by omega) 0).mono ?_;rintro _ g3 ⟨rfl,hc⟩;refine⟨rfl,?_⟩;rw[bW hi (by omega)];have hiT:i∉T:=λh=>by have:=((fi.mem i).1 h).1;omega
    have hv:D.getD i (-1) = -1:=by rw[fi.val i hi,if_neg hiT]
    rcases hc with⟨c1,c2⟩|⟨c1,c2⟩
    ·omega
    ·refine eH (mz3-1) (by omega) ⟨by omega,by omega,_,_,c2,by rw[List.length_set];exact fi.len,λq hq=>?_,λq=>?_,?_⟩
     ·rw[kz D i q _ (by rw[fi.len];exact hi),fi.val q hq];by_cases e:q=i
      ·subst e;rw[if_pos rfl,if_pos (by simp)]
      ·rw[if_neg e];simp[e]
     ·rw[mem_append,mem_singleton,fi.mem q];constructor
      ·rintro(⟨h1,h2⟩|h1)
       ·exact⟨by omega,h2⟩
       ·subst h1;exact⟨by omega,s,hs,g2⟩
      ·rintro⟨h1,h2⟩;by_cases e:q=i
       ·exact .inr e
       ·exact .inl ⟨by omega,h2⟩
     ·rw[List.nodup_append];refine⟨fi.nd,by simp,λa ha b hb' e=>?_⟩;rw[mem_singleton]at hb';subst hb';subst e;exact hiT ha
   ·have g2:s.f=[]:=by simpa using g2
    rw[bW hi (by omega)];refine eH (mz3-1) (by omega) ⟨by omega,by omega,D,T,B2,fi.len,fi.val,λq=>?_,fi.nd⟩;rw[fi.mem q];refine⟨λh=>⟨by omega,h.2⟩,λh=>⟨?_,h.2⟩⟩;rcases lt_or_ge q i with h3|h3
    ·exact h3
    ·obtain rfl:q=i:=by omega
     obtain⟨s',h4,h5⟩:=h.2;rw[hs]at h4;obtain rfl:=oI h4;exact absurd g2 h5
  ·have g1:=dF g1;obtain rfl:n=i:=by omega
   refine Lm w okb hn hnM hA bk mv n (i:=0) ⟨rfl,D,T,bf,fi.inv hnM,fi.nd,λq=>?_,zero_le _⟩;rcases lt_or_ge q n with h|h
   ·rw[fi.val q h];split<;>omega
   ·rw[gD,List.getElem?_eq_none (by rw[fi.len];exact h)];simp)
theorem B1.bf{D:List Int}{vs:List Value}{F:List (List Nat)}{g:aa}(s:B1 hb n kb kl k4 k5 D vs F g)(n4:hb.next<=k4)(n5:hb.next<=k5):Bf hb k4 k5 kl kb n ((vs.drop (0*n)).take n) ((F.drop (0*n)).take n) D [] g:=by
 have hF:=s.us.len;have hv:=s.us.Hi.len;have l1:((vs.drop (0*n)).take n).length=n:=by rw[List.length_take,List.length_drop];omega
 have l2:((F.drop (0*n)).take n).length=n:=by rw[List.length_take,List.length_drop];omega
 have at_:∀{α:Type}{l:List α}{i:Nat}{v:α},((l.drop (0*n)).take n)[i]?=some v->l[0*n+i]?=some v:=λ{α l i v} h=>by
  rw[List.getElem?_take]at h;split at h
  ·rwa[List.getElem?_drop]at h
  ·cases h
 refine⟨⟨s.b4,⟨_,s.b5,dX.nil _ _ _,by simp[bc],by simp[bc],by simp[bc]⟩,s.zr,n4,n5,s.d.d4,s.d.d5,s.d.d6⟩,⟨s.us.cc 0 (by omega),l1,l2,λi v l h1 h2=>s.us.Hi.own _ v l (at_ h1) (at_ h2)⟩,λk hk=>?_⟩;have nb:∀tv,qe g k5 32 tv->bc tv≠some k:=λtv ht=>by
  have:=s.b5.symm.trans ht;injection this with this;injection this with this;injection this with this
  rw[<-this];simp[bc]
 rcases hk with rfl|⟨i,v,h1,h2⟩
 ·exact⟨s.us.RZ _ (.inl rfl),s.d.d1,s.d.d3,nb⟩
 ·have o:=s.us.Hi.out _ v (at_ h1) k h2;exact⟨s.us.Hi.lt s.us.ok.wf (at_ h1) h2,λe=>o (.inr (.inl e)),λe=>o (.inr (.inr (.inr e))),nb⟩
theorem Ls{h:aa}(w:Wf h)(sm:Small M)(gd:Good M)(r:gr h (.slice a n c) M.aA):FW SS 18 [.agg ⟨iC M a n c⟩] h (NS h M n):=by
 obtain⟨mb,ok⟩:=mu w r;have hl:=mb.len;have hn:n<=300:=by rw[hl];exact sm.Pb
 have hA:∀q x t,(x,t)∈aN M q->q<n/\t<n:=λq x t hx=>by
  obtain⟨s,h1,q',h2,_,h4⟩:=j9.1 hx;have h3:=gd.bD s (List.mem_of_getElem? h1) q' h2;have h5:=(List.getElem?_eq_some_iff.1 h1).1;have:=h3.t0;have:=h3.t1;exact⟨by omega,by omega⟩
 refine Lr (iC M a n c) h _ ⟨_,rj M a n c,_,iG _,_,_,_,mb.l3,_,_,_,QK n (by omega),?_⟩;generalize h.push (Bm M a n c)=hb at*;have w0:=ok.wf;have o1:=(Ok.refl w0).push (Hn n);have k1:=bm hb (Hn n);have mb1:=mb.ok o1;have e1:(hb.push (Hn n)).next=hb.next+1:=rfl;generalize hb.push (Hn n)=g1 at*;have op:=(Ok.refl o1.wf).push (.cells ((List.replicate n (0:Int)).map (Value.int .i64)) 3 1 true);have z2:ZR hb g1.next n (List.replicate n 0) (g1.push (.cells ((List.replicate n (0:Int)).map (Value.int .i64)) 3 1 true)):=
  ⟨List.length_replicate,bm g1 _,o1.nx,o1.trans op⟩
 have e2:(g1.push (.cells ((List.replicate n (0:Int)).map (Value.int .i64)) 3 1 true)).next=g1.next+1:=rfl;have k2:=op.ext _ _ k1;refine⟨_,iG _,_,_,_,mb1.l3,_,_,_,QM n (by omega),_,PO,?_⟩;generalize g1.push (.cells ((List.replicate n (0:Int)).map (Value.int .i64)) 3 1 true)=g2 at*;have o3:=(Ok.refl z2.row.ok.wf).push Kg;have k3:qe (g2.push Kg) g2.next 32 (.slice none 0 0):=bm g2 _;refine⟨_,k3.st xD (jA _ _ _) rfl,_,PO,?_⟩;obtain⟨o4,k4⟩:=lk (cs:=[.slice (some ⟨g1.next,0,none⟩) n n]) z2.row.ok.wf o3 k3 (Nat.le_refl _);have e3:((cL.set g2.next (.cells [.slice (some ⟨g1.next,0,none⟩) n n] 32 0 true)).app (g2.push Kg)).next=g2.next+1:=rfl;generalize (cL.set g2.next (.cells [.slice (some ⟨g1.next,0,none⟩) n n] 32 0 true)).app (g2.push Kg)=g3 at*;have o5:=(Ok.refl o4.wf).push Kg;have k5:qe (g3.push Kg) g3.next 32 (.slice none 0 0):=bm g3 _;have z5:=(z2.trans o4).trans o5;have k25:=o5.ext _ _ (o4.ext _ _ k2);have k45:qe (g3.push Kg) g2.next 32 _:=qe.ok (show qe g3 g2.next 32 _ from k4) o5;have e4:(g3.push Kg).next=g3.next+1:=rfl;have mb5:=mb.ok z5.row.ok;refine⟨_,iG _,_,_,_,mb5.l3,?_⟩;generalize g3.push Kg=g5 at*;have d:Ds hb.next g1.next g2.next g3.next:=⟨by omega,by omega,by omega,by omega,by omega,by omega⟩
 have hrep:∀{i:Nat}{v:Value},(List.replicate (n+1) Br)[i]?=some v->v=Br:=λ{i v} hl=>by
  rw[List.getElem?_replicate]at hl;split at hl
  ·exact(oI hl).symm
  ·cases hl
 have hrepF:∀{i:Nat}{l:List Nat},(List.replicate (n+1) ([]:List Nat))[i]?=some l->l=[]:=λ{i l} hl=>by
  rw[List.getElem?_replicate]at hl;split at hl
  ·exact(oI hl).symm
  ·cases hl
 have b1:B1 hb n hb.next g1.next g2.next g3.next (List.replicate n 0) (List.replicate (n+1) Br) (List.replicate (n+1) []) g5:=by
  refine⟨⟨λr hr=>?_,⟨by rw[List.length_replicate,List.length_replicate],λi v l hv hl=>?_,λi j v v' _ hv _ k hk=>?_,λi v hv k hk=>?_⟩,z5.row.ok,by rw[List.length_replicate];omega,λr hr=>⟨.inl rfl,Nat.le_refl _⟩,λr r' hr hr' hne=>absurd (by omega) hne,λk hX=>?_⟩,z5,k45,k5,d⟩
  ·have:r=0:=by omega
   subst this;rw[Nat.zero_mul,List.drop_zero,List.take_replicate,show min n (n+1)=n by omega];exact k25
  ·rw[hrep hv,hrepF hl];exact dX.nil _ _ _
  ·rw[hrep hv]at hk;cases hk
  ·rw[hrep hv]at hk;cases hk
  ·rcases hX with rfl|rfl|rfl|rfl<;>omega
 refine r8 (iC M a n c) h.next n hb.next g2.next g3.next a n c (TK hb M n hb.next g1.next g2.next g3.next) _ (λmz i=>?_) n (i:=0) ⟨by omega,rfl,_,_,_,0,b1,⟨λt l ht hl' x=>?_,λl hl'=>?_⟩,λq hq=>absurd hq (not_lt_zero _),by rw[List.drop_zero];have:=sm.Ug;omega⟩
 rotate_left
 ·rw[hrepF hl',uB];exact⟨λc=>(by cases c),λc=>absurd c.1 (not_lt_zero _)⟩
 ·rw[List.eq_of_mem_replicate hl'];exact Nat.le_refl _
 intros;rename_i gg hi;obtain⟨f1,f2,D,vs,F,cN,ub,dl,hD,hcN⟩:=hi;have mbg:=mb.ok ub.us.ok;refine ae (λq1=>?_) (λq1=>?_)
 ·have q1:=dT q1;have hi:i<n:=by omega
  obtain⟨s,hs⟩:=uh (M:=M) (i:=i) (by omega);obtain⟨b,o,x',y,z,e1,e2,e3,e4,ar⟩:=mb.row.at_ hs;obtain⟨b',o',x'',y',z',e1',e2',e3',e4',ar'⟩:=mbg.row.at_ hs;have hsl:=sm.bD s (List.mem_of_getElem? hs);have hd:uY (M.aA.drop i)=s.bD.length+uY (M.aA.drop (i+1)):=by rw[je hs,G4]
  obtain⟨u,p1,p2,p3⟩:=BC ub.us.ok.wf s.f x' y z;have U2:=ub.ext p2;obtain⟨z1,_,_⟩:=U2.zr.get (c:=n) hi;obtain⟨u3,s1,U3,kp⟩:=U2.neg w0 hi (-1);have e22:=ES ub.us.ok e2;have lt:=ub.zr.row.lt;have p33:SB _ gg.next s.f x' y z:=kp _ _ p3 (by omega);refine⟨_,e1,_,e22,_,Hw,u,p1,_,_,_,U2.b4.ld oT vE,_,z1,u3,s1,_,kQ _ _,_,_,_,p33.l1,?_⟩;exact Ll w0 gd hl hn hs hi ar hsl [] mz f2 _ y (j:=0) ⟨by omega,by omega,_,vs,F,cN,U3,dl,λq hq=>(by
   rw[kz D i q _ (by rw[ub.zr.len];exact hi)];split
   ·rfl
   ·exact hD q (by omega)),by have:=ar.len;omega⟩
 ·have q1:=dF q1;obtain rfl:n=i:=by omega
  have hF:=ub.us.len;refine⟨_,iG _,_,_,_,mbg.l3,?_⟩;refine QD w0 ok hn hl hA (λt l ht hl'=>?_) mb (iC M a n c) n (i:=0) ⟨zero_le _,rfl,D,[],ub.bf (by omega) (by omega),ub.zr.len,λq hq=>by rw[hD q hq];simp,λq=>by simp,List.nodup_nil⟩;have h1:F[0*n+t]?=some l:=by
   rw[List.getElem?_take,if_pos ht,List.getElem?_drop]at hl';exact hl'
  refine⟨by have:=dl.ln l (List.mem_of_getElem? h1);omega,λx=>?_⟩;rw[dl.bk t l ht h1 x,uB];exact⟨λc=>c.2,λc=>⟨by rw[hl];exact B6 c,c⟩⟩
end
end
section
def Hh(M:cb):Int:=if eN M=true then(if yn M=true then 0 else 6)else 1
section
variable {h:aa} {M:cb} {a:Option Addr} {n c:Nat}
theorem LA(tb:mn h)(w:Wf h)(sm:Small M)(r:gr h (.slice a n c) M.aA):FW SS 17 [.agg ⟨iC M a n c⟩] h (λv h'=>v = .int .i64 (Hh M)/\Ok h h'):=by
 obtain⟨mb,ok⟩:=mu w r;refine Lz (iC M a n c) h _ ⟨_,rj M a n c,_,mb.all,(wY (tb.ok ok) ok.wf sm mb.row).mono ?_⟩;rintro _ h5 ⟨rfl,o5⟩;have ok5:=ok.trans o5;refine⟨_,rfl,ae (λq=>?_) (λq=>⟨_,(mb.ok o5).all,(LD (tb.ok ok5) ok5.wf sm (mb.ok o5).row).mono ?_⟩)⟩
 ·exact⟨by unfold Hh;rw[if_neg (by simpa using q)],ok5⟩
 ·rintro _ h6 ⟨rfl,o6⟩;have hv:eN M=true:=by simpa using q
  refine⟨_,rfl,ae (λq2=>⟨?_,ok5.trans o6⟩) (λq2=>⟨?_,ok5.trans o6⟩)⟩
  ·unfold Hh;rw[if_pos hv,if_neg (by simpa using q2)]
  ·unfold Hh;rw[if_pos hv,if_pos (by simpa using q2)]
end
end
section
noncomputable def O5:TypeInfo:=(e9 SS.P 32).getD default
theorem L0:e9 SS.P 32=some O5:=by kernel_rfl
theorem GO:O5.size=1:=by kernel_rfl
theorem DH:O5.bytes=24:=by kernel_rfl
theorem PU(b:Option Addr)(m d:Nat):aL SS.P 27 1 [(0,.slice b m d)]=some (.cells [.slice b m d] 32 1 true,jE 1 1):=by cases b<;>kernel_rfl
structure Fr(hb:aa)(rv:Value)(rs:List Value)(ws:List (List Nat))(xv:Value)(W:List Nat)(g:aa):Prop where
 ok:Ok hb g
 rr:dX hb g 32 rv rs
 len:rs.length=ws.length
 wd:∀(i:Nat)(v:Value)(l:List Nat),rs[i]?=some v->ws[i]?=some l->dX hb g 3 v (l.map iv)
 ra:∀(i:Nat)(v:Value),rs[i]?=some v->∀k,bc v=some k->bc rv≠some k
 xr:dX hb g 3 xv (W.map iv)
 xa:∀k,bc xv=some k->bc rv≠some k/\∀(i:Nat)(v:Value),rs[i]?=some v->bc v≠some k
section
variable {hb g:aa} {rv:Value} {rs:List Value} {ws:List (List Nat)} {xv:Value} {W:List Nat}
theorem Fr.at_(f:Fr hb rv rs ws xv W g){i:Nat}{v:Value}(hv:rs[i]?=some v):∃l,ws[i]?=some l/\dX hb g 3 v (l.map iv):=by
 have hi:=(List.getElem?_eq_some_iff.1 hv).1;obtain⟨l,hl⟩:∃l,ws[i]?=some l:=⟨_,gE (by rw[<-f.len];exact hi)⟩
 exact⟨l,hl,f.wd i v l hv hl⟩
theorem Fr.ext(f:Fr hb rv rs ws xv W g){g':aa}(o:Ok g g'):Fr hb rv rs ws xv W g':=
 ⟨f.ok.trans o,f.rr.ok o,f.len,λi v l h1 h2=>(f.wd i v l h1 h2).ok o,f.ra,f.xr.ok o,f.xa⟩
theorem Fr.dQ(f:Fr hb rv rs ws xv W g){g':aa}(o:Ok hb g'){k8:Nat}(hk:∀j B,g.get j=some B->j≠k8->g'.get j=some B)(n1:bc rv≠some k8)(n2:bc xv≠some k8)(n3:∀(i:Nat) (v:Value),rs[i]?=some v->bc v≠some k8):Fr hb rv rs ws xv W g':=
 ⟨o,f.rr.dQ λj B hj hB=>hk j B hB (λe=>n1 (by rw[hj,e])),f.len,λi v l h1 h2=>(f.wd i v l h1 h2).dQ λj B hj hB=>hk j B hB (λe=>n3 i v h1 (by rw[hj,e])),f.ra,f.xr.dQ λj B hj hB=>hk j B hB (λe=>n2 (by rw[hj,e])),f.xa⟩
theorem Fr.lt(f:Fr hb rv rs ws xv W g):(∀k,bc rv=some k->k<g.next)/\(∀k,bc xv=some k->k<g.next)/\∀(i:Nat)(v:Value),rs[i]?=some v->∀k,bc v=some k->k<g.next:=
 ⟨λk hk=>(f.rr.lt f.ok.wf hk).1,λk hk=>(f.xr.lt f.ok.wf hk).1,λi v hv k hk=>by
  obtain⟨l,_,o⟩:=f.at_ hv;exact(o.lt f.ok.wf hk).1⟩
theorem Fr.Rz(w:Wf hb)(f:Fr hb rv rs ws xv W g){z kx:Nat}(hkx:g.get kx=some (.cells [.int .i64 (z:Int)] 3 1 true))(hl:W.length<=100000):
  ∃(b:Option Addr)(n c:Nat)(u:cL),aY SS.P 32 32 xv (.slice (some ⟨kx,0,none⟩) 1 1) g=some (.slice b n c,u)/\Fr hb rv rs ws (.slice b n c) (W++[z]) (u.app g)/\(∀j B,g.get j=some B->bc xv≠some j->(u.app g).get j=some B):=by
 obtain⟨b,n,c,u,a1,a2,a3,a4,a5,a6,a7⟩:=JM w f.ok f.xr hkx (by rw[lM];exact hl);obtain⟨l1,l2,l3⟩:=f.lt;refine⟨b,n,c,u,a1,⟨a4,f.rr.dQ λj B hj hB=>a5 j B hB (λe=>(f.xa j e).1 hj),f.len,λi v l h1 h2=>(f.wd i v l h1 h2).dQ λj B hj hB=>a5 j B hB (λe=>(f.xa j e).2 i v h1 hj),f.ra,by rw[map_append];exact a3,λk hk=>?_⟩,a5⟩;rcases a6 k hk with h|h
 ·exact⟨λe=>by have:=l1 k e;omega,λi v hv e=>by have:=l3 i v hv k e;omega⟩
 ·exact f.xa k h
theorem Fr.fin(w:Wf hb)(f:Fr hb rv rs ws xv W g){kx:Nat}(hkx:g.get kx=some (.cells [xv] 32 1 true))(hl:rs.length<=100000):
  ∃(b:Option Addr)(n c:Nat)(u:cL),aY SS.P 27 27 rv (.slice (some ⟨kx,0,none⟩) 1 1) g=some (.slice b n c,u)/\Fr hb (.slice b n c) (rs++[xv]) (ws++[W]) (.slice none 0 0) [] (u.app g):=by
 have hsc:cH xv=true:=by
  obtain⟨a,c,rfl⟩:=f.xr.Mc;exact jA _ _ _
 obtain⟨b,n,c,u,a1,a2,a3,a4,a5,a6,a7⟩:=dX.snoc JI L0 GO w f.ok f.rr hsc hkx (by rw[DH];omega) (by omega);obtain⟨l1,l2,l3⟩:=f.lt;have split:∀{i:Nat}{v:Value},(rs++[xv])[i]?=some v->(rs[i]?=some v/\i<rs.length)\/(v=xv/\i=rs.length):=λ{i v} h=>by
  rw[List.getElem?_append]at h;split at h
  ·next c=>exact .inl ⟨h,c⟩
  ·next c=>
   right
   cases e:i-rs.length with
   |zero=>rw[e]at h;simp at h;exact⟨h.symm,by omega⟩
   |succ m=>rw[e]at h;simp at h
 refine⟨b,n,c,u,a1,⟨a4,a3,by rw[length_append,length_append,f.len];rfl,λi v l h1 h2=>?_,λi v h1 k hk=>?_,dX.nil _ _ _,λk hk=>by simp[bc]at hk⟩⟩
 ·rcases split h1 with⟨h3,h4⟩|⟨rfl,h4⟩
  ·rw[List.getElem?_append_left (by rw[<-f.len];exact h4)]at h2;exact(f.wd i v l h3 h2).dQ λj B hj hB=>a5 j B hB (f.ra i v h3 j hj)
  ·rw[h4,f.len,List.getElem?_append_right (Nat.le_refl _),Nat.sub_self]at h2;simp at h2;subst h2;exact f.xr.dQ λj B hj hB=>a5 j B hB (f.xa j hj).1
 ·have hlt:k<g.next:=by
   rcases split h1 with⟨h3,_⟩|⟨rfl,_⟩
   ·exact l3 i v h3 k hk
   ·exact l2 k hk
  intro e;rcases a6 k e with h|h
  ·omega
  ·rcases split h1 with⟨h3,_⟩|⟨rfl,_⟩
   ·exact f.ra i v h3 k hk h
   ·exact(f.xa k hk).1 h
theorem Fr.out(f:Fr hb rv rs ws xv W g):∃(b:Option Addr)(d:Nat),rv = .slice b ws.length d/\xT g b ws.length d ws:=by
 obtain⟨b,d,rfl⟩:=f.rr.Mc;refine⟨b,d,by rw[f.len],rfl,rs,by rw[<-f.len];exact f.rr.rd,f.len,λi l hl=>?_⟩;obtain⟨v,hv⟩:∃v,rs[i]?=some v:=⟨_,gE (by rw[f.len];exact(List.getElem?_eq_some_iff.1 hl).1)⟩
 have o:=f.wd i v l hv hl;obtain⟨a',c',rfl⟩:=o.Mc;exact⟨a',_,c',hv,o.rd⟩
end
def m8(M:cb)(n:Nat)(ws:List (List Nat)):Prop:=∀q w,q<n->ws[q]?=some w->w.length<=200/\(fa (aN M) (fN M) q w\/(w=[0]/\∀v,¬gK (aN M) (fN M) q v))
structure Kq(M:cb):Prop where
 gd:Good M
 pos:∀s∈M.aA,∀q∈s.bD,1<=q.i
 Sy:∀s∈M.aA,(jP s).Nodup
theorem KX{M:cb}(h:Hh M=0):Kq M:=by
 unfold Hh at h;split at h
 ·next hv=>
  split at h
  ·next hd=>
   unfold yn Ng DC CH at hd;simp only[Bool.and_eq_true,List.all_eq_true]at hd;obtain⟨⟨⟨_,h1⟩,_,h2⟩,h3⟩:=hd;refine⟨rN hv,λs hs q hq=>?_,λs hs=>?_⟩
   ·have a1:=h1 s hs q hq;have a2:=h2 s hs q hq;have a3:=((rN hv).bD s hs q hq).i0;unfold Nh at a1;unfold uC at a2;simp at a1 a2;omega
   ·have:=h3 s hs;unfold Ao at this;simpa using this
  ·omega
 ·omega
theorem Kq.one{M:cb}(d:Kq M){p x s s':Nat}(h1:(x,s)∈aN M p)(h2:(x,s')∈aN M p):s=s':=by
 obtain⟨st,a1,q,a2,a3,a4⟩:=j9.1 h1;obtain⟨st',b1,q',b2,b3,b4⟩:=j9.1 h2;rw[a1]at b1;obtain rfl:=oI b1;have hs:=List.mem_of_getElem? a1;have n1:=(d.gd.bD st hs q a2).i0;have n2:=(d.gd.bD st hs q' b2).i0;have e:q.i=q'.i:=by omega
 have hn:=d.Sy st hs;unfold jP at hn;obtain⟨i,hi,ei⟩:=List.mem_iff_getElem.1 a2;obtain⟨j,hj,ej⟩:=List.mem_iff_getElem.1 b2;have hp:=List.pairwise_iff_getElem.1 hn;have ne:∀(a b:Nat)(ha:a<st.bD.length)(hb:b<st.bD.length),a<b->st.bD[a].i≠st.bD[b].i:=λa b ha hb hlt=>by
  have:=hp a b (by rw[lM];exact ha) (by rw[lM];exact hb) hlt;simpa using this
 have:i=j:=by
  rcases Nat.lt_trichotomy i j with h|h|h
  ·exact absurd (by rw[ei,ej,e]) (ne i j hi hj h)
  ·exact h
  ·exact absurd (by rw[ei,ej,e]) (ne j i hj hi h)
 subst this;rw[<-a4,<-b4,<-ei,<-ej]
end
noncomputable def cm:FD:=fo Tryz.f7 [([1,1,1,0,1,0,0],[1,2,3,4,19,20,21]),([1,1,1,0,1,0,0,1,1,0,0,1,1,1,1,0,1,0,0],[1,2,3,4,5,6,7,19,20,21]),([1,1,1,0,1,0,0,1,1,0,0,1,1,1,1,0,1,0,0,1,0,1,0,1,0,0],[1,2,3,4,5,6,7,8,19,20,21,50,51,52])]
abbrev dG(k N kr:Nat)(a:OA)(n c:Nat)(i:Nat)(r:OA)(rn rc:Nat):LV:=[(pA k),(.slice r rn rc),(.int .i64 0),(sA kr N N),(.slice a n c),(iA n),(iA i)]
abbrev fE(k N kr:Nat)(a:OA)(n c:Nat)(r:OA)(rn rc i:Nat)(p:Nat)(x:OA)(xn xc:Nat):LV:=[(pA k),(.slice r rn rc),(.int .i64 0),(sA kr N N),(iA i),(.slice x xn xc),(iA p),(.slice a n c),(iA n),(iA i)]
abbrev ew(k N kr:Nat)(a:OA)(n c:Nat)(r:OA)(rn rc k8:Nat)(b:OA)(m d i p:Nat)(x:OA)(xn xc:Nat)(j:Nat):LV:=[(pA k),(.slice r rn rc),(.int .i64 0),(sA kr N N),(iA i),(.slice x xn xc),(iA p),(pA k8),(.slice a n c),(iA n),(iA i),(.slice b m d),(iA m),(iA j)]
theorem LF(mv:LV)(h:aa)(Q:VH)(hx:xN (l8 SS.P 24 (.agg ⟨mv⟩)) h λB1 g2=>xA (ag SS.P 24 g2 (pA (h.next))) λc3=>FW SS 17 [(.agg ⟨c3⟩)] g2 λv4 h5=>yI .i64 v4 λn6=>aZ (((n6:Int) !=0)) (Q (.tuple ⟨[nA,(.int .i64 n6)]⟩) h5) (xA (ag SS.P 24 h5 (pA (h.next))) λc7=>FW SS 18 [(.agg ⟨c7⟩)] h5 λv8 h9=>yL v8 λa10 n11 bO=>xP (ah SS.P 24 (pA (h.next)) 3) λp13=>xL (ag SS.P 22 h9 (.pointer (some p13))) λa14 n15 c16=>LL SS cm [1,1,1,0,1,0,0] [(pA (h.next)),nA,(.int .i64 n6),(.slice a10 n11 bO),(.slice a14 n15 c16),(iA n15),(.int .i64 0)] h9 (KK SS cm [1,1,1,0,1,0] [] (EE SS cm Q)))):FW SS 7 [(.agg ⟨mv⟩)] h Q:=fy cm Tryz.func7 (az hx)
theorem sh(mv:LV)(k N kr:Nat)(a:OA)(n c:Nat)(Inv:Nat->Nat->OA->Nat->Nat->aa->Prop)(Q:VH)(step:∀(mz:Nat) (i:Nat) (r:OA) (rn rc:Nat) (zz:Nat->Value) (h:aa),Inv mz i r rn rc h->aZ (decide (((i:Int):Int)<(n:Int))) (xP (af SS.P 32 (sA kr N N) (iA i)) λp17=>xI .i64 (ag SS.P 3 h (.pointer (some p17))) λn18=>aZ (decide ((n18:Int)<0)) (xR (aL SS.P 32 1 [(0,(.int .i64 0))]) h λB19 n20 c21 g22=>xR (aL SS.P 27 1 [(0,(sA (h.next) n20 c21))]) g22 λB23 n24 c25 g26=>xE (aY SS.P 27 27 (.slice r rn rc) (sA (g22.next) n24 c25) g26) g26 λa27 n28 c29 u30 g31=>ba (Cq (dG k N kr a n c) Inv) mz [(pA k),(.slice a27 n28 c29),(.int .i64 0),(sA kr N N),(.slice a n c),(iA n),(.int .i64 (wrap .i64 ((i:Int)+1)))] g31) (xP (af SS.P 32 (sA kr N N) (iA i)) λp32=>xI .i64 (ag SS.P 3 h (.pointer (some p32))) λn33=>aZ (decide ((n33:Int)>200)) (Q (.tuple ⟨[nA,(.int .i64 2)]⟩) h) (LL SS cm [1,1,1,0,1,0,0,1,1,0,0,1,1,1,1,0,1,0,0] (fE k N kr a n c r rn rc i i none 0 0) h (KK SS cm [1,1,0,0,1,1,1,1,0,1,0] [1,1,1,0,1,0,0] (RR cm [1,1,1,0,1,0,0] (Cq (dG k N kr a n c) Inv) mz (KK SS cm [1,1,1,0,1,0] [] (EE SS cm Q))))))) (Q (.tuple ⟨[(.slice r rn rc),(.int .i64 0)]⟩) h))(mz:Nat){i:Nat}{r:OA}{rn rc:Nat}{h:aa}(hi:Inv mz i r rn rc h):LL SS cm [1,1,1,0,1,0,0] (dG k N kr a n c i r rn rc) h (KK SS cm [1,1,1,0,1,0] [] (EE SS cm Q)):=
 Jz (dG k N kr a n c) Inv (λmz i r rn rc zz h hi=>az (step mz i r rn rc zz h hi)) mz hi
theorem si(mv:LV)(k N kr:Nat)(a:OA)(n c:Nat)(r:OA)(rn rc:Nat)(Inv:Nat->Nat->OA->Nat->Nat->aa->Prop)(mz i:Nat)(Inv2:Nat->Nat->OA->Nat->Nat->aa->Prop)(Q:VH)(step:∀(mz2:Nat) (p:Nat) (x:OA) (xn xc:Nat) (zz:Nat->Value) (h:aa),Inv2 mz2 p x xn xc h->xP (af SS.P 32 (sA kr N N) (iA p)) λp34=>xI .i64 (ag SS.P 3 h (.pointer (some p34))) λn35=>aZ (decide ((n35:Int)>0)) (xA (bL SS.P 34 []) λc36=>xN (bN SS.P 34) h λB37 g38=>xU (an SS.P 34 (pA (h.next)) (.agg ⟨c36⟩) g38) g38 λu39 g40=>xP (ah SS.P 24 (pA k) 3) λp41=>xL (ag SS.P 22 g40 (.pointer (some p41))) λa42 n43 c44=>xP (af SS.P 22 (.slice a42 n43 c44) (iA p)) λp45=>xP (ah SS.P 38 (.pointer (some p45)) 1) λp46=>xL (ag SS.P 36 g40 (.pointer (some p46))) λa47 n48 c49=>LL SS cm [1,1,1,0,1,0,0,1,1,0,0,1,1,1,1,0,1,0,0,1,0,1,0,1,0,0] (ew k N kr a n c r rn rc (h.next) a47 n48 c49 i p x xn xc 0) g40 (KK SS cm [1,0,1,0,1,0] [1,1,1,0,1,0,0,1,1,0,0,1,1,1,1,0,1,0,0] (RR cm [1,1,1,0,1,0,0,1,1,0,0,1,1,1,1,0,1,0,0] (Cq (fE k N kr a n c r rn rc i) Inv2) mz2 (KK SS cm [1,1,0,0,1,1,1,1,0,1,0] [1,1,1,0,1,0,0] (RR cm [1,1,1,0,1,0,0] (Cq (dG k N kr a n c) Inv) mz (KK SS cm [1,1,1,0,1,0] [] (EE SS cm Q))))))) (xR (aL SS.P 27 1 [(0,(.slice x xn xc))]) h λB50 n51 c52 g53=>xE (aY SS.P 27 27 (.slice r rn rc) (sA (h.next) n51 c52) g53) g53 λa54 n55 c56 u57 g58=>ba (Cq (dG k N kr a n c) Inv) mz [(pA k),(.slice a54 n55 c56),(.int .i64 0),(sA kr N N),(.slice a n c),(iA n),(.int .i64 (wrap .i64 ((i:Int)+1)))] g58))(mz2:Nat){p:Nat}{x:OA}{xn xc:Nat}{h:aa}(hi:Inv2 mz2 p x xn xc h):LL SS cm [1,1,1,0,1,0,0,1,1,0,0,1,1,1,1,0,1,0,0] (fE k N kr a n c r rn rc i p x xn xc) h (KK SS cm [1,1,0,0,1,1,1,1,0,1,0] [1,1,1,0,1,0,0] (RR cm [1,1,1,0,1,0,0] (Cq (dG k N kr a n c) Inv) mz (KK SS cm [1,1,1,0,1,0] [] (EE SS cm Q)))):=
 Jz (fE k N kr a n c r rn rc i) Inv2 (λmz2 p x xn xc zz h hi=>az (step mz2 p x xn xc zz h hi)) mz2 hi
theorem sj(mv:LV)(k N kr:Nat)(a:OA)(n c:Nat)(r:OA)(rn rc:Nat)(k8:Nat)(b:OA)(m d:Nat)(Inv:Nat->Nat->OA->Nat->Nat->aa->Prop)(mz i:Nat)(Inv2:Nat->Nat->OA->Nat->Nat->aa->Prop)(mz2 p:Nat)(x:OA)(xn xc:Nat)(Inv3:Nat->Nat->aa->Prop)(Q:VH)(step:∀(mz3:Nat) (j:Nat) (zz:Nat->Value) (h:aa),Inv3 mz3 j h->aZ (decide (((j:Int):Int)<(m:Int))) (xP (af SS.P 36 (.slice b m d) (iA j)) λp59=>xA (ag SS.P 34 h (.pointer (some p59))) λc60=>xN (bN SS.P 34) h λB61 g62=>xU (an SS.P 34 (pA (h.next)) (.agg ⟨c60⟩) g62) g62 λu63 g64=>xP (ah SS.P 34 (pA (h.next)) 3) λp65=>xI .i64 (ag SS.P 3 (room g64 23) (.pointer (some p65))) λn66=>xP (af SS.P 32 (sA kr N N) (.int .i64 n66)) λp67=>xI .i64 (ag SS.P 3 (room g64 23) (.pointer (some p67))) λn68=>xP (af SS.P 32 (sA kr N N) (iA p)) λp69=>xI .i64 (ag SS.P 3 (room g64 23) (.pointer (some p69))) λn70=>aZ (((n68:Int)==wrap .i64 (n70-1))) (xP (ah SS.P 34 (pA k8) 0) λp71=>xI .i64 (ag SS.P 3 (room g64 23) (.pointer (some p71))) λn72=>aZ (((n72:Int)==0)) (xA (ag SS.P 34 (room g64 23) (pA (h.next))) λc73=>xU (an SS.P 34 (pA k8) (.agg ⟨c73⟩) (room g64 23)) (room g64 23) λu74 g75=>ba (lZ (ew k N kr a n c r rn rc k8 b m d i p x xn xc) Inv3) mz3 [(pA k),(.slice r rn rc),(.int .i64 0),(sA kr N N),(iA i),(.slice x xn xc),(iA p),(pA k8),(.slice a n c),(iA n),(iA i),(.slice b m d),(iA m),(.int .i64 (wrap .i64 ((j:Int)+1)))] g75) (xP (ah SS.P 34 (pA (h.next)) 0) λp76=>xI .i64 (ag SS.P 3 (room g64 23) (.pointer (some p76))) λn77=>xP (ah SS.P 34 (pA k8) 0) λp78=>xI .i64 (ag SS.P 3 (room g64 23) (.pointer (some p78))) λn79=>aZ (decide ((n77:Int)<n79)) (xA (ag SS.P 34 (room g64 23) (pA (h.next))) λc80=>xU (an SS.P 34 (pA k8) (.agg ⟨c80⟩) (room g64 23)) (room g64 23) λu81 g82=>ba (lZ (ew k N kr a n c r rn rc k8 b m d i p x xn xc) Inv3) mz3 [(pA k),(.slice r rn rc),(.int .i64 0),(sA kr N N),(iA i),(.slice x xn xc),(iA p),(pA k8),(.slice a n c),(iA n),(iA i),(.slice b m d),(iA m),(.int .i64 (wrap .i64 ((j:Int)+1)))] g82) (ba (lZ (ew k N kr a n c r rn rc k8 b m d i p x xn xc) Inv3) mz3 [(pA k),(.slice r rn rc),(.int .i64 0),(sA kr N N),(iA i),(.slice x xn xc),(iA p),(pA k8),(.slice a n c),(iA n),(iA i),(.slice b m d),(iA m),(.int .i64 (wrap .i64 ((j:Int)+1)))] (room g64 23)))) (ba (lZ (ew k N kr a n c r rn rc k8 b m d i p x xn xc) Inv3) mz3 [(pA k),(.slice r rn rc),(.int .i64 0),(sA kr N N),(iA i),(.slice x xn xc),(iA p),(pA k8),(.slice a n c),(iA n),(iA i),(.slice b m d),(iA m),(.int .i64 (wrap .i64 ((j:Int)+1)))] (room g64 23))) (xP (ah SS.P 34 (pA k8) 0) λp83=>xI .i64 (ag SS.P 3 h (.pointer (some p83))) λn84=>xR (aL SS.P 32 1 [(0,(.int .i64 n84))]) h λB85 n86 c87 g88=>xE (aY SS.P 32 32 (.slice x xn xc) (sA (h.next) n86 c87) g88) g88 λa89 n90 c91 u92 g93=>xP (ah SS.P 34 (pA k8) 3) λp94=>xI .i64 (ag SS.P 3 g93 (.pointer (some p94))) λn95=>ba (Cq (fE k N kr a n c r rn rc i) Inv2) mz2 [(pA k),(.slice r rn rc),(.int .i64 0),(sA kr N N),(iA i),(.slice a89 n90 c91),(.int .i64 n95),(.slice a n c),(iA n),(iA i)] g93))(mz3:Nat){j:Nat}{h:aa}(hi:Inv3 mz3 j h):LL SS cm [1,1,1,0,1,0,0,1,1,0,0,1,1,1,1,0,1,0,0,1,0,1,0,1,0,0] (ew k N kr a n c r rn rc k8 b m d i p x xn xc j) h (KK SS cm [1,0,1,0,1,0] [1,1,1,0,1,0,0,1,1,0,0,1,1,1,1,0,1,0,0] (RR cm [1,1,1,0,1,0,0,1,1,0,0,1,1,1,1,0,1,0,0] (Cq (fE k N kr a n c r rn rc i) Inv2) mz2 (KK SS cm [1,1,0,0,1,1,1,1,0,1,0] [1,1,1,0,1,0,0] (RR cm [1,1,1,0,1,0,0] (Cq (dG k N kr a n c) Inv) mz (KK SS cm [1,1,1,0,1,0] [] (EE SS cm Q)))))):=
 gH (ew k N kr a n c r rn rc k8 b m d i p x xn xc) Inv3 (λmz3 j zz h hi=>az (step mz3 j zz h hi)) mz3 hi
section
def Mx:dj:=⟨0,0,[],0⟩
theorem St:bL SS.P 34 []=some (.agg ⟨gf Mx⟩):=by kernel_rfl
theorem AB.all{g:aa}{k:Nat}{q:dj}(s:AB g k q):ag SS.P 34 g (.pointer (some ⟨k,0,none⟩))=some (.agg ⟨gf q⟩):=rC Ps Ni B9 s (by simp[gf])
theorem AB.put{hb g:aa}{k:Nat}{q:dj}(w:Wf hb)(o:Ok hb g)(hk:hb.next<=k)(s:AB g k q)(q':dj):∃u:cL,an SS.P 34 (.pointer (some ⟨k,0,none⟩)) (.agg ⟨gf q'⟩) g=some (undef,u)/\Ok hb (u.app g)/\AB (u.app g) k q'/\∀j B,g.get j=some B->j≠k->(u.app g).get j=some B:=by
 obtain⟨o',e⟩:=lk (cs:=gf q') w o s hk;refine⟨_,jU B9 rfl s rfl rfl,o',e,λj B hj hne=>?_⟩;show(g.set k _).get j=_;rw[aa.aR,if_neg hne];exact hj
def qP(D:List Int)(p:Nat)(a:dj):Prop:=D.getD a.t.toNat (-1)=D.getD p (-1)-1
def nJ(D:List Int)(p:Nat)(l:List dj)(q:dj):Prop:=(q=Mx/\∀a∈l,¬qP D p a)\/(q∈l/\qP D p q/\∀a∈l,qP D p a->q.i<=a.i)
theorem nJ.skip{D:List Int}{p:Nat}{l:List dj}{q a:dj}(b:nJ D p l q)(h:¬qP D p a):nJ D p (l++[a]) q:=by
 rcases b with⟨h1,h2⟩|⟨h1,h2,h3⟩
 ·refine .inl ⟨h1,λx hx=>?_⟩;rcases mem_append.1 hx with c|c
  ·exact h2 x c
  ·rw[mem_singleton]at c;rw[c];exact h
 ·refine .inr ⟨List.mem_append_left _ h1,h2,λx hx hq=>?_⟩;rcases mem_append.1 hx with c|c
  ·exact h3 x c hq
  ·rw[mem_singleton]at c;rw[c]at hq;exact absurd hq h
theorem nJ.RY{D:List Int}{p:Nat}{l:List dj}{q a:dj}(b:nJ D p l q)(h0:q.i≠0)(h:q.i<=a.i):nJ D p (l++[a]) q:=by
 rcases b with⟨h1,h2⟩|⟨h1,h2,h3⟩
 ·rw[h1]at h0;exact absurd rfl h0
 ·refine .inr ⟨List.mem_append_left _ h1,h2,λx hx hq=>?_⟩;rcases mem_append.1 hx with c|c
  ·exact h3 x c hq
  ·rw[mem_singleton]at c;rw[c];exact h
theorem nJ.take{D:List Int}{p:Nat}{l:List dj}{q a:dj}(b:nJ D p l q)(hq:qP D p a)(h:q.i=0/\(∀x∈l,1<=x.i)\/a.i<q.i):nJ D p (l++[a]) a:=by
 refine .inr ⟨List.mem_append_right _ (List.mem_singleton_self _),hq,λx hx hqx=>?_⟩;rcases mem_append.1 hx with c|c
 ·rcases b with⟨h1,h2⟩|⟨h1,h2,h3⟩
  ·exact absurd hqx (h2 x c)
  ·have h4:=h3 x c hqx;rcases h with⟨h5,h6⟩|h5
   ·have:=h6 q h1;omega
   ·omega
 ·rw[mem_singleton]at c;rw[c];exact Int.le_refl _
structure Ap(rv:Value)(rs:List Value)(xv:Value)(k8:Nat):Prop where
 n1:bc rv≠some k8
 n2:bc xv≠some k8
 n3:∀(i:Nat)(v:Value),rs[i]?=some v->bc v≠some k8
structure Cx(hb:aa)(M:cb)(a:Option Addr)(n c k kr:Nat)(D:List Int):Prop where
 w:Wf hb
 mb:MB hb k M a n c
 hn:n<=300
 row:hb.get kr=some (.cells (D.map (Value.int .i64)) 3 1 true)
 len:D.length=n
 ds:∀q,ky (aN M) (fN M) q (D.getD q (-1))
 da:Kq M
 sm:Small M
theorem G6{α:Type}{l:List α}{j:Nat}{x:α}(h:l[j]?=some x):l.take (j+1)=l.take j++[x]:=by rw[List.take_add_one,h];rfl
section
variable {hb:aa} {M:cb} {a:Option Addr} {n c k kr k8:Nat} {D:List Int} {rs:List Value} {ws:List (List Nat)} {W:List Nat}
theorem Cx.get(x:Cx hb M a n c k kr D){g:aa}(o:Ok hb g){q:Nat}(hq:q<n):af SS.P 32 (.slice (some ⟨kr,0,none⟩) n n) (.int .i64 (q:Int))=some (.pointer (some ⟨kr,q,none⟩))/\ag SS.P 3 g (.pointer (some ⟨kr,q,none⟩))=some (.int .i64 (D.getD q (-1))):=by
 have hl:q<D.length:=by rw[x.len];exact hq
 refine⟨?_,?_⟩
 ·have:=F5 (P:=SS.P) oT R8 (k:=kr) (off:=0) (n:=n) (c:=n) (ik:= .i64) (i:=(q:Int)) (by omega) (by omega);rw[this,Int.toNat_natCast,Nat.zero_add,Nat.mul_one]
 ·rw[eI J1 Ht (o.ext _ _ x.row) (by rw[lM];exact hl),gD,getElem?_map,gD,gE hl];rfl
def TU(hb:aa)(D:List Int)(p k8:Nat)(l:List dj)(rv:Value)(rs:List Value)(ws:List (List Nat))(xv:Value)(W:List Nat)(mz3 j:Nat)(g:aa):Prop:=j<=l.length/\mz3=l.length-j/\Fr hb rv rs ws xv W g/\∃q,AB g k8 q/\nJ D p (l.take j) q
def TR(hb:aa)(M:cb)(n:Nat)(D:List Int)(rv:Value)(rs:List Value)(ws:List (List Nat))(i:Nat)(mz2 p:Nat)(x:Option Addr)(xn xc:Nat)(g:aa):Prop:=p<n/\0<=D.getD p (-1)/\mz2=(D.getD p (-1)).toNat/\∃W,Fr hb rv rs ws (.slice x xn xc) W g/\(W.length:Int)+D.getD p (-1)=D.getD i (-1)/\∀w,fa (aN M) (fN M) p w->fa (aN M) (fN M) i (W++w)
set_option linter.defProp false in
def NZ(cx:Cx hb M a n c k kr D){p i:Nat}(hp:p<n)(hi200:D.getD i (-1)<=200)(hDp:0<D.getD p (-1))(hWl:(W.length:Int)+D.getD p (-1)=D.getD i (-1))(hW:∀w,fa (aN M) (fN M) p w->fa (aN M) (fN M) i (W++w))
  {s:iM} (hs:M.aA[p]?=some s) {b:Option Addr} {m d:Nat} (ar:fQ hb (.slice b m d) s.bD) {r:Option Addr} {rn rc:Nat} {x:Option Addr} {xn xc:Nat} (hk8:hb.next<=k8) (ap:Ap (.slice r rn rc) rs (.slice x xn xc) k8) (mv:List Value) (Inv:Nat->Nat->Option Addr->Nat->Nat->aa->Prop) (mz:Nat) (mz2:Nat) (hmz2:mz2=(D.getD p (-1)).toNat) (Q:VH):=
 sj mv k n kr a n c r rn rc k8 b m d Inv mz i (TR hb M n D (.slice r rn rc) rs ws i) mz2 p x xn xc (TU hb D p k8 s.bD (.slice r rn rc) rs ws (.slice x xn xc) W) Q (by
  intro mz3 j;intros;rename_i g hin;obtain⟨f1,f2,fr,q,ab,bst⟩:=hin;have hm:=ar.len;have hsl:=cx.sm.bD s (List.mem_of_getElem? hs);have hsM:=List.mem_of_getElem? hs;refine ae (λg1=>?_) (λg1=>?_)
  ·have g1:=dT g1;obtain⟨qa,hqa⟩:∃qa,s.bD[j]?=some qa:=⟨_,gE (by omega)⟩
   obtain⟨bb,o,e1,e2,_⟩:=(ar.ok fr.ok).at_ hqa;have hin:=cx.da.gd.bD s hsM qa (List.mem_of_getElem? hqa);obtain⟨T,hT⟩:∃T:Nat,qa.t=(T:Int):=⟨qa.t.toNat,by have:=hin.t0;omega⟩
   have hTn:T<n:=by have:=hin.t1;have:=cx.mb.len;omega
   have hTq:qa.t.toNat=T:=by omega
   obtain⟨u1,p1,p2,p3⟩:=xb fr.ok.wf qa;have fr2:=fr.ext p2;have ab2:=ab.ok p2;refine⟨_,e1,_,e2,_,Fu,u1,p1,?_⟩;generalize u1.app (g.push Hm)=g2 at*;have oR:=(Ok.refl fr2.ok.wf).room 23;have frR:=fr2.ext oR;have abR:=ab2.ok oR;have pR:=p3.ok oR;obtain⟨x1,x2⟩:=cx.get frR.ok hTn;obtain⟨y1,y2⟩:=cx.get frR.ok hp;have l3:ag SS.P 3 (Go.Ab.room g2 23) (.pointer (some ⟨g.next,0+3,none⟩))=some (.int .i64 (T:Int)):=by rw[<-hT];exact pR.l3
   have hw:wrap .i64 (D.getD p (-1)-1)=D.getD p (-1)-1:=aB (by omega) (by omega);refine⟨_,qI _ _,_,l3,_,x1,_,x2,_,y1,_,y2,?_⟩;dsimp only;rw[hw,bW (i:=j) (n:=m) (by omega) (by omega)];have tk:=G6 hqa;have hj1:j+1<=s.bD.length:=by omega
   have hj2:mz3-1=s.bD.length-(j+1):=by omega
   have hj3:mz3-1<mz3:=by omega
   refine ae (λq2=>?_) (λq2=>?_)
   ·have hq:qP D p qa:=by
     unfold qP;rw[hTq];simpa using q2
    have fin:(q.i=0/\(∀x∈s.bD.take j,1<=x.i)\/qa.i<q.i)->xA (ag SS.P 34 (Go.Ab.room g2 23) (.pointer (some ⟨g.next,0,none⟩))) λc73=>xU (an SS.P 34 (.pointer (some ⟨k8,0,none⟩)) (.agg ⟨c73⟩) (Go.Ab.room g2 23)) (Go.Ab.room g2 23) λu74 g75=>∃mz',mz'<mz3/\TU hb D p k8 s.bD (.slice r rn rc) rs ws (.slice x xn xc) W mz' (j+1) g75:=λhc=>by
     obtain⟨u,s1,s2,s3,s4⟩:=AB.put cx.w frR.ok hk8 abR qa;refine⟨_,AB.all pR,u,s1,mz3-1,hj3,hj1,hj2,frR.dQ s2 s4 ap.n1 ap.n2 ap.n3,qa,s3,?_⟩;rw[tk];exact bst.take hq hc
    refine⟨_,mD _ _,_,abR.l0,ae (λq3=>?_) (λq3=>?_)⟩
    ·obtain⟨c1,h1,u,h2,mz',h3,h4⟩:=fin (.inl ⟨by simpa using q3,λx hx=>cx.da.pos s hsM x (List.mem_of_mem_take hx)⟩);exact⟨c1,h1,u,h2,eH mz' h3 h4⟩
    ·have q3:q.i≠0:=by simpa using q3
     refine⟨_,mD _ _,_,pR.l0,_,mD _ _,_,abR.l0,ae (λq4=>?_) (λq4=>?_)⟩
     ·obtain⟨c1,h1,u,h2,mz',h3,h4⟩:=fin (.inr (dT q4));exact⟨c1,h1,u,h2,eH mz' h3 h4⟩
     ·have q4:=dF q4;exact eH (mz3-1) hj3 ⟨hj1,hj2,frR,q,abR,by rw[tk];exact bst.RY q3 (Int.not_lt.1 q4)⟩
   ·have hq:¬qP D p qa:=by
     unfold qP;rw[hTq];simpa using q2
    exact eH (mz3-1) hj3 ⟨hj1,hj2,frR,q,abR,by rw[tk];exact bst.skip hq⟩
  ·have g1:=dF g1;rw[List.take_of_length_le (by omega)]at bst;obtain⟨y,t,hy,hdt⟩:=zN cx.ds hDp;obtain⟨s',a1,qy,a2,a3,a4⟩:=j9.1 hy;rw[hs]at a1;obtain rfl:=oI a1;rcases bst with⟨b1,b2⟩|⟨b1,b2,b3⟩
   ·exact absurd (show qP D p qy by unfold qP;rw[a4];exact hdt) (b2 qy a2)
   ·have hin:=cx.da.gd.bD s hsM q b1;have hps:=cx.da.pos s hsM q b1;obtain⟨T,hT⟩:∃T:Nat,q.t=(T:Int):=⟨q.t.toNat,by have:=hin.t0;omega⟩
    obtain⟨X,hX⟩:∃X:Nat,q.i=(X:Int):=⟨q.i.toNat,by omega⟩
    have hTn:T<n:=by have:=hin.t1;have:=cx.mb.len;omega
    have op:=(Ok.refl fr.ok.wf).push (.cells [.int .i64 (X:Int)] 3 1 true);have hk:=bm g (.cells [.int .i64 (X:Int)] 3 1 true);obtain⟨b',n',c',u,c1,fr',kp⟩:=(fr.ext op).Rz cx.w hk (by omega);have l0:ag SS.P 3 g (.pointer (some ⟨k8,0+0,none⟩))=some (.int .i64 (X:Int)):=by rw[<-hX];exact ab.l0
    have ab':AB (u.app (g.push (.cells [.int .i64 (X:Int)] 3 1 true))) k8 q:=kp _ _ (ab.ok op) ap.n2;have l3:ag SS.P 3 (u.app (g.push (.cells [.int .i64 (X:Int)] 3 1 true))) (.pointer (some ⟨k8,0+3,none⟩))=some (.int .i64 (T:Int)):=by rw[<-hT];exact ab'.l3
    have hdT:D.getD T (-1)=D.getD p (-1)-1:=by
     have:=b2;unfold qP at this;rwa[hT,Int.toNat_natCast]at this
    refine⟨_,mD _ _,_,l0,_,_,_,KH _,b',n',c',u,c1,_,qI _ _,_,l3,?_⟩;have hxT:(X,T)∈aN M p:=j9.2 ⟨s,hs,q,b1,by omega,by omega⟩;refine EI (D.getD T (-1)).toNat (by omega) ⟨hTn,by omega,rfl,W++[X],fr',by rw[length_append,length_singleton];omega,λw hw=>?_⟩;rw[List.append_assoc];refine hW _ (xZ cx.ds hDp hxT hdT (λy' s' hy' hd'=>?_) (λy' s1 s2 h1 h2=>cx.da.one h1 h2) hw);obtain⟨s2,d1,q2,d2,d3,d4⟩:=j9.1 hy';rw[hs]at d1;obtain rfl:=oI d1;have h1:=b3 q2 d2 (by unfold qP;rw[d4];exact hd');have h2:=cx.da.pos s hsM q2 d2;omega)
end
end
section
theorem Fr.zero{hb g:aa}{rv:Value}{rs:List Value}{ws:List (List Nat)}(f:Fr hb rv rs ws (.slice none 0 0) [] g)(z:Nat):Fr hb rv rs ws (.slice (some ⟨g.next,0,none⟩) 1 1) [z] (g.push (.cells [.int .i64 (z:Int)] 3 1 true)):=by
 have op:=(Ok.refl f.ok.wf).push (.cells [.int .i64 (z:Int)] 3 1 true);have hk:=bm g (.cells [.int .i64 (z:Int)] 3 1 true);obtain⟨l1,l2,l3⟩:=f.lt;have f2:=f.ext op;have hb':dX hb (g.push (.cells [.int .i64 (z:Int)] 3 1 true)) 3 (.slice (some ⟨g.next,0,none⟩) ([z].map iv).length ([z].map iv).length) ([z].map iv):=dX.built (vs:=[z].map iv) hk f.ok.nx (by show 1<bR;unfold bR;omega);refine⟨f2.ok,f2.rr,f2.len,f2.wd,f2.ra,hb',λk hk=>?_⟩;have e:g.next=k:=by
  have:(some g.next:Option Nat)=some k:=hk;exact oI this
 subst e;exact⟨λe=>by have:=l1 _ e;omega,λi v hv e=>by have:=l3 i v hv _ e;omega⟩
def Qp(h:aa)(M:cb)(n:Nat):VH:=λv h'=>Ok h h'/\((Hh M≠0/\v = .tuple ⟨[.slice none 0 0,.int .i64 (Hh M)]⟩)\/(Hh M=0/\(((∃q d,ky (aN M) (fN M) q d/\200<d)/\v = .tuple ⟨[.slice none 0 0,.int .i64 2]⟩)\/ ∃b d ws,v = .tuple ⟨[.slice b n d,.int .i64 0]⟩/\ws.length=n/\xT h' b n d ws/\m8 M n ws)))
theorem m8.snoc{M:cb}{i:Nat}{ws:List (List Nat)}{w:List Nat}(f:m8 M i ws)(l:ws.length=i)(hw:w.length<=200/\(fa (aN M) (fN M) i w\/(w=[0]/\∀v,¬gK (aN M) (fN M) i v))):m8 M (i+1) (ws++[w]):=by
 intro q u hq hu;rw[List.getElem?_append]at hu;split at hu
 ·next h=>exact f q u (by omega) hu
 ·next h=>
  obtain rfl:q=i:=by omega
  rw[l,Nat.sub_self]at hu;simp at hu;subst hu;exact hw
section
variable {hb:aa} {M:cb} {a:Option Addr} {n c k kr:Nat} {D:List Int} {rs:List Value} {ws:List (List Nat)}
def TQ(hb:aa)(M:cb)(n:Nat)(D:List Int)(mz i:Nat)(r:Option Addr)(rn rc:Nat)(g:aa):Prop:=i<=n/\mz=n-i/\∃rs ws,Fr hb (.slice r rn rc) rs ws (.slice none 0 0) [] g/\ws.length=i/\m8 M i ws/\∀q,q<i->D.getD q (-1)<=200
set_option linter.defProp false in
def N0(cx:Cx hb M a n c k kr D){i:Nat}(hi:i<n)(hi200:D.getD i (-1)<=200)(hprev:∀q,q<i->D.getD q (-1)<=200)(hws:ws.length=i)(hF:m8 M i ws){r:Option Addr}{rn rc:Nat}(mv:List Value)(mz:Nat)(hmz:mz=n-i)(Q:VH):=
 si mv k n kr a n c r rn rc (TQ hb M n D) mz i (TR hb M n D (.slice r rn rc) rs ws i) Q (by
  intro mz2 p x xn xc;intros;rename_i g hin;obtain⟨hp,h0,f2,W,fr,hWl,hW⟩:=hin;have hl:=cx.mb.len;obtain⟨x1,x2⟩:=cx.get fr.ok hp;refine⟨_,x1,_,x2,ae (λg1=>?_) (λg1=>?_)⟩
  ·have g1:=dT g1;obtain⟨u1,p1,p2,p3⟩:=xb fr.ok.wf Mx;obtain⟨l1,l2,l3⟩:=fr.lt;have fr2:=fr.ext p2;have hgn:=fr.ok.nx;have ap:Ap (.slice r rn rc) rs (.slice x xn xc) g.next:=⟨λe=>by have:=l1 _ e;omega,λe=>by have:=l2 _ e;omega,λi v hv e=>by have:=l3 i v hv _ e;omega⟩
   obtain⟨s,hs⟩:=uh (M:=M) (i:=p) (by omega);have mbg:=cx.mb.ok fr2.ok;obtain⟨b,o,x',y,z,e1,e2,e3,e4,ar⟩:=cx.mb.row.at_ hs;refine⟨_,St,_,Fu,u1,p1,_,iG _,_,_,_,mbg.l3,_,e1,_,kQ _ _,_,_,_,ES fr2.ok e4,?_⟩;exact NZ cx hp hi200 g1 hWl hW hs ar hgn ap [] _ mz mz2 f2 _ s.bD.length (j:=0) ⟨by omega,by omega,fr2,Mx,p3,.inl ⟨rfl,λa ha=>(by rw[List.take_zero]at ha;cases ha)⟩⟩
  ·have g1:=dF g1;have hD0:D.getD p (-1)=0:=by omega
   have op:=(Ok.refl fr.ok.wf).push (.cells [.slice x xn xc] 32 1 true);have hk:=bm g (.cells [.slice x xn xc] 32 1 true);obtain⟨b,n',c',u,a1,fr'⟩:=(fr.ext op).fin cx.w hk (by rw[fr.len,hws];have:=cx.hn;omega);refine⟨_,_,_,PU _ _ _,b,n',c',u,a1,?_⟩;have hf:=hW [] (zO cx.ds hD0);rw[List.append_nil]at hf;rw[bW hi (by have:=cx.hn;omega)];refine EI (n-(i+1)) (by omega) ⟨by omega,rfl,_,_,fr',by rw[length_append,length_singleton,hws],hF.snoc hws ⟨by omega,.inl hf⟩,λq hq=>?_⟩;rcases lt_or_ge q i with h|h
   ·exact hprev q h
   ·obtain rfl:q=i:=by omega
    exact hi200)
theorem LG{h:aa}(tb:mn h)(w:Wf h)(sm:Small M)(r:gr h (.slice a n c) M.aA):FW SS 7 [.agg ⟨iC M a n c⟩] h (Qp h M n):=by
 obtain⟨mb,ok⟩:=mu w r;refine LF (iC M a n c) h _ ⟨_,rj M a n c,_,mb.all,(LA (tb.ok ok) ok.wf sm mb.row).mono ?_⟩;rintro _ h5 ⟨rfl,o5⟩;have ok5:=ok.trans o5;have mb5:=mb.ok o5;refine⟨_,rfl,ae (λq=>?_) (λq=>?_)⟩
 ·exact⟨ok5,.inl ⟨by simpa using q,rfl⟩⟩
 ·have hc:Hh M=0:=by simpa using q
  have da:=KX hc;refine⟨_,mb5.all,(Ls ok5.wf sm da.gd mb5.row).mono ?_⟩;rintro _ hb ⟨kr,D,rfl,zr,ds⟩;have okb:=ok5.trans zr.row.ok;have mbb:=mb5.ok zr.row.ok;have hn:n<=300:=by rw[mb.len];exact sm.Pb
  have cx:Cx hb M a n c h.next kr D:=⟨okb.wf,mbb,hn,zr.row.row,zr.len,ds,da,sm⟩
  refine⟨_,_,_,rfl,_,iG _,_,_,_,mbb.l3,?_⟩;rw[hc];refine sh (iC M a n c) h.next n kr a n c (TQ hb M n D) _ (λmz i r rn rc=>?_) n (i:=0) (r:=none) (rn:=0) (rc:=0) ⟨zero_le _,rfl,[],[],⟨Ok.refl cx.w,dX.nil _ _ _,rfl,λi v l h1=>by simp at h1,λi v h1=>by simp at h1,dX.nil _ _ _,λk hk=>by simp[bc]at hk⟩,rfl,λq w hq=>absurd hq (not_lt_zero _),λq hq=>absurd hq (not_lt_zero _)⟩;intros;rename_i g hin;obtain⟨f1,f2,rs,ws,fr,hws,hF,h200⟩:=hin;refine ae (λg1=>?_) (λg1=>?_)
  ·have g1:=dT g1;have hi:i<n:=by omega
   obtain⟨x1,x2⟩:=cx.get fr.ok hi;refine⟨_,x1,_,x2,ae (λg2=>?_) (λg2=>⟨_,x1,_,x2,ae (λg3=>?_) (λg3=>?_)⟩)⟩
   ·have g2:=dT g2;have f0:=fr.zero 0;have op:=(Ok.refl f0.ok.wf).push (.cells [.slice (some ⟨g.next,0,none⟩) 1 1] 32 1 true);have hk:=bm (g.push (.cells [.int .i64 ((0:Nat):Int)] 3 1 true)) (.cells [.slice (some ⟨g.next,0,none⟩) 1 1] 32 1 true);obtain⟨b,n',c',u,a1,fr'⟩:=(f0.ext op).fin cx.w hk (by rw[fr.len,hws];omega);refine⟨_,_,_,KH _,_,_,_,PU _ _ _,b,n',c',u,a1,?_⟩;rw[bW hi (by omega)];refine EI (n-(i+1)) (by omega) ⟨by omega,rfl,_,_,fr',by rw[length_append,length_singleton,hws],hF.snoc hws ⟨by simp,.inr ⟨rfl,(ds i).none g2⟩⟩,λq hq=>?_⟩;rcases lt_or_ge q i with h|h
    ·exact h200 q h
    ·obtain rfl:q=i:=by omega
     omega
   ·have g3:=dT g3;exact⟨okb.trans fr.ok,.inr ⟨hc,.inl ⟨⟨i,_,ds i,g3⟩,rfl⟩⟩⟩
   ·have g2:=dF g2;have g3:=dF g3;exact N0 cx hi (by omega) h200 hws hF [] mz f2 _ (D.getD i (-1)).toNat (p:=i) (x:=none) (xn:=0) (xc:=0) ⟨hi,by omega,rfl,[],fr,by simp,λw hw=>hw⟩
  ·have g1:=dF g1;obtain rfl:n=i:=by omega
   obtain⟨b,d,e1,e2⟩:=fr.out;rw[hws]at e1 e2;rw[e1];exact⟨okb.trans fr.ok,.inr ⟨hc,.inr ⟨b,d,ws,rfl,hws,e2,hF⟩⟩⟩
end
end
def EQ(h:aa):VH:=λv g=>v = .bool true/\Ok h g
theorem QJ:SS.pr 6=some (xh [([],.bool true)]):=by kernel_rfl
theorem Er{h g:aa}(ok:Ok h g):FW SS 6 [] g λv h'=>yB v λb=>EQ h (.bool b) h':=
 yC (by unfold YB;decide) QJ (v:= .bool true) (h':=g) (λ_=>rfl) ⟨true,rfl,rfl,ok⟩
theorem KY{M:cb}{q:Nat}{d:Int}(hd:ky (aN M) (fN M) q d)(h:200<d):q<M.aA.length:=by
 obtain⟨w,hw,_⟩:=hd.some (by omega)
 match w,hw with
 |[],⟨s,h1,_⟩=>exact(List.getElem?_eq_some_iff.1 h1).1
 |x::w,⟨t,h1,_⟩=>
  obtain⟨s,h2,_⟩:=j9.1 h1;exact(List.getElem?_eq_some_iff.1 h2).1
def qw(i:Nat):dj:=⟨(1+i%3:Nat),(1+i%3:Nat),[49,47,50],(i+1:Nat)⟩
def Kj(i q:Nat):iM:=if q<i then⟨[],[qw q]⟩else⟨[],[]⟩
def my(n q:Nat):iM:=if q<n then⟨[],[qw q]⟩else⟨[49],[]⟩
def oX(n:Nat):cb:=⟨3,0,[49],(List.range (n+1)).map (my n)⟩
def Ew:Nat->Bool
 |0=>true
 |k+1=>(eN (oX (190+k))&&yn (oX (190+k)))&&Ew k
theorem HV:Ew 21=true:=by kernel_rfl
theorem Aj:∀{k i:Nat},Ew k=true->i<k->eN (oX (190+i))=true/\yn (oX (190+i))=true
 | k+1,i,h,hi=>by
  unfold Ew at h;simp only[Bool.and_eq_true]at h;rcases lt_or_ge i k with c|c
  ·exact Aj h.2 c
  ·obtain rfl:i=k:=by omega
   exact h.1
theorem Nx{n:Nat}(h1:190<=n)(h2:n<=210):Hh (oX n)=0:=by
 have:=Aj HV (i:=n-190) (by omega);rw[show 190+(n-190)=n by omega]at this;unfold Hh;rw[if_pos this.1,if_pos this.2]
theorem yj(n:Nat):(oX n).aA.length=n+1:=by simp[oX]
theorem Ey{n q:Nat}(h:q<=n):(oX n).aA[q]?=some (my n q):=by
 unfold oX;rw[getElem?_map,getElem?_range (by omega)];rfl
theorem Ny{n:Nat}{s:iM}(h:s∈(oX n).aA):∃q,q<=n/\s=my n q:=by
 unfold oX at h;obtain⟨q,h1,h2⟩:=mem_map.1 h;exact⟨q,by have:=List.mem_range.1 h1;omega,h2.symm⟩
theorem Ex{n q:Nat}:(my n q).bD.length<=1:=by unfold my;split<;>simp
theorem HY(n:Nat):∀k,uY ((List.range k).map (my n))<=k
 |0=>Nat.le_refl _
 |k+1=>by
  have:=HY n k;rw[List.range_succ,map_append];unfold uY at*;rw[map_append,List.sum_append];have:=Ex (n:=n) (q:=k);simp only[List.map_cons,List.map_nil,List.sum_cons,List.sum_nil];omega
theorem HX{n:Nat}(h2:n<=210):Small (oX n):=by
 refine⟨by simp[oX],by rw[yj];omega,λs hs=>?_,λs hs=>?_,λs hs q hq=>?_,by have:=HY n (n+1);show uY ((List.range (n+1)).map (my n))<=_;omega⟩
 all_goals obtain⟨p,_,rfl⟩:=Ny hs
 ·unfold my;split<;>simp
 ·have:=Ex (n:=n) (q:=p);omega
 ·unfold my at hq;split at hq
  ·rw[mem_singleton]at hq;subst hq;simp[qw]
  ·cases hq
theorem MG{n q x t:Nat}:(x,t)∈aN (oX n) q↔q<n/\x=1+q%3/\t=q+1:=by
 rw[j9];constructor
 ·rintro⟨s,h1,a,h2,h3,h4⟩;have hq:=(List.getElem?_eq_some_iff.1 h1).1;rw[yj]at hq;rw[Ey (by omega)]at h1;obtain rfl:=oI h1;unfold my at h2;split at h2
  ·next c=>
   rw[mem_singleton]at h2;subst h2;simp[qw]at h3 h4;exact⟨c,by omega,by omega⟩
  ·cases h2
 ·rintro⟨h1,rfl,rfl⟩;exact⟨_,Ey (by omega),qw q,by unfold my;rw[if_pos h1];exact List.mem_singleton_self _,by simp[qw]<;>omega,by simp[qw]<;>omega⟩
theorem Qa{n q:Nat}:fN (oX n) q↔q=n:=by
 constructor
 ·rintro⟨s,h1,h2⟩;have hq:=(List.getElem?_eq_some_iff.1 h1).1;rw[yj]at hq;rw[Ey (by omega)]at h1;obtain rfl:=oI h1;unfold my at h2;split at h2
  ·exact absurd rfl h2
  ·omega
 ·rintro rfl;exact⟨_,Ey (Nat.le_refl _),by unfold my;rw[if_neg (by omega)];simp⟩
def cW(n q:Nat):List Nat:=(List.range (n-q)).map λj=>1+(q+j)%3
theorem qA(n q:Nat):(cW n q).length=n-q:=by simp[cW]
theorem PZ{n q j:Nat}(h:j<n-q):(cW n q)[j]?=some (1+(q+j)%3):=by
 unfold cW;rw[getElem?_map,getElem?_range h];rfl
theorem Ev{n q:Nat}(h:q<n):cW n q=(1+q%3)::cW n (q+1):=by
 unfold cW;rw[show n-q=(n-(q+1))+1 by omega,List.range_succ_eq_map,List.map_cons,List.map_map];refine congrArg (λl=>(1+q%3)::l) (List.map_congr_left λj _=>?_);show 1+(q+(j+1))%3=1+(q+1+j)%3;rw[show q+(j+1)=q+1+j by omega]
theorem yi{n:Nat}:∀{w:List Nat}{q:Nat},gK (aN (oX n)) (fN (oX n)) q w↔q<=n/\w=cW n q
 |[],q=>by
  show fN (oX n) q↔_;rw[Qa];constructor
  ·rintro rfl;exact⟨Nat.le_refl _,by unfold cW;rw[Nat.sub_self];rfl⟩
  ·rintro⟨h1,h2⟩;have:=congrArg List.length h2;rw[qA]at this;simp at this;omega
 | x::w,q=>by
  show(∃t,(x,t)∈aN (oX n) q/\gK (aN (oX n)) (fN (oX n)) t w)↔_;constructor
  ·rintro⟨t,h1,h2⟩;obtain⟨c1,rfl,rfl⟩:=MG.1 h1;obtain⟨_,rfl⟩:=yi.1 h2;exact⟨by omega,(Ev c1).symm⟩
  ·rintro⟨h1,h2⟩;rcases lt_or_ge q n with c|c
   ·rw[Ev c]at h2;injection h2 with e1 e2
    exact⟨q+1,MG.2 ⟨c,e1,rfl⟩,yi.2 ⟨c,e2⟩⟩
   ·have:=congrArg List.length h2;rw[qA]at this;simp at this;omega
theorem HW{h g:aa}{n:Nat}{v:Value}(h1:190<=n)(h2:n<=210)(p:Qp h (oX n) (n+1) v g):
  (200<n/\v = .tuple ⟨[.slice none 0 0,.int .i64 2]⟩)\/(n<=200/\∃b d ws,v = .tuple ⟨[.slice b (n+1) d,.int .i64 0]⟩/\ws.length=n+1/\xT g b (n+1) d ws/\∀q,q<=n->ws[q]?=some (cW n q)):=by
 have acc:∀q,q<=n->gK (aN (oX n)) (fN (oX n)) q (cW n q):=λq hq=>yi.2 ⟨hq,rfl⟩;obtain⟨_,⟨c1,_⟩|⟨_,⟨⟨q,d,x,y⟩,e⟩|⟨b,d,ws,e,l,r,f⟩⟩⟩:=p
 ·exact absurd (Nx h1 h2) c1
 ·have hq:=KY x y;rw[yj]at hq;have:=x.least _ (acc q (by omega));rw[qA]at this;exact .inl ⟨by omega,e⟩
 ·have key:∀q,q<=n->∃w,ws[q]?=some w/\w=cW n q/\w.length<=200:=λq hq=>by
   obtain⟨w,hw⟩:∃w,ws[q]?=some w:=⟨_,gE (by omega)⟩
   obtain⟨f1,f2⟩:=f q w (by omega) hw;rcases f2 with c|⟨_,c⟩
   ·exact⟨w,hw,(yi.1 c.1).2,f1⟩
   ·exact absurd (acc q hq) (c _)
  refine .inr ⟨?_,b,d,ws,e,l,r,λq hq=>?_⟩
  ·obtain⟨w,_,rfl,k⟩:=key 0 (zero_le _);rw[qA]at k;omega
  ·obtain⟨w,k,rfl,_⟩:=key q hq;exact k
section
theorem Sr(q:dj):aL SS.P 36 1 [(0,.agg ⟨gf q⟩)]=some (.cells (gf q) 34 4 true,jE 1 1):=by kernel_rfl
theorem Mf{l:List (iM×Value)}:∀r∈l.map sL,r.length=2:=λr hr=>by
 obtain⟨q,_,rfl⟩:=mem_map.1 hr;rfl
structure kh(h0 h:aa)(v:Value)(ps:List (iM×Value)):Prop where
 row:gO h0 h 38 2 v (ps.map sL)
 bD:∀(i:Nat)(p:iM×Value),ps[i]?=some p->gO h0 h 34 4 p.2 (p.1.bD.map gf)
 ne:∀(i:Nat)(p:iM×Value),ps[i]?=some p->∀k,bc p.2=some k->bc v≠some k
 H8:∀(i j:Nat)(p q:iM×Value),i≠j->ps[i]?=some p->ps[j]?=some q->∀k,bc p.2=some k->bc q.2≠some k
section
variable {hb g g':aa} {v:Value} {ps:List (iM×Value)}
theorem kh.ok(m:kh hb g v ps)(o:Ok g g'):kh hb g' v ps:=⟨m.row.ok o,λi p hp=>(m.bD i p hp).ok o,m.ne,m.H8⟩
theorem kh.nd(m:kh hb g v ps):v≠wI:=by
 obtain⟨_,⟨h1,_⟩|⟨k,off,cs,c,h1,_⟩⟩:=m.row
 ·rw[h1];intro e;unfold wI at e;injection e with e _ _;cases e
 ·rw[h1];intro e;unfold wI at e;injection e with e _ _;injection e with e;injection e with _ _ e;cases e
theorem kh.st(m:kh hb g v ps):gr g v (ps.map (·.1)):=
 ⟨ps,rfl,m.row.rd,λp hp=>by
  obtain⟨i,hi,e⟩:=List.mem_iff_getElem.1 hp;exact(m.bD i p (by rw[gE hi,e])).rd,m.nd⟩
end
end
section
section
variable {hb g g':aa} {k off n c:Nat} {ps:List (iM×Value)}
theorem uf{ps:List (iM×Value)}{i:Nat}(p:iM×Value):(ps.set i p).map sL=(ps.map sL).set i (sL p):=by rw[map_set]
theorem kh.Tk(w:Wf hb)(ok:Ok hb g)(m:kh hb g (.slice (some ⟨k,off,none⟩) n c) ps){i:Nat}{p:iM×Value}(hp:ps[i]?=some p)(f:List UInt8):
  ∃u:cL,an SS.P 9 (.pointer (some ⟨k,off+i*2+0,none⟩)) (strOf f) g=some (undef,u)/\kh hb (u.app g) (.slice (some ⟨k,off,none⟩) n c) (ps.set i (⟨f,p.1.bD⟩,p.2))/\Ok hb (u.app g)/\(∀j B,g.get j=some B->k≠j->(u.app g).get j=some B)/\(u.app g).next=g.next:=by
 obtain⟨u,h1,h2,h3,h4,h5⟩:=m.row.put (e:=38) (t':=9) (by kernel_rfl) w ok (i:=i) (j:=0) (r:=sL p) (by rw[getElem?_map,hp];rfl) (by omega) (v':=strOf f) rfl rfl;have key:∀{j:Nat}{q:iM×Value},(ps.set i (⟨f,p.1.bD⟩,p.2))[j]?=some q->∃q',ps[j]?=some q'/\q.2=q'.2/\q.1.bD=q'.1.bD:=λ{j q} hq=>by
  rw[List.getElem?_set]at hq;split at hq
  ·next e=>
   subst e;split at hq
   ·obtain rfl:=oI hq;exact⟨p,hp,rfl,rfl⟩
   ·cases hq
  ·exact⟨q,hq,rfl,rfl⟩
 refine⟨u,h1,⟨by rw[uf];exact h2,λj q hq=>?_,λj q hq k' hk'=>?_,λj1 j2 q1 q2 hne hq1 hq2 k' hk'=>?_⟩,h3,h4,h5⟩
 ·obtain⟨q',e1,e2,e3⟩:=key hq;rw[e2,e3];exact(m.bD j q' e1).dQ λk' B hk' hB=>h4 k' B hB (λe=>m.ne j q' e1 k' hk' (by rw[<-e];rfl))
 ·obtain⟨q',e1,e2,e3⟩:=key hq;rw[e2]at hk';exact m.ne j q' e1 k' hk'
 ·obtain⟨q1',e1,e2,e3⟩:=key hq1;obtain⟨q2',e4,e5,e6⟩:=key hq2;rw[e2]at hk';rw[e5];exact m.H8 j1 j2 q1' q2' hne e1 e4 k' hk'
theorem kh.Ti(w:Wf hb)(ok':Ok hb g')(m:kh hb g (.slice (some ⟨k,off,none⟩) n c) ps){i:Nat}{p:iM×Value}(hp:ps[i]?=some p)(kp:∀j B,g.get j=some B->bc p.2≠some j->g'.get j=some B){b:Option Addr}{n' c':Nat}{bD:List dj}(ox:gO hb g' 34 4 (.slice b n' c') (bD.map gf))(nx:∀j,bc (.slice b n' c')=some j->g.next<=j\/bc p.2=some j)(wg:Wf g):
  ∃u:cL,an SS.P 36 (.pointer (some ⟨k,off+i*2+1,none⟩)) (.slice b n' c') g'=some (undef,u)/\kh hb (u.app g') (.slice (some ⟨k,off,none⟩) n c) (ps.set i (⟨p.1.f,bD⟩,.slice b n' c'))/\Ok hb (u.app g')/\(∀j B,g'.get j=some B->k≠j->(u.app g').get j=some B)/\(u.app g').next=g'.next:=by
 have hpk:bc p.2≠some k:=λe=>m.ne i p hp k e rfl;have row':gO hb g' 38 2 (.slice (some ⟨k,off,none⟩) n c) (ps.map sL):=m.row.dQ λk' B hk' hB=>kp k' B hB (λe=>m.ne i p hp k' e hk');obtain⟨u,h1,h2,h3,h4,h5⟩:=row'.put (e:=38) (t':=36) (by kernel_rfl) w ok' (i:=i) (j:=1) (r:=sL p) (by rw[getElem?_map,hp];rfl) (by omega) (v':= .slice b n' c') (jA ..) (by cases b<;>rfl);have hlt:i<ps.length:=(List.getElem?_eq_some_iff.1 hp).1;have hkb:bc (.slice b n' c')≠some k:=λe=>by
  rcases nx k e with h|h
  ·have:=(m.row.lt wg (k:=k) rfl).1;omega
  ·exact hpk h
 have key:∀{j:Nat}{q:iM×Value},(ps.set i (⟨p.1.f,bD⟩,.slice b n' c'))[j]?=some q->(j=i/\q=(⟨p.1.f,bD⟩,.slice b n' c'))\/(j≠i/\ps[j]?=some q):=λ{j q} hq=>by
  rcases dd hq with⟨e,e2⟩|⟨e,hq⟩
  ·exact .inl ⟨e,e2⟩
  ·exact .inr ⟨e,hq⟩
 have old:∀{j:Nat}{q:iM×Value},j≠i->ps[j]?=some q->∀k',bc q.2=some k'->bc (.slice b n' c')≠some k':=λ{j q} hj hq k' hk' e=>by
  rcases nx k' e with h|h
  ·have:=((m.bD j q hq).lt wg hk').1;omega
  ·exact m.H8 j i q p hj hq hp k' hk' h
 refine⟨u,h1,⟨by rw[uf];exact h2,λj q hq=>?_,λj q hq k' hk'=>?_,λj1 j2 q1 q2 hne hq1 hq2 k' hk'=>?_⟩,h3,h4,h5⟩
 ·rcases key hq with⟨rfl,rfl⟩|⟨hj,hq⟩
  ·exact ox.dQ λk' B hk' hB=>h4 k' B hB (λe=>hkb (by rw[e];exact hk'))
  ·exact(m.bD j q hq).dQ λk' B hk' hB=>h4 k' B (kp k' B hB (λe=>m.H8 j i q p hj hq hp k' hk' e)) (λe=>m.ne j q hq k' hk' (by rw[<-e];rfl))
 ·rcases key hq with⟨rfl,rfl⟩|⟨hj,hq⟩
  ·exact λe=>hkb (by rw[hk',<-e];rfl)
  ·exact m.ne j q hq k' hk'
 ·rcases key hq1 with⟨e1,e2⟩|⟨hj,f1⟩<;>rcases key hq2 with⟨e3,e4⟩|⟨hj2,f2⟩
  ·exact absurd (e1.trans e3.symm) hne
  ·rw[e2]at hk';exact λe=>old hj2 f2 k' e hk'
  ·rw[e4];exact old hj f1 k' hk'
  ·exact m.H8 j1 j2 q1 q2 hne f1 f2 k' hk'
theorem kh.at_(m:kh hb g (.slice (some ⟨k,off,none⟩) n c) ps){i:Nat}{p:iM×Value}(hp:ps[i]?=some p):
  af SS.P 22 (.slice (some ⟨k,off,none⟩) n c) (.int .i64 (i:Int))=some (.pointer (some ⟨k,off+i*2,none⟩))/\ag SS.P 36 g (.pointer (some ⟨k,off+i*2+1,none⟩))=some p.2/\ag SS.P 38 g (.pointer (some ⟨k,off+i*2,none⟩))=some (.agg ⟨sL p⟩):=by
 obtain⟨h1,h2,h3⟩:=m.row.at_ DV JR (i:=i) (r:=sL p) (by rw[getElem?_map,hp];rfl) .i64;exact⟨h1,by rw[h2 36 _ 1 Mb Nj (by omega)];rfl,h3 _ RO PL⟩
end
noncomputable def Pm:TypeInfo:=(SS.P.info? 38).getD default
theorem Mp:SS.P.info? 38=some Pm:=by kernel_rfl
theorem G8:Pm.size=2:=by kernel_rfl
theorem D3:Pm.bytes=40:=by kernel_rfl
def Cm:iM×Value:=(⟨[],[]⟩,.slice none 0 0)
theorem Pv:zeroOf SS.P 38=some (.agg ⟨sL Cm⟩):=by kernel_rfl
theorem SR(n:Nat)(hn:n<=100000):bM SS.P 22 (.int .i64 (n:Int)) (.int .i64 (n:Int))=some (.cells ((List.replicate n Cm).map sL).flatten 38 2 true,jE n n):=by
 unfold bM aJ;dsimp only;rw[DV]
 try dsimp only
 change (match SS.P.info? 38,zeroOf SS.P 38 with
  |some i,some z=>(if z.cells.size=i.size/\0<i.size/\(0:Int)<=(n:Int)/\(n:Int)<=(n:Int)/\(n:Int)*i.bytes<=140737488355328/\(n:Int)<=1099511627776 then some (bt.cells (bC z.cells.toList (n:Int).toNat) 38 i.size true,λk=>Value.slice (some ⟨k,0,none⟩) (n:Int).toNat (n:Int).toNat)else none)
  |_,_=>none)=_
 rw[Mp,Pv];dsimp only;rw[G8,D3,if_pos ⟨rfl,by omega,by omega,Int.le_refl _,by omega,by omega⟩];have e:((n:Int)).toNat=n:=by omega
 rw[e,show(Value.agg ⟨sL Cm⟩).cells.toList=sL Cm from rfl,zC,map_replicate];rfl
theorem kh.made{hb g:aa}{k n:Nat}(hk:g.get k=some (.cells ((List.replicate n Cm).map sL).flatten 38 2 true))(h0k:hb.next<=k)(hn:n<=100000):kh hb g (.slice (some ⟨k,0,none⟩) n n) (List.replicate n Cm):=by
 have key:∀{i:Nat}{p:iM×Value},(List.replicate n Cm)[i]?=some p->p=Cm:=λ{i p} hp=>by
  rw[List.getElem?_replicate]at hp;split at hp
  ·exact(oI hp).symm
  ·cases hp
 have hl:((List.replicate n Cm).map sL).length=n:=by simp
 have:=gO.made (h0:=hb) hk Mf h0k (by rw[hl];unfold bR;omega);rw[hl]at this;exact⟨this,λi p hp=>(by rw[key hp];exact gO.nil _ _ _ _),λi p hp k' hk'=>(by rw[key hp]at hk';cases hk'),λi j p q _ hp hq k' hk'=>(by rw[key hp]at hk';cases hk')⟩
end
noncomputable def LJ:FD:=fo Tryz.f10 []
theorem IY(s:Int)(l:LB)(t:Int)(h:aa)(Q:VH)(hx:xN (bN SS.P 34) h λB1 g2=>xA (bL SS.P 34 [(0,(.int .i64 s)),(1,(.int .i64 s)),(2,(strOf l)),(3,(.int .i64 t))]) λc3=>xU (an SS.P 34 (pA (h.next)) (.agg ⟨c3⟩) g2) g2 λu4 g5=>iP SS [((pA (h.next)),some 34)] g5 Q):FW SS 10 [(.int .i64 s),(strOf l),(.int .i64 t)] h Q:=fy LJ Tryz.func10 (az hx)
noncomputable def ca:FD:=fo Tryz.f4 [([1,1,1,0,1,0,0],[0,2,3,4]),([1,1,1,1,1,1,1,1,0,1,0,0],[0,2,3,5,6,7]),([1,1,1,1,1,1,1,1,0,1,0,0,1,0,0,1,1,0,0],[0,2,3,5,6,7,8])]
abbrev gz(z:Int)(k:Nat)(i:Nat):LV:=[(.int .i64 z),(.bool false),(pA k),(iA i)]
abbrev dE(z:Int)(k:Nat)(a:OA)(m c:Nat)(e:Int)(i:Nat):LV:=[(.int .i64 z),(.bool false),(pA k),(.slice a m c),(.int .i64 e),(iA i)]
abbrev iS(z:Int)(k:Nat)(a:OA)(m c:Nat)(e:Int)(i:Nat)(j:Nat):LV:=[(.int .i64 z),(.bool false),(pA k),(.slice a m c),(.int .i64 e),(iA i),(iA j)]
theorem Ln(z:Int)(h:aa)(Q:VH)(hx:aZ (decide ((z:Int)<190)) (FW SS 6 [] h λv1 h2=>yB v1 λb3=>Q (.bool b3) h2) (aZ (decide ((z:Int)>210)) (FW SS 6 [] h λv4 h5=>yB v4 λb6=>Q (.bool b6) h5) (xR (bM SS.P 22 (.int .i64 (wrap .i64 (z+1))) (.int .i64 (wrap .i64 (z+1)))) h λB7 n8 c9 zG=>xA (bL SS.P 24 [(0,(.int .i64 3)),(2,(strOf [49])),(3,(sA (h.next) n8 c9))]) λbE=>xN (bN SS.P 24) zG λB12 zH=>xU (an SS.P 24 (pA (zG.next)) (.agg ⟨bE⟩) zH) zH λKm Iu=>LL SS ca [1,1,1,0,1,0,0] (gz z (zG.next) 0) Iu (KK SS ca [1,1,1,0,1,0] [] (EE SS ca Q))))):FW SS 4 [(.int .i64 z)] h Q:=fy ca Tryz.func4 (az hx)
theorem rZ(z:Int)(k:Nat)(Inv:Nat->Nat->aa->Prop)(Q:VH)(step:∀(mz:Nat) (i:Nat) (zz:Nat->Value) (h:aa),Inv mz i h->aZ (decide (((i:Int):Int)<z)) (xP (ah SS.P 24 (pA k) 3) λp16=>xL (ag SS.P 22 (room h 13) (.pointer (some p16))) λa17 n18 c19=>xI .i64 (aq SS.P .rem 3 (iA i) (.int .i64 3)) λn20=>FW SS 10 [(.int .i64 (wrap .i64 (1+n20))),(strOf [49,47,50]),(.int .i64 (wrap .i64 ((i:Int)+1)))] (room h 13) λv21 h22=>yA v21 λc23=>zR (aL SS.P 36 1 [(0,(.agg ⟨c23⟩))]) λM7 n25 c26=>xP (af SS.P 22 (.slice a17 n18 c19) (iA i)) λp27=>xP (ah SS.P 38 (.pointer (some p27)) 1) λp28=>xU (an SS.P 36 (.pointer (some p28)) (sA (h.next+9) n25 c26) (aV h22 h.next [(9,M7)])) (aV h22 h.next [(9,M7)]) λu29 g30=>(ag SS.P 22 h22 (.pointer (some p16))=some (.slice a17 n18 c19)/\jB 4 (.slice a17 n18 c19) (.slice a17 n18 c19)=true)/\ba (lZ (gz z k) Inv) mz [(.int .i64 z),(.bool false),(pA k),(.int .i64 (wrap .i64 ((i:Int)+1)))] g30) (xP (ah SS.P 24 (pA k) 3) λp31=>xL (ag SS.P 22 h (.pointer (some p31))) λa32 n33 c34=>xP (af SS.P 22 (.slice a32 n33 c34) (.int .i64 z)) λp35=>xP (ah SS.P 38 (.pointer (some p35)) 0) λp36=>xU (an SS.P 9 (.pointer (some p36)) (strOf [49]) h) h λu37 g38=>xA (ag SS.P 24 g38 (pA k)) λc39=>FW SS 7 [(.agg ⟨c39⟩)] g38 λv40 h41=>∃(a42:OA) (n43 c44:Nat),∃n45:Int,v40=(.tuple ⟨[(.slice a42 n43 c44),(.int .i64 n45)]⟩)/\aZ (decide ((z:Int)>200)) (aZ (((n45:Int)==2)) (aZ ((((n43:Int):Int)==0)) (FW SS 6 [] h41 λv46 h47=>yB v46 λb48=>Q (.bool b48) h47) (Q (.bool false) h41)) (Q (.bool false) h41)) (aZ (((n45:Int) !=0)) (Q (.bool false) h41) (aZ ((((n43:Int):Int) !=wrap .i64 (z+1))) (Q (.bool false) h41) (LL SS ca [1,1,1,1,1,1,1,1,0,1,0,0] (dE z k a42 n43 c44 n45 0) h41 (KK SS ca [1,1,1,1,1,1,1,1,0,1,0] [] (EE SS ca Q)))))))(mz:Nat){i:Nat}{h:aa}(hi:Inv mz i h):LL SS ca [1,1,1,0,1,0,0] (gz z k i) h (KK SS ca [1,1,1,0,1,0] [] (EE SS ca Q)):=
 gH (gz z k) Inv (λmz i zz h hi=>az (step mz i zz h hi)) mz hi
theorem r6(z:Int)(k:Nat)(a:OA)(m c:Nat)(e:Int)(Inv:Nat->Nat->aa->Prop)(Q:VH)(step:∀(mz:Nat) (i:Nat) (zz:Nat->Value) (h:aa),Inv mz i h->aZ (decide (((i:Int):Int)<=z)) (xP (af SS.P 27 (.slice a m c) (iA i)) λp49=>xL (ag SS.P 32 h (.pointer (some p49))) λa50 n51 c52=>aZ ((((n51:Int):Int) !=wrap .i64 (z-(i:Int)))) (Q (.bool false) h) (LL SS ca [1,1,1,1,1,1,1,1,0,1,0,0,1,0,0,1,1,0,0] (iS z k a m c e i 0) h (KK SS ca [1,0,0,1,1,0] [1,1,1,1,1,1,1,1,0,1,0,0] (RR ca [1,1,1,1,1,1,1,1,0,1,0,0] (lZ (dE z k a m c e) Inv) mz (KK SS ca [1,1,1,1,1,1,1,1,0,1,0] [] (EE SS ca Q)))))) (FW SS 6 [] h λv53 h54=>yB v53 λb55=>Q (.bool b55) h54))(mz:Nat){i:Nat}{h:aa}(hi:Inv mz i h):LL SS ca [1,1,1,1,1,1,1,1,0,1,0,0] (dE z k a m c e i) h (KK SS ca [1,1,1,1,1,1,1,1,0,1,0] [] (EE SS ca Q)):=
 gH (dE z k a m c e) Inv (λmz i zz h hi=>az (step mz i zz h hi)) mz hi
theorem r7(z:Int)(k:Nat)(a:OA)(m c:Nat)(e:Int)(Inv:Nat->Nat->aa->Prop)(mz i:Nat)(Inv2:Nat->Nat->aa->Prop)(Q:VH)(step:∀(mz2:Nat) (j:Nat) (zz:Nat->Value) (h:aa),Inv2 mz2 j h->xP (af SS.P 27 (.slice a m c) (iA i)) λp56=>xL (ag SS.P 32 h (.pointer (some p56))) λa57 n58 c59=>aZ (decide (((j:Int):Int)<(n58:Int))) (xP (af SS.P 27 (.slice a m c) (iA i)) λp60=>xL (ag SS.P 32 h (.pointer (some p60))) λa61 n62 c63=>xP (af SS.P 32 (.slice a61 n62 c63) (iA j)) λp64=>xI .i64 (ag SS.P 3 h (.pointer (some p64))) λn65=>xI .i64 (aq SS.P .rem 3 (.int .i64 (wrap .i64 ((i:Int)+(j:Int)))) (.int .i64 3)) λn66=>aZ (((n65:Int) !=wrap .i64 (1+n66))) (Q (.bool false) h) (ba (lZ (iS z k a m c e i) Inv2) mz2 [(.int .i64 z),(.bool false),(pA k),(.slice a m c),(.int .i64 e),(iA i),(.int .i64 (wrap .i64 ((j:Int)+1)))] h)) (ba (lZ (dE z k a m c e) Inv) mz [(.int .i64 z),(.bool false),(pA k),(.slice a m c),(.int .i64 e),(.int .i64 (wrap .i64 ((i:Int)+1)))] h))(mz2:Nat){j:Nat}{h:aa}(hi:Inv2 mz2 j h):LL SS ca [1,1,1,1,1,1,1,1,0,1,0,0,1,0,0,1,1,0,0] (iS z k a m c e i j) h (KK SS ca [1,0,0,1,1,0] [1,1,1,1,1,1,1,1,0,1,0,0] (RR ca [1,1,1,1,1,1,1,1,0,1,0,0] (lZ (dE z k a m c e) Inv) mz (KK SS ca [1,1,1,1,1,1,1,1,0,1,0] [] (EE SS ca Q)))):=
 gH (iS z k a m c e i) Inv2 (λmz2 j zz h hi=>az (step mz2 j zz h hi)) mz2 hi
theorem IZ(s:Int)(l:List UInt8)(t:Int){h:aa}(w:Wf h):FW SS 10 [.int .i64 s,strOf l,.int .i64 t] h (λv h'=>v = .agg ⟨gf ⟨s,s,l,t⟩⟩/\Ok h h'):=by
 obtain⟨u,h1,h2,h3⟩:=xb w ⟨s,s,l,t⟩;refine IY s l t h _ ⟨_,Fu,_,by kernel_rfl,u,h1,Ay h3.all ⟨rfl,h2⟩⟩
theorem Rr(i:Nat):aq SS.P .rem 3 (.int .i64 (i:Int)) (.int .i64 3)=some (.int .i64 ((i%3:Nat):Int)):=by
 rw[show(3:Int)=((3:Nat):Int)from rfl,dL (by omega) (by decide),Int.natCast_emod]
theorem SO{h g:aa}(w:Wf h){n j:Nat}(hj:j<n)(o:Ok (Go.Ab.room h n) g)(B:bt):Ok h (aV g h.next [(j,B)])/\(aV g h.next [(j,B)]).get (h.next+j)=some B:=by
 have o0:Ok h g:=((Ok.refl w).room n).trans o;have hn:h.next+n<=g.next:=o.nx;refine⟨o0.set B (Nat.le_add_right _ _) (by omega) w,?_⟩;show(g.set (h.next+j) B).get (h.next+j)=_;rw[aa.aR,if_pos rfl]
theorem KJ{h0:aa}{n k:Nat}{b:Option Addr}{d:Nat}{ws:List (List Nat)}{hb:aa}(e:Int)(okb:Ok hb h0)(hn:n<=210)(r:xT h0 b (n+1) d ws)(hw:∀q,q<=n->ws[q]?=some (cW n q)):LL SS ca [1,1,1,1,1,1,1,1,0,1,0,0] (dE (n:Int) k b (n+1) d e 0) h0 (KK SS ca [1,1,1,1,1,1,1,1,0,1,0] [] (EE SS ca (EQ hb))):=by
 refine r6 (n:Int) k b (n+1) d e (λmz i g=>i<=n+1/\mz=n+1-i/\Ok h0 g) _ (λmz i=>?_) (n+1) (i:=0) ⟨zero_le _,rfl,Ok.refl okb.wf⟩;intros;rename_i g hin;obtain⟨f1,f2,o⟩:=hin;refine ae (λq1=>?_) (λq1=>Er (okb.trans o));have q1:=dT q1;obtain⟨p,a,m,c,s1,s2,s3⟩:=(r.ok o).at_ (hw i (by omega));have hm:=Jq s3;rw[qA]at hm;refine⟨_,s1,_,_,_,s2,ae (λq2=>?_) (λq2=>?_)⟩
 ·rw[aB (by omega) (by omega)]at q2;simp at q2;omega
 ·refine r7 (n:Int) k b (n+1) d e _ mz i (λmz2 j g=>j<=n-i/\mz2=n-i-j/\Ok h0 g) _ (λmz2 j=>?_) (n-i) (j:=0) ⟨zero_le _,rfl,o⟩;intros;rename_i g hin;obtain⟨f3,f4,o⟩:=hin;obtain⟨p,a,m,c,s1,s2,s3⟩:=(r.ok o).at_ (hw i (by omega));have hm:=Jq s3;rw[qA]at hm;refine⟨_,s1,_,_,_,s2,ae (λq3=>?_) (λq3=>?_)⟩
  ·have q3:=dT q3;obtain⟨t,t1,t2⟩:=R3 s3 (PZ (q:=i) (n:=n) (j:=j) (by omega));refine⟨_,s1,_,_,_,s2,_,t1,_,t2,_,(by rw[aB (by omega) (by omega),<-Int.natCast_add];exact Rr (i+j)),ae (λq4=>?_) (λq4=>?_)⟩
   ·rw[aB (by omega) (by omega)]at q4;simp at q4
   ·rw[bW (i:=j) (n:=n) (by omega) (by omega)];exact eH (mz2-1) (by omega) ⟨by omega,by omega,o⟩
  ·have q3:=dF q3;rw[bW (i:=i) (n:=n+1) (by omega) (by omega)];exact eH (mz-1) (by omega) ⟨by omega,by omega,o⟩
structure Ch(hb:aa)(k kr n i:Nat)(ps:List (iM×Value))(g:aa):Prop where
 ok:Ok hb g
 box:g.get k=some (Bm (oX n) (some ⟨kr,0,none⟩) (n+1) (n+1))
 own:kh hb g (.slice (some ⟨kr,0,none⟩) (n+1) (n+1)) ps
 st:ps.map (·.1)=(List.range (n+1)).map (Kj i)
 ne:kr≠k
 kb:hb.next<=k
theorem P0{hb g:aa}(w:Wf hb)(tb:mn hb){k kr n:Nat}(hn:n<=210)(h0:190<=n){ps:List (iM×Value)}(c:Ch hb k kr n n ps g):
  xP (ah SS.P 24 (pA k) 3) λp31=>xL (ag SS.P 22 g (.pointer (some p31))) λa32 n33 c34=>xP (af SS.P 22 (.slice a32 n33 c34) (.int .i64 (n:Int))) λp35=>xP (ah SS.P 38 (.pointer (some p35)) 0) λp36=>xU (an SS.P 9 (.pointer (some p36)) (strOf [49]) g) g λu37 g38=>xA (ag SS.P 24 g38 (pA k)) λc39=>FW SS 7 [(.agg ⟨c39⟩)] g38 λv40 h41=>∃(a42:OA)(n43 c44:Nat),∃n45:Int,v40=(.tuple ⟨[(.slice a42 n43 c44),(.int .i64 n45)]⟩)/\aZ (decide ((n:Int)>200)) (aZ (((n45:Int)==2)) (aZ ((((n43:Int):Int)==0)) (FW SS 6 [] h41 λv46 h47=>yB v46 λb48=>EQ hb (.bool b48) h47) (EQ hb (.bool false) h41)) (EQ hb (.bool false) h41)) (aZ (((n45:Int) !=0)) (EQ hb (.bool false) h41) (aZ ((((n43:Int):Int) !=wrap .i64 ((n:Int)+1))) (EQ hb (.bool false) h41) (LL SS ca [1,1,1,1,1,1,1,1,0,1,0,0] (dE (n:Int) k a42 n43 c44 n45 0) h41 (KK SS ca [1,1,1,1,1,1,1,1,0,1,0] [] (EE SS ca (EQ hb)))))):=by
 have hlen:ps.length=n+1:=by
  have:=congrArg List.length c.st;rwa[lM,lM,length_range]at this
 obtain⟨p,hp⟩:∃p,ps[n]?=some p:=⟨_,gE (by omega)⟩
 obtain⟨i1,i2,i3⟩:=c.own.at_ hp;obtain⟨u,s1,s2,s3,s4,s5⟩:=c.own.Tk w c.ok hp [49];have hp1:p.1=⟨[],[]⟩:=by
  have:=congrArg (·[n]?) c.st;simp only[getElem?_map,hp,getElem?_range (show n<n+1 by omega),map_some]at this;rw[oI this];unfold Kj;rw[if_neg (by omega)]
 have hst:(ps.set n (⟨[49],p.1.bD⟩,p.2)).map (·.1)=(oX n).aA:=by
  rw[map_set,c.st,hp1];show _=(List.range (n+1)).map (my n);apply List.ext_getElem?;intro q;rw[List.getElem?_set];simp only[lM,length_range];split
  ·next e=>
   subst e;rw[if_pos (by omega),getElem?_map,getElem?_range (by omega)];simp[my]
  ·next e=>
   rw[getElem?_map,getElem?_map];rcases lt_or_ge q (n+1)with c1|c1
   ·rw[getElem?_range c1];have:Kj n q=my n q:=by
     unfold Kj my;rw[if_pos (by omega),if_pos (by omega)]
    simp[this]
   ·rw[List.getElem?_eq_none (by simp;omega)];rfl
 have row:gr (u.app g) (.slice (some ⟨kr,0,none⟩) (n+1) (n+1)) (oX n).aA:=by
  rw[<-hst];exact s2.st
 have box:(u.app g).get k=some (Bm (oX n) (some ⟨kr,0,none⟩) (n+1) (n+1)):=s4 _ _ c.box c.ne;have mb:MB (u.app g) k (oX n) (some ⟨kr,0,none⟩) (n+1) (n+1):=⟨box,row⟩
 refine⟨_,iG _,_,_,_,eI DV Ku (h:=g) (i:=3) c.box (by simp[iC]),_,i1,_,yx _ _,u,s1,_,mb.all,(LG (tb.ok s3) s3.wf (HX hn) row).mono ?_⟩;intro v h41 pf;have ok:=s3.trans pf.1;rcases HW h0 hn pf with⟨c1,rfl⟩|⟨c1,b,d,ws,rfl,l,r,hw⟩
 ·refine⟨_,_,_,_,rfl,ae (λ_=>ae (λ_=>ae (λ_=>Er ok) (λq=>by simp at q)) (λq=>by simp at q)) (λq=>?_)⟩;have q:=dF q;omega
 ·refine⟨_,_,_,_,rfl,ae (λq=>?_) (λ_=>ae (λq=>by simp at q) (λ_=>ae (λq=>?_) (λ_=>KJ 0 ok hn r hw)))⟩
  ·have q:=dT q;omega
  ·rw[aB (by omega) (by omega)]at q;simp at q
def cI(hb:aa)(k kr n mz i:Nat)(g:aa):Prop:=i<=n/\mz=n-i/\∃ps,Ch hb k kr n i ps g
theorem Nw{hb g:aa}(w:Wf hb)(tb:mn hb){k kr n:Nat}(h0:190<=n)(hn:n<=210)(ps)(c:Ch hb k kr n 0 ps g):LL SS ca [1,1,1,0,1,0,0] (gz (n:Int) k 0) g (KK SS ca [1,1,1,0,1,0] [] (EE SS ca (EQ hb))):=by
 refine rZ (n:Int) k (cI hb k kr n) _ (λmz i=>?_) n (i:=0) ⟨zero_le _,rfl,ps,c⟩;intros;rename_i g hin;obtain⟨f1,f2,ps,c⟩:=hin;refine ae (λq1=>?_) (λq1=>?_)
 ·have q1:=dT q1;have hlen:ps.length=n+1:=by
   have:=congrArg List.length c.st;rwa[lM,lM,length_range]at this
  obtain⟨p,hp⟩:∃p,ps[i]?=some p:=⟨_,gE (by omega)⟩
  have o13:=c.ok.room 13;refine⟨_,iG _,_,_,_,eI DV Ku (h:=Go.Ab.room g 13) (i:=3) c.box (by simp[iC]),_,Rr i,(IZ _ _ _ o13.wf).mono ?_⟩;rintro _ h22 ⟨rfl,o22⟩;refine⟨_,rfl,_,_,_,Sr _,?_⟩;obtain⟨i1,i2,i3⟩:=c.own.at_ hp;refine⟨_,i1,_,kQ _ _,?_⟩;have hq:(⟨wrap .i64 (1+((i%3:Nat):Int)),wrap .i64 (1+((i%3:Nat):Int)),[49,47,50],wrap .i64 ((i:Int)+1)⟩:dj)=qw i:=by
   unfold qw;rw[aB (by omega) (by omega),aB (by omega) (by omega)];simp
  obtain⟨oS,gS⟩:=SO c.ok.wf (j:=9) (by omega) o22 (.cells (gf (qw i)) 34 4 true);rw[hq];generalize hS:aV h22 g.next [(9,.cells (gf (qw i)) 34 4 true)]=S at*;have okS:=c.ok.trans oS;have ox:gO hb S 34 4 (.slice (some ⟨g.next+9,0,none⟩) 1 1) ([qw i].map gf):=gO.made (rs:=[gf (qw i)]) (by rw[gS];rfl) (λr hr=>by rw[mem_singleton]at hr;rw[hr];rfl) (by have:=c.ok.nx;omega) (by show 1<bR;unfold bR;omega);obtain⟨u,s1,s2,s3,s4,s5⟩:=c.own.Ti w okS hp (λj B hj _=>oS.ext _ _ hj) ox (λj e=>by
   have:(some (g.next+9):Option Nat)=some j:=e;have:=oI this;exact .inl (by omega)) c.ok.wf
  have hp1:p.1=⟨[],[]⟩:=by
   have:=congrArg (·[i]?) c.st;simp only[getElem?_map,hp,getElem?_range (show i<n+1 by omega),map_some]at this;rw[oI this];unfold Kj;rw[if_neg (by omega)]
  refine⟨u,s1,⟨eI DV Ku (h:=h22) (i:=3) (o22.ext _ _ c.box) (by simp[iC]),by simp[jB]⟩,?_⟩;rw[bW (i:=i) (n:=n) (by omega) (by omega)];refine eH (mz-1) (by omega) ⟨by omega,by omega,_,s3,s4 _ _ (oS.ext _ _ c.box) c.ne,s2,?_,c.ne,c.kb⟩;rw[map_set,c.st,hp1];apply List.ext_getElem?;intro q;rw[List.getElem?_set];simp only[lM,length_range];split
  ·next e=>
   subst e;rw[if_pos (by omega),getElem?_map,getElem?_range (by omega)];simp[Kj]
  ·next e=>
   rw[getElem?_map,getElem?_map];rcases lt_or_ge q (n+1)with c1|c1
   ·rw[getElem?_range c1];have:Kj i q=Kj (i+1) q:=by
     unfold Kj;by_cases c2:q<i
     ·rw[if_pos c2,if_pos (by omega)]
     ·rw[if_neg c2,if_neg (by omega)]
    simp[this]
   ·rw[List.getElem?_eq_none (by simp;omega)];rfl
 ·have q1:=dF q1;obtain rfl:i=n:=by omega
  exact P0 w tb hn h0 c
def M7:bt:= .cells [.int .i64 0,.int .i64 0,strOf [],.slice none 0 0] 24 0 true
theorem Sm:bN SS.P 24=some (M7,kj):=by kernel_rfl
theorem Ss(k n:Nat):bL SS.P 24 [(0,.int .i64 3),(2,strOf [49]),(3,.slice (some ⟨k,0,none⟩) n n)]=some (.agg ⟨[.int .i64 3,.int .i64 0,strOf [49],.slice (some ⟨k,0,none⟩) n n]⟩):=by kernel_rfl
theorem Lo{h:aa}(tb:mn h)(w:Wf h)(z:Int):FW SS 4 [.int .i64 z] h (EQ h):=by
 refine Ln z h _ (ae (λ_=>Er (Ok.refl w)) (λq1=>ae (λ_=>Er (Ok.refl w)) (λq2=>?_)));have q1:=dF q1;have q2:=dF q2;obtain⟨n,rfl⟩:∃n:Nat,z=n:=⟨z.toNat,by omega⟩
 have hz:wrap .i64 ((n:Int)+1)=((n+1:Nat):Int):=by rw[aB (by omega) (by omega)];omega
 rw[hz];have o1:=(Ok.refl w).push (.cells ((List.replicate (n+1) Cm).map sL).flatten 38 2 true);have g1:=bm h (.cells ((List.replicate (n+1) Cm).map sL).flatten 38 2 true);have nx1:(h.push (.cells ((List.replicate (n+1) Cm).map sL).flatten 38 2 true)).next=h.next+1:=rfl;refine⟨_,_,_,SR (n+1) (by omega),_,Ss _ _,_,Sm,?_⟩;generalize h.push (.cells ((List.replicate (n+1) Cm).map sL).flatten 38 2 true)=g at*;obtain⟨o3,e3⟩:=lk (cs:=iC (oX n) (some ⟨h.next,0,none⟩) (n+1) (n+1)) o1.wf ((Ok.refl o1.wf).push M7) (bm g M7) (Nat.le_refl _);refine⟨_,jU M1 rfl (bm g M7) rfl rfl,?_⟩;have m0:kh h g (.slice (some ⟨h.next,0,none⟩) (n+1) (n+1)) (List.replicate (n+1) Cm):=kh.made g1 (Nat.le_refl _) (by omega);refine Nw w tb (kr:=h.next) (by omega) (by omega) (List.replicate (n+1) Cm) ⟨o1.trans o3,e3,m0.ok o3,?_,by omega,by omega⟩;rw[map_replicate];apply List.ext_getElem?;intro q;rw[List.getElem?_replicate,getElem?_map];split
 ·next c=>rw[getElem?_range c];simp[Kj,Cm]
 ·next c=>rw[List.getElem?_eq_none (by simp;omega)];rfl
theorem OI:aF Tryz.prog 136 [.string ⟨#[49]⟩] (.bool true):=aj al iV (n:=2000) (by kernel_rfl) (by kernel_rfl)
theorem OJ:aF Tryz.prog 136 [.string ⟨#[50]⟩] (.bool true):=aj al iV (n:=2000) (by kernel_rfl) (by kernel_rfl)
theorem OK:aF Tryz.prog 136 [.string ⟨#[53]⟩] (.bool true):=aj al iV (n:=2000) (by kernel_rfl) (by kernel_rfl)
theorem OL:aF Tryz.prog 136 [.string ⟨#[48]⟩] (.bool true):=aj al iV (n:=2000) (by kernel_rfl) (by kernel_rfl)
theorem OM:aF Tryz.prog 136 [.string ⟨#[52]⟩] (.bool true):=aj al iV (n:=2000) (by kernel_rfl) (by kernel_rfl)
theorem ON:aF Tryz.prog 136 [.string ⟨#[54]⟩] (.bool true):=aj al iV (n:=2000) (by kernel_rfl) (by kernel_rfl)
theorem OO:aF Tryz.prog 136 [.string ⟨#[49,48]⟩] (.bool true):=aj al iV (n:=2000) (by kernel_rfl) (by kernel_rfl)
theorem OP:aF Tryz.prog 136 [.string ⟨#[55]⟩] (.bool true):=aj al iV (n:=2000) (by kernel_rfl) (by kernel_rfl)
noncomputable def RH:List (List Value×Value):=[([.string ⟨#[49]⟩],.bool true),([.string ⟨#[50]⟩],.bool true),([.string ⟨#[53]⟩],.bool true),([.string ⟨#[48]⟩],.bool true),([.string ⟨#[52]⟩],.bool true),([.string ⟨#[54]⟩],.bool true),([.string ⟨#[49,48]⟩],.bool true),([.string ⟨#[55]⟩],.bool true)]
theorem Ml:gw Tryz.prog 136 RH:=ak OI (by kernel_rfl) (ak OJ (by kernel_rfl) (ak OK (by kernel_rfl) (ak OL (by kernel_rfl) (ak OM (by kernel_rfl) (ak ON (by kernel_rfl) (ak OO (by kernel_rfl) (ak OP (by kernel_rfl) (eD))))))))
noncomputable def TM:iK:=(136,.mH RH)::NU
theorem bI:ji Tryz.prog ju TM:=ck Ml (iV)
theorem Rb:aF Tryz.prog 94 [.string ⟨#[48]⟩,.string ⟨#[49]⟩] (.tuple #[.string ⟨#[48]⟩,.int .i64 0]):=aj al bI (n:=2000) (by kernel_rfl) (by kernel_rfl)
theorem Rc:aF Tryz.prog 94 [.string ⟨#[52]⟩,.string ⟨#[49]⟩] (.tuple #[.string ⟨#[52]⟩,.int .i64 0]):=aj al bI (n:=2000) (by kernel_rfl) (by kernel_rfl)
theorem Re:aF Tryz.prog 94 [.string ⟨#[49]⟩,.string ⟨#[49]⟩] (.tuple #[.string ⟨#[49]⟩,.int .i64 0]):=aj al bI (n:=2000) (by kernel_rfl) (by kernel_rfl)
theorem Rf:aF Tryz.prog 94 [.string ⟨#[50]⟩,.string ⟨#[49]⟩] (.tuple #[.string ⟨#[50]⟩,.int .i64 0]):=aj al bI (n:=2000) (by kernel_rfl) (by kernel_rfl)
theorem Rg:aF Tryz.prog 94 [.string ⟨#[54]⟩,.string ⟨#[49]⟩] (.tuple #[.string ⟨#[54]⟩,.int .i64 0]):=aj al bI (n:=2000) (by kernel_rfl) (by kernel_rfl)
theorem Rh:aF Tryz.prog 94 [.string ⟨#[53]⟩,.string ⟨#[49]⟩] (.tuple #[.string ⟨#[53]⟩,.int .i64 0]):=aj al bI (n:=2000) (by kernel_rfl) (by kernel_rfl)
theorem Ri:aF Tryz.prog 94 [.string ⟨#[49,48]⟩,.string ⟨#[49]⟩] (.tuple #[.string ⟨#[49,48]⟩,.int .i64 0]):=aj al bI (n:=2000) (by kernel_rfl) (by kernel_rfl)
noncomputable def T1:List (List Value×Value):=[([.string ⟨#[48]⟩,.string ⟨#[49]⟩],.tuple #[.string ⟨#[48]⟩,.int .i64 0]),([.string ⟨#[52]⟩,.string ⟨#[49]⟩],.tuple #[.string ⟨#[52]⟩,.int .i64 0]),([.string ⟨#[49]⟩,.string ⟨#[49]⟩],.tuple #[.string ⟨#[49]⟩,.int .i64 0]),([.string ⟨#[50]⟩,.string ⟨#[49]⟩],.tuple #[.string ⟨#[50]⟩,.int .i64 0]),([.string ⟨#[54]⟩,.string ⟨#[49]⟩],.tuple #[.string ⟨#[54]⟩,.int .i64 0]),([.string ⟨#[53]⟩,.string ⟨#[49]⟩],.tuple #[.string ⟨#[53]⟩,.int .i64 0]),([.string ⟨#[49,48]⟩,.string ⟨#[49]⟩],.tuple #[.string ⟨#[49,48]⟩,.int .i64 0])]
theorem Ph:gw Tryz.prog 94 T1:=ak Rb (by kernel_rfl) (ak Rc (by kernel_rfl) (ak Re (by kernel_rfl) (ak Rf (by kernel_rfl) (ak Rg (by kernel_rfl) (ak Rh (by kernel_rfl) (ak Ri (by kernel_rfl) (eD)))))))
theorem Ou:aF Tryz.prog 133 [.string ⟨#[48]⟩,.string ⟨#[52]⟩] (.tuple #[.string ⟨#[52]⟩,.int .i64 0]):=aj al bI (n:=2000) (by kernel_rfl) (by kernel_rfl)
theorem Ov:aF Tryz.prog 133 [.string ⟨#[49]⟩,.string ⟨#[52]⟩] (.tuple #[.string ⟨#[53]⟩,.int .i64 0]):=aj al bI (n:=2000) (by kernel_rfl) (by kernel_rfl)
theorem Ow:aF Tryz.prog 133 [.string ⟨#[50]⟩,.string ⟨#[52]⟩] (.tuple #[.string ⟨#[54]⟩,.int .i64 0]):=aj al bI (n:=2000) (by kernel_rfl) (by kernel_rfl)
theorem Ox:aF Tryz.prog 133 [.string ⟨#[53]⟩,.string ⟨#[53]⟩] (.tuple #[.string ⟨#[49,48]⟩,.int .i64 0]):=aj al bI (n:=2000) (by kernel_rfl) (by kernel_rfl)
theorem Oy:aF Tryz.prog 133 [.string ⟨#[49]⟩,.string ⟨#[54]⟩] (.tuple #[.string ⟨#[55]⟩,.int .i64 0]):=aj al bI (n:=2000) (by kernel_rfl) (by kernel_rfl)
noncomputable def RE:List (List Value×Value):=[([.string ⟨#[48]⟩,.string ⟨#[52]⟩],.tuple #[.string ⟨#[52]⟩,.int .i64 0]),([.string ⟨#[49]⟩,.string ⟨#[52]⟩],.tuple #[.string ⟨#[53]⟩,.int .i64 0]),([.string ⟨#[50]⟩,.string ⟨#[52]⟩],.tuple #[.string ⟨#[54]⟩,.int .i64 0]),([.string ⟨#[53]⟩,.string ⟨#[53]⟩],.tuple #[.string ⟨#[49,48]⟩,.int .i64 0]),([.string ⟨#[49]⟩,.string ⟨#[54]⟩],.tuple #[.string ⟨#[55]⟩,.int .i64 0])]
theorem Mi:gw Tryz.prog 133 RE:=ak Ou (by kernel_rfl) (ak Ov (by kernel_rfl) (ak Ow (by kernel_rfl) (ak Ox (by kernel_rfl) (ak Oy (by kernel_rfl) (eD)))))
theorem Oz:aF Tryz.prog 134 [.string ⟨#[54]⟩,.string ⟨#[54]⟩] (.int .i64 0):=aj al bI (n:=2000) (by kernel_rfl) (by kernel_rfl)
theorem OB:aF Tryz.prog 134 [.string ⟨#[49,48]⟩,.string ⟨#[54]⟩] (.int .i64 1):=aj al bI (n:=2000) (by kernel_rfl) (by kernel_rfl)
theorem OC:aF Tryz.prog 134 [.string ⟨#[52]⟩,.string ⟨#[52]⟩] (.int .i64 0):=aj al bI (n:=2000) (by kernel_rfl) (by kernel_rfl)
theorem OD:aF Tryz.prog 134 [.string ⟨#[53]⟩,.string ⟨#[53]⟩] (.int .i64 0):=aj al bI (n:=2000) (by kernel_rfl) (by kernel_rfl)
noncomputable def RF:List (List Value×Value):=[([.string ⟨#[54]⟩,.string ⟨#[54]⟩],.int .i64 0),([.string ⟨#[49,48]⟩,.string ⟨#[54]⟩],.int .i64 1),([.string ⟨#[52]⟩,.string ⟨#[52]⟩],.int .i64 0),([.string ⟨#[53]⟩,.string ⟨#[53]⟩],.int .i64 0)]
theorem Mj:gw Tryz.prog 134 RF:=ak Oz (by kernel_rfl) (ak OB (by kernel_rfl) (ak OC (by kernel_rfl) (ak OD (by kernel_rfl) (eD))))
theorem OE:aF Tryz.prog 135 [.string ⟨#[54]⟩,.string ⟨#[54]⟩] (.tuple #[.string ⟨#[48]⟩,.int .i64 0]):=aj al bI (n:=2000) (by kernel_rfl) (by kernel_rfl)
theorem OF:aF Tryz.prog 135 [.string ⟨#[49,48]⟩,.string ⟨#[54]⟩] (.tuple #[.string ⟨#[52]⟩,.int .i64 0]):=aj al bI (n:=2000) (by kernel_rfl) (by kernel_rfl)
theorem OG:aF Tryz.prog 135 [.string ⟨#[52]⟩,.string ⟨#[52]⟩] (.tuple #[.string ⟨#[48]⟩,.int .i64 0]):=aj al bI (n:=2000) (by kernel_rfl) (by kernel_rfl)
theorem OH:aF Tryz.prog 135 [.string ⟨#[53]⟩,.string ⟨#[53]⟩] (.tuple #[.string ⟨#[48]⟩,.int .i64 0]):=aj al bI (n:=2000) (by kernel_rfl) (by kernel_rfl)
noncomputable def RG:List (List Value×Value):=[([.string ⟨#[54]⟩,.string ⟨#[54]⟩],.tuple #[.string ⟨#[48]⟩,.int .i64 0]),([.string ⟨#[49,48]⟩,.string ⟨#[54]⟩],.tuple #[.string ⟨#[52]⟩,.int .i64 0]),([.string ⟨#[52]⟩,.string ⟨#[52]⟩],.tuple #[.string ⟨#[48]⟩,.int .i64 0]),([.string ⟨#[53]⟩,.string ⟨#[53]⟩],.tuple #[.string ⟨#[48]⟩,.int .i64 0])]
theorem Mk:gw Tryz.prog 135 RG:=ak OE (by kernel_rfl) (ak OF (by kernel_rfl) (ak OG (by kernel_rfl) (ak OH (by kernel_rfl) (eD))))
theorem OQ:aF Tryz.prog 140 [.string ⟨#[49]⟩,.string ⟨#[49]⟩] (.tuple #[.string ⟨#[49]⟩,.int .i64 0]):=aj al bI (n:=2000) (by kernel_rfl) (by kernel_rfl)
theorem OR:aF Tryz.prog 140 [.string ⟨#[50]⟩,.string ⟨#[49]⟩] (.tuple #[.string ⟨#[49]⟩,.int .i64 0]):=aj al bI (n:=2000) (by kernel_rfl) (by kernel_rfl)
theorem OS:aF Tryz.prog 140 [.string ⟨#[53]⟩,.string ⟨#[49]⟩] (.tuple #[.string ⟨#[49]⟩,.int .i64 0]):=aj al bI (n:=2000) (by kernel_rfl) (by kernel_rfl)
theorem OT:aF Tryz.prog 140 [.string ⟨#[48]⟩,.string ⟨#[49]⟩] (.tuple #[.string ⟨#[49]⟩,.int .i64 0]):=aj al bI (n:=2000) (by kernel_rfl) (by kernel_rfl)
theorem OU:aF Tryz.prog 140 [.string ⟨#[52]⟩,.string ⟨#[49]⟩] (.tuple #[.string ⟨#[49]⟩,.int .i64 0]):=aj al bI (n:=2000) (by kernel_rfl) (by kernel_rfl)
theorem OV:aF Tryz.prog 140 [.string ⟨#[54]⟩,.string ⟨#[49]⟩] (.tuple #[.string ⟨#[49]⟩,.int .i64 0]):=aj al bI (n:=2000) (by kernel_rfl) (by kernel_rfl)
theorem OW:aF Tryz.prog 140 [.string ⟨#[49,48]⟩,.string ⟨#[49]⟩] (.tuple #[.string ⟨#[49]⟩,.int .i64 0]):=aj al bI (n:=2000) (by kernel_rfl) (by kernel_rfl)
theorem OX:aF Tryz.prog 140 [.string ⟨#[55]⟩,.string ⟨#[49]⟩] (.tuple #[.string ⟨#[49]⟩,.int .i64 0]):=aj al bI (n:=2000) (by kernel_rfl) (by kernel_rfl)
noncomputable def RI:List (List Value×Value):=[([.string ⟨#[49]⟩,.string ⟨#[49]⟩],.tuple #[.string ⟨#[49]⟩,.int .i64 0]),([.string ⟨#[50]⟩,.string ⟨#[49]⟩],.tuple #[.string ⟨#[49]⟩,.int .i64 0]),([.string ⟨#[53]⟩,.string ⟨#[49]⟩],.tuple #[.string ⟨#[49]⟩,.int .i64 0]),([.string ⟨#[48]⟩,.string ⟨#[49]⟩],.tuple #[.string ⟨#[49]⟩,.int .i64 0]),([.string ⟨#[52]⟩,.string ⟨#[49]⟩],.tuple #[.string ⟨#[49]⟩,.int .i64 0]),([.string ⟨#[54]⟩,.string ⟨#[49]⟩],.tuple #[.string ⟨#[49]⟩,.int .i64 0]),([.string ⟨#[49,48]⟩,.string ⟨#[49]⟩],.tuple #[.string ⟨#[49]⟩,.int .i64 0]),([.string ⟨#[55]⟩,.string ⟨#[49]⟩],.tuple #[.string ⟨#[49]⟩,.int .i64 0])]
theorem Mm:gw Tryz.prog 140 RI:=ak OQ (by kernel_rfl) (ak OR (by kernel_rfl) (ak OS (by kernel_rfl) (ak OT (by kernel_rfl) (ak OU (by kernel_rfl) (ak OV (by kernel_rfl) (ak OW (by kernel_rfl) (ak OX (by kernel_rfl) (eD))))))))
theorem OY:aF Tryz.prog 167 [.string ⟨#[52]⟩,.string ⟨#[49]⟩] (.tuple #[.string ⟨#[52]⟩,.string ⟨#[48]⟩,.int .i64 0]):=aj al bI (n:=2000) (by kernel_rfl) (by kernel_rfl)
theorem OZ:aF Tryz.prog 167 [.string ⟨#[49]⟩,.string ⟨#[49]⟩] (.tuple #[.string ⟨#[49]⟩,.string ⟨#[48]⟩,.int .i64 0]):=aj al bI (n:=2000) (by kernel_rfl) (by kernel_rfl)
theorem O0:aF Tryz.prog 167 [.string ⟨#[53]⟩,.string ⟨#[49]⟩] (.tuple #[.string ⟨#[53]⟩,.string ⟨#[48]⟩,.int .i64 0]):=aj al bI (n:=2000) (by kernel_rfl) (by kernel_rfl)
theorem O1:aF Tryz.prog 167 [.string ⟨#[54]⟩,.string ⟨#[49]⟩] (.tuple #[.string ⟨#[54]⟩,.string ⟨#[48]⟩,.int .i64 0]):=aj al bI (n:=2000) (by kernel_rfl) (by kernel_rfl)
theorem O2:aF Tryz.prog 167 [.string ⟨#[48]⟩,.string ⟨#[49]⟩] (.tuple #[.string ⟨#[48]⟩,.string ⟨#[48]⟩,.int .i64 0]):=aj al bI (n:=2000) (by kernel_rfl) (by kernel_rfl)
theorem O3:aF Tryz.prog 167 [.string ⟨#[49,48]⟩,.string ⟨#[49]⟩] (.tuple #[.string ⟨#[49,48]⟩,.string ⟨#[48]⟩,.int .i64 0]):=aj al bI (n:=2000) (by kernel_rfl) (by kernel_rfl)
theorem O4:aF Tryz.prog 167 [.string ⟨#[55]⟩,.string ⟨#[49]⟩] (.tuple #[.string ⟨#[55]⟩,.string ⟨#[48]⟩,.int .i64 0]):=aj al bI (n:=2000) (by kernel_rfl) (by kernel_rfl)
noncomputable def RJ:List (List Value×Value):=[([.string ⟨#[52]⟩,.string ⟨#[49]⟩],.tuple #[.string ⟨#[52]⟩,.string ⟨#[48]⟩,.int .i64 0]),([.string ⟨#[49]⟩,.string ⟨#[49]⟩],.tuple #[.string ⟨#[49]⟩,.string ⟨#[48]⟩,.int .i64 0]),([.string ⟨#[53]⟩,.string ⟨#[49]⟩],.tuple #[.string ⟨#[53]⟩,.string ⟨#[48]⟩,.int .i64 0]),([.string ⟨#[54]⟩,.string ⟨#[49]⟩],.tuple #[.string ⟨#[54]⟩,.string ⟨#[48]⟩,.int .i64 0]),([.string ⟨#[48]⟩,.string ⟨#[49]⟩],.tuple #[.string ⟨#[48]⟩,.string ⟨#[48]⟩,.int .i64 0]),([.string ⟨#[49,48]⟩,.string ⟨#[49]⟩],.tuple #[.string ⟨#[49,48]⟩,.string ⟨#[48]⟩,.int .i64 0]),([.string ⟨#[55]⟩,.string ⟨#[49]⟩],.tuple #[.string ⟨#[55]⟩,.string ⟨#[48]⟩,.int .i64 0])]
theorem Mn:gw Tryz.prog 167 RJ:=ak OY (by kernel_rfl) (ak OZ (by kernel_rfl) (ak O0 (by kernel_rfl) (ak O1 (by kernel_rfl) (ak O2 (by kernel_rfl) (ak O3 (by kernel_rfl) (ak O4 (by kernel_rfl) (eD)))))))
noncomputable def TN:iK:=(94,.mH T1)::(133,.mH RE)::(134,.mH RF)::(135,.mH RG)::(140,.mH RI)::(167,.mH RJ)::TM
theorem kW:ji Tryz.prog ju TN:=ck Ph (ck Mi (ck Mj (ck Mk (ck Mm (ck Mn (bI))))))
theorem Oi:aF Tryz.prog 130 [.string ⟨#[49]⟩] (.tuple #[.agg #[.bool false,.string ⟨#[49]⟩,.string ⟨#[49]⟩],.bool true]):=aj al kW (n:=2000) (by kernel_rfl) (by kernel_rfl)
theorem Oj:aF Tryz.prog 130 [.string ⟨#[50]⟩] (.tuple #[.agg #[.bool false,.string ⟨#[50]⟩,.string ⟨#[49]⟩],.bool true]):=aj al kW (n:=2000) (by kernel_rfl) (by kernel_rfl)
theorem Ol:aF Tryz.prog 130 [.string ⟨#[53]⟩] (.tuple #[.agg #[.bool false,.string ⟨#[53]⟩,.string ⟨#[49]⟩],.bool true]):=aj al kW (n:=2000) (by kernel_rfl) (by kernel_rfl)
theorem Om:aF Tryz.prog 130 [.string ⟨#[48]⟩] (.tuple #[.agg #[.bool false,.string ⟨#[48]⟩,.string ⟨#[49]⟩],.bool true]):=aj al kW (n:=2000) (by kernel_rfl) (by kernel_rfl)
theorem On:aF Tryz.prog 130 [.string ⟨#[52]⟩] (.tuple #[.agg #[.bool false,.string ⟨#[52]⟩,.string ⟨#[49]⟩],.bool true]):=aj al kW (n:=2000) (by kernel_rfl) (by kernel_rfl)
theorem Oo:aF Tryz.prog 130 [.string ⟨#[54]⟩] (.tuple #[.agg #[.bool false,.string ⟨#[54]⟩,.string ⟨#[49]⟩],.bool true]):=aj al kW (n:=2000) (by kernel_rfl) (by kernel_rfl)
theorem Oq:aF Tryz.prog 130 [.string ⟨#[49,48]⟩] (.tuple #[.agg #[.bool false,.string ⟨#[49,48]⟩,.string ⟨#[49]⟩],.bool true]):=aj al kW (n:=2000) (by kernel_rfl) (by kernel_rfl)
theorem Ot:aF Tryz.prog 130 [.string ⟨#[55]⟩] (.tuple #[.agg #[.bool false,.string ⟨#[55]⟩,.string ⟨#[49]⟩],.bool true]):=aj al kW (n:=2000) (by kernel_rfl) (by kernel_rfl)
noncomputable def RD:List (List Value×Value):=[([.string ⟨#[49]⟩],.tuple #[.agg #[.bool false,.string ⟨#[49]⟩,.string ⟨#[49]⟩],.bool true]),([.string ⟨#[50]⟩],.tuple #[.agg #[.bool false,.string ⟨#[50]⟩,.string ⟨#[49]⟩],.bool true]),([.string ⟨#[53]⟩],.tuple #[.agg #[.bool false,.string ⟨#[53]⟩,.string ⟨#[49]⟩],.bool true]),([.string ⟨#[48]⟩],.tuple #[.agg #[.bool false,.string ⟨#[48]⟩,.string ⟨#[49]⟩],.bool true]),([.string ⟨#[52]⟩],.tuple #[.agg #[.bool false,.string ⟨#[52]⟩,.string ⟨#[49]⟩],.bool true]),([.string ⟨#[54]⟩],.tuple #[.agg #[.bool false,.string ⟨#[54]⟩,.string ⟨#[49]⟩],.bool true]),([.string ⟨#[49,48]⟩],.tuple #[.agg #[.bool false,.string ⟨#[49,48]⟩,.string ⟨#[49]⟩],.bool true]),([.string ⟨#[55]⟩],.tuple #[.agg #[.bool false,.string ⟨#[55]⟩,.string ⟨#[49]⟩],.bool true])]
theorem Mh:gw Tryz.prog 130 RD:=ak Oi (by kernel_rfl) (ak Oj (by kernel_rfl) (ak Ol (by kernel_rfl) (ak Om (by kernel_rfl) (ak On (by kernel_rfl) (ak Oo (by kernel_rfl) (ak Oq (by kernel_rfl) (ak Ot (by kernel_rfl) (eD))))))))
noncomputable def TO:iK:=(130,.mH RD)::TN
theorem eM:ji Tryz.prog ju TO:=ck Mh (kW)
theorem Q7:aF Tryz.prog 64 [.string ⟨#[54]⟩,.string ⟨#[54]⟩] (.tuple #[.string ⟨#[48]⟩,.int .i64 0]):=aj al eM (n:=2000) (by kernel_rfl) (by kernel_rfl)
theorem Q8:aF Tryz.prog 64 [.string ⟨#[49,48]⟩,.string ⟨#[54]⟩] (.tuple #[.string ⟨#[52]⟩,.int .i64 0]):=aj al eM (n:=2000) (by kernel_rfl) (by kernel_rfl)
theorem Q9:aF Tryz.prog 64 [.string ⟨#[52]⟩,.string ⟨#[52]⟩] (.tuple #[.string ⟨#[48]⟩,.int .i64 0]):=aj al eM (n:=2000) (by kernel_rfl) (by kernel_rfl)
theorem Ra:aF Tryz.prog 64 [.string ⟨#[53]⟩,.string ⟨#[53]⟩] (.tuple #[.string ⟨#[48]⟩,.int .i64 0]):=aj al eM (n:=2000) (by kernel_rfl) (by kernel_rfl)
noncomputable def T0:List (List Value×Value):=[([.string ⟨#[54]⟩,.string ⟨#[54]⟩],.tuple #[.string ⟨#[48]⟩,.int .i64 0]),([.string ⟨#[49,48]⟩,.string ⟨#[54]⟩],.tuple #[.string ⟨#[52]⟩,.int .i64 0]),([.string ⟨#[52]⟩,.string ⟨#[52]⟩],.tuple #[.string ⟨#[48]⟩,.int .i64 0]),([.string ⟨#[53]⟩,.string ⟨#[53]⟩],.tuple #[.string ⟨#[48]⟩,.int .i64 0])]
theorem Pg:gw Tryz.prog 64 T0:=ak Q7 (by kernel_rfl) (ak Q8 (by kernel_rfl) (ak Q9 (by kernel_rfl) (ak Ra (by kernel_rfl) (eD))))
theorem Rj:aF Tryz.prog 96 [.string ⟨#[49]⟩] (.bool true):=aj al eM (n:=2000) (by kernel_rfl) (by kernel_rfl)
theorem Rk:aF Tryz.prog 96 [.string ⟨#[50]⟩] (.bool true):=aj al eM (n:=2000) (by kernel_rfl) (by kernel_rfl)
theorem Rl:aF Tryz.prog 96 [.string ⟨#[53]⟩] (.bool true):=aj al eM (n:=2000) (by kernel_rfl) (by kernel_rfl)
theorem Rm:aF Tryz.prog 96 [.string ⟨#[48]⟩] (.bool true):=aj al eM (n:=2000) (by kernel_rfl) (by kernel_rfl)
theorem Rn:aF Tryz.prog 96 [.string ⟨#[52]⟩] (.bool true):=aj al eM (n:=2000) (by kernel_rfl) (by kernel_rfl)
theorem Ro:aF Tryz.prog 96 [.string ⟨#[54]⟩] (.bool true):=aj al eM (n:=2000) (by kernel_rfl) (by kernel_rfl)
theorem Rp:aF Tryz.prog 96 [.string ⟨#[49,48]⟩] (.bool true):=aj al eM (n:=2000) (by kernel_rfl) (by kernel_rfl)
theorem Rq:aF Tryz.prog 96 [.string ⟨#[55]⟩] (.bool true):=aj al eM (n:=2000) (by kernel_rfl) (by kernel_rfl)
noncomputable def T2:List (List Value×Value):=[([.string ⟨#[49]⟩],.bool true),([.string ⟨#[50]⟩],.bool true),([.string ⟨#[53]⟩],.bool true),([.string ⟨#[48]⟩],.bool true),([.string ⟨#[52]⟩],.bool true),([.string ⟨#[54]⟩],.bool true),([.string ⟨#[49,48]⟩],.bool true),([.string ⟨#[55]⟩],.bool true)]
theorem Pj:gw Tryz.prog 96 T2:=ak Rj (by kernel_rfl) (ak Rk (by kernel_rfl) (ak Rl (by kernel_rfl) (ak Rm (by kernel_rfl) (ak Rn (by kernel_rfl) (ak Ro (by kernel_rfl) (ak Rp (by kernel_rfl) (ak Rq (by kernel_rfl) (eD))))))))
theorem Od:aF Tryz.prog 108 [.string ⟨#[48]⟩,.string ⟨#[52]⟩] (.tuple #[.string ⟨#[52]⟩,.int .i64 0]):=aj al eM (n:=2000) (by kernel_rfl) (by kernel_rfl)
theorem Oe:aF Tryz.prog 108 [.string ⟨#[49]⟩,.string ⟨#[52]⟩] (.tuple #[.string ⟨#[53]⟩,.int .i64 0]):=aj al eM (n:=2000) (by kernel_rfl) (by kernel_rfl)
theorem Of:aF Tryz.prog 108 [.string ⟨#[50]⟩,.string ⟨#[52]⟩] (.tuple #[.string ⟨#[54]⟩,.int .i64 0]):=aj al eM (n:=2000) (by kernel_rfl) (by kernel_rfl)
theorem Og:aF Tryz.prog 108 [.string ⟨#[53]⟩,.string ⟨#[53]⟩] (.tuple #[.string ⟨#[49,48]⟩,.int .i64 0]):=aj al eM (n:=2000) (by kernel_rfl) (by kernel_rfl)
theorem Oh:aF Tryz.prog 108 [.string ⟨#[49]⟩,.string ⟨#[54]⟩] (.tuple #[.string ⟨#[55]⟩,.int .i64 0]):=aj al eM (n:=2000) (by kernel_rfl) (by kernel_rfl)
noncomputable def RC:List (List Value×Value):=[([.string ⟨#[48]⟩,.string ⟨#[52]⟩],.tuple #[.string ⟨#[52]⟩,.int .i64 0]),([.string ⟨#[49]⟩,.string ⟨#[52]⟩],.tuple #[.string ⟨#[53]⟩,.int .i64 0]),([.string ⟨#[50]⟩,.string ⟨#[52]⟩],.tuple #[.string ⟨#[54]⟩,.int .i64 0]),([.string ⟨#[53]⟩,.string ⟨#[53]⟩],.tuple #[.string ⟨#[49,48]⟩,.int .i64 0]),([.string ⟨#[49]⟩,.string ⟨#[54]⟩],.tuple #[.string ⟨#[55]⟩,.int .i64 0])]
theorem Mg:gw Tryz.prog 108 RC:=ak Od (by kernel_rfl) (ak Oe (by kernel_rfl) (ak Of (by kernel_rfl) (ak Og (by kernel_rfl) (ak Oh (by kernel_rfl) (eD)))))
noncomputable def TP:iK:=(64,.mH T0)::(96,.mH T2)::(108,.mH RC)::TO
theorem fI:ji Tryz.prog ju TP:=ck Pg (ck Pj (ck Mg (eM)))
theorem QS:aF Tryz.prog 28 [.int .i64 1,.string ⟨#[48]⟩,.string ⟨#[52]⟩] (.tuple #[.string ⟨#[52]⟩,.int .i64 0]):=aj al fI (n:=2000) (by kernel_rfl) (by kernel_rfl)
theorem QT:aF Tryz.prog 28 [.int .i64 1,.string ⟨#[49]⟩,.string ⟨#[52]⟩] (.tuple #[.string ⟨#[53]⟩,.int .i64 0]):=aj al fI (n:=2000) (by kernel_rfl) (by kernel_rfl)
theorem QU:aF Tryz.prog 28 [.int .i64 1,.string ⟨#[50]⟩,.string ⟨#[52]⟩] (.tuple #[.string ⟨#[54]⟩,.int .i64 0]):=aj al fI (n:=2000) (by kernel_rfl) (by kernel_rfl)
theorem QV:aF Tryz.prog 28 [.int .i64 1,.string ⟨#[53]⟩,.string ⟨#[53]⟩] (.tuple #[.string ⟨#[49,48]⟩,.int .i64 0]):=aj al fI (n:=2000) (by kernel_rfl) (by kernel_rfl)
theorem QW:aF Tryz.prog 28 [.int .i64 1,.string ⟨#[49]⟩,.string ⟨#[54]⟩] (.tuple #[.string ⟨#[55]⟩,.int .i64 0]):=aj al fI (n:=2000) (by kernel_rfl) (by kernel_rfl)
noncomputable def TX:List (List Value×Value):=[([.int .i64 1,.string ⟨#[48]⟩,.string ⟨#[52]⟩],.tuple #[.string ⟨#[52]⟩,.int .i64 0]),([.int .i64 1,.string ⟨#[49]⟩,.string ⟨#[52]⟩],.tuple #[.string ⟨#[53]⟩,.int .i64 0]),([.int .i64 1,.string ⟨#[50]⟩,.string ⟨#[52]⟩],.tuple #[.string ⟨#[54]⟩,.int .i64 0]),([.int .i64 1,.string ⟨#[53]⟩,.string ⟨#[53]⟩],.tuple #[.string ⟨#[49,48]⟩,.int .i64 0]),([.int .i64 1,.string ⟨#[49]⟩,.string ⟨#[54]⟩],.tuple #[.string ⟨#[55]⟩,.int .i64 0])]
theorem Pc:gw Tryz.prog 28 TX:=ak QS (by kernel_rfl) (ak QT (by kernel_rfl) (ak QU (by kernel_rfl) (ak QV (by kernel_rfl) (ak QW (by kernel_rfl) (eD)))))
theorem QX:aF Tryz.prog 41 [.int .i64 1,.string ⟨#[54]⟩,.string ⟨#[54]⟩] (.tuple #[.string ⟨#[48]⟩,.int .i64 0]):=aj al fI (n:=2000) (by kernel_rfl) (by kernel_rfl)
theorem QY:aF Tryz.prog 41 [.int .i64 1,.string ⟨#[49,48]⟩,.string ⟨#[54]⟩] (.tuple #[.string ⟨#[52]⟩,.int .i64 0]):=aj al fI (n:=2000) (by kernel_rfl) (by kernel_rfl)
theorem QZ:aF Tryz.prog 41 [.int .i64 1,.string ⟨#[52]⟩,.string ⟨#[52]⟩] (.tuple #[.string ⟨#[48]⟩,.int .i64 0]):=aj al fI (n:=2000) (by kernel_rfl) (by kernel_rfl)
theorem Q0:aF Tryz.prog 41 [.int .i64 1,.string ⟨#[53]⟩,.string ⟨#[53]⟩] (.tuple #[.string ⟨#[48]⟩,.int .i64 0]):=aj al fI (n:=2000) (by kernel_rfl) (by kernel_rfl)
noncomputable def TY:List (List Value×Value):=[([.int .i64 1,.string ⟨#[54]⟩,.string ⟨#[54]⟩],.tuple #[.string ⟨#[48]⟩,.int .i64 0]),([.int .i64 1,.string ⟨#[49,48]⟩,.string ⟨#[54]⟩],.tuple #[.string ⟨#[52]⟩,.int .i64 0]),([.int .i64 1,.string ⟨#[52]⟩,.string ⟨#[52]⟩],.tuple #[.string ⟨#[48]⟩,.int .i64 0]),([.int .i64 1,.string ⟨#[53]⟩,.string ⟨#[53]⟩],.tuple #[.string ⟨#[48]⟩,.int .i64 0])]
theorem Pe:gw Tryz.prog 41 TY:=ak QX (by kernel_rfl) (ak QY (by kernel_rfl) (ak QZ (by kernel_rfl) (ak Q0 (by kernel_rfl) (eD))))
theorem Q1:aF Tryz.prog 50 [.int .i64 1,.string ⟨#[49]⟩] (.bool true):=aj al fI (n:=2000) (by kernel_rfl) (by kernel_rfl)
theorem Q2:aF Tryz.prog 50 [.int .i64 1,.string ⟨#[50]⟩] (.bool true):=aj al fI (n:=2000) (by kernel_rfl) (by kernel_rfl)
theorem Q3:aF Tryz.prog 50 [.int .i64 1,.string ⟨#[53]⟩] (.bool true):=aj al fI (n:=2000) (by kernel_rfl) (by kernel_rfl)
theorem Q4:aF Tryz.prog 50 [.int .i64 1,.string ⟨#[48]⟩] (.bool true):=aj al fI (n:=2000) (by kernel_rfl) (by kernel_rfl)
theorem Q5:aF Tryz.prog 50 [.int .i64 1,.string ⟨#[52]⟩] (.bool true):=aj al fI (n:=2000) (by kernel_rfl) (by kernel_rfl)
theorem Q6:aF Tryz.prog 50 [.int .i64 1,.string ⟨#[55]⟩] (.bool true):=aj al fI (n:=2000) (by kernel_rfl) (by kernel_rfl)
noncomputable def TZ:List (List Value×Value):=[([.int .i64 1,.string ⟨#[49]⟩],.bool true),([.int .i64 1,.string ⟨#[50]⟩],.bool true),([.int .i64 1,.string ⟨#[53]⟩],.bool true),([.int .i64 1,.string ⟨#[48]⟩],.bool true),([.int .i64 1,.string ⟨#[52]⟩],.bool true),([.int .i64 1,.string ⟨#[55]⟩],.bool true)]
theorem Pf:gw Tryz.prog 50 TZ:=ak Q1 (by kernel_rfl) (ak Q2 (by kernel_rfl) (ak Q3 (by kernel_rfl) (ak Q4 (by kernel_rfl) (ak Q5 (by kernel_rfl) (ak Q6 (by kernel_rfl) (eD))))))
noncomputable def Ua:iK:=(28,.mH TX)::(41,.mH TY)::(50,.mH TZ)::TP
theorem NW:ji Tryz.prog ju Ua:=ck Pc (ck Pe (ck Pf (fI)))
theorem Ij:aF Tryz.prog 6 [] (.bool true):=aj al NW (n:=2000) (by kernel_rfl) (by kernel_rfl)
end Go.Proofs.YtaheifbogkjpdaaGreatDoor
end
section
namespace Go.Proofs.YtaheifbogkjpdaaGreatDoor
open Go Go.Ab Go.RowKit
theorem uj:gm Tryz.prog Iz 215 hH:=rE (fn:=(Tryz.prog.funcs[215]?).getD default) (by kernel_rfl) (by kernel_rfl) (by kernel_rfl) (by kernel_rfl) (by kernel_rfl)
theorem rY:gm Tryz.prog Iz 217 ft:=pF (fn:=(Tryz.prog.funcs[217]?).getD default) (by kernel_rfl) (by kernel_rfl) (by kernel_rfl) (by kernel_rfl) (by kernel_rfl)
theorem we:gm Tryz.prog Iz 131 (oQ Tryz.prog Iz Tryz.f131 (DQ wC) (zn (zn wC)) 5):=
 An al.names Tryz.func131 rfl rfl rfl rfl rfl rfl rfl Tryz.func160 rfl pD (by kernel_rfl) (by kernel_rfl)
theorem Lu:ji Tryz.prog Iz NV:=ck (ak Ij (by kernel_rfl) eD) (fU uj (fU rY (fU we wu)))
theorem Jk:pg Tryz.prog Iz (zg Tryz.prog Iz NV):=E4 Lu
end Go.Proofs.YtaheifbogkjpdaaGreatDoor
end
section
namespace Go.Proofs.YtaheifbogkjpdaaGreatDoor
open Go Go.Ab Go.ChangeShapes Go.RowKit
theorem Qc:Tryz.prog.cellsOf 117=1:=by kernel_rfl
end Go.Proofs.YtaheifbogkjpdaaGreatDoor
end
section
namespace Go.Proofs.YtaheifbogkjpdaaGreatDoor
open Go Go.ChangeShapes Go.WideShapes Go.ChangeAt Go.RowKit
theorem JE:ownKnob Tryz.prog.godebug=none:=by kernel_rfl
abbrev iB{H:Type}:List (String×DataW H):=[("math/bits.deBruijn32tab",Rows.laid_math_bits_deBruijn32tab),("math/bits.deBruijn64tab",Rows.laid_math_bits_deBruijn64tab),("internal/strconv.uint64pow10",Rows.laid_internal_strconv_uint64pow10)]
def NT:DataW Unit->Value
 |.lit (.int k n)=> .int k n
 |_=>undef
def tx:DataW Unit->Array Value
 |.agg l=>(l.map NT).toArray
 |_=> #[]
def IH(c:Array Value):Obj->Obj
 |.cells _ t frozen=> .cells c t frozen
 |o=>o
noncomputable def wV(os:Os):World:=
 { World.holding Tryz.prog os ⟨#[],#[],[]⟩with heap:=(((World.holding Tryz.prog os ⟨#[],#[],[]⟩).heap.modify 1 (IH (tx Rows.laid_math_bits_deBruijn32tab))).modify 2 (IH (tx Rows.laid_math_bits_deBruijn64tab))).modify 0 (IH (tx Rows.laid_internal_strconv_uint64pow10)) }
theorem vS(os:Os)(args:Array Value):laidMetH Tryz.prog iB ((wV os).forCall (λ_ _=>0) ⟨#[],args,[]⟩).memory:=
 laidMetH_of_parts (laidMet_of_run' 24 (by kernel_rfl) (by kernel_rfl)) (by kernel_rfl)
end Go.Proofs.YtaheifbogkjpdaaGreatDoor
end
section
namespace Go.Proofs.YtaheifbogkjpdaaGreatDoor
open Go Go.Ab Go.ChangeShapes Go.WideShapes Go.RowKit
section
theorem tY{P:Program}{w:World}:∀{l:List (String×DataW Unit)}{ps:List MemPlace},DataW.LaidVars P w l ps->∀n d,(n,d)∈l->
  ∃g t cs fuel p,P.globalNamed n=some g/\(P.globals[g]?).map (·.type)=some t/\w.var? P n=some cs/\DataW.trod (λ_=>()) P w 0 (λ_=>true) false fuel t cs.toList=some (d,p)
 |[],_,_,_,_,hm=>by cases hm
 | (n',d')::r,ps,h,n,d,hm=>by
  obtain⟨g,t,cs,fuel,p,q,h1,h2,h3,h4,h5,_⟩:=h;rcases List.mem_cons.1 hm with e|e
  ·cases e
   exact⟨g,t,cs,fuel,p,h1,h2,h3,h4⟩
  ·exact tY h5 n d e
theorem Jh:Rows.laid_internal_strconv_uint64pow10=(.agg ((List.range 20).map λi=>(.lit (.int .u64 ((10^i:Nat):Int)):DataW Unit)):DataW Unit):=by kernel_rfl
section
variable {W:World}
theorem LX(hL:laidMetH Tryz.prog iB W):∃cs t fr,W.heap[0]?=some (.cells cs t fr)/\∀β,eO β Ca 0 cs:=by
 rw[MakeChecks.laidMetH_plain _ _ _ (by kernel_rfl)]at hL;obtain⟨ps,hl,_⟩:=hL;obtain⟨g,t,cs,fuel,p,hg,ht,hv,hd⟩:=tY hl "internal/strconv.uint64pow10" Rows.laid_internal_strconv_uint64pow10 (by simp[iB]);obtain rfl:=oI ((show Tryz.prog.globalNamed "internal/strconv.uint64pow10" = some 0 by kernel_rfl).symm.trans hg);obtain rfl:=oI ((show(Tryz.prog.globals[0]?).map (·.type)=some 184 by kernel_rfl).symm.trans ht);obtain⟨xs,m,_,ex,_,hl,hel⟩:=DataW.trod_array Tryz.underlying184 hd;have e3:xs.map (·.1)=(List.range 20).map λi=>(.lit (.int .u64 ((10^i:Nat):Int)):DataW Unit):=by
  have:=(Prod.mk.inj ex).1.symm.trans Jh;exact DataW.agg.inj this
 have hb:∃t fr,W.heap[0]?=some (.cells cs t fr):=by
  simp only[World.var?,hg,Option.bind_some]at hv;split at hv
  ·next c t fr hb=>obtain rfl:=oI hv;exact⟨t,fr,hb⟩
  ·cases hv
 obtain⟨t,fr,hb⟩:=hb;refine⟨cs,t,fr,hb,λβ k v hk=>?_⟩;have hlt:k<20:=by
  have:=(List.getElem?_eq_some_iff.1 hk).1;simpa[Ca]using this
 have hv:v=uv (10^k):=by
  simp[Ca,getElem?_range hlt]at hk;exact hk.symm
 have hE:=hel k hlt;rw[Qc,Nat.mul_one,gE (by omega)]at hE;obtain⟨z,e1,e2,_⟩:=DataW.trod_int Tryz.underlying117 hE;have e4:(xs.map (·.1))[k]?=some (.lit (.int .u64 ((10^k:Nat):Int))):=by rw[e3];simp[getElem?_range hlt]
 rw[getElem?_map,gE (by omega:k<xs.length),e2]at e4;have hz:z=((10^k:Nat):Int):=by
  simpa using e4
 subst hz;have:cs.toList[k]?=some (.int .u64 ((10^k:Nat):Int)):=by
  have h0:((cs.toList.drop k).take 1)[0]?=some (.int .u64 ((10^k:Nat):Int)):=by rw[e1];rfl
  simpa using h0
 refine⟨.int .u64 ((10^k:Nat):Int),by simpa using this,?_⟩;rw[hv];exact .int _ _
theorem Lh(hL:laidMetH Tryz.prog iB W):∃β h,zD β h W/\Gl Iz β/\mn h:=by
 obtain⟨cs,t,fr,hb,hc⟩:=LX hL;refine⟨_,_,(SI 0 W).push hb (hc _),λg hg=>?_,t,false,aa.ig ⟨0,.nil⟩ _⟩;have:g=0:=by simpa[Iz]using hg
 subst this;exact⟨_,cp.bH _ _ _,rfl,rfl,rfl⟩
end
end
section
section
variable {W:World}
def Tz(W:World)(v:Value)(S:Value->aa->Prop):Prop:=(∀v' h h',Ok h h'->S v' h->S v' h')/\∀{β:cp}{h:aa},zD β h W->∃β' h' v',zD β' h' W/\β.le β'/\Ok h h'/\au β' v' v/\S v' h'
def PI(W:World)(vs:List Value)(T:List Value->aa->Prop):Prop:=∀{β:cp}{h:aa},zD β h W->∃β' h' vs',zD β' h' W/\β.le β'/\Ok h h'/\aG β' vs' vs/\T vs' h'
theorem Lp:PI W [] λvs' _=>vs'=[]:=λ{β h} i=>⟨β,h,[],i,β.le_refl,Ok.refl i.wf,.nil _,rfl⟩
theorem II{v:Value}{S:Value->aa->Prop}{vs:List Value}{T:List Value->aa->Prop}(a:Tz W v S)(b:PI W vs T):PI W (v::vs) λvs' h=>∃x r,vs'=x::r/\S x h/\T r h:=λ{β h} i=>by
 obtain⟨β1,h1,x,i1,l1,o1,r1,s1⟩:=a.2 i;obtain⟨β2,h2,r,i2,l2,o2,r2,t2⟩:=b i1;exact⟨β2,h2,x::r,i2,cp.le_trans l1 l2,o1.trans o2,.cons (r1.mono l2) r2,x,r,rfl,a.1 _ _ _ o2 s1,t2⟩
def Sd(v:Value)(_:aa):Prop:=∃z:Int,v = .int .i64 z
theorem NR{base:Nat}{v:Value}(hval:Value.okWide Tryz.prog W .any base 3 v):Tz W v Sd:=by
 obtain⟨z,rfl⟩:=okWide_int Tryz.underlying3 hval;exact⟨λ_ _ _ _ s=>s,λ{β h} i=>⟨β,h,_,i,β.le_refl,Ok.refl i.wf,.int _ _,z,rfl⟩⟩
variable {H:Type} {enc:TypeId×Value->H}
theorem Gf{f:FuncId}{fn:Func}(hf:Tryz.prog.funcs[f]?=some fn)(hb:fn.body.isSome=true)(hY:f<YB){args:Array Value}{T:List Value->aa->Prop}(l:PI W args.toList T)(hL:laidMetH Tryz.prog iB W)
  (hfw:∀{h:aa}{vs:List Value}(_:mn h)(_:Wf h),T vs h->FW SS f vs h (EQ h)):Calls Tryz.prog f args W λe w'=>e = .returned (.bool true)/\Below W.heap.size W w':=by
 obtain⟨β0',h0,i0,g0,t0⟩:=Lh hL;obtain⟨β1,h1,vs,i1,l1,o1,r1,t1⟩:=l i0;refine(Ai al Jk (hfw (t0.ok o1) i1.wf t1) hY hf hb i1 (g0.mono l1) (args':=args) r1).mono ?_;rintro e w' ⟨x,x',h',β',rfl,⟨rfl,_⟩,hx,_,hb⟩
 cases hx
 exact⟨rfl,hb⟩
end
end
end Go.Proofs.YtaheifbogkjpdaaGreatDoor
end
section
namespace Go.Proofs.YtaheifbogkjpdaaGreatDoor
open Go Go.Ab Go.ChangeShapes Go.WideShapes Go.ChangeAt Go.RowKit
theorem Ge:laidOutB Tryz.prog=true:=by kernel_rfl
set_option maxRecDepth 100000 in
theorem mI(os:Os)(started:os.Started)(H:Type)(enc:TypeId×Value->H):
  ReturnsInHanded {} Tryz.checked os 4 .any (λw args=>(Rows.minimalLengthSpec.pre enc Tryz.prog Tryz.f4 [] false w args/\laidMetH Tryz.prog iB w)/\sizedMet enc Tryz.prog Tryz.f4 (OpenSpec.ofChange Rows.minimalLengthSpec) false w args)
   (Rows.minimalLengthSpec.post enc Tryz.prog Tryz.f4 false true false false):=by
 refine returnsInHanded_of_change_and (C:=Tryz.checked) (X:=λw _=>laidMetH Tryz.prog iB w) (λ_ _ _ hh h=>h.of_heap hh) JE started (by kernel_rfl) Tryz.func4
  (ChangeSpec.witness_at (enc:=enc) (C:=Tryz.checked) (os:=os) (X:=λw _=>laidMetH Tryz.prog iB w) false (wV os) #[.int .i64 0] 8 rfl (by kernel_rfl) (by kernel_rfl) (by kernel_rfl) (by kernel_rfl) (by kernel_rfl) (vS os _)) ?_
 intro W base args ds gs before hval0 hW _ hwt hL _;have hval:∀(j:Nat) t v,Tryz.f4.params[j]?=some t->args[j]?=some v->Value.okWide Tryz.prog W .any base t v:=hval0;have hW':=hW;obtain⟨p,q,hA0,hV,rfl,hfz,hnd⟩:=hW;have hA:DataW.TrodAll enc Tryz.prog W 0 (λ_=>true) true Tryz.f4.params.toList args.toList ds p:=hA0;rw[Tryz.params4]at hA hval;obtain⟨v0,vs0,d0,ds0,p0,q0,hargs,rfl,rfl,t0,hA1⟩:=trodAll_cons hA;obtain⟨rfl,rfl,rfl⟩:=trodAll_nil hA1;have hargs:args = #[v0]:=by
  rw[<-Array.toList_inj];exact hargs
 subst hargs;obtain⟨rfl,rfl⟩:=trodVars_none hV;rw[List.append_nil]at hW';have h1:(DataW.weightsEach Tryz.prog (Tryz.f4.params.toList++Rows.minimalLengthSpec.plain.varTypes Tryz.prog) ([d0]++[])).all (· <=reachBytes)=true:=hwt;rw[Tryz.params4]at h1;have h2:(d0.weights Tryz.prog 3++(DataW.weightsEach Tryz.prog (Rows.minimalLengthSpec.plain.varTypes Tryz.prog) [])).all (· <=reachBytes)=true:=h1;simp only[List.all_append,Bool.and_eq_true]at h2;obtain⟨w0,_⟩:=h2;have ld:PI W #[v0].toList _:=II (NR (hval 0 3 v0 rfl rfl)) (Lp);refine(Gf Tryz.func4 (by kernel_rfl) (by unfold YB;decide) ld hL λtb w T=>?_).mono λe W2 ⟨he,hb⟩=>?_
 ·obtain⟨x0,r0,rfl,s0,rfl⟩:=T;obtain⟨z0,rfl⟩:=s0;exact Lo tb w _
 subst he;have hlt:∀x∈p0++([]),x.block<W.heap.size:=λx hx=>hW'.lt x hx;exact⟨_,rfl,IG (ds:=[d0]) (places:=p0++([])) rfl hW' hb rfl rfl (λ_ _ _=>(trodAll_cons_mk (shut_bool Tryz.underlying4 _) trodAll_mk0))
  (ok_one (by kernel_rfl) rfl (okWide_bool_mk Tryz.underlying4 _)) (λsp hsp=>by
   rw[Tryz.params4];exact trodAll_cons_mk (WideElems.Trod_stays Ge (by kernel_rfl) (dT (by kernel_rfl)) t0 (λx hx=>hb.same (hlt x (List.mem_append_left _ hx))) (λx hx=>hsp x (List.mem_append_left _ hx))) (trodAll_mk0))⟩
theorem oH:Rows.MinimalLengthSaid:=
 OpenClaim.holds_of_wide 4 Tryz.f4 rfl rfl rfl rfl rfl rfl rfl ⟨rfl,rfl,rfl,rfl,rfl⟩ rfl rfl rfl rfl rfl (by kernel_rfl) Tryz.func4 (by kernel_rfl)
  (dT (by kernel_rfl)) (by unfold Func.isWrapper;first|(rw[if_pos (by decide +kernel)];kernel_rfl)|(rw[if_neg (by decide +kernel)];exact⟨rfl,rfl⟩))
  (λos started H enc _=>mI os started H enc)
theorem minimalLength_holds:Rows.MinimalLengthCardSaid:=
 Claim7.holds_tied_plain_at .later [] [.data,.data,.data] true (true,"f27b5e8ceb2980a619348e3a61cbec73bd8b00a96177487f74729b0df1404cbb") true
  oH (λ_ h=>by cases h) (by kernel_rfl) (λ_ h=>by cases h) minimalLength_row_tie rfl ⟨rfl,rfl⟩ (by kernel_rfl) rfl
  (λf fn hf hfn=>by
   obtain rfl:f=4:=oI ((show Tryz.prog.funcNamed "abugida/abugidalaw15.MinimalLength" = some 4 by kernel_rfl).symm.trans hf) |>.symm
   obtain rfl:fn=Tryz.f4:=(oI (Tryz.func4.symm.trans hfn)).symm;exact⟨by kernel_rfl,λj t ht=>by
    rw[Tryz.params4]at ht;have hm:t∈[3]:=by simpa using Array.mem_of_getElem? ht
    have hall:([3].all λu=> !Tryz.prog.wantsStandIn u)=true:=by kernel_rfl
    exact(show Tryz.prog.wantsStandIn t=false by simpa using List.all_eq_true.1 hall t hm)⟩)
  (by kernel_rfl)
end Go.Proofs.YtaheifbogkjpdaaGreatDoor
end
