/- Whatever is handed to it, in whatever memory, on every schedule, MinimalFirst returns true. No condition. -/
import Derived.Test.YtaheifbogkjpdaaGreatDoorPart3
import Derived.Test.YtaheifbogkjpdaaGreatDoorPart5
import Derived.OpenShut
import Derived.MakeChecks
import Derived.FnData
import Derived.ChangeSame
import Derived.Test.YtaheifbogkjpdaaGreatDoorRows
import Derived.ProofKit
import Derived.LaidLaws
import Derived.LaidHandle
import Derived.ChangeVars
import Derived.Test.YtaheifbogkjpdaaGreatDoorCards
import Derived.Test.YtaheifbogkjpdaaGreatDoorTie
import Derived.WalkKit
import Derived.Carry
import Derived.SevenTiedAt
set_option linter.unusedVariables false
set_option linter.unusedSimpArgs false
set_option maxRecDepth 100000
open List (all_append append_nil length_cons mem_append mem_append_left mem_cons mem_map mem_singleton)
open Nat (mul_one zero_le)
open Bool (and_eq_true)
open Int (toNat_natCast)
open Go.IntKind (wrap)
section
namespace Go.Proofs.YtaheifbogkjpdaaGreatDoor
open Go Go.Ab Go.Num
noncomputable def cS:FD:=dJ Tryz.f7 [([1,1,1,0,1,0,0],[1,2,3,4,19,20,21]),([1,1,1,0,1,0,0,1,1,0,0,1,1,1,1,0,1,0,0],[1,2,3,4,5,6,7,19,20,21]),([1,1,1,0,1,0,0,1,1,0,0,1,1,1,1,0,1,0,0,1,0,1,0,1,0,0],[1,2,3,4,5,6,7,8,19,20,21,50,51,52])]
abbrev eN(k N kr:Nat)(a:OA)(n c:Nat)(i:Nat)(r:OA)(rn rc:Nat):LV:=[(pA k),(.slice r rn rc),(.int .i64 0),(sA kr N N),(.slice a n c),(iA n),(iA i)]
abbrev iz(k N kr:Nat)(a:OA)(n c:Nat)(r:OA)(rn rc i:Nat)(p:Nat)(x:OA)(xn xc:Nat):LV:=[(pA k),(.slice r rn rc),(.int .i64 0),(sA kr N N),(iA i),(.slice x xn xc),(iA p),(.slice a n c),(iA n),(iA i)]
abbrev fJ(k N kr:Nat)(a:OA)(n c:Nat)(r:OA)(rn rc k8:Nat)(b:OA)(m d i p:Nat)(x:OA)(xn xc:Nat)(j:Nat):LV:=[(pA k),(.slice r rn rc),(.int .i64 0),(sA kr N N),(iA i),(.slice x xn xc),(iA p),(pA k8),(.slice a n c),(iA n),(iA i),(.slice b m d),(iA m),(iA j)]
theorem QQ(mv:LV)(h:aa)(Q:VH)(hx:xN (jI SS.P 24 (.agg ⟨mv⟩)) h λB1 g2=>xA (ai SS.P 24 g2 (pA (h.next))) λc3=>FW SS 17 [(.agg ⟨c3⟩)] g2 λv4 h5=>yI .i64 v4 λn6=>aF (((n6:Int) !=0)) (Q (.tuple ⟨[nA,(.int .i64 n6)]⟩) h5) (xA (ai SS.P 24 h5 (pA (h.next))) λc7=>FW SS 18 [(.agg ⟨c7⟩)] h5 λv8 h9=>yL v8 λa10 n11 ck=>xP (ah SS.P 24 (pA (h.next)) 3) λp13=>xL (ai SS.P 22 h9 (.pointer (some p13))) λa14 n15 c16=>LL SS cS [1,1,1,0,1,0,0] [(pA (h.next)),nA,(.int .i64 n6),(.slice a10 n11 ck),(.slice a14 n15 c16),(iA n15),(.int .i64 0)] h9 (KK SS cS [1,1,1,0,1,0] [] (EE SS cS Q)))):FW SS 7 [(.agg ⟨mv⟩)] h Q:=dM cS Tryz.func7 (au hx)
theorem wN(mv:LV)(k N kr:Nat)(a:OA)(n c:Nat)(Inv:Nat->Nat->OA->Nat->Nat->aa->Prop)(Q:VH)(step:∀(mz:Nat) (i:Nat) (r:OA) (rn rc:Nat) (zz:Nat->Value) (h:aa),Inv mz i r rn rc h->aF (decide (((i:Int):Int)<(n:Int))) (xP (af SS.P 32 (sA kr N N) (iA i)) λp17=>xI .i64 (ai SS.P 3 h (.pointer (some p17))) λn18=>aF (decide ((n18:Int)<0)) (xR (aI SS.P 32 1 [(0,(.int .i64 0))]) h λB19 n20 c21 g22=>xR (aI SS.P 27 1 [(0,(sA (h.next) n20 c21))]) g22 λB23 n24 c25 g26=>xE (aO SS.P 27 27 (.slice r rn rc) (sA (g22.next) n24 c25) g26) g26 λa27 n28 c29 u30 g31=>aH (Ei (eN k N kr a n c) Inv) mz [(pA k),(.slice a27 n28 c29),(.int .i64 0),(sA kr N N),(.slice a n c),(iA n),(.int .i64 (wrap .i64 ((i:Int)+1)))] g31) (xP (af SS.P 32 (sA kr N N) (iA i)) λp32=>xI .i64 (ai SS.P 3 h (.pointer (some p32))) λn33=>aF (decide ((n33:Int)>200)) (Q (.tuple ⟨[nA,(.int .i64 2)]⟩) h) (LL SS cS [1,1,1,0,1,0,0,1,1,0,0,1,1,1,1,0,1,0,0] (iz k N kr a n c r rn rc i i none 0 0) h (KK SS cS [1,1,0,0,1,1,1,1,0,1,0] [1,1,1,0,1,0,0] (RR cS [1,1,1,0,1,0,0] (Ei (eN k N kr a n c) Inv) mz (KK SS cS [1,1,1,0,1,0] [] (EE SS cS Q))))))) (Q (.tuple ⟨[(.slice r rn rc),(.int .i64 0)]⟩) h))(mz:Nat){i:Nat}{r:OA}{rn rc:Nat}{h:aa}(hi:Inv mz i r rn rc h):LL SS cS [1,1,1,0,1,0,0] (eN k N kr a n c i r rn rc) h (KK SS cS [1,1,1,0,1,0] [] (EE SS cS Q)):=
 Gm (eN k N kr a n c) Inv (λmz i r rn rc zz h hi=>au (step mz i r rn rc zz h hi)) mz hi
theorem wO(mv:LV)(k N kr:Nat)(a:OA)(n c:Nat)(r:OA)(rn rc:Nat)(Inv:Nat->Nat->OA->Nat->Nat->aa->Prop)(mz i:Nat)(Inv2:Nat->Nat->OA->Nat->Nat->aa->Prop)(Q:VH)(step:∀(mz2:Nat) (p:Nat) (x:OA) (xn xc:Nat) (zz:Nat->Value) (h:aa),Inv2 mz2 p x xn xc h->xP (af SS.P 32 (sA kr N N) (iA p)) λp34=>xI .i64 (ai SS.P 3 h (.pointer (some p34))) λn35=>aF (decide ((n35:Int)>0)) (xA (cF SS.P 34 []) λc36=>xN (cq SS.P 34) h λB37 g38=>xU (aw SS.P 34 (pA (h.next)) (.agg ⟨c36⟩) g38) g38 λu39 g40=>xP (ah SS.P 24 (pA k) 3) λp41=>xL (ai SS.P 22 g40 (.pointer (some p41))) λa42 n43 c44=>xP (af SS.P 22 (.slice a42 n43 c44) (iA p)) λp45=>xP (ah SS.P 38 (.pointer (some p45)) 1) λp46=>xL (ai SS.P 36 g40 (.pointer (some p46))) λa47 n48 c49=>LL SS cS [1,1,1,0,1,0,0,1,1,0,0,1,1,1,1,0,1,0,0,1,0,1,0,1,0,0] (fJ k N kr a n c r rn rc (h.next) a47 n48 c49 i p x xn xc 0) g40 (KK SS cS [1,0,1,0,1,0] [1,1,1,0,1,0,0,1,1,0,0,1,1,1,1,0,1,0,0] (RR cS [1,1,1,0,1,0,0,1,1,0,0,1,1,1,1,0,1,0,0] (Ei (iz k N kr a n c r rn rc i) Inv2) mz2 (KK SS cS [1,1,0,0,1,1,1,1,0,1,0] [1,1,1,0,1,0,0] (RR cS [1,1,1,0,1,0,0] (Ei (eN k N kr a n c) Inv) mz (KK SS cS [1,1,1,0,1,0] [] (EE SS cS Q))))))) (xR (aI SS.P 27 1 [(0,(.slice x xn xc))]) h λB50 n51 c52 g53=>xE (aO SS.P 27 27 (.slice r rn rc) (sA (h.next) n51 c52) g53) g53 λa54 n55 c56 u57 g58=>aH (Ei (eN k N kr a n c) Inv) mz [(pA k),(.slice a54 n55 c56),(.int .i64 0),(sA kr N N),(.slice a n c),(iA n),(.int .i64 (wrap .i64 ((i:Int)+1)))] g58))(mz2:Nat){p:Nat}{x:OA}{xn xc:Nat}{h:aa}(hi:Inv2 mz2 p x xn xc h):LL SS cS [1,1,1,0,1,0,0,1,1,0,0,1,1,1,1,0,1,0,0] (iz k N kr a n c r rn rc i p x xn xc) h (KK SS cS [1,1,0,0,1,1,1,1,0,1,0] [1,1,1,0,1,0,0] (RR cS [1,1,1,0,1,0,0] (Ei (eN k N kr a n c) Inv) mz (KK SS cS [1,1,1,0,1,0] [] (EE SS cS Q)))):=
 Gm (iz k N kr a n c r rn rc i) Inv2 (λmz2 p x xn xc zz h hi=>au (step mz2 p x xn xc zz h hi)) mz2 hi
theorem wP(mv:LV)(k N kr:Nat)(a:OA)(n c:Nat)(r:OA)(rn rc:Nat)(k8:Nat)(b:OA)(m d:Nat)(Inv:Nat->Nat->OA->Nat->Nat->aa->Prop)(mz i:Nat)(Inv2:Nat->Nat->OA->Nat->Nat->aa->Prop)(mz2 p:Nat)(x:OA)(xn xc:Nat)(Inv3:Nat->Nat->aa->Prop)(Q:VH)(step:∀(mz3:Nat) (j:Nat) (zz:Nat->Value) (h:aa),Inv3 mz3 j h->aF (decide (((j:Int):Int)<(m:Int))) (xP (af SS.P 36 (.slice b m d) (iA j)) λp59=>xA (ai SS.P 34 h (.pointer (some p59))) λc60=>xN (cq SS.P 34) h λB61 g62=>xU (aw SS.P 34 (pA (h.next)) (.agg ⟨c60⟩) g62) g62 λu63 g64=>xP (ah SS.P 34 (pA (h.next)) 3) λp65=>xI .i64 (ai SS.P 3 (room g64 23) (.pointer (some p65))) λn66=>xP (af SS.P 32 (sA kr N N) (.int .i64 n66)) λp67=>xI .i64 (ai SS.P 3 (room g64 23) (.pointer (some p67))) λn68=>xP (af SS.P 32 (sA kr N N) (iA p)) λp69=>xI .i64 (ai SS.P 3 (room g64 23) (.pointer (some p69))) λn70=>aF (((n68:Int)==wrap .i64 (n70-1))) (xP (ah SS.P 34 (pA k8) 0) λp71=>xI .i64 (ai SS.P 3 (room g64 23) (.pointer (some p71))) λn72=>aF (((n72:Int)==0)) (xA (ai SS.P 34 (room g64 23) (pA (h.next))) λc73=>xU (aw SS.P 34 (pA k8) (.agg ⟨c73⟩) (room g64 23)) (room g64 23) λu74 g75=>aH (iR (fJ k N kr a n c r rn rc k8 b m d i p x xn xc) Inv3) mz3 [(pA k),(.slice r rn rc),(.int .i64 0),(sA kr N N),(iA i),(.slice x xn xc),(iA p),(pA k8),(.slice a n c),(iA n),(iA i),(.slice b m d),(iA m),(.int .i64 (wrap .i64 ((j:Int)+1)))] g75) (xP (ah SS.P 34 (pA (h.next)) 0) λp76=>xI .i64 (ai SS.P 3 (room g64 23) (.pointer (some p76))) λn77=>xP (ah SS.P 34 (pA k8) 0) λp78=>xI .i64 (ai SS.P 3 (room g64 23) (.pointer (some p78))) λn79=>aF (decide ((n77:Int)<n79)) (xA (ai SS.P 34 (room g64 23) (pA (h.next))) λc80=>xU (aw SS.P 34 (pA k8) (.agg ⟨c80⟩) (room g64 23)) (room g64 23) λu81 g82=>aH (iR (fJ k N kr a n c r rn rc k8 b m d i p x xn xc) Inv3) mz3 [(pA k),(.slice r rn rc),(.int .i64 0),(sA kr N N),(iA i),(.slice x xn xc),(iA p),(pA k8),(.slice a n c),(iA n),(iA i),(.slice b m d),(iA m),(.int .i64 (wrap .i64 ((j:Int)+1)))] g82) (aH (iR (fJ k N kr a n c r rn rc k8 b m d i p x xn xc) Inv3) mz3 [(pA k),(.slice r rn rc),(.int .i64 0),(sA kr N N),(iA i),(.slice x xn xc),(iA p),(pA k8),(.slice a n c),(iA n),(iA i),(.slice b m d),(iA m),(.int .i64 (wrap .i64 ((j:Int)+1)))] (room g64 23)))) (aH (iR (fJ k N kr a n c r rn rc k8 b m d i p x xn xc) Inv3) mz3 [(pA k),(.slice r rn rc),(.int .i64 0),(sA kr N N),(iA i),(.slice x xn xc),(iA p),(pA k8),(.slice a n c),(iA n),(iA i),(.slice b m d),(iA m),(.int .i64 (wrap .i64 ((j:Int)+1)))] (room g64 23))) (xP (ah SS.P 34 (pA k8) 0) λp83=>xI .i64 (ai SS.P 3 h (.pointer (some p83))) λn84=>xR (aI SS.P 32 1 [(0,(.int .i64 n84))]) h λB85 n86 c87 g88=>xE (aO SS.P 32 32 (.slice x xn xc) (sA (h.next) n86 c87) g88) g88 λa89 n90 c91 u92 g93=>xP (ah SS.P 34 (pA k8) 3) λp94=>xI .i64 (ai SS.P 3 g93 (.pointer (some p94))) λn95=>aH (Ei (iz k N kr a n c r rn rc i) Inv2) mz2 [(pA k),(.slice r rn rc),(.int .i64 0),(sA kr N N),(iA i),(.slice a89 n90 c91),(.int .i64 n95),(.slice a n c),(iA n),(iA i)] g93))(mz3:Nat){j:Nat}{h:aa}(hi:Inv3 mz3 j h):LL SS cS [1,1,1,0,1,0,0,1,1,0,0,1,1,1,1,0,1,0,0,1,0,1,0,1,0,0] (fJ k N kr a n c r rn rc k8 b m d i p x xn xc j) h (KK SS cS [1,0,1,0,1,0] [1,1,1,0,1,0,0,1,1,0,0,1,1,1,1,0,1,0,0] (RR cS [1,1,1,0,1,0,0,1,1,0,0,1,1,1,1,0,1,0,0] (Ei (iz k N kr a n c r rn rc i) Inv2) mz2 (KK SS cS [1,1,0,0,1,1,1,1,0,1,0] [1,1,1,0,1,0,0] (RR cS [1,1,1,0,1,0,0] (Ei (eN k N kr a n c) Inv) mz (KK SS cS [1,1,1,0,1,0] [] (EE SS cS Q)))))):=
 dK (fJ k N kr a n c r rn rc k8 b m d i p x xn xc) Inv3 (λmz3 j zz h hi=>au (step mz3 j zz h hi)) mz3 hi
noncomputable def bU:FD:=dJ Tryz.f20 [([1,1,1,0,1,0,0],[1,2,3,4,5,6]),([1,1,1,0,1,0,0,1,0,1,1,0,0],[1,2,3,4,5,6,7]),([1,1,1,0,1,0,0,1,0,1,1,0,0,1,0,0,1,1,0,1,0,0],[1,2,3,4,5,6,7,8,9,10])]
abbrev eQ(k N kl ko:Nat)(ag:Bool):LV:=[(pA k),nA,nA,(sA kl N N),(sA ko N N),(.bool ag)]
abbrev dw(k N kl ko:Nat)(ag:Bool)(q:Nat):LV:=[(pA k),nA,nA,(sA kl N N),(sA ko N N),(.bool ag),(iA q)]
abbrev eR(k N kl ko:Nat)(ag:Bool)(q:Nat)(x:OA)(xn xc:Nat)(is:Bool)(j:Nat):LV:=[(pA k),nA,nA,(sA kl N N),(sA ko N N),(.bool ag),(iA q),(.slice x xn xc),(.bool is),(iA j)]
theorem Oe(mv:LV)(h:aa)(Q:VH)(hx:xN (jI SS.P 24 (.agg ⟨mv⟩)) h λB1 g2=>xP (ah SS.P 24 (pA (h.next)) 3) λp3=>xL (ai SS.P 22 g2 (.pointer (some p3))) λa4 n5 c6=>xR (bL SS.P 27 (iA n5) (iA n5)) g2 λB7 n8 c9 yT=>xP (ah SS.P 24 (pA (h.next)) 3) λp11=>xL (ai SS.P 22 yT (.pointer (some p11))) λa12 n13 cm=>xR (bL SS.P 49 (iA n13) (iA n13)) yT λB15 n16 c17 g18=>LL SS bU [1,1,1,0,1,0,0] [(pA (h.next)),nA,nA,(sA (g2.next) n8 c9),(sA (yT.next) n16 c17),(.bool true)] g18 (KK SS bU [1,1,1,0,1,0] [] (EE SS bU Q))):FW SS 20 [(.agg ⟨mv⟩)] h Q:=dM bU Tryz.func20 (au hx)
theorem vc(mv:LV)(k N kl ko:Nat)(Inv:Nat->Bool->aa->Prop)(Q:VH)(step:∀(mz:Nat) (ag:Bool) (zz:Nat->Value) (h:aa),Inv mz ag h->aF ag (LL SS bU [1,1,1,0,1,0,0,1,0,1,1,0,0] (dw k N kl ko false 0) h (KK SS bU [1,0,1,1,0] [1,1,1,0,1,0,0] (RR bU [1,1,1,0,1,0,0] (iR (eQ k N kl ko) Inv) mz (KK SS bU [1,1,1,0,1,0] [] (EE SS bU Q))))) (Q (.tuple ⟨[(sA kl N N),(sA ko N N)]⟩) h))(mz:Nat){ag:Bool}{h:aa}(hi:Inv mz ag h):LL SS bU [1,1,1,0,1,0,0] (eQ k N kl ko ag) h (KK SS bU [1,1,1,0,1,0] [] (EE SS bU Q)):=
 dK (eQ k N kl ko) Inv (λmz ag zz h hi=>au (step mz ag zz h hi)) mz hi
theorem vd(mv:LV)(k N kl ko:Nat)(Inv:Nat->Bool->aa->Prop)(mz:Nat)(Inv2:Nat->Bool->Nat->aa->Prop)(Q:VH)(step:∀(mz2:Nat) (ag:Bool) (q:Nat) (zz:Nat->Value) (h:aa),Inv2 mz2 ag q h->xP (ah SS.P 24 (pA k) 3) λp19=>xL (ai SS.P 22 h (.pointer (some p19))) λa20 n21 c22=>aF (decide (((q:Int):Int)<(n21:Int))) (xP (ah SS.P 24 (pA k) 3) λp23=>xL (ai SS.P 22 h (.pointer (some p23))) λa24 n25 c26=>xP (af SS.P 22 (.slice a24 n25 c26) (iA q)) λp27=>xP (ah SS.P 38 (.pointer (some p27)) 0) λp28=>xS (ai SS.P 9 h (.pointer (some p28))) λl29=>LL SS bU [1,1,1,0,1,0,0,1,0,1,1,0,0,1,0,0,1,1,0,1,0,0] (eR k N kl ko ag q none 0 0 (!((l29:LB)==[])) 0) h (KK SS bU [1,0,0,1,1,0,1,0] [1,1,1,0,1,0,0,1,0,1,1,0,0] (RR bU [1,1,1,0,1,0,0,1,0,1,1,0,0] (re (dw k N kl ko) Inv2) mz2 (KK SS bU [1,0,1,1,0] [1,1,1,0,1,0,0] (RR bU [1,1,1,0,1,0,0] (iR (eQ k N kl ko) Inv) mz (KK SS bU [1,1,1,0,1,0] [] (EE SS bU Q))))))) (aH (iR (eQ k N kl ko) Inv) mz [(pA k),nA,nA,(sA kl N N),(sA ko N N),(.bool ag)] h))(mz2:Nat){ag:Bool}{q:Nat}{h:aa}(hi:Inv2 mz2 ag q h):LL SS bU [1,1,1,0,1,0,0,1,0,1,1,0,0] (dw k N kl ko ag q) h (KK SS bU [1,0,1,1,0] [1,1,1,0,1,0,0] (RR bU [1,1,1,0,1,0,0] (iR (eQ k N kl ko) Inv) mz (KK SS bU [1,1,1,0,1,0] [] (EE SS bU Q)))):=
 ng (dw k N kl ko) Inv2 (λmz2 ag q zz h hi=>au (step mz2 ag q zz h hi)) mz2 hi
theorem ve(mv:LV)(k N kl ko:Nat)(Inv:Nat->Bool->aa->Prop)(mz:Nat)(Inv2:Nat->Bool->Nat->aa->Prop)(mz2:Nat)(ag:Bool)(q:Nat)(Inv3:Nat->OA->Nat->Nat->Bool->Nat->aa->Prop)(Q:VH)(step:∀(mz3:Nat) (x:OA) (xn xc:Nat) (is:Bool) (j:Nat) (zz:Nat->Value) (h:aa),Inv3 mz3 x xn xc is j h->xP (ah SS.P 24 (pA k) 3) λp30=>xL (ai SS.P 22 h (.pointer (some p30))) λa31 n32 c33=>xP (af SS.P 22 (.slice a31 n32 c33) (iA q)) λp34=>xP (ah SS.P 38 (.pointer (some p34)) 1) λp35=>xL (ai SS.P 36 h (.pointer (some p35))) λa36 n37 c38=>aF (decide (((j:Int):Int)<(n37:Int))) (xP (ah SS.P 24 (pA k) 3) λp39=>xL (ai SS.P 22 h (.pointer (some p39))) λa40 n41 c42=>xP (af SS.P 22 (.slice a40 n41 c42) (iA q)) λp43=>xP (ah SS.P 38 (.pointer (some p43)) 1) λp44=>xL (ai SS.P 36 h (.pointer (some p44))) λa45 n46 c47=>xP (af SS.P 36 (.slice a45 n46 c47) (iA j)) λp48=>xA (ai SS.P 34 h (.pointer (some p48))) λc49=>xN (cq SS.P 34) h λB50 g51=>xU (aw SS.P 34 (pA (h.next)) (.agg ⟨c49⟩) g51) g51 λu52 g53=>xP (ah SS.P 34 (pA (h.next)) 3) λp54=>xI .i64 (ai SS.P 3 g53 (.pointer (some p54))) λn55=>xP (af SS.P 49 (sA ko N N) (.int .i64 n55)) λp56=>xB (ai SS.P 4 g53 (.pointer (some p56))) λb57=>aF (!b57) (aH (ui (eR k N kl ko ag q) Inv3) mz3 [(pA k),nA,nA,(sA kl N N),(sA ko N N),(.bool ag),(iA q),(.slice x xn xc),(.bool is),(.int .i64 (wrap .i64 ((j:Int)+1)))] g53) (xP (ah SS.P 34 (pA (h.next)) 0) λp58=>xI .i64 (ai SS.P 3 (room g53 10) (.pointer (some p58))) λn59=>zR (aI SS.P 32 1 [(0,(.int .i64 n59))]) λB60 n61 c62=>xP (ah SS.P 34 (pA (h.next)) 3) λp63=>xI .i64 (ai SS.P 3 (room g53 10) (.pointer (some p63))) λn64=>xP (af SS.P 27 (sA kl N N) (.int .i64 n64)) λp65=>xL (ai SS.P 32 (room g53 10) (.pointer (some p65))) λa66 n67 c68=>xE (aO SS.P 32 32 (sA (g53.next+2) n61 c62) (.slice a66 n67 c68) (bj (room g53 10) g53.next [(2,B60)])) (bj (room g53 10) g53.next [(2,B60)]) λa69 n70 c71 u72 g73=>aF (!is) (aH (ui (eR k N kl ko ag q) Inv3) mz3 [(pA k),nA,nA,(sA kl N N),(sA ko N N),(.bool ag),(iA q),(.slice a69 n70 c71),(.bool true),(.int .i64 (wrap .i64 ((j:Int)+1)))] g73) (FW SS 35 [(.slice a69 n70 c71),(.slice x xn xc)] g73 λv74 h75=>yI .i64 v74 λn76=>aF (decide ((n76:Int)<0)) (aH (ui (eR k N kl ko ag q) Inv3) mz3 [(pA k),nA,nA,(sA kl N N),(sA ko N N),(.bool ag),(iA q),(.slice a69 n70 c71),(.bool true),(.int .i64 (wrap .i64 ((j:Int)+1)))] h75) (aH (ui (eR k N kl ko ag q) Inv3) mz3 [(pA k),nA,nA,(sA kl N N),(sA ko N N),(.bool ag),(iA q),(.slice x xn xc),(.bool is),(.int .i64 (wrap .i64 ((j:Int)+1)))] h75)))) (aF is (xP (af SS.P 49 (sA ko N N) (iA q)) λp77=>xB (ai SS.P 4 h (.pointer (some p77))) λb78=>aF (!b78) (xP (af SS.P 27 (sA kl N N) (iA q)) λp79=>xU (aw SS.P 32 (.pointer (some p79)) (.slice x xn xc) h) h λu80 g81=>xP (af SS.P 49 (sA ko N N) (iA q)) λp82=>xU (aw SS.P 4 (.pointer (some p82)) (.bool true) g81) g81 λu83 g84=>aH (re (dw k N kl ko) Inv2) mz2 [(pA k),nA,nA,(sA kl N N),(sA ko N N),(.bool true),(.int .i64 (wrap .i64 ((q:Int)+1)))] g84) (xP (af SS.P 27 (sA kl N N) (iA q)) λp85=>xL (ai SS.P 32 h (.pointer (some p85))) λa86 n87 c88=>FW SS 35 [(.slice x xn xc),(.slice a86 n87 c88)] h λv89 h90=>yI .i64 v89 λn91=>aF (decide ((n91:Int)<0)) (xP (af SS.P 27 (sA kl N N) (iA q)) λp92=>xU (aw SS.P 32 (.pointer (some p92)) (.slice x xn xc) h90) h90 λu93 g94=>xP (af SS.P 49 (sA ko N N) (iA q)) λp95=>xU (aw SS.P 4 (.pointer (some p95)) (.bool true) g94) g94 λu96 g97=>aH (re (dw k N kl ko) Inv2) mz2 [(pA k),nA,nA,(sA kl N N),(sA ko N N),(.bool true),(.int .i64 (wrap .i64 ((q:Int)+1)))] g97) (aH (re (dw k N kl ko) Inv2) mz2 [(pA k),nA,nA,(sA kl N N),(sA ko N N),(.bool ag),(.int .i64 (wrap .i64 ((q:Int)+1)))] h90))) (aH (re (dw k N kl ko) Inv2) mz2 [(pA k),nA,nA,(sA kl N N),(sA ko N N),(.bool ag),(.int .i64 (wrap .i64 ((q:Int)+1)))] h)))(mz3:Nat){x:OA}{xn xc:Nat}{is:Bool}{j:Nat}{h:aa}(hi:Inv3 mz3 x xn xc is j h):LL SS bU [1,1,1,0,1,0,0,1,0,1,1,0,0,1,0,0,1,1,0,1,0,0] (eR k N kl ko ag q x xn xc is j) h (KK SS bU [1,0,0,1,1,0,1,0] [1,1,1,0,1,0,0,1,0,1,1,0,0] (RR bU [1,1,1,0,1,0,0,1,0,1,1,0,0] (re (dw k N kl ko) Inv2) mz2 (KK SS bU [1,0,1,1,0] [1,1,1,0,1,0,0] (RR bU [1,1,1,0,1,0,0] (iR (eQ k N kl ko) Inv) mz (KK SS bU [1,1,1,0,1,0] [] (EE SS bU Q)))))):=
 zL (eR k N kl ko ag q) Inv3 (λmz3 x xn xc is j zz h hi=>au (step mz3 x xn xc is j zz h hi)) mz3 hi
noncomputable def ss:FD:=dJ Tryz.f8 [([1,1,1,0,1,0,0],[1,2,3,4,5,6,7])]
abbrev lg(k N kl ko:Nat)(q:Nat):LV:=[(pA k),nA,(.int .i64 0),(.int .i64 0),(sA kl N N),(sA ko N N),(iA q)]
theorem Rc(mv:LV)(h:aa)(Q:VH)(hx:xN (jI SS.P 24 (.agg ⟨mv⟩)) h λB1 g2=>xA (ai SS.P 24 g2 (pA (h.next))) λc3=>FW SS 19 [(.agg ⟨c3⟩)] g2 λv4 h5=>yI .i64 v4 λn6=>aF (((n6:Int) !=0)) (Q (.tuple ⟨[nA,(.int .i64 n6)]⟩) h5) (xA (ai SS.P 24 h5 (pA (h.next))) λc7=>FW SS 20 [(.agg ⟨c7⟩)] h5 λv8 h9=>∃(a10:OA) (n11 ck:Nat),∃(a13:OA) (n14 cD:Nat),v8=(.tuple ⟨[(.slice a10 n11 ck),(.slice a13 n14 cD)]⟩)/\LL SS ss [1,1,1,0,1,0,0] [(pA (h.next)),nA,(.int .i64 0),(.int .i64 n6),(.slice a10 n11 ck),(.slice a13 n14 cD),(.int .i64 0)] h9 (KK SS ss [1,1,1,0,1,0] [] (EE SS ss Q)))):FW SS 8 [(.agg ⟨mv⟩)] h Q:=dM ss Tryz.func8 (au hx)
theorem wX(mv:LV)(k N kl ko:Nat)(Inv:Nat->Nat->aa->Prop)(Q:VH)(step:∀(mz:Nat) (q:Nat) (zz:Nat->Value) (h:aa),Inv mz q h->aF (decide (((q:Int):Int)<(N:Int))) (xP (af SS.P 49 (sA ko N N) (iA q)) λp16=>xB (ai SS.P 4 h (.pointer (some p16))) λb17=>aF (!b17) (xR (aI SS.P 32 1 [(0,(.int .i64 0))]) h λB18 n19 c20 g21=>xP (af SS.P 27 (sA kl N N) (iA q)) λp22=>xU (aw SS.P 32 (.pointer (some p22)) (sA (h.next) n19 c20) g21) g21 λu23 g24=>xP (af SS.P 27 (sA kl N N) (iA q)) λp25=>xL (ai SS.P 32 g24 (.pointer (some p25))) λa26 n27 c28=>aF (decide (((n27:Int):Int)>200)) (Q (.tuple ⟨[nA,(.int .i64 2)]⟩) g24) (aH (iR (lg k N kl ko) Inv) mz [(pA k),nA,(.int .i64 0),(.int .i64 0),(sA kl N N),(sA ko N N),(.int .i64 (wrap .i64 ((q:Int)+1)))] g24)) (xP (af SS.P 27 (sA kl N N) (iA q)) λp29=>xL (ai SS.P 32 h (.pointer (some p29))) λa30 n31 c32=>aF (decide (((n31:Int):Int)>200)) (Q (.tuple ⟨[nA,(.int .i64 2)]⟩) h) (aH (iR (lg k N kl ko) Inv) mz [(pA k),nA,(.int .i64 0),(.int .i64 0),(sA kl N N),(sA ko N N),(.int .i64 (wrap .i64 ((q:Int)+1)))] h))) (Q (.tuple ⟨[(sA kl N N),(.int .i64 0)]⟩) h))(mz:Nat){q:Nat}{h:aa}(hi:Inv mz q h):LL SS ss [1,1,1,0,1,0,0] (lg k N kl ko q) h (KK SS ss [1,1,1,0,1,0] [] (EE SS ss Q)):=
 dK (lg k N kl ko) Inv (λmz q zz h hi=>au (step mz q zz h hi)) mz hi
noncomputable def se:FD:=dJ Tryz.f3 [([1,1,1,1,1,0,1,0,0],[1,2,3,4,5,6,7])]
abbrev kS(k:Nat)(a:OA)(n c:Nat)(b:OA)(m d:Nat)(e f:Int)(i:Nat):LV:=[(pA k),(.bool false),(.slice a n c),(.int .i64 e),(.slice b m d),(.int .i64 f),(iA i)]
theorem Qz(mv:LV)(h:aa)(Q:VH)(hx:xN (jI SS.P 24 (.agg ⟨mv⟩)) h λB1 g2=>xA (ai SS.P 24 g2 (pA (h.next))) λc3=>FW SS 5 [(.agg ⟨c3⟩)] g2 λv4 h5=>yB v4 λb6=>aF b6 (FW SS 6 [] h5 λv7 h8=>yB v7 λb9=>Q (.bool b9) h8) (xA (ai SS.P 24 h5 (pA (h.next))) λcp=>FW SS 7 [(.agg ⟨cp⟩)] h5 λv11 h12=>∃(a13:OA) (n14 cD:Nat),∃n16:Int,v11=(.tuple ⟨[(.slice a13 n14 cD),(.int .i64 n16)]⟩)/\xA (ai SS.P 24 h12 (pA (h.next))) λc17=>FW SS 8 [(.agg ⟨c17⟩)] h12 λv18 h19=>∃(a20:OA) (n21 c22:Nat),∃n23:Int,v18=(.tuple ⟨[(.slice a20 n21 c22),(.int .i64 n23)]⟩)/\aF (((n16:Int) !=n23)) (Q (.bool false) h19) (aF ((((n14:Int):Int) !=(n21:Int))) (Q (.bool false) h19) (LL SS se [1,1,1,1,1,0,1,0,0] (kS (h.next) a13 n14 cD a20 n21 c22 n16 n23 0) h19 (KK SS se [1,1,1,1,1,0,1,0] [] (EE SS se Q)))))):FW SS 3 [(.agg ⟨mv⟩)] h Q:=dM se Tryz.func3 (au hx)
theorem wE(mv:LV)(k:Nat)(a:OA)(n c:Nat)(b:OA)(m d:Nat)(e f:Int)(Inv:Nat->Nat->aa->Prop)(Q:VH)(step:∀(mz:Nat) (i:Nat) (zz:Nat->Value) (h:aa),Inv mz i h->aF (decide (((i:Int):Int)<(n:Int))) (xP (af SS.P 27 (.slice a n c) (iA i)) λp24=>xL (ai SS.P 32 (room h 10) (.pointer (some p24))) λa25 n26 c27=>xP (af SS.P 27 (.slice b m d) (iA i)) λp28=>xL (ai SS.P 32 (room h 10) (.pointer (some p28))) λa29 n30 c31=>FW SS 9 [(.slice a25 n26 c27),(.slice a29 n30 c31)] (room h 10) λv32 h33=>yB v32 λb34=>aF (!b34) (Q (.bool false) h33) (aH (iR (kS k a n c b m d e f) Inv) mz [(pA k),(.bool false),(.slice a n c),(.int .i64 e),(.slice b m d),(.int .i64 f),(.int .i64 (wrap .i64 ((i:Int)+1)))] h33)) (FW SS 6 [] h λv35 h36=>yB v35 λb37=>Q (.bool b37) h36))(mz:Nat){i:Nat}{h:aa}(hi:Inv mz i h):LL SS se [1,1,1,1,1,0,1,0,0] (kS k a n c b m d e f i) h (KK SS se [1,1,1,1,1,0,1,0] [] (EE SS se Q)):=
 dK (kS k a n c b m d e f) Inv (λmz i zz h hi=>au (step mz i zz h hi)) mz hi
section
def RO:dO:=⟨0,0,[],0⟩
theorem XV:cF SS.P 34 []=some (.agg ⟨kj RO⟩):=by kernel_rfl
theorem AB.all{g:aa}{k:Nat}{q:dO}(s:AB g k q):ai SS.P 34 g (.pointer (some ⟨k,0,none⟩))=some (.agg ⟨kj q⟩):=zd UD Sw GF s (by simp[kj])
theorem AB.put{hb g:aa}{k:Nat}{q:dO}(w:Wf hb)(o:Ok hb g)(hk:hb.next<=k)(s:AB g k q)(q':dO):∃u:cX,aw SS.P 34 (.pointer (some ⟨k,0,none⟩)) (.agg ⟨kj q'⟩) g=some (undef,u)/\Ok hb (u.app g)/\AB (u.app g) k q'/\∀j B,g.get j=some B->j≠k->(u.app g).get j=some B:=by
 obtain⟨o',e⟩:=pP (cs:=kj q') w o s hk;refine⟨_,nY GF rfl s rfl rfl,o',e,λj B hj hne=>?_⟩;show(g.set k _).get j=_;rw[aa.aX,if_neg hne];exact hj
def uY(D:List Int)(p:Nat)(a:dO):Prop:=D.getD a.t.toNat (-1)=D.getD p (-1)-1
def q7(D:List Int)(p:Nat)(l:List dO)(q:dO):Prop:=(q=RO/\∀a∈l,¬uY D p a)\/(q∈l/\uY D p q/\∀a∈l,uY D p a->q.i<=a.i)
theorem q7.skip{D:List Int}{p:Nat}{l:List dO}{q a:dO}(b:q7 D p l q)(h:¬uY D p a):q7 D p (l++[a]) q:=by
 rcases b with⟨h1,h2⟩|⟨h1,h2,h3⟩
 ·refine .inl ⟨h1,λx hx=>?_⟩;rcases mem_append.1 hx with c|c
  ·exact h2 x c
  ·rw[mem_singleton]at c;rw[c];exact h
 ·refine .inr ⟨mem_append_left _ h1,h2,λx hx hq=>?_⟩;rcases mem_append.1 hx with c|c
  ·exact h3 x c hq
  ·rw[mem_singleton]at c;rw[c]at hq;exact absurd hq h
theorem q7.Xr{D:List Int}{p:Nat}{l:List dO}{q a:dO}(b:q7 D p l q)(h0:q.i≠0)(h:q.i<=a.i):q7 D p (l++[a]) q:=by
 rcases b with⟨h1,h2⟩|⟨h1,h2,h3⟩
 ·rw[h1]at h0;exact absurd rfl h0
 ·refine .inr ⟨mem_append_left _ h1,h2,λx hx hq=>?_⟩;rcases mem_append.1 hx with c|c
  ·exact h3 x c hq
  ·rw[mem_singleton]at c;rw[c];exact h
theorem q7.take{D:List Int}{p:Nat}{l:List dO}{q a:dO}(b:q7 D p l q)(hq:uY D p a)(h:q.i=0/\(∀x∈l,1<=x.i)\/a.i<q.i):q7 D p (l++[a]) a:=by
 refine .inr ⟨List.mem_append_right _ (List.mem_singleton_self _),hq,λx hx hqx=>?_⟩;rcases mem_append.1 hx with c|c
 ·rcases b with⟨h1,h2⟩|⟨h1,h2,h3⟩
  ·exact absurd hqx (h2 x c)
  ·have h4:=h3 x c hqx;rcases h with⟨h5,h6⟩|h5
   ·have:=h6 q h1;omega
   ·omega
 ·rw[mem_singleton]at c;rw[c];exact Int.le_refl _
structure Ap(rv:Value)(rs:List Value)(xv:Value)(k8:Nat):Prop where
 n1:bG rv≠some k8
 n2:bG xv≠some k8
 n3:∀(i:Nat)(v:Value),rs[i]?=some v->bG v≠some k8
structure Cx(hb:aa)(M:bA)(a:Option Addr)(n c k kr:Nat)(D:List Int):Prop where
 w:Wf hb
 mb:MB hb k M a n c
 hn:n<=300
 row:hb.get kr=some (.cells (D.map (Value.int .i64)) 3 1 true)
 len:D.length=n
 ds:∀q,lJ (aN M) (fN M) q (D.getD q (-1))
 da:JP M
 sm:Small M
theorem Cr{α:Type}{l:List α}{j:Nat}{x:α}(h:l[j]?=some x):l.take (j+1)=l.take j++[x]:=by rw[List.take_add_one,h];rfl
section
variable {hb:aa} {M:bA} {a:Option Addr} {n c k kr k8:Nat} {D:List Int} {rs:List Value} {ws:List (List Nat)} {W:List Nat}
theorem Cx.get(x:Cx hb M a n c k kr D){g:aa}(o:Ok hb g){q:Nat}(hq:q<n):af SS.P 32 (.slice (some ⟨kr,0,none⟩) n n) (.int .i64 (q:Int))=some (.pointer (some ⟨kr,q,none⟩))/\ai SS.P 3 g (.pointer (some ⟨kr,q,none⟩))=some (.int .i64 (D.getD q (-1))):=by
 have hl:q<D.length:=by rw[x.len];exact hq
 refine⟨?_,?_⟩
 ·have:=Fw (P:=SS.P) ll Pv (k:=kr) (off:=0) (n:=n) (c:=n) (ik:= .i64) (i:=(q:Int)) (by omega) (by omega);rw[this,toNat_natCast,Nat.zero_add,mul_one]
 ·rw[gG GS GR (o.ext _ _ x.row) (by rw[lM];exact hl),gD,List.getElem?_map,gD,gE hl];rfl
def Zi(hb:aa)(D:List Int)(p k8:Nat)(l:List dO)(rv:Value)(rs:List Value)(ws:List (List Nat))(xv:Value)(W:List Nat)(mz3 j:Nat)(g:aa):Prop:=j<=l.length/\mz3=l.length-j/\Fr hb rv rs ws xv W g/\∃q,AB g k8 q/\q7 D p (l.take j) q
def Zh(hb:aa)(M:bA)(n:Nat)(D:List Int)(rv:Value)(rs:List Value)(ws:List (List Nat))(i:Nat)(mz2 p:Nat)(x:Option Addr)(xn xc:Nat)(g:aa):Prop:=p<n/\0<=D.getD p (-1)/\mz2=(D.getD p (-1)).toNat/\∃W,Fr hb rv rs ws (.slice x xn xc) W g/\(W.length:Int)+D.getD p (-1)=D.getD i (-1)/\∀w,cE (aN M) (fN M) p w->cE (aN M) (fN M) i (W++w)
set_option linter.defProp false in
def S9(cx:Cx hb M a n c k kr D){p i:Nat}(hp:p<n)(hi200:D.getD i (-1)<=200)(hDp:0<D.getD p (-1))(hWl:(W.length:Int)+D.getD p (-1)=D.getD i (-1))(hW:∀w,cE (aN M) (fN M) p w->cE (aN M) (fN M) i (W++w))
  {s:lA} (hs:M.aq[p]?=some s) {b:Option Addr} {m d:Nat} (ar:gi hb (.slice b m d) s.bq) {r:Option Addr} {rn rc:Nat} {x:Option Addr} {xn xc:Nat} (hk8:hb.next<=k8) (ap:Ap (.slice r rn rc) rs (.slice x xn xc) k8) (mv:List Value) (Inv:Nat->Nat->Option Addr->Nat->Nat->aa->Prop) (mz:Nat) (mz2:Nat) (hmz2:mz2=(D.getD p (-1)).toNat) (Q:VH):=
 wP mv k n kr a n c r rn rc k8 b m d Inv mz i (Zh hb M n D (.slice r rn rc) rs ws i) mz2 p x xn xc (Zi hb D p k8 s.bq (.slice r rn rc) rs ws (.slice x xn xc) W) Q (by
  intro mz3 j;intros;rename_i g hin;obtain⟨f1,f2,fr,q,ab,bst⟩:=hin;have hm:=ar.len;have hsl:=cx.sm.bq s (List.mem_of_getElem? hs);have hsM:=List.mem_of_getElem? hs;refine ae (λg1=>?_) (λg1=>?_)
  ·have g1:=dT g1;obtain⟨qa,hqa⟩:∃qa,s.bq[j]?=some qa:=⟨_,gE (by omega)⟩
   obtain⟨bb,o,e1,e2,_⟩:=(ar.ok fr.ok).at_ hqa;have hin:=cx.da.gd.bq s hsM qa (List.mem_of_getElem? hqa);obtain⟨T,hT⟩:∃T:Nat,qa.t=(T:Int):=⟨qa.t.toNat,by have:=hin.t0;omega⟩
   have hTn:T<n:=by have:=hin.t1;have:=cx.mb.len;omega
   have hTq:qa.t.toNat=T:=by omega
   obtain⟨u1,p1,p2,p3⟩:=zu fr.ok.wf qa;have fr2:=fr.ext p2;have ab2:=ab.ok p2;refine⟨_,e1,_,e2,_,He,u1,p1,?_⟩;generalize u1.app (g.push JO)=g2 at*;have oR:=(Ok.refl fr2.ok.wf).room 23;have frR:=fr2.ext oR;have abR:=ab2.ok oR;have pR:=p3.ok oR;obtain⟨x1,x2⟩:=cx.get frR.ok hTn;obtain⟨y1,y2⟩:=cx.get frR.ok hp;have l3:ai SS.P 3 (Go.Ab.room g2 23) (.pointer (some ⟨g.next,0+3,none⟩))=some (.int .i64 (T:Int)):=by rw[<-hT];exact pR.l3
   have hw:wrap .i64 (D.getD p (-1)-1)=D.getD p (-1)-1:=aA (by omega) (by omega);refine⟨_,mY _ _,_,l3,_,x1,_,x2,_,y1,_,y2,?_⟩;dsimp only;rw[hw,ba (i:=j) (n:=m) (by omega) (by omega)];have tk:=Cr hqa;have hj1:j+1<=s.bq.length:=by omega
   have hj2:mz3-1=s.bq.length-(j+1):=by omega
   have hj3:mz3-1<mz3:=by omega
   refine ae (λq2=>?_) (λq2=>?_)
   ·have hq:uY D p qa:=by
     unfold uY;rw[hTq];simpa using q2
    have fin:(q.i=0/\(∀x∈s.bq.take j,1<=x.i)\/qa.i<q.i)->xA (ai SS.P 34 (Go.Ab.room g2 23) (.pointer (some ⟨g.next,0,none⟩))) λc73=>xU (aw SS.P 34 (.pointer (some ⟨k8,0,none⟩)) (.agg ⟨c73⟩) (Go.Ab.room g2 23)) (Go.Ab.room g2 23) λu74 g75=>∃mz',mz'<mz3/\Zi hb D p k8 s.bq (.slice r rn rc) rs ws (.slice x xn xc) W mz' (j+1) g75:=λhc=>by
     obtain⟨u,s1,s2,s3,s4⟩:=AB.put cx.w frR.ok hk8 abR qa;refine⟨_,AB.all pR,u,s1,mz3-1,hj3,hj1,hj2,frR.fc s2 s4 ap.n1 ap.n2 ap.n3,qa,s3,?_⟩;rw[tk];exact bst.take hq hc
    refine⟨_,je _ _,_,abR.l0,ae (λq3=>?_) (λq3=>?_)⟩
    ·obtain⟨c1,h1,u,h2,mz',h3,h4⟩:=fin (.inl ⟨by simpa using q3,λx hx=>cx.da.pos s hsM x (List.mem_of_mem_take hx)⟩);exact⟨c1,h1,u,h2,cH mz' h3 h4⟩
    ·have q3:q.i≠0:=by simpa using q3
     refine⟨_,je _ _,_,pR.l0,_,je _ _,_,abR.l0,ae (λq4=>?_) (λq4=>?_)⟩
     ·obtain⟨c1,h1,u,h2,mz',h3,h4⟩:=fin (.inr (dT q4));exact⟨c1,h1,u,h2,cH mz' h3 h4⟩
     ·have q4:=dF q4;exact cH (mz3-1) hj3 ⟨hj1,hj2,frR,q,abR,by rw[tk];exact bst.Xr q3 (Int.not_lt.1 q4)⟩
   ·have hq:¬uY D p qa:=by
     unfold uY;rw[hTq];simpa using q2
    exact cH (mz3-1) hj3 ⟨hj1,hj2,frR,q,abR,by rw[tk];exact bst.skip hq⟩
  ·have g1:=dF g1;rw[List.take_of_length_le (by omega)]at bst;obtain⟨y,t,hy,hdt⟩:=Ek cx.ds hDp;obtain⟨s',a1,qy,a2,a3,a4⟩:=jR.1 hy;rw[hs]at a1;obtain rfl:=oI a1;rcases bst with⟨b1,b2⟩|⟨b1,b2,b3⟩
   ·exact absurd (show uY D p qy by unfold uY;rw[a4];exact hdt) (b2 qy a2)
   ·have hin:=cx.da.gd.bq s hsM q b1;have hps:=cx.da.pos s hsM q b1;obtain⟨T,hT⟩:∃T:Nat,q.t=(T:Int):=⟨q.t.toNat,by have:=hin.t0;omega⟩
    obtain⟨X,hX⟩:∃X:Nat,q.i=(X:Int):=⟨q.i.toNat,by omega⟩
    have hTn:T<n:=by have:=hin.t1;have:=cx.mb.len;omega
    have op:=(Ok.refl fr.ok.wf).push (.cells [.int .i64 (X:Int)] 3 1 true);have hk:=bF g (.cells [.int .i64 (X:Int)] 3 1 true);obtain⟨b',n',c',u,c1,fr',kp⟩:=(fr.ext op).WU cx.w hk (by omega);have l0:ai SS.P 3 g (.pointer (some ⟨k8,0+0,none⟩))=some (.int .i64 (X:Int)):=by rw[<-hX];exact ab.l0
    have ab':AB (u.app (g.push (.cells [.int .i64 (X:Int)] 3 1 true))) k8 q:=kp _ _ (ab.ok op) ap.n2;have l3:ai SS.P 3 (u.app (g.push (.cells [.int .i64 (X:Int)] 3 1 true))) (.pointer (some ⟨k8,0+3,none⟩))=some (.int .i64 (T:Int)):=by rw[<-hT];exact ab'.l3
    have hdT:D.getD T (-1)=D.getD p (-1)-1:=by
     have:=b2;unfold uY at this;rwa[hT,toNat_natCast]at this
    refine⟨_,je _ _,_,l0,_,_,_,yj _,b',n',c',u,c1,_,mY _ _,_,l3,?_⟩;have hxT:(X,T)∈aN M p:=jR.2 ⟨s,hs,q,b1,by omega,by omega⟩;refine BL (D.getD T (-1)).toNat (by omega) ⟨hTn,by omega,rfl,W++[X],fr',by rw[List.length_append,List.length_singleton];omega,λw hw=>?_⟩;rw[List.append_assoc];refine hW _ (CB cx.ds hDp hxT hdT (λy' s' hy' hd'=>?_) (λy' s1 s2 h1 h2=>cx.da.one h1 h2) hw);obtain⟨s2,d1,q2,d2,d3,d4⟩:=jR.1 hy';rw[hs]at d1;obtain rfl:=oI d1;have h1:=b3 q2 d2 (by unfold uY;rw[d4];exact hd');have h2:=cx.da.pos s hsM q2 d2;omega)
end
end
section
theorem Fr.zero{hb g:aa}{rv:Value}{rs:List Value}{ws:List (List Nat)}(f:Fr hb rv rs ws (.slice none 0 0) [] g)(z:Nat):Fr hb rv rs ws (.slice (some ⟨g.next,0,none⟩) 1 1) [z] (g.push (.cells [.int .i64 (z:Int)] 3 1 true)):=by
 have op:=(Ok.refl f.ok.wf).push (.cells [.int .i64 (z:Int)] 3 1 true);have hk:=bF g (.cells [.int .i64 (z:Int)] 3 1 true);obtain⟨l1,l2,l3⟩:=f.lt;have f2:=f.ext op;have hb':dQ hb (g.push (.cells [.int .i64 (z:Int)] 3 1 true)) 3 (.slice (some ⟨g.next,0,none⟩) ([z].map iv).length ([z].map iv).length) ([z].map iv):=dQ.built (vs:=[z].map iv) hk f.ok.nx (by show 1<bV;unfold bV;omega);refine⟨f2.ok,f2.rr,f2.len,f2.wd,f2.ra,hb',λk hk=>?_⟩;have e:g.next=k:=by
  have:(some g.next:Option Nat)=some k:=hk;exact oI this
 subst e;exact⟨λe=>by have:=l1 _ e;omega,λi v hv e=>by have:=l3 i v hv _ e;omega⟩
def Ng(h:aa)(M:bA)(n:Nat):VH:=λv h'=>Ok h h'/\((Hs M≠0/\v = .tuple ⟨[.slice none 0 0,.int .i64 (Hs M)]⟩)\/(Hs M=0/\(((∃q d,lJ (aN M) (fN M) q d/\200<d)/\v = .tuple ⟨[.slice none 0 0,.int .i64 2]⟩)\/ ∃b d ws,v = .tuple ⟨[.slice b n d,.int .i64 0]⟩/\ws.length=n/\Al h' b n d ws/\fA M n ws)))
theorem fA.snoc{M:bA}{i:Nat}{ws:List (List Nat)}{w:List Nat}(f:fA M i ws)(l:ws.length=i)(hw:w.length<=200/\(cE (aN M) (fN M) i w\/(w=[0]/\∀v,¬gj (aN M) (fN M) i v))):fA M (i+1) (ws++[w]):=by
 intro q u hq hu;rw[List.getElem?_append]at hu;split at hu
 ·next h=>exact f q u (by omega) hu
 ·next h=>
  obtain rfl:q=i:=by omega
  rw[l,Nat.sub_self]at hu;simp at hu;subst hu;exact hw
section
variable {hb:aa} {M:bA} {a:Option Addr} {n c k kr:Nat} {D:List Int} {rs:List Value} {ws:List (List Nat)}
def Zg(hb:aa)(M:bA)(n:Nat)(D:List Int)(mz i:Nat)(r:Option Addr)(rn rc:Nat)(g:aa):Prop:=i<=n/\mz=n-i/\∃rs ws,Fr hb (.slice r rn rc) rs ws (.slice none 0 0) [] g/\ws.length=i/\fA M i ws/\∀q,q<i->D.getD q (-1)<=200
set_option linter.defProp false in
def Ta(cx:Cx hb M a n c k kr D){i:Nat}(hi:i<n)(hi200:D.getD i (-1)<=200)(hprev:∀q,q<i->D.getD q (-1)<=200)(hws:ws.length=i)(hF:fA M i ws){r:Option Addr}{rn rc:Nat}(mv:List Value)(mz:Nat)(hmz:mz=n-i)(Q:VH):=
 wO mv k n kr a n c r rn rc (Zg hb M n D) mz i (Zh hb M n D (.slice r rn rc) rs ws i) Q (by
  intro mz2 p x xn xc;intros;rename_i g hin;obtain⟨hp,h0,f2,W,fr,hWl,hW⟩:=hin;have hl:=cx.mb.len;obtain⟨x1,x2⟩:=cx.get fr.ok hp;refine⟨_,x1,_,x2,ae (λg1=>?_) (λg1=>?_)⟩
  ·have g1:=dT g1;obtain⟨u1,p1,p2,p3⟩:=zu fr.ok.wf RO;obtain⟨l1,l2,l3⟩:=fr.lt;have fr2:=fr.ext p2;have hgn:=fr.ok.nx;have ap:Ap (.slice r rn rc) rs (.slice x xn xc) g.next:=⟨λe=>by have:=l1 _ e;omega,λe=>by have:=l2 _ e;omega,λi v hv e=>by have:=l3 i v hv _ e;omega⟩
   obtain⟨s,hs⟩:=tC (M:=M) (i:=p) (by omega);have mbg:=cx.mb.ok fr2.ok;obtain⟨b,o,x',y,z,e1,e2,e3,e4,ar⟩:=cx.mb.row.at_ hs;refine⟨_,XV,_,He,u1,p1,_,bZ _,_,_,_,mbg.l3,_,e1,_,eo _ _,_,_,_,Jq fr2.ok e4,?_⟩;exact S9 cx hp hi200 g1 hWl hW hs ar hgn ap [] _ mz mz2 f2 _ s.bq.length (j:=0) ⟨by omega,by omega,fr2,RO,p3,.inl ⟨rfl,λa ha=>(by rw[List.take_zero]at ha;cases ha)⟩⟩
  ·have g1:=dF g1;have hD0:D.getD p (-1)=0:=by omega
   have op:=(Ok.refl fr.ok.wf).push (.cells [.slice x xn xc] 32 1 true);have hk:=bF g (.cells [.slice x xn xc] 32 1 true);obtain⟨b,n',c',u,a1,fr'⟩:=(fr.ext op).fin cx.w hk (by rw[fr.len,hws];have:=cx.hn;omega);refine⟨_,_,_,U9 _ _ _,b,n',c',u,a1,?_⟩;have hf:=hW [] (En cx.ds hD0);rw[append_nil]at hf;rw[ba hi (by have:=cx.hn;omega)];refine BL (n-(i+1)) (by omega) ⟨by omega,rfl,_,_,fr',by rw[List.length_append,List.length_singleton,hws],hF.snoc hws ⟨by omega,.inl hf⟩,λq hq=>?_⟩;rcases Nat.lt_or_ge q i with h|h
   ·exact hprev q h
   ·obtain rfl:q=i:=by omega
    exact hi200)
theorem QR{h:aa}(tb:qP h)(w:Wf h)(sm:Small M)(r:eK h (.slice a n c) M.aq):FW SS 7 [.agg ⟨dD M a n c⟩] h (Ng h M n):=by
 obtain⟨mb,ok⟩:=gr w r;refine QQ (dD M a n c) h _ ⟨_,jJ M a n c,_,mb.all,(QN (tb.ok ok) ok.wf sm mb.row).mono ?_⟩;rintro _ h5 ⟨rfl,o5⟩;have ok5:=ok.trans o5;have mb5:=mb.ok o5;refine⟨_,rfl,ae (λq=>?_) (λq=>?_)⟩
 ·exact⟨ok5,.inl ⟨by simpa using q,rfl⟩⟩
 ·have hc:Hs M=0:=by simpa using q
  have da:=Jb hc;refine⟨_,mb5.all,(QF ok5.wf sm da.gd mb5.row).mono ?_⟩;rintro _ hb ⟨kr,D,rfl,zr,ds⟩;have okb:=ok5.trans zr.row.ok;have mbb:=mb5.ok zr.row.ok;have hn:n<=300:=by rw[mb.len];exact sm.oO
  have cx:Cx hb M a n c h.next kr D:=⟨okb.wf,mbb,hn,zr.row.row,zr.len,ds,da,sm⟩
  refine⟨_,_,_,rfl,_,bZ _,_,_,_,mbb.l3,?_⟩;rw[hc];refine wN (dD M a n c) h.next n kr a n c (Zg hb M n D) _ (λmz i r rn rc=>?_) n (i:=0) (r:=none) (rn:=0) (rc:=0) ⟨zero_le _,rfl,[],[],⟨Ok.refl cx.w,dQ.nil _ _ _,rfl,λi v l h1=>by simp at h1,λi v h1=>by simp at h1,dQ.nil _ _ _,λk hk=>by simp[bG]at hk⟩,rfl,λq w hq=>absurd hq (Nat.not_lt_zero _),λq hq=>absurd hq (Nat.not_lt_zero _)⟩;intros;rename_i g hin;obtain⟨f1,f2,rs,ws,fr,hws,hF,h200⟩:=hin;refine ae (λg1=>?_) (λg1=>?_)
  ·have g1:=dT g1;have hi:i<n:=by omega
   obtain⟨x1,x2⟩:=cx.get fr.ok hi;refine⟨_,x1,_,x2,ae (λg2=>?_) (λg2=>⟨_,x1,_,x2,ae (λg3=>?_) (λg3=>?_)⟩)⟩
   ·have g2:=dT g2;have f0:=fr.zero 0;have op:=(Ok.refl f0.ok.wf).push (.cells [.slice (some ⟨g.next,0,none⟩) 1 1] 32 1 true);have hk:=bF (g.push (.cells [.int .i64 ((0:Nat):Int)] 3 1 true)) (.cells [.slice (some ⟨g.next,0,none⟩) 1 1] 32 1 true);obtain⟨b,n',c',u,a1,fr'⟩:=(f0.ext op).fin cx.w hk (by rw[fr.len,hws];omega);refine⟨_,_,_,yj _,_,_,_,U9 _ _ _,b,n',c',u,a1,?_⟩;rw[ba hi (by omega)];refine BL (n-(i+1)) (by omega) ⟨by omega,rfl,_,_,fr',by rw[List.length_append,List.length_singleton,hws],hF.snoc hws ⟨by simp,.inr ⟨rfl,(ds i).none g2⟩⟩,λq hq=>?_⟩;rcases Nat.lt_or_ge q i with h|h
    ·exact h200 q h
    ·obtain rfl:q=i:=by omega
     omega
   ·have g3:=dT g3;exact⟨okb.trans fr.ok,.inr ⟨hc,.inl ⟨⟨i,_,ds i,g3⟩,rfl⟩⟩⟩
   ·have g2:=dF g2;have g3:=dF g3;exact Ta cx hi (by omega) h200 hws hF [] mz f2 _ (D.getD i (-1)).toNat (p:=i) (x:=none) (xn:=0) (xc:=0) ⟨hi,by omega,rfl,[],fr,by simp,λw hw=>hw⟩
  ·have g1:=dF g1;obtain rfl:n=i:=by omega
   obtain⟨b,d,e1,e2⟩:=fr.out;rw[hws]at e1 e2;rw[e1];exact⟨okb.trans fr.ok,.inr ⟨hc,.inr ⟨b,d,ws,rfl,hws,e2,hF⟩⟩⟩
end
end
section
theorem Xe:dL SS.P 32=true:=by kernel_rfl
theorem OR{g:aa}{a:Option Addr}{m c:Nat}{vs:List Value}(r:Rd g 3 (.slice a m c) vs):fp g 1 (.slice a m c)=some (vs,vs.length):=by
 have hl:=r.len;rcases r with⟨h1,h2⟩|⟨k,off,cs,c',wr,h1,h2,h3⟩
 ·injection h1 with e1 e2 e3
  subst e1;subst e2;subst h2;rfl
 ·injection h1 with e1 e2 e3
  subst e1;unfold fp;dsimp only;rw[h2];dsimp only;rw[mul_one,e2,h3,if_pos rfl]
theorem Ke{hb g:aa}(w:Wf hb)(ok:Ok hb g){x kx:Nat}(hkx:g.get kx=some (.cells [.int .i64 (x:Int)] 3 1 true))(hk:hb.next<=kx){a:Option Addr}{m c:Nat}{l:List Nat}(r:Rd g 3 (.slice a m c) (l.map iv))(hl:l.length<=100000):
  ∃(b:Option Addr)(n' c':Nat)(u:cX),aO SS.P 32 32 (.slice (some ⟨kx,0,none⟩) 1 1) (.slice a m c) g=some (.slice b n' c',u)/\dQ hb (u.app g) 3 (.slice b n' c') ((x::l).map iv)/\Ok g (u.app g)/\(∀j,bG (.slice b n' c')=some j->g.next<=j\/j=kx):=by
 have o0:dQ hb g 3 (.slice (some ⟨kx,0,none⟩) ([x].map iv).length ([x].map iv).length) ([x].map iv):=dQ.built (vs:=[x].map iv) hkx hk (by show 1<bV;unfold bV;omega);have hsc:∀l:List Nat,(l.map iv).all di=true:=λl=>by
  rw[List.all_eq_true];intro v hv;obtain⟨y,_,rfl⟩:=mem_map.1 hv;rfl
 have hlm:(l.map iv).length=l.length:=lM _;by_cases e0:l=[]
 ·subst e0;refine⟨_,_,_,.no,?_,o0,Ok.refl ok.wf,λj hj=>?_⟩
  ·unfold aO;rw[ll];dsimp only;rw[DF];dsimp only;rw[if_pos Xe,tL,OR r];dsimp only;rw[if_pos ⟨hsc [],by simp⟩];rfl
  ·have:(some kx:Option Nat)=some j:=hj;exact .inr (oI this).symm
 ·have hlp:0<l.length:=List.length_pos_iff.2 e0;have hp:=((Ok.refl ok.wf).push (.cells ([.int .i64 (x:Int)]++l.map iv) 3 1 true))
  have hg:=bF g (.cells ([.int .i64 (x:Int)]++l.map iv) 3 1 true);refine⟨some ⟨g.next,0,none⟩,1+l.length,bV+(1+l.length),cX.push (bO.cells ([Value.int .i64 (x:Int)]++l.map iv) 3 1 true),?_,?_,hp,λj hj=>?_⟩
  ·unfold aO;rw[ll];dsimp only;rw[DF];dsimp only;rw[if_pos Xe,tL,OR r];dsimp only;rw[if_pos ⟨hsc l,by omega⟩,if_neg (by omega),if_neg (by unfold bn bV;rw[if_neg (by omega)];omega)];unfold ja;rw[if_pos (by rw[vh];omega),hkx];dsimp only;rw[if_pos ⟨rfl,rfl,rfl⟩,if_pos (by unfold bV;omega),hlm];rfl
  ·refine .inr ⟨g.next,0,_,bV+(1+l.length),?_,ok.nx,hg,?_,?_,?_⟩
   ·rw[lM,length_cons,Nat.add_comm l.length 1]
   ·rw[List.drop_zero,lM,length_cons];exact List.take_of_length_le (by simp[Nat.add_comm])
   ·unfold bn;rw[if_pos (by omega)];simp;omega
   ·unfold bn;rw[if_pos (by omega)];simp;omega
  ·have:(some g.next:Option Nat)=some j:=hj;exact .inl (Nat.le_of_eq (oI this))
structure Wl(hb:aa)(kl ko n:Nat)(vs:List Value)(L:List (List Nat))(O:List Bool)(g:aa):Prop where
 row:g.get kl=some (.cells vs 32 1 true)
 lv:vs.length=n
 lL:L.length=n
 wd:∀(i:Nat)(v:Value)(l:List Nat),vs[i]?=some v->L[i]?=some l->dQ hb g 3 v (l.map iv)
 out:∀(i:Nat)(v:Value),vs[i]?=some v->∀k,bG v=some k->k≠kl/\k≠ko
 br:BR hb ko n O g
 nk:hb.next<=kl
 ne:kl≠ko
section
variable {hb g:aa} {kl ko n:Nat} {vs:List Value} {L:List (List Nat)} {O:List Bool}
theorem Wl.ok(s:Wl hb kl ko n vs L O g):Ok hb g:=s.br.row.ok
theorem Wl.ext(s:Wl hb kl ko n vs L O g){g':aa}(o:Ok g g'):Wl hb kl ko n vs L O g':=
 ⟨o.ext _ _ s.row,s.lv,s.lL,λi v l h1 h2=>(s.wd i v l h1 h2).ok o,s.out,s.br.trans o,s.nk,s.ne⟩
theorem Wl.ld(s:Wl hb kl ko n vs L O g){q:Nat}(hq:q<n):∃(a:Option Addr)(c:Nat),af SS.P 27 (.slice (some ⟨kl,0,none⟩) n n) (.int .i64 (q:Int))=some (.pointer (some ⟨kl,q,none⟩))/\ai SS.P 32 g (.pointer (some ⟨kl,q,none⟩))=some (.slice a (L.getD q []).length c)/\vs[q]?=some (.slice a (L.getD q []).length c)/\Rd g 3 (.slice a (L.getD q []).length c) ((L.getD q []).map iv):=by
 have h1:=s.lv;have h2:=s.lL;obtain⟨v,hv⟩:∃v,vs[q]?=some v:=⟨_,gE (by omega)⟩
 obtain⟨l,hl⟩:∃l,L[q]?=some l:=⟨_,gE (by omega)⟩
 have e:L.getD q []=l:=by rw[gD,hl];rfl
 rw[e];have o:=s.wd q v l hv hl;obtain⟨a,c,rfl⟩:=o.L5;rw[lM]at*;refine⟨a,c,?_,?_,hv,o.rd⟩
 ·have:=Fw (P:=SS.P) LC wb (k:=kl) (off:=0) (n:=n) (c:=n) (ik:= .i64) (i:=(q:Int)) (by omega) (by omega);rw[this,toNat_natCast,Nat.zero_add,mul_one]
 ·rw[gG ll yc s.row (by omega),gD,hv];rfl
theorem Wl.get(s:Wl hb kl ko n vs L O g){q:Nat}(hq:q<n):af SS.P 49 (.slice (some ⟨ko,0,none⟩) n n) (.int .i64 (q:Int))=some (.pointer (some ⟨ko,q,none⟩))/\ai SS.P 4 g (.pointer (some ⟨ko,q,none⟩))=some (.bool (O.getD q false)):=by
 obtain⟨r1,r2,_⟩:=s.br.get (c:=n) (x:=(q:Int)) (by omega) (by omega);rw[toNat_natCast]at r1 r2;exact⟨r1,r2⟩
theorem Wl.put(w:Wf hb)(s:Wl hb kl ko n vs L O g){q:Nat}(hq:q<n){x:Option Addr}{xn xc:Nat}{W:List Nat}(ox:dQ hb g 3 (.slice x xn xc) (W.map iv))(hx:∀k,bG (.slice x xn xc)=some k->k≠kl/\k≠ko):
  ∃u:cX,aw SS.P 32 (.pointer (some ⟨kl,q,none⟩)) (.slice x xn xc) g=some (undef,u)/\Wl hb kl ko n (vs.set q (.slice x xn xc)) (L.set q W) O (u.app g):=by
 refine⟨_,vr wb s.row (by rw[s.lv];exact hq) (mo _ _ _) rfl,?_⟩;have hset:∀j,j≠kl->((cX.set kl (.cells (vs.set q (.slice x xn xc)) 32 1 true)).app g).get j=g.get j:=λj hj=>by
  show(g.set kl _).get j=_;rw[aa.aX,if_neg hj]
 have ok':Ok hb ((cX.set kl (.cells (vs.set q (.slice x xn xc)) 32 1 true)).app g):=s.ok.set _ s.nk (s.ok.wf _ _ s.row) w;refine⟨?_,by rw[List.length_set];exact s.lv,by rw[List.length_set];exact s.lL,λi v l h1 h2=>?_,λi v h1 k hk=>?_,⟨s.br.len,?_,s.br.row.new,ok'⟩,s.nk,s.ne⟩
 ·show(g.set kl _).get kl=_;rw[aa.aX,if_pos rfl]
 ·rcases cL h1 with⟨e1,rfl⟩|⟨e1,h3⟩
  ·rcases cL h2 with⟨_,rfl⟩|⟨e2,_⟩
   ·exact ox.fc λk B hk hB=>by rw[hset k (hx k hk).1];exact hB
   ·exact absurd e1 e2
  ·rcases cL h2 with⟨e2,_⟩|⟨_,h4⟩
   ·exact absurd e2 e1
   ·exact(s.wd i v l h3 h4).fc λk B hk hB=>by rw[hset k (s.out i v h3 k hk).1];exact hB
 ·rcases cL h1 with⟨e1,rfl⟩|⟨e1,h3⟩
  ·exact hx k hk
  ·exact s.out i v h3 k hk
 ·rw[hset _ (λe=>s.ne e.symm)];exact s.br.row.row
theorem Wl.mark(w:Wf hb)(s:Wl hb kl ko n vs L O g){q:Nat}(hq:q<n):
  ∃u:cX,aw SS.P 4 (.pointer (some ⟨ko,q,none⟩)) (.bool true) g=some (undef,u)/\Wl hb kl ko n vs L (O.set q true) (u.app g):=by
 obtain⟨_,_,r3⟩:=s.br.get (c:=n) (x:=(q:Int)) (by omega) (by omega);rw[toNat_natCast]at r3;obtain⟨u,s1,s2,s3⟩:=r3 true w;exact⟨u,s1,s3 _ _ s.row s.ne,s.lv,s.lL,λi v l h1 h2=>(s.wd i v l h1 h2).fc λk B hk hB=>s3 k B hB (s.out i v h1 k hk).2,s.out,s2,s.nk,s.ne⟩
end
end
section
structure Rx(hb:aa)(M:bA)(a:Option Addr)(n c k:Nat):Prop where
 w:Wf hb
 mb:MB hb k M a n c
 hn:n<=300
 da:JP M
 sm:Small M
theorem Rx.sym{hb:aa}{M:bA}{a:Option Addr}{n c k:Nat}(x:Rx hb M a n c k):∀q y t,(y,t)∈aN M q->1<=y/\y<501:=λq y t h=>by
 obtain⟨s,h1,a',h2,h3,_⟩:=jR.1 h;have hs:=List.mem_of_getElem? h1;have:=x.da.pos s hs a' h2;have:=(x.da.gd.bq s hs a' h2).i1;omega
theorem Rx.lt{hb:aa}{M:bA}{a:Option Addr}{n c k:Nat}(x:Rx hb M a n c k):∀q y t,(y,t)∈aN M q->q<n/\t<n:=λq y t h=>by
 obtain⟨s,h1,a',h2,_,h4⟩:=jR.1 h;have h3:=x.da.gd.bq s (List.mem_of_getElem? h1) a' h2;have h5:=(List.getElem?_eq_some_iff.1 h1).1;have:=h3.t0;have:=h3.t1;have:=x.mb.len;exact⟨by omega,by omega⟩
def q8(s:lA)(L:List (List Nat))(O:List Bool)(j:Nat)(w:List Nat):Prop:=(w=[]/\s.f≠[])\/ ∃a∈s.bq.take j,O.getD a.t.toNat false=true/\w=a.i.toNat::L.getD a.t.toNat []
theorem Hr{M:bA}{q j:Nat}{s:lA}(hs:M.aq[q]?=some s)(hj:s.bq.length<=j){L:List (List Nat)}{O:List Bool}{w:List Nat}:q8 s L O j w↔rP (aN M) (fN M) L O q w:=by
 unfold q8 rP;rw[List.take_of_length_le hj];refine or_congr (and_congr_right λ_=>⟨λh=>⟨s,hs,h⟩,λ⟨s',h1,h2⟩=>?_⟩) ⟨λ⟨a,h1,h2,h3⟩=>⟨_,_,jR.2 ⟨s,hs,a,h1,rfl,rfl⟩,h2,h3⟩,λ⟨x,t,h1,h2,h3⟩=>?_⟩
 ·rw[hs]at h1;rw[oI h1];exact h2
 ·obtain⟨s',e1,a,e2,e3,e4⟩:=jR.1 h1;rw[hs]at e1;obtain rfl:=oI e1;exact⟨a,e2,by rw[e4];exact h2,by rw[e3,e4];exact h3⟩
theorem jM{s:lA}{L:List (List Nat)}{O:List Bool}{j:Nat}{a:dO}(ha:s.bq[j]?=some a){w:List Nat}:q8 s L O (j+1) w↔q8 s L O j w\/(O.getD a.t.toNat false=true/\w=a.i.toNat::L.getD a.t.toNat []):=by
 unfold q8;rw[Cr ha];constructor
 ·rintro(h|⟨b,h1,h2⟩)
  ·exact .inl (.inl h)
  ·rcases mem_append.1 h1 with c|c
   ·exact .inl (.inr ⟨b,c,h2⟩)
   ·rw[mem_singleton]at c;subst c;exact .inr h2
 ·rintro((h|⟨b,h1,h2⟩)|h)
  ·exact .inl h
  ·exact .inr ⟨b,mem_append_left _ h1,h2⟩
  ·exact .inr ⟨a,List.mem_append_right _ (List.mem_singleton_self _),h⟩
def Bw(s:lA)(L:List (List Nat))(O:List Bool)(j:Nat)(is:Bool)(W:List Nat):Prop:=(is=true->q8 s L O j W)/\∀w,q8 s L O j w->is=true/\¬dG w W
section
variable {hb:aa} {M:bA} {a:Option Addr} {n c k kl ko:Nat} {vs:List Value} {L:List (List Nat)} {O:List Bool}
def ZH(hb:aa)(kl ko n:Nat)(vs:List Value)(L:List (List Nat))(O:List Bool)(s:lA)(mz3:Nat)(x:Option Addr)(xn xc:Nat)(is:Bool)(j:Nat)(g:aa):Prop:=j<=s.bq.length/\mz3=s.bq.length-j/\Wl hb kl ko n vs L O g/\∃W,dQ hb g 3 (.slice x xn xc) (W.map iv)/\(∀k,bG (.slice x xn xc)=some k->k≠kl/\k≠ko)/\W.length<=1000/\Bw s L O j is W
def XB(hb:aa)(M:bA)(n kl ko m0:Nat)(mz2:Nat)(ag:Bool)(q:Nat)(g:aa):Prop:=q<=n/\mz2=n-q/\∃vs L O,Wl hb kl ko n vs L O g/\wo (aN M) (fN M) n 501 L O/\(ag=false->ph n 501 L O=m0/\∀p,p<q->xH (aN M) (fN M) L O p)/\(ag=true->ph n 501 L O<m0)
set_option linter.defProp false in
def Rf(rx:Rx hb M a n c k)(li:wo (aN M) (fN M) n 501 L O){q:Nat}(hq:q<n){s:lA}(hs:M.aq[q]?=some s){ag:Bool}(m0:Nat)(hag:(ag=false->ph n 501 L O=m0/\∀p,p<q->xH (aN M) (fN M) L O p)/\(ag=true->ph n 501 L O<m0))(mv:List Value)(Inv:Nat->Bool->aa->Prop)(mz mz2:Nat)(hmz2:mz2=n-q)(Q:VH):=
 ve mv k n kl ko Inv mz (XB hb M n kl ko m0) mz2 ag q (ZH hb kl ko n vs L O s) Q (by
  intro mz3 x xn xc is j;intros;rename_i g hin;obtain⟨f1,f2,wl,W,ox,hx,hWl,bw⟩:=hin;have mbg:=rx.mb.ok wl.ok;obtain⟨b,o,x',y,z,e1,e2,e3,e4,ar⟩:=mbg.row.at_ hs;have hm:=ar.len;have hsM:=List.mem_of_getElem? hs;have hsl:=rx.sm.bq s hsM;have lens:∀t,O.getD t false=true->(L.getD t []).length<=300:=λt ht=>by have:=li.uF t ht;have:=rx.hn;omega
  have hkl:kl<g.next:=wl.ok.wf _ _ wl.row;have hko:ko<g.next:=wl.br.row.lt;refine⟨_,bZ _,_,_,_,mbg.l3,_,e1,_,eo _ _,_,_,_,e4,ae (λg1=>?_) (λg1=>?_)⟩
  ·have g1:=dT g1;obtain⟨qa,hqa⟩:∃qa,s.bq[j]?=some qa:=⟨_,gE (by omega)⟩
   obtain⟨bb,oo,d1,d2,_⟩:=ar.at_ hqa;have hin:=rx.da.gd.bq s hsM qa (List.mem_of_getElem? hqa);have hps:=rx.da.pos s hsM qa (List.mem_of_getElem? hqa);obtain⟨T,hT⟩:∃T:Nat,qa.t=(T:Int):=⟨qa.t.toNat,by have:=hin.t0;omega⟩
   obtain⟨X,hX⟩:∃X:Nat,qa.i=(X:Int):=⟨qa.i.toNat,by omega⟩
   have hTn:T<n:=by have:=hin.t1;have:=rx.mb.len;omega
   have hTq:qa.t.toNat=T:=by omega
   have hXq:qa.i.toNat=X:=by omega
   have hj1:j+1<=s.bq.length:=by omega
   have hj2:mz3-1=s.bq.length-(j+1):=by omega
   have hj3:mz3-1<mz3:=by omega
   obtain⟨u1,p1,p2,p3⟩:=zu wl.ok.wf qa;have wl2:=wl.ext p2;have ox2:=ox.ok p2;have hgn2:=p2.nx;refine⟨_,bZ _,_,_,_,mbg.l3,_,e1,_,eo _ _,_,_,_,e4,_,d1,_,d2,_,He,u1,p1,?_⟩;generalize u1.app (g.push JO)=g2 at*;have l3:∀g',AB g' g.next qa->ai SS.P 3 g' (.pointer (some ⟨g.next,0+3,none⟩))=some (.int .i64 (T:Int)):=λg' h=>by rw[<-hT];exact AB.l3 h
   have l0:∀g',AB g' g.next qa->ai SS.P 3 g' (.pointer (some ⟨g.next,0+0,none⟩))=some (.int .i64 (X:Int)):=λg' h=>by rw[<-hX];exact AB.l0 h
   obtain⟨z1,z2⟩:=wl2.get hTn;refine⟨_,mY _ _,_,l3 _ p3,_,z1,_,z2,?_⟩;dsimp only;rw[ba (i:=j) (n:=y) (by omega) (by omega)];refine ae (λq1=>?_) (λq1=>?_)
   ·have q1:O.getD T false=false:=by simpa using q1
    refine jw (mz3-1) hj3 ⟨hj1,hj2,wl2,W,ox2,hx,hWl,λh=>(jM hqa).2 (.inl (bw.1 h)),λw hw=>?_⟩;rcases(jM hqa).1 hw with h|⟨h,_⟩
    ·exact bw.2 w h
    ·rw[hTq,q1]at h;cases h
   ·have q1:O.getD T false=true:=by simpa using q1
    have w2:=wl2.ok.wf;have oR:=(Ok.refl w2).room 10;obtain⟨o2,k2⟩:=Jz w2 (n:=10) (j:=2) (by omega) (.cells [.int .i64 (X:Int)] 3 1 true);have wlR:=wl2.ext oR;obtain⟨ra,rc,y1,y2,y3,y4⟩:=wlR.ld hTn;have wlS:=wl2.ext o2;have oxS:=ox2.ok o2;obtain⟨ra',rc',_,_,y3',y4'⟩:=wlS.ld hTn;rw[y3]at y3';injection y3' with y3'
    injection y3' with i1 i2 i3
    subst i1;subst i3;have hlT:=lens T q1;obtain⟨b',n',c',u,a1,on,ok',nb⟩:=Ke rx.w wlS.ok k2 (by have:=wl2.ok.nx;omega) y4' (by omega);refine⟨_,je _ _,_,l0 _ (p3.ok oR),_,_,_,yj _,_,mY _ _,_,l3 _ (p3.ok oR),_,y1,_,_,_,y2,b',n',c',u,a1,?_⟩;have hSn:g2.next<=(bj (Go.Ab.room g2 10) g2.next [(2,.cells [.int .i64 (X:Int)] 3 1 true)]).next:=o2.nx;generalize bj (Go.Ab.room g2 10) g2.next [(2,.cells [.int .i64 (X:Int)] 3 1 true)]=S at*;have wl3:=wlS.ext ok';have ox3:=oxS.ok ok';have hx':∀k,bG (.slice b' n' c')=some k->k≠kl/\k≠ko:=λk hk=>by
     rcases nb k hk with h|h
     ·exact⟨by omega,by omega⟩
     ·exact⟨by omega,by omega⟩
    have cn:q8 s L O (j+1) (X::L.getD T []):=(jM hqa).2 (.inr ⟨by rw[hTq];exact q1,by rw[hTq,hXq]⟩);have tk:∀{P:Prop},(∀w,q8 s L O j w->¬dG w (X::L.getD T []))->Bw s L O (j+1) true (X::L.getD T []):=λ{P} h=>⟨λ_=>cn,λw hw=>⟨rfl,by
     rcases(jM hqa).1 hw with h1|⟨_,h1⟩
     ·exact h w h1
     ·rw[h1,hTq,hXq];exact Ba⟩⟩
    refine ae (λq2=>?_) (λq2=>?_)
    ·have q2:is=false:=by simpa using q2
     exact jw (mz3-1) hj3 ⟨hj1,hj2,wl3,_,on,hx',by rw[length_cons];omega,tk (P:=True) λw hw=>by have:=(bw.2 w hw).1;rw[q2]at this;cases this⟩
    ·have q2:is=true:=by simpa using q2
     refine(MJ wl3.ok.wf on.rd ox3.rd (by rw[length_cons];omega) (by omega)).mono ?_;rintro _ g4 ⟨rfl,o4⟩;have wl4:=wl3.ext o4;refine⟨_,rfl,ae (λq3=>?_) (λq3=>?_)⟩
     ·have q3:=qq.1 (dT q3);refine jw (mz3-1) hj3 ⟨hj1,hj2,wl4,_,on.ok o4,hx',by rw[length_cons];omega,tk (P:=True) λw hw h=>?_⟩;exact(bw.2 w hw).2 (vB h q3)
     ·have q3:¬dG (X::L.getD T []) W:=λh=>dF q3 (qq.2 h);refine jw (mz3-1) hj3 ⟨hj1,hj2,wl4,W,ox3.ok o4,hx,hWl,λh=>(jM hqa).2 (.inl (bw.1 h)),λw hw=>?_⟩;rcases(jM hqa).1 hw with h1|⟨_,h1⟩
      ·exact bw.2 w h1
      ·rw[h1,hTq,hXq];exact⟨q2,q3⟩
  ·have g1:=dF g1;have hc:∀{w},q8 s L O j w↔rP (aN M) (fN M) L O q w:=λ{w}=>Hr hs (by omega);have hn:=rx.hn;have hw:=ba hq (by omega:n<=1000000000);have IM:is=true->(O.getD q false=true->dG W (L.getD q []))->∀g',Ok g g'->xP (af SS.P 27 (.slice (some ⟨kl,0,none⟩) n n) (.int .i64 (q:Int))) λp79=>xU (aw SS.P 32 (.pointer (some p79)) (.slice x xn xc) g') g' λu80 g81=>xP (af SS.P 49 (.slice (some ⟨ko,0,none⟩) n n) (.int .i64 (q:Int))) λp82=>xU (aw SS.P 4 (.pointer (some p82)) (.bool true) g81) g81 λu83 g84=>∃mz',mz'<mz2/\XB hb M n kl ko m0 mz' true (q+1) g84:=λhis hlt g' og=>by
    have wl':=wl.ext og;obtain⟨ra,rc,y1,_⟩:=wl'.ld hq;obtain⟨u,s1,s2⟩:=wl'.put rx.w hq (ox.ok og) hx;obtain⟨z1,_⟩:=s2.get hq;obtain⟨u2,t1,t2⟩:=s2.mark rx.w hq;obtain⟨l1,l2⟩:=li.IM rx.sym (by decide) hq (hc.1 (bw.1 his)) hlt;refine⟨_,y1,u,s1,_,z1,u2,t1,n-(q+1),by omega,by omega,rfl,_,_,_,t2,l1,⟨λh=>(by cases h),λ_=>?_⟩⟩;have hm0:ph n 501 L O<=m0:=by
     cases ag with
     |true=>exact Nat.le_of_lt (hag.2 rfl)
     |false=>exact Nat.le_of_eq (hag.1 rfl).1
    omega
   have fc:(xH (aN M) (fN M) L O q)->∀g',Ok g g'->XB hb M n kl ko m0 (n-(q+1)) ag (q+1) g':=λhst g' og=>by
    refine⟨by omega,rfl,vs,L,O,wl.ext og,li,λh=>⟨(hag.1 h).1,λp hp=>?_⟩,hag.2⟩;rcases Nat.lt_or_ge p q with h1|h1
    ·exact(hag.1 h).2 p h1
    ·obtain rfl:p=q:=by omega
     exact hst
   rw[hw];have okg:=Ok.refl wl.ok.wf;refine ae (λq1=>?_) (λq1=>?_)
   ·obtain⟨z1,z2⟩:=wl.get hq;refine⟨_,z1,_,z2,ae (λq2=>?_) (λq2=>?_)⟩
    ·have q2:O.getD q false=false:=by simpa using q2
     obtain⟨c1,h1,c2,h2,c3,h3,c4,h4,mz',h5,h6⟩:=IM q1 (λh=>by rw[q2]at h;cases h) g okg;exact⟨c1,h1,c2,h2,c3,h3,c4,h4,iN mz' h5 h6⟩
    ·have q2:O.getD q false=true:=by simpa using q2
     obtain⟨ra,rc,y1,y2,y3,y4⟩:=wl.ld hq;have hlq:=lens q q2;refine⟨_,y1,_,_,_,y2,(MJ wl.ok.wf ox.rd y4 (by omega) (by omega)).mono ?_⟩;rintro _ g4 ⟨rfl,o4⟩;refine⟨_,rfl,ae (λq3=>?_) (λq3=>?_)⟩
     ·have q3:=qq.1 (dT q3);obtain⟨c1,h1,c2,h2,c3,h3,c4,h4,mz',h5,h6⟩:=IM q1 (λ_=>q3) g4 o4;exact⟨c1,h1,c2,h2,c3,h3,c4,h4,iN mz' h5 h6⟩
     ·have q3:¬dG W (L.getD q []):=λh=>dF q3 (qq.2 h);refine iN (n-(q+1)) (by omega) (fc (λw hw=>⟨q2,?_⟩) g4 o4);exact vz (bw.2 w (hc.2 hw)).2 q3
   ·refine iN (n-(q+1)) (by omega) (fc (λw hw=>?_) g okg);have:=(bw.2 w (hc.2 hw)).1;rw[q1]at this;cases this)
end
end
section
section
variable {hb:aa} {M:bA} {a:Option Addr} {n c k kl ko:Nat} {vs:List Value} {L:List (List Nat)} {O:List Bool}
def Zm(hb:aa)(M:bA)(n kl ko:Nat)(mz:Nat)(ag:Bool)(g:aa):Prop:=∃vs L O,Wl hb kl ko n vs L O g/\wo (aN M) (fN M) n 501 L O/\(ag=false->∀p,p<n->xH (aN M) (fN M) L O p)/\ph n 501 L O+(if ag then 1 else 0)<=mz
set_option linter.defProp false in
def Ue(rx:Rx hb M a n c k)(mv:List Value)(mz m0:Nat)(hm:m0+1<=mz)(Q:VH):=
 vd mv k n kl ko (Zm hb M n kl ko) mz (XB hb M n kl ko m0) Q (by
  intro mz2 ag q;intros;rename_i g hin;obtain⟨f1,f2,vs,L,O,wl,li,h1,h2⟩:=hin;have mbg:=rx.mb.ok wl.ok;have hl:=rx.mb.len;refine⟨_,bZ _,_,_,_,mbg.l3,ae (λg1=>?_) (λg1=>?_)⟩
  ·have g1:=dT g1;have hq:q<n:=by omega
   obtain⟨s,hs⟩:=tC (M:=M) (i:=q) (by omega);obtain⟨b,o,x',y,z,e1,e2,e3,e4,ar⟩:=mbg.row.at_ hs;refine⟨_,bZ _,_,_,_,mbg.l3,_,e1,_,uR _ _,_,e3,?_⟩;refine Rf rx li hq hs m0 ⟨h1,h2⟩ [] _ mz mz2 f2 _ s.bq.length (x:=none) (xn:=0) (xc:=0) (j:=0) ⟨zero_le _,rfl,wl,[],dQ.nil _ _ _,λk hk=>by simp[bG]at hk,by simp,λh=> .inl ⟨rfl,by simpa using h⟩,λw hw=>?_⟩;rcases hw with⟨rfl,h⟩|⟨a',h3,_⟩
   ·exact⟨by simpa using h,Ba⟩
   ·rw[List.take_zero]at h3;cases h3
  ·have g1:=dF g1;obtain rfl:n=q:=by omega
   cases ag with
   |true=>exact cH (ph n 501 L O+1) (by have:=h2 rfl;omega) ⟨vs,L,O,wl,li,λh=>(by cases h),Nat.le_refl _⟩
   |false=>exact cH m0 (by omega) ⟨vs,L,O,wl,li,(λ_=>(h1 rfl).2),by rw[(h1 rfl).1];exact Nat.le_refl _⟩)
def X9(h:aa)(M:bA)(n:Nat):VH:=λv h'=>∃hb kl ko vs L O,v = .tuple ⟨[.slice (some ⟨kl,0,none⟩) n n,.slice (some ⟨ko,0,none⟩) n n]⟩/\Ok h hb/\Wl hb kl ko n vs L O h'/\∀q,(O.getD q false=true/\cE (aN M) (fN M) q (L.getD q [])/\(L.getD q []).length<=300)\/(O.getD q false=false/\∀v,¬gj (aN M) (fN M) q v)
theorem Of{h:aa}(w:Wf h)(sm:Small M)(da:JP M)(r:eK h (.slice a n c) M.aq):FW SS 20 [.agg ⟨dD M a n c⟩] h (X9 h M n):=by
 obtain⟨mb,ok⟩:=gr w r;have hl:=mb.len;have hn:n<=300:=by rw[hl];exact sm.oO
 refine Oe (dD M a n c) h _ ⟨_,jJ M a n c,_,bZ _,_,_,_,mb.l3,_,_,_,Sb n (by omega),?_⟩;generalize h.push (Bm M a n c)=hb at*;have w0:=ok.wf;have rx:Rx hb M a n c h.next:=⟨w0,mb,hn,da,sm⟩
 have o1:=(Ok.refl w0).push (Cw n);have k1:=bF hb (Cw n);have mb1:=mb.ok o1;have e1:(hb.push (Cw n)).next=hb.next+1:=rfl;generalize hb.push (Cw n)=g1 at*;have b0:=(BR.new o1.wf n)
 have k2:=b0.row.ok.ext _ _ k1;refine⟨_,bZ _,_,_,_,mb1.l3,_,_,_,VS n (by omega),?_⟩;have okb:=o1.trans b0.row.ok;generalize g1.push (.cells ((List.replicate n false).map Value.bool) 4 1 true)=g2 at*;have hrep:∀{i:Nat}{v:Value},(List.replicate n zh)[i]?=some v->v=zh:=λ{i v} hl=>by
  rw[List.getElem?_replicate]at hl;split at hl
  ·exact(oI hl).symm
  ·cases hl
 have hrepF:∀{i:Nat}{l:List Nat},(List.replicate n ([]:List Nat))[i]?=some l->l=[]:=λ{i l} hl=>by
  rw[List.getElem?_replicate]at hl;split at hl
  ·exact(oI hl).symm
  ·cases hl
 have wl:Wl hb hb.next g1.next n (List.replicate n zh) (List.replicate n []) (List.replicate n false) g2:=
  ⟨k2,List.length_replicate,List.length_replicate,λi v l h1 h2=>by rw[hrep h1,hrepF h2];exact dQ.nil _ _ _,λi v h1 k hk=>(by rw[hrep h1]at hk;cases hk),⟨b0.len,b0.row.row,by have:=b0.row.new;omega,okb⟩,Nat.le_refl _,by omega⟩
 refine vc (dD M a n c) h.next n hb.next g1.next (Zm hb M n hb.next g1.next) _ (λmz ag=>?_) (ph n 501 (List.replicate n []) (List.replicate n false)+1) (ag:=true) ⟨_,_,_,wl,wo.start,λh=>(by cases h),Nat.le_refl _⟩;intros;rename_i g hin;obtain⟨vs,L,O,wl,li,h1,h2⟩:=hin;refine ae (λq1=>?_) (λq1=>?_)
 ·subst q1;refine Ue rx [] mz (ph n 501 L O) (by simpa using h2) _ n (ag:=false) (q:=0) ⟨zero_le _,rfl,vs,L,O,wl,li,λ_=>⟨rfl,λp hp=>absurd hp (Nat.not_lt_zero _)⟩,λh=>by cases h⟩
 ·have st:=h1 q1;refine⟨hb,hb.next,g1.next,vs,L,O,rfl,ok,wl,λq=>?_⟩;rcases li.first (λq hq=>by
    obtain⟨s,h,_⟩:=hq;rw[hl];exact(List.getElem?_eq_some_iff.1 h).1) (λq x t hx=>(rx.lt q x t hx).1) st q with⟨c1,c2⟩|c1
  ·exact .inl ⟨c1,c2,by have:=li.uF q c1;omega⟩
  ·exact .inr c1
def ZG(hb:aa)(M:bA)(kl ko n:Nat)(O0:List Bool)(mz q:Nat)(g:aa):Prop:=q<=n/\mz=n-q/\∃vs L,Wl hb kl ko n vs L O0 g/\fA M q L/\∀p,q<=p->(O0.getD p false=true/\cE (aN M) (fN M) p (L.getD p []))\/(O0.getD p false=false/\∀v,¬gj (aN M) (fN M) p v)
theorem fA.next{q:Nat}(f:fA M q L){w:List Nat}(hw:L[q]?=some w)(h:w.length<=200/\(cE (aN M) (fN M) q w\/(w=[0]/\∀v,¬gj (aN M) (fN M) q v))):fA M (q+1) L:=by
 intro p u hp hu;by_cases e:p=q
 ·subst e;rw[hw]at hu;rw[<-oI hu];exact h
 ·exact f p u (by omega) hu
theorem Re{h:aa}(w:Wf h)(sm:Small M)(r:eK h (.slice a n c) M.aq):FW SS 8 [.agg ⟨dD M a n c⟩] h (Ng h M n):=by
 obtain⟨mb,ok⟩:=gr w r;have hl:=mb.len;have hn:n<=300:=by rw[hl];exact sm.oO
 refine Rc (dD M a n c) h _ ⟨_,jJ M a n c,_,mb.all,(Q9 ok.wf sm mb.row).mono ?_⟩;rintro _ h5 ⟨rfl,o5⟩;have ok5:=ok.trans o5;have mb5:=mb.ok o5;refine⟨_,rfl,ae (λq=>?_) (λq=>?_)⟩
 ·exact⟨ok5,.inl ⟨by simpa using q,rfl⟩⟩
 ·have hc:Hs M=0:=by simpa using q
  have da:=Jb hc;refine⟨_,mb5.all,(Of ok5.wf sm da mb5.row).mono ?_⟩;rintro _ h9 ⟨hb,kl,ko,vs,L,O,rfl,okb,wl,hL⟩;have okh:=ok5.trans okb;refine⟨_,_,_,_,_,_,rfl,?_⟩;rw[hc];refine wX (dD M a n c) h.next n kl ko (ZG hb M kl ko n O) _ (λmz q=>?_) n (q:=0) ⟨zero_le _,rfl,vs,L,wl,λp u hp=>absurd hp (Nat.not_lt_zero _),λp _=>(hL p).imp (λc=>⟨c.1,c.2.1⟩) id⟩;intros;rename_i g hin;obtain⟨f1,f2,vs,L,wl,fw,hL⟩:=hin;refine ae (λg1=>?_) (λg1=>?_)
  ·have g1:=dT g1;have hq:q<n:=by omega
   obtain⟨z1,z2⟩:=wl.get hq;have hw:=ba hq (by omega:n<=1000000000);refine⟨_,z1,_,z2,ae (λg2=>?_) (λg2=>?_)⟩
   ·have g2:O.getD q false=false:=by simpa using g2
    have dead:∀v,¬gj (aN M) (fN M) q v:=by
     rcases hL q (Nat.le_refl _)with⟨c1,_⟩|⟨_,c2⟩
     ·rw[g2]at c1;cases c1
     ·exact c2
    have op:=(Ok.refl wl.ok.wf).push (.cells [.int .i64 ((0:Nat):Int)] 3 1 true);have hk:=bF g (.cells [.int .i64 ((0:Nat):Int)] 3 1 true);have wl2:=wl.ext op;have o0:dQ hb (g.push (.cells [.int .i64 ((0:Nat):Int)] 3 1 true)) 3 (.slice (some ⟨g.next,0,none⟩) ([0].map iv).length ([0].map iv).length) ([0].map iv):=dQ.built (vs:=[0].map iv) hk wl.ok.nx (by show 1<bV;unfold bV;omega);have hkl:kl<g.next:=wl.ok.wf _ _ wl.row;have hko:ko<g.next:=wl.br.row.lt;have hx:∀k,bG (.slice (some ⟨g.next,0,none⟩) 1 1)=some k->k≠kl/\k≠ko:=λk hk=>by
     have:(some g.next:Option Nat)=some k:=hk;have:=oI this;exact⟨by omega,by omega⟩
    obtain⟨ra,rc,y1,_⟩:=wl2.ld hq;obtain⟨u,s1,s2⟩:=wl2.put okb.wf hq o0 hx;obtain⟨ra',rc',x1,x2,_⟩:=s2.ld hq;have hqL:q<L.length:=by rw[wl.lL];exact hq
    have e0:(L.set q [0]).getD q []=[0]:=by rw[pe L q q _ hqL,if_pos rfl]
    rw[e0]at x2;refine⟨_,_,_,yj _,_,y1,u,s1,_,x1,_,_,_,x2,ae (λg3=>?_) (λg3=>?_)⟩
    ·simp at g3
    ·rw[hw];refine cH (mz-1) (by omega) ⟨by omega,by omega,_,_,s2,fA.next (λp u hp hu=>?_) (by rw[List.getElem?_set,if_pos rfl,if_pos hqL]) ⟨by simp,.inr ⟨rfl,dead⟩⟩,λp hp=>?_⟩
     ·rw[List.getElem?_set,if_neg (by omega)]at hu;exact fw p u hp hu
     ·rw[pe L q p _ hqL,if_neg (by omega)];exact hL p (by omega)
   ·have g2:O.getD q false=true:=by simpa using g2
    have fq:cE (aN M) (fN M) q (L.getD q []):=by
     rcases hL q (Nat.le_refl _)with⟨_,c2⟩|⟨c1,_⟩
     ·exact c2
     ·rw[g2]at c1;cases c1
    obtain⟨ra,rc,x1,x2,_⟩:=wl.ld hq;refine⟨_,x1,_,_,_,x2,ae (λg3=>?_) (λg3=>?_)⟩
    ·have g3:=dT g3;exact⟨okh.trans wl.ok,.inr ⟨hc,.inl ⟨⟨q,_,fq.SU,by omega⟩,rfl⟩⟩⟩
    ·have g3:=dF g3;rw[hw];have hqL:q<L.length:=by rw[wl.lL];exact hq
     refine cH (mz-1) (by omega) ⟨by omega,by omega,vs,L,wl,fw.next (w:=L.getD q []) (by rw[gD,gE hqL];rfl) ⟨by omega,.inl fq⟩,λp hp=>hL p (by omega)⟩
  ·have g1:=dF g1;obtain rfl:n=q:=by omega
   have hlL:=wl.lL;refine⟨okh.trans wl.ok,.inr ⟨hc,.inr ⟨_,_,L,rfl,hlL,⟨hlL,vs,.inr ⟨kl,0,_,n,true,by rw[wl.lv],wl.row,by rw[List.drop_zero,List.take_length]⟩,wl.lv,λi l hi=>?_⟩,fw⟩⟩⟩;obtain⟨v,hv⟩:∃v,vs[i]?=some v:=⟨_,gE (by have:=(List.getElem?_eq_some_iff.1 hi).1;have:=wl.lv;omega)⟩
   have o:=wl.wd i v l hv hi;obtain⟨a',c',rfl⟩:=o.L5;exact⟨a',_,c',hv,o.rd⟩
end
end
section
def EQ(h:aa):VH:=λv g=>v = .bool true/\Ok h g
structure Su(M:bA):Prop where
 lead:M.lead.length<=281474976710656
 fin:∀s∈M.aq,s.f.length<=281474976710656
 w:∀s∈M.aq,∀q∈s.bq,q.w.length<=281474976710656
theorem OP{M:bA}(st:Su M)(q:VO M=false):Small M:=by
 unfold VO at q;rw[Bool.or_eq_false_iff,decide_eq_false_iff_not,decide_eq_false_iff_not]at q;exact⟨st.lead,by omega,st.fin,λs hs=>by have:=FN hs;omega,st.w,by omega⟩
theorem VQ:SS.pr 6=some (Cf [([],.bool true)]):=by kernel_rfl
theorem RY{h g:aa}(ok:Ok h g):FW SS 6 [] g λv h'=>yB v λb=>EQ h (.bool b) h':=
 C0 (by unfold YB;decide) VQ (v:= .bool true) (h':=g) (λ_=>rfl) ⟨true,rfl,rfl,ok⟩
theorem P0{M:bA}{q:Nat}{d:Int}(hd:lJ (aN M) (fN M) q d)(h:200<d):q<M.aq.length:=by
 obtain⟨w,hw,_⟩:=hd.some (by omega)
 match w,hw with
 |[],⟨s,h1,_⟩=>exact(List.getElem?_eq_some_iff.1 h1).1
 |x::w,⟨t,h1,_⟩=>
  obtain⟨s,h2,_⟩:=jR.1 h1;exact(List.getElem?_eq_some_iff.1 h2).1
theorem Jr{M:bA}{q:Nat}{d:Int}{ws:List (List Nat)}(hd:lJ (aN M) (fN M) q d)(h:200<d)(l:ws.length=M.aq.length)(f:fA M M.aq.length ws):False:=by
 have hq:=P0 hd h;obtain⟨w,hw⟩:∃w,ws[q]?=some w:=⟨_,gE (by omega)⟩
 obtain⟨f1,f2⟩:=f q w hq hw;rcases f2 with c|⟨_,c⟩
 ·have:=c.len hd;omega
 ·obtain⟨w',hw',_⟩:=hd.some (by omega);exact c _ hw'
section
variable {M:bA} {a:Option Addr} {n c:Nat}
theorem IK{h h' g1 g2:aa}{v1 v2:Value}(hn:n=M.aq.length)(o:Ok g1 g2)(p1:Ng h M n v1 g1)(p2:Ng h' M n v2 g2):
  ∃(b1:Option Addr)(d1:Nat)(b2:Option Addr)(d2 N:Nat)(e:Int)(ws:List (List Nat)),v1 = .tuple ⟨[.slice b1 N d1,.int .i64 e]⟩/\v2 = .tuple ⟨[.slice b2 N d2,.int .i64 e]⟩/\N<=n/\Al g2 b1 N d1 ws/\Al g2 b2 N d2 ws/\∀w∈ws,w.length<=200:=by
 have nl:Al g2 none 0 0 []:=⟨rfl,[],.inl ⟨rfl,rfl⟩,rfl,λi l hl=>by cases hl⟩
 obtain⟨_,⟨c1,e1⟩|⟨c1,⟨⟨q1,d1,x1,y1⟩,e1⟩|⟨b1,d1,w1,e1,l1,r1,f1⟩⟩⟩:=p1<;>obtain⟨_,⟨c2,e2⟩|⟨c2,⟨⟨q2,d2,x2,y2⟩,e2⟩|⟨b2,d2,w2,e2,l2,r2,f2⟩⟩⟩:=p2
 ·exact⟨_,_,_,_,_,_,[],e1,e2,zero_le _,nl,nl,λw h=>by cases h⟩
 ·exact absurd c2 c1
 ·exact absurd c2 c1
 ·exact absurd c1 c2
 ·exact⟨_,_,_,_,_,_,[],e1,e2,zero_le _,nl,nl,λw h=>by cases h⟩
 ·subst hn;exact(Jr x1 y1 l2 f2).elim
 ·exact absurd c1 c2
 ·subst hn;exact(Jr x2 y2 l1 f1).elim
 ·obtain rfl:=f1.eq f2 l1 l2;refine⟨_,_,_,_,_,_,w1,e1,e2,Nat.le_refl _,r1.ok o,r2,λw hw=>?_⟩;obtain⟨q,hq,rfl⟩:=List.mem_iff_getElem.1 hw;exact(f1 q _ (by omega) (gE hq)).1
theorem Nh{h g:aa}{v:Value}(p:Ng h M n v g):∃(b:Option Addr)(N d:Nat)(e:Int),v = .tuple ⟨[.slice b N d,.int .i64 e]⟩:=by
 obtain⟨_,⟨c1,e1⟩|⟨c1,⟨⟨q1,d1,x1,y1⟩,e1⟩|⟨b1,d1,w1,e1,l1,r1,f1⟩⟩⟩:=p<;>exact⟨_,_,_,_,e1⟩
theorem QA{h:aa}(tb:qP h)(w:Wf h)(bd:Xw M)(st:Su M)(r:eK h (.slice a n c) M.aq):FW SS 3 [.agg ⟨dD M a n c⟩] h (EQ h):=by
 obtain⟨mb,ok⟩:=gr w r;have hl:=mb.len;refine Qz (dD M a n c) h _ ⟨_,jJ M a n c,_,mb.all,(Nt ok.wf bd mb.row).mono ?_⟩;rintro _ h5 ⟨rfl,o5⟩;have ok5:=ok.trans o5;have mb5:=mb.ok o5;refine⟨_,rfl,ae (λq=>RY ok5) (λq=>?_)⟩;have sm:=OP st q;have hn:n<=300:=by rw[hl];exact sm.oO
 refine⟨_,mb5.all,(QR (tb.ok ok5) ok5.wf sm mb5.row).mono ?_⟩;intro v1 g1 p1;have ok1:=ok5.trans p1.1;have mb1:=mb5.ok p1.1;obtain⟨b1,N1,d1,x1,rfl⟩:=Nh p1;refine⟨_,_,_,_,rfl,_,mb1.all,(Re ok1.wf sm mb1.row).mono ?_⟩;intro v2 g2 p2;obtain⟨b1',d1',b2,d2,N,e,ws,e1,rfl,hN,r1,r2,hw⟩:=IK hl p2.1 p1 p2
 cases e1
 have ok2:=ok1.trans p2.1;have l1:=r1.1;refine⟨_,_,_,_,rfl,ae (λq=>by simp at q) (λ_=>ae (λq=>by simp at q) (λ_=>?_))⟩;refine wE (dD M a n c) h.next b1 N1 d1 b2 N1 d2 x1 x1 (λmz i g=>i<=N1/\mz=N1-i/\Ok g2 g) _ (λmz i=>?_) N1 (i:=0) ⟨zero_le _,rfl,Ok.refl ok2.wf⟩;intros;rename_i g hin;obtain⟨f1,f2,o⟩:=hin;refine ae (λq1=>?_) (λq1=>?_)
 ·have q1:=dT q1;have om:=o.room 10;obtain⟨u,hu⟩:∃u,ws[i]?=some u:=⟨_,gE (by omega)⟩
  obtain⟨p,b,m,d,s1,s2,s3⟩:=(r1.ok om).at_ hu;obtain⟨p',b',m',d',t1,t2,t3⟩:=(r2.ok om).at_ hu;have hul:=hw u (List.mem_of_getElem? hu);refine⟨_,s1,_,_,_,s2,_,t1,_,_,_,t2,(Ro om.wf s3 t3 (by omega) (by omega) rfl).mono ?_⟩;rintro _ g3 ⟨rfl,o3⟩;refine⟨_,rfl,ae (λq=>by simp at q) (λ_=>?_)⟩;rw[ba (i:=i) (n:=N1) (by omega) (by omega)];exact cH (mz-1) (by omega) ⟨by omega,by omega,om.trans o3⟩
 ·exact RY (ok2.trans o)
end
end
theorem TO:aM Tryz.prog 136 [.string ⟨#[49]⟩] (.bool true):=al ax kV (n:=2000) (by kernel_rfl) (by kernel_rfl)
theorem TP:aM Tryz.prog 136 [.string ⟨#[50]⟩] (.bool true):=al ax kV (n:=2000) (by kernel_rfl) (by kernel_rfl)
theorem TQ:aM Tryz.prog 136 [.string ⟨#[53]⟩] (.bool true):=al ax kV (n:=2000) (by kernel_rfl) (by kernel_rfl)
theorem TR:aM Tryz.prog 136 [.string ⟨#[48]⟩] (.bool true):=al ax kV (n:=2000) (by kernel_rfl) (by kernel_rfl)
theorem TU:aM Tryz.prog 136 [.string ⟨#[52]⟩] (.bool true):=al ax kV (n:=2000) (by kernel_rfl) (by kernel_rfl)
theorem TV:aM Tryz.prog 136 [.string ⟨#[54]⟩] (.bool true):=al ax kV (n:=2000) (by kernel_rfl) (by kernel_rfl)
theorem TW:aM Tryz.prog 136 [.string ⟨#[49,48]⟩] (.bool true):=al ax kV (n:=2000) (by kernel_rfl) (by kernel_rfl)
theorem TX:aM Tryz.prog 136 [.string ⟨#[55]⟩] (.bool true):=al ax kV (n:=2000) (by kernel_rfl) (by kernel_rfl)
noncomputable def Xb:List (List Value×Value):=[([.string ⟨#[49]⟩],.bool true),([.string ⟨#[50]⟩],.bool true),([.string ⟨#[53]⟩],.bool true),([.string ⟨#[48]⟩],.bool true),([.string ⟨#[52]⟩],.bool true),([.string ⟨#[54]⟩],.bool true),([.string ⟨#[49,48]⟩],.bool true),([.string ⟨#[55]⟩],.bool true)]
theorem RD:ju Tryz.prog 136 Xb:=av TO (by kernel_rfl) (av TP (by kernel_rfl) (av TQ (by kernel_rfl) (av TR (by kernel_rfl) (av TU (by kernel_rfl) (av TV (by kernel_rfl) (av TW (by kernel_rfl) (av TX (by kernel_rfl) (fS))))))))
noncomputable def Zc:kI:=(136,.pF Xb)::S4
theorem cb:lI Tryz.prog mc Zc:=cR RD (kV)
theorem Wu:aM Tryz.prog 94 [.string ⟨#[48]⟩,.string ⟨#[49]⟩] (.tuple #[.string ⟨#[48]⟩,.int .i64 0]):=al ax cb (n:=2000) (by kernel_rfl) (by kernel_rfl)
theorem Wv:aM Tryz.prog 94 [.string ⟨#[52]⟩,.string ⟨#[49]⟩] (.tuple #[.string ⟨#[52]⟩,.int .i64 0]):=al ax cb (n:=2000) (by kernel_rfl) (by kernel_rfl)
theorem Ww:aM Tryz.prog 94 [.string ⟨#[49]⟩,.string ⟨#[49]⟩] (.tuple #[.string ⟨#[49]⟩,.int .i64 0]):=al ax cb (n:=2000) (by kernel_rfl) (by kernel_rfl)
theorem Wx:aM Tryz.prog 94 [.string ⟨#[50]⟩,.string ⟨#[49]⟩] (.tuple #[.string ⟨#[50]⟩,.int .i64 0]):=al ax cb (n:=2000) (by kernel_rfl) (by kernel_rfl)
theorem Wy:aM Tryz.prog 94 [.string ⟨#[54]⟩,.string ⟨#[49]⟩] (.tuple #[.string ⟨#[54]⟩,.int .i64 0]):=al ax cb (n:=2000) (by kernel_rfl) (by kernel_rfl)
theorem Wz:aM Tryz.prog 94 [.string ⟨#[53]⟩,.string ⟨#[49]⟩] (.tuple #[.string ⟨#[53]⟩,.int .i64 0]):=al ax cb (n:=2000) (by kernel_rfl) (by kernel_rfl)
theorem WA:aM Tryz.prog 94 [.string ⟨#[49,48]⟩,.string ⟨#[49]⟩] (.tuple #[.string ⟨#[49,48]⟩,.int .i64 0]):=al ax cb (n:=2000) (by kernel_rfl) (by kernel_rfl)
noncomputable def Zs:List (List Value×Value):=[([.string ⟨#[48]⟩,.string ⟨#[49]⟩],.tuple #[.string ⟨#[48]⟩,.int .i64 0]),([.string ⟨#[52]⟩,.string ⟨#[49]⟩],.tuple #[.string ⟨#[52]⟩,.int .i64 0]),([.string ⟨#[49]⟩,.string ⟨#[49]⟩],.tuple #[.string ⟨#[49]⟩,.int .i64 0]),([.string ⟨#[50]⟩,.string ⟨#[49]⟩],.tuple #[.string ⟨#[50]⟩,.int .i64 0]),([.string ⟨#[54]⟩,.string ⟨#[49]⟩],.tuple #[.string ⟨#[54]⟩,.int .i64 0]),([.string ⟨#[53]⟩,.string ⟨#[49]⟩],.tuple #[.string ⟨#[53]⟩,.int .i64 0]),([.string ⟨#[49,48]⟩,.string ⟨#[49]⟩],.tuple #[.string ⟨#[49,48]⟩,.int .i64 0])]
theorem Ut:ju Tryz.prog 94 Zs:=av Wu (by kernel_rfl) (av Wv (by kernel_rfl) (av Ww (by kernel_rfl) (av Wx (by kernel_rfl) (av Wy (by kernel_rfl) (av Wz (by kernel_rfl) (av WA (by kernel_rfl) (fS)))))))
theorem Tz:aM Tryz.prog 133 [.string ⟨#[48]⟩,.string ⟨#[52]⟩] (.tuple #[.string ⟨#[52]⟩,.int .i64 0]):=al ax cb (n:=2000) (by kernel_rfl) (by kernel_rfl)
theorem TA:aM Tryz.prog 133 [.string ⟨#[49]⟩,.string ⟨#[52]⟩] (.tuple #[.string ⟨#[53]⟩,.int .i64 0]):=al ax cb (n:=2000) (by kernel_rfl) (by kernel_rfl)
theorem TC:aM Tryz.prog 133 [.string ⟨#[50]⟩,.string ⟨#[52]⟩] (.tuple #[.string ⟨#[54]⟩,.int .i64 0]):=al ax cb (n:=2000) (by kernel_rfl) (by kernel_rfl)
theorem TD:aM Tryz.prog 133 [.string ⟨#[53]⟩,.string ⟨#[53]⟩] (.tuple #[.string ⟨#[49,48]⟩,.int .i64 0]):=al ax cb (n:=2000) (by kernel_rfl) (by kernel_rfl)
theorem TE:aM Tryz.prog 133 [.string ⟨#[49]⟩,.string ⟨#[54]⟩] (.tuple #[.string ⟨#[55]⟩,.int .i64 0]):=al ax cb (n:=2000) (by kernel_rfl) (by kernel_rfl)
noncomputable def WZ:List (List Value×Value):=[([.string ⟨#[48]⟩,.string ⟨#[52]⟩],.tuple #[.string ⟨#[52]⟩,.int .i64 0]),([.string ⟨#[49]⟩,.string ⟨#[52]⟩],.tuple #[.string ⟨#[53]⟩,.int .i64 0]),([.string ⟨#[50]⟩,.string ⟨#[52]⟩],.tuple #[.string ⟨#[54]⟩,.int .i64 0]),([.string ⟨#[53]⟩,.string ⟨#[53]⟩],.tuple #[.string ⟨#[49,48]⟩,.int .i64 0]),([.string ⟨#[49]⟩,.string ⟨#[54]⟩],.tuple #[.string ⟨#[55]⟩,.int .i64 0])]
theorem Rz:ju Tryz.prog 133 WZ:=av Tz (by kernel_rfl) (av TA (by kernel_rfl) (av TC (by kernel_rfl) (av TD (by kernel_rfl) (av TE (by kernel_rfl) (fS)))))
theorem TF:aM Tryz.prog 134 [.string ⟨#[54]⟩,.string ⟨#[54]⟩] (.int .i64 0):=al ax cb (n:=2000) (by kernel_rfl) (by kernel_rfl)
theorem TG:aM Tryz.prog 134 [.string ⟨#[49,48]⟩,.string ⟨#[54]⟩] (.int .i64 1):=al ax cb (n:=2000) (by kernel_rfl) (by kernel_rfl)
theorem TI:aM Tryz.prog 134 [.string ⟨#[52]⟩,.string ⟨#[52]⟩] (.int .i64 0):=al ax cb (n:=2000) (by kernel_rfl) (by kernel_rfl)
theorem TJ:aM Tryz.prog 134 [.string ⟨#[53]⟩,.string ⟨#[53]⟩] (.int .i64 0):=al ax cb (n:=2000) (by kernel_rfl) (by kernel_rfl)
noncomputable def W0:List (List Value×Value):=[([.string ⟨#[54]⟩,.string ⟨#[54]⟩],.int .i64 0),([.string ⟨#[49,48]⟩,.string ⟨#[54]⟩],.int .i64 1),([.string ⟨#[52]⟩,.string ⟨#[52]⟩],.int .i64 0),([.string ⟨#[53]⟩,.string ⟨#[53]⟩],.int .i64 0)]
theorem RA:ju Tryz.prog 134 W0:=av TF (by kernel_rfl) (av TG (by kernel_rfl) (av TI (by kernel_rfl) (av TJ (by kernel_rfl) (fS))))
theorem TK:aM Tryz.prog 135 [.string ⟨#[54]⟩,.string ⟨#[54]⟩] (.tuple #[.string ⟨#[48]⟩,.int .i64 0]):=al ax cb (n:=2000) (by kernel_rfl) (by kernel_rfl)
theorem TL:aM Tryz.prog 135 [.string ⟨#[49,48]⟩,.string ⟨#[54]⟩] (.tuple #[.string ⟨#[52]⟩,.int .i64 0]):=al ax cb (n:=2000) (by kernel_rfl) (by kernel_rfl)
theorem TM:aM Tryz.prog 135 [.string ⟨#[52]⟩,.string ⟨#[52]⟩] (.tuple #[.string ⟨#[48]⟩,.int .i64 0]):=al ax cb (n:=2000) (by kernel_rfl) (by kernel_rfl)
theorem TN:aM Tryz.prog 135 [.string ⟨#[53]⟩,.string ⟨#[53]⟩] (.tuple #[.string ⟨#[48]⟩,.int .i64 0]):=al ax cb (n:=2000) (by kernel_rfl) (by kernel_rfl)
noncomputable def Xa:List (List Value×Value):=[([.string ⟨#[54]⟩,.string ⟨#[54]⟩],.tuple #[.string ⟨#[48]⟩,.int .i64 0]),([.string ⟨#[49,48]⟩,.string ⟨#[54]⟩],.tuple #[.string ⟨#[52]⟩,.int .i64 0]),([.string ⟨#[52]⟩,.string ⟨#[52]⟩],.tuple #[.string ⟨#[48]⟩,.int .i64 0]),([.string ⟨#[53]⟩,.string ⟨#[53]⟩],.tuple #[.string ⟨#[48]⟩,.int .i64 0])]
theorem RC:ju Tryz.prog 135 Xa:=av TK (by kernel_rfl) (av TL (by kernel_rfl) (av TM (by kernel_rfl) (av TN (by kernel_rfl) (fS))))
theorem TY:aM Tryz.prog 140 [.string ⟨#[49]⟩,.string ⟨#[49]⟩] (.tuple #[.string ⟨#[49]⟩,.int .i64 0]):=al ax cb (n:=2000) (by kernel_rfl) (by kernel_rfl)
theorem TZ:aM Tryz.prog 140 [.string ⟨#[50]⟩,.string ⟨#[49]⟩] (.tuple #[.string ⟨#[49]⟩,.int .i64 0]):=al ax cb (n:=2000) (by kernel_rfl) (by kernel_rfl)
theorem T0:aM Tryz.prog 140 [.string ⟨#[53]⟩,.string ⟨#[49]⟩] (.tuple #[.string ⟨#[49]⟩,.int .i64 0]):=al ax cb (n:=2000) (by kernel_rfl) (by kernel_rfl)
theorem T1:aM Tryz.prog 140 [.string ⟨#[48]⟩,.string ⟨#[49]⟩] (.tuple #[.string ⟨#[49]⟩,.int .i64 0]):=al ax cb (n:=2000) (by kernel_rfl) (by kernel_rfl)
theorem T2:aM Tryz.prog 140 [.string ⟨#[52]⟩,.string ⟨#[49]⟩] (.tuple #[.string ⟨#[49]⟩,.int .i64 0]):=al ax cb (n:=2000) (by kernel_rfl) (by kernel_rfl)
theorem T3:aM Tryz.prog 140 [.string ⟨#[54]⟩,.string ⟨#[49]⟩] (.tuple #[.string ⟨#[49]⟩,.int .i64 0]):=al ax cb (n:=2000) (by kernel_rfl) (by kernel_rfl)
theorem T4:aM Tryz.prog 140 [.string ⟨#[49,48]⟩,.string ⟨#[49]⟩] (.tuple #[.string ⟨#[49]⟩,.int .i64 0]):=al ax cb (n:=2000) (by kernel_rfl) (by kernel_rfl)
theorem T5:aM Tryz.prog 140 [.string ⟨#[55]⟩,.string ⟨#[49]⟩] (.tuple #[.string ⟨#[49]⟩,.int .i64 0]):=al ax cb (n:=2000) (by kernel_rfl) (by kernel_rfl)
noncomputable def Xc:List (List Value×Value):=[([.string ⟨#[49]⟩,.string ⟨#[49]⟩],.tuple #[.string ⟨#[49]⟩,.int .i64 0]),([.string ⟨#[50]⟩,.string ⟨#[49]⟩],.tuple #[.string ⟨#[49]⟩,.int .i64 0]),([.string ⟨#[53]⟩,.string ⟨#[49]⟩],.tuple #[.string ⟨#[49]⟩,.int .i64 0]),([.string ⟨#[48]⟩,.string ⟨#[49]⟩],.tuple #[.string ⟨#[49]⟩,.int .i64 0]),([.string ⟨#[52]⟩,.string ⟨#[49]⟩],.tuple #[.string ⟨#[49]⟩,.int .i64 0]),([.string ⟨#[54]⟩,.string ⟨#[49]⟩],.tuple #[.string ⟨#[49]⟩,.int .i64 0]),([.string ⟨#[49,48]⟩,.string ⟨#[49]⟩],.tuple #[.string ⟨#[49]⟩,.int .i64 0]),([.string ⟨#[55]⟩,.string ⟨#[49]⟩],.tuple #[.string ⟨#[49]⟩,.int .i64 0])]
theorem RE:ju Tryz.prog 140 Xc:=av TY (by kernel_rfl) (av TZ (by kernel_rfl) (av T0 (by kernel_rfl) (av T1 (by kernel_rfl) (av T2 (by kernel_rfl) (av T3 (by kernel_rfl) (av T4 (by kernel_rfl) (av T5 (by kernel_rfl) (fS))))))))
theorem T6:aM Tryz.prog 167 [.string ⟨#[52]⟩,.string ⟨#[49]⟩] (.tuple #[.string ⟨#[52]⟩,.string ⟨#[48]⟩,.int .i64 0]):=al ax cb (n:=2000) (by kernel_rfl) (by kernel_rfl)
theorem T7:aM Tryz.prog 167 [.string ⟨#[49]⟩,.string ⟨#[49]⟩] (.tuple #[.string ⟨#[49]⟩,.string ⟨#[48]⟩,.int .i64 0]):=al ax cb (n:=2000) (by kernel_rfl) (by kernel_rfl)
theorem T8:aM Tryz.prog 167 [.string ⟨#[53]⟩,.string ⟨#[49]⟩] (.tuple #[.string ⟨#[53]⟩,.string ⟨#[48]⟩,.int .i64 0]):=al ax cb (n:=2000) (by kernel_rfl) (by kernel_rfl)
theorem T9:aM Tryz.prog 167 [.string ⟨#[54]⟩,.string ⟨#[49]⟩] (.tuple #[.string ⟨#[54]⟩,.string ⟨#[48]⟩,.int .i64 0]):=al ax cb (n:=2000) (by kernel_rfl) (by kernel_rfl)
theorem Ua:aM Tryz.prog 167 [.string ⟨#[48]⟩,.string ⟨#[49]⟩] (.tuple #[.string ⟨#[48]⟩,.string ⟨#[48]⟩,.int .i64 0]):=al ax cb (n:=2000) (by kernel_rfl) (by kernel_rfl)
theorem Ub:aM Tryz.prog 167 [.string ⟨#[49,48]⟩,.string ⟨#[49]⟩] (.tuple #[.string ⟨#[49,48]⟩,.string ⟨#[48]⟩,.int .i64 0]):=al ax cb (n:=2000) (by kernel_rfl) (by kernel_rfl)
theorem Uc:aM Tryz.prog 167 [.string ⟨#[55]⟩,.string ⟨#[49]⟩] (.tuple #[.string ⟨#[55]⟩,.string ⟨#[48]⟩,.int .i64 0]):=al ax cb (n:=2000) (by kernel_rfl) (by kernel_rfl)
noncomputable def Xd:List (List Value×Value):=[([.string ⟨#[52]⟩,.string ⟨#[49]⟩],.tuple #[.string ⟨#[52]⟩,.string ⟨#[48]⟩,.int .i64 0]),([.string ⟨#[49]⟩,.string ⟨#[49]⟩],.tuple #[.string ⟨#[49]⟩,.string ⟨#[48]⟩,.int .i64 0]),([.string ⟨#[53]⟩,.string ⟨#[49]⟩],.tuple #[.string ⟨#[53]⟩,.string ⟨#[48]⟩,.int .i64 0]),([.string ⟨#[54]⟩,.string ⟨#[49]⟩],.tuple #[.string ⟨#[54]⟩,.string ⟨#[48]⟩,.int .i64 0]),([.string ⟨#[48]⟩,.string ⟨#[49]⟩],.tuple #[.string ⟨#[48]⟩,.string ⟨#[48]⟩,.int .i64 0]),([.string ⟨#[49,48]⟩,.string ⟨#[49]⟩],.tuple #[.string ⟨#[49,48]⟩,.string ⟨#[48]⟩,.int .i64 0]),([.string ⟨#[55]⟩,.string ⟨#[49]⟩],.tuple #[.string ⟨#[55]⟩,.string ⟨#[48]⟩,.int .i64 0])]
theorem RF:ju Tryz.prog 167 Xd:=av T6 (by kernel_rfl) (av T7 (by kernel_rfl) (av T8 (by kernel_rfl) (av T9 (by kernel_rfl) (av Ua (by kernel_rfl) (av Ub (by kernel_rfl) (av Uc (by kernel_rfl) (fS)))))))
noncomputable def Zd:kI:=(94,.pF Zs)::(133,.pF WZ)::(134,.pF W0)::(135,.pF Xa)::(140,.pF Xc)::(167,.pF Xd)::Zc
theorem nN:lI Tryz.prog mc Zd:=cR Ut (cR Rz (cR RA (cR RC (cR RE (cR RF (cb))))))
theorem Tr:aM Tryz.prog 130 [.string ⟨#[49]⟩] (.tuple #[.agg #[.bool false,.string ⟨#[49]⟩,.string ⟨#[49]⟩],.bool true]):=al ax nN (n:=2000) (by kernel_rfl) (by kernel_rfl)
theorem Ts:aM Tryz.prog 130 [.string ⟨#[50]⟩] (.tuple #[.agg #[.bool false,.string ⟨#[50]⟩,.string ⟨#[49]⟩],.bool true]):=al ax nN (n:=2000) (by kernel_rfl) (by kernel_rfl)
theorem Tt:aM Tryz.prog 130 [.string ⟨#[53]⟩] (.tuple #[.agg #[.bool false,.string ⟨#[53]⟩,.string ⟨#[49]⟩],.bool true]):=al ax nN (n:=2000) (by kernel_rfl) (by kernel_rfl)
theorem Tu:aM Tryz.prog 130 [.string ⟨#[48]⟩] (.tuple #[.agg #[.bool false,.string ⟨#[48]⟩,.string ⟨#[49]⟩],.bool true]):=al ax nN (n:=2000) (by kernel_rfl) (by kernel_rfl)
theorem Tv:aM Tryz.prog 130 [.string ⟨#[52]⟩] (.tuple #[.agg #[.bool false,.string ⟨#[52]⟩,.string ⟨#[49]⟩],.bool true]):=al ax nN (n:=2000) (by kernel_rfl) (by kernel_rfl)
theorem Tw:aM Tryz.prog 130 [.string ⟨#[54]⟩] (.tuple #[.agg #[.bool false,.string ⟨#[54]⟩,.string ⟨#[49]⟩],.bool true]):=al ax nN (n:=2000) (by kernel_rfl) (by kernel_rfl)
theorem Tx:aM Tryz.prog 130 [.string ⟨#[49,48]⟩] (.tuple #[.agg #[.bool false,.string ⟨#[49,48]⟩,.string ⟨#[49]⟩],.bool true]):=al ax nN (n:=2000) (by kernel_rfl) (by kernel_rfl)
theorem Ty:aM Tryz.prog 130 [.string ⟨#[55]⟩] (.tuple #[.agg #[.bool false,.string ⟨#[55]⟩,.string ⟨#[49]⟩],.bool true]):=al ax nN (n:=2000) (by kernel_rfl) (by kernel_rfl)
noncomputable def WY:List (List Value×Value):=[([.string ⟨#[49]⟩],.tuple #[.agg #[.bool false,.string ⟨#[49]⟩,.string ⟨#[49]⟩],.bool true]),([.string ⟨#[50]⟩],.tuple #[.agg #[.bool false,.string ⟨#[50]⟩,.string ⟨#[49]⟩],.bool true]),([.string ⟨#[53]⟩],.tuple #[.agg #[.bool false,.string ⟨#[53]⟩,.string ⟨#[49]⟩],.bool true]),([.string ⟨#[48]⟩],.tuple #[.agg #[.bool false,.string ⟨#[48]⟩,.string ⟨#[49]⟩],.bool true]),([.string ⟨#[52]⟩],.tuple #[.agg #[.bool false,.string ⟨#[52]⟩,.string ⟨#[49]⟩],.bool true]),([.string ⟨#[54]⟩],.tuple #[.agg #[.bool false,.string ⟨#[54]⟩,.string ⟨#[49]⟩],.bool true]),([.string ⟨#[49,48]⟩],.tuple #[.agg #[.bool false,.string ⟨#[49,48]⟩,.string ⟨#[49]⟩],.bool true]),([.string ⟨#[55]⟩],.tuple #[.agg #[.bool false,.string ⟨#[55]⟩,.string ⟨#[49]⟩],.bool true])]
theorem Ry:ju Tryz.prog 130 WY:=av Tr (by kernel_rfl) (av Ts (by kernel_rfl) (av Tt (by kernel_rfl) (av Tu (by kernel_rfl) (av Tv (by kernel_rfl) (av Tw (by kernel_rfl) (av Tx (by kernel_rfl) (av Ty (by kernel_rfl) (fS))))))))
noncomputable def Ze:kI:=(130,.pF WY)::Zd
theorem gw:lI Tryz.prog mc Ze:=cR Ry (nN)
theorem Wp:aM Tryz.prog 64 [.string ⟨#[54]⟩,.string ⟨#[54]⟩] (.tuple #[.string ⟨#[48]⟩,.int .i64 0]):=al ax gw (n:=2000) (by kernel_rfl) (by kernel_rfl)
theorem Wq:aM Tryz.prog 64 [.string ⟨#[49,48]⟩,.string ⟨#[54]⟩] (.tuple #[.string ⟨#[52]⟩,.int .i64 0]):=al ax gw (n:=2000) (by kernel_rfl) (by kernel_rfl)
theorem Ws:aM Tryz.prog 64 [.string ⟨#[52]⟩,.string ⟨#[52]⟩] (.tuple #[.string ⟨#[48]⟩,.int .i64 0]):=al ax gw (n:=2000) (by kernel_rfl) (by kernel_rfl)
theorem Wt:aM Tryz.prog 64 [.string ⟨#[53]⟩,.string ⟨#[53]⟩] (.tuple #[.string ⟨#[48]⟩,.int .i64 0]):=al ax gw (n:=2000) (by kernel_rfl) (by kernel_rfl)
noncomputable def Zr:List (List Value×Value):=[([.string ⟨#[54]⟩,.string ⟨#[54]⟩],.tuple #[.string ⟨#[48]⟩,.int .i64 0]),([.string ⟨#[49,48]⟩,.string ⟨#[54]⟩],.tuple #[.string ⟨#[52]⟩,.int .i64 0]),([.string ⟨#[52]⟩,.string ⟨#[52]⟩],.tuple #[.string ⟨#[48]⟩,.int .i64 0]),([.string ⟨#[53]⟩,.string ⟨#[53]⟩],.tuple #[.string ⟨#[48]⟩,.int .i64 0])]
theorem Ur:ju Tryz.prog 64 Zr:=av Wp (by kernel_rfl) (av Wq (by kernel_rfl) (av Ws (by kernel_rfl) (av Wt (by kernel_rfl) (fS))))
theorem WB:aM Tryz.prog 96 [.string ⟨#[49]⟩] (.bool true):=al ax gw (n:=2000) (by kernel_rfl) (by kernel_rfl)
theorem WC:aM Tryz.prog 96 [.string ⟨#[50]⟩] (.bool true):=al ax gw (n:=2000) (by kernel_rfl) (by kernel_rfl)
theorem WD:aM Tryz.prog 96 [.string ⟨#[53]⟩] (.bool true):=al ax gw (n:=2000) (by kernel_rfl) (by kernel_rfl)
theorem WE:aM Tryz.prog 96 [.string ⟨#[48]⟩] (.bool true):=al ax gw (n:=2000) (by kernel_rfl) (by kernel_rfl)
theorem WG:aM Tryz.prog 96 [.string ⟨#[52]⟩] (.bool true):=al ax gw (n:=2000) (by kernel_rfl) (by kernel_rfl)
theorem WH:aM Tryz.prog 96 [.string ⟨#[54]⟩] (.bool true):=al ax gw (n:=2000) (by kernel_rfl) (by kernel_rfl)
theorem WI:aM Tryz.prog 96 [.string ⟨#[49,48]⟩] (.bool true):=al ax gw (n:=2000) (by kernel_rfl) (by kernel_rfl)
theorem WJ:aM Tryz.prog 96 [.string ⟨#[55]⟩] (.bool true):=al ax gw (n:=2000) (by kernel_rfl) (by kernel_rfl)
noncomputable def Zt:List (List Value×Value):=[([.string ⟨#[49]⟩],.bool true),([.string ⟨#[50]⟩],.bool true),([.string ⟨#[53]⟩],.bool true),([.string ⟨#[48]⟩],.bool true),([.string ⟨#[52]⟩],.bool true),([.string ⟨#[54]⟩],.bool true),([.string ⟨#[49,48]⟩],.bool true),([.string ⟨#[55]⟩],.bool true)]
theorem Uu:ju Tryz.prog 96 Zt:=av WB (by kernel_rfl) (av WC (by kernel_rfl) (av WD (by kernel_rfl) (av WE (by kernel_rfl) (av WG (by kernel_rfl) (av WH (by kernel_rfl) (av WI (by kernel_rfl) (av WJ (by kernel_rfl) (fS))))))))
theorem Tm:aM Tryz.prog 108 [.string ⟨#[48]⟩,.string ⟨#[52]⟩] (.tuple #[.string ⟨#[52]⟩,.int .i64 0]):=al ax gw (n:=2000) (by kernel_rfl) (by kernel_rfl)
theorem Tn:aM Tryz.prog 108 [.string ⟨#[49]⟩,.string ⟨#[52]⟩] (.tuple #[.string ⟨#[53]⟩,.int .i64 0]):=al ax gw (n:=2000) (by kernel_rfl) (by kernel_rfl)
theorem To:aM Tryz.prog 108 [.string ⟨#[50]⟩,.string ⟨#[52]⟩] (.tuple #[.string ⟨#[54]⟩,.int .i64 0]):=al ax gw (n:=2000) (by kernel_rfl) (by kernel_rfl)
theorem Tp:aM Tryz.prog 108 [.string ⟨#[53]⟩,.string ⟨#[53]⟩] (.tuple #[.string ⟨#[49,48]⟩,.int .i64 0]):=al ax gw (n:=2000) (by kernel_rfl) (by kernel_rfl)
theorem Tq:aM Tryz.prog 108 [.string ⟨#[49]⟩,.string ⟨#[54]⟩] (.tuple #[.string ⟨#[55]⟩,.int .i64 0]):=al ax gw (n:=2000) (by kernel_rfl) (by kernel_rfl)
noncomputable def WX:List (List Value×Value):=[([.string ⟨#[48]⟩,.string ⟨#[52]⟩],.tuple #[.string ⟨#[52]⟩,.int .i64 0]),([.string ⟨#[49]⟩,.string ⟨#[52]⟩],.tuple #[.string ⟨#[53]⟩,.int .i64 0]),([.string ⟨#[50]⟩,.string ⟨#[52]⟩],.tuple #[.string ⟨#[54]⟩,.int .i64 0]),([.string ⟨#[53]⟩,.string ⟨#[53]⟩],.tuple #[.string ⟨#[49,48]⟩,.int .i64 0]),([.string ⟨#[49]⟩,.string ⟨#[54]⟩],.tuple #[.string ⟨#[55]⟩,.int .i64 0])]
theorem Rw:ju Tryz.prog 108 WX:=av Tm (by kernel_rfl) (av Tn (by kernel_rfl) (av To (by kernel_rfl) (av Tp (by kernel_rfl) (av Tq (by kernel_rfl) (fS)))))
noncomputable def Zf:kI:=(64,.pF Zr)::(96,.pF Zt)::(108,.pF WX)::Ze
theorem iI:lI Tryz.prog mc Zf:=cR Ur (cR Uu (cR Rw (gw)))
theorem V0:aM Tryz.prog 28 [.int .i64 1,.string ⟨#[48]⟩,.string ⟨#[52]⟩] (.tuple #[.string ⟨#[52]⟩,.int .i64 0]):=al ax iI (n:=2000) (by kernel_rfl) (by kernel_rfl)
theorem V9:aM Tryz.prog 28 [.int .i64 1,.string ⟨#[49]⟩,.string ⟨#[52]⟩] (.tuple #[.string ⟨#[53]⟩,.int .i64 0]):=al ax iI (n:=2000) (by kernel_rfl) (by kernel_rfl)
theorem Wa:aM Tryz.prog 28 [.int .i64 1,.string ⟨#[50]⟩,.string ⟨#[52]⟩] (.tuple #[.string ⟨#[54]⟩,.int .i64 0]):=al ax iI (n:=2000) (by kernel_rfl) (by kernel_rfl)
theorem Wb:aM Tryz.prog 28 [.int .i64 1,.string ⟨#[53]⟩,.string ⟨#[53]⟩] (.tuple #[.string ⟨#[49,48]⟩,.int .i64 0]):=al ax iI (n:=2000) (by kernel_rfl) (by kernel_rfl)
theorem Wc:aM Tryz.prog 28 [.int .i64 1,.string ⟨#[49]⟩,.string ⟨#[54]⟩] (.tuple #[.string ⟨#[55]⟩,.int .i64 0]):=al ax iI (n:=2000) (by kernel_rfl) (by kernel_rfl)
noncomputable def Zn:List (List Value×Value):=[([.int .i64 1,.string ⟨#[48]⟩,.string ⟨#[52]⟩],.tuple #[.string ⟨#[52]⟩,.int .i64 0]),([.int .i64 1,.string ⟨#[49]⟩,.string ⟨#[52]⟩],.tuple #[.string ⟨#[53]⟩,.int .i64 0]),([.int .i64 1,.string ⟨#[50]⟩,.string ⟨#[52]⟩],.tuple #[.string ⟨#[54]⟩,.int .i64 0]),([.int .i64 1,.string ⟨#[53]⟩,.string ⟨#[53]⟩],.tuple #[.string ⟨#[49,48]⟩,.int .i64 0]),([.int .i64 1,.string ⟨#[49]⟩,.string ⟨#[54]⟩],.tuple #[.string ⟨#[55]⟩,.int .i64 0])]
theorem Uo:ju Tryz.prog 28 Zn:=av V0 (by kernel_rfl) (av V9 (by kernel_rfl) (av Wa (by kernel_rfl) (av Wb (by kernel_rfl) (av Wc (by kernel_rfl) (fS)))))
theorem Wd:aM Tryz.prog 41 [.int .i64 1,.string ⟨#[54]⟩,.string ⟨#[54]⟩] (.tuple #[.string ⟨#[48]⟩,.int .i64 0]):=al ax iI (n:=2000) (by kernel_rfl) (by kernel_rfl)
theorem We:aM Tryz.prog 41 [.int .i64 1,.string ⟨#[49,48]⟩,.string ⟨#[54]⟩] (.tuple #[.string ⟨#[52]⟩,.int .i64 0]):=al ax iI (n:=2000) (by kernel_rfl) (by kernel_rfl)
theorem Wg:aM Tryz.prog 41 [.int .i64 1,.string ⟨#[52]⟩,.string ⟨#[52]⟩] (.tuple #[.string ⟨#[48]⟩,.int .i64 0]):=al ax iI (n:=2000) (by kernel_rfl) (by kernel_rfl)
theorem Wh:aM Tryz.prog 41 [.int .i64 1,.string ⟨#[53]⟩,.string ⟨#[53]⟩] (.tuple #[.string ⟨#[48]⟩,.int .i64 0]):=al ax iI (n:=2000) (by kernel_rfl) (by kernel_rfl)
noncomputable def Zo:List (List Value×Value):=[([.int .i64 1,.string ⟨#[54]⟩,.string ⟨#[54]⟩],.tuple #[.string ⟨#[48]⟩,.int .i64 0]),([.int .i64 1,.string ⟨#[49,48]⟩,.string ⟨#[54]⟩],.tuple #[.string ⟨#[52]⟩,.int .i64 0]),([.int .i64 1,.string ⟨#[52]⟩,.string ⟨#[52]⟩],.tuple #[.string ⟨#[48]⟩,.int .i64 0]),([.int .i64 1,.string ⟨#[53]⟩,.string ⟨#[53]⟩],.tuple #[.string ⟨#[48]⟩,.int .i64 0])]
theorem Up:ju Tryz.prog 41 Zo:=av Wd (by kernel_rfl) (av We (by kernel_rfl) (av Wg (by kernel_rfl) (av Wh (by kernel_rfl) (fS))))
theorem Wi:aM Tryz.prog 50 [.int .i64 1,.string ⟨#[49]⟩] (.bool true):=al ax iI (n:=2000) (by kernel_rfl) (by kernel_rfl)
theorem Wj:aM Tryz.prog 50 [.int .i64 1,.string ⟨#[50]⟩] (.bool true):=al ax iI (n:=2000) (by kernel_rfl) (by kernel_rfl)
theorem Wk:aM Tryz.prog 50 [.int .i64 1,.string ⟨#[53]⟩] (.bool true):=al ax iI (n:=2000) (by kernel_rfl) (by kernel_rfl)
theorem Wm:aM Tryz.prog 50 [.int .i64 1,.string ⟨#[48]⟩] (.bool true):=al ax iI (n:=2000) (by kernel_rfl) (by kernel_rfl)
theorem Wn:aM Tryz.prog 50 [.int .i64 1,.string ⟨#[52]⟩] (.bool true):=al ax iI (n:=2000) (by kernel_rfl) (by kernel_rfl)
theorem Wo:aM Tryz.prog 50 [.int .i64 1,.string ⟨#[55]⟩] (.bool true):=al ax iI (n:=2000) (by kernel_rfl) (by kernel_rfl)
noncomputable def Zp:List (List Value×Value):=[([.int .i64 1,.string ⟨#[49]⟩],.bool true),([.int .i64 1,.string ⟨#[50]⟩],.bool true),([.int .i64 1,.string ⟨#[53]⟩],.bool true),([.int .i64 1,.string ⟨#[48]⟩],.bool true),([.int .i64 1,.string ⟨#[52]⟩],.bool true),([.int .i64 1,.string ⟨#[55]⟩],.bool true)]
theorem Uq:ju Tryz.prog 50 Zp:=av Wi (by kernel_rfl) (av Wj (by kernel_rfl) (av Wk (by kernel_rfl) (av Wm (by kernel_rfl) (av Wn (by kernel_rfl) (av Wo (by kernel_rfl) (fS))))))
noncomputable def ZF:kI:=(28,.pF Zn)::(41,.pF Zo)::(50,.pF Zp)::Zf
theorem S6:lI Tryz.prog mc ZF:=cR Uo (cR Up (cR Uq (iI)))
theorem M3:aM Tryz.prog 6 [] (.bool true):=al ax S6 (n:=2000) (by kernel_rfl) (by kernel_rfl)
end Go.Proofs.YtaheifbogkjpdaaGreatDoor
end
section
namespace Go.Proofs.YtaheifbogkjpdaaGreatDoor
open Go Go.Ab Go.RowKit
theorem zi:jt Tryz.prog Nm 215 jY:=vP (fn:=(Tryz.prog.funcs[215]?).getD default) (by kernel_rfl) (by kernel_rfl) (by kernel_rfl) (by kernel_rfl) (by kernel_rfl)
theorem wD:jt Tryz.prog Nm 217 ig:=tj (fn:=(Tryz.prog.funcs[217]?).getD default) (by kernel_rfl) (by kernel_rfl) (by kernel_rfl) (by kernel_rfl) (by kernel_rfl)
theorem A1:jt Tryz.prog Nm 131 (sB Tryz.prog Nm Tryz.f131 (Iw Bu) (DZ (DZ Bu)) 5):=
 ET ax.names Tryz.func131 rfl rfl rfl rfl rfl rfl rfl Tryz.func160 rfl th (by kernel_rfl) (by kernel_rfl)
theorem QH:lI Tryz.prog Nm S5:=cR (av M3 (by kernel_rfl) fS) (iZ zi (iZ wD (iZ A1 Bl)))
theorem N6:sO Tryz.prog Nm (DB Tryz.prog Nm S5):=JB QH
end Go.Proofs.YtaheifbogkjpdaaGreatDoor
end
section
namespace Go.Proofs.YtaheifbogkjpdaaGreatDoor
open Go Go.Ab Go.ChangeShapes Go.RowKit
section
theorem Y1:Tryz.prog.cellsOf 3=1:=by kernel_rfl
theorem X1:Tryz.prog.cellsOf 9=1:=by kernel_rfl
theorem XY:Tryz.prog.cellsOf 22=1:=by kernel_rfl
theorem XZ:Tryz.prog.cellsOf 24=4:=by kernel_rfl
theorem X0:Tryz.prog.cellsOf 36=1:=by kernel_rfl
theorem Vh:Tryz.prog.cellsOf 38=2:=by kernel_rfl
theorem Vg:Tryz.prog.cellsOf 34=4:=by kernel_rfl
theorem Vf:Tryz.prog.cellsOf 117=1:=by kernel_rfl
theorem XU:Tryz.prog.bytesOf 34=40:=by kernel_rfl
theorem HX{α β:Type}{p:α->β}{P:α->Prop}:∀{l:List β},(∀x∈l,∃q,x=p q/\P q)->∃k:List α,l=k.map p/\∀q∈k,P q
 |[],_=>⟨[],rfl,λ_ h=>by cases h⟩
 | x::l,h=>by
  obtain⟨q,rfl,hq⟩:=h x (List.mem_cons_self ..);obtain⟨k,rfl,hk⟩:=HX λx hx=>h x (List.mem_cons_of_mem _ hx);exact⟨q::k,rfl,λy hy=>by
   rcases mem_cons.1 hy with rfl|hy
   ·exact hq
   ·exact hk y hy⟩
def Md(W:World)(q:lA×Value):Prop:=Bj W q.2 4 (q.1.bq.map kj)/\q.1.bq.length<=281474976710656/\q.1.f.length<=281474976710656/\∀a∈q.1.bq,a.w.length<=281474976710656
section
variable {H:Type} {enc:TypeId×Value->H} {W:World} {held:Bool}
theorem D3{t:TypeId}{y:DataW H×List MemPlace}{l:List UInt8}{p:List MemPlace}(e:y=(.lit (.string l),p))(hw:(y.1.weights Tryz.prog t).all (· <=reachBytes)=true):l.length<=281474976710656:=by
 subst e;have h:l.length<=reachBytes:=by simpa[DataW.weights]using hw
 unfold reachBytes at h;omega
theorem Mm{n:Nat}{cs:List Value}{y:DataW H×List MemPlace}(h:DataW.trod enc Tryz.prog W 0 (λ_=>true) held n 34 cs=some y)(hw:(y.1.weights Tryz.prog 34).all (· <=reachBytes)=true):∃q:dO,cs=kj q/\q.w.length<=281474976710656:=by
 obtain⟨xs,m,_,rfl,hl,hlen,hf⟩:=DataW.trod_struct Tryz.underlying34 h;rw[Vg]at hl;have hlen:xs.length=4:=hlen
 match xs,hlen,cs,hl with
 |[y0,y1,y2,y3],_,[c0,c1,c2,c3],_=>
  obtain⟨i,e0,_,_⟩:=DataW.trod_int (x:=y0) Tryz.underlying3 (show DataW.trod enc Tryz.prog W 0 (λ_=>true) held m 3 (([c0,c1,c2,c3].drop 0).take (Tryz.prog.cellsOf 3))=some y0 from hf 0 _ rfl);obtain⟨o,e1,_,_⟩:=DataW.trod_int (x:=y1) Tryz.underlying3 (show DataW.trod enc Tryz.prog W 0 (λ_=>true) held m 3 (([c0,c1,c2,c3].drop 1).take (Tryz.prog.cellsOf 3))=some y1 from hf 1 _ rfl);obtain⟨s,e2,e2',_⟩:=DataW.trod_string (x:=y2) Tryz.underlying9 (show DataW.trod enc Tryz.prog W 0 (λ_=>true) held m 9 (([c0,c1,c2,c3].drop 2).take (Tryz.prog.cellsOf 9))=some y2 from hf 2 _ rfl);obtain⟨t,e3,_,_⟩:=DataW.trod_int (x:=y3) Tryz.underlying3 (show DataW.trod enc Tryz.prog W 0 (λ_=>true) held m 3 (([c0,c1,c2,c3].drop 3).take (Tryz.prog.cellsOf 3))=some y3 from hf 3 _ rfl);simp only[Y1,X1,List.drop,List.take,List.cons.injEq,and_true]at e0 e1 e2 e3;subst e0;subst e1;subst e2;subst e3;simp only[DataW.weights,Tryz.underlying34,DataW.weightsEach,List.map,append_nil,all_append,and_eq_true]at hw;have hs:=D3 e2' hw.2.2.1;exact⟨⟨i,o,s.data.toList,t⟩,rfl,hs⟩
theorem IC{n:Nat}{cs:List Value}{y:DataW H×List MemPlace}(h:DataW.trod enc Tryz.prog W 0 (λ_=>true) held n 38 cs=some y)(hw:(y.1.weights Tryz.prog 38).all (· <=reachBytes)=true):∃q:lA×Value,cs=L6 q/\Md W q:=by
 obtain⟨y0,y1,m,rfl,hl,h0,h1⟩:=trod_struct2 Tryz.underlying38 h;rw[Vh]at hl
 match cs,hl with
 |[c0,c1],_=>
  obtain⟨s,e0,e0',_⟩:=DataW.trod_string Tryz.underlying9 h0;simp only[DataW.weights,Tryz.underlying38,DataW.weightsEach,List.map,append_nil,all_append,and_eq_true]at hw;obtain⟨v,rs,e1,r,hr,hb⟩:=Cb (P:=Tryz.prog) (p:=λcs=>∃q:dO,cs=kj q/\q.w.length<=281474976710656) Tryz.underlying36 Vg (by decide) (λn cs y h hw=>Mm h hw) h1 hw.2;simp only[X1,X0,List.drop,List.take,List.cons.injEq,and_true]at e0 e1;subst e0;subst e1;obtain⟨l,rfl,hwl⟩:=HX hr;refine⟨(⟨s.data.toList,l⟩,c1),rfl,r,?_,D3 e0' hw.1,hwl⟩;rw[XU,lM]at hb;unfold reachBytes at hb;show l.length<=_;omega
theorem Dc{n:Nat}{cs:List Value}{y:DataW H×List MemPlace}(h:DataW.trod enc Tryz.prog W 0 (λ_=>true) held n 24 cs=some y)(hw:(y.1.weights Tryz.prog 24).all (· <=reachBytes)=true):
  ∃(k s:Int)(ld:List UInt8)(v:Value)(oO:List (lA×Value)),cs=[.int .i64 k,.int .i64 s,strOf ld,v]/\ld.length<=281474976710656/\Bj W v 2 (oO.map L6)/\∀q∈oO,Md W q:=by
 obtain⟨xs,m,_,rfl,hl,hlen,hf⟩:=DataW.trod_struct Tryz.underlying24 h;rw[XZ]at hl;have hlen:xs.length=4:=hlen
 match xs,hlen,cs,hl with
 |[y0,y1,y2,y3],_,[c0,c1,c2,c3],_=>
  obtain⟨k,e0,_,_⟩:=DataW.trod_int (x:=y0) Tryz.underlying3 (show DataW.trod enc Tryz.prog W 0 (λ_=>true) held m 3 (([c0,c1,c2,c3].drop 0).take (Tryz.prog.cellsOf 3))=some y0 from hf 0 _ rfl);obtain⟨s,e1,_,_⟩:=DataW.trod_int (x:=y1) Tryz.underlying3 (show DataW.trod enc Tryz.prog W 0 (λ_=>true) held m 3 (([c0,c1,c2,c3].drop 1).take (Tryz.prog.cellsOf 3))=some y1 from hf 1 _ rfl);obtain⟨ld,e2,e2',_⟩:=DataW.trod_string (x:=y2) Tryz.underlying9 (show DataW.trod enc Tryz.prog W 0 (λ_=>true) held m 9 (([c0,c1,c2,c3].drop 2).take (Tryz.prog.cellsOf 9))=some y2 from hf 2 _ rfl);simp only[DataW.weights,Tryz.underlying24,DataW.weightsEach,List.map,append_nil,all_append,and_eq_true]at hw;obtain⟨v,rs,e3,r,hr,_⟩:=Cb (P:=Tryz.prog) (x:=y3) (p:=λcs=>∃q:lA×Value,cs=L6 q/\Md W q) Tryz.underlying22 Vh (by decide) (λn cs y h hw=>IC h hw) (show DataW.trod enc Tryz.prog W 0 (λ_=>true) held m 22 (([c0,c1,c2,c3].drop 3).take (Tryz.prog.cellsOf 22))=some y3 from hf 3 _ rfl) hw.2.2.2;simp only[Y1,X1,XY,List.drop,List.take,List.cons.injEq,and_true]at e0 e1 e2 e3;subst e0;subst e1;subst e2;subst e3;obtain⟨l,rfl,hl⟩:=HX hr;exact⟨k,s,ld.data.toList,c3,l,rfl,D3 e2' hw.2.2.1,r,hl⟩
end
section
variable {W:World}
theorem J3(q:dO):(kj q).all Go.Ab.bare=true:=rfl
theorem Rt{β:cC}{f:List UInt8}{v v':Value}(h:az β v v'):aK β [strOf f,v] [strOf f,v']:= .cons (.string _) (.cons h (.nil β))
theorem BP:∀(oO:List (lA×Value)),(∀q∈oO,Md W q)->∀{β:cC}{h:aa},rO β h W->
  ∃(β':cC)(h':aa)(ps:List (lA×Value)),rO β' h' W/\β.le β'/\Ok h h'/\ps.length=oO.length/\ps.map (·.1)=oO.map (·.1)/\(∀p∈ps,gi h' p.2 p.1.bq)/\
   ∀(k:Nat) r r',(ps.map L6)[k]?=some r->(oO.map L6)[k]?=some r'->aK β' r r'
 |[],_,β,h,i=>⟨β,h,[],i,β.le_refl,Ok.refl i.wf,rfl,rfl,λ_ hm=>absurd hm (by simp),λk v q h=>absurd h (by simp)⟩
 | q::oO,hq,β,h,i=>by
  obtain⟨r,_⟩:=hq q (List.mem_cons_self ..);obtain⟨β1,h1,v,i1,l1,o1,r1,a1⟩:=i.row (e:=34) r (rs:=q.1.bq.map kj) rfl (λk r r' h1 h2=>by
    rw[h1]at h2;obtain rfl:=oI h2;rw[List.getElem?_map]at h1;obtain⟨x,_,rfl⟩:=Option.map_eq_some_iff.1 h1;exact aK.pL (J3 x))
  obtain⟨β2,h2,ps,i2,l2,o2,hl,hm,ha,hk⟩:=BP oO (λq hm=>hq q (List.mem_cons_of_mem _ hm)) i1;refine⟨β2,h2,(q.1,v)::ps,i2,cC.le_trans l1 l2,o1.trans o2,by simp[hl],by simp[hm],λp hp=>?_,λk v' q' g1 g2=>?_⟩
  ·rcases mem_cons.1 hp with rfl|hp
   ·exact gi.ok a1 o2
   ·exact ha p hp
  ·cases k with
   |zero=>
    simp only[List.map_cons,List.getElem?_cons_zero,Option.some.injEq]at g1 g2;subst g1;subst g2;exact Rt (r1.mono l2)
   |succ k=>exact hk k v' q' (by simpa using g1) (by simpa using g2)
theorem FJ{β:cC}{h:aa}(i:rO β h W){v:Value}{oO:List (lA×Value)}(r:Bj W v 2 (oO.map L6))(hq:∀q∈oO,Md W q)(hd:∀a,v = .slice (some a) 0 0->a.spot=none/\∃cs t fr,W.heap[a.block]?=some (.cells cs t fr)):
  ∃β' h' v',rO β' h' W/\β.le β'/\Ok h h'/\az β' v' v/\eK h' v' (oO.map (·.1)):=by
 obtain⟨β1,h1,ps,i1,l1,o1,hl,hm,ha,hk⟩:=BP oO hq i;obtain⟨β2,h2,v',i2,l2,o2,r2,a2,ne⟩:=i1.Oz (e:=38) (rs:=ps.map L6) r (by simp[hl]) hk hd;exact⟨β2,h2,v',i2,cC.le_trans l1 l2,o1.trans o2,r2,ps,hm,a2,λp hp=>gi.ok (ha p hp) o2,ne⟩
end
end
end Go.Proofs.YtaheifbogkjpdaaGreatDoor
end
section
namespace Go.Proofs.YtaheifbogkjpdaaGreatDoor
open Go Go.ChangeShapes Go.WideShapes Go.ChangeAt Go.RowKit
theorem OH:ownKnob Tryz.prog.godebug=none:=by kernel_rfl
abbrev ks{H:Type}:List (String×DataW H):=[("math/bits.deBruijn32tab",Rows.laid_math_bits_deBruijn32tab),("math/bits.deBruijn64tab",Rows.laid_math_bits_deBruijn64tab),("internal/strconv.uint64pow10",Rows.laid_internal_strconv_uint64pow10)]
def S3:DataW Unit->Value
 |.lit (.int k n)=> .int k n
 |_=>undef
def yv:DataW Unit->Array Value
 |.agg l=>(l.map S3).toArray
 |_=> #[]
def Nv(c:Array Value):Obj->Obj
 |.cells _ t frozen=> .cells c t frozen
 |o=>o
noncomputable def BN(os:Os):World:=
 { World.holding Tryz.prog os ⟨#[],#[],[]⟩with heap:=(((World.holding Tryz.prog os ⟨#[],#[],[]⟩).heap.modify 1 (Nv (yv Rows.laid_math_bits_deBruijn32tab))).modify 2 (Nv (yv Rows.laid_math_bits_deBruijn64tab))).modify 0 (Nv (yv Rows.laid_internal_strconv_uint64pow10)) }
theorem AL(os:Os)(args:Array Value):laidMetH Tryz.prog ks ((BN os).forCall (λ_ _=>0) ⟨#[],args,[]⟩).memory:=
 laidMetH_of_parts (laidMet_of_run' 24 (by kernel_rfl) (by kernel_rfl)) (by kernel_rfl)
end Go.Proofs.YtaheifbogkjpdaaGreatDoor
end
section
namespace Go.Proofs.YtaheifbogkjpdaaGreatDoor
open Go Go.Ab Go.ChangeShapes Go.WideShapes Go.RowKit
section
theorem y9{P:Program}{w:World}:∀{l:List (String×DataW Unit)}{ps:List MemPlace},DataW.LaidVars P w l ps->∀n d,(n,d)∈l->
  ∃g t cs fuel p,P.globalNamed n=some g/\(P.globals[g]?).map (·.type)=some t/\w.var? P n=some cs/\DataW.trod (λ_=>()) P w 0 (λ_=>true) false fuel t cs.toList=some (d,p)
 |[],_,_,_,_,hm=>by cases hm
 | (n',d')::r,ps,h,n,d,hm=>by
  obtain⟨g,t,cs,fuel,p,q,h1,h2,h3,h4,h5,_⟩:=h;rcases mem_cons.1 hm with e|e
  ·cases e
   exact⟨g,t,cs,fuel,p,h1,h2,h3,h4⟩
  ·exact y9 h5 n d e
theorem N3:Rows.laid_internal_strconv_uint64pow10=(.agg ((List.range 20).map λi=>(.lit (.int .u64 ((10^i:Nat):Int)):DataW Unit)):DataW Unit):=by kernel_rfl
section
variable {W:World}
theorem Q4(hL:laidMetH Tryz.prog ks W):∃cs t fr,W.heap[0]?=some (.cells cs t fr)/\∀β,fz β GG 0 cs:=by
 rw[MakeChecks.laidMetH_plain _ _ _ (by kernel_rfl)]at hL;obtain⟨ps,hl,_⟩:=hL;obtain⟨g,t,cs,fuel,p,hg,ht,hv,hd⟩:=y9 hl "internal/strconv.uint64pow10" Rows.laid_internal_strconv_uint64pow10 (by simp[ks]);obtain rfl:=oI ((show Tryz.prog.globalNamed "internal/strconv.uint64pow10" = some 0 by kernel_rfl).symm.trans hg);obtain rfl:=oI ((show(Tryz.prog.globals[0]?).map (·.type)=some 184 by kernel_rfl).symm.trans ht);obtain⟨xs,m,_,ex,_,hl,hel⟩:=DataW.trod_array Tryz.underlying184 hd;have e3:xs.map (·.1)=(List.range 20).map λi=>(.lit (.int .u64 ((10^i:Nat):Int)):DataW Unit):=by
  have:=(Prod.mk.inj ex).1.symm.trans N3;exact DataW.agg.inj this
 have hb:∃t fr,W.heap[0]?=some (.cells cs t fr):=by
  simp only[World.var?,hg,Option.bind_some]at hv;split at hv
  ·next c t fr hb=>obtain rfl:=oI hv;exact⟨t,fr,hb⟩
  ·cases hv
 obtain⟨t,fr,hb⟩:=hb;refine⟨cs,t,fr,hb,λβ k v hk=>?_⟩;have hlt:k<20:=by
  have:=(List.getElem?_eq_some_iff.1 hk).1;simpa[GG]using this
 have hv:v=uv (10^k):=by
  simp[GG,List.getElem?_range hlt]at hk;exact hk.symm
 have hE:=hel k hlt;rw[Vf,mul_one,gE (by omega)]at hE;obtain⟨z,e1,e2,_⟩:=DataW.trod_int Tryz.underlying117 hE;have e4:(xs.map (·.1))[k]?=some (.lit (.int .u64 ((10^k:Nat):Int))):=by rw[e3];simp[List.getElem?_range hlt]
 rw[List.getElem?_map,gE (by omega:k<xs.length),e2]at e4;have hz:z=((10^k:Nat):Int):=by
  simpa using e4
 subst hz;have:cs.toList[k]?=some (.int .u64 ((10^k:Nat):Int)):=by
  have h0:((cs.toList.drop k).take 1)[0]?=some (.int .u64 ((10^k:Nat):Int)):=by rw[e1];rfl
  simpa using h0
 refine⟨.int .u64 ((10^k:Nat):Int),by simpa using this,?_⟩;rw[hv];exact .int _ _
theorem Qs(hL:laidMetH Tryz.prog ks W):∃β h,rO β h W/\Gl Nm β/\qP h:=by
 obtain⟨cs,t,fr,hb,hc⟩:=Q4 hL;refine⟨_,_,(Yc 0 W).push hb (hc _),λg hg=>?_,t,false,aa.fZ ⟨0,.nil⟩ _⟩;have:g=0:=by simpa[Nm]using hg
 subst this;exact⟨_,cC.bR _ _ _,rfl,rfl,rfl⟩
theorem O5{base:Nat}{k s:Int}{ld:List UInt8}{v:Value}(hval:Value.okWide Tryz.prog W .any base 24 (.agg #[.int .i64 k,.int .i64 s,strOf ld,v]))(a:Addr)(e:v = .slice (some a) 0 0):a.spot=none/\∃cs t fr,W.heap[a.block]?=some (.cells cs t fr):=by
 simp only[Value.okWide,Tryz.underlying24]at hval;obtain⟨cs,hcs,_,ts,hts,_,hc⟩:=hval;obtain rfl:=Value.agg.inj hcs;obtain rfl:=oI ((show Tryz.prog.cellTypes Tryz.prog.depth 24=some [3,3,9,22] by kernel_rfl).symm.trans hts);obtain⟨u,hu,hk⟩:=hc 3 v rfl;obtain rfl:22=u:=oI hu;subst e;simp only[Cell.okWide,Cell.ok,Tryz.underlying22]at hk;obtain⟨_,_,_,hs,row,cells,hsh,_⟩:=hk;refine⟨hs,?_⟩;unfold World.shape? at hsh;split at hsh
 ·next c t fr hb=>exact⟨c,t,fr,hb⟩
 ·cases hsh
end
end
section
section
variable {W:World}
def YZ(W:World)(v:Value)(S:Value->aa->Prop):Prop:=(∀v' h h',Ok h h'->S v' h->S v' h')/\∀{β:cC}{h:aa},rO β h W->∃β' h' v',rO β' h' W/\β.le β'/\Ok h h'/\az β' v' v/\S v' h'
def UT(W:World)(vs:List Value)(T:List Value->aa->Prop):Prop:=∀{β:cC}{h:aa},rO β h W->∃β' h' vs',rO β' h' W/\β.le β'/\Ok h h'/\aK β' vs' vs/\T vs' h'
theorem QC:UT W [] λvs' _=>vs'=[]:=λ{β h} i=>⟨β,h,[],i,β.le_refl,Ok.refl i.wf,.nil _,rfl⟩
theorem Nw{v:Value}{S:Value->aa->Prop}{vs:List Value}{T:List Value->aa->Prop}(a:YZ W v S)(b:UT W vs T):UT W (v::vs) λvs' h=>∃x r,vs'=x::r/\S x h/\T r h:=λ{β h} i=>by
 obtain⟨β1,h1,x,i1,l1,o1,r1,s1⟩:=a.2 i;obtain⟨β2,h2,r,i2,l2,o2,r2,t2⟩:=b i1;exact⟨β2,h2,x::r,i2,cC.le_trans l1 l2,o1.trans o2,.cons (r1.mono l2) r2,x,r,rfl,a.1 _ _ _ o2 s1,t2⟩
def UW(v:Value)(h:aa):Prop:=∃(M:bA)(a:Option Addr)(c:Nat),v = .agg ⟨dD M a M.aq.length c⟩/\Xw M/\Su M/\eK h (.slice a M.aq.length c) M.aq
variable {H:Type} {enc:TypeId×Value->H}
theorem QB{base:Nat}{v0:Value}{d0:DataW H}{p:List MemPlace}(hval:Value.okWide Tryz.prog W .any base 24 v0)(hd:DataW.Trod enc Tryz.prog W 0 (λ_=>true) true 24 v0 d0 p)(hw:(d0.weights Tryz.prog 24).all (· <=reachBytes)=true):YZ W v0 UW:=by
 refine⟨λv h h' o s=>?_,λ{β h} i=>?_⟩
 ·obtain⟨M,a,c,e,b,st,r⟩:=s;exact⟨M,a,c,e,b,st,r.ok o⟩
 obtain⟨cs,rfl,_⟩:=okWide_struct Tryz.underlying24 hval;obtain⟨fuel,hd⟩:=hd;obtain⟨k,s,ld,v,oO,hcs,hld,hr,hq⟩:=Dc hd hw;have hcs:cs = #[.int .i64 k,.int .i64 s,strOf ld,v]:=by
  rw[<-Array.toList_inj];exact hcs
 subst hcs;obtain⟨β1,h1,v',i1,l1,o1,r1,Un⟩:=FJ i hr hq (O5 hval);obtain⟨ps,hps,hrd,_,_⟩:=id Un;obtain⟨a,c,rfl⟩:=hrd.L5;have hn:(ps.map L6).length=(oO.map (·.1)).length:=by rw[<-hps,lM,lM]
 rw[hn]at r1 Un;refine⟨β1,h1,.agg ⟨dD ⟨k,s,ld,oO.map (·.1)⟩ a (oO.map (·.1)).length c⟩,i1,l1,o1,?_,⟨k,s,ld,oO.map (·.1)⟩,a,c,rfl,λx hx=>?_,⟨hld,λx hx=>?_,λx hx=>?_⟩,Un⟩
 ·exact .agg rfl (gN.toList.2 (.cons (.int _ _) (.cons (.int _ _) (.cons (.string _) (.cons r1 (.nil _)))))).2
 ·obtain⟨q,hq',rfl⟩:=mem_map.1 hx;exact(hq q hq').2.1
 ·obtain⟨q,hq',rfl⟩:=mem_map.1 hx;exact(hq q hq').2.2.1
 ·obtain⟨q,hq',rfl⟩:=mem_map.1 hx;exact(hq q hq').2.2.2
theorem KH{f:FuncId}{fn:Func}(hf:Tryz.prog.funcs[f]?=some fn)(hb:fn.body.isSome=true)(hY:f<YB){args:Array Value}{T:List Value->aa->Prop}(l:UT W args.toList T)(hL:laidMetH Tryz.prog ks W)
  (hfw:∀{h:aa}{vs:List Value}(_:qP h)(_:Wf h),T vs h->FW SS f vs h (EQ h)):Calls Tryz.prog f args W λe w'=>e = .returned (.bool true)/\Below W.heap.size W w':=by
 obtain⟨β0',h0,i0,g0,t0⟩:=Qs hL;obtain⟨β1,h1,vs,i1,l1,o1,r1,t1⟩:=l i0;refine(EN ax N6 (hfw (t0.ok o1) i1.wf t1) hY hf hb i1 (g0.mono l1) (args':=args) r1).mono ?_;rintro e w' ⟨x,x',h',β',rfl,⟨rfl,_⟩,hx,_,hb⟩
 cases hx
 exact⟨rfl,hb⟩
end
end
end Go.Proofs.YtaheifbogkjpdaaGreatDoor
end
section
namespace Go.Proofs.YtaheifbogkjpdaaGreatDoor
open Go Go.Ab Go.ChangeShapes Go.WideShapes Go.ChangeAt Go.RowKit
theorem KG:laidOutB Tryz.prog=true:=by kernel_rfl
set_option maxRecDepth 100000 in
theorem qR(os:Os)(started:os.Started)(H:Type)(enc:TypeId×Value->H):
  ReturnsInHanded {} Tryz.checked os 3 .any (λw args=>(Rows.minimalFirstSpec.pre enc Tryz.prog Tryz.f3 [] false w args/\laidMetH Tryz.prog ks w)/\sizedMet enc Tryz.prog Tryz.f3 (OpenSpec.ofChange Rows.minimalFirstSpec) false w args)
   (Rows.minimalFirstSpec.post enc Tryz.prog Tryz.f3 false true false false):=by
 refine returnsInHanded_of_change_and (C:=Tryz.checked) (X:=λw _=>laidMetH Tryz.prog ks w) (λ_ _ _ hh h=>h.of_heap hh) OH started (by kernel_rfl) Tryz.func3
  (ChangeSpec.witness_at (enc:=enc) (C:=Tryz.checked) (os:=os) (X:=λw _=>laidMetH Tryz.prog ks w) false (BN os) #[.agg #[.int .i64 0,.int .i64 0,.string ⟨#[]⟩,.slice none 0 0]] 8 rfl (by kernel_rfl) (by kernel_rfl) (by kernel_rfl) (by kernel_rfl) (by kernel_rfl) (AL os _)) ?_
 intro W base args ds gs before hval0 hW _ hwt hL _;have hval:∀(j:Nat) t v,Tryz.f3.params[j]?=some t->args[j]?=some v->Value.okWide Tryz.prog W .any base t v:=hval0;have hW':=hW;obtain⟨p,q,hA0,hV,rfl,hfz,hnd⟩:=hW;have hA:DataW.TrodAll enc Tryz.prog W 0 (λ_=>true) true Tryz.f3.params.toList args.toList ds p:=hA0;rw[Tryz.params3]at hA hval;obtain⟨v0,vs0,d0,ds0,p0,q0,hargs,rfl,rfl,t0,hA1⟩:=trodAll_cons hA;obtain⟨rfl,rfl,rfl⟩:=trodAll_nil hA1;have hargs:args = #[v0]:=by
  rw[<-Array.toList_inj];exact hargs
 subst hargs;obtain⟨rfl,rfl⟩:=trodVars_none hV;rw[append_nil]at hW';have h1:(DataW.weightsEach Tryz.prog (Tryz.f3.params.toList++Rows.minimalFirstSpec.plain.varTypes Tryz.prog) ([d0]++[])).all (· <=reachBytes)=true:=hwt;rw[Tryz.params3]at h1;have h2:(d0.weights Tryz.prog 24++(DataW.weightsEach Tryz.prog (Rows.minimalFirstSpec.plain.varTypes Tryz.prog) [])).all (· <=reachBytes)=true:=h1;simp only[all_append,and_eq_true]at h2;obtain⟨w0,_⟩:=h2;have ld:UT W #[v0].toList _:=Nw (QB (hval 0 24 v0 rfl rfl) t0 w0) (QC);refine(KH Tryz.func3 (by kernel_rfl) (by unfold YB;decide) ld hL λtb w T=>?_).mono λe W2 ⟨he,hb⟩=>?_
 ·obtain⟨x0,r0,rfl,s0,rfl⟩:=T;obtain⟨M0,a0,c0,rfl,b0,e0,r0⟩:=s0;exact QA tb w b0 e0 r0
 subst he;have hlt:∀x∈p0++([]),x.block<W.heap.size:=λx hx=>hW'.lt x hx;exact⟨_,rfl,Nu (ds:=[d0]) (places:=p0++([])) rfl hW' hb rfl rfl (λ_ _ _=>(trodAll_cons_mk (shut_bool Tryz.underlying4 _) trodAll_mk0))
  (ok_one (by kernel_rfl) rfl (okWide_bool_mk Tryz.underlying4 _)) (λsp hsp=>by
   rw[Tryz.params3];exact trodAll_cons_mk (WideElems.Trod_stays KG (by kernel_rfl) (dT (by kernel_rfl)) t0 (λx hx=>hb.same (hlt x (mem_append_left _ hx))) (λx hx=>hsp x (mem_append_left _ hx))) (trodAll_mk0))⟩
theorem tB:Rows.MinimalFirstSaid:=
 OpenClaim.holds_of_wide 3 Tryz.f3 rfl rfl rfl rfl rfl rfl rfl ⟨rfl,rfl,rfl,rfl,rfl⟩ rfl rfl rfl rfl rfl (by kernel_rfl) Tryz.func3 (by kernel_rfl)
  (dT (by kernel_rfl)) (by unfold Func.isWrapper;first|(rw[if_pos (by decide +kernel)];kernel_rfl)|(rw[if_neg (by decide +kernel)];exact⟨rfl,rfl⟩))
  (λos started H enc _=>qR os started H enc)
theorem minimalFirst_holds:Rows.MinimalFirstCardSaid:=
 Claim7.holds_tied_plain_at .later [] [.data,.data,.data] true (true,"f27b5e8ceb2980a619348e3a61cbec73bd8b00a96177487f74729b0df1404cbb") true
  tB (λ_ h=>by cases h) (by kernel_rfl) (λ_ h=>by cases h) minimalFirst_row_tie rfl ⟨rfl,rfl⟩ (by kernel_rfl) rfl
  (λf fn hf hfn=>by
   obtain rfl:f=3:=oI ((show Tryz.prog.funcNamed "abugida/abugidalaw15.MinimalFirst" = some 3 by kernel_rfl).symm.trans hf) |>.symm
   obtain rfl:fn=Tryz.f3:=(oI (Tryz.func3.symm.trans hfn)).symm;exact⟨by kernel_rfl,λj t ht=>by
    rw[Tryz.params3]at ht;have hm:t∈[24]:=by simpa using Array.mem_of_getElem? ht
    have hall:([24].all λu=> !Tryz.prog.wantsStandIn u)=true:=by kernel_rfl
    exact(show Tryz.prog.wantsStandIn t=false by simpa using List.all_eq_true.1 hall t hm)⟩)
  (by kernel_rfl)
end Go.Proofs.YtaheifbogkjpdaaGreatDoor
end
