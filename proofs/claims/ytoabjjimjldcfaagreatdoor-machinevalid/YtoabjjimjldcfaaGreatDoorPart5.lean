/- Laws and walks that the proof leans on (part 5): W9; P20; NumMul; P21; NumParts; P25 and others. No condition. -/
import Derived.Test.YtoabjjimjldcfaaGreatDoorPart3
import Derived.Test.YtoabjjimjldcfaaGreatDoorPart4
section
set_option linter.unusedVariables false
set_option maxRecDepth 100000
namespace Go.Proofs.YtoabjjimjldcfaaGreatDoor
open Go Go.Ab
noncomputable def Am:Code:=(Tryz.f168.body).getD .skip
def SL:List Nat:=[]
abbrev KA(x y z:Int)(h:Heap)(Q:VH):Prop:=xI .u64(an SS.P .rem 103(.int .u64(IntKind.wrap .u64(IntKind.wrap .u64(x + y) + z)))(.int .u64 1000000000))fun n1=>xI .u64(an SS.P .quo 103(.int .u64(IntKind.wrap .u64(IntKind.wrap .u64(x + y) + z)))(.int .u64 1000000000))fun n2=>Q(.tuple⟨[(.int .u64 n1),(.int .u64 n2)]⟩)h
theorem ON(x y z:Int)(h:Heap)(Q:VH)(hx:KA x y z h Q):FW SS 168 [(.int .u64 x),(.int .u64 y),(.int .u64 z)] h Q:=ay(M:=SL)(c:=Am)Tryz.func168(show Tryz.f168.body=some Am by kernel_rfl)(by kernel_rfl)(aj hx(by kernel_rfl))
noncomputable def wK:Code:=(Tryz.f174.body).getD .skip
def Rf:List Nat:=[]
abbrev Ge(x y z:Int)(h:Heap)(Q:VH):Prop:=xI .u64(an SS.P .rem 103(.int .u64(IntKind.wrap .u64(IntKind.wrap .u64(IntKind.wrap .u64(x + 1000000000) - y) - z)))(.int .u64 1000000000))fun n1=>xI .u64(an SS.P .quo 103(.int .u64(IntKind.wrap .u64(IntKind.wrap .u64(IntKind.wrap .u64(x + 1000000000) - y) - z)))(.int .u64 1000000000))fun n2=>Q(.tuple⟨[(.int .u64 n1),(.int .u64(IntKind.wrap .u64(1 - n2)))]⟩)h
theorem MC(x y z:Int)(h:Heap)(Q:VH)(hx:Ge x y z h Q):FW SS 174 [(.int .u64 x),(.int .u64 y),(.int .u64 z)] h Q:=ay(M:=Rf)(c:=wK)Tryz.func174(show Tryz.f174.body=some wK by kernel_rfl)(by kernel_rfl)(aj hx(by kernel_rfl))
noncomputable def eE:Code:=(Tryz.f167.body).getD .skip
noncomputable def zG(Q:VH):ak:=cF SS Tryz.f167.results.toList Q
def re:List Nat:=[0,1,2,7,8,18,19]
noncomputable def z0(p:List Nat)(w:LV)(h:Heap)(Q:ak):Prop:=bq SS Tryz.f167.ntmps re(aQ p eE)w h Q
noncomputable def zs(p b:List Nat)(K:ak):ak:=ko SS Tryz.f167.ntmps re p(aQ b eE)K
abbrev Jm(a:OA)(n c:Nat)(b:OA)(m d:Nat)(h:Heap)(Q:VH):Prop:=xI .i64(km true [(iA n),(iA m)])fun n1=>z0 [1,1,1,0,1,0,0] [(.slice a n c),(.slice b m d),(.func(.func 168)⟨[]⟩⟨[]⟩),nA,(.int .u64 0),(.int .i64(IntKind.wrap .i64(n1 + 1))),(.int .i64 0)] h(zs [1,1,1,0,1,0] [] (zG Q))
theorem F6(a:OA)(n c:Nat)(b:OA)(m d:Nat)(h:Heap)(Q:VH)(hx:Jm a n c b m d h Q):FW SS 167 [(.slice a n c),(.slice b m d),(.func(.func 168)⟨[]⟩⟨[]⟩)] h Q:=ay(M:=re)(c:=eE)Tryz.func167(show Tryz.f167.body=some eE by kernel_rfl)(by kernel_rfl)(aj hx(by kernel_rfl))
abbrev gw(a:OA)(n c:Nat)(b:OA)(m d:Nat)(aS:Int)(i:Nat)(cy:Int)(r:OA)(rn:Nat)(rc:Nat)  : LV:=[(.slice a n c),(.slice b m d),(.func(.func 168)⟨[]⟩⟨[]⟩),(.slice r rn rc),(.int .u64 cy),(.int .i64 aS),(iA i)]
def ce(a:OA)(n c:Nat)(b:OA)(m d:Nat)(aS:Int)(Inv:Nat->Nat->Int->OA->Nat->Nat->Heap->Prop)(mz:Nat)(w:LV)(h:Heap):Prop:= ∃ (i:Nat)(cy:Int)(r:OA)(rn:Nat)(rc:Nat) ,w=(gw a n c b m d aS i cy r rn rc )/\Inv mz i cy r rn rc h
abbrev mn(a:OA)(n c:Nat)(b:OA)(m d:Nat)(aS:Int)(Inv:Nat->Nat->Int->OA->Nat->Nat->Heap->Prop)(Q:VH)(mz:Nat)(i:Nat)(cy:Int)(r:OA)(rn:Nat)(rc:Nat)  (zz:Nat->Value)(h:Heap):Prop:=ax(decide(((i:Int):Int) < aS))(ax(decide(((i:Int):Int) < (n:Int)))(xP(ag SS.P 136(.slice a n c)(iA i))fun p2=>xI .u64(ai SS.P 103 h(.pointer(some p2)))fun n3=>ax(decide(((i:Int):Int) < (m:Int)))(xP(ag SS.P 136(.slice b m d)(iA i))fun p4=>xI .u64(ai SS.P 103 h(.pointer(some p4)))fun n5=>FW SS 168 [(.int .u64 n3),(.int .u64 n5),(.int .u64 cy)] h fun v6 h7=>∃ n8:Int,∃ n9:Int,v6=(.tuple⟨[(.int .u64 n8),(.int .u64 n9)]⟩)/\xR(az SS.P 136 1 [(0,(.int .u64 n8))])h7 fun B10 n11 c12 g13=>xE(aC SS.P 136 136(.slice r rn rc)(sA(h7.next)n11 c12)g13)g13 fun a14 n15 c16 u17 g18=>al(ce a n c b m d aS Inv)mz [(.slice a n c),(.slice b m d),(.func(.func 168)⟨[]⟩⟨[]⟩),(.slice a14 n15 c16),(.int .u64 n9),(.int .i64 aS),(.int .i64(IntKind.wrap .i64((i:Int) + 1)))] g18)(FW SS 168 [(.int .u64 n3),(.int .u64 0),(.int .u64 cy)] h fun v19 h20=>∃ n21:Int,∃ n22:Int,v19=(.tuple⟨[(.int .u64 n21),(.int .u64 n22)]⟩)/\xR(az SS.P 136 1 [(0,(.int .u64 n21))])h20 fun B23 n24 c25 g26=>xE(aC SS.P 136 136(.slice r rn rc)(sA(h20.next)n24 c25)g26)g26 fun a27 n28 c29 u30 g31=>al(ce a n c b m d aS Inv)mz [(.slice a n c),(.slice b m d),(.func(.func 168)⟨[]⟩⟨[]⟩),(.slice a27 n28 c29),(.int .u64 n22),(.int .i64 aS),(.int .i64(IntKind.wrap .i64((i:Int) + 1)))] g31))(ax(decide(((i:Int):Int) < (m:Int)))(xP(ag SS.P 136(.slice b m d)(iA i))fun p32=>xI .u64(ai SS.P 103 h(.pointer(some p32)))fun n33=>FW SS 168 [(.int .u64 0),(.int .u64 n33),(.int .u64 cy)] h fun v34 h35=>∃ n36:Int,∃ n37:Int,v34=(.tuple⟨[(.int .u64 n36),(.int .u64 n37)]⟩)/\xR(az SS.P 136 1 [(0,(.int .u64 n36))])h35 fun B38 n39 c40 g41=>xE(aC SS.P 136 136(.slice r rn rc)(sA(h35.next)n39 c40)g41)g41 fun a42 n43 c44 u45 g46=>al(ce a n c b m d aS Inv)mz [(.slice a n c),(.slice b m d),(.func(.func 168)⟨[]⟩⟨[]⟩),(.slice a42 n43 c44),(.int .u64 n37),(.int .i64 aS),(.int .i64(IntKind.wrap .i64((i:Int) + 1)))] g46)(FW SS 168 [(.int .u64 0),(.int .u64 0),(.int .u64 cy)] h fun v47 h48=>∃ n49:Int,∃ n50:Int,v47=(.tuple⟨[(.int .u64 n49),(.int .u64 n50)]⟩)/\xR(az SS.P 136 1 [(0,(.int .u64 n49))])h48 fun B51 n52 c53 g54=>xE(aC SS.P 136 136(.slice r rn rc)(sA(h48.next)n52 c53)g54)g54 fun a55 n56 c57 u58 g59=>al(ce a n c b m d aS Inv)mz [(.slice a n c),(.slice b m d),(.func(.func 168)⟨[]⟩⟨[]⟩),(.slice a55 n56 c57),(.int .u64 n50),(.int .i64 aS),(.int .i64(IntKind.wrap .i64((i:Int) + 1)))] g59)))(FW SS 142 [(.slice r rn rc)] h fun v60 h61=>yL v60 fun a62 n63 c64=>Q(.slice a62 n63 c64)h61)
theorem cM {a:OA}{n c:Nat}{b:OA}{m d:Nat}{aS:Int}{Inv:Nat->Nat->Int->OA->Nat->Nat->Heap->Prop}{mz:Nat}(mq:Nat){i:Nat}{cy:Int}{r:OA}{rn:Nat}{rc:Nat}  {h:Heap}(hm:mq < mz)(hi:Inv mq i cy r rn rc h):al(ce a n c b m d aS Inv)mz(gw a n c b m d aS i cy r rn rc )h :=⟨mq,hm,i,cy,r,rn,rc,rfl,hi⟩
theorem qq(a:OA)(n c:Nat)(b:OA)(m d:Nat)(aS:Int)(Inv:Nat->Nat->Int->OA->Nat->Nat->Heap->Prop)(Q:VH)(step:∀ (mz:Nat)(i:Nat)(cy:Int)(r:OA)(rn:Nat)(rc:Nat)  (zz:Nat->Value)(h:Heap),Inv mz i cy r rn rc h->mn a n c b m d aS Inv Q mz i cy r rn rc  zz h)(mz:Nat){i:Nat}{cy:Int}{r:OA}{rn:Nat}{rc:Nat}  {h:Heap}(hi:Inv mz i cy r rn rc h):z0 [1,1,1,0,1,0,0] (gw a n c b m d aS i cy r rn rc )h(zs [1,1,1,0,1,0] [] (zG Q)):=
 aq(A:=(ce a n c b m d aS Inv))(show aG Tryz.f167.ntmps(aQ [1,1,1,0,1,0,0] eE)=true by kernel_rfl)(fun mz w zz h⟨i,cy,r,rn,rc,hw,hi⟩=> by subst hw; exact aj(step mz i cy r rn rc  zz h hi)(by kernel_rfl))mz _ h⟨i,cy,r,rn,rc,rfl,hi⟩(fun zz=>by kernel_rfl)(by kernel_rfl)
noncomputable def dU:Code:=(Tryz.f167.body).getD .skip
noncomputable def xh(Q:VH):ak:=cF SS Tryz.f167.results.toList Q
def pn:List Nat:=[0,1,2,7,8,18,19]
noncomputable def wZ(p:List Nat)(w:LV)(h:Heap)(Q:ak):Prop:=bq SS Tryz.f167.ntmps pn(aQ p dU)w h Q
noncomputable def wA(p b:List Nat)(K:ak):ak:=ko SS Tryz.f167.ntmps pn p(aQ b dU)K
abbrev Gq(a:OA)(n c:Nat)(b:OA)(m d:Nat)(h:Heap)(Q:VH):Prop:=xI .i64(km true [(iA n),(iA m)])fun n1=>wZ [1,1,1,0,1,0,0] [(.slice a n c),(.slice b m d),(.func(.func 174)⟨[]⟩⟨[]⟩),nA,(.int .u64 0),(.int .i64(IntKind.wrap .i64(n1 + 1))),(.int .i64 0)] h(wA [1,1,1,0,1,0] [] (xh Q))
theorem Ed(a:OA)(n c:Nat)(b:OA)(m d:Nat)(h:Heap)(Q:VH)(hx:Gq a n c b m d h Q):FW SS 167 [(.slice a n c),(.slice b m d),(.func(.func 174)⟨[]⟩⟨[]⟩)] h Q:=ay(M:=pn)(c:=dU)Tryz.func167(show Tryz.f167.body=some dU by kernel_rfl)(by kernel_rfl)(aj hx(by kernel_rfl))
abbrev fB(a:OA)(n c:Nat)(b:OA)(m d:Nat)(aS:Int)(i:Nat)(cy:Int)(r:OA)(rn:Nat)(rc:Nat)  : LV:=[(.slice a n c),(.slice b m d),(.func(.func 174)⟨[]⟩⟨[]⟩),(.slice r rn rc),(.int .u64 cy),(.int .i64 aS),(iA i)]
def bS(a:OA)(n c:Nat)(b:OA)(m d:Nat)(aS:Int)(Inv:Nat->Nat->Int->OA->Nat->Nat->Heap->Prop)(mz:Nat)(w:LV)(h:Heap):Prop:= ∃ (i:Nat)(cy:Int)(r:OA)(rn:Nat)(rc:Nat) ,w=(fB a n c b m d aS i cy r rn rc )/\Inv mz i cy r rn rc h
abbrev kN(a:OA)(n c:Nat)(b:OA)(m d:Nat)(aS:Int)(Inv:Nat->Nat->Int->OA->Nat->Nat->Heap->Prop)(Q:VH)(mz:Nat)(i:Nat)(cy:Int)(r:OA)(rn:Nat)(rc:Nat)  (zz:Nat->Value)(h:Heap):Prop:=ax(decide(((i:Int):Int) < aS))(ax(decide(((i:Int):Int) < (n:Int)))(xP(ag SS.P 136(.slice a n c)(iA i))fun p2=>xI .u64(ai SS.P 103 h(.pointer(some p2)))fun n3=>ax(decide(((i:Int):Int) < (m:Int)))(xP(ag SS.P 136(.slice b m d)(iA i))fun p4=>xI .u64(ai SS.P 103 h(.pointer(some p4)))fun n5=>FW SS 174 [(.int .u64 n3),(.int .u64 n5),(.int .u64 cy)] h fun v6 h7=>∃ n8:Int,∃ n9:Int,v6=(.tuple⟨[(.int .u64 n8),(.int .u64 n9)]⟩)/\xR(az SS.P 136 1 [(0,(.int .u64 n8))])h7 fun B10 n11 c12 g13=>xE(aC SS.P 136 136(.slice r rn rc)(sA(h7.next)n11 c12)g13)g13 fun a14 n15 c16 u17 g18=>al(bS a n c b m d aS Inv)mz [(.slice a n c),(.slice b m d),(.func(.func 174)⟨[]⟩⟨[]⟩),(.slice a14 n15 c16),(.int .u64 n9),(.int .i64 aS),(.int .i64(IntKind.wrap .i64((i:Int) + 1)))] g18)(FW SS 174 [(.int .u64 n3),(.int .u64 0),(.int .u64 cy)] h fun v19 h20=>∃ n21:Int,∃ n22:Int,v19=(.tuple⟨[(.int .u64 n21),(.int .u64 n22)]⟩)/\xR(az SS.P 136 1 [(0,(.int .u64 n21))])h20 fun B23 n24 c25 g26=>xE(aC SS.P 136 136(.slice r rn rc)(sA(h20.next)n24 c25)g26)g26 fun a27 n28 c29 u30 g31=>al(bS a n c b m d aS Inv)mz [(.slice a n c),(.slice b m d),(.func(.func 174)⟨[]⟩⟨[]⟩),(.slice a27 n28 c29),(.int .u64 n22),(.int .i64 aS),(.int .i64(IntKind.wrap .i64((i:Int) + 1)))] g31))(ax(decide(((i:Int):Int) < (m:Int)))(xP(ag SS.P 136(.slice b m d)(iA i))fun p32=>xI .u64(ai SS.P 103 h(.pointer(some p32)))fun n33=>FW SS 174 [(.int .u64 0),(.int .u64 n33),(.int .u64 cy)] h fun v34 h35=>∃ n36:Int,∃ n37:Int,v34=(.tuple⟨[(.int .u64 n36),(.int .u64 n37)]⟩)/\xR(az SS.P 136 1 [(0,(.int .u64 n36))])h35 fun B38 n39 c40 g41=>xE(aC SS.P 136 136(.slice r rn rc)(sA(h35.next)n39 c40)g41)g41 fun a42 n43 c44 u45 g46=>al(bS a n c b m d aS Inv)mz [(.slice a n c),(.slice b m d),(.func(.func 174)⟨[]⟩⟨[]⟩),(.slice a42 n43 c44),(.int .u64 n37),(.int .i64 aS),(.int .i64(IntKind.wrap .i64((i:Int) + 1)))] g46)(FW SS 174 [(.int .u64 0),(.int .u64 0),(.int .u64 cy)] h fun v47 h48=>∃ n49:Int,∃ n50:Int,v47=(.tuple⟨[(.int .u64 n49),(.int .u64 n50)]⟩)/\xR(az SS.P 136 1 [(0,(.int .u64 n49))])h48 fun B51 n52 c53 g54=>xE(aC SS.P 136 136(.slice r rn rc)(sA(h48.next)n52 c53)g54)g54 fun a55 n56 c57 u58 g59=>al(bS a n c b m d aS Inv)mz [(.slice a n c),(.slice b m d),(.func(.func 174)⟨[]⟩⟨[]⟩),(.slice a55 n56 c57),(.int .u64 n50),(.int .i64 aS),(.int .i64(IntKind.wrap .i64((i:Int) + 1)))] g59)))(FW SS 142 [(.slice r rn rc)] h fun v60 h61=>yL v60 fun a62 n63 c64=>Q(.slice a62 n63 c64)h61)
theorem cB {a:OA}{n c:Nat}{b:OA}{m d:Nat}{aS:Int}{Inv:Nat->Nat->Int->OA->Nat->Nat->Heap->Prop}{mz:Nat}(mq:Nat){i:Nat}{cy:Int}{r:OA}{rn:Nat}{rc:Nat}  {h:Heap}(hm:mq < mz)(hi:Inv mq i cy r rn rc h):al(bS a n c b m d aS Inv)mz(fB a n c b m d aS i cy r rn rc )h :=⟨mq,hm,i,cy,r,rn,rc,rfl,hi⟩
theorem pC(a:OA)(n c:Nat)(b:OA)(m d:Nat)(aS:Int)(Inv:Nat->Nat->Int->OA->Nat->Nat->Heap->Prop)(Q:VH)(step:∀ (mz:Nat)(i:Nat)(cy:Int)(r:OA)(rn:Nat)(rc:Nat)  (zz:Nat->Value)(h:Heap),Inv mz i cy r rn rc h->kN a n c b m d aS Inv Q mz i cy r rn rc  zz h)(mz:Nat){i:Nat}{cy:Int}{r:OA}{rn:Nat}{rc:Nat}  {h:Heap}(hi:Inv mz i cy r rn rc h):wZ [1,1,1,0,1,0,0] (fB a n c b m d aS i cy r rn rc )h(wA [1,1,1,0,1,0] [] (xh Q)):=
 aq(A:=(bS a n c b m d aS Inv))(show aG Tryz.f167.ntmps(aQ [1,1,1,0,1,0,0] dU)=true by kernel_rfl)(fun mz w zz h⟨i,cy,r,rn,rc,hw,hi⟩=> by subst hw; exact aj(step mz i cy r rn rc  zz h hi)(by kernel_rfl))mz _ h⟨i,cy,r,rn,rc,rfl,hi⟩(fun zz=>by kernel_rfl)(by kernel_rfl)
noncomputable def tI:Code:=(Tryz.f159.body).getD .skip
def Lv:List Nat:=[]
abbrev Na(a:OA)(n c:Nat)(b:OA)(m d:Nat)(h:Heap)(Q:VH):Prop:=FW SS 167 [(.slice a n c),(.slice b m d),(.func(.func 168)⟨[]⟩⟨[]⟩)] h fun v1 h2=>yL v1 fun a3 n4 c5=>Q(.slice a3 n4 c5)h2
theorem JO(a:OA)(n c:Nat)(b:OA)(m d:Nat)(h:Heap)(Q:VH)(hx:Na a n c b m d h Q):FW SS 159 [(.slice a n c),(.slice b m d)] h Q:=ay(M:=Lv)(c:=tI)Tryz.func159(show Tryz.f159.body=some tI by kernel_rfl)(by kernel_rfl)(aj hx(by kernel_rfl))
noncomputable def qI:Code:=(Tryz.f162.body).getD .skip
def Jf:List Nat:=[]
abbrev IG(a:OA)(n c:Nat)(b:OA)(m d:Nat)(h:Heap)(Q:VH):Prop:=FW SS 167 [(.slice a n c),(.slice b m d),(.func(.func 174)⟨[]⟩⟨[]⟩)] h fun v1 h2=>yL v1 fun a3 n4 c5=>Q(.slice a3 n4 c5)h2
theorem HX(a:OA)(n c:Nat)(b:OA)(m d:Nat)(h:Heap)(Q:VH)(hx:IG a n c b m d h Q):FW SS 162 [(.slice a n c),(.slice b m d)] h Q:=ay(M:=Jf)(c:=qI)Tryz.func162(show Tryz.f162.body=some qI by kernel_rfl)(by kernel_rfl)(aj hx(by kernel_rfl))
noncomputable def nE:Code:=(Tryz.f141.body).getD .skip
def EQ:List Nat:=[]
abbrev Fg(a:OA)(n c:Nat)(h:Heap)(Q:VH):Prop:=FW SS 161 [(.slice a n c)] h fun v1 h2=>yS v1 fun l3=>ax(decide((((l3:LB).length:Int):Int) > 1000))(Q(.tuple⟨[(aa []),(.int .i64 2)]⟩)h2)(Q(.tuple⟨[(aa l3),(.int .i64 0)]⟩)h2)
theorem Cl(a:OA)(n c:Nat)(h:Heap)(Q:VH)(hx:Fg a n c h Q):FW SS 141 [(.slice a n c)] h Q:=ay(M:=EQ)(c:=nE)Tryz.func141(show Tryz.f141.body=some nE by kernel_rfl)(by kernel_rfl)(aj hx(by kernel_rfl))
noncomputable def xf:Code:=(Tryz.f137.body).getD .skip
def OO:List Nat:=[]
abbrev Qj(l m:LB)(h:Heap)(Q:VH):Prop:=FW SS 139 [(aa l)] h fun v1 h2=>yB v1 fun b3=>ax(!b3)(Q(.int .i64 0)h2)(FW SS 139 [(aa m)] h2 fun v4 h5=>yB v4 fun b6=>ax(!b6)(Q(.int .i64 0)h5)(FW SS 140 [(aa l)] h5 fun v7 h8=>yL v7 fun a9 n10 c11=>FW SS 140 [(aa m)] h8 fun v12 h13=>yL v12 fun a14 n15 c16=>FW SS 160 [(.slice a9 n10 c11),(.slice a14 n15 c16)] h13 fun v17 h18=>yI .i64 v17 fun n19=>Q(.int .i64 n19)h18))
theorem Mz(l m:LB)(h:Heap)(Q:VH)(hx:Qj l m h Q):FW SS 137 [(aa l),(aa m)] h Q:=ay(M:=OO)(c:=xf)Tryz.func137(show Tryz.f137.body=some xf by kernel_rfl)(by kernel_rfl)(aj hx(by kernel_rfl))
noncomputable def xe:Code:=(Tryz.f136.body).getD .skip
def Qz:List Nat:=[]
abbrev Pa(l m:LB)(h:Heap)(Q:VH):Prop:=FW SS 139 [(aa l)] h fun v1 h2=>yB v1 fun b3=>ax(!b3)(Q(.tuple⟨[(aa []),(.int .i64 1)]⟩)h2)(FW SS 139 [(aa m)] h2 fun v4 h5=>yB v4 fun b6=>ax(!b6)(Q(.tuple⟨[(aa []),(.int .i64 1)]⟩)h5)(FW SS 140 [(aa l)] h5 fun v7 h8=>yL v7 fun a9 n10 c11=>FW SS 140 [(aa m)] h8 fun v12 h13=>yL v12 fun a14 n15 c16=>FW SS 159 [(.slice a9 n10 c11),(.slice a14 n15 c16)] h13 fun v17 h18=>yL v17 fun a19 n20 c21=>FW SS 141 [(.slice a19 n20 c21)] h18 fun v22 h23=>∃ l24:LB,∃ n25:Int,v22=(.tuple⟨[(aa l24),(.int .i64 n25)]⟩)/\Q(.tuple⟨[(aa l24),(.int .i64 n25)]⟩)h23))
theorem Md(l m:LB)(h:Heap)(Q:VH)(hx:Pa l m h Q):FW SS 136 [(aa l),(aa m)] h Q:=ay(M:=Qz)(c:=xe)Tryz.func136(show Tryz.f136.body=some xe by kernel_rfl)(by kernel_rfl)(aj hx(by kernel_rfl))
noncomputable def wB:Code:=(Tryz.f138.body).getD .skip
def P6:List Nat:=[]
abbrev Qv(l m:LB)(h:Heap)(Q:VH):Prop:=FW SS 139 [(aa l)] h fun v1 h2=>yB v1 fun b3=>ax(!b3)(Q(.tuple⟨[(aa []),(.int .i64 1)]⟩)h2)(FW SS 139 [(aa m)] h2 fun v4 h5=>yB v4 fun b6=>ax(!b6)(Q(.tuple⟨[(aa []),(.int .i64 1)]⟩)h5)(FW SS 140 [(aa l)] h5 fun v7 h8=>yL v7 fun a9 n10 c11=>FW SS 140 [(aa m)] h8 fun v12 h13=>yL v12 fun a14 n15 c16=>FW SS 160 [(.slice a9 n10 c11),(.slice a14 n15 c16)] h13 fun v17 h18=>yI .i64 v17 fun n19=>ax(decide((n19:Int) < 0))(Q(.tuple⟨[(aa []),(.int .i64 4)]⟩)h18)(FW SS 162 [(.slice a9 n10 c11),(.slice a14 n15 c16)] h18 fun v20 h21=>yL v20 fun a22 n23 c24=>FW SS 161 [(.slice a22 n23 c24)] h21 fun v25 h26=>yS v25 fun l27=>Q(.tuple⟨[(aa l27),(.int .i64 0)]⟩)h26)))
theorem Nc(l m:LB)(h:Heap)(Q:VH)(hx:Qv l m h Q):FW SS 138 [(aa l),(aa m)] h Q:=ay(M:=P6)(c:=wB)Tryz.func138(show Tryz.f138.body=some wB by kernel_rfl)(by kernel_rfl)(aj hx(by kernel_rfl))
noncomputable def e9:Code:=(Tryz.f119.body).getD .skip
noncomputable def tJ(Q:VH):ak:=cF SS Tryz.f119.results.toList Q
def pq:List Nat:=[6,7,8,9,10,33,34,39,40]
noncomputable def tx(p:List Nat)(w:LV)(h:Heap)(Q:ak):Prop:=bq SS Tryz.f119.ntmps pq(aQ p e9)w h Q
noncomputable def lH(p b:List Nat)(K:ak):ak:=ko SS Tryz.f119.ntmps pq p(aQ b e9)K
abbrev Qn(l m:LB)(h:Heap)(Q:VH):Prop:=FW SS 139 [(aa l)] h fun v1 h2=>yB v1 fun b3=>ax(!b3)(Q(.tuple⟨[(aa []),(.int .i64 1)]⟩)h2)(FW SS 139 [(aa m)] h2 fun v4 h5=>yB v4 fun b6=>ax(!b6)(Q(.tuple⟨[(aa []),(.int .i64 1)]⟩)h5)(FW SS 140 [(aa l)] h5 fun v7 h8=>yL v7 fun a9 n10 c11=>FW SS 140 [(aa m)] h8 fun v12 h13=>yL v12 fun a14 n15 c16=>xR(aX SS.P 136(.int .i64(IntKind.wrap .i64(IntKind.wrap .i64((n10:Int) + (n15:Int)) + 1)))(.int .i64(IntKind.wrap .i64(IntKind.wrap .i64((n10:Int) + (n15:Int)) + 1))))h13 fun B17 n18 c19 g20=>tx [1,1,1,1,0,1,0,0] [(.slice a9 n10 c11),(.slice a14 n15 c16),(sA(h13.next)n18 c19),undef,undef,(iA n10),(.int .i64 0),undef,undef] g20(lH [1,1,1,1,0,1,0] [] (tJ Q))))
theorem MS(l m:LB)(h:Heap)(Q:VH)(hx:Qn l m h Q):FW SS 119 [(aa l),(aa m)] h Q:=ay(M:=pq)(c:=e9)Tryz.func119(show Tryz.f119.body=some e9 by kernel_rfl)(by kernel_rfl)(aj hx(by kernel_rfl))
abbrev kf(l m:LB)(a:OA)(n c:Nat)(b:OA)(k d:Nat)(t:OA)(tn tc:Nat)(aS:Int)(i:Nat)(y9 y10 y39 y40:Value):LV:=[(.slice a n c),(.slice b k d),(.slice t tn tc),y9,y10,(.int .i64 aS),(iA i),y39,y40]
def dW(l m:LB)(a:OA)(n c:Nat)(b:OA)(k d:Nat)(t:OA)(tn tc:Nat)(aS:Int)(Inv:Nat->Nat->Heap->Prop)(mz:Nat)(w:LV)(h:Heap):Prop:= ∃ (i:Nat)(y9 y10 y39 y40:Value),w=(kf l m a n c b k d t tn tc aS i y9 y10 y39 y40)/\Inv mz i h
abbrev AU(l m:LB)(a:OA)(n c:Nat)(b:OA)(k d:Nat)(t:OA)(tn tc:Nat)(aS:Int)(Inv:Nat->Nat->Heap->Prop)(Q:VH)(mz:Nat)(i:Nat)(y9 y10 y39 y40:Value)(zz:Nat->Value)(h:Heap):Prop:=ax(decide(((i:Int):Int) < aS))(tx [1,1,1,1,0,1,0,0,1,1,0,0,1,1,1,0,0] [(.slice a n c),(.slice b k d),(.slice t tn tc),(iA i),(.int .u64 0),(.int .i64 aS),(iA i),(.int .i64(IntKind.wrap .i64((k:Int) + 1))),(.int .i64 0)] h(lH [1,1,0,0,1,1,1,0] [1,1,1,1,0,1,0,0] (aU pq(dW l m a n c b k d t tn tc aS Inv)mz(lH [1,1,1,1,0,1,0] [] (tJ Q)))))(FW SS 142 [(.slice t tn tc)] h fun v21 h22=>yL v21 fun a23 n24 c25=>FW SS 141 [(.slice a23 n24 c25)] h22 fun v26 h27=>∃ l28:LB,∃ n29:Int,v26=(.tuple⟨[(aa l28),(.int .i64 n29)]⟩)/\Q(.tuple⟨[(aa l28),(.int .i64 n29)]⟩)h27)
theorem uc {l m:LB}{a:OA}{n c:Nat}{b:OA}{k d:Nat}{t:OA}{tn tc:Nat}{aS:Int}{Inv:Nat->Nat->Heap->Prop}{mz:Nat}(mq:Nat){i:Nat}{y9 y10 y39 y40:Value}{h:Heap}(hm:mq < mz)(hi:Inv mq i h):al(dW l m a n c b k d t tn tc aS Inv)mz(kf l m a n c b k d t tn tc aS i y9 y10 y39 y40)h :=⟨mq,hm,i,y9,y10,y39,y40,rfl,hi⟩
theorem uZ(l m:LB)(a:OA)(n c:Nat)(b:OA)(k d:Nat)(t:OA)(tn tc:Nat)(aS:Int)(Inv:Nat->Nat->Heap->Prop)(Q:VH)(step:∀ (mz:Nat)(i:Nat)(y9 y10 y39 y40:Value)(zz:Nat->Value)(h:Heap),Inv mz i h->AU l m a n c b k d t tn tc aS Inv Q mz i y9 y10 y39 y40 zz h)(mz:Nat){i:Nat}{y9 y10 y39 y40:Value}{h:Heap}(hi:Inv mz i h):tx [1,1,1,1,0,1,0,0] (kf l m a n c b k d t tn tc aS i y9 y10 y39 y40)h(lH [1,1,1,1,0,1,0] [] (tJ Q)):=
 aq(A:=(dW l m a n c b k d t tn tc aS Inv))(show aG Tryz.f119.ntmps(aQ [1,1,1,1,0,1,0,0] e9)=true by kernel_rfl)(fun mz w zz h⟨i,y9,y10,y39,y40,hw,hi⟩=> by subst hw; exact aj(step mz i y9 y10 y39 y40 zz h hi)(by kernel_rfl))mz _ h⟨i,y9,y10,y39,y40,rfl,hi⟩(fun zz=>by kernel_rfl)(by kernel_rfl)
abbrev jW(l m:LB)(a:OA)(n c:Nat)(b:OA)(k d:Nat)(t:OA)(tn tc:Nat)(aS:Int)(i:Nat)(lim2:Int)(j:Nat)(cy:Int)  : LV:=[(.slice a n c),(.slice b k d),(.slice t tn tc),(iA i),(.int .u64 cy),(.int .i64 aS),(iA i),(.int .i64 lim2),(iA j)]
def fZ(l m:LB)(a:OA)(n c:Nat)(b:OA)(k d:Nat)(t:OA)(tn tc:Nat)(aS:Int)(i:Nat)(lim2:Int)(Inv2:Nat->Nat->Int->Heap->Prop)(mz2:Nat)(w:LV)(h:Heap):Prop:= ∃ (j:Nat)(cy:Int) ,w=(jW l m a n c b k d t tn tc aS i lim2 j cy )/\Inv2 mz2 j cy h
abbrev oh(l m:LB)(a:OA)(n c:Nat)(b:OA)(k d:Nat)(t:OA)(tn tc:Nat)(aS:Int)(Inv:Nat->Nat->Heap->Prop)(mz i:Nat)(lim2:Int)(Inv2:Nat->Nat->Int->Heap->Prop)(Q:VH)(mz2:Nat)(j:Nat)(cy:Int)  (zz:Nat->Value)(h:Heap):Prop:=ax(decide(((j:Int):Int) < lim2))(xP(ag SS.P 136(.slice t tn tc)(.int .i64(IntKind.wrap .i64((i:Int) + (j:Int)))))fun p30=>xI .u64(ai SS.P 103 h(.pointer(some p30)))fun n31=>ax(decide(((j:Int):Int) < (k:Int)))(xP(ag SS.P 136(.slice a n c)(iA i))fun p32=>xI .u64(ai SS.P 103(room h 12)(.pointer(some p32)))fun n33=>xP(ag SS.P 136(.slice b k d)(iA j))fun p34=>xI .u64(ai SS.P 103(room h 12)(.pointer(some p34)))fun n35=>xI .u64(an SS.P .rem 103(.int .u64(IntKind.wrap .u64(IntKind.wrap .u64(n31 + cy) + IntKind.wrap .u64(n33 * n35))))(.int .u64 1000000000))fun n36=>xI .u64(an SS.P .quo 103(.int .u64(IntKind.wrap .u64(IntKind.wrap .u64(n31 + cy) + IntKind.wrap .u64(n33 * n35))))(.int .u64 1000000000))fun n37=>xP(ag SS.P 136(.slice t tn tc)(.int .i64(IntKind.wrap .i64((i:Int) + (j:Int)))))fun p38=>xU(am SS.P 103(.pointer(some p38))(.int .u64 n36)(room h 12))(room h 12)fun u39 g40=>al(fZ l m a n c b k d t tn tc aS i lim2 Inv2)mz2 [(.slice a n c),(.slice b k d),(.slice t tn tc),(iA i),(.int .u64 n37),(.int .i64 aS),(iA i),(.int .i64 lim2),(.int .i64(IntKind.wrap .i64((j:Int) + 1)))] g40)(xI .u64(an SS.P .rem 103(.int .u64(IntKind.wrap .u64(n31 + cy)))(.int .u64 1000000000))fun n41=>xI .u64(an SS.P .quo 103(.int .u64(IntKind.wrap .u64(n31 + cy)))(.int .u64 1000000000))fun n42=>xP(ag SS.P 136(.slice t tn tc)(.int .i64(IntKind.wrap .i64((i:Int) + (j:Int)))))fun p43=>xU(am SS.P 103(.pointer(some p43))(.int .u64 n41)h)h fun u44 g45=>al(fZ l m a n c b k d t tn tc aS i lim2 Inv2)mz2 [(.slice a n c),(.slice b k d),(.slice t tn tc),(iA i),(.int .u64 n42),(.int .i64 aS),(iA i),(.int .i64 lim2),(.int .i64(IntKind.wrap .i64((j:Int) + 1)))] g45))(al(dW l m a n c b k d t tn tc aS Inv)mz [(.slice a n c),(.slice b k d),(.slice t tn tc),(iA i),(.int .u64 cy),(.int .i64 aS),(.int .i64(IntKind.wrap .i64((i:Int) + 1))),(.int .i64 lim2),(iA j)] h)
theorem kU {l m:LB}{a:OA}{n c:Nat}{b:OA}{k d:Nat}{t:OA}{tn tc:Nat}{aS:Int}{i:Nat}{lim2:Int}{Inv2:Nat->Nat->Int->Heap->Prop}{mz2:Nat}(mq:Nat){j:Nat}{cy:Int}  {h:Heap}(hm:mq < mz2)(hi:Inv2 mq j cy h):al(fZ l m a n c b k d t tn tc aS i lim2 Inv2)mz2(jW l m a n c b k d t tn tc aS i lim2 j cy )h :=⟨mq,hm,j,cy,rfl,hi⟩
theorem uo(l m:LB)(a:OA)(n c:Nat)(b:OA)(k d:Nat)(t:OA)(tn tc:Nat)(aS:Int)(Inv:Nat->Nat->Heap->Prop)(mz i:Nat)(lim2:Int)(Inv2:Nat->Nat->Int->Heap->Prop)(Q:VH)(step:∀ (mz2:Nat)(j:Nat)(cy:Int)  (zz:Nat->Value)(h:Heap),Inv2 mz2 j cy h->oh l m a n c b k d t tn tc aS Inv mz i lim2 Inv2 Q mz2 j cy  zz h)(mz2:Nat){j:Nat}{cy:Int}  {h:Heap}(hi:Inv2 mz2 j cy h):tx [1,1,1,1,0,1,0,0,1,1,0,0,1,1,1,0,0] (jW l m a n c b k d t tn tc aS i lim2 j cy )h(lH [1,1,0,0,1,1,1,0] [1,1,1,1,0,1,0,0] (aU pq(dW l m a n c b k d t tn tc aS Inv)mz(lH [1,1,1,1,0,1,0] [] (tJ Q)))):=
 aq(A:=(fZ l m a n c b k d t tn tc aS i lim2 Inv2))(show aG Tryz.f119.ntmps(aQ [1,1,1,1,0,1,0,0,1,1,0,0,1,1,1,0,0] e9)=true by kernel_rfl)(fun mz2 w zz h⟨j,cy,hw,hi⟩=> by subst hw; exact aj(step mz2 j cy  zz h hi)(by kernel_rfl))mz2 _ h⟨j,cy,rfl,hi⟩(fun zz=>by kernel_rfl)(by kernel_rfl)
end Go.Proofs.YtoabjjimjldcfaaGreatDoor
end
section
set_option linter.unusedVariables false
set_option maxRecDepth 100000
namespace Go.Proofs.YtoabjjimjldcfaaGreatDoor
open Go Go.Ab
theorem P3(x y z:Nat)(hx:x < BB)(hy:y < BB)(hz:z<=1)(h:Heap):FW SS 168 [.int .u64(x:Int),.int .u64(y:Int),.int .u64(z:Int)] h(fun v h'=>v = .tuple⟨[uv(Num.plusF BB x y z).1,uv(Num.plusF BB x y z).2]⟩/\h' = h):=by
 have hBv:BB=1000000000:=rfl
 have e1:IntKind.wrap .u64((x:Int) + (y:Int))=((x + y:Nat):Int):=by rw [<- Int.natCast_add]; exact cJ(by omega)(by omega)
 have e2:IntKind.wrap .u64(((x + y:Nat):Int) + (z:Int))=((x + y + z:Nat):Int):=by rw [<- Int.natCast_add]; exact cJ(by omega)(by omega)
 refine ON _ _ _ h _ ?_
 unfold KA
 rw [e1,e2]
 refine⟨_,cO(b:=BB)(by omega)(by decide),_,kw(b:=BB)(by omega)(by omega)(by decide),?_,rfl⟩
 unfold uv Num.plusF
 rw [Int.natCast_emod,Int.natCast_ediv]
theorem M8(x y z:Nat)(hx:x < BB)(hy:y < BB)(hz:z<=1)(h:Heap):FW SS 174 [.int .u64(x:Int),.int .u64(y:Int),.int .u64(z:Int)] h(fun v h'=>v = .tuple⟨[uv(Num.minusF BB x y z).1,uv(Num.minusF BB x y z).2]⟩/\h' = h):=by
 have hBv:BB=1000000000:=rfl
 have hsum:x + BB - y - z < 2 * BB:=by omega
 have e1:IntKind.wrap .u64((x:Int) + 1000000000)=((x + BB:Nat):Int):=by rw [cJ(by omega)(by omega)]; omega
 have e2:IntKind.wrap .u64(((x + BB:Nat):Int) - (y:Int))=((x + BB - y:Nat):Int):=by rw [cJ(by omega)(by omega)]; omega
 have e3:IntKind.wrap .u64(((x + BB - y:Nat):Int) - (z:Int))=((x + BB - y - z:Nat):Int):=by rw [cJ(by omega)(by omega)]; omega
 refine MC _ _ _ h _ ?_
 unfold Ge
 rw [e1,e2,e3]
 refine⟨_,cO(b:=BB)(by omega)(by decide),_,kw(b:=BB)(by omega)(by omega)(by decide),?_,rfl⟩
 unfold uv Num.minusF
 dsimp af
 generalize x + BB - y - z=q at *
 have hq:q / BB<=1:=by
  have:q / BB < 2:=Nat.div_lt_of_lt_mul(by omega)
  omega
 have e4:IntKind.wrap .u64(1 - (q:Int) / (BB:Int))=((1 - q / BB:Nat):Int):=by
  rw [<- Int.natCast_ediv]
  clear hsum e1 e2 e3
  generalize q / BB=r at *
  rw [cJ(by omega)(by omega)]; omega
 rw [e4,Int.natCast_emod]
theorem R2 {p q c:Nat}(hp:p < BB)(hq:q < BB)(hc:c<=1):(Num.plusF BB p q c).2<=1:=by
 show(p + q + c) / BB<=1
 have:(p + q + c) / BB < 2:=Nat.div_lt_of_lt_mul(by omega)
 omega
theorem Oe {p q c:Nat}(hp:p < BB)(hq:q < BB)(hc:c<=1):(Num.minusF BB p q c).2<=1:=(Num.minus_step cI hp hq hc).2
theorem HF {h:Heap}{a b:Option Addr}{n c m d:Nat}{x y:List Nat}(ra:Rd h 103(.slice a n c)(x.map uv))(rb:Rd h 103(.slice b m d)(y.map uv))(hx:∀ d∈x,d < BB)(hy:∀ d∈y,d < BB)(hlx:x.length<=10000)(hly:y.length<=10000)(w:Wf h){R:Nat}(fin:Num.trimL(Num.eachF(Num.plusF BB)x y 0(max x.length y.length + 1)0)=Num.toB BB R) :
  FW SS 167 [.slice a n c,.slice b m d,.func(.func 168)⟨[]⟩⟨[]⟩] h(dz h 103(bl R)):=by
 have hn:n=x.length:=by have:=ra.len; rwa [List.length_map] at this
 have hm:m=y.length:=by have:=rb.len; rwa [List.length_map] at this
 rw [<- hn,<- hm] at fin
 have hcr:∀ j,Num.cr(Num.plusF BB)x y 0 0 j<=1:=by
  intro j
  induction j with
  | zero=>exact Nat.zero_le _
  | succ j ih=>exact R2(Num.getD_lt(by decide)hx _)(Num.getD_lt(by decide)hy _)ih
 have hmn:n<=max n m/\m<=max n m :=⟨Nat.le_max_left _ _,Nat.le_max_right _ _⟩
 have hmx2:max n m<=10000:=Nat.max_le.2⟨by omega,by omega⟩
 have hmx:(if(m:Int) > (n:Int) then(m:Int) else(n:Int))=((max n m:Nat):Int):=by split <;> omega
 generalize max n m=N at *
 have L:=qq a n c b m d((N:Int) + 1)(fun mz i cy r rn rc g=>i<=N + 1/\mz=N + 1 - i/\cy=(Num.cr(Num.plusF BB)x y 0 0 i:Nat)/\OwnR h g 103(.slice r rn rc)((Num.eachF(Num.plusF BB)x y 0 i 0).map uv)/\Ok h g)(dz h 103(bl R))(by
  intro mz i cy r rn rc; intros; rename_i g hi
  obtain⟨h1,h2,rfl,ho,ok⟩:=hi
  have hw3:IntKind.wrap .i64((i:Int) + 1)=((i + 1:Nat):Int):=by rw [ap(by omega)(by omega)]; omega
  unfold mn
  rw [hw3]
  have hel:(Num.eachF(Num.plusF BB)x y 0 i 0).length=i:=Num.eachF_len _ _ _ _ _ _
  have hsn:=Num.eachF_snoc(Num.plusF BB)x y i 0 0
  rw [Nat.zero_add] at hsn
  have hcr1:Num.cr(Num.plusF BB)x y 0 0(i + 1)=(Num.plusF BB(x.getD i 0)(y.getD i 0)(Num.cr(Num.plusF BB)x y 0 0 i)).2:=by
   show(Num.plusF BB(x.getD(0 + i)0)(y.getD(0 + i)0)_).2=_
   rw [Nat.zero_add]
  have hci:=hcr i
  have go:=P3(x.getD i 0)(y.getD i 0)(Num.cr(Num.plusF BB)x y 0 0 i)(Num.getD_lt(by decide)hx _)(Num.getD_lt(by decide)hy _)hci g
  refine ae(fun h5=>?_)(fun h5=>?_)
  · have h5:=of_decide_eq_true h5
   refine ae(fun h6=>?_)(fun h6=>?_)
   · have h6:=of_decide_eq_true h6
    obtain⟨q,g2,g3⟩:=Dy(ra.ok ok)(i:=(i:Int))(by omega)(by omega)
    rw [Int.toNat_natCast] at g3
    refine⟨q,g2,_,g3,ae(fun h7=>?_)(fun h7=>?_)⟩
    · have h7:=of_decide_eq_true h7
     obtain⟨q2,g4,g5⟩:=Dy(rb.ok ok)(i:=(i:Int))(by omega)(by omega)
     rw [Int.toNat_natCast] at g5
     refine⟨q2,g4,_,g5,go.mono ?_⟩
     rintro _ _⟨rfl,rfl⟩
     refine⟨_,_,rfl,_,_,_,nG _,?_⟩
     obtain⟨b,m,d,u,g6,g7,g8,g9⟩:=fL w ok ho((Num.plusF BB(x.getD i 0)(y.getD i 0)(Num.cr(Num.plusF BB)x y 0 0 i)).1:Nat)(by rw [List.length_map,hel]; omega)
     refine⟨b,m,d,u,g6,cM(mz - 1)(by omega)⟨by omega,by omega,by rw [hcr1],?_,g9⟩⟩
     rw [hsn,List.map_append]
     exact g8
    · have h7:=of_decide_eq_false h7
     have y0:y.getD i 0=0:=by rw [List.getD_eq_getElem?_getD,List.getElem?_eq_none(by omega)]; rfl
     rw [y0] at go hsn hcr1
     refine go.mono ?_
     rintro _ _⟨rfl,rfl⟩
     refine⟨_,_,rfl,_,_,_,nG _,?_⟩
     obtain⟨b,m,d,u,g6,g7,g8,g9⟩:=fL w ok ho((Num.plusF BB(x.getD i 0)0(Num.cr(Num.plusF BB)x y 0 0 i)).1:Nat)(by rw [List.length_map,hel]; omega)
     refine⟨b,m,d,u,g6,cM(mz - 1)(by omega)⟨by omega,by omega,by rw [hcr1],?_,g9⟩⟩
     rw [hsn,List.map_append]
     exact g8
   · have h6:=of_decide_eq_false h6
    have x0:x.getD i 0=0:=by rw [List.getD_eq_getElem?_getD,List.getElem?_eq_none(by omega)]; rfl
    rw [x0] at go hsn hcr1
    refine ae(fun h7=>?_)(fun h7=>?_)
    · have h7:=of_decide_eq_true h7
     obtain⟨q2,g4,g5⟩:=Dy(rb.ok ok)(i:=(i:Int))(by omega)(by omega)
     rw [Int.toNat_natCast] at g5
     refine⟨q2,g4,_,g5,go.mono ?_⟩
     rintro _ _⟨rfl,rfl⟩
     refine⟨_,_,rfl,_,_,_,nG _,?_⟩
     obtain⟨b,m,d,u,g6,g7,g8,g9⟩:=fL w ok ho((Num.plusF BB 0(y.getD i 0)(Num.cr(Num.plusF BB)x y 0 0 i)).1:Nat)(by rw [List.length_map,hel]; omega)
     refine⟨b,m,d,u,g6,cM(mz - 1)(by omega)⟨by omega,by omega,by rw [hcr1],?_,g9⟩⟩
     rw [hsn,List.map_append]
     exact g8
    · have h7:=of_decide_eq_false h7
     have y0:y.getD i 0=0:=by rw [List.getD_eq_getElem?_getD,List.getElem?_eq_none(by omega)]; rfl
     rw [y0] at go hsn hcr1
     refine go.mono ?_
     rintro _ _⟨rfl,rfl⟩
     refine⟨_,_,rfl,_,_,_,nG _,?_⟩
     obtain⟨b,m,d,u,g6,g7,g8,g9⟩:=fL w ok ho((Num.plusF BB 0 0(Num.cr(Num.plusF BB)x y 0 0 i)).1:Nat)(by rw [List.length_map,hel]; omega)
     refine⟨b,m,d,u,g6,cM(mz - 1)(by omega)⟨by omega,by omega,by rw [hcr1],?_,g9⟩⟩
     rw [hsn,List.map_append]
     exact g8
  · have h5:=of_decide_eq_false h5
   obtain rfl:i=N + 1:=by omega
   refine(ny ho(by rw [hel]; omega)).mono ?_
   rintro _ g2⟨a',n',c',rfl,o2,rfl⟩
   rw [fin] at o2
   exact⟨a',n',c',rfl,a',n',c',rfl,o2,ok⟩)
 refine F6 a n c b m d h _⟨_,uy _ _ _,?_⟩
 have hw:IntKind.wrap .i64((N:Int) + 1)=(N:Int) + 1:=ap(by omega)(by omega)
 dsimp af
 rw [hmx,hw]
 exact L(N + 1)(i:=0)⟨by omega,by omega,rfl,.inl⟨rfl,rfl⟩,Ok.refl w⟩
theorem EI {h:Heap}{a b:Option Addr}{n c m d:Nat}{x y:List Nat}(ra:Rd h 103(.slice a n c)(x.map uv))(rb:Rd h 103(.slice b m d)(y.map uv))(hx:∀ d∈x,d < BB)(hy:∀ d∈y,d < BB)(hlx:x.length<=10000)(hly:y.length<=10000)(w:Wf h){R:Nat}(fin:Num.trimL(Num.eachF(Num.minusF BB)x y 0(max x.length y.length + 1)0)=Num.toB BB R) :
  FW SS 167 [.slice a n c,.slice b m d,.func(.func 174)⟨[]⟩⟨[]⟩] h(dz h 103(bl R)):=by
 have hn:n=x.length:=by have:=ra.len; rwa [List.length_map] at this
 have hm:m=y.length:=by have:=rb.len; rwa [List.length_map] at this
 rw [<- hn,<- hm] at fin
 have hcr:∀ j,Num.cr(Num.minusF BB)x y 0 0 j<=1:=by
  intro j
  induction j with
  | zero=>exact Nat.zero_le _
  | succ j ih=>exact Oe(Num.getD_lt(by decide)hx _)(Num.getD_lt(by decide)hy _)ih
 have hmn:n<=max n m/\m<=max n m :=⟨Nat.le_max_left _ _,Nat.le_max_right _ _⟩
 have hmx2:max n m<=10000:=Nat.max_le.2⟨by omega,by omega⟩
 have hmx:(if(m:Int) > (n:Int) then(m:Int) else(n:Int))=((max n m:Nat):Int):=by split <;> omega
 generalize max n m=N at *
 have L:=pC a n c b m d((N:Int) + 1)(fun mz i cy r rn rc g=>i<=N + 1/\mz=N + 1 - i/\cy=(Num.cr(Num.minusF BB)x y 0 0 i:Nat)/\OwnR h g 103(.slice r rn rc)((Num.eachF(Num.minusF BB)x y 0 i 0).map uv)/\Ok h g)(dz h 103(bl R))(by
  intro mz i cy r rn rc; intros; rename_i g hi
  obtain⟨h1,h2,rfl,ho,ok⟩:=hi
  have hw3:IntKind.wrap .i64((i:Int) + 1)=((i + 1:Nat):Int):=by rw [ap(by omega)(by omega)]; omega
  unfold kN
  rw [hw3]
  have hel:(Num.eachF(Num.minusF BB)x y 0 i 0).length=i:=Num.eachF_len _ _ _ _ _ _
  have hsn:=Num.eachF_snoc(Num.minusF BB)x y i 0 0
  rw [Nat.zero_add] at hsn
  have hcr1:Num.cr(Num.minusF BB)x y 0 0(i + 1)=(Num.minusF BB(x.getD i 0)(y.getD i 0)(Num.cr(Num.minusF BB)x y 0 0 i)).2:=by
   show(Num.minusF BB(x.getD(0 + i)0)(y.getD(0 + i)0)_).2=_
   rw [Nat.zero_add]
  have hci:=hcr i
  have go:=M8(x.getD i 0)(y.getD i 0)(Num.cr(Num.minusF BB)x y 0 0 i)(Num.getD_lt(by decide)hx _)(Num.getD_lt(by decide)hy _)hci g
  refine ae(fun h5=>?_)(fun h5=>?_)
  · have h5:=of_decide_eq_true h5
   refine ae(fun h6=>?_)(fun h6=>?_)
   · have h6:=of_decide_eq_true h6
    obtain⟨q,g2,g3⟩:=Dy(ra.ok ok)(i:=(i:Int))(by omega)(by omega)
    rw [Int.toNat_natCast] at g3
    refine⟨q,g2,_,g3,ae(fun h7=>?_)(fun h7=>?_)⟩
    · have h7:=of_decide_eq_true h7
     obtain⟨q2,g4,g5⟩:=Dy(rb.ok ok)(i:=(i:Int))(by omega)(by omega)
     rw [Int.toNat_natCast] at g5
     refine⟨q2,g4,_,g5,go.mono ?_⟩
     rintro _ _⟨rfl,rfl⟩
     refine⟨_,_,rfl,_,_,_,nG _,?_⟩
     obtain⟨b,m,d,u,g6,g7,g8,g9⟩:=fL w ok ho((Num.minusF BB(x.getD i 0)(y.getD i 0)(Num.cr(Num.minusF BB)x y 0 0 i)).1:Nat)(by rw [List.length_map,hel]; omega)
     refine⟨b,m,d,u,g6,cB(mz - 1)(by omega)⟨by omega,by omega,by rw [hcr1],?_,g9⟩⟩
     rw [hsn,List.map_append]
     exact g8
    · have h7:=of_decide_eq_false h7
     have y0:y.getD i 0=0:=by rw [List.getD_eq_getElem?_getD,List.getElem?_eq_none(by omega)]; rfl
     rw [y0] at go hsn hcr1
     refine go.mono ?_
     rintro _ _⟨rfl,rfl⟩
     refine⟨_,_,rfl,_,_,_,nG _,?_⟩
     obtain⟨b,m,d,u,g6,g7,g8,g9⟩:=fL w ok ho((Num.minusF BB(x.getD i 0)0(Num.cr(Num.minusF BB)x y 0 0 i)).1:Nat)(by rw [List.length_map,hel]; omega)
     refine⟨b,m,d,u,g6,cB(mz - 1)(by omega)⟨by omega,by omega,by rw [hcr1],?_,g9⟩⟩
     rw [hsn,List.map_append]
     exact g8
   · have h6:=of_decide_eq_false h6
    have x0:x.getD i 0=0:=by rw [List.getD_eq_getElem?_getD,List.getElem?_eq_none(by omega)]; rfl
    rw [x0] at go hsn hcr1
    refine ae(fun h7=>?_)(fun h7=>?_)
    · have h7:=of_decide_eq_true h7
     obtain⟨q2,g4,g5⟩:=Dy(rb.ok ok)(i:=(i:Int))(by omega)(by omega)
     rw [Int.toNat_natCast] at g5
     refine⟨q2,g4,_,g5,go.mono ?_⟩
     rintro _ _⟨rfl,rfl⟩
     refine⟨_,_,rfl,_,_,_,nG _,?_⟩
     obtain⟨b,m,d,u,g6,g7,g8,g9⟩:=fL w ok ho((Num.minusF BB 0(y.getD i 0)(Num.cr(Num.minusF BB)x y 0 0 i)).1:Nat)(by rw [List.length_map,hel]; omega)
     refine⟨b,m,d,u,g6,cB(mz - 1)(by omega)⟨by omega,by omega,by rw [hcr1],?_,g9⟩⟩
     rw [hsn,List.map_append]
     exact g8
    · have h7:=of_decide_eq_false h7
     have y0:y.getD i 0=0:=by rw [List.getD_eq_getElem?_getD,List.getElem?_eq_none(by omega)]; rfl
     rw [y0] at go hsn hcr1
     refine go.mono ?_
     rintro _ _⟨rfl,rfl⟩
     refine⟨_,_,rfl,_,_,_,nG _,?_⟩
     obtain⟨b,m,d,u,g6,g7,g8,g9⟩:=fL w ok ho((Num.minusF BB 0 0(Num.cr(Num.minusF BB)x y 0 0 i)).1:Nat)(by rw [List.length_map,hel]; omega)
     refine⟨b,m,d,u,g6,cB(mz - 1)(by omega)⟨by omega,by omega,by rw [hcr1],?_,g9⟩⟩
     rw [hsn,List.map_append]
     exact g8
  · have h5:=of_decide_eq_false h5
   obtain rfl:i=N + 1:=by omega
   refine(ny ho(by rw [hel]; omega)).mono ?_
   rintro _ g2⟨a',n',c',rfl,o2,rfl⟩
   rw [fin] at o2
   exact⟨a',n',c',rfl,a',n',c',rfl,o2,ok⟩)
 refine Ed a n c b m d h _⟨_,uy _ _ _,?_⟩
 have hw:IntKind.wrap .i64((N:Int) + 1)=(N:Int) + 1:=ap(by omega)(by omega)
 dsimp af
 rw [hmx,hw]
 exact L(N + 1)(i:=0)⟨by omega,by omega,rfl,.inl⟨rfl,rfl⟩,Ok.refl w⟩
theorem J5 {h:Heap}{a b:Option Addr}{n c m d X Y:Nat}(ra:Rd h 103(.slice a n c)(bl X))(rb:Rd h 103(.slice b m d)(bl Y))(hlx:(Num.toB BB X).length<=10000)(hly:(Num.toB BB Y).length<=10000)(w:Wf h):FW SS 159 [.slice a n c,.slice b m d] h(dz h 103(bl(X + Y))):=by
 have hX:=Num.toB_lt cI X
 have hY:=Num.toB_lt cI Y
 refine JO a n c b m d h _((HF ra rb hX hY hlx hly w(R:=X + Y) ?_).mono ?_)
 · have h1:=Nat.le_max_left(Num.toB BB X).length(Num.toB BB Y).length
  have h2:=Nat.le_max_right(Num.toB BB X).length(Num.toB BB Y).length
  rw [Num.trimL_eq cI(Num.eachF_lt(fun p q c=>Nat.mod_lt _(by decide))_ _ _ 0 0),Num.plus_bv cI hX hY _ 0 0(by omega)(by omega)(by omega)(by omega),List.drop_zero,List.drop_zero,Num.bv_toB cI,Num.bv_toB cI]; rfl
 · rintro _ g⟨a',n',c',rfl,o,ok⟩
  exact⟨_,_,_,rfl,a',n',c',rfl,o,ok⟩
theorem Is {h:Heap}{a b:Option Addr}{n c m d X Y:Nat}(ra:Rd h 103(.slice a n c)(bl X))(rb:Rd h 103(.slice b m d)(bl Y))(hXY:Y<=X)(hlx:(Num.toB BB X).length<=10000)(hly:(Num.toB BB Y).length<=10000)(w:Wf h):FW SS 162 [.slice a n c,.slice b m d] h(dz h 103(bl(X - Y))):=by
 have hX:=Num.toB_lt cI X
 have hY:=Num.toB_lt cI Y
 refine HX a n c b m d h _((EI ra rb hX hY hlx hly w(R:=X - Y) ?_).mono ?_)
 · have h1:=Nat.le_max_left(Num.toB BB X).length(Num.toB BB Y).length
  have h2:=Nat.le_max_right(Num.toB BB X).length(Num.toB BB Y).length
  rw [Num.trimL_eq cI(Num.eachF_lt(fun p q c=>Nat.mod_lt _(by decide))_ _ _ 0 0)]
  have h3:=Num.minus_bv cI hX hY(max(Num.toB BB X).length(Num.toB BB Y).length + 1)0 0(by omega)(by omega)(by omega)(by rw [List.drop_zero,List.drop_zero,Num.bv_toB cI,Num.bv_toB cI]; exact hXY)
  rw [List.drop_zero,List.drop_zero,Num.bv_toB cI,Num.bv_toB cI] at h3
  congr 1
  omega
 · rintro _ g⟨a',n',c',rfl,o,ok⟩
  exact⟨_,_,_,rfl,a',n',c',rfl,o,ok⟩
end Go.Proofs.YtoabjjimjldcfaaGreatDoor
end
section
set_option linter.unusedVariables false
namespace Go.Num
theorem sN(B:Nat)(y:List Nat)(k:Nat):bv B(y.take(k + 1))=bv B(y.take k) + B ^ k * y.getD k 0:=by
 rcases Nat.lt_or_ge k y.length with h | h
 · rw [List.take_succ_eq_append_getElem h,bv_snoc,List.length_take,Nat.min_eq_left(by omega),List.getD_eq_getElem?_getD,List.getElem?_eq_getElem h]; rfl
 · rw [List.take_of_length_le(by omega),List.take_of_length_le(by omega),List.getD_eq_getElem?_getD,List.getElem?_eq_none(by omega)]; simp
theorem O9 {B:Nat}{x:List Nat}(hB:0 < B)(h:∀ d∈x,d < B)(i:Nat):x.getD i 0 < B:=by
 rcases Nat.lt_or_ge i x.length with g | g
 · rw [List.getD_eq_getElem?_getD,List.getElem?_eq_getElem g]; exact h _(List.getElem_mem _)
 · rw [List.getD_eq_getElem?_getD,List.getElem?_eq_none g]; exact hB
theorem mul_step {B:Nat}(hB:1 < B){L y:List Nat}{i k cy xi P p:Nat}(hL:∀ d∈L,d < B)(hj:i + k < L.length)(hcy:cy < B)(hxi:xi < B)(hyk:y.getD k 0 < B)(hp:p=L.getD(i + k)0 + cy + xi * y.getD k 0)(eq:bv B L + cy * B ^ (i + k)=P + xi * bv B(y.take k) * B ^ i) :
  (∀ d∈L.set(i + k)(p % B),d < B)/\p / B < B/\bv B(L.set(i + k)(p % B)) + p / B * B ^ (i + (k + 1))=P + xi * bv B(y.take(k + 1)) * B ^ i:=by
 have hLj:=O9 (by omega)hL(i + k)
 refine⟨fun d hd=>?_,?_,?_⟩
 · rcases List.mem_or_eq_of_mem_set hd with h | h
  · exact hL d h
  · rw [h]; exact Nat.mod_lt _(by omega)
 · rw [Nat.div_lt_iff_lt_mul(by omega),hp]
  have h1:xi * y.getD k 0<=(B - 1) * (B - 1):=Nat.mul_le_mul(by omega)(by omega)
  obtain⟨C,rfl⟩: ∃ C,B=C + 1 :=⟨B - 1,by omega⟩
  rw [Nat.add_sub_cancel] at h1
  have h2:(C + 1) * (C + 1)=C * C + C + C + 1:=by rw [Nat.mul_succ,Nat.succ_mul]; omega
  omega
 · have h1:=I3(B:=B)L(i + k)(p % B)hj
  have h2:=Nat.mod_add_div p B
  have h3:B ^ (i + k) * (p % B) + B ^ (i + k) * (B * (p / B))=B ^ (i + k) * p:=by rw [<- Nat.mul_add,h2]
  have h4:p / B * B ^ (i + (k + 1))=B ^ (i + k) * (B * (p / B)):=by
   rw [<- Nat.add_assoc,Nat.pow_succ,Nat.mul_comm(p / B),Nat.mul_assoc]
  have h5:B ^ (i + k) * p=B ^ (i + k) * L.getD(i + k)0 + B ^ (i + k) * cy + B ^ (i + k) * (xi * y.getD k 0):=by rw [hp,Nat.mul_add,Nat.mul_add]
  have h6:xi * bv B(y.take(k + 1)) * B ^ i=xi * bv B(y.take k) * B ^ i + B ^ (i + k) * (xi * y.getD k 0):=by
   rw [sN,Nat.mul_add,Nat.add_mul,Nat.pow_add]
   congr 1
   rw [Nat.mul_left_comm xi,Nat.mul_comm _(B ^ i),Nat.mul_assoc]
  rw [Nat.mul_comm cy] at eq
  rw [h4,h6]
  omega
theorem mul_end {B:Nat}(hB:1 < B){L x y:List Nat}{i cy:Nat}(hx:∀ d∈x,d < B)(hy:∀ d∈y,d < B)(hi:i < x.length)(hL:∀ d∈L,d < B)(eq:bv B L + cy * B ^ (i + (y.length + 1))=bv B(x.take i) * bv B y + x.getD i 0 * bv B(y.take(y.length + 1)) * B ^ i) :
  bv B L=bv B(x.take(i + 1)) * bv B y:=by
 have h1:bv B(x.take(i + 1)) * bv B y=bv B(x.take i) * bv B y + x.getD i 0 * bv B y * B ^ i:=by
  rw [sN,Nat.add_mul]
  congr 1
  rw [Nat.mul_assoc,Nat.mul_comm]
 rw [List.take_of_length_le(by omega:y.length<=y.length + 1),<- h1] at eq
 have h2:bv B(x.take(i + 1)) < B ^ (i + 1):=by
  have:=bv_lt(b:=B)(x:=x.take(i + 1))(fun d hd=>hx d(List.mem_of_mem_take hd))
  rwa [List.length_take,Nat.min_eq_left(by omega)] at this
 have h3:=bv_lt hy
 have h4:bv B(x.take(i + 1)) * bv B y < B ^ (i + (y.length + 1)):=by
  rw [show i + (y.length + 1)=(i + 1) + y.length by omega,Nat.pow_add]
  exact Nat.mul_lt_mul'' h2 h3
 rcases Nat.eq_zero_or_pos cy with h | h
 · subst h; omega
 · have h5:1 * B ^ (i + (y.length + 1))<=cy * B ^ (i + (y.length + 1)):=Nat.mul_le_mul_right _ h
  omega
theorem bv_replicate(B n:Nat):bv B(List.replicate n 0)=0:=by
 induction n with
 | zero=>rfl
 | succ n ih=>rw [List.replicate_succ,bv,ih]; simp
end Go.Num
end
section
set_option linter.unusedVariables false
set_option maxRecDepth 100000
namespace Go.Proofs.YtoabjjimjldcfaaGreatDoor
open Go Go.Ab
def ki(X:Nat):Value:=if 1000 < (Num.toDec X).length then BI [] 2 else BI(Num.toDec X)0
def yr(a b:List UInt8):Value:=if Num.valid a=true/\Num.valid b=true then ki(Num.val a + Num.val b) else BI [] 1
def xD(a b:List UInt8):Value:=if Num.valid a=true/\Num.valid b=true then ki(Num.val a * Num.val b) else BI [] 1
def x7(a b:List UInt8):Value:=if Num.valid a=true/\Num.valid b=true then(if Num.val a < Num.val b then BI [] 4 else BI(Num.toDec(Num.val a - Num.val b))0) else BI [] 1
def yb(a b:List UInt8):Value:=if Num.valid a=true/\Num.valid b=true then .int .i64(Num.cmpN(Num.val a)(Num.val b)) else .int .i64 0
theorem qG {h:Heap}{a:Option Addr}{n c X:Nat}(ra:Rd h 103(.slice a n c)(bl X))(hlen:(Num.toB BB X).length<=10000)(t:Tab h)(w:Wf h):FW SS 141 [.slice a n c] h(fun v h'=>v=ki X/\Ok h h'):=by
 refine Cl a n c h _((sc ra hlen t w).mono ?_)
 rintro _ g⟨rfl,ok⟩
 refine⟨_,rfl,ae(fun h1=>?_)(fun h1=>?_)⟩
 · have h1:=of_decide_eq_true h1
  refine⟨?_,ok⟩
  unfold ki; rw [if_pos(by omega)]; rfl
 · have h1:=of_decide_eq_false h1
  refine⟨?_,ok⟩
  unfold ki; rw [if_neg(by omega)]; rfl
structure TwoB(a b:List UInt8)(X Y:Nat):Prop where
 va:Num.valid a=true
 vb:Num.valid b=true
 ea:Num.val a=X
 eb:Num.val b=Y
 lx:(Num.toB BB X).length<=112
 ly:(Num.toB BB Y).length<=112
theorem RD {a b:List UInt8}(va:Num.valid a=true)(vb:Num.valid b=true):TwoB a b(Num.val a)(Num.val b):=by
 obtain⟨X,_,hX,eX⟩:=Num.valid_ex va
 obtain⟨Y,_,hY,eY⟩:=Num.valid_ex vb
 exact⟨va,vb,rfl,rfl,by rw [eX]; exact kJ hX,by rw [eY]; exact kJ hY⟩
theorem im {a:List UInt8}(va:Num.valid a=true){h:Heap}(w:Wf h):FW SS 140 [aa a] h(dz h 103(bl(Num.val a))):=by
 have da:=(Num.valid_iff.1 va)
 exact na a da.1.2.1(Nat.le_trans da.2(by omega))h w
theorem Rz {X Y:Nat}(hx:(Num.toB BB X).length<=112)(hy:(Num.toB BB Y).length<=112):(Num.toB BB(X + Y)).length<=10000:=by
 have h1:=Num.bv_lt(Num.toB_lt cI X)
 have h2:=Num.bv_lt(Num.toB_lt cI Y)
 rw [Num.bv_toB cI] at h1 h2
 have h3:=Nat.lt_of_lt_of_le h1(Nat.pow_le_pow_right(show 0 < BB by decide)hx)
 have h4:=Nat.lt_of_lt_of_le h2(Nat.pow_le_pow_right(show 0 < BB by decide)hy)
 refine Nat.le_trans(Num.toB_len_le cI(k:=113) ?_)(by omega)
 rw [Nat.pow_succ]
 have h5:2 * BB ^ 112<=BB ^ 112 * BB:=by rw [Nat.mul_comm]; exact Nat.mul_le_mul_left _(by decide)
 generalize BB ^ 112=M at *
 omega
theorem Pt {m n:Nat}(h:m<=n):(Num.toB BB m).length<=(Num.toB BB n).length:=Nat.le_of_not_lt fun g=>absurd(Num.toB_len_lt cI g)(Nat.not_lt.2 h)
theorem tp(X:Nat):∃ l n,ki X=BI l n:=by
 unfold ki; split <;> exact⟨_,_,rfl⟩
theorem yP {v:Value}(hv:∃ l n,v=BI l n){K:Value->Prop}(hK:K v):∃ (l:List UInt8)(n:Int),v = .tuple⟨[aa l,.int .i64 n]⟩/\K(.tuple⟨[aa l,.int .i64 n]⟩):=by
 obtain⟨l,n,rfl⟩:=hv
 exact⟨l,n,rfl,hK⟩
theorem cmpN_lt {x y:Nat}(h:Num.cmpN x y < 0):x < y:=by
 unfold Num.cmpN at h; split at h <;> omega
theorem cmpN_ge {x y:Nat}(h : ¬ Num.cmpN x y < 0):y<=x:=by
 unfold Num.cmpN at h; split at h <;> omega
theorem NO(a b:List UInt8){h:Heap}(t:Tab h)(w:Wf h):FW SS 136 [aa a,aa b] h(fun v h'=>v=yr a b/\Ok h h'):=by
 refine Md a b h _((bL a h).mono ?_)
 rintro _ g0⟨rfl,e0⟩
 obtain rfl:h=g0:=e0.symm
 refine⟨_,rfl,ae(fun g=>?_)(fun g=>?_)⟩
 · have g:Num.valid a=false:=by simpa using g
  refine⟨?_,Ok.refl w⟩
  unfold yr; rw [if_neg(fun e=>by rw [e.1] at g; cases g)]; rfl
 have g:Num.valid a=true:=by simpa using g
 refine(bL b h).mono ?_
 rintro _ g0⟨rfl,e0⟩
 obtain rfl:h=g0:=e0.symm
 refine⟨_,rfl,ae(fun g2=>?_)(fun g2=>?_)⟩
 · have g2:Num.valid b=false:=by simpa using g2
  refine⟨?_,Ok.refl w⟩
  unfold yr; rw [if_neg(fun e=>by rw [e.2] at g2; cases g2)]; rfl
 have g2:Num.valid b=true:=by simpa using g2
 have tb:=RD g g2
 have lx:=tb.lx
 have ly:=tb.ly
 refine(im g w).mono ?_
 rintro _ h1⟨a1,n1,c1,rfl,o1,ok1⟩
 refine⟨_,_,_,rfl,(im g2 ok1.wf).mono ?_⟩
 rintro _ h2⟨a2,n2,c2,rfl,o2,ok2⟩
 refine⟨_,_,_,rfl,?_⟩
 have hS:yr a b=ki(Num.val a + Num.val b):=by unfold yr; rw [if_pos⟨g,g2⟩]
 rw [hS]
 have r1:=o1.rd.ok ok2
 have r2:=o2.rd
 have ok:=ok1.trans ok2
 refine(J5 r1 r2(by omega)(by omega)ok.wf).mono ?_
 rintro _ h3⟨a3,n3,c3,rfl,o3,ok3⟩
 refine⟨_,_,_,rfl,(qG o3.rd(Rz lx ly)(t.ok(ok.trans ok3))ok3.wf).mono ?_⟩
 rintro _ h4⟨rfl,ok4⟩
 exact yP(K:=fun v=>v=ki(Num.val a + Num.val b)/\Ok h h4)(tp _)⟨rfl,(ok.trans ok3).trans ok4⟩
theorem Dl(a b:List UInt8){h:Heap}(t:Tab h)(w:Wf h):FW SS 138 [aa a,aa b] h(fun v h'=>v=x7 a b/\Ok h h'):=by
 refine Nc a b h _((bL a h).mono ?_)
 rintro _ g0⟨rfl,e0⟩
 obtain rfl:h=g0:=e0.symm
 refine⟨_,rfl,ae(fun g=>?_)(fun g=>?_)⟩
 · have g:Num.valid a=false:=by simpa using g
  refine⟨?_,Ok.refl w⟩
  unfold x7; rw [if_neg(fun e=>by rw [e.1] at g; cases g)]; rfl
 have g:Num.valid a=true:=by simpa using g
 refine(bL b h).mono ?_
 rintro _ g0⟨rfl,e0⟩
 obtain rfl:h=g0:=e0.symm
 refine⟨_,rfl,ae(fun g2=>?_)(fun g2=>?_)⟩
 · have g2:Num.valid b=false:=by simpa using g2
  refine⟨?_,Ok.refl w⟩
  unfold x7; rw [if_neg(fun e=>by rw [e.2] at g2; cases g2)]; rfl
 have g2:Num.valid b=true:=by simpa using g2
 have tb:=RD g g2
 have lx:=tb.lx
 have ly:=tb.ly
 refine(im g w).mono ?_
 rintro _ h1⟨a1,n1,c1,rfl,o1,ok1⟩
 refine⟨_,_,_,rfl,(im g2 ok1.wf).mono ?_⟩
 rintro _ h2⟨a2,n2,c2,rfl,o2,ok2⟩
 refine⟨_,_,_,rfl,?_⟩
 have hS:x7 a b=(if Num.val a < Num.val b then BI [] 4 else BI(Num.toDec(Num.val a - Num.val b))0):=by unfold x7; rw [if_pos⟨g,g2⟩]
 rw [hS]
 have r1:=o1.rd.ok ok2
 have r2:=o2.rd
 have ok:=ok1.trans ok2
 refine(lg r1 r2(by omega)ok.wf).mono ?_
 rintro _ h3⟨rfl,ok3⟩
 refine⟨_,rfl,ae(fun h6=>?_)(fun h6=>?_)⟩
 · have h6:=of_decide_eq_true h6
  rw [if_pos(cmpN_lt h6)]
  exact⟨rfl,ok.trans ok3⟩
 · have h6:=of_decide_eq_false h6
  have hle:=cmpN_ge h6
  rw [if_neg(Nat.not_lt.2 hle)]
  refine(Is(r1.ok ok3)(r2.ok ok3)hle(by omega)(by omega)ok3.wf).mono ?_
  rintro _ h4⟨a3,n3,c3,rfl,o3,ok4⟩
  refine⟨_,_,_,rfl,(sc o3.rd(Nat.le_trans(Pt(Nat.sub_le _ _))(by omega))(t.ok((ok.trans ok3).trans ok4))ok4.wf).mono ?_⟩
  rintro _ h5⟨rfl,ok5⟩
  exact⟨_,rfl,rfl,((ok.trans ok3).trans ok4).trans ok5⟩
theorem MD(a b:List UInt8){h:Heap}(t:Tab h)(w:Wf h):FW SS 137 [aa a,aa b] h(fun v h'=>v=yb a b/\Ok h h'):=by
 refine Mz a b h _((bL a h).mono ?_)
 rintro _ g0⟨rfl,e0⟩
 obtain rfl:h=g0:=e0.symm
 refine⟨_,rfl,ae(fun g=>?_)(fun g=>?_)⟩
 · have g:Num.valid a=false:=by simpa using g
  refine⟨?_,Ok.refl w⟩
  unfold yb; rw [if_neg(fun e=>by rw [e.1] at g; cases g)]
 have g:Num.valid a=true:=by simpa using g
 refine(bL b h).mono ?_
 rintro _ g0⟨rfl,e0⟩
 obtain rfl:h=g0:=e0.symm
 refine⟨_,rfl,ae(fun g2=>?_)(fun g2=>?_)⟩
 · have g2:Num.valid b=false:=by simpa using g2
  refine⟨?_,Ok.refl w⟩
  unfold yb; rw [if_neg(fun e=>by rw [e.2] at g2; cases g2)]
 have g2:Num.valid b=true:=by simpa using g2
 have tb:=RD g g2
 have lx:=tb.lx
 have ly:=tb.ly
 refine(im g w).mono ?_
 rintro _ h1⟨a1,n1,c1,rfl,o1,ok1⟩
 refine⟨_,_,_,rfl,(im g2 ok1.wf).mono ?_⟩
 rintro _ h2⟨a2,n2,c2,rfl,o2,ok2⟩
 refine⟨_,_,_,rfl,?_⟩
 have hS:yb a b = .int .i64(Num.cmpN(Num.val a)(Num.val b)):=by unfold yb; rw [if_pos⟨g,g2⟩]
 rw [hS]
 have r1:=o1.rd.ok ok2
 have r2:=o2.rd
 have ok:=ok1.trans ok2
 refine(lg r1 r2(by omega)ok.wf).mono ?_
 rintro _ h3⟨rfl,ok3⟩
 exact⟨_,rfl,rfl,ok.trans ok3⟩
end Go.Proofs.YtoabjjimjldcfaaGreatDoor
end
section
namespace Go.Num
def idxB(c:UInt8):List UInt8->Nat
 | []=>0
 | x :: l=>if x=c then 0 else idxB c l + 1
theorem idxB_iff(c:UInt8):∀ (l:List UInt8)(i:Nat),i<=l.length->(∀ j,j < i->l.getD j 0≠c)->(i < l.length->l.getD i 0=c)->idxB c l=i
 | [],i,h,_,_=>by simp at h; subst h; rfl
 | x :: l,0,h,_,h2=>by
  have:=h2(by simp)
  unfold idxB; rw [if_pos(by simpa using this)]
 | x :: l,i + 1,h,h1,h2=>by
  have h0:=h1 0(by omega)
  unfold idxB; rw [if_neg(by simpa using h0)]
  rw [idxB_iff c l i(by simpa using h)(fun j hj=>by simpa using h1(j + 1)(by omega))(fun hi=>by simpa using h2(by simpa using hi))]
def isNeg(a:List UInt8):Bool:=a.head? == some 45
def afterNeg(a:List UInt8):List UInt8:=if isNeg a then a.drop 1 else a
def numOf(a:List UInt8):List UInt8:=(afterNeg a).take(idxB 47(afterNeg a))
def hasStroke(a:List UInt8):Bool:=decide(idxB 47(afterNeg a) < (afterNeg a).length)
def denOf(a:List UInt8):List UInt8:=if hasStroke a then(afterNeg a).drop(idxB 47(afterNeg a) + 1) else [49]
def isRat(a:List UInt8):Bool:=valid(numOf a) && valid(denOf a) && decide((numOf a).length<=400) && decide((denOf a).length<=400) && !(isNeg a && numOf a == [48]) && !(hasStroke a && (denOf a == [48] || denOf a == [49])) && decide(Nat.gcd(val(numOf a))(val(denOf a))=1)
structure IsRat(a:List UInt8):Prop where
 num:valid(numOf a)=true
 den:valid(denOf a)=true
 ln:(numOf a).length<=400
 ld:(denOf a).length<=400
 neg : ¬ (isNeg a=true/\numOf a=[48])
 fr : ¬ (hasStroke a=true/\(denOf a=[48]\/denOf a=[49]))
 one:Nat.gcd(val(numOf a))(val(denOf a))=1
theorem isRat_iff {a:List UInt8} : isRat a=true↔IsRat a:=by
 unfold isRat
 simp af [Bool.and_eq_true,Bool.not_eq_true',Bool.and_eq_false_iff,Bool.or_eq_false_iff,decide_eq_true_eq,beq_eq_false_iff_ne]
 constructor
 · rintro⟨⟨⟨⟨⟨⟨h1,h2⟩,h3⟩,h4⟩,h5⟩,h6⟩,h7⟩
  refine⟨h1,h2,h3,h4,fun⟨e1,e2⟩=> ?_,fun⟨e1,e2⟩=> ?_,h7⟩
  · rcases h5 with h5 | h5
   · rw [e1] at h5; cases h5
   · exact h5 e2
  · rcases h6 with h6 | h6
   · rw [e1] at h6; cases h6
   · rcases e2 with e2 | e2
    · exact h6.1 e2
    · exact h6.2 e2
 · rintro⟨h1,h2,h3,h4,h5,h6,h7⟩
  refine⟨⟨⟨⟨⟨⟨h1,h2⟩,h3⟩,h4⟩,?_⟩,?_⟩,h7⟩
  · cases hn:isNeg a with
   | false=>exact .inl rfl
   | true=>exact .inr fun e=>h5⟨hn,e⟩
  · cases hn:hasStroke a with
   | false=>exact .inl rfl
   | true=>exact .inr⟨fun e=>h6⟨hn,.inl e⟩,fun e=>h6⟨hn,.inr e⟩⟩
theorem jI {a:List UInt8}(h:valid a=true):a=[48]↔val a=0:=by
 obtain⟨n,rfl,_,e⟩:=valid_ex h
 rw [e,toDec_eq_zero]
theorem DE {a:List UInt8}(h:valid a=true):a=[49]↔val a=1:=by
 obtain⟨n,rfl,_,e⟩:=valid_ex h
 rw [e,toDec_eq_one]
theorem UV:val [49]=1:=by decide
theorem valid_lt {a:List UInt8}{k:Nat}(h:valid a=true)(hk:0 < k)(hl:a.length<=k):val a < 10 ^ k:=by
 obtain⟨n,rfl,_,e⟩:=valid_ex h
 rw [e]; exact(toDec_len_le hk).1 hl
theorem isRat_ref {a:List UInt8} : IsRat a↔(valid(numOf a)=true/\(numOf a).length<=400)/\(valid(denOf a)=true/\(denOf a).length<=400)/\denOf a≠[48]/\¬ (numOf a=[48]/\(isNeg a=true\/hasStroke a=true))/\¬ (denOf a=[49]/\hasStroke a=true)/\(Nat.gcd(val(numOf a))(val(denOf a))=1\/denOf a=[49]):=by
 constructor
 · rintro⟨h1,h2,h3,h4,h5,h6,h7⟩
  have hd:hasStroke a=false->denOf a=[49]:=fun h=>by unfold denOf; rw [h]; rfl
  refine⟨⟨h1,h3⟩,⟨h2,h4⟩,fun e=>?_,?_,fun⟨e1,e2⟩=> h6⟨e2,.inr e1⟩,.inl h7⟩
  · cases hs:hasStroke a with
   | false=>rw [hd hs] at e; cases e
   | true=>exact h6⟨hs,.inl e⟩
  · rintro⟨e1,e2 | e2⟩
   · exact h5⟨e2,e1⟩
   · have e3:=(jI h1).1 e1
    rw [e3,Nat.gcd_zero_left] at h7
    exact h6⟨e2,.inr((DE h2).2 h7)⟩
 · rintro⟨⟨h1,h3⟩,⟨h2,h4⟩,h5,h6,h7,h8⟩
  refine⟨h1,h2,h3,h4,fun⟨e1,e2⟩=> h6⟨e2,.inl e1⟩,fun⟨e1,e2⟩=> ?_,?_⟩
  · rcases e2 with e2 | e2
   · exact h5 e2
   · exact h7⟨e2,e1⟩
  · rcases h8 with h8 | h8
   · exact h8
   · rw [h8,UV,Nat.gcd_one_right]
def plusS(s:Bool)(A:Nat)(t:Bool)(B:Nat):Bool × Nat:=if s=t then(s,A + B) else if A < B then(t,B - A) else(s,A - B)
def cmpRat(a b:List UInt8):Int:=
 if isRat a=true/\isRat b=true then
  if(plusS(isNeg a)(val(numOf a) * val(denOf b))(!isNeg b)(val(numOf b) * val(denOf a))).2=0 then 0
  else if(plusS(isNeg a)(val(numOf a) * val(denOf b))(!isNeg b)(val(numOf b) * val(denOf a))).1=true then -1 else 1
 else 0
theorem pow_400_800 {A B:Nat}(hA:A < 10 ^ 400)(hB:B < 10 ^ 400):A * B < 10 ^ 800:=by
 rw [show(800:Nat)=400 + 400 from rfl,Nat.pow_add]
 exact Nat.mul_lt_mul'' hA hB
theorem pow_800:(10:Nat) ^ 800 + 10 ^ 800<=10 ^ 1000:=by
 have e:(10:Nat) ^ 1000=10 ^ 199 * 10 ^ 801:=by rw [<- Nat.pow_add]
 have e2:(10:Nat) ^ 801=10 ^ 800 * 10:=Nat.pow_succ ..
 have h1:1<=10 ^ 199:=Nat.pow_pos(by decide)
 rw [e,e2]
 generalize(10:Nat) ^ 800=X
 generalize(10:Nat) ^ 199=Y at *
 have:=Nat.mul_le_mul_right(X * 10)h1
 rw [Nat.one_mul] at this
 exact Nat.le_trans(by omega)this
end Go.Num
end
section
set_option linter.unusedVariables false
set_option maxRecDepth 100000
namespace Go.Proofs.YtoabjjimjldcfaaGreatDoor
open Go Go.Ab
theorem NW:SS.P.underlying 9=some .string:=Tryz.underlying9
theorem Ef(l:List UInt8)(h:Heap){b:Nat}(hb:b<=l.length):aM SS.P 9(aa l)none(some(.int .i64(b:Int)))none h=some(aa(l.take b)):=by
 have:=iV(h:=h)NW l(lo:=none)(hi:=some(.int .i64(b:Int)))(a:=0)(b:=b)rfl rfl(by omega)hb
 simpa using this
theorem qb(l:List UInt8)(h:Heap){a:Nat}(ha:a<=l.length):aM SS.P 9(aa l)(some(.int .i64(a:Int)))none none h=some(aa(l.drop a)):=by
 have:=iV(h:=h)NW l(lo:=some(.int .i64(a:Int)))(hi:=none)(a:=a)(b:=l.length)rfl rfl ha(Nat.le_refl _)
 rw [this,List.take_of_length_le(by simp)]
theorem Mg(l:List UInt8)(h:Heap):FW SS 177 [aa l,aa [45]] h(fun v h'=>v = .bool(Num.isNeg l)/\h' = h):=by
 refine Nw l [45] h _(ae(fun h1=>?_)(fun h1=>?_))
 · have h1:=of_decide_eq_true h1
  have h2:1<=l.length:=by simp af [List.length_cons,List.length_nil] at h1; omega
  refine⟨_,Ef l h(b:=1)h2,?_,rfl⟩
  cases l with
  | nil=>simp at h2
  | cons c l =>
   unfold Num.isNeg
   simp af [List.take_succ_cons,List.take_zero,List.head?_cons]
   congr 1
   cases hc:c == 45 <;> simp_all
 · have h1:=of_decide_eq_false h1
  have h2:l=[]:=List.eq_nil_of_length_eq_zero(by simp at h1; omega)
  subst h2
  exact⟨rfl,rfl⟩
theorem JZ(l:List UInt8)(h:Heap):FW SS 165 [aa l,aa [45]] h(fun v h'=>v = .tuple⟨[aa(Num.afterNeg l),.bool(Num.isNeg l)]⟩/\h' = h):=by
 refine JG l [45] h _((Mg l h).mono ?_)
 rintro _ g0⟨rfl,e0⟩
 obtain rfl:h=g0:=e0.symm
 refine⟨_,rfl,ae(fun g=>?_)(fun g=>?_)⟩
 · have g:Num.isNeg l=false:=by simpa using g
  unfold Num.afterNeg; rw [g]; exact⟨rfl,rfl⟩
 · have g:Num.isNeg l=true:=by simpa using g
  have h2:1<=l.length:=by
   cases l with
   | nil=>cases g
   | cons=>simp
  refine⟨_,qb l h(a:=1)h2,?_,rfl⟩
  unfold Num.afterNeg; rw [g]; rfl
theorem Nx(l:List UInt8)(h:Heap):FW SS 145 [aa l,aa [45]] h(fun v h'=>v = .tuple⟨[aa(Num.afterNeg l),.bool(Num.isNeg l)]⟩/\h' = h):=by
 refine Mf l [45] h _((JZ l h).mono ?_)
 rintro _ g0⟨rfl,e0⟩
 exact⟨_,_,rfl,rfl,e0⟩
theorem IS(l:List UInt8):∀ i:Nat,jA 47 l i=if Num.idxB 47 l < l.length then((i + Num.idxB 47 l:Nat):Int) else -1:=by
 induction l with
 | nil=>intro i; rfl
 | cons c l ih =>
  intro i
  unfold jA Num.idxB
  have hc:c.toNat=47↔c=47:=by rw [<- UInt8.toNat_inj]; rfl
  by_cases h:c=47
  · rw [if_pos(hc.2 h),if_pos h,if_pos(by simp)]; rfl
  · rw [if_neg(fun e=>h(hc.1 e)),if_neg h,ih(i + 1)]
   have:(Num.idxB 47 l + 1 < (c :: l).length)↔Num.idxB 47 l < l.length:=by simp
   simp af [this]
   split
   · congr 1; omega
   · rfl
def CA(l:List UInt8):Int:=if Num.idxB 47 l < l.length then(Num.idxB 47 l:Int) else -1
theorem HB(l:List UInt8)(h:Heap):FW SS 186 [aa l,.int .u8 47] h(fun v h'=>v = .int .i64(CA l)/\h' = h):=by
 refine Hd l 47 h _(EH(p:=dK)(v:= .int .i64(CA l))(h':=h)(by decide +kernel)(by kernel_rfl)(fun cf=>?_)⟨_,rfl,rfl,rfl⟩)
 show(if(0:Int)<=47/\(47:Int) < 256 then some(Value.int .i64(jA 47 l 0),h) else none)=_
 rw [if_pos(by decide),IS,Nat.zero_add]; rfl
theorem Me(l:List UInt8)(h:Heap):FW SS 178 [aa l,aa [47]] h(fun v h'=>v = .int .i64(CA l)/\h' = h):=by
 refine Mh l h _(ae(fun h1=>?_)(fun h1=>?_))
 · have h1:([47] : List UInt8)=l:=by simpa using h1
  subst h1
  exact⟨rfl,rfl⟩
 · refine⟨47,rfl,(HB l h).mono ?_⟩
  rintro _ g0⟨rfl,e0⟩
  exact⟨_,rfl,rfl,e0⟩
def Ny(l:List UInt8):Value:=if Num.idxB 47 l < l.length then .tuple⟨[aa(l.take(Num.idxB 47 l)),aa(l.drop(Num.idxB 47 l + 1)),.bool true]⟩else .tuple⟨[aa l,aa [],.bool false]⟩
theorem S3(l:List UInt8)(hl:l.length<=1000000000){h:Heap}(w:Wf h):FW SS 166 [aa l,aa [47]] h(fun v h'=>v=Ny l/\Ok h h'):=by
 refine S1 l h _((Me l h).mono ?_)
 rintro _ g0⟨rfl,e0⟩
 obtain rfl:h=g0:=e0.symm
 refine⟨_,rfl,ae(fun g=>?_)(fun g=>?_)⟩
 · have g:=of_decide_eq_true g
  unfold CA Ny at *
  by_cases h1:Num.idxB 47 l < l.length
  · rw [if_pos h1,if_pos h1]
   have hw:IntKind.wrap .i64((Num.idxB 47 l:Int) + 1)=((Num.idxB 47 l + 1:Nat):Int):=by rw [ap(by omega)(by omega)]; omega
   rw [hw]
   exact⟨_,Ef l _(Nat.le_of_lt h1),_,qb l _ h1,rfl,(Ok.refl w).room 12⟩
  · rw [if_neg h1] at g; omega
 · have g:=of_decide_eq_false g
  unfold CA Ny at *
  by_cases h1:Num.idxB 47 l < l.length
  · rw [if_pos h1] at g; omega
  · rw [if_neg h1]; exact⟨rfl,Ok.refl w⟩
theorem UW(l:List UInt8)(hl:l.length<=1000000000){h:Heap}(w:Wf h):FW SS 146 [aa l,aa [47]] h(fun v h'=>v=Ny l/\Ok h h'):=by
 refine Uu l h _((S3 l hl w).mono ?_)
 rintro _ g0⟨rfl,e0⟩
 unfold Ny
 split
 · exact⟨_,_,_,rfl,rfl,e0⟩
 · exact⟨_,_,_,rfl,rfl,e0⟩
theorem FS(l:List UInt8)(hl:l.length<=1000000000)(h:Heap):FW SS 126 [aa l,.int .u8 47] h(fun v h'=>v = .int .i64(CA l)/\h' = h):=by
 refine Fw l 47 h _(oJ l 47(fun mz i g=>g=h/\i<=l.length/\mz=l.length - i/\∀ j,j < i->l.getD j 0≠47)_(fun mz i=>?_)l.length(i:=0)⟨rfl,by omega,rfl,fun j hj=>by omega⟩)
 intros; rename_i g hi
 obtain⟨rfl,h1,h2,h3⟩:=hi
 refine ae(fun g1=>?_)(fun g1=>?_)
 · have g1:=of_decide_eq_true g1
  have e:aR SS.P 9(aa l)(.int .i64(i:Int))=some(.int .u8(((l.getD i 0).toNat:Nat):Int)):=by
   have:=i4 NW l .i64(i:=(i:Int))(by omega)g1
   simpa using this
  refine⟨_,e,ae(fun g2=>?_)(fun g2=>?_)⟩
  · have g2:(l.getD i 0).toNat=47:=by have:=of_decide_eq_true g2; omega
   have g3:l.getD i 0=47:=by rw [<- UInt8.toNat_inj]; exact g2
   have:=Num.idxB_iff 47 l i h1 h3(fun _=>g3)
   refine⟨?_,rfl⟩
   unfold CA; rw [this,if_pos(by omega)]
  · have g2:((l.getD i 0).toNat:Int)≠47:=by simpa using g2
   have hw:IntKind.wrap .i64((i:Int) + 1)=((i + 1:Nat):Int):=by rw [ap(by omega)(by omega)]; omega
   rw [hw]
   refine om(mz - 1)(by omega)⟨rfl,by omega,by omega,fun j hj=>?_⟩
   rcases Nat.lt_or_ge j i with hj2 | hj2
   · exact h3 j hj2
   · obtain rfl:j=i:=by omega
    intro e3; rw [e3] at g2; exact g2 rfl
 · have g1:=of_decide_eq_false g1
  obtain rfl:i=l.length:=by omega
  have:=Num.idxB_iff 47 l l.length(Nat.le_refl _)h3(fun hh=>by omega)
  refine⟨?_,rfl⟩
  unfold CA; rw [this,if_neg(by omega)]
end Go.Proofs.YtoabjjimjldcfaaGreatDoor
end
section
set_option linter.unusedVariables false
set_option maxRecDepth 100000
namespace Go.Proofs.YtoabjjimjldcfaaGreatDoor
open Go Go.Ab
noncomputable def nH:Code:=(Tryz.f153.body).getD .skip
def Ey:List Nat:=[]
abbrev EV(l:LB)(h:Heap)(Q:VH):Prop:=ax(decide((((l:LB).length:Int):Int) > 1000))(Q(.tuple⟨[(aa []),(.int .i64 2)]⟩)h)(Q(.tuple⟨[(aa l),(.int .i64 0)]⟩)h)
theorem BS(l:LB)(h:Heap)(Q:VH)(hx:EV l h Q):FW SS 153 [(aa l)] h Q:=ay(M:=Ey)(c:=nH)Tryz.func153(show Tryz.f153.body=some nH by kernel_rfl)(by kernel_rfl)(aj hx(by kernel_rfl))
noncomputable def wu:Code:=(Tryz.f130.body).getD .skip
def Rc:List Nat:=[]
abbrev Pu(l m:LB)(h:Heap)(Q:VH):Prop:=FW SS 149 [(aa l)] h fun v1 h2=>yB v1 fun b3=>ax(!b3)(Q(.int .i64 0)h2)(FW SS 149 [(aa m)] h2 fun v4 h5=>yB v4 fun b6=>ax(!b6)(Q(.int .i64 0)h5)(FW SS 155 [(aa l),(aa m)] h5 fun v7 h8=>yI .i64 v7 fun n9=>Q(.int .i64 n9)h8))
theorem LW(l m:LB)(h:Heap)(Q:VH)(hx:Pu l m h Q):FW SS 130 [(aa l),(aa m)] h Q:=ay(M:=Rc)(c:=wu)Tryz.func130(show Tryz.f130.body=some wu by kernel_rfl)(by kernel_rfl)(aj hx(by kernel_rfl))
noncomputable def xg:Code:=(Tryz.f131.body).getD .skip
def N6:List Nat:=[]
abbrev PM(l m:LB)(h:Heap)(Q:VH):Prop:=FW SS 149 [(aa l)] h fun v1 h2=>yB v1 fun b3=>ax(!b3)(Q(.tuple⟨[(aa []),(.int .i64 1)]⟩)h2)(FW SS 149 [(aa m)] h2 fun v4 h5=>yB v4 fun b6=>ax(!b6)(Q(.tuple⟨[(aa []),(.int .i64 1)]⟩)h5)(FW SS 155 [(aa l),(aa m)] h5 fun v7 h8=>yI .i64 v7 fun n9=>ax(decide((n9:Int) < 0))(Q(.tuple⟨[(aa []),(.int .i64 4)]⟩)h8)(FW SS 151 [(aa l)] h8 fun v10 h11=>yL v10 fun a12 n13 c14=>FW SS 151 [(aa m)] h11 fun v15 h16=>yL v15 fun a17 n18 c19=>FW SS 156 [(.slice a12 n13 c14),(.slice a17 n18 c19)] h16 fun v20 h21=>yL v20 fun a22 n23 c24=>FW SS 154 [(.slice a22 n23 c24)] h21 fun v25 h26=>yS v25 fun l27=>Q(.tuple⟨[(aa l27),(.int .i64 0)]⟩)h26)))
theorem LC(l m:LB)(h:Heap)(Q:VH)(hx:PM l m h Q):FW SS 131 [(aa l),(aa m)] h Q:=ay(M:=N6)(c:=xg)Tryz.func131(show Tryz.f131.body=some xg by kernel_rfl)(by kernel_rfl)(aj hx(by kernel_rfl))
noncomputable def hH:Code:=(Tryz.f129.body).getD .skip
noncomputable def H2(Q:VH):ak:=cF SS Tryz.f129.results.toList Q
def AJ:List Nat:=[6,7,8,9,10]
noncomputable def Hq(p:List Nat)(w:LV)(h:Heap)(Q:ak):Prop:=bq SS Tryz.f129.ntmps AJ(aQ p hH)w h Q
noncomputable def H3(p b:List Nat)(K:ak):ak:=ko SS Tryz.f129.ntmps AJ p(aQ b hH)K
abbrev Pn(l m:LB)(h:Heap)(Q:VH):Prop:=FW SS 149 [(aa l)] h fun v1 h2=>yB v1 fun b3=>ax(!b3)(Q(.tuple⟨[(aa []),(.int .i64 1)]⟩)h2)(FW SS 149 [(aa m)] h2 fun v4 h5=>yB v4 fun b6=>ax(!b6)(Q(.tuple⟨[(aa []),(.int .i64 1)]⟩)h5)(FW SS 151 [(aa l)] h5 fun v7 h8=>yL v7 fun a9 n10 c11=>FW SS 151 [(aa m)] h8 fun v12 h13=>yL v12 fun a14 n15 c16=>Hq [1,1,1,1,1,0,1,0,0] [(.slice a9 n10 c11),(.slice a14 n15 c16),nA,(.int .i64 0),(.int .i64 0)] h13(H3 [1,1,1,1,1,0,1,0] [] (H2 Q))))
theorem NB(l m:LB)(h:Heap)(Q:VH)(hx:Pn l m h Q):FW SS 129 [(aa l),(aa m)] h Q:=ay(M:=AJ)(c:=hH)Tryz.func129(show Tryz.f129.body=some hH by kernel_rfl)(by kernel_rfl)(aj hx(by kernel_rfl))
abbrev jo(l m:LB)(a:OA)(n c:Nat)(b:OA)(k d:Nat)(i:Nat)(cy:Int)(r:OA)(rn:Nat)(rc:Nat)  : LV:=[(.slice a n c),(.slice b k d),(.slice r rn rc),(.int .i64 cy),(iA i)]
def fx(l m:LB)(a:OA)(n c:Nat)(b:OA)(k d:Nat)(Inv:Nat->Nat->Int->OA->Nat->Nat->Heap->Prop)(mz:Nat)(w:LV)(h:Heap):Prop:= ∃ (i:Nat)(cy:Int)(r:OA)(rn:Nat)(rc:Nat) ,w=(jo l m a n c b k d i cy r rn rc )/\Inv mz i cy r rn rc h
abbrev pF(l m:LB)(a:OA)(n c:Nat)(b:OA)(k d:Nat)(Inv:Nat->Nat->Int->OA->Nat->Nat->Heap->Prop)(Q:VH)(mz:Nat)(i:Nat)(cy:Int)(r:OA)(rn:Nat)(rc:Nat)  (zz:Nat->Value)(h:Heap):Prop:=ax(decide(((i:Int):Int)<=(n:Int)))(FW SS 152 [(.slice a n c),(iA i)] h fun v17 h18=>yI .i64 v17 fun n19=>FW SS 152 [(.slice b k d),(iA i)] h18 fun v20 h21=>yI .i64 v20 fun n22=>xI .i64(an SS.P .rem 3(.int .i64(IntKind.wrap .i64(IntKind.wrap .i64(n19 + n22) + cy)))(.int .i64 10))fun n23=>xR(az SS.P 48 1 [(0,(.int .i64 n23))])h21 fun B24 n25 c26 g27=>xE(aC SS.P 48 48(.slice r rn rc)(sA(h21.next)n25 c26)g27)g27 fun a28 n29 c30 u31 g32=>xI .i64(an SS.P .quo 3(.int .i64(IntKind.wrap .i64(IntKind.wrap .i64(n19 + n22) + cy)))(.int .i64 10))fun n33=>al(fx l m a n c b k d Inv)mz [(.slice a n c),(.slice b k d),(.slice a28 n29 c30),(.int .i64 n33),(.int .i64(IntKind.wrap .i64((i:Int) + 1)))] g32)(ax(decide(((i:Int):Int)<=(k:Int)))(FW SS 152 [(.slice a n c),(iA i)] h fun v34 h35=>yI .i64 v34 fun n36=>FW SS 152 [(.slice b k d),(iA i)] h35 fun v37 h38=>yI .i64 v37 fun n39=>xI .i64(an SS.P .rem 3(.int .i64(IntKind.wrap .i64(IntKind.wrap .i64(n36 + n39) + cy)))(.int .i64 10))fun n40=>xR(az SS.P 48 1 [(0,(.int .i64 n40))])h38 fun B41 n42 c43 g44=>xE(aC SS.P 48 48(.slice r rn rc)(sA(h38.next)n42 c43)g44)g44 fun a45 n46 c47 u48 g49=>xI .i64(an SS.P .quo 3(.int .i64(IntKind.wrap .i64(IntKind.wrap .i64(n36 + n39) + cy)))(.int .i64 10))fun n50=>al(fx l m a n c b k d Inv)mz [(.slice a n c),(.slice b k d),(.slice a45 n46 c47),(.int .i64 n50),(.int .i64(IntKind.wrap .i64((i:Int) + 1)))] g49)(FW SS 154 [(.slice r rn rc)] h fun v51 h52=>yS v51 fun l53=>FW SS 153 [(aa l53)] h52 fun v54 h55=>∃ l56:LB,∃ n57:Int,v54=(.tuple⟨[(aa l56),(.int .i64 n57)]⟩)/\Q(.tuple⟨[(aa l56),(.int .i64 n57)]⟩)h55))
theorem kY {l m:LB}{a:OA}{n c:Nat}{b:OA}{k d:Nat}{Inv:Nat->Nat->Int->OA->Nat->Nat->Heap->Prop}{mz:Nat}(mq:Nat){i:Nat}{cy:Int}{r:OA}{rn:Nat}{rc:Nat}  {h:Heap}(hm:mq < mz)(hi:Inv mq i cy r rn rc h):al(fx l m a n c b k d Inv)mz(jo l m a n c b k d i cy r rn rc )h :=⟨mq,hm,i,cy,r,rn,rc,rfl,hi⟩
theorem so(l m:LB)(a:OA)(n c:Nat)(b:OA)(k d:Nat)(Inv:Nat->Nat->Int->OA->Nat->Nat->Heap->Prop)(Q:VH)(step:∀ (mz:Nat)(i:Nat)(cy:Int)(r:OA)(rn:Nat)(rc:Nat)  (zz:Nat->Value)(h:Heap),Inv mz i cy r rn rc h->pF l m a n c b k d Inv Q mz i cy r rn rc  zz h)(mz:Nat){i:Nat}{cy:Int}{r:OA}{rn:Nat}{rc:Nat}  {h:Heap}(hi:Inv mz i cy r rn rc h):Hq [1,1,1,1,1,0,1,0,0] (jo l m a n c b k d i cy r rn rc )h(H3 [1,1,1,1,1,0,1,0] [] (H2 Q)):=
 aq(A:=(fx l m a n c b k d Inv))(show aG Tryz.f129.ntmps(aQ [1,1,1,1,1,0,1,0,0] hH)=true by kernel_rfl)(fun mz w zz h⟨i,cy,r,rn,rc,hw,hi⟩=> by subst hw; exact aj(step mz i cy r rn rc  zz h hi)(by kernel_rfl))mz _ h⟨i,cy,r,rn,rc,rfl,hi⟩(fun zz=>by kernel_rfl)(by kernel_rfl)
noncomputable def fb:Code:=(Tryz.f132.body).getD .skip
noncomputable def uA(Q:VH):ak:=cF SS Tryz.f132.results.toList Q
def pc:List Nat:=[6,7,8,9,10,11]
noncomputable def sW(p:List Nat)(w:LV)(h:Heap)(Q:ak):Prop:=bq SS Tryz.f132.ntmps pc(aQ p fb)w h Q
noncomputable def lT(p b:List Nat)(K:ak):ak:=ko SS Tryz.f132.ntmps pc p(aQ b fb)K
abbrev P9(l m:LB)(h:Heap)(Q:VH):Prop:=FW SS 149 [(aa l)] h fun v1 h2=>yB v1 fun b3=>ax(!b3)(Q(.tuple⟨[(aa []),(.int .i64 1)]⟩)h2)(FW SS 149 [(aa m)] h2 fun v4 h5=>yB v4 fun b6=>ax(!b6)(Q(.tuple⟨[(aa []),(.int .i64 1)]⟩)h5)(FW SS 151 [(aa l)] h5 fun v7 h8=>yL v7 fun a9 n10 c11=>FW SS 151 [(aa m)] h8 fun v12 h13=>yL v12 fun a14 n15 c16=>xR(aX SS.P 48(.int .i64(IntKind.wrap .i64(IntKind.wrap .i64((n10:Int) + (n15:Int)) + 1)))(.int .i64(IntKind.wrap .i64(IntKind.wrap .i64((n10:Int) + (n15:Int)) + 1))))h13 fun B17 n18 c19 g20=>sW [1,1,1,1,0,1,0,0] [(.slice a9 n10 c11),(.slice a14 n15 c16),(sA(h13.next)n18 c19),(.int .i64 0),undef,undef] g20(lT [1,1,1,1,0,1,0] [] (uA Q))))
theorem L7(l m:LB)(h:Heap)(Q:VH)(hx:P9 l m h Q):FW SS 132 [(aa l),(aa m)] h Q:=ay(M:=pc)(c:=fb)Tryz.func132(show Tryz.f132.body=some fb by kernel_rfl)(by kernel_rfl)(aj hx(by kernel_rfl))
abbrev j8(l m:LB)(a:OA)(n c:Nat)(b:OA)(k d:Nat)(t:OA)(tn tc:Nat)(i:Nat)(y10 y11:Value):LV:=[(.slice a n c),(.slice b k d),(.slice t tn tc),(iA i),y10,y11]
def dQ(l m:LB)(a:OA)(n c:Nat)(b:OA)(k d:Nat)(t:OA)(tn tc:Nat)(Inv:Nat->Nat->Heap->Prop)(mz:Nat)(w:LV)(h:Heap):Prop:= ∃ (i:Nat)(y10 y11:Value),w=(j8 l m a n c b k d t tn tc i y10 y11)/\Inv mz i h
abbrev z8(l m:LB)(a:OA)(n c:Nat)(b:OA)(k d:Nat)(t:OA)(tn tc:Nat)(Inv:Nat->Nat->Heap->Prop)(Q:VH)(mz:Nat)(i:Nat)(y10 y11:Value)(zz:Nat->Value)(h:Heap):Prop:=ax(decide(((i:Int):Int) < (n:Int)))(sW [1,1,1,1,0,1,0,0,1,0,0,1,1,0,0] [(.slice a n c),(.slice b k d),(.slice t tn tc),(iA i),(.int .i64 0),(.int .i64 0)] h(lT [1,0,0,1,1,0] [1,1,1,1,0,1,0,0] (aU pc(dQ l m a n c b k d t tn tc Inv)mz(lT [1,1,1,1,0,1,0] [] (uA Q)))))(FW SS 154 [(.slice t tn tc)] h fun v21 h22=>yS v21 fun l23=>FW SS 153 [(aa l23)] h22 fun v24 h25=>∃ l26:LB,∃ n27:Int,v24=(.tuple⟨[(aa l26),(.int .i64 n27)]⟩)/\Q(.tuple⟨[(aa l26),(.int .i64 n27)]⟩)h25)
theorem ve {l m:LB}{a:OA}{n c:Nat}{b:OA}{k d:Nat}{t:OA}{tn tc:Nat}{Inv:Nat->Nat->Heap->Prop}{mz:Nat}(mq:Nat){i:Nat}{y10 y11:Value}{h:Heap}(hm:mq < mz)(hi:Inv mq i h):al(dQ l m a n c b k d t tn tc Inv)mz(j8 l m a n c b k d t tn tc i y10 y11)h :=⟨mq,hm,i,y10,y11,rfl,hi⟩
theorem tz(l m:LB)(a:OA)(n c:Nat)(b:OA)(k d:Nat)(t:OA)(tn tc:Nat)(Inv:Nat->Nat->Heap->Prop)(Q:VH)(step:∀ (mz:Nat)(i:Nat)(y10 y11:Value)(zz:Nat->Value)(h:Heap),Inv mz i h->z8 l m a n c b k d t tn tc Inv Q mz i y10 y11 zz h)(mz:Nat){i:Nat}{y10 y11:Value}{h:Heap}(hi:Inv mz i h):sW [1,1,1,1,0,1,0,0] (j8 l m a n c b k d t tn tc i y10 y11)h(lT [1,1,1,1,0,1,0] [] (uA Q)):=
 aq(A:=(dQ l m a n c b k d t tn tc Inv))(show aG Tryz.f132.ntmps(aQ [1,1,1,1,0,1,0,0] fb)=true by kernel_rfl)(fun mz w zz h⟨i,y10,y11,hw,hi⟩=> by subst hw; exact aj(step mz i y10 y11 zz h hi)(by kernel_rfl))mz _ h⟨i,y10,y11,rfl,hi⟩(fun zz=>by kernel_rfl)(by kernel_rfl)
abbrev jp(l m:LB)(a:OA)(n c:Nat)(b:OA)(k d:Nat)(t:OA)(tn tc:Nat)(i:Nat)(j:Nat)(cy:Int)  : LV:=[(.slice a n c),(.slice b k d),(.slice t tn tc),(iA i),(.int .i64 cy),(iA j)]
def jb(l m:LB)(a:OA)(n c:Nat)(b:OA)(k d:Nat)(t:OA)(tn tc:Nat)(i:Nat)(Inv2:Nat->Nat->Int->Heap->Prop)(mz2:Nat)(w:LV)(h:Heap):Prop:= ∃ (j:Nat)(cy:Int) ,w=(jp l m a n c b k d t tn tc i j cy )/\Inv2 mz2 j cy h
abbrev pi(l m:LB)(a:OA)(n c:Nat)(b:OA)(k d:Nat)(t:OA)(tn tc:Nat)(Inv:Nat->Nat->Heap->Prop)(mz i:Nat)(Inv2:Nat->Nat->Int->Heap->Prop)(Q:VH)(mz2:Nat)(j:Nat)(cy:Int)  (zz:Nat->Value)(h:Heap):Prop:=ax(decide(((j:Int):Int)<=(k:Int)))(xP(ag SS.P 48(.slice t tn tc)(.int .i64(IntKind.wrap .i64((i:Int) + (j:Int)))))fun p28=>xI .i64(ai SS.P 3(room h 18)(.pointer(some p28)))fun n29=>xP(ag SS.P 48(.slice a n c)(iA i))fun p30=>xI .i64(ai SS.P 3(room h 18)(.pointer(some p30)))fun n31=>FW SS 152 [(.slice b k d),(iA j)] (room h 18)fun v32 h33=>yI .i64 v32 fun n34=>(ai SS.P 3 h33(.pointer(some p28))=some(.int .i64 n29)/\cP 4(.int .i64 n29)(.int .i64 n29)=true)/\(ai SS.P 3 h33(.pointer(some p30))=some(.int .i64 n31)/\cP 4(.int .i64 n31)(.int .i64 n31)=true)/\xI .i64(an SS.P .rem 3(.int .i64(IntKind.wrap .i64(IntKind.wrap .i64(n29 + IntKind.wrap .i64(n31 * n34)) + cy)))(.int .i64 10))fun n35=>xP(ag SS.P 48(.slice t tn tc)(.int .i64(IntKind.wrap .i64((i:Int) + (j:Int)))))fun p36=>xU(am SS.P 3(.pointer(some p36))(.int .i64 n35)h33)h33 fun u37 g38=>xI .i64(an SS.P .quo 3(.int .i64(IntKind.wrap .i64(IntKind.wrap .i64(n29 + IntKind.wrap .i64(n31 * n34)) + cy)))(.int .i64 10))fun n39=>al(jb l m a n c b k d t tn tc i Inv2)mz2 [(.slice a n c),(.slice b k d),(.slice t tn tc),(iA i),(.int .i64 n39),(.int .i64(IntKind.wrap .i64((j:Int) + 1)))] g38)(al(dQ l m a n c b k d t tn tc Inv)mz [(.slice a n c),(.slice b k d),(.slice t tn tc),(.int .i64(IntKind.wrap .i64((i:Int) + 1))),(.int .i64 cy),(iA j)] h)
theorem tA {l m:LB}{a:OA}{n c:Nat}{b:OA}{k d:Nat}{t:OA}{tn tc:Nat}{i:Nat}{Inv2:Nat->Nat->Int->Heap->Prop}{mz2:Nat}(mq:Nat){j:Nat}{cy:Int}  {h:Heap}(hm:mq < mz2)(hi:Inv2 mq j cy h):al(jb l m a n c b k d t tn tc i Inv2)mz2(jp l m a n c b k d t tn tc i j cy )h :=⟨mq,hm,j,cy,rfl,hi⟩
theorem uz(l m:LB)(a:OA)(n c:Nat)(b:OA)(k d:Nat)(t:OA)(tn tc:Nat)(Inv:Nat->Nat->Heap->Prop)(mz i:Nat)(Inv2:Nat->Nat->Int->Heap->Prop)(Q:VH)(step:∀ (mz2:Nat)(j:Nat)(cy:Int)  (zz:Nat->Value)(h:Heap),Inv2 mz2 j cy h->pi l m a n c b k d t tn tc Inv mz i Inv2 Q mz2 j cy  zz h)(mz2:Nat){j:Nat}{cy:Int}  {h:Heap}(hi:Inv2 mz2 j cy h):sW [1,1,1,1,0,1,0,0,1,0,0,1,1,0,0] (jp l m a n c b k d t tn tc i j cy )h(lT [1,0,0,1,1,0] [1,1,1,1,0,1,0,0] (aU pc(dQ l m a n c b k d t tn tc Inv)mz(lT [1,1,1,1,0,1,0] [] (uA Q)))):=
 aq(A:=(jb l m a n c b k d t tn tc i Inv2))(show aG Tryz.f132.ntmps(aQ [1,1,1,1,0,1,0,0,1,0,0,1,1,0,0] fb)=true by kernel_rfl)(fun mz2 w zz h⟨j,cy,hw,hi⟩=> by subst hw; exact aj(step mz2 j cy  zz h hi)(by kernel_rfl))mz2 _ h⟨j,cy,rfl,hi⟩(fun zz=>by kernel_rfl)(by kernel_rfl)
end Go.Proofs.YtoabjjimjldcfaaGreatDoor
end
section
set_option linter.unusedVariables false
set_option maxRecDepth 100000
namespace Go.Proofs.YtoabjjimjldcfaaGreatDoor
open Go Go.Ab
theorem qY(X:Nat)(h:Heap):FW SS 153 [aa(Num.toDec X)] h(fun v h'=>v=ki X/\h' = h):=by
 refine BS _ h _(ae(fun h1=>?_)(fun h1=>?_))
 · have h1:=of_decide_eq_true h1
  refine⟨?_,rfl⟩
  unfold ki; rw [if_pos(by omega)]; rfl
 · have h1:=of_decide_eq_false h1
  refine⟨?_,rfl⟩
  unfold ki; rw [if_neg(by omega)]; rfl
theorem Ly(a b:List UInt8){h:Heap}(w:Wf h):FW SS 130 [aa a,aa b] h(fun v h'=>v=yb a b/\Ok h h'):=by
 refine LW a b h _((bB a h).mono ?_)
 rintro _ g0⟨rfl,e0⟩
 obtain rfl:h=g0:=e0.symm
 refine⟨_,rfl,ae(fun g=>?_)(fun g=>?_)⟩
 · have g:Num.valid a=false:=by simpa using g
  refine⟨?_,Ok.refl w⟩
  unfold yb; rw [if_neg(fun e=>by rw [e.1] at g; cases g)]
 have g:Num.valid a=true:=by simpa using g
 refine(bB b h).mono ?_
 rintro _ g0⟨rfl,e0⟩
 obtain rfl:h=g0:=e0.symm
 refine⟨_,rfl,ae(fun g2=>?_)(fun g2=>?_)⟩
 · have g2:Num.valid b=false:=by simpa using g2
  refine⟨?_,Ok.refl w⟩
  unfold yb; rw [if_neg(fun e=>by rw [e.2] at g2; cases g2)]
 have g2:Num.valid b=true:=by simpa using g2
 have hS:yb a b = .int .i64(Num.cmpN(Num.val a)(Num.val b)):=by unfold yb; rw [if_pos⟨g,g2⟩]
 rw [hS]
 obtain⟨m,rfl,hm,em⟩:=Num.valid_ex g
 obtain⟨n,rfl,hn,en⟩:=Num.valid_ex g2
 have lm:=ck hm
 have ln:=ck hn
 rw [em,en]
 refine(lk m n(by omega)(by omega)h w).mono ?_
 rintro _ g⟨rfl,ok⟩
 exact⟨_,rfl,rfl,ok⟩
theorem lJ {a:List UInt8}(va:Num.valid a=true){h:Heap}(w:Wf h):FW SS 151 [aa a] h(dz h 3((Num.digs a).map iv)):=by
 have da:=(Num.valid_iff.1 va)
 exact ni a da.1.2.1(Nat.le_trans da.2(by omega))h w
theorem eH {a:List UInt8}(va:Num.valid a=true):∀ d∈Num.digs a,d < 10:=Num.digs_lt(Num.valid_iff.1 va).1.2.1
theorem iT {a:List UInt8}(va:Num.valid a=true):(Num.digs a).length<=1000:=by
 rw [Num.digs_len]; exact(Num.valid_iff.1 va).2
theorem Cy {a b:List UInt8}(va:Num.valid a=true)(vb:Num.valid b=true)(h:Num.val b<=Num.val a):b.length<=a.length:=by
 obtain⟨m,rfl,_,em⟩:=Num.valid_ex va
 obtain⟨n,rfl,_,en⟩:=Num.valid_ex vb
 exact Nat.le_of_not_lt fun g=>by have:=Num.toDec_len_lt g; omega
theorem CW(a b:List UInt8){h:Heap}(w:Wf h):FW SS 131 [aa a,aa b] h(fun v h'=>v=x7 a b/\Ok h h'):=by
 refine LC a b h _((bB a h).mono ?_)
 rintro _ g0⟨rfl,e0⟩
 obtain rfl:h=g0:=e0.symm
 refine⟨_,rfl,ae(fun g=>?_)(fun g=>?_)⟩
 · have g:Num.valid a=false:=by simpa using g
  refine⟨?_,Ok.refl w⟩
  unfold x7; rw [if_neg(fun e=>by rw [e.1] at g; cases g)]; rfl
 have g:Num.valid a=true:=by simpa using g
 refine(bB b h).mono ?_
 rintro _ g0⟨rfl,e0⟩
 obtain rfl:h=g0:=e0.symm
 refine⟨_,rfl,ae(fun g2=>?_)(fun g2=>?_)⟩
 · have g2:Num.valid b=false:=by simpa using g2
  refine⟨?_,Ok.refl w⟩
  unfold x7; rw [if_neg(fun e=>by rw [e.2] at g2; cases g2)]; rfl
 have g2:Num.valid b=true:=by simpa using g2
 have hS:x7 a b=(if Num.val a < Num.val b then BI [] 4 else BI(Num.toDec(Num.val a - Num.val b))0):=by unfold x7; rw [if_pos⟨g,g2⟩]
 rw [hS]
 have hc:FW SS 155 [aa a,aa b] h(fun v h'=>v = .int .i64(Num.cmpN(Num.val a)(Num.val b))/\Ok h h'):=by
  obtain⟨m,rfl,hm,em⟩:=Num.valid_ex g
  obtain⟨n,rfl,hn,en⟩:=Num.valid_ex g2
  have lm:=ck hm
  have ln:=ck hn
  rw [em,en]
  exact lk m n(by omega)(by omega)h w
 refine hc.mono ?_
 rintro _ h1⟨rfl,ok1⟩
 refine⟨_,rfl,ae(fun h6=>?_)(fun h6=>?_)⟩
 · have h6:=of_decide_eq_true h6
  rw [if_pos(cmpN_lt h6)]
  exact⟨rfl,ok1⟩
 have h6:=of_decide_eq_false h6
 have hle:=cmpN_ge h6
 rw [if_neg(Nat.not_lt.2 hle)]
 refine(lJ g ok1.wf).mono ?_
 rintro _ h2⟨a2,n2,c2,rfl,o2,ok2⟩
 refine⟨_,_,_,rfl,(lJ g2 ok2.wf).mono ?_⟩
 rintro _ h3⟨a3,n3,c3,rfl,o3,ok3⟩
 refine⟨_,_,_,rfl,(AR(o2.rd.ok ok3)o3.rd(eH g)(eH g2)(Nat.le_trans(iT g)(by omega))ok3.wf).mono ?_⟩
 rintro _ h4⟨a4,n4,c4,rfl,o4,ok4⟩
 refine⟨_,_,_,rfl,(nv o4.rd(Num.less_lt(eH g)(eH g2)_ _ _(by omega))(by rw [Num.eachF_len]; exact Nat.le_trans(iT g)(by omega))ok4.wf).mono ?_⟩
 rintro _ h5⟨rfl,ok5⟩
 refine⟨_,rfl,?_,(((ok1.trans ok2).trans ok3).trans ok4).trans ok5⟩
 rw [Num.less_bv(eH g)(eH g2)(by rw [Num.digs_len,Num.digs_len]; exact Cy g g2 hle)(by rw [Num.bv_digs,Num.bv_digs]; exact hle),Num.bv_digs,Num.bv_digs]
 rfl
theorem Qk {d:Nat} : an SS.P .rem 3(.int .i64(d:Int))(.int .i64 10)=some(.int .i64((d % 10:Nat):Int)):=by
 rw [show(10:Int)=((10:Nat):Int) from rfl,cO(by omega)(by decide),Int.natCast_emod]
theorem QR {d:Nat}(h:d < 1000000):an SS.P .quo 3(.int .i64(d:Int))(.int .i64 10)=some(.int .i64((d / 10:Nat):Int)):=by
 have h2:(d:Int).tdiv 10=((d / 10:Nat):Int):=by
  rw [Int.tdiv_eq_ediv_of_nonneg(by omega)]; rfl
 rw [Ez SS.P 3 .i64 _ _(by omega),h2,ap(by omega)(by omega)]
theorem LR {p q c:Nat}(hp:p < 10)(hq:q < 10)(hc:c<=1):(Num.plusF 10 p q c).2<=1:=by
 show(p + q + c) / 10<=1
 omega
theorem NT(a b:List UInt8){h:Heap}(w:Wf h):FW SS 129 [aa a,aa b] h(fun v h'=>v=yr a b/\Ok h h'):=by
 refine NB a b h _((bB a h).mono ?_)
 rintro _ g0⟨rfl,e0⟩
 obtain rfl:h=g0:=e0.symm
 refine⟨_,rfl,ae(fun g=>?_)(fun g=>?_)⟩
 · have g:Num.valid a=false:=by simpa using g
  refine⟨?_,Ok.refl w⟩
  unfold yr; rw [if_neg(fun e=>by rw [e.1] at g; cases g)]; rfl
 have g:Num.valid a=true:=by simpa using g
 refine(bB b h).mono ?_
 rintro _ g0⟨rfl,e0⟩
 obtain rfl:h=g0:=e0.symm
 refine⟨_,rfl,ae(fun g2=>?_)(fun g2=>?_)⟩
 · have g2:Num.valid b=false:=by simpa using g2
  refine⟨?_,Ok.refl w⟩
  unfold yr; rw [if_neg(fun e=>by rw [e.2] at g2; cases g2)]; rfl
 have g2:Num.valid b=true:=by simpa using g2
 have hS:yr a b=ki(Num.val a + Num.val b):=by unfold yr; rw [if_pos⟨g,g2⟩]
 rw [hS]
 refine(lJ g w).mono ?_
 rintro _ h2⟨a2,n2,c2,rfl,o2,ok2⟩
 refine⟨_,_,_,rfl,(lJ g2 ok2.wf).mono ?_⟩
 rintro _ h3⟨a3,n3,c3,rfl,o3,ok3⟩
 refine⟨_,_,_,rfl,?_⟩
 have r1:=o2.rd.ok ok3
 have r2:=o3.rd
 have ok:=ok2.trans ok3
 have w3:=ok3.wf
 have hn1:n2=(Num.digs a).length:=by have:=r1.len; rwa [List.length_map] at this
 have hn2:n3=(Num.digs b).length:=by have:=r2.len; rwa [List.length_map] at this
 have l1:=iT g
 have l2:=iT g2
 have hx:=eH g
 have hy:=eH g2
 have e1:=Num.bv_digs a
 have e2:=Num.bv_digs b
 generalize Num.digs a=x at *
 generalize Num.digs b=y at *
 have hcr:∀ j,Num.cr(Num.plusF 10)x y 0 0 j<=1:=by
  intro j
  induction j with
  | zero=>exact Nat.zero_le _
  | succ j ih=>exact LR(Num.getD_lt(by decide)hx _)(Num.getD_lt(by decide)hy _)ih
 have hbv:=Num.plus_bv(b:=10)(by decide)hx hy(max x.length y.length + 1)0 0(by omega)(by omega)(by omega)(by omega)
 rw [List.drop_zero,List.drop_zero,e1,e2,Nat.add_zero] at hbv
 rw [<- hn1,<- hn2] at hbv
 have hmx1:=Nat.le_max_left n2 n3
 have hmx2:=Nat.le_max_right n2 n3
 have hmx3:max n2 n3<=1000:=Nat.max_le.2⟨by omega,by omega⟩
 have hmx4:n2=max n2 n3\/n3=max n2 n3:=by omega
 generalize max n2 n3=N at *
 refine so a b a2 n2 c2 a3 n3 c3(fun mz i cy r rn rc g=>i<=N + 1/\mz=N + 1 - i/\cy=(Num.cr(Num.plusF 10)x y 0 0 i:Nat)/\OwnR h3 g 3(.slice r rn rc)((Num.eachF(Num.plusF 10)x y 0 i 0).map iv)/\Ok h3 g)(fun v h'=>v=ki(Num.val a + Num.val b)/\Ok h h')(by
  intro mz i cy r rn rc; intros; rename_i gg hi
  obtain⟨f1,f2,rfl,ho,okg⟩:=hi
  have hw3:IntKind.wrap .i64((i:Int) + 1)=((i + 1:Nat):Int):=by rw [ap(by omega)(by omega)]; omega
  unfold pF
  rw [hw3]
  have hel:(Num.eachF(Num.plusF 10)x y 0 i 0).length=i:=Num.eachF_len _ _ _ _ _ _
  have hsn:=Num.eachF_snoc(Num.plusF 10)x y i 0 0
  rw [Nat.zero_add] at hsn
  have hcr1:Num.cr(Num.plusF 10)x y 0 0(i + 1)=(Num.plusF 10(x.getD i 0)(y.getD i 0)(Num.cr(Num.plusF 10)x y 0 0 i)).2:=by
   show(Num.plusF 10(x.getD(0 + i)0)(y.getD(0 + i)0)_).2=_
   rw [Nat.zero_add]
  have hci:=hcr i
  have hp:=Num.getD_lt(by omega)hx i
  have hq:=Num.getD_lt(by omega)hy i
  generalize Num.cr(Num.plusF 10)x y 0 0 i=ci at *
  have hstep:∀ hg:i < N + 1,FW SS 152 [(.slice a2 n2 c2),(.int .i64(i:Int))] gg(fun v h'=>v = .int .i64(x.getD i 0:Nat)/\h' = gg)/\FW SS 152 [(.slice a3 n3 c3),(.int .i64(i:Int))] gg(fun v h'=>v = .int .i64(y.getD i 0:Nat)/\h' = gg):=fun _ =>⟨pD(r1.ok okg)i,pD(r2.ok okg)i⟩
  have hw1:IntKind.wrap .i64(((x.getD i 0:Nat):Int) + ((y.getD i 0:Nat):Int))=((x.getD i 0 + y.getD i 0:Nat):Int):=by rw [ap(by omega)(by omega)]; omega
  have hw2:IntKind.wrap .i64(((x.getD i 0 + y.getD i 0:Nat):Int) + (ci:Int))=((x.getD i 0 + y.getD i 0 + ci:Nat):Int):=by rw [ap(by omega)(by omega)]; omega
  refine ae(fun h5=>?_)(fun h5=>ae(fun h6=>?_)(fun h6=>?_))
  · have h5:=of_decide_eq_true h5
   obtain⟨s1,s2⟩:=hstep(by omega)
   refine s1.mono ?_
   rintro _ _⟨rfl,rfl⟩
   refine⟨_,rfl,s2.mono ?_⟩
   rintro _ _⟨rfl,rfl⟩
   rename_i gg
   refine⟨_,rfl,?_⟩
   dsimp af
   rw [hw1,hw2]
   obtain⟨b',m',d',u,g6,g7,g8,g9⟩:=z7 w3 okg ho(((x.getD i 0 + y.getD i 0 + ci) % 10:Nat):Int)(by rw [List.length_map,hel]; omega)
   refine⟨_,Qk,_,_,_,rv _,b',m',d',u,g6,_,QR(by omega),kY(mz - 1)(by omega)⟨by omega,by omega,by rw [hcr1]; rfl,?_,g9⟩⟩
   rw [hsn,List.map_append]
   exact g8
  · have h6:=of_decide_eq_true h6
   obtain⟨s1,s2⟩:=hstep(by omega)
   refine s1.mono ?_
   rintro _ _⟨rfl,rfl⟩
   refine⟨_,rfl,s2.mono ?_⟩
   rintro _ _⟨rfl,rfl⟩
   rename_i gg
   refine⟨_,rfl,?_⟩
   dsimp af
   rw [hw1,hw2]
   obtain⟨b',m',d',u,g6,g7,g8,g9⟩:=z7 w3 okg ho(((x.getD i 0 + y.getD i 0 + ci) % 10:Nat):Int)(by rw [List.length_map,hel]; omega)
   refine⟨_,Qk,_,_,_,rv _,b',m',d',u,g6,_,QR(by omega),kY(mz - 1)(by omega)⟨by omega,by omega,by rw [hcr1]; rfl,?_,g9⟩⟩
   rw [hsn,List.map_append]
   exact g8
  · have h5:=of_decide_eq_false h5
   have h6:=of_decide_eq_false h6
   obtain rfl:i=N + 1:=by omega
   refine(nv ho.rd(Num.eachF_lt(fun p q c=>Nat.mod_lt _(by decide))_ _ _ 0 0)(by rw [hel]; omega)okg.wf).mono ?_
   rintro _ h4⟨rfl,ok4⟩
   refine⟨_,rfl,?_⟩
   rw [hbv]
   refine(qY _ h4).mono ?_
   rintro _ _⟨rfl,rfl⟩
   exact yP(K:=fun v=>v=ki(Num.val a + Num.val b)/\Ok h _)(tp _)⟨rfl,(ok.trans okg).trans ok4⟩)
  (N + 1)(i:=0)⟨by omega,by omega,rfl,.inl⟨rfl,rfl⟩,Ok.refl w3⟩
end Go.Proofs.YtoabjjimjldcfaaGreatDoor
end
section
namespace Go.Ab
open Go
theorem LK(k i j:Nat):Addr.add⟨k,i,none⟩j =⟨k,i + j,none⟩:=by simp [Addr.add]
theorem Rh {P:Program}{t e:TypeId}{sz:Nat}(hU:P.underlying t=some(.slice e))(hs:au P e=some sz){k off n c:Nat}{ik:IntKind}{i:Int}(h0:0<=i)(h1:i < n):ag P t(.slice(some⟨k,off,none⟩)n c)(.int ik i)=some(.pointer(some⟨k,off + i.toNat * sz,none⟩)):=by
 unfold ag
 rw [hU]; dsimp af
 rw [hs]; dsimp af
 rw [if_pos⟨h0,h1⟩,LK]
theorem ey {P:Program}{t:TypeId}{d:TypeDesc}(hU:P.underlying t=some d)(ha:isAgg P t=false){h:Heap}{k i:Nat}{cs:List Value}{e:TypeId}{sz:Nat}{wr:Bool}(hg:h.get k=some(.cells cs e sz wr))(hi:i < cs.length):ai P t h(.pointer(some⟨k,i,none⟩))=some(cs.getD i undef):=by
 unfold ai
 rw [hU]; dsimp af
 rw [hg]; dsimp af
 rw [ha]
 simp af [Bool.false_eq_true,if_false]
 rw [List.getD_eq_getElem?_getD,List.getElem?_eq_getElem hi]; rfl
theorem C1 {P:Program}{t:TypeId}{d:TypeDesc}{sz:Nat}(hU:P.underlying t=some d)(ha:isAgg P t=true)(hs:au P t=some sz){h:Heap}{k i:Nat}{cs:List Value}{e:TypeId}{z:Nat}{wr:Bool}(hg:h.get k=some(.cells cs e z wr))(hi:i + sz<=cs.length):ai P t h(.pointer(some⟨k,i,none⟩))=some(.agg⟨(cs.drop i).take sz⟩):=by
 unfold ai
 rw [hU]; dsimp af
 rw [hg]; dsimp af
 rw [ha]
 simp af [if_true]
 rw [hs]; dsimp af
 rw [if_pos(by rw [List.length_take,List.length_drop]; omega)]
theorem yU {P:Program}{t:TypeId}(hs:au P t=some 1){h:Heap}{k i:Nat}{cs:List Value}{e:TypeId}{sz:Nat}(hg:h.get k=some(.cells cs e sz true))(hi:i < cs.length){v:Value}(hv:bN v=true)(hc:v.cells = #[v]):am P t(.pointer(some⟨k,i,none⟩))v h=some(undef,.set k(.cells(cs.set i v)e sz true)):=by
 unfold am
 dsimp af
 rw [hc,if_pos(show au P t=some(#[v] : Array Value).size from hs)]
 unfold storeAt
 rw [hg]; dsimp af
 rw [if_pos⟨by simp; omega,by simp [hv]⟩]
 have e0:cs.take i ++ [v] ++ cs.drop(i + 1)=cs.set i v:=by
  rw [List.set_eq_take_append_cons_drop,if_pos hi,List.append_assoc]; rfl
 show some(undef,Upd.set k(.cells(cs.take i ++ [v] ++ cs.drop(i + 1))e sz true))=_
 rw [e0]
structure IRow(hb:Heap)(kt:Nat)(e:TypeId)(vs:List Value)(g:Heap):Prop where
 row:g.get kt=some(.cells vs e 1 true)
 new:hb.next<=kt
 ok:Ok hb g
theorem IRow.lt {hb:Heap}{kt:Nat}{e:TypeId}{vs:List Value}{g:Heap}(m:IRow hb kt e vs g):kt < g.next:=m.ok.wf _ _ m.row
theorem IRow.rd {hb:Heap}{kt:Nat}{e:TypeId}{vs:List Value}{g:Heap}(m:IRow hb kt e vs g)(c:Nat):Rd g e(.slice(some⟨kt,0,none⟩)vs.length c)vs:= .inr⟨kt,0,vs,c,true,rfl,m.row,by simp⟩
theorem IRow.trans {hb:Heap}{kt:Nat}{e:TypeId}{vs:List Value}{g g' : Heap}(m:IRow hb kt e vs g)(o:Ok g g'):IRow hb kt e vs g' :=⟨o.ext _ _ m.row,m.new,m.ok.trans o⟩
theorem IRow.set {hb:Heap}(w:Wf hb){kt:Nat}{e:TypeId}{vs:List Value}{g:Heap}(m:IRow hb kt e vs g)(j:Nat)(v:Value):IRow hb kt e(vs.set j v)((Upd.set kt(.cells(vs.set j v)e 1 true)).app g):=by
 refine⟨?_,m.new,m.ok.set _ m.new m.lt w⟩
 show(g.set kt _).get kt=_
 rw [Heap.get_set,if_pos rfl]
theorem pM(z:Value)(n:Nat):bi [z] n=List.replicate n z:=by
 induction n with
 | zero=>rfl
 | succ n ih=>rw [bi,ih,List.replicate_succ]; rfl
theorem D6 {α:Type}(f:α->Value)(L:List α)(j:Nat)(d:α):(L.map f).set j(f d)=(L.set j d).map f:=by rw [List.map_set]
end Go.Ab
end
section
set_option linter.unusedVariables false
set_option maxRecDepth 100000
namespace Go.Proofs.YtoabjjimjldcfaaGreatDoor
open Go Go.Ab
noncomputable def ti3:TypeInfo:=(SS.P.info? 3).getD default
theorem Up:SS.P.info? 3=some ti3:=by kernel_rfl
theorem Py:ti3.size=1:=by kernel_rfl
theorem Lu:ti3.bytes=8:=by kernel_rfl
theorem Wo:cq SS.P 3=some(iv 0):=by kernel_rfl
theorem XY(n:Nat)(hn:n<=100000):aX SS.P 48(.int .i64(n:Int))(.int .i64(n:Int))=some(.cells((List.replicate n 0).map iv)3 1 true,mC n n):=by
 unfold aX aH
 dsimp af
 rw [mA]
 try dsimp af
 change(match SS.P.info? 3,cq SS.P 3 with
  | some i,some z=>(if z.cells.size=i.size/\0 < i.size/\(0:Int)<=(n:Int)/\(n:Int)<=(n:Int)/\(n:Int) * i.bytes<=140737488355328/\(n:Int)<=1099511627776 then some(Blk.cells(bi z.cells.toList(n:Int).toNat)3 i.size true,fun k=>Value.slice(some⟨k,0,none⟩)(n:Int).toNat(n:Int).toNat) else none)
  | _,_=>none)=_
 rw [Up,Wo]
 dsimp af
 rw [Py,Lu,if_pos⟨rfl,by omega,by omega,Int.le_refl _,by omega,by omega⟩]
 have e:((n:Int)).toNat=n:=by omega
 rw [e,show(iv 0).cells.toList=[iv 0] from rfl,pM,List.map_replicate]; rfl
theorem Xr {k off n c:Nat}{i:Int}(h0:0<=i)(h1:i < n):ag SS.P 48(.slice(some⟨k,off,none⟩)n c)(.int .i64 i)=some(.pointer(some⟨k,off + i.toNat * 1,none⟩)):=Rh mA Sm h0 h1
theorem Zc {h:Heap}{a:Option Addr}{n c:Nat}{l:List Nat}(r:Rd h 3(.slice a n c)(l.map iv)){i:Int}(h0:0<=i)(h1:i < l.length):∃ p:Addr,ag SS.P 48(.slice a n c)(.int .i64 i)=some(.pointer(some p))/\ai SS.P 3 h(.pointer(some p))=some(.int .i64(l.getD i.toNat 0:Nat)):=by
 obtain⟨p,h2,h3⟩:=r.at_ mA Sm Ld Ko(k:= .i64)(i:=i)h0(by rw [List.length_map]; omega)
 rw [pG l i.toNat(by omega)] at h3
 exact⟨p,h2,h3⟩
theorem sK(n:Int):cP 4(.int .i64 n)(.int .i64 n)=true:=by simp [cP]
structure RP(hb:Heap)(kt N:Nat)(L:List Nat)(g:Heap):Prop where
 len:L.length=N
 lt:∀ d∈L,d < 10
 row:IRow hb kt 3(L.map iv)g
theorem RP.get {hb:Heap}{kt N c:Nat}{L:List Nat}{g:Heap}(m:RP hb kt N L g){jn:Nat}(hl:jn < N):ag SS.P 48(.slice(some⟨kt,0,none⟩)N c)(.int .i64(jn:Int))=some(.pointer(some⟨kt,0 + (jn:Int).toNat * 1,none⟩))/\ai SS.P 3 g(.pointer(some⟨kt,0 + (jn:Int).toNat * 1,none⟩))=some(.int .i64(L.getD jn 0:Nat))/\
  ∀ d:Nat,d < 10->Wf hb->∃ u:Upd,am SS.P 3(.pointer(some⟨kt,0 + (jn:Int).toNat * 1,none⟩))(.int .i64(d:Int))g=some(undef,u)/\RP hb kt N(L.set jn d)(u.app g):=by
 have e:0 + (jn:Int).toNat * 1=jn:=by omega
 refine⟨Xr(by omega)(by omega),?_,?_⟩
 · rw [e,ey Ld Ko m.row.row(by rw [List.length_map,m.len]; exact hl),pG L jn(by rw [m.len]; exact hl)]
 · intro d hd w
  rw [e]
  refine⟨_,yU Sm m.row.row(by rw [List.length_map,m.len]; exact hl)rfl rfl,by rw [List.length_set]; exact m.len,fun e he=>?_,?_⟩
  · rcases List.mem_or_eq_of_mem_set he with h | h
   · exact m.lt e h
   · rw [h]; exact hd
  · have:=m.row.set w jn(.int .i64(d:Int))
   rw [show(Value.int .i64(d:Int))=iv d from rfl,D6 iv L jn d] at this
   rw [show(Value.int .i64(d:Int))=iv d from rfl,D6 iv L jn d]
   exact this
def TR(hb:Heap)(kt N n:Nat)(x y:List Nat)(mz i:Nat)(g:Heap):Prop:=i<=n/\mz=n - i/\∃ L,RP hb kt N L g/\Num.bv 10 L=Num.bv 10(x.take i) * Num.bv 10 y
def X1(hb:Heap)(kt N k:Nat)(x y:List Nat)(i mz j:Nat)(cy:Int)(g:Heap):Prop:=j<=k + 1/\mz=k + 1 - j/\∃ (L:List Nat)(cn:Nat),cy=(cn:Int)/\cn < 10/\RP hb kt N L g/\Num.bv 10 L + cn * 10 ^ (i + j)=Num.bv 10(x.take i) * Num.bv 10 y + x.getD i 0 * Num.bv 10(y.take j) * 10 ^ i
def Rj {hb:Heap}(w:Wf hb){a:Option Addr}{n c:Nat}{b:Option Addr}{k d:Nat}{kt N tc:Nat}{x y:List Nat}(ra:Rd hb 3(.slice a n c)(x.map iv))(rb:Rd hb 3(.slice b k d)(y.map iv))(hx:∀ d∈x,d < 10)(hy:∀ d∈y,d < 10){i:Nat}(hi:i < n)(hn:n=x.length)(hk:k=y.length)(hN:N=n + k + 1)(hN2:N<=10000)(l m:List UInt8)(Q:VH)(mz:Nat)(hmz:mz=n - i):=
 uz l m a n c b k d(some⟨kt,0,none⟩)N tc(TR hb kt N n x y)mz i(X1 hb kt N k x y i)Q(by
  intro mz2 j cy; intros; rename_i g hin
  obtain⟨h1,h2,L,cn,rfl,h3,mr,h4⟩:=hin
  have e1:IntKind.wrap .i64((i:Int) + (j:Int))=((i + j:Nat):Int):=by rw [ap(by omega)(by omega)]; omega
  have e2:IntKind.wrap .i64((j:Int) + 1)=((j + 1:Nat):Int):=by rw [ap(by omega)(by omega)]; omega
  have e3:IntKind.wrap .i64((i:Int) + 1)=((i + 1:Nat):Int):=by rw [ap(by omega)(by omega)]; omega
  unfold pi
  rw [e1,e2,e3]
  refine ae(fun h5=>?_)(fun h5=>?_)
  · have h5:=of_decide_eq_true h5
   have mr1:RP hb kt N L(Go.Ab.room g 18) :=⟨mr.len,mr.lt,⟨mr.row.row,mr.row.new,mr.row.ok.room 18⟩⟩
   obtain⟨g1,g2,g3⟩:=mr1.get(c:=tc)(jn:=i + j)(by omega)
   obtain⟨p2,f1,f2⟩:=Zc(ra.ok mr1.row.ok)(i:=(i:Int))(by omega)(by omega)
   rw [Int.toNat_natCast] at f2
   refine⟨_,g1,_,g2,p2,f1,_,f2,(pD(rb.ok mr1.row.ok)j).mono ?_⟩
   rintro _ _⟨rfl,rfl⟩
   refine⟨_,rfl,⟨g2,sK _⟩,⟨f2,sK _⟩,?_⟩
   have hxi:=Num.getD_lt(b:=10)(by decide)hx i
   have hyj:=Num.getD_lt(b:=10)(by decide)hy j
   have hLj:=Num.getD_lt(b:=10)(by decide)mr.lt(i + j)
   obtain⟨q,hq⟩: ∃ q,q=x.getD i 0 * y.getD j 0 :=⟨_,rfl⟩
   have hq2:q<=81:=by rw [hq]; exact Nat.le_trans(Nat.mul_le_mul(Nat.le_of_lt_succ hxi)(Nat.le_of_lt_succ hyj))(by decide)
   have ms:=Num.mul_step(B:=10)(by decide)(L:=L)(y:=y)(i:=i)(k:=j)(cy:=cn)(xi:=x.getD i 0)(P:=Num.bv 10(x.take i) * Num.bv 10 y)(p:=L.getD(i + j)0 + cn + q)mr.lt(by rw [mr.len]; omega)h3 hxi hyj(by rw [hq])h4
   have e4:IntKind.wrap .i64(((x.getD i 0:Nat):Int) * ((y.getD j 0:Nat):Int))=(q:Int):=by rw [<- Int.natCast_mul,<- hq]; exact ap(by omega)(by omega)
   rw [e4]
   have e5:IntKind.wrap .i64(((L.getD(i + j)0:Nat):Int) + (q:Int))=((L.getD(i + j)0 + q:Nat):Int):=by rw [ap(by omega)(by omega)]; omega
   rw [e5]
   have e6:IntKind.wrap .i64(((L.getD(i + j)0 + q:Nat):Int) + (cn:Int))=((L.getD(i + j)0 + cn + q:Nat):Int):=by rw [ap(by omega)(by omega)]; omega
   rw [e6]
   generalize L.getD(i + j)0 + cn + q=pp at *
   obtain⟨u,g6,g7⟩:=g3(pp % 10)(Nat.mod_lt _(by decide))w
   refine⟨_,Qk,_,g1,u,g6,_,QR(by omega),tA(mz2 - 1)(by omega)⟨by omega,by omega,_,_,rfl,ms.2.1,g7,ms.2.2⟩⟩
  · have h5:=of_decide_eq_false h5
   obtain rfl:j=k + 1:=by omega
   refine ve(n - (i + 1))(by omega)⟨by omega,rfl,L,mr,?_⟩
   exact Num.mul_end(by decide)hx hy(by omega)mr.lt(by rw [<- hk]; exact h4))
theorem MG(a b:List UInt8){h:Heap}(w:Wf h):FW SS 132 [aa a,aa b] h(fun v h'=>v=xD a b/\Ok h h'):=by
 refine L7 a b h _((bB a h).mono ?_)
 rintro _ g0⟨rfl,e0⟩
 obtain rfl:h=g0:=e0.symm
 refine⟨_,rfl,ae(fun g=>?_)(fun g=>?_)⟩
 · have g:Num.valid a=false:=by simpa using g
  refine⟨?_,Ok.refl w⟩
  unfold xD; rw [if_neg(fun e=>by rw [e.1] at g; cases g)]; rfl
 have g:Num.valid a=true:=by simpa using g
 refine(bB b h).mono ?_
 rintro _ g0⟨rfl,e0⟩
 obtain rfl:h=g0:=e0.symm
 refine⟨_,rfl,ae(fun g2=>?_)(fun g2=>?_)⟩
 · have g2:Num.valid b=false:=by simpa using g2
  refine⟨?_,Ok.refl w⟩
  unfold xD; rw [if_neg(fun e=>by rw [e.2] at g2; cases g2)]; rfl
 have g2:Num.valid b=true:=by simpa using g2
 have hS:xD a b=ki(Num.val a * Num.val b):=by unfold xD; rw [if_pos⟨g,g2⟩]
 rw [hS]
 refine(lJ g w).mono ?_
 rintro _ h2⟨a2,n2,c2,rfl,o2,ok2⟩
 refine⟨_,_,_,rfl,(lJ g2 ok2.wf).mono ?_⟩
 rintro _ h3⟨a3,n3,c3,rfl,o3,ok3⟩
 refine⟨_,_,_,rfl,?_⟩
 have r1:=o2.rd.ok ok3
 have r2:=o3.rd
 have ok:=ok2.trans ok3
 have w3:=ok3.wf
 have hn1:n2=(Num.digs a).length:=by have:=r1.len; rwa [List.length_map] at this
 have hn2:n3=(Num.digs b).length:=by have:=r2.len; rwa [List.length_map] at this
 have l1:=iT g
 have l2:=iT g2
 have hx:=eH g
 have hy:=eH g2
 have bX:=Num.bv_digs a
 have bY:=Num.bv_digs b
 generalize Num.digs a=x at *
 generalize Num.digs b=y at *
 generalize Num.val a=X at *
 generalize Num.val b=Y at *
 have e1:IntKind.wrap .i64(IntKind.wrap .i64((n2:Int) + (n3:Int)) + 1)=((n2 + n3 + 1:Nat):Int):=by
  rw [ap(n:=(n2:Int) + (n3:Int))(by omega)(by omega),ap(by omega)(by omega)]; omega
 dsimp af
 rw [e1]
 refine⟨_,_,_,XY _(by omega),?_⟩
 have m0:RP h3 h3.next(n2 + n3 + 1)(List.replicate(n2 + n3 + 1)0)(h3.push(.cells((List.replicate(n2 + n3 + 1)0).map iv)3 1 true)):=by
  refine⟨List.length_replicate,fun d hd=>by rw [(List.mem_replicate.1 hd).2]; decide,?_,Nat.le_refl _,(Ok.refl w3).push _⟩
  rw [Heap.get_push,if_pos rfl]
 refine tz a b a2 n2 c2 a3 n3 c3(some⟨h3.next,0,none⟩)(n2 + n3 + 1)(n2 + n3 + 1)(TR h3 h3.next(n2 + n3 + 1)n2 x y)(fun v h'=>v=ki(X * Y)/\Ok h h')(fun mz i=>?_)n2(i:=0)⟨by omega,by omega,_,m0,by rw [Num.bv_replicate,List.take_zero]; simp [Num.bv]⟩
 intros; rename_i gg hi
 obtain⟨f1,f2,L,mr,f3⟩:=hi
 refine ae(fun h5=>?_)(fun h5=>?_)
 · have h5:=of_decide_eq_true h5
  exact Rj w3 r1 r2 hx hy(i:=i)(by omega)hn1 hn2 rfl(by omega)a b _ mz f2(n3 + 1)(j:=0)(cy:=0)⟨by omega,by omega,L,0,rfl,by decide,mr,by rw [f3,List.take_zero]; simp [Num.bv]⟩
 · have h5:=of_decide_eq_false h5
  obtain rfl:n2=i:=by omega
  rw [List.take_of_length_le(by omega),bX,bY] at f3
  have hr:=mr.row.rd(n2 + n3 + 1)
  rw [List.length_map,mr.len] at hr
  refine(nv hr mr.lt(by rw [mr.len]; omega)mr.row.ok.wf).mono ?_
  rintro _ h6⟨rfl,ok6⟩
  refine⟨_,rfl,?_⟩
  rw [f3]
  refine(qY _ h6).mono ?_
  rintro _ _⟨rfl,rfl⟩
  exact yP(K:=fun v=>v=ki(X * Y)/\Ok h _)(tp _)⟨rfl,(ok.trans mr.row.ok).trans ok6⟩
end Go.Proofs.YtoabjjimjldcfaaGreatDoor
end
section
set_option linter.unusedVariables false
set_option maxRecDepth 100000
namespace Go.Proofs.YtoabjjimjldcfaaGreatDoor
open Go Go.Ab
theorem sJ(l:List UInt8)(h:Heap):FW SS 127 [aa l] h(fun v h'=>v = .bool(decide(l.length<=400) && Num.valid l)/\h' = h):=by
  refine FV l h _(ae(fun g=>?_)(fun g=>?_))
  · have g:=of_decide_eq_true g
    refine(bB l h).mono ?_
    rintro _ g0⟨rfl,e0⟩
    refine⟨_,rfl,?_,e0⟩
    rw [decide_eq_true(show l.length<=400 by omega),Bool.true_and]
  · have g:=of_decide_eq_false g
    refine⟨?_,rfl⟩
    rw [decide_eq_false(show ¬ l.length<=400 by omega),Bool.false_and]
def R3(n d:List UInt8)(neg stroke:Bool):Prop:=(Num.valid n=true/\n.length<=400)/\(Num.valid d=true/\d.length<=400)/\d≠[48]/\¬ (n=[48]/\(neg=true\/stroke=true))/\¬ (d=[49]/\stroke=true)/\(Nat.gcd(Num.val n)(Num.val d)=1\/d=[49])
def mG:Value:= .tuple⟨[.bool false,aa [],aa [],.bool false]⟩
def gK(neg:Bool)(n d:List UInt8):Value:= .tuple⟨[.bool neg,aa n,aa d,.bool true]⟩
def jS(h:Heap)(C:Prop)(G B:Value):VH:=fun v h'=>Ok h h'/\(C->v=G)/\(¬ C->v=B)
theorem ei {h h' : Heap}{C:Prop}{G B:Value}(o:Ok h h')(hc : ¬ C):jS h C G B B h' :=⟨o,fun c=>absurd c hc,fun _=>rfl⟩
theorem sf {h h' : Heap}{C:Prop}{G B:Value}(o:Ok h h')(hc:C):jS h C G B G h' :=⟨o,fun _=>rfl,fun c=>absurd hc c⟩
theorem DF {n:List UInt8}(g:(decide(n.length<=400) && Num.valid n)=true):Num.valid n=true/\n.length<=400:=by
  rw [Bool.and_eq_true,decide_eq_true_eq] at g; exact⟨g.2,g.1⟩
theorem Gx {n d:List UInt8}(hn:Num.valid n=true)(hd:Num.valid d=true):x8 n d=BI(Num.toDec(Nat.gcd(Num.val n)(Num.val d)))0:=by unfold x8; rw [if_pos⟨hn,hd⟩]
theorem mi(n d:List UInt8)(neg:Bool)(st:Int)(stroke:Bool)(hst:stroke=decide(st>=0)){h:Heap}(w:Wf h){x0 x1 x2 x3 x4 x5 x10 x11 x12 x13 x14 x15 x16 x17 x18 x19 x20 x21 x22 x23 x24 x25 x26 x27 x28 x29 x30 x31 x32 x33 x34 x35 x36 x37 x38 x39 x40 x41 x42 x43 x44 x45 x46 x47 x48 x49 x50 x51 x52 x53 x54 x55 x56 x57 x58 x59 x60 x61 x62 x63 x64 x65 x66 x67 x68 x69 x70 x71 x72 x73 x74 x75 x76 x77 x78 x79 x80:Value} :
    wpS SS Tryz.f104.ntmps a0(aQ [1,1,1,1,1,1] aP) [x0,x1,x2,x3,x4,x5,aa n,aa d,.bool neg,.int .i64 st,x10,x11,x12,x13,x14,x15,x16,x17,x18,x19,x20,x21,x22,x23,x24,x25,x26,x27,x28,x29,x30,x31,x32,x33,x34,x35,x36,x37,x38,x39,x40,x41,x42,x43,x44,x45,x46,x47,x48,x49,x50,x51,x52,x53,x54,x55,x56,x57,x58,x59,x60,x61,x62,x63,x64,x65,x66,x67,x68,x69,x70,x71,x72,x73,x74,x75,x76,x77,x78,x79,x80] h(be(jS h(R3 n d neg stroke)(gK neg n d)mG)):=by
  refine xH((sJ n h).mono ?_)
  rintro _ g0⟨rfl,e0⟩
  obtain rfl:h=g0:=e0.symm
  refine⟨_,rfl,ae(fun g=>ei(Ok.refl w)fun c=>?_)(fun g=>?_)⟩
  · obtain⟨⟨c1,c2⟩,_⟩:=c
    rw [c1,decide_eq_true c2] at g; cases g
  have hn:=DF(n:=n)(by simpa using g)
  refine(sJ d h).mono ?_
  rintro _ g0⟨rfl,e0⟩
  obtain rfl:h=g0:=e0.symm
  refine⟨_,rfl,ae(fun g=>ei(Ok.refl w)fun c=>?_)(fun g=>?_)⟩
  · obtain⟨_,⟨c1,c2⟩,_⟩:=c
    rw [c1,decide_eq_true c2] at g; cases g
  have hd:=DF(n:=d)(by simpa using g)
  have fin:d≠[48]->¬ (n=[48]/\(neg=true\/stroke=true))->¬ (d=[49]/\stroke=true)->∀ {x0 x1 x2 x3 x4 x5 x10 x11 x12 x13 x14 x15 x16 x17 x18 x19 x20 x21 x22 x23 x24 x25 x26 x27 x28 x29 x30 x31 x32 x33 x34 x35 x36 x37 x38 x39 x40 x41 x42 x43 x44 x45 x46 x47 x48 x49 x50 x51 x52 x53 x54 x55 x56 x57 x58 x59 x60 x61 x62 x63 x64 x65 x66 x67 x68 x69 x70 x71 x72 x73 x74 x75 x76 x77 x78 x79 x80:Value},
      wpS SS Tryz.f104.ntmps a0(aQ [1,1,1,1,1,1,1] aP) [x0,x1,x2,x3,x4,x5,aa n,aa d,.bool neg,.int .i64 st,x10,x11,x12,x13,x14,x15,x16,x17,x18,x19,x20,x21,x22,x23,x24,x25,x26,x27,x28,x29,x30,x31,x32,x33,x34,x35,x36,x37,x38,x39,x40,x41,x42,x43,x44,x45,x46,x47,x48,x49,x50,x51,x52,x53,x54,x55,x56,x57,x58,x59,x60,x61,x62,x63,x64,x65,x66,x67,x68,x69,x70,x71,x72,x73,x74,x75,x76,x77,x78,x79,x80] h(be(jS h(R3 n d neg stroke)(gK neg n d)mG)):=by
    intro c3 c4 c5
    intros
    refine yg((L0 n d h w).mono ?_)
    rintro _ h1⟨rfl,o1⟩
    rw [Gx hn.1 hd.1]
    refine⟨_,_,rfl,?_⟩
    have e1:Num.toDec(Nat.gcd(Num.val n)(Num.val d))=[49]↔Nat.gcd(Num.val n)(Num.val d)=1:=Num.toDec_eq_one
    refine ae(fun g1=>ae(fun g2=>ei o1 fun c=>?_)(fun g2=>sf o1 ?_))(fun g1=>sf o1 ?_)
    · have g1 : ¬ Num.toDec(Nat.gcd(Num.val n)(Num.val d))=[49]:=by simpa using g1
      have g2 : ¬ d=[49]:=by simpa using g2
      rcases c.2.2.2.2.2 with c | c
      · exact g1(e1.2 c)
      · exact g2 c
    · have g2:d=[49]:=by simpa using g2
      exact⟨hn,hd,c3,c4,c5,.inr g2⟩
    · have g1:Num.toDec(Nat.gcd(Num.val n)(Num.val d))=[49]:=by simpa using g1
      exact⟨hn,hd,c3,c4,c5,.inl(e1.1 g1)⟩
  refine ae(fun g1=>ei(Ok.refl w)fun c=>?_)(fun g1=>?_)
  · exact c.2.2.1(by simpa using g1)
  have g1:d≠[48]:=by simpa using g1
  have k49:∀ {x:Bool},(x=true->st>=0)->True:=fun _=>trivial
  have nst:decide(st>=0)=false->¬ stroke=true:=fun e f=>by rw [hst] at f; rw [f] at e; cases e
  have yst:decide(st>=0)=true->stroke=true:=fun e=>by rw [hst,e]
  refine ae(fun g2=>?_)(fun g2=>?_)
  · have g2:n=[48]:=by simpa using g2
    refine ae(fun g3=>ei(Ok.refl w)fun c=>c.2.2.2.1⟨g2,.inl g3⟩)(fun g3=>?_)
    have g3 : ¬ neg=true:=by rw [g3]; simp
    refine ae(fun g4=>ei(Ok.refl w)fun c=>c.2.2.2.1⟨g2,.inr(yst g4)⟩)(fun g4=>?_)
    have f4 : ¬ (n=[48]/\(neg=true\/stroke=true)):=fun c=>c.2.elim g3(nst g4)
    refine ae(fun g5=>?_)(fun g5=>?_)
    · refine ae(fun g6=>ei(Ok.refl w)fun c=>c.2.2.2.2.1⟨by simpa using g5,yst g6⟩)(fun g6=>?_)
      exact fin g1 f4(fun c=>nst g6 c.2)
    · exact fin g1 f4(fun c=>by have : ¬ d=[49]:=by simpa using g5
                                   exact this c.1)
  · have f4 : ¬ (n=[48]/\(neg=true\/stroke=true)):=fun c=>by
      have : ¬ n=[48]:=by simpa using g2
      exact this c.1
    refine ae(fun g5=>?_)(fun g5=>?_)
    · refine ae(fun g6=>ei(Ok.refl w)fun c=>c.2.2.2.2.1⟨by simpa using g5,yst g6⟩)(fun g6=>?_)
      exact fin g1 f4(fun c=>nst g6 c.2)
    · exact fin g1 f4(fun c=>by have : ¬ d=[49]:=by simpa using g5
                                   exact this c.1)
def fy(l:List UInt8):Value:=if Num.isRat l=true then gK(Num.isNeg l)(Num.numOf l)(Num.denOf l) else mG
theorem Fl {h:Heap}{l:List UInt8}{v:Value}{h' : Heap}(q:jS h(R3(Num.numOf l)(Num.denOf l)(Num.isNeg l)(Num.hasStroke l))(gK(Num.isNeg l)(Num.numOf l)(Num.denOf l))mG v h'):v=fy l/\Ok h h':=by
  obtain⟨o,q1,q2⟩:=q
  refine⟨?_,o⟩
  unfold fy
  by_cases g:Num.isRat l=true
  · rw [if_pos g]; exact q1(Num.isRat_ref.1(Num.isRat_iff.1 g))
  · rw [if_neg g]; exact q2 fun c=>g(Num.isRat_iff.2(Num.isRat_ref.2 c))
theorem iO(l:List UInt8)(hl:l.length<=1000000000){h:Heap}(w:Wf h):FW SS 104 [aa l] h(fun v h'=>v=fy l/\Ok h h'):=by
  refine FW.mono(Q:=jS h(R3(Num.numOf l)(Num.denOf l)(Num.isNeg l)(Num.hasStroke l))(gK(Num.isNeg l)(Num.numOf l)(Num.denOf l))mG) ?_(fun _ _ q=>Fl q)
  have hs:∀ m:List UInt8,m.length<=1000000000->∀ (K:VH),(∀ (n5:Int),n5=CA m->(if n5>=0 then ∃ i:Nat,n5=(i:Int)/\IntKind.wrap .i64(n5 + 1)=((i + 1:Nat):Int)/\i=Num.idxB 47 m/\i < m.length else ¬ Num.idxB 47 m < m.length)->K(.int .i64 n5)h)->FW SS 126 [aa m,.int .u8 47] h K:=by
    intro m hm K hK
    refine(FS m hm h).mono ?_
    rintro _ g0⟨rfl,e0⟩
    obtain rfl:h=g0:=e0.symm
    refine hK _ rfl ?_
    unfold CA
    by_cases g:Num.idxB 47 m < m.length
    · rw [if_pos g,if_pos(by omega)]
      exact⟨_,rfl,by rw [ap(by omega)(by omega)]; omega,rfl,g⟩
    · rw [if_neg g,if_neg(by omega)]; exact g
  have body:∀ (m:List UInt8),m=Num.afterNeg l->m.length<=1000000000->∀ (n5:Int),(if n5>=0 then ∃ i:Nat,n5=(i:Int)/\IntKind.wrap .i64(n5 + 1)=((i + 1:Nat):Int)/\i=Num.idxB 47 m/\i < m.length else ¬ Num.idxB 47 m < m.length)->
      (decide(n5>=0)=true->Num.hasStroke l=true/\aM SS.P 9(aa m)(some(.int .i64(IntKind.wrap .i64(n5 + 1))))none none h=some(aa(Num.denOf l))/\aM SS.P 9(aa m)none(some(.int .i64 n5))none h=some(aa(Num.numOf l)))/\
      (decide(n5>=0)=false->Num.hasStroke l=false/\m=Num.numOf l/\Num.denOf l=[49]):=by
    intro m em hm n5 hi
    refine⟨fun g=>?_,fun g=>?_⟩
    · rw [if_pos(of_decide_eq_true g)] at hi
      obtain⟨i,rfl,e1,rfl,h2⟩:=hi
      have hst:Num.hasStroke l=true:=by unfold Num.hasStroke; rw [<- em]; exact decide_eq_true h2
      refine⟨hst,?_,?_⟩
      · rw [e1,qb m h h2]; unfold Num.denOf; rw [if_pos hst,em]
      · rw [Ef m h(Nat.le_of_lt h2)]; unfold Num.numOf; rw [em]
    · rw [if_neg(of_decide_eq_false g)] at hi
      have hst:Num.hasStroke l=false:=by unfold Num.hasStroke; rw [<- em]; exact decide_eq_false hi
      refine⟨hst,?_,?_⟩
      · unfold Num.numOf; rw [<- em,List.take_of_length_le(by omega)]
      · unfold Num.denOf; rw [hst]; rfl
  have cont:∀ (m:List UInt8),m=Num.afterNeg l->m.length<=1000000000:=fun m em=>by
    rw [em]; unfold Num.afterNeg; split
    · rw [List.length_drop]; omega
    · exact hl
  refine EP l h _(ae(fun g=>?_)(fun g=>?_))
  · have g:=of_decide_eq_true g
    cases l with
    | nil=>simp at g
    | cons c l' =>
      have e:aR SS.P 9(aa(c :: l'))(.int .i64 0)=some(.int .u8((c.toNat:Nat):Int)):=by
        have:=i4 NW(c :: l') .i64(i:=0)(by omega)g
        simpa using this
      refine⟨_,e,ae(fun g2=>?_)(fun g2=>?_)⟩
      · have g2:c=45:=by
          have:((c.toNat:Nat):Int)=45:=by simpa using g2
          rw [<- UInt8.toNat_inj]; show c.toNat=45; omega
        have hneg:Num.isNeg(c :: l')=true:=by unfold Num.isNeg; rw [g2]; rfl
        have em:l' = Num.afterNeg(c :: l'):=by unfold Num.afterNeg; rw [if_pos hneg]; rfl
        have hs1:aM SS.P 9(aa(c :: l'))(some(.int .i64 1))none none h=some(aa l'):=qb(c :: l')h(a:=1)(by simp)
        refine⟨_,hs1,hs l' (cont _ em)_(fun n5 h5 hi =>⟨n5,rfl,?_⟩)⟩
        obtain⟨b1,b2⟩:=body l' em(cont _ em)n5 hi
        have e2:(((c.toNat:Nat):Int) == 45)=true:=g2▸rfl
        rw [hneg,e2]
        refine ae(fun g=>?_)(fun g=>?_)
        · obtain⟨s1,s2,s3⟩:=b1 g
          exact⟨_,s2,_,s3,mi _ _ true n5 _(by rw [s1,g])w⟩
        · obtain⟨s1,s2,s3⟩:=b2 g
          rw [s3,<- s2]
          exact mi _ _ true n5 _(by rw [s1,g])w
      · have g2 : ¬ c=45:=fun e=>by rw [e] at g2; cases g2
        have hneg:Num.isNeg(c :: l')=false:=by
          unfold Num.isNeg
          simp [g2]
        have em:c :: l' = Num.afterNeg(c :: l'):=by unfold Num.afterNeg; rw [hneg]; rfl
        have e2:(((c.toNat:Nat):Int) == 45)=false:=by
          have:((c.toNat:Nat):Int)≠45:=fun e=>g2(by rw [<- UInt8.toNat_inj]; show c.toNat=45; omega)
          simpa using this
        refine hs(c :: l')hl _(fun n5 h5 hi =>⟨n5,rfl,?_⟩)
        obtain⟨b1,b2⟩:=body _ em hl n5 hi
        rw [hneg,e2]
        refine ae(fun g=>?_)(fun g=>?_)
        · obtain⟨s1,s2,s3⟩:=b1 g
          exact⟨_,s2,_,s3,mi _ _ false n5 _(by rw [s1,g])w⟩
        · obtain⟨s1,s2,s3⟩:=b2 g
          rw [s3,<- s2]
          exact mi _ _ false n5 _(by rw [s1,g])w
  · have g:=of_decide_eq_false g
    obtain rfl:l=[]:=List.eq_nil_of_length_eq_zero(by omega)
    have em : []=Num.afterNeg []:=rfl
    refine hs [] (by simp)_(fun n5 h5 hi =>⟨n5,rfl,?_⟩)
    obtain⟨b1,b2⟩:=body _ em(by simp)n5 hi
    refine ae(fun g=>?_)(fun g=>?_)
    · obtain⟨s1,s2,s3⟩:=b1 g
      exact⟨_,s2,_,s3,mi _ _ false n5 _(by rw [s1,g])w⟩
    · obtain⟨s1,s2,s3⟩:=b2 g
      rw [s3,<- s2]
      exact mi _ _ false n5 _(by rw [s1,g])w
theorem DX {l:List UInt8}{K:Value->Prop}(hK:K(fy l)):∃ (b3:Bool)(l4 l5:List UInt8)(b6:Bool),fy l=(.tuple⟨[.bool b3,aa l4,aa l5,.bool b6]⟩)/\K(.tuple⟨[.bool b3,aa l4,aa l5,.bool b6]⟩)/\b6=Num.isRat l:=by
  unfold fy at *
  cases g:Num.isRat l with
  | true=>rw [g] at hK; exact⟨_,_,_,_,rfl,hK,rfl⟩
  | false=>rw [g] at hK; exact⟨_,_,_,_,rfl,hK,rfl⟩
theorem Fo(l:List UInt8)(hl:l.length<=1000000000){h:Heap}(w:Wf h):FW SS 76 [aa l] h(fun v h'=>v = .bool(Num.isRat l)/\Ok h h'):=by
  refine Fj l h _((iO l hl w).mono ?_)
  rintro _ h1⟨rfl,o1⟩
  obtain⟨b3,l4,l5,b6,e,_,e6⟩:=DX(l:=l)(K:=fun _=>True)trivial
  exact⟨b3,l4,l5,b6,e,by rw [e6],o1⟩
theorem iX {X:Nat}(h:X < 10 ^ 800):Num.valid(Num.toDec X)=true:=Num.valid_toDec.2(Nat.lt_of_lt_of_le h(Nat.pow_le_pow_right(by decide)(by decide)))
theorem KE {X:Nat}(h:X < 10 ^ 1000):ki X=BI(Num.toDec X)0:=by
  unfold ki
  rw [if_neg]
  have:=(Num.toDec_len_le(n:=X)(k:=1000)(by decide)).2 h
  omega
theorem GS {A B:Nat}(hA:A < 10 ^ 800)(hB:B < 10 ^ 800):yr(Num.toDec A)(Num.toDec B)=BI(Num.toDec(A + B))0:=by
  unfold yr
  rw [if_pos⟨iX hA,iX hB⟩,Num.val_toDec,Num.val_toDec]
  exact KE(Nat.lt_of_lt_of_le(Nat.add_lt_add hA hB)Num.pow_800)
theorem uK {A B:Nat}(hA:A < 10 ^ 800)(hB:B < 10 ^ 800)(h:B<=A):x7(Num.toDec A)(Num.toDec B)=BI(Num.toDec(A - B))0:=by
  unfold x7
  rw [if_pos⟨iX hA,iX hB⟩,Num.val_toDec,Num.val_toDec,if_neg(Nat.not_lt.2 h)]
theorem H4 {A B:Nat}(hA:A < 10 ^ 800)(hB:B < 10 ^ 800):yb(Num.toDec A)(Num.toDec B) = .int .i64(Num.cmpN A B):=by
  unfold yb
  rw [if_pos⟨iX hA,iX hB⟩,Num.val_toDec,Num.val_toDec]
theorem jV {a b:List UInt8}(ha:Num.valid a=true)(hb:Num.valid b=true)(la:a.length<=400)(lb:b.length<=400):xD a b=BI(Num.toDec(Num.val a * Num.val b))0/\Num.val a * Num.val b < 10 ^ 800:=by
  have h:=Num.pow_400_800(Num.valid_lt ha(by decide)la)(Num.valid_lt hb(by decide)lb)
  refine⟨?_,h⟩
  unfold xD
  rw [if_pos⟨ha,hb⟩]
  exact KE(Nat.lt_of_lt_of_le h(Nat.pow_le_pow_right(by decide)(by decide)))
def wL(s:Bool)(A:Nat)(t:Bool)(B:Nat):Value:= .tuple⟨[.bool(Num.plusS s A t B).1,aa(Num.toDec(Num.plusS s A t B).2)]⟩
theorem cmpN_lt0 {A B:Nat} : Num.cmpN A B < 0↔A < B:=Num.cmpN_neg
theorem JI(s:Bool)(A:Nat)(t:Bool)(B:Nat)(hA:A < 10 ^ 800)(hB:B < 10 ^ 800){h:Heap}(w:Wf h):FW SS 105 [.bool s,aa(Num.toDec A),.bool t,aa(Num.toDec B)] h(fun v h'=>v=wL s A t B/\Ok h h'):=by
  refine Ka s _ t _ h _(ae(fun g=>?_)(fun g=>?_))
  · have g:s=t:=by simpa using g
    refine(NT _ _ w).mono ?_
    rintro _ h1⟨rfl,o1⟩
    rw [GS hA hB]
    refine⟨_,_,rfl,?_,o1⟩
    unfold wL Num.plusS; rw [if_pos g]
  · have g : ¬ s=t:=by simpa using g
    refine(Ly _ _ w).mono ?_
    rintro _ h1⟨rfl,o1⟩
    rw [H4 hA hB]
    refine⟨_,rfl,ae(fun g1=>?_)(fun g1=>?_)⟩
    · have g1:=of_decide_eq_true g1
      have g2 : ¬ A < B:=fun c=>by have:=cmpN_lt0.2 c; omega
      refine(CW _ _ o1.wf).mono ?_
      rintro _ h2⟨rfl,o2⟩
      rw [uK hA hB(Nat.not_lt.1 g2)]
      refine⟨_,_,rfl,?_,o1.trans o2⟩
      unfold wL Num.plusS; rw [if_neg g,if_neg g2]
    · have g1:=of_decide_eq_false g1
      have g2:A < B:=cmpN_lt0.1(by omega)
      refine(CW _ _ o1.wf).mono ?_
      rintro _ h2⟨rfl,o2⟩
      rw [uK hB hA(Nat.le_of_lt g2)]
      refine⟨_,_,rfl,?_,o1.trans o2⟩
      unfold wL Num.plusS; rw [if_neg g,if_pos g2]
theorem vc {a b:List UInt8}(ha:Num.valid a=true)(hb:Num.valid b=true)(la:a.length<=400)(lb:b.length<=400){h:Heap}(w:Wf h):FW SS 106 [aa a,aa b] h(fun v h'=>v=aa(Num.toDec(Num.val a * Num.val b))/\Ok h h'):=by
  refine E4 a b h _((MG a b w).mono ?_)
  rintro _ h1⟨rfl,o1⟩
  rw [(jV ha hb la lb).1]
  exact⟨_,_,rfl,rfl,o1⟩
theorem II(l m:List UInt8)(hl:l.length<=1000000000)(hm:m.length<=1000000000){h:Heap}(w:Wf h):FW SS 77 [aa l,aa m] h(fun v h'=>v = .int .i64(Num.cmpRat l m)/\Ok h h'):=by
  refine Ke l m h _((iO l hl w).mono ?_)
  rintro _ h1⟨rfl,o1⟩
  cases g:Num.isRat l with
  | false =>
    have e:fy l=mG:=by unfold fy; rw [g]; rfl
    refine⟨_,_,_,_,e,(iO m hm o1.wf).mono ?_⟩
    rintro _ h2⟨rfl,o2⟩
    obtain⟨b3,l4,l5,b6,e2,_,e6⟩:=DX(l:=m)(K:=fun _=>True)trivial
    refine⟨b3,l4,l5,b6,e2,?_,o1.trans o2⟩
    unfold Num.cmpRat; rw [if_neg(fun c=>by rw [c.1] at g; cases g)]
  | true =>
    have e:fy l=gK(Num.isNeg l)(Num.numOf l)(Num.denOf l):=by unfold fy; rw [g]; rfl
    refine⟨_,_,_,_,e,(iO m hm o1.wf).mono ?_⟩
    rintro _ h2⟨rfl,o2⟩
    cases g2:Num.isRat m with
    | false =>
      have e2:fy m=mG:=by unfold fy; rw [g2]; rfl
      refine⟨_,_,_,_,e2,?_,o1.trans o2⟩
      unfold Num.cmpRat; rw [if_neg(fun c=>by rw [c.2] at g2; cases g2)]
    | true =>
      have e2:fy m=gK(Num.isNeg m)(Num.numOf m)(Num.denOf m):=by unfold fy; rw [g2]; rfl
      have r1:=Num.isRat_iff.1 g
      have r2:=Num.isRat_iff.1 g2
      refine⟨_,_,_,_,e2,(vc r1.num r2.den r1.ln r2.ld o2.wf).mono ?_⟩
      rintro _ h3⟨rfl,o3⟩
      refine⟨_,rfl,(vc r2.num r1.den r2.ln r1.ld o3.wf).mono ?_⟩
      rintro _ h4⟨rfl,o4⟩
      refine⟨_,rfl,(JI _ _ _ _(jV r1.num r2.den r1.ln r2.ld).2(jV r2.num r1.den r2.ln r1.ld).2 o4.wf).mono ?_⟩
      rintro _ h5⟨rfl,o5⟩
      have ok:=(((o1.trans o2).trans o3).trans o4).trans o5
      refine⟨_,_,rfl,?_⟩
      unfold Num.cmpRat
      rw [if_pos⟨g,g2⟩]
      generalize Num.plusS _ _ _ _=z
      refine ae(fun g3 =>⟨?_,ok⟩)(fun g3=>?_)
      · have g3:Num.toDec z.2=[48]:=by simpa using g3
        rw [if_pos(Num.toDec_eq_zero.1 g3)]
      · have g3 : ¬ Num.toDec z.2=[48]:=by simpa using g3
        rw [if_neg(fun c=>g3(Num.toDec_eq_zero.2 c))]
        refine ae(fun g4 =>⟨?_,ok⟩)(fun g4 =>⟨?_,ok⟩)
        · rw [if_pos g4]
        · rw [if_neg(by rw [g4]; simp)]
end Go.Proofs.YtoabjjimjldcfaaGreatDoor
end
section
set_option linter.unusedVariables false
set_option maxRecDepth 100000
namespace Go.Proofs.YtoabjjimjldcfaaGreatDoor
open Go Go.Ab
structure MR(hb:Heap)(kt N:Nat)(L:List Nat)(g:Heap):Prop where
 len:L.length=N
 lt:∀ d∈L,d < BB
 row:g.get kt=some(.cells(aV((List.replicate N 0).map uv)0 L)103 1 true)
 ok:Ok hb g
theorem MR.room {hb:Heap}{kt N:Nat}{L:List Nat}{g:Heap}(m:MR hb kt N L g)(r:Nat):MR hb kt N L(Go.Ab.room g r) :=⟨m.len,m.lt,m.row,m.ok.room r⟩
theorem MR.get {hb:Heap}{kt N c:Nat}{L:List Nat}{g:Heap}(m:MR hb kt N L g){j:Int}{jn:Nat}(hj:j=(jn:Int))(hl:jn < N):∃ p:Addr,ag SS.P 136(.slice(some⟨kt,0,none⟩)N c)(.int .i64 j)=some(.pointer(some p))/\ai SS.P 103 g(.pointer(some p))=some(.int .u64(L.getD jn 0:Nat))/\
  ∀ d:Nat,d < BB->kt < g.next->hb.next<=kt->Wf hb->∃ u:Upd,am SS.P 103(.pointer(some p))(.int .u64(d:Int))g=some(undef,u)/\MR hb kt N(L.set jn d)(u.app g):=by
 subst hj
 have hc:(0:Nat) + L.length<=((List.replicate N 0).map uv).length:=by rw [List.length_map,List.length_replicate,m.len]; omega
 refine⟨⟨kt,0 + (jn:Int).toNat,none⟩,th(by omega)(by omega),?_,?_⟩
 · rw [Int.toNat_natCast]
  exact Ak m.row hc(by rw [m.len]; exact hl)
 · intro d hd hk hn w
  rw [Int.toNat_natCast]
  refine⟨_,As m.row hc(by rw [m.len]; exact hl)d,by rw [List.length_set]; exact m.len,fun e he=>?_,?_,m.ok.set _ hn hk w⟩
  · rcases List.mem_or_eq_of_mem_set he with h | h
   · exact m.lt e h
   · rw [h]; exact hd
  · show(g.set kt _).get kt=_
   rw [Heap.get_set,if_pos rfl]
def N5(hb:Heap)(kt N n:Nat)(x y:List Nat)(mz i:Nat)(g:Heap):Prop:=i<=n/\mz=n - i/\∃ L,MR hb kt N L g/\Num.bv BB L=Num.bv BB(x.take i) * Num.bv BB y
def TA(hb:Heap)(kt N k:Nat)(x y:List Nat)(i mz j:Nat)(cy:Int)(g:Heap):Prop:=j<=k + 1/\mz=k + 1 - j/\∃ (L:List Nat)(cn:Nat),cy=(cn:Int)/\cn < BB/\MR hb kt N L g/\Num.bv BB L + cn * BB ^ (i + j)=Num.bv BB(x.take i) * Num.bv BB y + x.getD i 0 * Num.bv BB(y.take j) * BB ^ i
theorem IM {hb:Heap}(w:Wf hb){kt N k:Nat}{x y:List Nat}(hkt:hb.next<=kt)(hx:∀ d∈x,d < BB)(hy:∀ d∈y,d < BB){i mz j:Nat}{cn:Nat}{L:List Nat}{g:Heap}(hj:j < k + 1)(hij:i + j < N)(hmz:mz=k + 1 - j)(hcn:cn < BB)(m:MR hb kt N L g)(he:Num.bv BB L + cn * BB ^ (i + j)=Num.bv BB(x.take i) * Num.bv BB y + x.getD i 0 * Num.bv BB(y.take j) * BB ^ i){q:Nat}(hq:q=x.getD i 0 * y.getD j 0) :
  q<=999999998000000001/\L.getD(i + j)0 < BB/\(∀ g',MR hb kt N(L.set(i + j)((L.getD(i + j)0 + cn + q) % BB))g'->mz - 1 < mz/\TA hb kt N k x y i(mz - 1)(j + 1)(((L.getD(i + j)0 + cn + q) / BB:Nat):Int)g')/\(L.getD(i + j)0 + cn + q) % BB < BB/\kt < g.next:=by
 have hxi:=Num.getD_lt(b:=BB)(by decide)hx i
 have hyj:=Num.getD_lt(b:=BB)(by decide)hy j
 have hLj:=Num.getD_lt(b:=BB)(by decide)m.lt(i + j)
 refine⟨?_,hLj,fun g' m' =>⟨by omega,by omega,by omega,_,_,rfl,?_,m',?_⟩,Nat.mod_lt _(by decide),m.ok.wf _ _ m.row⟩
 · rw [hq]
  exact Nat.le_trans(Nat.mul_le_mul(Nat.le_of_lt_succ hxi)(Nat.le_of_lt_succ hyj))(by decide)
 · exact(Num.mul_step cI m.lt(by rw [m.len]; exact hij)hcn hxi hyj(by rw [hq])he).2.1
 · exact(Num.mul_step cI m.lt(by rw [m.len]; exact hij)hcn hxi hyj(by rw [hq])he).2.2
def Mu {hb:Heap}(w:Wf hb){a:Option Addr}{n c:Nat}{b:Option Addr}{k d:Nat}{kt N tc:Nat}{x y:List Nat}(ra:Rd hb 103(.slice a n c)(x.map uv))(rb:Rd hb 103(.slice b k d)(y.map uv))(hx:∀ d∈x,d < BB)(hy:∀ d∈y,d < BB)(hkt:hb.next<=kt){i:Nat}(hi:i < n)(hn:n=x.length)(hk:k=y.length)(hN:N=n + k + 1)(hN2:N<=1000)(l m:List UInt8)(Q:VH)(mz:Nat)(hmz:mz=n - i):=
 uo l m a n c b k d(some⟨kt,0,none⟩)N tc(n:Int)(N5 hb kt N n x y)mz i((k:Int) + 1)(TA hb kt N k x y i)Q(by
  intro mz2 j cy; intros; rename_i g hin
  obtain⟨h1,h2,L,cn,rfl,h3,mr,h4⟩:=hin
  have hBv:BB=1000000000:=rfl
  have e1:IntKind.wrap .i64((i:Int) + (j:Int))=((i + j:Nat):Int):=by rw [ap(by omega)(by omega)]; omega
  have e2:IntKind.wrap .i64((j:Int) + 1)=((j + 1:Nat):Int):=by rw [ap(by omega)(by omega)]; omega
  have e3:IntKind.wrap .i64((i:Int) + 1)=((i + 1:Nat):Int):=by rw [ap(by omega)(by omega)]; omega
  unfold oh
  rw [e1,e2,e3]
  refine ae(fun h5=>?_)(fun h5=>?_)
  · have h5:=of_decide_eq_true h5
   obtain⟨q,hq⟩: ∃ q,q=x.getD i 0 * y.getD j 0 :=⟨_,rfl⟩
   obtain⟨s1,s2,s3,s4,s5⟩:=IM w hkt hx hy(by omega)(by omega)h2 h3 mr h4 hq
   obtain⟨p,g1,g2,_⟩:=mr.get(c:=tc)(j:=((i + j:Nat):Int))rfl(by omega)
   have e4:IntKind.wrap .u64(((L.getD(i + j)0:Nat):Int) + (cn:Int))=((L.getD(i + j)0 + cn:Nat):Int):=by rw [cJ(by omega)(by omega)]; omega
   refine⟨p,g1,_,g2,ae(fun h6=>?_)(fun h6=>?_)⟩
   · have h6:=of_decide_eq_true h6
    obtain⟨p1,f1,f2⟩:=Dy(ra.ok(mr.room 12).ok)(i:=(i:Int))(by omega)(by omega)
    obtain⟨p2,f3,f4⟩:=Dy(rb.ok(mr.room 12).ok)(i:=(j:Int))(by omega)(by omega)
    rw [Int.toNat_natCast] at f2 f4
    have e5:IntKind.wrap .u64(((x.getD i 0:Nat):Int) * ((y.getD j 0:Nat):Int))=(q:Int):=by rw [<- Int.natCast_mul,<- hq]; exact cJ(by omega)(by omega)
    have e6:IntKind.wrap .u64(((L.getD(i + j)0 + cn:Nat):Int) + (q:Int))=((L.getD(i + j)0 + cn + q:Nat):Int):=by rw [cJ(by omega)(by omega)]; omega
    rw [e4]
    refine⟨p1,f1,_,f2,p2,f3,_,f4,?_⟩
    dsimp af
    rw [e5,e6]
    obtain⟨p3,g3,_,g5⟩:=(mr.room 12).get(c:=tc)(j:=((i + j:Nat):Int))rfl(by omega)
    obtain⟨u,g6,g7⟩:=g5 _ s4(Nat.lt_of_lt_of_le s5(Nat.le_add_right _ _))hkt w
    obtain⟨t1,t2⟩:=s3 _ g7
    refine⟨_,cO(b:=BB)(by omega)(by decide),_,kw(b:=BB)(by omega)(by omega)(by decide),p3,g3,u,g6,kU(mz2 - 1)t1 ?_⟩
    rw [Int.natCast_ediv] at t2
    exact t2
   · have h6:=of_decide_eq_false h6
    have y0:y.getD j 0=0:=by rw [List.getD_eq_getElem?_getD,List.getElem?_eq_none(by omega)]; rfl
    have hq0:q=0:=by rw [hq,y0,Nat.mul_zero]
    rw [e4]
    obtain⟨p3,g3,_,g5⟩:=mr.get(c:=tc)(j:=((i + j:Nat):Int))rfl(by omega)
    rw [hq0,Nat.add_zero] at s3 s4
    obtain⟨u,g6,g7⟩:=g5 _ s4 s5 hkt w
    obtain⟨t1,t2⟩:=s3 _ g7
    refine⟨_,cO(b:=BB)(by omega)(by decide),_,kw(b:=BB)(by omega)(by omega)(by decide),p3,g3,u,g6,kU(mz2 - 1)t1 ?_⟩
    rw [Int.natCast_ediv] at t2
    exact t2
  · have h5:=of_decide_eq_false h5
   obtain rfl:j=k + 1:=by omega
   refine uc(n - (i + 1))(by omega)⟨by omega,rfl,L,mr,?_⟩
   exact Num.mul_end cI hx hy(by omega)mr.lt(by rw [<- hk]; exact h4))
theorem Re {X Y:Nat}(hx:(Num.toB BB X).length<=112)(hy:(Num.toB BB Y).length<=112):(Num.toB BB(X * Y)).length<=10000:=by
 have h1:=Num.bv_lt(Num.toB_lt cI X)
 have h2:=Num.bv_lt(Num.toB_lt cI Y)
 rw [Num.bv_toB cI] at h1 h2
 have h3:=Nat.lt_of_lt_of_le h1(Nat.pow_le_pow_right(show 0 < BB by decide)hx)
 have h4:=Nat.lt_of_lt_of_le h2(Nat.pow_le_pow_right(show 0 < BB by decide)hy)
 refine Nat.le_trans(Num.toB_len_le cI(k:=224) ?_)(by omega)
 rw [show 224=112 + 112 from rfl,Nat.pow_add]
 exact Nat.mul_lt_mul'' h3 h4
theorem DO(a b:List UInt8){h:Heap}(t:Tab h)(w:Wf h):FW SS 119 [aa a,aa b] h(fun v h'=>v=xD a b/\Ok h h'):=by
 refine MS a b h _((bL a h).mono ?_)
 rintro _ g0⟨rfl,e0⟩
 obtain rfl:h=g0:=e0.symm
 refine⟨_,rfl,ae(fun g=>?_)(fun g=>?_)⟩
 · have g:Num.valid a=false:=by simpa using g
  refine⟨?_,Ok.refl w⟩
  unfold xD; rw [if_neg(fun e=>by rw [e.1] at g; cases g)]; rfl
 have g:Num.valid a=true:=by simpa using g
 refine(bL b h).mono ?_
 rintro _ g0⟨rfl,e0⟩
 obtain rfl:h=g0:=e0.symm
 refine⟨_,rfl,ae(fun g2=>?_)(fun g2=>?_)⟩
 · have g2:Num.valid b=false:=by simpa using g2
  refine⟨?_,Ok.refl w⟩
  unfold xD; rw [if_neg(fun e=>by rw [e.2] at g2; cases g2)]; rfl
 have g2:Num.valid b=true:=by simpa using g2
 have tb:=RD g g2
 have lx:=tb.lx
 have ly:=tb.ly
 refine(im g w).mono ?_
 rintro _ h1⟨a1,n1,c1,rfl,o1,ok1⟩
 refine⟨_,_,_,rfl,(im g2 ok1.wf).mono ?_⟩
 rintro _ h2⟨a2,n2,c2,rfl,o2,ok2⟩
 refine⟨_,_,_,rfl,?_⟩
 have hS:xD a b=ki(Num.val a * Num.val b):=by unfold xD; rw [if_pos⟨g,g2⟩]
 rw [hS]
 have r1:=o1.rd.ok ok2
 have r2:=o2.rd
 have ok:=ok1.trans ok2
 have hn1:n1=(Num.toB BB(Num.val a)).length:=by have:=r1.len; rwa [List.length_map] at this
 have hn2:n2=(Num.toB BB(Num.val b)).length:=by have:=r2.len; rwa [List.length_map] at this
 have hX:=Num.toB_lt cI(Num.val a)
 have hY:=Num.toB_lt cI(Num.val b)
 have bX:=Num.bv_toB cI(Num.val a)
 have bY:=Num.bv_toB cI(Num.val b)
 have r1:Rd h2 103(.slice a1 n1 c1)((Num.toB BB(Num.val a)).map uv):=r1
 have r2:Rd h2 103(.slice a2 n2 c2)((Num.toB BB(Num.val b)).map uv):=r2
 have hsz:(Num.toB BB(Num.val a * Num.val b)).length<=10000:=Re lx ly
 generalize Num.val a=X at *
 generalize Num.val b=Y at *
 generalize Num.toB BB X=x at *
 generalize Num.toB BB Y=y at *
 have e1:IntKind.wrap .i64(IntKind.wrap .i64((n1:Int) + (n2:Int)) + 1)=((n1 + n2 + 1:Nat):Int):=by
  rw [ap(n:=(n1:Int) + (n2:Int))(by omega)(by omega),ap(by omega)(by omega)]; omega
 dsimp af
 rw [e1]
 refine⟨_,_,_,TW _(by omega),?_⟩
 have okp:=(Ok.refl ok.wf).push(.cells((List.replicate(n1 + n2 + 1)0).map uv)103 1 true)
 have m0:MR h2 h2.next(n1 + n2 + 1)(List.replicate(n1 + n2 + 1)0)(h2.push(.cells((List.replicate(n1 + n2 + 1)0).map uv)103 1 true)):=by
  refine⟨List.length_replicate,fun d hd=>by rw [(List.mem_replicate.1 hd).2]; decide,?_,okp⟩
  rw [Heap.get_push,if_pos rfl,il(by rw [List.drop_zero,List.length_replicate,List.take_of_length_le(by rw [List.length_map,List.length_replicate]; omega)])]
 refine uZ a b a1 n1 c1 a2 n2 c2(some⟨h2.next,0,none⟩)(n1 + n2 + 1)(n1 + n2 + 1)(n1:Int)(N5 h2 h2.next(n1 + n2 + 1)n1 x y)(fun v h'=>v=ki(X * Y)/\Ok h h')(fun mz i=>?_)n1(i:=0)⟨by omega,by omega,_,m0,by rw [Num.bv_replicate,List.take_zero]; simp [Num.bv]⟩
 intros; rename_i g hi
 obtain⟨f1,f2,L,mr,f3⟩:=hi
 refine ae(fun h5=>?_)(fun h5=>?_)
 · have h5:=of_decide_eq_true h5
  have e2:IntKind.wrap .i64((n2:Int) + 1)=(n2:Int) + 1:=ap(by omega)(by omega)
  rw [e2]
  exact Mu ok.wf r1 r2 hX hY(Nat.le_refl _)(i:=i)(by omega)hn1 hn2 rfl(by omega)a b _ mz f2(n2 + 1)(j:=0)(cy:=0)⟨by omega,by omega,L,0,rfl,by decide,mr,by rw [f3,List.take_zero]; simp [Num.bv]⟩
 · have h5:=of_decide_eq_false h5
  obtain rfl:n1=i:=by omega
  rw [List.take_of_length_le(by omega),bX,bY] at f3
  have hcap:n1 + n2 + 1<=aO(n1 + n2 + 1):=by unfold aO; rw [if_neg(by unfold bn; omega)]; omega
  have rc:=yR mr.row(n:=n1 + n2 + 1)(c:=n1 + n2 + 1)mr.len.symm hcap
  refine(kD rc(by rw [mr.len]; omega)).mono ?_
  rintro _ h6⟨rfl,e6⟩
  subst e6
  have rt:=wq rc mr.lt
  rw [f3] at rt
  refine⟨_,_,_,rfl,(qG rt hsz(t.ok(ok.trans mr.ok))mr.ok.wf).mono ?_⟩
  rintro _ h7⟨rfl,ok7⟩
  exact yP(K:=fun v=>v=ki(X * Y)/\Ok h h7)(tp _)⟨rfl,(ok.trans mr.ok).trans ok7⟩
end Go.Proofs.YtoabjjimjldcfaaGreatDoor
end
section
set_option linter.unusedVariables false
set_option maxRecDepth 100000
namespace Go.Proofs.YtoabjjimjldcfaaGreatDoor
open Go Go.Ab
def Cf:Blk:= .cells [.bool false,aa [],aa []] 122 0 true
theorem PQ:bj SS.P 122=some(Cf,ks):=by kernel_rfl
theorem WE(neg:Bool)(n d:List UInt8):bE SS.P 122 [(0,(.bool neg)),(1,(aa n)),(2,(aa d))]=some(.agg⟨[.bool neg,aa n,aa d]⟩):=by kernel_rfl
theorem lB:bE SS.P 122 []=some(.agg⟨[.bool false,aa [],aa []]⟩):=by kernel_rfl
theorem Pv : au SS.P 122=some 3:=by kernel_rfl
theorem Wj:Go.Ab.isAgg SS.P 122=true:=by kernel_rfl
noncomputable def Ut:TypeDesc:=(SS.P.underlying 122).getD .bool
theorem Wu:SS.P.underlying 122=some Ut:=by kernel_rfl
theorem TQ {h:Heap}{k:Nat}{cs0:List Value}(hl:cs0.length=3)(hk:h.get k=some(.cells cs0 122 0 true))(b:Bool)(n d:List UInt8):am SS.P 122(.pointer(some⟨k,0,none⟩))(.agg⟨[.bool b,aa n,aa d]⟩)h=some(undef,.set k(.cells [.bool b,aa n,aa d] 122 0 true)):=by
 unfold am
 dsimp af
 rw [if_pos(show au SS.P 122=some((Value.agg⟨[.bool b,aa n,aa d]⟩).cells).size from Pv)]
 unfold storeAt
 rw [hk]; dsimp af
 have hs:([.bool b,aa n,aa d] : List Value).all bN=true:=rfl
 rw [show(Value.agg⟨[.bool b,aa n,aa d]⟩).cells.toList=[.bool b,aa n,aa d] from rfl,if_pos⟨by simp [hl],hs⟩,List.drop_eq_nil_of_le(by simp [hl])]
 rfl
theorem V2 {h:Heap}{k:Nat}{b:Bool}{n d:List UInt8}(hk:h.get k=some(.cells [.bool b,aa n,aa d] 122 0 true)):ai SS.P 122 h(.pointer(some⟨k,0,none⟩))=some(.agg⟨[.bool b,aa n,aa d]⟩):=C1 Wu Wj Pv hk(by simp)
theorem kh(l:List UInt8)(h:Heap):FW SS 118 [aa l,.int .i64 0] h(fun v h'=>v=aa l/\h' = h):=
 Jv l 0 h _(ae(fun g=>by cases g)(fun _ =>⟨rfl,rfl⟩))
theorem Jd(s:Bool)(A:Nat)(t:Bool)(B:Nat)(hA:A < 10 ^ 800)(hB:B < 10 ^ 800){h:Heap}(tb:Tab h)(w:Wf h):FW SS 117 [.bool s,aa(Num.toDec A),.bool t,aa(Num.toDec B)] h(fun v h'=>v=wL s A t B/\Ok h h'):=by
 refine Jo s _ t _ h _(ae(fun g=>?_)(fun g=>?_))
 · have g:s=t:=by simpa using g
  refine(NO _ _ tb w).mono ?_
  rintro _ h1⟨rfl,o1⟩
  rw [GS hA hB]
  refine⟨_,_,rfl,(kh _ _).mono ?_⟩
  rintro _ _⟨rfl,rfl⟩
  refine⟨_,rfl,?_,o1⟩
  unfold wL Num.plusS; rw [if_pos g]
 · have g : ¬ s=t:=by simpa using g
  refine(MD _ _ tb w).mono ?_
  rintro _ h1⟨rfl,o1⟩
  rw [H4 hA hB]
  refine⟨_,rfl,ae(fun g1=>?_)(fun g1=>?_)⟩
  · have g1:=of_decide_eq_true g1
   have g2:A < B:=cmpN_lt0.1(by omega)
   refine(Dl _ _(tb.ok o1)o1.wf).mono ?_
   rintro _ h2⟨rfl,o2⟩
   rw [uK hB hA(Nat.le_of_lt g2)]
   refine⟨_,_,rfl,(kh _ _).mono ?_⟩
   rintro _ _⟨rfl,rfl⟩
   refine⟨_,rfl,?_,o1.trans o2⟩
   unfold wL Num.plusS; rw [if_neg g,if_pos g2]
  · have g1:=of_decide_eq_false g1
   have g2 : ¬ A < B:=fun c=>by have:=cmpN_lt0.2 c; omega
   refine(Dl _ _(tb.ok o1)o1.wf).mono ?_
   rintro _ h2⟨rfl,o2⟩
   rw [uK hA hB(Nat.not_lt.1 g2)]
   refine⟨_,_,rfl,(kh _ _).mono ?_⟩
   rintro _ _⟨rfl,rfl⟩
   refine⟨_,rfl,?_,o1.trans o2⟩
   unfold wL Num.plusS; rw [if_neg g,if_neg g2]
def LD(b:Bool)(n d:List UInt8):Value:= .agg⟨[.bool b,aa n,aa d]⟩
def rJ(l:List UInt8):Value:=if Num.isRat l=true then .tuple⟨[LD(Num.isNeg l)(Num.numOf l)(Num.denOf l),.bool true]⟩else .tuple⟨[LD false [] [],.bool false]⟩
def qi(b:Bool)(n d:List UInt8):Value:= .tuple⟨[LD b n d,.bool true]⟩
def oB:Value:= .tuple⟨[LD false [] [],.bool false]⟩
structure NBox(h0:Heap)(k:Nat)(g:Heap):Prop where
 row:∃ cs0:List Value,cs0.length=3/\g.get k=some(.cells cs0 122 0 true)
 new:h0.next<=k
 ok:Ok h0 g
theorem NBox.trans {h0:Heap}{k:Nat}{g g' : Heap}(m:NBox h0 k g)(o:Ok g g'):NBox h0 k g':=by
 obtain⟨⟨cs,h1,h2⟩,h3,h4⟩:=m
 exact⟨⟨cs,h1,o.ext _ _ h2⟩,h3,h4.trans o⟩
theorem GZ {h0:Heap}(w:Wf h0){k:Nat}{g:Heap}(m:NBox h0 k g)(b:Bool)(n d:List UInt8)(okb:Bool){Q:VH}(hq:∀ g',Ok h0 g'->Q(.tuple⟨[LD b n d,.bool okb]⟩)g') :
  ∃ u:Upd,am SS.P 122(.pointer(some⟨k,0,none⟩))(.agg⟨[.bool b,aa n,aa d]⟩)g=some(undef,u)/\jh SS [(.pointer(some⟨k,0,none⟩),some 122),(.bool okb,none)] (u.app g)Q:=by
 obtain⟨⟨cs,hl,hk⟩,h4,h5⟩:=m
 refine⟨_,TQ hl hk b n d,?_⟩
 have o:Ok h0((Upd.set k(.cells [.bool b,aa n,aa d] 122 0 true)).app g):=h5.set _ h4(h5.wf _ _ hk)w
 have hg:((Upd.set k(.cells [.bool b,aa n,aa d] 122 0 true)).app g).get k=some(.cells [.bool b,aa n,aa d] 122 0 true):=by
  show(g.set k _).get k=_
  rw [Heap.get_set,if_pos rfl]
 refine Hm(v:=LD b n d)(V2 hg) ?_
 exact hq _ o
def Rw(n d:List UInt8)(neg fnd:Bool):Prop:=Num.valid n=true/\Num.valid d=true/\n.length<=400/\d.length<=400/\¬ (neg=true/\n=[48])/\¬ (fnd=true/\(d=[48]\/d=[49]))/\Nat.gcd(Num.val n)(Num.val d)=1
theorem gQ {h0:Heap}(w:Wf h0){k:Nat}{g:Heap}(m:NBox h0 k g){C:Prop}(hc : ¬ C){G:Value} :
  ∃ u:Upd,am SS.P 122(.pointer(some⟨k,0,none⟩))(.agg⟨[.bool false,aa [],aa []]⟩)g=some(undef,u)/\jh SS [(.pointer(some⟨k,0,none⟩),some 122),(.bool false,none)] (u.app g)(jS h0 C G oB):=
 GZ w m false [] [] false(fun _ o=>ei o hc)
theorem KR(n d:List UInt8)(neg fnd:Bool)(k:Nat){h0 g:Heap}(w:Wf h0)(m:NBox h0 k g)(tb:Tab g){x0 x1 x3 x4 x9 x10 x11 x12 x13 x14 x15 x16 x17 x18 x19 x20 x21 x22 x23 x24 x25 x26 x27 x28 x29 x30 x31 x32 x33 x34 x35 x36 x37 x38 x39 x40 x41 x42 x43 x44 x45 x46 x47 x48 x49 x50 x51 x52 x53 x54 x55 x56 x57 x58 x59 x60 x61 x62 x63 x64 x65 x66 x67 x68 x69 x70 x71 x72 x73 x74 x75 x76:Value} :
  wpS SS Tryz.f121.ntmps ba(aQ [1,1,1,1] av) [x0,x1,.pointer(some⟨k,0,none⟩),x3,x4,.bool neg,aa n,aa d,.bool fnd,x9,x10,x11,x12,x13,x14,x15,x16,x17,x18,x19,x20,x21,x22,x23,x24,x25,x26,x27,x28,x29,x30,x31,x32,x33,x34,x35,x36,x37,x38,x39,x40,x41,x42,x43,x44,x45,x46,x47,x48,x49,x50,x51,x52,x53,x54,x55,x56,x57,x58,x59,x60,x61,x62,x63,x64,x65,x66,x67,x68,x69,x70,x71,x72,x73,x74,x75,x76] g(bh(jS h0(Rw n d neg fnd)(qi neg n d)oB)):=by
 refine Ae((bL n g).mono ?_)
 rintro _ g0⟨rfl,e0⟩
 obtain rfl:g=g0:=e0.symm
 refine⟨_,rfl,ae(fun g1 =>⟨_,lB,gQ w m(fun c=>?_)⟩)(fun g1=>?_)⟩
 · rw [c.1] at g1; cases g1
 have g1:Num.valid n=true:=by simpa using g1
 refine(bL d g).mono ?_
 rintro _ g0⟨rfl,e0⟩
 obtain rfl:g=g0:=e0.symm
 refine⟨_,rfl,ae(fun g2 =>⟨_,lB,gQ w m(fun c=>?_)⟩)(fun g2=>?_)⟩
 · rw [c.2.1] at g2; cases g2
 have g2:Num.valid d=true:=by simpa using g2
 refine ae(fun g3 =>⟨_,lB,gQ w m(fun c=>?_)⟩)(fun g3=>?_)
 · have:=c.2.2.1; have g3:=of_decide_eq_true g3; omega
 have g3:n.length<=400:=by have g3:=of_decide_eq_false g3; omega
 refine ae(fun g4 =>⟨_,lB,gQ w m(fun c=>?_)⟩)(fun g4=>?_)
 · have:=c.2.2.2.1; have g4:=of_decide_eq_true g4; omega
 have g4:d.length<=400:=by have g4:=of_decide_eq_false g4; omega
 have fin : ¬ (neg=true/\n=[48])->¬ (fnd=true/\(d=[48]\/d=[49]))->∀ {x0 x1 x3 x4 x9 x10 x11 x12 x13 x14 x15 x16 x17 x18 x19 x20 x21 x22 x23 x24 x25 x26 x27 x28 x29 x30 x31 x32 x33 x34 x35 x36 x37 x38 x39 x40 x41 x42 x43 x44 x45 x46 x47 x48 x49 x50 x51 x52 x53 x54 x55 x56 x57 x58 x59 x60 x61 x62 x63 x64 x65 x66 x67 x68 x69 x70 x71 x72 x73 x74 x75 x76:Value},wpS SS Tryz.f121.ntmps ba(aQ [1,1,1,1,1,1] av) [x0,x1,.pointer(some⟨k,0,none⟩),x3,x4,.bool neg,aa n,aa d,.bool fnd,x9,x10,x11,x12,x13,x14,x15,x16,x17,x18,x19,x20,x21,x22,x23,x24,x25,x26,x27,x28,x29,x30,x31,x32,x33,x34,x35,x36,x37,x38,x39,x40,x41,x42,x43,x44,x45,x46,x47,x48,x49,x50,x51,x52,x53,x54,x55,x56,x57,x58,x59,x60,x61,x62,x63,x64,x65,x66,x67,x68,x69,x70,x71,x72,x73,x74,x75,x76] g(bh(jS h0(Rw n d neg fnd)(qi neg n d)oB)):=by
  intro c5 c6
  intros
  refine BE((Nj n d tb m.ok.wf).mono ?_)
  rintro _ h1⟨rfl,o1⟩
  have m1:=m.trans o1
  rw [Gx g1 g2]
  refine⟨_,_,rfl,ae(fun e=>by cases e)(fun _=>?_)⟩
  refine ae(fun e =>⟨_,lB,gQ w m1(fun c=>?_)⟩)(fun e=>?_)
  · have e : ¬ Num.toDec(Nat.gcd(Num.val n)(Num.val d))=[49]:=by simpa using e
   exact e(Num.toDec_eq_one.2 c.2.2.2.2.2.2)
  · have e:Num.toDec(Nat.gcd(Num.val n)(Num.val d))=[49]:=by simpa using e
   refine An⟨_,WE neg n d,GZ w m1 neg n d true(fun _ o=>sf o ?_)⟩
   exact⟨g1,g2,g3,g4,c5,c6,Num.toDec_eq_one.1 e⟩
 refine AO(ae(fun g5=>ae(fun g6 =>⟨_,lB,gQ w m(fun c=>?_)⟩)(fun g6=>?_))(fun g5=>?_))
 · exact c.2.2.2.2.1⟨g5,by simpa using g6⟩
 · have c5 : ¬ (neg=true/\n=[48]):=fun c=>by
   have : ¬ n=[48]:=by simpa using g6
   exact this c.2
  refine ae(fun g7=>ae(fun g8 =>⟨_,lB,gQ w m(fun c=>?_)⟩)(fun g8=>ae(fun g9 =>⟨_,lB,gQ w m(fun c=>?_)⟩)(fun g9=>?_)))(fun g7=>?_)
  · exact c.2.2.2.2.2.1⟨g7,.inl(by simpa using g8)⟩
  · exact c.2.2.2.2.2.1⟨g7,.inr(by simpa using g9)⟩
  · refine fin c5(fun c=>?_)
   have g8 : ¬ d=[48]:=by simpa using g8
   have g9 : ¬ d=[49]:=by simpa using g9
   exact c.2.elim g8 g9
  · exact fin c5(fun c=>by rw [c.1] at g7; cases g7)
 · have c5 : ¬ (neg=true/\n=[48]):=fun c=>by rw [c.1] at g5; cases g5
  refine ae(fun g7=>ae(fun g8 =>⟨_,lB,gQ w m(fun c=>?_)⟩)(fun g8=>ae(fun g9 =>⟨_,lB,gQ w m(fun c=>?_)⟩)(fun g9=>?_)))(fun g7=>?_)
  · exact c.2.2.2.2.2.1⟨g7,.inl(by simpa using g8)⟩
  · exact c.2.2.2.2.2.1⟨g7,.inr(by simpa using g9)⟩
  · refine fin c5(fun c=>?_)
   have g8 : ¬ d=[48]:=by simpa using g8
   have g9 : ¬ d=[49]:=by simpa using g9
   exact c.2.elim g8 g9
  · exact fin c5(fun c=>by rw [c.1] at g7; cases g7)
theorem EY {h:Heap}{l:List UInt8}{v:Value}{h' : Heap}(q:jS h(Rw(Num.numOf l)(Num.denOf l)(Num.isNeg l)(Num.hasStroke l))(qi(Num.isNeg l)(Num.numOf l)(Num.denOf l))oB v h'):v=rJ l/\Ok h h':=by
 obtain⟨o,q1,q2⟩:=q
 refine⟨?_,o⟩
 unfold rJ
 by_cases g:Num.isRat l=true
 · rw [if_pos g]
  have r:=Num.isRat_iff.1 g
  exact q1⟨r.num,r.den,r.ln,r.ld,r.neg,r.fr,r.one⟩
 · rw [if_neg g]
  exact q2 fun c=>g(Num.isRat_iff.2⟨c.1,c.2.1,c.2.2.1,c.2.2.2.1,c.2.2.2.2.1,c.2.2.2.2.2.1,c.2.2.2.2.2.2⟩)
theorem oc(l:List UInt8)(hl:l.length<=1000000000){h:Heap}(tb:Tab h)(w:Wf h):FW SS 121 [aa l] h(fun v h'=>v=rJ l/\Ok h h'):=by
 refine FW.mono(Q:=jS h(Rw(Num.numOf l)(Num.denOf l)(Num.isNeg l)(Num.hasStroke l))(qi(Num.isNeg l)(Num.numOf l)(Num.denOf l))oB) ?_(fun _ _ q=>EY q)
 have m0:NBox h h.next(h.push Cf) :=⟨⟨_,rfl,by rw [Heap.get_push,if_pos rfl]; rfl⟩,Nat.le_refl _,(Ok.refl w).push _⟩
 refine HP l h _⟨_,PQ,(Nx l _).mono ?_⟩
 rintro _ g0⟨rfl,rfl⟩
 have hm:(Num.afterNeg l).length<=1000000000:=by
  unfold Num.afterNeg; split
  · rw [List.length_drop]; omega
  · exact hl
 refine⟨_,_,rfl,(UW _ hm m0.ok.wf).mono ?_⟩
 rintro _ g1⟨rfl,o1⟩
 have m1:=m0.trans o1
 have t1:=tb.ok m1.ok
 unfold Ny
 by_cases hs:Num.idxB 47(Num.afterNeg l) < (Num.afterNeg l).length
 · rw [if_pos hs]
  have hst:Num.hasStroke l=true:=decide_eq_true hs
  have e2:Num.denOf l=(Num.afterNeg l).drop(Num.idxB 47(Num.afterNeg l) + 1):=by unfold Num.denOf; rw [if_pos hst]
  rw [hst]
  refine⟨_,_,_,rfl,ae(fun e=>by cases e)(fun _=>?_)⟩
  rw [<- e2]
  exact KR _ _ _ true _ w m1 t1
 · rw [if_neg hs]
  have hst:Num.hasStroke l=false:=decide_eq_false hs
  have e2:Num.denOf l=[49]:=by unfold Num.denOf; rw [hst]; rfl
  have e1:Num.numOf l=Num.afterNeg l:=by unfold Num.numOf; rw [List.take_of_length_le(by omega)]
  rw [hst,e1,e2]
  refine⟨_,_,_,rfl,ae(fun _=>?_)(fun e=>by cases e)⟩
  exact KR _ _ _ false _ w m1 t1
theorem IB(l:List UInt8):∃ (cs:List Value)(b:Bool),rJ l = .tuple⟨[.agg⟨cs⟩,.bool b]⟩/\b=Num.isRat l:=by
 unfold rJ
 cases g:Num.isRat l with
 | true=>exact⟨_,_,rfl,rfl⟩
 | false=>exact⟨_,_,rfl,rfl⟩
theorem xa(l:List UInt8)(hl:l.length<=1000000000){h:Heap}(tb:Tab h)(w:Wf h):FW SS 97 [aa l] h(fun v h'=>v = .bool(Num.isRat l)/\Ok h h'):=by
 refine GH l h _((oc l hl tb w).mono ?_)
 rintro _ h1⟨rfl,o1⟩
 obtain⟨cs,b,e,e2⟩:=IB l
 exact⟨cs,b,e,by rw [e2],o1⟩
end Go.Proofs.YtoabjjimjldcfaaGreatDoor
end
section
set_option linter.unusedVariables false
set_option maxRecDepth 100000
namespace Go.Proofs.YtoabjjimjldcfaaGreatDoor
open Go Go.Ab
theorem Lg(k:Nat):ah SS.P 122(.pointer(some⟨k,0,none⟩))0=some(.pointer(some⟨k,0,none⟩)):=by kernel_rfl
theorem KQ(k:Nat):ah SS.P 122(.pointer(some⟨k,0,none⟩))1=some(.pointer(some⟨k,1,none⟩)):=by kernel_rfl
theorem Ks(k:Nat):ah SS.P 122(.pointer(some⟨k,0,none⟩))2=some(.pointer(some⟨k,2,none⟩)):=by kernel_rfl
theorem Yx:SS.P.underlying 4=some .bool:=Tryz.underlying4
theorem XS:Go.Ab.isAgg SS.P 4=false:=by kernel_rfl
theorem Ud:Go.Ab.isAgg SS.P 9=false:=by kernel_rfl
def HasNum(g:Heap)(k:Nat)(b:Bool)(n d:List UInt8):Prop:=g.get k=some(.cells [.bool b,aa n,aa d] 122 0 true)
theorem HasNum.ok {g g' : Heap}{k:Nat}{b:Bool}{n d:List UInt8}(x:HasNum g k b n d)(o:Ok g g'):HasNum g' k b n d:=o.ext _ _ x
theorem HasNum.l0 {g:Heap}{k:Nat}{b:Bool}{n d:List UInt8}(x:HasNum g k b n d):ai SS.P 4 g(.pointer(some⟨k,0,none⟩))=some(.bool b):=ey Yx XS x(by simp)
theorem HasNum.l1 {g:Heap}{k:Nat}{b:Bool}{n d:List UInt8}(x:HasNum g k b n d):ai SS.P 9 g(.pointer(some⟨k,1,none⟩))=some(aa n):=ey NW Ud x(by simp)
theorem HasNum.l2 {g:Heap}{k:Nat}{b:Bool}{n d:List UInt8}(x:HasNum g k b n d):ai SS.P 9 g(.pointer(some⟨k,2,none⟩))=some(aa d):=ey NW Ud x(by simp)
theorem O6 {h:Heap}(w:Wf h)(b:Bool)(n d:List UInt8):∃ u:Upd,am SS.P 122(.pointer(some⟨h.next,0,none⟩))(.agg⟨[.bool b,aa n,aa d]⟩)(h.push Cf)=some(undef,u)/\Ok h(u.app(h.push Cf))/\HasNum(u.app(h.push Cf))h.next b n d:=by
 have hk:(h.push Cf).get h.next=some Cf:=by rw [Heap.get_push,if_pos rfl]
 refine⟨_,TQ(cs0:=[.bool false,aa [],aa []])rfl hk b n d,?_,?_⟩
 · exact((Ok.refl w).push _).set _(Nat.le_refl _)(Nat.lt_succ_self _)w
 · show((h.push Cf).set h.next _).get h.next=_
  rw [Heap.get_set,if_pos rfl]
theorem Dd(l:List UInt8):∃ (b:Bool)(n d:List UInt8),rJ l = .tuple⟨[.agg⟨[.bool b,aa n,aa d]⟩,.bool(Num.isRat l)]⟩/\(Num.isRat l=true->b=Num.isNeg l/\n=Num.numOf l/\d=Num.denOf l):=by
 unfold rJ
 cases g:Num.isRat l with
 | true=>exact⟨_,_,_,rfl,fun _ =>⟨rfl,rfl,rfl⟩⟩
 | false=>exact⟨_,_,_,rfl,fun e=>by cases e⟩
theorem xc(b:Bool):cP 4(.bool b)(.bool b)=true:=by simp [cP]
theorem KD(l:List UInt8):cP 4(aa l)(aa l)=true:=by simp [cP,aa]
theorem NE(l m:List UInt8)(hl:l.length<=1000000000)(hm:m.length<=1000000000){h:Heap}(tb:Tab h)(w:Wf h):FW SS 125 [aa l,aa m] h(fun v h'=>v = .int .i64(Num.cmpRat l m)/\Ok h h'):=by
 refine Mj l m h _((oc l hl tb w).mono ?_)
 rintro _ h1⟨rfl,o1⟩
 obtain⟨b,n,d,e1,f1⟩:=Dd l
 obtain⟨u1,s1,s2,s3⟩:=O6 o1.wf b n d
 refine⟨_,_,e1,_,PQ,u1,s1,?_⟩
 have ok1:=o1.trans s2
 generalize u1.app(h1.push Cf)=g1 at *
 refine(oc m hm(tb.ok ok1)ok1.wf).mono ?_
 rintro _ h2⟨rfl,o2⟩
 obtain⟨b',n',d',e2,f2⟩:=Dd m
 obtain⟨u2,r1,r2,r3⟩:=O6 o2.wf b' n' d'
 refine⟨_,_,e2,_,PQ,u2,r1,?_⟩
 have ok2:=(ok1.trans o2).trans r2
 have x1:=(s3.ok o2).ok r2
 generalize u2.app(h2.push Cf)=g2 at *
 generalize h1.next=k1 at *
 generalize h2.next=k2 at *
 refine ae(fun q =>⟨?_,ok2⟩)(fun q=>ae(fun q2 =>⟨?_,ok2⟩)(fun q2=>?_))
 · have q:Num.isRat l=false:=by simpa using q
  unfold Num.cmpRat; rw [if_neg(fun c=>by rw [c.1] at q; cases q)]
 · have q2:Num.isRat m=false:=by simpa using q2
  unfold Num.cmpRat; rw [if_neg(fun c=>by rw [c.2] at q2; cases q2)]
 have q:Num.isRat l=true:=by simpa using q
 have q2:Num.isRat m=true:=by simpa using q2
 obtain⟨rfl,rfl,rfl⟩:=f1 q
 obtain⟨rfl,rfl,rfl⟩:=f2 q2
 have i1:=Num.isRat_iff.1 q
 have i2:=Num.isRat_iff.1 q2
 have or:Ok g2(Go.Ab.room g2 27):=(Ok.refl ok2.wf).room 27
 refine⟨_,Lg _,_,(x1.ok or).l0,_,KQ _,_,(x1.ok or).l1,_,Ks _,_,(r3.ok or).l2,?_⟩
 have okr:=ok2.trans or
 refine(DO _ _(tb.ok okr)okr.wf).mono ?_
 rintro _ h3⟨rfl,o3⟩
 rw [(jV i1.num i2.den i1.ln i2.ld).1]
 refine⟨_,_,rfl,(kh _ _).mono ?_⟩
 rintro _ h3'⟨rfl,eh⟩
 obtain rfl:h3=h3':=eh.symm
 have p3:=or.trans o3
 refine⟨_,rfl,_,Lg _,_,(r3.ok p3).l0,_,KQ _,_,(r3.ok p3).l1,_,Ks _,_,(x1.ok p3).l2,?_⟩
 have ok3:=ok2.trans p3
 refine(DO _ _(tb.ok ok3)ok3.wf).mono ?_
 rintro _ h4⟨rfl,o4⟩
 rw [(jV i2.num i1.den i2.ln i1.ld).1]
 refine⟨_,_,rfl,(kh _ _).mono ?_⟩
 rintro _ h4'⟨rfl,eh⟩
 obtain rfl:h4=h4':=eh.symm
 have p4:=p3.trans o4
 have ok4:=ok2.trans p4
 refine⟨_,rfl,(Jd _ _ _ _(jV i1.num i2.den i1.ln i2.ld).2(jV i2.num i1.den i2.ln i1.ld).2(tb.ok ok4)ok4.wf).mono ?_⟩
 rintro _ h5⟨rfl,o5⟩
 have ok5:=ok4.trans o5
 refine⟨_,_,rfl,⟨(x1.ok p3).l0,xc _⟩,⟨(x1.ok p3).l0,xc _⟩,⟨(x1.ok p4).l0,xc _⟩,⟨(x1.ok p4).l0,xc _⟩,⟨(r3.ok or).l0,xc _⟩,⟨(r3.ok p3).l0,xc _⟩,⟨(r3.ok p4).l0,xc _⟩,⟨(r3.ok p4).l0,xc _⟩,⟨(r3.ok or).l1,KD _⟩,⟨(r3.ok p3).l1,KD _⟩,⟨(x1.ok or).l2,KD _⟩,⟨(x1.ok p3).l2,KD _⟩,?_⟩
 unfold Num.cmpRat
 rw [if_pos⟨q,q2⟩]
 generalize Num.plusS _ _ _ _=z
 refine ae(fun g3 =>⟨?_,ok5⟩)(fun g3=>?_)
 · have g3:Num.toDec z.2=[48]:=by simpa using g3
  rw [if_pos(Num.toDec_eq_zero.1 g3)]
 · have g3 : ¬ Num.toDec z.2=[48]:=by simpa using g3
  rw [if_neg(fun c=>g3(Num.toDec_eq_zero.2 c))]
  refine ae(fun g4 =>⟨?_,ok5⟩)(fun g4 =>⟨?_,ok5⟩)
  · rw [if_pos g4]
  · rw [if_neg(by rw [g4]; simp)]
end Go.Proofs.YtoabjjimjldcfaaGreatDoor
end
section
set_option linter.unusedVariables false
set_option maxRecDepth 100000
namespace Go.Proofs.YtoabjjimjldcfaaGreatDoor
open Go Go.Ab
noncomputable def qJ:Code:=(Tryz.f75.body).getD .skip
def IK:List Nat:=[]
abbrev Js  (h:Heap)(Q:VH):Prop:=xN(bj SS.P 85)h fun B1 g2=>xA(bE SS.P 68 [(0,(aa [105,110,102])),(1,(aa [48])),(2,(.bool true)),(3,(.func(.func 94)⟨[]⟩⟨[]⟩)),(4,(.func(.func 95)⟨[]⟩⟨[]⟩)),(5,(.func(.func 96)⟨[]⟩⟨[]⟩)),(6,(.func(.func 97)⟨[]⟩⟨[]⟩)),(7,(.func(.func 97)⟨[]⟩⟨[]⟩))])fun c3=>xA(bE SS.P 68 [(0,(aa [48])),(1,(aa [49])),(2,(.bool false)),(3,(.func(.func 98)⟨[]⟩⟨[]⟩)),(4,(.func(.func 99)⟨[]⟩⟨[]⟩)),(5,(.func(.func 100)⟨[]⟩⟨[]⟩)),(6,(.func(.func 101)⟨[]⟩⟨[]⟩)),(7,(.func(.func 102)⟨[]⟩⟨[]⟩))])fun c4=>xA(bE SS.P 68 [(0,(aa [48])),(1,(aa [49])),(2,(.bool false)),(3,(.func(.func 94)⟨[]⟩⟨[]⟩)),(4,(.func(.func 99)⟨[]⟩⟨[]⟩)),(5,(.func(.func 103)⟨[]⟩⟨[]⟩)),(6,(.func(.func 101)⟨[]⟩⟨[]⟩)),(7,(.func(.func 102)⟨[]⟩⟨[]⟩))])fun c5=>xA(bE SS.P 85 [(1,(.agg⟨c3⟩)),(2,(.agg⟨c4⟩)),(3,(.agg⟨c5⟩))])fun c6=>xU(am SS.P 85(pA(h.next))(.agg⟨c6⟩)g2)g2 fun u7 g8=>jh SS [((pA(h.next)),some 85)] g8 Q
theorem Hz  (h:Heap)(Q:VH)(hx:Js  h Q):FW SS 75 [] h Q:=ay(M:=IK)(c:=qJ)Tryz.func75(show Tryz.f75.body=some qJ by kernel_rfl)(by kernel_rfl)(aj hx(by kernel_rfl))
noncomputable def AP:Code:=(Tryz.f57.body).getD .skip
def St:List Nat:=[]
abbrev Ry(kind:Int)(h:Heap)(Q:VH):Prop:=xN(bj SS.P 68)h fun B1 g2=>ax(decide((kind:Int) < 1))(xA(bE SS.P 68 [])fun c3=>xU(am SS.P 68(pA(h.next))(.agg⟨c3⟩)g2)g2 fun u4 g5=>jh SS [((pA(h.next)),some 68),((.bool false),none)] g5 Q)(ax(decide((kind:Int) > 3))(xA(bE SS.P 68 [])fun c6=>xU(am SS.P 68(pA(h.next))(.agg⟨c6⟩)g2)g2 fun u7 g8=>jh SS [((pA(h.next)),some 68),((.bool false),none)] g8 Q)(FW SS 75 [] g2 fun v9 h10=>yA v9 fun c11=>xA(aR SS.P 85(.agg⟨c11⟩)(.int .i64 kind))fun c12=>xU(am SS.P 68(pA(h.next))(.agg⟨c12⟩)h10)h10 fun u13 g14=>jh SS [((pA(h.next)),some 68),((.bool true),none)] g14 Q))
theorem O7(kind:Int)(h:Heap)(Q:VH)(hx:Ry kind h Q):FW SS 57 [(.int .i64 kind)] h Q:=ay(M:=St)(c:=AP)Tryz.func57(show Tryz.f57.body=some AP by kernel_rfl)(by kernel_rfl)(aj hx(by kernel_rfl))
noncomputable def lP:Code:=(Tryz.f102.body).getD .skip
def BX:List Nat:=[]
abbrev Cv(l:LB)(h:Heap)(Q:VH):Prop:=FW SS 97 [(aa l)] h fun v1 h2=>yB v1 fun b3=>ax b3(FW SS 125 [(aa l),(aa [48])] h2 fun v4 h5=>yI .i64 v4 fun n6=>Q(.bool(decide((n6:Int) > 0)))h5)(Q(.bool false)h2)
theorem AT(l:LB)(h:Heap)(Q:VH)(hx:Cv l h Q):FW SS 102 [(aa l)] h Q:=ay(M:=BX)(c:=lP)Tryz.func102(show Tryz.f102.body=some lP by kernel_rfl)(by kernel_rfl)(aj hx(by kernel_rfl))
noncomputable def pH:Code:=(Tryz.f34.body).getD .skip
def GW:List Nat:=[]
abbrev Io(kind:Int)(l:LB)(h:Heap)(Q:VH):Prop:=FW SS 57 [(.int .i64 kind)] h fun v1 h2=>∃ cs3:LV,∃ b4:Bool,v1=(.tuple⟨[(.agg⟨cs3⟩),(.bool b4)]⟩)/\xN(bj SS.P 68)h2 fun B5 g6=>xU(am SS.P 68(pA(h2.next))(.agg⟨cs3⟩)g6)g6 fun u7 g8=>ax b4(xP(ah SS.P 68(pA(h2.next))7)fun p9=>xF(ai SS.P 66 g8(.pointer(some p9)))fun g10 a11 c12=>ax(Nat.blt g10 YB)(FW SS g10(a11 ++ [(aa l)] ++ c12)g8 fun v13 h14=>yB v13 fun b15=>Q(.bool b15)h14)False)(Q(.bool false)g8)
theorem FT(kind:Int)(l:LB)(h:Heap)(Q:VH)(hx:Io kind l h Q):FW SS 34 [(.int .i64 kind),(aa l)] h Q:=ay(M:=GW)(c:=pH)Tryz.func34(show Tryz.f34.body=some pH by kernel_rfl)(by kernel_rfl)(aj hx(by kernel_rfl))
noncomputable def qS:Code:=(Tryz.f36.body).getD .skip
def I4:List Nat:=[]
abbrev JT(kind:Int)(h:Heap)(Q:VH):Prop:=ax(decide((kind:Int)>=1))(Q(.bool(decide((kind:Int)<=3)))h)(Q(.bool false)h)
theorem wD(kind:Int)(h:Heap)(Q:VH)(hx:JT kind h Q):FW SS 36 [(.int .i64 kind)] h Q:=ay(M:=I4)(c:=qS)Tryz.func36(show Tryz.f36.body=some qS by kernel_rfl)(by kernel_rfl)(aj hx(by kernel_rfl))
noncomputable def oX:Code:=(Tryz.f58.body).getD .skip
def Ga:List Nat:=[]
abbrev H6(kind:Int)(l:LB)(h:Heap)(Q:VH):Prop:=FW SS 36 [(.int .i64 kind)] h fun v1 h2=>yB v1 fun b3=>ax(!b3)(Q(.bool false)h2)(ax((l:LB) == [105,110,102])(ax((l:LB) == [105,110,102])(Q(.bool true)h2)(Q(.bool(((kind:Int) == 1)))h2))(ax((l:LB) == [45,105,110,102])(ax((l:LB) == [105,110,102])(Q(.bool true)h2)(Q(.bool(((kind:Int) == 1)))h2))(FW SS 76 [(aa l)] h2 fun v4 h5=>yB v4 fun b6=>ax b6(ax(((kind:Int) == 1))(Q(.bool true)h5)(FW SS 77 [(aa l),(aa [48])] h5 fun v7 h8=>yI .i64 v7 fun n9=>Q(.bool(decide((n9:Int)>=0)))h8))(Q(.bool false)h5))))
theorem ES(kind:Int)(l:LB)(h:Heap)(Q:VH)(hx:H6 kind l h Q):FW SS 58 [(.int .i64 kind),(aa l)] h Q:=ay(M:=Ga)(c:=oX)Tryz.func58(show Tryz.f58.body=some oX by kernel_rfl)(by kernel_rfl)(aj hx(by kernel_rfl))
noncomputable def nK:Code:=(Tryz.f37.body).getD .skip
def D8:List Nat:=[]
abbrev Ec(kind:Int)(l:LB)(h:Heap)(Q:VH):Prop:=FW SS 58 [(.int .i64 kind),(aa l)] h fun v1 h2=>yB v1 fun b3=>ax b3(ax(!((l:LB) == [105,110,102]))(ax(!((l:LB) == [45,105,110,102]))(ax(((kind:Int) == 1))(Q(.bool true)h2)(Q(.bool(!((l:LB) == [48])))h2))(Q(.bool false)h2))(Q(.bool false)h2))(Q(.bool false)h2)
theorem Cn(kind:Int)(l:LB)(h:Heap)(Q:VH)(hx:Ec kind l h Q):FW SS 37 [(.int .i64 kind),(aa l)] h Q:=ay(M:=D8)(c:=nK)Tryz.func37(show Tryz.f37.body=some nK by kernel_rfl)(by kernel_rfl)(aj hx(by kernel_rfl))
end Go.Proofs.YtoabjjimjldcfaaGreatDoor
end
section
namespace Go.Num
theorem isRat_inf:isRat [105,110,102]=false:=by rfl
theorem isRat_below:isRat [45,105,110,102]=false:=by rfl
theorem JM:isRat [48]=true:=by decide
theorem cmpRat_zero {a:List UInt8}(h:isRat a=true):cmpRat a [48]=0↔a=[48]:=by
 constructor
 · intro e
  unfold cmpRat at e
  rw [if_pos⟨h,JM⟩] at e
  have r:=isRat_iff.1 h
  have e1:val(denOf [48])=1:=by decide
  have e2:val(numOf [48])=0:=by decide
  rw [e1,e2,Nat.mul_one,Nat.zero_mul,show isNeg [48]=false from rfl,Bool.not_false] at e
  have hz:val(numOf a)=0:=by
   unfold plusS at e
   by_cases hn:isNeg a=true
   · rw [if_pos hn] at e
    dsimp af at e
    rw [Nat.add_zero] at e
    by_cases h0:val(numOf a)=0
    · exact h0
    · rw [if_neg h0,if_pos hn] at e; exact absurd e(by decide)
   · rw [if_neg hn,if_neg(Nat.not_lt_zero _)] at e
    dsimp af at e
    rw [Nat.sub_zero] at e
    by_cases h0:val(numOf a)=0
    · exact h0
    · rw [if_neg h0,if_neg hn] at e; exact absurd e(by decide)
  have hn:=(jI r.num).2 hz
  have hneg:isNeg a=false:=by
   cases g:isNeg a with
   | false=>rfl
   | true=>exact absurd⟨g,hn⟩r.neg
  have hd:denOf a=[49]:=by
   refine(DE r.den).2 ?_
   have:=r.one
   rw [hz,Nat.gcd_zero_left] at this
   exact this
  have hs:hasStroke a=false:=by
   cases g:hasStroke a with
   | false=>rfl
   | true=>exact absurd⟨g,.inr hd⟩r.fr
  have ha:afterNeg a=a:=by unfold afterNeg; rw [hneg]; rfl
  unfold numOf at hn
  unfold hasStroke at hs
  rw [ha] at hn hs
  rw [List.take_of_length_le(by have:=of_decide_eq_false hs; omega)] at hn
  exact hn
 · rintro rfl; decide
def weightOk(kind:Int)(a:List UInt8):Bool:=decide(1<=kind/\kind<=3) && isRat a && (kind == 1 || decide(0 < cmpRat a [48]))
end Go.Num
end
section
set_option linter.unusedVariables false
set_option maxRecDepth 100000
namespace Go.Proofs.YtoabjjimjldcfaaGreatDoor
open Go Go.Ab
theorem qk {P:Program}{t:TypeId}{n:Nat}(hs:au P t=some n){h:Heap}{k:Nat}{cs0:List Value}(hl:cs0.length=n)(hk:h.get k=some(.cells cs0 t 0 true)){cs:List Value}(hc:cs.length=n)(hv:cs.all bN=true):am P t(.pointer(some⟨k,0,none⟩))(.agg⟨cs⟩)h=some(undef,.set k(.cells cs t 0 true)):=by
 unfold am
 dsimp af
 have e1:(Value.agg⟨cs⟩).cells.size=n:=by show cs.toArray.size=n; simpa using hc
 have e2:(Value.agg⟨cs⟩).cells.toList=cs:=rfl
 rw [if_pos(by rw [e1,hs])]
 unfold storeAt
 rw [hk,e2]; dsimp af
 rw [if_pos⟨by omega,hv⟩,List.drop_eq_nil_of_le(by omega)]
 simp
theorem rr {h0 h:Heap}(w:Wf h0)(o:Ok h0 h){k:Nat}{t:TypeId}{cs0 cs:List Value}(hk:h.get k=some(.cells cs0 t 0 true))(hn:h0.next<=k):Ok h0((Upd.set k(.cells cs t 0 true)).app h)/\((Upd.set k(.cells cs t 0 true)).app h).get k=some(.cells cs t 0 true):=by
 refine⟨o.set _ hn(o.wf _ _ hk)w,?_⟩
 show(h.set k _).get k=_
 rw [Heap.get_set,if_pos rfl]
theorem aZ(h:Heap)(B:Blk):(h.push B).get h.next=some B:=by rw [Heap.get_push,if_pos rfl]
def BJ(i:Nat):Value:= .func(.func i)⟨[]⟩⟨[]⟩
def iH:List Value:=[aa [],aa [],.bool false,.nilFunc,.nilFunc,.nilFunc,.nilFunc,.nilFunc]
def zS:List Value:=[aa [105,110,102],aa [48],.bool true,BJ 94,BJ 95,BJ 96,BJ 97,BJ 97]
def z6:List Value:=[aa [48],aa [49],.bool false,BJ 98,BJ 99,BJ 100,BJ 101,BJ 102]
def A8:List Value:=[aa [48],aa [49],.bool false,BJ 94,BJ 99,BJ 103,BJ 101,BJ 102]
def wa:List Value:=iH ++ zS ++ z6 ++ A8
def XC:Blk:= .cells(iH ++ iH ++ iH ++ iH)85 0 true
def Ro:Blk:= .cells iH 68 0 true
theorem X7:bj SS.P 85=some(XC,ks):=by kernel_rfl
theorem Vc:bj SS.P 68=some(Ro,ks):=by kernel_rfl
theorem TU : au SS.P 85=some 32:=by kernel_rfl
theorem Kp : au SS.P 68=some 8:=by kernel_rfl
theorem Yp:Go.Ab.isAgg SS.P 85=true:=by kernel_rfl
theorem YI:Go.Ab.isAgg SS.P 68=true:=by kernel_rfl
noncomputable def V7:TypeDesc:=(SS.P.underlying 85).getD .bool
theorem X3:SS.P.underlying 85=some V7:=by kernel_rfl
noncomputable def XA:TypeDesc:=(SS.P.underlying 68).getD .bool
theorem Yh:SS.P.underlying 68=some XA:=by kernel_rfl
noncomputable def W1:TypeDesc:=(SS.P.underlying 66).getD .bool
theorem Yl:SS.P.underlying 66=some W1:=by kernel_rfl
theorem XN:Go.Ab.isAgg SS.P 66=false:=by kernel_rfl
theorem Um:bE SS.P 68 [(0,(aa [105,110,102])),(1,(aa [48])),(2,(.bool true)),(3,(.func(.func 94)⟨[]⟩⟨[]⟩)),(4,(.func(.func 95)⟨[]⟩⟨[]⟩)),(5,(.func(.func 96)⟨[]⟩⟨[]⟩)),(6,(.func(.func 97)⟨[]⟩⟨[]⟩)),(7,(.func(.func 97)⟨[]⟩⟨[]⟩))]=some(.agg⟨zS⟩):=by kernel_rfl
theorem UD:bE SS.P 68 [(0,(aa [48])),(1,(aa [49])),(2,(.bool false)),(3,(.func(.func 98)⟨[]⟩⟨[]⟩)),(4,(.func(.func 99)⟨[]⟩⟨[]⟩)),(5,(.func(.func 100)⟨[]⟩⟨[]⟩)),(6,(.func(.func 101)⟨[]⟩⟨[]⟩)),(7,(.func(.func 102)⟨[]⟩⟨[]⟩))]=some(.agg⟨z6⟩):=by kernel_rfl
theorem Uk:bE SS.P 68 [(0,(aa [48])),(1,(aa [49])),(2,(.bool false)),(3,(.func(.func 94)⟨[]⟩⟨[]⟩)),(4,(.func(.func 99)⟨[]⟩⟨[]⟩)),(5,(.func(.func 103)⟨[]⟩⟨[]⟩)),(6,(.func(.func 101)⟨[]⟩⟨[]⟩)),(7,(.func(.func 102)⟨[]⟩⟨[]⟩))]=some(.agg⟨A8⟩):=by kernel_rfl
theorem Qh:bE SS.P 68 []=some(.agg⟨iH⟩):=by kernel_rfl
theorem XO:bE SS.P 85 [(1,(.agg⟨zS⟩)),(2,(.agg⟨z6⟩)),(3,(.agg⟨A8⟩))]=some(.agg⟨wa⟩):=by kernel_rfl
theorem GC {h:Heap}(w:Wf h):FW SS 75 [] h(fun v h'=>v = .agg⟨wa⟩/\Ok h h'):=by
 have hk:(h.push XC).get h.next=some(.cells(iH ++ iH ++ iH ++ iH)85 0 true):=aZ h XC
 refine Hz h _⟨_,X7,_,Um,_,UD,_,Uk,_,XO,_,qk TU (by rfl)hk(cs:=wa)(by rfl)(by rfl),?_⟩
 obtain⟨o,g⟩:=rr(cs:=wa)w((Ok.refl w).push XC)hk(Nat.le_refl _)
 refine Ov(v:= .agg⟨wa⟩)(C1 X3 Yp TU g(by simp [wa,iH,zS,z6,A8])) ?_
 exact⟨rfl,o⟩
def UC(kind:Int):Value:=if kind=1 then .tuple⟨[.agg⟨zS⟩,.bool true]⟩else if kind=2 then .tuple⟨[.agg⟨z6⟩,.bool true]⟩else if kind=3 then .tuple⟨[.agg⟨A8⟩,.bool true]⟩else .tuple⟨[.agg⟨iH⟩,.bool false]⟩
theorem Ah {h0:Heap}(w:Wf h0){g:Heap}(o:Ok h0 g){k:Nat}{cs0:List Value}(hl:cs0.length=8)(hk:g.get k=some(.cells cs0 68 0 true))(hn:h0.next<=k){cs:List Value}(hc:cs.length=8)(hv:cs.all bN=true)(okb:Bool){Q:VH}(hq:∀ g',Ok h0 g'->Q(.tuple⟨[.agg⟨cs⟩,.bool okb]⟩)g') :
  ∃ u:Upd,am SS.P 68(.pointer(some⟨k,0,none⟩))(.agg⟨cs⟩)g=some(undef,u)/\jh SS [(.pointer(some⟨k,0,none⟩),some 68),(.bool okb,none)] (u.app g)Q:=by
 refine⟨_,qk Kp hl hk hc hv,?_⟩
 obtain⟨o,g⟩:=rr(cs:=cs)w o hk hn
 refine Hm(v:= .agg⟨cs⟩)(by rw [C1 Yh YI Kp g(by omega),List.drop_zero,List.take_of_length_le(by omega)]) ?_
 exact hq _ o
theorem P0(kind:Int){h:Heap}(w:Wf h):FW SS 57 [.int .i64 kind] h(fun v h'=>v=UC kind/\Ok h h'):=by
 have o0:=(Ok.refl w).push Ro
 have k0:=aZ h Ro
 refine O7 kind h _⟨_,Vc,ae(fun g=>?_)(fun g=>ae(fun g2=>?_)(fun g2=>?_))⟩
 · have g:=of_decide_eq_true g
  refine⟨_,Qh,Ah w o0 rfl k0(Nat.le_refl _)rfl rfl false(fun _ o =>⟨?_,o⟩)⟩
  unfold UC; rw [if_neg(by omega),if_neg(by omega),if_neg(by omega)]
 · have g2:=of_decide_eq_true g2
  refine⟨_,Qh,Ah w o0 rfl k0(Nat.le_refl _)rfl rfl false(fun _ o =>⟨?_,o⟩)⟩
  unfold UC; rw [if_neg(by omega),if_neg(by omega),if_neg(by omega)]
 · have g:=of_decide_eq_false g
  have g2:=of_decide_eq_false g2
  refine(GC o0.wf).mono ?_
  rintro _ h1⟨rfl,o1⟩
  have k1:=o1.ext _ _ k0
  have ok:=o0.trans o1
  obtain rfl | rfl | rfl:kind=1\/kind=2\/kind=3:=by omega
  · exact⟨_,rfl,zS,by kernel_rfl,Ah w ok rfl k1(Nat.le_refl _)rfl rfl true(fun _ o =>⟨rfl,o⟩)⟩
  · exact⟨_,rfl,z6,by kernel_rfl,Ah w ok rfl k1(Nat.le_refl _)rfl rfl true(fun _ o =>⟨rfl,o⟩)⟩
  · exact⟨_,rfl,A8,by kernel_rfl,Ah w ok rfl k1(Nat.le_refl _)rfl rfl true(fun _ o =>⟨rfl,o⟩)⟩
theorem pg(l:List UInt8)(hl:l.length<=1000000000){h:Heap}(tb:Tab h)(w:Wf h):FW SS 102 [aa l] h(fun v h'=>v = .bool(Num.isRat l && decide(0 < Num.cmpRat l [48]))/\Ok h h'):=by
 refine AT l h _((xa l hl tb w).mono ?_)
 rintro _ h1⟨rfl,o1⟩
 refine⟨_,rfl,ae(fun g=>?_)(fun g=>?_)⟩
 · refine(NE l [48] hl(by simp)(tb.ok o1)o1.wf).mono ?_
  rintro _ h2⟨rfl,o2⟩
  refine⟨_,rfl,?_,o1.trans o2⟩
  rw [g,Bool.true_and]
 · refine⟨?_,o1⟩
  rw [g,Bool.false_and]
theorem V1 {b:Bool}{A B:Prop}(hb:b=true)(a:A):ax b A B:=ae(fun _=>a)(fun e=>by rw [hb] at e; cases e)
theorem C9 {f:Nat}{args:List Value}{h:Heap}{K:VH}(hf:Nat.blt f YB=true)(hx:FW SS f args h fun v h'=>∃ b:Bool,v = .bool b/\K(.bool b)h'):ax(Nat.blt f YB)(FW SS f([] ++ args ++ [])h fun v h'=>∃ b:Bool,v = .bool b/\K(.bool b)h')False:=
 V1 hf(by rw [List.nil_append,List.append_nil]; exact hx)
theorem mV(kind:Int)(l:List UInt8)(hl:l.length<=1000000000){h:Heap}(tb:Tab h)(w:Wf h):FW SS 34 [.int .i64 kind,aa l] h(fun v h'=>v = .bool(Num.weightOk kind l)/\Ok h h'):=by
 refine FT kind l h _((P0 kind w).mono ?_)
 rintro _ h1⟨rfl,o1⟩
 have key:∀ (cs:List Value)(f:Nat),cs.length=8->cs.all bN=true->cs.getD 7 undef=BJ f->Nat.blt f YB=true->(∀ g,Ok h g->FW SS f [aa l] g(fun v h'=>v = .bool(Num.weightOk kind l)/\Ok g h'))->UC kind = .tuple⟨[.agg⟨cs⟩,.bool true]⟩->∃ cs3:List Value,∃ b4:Bool,UC kind=(.tuple⟨[(.agg⟨cs3⟩),(.bool b4)]⟩)/\∃ B5:Blk,bj SS.P 68=some(B5,ks)/\∃ u6:Upd,am SS.P 68(.pointer(some⟨h1.next,0,none⟩))(.agg⟨cs3⟩)(h1.push B5)=some(undef,u6)/\ax b4(∃ p7:Addr,ah SS.P 68(.pointer(some⟨h1.next,0,none⟩))7=some(.pointer(some p7))/\∃ (g8:Nat)(a9 c10:List Value),ai SS.P 66(u6.app(h1.push B5))(.pointer(some p7))=some(.func(.func g8)⟨a9⟩⟨c10⟩)/\ax(Nat.blt g8 YB)(FW SS g8(a9 ++ [(aa l)] ++ c10)(u6.app(h1.push B5))fun v11 h12=>∃ b13:Bool,v11=(.bool b13)/\(Value.bool b13 = .bool(Num.weightOk kind l)/\Ok h h12))False)(Value.bool false = .bool(Num.weightOk kind l)/\Ok h(u6.app(h1.push B5))):=by
  intro cs f hc hv hf hY hw e
  refine⟨_,_,e,_,Vc,_,qk Kp rfl(aZ h1 Ro)hc hv,ae(fun _=>?_)(fun g=>by cases g)⟩
  obtain⟨o,g⟩:=rr(cs:=cs)o1.wf((Ok.refl o1.wf).push Ro)(aZ h1 Ro)(Nat.le_refl _)
  have hld:=ey Yl XN g(i:=7)(by omega)
  rw [hf] at hld
  refine⟨⟨h1.next,7,none⟩,by kernel_rfl,f,[],[],hld,?_⟩
  refine C9(K:=fun v h12=>v = .bool(Num.weightOk kind l)/\Ok h h12)hY((hw _(o1.trans o)).mono ?_)
  rintro _ h2⟨rfl,o2⟩
  exact⟨_,rfl,rfl,(o1.trans o).trans o2⟩
 by_cases g1:kind=1
 · subst g1
  refine key zS 97 rfl rfl rfl(by decide +kernel)(fun g o=>?_)rfl
  refine(xa l hl(tb.ok o)o.wf).mono ?_
  rintro _ h2⟨rfl,o2⟩
  refine⟨?_,o2⟩
  unfold Num.weightOk; simp
 by_cases g2:kind=2
 · subst g2
  refine key z6 102 rfl rfl rfl(by decide +kernel)(fun g o=>?_)rfl
  refine(pg l hl(tb.ok o)o.wf).mono ?_
  rintro _ h2⟨rfl,o2⟩
  refine⟨?_,o2⟩
  unfold Num.weightOk; simp
 by_cases g3:kind=3
 · subst g3
  refine key A8 102 rfl rfl rfl(by decide +kernel)(fun g o=>?_)rfl
  refine(pg l hl(tb.ok o)o.wf).mono ?_
  rintro _ h2⟨rfl,o2⟩
  refine⟨?_,o2⟩
  unfold Num.weightOk; simp
 · have e:UC kind = .tuple⟨[.agg⟨iH⟩,.bool false]⟩:=by unfold UC; rw [if_neg g1,if_neg g2,if_neg g3]
  refine⟨_,_,e,_,Vc,_,qk Kp rfl(aZ h1 Ro)(cs:=iH)rfl rfl,ae(fun g=>by cases g)(fun _=>?_)⟩
  obtain⟨o,g⟩:=rr(cs:=iH)o1.wf((Ok.refl o1.wf).push Ro)(aZ h1 Ro)(Nat.le_refl _)
  refine⟨?_,o1.trans o⟩
  unfold Num.weightOk
  rw [decide_eq_false(by omega)]; rfl
theorem E0(kind:Int)(l:List UInt8)(hl:l.length<=1000000000){h:Heap}(w:Wf h):FW SS 58 [.int .i64 kind,aa l] h(fun v h'=>v = .bool(decide(1<=kind/\kind<=3) && (l == [105,110,102] || l == [45,105,110,102] && kind == 1 || Num.isRat l && (kind == 1 || decide(0<=Num.cmpRat l [48]))))/\Ok h h'):=by
 have hk:FW SS 36 [.int .i64 kind] h(fun v h'=>v = .bool(decide(1<=kind/\kind<=3))/\h' = h):=by
  refine wD kind h _(ae(fun g =>⟨?_,rfl⟩)(fun g =>⟨?_,rfl⟩))
  · have g:=of_decide_eq_true g
   congr 1; exact decide_eq_decide.2⟨fun c =>⟨g,c⟩,fun c=>c.2⟩
  · have g:=of_decide_eq_false g
   rw [decide_eq_false(by omega)]
 refine ES kind l h _(hk.mono ?_)
 rintro _ g0⟨rfl,e0⟩
 obtain rfl:h=g0:=e0.symm
 refine⟨_,rfl,ae(fun g =>⟨?_,Ok.refl w⟩)(fun g=>?_)⟩
 · rw [Bool.not_eq_true'] at g; rw [g]; rfl
 rw [Bool.not_eq_false'] at g
 rw [g,Bool.true_and]
 refine ae(fun g1=>ae(fun _ =>⟨?_,Ok.refl w⟩)(fun g2=>by rw [g1] at g2; cases g2))(fun g1=>ae(fun g2=>ae(fun g3=>by rw [g1] at g3; cases g3)(fun _ =>⟨?_,Ok.refl w⟩))(fun g2=>?_))
 · rw [g1]; rfl
 · rw [g1,g2]
  rw [show l=[45,105,110,102] by simpa using g2,Num.isRat_below]; simp
 · rw [g1,g2]
  refine(Fo l hl w).mono ?_
  rintro _ h1⟨rfl,o1⟩
  refine⟨_,rfl,ae(fun g3=>ae(fun g4 =>⟨?_,o1⟩)(fun g4=>?_))(fun g3 =>⟨?_,o1⟩)⟩
  · rw [g3,g4]; rfl
  · refine(II l [48] hl(by simp)o1.wf).mono ?_
   rintro _ h2⟨rfl,o2⟩
   refine⟨_,rfl,?_,o1.trans o2⟩
   rw [g3,g4]; simp
  · rw [g3]; rfl
theorem li(kind:Int)(l:List UInt8)(hl:l.length<=1000000000){h:Heap}(w:Wf h):FW SS 37 [.int .i64 kind,aa l] h(fun v h'=>v = .bool(Num.weightOk kind l)/\Ok h h'):=by
 refine Cn kind l h _((E0 kind l hl w).mono ?_)
 rintro _ h1⟨rfl,o1⟩
 have e1:(l == [105,110,102])=true->Num.isRat l=false:=fun e=>by rw [show l=[105,110,102] by simpa using e]; exact Num.isRat_inf
 have e2:(l == [45,105,110,102])=true->Num.isRat l=false:=fun e=>by rw [show l=[45,105,110,102] by simpa using e]; exact Num.isRat_below
 unfold Num.weightOk
 generalize decide(1<=kind/\kind<=3)=K
 refine⟨_,rfl,ae(fun g=>?_)(fun g =>⟨?_,o1⟩)⟩
 · refine ae(fun g1=>ae(fun g2=>?_)(fun g2 =>⟨?_,o1⟩))(fun g1 =>⟨?_,o1⟩)
  · have g1:(l == [105,110,102])=false:=by simpa using g1
   have g2:(l == [45,105,110,102])=false:=by simpa using g2
   rw [g1,g2] at g
   simp af [Bool.false_or,Bool.false_and,Bool.and_eq_true] at g
   obtain⟨q1,q2,q3⟩:=g
   rw [q1,q2]
   refine ae(fun g3 =>⟨?_,o1⟩)(fun g3 =>⟨?_,o1⟩)
   · rw [g3]; rfl
   · rw [g3] at q3 ⊢
    simp af [Bool.false_or,decide_eq_true_eq] at q3
    have:=Num.cmpRat_zero q2
    congr 1
    by_cases h0:l=[48]
    · have h1:=this.2 h0
     rw [h1,h0]; rfl
    · have h1 : ¬ Num.cmpRat l [48]=0:=fun c=>h0(this.1 c)
     rw [decide_eq_true(by omega:0 < Num.cmpRat l [48])]
     simpa using h0
  · rw [e2(by simpa using g2)]; simp
  · rw [e1(by simpa using g1)]; simp
 · congr 1
  cases K with
  | false=>rfl
  | true =>
   rw [Bool.true_and] at g ⊢
   simp af [Bool.or_eq_false_iff,Bool.and_eq_false_iff] at g
   obtain⟨⟨q1,q2⟩,q3⟩:=g
   rcases q3 with q3 |⟨q3,q4⟩
   · rw [q3]; rfl
   · have q4:=of_decide_eq_false q4
    rw [q3,decide_eq_false(by omega)]; simp
end Go.Proofs.YtoabjjimjldcfaaGreatDoor
end
section
namespace Go.Ab
open Go
def BF:Value:= .slice(some⟨0,0,some 0⟩)0 0
def RdN(h:Heap)(e:TypeId)(sz:Nat)(v:Value)(rs:List(List Value)):Prop:=
 (∀ r∈rs,r.length=sz)/\(((v = .slice none 0 0\/v=BF)/\rs=[])\/∃ k off cs e' z c wr,v = .slice(some⟨k,off,none⟩)rs.length c/\h.get k=some(.cells cs e' z wr)/\off + rs.length * sz<=cs.length/\∀ (i:Nat)(r:List Value),rs[i]? = some r->(cs.drop(off + i * sz)).take sz=r)
theorem RdN.ok {h h' : Heap}{e:TypeId}{sz:Nat}{v:Value}{rs:List(List Value)}(r:RdN h e sz v rs)(o:Ok h h'):RdN h' e sz v rs:=by
 obtain⟨r1,r |⟨k,off,cs,e',z,c,wr,h1,h2,h3,h4⟩⟩:=r
 · exact⟨r1,.inl r⟩
 · exact⟨r1,.inr⟨k,off,cs,e',z,c,wr,h1,o.ext _ _ h2,h3,h4⟩⟩
theorem RdN.len {h:Heap}{e:TypeId}{sz:Nat}{a:Option Addr}{n c:Nat}{rs:List(List Value)}(r:RdN h e sz(.slice a n c)rs):n=rs.length:=by
 obtain⟨_,⟨h1 | h1,rfl⟩|⟨k,off,cs,e',z,c,wr,h1,h2,h3,h4⟩⟩:=r
 · injection h1
 · unfold BF at h1; injection h1
 · injection h1
theorem RdN.slc {h:Heap}{e:TypeId}{sz:Nat}{v:Value}{rs:List(List Value)}(r:RdN h e sz v rs):∃ (a:Option Addr)(c:Nat),v = .slice a rs.length c:=by
 obtain⟨_,⟨h1 | h1,rfl⟩|⟨k,off,cs,e',z,c,wr,h1,h2,h3,h4⟩⟩:=r
 · exact⟨_,_,h1⟩
 · exact⟨_,_,h1⟩
 · exact⟨_,_,h1⟩
theorem RdN.at_ {P:Program}{t e:TypeId}{d:TypeDesc}{sz:Nat}(hU:P.underlying t=some(.slice e))(hs:au P e=some sz)(hd:P.underlying e=some d)(hg:isAgg P e=true){h:Heap}{v:Value}{rs:List(List Value)}(r:RdN h e sz v rs){ik:IntKind}{i:Int}(h0:0<=i)(h1:i < rs.length) :
  ∃ (k o:Nat),ag P t v(.int ik i)=some(.pointer(some⟨k,o,none⟩))/\ai P e h(.pointer(some⟨k,o,none⟩))=some(.agg⟨rs.getD i.toNat []⟩)/\
   ∀ (t' : TypeId)(d' : TypeDesc)(j:Nat),P.underlying t' = some d'->isAgg P t' = false->j < sz->ai P t' h(.pointer(some⟨k,o + j,none⟩))=some((rs.getD i.toNat []).getD j undef):=by
 obtain⟨hl,⟨_,rfl⟩|⟨b,off,cs,e',z,c,wr,rfl,h3,h4,h5⟩⟩:=r
 · simp at h1; omega
 · have hi:i.toNat < rs.length:=by omega
  have h6:rs[i.toNat]? = some(rs.getD i.toNat []):=by rw [List.getD_eq_getElem?_getD,List.getElem?_eq_getElem hi]; rfl
  have h7:=h5 _ _ h6
  have h9:(i.toNat + 1) * sz<=rs.length * sz:=Nat.mul_le_mul_right _ hi
  rw [Nat.add_mul,Nat.one_mul] at h9
  obtain⟨q,hq⟩: ∃ q,q=i.toNat * sz :=⟨_,rfl⟩
  rw [<- hq] at h7 h9
  refine⟨b,off + q,?_,?_,fun t' d' j hU' ha' hj=>?_⟩
  · have:=Rh(P:=P)hU hs(k:=b)(off:=off)(n:=rs.length)(c:=c)(ik:=ik)h0 h1
   rw [this,hq]
  · rw [C1 hd hg hs h3(by omega),h7]
  · rw [ey hU' ha' h3(by omega),<- h7,List.getD_eq_getElem?_getD,List.getD_eq_getElem?_getD,List.getElem?_take,if_pos hj,List.getElem?_drop]
end Go.Ab
end
section
set_option linter.unusedVariables false
set_option maxRecDepth 100000
namespace Go.Proofs.YtoabjjimjldcfaaGreatDoor
open Go Go.Ab
structure MArc where
 i:Int
 o:Int
 w:List UInt8
 t:Int
structure MSt where
 f:List UInt8
 arcs:List MArc
structure Mach where
 kind:Int
 start:Int
 lead:List UInt8
 states:List MSt
def lG(a:MArc):List Value:=[.int .i64 a.i,.int .i64 a.o,aa a.w,.int .i64 a.t]
def ArcRow(h:Heap)(v:Value)(l:List MArc):Prop:=RdN h 39 4 v(l.map lG)
def NU(p:MSt × Value):List Value:=[aa p.1.f,p.2]
def StRow(h:Heap)(v:Value)(l:List MSt):Prop:= ∃ ps:List(MSt × Value),ps.map(·.1)=l/\RdN h 37 2 v(ps.map NU)/\(∀ p∈ps,ArcRow h p.2 p.1.arcs)/\v≠BF
theorem StRow.ok {h h' : Heap}{v:Value}{l:List MSt}(r:StRow h v l)(o:Ok h h'):StRow h' v l:=by
 obtain⟨ps,h1,h2,h3,h4⟩:=r
 exact⟨ps,h1,h2.ok o,fun p hp=>RdN.ok(h3 p hp)o,h4⟩
theorem StRow.len {h:Heap}{a:Option Addr}{n c:Nat}{l:List MSt}(r:StRow h(.slice a n c)l):n=l.length:=by
 obtain⟨ps,h1,h2,h3,_⟩:=r
 rw [h2.len,List.length_map,<- h1,List.length_map]
theorem Xv:SS.P.underlying 22=some(.slice 37):=by kernel_rfl
theorem UF:SS.P.underlying 35=some(.slice 39):=by kernel_rfl
theorem TK : au SS.P 37=some 2:=by kernel_rfl
theorem Ow : au SS.P 39=some 4:=by kernel_rfl
theorem W9 : au SS.P 24=some 4:=by kernel_rfl
theorem YH:Go.Ab.isAgg SS.P 37=true:=by kernel_rfl
theorem WY:Go.Ab.isAgg SS.P 39=true:=by kernel_rfl
theorem YA:Go.Ab.isAgg SS.P 24=true:=by kernel_rfl
theorem YC:Go.Ab.isAgg SS.P 22=false:=by kernel_rfl
theorem Wk:Go.Ab.isAgg SS.P 35=false:=by kernel_rfl
noncomputable def Xt:TypeDesc:=(SS.P.underlying 37).getD .bool
theorem Yo:SS.P.underlying 37=some Xt:=by kernel_rfl
noncomputable def Xg:TypeDesc:=(SS.P.underlying 39).getD .bool
theorem Xl:SS.P.underlying 39=some Xg:=by kernel_rfl
noncomputable def Xm:TypeDesc:=(SS.P.underlying 24).getD .bool
theorem Yz:SS.P.underlying 24=some Xm:=by kernel_rfl
theorem m6(k:Nat):ah SS.P 24(.pointer(some⟨k,0,none⟩))0=some(.pointer(some⟨k,0,none⟩)):=by kernel_rfl
theorem m9(k:Nat):ah SS.P 24(.pointer(some⟨k,0,none⟩))1=some(.pointer(some⟨k,1,none⟩)):=by kernel_rfl
theorem Iz(k:Nat):ah SS.P 24(.pointer(some⟨k,0,none⟩))2=some(.pointer(some⟨k,2,none⟩)):=by kernel_rfl
theorem aT(k:Nat):ah SS.P 24(.pointer(some⟨k,0,none⟩))3=some(.pointer(some⟨k,3,none⟩)):=by kernel_rfl
theorem rG(k o:Nat):ah SS.P 37(.pointer(some⟨k,o,none⟩))0=some(.pointer(some⟨k,o + 0,none⟩)):=by kernel_rfl
theorem bt(k o:Nat):ah SS.P 37(.pointer(some⟨k,o,none⟩))1=some(.pointer(some⟨k,o + 1,none⟩)):=by kernel_rfl
theorem iF(k o:Nat):ah SS.P 39(.pointer(some⟨k,o,none⟩))0=some(.pointer(some⟨k,o + 0,none⟩)):=by kernel_rfl
theorem mK(k o:Nat):ah SS.P 39(.pointer(some⟨k,o,none⟩))1=some(.pointer(some⟨k,o + 1,none⟩)):=by kernel_rfl
theorem Ji(k o:Nat):ah SS.P 39(.pointer(some⟨k,o,none⟩))2=some(.pointer(some⟨k,o + 2,none⟩)):=by kernel_rfl
theorem my(k o:Nat):ah SS.P 39(.pointer(some⟨k,o,none⟩))3=some(.pointer(some⟨k,o + 3,none⟩)):=by kernel_rfl
structure MB(g:Heap)(k:Nat)(M:Mach)(a:Option Addr)(n c:Nat):Prop where
 box:g.get k=some(.cells [.int .i64 M.kind,.int .i64 M.start,aa M.lead,.slice a n c] 24 0 true)
 row:StRow g(.slice a n c)M.states
section
variable {g g' : Heap}{k:Nat}{M:Mach}{a:Option Addr}{n c:Nat}
theorem MB.ok(m:MB g k M a n c)(o:Ok g g'):MB g' k M a n c :=⟨o.ext _ _ m.box,m.row.ok o⟩
theorem MB.l0(m:MB g k M a n c):ai SS.P 3 g(.pointer(some⟨k,0,none⟩))=some(.int .i64 M.kind):=ey Ld Ko m.box(by simp)
theorem MB.l1(m:MB g k M a n c):ai SS.P 3 g(.pointer(some⟨k,1,none⟩))=some(.int .i64 M.start):=ey Ld Ko m.box(by simp)
theorem MB.l2(m:MB g k M a n c):ai SS.P 9 g(.pointer(some⟨k,2,none⟩))=some(aa M.lead):=ey NW Ud m.box(by simp)
theorem MB.l3(m:MB g k M a n c):ai SS.P 22 g(.pointer(some⟨k,3,none⟩))=some(.slice a n c):=ey Xv YC m.box(by simp)
theorem MB.all(m:MB g k M a n c):ai SS.P 24 g(.pointer(some⟨k,0,none⟩))=some(.agg⟨[.int .i64 M.kind,.int .i64 M.start,aa M.lead,.slice a n c]⟩):=C1 Yz YA W9 m.box(by simp)
theorem MB.len(m:MB g k M a n c):n=M.states.length:=m.row.len
end
theorem StRow.at_ {g:Heap}{a:Option Addr}{n c:Nat}{l:List MSt}(r:StRow g(.slice a n c)l){i:Nat}{s:MSt}(hs:l[i]? = some s) :
  ∃ (b o:Nat)(x:Option Addr)(y z:Nat),ag SS.P 22(.slice a n c)(.int .i64(i:Int))=some(.pointer(some⟨b,o,none⟩))/\ai SS.P 37 g(.pointer(some⟨b,o,none⟩))=some(.agg⟨[aa s.f,.slice x y z]⟩)/\
   ai SS.P 9 g(.pointer(some⟨b,o + 0,none⟩))=some(aa s.f)/\ai SS.P 35 g(.pointer(some⟨b,o + 1,none⟩))=some(.slice x y z)/\ArcRow g(.slice x y z)s.arcs:=by
 obtain⟨ps,h1,h2,h3,_⟩:=r
 rw [<- h1,List.getElem?_map] at hs
 obtain⟨p,hp,rfl⟩:=Option.map_eq_some_iff.1 hs
 have hi:=(List.getElem?_eq_some_iff.1 hp).1
 obtain⟨b,o,e1,e2,e3⟩:=h2.at_ Xv TK Yo YH(ik:= .i64)(i:=(i:Int))(by omega)(by rw [List.length_map]; omega)
 have e4:(ps.map NU).getD(i:Int).toNat []=NU p:=by
  rw [Int.toNat_natCast,List.getD_eq_getElem?_getD,List.getElem?_map,hp]; rfl
 rw [e4] at e2 e3
 have ha:=h3 p(List.mem_of_getElem? hp)
 obtain⟨x,z,hx⟩:=RdN.slc ha
 have e5:=e3 9 _ 0 NW Ud(by omega)
 have e6:=e3 35 _ 1 UF Wk(by omega)
 unfold NU at e2 e5 e6
 rw [hx] at e2 e6 ha
 exact⟨b,o,x,_,z,e1,e2,e5,e6,ha⟩
theorem ArcRow.len {g:Heap}{x:Option Addr}{y z:Nat}{l:List MArc}(r:ArcRow g(.slice x y z)l):y=l.length:=by
 have:=RdN.len r; rwa [List.length_map] at this
theorem ArcRow.ok {h h' : Heap}{v:Value}{l:List MArc}(r:ArcRow h v l)(o:Ok h h'):ArcRow h' v l:=RdN.ok r o
theorem ArcRow.at_ {g:Heap}{x:Option Addr}{y z:Nat}{l:List MArc}(r:ArcRow g(.slice x y z)l){j:Nat}{q:MArc}(hs:l[j]? = some q) :
  ∃ (b o:Nat),ag SS.P 35(.slice x y z)(.int .i64(j:Int))=some(.pointer(some⟨b,o,none⟩))/\ai SS.P 39 g(.pointer(some⟨b,o,none⟩))=some(.agg⟨lG q⟩)/\
   ai SS.P 3 g(.pointer(some⟨b,o + 0,none⟩))=some(.int .i64 q.i)/\ai SS.P 3 g(.pointer(some⟨b,o + 1,none⟩))=some(.int .i64 q.o)/\ai SS.P 9 g(.pointer(some⟨b,o + 2,none⟩))=some(aa q.w)/\ai SS.P 3 g(.pointer(some⟨b,o + 3,none⟩))=some(.int .i64 q.t):=by
 have hj:=(List.getElem?_eq_some_iff.1 hs).1
 obtain⟨b,o,e1,e2,e3⟩:=RdN.at_ UF Ow Xl WY r(ik:= .i64)(i:=(j:Int))(by omega)(by rw [List.length_map]; omega)
 have e4:(l.map lG).getD(j:Int).toNat []=lG q:=by
  rw [Int.toNat_natCast,List.getD_eq_getElem?_getD,List.getElem?_map,hs]; rfl
 rw [e4] at e2 e3
 exact⟨b,o,e1,e2,e3 3 _ 0 Ld Ko(by omega),e3 3 _ 1 Ld Ko(by omega),e3 9 _ 2 NW Ud(by omega),e3 3 _ 3 Ld Ko(by omega)⟩
def SB(g:Heap)(k:Nat)(f:List UInt8)(x:Option Addr)(y z:Nat):Prop:=g.get k=some(.cells [aa f,.slice x y z] 37 0 true)
theorem SB.ok {g g' : Heap}{k:Nat}{f:List UInt8}{x:Option Addr}{y z:Nat}(s:SB g k f x y z)(o:Ok g g'):SB g' k f x y z:=o.ext _ _ s
theorem SB.l0 {g:Heap}{k:Nat}{f:List UInt8}{x:Option Addr}{y z:Nat}(s:SB g k f x y z):ai SS.P 9 g(.pointer(some⟨k,0 + 0,none⟩))=some(aa f):=ey NW Ud s(by simp)
theorem SB.l1 {g:Heap}{k:Nat}{f:List UInt8}{x:Option Addr}{y z:Nat}(s:SB g k f x y z):ai SS.P 35 g(.pointer(some⟨k,0 + 1,none⟩))=some(.slice x y z):=ey UF Wk s(by simp)
def AB(g:Heap)(k:Nat)(q:MArc):Prop:=g.get k=some(.cells(lG q)39 0 true)
theorem AB.ok {g g' : Heap}{k:Nat}{q:MArc}(s:AB g k q)(o:Ok g g'):AB g' k q:=o.ext _ _ s
theorem AB.l0 {g:Heap}{k:Nat}{q:MArc}(s:AB g k q):ai SS.P 3 g(.pointer(some⟨k,0 + 0,none⟩))=some(.int .i64 q.i):=ey Ld Ko s(by simp [lG])
theorem AB.l1 {g:Heap}{k:Nat}{q:MArc}(s:AB g k q):ai SS.P 3 g(.pointer(some⟨k,0 + 1,none⟩))=some(.int .i64 q.o):=ey Ld Ko s(by simp [lG])
theorem AB.l2 {g:Heap}{k:Nat}{q:MArc}(s:AB g k q):ai SS.P 9 g(.pointer(some⟨k,0 + 2,none⟩))=some(aa q.w):=ey NW Ud s(by simp [lG])
theorem AB.l3 {g:Heap}{k:Nat}{q:MArc}(s:AB g k q):ai SS.P 3 g(.pointer(some⟨k,0 + 3,none⟩))=some(.int .i64 q.t):=ey Ld Ko s(by simp [lG])
def Nr:Blk:= .cells [aa [],.slice none 0 0] 37 0 true
theorem M7:bj SS.P 37=some(Nr,ks):=by kernel_rfl
def PF:Blk:= .cells [.int .i64 0,.int .i64 0,aa [],.int .i64 0] 39 0 true
theorem QE:bj SS.P 39=some(PF,ks):=by kernel_rfl
theorem Db {h:Heap}(w:Wf h)(f:List UInt8)(x:Option Addr)(y z:Nat):∃ u:Upd,am SS.P 37(.pointer(some⟨h.next,0,none⟩))(.agg⟨[aa f,.slice x y z]⟩)(h.push Nr)=some(undef,u)/\Ok h(u.app(h.push Nr))/\SB(u.app(h.push Nr))h.next f x y z:=by
 obtain⟨o,e⟩:=rr(cs:=[aa f,.slice x y z])w((Ok.refl w).push Nr)(aZ h Nr)(Nat.le_refl _)
 exact⟨_,qk TK rfl(aZ h Nr)rfl rfl,o,e⟩
theorem Iu {h:Heap}(w:Wf h)(q:MArc):∃ u:Upd,am SS.P 39(.pointer(some⟨h.next,0,none⟩))(.agg⟨lG q⟩)(h.push PF)=some(undef,u)/\Ok h(u.app(h.push PF))/\AB(u.app(h.push PF))h.next q:=by
 obtain⟨o,e⟩:=rr(cs:=lG q)w((Ok.refl w).push PF)(aZ h PF)(Nat.le_refl _)
 exact⟨_,qk Ow rfl(aZ h PF)rfl rfl,o,e⟩
def bw(M:Mach)(a:Option Addr)(n c:Nat):List Value:=[.int .i64 M.kind,.int .i64 M.start,aa M.lead,.slice a n c]
def Bm(M:Mach)(a:Option Addr)(n c:Nat):Blk:= .cells(bw M a n c)24 0 true
theorem fi(M:Mach)(a:Option Addr)(n c:Nat):fp SS.P 24(.agg⟨bw M a n c⟩)=some(Bm M a n c,ks):=by kernel_rfl
theorem cV {h:Heap}(w:Wf h){M:Mach}{a:Option Addr}{n c:Nat}(r:StRow h(.slice a n c)M.states):MB(h.push(Bm M a n c))h.next M a n c/\Ok h(h.push(Bm M a n c)):=
 ⟨⟨aZ h _,r.ok((Ok.refl w).push _)⟩,(Ok.refl w).push _⟩
def px(s:Int):Bool:=decide(0<=s) && decide(s<=500)
def eC(kind:Int)(N:Nat)(a:MArc):Bool:=px a.i && px a.o && decide(0<=a.t) && decide(a.t < N) && Num.weightOk kind a.w
def nL(kind:Int)(N:Nat):Int->List MSt->Bool
 | _,[]=>true
 | acc,s :: r=>decide(acc + s.arcs.length<=30000) && (s.f == [] || Num.weightOk kind s.f) && s.arcs.all(eC kind N) && nL kind N(acc + s.arcs.length)r
def bZ(M:Mach):Bool:=decide(1<=M.kind) && decide(M.kind<=3) && decide(1<=M.states.length) && decide(M.states.length<=3000) && decide(0<=M.start) && decide(M.start < M.states.length) && Num.weightOk M.kind M.lead && nL M.kind M.states.length 0 M.states
def lj(l:List MSt):Nat:=(l.map fun s=>s.arcs.length).sum
structure Small(M:Mach):Prop where
 lead:M.lead.length<=900
 sts:M.states.length<=300
 fin:∀ s∈M.states,s.f.length<=900
 arcs:∀ s∈M.states,s.arcs.length<=2000
 w:∀ s∈M.states,∀ q∈s.arcs,q.w.length<=900
 tot:lj M.states<=2000
end Go.Proofs.YtoabjjimjldcfaaGreatDoor
end
section
set_option linter.unusedVariables false
set_option maxRecDepth 100000
namespace Go.Proofs.YtoabjjimjldcfaaGreatDoor
open Go Go.Ab
noncomputable def wQ:Code:=(Tryz.f35.body).getD .skip
def OK:List Nat:=[]
abbrev Ra(s:Int)(h:Heap)(Q:VH):Prop:=ax(decide((s:Int)>=0))(Q(.bool(decide((s:Int)<=500)))h)(Q(.bool false)h)
theorem Mm(s:Int)(h:Heap)(Q:VH)(hx:Ra s h Q):FW SS 35 [(.int .i64 s)] h Q:=ay(M:=OK)(c:=wQ)Tryz.func35(show Tryz.f35.body=some wQ by kernel_rfl)(by kernel_rfl)(aj hx(by kernel_rfl))
noncomputable def fj:Code:=(Tryz.f10.body).getD .skip
noncomputable def ol(Q:VH):ak:=cF SS Tryz.f10.results.toList Q
def mu:List Nat:=[1,2,3,4,6,48,49,50,75,76,77]
noncomputable def ot(p:List Nat)(w:LV)(h:Heap)(Q:ak):Prop:=bq SS Tryz.f10.ntmps mu(aQ p fj)w h Q
noncomputable def ib(p b:List Nat)(K:ak):ak:=ko SS Tryz.f10.ntmps mu p(aQ b fj)K
abbrev Pg(mv:LV)(h:Heap)(Q:VH):Prop:=xN(fp SS.P 24(.agg⟨mv⟩))h fun B1 g2=>xP(ah SS.P 24(pA(h.next))3)fun p3=>xL(ai SS.P 22 g2(.pointer(some p3)))fun a4 n5 c6=>xP(ah SS.P 24(pA(h.next))0)fun p7=>xI .i64(ai SS.P 3 g2(.pointer(some p7)))fun n8=>ax(decide((n8:Int) < 1))(Q(.bool false)g2)(xP(ah SS.P 24(pA(h.next))0)fun p9=>xI .i64(ai SS.P 3 g2(.pointer(some p9)))fun n10=>ax(decide((n10:Int) > 3))(Q(.bool false)g2)(ax(decide(((n5:Int):Int) < 1))(Q(.bool false)g2)(ax(decide(((n5:Int):Int) > 3000))(Q(.bool false)g2)(xP(ah SS.P 24(pA(h.next))1)fun p11=>xI .i64(ai SS.P 3 g2(.pointer(some p11)))fun n12=>ax(decide((n12:Int) < 0))(Q(.bool false)g2)(xP(ah SS.P 24(pA(h.next))1)fun p13=>xI .i64(ai SS.P 3 g2(.pointer(some p13)))fun n14=>ax(decide((n14:Int)>=(n5:Int)))(Q(.bool false)g2)(xP(ah SS.P 24(pA(h.next))0)fun p15=>xI .i64(ai SS.P 3 g2(.pointer(some p15)))fun n16=>xP(ah SS.P 24(pA(h.next))2)fun p17=>xS(ai SS.P 9 g2(.pointer(some p17)))fun l18=>FW SS 34 [(.int .i64 n16),(aa l18)] g2 fun v19 h20=>yB v19 fun b21=>ax(!b21)(Q(.bool false)h20)(xP(ah SS.P 24(pA(h.next))3)fun p22=>xL(ai SS.P 22 h20(.pointer(some p22)))fun a23 n24 c25=>ot [1,1,1,1,0,1,0,0] [(pA(h.next)),(.bool false),(iA n5),(.int .i64 0),undef,(.slice a23 n24 c25),(iA n24),(.int .i64 0),undef,undef,undef] h20(ib [1,1,1,1,0,1,0] [] (ol Q)))))))))
theorem LI(mv:LV)(h:Heap)(Q:VH)(hx:Pg mv h Q):FW SS 10 [(.agg⟨mv⟩)] h Q:=ay(M:=mu)(c:=fj)Tryz.func10(show Tryz.f10.body=some fj by kernel_rfl)(by kernel_rfl)(aj hx(by kernel_rfl))
abbrev jZ(mv:LV)(k:Nat)(a:OA)(n c:Nat)(i:Nat)(acc:Int)(y6 y75 y76 y77:Value):LV:=[(pA k),(.bool false),(iA n),(.int .i64 acc),y6,(.slice a n c),(iA n),(iA i),y75,y76,y77]
def cS(mv:LV)(k:Nat)(a:OA)(n c:Nat)(Inv:Nat->Nat->Int->Heap->Prop)(mz:Nat)(w:LV)(h:Heap):Prop:= ∃ (i:Nat)(acc:Int)(y6 y75 y76 y77:Value),w=(jZ mv k a n c i acc y6 y75 y76 y77)/\Inv mz i acc h
abbrev A2(mv:LV)(k:Nat)(a:OA)(n c:Nat)(Inv:Nat->Nat->Int->Heap->Prop)(Q:VH)(mz:Nat)(i:Nat)(acc:Int)(y6 y75 y76 y77:Value)(zz:Nat->Value)(h:Heap):Prop:=ax(decide(((i:Int):Int) < (n:Int)))(xP(ag SS.P 22(.slice a n c)(iA i))fun p26=>xA(ai SS.P 37 h(.pointer(some p26)))fun c27=>xN(bj SS.P 37)h fun B28 g29=>xU(am SS.P 37(pA(h.next))(.agg⟨c27⟩)g29)g29 fun u30 g31=>xP(ah SS.P 37(pA(h.next))1)fun p32=>xL(ai SS.P 35 g31(.pointer(some p32)))fun a33 n34 c35=>ax(decide((IntKind.wrap .i64(acc + (n34:Int)):Int) > 30000))(Q(.bool false)g31)(xP(ah SS.P 37(pA(h.next))0)fun p36=>xS(ai SS.P 9 g31(.pointer(some p36)))fun l37=>ax(!((l37:LB) == []))(xP(ah SS.P 24(pA k)0)fun p38=>xI .i64(ai SS.P 3 g31(.pointer(some p38)))fun n39=>xP(ah SS.P 37(pA(h.next))0)fun p40=>xS(ai SS.P 9 g31(.pointer(some p40)))fun l41=>FW SS 34 [(.int .i64 n39),(aa l41)] g31 fun v42 h43=>yB v42 fun b44=>ax(!b44)(Q(.bool false)h43)(xP(ah SS.P 37(pA(h.next))1)fun p45=>xL(ai SS.P 35 h43(.pointer(some p45)))fun a46 n47 c48=>ot [1,1,1,1,0,1,0,0,1,1,0,0,1,1,1,1,0,0] [(pA k),(.bool false),(iA n),(.int .i64(IntKind.wrap .i64(acc + (n34:Int)))),(pA(h.next)),(.slice a n c),(iA n),(iA i),(.slice a46 n47 c48),(iA n47),(.int .i64 0)] h43(ib [1,1,0,0,1,1,1,1,0] [1,1,1,1,0,1,0,0] (aU mu(cS mv k a n c Inv)mz(ib [1,1,1,1,0,1,0] [] (ol Q))))))(xP(ah SS.P 37(pA(h.next))1)fun p49=>xL(ai SS.P 35 g31(.pointer(some p49)))fun a50 n51 c52=>ot [1,1,1,1,0,1,0,0,1,1,0,0,1,1,1,1,0,0] [(pA k),(.bool false),(iA n),(.int .i64(IntKind.wrap .i64(acc + (n34:Int)))),(pA(h.next)),(.slice a n c),(iA n),(iA i),(.slice a50 n51 c52),(iA n51),(.int .i64 0)] g31(ib [1,1,0,0,1,1,1,1,0] [1,1,1,1,0,1,0,0] (aU mu(cS mv k a n c Inv)mz(ib [1,1,1,1,0,1,0] [] (ol Q)))))))(Q(.bool true)h)
theorem sX {mv:LV}{k:Nat}{a:OA}{n c:Nat}{Inv:Nat->Nat->Int->Heap->Prop}{mz:Nat}(mq:Nat){i:Nat}{acc:Int}{y6 y75 y76 y77:Value}{h:Heap}(hm:mq < mz)(hi:Inv mq i acc h):al(cS mv k a n c Inv)mz(jZ mv k a n c i acc y6 y75 y76 y77)h :=⟨mq,hm,i,acc,y6,y75,y76,y77,rfl,hi⟩
theorem uD(mv:LV)(k:Nat)(a:OA)(n c:Nat)(Inv:Nat->Nat->Int->Heap->Prop)(Q:VH)(step:∀ (mz:Nat)(i:Nat)(acc:Int)(y6 y75 y76 y77:Value)(zz:Nat->Value)(h:Heap),Inv mz i acc h->A2 mv k a n c Inv Q mz i acc y6 y75 y76 y77 zz h)(mz:Nat){i:Nat}{acc:Int}{y6 y75 y76 y77:Value}{h:Heap}(hi:Inv mz i acc h):ot [1,1,1,1,0,1,0,0] (jZ mv k a n c i acc y6 y75 y76 y77)h(ib [1,1,1,1,0,1,0] [] (ol Q)):=
 aq(A:=(cS mv k a n c Inv))(show aG Tryz.f10.ntmps(aQ [1,1,1,1,0,1,0,0] fj)=true by kernel_rfl)(fun mz w zz h⟨i,acc,y6,y75,y76,y77,hw,hi⟩=> by subst hw; exact aj(step mz i acc y6 y75 y76 y77 zz h hi)(by kernel_rfl))mz _ h⟨i,acc,y6,y75,y76,y77,rfl,hi⟩(fun zz=>by kernel_rfl)(by kernel_rfl)
abbrev j5(mv:LV)(k:Nat)(a:OA)(n c:Nat)(k2:Nat)(b:OA)(m d:Nat)(i:Nat)(acc:Int)(j:Nat)  : LV:=[(pA k),(.bool false),(iA n),(.int .i64 acc),(pA k2),(.slice a n c),(iA n),(iA i),(.slice b m d),(iA m),(iA j)]
def jr(mv:LV)(k:Nat)(a:OA)(n c:Nat)(k2:Nat)(b:OA)(m d:Nat)(i:Nat)(acc:Int)(Inv2:Nat->Nat->Heap->Prop)(mz2:Nat)(w:LV)(h:Heap):Prop:= ∃ (j:Nat) ,w=(j5 mv k a n c k2 b m d i acc j )/\Inv2 mz2 j h
abbrev AN(mv:LV)(k:Nat)(a:OA)(n c:Nat)(k2:Nat)(b:OA)(m d:Nat)(Inv:Nat->Nat->Int->Heap->Prop)(mz i:Nat)(acc:Int)(Inv2:Nat->Nat->Heap->Prop)(Q:VH)(mz2:Nat)(j:Nat)  (zz:Nat->Value)(h:Heap):Prop:=ax(decide(((j:Int):Int) < (m:Int)))(xP(ag SS.P 35(.slice b m d)(iA j))fun p53=>xA(ai SS.P 39 h(.pointer(some p53)))fun c54=>xN(bj SS.P 39)h fun B55 g56=>xU(am SS.P 39(pA(h.next))(.agg⟨c54⟩)g56)g56 fun u57 g58=>xP(ah SS.P 39(pA(h.next))0)fun p59=>xI .i64(ai SS.P 3 g58(.pointer(some p59)))fun n60=>FW SS 35 [(.int .i64 n60)] g58 fun v61 h62=>yB v61 fun b63=>ax(!b63)(Q(.bool false)h62)(xP(ah SS.P 39(pA(h.next))1)fun p64=>xI .i64(ai SS.P 3 h62(.pointer(some p64)))fun n65=>FW SS 35 [(.int .i64 n65)] h62 fun v66 h67=>yB v66 fun b68=>ax(!b68)(Q(.bool false)h67)(xP(ah SS.P 39(pA(h.next))3)fun p69=>xI .i64(ai SS.P 3 h67(.pointer(some p69)))fun n70=>ax(decide((n70:Int) < 0))(Q(.bool false)h67)(xP(ah SS.P 39(pA(h.next))3)fun p71=>xI .i64(ai SS.P 3 h67(.pointer(some p71)))fun n72=>ax(decide((n72:Int)>=(n:Int)))(Q(.bool false)h67)(xP(ah SS.P 24(pA k)0)fun p73=>xI .i64(ai SS.P 3 h67(.pointer(some p73)))fun n74=>xP(ah SS.P 39(pA(h.next))2)fun p75=>xS(ai SS.P 9 h67(.pointer(some p75)))fun l76=>FW SS 34 [(.int .i64 n74),(aa l76)] h67 fun v77 h78=>yB v77 fun b79=>ax(!b79)(Q(.bool false)h78)(al(jr mv k a n c k2 b m d i acc Inv2)mz2 [(pA k),(.bool false),(iA n),(.int .i64 acc),(pA k2),(.slice a n c),(iA n),(iA i),(.slice b m d),(iA m),(.int .i64(IntKind.wrap .i64((j:Int) + 1)))] h78))))))(al(cS mv k a n c Inv)mz [(pA k),(.bool false),(iA n),(.int .i64 acc),(pA k2),(.slice a n c),(iA n),(.int .i64(IntKind.wrap .i64((i:Int) + 1))),(.slice b m d),(iA m),(iA j)] h)
theorem uI {mv:LV}{k:Nat}{a:OA}{n c:Nat}{k2:Nat}{b:OA}{m d:Nat}{i:Nat}{acc:Int}{Inv2:Nat->Nat->Heap->Prop}{mz2:Nat}(mq:Nat){j:Nat}  {h:Heap}(hm:mq < mz2)(hi:Inv2 mq j h):al(jr mv k a n c k2 b m d i acc Inv2)mz2(j5 mv k a n c k2 b m d i acc j )h :=⟨mq,hm,j,rfl,hi⟩
theorem tO(mv:LV)(k:Nat)(a:OA)(n c:Nat)(k2:Nat)(b:OA)(m d:Nat)(Inv:Nat->Nat->Int->Heap->Prop)(mz i:Nat)(acc:Int)(Inv2:Nat->Nat->Heap->Prop)(Q:VH)(step:∀ (mz2:Nat)(j:Nat)  (zz:Nat->Value)(h:Heap),Inv2 mz2 j h->AN mv k a n c k2 b m d Inv mz i acc Inv2 Q mz2 j  zz h)(mz2:Nat){j:Nat}  {h:Heap}(hi:Inv2 mz2 j h):ot [1,1,1,1,0,1,0,0,1,1,0,0,1,1,1,1,0,0] (j5 mv k a n c k2 b m d i acc j )h(ib [1,1,0,0,1,1,1,1,0] [1,1,1,1,0,1,0,0] (aU mu(cS mv k a n c Inv)mz(ib [1,1,1,1,0,1,0] [] (ol Q)))):=
 aq(A:=(jr mv k a n c k2 b m d i acc Inv2))(show aG Tryz.f10.ntmps(aQ [1,1,1,1,0,1,0,0,1,1,0,0,1,1,1,1,0,0] fj)=true by kernel_rfl)(fun mz2 w zz h⟨j,hw,hi⟩=> by subst hw; exact aj(step mz2 j  zz h hi)(by kernel_rfl))mz2 _ h⟨j,rfl,hi⟩(fun zz=>by kernel_rfl)(by kernel_rfl)
noncomputable def fc:Code:=(Tryz.f11.body).getD .skip
noncomputable def oq(Q:VH):ak:=cF SS Tryz.f11.results.toList Q
def lM:List Nat:=[1,2,3,4,5,6]
noncomputable def pj(p:List Nat)(w:LV)(h:Heap)(Q:ak):Prop:=bq SS Tryz.f11.ntmps lM(aQ p fc)w h Q
noncomputable def hZ(p b:List Nat)(K:ak):ak:=ko SS Tryz.f11.ntmps lM p(aQ b fc)K
abbrev Oz(mv:LV)(h:Heap)(Q:VH):Prop:=xN(fp SS.P 24(.agg⟨mv⟩))h fun B1 g2=>xP(ah SS.P 24(pA(h.next))0)fun p3=>xI .i64(ai SS.P 3 g2(.pointer(some p3)))fun n4=>FW SS 36 [(.int .i64 n4)] g2 fun v5 h6=>yB v5 fun b7=>ax(!b7)(Q(.bool false)h6)(xP(ah SS.P 24(pA(h.next))3)fun p8=>xL(ai SS.P 22 h6(.pointer(some p8)))fun a9 n10 c11=>ax(decide(((n10:Int):Int) < 1))(Q(.bool false)h6)(xP(ah SS.P 24(pA(h.next))3)fun p12=>xL(ai SS.P 22 h6(.pointer(some p12)))fun a13 n14 c15=>ax(decide(((n14:Int):Int) > 3000))(Q(.bool false)h6)(xP(ah SS.P 24(pA(h.next))1)fun p16=>xI .i64(ai SS.P 3 h6(.pointer(some p16)))fun n17=>ax(decide((n17:Int) < 0))(Q(.bool false)h6)(xP(ah SS.P 24(pA(h.next))1)fun p18=>xI .i64(ai SS.P 3 h6(.pointer(some p18)))fun n19=>xP(ah SS.P 24(pA(h.next))3)fun p20=>xL(ai SS.P 22 h6(.pointer(some p20)))fun a21 n22 c23=>ax(decide((n19:Int)>=(n22:Int)))(Q(.bool false)h6)(xP(ah SS.P 24(pA(h.next))0)fun p24=>xI .i64(ai SS.P 3 h6(.pointer(some p24)))fun n25=>xP(ah SS.P 24(pA(h.next))2)fun p26=>xS(ai SS.P 9 h6(.pointer(some p26)))fun l27=>FW SS 37 [(.int .i64 n25),(aa l27)] h6 fun v28 h29=>yB v28 fun b30=>ax(!b30)(Q(.bool false)h29)(pj [1,1,1,0,1,0,0] [(pA(h.next)),(.bool false),(.int .i64 0),(.int .i64 0),undef,undef] h29(hZ [1,1,1,0,1,0] [] (oq Q))))))))
theorem NN(mv:LV)(h:Heap)(Q:VH)(hx:Oz mv h Q):FW SS 11 [(.agg⟨mv⟩)] h Q:=ay(M:=lM)(c:=fc)Tryz.func11(show Tryz.f11.body=some fc by kernel_rfl)(by kernel_rfl)(aj hx(by kernel_rfl))
abbrev jL(mv:LV)(k:Nat)(i:Nat)(acc:Int)(y5 y6:Value):LV:=[(pA k),(.bool false),(.int .i64 acc),(iA i),y5,y6]
def cX(mv:LV)(k:Nat)(Inv:Nat->Nat->Int->Heap->Prop)(mz:Nat)(w:LV)(h:Heap):Prop:= ∃ (i:Nat)(acc:Int)(y5 y6:Value),w=(jL mv k i acc y5 y6)/\Inv mz i acc h
abbrev yZ(mv:LV)(k:Nat)(Inv:Nat->Nat->Int->Heap->Prop)(Q:VH)(mz:Nat)(i:Nat)(acc:Int)(y5 y6:Value)(zz:Nat->Value)(h:Heap):Prop:=xP(ah SS.P 24(pA k)3)fun p31=>xL(ai SS.P 22 h(.pointer(some p31)))fun a32 n33 c34=>ax(decide(((i:Int):Int) < (n33:Int)))(xP(ah SS.P 24(pA k)3)fun p35=>xL(ai SS.P 22 h(.pointer(some p35)))fun a36 n37 c38=>xP(ag SS.P 22(.slice a36 n37 c38)(iA i))fun p39=>xA(ai SS.P 37 h(.pointer(some p39)))fun c40=>xN(bj SS.P 37)h fun B41 g42=>xU(am SS.P 37(pA(h.next))(.agg⟨c40⟩)g42)g42 fun u43 g44=>xP(ah SS.P 37(pA(h.next))1)fun p45=>xL(ai SS.P 35 g44(.pointer(some p45)))fun a46 n47 c48=>ax(decide((IntKind.wrap .i64(acc + (n47:Int)):Int) > 30000))(Q(.bool false)g44)(xP(ah SS.P 37(pA(h.next))0)fun p49=>xS(ai SS.P 9 g44(.pointer(some p49)))fun l50=>ax(!((l50:LB) == []))(xP(ah SS.P 24(pA k)0)fun p51=>xI .i64(ai SS.P 3 g44(.pointer(some p51)))fun n52=>xP(ah SS.P 37(pA(h.next))0)fun p53=>xS(ai SS.P 9 g44(.pointer(some p53)))fun l54=>FW SS 37 [(.int .i64 n52),(aa l54)] g44 fun v55 h56=>yB v55 fun b57=>ax(!b57)(Q(.bool false)h56)(pj [1,1,1,0,1,0,0,1,0,0,1,1,1,1,0,0] [(pA k),(.bool false),(.int .i64(IntKind.wrap .i64(acc + (n47:Int)))),(iA i),(pA(h.next)),(.int .i64 0)] h56(hZ [1,0,0,1,1,1,1,0] [1,1,1,0,1,0,0] (aU lM(cX mv k Inv)mz(hZ [1,1,1,0,1,0] [] (oq Q))))))(pj [1,1,1,0,1,0,0,1,0,0,1,1,1,1,0,0] [(pA k),(.bool false),(.int .i64(IntKind.wrap .i64(acc + (n47:Int)))),(iA i),(pA(h.next)),(.int .i64 0)] g44(hZ [1,0,0,1,1,1,1,0] [1,1,1,0,1,0,0] (aU lM(cX mv k Inv)mz(hZ [1,1,1,0,1,0] [] (oq Q)))))))(Q(.bool true)h)
theorem um {mv:LV}{k:Nat}{Inv:Nat->Nat->Int->Heap->Prop}{mz:Nat}(mq:Nat){i:Nat}{acc:Int}{y5 y6:Value}{h:Heap}(hm:mq < mz)(hi:Inv mq i acc h):al(cX mv k Inv)mz(jL mv k i acc y5 y6)h :=⟨mq,hm,i,acc,y5,y6,rfl,hi⟩
theorem sC(mv:LV)(k:Nat)(Inv:Nat->Nat->Int->Heap->Prop)(Q:VH)(step:∀ (mz:Nat)(i:Nat)(acc:Int)(y5 y6:Value)(zz:Nat->Value)(h:Heap),Inv mz i acc h->yZ mv k Inv Q mz i acc y5 y6 zz h)(mz:Nat){i:Nat}{acc:Int}{y5 y6:Value}{h:Heap}(hi:Inv mz i acc h):pj [1,1,1,0,1,0,0] (jL mv k i acc y5 y6)h(hZ [1,1,1,0,1,0] [] (oq Q)):=
 aq(A:=(cX mv k Inv))(show aG Tryz.f11.ntmps(aQ [1,1,1,0,1,0,0] fc)=true by kernel_rfl)(fun mz w zz h⟨i,acc,y5,y6,hw,hi⟩=> by subst hw; exact aj(step mz i acc y5 y6 zz h hi)(by kernel_rfl))mz _ h⟨i,acc,y5,y6,rfl,hi⟩(fun zz=>by kernel_rfl)(by kernel_rfl)
abbrev jR(mv:LV)(k k2 i:Nat)(acc:Int)(j:Nat)  : LV:=[(pA k),(.bool false),(.int .i64 acc),(iA i),(pA k2),(iA j)]
def j3(mv:LV)(k k2 i:Nat)(acc:Int)(Inv2:Nat->Nat->Heap->Prop)(mz2:Nat)(w:LV)(h:Heap):Prop:= ∃ (j:Nat) ,w=(jR mv k k2 i acc j )/\Inv2 mz2 j h
abbrev zP(mv:LV)(k k2:Nat)(Inv:Nat->Nat->Int->Heap->Prop)(mz i:Nat)(acc:Int)(Inv2:Nat->Nat->Heap->Prop)(Q:VH)(mz2:Nat)(j:Nat)  (zz:Nat->Value)(h:Heap):Prop:=xP(ah SS.P 37(pA k2)1)fun p58=>xL(ai SS.P 35 h(.pointer(some p58)))fun a59 n60 c61=>ax(decide(((j:Int):Int) < (n60:Int)))(xP(ah SS.P 37(pA k2)1)fun p62=>xL(ai SS.P 35 h(.pointer(some p62)))fun a63 n64 c65=>xP(ag SS.P 35(.slice a63 n64 c65)(iA j))fun p66=>xA(ai SS.P 39 h(.pointer(some p66)))fun c67=>xN(bj SS.P 39)h fun Ro g69=>xU(am SS.P 39(pA(h.next))(.agg⟨c67⟩)g69)g69 fun u70 g71=>xP(ah SS.P 39(pA(h.next))0)fun p72=>xI .i64(ai SS.P 3 g71(.pointer(some p72)))fun n73=>ax(decide((n73:Int) < 0))(Q(.bool false)g71)(xP(ah SS.P 39(pA(h.next))0)fun p74=>xI .i64(ai SS.P 3 g71(.pointer(some p74)))fun n75=>ax(decide((n75:Int) > 500))(Q(.bool false)g71)(xP(ah SS.P 39(pA(h.next))1)fun p76=>xI .i64(ai SS.P 3 g71(.pointer(some p76)))fun n77=>ax(decide((n77:Int) < 0))(Q(.bool false)g71)(xP(ah SS.P 39(pA(h.next))1)fun p78=>xI .i64(ai SS.P 3 g71(.pointer(some p78)))fun n79=>ax(decide((n79:Int) > 500))(Q(.bool false)g71)(xP(ah SS.P 39(pA(h.next))3)fun p80=>xI .i64(ai SS.P 3 g71(.pointer(some p80)))fun n81=>ax(decide((n81:Int) < 0))(Q(.bool false)g71)(xP(ah SS.P 39(pA(h.next))3)fun p82=>xI .i64(ai SS.P 3 g71(.pointer(some p82)))fun n83=>xP(ah SS.P 24(pA k)3)fun p84=>xL(ai SS.P 22 g71(.pointer(some p84)))fun a85 n86 c87=>ax(decide((n83:Int)>=(n86:Int)))(Q(.bool false)g71)(xP(ah SS.P 24(pA k)0)fun p88=>xI .i64(ai SS.P 3 g71(.pointer(some p88)))fun n89=>xP(ah SS.P 39(pA(h.next))2)fun p90=>xS(ai SS.P 9 g71(.pointer(some p90)))fun l91=>FW SS 37 [(.int .i64 n89),(aa l91)] g71 fun v92 h93=>yB v92 fun b94=>ax(!b94)(Q(.bool false)h93)(al(j3 mv k k2 i acc Inv2)mz2 [(pA k),(.bool false),(.int .i64 acc),(iA i),(pA k2),(.int .i64(IntKind.wrap .i64((j:Int) + 1)))] h93))))))))(al(cX mv k Inv)mz [(pA k),(.bool false),(.int .i64 acc),(.int .i64(IntKind.wrap .i64((i:Int) + 1))),(pA k2),(iA j)] h)
theorem tL {mv:LV}{k k2 i:Nat}{acc:Int}{Inv2:Nat->Nat->Heap->Prop}{mz2:Nat}(mq:Nat){j:Nat}  {h:Heap}(hm:mq < mz2)(hi:Inv2 mq j h):al(j3 mv k k2 i acc Inv2)mz2(jR mv k k2 i acc j )h :=⟨mq,hm,j,rfl,hi⟩
theorem tN(mv:LV)(k k2:Nat)(Inv:Nat->Nat->Int->Heap->Prop)(mz i:Nat)(acc:Int)(Inv2:Nat->Nat->Heap->Prop)(Q:VH)(step:∀ (mz2:Nat)(j:Nat)  (zz:Nat->Value)(h:Heap),Inv2 mz2 j h->zP mv k k2 Inv mz i acc Inv2 Q mz2 j  zz h)(mz2:Nat){j:Nat}  {h:Heap}(hi:Inv2 mz2 j h):pj [1,1,1,0,1,0,0,1,0,0,1,1,1,1,0,0] (jR mv k k2 i acc j )h(hZ [1,0,0,1,1,1,1,0] [1,1,1,0,1,0,0] (aU lM(cX mv k Inv)mz(hZ [1,1,1,0,1,0] [] (oq Q)))):=
 aq(A:=(j3 mv k k2 i acc Inv2))(show aG Tryz.f11.ntmps(aQ [1,1,1,0,1,0,0,1,0,0,1,1,1,1,0,0] fc)=true by kernel_rfl)(fun mz2 w zz h⟨j,hw,hi⟩=> by subst hw; exact aj(step mz2 j  zz h hi)(by kernel_rfl))mz2 _ h⟨j,rfl,hi⟩(fun zz=>by kernel_rfl)(by kernel_rfl)
noncomputable def jP:Code:=(Tryz.f33.body).getD .skip
noncomputable def KS(Q:VH):ak:=cF SS Tryz.f33.results.toList Q
def FC:List Nat:=[1,3,4]
noncomputable def Lh(p:List Nat)(w:LV)(h:Heap)(Q:ak):Prop:=bq SS Tryz.f33.ntmps FC(aQ p jP)w h Q
noncomputable def Ku(p b:List Nat)(K:ak):ak:=ko SS Tryz.f33.ntmps FC p(aQ b jP)K
abbrev R6(mv:LV)(h:Heap)(Q:VH):Prop:=xN(fp SS.P 24(.agg⟨mv⟩))h fun B1 g2=>Lh [1,1,0,1,0,0] [(pA(h.next)),(.int .i64 0),(.int .i64 0)] g2(Ku [1,1,0,1,0] [] (KS Q))
theorem OT(mv:LV)(h:Heap)(Q:VH)(hx:R6 mv h Q):FW SS 33 [(.agg⟨mv⟩)] h Q:=ay(M:=FC)(c:=jP)Tryz.func33(show Tryz.f33.body=some jP by kernel_rfl)(by kernel_rfl)(aj hx(by kernel_rfl))
abbrev lA(mv:LV)(k:Nat)(i:Nat)(acc:Int)  : LV:=[(pA k),(.int .i64 acc),(iA i)]
def ls(mv:LV)(k:Nat)(Inv:Nat->Nat->Int->Heap->Prop)(mz:Nat)(w:LV)(h:Heap):Prop:= ∃ (i:Nat)(acc:Int) ,w=(lA mv k i acc )/\Inv mz i acc h
abbrev Ca(mv:LV)(k:Nat)(Inv:Nat->Nat->Int->Heap->Prop)(Q:VH)(mz:Nat)(i:Nat)(acc:Int)  (zz:Nat->Value)(h:Heap):Prop:=xP(ah SS.P 24(pA k)3)fun p3=>xL(ai SS.P 22 h(.pointer(some p3)))fun a4 n5 c6=>ax(decide(((i:Int):Int) < (n5:Int)))(xP(ah SS.P 24(pA k)3)fun p7=>xL(ai SS.P 22 h(.pointer(some p7)))fun a8 n9 c10=>xP(ag SS.P 22(.slice a8 n9 c10)(iA i))fun p11=>xP(ah SS.P 37(.pointer(some p11))1)fun p12=>xL(ai SS.P 35 h(.pointer(some p12)))fun a13 n14 c15=>al(ls mv k Inv)mz [(pA k),(.int .i64(IntKind.wrap .i64(acc + (n14:Int)))),(.int .i64(IntKind.wrap .i64((i:Int) + 1)))] h)(Q(.int .i64 acc)h)
theorem vt {mv:LV}{k:Nat}{Inv:Nat->Nat->Int->Heap->Prop}{mz:Nat}(mq:Nat){i:Nat}{acc:Int}  {h:Heap}(hm:mq < mz)(hi:Inv mq i acc h):al(ls mv k Inv)mz(lA mv k i acc )h :=⟨mq,hm,i,acc,rfl,hi⟩
theorem vK(mv:LV)(k:Nat)(Inv:Nat->Nat->Int->Heap->Prop)(Q:VH)(step:∀ (mz:Nat)(i:Nat)(acc:Int)  (zz:Nat->Value)(h:Heap),Inv mz i acc h->Ca mv k Inv Q mz i acc  zz h)(mz:Nat){i:Nat}{acc:Int}  {h:Heap}(hi:Inv mz i acc h):Lh [1,1,0,1,0,0] (lA mv k i acc )h(Ku [1,1,0,1,0] [] (KS Q)):=
 aq(A:=(ls mv k Inv))(show aG Tryz.f33.ntmps(aQ [1,1,0,1,0,0] jP)=true by kernel_rfl)(fun mz w zz h⟨i,acc,hw,hi⟩=> by subst hw; exact aj(step mz i acc  zz h hi)(by kernel_rfl))mz _ h⟨i,acc,rfl,hi⟩(fun zz=>by kernel_rfl)(by kernel_rfl)
noncomputable def gy:Code:=(Tryz.f8.body).getD .skip
noncomputable def yK(Q:VH):ak:=cF SS Tryz.f8.results.toList Q
def sF:List Nat:=[1,2,3,4]
noncomputable def yv(p:List Nat)(w:LV)(h:Heap)(Q:ak):Prop:=bq SS Tryz.f8.ntmps sF(aQ p gy)w h Q
noncomputable def pW(p b:List Nat)(K:ak):ak:=ko SS Tryz.f8.ntmps sF p(aQ b gy)K
abbrev SY(mv:LV)(h:Heap)(Q:VH):Prop:=xN(fp SS.P 24(.agg⟨mv⟩))h fun B1 g2=>xP(ah SS.P 24(pA(h.next))3)fun p3=>xL(ai SS.P 22 g2(.pointer(some p3)))fun a4 n5 c6=>ax(decide(((n5:Int):Int) > 300))(Q(.bool true)g2)(xA(ai SS.P 24 g2(pA(h.next)))fun c7=>FW SS 33 [(.agg⟨c7⟩)] g2 fun v8 h9=>yI .i64 v8 fun n10=>ax(decide((n10:Int) > 2000))(Q(.bool true)h9)(xP(ah SS.P 24(pA(h.next))2)fun p11=>xS(ai SS.P 9 h9(.pointer(some p11)))fun l12=>ax(decide((((l12:LB).length:Int):Int) > 900))(Q(.bool true)h9)(yv [1,1,0,1,0,0] [(pA(h.next)),(.bool false),(.int .i64 0),undef] h9(pW [1,1,0,1,0] [] (yK Q)))))
theorem QU(mv:LV)(h:Heap)(Q:VH)(hx:SY mv h Q):FW SS 8 [(.agg⟨mv⟩)] h Q:=ay(M:=sF)(c:=gy)Tryz.func8(show Tryz.f8.body=some gy by kernel_rfl)(by kernel_rfl)(aj hx(by kernel_rfl))
abbrev lf(mv:LV)(k:Nat)(i:Nat)(y4:Value):LV:=[(pA k),(.bool false),(iA i),y4]
def eB(mv:LV)(k:Nat)(Inv:Nat->Nat->Heap->Prop)(mz:Nat)(w:LV)(h:Heap):Prop:= ∃ (i:Nat)(y4:Value),w=(lf mv k i y4)/\Inv mz i h
abbrev Ci(mv:LV)(k:Nat)(Inv:Nat->Nat->Heap->Prop)(Q:VH)(mz:Nat)(i:Nat)(y4:Value)(zz:Nat->Value)(h:Heap):Prop:=xP(ah SS.P 24(pA k)3)fun p13=>xL(ai SS.P 22 h(.pointer(some p13)))fun a14 n15 c16=>ax(decide(((i:Int):Int) < (n15:Int)))(xP(ah SS.P 24(pA k)3)fun p17=>xL(ai SS.P 22 h(.pointer(some p17)))fun a18 n19 c20=>xP(ag SS.P 22(.slice a18 n19 c20)(iA i))fun p21=>xP(ah SS.P 37(.pointer(some p21))0)fun p22=>xS(ai SS.P 9 h(.pointer(some p22)))fun l23=>ax(decide((((l23:LB).length:Int):Int) > 900))(Q(.bool true)h)(yv [1,1,0,1,0,0,1,0,0,1,1,0,0] [(pA k),(.bool false),(iA i),(.int .i64 0)] h(pW [1,0,0,1,1,0] [1,1,0,1,0,0] (aU sF(eB mv k Inv)mz(pW [1,1,0,1,0] [] (yK Q))))))(Q(.bool false)h)
theorem wj {mv:LV}{k:Nat}{Inv:Nat->Nat->Heap->Prop}{mz:Nat}(mq:Nat){i:Nat}{y4:Value}{h:Heap}(hm:mq < mz)(hi:Inv mq i h):al(eB mv k Inv)mz(lf mv k i y4)h :=⟨mq,hm,i,y4,rfl,hi⟩
theorem vX(mv:LV)(k:Nat)(Inv:Nat->Nat->Heap->Prop)(Q:VH)(step:∀ (mz:Nat)(i:Nat)(y4:Value)(zz:Nat->Value)(h:Heap),Inv mz i h->Ci mv k Inv Q mz i y4 zz h)(mz:Nat){i:Nat}{y4:Value}{h:Heap}(hi:Inv mz i h):yv [1,1,0,1,0,0] (lf mv k i y4)h(pW [1,1,0,1,0] [] (yK Q)):=
 aq(A:=(eB mv k Inv))(show aG Tryz.f8.ntmps(aQ [1,1,0,1,0,0] gy)=true by kernel_rfl)(fun mz w zz h⟨i,y4,hw,hi⟩=> by subst hw; exact aj(step mz i y4 zz h hi)(by kernel_rfl))mz _ h⟨i,y4,rfl,hi⟩(fun zz=>by kernel_rfl)(by kernel_rfl)
abbrev lh(mv:LV)(k i:Nat)(j:Nat)  : LV:=[(pA k),(.bool false),(iA i),(iA j)]
def lz(mv:LV)(k i:Nat)(Inv2:Nat->Nat->Heap->Prop)(mz2:Nat)(w:LV)(h:Heap):Prop:= ∃ (j:Nat) ,w=(lh mv k i j )/\Inv2 mz2 j h
abbrev BZ(mv:LV)(k:Nat)(Inv:Nat->Nat->Heap->Prop)(mz i:Nat)(Inv2:Nat->Nat->Heap->Prop)(Q:VH)(mz2:Nat)(j:Nat)  (zz:Nat->Value)(h:Heap):Prop:=xP(ah SS.P 24(pA k)3)fun p24=>xL(ai SS.P 22 h(.pointer(some p24)))fun a25 n26 c27=>xP(ag SS.P 22(.slice a25 n26 c27)(iA i))fun p28=>xP(ah SS.P 37(.pointer(some p28))1)fun p29=>xL(ai SS.P 35 h(.pointer(some p29)))fun a30 n31 c32=>ax(decide(((j:Int):Int) < (n31:Int)))(xP(ah SS.P 24(pA k)3)fun p33=>xL(ai SS.P 22 h(.pointer(some p33)))fun a34 n35 c36=>xP(ag SS.P 22(.slice a34 n35 c36)(iA i))fun p37=>xP(ah SS.P 37(.pointer(some p37))1)fun p38=>xL(ai SS.P 35 h(.pointer(some p38)))fun a39 n40 c41=>xP(ag SS.P 35(.slice a39 n40 c41)(iA j))fun p42=>xP(ah SS.P 39(.pointer(some p42))2)fun p43=>xS(ai SS.P 9 h(.pointer(some p43)))fun l44=>ax(decide((((l44:LB).length:Int):Int) > 900))(Q(.bool true)h)(al(lz mv k i Inv2)mz2 [(pA k),(.bool false),(iA i),(.int .i64(IntKind.wrap .i64((j:Int) + 1)))] h))(al(eB mv k Inv)mz [(pA k),(.bool false),(.int .i64(IntKind.wrap .i64((i:Int) + 1))),(iA j)] h)
theorem vC {mv:LV}{k i:Nat}{Inv2:Nat->Nat->Heap->Prop}{mz2:Nat}(mq:Nat){j:Nat}  {h:Heap}(hm:mq < mz2)(hi:Inv2 mq j h):al(lz mv k i Inv2)mz2(lh mv k i j )h :=⟨mq,hm,j,rfl,hi⟩
theorem vO(mv:LV)(k:Nat)(Inv:Nat->Nat->Heap->Prop)(mz i:Nat)(Inv2:Nat->Nat->Heap->Prop)(Q:VH)(step:∀ (mz2:Nat)(j:Nat)  (zz:Nat->Value)(h:Heap),Inv2 mz2 j h->BZ mv k Inv mz i Inv2 Q mz2 j  zz h)(mz2:Nat){j:Nat}  {h:Heap}(hi:Inv2 mz2 j h):yv [1,1,0,1,0,0,1,0,0,1,1,0,0] (lh mv k i j )h(pW [1,0,0,1,1,0] [1,1,0,1,0,0] (aU sF(eB mv k Inv)mz(pW [1,1,0,1,0] [] (yK Q)))):=
 aq(A:=(lz mv k i Inv2))(show aG Tryz.f8.ntmps(aQ [1,1,0,1,0,0,1,0,0,1,1,0,0] gy)=true by kernel_rfl)(fun mz2 w zz h⟨j,hw,hi⟩=> by subst hw; exact aj(step mz2 j  zz h hi)(by kernel_rfl))mz2 _ h⟨j,rfl,hi⟩(fun zz=>by kernel_rfl)(by kernel_rfl)
end Go.Proofs.YtoabjjimjldcfaaGreatDoor
end
section
set_option linter.unusedVariables false
set_option maxRecDepth 100000
namespace Go.Proofs.YtoabjjimjldcfaaGreatDoor
open Go Go.Ab
theorem bm {α:Type}{l:List α}{i:Nat}{s:α}(h:l[i]? = some s):l.drop i=s :: l.drop(i + 1):=by
 obtain⟨h1,rfl⟩:=List.getElem?_eq_some_iff.1 h
 exact List.drop_eq_getElem_cons h1
theorem CH(s:Int)(h:Heap):FW SS 35 [.int .i64 s] h(fun v h'=>v = .bool(px s)/\h' = h):=by
 refine Mm s h _(ae(fun g =>⟨?_,rfl⟩)(fun g =>⟨?_,rfl⟩))
 · have g:=of_decide_eq_true g
  unfold px; rw [decide_eq_true(show 0<=s from g),Bool.true_and]
 · have g:=of_decide_eq_false g
  unfold px; rw [decide_eq_false(show ¬ 0<=s from g),Bool.false_and]
section
variable {h:Heap}{k:Nat}{M:Mach}{a:Option Addr}{n c:Nat}
def bQ(h:Heap)(V:Bool):VH:=fun v h'=>v = .bool V/\Ok h h'
def Sd(h:Heap)(k:Nat)(M:Mach)(a:Option Addr)(n c:Nat)(V:Bool)(mz i:Nat)(acc:Int)(g:Heap):Prop:=i<=n/\mz=n - i/\0<=acc/\acc<=30000/\MB g k M a n c/\Ok h g/\nL M.kind n acc(M.states.drop i)=V
def Y1(h:Heap)(k:Nat)(M:Mach)(a:Option Addr)(n c:Nat)(s:MSt)(b:Option Addr)(m d i:Nat)(acc:Int)(V:Bool)(mz2 j:Nat)(g:Heap):Prop:=j<=m/\mz2=m - j/\MB g k M a n c/\Ok h g/\ArcRow g(.slice b m d)s.arcs/\((s.arcs.drop j).all(eC M.kind n) && nL M.kind n acc(M.states.drop(i + 1)))=V
theorem aK {i n:Nat}(h:i < n)(hn:n<=1000000000):IntKind.wrap .i64((i:Int) + 1)=((i + 1:Nat):Int):=by rw [ap(by omega)(by omega)]; omega
theorem dl(sm:Small M){s:MSt}{i:Nat}(hs:M.states[i]? = some s):s.arcs.length<=2000/\s.f.length<=1000000000/\∀ q∈s.arcs,q.w.length<=1000000000:=by
 have h:=List.mem_of_getElem? hs
 exact⟨sm.arcs s h,Nat.le_trans(sm.fin s h)(by decide),fun q hq=>Nat.le_trans(sm.w s h q hq)(by decide)⟩
set_option linter.defProp false in
def Gc(w:Wf h)(tb:Tab h)(sm:Small M)(V:Bool){s:MSt}{b:Option Addr}{m d i k2:Nat}{acc:Int}(hs:M.states[i]? = some s)(hi:i < n)(h0:0<=acc)(h1:acc<=30000)(mv:List Value)(mz:Nat)(hmz:mz=n - i):=
 tO mv k a n c k2 b m d(Sd h k M a n c V)mz i acc(Y1 h k M a n c s b m d i acc V)(bQ h V)(by
  intro mz2 j; intros; rename_i g hin
  obtain⟨f1,f2,mb,ok,ar,hv⟩:=hin
  have hn:n<=300:=by rw [mb.len]; exact sm.sts
  obtain⟨l1,l2,l3⟩:=dl sm hs
  have hm:=ar.len
  refine ae(fun g1=>?_)(fun g1=>?_)
  · have g1:=of_decide_eq_true g1
   obtain⟨q,hq⟩: ∃ q,s.arcs[j]? = some q :=⟨_,List.getElem?_eq_getElem(by omega)⟩
   obtain⟨bb,o,e1,e2,e3⟩:=ar.at_ hq
   have lq:=l3 q(List.mem_of_getElem? hq)
   rw [bm hq,List.all_cons] at hv
   obtain⟨u,p1,p2,p3⟩:=Iu ok.wf q
   refine⟨_,e1,_,e2,_,QE,u,p1,?_⟩
   have okg:=ok.trans p2
   have mbg:=mb.ok p2
   generalize u.app(g.push PF)=g2 at *
   refine⟨_,iF _ _,_,p3.l0,(CH _ _).mono ?_⟩
   rintro _ g3⟨rfl,eg⟩
   obtain rfl:g2=g3:=eg.symm
   refine⟨_,rfl,ae(fun t =>⟨?_,okg⟩)(fun t=>?_)⟩
   · rw [Bool.not_eq_true'] at t
    rw [<- hv]; unfold eC; rw [t]; simp
   rw [Bool.not_eq_false'] at t
   refine⟨_,mK _ _,_,p3.l1,(CH _ _).mono ?_⟩
   rintro _ g3⟨rfl,eg⟩
   obtain rfl:g2=g3:=eg.symm
   refine⟨_,rfl,ae(fun t2 =>⟨?_,okg⟩)(fun t2=>?_)⟩
   · rw [Bool.not_eq_true'] at t2
    rw [<- hv]; unfold eC; rw [t2]; simp
   rw [Bool.not_eq_false'] at t2
   refine⟨_,my _ _,_,p3.l3,ae(fun t3 =>⟨?_,okg⟩)(fun t3=>?_)⟩
   · have t3:=of_decide_eq_true t3
    rw [<- hv]; unfold eC; rw [decide_eq_false(show ¬ 0<=q.t by omega)]; simp
   have t3:=of_decide_eq_false t3
   refine⟨_,my _ _,_,p3.l3,ae(fun t4 =>⟨?_,okg⟩)(fun t4=>?_)⟩
   · have t4:=of_decide_eq_true t4
    rw [<- hv]; unfold eC; rw [decide_eq_false(show ¬ q.t < n by omega)]; simp
   have t4:=of_decide_eq_false t4
   refine⟨_,m6 _,_,mbg.l0,_,Ji _ _,_,p3.l2,(mV M.kind q.w lq(tb.ok okg)okg.wf).mono ?_⟩
   rintro _ g4⟨rfl,o4⟩
   refine⟨_,rfl,ae(fun t5 =>⟨?_,okg.trans o4⟩)(fun t5=>?_)⟩
   · rw [Bool.not_eq_true'] at t5
    rw [<- hv]; unfold eC; rw [t5]; simp
   rw [Bool.not_eq_false'] at t5
   have hq1:eC M.kind n q=true:=by
    unfold eC; rw [t,t2,t5,decide_eq_true(show 0<=q.t by omega),decide_eq_true(show q.t < n by omega)]; rfl
   rw [hq1,Bool.true_and] at hv
   rw [aK(i:=j)(n:=m)(by omega)(by omega)]
   exact uI(mz2 - 1)(by omega)⟨by omega,by omega,mbg.ok o4,okg.trans o4,(ar.ok p2).ok o4,hv⟩
  · have g1:=of_decide_eq_false g1
   obtain rfl:m=j:=by omega
   rw [List.drop_eq_nil_of_le(by omega)] at hv
   rw [aK hi(by omega)]
   exact sX(n - (i + 1))(by omega)⟨by omega,rfl,h0,h1,mb,ok,by simpa using hv⟩)
theorem qo {h:Heap}(tb:Tab h)(w:Wf h){M:Mach}(sm:Small M){a:Option Addr}{n c:Nat}(r:StRow h(.slice a n c)M.states):FW SS 10 [.agg⟨bw M a n c⟩] h(fun v h'=>v = .bool(bZ M)/\Ok h h'):=by
 obtain⟨mb,ok⟩:=cV w r
 refine LI(bw M a n c)h _⟨_,fi M a n c,?_⟩
 have hl:=mb.len
 have hn:n<=300:=by rw [hl]; exact sm.sts
 generalize h.push(Bm M a n c)=g at *
 refine⟨_,aT _,_,_,_,mb.l3,_,m6 _,_,mb.l0,ae(fun t1 =>⟨?_,ok⟩)(fun t1=>?_)⟩
 · have t1:=of_decide_eq_true t1
  unfold bZ; rw [decide_eq_false(show ¬ 1<=M.kind by omega)]; simp
 have t1:=of_decide_eq_false t1
 refine⟨_,m6 _,_,mb.l0,ae(fun t2 =>⟨?_,ok⟩)(fun t2=>ae(fun t3 =>⟨?_,ok⟩)(fun t3=>ae(fun t4 =>⟨?_,ok⟩)(fun t4=>?_)))⟩
 · have t2:=of_decide_eq_true t2
  unfold bZ; rw [decide_eq_false(show ¬ M.kind<=3 by omega)]; simp
 · have t3:=of_decide_eq_true t3
  unfold bZ; rw [decide_eq_false(show ¬ 1<=M.states.length by omega)]; simp
 · have t4:=of_decide_eq_true t4
  omega
 have t2:=of_decide_eq_false t2
 have t3:=of_decide_eq_false t3
 refine⟨_,m9 _,_,mb.l1,ae(fun t5 =>⟨?_,ok⟩)(fun t5=>?_)⟩
 · have t5:=of_decide_eq_true t5
  unfold bZ; rw [decide_eq_false(show ¬ 0<=M.start by omega)]; simp
 have t5:=of_decide_eq_false t5
 refine⟨_,m9 _,_,mb.l1,ae(fun t6 =>⟨?_,ok⟩)(fun t6=>?_)⟩
 · have t6:=of_decide_eq_true t6
  unfold bZ; rw [decide_eq_false(show ¬ M.start < M.states.length by omega)]; simp
 have t6:=of_decide_eq_false t6
 refine⟨_,m6 _,_,mb.l0,_,Iz _,_,mb.l2,(mV M.kind M.lead(Nat.le_trans sm.lead(by decide))(tb.ok ok)ok.wf).mono ?_⟩
 rintro _ g2⟨rfl,o2⟩
 have ok2:=ok.trans o2
 have mb2:=mb.ok o2
 refine⟨_,rfl,ae(fun t7 =>⟨?_,ok2⟩)(fun t7=>?_)⟩
 · rw [Bool.not_eq_true'] at t7
  unfold bZ; rw [t7]; simp
 rw [Bool.not_eq_false'] at t7
 have hV:bZ M=nL M.kind n 0 M.states:=by
  unfold bZ
  rw [t7,decide_eq_true(show 1<=M.kind by omega),decide_eq_true(show M.kind<=3 by omega),decide_eq_true(show 1<=M.states.length by omega),decide_eq_true(show M.states.length<=3000 by omega),decide_eq_true(show 0<=M.start by omega),decide_eq_true(show M.start < M.states.length by omega),hl]
  rfl
 obtain⟨V,hVd⟩: ∃ V,V=nL M.kind n 0 M.states :=⟨_,rfl⟩
 rw [hV,<- hVd]
 refine⟨_,aT _,_,_,_,mb2.l3,?_⟩
 refine uD(bw M a n c)h.next a n c(Sd h h.next M a n c V)(bQ h V)(fun mz i acc=>?_)n(i:=0)(acc:=0)⟨by omega,rfl,by omega,by omega,mb2,ok2,hVd.symm⟩
 intros; rename_i gg hi
 obtain⟨f1,f2,f3,f4,mb3,ok3,f5⟩:=hi
 refine ae(fun q1=>?_)(fun q1=>?_)
 · have q1:=of_decide_eq_true q1
  obtain⟨s,hs⟩: ∃ s,M.states[i]? = some s :=⟨_,List.getElem?_eq_getElem(by omega)⟩
  obtain⟨b,o,x,y,z,e1,e2,e3,e4,ar⟩:=mb3.row.at_ hs
  obtain⟨l1,l2,l3⟩:=dl sm hs
  have hy:=ar.len
  rw [bm hs] at f5
  unfold nL at f5
  obtain⟨u,p1,p2,p3⟩:=Db ok3.wf s.f x y z
  refine⟨_,e1,_,e2,_,M7,u,p1,?_⟩
  have okg:=ok3.trans p2
  have mbg:=mb3.ok p2
  have arg:=ar.ok p2
  generalize u.app(gg.push Nr)=g3 at *
  have hw:IntKind.wrap .i64(acc + (y:Int))=acc + (s.arcs.length:Int):=by rw [hy,ap(by omega)(by omega)]
  refine⟨_,bt _ _,_,_,_,p3.l1,?_⟩
  dsimp af
  rw [hw]
  refine ae(fun q2 =>⟨?_,okg⟩)(fun q2=>?_)
  · have q2:=of_decide_eq_true q2
   rw [<- f5,decide_eq_false(show ¬ acc + (s.arcs.length:Int)<=30000 by omega)]; simp
  have q2:=of_decide_eq_false q2
  rw [decide_eq_true(show acc + (s.arcs.length:Int)<=30000 by omega),Bool.true_and] at f5
  refine⟨_,rG _ _,_,p3.l0,ae(fun q3=>?_)(fun q3=>?_)⟩
  · refine⟨_,m6 _,_,mbg.l0,_,rG _ _,_,p3.l0,(mV M.kind s.f l2(tb.ok okg)okg.wf).mono ?_⟩
   rintro _ g4⟨rfl,o4⟩
   have q3:(s.f == [])=false:=by simpa using q3
   rw [q3,Bool.false_or] at f5
   refine⟨_,rfl,ae(fun q4 =>⟨?_,okg.trans o4⟩)(fun q4=>?_)⟩
   · rw [Bool.not_eq_true'] at q4
    rw [<- f5,q4]; simp
   rw [Bool.not_eq_false'] at q4
   rw [q4,Bool.true_and] at f5
   refine⟨_,bt _ _,_,_,_,(p3.ok o4).l1,?_⟩
   exact Gc w tb sm _ hs(by omega)(by omega)(by omega)_ mz f2 y(j:=0)⟨by omega,rfl,mbg.ok o4,okg.trans o4,arg.ok o4,by rw [List.drop_zero]; exact f5⟩
  · have q3:(s.f == [])=true:=by simpa using q3
   rw [q3,Bool.true_or,Bool.true_and] at f5
   refine⟨_,bt _ _,_,_,_,p3.l1,?_⟩
   exact Gc w tb sm _ hs(by omega)(by omega)(by omega)_ mz f2 y(j:=0)⟨by omega,rfl,mbg,okg,arg,by rw [List.drop_zero]; exact f5⟩
 · have q1:=of_decide_eq_false q1
  refine⟨?_,ok3⟩
  rw [List.drop_eq_nil_of_le(by omega)] at f5
  rw [<- f5]; rfl
end
end Go.Proofs.YtoabjjimjldcfaaGreatDoor
end
section
set_option linter.unusedVariables false
set_option maxRecDepth 100000
namespace Go.Proofs.YtoabjjimjldcfaaGreatDoor
open Go Go.Ab
theorem Hn(kind:Int)(h:Heap):FW SS 36 [.int .i64 kind] h(fun v h'=>v = .bool(decide(1<=kind) && decide(kind<=3))/\h' = h):=by
 refine wD kind h _(ae(fun g =>⟨?_,rfl⟩)(fun g =>⟨?_,rfl⟩))
 · have g:=of_decide_eq_true g
  rw [decide_eq_true(show 1<=kind from g),Bool.true_and]
 · have g:=of_decide_eq_false g
  rw [decide_eq_false(show ¬ 1<=kind from g),Bool.false_and]
section
variable {h:Heap}{k:Nat}{M:Mach}{a:Option Addr}{n c:Nat}
set_option linter.defProp false in
def Ii(w:Wf h)(sm:Small M)(V:Bool){s:MSt}{b:Option Addr}{m d i k2:Nat}{acc:Int}(hs:M.states[i]? = some s)(hi:i < n)(h0:0<=acc)(h1:acc<=30000)(mv:List Value)(mz:Nat)(hmz:mz=n - i):=
 tN mv k k2(Sd h k M a n c V)mz i acc(fun mz2 j g=>Y1 h k M a n c s b m d i acc V mz2 j g/\SB g k2 s.f b m d)(bQ h V)(by
  intro mz2 j; intros; rename_i g hin
  obtain⟨⟨f1,f2,mb,ok,ar,hv⟩,sb⟩:=hin
  have hn:n<=300:=by rw [mb.len]; exact sm.sts
  obtain⟨l1,l2,l3⟩:=dl sm hs
  have hm:=ar.len
  refine⟨_,bt _ _,_,_,_,sb.l1,ae(fun g1=>?_)(fun g1=>?_)⟩
  · have g1:=of_decide_eq_true g1
   obtain⟨q,hq⟩: ∃ q,s.arcs[j]? = some q :=⟨_,List.getElem?_eq_getElem(by omega)⟩
   obtain⟨bb,o,e1,e2,e3⟩:=ar.at_ hq
   have lq:=l3 q(List.mem_of_getElem? hq)
   rw [bm hq,List.all_cons] at hv
   obtain⟨u,p1,p2,p3⟩:=Iu ok.wf q
   refine⟨_,bt _ _,_,_,_,sb.l1,_,e1,_,e2,_,QE,u,p1,?_⟩
   have okg:=ok.trans p2
   have mbg:=mb.ok p2
   generalize u.app(g.push PF)=g2 at *
   refine⟨_,iF _ _,_,p3.l0,ae(fun t =>⟨?_,okg⟩)(fun t =>⟨_,iF _ _,_,p3.l0,ae(fun t2 =>⟨?_,okg⟩)(fun t2 =>⟨_,mK _ _,_,p3.l1,ae(fun t3 =>⟨?_,okg⟩)(fun t3 =>⟨_,mK _ _,_,p3.l1,ae(fun t4 =>⟨?_,okg⟩)(fun t4 =>⟨_,my _ _,_,p3.l3,ae(fun t5 =>⟨?_,okg⟩)(fun t5 =>⟨_,my _ _,_,p3.l3,_,aT _,_,_,_,mbg.l3,ae(fun t6 =>⟨?_,okg⟩)(fun t6=>?_)⟩)⟩)⟩)⟩)⟩)⟩
   · have t:=of_decide_eq_true t
    rw [<- hv]; unfold eC px; rw [decide_eq_false(show ¬ 0<=q.i by omega)]; simp
   · have t2:=of_decide_eq_true t2
    rw [<- hv]; unfold eC px; rw [decide_eq_false(show ¬ q.i<=500 by omega)]; simp
   · have t3:=of_decide_eq_true t3
    rw [<- hv]; unfold eC px; rw [decide_eq_false(show ¬ 0<=q.o by omega)]; simp
   · have t4:=of_decide_eq_true t4
    rw [<- hv]; unfold eC px; rw [decide_eq_false(show ¬ q.o<=500 by omega)]; simp
   · have t5:=of_decide_eq_true t5
    rw [<- hv]; unfold eC; rw [decide_eq_false(show ¬ 0<=q.t by omega)]; simp
   · have t6:=of_decide_eq_true t6
    rw [<- hv]; unfold eC; rw [decide_eq_false(show ¬ q.t < n by omega)]; simp
   have t:=of_decide_eq_false t
   have t2:=of_decide_eq_false t2
   have t3:=of_decide_eq_false t3
   have t4:=of_decide_eq_false t4
   have t5:=of_decide_eq_false t5
   have t6:=of_decide_eq_false t6
   refine⟨_,m6 _,_,mbg.l0,_,Ji _ _,_,p3.l2,(li M.kind q.w lq okg.wf).mono ?_⟩
   rintro _ g4⟨rfl,o4⟩
   refine⟨_,rfl,ae(fun t7 =>⟨?_,okg.trans o4⟩)(fun t7=>?_)⟩
   · rw [Bool.not_eq_true'] at t7
    rw [<- hv]; unfold eC; rw [t7]; simp
   rw [Bool.not_eq_false'] at t7
   have hq1:eC M.kind n q=true:=by
    unfold eC px; rw [t7,decide_eq_true(show 0<=q.i by omega),decide_eq_true(show q.i<=500 by omega),decide_eq_true(show 0<=q.o by omega),decide_eq_true(show q.o<=500 by omega),decide_eq_true(show 0<=q.t by omega),decide_eq_true(show q.t < n by omega)]; rfl
   rw [hq1,Bool.true_and] at hv
   rw [aK(i:=j)(n:=m)(by omega)(by omega)]
   exact tL(mz2 - 1)(by omega)⟨⟨by omega,by omega,mbg.ok o4,okg.trans o4,(ar.ok p2).ok o4,hv⟩,(sb.ok p2).ok o4⟩
  · have g1:=of_decide_eq_false g1
   obtain rfl:m=j:=by omega
   rw [List.drop_eq_nil_of_le(by omega)] at hv
   rw [aK hi(by omega)]
   exact um(n - (i + 1))(by omega)⟨by omega,rfl,h0,h1,mb,ok,by simpa using hv⟩)
end
theorem lN {h:Heap}(w:Wf h){M:Mach}(sm:Small M){a:Option Addr}{n c:Nat}(r:StRow h(.slice a n c)M.states):FW SS 11 [.agg⟨bw M a n c⟩] h(fun v h'=>v = .bool(bZ M)/\Ok h h'):=by
 obtain⟨mb,ok⟩:=cV w r
 refine NN(bw M a n c)h _⟨_,fi M a n c,?_⟩
 have hl:=mb.len
 have hn:n<=300:=by rw [hl]; exact sm.sts
 generalize h.push(Bm M a n c)=g at *
 refine⟨_,m6 _,_,mb.l0,(Hn _ _).mono ?_⟩
 rintro _ g1⟨rfl,eg⟩
 obtain rfl:g=g1:=eg.symm
 refine⟨_,rfl,ae(fun t1 =>⟨?_,ok⟩)(fun t1=>?_)⟩
 · rw [Bool.not_eq_true'] at t1
  unfold bZ; rw [t1]; simp
 rw [Bool.not_eq_false',Bool.and_eq_true] at t1
 have t1:1<=M.kind/\M.kind<=3 :=⟨of_decide_eq_true t1.1,of_decide_eq_true t1.2⟩
 refine⟨_,aT _,_,_,_,mb.l3,ae(fun t3 =>⟨?_,ok⟩)(fun t3 =>⟨_,aT _,_,_,_,mb.l3,ae(fun t4 =>⟨?_,ok⟩)(fun t4=>?_)⟩)⟩
 · have t3:=of_decide_eq_true t3
  unfold bZ; rw [decide_eq_false(show ¬ 1<=M.states.length by omega)]; simp
 · have t4:=of_decide_eq_true t4
  omega
 have t3:=of_decide_eq_false t3
 refine⟨_,m9 _,_,mb.l1,ae(fun t5 =>⟨?_,ok⟩)(fun t5=>?_)⟩
 · have t5:=of_decide_eq_true t5
  unfold bZ; rw [decide_eq_false(show ¬ 0<=M.start by omega)]; simp
 have t5:=of_decide_eq_false t5
 refine⟨_,m9 _,_,mb.l1,_,aT _,_,_,_,mb.l3,ae(fun t6 =>⟨?_,ok⟩)(fun t6=>?_)⟩
 · have t6:=of_decide_eq_true t6
  unfold bZ; rw [decide_eq_false(show ¬ M.start < M.states.length by omega)]; simp
 have t6:=of_decide_eq_false t6
 refine⟨_,m6 _,_,mb.l0,_,Iz _,_,mb.l2,(li M.kind M.lead(Nat.le_trans sm.lead(by decide))ok.wf).mono ?_⟩
 rintro _ g2⟨rfl,o2⟩
 have ok2:=ok.trans o2
 have mb2:=mb.ok o2
 refine⟨_,rfl,ae(fun t7 =>⟨?_,ok2⟩)(fun t7=>?_)⟩
 · rw [Bool.not_eq_true'] at t7
  unfold bZ; rw [t7]; simp
 rw [Bool.not_eq_false'] at t7
 have hV:bZ M=nL M.kind n 0 M.states:=by
  unfold bZ
  rw [t7,decide_eq_true(show 1<=M.kind by omega),decide_eq_true(show M.kind<=3 by omega),decide_eq_true(show 1<=M.states.length by omega),decide_eq_true(show M.states.length<=3000 by omega),decide_eq_true(show 0<=M.start by omega),decide_eq_true(show M.start < M.states.length by omega),hl]
  rfl
 obtain⟨V,hVd⟩: ∃ V,V=nL M.kind n 0 M.states :=⟨_,rfl⟩
 rw [hV,<- hVd]
 refine sC(bw M a n c)h.next(Sd h h.next M a n c V)(bQ h V)(fun mz i acc=>?_)n(i:=0)(acc:=0)⟨by omega,rfl,by omega,by omega,mb2,ok2,hVd.symm⟩
 intros; rename_i gg hi
 obtain⟨f1,f2,f3,f4,mb3,ok3,f5⟩:=hi
 refine⟨_,aT _,_,_,_,mb3.l3,ae(fun q1=>?_)(fun q1=>?_)⟩
 · have q1:=of_decide_eq_true q1
  obtain⟨s,hs⟩: ∃ s,M.states[i]? = some s :=⟨_,List.getElem?_eq_getElem(by omega)⟩
  obtain⟨b,o,x,y,z,e1,e2,e3,e4,ar⟩:=mb3.row.at_ hs
  obtain⟨l1,l2,l3⟩:=dl sm hs
  have hy:=ar.len
  rw [bm hs] at f5
  unfold nL at f5
  obtain⟨u,p1,p2,p3⟩:=Db ok3.wf s.f x y z
  refine⟨_,aT _,_,_,_,mb3.l3,_,e1,_,e2,_,M7,u,p1,?_⟩
  have okg:=ok3.trans p2
  have mbg:=mb3.ok p2
  have arg:=ar.ok p2
  generalize u.app(gg.push Nr)=g3 at *
  have hw:IntKind.wrap .i64(acc + (y:Int))=acc + (s.arcs.length:Int):=by rw [hy,ap(by omega)(by omega)]
  refine⟨_,bt _ _,_,_,_,p3.l1,?_⟩
  dsimp af
  rw [hw]
  refine ae(fun q2 =>⟨?_,okg⟩)(fun q2=>?_)
  · have q2:=of_decide_eq_true q2
   rw [<- f5,decide_eq_false(show ¬ acc + (s.arcs.length:Int)<=30000 by omega)]; simp
  have q2:=of_decide_eq_false q2
  rw [decide_eq_true(show acc + (s.arcs.length:Int)<=30000 by omega),Bool.true_and] at f5
  refine⟨_,rG _ _,_,p3.l0,ae(fun q3=>?_)(fun q3=>?_)⟩
  · refine⟨_,m6 _,_,mbg.l0,_,rG _ _,_,p3.l0,(li M.kind s.f l2 okg.wf).mono ?_⟩
   rintro _ g4⟨rfl,o4⟩
   have q3:(s.f == [])=false:=by simpa using q3
   rw [q3,Bool.false_or] at f5
   refine⟨_,rfl,ae(fun q4 =>⟨?_,okg.trans o4⟩)(fun q4=>?_)⟩
   · rw [Bool.not_eq_true'] at q4
    rw [<- f5,q4]; simp
   rw [Bool.not_eq_false'] at q4
   rw [q4,Bool.true_and] at f5
   exact Ii w sm _ hs(by omega)(by omega)(by omega)_ mz f2 y(j:=0)⟨⟨by omega,rfl,mbg.ok o4,okg.trans o4,arg.ok o4,by rw [List.drop_zero]; exact f5⟩,p3.ok o4⟩
  · have q3:(s.f == [])=true:=by simpa using q3
   rw [q3,Bool.true_or,Bool.true_and] at f5
   exact Ii w sm _ hs(by omega)(by omega)(by omega)_ mz f2 y(j:=0)⟨⟨by omega,rfl,mbg,okg,arg,by rw [List.drop_zero]; exact f5⟩,p3⟩
 · have q1:=of_decide_eq_false q1
  refine⟨?_,ok3⟩
  rw [List.drop_eq_nil_of_le(by omega)] at f5
  rw [<- f5]; rfl
end Go.Proofs.YtoabjjimjldcfaaGreatDoor
end
section
set_option linter.unusedVariables false
set_option maxRecDepth 100000
namespace Go.Proofs.YtoabjjimjldcfaaGreatDoor
open Go Go.Ab
noncomputable def DS:Code:=(Tryz.f39.body).getD .skip
def Vt:List Nat:=[]
abbrev Vx(qv:LV)(h:Heap)(Q:VH):Prop:=xN(fp SS.P 39(.agg⟨qv⟩))h fun B1 g2=>xP(ah SS.P 39(pA(h.next))0)fun p3=>xI .i64(ai SS.P 3 g2(.pointer(some p3)))fun n4=>xP(ah SS.P 39(pA(h.next))1)fun p5=>xI .i64(ai SS.P 3 g2(.pointer(some p5)))fun n6=>Q(.bool(((n4:Int) == n6)))g2
theorem RQ(qv:LV)(h:Heap)(Q:VH)(hx:Vx qv h Q):FW SS 39 [(.agg⟨qv⟩)] h Q:=ay(M:=Vt)(c:=DS)Tryz.func39(show Tryz.f39.body=some DS by kernel_rfl)(by kernel_rfl)(aj hx(by kernel_rfl))
noncomputable def w9:Code:=(Tryz.f40.body).getD .skip
def Pf:List Nat:=[]
abbrev O0(qv:LV)(h:Heap)(Q:VH):Prop:=xN(fp SS.P 39(.agg⟨qv⟩))h fun B1 g2=>xP(ah SS.P 39(pA(h.next))0)fun p3=>xI .i64(ai SS.P 3 g2(.pointer(some p3)))fun n4=>ax(((n4:Int) != 0))(Q(.bool true)g2)(xP(ah SS.P 39(pA(h.next))1)fun p5=>xI .i64(ai SS.P 3 g2(.pointer(some p5)))fun n6=>Q(.bool(((n6:Int) != 0)))g2)
theorem L9(qv:LV)(h:Heap)(Q:VH)(hx:O0 qv h Q):FW SS 40 [(.agg⟨qv⟩)] h Q:=ay(M:=Pf)(c:=w9)Tryz.func40(show Tryz.f40.body=some w9 by kernel_rfl)(by kernel_rfl)(aj hx(by kernel_rfl))
noncomputable def CB:Code:=(Tryz.f60.body).getD .skip
def Vq:List Nat:=[]
abbrev Vn(qv:LV)(k:Nat)(h:Heap)(Q:VH):Prop:=xN(fp SS.P 39(.agg⟨qv⟩))h fun B1 g2=>xF(ai SS.P 44 g2(pA k))fun g3 a4 c5=>xA(ai SS.P 39 g2(pA(h.next)))fun c6=>ax(Nat.blt g3 YB)(FW SS g3(a4 ++ [(.agg⟨c6⟩)] ++ c5)g2 fun v7 h8=>yB v7 fun b9=>Q(.bool(!b9))h8)False
theorem S8(qv:LV)(k:Nat)(h:Heap)(Q:VH)(hx:Vn qv k h Q):FW SS 60 [(.agg⟨qv⟩),(pA k)] h Q:=ay(M:=Vq)(c:=CB)Tryz.func60(show Tryz.f60.body=some CB by kernel_rfl)(by kernel_rfl)(aj hx(by kernel_rfl))
noncomputable def fV:Code:=(Tryz.f78.body).getD .skip
noncomputable def CJ(Q:VH):ak:=cF SS Tryz.f78.results.toList Q
def wk:List Nat:=[0,1,7,8]
noncomputable def DK(p:List Nat)(w:LV)(h:Heap)(Q:ak):Prop:=bq SS Tryz.f78.ntmps wk(aQ p fV)w h Q
noncomputable def CG(p b:List Nat)(K:ak):ak:=ko SS Tryz.f78.ntmps wk p(aQ b fV)K
abbrev LQ(b:OA)(m d k:Nat)(h:Heap)(Q:VH):Prop:=DK [1,0,1,0,0] [(.slice b m d),(.func(.func 60)⟨[]⟩⟨[(pA k)]⟩),(iA m),(.int .i64 0)] h(CG [1,0,1,0] [] (CJ Q))
theorem JB(b:OA)(m d k:Nat)(h:Heap)(Q:VH)(hx:LQ b m d k h Q):FW SS 78 [(.slice b m d),(.func(.func 60)⟨[]⟩⟨[(pA k)]⟩)] h Q:=ay(M:=wk)(c:=fV)Tryz.func78(show Tryz.f78.body=some fV by kernel_rfl)(by kernel_rfl)(aj hx(by kernel_rfl))
abbrev iE(b:OA)(m d k:Nat)  (j:Nat)  : LV:=[(.slice b m d),(.func(.func 60)⟨[]⟩⟨[(pA k)]⟩),(iA m),(iA j)]
def iz(b:OA)(m d k:Nat)  (Inv:Nat->Nat->Heap->Prop)(mz:Nat)(w:LV)(h:Heap):Prop:= ∃ (j:Nat) ,w=(iE b m d k j )/\Inv mz j h
abbrev yn(b:OA)(m d k:Nat)  (Inv:Nat->Nat->Heap->Prop)(Q:VH)(mz:Nat)(j:Nat)  (zz:Nat->Value)(h:Heap):Prop:=ax(decide(((j:Int):Int) < (m:Int)))(xP(ag SS.P 35(.slice b m d)(iA j))fun p1=>xA(ai SS.P 39 h(.pointer(some p1)))fun c2=>FW SS 60 [(.agg⟨c2⟩),(pA k)] h fun v3 h4=>yB v3 fun b5=>ax b5(Q(iA j)h4)(al(iz b m d k Inv)mz [(.slice b m d),(.func(.func 60)⟨[]⟩⟨[(pA k)]⟩),(iA m),(.int .i64(IntKind.wrap .i64((j:Int) + 1)))] h4))(Q(.int .i64(-1))h)
theorem rS {b:OA}{m d k:Nat}  {Inv:Nat->Nat->Heap->Prop}{mz:Nat}(mq:Nat){j:Nat}  {h:Heap}(hm:mq < mz)(hi:Inv mq j h):al(iz b m d k Inv)mz(iE b m d k j )h :=⟨mq,hm,j,rfl,hi⟩
theorem rN(b:OA)(m d k:Nat)  (Inv:Nat->Nat->Heap->Prop)(Q:VH)(step:∀ (mz:Nat)(j:Nat)  (zz:Nat->Value)(h:Heap),Inv mz j h->yn b m d k Inv Q mz j  zz h)(mz:Nat){j:Nat}  {h:Heap}(hi:Inv mz j h):DK [1,0,1,0,0] (iE b m d k j )h(CG [1,0,1,0] [] (CJ Q)):=
 aq(A:=(iz b m d k Inv))(show aG Tryz.f78.ntmps(aQ [1,0,1,0,0] fV)=true by kernel_rfl)(fun mz w zz h⟨j,hw,hi⟩=> by subst hw; exact aj(step mz j  zz h hi)(by kernel_rfl))mz _ h⟨j,rfl,hi⟩(fun zz=>by kernel_rfl)(by kernel_rfl)
noncomputable def sY:Code:=(Tryz.f59.body).getD .skip
def Nb:List Nat:=[]
abbrev MJ(b:OA)(m d k:Nat)(h:Heap)(Q:VH):Prop:=FW SS 78 [(.slice b m d),(.func(.func 60)⟨[]⟩⟨[(pA k)]⟩)] h fun v1 h2=>yI .i64 v1 fun n3=>Q(.bool(decide((n3:Int)>=0)))h2
theorem JV(b:OA)(m d k:Nat)(h:Heap)(Q:VH)(hx:MJ b m d k h Q):FW SS 59 [(.slice b m d),(.func(.func 60)⟨[]⟩⟨[(pA k)]⟩)] h Q:=ay(M:=Nb)(c:=sY)Tryz.func59(show Tryz.f59.body=some sY by kernel_rfl)(by kernel_rfl)(aj hx(by kernel_rfl))
noncomputable def ml:Code:=(Tryz.f38.body).getD .skip
noncomputable def PW(Q:VH):ak:=cF SS Tryz.f38.results.toList Q
def J7:List Nat:=[2,3,4,11,12,13]
noncomputable def Rk(p:List Nat)(w:LV)(h:Heap)(Q:ak):Prop:=bq SS Tryz.f38.ntmps J7(aQ p ml)w h Q
noncomputable def P4(p b:List Nat)(K:ak):ak:=ko SS Tryz.f38.ntmps J7 p(aQ b ml)K
abbrev Vz(mv:LV)(f:Nat)(h:Heap)(Q:VH):Prop:=xN(fp SS.P 24(.agg⟨mv⟩))h fun B1 g2=>xN(fp SS.P 44(.func(.func f)⟨[]⟩⟨[]⟩))g2 fun B3 g4=>xA(ai SS.P 24 g4(pA(h.next)))fun c5=>FW SS 10 [(.agg⟨c5⟩)] g4 fun v6 h7=>yB v6 fun b8=>ax(!b8)(Q(.bool false)h7)(xP(ah SS.P 24(pA(h.next))3)fun p9=>xL(ai SS.P 22 h7(.pointer(some p9)))fun a10 n11 c12=>Rk [1,1,0,1,0,0] [(pA(h.next)),(pA(g2.next)),(.bool false),(.slice a10 n11 c12),(iA n11),(.int .i64 0)] h7(P4 [1,1,0,1,0] [] (PW Q)))
theorem Th(mv:LV)(f:Nat)(h:Heap)(Q:VH)(hx:Vz mv f h Q):FW SS 38 [(.agg⟨mv⟩),(.func(.func f)⟨[]⟩⟨[]⟩)] h Q:=ay(M:=J7)(c:=ml)Tryz.func38(show Tryz.f38.body=some ml by kernel_rfl)(by kernel_rfl)(aj hx(by kernel_rfl))
abbrev mw(mv:LV)(f:Nat)(k k2:Nat)(a:OA)(n c:Nat)(i:Nat)  : LV:=[(pA k),(pA k2),(.bool false),(.slice a n c),(iA n),(iA i)]
def nu(mv:LV)(f:Nat)(k k2:Nat)(a:OA)(n c:Nat)(Inv:Nat->Nat->Heap->Prop)(mz:Nat)(w:LV)(h:Heap):Prop:= ∃ (i:Nat) ,w=(mw mv f k k2 a n c i )/\Inv mz i h
abbrev Fm(mv:LV)(f:Nat)(k k2:Nat)(a:OA)(n c:Nat)(Inv:Nat->Nat->Heap->Prop)(Q:VH)(mz:Nat)(i:Nat)  (zz:Nat->Value)(h:Heap):Prop:=ax(decide(((i:Int):Int) < (n:Int)))(xP(ag SS.P 22(.slice a n c)(iA i))fun p13=>xA(ai SS.P 37 h(.pointer(some p13)))fun c14=>xN(bj SS.P 37)h fun B15 g16=>xU(am SS.P 37(pA(h.next))(.agg⟨c14⟩)g16)g16 fun u17 g18=>xP(ah SS.P 37(pA(h.next))1)fun p19=>xL(ai SS.P 35 g18(.pointer(some p19)))fun a20 n21 c22=>FW SS 59 [(.slice a20 n21 c22),(.func(.func 60)⟨[]⟩⟨[(pA k2)]⟩)] g18 fun v23 h24=>yB v23 fun b25=>ax b25(Q(.bool false)h24)(al(nu mv f k k2 a n c Inv)mz [(pA k),(pA k2),(.bool false),(.slice a n c),(iA n),(.int .i64(IntKind.wrap .i64((i:Int) + 1)))] h24))(Q(.bool true)h)
theorem x6 {mv:LV}{f:Nat}{k k2:Nat}{a:OA}{n c:Nat}{Inv:Nat->Nat->Heap->Prop}{mz:Nat}(mq:Nat){i:Nat}  {h:Heap}(hm:mq < mz)(hi:Inv mq i h):al(nu mv f k k2 a n c Inv)mz(mw mv f k k2 a n c i )h :=⟨mq,hm,i,rfl,hi⟩
theorem xZ(mv:LV)(f:Nat)(k k2:Nat)(a:OA)(n c:Nat)(Inv:Nat->Nat->Heap->Prop)(Q:VH)(step:∀ (mz:Nat)(i:Nat)  (zz:Nat->Value)(h:Heap),Inv mz i h->Fm mv f k k2 a n c Inv Q mz i  zz h)(mz:Nat){i:Nat}  {h:Heap}(hi:Inv mz i h):Rk [1,1,0,1,0,0] (mw mv f k k2 a n c i )h(P4 [1,1,0,1,0] [] (PW Q)):=
 aq(A:=(nu mv f k k2 a n c Inv))(show aG Tryz.f38.ntmps(aQ [1,1,0,1,0,0] ml)=true by kernel_rfl)(fun mz w zz h⟨i,hw,hi⟩=> by subst hw; exact aj(step mz i  zz h hi)(by kernel_rfl))mz _ h⟨i,rfl,hi⟩(fun zz=>by kernel_rfl)(by kernel_rfl)
noncomputable def Dp:Code:=(Tryz.f12.body).getD .skip
def Vb:List Nat:=[]
abbrev UG(mv:LV)(h:Heap)(Q:VH):Prop:=xN(fp SS.P 24(.agg⟨mv⟩))h fun B1 g2=>xA(ai SS.P 24 g2(pA(h.next)))fun c3=>FW SS 38 [(.agg⟨c3⟩),(.func(.func 39)⟨[]⟩⟨[]⟩)] g2 fun v4 h5=>yB v4 fun b6=>Q(.bool b6)h5
theorem Sc(mv:LV)(h:Heap)(Q:VH)(hx:UG mv h Q):FW SS 12 [(.agg⟨mv⟩)] h Q:=ay(M:=Vb)(c:=Dp)Tryz.func12(show Tryz.f12.body=some Dp by kernel_rfl)(by kernel_rfl)(aj hx(by kernel_rfl))
noncomputable def wH:Code:=(Tryz.f14.body).getD .skip
def QJ:List Nat:=[]
abbrev Qw(mv:LV)(h:Heap)(Q:VH):Prop:=xN(fp SS.P 24(.agg⟨mv⟩))h fun B1 g2=>xA(ai SS.P 24 g2(pA(h.next)))fun c3=>FW SS 38 [(.agg⟨c3⟩),(.func(.func 40)⟨[]⟩⟨[]⟩)] g2 fun v4 h5=>yB v4 fun b6=>Q(.bool b6)h5
theorem Mb(mv:LV)(h:Heap)(Q:VH)(hx:Qw mv h Q):FW SS 14 [(.agg⟨mv⟩)] h Q:=ay(M:=QJ)(c:=wH)Tryz.func14(show Tryz.f14.body=some wH by kernel_rfl)(by kernel_rfl)(aj hx(by kernel_rfl))
noncomputable def fe:Code:=(Tryz.f20.body).getD .skip
noncomputable def sq(Q:VH):ak:=cF SS Tryz.f20.results.toList Q
def oG:List Nat:=[1,2,4,11,12,13,18,19,20]
noncomputable def tW(p:List Nat)(w:LV)(h:Heap)(Q:ak):Prop:=bq SS Tryz.f20.ntmps oG(aQ p fe)w h Q
noncomputable def lV(p b:List Nat)(K:ak):ak:=ko SS Tryz.f20.ntmps oG p(aQ b fe)K
abbrev Qx(mv:LV)(h:Heap)(Q:VH):Prop:=xN(fp SS.P 24(.agg⟨mv⟩))h fun B1 g2=>xA(ai SS.P 24 g2(pA(h.next)))fun c3=>FW SS 10 [(.agg⟨c3⟩)] g2 fun v4 h5=>yB v4 fun b6=>ax(!b6)(Q(.int .i64 0)h5)(xP(ah SS.P 24(pA(h.next))3)fun p7=>xL(ai SS.P 22 h5(.pointer(some p7)))fun a8 n9 c10=>tW [1,1,0,1,0,0] [(pA(h.next)),(.int .i64 0),undef,(.slice a8 n9 c10),(iA n9),(.int .i64 0),undef,undef,undef] h5(lV [1,1,0,1,0] [] (sq Q)))
theorem LF(mv:LV)(h:Heap)(Q:VH)(hx:Qx mv h Q):FW SS 20 [(.agg⟨mv⟩)] h Q:=ay(M:=oG)(c:=fe)Tryz.func20(show Tryz.f20.body=some fe by kernel_rfl)(by kernel_rfl)(aj hx(by kernel_rfl))
abbrev ke(mv:LV)(k:Nat)(a:OA)(n c:Nat)(i:Nat)(g:Int)(y4 y18 y19 y20:Value):LV:=[(pA k),(.int .i64 g),y4,(.slice a n c),(iA n),(iA i),y18,y19,y20]
def dP(mv:LV)(k:Nat)(a:OA)(n c:Nat)(Inv:Nat->Nat->Int->Heap->Prop)(mz:Nat)(w:LV)(h:Heap):Prop:= ∃ (i:Nat)(g:Int)(y4 y18 y19 y20:Value),w=(ke mv k a n c i g y4 y18 y19 y20)/\Inv mz i g h
abbrev zx(mv:LV)(k:Nat)(a:OA)(n c:Nat)(Inv:Nat->Nat->Int->Heap->Prop)(Q:VH)(mz:Nat)(i:Nat)(g:Int)(y4 y18 y19 y20:Value)(zz:Nat->Value)(h:Heap):Prop:=ax(decide(((i:Int):Int) < (n:Int)))(xP(ag SS.P 22(.slice a n c)(iA i))fun p11=>xA(ai SS.P 37 h(.pointer(some p11)))fun c12=>xN(bj SS.P 37)h fun B13 g14=>xU(am SS.P 37(pA(h.next))(.agg⟨c12⟩)g14)g14 fun u15 g16=>xP(ah SS.P 37(pA(h.next))1)fun p17=>xL(ai SS.P 35 g16(.pointer(some p17)))fun a18 n19 c20=>tW [1,1,0,1,0,0,1,1,0,0,1,1,0,0] [(pA k),(.int .i64 g),(pA(h.next)),(.slice a n c),(iA n),(iA i),(.slice a18 n19 c20),(iA n19),(.int .i64 0)] g16(lV [1,1,0,0,1,1,0] [1,1,0,1,0,0] (aU oG(dP mv k a n c Inv)mz(lV [1,1,0,1,0] [] (sq Q)))))(Q(.int .i64 g)h)
theorem tC {mv:LV}{k:Nat}{a:OA}{n c:Nat}{Inv:Nat->Nat->Int->Heap->Prop}{mz:Nat}(mq:Nat){i:Nat}{g:Int}{y4 y18 y19 y20:Value}{h:Heap}(hm:mq < mz)(hi:Inv mq i g h):al(dP mv k a n c Inv)mz(ke mv k a n c i g y4 y18 y19 y20)h :=⟨mq,hm,i,g,y4,y18,y19,y20,rfl,hi⟩
theorem tq(mv:LV)(k:Nat)(a:OA)(n c:Nat)(Inv:Nat->Nat->Int->Heap->Prop)(Q:VH)(step:∀ (mz:Nat)(i:Nat)(g:Int)(y4 y18 y19 y20:Value)(zz:Nat->Value)(h:Heap),Inv mz i g h->zx mv k a n c Inv Q mz i g y4 y18 y19 y20 zz h)(mz:Nat){i:Nat}{g:Int}{y4 y18 y19 y20:Value}{h:Heap}(hi:Inv mz i g h):tW [1,1,0,1,0,0] (ke mv k a n c i g y4 y18 y19 y20)h(lV [1,1,0,1,0] [] (sq Q)):=
 aq(A:=(dP mv k a n c Inv))(show aG Tryz.f20.ntmps(aQ [1,1,0,1,0,0] fe)=true by kernel_rfl)(fun mz w zz h⟨i,g,y4,y18,y19,y20,hw,hi⟩=> by subst hw; exact aj(step mz i g y4 y18 y19 y20 zz h hi)(by kernel_rfl))mz _ h⟨i,g,y4,y18,y19,y20,rfl,hi⟩(fun zz=>by kernel_rfl)(by kernel_rfl)
abbrev jF(mv:LV)(k:Nat)(a:OA)(n c k2:Nat)(b:OA)(m d i:Nat)(j:Nat)(g:Int)  : LV:=[(pA k),(.int .i64 g),(pA k2),(.slice a n c),(iA n),(iA i),(.slice b m d),(iA m),(iA j)]
def jM(mv:LV)(k:Nat)(a:OA)(n c k2:Nat)(b:OA)(m d i:Nat)(Inv2:Nat->Nat->Int->Heap->Prop)(mz2:Nat)(w:LV)(h:Heap):Prop:= ∃ (j:Nat)(g:Int) ,w=(jF mv k a n c k2 b m d i j g )/\Inv2 mz2 j g h
abbrev Au(mv:LV)(k:Nat)(a:OA)(n c k2:Nat)(b:OA)(m d:Nat)(Inv:Nat->Nat->Int->Heap->Prop)(mz i:Nat)(Inv2:Nat->Nat->Int->Heap->Prop)(Q:VH)(mz2:Nat)(j:Nat)(g:Int)  (zz:Nat->Value)(h:Heap):Prop:=ax(decide(((j:Int):Int) < (m:Int)))(xP(ag SS.P 35(.slice b m d)(iA j))fun p21=>xA(ai SS.P 39 h(.pointer(some p21)))fun c22=>xN(bj SS.P 39)h fun B23 g24=>xU(am SS.P 39(pA(h.next))(.agg⟨c22⟩)g24)g24 fun u25 g26=>xP(ah SS.P 39(pA(h.next))0)fun p27=>xI .i64(ai SS.P 3 g26(.pointer(some p27)))fun n28=>xP(ah SS.P 39(pA(h.next))1)fun p29=>xI .i64(ai SS.P 3 g26(.pointer(some p29)))fun n30=>xI .i64(km true [(.int .i64 g),(.int .i64 n28),(.int .i64 n30)])fun n31=>al(jM mv k a n c k2 b m d i Inv2)mz2 [(pA k),(.int .i64 n31),(pA k2),(.slice a n c),(iA n),(iA i),(.slice b m d),(iA m),(.int .i64(IntKind.wrap .i64((j:Int) + 1)))] g26)(al(dP mv k a n c Inv)mz [(pA k),(.int .i64 g),(pA k2),(.slice a n c),(iA n),(.int .i64(IntKind.wrap .i64((i:Int) + 1))),(.slice b m d),(iA m),(iA j)] h)
theorem sy {mv:LV}{k:Nat}{a:OA}{n c k2:Nat}{b:OA}{m d i:Nat}{Inv2:Nat->Nat->Int->Heap->Prop}{mz2:Nat}(mq:Nat){j:Nat}{g:Int}  {h:Heap}(hm:mq < mz2)(hi:Inv2 mq j g h):al(jM mv k a n c k2 b m d i Inv2)mz2(jF mv k a n c k2 b m d i j g )h :=⟨mq,hm,j,g,rfl,hi⟩
theorem su(mv:LV)(k:Nat)(a:OA)(n c k2:Nat)(b:OA)(m d:Nat)(Inv:Nat->Nat->Int->Heap->Prop)(mz i:Nat)(Inv2:Nat->Nat->Int->Heap->Prop)(Q:VH)(step:∀ (mz2:Nat)(j:Nat)(g:Int)  (zz:Nat->Value)(h:Heap),Inv2 mz2 j g h->Au mv k a n c k2 b m d Inv mz i Inv2 Q mz2 j g  zz h)(mz2:Nat){j:Nat}{g:Int}  {h:Heap}(hi:Inv2 mz2 j g h):tW [1,1,0,1,0,0,1,1,0,0,1,1,0,0] (jF mv k a n c k2 b m d i j g )h(lV [1,1,0,0,1,1,0] [1,1,0,1,0,0] (aU oG(dP mv k a n c Inv)mz(lV [1,1,0,1,0] [] (sq Q)))):=
 aq(A:=(jM mv k a n c k2 b m d i Inv2))(show aG Tryz.f20.ntmps(aQ [1,1,0,1,0,0,1,1,0,0,1,1,0,0] fe)=true by kernel_rfl)(fun mz2 w zz h⟨j,g,hw,hi⟩=> by subst hw; exact aj(step mz2 j g  zz h hi)(by kernel_rfl))mz2 _ h⟨j,g,rfl,hi⟩(fun zz=>by kernel_rfl)(by kernel_rfl)
noncomputable def iU:Code:=(Tryz.f13.body).getD .skip
noncomputable def El(Q:VH):ak:=cF SS Tryz.f13.results.toList Q
def z9:List Nat:=[1,2,3,4]
noncomputable def Ei(p:List Nat)(w:LV)(h:Heap)(Q:ak):Prop:=bq SS Tryz.f13.ntmps z9(aQ p iU)w h Q
noncomputable def vp(p b:List Nat)(K:ak):ak:=ko SS Tryz.f13.ntmps z9 p(aQ b iU)K
abbrev UT(mv:LV)(h:Heap)(Q:VH):Prop:=xN(fp SS.P 24(.agg⟨mv⟩))h fun B1 g2=>xA(ai SS.P 24 g2(pA(h.next)))fun c3=>FW SS 11 [(.agg⟨c3⟩)] g2 fun v4 h5=>yB v4 fun b6=>ax(!b6)(Q(.bool false)h5)(Ei [1,1,0,1,0,0] [(pA(h.next)),(.bool false),(.int .i64 0),undef] h5(vp [1,1,0,1,0] [] (El Q)))
theorem SC(mv:LV)(h:Heap)(Q:VH)(hx:UT mv h Q):FW SS 13 [(.agg⟨mv⟩)] h Q:=ay(M:=z9)(c:=iU)Tryz.func13(show Tryz.f13.body=some iU by kernel_rfl)(by kernel_rfl)(aj hx(by kernel_rfl))
abbrev m3(mv:LV)(k:Nat)(i:Nat)(y4:Value):LV:=[(pA k),(.bool false),(iA i),y4]
def fP(mv:LV)(k:Nat)(Inv:Nat->Nat->Heap->Prop)(mz:Nat)(w:LV)(h:Heap):Prop:= ∃ (i:Nat)(y4:Value),w=(m3 mv k i y4)/\Inv mz i h
abbrev D9(mv:LV)(k:Nat)(Inv:Nat->Nat->Heap->Prop)(Q:VH)(mz:Nat)(i:Nat)(y4:Value)(zz:Nat->Value)(h:Heap):Prop:=xP(ah SS.P 24(pA k)3)fun p7=>xL(ai SS.P 22 h(.pointer(some p7)))fun a8 n9 c10=>ax(decide(((i:Int):Int) < (n9:Int)))(Ei [1,1,0,1,0,0,1,0,0,1,0,0] [(pA k),(.bool false),(iA i),(.int .i64 0)] h(vp [1,0,0,1,0] [1,1,0,1,0,0] (aU z9(fP mv k Inv)mz(vp [1,1,0,1,0] [] (El Q)))))(Q(.bool true)h)
theorem yp {mv:LV}{k:Nat}{Inv:Nat->Nat->Heap->Prop}{mz:Nat}(mq:Nat){i:Nat}{y4:Value}{h:Heap}(hm:mq < mz)(hi:Inv mq i h):al(fP mv k Inv)mz(m3 mv k i y4)h :=⟨mq,hm,i,y4,rfl,hi⟩
theorem yi(mv:LV)(k:Nat)(Inv:Nat->Nat->Heap->Prop)(Q:VH)(step:∀ (mz:Nat)(i:Nat)(y4:Value)(zz:Nat->Value)(h:Heap),Inv mz i h->D9 mv k Inv Q mz i y4 zz h)(mz:Nat){i:Nat}{y4:Value}{h:Heap}(hi:Inv mz i h):Ei [1,1,0,1,0,0] (m3 mv k i y4)h(vp [1,1,0,1,0] [] (El Q)):=
 aq(A:=(fP mv k Inv))(show aG Tryz.f13.ntmps(aQ [1,1,0,1,0,0] iU)=true by kernel_rfl)(fun mz w zz h⟨i,y4,hw,hi⟩=> by subst hw; exact aj(step mz i y4 zz h hi)(by kernel_rfl))mz _ h⟨i,y4,rfl,hi⟩(fun zz=>by kernel_rfl)(by kernel_rfl)
abbrev mX(mv:LV)(k i:Nat)(j:Nat)  : LV:=[(pA k),(.bool false),(iA i),(iA j)]
def mI(mv:LV)(k i:Nat)(Inv2:Nat->Nat->Heap->Prop)(mz2:Nat)(w:LV)(h:Heap):Prop:= ∃ (j:Nat) ,w=(mX mv k i j )/\Inv2 mz2 j h
abbrev Ea(mv:LV)(k:Nat)(Inv:Nat->Nat->Heap->Prop)(mz i:Nat)(Inv2:Nat->Nat->Heap->Prop)(Q:VH)(mz2:Nat)(j:Nat)  (zz:Nat->Value)(h:Heap):Prop:=xP(ah SS.P 24(pA k)3)fun p11=>xL(ai SS.P 22 h(.pointer(some p11)))fun a12 n13 c14=>xP(ag SS.P 22(.slice a12 n13 c14)(iA i))fun p15=>xP(ah SS.P 37(.pointer(some p15))1)fun p16=>xL(ai SS.P 35 h(.pointer(some p16)))fun a17 n18 c19=>ax(decide(((j:Int):Int) < (n18:Int)))(xP(ah SS.P 24(pA k)3)fun p20=>xL(ai SS.P 22(room h 21)(.pointer(some p20)))fun a21 n22 c23=>xP(ag SS.P 22(.slice a21 n22 c23)(iA i))fun p24=>xP(ah SS.P 37(.pointer(some p24))1)fun p25=>xL(ai SS.P 35(room h 21)(.pointer(some p25)))fun a26 n27 c28=>xP(ag SS.P 35(.slice a26 n27 c28)(iA j))fun p29=>xP(ah SS.P 39(.pointer(some p29))0)fun p30=>xI .i64(ai SS.P 3(room h 21)(.pointer(some p30)))fun n31=>xP(ah SS.P 24(pA k)3)fun p32=>xL(ai SS.P 22(room h 21)(.pointer(some p32)))fun a33 n34 c35=>xP(ag SS.P 22(.slice a33 n34 c35)(iA i))fun p36=>xP(ah SS.P 37(.pointer(some p36))1)fun p37=>xL(ai SS.P 35(room h 21)(.pointer(some p37)))fun a38 n39 c40=>xP(ag SS.P 35(.slice a38 n39 c40)(iA j))fun p41=>xP(ah SS.P 39(.pointer(some p41))1)fun p42=>xI .i64(ai SS.P 3(room h 21)(.pointer(some p42)))fun n43=>ax(((n31:Int) != n43))(Q(.bool false)(room h 21))(al(mI mv k i Inv2)mz2 [(pA k),(.bool false),(iA i),(.int .i64(IntKind.wrap .i64((j:Int) + 1)))] (room h 21)))(al(fP mv k Inv)mz [(pA k),(.bool false),(.int .i64(IntKind.wrap .i64((i:Int) + 1))),(iA j)] h)
theorem xW {mv:LV}{k i:Nat}{Inv2:Nat->Nat->Heap->Prop}{mz2:Nat}(mq:Nat){j:Nat}  {h:Heap}(hm:mq < mz2)(hi:Inv2 mq j h):al(mI mv k i Inv2)mz2(mX mv k i j )h :=⟨mq,hm,j,rfl,hi⟩
theorem yk(mv:LV)(k:Nat)(Inv:Nat->Nat->Heap->Prop)(mz i:Nat)(Inv2:Nat->Nat->Heap->Prop)(Q:VH)(step:∀ (mz2:Nat)(j:Nat)  (zz:Nat->Value)(h:Heap),Inv2 mz2 j h->Ea mv k Inv mz i Inv2 Q mz2 j  zz h)(mz2:Nat){j:Nat}  {h:Heap}(hi:Inv2 mz2 j h):Ei [1,1,0,1,0,0,1,0,0,1,0,0] (mX mv k i j )h(vp [1,0,0,1,0] [1,1,0,1,0,0] (aU z9(fP mv k Inv)mz(vp [1,1,0,1,0] [] (El Q)))):=
 aq(A:=(mI mv k i Inv2))(show aG Tryz.f13.ntmps(aQ [1,1,0,1,0,0,1,0,0,1,0,0] iU)=true by kernel_rfl)(fun mz2 w zz h⟨j,hw,hi⟩=> by subst hw; exact aj(step mz2 j  zz h hi)(by kernel_rfl))mz2 _ h⟨j,rfl,hi⟩(fun zz=>by kernel_rfl)(by kernel_rfl)
noncomputable def fk:Code:=(Tryz.f15.body).getD .skip
noncomputable def tY(Q:VH):ak:=cF SS Tryz.f15.results.toList Q
def pN:List Nat:=[1,2,3,4]
noncomputable def uR(p:List Nat)(w:LV)(h:Heap)(Q:ak):Prop:=bq SS Tryz.f15.ntmps pN(aQ p fk)w h Q
noncomputable def lL(p b:List Nat)(K:ak):ak:=ko SS Tryz.f15.ntmps pN p(aQ b fk)K
abbrev Ol(mv:LV)(h:Heap)(Q:VH):Prop:=xN(fp SS.P 24(.agg⟨mv⟩))h fun B1 g2=>xA(ai SS.P 24 g2(pA(h.next)))fun c3=>FW SS 11 [(.agg⟨c3⟩)] g2 fun v4 h5=>yB v4 fun b6=>ax(!b6)(Q(.bool false)h5)(uR [1,1,0,1,0,0] [(pA(h.next)),(.bool false),(.int .i64 0),undef] h5(lL [1,1,0,1,0] [] (tY Q)))
theorem MQ(mv:LV)(h:Heap)(Q:VH)(hx:Ol mv h Q):FW SS 15 [(.agg⟨mv⟩)] h Q:=ay(M:=pN)(c:=fk)Tryz.func15(show Tryz.f15.body=some fk by kernel_rfl)(by kernel_rfl)(aj hx(by kernel_rfl))
abbrev jN(mv:LV)(k:Nat)(i:Nat)(y4:Value):LV:=[(pA k),(.bool false),(iA i),y4]
def dX(mv:LV)(k:Nat)(Inv:Nat->Nat->Heap->Prop)(mz:Nat)(w:LV)(h:Heap):Prop:= ∃ (i:Nat)(y4:Value),w=(jN mv k i y4)/\Inv mz i h
abbrev A7(mv:LV)(k:Nat)(Inv:Nat->Nat->Heap->Prop)(Q:VH)(mz:Nat)(i:Nat)(y4:Value)(zz:Nat->Value)(h:Heap):Prop:=xP(ah SS.P 24(pA k)3)fun p7=>xL(ai SS.P 22 h(.pointer(some p7)))fun a8 n9 c10=>ax(decide(((i:Int):Int) < (n9:Int)))(uR [1,1,0,1,0,0,1,0,0,1,0,0] [(pA k),(.bool false),(iA i),(.int .i64 0)] h(lL [1,0,0,1,0] [1,1,0,1,0,0] (aU pN(dX mv k Inv)mz(lL [1,1,0,1,0] [] (tY Q)))))(Q(.bool true)h)
theorem uj {mv:LV}{k:Nat}{Inv:Nat->Nat->Heap->Prop}{mz:Nat}(mq:Nat){i:Nat}{y4:Value}{h:Heap}(hm:mq < mz)(hi:Inv mq i h):al(dX mv k Inv)mz(jN mv k i y4)h :=⟨mq,hm,i,y4,rfl,hi⟩
theorem sL(mv:LV)(k:Nat)(Inv:Nat->Nat->Heap->Prop)(Q:VH)(step:∀ (mz:Nat)(i:Nat)(y4:Value)(zz:Nat->Value)(h:Heap),Inv mz i h->A7 mv k Inv Q mz i y4 zz h)(mz:Nat){i:Nat}{y4:Value}{h:Heap}(hi:Inv mz i h):uR [1,1,0,1,0,0] (jN mv k i y4)h(lL [1,1,0,1,0] [] (tY Q)):=
 aq(A:=(dX mv k Inv))(show aG Tryz.f15.ntmps(aQ [1,1,0,1,0,0] fk)=true by kernel_rfl)(fun mz w zz h⟨i,y4,hw,hi⟩=> by subst hw; exact aj(step mz i y4 zz h hi)(by kernel_rfl))mz _ h⟨i,y4,rfl,hi⟩(fun zz=>by kernel_rfl)(by kernel_rfl)
abbrev j7(mv:LV)(k i:Nat)(j:Nat)  : LV:=[(pA k),(.bool false),(iA i),(iA j)]
def fE(mv:LV)(k i:Nat)(Inv2:Nat->Nat->Heap->Prop)(mz2:Nat)(w:LV)(h:Heap):Prop:= ∃ (j:Nat) ,w=(j7 mv k i j )/\Inv2 mz2 j h
abbrev zq(mv:LV)(k:Nat)(Inv:Nat->Nat->Heap->Prop)(mz i:Nat)(Inv2:Nat->Nat->Heap->Prop)(Q:VH)(mz2:Nat)(j:Nat)  (zz:Nat->Value)(h:Heap):Prop:=xP(ah SS.P 24(pA k)3)fun p11=>xL(ai SS.P 22 h(.pointer(some p11)))fun a12 n13 c14=>xP(ag SS.P 22(.slice a12 n13 c14)(iA i))fun p15=>xP(ah SS.P 37(.pointer(some p15))1)fun p16=>xL(ai SS.P 35 h(.pointer(some p16)))fun a17 n18 c19=>ax(decide(((j:Int):Int) < (n18:Int)))(xP(ah SS.P 24(pA k)3)fun p20=>xL(ai SS.P 22 h(.pointer(some p20)))fun a21 n22 c23=>xP(ag SS.P 22(.slice a21 n22 c23)(iA i))fun p24=>xP(ah SS.P 37(.pointer(some p24))1)fun p25=>xL(ai SS.P 35 h(.pointer(some p25)))fun a26 n27 c28=>xP(ag SS.P 35(.slice a26 n27 c28)(iA j))fun p29=>xP(ah SS.P 39(.pointer(some p29))0)fun p30=>xI .i64(ai SS.P 3 h(.pointer(some p30)))fun n31=>ax(((n31:Int) == 0))(xP(ah SS.P 24(pA k)3)fun p32=>xL(ai SS.P 22 h(.pointer(some p32)))fun a33 n34 c35=>xP(ag SS.P 22(.slice a33 n34 c35)(iA i))fun p36=>xP(ah SS.P 37(.pointer(some p36))1)fun p37=>xL(ai SS.P 35 h(.pointer(some p37)))fun a38 n39 c40=>xP(ag SS.P 35(.slice a38 n39 c40)(iA j))fun p41=>xP(ah SS.P 39(.pointer(some p41))1)fun p42=>xI .i64(ai SS.P 3 h(.pointer(some p42)))fun n43=>ax(((n43:Int) == 0))(Q(.bool false)h)(al(fE mv k i Inv2)mz2 [(pA k),(.bool false),(iA i),(.int .i64(IntKind.wrap .i64((j:Int) + 1)))] h))(al(fE mv k i Inv2)mz2 [(pA k),(.bool false),(iA i),(.int .i64(IntKind.wrap .i64((j:Int) + 1)))] h))(al(dX mv k Inv)mz [(pA k),(.bool false),(.int .i64(IntKind.wrap .i64((i:Int) + 1))),(iA j)] h)
theorem kX {mv:LV}{k i:Nat}{Inv2:Nat->Nat->Heap->Prop}{mz2:Nat}(mq:Nat){j:Nat}  {h:Heap}(hm:mq < mz2)(hi:Inv2 mq j h):al(fE mv k i Inv2)mz2(j7 mv k i j )h :=⟨mq,hm,j,rfl,hi⟩
theorem sv(mv:LV)(k:Nat)(Inv:Nat->Nat->Heap->Prop)(mz i:Nat)(Inv2:Nat->Nat->Heap->Prop)(Q:VH)(step:∀ (mz2:Nat)(j:Nat)  (zz:Nat->Value)(h:Heap),Inv2 mz2 j h->zq mv k Inv mz i Inv2 Q mz2 j  zz h)(mz2:Nat){j:Nat}  {h:Heap}(hi:Inv2 mz2 j h):uR [1,1,0,1,0,0,1,0,0,1,0,0] (j7 mv k i j )h(lL [1,0,0,1,0] [1,1,0,1,0,0] (aU pN(dX mv k Inv)mz(lL [1,1,0,1,0] [] (tY Q)))):=
 aq(A:=(fE mv k i Inv2))(show aG Tryz.f15.ntmps(aQ [1,1,0,1,0,0,1,0,0,1,0,0] fk)=true by kernel_rfl)(fun mz2 w zz h⟨j,hw,hi⟩=> by subst hw; exact aj(step mz2 j  zz h hi)(by kernel_rfl))mz2 _ h⟨j,rfl,hi⟩(fun zz=>by kernel_rfl)(by kernel_rfl)
noncomputable def e8:Code:=(Tryz.f21.body).getD .skip
noncomputable def uJ(Q:VH):ak:=cF SS Tryz.f21.results.toList Q
def oU:List Nat:=[1,3,4,5]
noncomputable def tR(p:List Nat)(w:LV)(h:Heap)(Q:ak):Prop:=bq SS Tryz.f21.ntmps oU(aQ p e8)w h Q
noncomputable def md(p b:List Nat)(K:ak):ak:=ko SS Tryz.f21.ntmps oU p(aQ b e8)K
abbrev OD(mv:LV)(h:Heap)(Q:VH):Prop:=xN(fp SS.P 24(.agg⟨mv⟩))h fun B1 g2=>xA(ai SS.P 24 g2(pA(h.next)))fun c3=>FW SS 11 [(.agg⟨c3⟩)] g2 fun v4 h5=>yB v4 fun b6=>ax(!b6)(Q(.int .i64 0)h5)(tR [1,1,1,0,1,0,0] [(pA(h.next)),(.int .i64 0),(.int .i64 0),undef] h5(md [1,1,1,0,1,0] [] (uJ Q)))
theorem LJ(mv:LV)(h:Heap)(Q:VH)(hx:OD mv h Q):FW SS 21 [(.agg⟨mv⟩)] h Q:=ay(M:=oU)(c:=e8)Tryz.func21(show Tryz.f21.body=some e8 by kernel_rfl)(by kernel_rfl)(aj hx(by kernel_rfl))
abbrev jT(mv:LV)(k:Nat)(i:Nat)(g:Int)(y5:Value):LV:=[(pA k),(.int .i64 g),(iA i),y5]
def dI(mv:LV)(k:Nat)(Inv:Nat->Nat->Int->Heap->Prop)(mz:Nat)(w:LV)(h:Heap):Prop:= ∃ (i:Nat)(g:Int)(y5:Value),w=(jT mv k i g y5)/\Inv mz i g h
abbrev Af(mv:LV)(k:Nat)(Inv:Nat->Nat->Int->Heap->Prop)(Q:VH)(mz:Nat)(i:Nat)(g:Int)(y5:Value)(zz:Nat->Value)(h:Heap):Prop:=xP(ah SS.P 24(pA k)3)fun p7=>xL(ai SS.P 22 h(.pointer(some p7)))fun a8 n9 c10=>ax(decide(((i:Int):Int) < (n9:Int)))(tR [1,1,1,0,1,0,0,1,0,0,1,0,0] [(pA k),(.int .i64 g),(iA i),(.int .i64 0)] h(md [1,0,0,1,0] [1,1,1,0,1,0,0] (aU oU(dI mv k Inv)mz(md [1,1,1,0,1,0] [] (uJ Q)))))(Q(.int .i64 g)h)
theorem tS {mv:LV}{k:Nat}{Inv:Nat->Nat->Int->Heap->Prop}{mz:Nat}(mq:Nat){i:Nat}{g:Int}{y5:Value}{h:Heap}(hm:mq < mz)(hi:Inv mq i g h):al(dI mv k Inv)mz(jT mv k i g y5)h :=⟨mq,hm,i,g,y5,rfl,hi⟩
theorem tr(mv:LV)(k:Nat)(Inv:Nat->Nat->Int->Heap->Prop)(Q:VH)(step:∀ (mz:Nat)(i:Nat)(g:Int)(y5:Value)(zz:Nat->Value)(h:Heap),Inv mz i g h->Af mv k Inv Q mz i g y5 zz h)(mz:Nat){i:Nat}{g:Int}{y5:Value}{h:Heap}(hi:Inv mz i g h):tR [1,1,1,0,1,0,0] (jT mv k i g y5)h(md [1,1,1,0,1,0] [] (uJ Q)):=
 aq(A:=(dI mv k Inv))(show aG Tryz.f21.ntmps(aQ [1,1,1,0,1,0,0] e8)=true by kernel_rfl)(fun mz w zz h⟨i,g,y5,hw,hi⟩=> by subst hw; exact aj(step mz i g y5 zz h hi)(by kernel_rfl))mz _ h⟨i,g,y5,rfl,hi⟩(fun zz=>by kernel_rfl)(by kernel_rfl)
abbrev i5(mv:LV)(k i:Nat)(j:Nat)(g:Int)  : LV:=[(pA k),(.int .i64 g),(iA i),(iA j)]
def jf(mv:LV)(k i:Nat)(Inv2:Nat->Nat->Int->Heap->Prop)(mz2:Nat)(w:LV)(h:Heap):Prop:= ∃ (j:Nat)(g:Int) ,w=(i5 mv k i j g )/\Inv2 mz2 j g h
abbrev zO(mv:LV)(k:Nat)(Inv:Nat->Nat->Int->Heap->Prop)(mz i:Nat)(Inv2:Nat->Nat->Int->Heap->Prop)(Q:VH)(mz2:Nat)(j:Nat)(g:Int)  (zz:Nat->Value)(h:Heap):Prop:=xP(ah SS.P 24(pA k)3)fun p11=>xL(ai SS.P 22 h(.pointer(some p11)))fun a12 n13 c14=>xP(ag SS.P 22(.slice a12 n13 c14)(iA i))fun p15=>xP(ah SS.P 37(.pointer(some p15))1)fun p16=>xL(ai SS.P 35 h(.pointer(some p16)))fun a17 n18 c19=>ax(decide(((j:Int):Int) < (n18:Int)))(xP(ah SS.P 24(pA k)3)fun p20=>xL(ai SS.P 22(room h 23)(.pointer(some p20)))fun a21 n22 c23=>xP(ag SS.P 22(.slice a21 n22 c23)(iA i))fun p24=>xP(ah SS.P 37(.pointer(some p24))1)fun p25=>xL(ai SS.P 35(room h 23)(.pointer(some p25)))fun a26 n27 c28=>xP(ag SS.P 35(.slice a26 n27 c28)(iA j))fun p29=>xP(ah SS.P 39(.pointer(some p29))0)fun p30=>xI .i64(ai SS.P 3(room h 23)(.pointer(some p30)))fun n31=>xP(ah SS.P 24(pA k)3)fun p32=>xL(ai SS.P 22(room h 23)(.pointer(some p32)))fun a33 n34 c35=>xP(ag SS.P 22(.slice a33 n34 c35)(iA i))fun p36=>xP(ah SS.P 37(.pointer(some p36))1)fun p37=>xL(ai SS.P 35(room h 23)(.pointer(some p37)))fun a38 n39 c40=>xP(ag SS.P 35(.slice a38 n39 c40)(iA j))fun p41=>xP(ah SS.P 39(.pointer(some p41))1)fun p42=>xI .i64(ai SS.P 3(room h 23)(.pointer(some p42)))fun n43=>xI .i64(km true [(.int .i64 g),(.int .i64 n31),(.int .i64 n43)])fun n44=>al(jf mv k i Inv2)mz2 [(pA k),(.int .i64 n44),(iA i),(.int .i64(IntKind.wrap .i64((j:Int) + 1)))] (room h 23))(al(dI mv k Inv)mz [(pA k),(.int .i64 g),(.int .i64(IntKind.wrap .i64((i:Int) + 1))),(iA j)] h)
theorem uL {mv:LV}{k i:Nat}{Inv2:Nat->Nat->Int->Heap->Prop}{mz2:Nat}(mq:Nat){j:Nat}{g:Int}  {h:Heap}(hm:mq < mz2)(hi:Inv2 mq j g h):al(jf mv k i Inv2)mz2(i5 mv k i j g )h :=⟨mq,hm,j,g,rfl,hi⟩
theorem uf(mv:LV)(k:Nat)(Inv:Nat->Nat->Int->Heap->Prop)(mz i:Nat)(Inv2:Nat->Nat->Int->Heap->Prop)(Q:VH)(step:∀ (mz2:Nat)(j:Nat)(g:Int)  (zz:Nat->Value)(h:Heap),Inv2 mz2 j g h->zO mv k Inv mz i Inv2 Q mz2 j g  zz h)(mz2:Nat){j:Nat}{g:Int}  {h:Heap}(hi:Inv2 mz2 j g h):tR [1,1,1,0,1,0,0,1,0,0,1,0,0] (i5 mv k i j g )h(md [1,0,0,1,0] [1,1,1,0,1,0,0] (aU oU(dI mv k Inv)mz(md [1,1,1,0,1,0] [] (uJ Q)))):=
 aq(A:=(jf mv k i Inv2))(show aG Tryz.f21.ntmps(aQ [1,1,1,0,1,0,0,1,0,0,1,0,0] e8)=true by kernel_rfl)(fun mz2 w zz h⟨j,g,hw,hi⟩=> by subst hw; exact aj(step mz2 j g  zz h hi)(by kernel_rfl))mz2 _ h⟨j,g,rfl,hi⟩(fun zz=>by kernel_rfl)(by kernel_rfl)
end Go.Proofs.YtoabjjimjldcfaaGreatDoor
end
section
set_option linter.unusedVariables false
set_option maxRecDepth 100000
namespace Go.Proofs.YtoabjjimjldcfaaGreatDoor
open Go Go.Ab
def BL(t:MArc->Bool)(l:List MSt):Bool:=l.all fun s=>s.arcs.all t
def Cg(q:MArc):Bool:=q.i == q.o
def fR(q:MArc):Bool:=q.i != 0 || q.o != 0
def Ja(f:Nat)(t:MArc->Bool):Prop:= ∀ (q:MArc)(g:Heap),Wf g->FW SS f [.agg⟨lG q⟩] g(fun v g'=>v = .bool(t q)/\Ok g g')
def Bq(q:MArc):Blk:= .cells(lG q)39 0 true
theorem N0(q:MArc):fp SS.P 39(.agg⟨lG q⟩)=some(Bq q,ks):=by kernel_rfl
theorem Sv:Ja 39 Cg:=fun q g w=>by
 have b:AB(g.push(Bq q))g.next q:=aZ g _
 exact RQ _ g _⟨_,N0 q,_,iF _ _,_,b.l0,_,mK _ _,_,b.l1,rfl,(Ok.refl w).push _⟩
theorem NC:Ja 40 fR:=fun q g w=>by
 have b:AB(g.push(Bq q))g.next q:=aZ g _
 refine L9 _ g _⟨_,N0 q,_,iF _ _,_,b.l0,ae(fun t =>⟨?_,(Ok.refl w).push _⟩)(fun t =>⟨_,mK _ _,_,b.l1,?_,(Ok.refl w).push _⟩)⟩
 · unfold fR; rw [t]; rfl
 · unfold fR; rw [t]; rfl
noncomputable def W4:TypeDesc:=(SS.P.underlying 44).getD .bool
theorem X9:SS.P.underlying 44=some W4:=by kernel_rfl
theorem YG:Go.Ab.isAgg SS.P 44=false:=by kernel_rfl
def FnB(g:Heap)(k f:Nat):Prop:=g.get k=some(.cells [BJ f] 44 0 true)
theorem FnB.ok {g g' : Heap}{k f:Nat}(x:FnB g k f)(o:Ok g g'):FnB g' k f:=o.ext _ _ x
section
variable {f:Nat}{t:MArc->Bool}(hf:Nat.blt f YB=true)(ht:Ja f t)
include hf ht
theorem SF(q:MArc){k:Nat}{g:Heap}(w:Wf g)(b:FnB g k f):FW SS 60 [.agg⟨lG q⟩,.pointer(some⟨k,0,none⟩)] g(fun v g'=>v = .bool(!t q)/\Ok g g'):=by
 have o:=(Ok.refl w).push(Bq q)
 have hk:=aZ g(Bq q)
 refine S8 _ k g _⟨_,N0 q,f,[],[],ey X9 YG(b.ok o)(by simp),_,C1 Xl WY Ow hk(by simp [lG]),?_⟩
 refine C9(K:=fun v g'=>(match v with | .bool x=>Value.bool(!x) = .bool(!t q) | _=>False)/\Ok g g')hf((ht q _ o.wf).mono ?_)
 rintro _ g2⟨rfl,o2⟩
 exact⟨_,rfl,rfl,o.trans o2⟩
theorem I2 {k:Nat}{g:Heap}(w:Wf g)(bx:FnB g k f){b:Option Addr}{m d:Nat}{l:List MArc}(ar:ArcRow g(.slice b m d)l)(hl:l.length<=2000) :
  FW SS 78 [.slice b m d,.func(.func 60)⟨[]⟩⟨[.pointer(some⟨k,0,none⟩)]⟩] g(fun v g'=>∃ n:Int,v = .int .i64 n/\decide(n>=0)=(!l.all t)/\Ok g g'):=by
 have hm:=ar.len
 refine JB b m d k g _(rN b m d k(fun mz j g'=>j<=m/\mz=m - j/\Ok g g'/\(l.drop j).all t=l.all t)_(fun mz j=>?_)m(j:=0)⟨by omega,rfl,Ok.refl w,rfl⟩)
 intros; rename_i g' hi
 obtain⟨h1,h2,ok,h3⟩:=hi
 refine ae(fun q1=>?_)(fun q1=>?_)
 · have q1:=of_decide_eq_true q1
  obtain⟨q,hq⟩: ∃ q,l[j]? = some q :=⟨_,List.getElem?_eq_getElem(by omega)⟩
  obtain⟨bb,o,e1,e2,e3⟩:=(ar.ok ok).at_ hq
  rw [bm hq,List.all_cons] at h3
  refine⟨_,e1,_,e2,(SF hf ht q ok.wf(bx.ok ok)).mono ?_⟩
  rintro _ g2⟨rfl,o2⟩
  refine⟨_,rfl,ae(fun t1 =>⟨_,rfl,?_,ok.trans o2⟩)(fun t1=>?_)⟩
  · rw [Bool.not_eq_true'] at t1
   rw [<- h3,t1]; simp
  · rw [Bool.not_eq_false'] at t1
   rw [t1,Bool.true_and] at h3
   rw [aK(i:=j)(n:=m)(by omega)(by omega)]
   exact rS(mz - 1)(by omega)⟨by omega,by omega,ok.trans o2,h3⟩
 · have q1:=of_decide_eq_false q1
  refine⟨_,rfl,?_,ok⟩
  rw [List.drop_eq_nil_of_le(by omega)] at h3
  rw [<- h3]; rfl
theorem IW {k:Nat}{g:Heap}(w:Wf g)(bx:FnB g k f){b:Option Addr}{m d:Nat}{l:List MArc}(ar:ArcRow g(.slice b m d)l)(hl:l.length<=2000) :
  FW SS 59 [.slice b m d,.func(.func 60)⟨[]⟩⟨[.pointer(some⟨k,0,none⟩)]⟩] g(fun v g'=>v = .bool(!l.all t)/\Ok g g'):=by
 refine JV b m d k g _((I2 hf ht w bx ar hl).mono ?_)
 rintro _ g2⟨n,rfl,h1,o⟩
 exact⟨_,rfl,by rw [h1],o⟩
theorem Kr {h:Heap}(tb:Tab h)(w:Wf h){M:Mach}(sm:Small M){a:Option Addr}{n c:Nat}(r:StRow h(.slice a n c)M.states):FW SS 38 [.agg⟨bw M a n c⟩,BJ f] h(fun v h'=>v = .bool(bZ M && BL t M.states)/\Ok h h'):=by
 obtain⟨mb0,ok0⟩:=cV w r
 refine Th(bw M a n c)f h _⟨_,fi M a n c,.cells [BJ f] 44 0 true,by kernel_rfl,?_⟩
 generalize h.push(Bm M a n c)=g0 at *
 have o1:=(Ok.refl ok0.wf).push(.cells [BJ f] 44 0 true)
 have bx:FnB(g0.push(.cells [BJ f] 44 0 true))g0.next f:=aZ g0 _
 have mb:=mb0.ok o1
 have ok:=ok0.trans o1
 generalize g0.push(.cells [BJ f] 44 0 true)=g at *
 refine⟨_,mb.all,(qo(tb.ok ok)ok.wf sm mb.row).mono ?_⟩
 rintro _ g2⟨rfl,o2⟩
 have ok2:=ok.trans o2
 have mb2:=mb.ok o2
 have bx2:=bx.ok o2
 have hn:n<=300:=by rw [mb.len]; exact sm.sts
 refine⟨_,rfl,ae(fun q =>⟨?_,ok2⟩)(fun q=>?_)⟩
 · rw [Bool.not_eq_true'] at q
  rw [q]; rfl
 rw [Bool.not_eq_false'] at q
 rw [q,Bool.true_and]
 refine⟨_,aT _,_,_,_,mb2.l3,?_⟩
 obtain⟨V,hV⟩: ∃ V,V=BL t M.states :=⟨_,rfl⟩
 rw [<- hV]
 refine xZ(bw M a n c)f h.next g0.next a n c(fun mz i g'=>i<=n/\mz=n - i/\MB g' h.next M a n c/\FnB g' g0.next f/\Ok h g'/\BL t(M.states.drop i)=V)(bQ h V)(fun mz i=>?_)n(i:=0)⟨by omega,rfl,mb2,bx2,ok2,hV.symm⟩
 intros; rename_i gg hi
 obtain⟨f1,f2,mb3,bx3,ok3,f5⟩:=hi
 have hl:=mb3.len
 refine ae(fun q1=>?_)(fun q1=>?_)
 · have q1:=of_decide_eq_true q1
  obtain⟨s,hs⟩: ∃ s,M.states[i]? = some s :=⟨_,List.getElem?_eq_getElem(by omega)⟩
  obtain⟨b,o,x,y,z,e1,e2,e3,e4,ar⟩:=mb3.row.at_ hs
  obtain⟨l1,l2,l3⟩:=dl sm hs
  rw [bm hs] at f5
  unfold BL at f5
  rw [List.all_cons] at f5
  obtain⟨u,p1,p2,p3⟩:=Db ok3.wf s.f x y z
  refine⟨_,e1,_,e2,_,M7,u,p1,_,bt _ _,_,_,_,p3.l1,?_⟩
  have okg:=ok3.trans p2
  refine(IW hf ht okg.wf(bx3.ok p2)(ar.ok p2)l1).mono ?_
  rintro _ g4⟨rfl,o4⟩
  refine⟨_,rfl,ae(fun q2 =>⟨?_,okg.trans o4⟩)(fun q2=>?_)⟩
  · rw [Bool.not_eq_true'] at q2
   rw [<- f5,q2]; rfl
  · rw [Bool.not_eq_false'] at q2
   rw [q2,Bool.true_and] at f5
   rw [aK(i:=i)(n:=n)(by omega)(by omega)]
   exact x6(mz - 1)(by omega)⟨by omega,by omega,(mb3.ok p2).ok o4,(bx3.ok p2).ok o4,okg.trans o4,f5⟩
 · have q1:=of_decide_eq_false q1
  refine⟨?_,ok3⟩
  rw [List.drop_eq_nil_of_le(by omega)] at f5
  rw [<- f5]; rfl
end
def Jk(M:Mach):Bool:=bZ M && BL Cg M.states
def vA(M:Mach):Bool:=bZ M && BL fR M.states
theorem Kz {h:Heap}(tb:Tab h)(w:Wf h){M:Mach}(sm:Small M){a:Option Addr}{n c:Nat}(r:StRow h(.slice a n c)M.states):FW SS 12 [.agg⟨bw M a n c⟩] h(fun v h'=>v = .bool(Jk M)/\Ok h h'):=by
 obtain⟨mb,ok⟩:=cV w r
 refine Sc _ h _⟨_,fi M a n c,_,mb.all,(Kr(by decide +kernel)Sv(tb.ok ok)ok.wf sm mb.row).mono ?_⟩
 rintro _ g⟨rfl,o⟩
 exact⟨_,rfl,rfl,ok.trans o⟩
theorem CU {h:Heap}(tb:Tab h)(w:Wf h){M:Mach}(sm:Small M){a:Option Addr}{n c:Nat}(r:StRow h(.slice a n c)M.states):FW SS 14 [.agg⟨bw M a n c⟩] h(fun v h'=>v = .bool(vA M)/\Ok h h'):=by
 obtain⟨mb,ok⟩:=cV w r
 refine Mb _ h _⟨_,fi M a n c,_,mb.all,(Kr(by decide +kernel)NC(tb.ok ok)ok.wf sm mb.row).mono ?_⟩
 rintro _ g⟨rfl,o⟩
 exact⟨_,rfl,rfl,ok.trans o⟩
end Go.Proofs.YtoabjjimjldcfaaGreatDoor
end
