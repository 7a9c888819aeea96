/- Laws and walks that the proof leans on (part 6): W15; P33; P34; P35; W16; P36 and others. No condition. -/
import Derived.Test.YtoabjjimjldcfaaGreatDoorPart3
import Derived.Test.YtoabjjimjldcfaaGreatDoorPart5
section
set_option linter.unusedVariables false
set_option maxRecDepth 100000
namespace Go.Proofs.YtoabjjimjldcfaaGreatDoor
open Go Go.Ab
noncomputable def DD:Code:=(Tryz.f39.body).getD .skip
def Uy:List Nat:=[]
abbrev Ur (qv:LV)(h:Heap)(Q:VH):Prop:=xN (fp SS.P 39 (.agg ⟨qv⟩)) h fun B1 g2=>xP (ag SS.P 39 (pA (h.next)) 0) fun p3=>xI .i64 (ah SS.P 3 g2 (.pointer (some p3))) fun n4=>xP (ag SS.P 39 (pA (h.next)) 1) fun p5=>xI .i64 (ah SS.P 3 g2 (.pointer (some p5))) fun n6=>Q (.bool (((n4:Int) == n6))) g2
theorem Sn (qv:LV)(h:Heap)(Q:VH)(hx:Ur qv h Q):FW SS 39 [(.agg ⟨qv⟩)] h Q:=ax (M:=Uy) (c:=DD) Tryz.func39 (show Tryz.f39.body=some DD by kernel_rfl) (by kernel_rfl) (ai hx (by kernel_rfl))
noncomputable def wB:Code:=(Tryz.f40.body).getD .skip
def Rl:List Nat:=[]
abbrev Pr (qv:LV)(h:Heap)(Q:VH):Prop:=xN (fp SS.P 39 (.agg ⟨qv⟩)) h fun B1 g2=>xP (ag SS.P 39 (pA (h.next)) 0) fun p3=>xI .i64 (ah SS.P 3 g2 (.pointer (some p3))) fun n4=>aw (((n4:Int) != 0)) (Q (.bool true) g2) (xP (ag SS.P 39 (pA (h.next)) 1) fun p5=>xI .i64 (ah SS.P 3 g2 (.pointer (some p5))) fun n6=>Q (.bool (((n6:Int) != 0))) g2)
theorem Mj (qv:LV)(h:Heap)(Q:VH)(hx:Pr qv h Q):FW SS 40 [(.agg ⟨qv⟩)] h Q:=ax (M:=Rl) (c:=wB) Tryz.func40 (show Tryz.f40.body=some wB by kernel_rfl) (by kernel_rfl) (ai hx (by kernel_rfl))
noncomputable def DV:Code:=(Tryz.f60.body).getD .skip
def Vi:List Nat:=[]
abbrev UP (qv:LV)(k:Nat)(h:Heap)(Q:VH):Prop:=xN (fp SS.P 39 (.agg ⟨qv⟩)) h fun B1 g2=>xF (ah SS.P 44 g2 (pA k)) fun g3 a4 c5=>xA (ah SS.P 39 g2 (pA (h.next))) fun c6=>aw (Nat.blt g3 YB) (FW SS g3 (a4++[(.agg ⟨c6⟩)]++c5) g2 fun v7 h8=>yB v7 fun b9=>Q (.bool (!b9)) h8) False
theorem TF (qv:LV)(k:Nat)(h:Heap)(Q:VH)(hx:UP qv k h Q):FW SS 60 [(.agg ⟨qv⟩),(pA k)] h Q:=ax (M:=Vi) (c:=DV) Tryz.func60 (show Tryz.f60.body=some DV by kernel_rfl) (by kernel_rfl) (ai hx (by kernel_rfl))
noncomputable def fH:Code:=(Tryz.f78.body).getD .skip
noncomputable def CG (Q:VH):aj:=cE SS Tryz.f78.results.toList Q
def wu:List Nat:=[0,1,7,8]
noncomputable def DO (p:List Nat)(w:LV)(h:Heap)(Q:aj):Prop:=bp SS Tryz.f78.ntmps wu (aP p fH) w h Q
noncomputable def C9 (p b:List Nat)(K:aj):aj:=ky SS Tryz.f78.ntmps wu p (aP b fH) K
abbrev Lr (b:OA)(m d k:Nat)(h:Heap)(Q:VH):Prop:=DO [1,0,1,0,0] [(.slice b m d),(.func (.func 60) ⟨[]⟩ ⟨[(pA k)]⟩),(iA m),(.int .i64 0)] h (C9 [1,0,1,0] [] (CG Q))
theorem IR (b:OA)(m d k:Nat)(h:Heap)(Q:VH)(hx:Lr b m d k h Q):FW SS 78 [(.slice b m d),(.func (.func 60) ⟨[]⟩ ⟨[(pA k)]⟩)] h Q:=ax (M:=wu) (c:=fH) Tryz.func78 (show Tryz.f78.body=some fH by kernel_rfl) (by kernel_rfl) (ai hx (by kernel_rfl))
abbrev iq (b:OA)(m d k:Nat)  (j:Nat)  : LV:=[(.slice b m d),(.func (.func 60) ⟨[]⟩ ⟨[(pA k)]⟩),(iA m),(iA j)]
def iH (b:OA)(m d k:Nat)  (Inv:Nat->Nat->Heap->Prop) (mz:Nat) (w:LV) (h:Heap):Prop:= ∃ (j:Nat) ,w=(iq b m d k j )/\Inv mz j h
abbrev xz (b:OA)(m d k:Nat)  (Inv:Nat->Nat->Heap->Prop) (Q:VH) (mz:Nat) (j:Nat)  (zz:Nat->Value) (h:Heap):Prop:=aw (decide (((j:Int):Int) < (m:Int))) (xP (af SS.P 35 (.slice b m d) (iA j)) fun p1=>xA (ah SS.P 39 h (.pointer (some p1))) fun c2=>FW SS 60 [(.agg ⟨c2⟩),(pA k)] h fun v3 h4=>yB v3 fun b5=>aw b5 (Q (iA j) h4) (ak (iH b m d k Inv) mz [(.slice b m d),(.func (.func 60) ⟨[]⟩ ⟨[(pA k)]⟩),(iA m),(.int .i64 (IntKind.wrap .i64 ((j:Int)+1)))] h4)) (Q (.int .i64 (-1)) h)
theorem sh {b:OA}{m d k:Nat}  {Inv:Nat->Nat->Heap->Prop} {mz:Nat} (mq:Nat) {j:Nat}  {h:Heap} (hm:mq < mz) (hi:Inv mq j h):ak (iH b m d k Inv) mz (iq b m d k j ) h:=⟨mq,hm,j,rfl,hi⟩
theorem rj (b:OA)(m d k:Nat)  (Inv:Nat->Nat->Heap->Prop) (Q:VH) (step: ∀ (mz:Nat)(j:Nat)  (zz:Nat->Value) (h:Heap),Inv mz j h->xz b m d k Inv Q mz j  zz h) (mz:Nat) {j:Nat}  {h:Heap} (hi:Inv mz j h):DO [1,0,1,0,0] (iq b m d k j ) h (C9 [1,0,1,0] [] (CG Q)):=
 an (A:=(iH b m d k Inv)) (show aF Tryz.f78.ntmps (aP [1,0,1,0,0] fH)=true by kernel_rfl) (fun mz w zz h ⟨j,hw,hi⟩=>by subst hw; exact ai (step mz j  zz h hi) (by kernel_rfl)) mz _ h ⟨j,rfl,hi⟩ (fun zz=>by kernel_rfl) (by kernel_rfl)
noncomputable def tP:Code:=(Tryz.f59.body).getD .skip
def Nq:List Nat:=[]
abbrev NX (b:OA)(m d k:Nat)(h:Heap)(Q:VH):Prop:=FW SS 78 [(.slice b m d),(.func (.func 60) ⟨[]⟩ ⟨[(pA k)]⟩)] h fun v1 h2=>yI .i64 v1 fun n3=>Q (.bool (decide ((n3:Int)>=0))) h2
theorem Jm (b:OA)(m d k:Nat)(h:Heap)(Q:VH)(hx:NX b m d k h Q):FW SS 59 [(.slice b m d),(.func (.func 60) ⟨[]⟩ ⟨[(pA k)]⟩)] h Q:=ax (M:=Nq) (c:=tP) Tryz.func59 (show Tryz.f59.body=some tP by kernel_rfl) (by kernel_rfl) (ai hx (by kernel_rfl))
noncomputable def lW:Code:=(Tryz.f38.body).getD .skip
noncomputable def QR (Q:VH):aj:=cE SS Tryz.f38.results.toList Q
def JF:List Nat:=[2,3,4,11,12,13]
noncomputable def OI (p:List Nat)(w:LV)(h:Heap)(Q:aj):Prop:=bp SS Tryz.f38.ntmps JF (aP p lW) w h Q
noncomputable def PB (p b:List Nat)(K:aj):aj:=ky SS Tryz.f38.ntmps JF p (aP b lW) K
abbrev Uw (mv:LV)(f:Nat)(h:Heap)(Q:VH):Prop:=xN (fp SS.P 24 (.agg ⟨mv⟩)) h fun B1 g2=>xN (fp SS.P 44 (.func (.func f) ⟨[]⟩ ⟨[]⟩)) g2 fun B3 g4=>xA (ah SS.P 24 g4 (pA (h.next))) fun c5=>FW SS 10 [(.agg ⟨c5⟩)] g4 fun v6 h7=>yB v6 fun b8=>aw (!b8) (Q (.bool false) h7) (xP (ag SS.P 24 (pA (h.next)) 3) fun p9=>xL (ah SS.P 22 h7 (.pointer (some p9))) fun a10 n11 c12=>OI [1,1,0,1,0,0] [(pA (h.next)),(pA (g2.next)),(.bool false),(.slice a10 n11 c12),(iA n11),(.int .i64 0)] h7 (PB [1,1,0,1,0] [] (QR Q)))
theorem SZ (mv:LV)(f:Nat)(h:Heap)(Q:VH)(hx:Uw mv f h Q):FW SS 38 [(.agg ⟨mv⟩),(.func (.func f) ⟨[]⟩ ⟨[]⟩)] h Q:=ax (M:=JF) (c:=lW) Tryz.func38 (show Tryz.f38.body=some lW by kernel_rfl) (by kernel_rfl) (ai hx (by kernel_rfl))
abbrev mN (mv:LV)(f:Nat)(k k2:Nat)(a:OA)(n c:Nat)(i:Nat)  : LV:=[(pA k),(pA k2),(.bool false),(.slice a n c),(iA n),(iA i)]
def m5 (mv:LV)(f:Nat)(k k2:Nat)(a:OA)(n c:Nat)(Inv:Nat->Nat->Heap->Prop)(mz:Nat)(w:LV)(h:Heap):Prop:= ∃ (i:Nat) ,w=(mN mv f k k2 a n c i )/\Inv mz i h
abbrev FP (mv:LV)(f:Nat)(k k2:Nat)(a:OA)(n c:Nat)(Inv:Nat->Nat->Heap->Prop)(Q:VH)(mz:Nat)(i:Nat)  (zz:Nat->Value) (h:Heap):Prop:=aw (decide (((i:Int):Int) < (n:Int))) (xP (af SS.P 22 (.slice a n c) (iA i)) fun p13=>xA (ah SS.P 37 h (.pointer (some p13))) fun c14=>xN (bi SS.P 37) h fun B15 g16=>xU (al SS.P 37 (pA (h.next)) (.agg ⟨c14⟩) g16) g16 fun u17 g18=>xP (ag SS.P 37 (pA (h.next)) 1) fun p19=>xL (ah SS.P 35 g18 (.pointer (some p19))) fun a20 n21 c22=>FW SS 59 [(.slice a20 n21 c22),(.func (.func 60) ⟨[]⟩ ⟨[(pA k2)]⟩)] g18 fun v23 h24=>yB v23 fun b25=>aw b25 (Q (.bool false) h24) (ak (m5 mv f k k2 a n c Inv) mz [(pA k),(pA k2),(.bool false),(.slice a n c),(iA n),(.int .i64 (IntKind.wrap .i64 ((i:Int)+1)))] h24)) (Q (.bool true) h)
theorem xH {mv:LV}{f:Nat}{k k2:Nat}{a:OA}{n c:Nat}{Inv:Nat->Nat->Heap->Prop}{mz:Nat}(mq:Nat){i:Nat}  {h:Heap} (hm:mq < mz) (hi:Inv mq i h):ak (m5 mv f k k2 a n c Inv) mz (mN mv f k k2 a n c i ) h:=⟨mq,hm,i,rfl,hi⟩
theorem yl (mv:LV)(f:Nat)(k k2:Nat)(a:OA)(n c:Nat)(Inv:Nat->Nat->Heap->Prop)(Q:VH)(step: ∀ (mz:Nat) (i:Nat)  (zz:Nat->Value) (h:Heap),Inv mz i h->FP mv f k k2 a n c Inv Q mz i  zz h)(mz:Nat){i:Nat}  {h:Heap} (hi:Inv mz i h):OI [1,1,0,1,0,0] (mN mv f k k2 a n c i ) h (PB [1,1,0,1,0] [] (QR Q)):=
 an (A:=(m5 mv f k k2 a n c Inv)) (show aF Tryz.f38.ntmps (aP [1,1,0,1,0,0] lW)=true by kernel_rfl) (fun mz w zz h ⟨i,hw,hi⟩=>by subst hw; exact ai (step mz i  zz h hi) (by kernel_rfl)) mz _ h ⟨i,rfl,hi⟩ (fun zz=>by kernel_rfl) (by kernel_rfl)
noncomputable def De:Code:=(Tryz.f12.body).getD .skip
def Vm:List Nat:=[]
abbrev Vh (mv:LV)(h:Heap)(Q:VH):Prop:=xN (fp SS.P 24 (.agg ⟨mv⟩)) h fun B1 g2=>xA (ah SS.P 24 g2 (pA (h.next))) fun c3=>FW SS 38 [(.agg ⟨c3⟩),(.func (.func 39) ⟨[]⟩ ⟨[]⟩)] g2 fun v4 h5=>yB v4 fun b6=>Q (.bool b6) h5
theorem SX (mv:LV)(h:Heap)(Q:VH)(hx:Vh mv h Q):FW SS 12 [(.agg ⟨mv⟩)] h Q:=ax (M:=Vm) (c:=De) Tryz.func12 (show Tryz.f12.body=some De by kernel_rfl) (by kernel_rfl) (ai hx (by kernel_rfl))
noncomputable def wM:Code:=(Tryz.f14.body).getD .skip
def PP:List Nat:=[]
abbrev N5 (mv:LV)(h:Heap)(Q:VH):Prop:=xN (fp SS.P 24 (.agg ⟨mv⟩)) h fun B1 g2=>xA (ah SS.P 24 g2 (pA (h.next))) fun c3=>FW SS 38 [(.agg ⟨c3⟩),(.func (.func 40) ⟨[]⟩ ⟨[]⟩)] g2 fun v4 h5=>yB v4 fun b6=>Q (.bool b6) h5
theorem LT (mv:LV)(h:Heap)(Q:VH)(hx:N5 mv h Q):FW SS 14 [(.agg ⟨mv⟩)] h Q:=ax (M:=PP) (c:=wM) Tryz.func14 (show Tryz.f14.body=some wM by kernel_rfl) (by kernel_rfl) (ai hx (by kernel_rfl))
noncomputable def e9:Code:=(Tryz.f20.body).getD .skip
noncomputable def uo (Q:VH):aj:=cE SS Tryz.f20.results.toList Q
def px:List Nat:=[1,2,4,11,12,13,18,19,20]
noncomputable def sX (p:List Nat)(w:LV)(h:Heap)(Q:aj):Prop:=bp SS Tryz.f20.ntmps px (aP p e9) w h Q
noncomputable def lT (p b:List Nat)(K:aj):aj:=ky SS Tryz.f20.ntmps px p (aP b e9) K
abbrev Qc (mv:LV)(h:Heap)(Q:VH):Prop:=xN (fp SS.P 24 (.agg ⟨mv⟩)) h fun B1 g2=>xA (ah SS.P 24 g2 (pA (h.next))) fun c3=>FW SS 10 [(.agg ⟨c3⟩)] g2 fun v4 h5=>yB v4 fun b6=>aw (!b6) (Q (.int .i64 0) h5) (xP (ag SS.P 24 (pA (h.next)) 3) fun p7=>xL (ah SS.P 22 h5 (.pointer (some p7))) fun a8 n9 c10=>sX [1,1,0,1,0,0] [(pA (h.next)),(.int .i64 0),undef,(.slice a8 n9 c10),(iA n9),(.int .i64 0),undef,undef,undef] h5 (lT [1,1,0,1,0] [] (uo Q)))
theorem MH (mv:LV)(h:Heap)(Q:VH)(hx:Qc mv h Q):FW SS 20 [(.agg ⟨mv⟩)] h Q:=ax (M:=px) (c:=e9) Tryz.func20 (show Tryz.f20.body=some e9 by kernel_rfl) (by kernel_rfl) (ai hx (by kernel_rfl))
abbrev jg (mv:LV)(k:Nat)(a:OA)(n c:Nat)(i:Nat)(g:Int)(y4 y18 y19 y20:Value):LV:=[(pA k),(.int .i64 g),y4,(.slice a n c),(iA n),(iA i),y18,y19,y20]
def dI (mv:LV)(k:Nat)(a:OA)(n c:Nat)(Inv:Nat->Nat->Int->Heap->Prop)(mz:Nat)(w:LV)(h:Heap):Prop:= ∃ (i:Nat)(g:Int)(y4 y18 y19 y20:Value),w=(jg mv k a n c i g y4 y18 y19 y20)/\Inv mz i g h
abbrev yZ (mv:LV)(k:Nat)(a:OA)(n c:Nat)(Inv:Nat->Nat->Int->Heap->Prop)(Q:VH)(mz:Nat)(i:Nat)(g:Int)(y4 y18 y19 y20:Value)(zz:Nat->Value)(h:Heap):Prop:=aw (decide (((i:Int):Int) < (n:Int))) (xP (af SS.P 22 (.slice a n c) (iA i)) fun p11=>xA (ah SS.P 37 h (.pointer (some p11))) fun c12=>xN (bi SS.P 37) h fun B13 g14=>xU (al SS.P 37 (pA (h.next)) (.agg ⟨c12⟩) g14) g14 fun u15 g16=>xP (ag SS.P 37 (pA (h.next)) 1) fun p17=>xL (ah SS.P 35 g16 (.pointer (some p17))) fun a18 n19 c20=>sX [1,1,0,1,0,0,1,1,0,0,1,1,0,0] [(pA k),(.int .i64 g),(pA (h.next)),(.slice a n c),(iA n),(iA i),(.slice a18 n19 c20),(iA n19),(.int .i64 0)] g16 (lT [1,1,0,0,1,1,0] [1,1,0,1,0,0] (aT px (dI mv k a n c Inv) mz (lT [1,1,0,1,0] [] (uo Q))))) (Q (.int .i64 g) h)
theorem ui {mv:LV}{k:Nat}{a:OA}{n c:Nat}{Inv:Nat->Nat->Int->Heap->Prop}{mz:Nat}(mq:Nat){i:Nat}{g:Int}{y4 y18 y19 y20:Value}{h:Heap}(hm:mq < mz)(hi:Inv mq i g h):ak (dI mv k a n c Inv) mz (jg mv k a n c i g y4 y18 y19 y20) h:=⟨mq,hm,i,g,y4,y18,y19,y20,rfl,hi⟩
theorem uM (mv:LV)(k:Nat)(a:OA)(n c:Nat)(Inv:Nat->Nat->Int->Heap->Prop)(Q:VH)(step: ∀ (mz:Nat) (i:Nat) (g:Int) (y4 y18 y19 y20:Value) (zz:Nat->Value) (h:Heap),Inv mz i g h->yZ mv k a n c Inv Q mz i g y4 y18 y19 y20 zz h)(mz:Nat){i:Nat}{g:Int}{y4 y18 y19 y20:Value}{h:Heap}(hi:Inv mz i g h):sX [1,1,0,1,0,0] (jg mv k a n c i g y4 y18 y19 y20) h (lT [1,1,0,1,0] [] (uo Q)):=
 an (A:=(dI mv k a n c Inv)) (show aF Tryz.f20.ntmps (aP [1,1,0,1,0,0] e9)=true by kernel_rfl) (fun mz w zz h ⟨i,g,y4,y18,y19,y20,hw,hi⟩=>by subst hw; exact ai (step mz i g y4 y18 y19 y20 zz h hi) (by kernel_rfl)) mz _ h ⟨i,g,y4,y18,y19,y20,rfl,hi⟩ (fun zz=>by kernel_rfl) (by kernel_rfl)
abbrev j3 (mv:LV)(k:Nat)(a:OA)(n c k2:Nat)(b:OA)(m d i:Nat)(j:Nat)(g:Int)  : LV:=[(pA k),(.int .i64 g),(pA k2),(.slice a n c),(iA n),(iA i),(.slice b m d),(iA m),(iA j)]
def j0 (mv:LV)(k:Nat)(a:OA)(n c k2:Nat)(b:OA)(m d i:Nat)(Inv2:Nat->Nat->Int->Heap->Prop)(mz2:Nat)(w:LV)(h:Heap):Prop:= ∃ (j:Nat)(g:Int) ,w=(j3 mv k a n c k2 b m d i j g )/\Inv2 mz2 j g h
abbrev zB (mv:LV)(k:Nat)(a:OA)(n c k2:Nat)(b:OA)(m d:Nat)(Inv:Nat->Nat->Int->Heap->Prop)(mz i:Nat)(Inv2:Nat->Nat->Int->Heap->Prop)(Q:VH)(mz2:Nat)(j:Nat)(g:Int)  (zz:Nat->Value) (h:Heap):Prop:=aw (decide (((j:Int):Int) < (m:Int))) (xP (af SS.P 35 (.slice b m d) (iA j)) fun p21=>xA (ah SS.P 39 h (.pointer (some p21))) fun c22=>xN (bi SS.P 39) h fun B23 g24=>xU (al SS.P 39 (pA (h.next)) (.agg ⟨c22⟩) g24) g24 fun u25 g26=>xP (ag SS.P 39 (pA (h.next)) 0) fun p27=>xI .i64 (ah SS.P 3 g26 (.pointer (some p27))) fun n28=>xP (ag SS.P 39 (pA (h.next)) 1) fun p29=>xI .i64 (ah SS.P 3 g26 (.pointer (some p29))) fun n30=>xI .i64 (ks true [(.int .i64 g),(.int .i64 n28),(.int .i64 n30)]) fun n31=>ak (j0 mv k a n c k2 b m d i Inv2) mz2 [(pA k),(.int .i64 n31),(pA k2),(.slice a n c),(iA n),(iA i),(.slice b m d),(iA m),(.int .i64 (IntKind.wrap .i64 ((j:Int)+1)))] g26) (ak (dI mv k a n c Inv) mz [(pA k),(.int .i64 g),(pA k2),(.slice a n c),(iA n),(.int .i64 (IntKind.wrap .i64 ((i:Int)+1))),(.slice b m d),(iA m),(iA j)] h)
theorem uJ {mv:LV}{k:Nat}{a:OA}{n c k2:Nat}{b:OA}{m d i:Nat}{Inv2:Nat->Nat->Int->Heap->Prop}{mz2:Nat}(mq:Nat){j:Nat}{g:Int}  {h:Heap} (hm:mq < mz2) (hi:Inv2 mq j g h):ak (j0 mv k a n c k2 b m d i Inv2) mz2 (j3 mv k a n c k2 b m d i j g ) h:=⟨mq,hm,j,g,rfl,hi⟩
theorem uw (mv:LV)(k:Nat)(a:OA)(n c k2:Nat)(b:OA)(m d:Nat)(Inv:Nat->Nat->Int->Heap->Prop)(mz i:Nat)(Inv2:Nat->Nat->Int->Heap->Prop)(Q:VH)(step: ∀ (mz2:Nat) (j:Nat) (g:Int)  (zz:Nat->Value) (h:Heap),Inv2 mz2 j g h->zB mv k a n c k2 b m d Inv mz i Inv2 Q mz2 j g  zz h)(mz2:Nat){j:Nat}{g:Int}  {h:Heap} (hi:Inv2 mz2 j g h):sX [1,1,0,1,0,0,1,1,0,0,1,1,0,0] (j3 mv k a n c k2 b m d i j g ) h (lT [1,1,0,0,1,1,0] [1,1,0,1,0,0] (aT px (dI mv k a n c Inv) mz (lT [1,1,0,1,0] [] (uo Q)))):=
 an (A:=(j0 mv k a n c k2 b m d i Inv2)) (show aF Tryz.f20.ntmps (aP [1,1,0,1,0,0,1,1,0,0,1,1,0,0] e9)=true by kernel_rfl) (fun mz2 w zz h ⟨j,g,hw,hi⟩=>by subst hw; exact ai (step mz2 j g  zz h hi) (by kernel_rfl)) mz2 _ h ⟨j,g,rfl,hi⟩ (fun zz=>by kernel_rfl) (by kernel_rfl)
noncomputable def iX:Code:=(Tryz.f13.body).getD .skip
noncomputable def Fd (Q:VH):aj:=cE SS Tryz.f13.results.toList Q
def zK:List Nat:=[1,2,3,4]
noncomputable def FI (p:List Nat)(w:LV)(h:Heap)(Q:aj):Prop:=bp SS Tryz.f13.ntmps zK (aP p iX) w h Q
noncomputable def vX (p b:List Nat)(K:aj):aj:=ky SS Tryz.f13.ntmps zK p (aP b iX) K
abbrev Vk (mv:LV)(h:Heap)(Q:VH):Prop:=xN (fp SS.P 24 (.agg ⟨mv⟩)) h fun B1 g2=>xA (ah SS.P 24 g2 (pA (h.next))) fun c3=>FW SS 11 [(.agg ⟨c3⟩)] g2 fun v4 h5=>yB v4 fun b6=>aw (!b6) (Q (.bool false) h5) (FI [1,1,0,1,0,0] [(pA (h.next)),(.bool false),(.int .i64 0),undef] h5 (vX [1,1,0,1,0] [] (Fd Q)))
theorem RH (mv:LV)(h:Heap)(Q:VH)(hx:Vk mv h Q):FW SS 13 [(.agg ⟨mv⟩)] h Q:=ax (M:=zK) (c:=iX) Tryz.func13 (show Tryz.f13.body=some iX by kernel_rfl) (by kernel_rfl) (ai hx (by kernel_rfl))
abbrev nl (mv:LV)(k:Nat)(i:Nat)(y4:Value):LV:=[(pA k),(.bool false),(iA i),y4]
def fI (mv:LV)(k:Nat)(Inv:Nat->Nat->Heap->Prop)(mz:Nat)(w:LV)(h:Heap):Prop:= ∃ (i:Nat)(y4:Value),w=(nl mv k i y4)/\Inv mz i h
abbrev Fp (mv:LV)(k:Nat)(Inv:Nat->Nat->Heap->Prop)(Q:VH)(mz:Nat)(i:Nat)(y4:Value)(zz:Nat->Value)(h:Heap):Prop:=xP (ag SS.P 24 (pA k) 3) fun p7=>xL (ah SS.P 22 h (.pointer (some p7))) fun a8 n9 c10=>aw (decide (((i:Int):Int) < (n9:Int))) (FI [1,1,0,1,0,0,1,0,0,1,0,0] [(pA k),(.bool false),(iA i),(.int .i64 0)] h (vX [1,0,0,1,0] [1,1,0,1,0,0] (aT zK (fI mv k Inv) mz (vX [1,1,0,1,0] [] (Fd Q))))) (Q (.bool true) h)
theorem xX {mv:LV}{k:Nat}{Inv:Nat->Nat->Heap->Prop}{mz:Nat}(mq:Nat){i:Nat}{y4:Value}{h:Heap}(hm:mq < mz)(hi:Inv mq i h):ak (fI mv k Inv) mz (nl mv k i y4) h:=⟨mq,hm,i,y4,rfl,hi⟩
theorem yk (mv:LV)(k:Nat)(Inv:Nat->Nat->Heap->Prop)(Q:VH)(step: ∀ (mz:Nat) (i:Nat) (y4:Value) (zz:Nat->Value) (h:Heap),Inv mz i h->Fp mv k Inv Q mz i y4 zz h)(mz:Nat){i:Nat}{y4:Value}{h:Heap}(hi:Inv mz i h):FI [1,1,0,1,0,0] (nl mv k i y4) h (vX [1,1,0,1,0] [] (Fd Q)):=
 an (A:=(fI mv k Inv)) (show aF Tryz.f13.ntmps (aP [1,1,0,1,0,0] iX)=true by kernel_rfl) (fun mz w zz h ⟨i,y4,hw,hi⟩=>by subst hw; exact ai (step mz i y4 zz h hi) (by kernel_rfl)) mz _ h ⟨i,y4,rfl,hi⟩ (fun zz=>by kernel_rfl) (by kernel_rfl)
abbrev np (mv:LV)(k i:Nat)(j:Nat)  : LV:=[(pA k),(.bool false),(iA i),(iA j)]
def m4 (mv:LV)(k i:Nat)(Inv2:Nat->Nat->Heap->Prop)(mz2:Nat)(w:LV)(h:Heap):Prop:= ∃ (j:Nat) ,w=(np mv k i j )/\Inv2 mz2 j h
abbrev Fk (mv:LV)(k:Nat)(Inv:Nat->Nat->Heap->Prop)(mz i:Nat)(Inv2:Nat->Nat->Heap->Prop)(Q:VH)(mz2:Nat)(j:Nat)  (zz:Nat->Value) (h:Heap):Prop:=xP (ag SS.P 24 (pA k) 3) fun p11=>xL (ah SS.P 22 h (.pointer (some p11))) fun a12 n13 c14=>xP (af SS.P 22 (.slice a12 n13 c14) (iA i)) fun p15=>xP (ag SS.P 37 (.pointer (some p15)) 1) fun p16=>xL (ah SS.P 35 h (.pointer (some p16))) fun a17 n18 c19=>aw (decide (((j:Int):Int) < (n18:Int))) (xP (ag SS.P 24 (pA k) 3) fun p20=>xL (ah SS.P 22 (room h 21) (.pointer (some p20))) fun a21 n22 c23=>xP (af SS.P 22 (.slice a21 n22 c23) (iA i)) fun p24=>xP (ag SS.P 37 (.pointer (some p24)) 1) fun p25=>xL (ah SS.P 35 (room h 21) (.pointer (some p25))) fun a26 n27 c28=>xP (af SS.P 35 (.slice a26 n27 c28) (iA j)) fun p29=>xP (ag SS.P 39 (.pointer (some p29)) 0) fun p30=>xI .i64 (ah SS.P 3 (room h 21) (.pointer (some p30))) fun n31=>xP (ag SS.P 24 (pA k) 3) fun p32=>xL (ah SS.P 22 (room h 21) (.pointer (some p32))) fun a33 n34 c35=>xP (af SS.P 22 (.slice a33 n34 c35) (iA i)) fun p36=>xP (ag SS.P 37 (.pointer (some p36)) 1) fun p37=>xL (ah SS.P 35 (room h 21) (.pointer (some p37))) fun a38 n39 c40=>xP (af SS.P 35 (.slice a38 n39 c40) (iA j)) fun p41=>xP (ag SS.P 39 (.pointer (some p41)) 1) fun p42=>xI .i64 (ah SS.P 3 (room h 21) (.pointer (some p42))) fun n43=>aw (((n31:Int) != n43)) (Q (.bool false) (room h 21)) (ak (m4 mv k i Inv2) mz2 [(pA k),(.bool false),(iA i),(.int .i64 (IntKind.wrap .i64 ((j:Int)+1)))] (room h 21))) (ak (fI mv k Inv) mz [(pA k),(.bool false),(.int .i64 (IntKind.wrap .i64 ((i:Int)+1))),(iA j)] h)
theorem xJ {mv:LV}{k i:Nat}{Inv2:Nat->Nat->Heap->Prop}{mz2:Nat}(mq:Nat){j:Nat}  {h:Heap} (hm:mq < mz2) (hi:Inv2 mq j h):ak (m4 mv k i Inv2) mz2 (np mv k i j ) h:=⟨mq,hm,j,rfl,hi⟩
theorem yq (mv:LV)(k:Nat)(Inv:Nat->Nat->Heap->Prop)(mz i:Nat)(Inv2:Nat->Nat->Heap->Prop)(Q:VH)(step: ∀ (mz2:Nat) (j:Nat)  (zz:Nat->Value) (h:Heap),Inv2 mz2 j h->Fk mv k Inv mz i Inv2 Q mz2 j  zz h)(mz2:Nat){j:Nat}  {h:Heap} (hi:Inv2 mz2 j h):FI [1,1,0,1,0,0,1,0,0,1,0,0] (np mv k i j ) h (vX [1,0,0,1,0] [1,1,0,1,0,0] (aT zK (fI mv k Inv) mz (vX [1,1,0,1,0] [] (Fd Q)))):=
 an (A:=(m4 mv k i Inv2)) (show aF Tryz.f13.ntmps (aP [1,1,0,1,0,0,1,0,0,1,0,0] iX)=true by kernel_rfl) (fun mz2 w zz h ⟨j,hw,hi⟩=>by subst hw; exact ai (step mz2 j  zz h hi) (by kernel_rfl)) mz2 _ h ⟨j,rfl,hi⟩ (fun zz=>by kernel_rfl) (by kernel_rfl)
noncomputable def fi:Code:=(Tryz.f15.body).getD .skip
noncomputable def sO (Q:VH):aj:=cE SS Tryz.f15.results.toList Q
def oN:List Nat:=[1,2,3,4]
noncomputable def tx (p:List Nat)(w:LV)(h:Heap)(Q:aj):Prop:=bp SS Tryz.f15.ntmps oN (aP p fi) w h Q
noncomputable def mi (p b:List Nat)(K:aj):aj:=ky SS Tryz.f15.ntmps oN p (aP b fi) K
abbrev Rp (mv:LV)(h:Heap)(Q:VH):Prop:=xN (fp SS.P 24 (.agg ⟨mv⟩)) h fun B1 g2=>xA (ah SS.P 24 g2 (pA (h.next))) fun c3=>FW SS 11 [(.agg ⟨c3⟩)] g2 fun v4 h5=>yB v4 fun b6=>aw (!b6) (Q (.bool false) h5) (tx [1,1,0,1,0,0] [(pA (h.next)),(.bool false),(.int .i64 0),undef] h5 (mi [1,1,0,1,0] [] (sO Q)))
theorem M6 (mv:LV)(h:Heap)(Q:VH)(hx:Rp mv h Q):FW SS 15 [(.agg ⟨mv⟩)] h Q:=ax (M:=oN) (c:=fi) Tryz.func15 (show Tryz.f15.body=some fi by kernel_rfl) (by kernel_rfl) (ai hx (by kernel_rfl))
abbrev jP (mv:LV)(k:Nat)(i:Nat)(y4:Value):LV:=[(pA k),(.bool false),(iA i),y4]
def dK (mv:LV)(k:Nat)(Inv:Nat->Nat->Heap->Prop)(mz:Nat)(w:LV)(h:Heap):Prop:= ∃ (i:Nat)(y4:Value),w=(jP mv k i y4)/\Inv mz i h
abbrev zd (mv:LV)(k:Nat)(Inv:Nat->Nat->Heap->Prop)(Q:VH)(mz:Nat)(i:Nat)(y4:Value)(zz:Nat->Value)(h:Heap):Prop:=xP (ag SS.P 24 (pA k) 3) fun p7=>xL (ah SS.P 22 h (.pointer (some p7))) fun a8 n9 c10=>aw (decide (((i:Int):Int) < (n9:Int))) (tx [1,1,0,1,0,0,1,0,0,1,0,0] [(pA k),(.bool false),(iA i),(.int .i64 0)] h (mi [1,0,0,1,0] [1,1,0,1,0,0] (aT oN (dK mv k Inv) mz (mi [1,1,0,1,0] [] (sO Q))))) (Q (.bool true) h)
theorem uI {mv:LV}{k:Nat}{Inv:Nat->Nat->Heap->Prop}{mz:Nat}(mq:Nat){i:Nat}{y4:Value}{h:Heap}(hm:mq < mz)(hi:Inv mq i h):ak (dK mv k Inv) mz (jP mv k i y4) h:=⟨mq,hm,i,y4,rfl,hi⟩
theorem sI (mv:LV)(k:Nat)(Inv:Nat->Nat->Heap->Prop)(Q:VH)(step: ∀ (mz:Nat) (i:Nat) (y4:Value) (zz:Nat->Value) (h:Heap),Inv mz i h->zd mv k Inv Q mz i y4 zz h)(mz:Nat){i:Nat}{y4:Value}{h:Heap}(hi:Inv mz i h):tx [1,1,0,1,0,0] (jP mv k i y4) h (mi [1,1,0,1,0] [] (sO Q)):=
 an (A:=(dK mv k Inv)) (show aF Tryz.f15.ntmps (aP [1,1,0,1,0,0] fi)=true by kernel_rfl) (fun mz w zz h ⟨i,y4,hw,hi⟩=>by subst hw; exact ai (step mz i y4 zz h hi) (by kernel_rfl)) mz _ h ⟨i,y4,rfl,hi⟩ (fun zz=>by kernel_rfl) (by kernel_rfl)
abbrev km (mv:LV)(k i:Nat)(j:Nat)  : LV:=[(pA k),(.bool false),(iA i),(iA j)]
def fV (mv:LV)(k i:Nat)(Inv2:Nat->Nat->Heap->Prop)(mz2:Nat)(w:LV)(h:Heap):Prop:= ∃ (j:Nat) ,w=(km mv k i j )/\Inv2 mz2 j h
abbrev A9 (mv:LV)(k:Nat)(Inv:Nat->Nat->Heap->Prop)(mz i:Nat)(Inv2:Nat->Nat->Heap->Prop)(Q:VH)(mz2:Nat)(j:Nat)  (zz:Nat->Value) (h:Heap):Prop:=xP (ag SS.P 24 (pA k) 3) fun p11=>xL (ah SS.P 22 h (.pointer (some p11))) fun a12 n13 c14=>xP (af SS.P 22 (.slice a12 n13 c14) (iA i)) fun p15=>xP (ag SS.P 37 (.pointer (some p15)) 1) fun p16=>xL (ah SS.P 35 h (.pointer (some p16))) fun a17 n18 c19=>aw (decide (((j:Int):Int) < (n18:Int))) (xP (ag SS.P 24 (pA k) 3) fun p20=>xL (ah SS.P 22 h (.pointer (some p20))) fun a21 n22 c23=>xP (af SS.P 22 (.slice a21 n22 c23) (iA i)) fun p24=>xP (ag SS.P 37 (.pointer (some p24)) 1) fun p25=>xL (ah SS.P 35 h (.pointer (some p25))) fun a26 n27 c28=>xP (af SS.P 35 (.slice a26 n27 c28) (iA j)) fun p29=>xP (ag SS.P 39 (.pointer (some p29)) 0) fun p30=>xI .i64 (ah SS.P 3 h (.pointer (some p30))) fun n31=>aw (((n31:Int) == 0)) (xP (ag SS.P 24 (pA k) 3) fun p32=>xL (ah SS.P 22 h (.pointer (some p32))) fun a33 n34 c35=>xP (af SS.P 22 (.slice a33 n34 c35) (iA i)) fun p36=>xP (ag SS.P 37 (.pointer (some p36)) 1) fun p37=>xL (ah SS.P 35 h (.pointer (some p37))) fun a38 n39 c40=>xP (af SS.P 35 (.slice a38 n39 c40) (iA j)) fun p41=>xP (ag SS.P 39 (.pointer (some p41)) 1) fun p42=>xI .i64 (ah SS.P 3 h (.pointer (some p42))) fun n43=>aw (((n43:Int) == 0)) (Q (.bool false) h) (ak (fV mv k i Inv2) mz2 [(pA k),(.bool false),(iA i),(.int .i64 (IntKind.wrap .i64 ((j:Int)+1)))] h)) (ak (fV mv k i Inv2) mz2 [(pA k),(.bool false),(iA i),(.int .i64 (IntKind.wrap .i64 ((j:Int)+1)))] h)) (ak (dK mv k Inv) mz [(pA k),(.bool false),(.int .i64 (IntKind.wrap .i64 ((i:Int)+1))),(iA j)] h)
theorem kS {mv:LV}{k i:Nat}{Inv2:Nat->Nat->Heap->Prop}{mz2:Nat}(mq:Nat){j:Nat}  {h:Heap} (hm:mq < mz2) (hi:Inv2 mq j h):ak (fV mv k i Inv2) mz2 (km mv k i j ) h:=⟨mq,hm,j,rfl,hi⟩
theorem tf (mv:LV)(k:Nat)(Inv:Nat->Nat->Heap->Prop)(mz i:Nat)(Inv2:Nat->Nat->Heap->Prop)(Q:VH)(step: ∀ (mz2:Nat) (j:Nat)  (zz:Nat->Value) (h:Heap),Inv2 mz2 j h->A9 mv k Inv mz i Inv2 Q mz2 j  zz h)(mz2:Nat){j:Nat}  {h:Heap} (hi:Inv2 mz2 j h):tx [1,1,0,1,0,0,1,0,0,1,0,0] (km mv k i j ) h (mi [1,0,0,1,0] [1,1,0,1,0,0] (aT oN (dK mv k Inv) mz (mi [1,1,0,1,0] [] (sO Q)))):=
 an (A:=(fV mv k i Inv2)) (show aF Tryz.f15.ntmps (aP [1,1,0,1,0,0,1,0,0,1,0,0] fi)=true by kernel_rfl) (fun mz2 w zz h ⟨j,hw,hi⟩=>by subst hw; exact ai (step mz2 j  zz h hi) (by kernel_rfl)) mz2 _ h ⟨j,rfl,hi⟩ (fun zz=>by kernel_rfl) (by kernel_rfl)
noncomputable def ff:Code:=(Tryz.f21.body).getD .skip
noncomputable def sF (Q:VH):aj:=cE SS Tryz.f21.results.toList Q
def oH:List Nat:=[1,3,4,5]
noncomputable def ve (p:List Nat)(w:LV)(h:Heap)(Q:aj):Prop:=bp SS Tryz.f21.ntmps oH (aP p ff) w h Q
noncomputable def md (p b:List Nat)(K:aj):aj:=ky SS Tryz.f21.ntmps oH p (aP b ff) K
abbrev PQ (mv:LV)(h:Heap)(Q:VH):Prop:=xN (fp SS.P 24 (.agg ⟨mv⟩)) h fun B1 g2=>xA (ah SS.P 24 g2 (pA (h.next))) fun c3=>FW SS 11 [(.agg ⟨c3⟩)] g2 fun v4 h5=>yB v4 fun b6=>aw (!b6) (Q (.int .i64 0) h5) (ve [1,1,1,0,1,0,0] [(pA (h.next)),(.int .i64 0),(.int .i64 0),undef] h5 (md [1,1,1,0,1,0] [] (sF Q)))
theorem NF (mv:LV)(h:Heap)(Q:VH)(hx:PQ mv h Q):FW SS 21 [(.agg ⟨mv⟩)] h Q:=ax (M:=oH) (c:=ff) Tryz.func21 (show Tryz.f21.body=some ff by kernel_rfl) (by kernel_rfl) (ai hx (by kernel_rfl))
abbrev jd (mv:LV)(k:Nat)(i:Nat)(g:Int)(y5:Value):LV:=[(pA k),(.int .i64 g),(iA i),y5]
def dG (mv:LV)(k:Nat)(Inv:Nat->Nat->Int->Heap->Prop)(mz:Nat)(w:LV)(h:Heap):Prop:= ∃ (i:Nat)(g:Int)(y5:Value),w=(jd mv k i g y5)/\Inv mz i g h
abbrev zS (mv:LV)(k:Nat)(Inv:Nat->Nat->Int->Heap->Prop)(Q:VH)(mz:Nat)(i:Nat)(g:Int)(y5:Value)(zz:Nat->Value)(h:Heap):Prop:=xP (ag SS.P 24 (pA k) 3) fun p7=>xL (ah SS.P 22 h (.pointer (some p7))) fun a8 n9 c10=>aw (decide (((i:Int):Int) < (n9:Int))) (ve [1,1,1,0,1,0,0,1,0,0,1,0,0] [(pA k),(.int .i64 g),(iA i),(.int .i64 0)] h (md [1,0,0,1,0] [1,1,1,0,1,0,0] (aT oH (dG mv k Inv) mz (md [1,1,1,0,1,0] [] (sF Q))))) (Q (.int .i64 g) h)
theorem uZ {mv:LV}{k:Nat}{Inv:Nat->Nat->Int->Heap->Prop}{mz:Nat}(mq:Nat){i:Nat}{g:Int}{y5:Value}{h:Heap}(hm:mq < mz)(hi:Inv mq i g h):ak (dG mv k Inv) mz (jd mv k i g y5) h:=⟨mq,hm,i,g,y5,rfl,hi⟩
theorem tN (mv:LV)(k:Nat)(Inv:Nat->Nat->Int->Heap->Prop)(Q:VH)(step: ∀ (mz:Nat) (i:Nat) (g:Int) (y5:Value) (zz:Nat->Value) (h:Heap),Inv mz i g h->zS mv k Inv Q mz i g y5 zz h)(mz:Nat){i:Nat}{g:Int}{y5:Value}{h:Heap}(hi:Inv mz i g h):ve [1,1,1,0,1,0,0] (jd mv k i g y5) h (md [1,1,1,0,1,0] [] (sF Q)):=
 an (A:=(dG mv k Inv)) (show aF Tryz.f21.ntmps (aP [1,1,1,0,1,0,0] ff)=true by kernel_rfl) (fun mz w zz h ⟨i,g,y5,hw,hi⟩=>by subst hw; exact ai (step mz i g y5 zz h hi) (by kernel_rfl)) mz _ h ⟨i,g,y5,rfl,hi⟩ (fun zz=>by kernel_rfl) (by kernel_rfl)
abbrev ji (mv:LV)(k i:Nat)(j:Nat)(g:Int)  : LV:=[(pA k),(.int .i64 g),(iA i),(iA j)]
def jr (mv:LV)(k i:Nat)(Inv2:Nat->Nat->Int->Heap->Prop)(mz2:Nat)(w:LV)(h:Heap):Prop:= ∃ (j:Nat)(g:Int) ,w=(ji mv k i j g )/\Inv2 mz2 j g h
abbrev Aq (mv:LV)(k:Nat)(Inv:Nat->Nat->Int->Heap->Prop)(mz i:Nat)(Inv2:Nat->Nat->Int->Heap->Prop)(Q:VH)(mz2:Nat)(j:Nat)(g:Int)  (zz:Nat->Value) (h:Heap):Prop:=xP (ag SS.P 24 (pA k) 3) fun p11=>xL (ah SS.P 22 h (.pointer (some p11))) fun a12 n13 c14=>xP (af SS.P 22 (.slice a12 n13 c14) (iA i)) fun p15=>xP (ag SS.P 37 (.pointer (some p15)) 1) fun p16=>xL (ah SS.P 35 h (.pointer (some p16))) fun a17 n18 c19=>aw (decide (((j:Int):Int) < (n18:Int))) (xP (ag SS.P 24 (pA k) 3) fun p20=>xL (ah SS.P 22 (room h 23) (.pointer (some p20))) fun a21 n22 c23=>xP (af SS.P 22 (.slice a21 n22 c23) (iA i)) fun p24=>xP (ag SS.P 37 (.pointer (some p24)) 1) fun p25=>xL (ah SS.P 35 (room h 23) (.pointer (some p25))) fun a26 n27 c28=>xP (af SS.P 35 (.slice a26 n27 c28) (iA j)) fun p29=>xP (ag SS.P 39 (.pointer (some p29)) 0) fun p30=>xI .i64 (ah SS.P 3 (room h 23) (.pointer (some p30))) fun n31=>xP (ag SS.P 24 (pA k) 3) fun p32=>xL (ah SS.P 22 (room h 23) (.pointer (some p32))) fun a33 n34 c35=>xP (af SS.P 22 (.slice a33 n34 c35) (iA i)) fun p36=>xP (ag SS.P 37 (.pointer (some p36)) 1) fun p37=>xL (ah SS.P 35 (room h 23) (.pointer (some p37))) fun a38 n39 c40=>xP (af SS.P 35 (.slice a38 n39 c40) (iA j)) fun p41=>xP (ag SS.P 39 (.pointer (some p41)) 1) fun p42=>xI .i64 (ah SS.P 3 (room h 23) (.pointer (some p42))) fun n43=>xI .i64 (ks true [(.int .i64 g),(.int .i64 n31),(.int .i64 n43)]) fun n44=>ak (jr mv k i Inv2) mz2 [(pA k),(.int .i64 n44),(iA i),(.int .i64 (IntKind.wrap .i64 ((j:Int)+1)))] (room h 23)) (ak (dG mv k Inv) mz [(pA k),(.int .i64 g),(.int .i64 (IntKind.wrap .i64 ((i:Int)+1))),(iA j)] h)
theorem tp {mv:LV}{k i:Nat}{Inv2:Nat->Nat->Int->Heap->Prop}{mz2:Nat}(mq:Nat){j:Nat}{g:Int}  {h:Heap} (hm:mq < mz2) (hi:Inv2 mq j g h):ak (jr mv k i Inv2) mz2 (ji mv k i j g ) h:=⟨mq,hm,j,g,rfl,hi⟩
theorem vc (mv:LV)(k:Nat)(Inv:Nat->Nat->Int->Heap->Prop)(mz i:Nat)(Inv2:Nat->Nat->Int->Heap->Prop)(Q:VH)(step: ∀ (mz2:Nat) (j:Nat) (g:Int)  (zz:Nat->Value) (h:Heap),Inv2 mz2 j g h->Aq mv k Inv mz i Inv2 Q mz2 j g  zz h)(mz2:Nat){j:Nat}{g:Int}  {h:Heap} (hi:Inv2 mz2 j g h):ve [1,1,1,0,1,0,0,1,0,0,1,0,0] (ji mv k i j g ) h (md [1,0,0,1,0] [1,1,1,0,1,0,0] (aT oH (dG mv k Inv) mz (md [1,1,1,0,1,0] [] (sF Q)))):=
 an (A:=(jr mv k i Inv2)) (show aF Tryz.f21.ntmps (aP [1,1,1,0,1,0,0,1,0,0,1,0,0] ff)=true by kernel_rfl) (fun mz2 w zz h ⟨j,g,hw,hi⟩=>by subst hw; exact ai (step mz2 j g  zz h hi) (by kernel_rfl)) mz2 _ h ⟨j,g,rfl,hi⟩ (fun zz=>by kernel_rfl) (by kernel_rfl)
section
def Cg (t:MArc->Bool)(l:List MSt):Bool:=l.all fun s=>s.arcs.all t
def Ci (q:MArc):Bool:=q.i == q.o
def gf (q:MArc):Bool:=q.i != 0 || q.o != 0
def IQ (f:Nat)(t:MArc->Bool):Prop:= ∀ (q:MArc)(g:Heap),Wf g->FW SS f [.agg ⟨lD q⟩] g (fun v g'=>v = .bool (t q)/\Ok g g')
def Bq (q:MArc):Blk:= .cells (lD q) 39 0 true
theorem QC (q:MArc):fp SS.P 39 (.agg ⟨lD q⟩)=some (Bq q,kw):=by kernel_rfl
theorem Sv:IQ 39 Ci:=fun q g w=>by
 have b:AB (g.push (Bq q)) g.next q:=aZ g _
 exact Sn _ g _ ⟨_,QC q,_,it _ _,_,b.l0,_,ny _ _,_,b.l1,rfl,(Ok.refl w).push _⟩
theorem ML:IQ 40 gf:=fun q g w=>by
 have b:AB (g.push (Bq q)) g.next q:=aZ g _
 refine Mj _ g _ ⟨_,QC q,_,it _ _,_,b.l0,ae (fun t=>⟨?_,(Ok.refl w).push _⟩) (fun t=>⟨_,ny _ _,_,b.l1,?_,(Ok.refl w).push _⟩)⟩
 ·unfold gf; rw [t]; rfl
 ·unfold gf; rw [t]; rfl
noncomputable def Wb:TypeDesc:=(SS.P.underlying 44).getD .bool
theorem Yg:SS.P.underlying 44=some Wb:=by kernel_rfl
theorem Yo:Go.Ab.isAgg SS.P 44=false:=by kernel_rfl
def FnB (g:Heap)(k f:Nat):Prop:=g.get k=some (.cells [BM f] 44 0 true)
theorem FnB.ok {g g':Heap}{k f:Nat}(x:FnB g k f)(o:Ok g g'):FnB g' k f:=o.ext _ _ x
section
variable {f:Nat} {t:MArc->Bool} (hf:Nat.blt f YB=true) (ht:IQ f t)
include hf ht
theorem Tz (q:MArc){k:Nat}{g:Heap}(w:Wf g)(b:FnB g k f):FW SS 60 [.agg ⟨lD q⟩,.pointer (some ⟨k,0,none⟩)] g (fun v g'=>v = .bool (!t q)/\Ok g g'):=by
 have o:=(Ok.refl w).push (Bq q)
 have hk:=aZ g (Bq q)
 refine TF _ k g _ ⟨_,QC q,f,[],[],eC Yg Yo (b.ok o) (by simp),_,CT WK XL PW hk (by simp [lD]),?_⟩
 refine DW (K:=fun v g'=>(match v with | .bool x=>Value.bool (!x) = .bool (!t q) | _=>False)/\Ok g g') hf ((ht q _ o.wf).mono ?_)
 rintro _ g2 ⟨rfl,o2⟩
 exact ⟨_,rfl,rfl,o.trans o2⟩
theorem IX {k:Nat}{g:Heap}(w:Wf g)(bx:FnB g k f){b:Option Addr}{m d:Nat}{l:List MArc}(ar:ArcRow g (.slice b m d) l)(hl:l.length<=2000):
  FW SS 78 [.slice b m d,.func (.func 60) ⟨[]⟩ ⟨[.pointer (some ⟨k,0,none⟩)]⟩] g (fun v g'=> ∃ n:Int,v = .int .i64 n/\decide (n>=0)=(!l.all t)/\Ok g g'):=by
 have hm:=ar.len
 refine IR b m d k g _ (rj b m d k (fun mz j g'=>j<=m/\mz=m - j/\Ok g g'/\(l.drop j).all t=l.all t) _ (fun mz j=> ?_) m (j:=0) ⟨by omega,rfl,Ok.refl w,rfl⟩)
 intros; rename_i g' hi
 obtain ⟨h1,h2,ok,h3⟩:=hi
 refine ae (fun q1=> ?_) (fun q1=> ?_)
 ·have q1:=dT q1
  obtain ⟨q,hq⟩: ∃ q,l[j]?=some q:=⟨_,gE (by omega)⟩
  obtain ⟨bb,o,e1,e2,e3⟩:=(ar.ok ok).at_ hq
  rw [bj hq,List.all_cons] at h3
  refine ⟨_,e1,_,e2,(Tz hf ht q ok.wf (bx.ok ok)).mono ?_⟩
  rintro _ g2 ⟨rfl,o2⟩
  refine ⟨_,rfl,ae (fun t1=>⟨_,rfl,?_,ok.trans o2⟩) (fun t1=> ?_)⟩
  ·rw [Bool.not_eq_true'] at t1
   rw [<-h3,t1]; simp
  ·rw [Bool.not_eq_false'] at t1
   rw [t1,Bool.true_and] at h3
   rw [aJ (i:=j) (n:=m) (by omega) (by omega)]
   exact sh (mz - 1) (by omega) ⟨by omega,by omega,ok.trans o2,h3⟩
 ·have q1:=dF q1
  refine ⟨_,rfl,?_,ok⟩
  rw [List.drop_eq_nil_of_le (by omega)] at h3
  rw [<-h3]; rfl
theorem Js {k:Nat}{g:Heap}(w:Wf g)(bx:FnB g k f){b:Option Addr}{m d:Nat}{l:List MArc}(ar:ArcRow g (.slice b m d) l)(hl:l.length<=2000):
  FW SS 59 [.slice b m d,.func (.func 60) ⟨[]⟩ ⟨[.pointer (some ⟨k,0,none⟩)]⟩] g (fun v g'=>v = .bool (!l.all t)/\Ok g g'):=by
 refine Jm b m d k g _ ((IX hf ht w bx ar hl).mono ?_)
 rintro _ g2 ⟨n,rfl,h1,o⟩
 exact ⟨_,rfl,by rw [h1],o⟩
theorem KN {h:Heap}(tb:Tab h)(w:Wf h){M:Mach}(sm:Small M){a:Option Addr}{n c:Nat}(r:StRow h (.slice a n c) M.states):FW SS 38 [.agg ⟨bu M a n c⟩,BM f] h (fun v h'=>v = .bool (bV M && Cg t M.states)/\Ok h h'):=by
 obtain ⟨mb0,ok0⟩:=cQ w r
 refine SZ (bu M a n c) f h _ ⟨_,e8 M a n c,.cells [BM f] 44 0 true,by kernel_rfl,?_⟩
 generalize h.push (Bm M a n c)=g0 at *
 have o1:=(Ok.refl ok0.wf).push (.cells [BM f] 44 0 true)
 have bx:FnB (g0.push (.cells [BM f] 44 0 true)) g0.next f:=aZ g0 _
 have mb:=mb0.ok o1
 have ok:=ok0.trans o1
 generalize g0.push (.cells [BM f] 44 0 true)=g at *
 refine ⟨_,mb.all,(pV (tb.ok ok) ok.wf sm mb.row).mono ?_⟩
 rintro _ g2 ⟨rfl,o2⟩
 have ok2:=ok.trans o2
 have mb2:=mb.ok o2
 have bx2:=bx.ok o2
 have hn:n<=300:=by rw [mb.len]; exact sm.sts
 refine ⟨_,rfl,ae (fun q=>⟨?_,ok2⟩) (fun q=> ?_)⟩
 ·rw [Bool.not_eq_true'] at q
  rw [q]; rfl
 rw [Bool.not_eq_false'] at q
 rw [q,Bool.true_and]
 refine ⟨_,aS _,_,_,_,mb2.l3,?_⟩
 obtain ⟨V,hV⟩: ∃ V,V=Cg t M.states:=⟨_,rfl⟩
 rw [<-hV]
 refine yl (bu M a n c) f h.next g0.next a n c (fun mz i g'=>i<=n/\mz=n - i/\MB g' h.next M a n c/\FnB g' g0.next f/\Ok h g'/\Cg t (M.states.drop i)=V) (bQ h V) (fun mz i=> ?_) n (i:=0) ⟨by omega,rfl,mb2,bx2,ok2,hV.symm⟩
 intros; rename_i gg hi
 obtain ⟨f1,f2,mb3,bx3,ok3,f5⟩:=hi
 have hl:=mb3.len
 refine ae (fun q1=> ?_) (fun q1=> ?_)
 ·have q1:=dT q1
  obtain ⟨s,hs⟩: ∃ s,M.states[i]?=some s:=⟨_,gE (by omega)⟩
  obtain ⟨b,o,x,y,z,e1,e2,e3,e4,ar⟩:=mb3.row.at_ hs
  obtain ⟨l1,l2,l3⟩:=de sm hs
  rw [bj hs] at f5
  unfold Cg at f5
  rw [List.all_cons] at f5
  obtain ⟨u,p1,p2,p3⟩:=D8 ok3.wf s.f x y z
  refine ⟨_,e1,_,e2,_,Mp,u,p1,_,bq _ _,_,_,_,p3.l1,?_⟩
  have okg:=ok3.trans p2
  refine (Js hf ht okg.wf (bx3.ok p2) (ar.ok p2) l1).mono ?_
  rintro _ g4 ⟨rfl,o4⟩
  refine ⟨_,rfl,ae (fun q2=>⟨?_,okg.trans o4⟩) (fun q2=> ?_)⟩
  ·rw [Bool.not_eq_true'] at q2
   rw [<-f5,q2]; rfl
  ·rw [Bool.not_eq_false'] at q2
   rw [q2,Bool.true_and] at f5
   rw [aJ (i:=i) (n:=n) (by omega) (by omega)]
   exact xH (mz - 1) (by omega) ⟨by omega,by omega,(mb3.ok p2).ok o4,(bx3.ok p2).ok o4,okg.trans o4,f5⟩
 ·have q1:=dF q1
  refine ⟨?_,ok3⟩
  rw [List.drop_eq_nil_of_le (by omega)] at f5
  rw [<-f5]; rfl
end
def J7 (M:Mach):Bool:=bV M && Cg Ci M.states
def vD (M:Mach):Bool:=bV M && Cg gf M.states
theorem KM {h:Heap}(tb:Tab h)(w:Wf h){M:Mach}(sm:Small M){a:Option Addr}{n c:Nat}(r:StRow h (.slice a n c) M.states):FW SS 12 [.agg ⟨bu M a n c⟩] h (fun v h'=>v = .bool (J7 M)/\Ok h h'):=by
 obtain ⟨mb,ok⟩:=cQ w r
 refine SX _ h _ ⟨_,e8 M a n c,_,mb.all,(KN (by decide +kernel) Sv (tb.ok ok) ok.wf sm mb.row).mono ?_⟩
 rintro _ g ⟨rfl,o⟩
 exact ⟨_,rfl,rfl,ok.trans o⟩
theorem CV {h:Heap}(tb:Tab h)(w:Wf h){M:Mach}(sm:Small M){a:Option Addr}{n c:Nat}(r:StRow h (.slice a n c) M.states):FW SS 14 [.agg ⟨bu M a n c⟩] h (fun v h'=>v = .bool (vD M)/\Ok h h'):=by
 obtain ⟨mb,ok⟩:=cQ w r
 refine LT _ h _ ⟨_,e8 M a n c,_,mb.all,(KN (by decide +kernel) ML (tb.ok ok) ok.wf sm mb.row).mono ?_⟩
 rintro _ g ⟨rfl,o⟩
 exact ⟨_,rfl,rfl,ok.trans o⟩
end
section
def W1 (a b:Int):Int:=if b > a then b else a
theorem T1 (a b c:Int):ks true [.int .i64 a,.int .i64 b,.int .i64 c]=some (.int .i64 (W1 (W1 a b) c)):=by simp [ks,W1]
def Y1 (g:Int)(l:List MArc):Int:=l.foldl (fun g q=>W1 (W1 g q.i) q.o) g
def Wg (g:Int)(l:List MSt):Int:=l.foldl (fun g s=>Y1 g s.arcs) g
def oZ (M:Mach):Int:=if bV M then Wg 0 M.states else 0
section
variable {h:Heap} {k:Nat} {M:Mach} {a:Option Addr} {n c:Nat}
def iQ (h:Heap)(V:Int):VH:=fun v h'=>v = .int .i64 V/\Ok h h'
def RN (h:Heap)(k:Nat)(M:Mach)(a:Option Addr)(n c:Nat)(V:Int)(mz i:Nat)(x:Int)(g:Heap):Prop:=i<=n/\mz=n - i/\MB g k M a n c/\Ok h g/\Wg x (M.states.drop i)=V
def Y5 (h:Heap)(k:Nat)(M:Mach)(a:Option Addr)(n c:Nat)(s:MSt)(i:Nat)(V:Int)(mz2 j:Nat)(x:Int)(g:Heap):Prop:=j<=s.arcs.length/\mz2=s.arcs.length - j/\MB g k M a n c/\Ok h g/\Wg (Y1 x (s.arcs.drop j)) (M.states.drop (i+1))=V
set_option linter.defProp false in
def Q8 (w:Wf h)(sm:Small M)(V:Int){s:MSt}{b:Option Addr}{m d i k2:Nat}(hs:M.states[i]?=some s)(hi:i < n)(mv:List Value)(mz:Nat)(hmz:mz=n - i):=
 uw mv k a n c k2 b m d (RN h k M a n c V) mz i (fun mz2 j x g=>Y5 h k M a n c s i V mz2 j x g/\ArcRow g (.slice b m d) s.arcs) (iQ h V) (by
  intro mz2 j x; intros; rename_i g hin
  obtain ⟨⟨f1,f2,mb,ok,hv⟩,ar⟩:=hin
  have hn:n<=300:=by rw [mb.len]; exact sm.sts
  obtain ⟨l1,l2,l3⟩:=de sm hs
  have hm:=ar.len
  refine ae (fun g1=> ?_) (fun g1=> ?_)
  ·have g1:=dT g1
   obtain ⟨q,hq⟩: ∃ q,s.arcs[j]?=some q:=⟨_,gE (by omega)⟩
   obtain ⟨bb,o,e1,e2,e3⟩:=ar.at_ hq
   rw [bj hq] at hv
   obtain ⟨u,p1,p2,p3⟩:=GZ ok.wf q
   refine ⟨_,e1,_,e2,_,Qp,u,p1,_,it _ _,_,p3.l0,_,ny _ _,_,p3.l1,_,T1 _ _ _,?_⟩
   rw [aJ (i:=j) (n:=m) (by omega) (by omega)]
   exact uJ (mz2 - 1) (by omega) ⟨⟨by omega,by omega,mb.ok p2,ok.trans p2,hv⟩,ar.ok p2⟩
  ·have g1:=dF g1
   rw [List.drop_eq_nil_of_le (by omega)] at hv
   rw [aJ hi (by omega)]
   exact ui (n - (i+1)) (by omega) ⟨by omega,rfl,mb,ok,hv⟩)
theorem LH {h:Heap}(tb:Tab h)(w:Wf h){M:Mach}(sm:Small M){a:Option Addr}{n c:Nat}(r:StRow h (.slice a n c) M.states):FW SS 20 [.agg ⟨bu M a n c⟩] h (fun v h'=>v = .int .i64 (oZ M)/\Ok h h'):=by
 obtain ⟨mb,ok⟩:=cQ w r
 refine MH (bu M a n c) h _ ⟨_,e8 M a n c,_,mb.all,(pV (tb.ok ok) ok.wf sm mb.row).mono ?_⟩
 generalize h.push (Bm M a n c)=g at *
 rintro _ g2 ⟨rfl,o2⟩
 have ok2:=ok.trans o2
 have mb2:=mb.ok o2
 have hn:n<=300:=by rw [mb.len]; exact sm.sts
 refine ⟨_,rfl,ae (fun q=>⟨?_,ok2⟩) (fun q=> ?_)⟩
 ·rw [Bool.not_eq_true'] at q
  unfold oZ; rw [q]; rfl
 rw [Bool.not_eq_false'] at q
 obtain ⟨V,hV⟩: ∃ V,V=Wg 0 M.states:=⟨_,rfl⟩
 have:oZ M=V:=by unfold oZ; rw [if_pos q,hV]
 rw [this]
 refine ⟨_,aS _,_,_,_,mb2.l3,?_⟩
 refine uM (bu M a n c) h.next a n c (RN h h.next M a n c V) (iQ h V) (fun mz i x=> ?_) n (i:=0) (g:=0) ⟨by omega,rfl,mb2,ok2,hV.symm⟩
 intros; rename_i gg hi
 obtain ⟨f1,f2,mb3,ok3,f5⟩:=hi
 have hl:=mb3.len
 refine ae (fun q1=> ?_) (fun q1=> ?_)
 ·have q1:=dT q1
  obtain ⟨s,hs⟩: ∃ s,M.states[i]?=some s:=⟨_,gE (by omega)⟩
  obtain ⟨b,o,x',y,z,e1,e2,e3,e4,ar⟩:=mb3.row.at_ hs
  obtain ⟨l1,l2,l3⟩:=de sm hs
  rw [bj hs] at f5
  obtain ⟨u,p1,p2,p3⟩:=D8 ok3.wf s.f x' y z
  refine ⟨_,e1,_,e2,_,Mp,u,p1,_,bq _ _,_,_,_,p3.l1,?_⟩
  have hy:=ar.len
  exact Q8 w sm V hs (by omega) _ mz f2 y (j:=0) (g:=x) ⟨⟨by omega,by omega,mb3.ok p2,ok3.trans p2,by rw [List.drop_zero]; exact f5⟩,ar.ok p2⟩
 ·have q1:=dF q1
  rw [List.drop_eq_nil_of_le (by omega)] at f5
  exact ⟨by rw [<-f5]; rfl,ok3⟩
set_option linter.defProp false in
def O9 (w:Wf h)(sm:Small M)(V:Int){s:MSt}{i:Nat}(hs:M.states[i]?=some s)(hi:i < n)(mv:List Value)(mz:Nat)(hmz:mz=n - i):=
 vc mv k (RN h k M a n c V) mz i (Y5 h k M a n c s i V) (iQ h V) (by
  intro mz2 j x; intros; rename_i g hin
  obtain ⟨f1,f2,mb,ok,hv⟩:=hin
  have hn:n<=300:=by rw [mb.len]; exact sm.sts
  obtain ⟨l1,l2,l3⟩:=de sm hs
  obtain ⟨b,o,x',y,z,e1,e2,e3,e4,ar⟩:=mb.row.at_ hs
  have hm:=ar.len
  refine ⟨_,aS _,_,_,_,mb.l3,_,e1,_,bq _ _,_,_,_,e4,ae (fun g1=> ?_) (fun g1=> ?_)⟩
  ·have g1:=dT g1
   obtain ⟨q,hq⟩: ∃ q,s.arcs[j]?=some q:=⟨_,gE (by omega)⟩
   have or:=(Ok.refl ok.wf).room 23
   have mb':=mb.ok or
   obtain ⟨b,o,x',y,z,e1,e2,e3,e4,ar⟩:=mb'.row.at_ hs
   obtain ⟨bb,oo,d1,d2,d3,d4,d5,d6⟩:=ar.at_ hq
   rw [bj hq] at hv
   refine ⟨_,aS _,_,_,_,mb'.l3,_,e1,_,bq _ _,_,_,_,e4,_,d1,_,it _ _,_,d3,_,aS _,_,_,_,mb'.l3,_,e1,_,bq _ _,_,_,_,e4,_,d1,_,ny _ _,_,d4,_,T1 _ _ _,?_⟩
   rw [aJ (i:=j) (n:=s.arcs.length) (by omega) (by omega)]
   exact tp (mz2 - 1) (by omega) ⟨by omega,by omega,mb',ok.trans or,hv⟩
  ·have g1:=dF g1
   rw [List.drop_eq_nil_of_le (by omega)] at hv
   rw [aJ hi (by omega)]
   exact uZ (n - (i+1)) (by omega) ⟨by omega,rfl,mb,ok,hv⟩)
theorem LX {h:Heap}(w:Wf h){M:Mach}(sm:Small M){a:Option Addr}{n c:Nat}(r:StRow h (.slice a n c) M.states):FW SS 21 [.agg ⟨bu M a n c⟩] h (fun v h'=>v = .int .i64 (oZ M)/\Ok h h'):=by
 obtain ⟨mb,ok⟩:=cQ w r
 refine NF (bu M a n c) h _ ⟨_,e8 M a n c,_,mb.all,(mt ok.wf sm mb.row).mono ?_⟩
 generalize h.push (Bm M a n c)=g at *
 rintro _ g2 ⟨rfl,o2⟩
 have ok2:=ok.trans o2
 have mb2:=mb.ok o2
 have hn:n<=300:=by rw [mb.len]; exact sm.sts
 refine ⟨_,rfl,ae (fun q=>⟨?_,ok2⟩) (fun q=> ?_)⟩
 ·rw [Bool.not_eq_true'] at q
  unfold oZ; rw [q]; rfl
 rw [Bool.not_eq_false'] at q
 obtain ⟨V,hV⟩: ∃ V,V=Wg 0 M.states:=⟨_,rfl⟩
 have:oZ M=V:=by unfold oZ; rw [if_pos q,hV]
 rw [this]
 refine tN (bu M a n c) h.next (RN h h.next M a n c V) (iQ h V) (fun mz i x=> ?_) n (i:=0) (g:=0) ⟨by omega,rfl,mb2,ok2,hV.symm⟩
 intros; rename_i gg hi
 obtain ⟨f1,f2,mb3,ok3,f5⟩:=hi
 have hl:=mb3.len
 refine ⟨_,aS _,_,_,_,mb3.l3,ae (fun q1=> ?_) (fun q1=> ?_)⟩
 ·have q1:=dT q1
  obtain ⟨s,hs⟩: ∃ s,M.states[i]?=some s:=⟨_,gE (by omega)⟩
  rw [bj hs] at f5
  exact O9 w sm V hs (by omega) _ mz f2 s.arcs.length (j:=0) (g:=x) ⟨by omega,by omega,mb3,ok3,by rw [List.drop_zero]; exact f5⟩
 ·have q1:=dF q1
  rw [List.drop_eq_nil_of_le (by omega)] at f5
  exact ⟨by rw [<-f5]; rfl,ok3⟩
def Sj (t:MArc->Bool)(h:Heap)(k:Nat)(M:Mach)(a:Option Addr)(n c:Nat)(V:Bool)(mz i:Nat)(g:Heap):Prop:=i<=n/\mz=n - i/\MB g k M a n c/\Ok h g/\Cg t (M.states.drop i)=V
def Y2 (t:MArc->Bool)(h:Heap)(k:Nat)(M:Mach)(a:Option Addr)(n c:Nat)(s:MSt)(i:Nat)(V:Bool)(mz2 j:Nat)(g:Heap):Prop:=j<=s.arcs.length/\mz2=s.arcs.length - j/\MB g k M a n c/\Ok h g/\((s.arcs.drop j).all t && Cg t (M.states.drop (i+1)))=V
set_option linter.defProp false in
def QD (w:Wf h)(sm:Small M)(V:Bool){s:MSt}{i:Nat}(hs:M.states[i]?=some s)(hi:i < n)(mv:List Value)(mz:Nat)(hmz:mz=n - i):=
 yq mv k (Sj Ci h k M a n c V) mz i (Y2 Ci h k M a n c s i V) (bQ h V) (by
  intro mz2 j; intros; rename_i g hin
  obtain ⟨f1,f2,mb,ok,hv⟩:=hin
  have hn:n<=300:=by rw [mb.len]; exact sm.sts
  obtain ⟨l1,l2,l3⟩:=de sm hs
  obtain ⟨b,o,x',y,z,e1,e2,e3,e4,ar⟩:=mb.row.at_ hs
  have hm:=ar.len
  refine ⟨_,aS _,_,_,_,mb.l3,_,e1,_,bq _ _,_,_,_,e4,ae (fun g1=> ?_) (fun g1=> ?_)⟩
  ·have g1:=dT g1
   obtain ⟨q,hq⟩: ∃ q,s.arcs[j]?=some q:=⟨_,gE (by omega)⟩
   have or:=(Ok.refl ok.wf).room 21
   have mb':=mb.ok or
   obtain ⟨b,o,x',y,z,e1,e2,e3,e4,ar⟩:=mb'.row.at_ hs
   obtain ⟨bb,oo,d1,d2,d3,d4,d5,d6⟩:=ar.at_ hq
   rw [bj hq,List.all_cons] at hv
   refine ⟨_,aS _,_,_,_,mb'.l3,_,e1,_,bq _ _,_,_,_,e4,_,d1,_,it _ _,_,d3,_,aS _,_,_,_,mb'.l3,_,e1,_,bq _ _,_,_,_,e4,_,d1,_,ny _ _,_,d4,ae (fun g2=>⟨?_,ok.trans or⟩) (fun g2=> ?_)⟩
   ·have g2: ¬ q.i=q.o:=by simpa using g2
    rw [<-hv,show Ci q=false by unfold Ci; simpa using g2]; rfl
   ·have g2:q.i=q.o:=by simpa using g2
    rw [show Ci q=true by unfold Ci; simpa using g2,Bool.true_and] at hv
    rw [aJ (i:=j) (n:=s.arcs.length) (by omega) (by omega)]
    exact xJ (mz2 - 1) (by omega) ⟨by omega,by omega,mb',ok.trans or,hv⟩
  ·have g1:=dF g1
   rw [List.drop_eq_nil_of_le (by omega)] at hv
   rw [aJ hi (by omega)]
   exact xX (n - (i+1)) (by omega) ⟨by omega,rfl,mb,ok,by simpa using hv⟩)
theorem K5 {h:Heap}(w:Wf h){M:Mach}(sm:Small M){a:Option Addr}{n c:Nat}(r:StRow h (.slice a n c) M.states):FW SS 13 [.agg ⟨bu M a n c⟩] h (fun v h'=>v = .bool (J7 M)/\Ok h h'):=by
 obtain ⟨mb,ok⟩:=cQ w r
 refine RH (bu M a n c) h _ ⟨_,e8 M a n c,_,mb.all,(mt ok.wf sm mb.row).mono ?_⟩
 generalize h.push (Bm M a n c)=g at *
 rintro _ g2 ⟨rfl,o2⟩
 have ok2:=ok.trans o2
 have mb2:=mb.ok o2
 have hn:n<=300:=by rw [mb.len]; exact sm.sts
 refine ⟨_,rfl,ae (fun q=>⟨?_,ok2⟩) (fun q=> ?_)⟩
 ·rw [Bool.not_eq_true'] at q
  unfold J7; rw [q]; rfl
 rw [Bool.not_eq_false'] at q
 obtain ⟨V,hV⟩: ∃ V,V=Cg Ci M.states:=⟨_,rfl⟩
 have:J7 M=V:=by unfold J7; rw [q,hV]; rfl
 rw [this]
 refine yk (bu M a n c) h.next (Sj Ci h h.next M a n c V) (bQ h V) (fun mz i=> ?_) n (i:=0) ⟨by omega,rfl,mb2,ok2,hV.symm⟩
 intros; rename_i gg hi
 obtain ⟨f1,f2,mb3,ok3,f5⟩:=hi
 have hl:=mb3.len
 refine ⟨_,aS _,_,_,_,mb3.l3,ae (fun q1=> ?_) (fun q1=> ?_)⟩
 ·have q1:=dT q1
  obtain ⟨s,hs⟩: ∃ s,M.states[i]?=some s:=⟨_,gE (by omega)⟩
  rw [bj hs] at f5
  exact QD w sm V hs (by omega) _ mz f2 s.arcs.length (j:=0) ⟨by omega,by omega,mb3,ok3,by rw [List.drop_zero]; exact f5⟩
 ·have q1:=dF q1
  rw [List.drop_eq_nil_of_le (by omega)] at f5
  exact ⟨by rw [<-f5]; rfl,ok3⟩
set_option linter.defProp false in
def Oh (w:Wf h)(sm:Small M)(V:Bool){s:MSt}{i:Nat}(hs:M.states[i]?=some s)(hi:i < n)(mv:List Value)(mz:Nat)(hmz:mz=n - i):=
 tf mv k (Sj gf h k M a n c V) mz i (Y2 gf h k M a n c s i V) (bQ h V) (by
  intro mz2 j; intros; rename_i g hin
  obtain ⟨f1,f2,mb,ok,hv⟩:=hin
  have hn:n<=300:=by rw [mb.len]; exact sm.sts
  obtain ⟨l1,l2,l3⟩:=de sm hs
  obtain ⟨b,o,x',y,z,e1,e2,e3,e4,ar⟩:=mb.row.at_ hs
  have hm:=ar.len
  refine ⟨_,aS _,_,_,_,mb.l3,_,e1,_,bq _ _,_,_,_,e4,ae (fun g1=> ?_) (fun g1=> ?_)⟩
  ·have g1:=dT g1
   obtain ⟨q,hq⟩: ∃ q,s.arcs[j]?=some q:=⟨_,gE (by omega)⟩
   obtain ⟨bb,oo,d1,d2,d3,d4,d5,d6⟩:=ar.at_ hq
   rw [bj hq,List.all_cons] at hv
   have hw:=aJ (i:=j) (n:=s.arcs.length) (by omega) (by omega)
   refine ⟨_,aS _,_,_,_,mb.l3,_,e1,_,bq _ _,_,_,_,e4,_,d1,_,it _ _,_,d3,ae (fun g2=>⟨_,aS _,_,_,_,mb.l3,_,e1,_,bq _ _,_,_,_,e4,_,d1,_,ny _ _,_,d4,ae (fun g3=>⟨?_,ok⟩) (fun g3=> ?_)⟩) (fun g2=> ?_)⟩
   ·have g2:q.i=0:=by simpa using g2
    have g3:q.o=0:=by simpa using g3
    rw [<-hv,show gf q=false by unfold gf; rw [g2,g3]; rfl]; rfl
   ·have g3: ¬ q.o=0:=by simpa using g3
    rw [show gf q=true by unfold gf; simp [g3],Bool.true_and] at hv
    rw [hw]
    exact kS (mz2 - 1) (by omega) ⟨by omega,by omega,mb,ok,hv⟩
   ·have g2: ¬ q.i=0:=by simpa using g2
    rw [show gf q=true by unfold gf; simp [g2],Bool.true_and] at hv
    rw [hw]
    exact kS (mz2 - 1) (by omega) ⟨by omega,by omega,mb,ok,hv⟩
  ·have g1:=dF g1
   rw [List.drop_eq_nil_of_le (by omega)] at hv
   rw [aJ hi (by omega)]
   exact uI (n - (i+1)) (by omega) ⟨by omega,rfl,mb,ok,by simpa using hv⟩)
theorem CQ {h:Heap}(w:Wf h){M:Mach}(sm:Small M){a:Option Addr}{n c:Nat}(r:StRow h (.slice a n c) M.states):FW SS 15 [.agg ⟨bu M a n c⟩] h (fun v h'=>v = .bool (vD M)/\Ok h h'):=by
 obtain ⟨mb,ok⟩:=cQ w r
 refine M6 (bu M a n c) h _ ⟨_,e8 M a n c,_,mb.all,(mt ok.wf sm mb.row).mono ?_⟩
 generalize h.push (Bm M a n c)=g at *
 rintro _ g2 ⟨rfl,o2⟩
 have ok2:=ok.trans o2
 have mb2:=mb.ok o2
 have hn:n<=300:=by rw [mb.len]; exact sm.sts
 refine ⟨_,rfl,ae (fun q=>⟨?_,ok2⟩) (fun q=> ?_)⟩
 ·rw [Bool.not_eq_true'] at q
  unfold vD; rw [q]; rfl
 rw [Bool.not_eq_false'] at q
 obtain ⟨V,hV⟩: ∃ V,V=Cg gf M.states:=⟨_,rfl⟩
 have:vD M=V:=by unfold vD; rw [q,hV]; rfl
 rw [this]
 refine sI (bu M a n c) h.next (Sj gf h h.next M a n c V) (bQ h V) (fun mz i=> ?_) n (i:=0) ⟨by omega,rfl,mb2,ok2,hV.symm⟩
 intros; rename_i gg hi
 obtain ⟨f1,f2,mb3,ok3,f5⟩:=hi
 have hl:=mb3.len
 refine ⟨_,aS _,_,_,_,mb3.l3,ae (fun q1=> ?_) (fun q1=> ?_)⟩
 ·have q1:=dT q1
  obtain ⟨s,hs⟩: ∃ s,M.states[i]?=some s:=⟨_,gE (by omega)⟩
  rw [bj hs] at f5
  exact Oh w sm V hs (by omega) _ mz f2 s.arcs.length (j:=0) ⟨by omega,by omega,mb3,ok3,by rw [List.drop_zero]; exact f5⟩
 ·have q1:=dF q1
  rw [List.drop_eq_nil_of_le (by omega)] at f5
  exact ⟨by rw [<-f5]; rfl,ok3⟩
end
end
section
theorem lK (s:MSt)(l:List MSt):lk (s::l)=s.arcs.length+lk l:=by simp [lk]
theorem Ih {s:MSt}: ∀ {l:List MSt},s∈l->s.arcs.length<=lk l
 | x::l,h=>by
  rw [lK]
  rcases List.mem_cons.1 h with rfl | h
  ·omega
  ·have:=Ih h; omega
theorem KL {B:Nat}: ∀ {l:List MSt},(∀ s∈l,s.arcs.length<=B)->lk l<=l.length*B
 | [],_=>by simp [lk]
 | x::l,h=>by
  rw [lK,List.length_cons,Nat.add_mul,Nat.one_mul]
  have h1:=h x (List.mem_cons_self ..)
  have h2:=KL (l:=l) fun s hs=>h s (List.mem_cons_of_mem _ hs)
  omega
def Yw (M:Mach):Prop:= ∀ s∈M.states,s.arcs.length<=281474976710656
section
variable {h:Heap} {k:Nat} {M:Mach} {a:Option Addr} {n c:Nat}
theorem Qw (w:Wf h)(bd:Yw M)(hst:M.states.length<=300)(r:StRow h (.slice a n c) M.states):FW SS 33 [.agg ⟨bu M a n c⟩] h (fun v h'=>v = .int .i64 (lk M.states:Nat)/\Ok h h'):=by
 obtain ⟨mb,ok⟩:=cQ w r
 refine OR (bu M a n c) h _ ⟨_,e8 M a n c,?_⟩
 generalize h.push (Bm M a n c)=g at *
 have hl:=mb.len
 have hB:=KL bd
 have hB2:M.states.length*281474976710656<=300*281474976710656:=Nat.mul_le_mul_right _ hst
 have hS:lk M.states<=300*281474976710656:=Nat.le_trans hB hB2
 refine wc (bu M a n c) h.next (fun mz i acc g'=>i<=n/\mz=n - i/\MB g' h.next M a n c/\Ok h g'/\ ∃ ac:Nat,acc=(ac:Int)/\ac+lk (M.states.drop i)=lk M.states) (iQ h (lk M.states:Nat)) (fun mz i acc=> ?_) n (i:=0) (acc:=0) ⟨by omega,rfl,mb,ok,0,rfl,by rw [List.drop_zero]; omega⟩
 intros; rename_i gg hi
 obtain ⟨f1,f2,mb3,ok3,ac,rfl,f5⟩:=hi
 refine ⟨_,aS _,_,_,_,mb3.l3,ae (fun q1=> ?_) (fun q1=> ?_)⟩
 ·have q1:=dT q1
  obtain ⟨s,hs⟩: ∃ s,M.states[i]?=some s:=⟨_,gE (by omega)⟩
  obtain ⟨b,o,x',y,z,e1,e2,e3,e4,ar⟩:=mb3.row.at_ hs
  have hy:=ar.len
  rw [bj hs,lK] at f5
  refine ⟨_,aS _,_,_,_,mb3.l3,_,e1,_,bq _ _,_,_,_,e4,?_⟩
  have hw:IntKind.wrap .i64 ((ac:Int)+(y:Int))=((ac+y:Nat):Int):=by rw [ap (by omega) (by omega)]; omega
  dsimp only
  rw [hw,aJ (i:=i) (n:=n) (by omega) (by omega)]
  exact vZ (mz - 1) (by omega) ⟨by omega,by omega,mb3,ok3,_,rfl,by omega⟩
 ·have q1:=dF q1
  rw [List.drop_eq_nil_of_le (by omega)] at f5
  refine ⟨?_,ok3⟩
  rw [show lk []=0 from rfl,Nat.add_zero] at f5
  rw [f5]
def Ze (M:Mach)(i:Nat):Prop:= ∀ i' s,i' < i->M.states[i']?=some s->s.f.length<=900/\ ∀ q∈s.arcs,q.w.length<=900
def lQ (h:Heap)(M:Mach):VH:=fun v h'=> ∃ b:Bool,v = .bool b/\(b=false->Small M)/\Ok h h'
def WA (h:Heap)(k:Nat)(M:Mach)(a:Option Addr)(n c:Nat)(mz i:Nat)(g:Heap):Prop:=i<=n/\mz=n - i/\MB g k M a n c/\Ok h g/\Ze M i
def Zr (h:Heap)(k:Nat)(M:Mach)(a:Option Addr)(n c:Nat)(s:MSt)(i:Nat)(mz2 j:Nat)(g:Heap):Prop:=j<=s.arcs.length/\mz2=s.arcs.length - j/\MB g k M a n c/\Ok h g/\Ze M i/\s.f.length<=900/\ ∀ j' q,j' < j->s.arcs[j']?=some q->q.w.length<=900
set_option linter.defProp false in
def Te (w:Wf h)(hn:n<=300){s:MSt}{i:Nat}(hs:M.states[i]?=some s)(hsl:s.arcs.length<=2000)(hi:i < n)(mv:List Value)(mz:Nat)(hmz:mz=n - i):=
 wa mv k (WA h k M a n c) mz i (Zr h k M a n c s i) (lQ h M) (by
  intro mz2 j; intros; rename_i g hin
  obtain ⟨f1,f2,mb,ok,hv,hf,hw⟩:=hin
  obtain ⟨b,o,x',y,z,e1,e2,e3,e4,ar⟩:=mb.row.at_ hs
  have hm:=ar.len
  refine ⟨_,aS _,_,_,_,mb.l3,_,e1,_,bq _ _,_,_,_,e4,ae (fun g1=> ?_) (fun g1=> ?_)⟩
  ·have g1:=dT g1
   obtain ⟨q,hq⟩: ∃ q,s.arcs[j]?=some q:=⟨_,gE (by omega)⟩
   obtain ⟨bb,oo,d1,d2,d3,d4,d5,d6⟩:=ar.at_ hq
   refine ⟨_,aS _,_,_,_,mb.l3,_,e1,_,bq _ _,_,_,_,e4,_,d1,_,Kc _ _,_,d5,ae (fun g2=>⟨_,rfl,(fun e=>by cases e),ok⟩) (fun g2=> ?_)⟩
   have g2:=dF g2
   rw [aJ (i:=j) (n:=s.arcs.length) (by omega) (by omega)]
   refine vE (mz2 - 1) (by omega) ⟨by omega,by omega,mb,ok,hv,hf,fun j' q' hj hq'=> ?_⟩
   rcases Nat.lt_or_ge j' j with hj2 | hj2
   ·exact hw j' q' hj2 hq'
   ·obtain rfl:j'=j:=by omega
    rw [hq] at hq'
    obtain rfl:=oI hq'
    omega
  ·have g1:=dF g1
   rw [aJ hi (by omega)]
   refine vp (n - (i+1)) (by omega) ⟨by omega,rfl,mb,ok,fun i' s' hi' hs'=> ?_⟩
   rcases Nat.lt_or_ge i' i with hj2 | hj2
   ·exact hv i' s' hj2 hs'
   ·obtain rfl:i'=i:=by omega
    rw [hs] at hs'
    obtain rfl:=oI hs'
    refine ⟨hf,fun q hq=> ?_⟩
    obtain ⟨j',hj',rfl⟩:=List.mem_iff_getElem.1 hq
    exact hw j' _ (by omega) (gE hj'))
theorem Qi (w:Wf h)(bd:Yw M)(r:StRow h (.slice a n c) M.states):FW SS 8 [.agg ⟨bu M a n c⟩] h (lQ h M):=by
 obtain ⟨mb,ok⟩:=cQ w r
 refine Rh (bu M a n c) h _ ⟨_,e8 M a n c,?_⟩
 generalize h.push (Bm M a n c)=g at *
 have hl:=mb.len
 refine ⟨_,aS _,_,_,_,mb.l3,ae (fun q1=>⟨_,rfl,(fun e=>by cases e),ok⟩) (fun q1=> ?_)⟩
 have q1:=dF q1
 refine ⟨_,mb.all,(Qw ok.wf bd (by omega) mb.row).mono ?_⟩
 rintro _ g2 ⟨rfl,o2⟩
 have ok2:=ok.trans o2
 have mb2:=mb.ok o2
 refine ⟨_,rfl,ae (fun q2=>⟨_,rfl,(fun e=>by cases e),ok2⟩) (fun q2=> ?_)⟩
 have q2:=dF q2
 refine ⟨_,IZ _,_,mb2.l2,ae (fun q3=>⟨_,rfl,(fun e=>by cases e),ok2⟩) (fun q3=> ?_)⟩
 have q3:=dF q3
 have hS: ∀ s∈M.states,s.arcs.length<=2000:=fun s hs=>by have:=Ih hs; omega
 refine vB (bu M a n c) h.next (WA h h.next M a n c) (lQ h M) (fun mz i=> ?_) n (i:=0) ⟨by omega,rfl,mb2,ok2,fun i' s hi=>by omega⟩
 intros; rename_i gg hi
 obtain ⟨f1,f2,mb3,ok3,f5⟩:=hi
 refine ⟨_,aS _,_,_,_,mb3.l3,ae (fun t1=> ?_) (fun t1=> ?_)⟩
 ·have t1:=dT t1
  obtain ⟨s,hs⟩: ∃ s,M.states[i]?=some s:=⟨_,gE (by omega)⟩
  obtain ⟨b,o,x',y,z,e1,e2,e3,e4,ar⟩:=mb3.row.at_ hs
  refine ⟨_,aS _,_,_,_,mb3.l3,_,e1,_,rv _ _,_,e3,ae (fun t2=>⟨_,rfl,(fun e=>by cases e),ok3⟩) (fun t2=> ?_)⟩
  have t2:=dF t2
  exact Te w (by omega) hs (hS s (List.mem_of_getElem? hs)) (by omega) _ mz f2 s.arcs.length (j:=0) ⟨by omega,by omega,mb3,ok3,f5,by omega,fun j' q hj=>by omega⟩
 ·have t1:=dF t1
  have hget: ∀ s∈M.states,s.f.length<=900/\ ∀ q∈s.arcs,q.w.length<=900:=fun s hs=>by
   obtain ⟨i',hi',rfl⟩:=List.mem_iff_getElem.1 hs
   exact f5 i' _ (by omega) (gE hi')
  exact ⟨_,rfl,fun _=>⟨by omega,by omega,fun s hs=>(hget s hs).1,hS,fun s hs=>(hget s hs).2,by omega⟩,ok3⟩
end
end
noncomputable def iW:Code:=(Tryz.f16.body).getD .skip
noncomputable def FC (Q:VH):aj:=cE SS Tryz.f16.results.toList Q
def BJ:List Nat:=[1,2,4,5,17,18,19,25,26,27]
noncomputable def Ep (p:List Nat)(w:LV)(h:Heap)(Q:aj):Prop:=bp SS Tryz.f16.ntmps BJ (aP p iW) w h Q
noncomputable def vG (p b:List Nat)(K:aj):aj:=ky SS Tryz.f16.ntmps BJ p (aP b iW) K
abbrev VM (mv:LV)(h:Heap)(Q:VH):Prop:=xN (fp SS.P 24 (.agg ⟨mv⟩)) h fun B1 g2=>xA (ah SS.P 24 g2 (pA (h.next))) fun c3=>FW SS 12 [(.agg ⟨c3⟩)] g2 fun v4 h5=>yB v4 fun b6=>aw (!b6) (Q (.bool false) h5) (xA (ah SS.P 24 h5 (pA (h.next))) fun c7=>FW SS 14 [(.agg ⟨c7⟩)] h5 fun v8 h9=>yB v8 fun b10=>aw (!b10) (Q (.bool false) h9) (xP (ag SS.P 24 (pA (h.next)) 3) fun p11=>xL (ah SS.P 22 h9 (.pointer (some p11))) fun a12 n13 c14=>Ep [1,1,0,1,0,0] [(pA (h.next)),(.bool false),undef,undef,(.slice a12 n13 c14),(iA n13),(.int .i64 0),undef,undef,undef] h9 (vG [1,1,0,1,0] [] (FC Q))))
theorem SW (mv:LV)(h:Heap)(Q:VH)(hx:VM mv h Q):FW SS 16 [(.agg ⟨mv⟩)] h Q:=ax (M:=BJ) (c:=iW) Tryz.func16 (show Tryz.f16.body=some iW by kernel_rfl) (by kernel_rfl) (ai hx (by kernel_rfl))
abbrev nd (mv:LV)(k:Nat)(a:OA)(n c:Nat)(i:Nat)(y4 y5 y25 y26 y27:Value):LV:=[(pA k),(.bool false),y4,y5,(.slice a n c),(iA n),(iA i),y25,y26,y27]
def fQ (mv:LV)(k:Nat)(a:OA)(n c:Nat)(Inv:Nat->Nat->Heap->Prop)(mz:Nat)(w:LV)(h:Heap):Prop:= ∃ (i:Nat)(y4 y5 y25 y26 y27:Value),w=(nd mv k a n c i y4 y5 y25 y26 y27)/\Inv mz i h
abbrev Fz (mv:LV)(k:Nat)(a:OA)(n c:Nat)(Inv:Nat->Nat->Heap->Prop)(Q:VH)(mz:Nat)(i:Nat)(y4 y5 y25 y26 y27:Value)(zz:Nat->Value)(h:Heap):Prop:=aw (decide (((i:Int):Int) < (n:Int))) (xP (af SS.P 22 (.slice a n c) (iA i)) fun p15=>xA (ah SS.P 37 h (.pointer (some p15))) fun c16=>xN (bi SS.P 37) h fun B17 g18=>xU (al SS.P 37 (pA (h.next)) (.agg ⟨c16⟩) g18) g18 fun u19 g20=> ∃ B21:Blk,A2 SS.P 45=some (B21,fun k=> .map (some k))/\xP (ag SS.P 37 (pA (h.next)) 1) fun p22=>xL (ah SS.P 35 (g20.push B21) (.pointer (some p22))) fun a23 n24 c25=>Ep [1,1,0,1,0,0,1,1,0,0,1,1,0,1,0,0] [(pA k),(.bool false),(pA (h.next)),(.map (some g20.next)),(.slice a n c),(iA n),(iA i),(.slice a23 n24 c25),(iA n24),(.int .i64 0)] (g20.push B21) (vG [1,1,0,0,1,1,0,1,0] [1,1,0,1,0,0] (aT BJ (fQ mv k a n c Inv) mz (vG [1,1,0,1,0] [] (FC Q))))) (Q (.bool true) h)
theorem xC {mv:LV}{k:Nat}{a:OA}{n c:Nat}{Inv:Nat->Nat->Heap->Prop}{mz:Nat}(mq:Nat){i:Nat}{y4 y5 y25 y26 y27:Value}{h:Heap}(hm:mq < mz)(hi:Inv mq i h):ak (fQ mv k a n c Inv) mz (nd mv k a n c i y4 y5 y25 y26 y27) h:=⟨mq,hm,i,y4,y5,y25,y26,y27,rfl,hi⟩
theorem yw (mv:LV)(k:Nat)(a:OA)(n c:Nat)(Inv:Nat->Nat->Heap->Prop)(Q:VH)(step: ∀ (mz:Nat) (i:Nat) (y4 y5 y25 y26 y27:Value) (zz:Nat->Value) (h:Heap),Inv mz i h->Fz mv k a n c Inv Q mz i y4 y5 y25 y26 y27 zz h)(mz:Nat){i:Nat}{y4 y5 y25 y26 y27:Value}{h:Heap}(hi:Inv mz i h):Ep [1,1,0,1,0,0] (nd mv k a n c i y4 y5 y25 y26 y27) h (vG [1,1,0,1,0] [] (FC Q)):=
 an (A:=(fQ mv k a n c Inv)) (show aF Tryz.f16.ntmps (aP [1,1,0,1,0,0] iW)=true by kernel_rfl) (fun mz w zz h ⟨i,y4,y5,y25,y26,y27,hw,hi⟩=>by subst hw; exact ai (step mz i y4 y5 y25 y26 y27 zz h hi) (by kernel_rfl)) mz _ h ⟨i,y4,y5,y25,y26,y27,rfl,hi⟩ (fun zz=>by kernel_rfl) (by kernel_rfl)
abbrev mI (mv:LV)(k:Nat)(a:OA)(n c k2 k3:Nat)(b:OA)(m d i:Nat)(j:Nat)  : LV:=[(pA k),(.bool false),(pA k2),(.map (some k3)),(.slice a n c),(iA n),(iA i),(.slice b m d),(iA m),(iA j)]
def mM (mv:LV)(k:Nat)(a:OA)(n c k2 k3:Nat)(b:OA)(m d i:Nat)(Inv2:Nat->Nat->Heap->Prop)(mz2:Nat)(w:LV)(h:Heap):Prop:= ∃ (j:Nat) ,w=(mI mv k a n c k2 k3 b m d i j )/\Inv2 mz2 j h
abbrev Ff (mv:LV)(k:Nat)(a:OA)(n c k2 k3:Nat)(b:OA)(m d:Nat)(Inv:Nat->Nat->Heap->Prop)(mz i:Nat)(Inv2:Nat->Nat->Heap->Prop)(Q:VH)(mz2:Nat)(j:Nat)  (zz:Nat->Value) (h:Heap):Prop:=aw (decide (((j:Int):Int) < (m:Int))) (xP (af SS.P 35 (.slice b m d) (iA j)) fun p26=>xA (ah SS.P 39 h (.pointer (some p26))) fun c27=>xN (bi SS.P 39) h fun B28 g29=>xU (al SS.P 39 (pA (h.next)) (.agg ⟨c27⟩) g29) g29 fun u30 g31=>xP (ag SS.P 39 (pA (h.next)) 0) fun p32=>xI .i64 (ah SS.P 3 g31 (.pointer (some p32))) fun n33=>xU (uN SS.P 45 (.map (some k3)) (.int .i64 n33) (.bool true) g31) g31 fun u34 g35=>ak (mM mv k a n c k2 k3 b m d i Inv2) mz2 [(pA k),(.bool false),(pA k2),(.map (some k3)),(.slice a n c),(iA n),(iA i),(.slice b m d),(iA m),(.int .i64 (IntKind.wrap .i64 ((j:Int)+1)))] g35) (xI .i64 (HG SS.P 45 (.map (some k3)) h) fun n36=>xP (ag SS.P 37 (pA k2) 1) fun p37=>xL (ah SS.P 35 h (.pointer (some p37))) fun a38 n39 c40=>aw (((n36:Int) != (n39:Int))) (Q (.bool false) h) (ak (fQ mv k a n c Inv) mz [(pA k),(.bool false),(pA k2),(.map (some k3)),(.slice a n c),(iA n),(.int .i64 (IntKind.wrap .i64 ((i:Int)+1))),(.slice b m d),(iA m),(iA j)] h))
theorem yC {mv:LV}{k:Nat}{a:OA}{n c k2 k3:Nat}{b:OA}{m d i:Nat}{Inv2:Nat->Nat->Heap->Prop}{mz2:Nat}(mq:Nat){j:Nat}  {h:Heap} (hm:mq < mz2) (hi:Inv2 mq j h):ak (mM mv k a n c k2 k3 b m d i Inv2) mz2 (mI mv k a n c k2 k3 b m d i j ) h:=⟨mq,hm,j,rfl,hi⟩
theorem x8 (mv:LV)(k:Nat)(a:OA)(n c k2 k3:Nat)(b:OA)(m d:Nat)(Inv:Nat->Nat->Heap->Prop)(mz i:Nat)(Inv2:Nat->Nat->Heap->Prop)(Q:VH)(step: ∀ (mz2:Nat) (j:Nat)  (zz:Nat->Value) (h:Heap),Inv2 mz2 j h->Ff mv k a n c k2 k3 b m d Inv mz i Inv2 Q mz2 j  zz h)(mz2:Nat){j:Nat}  {h:Heap} (hi:Inv2 mz2 j h):Ep [1,1,0,1,0,0,1,1,0,0,1,1,0,1,0,0] (mI mv k a n c k2 k3 b m d i j ) h (vG [1,1,0,0,1,1,0,1,0] [1,1,0,1,0,0] (aT BJ (fQ mv k a n c Inv) mz (vG [1,1,0,1,0] [] (FC Q)))):=
 an (A:=(mM mv k a n c k2 k3 b m d i Inv2)) (show aF Tryz.f16.ntmps (aP [1,1,0,1,0,0,1,1,0,0,1,1,0,1,0,0] iW)=true by kernel_rfl) (fun mz2 w zz h ⟨j,hw,hi⟩=>by subst hw; exact ai (step mz2 j  zz h hi) (by kernel_rfl)) mz2 _ h ⟨j,rfl,hi⟩ (fun zz=>by kernel_rfl) (by kernel_rfl)
noncomputable def iV:Code:=(Tryz.f17.body).getD .skip
noncomputable def EH (Q:VH):aj:=cE SS Tryz.f17.results.toList Q
def AX:List Nat:=[1,2,3,4,5]
noncomputable def Ea (p:List Nat)(w:LV)(h:Heap)(Q:aj):Prop:=bp SS Tryz.f17.ntmps AX (aP p iV) w h Q
noncomputable def vR (p b:List Nat)(K:aj):aj:=ky SS Tryz.f17.ntmps AX p (aP b iV) K
abbrev VJ (mv:LV)(h:Heap)(Q:VH):Prop:=xN (fp SS.P 24 (.agg ⟨mv⟩)) h fun B1 g2=>xA (ah SS.P 24 g2 (pA (h.next))) fun c3=>FW SS 13 [(.agg ⟨c3⟩)] g2 fun v4 h5=>yB v4 fun b6=>aw (!b6) (Q (.bool false) h5) (xA (ah SS.P 24 h5 (pA (h.next))) fun c7=>FW SS 15 [(.agg ⟨c7⟩)] h5 fun v8 h9=>yB v8 fun b10=>aw (!b10) (Q (.bool false) h9) (Ea [1,1,0,1,0,0] [(pA (h.next)),(.bool false),(.int .i64 0),undef,undef] h9 (vR [1,1,0,1,0] [] (EH Q))))
theorem Tv (mv:LV)(h:Heap)(Q:VH)(hx:VJ mv h Q):FW SS 17 [(.agg ⟨mv⟩)] h Q:=ax (M:=AX) (c:=iV) Tryz.func17 (show Tryz.f17.body=some iV by kernel_rfl) (by kernel_rfl) (ai hx (by kernel_rfl))
abbrev ni (mv:LV)(k:Nat)(i:Nat)(y4 y5:Value):LV:=[(pA k),(.bool false),(iA i),y4,y5]
def ft (mv:LV)(k:Nat)(Inv:Nat->Nat->Heap->Prop)(mz:Nat)(w:LV)(h:Heap):Prop:= ∃ (i:Nat)(y4 y5:Value),w=(ni mv k i y4 y5)/\Inv mz i h
abbrev Fx (mv:LV)(k:Nat)(Inv:Nat->Nat->Heap->Prop)(Q:VH)(mz:Nat)(i:Nat)(y4 y5:Value)(zz:Nat->Value)(h:Heap):Prop:=xP (ag SS.P 24 (pA k) 3) fun p11=>xL (ah SS.P 22 h (.pointer (some p11))) fun a12 n13 c14=>aw (decide (((i:Int):Int) < (n13:Int))) (xR (aW SS.P 46 (.int .i64 501) (.int .i64 501)) h fun B15 n16 c17 g18=>Ea [1,1,0,1,0,0,1,0,0,1,1,0,0] [(pA k),(.bool false),(iA i),(sA (h.next) n16 c17),(.int .i64 0)] g18 (vR [1,0,0,1,1,0] [1,1,0,1,0,0] (aT AX (ft mv k Inv) mz (vR [1,1,0,1,0] [] (EH Q))))) (Q (.bool true) h)
theorem x6 {mv:LV}{k:Nat}{Inv:Nat->Nat->Heap->Prop}{mz:Nat}(mq:Nat){i:Nat}{y4 y5:Value}{h:Heap}(hm:mq < mz)(hi:Inv mq i h):ak (ft mv k Inv) mz (ni mv k i y4 y5) h:=⟨mq,hm,i,y4,y5,rfl,hi⟩
theorem xQ (mv:LV)(k:Nat)(Inv:Nat->Nat->Heap->Prop)(Q:VH)(step: ∀ (mz:Nat) (i:Nat) (y4 y5:Value) (zz:Nat->Value) (h:Heap),Inv mz i h->Fx mv k Inv Q mz i y4 y5 zz h)(mz:Nat){i:Nat}{y4 y5:Value}{h:Heap}(hi:Inv mz i h):Ea [1,1,0,1,0,0] (ni mv k i y4 y5) h (vR [1,1,0,1,0] [] (EH Q)):=
 an (A:=(ft mv k Inv)) (show aF Tryz.f17.ntmps (aP [1,1,0,1,0,0] iV)=true by kernel_rfl) (fun mz w zz h ⟨i,y4,y5,hw,hi⟩=>by subst hw; exact ai (step mz i y4 y5 zz h hi) (by kernel_rfl)) mz _ h ⟨i,y4,y5,rfl,hi⟩ (fun zz=>by kernel_rfl) (by kernel_rfl)
abbrev nv (mv:LV)(k kt tn tc i:Nat)(j:Nat)  : LV:=[(pA k),(.bool false),(iA i),(sA kt tn tc),(iA j)]
def mQ (mv:LV)(k kt tn tc i:Nat)(Inv2:Nat->Nat->Heap->Prop)(mz2:Nat)(w:LV)(h:Heap):Prop:= ∃ (j:Nat) ,w=(nv mv k kt tn tc i j )/\Inv2 mz2 j h
abbrev FK (mv:LV)(k kt tn tc:Nat)(Inv:Nat->Nat->Heap->Prop)(mz i:Nat)(Inv2:Nat->Nat->Heap->Prop)(Q:VH)(mz2:Nat)(j:Nat)  (zz:Nat->Value) (h:Heap):Prop:=xP (ag SS.P 24 (pA k) 3) fun p19=>xL (ah SS.P 22 h (.pointer (some p19))) fun a20 n21 c22=>xP (af SS.P 22 (.slice a20 n21 c22) (iA i)) fun p23=>xP (ag SS.P 37 (.pointer (some p23)) 1) fun p24=>xL (ah SS.P 35 h (.pointer (some p24))) fun a25 n26 c27=>aw (decide (((j:Int):Int) < (n26:Int))) (xP (ag SS.P 24 (pA k) 3) fun p28=>xL (ah SS.P 22 h (.pointer (some p28))) fun a29 n30 c31=>xP (af SS.P 22 (.slice a29 n30 c31) (iA i)) fun p32=>xP (ag SS.P 37 (.pointer (some p32)) 1) fun p33=>xL (ah SS.P 35 h (.pointer (some p33))) fun a34 n35 c36=>xP (af SS.P 35 (.slice a34 n35 c36) (iA j)) fun p37=>xP (ag SS.P 39 (.pointer (some p37)) 0) fun p38=>xI .i64 (ah SS.P 3 h (.pointer (some p38))) fun n39=>xP (af SS.P 46 (sA kt tn tc) (.int .i64 n39)) fun p40=>xB (ah SS.P 4 h (.pointer (some p40))) fun b41=>aw b41 (Q (.bool false) h) (xP (ag SS.P 24 (pA k) 3) fun p42=>xL (ah SS.P 22 h (.pointer (some p42))) fun a43 n44 c45=>xP (af SS.P 22 (.slice a43 n44 c45) (iA i)) fun p46=>xP (ag SS.P 37 (.pointer (some p46)) 1) fun p47=>xL (ah SS.P 35 h (.pointer (some p47))) fun a48 n49 c50=>xP (af SS.P 35 (.slice a48 n49 c50) (iA j)) fun p51=>xP (ag SS.P 39 (.pointer (some p51)) 0) fun p52=>xI .i64 (ah SS.P 3 h (.pointer (some p52))) fun n53=>xP (af SS.P 46 (sA kt tn tc) (.int .i64 n53)) fun p54=>xU (al SS.P 4 (.pointer (some p54)) (.bool true) h) h fun u55 g56=>ak (mQ mv k kt tn tc i Inv2) mz2 [(pA k),(.bool false),(iA i),(sA kt tn tc),(.int .i64 (IntKind.wrap .i64 ((j:Int)+1)))] g56)) (ak (ft mv k Inv) mz [(pA k),(.bool false),(.int .i64 (IntKind.wrap .i64 ((i:Int)+1))),(sA kt tn tc),(iA j)] h)
theorem yg {mv:LV}{k kt tn tc i:Nat}{Inv2:Nat->Nat->Heap->Prop}{mz2:Nat}(mq:Nat){j:Nat}  {h:Heap} (hm:mq < mz2) (hi:Inv2 mq j h):ak (mQ mv k kt tn tc i Inv2) mz2 (nv mv k kt tn tc i j ) h:=⟨mq,hm,j,rfl,hi⟩
theorem yu (mv:LV)(k kt tn tc:Nat)(Inv:Nat->Nat->Heap->Prop)(mz i:Nat)(Inv2:Nat->Nat->Heap->Prop)(Q:VH)(step: ∀ (mz2:Nat) (j:Nat)  (zz:Nat->Value) (h:Heap),Inv2 mz2 j h->FK mv k kt tn tc Inv mz i Inv2 Q mz2 j  zz h)(mz2:Nat){j:Nat}  {h:Heap} (hi:Inv2 mz2 j h):Ea [1,1,0,1,0,0,1,0,0,1,1,0,0] (nv mv k kt tn tc i j ) h (vR [1,0,0,1,1,0] [1,1,0,1,0,0] (aT AX (ft mv k Inv) mz (vR [1,1,0,1,0] [] (EH Q)))):=
 an (A:=(mQ mv k kt tn tc i Inv2)) (show aF Tryz.f17.ntmps (aP [1,1,0,1,0,0,1,0,0,1,1,0,0] iV)=true by kernel_rfl) (fun mz2 w zz h ⟨j,hw,hi⟩=>by subst hw; exact ai (step mz2 j  zz h hi) (by kernel_rfl)) mz2 _ h ⟨j,rfl,hi⟩ (fun zz=>by kernel_rfl) (by kernel_rfl)
section
theorem Dc {kind:Int}{N:Nat}: ∀ {l:List MSt}{acc:Int},nF kind N acc l=true-> ∀ s∈l,(s.f == [] || Num.weightOk kind s.f)=true/\ ∀ q∈s.arcs,eE kind N q=true
 | [],_,_,s,hs=>by cases hs
 | x::l,acc,h,s,hs=>by
  unfold nF at h
  simp only [Bool.and_eq_true] at h
  obtain ⟨⟨⟨h1,h2⟩,h3⟩,h4⟩:=h
  rcases List.mem_cons.1 hs with rfl | hs
  ·exact ⟨h2,fun q hq=>List.all_eq_true.1 h3 q hq⟩
  ·exact Dc h4 s hs
structure ArcIn (N:Nat)(q:MArc):Prop where
 i0:0<=q.i
 i1:q.i<=500
 o0:0<=q.o
 o1:q.o<=500
 t0:0<=q.t
 t1:q.t < N
theorem Oz {kind:Int}{N:Nat}{q:MArc}(h:eE kind N q=true):ArcIn N q:=by
 unfold eE oJ at h
 simp only [Bool.and_eq_true,decide_eq_true_eq] at h
 obtain ⟨⟨⟨⟨⟨h1,h2⟩,h3,h4⟩,h5⟩,h6⟩,h7⟩:=h
 exact ⟨h1,h2,h3,h4,h5,h6⟩
structure Good (M:Mach):Prop where
 start0:0<=M.start
 start1:M.start < M.states.length
 arcs: ∀ s∈M.states,∀ q∈s.arcs,ArcIn M.states.length q
theorem pj {M:Mach}(h:bV M=true):Good M:=by
 unfold bV at h
 simp only [Bool.and_eq_true,decide_eq_true_eq] at h
 obtain ⟨⟨⟨⟨⟨⟨⟨h1,h2⟩,h3⟩,h4⟩,h5⟩,h6⟩,h7⟩,h8⟩:=h
 exact ⟨h5,h6,fun s hs q hq=>Oz ((Dc h8 s hs).2 q hq)⟩
theorem Vb (a b:Int):wI SS.P 3 (.int .i64 a) (.int .i64 b)=some (decide (a=b)):=by
 by_cases h:a=b
 ·subst h
  have e:eR SS.P 3 3 (.int .i64 a) (.int .i64 a)=some (a == a):=by kernel_rfl
  unfold wI
  rw [if_pos (show wj (Value.int .i64 a)=true from rfl),e]
  simp [Le,G8]
 ·have e:eR SS.P 3 3 (.int .i64 a) (.int .i64 b)=some (a == b):=by kernel_rfl
  unfold wI
  rw [if_pos (show wj (Value.int .i64 b)=true from rfl),e,show (a == b)=false by simpa using h]
  simp [h]
def sj (l:List Int)(k:Int):List Int:=if k∈l then l else l++[k]
def CD (x:Int):Value×Value:=(.int .i64 x,.bool true)
theorem H6 (k:Int): ∀ l:List Int,iR SS.P 3 (.int .i64 k) (.bool true) (l.map CD)=some ((sj l k).map CD)
 | []=>rfl
 | x::l=>by
  show (match wI SS.P 3 (.int .i64 k) (.int .i64 x) with | some true=>some ((Value.int .i64 k,Value.bool true)::l.map CD) | some false=>(iR SS.P 3 (.int .i64 k) (.bool true) (l.map CD)).map (CD x :: ·) | none=>none)=_
  rw [Vb]
  by_cases h:k=x
  ·subst h
   simp [sj,CD]
  ·rw [show decide (k=x)=false by simpa using h]
   dsimp only
   rw [H6 k l]
   unfold sj
   by_cases h2:k∈l
   ·rw [if_pos h2,if_pos (List.mem_cons_of_mem _ h2)]; rfl
   ·rw [if_neg h2,if_neg (fun e=>by rcases List.mem_cons.1 e with e | e; exact h e; exact h2 e)]; rfl
theorem Ax: ∀ (l acc:List Int),acc.Nodup->((l.foldl sj acc).length=acc.length+l.length↔(acc++l).Nodup)/\(l.foldl sj acc).length<=acc.length+l.length
 | [],acc,h=>by simp [h]
 | x::l,acc,h=>by
  rw [List.foldl_cons]
  by_cases hx:x∈acc
  ·have e:sj acc x=acc:=by unfold sj; rw [if_pos hx]
   rw [e]
   obtain ⟨h1,h2⟩:=Ax l acc h
   refine ⟨⟨fun h3=>by simp at h3; omega,fun h3=> ?_⟩,by simp; omega⟩
   rw [List.nodup_append] at h3
   exact absurd rfl (h3.2.2 x hx x (List.mem_cons_self ..))
  ·have e:sj acc x=acc++[x]:=by unfold sj; rw [if_neg hx]
   rw [e]
   have hn:(acc++[x]).Nodup:=by
    rw [List.nodup_append]
    refine ⟨h,by simp,fun a ha b hb=> ?_⟩
    rw [List.mem_singleton] at hb
    rintro rfl
    exact hx (hb ▸ ha)
   obtain ⟨h1,h2⟩:=Ax l (acc++[x]) hn
   rw [List.append_assoc] at h1
   simp only [List.length_append,List.length_cons,List.length_nil,List.singleton_append] at h1 h2 ⊢
   refine ⟨⟨fun h3=>h1.1 (by omega),fun h3=> ?_⟩,by omega⟩
   have:=h1.2 h3; omega
theorem Xc:SS.P.underlying 45=some (.map 3 4):=by kernel_rfl
theorem W8 {h:Heap}{k:Nat}{l:List Int}(hk:h.get k=some (.map (l.map CD)))(x:Int):uN SS.P 45 (.map (some k)) (.int .i64 x) (.bool true) h=some (undef,.set k (.map ((sj l x).map CD))):=by
 unfold uN
 rw [Xc]; dsimp only
 rw [hk]; dsimp only
 rw [show nM SS.P 3 (.int .i64 x)=true by kernel_rfl,if_pos rfl,H6]; rfl
theorem Xx {h:Heap}{k:Nat}{es:List (Value×Value)}(hk:h.get k=some (.map es)):HG SS.P 45 (.map (some k)) h=some (.int .i64 (es.length:Int)):=by
 unfold HG
 rw [Xc]; dsimp only
 rw [hk]
theorem Xj:A2 SS.P 45=some (.map [],fun k=> .map (some k)):=by kernel_rfl
def el (s:MSt):List Int:=s.arcs.map (·.i)
def xT (s:MSt):Bool:=decide (el s).Nodup
def Cp (M:Mach):Bool:=J7 M && vD M && M.states.all xT
section
variable {h:Heap} {k:Nat} {M:Mach} {a:Option Addr} {n c:Nat}
def RD (h:Heap)(k:Nat)(M:Mach)(a:Option Addr)(n c:Nat)(V:Bool)(mz i:Nat)(g:Heap):Prop:=i<=n/\mz=n - i/\MB g k M a n c/\Ok h g/\(M.states.drop i).all xT=V
set_option linter.defProp false in
def Px {hb:Heap}(w:Wf hb)(okb:Ok h hb)(sm:Small M)(V:Bool){s:MSt}{b:Option Addr}{m d i k2 k3:Nat}(hs:M.states[i]?=some s)(hi:i < n)(mb0:MB hb k M a n c)(hv:(xT s && (M.states.drop (i+1)).all xT)=V)(hk3:hb.next<=k3)(mv:List Value)(mz:Nat)(hmz:mz=n - i):=
 x8 mv k a n c k2 k3 b m d (RD h k M a n c V) mz i (fun mz2 j g=>j<=m/\mz2=m - j/\Ok hb g/\ArcRow g (.slice b m d) s.arcs/\g.get k2=some (.cells [aa s.f,.slice b m d] 37 0 true)/\k3≠k2/\hb.next<=k2/\g.get k3=some (.map ((((el s).take j).foldl sj []).map CD))) (bQ h V) (by
  intro mz2 j; intros; rename_i g hin
  obtain ⟨f1,f2,ok,ar,sb,hne,hk2,hm⟩:=hin
  have mb:=mb0.ok ok
  have hn:n<=300:=by rw [mb.len]; exact sm.sts
  obtain ⟨l1,l2,l3⟩:=de sm hs
  have hml:=ar.len
  refine ae (fun g1=> ?_) (fun g1=> ?_)
  ·have g1:=dT g1
   obtain ⟨q,hq⟩: ∃ q,s.arcs[j]?=some q:=⟨_,gE (by omega)⟩
   obtain ⟨bb,o,e1,e2,e3⟩:=ar.at_ hq
   obtain ⟨u,p1,p2,p3⟩:=GZ ok.wf q
   have hm2:=p2.ext _ _ hm
   refine ⟨_,e1,_,e2,_,Qp,u,p1,_,it _ _,_,p3.l0,_,W8 hm2 q.i,?_⟩
   have okg:=ok.trans p2
   have sb2:=p2.ext _ _ sb
   have ar2:=ar.ok p2
   generalize u.app (g.push O2)=g2 at *
   rw [aJ (i:=j) (n:=m) (by omega) (by omega)]
   have ok3:Ok hb ((Upd.set k3 (.map ((sj (((el s).take j).foldl sj []) q.i).map CD))).app g2):=okg.set _ hk3 (okg.wf _ _ hm2) w
   have hq':(el s)[j]?=some q.i:=by unfold el; rw [List.getElem?_map,hq]; rfl
   have ht:(el s).take (j+1)=(el s).take j++[q.i]:=by rw [List.take_add_one,hq']; rfl
   refine yC (mz2 - 1) (by omega) ⟨by omega,by omega,ok3,?_,?_,hne,hk2,?_⟩
   ·
    obtain ⟨bb',oo',xx,yy,zz,_,_,_,w4,ar0⟩:=(mb0.ok ok3).row.at_ hs
    obtain ⟨bb2,oo2,xx2,yy2,zz2,v1,_,_,v4,ar02⟩:=(mb0.ok okg).row.at_ hs
    obtain ⟨r1,⟨r2,r3⟩ | ⟨kk,off,cs,e',z',cc,wr,r2,r3,r4,r5⟩⟩:=ar2
    ·exact ⟨r1,.inl ⟨r2,r3⟩⟩
    ·refine ⟨r1,.inr ⟨kk,off,cs,e',z',cc,wr,r2,?_,r4,r5⟩⟩
     show (g2.set k3 _).get kk=_
     rw [Heap.get_set,if_neg (fun e=>by rw [e,hm2] at r3; cases r3)]
     exact r3
   ·show (g2.set k3 _).get k2=_
    rw [Heap.get_set,if_neg (fun e=>hne e.symm)]
    exact sb2
   ·show (g2.set k3 _).get k3=_
    rw [Heap.get_set,if_pos rfl,ht,List.foldl_append]; rfl
  ·have g1:=dF g1
   obtain rfl:m=j:=by omega
   have sbl:SB g k2 s.f b m d:=sb
   refine ⟨_,Xx hm,_,bq _ _,_,_,_,sbl.l1,?_⟩
   have hlen:(el s).length=m:=by unfold el; rw [lM]; exact hml.symm
   obtain ⟨q1,q2⟩:=Ax (el s) [] List.nodup_nil
   rw [List.nil_append,List.length_nil,Nat.zero_add,hlen] at q1
   rw [lM,List.take_of_length_le (by omega)]
   refine ae (fun t=>⟨?_,okb.trans ok⟩) (fun t=> ?_)
   ·have t: ¬ (((el s).foldl sj []).length:Int)=(m:Int):=by simpa using t
    rw [<-hv,show xT s=false from decide_eq_false fun e=>t (by rw [q1.2 e])]; rfl
   ·have t:(((el s).foldl sj []).length:Int)=(m:Int):=by simpa using t
    rw [show xT s=true from decide_eq_true (q1.1 (by omega)),Bool.true_and] at hv
    rw [aJ hi (by omega)]
    exact xC (n - (i+1)) (by omega) ⟨by omega,rfl,mb,okb.trans ok,hv⟩)
theorem TE (tb:Tab h)(w:Wf h)(sm:Small M)(r:StRow h (.slice a n c) M.states):FW SS 16 [.agg ⟨bu M a n c⟩] h (fun v h'=>v = .bool (Cp M)/\Ok h h'):=by
 obtain ⟨mb,ok⟩:=cQ w r
 refine SW (bu M a n c) h _ ⟨_,e8 M a n c,_,mb.all,(KM (tb.ok ok) ok.wf sm mb.row).mono ?_⟩
 generalize h.push (Bm M a n c)=g at *
 rintro _ g2 ⟨rfl,o2⟩
 have ok2:=ok.trans o2
 have mb2:=mb.ok o2
 have hn:n<=300:=by rw [mb.len]; exact sm.sts
 refine ⟨_,rfl,ae (fun q=>⟨?_,ok2⟩) (fun q=> ?_)⟩
 ·rw [Bool.not_eq_true'] at q
  unfold Cp; rw [q]; rfl
 rw [Bool.not_eq_false'] at q
 refine ⟨_,mb2.all,(CV (tb.ok ok2) ok2.wf sm mb2.row).mono ?_⟩
 rintro _ g3 ⟨rfl,o3⟩
 have ok3:=ok2.trans o3
 have mb3:=mb2.ok o3
 refine ⟨_,rfl,ae (fun t=>⟨?_,ok3⟩) (fun t=> ?_)⟩
 ·rw [Bool.not_eq_true'] at t
  unfold Cp; rw [t,Bool.and_false]; rfl
 rw [Bool.not_eq_false'] at t
 obtain ⟨V,hV⟩: ∃ V,V=M.states.all xT:=⟨_,rfl⟩
 have:Cp M=V:=by unfold Cp; rw [q,t,hV]; rfl
 rw [this]
 refine ⟨_,aS _,_,_,_,mb3.l3,?_⟩
 refine yw (bu M a n c) h.next a n c (RD h h.next M a n c V) (bQ h V) (fun mz i=> ?_) n (i:=0) ⟨by omega,rfl,mb3,ok3,hV.symm⟩
 intros; rename_i gg hi
 obtain ⟨f1,f2,mb4,ok4,f5⟩:=hi
 have hl:=mb4.len
 refine ae (fun q1=> ?_) (fun q1=> ?_)
 ·have q1:=dT q1
  obtain ⟨s,hs⟩: ∃ s,M.states[i]?=some s:=⟨_,gE (by omega)⟩
  obtain ⟨b,o,x',y,z,e1,e2,e3,e4,ar⟩:=mb4.row.at_ hs
  rw [bj hs,List.all_cons] at f5
  obtain ⟨u,p1,p2,p3⟩:=D8 ok4.wf s.f x' y z
  have p4:=(Ok.refl p2.wf).push (.map [])
  have hk3:=aZ (u.app (gg.push LK)) (.map [])
  have hlt:gg.next < (u.app (gg.push LK)).next:=p2.wf _ _ p3
  refine ⟨_,e1,_,e2,_,Mp,u,p1,_,Xj,_,bq _ _,_,_,_,(p3.ok p4).l1,?_⟩
  generalize u.app (gg.push LK)=g5 at *
  exact Px ok4.wf ok4 sm V hs (by omega) mb4 f5 (by omega) _ mz f2 y (j:=0) ⟨by omega,rfl,p2.trans p4,(ar.ok p2).ok p4,p3.ok p4,by omega,Nat.le_refl _,hk3⟩
 ·have q1:=dF q1
  rw [List.drop_eq_nil_of_le (by omega)] at f5
  exact ⟨by rw [<-f5]; rfl,ok4⟩
end
end
section
theorem NC:SS.P.underlying 46=some (.slice 4):=by kernel_rfl
theorem SP:aq SS.P 4=some 1:=by kernel_rfl
noncomputable def ti4:TypeInfo:=(SS.P.info? 4).getD default
theorem UE:SS.P.info? 4=some ti4:=by kernel_rfl
theorem Pj:ti4.size=1:=by kernel_rfl
theorem Lu:ti4.bytes=1:=by kernel_rfl
theorem Wk:cp SS.P 4=some (.bool false):=by kernel_rfl
theorem Sh (n:Nat)(hn:n<=100000):aW SS.P 46 (.int .i64 (n:Int)) (.int .i64 (n:Int))=some (.cells ((List.replicate n false).map Value.bool) 4 1 true,nq n n):=by
 unfold aW aG
 dsimp only
 rw [NC]
 try dsimp only
 change (match SS.P.info? 4,cp SS.P 4 with
  | some i,some z=>(if z.cells.size=i.size/\0 < i.size/\(0:Int)<=(n:Int)/\(n:Int)<=(n:Int)/\(n:Int)*i.bytes<=140737488355328/\(n:Int)<=1099511627776 then some (Blk.cells (bh z.cells.toList (n:Int).toNat) 4 i.size true,fun k=>Value.slice (some ⟨k,0,none⟩) (n:Int).toNat (n:Int).toNat) else none)
  | _,_=>none)=_
 rw [UE,Wk]
 dsimp only
 rw [Pj,Lu,if_pos ⟨rfl,by omega,by omega,Int.le_refl _,by omega,by omega⟩]
 have e:((n:Int)).toNat=n:=by omega
 rw [e,show (Value.bool false).cells.toList=[Value.bool false] from rfl,oy,List.map_replicate]; rfl
structure BR (hb:Heap)(kt N:Nat)(L:List Bool)(g:Heap):Prop where
 len:L.length=N
 row:IRow hb kt 4 (L.map Value.bool) g
theorem BR.trans {hb:Heap}{kt N:Nat}{L:List Bool}{g g':Heap}(m:BR hb kt N L g)(o:Ok g g'):BR hb kt N L g':=⟨m.len,m.row.trans o⟩
theorem BR.get {hb:Heap}{kt N c:Nat}{L:List Bool}{g:Heap}(m:BR hb kt N L g){x:Int}(h0:0<=x)(h1:x < N):af SS.P 46 (.slice (some ⟨kt,0,none⟩) N c) (.int .i64 x)=some (.pointer (some ⟨kt,x.toNat,none⟩))/\ah SS.P 4 g (.pointer (some ⟨kt,x.toNat,none⟩))=some (.bool (L.getD x.toNat false))/\
  ∀ b:Bool,Wf hb-> ∃ u:Upd,al SS.P 4 (.pointer (some ⟨kt,x.toNat,none⟩)) (.bool b) g=some (undef,u)/\BR hb kt N (L.set x.toNat b) (u.app g)/\(∀ k' B,g.get k'=some B->k'≠kt->(u.app g).get k'=some B):=by
 have e:0+x.toNat*1=x.toNat:=by omega
 have hl:x.toNat < L.length:=by rw [m.len]; omega
 refine ⟨by rw [<-e]; exact Qg NC SP h0 h1,?_,?_⟩
 ·rw [eC Yp YA m.row.row (by rw [lM]; exact hl),gD,List.getElem?_map,gD,gE hl]; rfl
 ·intro b w
  refine ⟨_,zZ SP m.row.row (by rw [lM]; exact hl) rfl rfl,⟨by rw [List.length_set]; exact m.len,?_⟩,fun k' B hk hne=> ?_⟩
  ·have:=m.row.set w x.toNat (.bool b)
   rw [F4 Value.bool L x.toNat b] at this ⊢
   exact this
  ·show (g.set kt _).get k'=_
   rw [Heap.get_set,if_neg hne]; exact hk
theorem BR.new {h:Heap}(w:Wf h)(n:Nat):BR h h.next n (List.replicate n false) (h.push (.cells ((List.replicate n false).map Value.bool) 4 1 true)):=
 ⟨List.length_replicate,aZ h _,Nat.le_refl _,(Ok.refl w).push _⟩
theorem BD {L:List Bool}{x y:Nat}{b:Bool}(hx:x < L.length):(L.set x b).getD y false=if y=x then b else L.getD y false:=by
 rw [gD,List.getElem?_set,gD]
 split
 ·next e=>subst e; simp
 ·next e=>rw [if_neg (fun c=>e c.symm)]
section
variable {h:Heap} {k:Nat} {M:Mach} {a:Option Addr} {n c:Nat}
set_option linter.defProp false in
def OJ {hb:Heap}(w:Wf hb)(okb:Ok h hb)(sm:Small M)(gd:Good M)(V:Bool){s:MSt}{i kt:Nat}(hs:M.states[i]?=some s)(hi:i < n)(mb0:MB hb k M a n c)(hv:(xT s && (M.states.drop (i+1)).all xT)=V)(mv:List Value)(mz:Nat)(hmz:mz=n - i):=
 yu mv k kt 501 501 (RD h k M a n c V) mz i (fun mz2 j g=>j<=s.arcs.length/\mz2=s.arcs.length - j/\ ∃ L,BR hb kt 501 L g/\(∀ x:Nat,x < 501->(L.getD x false=true↔(x:Int)∈(el s).take j))/\((el s).take j).Nodup) (bQ h V) (by
  intro mz2 j; intros; rename_i g hin
  obtain ⟨f1,f2,L,br,hL,hnd⟩:=hin
  have ok:=br.row.ok
  have mb:=mb0.ok ok
  have hn:n<=300:=by rw [mb.len]; exact sm.sts
  obtain ⟨l1,l2,l3⟩:=de sm hs
  obtain ⟨b,o,x',y,z,e1,e2,e3,e4,ar⟩:=mb.row.at_ hs
  have hm:=ar.len
  refine ⟨_,aS _,_,_,_,mb.l3,_,e1,_,bq _ _,_,_,_,e4,ae (fun g1=> ?_) (fun g1=> ?_)⟩
  ·have g1:=dT g1
   obtain ⟨q,hq⟩: ∃ q,s.arcs[j]?=some q:=⟨_,gE (by omega)⟩
   obtain ⟨bb,oo,d1,d2,d3,d4,d5,d6⟩:=ar.at_ hq
   have hin:=gd.arcs s (List.mem_of_getElem? hs) q (List.mem_of_getElem? hq)
   have hi0:=hin.i0
   have hi1:=hin.i1
   obtain ⟨r1,r2,r3⟩:=br.get (c:=501) (x:=q.i) hi0 (by omega)
   have hq':(el s)[j]?=some q.i:=by unfold el; rw [List.getElem?_map,hq]; rfl
   have ht:(el s).take (j+1)=(el s).take j++[q.i]:=by rw [List.take_add_one,hq']; rfl
   have hLq:=hL q.i.toNat (by omega)
   rw [show ((q.i.toNat:Nat):Int)=q.i by omega] at hLq
   refine ⟨_,aS _,_,_,_,mb.l3,_,e1,_,bq _ _,_,_,_,e4,_,d1,_,it _ _,_,d3,_,r1,_,r2,ae (fun g2=>⟨?_,okb.trans ok⟩) (fun g2=> ?_)⟩
   ·have hmem:=hLq.1 g2
    have: ¬ (el s).Nodup:=fun hnd2=>by
     rw [<-List.take_append_drop j (el s),List.nodup_append] at hnd2
     refine hnd2.2.2 _ hmem q.i ?_ rfl
     rw [bj hq']; exact List.mem_cons_self ..
    rw [<-hv,show xT s=false from decide_eq_false this]; rfl
   ·have hnm:q.i ∉ (el s).take j:=fun c=>by rw [hLq.2 c] at g2; cases g2
    obtain ⟨u,s1,s2,s3⟩:=r3 true w
    refine ⟨_,aS _,_,_,_,mb.l3,_,e1,_,bq _ _,_,_,_,e4,_,d1,_,it _ _,_,d3,_,r1,u,s1,?_⟩
    rw [aJ (i:=j) (n:=s.arcs.length) (by omega) (by omega)]
    refine yg (mz2 - 1) (by omega) ⟨by omega,by omega,_,s2,fun x hx=> ?_,?_⟩
    ·rw [BD (by rw [br.len]; omega),ht,List.mem_append,List.mem_singleton]
     by_cases e:x=q.i.toNat
     ·rw [if_pos e]
      exact ⟨fun _=> .inr (by omega),fun _=>rfl⟩
     ·rw [if_neg e,hL x hx]
      exact ⟨.inl,fun c=>c.elim id (fun c=>absurd (by omega) e)⟩
    ·rw [ht,List.nodup_append]
     refine ⟨hnd,by simp,fun a1 h1 b1 h2=> ?_⟩
     rw [List.mem_singleton] at h2
     rintro rfl
     exact hnm (h2 ▸ h1)
  ·have g1:=dF g1
   rw [List.take_of_length_le (by unfold el; rw [lM]; omega)] at hnd
   rw [show xT s=true from decide_eq_true hnd,Bool.true_and] at hv
   rw [aJ hi (by omega)]
   exact x6 (n - (i+1)) (by omega) ⟨by omega,rfl,mb,okb.trans ok,hv⟩)
theorem TC (w:Wf h)(sm:Small M)(r:StRow h (.slice a n c) M.states):FW SS 17 [.agg ⟨bu M a n c⟩] h (fun v h'=>v = .bool (Cp M)/\Ok h h'):=by
 obtain ⟨mb,ok⟩:=cQ w r
 refine Tv (bu M a n c) h _ ⟨_,e8 M a n c,_,mb.all,(K5 ok.wf sm mb.row).mono ?_⟩
 generalize h.push (Bm M a n c)=g at *
 rintro _ g2 ⟨rfl,o2⟩
 have ok2:=ok.trans o2
 have mb2:=mb.ok o2
 have hn:n<=300:=by rw [mb.len]; exact sm.sts
 refine ⟨_,rfl,ae (fun q=>⟨?_,ok2⟩) (fun q=> ?_)⟩
 ·rw [Bool.not_eq_true'] at q
  unfold Cp; rw [q]; rfl
 rw [Bool.not_eq_false'] at q
 refine ⟨_,mb2.all,(CQ ok2.wf sm mb2.row).mono ?_⟩
 rintro _ g3 ⟨rfl,o3⟩
 have ok3:=ok2.trans o3
 have mb3:=mb2.ok o3
 refine ⟨_,rfl,ae (fun t=>⟨?_,ok3⟩) (fun t=> ?_)⟩
 ·rw [Bool.not_eq_true'] at t
  unfold Cp; rw [t,Bool.and_false]; rfl
 rw [Bool.not_eq_false'] at t
 have gd:Good M:=pj (by unfold J7 at q; rw [Bool.and_eq_true] at q; exact q.1)
 obtain ⟨V,hV⟩: ∃ V,V=M.states.all xT:=⟨_,rfl⟩
 have:Cp M=V:=by unfold Cp; rw [q,t,hV]; rfl
 rw [this]
 refine xQ (bu M a n c) h.next (RD h h.next M a n c V) (bQ h V) (fun mz i=> ?_) n (i:=0) ⟨by omega,rfl,mb3,ok3,hV.symm⟩
 intros; rename_i gg hi
 obtain ⟨f1,f2,mb4,ok4,f5⟩:=hi
 have hl:=mb4.len
 refine ⟨_,aS _,_,_,_,mb4.l3,ae (fun q1=> ?_) (fun q1=> ?_)⟩
 ·have q1:=dT q1
  obtain ⟨s,hs⟩: ∃ s,M.states[i]?=some s:=⟨_,gE (by omega)⟩
  rw [bj hs,List.all_cons] at f5
  refine ⟨_,_,_,Sh 501 (by omega),?_⟩
  exact OJ ok4.wf ok4 sm gd V hs (by omega) mb4 f5 _ mz f2 s.arcs.length (j:=0) ⟨by omega,by omega,_,BR.new ok4.wf 501,fun x hx=>by rw [List.take_zero,gD,List.getElem?_replicate,if_pos hx]; simp,List.nodup_nil⟩
 ·have q1:=dF q1
  rw [List.drop_eq_nil_of_le (by omega)] at f5
  exact ⟨by rw [<-f5]; rfl,ok4⟩
end
end
noncomputable def Bo:Code:=(Tryz.f79.body).getD .skip
def RO:List Nat:=[]
abbrev TJ (s:Int)(k7 k8:Nat)(h:Heap)(Q:VH):Prop:=xL (ah SS.P 46 h (pA k7)) fun a1 n2 c3=>xP (af SS.P 46 (.slice a1 n2 c3) (.int .i64 s)) fun p4=>xB (ah SS.P 4 h (.pointer (some p4))) fun b5=>aw (!b5) (xL (ah SS.P 46 h (pA k7)) fun a6 n7 c8=>xP (af SS.P 46 (.slice a6 n7 c8) (.int .i64 s)) fun p9=>xU (al SS.P 4 (.pointer (some p9)) (.bool true) h) h fun u10 g11=>xL (ah SS.P 48 g11 (pA k8)) fun a12 n13 c14=>xR (ay SS.P 48 1 [(0,(.int .i64 s))]) g11 fun B15 n16 c17 g18=>xE (aB SS.P 48 48 (.slice a12 n13 c14) (sA (g11.next) n16 c17) g18) g18 fun a19 n20 c21 u22 g23=>xU (al SS.P 48 (pA k8) (.slice a19 n20 c21) g23) g23 fun u24 g25=>Q (.tuple ⟨[]⟩) g25) (Q (.tuple ⟨[]⟩) h)
theorem Q3 (s:Int)(k7 k8:Nat)(h:Heap)(Q:VH)(hx:TJ s k7 k8 h Q):FW SS 79 [(.int .i64 s),(pA k7),(pA k8)] h Q:=ax (M:=RO) (c:=Bo) Tryz.func79 (show Tryz.f79.body=some Bo by kernel_rfl) (by kernel_rfl) (ai hx (by kernel_rfl))
noncomputable def Ar:Code:=(Tryz.f62.body).getD .skip
def SL:List Nat:=[]
abbrev S8 (s:Int)(k:Nat)(h:Heap)(Q:VH):Prop:=xL (ah SS.P 72 h (pA k)) fun a1 n2 c3=>xP (af SS.P 72 (.slice a1 n2 c3) (.int .i64 s)) fun p4=>xL (ah SS.P 48 h (.pointer (some p4))) fun a5 n6 c7=>Q (.slice a5 n6 c7) h
theorem OM (s:Int)(k:Nat)(h:Heap)(Q:VH)(hx:S8 s k h Q):FW SS 62 [(.int .i64 s),(pA k)] h Q:=ax (M:=SL) (c:=Ar) Tryz.func62 (show Tryz.f62.body=some Ar by kernel_rfl) (by kernel_rfl) (ai hx (by kernel_rfl))
noncomputable def Av:Code:=(Tryz.f63.body).getD .skip
def Tq:List Nat:=[]
abbrev RG (s:Int)(k:Nat)(h:Heap)(Q:VH):Prop:=xL (ah SS.P 72 h (pA k)) fun a1 n2 c3=>xP (af SS.P 72 (.slice a1 n2 c3) (.int .i64 s)) fun p4=>xL (ah SS.P 48 h (.pointer (some p4))) fun a5 n6 c7=>Q (.slice a5 n6 c7) h
theorem Pb (s:Int)(k:Nat)(h:Heap)(Q:VH)(hx:RG s k h Q):FW SS 63 [(.int .i64 s),(pA k)] h Q:=ax (M:=Tq) (c:=Av) Tryz.func63 (show Tryz.f63.body=some Av by kernel_rfl) (by kernel_rfl) (ai hx (by kernel_rfl))
noncomputable def dN:Code:=(Tryz.f61.body).getD .skip
noncomputable def mo (Q:VH):aj:=cE SS Tryz.f61.results.toList Q
def oQ:List Nat:=[0,1,2,7,8,9,18,19,20,44,45,46]
noncomputable def lP (p:List Nat)(w:LV)(h:Heap)(Q:aj):Prop:=bp SS Tryz.f61.ntmps oQ (aP p dN) w h Q
noncomputable def hZ (p b:List Nat)(K:aj):aj:=ky SS Tryz.f61.ntmps oQ p (aP b dN) K
abbrev OO (N:Int)(a:OA)(n c f kn:Nat)(h:Heap)(Q:VH):Prop:=xR (aW SS.P 46 (.int .i64 N) (.int .i64 N)) h fun B1 n2 c3 g4=>xN (bi SS.P 46) g4 fun B5 g6=>xU (al SS.P 46 (pA (g4.next)) (sA (h.next) n2 c3) g6) g6 fun u7 g8=>xN (bi SS.P 48) g8 fun B9 g10=>lP [1,1,1,1,0,1,0,0] [(.int .i64 N),(.slice a n c),(.func (.func f) ⟨[]⟩ ⟨[(.pointer (some ⟨kn,0,none⟩))]⟩),(pA (g4.next)),(pA (g8.next)),(.func (.func 79) ⟨[]⟩ ⟨[(pA (g4.next)),(pA (g8.next))]⟩),(.slice a n c),(iA n),(.int .i64 0),undef,undef,undef] g10 (hZ [1,1,1,1,0,1,0] [] (mo Q))
theorem Lw (N:Int)(a:OA)(n c f kn:Nat)(h:Heap)(Q:VH)(hx:OO N a n c f kn h Q):FW SS 61 [(.int .i64 N),(.slice a n c),(.func (.func f) ⟨[]⟩ ⟨[(.pointer (some ⟨kn,0,none⟩))]⟩)] h Q:=ax (M:=oQ) (c:=dN) Tryz.func61 (show Tryz.f61.body=some dN by kernel_rfl) (by kernel_rfl) (ai hx (by kernel_rfl))
abbrev jf (N:Int)(a:OA)(n c f kn:Nat)(k7 k8:Nat)(i:Nat)(y44 y45 y46:Value):LV:=[(.int .i64 N),(.slice a n c),(.func (.func f) ⟨[]⟩ ⟨[(.pointer (some ⟨kn,0,none⟩))]⟩),(pA k7),(pA k8),(.func (.func 79) ⟨[]⟩ ⟨[(pA k7),(pA k8)]⟩),(.slice a n c),(iA n),(iA i),y44,y45,y46]
def j8 (N:Int)(a:OA)(n c f kn:Nat)(k7 k8:Nat)(Inv:Nat->Nat->Heap->Prop)(mz:Nat)(w:LV)(h:Heap):Prop:= ∃ (i:Nat)(y44 y45 y46:Value),w=(jf N a n c f kn k7 k8 i y44 y45 y46)/\Inv mz i h
abbrev z0 (N:Int)(a:OA)(n c f kn:Nat)(k7 k8:Nat)(Inv:Nat->Nat->Heap->Prop)(Q:VH)(mz:Nat)(i:Nat)(y44 y45 y46:Value)(zz:Nat->Value)(h:Heap):Prop:=aw (decide (((i:Int):Int) < (n:Int))) (xP (af SS.P 48 (.slice a n c) (iA i)) fun p11=>xI .i64 (ah SS.P 3 h (.pointer (some p11))) fun n12=>FW SS 79 [(.int .i64 n12),(pA k7),(pA k8)] h fun v13 h14=>v13=(.tuple ⟨[]⟩)/\ak (j8 N a n c f kn k7 k8 Inv) mz [(.int .i64 N),(.slice a n c),(.func (.func f) ⟨[]⟩ ⟨[(.pointer (some ⟨kn,0,none⟩))]⟩),(pA k7),(pA k8),(.func (.func 79) ⟨[]⟩ ⟨[(pA k7),(pA k8)]⟩),(.slice a n c),(iA n),(.int .i64 (IntKind.wrap .i64 ((i:Int)+1))),y44,y45,y46] h14) (lP [1,1,1,1,1,0,0,0] [(.int .i64 N),(.slice a n c),(.func (.func f) ⟨[]⟩ ⟨[(.pointer (some ⟨kn,0,none⟩))]⟩),(pA k7),(pA k8),(.func (.func 79) ⟨[]⟩ ⟨[(pA k7),(pA k8)]⟩),(.slice a n c),(iA n),(iA i),y44,y45,y46] h (hZ [1,1,1,1,1,0,0] [] (mo Q)))
theorem tg {N:Int}{a:OA}{n c f kn:Nat}{k7 k8:Nat}{Inv:Nat->Nat->Heap->Prop}{mz:Nat}(mq:Nat){i:Nat}{y44 y45 y46:Value}{h:Heap}(hm:mq < mz)(hi:Inv mq i h):ak (j8 N a n c f kn k7 k8 Inv) mz (jf N a n c f kn k7 k8 i y44 y45 y46) h:=⟨mq,hm,i,y44,y45,y46,rfl,hi⟩
theorem tj (N:Int)(a:OA)(n c f kn:Nat)(k7 k8:Nat)(Inv:Nat->Nat->Heap->Prop)(Q:VH)(step: ∀ (mz:Nat) (i:Nat) (y44 y45 y46:Value) (zz:Nat->Value) (h:Heap),Inv mz i h->z0 N a n c f kn k7 k8 Inv Q mz i y44 y45 y46 zz h)(mz:Nat){i:Nat}{y44 y45 y46:Value}{h:Heap}(hi:Inv mz i h):lP [1,1,1,1,0,1,0,0] (jf N a n c f kn k7 k8 i y44 y45 y46) h (hZ [1,1,1,1,0,1,0] [] (mo Q)):=
 an (A:=(j8 N a n c f kn k7 k8 Inv)) (show aF Tryz.f61.ntmps (aP [1,1,1,1,0,1,0,0] dN)=true by kernel_rfl) (fun mz w zz h ⟨i,y44,y45,y46,hw,hi⟩=>by subst hw; exact ai (step mz i y44 y45 y46 zz h hi) (by kernel_rfl)) mz _ h ⟨i,y44,y45,y46,rfl,hi⟩ (fun zz=>by kernel_rfl) (by kernel_rfl)
abbrev jH (N:Int)(a:OA)(n c f kn:Nat)(k7 k8:Nat)(dm:Nat)(y18 y19 y20 y44 y45 y46:Value):LV:=[(.int .i64 N),(.slice a n c),(.func (.func f) ⟨[]⟩ ⟨[(.pointer (some ⟨kn,0,none⟩))]⟩),(pA k7),(pA k8),(.func (.func 79) ⟨[]⟩ ⟨[(pA k7),(pA k8)]⟩),y18,y19,y20,y44,y45,y46]
def dL (N:Int)(a:OA)(n c f kn:Nat)(k7 k8:Nat)(Inv2:Nat->Nat->Heap->Prop)(mz2:Nat)(w:LV)(h:Heap):Prop:= ∃ (dm:Nat)(y18 y19 y20 y44 y45 y46:Value),w=(jH N a n c f kn k7 k8 dm y18 y19 y20 y44 y45 y46)/\Inv2 mz2 dm h
abbrev Ai (N:Int)(a:OA)(n c f kn:Nat)(k7 k8:Nat)(Inv2:Nat->Nat->Heap->Prop)(Q:VH)(mz2:Nat)(dm:Nat)(y18 y19 y20 y44 y45 y46:Value)(zz:Nat->Value)(h:Heap):Prop:=xL (ah SS.P 48 h (pA k8)) fun a15 n16 c17=>aw (decide (((n16:Int):Int) > 0)) (xL (ah SS.P 48 h (pA k8)) fun a18 n19 c20=>xL (ah SS.P 48 h (pA k8)) fun a21 n22 c23=>xP (af SS.P 48 (.slice a18 n19 c20) (.int .i64 (IntKind.wrap .i64 ((n22:Int) - 1)))) fun p24=>xI .i64 (ah SS.P 3 h (.pointer (some p24))) fun n25=>xL (ah SS.P 48 h (pA k8)) fun a26 n27 c28=>xL (ah SS.P 48 h (pA k8)) fun a29 n30 c31=>xL (aL SS.P 48 (.slice a26 n27 c28) none (some (.int .i64 (IntKind.wrap .i64 ((n30:Int) - 1)))) none h) fun a32 n33 c34=>xU (al SS.P 48 (pA k8) (.slice a32 n33 c34) h) h fun u35 g36=>aw (Nat.blt f YB) (FW SS f ([]++[(.int .i64 n25)]++[(.pointer (some ⟨kn,0,none⟩))]) g36 fun v37 h38=>yL v37 fun a39 n40 c41=>lP [1,1,1,1,1,0,0,0,1,0,1,1,1,0,0] [(.int .i64 N),(.slice a n c),(.func (.func f) ⟨[]⟩ ⟨[(.pointer (some ⟨kn,0,none⟩))]⟩),(pA k7),(pA k8),(.func (.func 79) ⟨[]⟩ ⟨[(pA k7),(pA k8)]⟩),y18,y19,y20,(.slice a39 n40 c41),(iA n40),(.int .i64 0)] h38 (hZ [1,0,1,1,1,0] [1,1,1,1,1,0,0,0] (aT oQ (dL N a n c f kn k7 k8 Inv2) mz2 (hZ [1,1,1,1,1,0,0] [] (mo Q))))) False) (xL (ah SS.P 46 h (pA k7)) fun a42 n43 c44=>Q (.slice a42 n43 c44) h)
theorem ut {N:Int}{a:OA}{n c f kn:Nat}{k7 k8:Nat}{Inv2:Nat->Nat->Heap->Prop}{mz2:Nat}(mq:Nat){dm:Nat}{y18 y19 y20 y44 y45 y46:Value}{h:Heap}(hm:mq < mz2)(hi:Inv2 mq dm h):ak (dL N a n c f kn k7 k8 Inv2) mz2 (jH N a n c f kn k7 k8 dm y18 y19 y20 y44 y45 y46) h:=⟨mq,hm,dm,y18,y19,y20,y44,y45,y46,rfl,hi⟩
theorem ss (N:Int)(a:OA)(n c f kn:Nat)(k7 k8:Nat)(Inv2:Nat->Nat->Heap->Prop)(Q:VH)(step: ∀ (mz2:Nat) (dm:Nat) (y18 y19 y20 y44 y45 y46:Value) (zz:Nat->Value) (h:Heap),Inv2 mz2 dm h->Ai N a n c f kn k7 k8 Inv2 Q mz2 dm y18 y19 y20 y44 y45 y46 zz h)(mz2:Nat){dm:Nat}{y18 y19 y20 y44 y45 y46:Value}{h:Heap}(hi:Inv2 mz2 dm h):lP [1,1,1,1,1,0,0,0] (jH N a n c f kn k7 k8 dm y18 y19 y20 y44 y45 y46) h (hZ [1,1,1,1,1,0,0] [] (mo Q)):=
 an (A:=(dL N a n c f kn k7 k8 Inv2)) (show aF Tryz.f61.ntmps (aP [1,1,1,1,1,0,0,0] dN)=true by kernel_rfl) (fun mz2 w zz h ⟨dm,y18,y19,y20,y44,y45,y46,hw,hi⟩=>by subst hw; exact ai (step mz2 dm y18 y19 y20 y44 y45 y46 zz h hi) (by kernel_rfl)) mz2 _ h ⟨dm,y18,y19,y20,y44,y45,y46,rfl,hi⟩ (fun zz=>by kernel_rfl) (by kernel_rfl)
abbrev jN (N:Int)(a:OA)(n c f kn:Nat)(k7 k8:Nat)(b:OA)(m d:Nat)(j:Nat)(y18 y19 y20:Value):LV:=[(.int .i64 N),(.slice a n c),(.func (.func f) ⟨[]⟩ ⟨[(.pointer (some ⟨kn,0,none⟩))]⟩),(pA k7),(pA k8),(.func (.func 79) ⟨[]⟩ ⟨[(pA k7),(pA k8)]⟩),y18,y19,y20,(.slice b m d),(iA m),(iA j)]
def kc (N:Int)(a:OA)(n c f kn:Nat)(k7 k8:Nat)(b:OA)(m d:Nat)(Inv3:Nat->Nat->Heap->Prop)(mz3:Nat)(w:LV)(h:Heap):Prop:= ∃ (j:Nat)(y18 y19 y20:Value),w=(jN N a n c f kn k7 k8 b m d j y18 y19 y20)/\Inv3 mz3 j h
abbrev AG (N:Int)(a:OA)(n c f kn:Nat)(k7 k8:Nat)(b:OA)(m d:Nat)(Inv2:Nat->Nat->Heap->Prop)(mz2:Nat)(Inv3:Nat->Nat->Heap->Prop)(Q:VH)(mz3:Nat)(j:Nat)(y18 y19 y20:Value)(zz:Nat->Value)(h:Heap):Prop:=aw (decide (((j:Int):Int) < (m:Int))) (xP (af SS.P 48 (.slice b m d) (iA j)) fun p45=>xI .i64 (ah SS.P 3 h (.pointer (some p45))) fun n46=>FW SS 79 [(.int .i64 n46),(pA k7),(pA k8)] h fun v47 h48=>v47=(.tuple ⟨[]⟩)/\ak (kc N a n c f kn k7 k8 b m d Inv3) mz3 [(.int .i64 N),(.slice a n c),(.func (.func f) ⟨[]⟩ ⟨[(.pointer (some ⟨kn,0,none⟩))]⟩),(pA k7),(pA k8),(.func (.func 79) ⟨[]⟩ ⟨[(pA k7),(pA k8)]⟩),y18,y19,y20,(.slice b m d),(iA m),(.int .i64 (IntKind.wrap .i64 ((j:Int)+1)))] h48) (ak (dL N a n c f kn k7 k8 Inv2) mz2 [(.int .i64 N),(.slice a n c),(.func (.func f) ⟨[]⟩ ⟨[(.pointer (some ⟨kn,0,none⟩))]⟩),(pA k7),(pA k8),(.func (.func 79) ⟨[]⟩ ⟨[(pA k7),(pA k8)]⟩),y18,y19,y20,(.slice b m d),(iA m),(iA j)] h)
theorem tG {N:Int}{a:OA}{n c f kn:Nat}{k7 k8:Nat}{b:OA}{m d:Nat}{Inv3:Nat->Nat->Heap->Prop}{mz3:Nat}(mq:Nat){j:Nat}{y18 y19 y20:Value}{h:Heap}(hm:mq < mz3)(hi:Inv3 mq j h):ak (kc N a n c f kn k7 k8 b m d Inv3) mz3 (jN N a n c f kn k7 k8 b m d j y18 y19 y20) h:=⟨mq,hm,j,y18,y19,y20,rfl,hi⟩
theorem vi (N:Int)(a:OA)(n c f kn:Nat)(k7 k8:Nat)(b:OA)(m d:Nat)(Inv2:Nat->Nat->Heap->Prop)(mz2:Nat)(Inv3:Nat->Nat->Heap->Prop)(Q:VH)(step: ∀ (mz3:Nat) (j:Nat) (y18 y19 y20:Value) (zz:Nat->Value) (h:Heap),Inv3 mz3 j h->AG N a n c f kn k7 k8 b m d Inv2 mz2 Inv3 Q mz3 j y18 y19 y20 zz h)(mz3:Nat){j:Nat}{y18 y19 y20:Value}{h:Heap}(hi:Inv3 mz3 j h):lP [1,1,1,1,1,0,0,0,1,0,1,1,1,0,0] (jN N a n c f kn k7 k8 b m d j y18 y19 y20) h (hZ [1,0,1,1,1,0] [1,1,1,1,1,0,0,0] (aT oQ (dL N a n c f kn k7 k8 Inv2) mz2 (hZ [1,1,1,1,1,0,0] [] (mo Q)))):=
 an (A:=(kc N a n c f kn k7 k8 b m d Inv3)) (show aF Tryz.f61.ntmps (aP [1,1,1,1,1,0,0,0,1,0,1,1,1,0,0] dN)=true by kernel_rfl) (fun mz3 w zz h ⟨j,y18,y19,y20,hw,hi⟩=>by subst hw; exact ai (step mz3 j y18 y19 y20 zz h hi) (by kernel_rfl)) mz3 _ h ⟨j,y18,y19,y20,rfl,hi⟩ (fun zz=>by kernel_rfl) (by kernel_rfl)
end Go.Proofs.YtoabjjimjldcfaaGreatDoor
end
section
set_option linter.unusedVariables false
namespace Go.Ab
open Go
def bO:Value->Option Nat
 | .slice (some a) _ _=>some a.block
 | _=>none
def OwnG (h0 h:Heap)(e:TypeId)(v:Value)(vs:List Value):Prop:=
 (v = .slice none 0 0/\vs=[])\/ ∃ k off cs c,v = .slice (some ⟨k,off,none⟩) vs.length c/\h0.next<=k/\h.get k=some (.cells cs e 1 true)/\(cs.drop off).take vs.length=vs/\aN c+off=cs.length/\vs.length<=aN c
theorem OwnG.rd {h0 h:Heap}{e:TypeId}{v:Value}{vs:List Value}(o:OwnG h0 h e v vs):Rd h e v vs:=by
 rcases o with o | ⟨k,off,cs,c,h1,h2,h3,h4,h5,h6⟩
 ·exact .inl o
 ·exact .inr ⟨k,off,cs,c,true,h1,h3,h4⟩
theorem OwnG.keep {h0 h h':Heap}{e:TypeId}{v:Value}{vs:List Value}(o:OwnG h0 h e v vs)(hk: ∀ (k:Nat) (B:Blk),bO v=some k->h.get k=some B->h'.get k=some B):OwnG h0 h' e v vs:=by
 rcases o with o | ⟨k,off,cs,c,h1,h2,h3,h4,h5,h6⟩
 ·exact .inl o
 ·exact .inr ⟨k,off,cs,c,h1,h2,hk k _ (by rw [h1]; rfl) h3,h4,h5,h6⟩
theorem OwnG.ok {h0 h h':Heap}{e:TypeId}{v:Value}{vs:List Value}(r:OwnG h0 h e v vs)(o:Ok h h'):OwnG h0 h' e v vs:=r.keep fun k B _ hk=>o.ext _ _ hk
theorem OwnG.lt {h0 h:Heap}{e:TypeId}{v:Value}{vs:List Value}(o:OwnG h0 h e v vs)(w:Wf h){k:Nat}(hk:bO v=some k):k < h.next/\h0.next<=k:=by
 rcases o with ⟨rfl,_⟩ | ⟨k',off,cs,c,h1,h2,h3,h4,h5,h6⟩
 ·cases hk
 ·rw [h1] at hk
  obtain rfl:k'=k:=oI hk
  exact ⟨w _ _ h3,h2⟩
theorem OwnG.nil (h0 h:Heap)(e:TypeId):OwnG h0 h e (.slice none 0 0) []:= .inl ⟨rfl,rfl⟩
theorem OwnG.slc {h0 h:Heap}{e:TypeId}{v:Value}{vs:List Value}(o:OwnG h0 h e v vs): ∃ (a:Option Addr)(c:Nat),v = .slice a vs.length c:=by
 rcases o with ⟨rfl,rfl⟩ | ⟨k,off,cs,c,h1,h2,h3,h4,h5,h6⟩
 ·exact ⟨_,_,rfl⟩
 ·exact ⟨_,_,h1⟩
theorem OwnG.snoc {P:Program}{t e:TypeId}{i:TypeInfo}(hU:P.underlying t=some (.slice e))(hE:dz P e=some i)(hs:i.size=1){h0 g:Heap}(w0:Wf h0)(a:Ok h0 g){v:Value}{vs:List Value}(o:OwnG h0 g e v vs){x:Value}(hx:bL x=true){kx:Nat}(hkx:g.get kx=some (.cells [x] e 1 true))(hl:(vs.length+1)*i.bytes<=70368744177664)(hl2:vs.length+1<=1099511627776):
  ∃ (b:Option Addr)(n c:Nat)(u:Upd),aB P t t v (.slice (some ⟨kx,0,none⟩) 1 1) g=some (.slice b n c,u)/\n=vs.length+1/\OwnG h0 (u.app g) e (.slice b n c) (vs++[x])/\Ok h0 (u.app g)/\
   (∀ j B,g.get j=some B->bO v≠some j->(u.app g).get j=some B)/\
   (∀ j,bO (.slice b n c)=some j->g.next<=j\/bO v=some j)/\g.next<=(u.app g).next:=by
 have hT:ca P t=true:=by unfold ca; rw [hU]
 have hsrc:dJ g i.size (.slice (some ⟨kx,0,none⟩) 1 1)=some ([x],1):=by
  show (match g.get kx with | some (.cells cs ..)=>if ((cs.drop 0).take (1*i.size)).length=1*i.size then some ((cs.drop 0).take (1*i.size),1) else none | _=>none)=_
  rw [hkx,hs]; rfl
 unfold aB
 rw [hU]; dsimp only
 rw [hE]; dsimp only
 rw [if_pos hT,hsrc]; dsimp only
 rw [if_pos (by simp [hx,hs])]
 rcases o with ⟨rfl,rfl⟩ | ⟨k,off,cs,c,rfl,h2,h3,h4,h5,h6⟩
 ·show ∃ b n c u,(if 1=0 then some (Value.slice none 0 0,Upd.no) else if 1*i.bytes<=70368744177664/\1<=1099511627776 then some (Value.slice (some ⟨g.next,0,none⟩) 1 (bm+1),Upd.push (.cells [x] e i.size true)) else none)=_/\_
  rw [if_neg (by omega),if_pos (by simpa using And.intro hl hl2)]
  refine ⟨_,_,_,_,rfl,rfl,.inr ⟨g.next,0,[x],bm+1,rfl,a.nx,?_,rfl,by rw [dg]; rfl,by rw [dg]; exact Nat.le_refl _⟩,a.push _,fun j B hj _=> ?_,fun j e=> .inl ?_,Nat.le_succ _⟩
  ·show (g.push (.cells [x] e i.size true)).get g.next=_
   rw [Heap.get_push,if_pos rfl,hs]
  ·show (g.push _).get j=_
   rw [Heap.get_push,if_neg (fun e=>by have:=a.wf _ _ hj; omega)]
   exact hj
  ·have:g.next=j:=oI e
   omega
 ·dsimp only
  rw [if_neg (by omega),hs,Nat.mul_one]
  have hkn:=a.wf _ _ h3
  by_cases hroom:vs.length+1<=aN c
  ·rw [if_pos hroom]
   unfold storeAt
   rw [h3]
   dsimp only
   rw [if_pos ⟨by simp; omega,by simp [hx]⟩]
   refine ⟨_,_,_,_,rfl,rfl,.inr ⟨k,off,cs.take (off+vs.length)++[x]++cs.drop (off+vs.length+1),c,?_,h2,?_,?_,?_,?_⟩,?_,fun j B hj hne=> ?_,fun j e=> .inr e,Nat.le_refl _⟩
   ·simp
   ·show (g.set k _).get k=_
    rw [Heap.get_set,if_pos rfl]; rfl
   ·have h7:(cs.take (off+vs.length)).length=off+vs.length:=by rw [List.length_take]; omega
    rw [List.append_assoc,List.drop_append_of_le_length (by rw [h7]; omega),List.drop_take,show off+vs.length - off=vs.length by omega,h4,List.length_append,List.length_cons,List.length_nil,List.take_append,List.take_of_length_le (by omega)]
    congr 1
    rw [show vs.length+(0+1) - vs.length=1 by omega]; rfl
   ·simp; omega
   ·simp; omega
   ·exact a.set _ h2 hkn w0
   ·show (g.set k _).get j=_
    rw [Heap.get_set,if_neg (fun e=>hne (by rw [e]; rfl))]
    exact hj
  ·rw [if_neg hroom]
   have hcl:aN c=vs.length:=by omega
   have h7:((cs.drop off).take vs.length).length=vs.length:=by rw [h4]
   unfold gz
   rw [if_pos ⟨hl,hl2⟩,h3]
   dsimp only
   rw [Nat.mul_one,if_pos ⟨rfl,rfl,h7⟩]
   have hnew: ∀ B:Blk,OwnG h0 ((g.push (.cells (vs++[x]) e 1 true))) e (.slice (some ⟨g.next,0,none⟩) (vs.length+1) (bm+(vs.length+1))) (vs++[x]):=fun _=>
    .inr ⟨g.next,0,vs++[x],bm+(vs.length+1),by rw [List.length_append]; rfl,a.nx,by rw [Heap.get_push,if_pos rfl],by rw [List.drop_zero,List.take_length],by rw [dg,List.length_append]; rfl,by rw [dg,List.length_append]; exact Nat.le_refl _⟩
   by_cases hc:c < bm
   ·rw [if_pos hc,h4]
    refine ⟨_,_,_,_,rfl,rfl,hnew (.map []),a.push _,fun j B hj _=> ?_,fun j e=> .inl ?_,Nat.le_succ _⟩
    ·show (g.push _).get j=_
     rw [Heap.get_push,if_neg (fun e=>by have:=a.wf _ _ hj; omega)]
     exact hj
    ·have:g.next=j:=oI e
     omega
   ·rw [if_neg hc,if_pos ⟨rfl,by omega⟩,h4]
    refine ⟨_,_,_,_,rfl,rfl,.inr ⟨g.next,0,vs++[x],bm+(vs.length+1),by rw [List.length_append]; rfl,a.nx,?_,by rw [List.drop_zero,List.take_length],by rw [dg,List.length_append]; rfl,by rw [dg,List.length_append]; exact Nat.le_refl _⟩,?_,fun j B hj hne=> ?_,fun j e=> .inl ?_,Nat.le_succ _⟩
    ·show ((g.del k).push _).get g.next=_
     rw [Heap.get_push,if_pos (show g.next=(g.del k).next from rfl)]
    ·refine ⟨?_,fun j C hj=> ?_,Nat.le_trans a.nx (Nat.le_succ _)⟩
     ·refine Heap.wf_push (fun j C hj=> ?_) _
      rw [Heap.get_del] at hj
      split at hj
      ·cases hj
      ·exact a.wf _ _ hj
     ·have h7:=a.ext _ _ hj
      have h8:=a.wf _ _ h7
      show ((g.del k).push _).get j=_
      rw [Heap.get_push,if_neg (fun e=>by have:j=g.next:=e; omega),Heap.get_del,if_neg (fun e=>by have:=w0 _ _ hj; omega)]
      exact h7
    ·have h8:=a.wf _ _ hj
     show ((g.del k).push _).get j=_
     rw [Heap.get_push,if_neg (fun e=>by have:j=g.next:=e; omega),Heap.get_del,if_neg (fun e=>hne (by rw [e]; rfl))]
     exact hj
    ·have:g.next=j:=oI e
     omega
theorem OwnG.upto {P:Program}{t e:TypeId}(hU:P.underlying t=some (.slice e))(hs:aq P e=some 1){h0 h:Heap}{v:Value}{vs:List Value}(r:OwnG h0 h e v vs){z:Nat}(hz:z<=vs.length)(hp:0 < vs.length):
  ∃ a n c,aL P t v none (some (.int .i64 (z:Int))) none h=some (.slice a n c)/\OwnG h0 h e (.slice a n c) (vs.take z)/\bO (.slice a n c)=bO v:=by
 rcases r with ⟨rfl,rfl⟩ | ⟨k,off,cs,c,rfl,h2,h3,h4,h5,h6⟩
 ·simp at hp
 ·refine ⟨some ⟨k,off+0*1,none⟩,z,c,?_,.inr ⟨k,off,cs,c,?_,h2,h3,?_,h5,?_⟩,rfl⟩
  ·unfold aL
   dsimp only
   rw [hU]
   dsimp only [bK]
   rw [hs,h3]
   dsimp only
   rw [if_pos (by simp),if_pos (by omega)]
   have e2:((z:Int) - ((0:Nat):Int)).toNat=z:=by omega
   have e0:((0:Nat):Int).toNat=0:=rfl
   rw [e2,e0]; rfl
  ·rw [List.length_take,Nat.min_eq_left hz]; rfl
  ·rw [List.length_take,Nat.min_eq_left hz,<-h4,List.take_take,Nat.min_eq_left hz]
  ·rw [List.length_take]; omega
theorem OwnG.from_ {P:Program}{t e:TypeId}(hU:P.underlying t=some (.slice e))(hs:aq P e=some 1){h0 h:Heap}{v:Value}{vs:List Value}(r:OwnG h0 h e v vs){z:Nat}(hz:z<=vs.length)(hp:0 < vs.length):
  ∃ a n c,aL P t v (some (.int .i64 (z:Int))) none none h=some (.slice a n c)/\OwnG h0 h e (.slice a n c) (vs.drop z)/\bO (.slice a n c)=bO v:=by
 rcases r with ⟨rfl,rfl⟩ | ⟨k,off,cs,c,rfl,h2,h3,h4,h5,h6⟩
 ·simp at hp
 ·have hcap:aN (c - z)=aN c - z:=by
   unfold aN at h6 ⊢
   by_cases hc:bm<=c
   ·rw [if_pos hc] at h6
    rw [if_pos hc,if_pos (by omega)]; omega
   ·rw [if_neg hc,if_neg (by omega)]
  refine ⟨some ⟨k,off+z*1,none⟩,vs.length - z,c - z,?_,.inr ⟨k,off+z,cs,c - z,?_,h2,h3,?_,?_,?_⟩,rfl⟩
  ·unfold aL
   dsimp only
   rw [hU]
   dsimp only [bK]
   rw [hs,h3]
   dsimp only
   rw [if_pos (by simp),if_pos (by omega)]
   have e1:((z:Int)).toNat=z:=by omega
   have e2:((vs.length:Int) - (z:Int)).toNat=vs.length - z:=by omega
   rw [e1,e2]
  ·rw [List.length_drop,Nat.mul_one]
  ·have:=congrArg (List.drop z) h4
   rw [List.drop_take,List.drop_drop] at this
   rw [List.length_drop]
   exact this
  ·rw [hcap]; omega
  ·rw [hcap,List.length_drop]; omega
theorem OwnG.built {h0 h:Heap}{e:TypeId}{k:Nat}{vs:List Value}(hk:h.get k=some (.cells vs e 1 true))(h0k:h0.next<=k)(hl:vs.length < bm):OwnG h0 h e (.slice (some ⟨k,0,none⟩) vs.length vs.length) vs:=
 .inr ⟨k,0,vs,vs.length,rfl,h0k,hk,by simp,by unfold aN; rw [if_neg (by omega)]; rfl,by unfold aN; rw [if_neg (by omega)]; exact Nat.le_refl _⟩
end Go.Ab
end
section
namespace Go.Num
section
inductive Rch (E:Nat->Nat->Prop)(F:Nat->Prop):Nat->Prop where
 | base {x:Nat} (h:F x):Rch E F x
 | step {y x:Nat} (h:Rch E F y) (e:E y x):Rch E F x
def cntF (L:List Bool):Nat:=(L.filter fun b=> !b).length
theorem Ix: ∀ {L:List Bool}{s:Nat},s < L.length->L.getD s false=false->cntF (L.set s true)+1=cntF L
 | [],s,h,_=>by simp at h
 | b::L,0,h,h0=>by
  have:b=false:=by simpa using h0
  subst this
  simp [cntF]
 | b::L,s+1,h,h0=>by
  have ih:=Ix (L:=L) (s:=s) (by simpa using h) (by simpa using h0)
  unfold cntF at ih ⊢
  cases b <;> simp at ih ⊢ <;> omega
theorem getD_setT {L:List Bool}{s x:Nat}(hs:s < L.length):(L.set s true).getD x false=if x=s then true else L.getD x false:=by
 rw [gD,List.getElem?_set,gD]
 split
 ·next e=>subst e; simp
 ·next e=>rw [if_neg (fun c=>e c.symm)]
structure SInv (E:Nat->Nat->Prop)(F:Nat->Prop)(N:Nat)(L:List Bool)(T:List Nat)(ex:Nat->Prop):Prop where
 len:L.length=N
 tin: ∀ x∈T,x < N/\L.getD x false=true
 snd: ∀ x,L.getD x false=true->Rch E F x
 cls: ∀ y,L.getD y false=true->y ∉ T-> ¬ ex y-> ∀ z,E y z->L.getD z false=true
section
variable {E:Nat->Nat->Prop} {F:Nat->Prop} {N:Nat} {L:List Bool} {T:List Nat} {ex:Nat->Prop}
theorem sinv_new (n:Nat)(ex:Nat->Prop):SInv E F n (List.replicate n false) [] ex:=by
 have h: ∀ x,(List.replicate n false).getD x false=false:=fun x=>by
  rw [gD,List.getElem?_replicate]; split <;> rfl
 exact ⟨List.length_replicate,fun x hx=>(by cases hx),fun x hx=>(by rw [h] at hx; cases hx),fun y hy=>(by rw [h] at hy; cases hy)⟩
theorem SInv.see (v:SInv E F N L T ex){s:Nat}(hs:s < N)(hr:Rch E F s)(h0:L.getD s false=false):SInv E F N (L.set s true) (T++[s]) ex/\cntF (L.set s true)+1=cntF L:=by
 have hl:s < L.length:=by rw [v.len]; exact hs
 refine ⟨⟨by rw [List.length_set]; exact v.len,fun x hx=> ?_,fun x hx=> ?_,fun y hy hyT he z hz=> ?_⟩,Ix hl h0⟩
 ·rcases List.mem_append.1 hx with h | h
  ·obtain ⟨h1,h2⟩:=v.tin x h
   refine ⟨h1,?_⟩
   rw [getD_setT hl]; split
   ·rfl
   ·exact h2
  ·rw [List.mem_singleton] at h
   subst h
   exact ⟨hs,by rw [getD_setT hl,if_pos rfl]⟩
 ·rw [getD_setT hl] at hx
  split at hx
  ·next e=>rw [e]; exact hr
  ·exact v.snd x hx
 ·rw [getD_setT hl] at hy ⊢
  split
  ·rfl
  ·split at hy
   ·next e=>exact absurd (List.mem_append.2 (.inr (by rw [List.mem_singleton]; exact e))) hyT
   ·exact v.cls y hy (fun c=>hyT (List.mem_append.2 (.inl c))) he z hz
theorem SInv.take {T':List Nat}{s:Nat}(v:SInv E F N L T (fun _=>False))(h1: ∀ x∈T',x∈T)(h2: ∀ x∈T,x∈T'\/x=s):SInv E F N L T' (fun y=>y=s):=
 ⟨v.len,fun x hx=>v.tin x (h1 x hx),v.snd,fun y hy hyT he z hz=>v.cls y hy (fun c=>(h2 y c).elim hyT he) (fun c=>c) z hz⟩
theorem SInv.done {s:Nat}(v:SInv E F N L T (fun y=>y=s))(h: ∀ z,E s z->L.getD z false=true):SInv E F N L T (fun _=>False):=
 ⟨v.len,v.tin,v.snd,fun y hy hyT _ z hz=>by
  by_cases e:y=s
  ·subst e; exact h z hz
  ·exact v.cls y hy hyT e z hz⟩
theorem SInv.final (v:SInv E F N L [] (fun _=>False))(hF: ∀ x,F x->L.getD x false=true)(x:Nat):L.getD x false=true↔Rch E F x:=by
 refine ⟨v.snd x,fun h=> ?_⟩
 induction h with
 | base h=>exact hF _ h
 | step _ e ih=>exact v.cls _ ih (fun c=>(by cases c)) (fun c=>c) _ e
end
end
end Go.Num
end
section
set_option linter.unusedVariables false
set_option maxRecDepth 100000
namespace Go.Proofs.YtoabjjimjldcfaaGreatDoor
open Go Go.Ab
section
theorem TT {h0 g:Heap}(w0:Wf h0)(ok:Ok h0 g){v:Value}{vs:List Value}(o:OwnG h0 g 3 v vs){z:Int}{kx:Nat}(hkx:g.get kx=some (.cells [.int .i64 z] 3 1 true))(hl:vs.length<=100000):
  ∃ (b:Option Addr)(n c:Nat)(u:Upd),aB SS.P 48 48 v (.slice (some ⟨kx,0,none⟩) 1 1) g=some (.slice b n c,u)/\n=vs.length+1/\OwnG h0 (u.app g) 3 (.slice b n c) (vs++[.int .i64 z])/\Ok h0 (u.app g)/\
   (∀ j B,g.get j=some B->bO v≠some j->(u.app g).get j=some B)/\
   (∀ j,bO (.slice b n c)=some j->g.next<=j\/bO v=some j)/\g.next<=(u.app g).next:=
 OwnG.snoc mV OQ Hw w0 ok o rfl hkx (by rw [Du]; omega) (by omega)
theorem Hq:aq SS.P 48=some 1:=by kernel_rfl
theorem Wn:aq SS.P 46=some 1:=by kernel_rfl
theorem G9:Go.Ab.isAgg SS.P 48=false:=by kernel_rfl
theorem Vg:Go.Ab.isAgg SS.P 46=false:=by kernel_rfl
theorem BL:SS.P.underlying 72=some (.slice 48):=by kernel_rfl
theorem TL:aq SS.P 72=some 1:=by kernel_rfl
theorem IA:Go.Ab.isAgg SS.P 72=false:=by kernel_rfl
theorem gy (a:Option Addr)(n c:Nat):bL (.slice a n c)=true:=by cases a <;> rfl
def Bx1 (g:Heap)(k:Nat)(t:TypeId)(v:Value):Prop:=g.get k=some (.cells [v] t 0 true)
theorem Bx1.ok {g g':Heap}{k:Nat}{t:TypeId}{v:Value}(b:Bx1 g k t v)(o:Ok g g'):Bx1 g' k t v:=o.ext _ _ b
theorem Bx1.ld {g:Heap}{k:Nat}{t:TypeId}{v:Value}{d:TypeDesc}(hU:SS.P.underlying t=some d)(ha:Go.Ab.isAgg SS.P t=false)(b:Bx1 g k t v):ah SS.P t g (.pointer (some ⟨k,0,none⟩))=some v:=eC hU ha b (by simp)
theorem Bx1.st {g:Heap}{k:Nat}{t:TypeId}{v:Value}(hs:aq SS.P t=some 1)(b:Bx1 g k t v){v':Value}(hv:bL v'=true)(hc:v'.cells = #[v']):al SS.P t (.pointer (some ⟨k,0,none⟩)) v' g=some (undef,.set k (.cells [v'] t 0 true)):=zZ hs b (by simp) hv hc
structure Sst (h:Heap)(k7 k8 kt N:Nat)(L:List Bool)(T:List Nat)(g:Heap):Prop where
 b7:Bx1 g k7 46 (.slice (some ⟨kt,0,none⟩) N N)
 b8: ∃ tv,Bx1 g k8 48 tv/\OwnG h g 3 tv (T.map iv)/\bO tv≠some kt/\bO tv≠some k7/\bO tv≠some k8
 row:BR h kt N L g
 n7:h.next<=k7
 n8:h.next<=k8
 d1:k7≠kt
 d2:k8≠kt
 d3:k7≠k8
section
variable {h:Heap} {k7 k8 kt N:Nat} {L:List Bool} {T:List Nat} {g:Heap}
theorem Qk (w:Wf h)(st:Sst h k7 k8 kt N L T g){s:Nat}(hs:s < N)(hT:T.length<=100000):
  FW SS 79 [.int .i64 (s:Int),.pointer (some ⟨k7,0,none⟩),.pointer (some ⟨k8,0,none⟩)] g (fun v g'=>v = .tuple ⟨[]⟩/\((L.getD s false=true/\Sst h k7 k8 kt N L T g')\/(L.getD s false=false/\Sst h k7 k8 kt N (L.set s true) (T++[s]) g'))):=by
 obtain ⟨tv,t1,t2,t3,t4,t5⟩:=st.b8
 obtain ⟨r1,r2,r3⟩:=st.row.get (c:=N) (x:=(s:Int)) (by omega) (by omega)
 rw [Int.toNat_natCast] at r1 r2 r3
 refine Q3 s k7 k8 g _ ⟨_,_,_,st.b7.ld NC Vg,_,r1,_,r2,ae (fun q=> ?_) (fun q=> ?_)⟩
 ·rw [Bool.not_eq_true'] at q
  obtain ⟨u,s1,s2,s3⟩:=r3 true w
  refine ⟨_,_,_,st.b7.ld NC Vg,_,r1,u,s1,?_⟩
  have b7':Bx1 (u.app g) k7 46 (.slice (some ⟨kt,0,none⟩) N N):=s3 _ _ st.b7 st.d1
  have b8':Bx1 (u.app g) k8 48 tv:=s3 _ _ t1 st.d2
  have ow:OwnG h (u.app g) 3 tv (T.map iv):=t2.keep fun j B hj hB=>s3 j B hB (fun e=>t3 (by rw [hj,e]))
  generalize u.app g=g1 at *
  obtain ⟨ta,tc,rfl⟩:=ow.slc
  rw [lM] at *
  refine ⟨_,_,_,b8'.ld mV G9,?_⟩
  have ok1:=s2.row.ok
  have op:=(Ok.refl ok1.wf).push (.cells [.int .i64 (s:Int)] 3 1 true)
  have hk:=aZ g1 (.cells [.int .i64 (s:Int)] 3 1 true)
  obtain ⟨b,n',c',u2,a1,a2,a3,a4,a5,a6,a7⟩:=TT w (ok1.trans op) (ow.ok op) hk (by rw [lM]; exact hT)
  refine ⟨_,_,_,rW _,b,n',c',u2,a1,?_⟩
  have b7'':=a5 _ _ (b7'.ok op) t4
  have b8'':Bx1 (u2.app (g1.push (.cells [.int .i64 (s:Int)] 3 1 true))) k8 48 _:=a5 _ _ (b8'.ok op) t5
  have rw2:=a5 _ _ (op.ext _ _ s2.row.row) t3
  have hgn:g1.next<=(g1.push (.cells [.int .i64 (s:Int)] 3 1 true)).next:=Nat.le_succ _
  have l7:=ok1.wf _ _ b7'
  have l8:=ok1.wf _ _ b8'
  have lt:=s2.row.lt
  generalize g1.push (.cells [.int .i64 (s:Int)] 3 1 true)=gp at *
  generalize u2.app gp=g2 at *
  refine ⟨_,b8''.st Hq (gy _ _ _) rfl,rfl,.inr ⟨q,?_⟩⟩
  have okf:Ok h ((Upd.set k8 (.cells [.slice b n' c'] 48 0 true)).app g2):=a4.set _ st.n8 (a4.wf _ _ b8'') w
  have hset: ∀ j,j≠k8->((Upd.set k8 (.cells [.slice b n' c'] 48 0 true)).app g2).get j=g2.get j:=fun j hj=>by
   show (g2.set k8 _).get j=_
   rw [Heap.get_set,if_neg hj]
  have hself:((Upd.set k8 (.cells [.slice b n' c'] 48 0 true)).app g2).get k8=some (.cells [.slice b n' c'] 48 0 true):=by
   show (g2.set k8 _).get k8=_
   rw [Heap.get_set,if_pos rfl]
  have nb: ∀ j,bO (.slice ta T.length tc)≠some j->j < g1.next->bO (.slice b n' c')≠some j:=fun j h1 h2 e=>by
   rcases a6 j e with h3 | h3
   ·omega
   ·exact h1 h3
  refine ⟨?_,⟨_,hself,?_,nb _ t3 lt,nb _ t4 l7,nb _ t5 l8⟩,⟨s2.len,?_,s2.row.new,okf⟩,st.n7,st.n8,st.d1,st.d2,st.d3⟩
  ·show _=_
   rw [hset _ st.d3]; exact b7''
  ·rw [List.map_append]
   exact a3.keep fun j B hj hB=>by rw [hset j (fun e=>nb _ t5 l8 (by rw [hj,e]))]; exact hB
  ·rw [hset _ (fun e=>st.d2 e.symm)]; exact rw2
 ·rw [Bool.not_eq_false'] at q
  exact ⟨rfl,.inl ⟨q,st⟩⟩
def AdjR (g:Heap)(a:Option Addr)(N c:Nat)(A:List (List Nat)):Prop:=A.length=N/\ ∃ vs:List Value,Rd g 48 (.slice a N c) vs/\vs.length=N/\ ∀ (i:Nat)(l:List Nat),A[i]?=some l-> ∃ (b:Option Addr)(m d:Nat),vs[i]?=some (.slice b m d)/\Rd g 3 (.slice b m d) (l.map iv)
theorem AdjR.ok {g g':Heap}{a:Option Addr}{N c:Nat}{A:List (List Nat)}(r:AdjR g a N c A)(o:Ok g g'):AdjR g' a N c A:=by
 obtain ⟨h1,vs,h2,h3,h4⟩:=r
 exact ⟨h1,vs,h2.ok o,h3,fun i l hl=>let ⟨b,m,d,e1,e2⟩:=h4 i l hl; ⟨b,m,d,e1,e2.ok o⟩⟩
theorem AdjR.at2 {h g:Heap}{a:Option Addr}{N c:Nat}{A:List (List Nat)}(r:AdjR h a N c A)(o:Ok h g){i:Nat}{l:List Nat}(hl:A[i]?=some l):
  ∃ (p:Addr)(b:Option Addr)(m d:Nat),af SS.P 72 (.slice a N c) (.int .i64 (i:Int))=some (.pointer (some p))/\ah SS.P 48 g (.pointer (some p))=some (.slice b m d)/\Rd h 3 (.slice b m d) (l.map iv):=by
 obtain ⟨h1,vs,h2,h3,h4⟩:=r
 obtain ⟨b,m,d,e1,e2⟩:=h4 i l hl
 have hi:=(List.getElem?_eq_some_iff.1 hl).1
 obtain ⟨p,q1,q2⟩:=(h2.ok o).at_ BL Hq mV G9 (k:= .i64) (i:=(i:Int)) (by omega) (by omega)
 rw [Int.toNat_natCast,gD,e1] at q2
 exact ⟨p,b,m,d,q1,q2,e2⟩
def Fw (h:Heap)(f kn:Nat)(A:List (List Nat)):Prop:=Nat.blt f YB=true/\ ∀ (g:Heap),Ok h g-> ∀ (s:Nat)(l:List Nat),A[s]?=some l->FW SS f [.int .i64 (s:Int),.pointer (some ⟨kn,0,none⟩)] g (fun v g'=> ∃ (b:Option Addr)(m d:Nat),v = .slice b m d/\Rd h 3 (.slice b m d) (l.map iv)/\g'=g)
theorem PA {kn c:Nat}{a:Option Addr}{A:List (List Nat)}(w:Wf h)(bx:Bx1 h kn 72 (.slice a N c))(r:AdjR h a N c A):Fw h 62 kn A:=by
 refine ⟨by decide +kernel,fun g o s l hl=> ?_⟩
 obtain ⟨p,b,m,d,e1,e2,e3⟩:=r.at2 o hl
 exact OM s kn g _ ⟨_,_,_,(bx.ok o).ld BL IA,_,e1,_,_,_,e2,b,m,d,rfl,e3,rfl⟩
theorem QF {kn c:Nat}{a:Option Addr}{A:List (List Nat)}(w:Wf h)(bx:Bx1 h kn 72 (.slice a N c))(r:AdjR h a N c A):Fw h 63 kn A:=by
 refine ⟨by decide +kernel,fun g o s l hl=> ?_⟩
 obtain ⟨p,b,m,d,e1,e2,e3⟩:=r.at2 o hl
 exact Pb s kn g _ ⟨_,_,_,(bx.ok o).ld BL IA,_,e1,_,_,_,e2,b,m,d,rfl,e3,rfl⟩
def Ck (A:List (List Nat))(y x:Nat):Prop:=x∈A.getD y []
end
end
section
theorem V4 {h:Heap}{a:Option Addr}{n c:Nat}{l:List Nat}(r:Rd h 3 (.slice a n c) (l.map iv)){i:Nat}{x:Nat}(hx:l[i]?=some x): ∃ p:Addr,af SS.P 48 (.slice a n c) (.int .i64 (i:Int))=some (.pointer (some p))/\ah SS.P 3 h (.pointer (some p))=some (.int .i64 (x:Int)):=by
 have hi:=(List.getElem?_eq_some_iff.1 hx).1
 obtain ⟨p,h2,h3⟩:=r.at_ mV TI KF Kv (k:= .i64) (i:=(i:Int)) (by omega) (by rw [lM]; omega)
 rw [Int.toNat_natCast,gD,List.getElem?_map,hx] at h3
 exact ⟨p,h2,h3⟩
theorem Oy {h:Heap}{a:Option Addr}{n c:Nat}{l:List Nat}(r:Rd h 3 (.slice a n c) (l.map iv)):n=l.length:=by have:=r.len; rwa [lM] at this
theorem Md {T:List Nat}(h:0 < T.length): ∃ s,T[T.length - 1]?=some s/\(∀ x∈T.take (T.length - 1),x∈T)/\(∀ x∈T,x∈T.take (T.length - 1)\/x=s)/\s∈T:=by
 obtain ⟨s,hs⟩: ∃ s,T[T.length - 1]?=some s:=⟨_,gE (by omega)⟩
 have e:T=T.take (T.length - 1)++[s]:=by
  have h1:(T.take (T.length - 1+1))=T:=List.take_of_length_le (by omega)
  rw [List.take_add_one,hs] at h1
  exact h1.symm
 refine ⟨s,hs,fun x hx=>List.mem_of_mem_take hx,fun x hx=> ?_,List.mem_of_getElem? hs⟩
 rw [e] at hx
 rcases List.mem_append.1 hx with h1 | h1
 ·exact .inl h1
 ·rw [List.mem_singleton] at h1; exact .inr h1
structure Sq (h:Heap)(E:Nat->Nat->Prop)(F:List Nat)(k7 k8 kt N:Nat)(ex:Nat->Prop)(L:List Bool)(T:List Nat)(g:Heap):Prop where
 st:Sst h k7 k8 kt N L T g
 inv:Num.SInv E (· ∈F) N L T ex
 bd:2*Num.cntF L+T.length<=2*N
section
variable {h:Heap} {E:Nat->Nat->Prop} {F:List Nat} {k7 k8 kt N:Nat} {ex:Nat->Prop} {L:List Bool} {T:List Nat} {g:Heap}
theorem GV (w:Wf h)(hN:N<=1000)(q:Sq h E F k7 k8 kt N ex L T g){s:Nat}(hs:s < N)(hr:Num.Rch E (· ∈F) s):
  FW SS 79 [.int .i64 (s:Int),.pointer (some ⟨k7,0,none⟩),.pointer (some ⟨k8,0,none⟩)] g (fun v g'=>v = .tuple ⟨[]⟩/\ ∃ L' T',Sq h E F k7 k8 kt N ex L' T' g'/\(∀ x,L.getD x false=true->L'.getD x false=true)/\L'.getD s false=true/\2*Num.cntF L'+T'.length<=2*Num.cntF L+T.length):=by
 have hb:=q.bd
 refine (Qk w q.st hs (by omega)).mono ?_
 rintro _ g' ⟨rfl,⟨h1,h2⟩ | ⟨h1,h2⟩⟩
 ·exact ⟨rfl,L,T,⟨h2,q.inv,q.bd⟩,fun _ h=>h,h1,Nat.le_refl _⟩
 ·obtain ⟨i1,i2⟩:=q.inv.see hs hr h1
  have hl:s < L.length:=by rw [q.inv.len]; exact hs
  refine ⟨rfl,_,_,⟨h2,i1,?_⟩,fun x hx=> ?_,?_,?_⟩
  ·rw [List.length_append,List.length_singleton]; omega
  ·rw [Num.getD_setT hl]; split
   ·rfl
   ·exact hx
  ·rw [Num.getD_setT hl,if_pos rfl]
  ·rw [List.length_append,List.length_singleton]; omega
theorem Sst.put (w:Wf h)(st:Sst h k7 k8 kt N L T g){T':List Nat}{b:Option Addr}{m d:Nat}(ow:OwnG h g 3 (.slice b m d) (T'.map iv))(hb: ∀ tv,Bx1 g k8 48 tv->bO (.slice b m d)=bO tv):
  ∃ u:Upd,al SS.P 48 (.pointer (some ⟨k8,0,none⟩)) (.slice b m d) g=some (undef,u)/\Sst h k7 k8 kt N L T' (u.app g)/\Ok h (u.app g):=by
 obtain ⟨tv,t1,t2,t3,t4,t5⟩:=st.b8
 have e:=hb tv t1
 refine ⟨_,t1.st Hq (gy _ _ _) rfl,?_⟩
 have ok:=st.row.row.ok
 have okf:Ok h ((Upd.set k8 (.cells [.slice b m d] 48 0 true)).app g):=ok.set _ st.n8 (ok.wf _ _ t1) w
 have hset: ∀ j,j≠k8->((Upd.set k8 (.cells [.slice b m d] 48 0 true)).app g).get j=g.get j:=fun j hj=>by
  show (g.set k8 _).get j=_
  rw [Heap.get_set,if_neg hj]
 refine ⟨⟨?_,⟨.slice b m d,?_,ow.keep fun j B hj hB=>by rw [hset j (fun c=>t5 (by rw [<-e,hj,c]))]; exact hB,by rw [e]; exact t3,by rw [e]; exact t4,by rw [e]; exact t5⟩,⟨st.row.len,?_,st.row.row.new,okf⟩,st.n7,st.n8,st.d1,st.d2,st.d3⟩,okf⟩
 ·show _=_
  rw [hset _ st.d3]; exact st.b7
 ·show (g.set k8 _).get k8=_
  rw [Heap.get_set,if_pos rfl]
 ·rw [hset _ (fun c=>st.d2 c.symm)]; exact st.row.row.row
end
section
variable {h:Heap} {N:Nat} {A:List (List Nat)} {f kn:Nat} {a:Option Addr} {n c:Nat} {F:List Nat} {k7 k8 kt:Nat}
def Zi (h:Heap)(A:List (List Nat))(F:List Nat)(k7 k8 kt N n:Nat)(mz i:Nat)(g:Heap):Prop:=i<=n/\mz=n - i/\ ∃ L T,Sq h (Ck A) F k7 k8 kt N (fun _=>False) L T g/\ ∀ x∈F.take i,L.getD x false=true
def Y9 (h:Heap)(A:List (List Nat))(F:List Nat)(k7 k8 kt N:Nat)(mz2 dm:Nat)(g:Heap):Prop:= ∃ L T,Sq h (Ck A) F k7 k8 kt N (fun _=>False) L T g/\(∀ x∈F,L.getD x false=true)/\2*Num.cntF L+T.length<=mz2
def Zl (h:Heap)(A:List (List Nat))(F:List Nat)(k7 k8 kt N:Nat)(l:List Nat)(s m mz2:Nat)(mz3 j:Nat)(g:Heap):Prop:=j<=m/\mz3=m - j/\ ∃ L T,Sq h (Ck A) F k7 k8 kt N (fun y=>y=s) L T g/\(∀ x∈F,L.getD x false=true)/\2*Num.cntF L+T.length+1<=mz2/\(∀ z∈l.take j,L.getD z false=true)/\Num.Rch (Ck A) (· ∈F) s
def sQ (h:Heap)(A:List (List Nat))(F:List Nat)(N:Nat):VH:=fun v h'=> ∃ kt L,v = .slice (some ⟨kt,0,none⟩) N N/\BR h kt N L h'/\ ∀ x,L.getD x false=true↔Num.Rch (Ck A) (· ∈F) x
set_option linter.defProp false in
def Sw (w:Wf h)(hN:N<=1000)(hAin: ∀ l∈A,∀ x∈l,x < N){s:Nat}{l:List Nat}(hl:A[s]?=some l)(hll:l.length<=100000){b:Option Addr}{m d:Nat}(rd:Rd h 3 (.slice b m d) (l.map iv))(mz2:Nat)(hmz:0 < mz2):=
 vi (N:Int) a n c f kn k7 k8 b m d (Y9 h A F k7 k8 kt N) mz2 (Zl h A F k7 k8 kt N l s m mz2) (sQ h A F N) (by
  intro mz3 j; intros; rename_i g hin
  obtain ⟨f1,f2,L,T,q,hF,hm2,hz,hr⟩:=hin
  have hm:=Oy rd
  refine ae (fun g1=> ?_) (fun g1=> ?_)
  ·have g1:=dT g1
   obtain ⟨x,hx⟩: ∃ x,l[j]?=some x:=⟨_,gE (by omega)⟩
   obtain ⟨p,e1,e2⟩:=V4 (rd.ok q.st.row.row.ok) hx
   have hxl:=List.mem_of_getElem? hx
   have hE:Ck A s x:=by
    show x∈A.getD s []
    rw [gD,hl]; exact hxl
   refine ⟨_,e1,_,e2,(GV w hN q (hAin l (List.mem_of_getElem? hl) x hxl) (.step hr hE)).mono ?_⟩
   rintro _ g2 ⟨rfl,L',T',q',h1,h2,h3⟩
   refine ⟨rfl,?_⟩
   rw [aJ (i:=j) (n:=m) (by omega) (by omega)]
   refine tG (mz3 - 1) (by omega) ⟨by omega,by omega,L',T',q',fun y hy=>h1 y (hF y hy),by omega,fun z hz'=> ?_,hr⟩
   rw [List.take_add_one,hx] at hz'
   rcases List.mem_append.1 hz' with h4 | h4
   ·exact h1 z (hz z h4)
   ·have:z=x:=by simpa using h4
    rw [this]; exact h2
  ·have g1:=dF g1
   rw [List.take_of_length_le (by omega)] at hz
   refine ut (mz2 - 1) (dm:=0) (by omega) ⟨L,T,⟨q.st,q.inv.done fun z hE=>hz z ?_,q.bd⟩,hF,by omega⟩
   have:z∈A.getD s []:=hE
   rw [gD,hl] at this
   exact this)
set_option linter.defProp false in
def Ts (w:Wf h)(hN:N<=1000)(hA:A.length=N)(hAin: ∀ l∈A,∀ x∈l,x < N)(hAl: ∀ l∈A,l.length<=100000)(nx:Fw h f kn A):=
 ss (N:Int) a n c f kn k7 k8 (Y9 h A F k7 k8 kt N) (sQ h A F N) (by
  intro mz2 dm; intros; rename_i g hin
  obtain ⟨L,T,q,hF,hm2⟩:=hin
  obtain ⟨tv,t1,t2,t3,t4,t5⟩:=q.st.b8
  obtain ⟨ta,tc,htv⟩:=t2.slc
  rw [lM] at htv
  subst htv
  refine ⟨_,_,_,t1.ld mV G9,ae (fun g1=> ?_) (fun g1=> ?_)⟩
  ·have g1:=dT g1
   obtain ⟨s,hs,p1,p2,p3⟩:=Md (T:=T) (by omega)
   have hb:=q.bd
   have hw:IntKind.wrap .i64 ((T.length:Int) - 1)=((T.length - 1:Nat):Int):=by rw [ap (by omega) (by omega)]; omega
   obtain ⟨p,e1,e2⟩:=V4 t2.rd hs
   refine ⟨_,_,_,t1.ld mV G9,_,_,_,t1.ld mV G9,p,by rw [hw]; exact e1,_,e2,_,_,_,t1.ld mV G9,_,_,_,t1.ld mV G9,?_⟩
   dsimp only
   rw [hw]
   obtain ⟨b,m,d,x1,x2,x3⟩:=t2.upto mV TI (z:=T.length - 1) (by rw [lM]; omega) (by rw [lM]; omega)
   rw [<-List.map_take] at x2
   obtain ⟨u,y1,y2,y3⟩:=q.st.put w x2 (fun tv' ht'=>by
    have:Value.slice ta T.length tc=tv':=by
     have:=t1.symm.trans ht'
     injection this with this; injection this with this; injection this with this
    rw [<-this]; exact x3)
   refine ⟨b,m,d,x1,u,y1,Xg nx.1 ?_⟩
   have hsN:=(q.inv.tin s p3).1
   obtain ⟨l,hl⟩: ∃ l,A[s]?=some l:=⟨_,gE (by omega)⟩
   refine (nx.2 _ y3 s l hl).mono ?_
   rintro _ g2 ⟨b',m',d',rfl,rd,rfl⟩
   refine ⟨b',m',d',rfl,?_⟩
   have hT':(T.take (T.length - 1)).length=T.length - 1:=by rw [List.length_take]; omega
   exact Sw w hN hAin hl (hAl l (List.mem_of_getElem? hl)) rd mz2 (by omega) m' (j:=0) ⟨by omega,by omega,L,T.take (T.length - 1),⟨y2,q.inv.take p1 p2,by omega⟩,hF,by omega,fun z hz=>(by rw [List.take_zero] at hz; cases hz),q.inv.snd s (q.inv.tin s p3).2⟩
  ·have g1:=dF g1
   obtain rfl:T=[]:=List.eq_nil_of_length_eq_zero (by omega)
   exact ⟨_,_,_,q.st.b7.ld NC Vg,kt,L,rfl,q.st.row,q.inv.final hF⟩)
theorem DE (w:Wf h)(hN:N<=1000)(hA:A.length=N)(hAin: ∀ l∈A,∀ x∈l,x < N)(hAl: ∀ l∈A,l.length<=100000)(nx:Fw h f kn A)(rf:Rd h 3 (.slice a n c) (F.map iv))(hF: ∀ x∈F,x < N)(hFl:F.length<=100000):
  FW SS 61 [.int .i64 (N:Int),.slice a n c,.func (.func f) ⟨[]⟩ ⟨[.pointer (some ⟨kn,0,none⟩)]⟩] h (sQ h A F N):=by
 have b0:=BR.new w N
 have hal46:bi SS.P 46=some (.cells [.slice none 0 0] 46 0 true,kw):=by kernel_rfl
 have hal48:bi SS.P 48=some (.cells [.slice none 0 0] 48 0 true,kw):=by kernel_rfl
 refine Lw (N:Int) a n c f kn h _ ⟨_,_,_,Sh N (by omega),_,hal46,?_⟩
 have o0:=b0.row.ok
 have lt0:=b0.row.lt
 have n0:=b0.row.new
 generalize h.push (.cells ((List.replicate N false).map Value.bool) 4 1 true)=g0 at *
 have o1:=(Ok.refl o0.wf).push (.cells [.slice none 0 0] 46 0 true)
 have k1:Bx1 (g0.push (.cells [.slice none 0 0] 46 0 true)) g0.next 46 (.slice none 0 0):=aZ g0 _
 refine ⟨_,k1.st Wn (gy _ _ _) rfl,_,hal48,?_⟩
 obtain ⟨o2,k2⟩:=sa (cs:=[.slice (some ⟨h.next,0,none⟩) N N]) o0.wf o1 k1 (Nat.le_refl _)
 generalize (Upd.set g0.next (.cells [.slice (some ⟨h.next,0,none⟩) N N] 46 0 true)).app (g0.push (.cells [.slice none 0 0] 46 0 true))=g1 at *
 have o3:=(Ok.refl o2.wf).push (.cells [.slice none 0 0] 48 0 true)
 have k3:Bx1 (g1.push (.cells [.slice none 0 0] 48 0 true)) g1.next 48 (.slice none 0 0):=aZ g1 _
 have l1:=o2.nx
 have l2:=o2.wf _ _ k2
 have l0:=o0.nx
 have st:Sst h g0.next g1.next h.next N (List.replicate N false) [] (g1.push (.cells [.slice none 0 0] 48 0 true)):=
  ⟨Bx1.ok (show Bx1 g1 g0.next 46 _ from k2) o3,⟨_,k3,OwnG.nil _ _ _,by simp [bO],by simp [bO],by simp [bO]⟩,(b0.trans o2).trans o3,by omega,by omega,by omega,by omega,by omega⟩
 generalize g1.push (.cells [.slice none 0 0] 48 0 true)=g2 at *
 have hc:Num.cntF (List.replicate N false)=N:=by simp [Num.cntF]
 refine tj (N:Int) a n c f kn g0.next g1.next (Zi h A F g0.next g1.next h.next N n) (sQ h A F N) (fun mz i=> ?_) n (i:=0) ⟨by omega,rfl,_,_,⟨st,Num.sinv_new N _,by rw [hc]; simp⟩,fun x hx=>(by rw [List.take_zero] at hx; cases hx)⟩
 intros; rename_i gg hi
 obtain ⟨f1,f2,L,T,q,hz⟩:=hi
 have hn:=Oy rf
 refine ae (fun q1=> ?_) (fun q1=> ?_)
 ·have q1:=dT q1
  obtain ⟨x,hx⟩: ∃ x,F[i]?=some x:=⟨_,gE (by omega)⟩
  obtain ⟨p,e1,e2⟩:=V4 (rf.ok q.st.row.row.ok) hx
  have hxF:=List.mem_of_getElem? hx
  refine ⟨_,e1,_,e2,(GV w hN q (hF x hxF) (.base hxF)).mono ?_⟩
  rintro _ g3 ⟨rfl,L',T',q',h1,h2,h3⟩
  refine ⟨rfl,?_⟩
  rw [aJ (i:=i) (n:=n) (by omega) (by omega)]
  refine tg (mz - 1) (by omega) ⟨by omega,by omega,L',T',q',fun z hz'=> ?_⟩
  rw [List.take_add_one,hx] at hz'
  rcases List.mem_append.1 hz' with h4 | h4
  ·exact h1 z (hz z h4)
  ·have:z=x:=by simpa using h4
   rw [this]; exact h2
 ·have q1:=dF q1
  rw [List.take_of_length_le (by omega)] at hz
  exact Ts w hN hA hAin hAl nx (2*Num.cntF L+T.length) (dm:=0) ⟨L,T,q,hz,Nat.le_refl _⟩
end
end
section
theorem aA {α:Type}{l:List α}{i j:Nat}{x y:α}(h:(l.set i x)[j]?=some y):(j=i/\y=x)\/(j≠i/\l[j]?=some y):=by
 rw [List.getElem?_set] at h
 split at h
 ·next e=>
  split at h
  ·exact .inl ⟨e.symm,(oI h).symm⟩
  ·cases h
 ·next e=>exact .inr ⟨fun c=>e c.symm,h⟩
structure Fam (hb g:Heap)(X:Nat->Prop)(vs:List Value)(F:List (List Nat)):Prop where
 len:vs.length=F.length
 own: ∀ (i:Nat)(v:Value)(l:List Nat),vs[i]?=some v->F[i]?=some l->OwnG hb g 3 v (l.map iv)
 dis: ∀ (i j:Nat)(v v':Value),i≠j->vs[i]?=some v->vs[j]?=some v'-> ∀ k,bO v=some k->bO v'≠some k
 out: ∀ (i:Nat)(v:Value),vs[i]?=some v-> ∀ k,bO v=some k-> ¬ X k
section
variable {hb g:Heap} {X:Nat->Prop} {vs:List Value} {F:List (List Nat)}
theorem Fam.keep (f:Fam hb g X vs F){g':Heap}(h: ∀ (k:Nat) (B:Blk),¬ X k->g.get k=some B->g'.get k=some B):Fam hb g' X vs F:=
 ⟨f.len,fun i v l hv hl=>(f.own i v l hv hl).keep fun k B hk hB=>h k B (f.out i v hv k hk) hB,f.dis,f.out⟩
theorem Fam.ok (f:Fam hb g X vs F){g':Heap}(o:Ok g g'):Fam hb g' X vs F:=f.keep fun k B _ hB=>o.ext k B hB
theorem Fam.at_ (f:Fam hb g X vs F){i:Nat}{l:List Nat}(hl:F[i]?=some l): ∃ (a:Option Addr)(c:Nat),vs[i]?=some (.slice a l.length c)/\OwnG hb g 3 (.slice a l.length c) (l.map iv):=by
 have hi:=(List.getElem?_eq_some_iff.1 hl).1
 obtain ⟨v,hv⟩: ∃ v,vs[i]?=some v:=⟨_,gE (by rw [f.len]; exact hi)⟩
 have o:=f.own i v l hv hl
 obtain ⟨a,c,rfl⟩:=o.slc
 rw [lM] at *
 exact ⟨a,c,hv,o⟩
theorem Fam.snoc (w:Wf hb)(ok:Ok hb g)(f:Fam hb g X vs F)(hX: ∀ k,X k->k < g.next){idx:Nat}{v:Value}{l:List Nat}(hv:vs[idx]?=some v)(hl:F[idx]?=some l){x:Nat}{kx:Nat}(hkx:g.get kx=some (.cells [.int .i64 (x:Int)] 3 1 true))(hll:l.length<=100000):
  ∃ (b:Option Addr)(n c:Nat)(u:Upd),aB SS.P 48 48 v (.slice (some ⟨kx,0,none⟩) 1 1) g=some (.slice b n c,u)/\n=l.length+1/\Fam hb (u.app g) X (vs.set idx (.slice b n c)) (F.set idx (l++[x]))/\Ok hb (u.app g)/\
   (∀ j B,g.get j=some B->bO v≠some j->(u.app g).get j=some B)/\g.next<=(u.app g).next:=by
 have ov:=f.own idx v l hv hl
 obtain ⟨b,n,c,u,a1,a2,a3,a4,a5,a6,a7⟩:=TT w ok ov hkx (by rw [lM]; exact hll)
 rw [lM] at a2
 refine ⟨b,n,c,u,a1,a2,⟨by rw [List.length_set,List.length_set]; exact f.len,fun i v' l' hv' hl'=> ?_,fun i j v1 v2 hij h1 h2 k hk1 hk2=> ?_,fun i v' hv' k hk hXk=> ?_⟩,a4,a5,a7⟩
 ·rcases aA hv' with ⟨e1,rfl⟩ | ⟨e1,h1⟩
  ·rcases aA hl' with ⟨_,rfl⟩ | ⟨e2,_⟩
   ·rw [List.map_append]; exact a3
   ·exact absurd e1 e2
  ·rcases aA hl' with ⟨e2,_⟩ | ⟨_,h2⟩
   ·exact absurd e2 e1
   ·exact (f.own i v' l' h1 h2).keep fun k B hk hB=>a5 k B hB fun c=>f.dis i idx v' v e1 h1 hv k hk c
 ·have lt: ∀ (j:Nat)(v2:Value),vs[j]?=some v2->bO v2=some k->k < g.next:=fun j v2 h2 hk2=>by
   obtain ⟨l2,hl2⟩: ∃ l2,F[j]?=some l2:=⟨_,gE (by rw [<-f.len]; exact (List.getElem?_eq_some_iff.1 h2).1)⟩
   exact ((f.own j v2 l2 h2 hl2).lt ok.wf hk2).1
  rcases aA h1 with ⟨e1,rfl⟩ | ⟨e1,h1⟩
  ·rcases aA h2 with ⟨e2,_⟩ | ⟨e2,h2⟩
   ·exact hij (by rw [e1,e2])
   ·rcases a6 k hk1 with h3 | h3
    ·have:=lt j v2 h2 hk2; omega
    ·exact f.dis idx j v v2 (fun c=>e2 c.symm) hv h2 k h3 hk2
  ·rcases aA h2 with ⟨e2,rfl⟩ | ⟨e2,h2⟩
   ·rcases a6 k hk2 with h3 | h3
    ·have:=lt i v1 h1 hk1; omega
    ·exact f.dis idx i v v1 (fun c=>e1 c.symm) hv h1 k h3 hk1
   ·exact f.dis i j v1 v2 hij h1 h2 k hk1 hk2
 ·rcases aA hv' with ⟨e1,rfl⟩ | ⟨e1,h1⟩
  ·rcases a6 k hk with h3 | h3
   ·have:=hX k hXk; omega
   ·exact f.out idx v hv k h3 hXk
  ·exact f.out i v' h1 k hk hXk
end
structure Us (hb:Heap)(R:Nat)(kt:Nat->Nat)(N:Nat)(X:Nat->Prop)(vs:List Value)(F:List (List Nat))(g:Heap):Prop where
 cc: ∀ r,r < R->g.get (kt r)=some (.cells ((vs.drop (r*N)).take N) 48 1 true)
 fam:Fam hb g X vs F
 ok:Ok hb g
 len:F.length=R*N+1
 xt: ∀ r,r < R->X (kt r)/\hb.next<=kt r
 inj: ∀ r r',r < R->r' < R->r≠r'->kt r≠kt r'
 xlt: ∀ k,X k->k < g.next
section
variable {hb g:Heap} {R:Nat} {kt:Nat->Nat} {N:Nat} {X:Nat->Prop} {vs:List Value} {F:List (List Nat)}
theorem Us.ext (s:Us hb R kt N X vs F g){g':Heap}(o:Ok g g'):Us hb R kt N X vs F g':=
 ⟨fun r hr=>o.ext _ _ (s.cc r hr),s.fam.ok o,s.ok.trans o,s.len,s.xt,s.inj,fun k hk=>Nat.lt_of_lt_of_le (s.xlt k hk) o.nx⟩
theorem Jr {r i:Nat}(hr:r < R)(hi:i < N):r*N+i < R*N+1:=by
 have:(r+1)*N<=R*N:=Nat.mul_le_mul_right _ hr
 rw [Nat.add_mul,Nat.one_mul] at this
 omega
theorem Us.ld (s:Us hb R kt N X vs F g){r i:Nat}(hr:r < R)(hi:i < N): ∃ (l:List Nat)(a:Option Addr)(c:Nat),F[r*N+i]?=some l/\vs[r*N+i]?=some (.slice a l.length c)/\af SS.P 72 (.slice (some ⟨kt r,0,none⟩) N N) (.int .i64 (i:Int))=some (.pointer (some ⟨kt r,i,none⟩))/\ ∀ g',Us hb R kt N X vs F g'->ah SS.P 48 g' (.pointer (some ⟨kt r,i,none⟩))=some (.slice a l.length c)/\Rd g' 3 (.slice a l.length c) (l.map iv):=by
 have hlt:=Jr hr hi
 obtain ⟨l,hl⟩: ∃ l,F[r*N+i]?=some l:=⟨_,gE (by rw [s.len]; exact hlt)⟩
 obtain ⟨a,c,hv,_⟩:=s.fam.at_ hl
 refine ⟨l,a,c,hl,hv,?_,fun g' s'=>⟨?_,?_⟩⟩
 ·have:=Qg (P:=SS.P) BL Hq (k:=kt r) (off:=0) (n:=N) (c:=N) (ik:= .i64) (i:=(i:Int)) (by omega) (by omega)
  rw [this,Int.toNat_natCast,Nat.zero_add,Nat.mul_one]
 ·have h1:((vs.drop (r*N)).take N)[i]?=some (.slice a l.length c):=by rw [List.getElem?_take,if_pos hi,List.getElem?_drop]; exact hv
  rw [eC mV G9 (s'.cc r hr) (List.getElem?_eq_some_iff.1 h1).1,gD,h1]; rfl
 ·exact (s'.fam.own _ _ _ hv hl).rd
theorem BV {α:Type}(vs:List α)(o N i:Nat)(x:α)(hi:i < N):((vs.set (o+i) x).drop o).take N=((vs.drop o).take N).set i x:=by
 rw [List.drop_set,if_neg (by omega),show o+i - o=i by omega,List.take_set]
theorem m6 {α:Type}(vs:List α)(o N j:Nat)(x:α)(h:j < o\/o+N<=j):((vs.set j x).drop o).take N=(vs.drop o).take N:=by
 apply List.ext_getElem?
 intro i
 rw [List.getElem?_take,List.getElem?_take,List.getElem?_drop,List.getElem?_drop]
 split
 ·rw [List.getElem?_set,if_neg (by omega)]
 ·rfl
theorem Us.put (w:Wf hb)(s:Us hb R kt N X vs F g){r i:Nat}(hr:r < R)(hi:i < N){vs':List Value}{F':List (List Nat)}{b:Option Addr}{n c:Nat}{l':List Nat}(ev:vs'=vs.set (r*N+i) (.slice b n c))(eF:F'=F.set (r*N+i) l'){g2:Heap}(fm:Fam hb g2 X vs' F')(ok2:Ok hb g2)(hk: ∀ j B,g.get j=some B->X j->g2.get j=some B)(hn:g.next<=g2.next):
  ∃ u:Upd,al SS.P 48 (.pointer (some ⟨kt r,i,none⟩)) (.slice b n c) g2=some (undef,u)/\Us hb R kt N X vs' F' (u.app g2)/\(∀ j B,g2.get j=some B->j≠kt r->(u.app g2).get j=some B):=by
 have hc:=hk _ _ (s.cc r hr) (s.xt r hr).1
 have hlt:=Jr hr hi
 have hl:i < ((vs.drop (r*N)).take N).length:=by
  have h1:(R*N+1)=vs.length:=by rw [s.fam.len,s.len]
  have h2:(r+1)*N<=R*N:=Nat.mul_le_mul_right _ hr
  rw [Nat.add_mul,Nat.one_mul] at h2
  rw [List.length_take,List.length_drop]; omega
 refine ⟨_,zZ Hq hc hl (gy _ _ _) rfl,?_,fun j B hj hne=> ?_⟩
 ·have hset: ∀ j,j≠kt r->((Upd.set (kt r) (.cells (((vs.drop (r*N)).take N).set i (.slice b n c)) 48 1 true)).app g2).get j=g2.get j:=fun j hj=>by
   show (g2.set (kt r) _).get j=_
   rw [Heap.get_set,if_neg hj]
  refine ⟨fun r' hr'=> ?_,fm.keep fun k B hX hB=> ?_,ok2.set _ (s.xt r hr).2 (ok2.wf _ _ hc) w,by rw [eF,List.length_set]; exact s.len,s.xt,s.inj,fun k hX=>Nat.lt_of_lt_of_le (s.xlt k hX) hn⟩
  ·by_cases e:r'=r
   ·subst e
    show (g2.set (kt r') _).get (kt r')=_
    rw [Heap.get_set,if_pos rfl,ev,BV _ _ _ _ _ hi]
   ·rw [hset _ (s.inj r' r hr' hr e),hk _ _ (s.cc r' hr') (s.xt r' hr').1,ev,m6]
    rcases Nat.lt_or_ge r r' with h1 | h1
    ·have:=Nat.mul_le_mul_right N (show r+1<=r' from h1)
     rw [Nat.add_mul,Nat.one_mul] at this
     exact .inl (by omega)
    ·have:=Nat.mul_le_mul_right N (show r'+1<=r by omega)
     rw [Nat.add_mul,Nat.one_mul] at this
     exact .inr (by omega)
  ·rw [hset k (fun c=>hX (c ▸ (s.xt r hr).1))]; exact hB
 ·show (g2.set (kt r) _).get j=_
  rw [Heap.get_set,if_neg hne]; exact hj
theorem Us.adj (s:Us hb R kt N X vs F g){r:Nat}(hr:r < R):AdjR g (some ⟨kt r,0,none⟩) N N ((F.drop (r*N)).take N):=by
 have h2:(r+1)*N<=R*N:=Nat.mul_le_mul_right _ hr
 rw [Nat.add_mul,Nat.one_mul] at h2
 have hF:=s.len
 have hv:=s.fam.len
 have l1:((vs.drop (r*N)).take N).length=N:=by rw [List.length_take,List.length_drop]; omega
 refine ⟨by rw [List.length_take,List.length_drop]; omega,(vs.drop (r*N)).take N,.inr ⟨kt r,0,_,N,true,by rw [l1],s.cc r hr,by rw [List.drop_zero,List.take_length]⟩,l1,fun i l hl=> ?_⟩
 rw [List.getElem?_take] at hl
 split at hl
 ·next hi=>
  rw [List.getElem?_drop] at hl
  obtain ⟨a,c,h3,h4⟩:=s.fam.at_ hl
  exact ⟨a,_,c,by rw [List.getElem?_take,if_pos hi,List.getElem?_drop]; exact h3,h4.rd⟩
 ·cases hl
end
theorem KC {g:Heap}(w:Wf g){n j:Nat}(hj:j < n)(B:Blk):Ok g (aC (Go.Ab.room g n) g.next [(j,B)])/\(aC (Go.Ab.room g n) g.next [(j,B)]).get (g.next+j)=some B:=by
 refine ⟨((Ok.refl w).room n).set B (Nat.le_add_right _ _) (Nat.add_lt_add_left hj _) w,?_⟩
 show ((Go.Ab.room g n).set (g.next+j) B).get (g.next+j)=_
 rw [Heap.get_set,if_pos rfl]
end
noncomputable def dR:Code:=(Tryz.f41.body).getD .skip
noncomputable def jh (Q:VH):aj:=cE SS Tryz.f41.results.toList Q
def lN:List Nat:=[1,2,3,4,5,6,7,8,11,22,23,24,37,38,39,77,78,79]
noncomputable def js (p:List Nat)(w:LV)(h:Heap)(Q:aj):Prop:=bp SS Tryz.f41.ntmps lN (aP p dR) w h Q
noncomputable def eG (p b:List Nat)(K:aj):aj:=ky SS Tryz.f41.ntmps lN p (aP b dR) K
abbrev QV (mv:LV)(h:Heap)(Q:VH):Prop:=xN (fp SS.P 24 (.agg ⟨mv⟩)) h fun B1 g2=>xP (ag SS.P 24 (pA (h.next)) 3) fun p3=>xL (ah SS.P 22 g2 (.pointer (some p3))) fun a4 n5 c6=>zR (aW SS.P 72 (iA n5) (iA n5)) fun B7 n8 c9=>zR (aW SS.P 72 (iA n5) (iA n5)) fun B10 n11 c12=>zN (bi SS.P 72) fun B13=>zN (bi SS.P 72) fun B14=>xU (al SS.P 72 (pA (g2.next+4)) (sA (g2.next+1) n8 c9) (aC (room g2 8) g2.next [(5,B14),(4,B13),(1,B7)])) (aC (room g2 8) g2.next [(5,B14),(4,B13),(1,B7)]) fun u15 g16=>xU (al SS.P 72 (pA (g2.next+5)) (sA (g2.next+3) n11 c12) (aC g16 g2.next [(3,B10)])) (aC g16 g2.next [(3,B10)]) fun u17 g18=>xP (ag SS.P 24 (pA (h.next)) 3) fun p19=>xL (ah SS.P 22 g18 (.pointer (some p19))) fun a20 n21 c22=>js [1,1,1,1,0,1,0,0] [(pA (h.next)),nA,(iA n5),(pA (g2.next+4)),(pA (g2.next+5)),nA,undef,undef,undef,(.slice a20 n21 c22),(iA n21),(.int .i64 0),undef,undef,undef,undef,undef,undef] g18 (eG [1,1,1,1,0,1,0] [] (jh Q))
theorem MF (mv:LV)(h:Heap)(Q:VH)(hx:QV mv h Q):FW SS 41 [(.agg ⟨mv⟩)] h Q:=ax (M:=lN) (c:=dR) Tryz.func41 (show Tryz.f41.body=some dR by kernel_rfl) (by kernel_rfl) (ai hx (by kernel_rfl))
abbrev j9 (mv:LV)(k k4 k5:Nat)(a:OA)(n c:Nat)(i:Nat)(e:OA)(en:Nat)(ec:Nat)(y7 y8 y11 y37 y38 y39 y77 y78 y79:Value):LV:=[(pA k),nA,(iA n),(pA k4),(pA k5),(.slice e en ec),y7,y8,y11,(.slice a n c),(iA n),(iA i),y37,y38,y39,y77,y78,y79]
def cV (mv:LV)(k k4 k5:Nat)(a:OA)(n c:Nat)(Inv:Nat->Nat->OA->Nat->Nat->Heap->Prop)(mz:Nat)(w:LV)(h:Heap):Prop:= ∃ (i:Nat)(e:OA)(en:Nat)(ec:Nat)(y7 y8 y11 y37 y38 y39 y77 y78 y79:Value),w=(j9 mv k k4 k5 a n c i e en ec y7 y8 y11 y37 y38 y39 y77 y78 y79)/\Inv mz i e en ec h
abbrev ze (mv:LV)(k k4 k5:Nat)(a:OA)(n c:Nat)(Inv:Nat->Nat->OA->Nat->Nat->Heap->Prop)(Q:VH)(mz:Nat)(i:Nat)(e:OA)(en:Nat)(ec:Nat)(y7 y8 y11 y37 y38 y39 y77 y78 y79:Value)(zz:Nat->Value)(h:Heap):Prop:=aw (decide (((i:Int):Int) < (n:Int))) (xP (af SS.P 22 (.slice a n c) (iA i)) fun p23=>xA (ah SS.P 37 h (.pointer (some p23))) fun c24=>xN (bi SS.P 37) h fun B25 g26=>xU (al SS.P 37 (pA (h.next)) (.agg ⟨c24⟩) g26) g26 fun u27 g28=>xP (ag SS.P 37 (pA (h.next)) 0) fun p29=>xS (ah SS.P 9 g28 (.pointer (some p29))) fun l30=>aw (!((l30:LB) == [])) (xR (ay SS.P 48 1 [(0,(iA i))]) g28 fun B31 n32 c33 g34=>xE (aB SS.P 48 48 (.slice e en ec) (sA (g28.next) n32 c33) g34) g34 fun a35 n36 c37 u38 g39=>xP (ag SS.P 37 (pA (h.next)) 1) fun p40=>xL (ah SS.P 35 g39 (.pointer (some p40))) fun a41 n42 c43=>js [1,1,1,1,0,1,0,0,1,1,0,0,1,1,1,0,0] [(pA k),nA,(iA n),(pA k4),(pA k5),(.slice a35 n36 c37),(iA i),(pA (h.next)),y11,(.slice a n c),(iA n),(iA i),(.slice a41 n42 c43),(iA n42),(.int .i64 0),y77,y78,y79] g39 (eG [1,1,0,0,1,1,1,0] [1,1,1,1,0,1,0,0] (aT lN (cV mv k k4 k5 a n c Inv) mz (eG [1,1,1,1,0,1,0] [] (jh Q))))) (xP (ag SS.P 37 (pA (h.next)) 1) fun p44=>xL (ah SS.P 35 g28 (.pointer (some p44))) fun a45 n46 c47=>js [1,1,1,1,0,1,0,0,1,1,0,0,1,1,1,0,0] [(pA k),nA,(iA n),(pA k4),(pA k5),(.slice e en ec),(iA i),(pA (h.next)),y11,(.slice a n c),(iA n),(iA i),(.slice a45 n46 c47),(iA n46),(.int .i64 0),y77,y78,y79] g28 (eG [1,1,0,0,1,1,1,0] [1,1,1,1,0,1,0,0] (aT lN (cV mv k k4 k5 a n c Inv) mz (eG [1,1,1,1,0,1,0] [] (jh Q)))))) (xP (ag SS.P 24 (pA k) 1) fun p48=>xI .i64 (ah SS.P 3 h (.pointer (some p48))) fun n49=>xR (ay SS.P 48 1 [(0,(.int .i64 n49))]) h fun B50 n51 c52 g53=>FW SS 61 [(iA n),(sA (h.next) n51 c52),(.func (.func 62) ⟨[]⟩ ⟨[(pA k4)]⟩)] g53 fun v54 h55=>yL v54 fun a56 n57 c58=>FW SS 61 [(iA n),(.slice e en ec),(.func (.func 63) ⟨[]⟩ ⟨[(pA k5)]⟩)] h55 fun v59 h60=>yL v59 fun a61 n62 c63=>js [1,1,1,1,1,1,0,1,0,0] [(pA k),nA,(iA n),(pA k4),(pA k5),(.slice e en ec),y7,y8,(.slice a56 n57 c58),(.slice a n c),(iA n),(iA i),y37,y38,y39,(.slice a61 n62 c63),(iA n62),(.int .i64 0)] h60 (eG [1,1,1,1,1,1,0,1,0] [] (jh Q)))
theorem td {mv:LV}{k k4 k5:Nat}{a:OA}{n c:Nat}{Inv:Nat->Nat->OA->Nat->Nat->Heap->Prop}{mz:Nat}(mq:Nat){i:Nat}{e:OA}{en:Nat}{ec:Nat}{y7 y8 y11 y37 y38 y39 y77 y78 y79:Value}{h:Heap}(hm:mq < mz)(hi:Inv mq i e en ec h):ak (cV mv k k4 k5 a n c Inv) mz (j9 mv k k4 k5 a n c i e en ec y7 y8 y11 y37 y38 y39 y77 y78 y79) h:=⟨mq,hm,i,e,en,ec,y7,y8,y11,y37,y38,y39,y77,y78,y79,rfl,hi⟩
theorem tA (mv:LV)(k k4 k5:Nat)(a:OA)(n c:Nat)(Inv:Nat->Nat->OA->Nat->Nat->Heap->Prop)(Q:VH)(step: ∀ (mz:Nat) (i:Nat) (e:OA) (en:Nat) (ec:Nat) (y7 y8 y11 y37 y38 y39 y77 y78 y79:Value) (zz:Nat->Value) (h:Heap),Inv mz i e en ec h->ze mv k k4 k5 a n c Inv Q mz i e en ec y7 y8 y11 y37 y38 y39 y77 y78 y79 zz h)(mz:Nat){i:Nat}{e:OA}{en:Nat}{ec:Nat}{y7 y8 y11 y37 y38 y39 y77 y78 y79:Value}{h:Heap}(hi:Inv mz i e en ec h):js [1,1,1,1,0,1,0,0] (j9 mv k k4 k5 a n c i e en ec y7 y8 y11 y37 y38 y39 y77 y78 y79) h (eG [1,1,1,1,0,1,0] [] (jh Q)):=
 an (A:=(cV mv k k4 k5 a n c Inv)) (show aF Tryz.f41.ntmps (aP [1,1,1,1,0,1,0,0] dR)=true by kernel_rfl) (fun mz w zz h ⟨i,e,en,ec,y7,y8,y11,y37,y38,y39,y77,y78,y79,hw,hi⟩=>by subst hw; exact ai (step mz i e en ec y7 y8 y11 y37 y38 y39 y77 y78 y79 zz h hi) (by kernel_rfl)) mz _ h ⟨i,e,en,ec,y7,y8,y11,y37,y38,y39,y77,y78,y79,rfl,hi⟩ (fun zz=>by kernel_rfl) (by kernel_rfl)
abbrev kj (mv:LV)(k k4 k5:Nat)(a:OA)(n c:Nat)(k8:Nat)(e:OA)(en ec:Nat)(b:OA)(m d i:Nat)(j:Nat)(y11 y77 y78 y79:Value):LV:=[(pA k),nA,(iA n),(pA k4),(pA k5),(.slice e en ec),(iA i),(pA k8),y11,(.slice a n c),(iA n),(iA i),(.slice b m d),(iA m),(iA j),y77,y78,y79]
def jO (mv:LV)(k k4 k5:Nat)(a:OA)(n c:Nat)(k8:Nat)(e:OA)(en ec:Nat)(b:OA)(m d i:Nat)(Inv2:Nat->Nat->Heap->Prop)(mz2:Nat)(w:LV)(h:Heap):Prop:= ∃ (j:Nat)(y11 y77 y78 y79:Value),w=(kj mv k k4 k5 a n c k8 e en ec b m d i j y11 y77 y78 y79)/\Inv2 mz2 j h
abbrev zX (mv:LV)(k k4 k5:Nat)(a:OA)(n c:Nat)(k8:Nat)(e:OA)(en ec:Nat)(b:OA)(m d:Nat)(Inv:Nat->Nat->OA->Nat->Nat->Heap->Prop)(mz i:Nat)(Inv2:Nat->Nat->Heap->Prop)(Q:VH)(mz2:Nat)(j:Nat)(y11 y77 y78 y79:Value)(zz:Nat->Value)(h:Heap):Prop:=aw (decide (((j:Int):Int) < (m:Int))) (xP (af SS.P 35 (.slice b m d) (iA j)) fun p64=>xA (ah SS.P 39 h (.pointer (some p64))) fun c65=>xN (bi SS.P 39) h fun B66 g67=>xU (al SS.P 39 (pA (h.next)) (.agg ⟨c65⟩) g67) g67 fun u68 g69=>xL (ah SS.P 72 (room g69 12) (pA k4)) fun a70 n71 c72=>xL (ah SS.P 72 (room g69 12) (pA k4)) fun a73 n74 c75=>xP (af SS.P 72 (.slice a73 n74 c75) (iA i)) fun p76=>xL (ah SS.P 48 (room g69 12) (.pointer (some p76))) fun a77 n78 c79=>xP (ag SS.P 39 (pA (h.next)) 3) fun p80=>xI .i64 (ah SS.P 3 (room g69 12) (.pointer (some p80))) fun n81=>zR (ay SS.P 48 1 [(0,(.int .i64 n81))]) fun B82 n83 c84=>xE (aB SS.P 48 48 (.slice a77 n78 c79) (sA (g69.next+8) n83 c84) (aC (room g69 12) g69.next [(8,B82)])) (aC (room g69 12) g69.next [(8,B82)]) fun a85 n86 c87 u88 g89=>xP (af SS.P 72 (.slice a70 n71 c72) (iA i)) fun p90=>xU (al SS.P 48 (.pointer (some p90)) (.slice a85 n86 c87) g89) g89 fun u91 g92=>(ah SS.P 72 g89 (pA k4)=some (.slice a70 n71 c72)/\cM 4 (.slice a70 n71 c72) (.slice a70 n71 c72)=true)/\xL (ah SS.P 72 (room g92 13) (pA k5)) fun a93 n94 c95=>xP (ag SS.P 39 (pA (h.next)) 3) fun p96=>xI .i64 (ah SS.P 3 (room g92 13) (.pointer (some p96))) fun n97=>xL (ah SS.P 72 (room g92 13) (pA k5)) fun a98 n99 c100=>xP (ag SS.P 39 (pA (h.next)) 3) fun p101=>xI .i64 (ah SS.P 3 (room g92 13) (.pointer (some p101))) fun n102=>xP (af SS.P 72 (.slice a98 n99 c100) (.int .i64 n102)) fun p103=>xL (ah SS.P 48 (room g92 13) (.pointer (some p103))) fun a104 n105 c106=>zR (ay SS.P 48 1 [(0,(iA i))]) fun B107 n108 c109=>xE (aB SS.P 48 48 (.slice a104 n105 c106) (sA (g92.next+9) n108 c109) (aC (room g92 13) g92.next [(9,B107)])) (aC (room g92 13) g92.next [(9,B107)]) fun a110 n111 c112 u113 g114=>xP (af SS.P 72 (.slice a93 n94 c95) (.int .i64 n97)) fun p115=>xU (al SS.P 48 (.pointer (some p115)) (.slice a110 n111 c112) g114) g114 fun u116 g117=>(ah SS.P 72 g114 (pA k5)=some (.slice a93 n94 c95)/\cM 4 (.slice a93 n94 c95) (.slice a93 n94 c95)=true)/\(ah SS.P 3 g114 (.pointer (some p96))=some (.int .i64 n97)/\cM 4 (.int .i64 n97) (.int .i64 n97)=true)/\ak (jO mv k k4 k5 a n c k8 e en ec b m d i Inv2) mz2 [(pA k),nA,(iA n),(pA k4),(pA k5),(.slice e en ec),(iA i),(pA k8),y11,(.slice a n c),(iA n),(iA i),(.slice b m d),(iA m),(.int .i64 (IntKind.wrap .i64 ((j:Int)+1))),y77,y78,y79] g117) (ak (cV mv k k4 k5 a n c Inv) mz [(pA k),nA,(iA n),(pA k4),(pA k5),(.slice e en ec),(iA i),(pA k8),y11,(.slice a n c),(iA n),(.int .i64 (IntKind.wrap .i64 ((i:Int)+1))),(.slice b m d),(iA m),(iA j),y77,y78,y79] h)
theorem ue {mv:LV}{k k4 k5:Nat}{a:OA}{n c:Nat}{k8:Nat}{e:OA}{en ec:Nat}{b:OA}{m d i:Nat}{Inv2:Nat->Nat->Heap->Prop}{mz2:Nat}(mq:Nat){j:Nat}{y11 y77 y78 y79:Value}{h:Heap}(hm:mq < mz2)(hi:Inv2 mq j h):ak (jO mv k k4 k5 a n c k8 e en ec b m d i Inv2) mz2 (kj mv k k4 k5 a n c k8 e en ec b m d i j y11 y77 y78 y79) h:=⟨mq,hm,j,y11,y77,y78,y79,rfl,hi⟩
theorem sN (mv:LV)(k k4 k5:Nat)(a:OA)(n c:Nat)(k8:Nat)(e:OA)(en ec:Nat)(b:OA)(m d:Nat)(Inv:Nat->Nat->OA->Nat->Nat->Heap->Prop)(mz i:Nat)(Inv2:Nat->Nat->Heap->Prop)(Q:VH)(step: ∀ (mz2:Nat) (j:Nat) (y11 y77 y78 y79:Value) (zz:Nat->Value) (h:Heap),Inv2 mz2 j h->zX mv k k4 k5 a n c k8 e en ec b m d Inv mz i Inv2 Q mz2 j y11 y77 y78 y79 zz h)(mz2:Nat){j:Nat}{y11 y77 y78 y79:Value}{h:Heap}(hi:Inv2 mz2 j h):js [1,1,1,1,0,1,0,0,1,1,0,0,1,1,1,0,0] (kj mv k k4 k5 a n c k8 e en ec b m d i j y11 y77 y78 y79) h (eG [1,1,0,0,1,1,1,0] [1,1,1,1,0,1,0,0] (aT lN (cV mv k k4 k5 a n c Inv) mz (eG [1,1,1,1,0,1,0] [] (jh Q)))):=
 an (A:=(jO mv k k4 k5 a n c k8 e en ec b m d i Inv2)) (show aF Tryz.f41.ntmps (aP [1,1,1,1,0,1,0,0,1,1,0,0,1,1,1,0,0] dR)=true by kernel_rfl) (fun mz2 w zz h ⟨j,y11,y77,y78,y79,hw,hi⟩=>by subst hw; exact ai (step mz2 j y11 y77 y78 y79 zz h hi) (by kernel_rfl)) mz2 _ h ⟨j,y11,y77,y78,y79,rfl,hi⟩ (fun zz=>by kernel_rfl) (by kernel_rfl)
abbrev jt (mv:LV)(n kl kr:Nat)(i:Nat)(y1 y2 y3 y4 y5 y6 y7 y8 y22 y23 y24 y37 y38 y39:Value):LV:=[y1,y2,y3,y4,y5,y6,y7,y8,(sA kl n n),y22,y23,y24,y37,y38,y39,(sA kr n n),(iA n),(iA i)]
def fD (mv:LV)(n kl kr:Nat)(Inv3:Nat->Nat->Heap->Prop)(mz3:Nat)(w:LV)(h:Heap):Prop:= ∃ (i:Nat)(y1 y2 y3 y4 y5 y6 y7 y8 y22 y23 y24 y37 y38 y39:Value),w=(jt mv n kl kr i y1 y2 y3 y4 y5 y6 y7 y8 y22 y23 y24 y37 y38 y39)/\Inv3 mz3 i h
abbrev Bu (mv:LV)(n kl kr:Nat)(Inv3:Nat->Nat->Heap->Prop)(Q:VH)(mz3:Nat)(i:Nat)(y1 y2 y3 y4 y5 y6 y7 y8 y22 y23 y24 y37 y38 y39:Value)(zz:Nat->Value)(h:Heap):Prop:=aw (decide (((i:Int):Int) < (n:Int))) (xP (af SS.P 46 (sA kr n n) (iA i)) fun p118=>xB (ah SS.P 4 h (.pointer (some p118))) fun b119=>xP (af SS.P 46 (sA kl n n) (iA i)) fun p120=>xB (ah SS.P 4 h (.pointer (some p120))) fun b121=>aw b121 (xP (af SS.P 46 (sA kl n n) (iA i)) fun p122=>xU (al SS.P 4 (.pointer (some p122)) (.bool b119) h) h fun u123 g124=>ak (fD mv n kl kr Inv3) mz3 [y1,y2,y3,y4,y5,y6,y7,y8,(sA kl n n),y22,y23,y24,y37,y38,y39,(sA kr n n),(iA n),(.int .i64 (IntKind.wrap .i64 ((i:Int)+1)))] g124) (xP (af SS.P 46 (sA kl n n) (iA i)) fun p125=>xU (al SS.P 4 (.pointer (some p125)) (.bool false) h) h fun u126 g127=>ak (fD mv n kl kr Inv3) mz3 [y1,y2,y3,y4,y5,y6,y7,y8,(sA kl n n),y22,y23,y24,y37,y38,y39,(sA kr n n),(iA n),(.int .i64 (IntKind.wrap .i64 ((i:Int)+1)))] g127)) (Q (sA kl n n) h)
theorem kP {mv:LV}{n kl kr:Nat}{Inv3:Nat->Nat->Heap->Prop}{mz3:Nat}(mq:Nat){i:Nat}{y1 y2 y3 y4 y5 y6 y7 y8 y22 y23 y24 y37 y38 y39:Value}{h:Heap}(hm:mq < mz3)(hi:Inv3 mq i h):ak (fD mv n kl kr Inv3) mz3 (jt mv n kl kr i y1 y2 y3 y4 y5 y6 y7 y8 y22 y23 y24 y37 y38 y39) h:=⟨mq,hm,i,y1,y2,y3,y4,y5,y6,y7,y8,y22,y23,y24,y37,y38,y39,rfl,hi⟩
theorem sL (mv:LV)(n kl kr:Nat)(Inv3:Nat->Nat->Heap->Prop)(Q:VH)(step: ∀ (mz3:Nat) (i:Nat) (y1 y2 y3 y4 y5 y6 y7 y8 y22 y23 y24 y37 y38 y39:Value) (zz:Nat->Value) (h:Heap),Inv3 mz3 i h->Bu mv n kl kr Inv3 Q mz3 i y1 y2 y3 y4 y5 y6 y7 y8 y22 y23 y24 y37 y38 y39 zz h)(mz3:Nat){i:Nat}{y1 y2 y3 y4 y5 y6 y7 y8 y22 y23 y24 y37 y38 y39:Value}{h:Heap}(hi:Inv3 mz3 i h):js [1,1,1,1,1,1,0,1,0,0] (jt mv n kl kr i y1 y2 y3 y4 y5 y6 y7 y8 y22 y23 y24 y37 y38 y39) h (eG [1,1,1,1,1,1,0,1,0] [] (jh Q)):=
 an (A:=(fD mv n kl kr Inv3)) (show aF Tryz.f41.ntmps (aP [1,1,1,1,1,1,0,1,0,0] dR)=true by kernel_rfl) (fun mz3 w zz h ⟨i,y1,y2,y3,y4,y5,y6,y7,y8,y22,y23,y24,y37,y38,y39,hw,hi⟩=>by subst hw; exact ai (step mz3 i y1 y2 y3 y4 y5 y6 y7 y8 y22 y23 y24 y37 y38 y39 zz h hi) (by kernel_rfl)) mz3 _ h ⟨i,y1,y2,y3,y4,y5,y6,y7,y8,y22,y23,y24,y37,y38,y39,rfl,hi⟩ (fun zz=>by kernel_rfl) (by kernel_rfl)
noncomputable def wV:Code:=(Tryz.f18.body).getD .skip
def Qa:List Nat:=[]
abbrev OE (mv:LV)(h:Heap)(Q:VH):Prop:=xN (fp SS.P 24 (.agg ⟨mv⟩)) h fun B1 g2=>xA (ah SS.P 24 (room g2 12) (pA (h.next))) fun c3=>FW SS 10 [(.agg ⟨c3⟩)] (room g2 12) fun v4 h5=>yB v4 fun b6=>aw b6 (xA (ah SS.P 24 h5 (pA (h.next))) fun c7=>FW SS 41 [(.agg ⟨c7⟩)] h5 fun v8 h9=>yL v8 fun a10 n11 c12=>xP (ag SS.P 24 (pA (h.next)) 1) fun p13=>xI .i64 (ah SS.P 3 h9 (.pointer (some p13))) fun n14=>xP (af SS.P 46 (.slice a10 n11 c12) (.int .i64 n14)) fun p15=>xB (ah SS.P 4 h9 (.pointer (some p15))) fun b16=>(ah SS.P 3 h5 (.pointer (some p13))=some (.int .i64 n14)/\cM 4 (.int .i64 n14) (.int .i64 n14)=true)/\Q (.bool (!b16)) h9) (Q (.bool false) h5)
theorem L8 (mv:LV)(h:Heap)(Q:VH)(hx:OE mv h Q):FW SS 18 [(.agg ⟨mv⟩)] h Q:=ax (M:=Qa) (c:=wV) Tryz.func18 (show Tryz.f18.body=some wV by kernel_rfl) (by kernel_rfl) (ai hx (by kernel_rfl))
noncomputable def wC:Code:=(Tryz.f19.body).getD .skip
def QW:List Nat:=[]
abbrev Oa (mv:LV)(h:Heap)(Q:VH):Prop:=xN (fp SS.P 24 (.agg ⟨mv⟩)) h fun B1 g2=>xA (ah SS.P 24 (room g2 12) (pA (h.next))) fun c3=>FW SS 11 [(.agg ⟨c3⟩)] (room g2 12) fun v4 h5=>yB v4 fun b6=>aw b6 (xA (ah SS.P 24 h5 (pA (h.next))) fun c7=>FW SS 42 [(.agg ⟨c7⟩)] h5 fun v8 h9=>yL v8 fun a10 n11 c12=>xP (ag SS.P 24 (pA (h.next)) 1) fun p13=>xI .i64 (ah SS.P 3 h9 (.pointer (some p13))) fun n14=>xP (af SS.P 46 (.slice a10 n11 c12) (.int .i64 n14)) fun p15=>xB (ah SS.P 4 h9 (.pointer (some p15))) fun b16=>(ah SS.P 3 h5 (.pointer (some p13))=some (.int .i64 n14)/\cM 4 (.int .i64 n14) (.int .i64 n14)=true)/\Q (.bool (!b16)) h9) (Q (.bool false) h5)
theorem Nj (mv:LV)(h:Heap)(Q:VH)(hx:Oa mv h Q):FW SS 19 [(.agg ⟨mv⟩)] h Q:=ax (M:=QW) (c:=wC) Tryz.func19 (show Tryz.f19.body=some wC by kernel_rfl) (by kernel_rfl) (ai hx (by kernel_rfl))
noncomputable def fS:Code:=(Tryz.f42.body).getD .skip
noncomputable def CK (Q:VH):aj:=cE SS Tryz.f42.results.toList Q
def wb:List Nat:=[3,4,5]
noncomputable def C2 (p:List Nat)(w:LV)(h:Heap)(Q:aj):Prop:=bp SS Tryz.f42.ntmps wb (aP p fS) w h Q
noncomputable def DN (p b:List Nat)(K:aj):aj:=ky SS Tryz.f42.ntmps wb p (aP b fS) K
abbrev MY (mv:LV)(h:Heap)(Q:VH):Prop:=xN (fp SS.P 24 (.agg ⟨mv⟩)) h fun B1 g2=>xA (ah SS.P 24 (room g2 6) (pA (h.next))) fun c3=>FW SS 64 [(.agg ⟨c3⟩)] (room g2 6) fun v4 h5=>yL v4 fun a6 n7 c8=>xA (ah SS.P 24 h5 (pA (h.next))) fun c9=>FW SS 65 [(.agg ⟨c9⟩)] h5 fun v10 h11=>yL v10 fun a12 n13 c14=>(ah SS.P 24 (room g2 6) (pA (h.next))=some (.agg ⟨c9⟩)/\cM 4 (.agg ⟨c9⟩) (.agg ⟨c9⟩)=true)/\C2 [1,1,0,1,0,0] [(.slice a6 n7 c8),(.slice a12 n13 c14),(.int .i64 0)] h11 (DN [1,1,0,1,0] [] (CK Q))
theorem JV (mv:LV)(h:Heap)(Q:VH)(hx:MY mv h Q):FW SS 42 [(.agg ⟨mv⟩)] h Q:=ax (M:=wb) (c:=fS) Tryz.func42 (show Tryz.f42.body=some fS by kernel_rfl) (by kernel_rfl) (ai hx (by kernel_rfl))
abbrev iz (mv:LV)(n kl kr:Nat)(i:Nat)  : LV:=[(sA kl n n),(sA kr n n),(iA i)]
def eN (mv:LV)(n kl kr:Nat)(Inv:Nat->Nat->Heap->Prop)(mz:Nat)(w:LV)(h:Heap):Prop:= ∃ (i:Nat) ,w=(iz mv n kl kr i )/\Inv mz i h
abbrev x7 (mv:LV)(n kl kr:Nat)(Inv:Nat->Nat->Heap->Prop)(Q:VH)(mz:Nat)(i:Nat)  (zz:Nat->Value) (h:Heap):Prop:=aw (decide (((i:Int):Int) < (n:Int))) (xP (af SS.P 46 (sA kl n n) (iA i)) fun p15=>xB (ah SS.P 4 h (.pointer (some p15))) fun b16=>aw b16 (xP (af SS.P 46 (sA kr n n) (iA i)) fun p17=>xB (ah SS.P 4 h (.pointer (some p17))) fun b18=>xP (af SS.P 46 (sA kl n n) (iA i)) fun p19=>xU (al SS.P 4 (.pointer (some p19)) (.bool b18) h) h fun u20 g21=>ak (eN mv n kl kr Inv) mz [(sA kl n n),(sA kr n n),(.int .i64 (IntKind.wrap .i64 ((i:Int)+1)))] g21) (xP (af SS.P 46 (sA kl n n) (iA i)) fun p22=>xU (al SS.P 4 (.pointer (some p22)) (.bool false) h) h fun u23 g24=>ak (eN mv n kl kr Inv) mz [(sA kl n n),(sA kr n n),(.int .i64 (IntKind.wrap .i64 ((i:Int)+1)))] g24)) (Q (sA kl n n) h)
theorem i8 {mv:LV}{n kl kr:Nat}{Inv:Nat->Nat->Heap->Prop}{mz:Nat}(mq:Nat){i:Nat}  {h:Heap} (hm:mq < mz) (hi:Inv mq i h):ak (eN mv n kl kr Inv) mz (iz mv n kl kr i ) h:=⟨mq,hm,i,rfl,hi⟩
theorem rK (mv:LV)(n kl kr:Nat)(Inv:Nat->Nat->Heap->Prop)(Q:VH)(step: ∀ (mz:Nat) (i:Nat)  (zz:Nat->Value) (h:Heap),Inv mz i h->x7 mv n kl kr Inv Q mz i  zz h)(mz:Nat){i:Nat}  {h:Heap} (hi:Inv mz i h):C2 [1,1,0,1,0,0] (iz mv n kl kr i ) h (DN [1,1,0,1,0] [] (CK Q)):=
 an (A:=(eN mv n kl kr Inv)) (show aF Tryz.f42.ntmps (aP [1,1,0,1,0,0] fS)=true by kernel_rfl) (fun mz w zz h ⟨i,hw,hi⟩=>by subst hw; exact ai (step mz i  zz h hi) (by kernel_rfl)) mz _ h ⟨i,rfl,hi⟩ (fun zz=>by kernel_rfl) (by kernel_rfl)
noncomputable def ej:Code:=(Tryz.f64.body).getD .skip
noncomputable def qh (Q:VH):aj:=cE SS Tryz.f64.results.toList Q
def lZ:List Nat:=[1,3,4,5,6]
noncomputable def pW (p:List Nat)(w:LV)(h:Heap)(Q:aj):Prop:=bp SS Tryz.f64.ntmps lZ (aP p ej) w h Q
noncomputable def i4 (p b:List Nat)(K:aj):aj:=ky SS Tryz.f64.ntmps lZ p (aP b ej) K
abbrev NW (mv:LV)(h:Heap)(Q:VH):Prop:=xN (fp SS.P 24 (.agg ⟨mv⟩)) h fun B1 g2=>xP (ag SS.P 24 (pA (h.next)) 3) fun p3=>xL (ah SS.P 22 g2 (.pointer (some p3))) fun a4 n5 c6=>xR (aW SS.P 46 (iA n5) (iA n5)) g2 fun B7 n8 c9 g10=>xP (ag SS.P 24 (pA (h.next)) 1) fun p11=>xI .i64 (ah SS.P 3 g10 (.pointer (some p11))) fun n12=>xP (af SS.P 46 (sA (g2.next) n8 c9) (.int .i64 n12)) fun p13=>xU (al SS.P 4 (.pointer (some p13)) (.bool true) g10) g10 fun u14 g15=>xP (ag SS.P 24 (pA (h.next)) 1) fun p16=>xI .i64 (ah SS.P 3 g15 (.pointer (some p16))) fun n17=>xR (ay SS.P 48 1 [(0,(.int .i64 n17))]) g15 fun B18 n19 c20 g21=>pW [1,1,1,1,0,0,0] [(pA (h.next)),(sA (g2.next) n8 c9),(sA (g15.next) n19 c20),undef,undef] g21 (i4 [1,1,1,1,0,0] [] (qh Q))
theorem JP (mv:LV)(h:Heap)(Q:VH)(hx:NW mv h Q):FW SS 64 [(.agg ⟨mv⟩)] h Q:=ax (M:=lZ) (c:=ej) Tryz.func64 (show Tryz.f64.body=some ej by kernel_rfl) (by kernel_rfl) (ai hx (by kernel_rfl))
abbrev ir (mv:LV)(k n kl:Nat)(t:OA)(tn:Nat)(tc:Nat)(y5 y6:Value):LV:=[(pA k),(sA kl n n),(.slice t tn tc),y5,y6]
def dp (mv:LV)(k n kl:Nat)(Inv:Nat->OA->Nat->Nat->Heap->Prop)(mz:Nat)(w:LV)(h:Heap):Prop:= ∃ (t:OA)(tn:Nat)(tc:Nat)(y5 y6:Value),w=(ir mv k n kl t tn tc y5 y6)/\Inv mz t tn tc h
abbrev xM (mv:LV)(k n kl:Nat)(Inv:Nat->OA->Nat->Nat->Heap->Prop)(Q:VH)(mz:Nat)(t:OA)(tn:Nat)(tc:Nat)(y5 y6:Value)(zz:Nat->Value)(h:Heap):Prop:=aw (decide (((tn:Int):Int) > 0)) (xP (af SS.P 48 (.slice t tn tc) (.int .i64 0)) fun p22=>xI .i64 (ah SS.P 3 h (.pointer (some p22))) fun n23=>xL (aL SS.P 48 (.slice t tn tc) (some (.int .i64 1)) none none h) fun a24 n25 c26=>pW [1,1,1,1,0,0,0,1,0,1,1,1,0,0] [(pA k),(sA kl n n),(.slice a24 n25 c26),(.int .i64 n23),(.int .i64 0)] h (i4 [1,0,1,1,1,0] [1,1,1,1,0,0,0] (aT lZ (dp mv k n kl Inv) mz (i4 [1,1,1,1,0,0] [] (qh Q))))) (Q (sA kl n n) h)
theorem rS {mv:LV}{k n kl:Nat}{Inv:Nat->OA->Nat->Nat->Heap->Prop}{mz:Nat}(mq:Nat){t:OA}{tn:Nat}{tc:Nat}{y5 y6:Value}{h:Heap}(hm:mq < mz)(hi:Inv mq t tn tc h):ak (dp mv k n kl Inv) mz (ir mv k n kl t tn tc y5 y6) h:=⟨mq,hm,t,tn,tc,y5,y6,rfl,hi⟩
theorem rX (mv:LV)(k n kl:Nat)(Inv:Nat->OA->Nat->Nat->Heap->Prop)(Q:VH)(step: ∀ (mz:Nat) (t:OA) (tn:Nat) (tc:Nat) (y5 y6:Value) (zz:Nat->Value) (h:Heap),Inv mz t tn tc h->xM mv k n kl Inv Q mz t tn tc y5 y6 zz h)(mz:Nat){t:OA}{tn:Nat}{tc:Nat}{y5 y6:Value}{h:Heap}(hi:Inv mz t tn tc h):pW [1,1,1,1,0,0,0] (ir mv k n kl t tn tc y5 y6) h (i4 [1,1,1,1,0,0] [] (qh Q)):=
 an (A:=(dp mv k n kl Inv)) (show aF Tryz.f64.ntmps (aP [1,1,1,1,0,0,0] ej)=true by kernel_rfl) (fun mz w zz h ⟨t,tn,tc,y5,y6,hw,hi⟩=>by subst hw; exact ai (step mz t tn tc y5 y6 zz h hi) (by kernel_rfl)) mz _ h ⟨t,tn,tc,y5,y6,rfl,hi⟩ (fun zz=>by kernel_rfl) (by kernel_rfl)
abbrev iw (mv:LV)(k n kl s:Nat)(j:Nat)(t:OA)(tn:Nat)(tc:Nat)  : LV:=[(pA k),(sA kl n n),(.slice t tn tc),(iA s),(iA j)]
def eL (mv:LV)(k n kl s:Nat)(Inv2:Nat->Nat->OA->Nat->Nat->Heap->Prop)(mz2:Nat)(w:LV)(h:Heap):Prop:= ∃ (j:Nat)(t:OA)(tn:Nat)(tc:Nat) ,w=(iw mv k n kl s j t tn tc )/\Inv2 mz2 j t tn tc h
abbrev yb (mv:LV)(k n kl s:Nat)(Inv:Nat->OA->Nat->Nat->Heap->Prop)(mz:Nat)(Inv2:Nat->Nat->OA->Nat->Nat->Heap->Prop)(Q:VH)(mz2:Nat)(j:Nat)(t:OA)(tn:Nat)(tc:Nat)  (zz:Nat->Value) (h:Heap):Prop:=xP (ag SS.P 24 (pA k) 3) fun p27=>xL (ah SS.P 22 h (.pointer (some p27))) fun a28 n29 c30=>xP (af SS.P 22 (.slice a28 n29 c30) (iA s)) fun p31=>xP (ag SS.P 37 (.pointer (some p31)) 1) fun p32=>xL (ah SS.P 35 h (.pointer (some p32))) fun a33 n34 c35=>aw (decide (((j:Int):Int) < (n34:Int))) (xP (ag SS.P 24 (pA k) 3) fun p36=>xL (ah SS.P 22 h (.pointer (some p36))) fun a37 n38 c39=>xP (af SS.P 22 (.slice a37 n38 c39) (iA s)) fun p40=>xP (ag SS.P 37 (.pointer (some p40)) 1) fun p41=>xL (ah SS.P 35 h (.pointer (some p41))) fun a42 n43 c44=>xP (af SS.P 35 (.slice a42 n43 c44) (iA j)) fun p45=>xP (ag SS.P 39 (.pointer (some p45)) 3) fun p46=>xI .i64 (ah SS.P 3 h (.pointer (some p46))) fun n47=>xP (af SS.P 46 (sA kl n n) (.int .i64 n47)) fun p48=>xB (ah SS.P 4 h (.pointer (some p48))) fun b49=>aw (!b49) (xP (af SS.P 46 (sA kl n n) (.int .i64 n47)) fun p50=>xU (al SS.P 4 (.pointer (some p50)) (.bool true) h) h fun u51 g52=>xR (ay SS.P 48 1 [(0,(.int .i64 n47))]) g52 fun B53 n54 c55 g56=>xE (aB SS.P 48 48 (.slice t tn tc) (sA (g52.next) n54 c55) g56) g56 fun a57 n58 c59 u60 g61=>ak (eL mv k n kl s Inv2) mz2 [(pA k),(sA kl n n),(.slice a57 n58 c59),(iA s),(.int .i64 (IntKind.wrap .i64 ((j:Int)+1)))] g61) (ak (eL mv k n kl s Inv2) mz2 [(pA k),(sA kl n n),(.slice t tn tc),(iA s),(.int .i64 (IntKind.wrap .i64 ((j:Int)+1)))] h)) (ak (dp mv k n kl Inv) mz [(pA k),(sA kl n n),(.slice t tn tc),(iA s),(iA j)] h)
theorem j7 {mv:LV}{k n kl s:Nat}{Inv2:Nat->Nat->OA->Nat->Nat->Heap->Prop}{mz2:Nat}(mq:Nat){j:Nat}{t:OA}{tn:Nat}{tc:Nat}  {h:Heap} (hm:mq < mz2) (hi:Inv2 mq j t tn tc h):ak (eL mv k n kl s Inv2) mz2 (iw mv k n kl s j t tn tc ) h:=⟨mq,hm,j,t,tn,tc,rfl,hi⟩
theorem sd (mv:LV)(k n kl s:Nat)(Inv:Nat->OA->Nat->Nat->Heap->Prop)(mz:Nat)(Inv2:Nat->Nat->OA->Nat->Nat->Heap->Prop)(Q:VH)(step: ∀ (mz2:Nat) (j:Nat) (t:OA) (tn:Nat) (tc:Nat)  (zz:Nat->Value) (h:Heap),Inv2 mz2 j t tn tc h->yb mv k n kl s Inv mz Inv2 Q mz2 j t tn tc  zz h)(mz2:Nat){j:Nat}{t:OA}{tn:Nat}{tc:Nat}  {h:Heap} (hi:Inv2 mz2 j t tn tc h):pW [1,1,1,1,0,0,0,1,0,1,1,1,0,0] (iw mv k n kl s j t tn tc ) h (i4 [1,0,1,1,1,0] [1,1,1,1,0,0,0] (aT lZ (dp mv k n kl Inv) mz (i4 [1,1,1,1,0,0] [] (qh Q)))):=
 an (A:=(eL mv k n kl s Inv2)) (show aF Tryz.f64.ntmps (aP [1,1,1,1,0,0,0,1,0,1,1,1,0,0] ej)=true by kernel_rfl) (fun mz2 w zz h ⟨j,t,tn,tc,hw,hi⟩=>by subst hw; exact ai (step mz2 j t tn tc  zz h hi) (by kernel_rfl)) mz2 _ h ⟨j,t,tn,tc,rfl,hi⟩ (fun zz=>by kernel_rfl) (by kernel_rfl)
noncomputable def cZ:Code:=(Tryz.f65.body).getD .skip
noncomputable def gh (Q:VH):aj:=cE SS Tryz.f65.results.toList Q
def ia:List Nat:=[1,3,4,5,6,7,9,10]
noncomputable def fN (p:List Nat)(w:LV)(h:Heap)(Q:aj):Prop:=bp SS Tryz.f65.ntmps ia (aP p cZ) w h Q
noncomputable def cz (p b:List Nat)(K:aj):aj:=ky SS Tryz.f65.ntmps ia p (aP b cZ) K
abbrev Q4 (mv:LV)(h:Heap)(Q:VH):Prop:=xN (fp SS.P 24 (.agg ⟨mv⟩)) h fun B1 g2=>xP (ag SS.P 24 (pA (h.next)) 3) fun p3=>xL (ah SS.P 22 g2 (.pointer (some p3))) fun a4 n5 c6=>xR (aW SS.P 46 (iA n5) (iA n5)) g2 fun B7 n8 c9 g10=>xP (ag SS.P 24 (pA (h.next)) 3) fun p11=>xL (ah SS.P 22 g10 (.pointer (some p11))) fun a12 n13 c14=>xR (aW SS.P 72 (iA n13) (iA n13)) g10 fun B15 n16 c17 g18=>fN [1,1,1,1,0,1,0,0] [(pA (h.next)),(sA (g2.next) n8 c9),(sA (g10.next) n16 c17),nA,(.int .i64 0),undef,undef,undef] g18 (cz [1,1,1,1,0,1,0] [] (gh Q))
theorem NB (mv:LV)(h:Heap)(Q:VH)(hx:Q4 mv h Q):FW SS 65 [(.agg ⟨mv⟩)] h Q:=ax (M:=ia) (c:=cZ) Tryz.func65 (show Tryz.f65.body=some cZ by kernel_rfl) (by kernel_rfl) (ai hx (by kernel_rfl))
abbrev jB (mv:LV)(k n kl kb:Nat)(i:Nat)(t:OA)(tn:Nat)(tc:Nat)(y7 y9 y10:Value):LV:=[(pA k),(sA kl n n),(sA kb n n),(.slice t tn tc),(iA i),y7,y9,y10]
def cT (mv:LV)(k n kl kb:Nat)(Inv:Nat->Nat->OA->Nat->Nat->Heap->Prop)(mz:Nat)(w:LV)(h:Heap):Prop:= ∃ (i:Nat)(t:OA)(tn:Nat)(tc:Nat)(y7 y9 y10:Value),w=(jB mv k n kl kb i t tn tc y7 y9 y10)/\Inv mz i t tn tc h
abbrev zv (mv:LV)(k n kl kb:Nat)(Inv:Nat->Nat->OA->Nat->Nat->Heap->Prop)(Q:VH)(mz:Nat)(i:Nat)(t:OA)(tn:Nat)(tc:Nat)(y7 y9 y10:Value)(zz:Nat->Value)(h:Heap):Prop:=xP (ag SS.P 24 (pA k) 3) fun p19=>xL (ah SS.P 22 h (.pointer (some p19))) fun a20 n21 c22=>aw (decide (((i:Int):Int) < (n21:Int))) (xP (ag SS.P 24 (pA k) 3) fun p23=>xL (ah SS.P 22 h (.pointer (some p23))) fun a24 n25 c26=>xP (af SS.P 22 (.slice a24 n25 c26) (iA i)) fun p27=>xP (ag SS.P 37 (.pointer (some p27)) 0) fun p28=>xS (ah SS.P 9 h (.pointer (some p28))) fun l29=>aw (!((l29:LB) == [])) (xP (af SS.P 46 (sA kl n n) (iA i)) fun p30=>xU (al SS.P 4 (.pointer (some p30)) (.bool true) h) h fun u31 g32=>xR (ay SS.P 48 1 [(0,(iA i))]) g32 fun B33 n34 c35 g36=>xE (aB SS.P 48 48 (.slice t tn tc) (sA (g32.next) n34 c35) g36) g36 fun a37 n38 c39 u40 g41=>fN [1,1,1,1,0,1,0,0,1,0,0,1,1,0,0] [(pA k),(sA kl n n),(sA kb n n),(.slice a37 n38 c39),(iA i),(.int .i64 0),y9,y10] g41 (cz [1,0,0,1,1,0] [1,1,1,1,0,1,0,0] (aT ia (cT mv k n kl kb Inv) mz (cz [1,1,1,1,0,1,0] [] (gh Q))))) (fN [1,1,1,1,0,1,0,0,1,0,0,1,1,0,0] [(pA k),(sA kl n n),(sA kb n n),(.slice t tn tc),(iA i),(.int .i64 0),y9,y10] h (cz [1,0,0,1,1,0] [1,1,1,1,0,1,0,0] (aT ia (cT mv k n kl kb Inv) mz (cz [1,1,1,1,0,1,0] [] (gh Q)))))) (fN [1,1,1,1,1,0,0,0] [(pA k),(sA kl n n),(sA kb n n),(.slice t tn tc),(iA i),y7,y9,y10] h (cz [1,1,1,1,1,0,0] [] (gh Q)))
theorem uV {mv:LV}{k n kl kb:Nat}{Inv:Nat->Nat->OA->Nat->Nat->Heap->Prop}{mz:Nat}(mq:Nat){i:Nat}{t:OA}{tn:Nat}{tc:Nat}{y7 y9 y10:Value}{h:Heap}(hm:mq < mz)(hi:Inv mq i t tn tc h):ak (cT mv k n kl kb Inv) mz (jB mv k n kl kb i t tn tc y7 y9 y10) h:=⟨mq,hm,i,t,tn,tc,y7,y9,y10,rfl,hi⟩
theorem uT (mv:LV)(k n kl kb:Nat)(Inv:Nat->Nat->OA->Nat->Nat->Heap->Prop)(Q:VH)(step: ∀ (mz:Nat) (i:Nat) (t:OA) (tn:Nat) (tc:Nat) (y7 y9 y10:Value) (zz:Nat->Value) (h:Heap),Inv mz i t tn tc h->zv mv k n kl kb Inv Q mz i t tn tc y7 y9 y10 zz h)(mz:Nat){i:Nat}{t:OA}{tn:Nat}{tc:Nat}{y7 y9 y10:Value}{h:Heap}(hi:Inv mz i t tn tc h):fN [1,1,1,1,0,1,0,0] (jB mv k n kl kb i t tn tc y7 y9 y10) h (cz [1,1,1,1,0,1,0] [] (gh Q)):=
 an (A:=(cT mv k n kl kb Inv)) (show aF Tryz.f65.ntmps (aP [1,1,1,1,0,1,0,0] cZ)=true by kernel_rfl) (fun mz w zz h ⟨i,t,tn,tc,y7,y9,y10,hw,hi⟩=>by subst hw; exact ai (step mz i t tn tc y7 y9 y10 zz h hi) (by kernel_rfl)) mz _ h ⟨i,t,tn,tc,y7,y9,y10,rfl,hi⟩ (fun zz=>by kernel_rfl) (by kernel_rfl)
abbrev jy (mv:LV)(k n kl kb:Nat)(t:OA)(tn tc i:Nat)(j:Nat)(y9 y10:Value):LV:=[(pA k),(sA kl n n),(sA kb n n),(.slice t tn tc),(iA i),(iA j),y9,y10]
def jq (mv:LV)(k n kl kb:Nat)(t:OA)(tn tc i:Nat)(Inv2:Nat->Nat->Heap->Prop)(mz2:Nat)(w:LV)(h:Heap):Prop:= ∃ (j:Nat)(y9 y10:Value),w=(jy mv k n kl kb t tn tc i j y9 y10)/\Inv2 mz2 j h
abbrev zc (mv:LV)(k n kl kb:Nat)(t:OA)(tn tc:Nat)(Inv:Nat->Nat->OA->Nat->Nat->Heap->Prop)(mz i:Nat)(Inv2:Nat->Nat->Heap->Prop)(Q:VH)(mz2:Nat)(j:Nat)(y9 y10:Value)(zz:Nat->Value)(h:Heap):Prop:=xP (ag SS.P 24 (pA k) 3) fun p42=>xL (ah SS.P 22 h (.pointer (some p42))) fun a43 n44 c45=>xP (af SS.P 22 (.slice a43 n44 c45) (iA i)) fun p46=>xP (ag SS.P 37 (.pointer (some p46)) 1) fun p47=>xL (ah SS.P 35 h (.pointer (some p47))) fun a48 n49 c50=>aw (decide (((j:Int):Int) < (n49:Int))) (xP (ag SS.P 24 (pA k) 3) fun p51=>xL (ah SS.P 22 h (.pointer (some p51))) fun a52 n53 c54=>xP (af SS.P 22 (.slice a52 n53 c54) (iA i)) fun p55=>xP (ag SS.P 37 (.pointer (some p55)) 1) fun p56=>xL (ah SS.P 35 h (.pointer (some p56))) fun a57 n58 c59=>xP (af SS.P 35 (.slice a57 n58 c59) (iA j)) fun p60=>xP (ag SS.P 39 (.pointer (some p60)) 3) fun p61=>xI .i64 (ah SS.P 3 h (.pointer (some p61))) fun n62=>xP (af SS.P 72 (sA kb n n) (.int .i64 n62)) fun p63=>xL (ah SS.P 48 h (.pointer (some p63))) fun a64 n65 c66=>xR (ay SS.P 48 1 [(0,(iA i))]) h fun B67 n68 c69 g70=>xE (aB SS.P 48 48 (.slice a64 n65 c66) (sA (h.next) n68 c69) g70) g70 fun a71 n72 c73 u74 g75=>xP (af SS.P 72 (sA kb n n) (.int .i64 n62)) fun p76=>xU (al SS.P 48 (.pointer (some p76)) (.slice a71 n72 c73) g75) g75 fun u77 g78=>ak (jq mv k n kl kb t tn tc i Inv2) mz2 [(pA k),(sA kl n n),(sA kb n n),(.slice t tn tc),(iA i),(.int .i64 (IntKind.wrap .i64 ((j:Int)+1))),y9,y10] g78) (ak (cT mv k n kl kb Inv) mz [(pA k),(sA kl n n),(sA kb n n),(.slice t tn tc),(.int .i64 (IntKind.wrap .i64 ((i:Int)+1))),(iA j),y9,y10] h)
theorem tX {mv:LV}{k n kl kb:Nat}{t:OA}{tn tc i:Nat}{Inv2:Nat->Nat->Heap->Prop}{mz2:Nat}(mq:Nat){j:Nat}{y9 y10:Value}{h:Heap}(hm:mq < mz2)(hi:Inv2 mq j h):ak (jq mv k n kl kb t tn tc i Inv2) mz2 (jy mv k n kl kb t tn tc i j y9 y10) h:=⟨mq,hm,j,y9,y10,rfl,hi⟩
theorem sW (mv:LV)(k n kl kb:Nat)(t:OA)(tn tc:Nat)(Inv:Nat->Nat->OA->Nat->Nat->Heap->Prop)(mz i:Nat)(Inv2:Nat->Nat->Heap->Prop)(Q:VH)(step: ∀ (mz2:Nat) (j:Nat) (y9 y10:Value) (zz:Nat->Value) (h:Heap),Inv2 mz2 j h->zc mv k n kl kb t tn tc Inv mz i Inv2 Q mz2 j y9 y10 zz h)(mz2:Nat){j:Nat}{y9 y10:Value}{h:Heap}(hi:Inv2 mz2 j h):fN [1,1,1,1,0,1,0,0,1,0,0,1,1,0,0] (jy mv k n kl kb t tn tc i j y9 y10) h (cz [1,0,0,1,1,0] [1,1,1,1,0,1,0,0] (aT ia (cT mv k n kl kb Inv) mz (cz [1,1,1,1,0,1,0] [] (gh Q)))):=
 an (A:=(jq mv k n kl kb t tn tc i Inv2)) (show aF Tryz.f65.ntmps (aP [1,1,1,1,0,1,0,0,1,0,0,1,1,0,0] cZ)=true by kernel_rfl) (fun mz2 w zz h ⟨j,y9,y10,hw,hi⟩=>by subst hw; exact ai (step mz2 j y9 y10 zz h hi) (by kernel_rfl)) mz2 _ h ⟨j,y9,y10,rfl,hi⟩ (fun zz=>by kernel_rfl) (by kernel_rfl)
abbrev j1 (mv:LV)(n kl kb:Nat)(t:OA)(tn:Nat)(tc:Nat)(y1 y6 y7 y9 y10:Value):LV:=[y1,(sA kl n n),(sA kb n n),(.slice t tn tc),y6,y7,y9,y10]
def dE (mv:LV)(n kl kb:Nat)(Inv3:Nat->OA->Nat->Nat->Heap->Prop)(mz3:Nat)(w:LV)(h:Heap):Prop:= ∃ (t:OA)(tn:Nat)(tc:Nat)(y1 y6 y7 y9 y10:Value),w=(j1 mv n kl kb t tn tc y1 y6 y7 y9 y10)/\Inv3 mz3 t tn tc h
abbrev zA (mv:LV)(n kl kb:Nat)(Inv3:Nat->OA->Nat->Nat->Heap->Prop)(Q:VH)(mz3:Nat)(t:OA)(tn:Nat)(tc:Nat)(y1 y6 y7 y9 y10:Value)(zz:Nat->Value)(h:Heap):Prop:=aw (decide (((tn:Int):Int) > 0)) (xP (af SS.P 48 (.slice t tn tc) (.int .i64 0)) fun p79=>xI .i64 (ah SS.P 3 h (.pointer (some p79))) fun n80=>xL (aL SS.P 48 (.slice t tn tc) (some (.int .i64 1)) none none h) fun a81 n82 c83=>fN [1,1,1,1,1,0,0,0,1,0,1,1,1,0,0] [y1,(sA kl n n),(sA kb n n),(.slice a81 n82 c83),y6,y7,(.int .i64 n80),(.int .i64 0)] h (cz [1,0,1,1,1,0] [1,1,1,1,1,0,0,0] (aT ia (dE mv n kl kb Inv3) mz3 (cz [1,1,1,1,1,0,0] [] (gh Q))))) (Q (sA kl n n) h)
theorem tT {mv:LV}{n kl kb:Nat}{Inv3:Nat->OA->Nat->Nat->Heap->Prop}{mz3:Nat}(mq:Nat){t:OA}{tn:Nat}{tc:Nat}{y1 y6 y7 y9 y10:Value}{h:Heap}(hm:mq < mz3)(hi:Inv3 mq t tn tc h):ak (dE mv n kl kb Inv3) mz3 (j1 mv n kl kb t tn tc y1 y6 y7 y9 y10) h:=⟨mq,hm,t,tn,tc,y1,y6,y7,y9,y10,rfl,hi⟩
theorem uB (mv:LV)(n kl kb:Nat)(Inv3:Nat->OA->Nat->Nat->Heap->Prop)(Q:VH)(step: ∀ (mz3:Nat) (t:OA) (tn:Nat) (tc:Nat) (y1 y6 y7 y9 y10:Value) (zz:Nat->Value) (h:Heap),Inv3 mz3 t tn tc h->zA mv n kl kb Inv3 Q mz3 t tn tc y1 y6 y7 y9 y10 zz h)(mz3:Nat){t:OA}{tn:Nat}{tc:Nat}{y1 y6 y7 y9 y10:Value}{h:Heap}(hi:Inv3 mz3 t tn tc h):fN [1,1,1,1,1,0,0,0] (j1 mv n kl kb t tn tc y1 y6 y7 y9 y10) h (cz [1,1,1,1,1,0,0] [] (gh Q)):=
 an (A:=(dE mv n kl kb Inv3)) (show aF Tryz.f65.ntmps (aP [1,1,1,1,1,0,0,0] cZ)=true by kernel_rfl) (fun mz3 w zz h ⟨t,tn,tc,y1,y6,y7,y9,y10,hw,hi⟩=>by subst hw; exact ai (step mz3 t tn tc y1 y6 y7 y9 y10 zz h hi) (by kernel_rfl)) mz3 _ h ⟨t,tn,tc,y1,y6,y7,y9,y10,rfl,hi⟩ (fun zz=>by kernel_rfl) (by kernel_rfl)
abbrev jp (mv:LV)(n kl kb s:Nat)(j:Nat)(t:OA)(tn:Nat)(tc:Nat)(y1 y6 y7:Value):LV:=[y1,(sA kl n n),(sA kb n n),(.slice t tn tc),y6,y7,(iA s),(iA j)]
def fO (mv:LV)(n kl kb s:Nat)(Inv4:Nat->Nat->OA->Nat->Nat->Heap->Prop)(mz4:Nat)(w:LV)(h:Heap):Prop:= ∃ (j:Nat)(t:OA)(tn:Nat)(tc:Nat)(y1 y6 y7:Value),w=(jp mv n kl kb s j t tn tc y1 y6 y7)/\Inv4 mz4 j t tn tc h
abbrev BG (mv:LV)(n kl kb s:Nat)(Inv3:Nat->OA->Nat->Nat->Heap->Prop)(mz3:Nat)(Inv4:Nat->Nat->OA->Nat->Nat->Heap->Prop)(Q:VH)(mz4:Nat)(j:Nat)(t:OA)(tn:Nat)(tc:Nat)(y1 y6 y7:Value)(zz:Nat->Value)(h:Heap):Prop:=xP (af SS.P 72 (sA kb n n) (iA s)) fun p84=>xL (ah SS.P 48 h (.pointer (some p84))) fun a85 n86 c87=>aw (decide (((j:Int):Int) < (n86:Int))) (xP (af SS.P 72 (sA kb n n) (iA s)) fun p88=>xL (ah SS.P 48 h (.pointer (some p88))) fun a89 n90 c91=>xP (af SS.P 48 (.slice a89 n90 c91) (iA j)) fun p92=>xI .i64 (ah SS.P 3 h (.pointer (some p92))) fun n93=>xP (af SS.P 46 (sA kl n n) (.int .i64 n93)) fun p94=>xB (ah SS.P 4 h (.pointer (some p94))) fun b95=>aw (!b95) (xP (af SS.P 46 (sA kl n n) (.int .i64 n93)) fun p96=>xU (al SS.P 4 (.pointer (some p96)) (.bool true) h) h fun u97 g98=>xR (ay SS.P 48 1 [(0,(.int .i64 n93))]) g98 fun B99 n100 c101 g102=>xE (aB SS.P 48 48 (.slice t tn tc) (sA (g98.next) n100 c101) g102) g102 fun a103 n104 c105 u106 g107=>ak (fO mv n kl kb s Inv4) mz4 [y1,(sA kl n n),(sA kb n n),(.slice a103 n104 c105),y6,y7,(iA s),(.int .i64 (IntKind.wrap .i64 ((j:Int)+1)))] g107) (ak (fO mv n kl kb s Inv4) mz4 [y1,(sA kl n n),(sA kb n n),(.slice t tn tc),y6,y7,(iA s),(.int .i64 (IntKind.wrap .i64 ((j:Int)+1)))] h)) (ak (dE mv n kl kb Inv3) mz3 [y1,(sA kl n n),(sA kb n n),(.slice t tn tc),y6,y7,(iA s),(iA j)] h)
theorem kM {mv:LV}{n kl kb s:Nat}{Inv4:Nat->Nat->OA->Nat->Nat->Heap->Prop}{mz4:Nat}(mq:Nat){j:Nat}{t:OA}{tn:Nat}{tc:Nat}{y1 y6 y7:Value}{h:Heap}(hm:mq < mz4)(hi:Inv4 mq j t tn tc h):ak (fO mv n kl kb s Inv4) mz4 (jp mv n kl kb s j t tn tc y1 y6 y7) h:=⟨mq,hm,j,t,tn,tc,y1,y6,y7,rfl,hi⟩
theorem tq (mv:LV)(n kl kb s:Nat)(Inv3:Nat->OA->Nat->Nat->Heap->Prop)(mz3:Nat)(Inv4:Nat->Nat->OA->Nat->Nat->Heap->Prop)(Q:VH)(step: ∀ (mz4:Nat) (j:Nat) (t:OA) (tn:Nat) (tc:Nat) (y1 y6 y7:Value) (zz:Nat->Value) (h:Heap),Inv4 mz4 j t tn tc h->BG mv n kl kb s Inv3 mz3 Inv4 Q mz4 j t tn tc y1 y6 y7 zz h)(mz4:Nat){j:Nat}{t:OA}{tn:Nat}{tc:Nat}{y1 y6 y7:Value}{h:Heap}(hi:Inv4 mz4 j t tn tc h):fN [1,1,1,1,1,0,0,0,1,0,1,1,1,0,0] (jp mv n kl kb s j t tn tc y1 y6 y7) h (cz [1,0,1,1,1,0] [1,1,1,1,1,0,0,0] (aT ia (dE mv n kl kb Inv3) mz3 (cz [1,1,1,1,1,0,0] [] (gh Q)))):=
 an (A:=(fO mv n kl kb s Inv4)) (show aF Tryz.f65.ntmps (aP [1,1,1,1,1,0,0,0,1,0,1,1,1,0,0] cZ)=true by kernel_rfl) (fun mz4 w zz h ⟨j,t,tn,tc,y1,y6,y7,hw,hi⟩=>by subst hw; exact ai (step mz4 j t tn tc y1 y6 y7 zz h hi) (by kernel_rfl)) mz4 _ h ⟨j,t,tn,tc,y1,y6,y7,rfl,hi⟩ (fun zz=>by kernel_rfl) (by kernel_rfl)
theorem EW {P:Program}{t:TypeId}{g g':Heap}(o:Ok g g'){a v:Value}(h:ah P t g a=some v):ah P t g' a=some v:=by
 unfold ah at h ⊢
 split at h
 ·next d k i hd=>
  split at h
  ·next cs e sz wr hk=>
   rw [o.ext _ _ hk]
   exact h
  ·cases h
 ·cases h
theorem StRow.at2 {g0 g:Heap}{a:Option Addr}{n c:Nat}{l:List MSt}(r:StRow g0 (.slice a n c) l)(ok:Ok g0 g){i:Nat}{s:MSt}(hs:l[i]?=some s):
  ∃ (b o:Nat)(x:Option Addr)(y z:Nat),af SS.P 22 (.slice a n c) (.int .i64 (i:Int))=some (.pointer (some ⟨b,o,none⟩))/\ah SS.P 37 g (.pointer (some ⟨b,o,none⟩))=some (.agg ⟨[aa s.f,.slice x y z]⟩)/\
   ah SS.P 9 g (.pointer (some ⟨b,o+0,none⟩))=some (aa s.f)/\ah SS.P 35 g (.pointer (some ⟨b,o+1,none⟩))=some (.slice x y z)/\ArcRow g0 (.slice x y z) s.arcs:=by
 obtain ⟨b,o,x,y,z,e1,e2,e3,e4,ar⟩:=r.at_ hs
 exact ⟨b,o,x,y,z,e1,EW ok e2,EW ok e3,EW ok e4,ar⟩
noncomputable def ti48:TypeInfo:=(SS.P.info? 48).getD default
theorem SF:SS.P.info? 48=some ti48:=by kernel_rfl
theorem Nr:ti48.size=1:=by kernel_rfl
theorem Km:ti48.bytes=24:=by kernel_rfl
def ww:Value:= .slice none 0 0
theorem VF:cp SS.P 48=some ww:=by kernel_rfl
theorem VI (n:Nat)(hn:n<=100000):aW SS.P 72 (.int .i64 (n:Int)) (.int .i64 (n:Int))=some (.cells (List.replicate n ww) 48 1 true,nq n n):=by
 unfold aW aG
 dsimp only
 rw [BL]
 try dsimp only
 change (match SS.P.info? 48,cp SS.P 48 with
  | some i,some z=>(if z.cells.size=i.size/\0 < i.size/\(0:Int)<=(n:Int)/\(n:Int)<=(n:Int)/\(n:Int)*i.bytes<=140737488355328/\(n:Int)<=1099511627776 then some (Blk.cells (bh z.cells.toList (n:Int).toNat) 48 i.size true,fun k=>Value.slice (some ⟨k,0,none⟩) (n:Int).toNat (n:Int).toNat) else none)
  | _,_=>none)=_
 rw [SF,VF]
 dsimp only
 rw [Nr,Km,if_pos ⟨rfl,by omega,by omega,Int.le_refl _,by omega,by omega⟩]
 have e:((n:Int)).toNat=n:=by omega
 rw [e,show (ww).cells.toList=[ww] from rfl,oy]; rfl
def kW (s:MSt):List Nat:=s.arcs.map fun q=>q.t.toNat
def dl (M:Mach)(y x:Nat):Prop:= ∃ s,M.states[y]?=some s/\x∈kW s
def rN (M:Mach)(x:Nat):Prop:= ∃ s,M.states[x]?=some s/\s.f≠[]
def KR (M:Mach)(x:Nat):Prop:=Num.Rch (dl M) (fun y=>y=M.start.toNat) x/\Num.Rch (fun y x=>dl M x y) (rN M) x
def Rv (M:Mach)(i j y x:Nat):Prop:=(y < i/\dl M y x)\/(y=i/\ ∃ s,M.states[i]?=some s/\x∈(kW s).take j)
theorem gi {M:Mach}{i y x:Nat}:Rv M i 0 y x↔y < i/\dl M y x:=by
 unfold Rv
 constructor
 ·rintro (h | ⟨_,s,_,h⟩)
  ·exact h
  ·rw [List.take_zero] at h; cases h
 ·exact .inl
theorem BH {M:Mach}{i j y x:Nat}{s:MSt}(hs:M.states[i]?=some s)(hj:s.arcs.length<=j):Rv M i j y x↔y < i+1/\dl M y x:=by
 unfold Rv
 constructor
 ·rintro (⟨h1,h2⟩ | ⟨rfl,s',h1,h2⟩)
  ·exact ⟨by omega,h2⟩
  ·exact ⟨by omega,s',h1,List.mem_of_mem_take h2⟩
 ·rintro ⟨h1,h2⟩
  rcases Nat.lt_or_ge y i with h3 | h3
  ·exact .inl ⟨h3,h2⟩
  ·obtain rfl:y=i:=by omega
   obtain ⟨s',h4,h5⟩:=h2
   refine .inr ⟨rfl,s',h4,?_⟩
   rw [hs] at h4
   obtain rfl:=oI h4
   rw [List.take_of_length_le (by unfold kW; rw [lM]; exact hj)]
   exact h5
theorem Al {M:Mach}{i j y x:Nat}{s:MSt}{q:MArc}(hs:M.states[i]?=some s)(hq:s.arcs[j]?=some q):Rv M i (j+1) y x↔Rv M i j y x\/(y=i/\x=q.t.toNat):=by
 have hq':(kW s)[j]?=some q.t.toNat:=by unfold kW; rw [List.getElem?_map,hq]; rfl
 have ht:(kW s).take (j+1)=(kW s).take j++[q.t.toNat]:=by rw [List.take_add_one,hq']; rfl
 unfold Rv
 constructor
 ·rintro (h | ⟨h1,s',h2,h3⟩)
  ·exact .inl (.inl h)
  ·rw [hs] at h2
   obtain rfl:=oI h2
   rw [ht,List.mem_append,List.mem_singleton] at h3
   rcases h3 with h3 | h3
   ·exact .inl (.inr ⟨h1,s,hs,h3⟩)
   ·exact .inr ⟨h1,h3⟩
 ·rintro ((h | ⟨h1,s',h2,h3⟩) | ⟨h1,h2⟩)
  ·exact .inl h
  ·rw [hs] at h2
   obtain rfl:=oI h2
   exact .inr ⟨h1,s,hs,by rw [ht]; exact List.mem_append.2 (.inl h3)⟩
  ·exact .inr ⟨h1,s,hs,by rw [ht,h2]; exact List.mem_append.2 (.inr (List.mem_singleton.2 rfl))⟩
structure Dn (M:Mach)(n i j i' cN:Nat)(F:List (List Nat)):Prop where
 fw: ∀ y l,y < n->F[0*n+y]?=some l-> ∀ x,x∈l↔Rv M i j y x
 bk: ∀ t l,t < n->F[1*n+t]?=some l-> ∀ x,x∈l↔Rv M i j x t
 en: ∀ l,F[2*n]?=some l-> ∀ x,x∈l↔x < i'/\rN M x
 ln: ∀ l∈F,l.length<=cN
theorem r6 {F:List (List Nat)}{idx:Nat}{l':List Nat}{c:Nat}(h: ∀ l∈F,l.length<=c)(h2:l'.length<=c+1): ∀ l∈F.set idx l',l.length<=c+1:=fun l hl=>by
 rcases List.mem_or_eq_of_mem_set hl with h1 | h1
 ·exact Nat.le_succ_of_le (h l h1)
 ·rw [h1]; exact h2
theorem Dn.arc {M:Mach}{n i j i' cN:Nat}{F:List (List Nat)}(d:Dn M n i j i' cN F)(hi:i < n){s:MSt}{q:MArc}(hs:M.states[i]?=some s)(hq:s.arcs[j]?=some q)(ht:q.t.toNat < n){l1 l2:List Nat}(h1:F[0*n+i]?=some l1)(h2:F[1*n+q.t.toNat]?=some l2):
  Dn M n i (j+1) i' (cN+1) ((F.set (0*n+i) (l1++[q.t.toNat])).set (1*n+q.t.toNat) (l2++[i])):=by
 have b1:=d.ln l1 (List.mem_of_getElem? h1)
 have b2:=d.ln l2 (List.mem_of_getElem? h2)
 refine ⟨fun y l hy hl x=> ?_,fun t l ht' hl x=> ?_,fun l hl x=> ?_,fun l hl=> ?_⟩
 ·rw [Al hs hq]
  rcases aA hl with ⟨e,_⟩ | ⟨_,hl⟩
  ·omega
  ·rcases aA hl with ⟨e,rfl⟩ | ⟨e,hl⟩
   ·obtain rfl:y=i:=by omega
    rw [List.mem_append,List.mem_singleton,d.fw y l1 hy h1 x]
    exact ⟨fun c=>c.imp id fun c=>⟨rfl,c⟩,fun c=>c.imp id fun c=>c.2⟩
   ·rw [d.fw y l hy hl x]
    exact ⟨.inl,fun c=>c.elim id fun c=>absurd (by rw [c.1]) e⟩
 ·rw [Al hs hq]
  rcases aA hl with ⟨e,rfl⟩ | ⟨e,hl⟩
  ·obtain rfl:t=q.t.toNat:=by omega
   rw [List.mem_append,List.mem_singleton,d.bk _ l2 ht' h2 x]
   exact ⟨fun c=>c.imp id fun c=>⟨c,rfl⟩,fun c=>c.imp id fun c=>c.1⟩
  ·rcases aA hl with ⟨e',_⟩ | ⟨_,hl⟩
   ·omega
   ·rw [d.bk t l ht' hl x]
    exact ⟨.inl,fun c=>c.elim id fun c=>absurd (by rw [c.2]) e⟩
 ·rcases aA hl with ⟨e,_⟩ | ⟨_,hl⟩
  ·omega
  ·rcases aA hl with ⟨e,_⟩ | ⟨_,hl⟩
   ·omega
   ·exact d.en l hl x
 ·rcases List.mem_or_eq_of_mem_set hl with h3 | h3
  ·rcases List.mem_or_eq_of_mem_set h3 with h4 | h4
   ·have:=d.ln l h4; omega
   ·rw [h4,List.length_append,List.length_singleton]; omega
  ·rw [h3,List.length_append,List.length_singleton]; omega
theorem Dn.fin {M:Mach}{n i cN:Nat}{F:List (List Nat)}(d:Dn M n i 0 i cN F)(hi:i < n){s:MSt}(hs:M.states[i]?=some s)(hf:s.f≠[]){l:List Nat}(hl:F[2*n]?=some l):Dn M n i 0 (i+1) (cN+1) (F.set (2*n) (l++[i])):=by
 have b1:=d.ln l (List.mem_of_getElem? hl)
 refine ⟨fun y l' hy hl' x=> ?_,fun t l' ht hl' x=> ?_,fun l' hl' x=> ?_,r6 d.ln (by rw [List.length_append,List.length_singleton]; omega)⟩
 ·rcases aA hl' with ⟨e,_⟩ | ⟨_,h⟩
  ·omega
  ·exact d.fw y l' hy h x
 ·rcases aA hl' with ⟨e,_⟩ | ⟨_,h⟩
  ·omega
  ·exact d.bk t l' ht h x
 ·rcases aA hl' with ⟨_,rfl⟩ | ⟨e,_⟩
  ·rw [List.mem_append,List.mem_singleton,d.en l hl x]
   constructor
   ·rintro (⟨h1,h2⟩ | rfl)
    ·exact ⟨by omega,h2⟩
    ·exact ⟨by omega,s,hs,hf⟩
   ·rintro ⟨h1,h2⟩
    rcases Nat.lt_or_ge x i with h3 | h3
    ·exact .inl ⟨h3,h2⟩
    ·exact .inr (by omega)
  ·exact absurd rfl e
theorem Dn.nofin {M:Mach}{n i cN:Nat}{F:List (List Nat)}(d:Dn M n i 0 i cN F){s:MSt}(hs:M.states[i]?=some s)(hf:s.f=[]):Dn M n i 0 (i+1) (cN+1) F:=by
 refine ⟨d.fw,d.bk,fun l hl x=> ?_,fun l hl=>Nat.le_succ_of_le (d.ln l hl)⟩
 rw [d.en l hl x]
 constructor
 ·rintro ⟨h1,h2⟩; exact ⟨by omega,h2⟩
 ·rintro ⟨h1,h2⟩
  refine ⟨?_,h2⟩
  rcases Nat.lt_or_ge x i with h3 | h3
  ·exact h3
  ·obtain rfl:x=i:=by omega
   obtain ⟨s',h4,h5⟩:=h2
   rw [hs] at h4
   obtain rfl:=oI h4
   exact absurd hf h5
theorem Dn.next {M:Mach}{n i j cN:Nat}{F:List (List Nat)}(d:Dn M n i j (i+1) cN F){s:MSt}(hs:M.states[i]?=some s)(hj:s.arcs.length<=j):Dn M n (i+1) 0 (i+1) cN F:=by
 refine ⟨fun y l hy hl x=> ?_,fun t l ht hl x=> ?_,d.en,d.ln⟩
 ·rw [d.fw y l hy hl x,BH hs hj,gi]
 ·rw [d.bk t l ht hl x,BH hs hj,gi]
theorem Dn.new (M:Mach)(n:Nat):Dn M n 0 0 0 0 (List.replicate (2*n+1) []):=by
 have h: ∀ {i:Nat}{l:List Nat},(List.replicate (2*n+1) ([]:List Nat))[i]?=some l->l=[]:=fun {i l} hl=>by
  rw [List.getElem?_replicate] at hl
  split at hl
  ·exact (oI hl).symm
  ·cases hl
 refine ⟨fun y l hy hl x=> ?_,fun t l ht hl x=> ?_,fun l hl x=> ?_,fun l hl=> ?_⟩
 ·rw [h hl,gi]; exact ⟨fun c=>(by cases c),fun c=>absurd c.1 (Nat.not_lt_zero _)⟩
 ·rw [h hl,gi]; exact ⟨fun c=>(by cases c),fun c=>absurd c.1 (Nat.not_lt_zero _)⟩
 ·rw [h hl]; exact ⟨fun c=>(by cases c),fun c=>absurd c.1 (Nat.not_lt_zero _)⟩
 ·rw [List.eq_of_mem_replicate hl]; exact Nat.le_refl _
theorem Us.tail {hb g:Heap}{R:Nat}{kt:Nat->Nat}{N:Nat}{X:Nat->Prop}{vs:List Value}{F:List (List Nat)}(s:Us hb R kt N X vs F g){vs':List Value}{F':List (List Nat)}{v:Value}{l':List Nat}(ev:vs'=vs.set (R*N) v)(eF:F'=F.set (R*N) l'){g2:Heap}(fm:Fam hb g2 X vs' F')(ok2:Ok hb g2)(hk: ∀ j B,g.get j=some B->X j->g2.get j=some B)(hn:g.next<=g2.next):Us hb R kt N X vs' F' g2:=by
 refine ⟨fun r hr=> ?_,fm,ok2,by rw [eF,List.length_set]; exact s.len,s.xt,s.inj,fun k hX=>Nat.lt_of_lt_of_le (s.xlt k hX) hn⟩
 have h2:(r+1)*N<=R*N:=Nat.mul_le_mul_right _ hr
 rw [Nat.add_mul,Nat.one_mul] at h2
 rw [hk _ _ (s.cc r hr) (s.xt r hr).1,ev,m6 _ _ _ _ _ (.inr h2)]
theorem Oj (k o n c:Nat):cM 4 (.slice (some ⟨k,o,none⟩) n c) (.slice (some ⟨k,o,none⟩) n c)=true:=by simp [cM]
section
theorem Fam.lt {hb g:Heap}{X:Nat->Prop}{vs:List Value}{F:List (List Nat)}(f:Fam hb g X vs F)(w:Wf g){i:Nat}{v:Value}(hv:vs[i]?=some v){k:Nat}(hk:bO v=some k):k < g.next:=by
 obtain ⟨l2,hl2⟩: ∃ l2,F[i]?=some l2:=⟨_,gE (by rw [<-f.len]; exact (List.getElem?_eq_some_iff.1 hv).1)⟩
 exact ((f.own i v l2 hv hl2).lt w hk).1
def V8 (hb:Heap):Nat->Prop:=fun k=>k=hb.next+1\/k=hb.next+3\/k=hb.next+4\/k=hb.next+5
def M3 (hb:Heap):Nat->Nat:=fun r=>hb.next+1+2*r
structure Ub (hb:Heap)(M:Mach)(n i j i' cN:Nat)(vs:List Value)(F:List (List Nat))(g:Heap):Prop where
 us:Us hb 2 (M3 hb) n (V8 hb) vs F g
 b4:Bx1 g (hb.next+4) 72 (.slice (some ⟨M3 hb 0,0,none⟩) n n)
 b5:Bx1 g (hb.next+5) 72 (.slice (some ⟨M3 hb 1,0,none⟩) n n)
 dn:Dn M n i j i' cN F
section
variable {hb:Heap} {M:Mach} {a:Option Addr} {n c k:Nat}
def Xm (hb:Heap)(M:Mach)(n:Nat)(mz i:Nat)(e:Option Addr)(en ec:Nat)(g:Heap):Prop:=i<=n/\mz=n - i/\ ∃ vs F cN,Ub hb M n i 0 i cN vs F g/\vs[2*n]?=some (.slice e en ec)/\cN+lk (M.states.drop i)+(n - i)<=2300
def Zm (hb:Heap)(M:Mach)(n:Nat)(e:Option Addr)(en ec m i:Nat)(mz2 j:Nat)(g:Heap):Prop:=j<=m/\mz2=m - j/\ ∃ vs F cN,Ub hb M n i j (i+1) cN vs F g/\vs[2*n]?=some (.slice e en ec)/\cN+(m - j)+lk (M.states.drop (i+1))+(n - (i+1))<=2300
set_option linter.defProp false in
def Is (w:Wf hb)(gd:Good M)(hnM:n=M.states.length)(hn:n<=300){s:MSt}{b:Option Addr}{m d i k8:Nat}(hs:M.states[i]?=some s)(hi:i < n)(ar:ArcRow hb (.slice b m d) s.arcs)(hsl:s.arcs.length<=2000)(mv:List Value)(e:Option Addr)(en ec mz:Nat)(hmz:mz=n - i)(Q:VH):=
 sN mv k (hb.next+4) (hb.next+5) a n c k8 e en ec b m d (Xm hb M n) mz i (Zm hb M n e en ec m i) Q (by
  intro mz2 j; intros; rename_i g hin
  obtain ⟨f1,f2,vs,F,cN,ub,hve,hcN⟩:=hin
  have hm:=ar.len
  have ok:=ub.us.ok
  refine ae (fun g1=> ?_) (fun g1=> ?_)
  ·have g1:=dT g1
   obtain ⟨q,hq⟩: ∃ q,s.arcs[j]?=some q:=⟨_,gE (by omega)⟩
   obtain ⟨bb,o,e1,e2,_⟩:=(ar.ok ok).at_ hq
   have hin:=gd.arcs s (List.mem_of_getElem? hs) q (List.mem_of_getElem? hq)
   obtain ⟨T,hT⟩: ∃ T:Nat,q.t=(T:Int):=⟨q.t.toNat,by have:=hin.t0; omega⟩
   have hTn:T < n:=by have:=hin.t1; omega
   have hTq:q.t.toNat=T:=by omega
   obtain ⟨u1,p1,p2,p3⟩:=GZ ok.wf q
   have l3: ∀ g',AB g' g.next q->ah SS.P 3 g' (.pointer (some ⟨g.next,0+3,none⟩))=some (.int .i64 (T:Int)):=fun g' h=>by rw [<-hT]; exact AB.l3 h
   have hlt: ∀ (idx:Nat)(v:Value),vs[idx]?=some v->bO v≠some g.next:=fun idx v hv e=>by have:=ub.us.fam.lt ok.wf hv e; omega
   have xlt:=ub.us.xlt
   have U2:=ub.us.ext p2
   have B4:=ub.b4.ok p2
   have B5:=ub.b5.ok p2
   refine ⟨_,e1,_,e2,_,Qp,u1,p1,?_⟩
   generalize u1.app (g.push O2)=g2 at *
   have w2:=U2.ok.wf
   have oR:=(Ok.refl w2).room 12
   obtain ⟨r1,a1,c1,hF1,hv1,ix1,V9⟩:=U2.ld (r:=0) (i:=i) (by omega) hi
   have hr1:=ub.dn.ln r1 (List.mem_of_getElem? hF1)
   obtain ⟨o8,k8'⟩:=KC w2 (n:=12) (j:=8) (by omega) (.cells [.int .i64 (T:Int)] 3 1 true)
   have ldR:=(V9 _ (U2.ext oR)).1
   have U3:=U2.ext o8
   have B43:=B4.ok o8
   have B53:=B5.ok o8
   have A3:=AB.ok p3 o8
   obtain ⟨b',n',c',u78,ap1,en1,fm4,ok4,kp4,nx4⟩:=U3.fam.snoc w U3.ok U3.xlt hv1 hF1 k8' (by omega)
   have ne1:bO (.slice a1 r1.length c1)≠some g.next:=hlt _ _ hv1
   have nX1: ∀ k,V8 hb k->bO (.slice a1 r1.length c1)≠some k:=fun k hX e=>U3.fam.out _ _ hv1 k e hX
   refine ⟨_,_,_,(B4.ok oR).ld BL IA,_,_,_,(B4.ok oR).ld BL IA,_,ix1,_,_,_,ldR,_,mZ _ _,_,l3 _ (p3.ok oR),_,_,_,rW _,b',n',c',u78,ap1,_,ix1,?_⟩
   generalize aC (Go.Ab.room g2 12) g2.next [(8,.cells [.int .i64 (T:Int)] 3 1 true)]=S at *
   have B44:=kp4 _ _ B43 (nX1 _ (.inr (.inr (.inl rfl))))
   have B54:=kp4 _ _ B53 (nX1 _ (.inr (.inr (.inr rfl))))
   have A4:=kp4 _ _ A3 ne1
   obtain ⟨u80,VX,U5,kp5⟩:=U3.put w (r:=0) (i:=i) (by omega) hi rfl rfl fm4 ok4 (fun j' B' hj hX=>kp4 j' B' hj (nX1 j' hX)) nx4
   refine ⟨u80,VX,⟨Bx1.ld BL IA B44,Oj _ _ _ _⟩,?_⟩
   have B45:Bx1 _ _ _ _:=kp5 _ _ B44 (by unfold M3; omega)
   have B55:Bx1 _ _ _ _:=kp5 _ _ B54 (by unfold M3; omega)
   have A5:AB _ _ q:=kp5 _ _ A4 (by have:=xlt _ (ub.us.xt 0 (by omega)).1; omega)
   generalize u78.app S=g4 at *
   generalize u80.app g4=g5 at *
   have w5:=U5.ok.wf
   have oR2:=(Ok.refl w5).room 13
   obtain ⟨r2,a2,c2,hF2,hv2,ix2,ld2⟩:=U5.ld (r:=1) (i:=T) (by omega) hTn
   obtain ⟨o9,k9⟩:=KC w5 (n:=13) (j:=9) (by omega) (.cells [.int .i64 (i:Int)] 3 1 true)
   have ldR2:=(ld2 _ (U5.ext oR2)).1
   have U6:=U5.ext o9
   have hv2':vs[1*n+T]?=some (.slice a2 r2.length c2):=by
    rcases aA hv2 with ⟨e,_⟩ | ⟨_,h⟩
    ·omega
    ·exact h
   have hF2':F[1*n+T]?=some r2:=by
    rcases aA hF2 with ⟨e,_⟩ | ⟨_,h⟩
    ·omega
    ·exact h
   have hr2:=ub.dn.ln r2 (List.mem_of_getElem? hF2')
   have ne2:=hlt _ _ hv2'
   have nX2: ∀ k,V8 hb k->bO (.slice a2 r2.length c2)≠some k:=fun k hX e=>ub.us.fam.out _ _ hv2' k e hX
   obtain ⟨b2',n2',c2',u101,ap2,en2,fm7,ok7,kp7,nx7⟩:=U6.fam.snoc w U6.ok U6.xlt hv2 hF2 k9 (by omega)
   refine ⟨_,_,_,(B55.ok oR2).ld BL IA,_,mZ _ _,_,l3 _ (A5.ok oR2),_,_,_,(B55.ok oR2).ld BL IA,_,mZ _ _,_,l3 _ (A5.ok oR2),_,ix2,_,_,_,ldR2,_,_,_,rW _,b2',n2',c2',u101,ap2,_,ix2,?_⟩
   have B46:=kp7 _ _ (B45.ok o9) (nX2 _ (.inr (.inr (.inl rfl))))
   have B56:=kp7 _ _ (B55.ok o9) (nX2 _ (.inr (.inr (.inr rfl))))
   have A6:AB _ _ q:=kp7 _ _ (A5.ok o9) ne2
   obtain ⟨u103,st2,U8,kp8⟩:=U6.put w (r:=1) (i:=T) (by omega) hTn rfl rfl fm7 ok7 (fun j' B' hj hX=>kp7 j' B' hj (nX2 j' hX)) nx7
   refine ⟨u103,st2,⟨Bx1.ld BL IA B56,Oj _ _ _ _⟩,⟨l3 _ A6,uS _⟩,?_⟩
   rw [aJ (i:=j) (n:=m) (by omega) (by omega)]
   have B48:=kp8 _ _ B46 (by unfold M3; omega)
   have B58:=kp8 _ _ B56 (by unfold M3; omega)
   have D:=ub.dn.arc hi hs hq (by rw [hTq]; exact hTn) hF1 (by rw [hTq]; exact hF2')
   rw [hTq] at D
   refine ue (mz2 - 1) (by omega) ⟨by omega,by omega,_,_,cN+1,⟨U8,B48,B58,D⟩,?_,by omega⟩
   rw [List.getElem?_set,if_neg (by omega),List.getElem?_set,if_neg (by omega)]
   exact hve
  ·have g1:=dF g1
   obtain rfl:m=j:=by omega
   rw [aJ hi (by omega)]
   exact td (n - (i+1)) (by omega) ⟨by omega,rfl,vs,F,cN,⟨ub.us,ub.b4,ub.b5,ub.dn.next hs (by omega)⟩,hve,by omega⟩)
end
end
def iE (n:Nat):Blk:= .cells (List.replicate n ww) 48 1 true
def ye:Blk:= .cells [.slice none 0 0] 72 0 true
theorem Wm:bi SS.P 72=some (ye,kw):=by kernel_rfl
theorem C5 {E E':Nat->Nat->Prop}{F F':Nat->Prop}(hE: ∀ y x,E y x↔E' y x)(hF: ∀ x,F x↔F' x)(x:Nat):Num.Rch E F x↔Num.Rch E' F' x:=by
 have e1:E=E':=funext fun y=>funext fun x=>propext (hE y x)
 have e2:F=F':=funext fun x=>propext (hF x)
 rw [e1,e2]
theorem Fc {g0:Heap}(w:Wf g0)(M:Mach)(n:Nat):
  ∃ u14:Upd,al SS.P 72 (.pointer (some ⟨g0.next+4,0,none⟩)) (.slice (some ⟨g0.next+1,0,none⟩) n n) (aC (Go.Ab.room g0 8) g0.next [(5,ye),(4,ye),(1,iE n)])=some (undef,u14)/\
  ∃ u15:Upd,al SS.P 72 (.pointer (some ⟨g0.next+5,0,none⟩)) (.slice (some ⟨g0.next+3,0,none⟩) n n) (aC (u14.app (aC (Go.Ab.room g0 8) g0.next [(5,ye),(4,ye),(1,iE n)])) g0.next [(3,iE n)])=some (undef,u15)/\
   Ub g0 M n 0 0 0 0 (List.replicate (2*n+1) ww) (List.replicate (2*n+1) []) (u15.app (aC (u14.app (aC (Go.Ab.room g0 8) g0.next [(5,ye),(4,ye),(1,iE n)])) g0.next [(3,iE n)])):=by
 obtain ⟨N,hN⟩: ∃ N,g0.next=N:=⟨_,rfl⟩
 have hnx:(Go.Ab.room g0 8).next=N+8:=by rw [<-hN]; rfl
 rw [hN]
 have h4:Bx1 (aC (Go.Ab.room g0 8) N [(5,ye),(4,ye),(1,iE n)]) (N+4) 72 (.slice none 0 0):=by
  show (((Go.Ab.room g0 8).set (N+1) _).set (N+4) ye |>.set (N+5) ye).get (N+4)=_
  rw [Heap.get_set,if_neg (by omega),Heap.get_set,if_pos rfl]; rfl
 refine ⟨_,h4.st TL (gy _ _ _) rfl,?_⟩
 have h5:Bx1 (aC ((Upd.set (N+4) (.cells [.slice (some ⟨N+1,0,none⟩) n n] 72 0 true)).app (aC (Go.Ab.room g0 8) N [(5,ye),(4,ye),(1,iE n)])) N [(3,iE n)]) (N+5) 72 (.slice none 0 0):=by
  show (((((Go.Ab.room g0 8).set (N+1) (iE n)).set (N+4) ye |>.set (N+5) ye).set (N+4) _).set (N+3) (iE n)).get (N+5)=_
  rw [Heap.get_set,if_neg (by omega),Heap.get_set,if_neg (by omega),Heap.get_set,if_pos rfl]; rfl
 refine ⟨_,h5.st TL (gy _ _ _) rfl,?_⟩
 show Ub g0 M n 0 0 0 0 _ _ ((((((Go.Ab.room g0 8).set (N+1) (iE n)).set (N+4) ye |>.set (N+5) ye).set (N+4) (.cells [.slice (some ⟨N+1,0,none⟩) n n] 72 0 true)).set (N+3) (iE n)).set (N+5) (.cells [.slice (some ⟨N+3,0,none⟩) n n] 72 0 true))
 have hget: ∀ j,((((((Go.Ab.room g0 8).set (N+1) (iE n)).set (N+4) ye |>.set (N+5) ye).set (N+4) (.cells [.slice (some ⟨N+1,0,none⟩) n n] 72 0 true)).set (N+3) (iE n)).set (N+5) (.cells [.slice (some ⟨N+3,0,none⟩) n n] 72 0 true)).get j =
   if j=N+5 then some (.cells [.slice (some ⟨N+3,0,none⟩) n n] 72 0 true) else if j=N+3 then some (iE n) else if j=N+4 then some (.cells [.slice (some ⟨N+1,0,none⟩) n n] 72 0 true) else if j=N+5 then some ye else if j=N+4 then some ye else if j=N+1 then some (iE n) else g0.get j:=fun j=>by
  rw [Heap.get_set,Heap.get_set,Heap.get_set,Heap.get_set,Heap.get_set,Heap.get_set]; rfl
 have hok:Ok g0 ((((((Go.Ab.room g0 8).set (N+1) (iE n)).set (N+4) ye |>.set (N+5) ye).set (N+4) (.cells [.slice (some ⟨N+1,0,none⟩) n n] 72 0 true)).set (N+3) (iE n)).set (N+5) (.cells [.slice (some ⟨N+3,0,none⟩) n n] 72 0 true)):=by
  refine ((((((Ok.refl w).room 8).set _ ?_ ?_ w).set _ ?_ ?_ w).set _ ?_ ?_ w).set _ ?_ ?_ w).set _ ?_ ?_ w |>.set _ ?_ ?_ w
  all_goals first
   | (rw [hN]; omega)
   | (show _ < (Go.Ab.room g0 8).next; rw [hnx]; omega)
 generalize ((((((Go.Ab.room g0 8).set (N+1) (iE n)).set (N+4) ye |>.set (N+5) ye).set (N+4) (.cells [.slice (some ⟨N+1,0,none⟩) n n] 72 0 true)).set (N+3) (iE n)).set (N+5) (.cells [.slice (some ⟨N+3,0,none⟩) n n] 72 0 true))=gF at *
 have g1:gF.get (N+1)=some (iE n):=by rw [hget,if_neg (by omega),if_neg (by omega),if_neg (by omega),if_neg (by omega),if_neg (by omega),if_pos rfl]
 have g3:gF.get (N+3)=some (iE n):=by rw [hget,if_neg (by omega),if_pos rfl]
 have g4:gF.get (N+4)=some (.cells [.slice (some ⟨N+1,0,none⟩) n n] 72 0 true):=by rw [hget,if_neg (by omega),if_neg (by omega),if_pos rfl]
 have g5:gF.get (N+5)=some (.cells [.slice (some ⟨N+3,0,none⟩) n n] 72 0 true):=by rw [hget,if_pos rfl]
 have hrep: ∀ {i:Nat}{v:Value},(List.replicate (2*n+1) ww)[i]?=some v->v=ww:=fun {i v} hl=>by
  rw [List.getElem?_replicate] at hl
  split at hl
  ·exact (oI hl).symm
  ·cases hl
 have hrepF: ∀ {i:Nat}{l:List Nat},(List.replicate (2*n+1) ([]:List Nat))[i]?=some l->l=[]:=fun {i l} hl=>by
  rw [List.getElem?_replicate] at hl
  split at hl
  ·exact (oI hl).symm
  ·cases hl
 refine ⟨⟨fun r hr=> ?_,⟨by rw [List.length_replicate,List.length_replicate],fun i v l hv hl=> ?_,fun i j v v' _ hv _ k hk=> ?_,fun i v hv k hk=> ?_⟩,hok,List.length_replicate,fun r hr=>⟨?_,?_⟩,fun r r' _ _ hne=> ?_,fun k hX=> ?_⟩,?_,?_,Dn.new M n⟩
 ·have e:((List.replicate (2*n+1) ww).drop (r*n)).take n=List.replicate n ww:=by
   rw [List.drop_replicate,List.take_replicate]
   congr 1
   have:r=0\/r=1:=by omega
   rcases this with rfl | rfl <;> omega
  rw [e]
  have:r=0\/r=1:=by omega
  unfold M3
  rw [hN]
  rcases this with rfl | rfl
  ·exact g1
  ·exact g3
 ·rw [hrep hv,hrepF hl]; exact OwnG.nil _ _ _
 ·rw [hrep hv] at hk; cases hk
 ·rw [hrep hv] at hk; cases hk
 ·unfold V8 M3; rw [hN]
  have:r=0\/r=1:=by omega
  rcases this with rfl | rfl <;> omega
 ·unfold M3; omega
 ·unfold M3; omega
 ·unfold V8 at hX
  rw [hN] at hX
  rcases hX with rfl | rfl | rfl | rfl
  ·exact hok.wf _ _ g1
  ·exact hok.wf _ _ g3
  ·exact hok.wf _ _ g4
  ·exact hok.wf _ _ g5
 ·rw [hN]; show gF.get (N+4)=_; rw [g4]; unfold M3; rw [hN]
 ·rw [hN]; show gF.get (N+5)=_; rw [g5]; unfold M3; rw [hN]
theorem jM {g:Heap}{kt N c:Nat}{L:List Bool}(hg:g.get kt=some (.cells (L.map Value.bool) 4 1 true))(hl:L.length=N){x:Nat}(h1:x < N):af SS.P 46 (.slice (some ⟨kt,0,none⟩) N c) (.int .i64 (x:Int))=some (.pointer (some ⟨kt,x,none⟩))/\ah SS.P 4 g (.pointer (some ⟨kt,x,none⟩))=some (.bool (L.getD x false)):=by
 refine ⟨?_,?_⟩
 ·have:=Qg (P:=SS.P) NC SP (k:=kt) (off:=0) (n:=N) (c:=c) (ik:= .i64) (i:=(x:Int)) (by omega) (by omega)
  rw [this,Int.toNat_natCast,Nat.zero_add,Nat.mul_one]
 ·rw [eC Yp YA hg (by rw [lM]; omega),gD,List.getElem?_map,gD,gE (by omega)]; rfl
def Sb (h1:Heap)(kl kr n:Nat)(L1 L2:List Bool)(mz i:Nat)(g:Heap):Prop:=i<=n/\mz=n - i/\ ∃ L,BR h1 kl n L g/\g.get kr=some (.cells (L2.map Value.bool) 4 1 true)/\ ∀ x,L.getD x false=if x < i then (L1.getD x false && L2.getD x false) else L1.getD x false
theorem qu {h1:Heap}(w:Wf h1){kl kr n:Nat}{L1 L2:List Bool}{mz i:Nat}{g:Heap}(h:Sb h1 kl kr n L1 L2 mz i g)(hL2:L2.length=n)(hne:kr≠kl)(hi:i < n){b:Bool}(hb:b=(L1.getD i false && L2.getD i false)):
  ∃ u:Upd,al SS.P 4 (.pointer (some ⟨kl,i,none⟩)) (.bool b) g=some (undef,u)/\Sb h1 kl kr n L1 L2 (mz - 1) (i+1) (u.app g):=by
 obtain ⟨f1,f2,L,br,hr,hL⟩:=h
 obtain ⟨r1,r2,r3⟩:=br.get (c:=n) (x:=(i:Int)) (by omega) (by omega)
 rw [Int.toNat_natCast] at r3
 obtain ⟨u,s1,s2,s3⟩:=r3 b w
 refine ⟨u,s1,by omega,by omega,_,s2,s3 _ _ hr hne,fun x=> ?_⟩
 rw [BD (by rw [br.len]; exact hi),hL x]
 by_cases e:x=i
 ·subst e
  rw [if_pos rfl,if_pos (by omega),hb]
 ·rw [if_neg e]
  by_cases e2:x < i
  ·rw [if_pos e2,if_pos (by omega)]
  ·rw [if_neg e2,if_neg (by omega)]
def uQ (h:Heap)(M:Mach)(n:Nat):VH:=fun v h'=> ∃ kl L,v = .slice (some ⟨kl,0,none⟩) n n/\BR h kl n L h'/\ ∀ x,x < n->(L.getD x false=true↔KR M x)
theorem BR.base {h h1 g:Heap}{kl n:Nat}{L:List Bool}(b:BR h1 kl n L g)(o:Ok h h1):BR h kl n L g:=⟨b.len,b.row.row,Nat.le_trans o.nx b.row.new,o.trans b.row.ok⟩
section
section
variable {h:Heap} {M:Mach} {a:Option Addr} {n c:Nat}
theorem vN {i:Nat}(hi:i < M.states.length): ∃ s,M.states[i]?=some s:=⟨_,gE hi⟩
theorem KB (gd:Good M){y x:Nat}(h:dl M y x):x < M.states.length:=by
 obtain ⟨s,h1,h2⟩:=h
 unfold kW at h2
 obtain ⟨q,h3,rfl⟩:=List.mem_map.1 h2
 have:=gd.arcs s (List.mem_of_getElem? h1) q h3
 have:=this.t1
 have:= ‹ArcIn _ q›.t0
 omega
theorem ol {y x:Nat}(h:dl M y x):y < M.states.length:=by
 obtain ⟨s,h1,h2⟩:=h
 exact (List.getElem?_eq_some_iff.1 h1).1
set_option linter.defProp false in
def Gr (w1:Wf h){kl kr:Nat}{L1 L2:List Bool}(hL1: ∀ x,L1.getD x false=true↔Num.Rch (dl M) (fun y=>y=M.start.toNat) x)(hL2: ∀ x,L2.getD x false=true↔Num.Rch (fun y x=>dl M x y) (rN M) x)(hl2:L2.length=n)(hne:kr≠kl)(hn:n<=300)(Q:VH)(hQ: ∀ v g',uQ h M n v g'->Q v g')(mv:List Value):=
 sL mv n kl kr (Sb h kl kr n L1 L2) Q (by
  intro mz3 i; intros; rename_i g hin
  have h3:=hin
  obtain ⟨f1,f2,L,br,hr,hL⟩:=h3
  refine ae (fun q1=> ?_) (fun q1=> ?_)
  ·have q1:=dT q1
   have hi:i < n:=by omega
   obtain ⟨x1,x2⟩:=jM (c:=n) hr hl2 hi
   obtain ⟨y1,y2⟩:=jM (c:=n) br.row.row br.len hi
   have e:=hL i
   rw [if_neg (Nat.lt_irrefl i)] at e
   rw [e] at y2
   refine ⟨_,x1,_,x2,_,y1,_,y2,ae (fun t=> ?_) (fun t=> ?_)⟩
   ·obtain ⟨u,s1,s2⟩:=qu w1 hin hl2 hne hi (b:=L2.getD i false) (by rw [t]; rfl)
    refine ⟨_,y1,u,s1,?_⟩
    rw [aJ hi (by omega)]
    exact kP (mz3 - 1) (by omega) s2
   ·obtain ⟨u,s1,s2⟩:=qu w1 hin hl2 hne hi (b:=false) (by rw [t]; rfl)
    refine ⟨_,y1,u,s1,?_⟩
    rw [aJ hi (by omega)]
    exact kP (mz3 - 1) (by omega) s2
  ·have q1:=dF q1
   refine hQ _ _ ⟨kl,L,rfl,br,fun x hx=> ?_⟩
   rw [hL x,if_pos (by omega),Bool.and_eq_true,hL1,hL2]
   exact Iff.rfl)
theorem MZ (w:Wf h)(sm:Small M)(gd:Good M)(r:StRow h (.slice a n c) M.states):FW SS 41 [.agg ⟨bu M a n c⟩] h (uQ h M n):=by
 obtain ⟨mb,ok⟩:=cQ w r
 have hl:=mb.len
 have hn:n<=300:=by rw [hl]; exact sm.sts
 refine MF (bu M a n c) h _ ⟨_,e8 M a n c,_,aS _,_,_,_,mb.l3,_,_,_,VI n (by omega),_,_,_,VI n (by omega),_,Wm,_,Wm,?_⟩
 generalize h.push (Bm M a n c)=g0 at *
 have w0:=ok.wf
 obtain ⟨u14,s14,u15,s15,ub0⟩:=Fc w0 M n
 refine ⟨u14,s14,u15,s15,?_⟩
 have mbF:=mb.ok ub0.us.ok
 refine ⟨_,aS _,_,_,_,mbF.l3,?_⟩
 refine tA (bu M a n c) h.next (g0.next+4) (g0.next+5) a n c (Xm g0 M n) (uQ h M n) (fun mz i e en ec=> ?_) n (i:=0) (e:=none) (en:=0) (ec:=0) ⟨by omega,rfl,_,_,0,ub0,?_,?_⟩
 rotate_left
 ·rw [List.getElem?_replicate,if_pos (by omega)]; rfl
 ·rw [List.drop_zero]; have:=sm.tot; omega
 intros; rename_i gg hi
 obtain ⟨f1,f2,vs,F,cN,ub,hve,hcN⟩:=hi
 have okg:=ub.us.ok
 refine ae (fun q1=> ?_) (fun q1=> ?_)
 ·have q1:=dT q1
  obtain ⟨s,hs⟩:=vN (M:=M) (i:=i) (by omega)
  obtain ⟨b,o,x',y,z,e1,e2,e3,e4,ar⟩:=mb.row.at2 okg hs
  obtain ⟨l1,l2,l3⟩:=de sm hs
  have hy:=ar.len
  have hd:lk (M.states.drop i)=s.arcs.length+lk (M.states.drop (i+1)):=by rw [bj hs,lK]
  obtain ⟨u,p1,p2,p3⟩:=D8 okg.wf s.f x' y z
  refine ⟨_,e1,_,e2,_,Mp,u,p1,_,rv _ _,_,p3.l0,?_⟩
  have U2:=ub.us.ext p2
  have B4:=ub.b4.ok p2
  have B5:=ub.b5.ok p2
  have xlt:=ub.us.xlt
  have hfl:=ub.us.fam
  have wgg:=okg.wf
  generalize u.app (gg.push LK)=g2 at *
  refine ae (fun q2=> ?_) (fun q2=> ?_)
  ·have q2:s.f≠[]:=by simpa using q2
   have op:=(Ok.refl U2.ok.wf).push (.cells [.int .i64 (i:Int)] 3 1 true)
   have kp:=aZ g2 (.cells [.int .i64 (i:Int)] 3 1 true)
   have U3:=U2.ext op
   obtain ⟨le,hle⟩: ∃ le,F[2*n]?=some le:=⟨_,gE (by rw [ub.us.len]; omega)⟩
   have hlel:=ub.dn.ln le (List.mem_of_getElem? hle)
   obtain ⟨b',n',c',u32,ap1,en1,fm4,ok4,kp4,nx4⟩:=U3.fam.snoc w0 U3.ok U3.xlt hve hle kp (by omega)
   have nX: ∀ k,V8 g0 k->bO (.slice e en ec)≠some k:=fun k hX e'=>U3.fam.out _ _ hve k e' hX
   have U4:=U3.tail rfl rfl fm4 ok4 (fun j' B' hj hX=>kp4 j' B' hj (nX j' hX)) nx4
   have B44:=kp4 _ _ (B4.ok op) (nX _ (.inr (.inr (.inl rfl))))
   have B54:=kp4 _ _ (B5.ok op) (nX _ (.inr (.inr (.inr rfl))))
   have S4:=kp4 _ _ (p3.ok op) (fun e'=>by have:=hfl.lt wgg hve e'; omega)
   refine ⟨_,_,_,rW _,b',n',c',u32,ap1,_,bq _ _,_,_,_,SB.l1 S4,?_⟩
   have hlen:(vs.length)=2*n+1:=by rw [ub.us.fam.len]; exact ub.us.len
   exact Is w0 gd hl hn hs (by omega) ar l1 _ b' n' c' mz f2 _ y (j:=0) ⟨by omega,by omega,_,_,cN+1,⟨U4,B44,B54,ub.dn.fin (by omega) hs q2 hle⟩,by rw [List.getElem?_set,if_pos rfl,if_pos (by omega)],by omega⟩
  ·have q2:s.f=[]:=by simpa using q2
   refine ⟨_,bq _ _,_,_,_,p3.l1,?_⟩
   exact Is w0 gd hl hn hs (by omega) ar l1 _ e en ec mz f2 _ y (j:=0) ⟨by omega,by omega,vs,F,cN+1,⟨U2,B4,B5,ub.dn.nofin hs q2⟩,hve,by omega⟩
 ·have q1:=dF q1
  obtain rfl:n=i:=by omega
  have mb2:=mb.ok okg
  have hst0:=gd.start0
  have hst1:=gd.start1
  obtain ⟨S,hS⟩: ∃ S:Nat,M.start=(S:Int):=⟨M.start.toNat,by omega⟩
  have hSn:S < n:=by omega
  have hSt:M.start.toNat=S:=by omega
  have l1:=mb2.l1
  rw [hS] at l1
  have op:=(Ok.refl okg.wf).push (.cells [.int .i64 (S:Int)] 3 1 true)
  have kp:=aZ gg (.cells [.int .i64 (S:Int)] 3 1 true)
  refine ⟨_,nn _,_,l1,_,_,_,rW _,?_⟩
  have U3:=ub.us.ext op
  have B4:=ub.b4.ok op
  have B5:=ub.b5.ok op
  have rf:Rd (gg.push (.cells [.int .i64 (S:Int)] 3 1 true)) 3 (.slice (some ⟨gg.next,0,none⟩) 1 1) ([S].map iv):= .inr ⟨gg.next,0,_,1,true,rfl,kp,rfl⟩
  have okh:=ok.trans (okg.trans op)
  generalize gg.push (.cells [.int .i64 (S:Int)] 3 1 true)=h1 at *
  have w1:=okh.wf
  have adj1:=U3.adj (r:=0) (by omega)
  have adj2:=U3.adj (r:=1) (by omega)
  have hA1: ∀ {y:Nat}{l:List Nat},((F.drop (0*n)).take n)[y]?=some l->y < n/\l.length<=2300/\ ∀ x,x∈l↔dl M y x:=fun {y l} hy=>by
   rw [List.getElem?_take] at hy
   split at hy
   ·next hyn=>
    rw [List.getElem?_drop] at hy
    refine ⟨hyn,by have:=ub.dn.ln l (List.mem_of_getElem? hy); omega,fun x=> ?_⟩
    rw [ub.dn.fw y l hyn hy x,gi]
    exact ⟨fun c=>c.2,fun c=>⟨hyn,c⟩⟩
   ·cases hy
  have hA2: ∀ {y:Nat}{l:List Nat},((F.drop (1*n)).take n)[y]?=some l->y < n/\l.length<=2300/\ ∀ x,x∈l↔dl M x y:=fun {y l} hy=>by
   rw [List.getElem?_take] at hy
   split at hy
   ·next hyn=>
    rw [List.getElem?_drop] at hy
    refine ⟨hyn,by have:=ub.dn.ln l (List.mem_of_getElem? hy); omega,fun x=> ?_⟩
    rw [ub.dn.bk y l hyn hy x,gi]
    exact ⟨fun c=>c.2,fun c=>⟨by rw [hl]; exact ol c,c⟩⟩
   ·cases hy
  have hE1: ∀ y x,Ck ((F.drop (0*n)).take n) y x↔dl M y x:=fun y x=>by
   unfold Ck
   rw [gD]
   cases he:((F.drop (0*n)).take n)[y]? with
   | some l=>exact (hA1 he).2.2 x
   | none=>
    refine ⟨fun c=>(by cases c),fun c=> ?_⟩
    have:=ol c
    rw [List.getElem?_eq_none_iff,adj1.1] at he
    omega
  have hE2: ∀ y x,Ck ((F.drop (1*n)).take n) y x↔dl M x y:=fun y x=>by
   unfold Ck
   rw [gD]
   cases he:((F.drop (1*n)).take n)[y]? with
   | some l=>exact (hA2 he).2.2 x
   | none=>
    refine ⟨fun c=>(by cases c),fun c=> ?_⟩
    have:=KB gd c
    rw [List.getElem?_eq_none_iff,adj2.1] at he
    omega
  obtain ⟨le,hle⟩: ∃ le,F[2*n]?=some le:=⟨_,gE (by rw [ub.us.len]; omega)⟩
  have hlel:=ub.dn.ln le (List.mem_of_getElem? hle)
  have ren:Rd h1 3 (.slice e en ec) (le.map iv):=(U3.fam.own _ _ _ hve hle).rd
  have hmem: ∀ x,x∈le↔rN M x:=fun x=>by
   rw [ub.dn.en le hle x]
   refine ⟨fun c=>c.2,fun c=>⟨?_,c⟩⟩
   obtain ⟨s,h2,_⟩:=c
   have:=(List.getElem?_eq_some_iff.1 h2).1
   omega
  refine (DE w1 (by omega) adj1.1 (fun l hl' x hx=> ?_) (fun l hl'=> ?_) (PA w1 B4 adj1) rf (fun x hx=> ?_) (by simp)).mono ?_
  ·obtain ⟨y,hy⟩:=List.mem_iff_getElem?.1 hl'
   have:=KB gd ((hA1 hy).2.2 x |>.1 hx); omega
  ·obtain ⟨y,hy⟩:=List.mem_iff_getElem?.1 hl'
   have:=(hA1 hy).2.1; omega
  ·rw [List.mem_singleton] at hx; omega
  rintro _ g3 ⟨kl,L1,rfl,br1,hL1⟩
  refine ⟨_,_,_,rfl,?_⟩
  have o3:=br1.row.ok
  refine (DE o3.wf (by omega) adj2.1 (fun l hl' x hx=> ?_) (fun l hl'=> ?_) (QF o3.wf (B5.ok o3) (adj2.ok o3)) (ren.ok o3) (fun x hx=> ?_) (by omega)).mono ?_
  ·obtain ⟨y,hy⟩:=List.mem_iff_getElem?.1 hl'
   have:=ol ((hA2 hy).2.2 x |>.1 hx); omega
  ·obtain ⟨y,hy⟩:=List.mem_iff_getElem?.1 hl'
   have:=(hA2 hy).2.1; omega
  ·obtain ⟨s,h2,_⟩:=(hmem x).1 hx
   have:=(List.getElem?_eq_some_iff.1 h2).1
   omega
  rintro _ g4 ⟨kr,L2,rfl,br2,hL2⟩
  refine ⟨_,_,_,rfl,?_⟩
  have hne:kr≠kl:=by have:=br1.row.lt; have:=br2.row.new; omega
  have q1: ∀ x,L1.getD x false=true↔Num.Rch (dl M) (fun y=>y=M.start.toNat) x:=fun x=>by
   rw [hL1 x]; exact C5 hE1 (fun x=>by rw [List.mem_singleton,hSt]) x
  have q2: ∀ x,L2.getD x false=true↔Num.Rch (fun y x=>dl M x y) (rN M) x:=fun x=>by
   rw [hL2 x]; exact C5 hE2 hmem x
  exact Gr (n:=n) w1 q1 q2 br2.len hne hn (uQ h M n) (fun v g' ⟨k1,L,e1,e2,e3⟩=>⟨k1,L,e1,e2.base okh,e3⟩) (bu M a n c) n (i:=0) ⟨by omega,rfl,L1,br1.trans br2.row.ok,br2.row.row,fun x=>by rw [if_neg (Nat.not_lt_zero _)]⟩
noncomputable def vy (M:Mach):Bool:=bV M && !(@decide (KR M M.start.toNat) (Classical.propDecidable _))
theorem G1 {b:Bool}{p:Prop}(h:b=true↔p):b=@decide p (Classical.propDecidable _):=by
 cases b with
 | true=>exact (@decide_eq_true p (Classical.propDecidable _) (h.1 rfl)).symm
 | false=>exact (@decide_eq_false p (Classical.propDecidable _) (fun c=>by cases h.2 c)).symm
theorem L7 (tb:Tab h)(w:Wf h)(sm:Small M)(r:StRow h (.slice a n c) M.states):FW SS 18 [.agg ⟨bu M a n c⟩] h (fun v h'=>v = .bool (vy M)/\Ok h h'):=by
 obtain ⟨mb,ok⟩:=cQ w r
 refine L8 (bu M a n c) h _ ⟨_,e8 M a n c,?_⟩
 generalize h.push (Bm M a n c)=g at *
 have oR:=(Ok.refl ok.wf).room 12
 have mbR:=mb.ok oR
 have okR:=ok.trans oR
 refine ⟨_,mbR.all,(pV (tb.ok okR) okR.wf sm mbR.row).mono ?_⟩
 rintro _ g2 ⟨rfl,o2⟩
 have ok2:=okR.trans o2
 have mb2:=mbR.ok o2
 refine ⟨_,rfl,ae (fun q=> ?_) (fun q=>⟨?_,ok2⟩)⟩
 rotate_left
 ·unfold vy; rw [q]; rfl
 have gd:=pj q
 have hl:=mb2.len
 have h0:=gd.start0
 have h1:=gd.start1
 refine ⟨_,mb2.all,(MZ ok2.wf sm gd mb2.row).mono ?_⟩
 rintro _ g3 ⟨kl,L,rfl,br,hL⟩
 have mb3:=mb2.ok br.row.ok
 obtain ⟨x1,x2⟩:=jM (c:=n) br.row.row br.len (x:=M.start.toNat) (by omega)
 rw [show ((M.start.toNat:Nat):Int)=M.start by omega] at x1
 refine ⟨_,_,_,rfl,_,nn _,_,mb3.l1,_,x1,_,x2,⟨mb2.l1,uS _⟩,?_,ok2.trans br.row.ok⟩
 unfold vy
 rw [q,Bool.true_and,G1 (hL M.start.toNat (by omega))]
end
end
section
structure Se (hb:Heap)(R:Nat)(kt:Nat->Nat)(N:Nat)(X:Nat->Prop)(kl:Nat)(vs:List Value)(F:List (List Nat))(L:List Bool)(T:List Nat)(tv:Value)(g:Heap):Prop where
 us:Us hb R kt N X vs F g
 br:BR hb kl N L g
 xk:X kl
 nk: ∀ r,r < R->kt r≠kl
 hT:F[R*N]?=some T
 hv:vs[R*N]?=some tv
section
variable {hb g:Heap} {R:Nat} {kt:Nat->Nat} {N:Nat} {X:Nat->Prop} {kl:Nat} {vs:List Value} {F:List (List Nat)} {L:List Bool} {T:List Nat} {tv:Value}
theorem Se.own (s:Se hb R kt N X kl vs F L T tv g):OwnG hb g 3 tv (T.map iv):=s.us.fam.own _ _ _ s.hv s.hT
theorem Se.slc (s:Se hb R kt N X kl vs F L T tv g): ∃ (a:Option Addr)(c:Nat),tv = .slice a T.length c:=by
 obtain ⟨a,c,h⟩:=s.own.slc
 rw [lM] at h
 exact ⟨a,c,h⟩
theorem Se.get (s:Se hb R kt N X kl vs F L T tv g){x:Nat}(hx:x < N):af SS.P 46 (.slice (some ⟨kl,0,none⟩) N N) (.int .i64 (x:Int))=some (.pointer (some ⟨kl,x,none⟩))/\ah SS.P 4 g (.pointer (some ⟨kl,x,none⟩))=some (.bool (L.getD x false)):=jM s.br.row.row s.br.len hx
theorem Se.see (w:Wf hb)(s:Se hb R kt N X kl vs F L T tv g){x:Nat}(hx:x < N)(hT:T.length<=100000):
  ∃ u:Upd,al SS.P 4 (.pointer (some ⟨kl,x,none⟩)) (.bool true) g=some (undef,u)/\Ok hb (u.app g)/\ ∃ (b:Option Addr)(n c:Nat)(u2:Upd),aB SS.P 48 48 tv (.slice (some ⟨(u.app g).next,0,none⟩) 1 1) ((u.app g).push (.cells [.int .i64 (x:Int)] 3 1 true))=some (.slice b n c,u2)/\
   Se hb R kt N X kl (vs.set (R*N) (.slice b n c)) (F.set (R*N) (T++[x])) (L.set x true) (T++[x]) (.slice b n c) (u2.app ((u.app g).push (.cells [.int .i64 (x:Int)] 3 1 true))):=by
 obtain ⟨r1,r2,r3⟩:=s.br.get (c:=N) (x:=(x:Int)) (by omega) (by omega)
 rw [Int.toNat_natCast] at r3
 obtain ⟨u,s1,s2,s3⟩:=r3 true w
 refine ⟨u,s1,s2.row.ok,?_⟩
 have hkeep: ∀ (k:Nat)(B:Blk),k≠kl->g.get k=some B->(u.app g).get k=some B:=fun k B hk hB=>s3 k B hB hk
 have U1:Us hb R kt N X vs F (u.app g):=⟨fun r hr=>hkeep _ _ (s.nk r hr) (s.us.cc r hr),s.us.fam.keep fun k B hX hB=>hkeep k B (fun c=>hX (c ▸ s.xk)) hB,s2.row.ok,s.us.len,s.us.xt,s.us.inj,fun k hX=>by
  obtain ⟨e1,e2⟩:True/\g.next<=(u.app g).next:=⟨trivial,by
   have e:=s1
   rw [zZ SP s.br.row.row (by rw [lM,s.br.len]; exact hx) rfl rfl] at e
   obtain rfl:Upd.set kl _=u:=by injection e with e; injection e with _ e
   exact Nat.le_refl _⟩
  exact Nat.lt_of_lt_of_le (s.us.xlt k hX) e2⟩
 generalize u.app g=g1 at *
 have op:=(Ok.refl s2.row.ok.wf).push (.cells [.int .i64 (x:Int)] 3 1 true)
 have kp:=aZ g1 (.cells [.int .i64 (x:Int)] 3 1 true)
 have U2:=U1.ext op
 have br2:=s2.trans op
 obtain ⟨b,n,c,u2,a1,a2,fm,ok4,kp4,nx4⟩:=U2.fam.snoc w U2.ok U2.xlt s.hv s.hT kp hT
 have nX: ∀ k,X k->bO tv≠some k:=fun k hX e=>U2.fam.out _ _ s.hv k e hX
 have U4:=U2.tail rfl rfl fm ok4 (fun j B hj hX=>kp4 j B hj (nX j hX)) nx4
 refine ⟨b,n,c,u2,a1,U4,⟨br2.len,⟨kp4 _ _ br2.row.row (nX _ s.xk),br2.row.new,ok4⟩⟩,s.xk,s.nk,?_,?_⟩
 ·rw [List.getElem?_set,if_pos rfl,if_pos (by rw [s.us.len]; omega)]
 ·rw [List.getElem?_set,if_pos rfl,if_pos (by rw [s.us.fam.len,s.us.len]; omega)]
theorem Se.pop (s:Se hb R kt N X kl vs F L T tv g)(h0:0 < T.length): ∃ (b:Option Addr)(m d:Nat),aL SS.P 48 tv (some (.int .i64 1)) none none g=some (.slice b m d)/\
  Se hb R kt N X kl (vs.set (R*N) (.slice b m d)) (F.set (R*N) (T.drop 1)) L (T.drop 1) (.slice b m d) g:=by
 obtain ⟨b,m,d,e1,e2,e3⟩:=s.own.from_ mV TI (z:=1) (by rw [lM]; omega) (by rw [lM]; omega)
 rw [<-List.map_drop] at e2
 refine ⟨b,m,d,e1,⟨fun r hr=> ?_,⟨by rw [List.length_set,List.length_set]; exact s.us.fam.len,fun i v l hv hl=> ?_,fun i j v1 v2 hij h1 h2 k hk1 hk2=> ?_,fun i v hv k hk=> ?_⟩,s.us.ok,by rw [List.length_set]; exact s.us.len,s.us.xt,s.us.inj,s.us.xlt⟩,s.br,s.xk,s.nk,?_,?_⟩
 ·have h2:(r+1)*N<=R*N:=Nat.mul_le_mul_right _ hr
  rw [Nat.add_mul,Nat.one_mul] at h2
  rw [s.us.cc r hr,m6 _ _ _ _ _ (.inr h2)]
 ·rcases aA hv with ⟨c1,rfl⟩ | ⟨c1,h1⟩
  ·rcases aA hl with ⟨_,rfl⟩ | ⟨c2,_⟩
   ·exact e2
   ·exact absurd c1 c2
  ·rcases aA hl with ⟨c2,_⟩ | ⟨_,h2⟩
   ·exact absurd c2 c1
   ·exact s.us.fam.own i v l h1 h2
 ·rcases aA h1 with ⟨c1,rfl⟩ | ⟨c1,h1⟩
  ·rcases aA h2 with ⟨c2,_⟩ | ⟨c2,h2⟩
   ·exact hij (by rw [c1,c2])
   ·rw [e3] at hk1
    exact s.us.fam.dis _ j _ v2 (fun c=>c2 c.symm) s.hv h2 k hk1 hk2
  ·rcases aA h2 with ⟨c2,rfl⟩ | ⟨c2,h2⟩
   ·rw [e3] at hk2
    exact s.us.fam.dis _ i _ v1 (fun c=>c1 c.symm) s.hv h1 k hk2 hk1
   ·exact s.us.fam.dis i j v1 v2 hij h1 h2 k hk1 hk2
 ·rcases aA hv with ⟨c1,rfl⟩ | ⟨c1,h1⟩
  ·rw [e3] at hk; exact s.us.fam.out _ _ s.hv k hk
  ·exact s.us.fam.out i v h1 k hk
 ·rw [List.getElem?_set,if_pos rfl,if_pos (by rw [s.us.len]; omega)]
 ·rw [List.getElem?_set,if_pos rfl,if_pos (by rw [s.us.fam.len,s.us.len]; omega)]
end
theorem zm {T:List Nat}(h:0 < T.length): ∃ s,T[0]?=some s/\(∀ x∈T.drop 1,x∈T)/\(∀ x∈T,x∈T.drop 1\/x=s)/\s∈T/\(T.drop 1).length+1=T.length:=by
 cases T with
 | nil=>simp at h
 | cons s T=>exact ⟨s,rfl,fun x hx=>List.mem_cons_of_mem _ hx,fun x hx=>(List.mem_cons.1 hx).symm,List.mem_cons_self ..,by simp⟩
section
variable {h:Heap} {M:Mach} {a:Option Addr} {n c k:Nat}
structure Sl (E:Nat->Nat->Prop)(F0:Nat->Prop)(N:Nat)(ex:Nat->Prop)(L:List Bool)(T:List Nat)(mz:Nat):Prop where
 inv:Num.SInv E F0 N L T ex
 bd:2*Num.cntF L+T.length<=2*N
 ms:2*Num.cntF L+T.length<=mz
def YZ (hb:Heap)(M:Mach)(n kl S:Nat)(mz:Nat)(t:Option Addr)(tn tc:Nat)(g:Heap):Prop:= ∃ vs F L T,Se hb 0 (fun _=>0) n (fun k=>k=kl) kl vs F L T (.slice t tn tc) g/\Sl (dl M) (fun y=>y=S) n (fun _=>False) L T mz/\L.getD S false=true
def Zj (hb:Heap)(M:Mach)(n kl S:Nat)(st:MSt)(s mz:Nat)(mz2 j:Nat)(t:Option Addr)(tn tc:Nat)(g:Heap):Prop:=j<=st.arcs.length/\mz2=st.arcs.length - j/\ ∃ vs F L T,Se hb 0 (fun _=>0) n (fun k=>k=kl) kl vs F L T (.slice t tn tc) g/\Sl (dl M) (fun y=>y=S) n (fun y=>y=s) L T (mz - 1)/\L.getD S false=true/\(∀ z∈(kW st).take j,L.getD z false=true)/\Num.Rch (dl M) (fun y=>y=S) s
def Vy (h:Heap)(n:Nat)(P:Nat->Prop):VH:=fun v h'=> ∃ kl L,v = .slice (some ⟨kl,0,none⟩) n n/\BR h kl n L h'/\ ∀ x,L.getD x false=true↔P x
set_option linter.defProp false in
def S0 {hb:Heap}(w:Wf hb)(gd:Good M)(hnM:n=M.states.length)(hn:n<=300)(mb0:MB hb k M a n c){kl S s:Nat}{st:MSt}(hs:M.states[s]?=some st)(hsl:st.arcs.length<=2000)(mv:List Value)(mz:Nat)(hmz:0 < mz)(Q:VH):=
 sd mv k n kl s (YZ hb M n kl S) mz (Zj hb M n kl S st s mz) Q (by
  intro mz2 j t tn tc; intros; rename_i g hin
  obtain ⟨f1,f2,vs,F,L,T,se,sl,hS,hz,hr⟩:=hin
  have ok:=se.us.ok
  have mb:=mb0.ok ok
  obtain ⟨b,o,x',y,z,e1,e2,e3,e4,ar⟩:=mb.row.at_ hs
  have hm:=ar.len
  refine ⟨_,aS _,_,_,_,mb.l3,_,e1,_,bq _ _,_,_,_,e4,ae (fun g1=> ?_) (fun g1=> ?_)⟩
  ·have g1:=dT g1
   obtain ⟨q,hq⟩: ∃ q,st.arcs[j]?=some q:=⟨_,gE (by omega)⟩
   obtain ⟨bb,oo,d1,d2,d3,d4,d5,d6⟩:=ar.at_ hq
   have hin:=gd.arcs st (List.mem_of_getElem? hs) q (List.mem_of_getElem? hq)
   obtain ⟨X,hX⟩: ∃ X:Nat,q.t=(X:Int):=⟨q.t.toNat,by have:=hin.t0; omega⟩
   have hXn:X < n:=by have:=hin.t1; omega
   have hXq:q.t.toNat=X:=by omega
   rw [hX] at d6
   have hq':(kW st)[j]?=some X:=by unfold kW; rw [List.getElem?_map,hq]; exact congrArg some hXq
   have ht:(kW st).take (j+1)=(kW st).take j++[X]:=by rw [List.take_add_one,hq']; rfl
   have hE:dl M s X:=⟨st,hs,List.mem_of_getElem? hq'⟩
   obtain ⟨x1,x2⟩:=se.get hXn
   have hw:=aJ (i:=j) (n:=st.arcs.length) (by omega) (by omega)
   have bd:=sl.bd
   have ms:=sl.ms
   refine ⟨_,aS _,_,_,_,mb.l3,_,e1,_,bq _ _,_,_,_,e4,_,d1,_,mZ _ _,_,d6,_,x1,_,x2,ae (fun g2=> ?_) (fun g2=> ?_)⟩
   ·rw [Bool.not_eq_true'] at g2
    obtain ⟨u,s1,s2,b',n',c',u2,s3,s4⟩:=se.see w hXn (by omega)
    obtain ⟨i1,i2⟩:=sl.inv.see hXn (.step hr hE) g2
    have hl:X < L.length:=by rw [sl.inv.len]; exact hXn
    refine ⟨_,x1,u,s1,_,_,_,rW _,b',n',c',u2,s3,?_⟩
    rw [hw]
    refine j7 (mz2 - 1) (by omega) ⟨by omega,by omega,_,_,_,_,s4,⟨i1,by rw [List.length_append,List.length_singleton]; omega,by rw [List.length_append,List.length_singleton]; omega⟩,?_,fun z hz'=> ?_,hr⟩
    ·rw [Num.getD_setT hl]; split
     ·rfl
     ·exact hS
    ·rw [Num.getD_setT hl]; split
     ·rfl
     ·next hne=>
      rw [ht,List.mem_append,List.mem_singleton] at hz'
      rcases hz' with h1 | h1
      ·exact hz z h1
      ·exact absurd h1 hne
   ·rw [Bool.not_eq_false'] at g2
    rw [hw]
    refine j7 (mz2 - 1) (by omega) ⟨by omega,by omega,vs,F,L,T,se,sl,hS,fun z hz'=> ?_,hr⟩
    rw [ht,List.mem_append,List.mem_singleton] at hz'
    rcases hz' with h1 | h1
    ·exact hz z h1
    ·rw [h1]; exact g2
  ·have g1:=dF g1
   rw [List.take_of_length_le (by unfold kW; rw [lM]; omega)] at hz
   refine rS (mz - 1) (by omega) ⟨vs,F,L,T,se,⟨sl.inv.done fun z hE=> ?_,sl.bd,sl.ms⟩,hS⟩
   obtain ⟨s',h1,h2⟩:=hE
   rw [hs] at h1
   obtain rfl:=oI h1
   exact hz z h2)
theorem Jn (w:Wf h)(sm:Small M)(gd:Good M)(r:StRow h (.slice a n c) M.states):FW SS 64 [.agg ⟨bu M a n c⟩] h (Vy h n (Num.Rch (dl M) (fun y=>y=M.start.toNat))):=by
 obtain ⟨mb,ok⟩:=cQ w r
 have hl:=mb.len
 have hn:n<=300:=by rw [hl]; exact sm.sts
 have hst0:=gd.start0
 have hst1:=gd.start1
 obtain ⟨S,hS⟩: ∃ S:Nat,M.start=(S:Int):=⟨M.start.toNat,by omega⟩
 have hSn:S < n:=by omega
 have hSt:M.start.toNat=S:=by omega
 rw [hSt]
 refine JP (bu M a n c) h _ ⟨_,e8 M a n c,_,aS _,_,_,_,mb.l3,_,_,_,Sh n (by omega),?_⟩
 generalize h.push (Bm M a n c)=g0 at *
 have w0:=ok.wf
 have b0:=BR.new w0 n
 have mb1:=mb.ok b0.row.ok
 have l1:=mb1.l1
 rw [hS] at l1
 obtain ⟨x1,x2,x3⟩:=b0.get (c:=n) (x:=(S:Int)) (by omega) (by omega)
 obtain ⟨u,s1,s2,s3⟩:=x3 true w0
 rw [Int.toNat_natCast] at s2
 refine ⟨_,nn _,_,l1,_,x1,u,s1,?_⟩
 generalize u.app (g0.push (.cells ((List.replicate n false).map Value.bool) 4 1 true))=g2 at *
 have mb2:=mb.ok s2.row.ok
 have l2:=mb2.l1
 rw [hS] at l2
 refine ⟨_,nn _,_,l2,_,_,_,rW _,?_⟩
 have op:=(Ok.refl s2.row.ok.wf).push (.cells [.int .i64 (S:Int)] 3 1 true)
 have kp:=aZ g2 (.cells [.int .i64 (S:Int)] 3 1 true)
 have b3:=s2.trans op
 have hlt:=s2.row.lt
 have hnx:g0.next<=g2.next:=s2.row.ok.nx
 have se:Se g0 0 (fun _=>0) n (fun k=>k=g0.next) g0.next [.slice (some ⟨g2.next,0,none⟩) 1 1] [[S]] ((List.replicate n false).set S true) [S] (.slice (some ⟨g2.next,0,none⟩) 1 1) (g2.push (.cells [.int .i64 (S:Int)] 3 1 true)):=by
  refine ⟨⟨fun r hr=>absurd hr (Nat.not_lt_zero _),⟨rfl,fun i v l hv hl'=> ?_,fun i j v v' hij h1 h2=> ?_,fun i v hv k hk=> ?_⟩,b3.row.ok,by simp,fun r hr=>absurd hr (Nat.not_lt_zero _),fun r _ hr=>absurd hr (Nat.not_lt_zero _),fun k hX=>by rw [hX]; exact b3.row.lt⟩,b3,rfl,fun r hr=>absurd hr (Nat.not_lt_zero _),by rw [Nat.zero_mul]; rfl,by rw [Nat.zero_mul]; rfl⟩
  ·cases i with
   | zero=>
    obtain rfl:=oI hv
    obtain rfl:=oI hl'
    exact OwnG.built (vs:=[.int .i64 (S:Int)]) kp hnx (by simp [bm])
   | succ i=>cases hv
  ·cases i with
   | zero=>cases j with
    | zero=>exact absurd rfl hij
    | succ j=>cases h2
   | succ i=>cases h1
  ·cases i with
   | zero=>
    obtain rfl:=oI hv
    have:g2.next=k:=oI hk
    show ¬ k=g0.next
    omega
   | succ i=>cases hv
 have hc:Num.cntF (List.replicate n false)=n:=by simp [Num.cntF]
 obtain ⟨i1,i2⟩:=(Num.sinv_new (E:=dl M) (F:=fun y=>y=S) n (fun _=>False)).see hSn (.base rfl) (by rw [gD,List.getElem?_replicate]; split <;> rfl)
 refine rX (bu M a n c) h.next n g0.next (YZ g0 M n g0.next S) _ (fun mz t tn tc=> ?_) (2*n) ⟨_,_,_,_,se,⟨i1,by simp; omega,by simp; omega⟩,by rw [Num.getD_setT (by rw [List.length_replicate]; exact hSn),if_pos rfl]⟩
 intros; rename_i gg hi
 obtain ⟨vs,F,L,T,se,sl,hLS⟩:=hi
 have htn:tn=T.length:=by
  obtain ⟨a',c',e⟩:=se.slc
  injection e
 refine ae (fun q1=> ?_) (fun q1=> ?_)
 ·have q1:=dT q1
  obtain ⟨s,hs,p1,p2,p3,p4⟩:=zm (T:=T) (by omega)
  obtain ⟨p,e1,e2⟩:=V4 se.own.rd hs
  obtain ⟨b,m,d,e3,se2⟩:=se.pop (by omega)
  have hsN:=(sl.inv.tin s p3).1
  obtain ⟨st,hst⟩:=vN (M:=M) (i:=s) (by omega)
  have bd:=sl.bd
  have ms:=sl.ms
  refine ⟨_,e1,_,e2,b,m,d,e3,?_⟩
  exact S0 w0 gd hl hn mb hst (de sm hst).1 _ mz (by omega) _ st.arcs.length (j:=0) ⟨by omega,by omega,_,_,L,_,se2,⟨sl.inv.take p1 p2,by omega,by omega⟩,hLS,fun z hz=>(by rw [List.take_zero] at hz; cases hz),sl.inv.snd s (sl.inv.tin s p3).2⟩
 ·have q1:=dF q1
  obtain rfl:T=[]:=List.eq_nil_of_length_eq_zero (by omega)
  exact ⟨_,L,rfl,se.br.base ok,sl.inv.final fun x hx=>by rw [hx]; exact hLS⟩
end
end
section
section
variable {hb g:Heap} {R:Nat} {kt:Nat->Nat} {N:Nat} {X:Nat->Prop} {kl:Nat} {vs:List Value} {F:List (List Nat)} {L:List Bool} {T:List Nat} {tv:Value}
theorem Se.add (w:Wf hb)(s:Se hb R kt N X kl vs F L T tv g){r t:Nat}(hr:r < R)(ht:t < N)(x:Nat)(hF: ∀ l∈F,l.length<=100000):
  ∃ (l:List Nat)(a:Option Addr)(c:Nat),F[r*N+t]?=some l/\af SS.P 72 (.slice (some ⟨kt r,0,none⟩) N N) (.int .i64 (t:Int))=some (.pointer (some ⟨kt r,t,none⟩))/\ah SS.P 48 g (.pointer (some ⟨kt r,t,none⟩))=some (.slice a l.length c)/\
  ∃ (b:Option Addr)(n' c':Nat)(u:Upd),aB SS.P 48 48 (.slice a l.length c) (.slice (some ⟨g.next,0,none⟩) 1 1) (g.push (.cells [.int .i64 (x:Int)] 3 1 true))=some (.slice b n' c',u)/\
  ∃ u2:Upd,al SS.P 48 (.pointer (some ⟨kt r,t,none⟩)) (.slice b n' c') (u.app (g.push (.cells [.int .i64 (x:Int)] 3 1 true)))=some (undef,u2)/\
   Se hb R kt N X kl (vs.set (r*N+t) (.slice b n' c')) (F.set (r*N+t) (l++[x])) L T tv (u2.app (u.app (g.push (.cells [.int .i64 (x:Int)] 3 1 true)))):=by
 obtain ⟨l,a,c,h1,h2,h3,h4⟩:=s.us.ld hr ht
 have op:=(Ok.refl s.us.ok.wf).push (.cells [.int .i64 (x:Int)] 3 1 true)
 have kp:=aZ g (.cells [.int .i64 (x:Int)] 3 1 true)
 have U2:=s.us.ext op
 have br2:=s.br.trans op
 obtain ⟨b,n',c',u,a1,a2,fm,ok4,kp4,nx4⟩:=U2.fam.snoc w U2.ok U2.xlt h2 h1 kp (hF l (List.mem_of_getElem? h1))
 have nX: ∀ k,X k->bO (.slice a l.length c)≠some k:=fun k hX e=>U2.fam.out _ _ h2 k e hX
 obtain ⟨u2,s1,U5,kp5⟩:=U2.put w hr ht rfl rfl fm ok4 (fun j B hj hX=>kp4 j B hj (nX j hX)) nx4
 have hlt:=Jr hr ht
 have h2':(r+1)*N<=R*N:=Nat.mul_le_mul_right _ hr
 rw [Nat.add_mul,Nat.one_mul] at h2'
 refine ⟨l,a,c,h1,h3,(h4 g s.us).1,b,n',c',u,a1,u2,s1,U5,⟨br2.len,kp5 _ _ (kp4 _ _ br2.row.row (nX _ s.xk)) (fun e=>s.nk r hr e.symm),br2.row.new,U5.ok⟩,s.xk,s.nk,?_,?_⟩
 ·rw [List.getElem?_set,if_neg (by omega)]; exact s.hT
 ·rw [List.getElem?_set,if_neg (by omega)]; exact s.hv
end
structure DB (M:Mach)(n i j cN:Nat)(F:List (List Nat)):Prop where
 bk: ∀ t l,t < n->F[0*n+t]?=some l-> ∀ x,x∈l↔Rv M i j x t
 ln: ∀ l∈F,l.length<=cN
theorem DB.arc {M:Mach}{n i j cN:Nat}{F:List (List Nat)}(d:DB M n i j cN F){s:MSt}{q:MArc}(hs:M.states[i]?=some s)(hq:s.arcs[j]?=some q){T:Nat}(hT:q.t.toNat=T){l:List Nat}(hl:F[0*n+T]?=some l):DB M n i (j+1) (cN+1) (F.set (0*n+T) (l++[i])):=by
 have b1:=d.ln l (List.mem_of_getElem? hl)
 refine ⟨fun t l' ht hl' x=> ?_,r6 d.ln (by rw [List.length_append,List.length_singleton]; omega)⟩
 rw [Al hs hq,hT]
 rcases aA hl' with ⟨e,rfl⟩ | ⟨e,hl'⟩
 ·obtain rfl:t=T:=by omega
  rw [List.mem_append,List.mem_singleton,d.bk _ l ht hl x]
  exact ⟨fun c=>c.imp id fun c=>⟨c,rfl⟩,fun c=>c.imp id fun c=>c.1⟩
 ·rw [d.bk t l' ht hl' x]
  exact ⟨.inl,fun c=>c.elim id fun c=>absurd (by rw [c.2]) e⟩
theorem DB.tail {M:Mach}{n i cN:Nat}{F:List (List Nat)}(d:DB M n i 0 cN F){l':List Nat}(hl:l'.length<=cN+1):DB M n i 0 (cN+1) (F.set (1*n) l'):=by
 refine ⟨fun t l ht hl' x=> ?_,r6 d.ln hl⟩
 rcases aA hl' with ⟨e,_⟩ | ⟨_,h⟩
 ·omega
 ·exact d.bk t l ht h x
theorem DB.next {M:Mach}{n i j cN:Nat}{F:List (List Nat)}(d:DB M n i j cN F){s:MSt}(hs:M.states[i]?=some s)(hj:s.arcs.length<=j):DB M n (i+1) 0 cN F:=
 ⟨fun t l ht hl x=>by rw [d.bk t l ht hl x,BH hs hj,gi],d.ln⟩
def TM (M:Mach):Nat->Nat->Prop:=fun y x=>dl M x y
section
variable {h:Heap} {M:Mach} {a:Option Addr} {n c k kl kb:Nat}
def eX (kl kb:Nat):Nat->Prop:=fun k=>k=kl\/k=kb
def Uf (hb:Heap)(M:Mach)(n kl kb i j i' cN:Nat)(t:Option Addr)(tn tc:Nat)(g:Heap):Prop:= ∃ vs F L T,Se hb 1 (fun _=>kb) n (eX kl kb) kl vs F L T (.slice t tn tc) g/\DB M n i j cN F/\Num.SInv (TM M) (rN M) n L T (fun _=>False)/\2*Num.cntF L+T.length<=2*n/\(∀ x,L.getD x false=true↔x < i'/\rN M x)
def Y3 (hb:Heap)(M:Mach)(n kl kb:Nat)(mz i:Nat)(t:Option Addr)(tn tc:Nat)(g:Heap):Prop:=i<=n/\mz=n - i/\ ∃ cN,Uf hb M n kl kb i 0 i cN t tn tc g/\cN+lk (M.states.drop i)+(n - i)<=2300
def Zf (hb:Heap)(M:Mach)(n kl kb:Nat)(st:MSt)(t:Option Addr)(tn tc i:Nat)(mz2 j:Nat)(g:Heap):Prop:=j<=st.arcs.length/\mz2=st.arcs.length - j/\ ∃ cN,Uf hb M n kl kb i j (i+1) cN t tn tc g/\cN+(st.arcs.length - j)+lk (M.states.drop (i+1))+(n - (i+1))<=2300
set_option linter.defProp false in
def KI {hb:Heap}(w:Wf hb)(gd:Good M)(hnM:n=M.states.length)(hn:n<=300)(mb0:MB hb k M a n c){i:Nat}{st:MSt}(hs:M.states[i]?=some st)(hi:i < n)(hsl:st.arcs.length<=2000)(mv:List Value)(t:Option Addr)(tn tc mz:Nat)(hmz:mz=n - i)(Q:VH):=
 sW mv k n kl kb t tn tc (Y3 hb M n kl kb) mz i (Zf hb M n kl kb st t tn tc i) Q (by
  intro mz2 j; intros; rename_i g hin
  obtain ⟨f1,f2,cN,⟨vs,F,L,T,se,db,iv',bd,hL⟩,hcN⟩:=hin
  have ok:=se.us.ok
  have mb:=mb0.ok ok
  obtain ⟨b,o,x',y,z,e1,e2,e3,e4,ar⟩:=mb.row.at_ hs
  have hm:=ar.len
  refine ⟨_,aS _,_,_,_,mb.l3,_,e1,_,bq _ _,_,_,_,e4,ae (fun g1=> ?_) (fun g1=> ?_)⟩
  ·have g1:=dT g1
   obtain ⟨q,hq⟩: ∃ q,st.arcs[j]?=some q:=⟨_,gE (by omega)⟩
   obtain ⟨bb,oo,d1,d2,d3,d4,d5,d6⟩:=ar.at_ hq
   have hin:=gd.arcs st (List.mem_of_getElem? hs) q (List.mem_of_getElem? hq)
   obtain ⟨Y,hY⟩: ∃ Y:Nat,q.t=(Y:Int):=⟨q.t.toNat,by have:=hin.t0; omega⟩
   have hYn:Y < n:=by have:=hin.t1; omega
   have hYq:q.t.toNat=Y:=by omega
   rw [hY] at d6
   obtain ⟨l,ra,rc,h1,h2,h3,b',n',c',u,a1,u2,a2,se2⟩:=se.add w (r:=0) (t:=Y) (by omega) hYn i (fun l hl=>by have:=db.ln l hl; omega)
   refine ⟨_,aS _,_,_,_,mb.l3,_,e1,_,bq _ _,_,_,_,e4,_,d1,_,mZ _ _,_,d6,_,h2,_,_,_,h3,_,_,_,rW _,b',n',c',u,a1,_,h2,u2,a2,?_⟩
   rw [aJ (i:=j) (n:=st.arcs.length) (by omega) (by omega)]
   exact tX (mz2 - 1) (by omega) ⟨by omega,by omega,cN+1,⟨_,_,L,T,se2,db.arc hs hq hYq h1,iv',bd,hL⟩,by omega⟩
  ·have g1:=dF g1
   rw [aJ hi (by omega)]
   exact uV (n - (i+1)) (by omega) ⟨by omega,rfl,cN,⟨vs,F,L,T,se,db.next hs (by omega),iv',bd,hL⟩,by omega⟩)
def Bks (M:Mach)(n:Nat)(F:List (List Nat)):Prop:= ∀ t l,t < n->F[0*n+t]?=some l->l.length<=2300/\ ∀ x,x∈l↔dl M x t
def Y4 (hb:Heap)(M:Mach)(n kl kb:Nat)(mz3:Nat)(t:Option Addr)(tn tc:Nat)(g:Heap):Prop:= ∃ vs F L T,Se hb 1 (fun _=>kb) n (eX kl kb) kl vs F L T (.slice t tn tc) g/\Sl (TM M) (rN M) n (fun _=>False) L T mz3/\(∀ x,rN M x->L.getD x false=true)/\Bks M n F
def Zk (hb:Heap)(M:Mach)(n kl kb s:Nat)(lS:List Nat)(mz3:Nat)(mz4 j:Nat)(t:Option Addr)(tn tc:Nat)(g:Heap):Prop:=j<=lS.length/\mz4=lS.length - j/\ ∃ vs F L T,Se hb 1 (fun _=>kb) n (eX kl kb) kl vs F L T (.slice t tn tc) g/\Sl (TM M) (rN M) n (fun y=>y=s) L T (mz3 - 1)/\(∀ x,rN M x->L.getD x false=true)/\Bks M n F/\F[0*n+s]?=some lS/\(∀ z∈lS.take j,L.getD z false=true)/\Num.Rch (TM M) (rN M) s
theorem Bks.tail {F:List (List Nat)}(b:Bks M n F)(l':List Nat):Bks M n (F.set (1*n) l'):=fun t l ht hl=>by
 rcases aA hl with ⟨e,_⟩ | ⟨_,h⟩
 ·omega
 ·exact b t l ht h
set_option linter.defProp false in
def P0 {hb:Heap}(w:Wf hb)(hn:n<=300)(hnM:n=M.states.length){s:Nat}(hsn:s < n){lS:List Nat}(mv:List Value)(mz3:Nat)(hmz:0 < mz3)(hll:lS.length<=2300)(hlS: ∀ x,x∈lS↔dl M x s)(Q:VH):=
 tq mv n kl kb s (Y4 hb M n kl kb) mz3 (Zk hb M n kl kb s lS mz3) Q (by
  intro mz4 j t tn tc; intros; rename_i g hin
  obtain ⟨f1,f2,vs,F,L,T,se,sl,hfin,bks,hFs,hz,hr⟩:=hin
  obtain ⟨l,ra,rc,h1,h2,h3,h4⟩:=se.us.ld (r:=0) (i:=s) (by omega) hsn
  rw [hFs] at h1
  obtain rfl:=oI h1
  obtain ⟨l1,l2⟩:=h4 g se.us
  refine ⟨_,h3,_,_,_,l1,ae (fun g1=> ?_) (fun g1=> ?_)⟩
  ·have g1:=dT g1
   obtain ⟨x,hx⟩: ∃ x,lS[j]?=some x:=⟨_,gE (by omega)⟩
   obtain ⟨p,e1,e2⟩:=V4 l2 hx
   have hE:TM M s x:=(hlS x).1 (List.mem_of_getElem? hx)
   have hxn:x < n:=by have:=ol hE; omega
   have ht:lS.take (j+1)=lS.take j++[x]:=by rw [List.take_add_one,hx]; rfl
   obtain ⟨x1,x2⟩:=se.get hxn
   have hw:=aJ (i:=j) (n:=lS.length) (by omega) (by omega)
   have bd:=sl.bd
   have ms:=sl.ms
   refine ⟨_,h3,_,_,_,l1,_,e1,_,e2,_,x1,_,x2,ae (fun g2=> ?_) (fun g2=> ?_)⟩
   ·rw [Bool.not_eq_true'] at g2
    obtain ⟨u,s1,s2,b',n',c',u2,s3,s4⟩:=se.see w hxn (by omega)
    obtain ⟨i1,i2⟩:=sl.inv.see hxn (.step hr hE) g2
    have hl:x < L.length:=by rw [sl.inv.len]; exact hxn
    refine ⟨_,x1,u,s1,_,_,_,rW _,b',n',c',u2,s3,?_⟩
    rw [hw]
    refine kM (mz4 - 1) (by omega) ⟨by omega,by omega,_,_,_,_,s4,⟨i1,by rw [List.length_append,List.length_singleton]; omega,by rw [List.length_append,List.length_singleton]; omega⟩,fun z hz'=> ?_,bks.tail _,?_,fun z hz'=> ?_,hr⟩
    ·rw [Num.getD_setT hl]; split
     ·rfl
     ·exact hfin z hz'
    ·rw [List.getElem?_set,if_neg (by omega)]; exact hFs
    ·rw [Num.getD_setT hl]; split
     ·rfl
     ·next hne=>
      rw [ht,List.mem_append,List.mem_singleton] at hz'
      rcases hz' with h1 | h1
      ·exact hz z h1
      ·exact absurd h1 hne
   ·rw [Bool.not_eq_false'] at g2
    rw [hw]
    refine kM (mz4 - 1) (by omega) ⟨by omega,by omega,vs,F,L,T,se,sl,hfin,bks,hFs,fun z hz'=> ?_,hr⟩
    rw [ht,List.mem_append,List.mem_singleton] at hz'
    rcases hz' with h1 | h1
    ·exact hz z h1
    ·rw [h1]; exact g2
  ·have g1:=dF g1
   rw [List.take_of_length_le (by omega)] at hz
   exact tT (mz3 - 1) (by omega) ⟨vs,F,L,T,se,⟨sl.inv.done fun z hE=>hz z ((hlS z).2 hE),sl.bd,sl.ms⟩,hfin,bks⟩)
set_option linter.defProp false in
def Sc {hb:Heap}(w:Wf hb)(okb:Ok h hb)(hn:n<=300)(hnM:n=M.states.length)(mv:List Value):=
 uB mv n kl kb (Y4 hb M n kl kb) (Vy h n (Num.Rch (TM M) (rN M))) (by
  intro mz3 t tn tc; intros; rename_i g hin
  obtain ⟨vs,F,L,T,se,sl,hfin,bks⟩:=hin
  have htn:tn=T.length:=by
   obtain ⟨a',c',e⟩:=se.slc
   injection e
  refine ae (fun q1=> ?_) (fun q1=> ?_)
  ·have q1:=dT q1
   obtain ⟨s,hs,p1,p2,p3,p4⟩:=zm (T:=T) (by omega)
   obtain ⟨p,e1,e2⟩:=V4 se.own.rd hs
   obtain ⟨b,m,d,e3,se2⟩:=se.pop (by omega)
   have hsN:=(sl.inv.tin s p3).1
   have bd:=sl.bd
   have ms:=sl.ms
   obtain ⟨lS,hlS⟩: ∃ lS,F[0*n+s]?=some lS:=⟨_,gE (by rw [se.us.len]; omega)⟩
   obtain ⟨b1,b2⟩:=bks s lS hsN hlS
   refine ⟨_,e1,_,e2,b,m,d,e3,?_⟩
   exact P0 w hn hnM hsN _ mz3 (by omega) b1 b2 _ lS.length (j:=0) ⟨by omega,by omega,_,_,L,_,se2,⟨sl.inv.take p1 p2,by omega,by omega⟩,hfin,bks.tail _,by rw [List.getElem?_set,if_neg (by omega)]; exact hlS,fun z hz=>(by rw [List.take_zero] at hz; cases hz),sl.inv.snd s (sl.inv.tin s p3).2⟩
  ·have q1:=dF q1
   obtain rfl:T=[]:=List.eq_nil_of_length_eq_zero (by omega)
   exact ⟨_,L,rfl,se.br.base okb,sl.inv.final hfin⟩)
theorem MG (w:Wf h)(sm:Small M)(gd:Good M)(r:StRow h (.slice a n c) M.states):FW SS 65 [.agg ⟨bu M a n c⟩] h (Vy h n (Num.Rch (TM M) (rN M))):=by
 obtain ⟨mb,ok⟩:=cQ w r
 have hl:=mb.len
 have hn:n<=300:=by rw [hl]; exact sm.sts
 refine NB (bu M a n c) h _ ⟨_,e8 M a n c,_,aS _,_,_,_,mb.l3,_,_,_,Sh n (by omega),?_⟩
 generalize h.push (Bm M a n c)=g0 at *
 have w0:=ok.wf
 have b0:=BR.new w0 n
 have hn1:(g0.push (.cells ((List.replicate n false).map Value.bool) 4 1 true)).next=g0.next+1:=rfl
 generalize g0.push (.cells ((List.replicate n false).map Value.bool) 4 1 true)=g1 at *
 have mb1:=mb.ok b0.row.ok
 refine ⟨_,aS _,_,_,_,mb1.l3,_,_,_,VI n (by omega),?_⟩
 have op:=(Ok.refl b0.row.ok.wf).push (iE n)
 have kp:=aZ g1 (iE n)
 have b3:=b0.trans op
 have hlt:=b3.row.lt
 have hlt2:=op.wf _ _ kp
 have hrep: ∀ {i:Nat}{v:Value},(List.replicate (n+1) ww)[i]?=some v->v=ww:=fun {i v} hl=>by
  rw [List.getElem?_replicate] at hl
  split at hl
  ·exact (oI hl).symm
  ·cases hl
 have hrepF: ∀ {i:Nat}{l:List Nat},(List.replicate (n+1) ([]:List Nat))[i]?=some l->l=[]:=fun {i l} hl=>by
  rw [List.getElem?_replicate] at hl
  split at hl
  ·exact (oI hl).symm
  ·cases hl
 have se:Se g0 1 (fun _=>g1.next) n (eX g0.next g1.next) g0.next (List.replicate (n+1) ww) (List.replicate (n+1) []) (List.replicate n false) [] (.slice none 0 0) (g1.push (iE n)):=by
  refine ⟨⟨fun r hr=> ?_,⟨by rw [List.length_replicate,List.length_replicate],fun i v l hv hl=> ?_,fun i j v v' _ hv _ k hk=> ?_,fun i v hv k hk=> ?_⟩,b3.row.ok,by rw [List.length_replicate]; omega,fun r hr=>⟨.inr rfl,by omega⟩,fun r r' hr hr' hne=>absurd (by omega) hne,fun k hX=> ?_⟩,b3,.inl rfl,fun r hr=>by omega,?_,?_⟩
  ·have:r=0:=by omega
   subst this
   rw [Nat.zero_mul,List.drop_zero,List.take_replicate,show min n (n+1)=n by omega]
   exact kp
  ·rw [hrep hv,hrepF hl]; exact OwnG.nil _ _ _
  ·rw [hrep hv] at hk; cases hk
  ·rw [hrep hv] at hk; cases hk
  ·rcases hX with rfl | rfl
   ·exact hlt
   ·exact hlt2
  ·rw [List.getElem?_replicate,if_pos (by omega)]
  ·rw [List.getElem?_replicate,if_pos (by omega)]; rfl
 have hc:Num.cntF (List.replicate n false)=n:=by simp [Num.cntF]
 have hf0: ∀ x,(List.replicate n false).getD x false=false:=fun x=>by rw [gD,List.getElem?_replicate]; split <;> rfl
 refine uT (bu M a n c) h.next n g0.next g1.next (Y3 g0 M n g0.next g1.next) _ (fun mz i t tn tc=> ?_) n (i:=0) (t:=none) (tn:=0) (tc:=0) ⟨by omega,rfl,0,⟨_,_,_,_,se,⟨fun t l ht hl x=> ?_,fun l hl=> ?_⟩,Num.sinv_new n _,by rw [hc]; simp,fun x=> ?_⟩,by rw [List.drop_zero]; have:=sm.tot; omega⟩
 rotate_left
 ·rw [hrepF hl,gi]; exact ⟨fun c=>(by cases c),fun c=>absurd c.1 (Nat.not_lt_zero _)⟩
 ·rw [List.eq_of_mem_replicate hl]; exact Nat.le_refl _
 ·rw [hf0]; exact ⟨fun c=>(by cases c),fun c=>absurd c.1 (Nat.not_lt_zero _)⟩
 intros; rename_i gg hi
 obtain ⟨f1,f2,cN,⟨vs,F,L,T,se,db,iv',bd,hL⟩,hcN⟩:=hi
 have mbg:=mb.ok se.us.ok
 refine ⟨_,aS _,_,_,_,mbg.l3,ae (fun q1=> ?_) (fun q1=> ?_)⟩
 ·have q1:=dT q1
  have hi:i < n:=by omega
  obtain ⟨s,hs⟩:=vN (M:=M) (i:=i) (by omega)
  obtain ⟨b,o,x',y,z,e1,e2,e3,e4,ar⟩:=mbg.row.at_ hs
  obtain ⟨l1,l2,l3⟩:=de sm hs
  have hd:lk (M.states.drop i)=s.arcs.length+lk (M.states.drop (i+1)):=by rw [bj hs,lK]
  refine ⟨_,aS _,_,_,_,mbg.l3,_,e1,_,rv _ _,_,e3,ae (fun q2=> ?_) (fun q2=> ?_)⟩
  ·have q2:s.f≠[]:=by simpa using q2
   have hTl:=db.ln T (List.mem_of_getElem? se.hT)
   obtain ⟨x1,x2⟩:=se.get hi
   have h0:L.getD i false=false:=by
    cases hb:L.getD i false with
    | false=>rfl
    | true=>have:=(hL i).1 hb; omega
   obtain ⟨u,s1,s2,b',n',c',u2,s3,s4⟩:=se.see w0 hi (by omega)
   obtain ⟨i1,i2⟩:=iv'.see hi (.base ⟨s,hs,q2⟩) h0
   have hl':i < L.length:=by rw [iv'.len]; exact hi
   refine ⟨_,x1,u,s1,_,_,_,rW _,b',n',c',u2,s3,?_⟩
   refine KI w0 gd hl hn mb hs hi l1 _ b' n' c' mz f2 _ s.arcs.length (j:=0) ⟨by omega,by omega,cN+1,⟨_,_,_,_,s4,db.tail (by rw [List.length_append,List.length_singleton]; omega),i1,by rw [List.length_append,List.length_singleton]; omega,fun x=> ?_⟩,by omega⟩
   rw [Num.getD_setT hl']
   split
   ·next e=>subst e; exact ⟨fun _=>⟨by omega,s,hs,q2⟩,fun _=>rfl⟩
   ·next e=>rw [hL x]; exact ⟨fun c=>⟨by omega,c.2⟩,fun c=>⟨by omega,c.2⟩⟩
  ·have q2:s.f=[]:=by simpa using q2
   refine KI w0 gd hl hn mb hs hi l1 _ t tn tc mz f2 _ s.arcs.length (j:=0) ⟨by omega,by omega,cN+1,⟨vs,F,L,T,se,⟨db.bk,fun l hl=>Nat.le_succ_of_le (db.ln l hl)⟩,iv',bd,fun x=> ?_⟩,by omega⟩
   rw [hL x]
   refine ⟨fun c=>⟨by omega,c.2⟩,fun c=>⟨?_,c.2⟩⟩
   rcases Nat.lt_or_ge x i with h3 | h3
   ·exact h3
   ·obtain rfl:x=i:=by omega
    obtain ⟨s',h4,h5⟩:=c.2
    rw [hs] at h4
    obtain rfl:=oI h4
    exact absurd q2 h5
 ·have q1:=dF q1
  obtain rfl:n=i:=by omega
  refine Sc w0 ok hn hl (bu M a n c) (2*n) ⟨vs,F,L,T,se,⟨iv',bd,bd⟩,fun x hx=>(hL x).2 ⟨?_,hx⟩,fun t l ht hl'=>⟨by have:=db.ln l (List.mem_of_getElem? hl'); omega,fun x=> ?_⟩⟩
  ·obtain ⟨s,h2,_⟩:=hx
   have:=(List.getElem?_eq_some_iff.1 h2).1
   omega
  ·rw [db.bk t l ht hl' x,gi]
   exact ⟨fun c=>c.2,fun c=>⟨by rw [hl]; exact ol c,c⟩⟩
end
end
section
section
variable {h:Heap} {M:Mach} {a:Option Addr} {n c:Nat}
theorem It {g:Heap}(r:StRow g (.slice a n c) M.states):cM 4 (.agg ⟨bu M a n c⟩) (.agg ⟨bu M a n c⟩)=true:=by
 obtain ⟨ps,h1,⟨_,⟨h2 | h2,_⟩ | ⟨k,off,cs,e',z,c',wr,h2,_⟩⟩,_,hnd⟩:=r
 ·rw [show bu M a n c=[.int .i64 M.kind,.int .i64 M.start,aa M.lead,.slice none 0 0] by unfold bu; rw [h2]]
  simp [cM,ID,aa]
 ·exact absurd h2 hnd
 ·rw [show bu M a n c=[.int .i64 M.kind,.int .i64 M.start,aa M.lead,.slice (some ⟨k,off,none⟩) (ps.map N3).length c'] by unfold bu; rw [h2]]
  simp [cM,ID,aa]
set_option linter.defProp false in
def Eb (w1:Wf h){kl kr:Nat}{L1 L2:List Bool}(hL1: ∀ x,L1.getD x false=true↔Num.Rch (dl M) (fun y=>y=M.start.toNat) x)(hL2: ∀ x,L2.getD x false=true↔Num.Rch (TM M) (rN M) x)(hl2:L2.length=n)(hne:kr≠kl)(hn:n<=300)(Q:VH)(hQ: ∀ v g',uQ h M n v g'->Q v g')(mv:List Value):=
 rK mv n kl kr (Sb h kl kr n L1 L2) Q (by
  intro mz3 i; intros; rename_i g hin
  have h3:=hin
  obtain ⟨f1,f2,L,br,hr,hL⟩:=h3
  refine ae (fun q1=> ?_) (fun q1=> ?_)
  ·have q1:=dT q1
   have hi:i < n:=by omega
   obtain ⟨x1,x2⟩:=jM (c:=n) hr hl2 hi
   obtain ⟨y1,y2⟩:=jM (c:=n) br.row.row br.len hi
   have e:=hL i
   rw [if_neg (Nat.lt_irrefl i)] at e
   rw [e] at y2
   refine ⟨_,y1,_,y2,ae (fun t=> ?_) (fun t=> ?_)⟩
   ·obtain ⟨u,s1,s2⟩:=qu w1 hin hl2 hne hi (b:=L2.getD i false) (by rw [t]; rfl)
    refine ⟨_,x1,_,x2,_,y1,u,s1,?_⟩
    rw [aJ hi (by omega)]
    exact i8 (mz3 - 1) (by omega) s2
   ·obtain ⟨u,s1,s2⟩:=qu w1 hin hl2 hne hi (b:=false) (by rw [t]; rfl)
    refine ⟨_,y1,u,s1,?_⟩
    rw [aJ hi (by omega)]
    exact i8 (mz3 - 1) (by omega) s2
  ·have q1:=dF q1
   refine hQ _ _ ⟨kl,L,rfl,br,fun x hx=> ?_⟩
   rw [hL x,if_pos (by omega),Bool.and_eq_true,hL1,hL2]
   exact Iff.rfl)
theorem IH (w:Wf h)(sm:Small M)(gd:Good M)(r:StRow h (.slice a n c) M.states):FW SS 42 [.agg ⟨bu M a n c⟩] h (uQ h M n):=by
 obtain ⟨mb,ok⟩:=cQ w r
 have hl:=mb.len
 have hn:n<=300:=by rw [hl]; exact sm.sts
 refine JV (bu M a n c) h _ ⟨_,e8 M a n c,?_⟩
 generalize h.push (Bm M a n c)=g at *
 have oR:=(Ok.refl ok.wf).room 6
 have mbR:=mb.ok oR
 have okR:=ok.trans oR
 have hv:=It mbR.row
 refine ⟨_,mbR.all,?_⟩
 have lR:=mbR.all
 generalize Go.Ab.room g 6=gR at *
 refine (Jn okR.wf sm gd mbR.row).mono ?_
 rintro _ g2 ⟨kl,L1,rfl,br1,hL1⟩
 have mb2:=mbR.ok br1.row.ok
 refine ⟨_,_,_,rfl,_,mb2.all,(MG br1.row.ok.wf sm gd mb2.row).mono ?_⟩
 rintro _ g3 ⟨kr,L2,rfl,br2,hL2⟩
 refine ⟨_,_,_,rfl,⟨lR,hv⟩,?_⟩
 have hne:kr≠kl:=by have:=br1.row.lt; have:=br2.row.new; omega
 exact Eb (n:=n) okR.wf hL1 hL2 br2.len hne hn (uQ h M n) (fun v g' ⟨k1,L,e1,e2,e3⟩=>⟨k1,L,e1,e2.base okR,e3⟩) (bu M a n c) n (i:=0) ⟨by omega,rfl,L1,br1.trans br2.row.ok,br2.row.row,fun x=>by rw [if_neg (Nat.not_lt_zero _)]⟩
theorem Mq (w:Wf h)(sm:Small M)(r:StRow h (.slice a n c) M.states):FW SS 19 [.agg ⟨bu M a n c⟩] h (fun v h'=>v = .bool (vy M)/\Ok h h'):=by
 obtain ⟨mb,ok⟩:=cQ w r
 refine Nj (bu M a n c) h _ ⟨_,e8 M a n c,?_⟩
 generalize h.push (Bm M a n c)=g at *
 have oR:=(Ok.refl ok.wf).room 12
 have mbR:=mb.ok oR
 have okR:=ok.trans oR
 refine ⟨_,mbR.all,(mt okR.wf sm mbR.row).mono ?_⟩
 rintro _ g2 ⟨rfl,o2⟩
 have ok2:=okR.trans o2
 have mb2:=mbR.ok o2
 refine ⟨_,rfl,ae (fun q=> ?_) (fun q=>⟨?_,ok2⟩)⟩
 rotate_left
 ·unfold vy; rw [q]; rfl
 have gd:=pj q
 have hl:=mb2.len
 have h0:=gd.start0
 have h1:=gd.start1
 refine ⟨_,mb2.all,(IH ok2.wf sm gd mb2.row).mono ?_⟩
 rintro _ g3 ⟨kl,L,rfl,br,hL⟩
 have mb3:=mb2.ok br.row.ok
 obtain ⟨x1,x2⟩:=jM (c:=n) br.row.row br.len (x:=M.start.toNat) (by omega)
 rw [show ((M.start.toNat:Nat):Int)=M.start by omega] at x1
 refine ⟨_,_,_,rfl,_,nn _,_,mb3.l1,_,x1,_,x2,⟨mb2.l1,uS _⟩,?_,ok2.trans br.row.ok⟩
 unfold vy
 rw [q,Bool.true_and,G1 (hL M.start.toNat (by omega))]
end
end
noncomputable def Hy:Code:=(Tryz.f3.body).getD .skip
def Xi:List Nat:=[]
abbrev W0 (mv:LV)(h:Heap)(Q:VH):Prop:=xN (fp SS.P 24 (.agg ⟨mv⟩)) h fun B1 g2=>xA (ah SS.P 24 g2 (pA (h.next))) fun c3=>FW SS 8 [(.agg ⟨c3⟩)] g2 fun v4 h5=>yB v4 fun b6=>aw b6 (FW SS 9 [] h5 fun v7 h8=>yB v7 fun b9=>Q (.bool b9) h8) (xA (ah SS.P 24 (room h5 44) (pA (h.next))) fun c10=>FW SS 10 [(.agg ⟨c10⟩)] (room h5 44) fun v11 h12=>yB v11 fun b13=>xA (ah SS.P 24 h12 (pA (h.next))) fun c14=>FW SS 11 [(.agg ⟨c14⟩)] h12 fun v15 h16=>yB v15 fun b17=>aw (b13 == b17) (xA (ah SS.P 24 h16 (pA (h.next))) fun c18=>FW SS 12 [(.agg ⟨c18⟩)] h16 fun v19 h20=>yB v19 fun b21=>xA (ah SS.P 24 h20 (pA (h.next))) fun c22=>FW SS 13 [(.agg ⟨c22⟩)] h20 fun v23 h24=>yB v23 fun b25=>aw (b21 == b25) (xA (ah SS.P 24 h24 (pA (h.next))) fun c26=>FW SS 14 [(.agg ⟨c26⟩)] h24 fun v27 h28=>yB v27 fun b29=>xA (ah SS.P 24 h28 (pA (h.next))) fun c30=>FW SS 15 [(.agg ⟨c30⟩)] h28 fun v31 h32=>yB v31 fun b33=>aw (b29 == b33) (xA (ah SS.P 24 h32 (pA (h.next))) fun c34=>FW SS 16 [(.agg ⟨c34⟩)] h32 fun v35 h36=>yB v35 fun b37=>xA (ah SS.P 24 h36 (pA (h.next))) fun c38=>FW SS 17 [(.agg ⟨c38⟩)] h36 fun v39 h40=>yB v39 fun b41=>aw (b37 == b41) (xA (ah SS.P 24 h40 (pA (h.next))) fun c42=>FW SS 18 [(.agg ⟨c42⟩)] h40 fun v43 h44=>yB v43 fun b45=>xA (ah SS.P 24 h44 (pA (h.next))) fun c46=>FW SS 19 [(.agg ⟨c46⟩)] h44 fun v47 h48=>yB v47 fun b49=>aw (b45 == b49) (xA (ah SS.P 24 h48 (pA (h.next))) fun c50=>FW SS 20 [(.agg ⟨c50⟩)] h48 fun v51 h52=>yI .i64 v51 fun n53=>xA (ah SS.P 24 h52 (pA (h.next))) fun c54=>FW SS 21 [(.agg ⟨c54⟩)] h52 fun v55 h56=>yI .i64 v55 fun n57=>aw (((n53:Int) == n57)) (FW SS 9 [] h56 fun v58 h59=>yB v58 fun b60=>(ah SS.P 24 (room h5 44) (pA (h.next))=some (.agg ⟨c14⟩)/\cM 4 (.agg ⟨c14⟩) (.agg ⟨c14⟩)=true)/\(ah SS.P 24 h16 (pA (h.next))=some (.agg ⟨c22⟩)/\cM 4 (.agg ⟨c22⟩) (.agg ⟨c22⟩)=true)/\(ah SS.P 24 h24 (pA (h.next))=some (.agg ⟨c30⟩)/\cM 4 (.agg ⟨c30⟩) (.agg ⟨c30⟩)=true)/\(ah SS.P 24 h32 (pA (h.next))=some (.agg ⟨c38⟩)/\cM 4 (.agg ⟨c38⟩) (.agg ⟨c38⟩)=true)/\(ah SS.P 24 h40 (pA (h.next))=some (.agg ⟨c46⟩)/\cM 4 (.agg ⟨c46⟩) (.agg ⟨c46⟩)=true)/\(ah SS.P 24 h48 (pA (h.next))=some (.agg ⟨c54⟩)/\cM 4 (.agg ⟨c54⟩) (.agg ⟨c54⟩)=true)/\Q (.bool b60) h59) ((ah SS.P 24 (room h5 44) (pA (h.next))=some (.agg ⟨c14⟩)/\cM 4 (.agg ⟨c14⟩) (.agg ⟨c14⟩)=true)/\(ah SS.P 24 h16 (pA (h.next))=some (.agg ⟨c22⟩)/\cM 4 (.agg ⟨c22⟩) (.agg ⟨c22⟩)=true)/\(ah SS.P 24 h24 (pA (h.next))=some (.agg ⟨c30⟩)/\cM 4 (.agg ⟨c30⟩) (.agg ⟨c30⟩)=true)/\(ah SS.P 24 h32 (pA (h.next))=some (.agg ⟨c38⟩)/\cM 4 (.agg ⟨c38⟩) (.agg ⟨c38⟩)=true)/\(ah SS.P 24 h40 (pA (h.next))=some (.agg ⟨c46⟩)/\cM 4 (.agg ⟨c46⟩) (.agg ⟨c46⟩)=true)/\(ah SS.P 24 h48 (pA (h.next))=some (.agg ⟨c54⟩)/\cM 4 (.agg ⟨c54⟩) (.agg ⟨c54⟩)=true)/\Q (.bool false) h56)) ((ah SS.P 24 (room h5 44) (pA (h.next))=some (.agg ⟨c14⟩)/\cM 4 (.agg ⟨c14⟩) (.agg ⟨c14⟩)=true)/\(ah SS.P 24 h16 (pA (h.next))=some (.agg ⟨c22⟩)/\cM 4 (.agg ⟨c22⟩) (.agg ⟨c22⟩)=true)/\(ah SS.P 24 h24 (pA (h.next))=some (.agg ⟨c30⟩)/\cM 4 (.agg ⟨c30⟩) (.agg ⟨c30⟩)=true)/\(ah SS.P 24 h32 (pA (h.next))=some (.agg ⟨c38⟩)/\cM 4 (.agg ⟨c38⟩) (.agg ⟨c38⟩)=true)/\(ah SS.P 24 h40 (pA (h.next))=some (.agg ⟨c46⟩)/\cM 4 (.agg ⟨c46⟩) (.agg ⟨c46⟩)=true)/\Q (.bool false) h48)) ((ah SS.P 24 (room h5 44) (pA (h.next))=some (.agg ⟨c14⟩)/\cM 4 (.agg ⟨c14⟩) (.agg ⟨c14⟩)=true)/\(ah SS.P 24 h16 (pA (h.next))=some (.agg ⟨c22⟩)/\cM 4 (.agg ⟨c22⟩) (.agg ⟨c22⟩)=true)/\(ah SS.P 24 h24 (pA (h.next))=some (.agg ⟨c30⟩)/\cM 4 (.agg ⟨c30⟩) (.agg ⟨c30⟩)=true)/\(ah SS.P 24 h32 (pA (h.next))=some (.agg ⟨c38⟩)/\cM 4 (.agg ⟨c38⟩) (.agg ⟨c38⟩)=true)/\Q (.bool false) h40)) ((ah SS.P 24 (room h5 44) (pA (h.next))=some (.agg ⟨c14⟩)/\cM 4 (.agg ⟨c14⟩) (.agg ⟨c14⟩)=true)/\(ah SS.P 24 h16 (pA (h.next))=some (.agg ⟨c22⟩)/\cM 4 (.agg ⟨c22⟩) (.agg ⟨c22⟩)=true)/\(ah SS.P 24 h24 (pA (h.next))=some (.agg ⟨c30⟩)/\cM 4 (.agg ⟨c30⟩) (.agg ⟨c30⟩)=true)/\Q (.bool false) h32)) ((ah SS.P 24 (room h5 44) (pA (h.next))=some (.agg ⟨c14⟩)/\cM 4 (.agg ⟨c14⟩) (.agg ⟨c14⟩)=true)/\(ah SS.P 24 h16 (pA (h.next))=some (.agg ⟨c22⟩)/\cM 4 (.agg ⟨c22⟩) (.agg ⟨c22⟩)=true)/\Q (.bool false) h24)) ((ah SS.P 24 (room h5 44) (pA (h.next))=some (.agg ⟨c14⟩)/\cM 4 (.agg ⟨c14⟩) (.agg ⟨c14⟩)=true)/\Q (.bool false) h16))
theorem UJ (mv:LV)(h:Heap)(Q:VH)(hx:W0 mv h Q):FW SS 3 [(.agg ⟨mv⟩)] h Q:=ax (M:=Xi) (c:=Hy) Tryz.func3 (show Tryz.f3.body=some Hy by kernel_rfl) (by kernel_rfl) (ai hx (by kernel_rfl))
theorem H3 (h:Heap):FW SS 9 [] h (fun v h'=>v = .bool true/\h'=h):=
 FF (p:=DS [([],.bool true)]) (v:= .bool true) (h':=h) (by decide +kernel) (by kernel_rfl) (fun cf=>by kernel_rfl) ⟨rfl,rfl⟩
theorem Vo {h:Heap}(tb:Tab h)(w:Wf h){M:Mach}(bd:Yw M){a:Option Addr}{n c:Nat}(r:StRow h (.slice a n c) M.states):FW SS 3 [.agg ⟨bu M a n c⟩] h (fun v h'=>v = .bool true/\Ok h h'):=by
 obtain ⟨mb,ok⟩:=cQ w r
 refine UJ (bu M a n c) h _ ⟨_,e8 M a n c,_,mb.all,(Qi ok.wf bd mb.row).mono ?_⟩
 generalize h.push (Bm M a n c)=g at *
 rintro _ g2 ⟨b,rfl,hsm,o2⟩
 have ok2:=ok.trans o2
 have mb2:=mb.ok o2
 refine ⟨_,rfl,ae (fun _=> ?_) (fun q=> ?_)⟩
 ·refine (H3 g2).mono ?_
  rintro _ g3 ⟨rfl,rfl⟩
  exact ⟨_,rfl,rfl,ok2⟩
 have sm:=hsm q
 have hv:=It mb2.row
 have oR:=(Ok.refl ok2.wf).room 44
 have okR:=ok2.trans oR
 have mbR:=mb2.ok oR
 have lR:=mbR.all
 refine ⟨_,lR,(pV (tb.ok okR) okR.wf sm mbR.row).mono ?_⟩
 rintro _ g3 ⟨rfl,o3⟩
 have ok3:=okR.trans o3
 have mb3:=mbR.ok o3
 refine ⟨_,rfl,_,mb3.all,(mt ok3.wf sm mb3.row).mono ?_⟩
 rintro _ g4 ⟨rfl,o4⟩
 have ok4:=ok3.trans o4
 have mb4:=mb3.ok o4
 refine ⟨_,rfl,ae (fun _=> ?_) (fun q=>absurd q (by simp))⟩
 refine ⟨_,mb4.all,(KM (tb.ok ok4) ok4.wf sm mb4.row).mono ?_⟩
 rintro _ g5 ⟨rfl,o5⟩
 have ok5:=ok4.trans o5
 have mb5:=mb4.ok o5
 refine ⟨_,rfl,_,mb5.all,(K5 ok5.wf sm mb5.row).mono ?_⟩
 rintro _ g6 ⟨rfl,o6⟩
 have ok6:=ok5.trans o6
 have mb6:=mb5.ok o6
 refine ⟨_,rfl,ae (fun _=> ?_) (fun q=>absurd q (by simp))⟩
 refine ⟨_,mb6.all,(CV (tb.ok ok6) ok6.wf sm mb6.row).mono ?_⟩
 rintro _ g7 ⟨rfl,o7⟩
 have ok7:=ok6.trans o7
 have mb7:=mb6.ok o7
 refine ⟨_,rfl,_,mb7.all,(CQ ok7.wf sm mb7.row).mono ?_⟩
 rintro _ g8 ⟨rfl,o8⟩
 have ok8:=ok7.trans o8
 have mb8:=mb7.ok o8
 refine ⟨_,rfl,ae (fun _=> ?_) (fun q=>absurd q (by simp))⟩
 refine ⟨_,mb8.all,(TE (tb.ok ok8) ok8.wf sm mb8.row).mono ?_⟩
 rintro _ g9 ⟨rfl,o9⟩
 have ok9:=ok8.trans o9
 have mb9:=mb8.ok o9
 refine ⟨_,rfl,_,mb9.all,(TC ok9.wf sm mb9.row).mono ?_⟩
 rintro _ g10 ⟨rfl,o10⟩
 have ok10:=ok9.trans o10
 have mb10:=mb9.ok o10
 refine ⟨_,rfl,ae (fun _=> ?_) (fun q=>absurd q (by simp))⟩
 refine ⟨_,mb10.all,(L7 (tb.ok ok10) ok10.wf sm mb10.row).mono ?_⟩
 rintro _ g11 ⟨rfl,o11⟩
 have ok11:=ok10.trans o11
 have mb11:=mb10.ok o11
 refine ⟨_,rfl,_,mb11.all,(Mq ok11.wf sm mb11.row).mono ?_⟩
 rintro _ g12 ⟨rfl,o12⟩
 have ok12:=ok11.trans o12
 have mb12:=mb11.ok o12
 refine ⟨_,rfl,ae (fun _=> ?_) (fun q=>absurd q (by simp))⟩
 refine ⟨_,mb12.all,(LH (tb.ok ok12) ok12.wf sm mb12.row).mono ?_⟩
 rintro _ g13 ⟨rfl,o13⟩
 have ok13:=ok12.trans o13
 have mb13:=mb12.ok o13
 refine ⟨_,rfl,_,mb13.all,(LX ok13.wf sm mb13.row).mono ?_⟩
 rintro _ g14 ⟨rfl,o14⟩
 have ok14:=ok13.trans o14
 refine ⟨_,rfl,ae (fun _=> ?_) (fun q=>absurd q (by simp))⟩
 refine (H3 g14).mono ?_
 rintro _ g15 ⟨rfl,rfl⟩
 exact ⟨_,rfl,⟨lR,hv⟩,⟨mb4.all,hv⟩,⟨mb6.all,hv⟩,⟨mb8.all,hv⟩,⟨mb10.all,hv⟩,⟨mb12.all,hv⟩,rfl,ok14⟩
end Go.Proofs.YtoabjjimjldcfaaGreatDoor
end
section
set_option linter.unusedVariables false
namespace Go.Proofs.YtoabjjimjldcfaaGreatDoor
open Go Go.Ab Go.RowKit
theorem HP:Db Tryz.prog 9 [] (.bool true):=
 No text_ok Ty (n:=600) (by kernel_rfl) (by kernel_rfl)
theorem Nf:Ds Tryz.prog 9 [([],.bool true)]:=Qy HP rfl Su
theorem Bh:fE Tryz.prog Ry 194 gr:=xe (fn:=(Tryz.prog.funcs[194]?).getD default) (by kernel_rfl) (by kernel_rfl) (by kernel_rfl) (by kernel_rfl) (by kernel_rfl)
theorem yi:fE Tryz.prog Ry 196 dV:=um (fn:=(Tryz.prog.funcs[196]?).getD default) (by kernel_rfl) (by kernel_rfl) (by kernel_rfl) (by kernel_rfl) (by kernel_rfl)
theorem BY:fE Tryz.prog Ry 134 (rP Tryz.prog Ry Tryz.f134 (seqL CJ) (seqR (seqR CJ)) 5):=
 Hu text_ok.names Tryz.func134 rfl rfl rfl rfl rfl rfl rfl Tryz.func157 rfl uO (by kernel_rfl) (by kernel_rfl)
theorem S6:pk Tryz.prog Ry W6:=Jd Nf (eU Bh (eU yi (eU BY CR)))
end Go.Proofs.YtoabjjimjldcfaaGreatDoor
end
