/- Laws and walks that the proof leans on (part 4): W5; P7; P8; P9; P10; P11 and others. No condition. -/
import Derived.Test.YtaaichlgdgjgjaaGreatDoorPart3
import Derived.Test.YtaaichlgdgjgjaaGreatDoorPart2
set_option linter.unusedVariables false
set_option linter.unusedSimpArgs false
set_option maxRecDepth 100000
open List (append_assoc drop_zero getElem?_eq_none length_append length_drop length_replicate length_set length_take map_append map_take nil_append take_length take_of_length_le take_zero)
open Nat (le_max_left le_max_right le_of_lt lt_of_lt_of_le lt_or_ge max_le min_eq_left mod_lt mul_le_mul mul_pos pow_add pow_le_pow_right pow_succ)
open Int (natCast_ediv natCast_emod toNat_natCast)
open Go.IntKind (wrap wrap_i64)
section
namespace Go.Proofs.YtaaichlgdgjgjaaGreatDoor
open Go Go.Ab Go.Num
noncomputable def bA:FD:=cF Tryz.f203 [([1,1,1,1,0,0,0],[0,1,5,7,8]),([1,1,1,1,1,1,0,1,0,0],[0,1,5,7,9,10,87,88]),([1,1,1,1,1,1,1,1,1,0,1,0,0],[0,1,5,7,10,128,129])]
abbrev eT(a:OA)(n c:Nat)(b:OA)(m d:Nat)(q e:Int):LV:=[(.slice a n c),(.slice b m d),(iA m),(.int .u64 q),(.int .u64 e)]
abbrev dw(a:OA)(n c:Nat)(b:OA)(m d:Nat)(q e:Int)(i:Nat)(f cy:Int):LV:=[(.slice a n c),(.slice b m d),(iA m),(.int .u64 q),(.int .u64 f),(.int .u64 cy),(.int .i64 e),(iA i)]
abbrev hI(a:OA)(n c:Nat)(b:OA)(m d:Nat)(q e:Int)(i:Nat)(cy:Int):LV:=[(.slice a n c),(.slice b m d),(iA m),(.int .u64 q),(.int .u64 cy),(.int .i64 e),(iA i)]
theorem Kq(a:OA)(n c:Nat)(b:OA)(m d:Nat)(h:ae)(Q:VH)(r:iP 177 (.slice a n c) (iA m) λq=>xI .u64 (aj SS.P 150 (room h 12) (.pointer (some q))) λp=>iP 177 (.slice a n c) (.int .i64 (wrap .i64 ((m:Int)-1))) λo=>xI .u64 (aj SS.P 150 (room h 12) (.pointer (some o))) λl=>iP 177 (.slice b m d) (.int .i64 (wrap .i64 ((m:Int)-1))) λk=>xI .u64 (aj SS.P 150 (room (room h 12) 16) (.pointer (some k))) λj=>xI .u64 (ay SS.P .quo 150 (.int .u64 (wrap .u64 (wrap .u64 (p*1000000000)+l))) (.int .u64 j)) λi=>iP 177 (.slice b m d) (.int .i64 (wrap .i64 ((m:Int)-1))) λg=>xI .u64 (aj SS.P 150 (room (room h 12) 16) (.pointer (some g))) λf=>xI .u64 (ay SS.P .rem 150 (.int .u64 (wrap .u64 (wrap .u64 (p*1000000000)+l))) (.int .u64 f)) λe=>LL SS bA [1,1,1,1,0,0,0] (eT a n c b m d i e) (room (room h 12) 16) (KK SS bA [1,1,1,1,0,0] [] (EE SS bA Q))):FW SS 203 [(.slice a n c),(.slice b m d)] h Q:=cI bA Tryz.func203 (ai r)
theorem vG(a:OA)(n c:Nat)(b:OA)(m d:Nat)  (o:Nat->Int->Int->ae->Prop) (Q:VH) (step:∀(p:Nat)(q l:Int)(s:Nat->Value)(h:ae),o p q l h->au (decide ((q:Int)>=1000000000)) (iP 177 (.slice b m d) (.int .i64 (wrap .i64 ((m:Int)-1))) λf=>xI .u64 (aj SS.P 150 (room h 28) (.pointer (some f))) λe=>au (decide ((wrap .u64 (l+e):Int)>=1000000000)) (au (decide ((wrap .u64 (q-1):Int)<1000000000)) (LL SS bA [1,1,1,1,1,1,0,1,0,0] (dw a n c b m d (wrap .u64 (q-1)) (wrap .i64 ((m:Int)+1)) 0 0 0) (room h 28) (KK SS bA [1,1,1,1,1,1,0,1,0] [] (EE SS bA Q))) (aJ (pL (eT a n c b m d) o) p [(.slice a n c),(.slice b m d),(iA m),(.int .u64 (wrap .u64 (q-1))),(.int .u64 (wrap .u64 (l+e)))] (room h 28))) (aJ (pL (eT a n c b m d) o) p [(.slice a n c),(.slice b m d),(iA m),(.int .u64 (wrap .u64 (q-1))),(.int .u64 (wrap .u64 (l+e)))] (room h 28))) (au (decide (((m:Int):Int)>1)) (au (decide ((l:Int)<1000000000)) (iP 177 (.slice b m d) (.int .i64 (wrap .i64 ((m:Int)-2))) λk=>xI .u64 (aj SS.P 150 (room h 28) (.pointer (some k))) λj=>iP 177 (.slice a n c) (.int .i64 (wrap .i64 ((m:Int)-2))) λi=>xI .u64 (aj SS.P 150 (room h 28) (.pointer (some i))) λg=>au (decide ((wrap .u64 (q*j):Int)>wrap .u64 (wrap .u64 (l*1000000000)+g))) (iP 177 (.slice b m d) (.int .i64 (wrap .i64 ((m:Int)-1))) λf=>xI .u64 (aj SS.P 150 (room h 28) (.pointer (some f))) λe=>au (decide ((wrap .u64 (l+e):Int)>=1000000000)) (au (decide ((wrap .u64 (q-1):Int)<1000000000)) (LL SS bA [1,1,1,1,1,1,0,1,0,0] (dw a n c b m d (wrap .u64 (q-1)) (wrap .i64 ((m:Int)+1)) 0 0 0) (room h 28) (KK SS bA [1,1,1,1,1,1,0,1,0] [] (EE SS bA Q))) (aJ (pL (eT a n c b m d) o) p [(.slice a n c),(.slice b m d),(iA m),(.int .u64 (wrap .u64 (q-1))),(.int .u64 (wrap .u64 (l+e)))] (room h 28))) (aJ (pL (eT a n c b m d) o) p [(.slice a n c),(.slice b m d),(iA m),(.int .u64 (wrap .u64 (q-1))),(.int .u64 (wrap .u64 (l+e)))] (room h 28))) (LL SS bA [1,1,1,1,1,1,0,1,0,0] (dw a n c b m d q (wrap .i64 ((m:Int)+1)) 0 0 0) (room h 28) (KK SS bA [1,1,1,1,1,1,0,1,0] [] (EE SS bA Q)))) (LL SS bA [1,1,1,1,1,1,0,1,0,0] (dw a n c b m d q (wrap .i64 ((m:Int)+1)) 0 0 0) (room h 28) (KK SS bA [1,1,1,1,1,1,0,1,0] [] (EE SS bA Q)))) (LL SS bA [1,1,1,1,1,1,0,1,0,0] (dw a n c b m d q (wrap .i64 ((m:Int)+1)) 0 0 0) (room h 28) (KK SS bA [1,1,1,1,1,1,0,1,0] [] (EE SS bA Q))))) (p:Nat) {q l:Int} {h:ae} (r:o p q l h):LL SS bA [1,1,1,1,0,0,0] (eT a n c b m d q l) h (KK SS bA [1,1,1,1,0,0] [] (EE SS bA Q)):=
 mh (eT a n c b m d) o (λp q l s h r=>ai (step p q l s h r)) p r
theorem vH(a:OA)(n c:Nat)(b:OA)(m d:Nat)(q t:Int)(v:Nat->Nat->Int->Int->ae->Prop)(Q:VH)(step:∀(w:Nat) (i:Nat) (u cy:Int) (y:Nat->Value) (h:ae),v w i u cy h->au (decide (((i:Int):Int)<t)) (au (decide (((i:Int):Int)<(m:Int))) (iP 177 (.slice b m d) (iA i) λs=>xI .u64 (aj SS.P 150 h (.pointer (some s))) λr=>iP 177 (.slice a n c) (iA i) λp=>xI .u64 (aj SS.P 150 h (.pointer (some p))) λo=>xI .u64 (ay SS.P .rem 150 (.int .u64 (wrap .u64 (cy+wrap .u64 (q*r)))) (.int .u64 1000000000)) λl=>xI .u64 (ay SS.P .rem 150 (.int .u64 (wrap .u64 (wrap .u64 (wrap .u64 (o+1000000000)-l)-u))) (.int .u64 1000000000)) λk=>xI .u64 (ay SS.P .quo 150 (.int .u64 (wrap .u64 (wrap .u64 (wrap .u64 (o+1000000000)-l)-u))) (.int .u64 1000000000)) λj=>xI .u64 (ay SS.P .quo 150 (.int .u64 (wrap .u64 (cy+wrap .u64 (q*r)))) (.int .u64 1000000000)) λg=>iP 177 (.slice a n c) (iA i) λf=>xU (ah SS.P 150 (.pointer (some f)) (.int .u64 k) h) h λ_ e=>aJ (LA3 (dw a n c b m d q t) v) w [(.slice a n c),(.slice b m d),(iA m),(.int .u64 q),(.int .u64 (wrap .u64 (1-j))),(.int .u64 g),(.int .i64 t),(.int .i64 (wrap .i64 ((i:Int)+1)))] e) (iP 177 (.slice a n c) (iA i) λp=>xI .u64 (aj SS.P 150 h (.pointer (some p))) λo=>xI .u64 (ay SS.P .rem 150 (.int .u64 cy) (.int .u64 1000000000)) λl=>xI .u64 (ay SS.P .rem 150 (.int .u64 (wrap .u64 (wrap .u64 (wrap .u64 (o+1000000000)-l)-u))) (.int .u64 1000000000)) λk=>xI .u64 (ay SS.P .quo 150 (.int .u64 (wrap .u64 (wrap .u64 (wrap .u64 (o+1000000000)-l)-u))) (.int .u64 1000000000)) λj=>xI .u64 (ay SS.P .quo 150 (.int .u64 cy) (.int .u64 1000000000)) λg=>iP 177 (.slice a n c) (iA i) λf=>xU (ah SS.P 150 (.pointer (some f)) (.int .u64 k) h) h λ_ e=>aJ (LA3 (dw a n c b m d q t) v) w [(.slice a n c),(.slice b m d),(iA m),(.int .u64 q),(.int .u64 (wrap .u64 (1-j))),(.int .u64 g),(.int .i64 t),(.int .i64 (wrap .i64 ((i:Int)+1)))] e)) (au (((u:Int)==0)) (Q (.int .u64 q) h) (LL SS bA [1,1,1,1,1,1,1,1,1,0,1,0,0] (hI a n c b m d q (wrap .i64 ((m:Int)+1)) 0 0) h (KK SS bA [1,1,1,1,1,1,1,1,1,0,1,0] [] (EE SS bA Q)))))(w:Nat){i:Nat}{u cy:Int}{h:ae}(x:v w i u cy h):LL SS bA [1,1,1,1,1,1,0,1,0,0] (dw a n c b m d q t i u cy) h (KK SS bA [1,1,1,1,1,1,0,1,0] [] (EE SS bA Q)):=
 VN (dw a n c b m d q t) v (λw i u cy y h x=>ai (step w i u cy y h x)) w x
theorem vI(a:OA)(n c:Nat)(b:OA)(m d:Nat)(q r:Int)(s:Nat->Nat->Int->ae->Prop)(Q:VH)(step:∀(t:Nat) (i:Nat) (cy:Int) (v:Nat->Value) (h:ae),s t i cy h->au (decide (((i:Int):Int)<r)) (iP 177 (.slice a n c) (iA i) λp=>xI .u64 (aj SS.P 150 h (.pointer (some p))) λo=>au (decide (((i:Int):Int)<(m:Int))) (iP 177 (.slice b m d) (iA i) λl=>xI .u64 (aj SS.P 150 h (.pointer (some l))) λk=>xI .u64 (ay SS.P .rem 150 (.int .u64 (wrap .u64 (wrap .u64 (o+cy)+k))) (.int .u64 1000000000)) λj=>xI .u64 (ay SS.P .quo 150 (.int .u64 (wrap .u64 (wrap .u64 (o+cy)+k))) (.int .u64 1000000000)) λg=>iP 177 (.slice a n c) (iA i) λf=>xU (ah SS.P 150 (.pointer (some f)) (.int .u64 j) h) h λ_ e=>aJ (pL (hI a n c b m d q r) s) t [(.slice a n c),(.slice b m d),(iA m),(.int .u64 q),(.int .u64 g),(.int .i64 r),(.int .i64 (wrap .i64 ((i:Int)+1)))] e) (xI .u64 (ay SS.P .rem 150 (.int .u64 (wrap .u64 (o+cy))) (.int .u64 1000000000)) λj=>xI .u64 (ay SS.P .quo 150 (.int .u64 (wrap .u64 (o+cy))) (.int .u64 1000000000)) λg=>iP 177 (.slice a n c) (iA i) λf=>xU (ah SS.P 150 (.pointer (some f)) (.int .u64 j) h) h λ_ e=>aJ (pL (hI a n c b m d q r) s) t [(.slice a n c),(.slice b m d),(iA m),(.int .u64 q),(.int .u64 g),(.int .i64 r),(.int .i64 (wrap .i64 ((i:Int)+1)))] e)) (Q (.int .u64 (wrap .u64 (q-1))) h))(t:Nat){i:Nat}{cy:Int}{h:ae}(u:s t i cy h):LL SS bA [1,1,1,1,1,1,1,1,1,0,1,0,0] (hI a n c b m d q r i cy) h (KK SS bA [1,1,1,1,1,1,1,1,1,0,1,0] [] (EE SS bA Q)):=
 mh (hI a n c b m d q r) s (λt i cy v h u=>ai (step t i cy v h u)) t u
noncomputable def ct:FD:=cF Tryz.f189 [([1,1,1,1,1,0,0,0],[0,1,6,7,8,9]),([1,1,1,1,1,1,1,0,1,0,0],[0,1,4,6,7,8,9,49,50]),([1,1,1,1,1,1,1,1,1,1,0,1,0,0],[4,5,7,12,74,75])]
abbrev jj(a:OA)(n c:Nat)(b:OA)(m d:Nat)(j:Int)(e:OA)(f h:Nat)(r:OA)(g i:Nat):LV:=[(.slice a n c),(.slice b m d),(iA m),(.int .u64 j),(.slice r g i),(.slice e f h)]
abbrev jk(a:OA)(n c:Nat)(b:OA)(m d:Nat)(p:Int)(g:OA)(q l:Nat)(r:OA)(j o:Nat)(e:OA)(h k:Nat)(f:Int)(i:Nat):LV:=[(.slice a n c),(.slice b m d),(.slice g q l),(iA m),(.int .u64 p),(.slice r j o),(.slice e h k),(.int .i64 f),(iA i)]
abbrev jl(e:Int)(g:OA)(f c:Nat)(r:OA)(b d:Nat)(a:Int)(i:Nat)(left:Int):LV:=[(.slice g f c),(.slice r b d),(.int .u64 e),(.int .u64 left),(.int .i64 a),(iA i)]
theorem HX(a:OA)(n c:Nat)(b:OA)(m d:Nat)(h:ae)(Q:VH)(w:FW SS 186 [(.slice a n c),(.slice b m d)] h λu v=>yI .i64 u λt=>au (decide ((t:Int)<0)) (Q (.tuple ⟨[nA,(.slice a n c)]⟩) v) (iP 177 (.slice b m d) (.int .i64 (wrap .i64 ((m:Int)-1))) λs=>xI .u64 (aj SS.P 150 v (.pointer (some s))) λr=>xI .u64 (ay SS.P .quo 150 (.int .u64 1000000000) (.int .u64 (wrap .u64 (r+1)))) λq=>FW SS 202 [(.slice a n c),(.int .u64 q)] v λo p=>yL o λj k l=>FW SS 202 [(.slice b m d),(.int .u64 q)] p λh i=>yL h λe f g=>LL SS ct [1,1,1,1,1,0,0,0] (jj a n c b m d q e f g j k l) i (KK SS ct [1,1,1,1,1,0,0] [] (EE SS ct Q)))):FW SS 189 [(.slice a n c),(.slice b m d)] h Q:=cI ct Tryz.func189 (ai w)
theorem tZ(a:OA)(n c:Nat)(b:OA)(m d:Nat)(v:Int)(e:OA)(t u:Nat)(s:Nat->OA->Nat->Nat->ae->Prop)(Q:VH)(step:∀(q:Nat) (r:OA) (o p:Nat) (x:Nat->Value) (h:ae),s q r o p h->au (decide (((o:Int):Int)<=(n:Int))) (xR (aI SS.P 177 1 [(0,(.int .u64 0))]) h λ_ j k l=>xE (bH SS.P 177 177 (.slice r o p) (sA (h.next) j k) l) l λf g h _ i=>aJ (LA3 (jj a n c b m d v e t u) s) q [(.slice a n c),(.slice b m d),(iA m),(.int .u64 v),(.slice f g h),(.slice e t u)] i) (xR (ch SS.P 177 (.int .i64 (wrap .i64 ((o:Int)-(m:Int)))) (.int .i64 (wrap .i64 ((o:Int)-(m:Int))))) h λ_ f g i=>LL SS ct [1,1,1,1,1,1,1,0,1,0,0] (jk a n c b m d v (some ⟨h.next,0,none⟩) f g r o p e t u (f:Int) 0) i (KK SS ct [1,1,1,1,1,1,1,0,1,0] [] (EE SS ct Q))))(q:Nat){r:OA}{o p:Nat}{h:ae}(w:s q r o p h):LL SS ct [1,1,1,1,1,0,0,0] (jj a n c b m d v e t u r o p) h (KK SS ct [1,1,1,1,1,0,0] [] (EE SS ct Q)):=
 VN (jj a n c b m d v e t u) s (λq r o p x h w=>ai (step q r o p x h w)) q w
theorem ub(a:OA)(n c:Nat)(b:OA)(m d:Nat)(B:Int)(g:OA)(s x:Nat)(r:OA)(w y:Nat)(e:OA)(z A:Nat)(t:Int)(v:Nat->Nat->ae->Prop)(Q:VH)(step:∀(u:Nat) (i:Nat) (D:Nat->Value) (h:ae),v u i h->au (decide (((i:Int):Int)<t)) (xL (bF SS.P 177 (.slice r w y) (some (.int .i64 (wrap .i64 (wrap .i64 ((s:Int)-1)-(i:Int))))) (some (.int .i64 (wrap .i64 (wrap .i64 (wrap .i64 (wrap .i64 ((s:Int)-1)-(i:Int))+(m:Int))+1)))) none h) λo p q=>FW SS 203 [(.slice o p q),(.slice e z A)] h λk l=>yI .u64 k λj=>xP (aD SS.P 177 (.slice g s x) (.int .i64 (wrap .i64 (wrap .i64 ((s:Int)-1)-(i:Int))))) λh=>xU (ah SS.P 150 (.pointer (some h)) (.int .u64 j) l) l λ_ f=>aJ (fs (jk a n c b m d B g s x r w y e z A t) v) u [(.slice a n c),(.slice b m d),(.slice g s x),(iA m),(.int .u64 B),(.slice r w y),(.slice e z A),(.int .i64 t),(.int .i64 (wrap .i64 ((i:Int)+1)))] f) (FW SS 174 [(.slice r w y)] h λd e=>yL d λa b c=>LL SS ct [1,1,1,1,1,1,1,1,1,1,0,1,0,0] (jl B g s x a b c (b:Int) 0 0) e (KK SS ct [1,1,1,1,1,1,1,1,1,1,0,1,0] [] (EE SS ct Q))))(u:Nat){i:Nat}{h:ae}(C:v u i h):LL SS ct [1,1,1,1,1,1,1,0,1,0,0] (jk a n c b m d B g s x r w y e z A t i) h (KK SS ct [1,1,1,1,1,1,1,0,1,0] [] (EE SS ct Q)):=
 dc (jk a n c b m d B g s x r w y e z A t) v (λu i D h C=>ai (step u i D h C)) u C
theorem ud(a:OA)(n c:Nat)(b:OA)(m d:Nat)(s:Int)(g:OA)(u t:Nat)(r:OA)(k p:Nat)(l:Int)(q:Nat->Nat->Int->ae->Prop)(Q:VH)(step:∀(o:Nat) (i:Nat) (left:Int) (w:Nat->Value) (h:ae),q o i left h->au (decide (((i:Int):Int)<l)) (xP (aD SS.P 177 (.slice r k p) (.int .i64 (wrap .i64 (wrap .i64 ((k:Int)-1)-(i:Int))))) λf=>xI .u64 (aj SS.P 150 h (.pointer (some f))) λe=>xI .u64 (ay SS.P .quo 150 (.int .u64 (wrap .u64 (wrap .u64 (left*1000000000)+e))) (.int .u64 s)) λd=>xI .u64 (ay SS.P .rem 150 (.int .u64 (wrap .u64 (wrap .u64 (left*1000000000)+e))) (.int .u64 s)) λc=>xP (aD SS.P 177 (.slice r k p) (.int .i64 (wrap .i64 (wrap .i64 ((k:Int)-1)-(i:Int))))) λb=>xU (ah SS.P 150 (.pointer (some b)) (.int .u64 d) (room h 11)) (room h 11) λ_ a=>aJ (pL (jl s g u t r k p l) q) o [(.slice g u t),(.slice r k p),(.int .u64 s),(.int .u64 c),(.int .i64 l),(.int .i64 (wrap .i64 ((i:Int)+1)))] a) (FW SS 174 [(.slice g u t)] h λi j=>yL i λf g h=>FW SS 174 [(.slice r k p)] j λd e=>yL d λa b c=>Q (.tuple ⟨[(.slice f g h),(.slice a b c)]⟩) e))(o:Nat){i:Nat}{left:Int}{h:ae}(v:q o i left h):LL SS ct [1,1,1,1,1,1,1,1,1,1,0,1,0,0] (jl s g u t r k p l i left) h (KK SS ct [1,1,1,1,1,1,1,1,1,1,0,1,0] [] (EE SS ct Q)):=
 mh (jl s g u t r k p l) q (λo i left w h v=>ai (step o i left w h v)) o v
variable{h:ae}{n:Nat}
section
def cO(cs:List Value)(off:Nat)(W:List Nat):List Value:=cs.take off++W.map uv++cs.drop (off+W.length)
structure Jt(h:ae)(k:Nat)(h':ae):Prop where
 wf:Wf h'
 kL:∀j B,j≠k->h.get j=some B->h'.get j=some B
 nx:h.next<=h'.next
theorem Jt.refl{k:Nat}(w:Wf h):Jt h k h:=⟨w,λ_ _ _ h=>h,Nat.le_refl _⟩
theorem Jt.room{h a:ae}{k:Nat}(o:Jt h k a)(n:Nat):Jt h k (room a n):=⟨λj B b=>lt_of_lt_of_le (o.wf j B b) (Nat.le_add_right _ _),o.kL,Nat.le_trans o.nx (Nat.le_add_right _ _)⟩
theorem Jt.set{c:ae}{k:Nat}(o:Jt h k c)(d:k<c.next)(B:dV):Jt h k (c.set k B):=by
 refine⟨λj C a=>?_,λj C b a=>?_,o.nx⟩
 ·rw[ae.aw]at a;split at a
  ·next e=>rw[e];exact d
  ·exact o.wf _ _ a
 ·rw[ae.aw,if_neg b];exact o.kL _ _ b a
theorem yi{k off c:Nat}{i:Int}(b:0<=i)(a:i<n):aD SS.P 177 (.slice (some ⟨k,off,none⟩) n c) (.int .i64 i)=some (.pointer (some ⟨k,off+i.toNat,none⟩)):=by
 unfold aD;rw[Bs];dsimp only;rw[EM];dsimp only;rw[if_pos ⟨b,a⟩,Nat.mul_one,dz]
section
variable {g:ae} {k off:Nat} {cs:List Value} {W:List Nat}
theorem DD(b:g.get k=some (.cells (cO cs off W) 150 1 true))(c:off+W.length<=cs.length){i:Nat}(a:i<W.length):aj SS.P 150 g (.pointer (some ⟨k,off+i,none⟩))=some (.int .u64 (W.getD i 0:Nat)):=by
 unfold aj;rw[Pa];dsimp only;rw[b];dsimp only;rw[Og];simp only[Bool.false_eq_true,if_false];unfold cO;rw[append_assoc,List.getElem?_append_right (by rw[length_take];omega),length_take,min_eq_left (by omega),Nat.add_sub_cancel_left,List.getElem?_append_left (by rw[lM];exact a),List.getElem?_map,gE a,gD,gE a];rfl
theorem Ef(h:g.get k=some (.cells (cO cs off W) 150 1 true))(j:off+W.length<=cs.length){i:Nat}(b:i<W.length)(d:Nat):ah SS.P 150 (.pointer (some ⟨k,off+i,none⟩)) (.int .u64 (d:Int)) g=some (undef,.set k (.cells (cO cs off (W.set i d)) 150 1 true)):=by
 show(if aG SS.P 150=some 1 then(storeAt g k (off+i) [.int .u64 (d:Int)]).map λu=>(undef,u)else none)=_;rw[if_pos EM];unfold storeAt;rw[h];dsimp only;have a:(cO cs off W).length=cs.length:=by
  unfold cO;simp only[length_append,length_take,lM,length_drop];omega
 rw[if_pos ⟨by rw[a];simp;omega,rfl⟩];have e:(cO cs off W).take (off+i)++[Value.int .u64 (d:Int)]++(cO cs off W).drop (off+i+[Value.int .u64 (d:Int)].length)=cO cs off (W.set i d):=by
  have f:(cs.take off).length=off:=by rw[length_take];omega
  have c:(cO cs off W).take (off+i)++[Value.int .u64 (d:Int)]++(cO cs off W).drop (off+i+[Value.int .u64 (d:Int)].length)=(cO cs off W).set (off+i) (.int .u64 (d:Int)):=by
   rw[List.set_eq_take_append_cons_drop,if_pos (by rw[a];omega),append_assoc];rfl
  rw[c];unfold cO;rw[append_assoc,List.set_append,if_neg (by omega),f,Nat.add_sub_cancel_left,List.set_append,if_pos (by rw[lM];exact b),length_set,append_assoc,List.map_set];rfl
 rw[e];rfl
end
end
variable{z:Int}{k:Nat}{m:Nat}{y:List Nat}{l:Nat}
theorem D5{a:Nat}:ay SS.P .rem 150 (.int .u64 (a:Int)) (.int .u64 1000000000)=some (.int .u64 ((a%BB:Nat):Int)):=by
 have:=gU (P:=SS.P) (t:=150) (k:= .u64) (a:=(a:Int)) (b:=BB) (by omega) (by decide);rw[<-natCast_emod]at this;exact this
theorem Gt{a:Nat}(h:a<18446744073709551616):ay SS.P .quo 150 (.int .u64 (a:Int)) (.int .u64 1000000000)=some (.int .u64 ((a/BB:Nat):Int)):=by
 have:=qb (P:=SS.P) (t:=150) (a:=(a:Int)) (b:=BB) (by omega) (by omega) (by decide);rw[<-natCast_ediv]at this;exact this
theorem aaI{a b:Nat}(c:0<b):ay SS.P .rem 150 (.int .u64 (a:Int)) (.int .u64 (b:Int))=some (.int .u64 ((a%b:Nat):Int)):=by
 have:=gU (P:=SS.P) (t:=150) (k:= .u64) (a:=(a:Int)) (b:=b) (by omega) c;rw[<-natCast_emod]at this;exact this
theorem U7{a b:Nat}(h:a<18446744073709551616)(c:0<b):ay SS.P .quo 150 (.int .u64 (a:Int)) (.int .u64 (b:Int))=some (.int .u64 ((a/b:Nat):Int)):=by
 have:=qb (P:=SS.P) (t:=150) (a:=(a:Int)) (b:=b) (by omega) (by omega) c;rw[<-natCast_ediv]at this;exact this
theorem wU(h:z=(n:Int))(a:n<18446744073709551616):wrap .u64 z=(n:Int):=by rw[h];exact gV (by omega) (by omega)
structure aah(h:ae)(k off c m:Nat)(cs:List Value)(U V:List Nat)(b:Option Addr)(d:Nat):Prop where
 w:Wf h
 get:h.get k=some (.cells (cO cs off U) 150 1 true)
 fit:off+U.length<=cs.length
 ul:U.length=m+1
 vl:V.length=m
 mp:0<m
 mle:m<=10000
 ult:∀x∈U,x<BB
 vlt:∀x∈V,x<BB
 v1:0<V.getD (m-1) 0
 lt:Num.bv BB U<BB*Num.bv BB V
 rd:∀g,Jt h k g->Rd g 150 (.slice b m d) (V.map uv)
def G4(h:ae)(k a:Nat)(cs:List Value)(m:Nat)(U V:List Nat):VH:=λv b=>∃W:List Nat,W.length=m+1/\(∀x∈W,x<BB)/\Num.bv BB W=Num.bv BB U%Num.bv BB V/\v=uv (Num.bv BB U/Num.bv BB V)/\b.get k=some (.cells (cO cs a W) 150 1 true)/\Jt h k b
theorem Kr{c:Nat}{cs:List Value}{V:List Nat}{b:Option Addr}(D:aah h k n c m cs y V b l):
  FW SS 203 [.slice (some ⟨k,n,none⟩) (m+1) c,.slice b m l] h (G4 h k n cs m y V):=by
 have y2:BB=1000000000:=rfl;have w2:=D.ul;have v8:=D.vl;have x6:=D.mp;have u8:=D.mle;have I:0<BB:=by decide
 have ug:∀i,y.getD i 0<BB:=λi=>ba I D.ult i;have vg:∀i,V.getD i 0<BB:=λi=>ba I D.vlt i;have y6:wrap .i64 ((m:Int)-1)=((m-1:Nat):Int):=by rw[aB (by omega) (by omega)];omega
 have z6:1<m->wrap .i64 ((m:Int)-2)=((m-2:Nat):Int):=λhm=>by rw[aB (by omega) (by omega)];omega
 have P:wrap .i64 ((m:Int)+1)=(m:Int)+1:=aB (by omega) (by omega);have wi:∀i:Nat,i<=m->wrap .i64 ((i:Int)+1)=((i+1:Nat):Int):=λi hi=>by rw[aB (by omega) (by omega)];omega
 have L3:=λ(d:Nat) (W:List Nat) (y5:0<d) (C:d<BB) (w1:W.length=m+1) (w:∀x∈W,x<BB) (hq:d-1=Num.bv BB y/Num.bv BB V) (z4:Num.bv BB (bj (aQ BB) W V 0 (m+1) 0)=Num.bv BB y%Num.bv BB V)=>
  vI (some ⟨k,n,none⟩) (m+1) c b m l (d:Int) ((m:Int)+1) (λa i cy g=>i<=m+1/\a=m+1-i/\cy=(eO (aQ BB) W V 0 0 i:Nat)/\g.get k=some (.cells (cO cs n (bj (aQ BB) W V 0 i 0++W.drop i)) 150 1 true)/\Jt h k g) (G4 h k n cs m y V) (by
  intro a i cy;intros;rename_i g hi;obtain⟨h1,h2,rfl,B,H⟩:=hi;have r:(bj (aQ BB) W V 0 i 0).length=i:=fb _ _ _ _ _ _;have L:=im (aQ BB) W V i 0 0;rw[Nat.zero_add]at L;have x0:eO (aQ BB) W V 0 0 (i+1)=(aQ BB (W.getD i 0) (V.getD i 0) (eO (aQ BB) W V 0 0 i)).2:=by
   show(aQ BB (W.getD (0+i) 0) (V.getD (0+i) 0) _).2=_;rw[Nat.zero_add]
  have wg:W.getD i 0<BB:=ba I w i;have v4:eO (aQ BB) W V 0 0 i<=1:=by
   clear x0 L r B h2 h1
   induction i with
   |zero=>exact Nat.zero_le _
   |succ j ih=>
    have a1:=ba (b:=BB) I w (0+j);have a2:=vg (0+j);have a3:=ih (ba I w j);show(W.getD (0+j) 0+V.getD (0+j) 0+eO (aQ BB) W V 0 0 j)/BB<=1;have:(W.getD (0+j) 0+V.getD (0+j) 0+eO (aQ BB) W V 0 0 j)/BB<2:=Nat.div_lt_of_lt_mul (by omega);omega
  have u5:=vg i;have o:(bj (aQ BB) W V 0 i 0++W.drop i).length=m+1:=by rw[length_append,r,length_drop];omega
  have J:=D.fit;refine aa (λA=>?_) (λA=>?_)
  ·have A:=dT A;have M:=DD B (by rw[o];omega) (i:=i) (by rw[o];omega);rw[xv _ _ r]at M;have X:=H.wf _ _ B;have step:∀(s:Nat),s=W.getD i 0+V.getD i 0+eO (aQ BB) W V 0 0 i->
     ah SS.P 150 (.pointer (some ⟨k,n+i,none⟩)) (.int .u64 ((s%BB:Nat):Int)) g=some (undef,.set k (.cells (cO cs n (bj (aQ BB) W V 0 (i+1) 0++W.drop (i+1))) 150 1 true)):=λs Y=>by
    rw[Ef B (by rw[o];omega) (by rw[o];omega),A5 _ _ r (by omega),L,Y];rfl
   refine⟨_,yi (by omega) (by omega),_,by rw[toNat_natCast];exact M,?_⟩;have e1:wrap .u64 (((W.getD i 0:Nat):Int)+((eO (aQ BB) W V 0 0 i:Nat):Int))=((W.getD i 0+eO (aQ BB) W V 0 0 i:Nat):Int):=wU (by omega) (by omega);dsimp only;rw[e1,wi i (by omega)];refine aa (λf=>?_) (λf=>?_)
   ·have f:=dT f;obtain⟨p,Q,K⟩:=FV (D.rd g H) (i:=(i:Int)) (by omega) (by omega);rw[toNat_natCast]at K;refine⟨p,Q,_,K,?_⟩;have e2:wrap .u64 (((W.getD i 0+eO (aQ BB) W V 0 0 i:Nat):Int)+((V.getD i 0:Nat):Int))=((W.getD i 0+V.getD i 0+eO (aQ BB) W V 0 0 i:Nat):Int):=wU (by omega) (by omega);dsimp only;rw[e2];refine⟨_,D5,_,Gt (by omega),_,yi (by omega) (by omega),_,by rw[toNat_natCast];exact step _ rfl,?_⟩;refine gY (a-1) (by omega) ⟨by omega,by omega,by rw[x0];rfl,?_,H.set X _⟩;show(g.set k _).get k=_;rw[ae.aw,if_pos rfl]
   ·have f:=dF f;have x8:V.getD i 0=0:=by rw[gD,getElem?_eq_none (by omega)];rfl
    refine⟨_,D5,_,Gt (by omega),_,yi (by omega) (by omega),_,by rw[toNat_natCast];exact step _ (by omega),?_⟩;refine gY (a-1) (by omega) ⟨by omega,by omega,?_,?_,H.set X _⟩
    ·rw[x0];show _=(((W.getD i 0+V.getD i 0+eO (aQ BB) W V 0 0 i)/BB:Nat):Int);rw[x8,Nat.add_zero]
    ·show(g.set k _).get k=_;rw[ae.aw,if_pos rfl]
  ·have A:=dF A;obtain rfl:i=m+1:=by omega
   have e3:wrap .u64 ((d:Int)-1)=((d-1:Nat):Int):=wU (by omega) (by omega);rw[e3];rw[List.drop_of_length_le (by omega),List.append_nil]at B;exact⟨_,r,jy (λp q c=>mod_lt _ I) _ _ _ _ _,z4,by rw[hq];rfl,B,H⟩)
 have L2:=λ(d:Nat) (C:d<BB) (u4:Num.bv BB y<(d+1)*Num.bv BB V) (u1:d*Num.bv BB V<Num.bv BB y+Num.bv BB V)=>
  vH (some ⟨k,n,none⟩) (m+1) c b m l (d:Int) ((m:Int)+1) (λa i F cy g=>i<=m+1/\a=m+1-i/\F=((bV BB d y V 0 i 0 0).2.1:Nat)/\cy=((bV BB d y V 0 i 0 0).2.2:Nat)/\g.get k=some (.cells (cO cs n ((bV BB d y V 0 i 0 0).1++y.drop i)) 150 1 true)/\Jt h k g) (G4 h k n cs m y V) (by
  intro a i F cy;intros;rename_i g hi;obtain⟨h1,h2,rfl,rfl,B,H⟩:=hi;have r:(bV BB d y V 0 i 0 0).1.length=i:=rD _ _ _ _ _ _ _ _;have L:=tD BB d y V i 0 0 0;rw[Nat.zero_add]at L;have z5:=EV (q:=d) (v:=V) gQ D.ult i;have z9:=ta gQ C (u:=y) D.vlt i;generalize u2:bV BB d y V 0 i 0 0=st at*;obtain⟨Wl,F,cy⟩:=st;dsimp only at r B z5 z9 L⊢;have o:(Wl++y.drop i).length=m+1:=by rw[length_append,r,length_drop];omega
  have J:=D.fit;have v7:=ug i;have u5:=vg i;have y4:d*V.getD i 0<=999999999*999999999:=mul_le_mul (by omega) (by omega);refine aa (λA=>?_) (λA=>?_)
  ·have A:=dT A;have M:=DD B (by rw[o];omega) (i:=i) (by rw[o];omega);rw[xv _ _ r]at M;have X:=H.wf _ _ B;have step:∀(s:Nat),s=d*V.getD i 0+cy->
     ah SS.P 150 (.pointer (some ⟨k,n+i,none⟩)) (.int .u64 (((y.getD i 0+BB-s%BB-F)%BB:Nat):Int)) g=some (undef,.set k (.cells (cO cs n ((bV BB d y V 0 (i+1) 0 0).1++y.drop (i+1))) 150 1 true)):=λs Y=>by
    rw[Ef B (by rw[o];omega) (by rw[o];omega),A5 _ _ r (by omega),L,Y];rfl
   have Z:∀(s:Nat),s=d*V.getD i 0+cy->∀(u0:Addr),u0=⟨k,n+i,none⟩->
     ∃y8:Int,ay SS.P .rem 150 (.int .u64 (s:Int)) (.int .u64 1000000000)=some (.int .u64 y8)/\y8=((s%BB:Nat):Int):=λs _ _ _=>⟨_,D5,rfl⟩
   rw[wi i (by omega)];have x4:∀(s:Nat),s=d*V.getD i 0+cy->((1-(y.getD i 0+BB-s%BB-F)/BB:Nat):Int)=((bV BB d y V 0 (i+1) 0 0).2.1:Nat)/\((s/BB:Nat):Int)=((bV BB d y V 0 (i+1) 0 0).2.2:Nat):=λs Y=>by
    rw[L,Y];exact⟨rfl,rfl⟩
   have ed:∀s:Nat,wrap .u64 (wrap .u64 (wrap .u64 (((y.getD i 0:Nat):Int)+1000000000)-((s%BB:Nat):Int))-(F:Int))=((y.getD i 0+BB-s%BB-F:Nat):Int):=λs=>by
    have hm:=mod_lt s I;generalize s%BB=z at hm;have a1:wrap .u64 (((y.getD i 0:Nat):Int)+1000000000)=((y.getD i 0+BB:Nat):Int):=wU (by omega) (by omega);have a2:wrap .u64 (((y.getD i 0+BB:Nat):Int)-(z:Int))=((y.getD i 0+BB-z:Nat):Int):=wU (by omega) (by omega);have a3:wrap .u64 (((y.getD i 0+BB-z:Nat):Int)-(F:Int))=((y.getD i 0+BB-z-F:Nat):Int):=wU (by omega) (by omega);rw[a1,a2,a3]
   have z1:∀s:Nat,wrap .u64 (1-(((y.getD i 0+BB-s%BB-F)/BB:Nat):Int))=((1-(y.getD i 0+BB-s%BB-F)/BB:Nat):Int):=λs=>by
    have h9:(y.getD i 0+BB-s%BB-F)/BB<2:=Nat.div_lt_of_lt_mul (by omega);generalize (y.getD i 0+BB-s%BB-F)/BB=z at h9⊢;exact wU (by omega) (by omega)
   refine aa (λf=>?_) (λf=>?_)
   ·have f:=dT f;obtain⟨p,Q,K⟩:=FV (D.rd g H) (i:=(i:Int)) (by omega) (by omega);rw[toNat_natCast]at K;refine⟨p,Q,_,K,_,yi (by omega) (by omega),_,by rw[toNat_natCast];exact M,?_⟩;have e2:wrap .u64 ((cy:Int)+wrap .u64 ((d:Int)*((V.getD i 0:Nat):Int)))=((d*V.getD i 0+cy:Nat):Int):=by
     have e0:wrap .u64 ((d:Int)*((V.getD i 0:Nat):Int))=((d*V.getD i 0:Nat):Int):=wU (by rw[Int.natCast_mul]) (by omega);rw[e0];exact wU (by omega) (by omega)
    rw[e2];refine⟨_,D5,?_⟩;dsimp only;rw[ed];have hm:=mod_lt (d*V.getD i 0+cy) I;refine⟨_,D5,_,Gt (by omega),_,Gt (by omega),_,yi (by omega) (by omega),_,by rw[toNat_natCast];exact step _ rfl,?_⟩;rw[z1];refine Kb (a-1) (by omega) ⟨by omega,by omega,(x4 _ rfl).1,(x4 _ rfl).2,?_,H.set X _⟩;show(g.set k _).get k=_;rw[ae.aw,if_pos rfl]
   ·have f:=dF f;have x8:V.getD i 0=0:=by rw[gD,getElem?_eq_none (by omega)];rfl
    have x5:cy=d*V.getD i 0+cy:=by rw[x8,Nat.mul_zero,Nat.zero_add]
    refine⟨_,yi (by omega) (by omega),_,by rw[toNat_natCast];exact M,_,D5,?_⟩;dsimp only;rw[ed];have hm:=mod_lt cy I;refine⟨_,D5,_,Gt (by omega),_,Gt (by omega),_,yi (by omega) (by omega),_,by rw[toNat_natCast];exact step _ x5,?_⟩;rw[z1];refine Kb (a-1) (by omega) ⟨by omega,by omega,(x4 _ x5).1,(x4 _ x5).2,?_,H.set X _⟩;show(g.set k _).get k=_;rw[ae.aw,if_pos rfl]
  ·have A:=dF A;obtain rfl:i=m+1:=by omega
   obtain⟨d0,d1,d2⟩:=Hc gQ D.ult D.vlt D.ul D.vl C u4 u1;have w:=uP (q:=d) gQ y V (m+1) 0 0 0;rw[u2]at d0 d1 d2 w;dsimp only at d0 d1 d2 w;rw[List.drop_of_length_le (by omega),List.append_nil]at B;refine aa (λf=>?_) (λf=>?_)
   ·have f:(F:Int)=0:=by simpa using f
    obtain⟨e1,e2⟩:=d1 (by omega);exact⟨Wl,r,w,e2,by rw[e1];rfl,B,H⟩
   ·have f:¬(F:Int)=0:=by simpa using f
    obtain⟨e0,e1,e2⟩:=d2 (by omega);rw[P];exact L3 d Wl e0 C r w e1 e2 (m+1) (i:=0) ⟨by omega,by omega,rfl,by simpa[bj]using B,H⟩)
 have O:=D.v1;have y1:y.getD m 0*BB+y.getD (m-1) 0<1000000000000000000:=by
  have a1:=ug m;have a2:=ug (m-1);have a3:y.getD m 0*BB=1000000000*y.getD m 0:=by rw[y2,Nat.mul_comm]
  omega
 have L1:=vG (some ⟨k,n,none⟩) (m+1) c b m l (λa q Z g=>∃d G:Nat,q=(d:Int)/\Z=(G:Int)/\a=d/\il BB m y V d G/\g.get k=some (.cells (cO cs n y) 150 1 true)/\Jt h k g) (G4 h k n cs m y V) (by
  intro a q Z;intros;rename_i g hi;obtain⟨d,G,rfl,rfl,rfl,T,B,H⟩:=hi;have hT:=T.eq;have J:=D.fit;have v9:G<1000000000000000000:=Nat.lt_of_le_of_lt (by rw[<-hT];omega) y1;have v6:a<1000000000000000000:=by
   refine Nat.lt_of_le_of_lt ?_ y1;rw[<-hT];have:=Nat.le_mul_of_pos_right a O;omega
  have t:=H.room 28;have E:(room g 28).get k=some (.cells (cO cs n y) 150 1 true):=B;have v2:=vg (m-1);have hj:((m-1:Nat):Int).toNat=m-1:=by omega
  obtain⟨p1,Q,K⟩:=FV (D.rd _ t) (i:=((m-1:Nat):Int)) (by omega) (by omega);rw[hj]at K;have er:wrap .u64 ((G:Int)+((V.getD (m-1) 0:Nat):Int))=((G+V.getD (m-1) 0:Nat):Int):=wU (by omega) (by omega);have u7:∀(S:Nat),S<BB->Num.bv BB y<(S+1)*Num.bv BB V->S*Num.bv BB V<Num.bv BB y+Num.bv BB V->_:=λS h1 h2 h3=>L2 S h1 h2 h3;have y3:Num.bv BB y<a*Num.bv BB V->0<a/\il BB m y V (a-1) (G+V.getD (m-1) 0):=λM=>⟨by
   rcases Nat.eq_zero_or_pos a with e|e
   ·subst e;rw[Nat.zero_mul]at M;omega
   ·exact e,T.lower M⟩
  have x3:a-1<BB->BB<=G+V.getD (m-1) 0->il BB m y V (a-1) (G+V.getD (m-1) 0)->(a-1)*Num.bv BB V<Num.bv BB y+Num.bv BB V:=λh1 h2 N=>
   N.last gQ D.ul D.vl x6 D.vlt O h1 λ_=>vR h1 (vg (m-2)) h2
  have v0:Num.bv BB y<a*Num.bv BB V->True:=λ_=>trivial;rw[y6];refine aa (λA=>?_) (λA=>?_)
  ·have A:=dT A;obtain⟨y5,N⟩:=y3 (il.adq D.lt (by omega));have x9:wrap .u64 ((a:Int)-1)=((a-1:Nat):Int):=wU (by omega) (by omega);rw[x9];refine⟨p1,Q,_,K,?_⟩;dsimp only;rw[er];generalize x2:decide (((a-1:Nat):Int)<1000000000)=bz;refine aa (λf=>aa (λR=>?_) (λR=>?_)) (λf=>?_)
   ·subst x2;have f:=dT f;have R:=dT R;rw[P];exact L2 (a-1) (by omega) N.hi (x3 (by omega) (by omega) N) (m+1) (i:=0) ⟨by omega,by omega,rfl,rfl,by simpa[bV]using E,t⟩
   ·exact gY (a-1) (by omega) ⟨a-1,_,rfl,rfl,rfl,N,E,t⟩
   ·exact gY (a-1) (by omega) ⟨a-1,_,rfl,rfl,rfl,N,E,t⟩
  ·have A:=dF A;have C:a<BB:=by omega
   have x1:(1<m->a*V.getD (m-2) 0<=G*BB+y.getD (m-2) 0)->a*Num.bv BB V<Num.bv BB y+Num.bv BB V:=λY=>T.last gQ D.ul D.vl x6 D.vlt O C Y;refine aa (λf=>?_) (λf=>?_)
   ·have f:=dT f;have y9:1<m:=by omega
    rw[z6 y9];generalize x2:decide ((G:Int)<1000000000)=bz;refine aa (λR=>?_) (λR=>?_)
    ·subst x2;have R:=dT R;have z3:((m-2:Nat):Int).toNat=m-2:=by omega
     obtain⟨p2,g4,g5⟩:=FV (D.rd _ t) (i:=((m-2:Nat):Int)) (by omega) (by omega);rw[z3]at g5;have M:=DD E J (i:=m-2) (by omega);refine⟨p2,g4,_,g5,_,yi (by omega) (by omega),_,by rw[z3];exact M,?_⟩;have v3:=vg (m-2);have w0:=ug (m-2);have y4:a*V.getD (m-2) 0<=999999999*999999999:=mul_le_mul (by omega) (by omega);have ea:wrap .u64 ((a:Int)*((V.getD (m-2) 0:Nat):Int))=((a*V.getD (m-2) 0:Nat):Int):=wU (by rw[Int.natCast_mul]) (by omega);obtain⟨RB,y0⟩:∃x,x=G*BB:=⟨_,rfl⟩
     have u9:RB=1000000000*G:=by rw[y0,y2,Nat.mul_comm]
     obtain⟨MV,x7⟩:∃x,x=a*V.getD (m-2) 0:=⟨_,rfl⟩
     rw[<-x7]at y4 ea;have eb:wrap .u64 ((G:Int)*1000000000)=(RB:Int):=wU (by omega) (by omega);have ec:wrap .u64 ((RB:Int)+((y.getD (m-2) 0:Nat):Int))=((RB+y.getD (m-2) 0:Nat):Int):=wU (by omega) (by omega);dsimp only;rw[ea,eb,ec];generalize z0:decide ((MV:Int)>((RB+y.getD (m-2) 0:Nat):Int))=v5;refine aa (λh8=>?_) (λh8=>?_)
     ·subst z0;have h8:=dT h8;obtain⟨y5,N⟩:=y3 (T.second D.ul D.vl y9 D.ult (by rw[<-y0,<-x7];omega));have x9:wrap .u64 ((a:Int)-1)=((a-1:Nat):Int):=wU (by omega) (by omega);rw[x9];refine⟨p1,Q,_,K,?_⟩;dsimp only;rw[er];generalize w3:decide (((a-1:Nat):Int)<1000000000)=bx;refine aa (λh9=>aa (λu6=>?_) (λu6=>?_)) (λh9=>?_)
      ·have h9:=dT h9;rw[P];exact L2 (a-1) (by omega) N.hi (x3 (by omega) (by omega) N) (m+1) (i:=0) ⟨by omega,by omega,rfl,rfl,by simpa[bV]using E,t⟩
      ·exact gY (a-1) (by omega) ⟨a-1,_,rfl,rfl,rfl,N,E,t⟩
      ·exact gY (a-1) (by omega) ⟨a-1,_,rfl,rfl,rfl,N,E,t⟩
     ·subst z0;have h8:=dF h8;rw[P];exact L2 a C T.hi (x1 λ_=>by rw[<-y0,<-x7];omega) (m+1) (i:=0) ⟨by omega,by omega,rfl,rfl,by simpa[bV]using E,t⟩
    ·subst x2;have R:=dF R;rw[P];exact L2 a C T.hi (x1 λ_=>vR C (vg (m-2)) (by omega)) (m+1) (i:=0) ⟨by omega,by omega,rfl,rfl,by simpa[bV]using E,t⟩
   ·have f:=dF f;rw[P];exact L2 a C T.hi (x1 λhm=>by omega) (m+1) (i:=0) ⟨by omega,by omega,rfl,rfl,by simpa[bV]using E,t⟩)
 have z8:=(Jt.refl (k:=k) D.w).room 12;have z2:=z8.room 16;have J:=D.fit;have hj:((m-1:Nat):Int).toNat=m-1:=by omega
 have z7:=DD (g:=room h 12) D.get J (i:=m) (by omega);have u3:=DD (g:=room h 12) D.get J (i:=m-1) (by omega);obtain⟨p1,Q,K⟩:=FV (D.rd _ z2) (i:=((m-1:Nat):Int)) (by omega) (by omega);rw[hj]at K;have a1:=ug m;have a2:=ug (m-1);refine Kq _ _ _ _ _ _ h _ ⟨_,yi (by omega) (by omega),_,by rw[toNat_natCast];exact z7,?_⟩;rw[y6];refine⟨_,yi (by omega) (by omega),_,by rw[hj];exact u3,p1,Q,_,K,?_⟩;obtain⟨TB,y7⟩:∃x,x=y.getD m 0*BB:=⟨_,rfl⟩
 have v1:TB=1000000000*y.getD m 0:=by rw[y7,y2,Nat.mul_comm]
 have ea:wrap .u64 (((y.getD m 0:Nat):Int)*1000000000)=(TB:Int):=wU (by omega) (by omega);have eb:wrap .u64 ((TB:Int)+((y.getD (m-1) 0:Nat):Int))=((TB+y.getD (m-1) 0:Nat):Int):=wU (by omega) (by omega);rw[ea,eb];have U:=il.start gQ D.ul D.vl x6 D.ult O;rw[<-y7]at U;refine⟨_,U7 (by omega) O,p1,Q,_,K,_,aaI O,?_⟩;exact L1 _ ⟨_,_,rfl,rfl,rfl,U,D.get,z2⟩
variable{g:ae}{T:TypeId}{v:Value}{c:List Value}{a:Option Addr}{x:List Nat}
theorem eo.aef{b:ae}(d:g.next<=b.next)(o:eo b h T v c):eo g h T v c:=by
 rcases o with o|⟨k,cs,a,f,e,i,j⟩
 ·exact .inl o
 ·exact .inr ⟨k,cs,a,Nat.le_trans d f,e,i,j⟩
theorem abf(k:Int):eL SS.P 150 (.int .u64 k)=some (.cells [.int .u64 k] 150 0 true,lk):=by kernel_rfl
theorem yw{c:Nat}(p:Rd h 150 (.slice a n c) (x.map uv))(m:∀d∈x,d<BB)(b:x.length<=10000){k:Nat}(g:0<k)(q:k<=BB)(w:Wf h):
  FW SS 202 [.slice a n c,.int .u64 (k:Int)] h (je h 150 (bl (Num.bv BB x*k))):=by
 have e:=(Ok.refl w).push (.cells [.int .u64 (k:Int)] 150 0 true);refine HZ a n c _ h _ ⟨_,abf _,?_⟩;have r:aj SS.P 150 (h.push (.cells [.int .u64 (k:Int)] 150 0 true)) (.pointer (some ⟨h.next,0,none⟩))=some (.int .u64 (k:Int)):=by
  unfold aj;rw[Pa];dsimp only;rw[ae.bt,if_pos rfl];dsimp only;rw[Og];rfl
 refine(Fb (p.ok e) m b r g q e.wf).mono ?_;rintro _ s ⟨j,f,l,rfl,o,i⟩;exact⟨j,f,l,rfl,j,f,l,rfl,eo.aef (Nat.le_succ _) o,e.trans i⟩
def CV(h:ae)(k a n c:Nat)(l:List Nat):Prop:=∃cs b,h.get k=some (.cells cs 150 1 b)/\n=l.length/\(cs.drop a).take n=l.map uv/\n<=bC c
theorem CV.rd{c:Nat}(r:CV h k n m c x):Rd h 150 (.slice (some ⟨k,n,none⟩) m c) (x.map uv):=by
 obtain⟨cs,d,b,rfl,a,e⟩:=r;exact .inr ⟨k,n,cs,c,d,by rw[lM],b,by rw[lM];exact a⟩
theorem CV.take{c:Nat}(r:CV h k n m c x){j:Nat}(g:j<=m):bF SS.P 177 (.slice (some ⟨k,n,none⟩) m c) none (some (.int .i64 (j:Int))) none h=some (.slice (some ⟨k,n,none⟩) j c)/\CV h k n j c (x.take j):=by
 obtain⟨cs,d,a,rfl,b,i⟩:=r;refine⟨?_,cs,d,a,by rw[length_take];omega,?_,by omega⟩
 ·unfold bF;dsimp only;rw[Bs];dsimp only[eU];rw[EM,a];dsimp only;have e:((j:Int)-((0:Nat):Int)).toNat=j:=by omega
  have f:((0:Nat):Int).toNat=0:=rfl;rw[if_pos (by simp),if_pos (by omega),e,f];rfl
 ·have:=congrArg (List.take j) b;rwa[List.take_take,min_eq_left g,<-map_take]at this
theorem p0{c:Nat}(r:CV h k n m c x)(y:x.length<=100000):
  FW SS 174 [.slice (some ⟨k,n,none⟩) m c] h (λv l=>v = .slice (some ⟨k,n,none⟩) (dS x).length c/\l=h):=by
 have s:m=x.length:=by obtain⟨_,_,_,D,_⟩:=r;exact D
 have L:=pq (some ⟨k,n,none⟩) m c (λa r q d g=>q<=x.length/\a=q/\r=some ⟨k,n,none⟩/\d=c/\CV h k n q c (x.take q)/\dS x=dS (x.take q)/\g=h) (λv l=>v = .slice (some ⟨k,n,none⟩) (dS x).length c/\l=h) (by
  intro a r q d;intros;rename_i g F;obtain⟨C,rfl,rfl,rfl,t,o,rfl⟩:=F;have E:wrap .i64 ((a:Int)-1)=(a:Int)-1:=aB (by omega) (by omega);rw[E];have f:a≠0->x.take a=x.take (a-1)++[x.getD (a-1) 0]:=λf=>by
   obtain⟨j,rfl⟩:∃j,a=j+1:=⟨a-1,by omega⟩
   rw[List.take_succ_eq_append_getElem (by omega),Nat.add_sub_cancel,gD,gE (by omega)];rfl
  refine aa (λe=>?_) (λe=>?_)
  ·have e:=dT e;obtain⟨p,A,w⟩:=FV t.rd (i:=(a:Int)-1) (by omega) (by rw[length_take];omega);have z:(x.take a).getD ((a:Int)-1).toNat 0=x.getD (a-1) 0:=by
    rw[show((a:Int)-1).toNat=a-1 by omega,gD,List.getElem?_take,if_pos (by omega),gD]
   rw[z]at w;refine⟨p,A,_,w,aa (λb=>?_) (λb=>?_)⟩
   ·have b:((x.getD (a-1) 0:Nat):Int)=0:=by simpa using b
    have b:x.getD (a-1) 0=0:=by omega
    obtain⟨B,u⟩:=t.take (j:=a-1) (by omega);rw[show((a:Int)-1)=((a-1:Nat):Int) by omega];refine⟨_,_,_,B,Kb (a-1) (by omega) ⟨by omega,rfl,rfl,rfl,?_,?_,rfl⟩⟩
    ·rw[List.take_take,min_eq_left (by omega)]at u;exact u
    ·rw[o,f (by omega),b,jh]
   ·have b:¬((x.getD (a-1) 0:Nat):Int)=0:=by simpa using b
    refine⟨?_,rfl⟩;rw[o,f (by omega),jW _ (by omega),<-f (by omega),length_take,min_eq_left C]
  ·have e:=dF e;obtain rfl:a=0:=by omega
   refine⟨?_,rfl⟩;rw[o];rfl)
 exact DJ _ m c h _ (L m ⟨by omega,rfl,rfl,rfl,by rw[show x.take m=x by rw[s,take_length]];exact r,by rw[show x.take m=x by rw[s,take_length]],rfl⟩)
theorem EL:∀n,db [uv 0] n=(List.replicate n 0).map uv
 |0=>rfl
 |n+1=>by rw[db,EL n];rfl
noncomputable def WJ:TypeInfo:=(SS.P.info? 150).getD default
theorem WK:SS.P.info? 150=some WJ:=by kernel_rfl
theorem NQ:WJ.size=1:=by kernel_rfl
theorem Ls:WJ.bytes=8:=by kernel_rfl
theorem aag:zeroOf SS.P 150=some (uv 0):=by kernel_rfl
theorem aaE(n:Nat)(a:n<=100000):ch SS.P 177 (.int .i64 (n:Int)) (.int .i64 (n:Int))=some (.cells ((List.replicate n 0).map uv) 150 1 true,mR n n):=by
 unfold ch bW;dsimp only;rw[Bs]
 try dsimp only
 change (match SS.P.info? 150,zeroOf SS.P 150 with
  |some i,some z=>(if z.cells.size=i.size/\0<i.size/\(0:Int)<=(n:Int)/\(n:Int)<=(n:Int)/\(n:Int)*i.bytes<=140737488355328/\(n:Int)<=1099511627776 then some (dV.cells (db z.cells.toList (n:Int).toNat) 150 i.size true,λk=>Value.slice (some ⟨k,0,none⟩) (n:Int).toNat (n:Int).toNat)else none)
  |_,_=>none)=_
 rw[WK,aag];dsimp only;rw[NQ,Ls,if_pos ⟨rfl,by omega,by omega,Int.le_refl _,by omega,by omega⟩];have e:((n:Int)).toNat=n:=by omega
 rw[e,show(uv 0).cells.toList=[uv 0]from rfl,EL];rfl
theorem nq(h:(c.drop n).take x.length=x.map uv):cO c n x=c:=by
 unfold cO;rw[<-h,append_assoc,<-List.drop_drop,List.take_append_drop,List.take_append_drop]
theorem E9{W:List Nat}(h:n+y.length<=x.length)(e:x.length<=c.length)(g:y.length=W.length)(f:(x.drop n).take W.length=W):
  cO (cO c 0 x) n y=cO c 0 (x.take n++y++x.drop (n+y.length)):=by
 unfold cO;have b:(c.take 0++x.map uv++c.drop (0+x.length)).take n=(x.take n).map uv:=by
  rw[take_zero,nil_append,List.take_append_of_le_length (by rw[lM];omega),map_take]
 have d:(c.take 0++x.map uv++c.drop (0+x.length)).drop (n+y.length)=(x.drop (n+y.length)).map uv++c.drop (0+x.length):=by
  rw[take_zero,nil_append,List.drop_append_of_le_length (by rw[lM];omega),List.map_drop]
 have a:(x.take n++y++x.drop (n+y.length)).length=x.length:=by
  simp only[length_append,length_take,length_drop];omega
 rw[b,d,a,map_append,map_append,take_zero,nil_append,append_assoc,append_assoc,append_assoc]
theorem qy(a:n+m<=x.length):((cO c 0 x).drop n).take m=((x.drop n).take m).map uv:=by
 unfold cO;rw[take_zero,nil_append,List.drop_append_of_le_length (by rw[lM];omega),List.take_append_of_le_length (by rw[length_drop,lM];omega),<-List.map_drop,<-map_take]
theorem DA(h:n+x.length<=c.length):(cO c n x).length=c.length:=by
 unfold cO;simp only[length_append,length_take,lM,length_drop];omega
theorem CV.IQ{c:Nat}(r:CV h k n m c x){lo hi:Nat}(f:lo<=hi)(i:hi<=m):bF SS.P 177 (.slice (some ⟨k,n,none⟩) m c) (some (.int .i64 (lo:Int))) (some (.int .i64 (hi:Int))) none h=some (.slice (some ⟨k,n+lo,none⟩) (hi-lo) (c-lo)):=by
 obtain⟨cs,g,a,rfl,e,j⟩:=r;unfold bF;dsimp only;rw[Bs];dsimp only[eU];rw[EM,a];dsimp only;have b:((hi:Int)-(lo:Int)).toNat=hi-lo:=by omega
 have d:((lo:Nat):Int).toNat=lo:=by omega
 rw[if_pos (by simp),if_pos (by omega),b,d,Nat.mul_one]
structure aaO(h2 G:ae)(ku kv kq:Nat)(cu:List Value)(cv:List Value)(U Ql:List Nat)(N m XK V j:Nat):Prop where
 ok:Ok h2 G
 w2:Wf h2
 u2:h2.next<=ku
 q2:h2.next<=kq
 gu:G.get ku=some (.cells (cO cu 0 U) 150 1 true)
 gv:G.get kv=some (.cells cv 150 1 true)
 gq:G.get kq=some (.cells (cO ((List.replicate (N+1-m) 0).map uv) 0 Ql) 150 1 true)
 uv':ku≠kv
 uq:ku≠kq
 vq:kv≠kq
 ul:U.length=N+1
 cl:N+1<=cu.length
 abK:Ql.length=N+1-m
 Z0:(cv.take (aX BB V).length)=bl V
 inv:iO BB m V XK U Ql j
end Go.Proofs.YtaaichlgdgjgjaaGreatDoor
end
section
set_option linter.defProp false
namespace Go.Proofs.YtaaichlgdgjgjaaGreatDoor
open Go Go.Ab Go.Num
variable{h:ae}{k:Nat}{n:Nat}{d:List Value}{x:List Nat}{g:ae}
def G5(h:ae)(X Y:Nat):VH:=λv a=>∃(g:Option Addr)(b e:Nat)(d:Option Addr)(c f:Nat),v = .tuple ⟨[.slice g b e,.slice d c f]⟩/\Rd a 150 (.slice g b e) (bl (X/Y))/\Rd a 150 (.slice d c f) (bl (X%Y))/\Ok h a
theorem Co{c:Nat}(b:h.get k=some (.cells (cO d 0 x) 150 1 true))(a:n=x.length)(e:n<=bC c):CV h k 0 n c x:=by
 refine⟨_,_,b,a,?_,e⟩;subst a;rw[qy (by omega),drop_zero,take_length]
theorem Ax{c:Nat}(r:CV g k 0 n c x)(b:∀d∈x,d<BB):Rd g 150 (.slice (some ⟨k,0,none⟩) (dS x).length c) (bl (Num.bv BB x)):=by
 obtain⟨e,i⟩:=xD x;have f:n=x.length:=by obtain⟨_,_,_,h,_⟩:=r;exact h
 have a:=(r.take (j:=(dS x).length) (by omega)).2.rd;rw[e,lf gQ b]at a;rw[lf gQ b];exact a
def Yt{h:ae}(w:Wf h){X Y ku kq f rc L k R:Nat}{C Zq:List Value}{Ql:List Nat}(G:h.next<=ku)(x3:h.next<=kq)(N:ku≠kq)(x6:f<=C.length)(x0:f<=10000)(V:L=Ql.length)(x4:L<=10000)(E:f<=bC rc)(u:L<=bC L)(v:0<k)(kB:k<=BB)
  (hQ:∀d∈Ql,d<BB) (Z:Num.bv BB Ql=X/Y) (hr:R/k=X%Y) (a:Option Addr) (n c:Nat) (b:Option Addr) (m d:Nat):=
 ud a n c b m d (k:Int) (some ⟨kq,0,none⟩) L L (some ⟨ku,0,none⟩) f rc (f:Int)
  (λD i left g=>i<=f/\D=f-i/\(∃(r:List Nat)(q:Nat),r.length=f/\left=(q:Int)/\k4 BB k R r (f-i) q/\g.get ku=some (.cells (cO C 0 r) 150 1 true))/\g.get kq=some (.cells (cO Zq 0 Ql) 150 1 true)/\Ok h g) (G5 h X Y) (by
  intro D i left;intros;rename_i g hi;obtain⟨h1,h2,⟨r,q,j,rfl,l,y⟩,B,S⟩:=hi;have P:BB=1000000000:=rfl;have J:wrap .i64 ((f:Int)-1)=(f:Int)-1:=aB (by omega) (by omega);have F:wrap .i64 ((f:Int)-1-(i:Int))=(f:Int)-1-(i:Int):=aB (by omega) (by omega);have H:wrap .i64 ((i:Int)+1)=((i+1:Nat):Int):=by rw[aB (by omega) (by omega)];omega
  rw[J,F,H];refine aa (λs=>?_) (λs=>?_)
  ·have s:=dT s;have Q:((f:Int)-1-(i:Int)).toNat=f-1-i:=by omega
   have W:=DD y (by rw[j];omega) (i:=f-1-i) (by rw[j];omega);have x2:=l.lt;have x5:r.getD (f-1-i) 0<BB:=ba (by decide) l.rl _;obtain⟨o,A⟩:∃x,x=q*BB:=⟨_,rfl⟩
   have x1:o=1000000000*q:=by rw[A,P,Nat.mul_comm]
   have T:wrap .u64 ((q:Int)*1000000000)=(o:Int):=wU (by omega) (by omega);have U:wrap .u64 ((o:Int)+((r.getD (f-1-i) 0:Nat):Int))=((o+r.getD (f-1-i) 0:Nat):Int):=wU (by omega) (by omega);refine⟨_,yi (by omega) (by omega),_,by rw[Q];exact W,?_⟩;dsimp only;rw[T,U];refine⟨_,U7 (by omega) v,_,aaI v,_,yi (by omega) (by omega),?_⟩;have K:=Ef (g:=room g 11) y (by rw[j];omega) (i:=f-1-i) (by rw[j];omega) ((o+r.getD (f-1-i) 0)/k);have z:=S.room 11;have O:=z.wf _ _ (show(room g 11).get ku=_ from y);refine⟨_,by rw[Q];exact K,?_⟩;have p:=k4.step (at':=f-1-i) v (by rw[show f-1-i+1=f-i by omega];exact l);rw[<-A]at p;refine gY (D-1) (by omega) ⟨by omega,by omega,⟨r.set (f-1-i) ((o+r.getD (f-1-i) 0)/k),(o+r.getD (f-1-i) 0)%k,by rw[length_set,j],rfl,by rw[show f-(i+1)=f-1-i by omega];exact p,?_⟩,?_,z.set _ G O w⟩
   ·show((room g 11).set ku _).get ku=_;rw[ae.aw,if_pos rfl]
   ·show((room g 11).set ku _).get kq=_;rw[ae.aw,if_neg (λe=>N e.symm)];exact B
  ·have s:=dF s;obtain rfl:i=f:=by omega
   rw[Nat.sub_self]at l;have t:=l.done v;have I:=Co B V u;have M:=Co y j.symm E;refine(p0 I (by omega)).mono ?_;rintro _ _ ⟨rfl,rfl⟩;refine⟨_,_,_,rfl,(p0 M (by omega)).mono ?_⟩;rintro _ _ ⟨rfl,rfl⟩;refine⟨_,_,_,rfl,_,_,_,_,_,_,rfl,?_,?_,S⟩
   ·have:=Ax I hQ;rw[Z]at this;exact this
   ·have:=Ax M l.rl;rw[t,hr]at this;exact this)
theorem Ok.but{b:ae}(o:Ok h g)(w:Wf h)(x:Jt g k b)(c:h.next<=k):Ok h b:=
 ⟨x.wf,λj B a=>x.kL j B (λe=>by have:=w _ _ a;omega) (o.ext j B a),Nat.le_trans o.nx x.nx⟩
def Yu{h2:ae}{X Y N m L k ku kv kq ec:Nat}{cu cv:List Value}(hY:0<Y)(hm:0<m)(y4:m<=N)(hN:N<=5000)(hL:L=N+1-m)(u:0<k)(kB:k<=BB)(o:(aX BB (Y*k)).length=m)(H:Y*k<=BB^m)(a:Option Addr)(n c:Nat)(b:Option Addr)(d:Nat):=
 ub a n c b m d (k:Int) (some ⟨kq,0,none⟩) L L (some ⟨ku,0,none⟩) (N+1) (dm+cu.length) (some ⟨kv,0,none⟩) m ec (L:Int)
  (λO i G=>i<=L/\O=L-i/\∃U j:List Nat,aaO h2 G ku kv kq cu cv U j N m (X*k) (Y*k) (L-i)) (G5 h2 X Y) (by
  intro O i;intros;rename_i G hi;obtain⟨h1,y2,U,j,D⟩:=hi;have M:0<Y*k:=mul_pos hY u;have x4:wrap .i64 ((L:Int)-1)=(L:Int)-1:=aB (by omega) (by omega);have x2:wrap .i64 ((i:Int)+1)=((i+1:Nat):Int):=by rw[aB (by omega) (by omega)];omega
  have s:bC (dm+cu.length)=cu.length:=by unfold bC;rw[if_pos (by omega)];omega
  have y1:=D.ul;have K:=D.cl;have F:=D.abK;have ru:=Co (c:=dm+cu.length) D.gu y1.symm (by rw[s];exact K);rw[x4];refine aa (λv=>?_) (λv=>?_)
  ·have v:=dT v;obtain⟨f,y3⟩:∃x,x=L-1-i:=⟨_,rfl⟩
   have Z:wrap .i64 ((L:Int)-1-(i:Int))=(f:Int):=by rw[aB (by omega) (by omega)];omega
   have x9:wrap .i64 ((f:Int)+(m:Int))=((f+m:Nat):Int):=by rw[aB (by omega) (by omega)];omega
   have x1:wrap .i64 (((f+m:Nat):Int)+1)=((f+m+1:Nat):Int):=by rw[aB (by omega) (by omega)];omega
   rw[Z,x9,x1,x2];have h:iO BB m (Y*k) (X*k) U j (f+1):=by rw[show f+1=L-i by omega];exact D.inv
   obtain⟨w1,w2,t⟩:=h.IQ gQ H;have r:=ru.IQ (lo:=f) (hi:=f+m+1) (by omega) (by omega);rw[show f+m+1-f=m+1 by omega,Nat.zero_add]at r;refine⟨_,_,_,r,?_⟩;have P:(cO cu 0 U).length=cu.length:=DA (by omega);have DI:aah G ku f (dm+cu.length-f) m (cO cu 0 U) ((U.drop f).take (m+1)) (aX BB (Y*k)) (some ⟨kv,0,none⟩) ec:={
    w:=D.ok.wf
    get:=by
     rw[nq (by rw[t];exact qy (by omega))];exact D.gu
    fit:=by rw[t,P];omega
    ul:=t
    vl:=o
    mp:=hm
    mle:=by omega
    ult:=λx A=>h.ul x (List.mem_of_mem_drop (List.mem_of_mem_take A))
    vlt:=dp gQ _
    v1:=by have:=FN gQ M;rwa[o]at this
    lt:=by rw[cm gQ];exact w2
    rd:=λg og=> .inr ⟨kv,0,cv,ec,true,by rw[lM,o],og.kL _ _ (λe=>D.uv' e.symm) D.gv,by rw[drop_zero,lM];exact D.Z0⟩ }
   refine(Kr DI).mono ?_;rintro _ V ⟨W',z,x8,l,rfl,S,p⟩;rw[cm gQ]at l;have x6:Num.bv BB ((U.drop f).take (m+1))/Num.bv BB (aX BB (Y*k))=Num.bv BB ((U.drop f).take (m+1))/(Y*k):=by rw[cm gQ]
   rw[x6];have y0:Num.bv BB ((U.drop f).take (m+1))/(Y*k)<BB:=Nat.div_lt_of_lt_mul (by rw[Nat.mul_comm];exact w2);have J:=p.kL _ _ (λe=>D.uq e.symm) D.gq;have x3:=p.kL _ _ (λe=>D.uv' e.symm) D.gv;have I:=Ok.but D.ok D.w2 p D.u2;have x0:((List.replicate (N+1-m) 0).map uv).length=N+1-m:=by rw[lM,length_replicate]
   have x5:=Ef J (by rw[x0];omega) (i:=f) (by omega) (Num.bv BB ((U.drop f).take (m+1))/(Y*k));have x7:=I.wf _ _ J;have E:=yi (k:=kq) (off:=0) (n:=L) (c:=L) (i:=(f:Int)) (by omega) (by omega);rw[toNat_natCast]at E;refine⟨_,rfl,_,E,_,x5,?_⟩;have y:Num.bv BB ((U.drop f).take (m+1))=Num.bv BB W'+Num.bv BB ((U.drop f).take (m+1))/(Y*k)*(Y*k):=by
    have h9:=Nat.mod_add_div (Num.bv BB ((U.drop f).take (m+1))) (Y*k);rw[Nat.mul_comm (Y*k)]at h9;rw[l];exact h9.symm
   have T:=h.step gQ H x8 z y0 y (by rw[l];exact mod_lt _ M);refine bZ (O-1) (by omega) ⟨by omega,by omega,U.take f++W'++U.drop (f+(m+1)),j.set f (Num.bv BB ((U.drop f).take (m+1))/(Y*k)),{
    ok:=I.set _ D.q2 x7 D.w2
    w2:=D.w2
    u2:=D.u2
    q2:=D.q2
    gu:= ?_
    gv:= ?_
    gq:= ?_
    uv':=D.uv'
    uq:=D.uq
    vq:=D.vq
    ul:= ?_
    cl:=K
    abK:=by rw[length_set];exact F
    Z0:=D.Z0
    inv:=by rw[show L-(i+1)=f by omega];exact T }⟩
   ·show(V.set kq _).get ku=_;rw[ae.aw,if_neg D.uq,S,E9 (W:=(U.drop f).take (m+1)) (by omega) (by omega) (by rw[z,t]) (by rw[t]),z]
   ·show(V.set kq _).get kv=_;rw[ae.aw,if_neg D.vq];exact x3
   ·show(V.set kq _).get kq=_;rw[ae.aw,if_pos rfl]
   ·simp only[length_append,length_take,length_drop,z];omega
  ·have v:=dF v;obtain rfl:i=L:=by omega
   have h:=D.inv;rw[Nat.sub_self]at h;obtain⟨d1,d2⟩:=h.done;obtain⟨e1,e2⟩:=BA (X:=X) (Y:=Y) u;rw[e1]at d1;rw[e2]at d2;have q:=h.ul;obtain⟨t1,t2⟩:=xD U;refine(p0 ru (by omega)).mono ?_;rintro _ _ ⟨rfl,rfl⟩;refine⟨_,_,_,rfl,?_⟩;have P:(cO cu 0 U).length=cu.length:=DA (by omega);have B:bC (N+1-m)=N+1-m:=by unfold bC;rw[if_neg (by unfold dm;omega)]
   have Q:Num.bv BB (dS U)=X%Y*k:=by rw[lf gQ q,cm gQ,d2]
   subst hL;rename_i G';refine Yt D.w2 (X:=X) (Y:=Y) (ku:=ku) (kq:=kq) (rc:=dm+cu.length) (k:=k) (R:=X%Y*k) (C:=cO cu 0 U) (Zq:=(List.replicate (N+1-m) 0).map uv) (Ql:=j) D.u2 D.q2 D.uq (by rw[P];omega) (by omega) F.symm (by omega) (by rw[s];omega) (by rw[B];exact Nat.le_refl _) u kB h.ql d1 (Nat.mul_div_cancel _ u) a n c b m d _ (i:=0)
    ⟨Nat.zero_le _,rfl,⟨dS U,0,rfl,rfl,⟨λx A=>q x (by rw[<-t1]at A;exact List.mem_of_mem_take A),by omega,u,?_⟩,?_⟩,D.gq,D.ok⟩
   ·rw[Nat.sub_zero,List.drop_length,take_length,Q];simp[Num.bv]
   ·rw[nq (by rw[qy (by omega),drop_zero,t1])];exact D.gu)
end Go.Proofs.YtaaichlgdgjgjaaGreatDoor
end
section
namespace Go.Proofs.YtaaichlgdgjgjaaGreatDoor
open Go Go.Ab Go.Num
variable{h:ae}{a:Option Addr}{n:Nat}{j:Nat}{l:Nat}
theorem yq{b:Option Addr}{c:Nat}{X Y:Nat}(V:Rd h 150 (.slice a n c) (bl X))(T:Rd h 150 (.slice b j l) (bl Y))(hY:0<Y)(hN:(aX BB X).length<=5000)(hM:(aX BB Y).length<=5000)(w:Wf h):
  FW SS 189 [.slice a n c,.slice b j l] h (G5 h X Y):=by
 have z7:BB=1000000000:=rfl;have hn:n=(aX BB X).length:=by have:=V.len;rwa[lM]at this
 have y0:j=(aX BB Y).length:=by have:=T.len;rwa[lM]at this
 obtain⟨f1,f2,s,C,f5,G⟩:=SE gQ hY;rw[<-y0]at f1 f2 s C f5 G;generalize x6:(aX BB Y).getD (j-1) 0=v at f2 s C G;generalize y2:BB/(v+1)=k at s C G;refine HX a n c b j l h _ ((qC V T (by omega) w).mono ?_);rintro _ h2 ⟨rfl,f⟩;refine⟨_,rfl,aa (λz=>?_) (λz=>?_)⟩
 ·have z:=wA.1 (dT z);refine⟨_,_,_,_,_,_,rfl,.inl ⟨rfl,?_⟩,?_,f⟩
  ·rw[Nat.div_eq_of_lt z];show(aX BB 0).map uv=[];rw[fS];rfl
  ·rw[Nat.mod_eq_of_lt z];exact V.ok f
 ·have z5:Y<=X:=by
   rcases lt_or_ge X Y with h|h
   ·exact absurd (wA.2 h) (dF z)
   ·exact h
  have hX:0<X:=by omega
  have x4:j<=n:=by
   rcases lt_or_ge n j with h|h
   ·have:=lU gQ (m:=X) (n:=Y) (by omega);omega
   ·exact h
  have y1:wrap .i64 ((j:Int)-1)=((j-1:Nat):Int):=by rw[aB (by omega) (by omega)];omega
  have hj:((j-1:Nat):Int).toNat=j-1:=by omega
  obtain⟨p,g2,g3⟩:=FV (T.ok f) (i:=((j-1:Nat):Int)) (by omega) (by omega);rw[hj,x6]at g3;have et:wrap .u64 ((v:Int)+1)=((v+1:Nat):Int):=wU (by omega) (by omega);have x5:ay SS.P .quo 150 (.int .u64 1000000000) (.int .u64 ((v+1:Nat):Int))=some (.int .u64 (k:Int)):=by
   have:=U7 (a:=BB) (b:=v+1) (by decide) (by omega);rw[y2]at this;exact this
  rw[y1];refine⟨p,g2,_,g3,?_⟩;dsimp only;rw[et];refine⟨_,x5,?_⟩;refine(yw (V.ok f) (dp gQ X) (by omega) s C f.wf).mono ?_;rintro _ h8 ⟨a9,I,y7,rfl,R,E⟩;rw[cm gQ]at R;refine⟨a9,I,y7,rfl,(yw ((T.ok f).ok E) (dp gQ Y) (by omega) s C E.wf).mono ?_⟩;rintro _ z8 ⟨x8,d,O,rfl,ov,H⟩;rw[cm gQ]at ov;refine⟨x8,d,O,rfl,?_⟩;have z6:0<Y*k:=mul_pos hY s;have J:(aX BB (Y*k)).length=j:=Hg gQ G (Nat.le_trans f5 (Nat.le_mul_of_pos_right Y s)) f1;have q:(bl (Y*k)).length=j:=by rw[lM];exact J
  rcases ov with⟨_,e⟩|⟨A,cv,e,x7,gv,tv,lv⟩
  ·rw[e]at q;simp at q;omega
  injection e with e1 e2 e3
  subst e1;obtain rfl:d=j:=by rw[e2,q]
  rw[q]at tv;have B:=fx (dp gQ X);rw[cm gQ,<-hn]at B;have z3:0<X*k:=mul_pos hX s;have L1:=tZ a n c b d l (k:Int) (some ⟨A,0,none⟩) d O
   (λmz r y rc g=>y<=n+1/\mz=n+1-y/\0<y/\∃U:List Nat,U.length=y/\eo h g 150 (.slice r y rc) (U.map uv)/\Ok h g/\(∀x∈U,x<BB)/\Num.bv BB U=X*k/\g.get A=some (.cells cv 150 1 true)/\(∀o n c,Value.slice r y rc≠ .slice (some ⟨A,o,none⟩) n c)) (G5 h X Y) (by
   intro mz r y rc;intros;rename_i g hi;obtain⟨z,z4,h3,U,D,o,ok,x1,x3,F,M⟩:=hi;refine aa (λQ=>?_) (λQ=>?_)
   ·have Q:=dT Q;refine⟨_,_,_,td _,?_⟩;obtain⟨b',m',d',u,g6,g7,g8,g9,y6,y5⟩:=eo.adT (P:=SS.P) (t:=177) (x:= .int .u64 0) Bs KQ D0 w ok o rfl (by rw[Bk,lM];omega) (by rw[lM];omega);rw[lM,D]at g7;subst g7;refine⟨b',_,d',u,g6,Kb (mz-1) (by omega) ⟨by omega,by omega,by omega,U++[0],by simp[D],?_,g9,?_,?_,y6 _ _ F M,?_⟩⟩
    ·rw[map_append];exact g8
    ·intro x K;rcases List.mem_append.1 K with K|K
     ·exact x1 x K
     ·rw[List.mem_singleton.1 K];decide
    ·rw[qL,x3];simp
    ·intro o' n' c' e;rcases y5 _ _ _ _ e with h7|⟨o2,n2,c2,h7⟩
     ·have:=ok.wf _ _ F;omega
     ·exact M _ _ _ h7
   ·have Q:=dF Q;obtain rfl:y=n+1:=by omega
    rcases o with⟨_,e⟩|⟨Z,W,e,x2,gu,tu,lu⟩
    ·have:=congrArg List.length e;rw[lM,D]at this;have h9:n+1=0:=this;omega
    rw[lM,D]at e tu lu;injection e with e1 _ e3
    subst e1;subst e3;have y4:wrap .i64 (((n+1:Nat):Int)-(d:Int))=((n+1-d:Nat):Int):=by rw[aB (by omega) (by omega)];omega
    rw[y4];refine⟨_,_,_,aaE _ (by omega),?_⟩;have z2:=ok.wf _ _ gu;have z1:=ok.wf _ _ F;have x9:Z≠A:=λe=>M 0 (n+1) (dm+W.length) (by rw[e]);have S:((List.replicate (n+1-d) 0).map uv).length=n+1-d:=by rw[lM,length_replicate]
    exact Yu (h2:=h) (X:=X) (Y:=Y) (N:=n) (m:=d) (L:=n+1-d) (k:=k) (ku:=Z) (kv:=A) (kq:=g.next) (ec:=O) (cu:=W) (cv:=cv) hY f1 x4 (by omega) rfl s C J (le_of_lt G) a n c b l (n+1-d) (i:=0)
     ⟨Nat.zero_le _,rfl,U,List.replicate (n+1-d) 0,{
      ok:=ok.push _
      w2:=w
      u2:=x2
      q2:=ok.nx
      gu:=by
       rw[ae.bt,if_neg (by omega),nq (by rw[drop_zero,D];exact tu)];exact gu
      gv:=by rw[ae.bt,if_neg (by omega)];exact F
      gq:=by
       rw[ae.bt,if_pos rfl,nq (by rw[drop_zero,length_replicate,take_of_length_le (by rw[S];exact Nat.le_refl _)])]
      uv':=x9
      uq:=by omega
      vq:=by omega
      ul:=D
      cl:=lu
      abK:=by rw[length_replicate]
      Z0:=by rw[J];exact tv
      inv:=iO.start gQ x1 D x4 B f5 f1 s x3 }⟩)
  have y3:=eo.aef f.nx R;have x0:I=(aX BB (X*k)).length:=by have:=R.len;rwa[lM]at this
  have y8:h8.next<=A:=x7;have z0:(aX BB (X*k)).length<=n+1:=by
   refine lT gQ ?_;rw[pow_succ];exact lt_of_lt_of_le (Nat.mul_lt_mul_of_pos_right B s) (Nat.mul_le_mul_left _ C)
  have y9:0<(aX BB (X*k)).length:=List.length_pos_iff.2 λe=>by have:=(ir gQ).1 e;omega
  refine L1 (n+1-I) ⟨by omega,rfl,by omega,aX BB (X*k),x0.symm,y3.ok H,(f.trans E).trans H,dp gQ _,cm gQ _,gv,?_⟩;intro o n' c' e;rcases R with⟨e',_⟩|⟨Z,W,e',x2,gu,_,_⟩
  ·rw[e']at e;injection e with e;cases e
  ·rw[e']at e;injection e with e _ _
   injection e with e
   injection e with e
   have:=E.wf _ _ gu;omega
abbrev ie:LB:=[0,1,2,2,3,3,3,3,4,4,4,4,4,4,4,4,5,5,5,5,5,5,5,5,5,5,5,5,5,5,5,5,6,6,6,6,6,6,6,6,6,6,6,6,6,6,6,6,6,6,6,6,6,6,6,6,6,6,6,6,6,6,6,6,7,7,7,7,7,7,7,7,7,7,7,7,7,7,7,7,7,7,7,7,7,7,7,7,7,7,7,7,7,7,7,7,7,7,7,7,7,7,7,7,7,7,7,7,7,7,7,7,7,7,7,7,7,7,7,7,7,7,7,7,7,7,7,7,8,8,8,8,8,8,8,8,8,8,8,8,8,8,8,8,8,8,8,8,8,8,8,8,8,8,8,8,8,8,8,8,8,8,8,8,8,8,8,8,8,8,8,8,8,8,8,8,8,8,8,8,8,8,8,8,8,8,8,8,8,8,8,8,8,8,8,8,8,8,8,8,8,8,8,8,8,8,8,8,8,8,8,8,8,8,8,8,8,8,8,8,8,8,8,8,8,8,8,8,8,8,8,8,8,8,8,8,8,8,8,8,8,8,8,8,8,8,8,8,8,8,8,8,8,8,8,8]
noncomputable def YS:FD:=cF Tryz.f135 []
theorem Uz(u:Int)(h:ae)(Q:VH)(e:au (decide ((u:Int)>=4294967296)) (xI .u64 (ay SS.P .shr 150 (.int .u64 u) (.int .u64 32)) λd=>au (decide ((d:Int)>=65536)) (xI .u64 (ay SS.P .shr 150 (.int .u64 d) (.int .u64 16)) λc=>au (decide ((c:Int)>=256)) (xI .u64 (ay SS.P .shr 150 (.int .u64 c) (.int .u64 8)) λb=>xI .u8 (bP SS.P 9 (strOf ie) (.int .u8 (wrap .u8 b))) λa=>Q (.int .i64 (wrap .i64 (wrap .i64 (wrap .i64 (32+16)+8)+wrap .i64 a))) h) (xI .u8 (bP SS.P 9 (strOf ie) (.int .u8 (wrap .u8 c))) λa=>Q (.int .i64 (wrap .i64 (wrap .i64 (32+16)+wrap .i64 a))) h)) (au (decide ((d:Int)>=256)) (xI .u64 (ay SS.P .shr 150 (.int .u64 d) (.int .u64 8)) λb=>xI .u8 (bP SS.P 9 (strOf ie) (.int .u8 (wrap .u8 b))) λa=>Q (.int .i64 (wrap .i64 (wrap .i64 (32+8)+wrap .i64 a))) h) (xI .u8 (bP SS.P 9 (strOf ie) (.int .u8 (wrap .u8 d))) λa=>Q (.int .i64 (wrap .i64 (32+wrap .i64 a))) h))) (au (decide ((u:Int)>=65536)) (xI .u64 (ay SS.P .shr 150 (.int .u64 u) (.int .u64 16)) λc=>au (decide ((c:Int)>=256)) (xI .u64 (ay SS.P .shr 150 (.int .u64 c) (.int .u64 8)) λb=>xI .u8 (bP SS.P 9 (strOf ie) (.int .u8 (wrap .u8 b))) λa=>Q (.int .i64 (wrap .i64 (wrap .i64 (wrap .i64 (0+16)+8)+wrap .i64 a))) h) (xI .u8 (bP SS.P 9 (strOf ie) (.int .u8 (wrap .u8 c))) λa=>Q (.int .i64 (wrap .i64 (wrap .i64 (0+16)+wrap .i64 a))) h)) (au (decide ((u:Int)>=256)) (xI .u64 (ay SS.P .shr 150 (.int .u64 u) (.int .u64 8)) λb=>xI .u8 (bP SS.P 9 (strOf ie) (.int .u8 (wrap .u8 b))) λa=>Q (.int .i64 (wrap .i64 (wrap .i64 (0+8)+wrap .i64 a))) h) (xI .u8 (bP SS.P 9 (strOf ie) (.int .u8 (wrap .u8 u))) λa=>Q (.int .i64 (wrap .i64 (0+wrap .i64 a))) h)))):FW SS 135 [(.int .u64 u)] h Q:=cI YS Tryz.func135 (ai e)
noncomputable def Km:FD:=cF Tryz.f228 []
theorem HN(n:Int)(h:ae)(Q:VH)(b:xI .i64 (ay SS.P .shr 3 (.int .i64 (wrap .i64 (n*78913))) (.int .u64 18)) λa=>Q (.int .i64 a) h):FW SS 228 [(.int .i64 n)] h Q:=cI Km Tryz.func228 (ai b)
noncomputable def Yd:FD:=cF Tryz.f229 []
theorem Tv(b:Bool)(h:ae)(Q:VH)(a:au b (Q (.int .i64 1) h) (Q (.int .i64 0) h)):FW SS 229 [(.bool b)] h Q:=cI Yd Tryz.func229 (ai a)
noncomputable def Kz:FD:=cF Tryz.f219 []
theorem H4(u:Int)(h:ae)(Q:VH)(l:FW SS 135 [(.int .u64 u)] h λj k=>yI .i64 j λi=>FW SS 228 [(.int .i64 i)] k λg h=>yI .i64 g λf=>iP 230 (pA 1) (.int .i64 f) λe=>xI .u64 (aj SS.P 150 h (.pointer (some e))) λd=>FW SS 229 [(.bool (decide ((u:Int)>=d)))] h λb c=>yI .i64 b λa=>Q (.int .i64 (wrap .i64 (f+a))) c):FW SS 219 [(.int .u64 u)] h Q:=cI Kz Tryz.func219 (ai l)
abbrev cp:LB:=[48,48,48,49,48,50,48,51,48,52,48,53,48,54,48,55,48,56,48,57,49,48,49,49,49,50,49,51,49,52,49,53,49,54,49,55,49,56,49,57,50,48,50,49,50,50,50,51,50,52,50,53,50,54,50,55,50,56,50,57,51,48,51,49,51,50,51,51,51,52,51,53,51,54,51,55,51,56,51,57,52,48,52,49,52,50,52,51,52,52,52,53,52,54,52,55,52,56,52,57,53,48,53,49,53,50,53,51,53,52,53,53,53,54,53,55,53,56,53,57,54,48,54,49,54,50,54,51,54,52,54,53,54,54,54,55,54,56,54,57,55,48,55,49,55,50,55,51,55,52,55,53,55,54,55,55,55,56,55,57,56,48,56,49,56,50,56,51,56,52,56,53,56,54,56,55,56,56,56,57,57,48,57,49,57,50,57,51,57,52,57,53,57,54,57,55,57,56,57,57]
noncomputable def ZC:FD:=cF Tryz.f218 []
theorem Wd(n:Int)(h:ae)(Q:VH)(b:au (decide ((n:Int)<10)) (xS (bF SS.P 9 (strOf [48,49,50,51,52,53,54,55,56,57,97,98,99,100,101,102,103,104,105,106,107,108,109,110,111,112,113,114,115,116,117,118,119,120,121,122]) (some (.int .i64 n)) (some (.int .i64 (wrap .i64 (n+1)))) none h) λa=>Q (strOf a) h) (xS (bF SS.P 9 (strOf cp) (some (.int .i64 (wrap .i64 (n*2)))) (some (.int .i64 (wrap .i64 (wrap .i64 (n*2)+2)))) none h) λa=>Q (strOf a) h)):FW SS 218 [(.int .i64 n)] h Q:=cI ZC Tryz.func218 (ai b)
noncomputable def rY:FD:=cF Tryz.f220 [([1,0,0,0],[0,1,4])]
abbrev m5(a:OA)(n c:Nat)(i:Nat)(v:Int):LV:=[(.slice a n c),(.int .u64 v),(iA i)]
theorem T0(a:OA)(n c:Nat)(u:Int)(h:ae)(Q:VH)(b:LL SS rY [1,0,0,0] (m5 a n c n u) h (KK SS rY [1,0,0] [] (EE SS rY Q))):FW SS 220 [(.slice a n c),(.int .u64 u)] h Q:=cI rY Tryz.func220 (ai b)
theorem Ae(a:OA)(n c:Nat)(u:Int)  (B:Nat->Nat->Int->ae->Prop) (Q:VH) (step:∀(A:Nat)(i:Nat)(v:Int)(K:Nat->Value)(h:ae),B A i v h->au (decide (((i:Int):Int)>=8)) (xI .u64 (ay SS.P .rem 150 (.int .u64 v) (.int .u64 100000000)) λH=>xI .u64 (ay SS.P .quo 150 (.int .u64 v) (.int .u64 100000000)) λP=>xI .u32 (ay SS.P .quo 148 (.int .u32 (wrap .u32 H)) (.int .u32 10000)) λG=>xI .u32 (ay SS.P .rem 148 (.int .u32 (wrap .u32 H)) (.int .u32 10000)) λN=>xI .u32 (ay SS.P .quo 148 (.int .u32 N) (.int .u32 100)) λF=>xI .u32 (ay SS.P .rem 148 (.int .u32 N) (.int .u32 100)) λJ=>xI .u32 (ay SS.P .quo 148 (.int .u32 G) (.int .u32 100)) λL=>xI .u32 (ay SS.P .rem 148 (.int .u32 G) (.int .u32 100)) λM=>xI .u8 (bP SS.P 9 (strOf cp) (.int .u32 (wrap .u32 (wrap .u32 (J*2)+1)))) λO=>xI .u8 (bP SS.P 9 (strOf cp) (.int .u32 (wrap .u32 (J*2)))) λC=>iP 172 (.slice a n c) (.int .i64 (wrap .i64 ((i:Int)-1))) λz=>xU (ah SS.P 5 (.pointer (some z)) (.int .u8 O) (room h 15)) (room h 15) λ_ y=>iP 172 (.slice a n c) (.int .i64 (wrap .i64 ((i:Int)-2))) λx=>xU (ah SS.P 5 (.pointer (some x)) (.int .u8 C) y) y λ_ w=>xI .u8 (bP SS.P 9 (strOf cp) (.int .u32 (wrap .u32 (wrap .u32 (F*2)+1)))) λv=>xI .u8 (bP SS.P 9 (strOf cp) (.int .u32 (wrap .u32 (F*2)))) λu=>iP 172 (.slice a n c) (.int .i64 (wrap .i64 ((i:Int)-3))) λt=>xU (ah SS.P 5 (.pointer (some t)) (.int .u8 v) (room w 15)) (room w 15) λ_ s=>iP 172 (.slice a n c) (.int .i64 (wrap .i64 ((i:Int)-4))) λr=>xU (ah SS.P 5 (.pointer (some r)) (.int .u8 u) s) s λ_ q=>xI .u8 (bP SS.P 9 (strOf cp) (.int .u32 (wrap .u32 (wrap .u32 (M*2)+1)))) λp=>xI .u8 (bP SS.P 9 (strOf cp) (.int .u32 (wrap .u32 (M*2)))) λo=>iP 172 (.slice a n c) (.int .i64 (wrap .i64 ((i:Int)-5))) λm=>xU (ah SS.P 5 (.pointer (some m)) (.int .u8 p) (room q 15)) (room q 15) λ_ l=>iP 172 (.slice a n c) (.int .i64 (wrap .i64 ((i:Int)-6))) λk=>xU (ah SS.P 5 (.pointer (some k)) (.int .u8 o) l) l λ_ j=>xI .u8 (bP SS.P 9 (strOf cp) (.int .u32 (wrap .u32 (wrap .u32 (L*2)+1)))) λh=>xI .u8 (bP SS.P 9 (strOf cp) (.int .u32 (wrap .u32 (L*2)))) λg=>iP 172 (.slice a n c) (.int .i64 (wrap .i64 ((i:Int)-7))) λf=>xU (ah SS.P 5 (.pointer (some f)) (.int .u8 h) (room j 15)) (room j 15) λ_ e=>iP 172 (.slice a n c) (.int .i64 (wrap .i64 ((i:Int)-8))) λd=>xU (ah SS.P 5 (.pointer (some d)) (.int .u8 g) e) e λ_ b=>aJ (pL (m5 a n c) B) A [(.slice a n c),(.int .u64 P),(.int .i64 (wrap .i64 ((i:Int)-8)))] b) (au (decide (((i:Int):Int)>=4)) (xI .u32 (ay SS.P .rem 148 (.int .u32 (wrap .u32 v)) (.int .u32 10000)) λI=>xI .u32 (ay SS.P .quo 148 (.int .u32 (wrap .u32 v)) (.int .u32 10000)) λE=>xI .u32 (ay SS.P .quo 148 (.int .u32 I) (.int .u32 100)) λC=>xI .u32 (ay SS.P .rem 148 (.int .u32 I) (.int .u32 100)) λz=>xI .u8 (bP SS.P 9 (strOf cp) (.int .u32 (wrap .u32 (wrap .u32 (z*2)+1)))) λy=>xI .u8 (bP SS.P 9 (strOf cp) (.int .u32 (wrap .u32 (z*2)))) λx=>iP 172 (.slice a n c) (.int .i64 (wrap .i64 ((i:Int)-1))) λw=>xU (ah SS.P 5 (.pointer (some w)) (.int .u8 y) (room h 15)) (room h 15) λ_ v=>iP 172 (.slice a n c) (.int .i64 (wrap .i64 ((i:Int)-2))) λu=>xU (ah SS.P 5 (.pointer (some u)) (.int .u8 x) v) v λ_ t=>xI .u8 (bP SS.P 9 (strOf cp) (.int .u32 (wrap .u32 (wrap .u32 (C*2)+1)))) λs=>xI .u8 (bP SS.P 9 (strOf cp) (.int .u32 (wrap .u32 (C*2)))) λr=>iP 172 (.slice a n c) (.int .i64 (wrap .i64 ((i:Int)-3))) λq=>xU (ah SS.P 5 (.pointer (some q)) (.int .u8 s) (room t 15)) (room t 15) λ_ p=>iP 172 (.slice a n c) (.int .i64 (wrap .i64 ((i:Int)-4))) λo=>xU (ah SS.P 5 (.pointer (some o)) (.int .u8 r) p) p λ_ m=>au (decide ((wrap .i64 ((i:Int)-4):Int)>=2)) (xI .u32 (ay SS.P .rem 148 (.int .u32 E) (.int .u32 100)) λl=>xI .u32 (ay SS.P .quo 148 (.int .u32 E) (.int .u32 100)) λk=>xI .u8 (bP SS.P 9 (strOf cp) (.int .u32 (wrap .u32 (wrap .u32 (l*2)+1)))) λj=>xI .u8 (bP SS.P 9 (strOf cp) (.int .u32 (wrap .u32 (l*2)))) λh=>xP (aD SS.P 172 (.slice a n c) (.int .i64 (wrap .i64 (wrap .i64 ((i:Int)-4)-1)))) λg=>xU (ah SS.P 5 (.pointer (some g)) (.int .u8 j) (room m 15)) (room m 15) λ_ f=>xP (aD SS.P 172 (.slice a n c) (.int .i64 (wrap .i64 (wrap .i64 ((i:Int)-4)-2)))) λe=>xU (ah SS.P 5 (.pointer (some e)) (.int .u8 h) f) f λ_ d=>au (decide ((wrap .i64 (wrap .i64 ((i:Int)-4)-2):Int)>0)) (iP 172 (.slice a n c) (.int .i64 0) λb=>xU (ah SS.P 5 (.pointer (some b)) (.int .u8 (wrap .u8 (wrap .u32 (48+k)))) d) d λ_ a=>Q (.tuple ⟨[]⟩) a) (Q (.tuple ⟨[]⟩) d)) (au (decide ((wrap .i64 ((i:Int)-4):Int)>0)) (iP 172 (.slice a n c) (.int .i64 0) λb=>xU (ah SS.P 5 (.pointer (some b)) (.int .u8 (wrap .u8 (wrap .u32 (48+E)))) m) m λ_ a=>Q (.tuple ⟨[]⟩) a) (Q (.tuple ⟨[]⟩) m))) (au (decide (((i:Int):Int)>=2)) (xI .u32 (ay SS.P .rem 148 (.int .u32 (wrap .u32 v)) (.int .u32 100)) λm=>xI .u32 (ay SS.P .quo 148 (.int .u32 (wrap .u32 v)) (.int .u32 100)) λl=>xI .u8 (bP SS.P 9 (strOf cp) (.int .u32 (wrap .u32 (wrap .u32 (m*2)+1)))) λk=>xI .u8 (bP SS.P 9 (strOf cp) (.int .u32 (wrap .u32 (m*2)))) λj=>iP 172 (.slice a n c) (.int .i64 (wrap .i64 ((i:Int)-1))) λg=>xU (ah SS.P 5 (.pointer (some g)) (.int .u8 k) (room h 15)) (room h 15) λ_ f=>iP 172 (.slice a n c) (.int .i64 (wrap .i64 ((i:Int)-2))) λe=>xU (ah SS.P 5 (.pointer (some e)) (.int .u8 j) f) f λ_ d=>au (decide ((wrap .i64 ((i:Int)-2):Int)>0)) (iP 172 (.slice a n c) (.int .i64 0) λb=>xU (ah SS.P 5 (.pointer (some b)) (.int .u8 (wrap .u8 (wrap .u32 (48+l)))) d) d λ_ a=>Q (.tuple ⟨[]⟩) a) (Q (.tuple ⟨[]⟩) d)) (au (decide (((i:Int):Int)>0)) (iP 172 (.slice a n c) (.int .i64 0) λb=>xU (ah SS.P 5 (.pointer (some b)) (.int .u8 (wrap .u8 (wrap .u32 (48+wrap .u32 v)))) h) h λ_ a=>Q (.tuple ⟨[]⟩) a) (Q (.tuple ⟨[]⟩) h))))) (A:Nat) {i:Nat} {v:Int} {h:ae} (D:B A i v h):LL SS rY [1,0,0,0] (m5 a n c i v) h (KK SS rY [1,0,0] [] (EE SS rY Q)):=
 mh (m5 a n c) B (λA i v K h D=>ai (step A i v K h D)) A D
noncomputable def MC:FD:=cF Tryz.f207 []
theorem J6(u:Int)(h:ae)(Q:VH)(r:au (((10:Int)==10)) (au (decide ((u:Int)<100)) (FW SS 218 [(.int .i64 (wrap .i64 u))] h λb c=>yS b λa=>Q (strOf a) c) (xN (br SS.P 219) h λ_ n=>FW SS 219 [(.int .u64 u)] n λl m=>yI .i64 l λk=>xL (bF SS.P 219 (pA (h.next)) none (some (.int .i64 k)) none m) λg i j=>FW SS 220 [(.slice g i j),(.int .u64 u)] m λe f=>e=(.tuple ⟨[]⟩)/\xL (bF SS.P 219 (pA (h.next)) none (some (.int .i64 k)) none f) λb c d=>xS (BT SS.P 172 9 (.slice b c d) f) λa=>Q (strOf a) f)) (FW SS 221 [nA,(.int .u64 u),(.int .i64 10),(.bool false),(.bool false)] h λb c=>∃(q:OA) (p o:Nat),∃a:LB,b=(.tuple ⟨[(.slice q p o),(strOf a)]⟩)/\Q (strOf a) c)):FW SS 207 [(.int .u64 u),(.int .i64 10)] h Q:=cI MC Tryz.func207 (ai r)
noncomputable def Qi:FD:=cF Tryz.f197 []
theorem MD(u:Int)(h:ae)(Q:VH)(d:FW SS 207 [(.int .u64 u),(.int .i64 10)] h λb c=>yS b λa=>Q (strOf a) c):FW SS 197 [(.int .u64 u),(.int .i64 10)] h Q:=cI Qi Tryz.func197 (ai d)
variable{P:Program}{g:ae}{m:Nat}
theorem NG{t:TypeId}{a:Int}(h:0<=a){s:Nat}(b:s<=64):ay P .shr t (.int .u64 a) (.int .u64 (s:Int))=some (.int .u64 (a/2^s)):=by
 show(if 0<=(s:Int)then some (Value.int .u64 (a.fdiv (2^(min (s:Int).toNat 64))))else none)=_;rw[if_pos (by omega),toNat_natCast,min_eq_left b,Int.fdiv_eq_ediv_of_nonneg _ (Int.le_of_lt (Int.pow_pos (by decide)))]
theorem ZA{t:TypeId}{a:Int}(h:0<=a){s:Nat}(b:s<=64):ay P .shr t (.int .i64 a) (.int .u64 (s:Int))=some (.int .i64 (a/2^s)):=by
 show(if 0<=(s:Int)then some (Value.int .i64 (a.fdiv (2^(min (s:Int).toNat 64))))else none)=_;rw[if_pos (by omega),toNat_natCast,min_eq_left b,Int.fdiv_eq_ediv_of_nonneg _ (Int.le_of_lt (Int.pow_pos (by decide)))]
def Xv:List UInt8:=[0,1,2,2,3,3,3,3,4,4,4,4,4,4,4,4,5,5,5,5,5,5,5,5,5,5,5,5,5,5,5,5,6,6,6,6,6,6,6,6,6,6,6,6,6,6,6,6,6,6,6,6,6,6,6,6,6,6,6,6,6,6,6,6,7,7,7,7,7,7,7,7,7,7,7,7,7,7,7,7,7,7,7,7,7,7,7,7,7,7,7,7,7,7,7,7,7,7,7,7,7,7,7,7,7,7,7,7,7,7,7,7,7,7,7,7,7,7,7,7,7,7,7,7,7,7,7,7,8,8,8,8,8,8,8,8,8,8,8,8,8,8,8,8,8,8,8,8,8,8,8,8,8,8,8,8,8,8,8,8,8,8,8,8,8,8,8,8,8,8,8,8,8,8,8,8,8,8,8,8,8,8,8,8,8,8,8,8,8,8,8,8,8,8,8,8,8,8,8,8,8,8,8,8,8,8,8,8,8,8,8,8,8,8,8,8,8,8,8,8,8,8,8,8,8,8,8,8,8,8,8,8,8,8,8,8,8,8,8,8,8,8,8,8,8,8,8,8,8,8,8,8,8,8,8,8]
def SM:List UInt8:=[48,48,48,49,48,50,48,51,48,52,48,53,48,54,48,55,48,56,48,57,49,48,49,49,49,50,49,51,49,52,49,53,49,54,49,55,49,56,49,57,50,48,50,49,50,50,50,51,50,52,50,53,50,54,50,55,50,56,50,57,51,48,51,49,51,50,51,51,51,52,51,53,51,54,51,55,51,56,51,57,52,48,52,49,52,50,52,51,52,52,52,53,52,54,52,55,52,56,52,57,53,48,53,49,53,50,53,51,53,52,53,53,53,54,53,55,53,56,53,57,54,48,54,49,54,50,54,51,54,52,54,53,54,54,54,55,54,56,54,57,55,48,55,49,55,50,55,51,55,52,55,53,55,54,55,55,55,56,55,57,56,48,56,49,56,50,56,51,56,52,56,53,56,54,56,55,56,56,56,57,57,48,57,49,57,50,57,51,57,52,57,53,57,54,57,55,57,56,57,57]
theorem YU:((List.range 256).all λx=>(x==0&&(Xv.getD x 0).toNat==0)||(Nat.ble 1 (Xv.getD x 0).toNat&&Nat.ble (Xv.getD x 0).toNat 8&&Nat.ble (2^((Xv.getD x 0).toNat-1)) x&&Nat.blt x (2^(Xv.getD x 0).toNat)))=true:=by kernel_rfl
theorem lt8{x:Nat}(h:x<256)(g:0<x):∃t,(Xv.getD x 0).toNat=t+1/\t<8/\2^t<=x/\x<2^(t+1):=by
 have e:=List.all_eq_true.1 YU x (List.mem_range.2 h);have f:(x==0)=false:=by simp;omega
 rw[f]at e;simp only[Bool.false_and,Bool.false_or,Bool.and_eq_true,Nat.ble_eq,Nat.blt_eq]at e;obtain⟨⟨⟨a,b⟩,c⟩,d⟩:=e;refine⟨(Xv.getD x 0).toNat-1,by omega,by omega,c,?_⟩;rwa[Nat.sub_add_cancel a]
theorem Cf{x:Int}(a:0<=x)(b:x<256):bP SS.P 9 (strOf Xv) (.int .u8 (wrap .u8 x))=some (.int .u8 ((Xv.getD x.toNat 0).toNat:Nat)):=by
 rw[sY a b];exact oG (by kernel_rfl) Xv .u8 a (by show x<((256:Nat):Int);omega)
theorem abV:((List.range 100).all λx=>Nat.beq (SM.getD (2*x) 0).toNat (48+x/10)&&Nat.beq (SM.getD (2*x+1) 0).toNat (48+x%10))=true:=by kernel_rfl
theorem Wc{x:Nat}(h:x<100):(SM.getD (2*x) 0).toNat=48+x/10/\(SM.getD (2*x+1) 0).toNat=48+x%10:=by
 have a:=List.all_eq_true.1 abV x (List.mem_range.2 h);simp only[Bool.and_eq_true,Nat.beq_eq]at a;exact a
theorem UA(k:0<n)(j:n<4294967296)(h:ae):FW SS 135 [.int .u64 (n:Int)] h (λv i=>i=h/\∃f:Nat,v = .int .i64 (f+1:Nat)/\f<32/\2^f<=n/\n<2^(f+1)):=by
 refine Uz _ h _ (aa (λg=>absurd (dT g) (by omega)) λ_=>aa (λg=>?_) (λg=>?_))
 ·have g:=dT g;refine⟨_,NG (s:=16) (by omega) (by omega),aa (λa=>?_) (λa=>?_)⟩
  ·have a:=dT a;refine⟨_,NG (s:=8) (by omega) (by omega),_,Cf (by omega) (by omega),rfl,?_⟩;obtain⟨t,e,c,b,d⟩:=lt8 (x:=((n:Int)/2^16/2^8).toNat) (by omega) (by omega);rw[e];refine⟨t+24,?_,by omega,?_,?_⟩
   ·refine congrArg (Value.int .i64) ?_;simp only[wrap_i64];omega
   ·rw[pow_add];omega
   ·rw[show t+24+1=(t+1)+24 by omega,pow_add];omega
  ·have a:=dF a;refine⟨_,Cf (by omega) (by omega),rfl,?_⟩;obtain⟨t,e,c,b,d⟩:=lt8 (x:=((n:Int)/2^16).toNat) (by omega) (by omega);rw[e];refine⟨t+16,?_,by omega,?_,?_⟩
   ·refine congrArg (Value.int .i64) ?_;simp only[wrap_i64];omega
   ·rw[pow_add];omega
   ·rw[show t+16+1=(t+1)+16 by omega,pow_add];omega
 ·have g:=dF g;refine aa (λa=>?_) (λa=>?_)
  ·have a:=dT a;refine⟨_,NG (s:=8) (by omega) (by omega),_,Cf (by omega) (by omega),rfl,?_⟩;obtain⟨t,e,c,b,d⟩:=lt8 (x:=((n:Int)/2^8).toNat) (by omega) (by omega);rw[e];refine⟨t+8,?_,by omega,?_,?_⟩
   ·refine congrArg (Value.int .i64) ?_;simp only[wrap_i64];omega
   ·rw[pow_add];omega
   ·rw[show t+8+1=(t+1)+8 by omega,pow_add];omega
  ·have a:=dF a;refine⟨_,Cf (by omega) (by omega),rfl,?_⟩;obtain⟨t,e,c,b,d⟩:=lt8 (x:=((n:Int)).toNat) (by omega) (by omega);rw[e];refine⟨t,?_,by omega,by omega,by omega⟩;refine congrArg (Value.int .i64) ?_;simp only[wrap_i64];omega
def Lo:List Value:=(List.range 20).map λi=>uv (10^i)
def nW(h:ae):Prop:=∃t a,h.get 1=some (.cells Lo t 0 a)
theorem nW.ok(t:nW h)(o:Ok h g):nW g:=let⟨k,a,e⟩:=t;⟨k,a,o.ext _ _ e⟩
theorem acC:SS.P.underlying 230=some (.array 20 150):=by kernel_rfl
theorem ab0(t:nW h){i:Int}(b:0<=i)(a:i<20):aD SS.P 230 (.pointer (some ⟨1,0,none⟩)) (.int .i64 i)=some (.pointer (some ⟨1,0+i.toNat*1,none⟩))/\aj SS.P 150 h (.pointer (some ⟨1,0+i.toNat*1,none⟩))=some (.int .u64 ((10^i.toNat:Nat):Int)):=by
 obtain⟨_,c,e⟩:=t;constructor
 ·unfold aD;rw[acC];dsimp only;rw[EM];dsimp only;rw[if_pos ⟨b,a⟩,dz,Nat.zero_add]
 ·unfold aj;rw[Pa];dsimp only;rw[e];dsimp only;rw[Og];simp only[Bool.false_eq_true,if_false];unfold Lo;rw[Nat.zero_add,Nat.mul_one,List.getElem?_map,List.getElem?_range (by omega)];rfl
theorem H5(B:100<=n)(x:n<1000000000){h:ae}(t:nW h):FW SS 219 [.int .u64 (n:Int)] h (λv o=>o=h/\∃a:Nat,v = .int .i64 (a+1:Nat)/\a<9/\10^a<=n/\n<10^(a+1)):=by
 refine H4 _ h _ ((UA (by omega) (by omega) h).mono ?_);rintro _ g ⟨e,a,rfl,y,u,z⟩;have t:=e▸t;refine⟨_,rfl,HN _ _ _ ⟨_,ZA (s:=18) ?_ (by omega),_,rfl,?_⟩⟩
 ·rw[aB (by omega) (by omega)];omega
 rw[aB (by omega) (by omega)];have D:a<30:=by
  rcases lt_or_ge a 30 with h|h
  ·exact h
  ·have:2^30<=2^a:=pow_le_pow_right (by omega) h;omega
 have C:6<=a:=by
  rcases lt_or_ge a 6 with h|h
  ·have:2^(a+1)<=2^6:=pow_le_pow_right (by omega) h;omega
  ·exact h
 obtain⟨p,k⟩:=ab0 t (i:=((a+1:Nat):Int)*78913/2^18) (by omega) (by omega);refine⟨_,p,_,k,Tv _ _ _ ?_⟩;have b:∀q:Nat,2<=q->q<=9->10^(q-1)<=n->n<10^(q+1)->((a+1:Nat):Int)*78913/2^18=(q:Int)->au (decide (((n:Nat):Int)>=((10^(((a+1:Nat):Int)*78913/2^18).toNat:Nat):Int))) (∃c:Int,Value.int .i64 1 = .int .i64 c/\(g=h/\∃m:Nat,Value.int .i64 (wrap .i64 (((a+1:Nat):Int)*78913/2^18+c)) = .int .i64 (m+1:Nat)/\m<9/\10^m<=n/\n<10^(m+1))) (∃c:Int,Value.int .i64 0 = .int .i64 c/\(g=h/\∃m:Nat,Value.int .i64 (wrap .i64 (((a+1:Nat):Int)*78913/2^18+c)) = .int .i64 (m+1:Nat)/\m<9/\10^m<=n/\n<10^(m+1))):=by
  intro q A w f l r;rw[r,toNat_natCast];refine aa (λd=>?_) (λd=>?_)
  ·have d:=dT d;refine⟨1,rfl,e,q,?_,?_,by omega,l⟩
   ·rw[aB (by omega) (by omega)];rfl
   ·rcases lt_or_ge q 9 with h|h
    ·exact h
    ·have:q=9:=by omega
     subst this;omega
  ·have d:=dF d;refine⟨0,rfl,e,q-1,?_,by omega,f,by rw[Nat.sub_add_cancel (by omega)];omega⟩;rw[aB (by omega) (by omega),Nat.sub_add_cancel (by omega),Int.add_zero]
 have j:a=6\/a=7\/a=8\/a=9\/a=10\/a=11\/a=12\/a=13\/a=14\/a=15\/a=16\/a=17\/a=18\/a=19\/a=20\/a=21\/a=22\/a=23\/a=24\/a=25\/a=26\/a=27\/a=28\/a=29:=by omega
 rcases j with rfl|rfl|rfl|rfl|rfl|rfl|rfl|rfl|rfl|rfl|rfl|rfl|rfl|rfl|rfl|rfl|rfl|rfl|rfl|rfl|rfl|rfl|rfl|rfl
 all_goals first
  |exact b 2 (by omega) (by omega) (by omega) (by omega) (by omega)
  |exact b 3 (by omega) (by omega) (by omega) (by omega) (by omega)
  |exact b 4 (by omega) (by omega) (by omega) (by omega) (by omega)
  |exact b 5 (by omega) (by omega) (by omega) (by omega) (by omega)
  |exact b 6 (by omega) (by omega) (by omega) (by omega) (by omega)
  |exact b 7 (by omega) (by omega) (by omega) (by omega) (by omega)
  |exact b 8 (by omega) (by omega) (by omega) (by omega) (by omega)
  |exact b 9 (by omega) (by omega) (by omega) (by omega) (by omega)
theorem We(e:m<100)(h:ae):FW SS 218 [.int .i64 (m:Int)] h (λv f=>f=h/\v=strOf (ag m)):=by
 refine Wd _ h _ (aa (λg=>?_) (λg=>?_))
 ·have g:=dT g;rw[aB (by omega) (by omega)];refine⟨_,oH (by kernel_rfl) _ (a:=m) (b:=m+1) rfl rfl (by omega) (by simp;omega),rfl,?_⟩;rw[dD (by omega)];have:m=0\/m=1\/m=2\/m=3\/m=4\/m=5\/m=6\/m=7\/m=8\/m=9:=by omega
  rcases this with rfl|rfl|rfl|rfl|rfl|rfl|rfl|rfl|rfl|rfl<;>rfl
 ·have g:=dF g;rw[aB (n:=(m:Int)*2) (by omega) (by omega),aB (by omega) (by omega)];refine⟨_,oH (l:=SM) (by kernel_rfl) (a:=2*m) (b:=2*m+2) (by show some _=some _;congr 1;omega) (by show some _=some _;congr 1;omega) (by omega) (by show _<=200;omega),rfl,?_⟩;have c:=Wc e;rw[iu (by omega),dD (by omega),show 2*m+2-2*m=2 by omega];have j:SM.length=200:=rfl;rw[List.drop_eq_getElem_cons (by omega),List.drop_eq_getElem_cons (by omega)];have d:SM[2*m]'(by omega)=eZ (m/10):=by
   apply UInt8.toNat_inj.1;have:=c.1;rw[gD,gE (by omega)]at this;rw[show(SM[2*m]'(by omega)).toNat=_ from this];unfold eZ;rw[UInt8.toNat_ofNat',Nat.mod_eq_of_lt (by omega)]
  have i:SM[2*m+1]'(by omega)=eZ (m%10):=by
   apply UInt8.toNat_inj.1;have:=c.2;rw[gD,gE (by omega)]at this;rw[show(SM[2*m+1]'(by omega)).toNat=_ from this];unfold eZ;rw[UInt8.toNat_ofNat',Nat.mod_eq_of_lt (a:=48+m%10) (b:=2^8) (by omega)]
  rw[d,i];rfl
variable{z:Int}
section
theorem nj{n:Int}(a:0<=n)(b:n<4294967296):wrap .u32 n=n:=by
 simp only[wrap,IntKind.bits,IntKind.signed,Bool.false_and,Bool.false_eq_true,if_false];omega
theorem DR{t:TypeId}{a:Int}{b:Nat}(h0:0<=a)(c:a<4294967296)(d:0<b):ay P .quo t (.int .u32 a) (.int .u32 (b:Int))=some (.int .u32 (a/(b:Int))):=by
 rw[Hr P t .u32 _ _ (by omega),Int.tdiv_eq_ediv_of_nonneg h0,nj (Int.ediv_nonneg h0 (by omega)) (Int.lt_of_le_of_lt (Int.ediv_le_self _ h0) c)]
theorem Yf(h:m<10):ti (eZ m) = .int .u8 (48+(m:Int)):=by
 unfold ti eZ;rw[UInt8.toNat_ofNat',Nat.mod_eq_of_lt (a:=48+m) (b:=2^8) (by omega)];rfl
structure FB(h0:ae)(k n u j w:Nat)(h:ae):Prop where
 blk:∃cs,h.get k=some (.cells cs 219 0 true)/\cs.length=24/\(cs.drop j).take (n-j)=(Num.wid (n-j) u).map ti
 hw:w=u/10^(n-j)
 lt:w<10^j
 jn:j<=n
 n24:n<=9
 ok:Jt h0 k h
section
variable {h0 h:ae} {k n u j w:Nat}
theorem FB.room(f:FB h0 k n u j w h)(r:Nat):FB h0 k n u j w (room h r):=⟨f.blk,f.hw,f.lt,f.jn,f.n24,f.ok.room r⟩
theorem FB.step(f:FB h0 k n u (j+1) w h){c:Nat}{x i:Int}(m:x=48+(w:Int)%10)(q:i=(j:Int)):
  ∃p:Addr,aD SS.P 172 (.slice (some ⟨k,0,none⟩) n c) (.int .i64 i)=some (.pointer (some p))/\∃d:dP,ah SS.P 5 (.pointer (some p)) (.int .u8 x) h=some (undef,d)/\FB h0 k n u j (w/10) (d.app h):=by
 subst m q;obtain⟨cs,b,o,l⟩:=f.blk;have s:=f.jn;have g:=f.n24;refine⟨⟨k,0+j,none⟩,?_,.set k (.cells (cs.set j (ti (eZ (w%10)))) 219 0 true),?_,?_⟩
 ·unfold aD;rw[Br];dsimp only;rw[zz5];dsimp only;rw[if_pos ⟨by omega,by omega⟩,Nat.mul_one,dz,toNat_natCast]
 ·rw[show(48+((w:Nat):Int)%10)=48+((w%10:Nat):Int) by omega,<-Yf (mod_lt _ (by omega))];show(if aG SS.P 5=some 1 then(storeAt h k (0+j) [ti (eZ (w%10))]).map λu=>(undef,u)else none)=_;rw[if_pos zz5];unfold storeAt;rw[b];dsimp only;rw[Nat.zero_add,if_pos ⟨by simp;omega,rfl⟩];have e:cs.take j++[ti (eZ (w%10))]++cs.drop (j+[ti (eZ (w%10))].length)=cs.set j (ti (eZ (w%10))):=by
   rw[List.set_eq_take_append_cons_drop,if_pos (by omega),append_assoc];rfl
  rw[e];rfl
 ·have r:=f.ok.wf _ _ b;have a:n-j=(n-(j+1))+1:=by omega
  refine⟨⟨cs.set j (ti (eZ (w%10))),?_,by rw[length_set];exact o,?_⟩,?_,?_,by omega,g,f.ok.set r _⟩
  ·show(h.set k _).get k=_;rw[ae.aw,if_pos rfl]
  ·rw[List.drop_eq_getElem_cons (by simp only[length_set];omega),a,List.take_succ_cons,List.getElem_set_self,List.drop_set_of_lt (by omega),l,wH,List.map_cons,<-f.hw]
  ·rw[a,pow_succ,<-Nat.div_div_eq_div_mul,<-f.hw]
  ·have:=f.lt;rw[pow_succ]at this;omega
theorem adR{x:Nat}(b:z=(x:Int))(a:x<100):bP SS.P 9 (strOf SM) (.int .u32 (wrap .u32 (wrap .u32 (z*2)+1)))=some (.int .u8 (48+(x:Int)%10)):=by
 rw[nj (n:=z*2) (by omega) (by omega),nj (by omega) (by omega),oG (by kernel_rfl) SM .u32 (by omega) (by show _<((200:Nat):Int);omega),show(z*2+1).toNat=2*x+1 by omega,(Wc a).2];rfl
theorem adQ{x:Nat}(b:z=(x:Int))(a:x<100):bP SS.P 9 (strOf SM) (.int .u32 (wrap .u32 (z*2)))=some (.int .u8 (48+(x:Int)/10)):=by
 rw[nj (n:=z*2) (by omega) (by omega),oG (by kernel_rfl) SM .u32 (by omega) (by show _<((200:Nat):Int);omega),show(z*2).toNat=2*x by omega,(Wc a).1];rfl
theorem FB.pair(f:FB h0 k n u (j+2) w h){c:Nat}{y i1 i2:Int}(E:y=(w:Int)%100)(C:i1=(j:Int)+1)(D:i2=(j:Int)):
  ∃m:Int,bP SS.P 9 (strOf SM) (.int .u32 (wrap .u32 (wrap .u32 (y*2)+1)))=some (.int .u8 m)/\
  ∃d:Int,bP SS.P 9 (strOf SM) (.int .u32 (wrap .u32 (y*2)))=some (.int .u8 d)/\
  ∃g:Addr,aD SS.P 172 (.slice (some ⟨k,0,none⟩) n c) (.int .i64 i1)=some (.pointer (some g))/\
  ∃a:dP,ah SS.P 5 (.pointer (some g)) (.int .u8 m) (Go.Ab.room h 15)=some (undef,a)/\
  ∃l:Addr,aD SS.P 172 (.slice (some ⟨k,0,none⟩) n c) (.int .i64 i2)=some (.pointer (some l))/\
  ∃b:dP,ah SS.P 5 (.pointer (some l)) (.int .u8 d) (a.app (Go.Ab.room h 15))=some (undef,b)/\
  FB h0 k n u j (w/100) (b.app (a.app (Go.Ab.room h 15))):=by
 have e:y=((w%100:Nat):Int):=by omega
 obtain⟨p,A,t,s,B⟩:=(f.room 15).step (j:=j+1) (c:=c) (x:=48+((w%100:Nat):Int)%10) (i:=i1) (by omega) (by omega);obtain⟨q,v,r,z,o⟩:=B.step (c:=c) (x:=48+((w%100:Nat):Int)/10) (i:=i2) (by omega) (by omega);refine⟨_,adR e (by omega),_,adQ e (by omega),p,A,t,s,q,v,r,z,?_⟩;rw[Nat.div_div_eq_div_mul]at o;exact o
end
theorem T1{h0 h:ae}{k n c u:Nat}(f:FB h0 k n u n u h):FW SS 220 [.slice (some ⟨k,0,none⟩) n c,.int .u64 (u:Int)] h (λv O=>v = .tuple ⟨[]⟩/\∃w,FB h0 k n u 0 w O):=by
 have V:=f.n24;have L:=Ae (some ⟨k,0,none⟩) n c (u:Int) (λD i v g=>∃w:Nat,v=(w:Int)/\D=i/\FB h0 k n u i w g) (λv O=>v = .tuple ⟨[]⟩/\∃w,FB h0 k n u 0 w O) (by
  intro D i v;intros;rename_i g R;obtain⟨w,rfl,rfl,f⟩:=R;have S:=f.jn;have W:w<1000000000:=lt_of_lt_of_le f.lt (show 10^D<=10^9 from pow_le_pow_right (by omega) (by omega));refine aa (λK=>?_) (λK=>?_)
  ·have K:=dT K;obtain⟨j,rfl⟩:∃j,D=j+8:=⟨D-8,by omega⟩
   refine⟨_,gU (b:=100000000) (by omega) (by omega),_,qb (b:=100000000) (by omega) (by omega) (by omega),?_⟩;rw[nj (n:=((w:Nat):Int)%((100000000:Nat):Int)) (by omega) (by omega)];refine⟨_,DR (b:=10000) (by omega) (by omega) (by omega),_,gU (b:=10000) (by omega) (by omega),_,DR (b:=100) (by omega) (by omega) (by omega),_,gU (b:=100) (by omega) (by omega),_,DR (b:=100) (by omega) (by omega) (by omega),_,gU (b:=100) (by omega) (by omega),?_⟩;obtain⟨C,d,q,e,t,m,z,s,B,A,r,o,Q⟩:=FB.pair (j:=j+6) (c:=c) (y:=((w:Nat):Int)%((100000000:Nat):Int)%((10000:Nat):Int)%((100:Nat):Int)) (i1:=wrap .i64 (((j+8:Nat):Int)-1)) (i2:=wrap .i64 (((j+8:Nat):Int)-2)) f (by omega) (by rw[aB (by omega) (by omega)];omega) (by rw[aB (by omega) (by omega)];omega);refine⟨C,d,q,e,t,m,z,s,B,A,r,o,?_⟩;obtain⟨C,d,q,e,t,m,z,s,B,A,r,o,I⟩:=FB.pair (j:=j+4) (c:=c) (y:=((w:Nat):Int)%((100000000:Nat):Int)%((10000:Nat):Int)/((100:Nat):Int)) (i1:=wrap .i64 (((j+8:Nat):Int)-3)) (i2:=wrap .i64 (((j+8:Nat):Int)-4)) Q (by omega) (by rw[aB (by omega) (by omega)];omega) (by rw[aB (by omega) (by omega)];omega);refine⟨C,d,q,e,t,m,z,s,B,A,r,o,?_⟩;obtain⟨C,d,q,e,t,m,z,s,B,A,r,o,G⟩:=FB.pair (j:=j+2) (c:=c) (y:=((w:Nat):Int)%((100000000:Nat):Int)/((10000:Nat):Int)%((100:Nat):Int)) (i1:=wrap .i64 (((j+8:Nat):Int)-5)) (i2:=wrap .i64 (((j+8:Nat):Int)-6)) I (by omega) (by rw[aB (by omega) (by omega)];omega) (by rw[aB (by omega) (by omega)];omega);refine⟨C,d,q,e,t,m,z,s,B,A,r,o,?_⟩;obtain⟨C,d,q,e,t,m,z,s,B,A,r,o,F⟩:=FB.pair (j:=j) (c:=c) (y:=((w:Nat):Int)%((100000000:Nat):Int)/((10000:Nat):Int)/((100:Nat):Int)) (i1:=wrap .i64 (((j+8:Nat):Int)-7)) (i2:=wrap .i64 (((j+8:Nat):Int)-8)) G (by omega) (by rw[aB (by omega) (by omega)];omega) (by rw[aB (by omega) (by omega)];omega);refine⟨C,d,q,e,t,m,z,s,B,A,r,o,?_⟩;have N:wrap .i64 (((j+8:Nat):Int)-8)=(j:Int):=by rw[aB (by omega) (by omega)];omega
   rw[N];exact gY j (by omega) ⟨w/100000000,by omega,rfl,by
    have:=F;simp only[Nat.div_div_eq_div_mul]at this;exact this⟩
  ·have K:=dF K;have T:w<100000000:=lt_of_lt_of_le f.lt (show 10^D<=10^8 from pow_le_pow_right (by omega) (by omega));rw[nj (n:=((w:Nat):Int)) (by omega) (by omega)];refine aa (λJ=>?_) (λJ=>?_)
   ·have J:=dT J;obtain⟨j,rfl⟩:∃j,D=j+4:=⟨D-4,by omega⟩
    refine⟨_,gU (b:=10000) (by omega) (by omega),_,DR (b:=10000) (by omega) (by omega) (by omega),_,DR (b:=100) (by omega) (by omega) (by omega),_,gU (b:=100) (by omega) (by omega),?_⟩;obtain⟨C,d,q,e,t,m,z,s,B,A,r,o,Q⟩:=FB.pair (j:=j+2) (c:=c) (y:=((w:Nat):Int)%((10000:Nat):Int)%((100:Nat):Int)) (i1:=wrap .i64 (((j+4:Nat):Int)-1)) (i2:=wrap .i64 (((j+4:Nat):Int)-2)) f (by omega) (by rw[aB (by omega) (by omega)];omega) (by rw[aB (by omega) (by omega)];omega);refine⟨C,d,q,e,t,m,z,s,B,A,r,o,?_⟩;obtain⟨C,d,q,e,t,m,z,s,B,A,r,o,I⟩:=FB.pair (j:=j) (c:=c) (y:=((w:Nat):Int)%((10000:Nat):Int)/((100:Nat):Int)) (i1:=wrap .i64 (((j+4:Nat):Int)-3)) (i2:=wrap .i64 (((j+4:Nat):Int)-4)) Q (by omega) (by rw[aB (by omega) (by omega)];omega) (by rw[aB (by omega) (by omega)];omega);refine⟨C,d,q,e,t,m,z,s,B,A,r,o,?_⟩;have N:wrap .i64 (((j+4:Nat):Int)-4)=(j:Int):=by rw[aB (by omega) (by omega)];omega
    rw[N];have U:=I.lt;refine aa (λE=>?_) (λE=>?_)
    ·have E:=dT E;obtain⟨l,rfl⟩:∃l,j=l+2:=⟨j-2,by omega⟩
     refine⟨_,gU (b:=100) (by omega) (by omega),_,DR (b:=100) (by omega) (by omega) (by omega),?_⟩;obtain⟨C,d,q,e,t,m,z,s,B,A,r,o,G⟩:=FB.pair (j:=l) (c:=c) (y:=((w:Nat):Int)/((10000:Nat):Int)%((100:Nat):Int)) (i1:=wrap .i64 (((l+2:Nat):Int)-1)) (i2:=wrap .i64 (((l+2:Nat):Int)-2)) I (by omega) (by rw[aB (by omega) (by omega)];omega) (by rw[aB (by omega) (by omega)];omega);refine⟨C,d,q,e,t,m,z,s,B,A,r,o,?_⟩;have P:wrap .i64 (((l+2:Nat):Int)-2)=(l:Int):=by rw[aB (by omega) (by omega)];omega
     rw[P];refine aa (λa=>?_) (λa=>?_)
     ·have a:=dT a;obtain rfl:l=1:=by omega
      have M:=G.lt;rw[nj (n:=48+_) (by omega) (by omega),sY (n:=48+_) (by omega) (by omega)];obtain⟨p,d,H,e,F⟩:=G.step (c:=c) (x:=48+((w:Nat):Int)/((10000:Nat):Int)/((100:Nat):Int)) (i:=0) (by omega) rfl;exact⟨p,d,H,e,rfl,_,F⟩
     ·have a:=dF a;obtain rfl:l=0:=by omega
      exact⟨rfl,_,G⟩
    ·have E:=dF E;refine aa (λa=>?_) (λa=>?_)
     ·have a:=dT a;obtain rfl:j=1:=by omega
      rw[nj (n:=48+_) (by omega) (by omega),sY (n:=48+_) (by omega) (by omega)];obtain⟨p,d,H,e,F⟩:=I.step (c:=c) (x:=48+((w:Nat):Int)/((10000:Nat):Int)) (i:=0) (by omega) rfl;exact⟨p,d,H,e,rfl,_,F⟩
     ·have a:=dF a;obtain rfl:j=0:=by omega
      exact⟨rfl,_,I⟩
   ·have J:=dF J;refine aa (λE=>?_) (λE=>?_)
    ·have E:=dT E;obtain⟨l,rfl⟩:∃l,D=l+2:=⟨D-2,by omega⟩
     refine⟨_,gU (b:=100) (by omega) (by omega),_,DR (b:=100) (by omega) (by omega) (by omega),?_⟩;obtain⟨C,d,q,e,t,m,z,s,B,A,r,o,G⟩:=FB.pair (j:=l) (c:=c) (y:=((w:Nat):Int)%((100:Nat):Int)) (i1:=wrap .i64 (((l+2:Nat):Int)-1)) (i2:=wrap .i64 (((l+2:Nat):Int)-2)) f (by omega) (by rw[aB (by omega) (by omega)];omega) (by rw[aB (by omega) (by omega)];omega);refine⟨C,d,q,e,t,m,z,s,B,A,r,o,?_⟩;have P:wrap .i64 (((l+2:Nat):Int)-2)=(l:Int):=by rw[aB (by omega) (by omega)];omega
     rw[P];have M:=G.lt;refine aa (λa=>?_) (λa=>?_)
     ·have a:=dT a;obtain rfl:l=1:=by omega
      rw[nj (n:=48+_) (by omega) (by omega),sY (n:=48+_) (by omega) (by omega)];obtain⟨p,d,H,e,F⟩:=G.step (c:=c) (x:=48+((w:Nat):Int)/((100:Nat):Int)) (i:=0) (by omega) rfl;exact⟨p,d,H,e,rfl,_,F⟩
     ·have a:=dF a;obtain rfl:l=0:=by omega
      exact⟨rfl,_,G⟩
    ·have E:=dF E;have M:=f.lt;refine aa (λa=>?_) (λa=>?_)
     ·have a:=dT a;obtain rfl:D=1:=by omega
      rw[nj (n:=48+_) (by omega) (by omega),sY (n:=48+_) (by omega) (by omega)];obtain⟨p,d,H,e,F⟩:=f.step (c:=c) (x:=48+((w:Nat):Int)) (i:=0) (by omega) rfl;exact⟨p,d,H,e,rfl,_,F⟩
     ·have a:=dF a;obtain rfl:D=0:=by omega
      exact⟨rfl,_,f⟩)
 exact T0 _ n c _ h _ (L n ⟨u,rfl,rfl,f⟩)
end
variable{k:Nat}{b:Bool}{i:Nat}
noncomputable def Sy:dV:= .cells (List.replicate 24 (.int .u8 0)) 219 0 true
theorem acA:br SS.P 219=some (Sy,lk):=by kernel_rfl
theorem acB:SS.P.underlying 219=some (.array 24 5):=by kernel_rfl
theorem FU{cs:List Value}(c:h.get k=some (.cells cs 219 0 b)){n:Nat}(f:n<=24):bF SS.P 219 (.pointer (some ⟨k,0,none⟩)) none (some (.int .i64 (n:Int))) none h=some (.slice (some ⟨k,0,none⟩) n 24):=by
 unfold bF;dsimp only;rw[acB];dsimp only[eU];rw[zz5,c];show(if 0<=((0:Nat):Int)/\((0:Nat):Int)<=(n:Int)/\(n:Int)<=((24:Nat):Int)/\24<dm then some (Value.slice (some ⟨k,0+((0:Nat):Int).toNat*1,none⟩) ((n:Int)-((0:Nat):Int)).toNat (24-((0:Nat):Int).toNat))else none)=_;have a:24<dm:=by unfold dm;omega
 rw[if_pos ⟨by omega,by omega,by omega,a⟩];have d:((n:Int)-((0:Nat):Int)).toNat=n:=by omega
 have e:((0:Nat):Int).toNat=0:=rfl;rw[d,e]
theorem NN{c:Nat}{cs:List Value}(e:h.get k=some (.cells cs i j b)){l:List UInt8}(d:(cs.drop n).take m=l.map ti)(a:l.length=m):BT SS.P 172 9 (.slice (some ⟨k,n,none⟩) m c) h=some (strOf l):=by
 unfold BT cV;dsimp only;rw[Br,show SS.P.underlying 9=some .string by kernel_rfl];dsimp only;rw[show SS.P.underlying 5=some (.int .u8) by kernel_rfl];dsimp only;rw[e];dsimp only;rw[d,if_pos (by rw[lM];exact a),pQ];rfl
theorem J7(p:n<1000000000){h:ae}(t:nW h)(w:Wf h):FW SS 207 [.int .u64 (n:Int),.int .i64 10] h (λv q=>v=strOf (ag n)/\Ok h q):=by
 refine J6 _ h _ (aa (λ_=>?_) (λg=>by simp at g));refine aa (λg=>?_) (λg=>?_)
 ·have g:=dT g;rw[aB (by omega) (by omega)];refine(We (by omega) h).mono ?_;rintro _ _ ⟨rfl,rfl⟩;exact⟨_,rfl,rfl,Ok.refl w⟩
 ·have g:=dF g;have b:=(Ok.refl w).push Sy;refine⟨_,acA,(H5 (by omega) p (t.ok b)).mono ?_⟩;rintro _ y ⟨r,d,rfl,u,i,c⟩;subst r;have l:(h.push Sy).get h.next=some (.cells (List.replicate 24 (.int .u8 0)) 219 0 true):=by rw[ae.bt,if_pos rfl];rfl
  refine⟨_,rfl,_,_,_,FU l (n:=d+1) (by omega),?_⟩;have f:FB (h.push Sy) h.next (d+1) n (d+1) n (h.push Sy):=⟨⟨_,l,by simp,by simp[Num.wid]⟩,by simp,c,Nat.le_refl _,by omega,Jt.refl b.wf⟩
  refine(T1 f).mono ?_;rintro _ s ⟨rfl,x,a⟩;obtain⟨cs,m,z,k⟩:=a.blk;rw[drop_zero,Nat.sub_zero]at k;refine⟨rfl,_,_,_,FU m (n:=d+1) (by omega),ag n,NN m ?_ ?_,rfl,?_⟩
  ·rw[drop_zero,k,zF c (.inr i)]
  ·rw[<-zF c (.inr i),zG]
  ·refine⟨a.ok.wf,λj B o=>a.ok.kL j B (λe=>by have:=w _ _ o;omega) (b.ext _ _ o),Nat.le_trans b.nx a.ok.nx⟩
theorem ME(a:n<1000000000){h:ae}(t:nW h)(w:Wf h):FW SS 197 [.int .u64 (n:Int),.int .i64 10] h (λv b=>v=strOf (ag n)/\Ok h b):=by
 refine MD _ h _ ((J7 a t w).mono ?_);rintro _ c ⟨rfl,o⟩;exact⟨_,rfl,rfl,o⟩
noncomputable def rN:FD:=cF Tryz.f208 []
theorem E7(p:Addr)(h:ae)(Q:VH)(m:fP 201 (.pointer (some p)) 0 λl=>xO (aj SS.P 199 h (.pointer (some l))) λk=>xB (ay SS.P .eql 199 (.pointer k) (.pointer none)) λj=>au j (xG (dX SS.P js (ev SS.gl (uN [(.pointer (some p)),undef,(.pointer (some p)),(.pointer (some p)),(.pointer (some l)),(.pointer k),(.bool j),(.pointer (some p)),(.pointer (some p))] 11)) (KW (fQ [1,0] rN.body) 2) h) h λh _ i=>FW SS 222 [h] i λf g=>yV f λe=>xG (dX SS.P js (ev SS.gl (uN [(.pointer (some p)),undef,(.pointer (some p)),(.pointer (some p)),(.pointer (some l)),(.pointer k),(.bool j),(.pointer (some p)),(.pointer (some p)),h,e] 9)) (KW (fQ [1,0] rN.body) 4) g) g λc _ d=>fP 201 (.pointer (some p)) 0 λb=>xU (ah SS.P 199 (.pointer (some b)) c d) d λ_ a=>Q (.tuple ⟨[]⟩) a) (fP 201 (.pointer (some p)) 0 λc=>xO (aj SS.P 199 h (.pointer (some c))) λb=>xB (ay SS.P .neq 199 (.pointer b) (.pointer (some p))) λa=>au a (False) (Q (.tuple ⟨[]⟩) h))):FW SS 208 [(.pointer (some p))] h Q:=cI rN Tryz.func208 (ai m)
noncomputable def Tr:FD:=cF Tryz.f198 []
theorem PQ(p:Addr)(l:LB)(h:ae)(Q:VH)(n:FW SS 208 [(.pointer (some p))] h λk m=>k=(.tuple ⟨[]⟩)/\fP 201 (.pointer (some p)) 1 λj=>lL 172 m j λg h i=>xE (bH SS.P 172 9 (.slice g h i) (strOf l) m) m λc d e _ f=>fP 201 (.pointer (some p)) 1 λb=>xU (ah SS.P 172 (.pointer (some b)) (.slice c d e) f) f λ_ a=>Q (.tuple ⟨[(.int .i64 ((l:LB).length:Int)),.nilIface]⟩) a):FW SS 198 [(.pointer (some p)),(strOf l)] h Q:=cI Tr Tryz.func198 (ai n)
noncomputable def zQ:FD:=cF Tryz.f200 []
theorem Mo(p:Addr)(h:ae)(Q:VH)(n:fP 201 (.pointer (some p)) 1 λm=>lL 172 (room h 12) m λj k l=>xG (dX SS.P js (ev SS.gl (uN [(.pointer (some p)),undef,(strOf []),(.pointer (some p)),(.pointer (some p)),(.pointer (some m)),(.slice j k l)] 7)) (KW (fQ [1,0] zQ.body) 4) (room h 12)) (room h 12) λg _ i=>fP 201 (.pointer (some p)) 1 λf=>lL 172 i f λc d e=>xG (dX SS.P js (ev SS.gl [(.pointer (some p)),undef,(strOf []),(.pointer (some p)),(.pointer (some p)),(.pointer (some m)),(.slice j k l),g,(.pointer (some p)),(.pointer (some p)),(.pointer (some f)),(.slice c d e),(iA d),undef]) (KW (fQ [1,0] zQ.body) 10) i) i λa _ b=>(aj SS.P 172 (room h 12) (.pointer (some f))=some (.slice c d e)/\dG 4 (.slice c d e) (.slice c d e)=true)/\(UB SS.P 172 (.slice c d e) (room h 12)=some (iA d)/\dG 4 (iA d) (iA d)=true)/\Q a b):FW SS 200 [(.pointer (some p))] h Q:=cI zQ Tryz.func200 (ai n)
variable{T:TypeId}{v:Value}{c:List Value}{s:List UInt8}{t:List UInt8}
theorem wu:SS.P.underlying 199=some (.pointer 201):=by kernel_rfl
theorem Bt:SS.P.underlying 223=some .unsafePointer:=by kernel_rfl
theorem WS:aG SS.P 201=some 2:=by kernel_rfl
theorem Yn{ρ:Operand->Value}{o:Oper}{x:Operand}(q:o.op = .convert 199 223 x){h:ae}{k:Nat}{a b:Value}{m:Bool}(g:ρ x = .pointer (some ⟨k,0,none⟩))(p:h.get k=some (.cells [a,b] 201 0 m)):dX SS.P js ρ o h=some (.pointer (some ⟨k,0,none⟩),.no):=by
 obtain⟨f,s,i,e,d,c⟩:=o;subst q;unfold dX;have l:dq SS.P ρ ⟨f,.convert 199 223 x,i,e,d,c⟩=none:=by
  show gX SS.P 199 223 (ρ x)=none;rw[g];unfold gX;rw[wu,Bt]
 have n:cV SS.P ρ ⟨f,.convert 199 223 x,i,e,d,c⟩ h=none:=by
  unfold cV;dsimp only;rw[wu,Bt,g]
 have j:bW SS.P ρ ⟨f,.convert 199 223 x,i,e,d,c⟩=none:=by
  unfold bW;dsimp only;rw[wu,Bt,g]
 rw[l];dsimp only;rw[n];dsimp only;rw[j];dsimp only;unfold gF;dsimp only;rw[wu,Bt,g];show(match h.get k with|some (.cells cs r 0 _)=>if 201=r/\aG SS.P 201=some cs.length/\0<cs.length then some (Value.pointer (some ⟨k,0,none⟩),dP.no)else none|_=>none)=_;rw[p];show(if 201=201/\aG SS.P 201=some [a,b].length/\0<[a,b].length then some (Value.pointer (some ⟨k,0,none⟩),dP.no)else none)=_;rw[if_pos ⟨rfl,WS,by simp⟩]
theorem P0{ρ:Operand->Value}{o:Oper}{x:Operand}(q:o.op = .convert 223 199 x){h:ae}{k:Nat}{a b:Value}{m:Bool}(g:ρ x = .pointer (some ⟨k,0,none⟩))(p:h.get k=some (.cells [a,b] 201 0 m)):dX SS.P js ρ o h=some (.pointer (some ⟨k,0,none⟩),.no):=by
 obtain⟨f,s,i,e,d,c⟩:=o;subst q;unfold dX;have l:dq SS.P ρ ⟨f,.convert 223 199 x,i,e,d,c⟩=none:=by
  show gX SS.P 223 199 (ρ x)=none;rw[g];unfold gX;rw[wu,Bt]
 have n:cV SS.P ρ ⟨f,.convert 223 199 x,i,e,d,c⟩ h=none:=by
  unfold cV;dsimp only;rw[wu,Bt,g]
 have j:bW SS.P ρ ⟨f,.convert 223 199 x,i,e,d,c⟩=none:=by
  unfold bW;dsimp only;rw[wu,Bt,g]
 rw[l];dsimp only;rw[n];dsimp only;rw[j];dsimp only;unfold gF;dsimp only;rw[wu,Bt,g];show(match h.get k with|some (.cells cs r 0 _)=>if 201=r/\aG SS.P 201=some cs.length/\0<cs.length then some (Value.pointer (some ⟨k,0,none⟩),dP.no)else none|_=>none)=_;rw[p];show(if 201=201/\aG SS.P 201=some [a,b].length/\0<[a,b].length then some (Value.pointer (some ⟨k,0,none⟩),dP.no)else none)=_;rw[if_pos ⟨rfl,WS,by simp⟩]
def self(k:Nat):Value:= .pointer (some ⟨k,0,none⟩)
theorem abv(k:Nat):aE SS.P 201 (.pointer (some ⟨k,0,none⟩)) 0=some (.pointer (some ⟨k,0,none⟩)):=by kernel_rfl
theorem YE(k:Nat):aE SS.P 201 (.pointer (some ⟨k,0,none⟩)) 1=some (.pointer (some ⟨k,1,none⟩)):=by kernel_rfl
theorem ld0{a b:Value}{c:Bool}(d:h.get k=some (.cells [a,b] 201 0 c)):aj SS.P 199 h (.pointer (some ⟨k,0,none⟩))=some a:=by
 unfold aj;rw[wu];dsimp only;rw[d];dsimp only;rw[show Go.Ab.isAgg SS.P 199=false by kernel_rfl];rfl
theorem ld1{a b:Value}{c:Bool}(d:h.get k=some (.cells [a,b] 201 0 c)):aj SS.P 172 h (.pointer (some ⟨k,1,none⟩))=some b:=by
 unfold aj;rw[Br];dsimp only;rw[d];dsimp only;rw[show Go.Ab.isAgg SS.P 172=false by kernel_rfl];rfl
theorem st0{a b x:Value}(d:h.get k=some (.cells [a,b] 201 0 true))(c:dQ x=true)(e:x.cells = #[x]):ah SS.P 199 (.pointer (some ⟨k,0,none⟩)) x h=some (undef,.set k (.cells [x,b] 201 0 true)):=by
 show(if aG SS.P 199=some x.cells.size then(storeAt h k 0 x.cells.toList).map λu=>(undef,u)else none)=_;rw[e,show aG SS.P 199=some 1 by kernel_rfl,if_pos (show some 1=some #[x].size from rfl)];unfold storeAt;rw[d];dsimp only;rw[if_pos ⟨by simp,by simp[c]⟩];rfl
theorem st1{a b x:Value}(d:h.get k=some (.cells [a,b] 201 0 true))(c:dQ x=true)(e:x.cells = #[x]):ah SS.P 172 (.pointer (some ⟨k,1,none⟩)) x h=some (undef,.set k (.cells [a,x] 201 0 true)):=by
 show(if aG SS.P 172=some x.cells.size then(storeAt h k 1 x.cells.toList).map λu=>(undef,u)else none)=_;rw[e,show aG SS.P 172=some 1 by kernel_rfl,if_pos (show some 1=some #[x].size from rfl)];unfold storeAt;rw[d];dsimp only;rw[if_pos ⟨by simp,by simp[c]⟩];rfl
theorem Hu{a b:Value}(c:h.get k=some (.cells [a,b] 201 0 true))(f:a = .pointer none\/a=self k):
  FW SS 208 [self k] h (λv d=>v = .tuple ⟨[]⟩/\d.get k=some (.cells [self k,b] 201 0 true)/\(∀j,j≠k->d.get j=h.get j)/\d.next=h.next):=by
 refine E7 ⟨k,0,none⟩ h _ ⟨_,abv k,?_⟩;rcases f with rfl|rfl
 ·refine⟨_,ld0 c,true,by kernel_rfl,?_⟩;refine aa (λ_=>?_) (λg=>by cases g);refine⟨_,_,Yn (k:=k) (x:= .tmp 8) (by kernel_rfl) (by kernel_rfl) c,Cb (p:=re) (v:=self k) (by kernel_rfl) (by kernel_rfl) (λ_=>rfl) ⟨_,rfl,_,_,P0 (k:=k) (x:= .tmp 10) (by kernel_rfl) (by kernel_rfl) c,_,abv k,_,st0 c rfl rfl,rfl,?_,?_,rfl⟩⟩
  ·show(h.set k _).get k=_;rw[ae.aw,if_pos rfl];rfl
  ·intro j i;show(h.set k _).get j=_;rw[ae.aw,if_neg i]
 ·refine⟨_,ld0 c,false,by kernel_rfl,?_⟩;refine aa (λg=>by cases g) (λ_=>?_);have e:ay SS.P .neq 199 (self k) (self k)=some (.bool false):=by
   show((rT SS.P 199 (.pointer (some ⟨k,0,none⟩)) (.pointer (some ⟨k,0,none⟩))).map λb=>Value.bool !b)=_;unfold rT;dsimp only;rw[wu];dsimp only;rw[if_pos ⟨rfl,by rw[WS];rfl⟩];rfl
  refine⟨_,abv k,_,ld0 c,false,e,aa (λg=>by cases g) (λ_=>⟨rfl,c,λ_ _=>rfl,rfl⟩)⟩
def Bd(b h:ae)(k:Nat)(l:List UInt8):Prop:=∃a v,h.get k=some (.cells [a,v] 201 0 true)/\(a = .pointer none\/a=self k)/\BC b h 5 v (l.map ti)/\b.next<=k
theorem rw5:eW SS.P 5=some ((SS.P.info? 5).getD default):=by kernel_rfl
theorem ae8:((SS.P.info? 5).getD default).size=1:=by kernel_rfl
theorem ae7:((SS.P.info? 5).getD default).bytes=1:=by kernel_rfl
theorem tl9:dZ SS.P 9=true:=by kernel_rfl
theorem abW(h:ae)(l:List UInt8):fY h 1 (strOf l)=some (l.map ti,(l.map ti).length):=by
 show(if 1=1 then some (l.map (λb=>Value.int .u8 b.toNat),l.length)else none)=_;rw[if_pos rfl,lM];rfl
theorem Ol:∀l:List UInt8,(l.map ti).all dQ=true
 |[]=>rfl
 |c::l=>by rw[List.map_cons,List.all_cons,Ol l];rfl
theorem Ia{i:ae}(o:BC g h T v c)(f:∀j B,h.get j=some B->(∃cs d,B = .cells cs T 1 d)->i.get j=some B):BC g i T v c:=by
 rcases o with o|⟨k,b,e,a⟩
 ·exact .inl o
 ·exact .inr ⟨k,b,e,f _ _ a ⟨_,_,rfl⟩⟩
theorem zT(u:Wf g)(p:Ok g h)(b:Bd g h k s)(T:s.length+t.length<=1000000):
  FW SS 198 [self k,strOf t] h (λv G=>v = .tuple ⟨[.int .i64 (t.length:Int),.nilIface]⟩/\Ok g G/\Bd g G k (s++t)):=by
 obtain⟨a,v,y,R,o,D⟩:=b;refine PQ ⟨k,0,none⟩ t h _ ((Hu y R).mono ?_);rintro _ C ⟨rfl,A,z,F⟩;have H:Ok g C:=by
  refine⟨λj B d=>?_,λj B d=>?_,by rw[F];exact p.nx⟩
  ·rw[F];by_cases e:j=k
   ·rw[e];exact p.wf _ _ y
   ·rw[z j e]at d;exact p.wf _ _ d
  ·have:=u _ _ d;rw[z j (by omega)];exact p.ext _ _ d
 have r:BC g C 5 v (s.map ti):=Ia o λj B d x=>by
  obtain⟨cs,P,rfl⟩:=x;by_cases e:j=k
  ·subst e;rw[y]at d;injection d with d;injection d;omega
  ·rw[z j e];exact d
 have M:∃a n c,v = .slice a n c:=by
  rcases r with⟨rfl,_⟩|⟨_,rfl,_⟩<;>exact⟨_,_,_,rfl⟩
 obtain⟨Q,L,S,rfl⟩:=M;obtain⟨I,K,E,f,N,J,q,w⟩:=r.aep Br rw5 ae8 tl9 u H (abW C t) (Ol t) (by rw[ae7,lM,lM];omega) (by rw[lM,lM];omega);have l:(f.app C).get k=some (.cells [self k,.slice Q L S] 201 0 true):=w k _ A (by
  intro o n c e;rcases r with⟨i,_⟩|⟨O,i,_,m⟩
  ·rw[i]at e;cases e
  ·rw[i]at e;injection e with e
   injection e with e
   injection e with e
   subst e;rw[A]at m;injection m with m;injection m;omega)
 refine⟨rfl,_,YE k,_,_,_,ld1 A,I,K,E,f,N,_,YE k,_,st1 l ?_ ?_,rfl,?_,?_⟩
 ·rcases J with⟨i,_⟩|⟨O,i,_,m⟩<;>rw[i]<;>rfl
 ·rfl
 ·exact q.set _ D (q.wf _ _ l) u
 ·refine⟨self k,.slice I K E,?_,.inr rfl,?_,D⟩
  ·show((f.app C).set k _).get k=_;rw[ae.aw,if_pos rfl]
  ·rw[map_append];refine Ia J λj B d x=>?_;obtain⟨cs,P,rfl⟩:=x;show((f.app C).set k _).get j=_;rw[ae.aw,if_neg]
   ·exact d
   intro e;subst e;rw[l]at d;injection d with d;injection d;omega
theorem adM{ρ:Operand->Value}{o:Oper}{x:Operand}{ts:Array TypeId}(f:o.op = .call ⟨.builtin .unsafeSliceData,#[x],ts⟩){h:ae}{a:Addr}{n c:Nat}(e:ρ x = .slice (some a) n c)(g:0<bC c):dX SS.P js ρ o h=some (.pointer (some a),.no):=by
 obtain⟨j,l,k,i,d,b⟩:=o;subst f;show(match [x].map ρ with
  |[.slice none _ _]=>some (Value.pointer none,dP.no)
  |[.slice (some a) _ c]=>if 0<bC c then some (Value.pointer (some a),dP.no)else none
  |_=>none)=_
 rw[List.map_cons,List.map_nil,e];show(if 0<bC c then some (Value.pointer (some a),dP.no)else none)=_;rw[if_pos g]
theorem ad1:SS.P.underlying 217=some (.pointer 5):=by kernel_rfl
theorem ZJ{ρ:Operand->Value}{o:Oper}{x y:Operand}{t2:TypeId}(j:o.op = .call ⟨.builtin .unsafeString,#[x,y],#[217,t2]⟩){h:ae}{k:Nat}{l:List UInt8}(d:ρ x = .pointer (some ⟨k,0,none⟩))(q:ρ y = .int .i64 (l.length:Int))(g:h.get k=some (.cells (l.map ti) 5 1 true))(m:l≠[])(u:l.length<9223372036854775807):dX SS.P js ρ o h=some (strOf l,.set k (.cells (l.map ti) 5 1 false)):=by
 obtain⟨s,v,t,r,c,b⟩:=o;subst j;show(match [x,y].map ρ,(#[217,t2]:Array TypeId)[0]? with
  |[.pointer none,.int _ 0],some _=>some (strOf [],dP.no)
  | [.pointer (some ⟨k,i,none⟩),.int _ n],some p=>(match h.get k,SS.P.underlying p with
   | some (.cells cs e 1 true),some (.pointer a)=>
    if e=a/\aG SS.P e=some 1/\0<n/\n<9223372036854775807/\((cs.drop i).take n.toNat).length=n.toNat then
     (match bytesOf ((cs.drop i).take n.toNat)with
     |some l=>some (strOf l,dP.set k (.cells cs e 1 false))
     |none=>none)
    else none
   |_,_=>none)
  |_,_=>none)=_
 rw[List.map_cons,List.map_cons,List.map_nil,d,q];show(match h.get k,SS.P.underlying 217 with
   | some (.cells cs e 1 true),some (.pointer a)=>
    if e=a/\aG SS.P e=some 1/\0<(l.length:Int)/\(l.length:Int)<9223372036854775807/\((cs.drop 0).take (l.length:Int).toNat).length=(l.length:Int).toNat then
     (match bytesOf ((cs.drop 0).take (l.length:Int).toNat)with
     |some l=>some (strOf l,dP.set k (.cells cs e 1 false))
     |none=>none)
    else none
   |_,_=>none)=_
 rw[g,ad1];have w:=List.length_pos_iff.2 m;show(if 5=5/\aG SS.P 5=some 1/\0<(l.length:Int)/\(l.length:Int)<9223372036854775807/\(((l.map ti).drop 0).take (l.length:Int).toNat).length=(l.length:Int).toNat then
     (match bytesOf (((l.map ti).drop 0).take (l.length:Int).toNat)with
     |some f=>some (strOf f,dP.set k (.cells (l.map ti) 5 1 false))
     |none=>none)
    else none)=_
 rw[toNat_natCast,drop_zero,take_of_length_le (by simp),if_pos ⟨rfl,zz5,by omega,by omega,by simp⟩,pQ]
theorem Mp(l:Wf g)(j:Ok g h)(b:Bd g h k s)(e:s≠[])(z:s.length<=1000000):
  FW SS 200 [self k] h (λv q=>v=strOf s/\Ok g q):=by
 obtain⟨a,v,r,A,o,w⟩:=b;rcases o with⟨_,m⟩|⟨f,rfl,p,i⟩
 ·exact absurd (List.map_eq_nil_iff.1 m) e
 have d:(room h 12).get k=_:=r;have t:=List.length_pos_iff.2 e;have u:bC (dm+(s.map ti).length)=s.length:=by unfold bC;rw[if_pos (by omega),lM];omega
 rw[lM]at*;refine Mo ⟨k,0,none⟩ h _ ⟨_,YE k,_,_,_,ld1 d,_,_,adM (x:= .tmp 6) (ts:= #[172]) (a:=⟨f,0,none⟩) (n:=s.length) (c:=dm+s.length) (by kernel_rfl) (by kernel_rfl) (by rw[u];exact t),_,YE k,_,_,_,ld1 d,_,_,ZJ (x:= .tmp 7) (y:= .tmp 12) (k:=f) (l:=s) (t2:=3) (by kernel_rfl) (by kernel_rfl) (by kernel_rfl) i e (by omega),⟨ld1 d,by simp[dG]⟩,⟨rfl,by simp[dG]⟩,rfl,?_⟩;exact(j.room 12).set _ p ((j.room 12).wf _ _ i) l
theorem aeU(m:Nat)(h:ae):bY SS.P SS.gl SS.pr (m+8) 199 [strOf [48],.int .i64 0] h=some (strOf [],h):=by kernel_rfl
theorem aeV(m:Nat)(h:ae):bY SS.P SS.gl SS.pr (m+8) 199 [strOf [48],.int .i64 1] h=some (strOf [48],h):=by kernel_rfl
theorem aeW(m:Nat)(h:ae):bY SS.P SS.gl SS.pr (m+8) 199 [strOf [48],.int .i64 2] h=some (strOf [48,48],h):=by kernel_rfl
theorem aeX(m:Nat)(h:ae):bY SS.P SS.gl SS.pr (m+8) 199 [strOf [48],.int .i64 3] h=some (strOf [48,48,48],h):=by kernel_rfl
theorem aeY(m:Nat)(h:ae):bY SS.P SS.gl SS.pr (m+8) 199 [strOf [48],.int .i64 4] h=some (strOf [48,48,48,48],h):=by kernel_rfl
theorem aeZ(m:Nat)(h:ae):bY SS.P SS.gl SS.pr (m+8) 199 [strOf [48],.int .i64 5] h=some (strOf [48,48,48,48,48],h):=by kernel_rfl
theorem ae0(m:Nat)(h:ae):bY SS.P SS.gl SS.pr (m+8) 199 [strOf [48],.int .i64 6] h=some (strOf [48,48,48,48,48,48],h):=by kernel_rfl
theorem ae1(m:Nat)(h:ae):bY SS.P SS.gl SS.pr (m+8) 199 [strOf [48],.int .i64 7] h=some (strOf [48,48,48,48,48,48,48],h):=by kernel_rfl
theorem ae2(m:Nat)(h:ae):bY SS.P SS.gl SS.pr (m+8) 199 [strOf [48],.int .i64 8] h=some (strOf [48,48,48,48,48,48,48,48],h):=by kernel_rfl
theorem RK(d:n<=8)(h:ae):FW SS 199 [strOf [48],.int .i64 (n:Int)] h (λv b=>v=strOf (List.replicate n 48)/\b=h):=by
 have a:∀(z:Int)(l:List UInt8),(∀m,bY SS.P SS.gl SS.pr (m+8) 199 [strOf [48],.int .i64 z] h=some (strOf l,h))->FW SS 199 [strOf [48],.int .i64 z] h (λv b=>v=strOf l/\b=h):=λz l c=>
  ⟨_,_,⟨8,λN e=>by obtain⟨m,rfl⟩:∃m,N=m+8:=⟨N-8,by omega⟩;exact c m⟩,rfl,rfl⟩
 have:n=0\/n=1\/n=2\/n=3\/n=4\/n=5\/n=6\/n=7\/n=8:=by omega
 rcases this with rfl|rfl|rfl|rfl|rfl|rfl|rfl|rfl|rfl
 ·exact a 0 _ λm=>aeU m h
 ·exact a 1 _ λm=>aeV m h
 ·exact a 2 _ λm=>aeW m h
 ·exact a 3 _ λm=>aeX m h
 ·exact a 4 _ λm=>aeY m h
 ·exact a 5 _ λm=>aeZ m h
 ·exact a 6 _ λm=>ae0 m h
 ·exact a 7 _ λm=>ae1 m h
 ·exact a 8 _ λm=>ae2 m h
noncomputable def mM:FD:=cF Tryz.f187 [([1,1,1,0,1,0,0],[0,3,10,11])]
abbrev kY(a:OA)(n c:Nat)(p:Addr)(b:Int)(i:Nat):LV:=[(.slice a n c),(.pointer (some p)),(.int .i64 b),(iA i)]
theorem MW(a:OA)(n c:Nat)(h:ae)(Q:VH)(d:au ((((n:Int):Int)==0)) (Q (strOf [48]) h) (xN (br SS.P 201) h λ_ b=>LL SS mM [1,1,1,0,1,0,0] [(.slice a n c),(pA (h.next)),(iA n),(.int .i64 0)] b (KK SS mM [1,1,1,0,1,0] [] (EE SS mM Q)))):FW SS 187 [(.slice a n c)] h Q:=cI mM Tryz.func187 (ai d)
theorem wR(a:OA)(n c:Nat)(p:Addr)(v:Int)(w:Nat->Nat->ae->Prop)(Q:VH)(step:∀(x:Nat) (i:Nat) (z:Nat->Value) (h:ae),w x i h->au (decide (((i:Int):Int)<v)) (xP (aD SS.P 177 (.slice a n c) (.int .i64 (wrap .i64 (wrap .i64 ((n:Int)-1)-(i:Int))))) λu=>xI .u64 (aj SS.P 150 h (.pointer (some u))) λt=>FW SS 197 [(.int .u64 t),(.int .i64 10)] h λr s=>yS r λq=>au (decide (((i:Int):Int)>0)) (FW SS 199 [(strOf [48]),(.int .i64 (wrap .i64 (9-((q:LB).length:Int))))] s λm o=>yS m λl=>FW SS 198 [(.pointer (some p)),(strOf l)] o λj k=>∃h:Int,∃g:Value,j=(.tuple ⟨[(.int .i64 h),g]⟩)/\FW SS 198 [(.pointer (some p)),(strOf q)] k λe f=>∃d:Int,∃b:Value,e=(.tuple ⟨[(.int .i64 d),b]⟩)/\aJ (fs (kY a n c p v) w) x [(.slice a n c),(.pointer (some p)),(.int .i64 v),(.int .i64 (wrap .i64 ((i:Int)+1)))] f) (FW SS 198 [(.pointer (some p)),(strOf q)] s λe f=>∃d:Int,∃b:Value,e=(.tuple ⟨[(.int .i64 d),b]⟩)/\aJ (fs (kY a n c p v) w) x [(.slice a n c),(.pointer (some p)),(.int .i64 v),(.int .i64 (wrap .i64 ((i:Int)+1)))] f)) (FW SS 200 [(.pointer (some p))] h λb c=>yS b λa=>Q (strOf a) c))(x:Nat){i:Nat}{h:ae}(y:w x i h):LL SS mM [1,1,1,0,1,0,0] (kY a n c p v i) h (KK SS mM [1,1,1,0,1,0] [] (EE SS mM Q)):=
 dc (kY a n c p v) w (λx i z h y=>ai (step x i z h y)) x y
noncomputable def pn:FD:=cF Tryz.f175 [([1,1,1,0,0,0],[6,7])]
abbrev lY  (a:OA) (n c:Nat) (b:OA) (k d:Nat):LV:=[(.slice a n c),(.slice b k d)]
theorem QR(l m:LB)(h:ae)(Q:VH)(s:FW SS 171 [(strOf l)] h λq r=>yB q λp=>au (!p) (Q (.tuple ⟨[(strOf []),(.int .i64 1)]⟩) r) (FW SS 171 [(strOf m)] r λn o=>yB n λk=>au (!k) (Q (.tuple ⟨[(strOf []),(.int .i64 1)]⟩) o) (FW SS 172 [(strOf l)] o λi j=>yL i λf g h=>FW SS 172 [(strOf m)] j λd e=>yL d λa b c=>LL SS pn [1,1,1,0,0,0] (lY f g h a b c) e (KK SS pn [1,1,1,0,0] [] (EE SS pn Q))))):FW SS 175 [(strOf l),(strOf m)] h Q:=cI pn Tryz.func175 (ai s)
theorem yr(l m:LB)  (f:Nat->OA->Nat->Nat->OA->Nat->Nat->ae->Prop) (Q:VH) (step:∀(e:Nat)(a:OA)(n c:Nat)(b:OA)(k d:Nat)(q:Nat->Value)(h:ae),f e a n c b k d h->au (decide (((k:Int):Int)>0)) (FW SS 189 [(.slice a n c),(.slice b k d)] h λa c=>∃(r:OA)(s p:Nat),∃(g:OA)(i j:Nat),a=(.tuple ⟨[(.slice r s p),(.slice g i j)]⟩)/\aJ (LA6 lY f) e [(.slice b k d),(.slice g i j)] c) (FW SS 187 [(.slice a n c)] h λb c=>yS b λa=>Q (.tuple ⟨[(strOf a),(.int .i64 0)]⟩) c)) (e:Nat) {a:OA} {n c:Nat} {b:OA} {k d:Nat} {h:ae} (o:f e a n c b k d h):LL SS pn [1,1,1,0,0,0] (lY  a n c b k d) h (KK SS pn [1,1,1,0,0] [] (EE SS pn Q)):=
 adL lY f (λe a n c b k d q h o=>ai (step e a n c b k d q h o)) e o
noncomputable def acj:dV:= .cells [.pointer none,.slice none 0 0] 201 0 true
theorem acz:br SS.P 201=some (acj,lk):=by kernel_rfl
theorem ac2{l:ae}(b:Bd g h k s)(o:Ok h l):Bd g l k s:=by
 obtain⟨a,v,d,e,c,f⟩:=b;exact⟨a,v,o.ext _ _ d,e,Ia c λj B i _=>o.ext _ _ i,f⟩
theorem po{c:Nat}(A:Rd h 150 (.slice a n c) (bl m))(S:(aX BB m).length<=10000)(t:nW h)(w:Wf h):
  FW SS 187 [.slice a n c] h (λv D=>v=strOf (ag m)/\Ok h D):=by
 have y:n=(aX BB m).length:=by have:=A.len;rwa[lM]at this
 refine MW a n c h _ (aa (λg=>?_) (λg=>?_))
 ·have g:(n:Int)=0:=by simpa using g
  have Y:(aX BB m).length=0:=by omega
  have:m=0:=by have:=(ir gQ).1 (List.eq_nil_of_length_eq_zero Y);omega
  subst this;refine⟨?_,Ok.refl w⟩;rw[dD (by omega)];rfl
 ·have g:¬(n:Int)=0:=by simpa using g
  have W:0<m:=by
   rcases Nat.eq_zero_or_pos m with h|h
   ·subst h;rw[(ir gQ).2 rfl]at y;simp at y;omega
   ·exact h
  have F:=FN gQ W;have I:=dp gQ m;have M:=cm gQ m;have A:Rd h 150 (.slice a n c) ((aX BB m).map uv):=A;generalize hx:aX BB m=x at*;have L:=wR a n c ⟨h.next,0,none⟩ (n:Int) (λK i g=>i<=n/\K=n-i/\Ok h g/\∃l,Bd h g h.next l/\l.length<=9*i/\(i=0->l=[])/\(0<i->0<Num.bv BB (x.drop (n-i))/\l=ag (Num.bv BB (x.drop (n-i))))) (λv D=>v=strOf (ag m)/\Ok h D) (by
   intro K i;intros;rename_i g X;obtain⟨h1,rfl,s,l,O,x2,Z,Q⟩:=X;refine aa (λq=>?_) (λq=>?_)
   ·have q:=dT q;have T:wrap .i64 (wrap .i64 ((n:Int)-1)-(i:Int))=((n-1-i:Nat):Int):=by
     rw[aB (n:=(n:Int)-1) (by omega) (by omega),aB (by omega) (by omega)];omega
    obtain⟨p,e2,P⟩:=FV (A.ok s) (i:=((n-1-i:Nat):Int)) (by omega) (by rw[<-y];omega);rw[T];rw[toNat_natCast]at P;have R:x.getD (n-1-i) 0<BB:=ba (by decide) I _;have f:Num.bv BB (x.drop (n-1-i))=x.getD (n-1-i) 0+BB*Num.bv BB (x.drop (n-i)):=by
     rw[gn,show n-1-i+1=n-i by omega]
    have e5:wrap .i64 ((i:Int)+1)=((i+1:Nat):Int):=by rw[aB (by omega) (by omega)];omega
    rw[e5];have u:i=0->0<x.getD (n-1-i) 0:=λe=>by subst e;rw[y];exact F
    generalize x.getD (n-1-i) 0=b at*;have o:b<1000000000:=R;have x1:=EX o;refine⟨p,e2,_,P,(ME o (t.ok s) s.wf).mono ?_⟩;rintro _ h5 ⟨rfl,j⟩;have C:=ac2 O j;have j:=s.trans j;refine⟨_,rfl,aa (λr=>?_) (λr=>?_)⟩
    ·have r:=dT r;obtain⟨H,z⟩:=Q (by omega);have V:wrap .i64 (9-((ag b).length:Int))=((9-(ag b).length:Nat):Int):=by rw[aB (by omega) (by omega)];omega
     rw[V];have U:=nI b;refine(RK (by omega) h5).mono ?_;rintro _ h8 ⟨rfl,rfl⟩;refine⟨_,rfl,(zT w j C (by rw[length_replicate];omega)).mono ?_⟩;rintro _ x0 ⟨rfl,E,G⟩;refine⟨_,_,rfl,(zT w E G (by rw[length_append,length_replicate];omega)).mono ?_⟩;rintro _ B ⟨rfl,d,k⟩;refine⟨_,_,rfl,bZ (n-(i+1)) (by omega) ⟨by omega,rfl,d,_,k,?_,λh=>by omega,λ_=>?_⟩⟩
     ·rw[length_append,length_append,length_replicate];omega
     ·rw[show n-(i+1)=n-1-i by omega,f];refine⟨Nat.add_pos_right _ (mul_pos (by decide) H),?_⟩;have:=EW H o;rw[z];exact this.symm
    ·have r:=dF r;obtain rfl:i=0:=by omega
     obtain rfl:=Z rfl;refine(zT w j C (by rw[List.length_nil];omega)).mono ?_;rintro _ B ⟨rfl,d,k⟩;refine⟨_,_,rfl,bZ (n-1) (by omega) ⟨by omega,rfl,d,_,k,?_,λh=>by omega,λ_=>?_⟩⟩
     ·rw[nil_append];omega
     ·have N:Num.bv BB (x.drop n)=0:=by rw[List.drop_of_length_le (by omega)];rfl
      rw[show n-1-0=n-1 by omega,show n-0=n by omega,N,Nat.mul_zero,Nat.add_zero]at f;rw[Nat.zero_add,f,nil_append];refine⟨?_,rfl⟩;exact u rfl
   ·have q:=dF q;obtain rfl:i=n:=by omega
    obtain⟨H,z⟩:=Q (by omega);rw[Nat.sub_self,drop_zero,M]at z;subst z;refine(Mp w s O (rG m) (by omega)).mono ?_;rintro _ B ⟨rfl,d⟩;exact⟨_,rfl,rfl,d⟩)
  have J:=(Ok.refl w).push acj;refine⟨_,acz,L n (i:=0) ⟨by omega,rfl,J,[],⟨_,_,?_,.inl rfl,.inl ⟨rfl,rfl⟩,Nat.le_refl _⟩,by simp,λ_=>rfl,λh=>by omega⟩⟩;rw[ae.bt,if_pos rfl];rfl
theorem abJ(h:k<=9*m):10^k<=BB^m:=by
 show 10^k<=(10^9)^m;rw[<-Nat.pow_mul];exact pow_le_pow_right (by decide) h
theorem ij(h:n<10^1000):(aX BB n).length<=112:=by
 refine lT gQ (lt_of_lt_of_le h (abJ (k:=1000) (m:=112) (by decide)))
def HC(h:ae)(X Y:Nat)(e:Nat)(a:Option Addr)(n c:Nat)(b:Option Addr)(k d:Nat)(g:ae):Prop:=∃p:Nat,Rd g 150 (.slice a n c) (bl p)/\Rd g 150 (.slice b k d) (bl e)/\(aX BB p).length<=112/\(aX BB e).length<=112/\Nat.gcd p e=Nat.gcd X Y/\Ok h g
theorem T7{c:Nat}{b:Option Addr}(t:nW h)(N:HC h n m i a j c b k l g){K:Nat->Option Addr->Nat->Nat->Option Addr->Nat->Nat->ae->Prop}{Q:VH}
  (J:∀(u:Option Addr)(r s:Nat)(f:Option Addr)(d q x:Nat)(g:ae),x<i->HC h n m x b k l f d q g->K x u r s f d q g):
  (0<k->FW SS 189 [.slice a j c,.slice b k l] g (λv C=>∃(u:Option Addr)(r s:Nat)(f:Option Addr)(d q x:Nat),v = .tuple ⟨[.slice u r s,.slice f d q]⟩/\K x u r s f d q C))/\
  (k=0->FW SS 187 [.slice a j c] g (λv C=>v=strOf (ag (Nat.gcd n m))/\Ok h C)):=by
 obtain⟨p,G,A,F,B,E,w⟩:=N;have D:k=(aX BB i).length:=by have:=A.len;rwa[lM]at this
 constructor
 ·intro y;have o:0<i:=by
   rcases Nat.eq_zero_or_pos i with e|e
   ·subst e;rw[(ir gQ).2 rfl]at D;simp at D;omega
   ·exact e
  refine(yq G A o (Nat.le_trans F (by omega)) (Nat.le_trans B (by omega)) w.wf).mono ?_;rintro _ I ⟨u,r,s,f,d,q,rfl,O,L,z⟩;refine⟨u,r,s,f,d,q,p%i,rfl,J u r s f d q (p%i) I (mod_lt _ o) ⟨i,A.ok z,L,B,?_,?_,w.trans z⟩⟩
  ·exact Nat.le_trans (Nat.le_of_not_lt λh=>by have M:=lU gQ h;have y:=mod_lt p o;exact absurd M (Nat.not_lt.2 (le_of_lt y))) B
  ·rw[<-E,Nat.gcd_comm i,<-Nat.gcd_rec,Nat.gcd_comm]
 ·intro y;have o:i=0:=(ir gQ).1 (List.eq_nil_of_length_eq_zero (by rw[<-D,y]));subst o;rw[Nat.gcd_zero_right]at E;subst E;refine(po G (Nat.le_trans F (by omega)) (t.ok w) w.wf).mono ?_;rintro _ P ⟨rfl,H⟩;exact⟨rfl,w.trans H⟩
theorem Gi(a b:List UInt8){h:ae}(t:nW h)(w:Wf h):FW SS 175 [strOf a,strOf b] h (λv u=>v=BI a b/\Ok h u):=by
 refine QR a b h _ ((dJ a h).mono ?_);rintro _ A ⟨rfl,y⟩;obtain rfl:h=A:=y.symm;refine⟨_,rfl,aa (λg=>?_) (λg=>?_)⟩
 ·have g:Num.valid a=false:=by simpa using g
  refine⟨?_,Ok.refl w⟩;unfold BI;rw[if_neg (λe=>by rw[e.1]at g;cases g)];rfl
 have g:Num.valid a=true:=by simpa using g
 refine(dJ b h).mono ?_;rintro _ A ⟨rfl,y⟩;obtain rfl:h=A:=y.symm;refine⟨_,rfl,aa (λf=>?_) (λf=>?_)⟩
 ·have f:Num.valid b=false:=by simpa using f
  refine⟨?_,Ok.refl w⟩;unfold BI;rw[if_neg (λe=>by rw[e.2]at f;cases f)];rfl
 have f:Num.valid b=true:=by simpa using f
 obtain⟨X,U,D,F⟩:=cx g;obtain⟨Y,V,C,I⟩:=cx f;have H:=(gx.1 g)
 have J:=(gx.1 f)
 have T:=ij D;have O:=ij C;clear D C;refine(sg a H.1.2.1 (Nat.le_trans H.2 (by omega)) h w).mono ?_;rintro _ s ⟨z,r,x,rfl,B,p⟩;refine⟨_,_,_,rfl,(sg b J.1.2.1 (Nat.le_trans J.2 (by omega)) s p.wf).mono ?_⟩;rintro _ i ⟨m,l,o,rfl,E,q⟩;refine⟨_,_,_,rfl,?_⟩;have R:BI a b=two (ag (Nat.gcd X Y)) 0:=by unfold BI;rw[if_pos ⟨g,f⟩,F,I]
 rw[R];rw[F]at B;rw[I]at E;refine yr a b (HC h X Y) (λv u=>v=two (ag (Nat.gcd X Y)) 0/\Ok h u) (λL a n c b k d=>?_) Y ⟨X,B.rd.ok q,E.rd,T,O,rfl,p.trans q⟩;intros;rename_i g P;have S:=T7 t P (K:=λj z r x m l o g=>j<L/\HC h X Y j b k d m l o g) (λz r x m l o j g s i=>⟨s,i⟩) (Q:=λ_ _=>True);refine aa (λi=>?_) (λi=>?_)
 ·have i:=dT i;refine(S.1 (by omega)).mono ?_;rintro _ W ⟨z,r,x,m,l,o,j,rfl,M,N⟩;exact⟨_,_,_,_,_,_,rfl,adp j M N⟩
 ·have i:=dF i;refine(S.2 (by omega)).mono ?_;rintro _ Z ⟨rfl,G⟩;exact⟨_,rfl,rfl,G⟩
noncomputable def Y8:FD:=cF Tryz.f194 []
theorem U1(x y z:Int)(h:ae)(Q:VH)(c:xI .u64 (ay SS.P .rem 150 (.int .u64 (wrap .u64 (wrap .u64 (x+y)+z))) (.int .u64 1000000000)) λb=>xI .u64 (ay SS.P .quo 150 (.int .u64 (wrap .u64 (wrap .u64 (x+y)+z))) (.int .u64 1000000000)) λa=>Q (.tuple ⟨[(.int .u64 b),(.int .u64 a)]⟩) h):FW SS 194 [(.int .u64 x),(.int .u64 y),(.int .u64 z)] h Q:=cI Y8 Tryz.func194 (ai c)
noncomputable def UI:FD:=cF Tryz.f201 []
theorem QF(x y z:Int)(h:ae)(Q:VH)(c:xI .u64 (ay SS.P .rem 150 (.int .u64 (wrap .u64 (wrap .u64 (wrap .u64 (x+1000000000)-y)-z))) (.int .u64 1000000000)) λb=>xI .u64 (ay SS.P .quo 150 (.int .u64 (wrap .u64 (wrap .u64 (wrap .u64 (x+1000000000)-y)-z))) (.int .u64 1000000000)) λa=>Q (.tuple ⟨[(.int .u64 b),(.int .u64 (wrap .u64 (1-a)))]⟩) h):FW SS 201 [(.int .u64 x),(.int .u64 y),(.int .u64 z)] h Q:=cI UI Tryz.func201 (ai c)
noncomputable def lh:FD:=cF Tryz.f193 [([1,1,1,0,1,0,0],[0,1,2,7,8,18,19])]
abbrev eQ(a:OA)(n c:Nat)(b:OA)(m d:Nat)(e:Int)(i:Nat)(cy:Int)(r:OA)(f g:Nat):LV:=[(.slice a n c),(.slice b m d),(.func (.func 194) ⟨[]⟩ ⟨[]⟩),(.slice r f g),(.int .u64 cy),(.int .i64 e),(iA i)]
theorem JS(a:OA)(n c:Nat)(b:OA)(m d:Nat)(h:ae)(Q:VH)(f:xI .i64 (sf true [(iA n),(iA m)]) λe=>LL SS lh [1,1,1,0,1,0,0] (eQ a n c b m d (wrap .i64 (e+1)) 0 0 none 0 0) h (KK SS lh [1,1,1,0,1,0] [] (EE SS lh Q))):FW SS 193 [(.slice a n c),(.slice b m d),(.func (.func 194) ⟨[]⟩ ⟨[]⟩)] h Q:=cI lh Tryz.func193 (ai f)
theorem vF(a:OA)(n c:Nat)(b:OA)(m d:Nat)(x:Int)(y:Nat->Nat->Int->OA->Nat->Nat->ae->Prop)(Q:VH)(step:∀(B:Nat) (i:Nat) (cy:Int) (r:OA) (z A:Nat) (D:Nat->Value) (h:ae),y B i cy r z A h->au (decide (((i:Int):Int)<x)) (au (decide (((i:Int):Int)<(n:Int))) (iP 177 (.slice a n c) (iA i) λw=>xI .u64 (aj SS.P 150 h (.pointer (some w))) λv=>au (decide (((i:Int):Int)<(m:Int))) (iP 177 (.slice b m d) (iA i) λu=>xI .u64 (aj SS.P 150 h (.pointer (some u))) λt=>FW SS 194 [(.int .u64 v),(.int .u64 t),(.int .u64 cy)] h λq s=>∃p:Int,∃o:Int,q=(.tuple ⟨[(.int .u64 p),(.int .u64 o)]⟩)/\xR (aI SS.P 177 1 [(0,(.int .u64 p))]) s λ_ j k l=>xE (bH SS.P 177 177 (.slice r z A) (sA (s.next) j k) l) l λe f g _ h=>aJ (Ct (eQ a n c b m d x) y) B [(.slice a n c),(.slice b m d),(.func (.func 194) ⟨[]⟩ ⟨[]⟩),(.slice e f g),(.int .u64 o),(.int .i64 x),(.int .i64 (wrap .i64 ((i:Int)+1)))] h) (FW SS 194 [(.int .u64 v),(.int .u64 0),(.int .u64 cy)] h λq s=>∃p:Int,∃o:Int,q=(.tuple ⟨[(.int .u64 p),(.int .u64 o)]⟩)/\xR (aI SS.P 177 1 [(0,(.int .u64 p))]) s λ_ j k l=>xE (bH SS.P 177 177 (.slice r z A) (sA (s.next) j k) l) l λe f g _ h=>aJ (Ct (eQ a n c b m d x) y) B [(.slice a n c),(.slice b m d),(.func (.func 194) ⟨[]⟩ ⟨[]⟩),(.slice e f g),(.int .u64 o),(.int .i64 x),(.int .i64 (wrap .i64 ((i:Int)+1)))] h)) (au (decide (((i:Int):Int)<(m:Int))) (iP 177 (.slice b m d) (iA i) λu=>xI .u64 (aj SS.P 150 h (.pointer (some u))) λt=>FW SS 194 [(.int .u64 0),(.int .u64 t),(.int .u64 cy)] h λq s=>∃p:Int,∃o:Int,q=(.tuple ⟨[(.int .u64 p),(.int .u64 o)]⟩)/\xR (aI SS.P 177 1 [(0,(.int .u64 p))]) s λ_ j k l=>xE (bH SS.P 177 177 (.slice r z A) (sA (s.next) j k) l) l λe f g _ h=>aJ (Ct (eQ a n c b m d x) y) B [(.slice a n c),(.slice b m d),(.func (.func 194) ⟨[]⟩ ⟨[]⟩),(.slice e f g),(.int .u64 o),(.int .i64 x),(.int .i64 (wrap .i64 ((i:Int)+1)))] h) (FW SS 194 [(.int .u64 0),(.int .u64 0),(.int .u64 cy)] h λq s=>∃p:Int,∃o:Int,q=(.tuple ⟨[(.int .u64 p),(.int .u64 o)]⟩)/\xR (aI SS.P 177 1 [(0,(.int .u64 p))]) s λ_ j k l=>xE (bH SS.P 177 177 (.slice r z A) (sA (s.next) j k) l) l λe f g _ h=>aJ (Ct (eQ a n c b m d x) y) B [(.slice a n c),(.slice b m d),(.func (.func 194) ⟨[]⟩ ⟨[]⟩),(.slice e f g),(.int .u64 o),(.int .i64 x),(.int .i64 (wrap .i64 ((i:Int)+1)))] h))) (FW SS 174 [(.slice r z A)] h λd e=>yL d λa b c=>Q (.slice a b c) e))(B:Nat){i:Nat}{cy:Int}{r:OA}{z A:Nat}{h:ae}(C:y B i cy r z A h):LL SS lh [1,1,1,0,1,0,0] (eQ a n c b m d x i cy r z A) h (KK SS lh [1,1,1,0,1,0] [] (EE SS lh Q)):=
 GF (eQ a n c b m d x) y (λB i cy r z A D h C=>ai (step B i cy r z A D h C)) B C
noncomputable def jB:FD:=cF Tryz.f193 [([1,1,1,0,1,0,0],[0,1,2,7,8,18,19])]
abbrev eu(a:OA)(n c:Nat)(b:OA)(m d:Nat)(e:Int)(i:Nat)(cy:Int)(r:OA)(f g:Nat):LV:=[(.slice a n c),(.slice b m d),(.func (.func 201) ⟨[]⟩ ⟨[]⟩),(.slice r f g),(.int .u64 cy),(.int .i64 e),(iA i)]
theorem Hz(a:OA)(n c:Nat)(b:OA)(m d:Nat)(h:ae)(Q:VH)(f:xI .i64 (sf true [(iA n),(iA m)]) λe=>LL SS jB [1,1,1,0,1,0,0] (eu a n c b m d (wrap .i64 (e+1)) 0 0 none 0 0) h (KK SS jB [1,1,1,0,1,0] [] (EE SS jB Q))):FW SS 193 [(.slice a n c),(.slice b m d),(.func (.func 201) ⟨[]⟩ ⟨[]⟩)] h Q:=cI jB Tryz.func193 (ai f)
theorem tN(a:OA)(n c:Nat)(b:OA)(m d:Nat)(x:Int)(y:Nat->Nat->Int->OA->Nat->Nat->ae->Prop)(Q:VH)(step:∀(B:Nat) (i:Nat) (cy:Int) (r:OA) (z A:Nat) (D:Nat->Value) (h:ae),y B i cy r z A h->au (decide (((i:Int):Int)<x)) (au (decide (((i:Int):Int)<(n:Int))) (iP 177 (.slice a n c) (iA i) λw=>xI .u64 (aj SS.P 150 h (.pointer (some w))) λv=>au (decide (((i:Int):Int)<(m:Int))) (iP 177 (.slice b m d) (iA i) λu=>xI .u64 (aj SS.P 150 h (.pointer (some u))) λt=>FW SS 201 [(.int .u64 v),(.int .u64 t),(.int .u64 cy)] h λq s=>∃p:Int,∃o:Int,q=(.tuple ⟨[(.int .u64 p),(.int .u64 o)]⟩)/\xR (aI SS.P 177 1 [(0,(.int .u64 p))]) s λ_ j k l=>xE (bH SS.P 177 177 (.slice r z A) (sA (s.next) j k) l) l λe f g _ h=>aJ (Ct (eu a n c b m d x) y) B [(.slice a n c),(.slice b m d),(.func (.func 201) ⟨[]⟩ ⟨[]⟩),(.slice e f g),(.int .u64 o),(.int .i64 x),(.int .i64 (wrap .i64 ((i:Int)+1)))] h) (FW SS 201 [(.int .u64 v),(.int .u64 0),(.int .u64 cy)] h λq s=>∃p:Int,∃o:Int,q=(.tuple ⟨[(.int .u64 p),(.int .u64 o)]⟩)/\xR (aI SS.P 177 1 [(0,(.int .u64 p))]) s λ_ j k l=>xE (bH SS.P 177 177 (.slice r z A) (sA (s.next) j k) l) l λe f g _ h=>aJ (Ct (eu a n c b m d x) y) B [(.slice a n c),(.slice b m d),(.func (.func 201) ⟨[]⟩ ⟨[]⟩),(.slice e f g),(.int .u64 o),(.int .i64 x),(.int .i64 (wrap .i64 ((i:Int)+1)))] h)) (au (decide (((i:Int):Int)<(m:Int))) (iP 177 (.slice b m d) (iA i) λu=>xI .u64 (aj SS.P 150 h (.pointer (some u))) λt=>FW SS 201 [(.int .u64 0),(.int .u64 t),(.int .u64 cy)] h λq s=>∃p:Int,∃o:Int,q=(.tuple ⟨[(.int .u64 p),(.int .u64 o)]⟩)/\xR (aI SS.P 177 1 [(0,(.int .u64 p))]) s λ_ j k l=>xE (bH SS.P 177 177 (.slice r z A) (sA (s.next) j k) l) l λe f g _ h=>aJ (Ct (eu a n c b m d x) y) B [(.slice a n c),(.slice b m d),(.func (.func 201) ⟨[]⟩ ⟨[]⟩),(.slice e f g),(.int .u64 o),(.int .i64 x),(.int .i64 (wrap .i64 ((i:Int)+1)))] h) (FW SS 201 [(.int .u64 0),(.int .u64 0),(.int .u64 cy)] h λq s=>∃p:Int,∃o:Int,q=(.tuple ⟨[(.int .u64 p),(.int .u64 o)]⟩)/\xR (aI SS.P 177 1 [(0,(.int .u64 p))]) s λ_ j k l=>xE (bH SS.P 177 177 (.slice r z A) (sA (s.next) j k) l) l λe f g _ h=>aJ (Ct (eu a n c b m d x) y) B [(.slice a n c),(.slice b m d),(.func (.func 201) ⟨[]⟩ ⟨[]⟩),(.slice e f g),(.int .u64 o),(.int .i64 x),(.int .i64 (wrap .i64 ((i:Int)+1)))] h))) (FW SS 174 [(.slice r z A)] h λd e=>yL d λa b c=>Q (.slice a b c) e))(B:Nat){i:Nat}{cy:Int}{r:OA}{z A:Nat}{h:ae}(C:y B i cy r z A h):LL SS jB [1,1,1,0,1,0,0] (eu a n c b m d x i cy r z A) h (KK SS jB [1,1,1,0,1,0] [] (EE SS jB Q)):=
 GF (eu a n c b m d x) y (λB i cy r z A D h C=>ai (step B i cy r z A D h C)) B C
noncomputable def QT:FD:=cF Tryz.f185 []
theorem MT(a:OA)(n c:Nat)(b:OA)(m d:Nat)(h:ae)(Q:VH)(f:FW SS 193 [(.slice a n c),(.slice b m d),(.func (.func 194) ⟨[]⟩ ⟨[]⟩)] h λd e=>yL d λa b c=>Q (.slice a b c) e):FW SS 185 [(.slice a n c),(.slice b m d)] h Q:=cI QT Tryz.func185 (ai f)
noncomputable def MS:FD:=cF Tryz.f188 []
theorem Ks(a:OA)(n c:Nat)(b:OA)(m d:Nat)(h:ae)(Q:VH)(f:FW SS 193 [(.slice a n c),(.slice b m d),(.func (.func 201) ⟨[]⟩ ⟨[]⟩)] h λd e=>yL d λa b c=>Q (.slice a b c) e):FW SS 188 [(.slice a n c),(.slice b m d)] h Q:=cI MS Tryz.func188 (ai f)
noncomputable def HY:FD:=cF Tryz.f173 []
theorem Fk(a:OA)(n c:Nat)(h:ae)(Q:VH)(d:FW SS 187 [(.slice a n c)] h λb c=>yS b λa=>au (decide ((((a:LB).length:Int):Int)>1000)) (Q (.tuple ⟨[(strOf []),(.int .i64 2)]⟩) c) (Q (.tuple ⟨[(strOf a),(.int .i64 0)]⟩) c)):FW SS 173 [(.slice a n c)] h Q:=cI HY Tryz.func173 (ai d)
noncomputable def UO:FD:=cF Tryz.f169 []
theorem QN(l m:LB)(h:ae)(Q:VH)(u:FW SS 171 [(strOf l)] h λs t=>yB s λr=>au (!r) (Q (.int .i64 0) t) (FW SS 171 [(strOf m)] t λp q=>yB p λo=>au (!o) (Q (.int .i64 0) q) (FW SS 172 [(strOf l)] q λl n=>yL l λi j k=>FW SS 172 [(strOf m)] n λg h=>yL g λd e f=>FW SS 186 [(.slice i j k),(.slice d e f)] h λb c=>yI .i64 b λa=>Q (.int .i64 a) c))):FW SS 169 [(strOf l),(strOf m)] h Q:=cI UO Tryz.func169 (ai u)
noncomputable def UN:FD:=cF Tryz.f168 []
theorem QL(l m:LB)(h:ae)(Q:VH)(z:FW SS 171 [(strOf l)] h λx y=>yB x λw=>au (!w) (Q (.tuple ⟨[(strOf []),(.int .i64 1)]⟩) y) (FW SS 171 [(strOf m)] y λu v=>yB u λt=>au (!t) (Q (.tuple ⟨[(strOf []),(.int .i64 1)]⟩) v) (FW SS 172 [(strOf l)] v λr s=>yL r λo p q=>FW SS 172 [(strOf m)] s λm n=>yL m λj k l=>FW SS 185 [(.slice o p q),(.slice j k l)] n λh i=>yL h λe f g=>FW SS 173 [(.slice e f g)] i λc d=>∃b:LB,∃a:Int,c=(.tuple ⟨[(strOf b),(.int .i64 a)]⟩)/\Q (.tuple ⟨[(strOf b),(.int .i64 a)]⟩) d))):FW SS 168 [(strOf l),(strOf m)] h Q:=cI UN Tryz.func168 (ai z)
noncomputable def UQ:FD:=cF Tryz.f170 []
theorem QU(l m:LB)(h:ae)(Q:VH)(B:FW SS 171 [(strOf l)] h λz A=>yB z λy=>au (!y) (Q (.tuple ⟨[(strOf []),(.int .i64 1)]⟩) A) (FW SS 171 [(strOf m)] A λw x=>yB w λv=>au (!v) (Q (.tuple ⟨[(strOf []),(.int .i64 1)]⟩) x) (FW SS 172 [(strOf l)] x λt u=>yL t λq r s=>FW SS 172 [(strOf m)] u λo p=>yL o λl m n=>FW SS 186 [(.slice q r s),(.slice l m n)] p λj k=>yI .i64 j λi=>au (decide ((i:Int)<0)) (Q (.tuple ⟨[(strOf []),(.int .i64 4)]⟩) k) (FW SS 188 [(.slice q r s),(.slice l m n)] k λg h=>yL g λd e f=>FW SS 187 [(.slice d e f)] h λb c=>yS b λa=>Q (.tuple ⟨[(strOf a),(.int .i64 0)]⟩) c)))):FW SS 170 [(strOf l),(strOf m)] h Q:=cI UQ Tryz.func170 (ai B)
noncomputable def fi:FD:=cF Tryz.f143 [([1,1,1,1,0,1,0,0],[6,7,8,33,34]),([1,1,1,1,0,1,0,0,1,1,0,0,1,1,1,0,0],[6,7,8,9,10,33,34,39,40])]
abbrev hJ(a:OA)(n c:Nat)(b:OA)(k d:Nat)(t:OA)(g f:Nat)(e:Int)(i:Nat):LV:=[(.slice a n c),(.slice b k d),(.slice t g f),(.int .i64 e),(iA i)]
abbrev jF(a:OA)(n c:Nat)(b:OA)(k d:Nat)(t:OA)(h g:Nat)(f:Int)(i:Nat)(e:Int)(j:Nat)(cy:Int):LV:=[(.slice a n c),(.slice b k d),(.slice t h g),(iA i),(.int .u64 cy),(.int .i64 f),(iA i),(.int .i64 e),(iA j)]
theorem QS(l m:LB)(h:ae)(Q:VH)(u:FW SS 171 [(strOf l)] h λs t=>yB s λr=>au (!r) (Q (.tuple ⟨[(strOf []),(.int .i64 1)]⟩) t) (FW SS 171 [(strOf m)] t λp q=>yB p λo=>au (!o) (Q (.tuple ⟨[(strOf []),(.int .i64 1)]⟩) q) (FW SS 172 [(strOf l)] q λl n=>yL l λi j k=>FW SS 172 [(strOf m)] n λg h=>yL g λd e f=>xR (ch SS.P 177 (.int .i64 (wrap .i64 (wrap .i64 ((j:Int)+(e:Int))+1))) (.int .i64 (wrap .i64 (wrap .i64 ((j:Int)+(e:Int))+1)))) h λ_ a b c=>LL SS fi [1,1,1,1,0,1,0,0] (hJ i j k d e f (some ⟨h.next,0,none⟩) a b (j:Int) 0) c (KK SS fi [1,1,1,1,0,1,0] [] (EE SS fi Q))))):FW SS 143 [(strOf l),(strOf m)] h Q:=cI fi Tryz.func143 (ai u)
theorem yu(l m:LB)(a:OA)(n c:Nat)(b:OA)(k d:Nat)(t:OA)(r q:Nat)(j:Int)(p:Nat->Nat->ae->Prop)(Q:VH)(step:∀(o:Nat) (i:Nat) (u:Nat->Value) (h:ae),p o i h->au (decide (((i:Int):Int)<j)) (LL SS fi [1,1,1,1,0,1,0,0,1,1,0,0,1,1,1,0,0] (jF a n c b k d t r q j i (wrap .i64 ((k:Int)+1)) 0 0) h (KK SS fi [1,1,0,0,1,1,1,0] [1,1,1,1,0,1,0,0] (RR fi [1,1,1,1,0,1,0,0] (fs (hJ a n c b k d t r q j) p) o (KK SS fi [1,1,1,1,0,1,0] [] (EE SS fi Q))))) (FW SS 174 [(.slice t r q)] h λh i=>yL h λe f g=>FW SS 173 [(.slice e f g)] i λc d=>∃b:LB,∃a:Int,c=(.tuple ⟨[(strOf b),(.int .i64 a)]⟩)/\Q (.tuple ⟨[(strOf b),(.int .i64 a)]⟩) d))(o:Nat){i:Nat}{h:ae}(s:p o i h):LL SS fi [1,1,1,1,0,1,0,0] (hJ a n c b k d t r q j i) h (KK SS fi [1,1,1,1,0,1,0] [] (EE SS fi Q)):=
 dc (hJ a n c b k d t r q j) p (λo i u h s=>ai (step o i u h s)) o s
theorem yv(l m:LB)(a:OA)(n c:Nat)(b:OA)(k d:Nat)(t:OA)(y x:Nat)(v:Int)(A:Nat->Nat->ae->Prop)(C i:Nat)(u:Int)(z:Nat->Nat->Int->ae->Prop)(Q:VH)(step:∀(w:Nat) (j:Nat) (cy:Int) (D:Nat->Value) (h:ae),z w j cy h->au (decide (((j:Int):Int)<u)) (iP 177 (.slice t y x) (.int .i64 (wrap .i64 ((i:Int)+(j:Int)))) λs=>xI .u64 (aj SS.P 150 h (.pointer (some s))) λr=>au (decide (((j:Int):Int)<(k:Int))) (iP 177 (.slice a n c) (iA i) λq=>xI .u64 (aj SS.P 150 (room h 12) (.pointer (some q))) λp=>iP 177 (.slice b k d) (iA j) λo=>xI .u64 (aj SS.P 150 (room h 12) (.pointer (some o))) λm=>xI .u64 (ay SS.P .rem 150 (.int .u64 (wrap .u64 (wrap .u64 (r+cy)+wrap .u64 (p*m)))) (.int .u64 1000000000)) λl=>xI .u64 (ay SS.P .quo 150 (.int .u64 (wrap .u64 (wrap .u64 (r+cy)+wrap .u64 (p*m)))) (.int .u64 1000000000)) λg=>iP 177 (.slice t y x) (.int .i64 (wrap .i64 ((i:Int)+(j:Int)))) λf=>xU (ah SS.P 150 (.pointer (some f)) (.int .u64 l) (room h 12)) (room h 12) λ_ e=>aJ (pL (jF a n c b k d t y x v i u) z) w [(.slice a n c),(.slice b k d),(.slice t y x),(iA i),(.int .u64 g),(.int .i64 v),(iA i),(.int .i64 u),(.int .i64 (wrap .i64 ((j:Int)+1)))] e) (xI .u64 (ay SS.P .rem 150 (.int .u64 (wrap .u64 (r+cy))) (.int .u64 1000000000)) λl=>xI .u64 (ay SS.P .quo 150 (.int .u64 (wrap .u64 (r+cy))) (.int .u64 1000000000)) λg=>iP 177 (.slice t y x) (.int .i64 (wrap .i64 ((i:Int)+(j:Int)))) λf=>xU (ah SS.P 150 (.pointer (some f)) (.int .u64 l) h) h λ_ e=>aJ (pL (jF a n c b k d t y x v i u) z) w [(.slice a n c),(.slice b k d),(.slice t y x),(iA i),(.int .u64 g),(.int .i64 v),(iA i),(.int .i64 u),(.int .i64 (wrap .i64 ((j:Int)+1)))] e)) (aJ (fs (hJ a n c b k d t y x v) A) C [(.slice a n c),(.slice b k d),(.slice t y x),(.int .i64 v),(.int .i64 (wrap .i64 ((i:Int)+1)))] h))(w:Nat){j:Nat}{cy:Int}{h:ae}(B:z w j cy h):LL SS fi [1,1,1,1,0,1,0,0,1,1,0,0,1,1,1,0,0] (jF a n c b k d t y x v i u j cy) h (KK SS fi [1,1,0,0,1,1,1,0] [1,1,1,1,0,1,0,0] (RR fi [1,1,1,1,0,1,0,0] (fs (hJ a n c b k d t y x v) A) C (KK SS fi [1,1,1,1,0,1,0] [] (EE SS fi Q)))):=
 mh (jF a n c b k d t y x v i u) z (λw j cy D h B=>ai (step w j cy D h B)) w B
variable{x:List Nat}{y:List Nat}
theorem U2(x y z:Nat)(f:x<BB)(i:y<BB)(g:z<=1)(h:ae):FW SS 194 [.int .u64 (x:Int),.int .u64 (y:Int),.int .u64 (z:Int)] h (λv c=>v = .tuple ⟨[uv (aQ BB x y z).1,uv (aQ BB x y z).2]⟩/\c=h):=by
 have e:BB=1000000000:=rfl;have a:wrap .u64 ((x:Int)+(y:Int))=((x+y:Nat):Int):=by rw[<-Int.natCast_add];exact gV (by omega) (by omega)
 have d:wrap .u64 (((x+y:Nat):Int)+(z:Int))=((x+y+z:Nat):Int):=by rw[<-Int.natCast_add];exact gV (by omega) (by omega)
 refine U1 _ _ _ h _ ?_;rw[a,d];refine⟨_,gU (b:=BB) (by omega) (by decide),_,qb (b:=BB) (by omega) (by omega) (by decide),?_,rfl⟩;unfold uv aQ;rw[natCast_emod,natCast_ediv]
theorem QG(x y z:Nat)(j:x<BB)(m:y<BB)(l:z<=1)(h:ae):FW SS 201 [.int .u64 (x:Int),.int .u64 (y:Int),.int .u64 (z:Int)] h (λv f=>v = .tuple ⟨[uv (bU BB x y z).1,uv (bU BB x y z).2]⟩/\f=h):=by
 have i:BB=1000000000:=rfl;have a:x+BB-y-z<2*BB:=by omega
 have c:wrap .u64 ((x:Int)+1000000000)=((x+BB:Nat):Int):=by rw[gV (by omega) (by omega)];omega
 have e:wrap .u64 (((x+BB:Nat):Int)-(y:Int))=((x+BB-y:Nat):Int):=by rw[gV (by omega) (by omega)];omega
 have d:wrap .u64 (((x+BB-y:Nat):Int)-(z:Int))=((x+BB-y-z:Nat):Int):=by rw[gV (by omega) (by omega)];omega
 refine QF _ _ _ h _ ?_;rw[c,e,d];refine⟨_,gU (b:=BB) (by omega) (by decide),_,qb (b:=BB) (by omega) (by omega) (by decide),?_,rfl⟩;unfold uv bU;dsimp only;generalize x+BB-y-z=q at*;have k:q/BB<=1:=by
  have:q/BB<2:=Nat.div_lt_of_lt_mul (by omega);omega
 have g:wrap .u64 (1-(q:Int)/(BB:Int))=((1-q/BB:Nat):Int):=by
  rw[<-natCast_ediv];clear a c e d;generalize q/BB=r at*;rw[gV (by omega) (by omega)];omega
 rw[g,natCast_emod]
theorem Y9{p q c:Nat}(b:p<BB)(a:q<BB)(d:c<=1):(aQ BB p q c).2<=1:=by
 show(p+q+c)/BB<=1;have:(p+q+c)/BB<2:=Nat.div_lt_of_lt_mul (by omega);omega
theorem UJ{p q c:Nat}(b:p<BB)(a:q<BB)(d:c<=1):(bU BB p q c).2<=1:=(od gQ b a d).2
theorem JT{b:Option Addr}{c:Nat}(W:Rd h 150 (.slice a n c) (x.map uv))(J:Rd h 150 (.slice b m k) (y.map uv))(S:∀k∈x,k<BB)(hy:∀k∈y,k<BB)(x2:x.length<=10000)(x4:y.length<=10000)(w:Wf h){R:Nat}(E:dS (bj (aQ BB) x y 0 (max x.length y.length+1) 0)=aX BB R):
  FW SS 193 [.slice a n c,.slice b m k,.func (.func 194) ⟨[]⟩ ⟨[]⟩] h (je h 150 (bl R)):=by
 have hn:n=x.length:=by have:=W.len;rwa[lM]at this
 have hm:m=y.length:=by have:=J.len;rwa[lM]at this
 rw[<-hn,<-hm]at E;have X:∀j,eO (aQ BB) x y 0 0 j<=1:=by
  intro j
  induction j with
  |zero=>exact Nat.zero_le _
  |succ j ih=>exact Y9 (ba (by decide) S _) (ba (by decide) hy _) ih
 have x3:n<=max n m/\m<=max n m:=⟨le_max_left _ _,le_max_right _ _⟩
 have x1:max n m<=10000:=max_le.2 ⟨by omega,by omega⟩;have K:(if(m:Int)>(n:Int)then(m:Int)else(n:Int))=((max n m:Nat):Int):=by split<;>omega
 generalize max n m=N at*;have L:=vF a n c b m k ((N:Int)+1) (λz i cy r Q T g=>i<=N+1/\z=N+1-i/\cy=(eO (aQ BB) x y 0 0 i:Nat)/\eo h g 150 (.slice r Q T) ((bj (aQ BB) x y 0 i 0).map uv)/\Ok h g) (je h 150 (bl R)) (by
  intro z i cy r Q T;intros;rename_i g hi;obtain⟨h1,h2,rfl,A,o⟩:=hi;have P:wrap .i64 ((i:Int)+1)=((i+1:Nat):Int):=by rw[aB (by omega) (by omega)];omega
  rw[P];have l:(bj (aQ BB) x y 0 i 0).length=i:=fb _ _ _ _ _ _;have e:=im (aQ BB) x y i 0 0;rw[Nat.zero_add]at e;have d:eO (aQ BB) x y 0 0 (i+1)=(aQ BB (x.getD i 0) (y.getD i 0) (eO (aQ BB) x y 0 0 i)).2:=by
   show(aQ BB (x.getD (0+i) 0) (y.getD (0+i) 0) _).2=_;rw[Nat.zero_add]
  have Y:=X i;have t:=U2 (x.getD i 0) (y.getD i 0) (eO (aQ BB) x y 0 0 i) (ba (by decide) S _) (ba (by decide) hy _) Y g;refine aa (λD=>?_) (λD=>?_)
  ·have D:=dT D;refine aa (λC=>?_) (λC=>?_)
   ·have C:=dT C;obtain⟨q,O,g3⟩:=FV (W.ok o) (i:=(i:Int)) (by omega) (by omega);rw[toNat_natCast]at g3;refine⟨q,O,_,g3,aa (λf=>?_) (λf=>?_)⟩
    ·have f:=dT f;obtain⟨I,F,B⟩:=FV (J.ok o) (i:=(i:Int)) (by omega) (by omega);rw[toNat_natCast]at B;refine⟨I,F,_,B,t.mono ?_⟩;rintro _ _ ⟨rfl,rfl⟩;refine⟨_,_,rfl,_,_,_,td _,?_⟩;obtain⟨b,m,k,u,s,G,p,v⟩:=mj w o A ((aQ BB (x.getD i 0) (y.getD i 0) (eO (aQ BB) x y 0 0 i)).1:Nat) (by rw[lM,l];omega);refine⟨b,m,k,u,s,pf (z-1) (by omega) ⟨by omega,by omega,by rw[d],?_,v⟩⟩;rw[e,map_append];exact p
    ·have f:=dF f;have H:y.getD i 0=0:=by rw[gD,getElem?_eq_none (by omega)];rfl
     rw[H]at t e d;refine t.mono ?_;rintro _ _ ⟨rfl,rfl⟩;refine⟨_,_,rfl,_,_,_,td _,?_⟩;obtain⟨b,m,k,u,s,G,p,v⟩:=mj w o A ((aQ BB (x.getD i 0) 0 (eO (aQ BB) x y 0 0 i)).1:Nat) (by rw[lM,l];omega);refine⟨b,m,k,u,s,pf (z-1) (by omega) ⟨by omega,by omega,by rw[d],?_,v⟩⟩;rw[e,map_append];exact p
   ·have C:=dF C;have x0:x.getD i 0=0:=by rw[gD,getElem?_eq_none (by omega)];rfl
    rw[x0]at t e d;refine aa (λf=>?_) (λf=>?_)
    ·have f:=dT f;obtain⟨I,F,B⟩:=FV (J.ok o) (i:=(i:Int)) (by omega) (by omega);rw[toNat_natCast]at B;refine⟨I,F,_,B,t.mono ?_⟩;rintro _ _ ⟨rfl,rfl⟩;refine⟨_,_,rfl,_,_,_,td _,?_⟩;obtain⟨b,m,k,u,s,G,p,v⟩:=mj w o A ((aQ BB 0 (y.getD i 0) (eO (aQ BB) x y 0 0 i)).1:Nat) (by rw[lM,l];omega);refine⟨b,m,k,u,s,pf (z-1) (by omega) ⟨by omega,by omega,by rw[d],?_,v⟩⟩;rw[e,map_append];exact p
    ·have f:=dF f;have H:y.getD i 0=0:=by rw[gD,getElem?_eq_none (by omega)];rfl
     rw[H]at t e d;refine t.mono ?_;rintro _ _ ⟨rfl,rfl⟩;refine⟨_,_,rfl,_,_,_,td _,?_⟩;obtain⟨b,m,k,u,s,G,p,v⟩:=mj w o A ((aQ BB 0 0 (eO (aQ BB) x y 0 0 i)).1:Nat) (by rw[lM,l];omega);refine⟨b,m,k,u,s,pf (z-1) (by omega) ⟨by omega,by omega,by rw[d],?_,v⟩⟩;rw[e,map_append];exact p
  ·have D:=dF D;obtain rfl:i=N+1:=by omega
   refine(sh A (by rw[l];omega)).mono ?_;rintro _ O ⟨V,U,M,rfl,Z,rfl⟩;rw[E]at Z;exact⟨V,U,M,rfl,V,U,M,rfl,Z,o⟩)
 refine JS a n c b m k h _ ⟨_,tW _ _ _,?_⟩;have hw:wrap .i64 ((N:Int)+1)=(N:Int)+1:=aB (by omega) (by omega);dsimp only;rw[K,hw];exact L (N+1) (i:=0) ⟨by omega,by omega,rfl,.inl ⟨rfl,rfl⟩,Ok.refl w⟩
theorem HA{b:Option Addr}{c:Nat}(W:Rd h 150 (.slice a n c) (x.map uv))(J:Rd h 150 (.slice b m k) (y.map uv))(S:∀k∈x,k<BB)(hy:∀k∈y,k<BB)(x2:x.length<=10000)(x4:y.length<=10000)(w:Wf h){R:Nat}(E:dS (bj (bU BB) x y 0 (max x.length y.length+1) 0)=aX BB R):
  FW SS 193 [.slice a n c,.slice b m k,.func (.func 201) ⟨[]⟩ ⟨[]⟩] h (je h 150 (bl R)):=by
 have hn:n=x.length:=by have:=W.len;rwa[lM]at this
 have hm:m=y.length:=by have:=J.len;rwa[lM]at this
 rw[<-hn,<-hm]at E;have X:∀j,eO (bU BB) x y 0 0 j<=1:=by
  intro j
  induction j with
  |zero=>exact Nat.zero_le _
  |succ j ih=>exact UJ (ba (by decide) S _) (ba (by decide) hy _) ih
 have x3:n<=max n m/\m<=max n m:=⟨le_max_left _ _,le_max_right _ _⟩
 have x1:max n m<=10000:=max_le.2 ⟨by omega,by omega⟩;have K:(if(m:Int)>(n:Int)then(m:Int)else(n:Int))=((max n m:Nat):Int):=by split<;>omega
 generalize max n m=N at*;have L:=tN a n c b m k ((N:Int)+1) (λz i cy r Q T g=>i<=N+1/\z=N+1-i/\cy=(eO (bU BB) x y 0 0 i:Nat)/\eo h g 150 (.slice r Q T) ((bj (bU BB) x y 0 i 0).map uv)/\Ok h g) (je h 150 (bl R)) (by
  intro z i cy r Q T;intros;rename_i g hi;obtain⟨h1,h2,rfl,A,o⟩:=hi;have P:wrap .i64 ((i:Int)+1)=((i+1:Nat):Int):=by rw[aB (by omega) (by omega)];omega
  rw[P];have l:(bj (bU BB) x y 0 i 0).length=i:=fb _ _ _ _ _ _;have e:=im (bU BB) x y i 0 0;rw[Nat.zero_add]at e;have d:eO (bU BB) x y 0 0 (i+1)=(bU BB (x.getD i 0) (y.getD i 0) (eO (bU BB) x y 0 0 i)).2:=by
   show(bU BB (x.getD (0+i) 0) (y.getD (0+i) 0) _).2=_;rw[Nat.zero_add]
  have Y:=X i;have t:=QG (x.getD i 0) (y.getD i 0) (eO (bU BB) x y 0 0 i) (ba (by decide) S _) (ba (by decide) hy _) Y g;refine aa (λD=>?_) (λD=>?_)
  ·have D:=dT D;refine aa (λC=>?_) (λC=>?_)
   ·have C:=dT C;obtain⟨q,O,g3⟩:=FV (W.ok o) (i:=(i:Int)) (by omega) (by omega);rw[toNat_natCast]at g3;refine⟨q,O,_,g3,aa (λf=>?_) (λf=>?_)⟩
    ·have f:=dT f;obtain⟨I,F,B⟩:=FV (J.ok o) (i:=(i:Int)) (by omega) (by omega);rw[toNat_natCast]at B;refine⟨I,F,_,B,t.mono ?_⟩;rintro _ _ ⟨rfl,rfl⟩;refine⟨_,_,rfl,_,_,_,td _,?_⟩;obtain⟨b,m,k,u,s,G,p,v⟩:=mj w o A ((bU BB (x.getD i 0) (y.getD i 0) (eO (bU BB) x y 0 0 i)).1:Nat) (by rw[lM,l];omega);refine⟨b,m,k,u,s,pf (z-1) (by omega) ⟨by omega,by omega,by rw[d],?_,v⟩⟩;rw[e,map_append];exact p
    ·have f:=dF f;have H:y.getD i 0=0:=by rw[gD,getElem?_eq_none (by omega)];rfl
     rw[H]at t e d;refine t.mono ?_;rintro _ _ ⟨rfl,rfl⟩;refine⟨_,_,rfl,_,_,_,td _,?_⟩;obtain⟨b,m,k,u,s,G,p,v⟩:=mj w o A ((bU BB (x.getD i 0) 0 (eO (bU BB) x y 0 0 i)).1:Nat) (by rw[lM,l];omega);refine⟨b,m,k,u,s,pf (z-1) (by omega) ⟨by omega,by omega,by rw[d],?_,v⟩⟩;rw[e,map_append];exact p
   ·have C:=dF C;have x0:x.getD i 0=0:=by rw[gD,getElem?_eq_none (by omega)];rfl
    rw[x0]at t e d;refine aa (λf=>?_) (λf=>?_)
    ·have f:=dT f;obtain⟨I,F,B⟩:=FV (J.ok o) (i:=(i:Int)) (by omega) (by omega);rw[toNat_natCast]at B;refine⟨I,F,_,B,t.mono ?_⟩;rintro _ _ ⟨rfl,rfl⟩;refine⟨_,_,rfl,_,_,_,td _,?_⟩;obtain⟨b,m,k,u,s,G,p,v⟩:=mj w o A ((bU BB 0 (y.getD i 0) (eO (bU BB) x y 0 0 i)).1:Nat) (by rw[lM,l];omega);refine⟨b,m,k,u,s,pf (z-1) (by omega) ⟨by omega,by omega,by rw[d],?_,v⟩⟩;rw[e,map_append];exact p
    ·have f:=dF f;have H:y.getD i 0=0:=by rw[gD,getElem?_eq_none (by omega)];rfl
     rw[H]at t e d;refine t.mono ?_;rintro _ _ ⟨rfl,rfl⟩;refine⟨_,_,rfl,_,_,_,td _,?_⟩;obtain⟨b,m,k,u,s,G,p,v⟩:=mj w o A ((bU BB 0 0 (eO (bU BB) x y 0 0 i)).1:Nat) (by rw[lM,l];omega);refine⟨b,m,k,u,s,pf (z-1) (by omega) ⟨by omega,by omega,by rw[d],?_,v⟩⟩;rw[e,map_append];exact p
  ·have D:=dF D;obtain rfl:i=N+1:=by omega
   refine(sh A (by rw[l];omega)).mono ?_;rintro _ O ⟨V,U,M,rfl,Z,rfl⟩;rw[E]at Z;exact⟨V,U,M,rfl,V,U,M,rfl,Z,o⟩)
 refine Hz a n c b m k h _ ⟨_,tW _ _ _,?_⟩;have hw:wrap .i64 ((N:Int)+1)=(N:Int)+1:=aB (by omega) (by omega);dsimp only;rw[K,hw];exact L (N+1) (i:=0) ⟨by omega,by omega,rfl,.inl ⟨rfl,rfl⟩,Ok.refl w⟩
theorem MU{b:Option Addr}{c:Nat}(v:Rd h 150 (.slice a n c) (bl i))(s:Rd h 150 (.slice b m k) (bl j))(d:(aX BB i).length<=10000)(l:(aX BB j).length<=10000)(w:Wf h):FW SS 185 [.slice a n c,.slice b m k] h (je h 150 (bl (i+j))):=by
 have f:=dp gQ i;have e:=dp gQ j;refine MT a n c b m k h _ ((JT v s f e d l w (R:=i+j) ?_).mono ?_)
 ·have y:=le_max_left (aX BB i).length (aX BB j).length;have z:=le_max_right (aX BB i).length (aX BB j).length;rw[lf gQ (jy (λp q c=>mod_lt _ (by decide)) _ _ _ 0 0),zA gQ f e _ 0 0 (by omega) (by omega) (by omega) (by omega),drop_zero,drop_zero,cm gQ,cm gQ];rfl
 ·rintro _ g ⟨u,t,r,rfl,o,x⟩;exact⟨_,_,_,rfl,u,t,r,rfl,o,x⟩
theorem Ku{b:Option Addr}{c:Nat}(y:Rd h 150 (.slice a n c) (bl i))(u:Rd h 150 (.slice b m k) (bl j))(d:j<=i)(e:(aX BB i).length<=10000)(r:(aX BB j).length<=10000)(w:Wf h):FW SS 188 [.slice a n c,.slice b m k] h (je h 150 (bl (i-j))):=by
 have l:=dp gQ i;have f:=dp gQ j;refine Ks a n c b m k h _ ((HA y u l f e r w (R:=i-j) ?_).mono ?_)
 ·have A:=le_max_left (aX BB i).length (aX BB j).length;have B:=le_max_right (aX BB i).length (aX BB j).length;rw[lf gQ (jy (λp q c=>mod_lt _ (by decide)) _ _ _ 0 0)];have t:=CJ gQ l f (max (aX BB i).length (aX BB j).length+1) 0 0 (by omega) (by omega) (by omega) (by rw[drop_zero,drop_zero,cm gQ,cm gQ];exact d);rw[drop_zero,drop_zero,cm gQ,cm gQ]at t;congr 1;omega
 ·rintro _ g ⟨x,v,s,rfl,o,z⟩;exact⟨_,_,_,rfl,x,v,s,rfl,o,z⟩
def pj(X:Nat):Value:=if 1000<(ag X).length then two [] 2 else two (ag X) 0
def BF(a b:List UInt8):Value:=if Num.valid a=true/\Num.valid b=true then pj (Num.val a+Num.val b)else two [] 1
def BM(a b:List UInt8):Value:=if Num.valid a=true/\Num.valid b=true then pj (Num.val a*Num.val b)else two [] 1
def BV(a b:List UInt8):Value:=if Num.valid a=true/\Num.valid b=true then(if Num.val a<Num.val b then two [] 4 else two (ag (Num.val a-Num.val b)) 0)else two [] 1
def BH(a b:List UInt8):Value:=if Num.valid a=true/\Num.valid b=true then .int .i64 (eJ (Num.val a) (Num.val b))else .int .i64 0
theorem vZ{c:Nat}(f:Rd h 150 (.slice a n c) (bl m))(d:(aX BB m).length<=10000)(t:nW h)(w:Wf h):FW SS 173 [.slice a n c] h (λv i=>v=pj m/\Ok h i):=by
 refine Fk a n c h _ ((po f d t w).mono ?_);rintro _ g ⟨rfl,e⟩;refine⟨_,rfl,aa (λb=>?_) (λb=>?_)⟩
 ·have b:=dT b;refine⟨?_,e⟩;unfold pj;rw[if_pos (by omega)];rfl
 ·have b:=dF b;refine⟨?_,e⟩;unfold pj;rw[if_neg (by omega)];rfl
structure aen(a b:List UInt8)(X Y:Nat):Prop where
 va:Num.valid a=true
 vb:Num.valid b=true
 ea:Num.val a=X
 eb:Num.val b=Y
 lx:(aX BB X).length<=112
 ly:(aX BB Y).length<=112
theorem ZT{a b:List UInt8}(c:Num.valid a=true)(d:Num.valid b=true):aen a b (Num.val a) (Num.val b):=by
 obtain⟨X,_,f,g⟩:=cx c;obtain⟨Y,_,e,h⟩:=cx d;exact⟨c,d,rfl,rfl,by rw[g];exact ij f,by rw[h];exact ij e⟩
theorem kG{a:List UInt8}(c:Num.valid a=true){h:ae}(w:Wf h):FW SS 172 [strOf a] h (je h 150 (bl (Num.val a))):=by
 have b:=(gx.1 c)
 exact sg a b.1.2.1 (Nat.le_trans b.2 (by omega)) h w
theorem ZS(c:(aX BB n).length<=112)(d:(aX BB m).length<=112):(aX BB (n+m)).length<=10000:=by
 have a:=fx (dp gQ n);have b:=fx (dp gQ m);rw[cm gQ]at a b;have e:=lt_of_lt_of_le a (pow_le_pow_right (show 0<BB by decide) c);have f:=lt_of_lt_of_le b (pow_le_pow_right (show 0<BB by decide) d);refine Nat.le_trans (lT gQ (k:=113) ?_) (by omega);rw[pow_succ];have g:2*BB^112<=BB^112*BB:=by rw[Nat.mul_comm];exact Nat.mul_le_mul_left _ (by decide)
 generalize BB^112=M at*;omega
theorem WN(h:n<=m):(aX BB n).length<=(aX BB m).length:=Nat.le_of_not_lt λg=>absurd (lU gQ g) (Nat.not_lt.2 h)
theorem yl(X:Nat):∃l n,pj X=two l n:=by
 unfold pj;split<;>exact⟨_,_,rfl⟩
theorem zk(a:∃l n,v=two l n){K:Value->Prop}(b:K v):∃(l:List UInt8)(n:Int),v = .tuple ⟨[strOf l,.int .i64 n]⟩/\K (.tuple ⟨[strOf l,.int .i64 n]⟩):=by
 obtain⟨l,n,rfl⟩:=a;exact⟨l,n,rfl,b⟩
theorem Oq{x:Nat}(h:eJ x n<0):x<n:=by
 unfold eJ at h;split at h<;>omega
theorem Oo{x:Nat}(h:¬eJ x n<0):n<=x:=by
 unfold eJ at h;split at h<;>omega
theorem QM(a b:List UInt8){h:ae}(t:nW h)(w:Wf h):FW SS 168 [strOf a,strOf b] h (λv r=>v=BF a b/\Ok h r):=by
 refine QL a b h _ ((dJ a h).mono ?_);rintro _ l ⟨rfl,j⟩;obtain rfl:h=l:=j.symm;refine⟨_,rfl,aa (λg=>?_) (λg=>?_)⟩
 ·have g:Num.valid a=false:=by simpa using g
  refine⟨?_,Ok.refl w⟩;unfold BF;rw[if_neg (λe=>by rw[e.1]at g;cases g)];rfl
 have g:Num.valid a=true:=by simpa using g
 refine(dJ b h).mono ?_;rintro _ l ⟨rfl,j⟩;obtain rfl:h=l:=j.symm;refine⟨_,rfl,aa (λc=>?_) (λc=>?_)⟩
 ·have c:Num.valid b=false:=by simpa using c
  refine⟨?_,Ok.refl w⟩;unfold BF;rw[if_neg (λe=>by rw[e.2]at c;cases c)];rfl
 have c:Num.valid b=true:=by simpa using c
 have m:=ZT g c;have A:=m.lx;have z:=m.ly;refine(kG g w).mono ?_;rintro _ G ⟨N,C,J,rfl,o,f⟩;refine⟨_,_,_,rfl,(kG c f.wf).mono ?_⟩;rintro _ H ⟨E,D,M,rfl,y,i⟩;refine⟨_,_,_,rfl,?_⟩;have x:BF a b=pj (Num.val a+Num.val b):=by unfold BF;rw[if_pos ⟨g,c⟩]
 rw[x];have p:=o.rd.ok i;have q:=y.rd;have k:=f.trans i;refine(MU p q (by omega) (by omega) k.wf).mono ?_;rintro _ F ⟨I,B,L,rfl,s,d⟩;refine⟨_,_,_,rfl,(vZ s.rd (ZS A z) (t.ok (k.trans d)) d.wf).mono ?_⟩;rintro _ u ⟨rfl,n⟩;exact zk (K:=λv=>v=pj (Num.val a+Num.val b)/\Ok h u) (yl _) ⟨rfl,(k.trans d).trans n⟩
theorem Gj(a b:List UInt8){h:ae}(t:nW h)(w:Wf h):FW SS 170 [strOf a,strOf b] h (λv x=>v=BV a b/\Ok h x):=by
 refine QU a b h _ ((dJ a h).mono ?_);rintro _ o ⟨rfl,n⟩;obtain rfl:h=o:=n.symm;refine⟨_,rfl,aa (λg=>?_) (λg=>?_)⟩
 ·have g:Num.valid a=false:=by simpa using g
  refine⟨?_,Ok.refl w⟩;unfold BV;rw[if_neg (λe=>by rw[e.1]at g;cases g)];rfl
 have g:Num.valid a=true:=by simpa using g
 refine(dJ b h).mono ?_;rintro _ o ⟨rfl,n⟩;obtain rfl:h=o:=n.symm;refine⟨_,rfl,aa (λc=>?_) (λc=>?_)⟩
 ·have c:Num.valid b=false:=by simpa using c
  refine⟨?_,Ok.refl w⟩;unfold BV;rw[if_neg (λe=>by rw[e.2]at c;cases c)];rfl
 have c:Num.valid b=true:=by simpa using c
 have r:=ZT g c;have P:=r.lx;have N:=r.ly;refine(kG g w).mono ?_;rintro _ G ⟨O,C,J,rfl,u,k⟩;refine⟨_,_,_,rfl,(kG c k.wf).mono ?_⟩;rintro _ H ⟨E,D,M,rfl,A,l⟩;refine⟨_,_,_,rfl,?_⟩;have z:BV a b=(if Num.val a<Num.val b then two [] 4 else two (ag (Num.val a-Num.val b)) 0):=by unfold BV;rw[if_pos ⟨g,c⟩]
 rw[z];have p:=u.rd.ok l;have q:=A.rd;have j:=k.trans l;refine(qC p q (by omega) j.wf).mono ?_;rintro _ F ⟨rfl,d⟩;refine⟨_,rfl,aa (λf=>?_) (λf=>?_)⟩
 ·have f:=dT f;rw[if_pos (Oq f)];exact⟨rfl,j.trans d⟩
 ·have f:=dF f;have m:=Oo f;rw[if_neg (Nat.not_lt.2 m)];refine(Ku (p.ok d) (q.ok d) m (by omega) (by omega) d.wf).mono ?_;rintro _ L ⟨I,B,K,rfl,y,i⟩;refine⟨_,_,_,rfl,(po y.rd (Nat.le_trans (WN (Nat.sub_le _ _)) (by omega)) (t.ok ((j.trans d).trans i)) i.wf).mono ?_⟩;rintro _ Q ⟨rfl,s⟩;exact⟨_,rfl,rfl,((j.trans d).trans i).trans s⟩
theorem QO(a b:List UInt8){h:ae}(t:nW h)(w:Wf h):FW SS 169 [strOf a,strOf b] h (λv q=>v=BH a b/\Ok h q):=by
 refine QN a b h _ ((dJ a h).mono ?_);rintro _ j ⟨rfl,i⟩;obtain rfl:h=j:=i.symm;refine⟨_,rfl,aa (λg=>?_) (λg=>?_)⟩
 ·have g:Num.valid a=false:=by simpa using g
  refine⟨?_,Ok.refl w⟩;unfold BH;rw[if_neg (λe=>by rw[e.1]at g;cases g)]
 have g:Num.valid a=true:=by simpa using g
 refine(dJ b h).mono ?_;rintro _ j ⟨rfl,i⟩;obtain rfl:h=j:=i.symm;refine⟨_,rfl,aa (λc=>?_) (λc=>?_)⟩
 ·have c:Num.valid b=false:=by simpa using c
  refine⟨?_,Ok.refl w⟩;unfold BH;rw[if_neg (λe=>by rw[e.2]at c;cases c)]
 have c:Num.valid b=true:=by simpa using c
 have l:=ZT g c;have G:=l.lx;have E:=l.ly;refine(kG g w).mono ?_;rintro _ A ⟨F,u,C,rfl,n,d⟩;refine⟨_,_,_,rfl,(kG c d.wf).mono ?_⟩;rintro _ B ⟨y,x,D,rfl,s,f⟩;refine⟨_,_,_,rfl,?_⟩;have r:BH a b = .int .i64 (eJ (Num.val a) (Num.val b)):=by unfold BH;rw[if_pos ⟨g,c⟩]
 rw[r];have o:=n.rd.ok f;have p:=s.rd;have m:=d.trans f;refine(qC o p (by omega) m.wf).mono ?_;rintro _ z ⟨rfl,k⟩;exact⟨_,rfl,rfl,m.trans k⟩
theorem LJ:SS.P.underlying 9=some .string:=Tryz.underlying9
theorem IA(l:List UInt8)(h:ae){b:Nat}(c:b<=l.length):bF SS.P 9 (strOf l) none (some (.int .i64 (b:Int))) none h=some (strOf (l.take b)):=by
 have:=oH (h:=h) LJ l (lo:=none) (hi:=some (.int .i64 (b:Int))) (a:=0) (b:=b) rfl rfl (by omega) c;simpa using this
theorem vj(l:List UInt8)(h:ae){a:Nat}(c:a<=l.length):bF SS.P 9 (strOf l) (some (.int .i64 (a:Int))) none none h=some (strOf (l.drop a)):=by
 have:=oH (h:=h) LJ l (lo:=some (.int .i64 (a:Int))) (hi:=none) (a:=a) (b:=l.length) rfl rfl c (Nat.le_refl _);rw[this,take_of_length_le (by simp)]
theorem Qm(l:List UInt8)(h:ae):FW SS 204 [strOf l,strOf [45]] h (λv e=>v = .bool (Num.isNeg l)/\e=h):=by
 refine Qk l [45] h _ (aa (λa=>?_) (λa=>?_))
 ·have a:=dT a;have d:1<=l.length:=by simp only[List.length_cons,List.length_nil]at a;omega
  refine⟨_,IA l h (b:=1) d,?_,rfl⟩
  cases l with
  |nil=>simp at d
  |cons c l=>
   unfold Num.isNeg;simp only[List.take_succ_cons,take_zero,List.head?_cons];congr 1
   cases f:c==45<;>simp_all
 ·have a:=dF a;have d:l=[]:=List.eq_nil_of_length_eq_zero (by simp at a;omega);subst d;exact⟨rfl,rfl⟩
theorem Mt(l:List UInt8)(h:ae):FW SS 191 [strOf l,strOf [45]] h (λv c=>v = .tuple ⟨[strOf (bk l),.bool (Num.isNeg l)]⟩/\c=h):=by
 refine Ms l [45] h _ ((Qm l h).mono ?_);rintro _ e ⟨rfl,d⟩;obtain rfl:h=e:=d.symm;refine⟨_,rfl,aa (λg=>?_) (λg=>?_)⟩
 ·have g:Num.isNeg l=false:=by simpa using g
  unfold bk;rw[g];exact⟨rfl,rfl⟩
 ·have g:Num.isNeg l=true:=by simpa using g
  have b:1<=l.length:=by
   cases l with
   |nil=>cases g
   |cons=>simp
  refine⟨_,vj l h (a:=1) b,?_,rfl⟩;unfold bk;rw[g];rfl
theorem Qc(l:List UInt8)(h:ae):FW SS 177 [strOf l,strOf [45]] h (λv a=>v = .tuple ⟨[strOf (bk l),.bool (Num.isNeg l)]⟩/\a=h):=by
 refine Qb l [45] h _ ((Mt l h).mono ?_);rintro _ c ⟨rfl,b⟩;exact⟨_,_,rfl,rfl,b⟩
theorem Mz(l:List UInt8):∀i:Nat,findAt 47 l i=if cJ 47 l<l.length then((i+cJ 47 l:Nat):Int)else -1:=by
 induction l with
 |nil=>intro i;rfl
 | cons c l b=>
  intro i;unfold findAt cJ;have a:c.toNat=47↔c=47:=by rw[<-UInt8.toNat_inj];rfl
  by_cases h:c=47
  ·rw[if_pos (a.2 h),if_pos h,if_pos (by simp)];rfl
  ·rw[if_neg (λe=>h (a.1 e)),if_neg h,b (i+1)];have:(cJ 47 l+1<(c::l).length)↔cJ 47 l<l.length:=by simp
   simp only[this];split
   ·congr 1;omega
   ·rfl
def Ff(l:List UInt8):Int:=if cJ 47 l<l.length then(cJ 47 l:Int)else -1
theorem Kd(l:List UInt8)(h:ae):FW SS 214 [strOf l,.int .u8 47] h (λv a=>v = .int .i64 (Ff l)/\a=h):=by
 refine Kc l 47 h _ (Cb (p:=pE) (v:= .int .i64 (Ff l)) (h':=h) (by decide +kernel) (by kernel_rfl) (λb=>?_) ⟨_,rfl,rfl,rfl⟩);show(if(0:Int)<=47/\(47:Int)<256 then some (Value.int .i64 (findAt 47 l 0),h)else none)=_;rw[if_pos (by decide),Mz,Nat.zero_add];rfl
theorem Qq(l:List UInt8)(h:ae):FW SS 205 [strOf l,strOf [47]] h (λv b=>v = .int .i64 (Ff l)/\b=h):=by
 refine Qp l h _ (aa (λa=>?_) (λa=>?_))
 ·have a:([47]:List UInt8)=l:=by simpa using a
  subst a;exact⟨rfl,rfl⟩
 ·refine⟨47,rfl,(Kd l h).mono ?_⟩;rintro _ d ⟨rfl,c⟩;exact⟨_,rfl,rfl,c⟩
def Qd(l:List UInt8):Value:=if cJ 47 l<l.length then .tuple ⟨[strOf (l.take (cJ 47 l)),strOf (l.drop (cJ 47 l+1)),.bool true]⟩else .tuple ⟨[strOf l,strOf [],.bool false]⟩
theorem Yr(l:List UInt8)(f:l.length<=1000000000){h:ae}(w:Wf h):FW SS 192 [strOf l,strOf [47]] h (λv b=>v=Qd l/\Ok h b):=by
 refine Yq l h _ ((Qq l h).mono ?_);rintro _ e ⟨rfl,d⟩;obtain rfl:h=e:=d.symm;refine⟨_,rfl,aa (λg=>?_) (λg=>?_)⟩
 ·have g:=dT g;unfold Ff Qd at*;by_cases a:cJ 47 l<l.length
  ·rw[if_pos a,if_pos a];have c:wrap .i64 ((cJ 47 l:Int)+1)=((cJ 47 l+1:Nat):Int):=by rw[aB (by omega) (by omega)];omega
   rw[c];exact⟨_,IA l _ (le_of_lt a),_,vj l _ a,rfl,(Ok.refl w).room 12⟩
  ·rw[if_neg a]at g;omega
 ·have g:=dF g;unfold Ff Qd at*;by_cases a:cJ 47 l<l.length
  ·rw[if_pos a]at g;omega
  ·rw[if_neg a];exact⟨rfl,Ok.refl w⟩
theorem abo(l:List UInt8)(b:l.length<=1000000000){h:ae}(w:Wf h):FW SS 178 [strOf l,strOf [47]] h (λv c=>v=Qd l/\Ok h c):=by
 refine abn l h _ ((Yr l b w).mono ?_);rintro _ d ⟨rfl,a⟩;unfold Qd;split
 ·exact⟨_,_,_,rfl,rfl,a⟩
 ·exact⟨_,_,_,rfl,rfl,a⟩
theorem Ij(l:List UInt8)(s:l.length<=1000000000)(h:ae):FW SS 116 [strOf l,.int .u8 47] h (λv n=>v = .int .i64 (Ff l)/\n=h):=by
 refine Ii l 47 h _ (uj l 47 (λd i g=>g=h/\i<=l.length/\d=l.length-i/\∀j,j<i->l.getD j 0≠47) _ (λd i=>?_) l.length (i:=0) ⟨rfl,by omega,rfl,λj q=>by omega⟩);intros;rename_i g p;obtain⟨rfl,k,u,f⟩:=p;refine aa (λb=>?_) (λb=>?_)
 ·have b:=dT b;have e:bP SS.P 9 (strOf l) (.int .i64 (i:Int))=some (.int .u8 (((l.getD i 0).toNat:Nat):Int)):=by
   have:=oG LJ l .i64 (i:=(i:Int)) (by omega) b;simpa using this
  refine⟨_,e,aa (λa=>?_) (λa=>?_)⟩
  ·have a:(l.getD i 0).toNat=47:=by have:=dT a;omega
   have r:l.getD i 0=47:=by rw[<-UInt8.toNat_inj];exact a
   have:=wC 47 l i k f (λ_=>r);refine⟨?_,rfl⟩;unfold Ff;rw[this,if_pos (by omega)]
  ·have a:((l.getD i 0).toNat:Int)≠47:=by simpa using a
   have o:wrap .i64 ((i:Int)+1)=((i+1:Nat):Int):=by rw[aB (by omega) (by omega)];omega
   rw[o];refine bZ (d-1) (by omega) ⟨rfl,by omega,by omega,λj q=>?_⟩;rcases lt_or_ge j i with c|c
   ·exact f j c
   ·obtain rfl:j=i:=by omega
    intro m;rw[m]at a;exact a rfl
 ·have b:=dF b;obtain rfl:i=l.length:=by omega
  have:=wC 47 l l.length (Nat.le_refl _) f (λt=>by omega);refine⟨?_,rfl⟩;unfold Ff;rw[this,if_neg (by omega)]
noncomputable def Is:FD:=cF Tryz.f152 []
theorem Fs(l:LB)(h:ae)(Q:VH)(a:au (decide ((((l:LB).length:Int):Int)>1000)) (Q (.tuple ⟨[(strOf []),(.int .i64 2)]⟩) h) (Q (.tuple ⟨[(strOf l),(.int .i64 0)]⟩) h)):FW SS 152 [(strOf l)] h Q:=cI Is Tryz.func152 (ai a)
noncomputable def VC:FD:=cF Tryz.f120 []
theorem Rz(l m:LB)(h:ae)(Q:VH)(j:FW SS 136 [(strOf l)] h λh i=>yB h λg=>au (!g) (Q (.int .i64 0) i) (FW SS 136 [(strOf m)] i λe f=>yB e λd=>au (!d) (Q (.int .i64 0) f) (FW SS 154 [(strOf l),(strOf m)] f λb c=>yI .i64 b λa=>Q (.int .i64 a) c))):FW SS 120 [(strOf l),(strOf m)] h Q:=cI VC Tryz.func120 (ai j)
noncomputable def VD:FD:=cF Tryz.f121 []
theorem RH(l m:LB)(h:ae)(Q:VH)(B:FW SS 136 [(strOf l)] h λz A=>yB z λy=>au (!y) (Q (.tuple ⟨[(strOf []),(.int .i64 1)]⟩) A) (FW SS 136 [(strOf m)] A λw x=>yB w λv=>au (!v) (Q (.tuple ⟨[(strOf []),(.int .i64 1)]⟩) x) (FW SS 154 [(strOf l),(strOf m)] x λt u=>yI .i64 t λs=>au (decide ((s:Int)<0)) (Q (.tuple ⟨[(strOf []),(.int .i64 4)]⟩) u) (FW SS 150 [(strOf l)] u λq r=>yL q λn o p=>FW SS 150 [(strOf m)] r λl m=>yL l λi j k=>FW SS 155 [(.slice n o p),(.slice i j k)] m λg h=>yL g λd e f=>FW SS 153 [(.slice d e f)] h λb c=>yS b λa=>Q (.tuple ⟨[(strOf a),(.int .i64 0)]⟩) c)))):FW SS 121 [(strOf l),(strOf m)] h Q:=cI VD Tryz.func121 (ai B)
noncomputable def py:FD:=cF Tryz.f119 [([1,1,1,1,1,0,1,0,0],[6,7,8,9,10])]
abbrev jL(a:OA)(n c:Nat)(b:OA)(k d:Nat)(i:Nat)(cy:Int)(r:OA)(e f:Nat):LV:=[(.slice a n c),(.slice b k d),(.slice r e f),(.int .i64 cy),(iA i)]
theorem Rx(l m:LB)(h:ae)(Q:VH)(s:FW SS 136 [(strOf l)] h λq r=>yB q λp=>au (!p) (Q (.tuple ⟨[(strOf []),(.int .i64 1)]⟩) r) (FW SS 136 [(strOf m)] r λn o=>yB n λk=>au (!k) (Q (.tuple ⟨[(strOf []),(.int .i64 1)]⟩) o) (FW SS 150 [(strOf l)] o λi j=>yL i λf g h=>FW SS 150 [(strOf m)] j λd e=>yL d λa b c=>LL SS py [1,1,1,1,1,0,1,0,0] (jL f g h a b c 0 0 none 0 0) e (KK SS py [1,1,1,1,1,0,1,0] [] (EE SS py Q))))):FW SS 119 [(strOf l),(strOf m)] h Q:=cI py Tryz.func119 (ai s)
theorem yJ(l m:LB)(a:OA)(n c:Nat)(b:OA)(k d:Nat)(z:Nat->Nat->Int->OA->Nat->Nat->ae->Prop)(Q:VH)(step:∀(A:Nat) (i:Nat) (cy:Int) (r:OA) (x y:Nat) (C:Nat->Value) (h:ae),z A i cy r x y h->au (decide (((i:Int):Int)<=(n:Int))) (FW SS 151 [(.slice a n c),(iA i)] h λv w=>yI .i64 v λu=>FW SS 151 [(.slice b k d),(iA i)] w λs t=>yI .i64 s λq=>xI .i64 (ay SS.P .rem 3 (.int .i64 (wrap .i64 (wrap .i64 (u+q)+cy))) (.int .i64 10)) λp=>xR (aI SS.P 22 1 [(0,(.int .i64 p))]) t λ_ l m o=>xE (bH SS.P 22 22 (.slice r x y) (sA (t.next) l m) o) o λf g h _ j=>xI .i64 (ay SS.P .quo 3 (.int .i64 (wrap .i64 (wrap .i64 (u+q)+cy))) (.int .i64 10)) λe=>aJ (Ct (jL a n c b k d) z) A [(.slice a n c),(.slice b k d),(.slice f g h),(.int .i64 e),(.int .i64 (wrap .i64 ((i:Int)+1)))] j) (au (decide (((i:Int):Int)<=(k:Int))) (FW SS 151 [(.slice a n c),(iA i)] h λv w=>yI .i64 v λu=>FW SS 151 [(.slice b k d),(iA i)] w λs t=>yI .i64 s λq=>xI .i64 (ay SS.P .rem 3 (.int .i64 (wrap .i64 (wrap .i64 (u+q)+cy))) (.int .i64 10)) λp=>xR (aI SS.P 22 1 [(0,(.int .i64 p))]) t λ_ l m o=>xE (bH SS.P 22 22 (.slice r x y) (sA (t.next) l m) o) o λf g h _ j=>xI .i64 (ay SS.P .quo 3 (.int .i64 (wrap .i64 (wrap .i64 (u+q)+cy))) (.int .i64 10)) λe=>aJ (Ct (jL a n c b k d) z) A [(.slice a n c),(.slice b k d),(.slice f g h),(.int .i64 e),(.int .i64 (wrap .i64 ((i:Int)+1)))] j) (FW SS 153 [(.slice r x y)] h λf g=>yS f λe=>FW SS 152 [(strOf e)] g λc d=>∃b:LB,∃a:Int,c=(.tuple ⟨[(strOf b),(.int .i64 a)]⟩)/\Q (.tuple ⟨[(strOf b),(.int .i64 a)]⟩) d)))(A:Nat){i:Nat}{cy:Int}{r:OA}{x y:Nat}{h:ae}(B:z A i cy r x y h):LL SS py [1,1,1,1,1,0,1,0,0] (jL a n c b k d i cy r x y) h (KK SS py [1,1,1,1,1,0,1,0] [] (EE SS py Q)):=
 GF (jL a n c b k d) z (λA i cy r x y C h B=>ai (step A i cy r x y C h B)) A B
noncomputable def fj:FD:=cF Tryz.f122 [([1,1,1,1,0,1,0,0],[6,7,8,9]),([1,1,1,1,0,1,0,0,1,0,0,1,1,0,0],[6,7,8,9,10,11])]
abbrev hK(a:OA)(n c:Nat)(b:OA)(k d:Nat)(t:OA)(f e:Nat)(i:Nat):LV:=[(.slice a n c),(.slice b k d),(.slice t f e),(iA i)]
abbrev mf(a:OA)(n c:Nat)(b:OA)(k d:Nat)(t:OA)(f e i:Nat)(j:Nat)(cy:Int):LV:=[(.slice a n c),(.slice b k d),(.slice t f e),(iA i),(.int .i64 cy),(iA j)]
theorem RE(l m:LB)(h:ae)(Q:VH)(u:FW SS 136 [(strOf l)] h λs t=>yB s λr=>au (!r) (Q (.tuple ⟨[(strOf []),(.int .i64 1)]⟩) t) (FW SS 136 [(strOf m)] t λp q=>yB p λo=>au (!o) (Q (.tuple ⟨[(strOf []),(.int .i64 1)]⟩) q) (FW SS 150 [(strOf l)] q λl n=>yL l λi j k=>FW SS 150 [(strOf m)] n λg h=>yL g λd e f=>xR (ch SS.P 22 (.int .i64 (wrap .i64 (wrap .i64 ((j:Int)+(e:Int))+1))) (.int .i64 (wrap .i64 (wrap .i64 ((j:Int)+(e:Int))+1)))) h λ_ a b c=>LL SS fj [1,1,1,1,0,1,0,0] (hK i j k d e f (some ⟨h.next,0,none⟩) a b 0) c (KK SS fj [1,1,1,1,0,1,0] [] (EE SS fj Q))))):FW SS 122 [(strOf l),(strOf m)] h Q:=cI fj Tryz.func122 (ai u)
theorem yQ(l m:LB)(a:OA)(n c:Nat)(b:OA)(k d:Nat)(t:OA)(q p:Nat)(o:Nat->Nat->ae->Prop)(Q:VH)(step:∀(j:Nat) (i:Nat) (s:Nat->Value) (h:ae),o j i h->au (decide (((i:Int):Int)<(n:Int))) (LL SS fj [1,1,1,1,0,1,0,0,1,0,0,1,1,0,0] (mf a n c b k d t q p i 0 0) h (KK SS fj [1,0,0,1,1,0] [1,1,1,1,0,1,0,0] (RR fj [1,1,1,1,0,1,0,0] (fs (hK a n c b k d t q p) o) j (KK SS fj [1,1,1,1,0,1,0] [] (EE SS fj Q))))) (FW SS 153 [(.slice t q p)] h λf g=>yS f λe=>FW SS 152 [(strOf e)] g λc d=>∃b:LB,∃a:Int,c=(.tuple ⟨[(strOf b),(.int .i64 a)]⟩)/\Q (.tuple ⟨[(strOf b),(.int .i64 a)]⟩) d))(j:Nat){i:Nat}{h:ae}(r:o j i h):LL SS fj [1,1,1,1,0,1,0,0] (hK a n c b k d t q p i) h (KK SS fj [1,1,1,1,0,1,0] [] (EE SS fj Q)):=
 dc (hK a n c b k d t q p) o (λj i s h r=>ai (step j i s h r)) j r
theorem yR(l m:LB)(a:OA)(n c:Nat)(b:OA)(k d:Nat)(t:OA)(w v:Nat)(y:Nat->Nat->ae->Prop)(A i:Nat)(x:Nat->Nat->Int->ae->Prop)(Q:VH)(step:∀(u:Nat) (j:Nat) (cy:Int) (B:Nat->Value) (h:ae),x u j cy h->au (decide (((j:Int):Int)<=(k:Int))) (iP 22 (.slice t w v) (.int .i64 (wrap .i64 ((i:Int)+(j:Int)))) λs=>lI (room h 18) s λr=>iP 22 (.slice a n c) (iA i) λq=>lI (room h 18) q λp=>FW SS 151 [(.slice b k d),(iA j)] (room h 18) λm o=>yI .i64 m λl=>(aj SS.P 3 o (.pointer (some s))=some (.int .i64 r)/\dG 4 (.int .i64 r) (.int .i64 r)=true)/\(aj SS.P 3 o (.pointer (some q))=some (.int .i64 p)/\dG 4 (.int .i64 p) (.int .i64 p)=true)/\xI .i64 (ay SS.P .rem 3 (.int .i64 (wrap .i64 (wrap .i64 (r+wrap .i64 (p*l))+cy))) (.int .i64 10)) λh=>iP 22 (.slice t w v) (.int .i64 (wrap .i64 ((i:Int)+(j:Int)))) λg=>xU (ah SS.P 3 (.pointer (some g)) (.int .i64 h) o) o λ_ f=>xI .i64 (ay SS.P .quo 3 (.int .i64 (wrap .i64 (wrap .i64 (r+wrap .i64 (p*l))+cy))) (.int .i64 10)) λe=>aJ (pL (mf a n c b k d t w v i) x) u [(.slice a n c),(.slice b k d),(.slice t w v),(iA i),(.int .i64 e),(.int .i64 (wrap .i64 ((j:Int)+1)))] f) (aJ (fs (hK a n c b k d t w v) y) A [(.slice a n c),(.slice b k d),(.slice t w v),(.int .i64 (wrap .i64 ((i:Int)+1)))] h))(u:Nat){j:Nat}{cy:Int}{h:ae}(z:x u j cy h):LL SS fj [1,1,1,1,0,1,0,0,1,0,0,1,1,0,0] (mf a n c b k d t w v i j cy) h (KK SS fj [1,0,0,1,1,0] [1,1,1,1,0,1,0,0] (RR fj [1,1,1,1,0,1,0,0] (fs (hK a n c b k d t w v) y) A (KK SS fj [1,1,1,1,0,1,0] [] (EE SS fj Q)))):=
 mh (mf a n c b k d t w v i) x (λu j cy B h z=>ai (step u j cy B h z)) u z
theorem wm(X:Nat)(h:ae):FW SS 152 [strOf (ag X)] h (λv b=>v=pj X/\b=h):=by
 refine Fs _ h _ (aa (λa=>?_) (λa=>?_))
 ·have a:=dT a;refine⟨?_,rfl⟩;unfold pj;rw[if_pos (by omega)];rfl
 ·have a:=dF a;refine⟨?_,rfl⟩;unfold pj;rw[if_neg (by omega)];rfl
theorem RA(a b:List UInt8){h:ae}(w:Wf h):FW SS 120 [strOf a,strOf b] h (λv o=>v=BH a b/\Ok h o):=by
 refine Rz a b h _ ((dr a h).mono ?_);rintro _ f ⟨rfl,d⟩;obtain rfl:h=f:=d.symm;refine⟨_,rfl,aa (λg=>?_) (λg=>?_)⟩
 ·have g:Num.valid a=false:=by simpa using g
  refine⟨?_,Ok.refl w⟩;unfold BH;rw[if_neg (λe=>by rw[e.1]at g;cases g)]
 have g:Num.valid a=true:=by simpa using g
 refine(dr b h).mono ?_;rintro _ f ⟨rfl,d⟩;obtain rfl:h=f:=d.symm;refine⟨_,rfl,aa (λc=>?_) (λc=>?_)⟩
 ·have c:Num.valid b=false:=by simpa using c
  refine⟨?_,Ok.refl w⟩;unfold BH;rw[if_neg (λe=>by rw[e.2]at c;cases c)]
 have c:Num.valid b=true:=by simpa using c
 have p:BH a b = .int .i64 (eJ (Num.val a) (Num.val b)):=by unfold BH;rw[if_pos ⟨g,c⟩]
 rw[p];obtain⟨m,rfl,j,l⟩:=cx g;obtain⟨n,rfl,i,k⟩:=cx c;have s:=fZ j;have r:=fZ i;rw[l,k];refine(qF m n (by omega) (by omega) h w).mono ?_;rintro _ g ⟨rfl,q⟩;exact⟨_,rfl,rfl,q⟩
theorem qU{a:List UInt8}(c:Num.valid a=true){h:ae}(w:Wf h):FW SS 150 [strOf a] h (je h 3 ((fy a).map iv)):=by
 have b:=(gx.1 c)
 exact sy a b.1.2.1 (Nat.le_trans b.2 (by omega)) h w
theorem kI{a:List UInt8}(b:Num.valid a=true):∀d∈fy a,d<10:=my (gx.1 b).1.2.1
theorem oF{a:List UInt8}(b:Num.valid a=true):(fy a).length<=1000:=by
 rw[k9];exact(gx.1 b).2
theorem Fh{a b:List UInt8}(c:Num.valid a=true)(d:Num.valid b=true)(h:Num.val b<=Num.val a):b.length<=a.length:=by
 obtain⟨m,rfl,_,f⟩:=cx c;obtain⟨n,rfl,_,e⟩:=cx d;exact Nat.le_of_not_lt λg=>by have:=lV g;omega
theorem GB(a b:List UInt8){h:ae}(w:Wf h):FW SS 121 [strOf a,strOf b] h (λv o=>v=BV a b/\Ok h o):=by
 refine RH a b h _ ((dr a h).mono ?_);rintro _ q ⟨rfl,p⟩;obtain rfl:h=q:=p.symm;refine⟨_,rfl,aa (λg=>?_) (λg=>?_)⟩
 ·have g:Num.valid a=false:=by simpa using g
  refine⟨?_,Ok.refl w⟩;unfold BV;rw[if_neg (λe=>by rw[e.1]at g;cases g)];rfl
 have g:Num.valid a=true:=by simpa using g
 refine(dr b h).mono ?_;rintro _ q ⟨rfl,p⟩;obtain rfl:h=q:=p.symm;refine⟨_,rfl,aa (λc=>?_) (λc=>?_)⟩
 ·have c:Num.valid b=false:=by simpa using c
  refine⟨?_,Ok.refl w⟩;unfold BV;rw[if_neg (λe=>by rw[e.2]at c;cases c)];rfl
 have c:Num.valid b=true:=by simpa using c
 have A:BV a b=(if Num.val a<Num.val b then two [] 4 else two (ag (Num.val a-Num.val b)) 0):=by unfold BV;rw[if_pos ⟨g,c⟩]
 rw[A];have C:FW SS 154 [strOf a,strOf b] h (λv o=>v = .int .i64 (eJ (Num.val a) (Num.val b))/\Ok h o):=by
  obtain⟨m,rfl,t,x⟩:=cx g;obtain⟨n,rfl,s,u⟩:=cx c;have P:=fZ t;have G:=fZ s;rw[x,u];exact qF m n (by omega) (by omega) h w
 refine C.mono ?_;rintro _ J ⟨rfl,f⟩;refine⟨_,rfl,aa (λd=>?_) (λd=>?_)⟩
 ·have d:=dT d;rw[if_pos (Oq d)];exact⟨rfl,f⟩
 have d:=dF d;have j:=Oo d;rw[if_neg (Nat.not_lt.2 j)];refine(qU g f.wf).mono ?_;rintro _ K ⟨F,E,Q,rfl,B,k⟩;refine⟨_,_,_,rfl,(qU c k.wf).mono ?_⟩;rintro _ H ⟨L,D,N,rfl,z,i⟩;refine⟨_,_,_,rfl,(D4 (B.rd.ok i) z.rd (kI g) (kI c) (Nat.le_trans (oF g) (by omega)) i.wf).mono ?_⟩;rintro _ O ⟨M,R,I,rfl,y,l⟩;refine⟨_,_,_,rfl,(sC y.rd (FG (kI g) (kI c) _ _ _ (by omega)) (by rw[fb];exact Nat.le_trans (oF g) (by omega)) l.wf).mono ?_⟩;rintro _ S ⟨rfl,r⟩;refine⟨_,rfl,?_,(((f.trans k).trans i).trans l).trans r⟩;rw[FF (kI g) (kI c) (by rw[k9,k9];exact Fh g c j) (by rw[gk,gk];exact j),gk,gk];rfl
theorem VE:ay SS.P .rem 3 (.int .i64 (n:Int)) (.int .i64 10)=some (.int .i64 ((n%10:Nat):Int)):=by
 rw[show(10:Int)=((10:Nat):Int)from rfl,gU (by omega) (by decide),natCast_emod]
theorem U6(h:n<1000000):ay SS.P .quo 3 (.int .i64 (n:Int)) (.int .i64 10)=some (.int .i64 ((n/10:Nat):Int)):=by
 have a:(n:Int).tdiv 10=((n/10:Nat):Int):=by
  rw[Int.tdiv_eq_ediv_of_nonneg (by omega)];rfl
 rw[Hr SS.P 3 .i64 _ _ (by omega),a,aB (by omega) (by omega)]
theorem Q1{p q c:Nat}(b:p<10)(a:q<10)(d:c<=1):(aQ 10 p q c).2<=1:=by
 show(p+q+c)/10<=1;omega
theorem Ry(a b:List UInt8){h:ae}(w:Wf h):FW SS 119 [strOf a,strOf b] h (λv m=>v=BF a b/\Ok h m):=by
 refine Rx a b h _ ((dr a h).mono ?_);rintro _ X ⟨rfl,U⟩;obtain rfl:h=X:=U.symm;refine⟨_,rfl,aa (λg=>?_) (λg=>?_)⟩
 ·have g:Num.valid a=false:=by simpa using g
  refine⟨?_,Ok.refl w⟩;unfold BF;rw[if_neg (λe=>by rw[e.1]at g;cases g)];rfl
 have g:Num.valid a=true:=by simpa using g
 refine(dr b h).mono ?_;rintro _ X ⟨rfl,U⟩;obtain rfl:h=X:=U.symm;refine⟨_,rfl,aa (λd=>?_) (λd=>?_)⟩
 ·have d:Num.valid b=false:=by simpa using d
  refine⟨?_,Ok.refl w⟩;unfold BF;rw[if_neg (λe=>by rw[e.2]at d;cases d)];rfl
 have d:Num.valid b=true:=by simpa using d
 have hS:BF a b=pj (Num.val a+Num.val b):=by unfold BF;rw[if_pos ⟨g,d⟩]
 rw[hS];refine(qU g w).mono ?_;rintro _ h2 ⟨a2,k,c2,rfl,o2,I⟩;refine⟨_,_,_,rfl,(qU d I.wf).mono ?_⟩;rintro _ h3 ⟨a3,f,c3,rfl,o3,B⟩;refine⟨_,_,_,rfl,?_⟩;have r1:=o2.rd.ok B;have r2:=o3.rd;have ok:=I.trans B;have W:=B.wf;have x1:k=(fy a).length:=by have:=r1.len;rwa[lM]at this
 have Z:f=(fy b).length:=by have:=r2.len;rwa[lM]at this
 have l1:=oF g;have l2:=oF d;have M:=kI g;have Y:=kI d;have e1:=gk a;have e2:=gk b;generalize fy a=x at*;generalize fy b=y at*;have x2:∀j,eO (aQ 10) x y 0 0 j<=1:=by
  intro j
  induction j with
  |zero=>exact Nat.zero_le _
  |succ j ih=>exact Q1 (ba (by decide) M _) (ba (by decide) Y _) ih
 have s:=zA (b:=10) (by decide) M Y (max x.length y.length+1) 0 0 (by omega) (by omega) (by omega) (by omega);rw[drop_zero,drop_zero,e1,e2,Nat.add_zero]at s;rw[<-x1,<-Z]at s;have x7:=le_max_left k f;have x6:=le_max_right k f;have x4:max k f<=1000:=max_le.2 ⟨by omega,by omega⟩;have x5:k=max k f\/f=max k f:=by omega
 generalize max k f=N at*;refine yJ a b a2 k c2 a3 f c3 (λE i cy r rn rc g=>i<=N+1/\E=N+1-i/\cy=(eO (aQ 10) x y 0 0 i:Nat)/\eo h3 g 3 (.slice r rn rc) ((bj (aQ 10) x y 0 i 0).map iv)/\Ok h3 g) (λv m=>v=pj (Num.val a+Num.val b)/\Ok h m) (by
  intro E i cy r rn rc;intros;rename_i o hi;obtain⟨f1,f2,rfl,S,l⟩:=hi;have x0:wrap .i64 ((i:Int)+1)=((i+1:Nat):Int):=by rw[aB (by omega) (by omega)];omega
  rw[x0];have z:(bj (aQ 10) x y 0 i 0).length=i:=fb _ _ _ _ _ _;have t:=im (aQ 10) x y i 0 0;rw[Nat.zero_add]at t;have A:eO (aQ 10) x y 0 0 (i+1)=(aQ 10 (x.getD i 0) (y.getD i 0) (eO (aQ 10) x y 0 0 i)).2:=by
   show(aQ 10 (x.getD (0+i) 0) (y.getD (0+i) 0) _).2=_;rw[Nat.zero_add]
  have x8:=x2 i;have hp:=ba (by omega) M i;have hq:=ba (by omega) Y i;generalize eO (aQ 10) x y 0 0 i=F at*;have n:∀hg:i<N+1,FW SS 151 [(.slice a2 k c2),(.int .i64 (i:Int))] o (λv m=>v = .int .i64 (x.getD i 0:Nat)/\m=o)/\FW SS 151 [(.slice a3 f c3),(.int .i64 (i:Int))] o (λv m=>v = .int .i64 (y.getD i 0:Nat)/\m=o):=λ_=>⟨um (r1.ok l) i,um (r2.ok l) i⟩
  have H:wrap .i64 (((x.getD i 0:Nat):Int)+((y.getD i 0:Nat):Int))=((x.getD i 0+y.getD i 0:Nat):Int):=by rw[aB (by omega) (by omega)];omega
  have G:wrap .i64 (((x.getD i 0+y.getD i 0:Nat):Int)+(F:Int))=((x.getD i 0+y.getD i 0+F:Nat):Int):=by rw[aB (by omega) (by omega)];omega
  refine aa (λD=>?_) (λD=>aa (λC=>?_) (λC=>?_))
  ·have D:=dT D;obtain⟨T,O⟩:=n (by omega);refine T.mono ?_;rintro _ _ ⟨rfl,rfl⟩;refine⟨_,rfl,O.mono ?_⟩;rintro _ _ ⟨rfl,rfl⟩;rename_i o;refine⟨_,rfl,?_⟩;dsimp only;rw[H,G];obtain⟨R,P,L,u,Q,g7,J,V⟩:=Ed W l S (((x.getD i 0+y.getD i 0+F)%10:Nat):Int) (by rw[lM,z];omega);refine⟨_,VE,_,_,_,PU _,R,P,L,u,Q,_,U6 (by omega),pf (E-1) (by omega) ⟨by omega,by omega,by rw[A];rfl,?_,V⟩⟩;rw[t,map_append];exact J
  ·have C:=dT C;obtain⟨T,O⟩:=n (by omega);refine T.mono ?_;rintro _ _ ⟨rfl,rfl⟩;refine⟨_,rfl,O.mono ?_⟩;rintro _ _ ⟨rfl,rfl⟩;rename_i o;refine⟨_,rfl,?_⟩;dsimp only;rw[H,G];obtain⟨R,P,L,u,Q,g7,J,V⟩:=Ed W l S (((x.getD i 0+y.getD i 0+F)%10:Nat):Int) (by rw[lM,z];omega);refine⟨_,VE,_,_,_,PU _,R,P,L,u,Q,_,U6 (by omega),pf (E-1) (by omega) ⟨by omega,by omega,by rw[A];rfl,?_,V⟩⟩;rw[t,map_append];exact J
  ·have D:=dF D;have C:=dF C;obtain rfl:i=N+1:=by omega
   refine(sC S.rd (jy (λp q c=>mod_lt _ (by decide)) _ _ _ 0 0) (by rw[z];omega) l.wf).mono ?_;rintro _ h4 ⟨rfl,x3⟩;refine⟨_,rfl,?_⟩;rw[s];refine(wm _ h4).mono ?_;rintro _ _ ⟨rfl,rfl⟩;exact zk (K:=λv=>v=pj (Num.val a+Num.val b)/\Ok h _) (yl _) ⟨rfl,(ok.trans l).trans x3⟩)
  (N+1) (i:=0) ⟨by omega,by omega,rfl,.inl ⟨rfl,rfl⟩,Ok.refl W⟩
end Go.Proofs.YtaaichlgdgjgjaaGreatDoor
end
section
set_option linter.defProp false
namespace Go.Proofs.YtaaichlgdgjgjaaGreatDoor
open Go Go.Ab Go.Num
variable{k:Nat}{n:Nat}{m:Nat}{h:ae}{a:Option Addr}{x:List Nat}{g:ae}
noncomputable def ti3:TypeInfo:=(SS.P.info? 3).getD default
theorem ab1:SS.P.info? 3=some ti3:=by kernel_rfl
theorem WL:ti3.size=1:=by kernel_rfl
theorem Sd:ti3.bytes=8:=by kernel_rfl
theorem aaM:zeroOf SS.P 3=some (iv 0):=by kernel_rfl
theorem aeR(n:Nat)(a:n<=100000):ch SS.P 22 (.int .i64 (n:Int)) (.int .i64 (n:Int))=some (.cells ((List.replicate n 0).map iv) 3 1 true,mR n n):=by
 unfold ch bW;dsimp only;rw[qG]
 try dsimp only
 change (match SS.P.info? 3,zeroOf SS.P 3 with
  |some i,some z=>(if z.cells.size=i.size/\0<i.size/\(0:Int)<=(n:Int)/\(n:Int)<=(n:Int)/\(n:Int)*i.bytes<=140737488355328/\(n:Int)<=1099511627776 then some (dV.cells (db z.cells.toList (n:Int).toNat) 3 i.size true,λk=>Value.slice (some ⟨k,0,none⟩) (n:Int).toNat (n:Int).toNat)else none)
  |_,_=>none)=_
 rw[ab1,aaM];dsimp only;rw[WL,Sd,if_pos ⟨rfl,by omega,by omega,Int.le_refl _,by omega,by omega⟩];have e:((n:Int)).toNat=n:=by omega
 rw[e,show(iv 0).cells.toList=[iv 0]from rfl,nD,List.map_replicate];rfl
theorem ads{c:Nat}{i:Int}(b:0<=i)(a:i<m):aD SS.P 22 (.slice (some ⟨k,n,none⟩) m c) (.int .i64 i)=some (.pointer (some ⟨k,n+i.toNat*1,none⟩)):=Qo qG Sr b a
theorem atI{c:Nat}(r:Rd h 3 (.slice a n c) (x.map iv)){i:Int}(e:0<=i)(f:i<x.length):∃p:Addr,aD SS.P 22 (.slice a n c) (.int .i64 i)=some (.pointer (some p))/\aj SS.P 3 h (.pointer (some p))=some (.int .i64 (x.getD i.toNat 0:Nat)):=by
 obtain⟨p,d,b⟩:=r.at_ qG Sr G0 FT (k:= .i64) (i:=i) e (by rw[lM];omega);rw[tT x i.toNat (by omega)]at b;exact⟨p,d,b⟩
theorem Pc(n:Int):dG 4 (.int .i64 n) (.int .i64 n)=true:=by simp[dG]
structure RP(hb:ae)(kt N:Nat)(L:List Nat)(g:ae):Prop where
 len:L.length=N
 lt:∀d∈L,d<10
 row:IZ hb kt 3 (L.map iv) g
theorem RP.get{c:Nat}{f:ae}(a:RP g n m x f){jn:Nat}(b:jn<m):aD SS.P 22 (.slice (some ⟨n,0,none⟩) m c) (.int .i64 (jn:Int))=some (.pointer (some ⟨n,0+(jn:Int).toNat*1,none⟩))/\aj SS.P 3 f (.pointer (some ⟨n,0+(jn:Int).toNat*1,none⟩))=some (.int .i64 (x.getD jn 0:Nat))/\
  ∀d:Nat,d<10->Wf g->∃u:dP,ah SS.P 3 (.pointer (some ⟨n,0+(jn:Int).toNat*1,none⟩)) (.int .i64 (d:Int)) f=some (undef,u)/\RP g n m (x.set jn d) (u.app f):=by
 have e:0+(jn:Int).toNat*1=jn:=by omega
 refine⟨ads (by omega) (by omega),?_,?_⟩
 ·rw[e,cq G0 FT a.row.row (by rw[lM,a.len];exact b),tT x jn (by rw[a.len];exact b)]
 ·intro d j w;rw[e];refine⟨_,jf Sr a.row.row (by rw[lM,a.len];exact b) rfl rfl,by rw[length_set];exact a.len,λe i=>?_,?_⟩
  ·rcases List.mem_or_eq_of_mem_set i with h|h
   ·exact a.lt e h
   ·rw[h];exact j
  ·have:=a.row.set w jn (.int .i64 (d:Int));rw[show(Value.int .i64 (d:Int))=iv d from rfl,O0 iv x jn d]at this;rw[show(Value.int .i64 (d:Int))=iv d from rfl,O0 iv x jn d];exact this
def aaJ(a:ae)(c N n:Nat)(x y:List Nat)(b i:Nat)(g:ae):Prop:=i<=n/\b=n-i/\∃L,RP a c N L g/\Num.bv 10 L=Num.bv 10 (x.take i)*Num.bv 10 y
def ae4(b:ae)(d N k:Nat)(x y:List Nat)(i c j:Nat)(cy:Int)(g:ae):Prop:=j<=k+1/\c=k+1-j/\∃(L:List Nat)(a:Nat),cy=(a:Int)/\a<10/\RP b d N L g/\Num.bv 10 L+a*10^(i+j)=Num.bv 10 (x.take i)*Num.bv 10 y+x.getD i 0*Num.bv 10 (y.take j)*10^i
def VJ{f:ae}(w:Wf f){a:Option Addr}{n c:Nat}{b:Option Addr}{k d:Nat}{s N C:Nat}{x y:List Nat}(W:Rd f 3 (.slice a n c) (x.map iv))(V:Rd f 3 (.slice b k d) (y.map iv))(I:∀d∈x,d<10)(M:∀d∈y,d<10){i:Nat}(hi:i<n)(hn:n=x.length)(hk:k=y.length)(hN:N=n+k+1)(x0:N<=10000)(l m:List UInt8)(Q:VH)(E:Nat)(x2:E=n-i):=
 yR l m a n c b k d (some ⟨s,0,none⟩) N C (aaJ f s N n x y) E i (ae4 f s N k x y i) Q (by
  intro H j cy;intros;rename_i g D;obtain⟨h1,h2,L,o,rfl,S,e,J⟩:=D;have O:wrap .i64 ((i:Int)+(j:Int))=((i+j:Nat):Int):=by rw[aB (by omega) (by omega)];omega
  have e2:wrap .i64 ((j:Int)+1)=((j+1:Nat):Int):=by rw[aB (by omega) (by omega)];omega
  have X:wrap .i64 ((i:Int)+1)=((i+1:Nat):Int):=by rw[aB (by omega) (by omega)];omega
  rw[O,e2,X];refine aa (λr=>?_) (λr=>?_)
  ·have r:=dT r;have h:RP f s N L (Go.Ab.room g 18):=⟨e.len,e.lt,⟨e.row.row,e.row.new,e.row.ok.room 18⟩⟩
   obtain⟨K,F,g3⟩:=h.get (c:=C) (jn:=i+j) (by omega);obtain⟨R,f1,A⟩:=atI (W.ok h.row.ok) (i:=(i:Int)) (by omega) (by omega);rw[toNat_natCast]at A;refine⟨_,K,_,F,R,f1,_,A,(um (V.ok h.row.ok) j).mono ?_⟩;rintro _ _ ⟨rfl,rfl⟩;refine⟨_,rfl,⟨F,Pc _⟩,⟨A,Pc _⟩,?_⟩;have v:=ba (b:=10) (by decide) I i;have t:=ba (b:=10) (by decide) M j;have x1:=ba (b:=10) (by decide) e.lt (i+j);obtain⟨q,z⟩:∃q,q=x.getD i 0*y.getD j 0:=⟨_,rfl⟩
   have x3:q<=81:=by rw[z];exact Nat.le_trans (mul_le_mul (Nat.le_of_lt_succ v) (Nat.le_of_lt_succ t)) (by decide)
   have G:=wD (B:=10) (by decide) (L:=L) (y:=y) (i:=i) (k:=j) (cy:=o) (xi:=x.getD i 0) (P:=Num.bv 10 (x.take i)*Num.bv 10 y) (p:=L.getD (i+j) 0+o+q) e.lt (by rw[e.len];omega) S v t (by rw[z]) J;have Y:wrap .i64 (((x.getD i 0:Nat):Int)*((y.getD j 0:Nat):Int))=(q:Int):=by rw[<-Int.natCast_mul,<-z];exact aB (by omega) (by omega)
   rw[Y];have e5:wrap .i64 (((L.getD (i+j) 0:Nat):Int)+(q:Int))=((L.getD (i+j) 0+q:Nat):Int):=by rw[aB (by omega) (by omega)];omega
   rw[e5];have e6:wrap .i64 (((L.getD (i+j) 0+q:Nat):Int)+(o:Int))=((L.getD (i+j) 0+o+q:Nat):Int):=by rw[aB (by omega) (by omega)];omega
   rw[e6];generalize L.getD (i+j) 0+o+q=U at*;obtain⟨u,Z,T⟩:=g3 (U%10) (mod_lt _ (by decide)) w;refine⟨_,VE,_,K,u,Z,_,U6 (by omega),gY (H-1) (by omega) ⟨by omega,by omega,_,_,rfl,G.2.1,T,G.2.2⟩⟩
  ·have r:=dF r;obtain rfl:j=k+1:=by omega
   refine bZ (n-(i+1)) (by omega) ⟨by omega,rfl,L,e,?_⟩;exact FI (by decide) I M (by omega) e.lt (by rw[<-hk];exact J))
theorem RF(a b:List UInt8){h:ae}(w:Wf h):FW SS 122 [strOf a,strOf b] h (λv r=>v=BM a b/\Ok h r):=by
 refine RE a b h _ ((dr a h).mono ?_);rintro _ t ⟨rfl,s⟩;obtain rfl:h=t:=s.symm;refine⟨_,rfl,aa (λg=>?_) (λg=>?_)⟩
 ·have g:Num.valid a=false:=by simpa using g
  refine⟨?_,Ok.refl w⟩;unfold BM;rw[if_neg (λe=>by rw[e.1]at g;cases g)];rfl
 have g:Num.valid a=true:=by simpa using g
 refine(dr b h).mono ?_;rintro _ t ⟨rfl,s⟩;obtain rfl:h=t:=s.symm;refine⟨_,rfl,aa (λk=>?_) (λk=>?_)⟩
 ·have k:Num.valid b=false:=by simpa using k
  refine⟨?_,Ok.refl w⟩;unfold BM;rw[if_neg (λe=>by rw[e.2]at k;cases k)];rfl
 have k:Num.valid b=true:=by simpa using k
 have T:BM a b=pj (Num.val a*Num.val b):=by unfold BM;rw[if_pos ⟨g,k⟩]
 rw[T];refine(qU g w).mono ?_;rintro _ h2 ⟨I,c,V,rfl,W,q⟩;refine⟨_,_,_,rfl,(qU k q.wf).mono ?_⟩;rintro _ m ⟨O,f,Q,rfl,P,o⟩;refine⟨_,_,_,rfl,?_⟩;have A:=W.rd.ok o;have C:=P.rd;have ok:=q.trans o;have E:=o.wf;have D:c=(fy a).length:=by have:=A.len;rwa[lM]at this
 have z:f=(fy b).length:=by have:=C.len;rwa[lM]at this
 have l1:=oF g;have l2:=oF k;have M:=kI g;have hy:=kI k;have N:=gk a;have J:=gk b;generalize fy a=x at*;generalize fy b=y at*;generalize Num.val a=X at*;generalize Num.val b=Y at*;have H:wrap .i64 (wrap .i64 ((c:Int)+(f:Int))+1)=((c+f+1:Nat):Int):=by
  rw[aB (n:=(c:Int)+(f:Int)) (by omega) (by omega),aB (by omega) (by omega)];omega
 dsimp only;rw[H];refine⟨_,_,_,aeR _ (by omega),?_⟩;have U:RP m m.next (c+f+1) (List.replicate (c+f+1) 0) (m.push (.cells ((List.replicate (c+f+1) 0).map iv) 3 1 true)):=by
  refine⟨length_replicate,λd hd=>by rw[(List.mem_replicate.1 hd).2];decide,?_,Nat.le_refl _,(Ok.refl E).push _⟩;rw[ae.bt,if_pos rfl]
 refine yQ a b I c V O f Q (some ⟨m.next,0,none⟩) (c+f+1) (c+f+1) (aaJ m m.next (c+f+1) c x y) (λv r=>v=pj (X*Y)/\Ok h r) (λG i=>?_) c (i:=0) ⟨by omega,by omega,_,U,by rw[tw,take_zero];simp[Num.bv]⟩;intros;rename_i gg S;obtain⟨f1,R,L,l,u⟩:=S;refine aa (λp=>?_) (λp=>?_)
 ·have p:=dT p;exact VJ E A C M hy (i:=i) (by omega) D z rfl (by omega) a b _ G R (f+1) (j:=0) (cy:=0) ⟨by omega,by omega,L,0,rfl,by decide,l,by rw[u,take_zero];simp[Num.bv]⟩
 ·have p:=dF p;obtain rfl:c=i:=by omega
  rw[take_of_length_le (by omega),N,J]at u;have F:=l.row.rd (c+f+1);rw[lM,l.len]at F;refine(sC F l.lt (by rw[l.len];omega) l.row.ok.wf).mono ?_;rintro _ Z ⟨rfl,B⟩;refine⟨_,rfl,?_⟩;rw[u];refine(wm _ Z).mono ?_;rintro _ _ ⟨rfl,rfl⟩;exact zk (K:=λv=>v=pj (X*Y)/\Ok h _) (yl _) ⟨rfl,(ok.trans l.row.ok).trans B⟩
end Go.Proofs.YtaaichlgdgjgjaaGreatDoor
end
section
namespace Go.Proofs.YtaaichlgdgjgjaaGreatDoor
open Go Go.Ab Go.Num
variable{h:ae}{g:ae}{v:Value}{w:Value}{s:List UInt8}{t:List UInt8}{n:Nat}{m:Nat}
theorem yE(l:List UInt8)(h:ae):FW SS 117 [strOf l] h (λv a=>v = .bool (decide (l.length<=400)&&Num.valid l)/\a=h):=by
 refine Il l h _ (aa (λg=>?_) (λg=>?_))
 ·have g:=dT g;refine(dr l h).mono ?_;rintro _ c ⟨rfl,b⟩;refine⟨_,rfl,?_,b⟩;rw[decide_eq_true (show l.length<=400 by omega),Bool.true_and]
 ·have g:=dF g;refine⟨?_,rfl⟩;rw[decide_eq_false (show ¬l.length<=400 by omega),Bool.false_and]
def Zn(n d:List UInt8)(neg a:Bool):Prop:=(Num.valid n=true/\n.length<=400)/\(Num.valid d=true/\d.length<=400)/\d≠[48]/\¬(n=[48]/\(neg=true\/a=true))/\¬(d=[49]/\a=true)/\(Nat.gcd (Num.val n) (Num.val d)=1\/d=[49])
def si:Value:= .tuple ⟨[.bool false,strOf [],strOf [],.bool false]⟩
def mT(neg:Bool)(n d:List UInt8):Value:= .tuple ⟨[.bool neg,strOf n,strOf d,.bool true]⟩
def pv(h:ae)(C:Prop)(G B:Value):VH:=λv a=>Ok h a/\(C->v=G)/\(¬C->v=B)
theorem ka{C:Prop}(o:Ok h g)(a:¬C):pv h C v w w g:=⟨o,λc=>absurd c a,λ_=>rfl⟩
theorem wW{C:Prop}(o:Ok h g)(a:C):pv h C v w v g:=⟨o,λ_=>rfl,λc=>absurd a c⟩
theorem GM{n:List UInt8}(g:(decide (n.length<=400)&&Num.valid n)=true):Num.valid n=true/\n.length<=400:=by
 rw[Bool.and_eq_true,decide_eq_true_eq]at g;exact⟨g.2,g.1⟩
theorem yh(a:Num.valid s=true)(b:Num.valid t=true):BI s t=two (ag (Nat.gcd (Num.val s) (Num.val t))) 0:=by unfold BI;rw[if_pos ⟨a,b⟩]
theorem q8(n d:List UInt8)(neg:Bool)(m:Int)(a:Bool)(v3:a=decide (m>=0)){h:ae}(w:Wf h){x0 x1 x2 x3 x4 x5 z4 z6 I z0 Y u2 u9 y9 u1 z8 J E B X x6 v2 z3 y0 R z2 y4 N u7 s A r M v0 u6 L D z H x7 y u z7 v1 u4 y1 u3 y3 G t z5 o z9 y5 y7 K z1 F U x8 Q C O S y2 P T x9 u8 y6 y8 Z p q W u0 u5:Value}:
  TT SS av [1,1,1,1,1,1] [x0,x1,x2,x3,x4,x5,strOf n,strOf d,.bool neg,.int .i64 m,z4,z6,I,z0,Y,u2,u9,y9,u1,z8,J,E,B,X,x6,v2,z3,y0,R,z2,y4,N,u7,s,A,r,M,v0,u6,L,D,z,H,x7,y,u,z7,v1,u4,y1,u3,y3,G,t,z5,o,z9,y5,y7,K,z1,F,U,x8,Q,C,O,S,y2,P,T,x9,u8,y6,y8,Z,p,q,W,u0,u5] h (EE SS av (pv h (Zn n d neg a) (mT neg n d) si)):=by
 refine BP ((yE n h).mono ?_);rintro _ g0 ⟨rfl,e0⟩;obtain rfl:h=g0:=e0.symm;refine⟨_,rfl,aa (λg=>ka (Ok.refl w) λc=>?_) (λg=>?_)⟩
 ·obtain⟨⟨c1,c2⟩,_⟩:=c;rw[c1,decide_eq_true c2]at g;cases g
 have hn:=GM (n:=n) (by simpa using g);refine(yE d h).mono ?_;rintro _ g0 ⟨rfl,e0⟩;obtain rfl:h=g0:=e0.symm;refine⟨_,rfl,aa (λg=>ka (Ok.refl w) λc=>?_) (λg=>?_)⟩
 ·obtain⟨_,⟨c1,c2⟩,_⟩:=c;rw[c1,decide_eq_true c2]at g;cases g
 have hd:=GM (n:=d) (by simpa using g);have l:d≠[48]->¬(n=[48]/\(neg=true\/a=true))->¬(d=[49]/\a=true)->∀{x0 x1 x2 x3 x4 x5 z4 z6 I z0 Y u2 u9 y9 u1 z8 J E B X x6 v2 z3 y0 R z2 y4 N u7 s A r M v0 u6 L D z H x7 y u z7 v1 u4 y1 u3 y3 G t z5 o z9 y5 y7 K z1 F U x8 Q C O S y2 P T x9 u8 y6 y8 Z p q W u0 u5:Value},
   TT SS av [1,1,1,1,1,1,1] [x0,x1,x2,x3,x4,x5,strOf n,strOf d,.bool neg,.int .i64 m,z4,z6,I,z0,Y,u2,u9,y9,u1,z8,J,E,B,X,x6,v2,z3,y0,R,z2,y4,N,u7,s,A,r,M,v0,u6,L,D,z,H,x7,y,u,z7,v1,u4,y1,u3,y3,G,t,z5,o,z9,y5,y7,K,z1,F,U,x8,Q,C,O,S,y2,P,T,x9,u8,y6,y8,Z,p,q,W,u0,u5] h (EE SS av (pv h (Zn n d neg a) (mT neg n d) si)):=by
  intro c3 c4 c5;intros;refine BQ ((GA n d h w).mono ?_);rintro _ h1 ⟨rfl,o1⟩;rw[yh hn.1 hd.1];refine⟨_,_,rfl,?_⟩;have e1:ag (Nat.gcd (Num.val n) (Num.val d))=[49]↔Nat.gcd (Num.val n) (Num.val d)=1:=ej;refine aa (λb=>aa (λi=>ka o1 λc=>?_) (λi=>wW o1 ?_)) (λb=>wW o1 ?_)
  ·have b:¬ag (Nat.gcd (Num.val n) (Num.val d))=[49]:=by simpa using b
   have i:¬d=[49]:=by simpa using i
   rcases c.2.2.2.2.2 with c|c
   ·exact b (e1.2 c)
   ·exact i c
  ·have i:d=[49]:=by simpa using i
   exact⟨hn,hd,c3,c4,c5,.inr i⟩
  ·have b:ag (Nat.gcd (Num.val n) (Num.val d))=[49]:=by simpa using b
   exact⟨hn,hd,c3,c4,c5,.inl (e1.1 b)⟩
 refine aa (λb=>ka (Ok.refl w) λc=>?_) (λb=>?_)
 ·exact c.2.2.1 (by simpa using b)
 have b:d≠[48]:=by simpa using b
 have v4:∀{x:Bool},(x=true->m>=0)->True:=λ_=>trivial;have V:decide (m>=0)=false->¬a=true:=λe f=>by rw[v3]at f;rw[f]at e;cases e
 have v:decide (m>=0)=true->a=true:=λe=>by rw[v3,e]
 refine aa (λi=>?_) (λi=>?_)
 ·have i:n=[48]:=by simpa using i
  refine aa (λg3=>ka (Ok.refl w) λc=>c.2.2.2.1 ⟨i,.inl g3⟩) (λg3=>?_);have g3:¬neg=true:=by rw[g3];simp
  refine aa (λg4=>ka (Ok.refl w) λc=>c.2.2.2.1 ⟨i,.inr (v g4)⟩) (λg4=>?_);have f4:¬(n=[48]/\(neg=true\/a=true)):=λc=>c.2.elim g3 (V g4);refine aa (λk=>?_) (λk=>?_)
  ·refine aa (λj=>ka (Ok.refl w) λc=>c.2.2.2.2.1 ⟨by simpa using k,v j⟩) (λj=>?_);exact l b f4 (λc=>V j c.2)
  ·exact l b f4 (λc=>(by
    have:¬d=[49]:=by simpa using k
    exact this c.1))
 ·have f4:¬(n=[48]/\(neg=true\/a=true)):=λc=>by
   have:¬n=[48]:=by simpa using i
   exact this c.1
  refine aa (λk=>?_) (λk=>?_)
  ·refine aa (λj=>ka (Ok.refl w) λc=>c.2.2.2.2.1 ⟨by simpa using k,v j⟩) (λj=>?_);exact l b f4 (λc=>V j c.2)
  ·exact l b f4 (λc=>(by
    have:¬d=[49]:=by simpa using k
    exact this c.1))
def kC(l:List UInt8):Value:=if aA l=true then mT (Num.isNeg l) (Num.numOf l) (ak l)else si
theorem Ic(q:pv h (Zn (Num.numOf s) (ak s) (Num.isNeg s) (bm s)) (mT (Num.isNeg s) (Num.numOf s) (ak s)) si v g):v=kC s/\Ok h g:=by
 obtain⟨o,d,b⟩:=q;refine⟨?_,o⟩;unfold kC;by_cases a:aA s=true
 ·rw[if_pos a];exact d (A3.1 (aZ.1 a))
 ·rw[if_neg a];exact b λc=>a (aZ.2 (A3.2 c))
theorem ey(l:List UInt8)(z:l.length<=1000000000){h:ae}(w:Wf h):FW SS 94 [strOf l] h (λv I=>v=kC l/\Ok h I):=by
 refine FW.mono (Q:=pv h (Zn (Num.numOf l) (ak l) (Num.isNeg l) (bm l)) (mT (Num.isNeg l) (Num.numOf l) (ak l)) si) ?_ (λ_ _ q=>Ic q);have A:∀m:List UInt8,m.length<=1000000000->∀(K:VH),(∀(b:Int),b=Ff m->(if b>=0 then ∃i:Nat,b=(i:Int)/\wrap .i64 (b+1)=((i+1:Nat):Int)/\i=cJ 47 m/\i<m.length else ¬cJ 47 m<m.length)  ->K (.int .i64 b) h)->FW SS 116 [strOf m,.int .u8 47] h K:=by
  intro m D K H;refine(Ij m D h).mono ?_;rintro _ L ⟨rfl,J⟩;obtain rfl:h=L:=J.symm;refine H _ rfl ?_;unfold Ff;by_cases g:cJ 47 m<m.length
  ·rw[if_pos g,if_pos (by omega)];exact⟨_,rfl,by rw[aB (by omega) (by omega)];omega,rfl,g⟩
  ·rw[if_neg g,if_neg (by omega)];exact g
 have t:∀(m:List UInt8),m=bk l->m.length<=1000000000->∀(b:Int),(if b>=0 then ∃i:Nat,b=(i:Int)/\wrap .i64 (b+1)=((i+1:Nat):Int)/\i=cJ 47 m/\i<m.length else ¬cJ 47 m<m.length)->
   (decide (b>=0)=true->bm l=true/\bF SS.P 9 (strOf m) (some (.int .i64 (wrap .i64 (b+1)))) none none h=some (strOf (ak l))/\bF SS.P 9 (strOf m) none (some (.int .i64 b)) none h=some (strOf (Num.numOf l)))/\
   (decide (b>=0)=false->bm l=false/\m=Num.numOf l/\ak l=[49]):=by
  intro m d D b r;refine⟨λg=>?_,λg=>?_⟩
  ·rw[if_pos (dT g)]at r;obtain⟨i,rfl,G,rfl,B⟩:=r;have s:bm l=true:=by unfold bm;rw[<-d];exact decide_eq_true B
   refine⟨s,?_,?_⟩
   ·rw[G,vj m h B];unfold ak;rw[if_pos s,d]
   ·rw[IA m h (le_of_lt B)];unfold Num.numOf;rw[d]
  ·rw[if_neg (dF g)]at r;have s:bm l=false:=by unfold bm;rw[<-d];exact decide_eq_false r
   refine⟨s,?_,?_⟩
   ·unfold Num.numOf;rw[<-d,take_of_length_le (by omega)]
   ·unfold ak;rw[s];rfl
 have u:∀(m:List UInt8),m=bk l->m.length<=1000000000:=λm d=>by
  rw[d];unfold bk;split
  ·rw[length_drop];omega
  ·exact z
 refine Ik l h _ (aa (λg=>?_) (λg=>?_))
 ·have g:=dT g
  cases l with
  |nil=>simp at g
  | cons c f=>
   have e:bP SS.P 9 (strOf (c::f)) (.int .i64 0)=some (.int .u8 ((c.toNat:Nat):Int)):=by
    have:=oG LJ (c::f) .i64 (i:=0) (by omega) g;simpa using this
   refine⟨_,e,aa (λp=>?_) (λp=>?_)⟩
   ·have p:c=45:=by
     have:((c.toNat:Nat):Int)=45:=by simpa using p
     rw[<-UInt8.toNat_inj];show c.toNat=45;omega
    have o:Num.isNeg (c::f)=true:=by unfold Num.isNeg;rw[p];rfl
    have d:f=bk (c::f):=by unfold bk;rw[if_pos o];rfl
    have E:bF SS.P 9 (strOf (c::f)) (some (.int .i64 1)) none none h=some (strOf f):=vj (c::f) h (a:=1) (by simp);refine⟨_,E,A f (u _ d) _ (λb F r=>⟨b,rfl,?_⟩)⟩;obtain⟨x,y⟩:=t f d (u _ d) b r;have C:(((c.toNat:Nat):Int)==45)=true:=p▸rfl;rw[o,C];refine aa (λg=>?_) (λg=>?_)
    ·obtain⟨n,k,j⟩:=x g;exact⟨_,k,_,j,q8 _ _ true b _ (by rw[n,g]) w⟩
    ·obtain⟨n,k,j⟩:=y g;rw[j,<-k];exact q8 _ _ true b _ (by rw[n,g]) w
   ·have p:¬c=45:=λe=>by rw[e]at p;cases p
    have o:Num.isNeg (c::f)=false:=by
     unfold Num.isNeg;simp[p]
    have d:c::f=bk (c::f):=by unfold bk;rw[o];rfl
    have C:(((c.toNat:Nat):Int)==45)=false:=by
     have:((c.toNat:Nat):Int)≠45:=λe=>p (by rw[<-UInt8.toNat_inj];show c.toNat=45;omega);simpa using this
    refine A (c::f) z _ (λb F r=>⟨b,rfl,?_⟩);obtain⟨x,y⟩:=t _ d z b r;rw[o,C];refine aa (λg=>?_) (λg=>?_)
    ·obtain⟨n,k,j⟩:=x g;exact⟨_,k,_,j,q8 _ _ false b _ (by rw[n,g]) w⟩
    ·obtain⟨n,k,j⟩:=y g;rw[j,<-k];exact q8 _ _ false b _ (by rw[n,g]) w
 ·have g:=dF g;obtain rfl:l=[]:=List.eq_nil_of_length_eq_zero (by omega);have d:[]=bk []:=rfl;refine A [] (by simp) _ (λb F r=>⟨b,rfl,?_⟩);obtain⟨x,y⟩:=t _ d (by simp) b r;refine aa (λg=>?_) (λg=>?_)
  ·obtain⟨n,k,j⟩:=x g;exact⟨_,k,_,j,q8 _ _ false b _ (by rw[n,g]) w⟩
  ·obtain⟨n,k,j⟩:=y g;rw[j,<-k];exact q8 _ _ false b _ (by rw[n,g]) w
theorem Gr{l:List UInt8}{K:Value->Prop}(a:K (kC l)):∃(c:Bool)(d e:List UInt8)(b:Bool),kC l=(.tuple ⟨[.bool c,strOf d,strOf e,.bool b]⟩)/\K (.tuple ⟨[.bool c,strOf d,strOf e,.bool b]⟩)/\b=aA l:=by
 unfold kC at*
 cases g:aA l with
 |true=>rw[g]at a;exact⟨_,_,_,_,rfl,a,rfl⟩
 |false=>rw[g]at a;exact⟨_,_,_,_,rfl,a,rfl⟩
theorem yG(l:List UInt8)(d:l.length<=1000000000){h:ae}(w:Wf h):FW SS 71 [strOf l] h (λv f=>v = .bool (aA l)/\Ok h f):=by
 refine Io l h _ ((ey l d w).mono ?_);rintro _ k ⟨rfl,a⟩;obtain⟨b,i,j,c,e,_,g⟩:=Gr (l:=l) (K:=λ_=>True) trivial;exact⟨b,i,j,c,e,by rw[g],a⟩
theorem oM(h:n<10^800):Num.valid (ag n)=true:=ei.2 (lt_of_lt_of_le h (jT (k:=800) (m:=1000) (by decide)))
theorem OD(h:m<10^1000):pj m=two (ag m) 0:=by
 unfold pj;rw[if_neg];have:=(dO (n:=m) (k:=1000) (by decide)).2 h;omega
theorem Jv(b:n<10^800)(a:m<10^800):BF (ag n) (ag m)=two (ag (n+m)) 0:=by
 unfold BF;rw[if_pos ⟨oM b,oM a⟩,bu,bu];exact OD (lt_of_lt_of_le (Nat.add_lt_add b a) FJ)
theorem zh(b:n<10^800)(a:m<10^800)(h:m<=n):BV (ag n) (ag m)=two (ag (n-m)) 0:=by
 unfold BV;rw[if_pos ⟨oM b,oM a⟩,bu,bu,if_neg (Nat.not_lt.2 h)]
theorem JL(b:n<10^800)(a:m<10^800):BH (ag n) (ag m) = .int .i64 (eJ n m):=by
 unfold BH;rw[if_pos ⟨oM b,oM a⟩,bu,bu]
theorem dh{a b:List UInt8}(d:Num.valid a=true)(c:Num.valid b=true)(e:a.length<=400)(f:b.length<=400):BM a b=two (ag (Num.val a*Num.val b)) 0/\Num.val a*Num.val b<10^800:=by
 have h:=ES (rI (k:=400) d (by decide) e) (rI (k:=400) c (by decide) f);refine⟨?_,h⟩;unfold BM;rw[if_pos ⟨d,c⟩];exact OD (lt_of_lt_of_le h (jT (k:=800) (m:=1000) (by decide)))
def Bj(s:Bool)(A:Nat)(t:Bool)(B:Nat):Value:= .tuple ⟨[.bool (dI s A t B).1,strOf (ag (dI s A t B).2)]⟩
theorem xY:eJ n m<0↔n<m:=wA
theorem D3(s:Bool)(A:Nat)(t:Bool)(B:Nat)(f:A<10^800)(e:B<10^800){h:ae}(w:Wf h):FW SS 95 [.bool s,strOf (ag A),.bool t,strOf (ag B)] h (λv l=>v=Bj s A t B/\Ok h l):=by
 refine Nr s _ t _ h _ (aa (λg=>?_) (λg=>?_))
 ·have g:s=t:=by simpa using g
  refine(Ry _ _ w).mono ?_;rintro _ j ⟨rfl,a⟩;rw[Jv f e];refine⟨_,_,rfl,?_,a⟩;unfold Bj dI;rw[if_pos g]
 ·have g:¬s=t:=by simpa using g
  refine(RA _ _ w).mono ?_;rintro _ j ⟨rfl,a⟩;rw[JL f e];refine⟨_,rfl,aa (λd=>?_) (λd=>?_)⟩
  ·have d:=dT d;have b:¬A<B:=λc=>by have:=xY.2 c;omega
   refine(GB _ _ a.wf).mono ?_;rintro _ k ⟨rfl,i⟩;rw[zh f e (Nat.not_lt.1 b)];refine⟨_,_,rfl,?_,a.trans i⟩;unfold Bj dI;rw[if_neg g,if_neg b]
  ·have d:=dF d;have b:A<B:=xY.1 (by omega);refine(GB _ _ a.wf).mono ?_;rintro _ k ⟨rfl,i⟩;rw[zh e f (le_of_lt b)];refine⟨_,_,rfl,?_,a.trans i⟩;unfold Bj dI;rw[if_neg g,if_pos b]
theorem fE{a b:List UInt8}(f:Num.valid a=true)(c:Num.valid b=true)(g:a.length<=400)(i:b.length<=400){h:ae}(w:Wf h):FW SS 96 [strOf a,strOf b] h (λv e=>v=strOf (ag (Num.val a*Num.val b))/\Ok h e):=by
 refine Im a b h _ ((RF a b w).mono ?_);rintro _ j ⟨rfl,d⟩;rw[(dh f c g i).1];exact⟨_,_,rfl,rfl,d⟩
theorem D2(l m:List UInt8)(u:l.length<=1000000000)(p:m.length<=1000000000){h:ae}(w:Wf h):FW SS 72 [strOf l,strOf m] h (λv A=>v = .int .i64 (da l m)/\Ok h A):=by
 refine Nq l m h _ ((ey l u w).mono ?_);rintro _ E ⟨rfl,i⟩
 cases g:aA l with
 |false=>
  have e:kC l=si:=by unfold kC;rw[g];rfl
  refine⟨_,_,_,_,e,(ey m p i.wf).mono ?_⟩;rintro _ y ⟨rfl,j⟩;obtain⟨s,B,C,t,k,_,G⟩:=Gr (l:=m) (K:=λ_=>True) trivial;refine⟨s,B,C,t,k,?_,i.trans j⟩;unfold da;rw[if_neg (λc=>by rw[c.1]at g;cases g)]
 | true=>
  have e:kC l=mT (Num.isNeg l) (Num.numOf l) (ak l):=by unfold kC;rw[g];rfl
  refine⟨_,_,_,_,e,(ey m p i.wf).mono ?_⟩;rintro _ y ⟨rfl,j⟩
  cases f:aA m with
  |false=>
   have k:kC m=si:=by unfold kC;rw[f];rfl
   refine⟨_,_,_,_,k,?_,i.trans j⟩;unfold da;rw[if_neg (λc=>by rw[c.2]at f;cases f)]
  | true=>
   have k:kC m=mT (Num.isNeg m) (Num.numOf m) (ak m):=by unfold kC;rw[f];rfl
   have a:=aZ.1 g;have b:=aZ.1 f;refine⟨_,_,_,_,k,(fE a.num b.den a.ln b.ld j.wf).mono ?_⟩;rintro _ D ⟨rfl,r⟩;refine⟨_,rfl,(fE b.num a.den b.ln a.ld r.wf).mono ?_⟩;rintro _ F ⟨rfl,q⟩;refine⟨_,rfl,(D3 _ _ _ _ (dh a.num b.den a.ln b.ld).2 (dh b.num a.den b.ln a.ld).2 q.wf).mono ?_⟩;rintro _ H ⟨rfl,x⟩;have o:=(((i.trans j).trans r).trans q).trans x;refine⟨_,_,rfl,?_⟩;unfold da;rw[if_pos ⟨g,f⟩];generalize dI _ _ _ _=z;refine aa (λd=>⟨?_,o⟩) (λd=>?_)
   ·have d:ag z.2=[48]:=by simpa using d
    rw[if_pos (bL.1 d)]
   ·have d:¬ag z.2=[48]:=by simpa using d
    rw[if_neg (λc=>d (bL.2 c))];refine aa (λn=>⟨?_,o⟩) (λn=>⟨?_,o⟩)
    ·rw[if_pos n]
    ·rw[if_neg (by rw[n];simp)]
end Go.Proofs.YtaaichlgdgjgjaaGreatDoor
end
section
set_option linter.defProp false
namespace Go.Proofs.YtaaichlgdgjgjaaGreatDoor
open Go Go.Ab Go.Num
variable{h:ae}{n:Nat}{m:Nat}{x:List Nat}{g:ae}
structure MR(hb:ae)(kt N:Nat)(L:List Nat)(g:ae):Prop where
 len:L.length=N
 lt:∀d∈L,d<BB
 row:g.get kt=some (.cells (cO ((List.replicate N 0).map uv) 0 L) 150 1 true)
 ok:Ok hb g
theorem MR.room(a:MR h n m x g)(r:Nat):MR h n m x (Go.Ab.room g r):=⟨a.len,a.lt,a.row,a.ok.room r⟩
theorem MR.get{c:Nat}{b:ae}(a:MR g n m x b){j:Int}{jn:Nat}(r:j=(jn:Int))(f:jn<m):∃p:Addr,aD SS.P 177 (.slice (some ⟨n,0,none⟩) m c) (.int .i64 j)=some (.pointer (some p))/\aj SS.P 150 b (.pointer (some p))=some (.int .u64 (x.getD jn 0:Nat))/\
  ∀d:Nat,d<BB->n<b.next->g.next<=n->Wf g->∃u:dP,ah SS.P 150 (.pointer (some p)) (.int .u64 (d:Int)) b=some (undef,u)/\MR g n m (x.set jn d) (u.app b):=by
 subst r;have i:(0:Nat)+x.length<=((List.replicate m 0).map uv).length:=by rw[lM,length_replicate,a.len];omega
 refine⟨⟨n,0+(jn:Int).toNat,none⟩,yi (by omega) (by omega),?_,?_⟩
 ·rw[toNat_natCast];exact DD a.row i (by rw[a.len];exact f)
 ·intro d q o k w;rw[toNat_natCast];refine⟨_,Ef a.row i (by rw[a.len];exact f) d,by rw[length_set];exact a.len,λe l=>?_,?_,a.ok.set _ k o w⟩
  ·rcases List.mem_or_eq_of_mem_set l with h|h
   ·exact a.lt e h
   ·rw[h];exact q
  ·show(b.set n _).get n=_;rw[ae.aw,if_pos rfl]
def UL(a:ae)(c N n:Nat)(x y:List Nat)(b i:Nat)(g:ae):Prop:=i<=n/\b=n-i/\∃L,MR a c N L g/\Num.bv BB L=Num.bv BB (x.take i)*Num.bv BB y
def aaF(b:ae)(d N k:Nat)(x y:List Nat)(i c j:Nat)(cy:Int)(g:ae):Prop:=j<=k+1/\c=k+1-j/\∃(L:List Nat)(a:Nat),cy=(a:Int)/\a<BB/\MR b d N L g/\Num.bv BB L+a*BB^(i+j)=Num.bv BB (x.take i)*Num.bv BB y+x.getD i 0*Num.bv BB (y.take j)*BB^i
theorem MP(w:Wf h){c N k:Nat}{x y:List Nat}(A:h.next<=c)(u:∀d∈x,d<BB)(z:∀d∈y,d<BB){i l j:Nat}{f:Nat}{L:List Nat}{g:ae}(C:j<k+1)(o:i+j<N)(B:l=k+1-j)(n:f<BB)(m:MR h c N L g)(s:Num.bv BB L+f*BB^(i+j)=Num.bv BB (x.take i)*Num.bv BB y+x.getD i 0*Num.bv BB (y.take j)*BB^i){q:Nat}(r:q=x.getD i 0*y.getD j 0):
  q<=999999998000000001/\L.getD (i+j) 0<BB/\(∀p,MR h c N (L.set (i+j) ((L.getD (i+j) 0+f+q)%BB)) p->l-1<l/\aaF h c N k x y i (l-1) (j+1) (((L.getD (i+j) 0+f+q)/BB:Nat):Int) p)/\(L.getD (i+j) 0+f+q)%BB<BB/\c<g.next:=by
 have e:=ba (b:=BB) (by decide) u i;have a:=ba (b:=BB) (by decide) z j;have t:=ba (b:=BB) (by decide) m.lt (i+j);refine⟨?_,t,λp v=>⟨by omega,by omega,by omega,_,_,rfl,?_,v,?_⟩,mod_lt _ (by decide),m.ok.wf _ _ m.row⟩
 ·rw[r];exact Nat.le_trans (mul_le_mul (Nat.le_of_lt_succ e) (Nat.le_of_lt_succ a)) (by decide)
 ·exact(wD gQ m.lt (by rw[m.len];exact o) n e a (by rw[r]) s).2.1
 ·exact(wD gQ m.lt (by rw[m.len];exact o) n e a (by rw[r]) s).2.2
def QJ{f:ae}(w:Wf f){a:Option Addr}{n c:Nat}{b:Option Addr}{k d:Nat}{v N t:Nat}{x y:List Nat}(ra:Rd f 150 (.slice a n c) (x.map uv))(rb:Rd f 150 (.slice b k d) (y.map uv))(R:∀d∈x,d<BB)(W:∀d∈y,d<BB)(o:f.next<=v){i:Nat}(hi:i<n)(hn:n=x.length)(hk:k=y.length)(hN:N=n+k+1)(x0:N<=1000)(l m:List UInt8)(Q:VH)(M:Nat)(x2:M=n-i):=
 yv l m a n c b k d (some ⟨v,0,none⟩) N t (n:Int) (UL f v N n x y) M i ((k:Int)+1) (aaF f v N k x y i) Q (by
  intro A j cy;intros;rename_i g K;obtain⟨h1,h2,L,z,rfl,h3,e,T⟩:=K;have x1:BB=1000000000:=rfl;have X:wrap .i64 ((i:Int)+(j:Int))=((i+j:Nat):Int):=by rw[aB (by omega) (by omega)];omega
  have e2:wrap .i64 ((j:Int)+1)=((j+1:Nat):Int):=by rw[aB (by omega) (by omega)];omega
  have e3:wrap .i64 ((i:Int)+1)=((i+1:Nat):Int):=by rw[aB (by omega) (by omega)];omega
  rw[X,e2,e3];refine aa (λs=>?_) (λs=>?_)
  ·have s:=dT s;obtain⟨q,E⟩:∃q,q=x.getD i 0*y.getD j 0:=⟨_,rfl⟩
   obtain⟨s1,s2,B,D,O⟩:=MP w o R W (by omega) (by omega) h2 h3 e T E;obtain⟨p,g1,Y,_⟩:=e.get (c:=t) (j:=((i+j:Nat):Int)) rfl (by omega);have S:wrap .u64 (((L.getD (i+j) 0:Nat):Int)+(z:Int))=((L.getD (i+j) 0+z:Nat):Int):=by rw[gV (by omega) (by omega)];omega
   refine⟨p,g1,_,Y,aa (λr=>?_) (λr=>?_)⟩
   ·have r:=dT r;obtain⟨p1,f1,U⟩:=FV (ra.ok (e.room 12).ok) (i:=(i:Int)) (by omega) (by omega);obtain⟨Z,f3,V⟩:=FV (rb.ok (e.room 12).ok) (i:=(j:Int)) (by omega) (by omega);rw[toNat_natCast]at U V;have e5:wrap .u64 (((x.getD i 0:Nat):Int)*((y.getD j 0:Nat):Int))=(q:Int):=by rw[<-Int.natCast_mul,<-E];exact gV (by omega) (by omega)
    have e6:wrap .u64 (((L.getD (i+j) 0+z:Nat):Int)+(q:Int))=((L.getD (i+j) 0+z+q:Nat):Int):=by rw[gV (by omega) (by omega)];omega
    rw[S];refine⟨p1,f1,_,U,Z,f3,_,V,?_⟩;dsimp only;rw[e5,e6];obtain⟨I,J,_,G⟩:=(e.room 12).get (c:=t) (j:=((i+j:Nat):Int)) rfl (by omega);obtain⟨u,F,C⟩:=G _ D (lt_of_lt_of_le O (Nat.le_add_right _ _)) o w;obtain⟨H,h⟩:=B _ C;refine⟨_,gU (b:=BB) (by omega) (by decide),_,qb (b:=BB) (by omega) (by omega) (by decide),I,J,u,F,gY (A-1) H ?_⟩;rw[natCast_ediv]at h;exact h
   ·have r:=dF r;have y0:y.getD j 0=0:=by rw[gD,getElem?_eq_none (by omega)];rfl
    have P:q=0:=by rw[E,y0,Nat.mul_zero]
    rw[S];obtain⟨I,J,_,G⟩:=e.get (c:=t) (j:=((i+j:Nat):Int)) rfl (by omega);rw[P,Nat.add_zero]at B D;obtain⟨u,F,C⟩:=G _ D O o w;obtain⟨H,h⟩:=B _ C;refine⟨_,gU (b:=BB) (by omega) (by decide),_,qb (b:=BB) (by omega) (by omega) (by decide),I,J,u,F,gY (A-1) H ?_⟩;rw[natCast_ediv]at h;exact h
  ·have s:=dF s;obtain rfl:j=k+1:=by omega
   refine bZ (n-(i+1)) (by omega) ⟨by omega,rfl,L,e,?_⟩;exact FI gQ R W (by omega) e.lt (by rw[<-hk];exact T))
theorem WO(d:(aX BB n).length<=112)(f:(aX BB m).length<=112):(aX BB (n*m)).length<=10000:=by
 have a:=fx (dp gQ n);have b:=fx (dp gQ m);rw[cm gQ]at a b;have c:=lt_of_lt_of_le a (pow_le_pow_right (show 0<BB by decide) d);have e:=lt_of_lt_of_le b (pow_le_pow_right (show 0<BB by decide) f);refine Nat.le_trans (lT gQ (k:=224) ?_) (by omega);rw[show 224=112+112 from rfl,pow_add];exact Nat.mul_lt_mul'' c e
theorem mL(a b:List UInt8){h:ae}(t:nW h)(w:Wf h):FW SS 143 [strOf a,strOf b] h (λv A=>v=BM a b/\Ok h A):=by
 refine QS a b h _ ((dJ a h).mono ?_);rintro _ D ⟨rfl,B⟩;obtain rfl:h=D:=B.symm;refine⟨_,rfl,aa (λg=>?_) (λg=>?_)⟩
 ·have g:Num.valid a=false:=by simpa using g
  refine⟨?_,Ok.refl w⟩;unfold BM;rw[if_neg (λe=>by rw[e.1]at g;cases g)];rfl
 have g:Num.valid a=true:=by simpa using g
 refine(dJ b h).mono ?_;rintro _ D ⟨rfl,B⟩;obtain rfl:h=D:=B.symm;refine⟨_,rfl,aa (λl=>?_) (λl=>?_)⟩
 ·have l:Num.valid b=false:=by simpa using l
  refine⟨?_,Ok.refl w⟩;unfold BM;rw[if_neg (λe=>by rw[e.2]at l;cases l)];rfl
 have l:Num.valid b=true:=by simpa using l
 have P:=ZT g l;have lx:=P.lx;have ly:=P.ly;refine(kG g w).mono ?_;rintro _ h1 ⟨S,f,O,rfl,T,u⟩;refine⟨_,_,_,rfl,(kG l u.wf).mono ?_⟩;rintro _ m ⟨G,k,Q,rfl,o2,z⟩;refine⟨_,_,_,rfl,?_⟩;have hS:BM a b=pj (Num.val a*Num.val b):=by unfold BM;rw[if_pos ⟨g,l⟩]
 rw[hS];have q:=T.rd.ok z;have r:=o2.rd;have s:=u.trans z;have N:f=(aX BB (Num.val a)).length:=by have:=q.len;rwa[lM]at this
 have F:k=(aX BB (Num.val b)).length:=by have:=r.len;rwa[lM]at this
 have hX:=dp gQ (Num.val a);have Z:=dp gQ (Num.val b);have bX:=cm gQ (Num.val a);have W:=cm gQ (Num.val b);have q:Rd m 150 (.slice S f O) ((aX BB (Num.val a)).map uv):=q;have r:Rd m 150 (.slice G k Q) ((aX BB (Num.val b)).map uv):=r;have J:(aX BB (Num.val a*Num.val b)).length<=10000:=WO lx ly;generalize Num.val a=X at*;generalize Num.val b=Y at*;generalize aX BB X=x at*;generalize aX BB Y=y at*;have V:wrap .i64 (wrap .i64 ((f:Int)+(k:Int))+1)=((f+k+1:Nat):Int):=by
  rw[aB (n:=(f:Int)+(k:Int)) (by omega) (by omega),aB (by omega) (by omega)];omega
 dsimp only;rw[V];refine⟨_,_,_,aaE _ (by omega),?_⟩;have I:=(Ok.refl s.wf).push (.cells ((List.replicate (f+k+1) 0).map uv) 150 1 true);have m0:MR m m.next (f+k+1) (List.replicate (f+k+1) 0) (m.push (.cells ((List.replicate (f+k+1) 0).map uv) 150 1 true)):=by
  refine⟨length_replicate,λd hd=>by rw[(List.mem_replicate.1 hd).2];decide,?_,I⟩;rw[ae.bt,if_pos rfl,nq (by rw[drop_zero,length_replicate,take_of_length_le (by rw[lM,length_replicate];omega)])]
 refine yu a b S f O G k Q (some ⟨m.next,0,none⟩) (f+k+1) (f+k+1) (f:Int) (UL m m.next (f+k+1) f x y) (λv A=>v=pj (X*Y)/\Ok h A) (λU i=>?_) f (i:=0) ⟨by omega,by omega,_,m0,by rw[tw,take_zero];simp[Num.bv]⟩;intros;rename_i g hi;obtain⟨f1,f2,L,o,E⟩:=hi;refine aa (λp=>?_) (λp=>?_)
 ·have p:=dT p;have e2:wrap .i64 ((k:Int)+1)=(k:Int)+1:=aB (by omega) (by omega);rw[e2];exact QJ s.wf q r hX Z (Nat.le_refl _) (i:=i) (by omega) N F rfl (by omega) a b _ U f2 (k+1) (j:=0) (cy:=0) ⟨by omega,by omega,L,0,rfl,by decide,o,by rw[E,take_zero];simp[Num.bv]⟩
 ·have p:=dF p;obtain rfl:f=i:=by omega
  rw[take_of_length_le (by omega),bX,W]at E;have C:f+k+1<=bC (f+k+1):=by unfold bC;rw[if_neg (by unfold dm;omega)];omega
  have M:=Co o.row (n:=f+k+1) (c:=f+k+1) o.len.symm C;refine(p0 M (by rw[o.len];omega)).mono ?_;rintro _ h6 ⟨rfl,e6⟩;subst e6;have H:=Ax M o.lt;rw[E]at H;refine⟨_,_,_,rfl,(vZ H J (t.ok (s.trans o.ok)) o.ok.wf).mono ?_⟩;rintro _ h7 ⟨rfl,R⟩;exact zk (K:=λv=>v=pj (X*Y)/\Ok h h7) (yl _) ⟨rfl,(s.trans o.ok).trans R⟩
end Go.Proofs.YtaaichlgdgjgjaaGreatDoor
end
section
namespace Go.Proofs.YtaaichlgdgjgjaaGreatDoor
open Go Go.Ab Go.Num
variable{h:ae}{k:Nat}{b:Bool}{s:List UInt8}{t:List UInt8}{g:ae}{v:Value}
def rk:dV:= .cells [.bool false,strOf [],strOf []] 155 0 true
theorem vT:br SS.P 155=some (rk,lk):=by kernel_rfl
theorem aar(neg:Bool)(n d:List UInt8):bd SS.P 155 [(0,(.bool neg)),(1,(strOf n)),(2,(strOf d))]=some (.agg ⟨[.bool neg,strOf n,strOf d]⟩):=by kernel_rfl
theorem qw:bd SS.P 155 []=some (.agg ⟨[.bool false,strOf [],strOf []]⟩):=by kernel_rfl
theorem Ww:aG SS.P 155=some 3:=by kernel_rfl
theorem acq:Go.Ab.isAgg SS.P 155=true:=by kernel_rfl
noncomputable def ab5:TypeDesc:=(SS.P.underlying 155).getD .bool
theorem adZ:SS.P.underlying 155=some ab5:=by kernel_rfl
theorem Wj{cs0:List Value}(a:cs0.length=3)(e:h.get k=some (.cells cs0 155 0 true))(b:Bool)(n d:List UInt8):ah SS.P 155 (.pointer (some ⟨k,0,none⟩)) (.agg ⟨[.bool b,strOf n,strOf d]⟩) h=some (undef,.set k (.cells [.bool b,strOf n,strOf d] 155 0 true)):=by
 unfold ah;dsimp only;rw[if_pos (show aG SS.P 155=some ((Value.agg ⟨[.bool b,strOf n,strOf d]⟩).cells).size from Ww)];unfold storeAt;rw[e];dsimp only;have c:([.bool b,strOf n,strOf d]:List Value).all dQ=true:=rfl;rw[show(Value.agg ⟨[.bool b,strOf n,strOf d]⟩).cells.toList=[.bool b,strOf n,strOf d]from rfl,if_pos ⟨by simp[a],c⟩,List.drop_eq_nil_of_le (by simp[a])];rfl
theorem Kh(a:h.get k=some (.cells [.bool b,strOf s,strOf t] 155 0 true)):aj SS.P 155 h (.pointer (some ⟨k,0,none⟩))=some (.agg ⟨[.bool b,strOf s,strOf t]⟩):=pk adZ acq Ww a (by simp)
theorem fw(l:List UInt8)(h:ae):FW SS 142 [strOf l,.int .i64 0] h (λv a=>v=strOf l/\a=h):=
 Nl l 0 h _ (aa (λg=>by cases g) (λ_=>⟨rfl,rfl⟩))
theorem DY(s:Bool)(A:Nat)(t:Bool)(B:Nat)(i:A<10^800)(e:B<10^800){h:ae}(f:nW h)(w:Wf h):FW SS 141 [.bool s,strOf (ag A),.bool t,strOf (ag B)] h (λv m=>v=Bj s A t B/\Ok h m):=by
 refine Nm s _ t _ h _ (aa (λg=>?_) (λg=>?_))
 ·have g:s=t:=by simpa using g
  refine(QM _ _ f w).mono ?_;rintro _ k ⟨rfl,a⟩;rw[Jv i e];refine⟨_,_,rfl,(fw _ _).mono ?_⟩;rintro _ _ ⟨rfl,rfl⟩;refine⟨_,rfl,?_,a⟩;unfold Bj dI;rw[if_pos g]
 ·have g:¬s=t:=by simpa using g
  refine(QO _ _ f w).mono ?_;rintro _ k ⟨rfl,a⟩;rw[JL i e];refine⟨_,rfl,aa (λd=>?_) (λd=>?_)⟩
  ·have d:=dT d;have b:A<B:=xY.1 (by omega);refine(Gj _ _ (f.ok a) a.wf).mono ?_;rintro _ l ⟨rfl,j⟩;rw[zh e i (le_of_lt b)];refine⟨_,_,rfl,(fw _ _).mono ?_⟩;rintro _ _ ⟨rfl,rfl⟩;refine⟨_,rfl,?_,a.trans j⟩;unfold Bj dI;rw[if_neg g,if_pos b]
  ·have d:=dF d;have b:¬A<B:=λc=>by have:=xY.2 c;omega
   refine(Gj _ _ (f.ok a) a.wf).mono ?_;rintro _ l ⟨rfl,j⟩;rw[zh i e (Nat.not_lt.1 b)];refine⟨_,_,rfl,(fw _ _).mono ?_⟩;rintro _ _ ⟨rfl,rfl⟩;refine⟨_,rfl,?_,a.trans j⟩;unfold Bj dI;rw[if_neg g,if_neg b]
def sj(b:Bool)(n d:List UInt8):Value:= .agg ⟨[.bool b,strOf n,strOf d]⟩
def su(l:List UInt8):Value:=if aA l=true then .tuple ⟨[sj (Num.isNeg l) (Num.numOf l) (ak l),.bool true]⟩else .tuple ⟨[sj false [] [],.bool false]⟩
def uZ(b:Bool)(n d:List UInt8):Value:= .tuple ⟨[sj b n d,.bool true]⟩
def uh:Value:= .tuple ⟨[sj false [] [],.bool false]⟩
structure LP(h0:ae)(k:Nat)(g:ae):Prop where
 row:∃cs0:List Value,cs0.length=3/\g.get k=some (.cells cs0 155 0 true)
 new:h0.next<=k
 ok:Ok h0 g
theorem LP.trans{a:ae}(m:LP h k g)(o:Ok g a):LP h k a:=by
 obtain⟨⟨cs,c,d⟩,b,e⟩:=m;exact⟨⟨cs,c,o.ext _ _ d⟩,b,e.trans o⟩
theorem Kw(w:Wf h){k:Nat}{g:ae}(m:LP h k g)(b:Bool)(n d:List UInt8)(a:Bool){Q:VH}(j:∀c,Ok h c->Q (.tuple ⟨[sj b n d,.bool a]⟩) c):
  ∃u:dP,ah SS.P 155 (.pointer (some ⟨k,0,none⟩)) (.agg ⟨[.bool b,strOf n,strOf d]⟩) g=some (undef,u)/\ef SS [(.pointer (some ⟨k,0,none⟩),some 155),(.bool a,none)] (u.app g) Q:=by
 obtain⟨⟨cs,i,e⟩,l,f⟩:=m;refine⟨_,Wj i e b n d,?_⟩;have o:Ok h ((dP.set k (.cells [.bool b,strOf n,strOf d] 155 0 true)).app g):=f.set _ l (f.wf _ _ e) w;have p:((dP.set k (.cells [.bool b,strOf n,strOf d] 155 0 true)).app g).get k=some (.cells [.bool b,strOf n,strOf d] 155 0 true):=by
  show(g.set k _).get k=_;rw[ae.aw,if_pos rfl]
 refine ye (v:=sj b n d) (Kh p) ?_;exact j _ o
def Zj(n d:List UInt8)(neg a:Bool):Prop:=Num.valid n=true/\Num.valid d=true/\n.length<=400/\d.length<=400/\¬(neg=true/\n=[48])/\¬(a=true/\(d=[48]\/d=[49]))/\Nat.gcd (Num.val n) (Num.val d)=1
theorem ng(w:Wf h){k:Nat}{g:ae}(m:LP h k g){C:Prop}(a:¬C){G:Value}:
  ∃u:dP,ah SS.P 155 (.pointer (some ⟨k,0,none⟩)) (.agg ⟨[.bool false,strOf [],strOf []]⟩) g=some (undef,u)/\ef SS [(.pointer (some ⟨k,0,none⟩),some 155),(.bool false,none)] (u.app g) (pv h C G uh):=
 Kw w m false [] [] false (λ_ o=>ka o a)
theorem OV(n d:List UInt8)(neg h:Bool)(k:Nat){h0 g:ae}(w:Wf h0)(m:LP h0 k g)(tb:nW g){x0 x1 x3 x4 x9 z2 z4 J y8 X z9 u5 y7 z8 z6 K F C W Z u8 z1 x7 S z0 y2 O u3 v B u N u6 u2 M E A I x2 z y z5 u7 u1 x8 u0 y1 H x z3 s z7 y3 y5 L y9 G V x5 R D P T y0 Q U x6 u4 y4 y6 Y t:Value}:
  TT SS al [1,1,1,1] [x0,x1,.pointer (some ⟨k,0,none⟩),x3,x4,.bool neg,strOf n,strOf d,.bool h,x9,z2,z4,J,y8,X,z9,u5,y7,z8,z6,K,F,C,W,Z,u8,z1,x7,S,z0,y2,O,u3,v,B,u,N,u6,u2,M,E,A,I,x2,z,y,z5,u7,u1,x8,u0,y1,H,x,z3,s,z7,y3,y5,L,y9,G,V,x5,R,D,P,T,y0,Q,U,x6,u4,y4,y6,Y,t] g (EE SS al (pv h0 (Zj n d neg h) (uZ neg n d) uh)):=by
 refine DU ((dJ n g).mono ?_);rintro _ g0 ⟨rfl,e0⟩;obtain rfl:g=g0:=e0.symm;refine⟨_,rfl,aa (λl=>⟨_,qw,ng w m (λc=>?_)⟩) (λl=>?_)⟩
 ·rw[c.1]at l;cases l
 have l:Num.valid n=true:=by simpa using l
 refine(dJ d g).mono ?_;rintro _ g0 ⟨rfl,e0⟩;obtain rfl:g=g0:=e0.symm;refine⟨_,rfl,aa (λi=>⟨_,qw,ng w m (λc=>?_)⟩) (λi=>?_)⟩
 ·rw[c.2.1]at i;cases i
 have i:Num.valid d=true:=by simpa using i
 refine aa (λq=>⟨_,qw,ng w m (λc=>?_)⟩) (λq=>?_)
 ·have:=c.2.2.1;have q:=dT q;omega
 have q:n.length<=400:=by have q:=dF q;omega
 refine aa (λj=>⟨_,qw,ng w m (λc=>?_)⟩) (λj=>?_)
 ·have:=c.2.2.2.1;have j:=dT j;omega
 have j:d.length<=400:=by have j:=dF j;omega
 have r:¬(neg=true/\n=[48])->¬(h=true/\(d=[48]\/d=[49]))->∀{x0 x1 x3 x4 x9 z2 z4 J y8 X z9 u5 y7 z8 z6 K F C W Z u8 z1 x7 S z0 y2 O u3 v B u N u6 u2 M E A I x2 z y z5 u7 u1 x8 u0 y1 H x z3 s z7 y3 y5 L y9 G V x5 R D P T y0 Q U x6 u4 y4 y6 Y t:Value},TT SS al [1,1,1,1,1,1] [x0,x1,.pointer (some ⟨k,0,none⟩),x3,x4,.bool neg,strOf n,strOf d,.bool h,x9,z2,z4,J,y8,X,z9,u5,y7,z8,z6,K,F,C,W,Z,u8,z1,x7,S,z0,y2,O,u3,v,B,u,N,u6,u2,M,E,A,I,x2,z,y,z5,u7,u1,x8,u0,y1,H,x,z3,s,z7,y3,y5,L,y9,G,V,x5,R,D,P,T,y0,Q,U,x6,u4,y4,y6,Y,t] g (EE SS al (pv h0 (Zj n d neg h) (uZ neg n d) uh)):=by
  intro p c6;intros;refine DW ((Gi n d tb m.ok.wf).mono ?_);rintro _ h1 ⟨rfl,o1⟩;have m1:=m.trans o1;rw[yh l i];refine⟨_,_,rfl,aa (λe=>by cases e) (λ_=>?_)⟩;refine aa (λe=>⟨_,qw,ng w m1 (λc=>?_)⟩) (λe=>?_)
  ·have e:¬ag (Nat.gcd (Num.val n) (Num.val d))=[49]:=by simpa using e
   exact e (ej.2 c.2.2.2.2.2.2)
  ·have e:ag (Nat.gcd (Num.val n) (Num.val d))=[49]:=by simpa using e
   refine DX ⟨_,aar neg n d,Kw w m1 neg n d true (λ_ o=>wW o ?_)⟩;exact⟨l,i,q,j,p,c6,ej.1 e⟩
 refine DV (aa (λg5=>aa (λg6=>⟨_,qw,ng w m (λc=>?_)⟩) (λg6=>?_)) (λg5=>?_))
 ·exact c.2.2.2.2.1 ⟨g5,by simpa using g6⟩
 ·have p:¬(neg=true/\n=[48]):=λc=>by
   have:¬n=[48]:=by simpa using g6
   exact this c.2
  refine aa (λb=>aa (λa=>⟨_,qw,ng w m (λc=>?_)⟩) (λa=>aa (λf=>⟨_,qw,ng w m (λc=>?_)⟩) (λf=>?_))) (λb=>?_)
  ·exact c.2.2.2.2.2.1 ⟨b,.inl (by simpa using a)⟩
  ·exact c.2.2.2.2.2.1 ⟨b,.inr (by simpa using f)⟩
  ·refine r p (λc=>?_);have a:¬d=[48]:=by simpa using a
   have f:¬d=[49]:=by simpa using f
   exact c.2.elim a f
  ·exact r p (λc=>by rw[c.1]at b;cases b)
 ·have p:¬(neg=true/\n=[48]):=λc=>by rw[c.1]at g5;cases g5
  refine aa (λb=>aa (λa=>⟨_,qw,ng w m (λc=>?_)⟩) (λa=>aa (λf=>⟨_,qw,ng w m (λc=>?_)⟩) (λf=>?_))) (λb=>?_)
  ·exact c.2.2.2.2.2.1 ⟨b,.inl (by simpa using a)⟩
  ·exact c.2.2.2.2.2.1 ⟨b,.inr (by simpa using f)⟩
  ·refine r p (λc=>?_);have a:¬d=[48]:=by simpa using a
   have f:¬d=[49]:=by simpa using f
   exact c.2.elim a f
  ·exact r p (λc=>by rw[c.1]at b;cases b)
theorem Ib(q:pv h (Zj (Num.numOf s) (ak s) (Num.isNeg s) (bm s)) (uZ (Num.isNeg s) (Num.numOf s) (ak s)) uh v g):v=su s/\Ok h g:=by
 obtain⟨o,d,b⟩:=q;refine⟨?_,o⟩;unfold su;by_cases a:aA s=true
 ·rw[if_pos a];have r:=aZ.1 a;exact d ⟨r.num,r.den,r.ln,r.ld,r.neg,r.fr,r.one⟩
 ·rw[if_neg a];exact b λc=>a (aZ.2 ⟨c.1,c.2.1,c.2.2.1,c.2.2.2.1,c.2.2.2.2.1,c.2.2.2.2.2.1,c.2.2.2.2.2.2⟩)
theorem nw(l:List UInt8)(m:l.length<=1000000000){h:ae}(o:nW h)(w:Wf h):FW SS 145 [strOf l] h (λv n=>v=su l/\Ok h n):=by
 refine FW.mono (Q:=pv h (Zj (Num.numOf l) (ak l) (Num.isNeg l) (bm l)) (uZ (Num.isNeg l) (Num.numOf l) (ak l)) uh) ?_ (λ_ _ q=>Ib q);have f:LP h h.next (h.push rk):=⟨⟨_,rfl,by rw[ae.bt,if_pos rfl];rfl⟩,Nat.le_refl _,(Ok.refl w).push _⟩
 refine KO l h _ ⟨_,vT,(Qc l _).mono ?_⟩;rintro _ r ⟨rfl,rfl⟩;have j:(bk l).length<=1000000000:=by
  unfold bk;split
  ·rw[length_drop];omega
  ·exact m
 refine⟨_,_,rfl,(abo _ j f.ok.wf).mono ?_⟩;rintro _ p ⟨rfl,i⟩;have c:=f.trans i;have g:=o.ok c.ok;unfold Qd;by_cases b:cJ 47 (bk l)<(bk l).length
 ·rw[if_pos b];have a:bm l=true:=decide_eq_true b;have d:ak l=(bk l).drop (cJ 47 (bk l)+1):=by unfold ak;rw[if_pos a]
  rw[a];refine⟨_,_,_,rfl,aa (λe=>by cases e) (λ_=>?_)⟩;rw[<-d];exact OV _ _ _ true _ w c g
 ·rw[if_neg b];have a:bm l=false:=decide_eq_false b;have d:ak l=[49]:=by unfold ak;rw[a];rfl
  have k:Num.numOf l=bk l:=by unfold Num.numOf;rw[take_of_length_le (by omega)]
  rw[a,k,d];refine⟨_,_,_,rfl,aa (λ_=>?_) (λe=>by cases e)⟩;exact OV _ _ _ false _ w c g
theorem M8(l:List UInt8):∃(cs:List Value)(b:Bool),su l = .tuple ⟨[.agg ⟨cs⟩,.bool b]⟩/\b=aA l:=by
 unfold su
 cases g:aA l with
 |true=>exact⟨_,_,rfl,rfl⟩
 |false=>exact⟨_,_,rfl,rfl⟩
theorem qc(l:List UInt8)(c:l.length<=1000000000){h:ae}(f:nW h)(w:Wf h):FW SS 109 [strOf l] h (λv d=>v = .bool (aA l)/\Ok h d):=by
 refine KP l h _ ((nw l c f w).mono ?_);rintro _ i ⟨rfl,a⟩;obtain⟨cs,b,e,g⟩:=M8 l;exact⟨cs,b,e,by rw[g],a⟩
theorem rV(k:Nat):aE SS.P 155 (.pointer (some ⟨k,0,none⟩)) 0=some (.pointer (some ⟨k,0,none⟩)):=by kernel_rfl
theorem pU(k:Nat):aE SS.P 155 (.pointer (some ⟨k,0,none⟩)) 1=some (.pointer (some ⟨k,1,none⟩)):=by kernel_rfl
theorem lX(k:Nat):aE SS.P 155 (.pointer (some ⟨k,0,none⟩)) 2=some (.pointer (some ⟨k,2,none⟩)):=by kernel_rfl
theorem un4:SS.P.underlying 4=some .bool:=Tryz.underlying4
theorem ag4:Go.Ab.isAgg SS.P 4=false:=by kernel_rfl
theorem Su:Go.Ab.isAgg SS.P 9=false:=by kernel_rfl
def jt(g:ae)(k:Nat)(b:Bool)(n d:List UInt8):Prop:=g.get k=some (.cells [.bool b,strOf n,strOf d] 155 0 true)
theorem jt.ok(x:jt h k b s t)(o:Ok h g):jt g k b s t:=o.ext _ _ x
theorem jt.l0(x:jt h k b s t):aj SS.P 4 h (.pointer (some ⟨k,0,none⟩))=some (.bool b):=cq un4 ag4 x (by simp)
theorem jt.l1(x:jt h k b s t):aj SS.P 9 h (.pointer (some ⟨k,1,none⟩))=some (strOf s):=cq LJ Su x (by simp)
theorem jt.l2(x:jt h k b s t):aj SS.P 9 h (.pointer (some ⟨k,2,none⟩))=some (strOf t):=cq LJ Su x (by simp)
theorem DQ(w:Wf h)(b:Bool)(n d:List UInt8):∃u:dP,ah SS.P 155 (.pointer (some ⟨h.next,0,none⟩)) (.agg ⟨[.bool b,strOf n,strOf d]⟩) (h.push rk)=some (undef,u)/\Ok h (u.app (h.push rk))/\jt (u.app (h.push rk)) h.next b n d:=by
 have a:(h.push rk).get h.next=some rk:=by rw[ae.bt,if_pos rfl]
 refine⟨_,Wj (cs0:=[.bool false,strOf [],strOf []]) rfl a b n d,?_,?_⟩
 ·exact((Ok.refl w).push _).set _ (Nat.le_refl _) (Nat.lt_succ_self _) w
 ·show((h.push rk).set h.next _).get h.next=_;rw[ae.aw,if_pos rfl]
theorem Gn(l:List UInt8):∃(b:Bool)(n d:List UInt8),su l = .tuple ⟨[.agg ⟨[.bool b,strOf n,strOf d]⟩,.bool (aA l)]⟩/\(aA l=true->b=Num.isNeg l/\n=Num.numOf l/\d=ak l):=by
 unfold su
 cases g:aA l with
 |true=>exact⟨_,_,_,rfl,λ_=>⟨rfl,rfl,rfl⟩⟩
 |false=>exact⟨_,_,_,rfl,λe=>by cases e⟩
theorem jq(b:Bool):dG 4 (.bool b) (.bool b)=true:=by simp[dG]
theorem kQ(l:List UInt8):dG 4 (strOf l) (strOf l)=true:=by simp[dG,strOf]
theorem Gu(l m:List UInt8)(S:l.length<=1000000000)(N:m.length<=1000000000){h:ae}(s:nW h)(w:Wf h):FW SS 149 [strOf l,strOf m] h (λv X=>v = .int .i64 (da l m)/\Ok h X):=by
 refine Ri l m h _ ((nw l S s w).mono ?_);rintro _ K ⟨rfl,F⟩;obtain⟨b,n,d,O,f1⟩:=Gn l;obtain⟨I,s1,Y,Q⟩:=DQ F.wf b n d;refine⟨_,_,O,_,vT,I,s1,?_⟩;have r:=F.trans Y;generalize I.app (K.push rk)=g1 at*;refine(nw m N (s.ok r) r.wf).mono ?_;rintro _ L ⟨rfl,C⟩;obtain⟨Z,W,U,e2,f2⟩:=Gn m;obtain⟨E,P,J,g⟩:=DQ C.wf Z W U;refine⟨_,_,e2,_,vT,E,P,?_⟩;have f:=(r.trans C).trans J;have i:=(Q.ok C).ok J;generalize E.app (L.push rk)=H at*;generalize K.next=k1 at*;generalize L.next=k2 at*;refine aa (λq=>⟨?_,f⟩) (λq=>aa (λa=>⟨?_,f⟩) (λa=>?_))
 ·have q:aA l=false:=by simpa using q
  unfold da;rw[if_neg (λc=>by rw[c.1]at q;cases q)]
 ·have a:aA m=false:=by simpa using a
  unfold da;rw[if_neg (λc=>by rw[c.2]at a;cases a)]
 have q:aA l=true:=by simpa using q
 have a:aA m=true:=by simpa using a
 obtain⟨rfl,rfl,rfl⟩:=f1 q;obtain⟨rfl,rfl,rfl⟩:=f2 a;have j:=aZ.1 q;have k:=aZ.1 a;have o:Ok H (Go.Ab.room H 27):=(Ok.refl f.wf).room 27;refine⟨_,rV _,_,(i.ok o).l0,_,pU _,_,(i.ok o).l1,_,lX _,_,(g.ok o).l2,?_⟩;have y:=f.trans o;refine(mL _ _ (s.ok y) y.wf).mono ?_;rintro _ R ⟨rfl,o3⟩;rw[(dh j.num k.den j.ln k.ld).1];refine⟨_,_,rfl,(fw _ _).mono ?_⟩;rintro _ G ⟨rfl,D⟩;obtain rfl:R=G:=D.symm;have e:=o.trans o3;refine⟨_,rfl,_,rV _,_,(g.ok e).l0,_,pU _,_,(g.ok e).l1,_,lX _,_,(i.ok e).l2,?_⟩;have A:=f.trans e;refine(mL _ _ (s.ok A) A.wf).mono ?_;rintro _ h4 ⟨rfl,T⟩;rw[(dh k.num j.den k.ln j.ld).1];refine⟨_,_,rfl,(fw _ _).mono ?_⟩;rintro _ M ⟨rfl,D⟩;obtain rfl:h4=M:=D.symm;have t:=e.trans T;have x:=f.trans t;refine⟨_,rfl,(DY _ _ _ _ (dh j.num k.den j.ln k.ld).2 (dh k.num j.den k.ln j.ld).2 (s.ok x) x.wf).mono ?_⟩;rintro _ h5 ⟨rfl,V⟩;have u:=x.trans V;refine⟨_,_,rfl,⟨(i.ok e).l0,jq _⟩,⟨(i.ok e).l0,jq _⟩,⟨(i.ok t).l0,jq _⟩,⟨(i.ok t).l0,jq _⟩,⟨(g.ok o).l0,jq _⟩,⟨(g.ok e).l0,jq _⟩,⟨(g.ok t).l0,jq _⟩,⟨(g.ok t).l0,jq _⟩,⟨(g.ok o).l1,kQ _⟩,⟨(g.ok e).l1,kQ _⟩,⟨(i.ok o).l2,kQ _⟩,⟨(i.ok e).l2,kQ _⟩,?_⟩;unfold da;rw[if_pos ⟨q,a⟩];generalize dI _ _ _ _=z;refine aa (λp=>⟨?_,u⟩) (λp=>?_)
 ·have p:ag z.2=[48]:=by simpa using p
  rw[if_pos (bL.1 p)]
 ·have p:¬ag z.2=[48]:=by simpa using p
  rw[if_neg (λc=>p (bL.2 c))];refine aa (λB=>⟨?_,u⟩) (λB=>⟨?_,u⟩)
  ·rw[if_pos B]
  ·rw[if_neg (by rw[B];simp)]
noncomputable def NC:FD:=cF Tryz.f93 []
theorem K8  (h:ae) (Q:VH) (g:xN (br SS.P 119) h λ_ f=>xA (bd SS.P 99 [(0,(strOf [105,110,102])),(1,(strOf [48])),(2,(.bool true)),(3,(.func (.func 106) ⟨[]⟩ ⟨[]⟩)),(4,(.func (.func 107) ⟨[]⟩ ⟨[]⟩)),(5,(.func (.func 108) ⟨[]⟩ ⟨[]⟩)),(6,(.func (.func 109) ⟨[]⟩ ⟨[]⟩)),(7,(.func (.func 109) ⟨[]⟩ ⟨[]⟩))]) λe=>xA (bd SS.P 99 [(0,(strOf [48])),(1,(strOf [49])),(2,(.bool false)),(3,(.func (.func 110) ⟨[]⟩ ⟨[]⟩)),(4,(.func (.func 111) ⟨[]⟩ ⟨[]⟩)),(5,(.func (.func 112) ⟨[]⟩ ⟨[]⟩)),(6,(.func (.func 113) ⟨[]⟩ ⟨[]⟩)),(7,(.func (.func 114) ⟨[]⟩ ⟨[]⟩))]) λd=>xA (bd SS.P 99 [(0,(strOf [48])),(1,(strOf [49])),(2,(.bool false)),(3,(.func (.func 106) ⟨[]⟩ ⟨[]⟩)),(4,(.func (.func 111) ⟨[]⟩ ⟨[]⟩)),(5,(.func (.func 115) ⟨[]⟩ ⟨[]⟩)),(6,(.func (.func 113) ⟨[]⟩ ⟨[]⟩)),(7,(.func (.func 114) ⟨[]⟩ ⟨[]⟩))]) λc=>xA (bd SS.P 119 [(1,(.agg ⟨e⟩)),(2,(.agg ⟨d⟩)),(3,(.agg ⟨c⟩))]) λb=>xU (ah SS.P 119 (pA (h.next)) (.agg ⟨b⟩) f) f λ_ a=>ef SS [((pA (h.next)),some 119)] a Q):FW SS 93 [] h Q:=cI NC Tryz.func93 (ai g)
noncomputable def Zy:FD:=cF Tryz.f69 []
theorem V0(g:Int)(h:ae)(Q:VH)(i:xN (br SS.P 99) h λ_ f=>au (decide ((g:Int)<1)) (xA (bd SS.P 99 []) λb=>xU (ah SS.P 99 (pA (h.next)) (.agg ⟨b⟩) f) f λ_ a=>ef SS [((pA (h.next)),some 99),((.bool false),none)] a Q) (au (decide ((g:Int)>3)) (xA (bd SS.P 99 []) λb=>xU (ah SS.P 99 (pA (h.next)) (.agg ⟨b⟩) f) f λ_ a=>ef SS [((pA (h.next)),some 99),((.bool false),none)] a Q) (FW SS 93 [] f λd e=>yA d λc=>xA (bP SS.P 119 (.agg ⟨c⟩) (.int .i64 g)) λb=>xU (ah SS.P 99 (pA (h.next)) (.agg ⟨b⟩) e) e λ_ a=>ef SS [((pA (h.next)),some 99),((.bool true),none)] a Q))):FW SS 69 [(.int .i64 g)] h Q:=cI Zy Tryz.func69 (ai i)
noncomputable def Fv:FD:=cF Tryz.f114 []
theorem D9(l:LB)(h:ae)(Q:VH)(g:FW SS 109 [(strOf l)] h λe f=>yB e λd=>au d (FW SS 149 [(strOf l),(strOf [48])] f λb c=>yI .i64 b λa=>Q (.bool (decide ((a:Int)>0))) c) (Q (.bool false) f)):FW SS 114 [(strOf l)] h Q:=cI Fv Tryz.func114 (ai g)
noncomputable def Lc:FD:=cF Tryz.f41 []
theorem Iw(o:Int)(l:LB)(h:ae)(Q:VH)(p:FW SS 69 [(.int .i64 o)] h λm n=>∃k:LV,∃j:Bool,m=(.tuple ⟨[(.agg ⟨k⟩),(.bool j)]⟩)/\xN (br SS.P 99) n λ_ i=>xU (ah SS.P 99 (pA (n.next)) (.agg ⟨k⟩) i) i λ_ h=>au j (fP 99 (pA (n.next)) 7 λg=>xF (aj SS.P 97 h (.pointer (some g))) λd e f=>au (Nat.blt d YB) (FW SS d (e++[(strOf l)]++f) h λb c=>yB b λa=>Q (.bool a) c) False) (Q (.bool false) h)):FW SS 41 [(.int .i64 o),(strOf l)] h Q:=cI Lc Tryz.func41 (ai p)
noncomputable def Ns:FD:=cF Tryz.f14 []
theorem Bn(a:Int)(h:ae)(Q:VH)(b:au (decide ((a:Int)>=1)) (Q (.bool (decide ((a:Int)<=3))) h) (Q (.bool false) h)):FW SS 14 [(.int .i64 a)] h Q:=cI Ns Tryz.func14 (ai b)
noncomputable def KV:FD:=cF Tryz.f47 []
theorem Ip(j:Int)(l:LB)(h:ae)(Q:VH)(k:FW SS 14 [(.int .i64 j)] h λh i=>yB h λg=>au (!g) (Q (.bool false) i) (au ((l:LB)==[105,110,102]) (au ((l:LB)==[105,110,102]) (Q (.bool true) i) (Q (.bool (((j:Int)==1))) i)) (au ((l:LB)==[45,105,110,102]) (au ((l:LB)==[105,110,102]) (Q (.bool true) i) (Q (.bool (((j:Int)==1))) i)) (FW SS 71 [(strOf l)] i λe f=>yB e λd=>au d (au (((j:Int)==1)) (Q (.bool true) f) (FW SS 72 [(strOf l),(strOf [48])] f λb c=>yI .i64 b λa=>Q (.bool (decide ((a:Int)>=0))) c)) (Q (.bool false) f))))):FW SS 47 [(.int .i64 j),(strOf l)] h Q:=cI KV Tryz.func47 (ai k)
noncomputable def Iq:FD:=cF Tryz.f16 []
theorem Fp(d:Int)(l:LB)(h:ae)(Q:VH)(e:FW SS 47 [(.int .i64 d),(strOf l)] h λb c=>yB b λa=>au a (au (!((l:LB)==[105,110,102])) (au (!((l:LB)==[45,105,110,102])) (au (((d:Int)==1)) (Q (.bool true) c) (Q (.bool (!((l:LB)==[48]))) c)) (Q (.bool false) c)) (Q (.bool false) c)) (Q (.bool false) c)):FW SS 16 [(.int .i64 d),(strOf l)] h Q:=cI Iq Tryz.func16 (ai e)
end Go.Proofs.YtaaichlgdgjgjaaGreatDoor
end
