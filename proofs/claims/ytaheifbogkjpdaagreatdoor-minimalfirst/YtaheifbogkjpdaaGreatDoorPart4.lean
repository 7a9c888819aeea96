/- Laws and walks that the proof leans on (part 4): W3; P4; W4; P5; P6; W5 and others. No condition. -/
import Derived.Test.YtaheifbogkjpdaaGreatDoorPart3
set_option linter.unusedVariables false
set_option linter.unusedSimpArgs false
set_option maxRecDepth 100000
open List (all_eq_true append_assoc drop_of_length_le drop_zero getElem?_eq_none getElem?_map length_append length_drop length_replicate length_set length_take map_append map_drop map_take nil_append take_length take_take take_zero)
open Nat (add_zero div_lt_of_lt_mul le_max_left le_max_right le_of_lt lt_of_lt_of_le lt_or_ge max_le min_eq_left mod_lt mul_comm mul_le_mul mul_one mul_pos pow_add pow_le_pow_right pow_succ sub_zero zero_add zero_le zero_mul)
open Int (natCast_ediv natCast_emod toNat_natCast)
open Go.IntKind (wrap wrap_i64)
section
namespace Go.Proofs.YtaheifbogkjpdaaGreatDoor
open Go Go.Ab Go.Num
noncomputable def bH:FD:=dJ Tryz.f195 [([1,1,1,1,1,0,1,0,0],[0,1,7,8,9]),([1,1,1,1,1,0,1,0,0,1,0,0,1,1,0,0,0],[0,1,7,8,9,10]),([1,1,1,1,1,1,1,0,0,0],[0,1,7,8,11])]
abbrev ey(a b:LB)(k:Nat)(r:LB)(q:OA)(qn qc:Nat):LV:=[(strOf a),(strOf b),(.slice q qn qc),(strOf r),(iA k)]
abbrev ib(a b:LB)(k:Nat)(q:OA)(qn qc:Nat)(r:LB)(d:Int):LV:=[(strOf a),(strOf b),(.slice q qn qc),(strOf r),(iA k),(.int .u8 d)]
abbrev jE(a b r:LB)(q:OA)(qn qc:Nat)(z:Nat):LV:=[(strOf a),(strOf b),(.slice q qn qc),(strOf r),(iA z)]
theorem Lq(a b:LB)(h:aa)(Q:VH)(hx:FW SS 194 [(strOf a)] h λv1 h2=>yB v1 λb3=>aF (!b3) (Q (.tuple ⟨[(strOf []),(strOf []),(.int .i64 1)]⟩) h2) (FW SS 194 [(strOf b)] h2 λv4 h5=>yB v4 λb6=>aF (!b6) (Q (.tuple ⟨[(strOf []),(strOf []),(.int .i64 1)]⟩) h5) (aF ((b:LB)==[48]) (Q (.tuple ⟨[(strOf []),(strOf []),(.int .i64 4)]⟩) h5) (LL SS bH [1,1,1,1,1,0,1,0,0] (ey a b 0 ([48]) none 0 0) h5 (KK SS bH [1,1,1,1,1,0,1,0] [] (EE SS bH Q)))))):FW SS 195 [(strOf a),(strOf b)] h Q:=dM bH Tryz.func195 (au hx)
theorem tP(a b:LB)  (Inv:Nat->Nat->LB->OA->Nat->Nat->aa->Prop) (Q:VH) (step:∀(mz:Nat)(k:Nat)(r:LB)(q:OA)(qn qc:Nat)(zz:Nat->Value)(h:aa),Inv mz k r q qn qc h->aF (decide (((k:Int):Int)<((a:LB).length:Int))) (aF ((r:LB)==[48]) (xS (bt SS.P 9 (strOf a) (some (iA k)) (some (.int .i64 (wrap .i64 ((k:Int)+1)))) none h) λl7=>LL SS bH [1,1,1,1,1,0,1,0,0,1,0,0,1,1,0,0,0] (ib a b k q qn qc l7 48) h (KK SS bH [1,0,0,1,1,0,0] [1,1,1,1,1,0,1,0,0] (RR bH [1,1,1,1,1,0,1,0,0] (ui (ey a b) Inv) mz (KK SS bH [1,1,1,1,1,0,1,0] [] (EE SS bH Q))))) (xS (bt SS.P 9 (strOf a) (some (iA k)) (some (.int .i64 (wrap .i64 ((k:Int)+1)))) none h) λl8=>xS (ay SS.P .add 9 (strOf r) (strOf l8)) λl9=>LL SS bH [1,1,1,1,1,0,1,0,0,1,0,0,1,1,0,0,0] (ib a b k q qn qc l9 48) h (KK SS bH [1,0,0,1,1,0,0] [1,1,1,1,1,0,1,0,0] (RR bH [1,1,1,1,1,0,1,0,0] (ui (ey a b) Inv) mz (KK SS bH [1,1,1,1,1,0,1,0] [] (EE SS bH Q)))))) (LL SS bH [1,1,1,1,1,1,1,0,0,0] (jE a b r q qn qc 0) h (KK SS bH [1,1,1,1,1,1,1,0,0] [] (EE SS bH Q)))) (mz:Nat) {k:Nat} {r:LB} {q:OA} {qn qc:Nat} {h:aa} (hi:Inv mz k r q qn qc h):LL SS bH [1,1,1,1,1,0,1,0,0] (ey a b k r q qn qc) h (KK SS bH [1,1,1,1,1,0,1,0] [] (EE SS bH Q)):=
 zL (ey a b) Inv (λmz k r q qn qc zz h hi=>au (step mz k r q qn qc zz h hi)) mz hi
theorem tQ(a b:LB)(Inv:Nat->Nat->LB->OA->Nat->Nat->aa->Prop)(mz k:Nat)(q:OA)(qn qc:Nat)(Inv2:Nat->LB->Int->aa->Prop)(Q:VH)(step:∀(mz2:Nat) (r:LB) (d:Int) (zz:Nat->Value) (h:aa),Inv2 mz2 r d h->FW SS 200 [(strOf r),(strOf b)] h λv10 h11=>yI .i64 v10 λn12=>aF (decide ((n12:Int)>=0)) (FW SS 196 [(strOf r)] h11 λv13 h14=>yL v13 λa15 n16 c17=>FW SS 196 [(strOf b)] h14 λv18 h19=>yL v18 λa20 n21 c22=>FW SS 201 [(.slice a15 n16 c17),(.slice a20 n21 c22)] h19 λv23 h24=>yL v23 λa25 n26 c27=>FW SS 199 [(.slice a25 n26 c27)] h24 λv28 h29=>yS v28 λl30=>aH (re (ib a b k q qn qc) Inv2) mz2 [(strOf a),(strOf b),(.slice q qn qc),(strOf l30),(iA k),(.int .u8 (wrap .u8 (d+1)))] h29) (xR (aI SS.P 159 1 [(0,(.int .u8 d))]) h11 λB31 n32 c33 g34=>xE (aO SS.P 159 159 (.slice q qn qc) (sA (h11.next) n32 c33) g34) g34 λa35 n36 c37 u38 g39=>aH (ui (ey a b) Inv) mz [(strOf a),(strOf b),(.slice a35 n36 c37),(strOf r),(.int .i64 (wrap .i64 ((k:Int)+1)))] g39))(mz2:Nat){r:LB}{d:Int}{h:aa}(hi:Inv2 mz2 r d h):LL SS bH [1,1,1,1,1,0,1,0,0,1,0,0,1,1,0,0,0] (ib a b k q qn qc r d) h (KK SS bH [1,0,0,1,1,0,0] [1,1,1,1,1,0,1,0,0] (RR bH [1,1,1,1,1,0,1,0,0] (ui (ey a b) Inv) mz (KK SS bH [1,1,1,1,1,0,1,0] [] (EE SS bH Q)))):=
 ng (ib a b k q qn qc) Inv2 (λmz2 r d zz h hi=>au (step mz2 r d zz h hi)) mz2 hi
theorem tR(a b:LB)(r:LB)(q:OA)(qn qc:Nat)(Inv:Nat->Nat->aa->Prop)(Q:VH)(step:∀(mz:Nat) (z:Nat) (zz:Nat->Value) (h:aa),Inv mz z h->aF (decide (((z:Int):Int)<wrap .i64 ((qn:Int)-1))) (xP (af SS.P 159 (.slice q qn qc) (iA z)) λp40=>xI .u8 (ai SS.P 5 h (.pointer (some p40))) λn41=>aF (((n41:Int)==48)) (aH (iR (jE a b r q qn qc) Inv) mz [(strOf a),(strOf b),(.slice q qn qc),(strOf r),(.int .i64 (wrap .i64 ((z:Int)+1)))] h) (xL (bt SS.P 159 (.slice q qn qc) (some (iA z)) none none h) λa42 n43 c44=>xS (w6 SS.P 159 9 (.slice a42 n43 c44) h) λl45=>Q (.tuple ⟨[(strOf l45),(strOf r),(.int .i64 0)]⟩) h)) (xL (bt SS.P 159 (.slice q qn qc) (some (iA z)) none none h) λa46 n47 c48=>xS (w6 SS.P 159 9 (.slice a46 n47 c48) h) λl49=>Q (.tuple ⟨[(strOf l49),(strOf r),(.int .i64 0)]⟩) h))(mz:Nat){z:Nat}{h:aa}(hi:Inv mz z h):LL SS bH [1,1,1,1,1,1,1,0,0,0] (jE a b r q qn qc z) h (KK SS bH [1,1,1,1,1,1,1,0,0] [] (EE SS bH Q)):=
 dK (jE a b r q qn qc) Inv (λmz z zz h hi=>au (step mz z zz h hi)) mz hi
noncomputable def mi:FD:=dJ Tryz.f175 [([1,1,0,0,0],[0,1])]
abbrev jF  (x y:LB):LV:=[(strOf x),(strOf y)]
theorem Ls(a b:LB)(h:aa)(Q:VH)(hx:FW SS 194 [(strOf a)] h λv1 h2=>yB v1 λb3=>aF (!b3) (Q (.tuple ⟨[(strOf []),(.int .i64 1)]⟩) h2) (FW SS 194 [(strOf b)] h2 λv4 h5=>yB v4 λb6=>aF (!b6) (Q (.tuple ⟨[(strOf []),(.int .i64 1)]⟩) h5) (LL SS mi [1,1,0,0,0] (jF a b) h5 (KK SS mi [1,1,0,0] [] (EE SS mi Q))))):FW SS 175 [(strOf a),(strOf b)] h Q:=dM mi Tryz.func175 (au hx)
theorem tS(a b:LB)  (Inv:Nat->LB->LB->aa->Prop) (Q:VH) (step:∀(mz:Nat)(x y:LB)(zz:Nat->Value)(h:aa),Inv mz x y h->aF (!((y:LB)==[48])) (FW SS 195 [(strOf x),(strOf y)] h λv7 h8=>∃l9:LB,∃l10:LB,∃n11:Int,v7=(.tuple ⟨[(strOf l9),(strOf l10),(.int .i64 n11)]⟩)/\aH (re jF Inv) mz [(strOf y),(strOf l10)] h8) (Q (.tuple ⟨[(strOf x),(.int .i64 0)]⟩) h)) (mz:Nat) {x y:LB} {h:aa} (hi:Inv mz x y h):LL SS mi [1,1,0,0,0] (jF  x y) h (KK SS mi [1,1,0,0] [] (EE SS mi Q)):=
 ng jF Inv (λmz x y zz h hi=>au (step mz x y zz h hi)) mz hi
theorem OL(l:List UInt8){h:aa}{a b:Nat}(h1:a<=b)(h2:b<=l.length):bt SS.P 9 (strOf l) (some (.int .i64 (a:Int))) (some (.int .i64 (b:Int))) none h=some (strOf ((l.drop a).take (b-a))):=lD Ru l rfl rfl h1 h2
theorem NS{l:List UInt8}{k:Nat}(h:k<l.length):(l.drop k).take (k+1-k)=[l.getD k 0]:=by
 rw[BC h,show k+1-k=1 by omega];rfl
theorem eA{n:Nat}(h:n<10^1000):(aj n).length<=1000:=(dy (by omega)).2 h
theorem HM{l:List UInt8}{k:Nat}(h:k<l.length):l[k]?=some (l.getD k 0):=by
 rw[gD,gE h];rfl
def three(a b:List UInt8)(e:Int):Value:= .tuple ⟨[strOf a,strOf b,.int .i64 e]⟩
theorem Lr(m n:Nat)(hm:m<10^1000)(hn:n<10^1000)(hn0:0<n)(h:aa)(w:Wf h):FW SS 195 [strOf (aj m),strOf (aj n)] h (λv h'=>v=three (aj (m/n)) (aj (m%n)) 0/\Ok h h'):=by
 have hma:=eA hm;have hna:=eA hn;have hda:=cj m;generalize ha:aj m=a at*;have hva:Num.val a=m:=by rw[<-ha,bC]
 have hne:¬aj n=[48]:=λe=>by have:=cI.1 e;omega
 have L3:=λ(g0:aa) (r:List UInt8) (q:Option Addr) (qn qc:Nat) (qs:List UInt8) (ho:cZ h g0 5 (.slice q qn qc) (qs.map oT)) (hq:qs.all bm=true) (hq0:0<qs.length) (hql:qs.length<=1000) (hqv:Num.val qs=m/n) (hr:r=aj (m%n)) (ok:Ok h g0)=>
  tR a (aj n) r q qn qc (λmz z g=>z+1<=qs.length/\mz=qs.length-z/\(∀i,i<z->qs[i]?=some 48)/\g=g0) (λv h'=>v=three (aj (m/n)) (aj (m%n)) 0/\Ok h h') (by
  intro mz z;intros;rename_i g hi;obtain⟨h1,h2,h3,rfl⟩:=hi;have hqn:qn=qs.length:=by have:=ho.len;rwa[lM]at this
  have hw:wrap .i64 ((qn:Int)-1)=(qn:Int)-1:=aA (by omega) (by omega);have hw2:wrap .i64 ((z:Int)+1)=((z+1:Nat):Int):=by rw[aA (by omega) (by omega)];omega
  have fin:(z+1<qs.length->qs[z]?≠some 48)->∃(a40:Option Addr)(n41 c42:Nat),bt SS.P 159 (.slice q qn qc) (some (.int .i64 (z:Int))) none none g=some (.slice a40 n41 c42)/\∃l43:List UInt8,w6 SS.P 159 9 (.slice a40 n41 c42) g=some (strOf l43)/\(three l43 r 0=three (aj (m/n)) (aj (m%n)) 0/\Ok h g):=λhs=>by
   obtain⟨a',n',c',g1,g2⟩:=ho.from_ vY UR (z:=z) (by rw[lM];omega);rw[<-map_drop]at g2;refine⟨a',n',c',g1,_,JJ g2,?_,ok⟩;rw[Es hq (by omega) h3 hs,hqv,hr]
  rw[hw,hw2];refine ae (λh5=>?_) (λh5=>?_)
  ·have h5:=dT h5;obtain⟨p,g2,g3⟩:=ho.rd.at_ vY UR Zw Zx (k:= .i64) (i:=(z:Int)) (by omega) (by rw[lM];omega);have e1:(qs.map oT).getD ((z:Int)).toNat undef = .int .u8 ((qs.getD z 0).toNat:Nat):=by
    rw[toNat_natCast,gD,getElem?_map,HM (by omega)];rfl
   rw[e1]at g3;refine⟨p,g2,_,g3,ae (λh6=>?_) (λh6=>?_)⟩
   ·have h6:=Cu.1 h6;refine cH (mz-1) (by omega) ⟨by omega,by omega,λi hi=>?_,rfl⟩;rcases lt_or_ge i z with h7|h7
    ·exact h3 i h7
    ·obtain rfl:i=z:=by omega
     rw[HM (by omega),h6]
   ·exact fin λ_ e=>by
     rw[HM (by omega)]at e;rw[Cu.2 (oI e)]at h6;cases h6
  ·have h5:=dF h5;exact fin λhh=>by omega)
 have L1:=tP a (aj n) (λmz k r q qn qc g=>k<=a.length/\mz=a.length-k/\r=aj (Num.val (a.take k)%n)/\(∃qs:List UInt8,qs.length=k/\qs.all bm=true/\Num.val qs=Num.val (a.take k)/n/\cZ h g 5 (.slice q qn qc) (qs.map oT))/\Ok h g) (λv h'=>v=three (aj (m/n)) (aj (m%n)) 0/\Ok h h') (by
  intro mz k r q qn qc;intros;rename_i g hi;obtain⟨h1,h2,hr,⟨qs,hq1,hq2,hq3,ho⟩,ok⟩:=hi;refine ae (λh5=>?_) (λh5=>?_)
  ·have h5:=dT h5;have hin:k<a.length:=by omega
   have hdig:=yf hda hin;have hdv:=nn hdig;have hmod:=mod_lt (Num.val (a.take k)) hn0;have hw2:wrap .i64 ((k:Int)+1)=((k+1:Nat):Int):=by rw[aA (by omega) (by omega)];omega
   have htk:Num.val (a.take (k+1))=10*Num.val (a.take k)+gP (a.getD k 0):=oJ (HM hin);have hpush:=CE (r:=Num.val (a.take k)%n) hdig;have L2:=tQ a (aj n) (λmz k r q qn qc g=>k<=a.length/\mz=a.length-k/\r=aj (Num.val (a.take k)%n)/\(∃qs:List UInt8,qs.length=k/\qs.all bm=true/\Num.val qs=Num.val (a.take k)/n/\cZ h g 5 (.slice q qn qc) (qs.map oT))/\Ok h g) mz k q qn qc
    (λmz2 r d g2=>∃j:Nat,d=48+(j:Int)/\j*n<=10*(Num.val (a.take k)%n)+gP (a.getD k 0)/\r=aj (10*(Num.val (a.take k)%n)+gP (a.getD k 0)-j*n)/\mz2=10*(Num.val (a.take k)%n)+gP (a.getD k 0)-j*n/\Ok g g2) (λv h'=>v=three (aj (m/n)) (aj (m%n)) 0/\Ok h h') (by
    intro mz2 r2 d;intros;rename_i g2 hi2;obtain⟨j,rfl,hj1,rfl,hj2,ok2⟩:=hi2;have hj9:=El hn0 hdv hj1;generalize hR:10*(Num.val (a.take k)%n)+gP (a.getD k 0)=R at*;have hRl:(aj (R-j*n)).length<=1001:=by
     have h10:=lK n;refine Nat.le_trans ((dy (k:=(aj n).length+1) (by omega)).2 ?_) (by omega);rw[pow_succ];generalize 10^(aj n).length=T at h10;clear hn hm;omega
    have okg:=ok.trans ok2;refine(m4 (R-j*n) n (by omega) (by omega) g2 okg.wf).mono ?_;rintro _ g3 ⟨rfl,ok3⟩;refine⟨_,rfl,ae (λh6=>?_) (λh6=>?_)⟩
    ·have h6:=A7.1 (dT h6);refine(ob _ (cj _) (by omega) g3 ok3.wf).mono ?_;rintro _ g4 ⟨a1,n1,c1,rfl,o1,ok4⟩;refine⟨a1,n1,c1,rfl,(ob _ (cj _) (by omega) g4 ok4.wf).mono ?_⟩;rintro _ g5 ⟨a2,n2,c2,rfl,o2,ok5⟩;refine⟨a2,n2,c2,rfl,(zG (o1.rd.ok ok5) o2.rd (jK (cj _)) (jK (cj _)) (by rw[iX];omega) ok5.wf).mono ?_⟩;rintro _ g6 ⟨a3,n3,c3,rfl,o3,ok6⟩;refine⟨a3,n3,c3,rfl,(oc o3.rd (A9 (jK (cj _)) (jK (cj _)) _ _ _ (by omega)) (by rw[dx,iX];omega) ok6.wf).mono ?_⟩;rintro _ g7 ⟨rfl,ok7⟩;have hle:(aj n).length<=(aj (R-j*n)).length:=by
      rcases lt_or_ge (aj (R-j*n)).length (aj n).length with h7|h7
      ·have:=js h7;omega
      ·exact h7
     have hbv:=A8 (jK (cj (R-j*n))) (jK (cj n)) (by rw[iX,iX];exact hle) (by rw[eE,eE,bC,bC];exact h6);rw[eE,eE,bC,bC]at hbv;rw[hbv];refine⟨_,rfl,?_⟩;have hw3:wrap .u8 (48+(j:Int)+1)=48+((j+1:Nat):Int):=by rw[oE (by omega) (by omega)];omega
     rw[hw3];have e1:(j+1)*n=j*n+n:=Nat.succ_mul j n;exact iN (R-j*n-n) (by clear hn hm;omega) ⟨j+1,rfl,by rw[e1];clear hn hm;omega,by rw[e1,Nat.sub_sub],by rw[e1,Nat.sub_sub],((((ok2.trans ok3).trans ok4).trans ok5).trans ok6).trans ok7⟩
    ·have h6:¬(n<=R-j*n):=λe=>by have:=dF h6;exact this (A7.2 e)
     have hdr:=Em (V:=Num.val (a.take k)) (d:=gP (a.getD k 0)) hn0 (k:=j) (by rw[hR];exact hj1) (by rw[hR,Nat.succ_mul];clear hn hm;omega);rw[hR]at hdr;refine⟨_,_,_,RZ _,?_⟩;have okk:=ok.trans (ok2.trans ok3);obtain⟨b,mm,dd,u,g6,g7,g8,g9⟩:=JI w okk (ho.ok (ok2.trans ok3)) (48+(j:Int)) (by rw[lM];omega);refine⟨b,mm,dd,u,g6,?_⟩;rw[hw2];refine jw (mz-1) (by omega) ⟨by omega,by omega,?_,⟨qs++[dP j],by simp[hq1],?_,?_,?_⟩,g9⟩
     ·rw[htk,hdr.2]
     ·rw[List.all_append,hq2];simp[pg hj9]
     ·rw[fG,hq3,xQ hj9,htk,hdr.1]
     ·rw[map_append];have e1:oT (dP j) = .int .u8 (48+(j:Int)):=by
       unfold oT;rw[gT hj9];rfl
      show cZ h _ 5 _ (_++[oT (dP j)]);rw[e1];exact g8)
   have start:∀r',r'=aj (10*(Num.val (a.take k)%n)+gP (a.getD k 0))->∃j:Nat,(48:Int)=48+(j:Int)/\j*n<=10*(Num.val (a.take k)%n)+gP (a.getD k 0)/\r'=aj (10*(Num.val (a.take k)%n)+gP (a.getD k 0)-j*n)/\10*(Num.val (a.take k)%n)+gP (a.getD k 0)=10*(Num.val (a.take k)%n)+gP (a.getD k 0)-j*n/\Ok g g:=
    λr' e=>⟨0,rfl,by rw[zero_mul];exact zero_le _,by rw[zero_mul,sub_zero];exact e,by rw[zero_mul,sub_zero],Ok.refl ok.wf⟩
   rw[hw2];refine ae (λh6=>?_) (λh6=>?_)
   ·have h6:r=[48]:=by simpa using h6
    refine⟨_,OL a (by omega) (by omega),?_⟩;rw[NS hin];refine L2 _ (start _ ?_);rw[<-hpush,if_pos (by rw[<-hr];exact h6)]
   ·have h6:¬r=[48]:=by simpa using h6
    refine⟨_,OL a (by omega) (by omega),?_⟩;rw[NS hin];have hrl:r.length<=1000:=by
     rw[hr];exact eA (Nat.lt_trans hmod hn)
    refine⟨_,Pz r [a.getD k 0] (by simp;omega),?_⟩;refine L2 _ (start _ ?_);rw[<-hpush,if_neg (by rw[<-hr];exact h6),hr]
  ·have h5:=dF h5;obtain rfl:k=a.length:=by omega
   rw[take_length]at hq3 hr;rw[hva]at hq3 hr;have hal:0<a.length:=by rw[<-ha];exact kC m
   exact L3 g r q qn qc qs ho hq2 (by omega) (by omega) hq3 hr ok qs.length (z:=0) ⟨by omega,by omega,λi hi=>by omega,rfl⟩)
 refine Lq a (aj n) h _ ?_;refine(cU a h).mono ?_;rintro _ _ ⟨rfl,rfl⟩;have hv1:Num.valid a=true:=by rw[<-ha];exact j5.2 hm
 have hv2:Num.valid (aj n)=true:=j5.2 hn;refine⟨_,rfl,ae (λh6=>?_) (λh6=>?_)⟩
 ·rw[hv1]at h6;cases h6
 ·refine(cU (aj n) _).mono ?_;rintro _ _ ⟨rfl,rfl⟩;refine⟨_,rfl,ae (λh7=>?_) (λh7=>ae (λh8=>?_) (λh8=>?_))⟩
  ·rw[hv2]at h7;cases h7
  ·exact absurd (by simpa using h8) hne
  ·exact L1 a.length (k:=0) ⟨by omega,by omega,by rw[take_zero];simp[iw,kN],⟨[],rfl,rfl,by rw[take_zero];simp[iw],.inl ⟨rfl,rfl⟩⟩,Ok.refl w⟩
def Ak(a:List UInt8)(e:Int):Value:= .tuple ⟨[strOf a,.int .i64 e]⟩
def wB(a b:List UInt8):Value:=if Num.valid a=true/\Num.valid b=true then Ak (aj (Nat.gcd (Num.val a) (Num.val b))) 0 else Ak [] 1
theorem Lt(a b:List UInt8)(h:aa)(w:Wf h):FW SS 175 [strOf a,strOf b] h (λv h'=>v=wB a b/\Ok h h'):=by
 refine Ls a b h _ ?_;refine(cU a h).mono ?_;rintro _ _ ⟨rfl,rfl⟩;refine⟨_,rfl,ae (λh6=>?_) (λh6=>?_)⟩
 ·refine⟨?_,Ok.refl w⟩;unfold wB;rw[if_neg (λe=>by rw[e.1]at h6;cases h6)];rfl
 ·refine(cU b _).mono ?_;rintro _ _ ⟨rfl,rfl⟩;refine⟨_,rfl,ae (λh7=>?_) (λh7=>?_)⟩
  ·refine⟨?_,Ok.refl w⟩;unfold wB;rw[if_neg (λe=>by rw[e.2]at h7;cases h7)];rfl
  ·have hva:Num.valid a=true:=by simpa using h6
   have hvb:Num.valid b=true:=by simpa using h7
   obtain⟨m,rfl,hm,_⟩:=cP hva;obtain⟨n,rfl,hn,_⟩:=cP hvb;rename_i hh _ _;have L:=tS (aj m) (aj n) (λmz x y g=>∃p q:Nat,x=aj p/\y=aj q/\p<10^1000/\q<10^1000/\Nat.gcd p q=Nat.gcd m n/\mz=q/\Ok hh g) (λv h'=>v=wB (aj m) (aj n)/\Ok hh h') (by
    intro mz x y;intros;rename_i g hi;obtain⟨p,q,rfl,rfl,hp,hq,hg,rfl,ok⟩:=hi;refine ae (λh8=>?_) (λh8=>?_)
    ·have h8:¬aj mz=[48]:=by simpa using h8
     have hq0:0<mz:=Nat.pos_of_ne_zero λe=>h8 (cI.2 e);refine(Lr p mz hp hq hq0 g ok.wf).mono ?_;rintro _ g2 ⟨rfl,ok2⟩;refine⟨_,_,_,rfl,?_⟩;have hlt:=mod_lt p hq0;exact iN (p%mz) hlt ⟨mz,p%mz,rfl,rfl,hq,Nat.lt_trans hlt hq,by rw[<-G3];exact hg,rfl,ok.trans ok2⟩
    ·have h8:aj mz=[48]:=by simpa using h8
     have h0:=cI.1 h8;subst h0;refine⟨?_,ok⟩;unfold wB;rw[if_pos ⟨hva,hvb⟩,bC,bC,<-hg,Nat.gcd_zero_right];rfl)
   exact L n ⟨m,n,rfl,rfl,hm,hn,rfl,rfl,Ok.refl w⟩
noncomputable def jT:FD:=dJ Tryz.f139 [([1,0,0,0],[0])]
abbrev kG  (r:OA) (m d:Nat):LV:=[(.slice r m d)]
theorem zg(a:OA)(n c:Nat)(h:aa)(Q:VH)(hx:LL SS jT [1,0,0,0] [(.slice a n c)] h (KK SS jT [1,0,0] [] (EE SS jT Q))):FW SS 139 [(.slice a n c)] h Q:=dM jT Tryz.func139 (au hx)
theorem lZ(a:OA)(n c:Nat)  (Inv:Nat->OA->Nat->Nat->aa->Prop) (Q:VH) (step:∀(mz:Nat)(r:OA)(m d:Nat)(zz:Nat->Value)(h:aa),Inv mz r m d h->aF (decide (((m:Int):Int)>0)) (xP (af SS.P 150 (.slice r m d) (.int .i64 (wrap .i64 ((m:Int)-1)))) λp1=>xI .u64 (ai SS.P 117 h (.pointer (some p1))) λn2=>aF (((n2:Int)==0)) (xL (bt SS.P 150 (.slice r m d) none (some (.int .i64 (wrap .i64 ((m:Int)-1)))) none h) λa3 n4 c5=>aH (Sr kG Inv) mz [(.slice a3 n4 c5)] h) (Q (.slice r m d) h)) (Q (.slice r m d) h)) (mz:Nat) {r:OA} {m d:Nat} {h:aa} (hi:Inv mz r m d h):LL SS jT [1,0,0,0] (kG  r m d) h (KK SS jT [1,0,0] [] (EE SS jT Q)):=
 OC kG Inv (λmz r m d zz h hi=>au (step mz r m d zz h hi)) mz hi
noncomputable def bS:FD:=dJ Tryz.f137 [([1,1,0,0,0],[0,3]),([1,1,0,0,0,1,0,1,1,0,1,0,0],[0,3,4,5,6])]
abbrev eO  (s:LB) (r:OA) (rn rc:Nat):LV:=[(strOf s),(.slice r rn rc)]
abbrev gH(s:LB)(r:OA)(rn rc:Nat)(cut:Int)(i v:Int):LV:=[(strOf s),(.slice r rn rc),(.int .i64 cut),(.int .u64 v),(.int .i64 i)]
theorem Df(l:LB)(h:aa)(Q:VH)(hx:LL SS bS [1,1,0,0,0] [(strOf l),nA] h (KK SS bS [1,1,0,0] [] (EE SS bS Q))):FW SS 137 [(strOf l)] h Q:=dM bS Tryz.func137 (au hx)
theorem pG(l:LB)  (Inv:Nat->LB->OA->Nat->Nat->aa->Prop) (Q:VH) (step:∀(mz:Nat)(s:LB)(r:OA)(rn rc:Nat)(zz:Nat->Value)(h:aa),Inv mz s r rn rc h->aF (decide ((((s:LB).length:Int):Int)>0)) (xI .i64 (oV true [(.int .i64 0),(.int .i64 (wrap .i64 (((s:LB).length:Int)-9)))]) λn1=>LL SS bS [1,1,0,0,0,1,0,1,1,0,1,0,0] (gH s r rn rc n1 n1 0) h (KK SS bS [1,0,1,1,0,1,0] [1,1,0,0,0] (RR bS [1,1,0,0,0] (Ei eO Inv) mz (KK SS bS [1,1,0,0] [] (EE SS bS Q))))) (FW SS 139 [(.slice r rn rc)] h λv2 h3=>yL v2 λa4 n5 c6=>Q (.slice a4 n5 c6) h3)) (mz:Nat) {s:LB} {r:OA} {rn rc:Nat} {h:aa} (hi:Inv mz s r rn rc h):LL SS bS [1,1,0,0,0] (eO  s r rn rc) h (KK SS bS [1,1,0,0] [] (EE SS bS Q)):=
 Gm eO Inv (λmz s r rn rc zz h hi=>au (step mz s r rn rc zz h hi)) mz hi
theorem pH(l:LB)(Inv:Nat->LB->OA->Nat->Nat->aa->Prop)(mz:Nat)(s:LB)(r:OA)(rn rc:Nat)(cut:Int)(Inv2:Nat->Int->Int->aa->Prop)(Q:VH)(step:∀(mz2:Nat) (i v:Int) (zz:Nat->Value) (h:aa),Inv2 mz2 i v h->aF (decide ((i:Int)<((s:LB).length:Int))) (xI .u8 (bp SS.P 9 (strOf s) (.int .i64 i)) λn7=>aH (re (gH s r rn rc cut) Inv2) mz2 [(strOf s),(.slice r rn rc),(.int .i64 cut),(.int .u64 (wrap .u64 (wrap .u64 (10*v)+wrap .u64 (wrap .u8 (n7-48))))),(.int .i64 (wrap .i64 (i+1)))] h) (xR (aI SS.P 150 1 [(0,(.int .u64 v))]) h λB8 n9 cp HK=>xE (aO SS.P 150 150 (.slice r rn rc) (sA (h.next) n9 cp) HK) HK λa12 n13 cm UP g16=>xS (bt SS.P 9 (strOf s) none (some (.int .i64 cut)) none g16) λl17=>aH (Ei eO Inv) mz [(strOf l17),(.slice a12 n13 cm)] g16))(mz2:Nat){i v:Int}{h:aa}(hi:Inv2 mz2 i v h):LL SS bS [1,1,0,0,0,1,0,1,1,0,1,0,0] (gH s r rn rc cut i v) h (KK SS bS [1,0,1,1,0,1,0] [1,1,0,0,0] (RR bS [1,1,0,0,0] (Ei eO Inv) mz (KK SS bS [1,1,0,0] [] (EE SS bS Q)))):=
 ng (gH s r rn rc cut) Inv2 (λmz2 i v zz h hi=>au (step mz2 i v zz h hi)) mz2 hi
noncomputable def Tc:FD:=dJ Tryz.f204 []
theorem QW(x:Int)(h:aa)(Q:VH)(hx:Q (.bool (((x:Int) !=x))) h):FW SS 204 [(.int .u64 x)] h Q:=dM Tc Tryz.func204 (au hx)
noncomputable def SN:FD:=dJ Tryz.f184 []
theorem PT(x y:Int)(h:aa)(Q:VH)(hx:FW SS 204 [(.int .u64 x)] h λv1 h2=>yB v1 λb3=>FW SS 204 [(.int .u64 y)] h2 λv4 h5=>yB v4 λb6=>aF b3 (aF b6 (Q (.int .i64 0) h5) (Q (.int .i64 (-1)) h5)) (aF b6 (Q (.int .i64 1) h5) (aF (decide ((x:Int)<y)) (Q (.int .i64 (-1)) h5) (aF (decide ((x:Int)>y)) (Q (.int .i64 1) h5) (Q (.int .i64 0) h5))))):FW SS 184 [(.int .u64 x),(.int .u64 y)] h Q:=dM SN Tryz.func184 (au hx)
noncomputable def Tb:FD:=dJ Tryz.f117 []
theorem QV(x:Int)(h:aa)(Q:VH)(hx:Q (.bool (((x:Int) !=x))) h):FW SS 117 [(.int .i64 x)] h Q:=dM Tb Tryz.func117 (au hx)
noncomputable def SL:FD:=dJ Tryz.f72 []
theorem PR(x y:Int)(h:aa)(Q:VH)(hx:FW SS 117 [(.int .i64 x)] h λv1 h2=>yB v1 λb3=>FW SS 117 [(.int .i64 y)] h2 λv4 h5=>yB v4 λb6=>aF b3 (aF b6 (Q (.int .i64 0) h5) (Q (.int .i64 (-1)) h5)) (aF b6 (Q (.int .i64 1) h5) (aF (decide ((x:Int)<y)) (Q (.int .i64 (-1)) h5) (aF (decide ((x:Int)>y)) (Q (.int .i64 1) h5) (Q (.int .i64 0) h5))))):FW SS 72 [(.int .i64 x),(.int .i64 y)] h Q:=dM SL Tryz.func72 (au hx)
noncomputable def fK:FD:=dJ Tryz.f163 [([1,1,0,1,0,0],[0,1,18,19])]
abbrev fL(a:OA)(n c:Nat)(b:OA)(m d:Nat)(i:Nat):LV:=[(.slice a n c),(.slice b m d),(iA n),(iA i)]
theorem AP(a:OA)(n c:Nat)(b:OA)(m d:Nat)(h:aa)(Q:VH)(hx:aF ((((n:Int):Int) !=(m:Int))) (FW SS 72 [(iA n),(iA m)] h λv1 h2=>yI .i64 v1 λn3=>Q (.int .i64 n3) h2) (LL SS fK [1,1,0,1,0,0] (fL a n c b m d 0) h (KK SS fK [1,1,0,1,0] [] (EE SS fK Q)))):FW SS 163 [(.slice a n c),(.slice b m d)] h Q:=dM fK Tryz.func163 (au hx)
theorem oW(a:OA)(n c:Nat)(b:OA)(m d:Nat)  (Inv:Nat->Nat->aa->Prop) (Q:VH) (step:∀(mz:Nat)(i:Nat)(zz:Nat->Value)(h:aa),Inv mz i h->aF (decide (((i:Int):Int)<(n:Int))) (xP (af SS.P 150 (.slice a n c) (.int .i64 (wrap .i64 (wrap .i64 ((n:Int)-1)-(i:Int))))) λp4=>xI .u64 (ai SS.P 117 (room h 18) (.pointer (some p4))) λn5=>xP (af SS.P 150 (.slice b m d) (.int .i64 (wrap .i64 (wrap .i64 ((n:Int)-1)-(i:Int))))) λp6=>xI .u64 (ai SS.P 117 (room h 18) (.pointer (some p6))) λn7=>FW SS 184 [(.int .u64 n5),(.int .u64 n7)] (room h 18) λv8 h9=>yI .i64 v8 λn10=>aF (((n10:Int) !=0)) (Q (.int .i64 n10) h9) (aH (iR (fL a n c b m d) Inv) mz [(.slice a n c),(.slice b m d),(iA n),(.int .i64 (wrap .i64 ((i:Int)+1)))] h9)) (Q (.int .i64 0) h)) (mz:Nat) {i:Nat} {h:aa} (hi:Inv mz i h):LL SS fK [1,1,0,1,0,0] (fL a n c b m d i) h (KK SS fK [1,1,0,1,0] [] (EE SS fK Q)):=
 dK (fL a n c b m d) Inv (λmz i zz h hi=>au (step mz i zz h hi)) mz hi
noncomputable def Lz:FD:=dJ Tryz.f210 []
theorem It(x y z:Int)(p:OA)(h:aa)(Q:VH)(hx:xI .u64 (ai SS.P 117 h (.pointer p)) λn1=>xI .u64 (ay SS.P .rem 117 (.int .u64 (wrap .u64 (wrap .u64 (x*n1)+z))) (.int .u64 1000000000)) λn2=>xI .u64 (ay SS.P .quo 117 (.int .u64 (wrap .u64 (wrap .u64 (x*n1)+z))) (.int .u64 1000000000)) λn3=>Q (.tuple ⟨[(.int .u64 n2),(.int .u64 n3)]⟩) h):FW SS 210 [(.int .u64 x),(.int .u64 y),(.int .u64 z),(.pointer p)] h Q:=dM Lz Tryz.func210 (au hx)
noncomputable def fI:FD:=dJ Tryz.f182 [([1,1,1,0,1,0,0],[0,1,2,7,8,18,19])]
abbrev dt(a:OA)(n c:Nat)(p:OA)(lim:Int)(i:Nat)(cy:Int)(r:OA)(rn rc:Nat):LV:=[(.slice a n c),nA,(.func (.func 210) ⟨[]⟩ ⟨[(.pointer p)]⟩),(.slice r rn rc),(.int .u64 cy),(.int .i64 lim),(iA i)]
theorem AA(a:OA)(n c:Nat)(p:OA)(h:aa)(Q:VH)(hx:xI .i64 (oV true [(iA n),(.int .i64 0)]) λn1=>LL SS fI [1,1,1,0,1,0,0] [(.slice a n c),nA,(.func (.func 210) ⟨[]⟩ ⟨[(.pointer p)]⟩),nA,(.int .u64 0),(.int .i64 (wrap .i64 (n1+1))),(.int .i64 0)] h (KK SS fI [1,1,1,0,1,0] [] (EE SS fI Q))):FW SS 182 [(.slice a n c),nA,(.func (.func 210) ⟨[]⟩ ⟨[(.pointer p)]⟩)] h Q:=dM fI Tryz.func182 (au hx)
theorem oU(a:OA)(n c:Nat)(p:OA)(lim:Int)(Inv:Nat->Nat->Int->OA->Nat->Nat->aa->Prop)(Q:VH)(step:∀(mz:Nat) (i:Nat) (cy:Int) (r:OA) (rn rc:Nat) (zz:Nat->Value) (h:aa),Inv mz i cy r rn rc h->aF (decide (((i:Int):Int)<lim)) (aF (decide (((i:Int):Int)<(n:Int))) (xP (af SS.P 150 (.slice a n c) (iA i)) λp2=>xI .u64 (ai SS.P 117 h (.pointer (some p2))) λn3=>aF (decide (((i:Int):Int)<0)) (xP (af SS.P 150 nA (iA i)) λp4=>xI .u64 (ai SS.P 117 h (.pointer (some p4))) λn5=>FW SS 210 [(.int .u64 n3),(.int .u64 n5),(.int .u64 cy),(.pointer p)] h λv6 h7=>∃n8:Int,∃n9:Int,v6=(.tuple ⟨[(.int .u64 n8),(.int .u64 n9)]⟩)/\xR (aI SS.P 150 1 [(0,(.int .u64 n8))]) h7 λB10 n11 ck Fm=>xE (aO SS.P 150 150 (.slice r rn rc) (sA (h7.next) n11 ck) Fm) Fm λa14 n15 c16 u17 g18=>aH (ui (dt a n c p lim) Inv) mz [(.slice a n c),nA,(.func (.func 210) ⟨[]⟩ ⟨[(.pointer p)]⟩),(.slice a14 n15 c16),(.int .u64 n9),(.int .i64 lim),(.int .i64 (wrap .i64 ((i:Int)+1)))] g18) (FW SS 210 [(.int .u64 n3),(.int .u64 0),(.int .u64 cy),(.pointer p)] h λv19 h20=>∃n21:Int,∃n22:Int,v19=(.tuple ⟨[(.int .u64 n21),(.int .u64 n22)]⟩)/\xR (aI SS.P 150 1 [(0,(.int .u64 n21))]) h20 λB23 n24 c25 g26=>xE (aO SS.P 150 150 (.slice r rn rc) (sA (h20.next) n24 c25) g26) g26 λa27 n28 c29 u30 g31=>aH (ui (dt a n c p lim) Inv) mz [(.slice a n c),nA,(.func (.func 210) ⟨[]⟩ ⟨[(.pointer p)]⟩),(.slice a27 n28 c29),(.int .u64 n22),(.int .i64 lim),(.int .i64 (wrap .i64 ((i:Int)+1)))] g31)) (aF (decide (((i:Int):Int)<0)) (xP (af SS.P 150 nA (iA i)) λp32=>xI .u64 (ai SS.P 117 h (.pointer (some p32))) λn33=>FW SS 210 [(.int .u64 0),(.int .u64 n33),(.int .u64 cy),(.pointer p)] h λv34 h35=>∃n36:Int,∃n37:Int,v34=(.tuple ⟨[(.int .u64 n36),(.int .u64 n37)]⟩)/\xR (aI SS.P 150 1 [(0,(.int .u64 n36))]) h35 λGU n39 c40 g41=>xE (aO SS.P 150 150 (.slice r rn rc) (sA (h35.next) n39 c40) g41) g41 λa42 n43 c44 u45 g46=>aH (ui (dt a n c p lim) Inv) mz [(.slice a n c),nA,(.func (.func 210) ⟨[]⟩ ⟨[(.pointer p)]⟩),(.slice a42 n43 c44),(.int .u64 n37),(.int .i64 lim),(.int .i64 (wrap .i64 ((i:Int)+1)))] g46) (FW SS 210 [(.int .u64 0),(.int .u64 0),(.int .u64 cy),(.pointer p)] h λv47 h48=>∃n49:Int,∃n50:Int,v47=(.tuple ⟨[(.int .u64 n49),(.int .u64 n50)]⟩)/\xR (aI SS.P 150 1 [(0,(.int .u64 n49))]) h48 λB51 n52 c53 g54=>xE (aO SS.P 150 150 (.slice r rn rc) (sA (h48.next) n52 c53) g54) g54 λa55 n56 c57 u58 g59=>aH (ui (dt a n c p lim) Inv) mz [(.slice a n c),nA,(.func (.func 210) ⟨[]⟩ ⟨[(.pointer p)]⟩),(.slice a55 n56 c57),(.int .u64 n50),(.int .i64 lim),(.int .i64 (wrap .i64 ((i:Int)+1)))] g59))) (FW SS 139 [(.slice r rn rc)] h λv60 h61=>yL v60 λa62 n63 c64=>Q (.slice a62 n63 c64) h61))(mz:Nat){i:Nat}{cy:Int}{r:OA}{rn rc:Nat}{h:aa}(hi:Inv mz i cy r rn rc h):LL SS fI [1,1,1,0,1,0,0] (dt a n c p lim i cy r rn rc) h (KK SS fI [1,1,1,0,1,0] [] (EE SS fI Q)):=
 zL (dt a n c p lim) Inv (λmz i cy r rn rc zz h hi=>au (step mz i cy r rn rc zz h hi)) mz hi
noncomputable def FY:FD:=dJ Tryz.f190 []
theorem Dj(a:OA)(n c:Nat)(k:Int)(h:aa)(Q:VH)(hx:xN (jI SS.P 117 (.int .u64 k)) h λB1 g2=>FW SS 182 [(.slice a n c),nA,(.func (.func 210) ⟨[]⟩ ⟨[(pA (h.next))]⟩)] g2 λv3 h4=>yL v3 λa5 n6 c7=>Q (.slice a5 n6 c7) h4):FW SS 190 [(.slice a n c),(.int .u64 k)] h Q:=dM FY Tryz.func190 (au hx)
def uv(d:Nat):Value:= .int .u64 (d:Int)
theorem vX:SS.P.underlying 150=some (.slice 117):=by kernel_rfl
theorem JM:SS.P.underlying 117=some (.int .u64):=by kernel_rfl
theorem Ai:aB SS.P 117=some 1:=by kernel_rfl
theorem I5:Go.Ab.isAgg SS.P 117=false:=by kernel_rfl
noncomputable def Oj:TypeInfo:=(eZ SS.P 117).getD default
theorem Gc:eZ SS.P 117=some Oj:=by kernel_rfl
theorem zC:Oj.size=1:=by kernel_rfl
theorem vS:Oj.bytes=8:=by kernel_rfl
theorem oK(z:Int):aI SS.P 150 1 [(0,.int .u64 z)]=some (.cells [.int .u64 z] 117 1 true,my 1 1):=by kernel_rfl
theorem jH{h0 h:aa}(w0:Wf h0)(ok:Ok h0 h){v:Value}{vs:List Value}(o:cZ h0 h 117 v vs)(z:Int)(hl:vs.length<=100000):
  ∃(b:Option Addr)(n c:Nat)(u:cX),aO SS.P 150 150 v (.slice (some ⟨h.next,0,none⟩) 1 1) (h.push (.cells [.int .u64 z] 117 1 true))=some (.slice b n c,u)/\n=vs.length+1/\cZ h0 (u.app (h.push (.cells [.int .u64 z] 117 1 true))) 117 (.slice b n c) (vs++[.int .u64 z])/\Ok h0 (u.app (h.push (.cells [.int .u64 z] 117 1 true))):=
 cZ.snoc vX Gc zC w0 ok o rfl (by rw[vS];omega) (by omega)
theorem NH(l:List Nat)(i:Nat)(h:i<l.length):(l.map uv).getD i undef = .int .u64 (l.getD i 0:Nat):=by
 simp[gD,getElem?_map,gE h,uv]
theorem Bp{h:aa}{v:Value}{l:List Nat}(r:Rd h 117 v (l.map uv)){i:Int}(h0:0<=i)(h1:i<l.length):
  ∃p:Addr,af SS.P 150 v (.int .i64 i)=some (.pointer (some p))/\ai SS.P 117 h (.pointer (some p))=some (.int .u64 (l.getD i.toNat 0:Nat)):=by
 obtain⟨p,h2,h3⟩:=r.at_ vX Ai JM I5 (k:= .i64) h0 (by rw[lM];exact h1);rw[NH l _ (by omega)]at h3;exact⟨p,h2,h3⟩
theorem nQ{h0 h:aa}{a:Option Addr}{n c:Nat}{l:List Nat}(o:cZ h0 h 117 (.slice a n c) (l.map uv))(hlen:l.length<=100000):
  FW SS 139 [.slice a n c] h (λv h'=>∃a' n' c',v = .slice a' n' c'/\cZ h0 h 117 (.slice a' n' c') ((cJ l).map uv)/\h'=h):=by
 have hn:n=l.length:=by have:=o.len;rwa[lM]at this
 have L:=lZ a n c (λmz r m d g=>m<=l.length/\mz=m/\cZ h0 h 117 (.slice r m d) ((l.take m).map uv)/\cJ l=cJ (l.take m)/\g=h) (λv h'=>∃a' n' c',v = .slice a' n' c'/\cZ h0 h 117 (.slice a' n' c') ((cJ l).map uv)/\h'=h) (by
  intro mz r m d;intros;rename_i g hi;obtain⟨h1,rfl,h3,h4,rfl⟩:=hi;have hw:wrap .i64 ((mz:Int)-1)=(mz:Int)-1:=aA (by omega) (by omega);rw[hw];have hm:mz≠0->l.take mz=l.take (mz-1)++[l.getD (mz-1) 0]:=λhm=>by
   obtain⟨j,rfl⟩:∃j,mz=j+1:=⟨mz-1,by omega⟩
   rw[List.take_succ_eq_append_getElem (by omega),Nat.add_sub_cancel,gD,gE (by omega)];rfl
  refine ae (λh5=>?_) (λh5=>?_)
  ·have h5:=dT h5;obtain⟨p,g2,g3⟩:=Bp h3.rd (i:=(mz:Int)-1) (by omega) (by rw[length_take];omega);have e1:(l.take mz).getD ((mz:Int)-1).toNat 0=l.getD (mz-1) 0:=by
    rw[show((mz:Int)-1).toNat=mz-1 by omega,gD,List.getElem?_take,if_pos (by omega),gD]
   rw[e1]at g3;refine⟨p,g2,_,g3,ae (λh6=>?_) (λh6=>?_)⟩
   ·have h6:((l.getD (mz-1) 0:Nat):Int)=0:=by simpa using h6
    have h6:l.getD (mz-1) 0=0:=by omega
    obtain⟨a',n',c',g4,g5⟩:=h3.upto vX Ai (z:=mz-1) (by rw[lM,length_take];omega) (by rw[lM,length_take];omega);rw[show((mz:Int)-1)=((mz-1:Nat):Int) by omega];have hn':n'=mz-1:=by have:=g5.len;rw[length_take,lM,length_take]at this;omega
    subst hn';refine⟨a',_,c',g4,Ft (mz-1) (by omega) ⟨by omega,rfl,?_,?_,rfl⟩⟩
    ·rw[<-map_take,take_take,min_eq_left (by omega)]at g5;exact g5
    ·rw[h4,hm (by omega),h6,gy]
   ·have h6:¬((l.getD (mz-1) 0:Nat):Int)=0:=by simpa using h6
    refine⟨r,mz,d,rfl,?_,rfl⟩;rw[h4,hm (by omega),ir _ (by omega),<-hm (by omega)];exact h3
  ·have h5:=dF h5;obtain rfl:mz=0:=by omega
   refine⟨r,0,d,rfl,?_,rfl⟩;rw[h4];exact h3)
 exact zg a n c h _ (L n ⟨by omega,rfl,by rw[show l.take n=l by rw[hn,take_length]];exact o,by rw[show l.take n=l by rw[hn,take_length]],rfl⟩)
theorem A0{l:List UInt8}{i:Nat}(h:i<l.length):Num.val (l.take (i+1))=10*Num.val (l.take i)+gP (l.getD i 0):=oJ (HM h)
theorem LD(l:List UInt8){h:aa}{b:Nat}(h2:b<=l.length):bt SS.P 9 (strOf l) none (some (.int .i64 (b:Int))) none h=some (strOf (l.take b)):=lD (a:=0) Ru l rfl rfl (by omega) h2
theorem EK{s:List UInt8}{cut:Nat}(hc:cut=s.length-9)(hs:0<s.length):Num.val s=Num.val (s.drop cut)+10^(s.length-cut)*Num.val (s.take cut):=by
 have:=iu (s.take cut) (s.drop cut);rw[List.take_append_drop,length_drop,mul_comm]at this;omega
theorem nP(l:List UInt8)(hd:l.all bm=true)(hlen:l.length<=10000)(h:aa)(w:Wf h):FW SS 137 [strOf l] h (gk h 117 ((aE 1000000000 (Num.val l)).map uv)):=by
 have L1:=pG l (λmz s r rn rc g=>mz=s.length/\s.all bm=true/\s.length<=10000/\Ok h g/\∃bs:List Nat,(∀d∈bs,d<1000000000)/\bs.length+s.length<=10000/\cZ h g 117 (.slice r rn rc) (bs.map uv)/\Num.val l=Num.bv 1000000000 bs+1000000000^bs.length*Num.val s) (gk h 117 ((aE 1000000000 (Num.val l)).map uv)) (by
  intro mz s r rn rc;intros;rename_i g hi;obtain⟨rfl,hs,hsl,ok,bs,hb1,hb2,ho,hv⟩:=hi;refine ae (λh5=>?_) (λh5=>?_)
  ·have h5:=dT h5;have hw:wrap .i64 ((s.length:Int)-9)=(s.length:Int)-9:=aA (by omega) (by omega);rw[hw];have hcut:(if(s.length:Int)-9>0 then(s.length:Int)-9 else 0)=((s.length-9:Nat):Int):=by split<;>omega
   refine⟨_,tA _ _ _,?_⟩;rw[hcut];have L2:=pH l (λmz s r rn rc g=>mz=s.length/\s.all bm=true/\s.length<=10000/\Ok h g/\∃bs:List Nat,(∀d∈bs,d<1000000000)/\bs.length+s.length<=10000/\cZ h g 117 (.slice r rn rc) (bs.map uv)/\Num.val l=Num.bv 1000000000 bs+1000000000^bs.length*Num.val s) s.length s r rn rc ((s.length-9:Nat):Int)
    (λmz2 i v g2=>∃j:Nat,i=(s.length-9:Nat)+(j:Int)/\s.length-9+j<=s.length/\mz2=s.length-(s.length-9+j)/\v=(Num.val ((s.drop (s.length-9)).take j):Nat)/\g2=g) (gk h 117 ((aE 1000000000 (Num.val l)).map uv)) (by
    intro mz2 i v;intros;rename_i g2 hi2;obtain⟨j,rfl,hj,hmz,rfl,rfl⟩:=hi2;have hdd:(s.drop (s.length-9)).all bm=true:=by
     rw[all_eq_true]at hs⊢;exact λx hx=>hs x (List.mem_of_mem_drop hx)
    have hlt:=xZ (l:=(s.drop (s.length-9)).take j) (by
     rw[all_eq_true]at hdd⊢;exact λx hx=>hdd x (List.mem_of_mem_take hx))
    have hlt9:Num.val ((s.drop (s.length-9)).take j)<1000000000:=by
     refine lt_of_lt_of_le hlt (Nat.le_trans (pow_le_pow_right (by omega) (show _<=9 by rw[length_take,length_drop];omega)) (by decide))
    refine ae (λh6=>?_) (λh6=>?_)
    ·have h6:=dT h6;have hin:s.length-9+j<s.length:=by omega
     have hdig:=yf hs hin;have hdr:=jj.1 hdig;have hdv:=nn hdig;refine⟨_,wC (h:=g2) s (by omega) h6,?_⟩;have hi':(((s.length-9:Nat):Int)+(j:Int)).toNat=s.length-9+j:=by omega
     rw[hi'];have e1:wrap .u8 ((((s.getD (s.length-9+j) 0).toNat:Nat):Int)-48)=(gP (s.getD (s.length-9+j) 0):Nat):=by
      rw[oE (by omega) (by omega)];unfold gP;omega
     have e2:(s.drop (s.length-9)).getD j 0=s.getD (s.length-9+j) 0:=by
      rw[gD,List.getElem?_drop,gD]
     have e3:=A0 (l:=s.drop (s.length-9)) (i:=j) (by rw[length_drop];omega);rw[e2]at e3;dsimp only;rw[e1,e9 (n:=((gP (s.getD (s.length-9+j) 0):Nat):Int)) (by omega) (by omega),e9 (n:=10*((Num.val ((s.drop (s.length-9)).take j):Nat):Int)) (by omega) (by omega),e9 (by omega) (by omega),aA (n:=((s.length-9:Nat):Int)+(j:Int)+1) (by omega) (by omega)];exact iN (mz2-1) (by omega) ⟨j+1,by omega,by omega,by omega,by rw[e3];omega,rfl⟩
    ·have h6:=dF h6;have hjl:(s.drop (s.length-9)).take j=s.drop (s.length-9):=List.take_of_length_le (by rw[length_drop];omega);rw[hjl]at hlt9⊢;refine⟨_,_,_,oK _,?_⟩;obtain⟨b,m,d,u,g6,g7,g8,g9⟩:=jH w ok ho ((Num.val (s.drop (s.length-9)):Nat):Int) (by rw[lM];omega);refine⟨b,m,d,u,g6,?_⟩;refine⟨_,LD s (show s.length-9<=s.length by omega),?_⟩;refine BL (s.take (s.length-9)).length (by rw[length_take];omega) ⟨rfl,?_,by rw[length_take];omega,g9,bs++[Num.val (s.drop (s.length-9))],?_,?_,?_,?_⟩
     ·rw[all_eq_true]at hs⊢;exact λx hx=>hs x (List.mem_of_mem_take hx)
     ·intro x hx;rcases List.mem_append.1 hx with hx|hx
      ·exact hb1 x hx
      ·rw[List.mem_singleton.1 hx];exact hlt9
     ·rw[length_append,length_take];simp;omega
     ·rw[map_append];exact g8
     ·rw[m7,length_append,hv,EK (s:=s) rfl (by omega),List.length_singleton];rcases lt_or_ge s.length 10 with h7|h7
      ·rw[show s.length-9=0 by omega,take_zero,iw];simp
      ·rw[show s.length-(s.length-9)=9 by omega,show(10:Nat)^9=1000000000 from rfl,pow_succ,Nat.mul_add,Nat.mul_assoc];omega)
   exact L2 _ ⟨0,by omega,by omega,rfl,by simp[iw],rfl⟩
  ·have h5:=dF h5;obtain rfl:s=[]:=List.eq_nil_of_length_eq_zero (by omega);refine(nQ ho (by omega)).mono ?_;rintro _ g2 ⟨a',n',c',rfl,o2,rfl⟩;refine⟨a',n',c',rfl,a',n',c',rfl,?_,ok⟩;rw[hv,iw,Nat.mul_zero,add_zero,<-iY (by omega) hb1];exact o2)
 exact Df l h _ (L1 l.length ⟨rfl,hd,hlen,Ok.refl w,[],by simp,by simpa using hlen,.inl ⟨rfl,rfl⟩,by simp[Num.bv]⟩)
theorem Jw(x:Int)(h:aa):FW SS 204 [.int .u64 x] h (λv h'=>v = .bool false/\h'=h):=QW x h _ ⟨by simp,rfl⟩
theorem Jv(x:Int)(h:aa):FW SS 117 [.int .i64 x] h (λv h'=>v = .bool false/\h'=h):=QV x h _ ⟨by simp,rfl⟩
theorem PU(m n:Nat)(h:aa):FW SS 184 [.int .u64 (m:Int),.int .u64 (n:Int)] h (λv h'=>v = .int .i64 (dn m n)/\h'=h):=by
 refine PT _ _ h _ ((Jw _ h).mono ?_);rintro _ _ ⟨rfl,rfl⟩;refine⟨_,rfl,(Jw _ _).mono ?_⟩;rintro _ _ ⟨rfl,rfl⟩;refine⟨_,rfl,ae (λe=>by cases e) (λ_=>ae (λe=>by cases e) (λ_=>ae (λh1=>?_) (λh1=>ae (λh2=>?_) (λh2=>?_))))⟩
 ·exact⟨by rw[ji (by have:=dT h1;omega)],rfl⟩
 ·exact⟨by rw[jh (by have:=dT h2;omega)],rfl⟩
 ·have h1:=dF h1;have h2:=dF h2;exact⟨by rw[show m=n by omega,m8],rfl⟩
theorem PS(m n:Nat)(h:aa):FW SS 72 [.int .i64 (m:Int),.int .i64 (n:Int)] h (λv h'=>v = .int .i64 (dn m n)/\h'=h):=by
 refine PR _ _ h _ ((Jv _ h).mono ?_);rintro _ _ ⟨rfl,rfl⟩;refine⟨_,rfl,(Jv _ _).mono ?_⟩;rintro _ _ ⟨rfl,rfl⟩;refine⟨_,rfl,ae (λe=>by cases e) (λ_=>ae (λe=>by cases e) (λ_=>ae (λh1=>?_) (λh1=>ae (λh2=>?_) (λh2=>?_))))⟩
 ·exact⟨by rw[ji (by have:=dT h1;omega)],rfl⟩
 ·exact⟨by rw[jh (by have:=dT h2;omega)],rfl⟩
 ·have h1:=dF h1;have h2:=dF h2;exact⟨by rw[show m=n by omega,m8],rfl⟩
abbrev BB:Nat:=1000000000
abbrev bl(n:Nat):List Value:=(aE BB n).map uv
theorem eU:1<BB:=by decide
theorem mZ{h:aa}{a b:Option Addr}{n c m d:Nat}{x y:Nat}(ra:Rd h 117 (.slice a n c) (bl x))(rb:Rd h 117 (.slice b m d) (bl y))(hlen:(aE BB x).length<=10000)(w:Wf h):
  FW SS 163 [.slice a n c,.slice b m d] h (λv h'=>v = .int .i64 (dn x y)/\Ok h h'):=by
 have hn:n=(aE BB x).length:=by have:=ra.len;rwa[lM]at this
 have hm:m=(aE BB y).length:=by have:=rb.len;rwa[lM]at this
 have L:=λ(hl:(aE BB x).length=(aE BB y).length)=>oW a n c b m d (λmz i g=>i<=n/\mz=n-i/\(aE BB x).drop (n-i)=(aE BB y).drop (n-i)/\Ok h g) (λv h'=>v = .int .i64 (dn x y)/\Ok h h') (by
  intro mz i;intros;rename_i g hi;obtain⟨h1,h2,h3,ok⟩:=hi;have hw1:wrap .i64 ((n:Int)-1)=(n:Int)-1:=aA (by omega) (by omega);have hw2:wrap .i64 ((n:Int)-1-(i:Int))=(n:Int)-1-(i:Int):=aA (by omega) (by omega);have hw3:wrap .i64 ((i:Int)+1)=((i+1:Nat):Int):=by rw[aA (by omega) (by omega)];omega
  rw[hw1,hw2,hw3];have ok':=ok.room 18;refine ae (λh5=>?_) (λh5=>?_)
  ·have h5:=dT h5;have hj:((n:Int)-1-(i:Int)).toNat=n-1-i:=by omega
   obtain⟨p,g2,g3⟩:=Bp (ra.ok ok') (i:=(n:Int)-1-(i:Int)) (by omega) (by omega);obtain⟨q,g4,g5⟩:=Bp (rb.ok ok') (i:=(n:Int)-1-(i:Int)) (by omega) (by omega);rw[hj]at g3 g5;refine⟨p,g2,_,g3,q,g4,_,g5,(PU _ _ _).mono ?_⟩;rintro _ _ ⟨rfl,rfl⟩;have hd:(aE BB x).drop (n-1-i+1)=(aE BB y).drop (n-1-i+1):=by rw[show n-1-i+1=n-i by omega];exact h3
   refine⟨_,rfl,ae (λh6=>?_) (λh6=>?_)⟩
   ·refine⟨?_,ok'⟩;have h6:dn ((aE BB x).getD (n-1-i) 0) ((aE BB y).getD (n-1-i) 0)≠0:=by simpa using h6
    rcases Nat.lt_trichotomy ((aE BB x).getD (n-1-i) 0) ((aE BB y).getD (n-1-i) 0)with h7|h7|h7
    ·have:=oZ eU (cg eU x) hl (by omega) hd h7;rw[bB eU,bB eU]at this;rw[ji h7,ji this]
    ·rw[h7,m8]at h6;exact absurd rfl h6
    ·have:=oZ eU (cg eU y) hl.symm (by omega) hd.symm h7;rw[bB eU,bB eU]at this;rw[jh h7,jh this]
   ·have h6:dn ((aE BB x).getD (n-1-i) 0) ((aE BB y).getD (n-1-i) 0)=0:=by simpa using h6
    have h7:(aE BB x).getD (n-1-i) 0=(aE BB y).getD (n-1-i) 0:=by
     unfold dn at h6;split at h6
     ·cases h6
     ·split at h6
      ·assumption
      ·cases h6
    refine cH (mz-1) (by omega) ⟨by omega,by omega,?_,ok'⟩;rw[show n-(i+1)=n-1-i by omega,List.drop_eq_getElem_cons (show n-1-i<(aE BB x).length by omega),List.drop_eq_getElem_cons (show n-1-i<(aE BB y).length by omega),hd];congr 1;rw[gD,gE (by omega),gD,gE (by omega)]at h7;exact h7
  ·have h5:=dF h5;rw[show n-i=0 by omega,drop_zero,drop_zero]at h3;have:x=y:=by rw[<-bB eU x,h3,bB eU]
   exact⟨by rw[this,m8],ok⟩)
 refine AP a n c b m d h _ (ae (λh1=>(PS _ _ h).mono ?_) (λh1=>?_))
 ·rintro _ _ ⟨rfl,rfl⟩;have h1:=H4 h1;refine⟨_,rfl,?_,Ok.refl w⟩;rcases Nat.lt_trichotomy n m with h2|h2|h2
  ·rw[ji h2,ji (jq eU (by omega))]
  ·exact absurd h2 h1
  ·rw[jh h2,jh (jq eU (by omega))]
 ·have h1:=Hz h1;refine L (by omega) n (i:=0) ⟨by omega,by omega,?_,Ok.refl w⟩;rw[sub_zero,drop_of_length_le (by omega),drop_of_length_le (by omega)]
theorem Nz{P:Program}{t:TypeId}{h h':aa}{p v:Value}(o:Ok h h')(hl:ai P t h p=some v):ai P t h' p=some v:=by
 unfold ai at hl⊢;split at hl
 ·next hu=>
  split at hl
  ·next cs _ _ _ hk=>rw[o.ext _ _ hk];exact hl
  ·cases hl
 ·cases hl
theorem Iu{h:aa}{p:Option Addr}{k:Nat}(hp:ai SS.P 117 h (.pointer p)=some (.int .u64 (k:Int)))(x y z:Nat)(hx:x<BB)(hk:k<=BB)(hz:z<BB):
  FW SS 210 [.int .u64 (x:Int),.int .u64 (y:Int),.int .u64 (z:Int),.pointer p] h (λv h'=>v = .tuple ⟨[uv (bP BB k x y z).1,uv (bP BB k x y z).2]⟩/\h'=h):=by
 have hBv:BB=1000000000:=rfl;have h1:x*k<=1000000000000000000:=Nat.le_trans (mul_le_mul (le_of_lt hx) hk) (by decide);have e1:wrap .u64 ((x:Int)*(k:Int))=((x*k:Nat):Int):=by rw[<-Int.natCast_mul];exact e9 (by omega) (by omega)
 have e2:wrap .u64 (((x*k:Nat):Int)+(z:Int))=((x*k+z:Nat):Int):=by rw[<-Int.natCast_add];exact e9 (by omega) (by omega)
 refine It _ _ _ p h _ ⟨_,hp,?_⟩;dsimp only;rw[e1,e2];refine⟨_,eW (b:=BB) (by omega) (by decide),_,mM (b:=BB) (by omega) (by omega) (by decide),?_,rfl⟩;unfold uv bP;rw[natCast_emod,natCast_ediv]
theorem AD{h:aa}{a:Option Addr}{n c:Nat}{p:Option Addr}{k:Nat}{x:List Nat}(ra:Rd h 117 (.slice a n c) (x.map uv))(hx:∀d∈x,d<BB)(hlen:x.length<=10000)(hp:ai SS.P 117 h (.pointer p)=some (.int .u64 (k:Int)))(hk0:0<k)(hk:k<=BB)(w:Wf h):
  FW SS 182 [.slice a n c,.slice none 0 0,.func (.func 210) ⟨[]⟩ ⟨[.pointer p]⟩] h (gk h 117 (bl (Num.bv BB x*k))):=by
 have hn:n=x.length:=by have:=ra.len;rwa[lM]at this
 have hBv:BB=1000000000:=rfl;have hF:∀p q c,c<=BB-1->p<BB->(bP BB k p q c).2<=BB-1:=λp q c hc hp=>by
  unfold bP;dsimp only;have h1:p*k<=999999999*1000000000:=mul_le_mul (by omega) hk;have:(p*k+c)/BB<BB:=div_lt_of_lt_mul (by rw[hBv];omega);omega
 have hcr:∀j,dq (bP BB k) x [] 0 0 j<=BB-1:=by
  intro j
  induction j with
  |zero=>exact zero_le _
  |succ j ih=>exact hF _ _ _ ih (aG (by decide) hx _)
 have fin:cJ (aL (bP BB k) x [] 0 (n+1) 0)=aE BB (Num.bv BB x*k):=by
  rw[iY eU (gQ (λp q c=>mod_lt _ (by decide)) x [] (n+1) 0 0),G7 eU hk hk0 hx (n+1) 0 0 (by omega) hk0 (by omega)];rw[drop_zero,add_zero]
 have L:=oU a n c p ((n:Int)+1) (λmz i cy r rn rc g=>i<=n+1/\mz=n+1-i/\cy=(dq (bP BB k) x [] 0 0 i:Nat)/\cZ h g 117 (.slice r rn rc) ((aL (bP BB k) x [] 0 i 0).map uv)/\Ok h g) (gk h 117 (bl (Num.bv BB x*k))) (by
  intro mz i cy r rn rc;intros;rename_i g hi;obtain⟨h1,h2,rfl,ho,ok⟩:=hi;have hw3:wrap .i64 ((i:Int)+1)=((i+1:Nat):Int):=by rw[aA (by omega) (by omega)];omega
  rw[hw3];have hel:(aL (bP BB k) x [] 0 i 0).length=i:=dx _ _ _ _ _ _;have hsn:=fD (bP BB k) x [] i 0 0;rw[zero_add]at hsn;have hcr1:dq (bP BB k) x [] 0 0 (i+1)=(bP BB k (x.getD i 0) (([]:List Nat).getD i 0) (dq (bP BB k) x [] 0 0 i)).2:=by
   show(bP BB k (x.getD (0+i) 0) (([]:List Nat).getD (0+i) 0) _).2=_;rw[zero_add]
  have hci:=hcr i;have hxi:=aG (b:=BB) (by decide) hx i;have hp':=Nz ok hp;have go:=Iu hp' (x.getD i 0) (([]:List Nat).getD i 0) (dq (bP BB k) x [] 0 0 i) hxi hk (by omega);have y0:([]:List Nat).getD i 0=0:=by simp
  refine ae (λh5=>?_) (λh5=>?_)
  ·have h5:=dT h5;refine ae (λh6=>?_) (λh6=>?_)
   ·have h6:=dT h6;obtain⟨q,g2,g3⟩:=Bp (ra.ok ok) (i:=(i:Int)) (by omega) (by omega);rw[toNat_natCast]at g3;refine⟨q,g2,_,g3,ae (λh7=>?_) (λh7=>?_)⟩
    ·have:=dT h7;omega
    ·refine(show FW SS 210 [.int .u64 ((x.getD i 0:Nat):Int),.int .u64 ((([]:List Nat).getD i 0:Nat):Int),.int .u64 ((dq (bP BB k) x [] 0 0 i:Nat):Int),.pointer p] g _ from go).mono ?_ |> (λhh=>by rw[y0]at hh;exact hh)
     rintro _ _ ⟨rfl,rfl⟩;refine⟨_,_,rfl,_,_,_,oK _,?_⟩;obtain⟨b,m,d,u,g6,g7,g8,g9⟩:=jH w ok ho ((bP BB k (x.getD i 0) (([]:List Nat).getD i 0) (dq (bP BB k) x [] 0 0 i)).1:Nat) (by rw[lM,hel];omega);refine⟨b,m,d,u,g6,jw (mz-1) (by omega) ⟨by omega,by omega,by rw[hcr1],?_,g9⟩⟩;rw[hsn,map_append];exact g8
   ·have h6:=dF h6;have hx0:x.getD i 0=0:=by rw[gD,getElem?_eq_none (by omega)];rfl
    refine ae (λh7=>?_) (λh7=>?_)
    ·have:=dT h7;omega
    ·refine(show FW SS 210 [.int .u64 ((x.getD i 0:Nat):Int),.int .u64 ((([]:List Nat).getD i 0:Nat):Int),.int .u64 ((dq (bP BB k) x [] 0 0 i:Nat):Int),.pointer p] g _ from go).mono ?_ |> (λhh=>by rw[y0,hx0]at hh;exact hh)
     rintro _ _ ⟨rfl,rfl⟩;refine⟨_,_,rfl,_,_,_,oK _,?_⟩;obtain⟨b,m,d,u,g6,g7,g8,g9⟩:=jH w ok ho ((bP BB k (x.getD i 0) (([]:List Nat).getD i 0) (dq (bP BB k) x [] 0 0 i)).1:Nat) (by rw[lM,hel];omega);refine⟨b,m,d,u,g6,jw (mz-1) (by omega) ⟨by omega,by omega,by rw[hcr1],?_,g9⟩⟩;rw[hsn,map_append];exact g8
  ·have h5:=dF h5;obtain rfl:i=n+1:=by omega
   refine(nQ ho (by rw[hel];omega)).mono ?_;rintro _ g2 ⟨a',n',c',rfl,o2,rfl⟩;rw[fin]at o2;exact⟨a',n',c',rfl,a',n',c',rfl,o2,ok⟩)
 refine AA a n c p h _ ⟨_,tA _ _ _,?_⟩;have hmx:(if(0:Int)>(n:Int)then(0:Int)else(n:Int))=(n:Int):=if_neg (by omega);have hw:wrap .i64 ((n:Int)+1)=(n:Int)+1:=aA (by omega) (by omega);dsimp only;rw[hmx,hw];exact L (n+1) (i:=0) ⟨by omega,by omega,rfl,.inl ⟨rfl,rfl⟩,Ok.refl w⟩
noncomputable def aP:FD:=dJ Tryz.f191 [([1,1,1,1,0,0,0],[0,1,5,7,8]),([1,1,1,1,1,1,0,1,0,0],[0,1,5,7,9,10,87,88]),([1,1,1,1,1,1,1,1,1,0,1,0,0],[0,1,5,7,10,128,129])]
abbrev dv(a:OA)(n c:Nat)(b:OA)(m d:Nat)(q rest:Int):LV:=[(.slice a n c),(.slice b m d),(iA m),(.int .u64 q),(.int .u64 rest)]
abbrev ct(a:OA)(n c:Nat)(b:OA)(m d:Nat)(q lim:Int)(i:Nat)(bo cy:Int):LV:=[(.slice a n c),(.slice b m d),(iA m),(.int .u64 q),(.int .u64 bo),(.int .u64 cy),(.int .i64 lim),(iA i)]
abbrev ff(a:OA)(n c:Nat)(b:OA)(m d:Nat)(q lim:Int)(i:Nat)(cy:Int):LV:=[(.slice a n c),(.slice b m d),(iA m),(.int .u64 q),(.int .u64 cy),(.int .i64 lim),(iA i)]
theorem FQ(a:OA)(n c:Nat)(b:OA)(m d:Nat)(h:aa)(Q:VH)(hx:xP (af SS.P 150 (.slice a n c) (iA m)) λp1=>xI .u64 (ai SS.P 117 (room h 12) (.pointer (some p1))) λn2=>xP (af SS.P 150 (.slice a n c) (.int .i64 (wrap .i64 ((m:Int)-1)))) λp3=>xI .u64 (ai SS.P 117 (room h 12) (.pointer (some p3))) λn4=>xP (af SS.P 150 (.slice b m d) (.int .i64 (wrap .i64 ((m:Int)-1)))) λp5=>xI .u64 (ai SS.P 117 (room (room h 12) 16) (.pointer (some p5))) λn6=>xI .u64 (ay SS.P .quo 117 (.int .u64 (wrap .u64 (wrap .u64 (n2*1000000000)+n4))) (.int .u64 n6)) λn7=>xP (af SS.P 150 (.slice b m d) (.int .i64 (wrap .i64 ((m:Int)-1)))) λp8=>xI .u64 (ai SS.P 117 (room (room h 12) 16) (.pointer (some p8))) λn9=>xI .u64 (ay SS.P .rem 117 (.int .u64 (wrap .u64 (wrap .u64 (n2*1000000000)+n4))) (.int .u64 n9)) λn10=>LL SS aP [1,1,1,1,0,0,0] (dv a n c b m d n7 n10) (room (room h 12) 16) (KK SS aP [1,1,1,1,0,0] [] (EE SS aP Q))):FW SS 191 [(.slice a n c),(.slice b m d)] h Q:=dM aP Tryz.func191 (au hx)
theorem qS(a:OA)(n c:Nat)(b:OA)(m d:Nat)  (Inv:Nat->Int->Int->aa->Prop) (Q:VH) (step:∀(mz:Nat)(q rest:Int)(zz:Nat->Value)(h:aa),Inv mz q rest h->aF (decide ((q:Int)>=1000000000)) (xP (af SS.P 150 (.slice b m d) (.int .i64 (wrap .i64 ((m:Int)-1)))) λp11=>xI .u64 (ai SS.P 117 (room h 28) (.pointer (some p11))) λn12=>aF (decide ((wrap .u64 (rest+n12):Int)>=1000000000)) (aF (decide ((wrap .u64 (q-1):Int)<1000000000)) (LL SS aP [1,1,1,1,1,1,0,1,0,0] (ct a n c b m d (wrap .u64 (q-1)) (wrap .i64 ((m:Int)+1)) 0 0 0) (room h 28) (KK SS aP [1,1,1,1,1,1,0,1,0] [] (EE SS aP Q))) (aH (re (dv a n c b m d) Inv) mz [(.slice a n c),(.slice b m d),(iA m),(.int .u64 (wrap .u64 (q-1))),(.int .u64 (wrap .u64 (rest+n12)))] (room h 28))) (aH (re (dv a n c b m d) Inv) mz [(.slice a n c),(.slice b m d),(iA m),(.int .u64 (wrap .u64 (q-1))),(.int .u64 (wrap .u64 (rest+n12)))] (room h 28))) (aF (decide (((m:Int):Int)>1)) (aF (decide ((rest:Int)<1000000000)) (xP (af SS.P 150 (.slice b m d) (.int .i64 (wrap .i64 ((m:Int)-2)))) λp13=>xI .u64 (ai SS.P 117 (room h 28) (.pointer (some p13))) λn14=>xP (af SS.P 150 (.slice a n c) (.int .i64 (wrap .i64 ((m:Int)-2)))) λp15=>xI .u64 (ai SS.P 117 (room h 28) (.pointer (some p15))) λn16=>aF (decide ((wrap .u64 (q*n14):Int)>wrap .u64 (wrap .u64 (rest*1000000000)+n16))) (xP (af SS.P 150 (.slice b m d) (.int .i64 (wrap .i64 ((m:Int)-1)))) λp17=>xI .u64 (ai SS.P 117 (room h 28) (.pointer (some p17))) λn18=>aF (decide ((wrap .u64 (rest+n18):Int)>=1000000000)) (aF (decide ((wrap .u64 (q-1):Int)<1000000000)) (LL SS aP [1,1,1,1,1,1,0,1,0,0] (ct a n c b m d (wrap .u64 (q-1)) (wrap .i64 ((m:Int)+1)) 0 0 0) (room h 28) (KK SS aP [1,1,1,1,1,1,0,1,0] [] (EE SS aP Q))) (aH (re (dv a n c b m d) Inv) mz [(.slice a n c),(.slice b m d),(iA m),(.int .u64 (wrap .u64 (q-1))),(.int .u64 (wrap .u64 (rest+n18)))] (room h 28))) (aH (re (dv a n c b m d) Inv) mz [(.slice a n c),(.slice b m d),(iA m),(.int .u64 (wrap .u64 (q-1))),(.int .u64 (wrap .u64 (rest+n18)))] (room h 28))) (LL SS aP [1,1,1,1,1,1,0,1,0,0] (ct a n c b m d q (wrap .i64 ((m:Int)+1)) 0 0 0) (room h 28) (KK SS aP [1,1,1,1,1,1,0,1,0] [] (EE SS aP Q)))) (LL SS aP [1,1,1,1,1,1,0,1,0,0] (ct a n c b m d q (wrap .i64 ((m:Int)+1)) 0 0 0) (room h 28) (KK SS aP [1,1,1,1,1,1,0,1,0] [] (EE SS aP Q)))) (LL SS aP [1,1,1,1,1,1,0,1,0,0] (ct a n c b m d q (wrap .i64 ((m:Int)+1)) 0 0 0) (room h 28) (KK SS aP [1,1,1,1,1,1,0,1,0] [] (EE SS aP Q))))) (mz:Nat) {q rest:Int} {h:aa} (hi:Inv mz q rest h):LL SS aP [1,1,1,1,0,0,0] (dv a n c b m d q rest) h (KK SS aP [1,1,1,1,0,0] [] (EE SS aP Q)):=
 ng (dv a n c b m d) Inv (λmz q rest zz h hi=>au (step mz q rest zz h hi)) mz hi
theorem qT(a:OA)(n c:Nat)(b:OA)(m d:Nat)(q lim:Int)(Inv:Nat->Nat->Int->Int->aa->Prop)(Q:VH)(step:∀(mz:Nat) (i:Nat) (bo cy:Int) (zz:Nat->Value) (h:aa),Inv mz i bo cy h->aF (decide (((i:Int):Int)<lim)) (aF (decide (((i:Int):Int)<(m:Int))) (xP (af SS.P 150 (.slice b m d) (iA i)) λp19=>xI .u64 (ai SS.P 117 h (.pointer (some p19))) λn20=>xP (af SS.P 150 (.slice a n c) (iA i)) λp21=>xI .u64 (ai SS.P 117 h (.pointer (some p21))) λn22=>xI .u64 (ay SS.P .rem 117 (.int .u64 (wrap .u64 (cy+wrap .u64 (q*n20)))) (.int .u64 1000000000)) λn23=>xI .u64 (ay SS.P .rem 117 (.int .u64 (wrap .u64 (wrap .u64 (wrap .u64 (n22+1000000000)-n23)-bo))) (.int .u64 1000000000)) λn24=>xI .u64 (ay SS.P .quo 117 (.int .u64 (wrap .u64 (wrap .u64 (wrap .u64 (n22+1000000000)-n23)-bo))) (.int .u64 1000000000)) λn25=>xI .u64 (ay SS.P .quo 117 (.int .u64 (wrap .u64 (cy+wrap .u64 (q*n20)))) (.int .u64 1000000000)) λn26=>xP (af SS.P 150 (.slice a n c) (iA i)) λp27=>xU (aw SS.P 117 (.pointer (some p27)) (.int .u64 n24) h) h λu28 g29=>aH (Sr (ct a n c b m d q lim) Inv) mz [(.slice a n c),(.slice b m d),(iA m),(.int .u64 q),(.int .u64 (wrap .u64 (1-n25))),(.int .u64 n26),(.int .i64 lim),(.int .i64 (wrap .i64 ((i:Int)+1)))] g29) (xP (af SS.P 150 (.slice a n c) (iA i)) λp30=>xI .u64 (ai SS.P 117 h (.pointer (some p30))) λn31=>xI .u64 (ay SS.P .rem 117 (.int .u64 cy) (.int .u64 1000000000)) λn32=>xI .u64 (ay SS.P .rem 117 (.int .u64 (wrap .u64 (wrap .u64 (wrap .u64 (n31+1000000000)-n32)-bo))) (.int .u64 1000000000)) λn33=>xI .u64 (ay SS.P .quo 117 (.int .u64 (wrap .u64 (wrap .u64 (wrap .u64 (n31+1000000000)-n32)-bo))) (.int .u64 1000000000)) λn34=>xI .u64 (ay SS.P .quo 117 (.int .u64 cy) (.int .u64 1000000000)) λn35=>xP (af SS.P 150 (.slice a n c) (iA i)) λp36=>xU (aw SS.P 117 (.pointer (some p36)) (.int .u64 n33) h) h λu37 g38=>aH (Sr (ct a n c b m d q lim) Inv) mz [(.slice a n c),(.slice b m d),(iA m),(.int .u64 q),(.int .u64 (wrap .u64 (1-n34))),(.int .u64 n35),(.int .i64 lim),(.int .i64 (wrap .i64 ((i:Int)+1)))] g38)) (aF (((bo:Int)==0)) (Q (.int .u64 q) h) (LL SS aP [1,1,1,1,1,1,1,1,1,0,1,0,0] (ff a n c b m d q (wrap .i64 ((m:Int)+1)) 0 0) h (KK SS aP [1,1,1,1,1,1,1,1,1,0,1,0] [] (EE SS aP Q)))))(mz:Nat){i:Nat}{bo cy:Int}{h:aa}(hi:Inv mz i bo cy h):LL SS aP [1,1,1,1,1,1,0,1,0,0] (ct a n c b m d q lim i bo cy) h (KK SS aP [1,1,1,1,1,1,0,1,0] [] (EE SS aP Q)):=
 OC (ct a n c b m d q lim) Inv (λmz i bo cy zz h hi=>au (step mz i bo cy zz h hi)) mz hi
theorem qU(a:OA)(n c:Nat)(b:OA)(m d:Nat)(q lim:Int)(Inv:Nat->Nat->Int->aa->Prop)(Q:VH)(step:∀(mz:Nat) (i:Nat) (cy:Int) (zz:Nat->Value) (h:aa),Inv mz i cy h->aF (decide (((i:Int):Int)<lim)) (xP (af SS.P 150 (.slice a n c) (iA i)) λp39=>xI .u64 (ai SS.P 117 h (.pointer (some p39))) λn40=>aF (decide (((i:Int):Int)<(m:Int))) (xP (af SS.P 150 (.slice b m d) (iA i)) λp41=>xI .u64 (ai SS.P 117 h (.pointer (some p41))) λn42=>xI .u64 (ay SS.P .rem 117 (.int .u64 (wrap .u64 (wrap .u64 (n40+cy)+n42))) (.int .u64 1000000000)) λn43=>xI .u64 (ay SS.P .quo 117 (.int .u64 (wrap .u64 (wrap .u64 (n40+cy)+n42))) (.int .u64 1000000000)) λn44=>xP (af SS.P 150 (.slice a n c) (iA i)) λp45=>xU (aw SS.P 117 (.pointer (some p45)) (.int .u64 n43) h) h λu46 g47=>aH (re (ff a n c b m d q lim) Inv) mz [(.slice a n c),(.slice b m d),(iA m),(.int .u64 q),(.int .u64 n44),(.int .i64 lim),(.int .i64 (wrap .i64 ((i:Int)+1)))] g47) (xI .u64 (ay SS.P .rem 117 (.int .u64 (wrap .u64 (n40+cy))) (.int .u64 1000000000)) λn48=>xI .u64 (ay SS.P .quo 117 (.int .u64 (wrap .u64 (n40+cy))) (.int .u64 1000000000)) λn49=>xP (af SS.P 150 (.slice a n c) (iA i)) λp50=>xU (aw SS.P 117 (.pointer (some p50)) (.int .u64 n48) h) h λu51 g52=>aH (re (ff a n c b m d q lim) Inv) mz [(.slice a n c),(.slice b m d),(iA m),(.int .u64 q),(.int .u64 n49),(.int .i64 lim),(.int .i64 (wrap .i64 ((i:Int)+1)))] g52)) (Q (.int .u64 (wrap .u64 (q-1))) h))(mz:Nat){i:Nat}{cy:Int}{h:aa}(hi:Inv mz i cy h):LL SS aP [1,1,1,1,1,1,1,1,1,0,1,0,0] (ff a n c b m d q lim i cy) h (KK SS aP [1,1,1,1,1,1,1,1,1,0,1,0] [] (EE SS aP Q)):=
 ng (ff a n c b m d q lim) Inv (λmz i cy zz h hi=>au (step mz i cy zz h hi)) mz hi
noncomputable def bE:FD:=dJ Tryz.f166 [([1,1,1,1,1,0,0,0],[0,1,6,7,8,9]),([1,1,1,1,1,1,1,0,1,0,0],[0,1,4,6,7,8,9,49,50]),([1,1,1,1,1,1,1,1,1,1,0,1,0,0],[4,5,7,12,74,75])]
abbrev gI(a:OA)(n c:Nat)(b:OA)(m d:Nat)(kk:Int)(e:OA)(en ec:Nat)(r:OA)(rn rc:Nat):LV:=[(.slice a n c),(.slice b m d),(iA m),(.int .u64 kk),(.slice r rn rc),(.slice e en ec)]
abbrev gJ(a:OA)(n c:Nat)(b:OA)(m d:Nat)(kk:Int)(g:OA)(gn gc:Nat)(r:OA)(rn rc:Nat)(e:OA)(en ec:Nat)(lim:Int)(i:Nat):LV:=[(.slice a n c),(.slice b m d),(.slice g gn gc),(iA m),(.int .u64 kk),(.slice r rn rc),(.slice e en ec),(.int .i64 lim),(iA i)]
abbrev gK(kk:Int)(g:OA)(gn gc:Nat)(r:OA)(rn rc:Nat)(lim:Int)(i:Nat)(left:Int):LV:=[(.slice g gn gc),(.slice r rn rc),(.int .u64 kk),(.int .u64 left),(.int .i64 lim),(iA i)]
theorem Dg(a:OA)(n c:Nat)(b:OA)(m d:Nat)(h:aa)(Q:VH)(hx:FW SS 163 [(.slice a n c),(.slice b m d)] h λv1 h2=>yI .i64 v1 λn3=>aF (decide ((n3:Int)<0)) (Q (.tuple ⟨[nA,(.slice a n c)]⟩) h2) (xP (af SS.P 150 (.slice b m d) (.int .i64 (wrap .i64 ((m:Int)-1)))) λp4=>xI .u64 (ai SS.P 117 h2 (.pointer (some p4))) λn5=>xI .u64 (ay SS.P .quo 117 (.int .u64 1000000000) (.int .u64 (wrap .u64 (n5+1)))) λn6=>FW SS 190 [(.slice a n c),(.int .u64 n6)] h2 λv7 h8=>yL v7 λa9 n10 bW=>FW SS 190 [(.slice b m d),(.int .u64 n6)] h8 λv12 h13=>yL v12 λa14 n15 c16=>LL SS bE [1,1,1,1,1,0,0,0] (gI a n c b m d n6 a14 n15 c16 a9 n10 bW) h13 (KK SS bE [1,1,1,1,1,0,0] [] (EE SS bE Q)))):FW SS 166 [(.slice a n c),(.slice b m d)] h Q:=dM bE Tryz.func166 (au hx)
theorem pI(a:OA)(n c:Nat)(b:OA)(m d:Nat)(kk:Int)(e:OA)(en ec:Nat)(Inv:Nat->OA->Nat->Nat->aa->Prop)(Q:VH)(step:∀(mz:Nat) (r:OA) (rn rc:Nat) (zz:Nat->Value) (h:aa),Inv mz r rn rc h->aF (decide (((rn:Int):Int)<=(n:Int))) (xR (aI SS.P 150 1 [(0,(.int .u64 0))]) h λB17 n18 c19 g20=>xE (aO SS.P 150 150 (.slice r rn rc) (sA (h.next) n18 c19) g20) g20 λa21 n22 c23 u24 g25=>aH (Sr (gI a n c b m d kk e en ec) Inv) mz [(.slice a n c),(.slice b m d),(iA m),(.int .u64 kk),(.slice a21 n22 c23),(.slice e en ec)] g25) (xR (bL SS.P 150 (.int .i64 (wrap .i64 ((rn:Int)-(m:Int)))) (.int .i64 (wrap .i64 ((rn:Int)-(m:Int))))) h λB26 n27 c28 g29=>LL SS bE [1,1,1,1,1,1,1,0,1,0,0] (gJ a n c b m d kk (some ⟨h.next,0,none⟩) n27 c28 r rn rc e en ec (n27:Int) 0) g29 (KK SS bE [1,1,1,1,1,1,1,0,1,0] [] (EE SS bE Q))))(mz:Nat){r:OA}{rn rc:Nat}{h:aa}(hi:Inv mz r rn rc h):LL SS bE [1,1,1,1,1,0,0,0] (gI a n c b m d kk e en ec r rn rc) h (KK SS bE [1,1,1,1,1,0,0] [] (EE SS bE Q)):=
 OC (gI a n c b m d kk e en ec) Inv (λmz r rn rc zz h hi=>au (step mz r rn rc zz h hi)) mz hi
theorem pJ(a:OA)(n c:Nat)(b:OA)(m d:Nat)(kk:Int)(g:OA)(gn gc:Nat)(r:OA)(rn rc:Nat)(e:OA)(en ec:Nat)(lim:Int)(Inv:Nat->Nat->aa->Prop)(Q:VH)(step:∀(mz:Nat) (i:Nat) (zz:Nat->Value) (h:aa),Inv mz i h->aF (decide (((i:Int):Int)<lim)) (xL (bt SS.P 150 (.slice r rn rc) (some (.int .i64 (wrap .i64 (wrap .i64 ((gn:Int)-1)-(i:Int))))) (some (.int .i64 (wrap .i64 (wrap .i64 (wrap .i64 (wrap .i64 ((gn:Int)-1)-(i:Int))+(m:Int))+1)))) none h) λa30 n31 c32=>FW SS 191 [(.slice a30 n31 c32),(.slice e en ec)] h λv33 h34=>yI .u64 v33 λn35=>xP (af SS.P 150 (.slice g gn gc) (.int .i64 (wrap .i64 (wrap .i64 ((gn:Int)-1)-(i:Int))))) λp36=>xU (aw SS.P 117 (.pointer (some p36)) (.int .u64 n35) h34) h34 λu37 g38=>aH (iR (gJ a n c b m d kk g gn gc r rn rc e en ec lim) Inv) mz [(.slice a n c),(.slice b m d),(.slice g gn gc),(iA m),(.int .u64 kk),(.slice r rn rc),(.slice e en ec),(.int .i64 lim),(.int .i64 (wrap .i64 ((i:Int)+1)))] g38) (FW SS 139 [(.slice r rn rc)] h λv39 h40=>yL v39 λa41 n42 c43=>LL SS bE [1,1,1,1,1,1,1,1,1,1,0,1,0,0] (gK kk g gn gc a41 n42 c43 (n42:Int) 0 0) h40 (KK SS bE [1,1,1,1,1,1,1,1,1,1,0,1,0] [] (EE SS bE Q))))(mz:Nat){i:Nat}{h:aa}(hi:Inv mz i h):LL SS bE [1,1,1,1,1,1,1,0,1,0,0] (gJ a n c b m d kk g gn gc r rn rc e en ec lim i) h (KK SS bE [1,1,1,1,1,1,1,0,1,0] [] (EE SS bE Q)):=
 dK (gJ a n c b m d kk g gn gc r rn rc e en ec lim) Inv (λmz i zz h hi=>au (step mz i zz h hi)) mz hi
theorem pK(a:OA)(n c:Nat)(b:OA)(m d:Nat)(kk:Int)(g:OA)(gn gc:Nat)(r:OA)(rn rc:Nat)(lim:Int)(Inv:Nat->Nat->Int->aa->Prop)(Q:VH)(step:∀(mz:Nat) (i:Nat) (left:Int) (zz:Nat->Value) (h:aa),Inv mz i left h->aF (decide (((i:Int):Int)<lim)) (xP (af SS.P 150 (.slice r rn rc) (.int .i64 (wrap .i64 (wrap .i64 ((rn:Int)-1)-(i:Int))))) λp44=>xI .u64 (ai SS.P 117 h (.pointer (some p44))) λn45=>xI .u64 (ay SS.P .quo 117 (.int .u64 (wrap .u64 (wrap .u64 (left*1000000000)+n45))) (.int .u64 kk)) λn46=>xI .u64 (ay SS.P .rem 117 (.int .u64 (wrap .u64 (wrap .u64 (left*1000000000)+n45))) (.int .u64 kk)) λn47=>xP (af SS.P 150 (.slice r rn rc) (.int .i64 (wrap .i64 (wrap .i64 ((rn:Int)-1)-(i:Int))))) λp48=>xU (aw SS.P 117 (.pointer (some p48)) (.int .u64 n46) (room h 11)) (room h 11) λu49 g50=>aH (re (gK kk g gn gc r rn rc lim) Inv) mz [(.slice g gn gc),(.slice r rn rc),(.int .u64 kk),(.int .u64 n47),(.int .i64 lim),(.int .i64 (wrap .i64 ((i:Int)+1)))] g50) (FW SS 139 [(.slice g gn gc)] h λv51 h52=>yL v51 λa53 n54 c55=>FW SS 139 [(.slice r rn rc)] h52 λv56 h57=>yL v56 λa58 n59 c60=>Q (.tuple ⟨[(.slice a53 n54 c55),(.slice a58 n59 c60)]⟩) h57))(mz:Nat){i:Nat}{left:Int}{h:aa}(hi:Inv mz i left h):LL SS bE [1,1,1,1,1,1,1,1,1,1,0,1,0,0] (gK kk g gn gc r rn rc lim i left) h (KK SS bE [1,1,1,1,1,1,1,1,1,1,0,1,0] [] (EE SS bE Q)):=
 ng (gK kk g gn gc r rn rc lim) Inv (λmz i left zz h hi=>au (step mz i left zz h hi)) mz hi
section
def bI(cs:List Value)(off:Nat)(W:List Nat):List Value:=cs.take off++W.map uv++cs.drop (off+W.length)
structure Ez(h:aa)(k:Nat)(h':aa):Prop where
 wf:Wf h'
 fc:∀j B,j≠k->h.get j=some B->h'.get j=some B
 nx:h.next<=h'.next
theorem Ez.refl{h:aa}{k:Nat}(w:Wf h):Ez h k h:=⟨w,λ_ _ _ h=>h,Nat.le_refl _⟩
theorem Ez.room{h h':aa}{k:Nat}(o:Ez h k h')(n:Nat):Ez h k (room h' n):=⟨λj B hj=>lt_of_lt_of_le (o.wf j B hj) (Nat.le_add_right _ _),o.fc,Nat.le_trans o.nx (Nat.le_add_right _ _)⟩
theorem Ez.set{h h':aa}{k:Nat}(o:Ez h k h')(hk:k<h'.next)(B:bO):Ez h k (h'.set k B):=by
 refine⟨λj C hj=>?_,λj C hjk hj=>?_,o.nx⟩
 ·rw[aa.aX]at hj;split at hj
  ·next e=>rw[e];exact hk
  ·exact o.wf _ _ hj
 ·rw[aa.aX,if_neg hjk];exact o.fc _ _ hjk hj
theorem ti{k off n c:Nat}{i:Int}(h0:0<=i)(h1:i<n):af SS.P 150 (.slice (some ⟨k,off,none⟩) n c) (.int .i64 i)=some (.pointer (some ⟨k,off+i.toNat,none⟩)):=by
 unfold af;rw[vX];dsimp only;rw[Ai];dsimp only;rw[if_pos ⟨h0,h1⟩,mul_one,cw]
section
variable {g:aa} {k off:Nat} {cs:List Value} {W:List Nat}
theorem ze(hg:g.get k=some (.cells (bI cs off W) 117 1 true))(hl:off+W.length<=cs.length){i:Nat}(hi:i<W.length):ai SS.P 117 g (.pointer (some ⟨k,off+i,none⟩))=some (.int .u64 (W.getD i 0:Nat)):=by
 unfold ai;rw[JM];dsimp only;rw[hg];dsimp only;rw[I5];simp only[Bool.false_eq_true,if_false];unfold bI;rw[append_assoc,List.getElem?_append_right (by rw[length_take];omega),length_take,min_eq_left (by omega),Nat.add_sub_cancel_left,List.getElem?_append_left (by rw[lM];exact hi),getElem?_map,gE hi,gD,gE hi];rfl
theorem zT(hg:g.get k=some (.cells (bI cs off W) 117 1 true))(hl:off+W.length<=cs.length){i:Nat}(hi:i<W.length)(d:Nat):aw SS.P 117 (.pointer (some ⟨k,off+i,none⟩)) (.int .u64 (d:Int)) g=some (undef,.set k (.cells (bI cs off (W.set i d)) 117 1 true)):=by
 show(if aB SS.P 117=some 1 then(storeAt g k (off+i) [.int .u64 (d:Int)]).map λu=>(undef,u)else none)=_;rw[if_pos Ai];unfold storeAt;rw[hg];dsimp only;have hlen:(bI cs off W).length=cs.length:=by
  unfold bI;simp only[length_append,length_take,lM,length_drop];omega
 rw[if_pos ⟨by rw[hlen];simp;omega,rfl⟩];have e:(bI cs off W).take (off+i)++[Value.int .u64 (d:Int)]++(bI cs off W).drop (off+i+[Value.int .u64 (d:Int)].length)=bI cs off (W.set i d):=by
  have ht:(cs.take off).length=off:=by rw[length_take];omega
  have e0:(bI cs off W).take (off+i)++[Value.int .u64 (d:Int)]++(bI cs off W).drop (off+i+[Value.int .u64 (d:Int)].length)=(bI cs off W).set (off+i) (.int .u64 (d:Int)):=by
   rw[List.set_eq_take_append_cons_drop,if_pos (by rw[hlen];omega),append_assoc];rfl
  rw[e0];unfold bI;rw[append_assoc,List.set_append,if_neg (by omega),ht,Nat.add_sub_cancel_left,List.set_append,if_pos (by rw[lM];exact hi),length_set,append_assoc,List.map_set];rfl
 rw[e];rfl
end
end
theorem zH{a:Nat}:ay SS.P .rem 117 (.int .u64 (a:Int)) (.int .u64 1000000000)=some (.int .u64 ((a%BB:Nat):Int)):=by
 have:=eW (P:=SS.P) (t:=117) (k:= .u64) (a:=(a:Int)) (b:=BB) (by omega) (by decide);rw[<-natCast_emod]at this;exact this
theorem Ca{a:Nat}(h:a<18446744073709551616):ay SS.P .quo 117 (.int .u64 (a:Int)) (.int .u64 1000000000)=some (.int .u64 ((a/BB:Nat):Int)):=by
 have:=mM (P:=SS.P) (t:=117) (a:=(a:Int)) (b:=BB) (by omega) (by omega) (by decide);rw[<-natCast_ediv]at this;exact this
theorem Sg{a b:Nat}(hb:0<b):ay SS.P .rem 117 (.int .u64 (a:Int)) (.int .u64 (b:Int))=some (.int .u64 ((a%b:Nat):Int)):=by
 have:=eW (P:=SS.P) (t:=117) (k:= .u64) (a:=(a:Int)) (b:=b) (by omega) hb;rw[<-natCast_emod]at this;exact this
theorem Ob{a b:Nat}(h:a<18446744073709551616)(hb:0<b):ay SS.P .quo 117 (.int .u64 (a:Int)) (.int .u64 (b:Int))=some (.int .u64 ((a/b:Nat):Int)):=by
 have:=mM (P:=SS.P) (t:=117) (a:=(a:Int)) (b:=b) (by omega) (by omega) hb;rw[<-natCast_ediv]at this;exact this
theorem wU{n:Int}{m:Nat}(h:n=(m:Int))(h2:m<18446744073709551616):wrap .u64 n=(m:Int):=by rw[h];exact e9 (by omega) (by omega)
structure RU(h:aa)(k off c m:Nat)(cs:List Value)(U V:List Nat)(b:Option Addr)(d:Nat):Prop where
 w:Wf h
 get:h.get k=some (.cells (bI cs off U) 117 1 true)
 fit:off+U.length<=cs.length
 ul:U.length=m+1
 vl:V.length=m
 mp:0<m
 Zk:m<=10000
 ult:∀x∈U,x<BB
 UQ:∀x∈V,x<BB
 v1:0<V.getD (m-1) 0
 lt:Num.bv BB U<BB*Num.bv BB V
 rd:∀g,Ez h k g->Rd g 117 (.slice b m d) (V.map uv)
def Cy(h:aa)(k off:Nat)(cs:List Value)(m:Nat)(U V:List Nat):VH:=λv h'=>∃W:List Nat,W.length=m+1/\(∀x∈W,x<BB)/\Num.bv BB W=Num.bv BB U%Num.bv BB V/\v=uv (Num.bv BB U/Num.bv BB V)/\h'.get k=some (.cells (bI cs off W) 117 1 true)/\Ez h k h'
theorem FT{h:aa}{k off c m:Nat}{cs:List Value}{U V:List Nat}{b:Option Addr}{d:Nat}(D:RU h k off c m cs U V b d):
  FW SS 191 [.slice (some ⟨k,off,none⟩) (m+1) c,.slice b m d] h (Cy h k off cs m U V):=by
 have hBv:BB=1000000000:=rfl;have hul:=D.ul;have hvl:=D.vl;have hmp:=D.mp;have hmle:=D.Zk;have hB0:0<BB:=by decide
 have ug:∀i,U.getD i 0<BB:=λi=>aG hB0 D.ult i;have vg:∀i,V.getD i 0<BB:=λi=>aG hB0 D.UQ i;have hw1:wrap .i64 ((m:Int)-1)=((m-1:Nat):Int):=by rw[aA (by omega) (by omega)];omega
 have hw2:1<m->wrap .i64 ((m:Int)-2)=((m-2:Nat):Int):=λhm=>by rw[aA (by omega) (by omega)];omega
 have hwm:wrap .i64 ((m:Int)+1)=(m:Int)+1:=aA (by omega) (by omega);have wi:∀i:Nat,i<=m->wrap .i64 ((i:Int)+1)=((i+1:Nat):Int):=λi hi=>by rw[aA (by omega) (by omega)];omega
 have L3:=λ(qn:Nat) (W:List Nat) (hq0:0<qn) (hqB:qn<BB) (hwl:W.length=m+1) (hwlt:∀x∈W,x<BB) (hq:qn-1=Num.bv BB U/Num.bv BB V) (hres:Num.bv BB (aL (aC BB) W V 0 (m+1) 0)=Num.bv BB U%Num.bv BB V)=>
  qU (some ⟨k,off,none⟩) (m+1) c b m d (qn:Int) ((m:Int)+1) (λmz i cy g=>i<=m+1/\mz=m+1-i/\cy=(dq (aC BB) W V 0 0 i:Nat)/\g.get k=some (.cells (bI cs off (aL (aC BB) W V 0 i 0++W.drop i)) 117 1 true)/\Ez h k g) (Cy h k off cs m U V) (by
  intro mz i cy;intros;rename_i g hi;obtain⟨h1,h2,rfl,hg,ok⟩:=hi;have hel:(aL (aC BB) W V 0 i 0).length=i:=dx _ _ _ _ _ _;have hsn:=fD (aC BB) W V i 0 0;rw[zero_add]at hsn;have hcr1:dq (aC BB) W V 0 0 (i+1)=(aC BB (W.getD i 0) (V.getD i 0) (dq (aC BB) W V 0 0 i)).2:=by
   show(aC BB (W.getD (0+i) 0) (V.getD (0+i) 0) _).2=_;rw[zero_add]
  have wg:W.getD i 0<BB:=aG hB0 hwlt i;have hcb:dq (aC BB) W V 0 0 i<=1:=by
   clear hcr1 hsn hel hg h2 h1
   induction i with
   |zero=>exact zero_le _
   |succ j ih=>
    have a1:=aG (b:=BB) hB0 hwlt (0+j);have a2:=vg (0+j);have a3:=ih (aG hB0 hwlt j);show(W.getD (0+j) 0+V.getD (0+j) 0+dq (aC BB) W V 0 0 j)/BB<=1;have:(W.getD (0+j) 0+V.getD (0+j) 0+dq (aC BB) W V 0 0 j)/BB<2:=div_lt_of_lt_mul (by omega);omega
  have hvi:=vg i;have hlen:(aL (aC BB) W V 0 i 0++W.drop i).length=m+1:=by rw[length_append,hel,length_drop];omega
  have hfit:=D.fit;refine ae (λh5=>?_) (λh5=>?_)
  ·have h5:=dT h5;have hl:=ze hg (by rw[hlen];omega) (i:=i) (by rw[hlen];omega);rw[sH _ _ hel]at hl;have hkn:=ok.wf _ _ hg;have step:∀(s:Nat),s=W.getD i 0+V.getD i 0+dq (aC BB) W V 0 0 i->
     aw SS.P 117 (.pointer (some ⟨k,off+i,none⟩)) (.int .u64 ((s%BB:Nat):Int)) g=some (undef,.set k (.cells (bI cs off (aL (aC BB) W V 0 (i+1) 0++W.drop (i+1))) 117 1 true)):=λs hs=>by
    rw[zT hg (by rw[hlen];omega) (by rw[hlen];omega),vC _ _ hel (by omega),hsn,hs];rfl
   refine⟨_,ti (by omega) (by omega),_,by rw[toNat_natCast];exact hl,?_⟩;have e1:wrap .u64 (((W.getD i 0:Nat):Int)+((dq (aC BB) W V 0 0 i:Nat):Int))=((W.getD i 0+dq (aC BB) W V 0 0 i:Nat):Int):=wU (by omega) (by omega);dsimp only;rw[e1,wi i (by omega)];refine ae (λh6=>?_) (λh6=>?_)
   ·have h6:=dT h6;obtain⟨p,g2,g3⟩:=Bp (D.rd g ok) (i:=(i:Int)) (by omega) (by omega);rw[toNat_natCast]at g3;refine⟨p,g2,_,g3,?_⟩;have e2:wrap .u64 (((W.getD i 0+dq (aC BB) W V 0 0 i:Nat):Int)+((V.getD i 0:Nat):Int))=((W.getD i 0+V.getD i 0+dq (aC BB) W V 0 0 i:Nat):Int):=wU (by omega) (by omega);dsimp only;rw[e2];refine⟨_,zH,_,Ca (by omega),_,ti (by omega) (by omega),_,by rw[toNat_natCast];exact step _ rfl,?_⟩;refine iN (mz-1) (by omega) ⟨by omega,by omega,by rw[hcr1];rfl,?_,ok.set hkn _⟩;show(g.set k _).get k=_;rw[aa.aX,if_pos rfl]
   ·have h6:=dF h6;have hv0:V.getD i 0=0:=by rw[gD,getElem?_eq_none (by omega)];rfl
    refine⟨_,zH,_,Ca (by omega),_,ti (by omega) (by omega),_,by rw[toNat_natCast];exact step _ (by omega),?_⟩;refine iN (mz-1) (by omega) ⟨by omega,by omega,?_,?_,ok.set hkn _⟩
    ·rw[hcr1];show _=(((W.getD i 0+V.getD i 0+dq (aC BB) W V 0 0 i)/BB:Nat):Int);rw[hv0,add_zero]
    ·show(g.set k _).get k=_;rw[aa.aX,if_pos rfl]
  ·have h5:=dF h5;obtain rfl:i=m+1:=by omega
   have e3:wrap .u64 ((qn:Int)-1)=((qn-1:Nat):Int):=wU (by omega) (by omega);rw[e3];rw[drop_of_length_le (by omega),List.append_nil]at hg;exact⟨_,hel,gQ (λp q c=>mod_lt _ hB0) _ _ _ _ _,hres,by rw[hq];rfl,hg,ok⟩)
 have L2:=λ(qn:Nat) (hqB:qn<BB) (hhi:Num.bv BB U<(qn+1)*Num.bv BB V) (hlo:qn*Num.bv BB V<Num.bv BB U+Num.bv BB V)=>
  qT (some ⟨k,off,none⟩) (m+1) c b m d (qn:Int) ((m:Int)+1) (λmz i bo cy g=>i<=m+1/\mz=m+1-i/\bo=((bh BB qn U V 0 i 0 0).2.1:Nat)/\cy=((bh BB qn U V 0 i 0 0).2.2:Nat)/\g.get k=some (.cells (bI cs off ((bh BB qn U V 0 i 0 0).1++U.drop i)) 117 1 true)/\Ez h k g) (Cy h k off cs m U V) (by
  intro mz i bo cy;intros;rename_i g hi;obtain⟨h1,h2,rfl,rfl,hg,ok⟩:=hi;have hel:(bh BB qn U V 0 i 0 0).1.length=i:=nr _ _ _ _ _ _ _ _;have hsn:=pj BB qn U V i 0 0 0;rw[zero_add]at hsn;have hbo:=As (q:=qn) (v:=V) eU D.ult i;have hcy:=oH eU hqB (u:=U) D.UQ i;generalize hst:bh BB qn U V 0 i 0 0=st at*;obtain⟨Wl,bo,cy⟩:=st;dsimp only at hel hg hbo hcy hsn⊢;have hlen:(Wl++U.drop i).length=m+1:=by rw[length_append,hel,length_drop];omega
  have hfit:=D.fit;have hui:=ug i;have hvi:=vg i;have hqv:qn*V.getD i 0<=999999999*999999999:=mul_le_mul (by omega) (by omega);refine ae (λh5=>?_) (λh5=>?_)
  ·have h5:=dT h5;have hl:=ze hg (by rw[hlen];omega) (i:=i) (by rw[hlen];omega);rw[sH _ _ hel]at hl;have hkn:=ok.wf _ _ hg;have step:∀(s:Nat),s=qn*V.getD i 0+cy->
     aw SS.P 117 (.pointer (some ⟨k,off+i,none⟩)) (.int .u64 (((U.getD i 0+BB-s%BB-bo)%BB:Nat):Int)) g=some (undef,.set k (.cells (bI cs off ((bh BB qn U V 0 (i+1) 0 0).1++U.drop (i+1))) 117 1 true)):=λs hs=>by
    rw[zT hg (by rw[hlen];omega) (by rw[hlen];omega),vC _ _ hel (by omega),hsn,hs];rfl
   have rest:∀(s:Nat),s=qn*V.getD i 0+cy->∀(p21:Addr),p21=⟨k,off+i,none⟩->
     ∃n23:Int,ay SS.P .rem 117 (.int .u64 (s:Int)) (.int .u64 1000000000)=some (.int .u64 n23)/\n23=((s%BB:Nat):Int):=λs _ _ _=>⟨_,zH,rfl⟩
   rw[wi i (by omega)];have fin:∀(s:Nat),s=qn*V.getD i 0+cy->((1-(U.getD i 0+BB-s%BB-bo)/BB:Nat):Int)=((bh BB qn U V 0 (i+1) 0 0).2.1:Nat)/\((s/BB:Nat):Int)=((bh BB qn U V 0 (i+1) 0 0).2.2:Nat):=λs hs=>by
    rw[hsn,hs];exact⟨rfl,rfl⟩
   have ed:∀s:Nat,wrap .u64 (wrap .u64 (wrap .u64 (((U.getD i 0:Nat):Int)+1000000000)-((s%BB:Nat):Int))-(bo:Int))=((U.getD i 0+BB-s%BB-bo:Nat):Int):=λs=>by
    have hm:=mod_lt s hB0;generalize s%BB=z at hm;have a1:wrap .u64 (((U.getD i 0:Nat):Int)+1000000000)=((U.getD i 0+BB:Nat):Int):=wU (by omega) (by omega);have a2:wrap .u64 (((U.getD i 0+BB:Nat):Int)-(z:Int))=((U.getD i 0+BB-z:Nat):Int):=wU (by omega) (by omega);have a3:wrap .u64 (((U.getD i 0+BB-z:Nat):Int)-(bo:Int))=((U.getD i 0+BB-z-bo:Nat):Int):=wU (by omega) (by omega);rw[a1,a2,a3]
   have e1b:∀s:Nat,wrap .u64 (1-(((U.getD i 0+BB-s%BB-bo)/BB:Nat):Int))=((1-(U.getD i 0+BB-s%BB-bo)/BB:Nat):Int):=λs=>by
    have h9:(U.getD i 0+BB-s%BB-bo)/BB<2:=div_lt_of_lt_mul (by omega);generalize (U.getD i 0+BB-s%BB-bo)/BB=z at h9⊢;exact wU (by omega) (by omega)
   refine ae (λh6=>?_) (λh6=>?_)
   ·have h6:=dT h6;obtain⟨p,g2,g3⟩:=Bp (D.rd g ok) (i:=(i:Int)) (by omega) (by omega);rw[toNat_natCast]at g3;refine⟨p,g2,_,g3,_,ti (by omega) (by omega),_,by rw[toNat_natCast];exact hl,?_⟩;have e2:wrap .u64 ((cy:Int)+wrap .u64 ((qn:Int)*((V.getD i 0:Nat):Int)))=((qn*V.getD i 0+cy:Nat):Int):=by
     have e0:wrap .u64 ((qn:Int)*((V.getD i 0:Nat):Int))=((qn*V.getD i 0:Nat):Int):=wU (by rw[Int.natCast_mul]) (by omega);rw[e0];exact wU (by omega) (by omega)
    rw[e2];refine⟨_,zH,?_⟩;dsimp only;rw[ed];have hm:=mod_lt (qn*V.getD i 0+cy) hB0;refine⟨_,zH,_,Ca (by omega),_,Ca (by omega),_,ti (by omega) (by omega),_,by rw[toNat_natCast];exact step _ rfl,?_⟩;rw[e1b];refine Ft (mz-1) (by omega) ⟨by omega,by omega,(fin _ rfl).1,(fin _ rfl).2,?_,ok.set hkn _⟩;show(g.set k _).get k=_;rw[aa.aX,if_pos rfl]
   ·have h6:=dF h6;have hv0:V.getD i 0=0:=by rw[gD,getElem?_eq_none (by omega)];rfl
    have hs0:cy=qn*V.getD i 0+cy:=by rw[hv0,Nat.mul_zero,zero_add]
    refine⟨_,ti (by omega) (by omega),_,by rw[toNat_natCast];exact hl,_,zH,?_⟩;dsimp only;rw[ed];have hm:=mod_lt cy hB0;refine⟨_,zH,_,Ca (by omega),_,Ca (by omega),_,ti (by omega) (by omega),_,by rw[toNat_natCast];exact step _ hs0,?_⟩;rw[e1b];refine Ft (mz-1) (by omega) ⟨by omega,by omega,(fin _ hs0).1,(fin _ hs0).2,?_,ok.set hkn _⟩;show(g.set k _).get k=_;rw[aa.aX,if_pos rfl]
  ·have h5:=dF h5;obtain rfl:i=m+1:=by omega
   obtain⟨d0,d1,d2⟩:=CA eU D.ult D.UQ D.ul D.vl hqB hhi hlo;have hwlt:=qt (q:=qn) eU U V (m+1) 0 0 0;rw[hst]at d0 d1 d2 hwlt;dsimp only at d0 d1 d2 hwlt;rw[drop_of_length_le (by omega),List.append_nil]at hg;refine ae (λh6=>?_) (λh6=>?_)
   ·have h6:(bo:Int)=0:=by simpa using h6
    obtain⟨e1,e2⟩:=d1 (by omega);exact⟨Wl,hel,hwlt,e2,by rw[e1];rfl,hg,ok⟩
   ·have h6:¬(bo:Int)=0:=by simpa using h6
    obtain⟨e0,e1,e2⟩:=d2 (by omega);rw[hwm];exact L3 qn Wl e0 hqB hel hwlt e1 e2 (m+1) (i:=0) ⟨by omega,by omega,rfl,by simpa[aL]using hg,ok⟩)
 have hv1:=D.v1;have htop:U.getD m 0*BB+U.getD (m-1) 0<1000000000000000000:=by
  have a1:=ug m;have a2:=ug (m-1);have a3:U.getD m 0*BB=1000000000*U.getD m 0:=by rw[hBv,mul_comm]
  omega
 have L1:=qS (some ⟨k,off,none⟩) (m+1) c b m d (λmz q rest g=>∃qn rn:Nat,q=(qn:Int)/\rest=(rn:Int)/\mz=qn/\fB BB m U V qn rn/\g.get k=some (.cells (bI cs off U) 117 1 true)/\Ez h k g) (Cy h k off cs m U V) (by
  intro mz q rest;intros;rename_i g hi;obtain⟨qn,rn,rfl,rfl,rfl,T,hg,ok⟩:=hi;have hT:=T.eq;have hfit:=D.fit;have hrl:rn<1000000000000000000:=Nat.lt_of_le_of_lt (by rw[<-hT];omega) htop;have hql:mz<1000000000000000000:=by
   refine Nat.lt_of_le_of_lt ?_ htop;rw[<-hT];have:=Nat.le_mul_of_pos_right mz hv1;omega
  have ok':=ok.room 28;have hg':(room g 28).get k=some (.cells (bI cs off U) 117 1 true):=hg;have hv1B:=vg (m-1);have hj:((m-1:Nat):Int).toNat=m-1:=by omega
  obtain⟨p1,g2,g3⟩:=Bp (D.rd _ ok') (i:=((m-1:Nat):Int)) (by omega) (by omega);rw[hj]at g3;have er:wrap .u64 ((rn:Int)+((V.getD (m-1) 0:Nat):Int))=((rn+V.getD (m-1) 0:Nat):Int):=wU (by omega) (by omega);have leave:∀(qn':Nat),qn'<BB->Num.bv BB U<(qn'+1)*Num.bv BB V->qn'*Num.bv BB V<Num.bv BB U+Num.bv BB V->_:=λqn' h1 h2 h3=>L2 qn' h1 h2 h3;have low:Num.bv BB U<mz*Num.bv BB V->0<mz/\fB BB m U V (mz-1) (rn+V.getD (m-1) 0):=λhl=>⟨by
   rcases Nat.eq_zero_or_pos mz with e|e
   ·subst e;rw[zero_mul]at hl;omega
   ·exact e,T.lower hl⟩
  have broke:mz-1<BB->BB<=rn+V.getD (m-1) 0->fB BB m U V (mz-1) (rn+V.getD (m-1) 0)->(mz-1)*Num.bv BB V<Num.bv BB U+Num.bv BB V:=λh1 h2 T'=>
   T'.last eU D.ul D.vl hmp D.UQ hv1 h1 λ_=>rh h1 (vg (m-2)) h2
  have body:Num.bv BB U<mz*Num.bv BB V->True:=λ_=>trivial;rw[hw1];refine ae (λh5=>?_) (λh5=>?_)
  ·have h5:=dT h5;obtain⟨hq0,T'⟩:=low (fB.Vy D.lt (by omega));have eq1:wrap .u64 ((mz:Int)-1)=((mz-1:Nat):Int):=wU (by omega) (by omega);rw[eq1];refine⟨p1,g2,_,g3,?_⟩;dsimp only;rw[er];generalize hzz:decide (((mz-1:Nat):Int)<1000000000)=bz;refine ae (λh6=>ae (λh7=>?_) (λh7=>?_)) (λh6=>?_)
   ·subst hzz;have h6:=dT h6;have h7:=dT h7;rw[hwm];exact L2 (mz-1) (by omega) T'.hi (broke (by omega) (by omega) T') (m+1) (i:=0) ⟨by omega,by omega,rfl,rfl,by simpa[bh]using hg',ok'⟩
   ·exact iN (mz-1) (by omega) ⟨mz-1,_,rfl,rfl,rfl,T',hg',ok'⟩
   ·exact iN (mz-1) (by omega) ⟨mz-1,_,rfl,rfl,rfl,T',hg',ok'⟩
  ·have h5:=dF h5;have hqB:mz<BB:=by omega
   have done:(1<m->mz*V.getD (m-2) 0<=rn*BB+U.getD (m-2) 0)->mz*Num.bv BB V<Num.bv BB U+Num.bv BB V:=λhs=>T.last eU D.ul D.vl hmp D.UQ hv1 hqB hs;refine ae (λh6=>?_) (λh6=>?_)
   ·have h6:=dT h6;have hm1:1<m:=by omega
    rw[hw2 hm1];generalize hzz:decide ((rn:Int)<1000000000)=bz;refine ae (λh7=>?_) (λh7=>?_)
    ·subst hzz;have h7:=dT h7;have hj2:((m-2:Nat):Int).toNat=m-2:=by omega
     obtain⟨p2,g4,g5⟩:=Bp (D.rd _ ok') (i:=((m-2:Nat):Int)) (by omega) (by omega);rw[hj2]at g5;have hl:=ze hg' hfit (i:=m-2) (by omega);refine⟨p2,g4,_,g5,_,ti (by omega) (by omega),_,by rw[hj2];exact hl,?_⟩;have hv2:=vg (m-2);have hu2:=ug (m-2);have hqv:mz*V.getD (m-2) 0<=999999999*999999999:=mul_le_mul (by omega) (by omega);have ea:wrap .u64 ((mz:Int)*((V.getD (m-2) 0:Nat):Int))=((mz*V.getD (m-2) 0:Nat):Int):=wU (by rw[Int.natCast_mul]) (by omega);obtain⟨RB,hRB⟩:∃x,x=rn*BB:=⟨_,rfl⟩
     have hRB':RB=1000000000*rn:=by rw[hRB,hBv,mul_comm]
     obtain⟨MV,hMV⟩:∃x,x=mz*V.getD (m-2) 0:=⟨_,rfl⟩
     rw[<-hMV]at hqv ea;have eb:wrap .u64 ((rn:Int)*1000000000)=(RB:Int):=wU (by omega) (by omega);have ec:wrap .u64 ((RB:Int)+((U.getD (m-2) 0:Nat):Int))=((RB+U.getD (m-2) 0:Nat):Int):=wU (by omega) (by omega);dsimp only;rw[ea,eb,ec];generalize hyy:decide ((MV:Int)>((RB+U.getD (m-2) 0:Nat):Int))=by_;refine ae (λh8=>?_) (λh8=>?_)
     ·subst hyy;have h8:=dT h8;obtain⟨hq0,T'⟩:=low (T.second D.ul D.vl hm1 D.ult (by rw[<-hRB,<-hMV];omega));have eq1:wrap .u64 ((mz:Int)-1)=((mz-1:Nat):Int):=wU (by omega) (by omega);rw[eq1];refine⟨p1,g2,_,g3,?_⟩;dsimp only;rw[er];generalize hxx:decide (((mz-1:Nat):Int)<1000000000)=bx;refine ae (λh9=>ae (λh10=>?_) (λh10=>?_)) (λh9=>?_)
      ·have h9:=dT h9;rw[hwm];exact L2 (mz-1) (by omega) T'.hi (broke (by omega) (by omega) T') (m+1) (i:=0) ⟨by omega,by omega,rfl,rfl,by simpa[bh]using hg',ok'⟩
      ·exact iN (mz-1) (by omega) ⟨mz-1,_,rfl,rfl,rfl,T',hg',ok'⟩
      ·exact iN (mz-1) (by omega) ⟨mz-1,_,rfl,rfl,rfl,T',hg',ok'⟩
     ·subst hyy;have h8:=dF h8;rw[hwm];exact L2 mz hqB T.hi (done λ_=>by rw[<-hRB,<-hMV];omega) (m+1) (i:=0) ⟨by omega,by omega,rfl,rfl,by simpa[bh]using hg',ok'⟩
    ·subst hzz;have h7:=dF h7;rw[hwm];exact L2 mz hqB T.hi (done λ_=>rh hqB (vg (m-2)) (by omega)) (m+1) (i:=0) ⟨by omega,by omega,rfl,rfl,by simpa[bh]using hg',ok'⟩
   ·have h6:=dF h6;rw[hwm];exact L2 mz hqB T.hi (done λhm=>by omega) (m+1) (i:=0) ⟨by omega,by omega,rfl,rfl,by simpa[bh]using hg',ok'⟩)
 have ok1:=(Ez.refl (k:=k) D.w).room 12;have ok2:=ok1.room 16;have hfit:=D.fit;have hj:((m-1:Nat):Int).toNat=m-1:=by omega
 have hl1:=ze (g:=room h 12) D.get hfit (i:=m) (by omega);have hl2:=ze (g:=room h 12) D.get hfit (i:=m-1) (by omega);obtain⟨p1,g2,g3⟩:=Bp (D.rd _ ok2) (i:=((m-1:Nat):Int)) (by omega) (by omega);rw[hj]at g3;have a1:=ug m;have a2:=ug (m-1);refine FQ _ _ _ _ _ _ h _ ⟨_,ti (by omega) (by omega),_,by rw[toNat_natCast];exact hl1,?_⟩;rw[hw1];refine⟨_,ti (by omega) (by omega),_,by rw[hj];exact hl2,p1,g2,_,g3,?_⟩;obtain⟨TB,hTB⟩:∃x,x=U.getD m 0*BB:=⟨_,rfl⟩
 have hTB':TB=1000000000*U.getD m 0:=by rw[hTB,hBv,mul_comm]
 have ea:wrap .u64 (((U.getD m 0:Nat):Int)*1000000000)=(TB:Int):=wU (by omega) (by omega);have eb:wrap .u64 ((TB:Int)+((U.getD (m-1) 0:Nat):Int))=((TB+U.getD (m-1) 0:Nat):Int):=wU (by omega) (by omega);rw[ea,eb];have hstart:=fB.start eU D.ul D.vl hmp D.ult hv1;rw[<-hTB]at hstart;refine⟨_,Ob (by omega) hv1,p1,g2,_,g3,_,Sg hv1,?_⟩;exact L1 _ ⟨_,_,rfl,rfl,rfl,hstart,D.get,ok2⟩
theorem cZ.Xq{h0 h1 h:aa}{e:TypeId}{v:Value}{vs:List Value}(hn:h0.next<=h1.next)(o:cZ h1 h e v vs):cZ h0 h e v vs:=by
 rcases o with o|⟨k,cs,h1',h2,h3,h4,h5⟩
 ·exact .inl o
 ·exact .inr ⟨k,cs,h1',Nat.le_trans hn h2,h3,h4,h5⟩
theorem SF(k:Int):jI SS.P 117 (.int .u64 k)=some (.cells [.int .u64 k] 117 0 true,nV):=by kernel_rfl
theorem tG{h:aa}{a:Option Addr}{n c:Nat}{x:List Nat}(ra:Rd h 117 (.slice a n c) (x.map uv))(hx:∀d∈x,d<BB)(hlen:x.length<=10000){k:Nat}(hk0:0<k)(hk:k<=BB)(w:Wf h):
  FW SS 190 [.slice a n c,.int .u64 (k:Int)] h (gk h 117 (bl (Num.bv BB x*k))):=by
 have ok:=(Ok.refl w).push (.cells [.int .u64 (k:Int)] 117 0 true);refine Dj a n c _ h _ ⟨_,SF _,?_⟩;have hp:ai SS.P 117 (h.push (.cells [.int .u64 (k:Int)] 117 0 true)) (.pointer (some ⟨h.next,0,none⟩))=some (.int .u64 (k:Int)):=by
  unfold ai;rw[JM];dsimp only;rw[aa.aR,if_pos rfl];dsimp only;rw[I5];rfl
 refine(AD (ra.ok ok) hx hlen hp hk0 hk ok.wf).mono ?_;rintro _ h3 ⟨a4,n5,c6,rfl,o,ok3⟩;exact⟨a4,n5,c6,rfl,a4,n5,c6,rfl,cZ.Xq (Nat.le_succ _) o,ok.trans ok3⟩
def ya(h:aa)(k off n c:Nat)(l:List Nat):Prop:=∃cs wr,h.get k=some (.cells cs 117 1 wr)/\n=l.length/\(cs.drop off).take n=l.map uv/\n<=bn c
theorem ya.rd{h:aa}{k off n c:Nat}{l:List Nat}(r:ya h k off n c l):Rd h 117 (.slice (some ⟨k,off,none⟩) n c) (l.map uv):=by
 obtain⟨cs,wr,h1,rfl,h3,h4⟩:=r;exact .inr ⟨k,off,cs,c,wr,by rw[lM],h1,by rw[lM];exact h3⟩
theorem ya.take{h:aa}{k off n c:Nat}{l:List Nat}(r:ya h k off n c l){j:Nat}(hj:j<=n):bt SS.P 150 (.slice (some ⟨k,off,none⟩) n c) none (some (.int .i64 (j:Int))) none h=some (.slice (some ⟨k,off,none⟩) j c)/\ya h k off j c (l.take j):=by
 obtain⟨cs,wr,h1,rfl,h3,h4⟩:=r;refine⟨?_,cs,wr,h1,by rw[length_take];omega,?_,by omega⟩
 ·unfold bt;dsimp only;rw[vX];dsimp only[eu];rw[Ai,h1];dsimp only;have e2:((j:Int)-((0:Nat):Int)).toNat=j:=by omega
  have e0:((0:Nat):Int).toNat=0:=rfl;rw[if_pos (by simp),if_pos (by omega),e2,e0];rfl
 ·have:=congrArg (List.take j) h3;rwa[take_take,min_eq_left hj,<-map_take]at this
theorem mK{h:aa}{k off n c:Nat}{l:List Nat}(r:ya h k off n c l)(hlen:l.length<=100000):
  FW SS 139 [.slice (some ⟨k,off,none⟩) n c] h (λv h'=>v = .slice (some ⟨k,off,none⟩) (cJ l).length c/\h'=h):=by
 have hn:n=l.length:=by obtain⟨_,_,_,h2,_⟩:=r;exact h2
 have L:=lZ (some ⟨k,off,none⟩) n c (λmz r m d g=>m<=l.length/\mz=m/\r=some ⟨k,off,none⟩/\d=c/\ya h k off m c (l.take m)/\cJ l=cJ (l.take m)/\g=h) (λv h'=>v = .slice (some ⟨k,off,none⟩) (cJ l).length c/\h'=h) (by
  intro mz r m d;intros;rename_i g hi;obtain⟨h1,rfl,rfl,rfl,h3,h4,rfl⟩:=hi;have hw:wrap .i64 ((mz:Int)-1)=(mz:Int)-1:=aA (by omega) (by omega);rw[hw];have hm:mz≠0->l.take mz=l.take (mz-1)++[l.getD (mz-1) 0]:=λhm=>by
   obtain⟨j,rfl⟩:∃j,mz=j+1:=⟨mz-1,by omega⟩
   rw[List.take_succ_eq_append_getElem (by omega),Nat.add_sub_cancel,gD,gE (by omega)];rfl
  refine ae (λh5=>?_) (λh5=>?_)
  ·have h5:=dT h5;obtain⟨p,g2,g3⟩:=Bp h3.rd (i:=(mz:Int)-1) (by omega) (by rw[length_take];omega);have e1:(l.take mz).getD ((mz:Int)-1).toNat 0=l.getD (mz-1) 0:=by
    rw[show((mz:Int)-1).toNat=mz-1 by omega,gD,List.getElem?_take,if_pos (by omega),gD]
   rw[e1]at g3;refine⟨p,g2,_,g3,ae (λh6=>?_) (λh6=>?_)⟩
   ·have h6:((l.getD (mz-1) 0:Nat):Int)=0:=by simpa using h6
    have h6:l.getD (mz-1) 0=0:=by omega
    obtain⟨g4,g5⟩:=h3.take (j:=mz-1) (by omega);rw[show((mz:Int)-1)=((mz-1:Nat):Int) by omega];refine⟨_,_,_,g4,Ft (mz-1) (by omega) ⟨by omega,rfl,rfl,rfl,?_,?_,rfl⟩⟩
    ·rw[take_take,min_eq_left (by omega)]at g5;exact g5
    ·rw[h4,hm (by omega),h6,gy]
   ·have h6:¬((l.getD (mz-1) 0:Nat):Int)=0:=by simpa using h6
    refine⟨?_,rfl⟩;rw[h4,hm (by omega),ir _ (by omega),<-hm (by omega),length_take,min_eq_left h1]
  ·have h5:=dF h5;obtain rfl:mz=0:=by omega
   refine⟨?_,rfl⟩;rw[h4];rfl)
 exact zg _ n c h _ (L n ⟨by omega,rfl,rfl,rfl,by rw[show l.take n=l by rw[hn,take_length]];exact r,by rw[show l.take n=l by rw[hn,take_length]],rfl⟩)
theorem Ah:∀n,cd [uv 0] n=(List.replicate n 0).map uv
 |0=>rfl
 |n+1=>by rw[cd,Ah n];rfl
noncomputable def OW:TypeInfo:=(SS.P.info? 117).getD default
theorem OX:SS.P.info? 117=some OW:=by kernel_rfl
theorem IG:OW.size=1:=by kernel_rfl
theorem GI:OW.bytes=8:=by kernel_rfl
theorem RQ:zeroOf SS.P 117=some (uv 0):=by kernel_rfl
theorem Sa(n:Nat)(hn:n<=100000):bL SS.P 150 (.int .i64 (n:Int)) (.int .i64 (n:Int))=some (.cells ((List.replicate n 0).map uv) 117 1 true,my n n):=by
 unfold bL aS;dsimp only;rw[vX]
 try dsimp only
 change (match SS.P.info? 117,zeroOf SS.P 117 with
  |some i,some z=>(if z.cells.size=i.size/\0<i.size/\(0:Int)<=(n:Int)/\(n:Int)<=(n:Int)/\(n:Int)*i.bytes<=140737488355328/\(n:Int)<=1099511627776 then some (bO.cells (cd z.cells.toList (n:Int).toNat) 117 i.size true,λk=>Value.slice (some ⟨k,0,none⟩) (n:Int).toNat (n:Int).toNat)else none)
  |_,_=>none)=_
 rw[OX,RQ];dsimp only;rw[IG,GI,if_pos ⟨rfl,by omega,by omega,Int.le_refl _,by omega,by omega⟩];have e:((n:Int)).toNat=n:=by omega
 rw[e,show(uv 0).cells.toList=[uv 0]from rfl,Ah];rfl
theorem kn{C:List Value}{off:Nat}{W:List Nat}(h:(C.drop off).take W.length=W.map uv):bI C off W=C:=by
 unfold bI;rw[<-h,append_assoc,<-List.drop_drop,List.take_append_drop,List.take_append_drop]
theorem Ay{C:List Value}{U W W':List Nat}{at':Nat}(hU:at'+W'.length<=U.length)(hl:U.length<=C.length)(hw:W'.length=W.length)(hW:(U.drop at').take W.length=W):
  bI (bI C 0 U) at' W'=bI C 0 (U.take at'++W'++U.drop (at'+W'.length)):=by
 unfold bI;have h1:(C.take 0++U.map uv++C.drop (0+U.length)).take at'=(U.take at').map uv:=by
  rw[take_zero,nil_append,List.take_append_of_le_length (by rw[lM];omega),map_take]
 have h2:(C.take 0++U.map uv++C.drop (0+U.length)).drop (at'+W'.length)=(U.drop (at'+W'.length)).map uv++C.drop (0+U.length):=by
  rw[take_zero,nil_append,List.drop_append_of_le_length (by rw[lM];omega),map_drop]
 have h3:(U.take at'++W'++U.drop (at'+W'.length)).length=U.length:=by
  simp only[length_append,length_take,length_drop];omega
 rw[h1,h2,h3,map_append,map_append,take_zero,nil_append,append_assoc,append_assoc,append_assoc]
theorem mX{C:List Value}{U:List Nat}{at' n:Nat}(hU:at'+n<=U.length):((bI C 0 U).drop at').take n=((U.drop at').take n).map uv:=by
 unfold bI;rw[take_zero,nil_append,List.drop_append_of_le_length (by rw[lM];omega),List.take_append_of_le_length (by rw[length_drop,lM];omega),<-map_drop,<-map_take]
theorem zb{C:List Value}{off:Nat}{W:List Nat}(h:off+W.length<=C.length):(bI C off W).length=C.length:=by
 unfold bI;simp only[length_append,length_take,lM,length_drop];omega
theorem ya.D7{h:aa}{k off n c:Nat}{l:List Nat}(r:ya h k off n c l){lo hi:Nat}(h1:lo<=hi)(h2:hi<=n):bt SS.P 150 (.slice (some ⟨k,off,none⟩) n c) (some (.int .i64 (lo:Int))) (some (.int .i64 (hi:Int))) none h=some (.slice (some ⟨k,off+lo,none⟩) (hi-lo) (c-lo)):=by
 obtain⟨cs,wr,h1',rfl,h3,h4⟩:=r;unfold bt;dsimp only;rw[vX];dsimp only[eu];rw[Ai,h1'];dsimp only;have e1:((hi:Int)-(lo:Int)).toNat=hi-lo:=by omega
 have e0:((lo:Nat):Int).toNat=lo:=by omega
 rw[if_pos (by simp),if_pos (by omega),e1,e0,mul_one]
structure Sp(h2 G:aa)(ku kv kq:Nat)(cu:List Value)(cv:List Value)(U Ql:List Nat)(N m XK V j:Nat):Prop where
 ok:Ok h2 G
 w2:Wf h2
 u2:h2.next<=ku
 q2:h2.next<=kq
 gu:G.get ku=some (.cells (bI cu 0 U) 117 1 true)
 gv:G.get kv=some (.cells cv 117 1 true)
 gq:G.get kq=some (.cells (bI ((List.replicate (N+1-m) 0).map uv) 0 Ql) 117 1 true)
 Xp:ku≠kv
 uq:ku≠kq
 vq:kv≠kq
 ul:U.length=N+1
 cl:N+1<=cu.length
 Tl:Ql.length=N+1-m
 RL:(cv.take (aE BB V).length)=bl V
 inv:fU BB m V XK U Ql j
end Go.Proofs.YtaheifbogkjpdaaGreatDoor
end
section
set_option linter.defProp false
namespace Go.Proofs.YtaheifbogkjpdaaGreatDoor
open Go Go.Ab Go.Num
def Cz(h:aa)(X Y:Nat):VH:=λv h'=>∃(a1:Option Addr)(n1 c1:Nat)(a2:Option Addr)(n2 c2:Nat),v = .tuple ⟨[.slice a1 n1 c1,.slice a2 n2 c2]⟩/\Rd h' 117 (.slice a1 n1 c1) (bl (X/Y))/\Rd h' 117 (.slice a2 n2 c2) (bl (X%Y))/\Ok h h'
theorem xu{g:aa}{k n c:Nat}{C:List Value}{l:List Nat}(hg:g.get k=some (.cells (bI C 0 l) 117 1 true))(hn:n=l.length)(hc:n<=bn c):ya g k 0 n c l:=by
 refine⟨_,_,hg,hn,?_,hc⟩;subst hn;rw[mX (by omega),drop_zero,take_length]
theorem vk{g:aa}{k n c:Nat}{l:List Nat}(r:ya g k 0 n c l)(hl:∀d∈l,d<BB):Rd g 117 (.slice (some ⟨k,0,none⟩) (cJ l).length c) (bl (Num.bv BB l)):=by
 obtain⟨h1,h2⟩:=sM l;have hn:n=l.length:=by obtain⟨_,_,_,h,_⟩:=r;exact h
 have h3:=(r.take (j:=(cJ l).length) (by omega)).2.rd;rw[h1,iY eU hl]at h3;rw[iY eU hl];exact h3
def Qa{h:aa}(w:Wf h){X Y ku kq rl rc L k R:Nat}{C Zq:List Value}{Ql:List Nat}(hku:h.next<=ku)(hkq:h.next<=kq)(hne:ku≠kq)(hrl:rl<=C.length)(hrl2:rl<=10000)(hL:L=Ql.length)(hL2:L<=10000)(hcap:rl<=bn rc)(hcapL:L<=bn L)(k0:0<k)(kB:k<=BB)
  (hQ:∀d∈Ql,d<BB) (hq:Num.bv BB Ql=X/Y) (hr:R/k=X%Y) (a:Option Addr) (n c:Nat) (b:Option Addr) (m d:Nat):=
 pK a n c b m d (k:Int) (some ⟨kq,0,none⟩) L L (some ⟨ku,0,none⟩) rl rc (rl:Int)
  (λmz i left g=>i<=rl/\mz=rl-i/\(∃(r:List Nat)(ln:Nat),r.length=rl/\left=(ln:Int)/\iV BB k R r (rl-i) ln/\g.get ku=some (.cells (bI C 0 r) 117 1 true))/\g.get kq=some (.cells (bI Zq 0 Ql) 117 1 true)/\Ok h g) (Cz h X Y) (by
  intro mz i left;intros;rename_i g hi;obtain⟨h1,h2,⟨r,ln,hrlen,rfl,inv,hg⟩,hgq,ok⟩:=hi;have hBv:BB=1000000000:=rfl;have hw1:wrap .i64 ((rl:Int)-1)=(rl:Int)-1:=aA (by omega) (by omega);have hw2:wrap .i64 ((rl:Int)-1-(i:Int))=(rl:Int)-1-(i:Int):=aA (by omega) (by omega);have hw3:wrap .i64 ((i:Int)+1)=((i+1:Nat):Int):=by rw[aA (by omega) (by omega)];omega
  rw[hw1,hw2,hw3];refine ae (λh5=>?_) (λh5=>?_)
  ·have h5:=dT h5;have hj:((rl:Int)-1-(i:Int)).toNat=rl-1-i:=by omega
   have hl:=ze hg (by rw[hrlen];omega) (i:=rl-1-i) (by rw[hrlen];omega);have hlt:=inv.lt;have hrj:r.getD (rl-1-i) 0<BB:=aG (by decide) inv.rl _;obtain⟨LB,hLB⟩:∃x,x=ln*BB:=⟨_,rfl⟩
   have hLB':LB=1000000000*ln:=by rw[hLB,hBv,mul_comm]
   have ea:wrap .u64 ((ln:Int)*1000000000)=(LB:Int):=wU (by omega) (by omega);have eb:wrap .u64 ((LB:Int)+((r.getD (rl-1-i) 0:Nat):Int))=((LB+r.getD (rl-1-i) 0:Nat):Int):=wU (by omega) (by omega);refine⟨_,ti (by omega) (by omega),_,by rw[hj];exact hl,?_⟩;dsimp only;rw[ea,eb];refine⟨_,Ob (by omega) k0,_,Sg k0,_,ti (by omega) (by omega),?_⟩;have hst:=zT (g:=room g 11) hg (by rw[hrlen];omega) (i:=rl-1-i) (by rw[hrlen];omega) ((LB+r.getD (rl-1-i) 0)/k);have ok':=ok.room 11;have hkn:=ok'.wf _ _ (show(room g 11).get ku=_ from hg);refine⟨_,by rw[hj];exact hst,?_⟩;have hstep:=iV.step (at':=rl-1-i) k0 (by rw[show rl-1-i+1=rl-i by omega];exact inv);rw[<-hLB]at hstep;refine iN (mz-1) (by omega) ⟨by omega,by omega,⟨r.set (rl-1-i) ((LB+r.getD (rl-1-i) 0)/k),(LB+r.getD (rl-1-i) 0)%k,by rw[length_set,hrlen],rfl,by rw[show rl-(i+1)=rl-1-i by omega];exact hstep,?_⟩,?_,ok'.set _ hku hkn w⟩
   ·show((room g 11).set ku _).get ku=_;rw[aa.aX,if_pos rfl]
   ·show((room g 11).set ku _).get kq=_;rw[aa.aX,if_neg (λe=>hne e.symm)];exact hgq
  ·have h5:=dF h5;obtain rfl:i=rl:=by omega
   rw[Nat.sub_self]at inv;have hdone:=inv.done k0;have r1:=xu hgq hL hcapL;have r2:=xu hg hrlen.symm hcap;refine(mK r1 (by omega)).mono ?_;rintro _ _ ⟨rfl,rfl⟩;refine⟨_,_,_,rfl,(mK r2 (by omega)).mono ?_⟩;rintro _ _ ⟨rfl,rfl⟩;refine⟨_,_,_,rfl,_,_,_,_,_,_,rfl,?_,?_,ok⟩
   ·have:=vk r1 hQ;rw[hq]at this;exact this
   ·have:=vk r2 inv.rl;rw[hdone,hr]at this;exact this)
theorem Ok.ZA{h G G':aa}{k:Nat}(o:Ok h G)(w:Wf h)(x:Ez G k G')(hk:h.next<=k):Ok h G':=
 ⟨x.wf,λj B hj=>x.fc j B (λe=>by have:=w _ _ hj;omega) (o.ext j B hj),Nat.le_trans o.nx x.nx⟩
def Qb{h2:aa}{X Y N m L k ku kv kq ec:Nat}{cu cv:List Value}(hY:0<Y)(hm:0<m)(hmN:m<=N)(hN:N<=5000)(hL:L=N+1-m)(k0:0<k)(kB:k<=BB)(hVl:(aE BB (Y*k)).length=m)(hVB:Y*k<=BB^m)(a:Option Addr)(n c:Nat)(b:Option Addr)(d:Nat):=
 pJ a n c b m d (k:Int) (some ⟨kq,0,none⟩) L L (some ⟨ku,0,none⟩) (N+1) (bV+cu.length) (some ⟨kv,0,none⟩) m ec (L:Int)
  (λmz i G=>i<=L/\mz=L-i/\∃U Ql:List Nat,Sp h2 G ku kv kq cu cv U Ql N m (X*k) (Y*k) (L-i)) (Cz h2 X Y) (by
  intro mz i;intros;rename_i G hi;obtain⟨h1,h2',U,Ql,D⟩:=hi;have hYk:0<Y*k:=mul_pos hY k0;have hw1:wrap .i64 ((L:Int)-1)=(L:Int)-1:=aA (by omega) (by omega);have hw3:wrap .i64 ((i:Int)+1)=((i+1:Nat):Int):=by rw[aA (by omega) (by omega)];omega
  have hcap:bn (bV+cu.length)=cu.length:=by unfold bn;rw[if_pos (by omega)];omega
  have hul:=D.ul;have hcl:=D.cl;have hql:=D.Tl;have ru:=xu (c:=bV+cu.length) D.gu hul.symm (by rw[hcap];exact hcl);rw[hw1];refine ae (λh5=>?_) (λh5=>?_)
  ·have h5:=dT h5;obtain⟨at',hat⟩:∃x,x=L-1-i:=⟨_,rfl⟩
   have hw2:wrap .i64 ((L:Int)-1-(i:Int))=(at':Int):=by rw[aA (by omega) (by omega)];omega
   have hw4:wrap .i64 ((at':Int)+(m:Int))=((at'+m:Nat):Int):=by rw[aA (by omega) (by omega)];omega
   have hw5:wrap .i64 (((at'+m:Nat):Int)+1)=((at'+m+1:Nat):Int):=by rw[aA (by omega) (by omega)];omega
   rw[hw2,hw4,hw5,hw3];have hinv:fU BB m (Y*k) (X*k) U Ql (at'+1):=by rw[show at'+1=L-i by omega];exact D.inv
   obtain⟨w1,w2,w3⟩:=hinv.D7 eU hVB;have hwin:=ru.D7 (lo:=at') (hi:=at'+m+1) (by omega) (by omega);rw[show at'+m+1-at'=m+1 by omega,zero_add]at hwin;refine⟨_,_,_,hwin,?_⟩;have hC:(bI cu 0 U).length=cu.length:=zb (by omega);have DI:RU G ku at' (bV+cu.length-at') m (bI cu 0 U) ((U.drop at').take (m+1)) (aE BB (Y*k)) (some ⟨kv,0,none⟩) ec:={
    w:=D.ok.wf
    get:=by
     rw[kn (by rw[w3];exact mX (by omega))];exact D.gu
    fit:=by rw[w3,hC];omega
    ul:=w3
    vl:=hVl
    mp:=hm
    Zk:=by omega
    ult:=λx hx=>hinv.ul x (List.mem_of_mem_drop (List.mem_of_mem_take hx))
    UQ:=cg eU _
    v1:=by have:=Bg eU hYk;rwa[hVl]at this
    lt:=by rw[bB eU];exact w2
    rd:=λg og=> .inr ⟨kv,0,cv,ec,true,by rw[lM,hVl],og.fc _ _ (λe=>D.Xp e.symm) D.gv,by rw[drop_zero,lM];exact D.RL⟩ }
   refine(FT DI).mono ?_;rintro _ g3 ⟨W',wl,wlt,wbv,rfl,wget,wok⟩;rw[bB eU]at wbv;have hqd:Num.bv BB ((U.drop at').take (m+1))/Num.bv BB (aE BB (Y*k))=Num.bv BB ((U.drop at').take (m+1))/(Y*k):=by rw[bB eU]
   rw[hqd];have hdB:Num.bv BB ((U.drop at').take (m+1))/(Y*k)<BB:=div_lt_of_lt_mul (by rw[mul_comm];exact w2);have gq3:=wok.fc _ _ (λe=>D.uq e.symm) D.gq;have gv3:=wok.fc _ _ (λe=>D.Xp e.symm) D.gv;have ok3:=Ok.ZA D.ok D.w2 wok D.u2;have hzl:((List.replicate (N+1-m) 0).map uv).length=N+1-m:=by rw[lM,length_replicate]
   have hst:=zT gq3 (by rw[hzl];omega) (i:=at') (by omega) (Num.bv BB ((U.drop at').take (m+1))/(Y*k));have hkn:=ok3.wf _ _ gq3;have hid:=ti (k:=kq) (off:=0) (n:=L) (c:=L) (i:=(at':Int)) (by omega) (by omega);rw[toNat_natCast]at hid;refine⟨_,rfl,_,hid,_,hst,?_⟩;have hsplit:Num.bv BB ((U.drop at').take (m+1))=Num.bv BB W'+Num.bv BB ((U.drop at').take (m+1))/(Y*k)*(Y*k):=by
    have h9:=Nat.mod_add_div (Num.bv BB ((U.drop at').take (m+1))) (Y*k);rw[mul_comm (Y*k)]at h9;rw[wbv];exact h9.symm
   have hnew:=hinv.step eU hVB wlt wl hdB hsplit (by rw[wbv];exact mod_lt _ hYk);refine cH (mz-1) (by omega) ⟨by omega,by omega,U.take at'++W'++U.drop (at'+(m+1)),Ql.set at' (Num.bv BB ((U.drop at').take (m+1))/(Y*k)),{
    ok:=ok3.set _ D.q2 hkn D.w2
    w2:=D.w2
    u2:=D.u2
    q2:=D.q2
    gu:= ?_
    gv:= ?_
    gq:= ?_
    Xp:=D.Xp
    uq:=D.uq
    vq:=D.vq
    ul:= ?_
    cl:=hcl
    Tl:=by rw[length_set];exact hql
    RL:=D.RL
    inv:=by rw[show L-(i+1)=at' by omega];exact hnew }⟩
   ·show(g3.set kq _).get ku=_;rw[aa.aX,if_neg D.uq,wget,Ay (W:=(U.drop at').take (m+1)) (by omega) (by omega) (by rw[wl,w3]) (by rw[w3]),wl]
   ·show(g3.set kq _).get kv=_;rw[aa.aX,if_neg D.vq];exact gv3
   ·show(g3.set kq _).get kq=_;rw[aa.aX,if_pos rfl]
   ·simp only[length_append,length_take,length_drop,wl];omega
  ·have h5:=dF h5;obtain rfl:i=L:=by omega
   have hinv:=D.inv;rw[Nat.sub_self]at hinv;obtain⟨d1,d2⟩:=hinv.done;obtain⟨e1,e2⟩:=wu (X:=X) (Y:=Y) k0;rw[e1]at d1;rw[e2]at d2;have hul':=hinv.ul;obtain⟨t1,t2⟩:=sM U;refine(mK ru (by omega)).mono ?_;rintro _ _ ⟨rfl,rfl⟩;refine⟨_,_,_,rfl,?_⟩;have hC:(bI cu 0 U).length=cu.length:=zb (by omega);have hcapL:bn (N+1-m)=N+1-m:=by unfold bn;rw[if_neg (by unfold bV;omega)]
   have hbvt:Num.bv BB (cJ U)=X%Y*k:=by rw[iY eU hul',bB eU,d2]
   subst hL;rename_i G';refine Qa D.w2 (X:=X) (Y:=Y) (ku:=ku) (kq:=kq) (rc:=bV+cu.length) (k:=k) (R:=X%Y*k) (C:=bI cu 0 U) (Zq:=(List.replicate (N+1-m) 0).map uv) (Ql:=Ql) D.u2 D.q2 D.uq (by rw[hC];omega) (by omega) hql.symm (by omega) (by rw[hcap];omega) (by rw[hcapL];exact Nat.le_refl _) k0 kB hinv.ql d1 (Nat.mul_div_cancel _ k0) a n c b m d _ (i:=0)
    ⟨zero_le _,rfl,⟨cJ U,0,rfl,rfl,⟨λx hx=>hul' x (by rw[<-t1]at hx;exact List.mem_of_mem_take hx),by omega,k0,?_⟩,?_⟩,D.gq,D.ok⟩
   ·rw[sub_zero,List.drop_length,take_length,hbvt];simp[Num.bv]
   ·rw[kn (by rw[mX (by omega),drop_zero,t1])];exact D.gu)
end Go.Proofs.YtaheifbogkjpdaaGreatDoor
end
section
namespace Go.Proofs.YtaheifbogkjpdaaGreatDoor
open Go Go.Ab Go.Num
theorem Dh{h:aa}{a b:Option Addr}{n c mm d:Nat}{X Y:Nat}(ra:Rd h 117 (.slice a n c) (bl X))(rb:Rd h 117 (.slice b mm d) (bl Y))(hY:0<Y)(hN:(aE BB X).length<=5000)(hM:(aE BB Y).length<=5000)(w:Wf h):
  FW SS 166 [.slice a n c,.slice b mm d] h (Cz h X Y):=by
 have hBv:BB=1000000000:=rfl;have hn:n=(aE BB X).length:=by have:=ra.len;rwa[lM]at this
 have hmm:mm=(aE BB Y).length:=by have:=rb.len;rwa[lM]at this
 obtain⟨f1,f2,f3,f4,f5,f6⟩:=L9 eU hY;rw[<-hmm]at f1 f2 f3 f4 f5 f6;generalize htop:(aE BB Y).getD (mm-1) 0=top at f2 f3 f4 f6;generalize hkd:BB/(top+1)=k at f3 f4 f6;refine Dg a n c b mm d h _ ((mZ ra rb (by omega) w).mono ?_);rintro _ h2 ⟨rfl,ok2⟩;refine⟨_,rfl,ae (λh1=>?_) (λh1=>?_)⟩
 ·have h1:=rR.1 (dT h1);refine⟨_,_,_,_,_,_,rfl,.inl ⟨rfl,?_⟩,?_,ok2⟩
  ·rw[Nat.div_eq_of_lt h1];show(aE BB 0).map uv=[];rw[ek];rfl
  ·rw[Nat.mod_eq_of_lt h1];exact ra.ok ok2
 ·have hXY:Y<=X:=by
   rcases lt_or_ge X Y with h|h
   ·exact absurd (rR.2 h) (dF h1)
   ·exact h
  have hX:0<X:=by omega
  have hmN:mm<=n:=by
   rcases lt_or_ge n mm with h|h
   ·have:=jq eU (m:=X) (n:=Y) (by omega);omega
   ·exact h
  have hw1:wrap .i64 ((mm:Int)-1)=((mm-1:Nat):Int):=by rw[aA (by omega) (by omega)];omega
  have hj:((mm-1:Nat):Int).toNat=mm-1:=by omega
  obtain⟨p,g2,g3⟩:=Bp (rb.ok ok2) (i:=((mm-1:Nat):Int)) (by omega) (by omega);rw[hj,htop]at g3;have et:wrap .u64 ((top:Int)+1)=((top+1:Nat):Int):=wU (by omega) (by omega);have hquo:ay SS.P .quo 117 (.int .u64 1000000000) (.int .u64 ((top+1:Nat):Int))=some (.int .u64 (k:Int)):=by
   have:=Ob (a:=BB) (b:=top+1) (by decide) (by omega);rw[hkd]at this;exact this
  rw[hw1];refine⟨p,g2,_,g3,?_⟩;dsimp only;rw[et];refine⟨_,hquo,?_⟩;refine(tG (ra.ok ok2) (cg eU X) (by omega) f3 f4 ok2.wf).mono ?_;rintro _ h8 ⟨a9,n10,bW,rfl,ou,ok8⟩;rw[bB eU]at ou;refine⟨a9,n10,bW,rfl,(tG ((rb.ok ok2).ok ok8) (cg eU Y) (by omega) f3 f4 ok8.wf).mono ?_⟩;rintro _ h13 ⟨a14,n15,c16,rfl,ov,ok13⟩;rw[bB eU]at ov;refine⟨a14,n15,c16,rfl,?_⟩;have hYk:0<Y*k:=mul_pos hY f3;have hVl:(aE BB (Y*k)).length=mm:=CD eU f6 (Nat.le_trans f5 (Nat.le_mul_of_pos_right Y f3)) f1;have hvlen:(bl (Y*k)).length=mm:=by rw[lM];exact hVl
  rcases ov with⟨_,e⟩|⟨kv,cv,e,hkv,gv,tv,lv⟩
  ·rw[e]at hvlen;simp at hvlen;omega
  injection e with e1 e2 e3
  subst e1;obtain rfl:n15=mm:=by rw[e2,hvlen]
  rw[hvlen]at tv;have hbvX:=dR (cg eU X);rw[bB eU,<-hn]at hbvX;have hXk:0<X*k:=mul_pos hX f3;have L1:=pI a n c b n15 d (k:Int) (some ⟨kv,0,none⟩) n15 c16
   (λmz r rn rc g=>rn<=n+1/\mz=n+1-rn/\0<rn/\∃U:List Nat,U.length=rn/\cZ h g 117 (.slice r rn rc) (U.map uv)/\Ok h g/\(∀x∈U,x<BB)/\Num.bv BB U=X*k/\g.get kv=some (.cells cv 117 1 true)/\(∀o n c,Value.slice r rn rc≠ .slice (some ⟨kv,o,none⟩) n c)) (Cz h X Y) (by
   intro mz r rn rc;intros;rename_i g hi;obtain⟨h1,h2',h3,U,hU,o,ok,hlt,hbv,gkv,hne⟩:=hi;refine ae (λh5=>?_) (λh5=>?_)
   ·have h5:=dT h5;refine⟨_,_,_,oK _,?_⟩;obtain⟨b',m',d',u,g6,g7,g8,g9,yT,HK⟩:=cZ.WT (P:=SS.P) (t:=150) (x:= .int .u64 0) vX Gc zC w ok o rfl (by rw[vS,lM];omega) (by rw[lM];omega);rw[lM,hU]at g7;subst g7;refine⟨b',_,d',u,g6,Ft (mz-1) (by omega) ⟨by omega,by omega,by omega,U++[0],by simp[hU],?_,g9,?_,?_,yT _ _ gkv hne,?_⟩⟩
    ·rw[map_append];exact g8
    ·intro x hx;rcases List.mem_append.1 hx with hx|hx
     ·exact hlt x hx
     ·rw[List.mem_singleton.1 hx];decide
    ·rw[m7,hbv];simp
    ·intro o' n' c' e;rcases HK _ _ _ _ e with h7|⟨o2,n2,c2,h7⟩
     ·have:=ok.wf _ _ gkv;omega
     ·exact hne _ _ _ h7
   ·have h5:=dF h5;obtain rfl:rn=n+1:=by omega
    rcases o with⟨_,e⟩|⟨ku,cu,e,hku,gu,tu,lu⟩
    ·have:=congrArg List.length e;rw[lM,hU]at this;have h9:n+1=0:=this;omega
    rw[lM,hU]at e tu lu;injection e with e1 _ e3
    subst e1;subst e3;have hwL:wrap .i64 (((n+1:Nat):Int)-(n15:Int))=((n+1-n15:Nat):Int):=by rw[aA (by omega) (by omega)];omega
    rw[hwL];refine⟨_,_,_,Sa _ (by omega),?_⟩;have hkun:=ok.wf _ _ gu;have hkvn:=ok.wf _ _ gkv;have huv:ku≠kv:=λe=>hne 0 (n+1) (bV+cu.length) (by rw[e]);have hcapz:((List.replicate (n+1-n15) 0).map uv).length=n+1-n15:=by rw[lM,length_replicate]
    exact Qb (h2:=h) (X:=X) (Y:=Y) (N:=n) (m:=n15) (L:=n+1-n15) (k:=k) (ku:=ku) (kv:=kv) (kq:=g.next) (ec:=c16) (cu:=cu) (cv:=cv) hY f1 hmN (by omega) rfl f3 f4 hVl (le_of_lt f6) a n c b d (n+1-n15) (i:=0)
     ⟨zero_le _,rfl,U,List.replicate (n+1-n15) 0,{
      ok:=ok.push _
      w2:=w
      u2:=hku
      q2:=ok.nx
      gu:=by
       rw[aa.aR,if_neg (by omega),kn (by rw[drop_zero,hU];exact tu)];exact gu
      gv:=by rw[aa.aR,if_neg (by omega)];exact gkv
      gq:=by
       rw[aa.aR,if_pos rfl,kn (by rw[drop_zero,length_replicate,List.take_of_length_le (by rw[hcapz];exact Nat.le_refl _)])]
      Xp:=huv
      uq:=by omega
      vq:=by omega
      ul:=hU
      cl:=lu
      Tl:=by rw[length_replicate]
      RL:=by rw[hVl];exact tv
      inv:=fU.start eU hlt hU hmN hbvX f5 f1 f3 hbv }⟩)
  have hou:=cZ.Xq ok2.nx ou;have hlenu:n10=(aE BB (X*k)).length:=by have:=ou.len;rwa[lM]at this
  have hkvlt:h8.next<=kv:=hkv;have hXkl:(aE BB (X*k)).length<=n+1:=by
   refine jo eU ?_;rw[pow_succ];exact lt_of_lt_of_le (Nat.mul_lt_mul_of_pos_right hbvX f3) (Nat.mul_le_mul_left _ f4)
  have hpos:0<(aE BB (X*k)).length:=List.length_pos_iff.2 λe=>by have:=(fF eU).1 e;omega
  refine L1 (n+1-n10) ⟨by omega,rfl,by omega,aE BB (X*k),hlenu.symm,hou.ok ok13,(ok2.trans ok8).trans ok13,cg eU _,bB eU _,gv,?_⟩;intro o n' c' e;rcases ou with⟨e',_⟩|⟨ku,cu,e',hku,gu,_,_⟩
  ·rw[e']at e;injection e with e;cases e
  ·rw[e']at e;injection e with e _ _
   injection e with e
   injection e with e
   have:=ok8.wf _ _ gu;omega
abbrev fx:LB:=[0,1,2,2,3,3,3,3,4,4,4,4,4,4,4,4,5,5,5,5,5,5,5,5,5,5,5,5,5,5,5,5,6,6,6,6,6,6,6,6,6,6,6,6,6,6,6,6,6,6,6,6,6,6,6,6,6,6,6,6,6,6,6,6,7,7,7,7,7,7,7,7,7,7,7,7,7,7,7,7,7,7,7,7,7,7,7,7,7,7,7,7,7,7,7,7,7,7,7,7,7,7,7,7,7,7,7,7,7,7,7,7,7,7,7,7,7,7,7,7,7,7,7,7,7,7,7,7,8,8,8,8,8,8,8,8,8,8,8,8,8,8,8,8,8,8,8,8,8,8,8,8,8,8,8,8,8,8,8,8,8,8,8,8,8,8,8,8,8,8,8,8,8,8,8,8,8,8,8,8,8,8,8,8,8,8,8,8,8,8,8,8,8,8,8,8,8,8,8,8,8,8,8,8,8,8,8,8,8,8,8,8,8,8,8,8,8,8,8,8,8,8,8,8,8,8,8,8,8,8,8,8,8,8,8,8,8,8,8,8,8,8,8,8,8,8,8,8,8,8,8,8,8,8,8,8]
noncomputable def QD:FD:=dJ Tryz.f89 []
theorem Nx(u:Int)(h:aa)(Q:VH)(hx:aF (decide ((u:Int)>=4294967296)) (xI .u64 (ay SS.P .shr 117 (.int .u64 u) (.int .u64 32)) λn1=>aF (decide ((n1:Int)>=65536)) (xI .u64 (ay SS.P .shr 117 (.int .u64 n1) (.int .u64 16)) λn2=>aF (decide ((n2:Int)>=256)) (xI .u64 (ay SS.P .shr 117 (.int .u64 n2) (.int .u64 8)) λn3=>xI .u8 (bp SS.P 9 (strOf fx) (.int .u8 (wrap .u8 n3))) λn4=>Q (.int .i64 (wrap .i64 (wrap .i64 (wrap .i64 (32+16)+8)+wrap .i64 n4))) h) (xI .u8 (bp SS.P 9 (strOf fx) (.int .u8 (wrap .u8 n2))) λn5=>Q (.int .i64 (wrap .i64 (wrap .i64 (32+16)+wrap .i64 n5))) h)) (aF (decide ((n1:Int)>=256)) (xI .u64 (ay SS.P .shr 117 (.int .u64 n1) (.int .u64 8)) λn6=>xI .u8 (bp SS.P 9 (strOf fx) (.int .u8 (wrap .u8 n6))) λn7=>Q (.int .i64 (wrap .i64 (wrap .i64 (32+8)+wrap .i64 n7))) h) (xI .u8 (bp SS.P 9 (strOf fx) (.int .u8 (wrap .u8 n1))) λn8=>Q (.int .i64 (wrap .i64 (32+wrap .i64 n8))) h))) (aF (decide ((u:Int)>=65536)) (xI .u64 (ay SS.P .shr 117 (.int .u64 u) (.int .u64 16)) λn9=>aF (decide ((n9:Int)>=256)) (xI .u64 (ay SS.P .shr 117 (.int .u64 n9) (.int .u64 8)) λn10=>xI .u8 (bp SS.P 9 (strOf fx) (.int .u8 (wrap .u8 n10))) λn11=>Q (.int .i64 (wrap .i64 (wrap .i64 (wrap .i64 (0+16)+8)+wrap .i64 n11))) h) (xI .u8 (bp SS.P 9 (strOf fx) (.int .u8 (wrap .u8 n9))) λn12=>Q (.int .i64 (wrap .i64 (wrap .i64 (0+16)+wrap .i64 n12))) h)) (aF (decide ((u:Int)>=256)) (xI .u64 (ay SS.P .shr 117 (.int .u64 u) (.int .u64 8)) λn13=>xI .u8 (bp SS.P 9 (strOf fx) (.int .u8 (wrap .u8 n13))) λn14=>Q (.int .i64 (wrap .i64 (wrap .i64 (0+8)+wrap .i64 n14))) h) (xI .u8 (bp SS.P 9 (strOf fx) (.int .u8 (wrap .u8 u))) λn15=>Q (.int .i64 (wrap .i64 (0+wrap .i64 n15))) h)))):FW SS 89 [(.int .u64 u)] h Q:=dM QD Tryz.func89 (au hx)
noncomputable def FK:FD:=dJ Tryz.f169 []
theorem Db(n:Int)(h:aa)(Q:VH)(hx:xI .i64 (ay SS.P .shr 3 (.int .i64 (wrap .i64 (n*78913))) (.int .u64 18)) λn1=>Q (.int .i64 n1) h):FW SS 169 [(.int .i64 n)] h Q:=dM FK Tryz.func169 (au hx)
noncomputable def PL:FD:=dJ Tryz.f170 []
theorem Mt(b:Bool)(h:aa)(Q:VH)(hx:aF b (Q (.int .i64 1) h) (Q (.int .i64 0) h)):FW SS 170 [(.bool b)] h Q:=dM PL Tryz.func170 (au hx)
noncomputable def F2:FD:=dJ Tryz.f146 []
theorem Dp(u:Int)(h:aa)(Q:VH)(hx:FW SS 89 [(.int .u64 u)] h λv1 h2=>yI .i64 v1 λn3=>FW SS 169 [(.int .i64 n3)] h2 λv4 h5=>yI .i64 v4 λn6=>xP (af SS.P 184 (pA 0) (.int .i64 n6)) λp7=>xI .u64 (ai SS.P 117 h5 (.pointer (some p7))) λn8=>FW SS 170 [(.bool (decide ((u:Int)>=n8)))] h5 λv9 h10=>yI .i64 v9 λn11=>Q (.int .i64 (wrap .i64 (n6+n11))) h10):FW SS 146 [(.int .u64 u)] h Q:=dM F2 Tryz.func146 (au hx)
abbrev bD:LB:=[48,48,48,49,48,50,48,51,48,52,48,53,48,54,48,55,48,56,48,57,49,48,49,49,49,50,49,51,49,52,49,53,49,54,49,55,49,56,49,57,50,48,50,49,50,50,50,51,50,52,50,53,50,54,50,55,50,56,50,57,51,48,51,49,51,50,51,51,51,52,51,53,51,54,51,55,51,56,51,57,52,48,52,49,52,50,52,51,52,52,52,53,52,54,52,55,52,56,52,57,53,48,53,49,53,50,53,51,53,52,53,53,53,54,53,55,53,56,53,57,54,48,54,49,54,50,54,51,54,52,54,53,54,54,54,55,54,56,54,57,55,48,55,49,55,50,55,51,55,52,55,53,55,54,55,55,55,56,55,57,56,48,56,49,56,50,56,51,56,52,56,53,56,54,56,55,56,56,56,57,57,48,57,49,57,50,57,51,57,52,57,53,57,54,57,55,57,56,57,57]
noncomputable def Rr:FD:=dJ Tryz.f145 []
theorem ON(n:Int)(h:aa)(Q:VH)(hx:aF (decide ((n:Int)<10)) (xS (bt SS.P 9 (strOf [48,49,50,51,52,53,54,55,56,57,97,98,99,100,101,102,103,104,105,106,107,108,109,110,111,112,113,114,115,116,117,118,119,120,121,122]) (some (.int .i64 n)) (some (.int .i64 (wrap .i64 (n+1)))) none h) λl1=>Q (strOf l1) h) (xS (bt SS.P 9 (strOf bD) (some (.int .i64 (wrap .i64 (n*2)))) (some (.int .i64 (wrap .i64 (wrap .i64 (n*2)+2)))) none h) λl2=>Q (strOf l2) h)):FW SS 145 [(.int .i64 n)] h Q:=dM Rr Tryz.func145 (au hx)
noncomputable def nJ:FD:=dJ Tryz.f147 [([1,0,0,0],[0,1,4])]
abbrev j7(a:OA)(n c:Nat)(i:Nat)(v:Int):LV:=[(.slice a n c),(.int .u64 v),(iA i)]
theorem Nd(a:OA)(n c:Nat)(u:Int)(h:aa)(Q:VH)(hx:LL SS nJ [1,0,0,0] (j7 a n c n u) h (KK SS nJ [1,0,0] [] (EE SS nJ Q))):FW SS 147 [(.slice a n c),(.int .u64 u)] h Q:=dM nJ Tryz.func147 (au hx)
theorem uS(a:OA)(n c:Nat)(u:Int)  (Inv:Nat->Nat->Int->aa->Prop) (Q:VH) (step:∀(mz:Nat)(i:Nat)(v:Int)(zz:Nat->Value)(h:aa),Inv mz i v h->aF (decide (((i:Int):Int)>=8)) (xI .u64 (ay SS.P .rem 117 (.int .u64 v) (.int .u64 100000000)) λn1=>xI .u64 (ay SS.P .quo 117 (.int .u64 v) (.int .u64 100000000)) λn2=>xI .u32 (ay SS.P .quo 115 (.int .u32 (wrap .u32 n1)) (.int .u32 10000)) λn3=>xI .u32 (ay SS.P .rem 115 (.int .u32 (wrap .u32 n1)) (.int .u32 10000)) λn4=>xI .u32 (ay SS.P .quo 115 (.int .u32 n4) (.int .u32 100)) λn5=>xI .u32 (ay SS.P .rem 115 (.int .u32 n4) (.int .u32 100)) λn6=>xI .u32 (ay SS.P .quo 115 (.int .u32 n3) (.int .u32 100)) λn7=>xI .u32 (ay SS.P .rem 115 (.int .u32 n3) (.int .u32 100)) λn8=>xI .u8 (bp SS.P 9 (strOf bD) (.int .u32 (wrap .u32 (wrap .u32 (n6*2)+1)))) λn9=>xI .u8 (bp SS.P 9 (strOf bD) (.int .u32 (wrap .u32 (n6*2)))) λn10=>xP (af SS.P 159 (.slice a n c) (.int .i64 (wrap .i64 ((i:Int)-1)))) λp11=>xU (aw SS.P 5 (.pointer (some p11)) (.int .u8 n9) (room h 15)) (room h 15) λRK Fm=>xP (af SS.P 159 (.slice a n c) (.int .i64 (wrap .i64 ((i:Int)-2)))) λp14=>xU (aw SS.P 5 (.pointer (some p14)) (.int .u8 n10) Fm) Fm λUP g16=>xI .u8 (bp SS.P 9 (strOf bD) (.int .u32 (wrap .u32 (wrap .u32 (n5*2)+1)))) λn17=>xI .u8 (bp SS.P 9 (strOf bD) (.int .u32 (wrap .u32 (n5*2)))) λn18=>xP (af SS.P 159 (.slice a n c) (.int .i64 (wrap .i64 ((i:Int)-3)))) λp19=>xU (aw SS.P 5 (.pointer (some p19)) (.int .u8 n17) (room g16 15)) (room g16 15) λu20 g21=>xP (af SS.P 159 (.slice a n c) (.int .i64 (wrap .i64 ((i:Int)-4)))) λp22=>xU (aw SS.P 5 (.pointer (some p22)) (.int .u8 n18) g21) g21 λu23 g24=>xI .u8 (bp SS.P 9 (strOf bD) (.int .u32 (wrap .u32 (wrap .u32 (n8*2)+1)))) λn25=>xI .u8 (bp SS.P 9 (strOf bD) (.int .u32 (wrap .u32 (n8*2)))) λn26=>xP (af SS.P 159 (.slice a n c) (.int .i64 (wrap .i64 ((i:Int)-5)))) λp27=>xU (aw SS.P 5 (.pointer (some p27)) (.int .u8 n25) (room g24 15)) (room g24 15) λu28 g29=>xP (af SS.P 159 (.slice a n c) (.int .i64 (wrap .i64 ((i:Int)-6)))) λp30=>xU (aw SS.P 5 (.pointer (some p30)) (.int .u8 n26) g29) g29 λu31 g32=>xI .u8 (bp SS.P 9 (strOf bD) (.int .u32 (wrap .u32 (wrap .u32 (n7*2)+1)))) λn33=>xI .u8 (bp SS.P 9 (strOf bD) (.int .u32 (wrap .u32 (n7*2)))) λn34=>xP (af SS.P 159 (.slice a n c) (.int .i64 (wrap .i64 ((i:Int)-7)))) λp35=>xU (aw SS.P 5 (.pointer (some p35)) (.int .u8 n33) (room g32 15)) (room g32 15) λu36 g37=>xP (af SS.P 159 (.slice a n c) (.int .i64 (wrap .i64 ((i:Int)-8)))) λp38=>xU (aw SS.P 5 (.pointer (some p38)) (.int .u8 n34) g37) g37 λu39 g40=>aH (re (j7 a n c) Inv) mz [(.slice a n c),(.int .u64 n2),(.int .i64 (wrap .i64 ((i:Int)-8)))] g40) (aF (decide (((i:Int):Int)>=4)) (xI .u32 (ay SS.P .rem 115 (.int .u32 (wrap .u32 v)) (.int .u32 10000)) λn41=>xI .u32 (ay SS.P .quo 115 (.int .u32 (wrap .u32 v)) (.int .u32 10000)) λn42=>xI .u32 (ay SS.P .quo 115 (.int .u32 n41) (.int .u32 100)) λn43=>xI .u32 (ay SS.P .rem 115 (.int .u32 n41) (.int .u32 100)) λn44=>xI .u8 (bp SS.P 9 (strOf bD) (.int .u32 (wrap .u32 (wrap .u32 (n44*2)+1)))) λn45=>xI .u8 (bp SS.P 9 (strOf bD) (.int .u32 (wrap .u32 (n44*2)))) λn46=>xP (af SS.P 159 (.slice a n c) (.int .i64 (wrap .i64 ((i:Int)-1)))) λp47=>xU (aw SS.P 5 (.pointer (some p47)) (.int .u8 n45) (room h 15)) (room h 15) λu48 g49=>xP (af SS.P 159 (.slice a n c) (.int .i64 (wrap .i64 ((i:Int)-2)))) λp50=>xU (aw SS.P 5 (.pointer (some p50)) (.int .u8 n46) g49) g49 λu51 g52=>xI .u8 (bp SS.P 9 (strOf bD) (.int .u32 (wrap .u32 (wrap .u32 (n43*2)+1)))) λn53=>xI .u8 (bp SS.P 9 (strOf bD) (.int .u32 (wrap .u32 (n43*2)))) λn54=>xP (af SS.P 159 (.slice a n c) (.int .i64 (wrap .i64 ((i:Int)-3)))) λp55=>xU (aw SS.P 5 (.pointer (some p55)) (.int .u8 n53) (room g52 15)) (room g52 15) λu56 g57=>xP (af SS.P 159 (.slice a n c) (.int .i64 (wrap .i64 ((i:Int)-4)))) λp58=>xU (aw SS.P 5 (.pointer (some p58)) (.int .u8 n54) g57) g57 λu59 g60=>aF (decide ((wrap .i64 ((i:Int)-4):Int)>=2)) (xI .u32 (ay SS.P .rem 115 (.int .u32 n42) (.int .u32 100)) λn61=>xI .u32 (ay SS.P .quo 115 (.int .u32 n42) (.int .u32 100)) λn62=>xI .u8 (bp SS.P 9 (strOf bD) (.int .u32 (wrap .u32 (wrap .u32 (n61*2)+1)))) λn63=>xI .u8 (bp SS.P 9 (strOf bD) (.int .u32 (wrap .u32 (n61*2)))) λn64=>xP (af SS.P 159 (.slice a n c) (.int .i64 (wrap .i64 (wrap .i64 ((i:Int)-4)-1)))) λp65=>xU (aw SS.P 5 (.pointer (some p65)) (.int .u8 n63) (room g60 15)) (room g60 15) λu66 g67=>xP (af SS.P 159 (.slice a n c) (.int .i64 (wrap .i64 (wrap .i64 ((i:Int)-4)-2)))) λp68=>xU (aw SS.P 5 (.pointer (some p68)) (.int .u8 n64) g67) g67 λu69 g70=>aF (decide ((wrap .i64 (wrap .i64 ((i:Int)-4)-2):Int)>0)) (xP (af SS.P 159 (.slice a n c) (.int .i64 0)) λp71=>xU (aw SS.P 5 (.pointer (some p71)) (.int .u8 (wrap .u8 (wrap .u32 (48+n62)))) g70) g70 λu72 g73=>Q (.tuple ⟨[]⟩) g73) (Q (.tuple ⟨[]⟩) g70)) (aF (decide ((wrap .i64 ((i:Int)-4):Int)>0)) (xP (af SS.P 159 (.slice a n c) (.int .i64 0)) λp74=>xU (aw SS.P 5 (.pointer (some p74)) (.int .u8 (wrap .u8 (wrap .u32 (48+n42)))) g60) g60 λu75 g76=>Q (.tuple ⟨[]⟩) g76) (Q (.tuple ⟨[]⟩) g60))) (aF (decide (((i:Int):Int)>=2)) (xI .u32 (ay SS.P .rem 115 (.int .u32 (wrap .u32 v)) (.int .u32 100)) λn77=>xI .u32 (ay SS.P .quo 115 (.int .u32 (wrap .u32 v)) (.int .u32 100)) λn78=>xI .u8 (bp SS.P 9 (strOf bD) (.int .u32 (wrap .u32 (wrap .u32 (n77*2)+1)))) λn79=>xI .u8 (bp SS.P 9 (strOf bD) (.int .u32 (wrap .u32 (n77*2)))) λn80=>xP (af SS.P 159 (.slice a n c) (.int .i64 (wrap .i64 ((i:Int)-1)))) λp81=>xU (aw SS.P 5 (.pointer (some p81)) (.int .u8 n79) (room h 15)) (room h 15) λu82 g83=>xP (af SS.P 159 (.slice a n c) (.int .i64 (wrap .i64 ((i:Int)-2)))) λp84=>xU (aw SS.P 5 (.pointer (some p84)) (.int .u8 n80) g83) g83 λu85 g86=>aF (decide ((wrap .i64 ((i:Int)-2):Int)>0)) (xP (af SS.P 159 (.slice a n c) (.int .i64 0)) λp87=>xU (aw SS.P 5 (.pointer (some p87)) (.int .u8 (wrap .u8 (wrap .u32 (48+n78)))) g86) g86 λu88 g89=>Q (.tuple ⟨[]⟩) g89) (Q (.tuple ⟨[]⟩) g86)) (aF (decide (((i:Int):Int)>0)) (xP (af SS.P 159 (.slice a n c) (.int .i64 0)) λp90=>xU (aw SS.P 5 (.pointer (some p90)) (.int .u8 (wrap .u8 (wrap .u32 (48+wrap .u32 v)))) h) h λu91 g92=>Q (.tuple ⟨[]⟩) g92) (Q (.tuple ⟨[]⟩) h))))) (mz:Nat) {i:Nat} {v:Int} {h:aa} (hi:Inv mz i v h):LL SS nJ [1,0,0,0] (j7 a n c i v) h (KK SS nJ [1,0,0] [] (EE SS nJ Q)):=
 ng (j7 a n c) Inv (λmz i v zz h hi=>au (step mz i v zz h hi)) mz hi
noncomputable def HG:FD:=dJ Tryz.f205 []
theorem Fh(u:Int)(h:aa)(Q:VH)(hx:aF (((10:Int)==10)) (aF (decide ((u:Int)<100)) (FW SS 145 [(.int .i64 (wrap .i64 u))] h λv1 h2=>yS v1 λl3=>Q (strOf l3) h2) (xN (cq SS.P 157) h λB4 g5=>FW SS 146 [(.int .u64 u)] g5 λv6 h7=>yI .i64 v6 λn8=>xL (bt SS.P 157 (pA (h.next)) none (some (.int .i64 n8)) none h7) λa9 n10 bW=>FW SS 147 [(.slice a9 n10 bW),(.int .u64 u)] h7 λv12 h13=>v12=(.tuple ⟨[]⟩)/\xL (bt SS.P 157 (pA (h.next)) none (some (.int .i64 n8)) none h13) λa14 n15 c16=>xS (w6 SS.P 159 9 (.slice a14 n15 c16) h13) λl17=>Q (strOf l17) h13)) (FW SS 148 [nA,(.int .u64 u),(.int .i64 10),(.bool false),(.bool false)] h λv18 h19=>∃(a20:OA) (n21 c22:Nat),∃l23:LB,v18=(.tuple ⟨[(.slice a20 n21 c22),(strOf l23)]⟩)/\Q (strOf l23) h19)):FW SS 205 [(.int .u64 u),(.int .i64 10)] h Q:=dM HG Tryz.func205 (au hx)
noncomputable def Ks:FD:=dJ Tryz.f185 []
theorem HH(u:Int)(h:aa)(Q:VH)(hx:FW SS 205 [(.int .u64 u),(.int .i64 10)] h λv1 h2=>yS v1 λl3=>Q (strOf l3) h2):FW SS 185 [(.int .u64 u),(.int .i64 10)] h Q:=dM Ks Tryz.func185 (au hx)
theorem Iz{P:Program}{t:TypeId}{a:Int}(h:0<=a){s:Nat}(hs:s<=64):ay P .shr t (.int .u64 a) (.int .u64 (s:Int))=some (.int .u64 (a/2^s)):=by
 show(if 0<=(s:Int)then some (Value.int .u64 (a.fdiv (2^(min (s:Int).toNat 64))))else none)=_;rw[if_pos (by omega),toNat_natCast,min_eq_left hs,Int.fdiv_eq_ediv_of_nonneg _ (Int.le_of_lt (Int.pow_pos (by decide)))]
theorem Rq{P:Program}{t:TypeId}{a:Int}(h:0<=a){s:Nat}(hs:s<=64):ay P .shr t (.int .i64 a) (.int .u64 (s:Int))=some (.int .i64 (a/2^s)):=by
 show(if 0<=(s:Int)then some (Value.int .i64 (a.fdiv (2^(min (s:Int).toNat 64))))else none)=_;rw[if_pos (by omega),toNat_natCast,min_eq_left hs,Int.fdiv_eq_ediv_of_nonneg _ (Int.le_of_lt (Int.pow_pos (by decide)))]
def Pq:List UInt8:=[0,1,2,2,3,3,3,3,4,4,4,4,4,4,4,4,5,5,5,5,5,5,5,5,5,5,5,5,5,5,5,5,6,6,6,6,6,6,6,6,6,6,6,6,6,6,6,6,6,6,6,6,6,6,6,6,6,6,6,6,6,6,6,6,7,7,7,7,7,7,7,7,7,7,7,7,7,7,7,7,7,7,7,7,7,7,7,7,7,7,7,7,7,7,7,7,7,7,7,7,7,7,7,7,7,7,7,7,7,7,7,7,7,7,7,7,7,7,7,7,7,7,7,7,7,7,7,7,8,8,8,8,8,8,8,8,8,8,8,8,8,8,8,8,8,8,8,8,8,8,8,8,8,8,8,8,8,8,8,8,8,8,8,8,8,8,8,8,8,8,8,8,8,8,8,8,8,8,8,8,8,8,8,8,8,8,8,8,8,8,8,8,8,8,8,8,8,8,8,8,8,8,8,8,8,8,8,8,8,8,8,8,8,8,8,8,8,8,8,8,8,8,8,8,8,8,8,8,8,8,8,8,8,8,8,8,8,8,8,8,8,8,8,8,8,8,8,8,8,8,8,8,8,8,8,8]
def SM:List UInt8:=[48,48,48,49,48,50,48,51,48,52,48,53,48,54,48,55,48,56,48,57,49,48,49,49,49,50,49,51,49,52,49,53,49,54,49,55,49,56,49,57,50,48,50,49,50,50,50,51,50,52,50,53,50,54,50,55,50,56,50,57,51,48,51,49,51,50,51,51,51,52,51,53,51,54,51,55,51,56,51,57,52,48,52,49,52,50,52,51,52,52,52,53,52,54,52,55,52,56,52,57,53,48,53,49,53,50,53,51,53,52,53,53,53,54,53,55,53,56,53,57,54,48,54,49,54,50,54,51,54,52,54,53,54,54,54,55,54,56,54,57,55,48,55,49,55,50,55,51,55,52,55,53,55,54,55,55,55,56,55,57,56,48,56,49,56,50,56,51,56,52,56,53,56,54,56,55,56,56,56,57,57,48,57,49,57,50,57,51,57,52,57,53,57,54,57,55,57,56,57,57]
theorem QI:((List.range 256).all λx=>(x==0&&(Pq.getD x 0).toNat==0)||(Nat.ble 1 (Pq.getD x 0).toNat&&Nat.ble (Pq.getD x 0).toNat 8&&Nat.ble (2^((Pq.getD x 0).toNat-1)) x&&Nat.blt x (2^(Pq.getD x 0).toNat)))=true:=by kernel_rfl
theorem XA{x:Nat}(h:x<256)(h0:0<x):∃t,(Pq.getD x 0).toNat=t+1/\t<8/\2^t<=x/\x<2^(t+1):=by
 have h1:=all_eq_true.1 QI x (List.mem_range.2 h);have h2:(x==0)=false:=by simp;omega
 rw[h2]at h1;simp only[Bool.false_and,Bool.false_or,Bool.and_eq_true,Nat.ble_eq,Nat.blt_eq]at h1;obtain⟨⟨⟨a,b⟩,c⟩,d⟩:=h1;refine⟨(Pq.getD x 0).toNat-1,by omega,by omega,c,?_⟩;rwa[Nat.sub_add_cancel a]
theorem xf{x:Int}(h0:0<=x)(h1:x<256):bp SS.P 9 (strOf Pq) (.int .u8 (wrap .u8 x))=some (.int .u8 ((Pq.getD x.toNat 0).toNat:Nat)):=by
 rw[oE h0 h1];exact lC (by kernel_rfl) Pq .u8 h0 (by show x<((256:Nat):Int);omega)
theorem Uk:((List.range 100).all λx=>Nat.beq (SM.getD (2*x) 0).toNat (48+x/10)&&Nat.beq (SM.getD (2*x+1) 0).toNat (48+x%10))=true:=by kernel_rfl
theorem OM{x:Nat}(h:x<100):(SM.getD (2*x) 0).toNat=48+x/10/\(SM.getD (2*x+1) 0).toNat=48+x%10:=by
 have h1:=all_eq_true.1 Uk x (List.mem_range.2 h);simp only[Bool.and_eq_true,Nat.beq_eq]at h1;exact h1
theorem Ny{u:Nat}(h0:0<u)(h1:u<4294967296)(h:aa):FW SS 89 [.int .u64 (u:Int)] h (λv h'=>h'=h/\∃n:Nat,v = .int .i64 (n+1:Nat)/\n<32/\2^n<=u/\u<2^(n+1)):=by
 refine Nx _ h _ (ae (λg=>absurd (dT g) (by omega)) λ_=>ae (λg=>?_) (λg=>?_))
 ·have g:=dT g;refine⟨_,Iz (s:=16) (by omega) (by omega),ae (λg1=>?_) (λg1=>?_)⟩
  ·have g1:=dT g1;refine⟨_,Iz (s:=8) (by omega) (by omega),_,xf (by omega) (by omega),rfl,?_⟩;obtain⟨t,e,h2,h3,h4⟩:=XA (x:=((u:Int)/2^16/2^8).toNat) (by omega) (by omega);rw[e];refine⟨t+24,?_,by omega,?_,?_⟩
   ·refine congrArg (Value.int .i64) ?_;simp only[wrap_i64];omega
   ·rw[pow_add];omega
   ·rw[show t+24+1=(t+1)+24 by omega,pow_add];omega
  ·have g1:=dF g1;refine⟨_,xf (by omega) (by omega),rfl,?_⟩;obtain⟨t,e,h2,h3,h4⟩:=XA (x:=((u:Int)/2^16).toNat) (by omega) (by omega);rw[e];refine⟨t+16,?_,by omega,?_,?_⟩
   ·refine congrArg (Value.int .i64) ?_;simp only[wrap_i64];omega
   ·rw[pow_add];omega
   ·rw[show t+16+1=(t+1)+16 by omega,pow_add];omega
 ·have g:=dF g;refine ae (λg1=>?_) (λg1=>?_)
  ·have g1:=dT g1;refine⟨_,Iz (s:=8) (by omega) (by omega),_,xf (by omega) (by omega),rfl,?_⟩;obtain⟨t,e,h2,h3,h4⟩:=XA (x:=((u:Int)/2^8).toNat) (by omega) (by omega);rw[e];refine⟨t+8,?_,by omega,?_,?_⟩
   ·refine congrArg (Value.int .i64) ?_;simp only[wrap_i64];omega
   ·rw[pow_add];omega
   ·rw[show t+8+1=(t+1)+8 by omega,pow_add];omega
  ·have g1:=dF g1;refine⟨_,xf (by omega) (by omega),rfl,?_⟩;obtain⟨t,e,h2,h3,h4⟩:=XA (x:=((u:Int)).toNat) (by omega) (by omega);rw[e];refine⟨t,?_,by omega,by omega,by omega⟩;refine congrArg (Value.int .i64) ?_;simp only[wrap_i64];omega
def GG:List Value:=(List.range 20).map λi=>uv (10^i)
def qP(h:aa):Prop:=∃t wr,h.get 0=some (.cells GG t 0 wr)
theorem qP.ok{h h':aa}(t:qP h)(o:Ok h h'):qP h':=let⟨k,wr,e⟩:=t;⟨k,wr,o.ext _ _ e⟩
theorem U6:SS.P.underlying 184=some (.array 20 117):=by kernel_rfl
theorem Uv{h:aa}(t:qP h){i:Int}(h0:0<=i)(h1:i<20):af SS.P 184 (.pointer (some ⟨0,0,none⟩)) (.int .i64 i)=some (.pointer (some ⟨0,0+i.toNat*1,none⟩))/\ai SS.P 117 h (.pointer (some ⟨0,0+i.toNat*1,none⟩))=some (.int .u64 ((10^i.toNat:Nat):Int)):=by
 obtain⟨_,wr,e⟩:=t;constructor
 ·unfold af;rw[U6];dsimp only;rw[Ai];dsimp only;rw[if_pos ⟨h0,h1⟩,cw,zero_add]
 ·unfold ai;rw[JM];dsimp only;rw[e];dsimp only;rw[I5];simp only[Bool.false_eq_true,if_false];unfold GG;rw[zero_add,mul_one,getElem?_map,List.getElem?_range (by omega)];rfl
theorem Dq{u:Nat}(h0:100<=u)(h1:u<1000000000){h:aa}(t:qP h):FW SS 146 [.int .u64 (u:Int)] h (λv h'=>h'=h/\∃n:Nat,v = .int .i64 (n+1:Nat)/\n<9/\10^n<=u/\u<10^(n+1)):=by
 refine Dp _ h _ ((Ny (by omega) (by omega) h).mono ?_);rintro _ g ⟨e0,n,rfl,h2,h3,h4⟩;have t:=e0▸t;refine⟨_,rfl,Db _ _ _ ⟨_,Rq (s:=18) ?_ (by omega),_,rfl,?_⟩⟩
 ·rw[aA (by omega) (by omega)];omega
 rw[aA (by omega) (by omega)];have h5:n<30:=by
  rcases lt_or_ge n 30 with h|h
  ·exact h
  ·have:2^30<=2^n:=pow_le_pow_right (by omega) h;omega
 have h6:6<=n:=by
  rcases lt_or_ge n 6 with h|h
  ·have:2^(n+1)<=2^6:=pow_le_pow_right (by omega) h;omega
  ·exact h
 obtain⟨g1,g2⟩:=Uv t (i:=((n+1:Nat):Int)*78913/2^18) (by omega) (by omega);refine⟨_,g1,_,g2,Mt _ _ _ ?_⟩;have key:∀q:Nat,2<=q->q<=9->10^(q-1)<=u->u<10^(q+1)->((n+1:Nat):Int)*78913/2^18=(q:Int)->aF (decide (((u:Nat):Int)>=((10^(((n+1:Nat):Int)*78913/2^18).toNat:Nat):Int))) (∃n11:Int,Value.int .i64 1 = .int .i64 n11/\(g=h/\∃m:Nat,Value.int .i64 (wrap .i64 (((n+1:Nat):Int)*78913/2^18+n11)) = .int .i64 (m+1:Nat)/\m<9/\10^m<=u/\u<10^(m+1))) (∃n11:Int,Value.int .i64 0 = .int .i64 n11/\(g=h/\∃m:Nat,Value.int .i64 (wrap .i64 (((n+1:Nat):Int)*78913/2^18+n11)) = .int .i64 (m+1:Nat)/\m<9/\10^m<=u/\u<10^(m+1))):=by
  intro q q1 q2 q3 q4 q5;rw[q5,toNat_natCast];refine ae (λg5=>?_) (λg5=>?_)
  ·have g5:=dT g5;refine⟨1,rfl,e0,q,?_,?_,by omega,q4⟩
   ·rw[aA (by omega) (by omega)];rfl
   ·rcases lt_or_ge q 9 with h|h
    ·exact h
    ·have:q=9:=by omega
     subst this;omega
  ·have g5:=dF g5;refine⟨0,rfl,e0,q-1,?_,by omega,q3,by rw[Nat.sub_add_cancel (by omega)];omega⟩;rw[aA (by omega) (by omega),Nat.sub_add_cancel (by omega),Int.add_zero]
 have hn:n=6\/n=7\/n=8\/n=9\/n=10\/n=11\/n=12\/n=13\/n=14\/n=15\/n=16\/n=17\/n=18\/n=19\/n=20\/n=21\/n=22\/n=23\/n=24\/n=25\/n=26\/n=27\/n=28\/n=29:=by omega
 rcases hn with rfl|rfl|rfl|rfl|rfl|rfl|rfl|rfl|rfl|rfl|rfl|rfl|rfl|rfl|rfl|rfl|rfl|rfl|rfl|rfl|rfl|rfl|rfl|rfl
 all_goals first
  |exact key 2 (by omega) (by omega) (by omega) (by omega) (by omega)
  |exact key 3 (by omega) (by omega) (by omega) (by omega) (by omega)
  |exact key 4 (by omega) (by omega) (by omega) (by omega) (by omega)
  |exact key 5 (by omega) (by omega) (by omega) (by omega) (by omega)
  |exact key 6 (by omega) (by omega) (by omega) (by omega) (by omega)
  |exact key 7 (by omega) (by omega) (by omega) (by omega) (by omega)
  |exact key 8 (by omega) (by omega) (by omega) (by omega) (by omega)
  |exact key 9 (by omega) (by omega) (by omega) (by omega) (by omega)
theorem OO{u:Nat}(h1:u<100)(h:aa):FW SS 145 [.int .i64 (u:Int)] h (λv h'=>h'=h/\v=strOf (aj u)):=by
 refine ON _ h _ (ae (λg=>?_) (λg=>?_))
 ·have g:=dT g;rw[aA (by omega) (by omega)];refine⟨_,lD (by kernel_rfl) _ (a:=u) (b:=u+1) rfl rfl (by omega) (by simp;omega),rfl,?_⟩;rw[cO (by omega)];have:u=0\/u=1\/u=2\/u=3\/u=4\/u=5\/u=6\/u=7\/u=8\/u=9:=by omega
  rcases this with rfl|rfl|rfl|rfl|rfl|rfl|rfl|rfl|rfl|rfl<;>rfl
 ·have g:=dF g;rw[aA (n:=(u:Int)*2) (by omega) (by omega),aA (by omega) (by omega)];refine⟨_,lD (l:=SM) (by kernel_rfl) (a:=2*u) (b:=2*u+2) (by show some _=some _;congr 1;omega) (by show some _=some _;congr 1;omega) (by omega) (by show _<=200;omega),rfl,?_⟩;have hb:=OM h1;rw[gR (by omega),cO (by omega),show 2*u+2-2*u=2 by omega];have hl:SM.length=200:=rfl;rw[List.drop_eq_getElem_cons (by omega),List.drop_eq_getElem_cons (by omega)];have e1:SM[2*u]'(by omega)=dP (u/10):=by
   apply UInt8.toNat_inj.1;have:=hb.1;rw[gD,gE (by omega)]at this;rw[show(SM[2*u]'(by omega)).toNat=_ from this];unfold dP;rw[UInt8.toNat_ofNat',Nat.mod_eq_of_lt (by omega)]
  have e2:SM[2*u+1]'(by omega)=dP (u%10):=by
   apply UInt8.toNat_inj.1;have:=hb.2;rw[gD,gE (by omega)]at this;rw[show(SM[2*u+1]'(by omega)).toNat=_ from this];unfold dP;rw[UInt8.toNat_ofNat',Nat.mod_eq_of_lt (a:=48+u%10) (b:=2^8) (by omega)]
  rw[e1,e2];rfl
section
theorem kg{n:Int}(h1:0<=n)(h2:n<4294967296):wrap .u32 n=n:=by
 simp only[wrap,IntKind.bits,IntKind.signed,Bool.false_and,Bool.false_eq_true,if_false];omega
theorem zv{P:Program}{t:TypeId}{a:Int}{b:Nat}(h0:0<=a)(h1:a<4294967296)(hb:0<b):ay P .quo t (.int .u32 a) (.int .u32 (b:Int))=some (.int .u32 (a/(b:Int))):=by
 rw[CL P t .u32 _ _ (by omega),Int.tdiv_eq_ediv_of_nonneg h0,kg (Int.ediv_nonneg h0 (by omega)) (Int.lt_of_le_of_lt (Int.ediv_le_self _ h0) h1)]
theorem PN{d:Nat}(h:d<10):oT (dP d) = .int .u8 (48+(d:Int)):=by
 unfold oT dP;rw[UInt8.toNat_ofNat',Nat.mod_eq_of_lt (a:=48+d) (b:=2^8) (by omega)];rfl
structure FB(h0:aa)(k n u j w:Nat)(h:aa):Prop where
 blk:∃cs,h.get k=some (.cells cs 157 0 true)/\cs.length=24/\(cs.drop j).take (n-j)=(Num.wid (n-j) u).map oT
 hw:w=u/10^(n-j)
 lt:w<10^j
 jn:j<=n
 n24:n<=9
 ok:Ez h0 k h
section
variable {h0 h:aa} {k n u j w:Nat}
theorem FB.room(f:FB h0 k n u j w h)(r:Nat):FB h0 k n u j w (room h r):=⟨f.blk,f.hw,f.lt,f.jn,f.n24,f.ok.room r⟩
theorem FB.step(f:FB h0 k n u (j+1) w h){c:Nat}{x i:Int}(hx:x=48+(w:Int)%10)(hi:i=(j:Int)):
  ∃p:Addr,af SS.P 159 (.slice (some ⟨k,0,none⟩) n c) (.int .i64 i)=some (.pointer (some p))/\∃u':cX,aw SS.P 5 (.pointer (some p)) (.int .u8 x) h=some (undef,u')/\FB h0 k n u j (w/10) (u'.app h):=by
 subst hx hi;obtain⟨cs,h1,h2,h3⟩:=f.blk;have hjn:=f.jn;have hn:=f.n24;refine⟨⟨k,0+j,none⟩,?_,.set k (.cells (cs.set j (oT (dP (w%10)))) 157 0 true),?_,?_⟩
 ·unfold af;rw[vY];dsimp only;rw[UR];dsimp only;rw[if_pos ⟨by omega,by omega⟩,mul_one,cw,toNat_natCast]
 ·rw[show(48+((w:Nat):Int)%10)=48+((w%10:Nat):Int) by omega,<-PN (mod_lt _ (by omega))];show(if aB SS.P 5=some 1 then(storeAt h k (0+j) [oT (dP (w%10))]).map λu=>(undef,u)else none)=_;rw[if_pos UR];unfold storeAt;rw[h1];dsimp only;rw[zero_add,if_pos ⟨by simp;omega,rfl⟩];have e:cs.take j++[oT (dP (w%10))]++cs.drop (j+[oT (dP (w%10))].length)=cs.set j (oT (dP (w%10))):=by
   rw[List.set_eq_take_append_cons_drop,if_pos (by omega),append_assoc];rfl
  rw[e];rfl
 ·have hk:=f.ok.wf _ _ h1;have hnj:n-j=(n-(j+1))+1:=by omega
  refine⟨⟨cs.set j (oT (dP (w%10))),?_,by rw[length_set];exact h2,?_⟩,?_,?_,by omega,hn,f.ok.set hk _⟩
  ·show(h.set k _).get k=_;rw[aa.aX,if_pos rfl]
  ·rw[List.drop_eq_getElem_cons (by simp only[length_set];omega),hnj,List.take_succ_cons,List.getElem_set_self,List.drop_set_of_lt (by omega),h3,rW,List.map_cons,<-f.hw]
  ·rw[hnj,pow_succ,<-Nat.div_div_eq_div_mul,<-f.hw]
  ·have:=f.lt;rw[pow_succ]at this;omega
theorem WS{y:Int}{x:Nat}(hy:y=(x:Int))(hx:x<100):bp SS.P 9 (strOf SM) (.int .u32 (wrap .u32 (wrap .u32 (y*2)+1)))=some (.int .u8 (48+(x:Int)%10)):=by
 rw[kg (n:=y*2) (by omega) (by omega),kg (by omega) (by omega),lC (by kernel_rfl) SM .u32 (by omega) (by show _<((200:Nat):Int);omega),show(y*2+1).toNat=2*x+1 by omega,(OM hx).2];rfl
theorem WR{y:Int}{x:Nat}(hy:y=(x:Int))(hx:x<100):bp SS.P 9 (strOf SM) (.int .u32 (wrap .u32 (y*2)))=some (.int .u8 (48+(x:Int)/10)):=by
 rw[kg (n:=y*2) (by omega) (by omega),lC (by kernel_rfl) SM .u32 (by omega) (by show _<((200:Nat):Int);omega),show(y*2).toNat=2*x by omega,(OM hx).1];rfl
theorem FB.pair(f:FB h0 k n u (j+2) w h){c:Nat}{y i1 i2:Int}(hy:y=(w:Int)%100)(h1:i1=(j:Int)+1)(h2:i2=(j:Int)):
  ∃n9:Int,bp SS.P 9 (strOf SM) (.int .u32 (wrap .u32 (wrap .u32 (y*2)+1)))=some (.int .u8 n9)/\
  ∃n10:Int,bp SS.P 9 (strOf SM) (.int .u32 (wrap .u32 (y*2)))=some (.int .u8 n10)/\
  ∃p11:Addr,af SS.P 159 (.slice (some ⟨k,0,none⟩) n c) (.int .i64 i1)=some (.pointer (some p11))/\
  ∃RK:cX,aw SS.P 5 (.pointer (some p11)) (.int .u8 n9) (Go.Ab.room h 15)=some (undef,RK)/\
  ∃p13:Addr,af SS.P 159 (.slice (some ⟨k,0,none⟩) n c) (.int .i64 i2)=some (.pointer (some p13))/\
  ∃Pt:cX,aw SS.P 5 (.pointer (some p13)) (.int .u8 n10) (RK.app (Go.Ab.room h 15))=some (undef,Pt)/\
  FB h0 k n u j (w/100) (Pt.app (RK.app (Go.Ab.room h 15))):=by
 have e:y=((w%100:Nat):Int):=by omega
 obtain⟨p,a1,u1,a2,f1⟩:=(f.room 15).step (j:=j+1) (c:=c) (x:=48+((w%100:Nat):Int)%10) (i:=i1) (by omega) (by omega);obtain⟨q,a3,u2,a4,f2⟩:=f1.step (c:=c) (x:=48+((w%100:Nat):Int)/10) (i:=i2) (by omega) (by omega);refine⟨_,WS e (by omega),_,WR e (by omega),p,a1,u1,a2,q,a3,u2,a4,?_⟩;rw[Nat.div_div_eq_div_mul]at f2;exact f2
end
theorem Nf{h0 h:aa}{k n c u:Nat}(f:FB h0 k n u n u h):FW SS 147 [.slice (some ⟨k,0,none⟩) n c,.int .u64 (u:Int)] h (λv h'=>v = .tuple ⟨[]⟩/\∃w,FB h0 k n u 0 w h'):=by
 have hn:=f.n24;have L:=uS (some ⟨k,0,none⟩) n c (u:Int) (λmz i v g=>∃w:Nat,v=(w:Int)/\mz=i/\FB h0 k n u i w g) (λv h'=>v = .tuple ⟨[]⟩/\∃w,FB h0 k n u 0 w h') (by
  intro mz i v;intros;rename_i g hi;obtain⟨w,rfl,rfl,f⟩:=hi;have hjn:=f.jn;have hw:w<1000000000:=lt_of_lt_of_le f.lt (show 10^mz<=10^9 from pow_le_pow_right (by omega) (by omega));refine ae (λg1=>?_) (λg1=>?_)
  ·have g1:=dT g1;obtain⟨j,rfl⟩:∃j,mz=j+8:=⟨mz-8,by omega⟩
   refine⟨_,eW (b:=100000000) (by omega) (by omega),_,mM (b:=100000000) (by omega) (by omega) (by omega),?_⟩;rw[kg (n:=((w:Nat):Int)%((100000000:Nat):Int)) (by omega) (by omega)];refine⟨_,zv (b:=10000) (by omega) (by omega) (by omega),_,eW (b:=10000) (by omega) (by omega),_,zv (b:=100) (by omega) (by omega) (by omega),_,eW (b:=100) (by omega) (by omega),_,zv (b:=100) (by omega) (by omega) (by omega),_,eW (b:=100) (by omega) (by omega),?_⟩;obtain⟨a1,b1,a2,b2,a3,b3,a4,b4,a5,b5,a6,b6,f1⟩:=FB.pair (j:=j+6) (c:=c) (y:=((w:Nat):Int)%((100000000:Nat):Int)%((10000:Nat):Int)%((100:Nat):Int)) (i1:=wrap .i64 (((j+8:Nat):Int)-1)) (i2:=wrap .i64 (((j+8:Nat):Int)-2)) f (by omega) (by rw[aA (by omega) (by omega)];omega) (by rw[aA (by omega) (by omega)];omega);refine⟨a1,b1,a2,b2,a3,b3,a4,b4,a5,b5,a6,b6,?_⟩;obtain⟨a1,b1,a2,b2,a3,b3,a4,b4,a5,b5,a6,b6,f2⟩:=FB.pair (j:=j+4) (c:=c) (y:=((w:Nat):Int)%((100000000:Nat):Int)%((10000:Nat):Int)/((100:Nat):Int)) (i1:=wrap .i64 (((j+8:Nat):Int)-3)) (i2:=wrap .i64 (((j+8:Nat):Int)-4)) f1 (by omega) (by rw[aA (by omega) (by omega)];omega) (by rw[aA (by omega) (by omega)];omega);refine⟨a1,b1,a2,b2,a3,b3,a4,b4,a5,b5,a6,b6,?_⟩;obtain⟨a1,b1,a2,b2,a3,b3,a4,b4,a5,b5,a6,b6,f3⟩:=FB.pair (j:=j+2) (c:=c) (y:=((w:Nat):Int)%((100000000:Nat):Int)/((10000:Nat):Int)%((100:Nat):Int)) (i1:=wrap .i64 (((j+8:Nat):Int)-5)) (i2:=wrap .i64 (((j+8:Nat):Int)-6)) f2 (by omega) (by rw[aA (by omega) (by omega)];omega) (by rw[aA (by omega) (by omega)];omega);refine⟨a1,b1,a2,b2,a3,b3,a4,b4,a5,b5,a6,b6,?_⟩;obtain⟨a1,b1,a2,b2,a3,b3,a4,b4,a5,b5,a6,b6,f4⟩:=FB.pair (j:=j) (c:=c) (y:=((w:Nat):Int)%((100000000:Nat):Int)/((10000:Nat):Int)/((100:Nat):Int)) (i1:=wrap .i64 (((j+8:Nat):Int)-7)) (i2:=wrap .i64 (((j+8:Nat):Int)-8)) f3 (by omega) (by rw[aA (by omega) (by omega)];omega) (by rw[aA (by omega) (by omega)];omega);refine⟨a1,b1,a2,b2,a3,b3,a4,b4,a5,b5,a6,b6,?_⟩;have e1:wrap .i64 (((j+8:Nat):Int)-8)=(j:Int):=by rw[aA (by omega) (by omega)];omega
   rw[e1];exact iN j (by omega) ⟨w/100000000,by omega,rfl,by
    have:=f4;simp only[Nat.div_div_eq_div_mul]at this;exact this⟩
  ·have g1:=dF g1;have hw8:w<100000000:=lt_of_lt_of_le f.lt (show 10^mz<=10^8 from pow_le_pow_right (by omega) (by omega));rw[kg (n:=((w:Nat):Int)) (by omega) (by omega)];refine ae (λg2=>?_) (λg2=>?_)
   ·have g2:=dT g2;obtain⟨j,rfl⟩:∃j,mz=j+4:=⟨mz-4,by omega⟩
    refine⟨_,eW (b:=10000) (by omega) (by omega),_,zv (b:=10000) (by omega) (by omega) (by omega),_,zv (b:=100) (by omega) (by omega) (by omega),_,eW (b:=100) (by omega) (by omega),?_⟩;obtain⟨a1,b1,a2,b2,a3,b3,a4,b4,a5,b5,a6,b6,f1⟩:=FB.pair (j:=j+2) (c:=c) (y:=((w:Nat):Int)%((10000:Nat):Int)%((100:Nat):Int)) (i1:=wrap .i64 (((j+4:Nat):Int)-1)) (i2:=wrap .i64 (((j+4:Nat):Int)-2)) f (by omega) (by rw[aA (by omega) (by omega)];omega) (by rw[aA (by omega) (by omega)];omega);refine⟨a1,b1,a2,b2,a3,b3,a4,b4,a5,b5,a6,b6,?_⟩;obtain⟨a1,b1,a2,b2,a3,b3,a4,b4,a5,b5,a6,b6,f2⟩:=FB.pair (j:=j) (c:=c) (y:=((w:Nat):Int)%((10000:Nat):Int)/((100:Nat):Int)) (i1:=wrap .i64 (((j+4:Nat):Int)-3)) (i2:=wrap .i64 (((j+4:Nat):Int)-4)) f1 (by omega) (by rw[aA (by omega) (by omega)];omega) (by rw[aA (by omega) (by omega)];omega);refine⟨a1,b1,a2,b2,a3,b3,a4,b4,a5,b5,a6,b6,?_⟩;have e1:wrap .i64 (((j+4:Nat):Int)-4)=(j:Int):=by rw[aA (by omega) (by omega)];omega
    rw[e1];have hwj:=f2.lt;refine ae (λg3=>?_) (λg3=>?_)
    ·have g3:=dT g3;obtain⟨l,rfl⟩:∃l,j=l+2:=⟨j-2,by omega⟩
     refine⟨_,eW (b:=100) (by omega) (by omega),_,zv (b:=100) (by omega) (by omega) (by omega),?_⟩;obtain⟨a1,b1,a2,b2,a3,b3,a4,b4,a5,b5,a6,b6,f3⟩:=FB.pair (j:=l) (c:=c) (y:=((w:Nat):Int)/((10000:Nat):Int)%((100:Nat):Int)) (i1:=wrap .i64 (((l+2:Nat):Int)-1)) (i2:=wrap .i64 (((l+2:Nat):Int)-2)) f2 (by omega) (by rw[aA (by omega) (by omega)];omega) (by rw[aA (by omega) (by omega)];omega);refine⟨a1,b1,a2,b2,a3,b3,a4,b4,a5,b5,a6,b6,?_⟩;have e2:wrap .i64 (((l+2:Nat):Int)-2)=(l:Int):=by rw[aA (by omega) (by omega)];omega
     rw[e2];refine ae (λg4=>?_) (λg4=>?_)
     ·have g4:=dT g4;obtain rfl:l=1:=by omega
      have hwl:=f3.lt;rw[kg (n:=48+_) (by omega) (by omega),oE (n:=48+_) (by omega) (by omega)];obtain⟨p,b1,u1,b2,f4⟩:=f3.step (c:=c) (x:=48+((w:Nat):Int)/((10000:Nat):Int)/((100:Nat):Int)) (i:=0) (by omega) rfl;exact⟨p,b1,u1,b2,rfl,_,f4⟩
     ·have g4:=dF g4;obtain rfl:l=0:=by omega
      exact⟨rfl,_,f3⟩
    ·have g3:=dF g3;refine ae (λg4=>?_) (λg4=>?_)
     ·have g4:=dT g4;obtain rfl:j=1:=by omega
      rw[kg (n:=48+_) (by omega) (by omega),oE (n:=48+_) (by omega) (by omega)];obtain⟨p,b1,u1,b2,f4⟩:=f2.step (c:=c) (x:=48+((w:Nat):Int)/((10000:Nat):Int)) (i:=0) (by omega) rfl;exact⟨p,b1,u1,b2,rfl,_,f4⟩
     ·have g4:=dF g4;obtain rfl:j=0:=by omega
      exact⟨rfl,_,f2⟩
   ·have g2:=dF g2;refine ae (λg3=>?_) (λg3=>?_)
    ·have g3:=dT g3;obtain⟨l,rfl⟩:∃l,mz=l+2:=⟨mz-2,by omega⟩
     refine⟨_,eW (b:=100) (by omega) (by omega),_,zv (b:=100) (by omega) (by omega) (by omega),?_⟩;obtain⟨a1,b1,a2,b2,a3,b3,a4,b4,a5,b5,a6,b6,f3⟩:=FB.pair (j:=l) (c:=c) (y:=((w:Nat):Int)%((100:Nat):Int)) (i1:=wrap .i64 (((l+2:Nat):Int)-1)) (i2:=wrap .i64 (((l+2:Nat):Int)-2)) f (by omega) (by rw[aA (by omega) (by omega)];omega) (by rw[aA (by omega) (by omega)];omega);refine⟨a1,b1,a2,b2,a3,b3,a4,b4,a5,b5,a6,b6,?_⟩;have e2:wrap .i64 (((l+2:Nat):Int)-2)=(l:Int):=by rw[aA (by omega) (by omega)];omega
     rw[e2];have hwl:=f3.lt;refine ae (λg4=>?_) (λg4=>?_)
     ·have g4:=dT g4;obtain rfl:l=1:=by omega
      rw[kg (n:=48+_) (by omega) (by omega),oE (n:=48+_) (by omega) (by omega)];obtain⟨p,b1,u1,b2,f4⟩:=f3.step (c:=c) (x:=48+((w:Nat):Int)/((100:Nat):Int)) (i:=0) (by omega) rfl;exact⟨p,b1,u1,b2,rfl,_,f4⟩
     ·have g4:=dF g4;obtain rfl:l=0:=by omega
      exact⟨rfl,_,f3⟩
    ·have g3:=dF g3;have hwl:=f.lt;refine ae (λg4=>?_) (λg4=>?_)
     ·have g4:=dT g4;obtain rfl:mz=1:=by omega
      rw[kg (n:=48+_) (by omega) (by omega),oE (n:=48+_) (by omega) (by omega)];obtain⟨p,b1,u1,b2,f4⟩:=f.step (c:=c) (x:=48+((w:Nat):Int)) (i:=0) (by omega) rfl;exact⟨p,b1,u1,b2,rfl,_,f4⟩
     ·have g4:=dF g4;obtain rfl:mz=0:=by omega
      exact⟨rfl,_,f⟩)
 exact Nd _ n c _ h _ (L n ⟨u,rfl,rfl,f⟩)
end
noncomputable def L8:bO:= .cells (List.replicate 24 (.int .u8 0)) 157 0 true
theorem UZ:cq SS.P 157=some (L8,nV):=by kernel_rfl
theorem U4:SS.P.underlying 157=some (.array 24 5):=by kernel_rfl
theorem Bo{h:aa}{k:Nat}{cs:List Value}{wr:Bool}(hk:h.get k=some (.cells cs 157 0 wr)){n:Nat}(hn:n<=24):bt SS.P 157 (.pointer (some ⟨k,0,none⟩)) none (some (.int .i64 (n:Int))) none h=some (.slice (some ⟨k,0,none⟩) n 24):=by
 unfold bt;dsimp only;rw[U4];dsimp only[eu];rw[UR,hk];show(if 0<=((0:Nat):Int)/\((0:Nat):Int)<=(n:Int)/\(n:Int)<=((24:Nat):Int)/\24<bV then some (Value.slice (some ⟨k,0+((0:Nat):Int).toNat*1,none⟩) ((n:Int)-((0:Nat):Int)).toNat (24-((0:Nat):Int).toNat))else none)=_;have hO:24<bV:=by unfold bV;omega
 rw[if_pos ⟨by omega,by omega,by omega,hO⟩];have e2:((n:Int)-((0:Nat):Int)).toNat=n:=by omega
 have e0:((0:Nat):Int).toNat=0:=rfl;rw[e2,e0]
theorem IE{h:aa}{k off n c:Nat}{cs:List Value}{e sz:Nat}{wr:Bool}(hk:h.get k=some (.cells cs e sz wr)){l:List UInt8}(hl:(cs.drop off).take n=l.map oT)(hn:l.length=n):w6 SS.P 159 9 (.slice (some ⟨k,off,none⟩) n c) h=some (strOf l):=by
 unfold w6 aY;dsimp only;rw[vY,show SS.P.underlying 9=some .string by kernel_rfl];dsimp only;rw[show SS.P.underlying 5=some (.int .u8) by kernel_rfl];dsimp only;rw[hk];dsimp only;rw[hl,if_pos (by rw[lM];exact hn),mE];rfl
theorem Fj{u:Nat}(h1:u<1000000000){h:aa}(t:qP h)(w:Wf h):FW SS 205 [.int .u64 (u:Int),.int .i64 10] h (λv h'=>v=strOf (aj u)/\Ok h h'):=by
 refine Fh _ h _ (ae (λ_=>?_) (λg=>by simp at g));refine ae (λg=>?_) (λg=>?_)
 ·have g:=dT g;rw[aA (by omega) (by omega)];refine(OO (by omega) h).mono ?_;rintro _ _ ⟨rfl,rfl⟩;exact⟨_,rfl,rfl,Ok.refl w⟩
 ·have g:=dF g;have ok:=(Ok.refl w).push L8;refine⟨_,UZ,(Dq (by omega) h1 (t.ok ok)).mono ?_⟩;rintro _ h6 ⟨e6,n,rfl,g1,g2,g3⟩;subst e6;have hk:(h.push L8).get h.next=some (.cells (List.replicate 24 (.int .u8 0)) 157 0 true):=by rw[aa.aR,if_pos rfl];rfl
  refine⟨_,rfl,_,_,_,Bo hk (n:=n+1) (by omega),?_⟩;have f:FB (h.push L8) h.next (n+1) u (n+1) u (h.push L8):=⟨⟨_,hk,by simp,by simp[Num.wid]⟩,by simp,g3,Nat.le_refl _,by omega,Ez.refl ok.wf⟩
  refine(Nf f).mono ?_;rintro _ h12 ⟨rfl,x,f2⟩;obtain⟨cs,b1,b2,b3⟩:=f2.blk;rw[drop_zero,sub_zero]at b3;refine⟨rfl,_,_,_,Bo b1 (n:=n+1) (by omega),aj u,IE b1 ?_ ?_,rfl,?_⟩
  ·rw[drop_zero,b3,um g3 (.inr g2)]
  ·rw[<-um g3 (.inr g2),uo]
  ·refine⟨f2.ok.wf,λj B hj=>f2.ok.fc j B (λe=>by have:=w _ _ hj;omega) (ok.ext _ _ hj),Nat.le_trans ok.nx f2.ok.nx⟩
theorem HI{u:Nat}(h1:u<1000000000){h:aa}(t:qP h)(w:Wf h):FW SS 185 [.int .u64 (u:Int),.int .i64 10] h (λv h'=>v=strOf (aj u)/\Ok h h'):=by
 refine HH _ h _ ((Fj h1 t w).mono ?_);rintro _ h2 ⟨rfl,o⟩;exact⟨_,rfl,rfl,o⟩
noncomputable def nz:FD:=dJ Tryz.f206 []
theorem Ax(p:Addr)(h:aa)(Q:VH)(hx:xP (ah SS.P 192 (.pointer (some p)) 0) λp1=>xO (ai SS.P 190 h (.pointer (some p1))) λa2=>xB (ay SS.P .eql 190 (.pointer a2) (.pointer none)) λb3=>aF b3 (xG (aV SS.P fV (ev SS.gl (uN [(.pointer (some p)),undef,(.pointer (some p)),(.pointer (some p)),(.pointer (some p1)),(.pointer a2),(.bool b3),(.pointer (some p)),(.pointer (some p))] 11)) (JE (iH [1,0] nz.body) 2) h) h λv4 u5 g6=>FW SS 215 [v4] g6 λv7 h8=>yV v7 λv9=>xG (aV SS.P fV (ev SS.gl (uN [(.pointer (some p)),undef,(.pointer (some p)),(.pointer (some p)),(.pointer (some p1)),(.pointer a2),(.bool b3),(.pointer (some p)),(.pointer (some p)),v4,v9] 9)) (JE (iH [1,0] nz.body) 4) h8) h8 λv10 UN Pr=>xP (ah SS.P 192 (.pointer (some p)) 0) λp13=>xU (aw SS.P 190 (.pointer (some p13)) v10 Pr) Pr λPt Ni=>Q (.tuple ⟨[]⟩) Ni) (xP (ah SS.P 192 (.pointer (some p)) 0) λp16=>xO (ai SS.P 190 h (.pointer (some p16))) λa17=>xB (ay SS.P .neq 190 (.pointer a17) (.pointer (some p))) λb18=>aF b18 (False) (Q (.tuple ⟨[]⟩) h))):FW SS 206 [(.pointer (some p))] h Q:=dM nz Tryz.func206 (au hx)
noncomputable def Mp:FD:=dJ Tryz.f186 []
theorem J4(p:Addr)(l:LB)(h:aa)(Q:VH)(hx:FW SS 206 [(.pointer (some p))] h λv1 h2=>v1=(.tuple ⟨[]⟩)/\xP (ah SS.P 192 (.pointer (some p)) 1) λp3=>xL (ai SS.P 159 h2 (.pointer (some p3))) λa4 n5 c6=>xE (aO SS.P 159 9 (.slice a4 n5 c6) (strOf l) h2) h2 λa7 n8 c9 Ps HK=>xP (ah SS.P 192 (.pointer (some p)) 1) λp12=>xU (aw SS.P 159 (.pointer (some p12)) (.slice a7 n8 c9) HK) HK λUO L4=>Q (.tuple ⟨[(.int .i64 ((l:LB).length:Int)),.nilIface]⟩) L4):FW SS 186 [(.pointer (some p)),(strOf l)] h Q:=dM Mp Tryz.func186 (au hx)
noncomputable def uC:FD:=dJ Tryz.f188 []
theorem Hi(p:Addr)(h:aa)(Q:VH)(hx:xP (ah SS.P 192 (.pointer (some p)) 1) λp1=>xL (ai SS.P 159 (room h 12) (.pointer (some p1))) λa2 n3 c4=>xG (aV SS.P fV (ev SS.gl (uN [(.pointer (some p)),undef,(strOf []),(.pointer (some p)),(.pointer (some p)),(.pointer (some p1)),(.slice a2 n3 c4)] 7)) (JE (iH [1,0] uC.body) 4) (room h 12)) (room h 12) λv5 u6 g7=>xP (ah SS.P 192 (.pointer (some p)) 1) λp8=>xL (ai SS.P 159 g7 (.pointer (some p8))) λa9 n10 bW=>xG (aV SS.P fV (ev SS.gl [(.pointer (some p)),undef,(strOf []),(.pointer (some p)),(.pointer (some p)),(.pointer (some p1)),(.slice a2 n3 c4),v5,(.pointer (some p)),(.pointer (some p)),(.pointer (some p8)),(.slice a9 n10 bW),(iA n10),undef]) (JE (iH [1,0] uC.body) 10) g7) g7 λv12 UO L4=>(ai SS.P 159 (room h 12) (.pointer (some p8))=some (.slice a9 n10 bW)/\mq 4 (.slice a9 n10 bW) (.slice a9 n10 bW)=true)/\(FG SS.P 159 (.slice a9 n10 bW) (room h 12)=some (iA n10)/\mq 4 (iA n10) (iA n10)=true)/\Q v12 L4):FW SS 188 [(.pointer (some p))] h Q:=dM uC Tryz.func188 (au hx)
theorem rN:SS.P.underlying 190=some (.pointer 192):=by kernel_rfl
theorem wc:SS.P.underlying 211=some .unsafePointer:=by kernel_rfl
theorem O6:aB SS.P 192=some 2:=by kernel_rfl
theorem PW{ρ:Operand->Value}{o:Oper}{x:Operand}(ho:o.op = .convert 190 211 x){h:aa}{k:Nat}{a b:Value}{wr:Bool}(hx:ρ x = .pointer (some ⟨k,0,none⟩))(hk:h.get k=some (.cells [a,b] 192 0 wr)):aV SS.P fV ρ o h=some (.pointer (some ⟨k,0,none⟩),.no):=by
 obtain⟨dst,op,ty,pos,after,guard⟩:=o;subst ho;unfold aV;have h1:aT SS.P ρ ⟨dst,.convert 190 211 x,ty,pos,after,guard⟩=none:=by
  show eL SS.P 190 211 (ρ x)=none;rw[hx];unfold eL;rw[rN,wc]
 have h2:aY SS.P ρ ⟨dst,.convert 190 211 x,ty,pos,after,guard⟩ h=none:=by
  unfold aY;dsimp only;rw[rN,wc,hx]
 have h3:aS SS.P ρ ⟨dst,.convert 190 211 x,ty,pos,after,guard⟩=none:=by
  unfold aS;dsimp only;rw[rN,wc,hx]
 rw[h1];dsimp only;rw[h2];dsimp only;rw[h3];dsimp only;unfold cY;dsimp only;rw[rN,wc,hx];show(match h.get k with|some (.cells cs t' 0 _)=>if 192=t'/\aB SS.P 192=some cs.length/\0<cs.length then some (Value.pointer (some ⟨k,0,none⟩),cX.no)else none|_=>none)=_;rw[hk];show(if 192=192/\aB SS.P 192=some [a,b].length/\0<[a,b].length then some (Value.pointer (some ⟨k,0,none⟩),cX.no)else none)=_;rw[if_pos ⟨rfl,O6,by simp⟩]
theorem Kf{ρ:Operand->Value}{o:Oper}{x:Operand}(ho:o.op = .convert 211 190 x){h:aa}{k:Nat}{a b:Value}{wr:Bool}(hx:ρ x = .pointer (some ⟨k,0,none⟩))(hk:h.get k=some (.cells [a,b] 192 0 wr)):aV SS.P fV ρ o h=some (.pointer (some ⟨k,0,none⟩),.no):=by
 obtain⟨dst,op,ty,pos,after,guard⟩:=o;subst ho;unfold aV;have h1:aT SS.P ρ ⟨dst,.convert 211 190 x,ty,pos,after,guard⟩=none:=by
  show eL SS.P 211 190 (ρ x)=none;rw[hx];unfold eL;rw[rN,wc]
 have h2:aY SS.P ρ ⟨dst,.convert 211 190 x,ty,pos,after,guard⟩ h=none:=by
  unfold aY;dsimp only;rw[rN,wc,hx]
 have h3:aS SS.P ρ ⟨dst,.convert 211 190 x,ty,pos,after,guard⟩=none:=by
  unfold aS;dsimp only;rw[rN,wc,hx]
 rw[h1];dsimp only;rw[h2];dsimp only;rw[h3];dsimp only;unfold cY;dsimp only;rw[rN,wc,hx];show(match h.get k with|some (.cells cs t' 0 _)=>if 192=t'/\aB SS.P 192=some cs.length/\0<cs.length then some (Value.pointer (some ⟨k,0,none⟩),cX.no)else none|_=>none)=_;rw[hk];show(if 192=192/\aB SS.P 192=some [a,b].length/\0<[a,b].length then some (Value.pointer (some ⟨k,0,none⟩),cX.no)else none)=_;rw[if_pos ⟨rfl,O6,by simp⟩]
def self(k:Nat):Value:= .pointer (some ⟨k,0,none⟩)
theorem SW(k:Nat):ah SS.P 192 (.pointer (some ⟨k,0,none⟩)) 0=some (.pointer (some ⟨k,0,none⟩)):=by kernel_rfl
theorem Qk(k:Nat):ah SS.P 192 (.pointer (some ⟨k,0,none⟩)) 1=some (.pointer (some ⟨k,1,none⟩)):=by kernel_rfl
theorem Yh{h:aa}{k:Nat}{a b:Value}{wr:Bool}(hk:h.get k=some (.cells [a,b] 192 0 wr)):ai SS.P 190 h (.pointer (some ⟨k,0,none⟩))=some a:=by
 unfold ai;rw[rN];dsimp only;rw[hk];dsimp only;rw[show Go.Ab.isAgg SS.P 190=false by kernel_rfl];rfl
theorem UI{h:aa}{k:Nat}{a b:Value}{wr:Bool}(hk:h.get k=some (.cells [a,b] 192 0 wr)):ai SS.P 159 h (.pointer (some ⟨k,1,none⟩))=some b:=by
 unfold ai;rw[vY];dsimp only;rw[hk];dsimp only;rw[show Go.Ab.isAgg SS.P 159=false by kernel_rfl];rfl
theorem ZK{h:aa}{k:Nat}{a b x:Value}(hk:h.get k=some (.cells [a,b] 192 0 true))(hx:di x=true)(hc:x.cells = #[x]):aw SS.P 190 (.pointer (some ⟨k,0,none⟩)) x h=some (undef,.set k (.cells [x,b] 192 0 true)):=by
 show(if aB SS.P 190=some x.cells.size then(storeAt h k 0 x.cells.toList).map λu=>(undef,u)else none)=_;rw[hc,show aB SS.P 190=some 1 by kernel_rfl,if_pos (show some 1=some #[x].size from rfl)];unfold storeAt;rw[hk];dsimp only;rw[if_pos ⟨by simp,by simp[hx]⟩];rfl
theorem Un{h:aa}{k:Nat}{a b x:Value}(hk:h.get k=some (.cells [a,b] 192 0 true))(hx:di x=true)(hc:x.cells = #[x]):aw SS.P 159 (.pointer (some ⟨k,1,none⟩)) x h=some (undef,.set k (.cells [a,x] 192 0 true)):=by
 show(if aB SS.P 159=some x.cells.size then(storeAt h k 1 x.cells.toList).map λu=>(undef,u)else none)=_;rw[hc,show aB SS.P 159=some 1 by kernel_rfl,if_pos (show some 1=some #[x].size from rfl)];unfold storeAt;rw[hk];dsimp only;rw[if_pos ⟨by simp,by simp[hx]⟩];rfl
theorem CQ{h:aa}{k:Nat}{a b:Value}(hk:h.get k=some (.cells [a,b] 192 0 true))(ha:a = .pointer none\/a=self k):
  FW SS 206 [self k] h (λv h'=>v = .tuple ⟨[]⟩/\h'.get k=some (.cells [self k,b] 192 0 true)/\(∀j,j≠k->h'.get j=h.get j)/\h'.next=h.next):=by
 refine Ax ⟨k,0,none⟩ h _ ⟨_,SW k,?_⟩;rcases ha with rfl|rfl
 ·refine⟨_,Yh hk,true,by kernel_rfl,?_⟩;refine ae (λ_=>?_) (λg=>by cases g);refine⟨_,_,PW (k:=k) (x:= .tmp 8) (by kernel_rfl) (by kernel_rfl) hk,C0 (p:=jY) (v:=self k) (by kernel_rfl) (by kernel_rfl) (λ_=>rfl) ⟨_,rfl,_,_,Kf (k:=k) (x:= .tmp 10) (by kernel_rfl) (by kernel_rfl) hk,_,SW k,_,ZK hk rfl rfl,rfl,?_,?_,rfl⟩⟩
  ·show(h.set k _).get k=_;rw[aa.aX,if_pos rfl];rfl
  ·intro j hj;show(h.set k _).get j=_;rw[aa.aX,if_neg hj]
 ·refine⟨_,Yh hk,false,by kernel_rfl,?_⟩;refine ae (λg=>by cases g) (λ_=>?_);have hn:ay SS.P .neq 190 (self k) (self k)=some (.bool false):=by
   show((nG SS.P 190 (.pointer (some ⟨k,0,none⟩)) (.pointer (some ⟨k,0,none⟩))).map λb=>Value.bool !b)=_;unfold nG;dsimp only;rw[rN];dsimp only;rw[if_pos ⟨rfl,by rw[O6];rfl⟩];rfl
  refine⟨_,SW k,_,Yh hk,false,hn,ae (λg=>by cases g) (λ_=>⟨rfl,hk,λ_ _=>rfl,rfl⟩)⟩
def Bd(h0 h:aa)(k:Nat)(l:List UInt8):Prop:=∃a v,h.get k=some (.cells [a,v] 192 0 true)/\(a = .pointer none\/a=self k)/\Ha h0 h 5 v (l.map oT)/\h0.next<=k
theorem ZI:eZ SS.P 5=some ((SS.P.info? 5).getD default):=by kernel_rfl
theorem YA:((SS.P.info? 5).getD default).size=1:=by kernel_rfl
theorem Yz:((SS.P.info? 5).getD default).bytes=1:=by kernel_rfl
theorem ZL:dL SS.P 9=true:=by kernel_rfl
theorem Um(h:aa)(l:List UInt8):fp h 1 (strOf l)=some (l.map oT,(l.map oT).length):=by
 show(if 1=1 then some (l.map (λb=>Value.int .u8 b.toNat),l.length)else none)=_;rw[if_pos rfl,lM];rfl
theorem I6:∀l:List UInt8,(l.map oT).all di=true
 |[]=>rfl
 |c::l=>by rw[List.map_cons,List.all_cons,I6 l];rfl
theorem Dw{h0 h g:aa}{e:TypeId}{v:Value}{vs:List Value}(o:Ha h0 h e v vs)(hg:∀j B,h.get j=some B->(∃cs wr,B = .cells cs e 1 wr)->g.get j=some B):Ha h0 g e v vs:=by
 rcases o with o|⟨k,h1,h2,h3⟩
 ·exact .inl o
 ·exact .inr ⟨k,h1,h2,hg _ _ h3 ⟨_,_,rfl⟩⟩
theorem uD{h0 h:aa}{k:Nat}{l m:List UInt8}(w0:Wf h0)(ok:Ok h0 h)(b:Bd h0 h k l)(hl:l.length+m.length<=1000000):
  FW SS 186 [self k,strOf m] h (λv h'=>v = .tuple ⟨[.int .i64 (m.length:Int),.nilIface]⟩/\Ok h0 h'/\Bd h0 h' k (l++m)):=by
 obtain⟨a,v,hk,ha,o,hn⟩:=b;refine J4 ⟨k,0,none⟩ m h _ ((CQ hk ha).mono ?_);rintro _ g ⟨rfl,hg,hj,hx⟩;have okg:Ok h0 g:=by
  refine⟨λj B h1=>?_,λj B h1=>?_,by rw[hx];exact ok.nx⟩
  ·rw[hx];by_cases e:j=k
   ·rw[e];exact ok.wf _ _ hk
   ·rw[hj j e]at h1;exact ok.wf _ _ h1
  ·have:=w0 _ _ h1;rw[hj j (by omega)];exact ok.ext _ _ h1
 have og:Ha h0 g 5 v (l.map oT):=Dw o λj B h1 h2=>by
  obtain⟨cs,wr,rfl⟩:=h2;by_cases e:j=k
  ·subst e;rw[hk]at h1;injection h1 with h1;injection h1;omega
  ·rw[hj j e];exact h1
 have hv:∃a n c,v = .slice a n c:=by
  rcases og with⟨rfl,_⟩|⟨_,rfl,_⟩<;>exact⟨_,_,_,rfl⟩
 obtain⟨a4,n5,c6,rfl⟩:=hv;obtain⟨b7,n8,c9,Ps,e1,o2,ok2,fc⟩:=og.XI vY ZI YA ZL w0 okg (Um g m) (I6 m) (by rw[Yz,lM,lM];omega) (by rw[lM,lM];omega);have hk2:(Ps.app g).get k=some (.cells [self k,.slice a4 n5 c6] 192 0 true):=fc k _ hg (by
  intro o n c e;rcases og with⟨e2,_⟩|⟨k2,e2,_,e3⟩
  ·rw[e2]at e;cases e
  ·rw[e2]at e;injection e with e
   injection e with e
   injection e with e
   subst e;rw[hg]at e3;injection e3 with e3;injection e3;omega)
 refine⟨rfl,_,Qk k,_,_,_,UI hg,b7,n8,c9,Ps,e1,_,Qk k,_,Un hk2 ?_ ?_,rfl,?_,?_⟩
 ·rcases o2 with⟨e2,_⟩|⟨k2,e2,_,e3⟩<;>rw[e2]<;>rfl
 ·rfl
 ·exact ok2.set _ hn (ok2.wf _ _ hk2) w0
 ·refine⟨self k,.slice b7 n8 c9,?_,.inr rfl,?_,hn⟩
  ·show((Ps.app g).set k _).get k=_;rw[aa.aX,if_pos rfl]
  ·rw[map_append];refine Dw o2 λj B h1 h2=>?_;obtain⟨cs,wr,rfl⟩:=h2;show((Ps.app g).set k _).get j=_;rw[aa.aX,if_neg]
   ·exact h1
   intro e;subst e;rw[hk2]at h1;injection h1 with h1;injection h1;omega
theorem WL{ρ:Operand->Value}{o:Oper}{x:Operand}{ts:Array TypeId}(ho:o.op = .call ⟨.builtin .unsafeSliceData,#[x],ts⟩){h:aa}{a:Addr}{n c:Nat}(hx:ρ x = .slice (some a) n c)(hc:0<bn c):aV SS.P fV ρ o h=some (.pointer (some a),.no):=by
 obtain⟨dst,op,ty,pos,after,guard⟩:=o;subst ho;show(match [x].map ρ with
  |[.slice none _ _]=>some (Value.pointer none,cX.no)
  |[.slice (some a) _ c]=>if 0<bn c then some (Value.pointer (some a),cX.no)else none
  |_=>none)=_
 rw[List.map_cons,List.map_nil,hx];show(if 0<bn c then some (Value.pointer (some a),cX.no)else none)=_;rw[if_pos hc]
theorem Xg:SS.P.underlying 208=some (.pointer 5):=by kernel_rfl
theorem Rs{ρ:Operand->Value}{o:Oper}{x y:Operand}{t2:TypeId}(ho:o.op = .call ⟨.builtin .unsafeString,#[x,y],#[208,t2]⟩){h:aa}{k:Nat}{l:List UInt8}(hx:ρ x = .pointer (some ⟨k,0,none⟩))(hy:ρ y = .int .i64 (l.length:Int))(hk:h.get k=some (.cells (l.map oT) 5 1 true))(h0:l≠[])(h1:l.length<9223372036854775807):aV SS.P fV ρ o h=some (strOf l,.set k (.cells (l.map oT) 5 1 false)):=by
 obtain⟨dst,op,ty,pos,after,guard⟩:=o;subst ho;show(match [x,y].map ρ,(#[208,t2]:Array TypeId)[0]? with
  |[.pointer none,.int _ 0],some _=>some (strOf [],cX.no)
  | [.pointer (some ⟨k,i,none⟩),.int _ n],some pt=>(match h.get k,SS.P.underlying pt with
   | some (.cells cs e 1 true),some (.pointer e')=>
    if e=e'/\aB SS.P e=some 1/\0<n/\n<9223372036854775807/\((cs.drop i).take n.toNat).length=n.toNat then
     (match bytesOf ((cs.drop i).take n.toNat)with
     |some l=>some (strOf l,cX.set k (.cells cs e 1 false))
     |none=>none)
    else none
   |_,_=>none)
  |_,_=>none)=_
 rw[List.map_cons,List.map_cons,List.map_nil,hx,hy];show(match h.get k,SS.P.underlying 208 with
   | some (.cells cs e 1 true),some (.pointer e')=>
    if e=e'/\aB SS.P e=some 1/\0<(l.length:Int)/\(l.length:Int)<9223372036854775807/\((cs.drop 0).take (l.length:Int).toNat).length=(l.length:Int).toNat then
     (match bytesOf ((cs.drop 0).take (l.length:Int).toNat)with
     |some l=>some (strOf l,cX.set k (.cells cs e 1 false))
     |none=>none)
    else none
   |_,_=>none)=_
 rw[hk,Xg];have hp:=List.length_pos_iff.2 h0;show(if 5=5/\aB SS.P 5=some 1/\0<(l.length:Int)/\(l.length:Int)<9223372036854775807/\(((l.map oT).drop 0).take (l.length:Int).toNat).length=(l.length:Int).toNat then
     (match bytesOf (((l.map oT).drop 0).take (l.length:Int).toNat)with
     |some l'=>some (strOf l',cX.set k (.cells (l.map oT) 5 1 false))
     |none=>none)
    else none)=_
 rw[toNat_natCast,drop_zero,List.take_of_length_le (by simp),if_pos ⟨rfl,UR,by omega,by omega,by simp⟩,mE]
theorem Hj{h0 h:aa}{k:Nat}{l:List UInt8}(w0:Wf h0)(ok:Ok h0 h)(b:Bd h0 h k l)(hne:l≠[])(hl:l.length<=1000000):
  FW SS 188 [self k] h (λv h'=>v=strOf l/\Ok h0 h'):=by
 obtain⟨a,v,hk,ha,o,hn⟩:=b;rcases o with⟨_,h1⟩|⟨k2,rfl,h2,h3⟩
 ·exact absurd (List.map_eq_nil_iff.1 h1) hne
 have hk':(room h 12).get k=_:=hk;have hp:=List.length_pos_iff.2 hne;have hc:bn (bV+(l.map oT).length)=l.length:=by unfold bn;rw[if_pos (by omega),lM];omega
 rw[lM]at*;refine Hi ⟨k,0,none⟩ h _ ⟨_,Qk k,_,_,_,UI hk',_,_,WL (x:= .tmp 6) (ts:= #[159]) (a:=⟨k2,0,none⟩) (n:=l.length) (c:=bV+l.length) (by kernel_rfl) (by kernel_rfl) (by rw[hc];exact hp),_,Qk k,_,_,_,UI hk',_,_,Rs (x:= .tmp 7) (y:= .tmp 12) (k:=k2) (l:=l) (t2:=3) (by kernel_rfl) (by kernel_rfl) (by kernel_rfl) h3 hne (by omega),⟨UI hk',by simp[mq]⟩,⟨rfl,by simp[mq]⟩,rfl,?_⟩;exact(ok.room 12).set _ h2 ((ok.room 12).wf _ _ h3) w0
theorem Yn(m:Nat)(h:aa):aW SS.P SS.gl SS.pr (m+8) 187 [strOf [48],.int .i64 0] h=some (strOf [],h):=by kernel_rfl
theorem Yo(m:Nat)(h:aa):aW SS.P SS.gl SS.pr (m+8) 187 [strOf [48],.int .i64 1] h=some (strOf [48],h):=by kernel_rfl
theorem Yp(m:Nat)(h:aa):aW SS.P SS.gl SS.pr (m+8) 187 [strOf [48],.int .i64 2] h=some (strOf [48,48],h):=by kernel_rfl
theorem Yq(m:Nat)(h:aa):aW SS.P SS.gl SS.pr (m+8) 187 [strOf [48],.int .i64 3] h=some (strOf [48,48,48],h):=by kernel_rfl
theorem Yr(m:Nat)(h:aa):aW SS.P SS.gl SS.pr (m+8) 187 [strOf [48],.int .i64 4] h=some (strOf [48,48,48,48],h):=by kernel_rfl
theorem Ys(m:Nat)(h:aa):aW SS.P SS.gl SS.pr (m+8) 187 [strOf [48],.int .i64 5] h=some (strOf [48,48,48,48,48],h):=by kernel_rfl
theorem Yt(m:Nat)(h:aa):aW SS.P SS.gl SS.pr (m+8) 187 [strOf [48],.int .i64 6] h=some (strOf [48,48,48,48,48,48],h):=by kernel_rfl
theorem Yu(m:Nat)(h:aa):aW SS.P SS.gl SS.pr (m+8) 187 [strOf [48],.int .i64 7] h=some (strOf [48,48,48,48,48,48,48],h):=by kernel_rfl
theorem Yv(m:Nat)(h:aa):aW SS.P SS.gl SS.pr (m+8) 187 [strOf [48],.int .i64 8] h=some (strOf [48,48,48,48,48,48,48,48],h):=by kernel_rfl
theorem Ly{n:Nat}(hn:n<=8)(h:aa):FW SS 187 [strOf [48],.int .i64 (n:Int)] h (λv h'=>v=strOf (List.replicate n 48)/\h'=h):=by
 have key:∀(z:Int)(l:List UInt8),(∀m,aW SS.P SS.gl SS.pr (m+8) 187 [strOf [48],.int .i64 z] h=some (strOf l,h))->FW SS 187 [strOf [48],.int .i64 z] h (λv h'=>v=strOf l/\h'=h):=λz l hr=>
  ⟨_,_,⟨8,λN hN=>by obtain⟨m,rfl⟩:∃m,N=m+8:=⟨N-8,by omega⟩;exact hr m⟩,rfl,rfl⟩
 have:n=0\/n=1\/n=2\/n=3\/n=4\/n=5\/n=6\/n=7\/n=8:=by omega
 rcases this with rfl|rfl|rfl|rfl|rfl|rfl|rfl|rfl|rfl
 ·exact key 0 _ λm=>Yn m h
 ·exact key 1 _ λm=>Yo m h
 ·exact key 2 _ λm=>Yp m h
 ·exact key 3 _ λm=>Yq m h
 ·exact key 4 _ λm=>Yr m h
 ·exact key 5 _ λm=>Ys m h
 ·exact key 6 _ λm=>Yt m h
 ·exact key 7 _ λm=>Yu m h
 ·exact key 8 _ λm=>Yv m h
noncomputable def jS:FD:=dJ Tryz.f164 [([1,1,1,0,1,0,0],[0,3,10,11])]
abbrev iT(a:OA)(n c:Nat)(p:Addr)(lim:Int)(i:Nat):LV:=[(.slice a n c),(.pointer (some p)),(.int .i64 lim),(iA i)]
theorem H3(a:OA)(n c:Nat)(h:aa)(Q:VH)(hx:aF ((((n:Int):Int)==0)) (Q (strOf [48]) h) (xN (cq SS.P 192) h λB1 g2=>LL SS jS [1,1,1,0,1,0,0] [(.slice a n c),(pA (h.next)),(iA n),(.int .i64 0)] g2 (KK SS jS [1,1,1,0,1,0] [] (EE SS jS Q)))):FW SS 164 [(.slice a n c)] h Q:=dM jS Tryz.func164 (au hx)
theorem si(a:OA)(n c:Nat)(p:Addr)(lim:Int)(Inv:Nat->Nat->aa->Prop)(Q:VH)(step:∀(mz:Nat) (i:Nat) (zz:Nat->Value) (h:aa),Inv mz i h->aF (decide (((i:Int):Int)<lim)) (xP (af SS.P 150 (.slice a n c) (.int .i64 (wrap .i64 (wrap .i64 ((n:Int)-1)-(i:Int))))) λp3=>xI .u64 (ai SS.P 117 h (.pointer (some p3))) λn4=>FW SS 185 [(.int .u64 n4),(.int .i64 10)] h λv5 h6=>yS v5 λl7=>aF (decide (((i:Int):Int)>0)) (FW SS 187 [(strOf [48]),(.int .i64 (wrap .i64 (9-((l7:LB).length:Int))))] h6 λv8 h9=>yS v8 λl10=>FW SS 186 [(.pointer (some p)),(strOf l10)] h9 λv11 h12=>∃n13:Int,∃v14:Value,v11=(.tuple ⟨[(.int .i64 n13),v14]⟩)/\FW SS 186 [(.pointer (some p)),(strOf l7)] h12 λv15 h16=>∃n17:Int,∃v18:Value,v15=(.tuple ⟨[(.int .i64 n17),v18]⟩)/\aH (iR (iT a n c p lim) Inv) mz [(.slice a n c),(.pointer (some p)),(.int .i64 lim),(.int .i64 (wrap .i64 ((i:Int)+1)))] h16) (FW SS 186 [(.pointer (some p)),(strOf l7)] h6 λv19 h20=>∃n21:Int,∃v22:Value,v19=(.tuple ⟨[(.int .i64 n21),v22]⟩)/\aH (iR (iT a n c p lim) Inv) mz [(.slice a n c),(.pointer (some p)),(.int .i64 lim),(.int .i64 (wrap .i64 ((i:Int)+1)))] h20)) (FW SS 188 [(.pointer (some p))] h λv23 h24=>yS v23 λl25=>Q (strOf l25) h24))(mz:Nat){i:Nat}{h:aa}(hi:Inv mz i h):LL SS jS [1,1,1,0,1,0,0] (iT a n c p lim i) h (KK SS jS [1,1,1,0,1,0] [] (EE SS jS Q)):=
 dK (iT a n c p lim) Inv (λmz i zz h hi=>au (step mz i zz h hi)) mz hi
noncomputable def lW:FD:=dJ Tryz.f140 [([1,1,1,0,0,0],[6,7])]
abbrev jz  (a:OA) (n c:Nat) (b:OA) (k d:Nat):LV:=[(.slice a n c),(.slice b k d)]
theorem KV(l m:LB)(h:aa)(Q:VH)(hx:FW SS 136 [(strOf l)] h λv1 h2=>yB v1 λb3=>aF (!b3) (Q (.tuple ⟨[(strOf []),(.int .i64 1)]⟩) h2) (FW SS 136 [(strOf m)] h2 λv4 h5=>yB v4 λb6=>aF (!b6) (Q (.tuple ⟨[(strOf []),(.int .i64 1)]⟩) h5) (FW SS 137 [(strOf l)] h5 λv7 h8=>yL v7 λa9 n10 bW=>FW SS 137 [(strOf m)] h8 λv12 h13=>yL v12 λa14 n15 c16=>LL SS lW [1,1,1,0,0,0] (jz a9 n10 bW a14 n15 c16) h13 (KK SS lW [1,1,1,0,0] [] (EE SS lW Q))))):FW SS 140 [(strOf l),(strOf m)] h Q:=dM lW Tryz.func140 (au hx)
theorem tD(l m:LB)  (Inv:Nat->OA->Nat->Nat->OA->Nat->Nat->aa->Prop) (Q:VH) (step:∀(mz:Nat)(a:OA)(n c:Nat)(b:OA)(k d:Nat)(zz:Nat->Value)(h:aa),Inv mz a n c b k d h->aF (decide (((k:Int):Int)>0)) (FW SS 166 [(.slice a n c),(.slice b k d)] h λv17 h18=>∃(a19:OA)(n20 c21:Nat),∃(a22:OA)(n23 c24:Nat),v17=(.tuple ⟨[(.slice a19 n20 c21),(.slice a22 n23 c24)]⟩)/\aH (Xx jz Inv) mz [(.slice b k d),(.slice a22 n23 c24)] h18) (FW SS 164 [(.slice a n c)] h λv25 h26=>yS v25 λl27=>Q (.tuple ⟨[(strOf l27),(.int .i64 0)]⟩) h26)) (mz:Nat) {a:OA} {n c:Nat} {b:OA} {k d:Nat} {h:aa} (hi:Inv mz a n c b k d h):LL SS lW [1,1,1,0,0,0] (jz  a n c b k d) h (KK SS lW [1,1,1,0,0] [] (EE SS lW Q)):=
 WK jz Inv (λmz a n c b k d zz h hi=>au (step mz a n c b k d zz h hi)) mz hi
noncomputable def US:bO:= .cells [.pointer none,.slice none 0 0] 192 0 true
theorem U0:cq SS.P 192=some (US,nV):=by kernel_rfl
theorem U8{h0 h g:aa}{k:Nat}{l:List UInt8}(b:Bd h0 h k l)(o:Ok h g):Bd h0 g k l:=by
 obtain⟨a,v,h1,h2,h3,h4⟩:=b;exact⟨a,v,o.ext _ _ h1,h2,Dw h3 λj B hj _=>o.ext _ _ hj,h4⟩
theorem sh{h:aa}{a:Option Addr}{n c X:Nat}(ra:Rd h 117 (.slice a n c) (bl X))(hlen:(aE BB X).length<=10000)(t:qP h)(w:Wf h):
  FW SS 164 [.slice a n c] h (λv h'=>v=strOf (aj X)/\Ok h h'):=by
 have hn:n=(aE BB X).length:=by have:=ra.len;rwa[lM]at this
 refine H3 a n c h _ (ae (λg=>?_) (λg=>?_))
 ·have g:(n:Int)=0:=by simpa using g
  have h0:(aE BB X).length=0:=by omega
  have:X=0:=by have:=(fF eU).1 (List.eq_nil_of_length_eq_zero h0);omega
  subst this;refine⟨?_,Ok.refl w⟩;rw[cO (by omega)];rfl
 ·have g:¬(n:Int)=0:=by simpa using g
  have hX:0<X:=by
   rcases Nat.eq_zero_or_pos X with h|h
   ·subst h;rw[(fF eU).2 rfl]at hn;simp at hn;omega
   ·exact h
  have htop:=Bg eU hX;have hlt:=cg eU X;have hbv:=bB eU X;have ra:Rd h 117 (.slice a n c) ((aE BB X).map uv):=ra;generalize hx:aE BB X=x at*;have L:=si a n c ⟨h.next,0,none⟩ (n:Int) (λmz i g=>i<=n/\mz=n-i/\Ok h g/\∃l,Bd h g h.next l/\l.length<=9*i/\(i=0->l=[])/\(0<i->0<Num.bv BB (x.drop (n-i))/\l=aj (Num.bv BB (x.drop (n-i))))) (λv h'=>v=strOf (aj X)/\Ok h h') (by
   intro mz i;intros;rename_i g hi;obtain⟨h1,rfl,ok,l,bd,hll,hz,hp⟩:=hi;refine ae (λh2=>?_) (λh2=>?_)
   ·have h2:=dT h2;have e1:wrap .i64 (wrap .i64 ((n:Int)-1)-(i:Int))=((n-1-i:Nat):Int):=by
     rw[aA (n:=(n:Int)-1) (by omega) (by omega),aA (by omega) (by omega)];omega
    obtain⟨p,e2,e3⟩:=Bp (ra.ok ok) (i:=((n-1-i:Nat):Int)) (by omega) (by rw[<-hn];omega);rw[e1];rw[toNat_natCast]at e3;have hb:x.getD (n-1-i) 0<BB:=aG (by decide) hlt _;have hstep:Num.bv BB (x.drop (n-1-i))=x.getD (n-1-i) 0+BB*Num.bv BB (x.drop (n-i)):=by
     rw[eG,show n-1-i+1=n-i by omega]
    have e5:wrap .i64 ((i:Int)+1)=((i+1:Nat):Int):=by rw[aA (by omega) (by omega)];omega
    rw[e5];have htop':i=0->0<x.getD (n-1-i) 0:=λe=>by subst e;rw[hn];exact htop
    generalize x.getD (n-1-i) 0=b at*;have hb':b<1000000000:=hb;have hb9:=Av hb';refine⟨p,e2,_,e3,(HI hb' (t.ok ok) ok.wf).mono ?_⟩;rintro _ h5 ⟨rfl,ok5⟩;have bd5:=U8 bd ok5;have ok5:=ok.trans ok5;refine⟨_,rfl,ae (λh6=>?_) (λh6=>?_)⟩
    ·have h6:=dT h6;obtain⟨p1,p2⟩:=hp (by omega);have e4:wrap .i64 (9-((aj b).length:Int))=((9-(aj b).length:Nat):Int):=by rw[aA (by omega) (by omega)];omega
     rw[e4];have hpos:=kC b;refine(Ly (by omega) h5).mono ?_;rintro _ h8 ⟨rfl,rfl⟩;refine⟨_,rfl,(uD w ok5 bd5 (by rw[length_replicate];omega)).mono ?_⟩;rintro _ h11 ⟨rfl,ok11,bd11⟩;refine⟨_,_,rfl,(uD w ok11 bd11 (by rw[length_append,length_replicate];omega)).mono ?_⟩;rintro _ h15 ⟨rfl,ok15,bd15⟩;refine⟨_,_,rfl,cH (n-(i+1)) (by omega) ⟨by omega,rfl,ok15,_,bd15,?_,λh=>by omega,λ_=>?_⟩⟩
     ·rw[length_append,length_append,length_replicate];omega
     ·rw[show n-(i+1)=n-1-i by omega,hstep];refine⟨Nat.add_pos_right _ (mul_pos (by decide) p1),?_⟩;have:=Au p1 hb';rw[p2];exact this.symm
    ·have h6:=dF h6;obtain rfl:i=0:=by omega
     obtain rfl:=hz rfl;refine(uD w ok5 bd5 (by rw[List.length_nil];omega)).mono ?_;rintro _ h15 ⟨rfl,ok15,bd15⟩;refine⟨_,_,rfl,cH (n-1) (by omega) ⟨by omega,rfl,ok15,_,bd15,?_,λh=>by omega,λ_=>?_⟩⟩
     ·rw[nil_append];omega
     ·have hb0:Num.bv BB (x.drop n)=0:=by rw[drop_of_length_le (by omega)];rfl
      rw[show n-1-0=n-1 by omega,show n-0=n by omega,hb0,Nat.mul_zero,add_zero]at hstep;rw[zero_add,hstep,nil_append];refine⟨?_,rfl⟩;exact htop' rfl
   ·have h2:=dF h2;obtain rfl:i=n:=by omega
    obtain⟨p1,p2⟩:=hp (by omega);rw[Nat.sub_self,drop_zero,hbv]at p2;subst p2;refine(Hj w ok bd (rV X) (by omega)).mono ?_;rintro _ h15 ⟨rfl,ok15⟩;exact⟨_,rfl,rfl,ok15⟩)
  have ok1:=(Ok.refl w).push US;refine⟨_,U0,L n (i:=0) ⟨by omega,rfl,ok1,[],⟨_,_,?_,.inl rfl,.inl ⟨rfl,rfl⟩,Nat.le_refl _⟩,by simp,λ_=>rfl,λh=>by omega⟩⟩;rw[aa.aR,if_pos rfl];rfl
theorem Tk{k m:Nat}(h:k<=9*m):10^k<=BB^m:=by
 show 10^k<=(10^9)^m;rw[<-Nat.pow_mul];exact pow_le_pow_right (by decide) h
theorem mQ{X:Nat}(h:X<10^1000):(aE BB X).length<=112:=by
 refine jo eU (lt_of_lt_of_le h (Tk (k:=1000) (m:=112) (by decide)))
def C1(h:aa)(X Y:Nat)(mz:Nat)(a:Option Addr)(n c:Nat)(b:Option Addr)(k d:Nat)(g:aa):Prop:=∃p:Nat,Rd g 117 (.slice a n c) (bl p)/\Rd g 117 (.slice b k d) (bl mz)/\(aE BB p).length<=112/\(aE BB mz).length<=112/\Nat.gcd p mz=Nat.gcd X Y/\Ok h g
theorem Nj{h g:aa}{X Y mz:Nat}{a:Option Addr}{n c:Nat}{b:Option Addr}{k d:Nat}(t:qP h)(hi:C1 h X Y mz a n c b k d g){K:Nat->Option Addr->Nat->Nat->Option Addr->Nat->Nat->aa->Prop}{Q:VH}
  (hK:∀(a1:Option Addr)(n1 c1:Nat)(a2:Option Addr)(n2 c2 m2:Nat)(g:aa),m2<mz->C1 h X Y m2 b k d a2 n2 c2 g->K m2 a1 n1 c1 a2 n2 c2 g):
  (0<k->FW SS 166 [.slice a n c,.slice b k d] g (λv h'=>∃(a1:Option Addr)(n1 c1:Nat)(a2:Option Addr)(n2 c2 m2:Nat),v = .tuple ⟨[.slice a1 n1 c1,.slice a2 n2 c2]⟩/\K m2 a1 n1 c1 a2 n2 c2 h'))/\
  (k=0->FW SS 164 [.slice a n c] g (λv h'=>v=strOf (aj (Nat.gcd X Y))/\Ok h h')):=by
 obtain⟨p,rp,rq,lp,lq,hg,ok⟩:=hi;have hk:k=(aE BB mz).length:=by have:=rq.len;rwa[lM]at this
 constructor
 ·intro h2;have hq0:0<mz:=by
   rcases Nat.eq_zero_or_pos mz with e|e
   ·subst e;rw[(fF eU).2 rfl]at hk;simp at hk;omega
   ·exact e
  refine(Dh rp rq hq0 (Nat.le_trans lp (by omega)) (Nat.le_trans lq (by omega)) ok.wf).mono ?_;rintro _ h3 ⟨a1,n1,c1,a2,n2,c2,rfl,r1,r2,ok3⟩;refine⟨a1,n1,c1,a2,n2,c2,p%mz,rfl,hK a1 n1 c1 a2 n2 c2 (p%mz) h3 (mod_lt _ hq0) ⟨mz,rq.ok ok3,r2,lq,?_,?_,ok.trans ok3⟩⟩
  ·exact Nat.le_trans (Nat.le_of_not_lt λh=>by have h1:=jq eU h;have h2:=mod_lt p hq0;exact absurd h1 (Nat.not_lt.2 (le_of_lt h2))) lq
  ·rw[<-hg,Nat.gcd_comm mz,<-Nat.gcd_rec,Nat.gcd_comm]
 ·intro h2;have hq0:mz=0:=(fF eU).1 (List.eq_nil_of_length_eq_zero (by rw[<-hk,h2]));subst hq0;rw[Nat.gcd_zero_right]at hg;subst hg;refine(sh rp (Nat.le_trans lp (by omega)) (t.ok ok) ok.wf).mono ?_;rintro _ h4 ⟨rfl,ok4⟩;exact⟨rfl,ok.trans ok4⟩
theorem KW(a b:List UInt8){h:aa}(t:qP h)(w:Wf h):FW SS 140 [strOf a,strOf b] h (λv h'=>v=wB a b/\Ok h h'):=by
 refine KV a b h _ ((dm a h).mono ?_);rintro _ g0 ⟨rfl,e0⟩;obtain rfl:h=g0:=e0.symm;refine⟨_,rfl,ae (λg=>?_) (λg=>?_)⟩
 ·have g:Num.valid a=false:=by simpa using g
  refine⟨?_,Ok.refl w⟩;unfold wB;rw[if_neg (λe=>by rw[e.1]at g;cases g)];rfl
 have g:Num.valid a=true:=by simpa using g
 refine(dm b h).mono ?_;rintro _ g0 ⟨rfl,e0⟩;obtain rfl:h=g0:=e0.symm;refine⟨_,rfl,ae (λg2=>?_) (λg2=>?_)⟩
 ·have g2:Num.valid b=false:=by simpa using g2
  refine⟨?_,Ok.refl w⟩;unfold wB;rw[if_neg (λe=>by rw[e.2]at g2;cases g2)];rfl
 have g2:Num.valid b=true:=by simpa using g2
 obtain⟨X,ea,hX,eX⟩:=cP g;obtain⟨Y,eb,hY,eY⟩:=cP g2;have da:=(fu.1 g)
 have db:=(fu.1 g2)
 have lX:=mQ hX;have lY:=mQ hY;clear hX hY;refine(nP a da.1.2.1 (Nat.le_trans da.2 (by omega)) h w).mono ?_;rintro _ h1 ⟨a1,n1,c1,rfl,o1,ok1⟩;refine⟨_,_,_,rfl,(nP b db.1.2.1 (Nat.le_trans db.2 (by omega)) h1 ok1.wf).mono ?_⟩;rintro _ h2 ⟨a2,n2,c2,rfl,o2,ok2⟩;refine⟨_,_,_,rfl,?_⟩;have hS:wB a b=Ak (aj (Nat.gcd X Y)) 0:=by unfold wB;rw[if_pos ⟨g,g2⟩,eX,eY]
 rw[hS];rw[eX]at o1;rw[eY]at o2;refine tD a b (C1 h X Y) (λv h'=>v=Ak (aj (Nat.gcd X Y)) 0/\Ok h h') (λmz a n c b k d=>?_) Y ⟨X,o1.rd.ok ok2,o2.rd,lX,lY,rfl,ok1.trans ok2⟩;intros;rename_i g hi;have S:=Nj t hi (K:=λm2 a1 n1 c1 a2 n2 c2 g=>m2<mz/\C1 h X Y m2 b k d a2 n2 c2 g) (λa1 n1 c1 a2 n2 c2 m2 g h1 h2=>⟨h1,h2⟩) (Q:=λ_ _=>True);refine ae (λh2=>?_) (λh2=>?_)
 ·have h2:=dT h2;refine(S.1 (by omega)).mono ?_;rintro _ h3 ⟨a1,n1,c1,a2,n2,c2,m2,rfl,i1,i2⟩;exact⟨_,_,_,_,_,_,rfl,Vx m2 i1 i2⟩
 ·have h2:=dF h2;refine(S.2 (by omega)).mono ?_;rintro _ h4 ⟨rfl,ok4⟩;exact⟨_,rfl,rfl,ok4⟩
noncomputable def Q2:FD:=dJ Tryz.f183 []
theorem N0(x y z:Int)(h:aa)(Q:VH)(hx:xI .u64 (ay SS.P .rem 117 (.int .u64 (wrap .u64 (wrap .u64 (x+y)+z))) (.int .u64 1000000000)) λn1=>xI .u64 (ay SS.P .quo 117 (.int .u64 (wrap .u64 (wrap .u64 (x+y)+z))) (.int .u64 1000000000)) λn2=>Q (.tuple ⟨[(.int .u64 n1),(.int .u64 n2)]⟩) h):FW SS 183 [(.int .u64 x),(.int .u64 y),(.int .u64 z)] h Q:=dM Q2 Tryz.func183 (au hx)
noncomputable def NJ:FD:=dJ Tryz.f189 []
theorem KM(x y z:Int)(h:aa)(Q:VH)(hx:xI .u64 (ay SS.P .rem 117 (.int .u64 (wrap .u64 (wrap .u64 (wrap .u64 (x+1000000000)-y)-z))) (.int .u64 1000000000)) λn1=>xI .u64 (ay SS.P .quo 117 (.int .u64 (wrap .u64 (wrap .u64 (wrap .u64 (x+1000000000)-y)-z))) (.int .u64 1000000000)) λn2=>Q (.tuple ⟨[(.int .u64 n1),(.int .u64 (wrap .u64 (1-n2)))]⟩) h):FW SS 189 [(.int .u64 x),(.int .u64 y),(.int .u64 z)] h Q:=dM NJ Tryz.func189 (au hx)
noncomputable def jb:FD:=dJ Tryz.f182 [([1,1,1,0,1,0,0],[0,1,2,7,8,18,19])]
abbrev dr(a:OA)(n c:Nat)(b:OA)(m d:Nat)(lim:Int)(i:Nat)(cy:Int)(r:OA)(rn rc:Nat):LV:=[(.slice a n c),(.slice b m d),(.func (.func 183) ⟨[]⟩ ⟨[]⟩),(.slice r rn rc),(.int .u64 cy),(.int .i64 lim),(iA i)]
theorem EY(a:OA)(n c:Nat)(b:OA)(m d:Nat)(h:aa)(Q:VH)(hx:xI .i64 (oV true [(iA n),(iA m)]) λn1=>LL SS jb [1,1,1,0,1,0,0] (dr a n c b m d (wrap .i64 (n1+1)) 0 0 none 0 0) h (KK SS jb [1,1,1,0,1,0] [] (EE SS jb Q))):FW SS 182 [(.slice a n c),(.slice b m d),(.func (.func 183) ⟨[]⟩ ⟨[]⟩)] h Q:=dM jb Tryz.func182 (au hx)
theorem qQ(a:OA)(n c:Nat)(b:OA)(m d:Nat)(lim:Int)(Inv:Nat->Nat->Int->OA->Nat->Nat->aa->Prop)(Q:VH)(step:∀(mz:Nat) (i:Nat) (cy:Int) (r:OA) (rn rc:Nat) (zz:Nat->Value) (h:aa),Inv mz i cy r rn rc h->aF (decide (((i:Int):Int)<lim)) (aF (decide (((i:Int):Int)<(n:Int))) (xP (af SS.P 150 (.slice a n c) (iA i)) λp2=>xI .u64 (ai SS.P 117 h (.pointer (some p2))) λn3=>aF (decide (((i:Int):Int)<(m:Int))) (xP (af SS.P 150 (.slice b m d) (iA i)) λp4=>xI .u64 (ai SS.P 117 h (.pointer (some p4))) λn5=>FW SS 183 [(.int .u64 n3),(.int .u64 n5),(.int .u64 cy)] h λv6 h7=>∃n8:Int,∃n9:Int,v6=(.tuple ⟨[(.int .u64 n8),(.int .u64 n9)]⟩)/\xR (aI SS.P 150 1 [(0,(.int .u64 n8))]) h7 λB10 n11 ck Fm=>xE (aO SS.P 150 150 (.slice r rn rc) (sA (h7.next) n11 ck) Fm) Fm λa14 n15 c16 u17 g18=>aH (ui (dr a n c b m d lim) Inv) mz [(.slice a n c),(.slice b m d),(.func (.func 183) ⟨[]⟩ ⟨[]⟩),(.slice a14 n15 c16),(.int .u64 n9),(.int .i64 lim),(.int .i64 (wrap .i64 ((i:Int)+1)))] g18) (FW SS 183 [(.int .u64 n3),(.int .u64 0),(.int .u64 cy)] h λv19 h20=>∃n21:Int,∃n22:Int,v19=(.tuple ⟨[(.int .u64 n21),(.int .u64 n22)]⟩)/\xR (aI SS.P 150 1 [(0,(.int .u64 n21))]) h20 λB23 n24 c25 g26=>xE (aO SS.P 150 150 (.slice r rn rc) (sA (h20.next) n24 c25) g26) g26 λa27 n28 c29 u30 g31=>aH (ui (dr a n c b m d lim) Inv) mz [(.slice a n c),(.slice b m d),(.func (.func 183) ⟨[]⟩ ⟨[]⟩),(.slice a27 n28 c29),(.int .u64 n22),(.int .i64 lim),(.int .i64 (wrap .i64 ((i:Int)+1)))] g31)) (aF (decide (((i:Int):Int)<(m:Int))) (xP (af SS.P 150 (.slice b m d) (iA i)) λp32=>xI .u64 (ai SS.P 117 h (.pointer (some p32))) λn33=>FW SS 183 [(.int .u64 0),(.int .u64 n33),(.int .u64 cy)] h λv34 h35=>∃n36:Int,∃n37:Int,v34=(.tuple ⟨[(.int .u64 n36),(.int .u64 n37)]⟩)/\xR (aI SS.P 150 1 [(0,(.int .u64 n36))]) h35 λGU n39 c40 g41=>xE (aO SS.P 150 150 (.slice r rn rc) (sA (h35.next) n39 c40) g41) g41 λa42 n43 c44 u45 g46=>aH (ui (dr a n c b m d lim) Inv) mz [(.slice a n c),(.slice b m d),(.func (.func 183) ⟨[]⟩ ⟨[]⟩),(.slice a42 n43 c44),(.int .u64 n37),(.int .i64 lim),(.int .i64 (wrap .i64 ((i:Int)+1)))] g46) (FW SS 183 [(.int .u64 0),(.int .u64 0),(.int .u64 cy)] h λv47 h48=>∃n49:Int,∃n50:Int,v47=(.tuple ⟨[(.int .u64 n49),(.int .u64 n50)]⟩)/\xR (aI SS.P 150 1 [(0,(.int .u64 n49))]) h48 λB51 n52 c53 g54=>xE (aO SS.P 150 150 (.slice r rn rc) (sA (h48.next) n52 c53) g54) g54 λa55 n56 c57 u58 g59=>aH (ui (dr a n c b m d lim) Inv) mz [(.slice a n c),(.slice b m d),(.func (.func 183) ⟨[]⟩ ⟨[]⟩),(.slice a55 n56 c57),(.int .u64 n50),(.int .i64 lim),(.int .i64 (wrap .i64 ((i:Int)+1)))] g59))) (FW SS 139 [(.slice r rn rc)] h λv60 h61=>yL v60 λa62 n63 c64=>Q (.slice a62 n63 c64) h61))(mz:Nat){i:Nat}{cy:Int}{r:OA}{rn rc:Nat}{h:aa}(hi:Inv mz i cy r rn rc h):LL SS jb [1,1,1,0,1,0,0] (dr a n c b m d lim i cy r rn rc) h (KK SS jb [1,1,1,0,1,0] [] (EE SS jb Q)):=
 zL (dr a n c b m d lim) Inv (λmz i cy r rn rc zz h hi=>au (step mz i cy r rn rc zz h hi)) mz hi
noncomputable def gU:FD:=dJ Tryz.f182 [([1,1,1,0,1,0,0],[0,1,2,7,8,18,19])]
abbrev de(a:OA)(n c:Nat)(b:OA)(m d:Nat)(lim:Int)(i:Nat)(cy:Int)(r:OA)(rn rc:Nat):LV:=[(.slice a n c),(.slice b m d),(.func (.func 189) ⟨[]⟩ ⟨[]⟩),(.slice r rn rc),(.int .u64 cy),(.int .i64 lim),(iA i)]
theorem CU(a:OA)(n c:Nat)(b:OA)(m d:Nat)(h:aa)(Q:VH)(hx:xI .i64 (oV true [(iA n),(iA m)]) λn1=>LL SS gU [1,1,1,0,1,0,0] (de a n c b m d (wrap .i64 (n1+1)) 0 0 none 0 0) h (KK SS gU [1,1,1,0,1,0] [] (EE SS gU Q))):FW SS 182 [(.slice a n c),(.slice b m d),(.func (.func 189) ⟨[]⟩ ⟨[]⟩)] h Q:=dM gU Tryz.func182 (au hx)
theorem py(a:OA)(n c:Nat)(b:OA)(m d:Nat)(lim:Int)(Inv:Nat->Nat->Int->OA->Nat->Nat->aa->Prop)(Q:VH)(step:∀(mz:Nat) (i:Nat) (cy:Int) (r:OA) (rn rc:Nat) (zz:Nat->Value) (h:aa),Inv mz i cy r rn rc h->aF (decide (((i:Int):Int)<lim)) (aF (decide (((i:Int):Int)<(n:Int))) (xP (af SS.P 150 (.slice a n c) (iA i)) λp2=>xI .u64 (ai SS.P 117 h (.pointer (some p2))) λn3=>aF (decide (((i:Int):Int)<(m:Int))) (xP (af SS.P 150 (.slice b m d) (iA i)) λp4=>xI .u64 (ai SS.P 117 h (.pointer (some p4))) λn5=>FW SS 189 [(.int .u64 n3),(.int .u64 n5),(.int .u64 cy)] h λv6 h7=>∃n8:Int,∃n9:Int,v6=(.tuple ⟨[(.int .u64 n8),(.int .u64 n9)]⟩)/\xR (aI SS.P 150 1 [(0,(.int .u64 n8))]) h7 λB10 n11 ck Fm=>xE (aO SS.P 150 150 (.slice r rn rc) (sA (h7.next) n11 ck) Fm) Fm λa14 n15 c16 u17 g18=>aH (ui (de a n c b m d lim) Inv) mz [(.slice a n c),(.slice b m d),(.func (.func 189) ⟨[]⟩ ⟨[]⟩),(.slice a14 n15 c16),(.int .u64 n9),(.int .i64 lim),(.int .i64 (wrap .i64 ((i:Int)+1)))] g18) (FW SS 189 [(.int .u64 n3),(.int .u64 0),(.int .u64 cy)] h λv19 h20=>∃n21:Int,∃n22:Int,v19=(.tuple ⟨[(.int .u64 n21),(.int .u64 n22)]⟩)/\xR (aI SS.P 150 1 [(0,(.int .u64 n21))]) h20 λB23 n24 c25 g26=>xE (aO SS.P 150 150 (.slice r rn rc) (sA (h20.next) n24 c25) g26) g26 λa27 n28 c29 u30 g31=>aH (ui (de a n c b m d lim) Inv) mz [(.slice a n c),(.slice b m d),(.func (.func 189) ⟨[]⟩ ⟨[]⟩),(.slice a27 n28 c29),(.int .u64 n22),(.int .i64 lim),(.int .i64 (wrap .i64 ((i:Int)+1)))] g31)) (aF (decide (((i:Int):Int)<(m:Int))) (xP (af SS.P 150 (.slice b m d) (iA i)) λp32=>xI .u64 (ai SS.P 117 h (.pointer (some p32))) λn33=>FW SS 189 [(.int .u64 0),(.int .u64 n33),(.int .u64 cy)] h λv34 h35=>∃n36:Int,∃n37:Int,v34=(.tuple ⟨[(.int .u64 n36),(.int .u64 n37)]⟩)/\xR (aI SS.P 150 1 [(0,(.int .u64 n36))]) h35 λGU n39 c40 g41=>xE (aO SS.P 150 150 (.slice r rn rc) (sA (h35.next) n39 c40) g41) g41 λa42 n43 c44 u45 g46=>aH (ui (de a n c b m d lim) Inv) mz [(.slice a n c),(.slice b m d),(.func (.func 189) ⟨[]⟩ ⟨[]⟩),(.slice a42 n43 c44),(.int .u64 n37),(.int .i64 lim),(.int .i64 (wrap .i64 ((i:Int)+1)))] g46) (FW SS 189 [(.int .u64 0),(.int .u64 0),(.int .u64 cy)] h λv47 h48=>∃n49:Int,∃n50:Int,v47=(.tuple ⟨[(.int .u64 n49),(.int .u64 n50)]⟩)/\xR (aI SS.P 150 1 [(0,(.int .u64 n49))]) h48 λB51 n52 c53 g54=>xE (aO SS.P 150 150 (.slice r rn rc) (sA (h48.next) n52 c53) g54) g54 λa55 n56 c57 u58 g59=>aH (ui (de a n c b m d lim) Inv) mz [(.slice a n c),(.slice b m d),(.func (.func 189) ⟨[]⟩ ⟨[]⟩),(.slice a55 n56 c57),(.int .u64 n50),(.int .i64 lim),(.int .i64 (wrap .i64 ((i:Int)+1)))] g59))) (FW SS 139 [(.slice r rn rc)] h λv60 h61=>yL v60 λa62 n63 c64=>Q (.slice a62 n63 c64) h61))(mz:Nat){i:Nat}{cy:Int}{r:OA}{rn rc:Nat}{h:aa}(hi:Inv mz i cy r rn rc h):LL SS gU [1,1,1,0,1,0,0] (de a n c b m d lim i cy r rn rc) h (KK SS gU [1,1,1,0,1,0] [] (EE SS gU Q)):=
 zL (de a n c b m d lim) Inv (λmz i cy r rn rc zz h hi=>au (step mz i cy r rn rc zz h hi)) mz hi
noncomputable def KY:FD:=dJ Tryz.f162 []
theorem H0(a:OA)(n c:Nat)(b:OA)(m d:Nat)(h:aa)(Q:VH)(hx:FW SS 182 [(.slice a n c),(.slice b m d),(.func (.func 183) ⟨[]⟩ ⟨[]⟩)] h λv1 h2=>yL v1 λa3 n4 c5=>Q (.slice a3 n4 c5) h2):FW SS 162 [(.slice a n c),(.slice b m d)] h Q:=dM KY Tryz.func162 (au hx)
noncomputable def HZ:FD:=dJ Tryz.f165 []
theorem FV(a:OA)(n c:Nat)(b:OA)(m d:Nat)(h:aa)(Q:VH)(hx:FW SS 182 [(.slice a n c),(.slice b m d),(.func (.func 189) ⟨[]⟩ ⟨[]⟩)] h λv1 h2=>yL v1 λa3 n4 c5=>Q (.slice a3 n4 c5) h2):FW SS 165 [(.slice a n c),(.slice b m d)] h Q:=dM HZ Tryz.func165 (au hx)
noncomputable def Di:FD:=dJ Tryz.f138 []
theorem AQ(a:OA)(n c:Nat)(h:aa)(Q:VH)(hx:FW SS 164 [(.slice a n c)] h λv1 h2=>yS v1 λl3=>aF (decide ((((l3:LB).length:Int):Int)>1000)) (Q (.tuple ⟨[(strOf []),(.int .i64 2)]⟩) h2) (Q (.tuple ⟨[(strOf l3),(.int .i64 0)]⟩) h2)):FW SS 138 [(.slice a n c)] h Q:=dM Di Tryz.func138 (au hx)
noncomputable def NO:FD:=dJ Tryz.f134 []
theorem KT(l m:LB)(h:aa)(Q:VH)(hx:FW SS 136 [(strOf l)] h λv1 h2=>yB v1 λb3=>aF (!b3) (Q (.int .i64 0) h2) (FW SS 136 [(strOf m)] h2 λv4 h5=>yB v4 λb6=>aF (!b6) (Q (.int .i64 0) h5) (FW SS 137 [(strOf l)] h5 λv7 h8=>yL v7 λa9 n10 bW=>FW SS 137 [(strOf m)] h8 λv12 h13=>yL v12 λa14 n15 c16=>FW SS 163 [(.slice a9 n10 bW),(.slice a14 n15 c16)] h13 λv17 h18=>yI .i64 v17 λn19=>Q (.int .i64 n19) h18))):FW SS 134 [(strOf l),(strOf m)] h Q:=dM NO Tryz.func134 (au hx)
noncomputable def NN:FD:=dJ Tryz.f133 []
theorem KR(l m:LB)(h:aa)(Q:VH)(hx:FW SS 136 [(strOf l)] h λv1 h2=>yB v1 λb3=>aF (!b3) (Q (.tuple ⟨[(strOf []),(.int .i64 1)]⟩) h2) (FW SS 136 [(strOf m)] h2 λv4 h5=>yB v4 λb6=>aF (!b6) (Q (.tuple ⟨[(strOf []),(.int .i64 1)]⟩) h5) (FW SS 137 [(strOf l)] h5 λv7 h8=>yL v7 λa9 n10 bW=>FW SS 137 [(strOf m)] h8 λv12 h13=>yL v12 λa14 n15 c16=>FW SS 162 [(.slice a9 n10 bW),(.slice a14 n15 c16)] h13 λv17 h18=>yL v17 λa19 n20 c21=>FW SS 138 [(.slice a19 n20 c21)] h18 λv22 h23=>∃l24:LB,∃n25:Int,v22=(.tuple ⟨[(strOf l24),(.int .i64 n25)]⟩)/\Q (.tuple ⟨[(strOf l24),(.int .i64 n25)]⟩) h23))):FW SS 133 [(strOf l),(strOf m)] h Q:=dM NN Tryz.func133 (au hx)
noncomputable def NP:FD:=dJ Tryz.f135 []
theorem KZ(l m:LB)(h:aa)(Q:VH)(hx:FW SS 136 [(strOf l)] h λv1 h2=>yB v1 λb3=>aF (!b3) (Q (.tuple ⟨[(strOf []),(.int .i64 1)]⟩) h2) (FW SS 136 [(strOf m)] h2 λv4 h5=>yB v4 λb6=>aF (!b6) (Q (.tuple ⟨[(strOf []),(.int .i64 1)]⟩) h5) (FW SS 137 [(strOf l)] h5 λv7 h8=>yL v7 λa9 n10 bW=>FW SS 137 [(strOf m)] h8 λv12 h13=>yL v12 λa14 n15 c16=>FW SS 163 [(.slice a9 n10 bW),(.slice a14 n15 c16)] h13 λv17 h18=>yI .i64 v17 λn19=>aF (decide ((n19:Int)<0)) (Q (.tuple ⟨[(strOf []),(.int .i64 4)]⟩) h18) (FW SS 165 [(.slice a9 n10 bW),(.slice a14 n15 c16)] h18 λv20 h21=>yL v20 λa22 n23 c24=>FW SS 164 [(.slice a22 n23 c24)] h21 λv25 h26=>yS v25 λl27=>Q (.tuple ⟨[(strOf l27),(.int .i64 0)]⟩) h26)))):FW SS 135 [(strOf l),(strOf m)] h Q:=dM NP Tryz.func135 (au hx)
noncomputable def dA:FD:=dJ Tryz.f94 [([1,1,1,1,0,1,0,0],[6,7,8,33,34]),([1,1,1,1,0,1,0,0,1,1,0,0,1,1,1,0,0],[6,7,8,9,10,33,34,39,40])]
abbrev fg(a:OA)(n c:Nat)(b:OA)(k d:Nat)(t:OA)(tn tc:Nat)(lim:Int)(i:Nat):LV:=[(.slice a n c),(.slice b k d),(.slice t tn tc),(.int .i64 lim),(iA i)]
abbrev gY(a:OA)(n c:Nat)(b:OA)(k d:Nat)(t:OA)(tn tc:Nat)(lim:Int)(i:Nat)(lim2:Int)(j:Nat)(cy:Int):LV:=[(.slice a n c),(.slice b k d),(.slice t tn tc),(iA i),(.int .u64 cy),(.int .i64 lim),(iA i),(.int .i64 lim2),(iA j)]
theorem KX(l m:LB)(h:aa)(Q:VH)(hx:FW SS 136 [(strOf l)] h λv1 h2=>yB v1 λb3=>aF (!b3) (Q (.tuple ⟨[(strOf []),(.int .i64 1)]⟩) h2) (FW SS 136 [(strOf m)] h2 λv4 h5=>yB v4 λb6=>aF (!b6) (Q (.tuple ⟨[(strOf []),(.int .i64 1)]⟩) h5) (FW SS 137 [(strOf l)] h5 λv7 h8=>yL v7 λa9 n10 bW=>FW SS 137 [(strOf m)] h8 λv12 h13=>yL v12 λa14 n15 c16=>xR (bL SS.P 150 (.int .i64 (wrap .i64 (wrap .i64 ((n10:Int)+(n15:Int))+1))) (.int .i64 (wrap .i64 (wrap .i64 ((n10:Int)+(n15:Int))+1)))) h13 λB17 n18 c19 g20=>LL SS dA [1,1,1,1,0,1,0,0] (fg a9 n10 bW a14 n15 c16 (some ⟨h13.next,0,none⟩) n18 c19 (n10:Int) 0) g20 (KK SS dA [1,1,1,1,0,1,0] [] (EE SS dA Q))))):FW SS 94 [(strOf l),(strOf m)] h Q:=dM dA Tryz.func94 (au hx)
theorem tE(l m:LB)(a:OA)(n c:Nat)(b:OA)(k d:Nat)(t:OA)(tn tc:Nat)(lim:Int)(Inv:Nat->Nat->aa->Prop)(Q:VH)(step:∀(mz:Nat) (i:Nat) (zz:Nat->Value) (h:aa),Inv mz i h->aF (decide (((i:Int):Int)<lim)) (LL SS dA [1,1,1,1,0,1,0,0,1,1,0,0,1,1,1,0,0] (gY a n c b k d t tn tc lim i (wrap .i64 ((k:Int)+1)) 0 0) h (KK SS dA [1,1,0,0,1,1,1,0] [1,1,1,1,0,1,0,0] (RR dA [1,1,1,1,0,1,0,0] (iR (fg a n c b k d t tn tc lim) Inv) mz (KK SS dA [1,1,1,1,0,1,0] [] (EE SS dA Q))))) (FW SS 139 [(.slice t tn tc)] h λv21 h22=>yL v21 λa23 n24 c25=>FW SS 138 [(.slice a23 n24 c25)] h22 λv26 h27=>∃l28:LB,∃n29:Int,v26=(.tuple ⟨[(strOf l28),(.int .i64 n29)]⟩)/\Q (.tuple ⟨[(strOf l28),(.int .i64 n29)]⟩) h27))(mz:Nat){i:Nat}{h:aa}(hi:Inv mz i h):LL SS dA [1,1,1,1,0,1,0,0] (fg a n c b k d t tn tc lim i) h (KK SS dA [1,1,1,1,0,1,0] [] (EE SS dA Q)):=
 dK (fg a n c b k d t tn tc lim) Inv (λmz i zz h hi=>au (step mz i zz h hi)) mz hi
theorem tF(l m:LB)(a:OA)(n c:Nat)(b:OA)(k d:Nat)(t:OA)(tn tc:Nat)(lim:Int)(Inv:Nat->Nat->aa->Prop)(mz i:Nat)(lim2:Int)(Inv2:Nat->Nat->Int->aa->Prop)(Q:VH)(step:∀(mz2:Nat) (j:Nat) (cy:Int) (zz:Nat->Value) (h:aa),Inv2 mz2 j cy h->aF (decide (((j:Int):Int)<lim2)) (xP (af SS.P 150 (.slice t tn tc) (.int .i64 (wrap .i64 ((i:Int)+(j:Int))))) λp30=>xI .u64 (ai SS.P 117 h (.pointer (some p30))) λn31=>aF (decide (((j:Int):Int)<(k:Int))) (xP (af SS.P 150 (.slice a n c) (iA i)) λp32=>xI .u64 (ai SS.P 117 (room h 12) (.pointer (some p32))) λn33=>xP (af SS.P 150 (.slice b k d) (iA j)) λp34=>xI .u64 (ai SS.P 117 (room h 12) (.pointer (some p34))) λn35=>xI .u64 (ay SS.P .rem 117 (.int .u64 (wrap .u64 (wrap .u64 (n31+cy)+wrap .u64 (n33*n35)))) (.int .u64 1000000000)) λn36=>xI .u64 (ay SS.P .quo 117 (.int .u64 (wrap .u64 (wrap .u64 (n31+cy)+wrap .u64 (n33*n35)))) (.int .u64 1000000000)) λn37=>xP (af SS.P 150 (.slice t tn tc) (.int .i64 (wrap .i64 ((i:Int)+(j:Int))))) λp38=>xU (aw SS.P 117 (.pointer (some p38)) (.int .u64 n36) (room h 12)) (room h 12) λu39 g40=>aH (re (gY a n c b k d t tn tc lim i lim2) Inv2) mz2 [(.slice a n c),(.slice b k d),(.slice t tn tc),(iA i),(.int .u64 n37),(.int .i64 lim),(iA i),(.int .i64 lim2),(.int .i64 (wrap .i64 ((j:Int)+1)))] g40) (xI .u64 (ay SS.P .rem 117 (.int .u64 (wrap .u64 (n31+cy))) (.int .u64 1000000000)) λn41=>xI .u64 (ay SS.P .quo 117 (.int .u64 (wrap .u64 (n31+cy))) (.int .u64 1000000000)) λn42=>xP (af SS.P 150 (.slice t tn tc) (.int .i64 (wrap .i64 ((i:Int)+(j:Int))))) λp43=>xU (aw SS.P 117 (.pointer (some p43)) (.int .u64 n41) h) h λu44 g45=>aH (re (gY a n c b k d t tn tc lim i lim2) Inv2) mz2 [(.slice a n c),(.slice b k d),(.slice t tn tc),(iA i),(.int .u64 n42),(.int .i64 lim),(iA i),(.int .i64 lim2),(.int .i64 (wrap .i64 ((j:Int)+1)))] g45)) (aH (iR (fg a n c b k d t tn tc lim) Inv) mz [(.slice a n c),(.slice b k d),(.slice t tn tc),(.int .i64 lim),(.int .i64 (wrap .i64 ((i:Int)+1)))] h))(mz2:Nat){j:Nat}{cy:Int}{h:aa}(hi:Inv2 mz2 j cy h):LL SS dA [1,1,1,1,0,1,0,0,1,1,0,0,1,1,1,0,0] (gY a n c b k d t tn tc lim i lim2 j cy) h (KK SS dA [1,1,0,0,1,1,1,0] [1,1,1,1,0,1,0,0] (RR dA [1,1,1,1,0,1,0,0] (iR (fg a n c b k d t tn tc lim) Inv) mz (KK SS dA [1,1,1,1,0,1,0] [] (EE SS dA Q)))):=
 ng (gY a n c b k d t tn tc lim i lim2) Inv2 (λmz2 j cy zz h hi=>au (step mz2 j cy zz h hi)) mz2 hi
theorem N2(x y z:Nat)(hx:x<BB)(hy:y<BB)(hz:z<=1)(h:aa):FW SS 183 [.int .u64 (x:Int),.int .u64 (y:Int),.int .u64 (z:Int)] h (λv h'=>v = .tuple ⟨[uv (aC BB x y z).1,uv (aC BB x y z).2]⟩/\h'=h):=by
 have hBv:BB=1000000000:=rfl;have e1:wrap .u64 ((x:Int)+(y:Int))=((x+y:Nat):Int):=by rw[<-Int.natCast_add];exact e9 (by omega) (by omega)
 have e2:wrap .u64 (((x+y:Nat):Int)+(z:Int))=((x+y+z:Nat):Int):=by rw[<-Int.natCast_add];exact e9 (by omega) (by omega)
 refine N0 _ _ _ h _ ?_;rw[e1,e2];refine⟨_,eW (b:=BB) (by omega) (by decide),_,mM (b:=BB) (by omega) (by omega) (by decide),?_,rfl⟩;unfold uv aC;rw[natCast_emod,natCast_ediv]
theorem KN(x y z:Nat)(hx:x<BB)(hy:y<BB)(hz:z<=1)(h:aa):FW SS 189 [.int .u64 (x:Int),.int .u64 (y:Int),.int .u64 (z:Int)] h (λv h'=>v = .tuple ⟨[uv (bg BB x y z).1,uv (bg BB x y z).2]⟩/\h'=h):=by
 have hBv:BB=1000000000:=rfl;have hsum:x+BB-y-z<2*BB:=by omega
 have e1:wrap .u64 ((x:Int)+1000000000)=((x+BB:Nat):Int):=by rw[e9 (by omega) (by omega)];omega
 have e2:wrap .u64 (((x+BB:Nat):Int)-(y:Int))=((x+BB-y:Nat):Int):=by rw[e9 (by omega) (by omega)];omega
 have e3:wrap .u64 (((x+BB-y:Nat):Int)-(z:Int))=((x+BB-y-z:Nat):Int):=by rw[e9 (by omega) (by omega)];omega
 refine KM _ _ _ h _ ?_;rw[e1,e2,e3];refine⟨_,eW (b:=BB) (by omega) (by decide),_,mM (b:=BB) (by omega) (by omega) (by decide),?_,rfl⟩;unfold uv bg;dsimp only;generalize x+BB-y-z=q at*;have hq:q/BB<=1:=by
  have:q/BB<2:=div_lt_of_lt_mul (by omega);omega
 have e4:wrap .u64 (1-(q:Int)/(BB:Int))=((1-q/BB:Nat):Int):=by
  rw[<-natCast_ediv];clear hsum e1 e2 e3;generalize q/BB=r at*;rw[e9 (by omega) (by omega)];omega
 rw[e4,natCast_emod]
theorem Q3{p q c:Nat}(hp:p<BB)(hq:q<BB)(hc:c<=1):(aC BB p q c).2<=1:=by
 show(p+q+c)/BB<=1;have:(p+q+c)/BB<2:=div_lt_of_lt_mul (by omega);omega
theorem NK{p q c:Nat}(hp:p<BB)(hq:q<BB)(hc:c<=1):(bg BB p q c).2<=1:=(kM eU hp hq hc).2
theorem EZ{h:aa}{a b:Option Addr}{n c m d:Nat}{x y:List Nat}(ra:Rd h 117 (.slice a n c) (x.map uv))(rb:Rd h 117 (.slice b m d) (y.map uv))(hx:∀d∈x,d<BB)(hy:∀d∈y,d<BB)(hlx:x.length<=10000)(hly:y.length<=10000)(w:Wf h){R:Nat}(fin:cJ (aL (aC BB) x y 0 (max x.length y.length+1) 0)=aE BB R):
  FW SS 182 [.slice a n c,.slice b m d,.func (.func 183) ⟨[]⟩ ⟨[]⟩] h (gk h 117 (bl R)):=by
 have hn:n=x.length:=by have:=ra.len;rwa[lM]at this
 have hm:m=y.length:=by have:=rb.len;rwa[lM]at this
 rw[<-hn,<-hm]at fin;have hcr:∀j,dq (aC BB) x y 0 0 j<=1:=by
  intro j
  induction j with
  |zero=>exact zero_le _
  |succ j ih=>exact Q3 (aG (by decide) hx _) (aG (by decide) hy _) ih
 have hmn:n<=max n m/\m<=max n m:=⟨le_max_left _ _,le_max_right _ _⟩
 have hmx2:max n m<=10000:=max_le.2 ⟨by omega,by omega⟩;have hmx:(if(m:Int)>(n:Int)then(m:Int)else(n:Int))=((max n m:Nat):Int):=by split<;>omega
 generalize max n m=N at*;have L:=qQ a n c b m d ((N:Int)+1) (λmz i cy r rn rc g=>i<=N+1/\mz=N+1-i/\cy=(dq (aC BB) x y 0 0 i:Nat)/\cZ h g 117 (.slice r rn rc) ((aL (aC BB) x y 0 i 0).map uv)/\Ok h g) (gk h 117 (bl R)) (by
  intro mz i cy r rn rc;intros;rename_i g hi;obtain⟨h1,h2,rfl,ho,ok⟩:=hi;have hw3:wrap .i64 ((i:Int)+1)=((i+1:Nat):Int):=by rw[aA (by omega) (by omega)];omega
  rw[hw3];have hel:(aL (aC BB) x y 0 i 0).length=i:=dx _ _ _ _ _ _;have hsn:=fD (aC BB) x y i 0 0;rw[zero_add]at hsn;have hcr1:dq (aC BB) x y 0 0 (i+1)=(aC BB (x.getD i 0) (y.getD i 0) (dq (aC BB) x y 0 0 i)).2:=by
   show(aC BB (x.getD (0+i) 0) (y.getD (0+i) 0) _).2=_;rw[zero_add]
  have hci:=hcr i;have go:=N2 (x.getD i 0) (y.getD i 0) (dq (aC BB) x y 0 0 i) (aG (by decide) hx _) (aG (by decide) hy _) hci g;refine ae (λh5=>?_) (λh5=>?_)
  ·have h5:=dT h5;refine ae (λh6=>?_) (λh6=>?_)
   ·have h6:=dT h6;obtain⟨q,g2,g3⟩:=Bp (ra.ok ok) (i:=(i:Int)) (by omega) (by omega);rw[toNat_natCast]at g3;refine⟨q,g2,_,g3,ae (λh7=>?_) (λh7=>?_)⟩
    ·have h7:=dT h7;obtain⟨q2,g4,g5⟩:=Bp (rb.ok ok) (i:=(i:Int)) (by omega) (by omega);rw[toNat_natCast]at g5;refine⟨q2,g4,_,g5,go.mono ?_⟩;rintro _ _ ⟨rfl,rfl⟩;refine⟨_,_,rfl,_,_,_,oK _,?_⟩;obtain⟨b,m,d,u,g6,g7,g8,g9⟩:=jH w ok ho ((aC BB (x.getD i 0) (y.getD i 0) (dq (aC BB) x y 0 0 i)).1:Nat) (by rw[lM,hel];omega);refine⟨b,m,d,u,g6,jw (mz-1) (by omega) ⟨by omega,by omega,by rw[hcr1],?_,g9⟩⟩;rw[hsn,map_append];exact g8
    ·have h7:=dF h7;have y0:y.getD i 0=0:=by rw[gD,getElem?_eq_none (by omega)];rfl
     rw[y0]at go hsn hcr1;refine go.mono ?_;rintro _ _ ⟨rfl,rfl⟩;refine⟨_,_,rfl,_,_,_,oK _,?_⟩;obtain⟨b,m,d,u,g6,g7,g8,g9⟩:=jH w ok ho ((aC BB (x.getD i 0) 0 (dq (aC BB) x y 0 0 i)).1:Nat) (by rw[lM,hel];omega);refine⟨b,m,d,u,g6,jw (mz-1) (by omega) ⟨by omega,by omega,by rw[hcr1],?_,g9⟩⟩;rw[hsn,map_append];exact g8
   ·have h6:=dF h6;have x0:x.getD i 0=0:=by rw[gD,getElem?_eq_none (by omega)];rfl
    rw[x0]at go hsn hcr1;refine ae (λh7=>?_) (λh7=>?_)
    ·have h7:=dT h7;obtain⟨q2,g4,g5⟩:=Bp (rb.ok ok) (i:=(i:Int)) (by omega) (by omega);rw[toNat_natCast]at g5;refine⟨q2,g4,_,g5,go.mono ?_⟩;rintro _ _ ⟨rfl,rfl⟩;refine⟨_,_,rfl,_,_,_,oK _,?_⟩;obtain⟨b,m,d,u,g6,g7,g8,g9⟩:=jH w ok ho ((aC BB 0 (y.getD i 0) (dq (aC BB) x y 0 0 i)).1:Nat) (by rw[lM,hel];omega);refine⟨b,m,d,u,g6,jw (mz-1) (by omega) ⟨by omega,by omega,by rw[hcr1],?_,g9⟩⟩;rw[hsn,map_append];exact g8
    ·have h7:=dF h7;have y0:y.getD i 0=0:=by rw[gD,getElem?_eq_none (by omega)];rfl
     rw[y0]at go hsn hcr1;refine go.mono ?_;rintro _ _ ⟨rfl,rfl⟩;refine⟨_,_,rfl,_,_,_,oK _,?_⟩;obtain⟨b,m,d,u,g6,g7,g8,g9⟩:=jH w ok ho ((aC BB 0 0 (dq (aC BB) x y 0 0 i)).1:Nat) (by rw[lM,hel];omega);refine⟨b,m,d,u,g6,jw (mz-1) (by omega) ⟨by omega,by omega,by rw[hcr1],?_,g9⟩⟩;rw[hsn,map_append];exact g8
  ·have h5:=dF h5;obtain rfl:i=N+1:=by omega
   refine(nQ ho (by rw[hel];omega)).mono ?_;rintro _ g2 ⟨a',n',c',rfl,o2,rfl⟩;rw[fin]at o2;exact⟨a',n',c',rfl,a',n',c',rfl,o2,ok⟩)
 refine EY a n c b m d h _ ⟨_,tA _ _ _,?_⟩;have hw:wrap .i64 ((N:Int)+1)=(N:Int)+1:=aA (by omega) (by omega);dsimp only;rw[hmx,hw];exact L (N+1) (i:=0) ⟨by omega,by omega,rfl,.inl ⟨rfl,rfl⟩,Ok.refl w⟩
theorem CV{h:aa}{a b:Option Addr}{n c m d:Nat}{x y:List Nat}(ra:Rd h 117 (.slice a n c) (x.map uv))(rb:Rd h 117 (.slice b m d) (y.map uv))(hx:∀d∈x,d<BB)(hy:∀d∈y,d<BB)(hlx:x.length<=10000)(hly:y.length<=10000)(w:Wf h){R:Nat}(fin:cJ (aL (bg BB) x y 0 (max x.length y.length+1) 0)=aE BB R):
  FW SS 182 [.slice a n c,.slice b m d,.func (.func 189) ⟨[]⟩ ⟨[]⟩] h (gk h 117 (bl R)):=by
 have hn:n=x.length:=by have:=ra.len;rwa[lM]at this
 have hm:m=y.length:=by have:=rb.len;rwa[lM]at this
 rw[<-hn,<-hm]at fin;have hcr:∀j,dq (bg BB) x y 0 0 j<=1:=by
  intro j
  induction j with
  |zero=>exact zero_le _
  |succ j ih=>exact NK (aG (by decide) hx _) (aG (by decide) hy _) ih
 have hmn:n<=max n m/\m<=max n m:=⟨le_max_left _ _,le_max_right _ _⟩
 have hmx2:max n m<=10000:=max_le.2 ⟨by omega,by omega⟩;have hmx:(if(m:Int)>(n:Int)then(m:Int)else(n:Int))=((max n m:Nat):Int):=by split<;>omega
 generalize max n m=N at*;have L:=py a n c b m d ((N:Int)+1) (λmz i cy r rn rc g=>i<=N+1/\mz=N+1-i/\cy=(dq (bg BB) x y 0 0 i:Nat)/\cZ h g 117 (.slice r rn rc) ((aL (bg BB) x y 0 i 0).map uv)/\Ok h g) (gk h 117 (bl R)) (by
  intro mz i cy r rn rc;intros;rename_i g hi;obtain⟨h1,h2,rfl,ho,ok⟩:=hi;have hw3:wrap .i64 ((i:Int)+1)=((i+1:Nat):Int):=by rw[aA (by omega) (by omega)];omega
  rw[hw3];have hel:(aL (bg BB) x y 0 i 0).length=i:=dx _ _ _ _ _ _;have hsn:=fD (bg BB) x y i 0 0;rw[zero_add]at hsn;have hcr1:dq (bg BB) x y 0 0 (i+1)=(bg BB (x.getD i 0) (y.getD i 0) (dq (bg BB) x y 0 0 i)).2:=by
   show(bg BB (x.getD (0+i) 0) (y.getD (0+i) 0) _).2=_;rw[zero_add]
  have hci:=hcr i;have go:=KN (x.getD i 0) (y.getD i 0) (dq (bg BB) x y 0 0 i) (aG (by decide) hx _) (aG (by decide) hy _) hci g;refine ae (λh5=>?_) (λh5=>?_)
  ·have h5:=dT h5;refine ae (λh6=>?_) (λh6=>?_)
   ·have h6:=dT h6;obtain⟨q,g2,g3⟩:=Bp (ra.ok ok) (i:=(i:Int)) (by omega) (by omega);rw[toNat_natCast]at g3;refine⟨q,g2,_,g3,ae (λh7=>?_) (λh7=>?_)⟩
    ·have h7:=dT h7;obtain⟨q2,g4,g5⟩:=Bp (rb.ok ok) (i:=(i:Int)) (by omega) (by omega);rw[toNat_natCast]at g5;refine⟨q2,g4,_,g5,go.mono ?_⟩;rintro _ _ ⟨rfl,rfl⟩;refine⟨_,_,rfl,_,_,_,oK _,?_⟩;obtain⟨b,m,d,u,g6,g7,g8,g9⟩:=jH w ok ho ((bg BB (x.getD i 0) (y.getD i 0) (dq (bg BB) x y 0 0 i)).1:Nat) (by rw[lM,hel];omega);refine⟨b,m,d,u,g6,jw (mz-1) (by omega) ⟨by omega,by omega,by rw[hcr1],?_,g9⟩⟩;rw[hsn,map_append];exact g8
    ·have h7:=dF h7;have y0:y.getD i 0=0:=by rw[gD,getElem?_eq_none (by omega)];rfl
     rw[y0]at go hsn hcr1;refine go.mono ?_;rintro _ _ ⟨rfl,rfl⟩;refine⟨_,_,rfl,_,_,_,oK _,?_⟩;obtain⟨b,m,d,u,g6,g7,g8,g9⟩:=jH w ok ho ((bg BB (x.getD i 0) 0 (dq (bg BB) x y 0 0 i)).1:Nat) (by rw[lM,hel];omega);refine⟨b,m,d,u,g6,jw (mz-1) (by omega) ⟨by omega,by omega,by rw[hcr1],?_,g9⟩⟩;rw[hsn,map_append];exact g8
   ·have h6:=dF h6;have x0:x.getD i 0=0:=by rw[gD,getElem?_eq_none (by omega)];rfl
    rw[x0]at go hsn hcr1;refine ae (λh7=>?_) (λh7=>?_)
    ·have h7:=dT h7;obtain⟨q2,g4,g5⟩:=Bp (rb.ok ok) (i:=(i:Int)) (by omega) (by omega);rw[toNat_natCast]at g5;refine⟨q2,g4,_,g5,go.mono ?_⟩;rintro _ _ ⟨rfl,rfl⟩;refine⟨_,_,rfl,_,_,_,oK _,?_⟩;obtain⟨b,m,d,u,g6,g7,g8,g9⟩:=jH w ok ho ((bg BB 0 (y.getD i 0) (dq (bg BB) x y 0 0 i)).1:Nat) (by rw[lM,hel];omega);refine⟨b,m,d,u,g6,jw (mz-1) (by omega) ⟨by omega,by omega,by rw[hcr1],?_,g9⟩⟩;rw[hsn,map_append];exact g8
    ·have h7:=dF h7;have y0:y.getD i 0=0:=by rw[gD,getElem?_eq_none (by omega)];rfl
     rw[y0]at go hsn hcr1;refine go.mono ?_;rintro _ _ ⟨rfl,rfl⟩;refine⟨_,_,rfl,_,_,_,oK _,?_⟩;obtain⟨b,m,d,u,g6,g7,g8,g9⟩:=jH w ok ho ((bg BB 0 0 (dq (bg BB) x y 0 0 i)).1:Nat) (by rw[lM,hel];omega);refine⟨b,m,d,u,g6,jw (mz-1) (by omega) ⟨by omega,by omega,by rw[hcr1],?_,g9⟩⟩;rw[hsn,map_append];exact g8
  ·have h5:=dF h5;obtain rfl:i=N+1:=by omega
   refine(nQ ho (by rw[hel];omega)).mono ?_;rintro _ g2 ⟨a',n',c',rfl,o2,rfl⟩;rw[fin]at o2;exact⟨a',n',c',rfl,a',n',c',rfl,o2,ok⟩)
 refine CU a n c b m d h _ ⟨_,tA _ _ _,?_⟩;have hw:wrap .i64 ((N:Int)+1)=(N:Int)+1:=aA (by omega) (by omega);dsimp only;rw[hmx,hw];exact L (N+1) (i:=0) ⟨by omega,by omega,rfl,.inl ⟨rfl,rfl⟩,Ok.refl w⟩
theorem H2{h:aa}{a b:Option Addr}{n c m d X Y:Nat}(ra:Rd h 117 (.slice a n c) (bl X))(rb:Rd h 117 (.slice b m d) (bl Y))(hlx:(aE BB X).length<=10000)(hly:(aE BB Y).length<=10000)(w:Wf h):FW SS 162 [.slice a n c,.slice b m d] h (gk h 117 (bl (X+Y))):=by
 have hX:=cg eU X;have hY:=cg eU Y;refine H0 a n c b m d h _ ((EZ ra rb hX hY hlx hly w (R:=X+Y) ?_).mono ?_)
 ·have h1:=le_max_left (aE BB X).length (aE BB Y).length;have h2:=le_max_right (aE BB X).length (aE BB Y).length;rw[iY eU (gQ (λp q c=>mod_lt _ (by decide)) _ _ _ 0 0),uj eU hX hY _ 0 0 (by omega) (by omega) (by omega) (by omega),drop_zero,drop_zero,bB eU,bB eU];rfl
 ·rintro _ g ⟨a',n',c',rfl,o,ok⟩;exact⟨_,_,_,rfl,a',n',c',rfl,o,ok⟩
theorem FX{h:aa}{a b:Option Addr}{n c m d X Y:Nat}(ra:Rd h 117 (.slice a n c) (bl X))(rb:Rd h 117 (.slice b m d) (bl Y))(hXY:Y<=X)(hlx:(aE BB X).length<=10000)(hly:(aE BB Y).length<=10000)(w:Wf h):FW SS 165 [.slice a n c,.slice b m d] h (gk h 117 (bl (X-Y))):=by
 have hX:=cg eU X;have hY:=cg eU Y;refine FV a n c b m d h _ ((CV ra rb hX hY hlx hly w (R:=X-Y) ?_).mono ?_)
 ·have h1:=le_max_left (aE BB X).length (aE BB Y).length;have h2:=le_max_right (aE BB X).length (aE BB Y).length;rw[iY eU (gQ (λp q c=>mod_lt _ (by decide)) _ _ _ 0 0)];have h3:=xW eU hX hY (max (aE BB X).length (aE BB Y).length+1) 0 0 (by omega) (by omega) (by omega) (by rw[drop_zero,drop_zero,bB eU,bB eU];exact hXY);rw[drop_zero,drop_zero,bB eU,bB eU]at h3;congr 1;omega
 ·rintro _ g ⟨a',n',c',rfl,o,ok⟩;exact⟨_,_,_,rfl,a',n',c',rfl,o,ok⟩
def lU(X:Nat):Value:=if 1000<(aj X).length then Ak [] 2 else Ak (aj X) 0
def wy(a b:List UInt8):Value:=if Num.valid a=true/\Num.valid b=true then lU (Num.val a+Num.val b)else Ak [] 1
def wR(a b:List UInt8):Value:=if Num.valid a=true/\Num.valid b=true then lU (Num.val a*Num.val b)else Ak [] 1
def w7(a b:List UInt8):Value:=if Num.valid a=true/\Num.valid b=true then(if Num.val a<Num.val b then Ak [] 4 else Ak (aj (Num.val a-Num.val b)) 0)else Ak [] 1
def wz(a b:List UInt8):Value:=if Num.valid a=true/\Num.valid b=true then .int .i64 (dn (Num.val a) (Num.val b))else .int .i64 0
theorem rD{h:aa}{a:Option Addr}{n c X:Nat}(ra:Rd h 117 (.slice a n c) (bl X))(hlen:(aE BB X).length<=10000)(t:qP h)(w:Wf h):FW SS 138 [.slice a n c] h (λv h'=>v=lU X/\Ok h h'):=by
 refine AQ a n c h _ ((sh ra hlen t w).mono ?_);rintro _ g ⟨rfl,ok⟩;refine⟨_,rfl,ae (λh1=>?_) (λh1=>?_)⟩
 ·have h1:=dT h1;refine⟨?_,ok⟩;unfold lU;rw[if_pos (by omega)];rfl
 ·have h1:=dF h1;refine⟨?_,ok⟩;unfold lU;rw[if_neg (by omega)];rfl
structure XG(a b:List UInt8)(X Y:Nat):Prop where
 va:Num.valid a=true
 vb:Num.valid b=true
 ea:Num.val a=X
 eb:Num.val b=Y
 lx:(aE BB X).length<=112
 ly:(aE BB Y).length<=112
theorem RJ{a b:List UInt8}(va:Num.valid a=true)(vb:Num.valid b=true):XG a b (Num.val a) (Num.val b):=by
 obtain⟨X,_,hX,eX⟩:=cP va;obtain⟨Y,_,hY,eY⟩:=cP vb;exact⟨va,vb,rfl,rfl,by rw[eX];exact mQ hX,by rw[eY];exact mQ hY⟩
theorem km{a:List UInt8}(va:Num.valid a=true){h:aa}(w:Wf h):FW SS 137 [strOf a] h (gk h 117 (bl (Num.val a))):=by
 have da:=(fu.1 va)
 exact nP a da.1.2.1 (Nat.le_trans da.2 (by omega)) h w
theorem RI{X Y:Nat}(hx:(aE BB X).length<=112)(hy:(aE BB Y).length<=112):(aE BB (X+Y)).length<=10000:=by
 have h1:=dR (cg eU X);have h2:=dR (cg eU Y);rw[bB eU]at h1 h2;have h3:=lt_of_lt_of_le h1 (pow_le_pow_right (show 0<BB by decide) hx);have h4:=lt_of_lt_of_le h2 (pow_le_pow_right (show 0<BB by decide) hy);refine Nat.le_trans (jo eU (k:=113) ?_) (by omega);rw[pow_succ];have h5:2*BB^112<=BB^112*BB:=by rw[mul_comm];exact Nat.mul_le_mul_left _ (by decide)
 generalize BB^112=M at*;omega
theorem O3{m n:Nat}(h:m<=n):(aE BB m).length<=(aE BB n).length:=Nat.le_of_not_lt λg=>absurd (jq eU g) (Nat.not_lt.2 h)
theorem tr(X:Nat):∃l n,lU X=Ak l n:=by
 unfold lU;split<;>exact⟨_,_,rfl⟩
theorem xC{v:Value}(hv:∃l n,v=Ak l n){K:Value->Prop}(hK:K v):∃(l:List UInt8)(n:Int),v = .tuple ⟨[strOf l,.int .i64 n]⟩/\K (.tuple ⟨[strOf l,.int .i64 n]⟩):=by
 obtain⟨l,n,rfl⟩:=hv;exact⟨l,n,rfl,hK⟩
theorem Ja{x y:Nat}(h:dn x y<0):x<y:=by
 unfold dn at h;split at h<;>omega
theorem I9{x y:Nat}(h:¬dn x y<0):y<=x:=by
 unfold dn at h;split at h<;>omega
theorem KS(a b:List UInt8){h:aa}(t:qP h)(w:Wf h):FW SS 133 [strOf a,strOf b] h (λv h'=>v=wy a b/\Ok h h'):=by
 refine KR a b h _ ((dm a h).mono ?_);rintro _ g0 ⟨rfl,e0⟩;obtain rfl:h=g0:=e0.symm;refine⟨_,rfl,ae (λg=>?_) (λg=>?_)⟩
 ·have g:Num.valid a=false:=by simpa using g
  refine⟨?_,Ok.refl w⟩;unfold wy;rw[if_neg (λe=>by rw[e.1]at g;cases g)];rfl
 have g:Num.valid a=true:=by simpa using g
 refine(dm b h).mono ?_;rintro _ g0 ⟨rfl,e0⟩;obtain rfl:h=g0:=e0.symm;refine⟨_,rfl,ae (λg2=>?_) (λg2=>?_)⟩
 ·have g2:Num.valid b=false:=by simpa using g2
  refine⟨?_,Ok.refl w⟩;unfold wy;rw[if_neg (λe=>by rw[e.2]at g2;cases g2)];rfl
 have g2:Num.valid b=true:=by simpa using g2
 have tb:=RJ g g2;have lx:=tb.lx;have ly:=tb.ly;refine(km g w).mono ?_;rintro _ h1 ⟨a1,n1,c1,rfl,o1,ok1⟩;refine⟨_,_,_,rfl,(km g2 ok1.wf).mono ?_⟩;rintro _ h2 ⟨a2,n2,c2,rfl,o2,ok2⟩;refine⟨_,_,_,rfl,?_⟩;have hS:wy a b=lU (Num.val a+Num.val b):=by unfold wy;rw[if_pos ⟨g,g2⟩]
 rw[hS];have r1:=o1.rd.ok ok2;have r2:=o2.rd;have ok:=ok1.trans ok2;refine(H2 r1 r2 (by omega) (by omega) ok.wf).mono ?_;rintro _ h3 ⟨a3,n3,c3,rfl,o3,ok3⟩;refine⟨_,_,_,rfl,(rD o3.rd (RI lx ly) (t.ok (ok.trans ok3)) ok3.wf).mono ?_⟩;rintro _ h4 ⟨rfl,ok4⟩;exact xC (K:=λv=>v=lU (Num.val a+Num.val b)/\Ok h h4) (tr _) ⟨rfl,(ok.trans ok3).trans ok4⟩
theorem BU(a b:List UInt8){h:aa}(t:qP h)(w:Wf h):FW SS 135 [strOf a,strOf b] h (λv h'=>v=w7 a b/\Ok h h'):=by
 refine KZ a b h _ ((dm a h).mono ?_);rintro _ g0 ⟨rfl,e0⟩;obtain rfl:h=g0:=e0.symm;refine⟨_,rfl,ae (λg=>?_) (λg=>?_)⟩
 ·have g:Num.valid a=false:=by simpa using g
  refine⟨?_,Ok.refl w⟩;unfold w7;rw[if_neg (λe=>by rw[e.1]at g;cases g)];rfl
 have g:Num.valid a=true:=by simpa using g
 refine(dm b h).mono ?_;rintro _ g0 ⟨rfl,e0⟩;obtain rfl:h=g0:=e0.symm;refine⟨_,rfl,ae (λg2=>?_) (λg2=>?_)⟩
 ·have g2:Num.valid b=false:=by simpa using g2
  refine⟨?_,Ok.refl w⟩;unfold w7;rw[if_neg (λe=>by rw[e.2]at g2;cases g2)];rfl
 have g2:Num.valid b=true:=by simpa using g2
 have tb:=RJ g g2;have lx:=tb.lx;have ly:=tb.ly;refine(km g w).mono ?_;rintro _ h1 ⟨a1,n1,c1,rfl,o1,ok1⟩;refine⟨_,_,_,rfl,(km g2 ok1.wf).mono ?_⟩;rintro _ h2 ⟨a2,n2,c2,rfl,o2,ok2⟩;refine⟨_,_,_,rfl,?_⟩;have hS:w7 a b=(if Num.val a<Num.val b then Ak [] 4 else Ak (aj (Num.val a-Num.val b)) 0):=by unfold w7;rw[if_pos ⟨g,g2⟩]
 rw[hS];have r1:=o1.rd.ok ok2;have r2:=o2.rd;have ok:=ok1.trans ok2;refine(mZ r1 r2 (by omega) ok.wf).mono ?_;rintro _ h3 ⟨rfl,ok3⟩;refine⟨_,rfl,ae (λh6=>?_) (λh6=>?_)⟩
 ·have h6:=dT h6;rw[if_pos (Ja h6)];exact⟨rfl,ok.trans ok3⟩
 ·have h6:=dF h6;have hle:=I9 h6;rw[if_neg (Nat.not_lt.2 hle)];refine(FX (r1.ok ok3) (r2.ok ok3) hle (by omega) (by omega) ok3.wf).mono ?_;rintro _ h4 ⟨a3,n3,c3,rfl,o3,ok4⟩;refine⟨_,_,_,rfl,(sh o3.rd (Nat.le_trans (O3 (Nat.sub_le _ _)) (by omega)) (t.ok ((ok.trans ok3).trans ok4)) ok4.wf).mono ?_⟩;rintro _ h5 ⟨rfl,ok5⟩;exact⟨_,rfl,rfl,((ok.trans ok3).trans ok4).trans ok5⟩
theorem KU(a b:List UInt8){h:aa}(t:qP h)(w:Wf h):FW SS 134 [strOf a,strOf b] h (λv h'=>v=wz a b/\Ok h h'):=by
 refine KT a b h _ ((dm a h).mono ?_);rintro _ g0 ⟨rfl,e0⟩;obtain rfl:h=g0:=e0.symm;refine⟨_,rfl,ae (λg=>?_) (λg=>?_)⟩
 ·have g:Num.valid a=false:=by simpa using g
  refine⟨?_,Ok.refl w⟩;unfold wz;rw[if_neg (λe=>by rw[e.1]at g;cases g)]
 have g:Num.valid a=true:=by simpa using g
 refine(dm b h).mono ?_;rintro _ g0 ⟨rfl,e0⟩;obtain rfl:h=g0:=e0.symm;refine⟨_,rfl,ae (λg2=>?_) (λg2=>?_)⟩
 ·have g2:Num.valid b=false:=by simpa using g2
  refine⟨?_,Ok.refl w⟩;unfold wz;rw[if_neg (λe=>by rw[e.2]at g2;cases g2)]
 have g2:Num.valid b=true:=by simpa using g2
 have tb:=RJ g g2;have lx:=tb.lx;have ly:=tb.ly;refine(km g w).mono ?_;rintro _ h1 ⟨a1,n1,c1,rfl,o1,ok1⟩;refine⟨_,_,_,rfl,(km g2 ok1.wf).mono ?_⟩;rintro _ h2 ⟨a2,n2,c2,rfl,o2,ok2⟩;refine⟨_,_,_,rfl,?_⟩;have hS:wz a b = .int .i64 (dn (Num.val a) (Num.val b)):=by unfold wz;rw[if_pos ⟨g,g2⟩]
 rw[hS];have r1:=o1.rd.ok ok2;have r2:=o2.rd;have ok:=ok1.trans ok2;refine(mZ r1 r2 (by omega) ok.wf).mono ?_;rintro _ h3 ⟨rfl,ok3⟩;exact⟨_,rfl,rfl,ok.trans ok3⟩
theorem O7:SS.P.underlying 9=some .string:=Tryz.underlying9
theorem D2(l:List UInt8)(h:aa){b:Nat}(hb:b<=l.length):bt SS.P 9 (strOf l) none (some (.int .i64 (b:Int))) none h=some (strOf (l.take b)):=by
 have:=lD (h:=h) O7 l (lo:=none) (hi:=some (.int .i64 (b:Int))) (a:=0) (b:=b) rfl rfl (by omega) hb;simpa using this
theorem qK(l:List UInt8)(h:aa){a:Nat}(ha:a<=l.length):bt SS.P 9 (strOf l) (some (.int .i64 (a:Int))) none none h=some (strOf (l.drop a)):=by
 have:=lD (h:=h) O7 l (lo:=some (.int .i64 (a:Int))) (hi:=none) (a:=a) (b:=l.length) rfl rfl ha (Nat.le_refl _);rw[this,List.take_of_length_le (by simp)]
theorem Kx(l:List UInt8)(h:aa):FW SS 202 [strOf l,strOf [45]] h (λv h'=>v = .bool (Num.isNeg l)/\h'=h):=by
 refine Kw l [45] h _ (ae (λh1=>?_) (λh1=>?_))
 ·have h1:=dT h1;have h2:1<=l.length:=by simp only[List.length_cons,List.length_nil]at h1;omega
  refine⟨_,D2 l h (b:=1) h2,?_,rfl⟩
  cases l with
  |nil=>simp at h2
  |cons c l=>
   unfold Num.isNeg;simp only[List.take_succ_cons,take_zero,List.head?_cons];congr 1
   cases hc:c==45<;>simp_all
 ·have h1:=dF h1;have h2:l=[]:=List.eq_nil_of_length_eq_zero (by simp at h1;omega);subst h2;exact⟨rfl,rfl⟩
theorem Hx(l:List UInt8)(h:aa):FW SS 180 [strOf l,strOf [45]] h (λv h'=>v = .tuple ⟨[strOf (bc l),.bool (Num.isNeg l)]⟩/\h'=h):=by
 refine Hw l [45] h _ ((Kx l h).mono ?_);rintro _ g0 ⟨rfl,e0⟩;obtain rfl:h=g0:=e0.symm;refine⟨_,rfl,ae (λg=>?_) (λg=>?_)⟩
 ·have g:Num.isNeg l=false:=by simpa using g
  unfold bc;rw[g];exact⟨rfl,rfl⟩
 ·have g:Num.isNeg l=true:=by simpa using g
  have h2:1<=l.length:=by
   cases l with
   |nil=>cases g
   |cons=>simp
  refine⟨_,qK l h (a:=1) h2,?_,rfl⟩;unfold bc;rw[g];rfl
theorem Kj(l:List UInt8)(h:aa):FW SS 158 [strOf l,strOf [45]] h (λv h'=>v = .tuple ⟨[strOf (bc l),.bool (Num.isNeg l)]⟩/\h'=h):=by
 refine Ki l [45] h _ ((Hx l h).mono ?_);rintro _ g0 ⟨rfl,e0⟩;exact⟨_,_,rfl,rfl,e0⟩
theorem HE(l:List UInt8):∀i:Nat,findAt 47 l i=if dp 47 l<l.length then((i+dp 47 l:Nat):Int)else -1:=by
 induction l with
 |nil=>intro i;rfl
 | cons c l ih=>
  intro i;unfold findAt dp;have hc:c.toNat=47↔c=47:=by rw[<-UInt8.toNat_inj];rfl
  by_cases h:c=47
  ·rw[if_pos (hc.2 h),if_pos h,if_pos (by simp)];rfl
  ·rw[if_neg (λe=>h (hc.1 e)),if_neg h,ih (i+1)];have:(dp 47 l+1<(c::l).length)↔dp 47 l<l.length:=by simp
   simp only[this];split
   ·congr 1;omega
   ·rfl
def AI(l:List UInt8):Int:=if dp 47 l<l.length then(dp 47 l:Int)else -1
theorem Fv(l:List UInt8)(h:aa):FW SS 211 [strOf l,.int .u8 47] h (λv h'=>v = .int .i64 (AI l)/\h'=h):=by
 refine Fu l 47 h _ (C0 (p:=ig) (v:= .int .i64 (AI l)) (h':=h) (by decide +kernel) (by kernel_rfl) (λcf=>?_) ⟨_,rfl,rfl,rfl⟩);show(if(0:Int)<=47/\(47:Int)<256 then some (Value.int .i64 (findAt 47 l 0),h)else none)=_;rw[if_pos (by decide),HE,zero_add];rfl
theorem Kz(l:List UInt8)(h:aa):FW SS 203 [strOf l,strOf [47]] h (λv h'=>v = .int .i64 (AI l)/\h'=h):=by
 refine Ky l h _ (ae (λh1=>?_) (λh1=>?_))
 ·have h1:([47]:List UInt8)=l:=by simpa using h1
  subst h1;exact⟨rfl,rfl⟩
 ·refine⟨47,rfl,(Fv l h).mono ?_⟩;rintro _ g0 ⟨rfl,e0⟩;exact⟨_,rfl,rfl,e0⟩
def Kk(l:List UInt8):Value:=if dp 47 l<l.length then .tuple ⟨[strOf (l.take (dp 47 l)),strOf (l.drop (dp 47 l+1)),.bool true]⟩else .tuple ⟨[strOf l,strOf [],.bool false]⟩
theorem PY(l:List UInt8)(hl:l.length<=281474976710656){h:aa}(w:Wf h):FW SS 181 [strOf l,strOf [47]] h (λv h'=>v=Kk l/\Ok h h'):=by
 refine PX l h _ ((Kz l h).mono ?_);rintro _ g0 ⟨rfl,e0⟩;obtain rfl:h=g0:=e0.symm;refine⟨_,rfl,ae (λg=>?_) (λg=>?_)⟩
 ·have g:=dT g;unfold AI Kk at*;by_cases h1:dp 47 l<l.length
  ·rw[if_pos h1,if_pos h1];have hw:wrap .i64 ((dp 47 l:Int)+1)=((dp 47 l+1:Nat):Int):=by rw[aA (by omega) (by omega)];omega
   rw[hw];exact⟨_,D2 l _ (le_of_lt h1),_,qK l _ h1,rfl,(Ok.refl w).room 12⟩
  ·rw[if_neg h1]at g;omega
 ·have g:=dF g;unfold AI Kk at*;by_cases h1:dp 47 l<l.length
  ·rw[if_pos h1]at g;omega
  ·rw[if_neg h1];exact⟨rfl,Ok.refl w⟩
theorem SQ(l:List UInt8)(hl:l.length<=281474976710656){h:aa}(w:Wf h):FW SS 159 [strOf l,strOf [47]] h (λv h'=>v=Kk l/\Ok h h'):=by
 refine SP l h _ ((PY l hl w).mono ?_);rintro _ g0 ⟨rfl,e0⟩;unfold Kk;split
 ·exact⟨_,_,_,rfl,rfl,e0⟩
 ·exact⟨_,_,_,rfl,rfl,e0⟩
theorem DJ(l:List UInt8)(hl:l.length<=281474976710656)(h:aa):FW SS 173 [strOf l,.int .u8 47] h (λv h'=>v = .int .i64 (AI l)/\h'=h):=by
 refine DH l 47 h _ (pT l 47 (λmz i g=>g=h/\i<=l.length/\mz=l.length-i/\∀j,j<i->l.getD j 0≠47) _ (λmz i=>?_) l.length (i:=0) ⟨rfl,by omega,rfl,λj hj=>by omega⟩);intros;rename_i g hi;obtain⟨rfl,h1,h2,h3⟩:=hi;refine ae (λg1=>?_) (λg1=>?_)
 ·have g1:=dT g1;have e:bp SS.P 9 (strOf l) (.int .i64 (i:Int))=some (.int .u8 (((l.getD i 0).toNat:Nat):Int)):=by
   have:=lC O7 l .i64 (i:=(i:Int)) (by omega) g1;simpa using this
  refine⟨_,e,ae (λg2=>?_) (λg2=>?_)⟩
  ·have g2:(l.getD i 0).toNat=47:=by have:=dT g2;omega
   have g3:l.getD i 0=47:=by rw[<-UInt8.toNat_inj];exact g2
   have:=rT 47 l i h1 h3 (λ_=>g3);refine⟨?_,rfl⟩;unfold AI;rw[this,if_pos (by omega)]
  ·have g2:((l.getD i 0).toNat:Int)≠47:=by simpa using g2
   have hw:wrap .i64 ((i:Int)+1)=((i+1:Nat):Int):=by rw[aA (by omega) (by omega)];omega
   rw[hw];refine cH (mz-1) (by omega) ⟨rfl,by omega,by omega,λj hj=>?_⟩;rcases lt_or_ge j i with hj2|hj2
   ·exact h3 j hj2
   ·obtain rfl:j=i:=by omega
    intro e3;rw[e3]at g2;exact g2 rfl
 ·have g1:=dF g1;obtain rfl:i=l.length:=by omega
  have:=rT 47 l l.length (Nat.le_refl _) h3 (λhh=>by omega);refine⟨?_,rfl⟩;unfold AI;rw[this,if_neg (by omega)]
noncomputable def DU:FD:=dJ Tryz.f198 []
theorem AW(l:LB)(h:aa)(Q:VH)(hx:aF (decide ((((l:LB).length:Int):Int)>1000)) (Q (.tuple ⟨[(strOf []),(.int .i64 2)]⟩) h) (Q (.tuple ⟨[(strOf l),(.int .i64 0)]⟩) h)):FW SS 198 [(strOf l)] h Q:=dM DU Tryz.func198 (au hx)
noncomputable def Oq:FD:=dJ Tryz.f177 []
theorem Lo(l m:LB)(h:aa)(Q:VH)(hx:FW SS 194 [(strOf l)] h λv1 h2=>yB v1 λb3=>aF (!b3) (Q (.int .i64 0) h2) (FW SS 194 [(strOf m)] h2 λv4 h5=>yB v4 λb6=>aF (!b6) (Q (.int .i64 0) h5) (FW SS 200 [(strOf l),(strOf m)] h5 λv7 h8=>yI .i64 v7 λn9=>Q (.int .i64 n9) h8))):FW SS 177 [(strOf l),(strOf m)] h Q:=dM Oq Tryz.func177 (au hx)
noncomputable def Ot:FD:=dJ Tryz.f178 []
theorem Lw(l m:LB)(h:aa)(Q:VH)(hx:FW SS 194 [(strOf l)] h λv1 h2=>yB v1 λb3=>aF (!b3) (Q (.tuple ⟨[(strOf []),(.int .i64 1)]⟩) h2) (FW SS 194 [(strOf m)] h2 λv4 h5=>yB v4 λb6=>aF (!b6) (Q (.tuple ⟨[(strOf []),(.int .i64 1)]⟩) h5) (FW SS 200 [(strOf l),(strOf m)] h5 λv7 h8=>yI .i64 v7 λn9=>aF (decide ((n9:Int)<0)) (Q (.tuple ⟨[(strOf []),(.int .i64 4)]⟩) h8) (FW SS 196 [(strOf l)] h8 λv10 h11=>yL v10 λa12 n13 cm=>FW SS 196 [(strOf m)] h11 λv15 h16=>yL v15 λa17 n18 c19=>FW SS 201 [(.slice a12 n13 cm),(.slice a17 n18 c19)] h16 λv20 h21=>yL v20 λa22 n23 c24=>FW SS 199 [(.slice a22 n23 c24)] h21 λv25 h26=>yS v25 λl27=>Q (.tuple ⟨[(strOf l27),(.int .i64 0)]⟩) h26)))):FW SS 178 [(strOf l),(strOf m)] h Q:=dM Ot Tryz.func178 (au hx)
noncomputable def mh:FD:=dJ Tryz.f176 [([1,1,1,1,1,0,1,0,0],[6,7,8,9,10])]
abbrev hZ(a:OA)(n c:Nat)(b:OA)(k d:Nat)(i:Nat)(cy:Int)(r:OA)(rn rc:Nat):LV:=[(.slice a n c),(.slice b k d),(.slice r rn rc),(.int .i64 cy),(iA i)]
theorem Lm(l m:LB)(h:aa)(Q:VH)(hx:FW SS 194 [(strOf l)] h λv1 h2=>yB v1 λb3=>aF (!b3) (Q (.tuple ⟨[(strOf []),(.int .i64 1)]⟩) h2) (FW SS 194 [(strOf m)] h2 λv4 h5=>yB v4 λb6=>aF (!b6) (Q (.tuple ⟨[(strOf []),(.int .i64 1)]⟩) h5) (FW SS 196 [(strOf l)] h5 λv7 h8=>yL v7 λa9 n10 bW=>FW SS 196 [(strOf m)] h8 λv12 h13=>yL v12 λa14 n15 c16=>LL SS mh [1,1,1,1,1,0,1,0,0] (hZ a9 n10 bW a14 n15 c16 0 0 none 0 0) h13 (KK SS mh [1,1,1,1,1,0,1,0] [] (EE SS mh Q))))):FW SS 176 [(strOf l),(strOf m)] h Q:=dM mh Tryz.func176 (au hx)
theorem tO(l m:LB)(a:OA)(n c:Nat)(b:OA)(k d:Nat)(Inv:Nat->Nat->Int->OA->Nat->Nat->aa->Prop)(Q:VH)(step:∀(mz:Nat) (i:Nat) (cy:Int) (r:OA) (rn rc:Nat) (zz:Nat->Value) (h:aa),Inv mz i cy r rn rc h->aF (decide (((i:Int):Int)<=(n:Int))) (FW SS 197 [(.slice a n c),(iA i)] h λv17 h18=>yI .i64 v17 λn19=>FW SS 197 [(.slice b k d),(iA i)] h18 λv20 h21=>yI .i64 v20 λn22=>xI .i64 (ay SS.P .rem 3 (.int .i64 (wrap .i64 (wrap .i64 (n19+n22)+cy))) (.int .i64 10)) λn23=>xR (aI SS.P 32 1 [(0,(.int .i64 n23))]) h21 λB24 n25 c26 g27=>xE (aO SS.P 32 32 (.slice r rn rc) (sA (h21.next) n25 c26) g27) g27 λa28 n29 c30 u31 g32=>xI .i64 (ay SS.P .quo 3 (.int .i64 (wrap .i64 (wrap .i64 (n19+n22)+cy))) (.int .i64 10)) λn33=>aH (ui (hZ a n c b k d) Inv) mz [(.slice a n c),(.slice b k d),(.slice a28 n29 c30),(.int .i64 n33),(.int .i64 (wrap .i64 ((i:Int)+1)))] g32) (aF (decide (((i:Int):Int)<=(k:Int))) (FW SS 197 [(.slice a n c),(iA i)] h λv34 h35=>yI .i64 v34 λn36=>FW SS 197 [(.slice b k d),(iA i)] h35 λv37 h38=>yI .i64 v37 λn39=>xI .i64 (ay SS.P .rem 3 (.int .i64 (wrap .i64 (wrap .i64 (n36+n39)+cy))) (.int .i64 10)) λn40=>xR (aI SS.P 32 1 [(0,(.int .i64 n40))]) h38 λB41 n42 c43 g44=>xE (aO SS.P 32 32 (.slice r rn rc) (sA (h38.next) n42 c43) g44) g44 λa45 n46 c47 u48 g49=>xI .i64 (ay SS.P .quo 3 (.int .i64 (wrap .i64 (wrap .i64 (n36+n39)+cy))) (.int .i64 10)) λn50=>aH (ui (hZ a n c b k d) Inv) mz [(.slice a n c),(.slice b k d),(.slice a45 n46 c47),(.int .i64 n50),(.int .i64 (wrap .i64 ((i:Int)+1)))] g49) (FW SS 199 [(.slice r rn rc)] h λv51 h52=>yS v51 λl53=>FW SS 198 [(strOf l53)] h52 λv54 h55=>∃l56:LB,∃n57:Int,v54=(.tuple ⟨[(strOf l56),(.int .i64 n57)]⟩)/\Q (.tuple ⟨[(strOf l56),(.int .i64 n57)]⟩) h55)))(mz:Nat){i:Nat}{cy:Int}{r:OA}{rn rc:Nat}{h:aa}(hi:Inv mz i cy r rn rc h):LL SS mh [1,1,1,1,1,0,1,0,0] (hZ a n c b k d i cy r rn rc) h (KK SS mh [1,1,1,1,1,0,1,0] [] (EE SS mh Q)):=
 zL (hZ a n c b k d) Inv (λmz i cy r rn rc zz h hi=>au (step mz i cy r rn rc zz h hi)) mz hi
noncomputable def dC:FD:=dJ Tryz.f179 [([1,1,1,1,0,1,0,0],[6,7,8,9]),([1,1,1,1,0,1,0,0,1,0,0,1,1,0,0],[6,7,8,9,10,11])]
abbrev fj(a:OA)(n c:Nat)(b:OA)(k d:Nat)(t:OA)(tn tc:Nat)(i:Nat):LV:=[(.slice a n c),(.slice b k d),(.slice t tn tc),(iA i)]
abbrev jG(a:OA)(n c:Nat)(b:OA)(k d:Nat)(t:OA)(tn tc i:Nat)(j:Nat)(cy:Int):LV:=[(.slice a n c),(.slice b k d),(.slice t tn tc),(iA i),(.int .i64 cy),(iA j)]
theorem Lu(l m:LB)(h:aa)(Q:VH)(hx:FW SS 194 [(strOf l)] h λv1 h2=>yB v1 λb3=>aF (!b3) (Q (.tuple ⟨[(strOf []),(.int .i64 1)]⟩) h2) (FW SS 194 [(strOf m)] h2 λv4 h5=>yB v4 λb6=>aF (!b6) (Q (.tuple ⟨[(strOf []),(.int .i64 1)]⟩) h5) (FW SS 196 [(strOf l)] h5 λv7 h8=>yL v7 λa9 n10 bW=>FW SS 196 [(strOf m)] h8 λv12 h13=>yL v12 λa14 n15 c16=>xR (bL SS.P 32 (.int .i64 (wrap .i64 (wrap .i64 ((n10:Int)+(n15:Int))+1))) (.int .i64 (wrap .i64 (wrap .i64 ((n10:Int)+(n15:Int))+1)))) h13 λB17 n18 c19 g20=>LL SS dC [1,1,1,1,0,1,0,0] (fj a9 n10 bW a14 n15 c16 (some ⟨h13.next,0,none⟩) n18 c19 0) g20 (KK SS dC [1,1,1,1,0,1,0] [] (EE SS dC Q))))):FW SS 179 [(strOf l),(strOf m)] h Q:=dM dC Tryz.func179 (au hx)
theorem tT(l m:LB)(a:OA)(n c:Nat)(b:OA)(k d:Nat)(t:OA)(tn tc:Nat)(Inv:Nat->Nat->aa->Prop)(Q:VH)(step:∀(mz:Nat) (i:Nat) (zz:Nat->Value) (h:aa),Inv mz i h->aF (decide (((i:Int):Int)<(n:Int))) (LL SS dC [1,1,1,1,0,1,0,0,1,0,0,1,1,0,0] (jG a n c b k d t tn tc i 0 0) h (KK SS dC [1,0,0,1,1,0] [1,1,1,1,0,1,0,0] (RR dC [1,1,1,1,0,1,0,0] (iR (fj a n c b k d t tn tc) Inv) mz (KK SS dC [1,1,1,1,0,1,0] [] (EE SS dC Q))))) (FW SS 199 [(.slice t tn tc)] h λv21 h22=>yS v21 λl23=>FW SS 198 [(strOf l23)] h22 λv24 h25=>∃l26:LB,∃n27:Int,v24=(.tuple ⟨[(strOf l26),(.int .i64 n27)]⟩)/\Q (.tuple ⟨[(strOf l26),(.int .i64 n27)]⟩) h25))(mz:Nat){i:Nat}{h:aa}(hi:Inv mz i h):LL SS dC [1,1,1,1,0,1,0,0] (fj a n c b k d t tn tc i) h (KK SS dC [1,1,1,1,0,1,0] [] (EE SS dC Q)):=
 dK (fj a n c b k d t tn tc) Inv (λmz i zz h hi=>au (step mz i zz h hi)) mz hi
theorem tU(l m:LB)(a:OA)(n c:Nat)(b:OA)(k d:Nat)(t:OA)(tn tc:Nat)(Inv:Nat->Nat->aa->Prop)(mz i:Nat)(Inv2:Nat->Nat->Int->aa->Prop)(Q:VH)(step:∀(mz2:Nat) (j:Nat) (cy:Int) (zz:Nat->Value) (h:aa),Inv2 mz2 j cy h->aF (decide (((j:Int):Int)<=(k:Int))) (xP (af SS.P 32 (.slice t tn tc) (.int .i64 (wrap .i64 ((i:Int)+(j:Int))))) λp28=>xI .i64 (ai SS.P 3 (room h 18) (.pointer (some p28))) λn29=>xP (af SS.P 32 (.slice a n c) (iA i)) λp30=>xI .i64 (ai SS.P 3 (room h 18) (.pointer (some p30))) λn31=>FW SS 197 [(.slice b k d),(iA j)] (room h 18) λv32 h33=>yI .i64 v32 λn34=>(ai SS.P 3 h33 (.pointer (some p28))=some (.int .i64 n29)/\mq 4 (.int .i64 n29) (.int .i64 n29)=true)/\(ai SS.P 3 h33 (.pointer (some p30))=some (.int .i64 n31)/\mq 4 (.int .i64 n31) (.int .i64 n31)=true)/\xI .i64 (ay SS.P .rem 3 (.int .i64 (wrap .i64 (wrap .i64 (n29+wrap .i64 (n31*n34))+cy))) (.int .i64 10)) λn35=>xP (af SS.P 32 (.slice t tn tc) (.int .i64 (wrap .i64 ((i:Int)+(j:Int))))) λp36=>xU (aw SS.P 3 (.pointer (some p36)) (.int .i64 n35) h33) h33 λu37 g38=>xI .i64 (ay SS.P .quo 3 (.int .i64 (wrap .i64 (wrap .i64 (n29+wrap .i64 (n31*n34))+cy))) (.int .i64 10)) λn39=>aH (re (jG a n c b k d t tn tc i) Inv2) mz2 [(.slice a n c),(.slice b k d),(.slice t tn tc),(iA i),(.int .i64 n39),(.int .i64 (wrap .i64 ((j:Int)+1)))] g38) (aH (iR (fj a n c b k d t tn tc) Inv) mz [(.slice a n c),(.slice b k d),(.slice t tn tc),(.int .i64 (wrap .i64 ((i:Int)+1)))] h))(mz2:Nat){j:Nat}{cy:Int}{h:aa}(hi:Inv2 mz2 j cy h):LL SS dC [1,1,1,1,0,1,0,0,1,0,0,1,1,0,0] (jG a n c b k d t tn tc i j cy) h (KK SS dC [1,0,0,1,1,0] [1,1,1,1,0,1,0,0] (RR dC [1,1,1,1,0,1,0,0] (iR (fj a n c b k d t tn tc) Inv) mz (KK SS dC [1,1,1,1,0,1,0] [] (EE SS dC Q)))):=
 ng (jG a n c b k d t tn tc i) Inv2 (λmz2 j cy zz h hi=>au (step mz2 j cy zz h hi)) mz2 hi
theorem rK(X:Nat)(h:aa):FW SS 198 [strOf (aj X)] h (λv h'=>v=lU X/\h'=h):=by
 refine AW _ h _ (ae (λh1=>?_) (λh1=>?_))
 ·have h1:=dT h1;refine⟨?_,rfl⟩;unfold lU;rw[if_pos (by omega)];rfl
 ·have h1:=dF h1;refine⟨?_,rfl⟩;unfold lU;rw[if_neg (by omega)];rfl
theorem Lp(a b:List UInt8){h:aa}(w:Wf h):FW SS 177 [strOf a,strOf b] h (λv h'=>v=wz a b/\Ok h h'):=by
 refine Lo a b h _ ((cU a h).mono ?_);rintro _ g0 ⟨rfl,e0⟩;obtain rfl:h=g0:=e0.symm;refine⟨_,rfl,ae (λg=>?_) (λg=>?_)⟩
 ·have g:Num.valid a=false:=by simpa using g
  refine⟨?_,Ok.refl w⟩;unfold wz;rw[if_neg (λe=>by rw[e.1]at g;cases g)]
 have g:Num.valid a=true:=by simpa using g
 refine(cU b h).mono ?_;rintro _ g0 ⟨rfl,e0⟩;obtain rfl:h=g0:=e0.symm;refine⟨_,rfl,ae (λg2=>?_) (λg2=>?_)⟩
 ·have g2:Num.valid b=false:=by simpa using g2
  refine⟨?_,Ok.refl w⟩;unfold wz;rw[if_neg (λe=>by rw[e.2]at g2;cases g2)]
 have g2:Num.valid b=true:=by simpa using g2
 have hS:wz a b = .int .i64 (dn (Num.val a) (Num.val b)):=by unfold wz;rw[if_pos ⟨g,g2⟩]
 rw[hS];obtain⟨m,rfl,hm,em⟩:=cP g;obtain⟨n,rfl,hn,en⟩:=cP g2;have lm:=eA hm;have ln:=eA hn;rw[em,en];refine(m4 m n (by omega) (by omega) h w).mono ?_;rintro _ g ⟨rfl,ok⟩;exact⟨_,rfl,rfl,ok⟩
theorem nc{a:List UInt8}(va:Num.valid a=true){h:aa}(w:Wf h):FW SS 196 [strOf a] h (gk h 3 ((dS a).map iv)):=by
 have da:=(fu.1 va)
 exact ob a da.1.2.1 (Nat.le_trans da.2 (by omega)) h w
theorem iM{a:List UInt8}(va:Num.valid a=true):∀d∈dS a,d<10:=jK (fu.1 va).1.2.1
theorem lB{a:List UInt8}(va:Num.valid a=true):(dS a).length<=1000:=by
 rw[iX];exact(fu.1 va).2
theorem AM{a b:List UInt8}(va:Num.valid a=true)(vb:Num.valid b=true)(h:Num.val b<=Num.val a):b.length<=a.length:=by
 obtain⟨m,rfl,_,em⟩:=cP va;obtain⟨n,rfl,_,en⟩:=cP vb;exact Nat.le_of_not_lt λg=>by have:=js g;omega
theorem Cd(a b:List UInt8){h:aa}(w:Wf h):FW SS 178 [strOf a,strOf b] h (λv h'=>v=w7 a b/\Ok h h'):=by
 refine Lw a b h _ ((cU a h).mono ?_);rintro _ g0 ⟨rfl,e0⟩;obtain rfl:h=g0:=e0.symm;refine⟨_,rfl,ae (λg=>?_) (λg=>?_)⟩
 ·have g:Num.valid a=false:=by simpa using g
  refine⟨?_,Ok.refl w⟩;unfold w7;rw[if_neg (λe=>by rw[e.1]at g;cases g)];rfl
 have g:Num.valid a=true:=by simpa using g
 refine(cU b h).mono ?_;rintro _ g0 ⟨rfl,e0⟩;obtain rfl:h=g0:=e0.symm;refine⟨_,rfl,ae (λg2=>?_) (λg2=>?_)⟩
 ·have g2:Num.valid b=false:=by simpa using g2
  refine⟨?_,Ok.refl w⟩;unfold w7;rw[if_neg (λe=>by rw[e.2]at g2;cases g2)];rfl
 have g2:Num.valid b=true:=by simpa using g2
 have hS:w7 a b=(if Num.val a<Num.val b then Ak [] 4 else Ak (aj (Num.val a-Num.val b)) 0):=by unfold w7;rw[if_pos ⟨g,g2⟩]
 rw[hS];have hc:FW SS 200 [strOf a,strOf b] h (λv h'=>v = .int .i64 (dn (Num.val a) (Num.val b))/\Ok h h'):=by
  obtain⟨m,rfl,hm,em⟩:=cP g;obtain⟨n,rfl,hn,en⟩:=cP g2;have lm:=eA hm;have ln:=eA hn;rw[em,en];exact m4 m n (by omega) (by omega) h w
 refine hc.mono ?_;rintro _ h1 ⟨rfl,ok1⟩;refine⟨_,rfl,ae (λh6=>?_) (λh6=>?_)⟩
 ·have h6:=dT h6;rw[if_pos (Ja h6)];exact⟨rfl,ok1⟩
 have h6:=dF h6;have hle:=I9 h6;rw[if_neg (Nat.not_lt.2 hle)];refine(nc g ok1.wf).mono ?_;rintro _ h2 ⟨a2,n2,c2,rfl,o2,ok2⟩;refine⟨_,_,_,rfl,(nc g2 ok2.wf).mono ?_⟩;rintro _ h3 ⟨a3,n3,c3,rfl,o3,ok3⟩;refine⟨_,_,_,rfl,(zG (o2.rd.ok ok3) o3.rd (iM g) (iM g2) (Nat.le_trans (lB g) (by omega)) ok3.wf).mono ?_⟩;rintro _ h4 ⟨a4,n4,c4,rfl,o4,ok4⟩;refine⟨_,_,_,rfl,(oc o4.rd (A9 (iM g) (iM g2) _ _ _ (by omega)) (by rw[dx];exact Nat.le_trans (lB g) (by omega)) ok4.wf).mono ?_⟩;rintro _ h5 ⟨rfl,ok5⟩;refine⟨_,rfl,?_,(((ok1.trans ok2).trans ok3).trans ok4).trans ok5⟩;rw[A8 (iM g) (iM g2) (by rw[iX,iX];exact AM g g2 hle) (by rw[eE,eE];exact hle),eE,eE];rfl
theorem Ou{d:Nat}:ay SS.P .rem 3 (.int .i64 (d:Int)) (.int .i64 10)=some (.int .i64 ((d%10:Nat):Int)):=by
 rw[show(10:Int)=((10:Nat):Int)from rfl,eW (by omega) (by decide),natCast_emod]
theorem Oa{d:Nat}(h:d<1000000):ay SS.P .quo 3 (.int .i64 (d:Int)) (.int .i64 10)=some (.int .i64 ((d/10:Nat):Int)):=by
 have h2:(d:Int).tdiv 10=((d/10:Nat):Int):=by
  rw[Int.tdiv_eq_ediv_of_nonneg (by omega)];rfl
 rw[CL SS.P 3 .i64 _ _ (by omega),h2,aA (by omega) (by omega)]
theorem K5{p q c:Nat}(hp:p<10)(hq:q<10)(hc:c<=1):(aC 10 p q c).2<=1:=by
 show(p+q+c)/10<=1;omega
theorem Ln(a b:List UInt8){h:aa}(w:Wf h):FW SS 176 [strOf a,strOf b] h (λv h'=>v=wy a b/\Ok h h'):=by
 refine Lm a b h _ ((cU a h).mono ?_);rintro _ g0 ⟨rfl,e0⟩;obtain rfl:h=g0:=e0.symm;refine⟨_,rfl,ae (λg=>?_) (λg=>?_)⟩
 ·have g:Num.valid a=false:=by simpa using g
  refine⟨?_,Ok.refl w⟩;unfold wy;rw[if_neg (λe=>by rw[e.1]at g;cases g)];rfl
 have g:Num.valid a=true:=by simpa using g
 refine(cU b h).mono ?_;rintro _ g0 ⟨rfl,e0⟩;obtain rfl:h=g0:=e0.symm;refine⟨_,rfl,ae (λg2=>?_) (λg2=>?_)⟩
 ·have g2:Num.valid b=false:=by simpa using g2
  refine⟨?_,Ok.refl w⟩;unfold wy;rw[if_neg (λe=>by rw[e.2]at g2;cases g2)];rfl
 have g2:Num.valid b=true:=by simpa using g2
 have hS:wy a b=lU (Num.val a+Num.val b):=by unfold wy;rw[if_pos ⟨g,g2⟩]
 rw[hS];refine(nc g w).mono ?_;rintro _ h2 ⟨a2,n2,c2,rfl,o2,ok2⟩;refine⟨_,_,_,rfl,(nc g2 ok2.wf).mono ?_⟩;rintro _ h3 ⟨a3,n3,c3,rfl,o3,ok3⟩;refine⟨_,_,_,rfl,?_⟩;have r1:=o2.rd.ok ok3;have r2:=o3.rd;have ok:=ok2.trans ok3;have w3:=ok3.wf;have hn1:n2=(dS a).length:=by have:=r1.len;rwa[lM]at this
 have hn2:n3=(dS b).length:=by have:=r2.len;rwa[lM]at this
 have l1:=lB g;have l2:=lB g2;have hx:=iM g;have hy:=iM g2;have e1:=eE a;have e2:=eE b;generalize dS a=x at*;generalize dS b=y at*;have hcr:∀j,dq (aC 10) x y 0 0 j<=1:=by
  intro j
  induction j with
  |zero=>exact zero_le _
  |succ j ih=>exact K5 (aG (by decide) hx _) (aG (by decide) hy _) ih
 have hbv:=uj (b:=10) (by decide) hx hy (max x.length y.length+1) 0 0 (by omega) (by omega) (by omega) (by omega);rw[drop_zero,drop_zero,e1,e2,add_zero]at hbv;rw[<-hn1,<-hn2]at hbv;have hmx1:=le_max_left n2 n3;have hmx2:=le_max_right n2 n3;have hmx3:max n2 n3<=1000:=max_le.2 ⟨by omega,by omega⟩;have hmx4:n2=max n2 n3\/n3=max n2 n3:=by omega
 generalize max n2 n3=N at*;refine tO a b a2 n2 c2 a3 n3 c3 (λmz i cy r rn rc g=>i<=N+1/\mz=N+1-i/\cy=(dq (aC 10) x y 0 0 i:Nat)/\cZ h3 g 3 (.slice r rn rc) ((aL (aC 10) x y 0 i 0).map iv)/\Ok h3 g) (λv h'=>v=lU (Num.val a+Num.val b)/\Ok h h') (by
  intro mz i cy r rn rc;intros;rename_i gg hi;obtain⟨f1,f2,rfl,ho,okg⟩:=hi;have hw3:wrap .i64 ((i:Int)+1)=((i+1:Nat):Int):=by rw[aA (by omega) (by omega)];omega
  rw[hw3];have hel:(aL (aC 10) x y 0 i 0).length=i:=dx _ _ _ _ _ _;have hsn:=fD (aC 10) x y i 0 0;rw[zero_add]at hsn;have hcr1:dq (aC 10) x y 0 0 (i+1)=(aC 10 (x.getD i 0) (y.getD i 0) (dq (aC 10) x y 0 0 i)).2:=by
   show(aC 10 (x.getD (0+i) 0) (y.getD (0+i) 0) _).2=_;rw[zero_add]
  have hci:=hcr i;have hp:=aG (by omega) hx i;have hq:=aG (by omega) hy i;generalize dq (aC 10) x y 0 0 i=ci at*;have hstep:∀hg:i<N+1,FW SS 197 [(.slice a2 n2 c2),(.int .i64 (i:Int))] gg (λv h'=>v = .int .i64 (x.getD i 0:Nat)/\h'=gg)/\FW SS 197 [(.slice a3 n3 c3),(.int .i64 (i:Int))] gg (λv h'=>v = .int .i64 (y.getD i 0:Nat)/\h'=gg):=λ_=>⟨pV (r1.ok okg) i,pV (r2.ok okg) i⟩
  have hw1:wrap .i64 (((x.getD i 0:Nat):Int)+((y.getD i 0:Nat):Int))=((x.getD i 0+y.getD i 0:Nat):Int):=by rw[aA (by omega) (by omega)];omega
  have hw2:wrap .i64 (((x.getD i 0+y.getD i 0:Nat):Int)+(ci:Int))=((x.getD i 0+y.getD i 0+ci:Nat):Int):=by rw[aA (by omega) (by omega)];omega
  refine ae (λh5=>?_) (λh5=>ae (λh6=>?_) (λh6=>?_))
  ·have h5:=dT h5;obtain⟨s1,s2⟩:=hstep (by omega);refine s1.mono ?_;rintro _ _ ⟨rfl,rfl⟩;refine⟨_,rfl,s2.mono ?_⟩;rintro _ _ ⟨rfl,rfl⟩;rename_i gg;refine⟨_,rfl,?_⟩;dsimp only;rw[hw1,hw2];obtain⟨b',m',d',u,g6,g7,g8,g9⟩:=zS w3 okg ho (((x.getD i 0+y.getD i 0+ci)%10:Nat):Int) (by rw[lM,hel];omega);refine⟨_,Ou,_,_,_,yj _,b',m',d',u,g6,_,Oa (by omega),jw (mz-1) (by omega) ⟨by omega,by omega,by rw[hcr1];rfl,?_,g9⟩⟩;rw[hsn,map_append];exact g8
  ·have h6:=dT h6;obtain⟨s1,s2⟩:=hstep (by omega);refine s1.mono ?_;rintro _ _ ⟨rfl,rfl⟩;refine⟨_,rfl,s2.mono ?_⟩;rintro _ _ ⟨rfl,rfl⟩;rename_i gg;refine⟨_,rfl,?_⟩;dsimp only;rw[hw1,hw2];obtain⟨b',m',d',u,g6,g7,g8,g9⟩:=zS w3 okg ho (((x.getD i 0+y.getD i 0+ci)%10:Nat):Int) (by rw[lM,hel];omega);refine⟨_,Ou,_,_,_,yj _,b',m',d',u,g6,_,Oa (by omega),jw (mz-1) (by omega) ⟨by omega,by omega,by rw[hcr1];rfl,?_,g9⟩⟩;rw[hsn,map_append];exact g8
  ·have h5:=dF h5;have h6:=dF h6;obtain rfl:i=N+1:=by omega
   refine(oc ho.rd (gQ (λp q c=>mod_lt _ (by decide)) _ _ _ 0 0) (by rw[hel];omega) okg.wf).mono ?_;rintro _ h4 ⟨rfl,ok4⟩;refine⟨_,rfl,?_⟩;rw[hbv];refine(rK _ h4).mono ?_;rintro _ _ ⟨rfl,rfl⟩;exact xC (K:=λv=>v=lU (Num.val a+Num.val b)/\Ok h _) (tr _) ⟨rfl,(ok.trans okg).trans ok4⟩)
  (N+1) (i:=0) ⟨by omega,by omega,rfl,.inl ⟨rfl,rfl⟩,Ok.refl w3⟩
end Go.Proofs.YtaheifbogkjpdaaGreatDoor
end
