/- Laws and walks that the proof leans on (part 4): P3; W3; P4; W4; P5; NumTop and others. No condition. -/
import Derived.Test.YtoabjjimjldcfaaGreatDoorPart3
section
set_option linter.unusedVariables false
set_option maxRecDepth 100000
namespace Go.Proofs.YtoabjjimjldcfaaGreatDoor
open Go Go.Ab
theorem Li {h:Heap}{v:Value}{l:List UInt8}(r:Rd h 5 v(l.map nT)):xw SS.P 157 9 v h=some(aa l):=SX xp Sj YV r
theorem Cq {x:List Nat}{z i:Nat}(hi:i < z)(hz:z<=x.length):((x.take z).drop i).reverse=((x.take z).drop(i + 1)).reverse ++ [x.getD i 0]:=by
 have hl:i < (x.take z).length:=by rw [List.length_take]; omega
 rw [List.drop_eq_getElem_cons hl,List.reverse_cons,List.getElem_take,List.getD_eq_getElem?_getD,List.getElem?_eq_getElem(by omega)]; rfl
theorem nv {h:Heap}{a:Option Addr}{n c:Nat}{x:List Nat}(ra:Rd h 3(.slice a n c)(x.map iv))(hx:∀ d∈x,d < 10)(hlen:x.length<=100000)(w:Wf h) :
  FW SS 154 [.slice a n c] h(fun v h'=>v=aa(Num.toDec(Num.bv 10 x))/\Ok h h'):=by
 have hn:n=x.length:=by have:=ra.len; rwa [List.length_map] at this
 have L2:=fun(zN:Nat)(hz:zN<=x.length)(hz1:0 < x.length->0 < zN)(hf:0 < x.length->Num.txt(x.take zN)=Num.toDec(Num.bv 10 x))=>sh a n c(fun mz i r rn rc g=>-1<=i/\i < (zN:Int)/\mz=(i + 1).toNat/\OwnR h g 5(.slice r rn rc)((((x.take zN).drop(i + 1).toNat).reverse.map Num.dig).map nT)/\Ok h g)(fun v h'=>v=aa(Num.toDec(Num.bv 10 x))/\Ok h h')(by
  intro mz i r rn rc; intros; rename_i g hi
  obtain⟨h1,h2,h3,h4,ok⟩:=hi
  refine ae(fun h5=>?_)(fun h5=>?_)
  · have h5:=of_decide_eq_true h5
   obtain⟨p,g2,g3⟩:=(ra.ok ok).at_ mA Sm Ld Ko(k:= .i64)(i:=i)h5(by rw [List.length_map]; omega)
   rw [pG x i.toNat(by omega)] at g3
   refine⟨p,g2,_,g3,_,_,_,TV _,?_⟩
   have hd:=Num.getD_lt(by omega)hx i.toNat
   obtain⟨b,m,d,u,g6,g7,g8,g9⟩:=KN w ok h4(IntKind.wrap .u8(IntKind.wrap .i64(48 + ((x.getD i.toNat 0:Nat):Int))))(by simp; omega)
   refine⟨b,m,d,u,g6,?_⟩
   have hw:IntKind.wrap .i64(i - 1)=i - 1:=ap(by omega)(by omega)
   refine ri(mz - 1)(by omega) ?_
   rw [hw]
   refine⟨by omega,by omega,by omega,?_,g9⟩
   rw [show(i - 1 + 1).toNat=i.toNat by omega,Cq(by omega)hz,List.map_append,List.map_append]
   rw [show(i + 1).toNat=i.toNat + 1 by omega] at g8
   have e1:nT(Num.dig(x.getD i.toNat 0)) = .int .u8(IntKind.wrap .u8(IntKind.wrap .i64(48 + ((x.getD i.toNat 0:Nat):Int)))):=by
    unfold nT
    rw [Num.toNat_dig hd,ap(by omega)(by omega),nq(by omega)(by omega)]
    first | rfl | (congr 1; omega)
   show OwnR h _ 5 _(_ ++ [nT(Num.dig(x.getD i.toNat 0))])
   rw [e1]
   exact g8
  · have h5:=of_decide_eq_false h5
   obtain rfl:i = -1:=by omega
   have e0:((-1:Int) + 1).toNat=0:=rfl
   rw [e0,List.drop_zero] at h4
   have hrn:=h4.len
   simp af [List.length_map,List.length_reverse,List.length_take] at hrn
   refine ae(fun h6=>?_)(fun h6=>?_)
   · have h6:(rn:Int)=0:=by simpa using h6
    have hx0:x=[]:=by
     rcases Nat.eq_zero_or_pos x.length with e | e
     · exact List.eq_nil_of_length_eq_zero e
     · have:=hz1 e; omega
    subst hx0
    exact⟨by rw [show Num.bv 10 []=0 from rfl,Num.toDec_zero],ok⟩
   · have h6 : ¬ (rn:Int)=0:=by simpa using h6
    have hx0:0 < x.length:=by omega
    have:=Li h4.rd
    rw [show((x.take zN).reverse.map Num.dig)=Num.txt(x.take zN) from rfl,hf hx0] at this
    exact⟨_,this,rfl,ok⟩)
 have start2:∀ (zN:Nat),OwnR h h 5(.slice none 0 0)((((x.take zN).drop((zN:Int) - 1 + 1).toNat).reverse.map Num.dig).map nT):=fun zN=>by
  rw [show((zN:Int) - 1 + 1).toNat=zN by omega,List.drop_of_length_le(by rw [List.length_take]; omega)]
  exact .inl⟨rfl,rfl⟩
 have L1:=rF a n c(fun mz z g=>0<=z/\z<=x.length/\mz=z.toNat/\(0 < x.length->0 < z)/\(∀ j:Nat,z<=j->x.getD j 0=0)/\g=h)(fun v h'=>v=aa(Num.toDec(Num.bv 10 x))/\Ok h h')(by
  intro mz z; intros; rename_i g hi
  obtain⟨h1,h2,h3,h4,h5,rfl⟩:=hi
  obtain⟨zN,rfl⟩: ∃ zN:Nat,z=zN :=⟨z.toNat,by omega⟩
  have hw:IntKind.wrap .i64((zN:Int) - 1)=(zN:Int) - 1:=ap(by omega)(by omega)
  have leave:(1 < zN->x.getD(zN - 1)0≠0)->0 < x.length->Num.txt(x.take zN)=Num.toDec(Num.bv 10 x):=fun hl hp=>by
   rw [<- Num.bv_take_zero(l:=x)(n:=zN)(fun j hj=>h5 j(by omega))]
   refine Num.txt_dec(fun d hd=>hx d(List.mem_of_mem_take hd))(fun e=>?_)(fun h7=>?_)
   · have:=congrArg List.length e
    rw [List.length_take] at this
    have h9:min zN x.length=0:=this
    have:=h4 hp
    omega
   · rw [List.length_take] at h7
    have h8:=hl(by omega)
    rw [List.getLast?_eq_getElem?,List.length_take,List.getElem?_take,if_pos(by omega)]
    rw [List.getD_eq_getElem?_getD,List.getElem?_eq_getElem(by omega)] at h8
    rw [show min zN x.length - 1=zN - 1 by omega,List.getElem?_eq_getElem(by omega)]
    simpa using h8
  refine ae(fun h6=>?_)(fun h6=>?_)
  · have h6:=of_decide_eq_true h6
   rw [hw]
   obtain⟨p,g2,g3⟩:=ra.at_ mA Sm Ld Ko(k:= .i64)(i:=(zN:Int) - 1)(by omega)(by rw [List.length_map]; omega)
   rw [pG x _(by omega),show((zN:Int) - 1).toNat=zN - 1 by omega] at g3
   refine⟨p,g2,_,g3,ae(fun h7=>?_)(fun h7=>?_)⟩
   · have h7:((x.getD(zN - 1)0:Nat):Int)=0:=by simpa using h7
    refine rj(mz - 1)(by omega)⟨by omega,by omega,by omega,fun _=>by omega,fun j hj=>?_,rfl⟩
    rcases Nat.lt_or_ge j zN with h8 | h8
    · obtain rfl:j=zN - 1:=by omega
     omega
    · exact h5 j(by omega)
   · have h7 : ¬ ((x.getD(zN - 1)0:Nat):Int)=0:=by simpa using h7
    exact L2 zN(by omega)(fun hp=>by have:=h4 hp; omega)(leave fun _=>by omega)zN⟨by omega,by omega,by omega,start2 zN,Ok.refl w⟩
  · have h6:=of_decide_eq_false h6
   rw [hw]
   exact L2 zN(by omega)(fun hp=>by have:=h4 hp; omega)(leave fun hh=>by omega)zN⟨by omega,by omega,by omega,start2 zN,Ok.refl w⟩)
 refine Kc a n c h _(L1 n(z:=(n:Int))⟨by omega,by omega,by omega,fun hp=>by omega,fun j hj=>?_,rfl⟩)
 rw [List.getD_eq_getElem?_getD,List.getElem?_eq_none(by omega)]; rfl
end Go.Proofs.YtoabjjimjldcfaaGreatDoor
end
section
set_option linter.unusedVariables false
set_option maxRecDepth 100000
namespace Go.Proofs.YtoabjjimjldcfaaGreatDoor
open Go Go.Ab
noncomputable def dM:Code:=(Tryz.f150.body).getD .skip
noncomputable def jX(Q:VH):ak:=cF SS Tryz.f150.results.toList Q
def mf:List Nat:=[0,1,7,8,9,10,11]
noncomputable def jw(p:List Nat)(w:LV)(h:Heap)(Q:ak):Prop:=bq SS Tryz.f150.ntmps mf(aQ p dM)w h Q
noncomputable def eG(p b:List Nat)(K:ak):ak:=ko SS Tryz.f150.ntmps mf p(aQ b dM)K
abbrev Qf(a b:LB)(h:Heap)(Q:VH):Prop:=FW SS 149 [(aa a)] h fun v1 h2=>yB v1 fun b3=>ax(!b3)(Q(.tuple⟨[(aa []),(aa []),(.int .i64 1)]⟩)h2)(FW SS 149 [(aa b)] h2 fun v4 h5=>yB v4 fun b6=>ax(!b6)(Q(.tuple⟨[(aa []),(aa []),(.int .i64 1)]⟩)h5)(ax((b:LB) == [48])(Q(.tuple⟨[(aa []),(aa []),(.int .i64 4)]⟩)h5)(jw [1,1,1,1,1,0,1,0,0] [(aa a),(aa b),nA,(aa [48]),(.int .i64 0),undef,undef] h5(eG [1,1,1,1,1,0,1,0] [] (jX Q)))))
theorem Mq(a b:LB)(h:Heap)(Q:VH)(hx:Qf a b h Q):FW SS 150 [(aa a),(aa b)] h Q:=ay(M:=mf)(c:=dM)Tryz.func150(show Tryz.f150.body=some dM by kernel_rfl)(by kernel_rfl)(aj hx(by kernel_rfl))
abbrev js(a b:LB)  (k:Nat)(r:LB)(q:OA)(qn:Nat)(qc:Nat)(y10 y11:Value):LV:=[(aa a),(aa b),(.slice q qn qc),(aa r),(iA k),y10,y11]
def cQ(a b:LB)  (Inv:Nat->Nat->LB->OA->Nat->Nat->Heap->Prop)(mz:Nat)(w:LV)(h:Heap):Prop:= ∃ (k:Nat)(r:LB)(q:OA)(qn:Nat)(qc:Nat)(y10 y11:Value),w=(js a b k r q qn qc y10 y11)/\Inv mz k r q qn qc h
abbrev BG(a b:LB)  (Inv:Nat->Nat->LB->OA->Nat->Nat->Heap->Prop)(Q:VH)(mz:Nat)(k:Nat)(r:LB)(q:OA)(qn:Nat)(qc:Nat)(y10 y11:Value)(zz:Nat->Value)(h:Heap):Prop:=ax(decide(((k:Int):Int) < ((a:LB).length:Int)))(ax((r:LB) == [48])(xS(aM SS.P 9(aa a)(some(iA k))(some(.int .i64(IntKind.wrap .i64((k:Int) + 1))))none h)fun l7=>jw [1,1,1,1,1,0,1,0,0,1,0,0,1,1,0,0,0] [(aa a),(aa b),(.slice q qn qc),(aa l7),(iA k),(.int .u8 48),y11] h(eG [1,0,0,1,1,0,0] [1,1,1,1,1,0,1,0,0] (aU mf(cQ a b Inv)mz(eG [1,1,1,1,1,0,1,0] [] (jX Q)))))(xS(aM SS.P 9(aa a)(some(iA k))(some(.int .i64(IntKind.wrap .i64((k:Int) + 1))))none h)fun l8=>xS(an SS.P .add 9(aa r)(aa l8))fun l9=>jw [1,1,1,1,1,0,1,0,0,1,0,0,1,1,0,0,0] [(aa a),(aa b),(.slice q qn qc),(aa l9),(iA k),(.int .u8 48),y11] h(eG [1,0,0,1,1,0,0] [1,1,1,1,1,0,1,0,0] (aU mf(cQ a b Inv)mz(eG [1,1,1,1,1,0,1,0] [] (jX Q))))))(jw [1,1,1,1,1,1,1,0,0,0] [(aa a),(aa b),(.slice q qn qc),(aa r),(iA k),y10,(.int .i64 0)] h(eG [1,1,1,1,1,1,1,0,0] [] (jX Q)))
theorem t8 {a b:LB}  {Inv:Nat->Nat->LB->OA->Nat->Nat->Heap->Prop}{mz:Nat}(mq:Nat){k:Nat}{r:LB}{q:OA}{qn:Nat}{qc:Nat}{y10 y11:Value}{h:Heap}(hm:mq < mz)(hi:Inv mq k r q qn qc h):al(cQ a b Inv)mz(js a b k r q qn qc y10 y11)h :=⟨mq,hm,k,r,q,qn,qc,y10,y11,rfl,hi⟩
theorem sZ(a b:LB)  (Inv:Nat->Nat->LB->OA->Nat->Nat->Heap->Prop)(Q:VH)(step:∀ (mz:Nat)(k:Nat)(r:LB)(q:OA)(qn:Nat)(qc:Nat)(y10 y11:Value)(zz:Nat->Value)(h:Heap),Inv mz k r q qn qc h->BG a b Inv Q mz k r q qn qc y10 y11 zz h)(mz:Nat){k:Nat}{r:LB}{q:OA}{qn:Nat}{qc:Nat}{y10 y11:Value}{h:Heap}(hi:Inv mz k r q qn qc h):jw [1,1,1,1,1,0,1,0,0] (js a b k r q qn qc y10 y11)h(eG [1,1,1,1,1,0,1,0] [] (jX Q)):=
 aq(A:=(cQ a b Inv))(show aG Tryz.f150.ntmps(aQ [1,1,1,1,1,0,1,0,0] dM)=true by kernel_rfl)(fun mz w zz h⟨k,r,q,qn,qc,y10,y11,hw,hi⟩=> by subst hw; exact aj(step mz k r q qn qc y10 y11 zz h hi)(by kernel_rfl))mz _ h⟨k,r,q,qn,qc,y10,y11,rfl,hi⟩(fun zz=>by kernel_rfl)(by kernel_rfl)
abbrev jY(a b:LB)(k:Nat)(q:OA)(qn qc:Nat)(r:LB)(d:Int)(y11:Value):LV:=[(aa a),(aa b),(.slice q qn qc),(aa r),(iA k),(.int .u8 d),y11]
def j0(a b:LB)(k:Nat)(q:OA)(qn qc:Nat)(Inv2:Nat->LB->Int->Heap->Prop)(mz2:Nat)(w:LV)(h:Heap):Prop:= ∃ (r:LB)(d:Int)(y11:Value),w=(jY a b k q qn qc r d y11)/\Inv2 mz2 r d h
abbrev zy(a b:LB)(Inv:Nat->Nat->LB->OA->Nat->Nat->Heap->Prop)(mz k:Nat)(q:OA)(qn qc:Nat)(Inv2:Nat->LB->Int->Heap->Prop)(Q:VH)(mz2:Nat)(r:LB)(d:Int)(y11:Value)(zz:Nat->Value)(h:Heap):Prop:=FW SS 155 [(aa r),(aa b)] h fun v10 h11=>yI .i64 v10 fun n12=>ax(decide((n12:Int)>=0))(FW SS 151 [(aa r)] h11 fun v13 h14=>yL v13 fun a15 n16 c17=>FW SS 151 [(aa b)] h14 fun v18 h19=>yL v18 fun a20 n21 c22=>FW SS 156 [(.slice a15 n16 c17),(.slice a20 n21 c22)] h19 fun v23 h24=>yL v23 fun a25 n26 c27=>FW SS 154 [(.slice a25 n26 c27)] h24 fun v28 h29=>yS v28 fun l30=>al(j0 a b k q qn qc Inv2)mz2 [(aa a),(aa b),(.slice q qn qc),(aa l30),(iA k),(.int .u8(IntKind.wrap .u8(d + 1))),y11] h29)(xR(az SS.P 157 1 [(0,(.int .u8 d))])h11 fun B31 n32 c33 g34=>xE(aC SS.P 157 157(.slice q qn qc)(sA(h11.next)n32 c33)g34)g34 fun a35 n36 c37 u38 g39=>al(cQ a b Inv)mz [(aa a),(aa b),(.slice a35 n36 c37),(aa r),(.int .i64(IntKind.wrap .i64((k:Int) + 1))),(.int .u8 d),y11] g39)
theorem tB {a b:LB}{k:Nat}{q:OA}{qn qc:Nat}{Inv2:Nat->LB->Int->Heap->Prop}{mz2:Nat}(mq:Nat){r:LB}{d:Int}{y11:Value}{h:Heap}(hm:mq < mz2)(hi:Inv2 mq r d h):al(j0 a b k q qn qc Inv2)mz2(jY a b k q qn qc r d y11)h :=⟨mq,hm,r,d,y11,rfl,hi⟩
theorem tX(a b:LB)(Inv:Nat->Nat->LB->OA->Nat->Nat->Heap->Prop)(mz k:Nat)(q:OA)(qn qc:Nat)(Inv2:Nat->LB->Int->Heap->Prop)(Q:VH)(step:∀ (mz2:Nat)(r:LB)(d:Int)(y11:Value)(zz:Nat->Value)(h:Heap),Inv2 mz2 r d h->zy a b Inv mz k q qn qc Inv2 Q mz2 r d y11 zz h)(mz2:Nat){r:LB}{d:Int}{y11:Value}{h:Heap}(hi:Inv2 mz2 r d h):jw [1,1,1,1,1,0,1,0,0,1,0,0,1,1,0,0,0] (jY a b k q qn qc r d y11)h(eG [1,0,0,1,1,0,0] [1,1,1,1,1,0,1,0,0] (aU mf(cQ a b Inv)mz(eG [1,1,1,1,1,0,1,0] [] (jX Q)))):=
 aq(A:=(j0 a b k q qn qc Inv2))(show aG Tryz.f150.ntmps(aQ [1,1,1,1,1,0,1,0,0,1,0,0,1,1,0,0,0] dM)=true by kernel_rfl)(fun mz2 w zz h⟨r,d,y11,hw,hi⟩=> by subst hw; exact aj(step mz2 r d y11 zz h hi)(by kernel_rfl))mz2 _ h⟨r,d,y11,rfl,hi⟩(fun zz=>by kernel_rfl)(by kernel_rfl)
abbrev jB(a b:LB)(r:LB)(q:OA)(qn qc:Nat)(z:Nat)(y9 y10:Value):LV:=[(aa a),(aa b),(.slice q qn qc),(aa r),y9,y10,(iA z)]
def i6(a b:LB)(r:LB)(q:OA)(qn qc:Nat)(Inv:Nat->Nat->Heap->Prop)(mz:Nat)(w:LV)(h:Heap):Prop:= ∃ (z:Nat)(y9 y10:Value),w=(jB a b r q qn qc z y9 y10)/\Inv mz z h
abbrev oS(a b:LB)(r:LB)(q:OA)(qn qc:Nat)(Inv:Nat->Nat->Heap->Prop)(Q:VH)(mz:Nat)(z:Nat)(y9 y10:Value)(zz:Nat->Value)(h:Heap):Prop:=ax(decide(((z:Int):Int) < IntKind.wrap .i64((qn:Int) - 1)))(xP(ag SS.P 157(.slice q qn qc)(iA z))fun p40=>xI .u8(ai SS.P 5 h(.pointer(some p40)))fun n41=>ax(((n41:Int) == 48))(al(i6 a b r q qn qc Inv)mz [(aa a),(aa b),(.slice q qn qc),(aa r),y9,y10,(.int .i64(IntKind.wrap .i64((z:Int) + 1)))] h)(xL(aM SS.P 157(.slice q qn qc)(some(iA z))none none h)fun a42 n43 c44=>xS(xw SS.P 157 9(.slice a42 n43 c44)h)fun l45=>Q(.tuple⟨[(aa l45),(aa r),(.int .i64 0)]⟩)h))(xL(aM SS.P 157(.slice q qn qc)(some(iA z))none none h)fun a46 n47 c48=>xS(xw SS.P 157 9(.slice a46 n47 c48)h)fun l49=>Q(.tuple⟨[(aa l49),(aa r),(.int .i64 0)]⟩)h)
theorem up {a b:LB}{r:LB}{q:OA}{qn qc:Nat}{Inv:Nat->Nat->Heap->Prop}{mz:Nat}(mq:Nat){z:Nat}{y9 y10:Value}{h:Heap}(hm:mq < mz)(hi:Inv mq z h):al(i6 a b r q qn qc Inv)mz(jB a b r q qn qc z y9 y10)h :=⟨mq,hm,z,y9,y10,rfl,hi⟩
theorem uu(a b:LB)(r:LB)(q:OA)(qn qc:Nat)(Inv:Nat->Nat->Heap->Prop)(Q:VH)(step:∀ (mz:Nat)(z:Nat)(y9 y10:Value)(zz:Nat->Value)(h:Heap),Inv mz z h->oS a b r q qn qc Inv Q mz z y9 y10 zz h)(mz:Nat){z:Nat}{y9 y10:Value}{h:Heap}(hi:Inv mz z h):jw [1,1,1,1,1,1,1,0,0,0] (jB a b r q qn qc z y9 y10)h(eG [1,1,1,1,1,1,1,0,0] [] (jX Q)):=
 aq(A:=(i6 a b r q qn qc Inv))(show aG Tryz.f150.ntmps(aQ [1,1,1,1,1,1,1,0,0,0] dM)=true by kernel_rfl)(fun mz w zz h⟨z,y9,y10,hw,hi⟩=> by subst hw; exact aj(step mz z y9 y10 zz h hi)(by kernel_rfl))mz _ h⟨z,y9,y10,rfl,hi⟩(fun zz=>by kernel_rfl)(by kernel_rfl)
noncomputable def ii:Code:=(Tryz.f128.body).getD .skip
noncomputable def Id(Q:VH):ak:=cF SS Tryz.f128.results.toList Q
def zU:List Nat:=[0,1]
noncomputable def GI(p:List Nat)(w:LV)(h:Heap)(Q:ak):Prop:=bq SS Tryz.f128.ntmps zU(aQ p ii)w h Q
noncomputable def HS(p b:List Nat)(K:ak):ak:=ko SS Tryz.f128.ntmps zU p(aQ b ii)K
abbrev Qb(a b:LB)(h:Heap)(Q:VH):Prop:=FW SS 149 [(aa a)] h fun v1 h2=>yB v1 fun b3=>ax(!b3)(Q(.tuple⟨[(aa []),(.int .i64 1)]⟩)h2)(FW SS 149 [(aa b)] h2 fun v4 h5=>yB v4 fun b6=>ax(!b6)(Q(.tuple⟨[(aa []),(.int .i64 1)]⟩)h5)(GI [1,1,0,0,0] [(aa a),(aa b)] h5(HS [1,1,0,0] [] (Id Q))))
theorem Mr(a b:LB)(h:Heap)(Q:VH)(hx:Qb a b h Q):FW SS 128 [(aa a),(aa b)] h Q:=ay(M:=zU)(c:=ii)Tryz.func128(show Tryz.f128.body=some ii by kernel_rfl)(by kernel_rfl)(aj hx(by kernel_rfl))
abbrev jE(a b:LB)  (x:LB)(y:LB)  : LV:=[(aa x),(aa y)]
def jk(a b:LB)  (Inv:Nat->LB->LB->Heap->Prop)(mz:Nat)(w:LV)(h:Heap):Prop:= ∃ (x:LB)(y:LB) ,w=(jE a b x y )/\Inv mz x y h
abbrev AI(a b:LB)  (Inv:Nat->LB->LB->Heap->Prop)(Q:VH)(mz:Nat)(x:LB)(y:LB)  (zz:Nat->Value)(h:Heap):Prop:=ax(!((y:LB) == [48]))(FW SS 150 [(aa x),(aa y)] h fun v7 h8=>∃ l9:LB,∃ l10:LB,∃ n11:Int,v7=(.tuple⟨[(aa l9),(aa l10),(.int .i64 n11)]⟩)/\al(jk a b Inv)mz [(aa y),(aa l10)] h8)(Q(.tuple⟨[(aa x),(.int .i64 0)]⟩)h)
theorem ue {a b:LB}  {Inv:Nat->LB->LB->Heap->Prop}{mz:Nat}(mq:Nat){x:LB}{y:LB}  {h:Heap}(hm:mq < mz)(hi:Inv mq x y h):al(jk a b Inv)mz(jE a b x y )h :=⟨mq,hm,x,y,rfl,hi⟩
theorem sE(a b:LB)  (Inv:Nat->LB->LB->Heap->Prop)(Q:VH)(step:∀ (mz:Nat)(x:LB)(y:LB)  (zz:Nat->Value)(h:Heap),Inv mz x y h->AI a b Inv Q mz x y  zz h)(mz:Nat){x:LB}{y:LB}  {h:Heap}(hi:Inv mz x y h):GI [1,1,0,0,0] (jE a b x y )h(HS [1,1,0,0] [] (Id Q)):=
 aq(A:=(jk a b Inv))(show aG Tryz.f128.ntmps(aQ [1,1,0,0,0] ii)=true by kernel_rfl)(fun mz w zz h⟨x,y,hw,hi⟩=> by subst hw; exact aj(step mz x y  zz h hi)(by kernel_rfl))mz _ h⟨x,y,rfl,hi⟩(fun zz=>by kernel_rfl)(by kernel_rfl)
end Go.Proofs.YtoabjjimjldcfaaGreatDoor
end
section
set_option linter.unusedVariables false
set_option maxRecDepth 100000
namespace Go.Proofs.YtoabjjimjldcfaaGreatDoor
open Go Go.Ab
theorem Q6(l:List UInt8){h:Heap}{a b:Nat}(h1:a<=b)(h2:b<=l.length):aM SS.P 9(aa l)(some(.int .i64(a:Int)))(some(.int .i64(b:Int)))none h=some(aa((l.drop a).take(b - a))):=iV Sj l rfl rfl h1 h2
theorem Ot {l:List UInt8}{k:Nat}(h:k < l.length):(l.drop k).take(k + 1 - k)=[l.getD k 0]:=by
 rw [DL h,show k + 1 - k=1 by omega]; rfl
theorem ck {n:Nat}(h:n < 10 ^ 1000):(Num.toDec n).length<=1000:=(Num.toDec_len_le(by omega)).2 h
theorem getE {l:List UInt8}{k:Nat}(h:k < l.length):l[k]? = some(l.getD k 0):=by
 rw [List.getD_eq_getElem?_getD,List.getElem?_eq_getElem h]; rfl
def DP(a b:List UInt8)(e:Int):Value:= .tuple⟨[aa a,aa b,.int .i64 e]⟩
theorem MK(m n:Nat)(hm:m < 10 ^ 1000)(hn:n < 10 ^ 1000)(hn0:0 < n)(h:Heap)(w:Wf h):FW SS 150 [aa(Num.toDec m),aa(Num.toDec n)] h(fun v h'=>v=DP(Num.toDec(m / n))(Num.toDec(m % n))0/\Ok h h'):=by
 have hma:=ck hm
 have hna:=ck hn
 have hda:=Num.toDec_all m
 generalize ha:Num.toDec m=a at *
 have hva:Num.val a=m:=by rw [<- ha,Num.val_toDec]
 have hne : ¬ Num.toDec n=[48]:=fun e=>by have:=Num.toDec_eq_zero.1 e; omega
 have L3:=fun(g0:Heap)(r:List UInt8)(q:Option Addr)(qn qc:Nat)(qs:List UInt8)(ho:OwnR h g0 5(.slice q qn qc)(qs.map nT))(hq:qs.all Num.isDig=true)(hq0:0 < qs.length)(hql:qs.length<=1000)(hqv:Num.val qs=m / n)(hr:r=Num.toDec(m % n))(ok:Ok h g0) =>
  uu a(Num.toDec n)r q qn qc(fun mz z g=>z + 1<=qs.length/\mz=qs.length - z/\(∀ i,i < z->qs[i]? = some 48)/\g=g0)(fun v h'=>v=DP(Num.toDec(m / n))(Num.toDec(m % n))0/\Ok h h')(by
  intro mz z; intros; rename_i g hi
  obtain⟨h1,h2,h3,rfl⟩:=hi
  have hqn:qn=qs.length:=by have:=ho.len; rwa [List.length_map] at this
  have hw:IntKind.wrap .i64((qn:Int) - 1)=(qn:Int) - 1:=ap(by omega)(by omega)
  have hw2:IntKind.wrap .i64((z:Int) + 1)=((z + 1:Nat):Int):=by rw [ap(by omega)(by omega)]; omega
  have fin:(z + 1 < qs.length->qs[z]?≠some 48)->∃ (a40:Option Addr)(n41 c42:Nat),aM SS.P 157(.slice q qn qc)(some(.int .i64(z:Int)))none none g=some(.slice a40 n41 c42)/\∃ l43:List UInt8,xw SS.P 157 9(.slice a40 n41 c42)g=some(aa l43)/\(DP l43 r 0=DP(Num.toDec(m / n))(Num.toDec(m % n))0/\Ok h g):=fun hs=>by
   obtain⟨a',n',c',g1,g2⟩:=ho.from_ xp VX(z:=z)(by rw [List.length_map]; omega)
   rw [<- List.map_drop] at g2
   refine⟨a',n',c',g1,_,Li g2,?_,ok⟩
   rw [Num.strip_dec hq(by omega)h3 hs,hqv,hr]
  unfold oS
  rw [hw,hw2]
  refine ae(fun h5=>?_)(fun h5=>?_)
  · have h5:=of_decide_eq_true h5
   obtain⟨p,g2,g3⟩:=ho.rd.at_ xp VX YV Y3(k:= .i64)(i:=(z:Int))(by omega)(by rw [List.length_map]; omega)
   have e1:(qs.map nT).getD((z:Int)).toNat undef = .int .u8((qs.getD z 0).toNat:Nat):=by
    rw [Int.toNat_natCast,List.getD_eq_getElem?_getD,List.getElem?_map,getE(by omega)]; rfl
   rw [e1] at g3
   refine⟨p,g2,_,g3,ae(fun h6=>?_)(fun h6=>?_)⟩
   · have h6:=u8_eq.1 h6
    refine up(mz - 1)(by omega)⟨by omega,by omega,fun i hi=>?_,rfl⟩
    rcases Nat.lt_or_ge i z with h7 | h7
    · exact h3 i h7
    · obtain rfl:i=z:=by omega
     rw [getE(by omega),h6]
   · exact fin fun _ e=>by
     rw [getE(by omega)] at e
     rw [u8_eq.2(Option.some.inj e)] at h6; cases h6
  · have h5:=of_decide_eq_false h5
   exact fin fun hh=>by omega)
 have L1:=sZ a(Num.toDec n)(fun mz k r q qn qc g=>k<=a.length/\mz=a.length - k/\r=Num.toDec(Num.val(a.take k) % n)/\(∃ qs:List UInt8,qs.length=k/\qs.all Num.isDig=true/\Num.val qs=Num.val(a.take k) / n/\OwnR h g 5(.slice q qn qc)(qs.map nT))/\Ok h g)(fun v h'=>v=DP(Num.toDec(m / n))(Num.toDec(m % n))0/\Ok h h')(by
  intro mz k r q qn qc; intros; rename_i g hi
  obtain⟨h1,h2,hr,⟨qs,hq1,hq2,hq3,ho⟩,ok⟩:=hi
  refine ae(fun h5=>?_)(fun h5=>?_)
  · have h5:=of_decide_eq_true h5
   have hin:k < a.length:=by omega
   have hdig:=z3 hda hin
   have hdv:=Num.dv_lt hdig
   have hmod:=Nat.mod_lt(Num.val(a.take k))hn0
   have hw2:IntKind.wrap .i64((k:Int) + 1)=((k + 1:Nat):Int):=by rw [ap(by omega)(by omega)]; omega
   have htk:Num.val(a.take(k + 1))=10 * Num.val(a.take k) + Num.dv(a.getD k 0):=Num.val_take_succ(getE hin)
   have hpush:=Num.toDec_push(r:=Num.val(a.take k) % n)hdig
   have L2:=tX a(Num.toDec n)(fun mz k r q qn qc g=>k<=a.length/\mz=a.length - k/\r=Num.toDec(Num.val(a.take k) % n)/\(∃ qs:List UInt8,qs.length=k/\qs.all Num.isDig=true/\Num.val qs=Num.val(a.take k) / n/\OwnR h g 5(.slice q qn qc)(qs.map nT))/\Ok h g)mz k q qn qc
    (fun mz2 r d g2=>∃ j:Nat,d=48 + (j:Int)/\j * n<=10 * (Num.val(a.take k) % n) + Num.dv(a.getD k 0)/\r=Num.toDec(10 * (Num.val(a.take k) % n) + Num.dv(a.getD k 0) - j * n)/\mz2=10 * (Num.val(a.take k) % n) + Num.dv(a.getD k 0) - j * n/\Ok g g2)(fun v h'=>v=DP(Num.toDec(m / n))(Num.toDec(m % n))0/\Ok h h')(by
    intro mz2 r2 d; intros; rename_i g2 hi2
    obtain⟨j,rfl,hj1,rfl,hj2,ok2⟩:=hi2
    have hj9:=Num.div_digit hn0 hdv hj1
    generalize hR:10 * (Num.val(a.take k) % n) + Num.dv(a.getD k 0)=R at *
    have hRl:(Num.toDec(R - j * n)).length<=1001:=by
     have h10:=Num.toDec_lt_pow n
     refine Nat.le_trans((Num.toDec_len_le(k:=(Num.toDec n).length + 1)(by omega)).2 ?_)(by omega)
     rw [Nat.pow_succ]
     generalize 10 ^ (Num.toDec n).length=T at h10
     clear hn hm
     omega
    have okg:=ok.trans ok2
    refine(lk(R - j * n)n(by omega)(by omega)g2 okg.wf).mono ?_
    rintro _ g3⟨rfl,ok3⟩
    refine⟨_,rfl,ae(fun h6=>?_)(fun h6=>?_)⟩
    · have h6:=Num.cmpN_ge.1(of_decide_eq_true h6)
     refine(ni _(Num.toDec_all _)(by omega)g3 ok3.wf).mono ?_
     rintro _ g4⟨a1,n1,c1,rfl,o1,ok4⟩
     refine⟨a1,n1,c1,rfl,(ni _(Num.toDec_all _)(by omega)g4 ok4.wf).mono ?_⟩
     rintro _ g5⟨a2,n2,c2,rfl,o2,ok5⟩
     refine⟨a2,n2,c2,rfl,(AR(o1.rd.ok ok5)o2.rd(Num.digs_lt(Num.toDec_all _))(Num.digs_lt(Num.toDec_all _))(by rw [Num.digs_len]; omega)ok5.wf).mono ?_⟩
     rintro _ g6⟨a3,n3,c3,rfl,o3,ok6⟩
     refine⟨a3,n3,c3,rfl,(nv o3.rd(Num.less_lt(Num.digs_lt(Num.toDec_all _))(Num.digs_lt(Num.toDec_all _))_ _ _(by omega))(by rw [Num.eachF_len,Num.digs_len]; omega)ok6.wf).mono ?_⟩
     rintro _ g7⟨rfl,ok7⟩
     have hle:(Num.toDec n).length<=(Num.toDec(R - j * n)).length:=by
      rcases Nat.lt_or_ge(Num.toDec(R - j * n)).length(Num.toDec n).length with h7 | h7
      · have:=Num.toDec_len_lt h7; omega
      · exact h7
     have hbv:=Num.less_bv(Num.digs_lt(Num.toDec_all(R - j * n)))(Num.digs_lt(Num.toDec_all n))(by rw [Num.digs_len,Num.digs_len]; exact hle)(by rw [Num.bv_digs,Num.bv_digs,Num.val_toDec,Num.val_toDec]; exact h6)
     rw [Num.bv_digs,Num.bv_digs,Num.val_toDec,Num.val_toDec] at hbv
     rw [hbv]
     refine⟨_,rfl,?_⟩
     have hw3:IntKind.wrap .u8(48 + (j:Int) + 1)=48 + ((j + 1:Nat):Int):=by rw [nq(by omega)(by omega)]; omega
     rw [hw3]
     have e1:(j + 1) * n=j * n + n:=Nat.succ_mul j n
     exact tB(R - j * n - n)(by clear hn hm; omega)⟨j + 1,rfl,by rw [e1]; clear hn hm; omega,by rw [e1,Nat.sub_sub],by rw [e1,Nat.sub_sub],((((ok2.trans ok3).trans ok4).trans ok5).trans ok6).trans ok7⟩
    · have h6 : ¬ (n<=R - j * n):=fun e=>by have:=of_decide_eq_false h6; exact this(Num.cmpN_ge.2 e)
     have hdr:=Num.div_round(V:=Num.val(a.take k))(d:=Num.dv(a.getD k 0))hn0(k:=j)(by rw [hR]; exact hj1)(by rw [hR,Nat.succ_mul]; clear hn hm; omega)
     rw [hR] at hdr
     refine⟨_,_,_,TV _,?_⟩
     have okk:=ok.trans(ok2.trans ok3)
     obtain⟨b,mm,dd,u,g6,g7,g8,g9⟩:=KN w okk(ho.ok(ok2.trans ok3))(48 + (j:Int))(by rw [List.length_map]; omega)
     refine⟨b,mm,dd,u,g6,?_⟩
     rw [hw2]
     refine t8(mz - 1)(by omega)⟨by omega,by omega,?_,⟨qs ++ [Num.dig j],by simp [hq1],?_,?_,?_⟩,g9⟩
     · rw [htk,hdr.2]
     · rw [List.all_append,hq2]; simp [Num.isDig_dig hj9]
     · rw [Num.val_snoc,hq3,Num.dv_dig hj9,htk,hdr.1]
     · rw [List.map_append]
      have e1:nT(Num.dig j) = .int .u8(48 + (j:Int)):=by
       unfold nT; rw [Num.toNat_dig hj9]; rfl
      show OwnR h _ 5 _(_ ++ [nT(Num.dig j)])
      rw [e1]; exact g8)
   have start:∀ r',r' = Num.toDec(10 * (Num.val(a.take k) % n) + Num.dv(a.getD k 0))->∃ j:Nat,(48:Int)=48 + (j:Int)/\j * n<=10 * (Num.val(a.take k) % n) + Num.dv(a.getD k 0)/\r' = Num.toDec(10 * (Num.val(a.take k) % n) + Num.dv(a.getD k 0) - j * n)/\10 * (Num.val(a.take k) % n) + Num.dv(a.getD k 0)=10 * (Num.val(a.take k) % n) + Num.dv(a.getD k 0) - j * n/\Ok g g:=
    fun r' e =>⟨0,rfl,by rw [Nat.zero_mul]; exact Nat.zero_le _,by rw [Nat.zero_mul,Nat.sub_zero]; exact e,by rw [Nat.zero_mul,Nat.sub_zero],Ok.refl ok.wf⟩
   rw [hw2]
   refine ae(fun h6=>?_)(fun h6=>?_)
   · have h6:r=[48]:=by simpa using h6
    refine⟨_,Q6 a(by omega)(by omega),?_⟩
    rw [Ot hin]
    refine L2 _(start _ ?_)
    rw [<- hpush,if_pos(by rw [<- hr]; exact h6)]
   · have h6 : ¬ r=[48]:=by simpa using h6
    refine⟨_,Q6 a(by omega)(by omega),?_⟩
    rw [Ot hin]
    have hrl:r.length<=1000:=by
     rw [hr]
     exact ck(Nat.lt_trans hmod hn)
    refine⟨_,Tr r [a.getD k 0] (by simp; omega),?_⟩
    refine L2 _(start _ ?_)
    rw [<- hpush,if_neg(by rw [<- hr]; exact h6),hr]
  · have h5:=of_decide_eq_false h5
   obtain rfl:k=a.length:=by omega
   rw [List.take_length] at hq3 hr
   rw [hva] at hq3 hr
   have hal:0 < a.length:=by rw [<- ha]; exact Num.toDec_len_pos m
   exact L3 g r q qn qc qs ho hq2(by omega)(by omega)hq3 hr ok qs.length(z:=0)⟨by omega,by omega,fun i hi=>by omega,rfl⟩)
 refine Mq a(Num.toDec n)h _ ?_
 refine(bB a h).mono ?_
 rintro _ _⟨rfl,rfl⟩
 have hv1:Num.valid a=true:=by rw [<- ha]; exact Num.valid_toDec.2 hm
 have hv2:Num.valid(Num.toDec n)=true:=Num.valid_toDec.2 hn
 refine⟨_,rfl,ae(fun h6=>?_)(fun h6=>?_)⟩
 · rw [hv1] at h6; cases h6
 · refine(bB(Num.toDec n)_).mono ?_
  rintro _ _⟨rfl,rfl⟩
  refine⟨_,rfl,ae(fun h7=>?_)(fun h7=>ae(fun h8=>?_)(fun h8=>?_))⟩
  · rw [hv2] at h7; cases h7
  · exact absurd(by simpa using h8)hne
  · exact L1 a.length(k:=0)⟨by omega,by omega,by rw [List.take_zero]; simp [Num.val_nil,Num.toDec_zero],⟨[],rfl,rfl,by rw [List.take_zero]; simp [Num.val_nil],.inl⟨rfl,rfl⟩⟩,Ok.refl w⟩
def BI(a:List UInt8)(e:Int):Value:= .tuple⟨[aa a,.int .i64 e]⟩
def x8(a b:List UInt8):Value:=if Num.valid a=true/\Num.valid b=true then BI(Num.toDec(Nat.gcd(Num.val a)(Num.val b)))0 else BI [] 1
theorem L0(a b:List UInt8)(h:Heap)(w:Wf h):FW SS 128 [aa a,aa b] h(fun v h'=>v=x8 a b/\Ok h h'):=by
 refine Mr a b h _ ?_
 refine(bB a h).mono ?_
 rintro _ _⟨rfl,rfl⟩
 refine⟨_,rfl,ae(fun h6=>?_)(fun h6=>?_)⟩
 · refine⟨?_,Ok.refl w⟩
  unfold x8; rw [if_neg(fun e=>by rw [e.1] at h6; cases h6)]; rfl
 · refine(bB b _).mono ?_
  rintro _ _⟨rfl,rfl⟩
  refine⟨_,rfl,ae(fun h7=>?_)(fun h7=>?_)⟩
  · refine⟨?_,Ok.refl w⟩
   unfold x8; rw [if_neg(fun e=>by rw [e.2] at h7; cases h7)]; rfl
  · have hva:Num.valid a=true:=by simpa using h6
   have hvb:Num.valid b=true:=by simpa using h7
   obtain⟨m,rfl,hm,_⟩:=Num.valid_ex hva
   obtain⟨n,rfl,hn,_⟩:=Num.valid_ex hvb
   rename_i hh _ _
   have L:=sE(Num.toDec m)(Num.toDec n)(fun mz x y g=>∃ p q:Nat,x=Num.toDec p/\y=Num.toDec q/\p < 10 ^ 1000/\q < 10 ^ 1000/\Nat.gcd p q=Nat.gcd m n/\mz=q/\Ok hh g)(fun v h'=>v=x8(Num.toDec m)(Num.toDec n)/\Ok hh h')(by
    intro mz x y; intros; rename_i g hi
    obtain⟨p,q,rfl,rfl,hp,hq,hg,rfl,ok⟩:=hi
    refine ae(fun h8=>?_)(fun h8=>?_)
    · have h8 : ¬ Num.toDec mz=[48]:=by simpa using h8
     have hq0:0 < mz:=Nat.pos_of_ne_zero fun e=>h8(Num.toDec_eq_zero.2 e)
     refine(MK p mz hp hq hq0 g ok.wf).mono ?_
     rintro _ g2⟨rfl,ok2⟩
     refine⟨_,_,_,rfl,?_⟩
     have hlt:=Nat.mod_lt p hq0
     exact ue(p % mz)hlt⟨mz,p % mz,rfl,rfl,hq,Nat.lt_trans hlt hq,by rw [<- Num.gcd_step]; exact hg,rfl,ok.trans ok2⟩
    · have h8:Num.toDec mz=[48]:=by simpa using h8
     have h0:=Num.toDec_eq_zero.1 h8
     subst h0
     refine⟨?_,ok⟩
     unfold x8
     rw [if_pos⟨hva,hvb⟩,Num.val_toDec,Num.val_toDec,<- hg,Nat.gcd_zero_right]; rfl)
   exact L n⟨m,n,rfl,rfl,hm,hn,rfl,rfl,Ok.refl w⟩
end Go.Proofs.YtoabjjimjldcfaaGreatDoor
end
section
set_option linter.unusedVariables false
set_option maxRecDepth 100000
namespace Go.Proofs.YtoabjjimjldcfaaGreatDoor
open Go Go.Ab
noncomputable def fz:Code:=(Tryz.f142.body).getD .skip
noncomputable def CC(Q:VH):ak:=cF SS Tryz.f142.results.toList Q
def vM:List Nat:=[0]
noncomputable def DW(p:List Nat)(w:LV)(h:Heap)(Q:ak):Prop:=bq SS Tryz.f142.ntmps vM(aQ p fz)w h Q
noncomputable def C6(p b:List Nat)(K:ak):ak:=ko SS Tryz.f142.ntmps vM p(aQ b fz)K
abbrev NH(a:OA)(n c:Nat)(h:Heap)(Q:VH):Prop:=DW [1,0,0,0] [(.slice a n c)] h(C6 [1,0,0] [] (CC Q))
theorem AG(a:OA)(n c:Nat)(h:Heap)(Q:VH)(hx:NH a n c h Q):FW SS 142 [(.slice a n c)] h Q:=ay(M:=vM)(c:=fz)Tryz.func142(show Tryz.f142.body=some fz by kernel_rfl)(by kernel_rfl)(aj hx(by kernel_rfl))
abbrev iD(a:OA)(n c:Nat)  (r:OA)(m:Nat)(d:Nat)  : LV:=[(.slice r m d)]
def ip(a:OA)(n c:Nat)  (Inv:Nat->OA->Nat->Nat->Heap->Prop)(mz:Nat)(w:LV)(h:Heap):Prop:= ∃ (r:OA)(m:Nat)(d:Nat) ,w=(iD a n c r m d )/\Inv mz r m d h
abbrev ir(a:OA)(n c:Nat)  (Inv:Nat->OA->Nat->Nat->Heap->Prop)(Q:VH)(mz:Nat)(r:OA)(m:Nat)(d:Nat)  (zz:Nat->Value)(h:Heap):Prop:=ax(decide(((m:Int):Int) > 0))(xP(ag SS.P 136(.slice r m d)(.int .i64(IntKind.wrap .i64((m:Int) - 1))))fun p1=>xI .u64(ai SS.P 103 h(.pointer(some p1)))fun n2=>ax(((n2:Int) == 0))(xL(aM SS.P 136(.slice r m d)none(some(.int .i64(IntKind.wrap .i64((m:Int) - 1))))none h)fun a3 n4 c5=>al(ip a n c Inv)mz [(.slice a3 n4 c5)] h)(Q(.slice r m d)h))(Q(.slice r m d)h)
theorem jO {a:OA}{n c:Nat}  {Inv:Nat->OA->Nat->Nat->Heap->Prop}{mz:Nat}(mq:Nat){r:OA}{m:Nat}{d:Nat}  {h:Heap}(hm:mq < mz)(hi:Inv mq r m d h):al(ip a n c Inv)mz(iD a n c r m d )h :=⟨mq,hm,r,m,d,rfl,hi⟩
theorem jU(a:OA)(n c:Nat)  (Inv:Nat->OA->Nat->Nat->Heap->Prop)(Q:VH)(step:∀ (mz:Nat)(r:OA)(m:Nat)(d:Nat)  (zz:Nat->Value)(h:Heap),Inv mz r m d h->ir a n c Inv Q mz r m d  zz h)(mz:Nat){r:OA}{m:Nat}{d:Nat}  {h:Heap}(hi:Inv mz r m d h):DW [1,0,0,0] (iD a n c r m d )h(C6 [1,0,0] [] (CC Q)):=
 aq(A:=(ip a n c Inv))(show aG Tryz.f142.ntmps(aQ [1,0,0,0] fz)=true by kernel_rfl)(fun mz w zz h⟨r,m,d,hw,hi⟩=> by subst hw; exact aj(step mz r m d  zz h hi)(by kernel_rfl))mz _ h⟨r,m,d,rfl,hi⟩(fun zz=>by kernel_rfl)(by kernel_rfl)
noncomputable def cR:Code:=(Tryz.f140.body).getD .skip
noncomputable def kz(Q:VH):ak:=cF SS Tryz.f140.results.toList Q
def hJ:List Nat:=[0,3,4,5,6]
noncomputable def ky(p:List Nat)(w:LV)(h:Heap)(Q:ak):Prop:=bq SS Tryz.f140.ntmps hJ(aQ p cR)w h Q
noncomputable def fa(p b:List Nat)(K:ak):ak:=ko SS Tryz.f140.ntmps hJ p(aQ b cR)K
abbrev GU(l:LB)(h:Heap)(Q:VH):Prop:=ky [1,1,0,0,0] [(aa l),nA,undef,undef,undef] h(fa [1,1,0,0] [] (kz Q))
theorem EA(l:LB)(h:Heap)(Q:VH)(hx:GU l h Q):FW SS 140 [(aa l)] h Q:=ay(M:=hJ)(c:=cR)Tryz.func140(show Tryz.f140.body=some cR by kernel_rfl)(by kernel_rfl)(aj hx(by kernel_rfl))
abbrev fT(l:LB)  (s:LB)(r:OA)(rn:Nat)(rc:Nat)(y4 y5 y6:Value):LV:=[(aa s),(.slice r rn rc),y4,y5,y6]
def cz(l:LB)  (Inv:Nat->LB->OA->Nat->Nat->Heap->Prop)(mz:Nat)(w:LV)(h:Heap):Prop:= ∃ (s:LB)(r:OA)(rn:Nat)(rc:Nat)(y4 y5 y6:Value),w=(fT l s r rn rc y4 y5 y6)/\Inv mz s r rn rc h
abbrev tH(l:LB)  (Inv:Nat->LB->OA->Nat->Nat->Heap->Prop)(Q:VH)(mz:Nat)(s:LB)(r:OA)(rn:Nat)(rc:Nat)(y4 y5 y6:Value)(zz:Nat->Value)(h:Heap):Prop:=ax(decide((((s:LB).length:Int):Int) > 0))(xI .i64(km true [(.int .i64 0),(.int .i64(IntKind.wrap .i64(((s:LB).length:Int) - 9)))])fun n1=>ky [1,1,0,0,0,1,0,1,1,0,1,0,0] [(aa s),(.slice r rn rc),(.int .i64 n1),(.int .u64 0),(.int .i64 n1)] h(fa [1,0,1,1,0,1,0] [1,1,0,0,0] (aU hJ(cz l Inv)mz(fa [1,1,0,0] [] (kz Q)))))(FW SS 142 [(.slice r rn rc)] h fun v2 h3=>yL v2 fun a4 n5 c6=>Q(.slice a4 n5 c6)h3)
theorem oQ {l:LB}  {Inv:Nat->LB->OA->Nat->Nat->Heap->Prop}{mz:Nat}(mq:Nat){s:LB}{r:OA}{rn:Nat}{rc:Nat}{y4 y5 y6:Value}{h:Heap}(hm:mq < mz)(hi:Inv mq s r rn rc h):al(cz l Inv)mz(fT l s r rn rc y4 y5 y6)h :=⟨mq,hm,s,r,rn,rc,y4,y5,y6,rfl,hi⟩
theorem oY(l:LB)  (Inv:Nat->LB->OA->Nat->Nat->Heap->Prop)(Q:VH)(step:∀ (mz:Nat)(s:LB)(r:OA)(rn:Nat)(rc:Nat)(y4 y5 y6:Value)(zz:Nat->Value)(h:Heap),Inv mz s r rn rc h->tH l Inv Q mz s r rn rc y4 y5 y6 zz h)(mz:Nat){s:LB}{r:OA}{rn:Nat}{rc:Nat}{y4 y5 y6:Value}{h:Heap}(hi:Inv mz s r rn rc h):ky [1,1,0,0,0] (fT l s r rn rc y4 y5 y6)h(fa [1,1,0,0] [] (kz Q)):=
 aq(A:=(cz l Inv))(show aG Tryz.f140.ntmps(aQ [1,1,0,0,0] cR)=true by kernel_rfl)(fun mz w zz h⟨s,r,rn,rc,y4,y5,y6,hw,hi⟩=> by subst hw; exact aj(step mz s r rn rc y4 y5 y6 zz h hi)(by kernel_rfl))mz _ h⟨s,r,rn,rc,y4,y5,y6,rfl,hi⟩(fun zz=>by kernel_rfl)(by kernel_rfl)
abbrev fO(s:LB)(r:OA)(rn rc:Nat)(cut:Int)(i:Int)(v:Int)  : LV:=[(aa s),(.slice r rn rc),(.int .i64 cut),(.int .u64 v),(.int .i64 i)]
def fM(s:LB)(r:OA)(rn rc:Nat)(cut:Int)(Inv2:Nat->Int->Int->Heap->Prop)(mz2:Nat)(w:LV)(h:Heap):Prop:= ∃ (i:Int)(v:Int) ,w=(fO s r rn rc cut i v )/\Inv2 mz2 i v h
abbrev uE(l:LB)(Inv:Nat->LB->OA->Nat->Nat->Heap->Prop)(mz:Nat)(s:LB)(r:OA)(rn rc:Nat)(cut:Int)(Inv2:Nat->Int->Int->Heap->Prop)(Q:VH)(mz2:Nat)(i:Int)(v:Int)  (zz:Nat->Value)(h:Heap):Prop:=ax(decide((i:Int) < ((s:LB).length:Int)))(xI .u8(aR SS.P 9(aa s)(.int .i64 i))fun n7=>al(fM s r rn rc cut Inv2)mz2 [(aa s),(.slice r rn rc),(.int .i64 cut),(.int .u64(IntKind.wrap .u64(IntKind.wrap .u64(10 * v) + IntKind.wrap .u64(IntKind.wrap .u8(n7 - 48))))),(.int .i64(IntKind.wrap .i64(i + 1)))] h)(xR(az SS.P 136 1 [(0,(.int .u64 v))])h fun B8 n9 c10 g11=>xE(aC SS.P 136 136(.slice r rn rc)(sA(h.next)n9 c10)g11)g11 fun a12 n13 c14 u15 g16=>xS(aM SS.P 9(aa s)none(some(.int .i64 cut))none g16)fun l17=>al(cz l Inv)mz [(aa l17),(.slice a12 n13 c14),(.int .i64 cut),(.int .u64 v),(.int .i64 i)] g16)
theorem ph {s:LB}{r:OA}{rn rc:Nat}{cut:Int}{Inv2:Nat->Int->Int->Heap->Prop}{mz2:Nat}(mq:Nat){i:Int}{v:Int}  {h:Heap}(hm:mq < mz2)(hi:Inv2 mq i v h):al(fM s r rn rc cut Inv2)mz2(fO s r rn rc cut i v )h :=⟨mq,hm,i,v,rfl,hi⟩
theorem oP(l:LB)(Inv:Nat->LB->OA->Nat->Nat->Heap->Prop)(mz:Nat)(s:LB)(r:OA)(rn rc:Nat)(cut:Int)(Inv2:Nat->Int->Int->Heap->Prop)(Q:VH)(step:∀ (mz2:Nat)(i:Int)(v:Int)  (zz:Nat->Value)(h:Heap),Inv2 mz2 i v h->uE l Inv mz s r rn rc cut Inv2 Q mz2 i v  zz h)(mz2:Nat){i:Int}{v:Int}  {h:Heap}(hi:Inv2 mz2 i v h):ky [1,1,0,0,0,1,0,1,1,0,1,0,0] (fO s r rn rc cut i v )h(fa [1,0,1,1,0,1,0] [1,1,0,0,0] (aU hJ(cz l Inv)mz(fa [1,1,0,0] [] (kz Q)))):=
 aq(A:=(fM s r rn rc cut Inv2))(show aG Tryz.f140.ntmps(aQ [1,1,0,0,0,1,0,1,1,0,1,0,0] cR)=true by kernel_rfl)(fun mz2 w zz h⟨i,v,hw,hi⟩=> by subst hw; exact aj(step mz2 i v  zz h hi)(by kernel_rfl))mz2 _ h⟨i,v,rfl,hi⟩(fun zz=>by kernel_rfl)(by kernel_rfl)
noncomputable def CR:Code:=(Tryz.f179.body).getD .skip
def Vu:List Nat:=[]
abbrev Ve(x:Int)(h:Heap)(Q:VH):Prop:=Q(.bool(((x:Int) != x)))h
theorem S2(x:Int)(h:Heap)(Q:VH)(hx:Ve x h Q):FW SS 179 [(.int .u64 x)] h Q:=ay(M:=Vu)(c:=CR)Tryz.func179(show Tryz.f179.body=some CR by kernel_rfl)(by kernel_rfl)(aj hx(by kernel_rfl))
noncomputable def DD:Code:=(Tryz.f169.body).getD .skip
def UB:List Nat:=[]
abbrev UO(x y:Int)(h:Heap)(Q:VH):Prop:=FW SS 179 [(.int .u64 x)] h fun v1 h2=>yB v1 fun b3=>FW SS 179 [(.int .u64 y)] h2 fun v4 h5=>yB v4 fun b6=>ax b3(ax b6(Q(.int .i64 0)h5)(Q(.int .i64(-1))h5))(ax b6(Q(.int .i64 1)h5)(ax(decide((x:Int) < y))(Q(.int .i64(-1))h5)(ax(decide((x:Int) > y))(Q(.int .i64 1)h5)(Q(.int .i64 0)h5))))
theorem Tg(x y:Int)(h:Heap)(Q:VH)(hx:UO x y h Q):FW SS 169 [(.int .u64 x),(.int .u64 y)] h Q:=ay(M:=UB)(c:=DD)Tryz.func169(show Tryz.f169.body=some DD by kernel_rfl)(by kernel_rfl)(aj hx(by kernel_rfl))
noncomputable def Da:Code:=(Tryz.f82.body).getD .skip
def UM:List Nat:=[]
abbrev U7(x:Int)(h:Heap)(Q:VH):Prop:=Q(.bool(((x:Int) != x)))h
theorem RK(x:Int)(h:Heap)(Q:VH)(hx:U7 x h Q):FW SS 82 [(.int .i64 x)] h Q:=ay(M:=UM)(c:=Da)Tryz.func82(show Tryz.f82.body=some Da by kernel_rfl)(by kernel_rfl)(aj hx(by kernel_rfl))
noncomputable def CD:Code:=(Tryz.f70.body).getD .skip
def Vd:List Nat:=[]
abbrev VB(x y:Int)(h:Heap)(Q:VH):Prop:=FW SS 82 [(.int .i64 x)] h fun v1 h2=>yB v1 fun b3=>FW SS 82 [(.int .i64 y)] h2 fun v4 h5=>yB v4 fun b6=>ax b3(ax b6(Q(.int .i64 0)h5)(Q(.int .i64(-1))h5))(ax b6(Q(.int .i64 1)h5)(ax(decide((x:Int) < y))(Q(.int .i64(-1))h5)(ax(decide((x:Int) > y))(Q(.int .i64 1)h5)(Q(.int .i64 0)h5))))
theorem RI(x y:Int)(h:Heap)(Q:VH)(hx:VB x y h Q):FW SS 70 [(.int .i64 x),(.int .i64 y)] h Q:=ay(M:=Vd)(c:=CD)Tryz.func70(show Tryz.f70.body=some CD by kernel_rfl)(by kernel_rfl)(aj hx(by kernel_rfl))
noncomputable def dt:Code:=(Tryz.f160.body).getD .skip
noncomputable def tk(Q:VH):ak:=cF SS Tryz.f160.results.toList Q
def mE:List Nat:=[0,1,18,19]
noncomputable def uX(p:List Nat)(w:LV)(h:Heap)(Q:ak):Prop:=bq SS Tryz.f160.ntmps mE(aQ p dt)w h Q
noncomputable def ut(p b:List Nat)(K:ak):ak:=ko SS Tryz.f160.ntmps mE p(aQ b dt)K
abbrev EW(a:OA)(n c:Nat)(b:OA)(m d:Nat)(h:Heap)(Q:VH):Prop:=ax((((n:Int):Int) != (m:Int)))(FW SS 70 [(iA n),(iA m)] h fun v1 h2=>yI .i64 v1 fun n3=>Q(.int .i64 n3)h2)(uX [1,1,0,1,0,0] [(.slice a n c),(.slice b m d),(iA n),(.int .i64 0)] h(ut [1,1,0,1,0] [] (tk Q)))
theorem Cw(a:OA)(n c:Nat)(b:OA)(m d:Nat)(h:Heap)(Q:VH)(hx:EW a n c b m d h Q):FW SS 160 [(.slice a n c),(.slice b m d)] h Q:=ay(M:=mE)(c:=dt)Tryz.func160(show Tryz.f160.body=some dt by kernel_rfl)(by kernel_rfl)(aj hx(by kernel_rfl))
abbrev eZ(a:OA)(n c:Nat)(b:OA)(m d:Nat)  (i:Nat)  : LV:=[(.slice a n c),(.slice b m d),(iA n),(iA i)]
def eW(a:OA)(n c:Nat)(b:OA)(m d:Nat)  (Inv:Nat->Nat->Heap->Prop)(mz:Nat)(w:LV)(h:Heap):Prop:= ∃ (i:Nat) ,w=(eZ a n c b m d i )/\Inv mz i h
abbrev jd(a:OA)(n c:Nat)(b:OA)(m d:Nat)  (Inv:Nat->Nat->Heap->Prop)(Q:VH)(mz:Nat)(i:Nat)  (zz:Nat->Value)(h:Heap):Prop:=ax(decide(((i:Int):Int) < (n:Int)))(xP(ag SS.P 136(.slice a n c)(.int .i64(IntKind.wrap .i64(IntKind.wrap .i64((n:Int) - 1) - (i:Int)))))fun p4=>xI .u64(ai SS.P 103(room h 18)(.pointer(some p4)))fun n5=>xP(ag SS.P 136(.slice b m d)(.int .i64(IntKind.wrap .i64(IntKind.wrap .i64((n:Int) - 1) - (i:Int)))))fun p6=>xI .u64(ai SS.P 103(room h 18)(.pointer(some p6)))fun n7=>FW SS 169 [(.int .u64 n5),(.int .u64 n7)] (room h 18)fun v8 h9=>yI .i64 v8 fun n10=>ax(((n10:Int) != 0))(Q(.int .i64 n10)h9)(al(eW a n c b m d Inv)mz [(.slice a n c),(.slice b m d),(iA n),(.int .i64(IntKind.wrap .i64((i:Int) + 1)))] h9))(Q(.int .i64 0)h)
theorem nO {a:OA}{n c:Nat}{b:OA}{m d:Nat}  {Inv:Nat->Nat->Heap->Prop}{mz:Nat}(mq:Nat){i:Nat}  {h:Heap}(hm:mq < mz)(hi:Inv mq i h):al(eW a n c b m d Inv)mz(eZ a n c b m d i )h :=⟨mq,hm,i,rfl,hi⟩
theorem nU(a:OA)(n c:Nat)(b:OA)(m d:Nat)  (Inv:Nat->Nat->Heap->Prop)(Q:VH)(step:∀ (mz:Nat)(i:Nat)  (zz:Nat->Value)(h:Heap),Inv mz i h->jd a n c b m d Inv Q mz i  zz h)(mz:Nat){i:Nat}  {h:Heap}(hi:Inv mz i h):uX [1,1,0,1,0,0] (eZ a n c b m d i )h(ut [1,1,0,1,0] [] (tk Q)):=
 aq(A:=(eW a n c b m d Inv))(show aG Tryz.f160.ntmps(aQ [1,1,0,1,0,0] dt)=true by kernel_rfl)(fun mz w zz h⟨i,hw,hi⟩=> by subst hw; exact aj(step mz i  zz h hi)(by kernel_rfl))mz _ h⟨i,rfl,hi⟩(fun zz=>by kernel_rfl)(by kernel_rfl)
noncomputable def sM:Code:=(Tryz.f185.body).getD .skip
def Lt:List Nat:=[]
abbrev Nt(x y z:Int)(p:OA)(h:Heap)(Q:VH):Prop:=xI .u64(ai SS.P 103 h(.pointer p))fun n1=>xI .u64(an SS.P .rem 103(.int .u64(IntKind.wrap .u64(IntKind.wrap .u64(x * n1) + z)))(.int .u64 1000000000))fun n2=>xI .u64(an SS.P .quo 103(.int .u64(IntKind.wrap .u64(IntKind.wrap .u64(x * n1) + z)))(.int .u64 1000000000))fun n3=>Q(.tuple⟨[(.int .u64 n2),(.int .u64 n3)]⟩)h
theorem I8(x y z:Int)(p:OA)(h:Heap)(Q:VH)(hx:Nt x y z p h Q):FW SS 185 [(.int .u64 x),(.int .u64 y),(.int .u64 z),(.pointer p)] h Q:=ay(M:=Lt)(c:=sM)Tryz.func185(show Tryz.f185.body=some sM by kernel_rfl)(by kernel_rfl)(aj hx(by kernel_rfl))
noncomputable def dw:Code:=(Tryz.f167.body).getD .skip
noncomputable def tM(Q:VH):ak:=cF SS Tryz.f167.results.toList Q
def mP:List Nat:=[0,1,2,7,8,18,19]
noncomputable def uV(p:List Nat)(w:LV)(h:Heap)(Q:ak):Prop:=bq SS Tryz.f167.ntmps mP(aQ p dw)w h Q
noncomputable def sP(p b:List Nat)(K:ak):ak:=ko SS Tryz.f167.ntmps mP p(aQ b dw)K
abbrev E5(a:OA)(n c:Nat)(p:OA)(h:Heap)(Q:VH):Prop:=xI .i64(km true [(iA n),(.int .i64 0)])fun n1=>uV [1,1,1,0,1,0,0] [(.slice a n c),nA,(.func(.func 185)⟨[]⟩⟨[(.pointer p)]⟩),nA,(.int .u64 0),(.int .i64(IntKind.wrap .i64(n1 + 1))),(.int .i64 0)] h(sP [1,1,1,0,1,0] [] (tM Q))
theorem Cj(a:OA)(n c:Nat)(p:OA)(h:Heap)(Q:VH)(hx:E5 a n c p h Q):FW SS 167 [(.slice a n c),nA,(.func(.func 185)⟨[]⟩⟨[(.pointer p)]⟩)] h Q:=ay(M:=mP)(c:=dw)Tryz.func167(show Tryz.f167.body=some dw by kernel_rfl)(by kernel_rfl)(aj hx(by kernel_rfl))
abbrev eR(a:OA)(n c:Nat)(p:OA)(aS:Int)(i:Nat)(cy:Int)(r:OA)(rn:Nat)(rc:Nat)  : LV:=[(.slice a n c),nA,(.func(.func 185)⟨[]⟩⟨[(.pointer p)]⟩),(.slice r rn rc),(.int .u64 cy),(.int .i64 aS),(iA i)]
def bO(a:OA)(n c:Nat)(p:OA)(aS:Int)(Inv:Nat->Nat->Int->OA->Nat->Nat->Heap->Prop)(mz:Nat)(w:LV)(h:Heap):Prop:= ∃ (i:Nat)(cy:Int)(r:OA)(rn:Nat)(rc:Nat) ,w=(eR a n c p aS i cy r rn rc )/\Inv mz i cy r rn rc h
abbrev j9(a:OA)(n c:Nat)(p:OA)(aS:Int)(Inv:Nat->Nat->Int->OA->Nat->Nat->Heap->Prop)(Q:VH)(mz:Nat)(i:Nat)(cy:Int)(r:OA)(rn:Nat)(rc:Nat)  (zz:Nat->Value)(h:Heap):Prop:=ax(decide(((i:Int):Int) < aS))(ax(decide(((i:Int):Int) < (n:Int)))(xP(ag SS.P 136(.slice a n c)(iA i))fun p2=>xI .u64(ai SS.P 103 h(.pointer(some p2)))fun n3=>ax(decide(((i:Int):Int) < 0))(xP(ag SS.P 136 nA(iA i))fun p4=>xI .u64(ai SS.P 103 h(.pointer(some p4)))fun n5=>FW SS 185 [(.int .u64 n3),(.int .u64 n5),(.int .u64 cy),(.pointer p)] h fun v6 h7=>∃ n8:Int,∃ n9:Int,v6=(.tuple⟨[(.int .u64 n8),(.int .u64 n9)]⟩)/\xR(az SS.P 136 1 [(0,(.int .u64 n8))])h7 fun B10 n11 c12 g13=>xE(aC SS.P 136 136(.slice r rn rc)(sA(h7.next)n11 c12)g13)g13 fun a14 n15 c16 u17 g18=>al(bO a n c p aS Inv)mz [(.slice a n c),nA,(.func(.func 185)⟨[]⟩⟨[(.pointer p)]⟩),(.slice a14 n15 c16),(.int .u64 n9),(.int .i64 aS),(.int .i64(IntKind.wrap .i64((i:Int) + 1)))] g18)(FW SS 185 [(.int .u64 n3),(.int .u64 0),(.int .u64 cy),(.pointer p)] h fun v19 h20=>∃ n21:Int,∃ n22:Int,v19=(.tuple⟨[(.int .u64 n21),(.int .u64 n22)]⟩)/\xR(az SS.P 136 1 [(0,(.int .u64 n21))])h20 fun B23 n24 c25 g26=>xE(aC SS.P 136 136(.slice r rn rc)(sA(h20.next)n24 c25)g26)g26 fun a27 n28 c29 u30 g31=>al(bO a n c p aS Inv)mz [(.slice a n c),nA,(.func(.func 185)⟨[]⟩⟨[(.pointer p)]⟩),(.slice a27 n28 c29),(.int .u64 n22),(.int .i64 aS),(.int .i64(IntKind.wrap .i64((i:Int) + 1)))] g31))(ax(decide(((i:Int):Int) < 0))(xP(ag SS.P 136 nA(iA i))fun p32=>xI .u64(ai SS.P 103 h(.pointer(some p32)))fun n33=>FW SS 185 [(.int .u64 0),(.int .u64 n33),(.int .u64 cy),(.pointer p)] h fun v34 h35=>∃ n36:Int,∃ n37:Int,v34=(.tuple⟨[(.int .u64 n36),(.int .u64 n37)]⟩)/\xR(az SS.P 136 1 [(0,(.int .u64 n36))])h35 fun B38 n39 c40 g41=>xE(aC SS.P 136 136(.slice r rn rc)(sA(h35.next)n39 c40)g41)g41 fun a42 n43 c44 u45 g46=>al(bO a n c p aS Inv)mz [(.slice a n c),nA,(.func(.func 185)⟨[]⟩⟨[(.pointer p)]⟩),(.slice a42 n43 c44),(.int .u64 n37),(.int .i64 aS),(.int .i64(IntKind.wrap .i64((i:Int) + 1)))] g46)(FW SS 185 [(.int .u64 0),(.int .u64 0),(.int .u64 cy),(.pointer p)] h fun v47 h48=>∃ n49:Int,∃ n50:Int,v47=(.tuple⟨[(.int .u64 n49),(.int .u64 n50)]⟩)/\xR(az SS.P 136 1 [(0,(.int .u64 n49))])h48 fun B51 n52 c53 g54=>xE(aC SS.P 136 136(.slice r rn rc)(sA(h48.next)n52 c53)g54)g54 fun a55 n56 c57 u58 g59=>al(bO a n c p aS Inv)mz [(.slice a n c),nA,(.func(.func 185)⟨[]⟩⟨[(.pointer p)]⟩),(.slice a55 n56 c57),(.int .u64 n50),(.int .i64 aS),(.int .i64(IntKind.wrap .i64((i:Int) + 1)))] g59)))(FW SS 142 [(.slice r rn rc)] h fun v60 h61=>yL v60 fun a62 n63 c64=>Q(.slice a62 n63 c64)h61)
theorem gk {a:OA}{n c:Nat}{p:OA}{aS:Int}{Inv:Nat->Nat->Int->OA->Nat->Nat->Heap->Prop}{mz:Nat}(mq:Nat){i:Nat}{cy:Int}{r:OA}{rn:Nat}{rc:Nat}  {h:Heap}(hm:mq < mz)(hi:Inv mq i cy r rn rc h):al(bO a n c p aS Inv)mz(eR a n c p aS i cy r rn rc )h :=⟨mq,hm,i,cy,r,rn,rc,rfl,hi⟩
theorem nR(a:OA)(n c:Nat)(p:OA)(aS:Int)(Inv:Nat->Nat->Int->OA->Nat->Nat->Heap->Prop)(Q:VH)(step:∀ (mz:Nat)(i:Nat)(cy:Int)(r:OA)(rn:Nat)(rc:Nat)  (zz:Nat->Value)(h:Heap),Inv mz i cy r rn rc h->j9 a n c p aS Inv Q mz i cy r rn rc  zz h)(mz:Nat){i:Nat}{cy:Int}{r:OA}{rn:Nat}{rc:Nat}  {h:Heap}(hi:Inv mz i cy r rn rc h):uV [1,1,1,0,1,0,0] (eR a n c p aS i cy r rn rc )h(sP [1,1,1,0,1,0] [] (tM Q)):=
 aq(A:=(bO a n c p aS Inv))(show aG Tryz.f167.ntmps(aQ [1,1,1,0,1,0,0] dw)=true by kernel_rfl)(fun mz w zz h⟨i,cy,r,rn,rc,hw,hi⟩=> by subst hw; exact aj(step mz i cy r rn rc  zz h hi)(by kernel_rfl))mz _ h⟨i,cy,r,rn,rc,rfl,hi⟩(fun zz=>by kernel_rfl)(by kernel_rfl)
noncomputable def pk:Code:=(Tryz.f175.body).getD .skip
def Ie:List Nat:=[]
abbrev Hj(a:OA)(n c:Nat)(k:Int)(h:Heap)(Q:VH):Prop:=xN(fp SS.P 103(.int .u64 k))h fun B1 g2=>FW SS 167 [(.slice a n c),nA,(.func(.func 185)⟨[]⟩⟨[(pA(h.next))]⟩)] g2 fun v3 h4=>yL v3 fun a5 n6 c7=>Q(.slice a5 n6 c7)h4
theorem FU(a:OA)(n c:Nat)(k:Int)(h:Heap)(Q:VH)(hx:Hj a n c k h Q):FW SS 175 [(.slice a n c),(.int .u64 k)] h Q:=ay(M:=Ie)(c:=pk)Tryz.func175(show Tryz.f175.body=some pk by kernel_rfl)(by kernel_rfl)(aj hx(by kernel_rfl))
end Go.Proofs.YtoabjjimjldcfaaGreatDoor
end
section
set_option linter.unusedVariables false
set_option maxRecDepth 100000
namespace Go.Proofs.YtoabjjimjldcfaaGreatDoor
open Go Go.Ab
def uv(d:Nat):Value:= .int .u64(d:Int)
theorem wF:SS.P.underlying 136=some(.slice 103):=by kernel_rfl
theorem K7:SS.P.underlying 103=some(.int .u64):=by kernel_rfl
theorem AS:au SS.P 103=some 1:=by kernel_rfl
theorem Lc:Go.Ab.isAgg SS.P 103=false:=by kernel_rfl
noncomputable def re103:TypeInfo:=(dD SS.P 103).getD default
theorem Hx:dD SS.P 103=some re103:=by kernel_rfl
theorem zK:re103.size=1:=by kernel_rfl
theorem wv:re103.bytes=8:=by kernel_rfl
theorem nG(z:Int):az SS.P 136 1 [(0,.int .u64 z)]=some(.cells [.int .u64 z] 103 1 true,mC 1 1):=by kernel_rfl
theorem fL {h0 h:Heap}(w0:Wf h0)(ok:Ok h0 h){v:Value}{vs:List Value}(o:OwnR h0 h 103 v vs)(z:Int)(hl:vs.length<=100000) :
  ∃ (b:Option Addr)(n c:Nat)(u:Upd),aC SS.P 136 136 v(.slice(some⟨h.next,0,none⟩)1 1)(h.push(.cells [.int .u64 z] 103 1 true))=some(.slice b n c,u)/\n=vs.length + 1/\OwnR h0(u.app(h.push(.cells [.int .u64 z] 103 1 true)))103(.slice b n c)(vs ++ [.int .u64 z])/\Ok h0(u.app(h.push(.cells [.int .u64 z] 103 1 true))):=
 OwnR.snoc wF Hx zK w0 ok o rfl(by rw [wv]; omega)(by omega)
theorem PA(l:List Nat)(i:Nat)(h:i < l.length):(l.map uv).getD i undef = .int .u64(l.getD i 0:Nat):=by
 simp [List.getD_eq_getElem?_getD,List.getElem?_map,List.getElem?_eq_getElem h,uv]
theorem Dy {h:Heap}{v:Value}{l:List Nat}(r:Rd h 103 v(l.map uv)){i:Int}(h0:0<=i)(h1:i < l.length) :
  ∃ p:Addr,ag SS.P 136 v(.int .i64 i)=some(.pointer(some p))/\ai SS.P 103 h(.pointer(some p))=some(.int .u64(l.getD i.toNat 0:Nat)):=by
 obtain⟨p,h2,h3⟩:=r.at_ wF AS K7 Lc(k:= .i64)h0(by rw [List.length_map]; exact h1)
 rw [PA l _(by omega)] at h3
 exact⟨p,h2,h3⟩
theorem ny {h0 h:Heap}{a:Option Addr}{n c:Nat}{l:List Nat}(o:OwnR h0 h 103(.slice a n c)(l.map uv))(hlen:l.length<=100000) :
  FW SS 142 [.slice a n c] h(fun v h'=>∃ a' n' c',v = .slice a' n' c'/\OwnR h0 h 103(.slice a' n' c')((Num.trimL l).map uv)/\h' = h):=by
 have hn:n=l.length:=by have:=o.len; rwa [List.length_map] at this
 have L:=jU a n c(fun mz r m d g=>m<=l.length/\mz=m/\OwnR h0 h 103(.slice r m d)((l.take m).map uv)/\Num.trimL l=Num.trimL(l.take m)/\g=h)(fun v h'=>∃ a' n' c',v = .slice a' n' c'/\OwnR h0 h 103(.slice a' n' c')((Num.trimL l).map uv)/\h' = h)(by
  intro mz r m d; intros; rename_i g hi
  obtain⟨h1,rfl,h3,h4,rfl⟩:=hi
  have hw:IntKind.wrap .i64((mz:Int) - 1)=(mz:Int) - 1:=ap(by omega)(by omega)
  unfold ir
  rw [hw]
  have hm:mz≠0->l.take mz=l.take(mz - 1) ++ [l.getD(mz - 1)0]:=fun hm=>by
   obtain⟨j,rfl⟩: ∃ j,mz=j + 1 :=⟨mz - 1,by omega⟩
   rw [List.take_succ_eq_append_getElem(by omega),Nat.add_sub_cancel,List.getD_eq_getElem?_getD,List.getElem?_eq_getElem(by omega)]; rfl
  refine ae(fun h5=>?_)(fun h5=>?_)
  · have h5:=of_decide_eq_true h5
   obtain⟨p,g2,g3⟩:=Dy h3.rd(i:=(mz:Int) - 1)(by omega)(by rw [List.length_take]; omega)
   have e1:(l.take mz).getD((mz:Int) - 1).toNat 0=l.getD(mz - 1)0:=by
    rw [show((mz:Int) - 1).toNat=mz - 1 by omega,List.getD_eq_getElem?_getD,List.getElem?_take,if_pos(by omega),List.getD_eq_getElem?_getD]
   rw [e1] at g3
   refine⟨p,g2,_,g3,ae(fun h6=>?_)(fun h6=>?_)⟩
   · have h6:((l.getD(mz - 1)0:Nat):Int)=0:=by simpa using h6
    have h6:l.getD(mz - 1)0=0:=by omega
    obtain⟨a',n',c',g4,g5⟩:=h3.upto wF AS(z:=mz - 1)(by rw [List.length_map,List.length_take]; omega)(by rw [List.length_map,List.length_take]; omega)
    rw [show((mz:Int) - 1)=((mz - 1:Nat):Int) by omega]
    have hn' : n' = mz - 1:=by have:=g5.len; rw [List.length_take,List.length_map,List.length_take] at this; omega
    subst hn'
    refine⟨a',_,c',g4,jO(mz - 1)(by omega)⟨by omega,rfl,?_,?_,rfl⟩⟩
    · rw [<- List.map_take,List.take_take,Nat.min_eq_left(by omega)] at g5
     exact g5
    · rw [h4,hm(by omega),h6,Num.trimL_snoc_zero]
   · have h6 : ¬ ((l.getD(mz - 1)0:Nat):Int)=0:=by simpa using h6
    refine⟨r,mz,d,rfl,?_,rfl⟩
    rw [h4,hm(by omega),Num.trimL_snoc_pos _(by omega),<- hm(by omega)]
    exact h3
  · have h5:=of_decide_eq_false h5
   obtain rfl:mz=0:=by omega
   refine⟨r,0,d,rfl,?_,rfl⟩
   rw [h4]
   exact h3)
 exact AG a n c h _(L n⟨by omega,rfl,by rw [show l.take n=l by rw [hn,List.take_length]]; exact o,by rw [show l.take n=l by rw [hn,List.take_length]],rfl⟩)
theorem BN {l:List UInt8}{i:Nat}(h:i < l.length):Num.val(l.take(i + 1))=10 * Num.val(l.take i) + Num.dv(l.getD i 0):=Num.val_take_succ(getE h)
theorem MO(l:List UInt8){h:Heap}{b:Nat}(h2:b<=l.length):aM SS.P 9(aa l)none(some(.int .i64(b:Int)))none h=some(aa(l.take b)):=iV(a:=0)Sj l rfl rfl(by omega)h2
theorem G4 {s:List UInt8}{cut:Nat}(hc:cut=s.length - 9)(hs:0 < s.length):Num.val s=Num.val(s.drop cut) + 10 ^ (s.length - cut) * Num.val(s.take cut):=by
 have:=Num.val_append(s.take cut)(s.drop cut)
 rw [List.take_append_drop,List.length_drop,Nat.mul_comm] at this
 omega
theorem na(l:List UInt8)(hd:l.all Num.isDig=true)(hlen:l.length<=10000)(h:Heap)(w:Wf h):FW SS 140 [aa l] h(dz h 103((Num.toB 1000000000(Num.val l)).map uv)):=by
 have L1:=oY l(fun mz s r rn rc g=>mz=s.length/\s.all Num.isDig=true/\s.length<=10000/\Ok h g/\∃ bs:List Nat,(∀ d∈bs,d < 1000000000)/\bs.length + s.length<=10000/\OwnR h g 103(.slice r rn rc)(bs.map uv)/\Num.val l=Num.bv 1000000000 bs + 1000000000 ^ bs.length * Num.val s)(dz h 103((Num.toB 1000000000(Num.val l)).map uv))(by
  intro mz s r rn rc; intros; rename_i g hi
  obtain⟨rfl,hs,hsl,ok,bs,hb1,hb2,ho,hv⟩:=hi
  refine ae(fun h5=>?_)(fun h5=>?_)
  · have h5:=of_decide_eq_true h5
   have hw:IntKind.wrap .i64((s.length:Int) - 9)=(s.length:Int) - 9:=ap(by omega)(by omega)
   rw [hw]
   have hcut:(if(s.length:Int) - 9 > 0 then(s.length:Int) - 9 else 0)=((s.length - 9:Nat):Int):=by split <;> omega
   refine⟨_,uy _ _ _,?_⟩
   rw [hcut]
   have L2:=oP l(fun mz s r rn rc g=>mz=s.length/\s.all Num.isDig=true/\s.length<=10000/\Ok h g/\∃ bs:List Nat,(∀ d∈bs,d < 1000000000)/\bs.length + s.length<=10000/\OwnR h g 103(.slice r rn rc)(bs.map uv)/\Num.val l=Num.bv 1000000000 bs + 1000000000 ^ bs.length * Num.val s)s.length s r rn rc((s.length - 9:Nat):Int)
    (fun mz2 i v g2=>∃ j:Nat,i=(s.length - 9:Nat) + (j:Int)/\s.length - 9 + j<=s.length/\mz2=s.length - (s.length - 9 + j)/\v=(Num.val((s.drop(s.length - 9)).take j):Nat)/\g2=g)(dz h 103((Num.toB 1000000000(Num.val l)).map uv))(by
    intro mz2 i v; intros; rename_i g2 hi2
    obtain⟨j,rfl,hj,hmz,rfl,rfl⟩:=hi2
    have hdd:(s.drop(s.length - 9)).all Num.isDig=true:=by
     rw [List.all_eq_true] at hs ⊢
     exact fun x hx=>hs x(List.mem_of_mem_drop hx)
    have hlt:=Num.val_lt(l:=(s.drop(s.length - 9)).take j)(by
     rw [List.all_eq_true] at hdd ⊢
     exact fun x hx=>hdd x(List.mem_of_mem_take hx))
    have hlt9:Num.val((s.drop(s.length - 9)).take j) < 1000000000:=by
     refine Nat.lt_of_lt_of_le hlt(Nat.le_trans(Nat.pow_le_pow_right(by omega)(show _<=9 by rw [List.length_take,List.length_drop]; omega))(by decide))
    refine ae(fun h6=>?_)(fun h6=>?_)
    · have h6:=of_decide_eq_true h6
     have hin:s.length - 9 + j < s.length:=by omega
     have hdig:=z3 hs hin
     have hdr:=Num.isDig_iff.1 hdig
     have hdv:=Num.dv_lt hdig
     refine⟨_,xC(h:=g2)s(by omega)h6,?_⟩
     have hi' : (((s.length - 9:Nat):Int) + (j:Int)).toNat=s.length - 9 + j:=by omega
     rw [hi']
     have e1:IntKind.wrap .u8((((s.getD(s.length - 9 + j)0).toNat:Nat):Int) - 48)=(Num.dv(s.getD(s.length - 9 + j)0):Nat):=by
      rw [nq(by omega)(by omega)]; unfold Num.dv; omega
     have e2:(s.drop(s.length - 9)).getD j 0=s.getD(s.length - 9 + j)0:=by
      rw [List.getD_eq_getElem?_getD,List.getElem?_drop,List.getD_eq_getElem?_getD]
     have e3:=BN(l:=s.drop(s.length - 9))(i:=j)(by rw [List.length_drop]; omega)
     rw [e2] at e3
     dsimp af
     rw [e1,cJ(n:=((Num.dv(s.getD(s.length - 9 + j)0):Nat):Int))(by omega)(by omega),cJ(n:=10 * ((Num.val((s.drop(s.length - 9)).take j):Nat):Int))(by omega)(by omega),cJ(by omega)(by omega),ap(n:=((s.length - 9:Nat):Int) + (j:Int) + 1)(by omega)(by omega)]
     exact ph(mz2 - 1)(by omega)⟨j + 1,by omega,by omega,by omega,by rw [e3]; omega,rfl⟩
    · have h6:=of_decide_eq_false h6
     have hjl:(s.drop(s.length - 9)).take j=s.drop(s.length - 9):=List.take_of_length_le(by rw [List.length_drop]; omega)
     rw [hjl] at hlt9 ⊢
     refine⟨_,_,_,nG _,?_⟩
     obtain⟨b,m,d,u,g6,g7,g8,g9⟩:=fL w ok ho((Num.val(s.drop(s.length - 9)):Nat):Int)(by rw [List.length_map]; omega)
     refine⟨b,m,d,u,g6,?_⟩
     refine⟨_,MO s(show s.length - 9<=s.length by omega),?_⟩
     refine oQ(s.take(s.length - 9)).length(by rw [List.length_take]; omega)⟨rfl,?_,by rw [List.length_take]; omega,g9,bs ++ [Num.val(s.drop(s.length - 9))],?_,?_,?_,?_⟩
     · rw [List.all_eq_true] at hs ⊢
      exact fun x hx=>hs x(List.mem_of_mem_take hx)
     · intro x hx
      rcases List.mem_append.1 hx with hx | hx
      · exact hb1 x hx
      · rw [List.mem_singleton.1 hx]; exact hlt9
     · rw [List.length_append,List.length_take]; simp; omega
     · rw [List.map_append]; exact g8
     · rw [Num.bv_snoc,List.length_append,hv,G4(s:=s)rfl(by omega),List.length_singleton]
      rcases Nat.lt_or_ge s.length 10 with h7 | h7
      · rw [show s.length - 9=0 by omega,List.take_zero,Num.val_nil]
       simp
      · rw [show s.length - (s.length - 9)=9 by omega,show(10:Nat) ^ 9=1000000000 from rfl,Nat.pow_succ,Nat.mul_add,Nat.mul_assoc]
       omega)
   exact L2 _⟨0,by omega,by omega,rfl,by simp [Num.val_nil],rfl⟩
  · have h5:=of_decide_eq_false h5
   obtain rfl:s=[]:=List.eq_nil_of_length_eq_zero(by omega)
   refine(ny ho(by omega)).mono ?_
   rintro _ g2⟨a',n',c',rfl,o2,rfl⟩
   refine⟨a',n',c',rfl,a',n',c',rfl,?_,ok⟩
   rw [hv,Num.val_nil,Nat.mul_zero,Nat.add_zero,<- Num.trimL_eq(by omega)hb1]
   exact o2)
 exact EA l h _(L1 l.length⟨rfl,hd,hlen,Ok.refl w,[],by simp,by simpa using hlen,.inl⟨rfl,rfl⟩,by simp [Num.bv]⟩)
end Go.Proofs.YtoabjjimjldcfaaGreatDoor
end
section
namespace Go.Num
theorem bv_lt_of_top {b:Nat}(hb:1 < b){x y:List Nat}(hx:∀ d∈x,d < b)(hl:x.length=y.length){j:Nat}(hj:j < x.length)(hd:x.drop(j + 1)=y.drop(j + 1))(hlt:x.getD j 0 < y.getD j 0):bv b x < bv b y:=by
 have h1:=sV b x j(by omega)
 have h2:=sV b y j(by omega)
 rw [bv_drop] at h1 h2
 rw [h1,h2,hd]
 have h3:=bv_lt(b:=b)(x:=x.take j)(fun d hm=>hx d(List.mem_of_mem_take hm))
 rw [List.length_take,Nat.min_eq_left(by omega)] at h3
 have h4:=Nat.mul_le_mul_left(b ^ j)(Nat.succ_le_of_lt(Nat.add_lt_add_right hlt(b * bv b(y.drop(j + 1)))))
 rw [Nat.mul_succ] at h4
 omega
theorem toB_len_lt {b:Nat}(hb:1 < b){m n:Nat}(h:(toB b m).length < (toB b n).length):m < n:=by
 have hn:0 < n:=by
  rcases Nat.eq_zero_or_pos n with e | e
  · subst e; rw [toB_zero] at h; simp at h
  · exact e
 have h1:=bv_lt(toB_lt hb m)
 rw [bv_toB hb] at h1
 have h2:=qR hb hn
 have h3:b ^ (toB b m).length<=b ^ ((toB b n).length - 1):=Nat.pow_le_pow_right(by omega)(by omega)
 omega
end Go.Num
end
section
set_option linter.unusedVariables false
set_option maxRecDepth 100000
namespace Go.Proofs.YtoabjjimjldcfaaGreatDoor
open Go Go.Ab
theorem KP(x:Int)(h:Heap):FW SS 179 [.int .u64 x] h(fun v h'=>v = .bool false/\h' = h):=S2 x h _⟨by simp,rfl⟩
theorem KX(x:Int)(h:Heap):FW SS 82 [.int .i64 x] h(fun v h'=>v = .bool false/\h' = h):=RK x h _⟨by simp,rfl⟩
theorem R5(m n:Nat)(h:Heap):FW SS 169 [.int .u64(m:Int),.int .u64(n:Int)] h(fun v h'=>v = .int .i64(Num.cmpN m n)/\h' = h):=by
 refine Tg _ _ h _((KP _ h).mono ?_)
 rintro _ _⟨rfl,rfl⟩
 refine⟨_,rfl,(KP _ _).mono ?_⟩
 rintro _ _⟨rfl,rfl⟩
 refine⟨_,rfl,ae(fun e=>by cases e)(fun _=>ae(fun e=>by cases e)(fun _=>ae(fun h1=>?_)(fun h1=>ae(fun h2=>?_)(fun h2=>?_))))⟩
 · exact⟨by rw [Num.cmpN_lt(by have:=of_decide_eq_true h1; omega)],rfl⟩
 · exact⟨by rw [Num.cmpN_gt(by have:=of_decide_eq_true h2; omega)],rfl⟩
 · have h1:=of_decide_eq_false h1
  have h2:=of_decide_eq_false h2
  exact⟨by rw [show m=n by omega,Num.cmpN_eq],rfl⟩
theorem Sw(m n:Nat)(h:Heap):FW SS 70 [.int .i64(m:Int),.int .i64(n:Int)] h(fun v h'=>v = .int .i64(Num.cmpN m n)/\h' = h):=by
 refine RI _ _ h _((KX _ h).mono ?_)
 rintro _ _⟨rfl,rfl⟩
 refine⟨_,rfl,(KX _ _).mono ?_⟩
 rintro _ _⟨rfl,rfl⟩
 refine⟨_,rfl,ae(fun e=>by cases e)(fun _=>ae(fun e=>by cases e)(fun _=>ae(fun h1=>?_)(fun h1=>ae(fun h2=>?_)(fun h2=>?_))))⟩
 · exact⟨by rw [Num.cmpN_lt(by have:=of_decide_eq_true h1; omega)],rfl⟩
 · exact⟨by rw [Num.cmpN_gt(by have:=of_decide_eq_true h2; omega)],rfl⟩
 · have h1:=of_decide_eq_false h1
  have h2:=of_decide_eq_false h2
  exact⟨by rw [show m=n by omega,Num.cmpN_eq],rfl⟩
abbrev BB:Nat:=1000000000
abbrev bl(n:Nat):List Value:=(Num.toB BB n).map uv
theorem cI:1 < BB:=by decide
theorem lg {h:Heap}{a b:Option Addr}{n c m d:Nat}{x y:Nat}(ra:Rd h 103(.slice a n c)(bl x))(rb:Rd h 103(.slice b m d)(bl y))(hlen:(Num.toB BB x).length<=10000)(w:Wf h) :
  FW SS 160 [.slice a n c,.slice b m d] h(fun v h'=>v = .int .i64(Num.cmpN x y)/\Ok h h'):=by
 have hn:n=(Num.toB BB x).length:=by have:=ra.len; rwa [List.length_map] at this
 have hm:m=(Num.toB BB y).length:=by have:=rb.len; rwa [List.length_map] at this
 have L:=fun(hl:(Num.toB BB x).length=(Num.toB BB y).length)=>nU a n c b m d(fun mz i g=>i<=n/\mz=n - i/\(Num.toB BB x).drop(n - i)=(Num.toB BB y).drop(n - i)/\Ok h g)(fun v h'=>v = .int .i64(Num.cmpN x y)/\Ok h h')(by
  intro mz i; intros; rename_i g hi
  obtain⟨h1,h2,h3,ok⟩:=hi
  have hw1:IntKind.wrap .i64((n:Int) - 1)=(n:Int) - 1:=ap(by omega)(by omega)
  have hw2:IntKind.wrap .i64((n:Int) - 1 - (i:Int))=(n:Int) - 1 - (i:Int):=ap(by omega)(by omega)
  have hw3:IntKind.wrap .i64((i:Int) + 1)=((i + 1:Nat):Int):=by rw [ap(by omega)(by omega)]; omega
  unfold jd
  rw [hw1,hw2,hw3]
  have ok':=ok.room 18
  refine ae(fun h5=>?_)(fun h5=>?_)
  · have h5:=of_decide_eq_true h5
   have hj:((n:Int) - 1 - (i:Int)).toNat=n - 1 - i:=by omega
   obtain⟨p,g2,g3⟩:=Dy(ra.ok ok')(i:=(n:Int) - 1 - (i:Int))(by omega)(by omega)
   obtain⟨q,g4,g5⟩:=Dy(rb.ok ok')(i:=(n:Int) - 1 - (i:Int))(by omega)(by omega)
   rw [hj] at g3 g5
   refine⟨p,g2,_,g3,q,g4,_,g5,(R5 _ _ _).mono ?_⟩
   rintro _ _⟨rfl,rfl⟩
   have hd:(Num.toB BB x).drop(n - 1 - i + 1)=(Num.toB BB y).drop(n - 1 - i + 1):=by rw [show n - 1 - i + 1=n - i by omega]; exact h3
   refine⟨_,rfl,ae(fun h6=>?_)(fun h6=>?_)⟩
   · refine⟨?_,ok'⟩
    have h6:Num.cmpN((Num.toB BB x).getD(n - 1 - i)0)((Num.toB BB y).getD(n - 1 - i)0)≠0:=by simpa using h6
    rcases Nat.lt_trichotomy((Num.toB BB x).getD(n - 1 - i)0)((Num.toB BB y).getD(n - 1 - i)0) with h7 | h7 | h7
    · have:=Num.bv_lt_of_top cI(Num.toB_lt cI x)hl(by omega)hd h7
     rw [Num.bv_toB cI,Num.bv_toB cI] at this
     rw [Num.cmpN_lt h7,Num.cmpN_lt this]
    · rw [h7,Num.cmpN_eq] at h6; exact absurd rfl h6
    · have:=Num.bv_lt_of_top cI(Num.toB_lt cI y)hl.symm(by omega)hd.symm h7
     rw [Num.bv_toB cI,Num.bv_toB cI] at this
     rw [Num.cmpN_gt h7,Num.cmpN_gt this]
   · have h6:Num.cmpN((Num.toB BB x).getD(n - 1 - i)0)((Num.toB BB y).getD(n - 1 - i)0)=0:=by simpa using h6
    have h7:(Num.toB BB x).getD(n - 1 - i)0=(Num.toB BB y).getD(n - 1 - i)0:=by
     unfold Num.cmpN at h6
     split at h6
     · cases h6
     · split at h6
      · assumption
      · cases h6
    refine nO(mz - 1)(by omega)⟨by omega,by omega,?_,ok'⟩
    rw [show n - (i + 1)=n - 1 - i by omega,List.drop_eq_getElem_cons(show n - 1 - i < (Num.toB BB x).length by omega),List.drop_eq_getElem_cons(show n - 1 - i < (Num.toB BB y).length by omega),hd]
    congr 1
    rw [List.getD_eq_getElem?_getD,List.getElem?_eq_getElem(by omega),List.getD_eq_getElem?_getD,List.getElem?_eq_getElem(by omega)] at h7
    exact h7
  · have h5:=of_decide_eq_false h5
   rw [show n - i=0 by omega,List.drop_zero,List.drop_zero] at h3
   have:x=y:=by rw [<- Num.bv_toB cI x,h3,Num.bv_toB cI]
   exact⟨by rw [this,Num.cmpN_eq],ok⟩)
 refine Cw a n c b m d h _(ae(fun h1=>(Sw _ _ h).mono ?_)(fun h1=>?_))
 · rintro _ _⟨rfl,rfl⟩
  have h1:=I9 h1
  refine⟨_,rfl,?_,Ok.refl w⟩
  rcases Nat.lt_trichotomy n m with h2 | h2 | h2
  · rw [Num.cmpN_lt h2,Num.cmpN_lt(Num.toB_len_lt cI(by omega))]
  · exact absurd h2 h1
  · rw [Num.cmpN_gt h2,Num.cmpN_gt(Num.toB_len_lt cI(by omega))]
 · have h1:=IX h1
  refine L(by omega)n(i:=0)⟨by omega,by omega,?_,Ok.refl w⟩
  rw [Nat.sub_zero,List.drop_of_length_le(by omega),List.drop_of_length_le(by omega)]
theorem Ph {P:Program}{t:TypeId}{h h' : Heap}{p v:Value}(o:Ok h h')(hl:ai P t h p=some v):ai P t h' p=some v:=by
 unfold ai at hl ⊢
 split at hl
 · next hu =>
  split at hl
  · next cs _ _ _ hk=>rw [o.ext _ _ hk]; exact hl
  · cases hl
 · cases hl
theorem JF {h:Heap}{p:Option Addr}{k:Nat}(hp:ai SS.P 103 h(.pointer p)=some(.int .u64(k:Int)))(x y z:Nat)(hx:x < BB)(hk:k<=BB)(hz:z < BB) :
  FW SS 185 [.int .u64(x:Int),.int .u64(y:Int),.int .u64(z:Int),.pointer p] h(fun v h'=>v = .tuple⟨[uv(Num.scaleF BB k x y z).1,uv(Num.scaleF BB k x y z).2]⟩/\h' = h):=by
 have hBv:BB=1000000000:=rfl
 have h1:x * k<=1000000000000000000:=Nat.le_trans(Nat.mul_le_mul(Nat.le_of_lt hx)hk)(by decide)
 have e1:IntKind.wrap .u64((x:Int) * (k:Int))=((x * k:Nat):Int):=by rw [<- Int.natCast_mul]; exact cJ(by omega)(by omega)
 have e2:IntKind.wrap .u64(((x * k:Nat):Int) + (z:Int))=((x * k + z:Nat):Int):=by rw [<- Int.natCast_add]; exact cJ(by omega)(by omega)
 refine I8 _ _ _ p h _⟨_,hp,?_⟩
 dsimp af
 rw [e1,e2]
 refine⟨_,cO(b:=BB)(by omega)(by decide),_,kw(b:=BB)(by omega)(by omega)(by decide),?_,rfl⟩
 unfold uv Num.scaleF
 rw [Int.natCast_emod,Int.natCast_ediv]
theorem BP {h:Heap}{a:Option Addr}{n c:Nat}{p:Option Addr}{k:Nat}{x:List Nat}(ra:Rd h 103(.slice a n c)(x.map uv))(hx:∀ d∈x,d < BB)(hlen:x.length<=10000)(hp:ai SS.P 103 h(.pointer p)=some(.int .u64(k:Int)))(hk0:0 < k)(hk:k<=BB)(w:Wf h) :
  FW SS 167 [.slice a n c,.slice none 0 0,.func(.func 185)⟨[]⟩⟨[.pointer p]⟩] h(dz h 103(bl(Num.bv BB x * k))):=by
 have hn:n=x.length:=by have:=ra.len; rwa [List.length_map] at this
 have hBv:BB=1000000000:=rfl
 have hF:∀ p q c,c<=BB - 1->p < BB->(Num.scaleF BB k p q c).2<=BB - 1:=fun p q c hc hp=>by
  unfold Num.scaleF
  dsimp af
  have h1:p * k<=999999999 * 1000000000:=Nat.mul_le_mul(by omega)hk
  have:(p * k + c) / BB < BB:=Nat.div_lt_of_lt_mul(by rw [hBv]; omega)
  omega
 have hcr:∀ j,Num.cr(Num.scaleF BB k)x [] 0 0 j<=BB - 1:=by
  intro j
  induction j with
  | zero=>exact Nat.zero_le _
  | succ j ih=>exact hF _ _ _ ih(Num.getD_lt(by decide)hx _)
 have fin:Num.trimL(Num.eachF(Num.scaleF BB k)x [] 0(n + 1)0)=Num.toB BB(Num.bv BB x * k):=by
  rw [Num.trimL_eq cI(Num.eachF_lt(fun p q c=>Nat.mod_lt _(by decide))x [] (n + 1)0 0),Num.scale_bv cI hk hk0 hx(n + 1)0 0(by omega)hk0(by omega)]
  rw [List.drop_zero,Nat.add_zero]
 have L:=nR a n c p((n:Int) + 1)(fun mz i cy r rn rc g=>i<=n + 1/\mz=n + 1 - i/\cy=(Num.cr(Num.scaleF BB k)x [] 0 0 i:Nat)/\OwnR h g 103(.slice r rn rc)((Num.eachF(Num.scaleF BB k)x [] 0 i 0).map uv)/\Ok h g)(dz h 103(bl(Num.bv BB x * k)))(by
  intro mz i cy r rn rc; intros; rename_i g hi
  obtain⟨h1,h2,rfl,ho,ok⟩:=hi
  have hw3:IntKind.wrap .i64((i:Int) + 1)=((i + 1:Nat):Int):=by rw [ap(by omega)(by omega)]; omega
  unfold j9
  rw [hw3]
  have hel:(Num.eachF(Num.scaleF BB k)x [] 0 i 0).length=i:=Num.eachF_len _ _ _ _ _ _
  have hsn:=Num.eachF_snoc(Num.scaleF BB k)x [] i 0 0
  rw [Nat.zero_add] at hsn
  have hcr1:Num.cr(Num.scaleF BB k)x [] 0 0(i + 1)=(Num.scaleF BB k(x.getD i 0)(([] : List Nat).getD i 0)(Num.cr(Num.scaleF BB k)x [] 0 0 i)).2:=by
   show(Num.scaleF BB k(x.getD(0 + i)0)(([] : List Nat).getD(0 + i)0)_).2=_
   rw [Nat.zero_add]
  have hci:=hcr i
  have hxi:=Num.getD_lt(b:=BB)(by decide)hx i
  have hp':=Ph ok hp
  have go:=JF hp' (x.getD i 0)(([] : List Nat).getD i 0)(Num.cr(Num.scaleF BB k)x [] 0 0 i)hxi hk(by omega)
  have y0:([] : List Nat).getD i 0=0:=by simp
  refine ae(fun h5=>?_)(fun h5=>?_)
  · have h5:=of_decide_eq_true h5
   refine ae(fun h6=>?_)(fun h6=>?_)
   · have h6:=of_decide_eq_true h6
    obtain⟨q,g2,g3⟩:=Dy(ra.ok ok)(i:=(i:Int))(by omega)(by omega)
    rw [Int.toNat_natCast] at g3
    refine⟨q,g2,_,g3,ae(fun h7=>?_)(fun h7=>?_)⟩
    · have:=of_decide_eq_true h7; omega
    · refine(show FW SS 185 [.int .u64((x.getD i 0:Nat):Int),.int .u64((([] : List Nat).getD i 0:Nat):Int),.int .u64((Num.cr(Num.scaleF BB k)x [] 0 0 i:Nat):Int),.pointer p] g _ from go).mono ?_ |> (fun hh=>by rw [y0] at hh; exact hh)
     rintro _ _⟨rfl,rfl⟩
     refine⟨_,_,rfl,_,_,_,nG _,?_⟩
     obtain⟨b,m,d,u,g6,g7,g8,g9⟩:=fL w ok ho((Num.scaleF BB k(x.getD i 0)(([] : List Nat).getD i 0)(Num.cr(Num.scaleF BB k)x [] 0 0 i)).1:Nat)(by rw [List.length_map,hel]; omega)
     refine⟨b,m,d,u,g6,gk(mz - 1)(by omega)⟨by omega,by omega,by rw [hcr1],?_,g9⟩⟩
     rw [hsn,List.map_append]
     exact g8
   · have h6:=of_decide_eq_false h6
    have hx0:x.getD i 0=0:=by rw [List.getD_eq_getElem?_getD,List.getElem?_eq_none(by omega)]; rfl
    refine ae(fun h7=>?_)(fun h7=>?_)
    · have:=of_decide_eq_true h7; omega
    · refine(show FW SS 185 [.int .u64((x.getD i 0:Nat):Int),.int .u64((([] : List Nat).getD i 0:Nat):Int),.int .u64((Num.cr(Num.scaleF BB k)x [] 0 0 i:Nat):Int),.pointer p] g _ from go).mono ?_ |> (fun hh=>by rw [y0,hx0] at hh; exact hh)
     rintro _ _⟨rfl,rfl⟩
     refine⟨_,_,rfl,_,_,_,nG _,?_⟩
     obtain⟨b,m,d,u,g6,g7,g8,g9⟩:=fL w ok ho((Num.scaleF BB k(x.getD i 0)(([] : List Nat).getD i 0)(Num.cr(Num.scaleF BB k)x [] 0 0 i)).1:Nat)(by rw [List.length_map,hel]; omega)
     refine⟨b,m,d,u,g6,gk(mz - 1)(by omega)⟨by omega,by omega,by rw [hcr1],?_,g9⟩⟩
     rw [hsn,List.map_append]
     exact g8
  · have h5:=of_decide_eq_false h5
   obtain rfl:i=n + 1:=by omega
   refine(ny ho(by rw [hel]; omega)).mono ?_
   rintro _ g2⟨a',n',c',rfl,o2,rfl⟩
   rw [fin] at o2
   exact⟨a',n',c',rfl,a',n',c',rfl,o2,ok⟩)
 refine Cj a n c p h _⟨_,uy _ _ _,?_⟩
 have hmx:(if(0:Int) > (n:Int) then(0:Int) else(n:Int))=(n:Int):=if_neg(by omega)
 have hw:IntKind.wrap .i64((n:Int) + 1)=(n:Int) + 1:=ap(by omega)(by omega)
 dsimp af
 rw [hmx,hw]
 exact L(n + 1)(i:=0)⟨by omega,by omega,rfl,.inl⟨rfl,rfl⟩,Ok.refl w⟩
end Go.Proofs.YtoabjjimjldcfaaGreatDoor
end
section
set_option linter.unusedVariables false
set_option maxRecDepth 100000
namespace Go.Proofs.YtoabjjimjldcfaaGreatDoor
open Go Go.Ab
noncomputable def cE:Code:=(Tryz.f176.body).getD .skip
noncomputable def cG(Q:VH):ak:=cF SS Tryz.f176.results.toList Q
def r6:List Nat:=[0,1,5,7,8,9,10,87,88,128,129]
noncomputable def cD(p:List Nat)(w:LV)(h:Heap)(Q:ak):Prop:=bq SS Tryz.f176.ntmps r6(aQ p cE)w h Q
noncomputable def cH(p b:List Nat)(K:ak):ak:=ko SS Tryz.f176.ntmps r6 p(aQ b cE)K
abbrev JJ(a:OA)(n c:Nat)(b:OA)(m d:Nat)(h:Heap)(Q:VH):Prop:=xP(ag SS.P 136(.slice a n c)(iA m))fun p1=>xI .u64(ai SS.P 103(room h 12)(.pointer(some p1)))fun n2=>xP(ag SS.P 136(.slice a n c)(.int .i64(IntKind.wrap .i64((m:Int) - 1))))fun p3=>xI .u64(ai SS.P 103(room h 12)(.pointer(some p3)))fun n4=>xP(ag SS.P 136(.slice b m d)(.int .i64(IntKind.wrap .i64((m:Int) - 1))))fun p5=>xI .u64(ai SS.P 103(room(room h 12)16)(.pointer(some p5)))fun n6=>xI .u64(an SS.P .quo 103(.int .u64(IntKind.wrap .u64(IntKind.wrap .u64(n2 * 1000000000) + n4)))(.int .u64 n6))fun n7=>xP(ag SS.P 136(.slice b m d)(.int .i64(IntKind.wrap .i64((m:Int) - 1))))fun p8=>xI .u64(ai SS.P 103(room(room h 12)16)(.pointer(some p8)))fun n9=>xI .u64(an SS.P .rem 103(.int .u64(IntKind.wrap .u64(IntKind.wrap .u64(n2 * 1000000000) + n4)))(.int .u64 n9))fun n10=>cD [1,1,1,1,0,0,0] [(.slice a n c),(.slice b m d),(iA m),(.int .u64 n7),(.int .u64 n10),undef,undef,undef,undef,undef,undef] (room(room h 12)16)(cH [1,1,1,1,0,0] [] (cG Q))
theorem Hv(a:OA)(n c:Nat)(b:OA)(m d:Nat)(h:Heap)(Q:VH)(hx:JJ a n c b m d h Q):FW SS 176 [(.slice a n c),(.slice b m d)] h Q:=ay(M:=r6)(c:=cE)Tryz.func176(show Tryz.f176.body=some cE by kernel_rfl)(by kernel_rfl)(aj hx(by kernel_rfl))
abbrev gH(a:OA)(n c:Nat)(b:OA)(m d:Nat)  (q:Int)(rest:Int)(y9 y10 y87 y88 y128 y129:Value):LV:=[(.slice a n c),(.slice b m d),(iA m),(.int .u64 q),(.int .u64 rest),y9,y10,y87,y88,y128,y129]
def cd(a:OA)(n c:Nat)(b:OA)(m d:Nat)  (Inv:Nat->Int->Int->Heap->Prop)(mz:Nat)(w:LV)(h:Heap):Prop:= ∃ (q:Int)(rest:Int)(y9 y10 y87 y88 y128 y129:Value),w=(gH a n c b m d q rest y9 y10 y87 y88 y128 y129)/\Inv mz q rest h
abbrev me(a:OA)(n c:Nat)(b:OA)(m d:Nat)  (Inv:Nat->Int->Int->Heap->Prop)(Q:VH)(mz:Nat)(q:Int)(rest:Int)(y9 y10 y87 y88 y128 y129:Value)(zz:Nat->Value)(h:Heap):Prop:=ax(decide((q:Int)>=1000000000))(xP(ag SS.P 136(.slice b m d)(.int .i64(IntKind.wrap .i64((m:Int) - 1))))fun p11=>xI .u64(ai SS.P 103(room h 28)(.pointer(some p11)))fun n12=>ax(decide((IntKind.wrap .u64(rest + n12):Int)>=1000000000))(ax(decide((IntKind.wrap .u64(q - 1):Int) < 1000000000))(cD [1,1,1,1,1,1,0,1,0,0] [(.slice a n c),(.slice b m d),(iA m),(.int .u64(IntKind.wrap .u64(q - 1))),(.int .u64(IntKind.wrap .u64(rest + n12))),(.int .u64 0),(.int .u64 0),(.int .i64(IntKind.wrap .i64((m:Int) + 1))),(.int .i64 0),y128,y129] (room h 28)(cH [1,1,1,1,1,1,0,1,0] [] (cG Q)))(al(cd a n c b m d Inv)mz [(.slice a n c),(.slice b m d),(iA m),(.int .u64(IntKind.wrap .u64(q - 1))),(.int .u64(IntKind.wrap .u64(rest + n12))),y9,y10,y87,y88,y128,y129] (room h 28)))(al(cd a n c b m d Inv)mz [(.slice a n c),(.slice b m d),(iA m),(.int .u64(IntKind.wrap .u64(q - 1))),(.int .u64(IntKind.wrap .u64(rest + n12))),y9,y10,y87,y88,y128,y129] (room h 28)))(ax(decide(((m:Int):Int) > 1))(ax(decide((rest:Int) < 1000000000))(xP(ag SS.P 136(.slice b m d)(.int .i64(IntKind.wrap .i64((m:Int) - 2))))fun p13=>xI .u64(ai SS.P 103(room h 28)(.pointer(some p13)))fun n14=>xP(ag SS.P 136(.slice a n c)(.int .i64(IntKind.wrap .i64((m:Int) - 2))))fun p15=>xI .u64(ai SS.P 103(room h 28)(.pointer(some p15)))fun n16=>ax(decide((IntKind.wrap .u64(q * n14):Int) > IntKind.wrap .u64(IntKind.wrap .u64(rest * 1000000000) + n16)))(xP(ag SS.P 136(.slice b m d)(.int .i64(IntKind.wrap .i64((m:Int) - 1))))fun p17=>xI .u64(ai SS.P 103(room h 28)(.pointer(some p17)))fun n18=>ax(decide((IntKind.wrap .u64(rest + n18):Int)>=1000000000))(ax(decide((IntKind.wrap .u64(q - 1):Int) < 1000000000))(cD [1,1,1,1,1,1,0,1,0,0] [(.slice a n c),(.slice b m d),(iA m),(.int .u64(IntKind.wrap .u64(q - 1))),(.int .u64(IntKind.wrap .u64(rest + n18))),(.int .u64 0),(.int .u64 0),(.int .i64(IntKind.wrap .i64((m:Int) + 1))),(.int .i64 0),y128,y129] (room h 28)(cH [1,1,1,1,1,1,0,1,0] [] (cG Q)))(al(cd a n c b m d Inv)mz [(.slice a n c),(.slice b m d),(iA m),(.int .u64(IntKind.wrap .u64(q - 1))),(.int .u64(IntKind.wrap .u64(rest + n18))),y9,y10,y87,y88,y128,y129] (room h 28)))(al(cd a n c b m d Inv)mz [(.slice a n c),(.slice b m d),(iA m),(.int .u64(IntKind.wrap .u64(q - 1))),(.int .u64(IntKind.wrap .u64(rest + n18))),y9,y10,y87,y88,y128,y129] (room h 28)))(cD [1,1,1,1,1,1,0,1,0,0] [(.slice a n c),(.slice b m d),(iA m),(.int .u64 q),(.int .u64 rest),(.int .u64 0),(.int .u64 0),(.int .i64(IntKind.wrap .i64((m:Int) + 1))),(.int .i64 0),y128,y129] (room h 28)(cH [1,1,1,1,1,1,0,1,0] [] (cG Q))))(cD [1,1,1,1,1,1,0,1,0,0] [(.slice a n c),(.slice b m d),(iA m),(.int .u64 q),(.int .u64 rest),(.int .u64 0),(.int .u64 0),(.int .i64(IntKind.wrap .i64((m:Int) + 1))),(.int .i64 0),y128,y129] (room h 28)(cH [1,1,1,1,1,1,0,1,0] [] (cG Q))))(cD [1,1,1,1,1,1,0,1,0,0] [(.slice a n c),(.slice b m d),(iA m),(.int .u64 q),(.int .u64 rest),(.int .u64 0),(.int .u64 0),(.int .i64(IntKind.wrap .i64((m:Int) + 1))),(.int .i64 0),y128,y129] (room h 28)(cH [1,1,1,1,1,1,0,1,0] [] (cG Q))))
theorem cL {a:OA}{n c:Nat}{b:OA}{m d:Nat}  {Inv:Nat->Int->Int->Heap->Prop}{mz:Nat}(mq:Nat){q:Int}{rest:Int}{y9 y10 y87 y88 y128 y129:Value}{h:Heap}(hm:mq < mz)(hi:Inv mq q rest h):al(cd a n c b m d Inv)mz(gH a n c b m d q rest y9 y10 y87 y88 y128 y129)h :=⟨mq,hm,q,rest,y9,y10,y87,y88,y128,y129,rfl,hi⟩
theorem qr(a:OA)(n c:Nat)(b:OA)(m d:Nat)  (Inv:Nat->Int->Int->Heap->Prop)(Q:VH)(step:∀ (mz:Nat)(q:Int)(rest:Int)(y9 y10 y87 y88 y128 y129:Value)(zz:Nat->Value)(h:Heap),Inv mz q rest h->me a n c b m d Inv Q mz q rest y9 y10 y87 y88 y128 y129 zz h)(mz:Nat){q:Int}{rest:Int}{y9 y10 y87 y88 y128 y129:Value}{h:Heap}(hi:Inv mz q rest h):cD [1,1,1,1,0,0,0] (gH a n c b m d q rest y9 y10 y87 y88 y128 y129)h(cH [1,1,1,1,0,0] [] (cG Q)):=
 aq(A:=(cd a n c b m d Inv))(show aG Tryz.f176.ntmps(aQ [1,1,1,1,0,0,0] cE)=true by kernel_rfl)(fun mz w zz h⟨q,rest,y9,y10,y87,y88,y128,y129,hw,hi⟩=> by subst hw; exact aj(step mz q rest y9 y10 y87 y88 y128 y129 zz h hi)(by kernel_rfl))mz _ h⟨q,rest,y9,y10,y87,y88,y128,y129,rfl,hi⟩(fun zz=>by kernel_rfl)(by kernel_rfl)
abbrev gr(a:OA)(n c:Nat)(b:OA)(m d:Nat)(q aS:Int)(i:Nat)(bo:Int)(cy:Int)(y8 y128 y129:Value):LV:=[(.slice a n c),(.slice b m d),(iA m),(.int .u64 q),y8,(.int .u64 bo),(.int .u64 cy),(.int .i64 aS),(iA i),y128,y129]
def dY(a:OA)(n c:Nat)(b:OA)(m d:Nat)(q aS:Int)(Inv:Nat->Nat->Int->Int->Heap->Prop)(mz:Nat)(w:LV)(h:Heap):Prop:= ∃ (i:Nat)(bo:Int)(cy:Int)(y8 y128 y129:Value),w=(gr a n c b m d q aS i bo cy y8 y128 y129)/\Inv mz i bo cy h
abbrev vR(a:OA)(n c:Nat)(b:OA)(m d:Nat)(q aS:Int)(Inv:Nat->Nat->Int->Int->Heap->Prop)(Q:VH)(mz:Nat)(i:Nat)(bo:Int)(cy:Int)(y8 y128 y129:Value)(zz:Nat->Value)(h:Heap):Prop:=ax(decide(((i:Int):Int) < aS))(ax(decide(((i:Int):Int) < (m:Int)))(xP(ag SS.P 136(.slice b m d)(iA i))fun p19=>xI .u64(ai SS.P 103 h(.pointer(some p19)))fun n20=>xP(ag SS.P 136(.slice a n c)(iA i))fun p21=>xI .u64(ai SS.P 103 h(.pointer(some p21)))fun n22=>xI .u64(an SS.P .rem 103(.int .u64(IntKind.wrap .u64(cy + IntKind.wrap .u64(q * n20))))(.int .u64 1000000000))fun n23=>xI .u64(an SS.P .rem 103(.int .u64(IntKind.wrap .u64(IntKind.wrap .u64(IntKind.wrap .u64(n22 + 1000000000) - n23) - bo)))(.int .u64 1000000000))fun n24=>xI .u64(an SS.P .quo 103(.int .u64(IntKind.wrap .u64(IntKind.wrap .u64(IntKind.wrap .u64(n22 + 1000000000) - n23) - bo)))(.int .u64 1000000000))fun n25=>xI .u64(an SS.P .quo 103(.int .u64(IntKind.wrap .u64(cy + IntKind.wrap .u64(q * n20))))(.int .u64 1000000000))fun n26=>xP(ag SS.P 136(.slice a n c)(iA i))fun p27=>xU(am SS.P 103(.pointer(some p27))(.int .u64 n24)h)h fun u28 g29=>al(dY a n c b m d q aS Inv)mz [(.slice a n c),(.slice b m d),(iA m),(.int .u64 q),y8,(.int .u64(IntKind.wrap .u64(1 - n25))),(.int .u64 n26),(.int .i64 aS),(.int .i64(IntKind.wrap .i64((i:Int) + 1))),y128,y129] g29)(xP(ag SS.P 136(.slice a n c)(iA i))fun p30=>xI .u64(ai SS.P 103 h(.pointer(some p30)))fun n31=>xI .u64(an SS.P .rem 103(.int .u64 cy)(.int .u64 1000000000))fun n32=>xI .u64(an SS.P .rem 103(.int .u64(IntKind.wrap .u64(IntKind.wrap .u64(IntKind.wrap .u64(n31 + 1000000000) - n32) - bo)))(.int .u64 1000000000))fun n33=>xI .u64(an SS.P .quo 103(.int .u64(IntKind.wrap .u64(IntKind.wrap .u64(IntKind.wrap .u64(n31 + 1000000000) - n32) - bo)))(.int .u64 1000000000))fun n34=>xI .u64(an SS.P .quo 103(.int .u64 cy)(.int .u64 1000000000))fun n35=>xP(ag SS.P 136(.slice a n c)(iA i))fun p36=>xU(am SS.P 103(.pointer(some p36))(.int .u64 n33)h)h fun u37 g38=>al(dY a n c b m d q aS Inv)mz [(.slice a n c),(.slice b m d),(iA m),(.int .u64 q),y8,(.int .u64(IntKind.wrap .u64(1 - n34))),(.int .u64 n35),(.int .i64 aS),(.int .i64(IntKind.wrap .i64((i:Int) + 1))),y128,y129] g38))(ax(((bo:Int) == 0))(Q(.int .u64 q)h)(cD [1,1,1,1,1,1,1,1,1,0,1,0,0] [(.slice a n c),(.slice b m d),(iA m),(.int .u64 q),y8,(.int .u64 bo),(.int .u64 0),(.int .i64 aS),(iA i),(.int .i64(IntKind.wrap .i64((m:Int) + 1))),(.int .i64 0)] h(cH [1,1,1,1,1,1,1,1,1,0,1,0] [] (cG Q))))
theorem iJ {a:OA}{n c:Nat}{b:OA}{m d:Nat}{q aS:Int}{Inv:Nat->Nat->Int->Int->Heap->Prop}{mz:Nat}(mq:Nat){i:Nat}{bo:Int}{cy:Int}{y8 y128 y129:Value}{h:Heap}(hm:mq < mz)(hi:Inv mq i bo cy h):al(dY a n c b m d q aS Inv)mz(gr a n c b m d q aS i bo cy y8 y128 y129)h :=⟨mq,hm,i,bo,cy,y8,y128,y129,rfl,hi⟩
theorem qw(a:OA)(n c:Nat)(b:OA)(m d:Nat)(q aS:Int)(Inv:Nat->Nat->Int->Int->Heap->Prop)(Q:VH)(step:∀ (mz:Nat)(i:Nat)(bo:Int)(cy:Int)(y8 y128 y129:Value)(zz:Nat->Value)(h:Heap),Inv mz i bo cy h->vR a n c b m d q aS Inv Q mz i bo cy y8 y128 y129 zz h)(mz:Nat){i:Nat}{bo:Int}{cy:Int}{y8 y128 y129:Value}{h:Heap}(hi:Inv mz i bo cy h):cD [1,1,1,1,1,1,0,1,0,0] (gr a n c b m d q aS i bo cy y8 y128 y129)h(cH [1,1,1,1,1,1,0,1,0] [] (cG Q)):=
 aq(A:=(dY a n c b m d q aS Inv))(show aG Tryz.f176.ntmps(aQ [1,1,1,1,1,1,0,1,0,0] cE)=true by kernel_rfl)(fun mz w zz h⟨i,bo,cy,y8,y128,y129,hw,hi⟩=> by subst hw; exact aj(step mz i bo cy y8 y128 y129 zz h hi)(by kernel_rfl))mz _ h⟨i,bo,cy,y8,y128,y129,rfl,hi⟩(fun zz=>by kernel_rfl)(by kernel_rfl)
abbrev gI(a:OA)(n c:Nat)(b:OA)(m d:Nat)(q aS:Int)(i:Nat)(cy:Int)(y8 y9 y87 y88:Value):LV:=[(.slice a n c),(.slice b m d),(iA m),(.int .u64 q),y8,y9,(.int .u64 cy),y87,y88,(.int .i64 aS),(iA i)]
def ej(a:OA)(n c:Nat)(b:OA)(m d:Nat)(q aS:Int)(Inv:Nat->Nat->Int->Heap->Prop)(mz:Nat)(w:LV)(h:Heap):Prop:= ∃ (i:Nat)(cy:Int)(y8 y9 y87 y88:Value),w=(gI a n c b m d q aS i cy y8 y9 y87 y88)/\Inv mz i cy h
abbrev vN(a:OA)(n c:Nat)(b:OA)(m d:Nat)(q aS:Int)(Inv:Nat->Nat->Int->Heap->Prop)(Q:VH)(mz:Nat)(i:Nat)(cy:Int)(y8 y9 y87 y88:Value)(zz:Nat->Value)(h:Heap):Prop:=ax(decide(((i:Int):Int) < aS))(xP(ag SS.P 136(.slice a n c)(iA i))fun p39=>xI .u64(ai SS.P 103 h(.pointer(some p39)))fun n40=>ax(decide(((i:Int):Int) < (m:Int)))(xP(ag SS.P 136(.slice b m d)(iA i))fun p41=>xI .u64(ai SS.P 103 h(.pointer(some p41)))fun n42=>xI .u64(an SS.P .rem 103(.int .u64(IntKind.wrap .u64(IntKind.wrap .u64(n40 + cy) + n42)))(.int .u64 1000000000))fun n43=>xI .u64(an SS.P .quo 103(.int .u64(IntKind.wrap .u64(IntKind.wrap .u64(n40 + cy) + n42)))(.int .u64 1000000000))fun n44=>xP(ag SS.P 136(.slice a n c)(iA i))fun p45=>xU(am SS.P 103(.pointer(some p45))(.int .u64 n43)h)h fun u46 g47=>al(ej a n c b m d q aS Inv)mz [(.slice a n c),(.slice b m d),(iA m),(.int .u64 q),y8,y9,(.int .u64 n44),y87,y88,(.int .i64 aS),(.int .i64(IntKind.wrap .i64((i:Int) + 1)))] g47)(xI .u64(an SS.P .rem 103(.int .u64(IntKind.wrap .u64(n40 + cy)))(.int .u64 1000000000))fun n48=>xI .u64(an SS.P .quo 103(.int .u64(IntKind.wrap .u64(n40 + cy)))(.int .u64 1000000000))fun n49=>xP(ag SS.P 136(.slice a n c)(iA i))fun p50=>xU(am SS.P 103(.pointer(some p50))(.int .u64 n48)h)h fun u51 g52=>al(ej a n c b m d q aS Inv)mz [(.slice a n c),(.slice b m d),(iA m),(.int .u64 q),y8,y9,(.int .u64 n49),y87,y88,(.int .i64 aS),(.int .i64(IntKind.wrap .i64((i:Int) + 1)))] g52))(Q(.int .u64(IntKind.wrap .u64(q - 1)))h)
theorem iI {a:OA}{n c:Nat}{b:OA}{m d:Nat}{q aS:Int}{Inv:Nat->Nat->Int->Heap->Prop}{mz:Nat}(mq:Nat){i:Nat}{cy:Int}{y8 y9 y87 y88:Value}{h:Heap}(hm:mq < mz)(hi:Inv mq i cy h):al(ej a n c b m d q aS Inv)mz(gI a n c b m d q aS i cy y8 y9 y87 y88)h :=⟨mq,hm,i,cy,y8,y9,y87,y88,rfl,hi⟩
theorem qy(a:OA)(n c:Nat)(b:OA)(m d:Nat)(q aS:Int)(Inv:Nat->Nat->Int->Heap->Prop)(Q:VH)(step:∀ (mz:Nat)(i:Nat)(cy:Int)(y8 y9 y87 y88:Value)(zz:Nat->Value)(h:Heap),Inv mz i cy h->vN a n c b m d q aS Inv Q mz i cy y8 y9 y87 y88 zz h)(mz:Nat){i:Nat}{cy:Int}{y8 y9 y87 y88:Value}{h:Heap}(hi:Inv mz i cy h):cD [1,1,1,1,1,1,1,1,1,0,1,0,0] (gI a n c b m d q aS i cy y8 y9 y87 y88)h(cH [1,1,1,1,1,1,1,1,1,0,1,0] [] (cG Q)):=
 aq(A:=(ej a n c b m d q aS Inv))(show aG Tryz.f176.ntmps(aQ [1,1,1,1,1,1,1,1,1,0,1,0,0] cE)=true by kernel_rfl)(fun mz w zz h⟨i,cy,y8,y9,y87,y88,hw,hi⟩=> by subst hw; exact aj(step mz i cy y8 y9 y87 y88 zz h hi)(by kernel_rfl))mz _ h⟨i,cy,y8,y9,y87,y88,rfl,hi⟩(fun zz=>by kernel_rfl)(by kernel_rfl)
noncomputable def cm:Code:=(Tryz.f163.body).getD .skip
noncomputable def fh(Q:VH):ak:=cF SS Tryz.f163.results.toList Q
def oT:List Nat:=[0,1,4,5,6,7,8,9,12,49,50,74,75]
noncomputable def fg(p:List Nat)(w:LV)(h:Heap)(Q:ak):Prop:=bq SS Tryz.f163.ntmps oT(aQ p cm)w h Q
noncomputable def ff(p b:List Nat)(K:ak):ak:=ko SS Tryz.f163.ntmps oT p(aQ b cm)K
abbrev Ip(a:OA)(n c:Nat)(b:OA)(m d:Nat)(h:Heap)(Q:VH):Prop:=FW SS 160 [(.slice a n c),(.slice b m d)] h fun v1 h2=>yI .i64 v1 fun n3=>ax(decide((n3:Int) < 0))(Q(.tuple⟨[nA,(.slice a n c)]⟩)h2)(xP(ag SS.P 136(.slice b m d)(.int .i64(IntKind.wrap .i64((m:Int) - 1))))fun p4=>xI .u64(ai SS.P 103 h2(.pointer(some p4)))fun n5=>xI .u64(an SS.P .quo 103(.int .u64 1000000000)(.int .u64(IntKind.wrap .u64(n5 + 1))))fun n6=>FW SS 175 [(.slice a n c),(.int .u64 n6)] h2 fun v7 h8=>yL v7 fun a9 n10 c11=>FW SS 175 [(.slice b m d),(.int .u64 n6)] h8 fun v12 h13=>yL v12 fun a14 n15 c16=>fg [1,1,1,1,1,0,0,0] [(.slice a n c),(.slice b m d),nA,nA,(iA m),(.int .u64 n6),(.slice a9 n10 c11),(.slice a14 n15 c16),undef,undef,undef,undef,undef] h13(ff [1,1,1,1,1,0,0] [] (fh Q)))
theorem E3(a:OA)(n c:Nat)(b:OA)(m d:Nat)(h:Heap)(Q:VH)(hx:Ip a n c b m d h Q):FW SS 163 [(.slice a n c),(.slice b m d)] h Q:=ay(M:=oT)(c:=cm)Tryz.func163(show Tryz.f163.body=some cm by kernel_rfl)(by kernel_rfl)(aj hx(by kernel_rfl))
abbrev fS(a:OA)(n c:Nat)(b:OA)(m d:Nat)(kk:Int)(e:OA)(en ec:Nat)(r:OA)(rn:Nat)(rc:Nat)(y4 y5 y12 y49 y50 y74 y75:Value):LV:=[(.slice a n c),(.slice b m d),y4,y5,(iA m),(.int .u64 kk),(.slice r rn rc),(.slice e en ec),y12,y49,y50,y74,y75]
def gh(a:OA)(n c:Nat)(b:OA)(m d:Nat)(kk:Int)(e:OA)(en ec:Nat)(Inv:Nat->OA->Nat->Nat->Heap->Prop)(mz:Nat)(w:LV)(h:Heap):Prop:= ∃ (r:OA)(rn:Nat)(rc:Nat)(y4 y5 y12 y49 y50 y74 y75:Value),w=(fS a n c b m d kk e en ec r rn rc y4 y5 y12 y49 y50 y74 y75)/\Inv mz r rn rc h
abbrev ur(a:OA)(n c:Nat)(b:OA)(m d:Nat)(kk:Int)(e:OA)(en ec:Nat)(Inv:Nat->OA->Nat->Nat->Heap->Prop)(Q:VH)(mz:Nat)(r:OA)(rn:Nat)(rc:Nat)(y4 y5 y12 y49 y50 y74 y75:Value)(zz:Nat->Value)(h:Heap):Prop:=ax(decide(((rn:Int):Int)<=(n:Int)))(xR(az SS.P 136 1 [(0,(.int .u64 0))])h fun B17 n18 c19 g20=>xE(aC SS.P 136 136(.slice r rn rc)(sA(h.next)n18 c19)g20)g20 fun a21 n22 c23 u24 g25=>al(gh a n c b m d kk e en ec Inv)mz [(.slice a n c),(.slice b m d),y4,y5,(iA m),(.int .u64 kk),(.slice a21 n22 c23),(.slice e en ec),y12,y49,y50,y74,y75] g25)(xR(aX SS.P 136(.int .i64(IntKind.wrap .i64((rn:Int) - (m:Int))))(.int .i64(IntKind.wrap .i64((rn:Int) - (m:Int)))))h fun B26 n27 c28 g29=>fg [1,1,1,1,1,1,1,0,1,0,0] [(.slice a n c),(.slice b m d),(sA(h.next)n27 c28),y5,(iA m),(.int .u64 kk),(.slice r rn rc),(.slice e en ec),y12,(iA n27),(.int .i64 0),y74,y75] g29(ff [1,1,1,1,1,1,1,0,1,0] [] (fh Q)))
theorem pb {a:OA}{n c:Nat}{b:OA}{m d:Nat}{kk:Int}{e:OA}{en ec:Nat}{Inv:Nat->OA->Nat->Nat->Heap->Prop}{mz:Nat}(mq:Nat){r:OA}{rn:Nat}{rc:Nat}{y4 y5 y12 y49 y50 y74 y75:Value}{h:Heap}(hm:mq < mz)(hi:Inv mq r rn rc h):al(gh a n c b m d kk e en ec Inv)mz(fS a n c b m d kk e en ec r rn rc y4 y5 y12 y49 y50 y74 y75)h :=⟨mq,hm,r,rn,rc,y4,y5,y12,y49,y50,y74,y75,rfl,hi⟩
theorem py(a:OA)(n c:Nat)(b:OA)(m d:Nat)(kk:Int)(e:OA)(en ec:Nat)(Inv:Nat->OA->Nat->Nat->Heap->Prop)(Q:VH)(step:∀ (mz:Nat)(r:OA)(rn:Nat)(rc:Nat)(y4 y5 y12 y49 y50 y74 y75:Value)(zz:Nat->Value)(h:Heap),Inv mz r rn rc h->ur a n c b m d kk e en ec Inv Q mz r rn rc y4 y5 y12 y49 y50 y74 y75 zz h)(mz:Nat){r:OA}{rn:Nat}{rc:Nat}{y4 y5 y12 y49 y50 y74 y75:Value}{h:Heap}(hi:Inv mz r rn rc h):fg [1,1,1,1,1,0,0,0] (fS a n c b m d kk e en ec r rn rc y4 y5 y12 y49 y50 y74 y75)h(ff [1,1,1,1,1,0,0] [] (fh Q)):=
 aq(A:=(gh a n c b m d kk e en ec Inv))(show aG Tryz.f163.ntmps(aQ [1,1,1,1,1,0,0,0] cm)=true by kernel_rfl)(fun mz w zz h⟨r,rn,rc,y4,y5,y12,y49,y50,y74,y75,hw,hi⟩=> by subst hw; exact aj(step mz r rn rc y4 y5 y12 y49 y50 y74 y75 zz h hi)(by kernel_rfl))mz _ h⟨r,rn,rc,y4,y5,y12,y49,y50,y74,y75,rfl,hi⟩(fun zz=>by kernel_rfl)(by kernel_rfl)
abbrev f0(a:OA)(n c:Nat)(b:OA)(m d:Nat)(kk:Int)(g:OA)(gn gc:Nat)(r:OA)(rn rc:Nat)(e:OA)(en ec:Nat)(aS:Int)(i:Nat)(y5 y12 y74 y75:Value):LV:=[(.slice a n c),(.slice b m d),(.slice g gn gc),y5,(iA m),(.int .u64 kk),(.slice r rn rc),(.slice e en ec),y12,(.int .i64 aS),(iA i),y74,y75]
def fN(a:OA)(n c:Nat)(b:OA)(m d:Nat)(kk:Int)(g:OA)(gn gc:Nat)(r:OA)(rn rc:Nat)(e:OA)(en ec:Nat)(aS:Int)(Inv:Nat->Nat->Heap->Prop)(mz:Nat)(w:LV)(h:Heap):Prop:= ∃ (i:Nat)(y5 y12 y74 y75:Value),w=(f0 a n c b m d kk g gn gc r rn rc e en ec aS i y5 y12 y74 y75)/\Inv mz i h
abbrev kH(a:OA)(n c:Nat)(b:OA)(m d:Nat)(kk:Int)(g:OA)(gn gc:Nat)(r:OA)(rn rc:Nat)(e:OA)(en ec:Nat)(aS:Int)(Inv:Nat->Nat->Heap->Prop)(Q:VH)(mz:Nat)(i:Nat)(y5 y12 y74 y75:Value)(zz:Nat->Value)(h:Heap):Prop:=ax(decide(((i:Int):Int) < aS))(xL(aM SS.P 136(.slice r rn rc)(some(.int .i64(IntKind.wrap .i64(IntKind.wrap .i64((gn:Int) - 1) - (i:Int)))))(some(.int .i64(IntKind.wrap .i64(IntKind.wrap .i64(IntKind.wrap .i64(IntKind.wrap .i64((gn:Int) - 1) - (i:Int)) + (m:Int)) + 1))))none h)fun a30 n31 c32=>FW SS 176 [(.slice a30 n31 c32),(.slice e en ec)] h fun v33 h34=>yI .u64 v33 fun n35=>xP(ag SS.P 136(.slice g gn gc)(.int .i64(IntKind.wrap .i64(IntKind.wrap .i64((gn:Int) - 1) - (i:Int)))))fun p36=>xU(am SS.P 103(.pointer(some p36))(.int .u64 n35)h34)h34 fun u37 g38=>al(fN a n c b m d kk g gn gc r rn rc e en ec aS Inv)mz [(.slice a n c),(.slice b m d),(.slice g gn gc),y5,(iA m),(.int .u64 kk),(.slice r rn rc),(.slice e en ec),y12,(.int .i64 aS),(.int .i64(IntKind.wrap .i64((i:Int) + 1))),y74,y75] g38)(FW SS 142 [(.slice r rn rc)] h fun v39 h40=>yL v39 fun a41 n42 c43=>fg [1,1,1,1,1,1,1,1,1,1,0,1,0,0] [(.slice a n c),(.slice b m d),(.slice g gn gc),(.slice a41 n42 c43),(iA m),(.int .u64 kk),(.slice r rn rc),(.slice e en ec),(.int .u64 0),(.int .i64 aS),(iA i),(iA n42),(.int .i64 0)] h40(ff [1,1,1,1,1,1,1,1,1,1,0,1,0] [] (fh Q)))
theorem oe {a:OA}{n c:Nat}{b:OA}{m d:Nat}{kk:Int}{g:OA}{gn gc:Nat}{r:OA}{rn rc:Nat}{e:OA}{en ec:Nat}{aS:Int}{Inv:Nat->Nat->Heap->Prop}{mz:Nat}(mq:Nat){i:Nat}{y5 y12 y74 y75:Value}{h:Heap}(hm:mq < mz)(hi:Inv mq i h):al(fN a n c b m d kk g gn gc r rn rc e en ec aS Inv)mz(f0 a n c b m d kk g gn gc r rn rc e en ec aS i y5 y12 y74 y75)h :=⟨mq,hm,i,y5,y12,y74,y75,rfl,hi⟩
theorem pe(a:OA)(n c:Nat)(b:OA)(m d:Nat)(kk:Int)(g:OA)(gn gc:Nat)(r:OA)(rn rc:Nat)(e:OA)(en ec:Nat)(aS:Int)(Inv:Nat->Nat->Heap->Prop)(Q:VH)(step:∀ (mz:Nat)(i:Nat)(y5 y12 y74 y75:Value)(zz:Nat->Value)(h:Heap),Inv mz i h->kH a n c b m d kk g gn gc r rn rc e en ec aS Inv Q mz i y5 y12 y74 y75 zz h)(mz:Nat){i:Nat}{y5 y12 y74 y75:Value}{h:Heap}(hi:Inv mz i h):fg [1,1,1,1,1,1,1,0,1,0,0] (f0 a n c b m d kk g gn gc r rn rc e en ec aS i y5 y12 y74 y75)h(ff [1,1,1,1,1,1,1,0,1,0] [] (fh Q)):=
 aq(A:=(fN a n c b m d kk g gn gc r rn rc e en ec aS Inv))(show aG Tryz.f163.ntmps(aQ [1,1,1,1,1,1,1,0,1,0,0] cm)=true by kernel_rfl)(fun mz w zz h⟨i,y5,y12,y74,y75,hw,hi⟩=> by subst hw; exact aj(step mz i y5 y12 y74 y75 zz h hi)(by kernel_rfl))mz _ h⟨i,y5,y12,y74,y75,rfl,hi⟩(fun zz=>by kernel_rfl)(by kernel_rfl)
abbrev ft(a:OA)(n c:Nat)(b:OA)(m d:Nat)(kk:Int)(g:OA)(gn gc:Nat)(r:OA)(rn rc:Nat)(aS:Int)(i:Nat)(bH:Int)(y0 y1 y6 y8 y9 y49 y50:Value):LV:=[y0,y1,(.slice g gn gc),(.slice r rn rc),y6,(.int .u64 kk),y8,y9,(.int .u64 bH),y49,y50,(.int .i64 aS),(iA i)]
def fG(a:OA)(n c:Nat)(b:OA)(m d:Nat)(kk:Int)(g:OA)(gn gc:Nat)(r:OA)(rn rc:Nat)(aS:Int)(Inv:Nat->Nat->Int->Heap->Prop)(mz:Nat)(w:LV)(h:Heap):Prop:= ∃ (i:Nat)(bH:Int)(y0 y1 y6 y8 y9 y49 y50:Value),w=(ft a n c b m d kk g gn gc r rn rc aS i bH y0 y1 y6 y8 y9 y49 y50)/\Inv mz i bH h
abbrev kV(a:OA)(n c:Nat)(b:OA)(m d:Nat)(kk:Int)(g:OA)(gn gc:Nat)(r:OA)(rn rc:Nat)(aS:Int)(Inv:Nat->Nat->Int->Heap->Prop)(Q:VH)(mz:Nat)(i:Nat)(bH:Int)(y0 y1 y6 y8 y9 y49 y50:Value)(zz:Nat->Value)(h:Heap):Prop:=ax(decide(((i:Int):Int) < aS))(xP(ag SS.P 136(.slice r rn rc)(.int .i64(IntKind.wrap .i64(IntKind.wrap .i64((rn:Int) - 1) - (i:Int)))))fun p44=>xI .u64(ai SS.P 103 h(.pointer(some p44)))fun n45=>xI .u64(an SS.P .quo 103(.int .u64(IntKind.wrap .u64(IntKind.wrap .u64(bH * 1000000000) + n45)))(.int .u64 kk))fun n46=>xI .u64(an SS.P .rem 103(.int .u64(IntKind.wrap .u64(IntKind.wrap .u64(bH * 1000000000) + n45)))(.int .u64 kk))fun n47=>xP(ag SS.P 136(.slice r rn rc)(.int .i64(IntKind.wrap .i64(IntKind.wrap .i64((rn:Int) - 1) - (i:Int)))))fun p48=>xU(am SS.P 103(.pointer(some p48))(.int .u64 n46)(room h 11))(room h 11)fun u49 g50=>al(fG a n c b m d kk g gn gc r rn rc aS Inv)mz [y0,y1,(.slice g gn gc),(.slice r rn rc),y6,(.int .u64 kk),y8,y9,(.int .u64 n47),y49,y50,(.int .i64 aS),(.int .i64(IntKind.wrap .i64((i:Int) + 1)))] g50)(FW SS 142 [(.slice g gn gc)] h fun v51 h52=>yL v51 fun a53 n54 c55=>FW SS 142 [(.slice r rn rc)] h52 fun v56 h57=>yL v56 fun a58 n59 c60=>Q(.tuple⟨[(.slice a53 n54 c55),(.slice a58 n59 c60)]⟩)h57)
theorem pP {a:OA}{n c:Nat}{b:OA}{m d:Nat}{kk:Int}{g:OA}{gn gc:Nat}{r:OA}{rn rc:Nat}{aS:Int}{Inv:Nat->Nat->Int->Heap->Prop}{mz:Nat}(mq:Nat){i:Nat}{bH:Int}{y0 y1 y6 y8 y9 y49 y50:Value}{h:Heap}(hm:mq < mz)(hi:Inv mq i bH h):al(fG a n c b m d kk g gn gc r rn rc aS Inv)mz(ft a n c b m d kk g gn gc r rn rc aS i bH y0 y1 y6 y8 y9 y49 y50)h :=⟨mq,hm,i,bH,y0,y1,y6,y8,y9,y49,y50,rfl,hi⟩
theorem pm(a:OA)(n c:Nat)(b:OA)(m d:Nat)(kk:Int)(g:OA)(gn gc:Nat)(r:OA)(rn rc:Nat)(aS:Int)(Inv:Nat->Nat->Int->Heap->Prop)(Q:VH)(step:∀ (mz:Nat)(i:Nat)(bH:Int)(y0 y1 y6 y8 y9 y49 y50:Value)(zz:Nat->Value)(h:Heap),Inv mz i bH h->kV a n c b m d kk g gn gc r rn rc aS Inv Q mz i bH y0 y1 y6 y8 y9 y49 y50 zz h)(mz:Nat){i:Nat}{bH:Int}{y0 y1 y6 y8 y9 y49 y50:Value}{h:Heap}(hi:Inv mz i bH h):fg [1,1,1,1,1,1,1,1,1,1,0,1,0,0] (ft a n c b m d kk g gn gc r rn rc aS i bH y0 y1 y6 y8 y9 y49 y50)h(ff [1,1,1,1,1,1,1,1,1,1,0,1,0] [] (fh Q)):=
 aq(A:=(fG a n c b m d kk g gn gc r rn rc aS Inv))(show aG Tryz.f163.ntmps(aQ [1,1,1,1,1,1,1,1,1,1,0,1,0,0] cm)=true by kernel_rfl)(fun mz w zz h⟨i,bH,y0,y1,y6,y8,y9,y49,y50,hw,hi⟩=> by subst hw; exact aj(step mz i bH y0 y1 y6 y8 y9 y49 y50 zz h hi)(by kernel_rfl))mz _ h⟨i,bH,y0,y1,y6,y8,y9,y49,y50,rfl,hi⟩(fun zz=>by kernel_rfl)(by kernel_rfl)
end Go.Proofs.YtoabjjimjldcfaaGreatDoor
end
section
namespace Go.Num
theorem subL_snoc(B q:Nat)(u v:List Nat):∀ k i b c,subL B q u v i(k + 1)b c =
    ((subL B q u v i k b c).1 ++ [(qt B q(u.getD(i + k)0)(v.getD(i + k)0)(subL B q u v i k b c).2.1(subL B q u v i k b c).2.2).1],
     (qt B q(u.getD(i + k)0)(v.getD(i + k)0)(subL B q u v i k b c).2.1(subL B q u v i k b c).2.2).2.1,
     (qt B q(u.getD(i + k)0)(v.getD(i + k)0)(subL B q u v i k b c).2.1(subL B q u v i k b c).2.2).2.2)
  | 0,i,b,c=>rfl
  | k + 1,i,b,c=>by
    have ih:=subL_snoc B q u v k(i + 1)(qt B q(u.getD i 0)(v.getD i 0)b c).2.1(qt B q(u.getD i 0)(v.getD i 0)b c).2.2
    rw [show i + 1 + k=i + (k + 1) by omega] at ih
    show(_ :: (subL B q u v(i + 1)(k + 1)_ _).1,(subL B q u v(i + 1)(k + 1)_ _).2)=_
    rw [ih]
    rfl
theorem subL_borrow {B q:Nat}(hB:1 < B){u v:List Nat}(hu:∀ d∈u,d < B)(k:Nat):(subL B q u v 0 k 0 0).2.1<=1:=(Eg hB(v:=v)hu k 0 0 0(by omega)).2
theorem subL_carry_lt {B q:Nat}(hB:1 < B)(hq:q < B){u v:List Nat}(hv:∀ d∈v,d < B):∀ k,(subL B q u v 0 k 0 0).2.2 < B
  | 0=>by simp [subL]; omega
  | k + 1=>by
    rw [subL_snoc]
    have ih:=subL_carry_lt hB hq(u:=u)hv k
    have h2:=getD_lt(by omega)hv(0 + k)
    show(q * v.getD(0 + k)0 + (subL B q u v 0 k 0 0).2.2) / B < B
    refine Nat.div_lt_of_lt_mul ?_
    have h3:q * v.getD(0 + k)0<=(B - 1) * (B - 1):=Nat.mul_le_mul(by omega)(by omega)
    have h4:(B - 1) * (B - 1) + (B - 1)=(B - 1) * B:=by rw [<- Nat.mul_succ]; congr 1; omega
    have h5:(B - 1) * B + B=B * B:=by rw [<- Nat.succ_mul]; congr 1; omega
    omega
theorem set_front {α:Type}(x y:List α){i:Nat}(hx:x.length=i)(hi:i < y.length)(d:α):(x ++ y.drop i).set i d=(x ++ [d]) ++ y.drop(i + 1):=by
  rw [List.set_append,if_neg(by omega),hx,Nat.sub_self,List.drop_eq_getElem_cons hi,List.set_cons_zero,List.append_assoc]; rfl
theorem getD_front(x y:List Nat){i:Nat}(hx:x.length=i):(x ++ y.drop i).getD i 0=y.getD i 0:=by
  rw [List.getD_eq_getElem?_getD,List.getElem?_append_right(by omega),hx,Nat.sub_self,List.getElem?_drop,Nat.add_zero,List.getD_eq_getElem?_getD]
end Go.Num
end
section
set_option linter.unusedVariables false
set_option maxRecDepth 100000
namespace Go.Proofs.YtoabjjimjldcfaaGreatDoor
open Go Go.Ab
def aV(cs:List Value)(off:Nat)(W:List Nat):List Value:=cs.take off ++ W.map uv ++ cs.drop(off + W.length)
structure OkX(h:Heap)(k:Nat)(h' : Heap):Prop where
 wf:Wf h'
 keep:∀ j B,j≠k->h.get j=some B->h'.get j=some B
 nx:h.next<=h'.next
theorem OkX.refl {h:Heap}{k:Nat}(w:Wf h):OkX h k h :=⟨w,fun _ _ _ h=>h,Nat.le_refl _⟩
theorem OkX.room {h h' : Heap}{k:Nat}(o:OkX h k h')(n:Nat):OkX h k(room h' n) :=⟨fun j B hj=>Nat.lt_of_lt_of_le(o.wf j B hj)(Nat.le_add_right _ _),o.keep,Nat.le_trans o.nx(Nat.le_add_right _ _)⟩
theorem OkX.set {h h' : Heap}{k:Nat}(o:OkX h k h')(hk:k < h'.next)(B:Blk):OkX h k(h'.set k B):=by
 refine⟨fun j C hj=>?_,fun j C hjk hj=>?_,o.nx⟩
 · rw [Heap.get_set] at hj
  split at hj
  · next e=>rw [e]; exact hk
  · exact o.wf _ _ hj
 · rw [Heap.get_set,if_neg hjk]; exact o.keep _ _ hjk hj
theorem th {k off n c:Nat}{i:Int}(h0:0<=i)(h1:i < n):ag SS.P 136(.slice(some⟨k,off,none⟩)n c)(.int .i64 i)=some(.pointer(some⟨k,off + i.toNat,none⟩)):=by
 unfold ag
 rw [wF]; dsimp af
 rw [AS]; dsimp af
 rw [if_pos⟨h0,h1⟩,Nat.mul_one,bp]
section
variable {g:Heap}{k off:Nat}{cs:List Value}{W:List Nat}
theorem Ak(hg:g.get k=some(.cells(aV cs off W)103 1 true))(hl:off + W.length<=cs.length){i:Nat}(hi:i < W.length):ai SS.P 103 g(.pointer(some⟨k,off + i,none⟩))=some(.int .u64(W.getD i 0:Nat)):=by
 unfold ai
 rw [K7]; dsimp af
 rw [hg]; dsimp af
 rw [Lc]
 simp af [Bool.false_eq_true,if_false]
 unfold aV
 rw [List.append_assoc,List.getElem?_append_right(by rw [List.length_take]; omega),List.length_take,Nat.min_eq_left(by omega),Nat.add_sub_cancel_left,List.getElem?_append_left(by rw [List.length_map]; exact hi),List.getElem?_map,List.getElem?_eq_getElem hi,List.getD_eq_getElem?_getD,List.getElem?_eq_getElem hi]; rfl
theorem As(hg:g.get k=some(.cells(aV cs off W)103 1 true))(hl:off + W.length<=cs.length){i:Nat}(hi:i < W.length)(d:Nat):am SS.P 103(.pointer(some⟨k,off + i,none⟩))(.int .u64(d:Int))g=some(undef,.set k(.cells(aV cs off(W.set i d))103 1 true)):=by
 show(if au SS.P 103=some 1 then(storeAt g k(off + i) [.int .u64(d:Int)]).map fun u=>(undef,u) else none)=_
 rw [if_pos AS]
 unfold storeAt
 rw [hg]; dsimp af
 have hlen:(aV cs off W).length=cs.length:=by
  unfold aV
  simp af [List.length_append,List.length_take,List.length_map,List.length_drop]; omega
 rw [if_pos⟨by rw [hlen]; simp; omega,rfl⟩]
 have e:(aV cs off W).take(off + i) ++ [Value.int .u64(d:Int)] ++ (aV cs off W).drop(off + i + [Value.int .u64(d:Int)].length)=aV cs off(W.set i d):=by
  have ht:(cs.take off).length=off:=by rw [List.length_take]; omega
  have e0:(aV cs off W).take(off + i) ++ [Value.int .u64(d:Int)] ++ (aV cs off W).drop(off + i + [Value.int .u64(d:Int)].length)=(aV cs off W).set(off + i)(.int .u64(d:Int)):=by
   rw [List.set_eq_take_append_cons_drop,if_pos(by rw [hlen]; omega),List.append_assoc]; rfl
  rw [e0]
  unfold aV
  rw [List.append_assoc,List.set_append,if_neg(by omega),ht,Nat.add_sub_cancel_left,List.set_append,if_pos(by rw [List.length_map]; exact hi),List.length_set,List.append_assoc,List.map_set]; rfl
 rw [e]; rfl
end
end Go.Proofs.YtoabjjimjldcfaaGreatDoor
end
section
set_option linter.unusedVariables false
set_option maxRecDepth 100000
namespace Go.Proofs.YtoabjjimjldcfaaGreatDoor
open Go Go.Ab
theorem zf {a:Nat} : an SS.P .rem 103(.int .u64(a:Int))(.int .u64 1000000000)=some(.int .u64((a % BB:Nat):Int)):=by
 have:=cO(P:=SS.P)(t:=103)(k:= .u64)(a:=(a:Int))(b:=BB)(by omega)(by decide)
 rw [<- Int.natCast_emod] at this; exact this
theorem Dk {a:Nat}(h:a < 18446744073709551616):an SS.P .quo 103(.int .u64(a:Int))(.int .u64 1000000000)=some(.int .u64((a / BB:Nat):Int)):=by
 have:=kw(P:=SS.P)(t:=103)(a:=(a:Int))(b:=BB)(by omega)(by omega)(by decide)
 rw [<- Int.natCast_ediv] at this; exact this
theorem Ty {a b:Nat}(hb:0 < b):an SS.P .rem 103(.int .u64(a:Int))(.int .u64(b:Int))=some(.int .u64((a % b:Nat):Int)):=by
 have:=cO(P:=SS.P)(t:=103)(k:= .u64)(a:=(a:Int))(b:=b)(by omega)hb
 rw [<- Int.natCast_emod] at this; exact this
theorem Ps {a b:Nat}(h:a < 18446744073709551616)(hb:0 < b):an SS.P .quo 103(.int .u64(a:Int))(.int .u64(b:Int))=some(.int .u64((a / b:Nat):Int)):=by
 have:=kw(P:=SS.P)(t:=103)(a:=(a:Int))(b:=b)(by omega)(by omega)hb
 rw [<- Int.natCast_ediv] at this; exact this
theorem wU {n:Int}{m:Nat}(h:n=(m:Int))(h2:m < 18446744073709551616):IntKind.wrap .u64 n=(m:Int):=by rw [h]; exact cJ(by omega)(by omega)
structure DigIn(h:Heap)(k off c m:Nat)(cs:List Value)(U V:List Nat)(b:Option Addr)(d:Nat):Prop where
 w:Wf h
 get:h.get k=some(.cells(aV cs off U)103 1 true)
 fit:off + U.length<=cs.length
 ul:U.length=m + 1
 vl:V.length=m
 mp:0 < m
 mle:m<=10000
 ult:∀ x∈U,x < BB
 vlt:∀ x∈V,x < BB
 v1:0 < V.getD(m - 1)0
 lt:Num.bv BB U < BB * Num.bv BB V
 rd:∀ g,OkX h k g->Rd g 103(.slice b m d)(V.map uv)
def EK(h:Heap)(k off:Nat)(cs:List Value)(m:Nat)(U V:List Nat):VH:=fun v h'=>∃ W:List Nat,W.length=m + 1/\(∀ x∈W,x < BB)/\Num.bv BB W=Num.bv BB U % Num.bv BB V/\v=uv(Num.bv BB U / Num.bv BB V)/\h'.get k=some(.cells(aV cs off W)103 1 true)/\OkX h k h'
theorem Gp {h:Heap}{k off c m:Nat}{cs:List Value}{U V:List Nat}{b:Option Addr}{d:Nat}(D:DigIn h k off c m cs U V b d) :
  FW SS 176 [.slice(some⟨k,off,none⟩)(m + 1)c,.slice b m d] h(EK h k off cs m U V):=by
 have hBv:BB=1000000000:=rfl
 have hul:=D.ul
 have hvl:=D.vl
 have hmp:=D.mp
 have hmle:=D.mle
 have hB0:0 < BB:=by decide
 have ug:∀ i,U.getD i 0 < BB:=fun i=>Num.getD_lt hB0 D.ult i
 have vg:∀ i,V.getD i 0 < BB:=fun i=>Num.getD_lt hB0 D.vlt i
 have hw1:IntKind.wrap .i64((m:Int) - 1)=((m - 1:Nat):Int):=by rw [ap(by omega)(by omega)]; omega
 have hw2:1 < m->IntKind.wrap .i64((m:Int) - 2)=((m - 2:Nat):Int):=fun hm=>by rw [ap(by omega)(by omega)]; omega
 have hwm:IntKind.wrap .i64((m:Int) + 1)=(m:Int) + 1:=ap(by omega)(by omega)
 have wi:∀ i:Nat,i<=m->IntKind.wrap .i64((i:Int) + 1)=((i + 1:Nat):Int):=fun i hi=>by rw [ap(by omega)(by omega)]; omega
 have L3:=fun(qn:Nat)(W:List Nat)(hq0:0 < qn)(hqB:qn < BB)(hwl:W.length=m + 1)(hwlt:∀ x∈W,x < BB)(hq:qn - 1=Num.bv BB U / Num.bv BB V)(hres:Num.bv BB(Num.eachF(Num.plusF BB)W V 0(m + 1)0)=Num.bv BB U % Num.bv BB V) =>
  qy(some⟨k,off,none⟩)(m + 1)c b m d(qn:Int)((m:Int) + 1)(fun mz i cy g=>i<=m + 1/\mz=m + 1 - i/\cy=(Num.cr(Num.plusF BB)W V 0 0 i:Nat)/\g.get k=some(.cells(aV cs off(Num.eachF(Num.plusF BB)W V 0 i 0 ++ W.drop i))103 1 true)/\OkX h k g)(EK h k off cs m U V)(by
  intro mz i cy; intros; rename_i g hi
  obtain⟨h1,h2,rfl,hg,ok⟩:=hi
  have hel:(Num.eachF(Num.plusF BB)W V 0 i 0).length=i:=Num.eachF_len _ _ _ _ _ _
  have hsn:=Num.eachF_snoc(Num.plusF BB)W V i 0 0
  rw [Nat.zero_add] at hsn
  have hcr1:Num.cr(Num.plusF BB)W V 0 0(i + 1)=(Num.plusF BB(W.getD i 0)(V.getD i 0)(Num.cr(Num.plusF BB)W V 0 0 i)).2:=by
   show(Num.plusF BB(W.getD(0 + i)0)(V.getD(0 + i)0)_).2=_
   rw [Nat.zero_add]
  have wg:W.getD i 0 < BB:=Num.getD_lt hB0 hwlt i
  have hcb:Num.cr(Num.plusF BB)W V 0 0 i<=1:=by
   clear hcr1 hsn hel hg h2 h1
   induction i with
   | zero=>exact Nat.zero_le _
   | succ j ih =>
    have a1:=Num.getD_lt(b:=BB)hB0 hwlt(0 + j)
    have a2:=vg(0 + j)
    have a3:=ih(Num.getD_lt hB0 hwlt j)
    show(W.getD(0 + j)0 + V.getD(0 + j)0 + Num.cr(Num.plusF BB)W V 0 0 j) / BB<=1
    have:(W.getD(0 + j)0 + V.getD(0 + j)0 + Num.cr(Num.plusF BB)W V 0 0 j) / BB < 2:=Nat.div_lt_of_lt_mul(by omega)
    omega
  have hvi:=vg i
  have hlen:(Num.eachF(Num.plusF BB)W V 0 i 0 ++ W.drop i).length=m + 1:=by rw [List.length_append,hel,List.length_drop]; omega
  have hfit:=D.fit
  refine ae(fun h5=>?_)(fun h5=>?_)
  · have h5:=of_decide_eq_true h5
   have hl:=Ak hg(by rw [hlen]; omega)(i:=i)(by rw [hlen]; omega)
   rw [Num.getD_front _ _ hel] at hl
   have hkn:=ok.wf _ _ hg
   have step:∀ (s:Nat),s=W.getD i 0 + V.getD i 0 + Num.cr(Num.plusF BB)W V 0 0 i->
     am SS.P 103(.pointer(some⟨k,off + i,none⟩))(.int .u64((s % BB:Nat):Int))g=some(undef,.set k(.cells(aV cs off(Num.eachF(Num.plusF BB)W V 0(i + 1)0 ++ W.drop(i + 1)))103 1 true)):=fun s hs=>by
    rw [As hg(by rw [hlen]; omega)(by rw [hlen]; omega),Num.set_front _ _ hel(by omega),hsn,hs]; rfl
   refine⟨_,th(by omega)(by omega),_,by rw [Int.toNat_natCast]; exact hl,?_⟩
   have e1:IntKind.wrap .u64(((W.getD i 0:Nat):Int) + ((Num.cr(Num.plusF BB)W V 0 0 i:Nat):Int))=((W.getD i 0 + Num.cr(Num.plusF BB)W V 0 0 i:Nat):Int):=wU(by omega)(by omega)
   dsimp af
   rw [e1,wi i(by omega)]
   refine ae(fun h6=>?_)(fun h6=>?_)
   · have h6:=of_decide_eq_true h6
    obtain⟨p,g2,g3⟩:=Dy(D.rd g ok)(i:=(i:Int))(by omega)(by omega)
    rw [Int.toNat_natCast] at g3
    refine⟨p,g2,_,g3,?_⟩
    have e2:IntKind.wrap .u64(((W.getD i 0 + Num.cr(Num.plusF BB)W V 0 0 i:Nat):Int) + ((V.getD i 0:Nat):Int))=((W.getD i 0 + V.getD i 0 + Num.cr(Num.plusF BB)W V 0 0 i:Nat):Int):=wU(by omega)(by omega)
    dsimp af
    rw [e2]
    refine⟨_,zf,_,Dk(by omega),_,th(by omega)(by omega),_,by rw [Int.toNat_natCast]; exact step _ rfl,?_⟩
    refine iI(mz - 1)(by omega)⟨by omega,by omega,by rw [hcr1]; rfl,?_,ok.set hkn _⟩
    show(g.set k _).get k=_
    rw [Heap.get_set,if_pos rfl]
   · have h6:=of_decide_eq_false h6
    have hv0:V.getD i 0=0:=by rw [List.getD_eq_getElem?_getD,List.getElem?_eq_none(by omega)]; rfl
    refine⟨_,zf,_,Dk(by omega),_,th(by omega)(by omega),_,by rw [Int.toNat_natCast]; exact step _(by omega),?_⟩
    refine iI(mz - 1)(by omega)⟨by omega,by omega,?_,?_,ok.set hkn _⟩
    · rw [hcr1]
     show _=(((W.getD i 0 + V.getD i 0 + Num.cr(Num.plusF BB)W V 0 0 i) / BB:Nat):Int)
     rw [hv0,Nat.add_zero]
    · show(g.set k _).get k=_
     rw [Heap.get_set,if_pos rfl]
  · have h5:=of_decide_eq_false h5
   obtain rfl:i=m + 1:=by omega
   have e3:IntKind.wrap .u64((qn:Int) - 1)=((qn - 1:Nat):Int):=wU(by omega)(by omega)
   rw [e3]
   rw [List.drop_of_length_le(by omega),List.append_nil] at hg
   exact⟨_,hel,Num.eachF_lt(fun p q c=>Nat.mod_lt _ hB0)_ _ _ _ _,hres,by rw [hq]; rfl,hg,ok⟩)
 have L2:=fun(qn:Nat)(hqB:qn < BB)(hhi:Num.bv BB U < (qn + 1) * Num.bv BB V)(hlo:qn * Num.bv BB V < Num.bv BB U + Num.bv BB V) =>
  qw(some⟨k,off,none⟩)(m + 1)c b m d(qn:Int)((m:Int) + 1)(fun mz i bo cy g=>i<=m + 1/\mz=m + 1 - i/\bo=((Num.subL BB qn U V 0 i 0 0).2.1:Nat)/\cy=((Num.subL BB qn U V 0 i 0 0).2.2:Nat)/\g.get k=some(.cells(aV cs off((Num.subL BB qn U V 0 i 0 0).1 ++ U.drop i))103 1 true)/\OkX h k g)(EK h k off cs m U V)(by
  intro mz i bo cy; intros; rename_i g hi
  obtain⟨h1,h2,rfl,rfl,hg,ok⟩:=hi
  have hel:(Num.subL BB qn U V 0 i 0 0).1.length=i:=Num.subL_len _ _ _ _ _ _ _ _
  have hsn:=Num.subL_snoc BB qn U V i 0 0 0
  rw [Nat.zero_add] at hsn
  have hbo:=Num.subL_borrow(q:=qn)(v:=V)cI D.ult i
  have hcy:=Num.subL_carry_lt cI hqB(u:=U)D.vlt i
  generalize hst:Num.subL BB qn U V 0 i 0 0=st at *
  obtain⟨Wl,bo,cy⟩:=st
  dsimp af at hel hg hbo hcy hsn ⊢
  have hlen:(Wl ++ U.drop i).length=m + 1:=by rw [List.length_append,hel,List.length_drop]; omega
  have hfit:=D.fit
  have hui:=ug i
  have hvi:=vg i
  have hqv:qn * V.getD i 0<=999999999 * 999999999:=Nat.mul_le_mul(by omega)(by omega)
  refine ae(fun h5=>?_)(fun h5=>?_)
  · have h5:=of_decide_eq_true h5
   have hl:=Ak hg(by rw [hlen]; omega)(i:=i)(by rw [hlen]; omega)
   rw [Num.getD_front _ _ hel] at hl
   have hkn:=ok.wf _ _ hg
   have step:∀ (s:Nat),s=qn * V.getD i 0 + cy->
     am SS.P 103(.pointer(some⟨k,off + i,none⟩))(.int .u64(((U.getD i 0 + BB - s % BB - bo) % BB:Nat):Int))g=some(undef,.set k(.cells(aV cs off((Num.subL BB qn U V 0(i + 1)0 0).1 ++ U.drop(i + 1)))103 1 true)):=fun s hs=>by
    rw [As hg(by rw [hlen]; omega)(by rw [hlen]; omega),Num.set_front _ _ hel(by omega),hsn,hs]; rfl
   have rest:∀ (s:Nat),s=qn * V.getD i 0 + cy->∀ (p21:Addr),p21 =⟨k,off + i,none⟩->
     ∃ n23:Int,an SS.P .rem 103(.int .u64(s:Int))(.int .u64 1000000000)=some(.int .u64 n23)/\n23=((s % BB:Nat):Int):=fun s _ _ _ =>⟨_,zf,rfl⟩
   rw [wi i(by omega)]
   have fin:∀ (s:Nat),s=qn * V.getD i 0 + cy->((1 - (U.getD i 0 + BB - s % BB - bo) / BB:Nat):Int)=((Num.subL BB qn U V 0(i + 1)0 0).2.1:Nat)/\((s / BB:Nat):Int)=((Num.subL BB qn U V 0(i + 1)0 0).2.2:Nat):=fun s hs=>by
    rw [hsn,hs]; exact⟨rfl,rfl⟩
   have ed:∀ s:Nat,IntKind.wrap .u64(IntKind.wrap .u64(IntKind.wrap .u64(((U.getD i 0:Nat):Int) + 1000000000) - ((s % BB:Nat):Int)) - (bo:Int))=((U.getD i 0 + BB - s % BB - bo:Nat):Int):=fun s=>by
    have hm:=Nat.mod_lt s hB0
    generalize s % BB=z at hm
    have a1:IntKind.wrap .u64(((U.getD i 0:Nat):Int) + 1000000000)=((U.getD i 0 + BB:Nat):Int):=wU(by omega)(by omega)
    have a2:IntKind.wrap .u64(((U.getD i 0 + BB:Nat):Int) - (z:Int))=((U.getD i 0 + BB - z:Nat):Int):=wU(by omega)(by omega)
    have a3:IntKind.wrap .u64(((U.getD i 0 + BB - z:Nat):Int) - (bo:Int))=((U.getD i 0 + BB - z - bo:Nat):Int):=wU(by omega)(by omega)
    rw [a1,a2,a3]
   have e1b:∀ s:Nat,IntKind.wrap .u64(1 - (((U.getD i 0 + BB - s % BB - bo) / BB:Nat):Int))=((1 - (U.getD i 0 + BB - s % BB - bo) / BB:Nat):Int):=fun s=>by
    have h9:(U.getD i 0 + BB - s % BB - bo) / BB < 2:=Nat.div_lt_of_lt_mul(by omega)
    generalize(U.getD i 0 + BB - s % BB - bo) / BB=z at h9 ⊢
    exact wU(by omega)(by omega)
   refine ae(fun h6=>?_)(fun h6=>?_)
   · have h6:=of_decide_eq_true h6
    obtain⟨p,g2,g3⟩:=Dy(D.rd g ok)(i:=(i:Int))(by omega)(by omega)
    rw [Int.toNat_natCast] at g3
    refine⟨p,g2,_,g3,_,th(by omega)(by omega),_,by rw [Int.toNat_natCast]; exact hl,?_⟩
    have e2:IntKind.wrap .u64((cy:Int) + IntKind.wrap .u64((qn:Int) * ((V.getD i 0:Nat):Int)))=((qn * V.getD i 0 + cy:Nat):Int):=by
     have e0:IntKind.wrap .u64((qn:Int) * ((V.getD i 0:Nat):Int))=((qn * V.getD i 0:Nat):Int):=wU(by rw [Int.natCast_mul])(by omega)
     rw [e0]
     exact wU(by omega)(by omega)
    rw [e2]
    refine⟨_,zf,?_⟩
    dsimp af
    rw [ed]
    have hm:=Nat.mod_lt(qn * V.getD i 0 + cy)hB0
    refine⟨_,zf,_,Dk(by omega),_,Dk(by omega),_,th(by omega)(by omega),_,by rw [Int.toNat_natCast]; exact step _ rfl,?_⟩
    rw [e1b]
    refine iJ(mz - 1)(by omega)⟨by omega,by omega,(fin _ rfl).1,(fin _ rfl).2,?_,ok.set hkn _⟩
    show(g.set k _).get k=_
    rw [Heap.get_set,if_pos rfl]
   · have h6:=of_decide_eq_false h6
    have hv0:V.getD i 0=0:=by rw [List.getD_eq_getElem?_getD,List.getElem?_eq_none(by omega)]; rfl
    have hs0:cy=qn * V.getD i 0 + cy:=by rw [hv0,Nat.mul_zero,Nat.zero_add]
    refine⟨_,th(by omega)(by omega),_,by rw [Int.toNat_natCast]; exact hl,_,zf,?_⟩
    dsimp af
    rw [ed]
    have hm:=Nat.mod_lt cy hB0
    refine⟨_,zf,_,Dk(by omega),_,Dk(by omega),_,th(by omega)(by omega),_,by rw [Int.toNat_natCast]; exact step _ hs0,?_⟩
    rw [e1b]
    refine iJ(mz - 1)(by omega)⟨by omega,by omega,(fin _ hs0).1,(fin _ hs0).2,?_,ok.set hkn _⟩
    show(g.set k _).get k=_
    rw [Heap.get_set,if_pos rfl]
  · have h5:=of_decide_eq_false h5
   obtain rfl:i=m + 1:=by omega
   obtain⟨d0,d1,d2⟩:=Num.digit_done cI D.ult D.vlt D.ul D.vl hqB hhi hlo
   have hwlt:=Num.subL_lt(q:=qn)cI U V(m + 1)0 0 0
   rw [hst] at d0 d1 d2 hwlt
   dsimp af at d0 d1 d2 hwlt
   rw [List.drop_of_length_le(by omega),List.append_nil] at hg
   refine ae(fun h6=>?_)(fun h6=>?_)
   · have h6:(bo:Int)=0:=by simpa using h6
    obtain⟨e1,e2⟩:=d1(by omega)
    exact⟨Wl,hel,hwlt,e2,by rw [e1]; rfl,hg,ok⟩
   · have h6 : ¬ (bo:Int)=0:=by simpa using h6
    obtain⟨e0,e1,e2⟩:=d2(by omega)
    rw [hwm]
    exact L3 qn Wl e0 hqB hel hwlt e1 e2(m + 1)(i:=0)⟨by omega,by omega,rfl,by simpa [Num.eachF] using hg,ok⟩)
 have hv1:=D.v1
 have htop:U.getD m 0 * BB + U.getD(m - 1)0 < 1000000000000000000:=by
  have a1:=ug m
  have a2:=ug(m - 1)
  have a3:U.getD m 0 * BB=1000000000 * U.getD m 0:=by rw [hBv,Nat.mul_comm]
  omega
 have L1:=qr(some⟨k,off,none⟩)(m + 1)c b m d(fun mz q rest g=>∃ qn rn:Nat,q=(qn:Int)/\rest=(rn:Int)/\mz=qn/\Num.Trial BB m U V qn rn/\g.get k=some(.cells(aV cs off U)103 1 true)/\OkX h k g)(EK h k off cs m U V)(by
  intro mz q rest; intros; rename_i g hi
  obtain⟨qn,rn,rfl,rfl,rfl,T,hg,ok⟩:=hi
  have hT:=T.eq
  have hfit:=D.fit
  have hrl:rn < 1000000000000000000:=Nat.lt_of_le_of_lt(by rw [<- hT]; omega)htop
  have hql:mz < 1000000000000000000:=by
   refine Nat.lt_of_le_of_lt ?_ htop
   rw [<- hT]
   have:=Nat.le_mul_of_pos_right mz hv1
   omega
  have ok':=ok.room 28
  have hg' : (room g 28).get k=some(.cells(aV cs off U)103 1 true):=hg
  have hv1B:=vg(m - 1)
  have hj:((m - 1:Nat):Int).toNat=m - 1:=by omega
  obtain⟨p1,g2,g3⟩:=Dy(D.rd _ ok')(i:=((m - 1:Nat):Int))(by omega)(by omega)
  rw [hj] at g3
  have er:IntKind.wrap .u64((rn:Int) + ((V.getD(m - 1)0:Nat):Int))=((rn + V.getD(m - 1)0:Nat):Int):=wU(by omega)(by omega)
  have leave:∀ (qn' : Nat),qn' < BB->Num.bv BB U < (qn' + 1) * Num.bv BB V->qn' * Num.bv BB V < Num.bv BB U + Num.bv BB V->_:=fun qn' h1 h2 h3=>L2 qn' h1 h2 h3
  have low:Num.bv BB U < mz * Num.bv BB V->0 < mz/\Num.Trial BB m U V(mz - 1)(rn + V.getD(m - 1)0):=fun hl =>⟨by
   rcases Nat.eq_zero_or_pos mz with e | e
   · subst e; rw [Nat.zero_mul] at hl; omega
   · exact e,T.lower hl⟩
  have broke:mz - 1 < BB->BB<=rn + V.getD(m - 1)0->Num.Trial BB m U V(mz - 1)(rn + V.getD(m - 1)0)->(mz - 1) * Num.bv BB V < Num.bv BB U + Num.bv BB V:=fun h1 h2 T' =>
   T'.last cI D.ul D.vl hmp D.vlt hv1 h1 fun _=>Num.trial_broke h1(vg(m - 2))h2
  have body:Num.bv BB U < mz * Num.bv BB V->True:=fun _=>trivial
  unfold me
  rw [hw1]
  refine ae(fun h5=>?_)(fun h5=>?_)
  · have h5:=of_decide_eq_true h5
   obtain⟨hq0,T'⟩:=low(Num.Trial.great D.lt(by omega))
   have eq1:IntKind.wrap .u64((mz:Int) - 1)=((mz - 1:Nat):Int):=wU(by omega)(by omega)
   rw [eq1]
   refine⟨p1,g2,_,g3,?_⟩
   dsimp af
   rw [er]
   generalize hzz:decide(((mz - 1:Nat):Int) < 1000000000)=bz
   refine ae(fun h6=>ae(fun h7=>?_)(fun h7=>?_))(fun h6=>?_)
   · subst hzz
    have h6:=of_decide_eq_true h6
    have h7:=of_decide_eq_true h7
    rw [hwm]
    exact L2(mz - 1)(by omega)T'.hi(broke(by omega)(by omega)T')(m + 1)(i:=0)⟨by omega,by omega,rfl,rfl,by simpa [Num.subL] using hg',ok'⟩
   · exact cL(mz - 1)(by omega)⟨mz - 1,_,rfl,rfl,rfl,T',hg',ok'⟩
   · exact cL(mz - 1)(by omega)⟨mz - 1,_,rfl,rfl,rfl,T',hg',ok'⟩
  · have h5:=of_decide_eq_false h5
   have hqB:mz < BB:=by omega
   have done:(1 < m->mz * V.getD(m - 2)0<=rn * BB + U.getD(m - 2)0)->mz * Num.bv BB V < Num.bv BB U + Num.bv BB V:=fun hs=>T.last cI D.ul D.vl hmp D.vlt hv1 hqB hs
   refine ae(fun h6=>?_)(fun h6=>?_)
   · have h6:=of_decide_eq_true h6
    have hm1:1 < m:=by omega
    rw [hw2 hm1]
    generalize hzz:decide((rn:Int) < 1000000000)=bz
    refine ae(fun h7=>?_)(fun h7=>?_)
    · subst hzz
     have h7:=of_decide_eq_true h7
     have hj2:((m - 2:Nat):Int).toNat=m - 2:=by omega
     obtain⟨p2,g4,g5⟩:=Dy(D.rd _ ok')(i:=((m - 2:Nat):Int))(by omega)(by omega)
     rw [hj2] at g5
     have hl:=Ak hg' hfit(i:=m - 2)(by omega)
     refine⟨p2,g4,_,g5,_,th(by omega)(by omega),_,by rw [hj2]; exact hl,?_⟩
     have hv2:=vg(m - 2)
     have hu2:=ug(m - 2)
     have hqv:mz * V.getD(m - 2)0<=999999999 * 999999999:=Nat.mul_le_mul(by omega)(by omega)
     have ea:IntKind.wrap .u64((mz:Int) * ((V.getD(m - 2)0:Nat):Int))=((mz * V.getD(m - 2)0:Nat):Int):=wU(by rw [Int.natCast_mul])(by omega)
     obtain⟨RB,hRB⟩: ∃ x,x=rn * BB :=⟨_,rfl⟩
     have hRB' : RB=1000000000 * rn:=by rw [hRB,hBv,Nat.mul_comm]
     obtain⟨MV,hMV⟩: ∃ x,x=mz * V.getD(m - 2)0 :=⟨_,rfl⟩
     rw [<- hMV] at hqv ea
     have eb:IntKind.wrap .u64((rn:Int) * 1000000000)=(RB:Int):=wU(by omega)(by omega)
     have ec:IntKind.wrap .u64((RB:Int) + ((U.getD(m - 2)0:Nat):Int))=((RB + U.getD(m - 2)0:Nat):Int):=wU(by omega)(by omega)
     dsimp af
     rw [ea,eb,ec]
     generalize hyy:decide((MV:Int) > ((RB + U.getD(m - 2)0:Nat):Int))=by_
     refine ae(fun h8=>?_)(fun h8=>?_)
     · subst hyy
      have h8:=of_decide_eq_true h8
      obtain⟨hq0,T'⟩:=low(T.second D.ul D.vl hm1 D.ult(by rw [<- hRB,<- hMV]; omega))
      have eq1:IntKind.wrap .u64((mz:Int) - 1)=((mz - 1:Nat):Int):=wU(by omega)(by omega)
      rw [eq1]
      refine⟨p1,g2,_,g3,?_⟩
      dsimp af
      rw [er]
      generalize hxx:decide(((mz - 1:Nat):Int) < 1000000000)=bx
      refine ae(fun h9=>ae(fun h10=>?_)(fun h10=>?_))(fun h9=>?_)
      · have h9:=of_decide_eq_true h9
       rw [hwm]
       exact L2(mz - 1)(by omega)T'.hi(broke(by omega)(by omega)T')(m + 1)(i:=0)⟨by omega,by omega,rfl,rfl,by simpa [Num.subL] using hg',ok'⟩
      · exact cL(mz - 1)(by omega)⟨mz - 1,_,rfl,rfl,rfl,T',hg',ok'⟩
      · exact cL(mz - 1)(by omega)⟨mz - 1,_,rfl,rfl,rfl,T',hg',ok'⟩
     · subst hyy
      have h8:=of_decide_eq_false h8
      rw [hwm]
      exact L2 mz hqB T.hi(done fun _=>by rw [<- hRB,<- hMV]; omega)(m + 1)(i:=0)⟨by omega,by omega,rfl,rfl,by simpa [Num.subL] using hg',ok'⟩
    · subst hzz
     have h7:=of_decide_eq_false h7
     rw [hwm]
     exact L2 mz hqB T.hi(done fun _=>Num.trial_broke hqB(vg(m - 2))(by omega))(m + 1)(i:=0)⟨by omega,by omega,rfl,rfl,by simpa [Num.subL] using hg',ok'⟩
   · have h6:=of_decide_eq_false h6
    rw [hwm]
    exact L2 mz hqB T.hi(done fun hm=>by omega)(m + 1)(i:=0)⟨by omega,by omega,rfl,rfl,by simpa [Num.subL] using hg',ok'⟩)
 have ok1:=(OkX.refl(k:=k)D.w).room 12
 have ok2:=ok1.room 16
 have hfit:=D.fit
 have hj:((m - 1:Nat):Int).toNat=m - 1:=by omega
 have hl1:=Ak(g:=room h 12)D.get hfit(i:=m)(by omega)
 have hl2:=Ak(g:=room h 12)D.get hfit(i:=m - 1)(by omega)
 obtain⟨p1,g2,g3⟩:=Dy(D.rd _ ok2)(i:=((m - 1:Nat):Int))(by omega)(by omega)
 rw [hj] at g3
 have a1:=ug m
 have a2:=ug(m - 1)
 refine Hv _ _ _ _ _ _ h _⟨_,th(by omega)(by omega),_,by rw [Int.toNat_natCast]; exact hl1,?_⟩
 rw [hw1]
 refine⟨_,th(by omega)(by omega),_,by rw [hj]; exact hl2,p1,g2,_,g3,?_⟩
 obtain⟨TB,hTB⟩: ∃ x,x=U.getD m 0 * BB :=⟨_,rfl⟩
 have hTB' : TB=1000000000 * U.getD m 0:=by rw [hTB,hBv,Nat.mul_comm]
 have ea:IntKind.wrap .u64(((U.getD m 0:Nat):Int) * 1000000000)=(TB:Int):=wU(by omega)(by omega)
 have eb:IntKind.wrap .u64((TB:Int) + ((U.getD(m - 1)0:Nat):Int))=((TB + U.getD(m - 1)0:Nat):Int):=wU(by omega)(by omega)
 rw [ea,eb]
 have hstart:=Num.Trial.start cI D.ul D.vl hmp D.ult hv1
 rw [<- hTB] at hstart
 refine⟨_,Ps(by omega)hv1,p1,g2,_,g3,_,Ty hv1,?_⟩
 exact L1 _⟨_,_,rfl,rfl,rfl,hstart,D.get,ok2⟩
end Go.Proofs.YtoabjjimjldcfaaGreatDoor
end
section
set_option linter.unusedVariables false
set_option maxRecDepth 100000
namespace Go.Proofs.YtoabjjimjldcfaaGreatDoor
open Go Go.Ab
theorem OwnR.weak {h0 h1 h:Heap}{e:TypeId}{v:Value}{vs:List Value}(hn:h0.next<=h1.next)(o:OwnR h1 h e v vs):OwnR h0 h e v vs:=by
 rcases o with o |⟨k,cs,h1',h2,h3,h4,h5⟩
 · exact .inl o
 · exact .inr⟨k,cs,h1',Nat.le_trans hn h2,h3,h4,h5⟩
theorem Vk(k:Int):fp SS.P 103(.int .u64 k)=some(.cells [.int .u64 k] 103 0 true,ks):=by kernel_rfl
theorem tF {h:Heap}{a:Option Addr}{n c:Nat}{x:List Nat}(ra:Rd h 103(.slice a n c)(x.map uv))(hx:∀ d∈x,d < BB)(hlen:x.length<=10000){k:Nat}(hk0:0 < k)(hk:k<=BB)(w:Wf h) :
  FW SS 175 [.slice a n c,.int .u64(k:Int)] h(dz h 103(bl(Num.bv BB x * k))):=by
 have ok:=(Ok.refl w).push(.cells [.int .u64(k:Int)] 103 0 true)
 refine FU a n c _ h _⟨_,Vk _,?_⟩
 have hp:ai SS.P 103(h.push(.cells [.int .u64(k:Int)] 103 0 true))(.pointer(some⟨h.next,0,none⟩))=some(.int .u64(k:Int)):=by
  unfold ai
  rw [K7]; dsimp af
  rw [Heap.get_push,if_pos rfl]; dsimp af
  rw [Lc]; rfl
 refine(BP(ra.ok ok)hx hlen hp hk0 hk ok.wf).mono ?_
 rintro _ h3⟨a4,n5,c6,rfl,o,ok3⟩
 exact⟨a4,n5,c6,rfl,a4,n5,c6,rfl,OwnR.weak(Nat.le_succ _)o,ok.trans ok3⟩
def RowC(h:Heap)(k off n c:Nat)(l:List Nat):Prop:= ∃ cs wr,h.get k=some(.cells cs 103 1 wr)/\n=l.length/\(cs.drop off).take n=l.map uv/\n<=aO c
theorem RowC.rd {h:Heap}{k off n c:Nat}{l:List Nat}(r:RowC h k off n c l):Rd h 103(.slice(some⟨k,off,none⟩)n c)(l.map uv):=by
 obtain⟨cs,wr,h1,rfl,h3,h4⟩:=r
 exact .inr⟨k,off,cs,c,wr,by rw [List.length_map],h1,by rw [List.length_map]; exact h3⟩
theorem RowC.take {h:Heap}{k off n c:Nat}{l:List Nat}(r:RowC h k off n c l){j:Nat}(hj:j<=n):aM SS.P 136(.slice(some⟨k,off,none⟩)n c)none(some(.int .i64(j:Int)))none h=some(.slice(some⟨k,off,none⟩)j c)/\RowC h k off j c(l.take j):=by
 obtain⟨cs,wr,h1,rfl,h3,h4⟩:=r
 refine⟨?_,cs,wr,h1,by rw [List.length_take]; omega,?_,by omega⟩
 · unfold aM
  dsimp af
  rw [wF]
  dsimp af [bM]
  rw [AS,h1]
  dsimp af
  have e2:((j:Int) - ((0:Nat):Int)).toNat=j:=by omega
  have e0:((0:Nat):Int).toNat=0:=rfl
  rw [if_pos(by simp),if_pos(by omega),e2,e0]; rfl
 · have:=congrArg(List.take j)h3
  rwa [List.take_take,Nat.min_eq_left hj,<- List.map_take] at this
theorem kD {h:Heap}{k off n c:Nat}{l:List Nat}(r:RowC h k off n c l)(hlen:l.length<=100000) :
  FW SS 142 [.slice(some⟨k,off,none⟩)n c] h(fun v h'=>v = .slice(some⟨k,off,none⟩)(Num.trimL l).length c/\h' = h):=by
 have hn:n=l.length:=by obtain⟨_,_,_,h2,_⟩:=r; exact h2
 have L:=jU(some⟨k,off,none⟩)n c(fun mz r m d g=>m<=l.length/\mz=m/\r=some⟨k,off,none⟩/\d=c/\RowC h k off m c(l.take m)/\Num.trimL l=Num.trimL(l.take m)/\g=h)(fun v h'=>v = .slice(some⟨k,off,none⟩)(Num.trimL l).length c/\h' = h)(by
  intro mz r m d; intros; rename_i g hi
  obtain⟨h1,rfl,rfl,rfl,h3,h4,rfl⟩:=hi
  have hw:IntKind.wrap .i64((mz:Int) - 1)=(mz:Int) - 1:=ap(by omega)(by omega)
  unfold ir
  rw [hw]
  have hm:mz≠0->l.take mz=l.take(mz - 1) ++ [l.getD(mz - 1)0]:=fun hm=>by
   obtain⟨j,rfl⟩: ∃ j,mz=j + 1 :=⟨mz - 1,by omega⟩
   rw [List.take_succ_eq_append_getElem(by omega),Nat.add_sub_cancel,List.getD_eq_getElem?_getD,List.getElem?_eq_getElem(by omega)]; rfl
  refine ae(fun h5=>?_)(fun h5=>?_)
  · have h5:=of_decide_eq_true h5
   obtain⟨p,g2,g3⟩:=Dy h3.rd(i:=(mz:Int) - 1)(by omega)(by rw [List.length_take]; omega)
   have e1:(l.take mz).getD((mz:Int) - 1).toNat 0=l.getD(mz - 1)0:=by
    rw [show((mz:Int) - 1).toNat=mz - 1 by omega,List.getD_eq_getElem?_getD,List.getElem?_take,if_pos(by omega),List.getD_eq_getElem?_getD]
   rw [e1] at g3
   refine⟨p,g2,_,g3,ae(fun h6=>?_)(fun h6=>?_)⟩
   · have h6:((l.getD(mz - 1)0:Nat):Int)=0:=by simpa using h6
    have h6:l.getD(mz - 1)0=0:=by omega
    obtain⟨g4,g5⟩:=h3.take(j:=mz - 1)(by omega)
    rw [show((mz:Int) - 1)=((mz - 1:Nat):Int) by omega]
    refine⟨_,_,_,g4,jO(mz - 1)(by omega)⟨by omega,rfl,rfl,rfl,?_,?_,rfl⟩⟩
    · rw [List.take_take,Nat.min_eq_left(by omega)] at g5
     exact g5
    · rw [h4,hm(by omega),h6,Num.trimL_snoc_zero]
   · have h6 : ¬ ((l.getD(mz - 1)0:Nat):Int)=0:=by simpa using h6
    refine⟨?_,rfl⟩
    rw [h4,hm(by omega),Num.trimL_snoc_pos _(by omega),<- hm(by omega),List.length_take,Nat.min_eq_left h1]
  · have h5:=of_decide_eq_false h5
   obtain rfl:mz=0:=by omega
   refine⟨?_,rfl⟩
   rw [h4]; rfl)
 exact AG _ n c h _(L n⟨by omega,rfl,rfl,rfl,by rw [show l.take n=l by rw [hn,List.take_length]]; exact r,by rw [show l.take n=l by rw [hn,List.take_length]],rfl⟩)
end Go.Proofs.YtoabjjimjldcfaaGreatDoor
end
section
namespace Go.Ab
open Go
theorem OwnR.snocX {P:Program}{t e:TypeId}{i:TypeInfo}(hU:P.underlying t=some(.slice e))(hE:dD P e=some i)(hs:i.size=1){h0 h:Heap}(w0:Wf h0)(a:Ok h0 h){v:Value}{vs:List Value}(o:OwnR h0 h e v vs){x:Value}(hx:bN x=true)(hl:(vs.length + 1) * i.bytes<=70368744177664)(hl2:vs.length + 1<=1099511627776) :
  ∃ (b:Option Addr)(n c:Nat)(u:Upd),aC P t t v(mC 1 1 h.next)(h.push(.cells [x] e 1 true))=some(.slice b n c,u)/\n=vs.length + 1/\OwnR h0(u.app(h.push(.cells [x] e 1 true)))e(.slice b n c)(vs ++ [x])/\Ok h0(u.app(h.push(.cells [x] e 1 true)))/\
   (∀ j B,h.get j=some B->(∀ o n c,v≠ .slice(some⟨j,o,none⟩)n c)->(u.app(h.push(.cells [x] e 1 true))).get j=some B)/\
   (∀ j o m d,Value.slice b n c = .slice(some⟨j,o,none⟩)m d->h.next<=j\/∃ o n c,v = .slice(some⟨j,o,none⟩)n c):=by
 have hT:cg P t=true:=by unfold cg; rw [hU]
 have hsrc:dS(h.push(.cells [x] e 1 true))i.size(mC 1 1 h.next)=some([x],1):=by
  show(match(h.push(.cells [x] e 1 true)).get h.next with | some(.cells cs ..)=>if((cs.drop 0).take(1 * i.size)).length=1 * i.size then some((cs.drop 0).take(1 * i.size),1) else none | _=>none)=_
  rw [Heap.get_push,if_pos rfl,hs]; rfl
 have hap:=OwnR.push a o(.cells [x] e 1 true)
 have a':=a.push(.cells [x] e 1 true)
 have old:∀ j B,h.get j=some B->(h.push(.cells [x] e 1 true)).get j=some B:=fun j B hj=>by
  rw [Heap.get_push,if_neg(fun e=>by have:=a.wf _ _ hj; omega)]; exact hj
 have oldn:∀ j B,h.get j=some B->j < h.next:=fun j B hj=>a.wf _ _ hj
 generalize hh:h.push(.cells [x] e 1 true)=g at *
 have hgn:h.next < g.next:=by rw [<- hh]; exact Nat.lt_succ_self _
 unfold aC
 rw [hU]; dsimp af
 rw [hE]; dsimp af
 rw [if_pos hT,hsrc]; dsimp af
 rw [if_pos(by simp [hx,hs])]
 rcases hap with⟨rfl,rfl⟩|⟨k,cs,rfl,h2,h3,h4,h5⟩
 · show ∃ b n c u,(if 1=0 then some(Value.slice none 0 0,Upd.no) else if 1 * i.bytes<=70368744177664/\1<=1099511627776 then some(Value.slice(some⟨g.next,0,none⟩)1(bn + 1),Upd.push(.cells [x] e i.size true)) else none)=_/\_
  rw [if_neg(by omega),if_pos(by simpa using And.intro hl hl2)]
  refine⟨_,_,_,_,rfl,rfl,.inr⟨g.next,[x],rfl,a'.nx,?_,rfl,by simp⟩,a'.push _,fun j B hj _=>?_,fun j o m d e=>.inl ?_⟩
  rotate_left
  · show(g.push _).get j=_
   rw [Heap.get_push,if_neg(fun e=>by have:=oldn _ _ hj; omega)]
   exact old _ _ hj
  · injection e with e1 e2 e3
   injection e1 with e1
   injection e1 with e1
   omega
  show(g.push(.cells [x] e i.size true)).get g.next=_
  rw [Heap.get_push,if_pos rfl,hs]
 · dsimp af
  rw [if_neg(by omega),hs,Nat.mul_one]
  have hcap:aO(bn + cs.length)=cs.length:=by unfold aO; rw [if_pos(by omega)]; omega
  rw [hcap]
  have hkn:=a'.wf _ _ h3
  by_cases hroom:vs.length + 1<=cs.length
  · rw [if_pos hroom]
   unfold storeAt
   rw [Nat.zero_add,h3]
   dsimp af
   rw [if_pos⟨by simp; omega,by simp [hx]⟩]
   refine⟨_,_,_,_,rfl,rfl,.inr⟨k,cs.take vs.length ++ [x] ++ cs.drop(vs.length + 1),?_,h2,?_,?_,?_⟩,?_,fun j B hj hv=>?_,fun j o m d e=>.inr ?_⟩
   rotate_left 5
   · show(g.set k _).get j=_
    rw [Heap.get_set,if_neg(fun e=>hv 0 _ _(by rw [e]))]
    exact old _ _ hj
   · injection e with e1 e2 e3
    injection e1 with e1
    injection e1 with e1
    exact⟨0,_,_,by rw [<- e1]⟩
   · simp af [List.length_append,List.length_cons,List.length_nil,List.length_take,List.length_drop]
    congr 1; omega
   · show(g.set k _).get k=_
    rw [Heap.get_set,if_pos rfl]; rfl
   · have h6:(cs.take vs.length).length=vs.length:=by rw [List.length_take]; omega
    rw [List.length_append,List.append_assoc,<- List.append_assoc,List.take_append_of_le_length(by simp; omega),List.take_of_length_le(by simp; omega),h4]
   · simp; omega
   · exact a'.set _ h2 hkn w0
  · rw [if_neg hroom]
   have hcl:cs.length=vs.length:=by omega
   unfold gG
   rw [if_pos⟨hl,hl2⟩,h3]
   dsimp af
   rw [Nat.mul_one,if_pos⟨rfl,rfl,by simp; omega⟩,if_neg(by omega),if_pos⟨rfl,by omega⟩]
   refine⟨_,_,_,_,rfl,rfl,.inr⟨g.next,vs ++ [x],?_,a'.nx,?_,?_,?_⟩,?_,fun j B hj hv=>?_,fun j o m d e=>.inl ?_⟩
   rotate_left 5
   · show((g.del k).push _).get j=_
    rw [Heap.get_push,if_neg(fun e=>by have:=oldn _ _ hj; have:j=g.next:=e; omega),Heap.get_del,if_neg(fun e=>hv 0 _ _(by rw [e]))]
    exact old _ _ hj
   · injection e with e1 e2 e3
    injection e1 with e1
    injection e1 with e1
    have:g.next=j:=e1
    omega
   · rw [List.length_append]; rfl
   · show((g.del k).push _).get g.next=_
    rw [Heap.get_push,if_pos(show g.next=(g.del k).next from rfl),List.drop_zero,h4]
   · exact List.take_length
   · exact Nat.le_refl _
   · refine⟨?_,fun j C hj=>?_,Nat.le_trans a'.nx(Nat.le_succ _)⟩
    · refine Heap.wf_push(fun j C hj=>?_)_
     rw [Heap.get_del] at hj
     split at hj
     · cases hj
     · exact a'.wf _ _ hj
    · have h7:=a'.ext _ _ hj
     have h8:=a'.wf _ _ h7
     show((g.del k).push _).get j=_
     rw [Heap.get_push,if_neg(fun e=>by have:j=g.next:=e; omega),Heap.get_del,if_neg(fun e=>by have:=w0 _ _ hj; omega)]
     exact h7
end Go.Ab
end
section
namespace Go.Num
theorem trimL_take(l:List Nat):l.take(trimL l).length=trimL l/\(trimL l).length<=l.length:=by
 induction l using kW with
 | h0=>exact⟨rfl,Nat.le_refl _⟩
 | h1 l d ih =>
  by_cases hd:d=0
  · subst hd
   rw [trimL_snoc_zero]
   refine⟨?_,by rw [List.length_append]; omega⟩
   rw [List.take_append_of_le_length ih.2]
   exact ih.1
  · rw [trimL_snoc_pos l hd,List.take_length]
   exact⟨rfl,Nat.le_refl _⟩
theorem toB_top {B n:Nat}(hB:1 < B)(hn:0 < n):0 < (toB B n).getD((toB B n).length - 1)0:=by
 have h1:=(Pe hB n).2
 have h2:toB B n≠[]:=fun e=>by have:=(toB_eq_nil hB).1 e; omega
 rw [List.getLast?_eq_getElem?] at h1
 rw [List.getD_eq_getElem?_getD]
 cases h:(toB B n)[(toB B n).length - 1]? with
 | none =>
  have:=List.length_pos_iff.2 h2
  rw [List.getElem?_eq_getElem(by omega)] at h; cases h
 | some d =>
  rw [h] at h1
  have:d≠0:=fun e=>h1(by rw [e])
  show 0 < d
  omega
theorem toB_len_eq {B n m:Nat}(hB:1 < B)(h1:n < B ^ m)(h2:B ^ (m - 1)<=n)(hm:0 < m):(toB B n).length=m:=by
 refine Nat.le_antisymm(toB_len_le hB h1) ?_
 rcases Nat.lt_or_ge(toB B n).length m with h | h
 · have h3:=bv_lt(toB_lt hB n)
  rw [bv_toB hB] at h3
  have:B ^ (toB B n).length<=B ^ (m - 1):=Nat.pow_le_pow_right(by omega)(by omega)
  omega
 · exact h
theorem factor {B Y:Nat}(hB:1 < B)(hY:0 < Y):let m:=(toB B Y).length; let top:=(toB B Y).getD(m - 1)0; let k:=B / (top + 1)
  0 < m/\top < B/\0 < k/\k<=B/\B ^ (m - 1)<=Y/\Y * k < B ^ m:=by
 intro m top k
 have hm:0 < m:=List.length_pos_iff.2 fun e=>by have:=(toB_eq_nil hB).1 e; omega
 have ht:top < B:=getD_lt(by omega)(toB_lt hB Y)_
 have hk:0 < k:=Nat.div_pos(by omega)(by omega)
 have hlow:=qR hB hY
 refine⟨hm,ht,hk,Nat.div_le_self _ _,hlow,?_⟩
 have hup:Y < (top + 1) * B ^ (m - 1):=by
  have h1:=sV B(toB B Y)(m - 1)(by omega)
  rw [iL(show(toB B Y).length=m - 1 + 1 by omega),bv_toB hB] at h1
  have h2:=bv_lt(b:=B)(x:=(toB B Y).take(m - 1))(fun d hd=>toB_lt hB Y d(List.mem_of_mem_take hd))
  rw [List.length_take,Nat.min_eq_left(by omega)] at h2
  rw [Nat.add_mul,Nat.one_mul,Nat.mul_comm top]
  show Y < B ^ (m - 1) * top + _
  have:(toB B Y).getD(m - 1)0=top:=rfl
  rw [this] at h1
  omega
 have h3:Y * k < (top + 1) * B ^ (m - 1) * k:=Nat.mul_lt_mul_of_pos_right hup hk
 have h4:(top + 1) * k<=B:=by rw [Nat.mul_comm]; exact Nat.div_mul_le_self _ _
 have h5:(top + 1) * B ^ (m - 1) * k=(top + 1) * k * B ^ (m - 1):=by rw [Nat.mul_right_comm]
 have h6:(top + 1) * k * B ^ (m - 1)<=B * B ^ (m - 1):=Nat.mul_le_mul_right _ h4
 have h7:B * B ^ (m - 1)=B ^ m:=by rw [Nat.mul_comm,<- Nat.pow_succ]; congr 1; omega
 omega
end Go.Num
end
section
set_option linter.unusedVariables false
set_option maxRecDepth 100000
namespace Go.Proofs.YtoabjjimjldcfaaGreatDoor
open Go Go.Ab
theorem zM:∀ n,bi [uv 0] n=(List.replicate n 0).map uv
 | 0=>rfl
 | n + 1=>by rw [bi,zM n]; rfl
noncomputable def ti103:TypeInfo:=(SS.P.info? 103).getD default
theorem OV:SS.P.info? 103=some ti103:=by kernel_rfl
theorem JL:ti103.size=1:=by kernel_rfl
theorem Gm:ti103.bytes=8:=by kernel_rfl
theorem Sk:cq SS.P 103=some(uv 0):=by kernel_rfl
theorem TW(n:Nat)(hn:n<=100000):aX SS.P 136(.int .i64(n:Int))(.int .i64(n:Int))=some(.cells((List.replicate n 0).map uv)103 1 true,mC n n):=by
 unfold aX aH
 dsimp af
 rw [wF]
 try dsimp af
 change(match SS.P.info? 103,cq SS.P 103 with
  | some i,some z=>(if z.cells.size=i.size/\0 < i.size/\(0:Int)<=(n:Int)/\(n:Int)<=(n:Int)/\(n:Int) * i.bytes<=140737488355328/\(n:Int)<=1099511627776 then some(Blk.cells(bi z.cells.toList(n:Int).toNat)103 i.size true,fun k=>Value.slice(some⟨k,0,none⟩)(n:Int).toNat(n:Int).toNat) else none)
  | _,_=>none)=_
 rw [OV,Sk]
 dsimp af
 rw [JL,Gm,if_pos⟨rfl,by omega,by omega,Int.le_refl _,by omega,by omega⟩]
 have e:((n:Int)).toNat=n:=by omega
 rw [e,show(uv 0).cells.toList=[uv 0] from rfl,zM]; rfl
theorem il {C:List Value}{off:Nat}{W:List Nat}(h:(C.drop off).take W.length=W.map uv):aV C off W=C:=by
 unfold aV
 rw [<- h,List.append_assoc,<- List.drop_drop,List.take_append_drop,List.take_append_drop]
theorem Cr {C:List Value}{U W W' : List Nat}{at' : Nat}(hU:at' + W'.length<=U.length)(hl:U.length<=C.length)(hw:W'.length=W.length)(hW:(U.drop at').take W.length=W) :
  aV(aV C 0 U) at' W' = aV C 0(U.take at' ++ W' ++ U.drop(at' + W'.length)):=by
 unfold aV
 have h1:(C.take 0 ++ U.map uv ++ C.drop(0 + U.length)).take at' = (U.take at').map uv:=by
  rw [List.take_zero,List.nil_append,List.take_append_of_le_length(by rw [List.length_map]; omega),List.map_take]
 have h2:(C.take 0 ++ U.map uv ++ C.drop(0 + U.length)).drop(at' + W'.length)=(U.drop(at' + W'.length)).map uv ++ C.drop(0 + U.length):=by
  rw [List.take_zero,List.nil_append,List.drop_append_of_le_length(by rw [List.length_map]; omega),List.map_drop]
 have h3:(U.take at' ++ W' ++ U.drop(at' + W'.length)).length=U.length:=by
  simp af [List.length_append,List.length_take,List.length_drop]; omega
 rw [h1,h2,h3,List.map_append,List.map_append,List.take_zero,List.nil_append,List.append_assoc,List.append_assoc,List.append_assoc]
theorem lD {C:List Value}{U:List Nat}{at' n:Nat}(hU:at' + n<=U.length):((aV C 0 U).drop at').take n=((U.drop at').take n).map uv:=by
 unfold aV
 rw [List.take_zero,List.nil_append,List.drop_append_of_le_length(by rw [List.length_map]; omega),List.take_append_of_le_length(by rw [List.length_drop,List.length_map]; omega),<- List.map_drop,<- List.map_take]
theorem Be {C:List Value}{off:Nat}{W:List Nat}(h:off + W.length<=C.length):(aV C off W).length=C.length:=by
 unfold aV
 simp af [List.length_append,List.length_take,List.length_map,List.length_drop]; omega
theorem RowC.window {h:Heap}{k off n c:Nat}{l:List Nat}(r:RowC h k off n c l){lo hi:Nat}(h1:lo<=hi)(h2:hi<=n):aM SS.P 136(.slice(some⟨k,off,none⟩)n c)(some(.int .i64(lo:Int)))(some(.int .i64(hi:Int)))none h=some(.slice(some⟨k,off + lo,none⟩)(hi - lo)(c - lo)):=by
 obtain⟨cs,wr,h1',rfl,h3,h4⟩:=r
 unfold aM
 dsimp af
 rw [wF]
 dsimp af [bM]
 rw [AS,h1']
 dsimp af
 have e1:((hi:Int) - (lo:Int)).toNat=hi - lo:=by omega
 have e0:((lo:Nat):Int).toNat=lo:=by omega
 rw [if_pos(by simp),if_pos(by omega),e1,e0,Nat.mul_one]
structure DState(h2 G:Heap)(ku kv kq:Nat)(cu:List Value)(cv:List Value)(U Ql:List Nat)(N m XK V j:Nat):Prop where
 ok:Ok h2 G
 w2:Wf h2
 u2:h2.next<=ku
 q2:h2.next<=kq
 gu:G.get ku=some(.cells(aV cu 0 U)103 1 true)
 gv:G.get kv=some(.cells cv 103 1 true)
 gq:G.get kq=some(.cells(aV((List.replicate(N + 1 - m)0).map uv)0 Ql)103 1 true)
 uv' : ku≠kv
 uq:ku≠kq
 vq:kv≠kq
 ul:U.length=N + 1
 cl:N + 1<=cu.length
 qlen:Ql.length=N + 1 - m
 vrow:(cv.take(Num.toB BB V).length)=bl V
 inv:Num.DivInv BB m V XK U Ql j
end Go.Proofs.YtoabjjimjldcfaaGreatDoor
end
section
set_option linter.unusedVariables false
set_option maxRecDepth 100000
namespace Go.Proofs.YtoabjjimjldcfaaGreatDoor
open Go Go.Ab
def FL(h:Heap)(X Y:Nat):VH:=fun v h'=>∃ (a1:Option Addr)(n1 c1:Nat)(a2:Option Addr)(n2 c2:Nat),v = .tuple⟨[.slice a1 n1 c1,.slice a2 n2 c2]⟩/\Rd h' 103(.slice a1 n1 c1)(bl(X / Y))/\Rd h' 103(.slice a2 n2 c2)(bl(X % Y))/\Ok h h'
theorem yR {g:Heap}{k n c:Nat}{C:List Value}{l:List Nat}(hg:g.get k=some(.cells(aV C 0 l)103 1 true))(hn:n=l.length)(hc:n<=aO c):RowC g k 0 n c l:=by
 refine⟨_,_,hg,hn,?_,hc⟩
 subst hn
 rw [lD(by omega),List.drop_zero,List.take_length]
theorem wq {g:Heap}{k n c:Nat}{l:List Nat}(r:RowC g k 0 n c l)(hl:∀ d∈l,d < BB):Rd g 103(.slice(some⟨k,0,none⟩)(Num.trimL l).length c)(bl(Num.bv BB l)):=by
 obtain⟨h1,h2⟩:=Num.trimL_take l
 have hn:n=l.length:=by obtain⟨_,_,_,h,_⟩:=r; exact h
 have h3:=(r.take(j:=(Num.trimL l).length)(by omega)).2.rd
 rw [h1,Num.trimL_eq cI hl] at h3
 rw [Num.trimL_eq cI hl]
 exact h3
def RN {h:Heap}(w:Wf h){X Y ku kq rl rc L k R:Nat}{C Zq:List Value}{Ql:List Nat}(hku:h.next<=ku)(hkq:h.next<=kq)(hne:ku≠kq)(hrl:rl<=C.length)(hrl2:rl<=10000)(hL:L=Ql.length)(hL2:L<=10000)(hcap:rl<=aO rc)(hcapL:L<=aO L)(k0:0 < k)(kB:k<=BB)
  (hQ:∀ d∈Ql,d < BB)(hq:Num.bv BB Ql=X / Y)(hr:R / k=X % Y)(a:Option Addr)(n c:Nat)(b:Option Addr)(m d:Nat):=
 pm a n c b m d(k:Int)(some⟨kq,0,none⟩)L L(some⟨ku,0,none⟩)rl rc(rl:Int)
  (fun mz i bH g=>i<=rl/\mz=rl - i/\(∃ (r:List Nat)(ln:Nat),r.length=rl/\bH=(ln:Int)/\Num.SmallInv BB k R r(rl - i)ln/\g.get ku=some(.cells(aV C 0 r)103 1 true))/\g.get kq=some(.cells(aV Zq 0 Ql)103 1 true)/\Ok h g)(FL h X Y)(by
  intro mz i bH; intros; rename_i g hi
  obtain⟨h1,h2,⟨r,ln,hrlen,rfl,inv,hg⟩,hgq,ok⟩:=hi
  have hBv:BB=1000000000:=rfl
  have hw1:IntKind.wrap .i64((rl:Int) - 1)=(rl:Int) - 1:=ap(by omega)(by omega)
  have hw2:IntKind.wrap .i64((rl:Int) - 1 - (i:Int))=(rl:Int) - 1 - (i:Int):=ap(by omega)(by omega)
  have hw3:IntKind.wrap .i64((i:Int) + 1)=((i + 1:Nat):Int):=by rw [ap(by omega)(by omega)]; omega
  unfold kV
  rw [hw1,hw2,hw3]
  refine ae(fun h5=>?_)(fun h5=>?_)
  · have h5:=of_decide_eq_true h5
   have hj:((rl:Int) - 1 - (i:Int)).toNat=rl - 1 - i:=by omega
   have hl:=Ak hg(by rw [hrlen]; omega)(i:=rl - 1 - i)(by rw [hrlen]; omega)
   have hlt:=inv.lt
   have hrj:r.getD(rl - 1 - i)0 < BB:=Num.getD_lt(by decide)inv.rl _
   obtain⟨LB,hLB⟩: ∃ x,x=ln * BB :=⟨_,rfl⟩
   have hLB' : LB=1000000000 * ln:=by rw [hLB,hBv,Nat.mul_comm]
   have ea:IntKind.wrap .u64((ln:Int) * 1000000000)=(LB:Int):=wU(by omega)(by omega)
   have eb:IntKind.wrap .u64((LB:Int) + ((r.getD(rl - 1 - i)0:Nat):Int))=((LB + r.getD(rl - 1 - i)0:Nat):Int):=wU(by omega)(by omega)
   refine⟨_,th(by omega)(by omega),_,by rw [hj]; exact hl,?_⟩
   dsimp af
   rw [ea,eb]
   refine⟨_,Ps(by omega)k0,_,Ty k0,_,th(by omega)(by omega),?_⟩
   have hst:=As(g:=room g 11)hg(by rw [hrlen]; omega)(i:=rl - 1 - i)(by rw [hrlen]; omega)((LB + r.getD(rl - 1 - i)0) / k)
   have ok':=ok.room 11
   have hkn:=ok'.wf _ _(show(room g 11).get ku=_ from hg)
   refine⟨_,by rw [hj]; exact hst,?_⟩
   have hstep:=Num.SmallInv.step(at':=rl - 1 - i)k0(by rw [show rl - 1 - i + 1=rl - i by omega]; exact inv)
   rw [<- hLB] at hstep
   refine pP(mz - 1)(by omega)⟨by omega,by omega,⟨r.set(rl - 1 - i)((LB + r.getD(rl - 1 - i)0) / k),(LB + r.getD(rl - 1 - i)0) % k,by rw [List.length_set,hrlen],rfl,by rw [show rl - (i + 1)=rl - 1 - i by omega]; exact hstep,?_⟩,?_,ok'.set _ hku hkn w⟩
   · show((room g 11).set ku _).get ku=_
    rw [Heap.get_set,if_pos rfl]
   · show((room g 11).set ku _).get kq=_
    rw [Heap.get_set,if_neg(fun e=>hne e.symm)]
    exact hgq
  · have h5:=of_decide_eq_false h5
   obtain rfl:i=rl:=by omega
   rw [Nat.sub_self] at inv
   have hdone:=inv.done k0
   have r1:=yR hgq hL hcapL
   have r2:=yR hg hrlen.symm hcap
   refine(kD r1(by omega)).mono ?_
   rintro _ _⟨rfl,rfl⟩
   refine⟨_,_,_,rfl,(kD r2(by omega)).mono ?_⟩
   rintro _ _⟨rfl,rfl⟩
   refine⟨_,_,_,rfl,_,_,_,_,_,_,rfl,?_,?_,ok⟩
   · have:=wq r1 hQ
    rw [hq] at this; exact this
   · have:=wq r2 inv.rl
    rw [hdone,hr] at this; exact this)
end Go.Proofs.YtoabjjimjldcfaaGreatDoor
end
section
set_option linter.unusedVariables false
set_option maxRecDepth 100000
namespace Go.Proofs.YtoabjjimjldcfaaGreatDoor
open Go Go.Ab
theorem Ok.but {h G G' : Heap}{k:Nat}(o:Ok h G)(w:Wf h)(x:OkX G k G')(hk:h.next<=k):Ok h G':=
 ⟨x.wf,fun j B hj=>x.keep j B(fun e=>by have:=w _ _ hj; omega)(o.ext j B hj),Nat.le_trans o.nx x.nx⟩
def RJ {h2:Heap}{X Y N m L k ku kv kq ec:Nat}{cu cv:List Value}(hY:0 < Y)(hm:0 < m)(hmN:m<=N)(hN:N<=5000)(hL:L=N + 1 - m)(k0:0 < k)(kB:k<=BB)(hVl:(Num.toB BB(Y * k)).length=m)(hVB:Y * k<=BB ^ m)(a:Option Addr)(n c:Nat)(b:Option Addr)(d:Nat):=
 pe a n c b m d(k:Int)(some⟨kq,0,none⟩)L L(some⟨ku,0,none⟩)(N + 1)(bn + cu.length)(some⟨kv,0,none⟩)m ec(L:Int)
  (fun mz i G=>i<=L/\mz=L - i/\∃ U Ql:List Nat,DState h2 G ku kv kq cu cv U Ql N m(X * k)(Y * k)(L - i))(FL h2 X Y)(by
  intro mz i; intros; rename_i G hi
  obtain⟨h1,h2',U,Ql,D⟩:=hi
  have hYk:0 < Y * k:=Nat.mul_pos hY k0
  have hw1:IntKind.wrap .i64((L:Int) - 1)=(L:Int) - 1:=ap(by omega)(by omega)
  have hw3:IntKind.wrap .i64((i:Int) + 1)=((i + 1:Nat):Int):=by rw [ap(by omega)(by omega)]; omega
  have hcap:aO(bn + cu.length)=cu.length:=by unfold aO; rw [if_pos(by omega)]; omega
  have hul:=D.ul
  have hcl:=D.cl
  have hql:=D.qlen
  have ru:=yR(c:=bn + cu.length)D.gu hul.symm(by rw [hcap]; exact hcl)
  unfold kH
  rw [hw1]
  refine ae(fun h5=>?_)(fun h5=>?_)
  · have h5:=of_decide_eq_true h5
   obtain⟨at',hat⟩: ∃ x,x=L - 1 - i :=⟨_,rfl⟩
   have hw2:IntKind.wrap .i64((L:Int) - 1 - (i:Int))=(at' : Int):=by rw [ap(by omega)(by omega)]; omega
   have hw4:IntKind.wrap .i64((at' : Int) + (m:Int))=((at' + m:Nat):Int):=by rw [ap(by omega)(by omega)]; omega
   have hw5:IntKind.wrap .i64(((at' + m:Nat):Int) + 1)=((at' + m + 1:Nat):Int):=by rw [ap(by omega)(by omega)]; omega
   rw [hw2,hw4,hw5,hw3]
   have hinv:Num.DivInv BB m(Y * k)(X * k)U Ql(at' + 1):=by rw [show at' + 1=L - i by omega]; exact D.inv
   obtain⟨w1,w2,w3⟩:=hinv.window cI hVB
   have hwin:=ru.window(lo:=at')(hi:=at' + m + 1)(by omega)(by omega)
   rw [show at' + m + 1 - at' = m + 1 by omega,Nat.zero_add] at hwin
   refine⟨_,_,_,hwin,?_⟩
   have hC:(aV cu 0 U).length=cu.length:=Be(by omega)
   have DI:DigIn G ku at' (bn + cu.length - at')m(aV cu 0 U)((U.drop at').take(m + 1))(Num.toB BB(Y * k))(some⟨kv,0,none⟩)ec:={
    w:=D.ok.wf
    get:=by
     rw [il(by rw [w3]; exact lD(by omega))]
     exact D.gu
    fit:=by rw [w3,hC]; omega
    ul:=w3
    vl:=hVl
    mp:=hm
    mle:=by omega
    ult:=fun x hx=>hinv.ul x(List.mem_of_mem_drop(List.mem_of_mem_take hx))
    vlt:=Num.toB_lt cI _
    v1:=by have:=Num.toB_top cI hYk; rwa [hVl] at this
    lt:=by rw [Num.bv_toB cI]; exact w2
    rd:=fun g og=>.inr⟨kv,0,cv,ec,true,by rw [List.length_map,hVl],og.keep _ _(fun e=>D.uv' e.symm)D.gv,by rw [List.drop_zero,List.length_map]; exact D.vrow⟩}
   refine(Gp DI).mono ?_
   rintro _ g3⟨W',wl,wlt,wbv,rfl,wget,wok⟩
   rw [Num.bv_toB cI] at wbv
   have hqd:Num.bv BB((U.drop at').take(m + 1)) / Num.bv BB(Num.toB BB(Y * k))=Num.bv BB((U.drop at').take(m + 1)) / (Y * k):=by rw [Num.bv_toB cI]
   rw [hqd]
   have hdB:Num.bv BB((U.drop at').take(m + 1)) / (Y * k) < BB:=Nat.div_lt_of_lt_mul(by rw [Nat.mul_comm]; exact w2)
   have gq3:=wok.keep _ _(fun e=>D.uq e.symm)D.gq
   have gv3:=wok.keep _ _(fun e=>D.uv' e.symm)D.gv
   have ok3:=Ok.but D.ok D.w2 wok D.u2
   have hzl:((List.replicate(N + 1 - m)0).map uv).length=N + 1 - m:=by rw [List.length_map,List.length_replicate]
   have hst:=As gq3(by rw [hzl]; omega)(i:=at')(by omega)(Num.bv BB((U.drop at').take(m + 1)) / (Y * k))
   have hkn:=ok3.wf _ _ gq3
   have hid:=th(k:=kq)(off:=0)(n:=L)(c:=L)(i:=(at' : Int))(by omega)(by omega)
   rw [Int.toNat_natCast] at hid
   refine⟨_,rfl,_,hid,_,hst,?_⟩
   have hsplit:Num.bv BB((U.drop at').take(m + 1))=Num.bv BB W' + Num.bv BB((U.drop at').take(m + 1)) / (Y * k) * (Y * k):=by
    have h9:=Nat.mod_add_div(Num.bv BB((U.drop at').take(m + 1)))(Y * k)
    rw [Nat.mul_comm(Y * k)] at h9
    rw [wbv]; exact h9.symm
   have hnew:=hinv.step cI hVB wlt wl hdB hsplit(by rw [wbv]; exact Nat.mod_lt _ hYk)
   refine oe(mz - 1)(by omega)⟨by omega,by omega,U.take at' ++ W' ++ U.drop(at' + (m + 1)),Ql.set at' (Num.bv BB((U.drop at').take(m + 1)) / (Y * k)),{
    ok:=ok3.set _ D.q2 hkn D.w2
    w2:=D.w2
    u2:=D.u2
    q2:=D.q2
    gu:= ?_
    gv:= ?_
    gq:= ?_
    uv':=D.uv'
    uq:=D.uq
    vq:=D.vq
    ul:= ?_
    cl:=hcl
    qlen:=by rw [List.length_set]; exact hql
    vrow:=D.vrow
    inv:=by rw [show L - (i + 1)=at' by omega]; exact hnew }⟩
   · show(g3.set kq _).get ku=_
    rw [Heap.get_set,if_neg D.uq,wget,Cr(W:=(U.drop at').take(m + 1))(by omega)(by omega)(by rw [wl,w3])(by rw [w3]),wl]
   · show(g3.set kq _).get kv=_
    rw [Heap.get_set,if_neg D.vq]; exact gv3
   · show(g3.set kq _).get kq=_
    rw [Heap.get_set,if_pos rfl]
   · simp af [List.length_append,List.length_take,List.length_drop,wl]; omega
  · have h5:=of_decide_eq_false h5
   obtain rfl:i=L:=by omega
   have hinv:=D.inv
   rw [Nat.sub_self] at hinv
   obtain⟨d1,d2⟩:=hinv.done
   obtain⟨e1,e2⟩:=Num.mul_div_mul_k(X:=X)(Y:=Y)k0
   rw [e1] at d1
   rw [e2] at d2
   have hul':=hinv.ul
   obtain⟨t1,t2⟩:=Num.trimL_take U
   refine(kD ru(by omega)).mono ?_
   rintro _ _⟨rfl,rfl⟩
   refine⟨_,_,_,rfl,?_⟩
   have hC:(aV cu 0 U).length=cu.length:=Be(by omega)
   have hcapL:aO(N + 1 - m)=N + 1 - m:=by unfold aO; rw [if_neg(by unfold bn; omega)]
   have hbvt:Num.bv BB(Num.trimL U)=X % Y * k:=by rw [Num.trimL_eq cI hul',Num.bv_toB cI,d2]
   subst hL
   rename_i G'
   refine RN D.w2(X:=X)(Y:=Y)(ku:=ku)(kq:=kq)(rc:=bn + cu.length)(k:=k)(R:=X % Y * k)(C:=aV cu 0 U)(Zq:=(List.replicate(N + 1 - m)0).map uv)(Ql:=Ql)D.u2 D.q2 D.uq(by rw [hC]; omega)(by omega)hql.symm(by omega)(by rw [hcap]; omega)(by rw [hcapL]; exact Nat.le_refl _)k0 kB hinv.ql d1(Nat.mul_div_cancel _ k0)a n c b m d _(i:=0)
    ⟨Nat.zero_le _,rfl,⟨Num.trimL U,0,rfl,rfl,⟨fun x hx=>hul' x(by rw [<- t1] at hx; exact List.mem_of_mem_take hx),by omega,k0,?_⟩,?_⟩,D.gq,D.ok⟩
   · rw [Nat.sub_zero,List.drop_length,List.take_length,hbvt]
    simp [Num.bv]
   · rw [il(by rw [lD(by omega),List.drop_zero,t1])]
    exact D.gu)
end Go.Proofs.YtoabjjimjldcfaaGreatDoor
end
section
set_option linter.unusedVariables false
set_option maxRecDepth 100000
namespace Go.Proofs.YtoabjjimjldcfaaGreatDoor
open Go Go.Ab
theorem Er {h:Heap}{a b:Option Addr}{n c mm d:Nat}{X Y:Nat}(ra:Rd h 103(.slice a n c)(bl X))(rb:Rd h 103(.slice b mm d)(bl Y))(hY:0 < Y)(hN:(Num.toB BB X).length<=5000)(hM:(Num.toB BB Y).length<=5000)(w:Wf h) :
  FW SS 163 [.slice a n c,.slice b mm d] h(FL h X Y):=by
 have hBv:BB=1000000000:=rfl
 have hn:n=(Num.toB BB X).length:=by have:=ra.len; rwa [List.length_map] at this
 have hmm:mm=(Num.toB BB Y).length:=by have:=rb.len; rwa [List.length_map] at this
 obtain⟨f1,f2,f3,f4,f5,f6⟩:=Num.factor cI hY
 rw [<- hmm] at f1 f2 f3 f4 f5 f6
 generalize htop:(Num.toB BB Y).getD(mm - 1)0=top at f2 f3 f4 f6
 generalize hkd:BB / (top + 1)=k at f3 f4 f6
 refine E3 a n c b mm d h _((lg ra rb(by omega)w).mono ?_)
 rintro _ h2⟨rfl,ok2⟩
 refine⟨_,rfl,ae(fun h1=>?_)(fun h1=>?_)⟩
 · have h1:=Num.cmpN_neg.1(of_decide_eq_true h1)
  refine⟨_,_,_,_,_,_,rfl,.inl⟨rfl,?_⟩,?_,ok2⟩
  · rw [Nat.div_eq_of_lt h1]
   show(Num.toB BB 0).map uv=[]
   rw [Num.toB_zero]; rfl
  · rw [Nat.mod_eq_of_lt h1]; exact ra.ok ok2
 · have hXY:Y<=X:=by
   rcases Nat.lt_or_ge X Y with h | h
   · exact absurd(Num.cmpN_neg.2 h)(of_decide_eq_false h1)
   · exact h
  have hX:0 < X:=by omega
  have hmN:mm<=n:=by
   rcases Nat.lt_or_ge n mm with h | h
   · have:=Num.toB_len_lt cI(m:=X)(n:=Y)(by omega); omega
   · exact h
  have hw1:IntKind.wrap .i64((mm:Int) - 1)=((mm - 1:Nat):Int):=by rw [ap(by omega)(by omega)]; omega
  have hj:((mm - 1:Nat):Int).toNat=mm - 1:=by omega
  obtain⟨p,g2,g3⟩:=Dy(rb.ok ok2)(i:=((mm - 1:Nat):Int))(by omega)(by omega)
  rw [hj,htop] at g3
  have et:IntKind.wrap .u64((top:Int) + 1)=((top + 1:Nat):Int):=wU(by omega)(by omega)
  have hquo:an SS.P .quo 103(.int .u64 1000000000)(.int .u64((top + 1:Nat):Int))=some(.int .u64(k:Int)):=by
   have:=Ps(a:=BB)(b:=top + 1)(by decide)(by omega)
   rw [hkd] at this
   exact this
  rw [hw1]
  refine⟨p,g2,_,g3,?_⟩
  dsimp af
  rw [et]
  refine⟨_,hquo,?_⟩
  refine(tF(ra.ok ok2)(Num.toB_lt cI X)(by omega)f3 f4 ok2.wf).mono ?_
  rintro _ h8⟨a9,n10,c11,rfl,ou,ok8⟩
  rw [Num.bv_toB cI] at ou
  refine⟨a9,n10,c11,rfl,(tF((rb.ok ok2).ok ok8)(Num.toB_lt cI Y)(by omega)f3 f4 ok8.wf).mono ?_⟩
  rintro _ h13⟨a14,n15,c16,rfl,ov,ok13⟩
  rw [Num.bv_toB cI] at ov
  refine⟨a14,n15,c16,rfl,?_⟩
  have hYk:0 < Y * k:=Nat.mul_pos hY f3
  have hVl:(Num.toB BB(Y * k)).length=mm:=Num.toB_len_eq cI f6(Nat.le_trans f5(Nat.le_mul_of_pos_right Y f3))f1
  have hvlen:(bl(Y * k)).length=mm:=by rw [List.length_map]; exact hVl
  rcases ov with⟨_,e⟩|⟨kv,cv,e,hkv,gv,tv,lv⟩
  · rw [e] at hvlen; simp at hvlen; omega
  injection e with e1 e2 e3
  subst e1
  obtain rfl:n15=mm:=by rw [e2,hvlen]
  rw [hvlen] at tv
  have hbvX:=Num.bv_lt(Num.toB_lt cI X)
  rw [Num.bv_toB cI,<- hn] at hbvX
  have hXk:0 < X * k:=Nat.mul_pos hX f3
  have L1:=py a n c b n15 d(k:Int)(some⟨kv,0,none⟩)n15 c16
   (fun mz r rn rc g=>rn<=n + 1/\mz=n + 1 - rn/\0 < rn/\∃ U:List Nat,U.length=rn/\OwnR h g 103(.slice r rn rc)(U.map uv)/\Ok h g/\(∀ x∈U,x < BB)/\Num.bv BB U=X * k/\g.get kv=some(.cells cv 103 1 true)/\(∀ o n c,Value.slice r rn rc≠ .slice(some⟨kv,o,none⟩)n c))(FL h X Y)(by
   intro mz r rn rc; intros; rename_i g hi
   obtain⟨h1,h2',h3,U,hU,o,ok,hlt,hbv,gkv,hne⟩:=hi
   refine ae(fun h5=>?_)(fun h5=>?_)
   · have h5:=of_decide_eq_true h5
    refine⟨_,_,_,nG _,?_⟩
    obtain⟨b',m',d',u,g6,g7,g8,g9,g10,g11⟩:=OwnR.snocX(P:=SS.P)(t:=136)(x:= .int .u64 0)wF Hx zK w ok o rfl(by rw [wv,List.length_map]; omega)(by rw [List.length_map]; omega)
    rw [List.length_map,hU] at g7
    subst g7
    refine⟨b',_,d',u,g6,pb(mz - 1)(by omega)⟨by omega,by omega,by omega,U ++ [0],by simp [hU],?_,g9,?_,?_,g10 _ _ gkv hne,?_⟩⟩
    · rw [List.map_append]; exact g8
    · intro x hx
     rcases List.mem_append.1 hx with hx | hx
     · exact hlt x hx
     · rw [List.mem_singleton.1 hx]; decide
    · rw [Num.bv_snoc,hbv]; simp
    · intro o' n' c' e
     rcases g11 _ _ _ _ e with h7 |⟨o2,n2,c2,h7⟩
     · have:=ok.wf _ _ gkv; omega
     · exact hne _ _ _ h7
   · have h5:=of_decide_eq_false h5
    obtain rfl:rn=n + 1:=by omega
    rcases o with⟨_,e⟩|⟨ku,cu,e,hku,gu,tu,lu⟩
    · have:=congrArg List.length e
     rw [List.length_map,hU] at this
     have h9:n + 1=0:=this
     omega
    rw [List.length_map,hU] at e tu lu
    injection e with e1 _ e3
    subst e1
    subst e3
    have hwL:IntKind.wrap .i64(((n + 1:Nat):Int) - (n15:Int))=((n + 1 - n15:Nat):Int):=by rw [ap(by omega)(by omega)]; omega
    rw [hwL]
    refine⟨_,_,_,TW _(by omega),?_⟩
    have hkun:=ok.wf _ _ gu
    have hkvn:=ok.wf _ _ gkv
    have huv:ku≠kv:=fun e=>hne 0(n + 1)(bn + cu.length)(by rw [e])
    have hcapz:((List.replicate(n + 1 - n15)0).map uv).length=n + 1 - n15:=by rw [List.length_map,List.length_replicate]
    exact RJ(h2:=h)(X:=X)(Y:=Y)(N:=n)(m:=n15)(L:=n + 1 - n15)(k:=k)(ku:=ku)(kv:=kv)(kq:=g.next)(ec:=c16)(cu:=cu)(cv:=cv)hY f1 hmN(by omega)rfl f3 f4 hVl(Nat.le_of_lt f6)a n c b d(n + 1 - n15)(i:=0)
     ⟨Nat.zero_le _,rfl,U,List.replicate(n + 1 - n15)0,{
      ok:=ok.push _
      w2:=w
      u2:=hku
      q2:=ok.nx
      gu:=by
       rw [Heap.get_push,if_neg(by omega),il(by rw [List.drop_zero,hU]; exact tu)]
       exact gu
      gv:=by rw [Heap.get_push,if_neg(by omega)]; exact gkv
      gq:=by
       rw [Heap.get_push,if_pos rfl,il(by rw [List.drop_zero,List.length_replicate,List.take_of_length_le(by rw [hcapz]; exact Nat.le_refl _)])]
      uv':=huv
      uq:=by omega
      vq:=by omega
      ul:=hU
      cl:=lu
      qlen:=by rw [List.length_replicate]
      vrow:=by rw [hVl]; exact tv
      inv:=Num.DivInv.start cI hlt hU hmN hbvX f5 f1 f3 hbv }⟩)
  have hou:=OwnR.weak ok2.nx ou
  have hlenu:n10=(Num.toB BB(X * k)).length:=by have:=ou.len; rwa [List.length_map] at this
  have hkvlt:h8.next<=kv:=hkv
  have hXkl:(Num.toB BB(X * k)).length<=n + 1:=by
   refine Num.toB_len_le cI ?_
   rw [Nat.pow_succ]
   exact Nat.lt_of_lt_of_le(Nat.mul_lt_mul_of_pos_right hbvX f3)(Nat.mul_le_mul_left _ f4)
  have hpos:0 < (Num.toB BB(X * k)).length:=List.length_pos_iff.2 fun e=>by have:=(Num.toB_eq_nil cI).1 e; omega
  refine L1(n + 1 - n10)⟨by omega,rfl,by omega,Num.toB BB(X * k),hlenu.symm,hou.ok ok13,(ok2.trans ok8).trans ok13,Num.toB_lt cI _,Num.bv_toB cI _,gv,?_⟩
  intro o n' c' e
  rcases ou with⟨e',_⟩|⟨ku,cu,e',hku,gu,_,_⟩
  · rw [e'] at e; injection e with e; cases e
  · rw [e'] at e
   injection e with e _ _
   injection e with e
   injection e with e
   have:=ok8.wf _ _ gu
   omega
end Go.Proofs.YtoabjjimjldcfaaGreatDoor
end
section
set_option linter.unusedVariables false
set_option maxRecDepth 100000
namespace Go.Proofs.YtoabjjimjldcfaaGreatDoor
open Go Go.Ab
noncomputable def Aa:Code:=(Tryz.f93.body).getD .skip
def Tv:List Nat:=[]
abbrev Sg(u:Int)(h:Heap)(Q:VH):Prop:=ax(decide((u:Int)>=4294967296))(xI .u64(an SS.P .shr 103(.int .u64 u)(.int .u64 32))fun n1=>ax(decide((n1:Int)>=65536))(xI .u64(an SS.P .shr 103(.int .u64 n1)(.int .u64 16))fun n2=>ax(decide((n2:Int)>=256))(xI .u64(an SS.P .shr 103(.int .u64 n2)(.int .u64 8))fun n3=>xI .u8(aR SS.P 9(aa [0,1,2,2,3,3,3,3,4,4,4,4,4,4,4,4,5,5,5,5,5,5,5,5,5,5,5,5,5,5,5,5,6,6,6,6,6,6,6,6,6,6,6,6,6,6,6,6,6,6,6,6,6,6,6,6,6,6,6,6,6,6,6,6,7,7,7,7,7,7,7,7,7,7,7,7,7,7,7,7,7,7,7,7,7,7,7,7,7,7,7,7,7,7,7,7,7,7,7,7,7,7,7,7,7,7,7,7,7,7,7,7,7,7,7,7,7,7,7,7,7,7,7,7,7,7,7,7,8,8,8,8,8,8,8,8,8,8,8,8,8,8,8,8,8,8,8,8,8,8,8,8,8,8,8,8,8,8,8,8,8,8,8,8,8,8,8,8,8,8,8,8,8,8,8,8,8,8,8,8,8,8,8,8,8,8,8,8,8,8,8,8,8,8,8,8,8,8,8,8,8,8,8,8,8,8,8,8,8,8,8,8,8,8,8,8,8,8,8,8,8,8,8,8,8,8,8,8,8,8,8,8,8,8,8,8,8,8,8,8,8,8,8,8,8,8,8,8,8,8,8,8,8,8,8,8])(.int .u8(IntKind.wrap .u8 n3)))fun n4=>Q(.int .i64(IntKind.wrap .i64(IntKind.wrap .i64(IntKind.wrap .i64(32 + 16) + 8) + IntKind.wrap .i64 n4)))h)(xI .u8(aR SS.P 9(aa [0,1,2,2,3,3,3,3,4,4,4,4,4,4,4,4,5,5,5,5,5,5,5,5,5,5,5,5,5,5,5,5,6,6,6,6,6,6,6,6,6,6,6,6,6,6,6,6,6,6,6,6,6,6,6,6,6,6,6,6,6,6,6,6,7,7,7,7,7,7,7,7,7,7,7,7,7,7,7,7,7,7,7,7,7,7,7,7,7,7,7,7,7,7,7,7,7,7,7,7,7,7,7,7,7,7,7,7,7,7,7,7,7,7,7,7,7,7,7,7,7,7,7,7,7,7,7,7,8,8,8,8,8,8,8,8,8,8,8,8,8,8,8,8,8,8,8,8,8,8,8,8,8,8,8,8,8,8,8,8,8,8,8,8,8,8,8,8,8,8,8,8,8,8,8,8,8,8,8,8,8,8,8,8,8,8,8,8,8,8,8,8,8,8,8,8,8,8,8,8,8,8,8,8,8,8,8,8,8,8,8,8,8,8,8,8,8,8,8,8,8,8,8,8,8,8,8,8,8,8,8,8,8,8,8,8,8,8,8,8,8,8,8,8,8,8,8,8,8,8,8,8,8,8,8,8])(.int .u8(IntKind.wrap .u8 n2)))fun n5=>Q(.int .i64(IntKind.wrap .i64(IntKind.wrap .i64(32 + 16) + IntKind.wrap .i64 n5)))h))(ax(decide((n1:Int)>=256))(xI .u64(an SS.P .shr 103(.int .u64 n1)(.int .u64 8))fun n6=>xI .u8(aR SS.P 9(aa [0,1,2,2,3,3,3,3,4,4,4,4,4,4,4,4,5,5,5,5,5,5,5,5,5,5,5,5,5,5,5,5,6,6,6,6,6,6,6,6,6,6,6,6,6,6,6,6,6,6,6,6,6,6,6,6,6,6,6,6,6,6,6,6,7,7,7,7,7,7,7,7,7,7,7,7,7,7,7,7,7,7,7,7,7,7,7,7,7,7,7,7,7,7,7,7,7,7,7,7,7,7,7,7,7,7,7,7,7,7,7,7,7,7,7,7,7,7,7,7,7,7,7,7,7,7,7,7,8,8,8,8,8,8,8,8,8,8,8,8,8,8,8,8,8,8,8,8,8,8,8,8,8,8,8,8,8,8,8,8,8,8,8,8,8,8,8,8,8,8,8,8,8,8,8,8,8,8,8,8,8,8,8,8,8,8,8,8,8,8,8,8,8,8,8,8,8,8,8,8,8,8,8,8,8,8,8,8,8,8,8,8,8,8,8,8,8,8,8,8,8,8,8,8,8,8,8,8,8,8,8,8,8,8,8,8,8,8,8,8,8,8,8,8,8,8,8,8,8,8,8,8,8,8,8,8])(.int .u8(IntKind.wrap .u8 n6)))fun n7=>Q(.int .i64(IntKind.wrap .i64(IntKind.wrap .i64(32 + 8) + IntKind.wrap .i64 n7)))h)(xI .u8(aR SS.P 9(aa [0,1,2,2,3,3,3,3,4,4,4,4,4,4,4,4,5,5,5,5,5,5,5,5,5,5,5,5,5,5,5,5,6,6,6,6,6,6,6,6,6,6,6,6,6,6,6,6,6,6,6,6,6,6,6,6,6,6,6,6,6,6,6,6,7,7,7,7,7,7,7,7,7,7,7,7,7,7,7,7,7,7,7,7,7,7,7,7,7,7,7,7,7,7,7,7,7,7,7,7,7,7,7,7,7,7,7,7,7,7,7,7,7,7,7,7,7,7,7,7,7,7,7,7,7,7,7,7,8,8,8,8,8,8,8,8,8,8,8,8,8,8,8,8,8,8,8,8,8,8,8,8,8,8,8,8,8,8,8,8,8,8,8,8,8,8,8,8,8,8,8,8,8,8,8,8,8,8,8,8,8,8,8,8,8,8,8,8,8,8,8,8,8,8,8,8,8,8,8,8,8,8,8,8,8,8,8,8,8,8,8,8,8,8,8,8,8,8,8,8,8,8,8,8,8,8,8,8,8,8,8,8,8,8,8,8,8,8,8,8,8,8,8,8,8,8,8,8,8,8,8,8,8,8,8,8])(.int .u8(IntKind.wrap .u8 n1)))fun n8=>Q(.int .i64(IntKind.wrap .i64(32 + IntKind.wrap .i64 n8)))h)))(ax(decide((u:Int)>=65536))(xI .u64(an SS.P .shr 103(.int .u64 u)(.int .u64 16))fun n9=>ax(decide((n9:Int)>=256))(xI .u64(an SS.P .shr 103(.int .u64 n9)(.int .u64 8))fun n10=>xI .u8(aR SS.P 9(aa [0,1,2,2,3,3,3,3,4,4,4,4,4,4,4,4,5,5,5,5,5,5,5,5,5,5,5,5,5,5,5,5,6,6,6,6,6,6,6,6,6,6,6,6,6,6,6,6,6,6,6,6,6,6,6,6,6,6,6,6,6,6,6,6,7,7,7,7,7,7,7,7,7,7,7,7,7,7,7,7,7,7,7,7,7,7,7,7,7,7,7,7,7,7,7,7,7,7,7,7,7,7,7,7,7,7,7,7,7,7,7,7,7,7,7,7,7,7,7,7,7,7,7,7,7,7,7,7,8,8,8,8,8,8,8,8,8,8,8,8,8,8,8,8,8,8,8,8,8,8,8,8,8,8,8,8,8,8,8,8,8,8,8,8,8,8,8,8,8,8,8,8,8,8,8,8,8,8,8,8,8,8,8,8,8,8,8,8,8,8,8,8,8,8,8,8,8,8,8,8,8,8,8,8,8,8,8,8,8,8,8,8,8,8,8,8,8,8,8,8,8,8,8,8,8,8,8,8,8,8,8,8,8,8,8,8,8,8,8,8,8,8,8,8,8,8,8,8,8,8,8,8,8,8,8,8])(.int .u8(IntKind.wrap .u8 n10)))fun n11=>Q(.int .i64(IntKind.wrap .i64(IntKind.wrap .i64(IntKind.wrap .i64(0 + 16) + 8) + IntKind.wrap .i64 n11)))h)(xI .u8(aR SS.P 9(aa [0,1,2,2,3,3,3,3,4,4,4,4,4,4,4,4,5,5,5,5,5,5,5,5,5,5,5,5,5,5,5,5,6,6,6,6,6,6,6,6,6,6,6,6,6,6,6,6,6,6,6,6,6,6,6,6,6,6,6,6,6,6,6,6,7,7,7,7,7,7,7,7,7,7,7,7,7,7,7,7,7,7,7,7,7,7,7,7,7,7,7,7,7,7,7,7,7,7,7,7,7,7,7,7,7,7,7,7,7,7,7,7,7,7,7,7,7,7,7,7,7,7,7,7,7,7,7,7,8,8,8,8,8,8,8,8,8,8,8,8,8,8,8,8,8,8,8,8,8,8,8,8,8,8,8,8,8,8,8,8,8,8,8,8,8,8,8,8,8,8,8,8,8,8,8,8,8,8,8,8,8,8,8,8,8,8,8,8,8,8,8,8,8,8,8,8,8,8,8,8,8,8,8,8,8,8,8,8,8,8,8,8,8,8,8,8,8,8,8,8,8,8,8,8,8,8,8,8,8,8,8,8,8,8,8,8,8,8,8,8,8,8,8,8,8,8,8,8,8,8,8,8,8,8,8,8])(.int .u8(IntKind.wrap .u8 n9)))fun n12=>Q(.int .i64(IntKind.wrap .i64(IntKind.wrap .i64(0 + 16) + IntKind.wrap .i64 n12)))h))(ax(decide((u:Int)>=256))(xI .u64(an SS.P .shr 103(.int .u64 u)(.int .u64 8))fun n13=>xI .u8(aR SS.P 9(aa [0,1,2,2,3,3,3,3,4,4,4,4,4,4,4,4,5,5,5,5,5,5,5,5,5,5,5,5,5,5,5,5,6,6,6,6,6,6,6,6,6,6,6,6,6,6,6,6,6,6,6,6,6,6,6,6,6,6,6,6,6,6,6,6,7,7,7,7,7,7,7,7,7,7,7,7,7,7,7,7,7,7,7,7,7,7,7,7,7,7,7,7,7,7,7,7,7,7,7,7,7,7,7,7,7,7,7,7,7,7,7,7,7,7,7,7,7,7,7,7,7,7,7,7,7,7,7,7,8,8,8,8,8,8,8,8,8,8,8,8,8,8,8,8,8,8,8,8,8,8,8,8,8,8,8,8,8,8,8,8,8,8,8,8,8,8,8,8,8,8,8,8,8,8,8,8,8,8,8,8,8,8,8,8,8,8,8,8,8,8,8,8,8,8,8,8,8,8,8,8,8,8,8,8,8,8,8,8,8,8,8,8,8,8,8,8,8,8,8,8,8,8,8,8,8,8,8,8,8,8,8,8,8,8,8,8,8,8,8,8,8,8,8,8,8,8,8,8,8,8,8,8,8,8,8,8])(.int .u8(IntKind.wrap .u8 n13)))fun n14=>Q(.int .i64(IntKind.wrap .i64(IntKind.wrap .i64(0 + 8) + IntKind.wrap .i64 n14)))h)(xI .u8(aR SS.P 9(aa [0,1,2,2,3,3,3,3,4,4,4,4,4,4,4,4,5,5,5,5,5,5,5,5,5,5,5,5,5,5,5,5,6,6,6,6,6,6,6,6,6,6,6,6,6,6,6,6,6,6,6,6,6,6,6,6,6,6,6,6,6,6,6,6,7,7,7,7,7,7,7,7,7,7,7,7,7,7,7,7,7,7,7,7,7,7,7,7,7,7,7,7,7,7,7,7,7,7,7,7,7,7,7,7,7,7,7,7,7,7,7,7,7,7,7,7,7,7,7,7,7,7,7,7,7,7,7,7,8,8,8,8,8,8,8,8,8,8,8,8,8,8,8,8,8,8,8,8,8,8,8,8,8,8,8,8,8,8,8,8,8,8,8,8,8,8,8,8,8,8,8,8,8,8,8,8,8,8,8,8,8,8,8,8,8,8,8,8,8,8,8,8,8,8,8,8,8,8,8,8,8,8,8,8,8,8,8,8,8,8,8,8,8,8,8,8,8,8,8,8,8,8,8,8,8,8,8,8,8,8,8,8,8,8,8,8,8,8,8,8,8,8,8,8,8,8,8,8,8,8,8,8,8,8,8,8])(.int .u8(IntKind.wrap .u8 u)))fun n15=>Q(.int .i64(IntKind.wrap .i64(0 + IntKind.wrap .i64 n15)))h)))
theorem Qi(u:Int)(h:Heap)(Q:VH)(hx:Sg u h Q):FW SS 93 [(.int .u64 u)] h Q:=ay(M:=Tv)(c:=Aa)Tryz.func93(show Tryz.f93.body=some Aa by kernel_rfl)(by kernel_rfl)(aj hx(by kernel_rfl))
noncomputable def oy:Code:=(Tryz.f198.body).getD .skip
def G5:List Nat:=[]
abbrev F2(n:Int)(h:Heap)(Q:VH):Prop:=xI .i64(an SS.P .shr 3(.int .i64(IntKind.wrap .i64(n * 78913)))(.int .u64 18))fun n1=>Q(.int .i64 n1)h
theorem FM(n:Int)(h:Heap)(Q:VH)(hx:F2 n h Q):FW SS 198 [(.int .i64 n)] h Q:=ay(M:=G5)(c:=oy)Tryz.func198(show Tryz.f198.body=some oy by kernel_rfl)(by kernel_rfl)(aj hx(by kernel_rfl))
noncomputable def Bo:Code:=(Tryz.f199.body).getD .skip
def Sf:List Nat:=[]
abbrev SE(b:Bool)(h:Heap)(Q:VH):Prop:=ax b(Q(.int .i64 1)h)(Q(.int .i64 0)h)
theorem QQ(b:Bool)(h:Heap)(Q:VH)(hx:SE b h Q):FW SS 199 [(.bool b)] h Q:=ay(M:=Sf)(c:=Bo)Tryz.func199(show Tryz.f199.body=some Bo by kernel_rfl)(by kernel_rfl)(aj hx(by kernel_rfl))
noncomputable def pO:Code:=(Tryz.f191.body).getD .skip
def Hg:List Nat:=[]
abbrev HU(u:Int)(h:Heap)(Q:VH):Prop:=FW SS 93 [(.int .u64 u)] h fun v1 h2=>yI .i64 v1 fun n3=>FW SS 198 [(.int .i64 n3)] h2 fun v4 h5=>yI .i64 v4 fun n6=>xP(ag SS.P 185(pA 1)(.int .i64 n6))fun p7=>xI .u64(ai SS.P 103 h5(.pointer(some p7)))fun n8=>FW SS 199 [(.bool(decide((u:Int)>=n8)))] h5 fun v9 h10=>yI .i64 v9 fun n11=>Q(.int .i64(IntKind.wrap .i64(n6 + n11)))h10
theorem Ep(u:Int)(h:Heap)(Q:VH)(hx:HU u h Q):FW SS 191 [(.int .u64 u)] h Q:=ay(M:=Hg)(c:=pO)Tryz.func191(show Tryz.f191.body=some pO by kernel_rfl)(by kernel_rfl)(aj hx(by kernel_rfl))
noncomputable def AL:Code:=(Tryz.f190.body).getD .skip
def Ti:List Nat:=[]
abbrev RU(n:Int)(h:Heap)(Q:VH):Prop:=ax(decide((n:Int) < 10))(xS(aM SS.P 9(aa [48,49,50,51,52,53,54,55,56,57,97,98,99,100,101,102,103,104,105,106,107,108,109,110,111,112,113,114,115,116,117,118,119,120,121,122])(some(.int .i64 n))(some(.int .i64(IntKind.wrap .i64(n + 1))))none h)fun l1=>Q(aa l1)h)(xS(aM SS.P 9(aa [48,48,48,49,48,50,48,51,48,52,48,53,48,54,48,55,48,56,48,57,49,48,49,49,49,50,49,51,49,52,49,53,49,54,49,55,49,56,49,57,50,48,50,49,50,50,50,51,50,52,50,53,50,54,50,55,50,56,50,57,51,48,51,49,51,50,51,51,51,52,51,53,51,54,51,55,51,56,51,57,52,48,52,49,52,50,52,51,52,52,52,53,52,54,52,55,52,56,52,57,53,48,53,49,53,50,53,51,53,52,53,53,53,54,53,55,53,56,53,57,54,48,54,49,54,50,54,51,54,52,54,53,54,54,54,55,54,56,54,57,55,48,55,49,55,50,55,51,55,52,55,53,55,54,55,55,55,56,55,57,56,48,56,49,56,50,56,51,56,52,56,53,56,54,56,55,56,56,56,57,57,48,57,49,57,50,57,51,57,52,57,53,57,54,57,55,57,56,57,57])(some(.int .i64(IntKind.wrap .i64(n * 2))))(some(.int .i64(IntKind.wrap .i64(IntKind.wrap .i64(n * 2) + 2))))none h)fun l2=>Q(aa l2)h)
theorem Pi(n:Int)(h:Heap)(Q:VH)(hx:RU n h Q):FW SS 190 [(.int .i64 n)] h Q:=ay(M:=Ti)(c:=AL)Tryz.func190(show Tryz.f190.body=some AL by kernel_rfl)(by kernel_rfl)(aj hx(by kernel_rfl))
noncomputable def jK:Code:=(Tryz.f192.body).getD .skip
noncomputable def KM(Q:VH):ak:=cF SS Tryz.f192.results.toList Q
def FA:List Nat:=[0,1,4]
noncomputable def KB(p:List Nat)(w:LV)(h:Heap)(Q:ak):Prop:=bq SS Tryz.f192.ntmps FA(aQ p jK)w h Q
noncomputable def Kw(p b:List Nat)(K:ak):ak:=ko SS Tryz.f192.ntmps FA p(aQ b jK)K
abbrev Tt(a:OA)(n c:Nat)(u:Int)(h:Heap)(Q:VH):Prop:=KB [1,0,0,0] [(.slice a n c),(.int .u64 u),(iA n)] h(Kw [1,0,0] [] (KM Q))
theorem Rb(a:OA)(n c:Nat)(u:Int)(h:Heap)(Q:VH)(hx:Tt a n c u h Q):FW SS 192 [(.slice a n c),(.int .u64 u)] h Q:=ay(M:=FA)(c:=jK)Tryz.func192(show Tryz.f192.body=some jK by kernel_rfl)(by kernel_rfl)(aj hx(by kernel_rfl))
abbrev k6(a:OA)(n c:Nat)(u:Int)  (i:Nat)(v:Int)  : LV:=[(.slice a n c),(.int .u64 v),(iA i)]
def lw(a:OA)(n c:Nat)(u:Int)  (Inv:Nat->Nat->Int->Heap->Prop)(mz:Nat)(w:LV)(h:Heap):Prop:= ∃ (i:Nat)(v:Int) ,w=(k6 a n c u i v )/\Inv mz i v h
abbrev Cm(a:OA)(n c:Nat)(u:Int)  (Inv:Nat->Nat->Int->Heap->Prop)(Q:VH)(mz:Nat)(i:Nat)(v:Int)  (zz:Nat->Value)(h:Heap):Prop:=ax(decide(((i:Int):Int)>=8))(xI .u64(an SS.P .rem 103(.int .u64 v)(.int .u64 100000000))fun n1=>xI .u64(an SS.P .quo 103(.int .u64 v)(.int .u64 100000000))fun n2=>xI .u32(an SS.P .quo 101(.int .u32(IntKind.wrap .u32 n1))(.int .u32 10000))fun n3=>xI .u32(an SS.P .rem 101(.int .u32(IntKind.wrap .u32 n1))(.int .u32 10000))fun n4=>xI .u32(an SS.P .quo 101(.int .u32 n4)(.int .u32 100))fun n5=>xI .u32(an SS.P .rem 101(.int .u32 n4)(.int .u32 100))fun n6=>xI .u32(an SS.P .quo 101(.int .u32 n3)(.int .u32 100))fun n7=>xI .u32(an SS.P .rem 101(.int .u32 n3)(.int .u32 100))fun n8=>xI .u8(aR SS.P 9(aa [48,48,48,49,48,50,48,51,48,52,48,53,48,54,48,55,48,56,48,57,49,48,49,49,49,50,49,51,49,52,49,53,49,54,49,55,49,56,49,57,50,48,50,49,50,50,50,51,50,52,50,53,50,54,50,55,50,56,50,57,51,48,51,49,51,50,51,51,51,52,51,53,51,54,51,55,51,56,51,57,52,48,52,49,52,50,52,51,52,52,52,53,52,54,52,55,52,56,52,57,53,48,53,49,53,50,53,51,53,52,53,53,53,54,53,55,53,56,53,57,54,48,54,49,54,50,54,51,54,52,54,53,54,54,54,55,54,56,54,57,55,48,55,49,55,50,55,51,55,52,55,53,55,54,55,55,55,56,55,57,56,48,56,49,56,50,56,51,56,52,56,53,56,54,56,55,56,56,56,57,57,48,57,49,57,50,57,51,57,52,57,53,57,54,57,55,57,56,57,57])(.int .u32(IntKind.wrap .u32(IntKind.wrap .u32(n6 * 2) + 1))))fun n9=>xI .u8(aR SS.P 9(aa [48,48,48,49,48,50,48,51,48,52,48,53,48,54,48,55,48,56,48,57,49,48,49,49,49,50,49,51,49,52,49,53,49,54,49,55,49,56,49,57,50,48,50,49,50,50,50,51,50,52,50,53,50,54,50,55,50,56,50,57,51,48,51,49,51,50,51,51,51,52,51,53,51,54,51,55,51,56,51,57,52,48,52,49,52,50,52,51,52,52,52,53,52,54,52,55,52,56,52,57,53,48,53,49,53,50,53,51,53,52,53,53,53,54,53,55,53,56,53,57,54,48,54,49,54,50,54,51,54,52,54,53,54,54,54,55,54,56,54,57,55,48,55,49,55,50,55,51,55,52,55,53,55,54,55,55,55,56,55,57,56,48,56,49,56,50,56,51,56,52,56,53,56,54,56,55,56,56,56,57,57,48,57,49,57,50,57,51,57,52,57,53,57,54,57,55,57,56,57,57])(.int .u32(IntKind.wrap .u32(n6 * 2))))fun n10=>xP(ag SS.P 157(.slice a n c)(.int .i64(IntKind.wrap .i64((i:Int) - 1))))fun p11=>xU(am SS.P 5(.pointer(some p11))(.int .u8 n9)(room h 15))(room h 15)fun u12 g13=>xP(ag SS.P 157(.slice a n c)(.int .i64(IntKind.wrap .i64((i:Int) - 2))))fun p14=>xU(am SS.P 5(.pointer(some p14))(.int .u8 n10)g13)g13 fun u15 g16=>xI .u8(aR SS.P 9(aa [48,48,48,49,48,50,48,51,48,52,48,53,48,54,48,55,48,56,48,57,49,48,49,49,49,50,49,51,49,52,49,53,49,54,49,55,49,56,49,57,50,48,50,49,50,50,50,51,50,52,50,53,50,54,50,55,50,56,50,57,51,48,51,49,51,50,51,51,51,52,51,53,51,54,51,55,51,56,51,57,52,48,52,49,52,50,52,51,52,52,52,53,52,54,52,55,52,56,52,57,53,48,53,49,53,50,53,51,53,52,53,53,53,54,53,55,53,56,53,57,54,48,54,49,54,50,54,51,54,52,54,53,54,54,54,55,54,56,54,57,55,48,55,49,55,50,55,51,55,52,55,53,55,54,55,55,55,56,55,57,56,48,56,49,56,50,56,51,56,52,56,53,56,54,56,55,56,56,56,57,57,48,57,49,57,50,57,51,57,52,57,53,57,54,57,55,57,56,57,57])(.int .u32(IntKind.wrap .u32(IntKind.wrap .u32(n5 * 2) + 1))))fun n17=>xI .u8(aR SS.P 9(aa [48,48,48,49,48,50,48,51,48,52,48,53,48,54,48,55,48,56,48,57,49,48,49,49,49,50,49,51,49,52,49,53,49,54,49,55,49,56,49,57,50,48,50,49,50,50,50,51,50,52,50,53,50,54,50,55,50,56,50,57,51,48,51,49,51,50,51,51,51,52,51,53,51,54,51,55,51,56,51,57,52,48,52,49,52,50,52,51,52,52,52,53,52,54,52,55,52,56,52,57,53,48,53,49,53,50,53,51,53,52,53,53,53,54,53,55,53,56,53,57,54,48,54,49,54,50,54,51,54,52,54,53,54,54,54,55,54,56,54,57,55,48,55,49,55,50,55,51,55,52,55,53,55,54,55,55,55,56,55,57,56,48,56,49,56,50,56,51,56,52,56,53,56,54,56,55,56,56,56,57,57,48,57,49,57,50,57,51,57,52,57,53,57,54,57,55,57,56,57,57])(.int .u32(IntKind.wrap .u32(n5 * 2))))fun n18=>xP(ag SS.P 157(.slice a n c)(.int .i64(IntKind.wrap .i64((i:Int) - 3))))fun p19=>xU(am SS.P 5(.pointer(some p19))(.int .u8 n17)(room g16 15))(room g16 15)fun u20 g21=>xP(ag SS.P 157(.slice a n c)(.int .i64(IntKind.wrap .i64((i:Int) - 4))))fun p22=>xU(am SS.P 5(.pointer(some p22))(.int .u8 n18)g21)g21 fun u23 g24=>xI .u8(aR SS.P 9(aa [48,48,48,49,48,50,48,51,48,52,48,53,48,54,48,55,48,56,48,57,49,48,49,49,49,50,49,51,49,52,49,53,49,54,49,55,49,56,49,57,50,48,50,49,50,50,50,51,50,52,50,53,50,54,50,55,50,56,50,57,51,48,51,49,51,50,51,51,51,52,51,53,51,54,51,55,51,56,51,57,52,48,52,49,52,50,52,51,52,52,52,53,52,54,52,55,52,56,52,57,53,48,53,49,53,50,53,51,53,52,53,53,53,54,53,55,53,56,53,57,54,48,54,49,54,50,54,51,54,52,54,53,54,54,54,55,54,56,54,57,55,48,55,49,55,50,55,51,55,52,55,53,55,54,55,55,55,56,55,57,56,48,56,49,56,50,56,51,56,52,56,53,56,54,56,55,56,56,56,57,57,48,57,49,57,50,57,51,57,52,57,53,57,54,57,55,57,56,57,57])(.int .u32(IntKind.wrap .u32(IntKind.wrap .u32(n8 * 2) + 1))))fun n25=>xI .u8(aR SS.P 9(aa [48,48,48,49,48,50,48,51,48,52,48,53,48,54,48,55,48,56,48,57,49,48,49,49,49,50,49,51,49,52,49,53,49,54,49,55,49,56,49,57,50,48,50,49,50,50,50,51,50,52,50,53,50,54,50,55,50,56,50,57,51,48,51,49,51,50,51,51,51,52,51,53,51,54,51,55,51,56,51,57,52,48,52,49,52,50,52,51,52,52,52,53,52,54,52,55,52,56,52,57,53,48,53,49,53,50,53,51,53,52,53,53,53,54,53,55,53,56,53,57,54,48,54,49,54,50,54,51,54,52,54,53,54,54,54,55,54,56,54,57,55,48,55,49,55,50,55,51,55,52,55,53,55,54,55,55,55,56,55,57,56,48,56,49,56,50,56,51,56,52,56,53,56,54,56,55,56,56,56,57,57,48,57,49,57,50,57,51,57,52,57,53,57,54,57,55,57,56,57,57])(.int .u32(IntKind.wrap .u32(n8 * 2))))fun n26=>xP(ag SS.P 157(.slice a n c)(.int .i64(IntKind.wrap .i64((i:Int) - 5))))fun p27=>xU(am SS.P 5(.pointer(some p27))(.int .u8 n25)(room g24 15))(room g24 15)fun u28 g29=>xP(ag SS.P 157(.slice a n c)(.int .i64(IntKind.wrap .i64((i:Int) - 6))))fun p30=>xU(am SS.P 5(.pointer(some p30))(.int .u8 n26)g29)g29 fun u31 g32=>xI .u8(aR SS.P 9(aa [48,48,48,49,48,50,48,51,48,52,48,53,48,54,48,55,48,56,48,57,49,48,49,49,49,50,49,51,49,52,49,53,49,54,49,55,49,56,49,57,50,48,50,49,50,50,50,51,50,52,50,53,50,54,50,55,50,56,50,57,51,48,51,49,51,50,51,51,51,52,51,53,51,54,51,55,51,56,51,57,52,48,52,49,52,50,52,51,52,52,52,53,52,54,52,55,52,56,52,57,53,48,53,49,53,50,53,51,53,52,53,53,53,54,53,55,53,56,53,57,54,48,54,49,54,50,54,51,54,52,54,53,54,54,54,55,54,56,54,57,55,48,55,49,55,50,55,51,55,52,55,53,55,54,55,55,55,56,55,57,56,48,56,49,56,50,56,51,56,52,56,53,56,54,56,55,56,56,56,57,57,48,57,49,57,50,57,51,57,52,57,53,57,54,57,55,57,56,57,57])(.int .u32(IntKind.wrap .u32(IntKind.wrap .u32(n7 * 2) + 1))))fun n33=>xI .u8(aR SS.P 9(aa [48,48,48,49,48,50,48,51,48,52,48,53,48,54,48,55,48,56,48,57,49,48,49,49,49,50,49,51,49,52,49,53,49,54,49,55,49,56,49,57,50,48,50,49,50,50,50,51,50,52,50,53,50,54,50,55,50,56,50,57,51,48,51,49,51,50,51,51,51,52,51,53,51,54,51,55,51,56,51,57,52,48,52,49,52,50,52,51,52,52,52,53,52,54,52,55,52,56,52,57,53,48,53,49,53,50,53,51,53,52,53,53,53,54,53,55,53,56,53,57,54,48,54,49,54,50,54,51,54,52,54,53,54,54,54,55,54,56,54,57,55,48,55,49,55,50,55,51,55,52,55,53,55,54,55,55,55,56,55,57,56,48,56,49,56,50,56,51,56,52,56,53,56,54,56,55,56,56,56,57,57,48,57,49,57,50,57,51,57,52,57,53,57,54,57,55,57,56,57,57])(.int .u32(IntKind.wrap .u32(n7 * 2))))fun n34=>xP(ag SS.P 157(.slice a n c)(.int .i64(IntKind.wrap .i64((i:Int) - 7))))fun p35=>xU(am SS.P 5(.pointer(some p35))(.int .u8 n33)(room g32 15))(room g32 15)fun u36 g37=>xP(ag SS.P 157(.slice a n c)(.int .i64(IntKind.wrap .i64((i:Int) - 8))))fun p38=>xU(am SS.P 5(.pointer(some p38))(.int .u8 n34)g37)g37 fun u39 g40=>al(lw a n c u Inv)mz [(.slice a n c),(.int .u64 n2),(.int .i64(IntKind.wrap .i64((i:Int) - 8)))] g40)(ax(decide(((i:Int):Int)>=4))(xI .u32(an SS.P .rem 101(.int .u32(IntKind.wrap .u32 v))(.int .u32 10000))fun n41=>xI .u32(an SS.P .quo 101(.int .u32(IntKind.wrap .u32 v))(.int .u32 10000))fun n42=>xI .u32(an SS.P .quo 101(.int .u32 n41)(.int .u32 100))fun n43=>xI .u32(an SS.P .rem 101(.int .u32 n41)(.int .u32 100))fun n44=>xI .u8(aR SS.P 9(aa [48,48,48,49,48,50,48,51,48,52,48,53,48,54,48,55,48,56,48,57,49,48,49,49,49,50,49,51,49,52,49,53,49,54,49,55,49,56,49,57,50,48,50,49,50,50,50,51,50,52,50,53,50,54,50,55,50,56,50,57,51,48,51,49,51,50,51,51,51,52,51,53,51,54,51,55,51,56,51,57,52,48,52,49,52,50,52,51,52,52,52,53,52,54,52,55,52,56,52,57,53,48,53,49,53,50,53,51,53,52,53,53,53,54,53,55,53,56,53,57,54,48,54,49,54,50,54,51,54,52,54,53,54,54,54,55,54,56,54,57,55,48,55,49,55,50,55,51,55,52,55,53,55,54,55,55,55,56,55,57,56,48,56,49,56,50,56,51,56,52,56,53,56,54,56,55,56,56,56,57,57,48,57,49,57,50,57,51,57,52,57,53,57,54,57,55,57,56,57,57])(.int .u32(IntKind.wrap .u32(IntKind.wrap .u32(n44 * 2) + 1))))fun n45=>xI .u8(aR SS.P 9(aa [48,48,48,49,48,50,48,51,48,52,48,53,48,54,48,55,48,56,48,57,49,48,49,49,49,50,49,51,49,52,49,53,49,54,49,55,49,56,49,57,50,48,50,49,50,50,50,51,50,52,50,53,50,54,50,55,50,56,50,57,51,48,51,49,51,50,51,51,51,52,51,53,51,54,51,55,51,56,51,57,52,48,52,49,52,50,52,51,52,52,52,53,52,54,52,55,52,56,52,57,53,48,53,49,53,50,53,51,53,52,53,53,53,54,53,55,53,56,53,57,54,48,54,49,54,50,54,51,54,52,54,53,54,54,54,55,54,56,54,57,55,48,55,49,55,50,55,51,55,52,55,53,55,54,55,55,55,56,55,57,56,48,56,49,56,50,56,51,56,52,56,53,56,54,56,55,56,56,56,57,57,48,57,49,57,50,57,51,57,52,57,53,57,54,57,55,57,56,57,57])(.int .u32(IntKind.wrap .u32(n44 * 2))))fun n46=>xP(ag SS.P 157(.slice a n c)(.int .i64(IntKind.wrap .i64((i:Int) - 1))))fun p47=>xU(am SS.P 5(.pointer(some p47))(.int .u8 n45)(room h 15))(room h 15)fun u48 g49=>xP(ag SS.P 157(.slice a n c)(.int .i64(IntKind.wrap .i64((i:Int) - 2))))fun p50=>xU(am SS.P 5(.pointer(some p50))(.int .u8 n46)g49)g49 fun u51 g52=>xI .u8(aR SS.P 9(aa [48,48,48,49,48,50,48,51,48,52,48,53,48,54,48,55,48,56,48,57,49,48,49,49,49,50,49,51,49,52,49,53,49,54,49,55,49,56,49,57,50,48,50,49,50,50,50,51,50,52,50,53,50,54,50,55,50,56,50,57,51,48,51,49,51,50,51,51,51,52,51,53,51,54,51,55,51,56,51,57,52,48,52,49,52,50,52,51,52,52,52,53,52,54,52,55,52,56,52,57,53,48,53,49,53,50,53,51,53,52,53,53,53,54,53,55,53,56,53,57,54,48,54,49,54,50,54,51,54,52,54,53,54,54,54,55,54,56,54,57,55,48,55,49,55,50,55,51,55,52,55,53,55,54,55,55,55,56,55,57,56,48,56,49,56,50,56,51,56,52,56,53,56,54,56,55,56,56,56,57,57,48,57,49,57,50,57,51,57,52,57,53,57,54,57,55,57,56,57,57])(.int .u32(IntKind.wrap .u32(IntKind.wrap .u32(n43 * 2) + 1))))fun n53=>xI .u8(aR SS.P 9(aa [48,48,48,49,48,50,48,51,48,52,48,53,48,54,48,55,48,56,48,57,49,48,49,49,49,50,49,51,49,52,49,53,49,54,49,55,49,56,49,57,50,48,50,49,50,50,50,51,50,52,50,53,50,54,50,55,50,56,50,57,51,48,51,49,51,50,51,51,51,52,51,53,51,54,51,55,51,56,51,57,52,48,52,49,52,50,52,51,52,52,52,53,52,54,52,55,52,56,52,57,53,48,53,49,53,50,53,51,53,52,53,53,53,54,53,55,53,56,53,57,54,48,54,49,54,50,54,51,54,52,54,53,54,54,54,55,54,56,54,57,55,48,55,49,55,50,55,51,55,52,55,53,55,54,55,55,55,56,55,57,56,48,56,49,56,50,56,51,56,52,56,53,56,54,56,55,56,56,56,57,57,48,57,49,57,50,57,51,57,52,57,53,57,54,57,55,57,56,57,57])(.int .u32(IntKind.wrap .u32(n43 * 2))))fun n54=>xP(ag SS.P 157(.slice a n c)(.int .i64(IntKind.wrap .i64((i:Int) - 3))))fun p55=>xU(am SS.P 5(.pointer(some p55))(.int .u8 n53)(room g52 15))(room g52 15)fun u56 g57=>xP(ag SS.P 157(.slice a n c)(.int .i64(IntKind.wrap .i64((i:Int) - 4))))fun p58=>xU(am SS.P 5(.pointer(some p58))(.int .u8 n54)g57)g57 fun u59 g60=>ax(decide((IntKind.wrap .i64((i:Int) - 4):Int)>=2))(xI .u32(an SS.P .rem 101(.int .u32 n42)(.int .u32 100))fun n61=>xI .u32(an SS.P .quo 101(.int .u32 n42)(.int .u32 100))fun n62=>xI .u8(aR SS.P 9(aa [48,48,48,49,48,50,48,51,48,52,48,53,48,54,48,55,48,56,48,57,49,48,49,49,49,50,49,51,49,52,49,53,49,54,49,55,49,56,49,57,50,48,50,49,50,50,50,51,50,52,50,53,50,54,50,55,50,56,50,57,51,48,51,49,51,50,51,51,51,52,51,53,51,54,51,55,51,56,51,57,52,48,52,49,52,50,52,51,52,52,52,53,52,54,52,55,52,56,52,57,53,48,53,49,53,50,53,51,53,52,53,53,53,54,53,55,53,56,53,57,54,48,54,49,54,50,54,51,54,52,54,53,54,54,54,55,54,56,54,57,55,48,55,49,55,50,55,51,55,52,55,53,55,54,55,55,55,56,55,57,56,48,56,49,56,50,56,51,56,52,56,53,56,54,56,55,56,56,56,57,57,48,57,49,57,50,57,51,57,52,57,53,57,54,57,55,57,56,57,57])(.int .u32(IntKind.wrap .u32(IntKind.wrap .u32(n61 * 2) + 1))))fun n63=>xI .u8(aR SS.P 9(aa [48,48,48,49,48,50,48,51,48,52,48,53,48,54,48,55,48,56,48,57,49,48,49,49,49,50,49,51,49,52,49,53,49,54,49,55,49,56,49,57,50,48,50,49,50,50,50,51,50,52,50,53,50,54,50,55,50,56,50,57,51,48,51,49,51,50,51,51,51,52,51,53,51,54,51,55,51,56,51,57,52,48,52,49,52,50,52,51,52,52,52,53,52,54,52,55,52,56,52,57,53,48,53,49,53,50,53,51,53,52,53,53,53,54,53,55,53,56,53,57,54,48,54,49,54,50,54,51,54,52,54,53,54,54,54,55,54,56,54,57,55,48,55,49,55,50,55,51,55,52,55,53,55,54,55,55,55,56,55,57,56,48,56,49,56,50,56,51,56,52,56,53,56,54,56,55,56,56,56,57,57,48,57,49,57,50,57,51,57,52,57,53,57,54,57,55,57,56,57,57])(.int .u32(IntKind.wrap .u32(n61 * 2))))fun n64=>xP(ag SS.P 157(.slice a n c)(.int .i64(IntKind.wrap .i64(IntKind.wrap .i64((i:Int) - 4) - 1))))fun p65=>xU(am SS.P 5(.pointer(some p65))(.int .u8 n63)(room g60 15))(room g60 15)fun u66 g67=>xP(ag SS.P 157(.slice a n c)(.int .i64(IntKind.wrap .i64(IntKind.wrap .i64((i:Int) - 4) - 2))))fun p68=>xU(am SS.P 5(.pointer(some p68))(.int .u8 n64)g67)g67 fun u69 g70=>ax(decide((IntKind.wrap .i64(IntKind.wrap .i64((i:Int) - 4) - 2):Int) > 0))(xP(ag SS.P 157(.slice a n c)(.int .i64 0))fun p71=>xU(am SS.P 5(.pointer(some p71))(.int .u8(IntKind.wrap .u8(IntKind.wrap .u32(48 + n62))))g70)g70 fun u72 g73=>Q(.tuple⟨[]⟩)g73)(Q(.tuple⟨[]⟩)g70))(ax(decide((IntKind.wrap .i64((i:Int) - 4):Int) > 0))(xP(ag SS.P 157(.slice a n c)(.int .i64 0))fun p74=>xU(am SS.P 5(.pointer(some p74))(.int .u8(IntKind.wrap .u8(IntKind.wrap .u32(48 + n42))))g60)g60 fun u75 g76=>Q(.tuple⟨[]⟩)g76)(Q(.tuple⟨[]⟩)g60)))(ax(decide(((i:Int):Int)>=2))(xI .u32(an SS.P .rem 101(.int .u32(IntKind.wrap .u32 v))(.int .u32 100))fun n77=>xI .u32(an SS.P .quo 101(.int .u32(IntKind.wrap .u32 v))(.int .u32 100))fun n78=>xI .u8(aR SS.P 9(aa [48,48,48,49,48,50,48,51,48,52,48,53,48,54,48,55,48,56,48,57,49,48,49,49,49,50,49,51,49,52,49,53,49,54,49,55,49,56,49,57,50,48,50,49,50,50,50,51,50,52,50,53,50,54,50,55,50,56,50,57,51,48,51,49,51,50,51,51,51,52,51,53,51,54,51,55,51,56,51,57,52,48,52,49,52,50,52,51,52,52,52,53,52,54,52,55,52,56,52,57,53,48,53,49,53,50,53,51,53,52,53,53,53,54,53,55,53,56,53,57,54,48,54,49,54,50,54,51,54,52,54,53,54,54,54,55,54,56,54,57,55,48,55,49,55,50,55,51,55,52,55,53,55,54,55,55,55,56,55,57,56,48,56,49,56,50,56,51,56,52,56,53,56,54,56,55,56,56,56,57,57,48,57,49,57,50,57,51,57,52,57,53,57,54,57,55,57,56,57,57])(.int .u32(IntKind.wrap .u32(IntKind.wrap .u32(n77 * 2) + 1))))fun n79=>xI .u8(aR SS.P 9(aa [48,48,48,49,48,50,48,51,48,52,48,53,48,54,48,55,48,56,48,57,49,48,49,49,49,50,49,51,49,52,49,53,49,54,49,55,49,56,49,57,50,48,50,49,50,50,50,51,50,52,50,53,50,54,50,55,50,56,50,57,51,48,51,49,51,50,51,51,51,52,51,53,51,54,51,55,51,56,51,57,52,48,52,49,52,50,52,51,52,52,52,53,52,54,52,55,52,56,52,57,53,48,53,49,53,50,53,51,53,52,53,53,53,54,53,55,53,56,53,57,54,48,54,49,54,50,54,51,54,52,54,53,54,54,54,55,54,56,54,57,55,48,55,49,55,50,55,51,55,52,55,53,55,54,55,55,55,56,55,57,56,48,56,49,56,50,56,51,56,52,56,53,56,54,56,55,56,56,56,57,57,48,57,49,57,50,57,51,57,52,57,53,57,54,57,55,57,56,57,57])(.int .u32(IntKind.wrap .u32(n77 * 2))))fun n80=>xP(ag SS.P 157(.slice a n c)(.int .i64(IntKind.wrap .i64((i:Int) - 1))))fun p81=>xU(am SS.P 5(.pointer(some p81))(.int .u8 n79)(room h 15))(room h 15)fun u82 g83=>xP(ag SS.P 157(.slice a n c)(.int .i64(IntKind.wrap .i64((i:Int) - 2))))fun p84=>xU(am SS.P 5(.pointer(some p84))(.int .u8 n80)g83)g83 fun u85 g86=>ax(decide((IntKind.wrap .i64((i:Int) - 2):Int) > 0))(xP(ag SS.P 157(.slice a n c)(.int .i64 0))fun p87=>xU(am SS.P 5(.pointer(some p87))(.int .u8(IntKind.wrap .u8(IntKind.wrap .u32(48 + n78))))g86)g86 fun u88 g89=>Q(.tuple⟨[]⟩)g89)(Q(.tuple⟨[]⟩)g86))(ax(decide(((i:Int):Int) > 0))(xP(ag SS.P 157(.slice a n c)(.int .i64 0))fun p90=>xU(am SS.P 5(.pointer(some p90))(.int .u8(IntKind.wrap .u8(IntKind.wrap .u32(48 + IntKind.wrap .u32 v))))h)h fun u91 g92=>Q(.tuple⟨[]⟩)g92)(Q(.tuple⟨[]⟩)h))))
theorem vz {a:OA}{n c:Nat}{u:Int}  {Inv:Nat->Nat->Int->Heap->Prop}{mz:Nat}(mq:Nat){i:Nat}{v:Int}  {h:Heap}(hm:mq < mz)(hi:Inv mq i v h):al(lw a n c u Inv)mz(k6 a n c u i v )h :=⟨mq,hm,i,v,rfl,hi⟩
theorem wn(a:OA)(n c:Nat)(u:Int)  (Inv:Nat->Nat->Int->Heap->Prop)(Q:VH)(step:∀ (mz:Nat)(i:Nat)(v:Int)  (zz:Nat->Value)(h:Heap),Inv mz i v h->Cm a n c u Inv Q mz i v  zz h)(mz:Nat){i:Nat}{v:Int}  {h:Heap}(hi:Inv mz i v h):KB [1,0,0,0] (k6 a n c u i v )h(Kw [1,0,0] [] (KM Q)):=
 aq(A:=(lw a n c u Inv))(show aG Tryz.f192.ntmps(aQ [1,0,0,0] jK)=true by kernel_rfl)(fun mz w zz h⟨i,v,hw,hi⟩=> by subst hw; exact aj(step mz i v  zz h hi)(by kernel_rfl))mz _ h⟨i,v,rfl,hi⟩(fun zz=>by kernel_rfl)(by kernel_rfl)
noncomputable def qF:Code:=(Tryz.f180.body).getD .skip
def JP:List Nat:=[]
abbrev IR(u:Int)(h:Heap)(Q:VH):Prop:=ax(((10:Int) == 10))(ax(decide((u:Int) < 100))(FW SS 190 [(.int .i64(IntKind.wrap .i64 u))] h fun v1 h2=>yS v1 fun l3=>Q(aa l3)h2)(xN(bj SS.P 177)h fun B4 g5=>FW SS 191 [(.int .u64 u)] g5 fun v6 h7=>yI .i64 v6 fun n8=>xL(aM SS.P 177(pA(h.next))none(some(.int .i64 n8))none h7)fun a9 n10 c11=>FW SS 192 [(.slice a9 n10 c11),(.int .u64 u)] h7 fun v12 h13=>v12=(.tuple⟨[]⟩)/\xL(aM SS.P 177(pA(h.next))none(some(.int .i64 n8))none h13)fun a14 n15 c16=>xS(xw SS.P 157 9(.slice a14 n15 c16)h13)fun l17=>Q(aa l17)h13))(FW SS 193 [nA,(.int .u64 u),(.int .i64 10),(.bool false),(.bool false)] h fun v18 h19=>∃ (a20:OA)(n21 c22:Nat),∃ l23:LB,v18=(.tuple⟨[(.slice a20 n21 c22),(aa l23)]⟩)/\Q(aa l23)h19)
theorem GT(u:Int)(h:Heap)(Q:VH)(hx:IR u h Q):FW SS 180 [(.int .u64 u),(.int .i64 10)] h Q:=ay(M:=JP)(c:=qF)Tryz.func180(show Tryz.f180.body=some qF by kernel_rfl)(by kernel_rfl)(aj hx(by kernel_rfl))
noncomputable def tV:Code:=(Tryz.f170.body).getD .skip
def M3:List Nat:=[]
abbrev Nn(u:Int)(h:Heap)(Q:VH):Prop:=FW SS 180 [(.int .u64 u),(.int .i64 10)] h fun v1 h2=>yS v1 fun l3=>Q(aa l3)h2
theorem Kb(u:Int)(h:Heap)(Q:VH)(hx:Nn u h Q):FW SS 170 [(.int .u64 u),(.int .i64 10)] h Q:=ay(M:=M3)(c:=tV)Tryz.func170(show Tryz.f170.body=some tV by kernel_rfl)(by kernel_rfl)(aj hx(by kernel_rfl))
end Go.Proofs.YtoabjjimjldcfaaGreatDoor
end
section
set_option linter.unusedVariables false
namespace Go.Num
def wid:Nat->Nat->List UInt8
 | 0,_=>[]
 | n + 1,u=>wid n(u / 10) ++ [dig(u % 10)]
theorem wid_len:∀ n u,(wid n u).length=n
 | 0,_=>rfl
 | n + 1,u=>by rw [wid,List.length_append,wid_len n]; rfl
theorem wid_cons:∀ (n u:Nat),wid(n + 1)u=dig(u / 10 ^ n % 10) :: wid n u
 | 0,u=>by simp [wid]
 | n + 1,u=>by
  rw [wid,wid_cons n(u / 10),wid,List.cons_append,Nat.div_div_eq_div_mul,Nat.pow_succ,Nat.mul_comm 10]
theorem wid_dec {n u:Nat}(h1:u < 10 ^ (n + 1))(h2:n=0\/10 ^ n<=u):wid(n + 1)u=toDec u:=by
 induction n generalizing u with
 | zero =>
  rw [toDec_lt(by simpa using h1)]
  simp af [wid,List.nil_append]
  rw [Nat.mod_eq_of_lt(by simpa using h1)]
 | succ n ih =>
  have h3:10 ^ (n + 1)<=u:=by rcases h2 with h | h; omega; exact h
  have h4:10<=u:=by
   have:10 ^ 1<=10 ^ (n + 1):=Nat.pow_le_pow_right(by omega)(by omega)
   omega
  rw [toDec_ge h4,wid,ih]
  · rw [Nat.div_lt_iff_lt_mul(by omega),<- Nat.pow_succ]; exact h1
  · right
   rw [Nat.le_div_iff_mul_le(by omega),<- Nat.pow_succ]; exact h3
theorem K5 {u:Nat} : ∀ {n:Nat},u < 10 ^ n->0 < n->wid n u=List.replicate(n - (toDec u).length)48 ++ toDec u
 | 0,_,h=>absurd h(by omega)
 | n + 1,h,_=>by
  by_cases hn:n=0\/10 ^ n<=u
  · have h1:=wid_dec h hn
   have h2:=congrArg List.length h1
   rw [wid_len] at h2
   rw [h1,<- h2]; simp
  · have hn1:n≠0:=fun h=>hn(.inl h)
   have hn2:u < 10 ^ n:=Nat.lt_of_not_le fun h=>hn(.inr h)
   have hl:=(toDec_len_le(n:=u)(k:=n)(by omega)).2 hn2
   rw [wid_cons,K5 hn2(by omega),Nat.div_eq_of_lt hn2,show n + 1 - (toDec u).length=(n - (toDec u).length) + 1 by omega,List.replicate_succ]; rfl
end Go.Num
end
section
set_option linter.unusedVariables false
set_option maxRecDepth 100000
namespace Go.Proofs.YtoabjjimjldcfaaGreatDoor
open Go Go.Ab
theorem JE {P:Program}{t:TypeId}{a:Int}(h:0<=a){s:Nat}(hs:s<=64):an P .shr t(.int .u64 a)(.int .u64(s:Int))=some(.int .u64(a / 2 ^ s)):=by
 show(if 0<=(s:Int) then some(Value.int .u64(a.fdiv(2 ^ (min(s:Int).toNat 64)))) else none)=_
 rw [if_pos(by omega),Int.toNat_natCast,Nat.min_eq_left hs,Int.fdiv_eq_ediv_of_nonneg _(Int.le_of_lt(Int.pow_pos(by decide)))]
theorem Tw {P:Program}{t:TypeId}{a:Int}(h:0<=a){s:Nat}(hs:s<=64):an P .shr t(.int .i64 a)(.int .u64(s:Int))=some(.int .i64(a / 2 ^ s)):=by
 show(if 0<=(s:Int) then some(Value.int .i64(a.fdiv(2 ^ (min(s:Int).toNat 64)))) else none)=_
 rw [if_pos(by omega),Int.toNat_natCast,Nat.min_eq_left hs,Int.fdiv_eq_ediv_of_nonneg _(Int.le_of_lt(Int.pow_pos(by decide)))]
def LT8:List UInt8:=[0,1,2,2,3,3,3,3,4,4,4,4,4,4,4,4,5,5,5,5,5,5,5,5,5,5,5,5,5,5,5,5,6,6,6,6,6,6,6,6,6,6,6,6,6,6,6,6,6,6,6,6,6,6,6,6,6,6,6,6,6,6,6,6,7,7,7,7,7,7,7,7,7,7,7,7,7,7,7,7,7,7,7,7,7,7,7,7,7,7,7,7,7,7,7,7,7,7,7,7,7,7,7,7,7,7,7,7,7,7,7,7,7,7,7,7,7,7,7,7,7,7,7,7,7,7,7,7,8,8,8,8,8,8,8,8,8,8,8,8,8,8,8,8,8,8,8,8,8,8,8,8,8,8,8,8,8,8,8,8,8,8,8,8,8,8,8,8,8,8,8,8,8,8,8,8,8,8,8,8,8,8,8,8,8,8,8,8,8,8,8,8,8,8,8,8,8,8,8,8,8,8,8,8,8,8,8,8,8,8,8,8,8,8,8,8,8,8,8,8,8,8,8,8,8,8,8,8,8,8,8,8,8,8,8,8,8,8,8,8,8,8,8,8,8,8,8,8,8,8,8,8,8,8,8,8]
def SM:List UInt8:=[48,48,48,49,48,50,48,51,48,52,48,53,48,54,48,55,48,56,48,57,49,48,49,49,49,50,49,51,49,52,49,53,49,54,49,55,49,56,49,57,50,48,50,49,50,50,50,51,50,52,50,53,50,54,50,55,50,56,50,57,51,48,51,49,51,50,51,51,51,52,51,53,51,54,51,55,51,56,51,57,52,48,52,49,52,50,52,51,52,52,52,53,52,54,52,55,52,56,52,57,53,48,53,49,53,50,53,51,53,52,53,53,53,54,53,55,53,56,53,57,54,48,54,49,54,50,54,51,54,52,54,53,54,54,54,55,54,56,54,57,55,48,55,49,55,50,55,51,55,52,55,53,55,54,55,55,55,56,55,57,56,48,56,49,56,50,56,51,56,52,56,53,56,54,56,55,56,56,56,57,57,48,57,49,57,50,57,51,57,52,57,53,57,54,57,55,57,56,57,57]
theorem SW:((List.range 256).all fun x=>(x == 0 && (LT8.getD x 0).toNat == 0) || (Nat.ble 1(LT8.getD x 0).toNat && Nat.ble(LT8.getD x 0).toNat 8 && Nat.ble(2 ^ ((LT8.getD x 0).toNat - 1))x && Nat.blt x(2 ^ (LT8.getD x 0).toNat)))=true:=by kernel_rfl
theorem XD {x:Nat}(h:x < 256)(h0:0 < x):∃ t,(LT8.getD x 0).toNat=t + 1/\t < 8/\2 ^ t<=x/\x < 2 ^ (t + 1):=by
 have h1:=List.all_eq_true.1 SW x(List.mem_range.2 h)
 have h2:(x == 0)=false:=by simp; omega
 rw [h2] at h1
 simp af [Bool.false_and,Bool.false_or,Bool.and_eq_true,Nat.ble_eq,Nat.blt_eq] at h1
 obtain⟨⟨⟨a,b⟩,c⟩,d⟩:=h1
 refine⟨(LT8.getD x 0).toNat - 1,by omega,by omega,c,?_⟩
 rwa [Nat.sub_add_cancel a]
theorem yz {x:Int}(h0:0<=x)(h1:x < 256):aR SS.P 9(aa LT8)(.int .u8(IntKind.wrap .u8 x))=some(.int .u8((LT8.getD x.toNat 0).toNat:Nat)):=by
 rw [nq h0 h1]
 exact i4(by kernel_rfl)LT8 .u8 h0(by show x < ((256:Nat):Int); omega)
theorem Uj:((List.range 100).all fun x=>Nat.beq(SM.getD(2 * x)0).toNat(48 + x / 10) && Nat.beq(SM.getD(2 * x + 1)0).toNat(48 + x % 10))=true:=by kernel_rfl
theorem Q9 {x:Nat}(h:x < 100):(SM.getD(2 * x)0).toNat=48 + x / 10/\(SM.getD(2 * x + 1)0).toNat=48 + x % 10:=by
 have h1:=List.all_eq_true.1 Uj x(List.mem_range.2 h)
 simp af [Bool.and_eq_true,Nat.beq_eq] at h1
 exact h1
theorem OJ {u:Nat}(h0:0 < u)(h1:u < 4294967296)(h:Heap):FW SS 93 [.int .u64(u:Int)] h(fun v h'=>h' = h/\∃ n:Nat,v = .int .i64(n + 1:Nat)/\n < 32/\2 ^ n<=u/\u < 2 ^ (n + 1)):=by
 refine Qi _ h _(ae(fun g=>absurd(of_decide_eq_true g)(by omega))fun _=>ae(fun g=>?_)(fun g=>?_))
 · have g:=of_decide_eq_true g
  refine⟨_,JE(s:=16)(by omega)(by omega),ae(fun g1=>?_)(fun g1=>?_)⟩
  · have g1:=of_decide_eq_true g1
   refine⟨_,JE(s:=8)(by omega)(by omega),_,yz(by omega)(by omega),rfl,?_⟩
   obtain⟨t,e,h2,h3,h4⟩:=XD(x:=((u:Int) / 2 ^ 16 / 2 ^ 8).toNat)(by omega)(by omega)
   rw [e]
   refine⟨t + 24,?_,by omega,?_,?_⟩
   · refine congrArg(Value.int .i64) ?_
    simp af [IntKind.wrap_i64]; omega
   · rw [Nat.pow_add]; omega
   · rw [show t + 24 + 1=(t + 1) + 24 by omega,Nat.pow_add]; omega
  · have g1:=of_decide_eq_false g1
   refine⟨_,yz(by omega)(by omega),rfl,?_⟩
   obtain⟨t,e,h2,h3,h4⟩:=XD(x:=((u:Int) / 2 ^ 16).toNat)(by omega)(by omega)
   rw [e]
   refine⟨t + 16,?_,by omega,?_,?_⟩
   · refine congrArg(Value.int .i64) ?_
    simp af [IntKind.wrap_i64]; omega
   · rw [Nat.pow_add]; omega
   · rw [show t + 16 + 1=(t + 1) + 16 by omega,Nat.pow_add]; omega
 · have g:=of_decide_eq_false g
  refine ae(fun g1=>?_)(fun g1=>?_)
  · have g1:=of_decide_eq_true g1
   refine⟨_,JE(s:=8)(by omega)(by omega),_,yz(by omega)(by omega),rfl,?_⟩
   obtain⟨t,e,h2,h3,h4⟩:=XD(x:=((u:Int) / 2 ^ 8).toNat)(by omega)(by omega)
   rw [e]
   refine⟨t + 8,?_,by omega,?_,?_⟩
   · refine congrArg(Value.int .i64) ?_
    simp af [IntKind.wrap_i64]; omega
   · rw [Nat.pow_add]; omega
   · rw [show t + 8 + 1=(t + 1) + 8 by omega,Nat.pow_add]; omega
  · have g1:=of_decide_eq_false g1
   refine⟨_,yz(by omega)(by omega),rfl,?_⟩
   obtain⟨t,e,h2,h3,h4⟩:=XD(x:=((u:Int)).toNat)(by omega)(by omega)
   rw [e]
   refine⟨t,?_,by omega,by omega,by omega⟩
   refine congrArg(Value.int .i64) ?_
   simp af [IntKind.wrap_i64]; omega
def Ig:List Value:=(List.range 20).map fun i=>uv(10 ^ i)
def Tab(h:Heap):Prop:= ∃ t wr,h.get 1=some(.cells Ig t 0 wr)
theorem Tab.ok {h h' : Heap}(t:Tab h)(o:Ok h h'):Tab h':=let⟨k,wr,e⟩:=t;⟨k,wr,o.ext _ _ e⟩
theorem Xk:SS.P.underlying 185=some(.array 20 103):=by kernel_rfl
theorem Uo {h:Heap}(t:Tab h){i:Int}(h0:0<=i)(h1:i < 20):ag SS.P 185(.pointer(some⟨1,0,none⟩))(.int .i64 i)=some(.pointer(some⟨1,0 + i.toNat * 1,none⟩))/\ai SS.P 103 h(.pointer(some⟨1,0 + i.toNat * 1,none⟩))=some(.int .u64((10 ^ i.toNat:Nat):Int)):=by
 obtain⟨_,wr,e⟩:=t
 constructor
 · unfold ag
  rw [Xk]; dsimp af
  rw [AS]; dsimp af
  rw [if_pos⟨h0,h1⟩,bp,Nat.zero_add]
 · unfold ai
  rw [K7]; dsimp af
  rw [e]; dsimp af
  rw [Lc]
  simp af [Bool.false_eq_true,if_false]
  unfold Ig
  rw [Nat.zero_add,Nat.mul_one,List.getElem?_map,List.getElem?_range(by omega)]; rfl
theorem E6 {u:Nat}(h0:100<=u)(h1:u < 1000000000){h:Heap}(t:Tab h):FW SS 191 [.int .u64(u:Int)] h(fun v h'=>h' = h/\∃ n:Nat,v = .int .i64(n + 1:Nat)/\n < 9/\10 ^ n<=u/\u < 10 ^ (n + 1)):=by
 refine Ep _ h _((OJ(by omega)(by omega)h).mono ?_)
 rintro _ g⟨e0,n,rfl,h2,h3,h4⟩
 have t:=e0▸t
 refine⟨_,rfl,FM _ _ _⟨_,Tw(s:=18) ?_(by omega),_,rfl,?_⟩⟩
 · rw [ap(by omega)(by omega)]; omega
 rw [ap(by omega)(by omega)]
 have h5:n < 30:=by
  rcases Nat.lt_or_ge n 30 with h | h
  · exact h
  · have:2 ^ 30<=2 ^ n:=Nat.pow_le_pow_right(by omega)h
   omega
 have h6:6<=n:=by
  rcases Nat.lt_or_ge n 6 with h | h
  · have:2 ^ (n + 1)<=2 ^ 6:=Nat.pow_le_pow_right(by omega)h
   omega
  · exact h
 obtain⟨g1,g2⟩:=Uo t(i:=((n + 1:Nat):Int) * 78913 / 2 ^ 18)(by omega)(by omega)
 refine⟨_,g1,_,g2,QQ _ _ _ ?_⟩
 have key:∀ q:Nat,2<=q->q<=9->10 ^ (q - 1)<=u->u < 10 ^ (q + 1)->((n + 1:Nat):Int) * 78913 / 2 ^ 18=(q:Int)->ax(decide(((u:Nat):Int)>=((10 ^ (((n + 1:Nat):Int) * 78913 / 2 ^ 18).toNat:Nat):Int)))(∃ n11:Int,Value.int .i64 1 = .int .i64 n11/\(g=h/\∃ m:Nat,Value.int .i64(IntKind.wrap .i64(((n + 1:Nat):Int) * 78913 / 2 ^ 18 + n11)) = .int .i64(m + 1:Nat)/\m < 9/\10 ^ m<=u/\u < 10 ^ (m + 1)))(∃ n11:Int,Value.int .i64 0 = .int .i64 n11/\(g=h/\∃ m:Nat,Value.int .i64(IntKind.wrap .i64(((n + 1:Nat):Int) * 78913 / 2 ^ 18 + n11)) = .int .i64(m + 1:Nat)/\m < 9/\10 ^ m<=u/\u < 10 ^ (m + 1))):=by
  intro q q1 q2 q3 q4 q5
  rw [q5,Int.toNat_natCast]
  refine ae(fun g5=>?_)(fun g5=>?_)
  · have g5:=of_decide_eq_true g5
   refine⟨1,rfl,e0,q,?_,?_,by omega,q4⟩
   · rw [ap(by omega)(by omega)]; rfl
   · rcases Nat.lt_or_ge q 9 with h | h
    · exact h
    · have:q=9:=by omega
     subst this
     omega
  · have g5:=of_decide_eq_false g5
   refine⟨0,rfl,e0,q - 1,?_,by omega,q3,by rw [Nat.sub_add_cancel(by omega)]; omega⟩
   rw [ap(by omega)(by omega),Nat.sub_add_cancel(by omega),Int.add_zero]
 have hn:n=6\/n=7\/n=8\/n=9\/n=10\/n=11\/n=12\/n=13\/n=14\/n=15\/n=16\/n=17\/n=18\/n=19\/n=20\/n=21\/n=22\/n=23\/n=24\/n=25\/n=26\/n=27\/n=28\/n=29:=by omega
 rcases hn with rfl | rfl | rfl | rfl | rfl | rfl | rfl | rfl | rfl | rfl | rfl | rfl | rfl | rfl | rfl | rfl | rfl | rfl | rfl | rfl | rfl | rfl | rfl | rfl
 all_goals first
  | exact key 2(by omega)(by omega)(by omega)(by omega)(by omega)
  | exact key 3(by omega)(by omega)(by omega)(by omega)(by omega)
  | exact key 4(by omega)(by omega)(by omega)(by omega)(by omega)
  | exact key 5(by omega)(by omega)(by omega)(by omega)(by omega)
  | exact key 6(by omega)(by omega)(by omega)(by omega)(by omega)
  | exact key 7(by omega)(by omega)(by omega)(by omega)(by omega)
  | exact key 8(by omega)(by omega)(by omega)(by omega)(by omega)
  | exact key 9(by omega)(by omega)(by omega)(by omega)(by omega)
theorem NY {u:Nat}(h1:u < 100)(h:Heap):FW SS 190 [.int .i64(u:Int)] h(fun v h'=>h' = h/\v=aa(Num.toDec u)):=by
 refine Pi _ h _(ae(fun g=>?_)(fun g=>?_))
 · have g:=of_decide_eq_true g
  rw [ap(by omega)(by omega)]
  refine⟨_,iV(by kernel_rfl)_(a:=u)(b:=u + 1)rfl rfl(by omega)(by simp; omega),rfl,?_⟩
  rw [Num.toDec_lt(by omega)]
  have:u=0\/u=1\/u=2\/u=3\/u=4\/u=5\/u=6\/u=7\/u=8\/u=9:=by omega
  rcases this with rfl | rfl | rfl | rfl | rfl | rfl | rfl | rfl | rfl | rfl <;> rfl
 · have g:=of_decide_eq_false g
  rw [ap(n:=(u:Int) * 2)(by omega)(by omega),ap(by omega)(by omega)]
  refine⟨_,iV(l:=SM)(by kernel_rfl)(a:=2 * u)(b:=2 * u + 2)(by show some _=some _; congr 1; omega)(by show some _=some _; congr 1; omega)(by omega)(by show _<=200; omega),rfl,?_⟩
  have hb:=Q9 h1
  rw [Num.toDec_ge(by omega),Num.toDec_lt(by omega),show 2 * u + 2 - 2 * u=2 by omega]
  have hl:SM.length=200:=rfl
  rw [List.drop_eq_getElem_cons(by omega),List.drop_eq_getElem_cons(by omega)]
  have e1:SM[2 * u]'(by omega)=Num.dig(u / 10):=by
   apply UInt8.toNat_inj.1
   have:=hb.1
   rw [List.getD_eq_getElem?_getD,List.getElem?_eq_getElem(by omega)] at this
   rw [show(SM[2 * u]'(by omega)).toNat=_ from this]
   unfold Num.dig
   rw [UInt8.toNat_ofNat',Nat.mod_eq_of_lt(by omega)]
  have e2:SM[2 * u + 1]'(by omega)=Num.dig(u % 10):=by
   apply UInt8.toNat_inj.1
   have:=hb.2
   rw [List.getD_eq_getElem?_getD,List.getElem?_eq_getElem(by omega)] at this
   rw [show(SM[2 * u + 1]'(by omega)).toNat=_ from this]
   unfold Num.dig
   rw [UInt8.toNat_ofNat',Nat.mod_eq_of_lt(a:=48 + u % 10)(b:=2 ^ 8)(by omega)]
  rw [e1,e2]; rfl
end Go.Proofs.YtoabjjimjldcfaaGreatDoor
end
section
set_option linter.unusedVariables false
set_option maxRecDepth 100000
namespace Go.Proofs.YtoabjjimjldcfaaGreatDoor
open Go Go.Ab
theorem gV {n:Int}(h1:0<=n)(h2:n < 4294967296):IntKind.wrap .u32 n=n:=by
 simp af [IntKind.wrap,IntKind.bits,IntKind.signed,Bool.false_and,Bool.false_eq_true,if_false]; omega
theorem zX {P:Program}{t:TypeId}{a:Int}{b:Nat}(h0:0<=a)(h1:a < 4294967296)(hb:0 < b):an P .quo t(.int .u32 a)(.int .u32(b:Int))=some(.int .u32(a / (b:Int))):=by
 rw [Ez P t .u32 _ _(by omega),Int.tdiv_eq_ediv_of_nonneg h0,gV(Int.ediv_nonneg h0(by omega))(Int.lt_of_le_of_lt(Int.ediv_le_self _ h0)h1)]
theorem RW {d:Nat}(h:d < 10):nT(Num.dig d) = .int .u8(48 + (d:Int)):=by
 unfold nT Num.dig
 rw [UInt8.toNat_ofNat',Nat.mod_eq_of_lt(a:=48 + d)(b:=2 ^ 8)(by omega)]; rfl
structure FB(h0:Heap)(k n u j w:Nat)(h:Heap):Prop where
 blk:∃ cs,h.get k=some(.cells cs 177 0 true)/\cs.length=24/\(cs.drop j).take(n - j)=(Num.wid(n - j)u).map nT
 hw:w=u / 10 ^ (n - j)
 lt:w < 10 ^ j
 jn:j<=n
 n24:n<=9
 ok:OkX h0 k h
section
variable {h0 h:Heap}{k n u j w:Nat}
theorem FB.room(f:FB h0 k n u j w h)(r:Nat):FB h0 k n u j w(room h r) :=⟨f.blk,f.hw,f.lt,f.jn,f.n24,f.ok.room r⟩
theorem FB.step(f:FB h0 k n u(j + 1)w h){c:Nat}{x i:Int}(hx:x=48 + (w:Int) % 10)(hi:i=(j:Int)) :
  ∃ p:Addr,ag SS.P 157(.slice(some⟨k,0,none⟩)n c)(.int .i64 i)=some(.pointer(some p))/\∃ u' : Upd,am SS.P 5(.pointer(some p))(.int .u8 x)h=some(undef,u')/\FB h0 k n u j(w / 10)(u'.app h):=by
 subst hx hi
 obtain⟨cs,h1,h2,h3⟩:=f.blk
 have hjn:=f.jn
 have hn:=f.n24
 refine⟨⟨k,0 + j,none⟩,?_,.set k(.cells(cs.set j(nT(Num.dig(w % 10))))177 0 true),?_,?_⟩
 · unfold ag
  rw [xp]; dsimp af
  rw [VX]; dsimp af
  rw [if_pos⟨by omega,by omega⟩,Nat.mul_one,bp,Int.toNat_natCast]
 · rw [show(48 + ((w:Nat):Int) % 10)=48 + ((w % 10:Nat):Int) by omega,<- RW(Nat.mod_lt _(by omega))]
  show(if au SS.P 5=some 1 then(storeAt h k(0 + j) [nT(Num.dig(w % 10))]).map fun u=>(undef,u) else none)=_
  rw [if_pos VX]
  unfold storeAt
  rw [h1]; dsimp af
  rw [Nat.zero_add,if_pos⟨by simp; omega,rfl⟩]
  have e:cs.take j ++ [nT(Num.dig(w % 10))] ++ cs.drop(j + [nT(Num.dig(w % 10))].length)=cs.set j(nT(Num.dig(w % 10))):=by
   rw [List.set_eq_take_append_cons_drop,if_pos(by omega),List.append_assoc]; rfl
  rw [e]; rfl
 · have hk:=f.ok.wf _ _ h1
  have hnj:n - j=(n - (j + 1)) + 1:=by omega
  refine⟨⟨cs.set j(nT(Num.dig(w % 10))),?_,by rw [List.length_set]; exact h2,?_⟩,?_,?_,by omega,hn,f.ok.set hk _⟩
  · show(h.set k _).get k=_
   rw [Heap.get_set,if_pos rfl]
  · rw [List.drop_eq_getElem_cons(by simp af [List.length_set]; omega),hnj,List.take_succ_cons,List.getElem_set_self,List.drop_set_of_lt(by omega),h3,Num.wid_cons,List.map_cons,<- f.hw]
  · rw [hnj,Nat.pow_succ,<- Nat.div_div_eq_div_mul,<- f.hw]
  · have:=f.lt
   rw [Nat.pow_succ] at this
   omega
theorem WM {y:Int}{x:Nat}(hy:y=(x:Int))(hx:x < 100):aR SS.P 9(aa SM)(.int .u32(IntKind.wrap .u32(IntKind.wrap .u32(y * 2) + 1)))=some(.int .u8(48 + (x:Int) % 10)):=by
 rw [gV(n:=y * 2)(by omega)(by omega),gV(by omega)(by omega),i4(by kernel_rfl)SM .u32(by omega)(by show _ < ((200:Nat):Int); omega),show(y * 2 + 1).toNat=2 * x + 1 by omega,(Q9 hx).2]; rfl
theorem WH {y:Int}{x:Nat}(hy:y=(x:Int))(hx:x < 100):aR SS.P 9(aa SM)(.int .u32(IntKind.wrap .u32(y * 2)))=some(.int .u8(48 + (x:Int) / 10)):=by
 rw [gV(n:=y * 2)(by omega)(by omega),i4(by kernel_rfl)SM .u32(by omega)(by show _ < ((200:Nat):Int); omega),show(y * 2).toNat=2 * x by omega,(Q9 hx).1]; rfl
theorem FB.pair(f:FB h0 k n u(j + 2)w h){c:Nat}{y i1 i2:Int}(hy:y=(w:Int) % 100)(h1:i1=(j:Int) + 1)(h2:i2=(j:Int)) :
  ∃ n9:Int,aR SS.P 9(aa SM)(.int .u32(IntKind.wrap .u32(IntKind.wrap .u32(y * 2) + 1)))=some(.int .u8 n9)/\
  ∃ n10:Int,aR SS.P 9(aa SM)(.int .u32(IntKind.wrap .u32(y * 2)))=some(.int .u8 n10)/\
  ∃ p11:Addr,ag SS.P 157(.slice(some⟨k,0,none⟩)n c)(.int .i64 i1)=some(.pointer(some p11))/\
  ∃ u12:Upd,am SS.P 5(.pointer(some p11))(.int .u8 n9)(Go.Ab.room h 15)=some(undef,u12)/\
  ∃ p13:Addr,ag SS.P 157(.slice(some⟨k,0,none⟩)n c)(.int .i64 i2)=some(.pointer(some p13))/\
  ∃ u14:Upd,am SS.P 5(.pointer(some p13))(.int .u8 n10)(u12.app(Go.Ab.room h 15))=some(undef,u14)/\
  FB h0 k n u j(w / 100)(u14.app(u12.app(Go.Ab.room h 15))):=by
 have e:y=((w % 100:Nat):Int):=by omega
 obtain⟨p,a1,u1,a2,f1⟩:=(f.room 15).step(j:=j + 1)(c:=c)(x:=48 + ((w % 100:Nat):Int) % 10)(i:=i1)(by omega)(by omega)
 obtain⟨q,a3,u2,a4,f2⟩:=f1.step(c:=c)(x:=48 + ((w % 100:Nat):Int) / 10)(i:=i2)(by omega)(by omega)
 refine⟨_,WM e(by omega),_,WH e(by omega),p,a1,u1,a2,q,a3,u2,a4,?_⟩
 rw [Nat.div_div_eq_div_mul] at f2
 exact f2
end
theorem PT {h0 h:Heap}{k n c u:Nat}(f:FB h0 k n u n u h):FW SS 192 [.slice(some⟨k,0,none⟩)n c,.int .u64(u:Int)] h(fun v h'=>v = .tuple⟨[]⟩/\∃ w,FB h0 k n u 0 w h'):=by
 have hn:=f.n24
 have L:=wn(some⟨k,0,none⟩)n c(u:Int)(fun mz i v g=>∃ w:Nat,v=(w:Int)/\mz=i/\FB h0 k n u i w g)(fun v h'=>v = .tuple⟨[]⟩/\∃ w,FB h0 k n u 0 w h')(by
  intro mz i v; intros; rename_i g hi
  obtain⟨w,rfl,rfl,f⟩:=hi
  have hjn:=f.jn
  have hw:w < 1000000000:=Nat.lt_of_lt_of_le f.lt(show 10 ^ mz<=10 ^ 9 from Nat.pow_le_pow_right(by omega)(by omega))
  refine ae(fun g1=>?_)(fun g1=>?_)
  · have g1:=of_decide_eq_true g1
   obtain⟨j,rfl⟩: ∃ j,mz=j + 8 :=⟨mz - 8,by omega⟩
   refine⟨_,cO(b:=100000000)(by omega)(by omega),_,kw(b:=100000000)(by omega)(by omega)(by omega),?_⟩
   rw [gV(n:=((w:Nat):Int) % ((100000000:Nat):Int))(by omega)(by omega)]
   refine⟨_,zX(b:=10000)(by omega)(by omega)(by omega),_,cO(b:=10000)(by omega)(by omega),_,zX(b:=100)(by omega)(by omega)(by omega),_,cO(b:=100)(by omega)(by omega),_,zX(b:=100)(by omega)(by omega)(by omega),_,cO(b:=100)(by omega)(by omega),?_⟩
   obtain⟨a1,b1,a2,b2,a3,b3,a4,b4,a5,b5,a6,b6,f1⟩:=FB.pair(j:=j + 6)(c:=c)(y:=((w:Nat):Int) % ((100000000:Nat):Int) % ((10000:Nat):Int) % ((100:Nat):Int))(i1:=IntKind.wrap .i64(((j + 8:Nat):Int) - 1))(i2:=IntKind.wrap .i64(((j + 8:Nat):Int) - 2))f(by omega)(by rw [ap(by omega)(by omega)]; omega)(by rw [ap(by omega)(by omega)]; omega)
   refine⟨a1,b1,a2,b2,a3,b3,a4,b4,a5,b5,a6,b6,?_⟩
   obtain⟨a1,b1,a2,b2,a3,b3,a4,b4,a5,b5,a6,b6,f2⟩:=FB.pair(j:=j + 4)(c:=c)(y:=((w:Nat):Int) % ((100000000:Nat):Int) % ((10000:Nat):Int) / ((100:Nat):Int))(i1:=IntKind.wrap .i64(((j + 8:Nat):Int) - 3))(i2:=IntKind.wrap .i64(((j + 8:Nat):Int) - 4))f1(by omega)(by rw [ap(by omega)(by omega)]; omega)(by rw [ap(by omega)(by omega)]; omega)
   refine⟨a1,b1,a2,b2,a3,b3,a4,b4,a5,b5,a6,b6,?_⟩
   obtain⟨a1,b1,a2,b2,a3,b3,a4,b4,a5,b5,a6,b6,f3⟩:=FB.pair(j:=j + 2)(c:=c)(y:=((w:Nat):Int) % ((100000000:Nat):Int) / ((10000:Nat):Int) % ((100:Nat):Int))(i1:=IntKind.wrap .i64(((j + 8:Nat):Int) - 5))(i2:=IntKind.wrap .i64(((j + 8:Nat):Int) - 6))f2(by omega)(by rw [ap(by omega)(by omega)]; omega)(by rw [ap(by omega)(by omega)]; omega)
   refine⟨a1,b1,a2,b2,a3,b3,a4,b4,a5,b5,a6,b6,?_⟩
   obtain⟨a1,b1,a2,b2,a3,b3,a4,b4,a5,b5,a6,b6,f4⟩:=FB.pair(j:=j)(c:=c)(y:=((w:Nat):Int) % ((100000000:Nat):Int) / ((10000:Nat):Int) / ((100:Nat):Int))(i1:=IntKind.wrap .i64(((j + 8:Nat):Int) - 7))(i2:=IntKind.wrap .i64(((j + 8:Nat):Int) - 8))f3(by omega)(by rw [ap(by omega)(by omega)]; omega)(by rw [ap(by omega)(by omega)]; omega)
   refine⟨a1,b1,a2,b2,a3,b3,a4,b4,a5,b5,a6,b6,?_⟩
   have e1:IntKind.wrap .i64(((j + 8:Nat):Int) - 8)=(j:Int):=by rw [ap(by omega)(by omega)]; omega
   rw [e1]
   exact vz j(by omega)⟨w / 100000000,by omega,rfl,by
    have:=f4
    simp af [Nat.div_div_eq_div_mul] at this
    exact this⟩
  · have g1:=of_decide_eq_false g1
   have hw8:w < 100000000:=Nat.lt_of_lt_of_le f.lt(show 10 ^ mz<=10 ^ 8 from Nat.pow_le_pow_right(by omega)(by omega))
   rw [gV(n:=((w:Nat):Int))(by omega)(by omega)]
   refine ae(fun g2=>?_)(fun g2=>?_)
   · have g2:=of_decide_eq_true g2
    obtain⟨j,rfl⟩: ∃ j,mz=j + 4 :=⟨mz - 4,by omega⟩
    refine⟨_,cO(b:=10000)(by omega)(by omega),_,zX(b:=10000)(by omega)(by omega)(by omega),_,zX(b:=100)(by omega)(by omega)(by omega),_,cO(b:=100)(by omega)(by omega),?_⟩
    obtain⟨a1,b1,a2,b2,a3,b3,a4,b4,a5,b5,a6,b6,f1⟩:=FB.pair(j:=j + 2)(c:=c)(y:=((w:Nat):Int) % ((10000:Nat):Int) % ((100:Nat):Int))(i1:=IntKind.wrap .i64(((j + 4:Nat):Int) - 1))(i2:=IntKind.wrap .i64(((j + 4:Nat):Int) - 2))f(by omega)(by rw [ap(by omega)(by omega)]; omega)(by rw [ap(by omega)(by omega)]; omega)
    refine⟨a1,b1,a2,b2,a3,b3,a4,b4,a5,b5,a6,b6,?_⟩
    obtain⟨a1,b1,a2,b2,a3,b3,a4,b4,a5,b5,a6,b6,f2⟩:=FB.pair(j:=j)(c:=c)(y:=((w:Nat):Int) % ((10000:Nat):Int) / ((100:Nat):Int))(i1:=IntKind.wrap .i64(((j + 4:Nat):Int) - 3))(i2:=IntKind.wrap .i64(((j + 4:Nat):Int) - 4))f1(by omega)(by rw [ap(by omega)(by omega)]; omega)(by rw [ap(by omega)(by omega)]; omega)
    refine⟨a1,b1,a2,b2,a3,b3,a4,b4,a5,b5,a6,b6,?_⟩
    have e1:IntKind.wrap .i64(((j + 4:Nat):Int) - 4)=(j:Int):=by rw [ap(by omega)(by omega)]; omega
    rw [e1]
    have hwj:=f2.lt
    refine ae(fun g3=>?_)(fun g3=>?_)
    · have g3:=of_decide_eq_true g3
     obtain⟨l,rfl⟩: ∃ l,j=l + 2 :=⟨j - 2,by omega⟩
     refine⟨_,cO(b:=100)(by omega)(by omega),_,zX(b:=100)(by omega)(by omega)(by omega),?_⟩
     obtain⟨a1,b1,a2,b2,a3,b3,a4,b4,a5,b5,a6,b6,f3⟩:=FB.pair(j:=l)(c:=c)(y:=((w:Nat):Int) / ((10000:Nat):Int) % ((100:Nat):Int))(i1:=IntKind.wrap .i64(((l + 2:Nat):Int) - 1))(i2:=IntKind.wrap .i64(((l + 2:Nat):Int) - 2))f2(by omega)(by rw [ap(by omega)(by omega)]; omega)(by rw [ap(by omega)(by omega)]; omega)
     refine⟨a1,b1,a2,b2,a3,b3,a4,b4,a5,b5,a6,b6,?_⟩
     have e2:IntKind.wrap .i64(((l + 2:Nat):Int) - 2)=(l:Int):=by rw [ap(by omega)(by omega)]; omega
     rw [e2]
     refine ae(fun g4=>?_)(fun g4=>?_)
     · have g4:=of_decide_eq_true g4
      obtain rfl:l=1:=by omega
      have hwl:=f3.lt
      rw [gV(n:=48 + _)(by omega)(by omega),nq(n:=48 + _)(by omega)(by omega)]
      obtain⟨p,b1,u1,b2,f4⟩:=f3.step(c:=c)(x:=48 + ((w:Nat):Int) / ((10000:Nat):Int) / ((100:Nat):Int))(i:=0)(by omega)rfl
      exact⟨p,b1,u1,b2,rfl,_,f4⟩
     · have g4:=of_decide_eq_false g4
      obtain rfl:l=0:=by omega
      exact⟨rfl,_,f3⟩
    · have g3:=of_decide_eq_false g3
     refine ae(fun g4=>?_)(fun g4=>?_)
     · have g4:=of_decide_eq_true g4
      obtain rfl:j=1:=by omega
      rw [gV(n:=48 + _)(by omega)(by omega),nq(n:=48 + _)(by omega)(by omega)]
      obtain⟨p,b1,u1,b2,f4⟩:=f2.step(c:=c)(x:=48 + ((w:Nat):Int) / ((10000:Nat):Int))(i:=0)(by omega)rfl
      exact⟨p,b1,u1,b2,rfl,_,f4⟩
     · have g4:=of_decide_eq_false g4
      obtain rfl:j=0:=by omega
      exact⟨rfl,_,f2⟩
   · have g2:=of_decide_eq_false g2
    refine ae(fun g3=>?_)(fun g3=>?_)
    · have g3:=of_decide_eq_true g3
     obtain⟨l,rfl⟩: ∃ l,mz=l + 2 :=⟨mz - 2,by omega⟩
     refine⟨_,cO(b:=100)(by omega)(by omega),_,zX(b:=100)(by omega)(by omega)(by omega),?_⟩
     obtain⟨a1,b1,a2,b2,a3,b3,a4,b4,a5,b5,a6,b6,f3⟩:=FB.pair(j:=l)(c:=c)(y:=((w:Nat):Int) % ((100:Nat):Int))(i1:=IntKind.wrap .i64(((l + 2:Nat):Int) - 1))(i2:=IntKind.wrap .i64(((l + 2:Nat):Int) - 2))f(by omega)(by rw [ap(by omega)(by omega)]; omega)(by rw [ap(by omega)(by omega)]; omega)
     refine⟨a1,b1,a2,b2,a3,b3,a4,b4,a5,b5,a6,b6,?_⟩
     have e2:IntKind.wrap .i64(((l + 2:Nat):Int) - 2)=(l:Int):=by rw [ap(by omega)(by omega)]; omega
     rw [e2]
     have hwl:=f3.lt
     refine ae(fun g4=>?_)(fun g4=>?_)
     · have g4:=of_decide_eq_true g4
      obtain rfl:l=1:=by omega
      rw [gV(n:=48 + _)(by omega)(by omega),nq(n:=48 + _)(by omega)(by omega)]
      obtain⟨p,b1,u1,b2,f4⟩:=f3.step(c:=c)(x:=48 + ((w:Nat):Int) / ((100:Nat):Int))(i:=0)(by omega)rfl
      exact⟨p,b1,u1,b2,rfl,_,f4⟩
     · have g4:=of_decide_eq_false g4
      obtain rfl:l=0:=by omega
      exact⟨rfl,_,f3⟩
    · have g3:=of_decide_eq_false g3
     have hwl:=f.lt
     refine ae(fun g4=>?_)(fun g4=>?_)
     · have g4:=of_decide_eq_true g4
      obtain rfl:mz=1:=by omega
      rw [gV(n:=48 + _)(by omega)(by omega),nq(n:=48 + _)(by omega)(by omega)]
      obtain⟨p,b1,u1,b2,f4⟩:=f.step(c:=c)(x:=48 + ((w:Nat):Int))(i:=0)(by omega)rfl
      exact⟨p,b1,u1,b2,rfl,_,f4⟩
     · have g4:=of_decide_eq_false g4
      obtain rfl:mz=0:=by omega
      exact⟨rfl,_,f⟩)
 exact Rb _ n c _ h _(L n⟨u,rfl,rfl,f⟩)
end Go.Proofs.YtoabjjimjldcfaaGreatDoor
end
section
set_option linter.unusedVariables false
set_option maxRecDepth 100000
namespace Go.Proofs.YtoabjjimjldcfaaGreatDoor
open Go Go.Ab
noncomputable def OB:Blk:= .cells(List.replicate 24(.int .u8 0))177 0 true
theorem Xo:bj SS.P 177=some(OB,ks):=by kernel_rfl
theorem WP:SS.P.underlying 177=some(.array 24 5):=by kernel_rfl
theorem DA {h:Heap}{k:Nat}{cs:List Value}{wr:Bool}(hk:h.get k=some(.cells cs 177 0 wr)){n:Nat}(hn:n<=24):aM SS.P 177(.pointer(some⟨k,0,none⟩))none(some(.int .i64(n:Int)))none h=some(.slice(some⟨k,0,none⟩)n 24):=by
 unfold aM
 dsimp af
 rw [WP]
 dsimp af [bM]
 rw [VX,hk]
 show(if 0<=((0:Nat):Int)/\((0:Nat):Int)<=(n:Int)/\(n:Int)<=((24:Nat):Int)/\24 < bn then some(Value.slice(some⟨k,0 + ((0:Nat):Int).toNat * 1,none⟩)((n:Int) - ((0:Nat):Int)).toNat(24 - ((0:Nat):Int).toNat)) else none)=_
 have hO:24 < bn:=by unfold bn; omega
 rw [if_pos⟨by omega,by omega,by omega,hO⟩]
 have e2:((n:Int) - ((0:Nat):Int)).toNat=n:=by omega
 have e0:((0:Nat):Int).toNat=0:=rfl
 rw [e2,e0]
theorem Ju {h:Heap}{k off n c:Nat}{cs:List Value}{e sz:Nat}{wr:Bool}(hk:h.get k=some(.cells cs e sz wr)){l:List UInt8}(hl:(cs.drop off).take n=l.map nT)(hn:l.length=n):xw SS.P 157 9(.slice(some⟨k,off,none⟩)n c)h=some(aa l):=by
 unfold xw aI
 dsimp af
 rw [xp,show SS.P.underlying 9=some .string by kernel_rfl]
 dsimp af
 rw [show SS.P.underlying 5=some(.int .u8) by kernel_rfl]
 dsimp af
 rw [hk]
 dsimp af
 rw [hl,if_pos(by rw [List.length_map]; exact hn),kM]; rfl
theorem GL {u:Nat}(h1:u < 1000000000){h:Heap}(t:Tab h)(w:Wf h):FW SS 180 [.int .u64(u:Int),.int .i64 10] h(fun v h'=>v=aa(Num.toDec u)/\Ok h h'):=by
 refine GT _ h _(ae(fun _=>?_)(fun g=>by simp at g))
 refine ae(fun g=>?_)(fun g=>?_)
 · have g:=of_decide_eq_true g
  rw [ap(by omega)(by omega)]
  refine(NY(by omega)h).mono ?_
  rintro _ _⟨rfl,rfl⟩
  exact⟨_,rfl,rfl,Ok.refl w⟩
 · have g:=of_decide_eq_false g
  have ok:=(Ok.refl w).push OB
  refine⟨_,Xo,(E6(by omega)h1(t.ok ok)).mono ?_⟩
  rintro _ h6⟨e6,n,rfl,g1,g2,g3⟩
  subst e6
  have hk:(h.push OB).get h.next=some(.cells(List.replicate 24(.int .u8 0))177 0 true):=by rw [Heap.get_push,if_pos rfl]; rfl
  refine⟨_,rfl,_,_,_,DA hk(n:=n + 1)(by omega),?_⟩
  have f:FB(h.push OB)h.next(n + 1)u(n + 1)u(h.push OB) :=⟨⟨_,hk,by simp,by simp [Num.wid]⟩,by simp,g3,Nat.le_refl _,by omega,OkX.refl ok.wf⟩
  refine(PT f).mono ?_
  rintro _ h12⟨rfl,x,f2⟩
  obtain⟨cs,b1,b2,b3⟩:=f2.blk
  rw [List.drop_zero,Nat.sub_zero] at b3
  refine⟨rfl,_,_,_,DA b1(n:=n + 1)(by omega),Num.toDec u,Ju b1 ?_ ?_,rfl,?_⟩
  · rw [List.drop_zero,b3,Num.wid_dec g3(.inr g2)]
  · rw [<- Num.wid_dec g3(.inr g2),Num.wid_len]
  · refine⟨f2.ok.wf,fun j B hj=>f2.ok.keep j B(fun e=>by have:=w _ _ hj; omega)(ok.ext _ _ hj),Nat.le_trans ok.nx f2.ok.nx⟩
theorem ID {u:Nat}(h1:u < 1000000000){h:Heap}(t:Tab h)(w:Wf h):FW SS 170 [.int .u64(u:Int),.int .i64 10] h(fun v h'=>v=aa(Num.toDec u)/\Ok h h'):=by
 refine Kb _ h _((GL h1 t w).mono ?_)
 rintro _ h2⟨rfl,o⟩
 exact⟨_,rfl,rfl,o⟩
end Go.Proofs.YtoabjjimjldcfaaGreatDoor
end
section
set_option linter.unusedVariables false
set_option maxRecDepth 100000
namespace Go.Proofs.YtoabjjimjldcfaaGreatDoor
open Go Go.Ab
noncomputable def eN:Code:=(Tryz.f181.body).getD .skip
def FJ:List Nat:=[]
abbrev Fu(p:Addr)(h:Heap)(Q:VH):Prop:=xP(ah SS.P 163(.pointer(some p))0)fun p1=>xO(ai SS.P 161 h(.pointer(some p1)))fun a2=>xB(an SS.P .eql 161(.pointer a2)(.pointer none))fun b3=>ax b3(xG(aL SS.P dh(ev SS.gl [(.pointer(some p)),undef,(.pointer(some p)),(.pointer(some p)),(.pointer(some p1)),(.pointer a2),(.bool b3),(.pointer(some p)),(.pointer(some p)),undef,undef,undef,undef,undef,undef,undef,undef,undef,undef,undef])(HL(aQ [1,0] eN)2)h)h fun v4 u5 g6=>FW SS 194 [v4] g6 fun v7 h8=>yV v7 fun v9=>xG(aL SS.P dh(ev SS.gl [(.pointer(some p)),undef,(.pointer(some p)),(.pointer(some p)),(.pointer(some p1)),(.pointer a2),(.bool b3),(.pointer(some p)),(.pointer(some p)),v4,v9,undef,undef,undef,undef,undef,undef,undef,undef,undef])(HL(aQ [1,0] eN)4)h8)h8 fun v10 u11 g12=>xP(ah SS.P 163(.pointer(some p))0)fun p13=>xU(am SS.P 161(.pointer(some p13))v10 g12)g12 fun u14 g15=>Q(.tuple⟨[]⟩)g15)(xP(ah SS.P 163(.pointer(some p))0)fun p16=>xO(ai SS.P 161 h(.pointer(some p16)))fun a17=>xB(an SS.P .neq 161(.pointer a17)(.pointer(some p)))fun b18=>ax b18(False)(Q(.tuple⟨[]⟩)h))
theorem BQ(p:Addr)(h:Heap)(Q:VH)(hx:Fu p h Q):FW SS 181 [(.pointer(some p))] h Q:=ay(M:=FJ)(c:=eN)Tryz.func181(show Tryz.f181.body=some eN by kernel_rfl)(by kernel_rfl)(aj hx(by kernel_rfl))
noncomputable def wy:Code:=(Tryz.f171.body).getD .skip
def NZ:List Nat:=[]
abbrev PS(p:Addr)(l:LB)(h:Heap)(Q:VH):Prop:=FW SS 181 [(.pointer(some p))] h fun v1 h2=>v1=(.tuple⟨[]⟩)/\xP(ah SS.P 163(.pointer(some p))1)fun p3=>xL(ai SS.P 157 h2(.pointer(some p3)))fun a4 n5 c6=>xE(aC SS.P 157 9(.slice a4 n5 c6)(aa l)h2)h2 fun a7 n8 c9 u10 g11=>xP(ah SS.P 163(.pointer(some p))1)fun p12=>xU(am SS.P 157(.pointer(some p12))(.slice a7 n8 c9)g11)g11 fun u13 g14=>Q(.tuple⟨[(.int .i64((l:LB).length:Int)),.nilIface]⟩)g14
theorem NJ(p:Addr)(l:LB)(h:Heap)(Q:VH)(hx:PS p l h Q):FW SS 171 [(.pointer(some p)),(aa l)] h Q:=ay(M:=NZ)(c:=wy)Tryz.func171(show Tryz.f171.body=some wy by kernel_rfl)(by kernel_rfl)(aj hx(by kernel_rfl))
noncomputable def iP:Code:=(Tryz.f173.body).getD .skip
def MY:List Nat:=[]
abbrev L6(p:Addr)(h:Heap)(Q:VH):Prop:=xP(ah SS.P 163(.pointer(some p))1)fun p1=>xL(ai SS.P 157(room h 12)(.pointer(some p1)))fun a2 n3 c4=>xG(aL SS.P dh(ev SS.gl [(.pointer(some p)),undef,(aa []),(.pointer(some p)),(.pointer(some p)),(.pointer(some p1)),(.slice a2 n3 c4),undef,undef,undef,undef,undef,undef,undef])(HL(aQ [1,0] iP)4)(room h 12))(room h 12)fun v5 u6 g7=>xP(ah SS.P 163(.pointer(some p))1)fun p8=>xL(ai SS.P 157 g7(.pointer(some p8)))fun a9 n10 c11=>xG(aL SS.P dh(ev SS.gl [(.pointer(some p)),undef,(aa []),(.pointer(some p)),(.pointer(some p)),(.pointer(some p1)),(.slice a2 n3 c4),v5,(.pointer(some p)),(.pointer(some p)),(.pointer(some p8)),(.slice a9 n10 c11),(iA n10),undef])(HL(aQ [1,0] iP)10)g7)g7 fun v12 u13 g14=>(ai SS.P 157(room h 12)(.pointer(some p8))=some(.slice a9 n10 c11)/\cP 4(.slice a9 n10 c11)(.slice a9 n10 c11)=true)/\(GG SS.P 157(.slice a9 n10 c11)(room h 12)=some(iA n10)/\cP 4(iA n10)(iA n10)=true)/\Q v12 g14
theorem JD(p:Addr)(h:Heap)(Q:VH)(hx:L6 p h Q):FW SS 173 [(.pointer(some p))] h Q:=ay(M:=MY)(c:=iP)Tryz.func173(show Tryz.f173.body=some iP by kernel_rfl)(by kernel_rfl)(aj hx(by kernel_rfl))
end Go.Proofs.YtoabjjimjldcfaaGreatDoor
end
section
namespace Go.Ab
open Go
def OwnF(h0 h:Heap)(e:TypeId)(v:Value)(vs:List Value):Prop:=
 (v = .slice none 0 0/\vs=[])\/∃ k,v = .slice(some⟨k,0,none⟩)vs.length(bn + vs.length)/\h0.next<=k/\h.get k=some(.cells vs e 1 true)
theorem OwnF.addL {P:Program}{t e t' : TypeId}{i:TypeInfo}(hU:P.underlying t=some(.slice e))(hE:dD P e=some i)(hs:i.size=1)(hT:cg P t' = true){h0 h:Heap}(w0:Wf h0)(a:Ok h0 h){v:Value}{vs:List Value}(o:OwnF h0 h e v vs){x:Value}{news:List Value}(hsrc:dS h 1 x=some(news,news.length))(hx:news.all bN=true)(hl:(vs.length + news.length) * i.bytes<=70368744177664)(hl2:vs.length + news.length<=1099511627776) :
  ∃ (b:Option Addr)(n c:Nat)(u:Upd),aC P t t' v x h=some(.slice b n c,u)/\OwnF h0(u.app h)e(.slice b n c)(vs ++ news)/\Ok h0(u.app h)/\(∀ j B,h.get j=some B->(∀ o n c,v≠ .slice(some⟨j,o,none⟩)n c)->(u.app h).get j=some B):=by
 have oldn:∀ j B,h.get j=some B->j < h.next:=fun j B hj=>a.wf _ _ hj
 unfold aC
 rw [hU]; dsimp af
 rw [hE]; dsimp af
 rw [if_pos hT,hs,hsrc]; dsimp af
 rw [if_pos⟨hx,by omega⟩]
 rcases o with⟨rfl,rfl⟩|⟨k,rfl,h2,h3⟩
 · show ∃ b n c u,(if news.length=0 then some(Value.slice none 0 0,Upd.no) else if news.length * i.bytes<=70368744177664/\news.length<=1099511627776 then some(Value.slice(some⟨h.next,0,none⟩)news.length(bn + news.length),Upd.push(.cells news e 1 true)) else none)=_/\_
  by_cases hz:news.length=0
  · have hn:news=[]:=List.eq_nil_of_length_eq_zero hz
   subst hn
   exact⟨_,_,_,_,rfl,.inl⟨rfl,rfl⟩,a,fun j B hj _=>hj⟩
  · rw [if_neg hz,if_pos(by simpa using And.intro hl hl2)]
   refine⟨_,_,_,_,rfl,.inr⟨h.next,by simp,a.nx,?_⟩,a.push _,fun j B hj _=>?_⟩
   · show(h.push _).get h.next=_
    rw [Heap.get_push,if_pos rfl]; rfl
   · show(h.push _).get j=_
    rw [Heap.get_push,if_neg(fun e=>by have:=oldn _ _ hj; omega)]
    exact hj
 · dsimp af
  have hkn:=a.wf _ _ h3
  by_cases hz:news.length=0
  · have hn:news=[]:=List.eq_nil_of_length_eq_zero hz
   subst hn
   refine⟨_,_,_,_,rfl,.inr⟨k,by simp,h2,by rw [List.append_nil]; exact h3⟩,a,fun j B hj _=>hj⟩
  · rw [if_neg hz,Nat.mul_one]
   have hcap:aO(bn + vs.length)=vs.length:=by unfold aO; rw [if_pos(by omega)]; omega
   rw [hcap,if_neg(by omega)]
   unfold gG
   rw [if_pos⟨hl,hl2⟩,h3]
   dsimp af
   rw [Nat.mul_one,if_pos⟨rfl,rfl,by simp⟩,if_neg(by omega),if_pos⟨rfl,by omega⟩]
   refine⟨_,_,_,_,rfl,.inr⟨h.next,by simp,a.nx,?_⟩,?_,fun j B hj hv=>?_⟩
   · show((h.del k).push _).get h.next=_
    rw [Heap.get_push,if_pos(show h.next=(h.del k).next from rfl),List.drop_zero,List.take_length]
   · refine⟨?_,fun j C hj=>?_,Nat.le_trans a.nx(Nat.le_succ _)⟩
    · refine Heap.wf_push(fun j C hj=>?_)_
     rw [Heap.get_del] at hj
     split at hj
     · cases hj
     · exact a.wf _ _ hj
    · have h7:=a.ext _ _ hj
     have h8:=a.wf _ _ h7
     show((h.del k).push _).get j=_
     rw [Heap.get_push,if_neg(fun e=>by have:j=h.next:=e; omega),Heap.get_del,if_neg(fun e=>by have:=w0 _ _ hj; omega)]
     exact h7
   · show((h.del k).push _).get j=_
    rw [Heap.get_push,if_neg(fun e=>by have:=oldn _ _ hj; have:j=h.next:=e; omega),Heap.get_del,if_neg(fun e=>hv 0 _ _(by rw [e]))]
    exact hj
theorem EH {S:Sx}{f:FuncId}{p:lU}{args:List Value}{h h' : Heap}{v:Value}{Q:VH}(hY:Nat.ble YB f=false)(hp:S.pr f=some p)(hr:∀ cf,p cf args h=some(v,h'))(hq:Q v h'):FW S f args h Q:=by
 refine⟨v,h',⟨1,fun n hn=>?_⟩,hq⟩
 obtain⟨m,rfl⟩: ∃ m,n=m + 1 :=⟨n - 1,by omega⟩
 have hY' : ¬ YB<=f:=fun h=>by rw [<- Nat.ble_eq] at h; rw [hY] at h; cases h
 unfold aN
 rw [if_neg hY',hp]
 exact hr _
end Go.Ab
end
section
set_option linter.unusedVariables false
set_option maxRecDepth 100000
namespace Go.Proofs.YtoabjjimjldcfaaGreatDoor
open Go Go.Ab
theorem qK:SS.P.underlying 161=some(.pointer 163):=by kernel_rfl
theorem wS:SS.P.underlying 181=some .unsafePointer:=by kernel_rfl
theorem P7:au SS.P 163=some 2:=by kernel_rfl
theorem R7 {ρ:Operand->Value}{o:Oper}{x:Operand}(ho:o.op = .convert 161 181 x){h:Heap}{k:Nat}{a b:Value}{wr:Bool}(hx:ρ x = .pointer(some⟨k,0,none⟩))(hk:h.get k=some(.cells [a,b] 163 0 wr)):aL SS.P dh ρ o h=some(.pointer(some⟨k,0,none⟩),.no):=by
 obtain⟨dst,op,ty,pos,after,guard⟩:=o
 subst ho
 unfold aL
 have h1:aD SS.P ρ⟨dst,.convert 161 181 x,ty,pos,after,guard⟩= none:=by
  show cC SS.P 161 181(ρ x)=none
  rw [hx]; unfold cC; rw [qK,wS]
 have h2:aI SS.P ρ⟨dst,.convert 161 181 x,ty,pos,after,guard⟩h=none:=by
  unfold aI; dsimp af; rw [qK,wS,hx]
 have h3:aH SS.P ρ⟨dst,.convert 161 181 x,ty,pos,after,guard⟩= none:=by
  unfold aH; dsimp af; rw [qK,wS,hx]
 rw [h1]; dsimp af
 rw [h2]; dsimp af
 rw [h3]; dsimp af
 unfold bA; dsimp af
 rw [qK,wS,hx]
 show(match h.get k with | some(.cells cs t' 0 _)=>if 163=t'/\au SS.P 163=some cs.length/\0 < cs.length then some(Value.pointer(some⟨k,0,none⟩),Upd.no) else none | _=>none)=_
 rw [hk]
 show(if 163=163/\au SS.P 163=some [a,b].length/\0 < [a,b].length then some(Value.pointer(some⟨k,0,none⟩),Upd.no) else none)=_
 rw [if_pos⟨rfl,P7,by simp⟩]
theorem Nz {ρ:Operand->Value}{o:Oper}{x:Operand}(ho:o.op = .convert 181 161 x){h:Heap}{k:Nat}{a b:Value}{wr:Bool}(hx:ρ x = .pointer(some⟨k,0,none⟩))(hk:h.get k=some(.cells [a,b] 163 0 wr)):aL SS.P dh ρ o h=some(.pointer(some⟨k,0,none⟩),.no):=by
 obtain⟨dst,op,ty,pos,after,guard⟩:=o
 subst ho
 unfold aL
 have h1:aD SS.P ρ⟨dst,.convert 181 161 x,ty,pos,after,guard⟩= none:=by
  show cC SS.P 181 161(ρ x)=none
  rw [hx]; unfold cC; rw [qK,wS]
 have h2:aI SS.P ρ⟨dst,.convert 181 161 x,ty,pos,after,guard⟩h=none:=by
  unfold aI; dsimp af; rw [qK,wS,hx]
 have h3:aH SS.P ρ⟨dst,.convert 181 161 x,ty,pos,after,guard⟩= none:=by
  unfold aH; dsimp af; rw [qK,wS,hx]
 rw [h1]; dsimp af
 rw [h2]; dsimp af
 rw [h3]; dsimp af
 unfold bA; dsimp af
 rw [qK,wS,hx]
 show(match h.get k with | some(.cells cs t' 0 _)=>if 163=t'/\au SS.P 163=some cs.length/\0 < cs.length then some(Value.pointer(some⟨k,0,none⟩),Upd.no) else none | _=>none)=_
 rw [hk]
 show(if 163=163/\au SS.P 163=some [a,b].length/\0 < [a,b].length then some(Value.pointer(some⟨k,0,none⟩),Upd.no) else none)=_
 rw [if_pos⟨rfl,P7,by simp⟩]
def yX(k:Nat):Value:= .pointer(some⟨k,0,none⟩)
theorem T8(k:Nat):ah SS.P 163(.pointer(some⟨k,0,none⟩))0=some(.pointer(some⟨k,0,none⟩)):=by kernel_rfl
theorem RE(k:Nat):ah SS.P 163(.pointer(some⟨k,0,none⟩))1=some(.pointer(some⟨k,1,none⟩)):=by kernel_rfl
theorem YJ {h:Heap}{k:Nat}{a b:Value}{wr:Bool}(hk:h.get k=some(.cells [a,b] 163 0 wr)):ai SS.P 161 h(.pointer(some⟨k,0,none⟩))=some a:=by
 unfold ai
 rw [qK]; dsimp af
 rw [hk]; dsimp af
 rw [show Go.Ab.isAgg SS.P 161=false by kernel_rfl]; rfl
theorem VD {h:Heap}{k:Nat}{a b:Value}{wr:Bool}(hk:h.get k=some(.cells [a,b] 163 0 wr)):ai SS.P 157 h(.pointer(some⟨k,1,none⟩))=some b:=by
 unfold ai
 rw [xp]; dsimp af
 rw [hk]; dsimp af
 rw [show Go.Ab.isAgg SS.P 157=false by kernel_rfl]; rfl
theorem Y6 {h:Heap}{k:Nat}{a b x:Value}(hk:h.get k=some(.cells [a,b] 163 0 true))(hx:bN x=true)(hc:x.cells = #[x]):am SS.P 161(.pointer(some⟨k,0,none⟩))x h=some(undef,.set k(.cells [x,b] 163 0 true)):=by
 show(if au SS.P 161=some x.cells.size then(storeAt h k 0 x.cells.toList).map fun u=>(undef,u) else none)=_
 rw [hc,show au SS.P 161=some 1 by kernel_rfl,if_pos(show some 1=some #[x].size from rfl)]
 unfold storeAt
 rw [hk]; dsimp af
 rw [if_pos⟨by simp,by simp [hx]⟩]; rfl
theorem VJ {h:Heap}{k:Nat}{a b x:Value}(hk:h.get k=some(.cells [a,b] 163 0 true))(hx:bN x=true)(hc:x.cells = #[x]):am SS.P 157(.pointer(some⟨k,1,none⟩))x h=some(undef,.set k(.cells [a,x] 163 0 true)):=by
 show(if au SS.P 157=some x.cells.size then(storeAt h k 1 x.cells.toList).map fun u=>(undef,u) else none)=_
 rw [hc,show au SS.P 157=some 1 by kernel_rfl,if_pos(show some 1=some #[x].size from rfl)]
 unfold storeAt
 rw [hk]; dsimp af
 rw [if_pos⟨by simp,by simp [hx]⟩]; rfl
theorem EZ {h:Heap}{k:Nat}{a b:Value}(hk:h.get k=some(.cells [a,b] 163 0 true))(ha:a = .pointer none\/a=yX k) :
  FW SS 181 [yX k] h(fun v h'=>v = .tuple⟨[]⟩/\h'.get k=some(.cells [yX k,b] 163 0 true)/\(∀ j,j≠k->h'.get j=h.get j)/\h'.next=h.next):=by
 refine BQ⟨k,0,none⟩h _⟨_,T8 k,?_⟩
 rcases ha with rfl | rfl
 · refine⟨_,YJ hk,true,by kernel_rfl,?_⟩
  refine ae(fun _=>?_)(fun g=>by cases g)
  refine⟨_,_,R7(k:=k)(x:= .tmp 8)(by kernel_rfl)(by kernel_rfl)hk,EH(p:=gE)(v:=yX k)(by kernel_rfl)(by kernel_rfl)(fun _=>rfl)⟨_,rfl,_,_,Nz(k:=k)(x:= .tmp 10)(by kernel_rfl)(by kernel_rfl)hk,_,T8 k,_,Y6 hk rfl rfl,rfl,?_,?_,rfl⟩⟩
  · show(h.set k _).get k=_
   rw [Heap.get_set,if_pos rfl]; rfl
  · intro j hj
   show(h.set k _).get j=_
   rw [Heap.get_set,if_neg hj]
 · refine⟨_,YJ hk,false,by kernel_rfl,?_⟩
  refine ae(fun g=>by cases g)(fun _=>?_)
  have hn:an SS.P .neq 161(yX k)(yX k)=some(.bool false):=by
   show((mS SS.P 161(.pointer(some⟨k,0,none⟩))(.pointer(some⟨k,0,none⟩))).map fun b=>Value.bool !b)=_
   unfold mS
   dsimp af
   rw [qK]
   dsimp af
   rw [if_pos⟨rfl,by rw [P7]; rfl⟩]; rfl
  refine⟨_,T8 k,_,YJ hk,false,hn,ae(fun g=>by cases g)(fun _ =>⟨rfl,hk,fun _ _=>rfl,rfl⟩)⟩
def Bd(h0 h:Heap)(k:Nat)(l:List UInt8):Prop:= ∃ a v,h.get k=some(.cells [a,v] 163 0 true)/\(a = .pointer none\/a=yX k)/\OwnF h0 h 5 v(l.map nT)/\h0.next<=k
theorem Y8:dD SS.P 5=some((SS.P.info? 5).getD default):=by kernel_rfl
theorem X8:((SS.P.info? 5).getD default).size=1:=by kernel_rfl
theorem Yy:((SS.P.info? 5).getD default).bytes=1:=by kernel_rfl
theorem Ze:cg SS.P 9=true:=by kernel_rfl
theorem UA(h:Heap)(l:List UInt8):dS h 1(aa l)=some(l.map nT,(l.map nT).length):=by
 show(if 1=1 then some(l.map(fun b=>Value.int .u8 b.toNat),l.length) else none)=_
 rw [if_pos rfl,List.length_map]; rfl
theorem Kv:∀ l:List UInt8,(l.map nT).all bN=true
 | []=>rfl
 | c :: l=>by rw [List.map_cons,List.all_cons,Kv l]; rfl
theorem Fe {h0 h g:Heap}{e:TypeId}{v:Value}{vs:List Value}(o:OwnF h0 h e v vs)(hg:∀ j B,h.get j=some B->(∃ cs wr,B = .cells cs e 1 wr)->g.get j=some B):OwnF h0 g e v vs:=by
 rcases o with o |⟨k,h1,h2,h3⟩
 · exact .inl o
 · exact .inr⟨k,h1,h2,hg _ _ h3⟨_,_,rfl⟩⟩
theorem vE {h0 h:Heap}{k:Nat}{l m:List UInt8}(w0:Wf h0)(ok:Ok h0 h)(b:Bd h0 h k l)(hl:l.length + m.length<=1000000) :
  FW SS 171 [yX k,aa m] h(fun v h'=>v = .tuple⟨[.int .i64(m.length:Int),.nilIface]⟩/\Ok h0 h'/\Bd h0 h' k(l ++ m)):=by
 obtain⟨a,v,hk,ha,o,hn⟩:=b
 refine NJ⟨k,0,none⟩m h _((EZ hk ha).mono ?_)
 rintro _ g⟨rfl,hg,hj,hx⟩
 have okg:Ok h0 g:=by
  refine⟨fun j B h1=>?_,fun j B h1=>?_,by rw [hx]; exact ok.nx⟩
  · rw [hx]
   by_cases e:j=k
   · rw [e]; exact ok.wf _ _ hk
   · rw [hj j e] at h1; exact ok.wf _ _ h1
  · have:=w0 _ _ h1
   rw [hj j(by omega)]; exact ok.ext _ _ h1
 have og:OwnF h0 g 5 v(l.map nT):=Fe o fun j B h1 h2=>by
  obtain⟨cs,wr,rfl⟩:=h2
  by_cases e:j=k
  · subst e; rw [hk] at h1; injection h1 with h1; injection h1; omega
  · rw [hj j e]; exact h1
 have hv:∃ a n c,v = .slice a n c:=by
  rcases og with⟨rfl,_⟩|⟨_,rfl,_⟩<;> exact⟨_,_,_,rfl⟩
 obtain⟨a4,n5,c6,rfl⟩:=hv
 obtain⟨b7,n8,c9,u10,e1,o2,ok2,keep⟩:=og.addL xp Y8 X8 Ze w0 okg(UA g m)(Kv m)(by rw [Yy,List.length_map,List.length_map]; omega)(by rw [List.length_map,List.length_map]; omega)
 have hk2:(u10.app g).get k=some(.cells [yX k,.slice a4 n5 c6] 163 0 true):=keep k _ hg(by
  intro o n c e
  rcases og with⟨e2,_⟩|⟨k2,e2,_,e3⟩
  · rw [e2] at e; cases e
  · rw [e2] at e
   injection e with e
   injection e with e
   injection e with e
   subst e
   rw [hg] at e3; injection e3 with e3; injection e3; omega)
 refine⟨rfl,_,RE k,_,_,_,VD hg,b7,n8,c9,u10,e1,_,RE k,_,VJ hk2 ?_ ?_,rfl,?_,?_⟩
 · rcases o2 with⟨e2,_⟩|⟨k2,e2,_,e3⟩<;> rw [e2] <;> rfl
 · rfl
 · exact ok2.set _ hn(ok2.wf _ _ hk2)w0
 · refine⟨yX k,.slice b7 n8 c9,?_,.inr rfl,?_,hn⟩
  · show((u10.app g).set k _).get k=_
   rw [Heap.get_set,if_pos rfl]
  · rw [List.map_append]
   refine Fe o2 fun j B h1 h2=>?_
   obtain⟨cs,wr,rfl⟩:=h2
   show((u10.app g).set k _).get j=_
   rw [Heap.get_set,if_neg]
   · exact h1
   intro e
   subst e
   rw [hk2] at h1; injection h1 with h1; injection h1; omega
end Go.Proofs.YtoabjjimjldcfaaGreatDoor
end
section
set_option linter.unusedVariables false
set_option maxRecDepth 100000
namespace Go.Proofs.YtoabjjimjldcfaaGreatDoor
open Go Go.Ab
theorem Wn {ρ:Operand->Value}{o:Oper}{x:Operand}{ts:Array TypeId}(ho:o.op = .call⟨.builtin .unsafeSliceData,#[x],ts⟩){h:Heap}{a:Addr}{n c:Nat}(hx:ρ x = .slice(some a)n c)(hc:0 < aO c):aL SS.P dh ρ o h=some(.pointer(some a),.no):=by
 obtain⟨dst,op,ty,pos,after,guard⟩:=o
 subst ho
 show(match [x].map ρ with
  | [.slice none _ _]=>some(Value.pointer none,Upd.no)
  | [.slice(some a)_ c]=>if 0 < aO c then some(Value.pointer(some a),Upd.no) else none
  | _=>none)=_
 rw [List.map_cons,List.map_nil,hx]
 show(if 0 < aO c then some(Value.pointer(some a),Upd.no) else none)=_
 rw [if_pos hc]
theorem WC:SS.P.underlying 175=some(.pointer 5):=by kernel_rfl
theorem SK {ρ:Operand->Value}{o:Oper}{x y:Operand}{t2:TypeId}(ho:o.op = .call⟨.builtin .unsafeString,#[x,y],#[175,t2]⟩){h:Heap}{k:Nat}{l:List UInt8}(hx:ρ x = .pointer(some⟨k,0,none⟩))(hy:ρ y = .int .i64(l.length:Int))(hk:h.get k=some(.cells(l.map nT)5 1 true))(h0:l≠[])(h1:l.length < 9223372036854775807):aL SS.P dh ρ o h=some(aa l,.set k(.cells(l.map nT)5 1 false)):=by
 obtain⟨dst,op,ty,pos,after,guard⟩:=o
 subst ho
 show(match [x,y].map ρ,(#[175,t2] : Array TypeId)[0]? with
  | [.pointer none,.int _ 0],some _=>some(aa [],Upd.no)
  | [.pointer(some⟨k,i,none⟩),.int _ n],some pt=>(match h.get k,SS.P.underlying pt with
   | some(.cells cs e 1 true),some(.pointer e') =>
    if e=e'/\au SS.P e=some 1/\0 < n/\n < 9223372036854775807/\((cs.drop i).take n.toNat).length=n.toNat then
     (match bytesOf((cs.drop i).take n.toNat) with
     | some l=>some(aa l,Upd.set k(.cells cs e 1 false))
     | none=>none)
    else none
   | _,_=>none)
  | _,_=>none)=_
 rw [List.map_cons,List.map_cons,List.map_nil,hx,hy]
 show(match h.get k,SS.P.underlying 175 with
   | some(.cells cs e 1 true),some(.pointer e') =>
    if e=e'/\au SS.P e=some 1/\0 < (l.length:Int)/\(l.length:Int) < 9223372036854775807/\((cs.drop 0).take(l.length:Int).toNat).length=(l.length:Int).toNat then
     (match bytesOf((cs.drop 0).take(l.length:Int).toNat) with
     | some l=>some(aa l,Upd.set k(.cells cs e 1 false))
     | none=>none)
    else none
   | _,_=>none)=_
 rw [hk,WC]
 have hp:=List.length_pos_iff.2 h0
 show(if 5=5/\au SS.P 5=some 1/\0 < (l.length:Int)/\(l.length:Int) < 9223372036854775807/\(((l.map nT).drop 0).take(l.length:Int).toNat).length=(l.length:Int).toNat then
     (match bytesOf(((l.map nT).drop 0).take(l.length:Int).toNat) with
     | some l'=>some(aa l',Upd.set k(.cells(l.map nT)5 1 false))
     | none=>none)
    else none)=_
 rw [Int.toNat_natCast,List.drop_zero,List.take_of_length_le(by simp),if_pos⟨rfl,VX,by omega,by omega,by simp⟩,kM]
theorem JH {h0 h:Heap}{k:Nat}{l:List UInt8}(w0:Wf h0)(ok:Ok h0 h)(b:Bd h0 h k l)(hne:l≠[])(hl:l.length<=1000000) :
  FW SS 173 [yX k] h(fun v h'=>v=aa l/\Ok h0 h'):=by
 obtain⟨a,v,hk,ha,o,hn⟩:=b
 rcases o with⟨_,h1⟩|⟨k2,rfl,h2,h3⟩
 · exact absurd(List.map_eq_nil_iff.1 h1)hne
 have hk' : (room h 12).get k=_:=hk
 have hp:=List.length_pos_iff.2 hne
 have hc:aO(bn + (l.map nT).length)=l.length:=by unfold aO; rw [if_pos(by omega),List.length_map]; omega
 rw [List.length_map] at *
 refine JD⟨k,0,none⟩h _⟨_,RE k,_,_,_,VD hk',_,_,Wn(x:= .tmp 6)(ts:= #[157])(a :=⟨k2,0,none⟩)(n:=l.length)(c:=bn + l.length)(by kernel_rfl)(by kernel_rfl)(by rw [hc]; exact hp),_,RE k,_,_,_,VD hk',_,_,SK(x:= .tmp 7)(y:= .tmp 12)(k:=k2)(l:=l)(t2:=3)(by kernel_rfl)(by kernel_rfl)(by kernel_rfl)h3 hne(by omega),⟨VD hk',by simp [cP]⟩,⟨rfl,by simp [cP]⟩,rfl,?_⟩
 exact(ok.room 12).set _ h2((ok.room 12).wf _ _ h3)w0
theorem X5(m:Nat)(h:Heap):aN SS.P SS.gl SS.pr(m + 8)172 [aa [48],.int .i64 0] h=some(aa [],h):=by kernel_rfl
theorem Yf(m:Nat)(h:Heap):aN SS.P SS.gl SS.pr(m + 8)172 [aa [48],.int .i64 1] h=some(aa [48],h):=by kernel_rfl
theorem Yk(m:Nat)(h:Heap):aN SS.P SS.gl SS.pr(m + 8)172 [aa [48],.int .i64 2] h=some(aa [48,48],h):=by kernel_rfl
theorem YD(m:Nat)(h:Heap):aN SS.P SS.gl SS.pr(m + 8)172 [aa [48],.int .i64 3] h=some(aa [48,48,48],h):=by kernel_rfl
theorem X0(m:Nat)(h:Heap):aN SS.P SS.gl SS.pr(m + 8)172 [aa [48],.int .i64 4] h=some(aa [48,48,48,48],h):=by kernel_rfl
theorem Yn(m:Nat)(h:Heap):aN SS.P SS.gl SS.pr(m + 8)172 [aa [48],.int .i64 5] h=some(aa [48,48,48,48,48],h):=by kernel_rfl
theorem YK(m:Nat)(h:Heap):aN SS.P SS.gl SS.pr(m + 8)172 [aa [48],.int .i64 6] h=some(aa [48,48,48,48,48,48],h):=by kernel_rfl
theorem Ye(m:Nat)(h:Heap):aN SS.P SS.gl SS.pr(m + 8)172 [aa [48],.int .i64 7] h=some(aa [48,48,48,48,48,48,48],h):=by kernel_rfl
theorem Ym(m:Nat)(h:Heap):aN SS.P SS.gl SS.pr(m + 8)172 [aa [48],.int .i64 8] h=some(aa [48,48,48,48,48,48,48,48],h):=by kernel_rfl
theorem LO {n:Nat}(hn:n<=8)(h:Heap):FW SS 172 [aa [48],.int .i64(n:Int)] h(fun v h'=>v=aa(List.replicate n 48)/\h' = h):=by
 have key:∀ (z:Int)(l:List UInt8),(∀ m,aN SS.P SS.gl SS.pr(m + 8)172 [aa [48],.int .i64 z] h=some(aa l,h))->FW SS 172 [aa [48],.int .i64 z] h(fun v h'=>v=aa l/\h' = h):=fun z l hr =>
  ⟨_,_,⟨8,fun N hN=>by obtain⟨m,rfl⟩: ∃ m,N=m + 8 :=⟨N - 8,by omega⟩; exact hr m⟩,rfl,rfl⟩
 have:n=0\/n=1\/n=2\/n=3\/n=4\/n=5\/n=6\/n=7\/n=8:=by omega
 rcases this with rfl | rfl | rfl | rfl | rfl | rfl | rfl | rfl | rfl
 · exact key 0 _ fun m=>X5 m h
 · exact key 1 _ fun m=>Yf m h
 · exact key 2 _ fun m=>Yk m h
 · exact key 3 _ fun m=>YD m h
 · exact key 4 _ fun m=>X0 m h
 · exact key 5 _ fun m=>Yn m h
 · exact key 6 _ fun m=>YK m h
 · exact key 7 _ fun m=>Ye m h
 · exact key 8 _ fun m=>Ym m h
end Go.Proofs.YtoabjjimjldcfaaGreatDoor
end
section
set_option linter.unusedVariables false
set_option maxRecDepth 100000
namespace Go.Proofs.YtoabjjimjldcfaaGreatDoor
open Go Go.Ab
noncomputable def gj:Code:=(Tryz.f161.body).getD .skip
noncomputable def DY(Q:VH):ak:=cF SS Tryz.f161.results.toList Q
def wm:List Nat:=[0,3,10,11]
noncomputable def Du(p:List Nat)(w:LV)(h:Heap)(Q:ak):Prop:=bq SS Tryz.f161.ntmps wm(aQ p gj)w h Q
noncomputable def C7(p b:List Nat)(K:ak):ak:=ko SS Tryz.f161.ntmps wm p(aQ b gj)K
abbrev Ml(a:OA)(n c:Nat)(h:Heap)(Q:VH):Prop:=ax((((n:Int):Int) == 0))(Q(aa [48])h)(xN(bj SS.P 163)h fun B1 g2=>Du [1,1,1,0,1,0,0] [(.slice a n c),(pA(h.next)),(iA n),(.int .i64 0)] g2(C7 [1,1,1,0,1,0] [] (DY Q)))
theorem Kl(a:OA)(n c:Nat)(h:Heap)(Q:VH)(hx:Ml a n c h Q):FW SS 161 [(.slice a n c)] h Q:=ay(M:=wm)(c:=gj)Tryz.func161(show Tryz.f161.body=some gj by kernel_rfl)(by kernel_rfl)(aj hx(by kernel_rfl))
abbrev it(a:OA)(n c:Nat)(p:Addr)(aS:Int)(i:Nat)  : LV:=[(.slice a n c),(.pointer(some p)),(.int .i64 aS),(iA i)]
def eO(a:OA)(n c:Nat)(p:Addr)(aS:Int)(Inv:Nat->Nat->Heap->Prop)(mz:Nat)(w:LV)(h:Heap):Prop:= ∃ (i:Nat) ,w=(it a n c p aS i )/\Inv mz i h
abbrev xK(a:OA)(n c:Nat)(p:Addr)(aS:Int)(Inv:Nat->Nat->Heap->Prop)(Q:VH)(mz:Nat)(i:Nat)  (zz:Nat->Value)(h:Heap):Prop:=ax(decide(((i:Int):Int) < aS))(xP(ag SS.P 136(.slice a n c)(.int .i64(IntKind.wrap .i64(IntKind.wrap .i64((n:Int) - 1) - (i:Int)))))fun p3=>xI .u64(ai SS.P 103 h(.pointer(some p3)))fun n4=>FW SS 170 [(.int .u64 n4),(.int .i64 10)] h fun v5 h6=>yS v5 fun l7=>ax(decide(((i:Int):Int) > 0))(FW SS 172 [(aa [48]),(.int .i64(IntKind.wrap .i64(9 - ((l7:LB).length:Int))))] h6 fun v8 h9=>yS v8 fun l10=>FW SS 171 [(.pointer(some p)),(aa l10)] h9 fun v11 h12=>∃ n13:Int,∃ v14:Value,v11=(.tuple⟨[(.int .i64 n13),v14]⟩)/\FW SS 171 [(.pointer(some p)),(aa l7)] h12 fun v15 h16=>∃ n17:Int,∃ v18:Value,v15=(.tuple⟨[(.int .i64 n17),v18]⟩)/\al(eO a n c p aS Inv)mz [(.slice a n c),(.pointer(some p)),(.int .i64 aS),(.int .i64(IntKind.wrap .i64((i:Int) + 1)))] h16)(FW SS 171 [(.pointer(some p)),(aa l7)] h6 fun v19 h20=>∃ n21:Int,∃ v22:Value,v19=(.tuple⟨[(.int .i64 n21),v22]⟩)/\al(eO a n c p aS Inv)mz [(.slice a n c),(.pointer(some p)),(.int .i64 aS),(.int .i64(IntKind.wrap .i64((i:Int) + 1)))] h20))(FW SS 173 [(.pointer(some p))] h fun v23 h24=>yS v23 fun l25=>Q(aa l25)h24)
theorem i8 {a:OA}{n c:Nat}{p:Addr}{aS:Int}{Inv:Nat->Nat->Heap->Prop}{mz:Nat}(mq:Nat){i:Nat}  {h:Heap}(hm:mq < mz)(hi:Inv mq i h):al(eO a n c p aS Inv)mz(it a n c p aS i )h :=⟨mq,hm,i,rfl,hi⟩
theorem rz(a:OA)(n c:Nat)(p:Addr)(aS:Int)(Inv:Nat->Nat->Heap->Prop)(Q:VH)(step:∀ (mz:Nat)(i:Nat)  (zz:Nat->Value)(h:Heap),Inv mz i h->xK a n c p aS Inv Q mz i  zz h)(mz:Nat){i:Nat}  {h:Heap}(hi:Inv mz i h):Du [1,1,1,0,1,0,0] (it a n c p aS i )h(C7 [1,1,1,0,1,0] [] (DY Q)):=
 aq(A:=(eO a n c p aS Inv))(show aG Tryz.f161.ntmps(aQ [1,1,1,0,1,0,0] gj)=true by kernel_rfl)(fun mz w zz h⟨i,hw,hi⟩=> by subst hw; exact aj(step mz i  zz h hi)(by kernel_rfl))mz _ h⟨i,rfl,hi⟩(fun zz=>by kernel_rfl)(by kernel_rfl)
noncomputable def gZ:Code:=(Tryz.f143.body).getD .skip
noncomputable def GX(Q:VH):ak:=cF SS Tryz.f143.results.toList Q
def Az:List Nat:=[6,7]
noncomputable def Gv(p:List Nat)(w:LV)(h:Heap)(Q:ak):Prop:=bq SS Tryz.f143.ntmps Az(aQ p gZ)w h Q
noncomputable def HI(p b:List Nat)(K:ak):ak:=ko SS Tryz.f143.ntmps Az p(aQ b gZ)K
abbrev PY(l m:LB)(h:Heap)(Q:VH):Prop:=FW SS 139 [(aa l)] h fun v1 h2=>yB v1 fun b3=>ax(!b3)(Q(.tuple⟨[(aa []),(.int .i64 1)]⟩)h2)(FW SS 139 [(aa m)] h2 fun v4 h5=>yB v4 fun b6=>ax(!b6)(Q(.tuple⟨[(aa []),(.int .i64 1)]⟩)h5)(FW SS 140 [(aa l)] h5 fun v7 h8=>yL v7 fun a9 n10 c11=>FW SS 140 [(aa m)] h8 fun v12 h13=>yL v12 fun a14 n15 c16=>Gv [1,1,1,0,0,0] [(.slice a9 n10 c11),(.slice a14 n15 c16)] h13(HI [1,1,1,0,0] [] (GX Q))))
theorem L4(l m:LB)(h:Heap)(Q:VH)(hx:PY l m h Q):FW SS 143 [(aa l),(aa m)] h Q:=ay(M:=Az)(c:=gZ)Tryz.func143(show Tryz.f143.body=some gZ by kernel_rfl)(by kernel_rfl)(aj hx(by kernel_rfl))
abbrev jC(l m:LB)  (a:OA)(n:Nat)(c:Nat)(b:OA)(k:Nat)(d:Nat)  : LV:=[(.slice a n c),(.slice b k d)]
def jl(l m:LB)  (Inv:Nat->OA->Nat->Nat->OA->Nat->Nat->Heap->Prop)(mz:Nat)(w:LV)(h:Heap):Prop:= ∃ (a:OA)(n:Nat)(c:Nat)(b:OA)(k:Nat)(d:Nat) ,w=(jC l m a n c b k d )/\Inv mz a n c b k d h
abbrev Bg(l m:LB)  (Inv:Nat->OA->Nat->Nat->OA->Nat->Nat->Heap->Prop)(Q:VH)(mz:Nat)(a:OA)(n:Nat)(c:Nat)(b:OA)(k:Nat)(d:Nat)  (zz:Nat->Value)(h:Heap):Prop:=ax(decide(((k:Int):Int) > 0))(FW SS 163 [(.slice a n c),(.slice b k d)] h fun v17 h18=>∃ (a19:OA)(n20 c21:Nat),∃ (a22:OA)(n23 c24:Nat),v17=(.tuple⟨[(.slice a19 n20 c21),(.slice a22 n23 c24)]⟩)/\al(jl l m Inv)mz [(.slice b k d),(.slice a22 n23 c24)] h18)(FW SS 161 [(.slice a n c)] h fun v25 h26=>yS v25 fun l27=>Q(.tuple⟨[(aa l27),(.int .i64 0)]⟩)h26)
theorem sn {l m:LB}  {Inv:Nat->OA->Nat->Nat->OA->Nat->Nat->Heap->Prop}{mz:Nat}(mq:Nat){a:OA}{n:Nat}{c:Nat}{b:OA}{k:Nat}{d:Nat}  {h:Heap}(hm:mq < mz)(hi:Inv mq a n c b k d h):al(jl l m Inv)mz(jC l m a n c b k d )h :=⟨mq,hm,a,n,c,b,k,d,rfl,hi⟩
theorem sr(l m:LB)  (Inv:Nat->OA->Nat->Nat->OA->Nat->Nat->Heap->Prop)(Q:VH)(step:∀ (mz:Nat)(a:OA)(n:Nat)(c:Nat)(b:OA)(k:Nat)(d:Nat)  (zz:Nat->Value)(h:Heap),Inv mz a n c b k d h->Bg l m Inv Q mz a n c b k d  zz h)(mz:Nat){a:OA}{n:Nat}{c:Nat}{b:OA}{k:Nat}{d:Nat}  {h:Heap}(hi:Inv mz a n c b k d h):Gv [1,1,1,0,0,0] (jC l m a n c b k d )h(HI [1,1,1,0,0] [] (GX Q)):=
 aq(A:=(jl l m Inv))(show aG Tryz.f143.ntmps(aQ [1,1,1,0,0,0] gZ)=true by kernel_rfl)(fun mz w zz h⟨a,n,c,b,k,d,hw,hi⟩=> by subst hw; exact aj(step mz a n c b k d  zz h hi)(by kernel_rfl))mz _ h⟨a,n,c,b,k,d,rfl,hi⟩(fun zz=>by kernel_rfl)(by kernel_rfl)
end Go.Proofs.YtoabjjimjldcfaaGreatDoor
end
section
set_option linter.unusedVariables false
namespace Go.Num
theorem CY {Y:Nat}(hY:0 < Y):∀ {n b:Nat},b < 10 ^ n->toDec(Y * 10 ^ n + b)=toDec Y ++ wid n b
 | 0,b,h=>by
  obtain rfl:b=0:=by simpa using h
  simp [wid]
 | n + 1,b,h=>by
  have h1:b / 10 < 10 ^ n:=by rw [Nat.div_lt_iff_lt_mul(by omega),<- Nat.pow_succ]; exact h
  have h2:=CY hY h1
  have hp:0 < 10 ^ n:=Nat.pow_pos(by omega)
  have h3:0 < Y * 10 ^ n + b / 10:=Nat.add_pos_left(Nat.mul_pos hY hp)_
  have e:Y * 10 ^ (n + 1) + b=10 * (Y * 10 ^ n + b / 10) + b % 10:=by
   rw [Nat.pow_succ,Nat.mul_add,<- Nat.mul_assoc,Nat.mul_comm(Y * 10 ^ n)10]
   omega
  rw [e,sa h3(Nat.mod_lt _(by omega)),h2,wid,List.append_assoc]
theorem toDec_block {Y b:Nat}(hY:0 < Y)(hb:b < 1000000000):toDec(b + 1000000000 * Y)=toDec Y ++ List.replicate(9 - (toDec b).length)48 ++ toDec b:=by
 have h:=CY hY(n:=9)(b:=b)hb
 have e:b + 1000000000 * Y=Y * 10 ^ 9 + b:=by
  rw [Nat.add_comm,Nat.mul_comm]
 rw [e,h,K5(n:=9)hb(by omega),List.append_assoc]
theorem toDec_len_9 {b:Nat}(hb:b < 1000000000):(toDec b).length<=9:=(toDec_len_le(by omega)).2 hb
end Go.Num
end
section
set_option linter.unusedVariables false
set_option maxRecDepth 100000
namespace Go.Proofs.YtoabjjimjldcfaaGreatDoor
open Go Go.Ab
noncomputable def WL:Blk:= .cells [.pointer none,.slice none 0 0] 163 0 true
theorem Xb:bj SS.P 163=some(WL,ks):=by kernel_rfl
theorem W8 {h0 h g:Heap}{k:Nat}{l:List UInt8}(b:Bd h0 h k l)(o:Ok h g):Bd h0 g k l:=by
 obtain⟨a,v,h1,h2,h3,h4⟩:=b
 exact⟨a,v,o.ext _ _ h1,h2,Fe h3 fun j B hj _=>o.ext _ _ hj,h4⟩
theorem sc {h:Heap}{a:Option Addr}{n c X:Nat}(ra:Rd h 103(.slice a n c)(bl X))(hlen:(Num.toB BB X).length<=10000)(t:Tab h)(w:Wf h) :
  FW SS 161 [.slice a n c] h(fun v h'=>v=aa(Num.toDec X)/\Ok h h'):=by
 have hn:n=(Num.toB BB X).length:=by have:=ra.len; rwa [List.length_map] at this
 refine Kl a n c h _(ae(fun g=>?_)(fun g=>?_))
 · have g:(n:Int)=0:=by simpa using g
  have h0:(Num.toB BB X).length=0:=by omega
  have:X=0:=by have:=(Num.toB_eq_nil cI).1(List.eq_nil_of_length_eq_zero h0); omega
  subst this
  refine⟨?_,Ok.refl w⟩
  rw [Num.toDec_lt(by omega)]; rfl
 · have g : ¬ (n:Int)=0:=by simpa using g
  have hX:0 < X:=by
   rcases Nat.eq_zero_or_pos X with h | h
   · subst h; rw [(Num.toB_eq_nil cI).2 rfl] at hn; simp at hn; omega
   · exact h
  have htop:=Num.toB_top cI hX
  have hlt:=Num.toB_lt cI X
  have hbv:=Num.bv_toB cI X
  have ra:Rd h 103(.slice a n c)((Num.toB BB X).map uv):=ra
  generalize hx:Num.toB BB X=x at *
  have L:=rz a n c⟨h.next,0,none⟩(n:Int)(fun mz i g=>i<=n/\mz=n - i/\Ok h g/\∃ l,Bd h g h.next l/\l.length<=9 * i/\(i=0->l=[])/\(0 < i->0 < Num.bv BB(x.drop(n - i))/\l=Num.toDec(Num.bv BB(x.drop(n - i)))))(fun v h'=>v=aa(Num.toDec X)/\Ok h h')(by
   intro mz i; intros; rename_i g hi
   obtain⟨h1,rfl,ok,l,bd,hll,hz,hp⟩:=hi
   refine ae(fun h2=>?_)(fun h2=>?_)
   · have h2:=of_decide_eq_true h2
    have e1:IntKind.wrap .i64(IntKind.wrap .i64((n:Int) - 1) - (i:Int))=((n - 1 - i:Nat):Int):=by
     rw [ap(n:=(n:Int) - 1)(by omega)(by omega),ap(by omega)(by omega)]; omega
    obtain⟨p,e2,e3⟩:=Dy(ra.ok ok)(i:=((n - 1 - i:Nat):Int))(by omega)(by rw [<- hn]; omega)
    rw [e1]
    rw [Int.toNat_natCast] at e3
    have hb:x.getD(n - 1 - i)0 < BB:=Num.getD_lt(by decide)hlt _
    have hstep:Num.bv BB(x.drop(n - 1 - i))=x.getD(n - 1 - i)0 + BB * Num.bv BB(x.drop(n - i)):=by
     rw [Num.bv_drop,show n - 1 - i + 1=n - i by omega]
    have e5:IntKind.wrap .i64((i:Int) + 1)=((i + 1:Nat):Int):=by rw [ap(by omega)(by omega)]; omega
    rw [e5]
    have htop' : i=0->0 < x.getD(n - 1 - i)0:=fun e=>by subst e; rw [hn]; exact htop
    generalize x.getD(n - 1 - i)0=b at *
    have hb' : b < 1000000000:=hb
    have hb9:=Num.toDec_len_9 hb'
    refine⟨p,e2,_,e3,(ID hb' (t.ok ok)ok.wf).mono ?_⟩
    rintro _ h5⟨rfl,ok5⟩
    have bd5:=W8 bd ok5
    have ok5:=ok.trans ok5
    refine⟨_,rfl,ae(fun h6=>?_)(fun h6=>?_)⟩
    · have h6:=of_decide_eq_true h6
     obtain⟨p1,p2⟩:=hp(by omega)
     have e4:IntKind.wrap .i64(9 - ((Num.toDec b).length:Int))=((9 - (Num.toDec b).length:Nat):Int):=by rw [ap(by omega)(by omega)]; omega
     rw [e4]
     have hpos:=Num.toDec_len_pos b
     refine(LO(by omega)h5).mono ?_
     rintro _ h8⟨rfl,rfl⟩
     refine⟨_,rfl,(vE w ok5 bd5(by rw [List.length_replicate]; omega)).mono ?_⟩
     rintro _ h11⟨rfl,ok11,bd11⟩
     refine⟨_,_,rfl,(vE w ok11 bd11(by rw [List.length_append,List.length_replicate]; omega)).mono ?_⟩
     rintro _ h15⟨rfl,ok15,bd15⟩
     refine⟨_,_,rfl,i8(n - (i + 1))(by omega)⟨by omega,rfl,ok15,_,bd15,?_,fun h=>by omega,fun _=>?_⟩⟩
     · rw [List.length_append,List.length_append,List.length_replicate]; omega
     · rw [show n - (i + 1)=n - 1 - i by omega,hstep]
      refine⟨Nat.add_pos_right _(Nat.mul_pos(by decide)p1),?_⟩
      have:=Num.toDec_block p1 hb'
      rw [p2]
      exact this.symm
    · have h6:=of_decide_eq_false h6
     obtain rfl:i=0:=by omega
     obtain rfl:=hz rfl
     refine(vE w ok5 bd5(by rw [List.length_nil]; omega)).mono ?_
     rintro _ h15⟨rfl,ok15,bd15⟩
     refine⟨_,_,rfl,i8(n - 1)(by omega)⟨by omega,rfl,ok15,_,bd15,?_,fun h=>by omega,fun _=>?_⟩⟩
     · rw [List.nil_append]; omega
     · have hb0:Num.bv BB(x.drop n)=0:=by rw [List.drop_of_length_le(by omega)]; rfl
      rw [show n - 1 - 0=n - 1 by omega,show n - 0=n by omega,hb0,Nat.mul_zero,Nat.add_zero] at hstep
      rw [Nat.zero_add,hstep,List.nil_append]
      refine⟨?_,rfl⟩
      exact htop' rfl
   · have h2:=of_decide_eq_false h2
    obtain rfl:i=n:=by omega
    obtain⟨p1,p2⟩:=hp(by omega)
    rw [Nat.sub_self,List.drop_zero,hbv] at p2
    subst p2
    refine(JH w ok bd(Num.toDec_ne X)(by omega)).mono ?_
    rintro _ h15⟨rfl,ok15⟩
    exact⟨_,rfl,rfl,ok15⟩)
  have ok1:=(Ok.refl w).push WL
  refine⟨_,Xb,L n(i:=0)⟨by omega,rfl,ok1,[],⟨_,_,?_,.inl rfl,.inl⟨rfl,rfl⟩,Nat.le_refl _⟩,by simp,fun _=>rfl,fun h=>by omega⟩⟩
  rw [Heap.get_push,if_pos rfl]; rfl
theorem kJ {X:Nat}(h:X < 10 ^ 1000):(Num.toB BB X).length<=112:=by
 refine Num.toB_len_le cI(Nat.lt_of_lt_of_le h ?_)
 show 10 ^ 1000<=(10 ^ 9) ^ 112
 rw [<- Nat.pow_mul]
 exact Nat.pow_le_pow_right(by omega)(by omega)
def EN(h:Heap)(X Y:Nat)(mz:Nat)(a:Option Addr)(n c:Nat)(b:Option Addr)(k d:Nat)(g:Heap):Prop:= ∃ p:Nat,Rd g 103(.slice a n c)(bl p)/\Rd g 103(.slice b k d)(bl mz)/\(Num.toB BB p).length<=112/\(Num.toB BB mz).length<=112/\Nat.gcd p mz=Nat.gcd X Y/\Ok h g
theorem gcd_step {h g:Heap}{X Y mz:Nat}{a:Option Addr}{n c:Nat}{b:Option Addr}{k d:Nat}(t:Tab h)(hi:EN h X Y mz a n c b k d g){K:Nat->Option Addr->Nat->Nat->Option Addr->Nat->Nat->Heap->Prop}{Q:VH}
  (hK:∀ (a1:Option Addr)(n1 c1:Nat)(a2:Option Addr)(n2 c2 m2:Nat)(g:Heap),m2 < mz->EN h X Y m2 b k d a2 n2 c2 g->K m2 a1 n1 c1 a2 n2 c2 g) :
  (0 < k->FW SS 163 [.slice a n c,.slice b k d] g(fun v h'=>∃ (a1:Option Addr)(n1 c1:Nat)(a2:Option Addr)(n2 c2 m2:Nat),v = .tuple⟨[.slice a1 n1 c1,.slice a2 n2 c2]⟩/\K m2 a1 n1 c1 a2 n2 c2 h'))/\
  (k=0->FW SS 161 [.slice a n c] g(fun v h'=>v=aa(Num.toDec(Nat.gcd X Y))/\Ok h h')):=by
 obtain⟨p,rp,rq,lp,lq,hg,ok⟩:=hi
 have hk:k=(Num.toB BB mz).length:=by have:=rq.len; rwa [List.length_map] at this
 constructor
 · intro h2
  have hq0:0 < mz:=by
   rcases Nat.eq_zero_or_pos mz with e | e
   · subst e; rw [(Num.toB_eq_nil cI).2 rfl] at hk; simp at hk; omega
   · exact e
  refine(Er rp rq hq0(Nat.le_trans lp(by omega))(Nat.le_trans lq(by omega))ok.wf).mono ?_
  rintro _ h3⟨a1,n1,c1,a2,n2,c2,rfl,r1,r2,ok3⟩
  refine⟨a1,n1,c1,a2,n2,c2,p % mz,rfl,hK a1 n1 c1 a2 n2 c2(p % mz)h3(Nat.mod_lt _ hq0)⟨mz,rq.ok ok3,r2,lq,?_,?_,ok.trans ok3⟩⟩
  · exact Nat.le_trans(Nat.le_of_not_lt fun h=>by have h1:=Num.toB_len_lt cI h; have h2:=Nat.mod_lt p hq0; exact absurd h1(Nat.not_lt.2(Nat.le_of_lt h2)))lq
  · rw [<- hg,Nat.gcd_comm mz,<- Nat.gcd_rec,Nat.gcd_comm]
 · intro h2
  have hq0:mz=0:=(Num.toB_eq_nil cI).1(List.eq_nil_of_length_eq_zero(by rw [<- hk,h2]))
  subst hq0
  rw [Nat.gcd_zero_right] at hg
  subst hg
  refine(sc rp(Nat.le_trans lp(by omega))(t.ok ok)ok.wf).mono ?_
  rintro _ h4⟨rfl,ok4⟩
  exact⟨rfl,ok.trans ok4⟩
theorem Nj(a b:List UInt8){h:Heap}(t:Tab h)(w:Wf h):FW SS 143 [aa a,aa b] h(fun v h'=>v=x8 a b/\Ok h h'):=by
 refine L4 a b h _((bL a h).mono ?_)
 rintro _ g0⟨rfl,e0⟩
 obtain rfl:h=g0:=e0.symm
 refine⟨_,rfl,ae(fun g=>?_)(fun g=>?_)⟩
 · have g:Num.valid a=false:=by simpa using g
  refine⟨?_,Ok.refl w⟩
  unfold x8; rw [if_neg(fun e=>by rw [e.1] at g; cases g)]; rfl
 have g:Num.valid a=true:=by simpa using g
 refine(bL b h).mono ?_
 rintro _ g0⟨rfl,e0⟩
 obtain rfl:h=g0:=e0.symm
 refine⟨_,rfl,ae(fun g2=>?_)(fun g2=>?_)⟩
 · have g2:Num.valid b=false:=by simpa using g2
  refine⟨?_,Ok.refl w⟩
  unfold x8; rw [if_neg(fun e=>by rw [e.2] at g2; cases g2)]; rfl
 have g2:Num.valid b=true:=by simpa using g2
 obtain⟨X,ea,hX,eX⟩:=Num.valid_ex g
 obtain⟨Y,eb,hY,eY⟩:=Num.valid_ex g2
 have da:=(Num.valid_iff.1 g)
 have db:=(Num.valid_iff.1 g2)
 have lX:=kJ hX
 have lY:=kJ hY
 clear hX hY
 refine(na a da.1.2.1(Nat.le_trans da.2(by omega))h w).mono ?_
 rintro _ h1⟨a1,n1,c1,rfl,o1,ok1⟩
 refine⟨_,_,_,rfl,(na b db.1.2.1(Nat.le_trans db.2(by omega))h1 ok1.wf).mono ?_⟩
 rintro _ h2⟨a2,n2,c2,rfl,o2,ok2⟩
 refine⟨_,_,_,rfl,?_⟩
 have hS:x8 a b=BI(Num.toDec(Nat.gcd X Y))0:=by unfold x8; rw [if_pos⟨g,g2⟩,eX,eY]
 rw [hS]
 rw [eX] at o1
 rw [eY] at o2
 refine sr a b(EN h X Y)(fun v h'=>v=BI(Num.toDec(Nat.gcd X Y))0/\Ok h h')(fun mz a n c b k d=>?_)Y⟨X,o1.rd.ok ok2,o2.rd,lX,lY,rfl,ok1.trans ok2⟩
 intros; rename_i g hi
 have S:=gcd_step t hi(K:=fun m2 a1 n1 c1 a2 n2 c2 g=>m2 < mz/\EN h X Y m2 b k d a2 n2 c2 g)(fun a1 n1 c1 a2 n2 c2 m2 g h1 h2 =>⟨h1,h2⟩)(Q:=fun _ _=>True)
 refine ae(fun h2=>?_)(fun h2=>?_)
 · have h2:=of_decide_eq_true h2
  refine(S.1(by omega)).mono ?_
  rintro _ h3⟨a1,n1,c1,a2,n2,c2,m2,rfl,i1,i2⟩
  exact⟨_,_,_,_,_,_,rfl,sn m2 i1 i2⟩
 · have h2:=of_decide_eq_false h2
  refine(S.2(by omega)).mono ?_
  rintro _ h4⟨rfl,ok4⟩
  exact⟨_,rfl,rfl,ok4⟩
end Go.Proofs.YtoabjjimjldcfaaGreatDoor
end
