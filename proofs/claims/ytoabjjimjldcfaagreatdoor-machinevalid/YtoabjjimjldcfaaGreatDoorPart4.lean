/- Laws and walks that the proof leans on (part 4): P2; P3; W3; P4; W4; P5 and others. No condition. -/
import Derived.Test.YtoabjjimjldcfaaGreatDoorPart3
section
set_option linter.unusedVariables false
set_option maxRecDepth 100000
namespace Go.Proofs.YtoabjjimjldcfaaGreatDoor
open Go Go.Ab
theorem rW (z:Int):ay SS.P 48 1 [(0,.int .i64 z)]=some (.cells [.int .i64 z] 3 1 true,nq 1 1):=by kernel_rfl
theorem TN (z:Int):ay SS.P 157 1 [(0,.int .u8 z)]=some (.cells [.int .u8 z] 5 1 true,nq 1 1):=by kernel_rfl
theorem wN:SS.P.underlying 157=some (.slice 5):=by kernel_rfl
theorem Za:SS.P.underlying 5=some (.int .u8):=by kernel_rfl
theorem V3:aq SS.P 5=some 1:=by kernel_rfl
theorem Zs:Go.Ab.isAgg SS.P 5=false:=by kernel_rfl
noncomputable def re5:TypeInfo:=(dz SS.P 5).getD default
theorem UX:dz SS.P 5=some re5:=by kernel_rfl
theorem QH:re5.size=1:=by kernel_rfl
theorem LN:re5.bytes=1:=by kernel_rfl
theorem Bp {h0 h:Heap}(w0:Wf h0)(ok:Ok h0 h){v:Value}{vs:List Value}(o:OwnR h0 h 3 v vs)(z:Int)(hl:vs.length<=100000):
  ∃ (b:Option Addr)(n c:Nat)(u:Upd),aB SS.P 48 48 v (.slice (some ⟨h.next,0,none⟩) 1 1) (h.push (.cells [.int .i64 z] 3 1 true))=some (.slice b n c,u)/\n=vs.length+1/\OwnR h0 (u.app (h.push (.cells [.int .i64 z] 3 1 true))) 3 (.slice b n c) (vs++[.int .i64 z])/\Ok h0 (u.app (h.push (.cells [.int .i64 z] 3 1 true))):=
 OwnR.snoc mV OQ Hw w0 ok o rfl (by rw [Du]; omega) (by omega)
theorem K9 {h0 h:Heap}(w0:Wf h0)(ok:Ok h0 h){v:Value}{vs:List Value}(o:OwnR h0 h 5 v vs)(z:Int)(hl:vs.length<=100000):
  ∃ (b:Option Addr)(n c:Nat)(u:Upd),aB SS.P 157 157 v (.slice (some ⟨h.next,0,none⟩) 1 1) (h.push (.cells [.int .u8 z] 5 1 true))=some (.slice b n c,u)/\n=vs.length+1/\OwnR h0 (u.app (h.push (.cells [.int .u8 z] 5 1 true))) 5 (.slice b n c) (vs++[.int .u8 z])/\Ok h0 (u.app (h.push (.cells [.int .u8 z] 5 1 true))):=
 OwnR.snoc wN UX QH w0 ok o rfl (by rw [LN]; omega) (by omega)
theorem Mr (c:UInt8)(l:List UInt8):Num.digs (c::l)=Num.digs l++[Num.dv c]:=by simp [Num.digs]
theorem Do {l:List UInt8}{i:Nat}(h:i < l.length):l.drop i=l.getD i 0::l.drop (i+1):=by
 rw [gD,gE h,List.drop_eq_getElem_cons h]; rfl
theorem z1 {l:List UInt8}(hd:l.all Num.isDig=true){i:Nat}(h:i < l.length):Num.isDig (l.getD i 0)=true:=by
 rw [gD,gE h]
 exact List.all_eq_true.1 hd _ (List.getElem_mem h)
def dx (h:Heap)(e:TypeId)(vs:List Value):VH:=fun v h'=> ∃ a n c,v = .slice a n c/\OwnR h h' e (.slice a n c) vs/\Ok h h'
theorem nu (l:List UInt8)(hd:l.all Num.isDig=true)(hlen:l.length<=100000)(h:Heap)(w:Wf h):FW SS 151 [aa l] h (dx h 3 ((Num.digs l).map iv)):=by
 have L:=pH l (fun mz i a n c g=> -1<=i/\i < l.length/\mz=(i+1).toNat/\OwnR h g 3 (.slice a n c) ((Num.digs (l.drop (i+1).toNat)).map iv)/\Ok h g) (dx h 3 ((Num.digs l).map iv)) (by
  intro mz i a n c; intros; rename_i g hi
  obtain ⟨h1,h2,h3,h4,ok⟩:=hi
  refine ae (fun h5=> ?_) (fun h5=> ?_)
  ·have h5:=dT h5
   have hin:i.toNat < l.length:=by omega
   have hdig:=z1 hd hin
   have hdr:=Num.isDig_iff.1 hdig
   refine ⟨_,yf (h:=g) l h5 h2,_,_,_,rW _,?_⟩
   obtain ⟨b,m,d,u,h6,h7,h8,h9⟩:=Bp w ok h4 (IntKind.wrap .i64 (IntKind.wrap .u8 ((((l.getD i.toNat 0).toNat:Nat):Int) - 48))) (by simp [Num.digs]; omega)
   refine ⟨b,m,d,u,h6,?_⟩
   have hw:IntKind.wrap .i64 (i - 1)=i - 1:=ap (by omega) (by omega)
   refine pJ (mz - 1) (by omega) ?_
   rw [hw]
   refine ⟨by omega,by omega,by omega,?_,h9⟩
   have e1:IntKind.wrap .i64 (IntKind.wrap .u8 ((((l.getD i.toNat 0).toNat:Nat):Int) - 48))=((Num.dv (l.getD i.toNat 0):Nat):Int):=by
    rw [mU (by omega) (by omega),ap (by omega) (by omega)]
    unfold Num.dv; omega
   rw [e1] at h8
   have e2:(i - 1+1).toNat=i.toNat:=by omega
   have e3:(i+1).toNat=i.toNat+1:=by omega
   rw [e3] at h8
   rw [e1,e2,Do hin,Mr,List.map_append]
   exact h8
  ·have h5:=dF h5
   obtain rfl:i = -1:=by omega
   exact ⟨a,n,c,rfl,h4,ok⟩)
 have hw:IntKind.wrap .i64 ((l.length:Int) - 1)=(l.length:Int) - 1:=ap (by omega) (by omega)
 refine EN l h _ ?_
 refine L l.length ⟨by rw [hw]; omega,by rw [hw]; omega,by rw [hw]; omega,?_,Ok.refl w⟩
 rw [hw,show ((l.length:Int) - 1+1).toNat=l.length by omega,List.drop_length]
 exact .inl ⟨rfl,rfl⟩
theorem Be {h:Heap}{a b:Option Addr}{n c m d:Nat}{x y:List Nat}(ra:Rd h 3 (.slice a n c) (x.map iv))(rb:Rd h 3 (.slice b m d) (y.map iv))(hx: ∀ d∈x,d < 10)(hy: ∀ d∈y,d < 10)(hlen:x.length<=100000)(w:Wf h):
  FW SS 156 [.slice a n c,.slice b m d] h (dx h 3 ((Num.eachF Num.lessF x y 0 x.length 0).map iv)):=by
 have hn:n=x.length:=by have:=ra.len; rwa [lM] at this
 have hc1: ∀ k,Num.cr Num.lessF x y 0 0 k<=1:=Num.cr_le (fun p q c _=>by unfold Num.lessF; split <;> simp) x y 0 0 (by omega)
 have L:=sn a n c b m d (fun mz k cc r rn rc g=>k<=x.length/\mz=x.length - k/\cc=Num.cr Num.lessF x y 0 0 k/\OwnR h g 3 (.slice r rn rc) ((Num.eachF Num.lessF x y 0 k 0).map iv)/\Ok h g) (dx h 3 ((Num.eachF Num.lessF x y 0 x.length 0).map iv)) (by
  intro mz k cc r rn rc; intros; rename_i g hi
  obtain ⟨h1,h2,h3,h4,ok⟩:=hi
  have hcc:=hc1 k
  have hp:=Num.getD_lt (by omega) hx k
  have hq:=Num.getD_lt (by omega) hy k
  refine ae (fun h5=> ?_) (fun h5=> ?_)
  ·have h5:=dT h5
   refine (pU (ra.ok ok) k).mono ?_
   rintro _ _ ⟨rfl,rfl⟩
   refine ⟨_,rfl,(pU (rb.ok ok) k).mono ?_⟩
   rintro _ _ ⟨rfl,rfl⟩
   refine ⟨_,rfl,?_⟩
   have hw1:IntKind.wrap .i64 (((x.getD k 0:Nat):Int) - ((y.getD k 0:Nat):Int))=((x.getD k 0:Nat):Int) - ((y.getD k 0:Nat):Int):=ap (by omega) (by omega)
   have hw2:IntKind.wrap .i64 (((x.getD k 0:Nat):Int) - ((y.getD k 0:Nat):Int) - (cc:Int))=((x.getD k 0:Nat):Int) - ((y.getD k 0:Nat):Int) - (cc:Int):=ap (by omega) (by omega)
   have hw3:IntKind.wrap .i64 ((k:Int)+1)=((k+1:Nat):Int):=by rw [ap (by omega) (by omega)]; omega
   dsimp only
   rw [hw1,hw2,hw3]
   have hel:(Num.eachF Num.lessF x y 0 k 0).length=k:=Num.eachF_len _ _ _ _ _ _
   have hsn:=Num.eachF_snoc Num.lessF x y k 0 0
   have hcr:Num.cr Num.lessF x y 0 0 (k+1)=(Num.lessF (x.getD (0+k) 0) (y.getD (0+k) 0) (Num.cr Num.lessF x y 0 0 k)).2:=rfl
   rw [Nat.zero_add,<-h3] at hsn hcr
   refine ae (fun h6=> ?_) (fun h6=> ?_)
   ·have h6:=dT h6
    refine ⟨_,_,_,rW _,?_⟩
    obtain ⟨b',m',d',u,g6,g7,g8,g9⟩:=Bp w ok h4 (IntKind.wrap .i64 (((x.getD k 0:Nat):Int) - ((y.getD k 0:Nat):Int) - (cc:Int)+10)) (by rw [lM,hel]; omega)
    refine ⟨b',m',d',u,g6,?_⟩
    have e1:Num.lessF (x.getD k 0) (y.getD k 0) cc=(x.getD k 0+10 - y.getD k 0 - cc,1):=by unfold Num.lessF; rw [if_pos (by omega)]
    refine jc (cc:=1) (mz - 1) (by omega) ⟨by omega,by omega,by rw [hcr,e1],?_,g9⟩
    rw [hsn,e1,List.map_append]
    have e2:IntKind.wrap .i64 (((x.getD k 0:Nat):Int) - ((y.getD k 0:Nat):Int) - (cc:Int)+10)=((x.getD k 0+10 - y.getD k 0 - cc:Nat):Int):=by rw [ap (by omega) (by omega)]; omega
    rw [e2] at g8 ⊢
    exact g8
   ·have h6:=dF h6
    refine ⟨_,_,_,rW _,?_⟩
    obtain ⟨b',m',d',u,g6,g7,g8,g9⟩:=Bp w ok h4 (((x.getD k 0:Nat):Int) - ((y.getD k 0:Nat):Int) - (cc:Int)) (by rw [lM,hel]; omega)
    refine ⟨b',m',d',u,g6,?_⟩
    have e1:Num.lessF (x.getD k 0) (y.getD k 0) cc=(x.getD k 0 - y.getD k 0 - cc,0):=by unfold Num.lessF; rw [if_neg (by omega)]
    refine jc (cc:=0) (mz - 1) (by omega) ⟨by omega,by omega,by rw [hcr,e1],?_,g9⟩
    rw [hsn,e1,List.map_append]
    have e2:((x.getD k 0:Nat):Int) - ((y.getD k 0:Nat):Int) - (cc:Int)=((x.getD k 0 - y.getD k 0 - cc:Nat):Int):=by omega
    rw [e2] at g8 ⊢
    exact g8
  ·have h5:=dF h5
   obtain rfl:k=x.length:=by omega
   exact ⟨r,rn,rc,rfl,h4,ok⟩)
 exact JB a n c b m d h _ (L x.length (k:=0) (cc:=0) ⟨by omega,by omega,rfl,.inl ⟨rfl,rfl⟩,Ok.refl w⟩)
theorem K2 {h:Heap}{v:Value}{l:List UInt8}(r:Rd h 5 v (l.map nW)):xZ SS.P 157 9 v h=some (aa l):=RM wN RW Za r
theorem Cd {x:List Nat}{z i:Nat}(hi:i < z)(hz:z<=x.length):((x.take z).drop i).reverse=((x.take z).drop (i+1)).reverse++[x.getD i 0]:=by
 have hl:i < (x.take z).length:=by rw [List.length_take]; omega
 rw [List.drop_eq_getElem_cons hl,List.reverse_cons,List.getElem_take,gD,gE (by omega)]; rfl
theorem m7 {h:Heap}{a:Option Addr}{n c:Nat}{x:List Nat}(ra:Rd h 3 (.slice a n c) (x.map iv))(hx: ∀ d∈x,d < 10)(hlen:x.length<=100000)(w:Wf h):
  FW SS 154 [.slice a n c] h (fun v h'=>v=aa (Num.toDec (Num.bv 10 x))/\Ok h h'):=by
 have hn:n=x.length:=by have:=ra.len; rwa [lM] at this
 have L2:=fun (zN:Nat) (hz:zN<=x.length) (hz1:0 < x.length->0 < zN) (hf:0 < x.length->Num.txt (x.take zN)=Num.toDec (Num.bv 10 x))=>rZ a n c (fun mz i r rn rc g=> -1<=i/\i < (zN:Int)/\mz=(i+1).toNat/\OwnR h g 5 (.slice r rn rc) ((((x.take zN).drop (i+1).toNat).reverse.map Num.dig).map nW)/\Ok h g) (fun v h'=>v=aa (Num.toDec (Num.bv 10 x))/\Ok h h') (by
  intro mz i r rn rc; intros; rename_i g hi
  obtain ⟨h1,h2,h3,h4,ok⟩:=hi
  refine ae (fun h5=> ?_) (fun h5=> ?_)
  ·have h5:=dT h5
   obtain ⟨p,g2,g3⟩:=(ra.ok ok).at_ mV TI KF Kv (k:= .i64) (i:=i) h5 (by rw [lM]; omega)
   rw [ob x i.toNat (by omega)] at g3
   refine ⟨p,g2,_,g3,_,_,_,TN _,?_⟩
   have hd:=Num.getD_lt (by omega) hx i.toNat
   obtain ⟨b,m,d,u,g6,g7,g8,g9⟩:=K9 w ok h4 (IntKind.wrap .u8 (IntKind.wrap .i64 (48+((x.getD i.toNat 0:Nat):Int)))) (by simp; omega)
   refine ⟨b,m,d,u,g6,?_⟩
   have hw:IntKind.wrap .i64 (i - 1)=i - 1:=ap (by omega) (by omega)
   refine rx (mz - 1) (by omega) ?_
   rw [hw]
   refine ⟨by omega,by omega,by omega,?_,g9⟩
   rw [show (i - 1+1).toNat=i.toNat by omega,Cd (by omega) hz,List.map_append,List.map_append]
   rw [show (i+1).toNat=i.toNat+1 by omega] at g8
   have e1:nW (Num.dig (x.getD i.toNat 0)) = .int .u8 (IntKind.wrap .u8 (IntKind.wrap .i64 (48+((x.getD i.toNat 0:Nat):Int)))):=by
    unfold nW
    rw [Num.toNat_dig hd,ap (by omega) (by omega),mU (by omega) (by omega)]
    first | rfl | (congr 1; omega)
   show OwnR h _ 5 _ (_++[nW (Num.dig (x.getD i.toNat 0))])
   rw [e1]
   exact g8
  ·have h5:=dF h5
   obtain rfl:i = -1:=by omega
   have e0:((-1:Int)+1).toNat=0:=rfl
   rw [e0,List.drop_zero] at h4
   have hrn:=h4.len
   simp only [lM,List.length_reverse,List.length_take] at hrn
   refine ae (fun h6=> ?_) (fun h6=> ?_)
   ·have h6:(rn:Int)=0:=by simpa using h6
    have hx0:x=[]:=by
     rcases Nat.eq_zero_or_pos x.length with e | e
     ·exact List.eq_nil_of_length_eq_zero e
     ·have:=hz1 e; omega
    subst hx0
    exact ⟨by rw [show Num.bv 10 []=0 from rfl,Num.toDec_zero],ok⟩
   ·have h6: ¬ (rn:Int)=0:=by simpa using h6
    have hx0:0 < x.length:=by omega
    have:=K2 h4.rd
    rw [show ((x.take zN).reverse.map Num.dig)=Num.txt (x.take zN) from rfl,hf hx0] at this
    exact ⟨_,this,rfl,ok⟩)
 have start2: ∀ (zN:Nat),OwnR h h 5 (.slice none 0 0) ((((x.take zN).drop ((zN:Int) - 1+1).toNat).reverse.map Num.dig).map nW):=fun zN=>by
  rw [show ((zN:Int) - 1+1).toNat=zN by omega,List.drop_of_length_le (by rw [List.length_take]; omega)]
  exact .inl ⟨rfl,rfl⟩
 have L1:=rF a n c (fun mz z g=>0<=z/\z<=x.length/\mz=z.toNat/\(0 < x.length->0 < z)/\(∀ j:Nat,z<=j->x.getD j 0=0)/\g=h) (fun v h'=>v=aa (Num.toDec (Num.bv 10 x))/\Ok h h') (by
  intro mz z; intros; rename_i g hi
  obtain ⟨h1,h2,h3,h4,h5,rfl⟩:=hi
  obtain ⟨zN,rfl⟩: ∃ zN:Nat,z=zN:=⟨z.toNat,by omega⟩
  have hw:IntKind.wrap .i64 ((zN:Int) - 1)=(zN:Int) - 1:=ap (by omega) (by omega)
  have leave:(1 < zN->x.getD (zN - 1) 0≠0)->0 < x.length->Num.txt (x.take zN)=Num.toDec (Num.bv 10 x):=fun hl hp=>by
   rw [<-Num.bv_take_zero (l:=x) (n:=zN) (fun j hj=>h5 j (by omega))]
   refine Num.txt_dec (fun d hd=>hx d (List.mem_of_mem_take hd)) (fun e=> ?_) (fun h7=> ?_)
   ·have:=congrArg List.length e
    rw [List.length_take] at this
    have h9:min zN x.length=0:=this
    have:=h4 hp
    omega
   ·rw [List.length_take] at h7
    have h8:=hl (by omega)
    rw [List.getLast?_eq_getElem?,List.length_take,List.getElem?_take,if_pos (by omega)]
    rw [gD,gE (by omega)] at h8
    rw [show min zN x.length - 1=zN - 1 by omega,gE (by omega)]
    simpa using h8
  refine ae (fun h6=> ?_) (fun h6=> ?_)
  ·have h6:=dT h6
   rw [hw]
   obtain ⟨p,g2,g3⟩:=ra.at_ mV TI KF Kv (k:= .i64) (i:=(zN:Int) - 1) (by omega) (by rw [lM]; omega)
   rw [ob x _ (by omega),show ((zN:Int) - 1).toNat=zN - 1 by omega] at g3
   refine ⟨p,g2,_,g3,ae (fun h7=> ?_) (fun h7=> ?_)⟩
   ·have h7:((x.getD (zN - 1) 0:Nat):Int)=0:=by simpa using h7
    refine ry (mz - 1) (by omega) ⟨by omega,by omega,by omega,fun _=>by omega,fun j hj=> ?_,rfl⟩
    rcases Nat.lt_or_ge j zN with h8 | h8
    ·obtain rfl:j=zN - 1:=by omega
     omega
    ·exact h5 j (by omega)
   ·have h7: ¬ ((x.getD (zN - 1) 0:Nat):Int)=0:=by simpa using h7
    exact L2 zN (by omega) (fun hp=>by have:=h4 hp; omega) (leave fun _=>by omega) zN ⟨by omega,by omega,by omega,start2 zN,Ok.refl w⟩
  ·have h6:=dF h6
   rw [hw]
   exact L2 zN (by omega) (fun hp=>by have:=h4 hp; omega) (leave fun hh=>by omega) zN ⟨by omega,by omega,by omega,start2 zN,Ok.refl w⟩)
 refine IM a n c h _ (L1 n (z:=(n:Int)) ⟨by omega,by omega,by omega,fun hp=>by omega,fun j hj=> ?_,rfl⟩)
 rw [gD,List.getElem?_eq_none (by omega)]; rfl
noncomputable def dQ:Code:=(Tryz.f150.body).getD .skip
noncomputable def jI (Q:VH):aj:=cE SS Tryz.f150.results.toList Q
def lO:List Nat:=[0,1,7,8,9,10,11]
noncomputable def jb (p:List Nat)(w:LV)(h:Heap)(Q:aj):Prop:=bp SS Tryz.f150.ntmps lO (aP p dQ) w h Q
noncomputable def ey (p b:List Nat)(K:aj):aj:=ky SS Tryz.f150.ntmps lO p (aP b dQ) K
abbrev Pf (a b:LB)(h:Heap)(Q:VH):Prop:=FW SS 149 [(aa a)] h fun v1 h2=>yB v1 fun b3=>aw (!b3) (Q (.tuple ⟨[(aa []),(aa []),(.int .i64 1)]⟩) h2) (FW SS 149 [(aa b)] h2 fun v4 h5=>yB v4 fun b6=>aw (!b6) (Q (.tuple ⟨[(aa []),(aa []),(.int .i64 1)]⟩) h5) (aw ((b:LB) == [48]) (Q (.tuple ⟨[(aa []),(aa []),(.int .i64 4)]⟩) h5) (jb [1,1,1,1,1,0,1,0,0] [(aa a),(aa b),nA,(aa [48]),(.int .i64 0),undef,undef] h5 (ey [1,1,1,1,1,0,1,0] [] (jI Q)))))
theorem MQ (a b:LB)(h:Heap)(Q:VH)(hx:Pf a b h Q):FW SS 150 [(aa a),(aa b)] h Q:=ax (M:=lO) (c:=dQ) Tryz.func150 (show Tryz.f150.body=some dQ by kernel_rfl) (by kernel_rfl) (ai hx (by kernel_rfl))
abbrev jk (a b:LB)  (k:Nat) (r:LB) (q:OA) (qn:Nat) (qc:Nat) (y10 y11:Value):LV:=[(aa a),(aa b),(.slice q qn qc),(aa r),(iA k),y10,y11]
def cU (a b:LB)  (Inv:Nat->Nat->LB->OA->Nat->Nat->Heap->Prop) (mz:Nat) (w:LV) (h:Heap):Prop:= ∃ (k:Nat)(r:LB)(q:OA)(qn:Nat)(qc:Nat)(y10 y11:Value),w=(jk a b k r q qn qc y10 y11)/\Inv mz k r q qn qc h
abbrev Bi (a b:LB)  (Inv:Nat->Nat->LB->OA->Nat->Nat->Heap->Prop) (Q:VH) (mz:Nat) (k:Nat) (r:LB) (q:OA) (qn:Nat) (qc:Nat) (y10 y11:Value) (zz:Nat->Value) (h:Heap):Prop:=aw (decide (((k:Int):Int) < ((a:LB).length:Int))) (aw ((r:LB) == [48]) (xS (aL SS.P 9 (aa a) (some (iA k)) (some (.int .i64 (IntKind.wrap .i64 ((k:Int)+1)))) none h) fun l7=>jb [1,1,1,1,1,0,1,0,0,1,0,0,1,1,0,0,0] [(aa a),(aa b),(.slice q qn qc),(aa l7),(iA k),(.int .u8 48),y11] h (ey [1,0,0,1,1,0,0] [1,1,1,1,1,0,1,0,0] (aT lO (cU a b Inv) mz (ey [1,1,1,1,1,0,1,0] [] (jI Q))))) (xS (aL SS.P 9 (aa a) (some (iA k)) (some (.int .i64 (IntKind.wrap .i64 ((k:Int)+1)))) none h) fun l8=>xS (am SS.P .add 9 (aa r) (aa l8)) fun l9=>jb [1,1,1,1,1,0,1,0,0,1,0,0,1,1,0,0,0] [(aa a),(aa b),(.slice q qn qc),(aa l9),(iA k),(.int .u8 48),y11] h (ey [1,0,0,1,1,0,0] [1,1,1,1,1,0,1,0,0] (aT lO (cU a b Inv) mz (ey [1,1,1,1,1,0,1,0] [] (jI Q)))))) (jb [1,1,1,1,1,1,1,0,0,0] [(aa a),(aa b),(.slice q qn qc),(aa r),(iA k),y10,(.int .i64 0)] h (ey [1,1,1,1,1,1,1,0,0] [] (jI Q)))
theorem ua {a b:LB}  {Inv:Nat->Nat->LB->OA->Nat->Nat->Heap->Prop} {mz:Nat} (mq:Nat) {k:Nat} {r:LB} {q:OA} {qn:Nat} {qc:Nat} {y10 y11:Value} {h:Heap} (hm:mq < mz) (hi:Inv mq k r q qn qc h):ak (cU a b Inv) mz (jk a b k r q qn qc y10 y11) h:=⟨mq,hm,k,r,q,qn,qc,y10,y11,rfl,hi⟩
theorem tD (a b:LB)  (Inv:Nat->Nat->LB->OA->Nat->Nat->Heap->Prop) (Q:VH) (step: ∀ (mz:Nat)(k:Nat)(r:LB)(q:OA)(qn:Nat)(qc:Nat)(y10 y11:Value)(zz:Nat->Value)(h:Heap),Inv mz k r q qn qc h->Bi a b Inv Q mz k r q qn qc y10 y11 zz h) (mz:Nat) {k:Nat} {r:LB} {q:OA} {qn:Nat} {qc:Nat} {y10 y11:Value} {h:Heap} (hi:Inv mz k r q qn qc h):jb [1,1,1,1,1,0,1,0,0] (jk a b k r q qn qc y10 y11) h (ey [1,1,1,1,1,0,1,0] [] (jI Q)):=
 an (A:=(cU a b Inv)) (show aF Tryz.f150.ntmps (aP [1,1,1,1,1,0,1,0,0] dQ)=true by kernel_rfl) (fun mz w zz h ⟨k,r,q,qn,qc,y10,y11,hw,hi⟩=>by subst hw; exact ai (step mz k r q qn qc y10 y11 zz h hi) (by kernel_rfl)) mz _ h ⟨k,r,q,qn,qc,y10,y11,rfl,hi⟩ (fun zz=>by kernel_rfl) (by kernel_rfl)
abbrev jV (a b:LB)(k:Nat)(q:OA)(qn qc:Nat)(r:LB)(d:Int)(y11:Value):LV:=[(aa a),(aa b),(.slice q qn qc),(aa r),(iA k),(.int .u8 d),y11]
def jE (a b:LB)(k:Nat)(q:OA)(qn qc:Nat)(Inv2:Nat->LB->Int->Heap->Prop)(mz2:Nat)(w:LV)(h:Heap):Prop:= ∃ (r:LB)(d:Int)(y11:Value),w=(jV a b k q qn qc r d y11)/\Inv2 mz2 r d h
abbrev zo (a b:LB)(Inv:Nat->Nat->LB->OA->Nat->Nat->Heap->Prop)(mz k:Nat)(q:OA)(qn qc:Nat)(Inv2:Nat->LB->Int->Heap->Prop)(Q:VH)(mz2:Nat)(r:LB)(d:Int)(y11:Value)(zz:Nat->Value)(h:Heap):Prop:=FW SS 155 [(aa r),(aa b)] h fun v10 h11=>yI .i64 v10 fun n12=>aw (decide ((n12:Int)>=0)) (FW SS 151 [(aa r)] h11 fun v13 h14=>yL v13 fun a15 n16 c17=>FW SS 151 [(aa b)] h14 fun v18 h19=>yL v18 fun a20 n21 c22=>FW SS 156 [(.slice a15 n16 c17),(.slice a20 n21 c22)] h19 fun v23 h24=>yL v23 fun a25 n26 c27=>FW SS 154 [(.slice a25 n26 c27)] h24 fun v28 h29=>yS v28 fun l30=>ak (jE a b k q qn qc Inv2) mz2 [(aa a),(aa b),(.slice q qn qc),(aa l30),(iA k),(.int .u8 (IntKind.wrap .u8 (d+1))),y11] h29) (xR (ay SS.P 157 1 [(0,(.int .u8 d))]) h11 fun B31 n32 c33 g34=>xE (aB SS.P 157 157 (.slice q qn qc) (sA (h11.next) n32 c33) g34) g34 fun a35 n36 c37 u38 g39=>ak (cU a b Inv) mz [(aa a),(aa b),(.slice a35 n36 c37),(aa r),(.int .i64 (IntKind.wrap .i64 ((k:Int)+1))),(.int .u8 d),y11] g39)
theorem tV {a b:LB}{k:Nat}{q:OA}{qn qc:Nat}{Inv2:Nat->LB->Int->Heap->Prop}{mz2:Nat}(mq:Nat){r:LB}{d:Int}{y11:Value}{h:Heap}(hm:mq < mz2)(hi:Inv2 mq r d h):ak (jE a b k q qn qc Inv2) mz2 (jV a b k q qn qc r d y11) h:=⟨mq,hm,r,d,y11,rfl,hi⟩
theorem sH (a b:LB)(Inv:Nat->Nat->LB->OA->Nat->Nat->Heap->Prop)(mz k:Nat)(q:OA)(qn qc:Nat)(Inv2:Nat->LB->Int->Heap->Prop)(Q:VH)(step: ∀ (mz2:Nat) (r:LB) (d:Int) (y11:Value) (zz:Nat->Value) (h:Heap),Inv2 mz2 r d h->zo a b Inv mz k q qn qc Inv2 Q mz2 r d y11 zz h)(mz2:Nat){r:LB}{d:Int}{y11:Value}{h:Heap}(hi:Inv2 mz2 r d h):jb [1,1,1,1,1,0,1,0,0,1,0,0,1,1,0,0,0] (jV a b k q qn qc r d y11) h (ey [1,0,0,1,1,0,0] [1,1,1,1,1,0,1,0,0] (aT lO (cU a b Inv) mz (ey [1,1,1,1,1,0,1,0] [] (jI Q)))):=
 an (A:=(jE a b k q qn qc Inv2)) (show aF Tryz.f150.ntmps (aP [1,1,1,1,1,0,1,0,0,1,0,0,1,1,0,0,0] dQ)=true by kernel_rfl) (fun mz2 w zz h ⟨r,d,y11,hw,hi⟩=>by subst hw; exact ai (step mz2 r d y11 zz h hi) (by kernel_rfl)) mz2 _ h ⟨r,d,y11,rfl,hi⟩ (fun zz=>by kernel_rfl) (by kernel_rfl)
abbrev jY (a b:LB)(r:LB)(q:OA)(qn qc:Nat)(z:Nat)(y9 y10:Value):LV:=[(aa a),(aa b),(.slice q qn qc),(aa r),y9,y10,(iA z)]
def jl (a b:LB)(r:LB)(q:OA)(qn qc:Nat)(Inv:Nat->Nat->Heap->Prop)(mz:Nat)(w:LV)(h:Heap):Prop:= ∃ (z:Nat)(y9 y10:Value),w=(jY a b r q qn qc z y9 y10)/\Inv mz z h
abbrev pq (a b:LB)(r:LB)(q:OA)(qn qc:Nat)(Inv:Nat->Nat->Heap->Prop)(Q:VH)(mz:Nat)(z:Nat)(y9 y10:Value)(zz:Nat->Value)(h:Heap):Prop:=aw (decide (((z:Int):Int) < IntKind.wrap .i64 ((qn:Int) - 1))) (xP (af SS.P 157 (.slice q qn qc) (iA z)) fun p40=>xI .u8 (ah SS.P 5 h (.pointer (some p40))) fun n41=>aw (((n41:Int) == 48)) (ak (jl a b r q qn qc Inv) mz [(aa a),(aa b),(.slice q qn qc),(aa r),y9,y10,(.int .i64 (IntKind.wrap .i64 ((z:Int)+1)))] h) (xL (aL SS.P 157 (.slice q qn qc) (some (iA z)) none none h) fun a42 n43 c44=>xS (xZ SS.P 157 9 (.slice a42 n43 c44) h) fun l45=>Q (.tuple ⟨[(aa l45),(aa r),(.int .i64 0)]⟩) h)) (xL (aL SS.P 157 (.slice q qn qc) (some (iA z)) none none h) fun a46 n47 c48=>xS (xZ SS.P 157 9 (.slice a46 n47 c48) h) fun l49=>Q (.tuple ⟨[(aa l49),(aa r),(.int .i64 0)]⟩) h)
theorem tH {a b:LB}{r:LB}{q:OA}{qn qc:Nat}{Inv:Nat->Nat->Heap->Prop}{mz:Nat}(mq:Nat){z:Nat}{y9 y10:Value}{h:Heap}(hm:mq < mz)(hi:Inv mq z h):ak (jl a b r q qn qc Inv) mz (jY a b r q qn qc z y9 y10) h:=⟨mq,hm,z,y9,y10,rfl,hi⟩
theorem tw (a b:LB)(r:LB)(q:OA)(qn qc:Nat)(Inv:Nat->Nat->Heap->Prop)(Q:VH)(step: ∀ (mz:Nat) (z:Nat) (y9 y10:Value) (zz:Nat->Value) (h:Heap),Inv mz z h->pq a b r q qn qc Inv Q mz z y9 y10 zz h)(mz:Nat){z:Nat}{y9 y10:Value}{h:Heap}(hi:Inv mz z h):jb [1,1,1,1,1,1,1,0,0,0] (jY a b r q qn qc z y9 y10) h (ey [1,1,1,1,1,1,1,0,0] [] (jI Q)):=
 an (A:=(jl a b r q qn qc Inv)) (show aF Tryz.f150.ntmps (aP [1,1,1,1,1,1,1,0,0,0] dQ)=true by kernel_rfl) (fun mz w zz h ⟨z,y9,y10,hw,hi⟩=>by subst hw; exact ai (step mz z y9 y10 zz h hi) (by kernel_rfl)) mz _ h ⟨z,y9,y10,rfl,hi⟩ (fun zz=>by kernel_rfl) (by kernel_rfl)
noncomputable def ig:Code:=(Tryz.f128.body).getD .skip
noncomputable def GM (Q:VH):aj:=cE SS Tryz.f128.results.toList Q
def zw:List Nat:=[0,1]
noncomputable def GK (p:List Nat)(w:LV)(h:Heap)(Q:aj):Prop:=bp SS Tryz.f128.ntmps zw (aP p ig) w h Q
noncomputable def HR (p b:List Nat)(K:aj):aj:=ky SS Tryz.f128.ntmps zw p (aP b ig) K
abbrev Pt (a b:LB)(h:Heap)(Q:VH):Prop:=FW SS 149 [(aa a)] h fun v1 h2=>yB v1 fun b3=>aw (!b3) (Q (.tuple ⟨[(aa []),(.int .i64 1)]⟩) h2) (FW SS 149 [(aa b)] h2 fun v4 h5=>yB v4 fun b6=>aw (!b6) (Q (.tuple ⟨[(aa []),(.int .i64 1)]⟩) h5) (GK [1,1,0,0,0] [(aa a),(aa b)] h5 (HR [1,1,0,0] [] (GM Q))))
theorem LI (a b:LB)(h:Heap)(Q:VH)(hx:Pt a b h Q):FW SS 128 [(aa a),(aa b)] h Q:=ax (M:=zw) (c:=ig) Tryz.func128 (show Tryz.f128.body=some ig by kernel_rfl) (by kernel_rfl) (ai hx (by kernel_rfl))
abbrev jR (a b:LB)  (x:LB) (y:LB)  : LV:=[(aa x),(aa y)]
def ki (a b:LB)  (Inv:Nat->LB->LB->Heap->Prop) (mz:Nat) (w:LV) (h:Heap):Prop:= ∃ (x:LB)(y:LB) ,w=(jR a b x y )/\Inv mz x y h
abbrev AY (a b:LB)  (Inv:Nat->LB->LB->Heap->Prop) (Q:VH) (mz:Nat) (x:LB) (y:LB)  (zz:Nat->Value) (h:Heap):Prop:=aw (!((y:LB) == [48])) (FW SS 150 [(aa x),(aa y)] h fun v7 h8=> ∃ l9:LB,∃ l10:LB,∃ n11:Int,v7=(.tuple ⟨[(aa l9),(aa l10),(.int .i64 n11)]⟩)/\ak (ki a b Inv) mz [(aa y),(aa l10)] h8) (Q (.tuple ⟨[(aa x),(.int .i64 0)]⟩) h)
theorem tC {a b:LB}  {Inv:Nat->LB->LB->Heap->Prop} {mz:Nat} (mq:Nat) {x:LB} {y:LB}  {h:Heap} (hm:mq < mz) (hi:Inv mq x y h):ak (ki a b Inv) mz (jR a b x y ) h:=⟨mq,hm,x,y,rfl,hi⟩
theorem sK (a b:LB)  (Inv:Nat->LB->LB->Heap->Prop) (Q:VH) (step: ∀ (mz:Nat)(x:LB)(y:LB)  (zz:Nat->Value) (h:Heap),Inv mz x y h->AY a b Inv Q mz x y  zz h) (mz:Nat) {x:LB} {y:LB}  {h:Heap} (hi:Inv mz x y h):GK [1,1,0,0,0] (jR a b x y ) h (HR [1,1,0,0] [] (GM Q)):=
 an (A:=(ki a b Inv)) (show aF Tryz.f128.ntmps (aP [1,1,0,0,0] ig)=true by kernel_rfl) (fun mz w zz h ⟨x,y,hw,hi⟩=>by subst hw; exact ai (step mz x y  zz h hi) (by kernel_rfl)) mz _ h ⟨x,y,rfl,hi⟩ (fun zz=>by kernel_rfl) (by kernel_rfl)
theorem OV (l:List UInt8){h:Heap}{a b:Nat}(h1:a<=b)(h2:b<=l.length):aL SS.P 9 (aa l) (some (.int .i64 (a:Int))) (some (.int .i64 (b:Int))) none h=some (aa ((l.drop a).take (b - a))):=iY RW l rfl rfl h1 h2
theorem N7 {l:List UInt8}{k:Nat}(h:k < l.length):(l.drop k).take (k+1 - k)=[l.getD k 0]:=by
 rw [Do h,show k+1 - k=1 by omega]; rfl
theorem ce {n:Nat}(h:n < 10 ^ 1000):(Num.toDec n).length<=1000:=(Num.toDec_len_le (by omega)).2 h
theorem getE {l:List UInt8}{k:Nat}(h:k < l.length):l[k]?=some (l.getD k 0):=by
 rw [gD,gE h]; rfl
def DG (a b:List UInt8)(e:Int):Value:= .tuple ⟨[aa a,aa b,.int .i64 e]⟩
theorem Ml (m n:Nat)(hm:m < 10 ^ 1000)(hn:n < 10 ^ 1000)(hn0:0 < n)(h:Heap)(w:Wf h):FW SS 150 [aa (Num.toDec m),aa (Num.toDec n)] h (fun v h'=>v=DG (Num.toDec (m / n)) (Num.toDec (m % n)) 0/\Ok h h'):=by
 have hma:=ce hm
 have hna:=ce hn
 have hda:=Num.toDec_all m
 generalize ha:Num.toDec m=a at *
 have hva:Num.val a=m:=by rw [<-ha,Num.val_toDec]
 have hne: ¬ Num.toDec n=[48]:=fun e=>by have:=Num.toDec_eq_zero.1 e; omega
 have L3:=fun (g0:Heap) (r:List UInt8) (q:Option Addr) (qn qc:Nat) (qs:List UInt8) (ho:OwnR h g0 5 (.slice q qn qc) (qs.map nW)) (hq:qs.all Num.isDig=true) (hq0:0 < qs.length) (hql:qs.length<=1000) (hqv:Num.val qs=m / n) (hr:r=Num.toDec (m % n)) (ok:Ok h g0)=>
  tw a (Num.toDec n) r q qn qc (fun mz z g=>z+1<=qs.length/\mz=qs.length - z/\(∀ i,i < z->qs[i]?=some 48)/\g=g0) (fun v h'=>v=DG (Num.toDec (m / n)) (Num.toDec (m % n)) 0/\Ok h h') (by
  intro mz z; intros; rename_i g hi
  obtain ⟨h1,h2,h3,rfl⟩:=hi
  have hqn:qn=qs.length:=by have:=ho.len; rwa [lM] at this
  have hw:IntKind.wrap .i64 ((qn:Int) - 1)=(qn:Int) - 1:=ap (by omega) (by omega)
  have hw2:IntKind.wrap .i64 ((z:Int)+1)=((z+1:Nat):Int):=by rw [ap (by omega) (by omega)]; omega
  have fin:(z+1 < qs.length->qs[z]?≠some 48)-> ∃ (a40:Option Addr)(n41 c42:Nat),aL SS.P 157 (.slice q qn qc) (some (.int .i64 (z:Int))) none none g=some (.slice a40 n41 c42)/\ ∃ l43:List UInt8,xZ SS.P 157 9 (.slice a40 n41 c42) g=some (aa l43)/\(DG l43 r 0=DG (Num.toDec (m / n)) (Num.toDec (m % n)) 0/\Ok h g):=fun hs=>by
   obtain ⟨a',n',c',g1,g2⟩:=ho.from_ wN V3 (z:=z) (by rw [lM]; omega)
   rw [<-List.map_drop] at g2
   refine ⟨a',n',c',g1,_,K2 g2,?_,ok⟩
   rw [Num.strip_dec hq (by omega) h3 hs,hqv,hr]
  unfold pq
  rw [hw,hw2]
  refine ae (fun h5=> ?_) (fun h5=> ?_)
  ·have h5:=dT h5
   obtain ⟨p,g2,g3⟩:=ho.rd.at_ wN V3 Za Zs (k:= .i64) (i:=(z:Int)) (by omega) (by rw [lM]; omega)
   have e1:(qs.map nW).getD ((z:Int)).toNat undef = .int .u8 ((qs.getD z 0).toNat:Nat):=by
    rw [Int.toNat_natCast,gD,List.getElem?_map,getE (by omega)]; rfl
   rw [e1] at g3
   refine ⟨p,g2,_,g3,ae (fun h6=> ?_) (fun h6=> ?_)⟩
   ·have h6:=u8_eq.1 h6
    refine tH (mz - 1) (by omega) ⟨by omega,by omega,fun i hi=> ?_,rfl⟩
    rcases Nat.lt_or_ge i z with h7 | h7
    ·exact h3 i h7
    ·obtain rfl:i=z:=by omega
     rw [getE (by omega),h6]
   ·exact fin fun _ e=>by
     rw [getE (by omega)] at e
     rw [u8_eq.2 (oI e)] at h6; cases h6
  ·have h5:=dF h5
   exact fin fun hh=>by omega)
 have L1:=tD a (Num.toDec n) (fun mz k r q qn qc g=>k<=a.length/\mz=a.length - k/\r=Num.toDec (Num.val (a.take k) % n)/\(∃ qs:List UInt8,qs.length=k/\qs.all Num.isDig=true/\Num.val qs=Num.val (a.take k) / n/\OwnR h g 5 (.slice q qn qc) (qs.map nW))/\Ok h g) (fun v h'=>v=DG (Num.toDec (m / n)) (Num.toDec (m % n)) 0/\Ok h h') (by
  intro mz k r q qn qc; intros; rename_i g hi
  obtain ⟨h1,h2,hr,⟨qs,hq1,hq2,hq3,ho⟩,ok⟩:=hi
  refine ae (fun h5=> ?_) (fun h5=> ?_)
  ·have h5:=dT h5
   have hin:k < a.length:=by omega
   have hdig:=z1 hda hin
   have hdv:=Num.dv_lt hdig
   have hmod:=Nat.mod_lt (Num.val (a.take k)) hn0
   have hw2:IntKind.wrap .i64 ((k:Int)+1)=((k+1:Nat):Int):=by rw [ap (by omega) (by omega)]; omega
   have htk:Num.val (a.take (k+1))=10*Num.val (a.take k)+Num.dv (a.getD k 0):=Num.val_take_succ (getE hin)
   have hpush:=Num.toDec_push (r:=Num.val (a.take k) % n) hdig
   have L2:=sH a (Num.toDec n) (fun mz k r q qn qc g=>k<=a.length/\mz=a.length - k/\r=Num.toDec (Num.val (a.take k) % n)/\(∃ qs:List UInt8,qs.length=k/\qs.all Num.isDig=true/\Num.val qs=Num.val (a.take k) / n/\OwnR h g 5 (.slice q qn qc) (qs.map nW))/\Ok h g) mz k q qn qc
    (fun mz2 r d g2=> ∃ j:Nat,d=48+(j:Int)/\j*n<=10*(Num.val (a.take k) % n)+Num.dv (a.getD k 0)/\r=Num.toDec (10*(Num.val (a.take k) % n)+Num.dv (a.getD k 0) - j*n)/\mz2=10*(Num.val (a.take k) % n)+Num.dv (a.getD k 0) - j*n/\Ok g g2) (fun v h'=>v=DG (Num.toDec (m / n)) (Num.toDec (m % n)) 0/\Ok h h') (by
    intro mz2 r2 d; intros; rename_i g2 hi2
    obtain ⟨j,rfl,hj1,rfl,hj2,ok2⟩:=hi2
    have hj9:=Num.div_digit hn0 hdv hj1
    generalize hR:10*(Num.val (a.take k) % n)+Num.dv (a.getD k 0)=R at *
    have hRl:(Num.toDec (R - j*n)).length<=1001:=by
     have h10:=Num.toDec_lt_pow n
     refine Nat.le_trans ((Num.toDec_len_le (k:=(Num.toDec n).length+1) (by omega)).2 ?_) (by omega)
     rw [Nat.pow_succ]
     generalize 10 ^ (Num.toDec n).length=T at h10
     clear hn hm
     omega
    have okg:=ok.trans ok2
    refine (lI (R - j*n) n (by omega) (by omega) g2 okg.wf).mono ?_
    rintro _ g3 ⟨rfl,ok3⟩
    refine ⟨_,rfl,ae (fun h6=> ?_) (fun h6=> ?_)⟩
    ·have h6:=Num.cmpN_ge.1 (dT h6)
     refine (nu _ (Num.toDec_all _) (by omega) g3 ok3.wf).mono ?_
     rintro _ g4 ⟨a1,n1,c1,rfl,o1,ok4⟩
     refine ⟨a1,n1,c1,rfl,(nu _ (Num.toDec_all _) (by omega) g4 ok4.wf).mono ?_⟩
     rintro _ g5 ⟨a2,n2,c2,rfl,o2,ok5⟩
     refine ⟨a2,n2,c2,rfl,(Be (o1.rd.ok ok5) o2.rd (Num.digs_lt (Num.toDec_all _)) (Num.digs_lt (Num.toDec_all _)) (by rw [Num.digs_len]; omega) ok5.wf).mono ?_⟩
     rintro _ g6 ⟨a3,n3,c3,rfl,o3,ok6⟩
     refine ⟨a3,n3,c3,rfl,(m7 o3.rd (Num.less_lt (Num.digs_lt (Num.toDec_all _)) (Num.digs_lt (Num.toDec_all _)) _ _ _ (by omega)) (by rw [Num.eachF_len,Num.digs_len]; omega) ok6.wf).mono ?_⟩
     rintro _ g7 ⟨rfl,ok7⟩
     have hle:(Num.toDec n).length<=(Num.toDec (R - j*n)).length:=by
      rcases Nat.lt_or_ge (Num.toDec (R - j*n)).length (Num.toDec n).length with h7 | h7
      ·have:=Num.toDec_len_lt h7; omega
      ·exact h7
     have hbv:=Num.less_bv (Num.digs_lt (Num.toDec_all (R - j*n))) (Num.digs_lt (Num.toDec_all n)) (by rw [Num.digs_len,Num.digs_len]; exact hle) (by rw [Num.bv_digs,Num.bv_digs,Num.val_toDec,Num.val_toDec]; exact h6)
     rw [Num.bv_digs,Num.bv_digs,Num.val_toDec,Num.val_toDec] at hbv
     rw [hbv]
     refine ⟨_,rfl,?_⟩
     have hw3:IntKind.wrap .u8 (48+(j:Int)+1)=48+((j+1:Nat):Int):=by rw [mU (by omega) (by omega)]; omega
     rw [hw3]
     have e1:(j+1)*n=j*n+n:=Nat.succ_mul j n
     exact tV (R - j*n - n) (by clear hn hm; omega) ⟨j+1,rfl,by rw [e1]; clear hn hm; omega,by rw [e1,Nat.sub_sub],by rw [e1,Nat.sub_sub],((((ok2.trans ok3).trans ok4).trans ok5).trans ok6).trans ok7⟩
    ·have h6: ¬ (n<=R - j*n):=fun e=>by have:=dF h6; exact this (Num.cmpN_ge.2 e)
     have hdr:=Num.div_round (V:=Num.val (a.take k)) (d:=Num.dv (a.getD k 0)) hn0 (k:=j) (by rw [hR]; exact hj1) (by rw [hR,Nat.succ_mul]; clear hn hm; omega)
     rw [hR] at hdr
     refine ⟨_,_,_,TN _,?_⟩
     have okk:=ok.trans (ok2.trans ok3)
     obtain ⟨b,mm,dd,u,g6,g7,g8,g9⟩:=K9 w okk (ho.ok (ok2.trans ok3)) (48+(j:Int)) (by rw [lM]; omega)
     refine ⟨b,mm,dd,u,g6,?_⟩
     rw [hw2]
     refine ua (mz - 1) (by omega) ⟨by omega,by omega,?_,⟨qs++[Num.dig j],by simp [hq1],?_,?_,?_⟩,g9⟩
     ·rw [htk,hdr.2]
     ·rw [List.all_append,hq2]; simp [Num.isDig_dig hj9]
     ·rw [Num.val_snoc,hq3,Num.dv_dig hj9,htk,hdr.1]
     ·rw [List.map_append]
      have e1:nW (Num.dig j) = .int .u8 (48+(j:Int)):=by
       unfold nW; rw [Num.toNat_dig hj9]; rfl
      show OwnR h _ 5 _ (_++[nW (Num.dig j)])
      rw [e1]; exact g8)
   have start: ∀ r',r'=Num.toDec (10*(Num.val (a.take k) % n)+Num.dv (a.getD k 0))-> ∃ j:Nat,(48:Int)=48+(j:Int)/\j*n<=10*(Num.val (a.take k) % n)+Num.dv (a.getD k 0)/\r'=Num.toDec (10*(Num.val (a.take k) % n)+Num.dv (a.getD k 0) - j*n)/\10*(Num.val (a.take k) % n)+Num.dv (a.getD k 0)=10*(Num.val (a.take k) % n)+Num.dv (a.getD k 0) - j*n/\Ok g g:=
    fun r' e=>⟨0,rfl,by rw [Nat.zero_mul]; exact Nat.zero_le _,by rw [Nat.zero_mul,Nat.sub_zero]; exact e,by rw [Nat.zero_mul,Nat.sub_zero],Ok.refl ok.wf⟩
   rw [hw2]
   refine ae (fun h6=> ?_) (fun h6=> ?_)
   ·have h6:r=[48]:=by simpa using h6
    refine ⟨_,OV a (by omega) (by omega),?_⟩
    rw [N7 hin]
    refine L2 _ (start _ ?_)
    rw [<-hpush,if_pos (by rw [<-hr]; exact h6)]
   ·have h6: ¬ r=[48]:=by simpa using h6
    refine ⟨_,OV a (by omega) (by omega),?_⟩
    rw [N7 hin]
    have hrl:r.length<=1000:=by
     rw [hr]
     exact ce (Nat.lt_trans hmod hn)
    refine ⟨_,R3 r [a.getD k 0] (by simp; omega),?_⟩
    refine L2 _ (start _ ?_)
    rw [<-hpush,if_neg (by rw [<-hr]; exact h6),hr]
  ·have h5:=dF h5
   obtain rfl:k=a.length:=by omega
   rw [List.take_length] at hq3 hr
   rw [hva] at hq3 hr
   have hal:0 < a.length:=by rw [<-ha]; exact Num.toDec_len_pos m
   exact L3 g r q qn qc qs ho hq2 (by omega) (by omega) hq3 hr ok qs.length (z:=0) ⟨by omega,by omega,fun i hi=>by omega,rfl⟩)
 refine MQ a (Num.toDec n) h _ ?_
 refine (bB a h).mono ?_
 rintro _ _ ⟨rfl,rfl⟩
 have hv1:Num.valid a=true:=by rw [<-ha]; exact Num.valid_toDec.2 hm
 have hv2:Num.valid (Num.toDec n)=true:=Num.valid_toDec.2 hn
 refine ⟨_,rfl,ae (fun h6=> ?_) (fun h6=> ?_)⟩
 ·rw [hv1] at h6; cases h6
 ·refine (bB (Num.toDec n) _).mono ?_
  rintro _ _ ⟨rfl,rfl⟩
  refine ⟨_,rfl,ae (fun h7=> ?_) (fun h7=>ae (fun h8=> ?_) (fun h8=> ?_))⟩
  ·rw [hv2] at h7; cases h7
  ·exact absurd (by simpa using h8) hne
  ·exact L1 a.length (k:=0) ⟨by omega,by omega,by rw [List.take_zero]; simp [Num.val_nil,Num.toDec_zero],⟨[],rfl,rfl,by rw [List.take_zero]; simp [Num.val_nil],.inl ⟨rfl,rfl⟩⟩,Ok.refl w⟩
def BP (a:List UInt8)(e:Int):Value:= .tuple ⟨[aa a,.int .i64 e]⟩
def ya (a b:List UInt8):Value:=if Num.valid a=true/\Num.valid b=true then BP (Num.toDec (Nat.gcd (Num.val a) (Num.val b))) 0 else BP [] 1
theorem Nn (a b:List UInt8)(h:Heap)(w:Wf h):FW SS 128 [aa a,aa b] h (fun v h'=>v=ya a b/\Ok h h'):=by
 refine LI a b h _ ?_
 refine (bB a h).mono ?_
 rintro _ _ ⟨rfl,rfl⟩
 refine ⟨_,rfl,ae (fun h6=> ?_) (fun h6=> ?_)⟩
 ·refine ⟨?_,Ok.refl w⟩
  unfold ya; rw [if_neg (fun e=>by rw [e.1] at h6; cases h6)]; rfl
 ·refine (bB b _).mono ?_
  rintro _ _ ⟨rfl,rfl⟩
  refine ⟨_,rfl,ae (fun h7=> ?_) (fun h7=> ?_)⟩
  ·refine ⟨?_,Ok.refl w⟩
   unfold ya; rw [if_neg (fun e=>by rw [e.2] at h7; cases h7)]; rfl
  ·have hva:Num.valid a=true:=by simpa using h6
   have hvb:Num.valid b=true:=by simpa using h7
   obtain ⟨m,rfl,hm,_⟩:=Num.valid_ex hva
   obtain ⟨n,rfl,hn,_⟩:=Num.valid_ex hvb
   rename_i hh _ _
   have L:=sK (Num.toDec m) (Num.toDec n) (fun mz x y g=> ∃ p q:Nat,x=Num.toDec p/\y=Num.toDec q/\p < 10 ^ 1000/\q < 10 ^ 1000/\Nat.gcd p q=Nat.gcd m n/\mz=q/\Ok hh g) (fun v h'=>v=ya (Num.toDec m) (Num.toDec n)/\Ok hh h') (by
    intro mz x y; intros; rename_i g hi
    obtain ⟨p,q,rfl,rfl,hp,hq,hg,rfl,ok⟩:=hi
    refine ae (fun h8=> ?_) (fun h8=> ?_)
    ·have h8: ¬ Num.toDec mz=[48]:=by simpa using h8
     have hq0:0 < mz:=Nat.pos_of_ne_zero fun e=>h8 (Num.toDec_eq_zero.2 e)
     refine (Ml p mz hp hq hq0 g ok.wf).mono ?_
     rintro _ g2 ⟨rfl,ok2⟩
     refine ⟨_,_,_,rfl,?_⟩
     have hlt:=Nat.mod_lt p hq0
     exact tC (p % mz) hlt ⟨mz,p % mz,rfl,rfl,hq,Nat.lt_trans hlt hq,by rw [<-Num.gcd_step]; exact hg,rfl,ok.trans ok2⟩
    ·have h8:Num.toDec mz=[48]:=by simpa using h8
     have h0:=Num.toDec_eq_zero.1 h8
     subst h0
     refine ⟨?_,ok⟩
     unfold ya
     rw [if_pos ⟨hva,hvb⟩,Num.val_toDec,Num.val_toDec,<-hg,Nat.gcd_zero_right]; rfl)
   exact L n ⟨m,n,rfl,rfl,hm,hn,rfl,rfl,Ok.refl w⟩
noncomputable def fz:Code:=(Tryz.f142.body).getD .skip
noncomputable def Dd (Q:VH):aj:=cE SS Tryz.f142.results.toList Q
def vY:List Nat:=[0]
noncomputable def CS (p:List Nat)(w:LV)(h:Heap)(Q:aj):Prop:=bp SS Tryz.f142.ntmps vY (aP p fz) w h Q
noncomputable def Dq (p b:List Nat)(K:aj):aj:=ky SS Tryz.f142.ntmps vY p (aP b fz) K
abbrev Nk (a:OA)(n c:Nat)(h:Heap)(Q:VH):Prop:=CS [1,0,0,0] [(.slice a n c)] h (Dq [1,0,0] [] (Dd Q))
theorem Bx (a:OA)(n c:Nat)(h:Heap)(Q:VH)(hx:Nk a n c h Q):FW SS 142 [(.slice a n c)] h Q:=ax (M:=vY) (c:=fz) Tryz.func142 (show Tryz.f142.body=some fz by kernel_rfl) (by kernel_rfl) (ai hx (by kernel_rfl))
abbrev ix (a:OA)(n c:Nat)  (r:OA) (m:Nat) (d:Nat)  : LV:=[(.slice r m d)]
def iG (a:OA)(n c:Nat)  (Inv:Nat->OA->Nat->Nat->Heap->Prop) (mz:Nat) (w:LV) (h:Heap):Prop:= ∃ (r:OA)(m:Nat)(d:Nat) ,w=(ix a n c r m d )/\Inv mz r m d h
abbrev iu (a:OA)(n c:Nat)  (Inv:Nat->OA->Nat->Nat->Heap->Prop) (Q:VH) (mz:Nat) (r:OA) (m:Nat) (d:Nat)  (zz:Nat->Value) (h:Heap):Prop:=aw (decide (((m:Int):Int) > 0)) (xP (af SS.P 136 (.slice r m d) (.int .i64 (IntKind.wrap .i64 ((m:Int) - 1)))) fun p1=>xI .u64 (ah SS.P 103 h (.pointer (some p1))) fun n2=>aw (((n2:Int) == 0)) (xL (aL SS.P 136 (.slice r m d) none (some (.int .i64 (IntKind.wrap .i64 ((m:Int) - 1)))) none h) fun a3 n4 c5=>ak (iG a n c Inv) mz [(.slice a3 n4 c5)] h) (Q (.slice r m d) h)) (Q (.slice r m d) h)
theorem j4 {a:OA}{n c:Nat}  {Inv:Nat->OA->Nat->Nat->Heap->Prop} {mz:Nat} (mq:Nat) {r:OA} {m:Nat} {d:Nat}  {h:Heap} (hm:mq < mz) (hi:Inv mq r m d h):ak (iG a n c Inv) mz (ix a n c r m d ) h:=⟨mq,hm,r,m,d,rfl,hi⟩
theorem jU (a:OA)(n c:Nat)  (Inv:Nat->OA->Nat->Nat->Heap->Prop) (Q:VH) (step: ∀ (mz:Nat)(r:OA)(m:Nat)(d:Nat)  (zz:Nat->Value) (h:Heap),Inv mz r m d h->iu a n c Inv Q mz r m d  zz h) (mz:Nat) {r:OA} {m:Nat} {d:Nat}  {h:Heap} (hi:Inv mz r m d h):CS [1,0,0,0] (ix a n c r m d ) h (Dq [1,0,0] [] (Dd Q)):=
 an (A:=(iG a n c Inv)) (show aF Tryz.f142.ntmps (aP [1,0,0,0] fz)=true by kernel_rfl) (fun mz w zz h ⟨r,m,d,hw,hi⟩=>by subst hw; exact ai (step mz r m d  zz h hi) (by kernel_rfl)) mz _ h ⟨r,m,d,rfl,hi⟩ (fun zz=>by kernel_rfl) (by kernel_rfl)
noncomputable def cW:Code:=(Tryz.f140.body).getD .skip
noncomputable def kF (Q:VH):aj:=cE SS Tryz.f140.results.toList Q
def hJ:List Nat:=[0,3,4,5,6]
noncomputable def kZ (p:List Nat)(w:LV)(h:Heap)(Q:aj):Prop:=bp SS Tryz.f140.ntmps hJ (aP p cW) w h Q
noncomputable def fc (p b:List Nat)(K:aj):aj:=ky SS Tryz.f140.ntmps hJ p (aP b cW) K
abbrev GU (l:LB)(h:Heap)(Q:VH):Prop:=kZ [1,1,0,0,0] [(aa l),nA,undef,undef,undef] h (fc [1,1,0,0] [] (kF Q))
theorem FU (l:LB)(h:Heap)(Q:VH)(hx:GU l h Q):FW SS 140 [(aa l)] h Q:=ax (M:=hJ) (c:=cW) Tryz.func140 (show Tryz.f140.body=some cW by kernel_rfl) (by kernel_rfl) (ai hx (by kernel_rfl))
abbrev fx (l:LB)  (s:LB) (r:OA) (rn:Nat) (rc:Nat) (y4 y5 y6:Value):LV:=[(aa s),(.slice r rn rc),y4,y5,y6]
def ct (l:LB)  (Inv:Nat->LB->OA->Nat->Nat->Heap->Prop) (mz:Nat) (w:LV) (h:Heap):Prop:= ∃ (s:LB)(r:OA)(rn:Nat)(rc:Nat)(y4 y5 y6:Value),w=(fx l s r rn rc y4 y5 y6)/\Inv mz s r rn rc h
abbrev tO (l:LB)  (Inv:Nat->LB->OA->Nat->Nat->Heap->Prop) (Q:VH) (mz:Nat) (s:LB) (r:OA) (rn:Nat) (rc:Nat) (y4 y5 y6:Value) (zz:Nat->Value) (h:Heap):Prop:=aw (decide ((((s:LB).length:Int):Int) > 0)) (xI .i64 (ks true [(.int .i64 0),(.int .i64 (IntKind.wrap .i64 (((s:LB).length:Int) - 9)))]) fun n1=>kZ [1,1,0,0,0,1,0,1,1,0,1,0,0] [(aa s),(.slice r rn rc),(.int .i64 n1),(.int .u64 0),(.int .i64 n1)] h (fc [1,0,1,1,0,1,0] [1,1,0,0,0] (aT hJ (ct l Inv) mz (fc [1,1,0,0] [] (kF Q))))) (FW SS 142 [(.slice r rn rc)] h fun v2 h3=>yL v2 fun a4 n5 c6=>Q (.slice a4 n5 c6) h3)
theorem oW {l:LB}  {Inv:Nat->LB->OA->Nat->Nat->Heap->Prop} {mz:Nat} (mq:Nat) {s:LB} {r:OA} {rn:Nat} {rc:Nat} {y4 y5 y6:Value} {h:Heap} (hm:mq < mz) (hi:Inv mq s r rn rc h):ak (ct l Inv) mz (fx l s r rn rc y4 y5 y6) h:=⟨mq,hm,s,r,rn,rc,y4,y5,y6,rfl,hi⟩
theorem oE (l:LB)  (Inv:Nat->LB->OA->Nat->Nat->Heap->Prop) (Q:VH) (step: ∀ (mz:Nat)(s:LB)(r:OA)(rn:Nat)(rc:Nat)(y4 y5 y6:Value)(zz:Nat->Value)(h:Heap),Inv mz s r rn rc h->tO l Inv Q mz s r rn rc y4 y5 y6 zz h) (mz:Nat) {s:LB} {r:OA} {rn:Nat} {rc:Nat} {y4 y5 y6:Value} {h:Heap} (hi:Inv mz s r rn rc h):kZ [1,1,0,0,0] (fx l s r rn rc y4 y5 y6) h (fc [1,1,0,0] [] (kF Q)):=
 an (A:=(ct l Inv)) (show aF Tryz.f140.ntmps (aP [1,1,0,0,0] cW)=true by kernel_rfl) (fun mz w zz h ⟨s,r,rn,rc,y4,y5,y6,hw,hi⟩=>by subst hw; exact ai (step mz s r rn rc y4 y5 y6 zz h hi) (by kernel_rfl)) mz _ h ⟨s,r,rn,rc,y4,y5,y6,rfl,hi⟩ (fun zz=>by kernel_rfl) (by kernel_rfl)
abbrev fK (s:LB)(r:OA)(rn rc:Nat)(cut:Int)(i:Int)(v:Int)  : LV:=[(aa s),(.slice r rn rc),(.int .i64 cut),(.int .u64 v),(.int .i64 i)]
def fy (s:LB)(r:OA)(rn rc:Nat)(cut:Int)(Inv2:Nat->Int->Int->Heap->Prop)(mz2:Nat)(w:LV)(h:Heap):Prop:= ∃ (i:Int)(v:Int) ,w=(fK s r rn rc cut i v )/\Inv2 mz2 i v h
abbrev up (l:LB)(Inv:Nat->LB->OA->Nat->Nat->Heap->Prop)(mz:Nat)(s:LB)(r:OA)(rn rc:Nat)(cut:Int)(Inv2:Nat->Int->Int->Heap->Prop)(Q:VH)(mz2:Nat)(i:Int)(v:Int)  (zz:Nat->Value) (h:Heap):Prop:=aw (decide ((i:Int) < ((s:LB).length:Int))) (xI .u8 (aQ SS.P 9 (aa s) (.int .i64 i)) fun n7=>ak (fy s r rn rc cut Inv2) mz2 [(aa s),(.slice r rn rc),(.int .i64 cut),(.int .u64 (IntKind.wrap .u64 (IntKind.wrap .u64 (10*v)+IntKind.wrap .u64 (IntKind.wrap .u8 (n7 - 48))))),(.int .i64 (IntKind.wrap .i64 (i+1)))] h) (xR (ay SS.P 136 1 [(0,(.int .u64 v))]) h fun B8 n9 c10 g11=>xE (aB SS.P 136 136 (.slice r rn rc) (sA (h.next) n9 c10) g11) g11 fun a12 n13 c14 u15 g16=>xS (aL SS.P 9 (aa s) none (some (.int .i64 cut)) none g16) fun l17=>ak (ct l Inv) mz [(aa l17),(.slice a12 n13 c14),(.int .i64 cut),(.int .u64 v),(.int .i64 i)] g16)
theorem oK {s:LB}{r:OA}{rn rc:Nat}{cut:Int}{Inv2:Nat->Int->Int->Heap->Prop}{mz2:Nat}(mq:Nat){i:Int}{v:Int}  {h:Heap} (hm:mq < mz2) (hi:Inv2 mq i v h):ak (fy s r rn rc cut Inv2) mz2 (fK s r rn rc cut i v ) h:=⟨mq,hm,i,v,rfl,hi⟩
theorem pQ (l:LB)(Inv:Nat->LB->OA->Nat->Nat->Heap->Prop)(mz:Nat)(s:LB)(r:OA)(rn rc:Nat)(cut:Int)(Inv2:Nat->Int->Int->Heap->Prop)(Q:VH)(step: ∀ (mz2:Nat) (i:Int) (v:Int)  (zz:Nat->Value) (h:Heap),Inv2 mz2 i v h->up l Inv mz s r rn rc cut Inv2 Q mz2 i v  zz h)(mz2:Nat){i:Int}{v:Int}  {h:Heap} (hi:Inv2 mz2 i v h):kZ [1,1,0,0,0,1,0,1,1,0,1,0,0] (fK s r rn rc cut i v ) h (fc [1,0,1,1,0,1,0] [1,1,0,0,0] (aT hJ (ct l Inv) mz (fc [1,1,0,0] [] (kF Q)))):=
 an (A:=(fy s r rn rc cut Inv2)) (show aF Tryz.f140.ntmps (aP [1,1,0,0,0,1,0,1,1,0,1,0,0] cW)=true by kernel_rfl) (fun mz2 w zz h ⟨i,v,hw,hi⟩=>by subst hw; exact ai (step mz2 i v  zz h hi) (by kernel_rfl)) mz2 _ h ⟨i,v,rfl,hi⟩ (fun zz=>by kernel_rfl) (by kernel_rfl)
noncomputable def Dz:Code:=(Tryz.f179.body).getD .skip
def Va:List Nat:=[]
abbrev Up (x:Int)(h:Heap)(Q:VH):Prop:=Q (.bool (((x:Int) != x))) h
theorem Tg (x:Int)(h:Heap)(Q:VH)(hx:Up x h Q):FW SS 179 [(.int .u64 x)] h Q:=ax (M:=Va) (c:=Dz) Tryz.func179 (show Tryz.f179.body=some Dz by kernel_rfl) (by kernel_rfl) (ai hx (by kernel_rfl))
noncomputable def Dj:Code:=(Tryz.f169.body).getD .skip
def UY:List Nat:=[]
abbrev VA (x y:Int)(h:Heap)(Q:VH):Prop:=FW SS 179 [(.int .u64 x)] h fun v1 h2=>yB v1 fun b3=>FW SS 179 [(.int .u64 y)] h2 fun v4 h5=>yB v4 fun b6=>aw b3 (aw b6 (Q (.int .i64 0) h5) (Q (.int .i64 (-1)) h5)) (aw b6 (Q (.int .i64 1) h5) (aw (decide ((x:Int) < y)) (Q (.int .i64 (-1)) h5) (aw (decide ((x:Int) > y)) (Q (.int .i64 1) h5) (Q (.int .i64 0) h5))))
theorem RQ (x y:Int)(h:Heap)(Q:VH)(hx:VA x y h Q):FW SS 169 [(.int .u64 x),(.int .u64 y)] h Q:=ax (M:=UY) (c:=Dj) Tryz.func169 (show Tryz.f169.body=some Dj by kernel_rfl) (by kernel_rfl) (ai hx (by kernel_rfl))
noncomputable def DA:Code:=(Tryz.f82.body).getD .skip
def Vd:List Nat:=[]
abbrev US (x:Int)(h:Heap)(Q:VH):Prop:=Q (.bool (((x:Int) != x))) h
theorem Ta (x:Int)(h:Heap)(Q:VH)(hx:US x h Q):FW SS 82 [(.int .i64 x)] h Q:=ax (M:=Vd) (c:=DA) Tryz.func82 (show Tryz.f82.body=some DA by kernel_rfl) (by kernel_rfl) (ai hx (by kernel_rfl))
noncomputable def Dm:Code:=(Tryz.f70.body).getD .skip
def UW:List Nat:=[]
abbrev Ux (x y:Int)(h:Heap)(Q:VH):Prop:=FW SS 82 [(.int .i64 x)] h fun v1 h2=>yB v1 fun b3=>FW SS 82 [(.int .i64 y)] h2 fun v4 h5=>yB v4 fun b6=>aw b3 (aw b6 (Q (.int .i64 0) h5) (Q (.int .i64 (-1)) h5)) (aw b6 (Q (.int .i64 1) h5) (aw (decide ((x:Int) < y)) (Q (.int .i64 (-1)) h5) (aw (decide ((x:Int) > y)) (Q (.int .i64 1) h5) (Q (.int .i64 0) h5))))
theorem R6 (x y:Int)(h:Heap)(Q:VH)(hx:Ux x y h Q):FW SS 70 [(.int .i64 x),(.int .i64 y)] h Q:=ax (M:=UW) (c:=Dm) Tryz.func70 (show Tryz.f70.body=some Dm by kernel_rfl) (by kernel_rfl) (ai hx (by kernel_rfl))
noncomputable def dt:Code:=(Tryz.f160.body).getD .skip
noncomputable def tF (Q:VH):aj:=cE SS Tryz.f160.results.toList Q
def mD:List Nat:=[0,1,18,19]
noncomputable def uL (p:List Nat)(w:LV)(h:Heap)(Q:aj):Prop:=bp SS Tryz.f160.ntmps mD (aP p dt) w h Q
noncomputable def tQ (p b:List Nat)(K:aj):aj:=ky SS Tryz.f160.ntmps mD p (aP b dt) K
abbrev ED (a:OA)(n c:Nat)(b:OA)(m d:Nat)(h:Heap)(Q:VH):Prop:=aw ((((n:Int):Int) != (m:Int))) (FW SS 70 [(iA n),(iA m)] h fun v1 h2=>yI .i64 v1 fun n3=>Q (.int .i64 n3) h2) (uL [1,1,0,1,0,0] [(.slice a n c),(.slice b m d),(iA n),(.int .i64 0)] h (tQ [1,1,0,1,0] [] (tF Q)))
theorem Cs (a:OA)(n c:Nat)(b:OA)(m d:Nat)(h:Heap)(Q:VH)(hx:ED a n c b m d h Q):FW SS 160 [(.slice a n c),(.slice b m d)] h Q:=ax (M:=mD) (c:=dt) Tryz.func160 (show Tryz.f160.body=some dt by kernel_rfl) (by kernel_rfl) (ai hx (by kernel_rfl))
abbrev eT (a:OA)(n c:Nat)(b:OA)(m d:Nat)  (i:Nat)  : LV:=[(.slice a n c),(.slice b m d),(iA n),(iA i)]
def eS (a:OA)(n c:Nat)(b:OA)(m d:Nat)  (Inv:Nat->Nat->Heap->Prop) (mz:Nat) (w:LV) (h:Heap):Prop:= ∃ (i:Nat) ,w=(eT a n c b m d i )/\Inv mz i h
abbrev jG (a:OA)(n c:Nat)(b:OA)(m d:Nat)  (Inv:Nat->Nat->Heap->Prop) (Q:VH) (mz:Nat) (i:Nat)  (zz:Nat->Value) (h:Heap):Prop:=aw (decide (((i:Int):Int) < (n:Int))) (xP (af SS.P 136 (.slice a n c) (.int .i64 (IntKind.wrap .i64 (IntKind.wrap .i64 ((n:Int) - 1) - (i:Int))))) fun p4=>xI .u64 (ah SS.P 103 (room h 18) (.pointer (some p4))) fun n5=>xP (af SS.P 136 (.slice b m d) (.int .i64 (IntKind.wrap .i64 (IntKind.wrap .i64 ((n:Int) - 1) - (i:Int))))) fun p6=>xI .u64 (ah SS.P 103 (room h 18) (.pointer (some p6))) fun n7=>FW SS 169 [(.int .u64 n5),(.int .u64 n7)] (room h 18) fun v8 h9=>yI .i64 v8 fun n10=>aw (((n10:Int) != 0)) (Q (.int .i64 n10) h9) (ak (eS a n c b m d Inv) mz [(.slice a n c),(.slice b m d),(iA n),(.int .i64 (IntKind.wrap .i64 ((i:Int)+1)))] h9)) (Q (.int .i64 0) h)
theorem nY {a:OA}{n c:Nat}{b:OA}{m d:Nat}  {Inv:Nat->Nat->Heap->Prop} {mz:Nat} (mq:Nat) {i:Nat}  {h:Heap} (hm:mq < mz) (hi:Inv mq i h):ak (eS a n c b m d Inv) mz (eT a n c b m d i ) h:=⟨mq,hm,i,rfl,hi⟩
theorem nR (a:OA)(n c:Nat)(b:OA)(m d:Nat)  (Inv:Nat->Nat->Heap->Prop) (Q:VH) (step: ∀ (mz:Nat)(i:Nat)  (zz:Nat->Value) (h:Heap),Inv mz i h->jG a n c b m d Inv Q mz i  zz h) (mz:Nat) {i:Nat}  {h:Heap} (hi:Inv mz i h):uL [1,1,0,1,0,0] (eT a n c b m d i ) h (tQ [1,1,0,1,0] [] (tF Q)):=
 an (A:=(eS a n c b m d Inv)) (show aF Tryz.f160.ntmps (aP [1,1,0,1,0,0] dt)=true by kernel_rfl) (fun mz w zz h ⟨i,hw,hi⟩=>by subst hw; exact ai (step mz i  zz h hi) (by kernel_rfl)) mz _ h ⟨i,rfl,hi⟩ (fun zz=>by kernel_rfl) (by kernel_rfl)
noncomputable def uf:Code:=(Tryz.f185.body).getD .skip
def NK:List Nat:=[]
abbrev Ny (x y z:Int)(p:OA)(h:Heap)(Q:VH):Prop:=xI .u64 (ah SS.P 103 h (.pointer p)) fun n1=>xI .u64 (am SS.P .rem 103 (.int .u64 (IntKind.wrap .u64 (IntKind.wrap .u64 (x*n1)+z))) (.int .u64 1000000000)) fun n2=>xI .u64 (am SS.P .quo 103 (.int .u64 (IntKind.wrap .u64 (IntKind.wrap .u64 (x*n1)+z))) (.int .u64 1000000000)) fun n3=>Q (.tuple ⟨[(.int .u64 n2),(.int .u64 n3)]⟩) h
theorem Ju (x y z:Int)(p:OA)(h:Heap)(Q:VH)(hx:Ny x y z p h Q):FW SS 185 [(.int .u64 x),(.int .u64 y),(.int .u64 z),(.pointer p)] h Q:=ax (M:=NK) (c:=uf) Tryz.func185 (show Tryz.f185.body=some uf by kernel_rfl) (by kernel_rfl) (ai hx (by kernel_rfl))
noncomputable def dk:Code:=(Tryz.f167.body).getD .skip
noncomputable def uH (Q:VH):aj:=cE SS Tryz.f167.results.toList Q
def nc:List Nat:=[0,1,2,7,8,18,19]
noncomputable def sJ (p:List Nat)(w:LV)(h:Heap)(Q:aj):Prop:=bp SS Tryz.f167.ntmps nc (aP p dk) w h Q
noncomputable def vh (p b:List Nat)(K:aj):aj:=ky SS Tryz.f167.ntmps nc p (aP b dk) K
abbrev EA (a:OA)(n c:Nat)(p:OA)(h:Heap)(Q:VH):Prop:=xI .i64 (ks true [(iA n),(.int .i64 0)]) fun n1=>sJ [1,1,1,0,1,0,0] [(.slice a n c),nA,(.func (.func 185) ⟨[]⟩ ⟨[(.pointer p)]⟩),nA,(.int .u64 0),(.int .i64 (IntKind.wrap .i64 (n1+1))),(.int .i64 0)] h (vh [1,1,1,0,1,0] [] (uH Q))
theorem BZ (a:OA)(n c:Nat)(p:OA)(h:Heap)(Q:VH)(hx:EA a n c p h Q):FW SS 167 [(.slice a n c),nA,(.func (.func 185) ⟨[]⟩ ⟨[(.pointer p)]⟩)] h Q:=ax (M:=nc) (c:=dk) Tryz.func167 (show Tryz.f167.body=some dk by kernel_rfl) (by kernel_rfl) (ai hx (by kernel_rfl))
abbrev e7 (a:OA)(n c:Nat)(p:OA)(aR:Int)(i:Nat)(cy:Int)(r:OA)(rn:Nat)(rc:Nat)  : LV:=[(.slice a n c),nA,(.func (.func 185) ⟨[]⟩ ⟨[(.pointer p)]⟩),(.slice r rn rc),(.int .u64 cy),(.int .i64 aR),(iA i)]
def bM (a:OA)(n c:Nat)(p:OA)(aR:Int)(Inv:Nat->Nat->Int->OA->Nat->Nat->Heap->Prop)(mz:Nat)(w:LV)(h:Heap):Prop:= ∃ (i:Nat)(cy:Int)(r:OA)(rn:Nat)(rc:Nat) ,w=(e7 a n c p aR i cy r rn rc )/\Inv mz i cy r rn rc h
abbrev jX (a:OA)(n c:Nat)(p:OA)(aR:Int)(Inv:Nat->Nat->Int->OA->Nat->Nat->Heap->Prop)(Q:VH)(mz:Nat)(i:Nat)(cy:Int)(r:OA)(rn:Nat)(rc:Nat)  (zz:Nat->Value) (h:Heap):Prop:=aw (decide (((i:Int):Int) < aR)) (aw (decide (((i:Int):Int) < (n:Int))) (xP (af SS.P 136 (.slice a n c) (iA i)) fun p2=>xI .u64 (ah SS.P 103 h (.pointer (some p2))) fun n3=>aw (decide (((i:Int):Int) < 0)) (xP (af SS.P 136 nA (iA i)) fun p4=>xI .u64 (ah SS.P 103 h (.pointer (some p4))) fun n5=>FW SS 185 [(.int .u64 n3),(.int .u64 n5),(.int .u64 cy),(.pointer p)] h fun v6 h7=> ∃ n8:Int,∃ n9:Int,v6=(.tuple ⟨[(.int .u64 n8),(.int .u64 n9)]⟩)/\xR (ay SS.P 136 1 [(0,(.int .u64 n8))]) h7 fun B10 n11 c12 g13=>xE (aB SS.P 136 136 (.slice r rn rc) (sA (h7.next) n11 c12) g13) g13 fun a14 n15 c16 u17 g18=>ak (bM a n c p aR Inv) mz [(.slice a n c),nA,(.func (.func 185) ⟨[]⟩ ⟨[(.pointer p)]⟩),(.slice a14 n15 c16),(.int .u64 n9),(.int .i64 aR),(.int .i64 (IntKind.wrap .i64 ((i:Int)+1)))] g18) (FW SS 185 [(.int .u64 n3),(.int .u64 0),(.int .u64 cy),(.pointer p)] h fun v19 h20=> ∃ n21:Int,∃ n22:Int,v19=(.tuple ⟨[(.int .u64 n21),(.int .u64 n22)]⟩)/\xR (ay SS.P 136 1 [(0,(.int .u64 n21))]) h20 fun B23 n24 c25 g26=>xE (aB SS.P 136 136 (.slice r rn rc) (sA (h20.next) n24 c25) g26) g26 fun a27 n28 c29 u30 g31=>ak (bM a n c p aR Inv) mz [(.slice a n c),nA,(.func (.func 185) ⟨[]⟩ ⟨[(.pointer p)]⟩),(.slice a27 n28 c29),(.int .u64 n22),(.int .i64 aR),(.int .i64 (IntKind.wrap .i64 ((i:Int)+1)))] g31)) (aw (decide (((i:Int):Int) < 0)) (xP (af SS.P 136 nA (iA i)) fun p32=>xI .u64 (ah SS.P 103 h (.pointer (some p32))) fun n33=>FW SS 185 [(.int .u64 0),(.int .u64 n33),(.int .u64 cy),(.pointer p)] h fun v34 h35=> ∃ n36:Int,∃ n37:Int,v34=(.tuple ⟨[(.int .u64 n36),(.int .u64 n37)]⟩)/\xR (ay SS.P 136 1 [(0,(.int .u64 n36))]) h35 fun B38 n39 c40 g41=>xE (aB SS.P 136 136 (.slice r rn rc) (sA (h35.next) n39 c40) g41) g41 fun a42 n43 c44 u45 g46=>ak (bM a n c p aR Inv) mz [(.slice a n c),nA,(.func (.func 185) ⟨[]⟩ ⟨[(.pointer p)]⟩),(.slice a42 n43 c44),(.int .u64 n37),(.int .i64 aR),(.int .i64 (IntKind.wrap .i64 ((i:Int)+1)))] g46) (FW SS 185 [(.int .u64 0),(.int .u64 0),(.int .u64 cy),(.pointer p)] h fun v47 h48=> ∃ n49:Int,∃ n50:Int,v47=(.tuple ⟨[(.int .u64 n49),(.int .u64 n50)]⟩)/\xR (ay SS.P 136 1 [(0,(.int .u64 n49))]) h48 fun B51 n52 c53 g54=>xE (aB SS.P 136 136 (.slice r rn rc) (sA (h48.next) n52 c53) g54) g54 fun a55 n56 c57 u58 g59=>ak (bM a n c p aR Inv) mz [(.slice a n c),nA,(.func (.func 185) ⟨[]⟩ ⟨[(.pointer p)]⟩),(.slice a55 n56 c57),(.int .u64 n50),(.int .i64 aR),(.int .i64 (IntKind.wrap .i64 ((i:Int)+1)))] g59))) (FW SS 142 [(.slice r rn rc)] h fun v60 h61=>yL v60 fun a62 n63 c64=>Q (.slice a62 n63 c64) h61)
theorem gk {a:OA}{n c:Nat}{p:OA}{aR:Int}{Inv:Nat->Nat->Int->OA->Nat->Nat->Heap->Prop}{mz:Nat}(mq:Nat){i:Nat}{cy:Int}{r:OA}{rn:Nat}{rc:Nat}  {h:Heap} (hm:mq < mz) (hi:Inv mq i cy r rn rc h):ak (bM a n c p aR Inv) mz (e7 a n c p aR i cy r rn rc ) h:=⟨mq,hm,i,cy,r,rn,rc,rfl,hi⟩
theorem nU (a:OA)(n c:Nat)(p:OA)(aR:Int)(Inv:Nat->Nat->Int->OA->Nat->Nat->Heap->Prop)(Q:VH)(step: ∀ (mz:Nat) (i:Nat) (cy:Int) (r:OA) (rn:Nat) (rc:Nat)  (zz:Nat->Value) (h:Heap),Inv mz i cy r rn rc h->jX a n c p aR Inv Q mz i cy r rn rc  zz h)(mz:Nat){i:Nat}{cy:Int}{r:OA}{rn:Nat}{rc:Nat}  {h:Heap} (hi:Inv mz i cy r rn rc h):sJ [1,1,1,0,1,0,0] (e7 a n c p aR i cy r rn rc ) h (vh [1,1,1,0,1,0] [] (uH Q)):=
 an (A:=(bM a n c p aR Inv)) (show aF Tryz.f167.ntmps (aP [1,1,1,0,1,0,0] dk)=true by kernel_rfl) (fun mz w zz h ⟨i,cy,r,rn,rc,hw,hi⟩=>by subst hw; exact ai (step mz i cy r rn rc  zz h hi) (by kernel_rfl)) mz _ h ⟨i,cy,r,rn,rc,rfl,hi⟩ (fun zz=>by kernel_rfl) (by kernel_rfl)
noncomputable def pN:Code:=(Tryz.f175.body).getD .skip
def HL:List Nat:=[]
abbrev Hz (a:OA)(n c:Nat)(k:Int)(h:Heap)(Q:VH):Prop:=xN (fp SS.P 103 (.int .u64 k)) h fun B1 g2=>FW SS 167 [(.slice a n c),nA,(.func (.func 185) ⟨[]⟩ ⟨[(pA (h.next))]⟩)] g2 fun v3 h4=>yL v3 fun a5 n6 c7=>Q (.slice a5 n6 c7) h4
theorem FX (a:OA)(n c:Nat)(k:Int)(h:Heap)(Q:VH)(hx:Hz a n c k h Q):FW SS 175 [(.slice a n c),(.int .u64 k)] h Q:=ax (M:=HL) (c:=pN) Tryz.func175 (show Tryz.f175.body=some pN by kernel_rfl) (by kernel_rfl) (ai hx (by kernel_rfl))
def uv (d:Nat):Value:= .int .u64 (d:Int)
theorem xy:SS.P.underlying 136=some (.slice 103):=by kernel_rfl
theorem KD:SS.P.underlying 103=some (.int .u64):=by kernel_rfl
theorem z7:aq SS.P 103=some 1:=by kernel_rfl
theorem Ll:Go.Ab.isAgg SS.P 103=false:=by kernel_rfl
noncomputable def re103:TypeInfo:=(dz SS.P 103).getD default
theorem Gy:dz SS.P 103=some re103:=by kernel_rfl
theorem AH:re103.size=1:=by kernel_rfl
theorem w7:re103.bytes=8:=by kernel_rfl
theorem nJ (z:Int):ay SS.P 136 1 [(0,.int .u64 z)]=some (.cells [.int .u64 z] 103 1 true,nq 1 1):=by kernel_rfl
theorem fL {h0 h:Heap}(w0:Wf h0)(ok:Ok h0 h){v:Value}{vs:List Value}(o:OwnR h0 h 103 v vs)(z:Int)(hl:vs.length<=100000):
  ∃ (b:Option Addr)(n c:Nat)(u:Upd),aB SS.P 136 136 v (.slice (some ⟨h.next,0,none⟩) 1 1) (h.push (.cells [.int .u64 z] 103 1 true))=some (.slice b n c,u)/\n=vs.length+1/\OwnR h0 (u.app (h.push (.cells [.int .u64 z] 103 1 true))) 103 (.slice b n c) (vs++[.int .u64 z])/\Ok h0 (u.app (h.push (.cells [.int .u64 z] 103 1 true))):=
 OwnR.snoc xy Gy AH w0 ok o rfl (by rw [w7]; omega) (by omega)
theorem Qe (l:List Nat)(i:Nat)(h:i < l.length):(l.map uv).getD i undef = .int .u64 (l.getD i 0:Nat):=by
 simp [gD,List.getElem?_map,gE h,uv]
theorem Dt {h:Heap}{v:Value}{l:List Nat}(r:Rd h 103 v (l.map uv)){i:Int}(h0:0<=i)(h1:i < l.length):
  ∃ p:Addr,af SS.P 136 v (.int .i64 i)=some (.pointer (some p))/\ah SS.P 103 h (.pointer (some p))=some (.int .u64 (l.getD i.toNat 0:Nat)):=by
 obtain ⟨p,h2,h3⟩:=r.at_ xy z7 KD Ll (k:= .i64) h0 (by rw [lM]; exact h1)
 rw [Qe l _ (by omega)] at h3
 exact ⟨p,h2,h3⟩
theorem nj {h0 h:Heap}{a:Option Addr}{n c:Nat}{l:List Nat}(o:OwnR h0 h 103 (.slice a n c) (l.map uv))(hlen:l.length<=100000):
  FW SS 142 [.slice a n c] h (fun v h'=> ∃ a' n' c',v = .slice a' n' c'/\OwnR h0 h 103 (.slice a' n' c') ((Num.trimL l).map uv)/\h'=h):=by
 have hn:n=l.length:=by have:=o.len; rwa [lM] at this
 have L:=jU a n c (fun mz r m d g=>m<=l.length/\mz=m/\OwnR h0 h 103 (.slice r m d) ((l.take m).map uv)/\Num.trimL l=Num.trimL (l.take m)/\g=h) (fun v h'=> ∃ a' n' c',v = .slice a' n' c'/\OwnR h0 h 103 (.slice a' n' c') ((Num.trimL l).map uv)/\h'=h) (by
  intro mz r m d; intros; rename_i g hi
  obtain ⟨h1,rfl,h3,h4,rfl⟩:=hi
  have hw:IntKind.wrap .i64 ((mz:Int) - 1)=(mz:Int) - 1:=ap (by omega) (by omega)
  unfold iu
  rw [hw]
  have hm:mz≠0->l.take mz=l.take (mz - 1)++[l.getD (mz - 1) 0]:=fun hm=>by
   obtain ⟨j,rfl⟩: ∃ j,mz=j+1:=⟨mz - 1,by omega⟩
   rw [List.take_succ_eq_append_getElem (by omega),Nat.add_sub_cancel,gD,gE (by omega)]; rfl
  refine ae (fun h5=> ?_) (fun h5=> ?_)
  ·have h5:=dT h5
   obtain ⟨p,g2,g3⟩:=Dt h3.rd (i:=(mz:Int) - 1) (by omega) (by rw [List.length_take]; omega)
   have e1:(l.take mz).getD ((mz:Int) - 1).toNat 0=l.getD (mz - 1) 0:=by
    rw [show ((mz:Int) - 1).toNat=mz - 1 by omega,gD,List.getElem?_take,if_pos (by omega),gD]
   rw [e1] at g3
   refine ⟨p,g2,_,g3,ae (fun h6=> ?_) (fun h6=> ?_)⟩
   ·have h6:((l.getD (mz - 1) 0:Nat):Int)=0:=by simpa using h6
    have h6:l.getD (mz - 1) 0=0:=by omega
    obtain ⟨a',n',c',g4,g5⟩:=h3.upto xy z7 (z:=mz - 1) (by rw [lM,List.length_take]; omega) (by rw [lM,List.length_take]; omega)
    rw [show ((mz:Int) - 1)=((mz - 1:Nat):Int) by omega]
    have hn':n'=mz - 1:=by have:=g5.len; rw [List.length_take,lM,List.length_take] at this; omega
    subst hn'
    refine ⟨a',_,c',g4,j4 (mz - 1) (by omega) ⟨by omega,rfl,?_,?_,rfl⟩⟩
    ·rw [<-List.map_take,List.take_take,Nat.min_eq_left (by omega)] at g5
     exact g5
    ·rw [h4,hm (by omega),h6,Num.trimL_snoc_zero]
   ·have h6: ¬ ((l.getD (mz - 1) 0:Nat):Int)=0:=by simpa using h6
    refine ⟨r,mz,d,rfl,?_,rfl⟩
    rw [h4,hm (by omega),Num.trimL_snoc_pos _ (by omega),<-hm (by omega)]
    exact h3
  ·have h5:=dF h5
   obtain rfl:mz=0:=by omega
   refine ⟨r,0,d,rfl,?_,rfl⟩
   rw [h4]
   exact h3)
 exact Bx a n c h _ (L n ⟨by omega,rfl,by rw [show l.take n=l by rw [hn,List.take_length]]; exact o,by rw [show l.take n=l by rw [hn,List.take_length]],rfl⟩)
theorem B0 {l:List UInt8}{i:Nat}(h:i < l.length):Num.val (l.take (i+1))=10*Num.val (l.take i)+Num.dv (l.getD i 0):=Num.val_take_succ (getE h)
theorem NY (l:List UInt8){h:Heap}{b:Nat}(h2:b<=l.length):aL SS.P 9 (aa l) none (some (.int .i64 (b:Int))) none h=some (aa (l.take b)):=iY (a:=0) RW l rfl rfl (by omega) h2
theorem HB {s:List UInt8}{cut:Nat}(hc:cut=s.length - 9)(hs:0 < s.length):Num.val s=Num.val (s.drop cut)+10 ^ (s.length - cut)*Num.val (s.take cut):=by
 have:=Num.val_append (s.take cut) (s.drop cut)
 rw [List.take_append_drop,List.length_drop,Nat.mul_comm] at this
 omega
theorem mO (l:List UInt8)(hd:l.all Num.isDig=true)(hlen:l.length<=10000)(h:Heap)(w:Wf h):FW SS 140 [aa l] h (dx h 103 ((Num.toB 1000000000 (Num.val l)).map uv)):=by
 have L1:=oE l (fun mz s r rn rc g=>mz=s.length/\s.all Num.isDig=true/\s.length<=10000/\Ok h g/\ ∃ bs:List Nat,(∀ d∈bs,d < 1000000000)/\bs.length+s.length<=10000/\OwnR h g 103 (.slice r rn rc) (bs.map uv)/\Num.val l=Num.bv 1000000000 bs+1000000000 ^ bs.length*Num.val s) (dx h 103 ((Num.toB 1000000000 (Num.val l)).map uv)) (by
  intro mz s r rn rc; intros; rename_i g hi
  obtain ⟨rfl,hs,hsl,ok,bs,hb1,hb2,ho,hv⟩:=hi
  refine ae (fun h5=> ?_) (fun h5=> ?_)
  ·have h5:=dT h5
   have hw:IntKind.wrap .i64 ((s.length:Int) - 9)=(s.length:Int) - 9:=ap (by omega) (by omega)
   rw [hw]
   have hcut:(if (s.length:Int) - 9 > 0 then (s.length:Int) - 9 else 0)=((s.length - 9:Nat):Int):=by split <;> omega
   refine ⟨_,sY _ _ _,?_⟩
   rw [hcut]
   have L2:=pQ l (fun mz s r rn rc g=>mz=s.length/\s.all Num.isDig=true/\s.length<=10000/\Ok h g/\ ∃ bs:List Nat,(∀ d∈bs,d < 1000000000)/\bs.length+s.length<=10000/\OwnR h g 103 (.slice r rn rc) (bs.map uv)/\Num.val l=Num.bv 1000000000 bs+1000000000 ^ bs.length*Num.val s) s.length s r rn rc ((s.length - 9:Nat):Int)
    (fun mz2 i v g2=> ∃ j:Nat,i=(s.length - 9:Nat)+(j:Int)/\s.length - 9+j<=s.length/\mz2=s.length - (s.length - 9+j)/\v=(Num.val ((s.drop (s.length - 9)).take j):Nat)/\g2=g) (dx h 103 ((Num.toB 1000000000 (Num.val l)).map uv)) (by
    intro mz2 i v; intros; rename_i g2 hi2
    obtain ⟨j,rfl,hj,hmz,rfl,rfl⟩:=hi2
    have hdd:(s.drop (s.length - 9)).all Num.isDig=true:=by
     rw [List.all_eq_true] at hs ⊢
     exact fun x hx=>hs x (List.mem_of_mem_drop hx)
    have hlt:=Num.val_lt (l:=(s.drop (s.length - 9)).take j) (by
     rw [List.all_eq_true] at hdd ⊢
     exact fun x hx=>hdd x (List.mem_of_mem_take hx))
    have hlt9:Num.val ((s.drop (s.length - 9)).take j) < 1000000000:=by
     refine Nat.lt_of_lt_of_le hlt (Nat.le_trans (Nat.pow_le_pow_right (by omega) (show _<=9 by rw [List.length_take,List.length_drop]; omega)) (by decide))
    refine ae (fun h6=> ?_) (fun h6=> ?_)
    ·have h6:=dT h6
     have hin:s.length - 9+j < s.length:=by omega
     have hdig:=z1 hs hin
     have hdr:=Num.isDig_iff.1 hdig
     have hdv:=Num.dv_lt hdig
     refine ⟨_,yf (h:=g2) s (by omega) h6,?_⟩
     have hi':(((s.length - 9:Nat):Int)+(j:Int)).toNat=s.length - 9+j:=by omega
     rw [hi']
     have e1:IntKind.wrap .u8 ((((s.getD (s.length - 9+j) 0).toNat:Nat):Int) - 48)=(Num.dv (s.getD (s.length - 9+j) 0):Nat):=by
      rw [mU (by omega) (by omega)]; unfold Num.dv; omega
     have e2:(s.drop (s.length - 9)).getD j 0=s.getD (s.length - 9+j) 0:=by
      rw [gD,List.getElem?_drop,gD]
     have e3:=B0 (l:=s.drop (s.length - 9)) (i:=j) (by rw [List.length_drop]; omega)
     rw [e2] at e3
     dsimp only
     rw [e1,cI (n:=((Num.dv (s.getD (s.length - 9+j) 0):Nat):Int)) (by omega) (by omega),cI (n:=10*((Num.val ((s.drop (s.length - 9)).take j):Nat):Int)) (by omega) (by omega),cI (by omega) (by omega),ap (n:=((s.length - 9:Nat):Int)+(j:Int)+1) (by omega) (by omega)]
     exact oK (mz2 - 1) (by omega) ⟨j+1,by omega,by omega,by omega,by rw [e3]; omega,rfl⟩
    ·have h6:=dF h6
     have hjl:(s.drop (s.length - 9)).take j=s.drop (s.length - 9):=List.take_of_length_le (by rw [List.length_drop]; omega)
     rw [hjl] at hlt9 ⊢
     refine ⟨_,_,_,nJ _,?_⟩
     obtain ⟨b,m,d,u,g6,g7,g8,g9⟩:=fL w ok ho ((Num.val (s.drop (s.length - 9)):Nat):Int) (by rw [lM]; omega)
     refine ⟨b,m,d,u,g6,?_⟩
     refine ⟨_,NY s (show s.length - 9<=s.length by omega),?_⟩
     refine oW (s.take (s.length - 9)).length (by rw [List.length_take]; omega) ⟨rfl,?_,by rw [List.length_take]; omega,g9,bs++[Num.val (s.drop (s.length - 9))],?_,?_,?_,?_⟩
     ·rw [List.all_eq_true] at hs ⊢
      exact fun x hx=>hs x (List.mem_of_mem_take hx)
     ·intro x hx
      rcases List.mem_append.1 hx with hx | hx
      ·exact hb1 x hx
      ·rw [List.mem_singleton.1 hx]; exact hlt9
     ·rw [List.length_append,List.length_take]; simp; omega
     ·rw [List.map_append]; exact g8
     ·rw [Num.bv_snoc,List.length_append,hv,HB (s:=s) rfl (by omega),List.length_singleton]
      rcases Nat.lt_or_ge s.length 10 with h7 | h7
      ·rw [show s.length - 9=0 by omega,List.take_zero,Num.val_nil]
       simp
      ·rw [show s.length - (s.length - 9)=9 by omega,show (10:Nat) ^ 9=1000000000 from rfl,Nat.pow_succ,Nat.mul_add,Nat.mul_assoc]
       omega)
   exact L2 _ ⟨0,by omega,by omega,rfl,by simp [Num.val_nil],rfl⟩
  ·have h5:=dF h5
   obtain rfl:s=[]:=List.eq_nil_of_length_eq_zero (by omega)
   refine (nj ho (by omega)).mono ?_
   rintro _ g2 ⟨a',n',c',rfl,o2,rfl⟩
   refine ⟨a',n',c',rfl,a',n',c',rfl,?_,ok⟩
   rw [hv,Num.val_nil,Nat.mul_zero,Nat.add_zero,<-Num.trimL_eq (by omega) hb1]
   exact o2)
 exact FU l h _ (L1 l.length ⟨rfl,hd,hlen,Ok.refl w,[],by simp,by simpa using hlen,.inl ⟨rfl,rfl⟩,by simp [Num.bv]⟩)
end Go.Proofs.YtoabjjimjldcfaaGreatDoor
end
section
namespace Go.Num
theorem bv_lt_of_top {b:Nat}(hb:1 < b){x y:List Nat}(hx: ∀ d∈x,d < b)(hl:x.length=y.length){j:Nat}(hj:j < x.length)(hd:x.drop (j+1)=y.drop (j+1))(hlt:x.getD j 0 < y.getD j 0):bv b x < bv b y:=by
 have h1:=sy b x j (by omega)
 have h2:=sy b y j (by omega)
 rw [bv_drop] at h1 h2
 rw [h1,h2,hd]
 have h3:=bv_lt (b:=b) (x:=x.take j) (fun d hm=>hx d (List.mem_of_mem_take hm))
 rw [List.length_take,Nat.min_eq_left (by omega)] at h3
 have h4:=Nat.mul_le_mul_left (b ^ j) (Nat.succ_le_of_lt (Nat.add_lt_add_right hlt (b*bv b (y.drop (j+1)))))
 rw [Nat.mul_succ] at h4
 omega
theorem toB_len_lt {b:Nat}(hb:1 < b){m n:Nat}(h:(toB b m).length < (toB b n).length):m < n:=by
 have hn:0 < n:=by
  rcases Nat.eq_zero_or_pos n with e | e
  ·subst e; rw [toB_zero] at h; simp at h
  ·exact e
 have h1:=bv_lt (toB_lt hb m)
 rw [bv_toB hb] at h1
 have h2:=qI hb hn
 have h3:b ^ (toB b m).length<=b ^ ((toB b n).length - 1):=Nat.pow_le_pow_right (by omega) (by omega)
 omega
end Go.Num
end
section
set_option linter.unusedVariables false
set_option maxRecDepth 100000
namespace Go.Proofs.YtoabjjimjldcfaaGreatDoor
open Go Go.Ab
theorem K4 (x:Int)(h:Heap):FW SS 179 [.int .u64 x] h (fun v h'=>v = .bool false/\h'=h):=Tg x h _ ⟨by simp,rfl⟩
theorem KP (x:Int)(h:Heap):FW SS 82 [.int .i64 x] h (fun v h'=>v = .bool false/\h'=h):=Ta x h _ ⟨by simp,rfl⟩
theorem RI (m n:Nat)(h:Heap):FW SS 169 [.int .u64 (m:Int),.int .u64 (n:Int)] h (fun v h'=>v = .int .i64 (Num.cmpN m n)/\h'=h):=by
 refine RQ _ _ h _ ((K4 _ h).mono ?_)
 rintro _ _ ⟨rfl,rfl⟩
 refine ⟨_,rfl,(K4 _ _).mono ?_⟩
 rintro _ _ ⟨rfl,rfl⟩
 refine ⟨_,rfl,ae (fun e=>by cases e) (fun _=>ae (fun e=>by cases e) (fun _=>ae (fun h1=> ?_) (fun h1=>ae (fun h2=> ?_) (fun h2=> ?_))))⟩
 ·exact ⟨by rw [Num.cmpN_lt (by have:=dT h1; omega)],rfl⟩
 ·exact ⟨by rw [Num.cmpN_gt (by have:=dT h2; omega)],rfl⟩
 ·have h1:=dF h1
  have h2:=dF h2
  exact ⟨by rw [show m=n by omega,Num.cmpN_eq],rfl⟩
theorem RX (m n:Nat)(h:Heap):FW SS 70 [.int .i64 (m:Int),.int .i64 (n:Int)] h (fun v h'=>v = .int .i64 (Num.cmpN m n)/\h'=h):=by
 refine R6 _ _ h _ ((KP _ h).mono ?_)
 rintro _ _ ⟨rfl,rfl⟩
 refine ⟨_,rfl,(KP _ _).mono ?_⟩
 rintro _ _ ⟨rfl,rfl⟩
 refine ⟨_,rfl,ae (fun e=>by cases e) (fun _=>ae (fun e=>by cases e) (fun _=>ae (fun h1=> ?_) (fun h1=>ae (fun h2=> ?_) (fun h2=> ?_))))⟩
 ·exact ⟨by rw [Num.cmpN_lt (by have:=dT h1; omega)],rfl⟩
 ·exact ⟨by rw [Num.cmpN_gt (by have:=dT h2; omega)],rfl⟩
 ·have h1:=dF h1
  have h2:=dF h2
  exact ⟨by rw [show m=n by omega,Num.cmpN_eq],rfl⟩
abbrev BB:Nat:=1000000000
abbrev bl (n:Nat):List Value:=(Num.toB BB n).map uv
theorem cG:1 < BB:=by decide
theorem lg {h:Heap}{a b:Option Addr}{n c m d:Nat}{x y:Nat}(ra:Rd h 103 (.slice a n c) (bl x))(rb:Rd h 103 (.slice b m d) (bl y))(hlen:(Num.toB BB x).length<=10000)(w:Wf h):
  FW SS 160 [.slice a n c,.slice b m d] h (fun v h'=>v = .int .i64 (Num.cmpN x y)/\Ok h h'):=by
 have hn:n=(Num.toB BB x).length:=by have:=ra.len; rwa [lM] at this
 have hm:m=(Num.toB BB y).length:=by have:=rb.len; rwa [lM] at this
 have L:=fun (hl:(Num.toB BB x).length=(Num.toB BB y).length)=>nR a n c b m d (fun mz i g=>i<=n/\mz=n - i/\(Num.toB BB x).drop (n - i)=(Num.toB BB y).drop (n - i)/\Ok h g) (fun v h'=>v = .int .i64 (Num.cmpN x y)/\Ok h h') (by
  intro mz i; intros; rename_i g hi
  obtain ⟨h1,h2,h3,ok⟩:=hi
  have hw1:IntKind.wrap .i64 ((n:Int) - 1)=(n:Int) - 1:=ap (by omega) (by omega)
  have hw2:IntKind.wrap .i64 ((n:Int) - 1 - (i:Int))=(n:Int) - 1 - (i:Int):=ap (by omega) (by omega)
  have hw3:IntKind.wrap .i64 ((i:Int)+1)=((i+1:Nat):Int):=by rw [ap (by omega) (by omega)]; omega
  unfold jG
  rw [hw1,hw2,hw3]
  have ok':=ok.room 18
  refine ae (fun h5=> ?_) (fun h5=> ?_)
  ·have h5:=dT h5
   have hj:((n:Int) - 1 - (i:Int)).toNat=n - 1 - i:=by omega
   obtain ⟨p,g2,g3⟩:=Dt (ra.ok ok') (i:=(n:Int) - 1 - (i:Int)) (by omega) (by omega)
   obtain ⟨q,g4,g5⟩:=Dt (rb.ok ok') (i:=(n:Int) - 1 - (i:Int)) (by omega) (by omega)
   rw [hj] at g3 g5
   refine ⟨p,g2,_,g3,q,g4,_,g5,(RI _ _ _).mono ?_⟩
   rintro _ _ ⟨rfl,rfl⟩
   have hd:(Num.toB BB x).drop (n - 1 - i+1)=(Num.toB BB y).drop (n - 1 - i+1):=by rw [show n - 1 - i+1=n - i by omega]; exact h3
   refine ⟨_,rfl,ae (fun h6=> ?_) (fun h6=> ?_)⟩
   ·refine ⟨?_,ok'⟩
    have h6:Num.cmpN ((Num.toB BB x).getD (n - 1 - i) 0) ((Num.toB BB y).getD (n - 1 - i) 0)≠0:=by simpa using h6
    rcases Nat.lt_trichotomy ((Num.toB BB x).getD (n - 1 - i) 0) ((Num.toB BB y).getD (n - 1 - i) 0) with h7 | h7 | h7
    ·have:=Num.bv_lt_of_top cG (Num.toB_lt cG x) hl (by omega) hd h7
     rw [Num.bv_toB cG,Num.bv_toB cG] at this
     rw [Num.cmpN_lt h7,Num.cmpN_lt this]
    ·rw [h7,Num.cmpN_eq] at h6; exact absurd rfl h6
    ·have:=Num.bv_lt_of_top cG (Num.toB_lt cG y) hl.symm (by omega) hd.symm h7
     rw [Num.bv_toB cG,Num.bv_toB cG] at this
     rw [Num.cmpN_gt h7,Num.cmpN_gt this]
   ·have h6:Num.cmpN ((Num.toB BB x).getD (n - 1 - i) 0) ((Num.toB BB y).getD (n - 1 - i) 0)=0:=by simpa using h6
    have h7:(Num.toB BB x).getD (n - 1 - i) 0=(Num.toB BB y).getD (n - 1 - i) 0:=by
     unfold Num.cmpN at h6
     split at h6
     ·cases h6
     ·split at h6
      ·assumption
      ·cases h6
    refine nY (mz - 1) (by omega) ⟨by omega,by omega,?_,ok'⟩
    rw [show n - (i+1)=n - 1 - i by omega,List.drop_eq_getElem_cons (show n - 1 - i < (Num.toB BB x).length by omega),List.drop_eq_getElem_cons (show n - 1 - i < (Num.toB BB y).length by omega),hd]
    congr 1
    rw [gD,gE (by omega),gD,gE (by omega)] at h7
    exact h7
  ·have h5:=dF h5
   rw [show n - i=0 by omega,List.drop_zero,List.drop_zero] at h3
   have:x=y:=by rw [<-Num.bv_toB cG x,h3,Num.bv_toB cG]
   exact ⟨by rw [this,Num.cmpN_eq],ok⟩)
 refine Cs a n c b m d h _ (ae (fun h1=>(RX _ _ h).mono ?_) (fun h1=> ?_))
 ·rintro _ _ ⟨rfl,rfl⟩
  have h1:=I7 h1
  refine ⟨_,rfl,?_,Ok.refl w⟩
  rcases Nat.lt_trichotomy n m with h2 | h2 | h2
  ·rw [Num.cmpN_lt h2,Num.cmpN_lt (Num.toB_len_lt cG (by omega))]
  ·exact absurd h2 h1
  ·rw [Num.cmpN_gt h2,Num.cmpN_gt (Num.toB_len_lt cG (by omega))]
 ·have h1:=J6 h1
  refine L (by omega) n (i:=0) ⟨by omega,by omega,?_,Ok.refl w⟩
  rw [Nat.sub_zero,List.drop_of_length_le (by omega),List.drop_of_length_le (by omega)]
theorem PL {P:Program}{t:TypeId}{h h':Heap}{p v:Value}(o:Ok h h')(hl:ah P t h p=some v):ah P t h' p=some v:=by
 unfold ah at hl ⊢
 split at hl
 ·next hu=>
  split at hl
  ·next cs _ _ _ hk=>rw [o.ext _ _ hk]; exact hl
  ·cases hl
 ·cases hl
theorem JN {h:Heap}{p:Option Addr}{k:Nat}(hp:ah SS.P 103 h (.pointer p)=some (.int .u64 (k:Int)))(x y z:Nat)(hx:x < BB)(hk:k<=BB)(hz:z < BB):
  FW SS 185 [.int .u64 (x:Int),.int .u64 (y:Int),.int .u64 (z:Int),.pointer p] h (fun v h'=>v = .tuple ⟨[uv (Num.scaleF BB k x y z).1,uv (Num.scaleF BB k x y z).2]⟩/\h'=h):=by
 have hBv:BB=1000000000:=rfl
 have h1:x*k<=1000000000000000000:=Nat.le_trans (Nat.mul_le_mul (Nat.le_of_lt hx) hk) (by decide)
 have e1:IntKind.wrap .u64 ((x:Int)*(k:Int))=((x*k:Nat):Int):=by rw [<-Int.natCast_mul]; exact cI (by omega) (by omega)
 have e2:IntKind.wrap .u64 (((x*k:Nat):Int)+(z:Int))=((x*k+z:Nat):Int):=by rw [<-Int.natCast_add]; exact cI (by omega) (by omega)
 refine Ju _ _ _ p h _ ⟨_,hp,?_⟩
 dsimp only
 rw [e1,e2]
 refine ⟨_,cJ (b:=BB) (by omega) (by decide),_,kQ (b:=BB) (by omega) (by omega) (by decide),?_,rfl⟩
 unfold uv Num.scaleF
 rw [Int.natCast_emod,Int.natCast_ediv]
theorem Cm {h:Heap}{a:Option Addr}{n c:Nat}{p:Option Addr}{k:Nat}{x:List Nat}(ra:Rd h 103 (.slice a n c) (x.map uv))(hx: ∀ d∈x,d < BB)(hlen:x.length<=10000)(hp:ah SS.P 103 h (.pointer p)=some (.int .u64 (k:Int)))(hk0:0 < k)(hk:k<=BB)(w:Wf h):
  FW SS 167 [.slice a n c,.slice none 0 0,.func (.func 185) ⟨[]⟩ ⟨[.pointer p]⟩] h (dx h 103 (bl (Num.bv BB x*k))):=by
 have hn:n=x.length:=by have:=ra.len; rwa [lM] at this
 have hBv:BB=1000000000:=rfl
 have hF: ∀ p q c,c<=BB - 1->p < BB->(Num.scaleF BB k p q c).2<=BB - 1:=fun p q c hc hp=>by
  unfold Num.scaleF
  dsimp only
  have h1:p*k<=999999999*1000000000:=Nat.mul_le_mul (by omega) hk
  have:(p*k+c) / BB < BB:=Nat.div_lt_of_lt_mul (by rw [hBv]; omega)
  omega
 have hcr: ∀ j,Num.cr (Num.scaleF BB k) x [] 0 0 j<=BB - 1:=by
  intro j
  induction j with
  | zero=>exact Nat.zero_le _
  | succ j ih=>exact hF _ _ _ ih (Num.getD_lt (by decide) hx _)
 have fin:Num.trimL (Num.eachF (Num.scaleF BB k) x [] 0 (n+1) 0)=Num.toB BB (Num.bv BB x*k):=by
  rw [Num.trimL_eq cG (Num.eachF_lt (fun p q c=>Nat.mod_lt _ (by decide)) x [] (n+1) 0 0),Num.scale_bv cG hk hk0 hx (n+1) 0 0 (by omega) hk0 (by omega)]
  rw [List.drop_zero,Nat.add_zero]
 have L:=nU a n c p ((n:Int)+1) (fun mz i cy r rn rc g=>i<=n+1/\mz=n+1 - i/\cy=(Num.cr (Num.scaleF BB k) x [] 0 0 i:Nat)/\OwnR h g 103 (.slice r rn rc) ((Num.eachF (Num.scaleF BB k) x [] 0 i 0).map uv)/\Ok h g) (dx h 103 (bl (Num.bv BB x*k))) (by
  intro mz i cy r rn rc; intros; rename_i g hi
  obtain ⟨h1,h2,rfl,ho,ok⟩:=hi
  have hw3:IntKind.wrap .i64 ((i:Int)+1)=((i+1:Nat):Int):=by rw [ap (by omega) (by omega)]; omega
  unfold jX
  rw [hw3]
  have hel:(Num.eachF (Num.scaleF BB k) x [] 0 i 0).length=i:=Num.eachF_len _ _ _ _ _ _
  have hsn:=Num.eachF_snoc (Num.scaleF BB k) x [] i 0 0
  rw [Nat.zero_add] at hsn
  have hcr1:Num.cr (Num.scaleF BB k) x [] 0 0 (i+1)=(Num.scaleF BB k (x.getD i 0) (([]:List Nat).getD i 0) (Num.cr (Num.scaleF BB k) x [] 0 0 i)).2:=by
   show (Num.scaleF BB k (x.getD (0+i) 0) (([]:List Nat).getD (0+i) 0) _).2=_
   rw [Nat.zero_add]
  have hci:=hcr i
  have hxi:=Num.getD_lt (b:=BB) (by decide) hx i
  have hp':=PL ok hp
  have go:=JN hp' (x.getD i 0) (([]:List Nat).getD i 0) (Num.cr (Num.scaleF BB k) x [] 0 0 i) hxi hk (by omega)
  have y0:([]:List Nat).getD i 0=0:=by simp
  refine ae (fun h5=> ?_) (fun h5=> ?_)
  ·have h5:=dT h5
   refine ae (fun h6=> ?_) (fun h6=> ?_)
   ·have h6:=dT h6
    obtain ⟨q,g2,g3⟩:=Dt (ra.ok ok) (i:=(i:Int)) (by omega) (by omega)
    rw [Int.toNat_natCast] at g3
    refine ⟨q,g2,_,g3,ae (fun h7=> ?_) (fun h7=> ?_)⟩
    ·have:=dT h7; omega
    ·refine (show FW SS 185 [.int .u64 ((x.getD i 0:Nat):Int),.int .u64 ((([]:List Nat).getD i 0:Nat):Int),.int .u64 ((Num.cr (Num.scaleF BB k) x [] 0 0 i:Nat):Int),.pointer p] g _ from go).mono ?_ |> (fun hh=>by rw [y0] at hh; exact hh)
     rintro _ _ ⟨rfl,rfl⟩
     refine ⟨_,_,rfl,_,_,_,nJ _,?_⟩
     obtain ⟨b,m,d,u,g6,g7,g8,g9⟩:=fL w ok ho ((Num.scaleF BB k (x.getD i 0) (([]:List Nat).getD i 0) (Num.cr (Num.scaleF BB k) x [] 0 0 i)).1:Nat) (by rw [lM,hel]; omega)
     refine ⟨b,m,d,u,g6,gk (mz - 1) (by omega) ⟨by omega,by omega,by rw [hcr1],?_,g9⟩⟩
     rw [hsn,List.map_append]
     exact g8
   ·have h6:=dF h6
    have hx0:x.getD i 0=0:=by rw [gD,List.getElem?_eq_none (by omega)]; rfl
    refine ae (fun h7=> ?_) (fun h7=> ?_)
    ·have:=dT h7; omega
    ·refine (show FW SS 185 [.int .u64 ((x.getD i 0:Nat):Int),.int .u64 ((([]:List Nat).getD i 0:Nat):Int),.int .u64 ((Num.cr (Num.scaleF BB k) x [] 0 0 i:Nat):Int),.pointer p] g _ from go).mono ?_ |> (fun hh=>by rw [y0,hx0] at hh; exact hh)
     rintro _ _ ⟨rfl,rfl⟩
     refine ⟨_,_,rfl,_,_,_,nJ _,?_⟩
     obtain ⟨b,m,d,u,g6,g7,g8,g9⟩:=fL w ok ho ((Num.scaleF BB k (x.getD i 0) (([]:List Nat).getD i 0) (Num.cr (Num.scaleF BB k) x [] 0 0 i)).1:Nat) (by rw [lM,hel]; omega)
     refine ⟨b,m,d,u,g6,gk (mz - 1) (by omega) ⟨by omega,by omega,by rw [hcr1],?_,g9⟩⟩
     rw [hsn,List.map_append]
     exact g8
  ·have h5:=dF h5
   obtain rfl:i=n+1:=by omega
   refine (nj ho (by rw [hel]; omega)).mono ?_
   rintro _ g2 ⟨a',n',c',rfl,o2,rfl⟩
   rw [fin] at o2
   exact ⟨a',n',c',rfl,a',n',c',rfl,o2,ok⟩)
 refine BZ a n c p h _ ⟨_,sY _ _ _,?_⟩
 have hmx:(if (0:Int) > (n:Int) then (0:Int) else (n:Int))=(n:Int):=if_neg (by omega)
 have hw:IntKind.wrap .i64 ((n:Int)+1)=(n:Int)+1:=ap (by omega) (by omega)
 dsimp only
 rw [hmx,hw]
 exact L (n+1) (i:=0) ⟨by omega,by omega,rfl,.inl ⟨rfl,rfl⟩,Ok.refl w⟩
noncomputable def cC:Code:=(Tryz.f176.body).getD .skip
noncomputable def cB (Q:VH):aj:=cE SS Tryz.f176.results.toList Q
def so:List Nat:=[0,1,5,7,8,9,10,87,88,128,129]
noncomputable def cF (p:List Nat)(w:LV)(h:Heap)(Q:aj):Prop:=bp SS Tryz.f176.ntmps so (aP p cC) w h Q
noncomputable def cD (p b:List Nat)(K:aj):aj:=ky SS Tryz.f176.ntmps so p (aP b cC) K
abbrev Kr (a:OA)(n c:Nat)(b:OA)(m d:Nat)(h:Heap)(Q:VH):Prop:=xP (af SS.P 136 (.slice a n c) (iA m)) fun p1=>xI .u64 (ah SS.P 103 (room h 12) (.pointer (some p1))) fun n2=>xP (af SS.P 136 (.slice a n c) (.int .i64 (IntKind.wrap .i64 ((m:Int) - 1)))) fun p3=>xI .u64 (ah SS.P 103 (room h 12) (.pointer (some p3))) fun n4=>xP (af SS.P 136 (.slice b m d) (.int .i64 (IntKind.wrap .i64 ((m:Int) - 1)))) fun p5=>xI .u64 (ah SS.P 103 (room (room h 12) 16) (.pointer (some p5))) fun n6=>xI .u64 (am SS.P .quo 103 (.int .u64 (IntKind.wrap .u64 (IntKind.wrap .u64 (n2*1000000000)+n4))) (.int .u64 n6)) fun n7=>xP (af SS.P 136 (.slice b m d) (.int .i64 (IntKind.wrap .i64 ((m:Int) - 1)))) fun p8=>xI .u64 (ah SS.P 103 (room (room h 12) 16) (.pointer (some p8))) fun n9=>xI .u64 (am SS.P .rem 103 (.int .u64 (IntKind.wrap .u64 (IntKind.wrap .u64 (n2*1000000000)+n4))) (.int .u64 n9)) fun n10=>cF [1,1,1,1,0,0,0] [(.slice a n c),(.slice b m d),(iA m),(.int .u64 n7),(.int .u64 n10),undef,undef,undef,undef,undef,undef] (room (room h 12) 16) (cD [1,1,1,1,0,0] [] (cB Q))
theorem Ib (a:OA)(n c:Nat)(b:OA)(m d:Nat)(h:Heap)(Q:VH)(hx:Kr a n c b m d h Q):FW SS 176 [(.slice a n c),(.slice b m d)] h Q:=ax (M:=so) (c:=cC) Tryz.func176 (show Tryz.f176.body=some cC by kernel_rfl) (by kernel_rfl) (ai hx (by kernel_rfl))
abbrev gT (a:OA)(n c:Nat)(b:OA)(m d:Nat)  (q:Int) (rest:Int) (y9 y10 y87 y88 y128 y129:Value):LV:=[(.slice a n c),(.slice b m d),(iA m),(.int .u64 q),(.int .u64 rest),y9,y10,y87,y88,y128,y129]
def cd (a:OA)(n c:Nat)(b:OA)(m d:Nat)  (Inv:Nat->Int->Int->Heap->Prop) (mz:Nat) (w:LV) (h:Heap):Prop:= ∃ (q:Int)(rest:Int)(y9 y10 y87 y88 y128 y129:Value),w=(gT a n c b m d q rest y9 y10 y87 y88 y128 y129)/\Inv mz q rest h
abbrev mu (a:OA)(n c:Nat)(b:OA)(m d:Nat)  (Inv:Nat->Int->Int->Heap->Prop) (Q:VH) (mz:Nat) (q:Int) (rest:Int) (y9 y10 y87 y88 y128 y129:Value) (zz:Nat->Value) (h:Heap):Prop:=aw (decide ((q:Int)>=1000000000)) (xP (af SS.P 136 (.slice b m d) (.int .i64 (IntKind.wrap .i64 ((m:Int) - 1)))) fun p11=>xI .u64 (ah SS.P 103 (room h 28) (.pointer (some p11))) fun n12=>aw (decide ((IntKind.wrap .u64 (rest+n12):Int)>=1000000000)) (aw (decide ((IntKind.wrap .u64 (q - 1):Int) < 1000000000)) (cF [1,1,1,1,1,1,0,1,0,0] [(.slice a n c),(.slice b m d),(iA m),(.int .u64 (IntKind.wrap .u64 (q - 1))),(.int .u64 (IntKind.wrap .u64 (rest+n12))),(.int .u64 0),(.int .u64 0),(.int .i64 (IntKind.wrap .i64 ((m:Int)+1))),(.int .i64 0),y128,y129] (room h 28) (cD [1,1,1,1,1,1,0,1,0] [] (cB Q))) (ak (cd a n c b m d Inv) mz [(.slice a n c),(.slice b m d),(iA m),(.int .u64 (IntKind.wrap .u64 (q - 1))),(.int .u64 (IntKind.wrap .u64 (rest+n12))),y9,y10,y87,y88,y128,y129] (room h 28))) (ak (cd a n c b m d Inv) mz [(.slice a n c),(.slice b m d),(iA m),(.int .u64 (IntKind.wrap .u64 (q - 1))),(.int .u64 (IntKind.wrap .u64 (rest+n12))),y9,y10,y87,y88,y128,y129] (room h 28))) (aw (decide (((m:Int):Int) > 1)) (aw (decide ((rest:Int) < 1000000000)) (xP (af SS.P 136 (.slice b m d) (.int .i64 (IntKind.wrap .i64 ((m:Int) - 2)))) fun p13=>xI .u64 (ah SS.P 103 (room h 28) (.pointer (some p13))) fun n14=>xP (af SS.P 136 (.slice a n c) (.int .i64 (IntKind.wrap .i64 ((m:Int) - 2)))) fun p15=>xI .u64 (ah SS.P 103 (room h 28) (.pointer (some p15))) fun n16=>aw (decide ((IntKind.wrap .u64 (q*n14):Int) > IntKind.wrap .u64 (IntKind.wrap .u64 (rest*1000000000)+n16))) (xP (af SS.P 136 (.slice b m d) (.int .i64 (IntKind.wrap .i64 ((m:Int) - 1)))) fun p17=>xI .u64 (ah SS.P 103 (room h 28) (.pointer (some p17))) fun n18=>aw (decide ((IntKind.wrap .u64 (rest+n18):Int)>=1000000000)) (aw (decide ((IntKind.wrap .u64 (q - 1):Int) < 1000000000)) (cF [1,1,1,1,1,1,0,1,0,0] [(.slice a n c),(.slice b m d),(iA m),(.int .u64 (IntKind.wrap .u64 (q - 1))),(.int .u64 (IntKind.wrap .u64 (rest+n18))),(.int .u64 0),(.int .u64 0),(.int .i64 (IntKind.wrap .i64 ((m:Int)+1))),(.int .i64 0),y128,y129] (room h 28) (cD [1,1,1,1,1,1,0,1,0] [] (cB Q))) (ak (cd a n c b m d Inv) mz [(.slice a n c),(.slice b m d),(iA m),(.int .u64 (IntKind.wrap .u64 (q - 1))),(.int .u64 (IntKind.wrap .u64 (rest+n18))),y9,y10,y87,y88,y128,y129] (room h 28))) (ak (cd a n c b m d Inv) mz [(.slice a n c),(.slice b m d),(iA m),(.int .u64 (IntKind.wrap .u64 (q - 1))),(.int .u64 (IntKind.wrap .u64 (rest+n18))),y9,y10,y87,y88,y128,y129] (room h 28))) (cF [1,1,1,1,1,1,0,1,0,0] [(.slice a n c),(.slice b m d),(iA m),(.int .u64 q),(.int .u64 rest),(.int .u64 0),(.int .u64 0),(.int .i64 (IntKind.wrap .i64 ((m:Int)+1))),(.int .i64 0),y128,y129] (room h 28) (cD [1,1,1,1,1,1,0,1,0] [] (cB Q)))) (cF [1,1,1,1,1,1,0,1,0,0] [(.slice a n c),(.slice b m d),(iA m),(.int .u64 q),(.int .u64 rest),(.int .u64 0),(.int .u64 0),(.int .i64 (IntKind.wrap .i64 ((m:Int)+1))),(.int .i64 0),y128,y129] (room h 28) (cD [1,1,1,1,1,1,0,1,0] [] (cB Q)))) (cF [1,1,1,1,1,1,0,1,0,0] [(.slice a n c),(.slice b m d),(iA m),(.int .u64 q),(.int .u64 rest),(.int .u64 0),(.int .u64 0),(.int .i64 (IntKind.wrap .i64 ((m:Int)+1))),(.int .i64 0),y128,y129] (room h 28) (cD [1,1,1,1,1,1,0,1,0] [] (cB Q))))
theorem cL {a:OA}{n c:Nat}{b:OA}{m d:Nat}  {Inv:Nat->Int->Int->Heap->Prop} {mz:Nat} (mq:Nat) {q:Int} {rest:Int} {y9 y10 y87 y88 y128 y129:Value} {h:Heap} (hm:mq < mz) (hi:Inv mq q rest h):ak (cd a n c b m d Inv) mz (gT a n c b m d q rest y9 y10 y87 y88 y128 y129) h:=⟨mq,hm,q,rest,y9,y10,y87,y88,y128,y129,rfl,hi⟩
theorem qF (a:OA)(n c:Nat)(b:OA)(m d:Nat)  (Inv:Nat->Int->Int->Heap->Prop) (Q:VH) (step: ∀ (mz:Nat)(q:Int)(rest:Int)(y9 y10 y87 y88 y128 y129:Value)(zz:Nat->Value)(h:Heap),Inv mz q rest h->mu a n c b m d Inv Q mz q rest y9 y10 y87 y88 y128 y129 zz h) (mz:Nat) {q:Int} {rest:Int} {y9 y10 y87 y88 y128 y129:Value} {h:Heap} (hi:Inv mz q rest h):cF [1,1,1,1,0,0,0] (gT a n c b m d q rest y9 y10 y87 y88 y128 y129) h (cD [1,1,1,1,0,0] [] (cB Q)):=
 an (A:=(cd a n c b m d Inv)) (show aF Tryz.f176.ntmps (aP [1,1,1,1,0,0,0] cC)=true by kernel_rfl) (fun mz w zz h ⟨q,rest,y9,y10,y87,y88,y128,y129,hw,hi⟩=>by subst hw; exact ai (step mz q rest y9 y10 y87 y88 y128 y129 zz h hi) (by kernel_rfl)) mz _ h ⟨q,rest,y9,y10,y87,y88,y128,y129,rfl,hi⟩ (fun zz=>by kernel_rfl) (by kernel_rfl)
abbrev gP (a:OA)(n c:Nat)(b:OA)(m d:Nat)(q aR:Int)(i:Nat)(bo:Int)(cy:Int)(y8 y128 y129:Value):LV:=[(.slice a n c),(.slice b m d),(iA m),(.int .u64 q),y8,(.int .u64 bo),(.int .u64 cy),(.int .i64 aR),(iA i),y128,y129]
def ek (a:OA)(n c:Nat)(b:OA)(m d:Nat)(q aR:Int)(Inv:Nat->Nat->Int->Int->Heap->Prop)(mz:Nat)(w:LV)(h:Heap):Prop:= ∃ (i:Nat)(bo:Int)(cy:Int)(y8 y128 y129:Value),w=(gP a n c b m d q aR i bo cy y8 y128 y129)/\Inv mz i bo cy h
abbrev we (a:OA)(n c:Nat)(b:OA)(m d:Nat)(q aR:Int)(Inv:Nat->Nat->Int->Int->Heap->Prop)(Q:VH)(mz:Nat)(i:Nat)(bo:Int)(cy:Int)(y8 y128 y129:Value)(zz:Nat->Value)(h:Heap):Prop:=aw (decide (((i:Int):Int) < aR)) (aw (decide (((i:Int):Int) < (m:Int))) (xP (af SS.P 136 (.slice b m d) (iA i)) fun p19=>xI .u64 (ah SS.P 103 h (.pointer (some p19))) fun n20=>xP (af SS.P 136 (.slice a n c) (iA i)) fun p21=>xI .u64 (ah SS.P 103 h (.pointer (some p21))) fun n22=>xI .u64 (am SS.P .rem 103 (.int .u64 (IntKind.wrap .u64 (cy+IntKind.wrap .u64 (q*n20)))) (.int .u64 1000000000)) fun n23=>xI .u64 (am SS.P .rem 103 (.int .u64 (IntKind.wrap .u64 (IntKind.wrap .u64 (IntKind.wrap .u64 (n22+1000000000) - n23) - bo))) (.int .u64 1000000000)) fun n24=>xI .u64 (am SS.P .quo 103 (.int .u64 (IntKind.wrap .u64 (IntKind.wrap .u64 (IntKind.wrap .u64 (n22+1000000000) - n23) - bo))) (.int .u64 1000000000)) fun n25=>xI .u64 (am SS.P .quo 103 (.int .u64 (IntKind.wrap .u64 (cy+IntKind.wrap .u64 (q*n20)))) (.int .u64 1000000000)) fun n26=>xP (af SS.P 136 (.slice a n c) (iA i)) fun p27=>xU (al SS.P 103 (.pointer (some p27)) (.int .u64 n24) h) h fun u28 g29=>ak (ek a n c b m d q aR Inv) mz [(.slice a n c),(.slice b m d),(iA m),(.int .u64 q),y8,(.int .u64 (IntKind.wrap .u64 (1 - n25))),(.int .u64 n26),(.int .i64 aR),(.int .i64 (IntKind.wrap .i64 ((i:Int)+1))),y128,y129] g29) (xP (af SS.P 136 (.slice a n c) (iA i)) fun p30=>xI .u64 (ah SS.P 103 h (.pointer (some p30))) fun n31=>xI .u64 (am SS.P .rem 103 (.int .u64 cy) (.int .u64 1000000000)) fun n32=>xI .u64 (am SS.P .rem 103 (.int .u64 (IntKind.wrap .u64 (IntKind.wrap .u64 (IntKind.wrap .u64 (n31+1000000000) - n32) - bo))) (.int .u64 1000000000)) fun n33=>xI .u64 (am SS.P .quo 103 (.int .u64 (IntKind.wrap .u64 (IntKind.wrap .u64 (IntKind.wrap .u64 (n31+1000000000) - n32) - bo))) (.int .u64 1000000000)) fun n34=>xI .u64 (am SS.P .quo 103 (.int .u64 cy) (.int .u64 1000000000)) fun n35=>xP (af SS.P 136 (.slice a n c) (iA i)) fun p36=>xU (al SS.P 103 (.pointer (some p36)) (.int .u64 n33) h) h fun u37 g38=>ak (ek a n c b m d q aR Inv) mz [(.slice a n c),(.slice b m d),(iA m),(.int .u64 q),y8,(.int .u64 (IntKind.wrap .u64 (1 - n34))),(.int .u64 n35),(.int .i64 aR),(.int .i64 (IntKind.wrap .i64 ((i:Int)+1))),y128,y129] g38)) (aw (((bo:Int) == 0)) (Q (.int .u64 q) h) (cF [1,1,1,1,1,1,1,1,1,0,1,0,0] [(.slice a n c),(.slice b m d),(iA m),(.int .u64 q),y8,(.int .u64 bo),(.int .u64 0),(.int .i64 aR),(iA i),(.int .i64 (IntKind.wrap .i64 ((m:Int)+1))),(.int .i64 0)] h (cD [1,1,1,1,1,1,1,1,1,0,1,0] [] (cB Q))))
theorem iJ {a:OA}{n c:Nat}{b:OA}{m d:Nat}{q aR:Int}{Inv:Nat->Nat->Int->Int->Heap->Prop}{mz:Nat}(mq:Nat){i:Nat}{bo:Int}{cy:Int}{y8 y128 y129:Value}{h:Heap}(hm:mq < mz)(hi:Inv mq i bo cy h):ak (ek a n c b m d q aR Inv) mz (gP a n c b m d q aR i bo cy y8 y128 y129) h:=⟨mq,hm,i,bo,cy,y8,y128,y129,rfl,hi⟩
theorem qC (a:OA)(n c:Nat)(b:OA)(m d:Nat)(q aR:Int)(Inv:Nat->Nat->Int->Int->Heap->Prop)(Q:VH)(step: ∀ (mz:Nat) (i:Nat) (bo:Int) (cy:Int) (y8 y128 y129:Value) (zz:Nat->Value) (h:Heap),Inv mz i bo cy h->we a n c b m d q aR Inv Q mz i bo cy y8 y128 y129 zz h)(mz:Nat){i:Nat}{bo:Int}{cy:Int}{y8 y128 y129:Value}{h:Heap}(hi:Inv mz i bo cy h):cF [1,1,1,1,1,1,0,1,0,0] (gP a n c b m d q aR i bo cy y8 y128 y129) h (cD [1,1,1,1,1,1,0,1,0] [] (cB Q)):=
 an (A:=(ek a n c b m d q aR Inv)) (show aF Tryz.f176.ntmps (aP [1,1,1,1,1,1,0,1,0,0] cC)=true by kernel_rfl) (fun mz w zz h ⟨i,bo,cy,y8,y128,y129,hw,hi⟩=>by subst hw; exact ai (step mz i bo cy y8 y128 y129 zz h hi) (by kernel_rfl)) mz _ h ⟨i,bo,cy,y8,y128,y129,rfl,hi⟩ (fun zz=>by kernel_rfl) (by kernel_rfl)
abbrev gG (a:OA)(n c:Nat)(b:OA)(m d:Nat)(q aR:Int)(i:Nat)(cy:Int)(y8 y9 y87 y88:Value):LV:=[(.slice a n c),(.slice b m d),(iA m),(.int .u64 q),y8,y9,(.int .u64 cy),y87,y88,(.int .i64 aR),(iA i)]
def dY (a:OA)(n c:Nat)(b:OA)(m d:Nat)(q aR:Int)(Inv:Nat->Nat->Int->Heap->Prop)(mz:Nat)(w:LV)(h:Heap):Prop:= ∃ (i:Nat)(cy:Int)(y8 y9 y87 y88:Value),w=(gG a n c b m d q aR i cy y8 y9 y87 y88)/\Inv mz i cy h
abbrev wq (a:OA)(n c:Nat)(b:OA)(m d:Nat)(q aR:Int)(Inv:Nat->Nat->Int->Heap->Prop)(Q:VH)(mz:Nat)(i:Nat)(cy:Int)(y8 y9 y87 y88:Value)(zz:Nat->Value)(h:Heap):Prop:=aw (decide (((i:Int):Int) < aR)) (xP (af SS.P 136 (.slice a n c) (iA i)) fun p39=>xI .u64 (ah SS.P 103 h (.pointer (some p39))) fun n40=>aw (decide (((i:Int):Int) < (m:Int))) (xP (af SS.P 136 (.slice b m d) (iA i)) fun p41=>xI .u64 (ah SS.P 103 h (.pointer (some p41))) fun n42=>xI .u64 (am SS.P .rem 103 (.int .u64 (IntKind.wrap .u64 (IntKind.wrap .u64 (n40+cy)+n42))) (.int .u64 1000000000)) fun n43=>xI .u64 (am SS.P .quo 103 (.int .u64 (IntKind.wrap .u64 (IntKind.wrap .u64 (n40+cy)+n42))) (.int .u64 1000000000)) fun n44=>xP (af SS.P 136 (.slice a n c) (iA i)) fun p45=>xU (al SS.P 103 (.pointer (some p45)) (.int .u64 n43) h) h fun u46 g47=>ak (dY a n c b m d q aR Inv) mz [(.slice a n c),(.slice b m d),(iA m),(.int .u64 q),y8,y9,(.int .u64 n44),y87,y88,(.int .i64 aR),(.int .i64 (IntKind.wrap .i64 ((i:Int)+1)))] g47) (xI .u64 (am SS.P .rem 103 (.int .u64 (IntKind.wrap .u64 (n40+cy))) (.int .u64 1000000000)) fun n48=>xI .u64 (am SS.P .quo 103 (.int .u64 (IntKind.wrap .u64 (n40+cy))) (.int .u64 1000000000)) fun n49=>xP (af SS.P 136 (.slice a n c) (iA i)) fun p50=>xU (al SS.P 103 (.pointer (some p50)) (.int .u64 n48) h) h fun u51 g52=>ak (dY a n c b m d q aR Inv) mz [(.slice a n c),(.slice b m d),(iA m),(.int .u64 q),y8,y9,(.int .u64 n49),y87,y88,(.int .i64 aR),(.int .i64 (IntKind.wrap .i64 ((i:Int)+1)))] g52)) (Q (.int .u64 (IntKind.wrap .u64 (q - 1))) h)
theorem iL {a:OA}{n c:Nat}{b:OA}{m d:Nat}{q aR:Int}{Inv:Nat->Nat->Int->Heap->Prop}{mz:Nat}(mq:Nat){i:Nat}{cy:Int}{y8 y9 y87 y88:Value}{h:Heap}(hm:mq < mz)(hi:Inv mq i cy h):ak (dY a n c b m d q aR Inv) mz (gG a n c b m d q aR i cy y8 y9 y87 y88) h:=⟨mq,hm,i,cy,y8,y9,y87,y88,rfl,hi⟩
theorem qD (a:OA)(n c:Nat)(b:OA)(m d:Nat)(q aR:Int)(Inv:Nat->Nat->Int->Heap->Prop)(Q:VH)(step: ∀ (mz:Nat) (i:Nat) (cy:Int) (y8 y9 y87 y88:Value) (zz:Nat->Value) (h:Heap),Inv mz i cy h->wq a n c b m d q aR Inv Q mz i cy y8 y9 y87 y88 zz h)(mz:Nat){i:Nat}{cy:Int}{y8 y9 y87 y88:Value}{h:Heap}(hi:Inv mz i cy h):cF [1,1,1,1,1,1,1,1,1,0,1,0,0] (gG a n c b m d q aR i cy y8 y9 y87 y88) h (cD [1,1,1,1,1,1,1,1,1,0,1,0] [] (cB Q)):=
 an (A:=(dY a n c b m d q aR Inv)) (show aF Tryz.f176.ntmps (aP [1,1,1,1,1,1,1,1,1,0,1,0,0] cC)=true by kernel_rfl) (fun mz w zz h ⟨i,cy,y8,y9,y87,y88,hw,hi⟩=>by subst hw; exact ai (step mz i cy y8 y9 y87 y88 zz h hi) (by kernel_rfl)) mz _ h ⟨i,cy,y8,y9,y87,y88,rfl,hi⟩ (fun zz=>by kernel_rfl) (by kernel_rfl)
noncomputable def cg:Code:=(Tryz.f163.body).getD .skip
noncomputable def fa (Q:VH):aj:=cE SS Tryz.f163.results.toList Q
def pg:List Nat:=[0,1,4,5,6,7,8,9,12,49,50,74,75]
noncomputable def fj (p:List Nat)(w:LV)(h:Heap)(Q:aj):Prop:=bp SS Tryz.f163.ntmps pg (aP p cg) w h Q
noncomputable def fb (p b:List Nat)(K:aj):aj:=ky SS Tryz.f163.ntmps pg p (aP b cg) K
abbrev Hj (a:OA)(n c:Nat)(b:OA)(m d:Nat)(h:Heap)(Q:VH):Prop:=FW SS 160 [(.slice a n c),(.slice b m d)] h fun v1 h2=>yI .i64 v1 fun n3=>aw (decide ((n3:Int) < 0)) (Q (.tuple ⟨[nA,(.slice a n c)]⟩) h2) (xP (af SS.P 136 (.slice b m d) (.int .i64 (IntKind.wrap .i64 ((m:Int) - 1)))) fun p4=>xI .u64 (ah SS.P 103 h2 (.pointer (some p4))) fun n5=>xI .u64 (am SS.P .quo 103 (.int .u64 1000000000) (.int .u64 (IntKind.wrap .u64 (n5+1)))) fun n6=>FW SS 175 [(.slice a n c),(.int .u64 n6)] h2 fun v7 h8=>yL v7 fun a9 n10 c11=>FW SS 175 [(.slice b m d),(.int .u64 n6)] h8 fun v12 h13=>yL v12 fun a14 n15 c16=>fj [1,1,1,1,1,0,0,0] [(.slice a n c),(.slice b m d),nA,nA,(iA m),(.int .u64 n6),(.slice a9 n10 c11),(.slice a14 n15 c16),undef,undef,undef,undef,undef] h13 (fb [1,1,1,1,1,0,0] [] (fa Q)))
theorem EF (a:OA)(n c:Nat)(b:OA)(m d:Nat)(h:Heap)(Q:VH)(hx:Hj a n c b m d h Q):FW SS 163 [(.slice a n c),(.slice b m d)] h Q:=ax (M:=pg) (c:=cg) Tryz.func163 (show Tryz.f163.body=some cg by kernel_rfl) (by kernel_rfl) (ai hx (by kernel_rfl))
abbrev f7 (a:OA)(n c:Nat)(b:OA)(m d:Nat)(kk:Int)(e:OA)(en ec:Nat)(r:OA)(rn:Nat)(rc:Nat)(y4 y5 y12 y49 y50 y74 y75:Value):LV:=[(.slice a n c),(.slice b m d),y4,y5,(iA m),(.int .u64 kk),(.slice r rn rc),(.slice e en ec),y12,y49,y50,y74,y75]
def fA (a:OA)(n c:Nat)(b:OA)(m d:Nat)(kk:Int)(e:OA)(en ec:Nat)(Inv:Nat->OA->Nat->Nat->Heap->Prop)(mz:Nat)(w:LV)(h:Heap):Prop:= ∃ (r:OA)(rn:Nat)(rc:Nat)(y4 y5 y12 y49 y50 y74 y75:Value),w=(f7 a n c b m d kk e en ec r rn rc y4 y5 y12 y49 y50 y74 y75)/\Inv mz r rn rc h
abbrev tB (a:OA)(n c:Nat)(b:OA)(m d:Nat)(kk:Int)(e:OA)(en ec:Nat)(Inv:Nat->OA->Nat->Nat->Heap->Prop)(Q:VH)(mz:Nat)(r:OA)(rn:Nat)(rc:Nat)(y4 y5 y12 y49 y50 y74 y75:Value)(zz:Nat->Value)(h:Heap):Prop:=aw (decide (((rn:Int):Int)<=(n:Int))) (xR (ay SS.P 136 1 [(0,(.int .u64 0))]) h fun B17 n18 c19 g20=>xE (aB SS.P 136 136 (.slice r rn rc) (sA (h.next) n18 c19) g20) g20 fun a21 n22 c23 u24 g25=>ak (fA a n c b m d kk e en ec Inv) mz [(.slice a n c),(.slice b m d),y4,y5,(iA m),(.int .u64 kk),(.slice a21 n22 c23),(.slice e en ec),y12,y49,y50,y74,y75] g25) (xR (aW SS.P 136 (.int .i64 (IntKind.wrap .i64 ((rn:Int) - (m:Int)))) (.int .i64 (IntKind.wrap .i64 ((rn:Int) - (m:Int))))) h fun B26 n27 c28 g29=>fj [1,1,1,1,1,1,1,0,1,0,0] [(.slice a n c),(.slice b m d),(sA (h.next) n27 c28),y5,(iA m),(.int .u64 kk),(.slice r rn rc),(.slice e en ec),y12,(iA n27),(.int .i64 0),y74,y75] g29 (fb [1,1,1,1,1,1,1,0,1,0] [] (fa Q)))
theorem pw {a:OA}{n c:Nat}{b:OA}{m d:Nat}{kk:Int}{e:OA}{en ec:Nat}{Inv:Nat->OA->Nat->Nat->Heap->Prop}{mz:Nat}(mq:Nat){r:OA}{rn:Nat}{rc:Nat}{y4 y5 y12 y49 y50 y74 y75:Value}{h:Heap}(hm:mq < mz)(hi:Inv mq r rn rc h):ak (fA a n c b m d kk e en ec Inv) mz (f7 a n c b m d kk e en ec r rn rc y4 y5 y12 y49 y50 y74 y75) h:=⟨mq,hm,r,rn,rc,y4,y5,y12,y49,y50,y74,y75,rfl,hi⟩
theorem pS (a:OA)(n c:Nat)(b:OA)(m d:Nat)(kk:Int)(e:OA)(en ec:Nat)(Inv:Nat->OA->Nat->Nat->Heap->Prop)(Q:VH)(step: ∀ (mz:Nat) (r:OA) (rn:Nat) (rc:Nat) (y4 y5 y12 y49 y50 y74 y75:Value) (zz:Nat->Value) (h:Heap),Inv mz r rn rc h->tB a n c b m d kk e en ec Inv Q mz r rn rc y4 y5 y12 y49 y50 y74 y75 zz h)(mz:Nat){r:OA}{rn:Nat}{rc:Nat}{y4 y5 y12 y49 y50 y74 y75:Value}{h:Heap}(hi:Inv mz r rn rc h):fj [1,1,1,1,1,0,0,0] (f7 a n c b m d kk e en ec r rn rc y4 y5 y12 y49 y50 y74 y75) h (fb [1,1,1,1,1,0,0] [] (fa Q)):=
 an (A:=(fA a n c b m d kk e en ec Inv)) (show aF Tryz.f163.ntmps (aP [1,1,1,1,1,0,0,0] cg)=true by kernel_rfl) (fun mz w zz h ⟨r,rn,rc,y4,y5,y12,y49,y50,y74,y75,hw,hi⟩=>by subst hw; exact ai (step mz r rn rc y4 y5 y12 y49 y50 y74 y75 zz h hi) (by kernel_rfl)) mz _ h ⟨r,rn,rc,y4,y5,y12,y49,y50,y74,y75,rfl,hi⟩ (fun zz=>by kernel_rfl) (by kernel_rfl)
abbrev fR (a:OA)(n c:Nat)(b:OA)(m d:Nat)(kk:Int)(g:OA)(gn gc:Nat)(r:OA)(rn rc:Nat)(e:OA)(en ec:Nat)(aR:Int)(i:Nat)(y5 y12 y74 y75:Value):LV:=[(.slice a n c),(.slice b m d),(.slice g gn gc),y5,(iA m),(.int .u64 kk),(.slice r rn rc),(.slice e en ec),y12,(.int .i64 aR),(iA i),y74,y75]
def fX (a:OA)(n c:Nat)(b:OA)(m d:Nat)(kk:Int)(g:OA)(gn gc:Nat)(r:OA)(rn rc:Nat)(e:OA)(en ec:Nat)(aR:Int)(Inv:Nat->Nat->Heap->Prop)(mz:Nat)(w:LV)(h:Heap):Prop:= ∃ (i:Nat)(y5 y12 y74 y75:Value),w=(fR a n c b m d kk g gn gc r rn rc e en ec aR i y5 y12 y74 y75)/\Inv mz i h
abbrev kA (a:OA)(n c:Nat)(b:OA)(m d:Nat)(kk:Int)(g:OA)(gn gc:Nat)(r:OA)(rn rc:Nat)(e:OA)(en ec:Nat)(aR:Int)(Inv:Nat->Nat->Heap->Prop)(Q:VH)(mz:Nat)(i:Nat)(y5 y12 y74 y75:Value)(zz:Nat->Value)(h:Heap):Prop:=aw (decide (((i:Int):Int) < aR)) (xL (aL SS.P 136 (.slice r rn rc) (some (.int .i64 (IntKind.wrap .i64 (IntKind.wrap .i64 ((gn:Int) - 1) - (i:Int))))) (some (.int .i64 (IntKind.wrap .i64 (IntKind.wrap .i64 (IntKind.wrap .i64 (IntKind.wrap .i64 ((gn:Int) - 1) - (i:Int))+(m:Int))+1)))) none h) fun a30 n31 c32=>FW SS 176 [(.slice a30 n31 c32),(.slice e en ec)] h fun v33 h34=>yI .u64 v33 fun n35=>xP (af SS.P 136 (.slice g gn gc) (.int .i64 (IntKind.wrap .i64 (IntKind.wrap .i64 ((gn:Int) - 1) - (i:Int))))) fun p36=>xU (al SS.P 103 (.pointer (some p36)) (.int .u64 n35) h34) h34 fun u37 g38=>ak (fX a n c b m d kk g gn gc r rn rc e en ec aR Inv) mz [(.slice a n c),(.slice b m d),(.slice g gn gc),y5,(iA m),(.int .u64 kk),(.slice r rn rc),(.slice e en ec),y12,(.int .i64 aR),(.int .i64 (IntKind.wrap .i64 ((i:Int)+1))),y74,y75] g38) (FW SS 142 [(.slice r rn rc)] h fun v39 h40=>yL v39 fun a41 n42 c43=>fj [1,1,1,1,1,1,1,1,1,1,0,1,0,0] [(.slice a n c),(.slice b m d),(.slice g gn gc),(.slice a41 n42 c43),(iA m),(.int .u64 kk),(.slice r rn rc),(.slice e en ec),(.int .u64 0),(.int .i64 aR),(iA i),(iA n42),(.int .i64 0)] h40 (fb [1,1,1,1,1,1,1,1,1,1,0,1,0] [] (fa Q)))
theorem oA {a:OA}{n c:Nat}{b:OA}{m d:Nat}{kk:Int}{g:OA}{gn gc:Nat}{r:OA}{rn rc:Nat}{e:OA}{en ec:Nat}{aR:Int}{Inv:Nat->Nat->Heap->Prop}{mz:Nat}(mq:Nat){i:Nat}{y5 y12 y74 y75:Value}{h:Heap}(hm:mq < mz)(hi:Inv mq i h):ak (fX a n c b m d kk g gn gc r rn rc e en ec aR Inv) mz (fR a n c b m d kk g gn gc r rn rc e en ec aR i y5 y12 y74 y75) h:=⟨mq,hm,i,y5,y12,y74,y75,rfl,hi⟩
theorem oV (a:OA)(n c:Nat)(b:OA)(m d:Nat)(kk:Int)(g:OA)(gn gc:Nat)(r:OA)(rn rc:Nat)(e:OA)(en ec:Nat)(aR:Int)(Inv:Nat->Nat->Heap->Prop)(Q:VH)(step: ∀ (mz:Nat) (i:Nat) (y5 y12 y74 y75:Value) (zz:Nat->Value) (h:Heap),Inv mz i h->kA a n c b m d kk g gn gc r rn rc e en ec aR Inv Q mz i y5 y12 y74 y75 zz h)(mz:Nat){i:Nat}{y5 y12 y74 y75:Value}{h:Heap}(hi:Inv mz i h):fj [1,1,1,1,1,1,1,0,1,0,0] (fR a n c b m d kk g gn gc r rn rc e en ec aR i y5 y12 y74 y75) h (fb [1,1,1,1,1,1,1,0,1,0] [] (fa Q)):=
 an (A:=(fX a n c b m d kk g gn gc r rn rc e en ec aR Inv)) (show aF Tryz.f163.ntmps (aP [1,1,1,1,1,1,1,0,1,0,0] cg)=true by kernel_rfl) (fun mz w zz h ⟨i,y5,y12,y74,y75,hw,hi⟩=>by subst hw; exact ai (step mz i y5 y12 y74 y75 zz h hi) (by kernel_rfl)) mz _ h ⟨i,y5,y12,y74,y75,rfl,hi⟩ (fun zz=>by kernel_rfl) (by kernel_rfl)
abbrev fU (a:OA)(n c:Nat)(b:OA)(m d:Nat)(kk:Int)(g:OA)(gn gc:Nat)(r:OA)(rn rc:Nat)(aR:Int)(i:Nat)(left:Int)(y0 y1 y6 y8 y9 y49 y50:Value):LV:=[y0,y1,(.slice g gn gc),(.slice r rn rc),y6,(.int .u64 kk),y8,y9,(.int .u64 left),y49,y50,(.int .i64 aR),(iA i)]
def f0 (a:OA)(n c:Nat)(b:OA)(m d:Nat)(kk:Int)(g:OA)(gn gc:Nat)(r:OA)(rn rc:Nat)(aR:Int)(Inv:Nat->Nat->Int->Heap->Prop)(mz:Nat)(w:LV)(h:Heap):Prop:= ∃ (i:Nat)(left:Int)(y0 y1 y6 y8 y9 y49 y50:Value),w=(fU a n c b m d kk g gn gc r rn rc aR i left y0 y1 y6 y8 y9 y49 y50)/\Inv mz i left h
abbrev k6 (a:OA)(n c:Nat)(b:OA)(m d:Nat)(kk:Int)(g:OA)(gn gc:Nat)(r:OA)(rn rc:Nat)(aR:Int)(Inv:Nat->Nat->Int->Heap->Prop)(Q:VH)(mz:Nat)(i:Nat)(left:Int)(y0 y1 y6 y8 y9 y49 y50:Value)(zz:Nat->Value)(h:Heap):Prop:=aw (decide (((i:Int):Int) < aR)) (xP (af SS.P 136 (.slice r rn rc) (.int .i64 (IntKind.wrap .i64 (IntKind.wrap .i64 ((rn:Int) - 1) - (i:Int))))) fun p44=>xI .u64 (ah SS.P 103 h (.pointer (some p44))) fun n45=>xI .u64 (am SS.P .quo 103 (.int .u64 (IntKind.wrap .u64 (IntKind.wrap .u64 (left*1000000000)+n45))) (.int .u64 kk)) fun n46=>xI .u64 (am SS.P .rem 103 (.int .u64 (IntKind.wrap .u64 (IntKind.wrap .u64 (left*1000000000)+n45))) (.int .u64 kk)) fun n47=>xP (af SS.P 136 (.slice r rn rc) (.int .i64 (IntKind.wrap .i64 (IntKind.wrap .i64 ((rn:Int) - 1) - (i:Int))))) fun p48=>xU (al SS.P 103 (.pointer (some p48)) (.int .u64 n46) (room h 11)) (room h 11) fun u49 g50=>ak (f0 a n c b m d kk g gn gc r rn rc aR Inv) mz [y0,y1,(.slice g gn gc),(.slice r rn rc),y6,(.int .u64 kk),y8,y9,(.int .u64 n47),y49,y50,(.int .i64 aR),(.int .i64 (IntKind.wrap .i64 ((i:Int)+1)))] g50) (FW SS 142 [(.slice g gn gc)] h fun v51 h52=>yL v51 fun a53 n54 c55=>FW SS 142 [(.slice r rn rc)] h52 fun v56 h57=>yL v56 fun a58 n59 c60=>Q (.tuple ⟨[(.slice a53 n54 c55),(.slice a58 n59 c60)]⟩) h57)
theorem oY {a:OA}{n c:Nat}{b:OA}{m d:Nat}{kk:Int}{g:OA}{gn gc:Nat}{r:OA}{rn rc:Nat}{aR:Int}{Inv:Nat->Nat->Int->Heap->Prop}{mz:Nat}(mq:Nat){i:Nat}{left:Int}{y0 y1 y6 y8 y9 y49 y50:Value}{h:Heap}(hm:mq < mz)(hi:Inv mq i left h):ak (f0 a n c b m d kk g gn gc r rn rc aR Inv) mz (fU a n c b m d kk g gn gc r rn rc aR i left y0 y1 y6 y8 y9 y49 y50) h:=⟨mq,hm,i,left,y0,y1,y6,y8,y9,y49,y50,rfl,hi⟩
theorem ox (a:OA)(n c:Nat)(b:OA)(m d:Nat)(kk:Int)(g:OA)(gn gc:Nat)(r:OA)(rn rc:Nat)(aR:Int)(Inv:Nat->Nat->Int->Heap->Prop)(Q:VH)(step: ∀ (mz:Nat) (i:Nat) (left:Int) (y0 y1 y6 y8 y9 y49 y50:Value) (zz:Nat->Value) (h:Heap),Inv mz i left h->k6 a n c b m d kk g gn gc r rn rc aR Inv Q mz i left y0 y1 y6 y8 y9 y49 y50 zz h)(mz:Nat){i:Nat}{left:Int}{y0 y1 y6 y8 y9 y49 y50:Value}{h:Heap}(hi:Inv mz i left h):fj [1,1,1,1,1,1,1,1,1,1,0,1,0,0] (fU a n c b m d kk g gn gc r rn rc aR i left y0 y1 y6 y8 y9 y49 y50) h (fb [1,1,1,1,1,1,1,1,1,1,0,1,0] [] (fa Q)):=
 an (A:=(f0 a n c b m d kk g gn gc r rn rc aR Inv)) (show aF Tryz.f163.ntmps (aP [1,1,1,1,1,1,1,1,1,1,0,1,0,0] cg)=true by kernel_rfl) (fun mz w zz h ⟨i,left,y0,y1,y6,y8,y9,y49,y50,hw,hi⟩=>by subst hw; exact ai (step mz i left y0 y1 y6 y8 y9 y49 y50 zz h hi) (by kernel_rfl)) mz _ h ⟨i,left,y0,y1,y6,y8,y9,y49,y50,rfl,hi⟩ (fun zz=>by kernel_rfl) (by kernel_rfl)
end Go.Proofs.YtoabjjimjldcfaaGreatDoor
end
section
namespace Go.Num
theorem subL_snoc (B q:Nat)(u v:List Nat): ∀ k i b c,subL B q u v i (k+1) b c =
    ((subL B q u v i k b c).1++[(qy B q (u.getD (i+k) 0) (v.getD (i+k) 0) (subL B q u v i k b c).2.1 (subL B q u v i k b c).2.2).1],
     (qy B q (u.getD (i+k) 0) (v.getD (i+k) 0) (subL B q u v i k b c).2.1 (subL B q u v i k b c).2.2).2.1,
     (qy B q (u.getD (i+k) 0) (v.getD (i+k) 0) (subL B q u v i k b c).2.1 (subL B q u v i k b c).2.2).2.2)
  | 0,i,b,c=>rfl
  | k+1,i,b,c=>by
    have ih:=subL_snoc B q u v k (i+1) (qy B q (u.getD i 0) (v.getD i 0) b c).2.1 (qy B q (u.getD i 0) (v.getD i 0) b c).2.2
    rw [show i+1+k=i+(k+1) by omega] at ih
    show (_::(subL B q u v (i+1) (k+1) _ _).1,(subL B q u v (i+1) (k+1) _ _).2)=_
    rw [ih]
    rfl
theorem subL_borrow {B q:Nat}(hB:1 < B){u v:List Nat}(hu: ∀ d∈u,d < B)(k:Nat):(subL B q u v 0 k 0 0).2.1<=1:=(FM hB (v:=v) hu k 0 0 0 (by omega)).2
theorem subL_carry_lt {B q:Nat}(hB:1 < B)(hq:q < B){u v:List Nat}(hv: ∀ d∈v,d < B): ∀ k,(subL B q u v 0 k 0 0).2.2 < B
  | 0=>by simp [subL]; omega
  | k+1=>by
    rw [subL_snoc]
    have ih:=subL_carry_lt hB hq (u:=u) hv k
    have h2:=getD_lt (by omega) hv (0+k)
    show (q*v.getD (0+k) 0+(subL B q u v 0 k 0 0).2.2) / B < B
    refine Nat.div_lt_of_lt_mul ?_
    have h3:q*v.getD (0+k) 0<=(B - 1)*(B - 1):=Nat.mul_le_mul (by omega) (by omega)
    have h4:(B - 1)*(B - 1)+(B - 1)=(B - 1)*B:=by rw [<-Nat.mul_succ]; congr 1; omega
    have h5:(B - 1)*B+B=B*B:=by rw [<-Nat.succ_mul]; congr 1; omega
    omega
theorem set_front {α:Type}(x y:List α){i:Nat}(hx:x.length=i)(hi:i < y.length)(d:α):(x++y.drop i).set i d=(x++[d])++y.drop (i+1):=by
  rw [List.set_append,if_neg (by omega),hx,Nat.sub_self,List.drop_eq_getElem_cons hi,List.set_cons_zero,List.append_assoc]; rfl
theorem getD_front (x y:List Nat){i:Nat}(hx:x.length=i):(x++y.drop i).getD i 0=y.getD i 0:=by
  rw [gD,List.getElem?_append_right (by omega),hx,Nat.sub_self,List.getElem?_drop,Nat.add_zero,gD]
end Go.Num
end
section
set_option linter.unusedVariables false
set_option maxRecDepth 100000
namespace Go.Proofs.YtoabjjimjldcfaaGreatDoor
open Go Go.Ab
section
def aU (cs:List Value)(off:Nat)(W:List Nat):List Value:=cs.take off++W.map uv++cs.drop (off+W.length)
structure OkX (h:Heap)(k:Nat)(h':Heap):Prop where
 wf:Wf h'
 keep: ∀ j B,j≠k->h.get j=some B->h'.get j=some B
 nx:h.next<=h'.next
theorem OkX.refl {h:Heap}{k:Nat}(w:Wf h):OkX h k h:=⟨w,fun _ _ _ h=>h,Nat.le_refl _⟩
theorem OkX.room {h h':Heap}{k:Nat}(o:OkX h k h')(n:Nat):OkX h k (room h' n):=⟨fun j B hj=>Nat.lt_of_lt_of_le (o.wf j B hj) (Nat.le_add_right _ _),o.keep,Nat.le_trans o.nx (Nat.le_add_right _ _)⟩
theorem OkX.set {h h':Heap}{k:Nat}(o:OkX h k h')(hk:k < h'.next)(B:Blk):OkX h k (h'.set k B):=by
 refine ⟨fun j C hj=> ?_,fun j C hjk hj=> ?_,o.nx⟩
 ·rw [Heap.get_set] at hj
  split at hj
  ·next e=>rw [e]; exact hk
  ·exact o.wf _ _ hj
 ·rw [Heap.get_set,if_neg hjk]; exact o.keep _ _ hjk hj
theorem tZ {k off n c:Nat}{i:Int}(h0:0<=i)(h1:i < n):af SS.P 136 (.slice (some ⟨k,off,none⟩) n c) (.int .i64 i)=some (.pointer (some ⟨k,off+i.toNat,none⟩)):=by
 unfold af
 rw [xy]; dsimp only
 rw [z7]; dsimp only
 rw [if_pos ⟨h0,h1⟩,Nat.mul_one,bn]
section
variable {g:Heap} {k off:Nat} {cs:List Value} {W:List Nat}
theorem Br (hg:g.get k=some (.cells (aU cs off W) 103 1 true))(hl:off+W.length<=cs.length){i:Nat}(hi:i < W.length):ah SS.P 103 g (.pointer (some ⟨k,off+i,none⟩))=some (.int .u64 (W.getD i 0:Nat)):=by
 unfold ah
 rw [KD]; dsimp only
 rw [hg]; dsimp only
 rw [Ll]
 simp only [Bool.false_eq_true,if_false]
 unfold aU
 rw [List.append_assoc,List.getElem?_append_right (by rw [List.length_take]; omega),List.length_take,Nat.min_eq_left (by omega),Nat.add_sub_cancel_left,List.getElem?_append_left (by rw [lM]; exact hi),List.getElem?_map,gE hi,gD,gE hi]; rfl
theorem AJ (hg:g.get k=some (.cells (aU cs off W) 103 1 true))(hl:off+W.length<=cs.length){i:Nat}(hi:i < W.length)(d:Nat):al SS.P 103 (.pointer (some ⟨k,off+i,none⟩)) (.int .u64 (d:Int)) g=some (undef,.set k (.cells (aU cs off (W.set i d)) 103 1 true)):=by
 show (if aq SS.P 103=some 1 then (storeAt g k (off+i) [.int .u64 (d:Int)]).map fun u=>(undef,u) else none)=_
 rw [if_pos z7]
 unfold storeAt
 rw [hg]; dsimp only
 have hlen:(aU cs off W).length=cs.length:=by
  unfold aU
  simp only [List.length_append,List.length_take,lM,List.length_drop]; omega
 rw [if_pos ⟨by rw [hlen]; simp; omega,rfl⟩]
 have e:(aU cs off W).take (off+i)++[Value.int .u64 (d:Int)]++(aU cs off W).drop (off+i+[Value.int .u64 (d:Int)].length)=aU cs off (W.set i d):=by
  have ht:(cs.take off).length=off:=by rw [List.length_take]; omega
  have e0:(aU cs off W).take (off+i)++[Value.int .u64 (d:Int)]++(aU cs off W).drop (off+i+[Value.int .u64 (d:Int)].length)=(aU cs off W).set (off+i) (.int .u64 (d:Int)):=by
   rw [List.set_eq_take_append_cons_drop,if_pos (by rw [hlen]; omega),List.append_assoc]; rfl
  rw [e0]
  unfold aU
  rw [List.append_assoc,List.set_append,if_neg (by omega),ht,Nat.add_sub_cancel_left,List.set_append,if_pos (by rw [lM]; exact hi),List.length_set,List.append_assoc,List.map_set]; rfl
 rw [e]; rfl
end
end
theorem z3 {a:Nat}:am SS.P .rem 103 (.int .u64 (a:Int)) (.int .u64 1000000000)=some (.int .u64 ((a % BB:Nat):Int)):=by
 have:=cJ (P:=SS.P) (t:=103) (k:= .u64) (a:=(a:Int)) (b:=BB) (by omega) (by decide)
 rw [<-Int.natCast_emod] at this; exact this
theorem DY {a:Nat}(h:a < 18446744073709551616):am SS.P .quo 103 (.int .u64 (a:Int)) (.int .u64 1000000000)=some (.int .u64 ((a / BB:Nat):Int)):=by
 have:=kQ (P:=SS.P) (t:=103) (a:=(a:Int)) (b:=BB) (by omega) (by omega) (by decide)
 rw [<-Int.natCast_ediv] at this; exact this
theorem TU {a b:Nat}(hb:0 < b):am SS.P .rem 103 (.int .u64 (a:Int)) (.int .u64 (b:Int))=some (.int .u64 ((a % b:Nat):Int)):=by
 have:=cJ (P:=SS.P) (t:=103) (k:= .u64) (a:=(a:Int)) (b:=b) (by omega) hb
 rw [<-Int.natCast_emod] at this; exact this
theorem Pk {a b:Nat}(h:a < 18446744073709551616)(hb:0 < b):am SS.P .quo 103 (.int .u64 (a:Int)) (.int .u64 (b:Int))=some (.int .u64 ((a / b:Nat):Int)):=by
 have:=kQ (P:=SS.P) (t:=103) (a:=(a:Int)) (b:=b) (by omega) (by omega) hb
 rw [<-Int.natCast_ediv] at this; exact this
theorem wU {n:Int}{m:Nat}(h:n=(m:Int))(h2:m < 18446744073709551616):IntKind.wrap .u64 n=(m:Int):=by rw [h]; exact cI (by omega) (by omega)
structure DigIn (h:Heap)(k off c m:Nat)(cs:List Value)(U V:List Nat)(b:Option Addr)(d:Nat):Prop where
 w:Wf h
 get:h.get k=some (.cells (aU cs off U) 103 1 true)
 fit:off+U.length<=cs.length
 ul:U.length=m+1
 vl:V.length=m
 mp:0 < m
 mle:m<=10000
 ult: ∀ x∈U,x < BB
 vlt: ∀ x∈V,x < BB
 v1:0 < V.getD (m - 1) 0
 lt:Num.bv BB U < BB*Num.bv BB V
 rd: ∀ g,OkX h k g->Rd g 103 (.slice b m d) (V.map uv)
def Fv (h:Heap)(k off:Nat)(cs:List Value)(m:Nat)(U V:List Nat):VH:=fun v h'=> ∃ W:List Nat,W.length=m+1/\(∀ x∈W,x < BB)/\Num.bv BB W=Num.bv BB U % Num.bv BB V/\v=uv (Num.bv BB U / Num.bv BB V)/\h'.get k=some (.cells (aU cs off W) 103 1 true)/\OkX h k h'
theorem HA {h:Heap}{k off c m:Nat}{cs:List Value}{U V:List Nat}{b:Option Addr}{d:Nat}(D:DigIn h k off c m cs U V b d):
  FW SS 176 [.slice (some ⟨k,off,none⟩) (m+1) c,.slice b m d] h (Fv h k off cs m U V):=by
 have hBv:BB=1000000000:=rfl
 have hul:=D.ul
 have hvl:=D.vl
 have hmp:=D.mp
 have hmle:=D.mle
 have hB0:0 < BB:=by decide
 have ug: ∀ i,U.getD i 0 < BB:=fun i=>Num.getD_lt hB0 D.ult i
 have vg: ∀ i,V.getD i 0 < BB:=fun i=>Num.getD_lt hB0 D.vlt i
 have hw1:IntKind.wrap .i64 ((m:Int) - 1)=((m - 1:Nat):Int):=by rw [ap (by omega) (by omega)]; omega
 have hw2:1 < m->IntKind.wrap .i64 ((m:Int) - 2)=((m - 2:Nat):Int):=fun hm=>by rw [ap (by omega) (by omega)]; omega
 have hwm:IntKind.wrap .i64 ((m:Int)+1)=(m:Int)+1:=ap (by omega) (by omega)
 have wi: ∀ i:Nat,i<=m->IntKind.wrap .i64 ((i:Int)+1)=((i+1:Nat):Int):=fun i hi=>by rw [ap (by omega) (by omega)]; omega
 have L3:=fun (qn:Nat) (W:List Nat) (hq0:0 < qn) (hqB:qn < BB) (hwl:W.length=m+1) (hwlt: ∀ x∈W,x < BB) (hq:qn - 1=Num.bv BB U / Num.bv BB V) (hres:Num.bv BB (Num.eachF (Num.plusF BB) W V 0 (m+1) 0)=Num.bv BB U % Num.bv BB V)=>
  qD (some ⟨k,off,none⟩) (m+1) c b m d (qn:Int) ((m:Int)+1) (fun mz i cy g=>i<=m+1/\mz=m+1 - i/\cy=(Num.cr (Num.plusF BB) W V 0 0 i:Nat)/\g.get k=some (.cells (aU cs off (Num.eachF (Num.plusF BB) W V 0 i 0++W.drop i)) 103 1 true)/\OkX h k g) (Fv h k off cs m U V) (by
  intro mz i cy; intros; rename_i g hi
  obtain ⟨h1,h2,rfl,hg,ok⟩:=hi
  have hel:(Num.eachF (Num.plusF BB) W V 0 i 0).length=i:=Num.eachF_len _ _ _ _ _ _
  have hsn:=Num.eachF_snoc (Num.plusF BB) W V i 0 0
  rw [Nat.zero_add] at hsn
  have hcr1:Num.cr (Num.plusF BB) W V 0 0 (i+1)=(Num.plusF BB (W.getD i 0) (V.getD i 0) (Num.cr (Num.plusF BB) W V 0 0 i)).2:=by
   show (Num.plusF BB (W.getD (0+i) 0) (V.getD (0+i) 0) _).2=_
   rw [Nat.zero_add]
  have wg:W.getD i 0 < BB:=Num.getD_lt hB0 hwlt i
  have hcb:Num.cr (Num.plusF BB) W V 0 0 i<=1:=by
   clear hcr1 hsn hel hg h2 h1
   induction i with
   | zero=>exact Nat.zero_le _
   | succ j ih=>
    have a1:=Num.getD_lt (b:=BB) hB0 hwlt (0+j)
    have a2:=vg (0+j)
    have a3:=ih (Num.getD_lt hB0 hwlt j)
    show (W.getD (0+j) 0+V.getD (0+j) 0+Num.cr (Num.plusF BB) W V 0 0 j) / BB<=1
    have:(W.getD (0+j) 0+V.getD (0+j) 0+Num.cr (Num.plusF BB) W V 0 0 j) / BB < 2:=Nat.div_lt_of_lt_mul (by omega)
    omega
  have hvi:=vg i
  have hlen:(Num.eachF (Num.plusF BB) W V 0 i 0++W.drop i).length=m+1:=by rw [List.length_append,hel,List.length_drop]; omega
  have hfit:=D.fit
  refine ae (fun h5=> ?_) (fun h5=> ?_)
  ·have h5:=dT h5
   have hl:=Br hg (by rw [hlen]; omega) (i:=i) (by rw [hlen]; omega)
   rw [Num.getD_front _ _ hel] at hl
   have hkn:=ok.wf _ _ hg
   have step: ∀ (s:Nat),s=W.getD i 0+V.getD i 0+Num.cr (Num.plusF BB) W V 0 0 i->
     al SS.P 103 (.pointer (some ⟨k,off+i,none⟩)) (.int .u64 ((s % BB:Nat):Int)) g=some (undef,.set k (.cells (aU cs off (Num.eachF (Num.plusF BB) W V 0 (i+1) 0++W.drop (i+1))) 103 1 true)):=fun s hs=>by
    rw [AJ hg (by rw [hlen]; omega) (by rw [hlen]; omega),Num.set_front _ _ hel (by omega),hsn,hs]; rfl
   refine ⟨_,tZ (by omega) (by omega),_,by rw [Int.toNat_natCast]; exact hl,?_⟩
   have e1:IntKind.wrap .u64 (((W.getD i 0:Nat):Int)+((Num.cr (Num.plusF BB) W V 0 0 i:Nat):Int))=((W.getD i 0+Num.cr (Num.plusF BB) W V 0 0 i:Nat):Int):=wU (by omega) (by omega)
   dsimp only
   rw [e1,wi i (by omega)]
   refine ae (fun h6=> ?_) (fun h6=> ?_)
   ·have h6:=dT h6
    obtain ⟨p,g2,g3⟩:=Dt (D.rd g ok) (i:=(i:Int)) (by omega) (by omega)
    rw [Int.toNat_natCast] at g3
    refine ⟨p,g2,_,g3,?_⟩
    have e2:IntKind.wrap .u64 (((W.getD i 0+Num.cr (Num.plusF BB) W V 0 0 i:Nat):Int)+((V.getD i 0:Nat):Int))=((W.getD i 0+V.getD i 0+Num.cr (Num.plusF BB) W V 0 0 i:Nat):Int):=wU (by omega) (by omega)
    dsimp only
    rw [e2]
    refine ⟨_,z3,_,DY (by omega),_,tZ (by omega) (by omega),_,by rw [Int.toNat_natCast]; exact step _ rfl,?_⟩
    refine iL (mz - 1) (by omega) ⟨by omega,by omega,by rw [hcr1]; rfl,?_,ok.set hkn _⟩
    show (g.set k _).get k=_
    rw [Heap.get_set,if_pos rfl]
   ·have h6:=dF h6
    have hv0:V.getD i 0=0:=by rw [gD,List.getElem?_eq_none (by omega)]; rfl
    refine ⟨_,z3,_,DY (by omega),_,tZ (by omega) (by omega),_,by rw [Int.toNat_natCast]; exact step _ (by omega),?_⟩
    refine iL (mz - 1) (by omega) ⟨by omega,by omega,?_,?_,ok.set hkn _⟩
    ·rw [hcr1]
     show _=(((W.getD i 0+V.getD i 0+Num.cr (Num.plusF BB) W V 0 0 i) / BB:Nat):Int)
     rw [hv0,Nat.add_zero]
    ·show (g.set k _).get k=_
     rw [Heap.get_set,if_pos rfl]
  ·have h5:=dF h5
   obtain rfl:i=m+1:=by omega
   have e3:IntKind.wrap .u64 ((qn:Int) - 1)=((qn - 1:Nat):Int):=wU (by omega) (by omega)
   rw [e3]
   rw [List.drop_of_length_le (by omega),List.append_nil] at hg
   exact ⟨_,hel,Num.eachF_lt (fun p q c=>Nat.mod_lt _ hB0) _ _ _ _ _,hres,by rw [hq]; rfl,hg,ok⟩)
 have L2:=fun (qn:Nat) (hqB:qn < BB) (hhi:Num.bv BB U < (qn+1)*Num.bv BB V) (hlo:qn*Num.bv BB V < Num.bv BB U+Num.bv BB V)=>
  qC (some ⟨k,off,none⟩) (m+1) c b m d (qn:Int) ((m:Int)+1) (fun mz i bo cy g=>i<=m+1/\mz=m+1 - i/\bo=((Num.subL BB qn U V 0 i 0 0).2.1:Nat)/\cy=((Num.subL BB qn U V 0 i 0 0).2.2:Nat)/\g.get k=some (.cells (aU cs off ((Num.subL BB qn U V 0 i 0 0).1++U.drop i)) 103 1 true)/\OkX h k g) (Fv h k off cs m U V) (by
  intro mz i bo cy; intros; rename_i g hi
  obtain ⟨h1,h2,rfl,rfl,hg,ok⟩:=hi
  have hel:(Num.subL BB qn U V 0 i 0 0).1.length=i:=Num.subL_len _ _ _ _ _ _ _ _
  have hsn:=Num.subL_snoc BB qn U V i 0 0 0
  rw [Nat.zero_add] at hsn
  have hbo:=Num.subL_borrow (q:=qn) (v:=V) cG D.ult i
  have hcy:=Num.subL_carry_lt cG hqB (u:=U) D.vlt i
  generalize hst:Num.subL BB qn U V 0 i 0 0=st at *
  obtain ⟨Wl,bo,cy⟩:=st
  dsimp only at hel hg hbo hcy hsn ⊢
  have hlen:(Wl++U.drop i).length=m+1:=by rw [List.length_append,hel,List.length_drop]; omega
  have hfit:=D.fit
  have hui:=ug i
  have hvi:=vg i
  have hqv:qn*V.getD i 0<=999999999*999999999:=Nat.mul_le_mul (by omega) (by omega)
  refine ae (fun h5=> ?_) (fun h5=> ?_)
  ·have h5:=dT h5
   have hl:=Br hg (by rw [hlen]; omega) (i:=i) (by rw [hlen]; omega)
   rw [Num.getD_front _ _ hel] at hl
   have hkn:=ok.wf _ _ hg
   have step: ∀ (s:Nat),s=qn*V.getD i 0+cy->
     al SS.P 103 (.pointer (some ⟨k,off+i,none⟩)) (.int .u64 (((U.getD i 0+BB - s % BB - bo) % BB:Nat):Int)) g=some (undef,.set k (.cells (aU cs off ((Num.subL BB qn U V 0 (i+1) 0 0).1++U.drop (i+1))) 103 1 true)):=fun s hs=>by
    rw [AJ hg (by rw [hlen]; omega) (by rw [hlen]; omega),Num.set_front _ _ hel (by omega),hsn,hs]; rfl
   have rest: ∀ (s:Nat),s=qn*V.getD i 0+cy-> ∀ (p21:Addr),p21=⟨k,off+i,none⟩->
     ∃ n23:Int,am SS.P .rem 103 (.int .u64 (s:Int)) (.int .u64 1000000000)=some (.int .u64 n23)/\n23=((s % BB:Nat):Int):=fun s _ _ _=>⟨_,z3,rfl⟩
   rw [wi i (by omega)]
   have fin: ∀ (s:Nat),s=qn*V.getD i 0+cy->((1 - (U.getD i 0+BB - s % BB - bo) / BB:Nat):Int)=((Num.subL BB qn U V 0 (i+1) 0 0).2.1:Nat)/\((s / BB:Nat):Int)=((Num.subL BB qn U V 0 (i+1) 0 0).2.2:Nat):=fun s hs=>by
    rw [hsn,hs]; exact ⟨rfl,rfl⟩
   have ed: ∀ s:Nat,IntKind.wrap .u64 (IntKind.wrap .u64 (IntKind.wrap .u64 (((U.getD i 0:Nat):Int)+1000000000) - ((s % BB:Nat):Int)) - (bo:Int))=((U.getD i 0+BB - s % BB - bo:Nat):Int):=fun s=>by
    have hm:=Nat.mod_lt s hB0
    generalize s % BB=z at hm
    have a1:IntKind.wrap .u64 (((U.getD i 0:Nat):Int)+1000000000)=((U.getD i 0+BB:Nat):Int):=wU (by omega) (by omega)
    have a2:IntKind.wrap .u64 (((U.getD i 0+BB:Nat):Int) - (z:Int))=((U.getD i 0+BB - z:Nat):Int):=wU (by omega) (by omega)
    have a3:IntKind.wrap .u64 (((U.getD i 0+BB - z:Nat):Int) - (bo:Int))=((U.getD i 0+BB - z - bo:Nat):Int):=wU (by omega) (by omega)
    rw [a1,a2,a3]
   have e1b: ∀ s:Nat,IntKind.wrap .u64 (1 - (((U.getD i 0+BB - s % BB - bo) / BB:Nat):Int))=((1 - (U.getD i 0+BB - s % BB - bo) / BB:Nat):Int):=fun s=>by
    have h9:(U.getD i 0+BB - s % BB - bo) / BB < 2:=Nat.div_lt_of_lt_mul (by omega)
    generalize (U.getD i 0+BB - s % BB - bo) / BB=z at h9 ⊢
    exact wU (by omega) (by omega)
   refine ae (fun h6=> ?_) (fun h6=> ?_)
   ·have h6:=dT h6
    obtain ⟨p,g2,g3⟩:=Dt (D.rd g ok) (i:=(i:Int)) (by omega) (by omega)
    rw [Int.toNat_natCast] at g3
    refine ⟨p,g2,_,g3,_,tZ (by omega) (by omega),_,by rw [Int.toNat_natCast]; exact hl,?_⟩
    have e2:IntKind.wrap .u64 ((cy:Int)+IntKind.wrap .u64 ((qn:Int)*((V.getD i 0:Nat):Int)))=((qn*V.getD i 0+cy:Nat):Int):=by
     have e0:IntKind.wrap .u64 ((qn:Int)*((V.getD i 0:Nat):Int))=((qn*V.getD i 0:Nat):Int):=wU (by rw [Int.natCast_mul]) (by omega)
     rw [e0]
     exact wU (by omega) (by omega)
    rw [e2]
    refine ⟨_,z3,?_⟩
    dsimp only
    rw [ed]
    have hm:=Nat.mod_lt (qn*V.getD i 0+cy) hB0
    refine ⟨_,z3,_,DY (by omega),_,DY (by omega),_,tZ (by omega) (by omega),_,by rw [Int.toNat_natCast]; exact step _ rfl,?_⟩
    rw [e1b]
    refine iJ (mz - 1) (by omega) ⟨by omega,by omega,(fin _ rfl).1,(fin _ rfl).2,?_,ok.set hkn _⟩
    show (g.set k _).get k=_
    rw [Heap.get_set,if_pos rfl]
   ·have h6:=dF h6
    have hv0:V.getD i 0=0:=by rw [gD,List.getElem?_eq_none (by omega)]; rfl
    have hs0:cy=qn*V.getD i 0+cy:=by rw [hv0,Nat.mul_zero,Nat.zero_add]
    refine ⟨_,tZ (by omega) (by omega),_,by rw [Int.toNat_natCast]; exact hl,_,z3,?_⟩
    dsimp only
    rw [ed]
    have hm:=Nat.mod_lt cy hB0
    refine ⟨_,z3,_,DY (by omega),_,DY (by omega),_,tZ (by omega) (by omega),_,by rw [Int.toNat_natCast]; exact step _ hs0,?_⟩
    rw [e1b]
    refine iJ (mz - 1) (by omega) ⟨by omega,by omega,(fin _ hs0).1,(fin _ hs0).2,?_,ok.set hkn _⟩
    show (g.set k _).get k=_
    rw [Heap.get_set,if_pos rfl]
  ·have h5:=dF h5
   obtain rfl:i=m+1:=by omega
   obtain ⟨d0,d1,d2⟩:=Num.digit_done cG D.ult D.vlt D.ul D.vl hqB hhi hlo
   have hwlt:=Num.subL_lt (q:=qn) cG U V (m+1) 0 0 0
   rw [hst] at d0 d1 d2 hwlt
   dsimp only at d0 d1 d2 hwlt
   rw [List.drop_of_length_le (by omega),List.append_nil] at hg
   refine ae (fun h6=> ?_) (fun h6=> ?_)
   ·have h6:(bo:Int)=0:=by simpa using h6
    obtain ⟨e1,e2⟩:=d1 (by omega)
    exact ⟨Wl,hel,hwlt,e2,by rw [e1]; rfl,hg,ok⟩
   ·have h6: ¬ (bo:Int)=0:=by simpa using h6
    obtain ⟨e0,e1,e2⟩:=d2 (by omega)
    rw [hwm]
    exact L3 qn Wl e0 hqB hel hwlt e1 e2 (m+1) (i:=0) ⟨by omega,by omega,rfl,by simpa [Num.eachF] using hg,ok⟩)
 have hv1:=D.v1
 have htop:U.getD m 0*BB+U.getD (m - 1) 0 < 1000000000000000000:=by
  have a1:=ug m
  have a2:=ug (m - 1)
  have a3:U.getD m 0*BB=1000000000*U.getD m 0:=by rw [hBv,Nat.mul_comm]
  omega
 have L1:=qF (some ⟨k,off,none⟩) (m+1) c b m d (fun mz q rest g=> ∃ qn rn:Nat,q=(qn:Int)/\rest=(rn:Int)/\mz=qn/\Num.Trial BB m U V qn rn/\g.get k=some (.cells (aU cs off U) 103 1 true)/\OkX h k g) (Fv h k off cs m U V) (by
  intro mz q rest; intros; rename_i g hi
  obtain ⟨qn,rn,rfl,rfl,rfl,T,hg,ok⟩:=hi
  have hT:=T.eq
  have hfit:=D.fit
  have hrl:rn < 1000000000000000000:=Nat.lt_of_le_of_lt (by rw [<-hT]; omega) htop
  have hql:mz < 1000000000000000000:=by
   refine Nat.lt_of_le_of_lt ?_ htop
   rw [<-hT]
   have:=Nat.le_mul_of_pos_right mz hv1
   omega
  have ok':=ok.room 28
  have hg':(room g 28).get k=some (.cells (aU cs off U) 103 1 true):=hg
  have hv1B:=vg (m - 1)
  have hj:((m - 1:Nat):Int).toNat=m - 1:=by omega
  obtain ⟨p1,g2,g3⟩:=Dt (D.rd _ ok') (i:=((m - 1:Nat):Int)) (by omega) (by omega)
  rw [hj] at g3
  have er:IntKind.wrap .u64 ((rn:Int)+((V.getD (m - 1) 0:Nat):Int))=((rn+V.getD (m - 1) 0:Nat):Int):=wU (by omega) (by omega)
  have leave: ∀ (qn':Nat),qn' < BB->Num.bv BB U < (qn'+1)*Num.bv BB V->qn'*Num.bv BB V < Num.bv BB U+Num.bv BB V->_:=fun qn' h1 h2 h3=>L2 qn' h1 h2 h3
  have low:Num.bv BB U < mz*Num.bv BB V->0 < mz/\Num.Trial BB m U V (mz - 1) (rn+V.getD (m - 1) 0):=fun hl=>⟨by
   rcases Nat.eq_zero_or_pos mz with e | e
   ·subst e; rw [Nat.zero_mul] at hl; omega
   ·exact e,T.lower hl⟩
  have broke:mz - 1 < BB->BB<=rn+V.getD (m - 1) 0->Num.Trial BB m U V (mz - 1) (rn+V.getD (m - 1) 0)->(mz - 1)*Num.bv BB V < Num.bv BB U+Num.bv BB V:=fun h1 h2 T'=>
   T'.last cG D.ul D.vl hmp D.vlt hv1 h1 fun _=>Num.trial_broke h1 (vg (m - 2)) h2
  have body:Num.bv BB U < mz*Num.bv BB V->True:=fun _=>trivial
  unfold mu
  rw [hw1]
  refine ae (fun h5=> ?_) (fun h5=> ?_)
  ·have h5:=dT h5
   obtain ⟨hq0,T'⟩:=low (Num.Trial.great D.lt (by omega))
   have eq1:IntKind.wrap .u64 ((mz:Int) - 1)=((mz - 1:Nat):Int):=wU (by omega) (by omega)
   rw [eq1]
   refine ⟨p1,g2,_,g3,?_⟩
   dsimp only
   rw [er]
   generalize hzz:decide (((mz - 1:Nat):Int) < 1000000000)=bz
   refine ae (fun h6=>ae (fun h7=> ?_) (fun h7=> ?_)) (fun h6=> ?_)
   ·subst hzz
    have h6:=dT h6
    have h7:=dT h7
    rw [hwm]
    exact L2 (mz - 1) (by omega) T'.hi (broke (by omega) (by omega) T') (m+1) (i:=0) ⟨by omega,by omega,rfl,rfl,by simpa [Num.subL] using hg',ok'⟩
   ·exact cL (mz - 1) (by omega) ⟨mz - 1,_,rfl,rfl,rfl,T',hg',ok'⟩
   ·exact cL (mz - 1) (by omega) ⟨mz - 1,_,rfl,rfl,rfl,T',hg',ok'⟩
  ·have h5:=dF h5
   have hqB:mz < BB:=by omega
   have done:(1 < m->mz*V.getD (m - 2) 0<=rn*BB+U.getD (m - 2) 0)->mz*Num.bv BB V < Num.bv BB U+Num.bv BB V:=fun hs=>T.last cG D.ul D.vl hmp D.vlt hv1 hqB hs
   refine ae (fun h6=> ?_) (fun h6=> ?_)
   ·have h6:=dT h6
    have hm1:1 < m:=by omega
    rw [hw2 hm1]
    generalize hzz:decide ((rn:Int) < 1000000000)=bz
    refine ae (fun h7=> ?_) (fun h7=> ?_)
    ·subst hzz
     have h7:=dT h7
     have hj2:((m - 2:Nat):Int).toNat=m - 2:=by omega
     obtain ⟨p2,g4,g5⟩:=Dt (D.rd _ ok') (i:=((m - 2:Nat):Int)) (by omega) (by omega)
     rw [hj2] at g5
     have hl:=Br hg' hfit (i:=m - 2) (by omega)
     refine ⟨p2,g4,_,g5,_,tZ (by omega) (by omega),_,by rw [hj2]; exact hl,?_⟩
     have hv2:=vg (m - 2)
     have hu2:=ug (m - 2)
     have hqv:mz*V.getD (m - 2) 0<=999999999*999999999:=Nat.mul_le_mul (by omega) (by omega)
     have ea:IntKind.wrap .u64 ((mz:Int)*((V.getD (m - 2) 0:Nat):Int))=((mz*V.getD (m - 2) 0:Nat):Int):=wU (by rw [Int.natCast_mul]) (by omega)
     obtain ⟨RB,hRB⟩: ∃ x,x=rn*BB:=⟨_,rfl⟩
     have hRB':RB=1000000000*rn:=by rw [hRB,hBv,Nat.mul_comm]
     obtain ⟨MV,hMV⟩: ∃ x,x=mz*V.getD (m - 2) 0:=⟨_,rfl⟩
     rw [<-hMV] at hqv ea
     have eb:IntKind.wrap .u64 ((rn:Int)*1000000000)=(RB:Int):=wU (by omega) (by omega)
     have ec:IntKind.wrap .u64 ((RB:Int)+((U.getD (m - 2) 0:Nat):Int))=((RB+U.getD (m - 2) 0:Nat):Int):=wU (by omega) (by omega)
     dsimp only
     rw [ea,eb,ec]
     generalize hyy:decide ((MV:Int) > ((RB+U.getD (m - 2) 0:Nat):Int))=by_
     refine ae (fun h8=> ?_) (fun h8=> ?_)
     ·subst hyy
      have h8:=dT h8
      obtain ⟨hq0,T'⟩:=low (T.second D.ul D.vl hm1 D.ult (by rw [<-hRB,<-hMV]; omega))
      have eq1:IntKind.wrap .u64 ((mz:Int) - 1)=((mz - 1:Nat):Int):=wU (by omega) (by omega)
      rw [eq1]
      refine ⟨p1,g2,_,g3,?_⟩
      dsimp only
      rw [er]
      generalize hxx:decide (((mz - 1:Nat):Int) < 1000000000)=bx
      refine ae (fun h9=>ae (fun h10=> ?_) (fun h10=> ?_)) (fun h9=> ?_)
      ·have h9:=dT h9
       rw [hwm]
       exact L2 (mz - 1) (by omega) T'.hi (broke (by omega) (by omega) T') (m+1) (i:=0) ⟨by omega,by omega,rfl,rfl,by simpa [Num.subL] using hg',ok'⟩
      ·exact cL (mz - 1) (by omega) ⟨mz - 1,_,rfl,rfl,rfl,T',hg',ok'⟩
      ·exact cL (mz - 1) (by omega) ⟨mz - 1,_,rfl,rfl,rfl,T',hg',ok'⟩
     ·subst hyy
      have h8:=dF h8
      rw [hwm]
      exact L2 mz hqB T.hi (done fun _=>by rw [<-hRB,<-hMV]; omega) (m+1) (i:=0) ⟨by omega,by omega,rfl,rfl,by simpa [Num.subL] using hg',ok'⟩
    ·subst hzz
     have h7:=dF h7
     rw [hwm]
     exact L2 mz hqB T.hi (done fun _=>Num.trial_broke hqB (vg (m - 2)) (by omega)) (m+1) (i:=0) ⟨by omega,by omega,rfl,rfl,by simpa [Num.subL] using hg',ok'⟩
   ·have h6:=dF h6
    rw [hwm]
    exact L2 mz hqB T.hi (done fun hm=>by omega) (m+1) (i:=0) ⟨by omega,by omega,rfl,rfl,by simpa [Num.subL] using hg',ok'⟩)
 have ok1:=(OkX.refl (k:=k) D.w).room 12
 have ok2:=ok1.room 16
 have hfit:=D.fit
 have hj:((m - 1:Nat):Int).toNat=m - 1:=by omega
 have hl1:=Br (g:=room h 12) D.get hfit (i:=m) (by omega)
 have hl2:=Br (g:=room h 12) D.get hfit (i:=m - 1) (by omega)
 obtain ⟨p1,g2,g3⟩:=Dt (D.rd _ ok2) (i:=((m - 1:Nat):Int)) (by omega) (by omega)
 rw [hj] at g3
 have a1:=ug m
 have a2:=ug (m - 1)
 refine Ib _ _ _ _ _ _ h _ ⟨_,tZ (by omega) (by omega),_,by rw [Int.toNat_natCast]; exact hl1,?_⟩
 rw [hw1]
 refine ⟨_,tZ (by omega) (by omega),_,by rw [hj]; exact hl2,p1,g2,_,g3,?_⟩
 obtain ⟨TB,hTB⟩: ∃ x,x=U.getD m 0*BB:=⟨_,rfl⟩
 have hTB':TB=1000000000*U.getD m 0:=by rw [hTB,hBv,Nat.mul_comm]
 have ea:IntKind.wrap .u64 (((U.getD m 0:Nat):Int)*1000000000)=(TB:Int):=wU (by omega) (by omega)
 have eb:IntKind.wrap .u64 ((TB:Int)+((U.getD (m - 1) 0:Nat):Int))=((TB+U.getD (m - 1) 0:Nat):Int):=wU (by omega) (by omega)
 rw [ea,eb]
 have hstart:=Num.Trial.start cG D.ul D.vl hmp D.ult hv1
 rw [<-hTB] at hstart
 refine ⟨_,Pk (by omega) hv1,p1,g2,_,g3,_,TU hv1,?_⟩
 exact L1 _ ⟨_,_,rfl,rfl,rfl,hstart,D.get,ok2⟩
theorem OwnR.weak {h0 h1 h:Heap}{e:TypeId}{v:Value}{vs:List Value}(hn:h0.next<=h1.next)(o:OwnR h1 h e v vs):OwnR h0 h e v vs:=by
 rcases o with o | ⟨k,cs,h1',h2,h3,h4,h5⟩
 ·exact .inl o
 ·exact .inr ⟨k,cs,h1',Nat.le_trans hn h2,h3,h4,h5⟩
theorem UQ (k:Int):fp SS.P 103 (.int .u64 k)=some (.cells [.int .u64 k] 103 0 true,kw):=by kernel_rfl
theorem sM {h:Heap}{a:Option Addr}{n c:Nat}{x:List Nat}(ra:Rd h 103 (.slice a n c) (x.map uv))(hx: ∀ d∈x,d < BB)(hlen:x.length<=10000){k:Nat}(hk0:0 < k)(hk:k<=BB)(w:Wf h):
  FW SS 175 [.slice a n c,.int .u64 (k:Int)] h (dx h 103 (bl (Num.bv BB x*k))):=by
 have ok:=(Ok.refl w).push (.cells [.int .u64 (k:Int)] 103 0 true)
 refine FX a n c _ h _ ⟨_,UQ _,?_⟩
 have hp:ah SS.P 103 (h.push (.cells [.int .u64 (k:Int)] 103 0 true)) (.pointer (some ⟨h.next,0,none⟩))=some (.int .u64 (k:Int)):=by
  unfold ah
  rw [KD]; dsimp only
  rw [Heap.get_push,if_pos rfl]; dsimp only
  rw [Ll]; rfl
 refine (Cm (ra.ok ok) hx hlen hp hk0 hk ok.wf).mono ?_
 rintro _ h3 ⟨a4,n5,c6,rfl,o,ok3⟩
 exact ⟨a4,n5,c6,rfl,a4,n5,c6,rfl,OwnR.weak (Nat.le_succ _) o,ok.trans ok3⟩
def RowC (h:Heap)(k off n c:Nat)(l:List Nat):Prop:= ∃ cs wr,h.get k=some (.cells cs 103 1 wr)/\n=l.length/\(cs.drop off).take n=l.map uv/\n<=aN c
theorem RowC.rd {h:Heap}{k off n c:Nat}{l:List Nat}(r:RowC h k off n c l):Rd h 103 (.slice (some ⟨k,off,none⟩) n c) (l.map uv):=by
 obtain ⟨cs,wr,h1,rfl,h3,h4⟩:=r
 exact .inr ⟨k,off,cs,c,wr,by rw [lM],h1,by rw [lM]; exact h3⟩
theorem RowC.take {h:Heap}{k off n c:Nat}{l:List Nat}(r:RowC h k off n c l){j:Nat}(hj:j<=n):aL SS.P 136 (.slice (some ⟨k,off,none⟩) n c) none (some (.int .i64 (j:Int))) none h=some (.slice (some ⟨k,off,none⟩) j c)/\RowC h k off j c (l.take j):=by
 obtain ⟨cs,wr,h1,rfl,h3,h4⟩:=r
 refine ⟨?_,cs,wr,h1,by rw [List.length_take]; omega,?_,by omega⟩
 ·unfold aL
  dsimp only
  rw [xy]
  dsimp only [bK]
  rw [z7,h1]
  dsimp only
  have e2:((j:Int) - ((0:Nat):Int)).toNat=j:=by omega
  have e0:((0:Nat):Int).toNat=0:=rfl
  rw [if_pos (by simp),if_pos (by omega),e2,e0]; rfl
 ·have:=congrArg (List.take j) h3
  rwa [List.take_take,Nat.min_eq_left hj,<-List.map_take] at this
theorem kU {h:Heap}{k off n c:Nat}{l:List Nat}(r:RowC h k off n c l)(hlen:l.length<=100000):
  FW SS 142 [.slice (some ⟨k,off,none⟩) n c] h (fun v h'=>v = .slice (some ⟨k,off,none⟩) (Num.trimL l).length c/\h'=h):=by
 have hn:n=l.length:=by obtain ⟨_,_,_,h2,_⟩:=r; exact h2
 have L:=jU (some ⟨k,off,none⟩) n c (fun mz r m d g=>m<=l.length/\mz=m/\r=some ⟨k,off,none⟩/\d=c/\RowC h k off m c (l.take m)/\Num.trimL l=Num.trimL (l.take m)/\g=h) (fun v h'=>v = .slice (some ⟨k,off,none⟩) (Num.trimL l).length c/\h'=h) (by
  intro mz r m d; intros; rename_i g hi
  obtain ⟨h1,rfl,rfl,rfl,h3,h4,rfl⟩:=hi
  have hw:IntKind.wrap .i64 ((mz:Int) - 1)=(mz:Int) - 1:=ap (by omega) (by omega)
  unfold iu
  rw [hw]
  have hm:mz≠0->l.take mz=l.take (mz - 1)++[l.getD (mz - 1) 0]:=fun hm=>by
   obtain ⟨j,rfl⟩: ∃ j,mz=j+1:=⟨mz - 1,by omega⟩
   rw [List.take_succ_eq_append_getElem (by omega),Nat.add_sub_cancel,gD,gE (by omega)]; rfl
  refine ae (fun h5=> ?_) (fun h5=> ?_)
  ·have h5:=dT h5
   obtain ⟨p,g2,g3⟩:=Dt h3.rd (i:=(mz:Int) - 1) (by omega) (by rw [List.length_take]; omega)
   have e1:(l.take mz).getD ((mz:Int) - 1).toNat 0=l.getD (mz - 1) 0:=by
    rw [show ((mz:Int) - 1).toNat=mz - 1 by omega,gD,List.getElem?_take,if_pos (by omega),gD]
   rw [e1] at g3
   refine ⟨p,g2,_,g3,ae (fun h6=> ?_) (fun h6=> ?_)⟩
   ·have h6:((l.getD (mz - 1) 0:Nat):Int)=0:=by simpa using h6
    have h6:l.getD (mz - 1) 0=0:=by omega
    obtain ⟨g4,g5⟩:=h3.take (j:=mz - 1) (by omega)
    rw [show ((mz:Int) - 1)=((mz - 1:Nat):Int) by omega]
    refine ⟨_,_,_,g4,j4 (mz - 1) (by omega) ⟨by omega,rfl,rfl,rfl,?_,?_,rfl⟩⟩
    ·rw [List.take_take,Nat.min_eq_left (by omega)] at g5
     exact g5
    ·rw [h4,hm (by omega),h6,Num.trimL_snoc_zero]
   ·have h6: ¬ ((l.getD (mz - 1) 0:Nat):Int)=0:=by simpa using h6
    refine ⟨?_,rfl⟩
    rw [h4,hm (by omega),Num.trimL_snoc_pos _ (by omega),<-hm (by omega),List.length_take,Nat.min_eq_left h1]
  ·have h5:=dF h5
   obtain rfl:mz=0:=by omega
   refine ⟨?_,rfl⟩
   rw [h4]; rfl)
 exact Bx _ n c h _ (L n ⟨by omega,rfl,rfl,rfl,by rw [show l.take n=l by rw [hn,List.take_length]]; exact r,by rw [show l.take n=l by rw [hn,List.take_length]],rfl⟩)
end Go.Proofs.YtoabjjimjldcfaaGreatDoor
end
section
namespace Go.Ab
open Go
theorem OwnR.snocX {P:Program}{t e:TypeId}{i:TypeInfo}(hU:P.underlying t=some (.slice e))(hE:dz P e=some i)(hs:i.size=1){h0 h:Heap}(w0:Wf h0)(a:Ok h0 h){v:Value}{vs:List Value}(o:OwnR h0 h e v vs){x:Value}(hx:bL x=true)(hl:(vs.length+1)*i.bytes<=70368744177664)(hl2:vs.length+1<=1099511627776):
  ∃ (b:Option Addr)(n c:Nat)(u:Upd),aB P t t v (nq 1 1 h.next) (h.push (.cells [x] e 1 true))=some (.slice b n c,u)/\n=vs.length+1/\OwnR h0 (u.app (h.push (.cells [x] e 1 true))) e (.slice b n c) (vs++[x])/\Ok h0 (u.app (h.push (.cells [x] e 1 true)))/\
   (∀ j B,h.get j=some B->(∀ o n c,v≠ .slice (some ⟨j,o,none⟩) n c)->(u.app (h.push (.cells [x] e 1 true))).get j=some B)/\
   (∀ j o m d,Value.slice b n c = .slice (some ⟨j,o,none⟩) m d->h.next<=j\/ ∃ o n c,v = .slice (some ⟨j,o,none⟩) n c):=by
 have hT:ca P t=true:=by unfold ca; rw [hU]
 have hsrc:dJ (h.push (.cells [x] e 1 true)) i.size (nq 1 1 h.next)=some ([x],1):=by
  show (match (h.push (.cells [x] e 1 true)).get h.next with | some (.cells cs ..)=>if ((cs.drop 0).take (1*i.size)).length=1*i.size then some ((cs.drop 0).take (1*i.size),1) else none | _=>none)=_
  rw [Heap.get_push,if_pos rfl,hs]; rfl
 have hap:=OwnR.push a o (.cells [x] e 1 true)
 have a':=a.push (.cells [x] e 1 true)
 have old: ∀ j B,h.get j=some B->(h.push (.cells [x] e 1 true)).get j=some B:=fun j B hj=>by
  rw [Heap.get_push,if_neg (fun e=>by have:=a.wf _ _ hj; omega)]; exact hj
 have oldn: ∀ j B,h.get j=some B->j < h.next:=fun j B hj=>a.wf _ _ hj
 generalize hh:h.push (.cells [x] e 1 true)=g at *
 have hgn:h.next < g.next:=by rw [<-hh]; exact Nat.lt_succ_self _
 unfold aB
 rw [hU]; dsimp only
 rw [hE]; dsimp only
 rw [if_pos hT,hsrc]; dsimp only
 rw [if_pos (by simp [hx,hs])]
 rcases hap with ⟨rfl,rfl⟩ | ⟨k,cs,rfl,h2,h3,h4,h5⟩
 ·show ∃ b n c u,(if 1=0 then some (Value.slice none 0 0,Upd.no) else if 1*i.bytes<=70368744177664/\1<=1099511627776 then some (Value.slice (some ⟨g.next,0,none⟩) 1 (bm+1),Upd.push (.cells [x] e i.size true)) else none)=_/\_
  rw [if_neg (by omega),if_pos (by simpa using And.intro hl hl2)]
  refine ⟨_,_,_,_,rfl,rfl,.inr ⟨g.next,[x],rfl,a'.nx,?_,rfl,by simp⟩,a'.push _,fun j B hj _=> ?_,fun j o m d e=> .inl ?_⟩
  rotate_left
  ·show (g.push _).get j=_
   rw [Heap.get_push,if_neg (fun e=>by have:=oldn _ _ hj; omega)]
   exact old _ _ hj
  ·injection e with e1 e2 e3
   injection e1 with e1
   injection e1 with e1
   omega
  show (g.push (.cells [x] e i.size true)).get g.next=_
  rw [Heap.get_push,if_pos rfl,hs]
 ·dsimp only
  rw [if_neg (by omega),hs,Nat.mul_one]
  have hcap:aN (bm+cs.length)=cs.length:=by unfold aN; rw [if_pos (by omega)]; omega
  rw [hcap]
  have hkn:=a'.wf _ _ h3
  by_cases hroom:vs.length+1<=cs.length
  ·rw [if_pos hroom]
   unfold storeAt
   rw [Nat.zero_add,h3]
   dsimp only
   rw [if_pos ⟨by simp; omega,by simp [hx]⟩]
   refine ⟨_,_,_,_,rfl,rfl,.inr ⟨k,cs.take vs.length++[x]++cs.drop (vs.length+1),?_,h2,?_,?_,?_⟩,?_,fun j B hj hv=> ?_,fun j o m d e=> .inr ?_⟩
   rotate_left 5
   ·show (g.set k _).get j=_
    rw [Heap.get_set,if_neg (fun e=>hv 0 _ _ (by rw [e]))]
    exact old _ _ hj
   ·injection e with e1 e2 e3
    injection e1 with e1
    injection e1 with e1
    exact ⟨0,_,_,by rw [<-e1]⟩
   ·simp only [List.length_append,List.length_cons,List.length_nil,List.length_take,List.length_drop]
    congr 1; omega
   ·show (g.set k _).get k=_
    rw [Heap.get_set,if_pos rfl]; rfl
   ·have h6:(cs.take vs.length).length=vs.length:=by rw [List.length_take]; omega
    rw [List.length_append,List.append_assoc,<-List.append_assoc,List.take_append_of_le_length (by simp; omega),List.take_of_length_le (by simp; omega),h4]
   ·simp; omega
   ·exact a'.set _ h2 hkn w0
  ·rw [if_neg hroom]
   have hcl:cs.length=vs.length:=by omega
   unfold gz
   rw [if_pos ⟨hl,hl2⟩,h3]
   dsimp only
   rw [Nat.mul_one,if_pos ⟨rfl,rfl,by simp; omega⟩,if_neg (by omega),if_pos ⟨rfl,by omega⟩]
   refine ⟨_,_,_,_,rfl,rfl,.inr ⟨g.next,vs++[x],?_,a'.nx,?_,?_,?_⟩,?_,fun j B hj hv=> ?_,fun j o m d e=> .inl ?_⟩
   rotate_left 5
   ·show ((g.del k).push _).get j=_
    rw [Heap.get_push,if_neg (fun e=>by have:=oldn _ _ hj; have:j=g.next:=e; omega),Heap.get_del,if_neg (fun e=>hv 0 _ _ (by rw [e]))]
    exact old _ _ hj
   ·injection e with e1 e2 e3
    injection e1 with e1
    injection e1 with e1
    have:g.next=j:=e1
    omega
   ·rw [List.length_append]; rfl
   ·show ((g.del k).push _).get g.next=_
    rw [Heap.get_push,if_pos (show g.next=(g.del k).next from rfl),List.drop_zero,h4]
   ·exact List.take_length
   ·exact Nat.le_refl _
   ·refine ⟨?_,fun j C hj=> ?_,Nat.le_trans a'.nx (Nat.le_succ _)⟩
    ·refine Heap.wf_push (fun j C hj=> ?_) _
     rw [Heap.get_del] at hj
     split at hj
     ·cases hj
     ·exact a'.wf _ _ hj
    ·have h7:=a'.ext _ _ hj
     have h8:=a'.wf _ _ h7
     show ((g.del k).push _).get j=_
     rw [Heap.get_push,if_neg (fun e=>by have:j=g.next:=e; omega),Heap.get_del,if_neg (fun e=>by have:=w0 _ _ hj; omega)]
     exact h7
end Go.Ab
end
section
namespace Go.Num
theorem trimL_take (l:List Nat):l.take (trimL l).length=trimL l/\(trimL l).length<=l.length:=by
 induction l using kN with
 | h0=>exact ⟨rfl,Nat.le_refl _⟩
 | h1 l d ih=>
  by_cases hd:d=0
  ·subst hd
   rw [trimL_snoc_zero]
   refine ⟨?_,by rw [List.length_append]; omega⟩
   rw [List.take_append_of_le_length ih.2]
   exact ih.1
  ·rw [trimL_snoc_pos l hd,List.take_length]
   exact ⟨rfl,Nat.le_refl _⟩
theorem toB_top {B n:Nat}(hB:1 < B)(hn:0 < n):0 < (toB B n).getD ((toB B n).length - 1) 0:=by
 have h1:=(OY hB n).2
 have h2:toB B n≠[]:=fun e=>by have:=(toB_eq_nil hB).1 e; omega
 rw [List.getLast?_eq_getElem?] at h1
 rw [gD]
 cases h:(toB B n)[(toB B n).length - 1]? with
 | none=>
  have:=List.length_pos_iff.2 h2
  rw [gE (by omega)] at h; cases h
 | some d=>
  rw [h] at h1
  have:d≠0:=fun e=>h1 (by rw [e])
  show 0 < d
  omega
theorem toB_len_eq {B n m:Nat}(hB:1 < B)(h1:n < B ^ m)(h2:B ^ (m - 1)<=n)(hm:0 < m):(toB B n).length=m:=by
 refine Nat.le_antisymm (toB_len_le hB h1) ?_
 rcases Nat.lt_or_ge (toB B n).length m with h | h
 ·have h3:=bv_lt (toB_lt hB n)
  rw [bv_toB hB] at h3
  have:B ^ (toB B n).length<=B ^ (m - 1):=Nat.pow_le_pow_right (by omega) (by omega)
  omega
 ·exact h
theorem factor {B Y:Nat}(hB:1 < B)(hY:0 < Y):let m:=(toB B Y).length; let top:=(toB B Y).getD (m - 1) 0; let k:=B / (top+1)
  0 < m/\top < B/\0 < k/\k<=B/\B ^ (m - 1)<=Y/\Y*k < B ^ m:=by
 intro m top k
 have hm:0 < m:=List.length_pos_iff.2 fun e=>by have:=(toB_eq_nil hB).1 e; omega
 have ht:top < B:=getD_lt (by omega) (toB_lt hB Y) _
 have hk:0 < k:=Nat.div_pos (by omega) (by omega)
 have hlow:=qI hB hY
 refine ⟨hm,ht,hk,Nat.div_le_self _ _,hlow,?_⟩
 have hup:Y < (top+1)*B ^ (m - 1):=by
  have h1:=sy B (toB B Y) (m - 1) (by omega)
  rw [iS (show (toB B Y).length=m - 1+1 by omega),bv_toB hB] at h1
  have h2:=bv_lt (b:=B) (x:=(toB B Y).take (m - 1)) (fun d hd=>toB_lt hB Y d (List.mem_of_mem_take hd))
  rw [List.length_take,Nat.min_eq_left (by omega)] at h2
  rw [Nat.add_mul,Nat.one_mul,Nat.mul_comm top]
  show Y < B ^ (m - 1)*top+_
  have:(toB B Y).getD (m - 1) 0=top:=rfl
  rw [this] at h1
  omega
 have h3:Y*k < (top+1)*B ^ (m - 1)*k:=Nat.mul_lt_mul_of_pos_right hup hk
 have h4:(top+1)*k<=B:=by rw [Nat.mul_comm]; exact Nat.div_mul_le_self _ _
 have h5:(top+1)*B ^ (m - 1)*k=(top+1)*k*B ^ (m - 1):=by rw [Nat.mul_right_comm]
 have h6:(top+1)*k*B ^ (m - 1)<=B*B ^ (m - 1):=Nat.mul_le_mul_right _ h4
 have h7:B*B ^ (m - 1)=B ^ m:=by rw [Nat.mul_comm,<-Nat.pow_succ]; congr 1; omega
 omega
end Go.Num
end
section
set_option linter.unusedVariables false
set_option maxRecDepth 100000
namespace Go.Proofs.YtoabjjimjldcfaaGreatDoor
open Go Go.Ab
theorem z4: ∀ n,bh [uv 0] n=(List.replicate n 0).map uv
 | 0=>rfl
 | n+1=>by rw [bh,z4 n]; rfl
noncomputable def ti103:TypeInfo:=(SS.P.info? 103).getD default
theorem Oq:SS.P.info? 103=some ti103:=by kernel_rfl
theorem Jv:ti103.size=1:=by kernel_rfl
theorem Gi:ti103.bytes=8:=by kernel_rfl
theorem SK:cp SS.P 103=some (uv 0):=by kernel_rfl
theorem Uh (n:Nat)(hn:n<=100000):aW SS.P 136 (.int .i64 (n:Int)) (.int .i64 (n:Int))=some (.cells ((List.replicate n 0).map uv) 103 1 true,nq n n):=by
 unfold aW aG
 dsimp only
 rw [xy]
 try dsimp only
 change (match SS.P.info? 103,cp SS.P 103 with
  | some i,some z=>(if z.cells.size=i.size/\0 < i.size/\(0:Int)<=(n:Int)/\(n:Int)<=(n:Int)/\(n:Int)*i.bytes<=140737488355328/\(n:Int)<=1099511627776 then some (Blk.cells (bh z.cells.toList (n:Int).toNat) 103 i.size true,fun k=>Value.slice (some ⟨k,0,none⟩) (n:Int).toNat (n:Int).toNat) else none)
  | _,_=>none)=_
 rw [Oq,SK]
 dsimp only
 rw [Jv,Gi,if_pos ⟨rfl,by omega,by omega,Int.le_refl _,by omega,by omega⟩]
 have e:((n:Int)).toNat=n:=by omega
 rw [e,show (uv 0).cells.toList=[uv 0] from rfl,z4]; rfl
theorem hH {C:List Value}{off:Nat}{W:List Nat}(h:(C.drop off).take W.length=W.map uv):aU C off W=C:=by
 unfold aU
 rw [<-h,List.append_assoc,<-List.drop_drop,List.take_append_drop,List.take_append_drop]
theorem Cj {C:List Value}{U W W':List Nat}{at':Nat}(hU:at'+W'.length<=U.length)(hl:U.length<=C.length)(hw:W'.length=W.length)(hW:(U.drop at').take W.length=W):
  aU (aU C 0 U) at' W'=aU C 0 (U.take at'++W'++U.drop (at'+W'.length)):=by
 unfold aU
 have h1:(C.take 0++U.map uv++C.drop (0+U.length)).take at'=(U.take at').map uv:=by
  rw [List.take_zero,List.nil_append,List.take_append_of_le_length (by rw [lM]; omega),List.map_take]
 have h2:(C.take 0++U.map uv++C.drop (0+U.length)).drop (at'+W'.length)=(U.drop (at'+W'.length)).map uv++C.drop (0+U.length):=by
  rw [List.take_zero,List.nil_append,List.drop_append_of_le_length (by rw [lM]; omega),List.map_drop]
 have h3:(U.take at'++W'++U.drop (at'+W'.length)).length=U.length:=by
  simp only [List.length_append,List.length_take,List.length_drop]; omega
 rw [h1,h2,h3,List.map_append,List.map_append,List.take_zero,List.nil_append,List.append_assoc,List.append_assoc,List.append_assoc]
theorem lC {C:List Value}{U:List Nat}{at' n:Nat}(hU:at'+n<=U.length):((aU C 0 U).drop at').take n=((U.drop at').take n).map uv:=by
 unfold aU
 rw [List.take_zero,List.nil_append,List.drop_append_of_le_length (by rw [lM]; omega),List.take_append_of_le_length (by rw [List.length_drop,lM]; omega),<-List.map_drop,<-List.map_take]
theorem Af {C:List Value}{off:Nat}{W:List Nat}(h:off+W.length<=C.length):(aU C off W).length=C.length:=by
 unfold aU
 simp only [List.length_append,List.length_take,lM,List.length_drop]; omega
theorem RowC.window {h:Heap}{k off n c:Nat}{l:List Nat}(r:RowC h k off n c l){lo hi:Nat}(h1:lo<=hi)(h2:hi<=n):aL SS.P 136 (.slice (some ⟨k,off,none⟩) n c) (some (.int .i64 (lo:Int))) (some (.int .i64 (hi:Int))) none h=some (.slice (some ⟨k,off+lo,none⟩) (hi - lo) (c - lo)):=by
 obtain ⟨cs,wr,h1',rfl,h3,h4⟩:=r
 unfold aL
 dsimp only
 rw [xy]
 dsimp only [bK]
 rw [z7,h1']
 dsimp only
 have e1:((hi:Int) - (lo:Int)).toNat=hi - lo:=by omega
 have e0:((lo:Nat):Int).toNat=lo:=by omega
 rw [if_pos (by simp),if_pos (by omega),e1,e0,Nat.mul_one]
structure DState (h2 G:Heap)(ku kv kq:Nat)(cu:List Value)(cv:List Value)(U Ql:List Nat)(N m XK V j:Nat):Prop where
 ok:Ok h2 G
 w2:Wf h2
 u2:h2.next<=ku
 q2:h2.next<=kq
 gu:G.get ku=some (.cells (aU cu 0 U) 103 1 true)
 gv:G.get kv=some (.cells cv 103 1 true)
 gq:G.get kq=some (.cells (aU ((List.replicate (N+1 - m) 0).map uv) 0 Ql) 103 1 true)
 uv':ku≠kv
 uq:ku≠kq
 vq:kv≠kq
 ul:U.length=N+1
 cl:N+1<=cu.length
 qlen:Ql.length=N+1 - m
 vrow:(cv.take (Num.toB BB V).length)=bl V
 inv:Num.DivInv BB m V XK U Ql j
end Go.Proofs.YtoabjjimjldcfaaGreatDoor
end
section
set_option linter.defProp false
set_option linter.unusedVariables false
set_option maxRecDepth 100000
namespace Go.Proofs.YtoabjjimjldcfaaGreatDoor
open Go Go.Ab
def EM (h:Heap)(X Y:Nat):VH:=fun v h'=> ∃ (a1:Option Addr)(n1 c1:Nat)(a2:Option Addr)(n2 c2:Nat),v = .tuple ⟨[.slice a1 n1 c1,.slice a2 n2 c2]⟩/\Rd h' 103 (.slice a1 n1 c1) (bl (X / Y))/\Rd h' 103 (.slice a2 n2 c2) (bl (X % Y))/\Ok h h'
theorem yF {g:Heap}{k n c:Nat}{C:List Value}{l:List Nat}(hg:g.get k=some (.cells (aU C 0 l) 103 1 true))(hn:n=l.length)(hc:n<=aN c):RowC g k 0 n c l:=by
 refine ⟨_,_,hg,hn,?_,hc⟩
 subst hn
 rw [lC (by omega),List.drop_zero,List.take_length]
theorem vJ {g:Heap}{k n c:Nat}{l:List Nat}(r:RowC g k 0 n c l)(hl: ∀ d∈l,d < BB):Rd g 103 (.slice (some ⟨k,0,none⟩) (Num.trimL l).length c) (bl (Num.bv BB l)):=by
 obtain ⟨h1,h2⟩:=Num.trimL_take l
 have hn:n=l.length:=by obtain ⟨_,_,_,h,_⟩:=r; exact h
 have h3:=(r.take (j:=(Num.trimL l).length) (by omega)).2.rd
 rw [h1,Num.trimL_eq cG hl] at h3
 rw [Num.trimL_eq cG hl]
 exact h3
def SD {h:Heap}(w:Wf h){X Y ku kq rl rc L k R:Nat}{C Zq:List Value}{Ql:List Nat}(hku:h.next<=ku)(hkq:h.next<=kq)(hne:ku≠kq)(hrl:rl<=C.length)(hrl2:rl<=10000)(hL:L=Ql.length)(hL2:L<=10000)(hcap:rl<=aN rc)(hcapL:L<=aN L)(k0:0 < k)(kB:k<=BB)
  (hQ: ∀ d∈Ql,d < BB) (hq:Num.bv BB Ql=X / Y) (hr:R / k=X % Y) (a:Option Addr) (n c:Nat) (b:Option Addr) (m d:Nat):=
 ox a n c b m d (k:Int) (some ⟨kq,0,none⟩) L L (some ⟨ku,0,none⟩) rl rc (rl:Int)
  (fun mz i left g=>i<=rl/\mz=rl - i/\(∃ (r:List Nat)(ln:Nat),r.length=rl/\left=(ln:Int)/\Num.SmallInv BB k R r (rl - i) ln/\g.get ku=some (.cells (aU C 0 r) 103 1 true))/\g.get kq=some (.cells (aU Zq 0 Ql) 103 1 true)/\Ok h g) (EM h X Y) (by
  intro mz i left; intros; rename_i g hi
  obtain ⟨h1,h2,⟨r,ln,hrlen,rfl,inv,hg⟩,hgq,ok⟩:=hi
  have hBv:BB=1000000000:=rfl
  have hw1:IntKind.wrap .i64 ((rl:Int) - 1)=(rl:Int) - 1:=ap (by omega) (by omega)
  have hw2:IntKind.wrap .i64 ((rl:Int) - 1 - (i:Int))=(rl:Int) - 1 - (i:Int):=ap (by omega) (by omega)
  have hw3:IntKind.wrap .i64 ((i:Int)+1)=((i+1:Nat):Int):=by rw [ap (by omega) (by omega)]; omega
  unfold k6
  rw [hw1,hw2,hw3]
  refine ae (fun h5=> ?_) (fun h5=> ?_)
  ·have h5:=dT h5
   have hj:((rl:Int) - 1 - (i:Int)).toNat=rl - 1 - i:=by omega
   have hl:=Br hg (by rw [hrlen]; omega) (i:=rl - 1 - i) (by rw [hrlen]; omega)
   have hlt:=inv.lt
   have hrj:r.getD (rl - 1 - i) 0 < BB:=Num.getD_lt (by decide) inv.rl _
   obtain ⟨LB,hLB⟩: ∃ x,x=ln*BB:=⟨_,rfl⟩
   have hLB':LB=1000000000*ln:=by rw [hLB,hBv,Nat.mul_comm]
   have ea:IntKind.wrap .u64 ((ln:Int)*1000000000)=(LB:Int):=wU (by omega) (by omega)
   have eb:IntKind.wrap .u64 ((LB:Int)+((r.getD (rl - 1 - i) 0:Nat):Int))=((LB+r.getD (rl - 1 - i) 0:Nat):Int):=wU (by omega) (by omega)
   refine ⟨_,tZ (by omega) (by omega),_,by rw [hj]; exact hl,?_⟩
   dsimp only
   rw [ea,eb]
   refine ⟨_,Pk (by omega) k0,_,TU k0,_,tZ (by omega) (by omega),?_⟩
   have hst:=AJ (g:=room g 11) hg (by rw [hrlen]; omega) (i:=rl - 1 - i) (by rw [hrlen]; omega) ((LB+r.getD (rl - 1 - i) 0) / k)
   have ok':=ok.room 11
   have hkn:=ok'.wf _ _ (show (room g 11).get ku=_ from hg)
   refine ⟨_,by rw [hj]; exact hst,?_⟩
   have hstep:=Num.SmallInv.step (at':=rl - 1 - i) k0 (by rw [show rl - 1 - i+1=rl - i by omega]; exact inv)
   rw [<-hLB] at hstep
   refine oY (mz - 1) (by omega) ⟨by omega,by omega,⟨r.set (rl - 1 - i) ((LB+r.getD (rl - 1 - i) 0) / k),(LB+r.getD (rl - 1 - i) 0) % k,by rw [List.length_set,hrlen],rfl,by rw [show rl - (i+1)=rl - 1 - i by omega]; exact hstep,?_⟩,?_,ok'.set _ hku hkn w⟩
   ·show ((room g 11).set ku _).get ku=_
    rw [Heap.get_set,if_pos rfl]
   ·show ((room g 11).set ku _).get kq=_
    rw [Heap.get_set,if_neg (fun e=>hne e.symm)]
    exact hgq
  ·have h5:=dF h5
   obtain rfl:i=rl:=by omega
   rw [Nat.sub_self] at inv
   have hdone:=inv.done k0
   have r1:=yF hgq hL hcapL
   have r2:=yF hg hrlen.symm hcap
   refine (kU r1 (by omega)).mono ?_
   rintro _ _ ⟨rfl,rfl⟩
   refine ⟨_,_,_,rfl,(kU r2 (by omega)).mono ?_⟩
   rintro _ _ ⟨rfl,rfl⟩
   refine ⟨_,_,_,rfl,_,_,_,_,_,_,rfl,?_,?_,ok⟩
   ·have:=vJ r1 hQ
    rw [hq] at this; exact this
   ·have:=vJ r2 inv.rl
    rw [hdone,hr] at this; exact this)
theorem Ok.but {h G G':Heap}{k:Nat}(o:Ok h G)(w:Wf h)(x:OkX G k G')(hk:h.next<=k):Ok h G':=
 ⟨x.wf,fun j B hj=>x.keep j B (fun e=>by have:=w _ _ hj; omega) (o.ext j B hj),Nat.le_trans o.nx x.nx⟩
def Ti {h2:Heap}{X Y N m L k ku kv kq ec:Nat}{cu cv:List Value}(hY:0 < Y)(hm:0 < m)(hmN:m<=N)(hN:N<=5000)(hL:L=N+1 - m)(k0:0 < k)(kB:k<=BB)(hVl:(Num.toB BB (Y*k)).length=m)(hVB:Y*k<=BB ^ m)(a:Option Addr)(n c:Nat)(b:Option Addr)(d:Nat):=
 oV a n c b m d (k:Int) (some ⟨kq,0,none⟩) L L (some ⟨ku,0,none⟩) (N+1) (bm+cu.length) (some ⟨kv,0,none⟩) m ec (L:Int)
  (fun mz i G=>i<=L/\mz=L - i/\ ∃ U Ql:List Nat,DState h2 G ku kv kq cu cv U Ql N m (X*k) (Y*k) (L - i)) (EM h2 X Y) (by
  intro mz i; intros; rename_i G hi
  obtain ⟨h1,h2',U,Ql,D⟩:=hi
  have hYk:0 < Y*k:=Nat.mul_pos hY k0
  have hw1:IntKind.wrap .i64 ((L:Int) - 1)=(L:Int) - 1:=ap (by omega) (by omega)
  have hw3:IntKind.wrap .i64 ((i:Int)+1)=((i+1:Nat):Int):=by rw [ap (by omega) (by omega)]; omega
  have hcap:aN (bm+cu.length)=cu.length:=by unfold aN; rw [if_pos (by omega)]; omega
  have hul:=D.ul
  have hcl:=D.cl
  have hql:=D.qlen
  have ru:=yF (c:=bm+cu.length) D.gu hul.symm (by rw [hcap]; exact hcl)
  unfold kA
  rw [hw1]
  refine ae (fun h5=> ?_) (fun h5=> ?_)
  ·have h5:=dT h5
   obtain ⟨at',hat⟩: ∃ x,x=L - 1 - i:=⟨_,rfl⟩
   have hw2:IntKind.wrap .i64 ((L:Int) - 1 - (i:Int))=(at':Int):=by rw [ap (by omega) (by omega)]; omega
   have hw4:IntKind.wrap .i64 ((at':Int)+(m:Int))=((at'+m:Nat):Int):=by rw [ap (by omega) (by omega)]; omega
   have hw5:IntKind.wrap .i64 (((at'+m:Nat):Int)+1)=((at'+m+1:Nat):Int):=by rw [ap (by omega) (by omega)]; omega
   rw [hw2,hw4,hw5,hw3]
   have hinv:Num.DivInv BB m (Y*k) (X*k) U Ql (at'+1):=by rw [show at'+1=L - i by omega]; exact D.inv
   obtain ⟨w1,w2,w3⟩:=hinv.window cG hVB
   have hwin:=ru.window (lo:=at') (hi:=at'+m+1) (by omega) (by omega)
   rw [show at'+m+1 - at'=m+1 by omega,Nat.zero_add] at hwin
   refine ⟨_,_,_,hwin,?_⟩
   have hC:(aU cu 0 U).length=cu.length:=Af (by omega)
   have DI:DigIn G ku at' (bm+cu.length - at') m (aU cu 0 U) ((U.drop at').take (m+1)) (Num.toB BB (Y*k)) (some ⟨kv,0,none⟩) ec:={
    w:=D.ok.wf
    get:=by
     rw [hH (by rw [w3]; exact lC (by omega))]
     exact D.gu
    fit:=by rw [w3,hC]; omega
    ul:=w3
    vl:=hVl
    mp:=hm
    mle:=by omega
    ult:=fun x hx=>hinv.ul x (List.mem_of_mem_drop (List.mem_of_mem_take hx))
    vlt:=Num.toB_lt cG _
    v1:=by have:=Num.toB_top cG hYk; rwa [hVl] at this
    lt:=by rw [Num.bv_toB cG]; exact w2
    rd:=fun g og=> .inr ⟨kv,0,cv,ec,true,by rw [lM,hVl],og.keep _ _ (fun e=>D.uv' e.symm) D.gv,by rw [List.drop_zero,lM]; exact D.vrow⟩ }
   refine (HA DI).mono ?_
   rintro _ g3 ⟨W',wl,wlt,wbv,rfl,wget,wok⟩
   rw [Num.bv_toB cG] at wbv
   have hqd:Num.bv BB ((U.drop at').take (m+1)) / Num.bv BB (Num.toB BB (Y*k))=Num.bv BB ((U.drop at').take (m+1)) / (Y*k):=by rw [Num.bv_toB cG]
   rw [hqd]
   have hdB:Num.bv BB ((U.drop at').take (m+1)) / (Y*k) < BB:=Nat.div_lt_of_lt_mul (by rw [Nat.mul_comm]; exact w2)
   have gq3:=wok.keep _ _ (fun e=>D.uq e.symm) D.gq
   have gv3:=wok.keep _ _ (fun e=>D.uv' e.symm) D.gv
   have ok3:=Ok.but D.ok D.w2 wok D.u2
   have hzl:((List.replicate (N+1 - m) 0).map uv).length=N+1 - m:=by rw [lM,List.length_replicate]
   have hst:=AJ gq3 (by rw [hzl]; omega) (i:=at') (by omega) (Num.bv BB ((U.drop at').take (m+1)) / (Y*k))
   have hkn:=ok3.wf _ _ gq3
   have hid:=tZ (k:=kq) (off:=0) (n:=L) (c:=L) (i:=(at':Int)) (by omega) (by omega)
   rw [Int.toNat_natCast] at hid
   refine ⟨_,rfl,_,hid,_,hst,?_⟩
   have hsplit:Num.bv BB ((U.drop at').take (m+1))=Num.bv BB W'+Num.bv BB ((U.drop at').take (m+1)) / (Y*k)*(Y*k):=by
    have h9:=Nat.mod_add_div (Num.bv BB ((U.drop at').take (m+1))) (Y*k)
    rw [Nat.mul_comm (Y*k)] at h9
    rw [wbv]; exact h9.symm
   have hnew:=hinv.step cG hVB wlt wl hdB hsplit (by rw [wbv]; exact Nat.mod_lt _ hYk)
   refine oA (mz - 1) (by omega) ⟨by omega,by omega,U.take at'++W'++U.drop (at'+(m+1)),Ql.set at' (Num.bv BB ((U.drop at').take (m+1)) / (Y*k)),{
    ok:=ok3.set _ D.q2 hkn D.w2
    w2:=D.w2
    u2:=D.u2
    q2:=D.q2
    gu:= ?_
    gv:= ?_
    gq:= ?_
    uv':=D.uv'
    uq:=D.uq
    vq:=D.vq
    ul:= ?_
    cl:=hcl
    qlen:=by rw [List.length_set]; exact hql
    vrow:=D.vrow
    inv:=by rw [show L - (i+1)=at' by omega]; exact hnew }⟩
   ·show (g3.set kq _).get ku=_
    rw [Heap.get_set,if_neg D.uq,wget,Cj (W:=(U.drop at').take (m+1)) (by omega) (by omega) (by rw [wl,w3]) (by rw [w3]),wl]
   ·show (g3.set kq _).get kv=_
    rw [Heap.get_set,if_neg D.vq]; exact gv3
   ·show (g3.set kq _).get kq=_
    rw [Heap.get_set,if_pos rfl]
   ·simp only [List.length_append,List.length_take,List.length_drop,wl]; omega
  ·have h5:=dF h5
   obtain rfl:i=L:=by omega
   have hinv:=D.inv
   rw [Nat.sub_self] at hinv
   obtain ⟨d1,d2⟩:=hinv.done
   obtain ⟨e1,e2⟩:=Num.mul_div_mul_k (X:=X) (Y:=Y) k0
   rw [e1] at d1
   rw [e2] at d2
   have hul':=hinv.ul
   obtain ⟨t1,t2⟩:=Num.trimL_take U
   refine (kU ru (by omega)).mono ?_
   rintro _ _ ⟨rfl,rfl⟩
   refine ⟨_,_,_,rfl,?_⟩
   have hC:(aU cu 0 U).length=cu.length:=Af (by omega)
   have hcapL:aN (N+1 - m)=N+1 - m:=by unfold aN; rw [if_neg (by unfold bm; omega)]
   have hbvt:Num.bv BB (Num.trimL U)=X % Y*k:=by rw [Num.trimL_eq cG hul',Num.bv_toB cG,d2]
   subst hL
   rename_i G'
   refine SD D.w2 (X:=X) (Y:=Y) (ku:=ku) (kq:=kq) (rc:=bm+cu.length) (k:=k) (R:=X % Y*k) (C:=aU cu 0 U) (Zq:=(List.replicate (N+1 - m) 0).map uv) (Ql:=Ql) D.u2 D.q2 D.uq (by rw [hC]; omega) (by omega) hql.symm (by omega) (by rw [hcap]; omega) (by rw [hcapL]; exact Nat.le_refl _) k0 kB hinv.ql d1 (Nat.mul_div_cancel _ k0) a n c b m d _ (i:=0)
    ⟨Nat.zero_le _,rfl,⟨Num.trimL U,0,rfl,rfl,⟨fun x hx=>hul' x (by rw [<-t1] at hx; exact List.mem_of_mem_take hx),by omega,k0,?_⟩,?_⟩,D.gq,D.ok⟩
   ·rw [Nat.sub_zero,List.drop_length,List.take_length,hbvt]
    simp [Num.bv]
   ·rw [hH (by rw [lC (by omega),List.drop_zero,t1])]
    exact D.gu)
end Go.Proofs.YtoabjjimjldcfaaGreatDoor
end
section
set_option linter.unusedVariables false
set_option maxRecDepth 100000
namespace Go.Proofs.YtoabjjimjldcfaaGreatDoor
open Go Go.Ab
theorem FJ {h:Heap}{a b:Option Addr}{n c mm d:Nat}{X Y:Nat}(ra:Rd h 103 (.slice a n c) (bl X))(rb:Rd h 103 (.slice b mm d) (bl Y))(hY:0 < Y)(hN:(Num.toB BB X).length<=5000)(hM:(Num.toB BB Y).length<=5000)(w:Wf h):
  FW SS 163 [.slice a n c,.slice b mm d] h (EM h X Y):=by
 have hBv:BB=1000000000:=rfl
 have hn:n=(Num.toB BB X).length:=by have:=ra.len; rwa [lM] at this
 have hmm:mm=(Num.toB BB Y).length:=by have:=rb.len; rwa [lM] at this
 obtain ⟨f1,f2,f3,f4,f5,f6⟩:=Num.factor cG hY
 rw [<-hmm] at f1 f2 f3 f4 f5 f6
 generalize htop:(Num.toB BB Y).getD (mm - 1) 0=top at f2 f3 f4 f6
 generalize hkd:BB / (top+1)=k at f3 f4 f6
 refine EF a n c b mm d h _ ((lg ra rb (by omega) w).mono ?_)
 rintro _ h2 ⟨rfl,ok2⟩
 refine ⟨_,rfl,ae (fun h1=> ?_) (fun h1=> ?_)⟩
 ·have h1:=Num.cmpN_neg.1 (dT h1)
  refine ⟨_,_,_,_,_,_,rfl,.inl ⟨rfl,?_⟩,?_,ok2⟩
  ·rw [Nat.div_eq_of_lt h1]
   show (Num.toB BB 0).map uv=[]
   rw [Num.toB_zero]; rfl
  ·rw [Nat.mod_eq_of_lt h1]; exact ra.ok ok2
 ·have hXY:Y<=X:=by
   rcases Nat.lt_or_ge X Y with h | h
   ·exact absurd (Num.cmpN_neg.2 h) (dF h1)
   ·exact h
  have hX:0 < X:=by omega
  have hmN:mm<=n:=by
   rcases Nat.lt_or_ge n mm with h | h
   ·have:=Num.toB_len_lt cG (m:=X) (n:=Y) (by omega); omega
   ·exact h
  have hw1:IntKind.wrap .i64 ((mm:Int) - 1)=((mm - 1:Nat):Int):=by rw [ap (by omega) (by omega)]; omega
  have hj:((mm - 1:Nat):Int).toNat=mm - 1:=by omega
  obtain ⟨p,g2,g3⟩:=Dt (rb.ok ok2) (i:=((mm - 1:Nat):Int)) (by omega) (by omega)
  rw [hj,htop] at g3
  have et:IntKind.wrap .u64 ((top:Int)+1)=((top+1:Nat):Int):=wU (by omega) (by omega)
  have hquo:am SS.P .quo 103 (.int .u64 1000000000) (.int .u64 ((top+1:Nat):Int))=some (.int .u64 (k:Int)):=by
   have:=Pk (a:=BB) (b:=top+1) (by decide) (by omega)
   rw [hkd] at this
   exact this
  rw [hw1]
  refine ⟨p,g2,_,g3,?_⟩
  dsimp only
  rw [et]
  refine ⟨_,hquo,?_⟩
  refine (sM (ra.ok ok2) (Num.toB_lt cG X) (by omega) f3 f4 ok2.wf).mono ?_
  rintro _ h8 ⟨a9,n10,c11,rfl,ou,ok8⟩
  rw [Num.bv_toB cG] at ou
  refine ⟨a9,n10,c11,rfl,(sM ((rb.ok ok2).ok ok8) (Num.toB_lt cG Y) (by omega) f3 f4 ok8.wf).mono ?_⟩
  rintro _ h13 ⟨a14,n15,c16,rfl,ov,ok13⟩
  rw [Num.bv_toB cG] at ov
  refine ⟨a14,n15,c16,rfl,?_⟩
  have hYk:0 < Y*k:=Nat.mul_pos hY f3
  have hVl:(Num.toB BB (Y*k)).length=mm:=Num.toB_len_eq cG f6 (Nat.le_trans f5 (Nat.le_mul_of_pos_right Y f3)) f1
  have hvlen:(bl (Y*k)).length=mm:=by rw [lM]; exact hVl
  rcases ov with ⟨_,e⟩ | ⟨kv,cv,e,hkv,gv,tv,lv⟩
  ·rw [e] at hvlen; simp at hvlen; omega
  injection e with e1 e2 e3
  subst e1
  obtain rfl:n15=mm:=by rw [e2,hvlen]
  rw [hvlen] at tv
  have hbvX:=Num.bv_lt (Num.toB_lt cG X)
  rw [Num.bv_toB cG,<-hn] at hbvX
  have hXk:0 < X*k:=Nat.mul_pos hX f3
  have L1:=pS a n c b n15 d (k:Int) (some ⟨kv,0,none⟩) n15 c16
   (fun mz r rn rc g=>rn<=n+1/\mz=n+1 - rn/\0 < rn/\ ∃ U:List Nat,U.length=rn/\OwnR h g 103 (.slice r rn rc) (U.map uv)/\Ok h g/\(∀ x∈U,x < BB)/\Num.bv BB U=X*k/\g.get kv=some (.cells cv 103 1 true)/\(∀ o n c,Value.slice r rn rc≠ .slice (some ⟨kv,o,none⟩) n c)) (EM h X Y) (by
   intro mz r rn rc; intros; rename_i g hi
   obtain ⟨h1,h2',h3,U,hU,o,ok,hlt,hbv,gkv,hne⟩:=hi
   refine ae (fun h5=> ?_) (fun h5=> ?_)
   ·have h5:=dT h5
    refine ⟨_,_,_,nJ _,?_⟩
    obtain ⟨b',m',d',u,g6,g7,g8,g9,g10,g11⟩:=OwnR.snocX (P:=SS.P) (t:=136) (x:= .int .u64 0) xy Gy AH w ok o rfl (by rw [w7,lM]; omega) (by rw [lM]; omega)
    rw [lM,hU] at g7
    subst g7
    refine ⟨b',_,d',u,g6,pw (mz - 1) (by omega) ⟨by omega,by omega,by omega,U++[0],by simp [hU],?_,g9,?_,?_,g10 _ _ gkv hne,?_⟩⟩
    ·rw [List.map_append]; exact g8
    ·intro x hx
     rcases List.mem_append.1 hx with hx | hx
     ·exact hlt x hx
     ·rw [List.mem_singleton.1 hx]; decide
    ·rw [Num.bv_snoc,hbv]; simp
    ·intro o' n' c' e
     rcases g11 _ _ _ _ e with h7 | ⟨o2,n2,c2,h7⟩
     ·have:=ok.wf _ _ gkv; omega
     ·exact hne _ _ _ h7
   ·have h5:=dF h5
    obtain rfl:rn=n+1:=by omega
    rcases o with ⟨_,e⟩ | ⟨ku,cu,e,hku,gu,tu,lu⟩
    ·have:=congrArg List.length e
     rw [lM,hU] at this
     have h9:n+1=0:=this
     omega
    rw [lM,hU] at e tu lu
    injection e with e1 _ e3
    subst e1
    subst e3
    have hwL:IntKind.wrap .i64 (((n+1:Nat):Int) - (n15:Int))=((n+1 - n15:Nat):Int):=by rw [ap (by omega) (by omega)]; omega
    rw [hwL]
    refine ⟨_,_,_,Uh _ (by omega),?_⟩
    have hkun:=ok.wf _ _ gu
    have hkvn:=ok.wf _ _ gkv
    have huv:ku≠kv:=fun e=>hne 0 (n+1) (bm+cu.length) (by rw [e])
    have hcapz:((List.replicate (n+1 - n15) 0).map uv).length=n+1 - n15:=by rw [lM,List.length_replicate]
    exact Ti (h2:=h) (X:=X) (Y:=Y) (N:=n) (m:=n15) (L:=n+1 - n15) (k:=k) (ku:=ku) (kv:=kv) (kq:=g.next) (ec:=c16) (cu:=cu) (cv:=cv) hY f1 hmN (by omega) rfl f3 f4 hVl (Nat.le_of_lt f6) a n c b d (n+1 - n15) (i:=0)
     ⟨Nat.zero_le _,rfl,U,List.replicate (n+1 - n15) 0,{
      ok:=ok.push _
      w2:=w
      u2:=hku
      q2:=ok.nx
      gu:=by
       rw [Heap.get_push,if_neg (by omega),hH (by rw [List.drop_zero,hU]; exact tu)]
       exact gu
      gv:=by rw [Heap.get_push,if_neg (by omega)]; exact gkv
      gq:=by
       rw [Heap.get_push,if_pos rfl,hH (by rw [List.drop_zero,List.length_replicate,List.take_of_length_le (by rw [hcapz]; exact Nat.le_refl _)])]
      uv':=huv
      uq:=by omega
      vq:=by omega
      ul:=hU
      cl:=lu
      qlen:=by rw [List.length_replicate]
      vrow:=by rw [hVl]; exact tv
      inv:=Num.DivInv.start cG hlt hU hmN hbvX f5 f1 f3 hbv }⟩)
  have hou:=OwnR.weak ok2.nx ou
  have hlenu:n10=(Num.toB BB (X*k)).length:=by have:=ou.len; rwa [lM] at this
  have hkvlt:h8.next<=kv:=hkv
  have hXkl:(Num.toB BB (X*k)).length<=n+1:=by
   refine Num.toB_len_le cG ?_
   rw [Nat.pow_succ]
   exact Nat.lt_of_lt_of_le (Nat.mul_lt_mul_of_pos_right hbvX f3) (Nat.mul_le_mul_left _ f4)
  have hpos:0 < (Num.toB BB (X*k)).length:=List.length_pos_iff.2 fun e=>by have:=(Num.toB_eq_nil cG).1 e; omega
  refine L1 (n+1 - n10) ⟨by omega,rfl,by omega,Num.toB BB (X*k),hlenu.symm,hou.ok ok13,(ok2.trans ok8).trans ok13,Num.toB_lt cG _,Num.bv_toB cG _,gv,?_⟩
  intro o n' c' e
  rcases ou with ⟨e',_⟩ | ⟨ku,cu,e',hku,gu,_,_⟩
  ·rw [e'] at e; injection e with e; cases e
  ·rw [e'] at e
   injection e with e _ _
   injection e with e
   injection e with e
   have:=ok8.wf _ _ gu
   omega
noncomputable def Bg:Code:=(Tryz.f93.body).getD .skip
def Tc:List Nat:=[]
abbrev Si (u:Int)(h:Heap)(Q:VH):Prop:=aw (decide ((u:Int)>=4294967296)) (xI .u64 (am SS.P .shr 103 (.int .u64 u) (.int .u64 32)) fun n1=>aw (decide ((n1:Int)>=65536)) (xI .u64 (am SS.P .shr 103 (.int .u64 n1) (.int .u64 16)) fun n2=>aw (decide ((n2:Int)>=256)) (xI .u64 (am SS.P .shr 103 (.int .u64 n2) (.int .u64 8)) fun n3=>xI .u8 (aQ SS.P 9 (aa [0,1,2,2,3,3,3,3,4,4,4,4,4,4,4,4,5,5,5,5,5,5,5,5,5,5,5,5,5,5,5,5,6,6,6,6,6,6,6,6,6,6,6,6,6,6,6,6,6,6,6,6,6,6,6,6,6,6,6,6,6,6,6,6,7,7,7,7,7,7,7,7,7,7,7,7,7,7,7,7,7,7,7,7,7,7,7,7,7,7,7,7,7,7,7,7,7,7,7,7,7,7,7,7,7,7,7,7,7,7,7,7,7,7,7,7,7,7,7,7,7,7,7,7,7,7,7,7,8,8,8,8,8,8,8,8,8,8,8,8,8,8,8,8,8,8,8,8,8,8,8,8,8,8,8,8,8,8,8,8,8,8,8,8,8,8,8,8,8,8,8,8,8,8,8,8,8,8,8,8,8,8,8,8,8,8,8,8,8,8,8,8,8,8,8,8,8,8,8,8,8,8,8,8,8,8,8,8,8,8,8,8,8,8,8,8,8,8,8,8,8,8,8,8,8,8,8,8,8,8,8,8,8,8,8,8,8,8,8,8,8,8,8,8,8,8,8,8,8,8,8,8,8,8,8,8]) (.int .u8 (IntKind.wrap .u8 n3))) fun n4=>Q (.int .i64 (IntKind.wrap .i64 (IntKind.wrap .i64 (IntKind.wrap .i64 (32+16)+8)+IntKind.wrap .i64 n4))) h) (xI .u8 (aQ SS.P 9 (aa [0,1,2,2,3,3,3,3,4,4,4,4,4,4,4,4,5,5,5,5,5,5,5,5,5,5,5,5,5,5,5,5,6,6,6,6,6,6,6,6,6,6,6,6,6,6,6,6,6,6,6,6,6,6,6,6,6,6,6,6,6,6,6,6,7,7,7,7,7,7,7,7,7,7,7,7,7,7,7,7,7,7,7,7,7,7,7,7,7,7,7,7,7,7,7,7,7,7,7,7,7,7,7,7,7,7,7,7,7,7,7,7,7,7,7,7,7,7,7,7,7,7,7,7,7,7,7,7,8,8,8,8,8,8,8,8,8,8,8,8,8,8,8,8,8,8,8,8,8,8,8,8,8,8,8,8,8,8,8,8,8,8,8,8,8,8,8,8,8,8,8,8,8,8,8,8,8,8,8,8,8,8,8,8,8,8,8,8,8,8,8,8,8,8,8,8,8,8,8,8,8,8,8,8,8,8,8,8,8,8,8,8,8,8,8,8,8,8,8,8,8,8,8,8,8,8,8,8,8,8,8,8,8,8,8,8,8,8,8,8,8,8,8,8,8,8,8,8,8,8,8,8,8,8,8,8]) (.int .u8 (IntKind.wrap .u8 n2))) fun n5=>Q (.int .i64 (IntKind.wrap .i64 (IntKind.wrap .i64 (32+16)+IntKind.wrap .i64 n5))) h)) (aw (decide ((n1:Int)>=256)) (xI .u64 (am SS.P .shr 103 (.int .u64 n1) (.int .u64 8)) fun n6=>xI .u8 (aQ SS.P 9 (aa [0,1,2,2,3,3,3,3,4,4,4,4,4,4,4,4,5,5,5,5,5,5,5,5,5,5,5,5,5,5,5,5,6,6,6,6,6,6,6,6,6,6,6,6,6,6,6,6,6,6,6,6,6,6,6,6,6,6,6,6,6,6,6,6,7,7,7,7,7,7,7,7,7,7,7,7,7,7,7,7,7,7,7,7,7,7,7,7,7,7,7,7,7,7,7,7,7,7,7,7,7,7,7,7,7,7,7,7,7,7,7,7,7,7,7,7,7,7,7,7,7,7,7,7,7,7,7,7,8,8,8,8,8,8,8,8,8,8,8,8,8,8,8,8,8,8,8,8,8,8,8,8,8,8,8,8,8,8,8,8,8,8,8,8,8,8,8,8,8,8,8,8,8,8,8,8,8,8,8,8,8,8,8,8,8,8,8,8,8,8,8,8,8,8,8,8,8,8,8,8,8,8,8,8,8,8,8,8,8,8,8,8,8,8,8,8,8,8,8,8,8,8,8,8,8,8,8,8,8,8,8,8,8,8,8,8,8,8,8,8,8,8,8,8,8,8,8,8,8,8,8,8,8,8,8,8]) (.int .u8 (IntKind.wrap .u8 n6))) fun n7=>Q (.int .i64 (IntKind.wrap .i64 (IntKind.wrap .i64 (32+8)+IntKind.wrap .i64 n7))) h) (xI .u8 (aQ SS.P 9 (aa [0,1,2,2,3,3,3,3,4,4,4,4,4,4,4,4,5,5,5,5,5,5,5,5,5,5,5,5,5,5,5,5,6,6,6,6,6,6,6,6,6,6,6,6,6,6,6,6,6,6,6,6,6,6,6,6,6,6,6,6,6,6,6,6,7,7,7,7,7,7,7,7,7,7,7,7,7,7,7,7,7,7,7,7,7,7,7,7,7,7,7,7,7,7,7,7,7,7,7,7,7,7,7,7,7,7,7,7,7,7,7,7,7,7,7,7,7,7,7,7,7,7,7,7,7,7,7,7,8,8,8,8,8,8,8,8,8,8,8,8,8,8,8,8,8,8,8,8,8,8,8,8,8,8,8,8,8,8,8,8,8,8,8,8,8,8,8,8,8,8,8,8,8,8,8,8,8,8,8,8,8,8,8,8,8,8,8,8,8,8,8,8,8,8,8,8,8,8,8,8,8,8,8,8,8,8,8,8,8,8,8,8,8,8,8,8,8,8,8,8,8,8,8,8,8,8,8,8,8,8,8,8,8,8,8,8,8,8,8,8,8,8,8,8,8,8,8,8,8,8,8,8,8,8,8,8]) (.int .u8 (IntKind.wrap .u8 n1))) fun n8=>Q (.int .i64 (IntKind.wrap .i64 (32+IntKind.wrap .i64 n8))) h))) (aw (decide ((u:Int)>=65536)) (xI .u64 (am SS.P .shr 103 (.int .u64 u) (.int .u64 16)) fun n9=>aw (decide ((n9:Int)>=256)) (xI .u64 (am SS.P .shr 103 (.int .u64 n9) (.int .u64 8)) fun n10=>xI .u8 (aQ SS.P 9 (aa [0,1,2,2,3,3,3,3,4,4,4,4,4,4,4,4,5,5,5,5,5,5,5,5,5,5,5,5,5,5,5,5,6,6,6,6,6,6,6,6,6,6,6,6,6,6,6,6,6,6,6,6,6,6,6,6,6,6,6,6,6,6,6,6,7,7,7,7,7,7,7,7,7,7,7,7,7,7,7,7,7,7,7,7,7,7,7,7,7,7,7,7,7,7,7,7,7,7,7,7,7,7,7,7,7,7,7,7,7,7,7,7,7,7,7,7,7,7,7,7,7,7,7,7,7,7,7,7,8,8,8,8,8,8,8,8,8,8,8,8,8,8,8,8,8,8,8,8,8,8,8,8,8,8,8,8,8,8,8,8,8,8,8,8,8,8,8,8,8,8,8,8,8,8,8,8,8,8,8,8,8,8,8,8,8,8,8,8,8,8,8,8,8,8,8,8,8,8,8,8,8,8,8,8,8,8,8,8,8,8,8,8,8,8,8,8,8,8,8,8,8,8,8,8,8,8,8,8,8,8,8,8,8,8,8,8,8,8,8,8,8,8,8,8,8,8,8,8,8,8,8,8,8,8,8,8]) (.int .u8 (IntKind.wrap .u8 n10))) fun n11=>Q (.int .i64 (IntKind.wrap .i64 (IntKind.wrap .i64 (IntKind.wrap .i64 (0+16)+8)+IntKind.wrap .i64 n11))) h) (xI .u8 (aQ SS.P 9 (aa [0,1,2,2,3,3,3,3,4,4,4,4,4,4,4,4,5,5,5,5,5,5,5,5,5,5,5,5,5,5,5,5,6,6,6,6,6,6,6,6,6,6,6,6,6,6,6,6,6,6,6,6,6,6,6,6,6,6,6,6,6,6,6,6,7,7,7,7,7,7,7,7,7,7,7,7,7,7,7,7,7,7,7,7,7,7,7,7,7,7,7,7,7,7,7,7,7,7,7,7,7,7,7,7,7,7,7,7,7,7,7,7,7,7,7,7,7,7,7,7,7,7,7,7,7,7,7,7,8,8,8,8,8,8,8,8,8,8,8,8,8,8,8,8,8,8,8,8,8,8,8,8,8,8,8,8,8,8,8,8,8,8,8,8,8,8,8,8,8,8,8,8,8,8,8,8,8,8,8,8,8,8,8,8,8,8,8,8,8,8,8,8,8,8,8,8,8,8,8,8,8,8,8,8,8,8,8,8,8,8,8,8,8,8,8,8,8,8,8,8,8,8,8,8,8,8,8,8,8,8,8,8,8,8,8,8,8,8,8,8,8,8,8,8,8,8,8,8,8,8,8,8,8,8,8,8]) (.int .u8 (IntKind.wrap .u8 n9))) fun n12=>Q (.int .i64 (IntKind.wrap .i64 (IntKind.wrap .i64 (0+16)+IntKind.wrap .i64 n12))) h)) (aw (decide ((u:Int)>=256)) (xI .u64 (am SS.P .shr 103 (.int .u64 u) (.int .u64 8)) fun n13=>xI .u8 (aQ SS.P 9 (aa [0,1,2,2,3,3,3,3,4,4,4,4,4,4,4,4,5,5,5,5,5,5,5,5,5,5,5,5,5,5,5,5,6,6,6,6,6,6,6,6,6,6,6,6,6,6,6,6,6,6,6,6,6,6,6,6,6,6,6,6,6,6,6,6,7,7,7,7,7,7,7,7,7,7,7,7,7,7,7,7,7,7,7,7,7,7,7,7,7,7,7,7,7,7,7,7,7,7,7,7,7,7,7,7,7,7,7,7,7,7,7,7,7,7,7,7,7,7,7,7,7,7,7,7,7,7,7,7,8,8,8,8,8,8,8,8,8,8,8,8,8,8,8,8,8,8,8,8,8,8,8,8,8,8,8,8,8,8,8,8,8,8,8,8,8,8,8,8,8,8,8,8,8,8,8,8,8,8,8,8,8,8,8,8,8,8,8,8,8,8,8,8,8,8,8,8,8,8,8,8,8,8,8,8,8,8,8,8,8,8,8,8,8,8,8,8,8,8,8,8,8,8,8,8,8,8,8,8,8,8,8,8,8,8,8,8,8,8,8,8,8,8,8,8,8,8,8,8,8,8,8,8,8,8,8,8]) (.int .u8 (IntKind.wrap .u8 n13))) fun n14=>Q (.int .i64 (IntKind.wrap .i64 (IntKind.wrap .i64 (0+8)+IntKind.wrap .i64 n14))) h) (xI .u8 (aQ SS.P 9 (aa [0,1,2,2,3,3,3,3,4,4,4,4,4,4,4,4,5,5,5,5,5,5,5,5,5,5,5,5,5,5,5,5,6,6,6,6,6,6,6,6,6,6,6,6,6,6,6,6,6,6,6,6,6,6,6,6,6,6,6,6,6,6,6,6,7,7,7,7,7,7,7,7,7,7,7,7,7,7,7,7,7,7,7,7,7,7,7,7,7,7,7,7,7,7,7,7,7,7,7,7,7,7,7,7,7,7,7,7,7,7,7,7,7,7,7,7,7,7,7,7,7,7,7,7,7,7,7,7,8,8,8,8,8,8,8,8,8,8,8,8,8,8,8,8,8,8,8,8,8,8,8,8,8,8,8,8,8,8,8,8,8,8,8,8,8,8,8,8,8,8,8,8,8,8,8,8,8,8,8,8,8,8,8,8,8,8,8,8,8,8,8,8,8,8,8,8,8,8,8,8,8,8,8,8,8,8,8,8,8,8,8,8,8,8,8,8,8,8,8,8,8,8,8,8,8,8,8,8,8,8,8,8,8,8,8,8,8,8,8,8,8,8,8,8,8,8,8,8,8,8,8,8,8,8,8,8]) (.int .u8 (IntKind.wrap .u8 u))) fun n15=>Q (.int .i64 (IntKind.wrap .i64 (0+IntKind.wrap .i64 n15))) h)))
theorem P1 (u:Int)(h:Heap)(Q:VH)(hx:Si u h Q):FW SS 93 [(.int .u64 u)] h Q:=ax (M:=Tc) (c:=Bg) Tryz.func93 (show Tryz.f93.body=some Bg by kernel_rfl) (by kernel_rfl) (ai hx (by kernel_rfl))
noncomputable def py:Code:=(Tryz.f198.body).getD .skip
def HF:List Nat:=[]
abbrev H8 (n:Int)(h:Heap)(Q:VH):Prop:=xI .i64 (am SS.P .shr 3 (.int .i64 (IntKind.wrap .i64 (n*78913))) (.int .u64 18)) fun n1=>Q (.int .i64 n1) h
theorem Er (n:Int)(h:Heap)(Q:VH)(hx:H8 n h Q):FW SS 198 [(.int .i64 n)] h Q:=ax (M:=HF) (c:=py) Tryz.func198 (show Tryz.f198.body=some py by kernel_rfl) (by kernel_rfl) (ai hx (by kernel_rfl))
noncomputable def zq:Code:=(Tryz.f199.body).getD .skip
def Tf:List Nat:=[]
abbrev S2 (b:Bool)(h:Heap)(Q:VH):Prop:=aw b (Q (.int .i64 1) h) (Q (.int .i64 0) h)
theorem N6 (b:Bool)(h:Heap)(Q:VH)(hx:S2 b h Q):FW SS 199 [(.bool b)] h Q:=ax (M:=Tf) (c:=zq) Tryz.func199 (show Tryz.f199.body=some zq by kernel_rfl) (by kernel_rfl) (ai hx (by kernel_rfl))
noncomputable def oO:Code:=(Tryz.f191.body).getD .skip
def GI:List Nat:=[]
abbrev Ip (u:Int)(h:Heap)(Q:VH):Prop:=FW SS 93 [(.int .u64 u)] h fun v1 h2=>yI .i64 v1 fun n3=>FW SS 198 [(.int .i64 n3)] h2 fun v4 h5=>yI .i64 v4 fun n6=>xP (af SS.P 185 (pA 1) (.int .i64 n6)) fun p7=>xI .u64 (ah SS.P 103 h5 (.pointer (some p7))) fun n8=>FW SS 199 [(.bool (decide ((u:Int)>=n8)))] h5 fun v9 h10=>yI .i64 v9 fun n11=>Q (.int .i64 (IntKind.wrap .i64 (n6+n11))) h10
theorem E7 (u:Int)(h:Heap)(Q:VH)(hx:Ip u h Q):FW SS 191 [(.int .u64 u)] h Q:=ax (M:=GI) (c:=oO) Tryz.func191 (show Tryz.f191.body=some oO by kernel_rfl) (by kernel_rfl) (ai hx (by kernel_rfl))
noncomputable def zE:Code:=(Tryz.f190.body).getD .skip
def SG:List Nat:=[]
abbrev RZ (n:Int)(h:Heap)(Q:VH):Prop:=aw (decide ((n:Int) < 10)) (xS (aL SS.P 9 (aa [48,49,50,51,52,53,54,55,56,57,97,98,99,100,101,102,103,104,105,106,107,108,109,110,111,112,113,114,115,116,117,118,119,120,121,122]) (some (.int .i64 n)) (some (.int .i64 (IntKind.wrap .i64 (n+1)))) none h) fun l1=>Q (aa l1) h) (xS (aL SS.P 9 (aa [48,48,48,49,48,50,48,51,48,52,48,53,48,54,48,55,48,56,48,57,49,48,49,49,49,50,49,51,49,52,49,53,49,54,49,55,49,56,49,57,50,48,50,49,50,50,50,51,50,52,50,53,50,54,50,55,50,56,50,57,51,48,51,49,51,50,51,51,51,52,51,53,51,54,51,55,51,56,51,57,52,48,52,49,52,50,52,51,52,52,52,53,52,54,52,55,52,56,52,57,53,48,53,49,53,50,53,51,53,52,53,53,53,54,53,55,53,56,53,57,54,48,54,49,54,50,54,51,54,52,54,53,54,54,54,55,54,56,54,57,55,48,55,49,55,50,55,51,55,52,55,53,55,54,55,55,55,56,55,57,56,48,56,49,56,50,56,51,56,52,56,53,56,54,56,55,56,56,56,57,57,48,57,49,57,50,57,51,57,52,57,53,57,54,57,55,57,56,57,57]) (some (.int .i64 (IntKind.wrap .i64 (n*2)))) (some (.int .i64 (IntKind.wrap .i64 (IntKind.wrap .i64 (n*2)+2)))) none h) fun l2=>Q (aa l2) h)
theorem PU (n:Int)(h:Heap)(Q:VH)(hx:RZ n h Q):FW SS 190 [(.int .i64 n)] h Q:=ax (M:=SG) (c:=zE) Tryz.func190 (show Tryz.f190.body=some zE by kernel_rfl) (by kernel_rfl) (ai hx (by kernel_rfl))
noncomputable def jJ:Code:=(Tryz.f192.body).getD .skip
noncomputable def KG (Q:VH):aj:=cE SS Tryz.f192.results.toList Q
def Ek:List Nat:=[0,1,4]
noncomputable def Ld (p:List Nat)(w:LV)(h:Heap)(Q:aj):Prop:=bp SS Tryz.f192.ntmps Ek (aP p jJ) w h Q
noncomputable def Lo (p b:List Nat)(K:aj):aj:=ky SS Tryz.f192.ntmps Ek p (aP b jJ) K
abbrev RK (a:OA)(n c:Nat)(u:Int)(h:Heap)(Q:VH):Prop:=Ld [1,0,0,0] [(.slice a n c),(.int .u64 u),(iA n)] h (Lo [1,0,0] [] (KG Q))
theorem PE (a:OA)(n c:Nat)(u:Int)(h:Heap)(Q:VH)(hx:RK a n c u h Q):FW SS 192 [(.slice a n c),(.int .u64 u)] h Q:=ax (M:=Ek) (c:=jJ) Tryz.func192 (show Tryz.f192.body=some jJ by kernel_rfl) (by kernel_rfl) (ai hx (by kernel_rfl))
abbrev lF (a:OA)(n c:Nat)(u:Int)  (i:Nat) (v:Int)  : LV:=[(.slice a n c),(.int .u64 v),(iA i)]
def lj (a:OA)(n c:Nat)(u:Int)  (Inv:Nat->Nat->Int->Heap->Prop) (mz:Nat) (w:LV) (h:Heap):Prop:= ∃ (i:Nat)(v:Int) ,w=(lF a n c u i v )/\Inv mz i v h
abbrev Ch (a:OA)(n c:Nat)(u:Int)  (Inv:Nat->Nat->Int->Heap->Prop) (Q:VH) (mz:Nat) (i:Nat) (v:Int)  (zz:Nat->Value) (h:Heap):Prop:=aw (decide (((i:Int):Int)>=8)) (xI .u64 (am SS.P .rem 103 (.int .u64 v) (.int .u64 100000000)) fun n1=>xI .u64 (am SS.P .quo 103 (.int .u64 v) (.int .u64 100000000)) fun n2=>xI .u32 (am SS.P .quo 101 (.int .u32 (IntKind.wrap .u32 n1)) (.int .u32 10000)) fun n3=>xI .u32 (am SS.P .rem 101 (.int .u32 (IntKind.wrap .u32 n1)) (.int .u32 10000)) fun n4=>xI .u32 (am SS.P .quo 101 (.int .u32 n4) (.int .u32 100)) fun n5=>xI .u32 (am SS.P .rem 101 (.int .u32 n4) (.int .u32 100)) fun n6=>xI .u32 (am SS.P .quo 101 (.int .u32 n3) (.int .u32 100)) fun n7=>xI .u32 (am SS.P .rem 101 (.int .u32 n3) (.int .u32 100)) fun n8=>xI .u8 (aQ SS.P 9 (aa [48,48,48,49,48,50,48,51,48,52,48,53,48,54,48,55,48,56,48,57,49,48,49,49,49,50,49,51,49,52,49,53,49,54,49,55,49,56,49,57,50,48,50,49,50,50,50,51,50,52,50,53,50,54,50,55,50,56,50,57,51,48,51,49,51,50,51,51,51,52,51,53,51,54,51,55,51,56,51,57,52,48,52,49,52,50,52,51,52,52,52,53,52,54,52,55,52,56,52,57,53,48,53,49,53,50,53,51,53,52,53,53,53,54,53,55,53,56,53,57,54,48,54,49,54,50,54,51,54,52,54,53,54,54,54,55,54,56,54,57,55,48,55,49,55,50,55,51,55,52,55,53,55,54,55,55,55,56,55,57,56,48,56,49,56,50,56,51,56,52,56,53,56,54,56,55,56,56,56,57,57,48,57,49,57,50,57,51,57,52,57,53,57,54,57,55,57,56,57,57]) (.int .u32 (IntKind.wrap .u32 (IntKind.wrap .u32 (n6*2)+1)))) fun n9=>xI .u8 (aQ SS.P 9 (aa [48,48,48,49,48,50,48,51,48,52,48,53,48,54,48,55,48,56,48,57,49,48,49,49,49,50,49,51,49,52,49,53,49,54,49,55,49,56,49,57,50,48,50,49,50,50,50,51,50,52,50,53,50,54,50,55,50,56,50,57,51,48,51,49,51,50,51,51,51,52,51,53,51,54,51,55,51,56,51,57,52,48,52,49,52,50,52,51,52,52,52,53,52,54,52,55,52,56,52,57,53,48,53,49,53,50,53,51,53,52,53,53,53,54,53,55,53,56,53,57,54,48,54,49,54,50,54,51,54,52,54,53,54,54,54,55,54,56,54,57,55,48,55,49,55,50,55,51,55,52,55,53,55,54,55,55,55,56,55,57,56,48,56,49,56,50,56,51,56,52,56,53,56,54,56,55,56,56,56,57,57,48,57,49,57,50,57,51,57,52,57,53,57,54,57,55,57,56,57,57]) (.int .u32 (IntKind.wrap .u32 (n6*2)))) fun n10=>xP (af SS.P 157 (.slice a n c) (.int .i64 (IntKind.wrap .i64 ((i:Int) - 1)))) fun p11=>xU (al SS.P 5 (.pointer (some p11)) (.int .u8 n9) (room h 15)) (room h 15) fun u12 g13=>xP (af SS.P 157 (.slice a n c) (.int .i64 (IntKind.wrap .i64 ((i:Int) - 2)))) fun p14=>xU (al SS.P 5 (.pointer (some p14)) (.int .u8 n10) g13) g13 fun u15 g16=>xI .u8 (aQ SS.P 9 (aa [48,48,48,49,48,50,48,51,48,52,48,53,48,54,48,55,48,56,48,57,49,48,49,49,49,50,49,51,49,52,49,53,49,54,49,55,49,56,49,57,50,48,50,49,50,50,50,51,50,52,50,53,50,54,50,55,50,56,50,57,51,48,51,49,51,50,51,51,51,52,51,53,51,54,51,55,51,56,51,57,52,48,52,49,52,50,52,51,52,52,52,53,52,54,52,55,52,56,52,57,53,48,53,49,53,50,53,51,53,52,53,53,53,54,53,55,53,56,53,57,54,48,54,49,54,50,54,51,54,52,54,53,54,54,54,55,54,56,54,57,55,48,55,49,55,50,55,51,55,52,55,53,55,54,55,55,55,56,55,57,56,48,56,49,56,50,56,51,56,52,56,53,56,54,56,55,56,56,56,57,57,48,57,49,57,50,57,51,57,52,57,53,57,54,57,55,57,56,57,57]) (.int .u32 (IntKind.wrap .u32 (IntKind.wrap .u32 (n5*2)+1)))) fun n17=>xI .u8 (aQ SS.P 9 (aa [48,48,48,49,48,50,48,51,48,52,48,53,48,54,48,55,48,56,48,57,49,48,49,49,49,50,49,51,49,52,49,53,49,54,49,55,49,56,49,57,50,48,50,49,50,50,50,51,50,52,50,53,50,54,50,55,50,56,50,57,51,48,51,49,51,50,51,51,51,52,51,53,51,54,51,55,51,56,51,57,52,48,52,49,52,50,52,51,52,52,52,53,52,54,52,55,52,56,52,57,53,48,53,49,53,50,53,51,53,52,53,53,53,54,53,55,53,56,53,57,54,48,54,49,54,50,54,51,54,52,54,53,54,54,54,55,54,56,54,57,55,48,55,49,55,50,55,51,55,52,55,53,55,54,55,55,55,56,55,57,56,48,56,49,56,50,56,51,56,52,56,53,56,54,56,55,56,56,56,57,57,48,57,49,57,50,57,51,57,52,57,53,57,54,57,55,57,56,57,57]) (.int .u32 (IntKind.wrap .u32 (n5*2)))) fun n18=>xP (af SS.P 157 (.slice a n c) (.int .i64 (IntKind.wrap .i64 ((i:Int) - 3)))) fun p19=>xU (al SS.P 5 (.pointer (some p19)) (.int .u8 n17) (room g16 15)) (room g16 15) fun u20 g21=>xP (af SS.P 157 (.slice a n c) (.int .i64 (IntKind.wrap .i64 ((i:Int) - 4)))) fun p22=>xU (al SS.P 5 (.pointer (some p22)) (.int .u8 n18) g21) g21 fun u23 g24=>xI .u8 (aQ SS.P 9 (aa [48,48,48,49,48,50,48,51,48,52,48,53,48,54,48,55,48,56,48,57,49,48,49,49,49,50,49,51,49,52,49,53,49,54,49,55,49,56,49,57,50,48,50,49,50,50,50,51,50,52,50,53,50,54,50,55,50,56,50,57,51,48,51,49,51,50,51,51,51,52,51,53,51,54,51,55,51,56,51,57,52,48,52,49,52,50,52,51,52,52,52,53,52,54,52,55,52,56,52,57,53,48,53,49,53,50,53,51,53,52,53,53,53,54,53,55,53,56,53,57,54,48,54,49,54,50,54,51,54,52,54,53,54,54,54,55,54,56,54,57,55,48,55,49,55,50,55,51,55,52,55,53,55,54,55,55,55,56,55,57,56,48,56,49,56,50,56,51,56,52,56,53,56,54,56,55,56,56,56,57,57,48,57,49,57,50,57,51,57,52,57,53,57,54,57,55,57,56,57,57]) (.int .u32 (IntKind.wrap .u32 (IntKind.wrap .u32 (n8*2)+1)))) fun n25=>xI .u8 (aQ SS.P 9 (aa [48,48,48,49,48,50,48,51,48,52,48,53,48,54,48,55,48,56,48,57,49,48,49,49,49,50,49,51,49,52,49,53,49,54,49,55,49,56,49,57,50,48,50,49,50,50,50,51,50,52,50,53,50,54,50,55,50,56,50,57,51,48,51,49,51,50,51,51,51,52,51,53,51,54,51,55,51,56,51,57,52,48,52,49,52,50,52,51,52,52,52,53,52,54,52,55,52,56,52,57,53,48,53,49,53,50,53,51,53,52,53,53,53,54,53,55,53,56,53,57,54,48,54,49,54,50,54,51,54,52,54,53,54,54,54,55,54,56,54,57,55,48,55,49,55,50,55,51,55,52,55,53,55,54,55,55,55,56,55,57,56,48,56,49,56,50,56,51,56,52,56,53,56,54,56,55,56,56,56,57,57,48,57,49,57,50,57,51,57,52,57,53,57,54,57,55,57,56,57,57]) (.int .u32 (IntKind.wrap .u32 (n8*2)))) fun n26=>xP (af SS.P 157 (.slice a n c) (.int .i64 (IntKind.wrap .i64 ((i:Int) - 5)))) fun p27=>xU (al SS.P 5 (.pointer (some p27)) (.int .u8 n25) (room g24 15)) (room g24 15) fun u28 g29=>xP (af SS.P 157 (.slice a n c) (.int .i64 (IntKind.wrap .i64 ((i:Int) - 6)))) fun p30=>xU (al SS.P 5 (.pointer (some p30)) (.int .u8 n26) g29) g29 fun u31 g32=>xI .u8 (aQ SS.P 9 (aa [48,48,48,49,48,50,48,51,48,52,48,53,48,54,48,55,48,56,48,57,49,48,49,49,49,50,49,51,49,52,49,53,49,54,49,55,49,56,49,57,50,48,50,49,50,50,50,51,50,52,50,53,50,54,50,55,50,56,50,57,51,48,51,49,51,50,51,51,51,52,51,53,51,54,51,55,51,56,51,57,52,48,52,49,52,50,52,51,52,52,52,53,52,54,52,55,52,56,52,57,53,48,53,49,53,50,53,51,53,52,53,53,53,54,53,55,53,56,53,57,54,48,54,49,54,50,54,51,54,52,54,53,54,54,54,55,54,56,54,57,55,48,55,49,55,50,55,51,55,52,55,53,55,54,55,55,55,56,55,57,56,48,56,49,56,50,56,51,56,52,56,53,56,54,56,55,56,56,56,57,57,48,57,49,57,50,57,51,57,52,57,53,57,54,57,55,57,56,57,57]) (.int .u32 (IntKind.wrap .u32 (IntKind.wrap .u32 (n7*2)+1)))) fun n33=>xI .u8 (aQ SS.P 9 (aa [48,48,48,49,48,50,48,51,48,52,48,53,48,54,48,55,48,56,48,57,49,48,49,49,49,50,49,51,49,52,49,53,49,54,49,55,49,56,49,57,50,48,50,49,50,50,50,51,50,52,50,53,50,54,50,55,50,56,50,57,51,48,51,49,51,50,51,51,51,52,51,53,51,54,51,55,51,56,51,57,52,48,52,49,52,50,52,51,52,52,52,53,52,54,52,55,52,56,52,57,53,48,53,49,53,50,53,51,53,52,53,53,53,54,53,55,53,56,53,57,54,48,54,49,54,50,54,51,54,52,54,53,54,54,54,55,54,56,54,57,55,48,55,49,55,50,55,51,55,52,55,53,55,54,55,55,55,56,55,57,56,48,56,49,56,50,56,51,56,52,56,53,56,54,56,55,56,56,56,57,57,48,57,49,57,50,57,51,57,52,57,53,57,54,57,55,57,56,57,57]) (.int .u32 (IntKind.wrap .u32 (n7*2)))) fun n34=>xP (af SS.P 157 (.slice a n c) (.int .i64 (IntKind.wrap .i64 ((i:Int) - 7)))) fun p35=>xU (al SS.P 5 (.pointer (some p35)) (.int .u8 n33) (room g32 15)) (room g32 15) fun u36 g37=>xP (af SS.P 157 (.slice a n c) (.int .i64 (IntKind.wrap .i64 ((i:Int) - 8)))) fun p38=>xU (al SS.P 5 (.pointer (some p38)) (.int .u8 n34) g37) g37 fun u39 g40=>ak (lj a n c u Inv) mz [(.slice a n c),(.int .u64 n2),(.int .i64 (IntKind.wrap .i64 ((i:Int) - 8)))] g40) (aw (decide (((i:Int):Int)>=4)) (xI .u32 (am SS.P .rem 101 (.int .u32 (IntKind.wrap .u32 v)) (.int .u32 10000)) fun n41=>xI .u32 (am SS.P .quo 101 (.int .u32 (IntKind.wrap .u32 v)) (.int .u32 10000)) fun n42=>xI .u32 (am SS.P .quo 101 (.int .u32 n41) (.int .u32 100)) fun n43=>xI .u32 (am SS.P .rem 101 (.int .u32 n41) (.int .u32 100)) fun n44=>xI .u8 (aQ SS.P 9 (aa [48,48,48,49,48,50,48,51,48,52,48,53,48,54,48,55,48,56,48,57,49,48,49,49,49,50,49,51,49,52,49,53,49,54,49,55,49,56,49,57,50,48,50,49,50,50,50,51,50,52,50,53,50,54,50,55,50,56,50,57,51,48,51,49,51,50,51,51,51,52,51,53,51,54,51,55,51,56,51,57,52,48,52,49,52,50,52,51,52,52,52,53,52,54,52,55,52,56,52,57,53,48,53,49,53,50,53,51,53,52,53,53,53,54,53,55,53,56,53,57,54,48,54,49,54,50,54,51,54,52,54,53,54,54,54,55,54,56,54,57,55,48,55,49,55,50,55,51,55,52,55,53,55,54,55,55,55,56,55,57,56,48,56,49,56,50,56,51,56,52,56,53,56,54,56,55,56,56,56,57,57,48,57,49,57,50,57,51,57,52,57,53,57,54,57,55,57,56,57,57]) (.int .u32 (IntKind.wrap .u32 (IntKind.wrap .u32 (n44*2)+1)))) fun n45=>xI .u8 (aQ SS.P 9 (aa [48,48,48,49,48,50,48,51,48,52,48,53,48,54,48,55,48,56,48,57,49,48,49,49,49,50,49,51,49,52,49,53,49,54,49,55,49,56,49,57,50,48,50,49,50,50,50,51,50,52,50,53,50,54,50,55,50,56,50,57,51,48,51,49,51,50,51,51,51,52,51,53,51,54,51,55,51,56,51,57,52,48,52,49,52,50,52,51,52,52,52,53,52,54,52,55,52,56,52,57,53,48,53,49,53,50,53,51,53,52,53,53,53,54,53,55,53,56,53,57,54,48,54,49,54,50,54,51,54,52,54,53,54,54,54,55,54,56,54,57,55,48,55,49,55,50,55,51,55,52,55,53,55,54,55,55,55,56,55,57,56,48,56,49,56,50,56,51,56,52,56,53,56,54,56,55,56,56,56,57,57,48,57,49,57,50,57,51,57,52,57,53,57,54,57,55,57,56,57,57]) (.int .u32 (IntKind.wrap .u32 (n44*2)))) fun n46=>xP (af SS.P 157 (.slice a n c) (.int .i64 (IntKind.wrap .i64 ((i:Int) - 1)))) fun p47=>xU (al SS.P 5 (.pointer (some p47)) (.int .u8 n45) (room h 15)) (room h 15) fun u48 g49=>xP (af SS.P 157 (.slice a n c) (.int .i64 (IntKind.wrap .i64 ((i:Int) - 2)))) fun p50=>xU (al SS.P 5 (.pointer (some p50)) (.int .u8 n46) g49) g49 fun u51 g52=>xI .u8 (aQ SS.P 9 (aa [48,48,48,49,48,50,48,51,48,52,48,53,48,54,48,55,48,56,48,57,49,48,49,49,49,50,49,51,49,52,49,53,49,54,49,55,49,56,49,57,50,48,50,49,50,50,50,51,50,52,50,53,50,54,50,55,50,56,50,57,51,48,51,49,51,50,51,51,51,52,51,53,51,54,51,55,51,56,51,57,52,48,52,49,52,50,52,51,52,52,52,53,52,54,52,55,52,56,52,57,53,48,53,49,53,50,53,51,53,52,53,53,53,54,53,55,53,56,53,57,54,48,54,49,54,50,54,51,54,52,54,53,54,54,54,55,54,56,54,57,55,48,55,49,55,50,55,51,55,52,55,53,55,54,55,55,55,56,55,57,56,48,56,49,56,50,56,51,56,52,56,53,56,54,56,55,56,56,56,57,57,48,57,49,57,50,57,51,57,52,57,53,57,54,57,55,57,56,57,57]) (.int .u32 (IntKind.wrap .u32 (IntKind.wrap .u32 (n43*2)+1)))) fun n53=>xI .u8 (aQ SS.P 9 (aa [48,48,48,49,48,50,48,51,48,52,48,53,48,54,48,55,48,56,48,57,49,48,49,49,49,50,49,51,49,52,49,53,49,54,49,55,49,56,49,57,50,48,50,49,50,50,50,51,50,52,50,53,50,54,50,55,50,56,50,57,51,48,51,49,51,50,51,51,51,52,51,53,51,54,51,55,51,56,51,57,52,48,52,49,52,50,52,51,52,52,52,53,52,54,52,55,52,56,52,57,53,48,53,49,53,50,53,51,53,52,53,53,53,54,53,55,53,56,53,57,54,48,54,49,54,50,54,51,54,52,54,53,54,54,54,55,54,56,54,57,55,48,55,49,55,50,55,51,55,52,55,53,55,54,55,55,55,56,55,57,56,48,56,49,56,50,56,51,56,52,56,53,56,54,56,55,56,56,56,57,57,48,57,49,57,50,57,51,57,52,57,53,57,54,57,55,57,56,57,57]) (.int .u32 (IntKind.wrap .u32 (n43*2)))) fun n54=>xP (af SS.P 157 (.slice a n c) (.int .i64 (IntKind.wrap .i64 ((i:Int) - 3)))) fun p55=>xU (al SS.P 5 (.pointer (some p55)) (.int .u8 n53) (room g52 15)) (room g52 15) fun u56 g57=>xP (af SS.P 157 (.slice a n c) (.int .i64 (IntKind.wrap .i64 ((i:Int) - 4)))) fun p58=>xU (al SS.P 5 (.pointer (some p58)) (.int .u8 n54) g57) g57 fun u59 g60=>aw (decide ((IntKind.wrap .i64 ((i:Int) - 4):Int)>=2)) (xI .u32 (am SS.P .rem 101 (.int .u32 n42) (.int .u32 100)) fun n61=>xI .u32 (am SS.P .quo 101 (.int .u32 n42) (.int .u32 100)) fun n62=>xI .u8 (aQ SS.P 9 (aa [48,48,48,49,48,50,48,51,48,52,48,53,48,54,48,55,48,56,48,57,49,48,49,49,49,50,49,51,49,52,49,53,49,54,49,55,49,56,49,57,50,48,50,49,50,50,50,51,50,52,50,53,50,54,50,55,50,56,50,57,51,48,51,49,51,50,51,51,51,52,51,53,51,54,51,55,51,56,51,57,52,48,52,49,52,50,52,51,52,52,52,53,52,54,52,55,52,56,52,57,53,48,53,49,53,50,53,51,53,52,53,53,53,54,53,55,53,56,53,57,54,48,54,49,54,50,54,51,54,52,54,53,54,54,54,55,54,56,54,57,55,48,55,49,55,50,55,51,55,52,55,53,55,54,55,55,55,56,55,57,56,48,56,49,56,50,56,51,56,52,56,53,56,54,56,55,56,56,56,57,57,48,57,49,57,50,57,51,57,52,57,53,57,54,57,55,57,56,57,57]) (.int .u32 (IntKind.wrap .u32 (IntKind.wrap .u32 (n61*2)+1)))) fun n63=>xI .u8 (aQ SS.P 9 (aa [48,48,48,49,48,50,48,51,48,52,48,53,48,54,48,55,48,56,48,57,49,48,49,49,49,50,49,51,49,52,49,53,49,54,49,55,49,56,49,57,50,48,50,49,50,50,50,51,50,52,50,53,50,54,50,55,50,56,50,57,51,48,51,49,51,50,51,51,51,52,51,53,51,54,51,55,51,56,51,57,52,48,52,49,52,50,52,51,52,52,52,53,52,54,52,55,52,56,52,57,53,48,53,49,53,50,53,51,53,52,53,53,53,54,53,55,53,56,53,57,54,48,54,49,54,50,54,51,54,52,54,53,54,54,54,55,54,56,54,57,55,48,55,49,55,50,55,51,55,52,55,53,55,54,55,55,55,56,55,57,56,48,56,49,56,50,56,51,56,52,56,53,56,54,56,55,56,56,56,57,57,48,57,49,57,50,57,51,57,52,57,53,57,54,57,55,57,56,57,57]) (.int .u32 (IntKind.wrap .u32 (n61*2)))) fun n64=>xP (af SS.P 157 (.slice a n c) (.int .i64 (IntKind.wrap .i64 (IntKind.wrap .i64 ((i:Int) - 4) - 1)))) fun p65=>xU (al SS.P 5 (.pointer (some p65)) (.int .u8 n63) (room g60 15)) (room g60 15) fun u66 g67=>xP (af SS.P 157 (.slice a n c) (.int .i64 (IntKind.wrap .i64 (IntKind.wrap .i64 ((i:Int) - 4) - 2)))) fun p68=>xU (al SS.P 5 (.pointer (some p68)) (.int .u8 n64) g67) g67 fun u69 g70=>aw (decide ((IntKind.wrap .i64 (IntKind.wrap .i64 ((i:Int) - 4) - 2):Int) > 0)) (xP (af SS.P 157 (.slice a n c) (.int .i64 0)) fun p71=>xU (al SS.P 5 (.pointer (some p71)) (.int .u8 (IntKind.wrap .u8 (IntKind.wrap .u32 (48+n62)))) g70) g70 fun u72 g73=>Q (.tuple ⟨[]⟩) g73) (Q (.tuple ⟨[]⟩) g70)) (aw (decide ((IntKind.wrap .i64 ((i:Int) - 4):Int) > 0)) (xP (af SS.P 157 (.slice a n c) (.int .i64 0)) fun p74=>xU (al SS.P 5 (.pointer (some p74)) (.int .u8 (IntKind.wrap .u8 (IntKind.wrap .u32 (48+n42)))) g60) g60 fun u75 g76=>Q (.tuple ⟨[]⟩) g76) (Q (.tuple ⟨[]⟩) g60))) (aw (decide (((i:Int):Int)>=2)) (xI .u32 (am SS.P .rem 101 (.int .u32 (IntKind.wrap .u32 v)) (.int .u32 100)) fun n77=>xI .u32 (am SS.P .quo 101 (.int .u32 (IntKind.wrap .u32 v)) (.int .u32 100)) fun n78=>xI .u8 (aQ SS.P 9 (aa [48,48,48,49,48,50,48,51,48,52,48,53,48,54,48,55,48,56,48,57,49,48,49,49,49,50,49,51,49,52,49,53,49,54,49,55,49,56,49,57,50,48,50,49,50,50,50,51,50,52,50,53,50,54,50,55,50,56,50,57,51,48,51,49,51,50,51,51,51,52,51,53,51,54,51,55,51,56,51,57,52,48,52,49,52,50,52,51,52,52,52,53,52,54,52,55,52,56,52,57,53,48,53,49,53,50,53,51,53,52,53,53,53,54,53,55,53,56,53,57,54,48,54,49,54,50,54,51,54,52,54,53,54,54,54,55,54,56,54,57,55,48,55,49,55,50,55,51,55,52,55,53,55,54,55,55,55,56,55,57,56,48,56,49,56,50,56,51,56,52,56,53,56,54,56,55,56,56,56,57,57,48,57,49,57,50,57,51,57,52,57,53,57,54,57,55,57,56,57,57]) (.int .u32 (IntKind.wrap .u32 (IntKind.wrap .u32 (n77*2)+1)))) fun n79=>xI .u8 (aQ SS.P 9 (aa [48,48,48,49,48,50,48,51,48,52,48,53,48,54,48,55,48,56,48,57,49,48,49,49,49,50,49,51,49,52,49,53,49,54,49,55,49,56,49,57,50,48,50,49,50,50,50,51,50,52,50,53,50,54,50,55,50,56,50,57,51,48,51,49,51,50,51,51,51,52,51,53,51,54,51,55,51,56,51,57,52,48,52,49,52,50,52,51,52,52,52,53,52,54,52,55,52,56,52,57,53,48,53,49,53,50,53,51,53,52,53,53,53,54,53,55,53,56,53,57,54,48,54,49,54,50,54,51,54,52,54,53,54,54,54,55,54,56,54,57,55,48,55,49,55,50,55,51,55,52,55,53,55,54,55,55,55,56,55,57,56,48,56,49,56,50,56,51,56,52,56,53,56,54,56,55,56,56,56,57,57,48,57,49,57,50,57,51,57,52,57,53,57,54,57,55,57,56,57,57]) (.int .u32 (IntKind.wrap .u32 (n77*2)))) fun n80=>xP (af SS.P 157 (.slice a n c) (.int .i64 (IntKind.wrap .i64 ((i:Int) - 1)))) fun p81=>xU (al SS.P 5 (.pointer (some p81)) (.int .u8 n79) (room h 15)) (room h 15) fun u82 g83=>xP (af SS.P 157 (.slice a n c) (.int .i64 (IntKind.wrap .i64 ((i:Int) - 2)))) fun p84=>xU (al SS.P 5 (.pointer (some p84)) (.int .u8 n80) g83) g83 fun u85 g86=>aw (decide ((IntKind.wrap .i64 ((i:Int) - 2):Int) > 0)) (xP (af SS.P 157 (.slice a n c) (.int .i64 0)) fun p87=>xU (al SS.P 5 (.pointer (some p87)) (.int .u8 (IntKind.wrap .u8 (IntKind.wrap .u32 (48+n78)))) g86) g86 fun u88 g89=>Q (.tuple ⟨[]⟩) g89) (Q (.tuple ⟨[]⟩) g86)) (aw (decide (((i:Int):Int) > 0)) (xP (af SS.P 157 (.slice a n c) (.int .i64 0)) fun p90=>xU (al SS.P 5 (.pointer (some p90)) (.int .u8 (IntKind.wrap .u8 (IntKind.wrap .u32 (48+IntKind.wrap .u32 v)))) h) h fun u91 g92=>Q (.tuple ⟨[]⟩) g92) (Q (.tuple ⟨[]⟩) h))))
theorem vW {a:OA}{n c:Nat}{u:Int}  {Inv:Nat->Nat->Int->Heap->Prop} {mz:Nat} (mq:Nat) {i:Nat} {v:Int}  {h:Heap} (hm:mq < mz) (hi:Inv mq i v h):ak (lj a n c u Inv) mz (lF a n c u i v ) h:=⟨mq,hm,i,v,rfl,hi⟩
theorem vU (a:OA)(n c:Nat)(u:Int)  (Inv:Nat->Nat->Int->Heap->Prop) (Q:VH) (step: ∀ (mz:Nat)(i:Nat)(v:Int)  (zz:Nat->Value) (h:Heap),Inv mz i v h->Ch a n c u Inv Q mz i v  zz h) (mz:Nat) {i:Nat} {v:Int}  {h:Heap} (hi:Inv mz i v h):Ld [1,0,0,0] (lF a n c u i v ) h (Lo [1,0,0] [] (KG Q)):=
 an (A:=(lj a n c u Inv)) (show aF Tryz.f192.ntmps (aP [1,0,0,0] jJ)=true by kernel_rfl) (fun mz w zz h ⟨i,v,hw,hi⟩=>by subst hw; exact ai (step mz i v  zz h hi) (by kernel_rfl)) mz _ h ⟨i,v,rfl,hi⟩ (fun zz=>by kernel_rfl) (by kernel_rfl)
noncomputable def qP:Code:=(Tryz.f180.body).getD .skip
def Ke:List Nat:=[]
abbrev IN (u:Int)(h:Heap)(Q:VH):Prop:=aw (((10:Int) == 10)) (aw (decide ((u:Int) < 100)) (FW SS 190 [(.int .i64 (IntKind.wrap .i64 u))] h fun v1 h2=>yS v1 fun l3=>Q (aa l3) h2) (xN (bi SS.P 177) h fun B4 g5=>FW SS 191 [(.int .u64 u)] g5 fun v6 h7=>yI .i64 v6 fun n8=>xL (aL SS.P 177 (pA (h.next)) none (some (.int .i64 n8)) none h7) fun a9 n10 c11=>FW SS 192 [(.slice a9 n10 c11),(.int .u64 u)] h7 fun v12 h13=>v12=(.tuple ⟨[]⟩)/\xL (aL SS.P 177 (pA (h.next)) none (some (.int .i64 n8)) none h13) fun a14 n15 c16=>xS (xZ SS.P 157 9 (.slice a14 n15 c16) h13) fun l17=>Q (aa l17) h13)) (FW SS 193 [nA,(.int .u64 u),(.int .i64 10),(.bool false),(.bool false)] h fun v18 h19=> ∃ (a20:OA)(n21 c22:Nat),∃ l23:LB,v18=(.tuple ⟨[(.slice a20 n21 c22),(aa l23)]⟩)/\Q (aa l23) h19)
theorem GH (u:Int)(h:Heap)(Q:VH)(hx:IN u h Q):FW SS 180 [(.int .u64 u),(.int .i64 10)] h Q:=ax (M:=Ke) (c:=qP) Tryz.func180 (show Tryz.f180.body=some qP by kernel_rfl) (by kernel_rfl) (ai hx (by kernel_rfl))
noncomputable def vd:Code:=(Tryz.f170.body).getD .skip
def M2:List Nat:=[]
abbrev M4 (u:Int)(h:Heap)(Q:VH):Prop:=FW SS 180 [(.int .u64 u),(.int .i64 10)] h fun v1 h2=>yS v1 fun l3=>Q (aa l3) h2
theorem Je (u:Int)(h:Heap)(Q:VH)(hx:M4 u h Q):FW SS 170 [(.int .u64 u),(.int .i64 10)] h Q:=ax (M:=M2) (c:=vd) Tryz.func170 (show Tryz.f170.body=some vd by kernel_rfl) (by kernel_rfl) (ai hx (by kernel_rfl))
end Go.Proofs.YtoabjjimjldcfaaGreatDoor
end
section
set_option linter.unusedVariables false
namespace Go.Num
def wid:Nat->Nat->List UInt8
 | 0,_=>[]
 | n+1,u=>wid n (u / 10)++[dig (u % 10)]
theorem wid_len: ∀ n u,(wid n u).length=n
 | 0,_=>rfl
 | n+1,u=>by rw [wid,List.length_append,wid_len n]; rfl
theorem wid_cons: ∀ (n u:Nat),wid (n+1) u=dig (u / 10 ^ n % 10)::wid n u
 | 0,u=>by simp [wid]
 | n+1,u=>by
  rw [wid,wid_cons n (u / 10),wid,List.cons_append,Nat.div_div_eq_div_mul,Nat.pow_succ,Nat.mul_comm 10]
theorem wid_dec {n u:Nat}(h1:u < 10 ^ (n+1))(h2:n=0\/10 ^ n<=u):wid (n+1) u=toDec u:=by
 induction n generalizing u with
 | zero=>
  rw [toDec_lt (by simpa using h1)]
  simp only [wid,List.nil_append]
  rw [Nat.mod_eq_of_lt (by simpa using h1)]
 | succ n ih=>
  have h3:10 ^ (n+1)<=u:=by rcases h2 with h | h; omega; exact h
  have h4:10<=u:=by
   have:10 ^ 1<=10 ^ (n+1):=Nat.pow_le_pow_right (by omega) (by omega)
   omega
  rw [toDec_ge h4,wid,ih]
  ·rw [Nat.div_lt_iff_lt_mul (by omega),<-Nat.pow_succ]; exact h1
  ·right
   rw [Nat.le_div_iff_mul_le (by omega),<-Nat.pow_succ]; exact h3
theorem K7 {u:Nat}: ∀ {n:Nat},u < 10 ^ n->0 < n->wid n u=List.replicate (n - (toDec u).length) 48++toDec u
 | 0,_,h=>absurd h (by omega)
 | n+1,h,_=>by
  by_cases hn:n=0\/10 ^ n<=u
  ·have h1:=wid_dec h hn
   have h2:=congrArg List.length h1
   rw [wid_len] at h2
   rw [h1,<-h2]; simp
  ·have hn1:n≠0:=fun h=>hn (.inl h)
   have hn2:u < 10 ^ n:=Nat.lt_of_not_le fun h=>hn (.inr h)
   have hl:=(toDec_len_le (n:=u) (k:=n) (by omega)).2 hn2
   rw [wid_cons,K7 hn2 (by omega),Nat.div_eq_of_lt hn2,show n+1 - (toDec u).length=(n - (toDec u).length)+1 by omega,List.replicate_succ]; rfl
end Go.Num
end
section
set_option linter.unusedVariables false
set_option maxRecDepth 100000
namespace Go.Proofs.YtoabjjimjldcfaaGreatDoor
open Go Go.Ab
theorem Ks {P:Program}{t:TypeId}{a:Int}(h:0<=a){s:Nat}(hs:s<=64):am P .shr t (.int .u64 a) (.int .u64 (s:Int))=some (.int .u64 (a / 2 ^ s)):=by
 show (if 0<=(s:Int) then some (Value.int .u64 (a.fdiv (2 ^ (min (s:Int).toNat 64)))) else none)=_
 rw [if_pos (by omega),Int.toNat_natCast,Nat.min_eq_left hs,Int.fdiv_eq_ediv_of_nonneg _ (Int.le_of_lt (Int.pow_pos (by decide)))]
theorem Tx {P:Program}{t:TypeId}{a:Int}(h:0<=a){s:Nat}(hs:s<=64):am P .shr t (.int .i64 a) (.int .u64 (s:Int))=some (.int .i64 (a / 2 ^ s)):=by
 show (if 0<=(s:Int) then some (Value.int .i64 (a.fdiv (2 ^ (min (s:Int).toNat 64)))) else none)=_
 rw [if_pos (by omega),Int.toNat_natCast,Nat.min_eq_left hs,Int.fdiv_eq_ediv_of_nonneg _ (Int.le_of_lt (Int.pow_pos (by decide)))]
def LT8:List UInt8:=[0,1,2,2,3,3,3,3,4,4,4,4,4,4,4,4,5,5,5,5,5,5,5,5,5,5,5,5,5,5,5,5,6,6,6,6,6,6,6,6,6,6,6,6,6,6,6,6,6,6,6,6,6,6,6,6,6,6,6,6,6,6,6,6,7,7,7,7,7,7,7,7,7,7,7,7,7,7,7,7,7,7,7,7,7,7,7,7,7,7,7,7,7,7,7,7,7,7,7,7,7,7,7,7,7,7,7,7,7,7,7,7,7,7,7,7,7,7,7,7,7,7,7,7,7,7,7,7,8,8,8,8,8,8,8,8,8,8,8,8,8,8,8,8,8,8,8,8,8,8,8,8,8,8,8,8,8,8,8,8,8,8,8,8,8,8,8,8,8,8,8,8,8,8,8,8,8,8,8,8,8,8,8,8,8,8,8,8,8,8,8,8,8,8,8,8,8,8,8,8,8,8,8,8,8,8,8,8,8,8,8,8,8,8,8,8,8,8,8,8,8,8,8,8,8,8,8,8,8,8,8,8,8,8,8,8,8,8,8,8,8,8,8,8,8,8,8,8,8,8,8,8,8,8,8,8]
def SM:List UInt8:=[48,48,48,49,48,50,48,51,48,52,48,53,48,54,48,55,48,56,48,57,49,48,49,49,49,50,49,51,49,52,49,53,49,54,49,55,49,56,49,57,50,48,50,49,50,50,50,51,50,52,50,53,50,54,50,55,50,56,50,57,51,48,51,49,51,50,51,51,51,52,51,53,51,54,51,55,51,56,51,57,52,48,52,49,52,50,52,51,52,52,52,53,52,54,52,55,52,56,52,57,53,48,53,49,53,50,53,51,53,52,53,53,53,54,53,55,53,56,53,57,54,48,54,49,54,50,54,51,54,52,54,53,54,54,54,55,54,56,54,57,55,48,55,49,55,50,55,51,55,52,55,53,55,54,55,55,55,56,55,57,56,48,56,49,56,50,56,51,56,52,56,53,56,54,56,55,56,56,56,57,57,48,57,49,57,50,57,51,57,52,57,53,57,54,57,55,57,56,57,57]
theorem Tb:((List.range 256).all fun x=>(x == 0 && (LT8.getD x 0).toNat == 0) || (Nat.ble 1 (LT8.getD x 0).toNat && Nat.ble (LT8.getD x 0).toNat 8 && Nat.ble (2 ^ ((LT8.getD x 0).toNat - 1)) x && Nat.blt x (2 ^ (LT8.getD x 0).toNat)))=true:=by kernel_rfl
theorem XX {x:Nat}(h:x < 256)(h0:0 < x): ∃ t,(LT8.getD x 0).toNat=t+1/\t < 8/\2 ^ t<=x/\x < 2 ^ (t+1):=by
 have h1:=List.all_eq_true.1 Tb x (List.mem_range.2 h)
 have h2:(x == 0)=false:=by simp; omega
 rw [h2] at h1
 simp only [Bool.false_and,Bool.false_or,Bool.and_eq_true,Nat.ble_eq,Nat.blt_eq] at h1
 obtain ⟨⟨⟨a,b⟩,c⟩,d⟩:=h1
 refine ⟨(LT8.getD x 0).toNat - 1,by omega,by omega,c,?_⟩
 rwa [Nat.sub_add_cancel a]
theorem yE {x:Int}(h0:0<=x)(h1:x < 256):aQ SS.P 9 (aa LT8) (.int .u8 (IntKind.wrap .u8 x))=some (.int .u8 ((LT8.getD x.toNat 0).toNat:Nat)):=by
 rw [mU h0 h1]
 exact i6 (by kernel_rfl) LT8 .u8 h0 (by show x < ((256:Nat):Int); omega)
theorem UA:((List.range 100).all fun x=>Nat.beq (SM.getD (2*x) 0).toNat (48+x / 10) && Nat.beq (SM.getD (2*x+1) 0).toNat (48+x % 10))=true:=by kernel_rfl
theorem OD {x:Nat}(h:x < 100):(SM.getD (2*x) 0).toNat=48+x / 10/\(SM.getD (2*x+1) 0).toNat=48+x % 10:=by
 have h1:=List.all_eq_true.1 UA x (List.mem_range.2 h)
 simp only [Bool.and_eq_true,Nat.beq_eq] at h1
 exact h1
theorem PJ {u:Nat}(h0:0 < u)(h1:u < 4294967296)(h:Heap):FW SS 93 [.int .u64 (u:Int)] h (fun v h'=>h'=h/\ ∃ n:Nat,v = .int .i64 (n+1:Nat)/\n < 32/\2 ^ n<=u/\u < 2 ^ (n+1)):=by
 refine P1 _ h _ (ae (fun g=>absurd (dT g) (by omega)) fun _=>ae (fun g=> ?_) (fun g=> ?_))
 ·have g:=dT g
  refine ⟨_,Ks (s:=16) (by omega) (by omega),ae (fun g1=> ?_) (fun g1=> ?_)⟩
  ·have g1:=dT g1
   refine ⟨_,Ks (s:=8) (by omega) (by omega),_,yE (by omega) (by omega),rfl,?_⟩
   obtain ⟨t,e,h2,h3,h4⟩:=XX (x:=((u:Int) / 2 ^ 16 / 2 ^ 8).toNat) (by omega) (by omega)
   rw [e]
   refine ⟨t+24,?_,by omega,?_,?_⟩
   ·refine congrArg (Value.int .i64) ?_
    simp only [IntKind.wrap_i64]; omega
   ·rw [Nat.pow_add]; omega
   ·rw [show t+24+1=(t+1)+24 by omega,Nat.pow_add]; omega
  ·have g1:=dF g1
   refine ⟨_,yE (by omega) (by omega),rfl,?_⟩
   obtain ⟨t,e,h2,h3,h4⟩:=XX (x:=((u:Int) / 2 ^ 16).toNat) (by omega) (by omega)
   rw [e]
   refine ⟨t+16,?_,by omega,?_,?_⟩
   ·refine congrArg (Value.int .i64) ?_
    simp only [IntKind.wrap_i64]; omega
   ·rw [Nat.pow_add]; omega
   ·rw [show t+16+1=(t+1)+16 by omega,Nat.pow_add]; omega
 ·have g:=dF g
  refine ae (fun g1=> ?_) (fun g1=> ?_)
  ·have g1:=dT g1
   refine ⟨_,Ks (s:=8) (by omega) (by omega),_,yE (by omega) (by omega),rfl,?_⟩
   obtain ⟨t,e,h2,h3,h4⟩:=XX (x:=((u:Int) / 2 ^ 8).toNat) (by omega) (by omega)
   rw [e]
   refine ⟨t+8,?_,by omega,?_,?_⟩
   ·refine congrArg (Value.int .i64) ?_
    simp only [IntKind.wrap_i64]; omega
   ·rw [Nat.pow_add]; omega
   ·rw [show t+8+1=(t+1)+8 by omega,Nat.pow_add]; omega
  ·have g1:=dF g1
   refine ⟨_,yE (by omega) (by omega),rfl,?_⟩
   obtain ⟨t,e,h2,h3,h4⟩:=XX (x:=((u:Int)).toNat) (by omega) (by omega)
   rw [e]
   refine ⟨t,?_,by omega,by omega,by omega⟩
   refine congrArg (Value.int .i64) ?_
   simp only [IntKind.wrap_i64]; omega
def Ga:List Value:=(List.range 20).map fun i=>uv (10 ^ i)
def Tab (h:Heap):Prop:= ∃ t wr,h.get 1=some (.cells Ga t 0 wr)
theorem Tab.ok {h h':Heap}(t:Tab h)(o:Ok h h'):Tab h':=let ⟨k,wr,e⟩:=t; ⟨k,wr,o.ext _ _ e⟩
theorem Wv:SS.P.underlying 185=some (.array 20 103):=by kernel_rfl
theorem U7 {h:Heap}(t:Tab h){i:Int}(h0:0<=i)(h1:i < 20):af SS.P 185 (.pointer (some ⟨1,0,none⟩)) (.int .i64 i)=some (.pointer (some ⟨1,0+i.toNat*1,none⟩))/\ah SS.P 103 h (.pointer (some ⟨1,0+i.toNat*1,none⟩))=some (.int .u64 ((10 ^ i.toNat:Nat):Int)):=by
 obtain ⟨_,wr,e⟩:=t
 constructor
 ·unfold af
  rw [Wv]; dsimp only
  rw [z7]; dsimp only
  rw [if_pos ⟨h0,h1⟩,bn,Nat.zero_add]
 ·unfold ah
  rw [KD]; dsimp only
  rw [e]; dsimp only
  rw [Ll]
  simp only [Bool.false_eq_true,if_false]
  unfold Ga
  rw [Nat.zero_add,Nat.mul_one,List.getElem?_map,List.getElem?_range (by omega)]; rfl
theorem Ed {u:Nat}(h0:100<=u)(h1:u < 1000000000){h:Heap}(t:Tab h):FW SS 191 [.int .u64 (u:Int)] h (fun v h'=>h'=h/\ ∃ n:Nat,v = .int .i64 (n+1:Nat)/\n < 9/\10 ^ n<=u/\u < 10 ^ (n+1)):=by
 refine E7 _ h _ ((PJ (by omega) (by omega) h).mono ?_)
 rintro _ g ⟨e0,n,rfl,h2,h3,h4⟩
 have t:=e0 ▸ t
 refine ⟨_,rfl,Er _ _ _ ⟨_,Tx (s:=18) ?_ (by omega),_,rfl,?_⟩⟩
 ·rw [ap (by omega) (by omega)]; omega
 rw [ap (by omega) (by omega)]
 have h5:n < 30:=by
  rcases Nat.lt_or_ge n 30 with h | h
  ·exact h
  ·have:2 ^ 30<=2 ^ n:=Nat.pow_le_pow_right (by omega) h
   omega
 have h6:6<=n:=by
  rcases Nat.lt_or_ge n 6 with h | h
  ·have:2 ^ (n+1)<=2 ^ 6:=Nat.pow_le_pow_right (by omega) h
   omega
  ·exact h
 obtain ⟨g1,g2⟩:=U7 t (i:=((n+1:Nat):Int)*78913 / 2 ^ 18) (by omega) (by omega)
 refine ⟨_,g1,_,g2,N6 _ _ _ ?_⟩
 have key: ∀ q:Nat,2<=q->q<=9->10 ^ (q - 1)<=u->u < 10 ^ (q+1)->((n+1:Nat):Int)*78913 / 2 ^ 18=(q:Int)->aw (decide (((u:Nat):Int)>=((10 ^ (((n+1:Nat):Int)*78913 / 2 ^ 18).toNat:Nat):Int))) (∃ n11:Int,Value.int .i64 1 = .int .i64 n11/\(g=h/\ ∃ m:Nat,Value.int .i64 (IntKind.wrap .i64 (((n+1:Nat):Int)*78913 / 2 ^ 18+n11)) = .int .i64 (m+1:Nat)/\m < 9/\10 ^ m<=u/\u < 10 ^ (m+1))) (∃ n11:Int,Value.int .i64 0 = .int .i64 n11/\(g=h/\ ∃ m:Nat,Value.int .i64 (IntKind.wrap .i64 (((n+1:Nat):Int)*78913 / 2 ^ 18+n11)) = .int .i64 (m+1:Nat)/\m < 9/\10 ^ m<=u/\u < 10 ^ (m+1))):=by
  intro q q1 q2 q3 q4 q5
  rw [q5,Int.toNat_natCast]
  refine ae (fun g5=> ?_) (fun g5=> ?_)
  ·have g5:=dT g5
   refine ⟨1,rfl,e0,q,?_,?_,by omega,q4⟩
   ·rw [ap (by omega) (by omega)]; rfl
   ·rcases Nat.lt_or_ge q 9 with h | h
    ·exact h
    ·have:q=9:=by omega
     subst this
     omega
  ·have g5:=dF g5
   refine ⟨0,rfl,e0,q - 1,?_,by omega,q3,by rw [Nat.sub_add_cancel (by omega)]; omega⟩
   rw [ap (by omega) (by omega),Nat.sub_add_cancel (by omega),Int.add_zero]
 have hn:n=6\/n=7\/n=8\/n=9\/n=10\/n=11\/n=12\/n=13\/n=14\/n=15\/n=16\/n=17\/n=18\/n=19\/n=20\/n=21\/n=22\/n=23\/n=24\/n=25\/n=26\/n=27\/n=28\/n=29:=by omega
 rcases hn with rfl | rfl | rfl | rfl | rfl | rfl | rfl | rfl | rfl | rfl | rfl | rfl | rfl | rfl | rfl | rfl | rfl | rfl | rfl | rfl | rfl | rfl | rfl | rfl
 all_goals first
  | exact key 2 (by omega) (by omega) (by omega) (by omega) (by omega)
  | exact key 3 (by omega) (by omega) (by omega) (by omega) (by omega)
  | exact key 4 (by omega) (by omega) (by omega) (by omega) (by omega)
  | exact key 5 (by omega) (by omega) (by omega) (by omega) (by omega)
  | exact key 6 (by omega) (by omega) (by omega) (by omega) (by omega)
  | exact key 7 (by omega) (by omega) (by omega) (by omega) (by omega)
  | exact key 8 (by omega) (by omega) (by omega) (by omega) (by omega)
  | exact key 9 (by omega) (by omega) (by omega) (by omega) (by omega)
theorem Pq {u:Nat}(h1:u < 100)(h:Heap):FW SS 190 [.int .i64 (u:Int)] h (fun v h'=>h'=h/\v=aa (Num.toDec u)):=by
 refine PU _ h _ (ae (fun g=> ?_) (fun g=> ?_))
 ·have g:=dT g
  rw [ap (by omega) (by omega)]
  refine ⟨_,iY (by kernel_rfl) _ (a:=u) (b:=u+1) rfl rfl (by omega) (by simp; omega),rfl,?_⟩
  rw [Num.toDec_lt (by omega)]
  have:u=0\/u=1\/u=2\/u=3\/u=4\/u=5\/u=6\/u=7\/u=8\/u=9:=by omega
  rcases this with rfl | rfl | rfl | rfl | rfl | rfl | rfl | rfl | rfl | rfl <;> rfl
 ·have g:=dF g
  rw [ap (n:=(u:Int)*2) (by omega) (by omega),ap (by omega) (by omega)]
  refine ⟨_,iY (l:=SM) (by kernel_rfl) (a:=2*u) (b:=2*u+2) (by show some _=some _; congr 1; omega) (by show some _=some _; congr 1; omega) (by omega) (by show _<=200; omega),rfl,?_⟩
  have hb:=OD h1
  rw [Num.toDec_ge (by omega),Num.toDec_lt (by omega),show 2*u+2 - 2*u=2 by omega]
  have hl:SM.length=200:=rfl
  rw [List.drop_eq_getElem_cons (by omega),List.drop_eq_getElem_cons (by omega)]
  have e1:SM[2*u]'(by omega)=Num.dig (u / 10):=by
   apply UInt8.toNat_inj.1
   have:=hb.1
   rw [gD,gE (by omega)] at this
   rw [show (SM[2*u]'(by omega)).toNat=_ from this]
   unfold Num.dig
   rw [UInt8.toNat_ofNat',Nat.mod_eq_of_lt (by omega)]
  have e2:SM[2*u+1]'(by omega)=Num.dig (u % 10):=by
   apply UInt8.toNat_inj.1
   have:=hb.2
   rw [gD,gE (by omega)] at this
   rw [show (SM[2*u+1]'(by omega)).toNat=_ from this]
   unfold Num.dig
   rw [UInt8.toNat_ofNat',Nat.mod_eq_of_lt (a:=48+u % 10) (b:=2 ^ 8) (by omega)]
  rw [e1,e2]; rfl
section
theorem gY {n:Int}(h1:0<=n)(h2:n < 4294967296):IntKind.wrap .u32 n=n:=by
 simp only [IntKind.wrap,IntKind.bits,IntKind.signed,Bool.false_and,Bool.false_eq_true,if_false]; omega
theorem z5 {P:Program}{t:TypeId}{a:Int}{b:Nat}(h0:0<=a)(h1:a < 4294967296)(hb:0 < b):am P .quo t (.int .u32 a) (.int .u32 (b:Int))=some (.int .u32 (a / (b:Int))):=by
 rw [FV P t .u32 _ _ (by omega),Int.tdiv_eq_ediv_of_nonneg h0,gY (Int.ediv_nonneg h0 (by omega)) (Int.lt_of_le_of_lt (Int.ediv_le_self _ h0) h1)]
theorem SJ {d:Nat}(h:d < 10):nW (Num.dig d) = .int .u8 (48+(d:Int)):=by
 unfold nW Num.dig
 rw [UInt8.toNat_ofNat',Nat.mod_eq_of_lt (a:=48+d) (b:=2 ^ 8) (by omega)]; rfl
structure FB (h0:Heap)(k n u j w:Nat)(h:Heap):Prop where
 blk: ∃ cs,h.get k=some (.cells cs 177 0 true)/\cs.length=24/\(cs.drop j).take (n - j)=(Num.wid (n - j) u).map nW
 hw:w=u / 10 ^ (n - j)
 lt:w < 10 ^ j
 jn:j<=n
 n24:n<=9
 ok:OkX h0 k h
section
variable {h0 h:Heap} {k n u j w:Nat}
theorem FB.room (f:FB h0 k n u j w h)(r:Nat):FB h0 k n u j w (room h r):=⟨f.blk,f.hw,f.lt,f.jn,f.n24,f.ok.room r⟩
theorem FB.step (f:FB h0 k n u (j+1) w h){c:Nat}{x i:Int}(hx:x=48+(w:Int) % 10)(hi:i=(j:Int)):
  ∃ p:Addr,af SS.P 157 (.slice (some ⟨k,0,none⟩) n c) (.int .i64 i)=some (.pointer (some p))/\ ∃ u':Upd,al SS.P 5 (.pointer (some p)) (.int .u8 x) h=some (undef,u')/\FB h0 k n u j (w / 10) (u'.app h):=by
 subst hx hi
 obtain ⟨cs,h1,h2,h3⟩:=f.blk
 have hjn:=f.jn
 have hn:=f.n24
 refine ⟨⟨k,0+j,none⟩,?_,.set k (.cells (cs.set j (nW (Num.dig (w % 10)))) 177 0 true),?_,?_⟩
 ·unfold af
  rw [wN]; dsimp only
  rw [V3]; dsimp only
  rw [if_pos ⟨by omega,by omega⟩,Nat.mul_one,bn,Int.toNat_natCast]
 ·rw [show (48+((w:Nat):Int) % 10)=48+((w % 10:Nat):Int) by omega,<-SJ (Nat.mod_lt _ (by omega))]
  show (if aq SS.P 5=some 1 then (storeAt h k (0+j) [nW (Num.dig (w % 10))]).map fun u=>(undef,u) else none)=_
  rw [if_pos V3]
  unfold storeAt
  rw [h1]; dsimp only
  rw [Nat.zero_add,if_pos ⟨by simp; omega,rfl⟩]
  have e:cs.take j++[nW (Num.dig (w % 10))]++cs.drop (j+[nW (Num.dig (w % 10))].length)=cs.set j (nW (Num.dig (w % 10))):=by
   rw [List.set_eq_take_append_cons_drop,if_pos (by omega),List.append_assoc]; rfl
  rw [e]; rfl
 ·have hk:=f.ok.wf _ _ h1
  have hnj:n - j=(n - (j+1))+1:=by omega
  refine ⟨⟨cs.set j (nW (Num.dig (w % 10))),?_,by rw [List.length_set]; exact h2,?_⟩,?_,?_,by omega,hn,f.ok.set hk _⟩
  ·show (h.set k _).get k=_
   rw [Heap.get_set,if_pos rfl]
  ·rw [List.drop_eq_getElem_cons (by simp only [List.length_set]; omega),hnj,List.take_succ_cons,List.getElem_set_self,List.drop_set_of_lt (by omega),h3,Num.wid_cons,List.map_cons,<-f.hw]
  ·rw [hnj,Nat.pow_succ,<-Nat.div_div_eq_div_mul,<-f.hw]
  ·have:=f.lt
   rw [Nat.pow_succ] at this
   omega
theorem Wo {y:Int}{x:Nat}(hy:y=(x:Int))(hx:x < 100):aQ SS.P 9 (aa SM) (.int .u32 (IntKind.wrap .u32 (IntKind.wrap .u32 (y*2)+1)))=some (.int .u8 (48+(x:Int) % 10)):=by
 rw [gY (n:=y*2) (by omega) (by omega),gY (by omega) (by omega),i6 (by kernel_rfl) SM .u32 (by omega) (by show _ < ((200:Nat):Int); omega),show (y*2+1).toNat=2*x+1 by omega,(OD hx).2]; rfl
theorem XA {y:Int}{x:Nat}(hy:y=(x:Int))(hx:x < 100):aQ SS.P 9 (aa SM) (.int .u32 (IntKind.wrap .u32 (y*2)))=some (.int .u8 (48+(x:Int) / 10)):=by
 rw [gY (n:=y*2) (by omega) (by omega),i6 (by kernel_rfl) SM .u32 (by omega) (by show _ < ((200:Nat):Int); omega),show (y*2).toNat=2*x by omega,(OD hx).1]; rfl
theorem FB.pair (f:FB h0 k n u (j+2) w h){c:Nat}{y i1 i2:Int}(hy:y=(w:Int) % 100)(h1:i1=(j:Int)+1)(h2:i2=(j:Int)):
  ∃ n9:Int,aQ SS.P 9 (aa SM) (.int .u32 (IntKind.wrap .u32 (IntKind.wrap .u32 (y*2)+1)))=some (.int .u8 n9)/\
  ∃ n10:Int,aQ SS.P 9 (aa SM) (.int .u32 (IntKind.wrap .u32 (y*2)))=some (.int .u8 n10)/\
  ∃ p11:Addr,af SS.P 157 (.slice (some ⟨k,0,none⟩) n c) (.int .i64 i1)=some (.pointer (some p11))/\
  ∃ u12:Upd,al SS.P 5 (.pointer (some p11)) (.int .u8 n9) (Go.Ab.room h 15)=some (undef,u12)/\
  ∃ p13:Addr,af SS.P 157 (.slice (some ⟨k,0,none⟩) n c) (.int .i64 i2)=some (.pointer (some p13))/\
  ∃ u14:Upd,al SS.P 5 (.pointer (some p13)) (.int .u8 n10) (u12.app (Go.Ab.room h 15))=some (undef,u14)/\
  FB h0 k n u j (w / 100) (u14.app (u12.app (Go.Ab.room h 15))):=by
 have e:y=((w % 100:Nat):Int):=by omega
 obtain ⟨p,a1,u1,a2,f1⟩:=(f.room 15).step (j:=j+1) (c:=c) (x:=48+((w % 100:Nat):Int) % 10) (i:=i1) (by omega) (by omega)
 obtain ⟨q,a3,u2,a4,f2⟩:=f1.step (c:=c) (x:=48+((w % 100:Nat):Int) / 10) (i:=i2) (by omega) (by omega)
 refine ⟨_,Wo e (by omega),_,XA e (by omega),p,a1,u1,a2,q,a3,u2,a4,?_⟩
 rw [Nat.div_div_eq_div_mul] at f2
 exact f2
end
theorem Q9 {h0 h:Heap}{k n c u:Nat}(f:FB h0 k n u n u h):FW SS 192 [.slice (some ⟨k,0,none⟩) n c,.int .u64 (u:Int)] h (fun v h'=>v = .tuple ⟨[]⟩/\ ∃ w,FB h0 k n u 0 w h'):=by
 have hn:=f.n24
 have L:=vU (some ⟨k,0,none⟩) n c (u:Int) (fun mz i v g=> ∃ w:Nat,v=(w:Int)/\mz=i/\FB h0 k n u i w g) (fun v h'=>v = .tuple ⟨[]⟩/\ ∃ w,FB h0 k n u 0 w h') (by
  intro mz i v; intros; rename_i g hi
  obtain ⟨w,rfl,rfl,f⟩:=hi
  have hjn:=f.jn
  have hw:w < 1000000000:=Nat.lt_of_lt_of_le f.lt (show 10 ^ mz<=10 ^ 9 from Nat.pow_le_pow_right (by omega) (by omega))
  refine ae (fun g1=> ?_) (fun g1=> ?_)
  ·have g1:=dT g1
   obtain ⟨j,rfl⟩: ∃ j,mz=j+8:=⟨mz - 8,by omega⟩
   refine ⟨_,cJ (b:=100000000) (by omega) (by omega),_,kQ (b:=100000000) (by omega) (by omega) (by omega),?_⟩
   rw [gY (n:=((w:Nat):Int) % ((100000000:Nat):Int)) (by omega) (by omega)]
   refine ⟨_,z5 (b:=10000) (by omega) (by omega) (by omega),_,cJ (b:=10000) (by omega) (by omega),_,z5 (b:=100) (by omega) (by omega) (by omega),_,cJ (b:=100) (by omega) (by omega),_,z5 (b:=100) (by omega) (by omega) (by omega),_,cJ (b:=100) (by omega) (by omega),?_⟩
   obtain ⟨a1,b1,a2,b2,a3,b3,a4,b4,a5,b5,a6,b6,f1⟩:=FB.pair (j:=j+6) (c:=c) (y:=((w:Nat):Int) % ((100000000:Nat):Int) % ((10000:Nat):Int) % ((100:Nat):Int)) (i1:=IntKind.wrap .i64 (((j+8:Nat):Int) - 1)) (i2:=IntKind.wrap .i64 (((j+8:Nat):Int) - 2)) f (by omega) (by rw [ap (by omega) (by omega)]; omega) (by rw [ap (by omega) (by omega)]; omega)
   refine ⟨a1,b1,a2,b2,a3,b3,a4,b4,a5,b5,a6,b6,?_⟩
   obtain ⟨a1,b1,a2,b2,a3,b3,a4,b4,a5,b5,a6,b6,f2⟩:=FB.pair (j:=j+4) (c:=c) (y:=((w:Nat):Int) % ((100000000:Nat):Int) % ((10000:Nat):Int) / ((100:Nat):Int)) (i1:=IntKind.wrap .i64 (((j+8:Nat):Int) - 3)) (i2:=IntKind.wrap .i64 (((j+8:Nat):Int) - 4)) f1 (by omega) (by rw [ap (by omega) (by omega)]; omega) (by rw [ap (by omega) (by omega)]; omega)
   refine ⟨a1,b1,a2,b2,a3,b3,a4,b4,a5,b5,a6,b6,?_⟩
   obtain ⟨a1,b1,a2,b2,a3,b3,a4,b4,a5,b5,a6,b6,f3⟩:=FB.pair (j:=j+2) (c:=c) (y:=((w:Nat):Int) % ((100000000:Nat):Int) / ((10000:Nat):Int) % ((100:Nat):Int)) (i1:=IntKind.wrap .i64 (((j+8:Nat):Int) - 5)) (i2:=IntKind.wrap .i64 (((j+8:Nat):Int) - 6)) f2 (by omega) (by rw [ap (by omega) (by omega)]; omega) (by rw [ap (by omega) (by omega)]; omega)
   refine ⟨a1,b1,a2,b2,a3,b3,a4,b4,a5,b5,a6,b6,?_⟩
   obtain ⟨a1,b1,a2,b2,a3,b3,a4,b4,a5,b5,a6,b6,f4⟩:=FB.pair (j:=j) (c:=c) (y:=((w:Nat):Int) % ((100000000:Nat):Int) / ((10000:Nat):Int) / ((100:Nat):Int)) (i1:=IntKind.wrap .i64 (((j+8:Nat):Int) - 7)) (i2:=IntKind.wrap .i64 (((j+8:Nat):Int) - 8)) f3 (by omega) (by rw [ap (by omega) (by omega)]; omega) (by rw [ap (by omega) (by omega)]; omega)
   refine ⟨a1,b1,a2,b2,a3,b3,a4,b4,a5,b5,a6,b6,?_⟩
   have e1:IntKind.wrap .i64 (((j+8:Nat):Int) - 8)=(j:Int):=by rw [ap (by omega) (by omega)]; omega
   rw [e1]
   exact vW j (by omega) ⟨w / 100000000,by omega,rfl,by
    have:=f4
    simp only [Nat.div_div_eq_div_mul] at this
    exact this⟩
  ·have g1:=dF g1
   have hw8:w < 100000000:=Nat.lt_of_lt_of_le f.lt (show 10 ^ mz<=10 ^ 8 from Nat.pow_le_pow_right (by omega) (by omega))
   rw [gY (n:=((w:Nat):Int)) (by omega) (by omega)]
   refine ae (fun g2=> ?_) (fun g2=> ?_)
   ·have g2:=dT g2
    obtain ⟨j,rfl⟩: ∃ j,mz=j+4:=⟨mz - 4,by omega⟩
    refine ⟨_,cJ (b:=10000) (by omega) (by omega),_,z5 (b:=10000) (by omega) (by omega) (by omega),_,z5 (b:=100) (by omega) (by omega) (by omega),_,cJ (b:=100) (by omega) (by omega),?_⟩
    obtain ⟨a1,b1,a2,b2,a3,b3,a4,b4,a5,b5,a6,b6,f1⟩:=FB.pair (j:=j+2) (c:=c) (y:=((w:Nat):Int) % ((10000:Nat):Int) % ((100:Nat):Int)) (i1:=IntKind.wrap .i64 (((j+4:Nat):Int) - 1)) (i2:=IntKind.wrap .i64 (((j+4:Nat):Int) - 2)) f (by omega) (by rw [ap (by omega) (by omega)]; omega) (by rw [ap (by omega) (by omega)]; omega)
    refine ⟨a1,b1,a2,b2,a3,b3,a4,b4,a5,b5,a6,b6,?_⟩
    obtain ⟨a1,b1,a2,b2,a3,b3,a4,b4,a5,b5,a6,b6,f2⟩:=FB.pair (j:=j) (c:=c) (y:=((w:Nat):Int) % ((10000:Nat):Int) / ((100:Nat):Int)) (i1:=IntKind.wrap .i64 (((j+4:Nat):Int) - 3)) (i2:=IntKind.wrap .i64 (((j+4:Nat):Int) - 4)) f1 (by omega) (by rw [ap (by omega) (by omega)]; omega) (by rw [ap (by omega) (by omega)]; omega)
    refine ⟨a1,b1,a2,b2,a3,b3,a4,b4,a5,b5,a6,b6,?_⟩
    have e1:IntKind.wrap .i64 (((j+4:Nat):Int) - 4)=(j:Int):=by rw [ap (by omega) (by omega)]; omega
    rw [e1]
    have hwj:=f2.lt
    refine ae (fun g3=> ?_) (fun g3=> ?_)
    ·have g3:=dT g3
     obtain ⟨l,rfl⟩: ∃ l,j=l+2:=⟨j - 2,by omega⟩
     refine ⟨_,cJ (b:=100) (by omega) (by omega),_,z5 (b:=100) (by omega) (by omega) (by omega),?_⟩
     obtain ⟨a1,b1,a2,b2,a3,b3,a4,b4,a5,b5,a6,b6,f3⟩:=FB.pair (j:=l) (c:=c) (y:=((w:Nat):Int) / ((10000:Nat):Int) % ((100:Nat):Int)) (i1:=IntKind.wrap .i64 (((l+2:Nat):Int) - 1)) (i2:=IntKind.wrap .i64 (((l+2:Nat):Int) - 2)) f2 (by omega) (by rw [ap (by omega) (by omega)]; omega) (by rw [ap (by omega) (by omega)]; omega)
     refine ⟨a1,b1,a2,b2,a3,b3,a4,b4,a5,b5,a6,b6,?_⟩
     have e2:IntKind.wrap .i64 (((l+2:Nat):Int) - 2)=(l:Int):=by rw [ap (by omega) (by omega)]; omega
     rw [e2]
     refine ae (fun g4=> ?_) (fun g4=> ?_)
     ·have g4:=dT g4
      obtain rfl:l=1:=by omega
      have hwl:=f3.lt
      rw [gY (n:=48+_) (by omega) (by omega),mU (n:=48+_) (by omega) (by omega)]
      obtain ⟨p,b1,u1,b2,f4⟩:=f3.step (c:=c) (x:=48+((w:Nat):Int) / ((10000:Nat):Int) / ((100:Nat):Int)) (i:=0) (by omega) rfl
      exact ⟨p,b1,u1,b2,rfl,_,f4⟩
     ·have g4:=dF g4
      obtain rfl:l=0:=by omega
      exact ⟨rfl,_,f3⟩
    ·have g3:=dF g3
     refine ae (fun g4=> ?_) (fun g4=> ?_)
     ·have g4:=dT g4
      obtain rfl:j=1:=by omega
      rw [gY (n:=48+_) (by omega) (by omega),mU (n:=48+_) (by omega) (by omega)]
      obtain ⟨p,b1,u1,b2,f4⟩:=f2.step (c:=c) (x:=48+((w:Nat):Int) / ((10000:Nat):Int)) (i:=0) (by omega) rfl
      exact ⟨p,b1,u1,b2,rfl,_,f4⟩
     ·have g4:=dF g4
      obtain rfl:j=0:=by omega
      exact ⟨rfl,_,f2⟩
   ·have g2:=dF g2
    refine ae (fun g3=> ?_) (fun g3=> ?_)
    ·have g3:=dT g3
     obtain ⟨l,rfl⟩: ∃ l,mz=l+2:=⟨mz - 2,by omega⟩
     refine ⟨_,cJ (b:=100) (by omega) (by omega),_,z5 (b:=100) (by omega) (by omega) (by omega),?_⟩
     obtain ⟨a1,b1,a2,b2,a3,b3,a4,b4,a5,b5,a6,b6,f3⟩:=FB.pair (j:=l) (c:=c) (y:=((w:Nat):Int) % ((100:Nat):Int)) (i1:=IntKind.wrap .i64 (((l+2:Nat):Int) - 1)) (i2:=IntKind.wrap .i64 (((l+2:Nat):Int) - 2)) f (by omega) (by rw [ap (by omega) (by omega)]; omega) (by rw [ap (by omega) (by omega)]; omega)
     refine ⟨a1,b1,a2,b2,a3,b3,a4,b4,a5,b5,a6,b6,?_⟩
     have e2:IntKind.wrap .i64 (((l+2:Nat):Int) - 2)=(l:Int):=by rw [ap (by omega) (by omega)]; omega
     rw [e2]
     have hwl:=f3.lt
     refine ae (fun g4=> ?_) (fun g4=> ?_)
     ·have g4:=dT g4
      obtain rfl:l=1:=by omega
      rw [gY (n:=48+_) (by omega) (by omega),mU (n:=48+_) (by omega) (by omega)]
      obtain ⟨p,b1,u1,b2,f4⟩:=f3.step (c:=c) (x:=48+((w:Nat):Int) / ((100:Nat):Int)) (i:=0) (by omega) rfl
      exact ⟨p,b1,u1,b2,rfl,_,f4⟩
     ·have g4:=dF g4
      obtain rfl:l=0:=by omega
      exact ⟨rfl,_,f3⟩
    ·have g3:=dF g3
     have hwl:=f.lt
     refine ae (fun g4=> ?_) (fun g4=> ?_)
     ·have g4:=dT g4
      obtain rfl:mz=1:=by omega
      rw [gY (n:=48+_) (by omega) (by omega),mU (n:=48+_) (by omega) (by omega)]
      obtain ⟨p,b1,u1,b2,f4⟩:=f.step (c:=c) (x:=48+((w:Nat):Int)) (i:=0) (by omega) rfl
      exact ⟨p,b1,u1,b2,rfl,_,f4⟩
     ·have g4:=dF g4
      obtain rfl:mz=0:=by omega
      exact ⟨rfl,_,f⟩)
 exact PE _ n c _ h _ (L n ⟨u,rfl,rfl,f⟩)
end
noncomputable def QM:Blk:= .cells (List.replicate 24 (.int .u8 0)) 177 0 true
theorem XF:bi SS.P 177=some (QM,kw):=by kernel_rfl
theorem WT:SS.P.underlying 177=some (.array 24 5):=by kernel_rfl
theorem Da {h:Heap}{k:Nat}{cs:List Value}{wr:Bool}(hk:h.get k=some (.cells cs 177 0 wr)){n:Nat}(hn:n<=24):aL SS.P 177 (.pointer (some ⟨k,0,none⟩)) none (some (.int .i64 (n:Int))) none h=some (.slice (some ⟨k,0,none⟩) n 24):=by
 unfold aL
 dsimp only
 rw [WT]
 dsimp only [bK]
 rw [V3,hk]
 show (if 0<=((0:Nat):Int)/\((0:Nat):Int)<=(n:Int)/\(n:Int)<=((24:Nat):Int)/\24 < bm then some (Value.slice (some ⟨k,0+((0:Nat):Int).toNat*1,none⟩) ((n:Int) - ((0:Nat):Int)).toNat (24 - ((0:Nat):Int).toNat)) else none)=_
 have hO:24 < bm:=by unfold bm; omega
 rw [if_pos ⟨by omega,by omega,by omega,hO⟩]
 have e2:((n:Int) - ((0:Nat):Int)).toNat=n:=by omega
 have e0:((0:Nat):Int).toNat=0:=rfl
 rw [e2,e0]
theorem JE {h:Heap}{k off n c:Nat}{cs:List Value}{e sz:Nat}{wr:Bool}(hk:h.get k=some (.cells cs e sz wr)){l:List UInt8}(hl:(cs.drop off).take n=l.map nW)(hn:l.length=n):xZ SS.P 157 9 (.slice (some ⟨k,off,none⟩) n c) h=some (aa l):=by
 unfold xZ aH
 dsimp only
 rw [wN,show SS.P.underlying 9=some .string by kernel_rfl]
 dsimp only
 rw [show SS.P.underlying 5=some (.int .u8) by kernel_rfl]
 dsimp only
 rw [hk]
 dsimp only
 rw [hl,if_pos (by rw [lM]; exact hn),kC]; rfl
theorem F7 {u:Nat}(h1:u < 1000000000){h:Heap}(t:Tab h)(w:Wf h):FW SS 180 [.int .u64 (u:Int),.int .i64 10] h (fun v h'=>v=aa (Num.toDec u)/\Ok h h'):=by
 refine GH _ h _ (ae (fun _=> ?_) (fun g=>by simp at g))
 refine ae (fun g=> ?_) (fun g=> ?_)
 ·have g:=dT g
  rw [ap (by omega) (by omega)]
  refine (Pq (by omega) h).mono ?_
  rintro _ _ ⟨rfl,rfl⟩
  exact ⟨_,rfl,rfl,Ok.refl w⟩
 ·have g:=dF g
  have ok:=(Ok.refl w).push QM
  refine ⟨_,XF,(Ed (by omega) h1 (t.ok ok)).mono ?_⟩
  rintro _ h6 ⟨e6,n,rfl,g1,g2,g3⟩
  subst e6
  have hk:(h.push QM).get h.next=some (.cells (List.replicate 24 (.int .u8 0)) 177 0 true):=by rw [Heap.get_push,if_pos rfl]; rfl
  refine ⟨_,rfl,_,_,_,Da hk (n:=n+1) (by omega),?_⟩
  have f:FB (h.push QM) h.next (n+1) u (n+1) u (h.push QM):=⟨⟨_,hk,by simp,by simp [Num.wid]⟩,by simp,g3,Nat.le_refl _,by omega,OkX.refl ok.wf⟩
  refine (Q9 f).mono ?_
  rintro _ h12 ⟨rfl,x,f2⟩
  obtain ⟨cs,b1,b2,b3⟩:=f2.blk
  rw [List.drop_zero,Nat.sub_zero] at b3
  refine ⟨rfl,_,_,_,Da b1 (n:=n+1) (by omega),Num.toDec u,JE b1 ?_ ?_,rfl,?_⟩
  ·rw [List.drop_zero,b3,Num.wid_dec g3 (.inr g2)]
  ·rw [<-Num.wid_dec g3 (.inr g2),Num.wid_len]
  ·refine ⟨f2.ok.wf,fun j B hj=>f2.ok.keep j B (fun e=>by have:=w _ _ hj; omega) (ok.ext _ _ hj),Nat.le_trans ok.nx f2.ok.nx⟩
theorem Kb {u:Nat}(h1:u < 1000000000){h:Heap}(t:Tab h)(w:Wf h):FW SS 170 [.int .u64 (u:Int),.int .i64 10] h (fun v h'=>v=aa (Num.toDec u)/\Ok h h'):=by
 refine Je _ h _ ((F7 h1 t w).mono ?_)
 rintro _ h2 ⟨rfl,o⟩
 exact ⟨_,rfl,rfl,o⟩
noncomputable def eJ:Code:=(Tryz.f181.body).getD .skip
def F1:List Nat:=[]
abbrev Fg (p:Addr)(h:Heap)(Q:VH):Prop:=xP (ag SS.P 163 (.pointer (some p)) 0) fun p1=>xO (ah SS.P 161 h (.pointer (some p1))) fun a2=>xB (am SS.P .eql 161 (.pointer a2) (.pointer none)) fun b3=>aw b3 (xG (aK SS.P dj (ev SS.gl [(.pointer (some p)),undef,(.pointer (some p)),(.pointer (some p)),(.pointer (some p1)),(.pointer a2),(.bool b3),(.pointer (some p)),(.pointer (some p)),undef,undef,undef,undef,undef,undef,undef,undef,undef,undef,undef]) (GX (aP [1,0] eJ) 2) h) h fun v4 u5 g6=>FW SS 194 [v4] g6 fun v7 h8=>yV v7 fun v9=>xG (aK SS.P dj (ev SS.gl [(.pointer (some p)),undef,(.pointer (some p)),(.pointer (some p)),(.pointer (some p1)),(.pointer a2),(.bool b3),(.pointer (some p)),(.pointer (some p)),v4,v9,undef,undef,undef,undef,undef,undef,undef,undef,undef]) (GX (aP [1,0] eJ) 4) h8) h8 fun v10 u11 g12=>xP (ag SS.P 163 (.pointer (some p)) 0) fun p13=>xU (al SS.P 161 (.pointer (some p13)) v10 g12) g12 fun u14 g15=>Q (.tuple ⟨[]⟩) g15) (xP (ag SS.P 163 (.pointer (some p)) 0) fun p16=>xO (ah SS.P 161 h (.pointer (some p16))) fun a17=>xB (am SS.P .neq 161 (.pointer a17) (.pointer (some p))) fun b18=>aw b18 (False) (Q (.tuple ⟨[]⟩) h))
theorem CF (p:Addr)(h:Heap)(Q:VH)(hx:Fg p h Q):FW SS 181 [(.pointer (some p))] h Q:=ax (M:=F1) (c:=eJ) Tryz.func181 (show Tryz.f181.body=some eJ by kernel_rfl) (by kernel_rfl) (ai hx (by kernel_rfl))
noncomputable def wD:Code:=(Tryz.f171.body).getD .skip
def Pw:List Nat:=[]
abbrev Pe (p:Addr)(l:LB)(h:Heap)(Q:VH):Prop:=FW SS 181 [(.pointer (some p))] h fun v1 h2=>v1=(.tuple ⟨[]⟩)/\xP (ag SS.P 163 (.pointer (some p)) 1) fun p3=>xL (ah SS.P 157 h2 (.pointer (some p3))) fun a4 n5 c6=>xE (aB SS.P 157 9 (.slice a4 n5 c6) (aa l) h2) h2 fun a7 n8 c9 u10 g11=>xP (ag SS.P 163 (.pointer (some p)) 1) fun p12=>xU (al SS.P 157 (.pointer (some p12)) (.slice a7 n8 c9) g11) g11 fun u13 g14=>Q (.tuple ⟨[(.int .i64 ((l:LB).length:Int)),.nilIface]⟩) g14
theorem Nc (p:Addr)(l:LB)(h:Heap)(Q:VH)(hx:Pe p l h Q):FW SS 171 [(.pointer (some p)),(aa l)] h Q:=ax (M:=Pw) (c:=wD) Tryz.func171 (show Tryz.f171.body=some wD by kernel_rfl) (by kernel_rfl) (ai hx (by kernel_rfl))
noncomputable def iP:Code:=(Tryz.f173.body).getD .skip
def NI:List Nat:=[]
abbrev Lv (p:Addr)(h:Heap)(Q:VH):Prop:=xP (ag SS.P 163 (.pointer (some p)) 1) fun p1=>xL (ah SS.P 157 (room h 12) (.pointer (some p1))) fun a2 n3 c4=>xG (aK SS.P dj (ev SS.gl [(.pointer (some p)),undef,(aa []),(.pointer (some p)),(.pointer (some p)),(.pointer (some p1)),(.slice a2 n3 c4),undef,undef,undef,undef,undef,undef,undef]) (GX (aP [1,0] iP) 4) (room h 12)) (room h 12) fun v5 u6 g7=>xP (ag SS.P 163 (.pointer (some p)) 1) fun p8=>xL (ah SS.P 157 g7 (.pointer (some p8))) fun a9 n10 c11=>xG (aK SS.P dj (ev SS.gl [(.pointer (some p)),undef,(aa []),(.pointer (some p)),(.pointer (some p)),(.pointer (some p1)),(.slice a2 n3 c4),v5,(.pointer (some p)),(.pointer (some p)),(.pointer (some p8)),(.slice a9 n10 c11),(iA n10),undef]) (GX (aP [1,0] iP) 10) g7) g7 fun v12 u13 g14=>(ah SS.P 157 (room h 12) (.pointer (some p8))=some (.slice a9 n10 c11)/\cM 4 (.slice a9 n10 c11) (.slice a9 n10 c11)=true)/\(HG SS.P 157 (.slice a9 n10 c11) (room h 12)=some (iA n10)/\cM 4 (iA n10) (iA n10)=true)/\Q v12 g14
theorem JG (p:Addr)(h:Heap)(Q:VH)(hx:Lv p h Q):FW SS 173 [(.pointer (some p))] h Q:=ax (M:=NI) (c:=iP) Tryz.func173 (show Tryz.f173.body=some iP by kernel_rfl) (by kernel_rfl) (ai hx (by kernel_rfl))
end Go.Proofs.YtoabjjimjldcfaaGreatDoor
end
section
namespace Go.Ab
open Go
def OwnF (h0 h:Heap)(e:TypeId)(v:Value)(vs:List Value):Prop:=
 (v = .slice none 0 0/\vs=[])\/ ∃ k,v = .slice (some ⟨k,0,none⟩) vs.length (bm+vs.length)/\h0.next<=k/\h.get k=some (.cells vs e 1 true)
theorem OwnF.addL {P:Program}{t e t':TypeId}{i:TypeInfo}(hU:P.underlying t=some (.slice e))(hE:dz P e=some i)(hs:i.size=1)(hT:ca P t'=true){h0 h:Heap}(w0:Wf h0)(a:Ok h0 h){v:Value}{vs:List Value}(o:OwnF h0 h e v vs){x:Value}{news:List Value}(hsrc:dJ h 1 x=some (news,news.length))(hx:news.all bL=true)(hl:(vs.length+news.length)*i.bytes<=70368744177664)(hl2:vs.length+news.length<=1099511627776):
  ∃ (b:Option Addr)(n c:Nat)(u:Upd),aB P t t' v x h=some (.slice b n c,u)/\OwnF h0 (u.app h) e (.slice b n c) (vs++news)/\Ok h0 (u.app h)/\(∀ j B,h.get j=some B->(∀ o n c,v≠ .slice (some ⟨j,o,none⟩) n c)->(u.app h).get j=some B):=by
 have oldn: ∀ j B,h.get j=some B->j < h.next:=fun j B hj=>a.wf _ _ hj
 unfold aB
 rw [hU]; dsimp only
 rw [hE]; dsimp only
 rw [if_pos hT,hs,hsrc]; dsimp only
 rw [if_pos ⟨hx,by omega⟩]
 rcases o with ⟨rfl,rfl⟩ | ⟨k,rfl,h2,h3⟩
 ·show ∃ b n c u,(if news.length=0 then some (Value.slice none 0 0,Upd.no) else if news.length*i.bytes<=70368744177664/\news.length<=1099511627776 then some (Value.slice (some ⟨h.next,0,none⟩) news.length (bm+news.length),Upd.push (.cells news e 1 true)) else none)=_/\_
  by_cases hz:news.length=0
  ·have hn:news=[]:=List.eq_nil_of_length_eq_zero hz
   subst hn
   exact ⟨_,_,_,_,rfl,.inl ⟨rfl,rfl⟩,a,fun j B hj _=>hj⟩
  ·rw [if_neg hz,if_pos (by simpa using And.intro hl hl2)]
   refine ⟨_,_,_,_,rfl,.inr ⟨h.next,by simp,a.nx,?_⟩,a.push _,fun j B hj _=> ?_⟩
   ·show (h.push _).get h.next=_
    rw [Heap.get_push,if_pos rfl]; rfl
   ·show (h.push _).get j=_
    rw [Heap.get_push,if_neg (fun e=>by have:=oldn _ _ hj; omega)]
    exact hj
 ·dsimp only
  have hkn:=a.wf _ _ h3
  by_cases hz:news.length=0
  ·have hn:news=[]:=List.eq_nil_of_length_eq_zero hz
   subst hn
   refine ⟨_,_,_,_,rfl,.inr ⟨k,by simp,h2,by rw [List.append_nil]; exact h3⟩,a,fun j B hj _=>hj⟩
  ·rw [if_neg hz,Nat.mul_one]
   have hcap:aN (bm+vs.length)=vs.length:=by unfold aN; rw [if_pos (by omega)]; omega
   rw [hcap,if_neg (by omega)]
   unfold gz
   rw [if_pos ⟨hl,hl2⟩,h3]
   dsimp only
   rw [Nat.mul_one,if_pos ⟨rfl,rfl,by simp⟩,if_neg (by omega),if_pos ⟨rfl,by omega⟩]
   refine ⟨_,_,_,_,rfl,.inr ⟨h.next,by simp,a.nx,?_⟩,?_,fun j B hj hv=> ?_⟩
   ·show ((h.del k).push _).get h.next=_
    rw [Heap.get_push,if_pos (show h.next=(h.del k).next from rfl),List.drop_zero,List.take_length]
   ·refine ⟨?_,fun j C hj=> ?_,Nat.le_trans a.nx (Nat.le_succ _)⟩
    ·refine Heap.wf_push (fun j C hj=> ?_) _
     rw [Heap.get_del] at hj
     split at hj
     ·cases hj
     ·exact a.wf _ _ hj
    ·have h7:=a.ext _ _ hj
     have h8:=a.wf _ _ h7
     show ((h.del k).push _).get j=_
     rw [Heap.get_push,if_neg (fun e=>by have:j=h.next:=e; omega),Heap.get_del,if_neg (fun e=>by have:=w0 _ _ hj; omega)]
     exact h7
   ·show ((h.del k).push _).get j=_
    rw [Heap.get_push,if_neg (fun e=>by have:=oldn _ _ hj; have:j=h.next:=e; omega),Heap.get_del,if_neg (fun e=>hv 0 _ _ (by rw [e]))]
    exact hj
theorem FF {S:Sx}{f:FuncId}{p:my}{args:List Value}{h h':Heap}{v:Value}{Q:VH}(hY:Nat.ble YB f=false)(hp:S.pr f=some p)(hr: ∀ cf,p cf args h=some (v,h'))(hq:Q v h'):FW S f args h Q:=by
 refine ⟨v,h',⟨1,fun n hn=> ?_⟩,hq⟩
 obtain ⟨m,rfl⟩: ∃ m,n=m+1:=⟨n - 1,by omega⟩
 have hY': ¬ YB<=f:=fun h=>by rw [<-Nat.ble_eq] at h; rw [hY] at h; cases h
 unfold aM
 rw [if_neg hY',hp]
 exact hr _
end Go.Ab
end
section
set_option linter.unusedVariables false
set_option maxRecDepth 100000
namespace Go.Proofs.YtoabjjimjldcfaaGreatDoor
open Go Go.Ab
theorem re:SS.P.underlying 161=some (.pointer 163):=by kernel_rfl
theorem wQ:SS.P.underlying 181=some .unsafePointer:=by kernel_rfl
theorem OB:aq SS.P 163=some 2:=by kernel_rfl
theorem R8 {ρ:Operand->Value}{o:Oper}{x:Operand}(ho:o.op = .convert 161 181 x){h:Heap}{k:Nat}{a b:Value}{wr:Bool}(hx:ρ x = .pointer (some ⟨k,0,none⟩))(hk:h.get k=some (.cells [a,b] 163 0 wr)):aK SS.P dj ρ o h=some (.pointer (some ⟨k,0,none⟩),.no):=by
 obtain ⟨dst,op,ty,pos,after,guard⟩:=o
 subst ho
 unfold aK
 have h1:aD SS.P ρ ⟨dst,.convert 161 181 x,ty,pos,after,guard⟩=none:=by
  show cw SS.P 161 181 (ρ x)=none
  rw [hx]; unfold cw; rw [re,wQ]
 have h2:aH SS.P ρ ⟨dst,.convert 161 181 x,ty,pos,after,guard⟩ h=none:=by
  unfold aH; dsimp only; rw [re,wQ,hx]
 have h3:aG SS.P ρ ⟨dst,.convert 161 181 x,ty,pos,after,guard⟩=none:=by
  unfold aG; dsimp only; rw [re,wQ,hx]
 rw [h1]; dsimp only
 rw [h2]; dsimp only
 rw [h3]; dsimp only
 unfold bA; dsimp only
 rw [re,wQ,hx]
 show (match h.get k with | some (.cells cs t' 0 _)=>if 163=t'/\aq SS.P 163=some cs.length/\0 < cs.length then some (Value.pointer (some ⟨k,0,none⟩),Upd.no) else none | _=>none)=_
 rw [hk]
 show (if 163=163/\aq SS.P 163=some [a,b].length/\0 < [a,b].length then some (Value.pointer (some ⟨k,0,none⟩),Upd.no) else none)=_
 rw [if_pos ⟨rfl,OB,by simp⟩]
theorem L6 {ρ:Operand->Value}{o:Oper}{x:Operand}(ho:o.op = .convert 181 161 x){h:Heap}{k:Nat}{a b:Value}{wr:Bool}(hx:ρ x = .pointer (some ⟨k,0,none⟩))(hk:h.get k=some (.cells [a,b] 163 0 wr)):aK SS.P dj ρ o h=some (.pointer (some ⟨k,0,none⟩),.no):=by
 obtain ⟨dst,op,ty,pos,after,guard⟩:=o
 subst ho
 unfold aK
 have h1:aD SS.P ρ ⟨dst,.convert 181 161 x,ty,pos,after,guard⟩=none:=by
  show cw SS.P 181 161 (ρ x)=none
  rw [hx]; unfold cw; rw [re,wQ]
 have h2:aH SS.P ρ ⟨dst,.convert 181 161 x,ty,pos,after,guard⟩ h=none:=by
  unfold aH; dsimp only; rw [re,wQ,hx]
 have h3:aG SS.P ρ ⟨dst,.convert 181 161 x,ty,pos,after,guard⟩=none:=by
  unfold aG; dsimp only; rw [re,wQ,hx]
 rw [h1]; dsimp only
 rw [h2]; dsimp only
 rw [h3]; dsimp only
 unfold bA; dsimp only
 rw [re,wQ,hx]
 show (match h.get k with | some (.cells cs t' 0 _)=>if 163=t'/\aq SS.P 163=some cs.length/\0 < cs.length then some (Value.pointer (some ⟨k,0,none⟩),Upd.no) else none | _=>none)=_
 rw [hk]
 show (if 163=163/\aq SS.P 163=some [a,b].length/\0 < [a,b].length then some (Value.pointer (some ⟨k,0,none⟩),Upd.no) else none)=_
 rw [if_pos ⟨rfl,OB,by simp⟩]
def Bt (k:Nat):Value:= .pointer (some ⟨k,0,none⟩)
theorem Uu (k:Nat):ag SS.P 163 (.pointer (some ⟨k,0,none⟩)) 0=some (.pointer (some ⟨k,0,none⟩)):=by kernel_rfl
theorem St (k:Nat):ag SS.P 163 (.pointer (some ⟨k,0,none⟩)) 1=some (.pointer (some ⟨k,1,none⟩)):=by kernel_rfl
theorem YI {h:Heap}{k:Nat}{a b:Value}{wr:Bool}(hk:h.get k=some (.cells [a,b] 163 0 wr)):ah SS.P 161 h (.pointer (some ⟨k,0,none⟩))=some a:=by
 unfold ah
 rw [re]; dsimp only
 rw [hk]; dsimp only
 rw [show Go.Ab.isAgg SS.P 161=false by kernel_rfl]; rfl
theorem V9 {h:Heap}{k:Nat}{a b:Value}{wr:Bool}(hk:h.get k=some (.cells [a,b] 163 0 wr)):ah SS.P 157 h (.pointer (some ⟨k,1,none⟩))=some b:=by
 unfold ah
 rw [wN]; dsimp only
 rw [hk]; dsimp only
 rw [show Go.Ab.isAgg SS.P 157=false by kernel_rfl]; rfl
theorem Zg {h:Heap}{k:Nat}{a b x:Value}(hk:h.get k=some (.cells [a,b] 163 0 true))(hx:bL x=true)(hc:x.cells = #[x]):al SS.P 161 (.pointer (some ⟨k,0,none⟩)) x h=some (undef,.set k (.cells [x,b] 163 0 true)):=by
 show (if aq SS.P 161=some x.cells.size then (storeAt h k 0 x.cells.toList).map fun u=>(undef,u) else none)=_
 rw [hc,show aq SS.P 161=some 1 by kernel_rfl,if_pos (show some 1=some #[x].size from rfl)]
 unfold storeAt
 rw [hk]; dsimp only
 rw [if_pos ⟨by simp,by simp [hx]⟩]; rfl
theorem VX {h:Heap}{k:Nat}{a b x:Value}(hk:h.get k=some (.cells [a,b] 163 0 true))(hx:bL x=true)(hc:x.cells = #[x]):al SS.P 157 (.pointer (some ⟨k,1,none⟩)) x h=some (undef,.set k (.cells [a,x] 163 0 true)):=by
 show (if aq SS.P 157=some x.cells.size then (storeAt h k 1 x.cells.toList).map fun u=>(undef,u) else none)=_
 rw [hc,show aq SS.P 157=some 1 by kernel_rfl,if_pos (show some 1=some #[x].size from rfl)]
 unfold storeAt
 rw [hk]; dsimp only
 rw [if_pos ⟨by simp,by simp [hx]⟩]; rfl
theorem F3 {h:Heap}{k:Nat}{a b:Value}(hk:h.get k=some (.cells [a,b] 163 0 true))(ha:a = .pointer none\/a=Bt k):
  FW SS 181 [Bt k] h (fun v h'=>v = .tuple ⟨[]⟩/\h'.get k=some (.cells [Bt k,b] 163 0 true)/\(∀ j,j≠k->h'.get j=h.get j)/\h'.next=h.next):=by
 refine CF ⟨k,0,none⟩ h _ ⟨_,Uu k,?_⟩
 rcases ha with rfl | rfl
 ·refine ⟨_,YI hk,true,by kernel_rfl,?_⟩
  refine ae (fun _=> ?_) (fun g=>by cases g)
  refine ⟨_,_,R8 (k:=k) (x:= .tmp 8) (by kernel_rfl) (by kernel_rfl) hk,FF (p:=gr) (v:=Bt k) (by kernel_rfl) (by kernel_rfl) (fun _=>rfl) ⟨_,rfl,_,_,L6 (k:=k) (x:= .tmp 10) (by kernel_rfl) (by kernel_rfl) hk,_,Uu k,_,Zg hk rfl rfl,rfl,?_,?_,rfl⟩⟩
  ·show (h.set k _).get k=_
   rw [Heap.get_set,if_pos rfl]; rfl
  ·intro j hj
   show (h.set k _).get j=_
   rw [Heap.get_set,if_neg hj]
 ·refine ⟨_,YI hk,false,by kernel_rfl,?_⟩
  refine ae (fun g=>by cases g) (fun _=> ?_)
  have hn:am SS.P .neq 161 (Bt k) (Bt k)=some (.bool false):=by
   show ((nD SS.P 161 (.pointer (some ⟨k,0,none⟩)) (.pointer (some ⟨k,0,none⟩))).map fun b=>Value.bool !b)=_
   unfold nD
   dsimp only
   rw [re]
   dsimp only
   rw [if_pos ⟨rfl,by rw [OB]; rfl⟩]; rfl
  refine ⟨_,Uu k,_,YI hk,false,hn,ae (fun g=>by cases g) (fun _=>⟨rfl,hk,fun _ _=>rfl,rfl⟩)⟩
def Bd (h0 h:Heap)(k:Nat)(l:List UInt8):Prop:= ∃ a v,h.get k=some (.cells [a,v] 163 0 true)/\(a = .pointer none\/a=Bt k)/\OwnF h0 h 5 v (l.map nW)/\h0.next<=k
theorem Zp:dz SS.P 5=some ((SS.P.info? 5).getD default):=by kernel_rfl
theorem YS:((SS.P.info? 5).getD default).size=1:=by kernel_rfl
theorem X4:((SS.P.info? 5).getD default).bytes=1:=by kernel_rfl
theorem Zn:ca SS.P 9=true:=by kernel_rfl
theorem VG (h:Heap)(l:List UInt8):dJ h 1 (aa l)=some (l.map nW,(l.map nW).length):=by
 show (if 1=1 then some (l.map (fun b=>Value.int .u8 b.toNat),l.length) else none)=_
 rw [if_pos rfl,lM]; rfl
theorem Lb: ∀ l:List UInt8,(l.map nW).all bL=true
 | []=>rfl
 | c::l=>by rw [List.map_cons,List.all_cons,Lb l]; rfl
theorem EU {h0 h g:Heap}{e:TypeId}{v:Value}{vs:List Value}(o:OwnF h0 h e v vs)(hg: ∀ j B,h.get j=some B->(∃ cs wr,B = .cells cs e 1 wr)->g.get j=some B):OwnF h0 g e v vs:=by
 rcases o with o | ⟨k,h1,h2,h3⟩
 ·exact .inl o
 ·exact .inr ⟨k,h1,h2,hg _ _ h3 ⟨_,_,rfl⟩⟩
theorem wp {h0 h:Heap}{k:Nat}{l m:List UInt8}(w0:Wf h0)(ok:Ok h0 h)(b:Bd h0 h k l)(hl:l.length+m.length<=1000000):
  FW SS 171 [Bt k,aa m] h (fun v h'=>v = .tuple ⟨[.int .i64 (m.length:Int),.nilIface]⟩/\Ok h0 h'/\Bd h0 h' k (l++m)):=by
 obtain ⟨a,v,hk,ha,o,hn⟩:=b
 refine Nc ⟨k,0,none⟩ m h _ ((F3 hk ha).mono ?_)
 rintro _ g ⟨rfl,hg,hj,hx⟩
 have okg:Ok h0 g:=by
  refine ⟨fun j B h1=> ?_,fun j B h1=> ?_,by rw [hx]; exact ok.nx⟩
  ·rw [hx]
   by_cases e:j=k
   ·rw [e]; exact ok.wf _ _ hk
   ·rw [hj j e] at h1; exact ok.wf _ _ h1
  ·have:=w0 _ _ h1
   rw [hj j (by omega)]; exact ok.ext _ _ h1
 have og:OwnF h0 g 5 v (l.map nW):=EU o fun j B h1 h2=>by
  obtain ⟨cs,wr,rfl⟩:=h2
  by_cases e:j=k
  ·subst e; rw [hk] at h1; injection h1 with h1; injection h1; omega
  ·rw [hj j e]; exact h1
 have hv: ∃ a n c,v = .slice a n c:=by
  rcases og with ⟨rfl,_⟩ | ⟨_,rfl,_⟩ <;> exact ⟨_,_,_,rfl⟩
 obtain ⟨a4,n5,c6,rfl⟩:=hv
 obtain ⟨b7,n8,c9,u10,e1,o2,ok2,keep⟩:=og.addL wN Zp YS Zn w0 okg (VG g m) (Lb m) (by rw [X4,lM,lM]; omega) (by rw [lM,lM]; omega)
 have hk2:(u10.app g).get k=some (.cells [Bt k,.slice a4 n5 c6] 163 0 true):=keep k _ hg (by
  intro o n c e
  rcases og with ⟨e2,_⟩ | ⟨k2,e2,_,e3⟩
  ·rw [e2] at e; cases e
  ·rw [e2] at e
   injection e with e
   injection e with e
   injection e with e
   subst e
   rw [hg] at e3; injection e3 with e3; injection e3; omega)
 refine ⟨rfl,_,St k,_,_,_,V9 hg,b7,n8,c9,u10,e1,_,St k,_,VX hk2 ?_ ?_,rfl,?_,?_⟩
 ·rcases o2 with ⟨e2,_⟩ | ⟨k2,e2,_,e3⟩ <;> rw [e2] <;> rfl
 ·rfl
 ·exact ok2.set _ hn (ok2.wf _ _ hk2) w0
 ·refine ⟨Bt k,.slice b7 n8 c9,?_,.inr rfl,?_,hn⟩
  ·show ((u10.app g).set k _).get k=_
   rw [Heap.get_set,if_pos rfl]
  ·rw [List.map_append]
   refine EU o2 fun j B h1 h2=> ?_
   obtain ⟨cs,wr,rfl⟩:=h2
   show ((u10.app g).set k _).get j=_
   rw [Heap.get_set,if_neg]
   ·exact h1
   intro e
   subst e
   rw [hk2] at h1; injection h1 with h1; injection h1; omega
theorem WD {ρ:Operand->Value}{o:Oper}{x:Operand}{ts:Array TypeId}(ho:o.op = .call ⟨.builtin .unsafeSliceData,#[x],ts⟩){h:Heap}{a:Addr}{n c:Nat}(hx:ρ x = .slice (some a) n c)(hc:0 < aN c):aK SS.P dj ρ o h=some (.pointer (some a),.no):=by
 obtain ⟨dst,op,ty,pos,after,guard⟩:=o
 subst ho
 show (match [x].map ρ with
  | [.slice none _ _]=>some (Value.pointer none,Upd.no)
  | [.slice (some a) _ c]=>if 0 < aN c then some (Value.pointer (some a),Upd.no) else none
  | _=>none)=_
 rw [List.map_cons,List.map_nil,hx]
 show (if 0 < aN c then some (Value.pointer (some a),Upd.no) else none)=_
 rw [if_pos hc]
theorem W9:SS.P.underlying 175=some (.pointer 5):=by kernel_rfl
theorem Sd {ρ:Operand->Value}{o:Oper}{x y:Operand}{t2:TypeId}(ho:o.op = .call ⟨.builtin .unsafeString,#[x,y],#[175,t2]⟩){h:Heap}{k:Nat}{l:List UInt8}(hx:ρ x = .pointer (some ⟨k,0,none⟩))(hy:ρ y = .int .i64 (l.length:Int))(hk:h.get k=some (.cells (l.map nW) 5 1 true))(h0:l≠[])(h1:l.length < 9223372036854775807):aK SS.P dj ρ o h=some (aa l,.set k (.cells (l.map nW) 5 1 false)):=by
 obtain ⟨dst,op,ty,pos,after,guard⟩:=o
 subst ho
 show (match [x,y].map ρ,(#[175,t2]:Array TypeId)[0]? with
  | [.pointer none,.int _ 0],some _=>some (aa [],Upd.no)
  | [.pointer (some ⟨k,i,none⟩),.int _ n],some pt=>(match h.get k,SS.P.underlying pt with
   | some (.cells cs e 1 true),some (.pointer e')=>
    if e=e'/\aq SS.P e=some 1/\0 < n/\n < 9223372036854775807/\((cs.drop i).take n.toNat).length=n.toNat then
     (match bytesOf ((cs.drop i).take n.toNat) with
     | some l=>some (aa l,Upd.set k (.cells cs e 1 false))
     | none=>none)
    else none
   | _,_=>none)
  | _,_=>none)=_
 rw [List.map_cons,List.map_cons,List.map_nil,hx,hy]
 show (match h.get k,SS.P.underlying 175 with
   | some (.cells cs e 1 true),some (.pointer e')=>
    if e=e'/\aq SS.P e=some 1/\0 < (l.length:Int)/\(l.length:Int) < 9223372036854775807/\((cs.drop 0).take (l.length:Int).toNat).length=(l.length:Int).toNat then
     (match bytesOf ((cs.drop 0).take (l.length:Int).toNat) with
     | some l=>some (aa l,Upd.set k (.cells cs e 1 false))
     | none=>none)
    else none
   | _,_=>none)=_
 rw [hk,W9]
 have hp:=List.length_pos_iff.2 h0
 show (if 5=5/\aq SS.P 5=some 1/\0 < (l.length:Int)/\(l.length:Int) < 9223372036854775807/\(((l.map nW).drop 0).take (l.length:Int).toNat).length=(l.length:Int).toNat then
     (match bytesOf (((l.map nW).drop 0).take (l.length:Int).toNat) with
     | some l'=>some (aa l',Upd.set k (.cells (l.map nW) 5 1 false))
     | none=>none)
    else none)=_
 rw [Int.toNat_natCast,List.drop_zero,List.take_of_length_le (by simp),if_pos ⟨rfl,V3,by omega,by omega,by simp⟩,kC]
theorem JZ {h0 h:Heap}{k:Nat}{l:List UInt8}(w0:Wf h0)(ok:Ok h0 h)(b:Bd h0 h k l)(hne:l≠[])(hl:l.length<=1000000):
  FW SS 173 [Bt k] h (fun v h'=>v=aa l/\Ok h0 h'):=by
 obtain ⟨a,v,hk,ha,o,hn⟩:=b
 rcases o with ⟨_,h1⟩ | ⟨k2,rfl,h2,h3⟩
 ·exact absurd (List.map_eq_nil_iff.1 h1) hne
 have hk':(room h 12).get k=_:=hk
 have hp:=List.length_pos_iff.2 hne
 have hc:aN (bm+(l.map nW).length)=l.length:=by unfold aN; rw [if_pos (by omega),lM]; omega
 rw [lM] at *
 refine JG ⟨k,0,none⟩ h _ ⟨_,St k,_,_,_,V9 hk',_,_,WD (x:= .tmp 6) (ts:= #[157]) (a:=⟨k2,0,none⟩) (n:=l.length) (c:=bm+l.length) (by kernel_rfl) (by kernel_rfl) (by rw [hc]; exact hp),_,St k,_,_,_,V9 hk',_,_,Sd (x:= .tmp 7) (y:= .tmp 12) (k:=k2) (l:=l) (t2:=3) (by kernel_rfl) (by kernel_rfl) (by kernel_rfl) h3 hne (by omega),⟨V9 hk',by simp [cM]⟩,⟨rfl,by simp [cM]⟩,rfl,?_⟩
 exact (ok.room 12).set _ h2 ((ok.room 12).wf _ _ h3) w0
theorem YD (m:Nat)(h:Heap):aM SS.P SS.gl SS.pr (m+8) 172 [aa [48],.int .i64 0] h=some (aa [],h):=by kernel_rfl
theorem YJ (m:Nat)(h:Heap):aM SS.P SS.gl SS.pr (m+8) 172 [aa [48],.int .i64 1] h=some (aa [48],h):=by kernel_rfl
theorem X1 (m:Nat)(h:Heap):aM SS.P SS.gl SS.pr (m+8) 172 [aa [48],.int .i64 2] h=some (aa [48,48],h):=by kernel_rfl
theorem X7 (m:Nat)(h:Heap):aM SS.P SS.gl SS.pr (m+8) 172 [aa [48],.int .i64 3] h=some (aa [48,48,48],h):=by kernel_rfl
theorem X0 (m:Nat)(h:Heap):aM SS.P SS.gl SS.pr (m+8) 172 [aa [48],.int .i64 4] h=some (aa [48,48,48,48],h):=by kernel_rfl
theorem YE (m:Nat)(h:Heap):aM SS.P SS.gl SS.pr (m+8) 172 [aa [48],.int .i64 5] h=some (aa [48,48,48,48,48],h):=by kernel_rfl
theorem Ya (m:Nat)(h:Heap):aM SS.P SS.gl SS.pr (m+8) 172 [aa [48],.int .i64 6] h=some (aa [48,48,48,48,48,48],h):=by kernel_rfl
theorem Yj (m:Nat)(h:Heap):aM SS.P SS.gl SS.pr (m+8) 172 [aa [48],.int .i64 7] h=some (aa [48,48,48,48,48,48,48],h):=by kernel_rfl
theorem YC (m:Nat)(h:Heap):aM SS.P SS.gl SS.pr (m+8) 172 [aa [48],.int .i64 8] h=some (aa [48,48,48,48,48,48,48,48],h):=by kernel_rfl
theorem L9 {n:Nat}(hn:n<=8)(h:Heap):FW SS 172 [aa [48],.int .i64 (n:Int)] h (fun v h'=>v=aa (List.replicate n 48)/\h'=h):=by
 have key: ∀ (z:Int)(l:List UInt8),(∀ m,aM SS.P SS.gl SS.pr (m+8) 172 [aa [48],.int .i64 z] h=some (aa l,h))->FW SS 172 [aa [48],.int .i64 z] h (fun v h'=>v=aa l/\h'=h):=fun z l hr=>
  ⟨_,_,⟨8,fun N hN=>by obtain ⟨m,rfl⟩: ∃ m,N=m+8:=⟨N - 8,by omega⟩; exact hr m⟩,rfl,rfl⟩
 have:n=0\/n=1\/n=2\/n=3\/n=4\/n=5\/n=6\/n=7\/n=8:=by omega
 rcases this with rfl | rfl | rfl | rfl | rfl | rfl | rfl | rfl | rfl
 ·exact key 0 _ fun m=>YD m h
 ·exact key 1 _ fun m=>YJ m h
 ·exact key 2 _ fun m=>X1 m h
 ·exact key 3 _ fun m=>X7 m h
 ·exact key 4 _ fun m=>X0 m h
 ·exact key 5 _ fun m=>YE m h
 ·exact key 6 _ fun m=>Ya m h
 ·exact key 7 _ fun m=>Yj m h
 ·exact key 8 _ fun m=>YC m h
noncomputable def fT:Code:=(Tryz.f161.body).getD .skip
noncomputable def DU (Q:VH):aj:=cE SS Tryz.f161.results.toList Q
def vM:List Nat:=[0,3,10,11]
noncomputable def CU (p:List Nat)(w:LV)(h:Heap)(Q:aj):Prop:=bp SS Tryz.f161.ntmps vM (aP p fT) w h Q
noncomputable def DM (p b:List Nat)(K:aj):aj:=ky SS Tryz.f161.ntmps vM p (aP b fT) K
abbrev MU (a:OA)(n c:Nat)(h:Heap)(Q:VH):Prop:=aw ((((n:Int):Int) == 0)) (Q (aa [48]) h) (xN (bi SS.P 163) h fun B1 g2=>CU [1,1,1,0,1,0,0] [(.slice a n c),(pA (h.next)),(iA n),(.int .i64 0)] g2 (DM [1,1,1,0,1,0] [] (DU Q)))
theorem I2 (a:OA)(n c:Nat)(h:Heap)(Q:VH)(hx:MU a n c h Q):FW SS 161 [(.slice a n c)] h Q:=ax (M:=vM) (c:=fT) Tryz.func161 (show Tryz.f161.body=some fT by kernel_rfl) (by kernel_rfl) (ai hx (by kernel_rfl))
abbrev iy (a:OA)(n c:Nat)(p:Addr)(aR:Int)(i:Nat)  : LV:=[(.slice a n c),(.pointer (some p)),(.int .i64 aR),(iA i)]
def eK (a:OA)(n c:Nat)(p:Addr)(aR:Int)(Inv:Nat->Nat->Heap->Prop)(mz:Nat)(w:LV)(h:Heap):Prop:= ∃ (i:Nat) ,w=(iy a n c p aR i )/\Inv mz i h
abbrev ym (a:OA)(n c:Nat)(p:Addr)(aR:Int)(Inv:Nat->Nat->Heap->Prop)(Q:VH)(mz:Nat)(i:Nat)  (zz:Nat->Value) (h:Heap):Prop:=aw (decide (((i:Int):Int) < aR)) (xP (af SS.P 136 (.slice a n c) (.int .i64 (IntKind.wrap .i64 (IntKind.wrap .i64 ((n:Int) - 1) - (i:Int))))) fun p3=>xI .u64 (ah SS.P 103 h (.pointer (some p3))) fun n4=>FW SS 170 [(.int .u64 n4),(.int .i64 10)] h fun v5 h6=>yS v5 fun l7=>aw (decide (((i:Int):Int) > 0)) (FW SS 172 [(aa [48]),(.int .i64 (IntKind.wrap .i64 (9 - ((l7:LB).length:Int))))] h6 fun v8 h9=>yS v8 fun l10=>FW SS 171 [(.pointer (some p)),(aa l10)] h9 fun v11 h12=> ∃ n13:Int,∃ v14:Value,v11=(.tuple ⟨[(.int .i64 n13),v14]⟩)/\FW SS 171 [(.pointer (some p)),(aa l7)] h12 fun v15 h16=> ∃ n17:Int,∃ v18:Value,v15=(.tuple ⟨[(.int .i64 n17),v18]⟩)/\ak (eK a n c p aR Inv) mz [(.slice a n c),(.pointer (some p)),(.int .i64 aR),(.int .i64 (IntKind.wrap .i64 ((i:Int)+1)))] h16) (FW SS 171 [(.pointer (some p)),(aa l7)] h6 fun v19 h20=> ∃ n21:Int,∃ v22:Value,v19=(.tuple ⟨[(.int .i64 n21),v22]⟩)/\ak (eK a n c p aR Inv) mz [(.slice a n c),(.pointer (some p)),(.int .i64 aR),(.int .i64 (IntKind.wrap .i64 ((i:Int)+1)))] h20)) (FW SS 173 [(.pointer (some p))] h fun v23 h24=>yS v23 fun l25=>Q (aa l25) h24)
theorem jo {a:OA}{n c:Nat}{p:Addr}{aR:Int}{Inv:Nat->Nat->Heap->Prop}{mz:Nat}(mq:Nat){i:Nat}  {h:Heap} (hm:mq < mz) (hi:Inv mq i h):ak (eK a n c p aR Inv) mz (iy a n c p aR i ) h:=⟨mq,hm,i,rfl,hi⟩
theorem r7 (a:OA)(n c:Nat)(p:Addr)(aR:Int)(Inv:Nat->Nat->Heap->Prop)(Q:VH)(step: ∀ (mz:Nat) (i:Nat)  (zz:Nat->Value) (h:Heap),Inv mz i h->ym a n c p aR Inv Q mz i  zz h)(mz:Nat){i:Nat}  {h:Heap} (hi:Inv mz i h):CU [1,1,1,0,1,0,0] (iy a n c p aR i ) h (DM [1,1,1,0,1,0] [] (DU Q)):=
 an (A:=(eK a n c p aR Inv)) (show aF Tryz.f161.ntmps (aP [1,1,1,0,1,0,0] fT)=true by kernel_rfl) (fun mz w zz h ⟨i,hw,hi⟩=>by subst hw; exact ai (step mz i  zz h hi) (by kernel_rfl)) mz _ h ⟨i,rfl,hi⟩ (fun zz=>by kernel_rfl) (by kernel_rfl)
noncomputable def hP:Code:=(Tryz.f143.body).getD .skip
noncomputable def Gd (Q:VH):aj:=cE SS Tryz.f143.results.toList Q
def zu:List Nat:=[6,7]
noncomputable def Gb (p:List Nat)(w:LV)(h:Heap)(Q:aj):Prop:=bp SS Tryz.f143.ntmps zu (aP p hP) w h Q
noncomputable def GN (p b:List Nat)(K:aj):aj:=ky SS Tryz.f143.ntmps zu p (aP b hP) K
abbrev OZ (l m:LB)(h:Heap)(Q:VH):Prop:=FW SS 139 [(aa l)] h fun v1 h2=>yB v1 fun b3=>aw (!b3) (Q (.tuple ⟨[(aa []),(.int .i64 1)]⟩) h2) (FW SS 139 [(aa m)] h2 fun v4 h5=>yB v4 fun b6=>aw (!b6) (Q (.tuple ⟨[(aa []),(.int .i64 1)]⟩) h5) (FW SS 140 [(aa l)] h5 fun v7 h8=>yL v7 fun a9 n10 c11=>FW SS 140 [(aa m)] h8 fun v12 h13=>yL v12 fun a14 n15 c16=>Gb [1,1,1,0,0,0] [(.slice a9 n10 c11),(.slice a14 n15 c16)] h13 (GN [1,1,1,0,0] [] (Gd Q))))
theorem M1 (l m:LB)(h:Heap)(Q:VH)(hx:OZ l m h Q):FW SS 143 [(aa l),(aa m)] h Q:=ax (M:=zu) (c:=hP) Tryz.func143 (show Tryz.f143.body=some hP by kernel_rfl) (by kernel_rfl) (ai hx (by kernel_rfl))
abbrev ju (l m:LB)  (a:OA) (n:Nat) (c:Nat) (b:OA) (k:Nat) (d:Nat)  : LV:=[(.slice a n c),(.slice b k d)]
def jK (l m:LB)  (Inv:Nat->OA->Nat->Nat->OA->Nat->Nat->Heap->Prop) (mz:Nat) (w:LV) (h:Heap):Prop:= ∃ (a:OA)(n:Nat)(c:Nat)(b:OA)(k:Nat)(d:Nat) ,w=(ju l m a n c b k d )/\Inv mz a n c b k d h
abbrev BK (l m:LB)  (Inv:Nat->OA->Nat->Nat->OA->Nat->Nat->Heap->Prop) (Q:VH) (mz:Nat) (a:OA) (n:Nat) (c:Nat) (b:OA) (k:Nat) (d:Nat)  (zz:Nat->Value) (h:Heap):Prop:=aw (decide (((k:Int):Int) > 0)) (FW SS 163 [(.slice a n c),(.slice b k d)] h fun v17 h18=> ∃ (a19:OA)(n20 c21:Nat),∃ (a22:OA)(n23 c24:Nat),v17=(.tuple ⟨[(.slice a19 n20 c21),(.slice a22 n23 c24)]⟩)/\ak (jK l m Inv) mz [(.slice b k d),(.slice a22 n23 c24)] h18) (FW SS 161 [(.slice a n c)] h fun v25 h26=>yS v25 fun l27=>Q (.tuple ⟨[(aa l27),(.int .i64 0)]⟩) h26)
theorem uu {l m:LB}  {Inv:Nat->OA->Nat->Nat->OA->Nat->Nat->Heap->Prop} {mz:Nat} (mq:Nat) {a:OA} {n:Nat} {c:Nat} {b:OA} {k:Nat} {d:Nat}  {h:Heap} (hm:mq < mz) (hi:Inv mq a n c b k d h):ak (jK l m Inv) mz (ju l m a n c b k d ) h:=⟨mq,hm,a,n,c,b,k,d,rfl,hi⟩
theorem tI (l m:LB)  (Inv:Nat->OA->Nat->Nat->OA->Nat->Nat->Heap->Prop) (Q:VH) (step: ∀ (mz:Nat)(a:OA)(n:Nat)(c:Nat)(b:OA)(k:Nat)(d:Nat)  (zz:Nat->Value) (h:Heap),Inv mz a n c b k d h->BK l m Inv Q mz a n c b k d  zz h) (mz:Nat) {a:OA} {n:Nat} {c:Nat} {b:OA} {k:Nat} {d:Nat}  {h:Heap} (hi:Inv mz a n c b k d h):Gb [1,1,1,0,0,0] (ju l m a n c b k d ) h (GN [1,1,1,0,0] [] (Gd Q)):=
 an (A:=(jK l m Inv)) (show aF Tryz.f143.ntmps (aP [1,1,1,0,0,0] hP)=true by kernel_rfl) (fun mz w zz h ⟨a,n,c,b,k,d,hw,hi⟩=>by subst hw; exact ai (step mz a n c b k d  zz h hi) (by kernel_rfl)) mz _ h ⟨a,n,c,b,k,d,rfl,hi⟩ (fun zz=>by kernel_rfl) (by kernel_rfl)
end Go.Proofs.YtoabjjimjldcfaaGreatDoor
end
section
set_option linter.unusedVariables false
namespace Go.Num
theorem Di {Y:Nat}(hY:0 < Y): ∀ {n b:Nat},b < 10 ^ n->toDec (Y*10 ^ n+b)=toDec Y++wid n b
 | 0,b,h=>by
  obtain rfl:b=0:=by simpa using h
  simp [wid]
 | n+1,b,h=>by
  have h1:b / 10 < 10 ^ n:=by rw [Nat.div_lt_iff_lt_mul (by omega),<-Nat.pow_succ]; exact h
  have h2:=Di hY h1
  have hp:0 < 10 ^ n:=Nat.pow_pos (by omega)
  have h3:0 < Y*10 ^ n+b / 10:=Nat.add_pos_left (Nat.mul_pos hY hp) _
  have e:Y*10 ^ (n+1)+b=10*(Y*10 ^ n+b / 10)+b % 10:=by
   rw [Nat.pow_succ,Nat.mul_add,<-Nat.mul_assoc,Nat.mul_comm (Y*10 ^ n) 10]
   omega
  rw [e,r8 h3 (Nat.mod_lt _ (by omega)),h2,wid,List.append_assoc]
theorem toDec_block {Y b:Nat}(hY:0 < Y)(hb:b < 1000000000):toDec (b+1000000000*Y)=toDec Y++List.replicate (9 - (toDec b).length) 48++toDec b:=by
 have h:=Di hY (n:=9) (b:=b) hb
 have e:b+1000000000*Y=Y*10 ^ 9+b:=by
  rw [Nat.add_comm,Nat.mul_comm]
 rw [e,h,K7 (n:=9) hb (by omega),List.append_assoc]
theorem toDec_len_9 {b:Nat}(hb:b < 1000000000):(toDec b).length<=9:=(toDec_len_le (by omega)).2 hb
end Go.Num
end
