/- Laws and walks that the proof leans on (part 4): P5; P6; W5; P7; P8; P9 and others. No condition. -/
import Derived.Test.YtnlccnpbjeiccaaGreatDoorPart3
import Derived.Test.YtnlccnpbjeiccaaGreatDoorPart2
set_option linter.unusedVariables false
set_option linter.unusedSimpArgs false
set_option maxRecDepth 100000
open List (all_eq_true append_assoc drop_of_length_le drop_zero getElem?_eq_none getElem?_map length_append length_drop length_replicate length_set length_take map_append map_take nil_append take_length take_of_length_le take_take take_zero)
open Nat (add_zero div_lt_of_lt_mul le_of_lt lt_of_lt_of_le lt_or_ge min_eq_left mod_lt mul_comm mul_le_mul mul_one mul_pos mul_zero pow_add pow_le_pow_right pow_succ zero_add zero_le)
open Int (natCast_ediv natCast_emod toNat_natCast)
open Go.IntKind (wrap wrap_i64)
section
namespace Go.Proofs.YtnlccnpbjeiccaaGreatDoor
open Go Go.Ab Go.Num
variable{g:aa}{h:aa}{v:Value}{a:Option Addr}{n:Nat}{i:Nat}{s:List UInt8}
def uv(d:Nat):Value:= .int .u64 (d:Int)
theorem zj:SS.P.underlying 260=some (.slice 240):=by kernel_rfl
theorem OK:SS.P.underlying 240=some (.int .u64):=by kernel_rfl
theorem CR:au SS.P 240=some 1:=by kernel_rfl
theorem Nw:Go.Ab.isAgg SS.P 240=false:=by kernel_rfl
noncomputable def UR:TypeInfo:=(dC SS.P 240).getD default
theorem JD:dC SS.P 240=some UR:=by kernel_rfl
theorem Cf:UR.size=1:=by kernel_rfl
theorem zd:UR.bytes=8:=by kernel_rfl
theorem qf(z:Int):az SS.P 260 1 [(0,.int .u64 z)]=some (.cells [.int .u64 z] 240 1 true,jE 1 1):=by kernel_rfl
theorem jA(d:Wf g)(e:Ok g h){v:Value}{a:List Value}(o:fi g h 240 v a)(z:Int)(f:a.length<=100000):
  ∃(b:Option Addr)(n c:Nat)(u:bp),aJ SS.P 260 260 v (.slice (some ⟨h.next,0,none⟩) 1 1) (h.push (.cells [.int .u64 z] 240 1 true))=some (.slice b n c,u)/\n=a.length+1/\fi g (u.app (h.push (.cells [.int .u64 z] 240 1 true))) 240 (.slice b n c) (a++[.int .u64 z])/\Ok g (u.app (h.push (.cells [.int .u64 z] 240 1 true))):=
 fi.snoc zj JD Cf d e o rfl (by rw[zd];omega) (by omega)
theorem T1(l:List Nat)(i:Nat)(h:i<l.length):(l.map uv).getD i undef = .int .u64 (l.getD i 0:Nat):=by
 simp[gD,getElem?_map,gE h,uv]
theorem DV{l:List Nat}(r:Rd h 240 v (l.map uv)){i:Int}(d:0<=i)(b:i<l.length):
  ∃p:Addr,ai SS.P 260 v (.int .i64 i)=some (.pointer (some p))/\ae SS.P 240 h (.pointer (some p))=some (.int .u64 (l.getD i.toNat 0:Nat)):=by
 obtain⟨p,c,a⟩:=r.at_ zj CR OK Nw (k:= .i64) d (by rw[lM];exact b);rw[T1 l _ (by omega)]at a;exact⟨p,c,a⟩
theorem pC{c:Nat}{l:List Nat}(o:fi g h 240 (.slice a n c) (l.map uv))(D:l.length<=100000):
  FW SS 210 [.slice a n c] h (λv w=>∃k f e,v = .slice k f e/\fi g h 240 (.slice k f e) ((cM l).map uv)/\w=h):=by
 have A:n=l.length:=by have:=o.len;rwa[lM]at this
 have L:=mI a n c (λb r m d J=>m<=l.length/\b=m/\fi g h 240 (.slice r m d) ((l.take m).map uv)/\cM l=cM (l.take m)/\J=h) (λv w=>∃k f e,v = .slice k f e/\fi g h 240 (.slice k f e) ((cM l).map uv)/\w=h) (by
  intro b r m d;intros;rename_i J I;obtain⟨K,rfl,u,x,rfl⟩:=I;have H:wrap .i64 ((b:Int)-1)=(b:Int)-1:=aO (by omega) (by omega);rw[H];have t:b≠0->l.take b=l.take (b-1)++[l.getD (b-1) 0]:=λt=>by
   obtain⟨j,rfl⟩:∃j,b=j+1:=⟨b-1,by omega⟩
   rw[List.take_succ_eq_append_getElem (by omega),Nat.add_sub_cancel,gD,gE (by omega)];rfl
  refine ah (λs=>?_) (λs=>?_)
  ·have s:=dT s;obtain⟨p,F,C⟩:=DV u.rd (i:=(b:Int)-1) (by omega) (by rw[length_take];omega);have E:(l.take b).getD ((b:Int)-1).toNat 0=l.getD (b-1) 0:=by
    rw[show((b:Int)-1).toNat=b-1 by omega,gD,List.getElem?_take,if_pos (by omega),gD]
   rw[E]at C;refine⟨p,F,_,C,ah (λq=>?_) (λq=>?_)⟩
   ·have q:((l.getD (b-1) 0:Nat):Int)=0:=by simpa using q
    have q:l.getD (b-1) 0=0:=by omega
    obtain⟨k,f,e,G,y⟩:=u.upto zj CR (z:=b-1) (by rw[lM,length_take];omega) (by rw[lM,length_take];omega);rw[show((b:Int)-1)=((b-1:Nat):Int) by omega];have B:f=b-1:=by have:=y.len;rw[length_take,lM,length_take]at this;omega
    subst B;refine⟨k,_,e,G,IM (b-1) (by omega) ⟨by omega,rfl,?_,?_,rfl⟩⟩
    ·rw[<-map_take,take_take,min_eq_left (by omega)]at y;exact y
    ·rw[x,t (by omega),q,gm]
   ·have q:¬((l.getD (b-1) 0:Nat):Int)=0:=by simpa using q
    refine⟨r,b,d,rfl,?_,rfl⟩;rw[x,t (by omega),ic _ (by omega),<-t (by omega)];exact u
  ·have s:=dF s;obtain rfl:b=0:=by omega
   refine⟨r,0,d,rfl,?_,rfl⟩;rw[x];exact u)
 exact BI a n c h _ (L n ⟨by omega,rfl,by rw[show l.take n=l by rw[A,take_length]];exact o,by rw[show l.take n=l by rw[A,take_length]],rfl⟩)
theorem Dy{l:List UInt8}(h:i<l.length):Num.val (l.take (i+1))=10*Num.val (l.take i)+uG (l.getD i 0):=zC (abk h)
theorem Ra(l:List UInt8){h:aa}{b:Nat}(c:b<=l.length):bE SS.P 9 (strOf l) none (some (.int .i64 (b:Int))) none h=some (strOf (l.take b)):=oK (a:=0) adY l rfl rfl (by omega) c
theorem HZ(b:n=s.length-9)(a:0<s.length):Num.val s=Num.val (s.drop n)+10^(s.length-n)*Num.val (s.take n):=by
 have:=Fe (s.take n) (s.drop n);rw[List.take_append_drop,length_drop,mul_comm]at this;omega
theorem pB(l:List UInt8)(hd:l.all cp=true)(k:l.length<=10000)(h:aa)(w:Wf h):FW SS 208 [strOf l] h (jK h 240 ((aF 1000000000 (Num.val l)).map uv)):=by
 have Y:=qQ l (λA s r o t g=>A=s.length/\s.all cp=true/\s.length<=10000/\Ok h g/\∃a:List Nat,(∀d∈a,d<1000000000)/\a.length+s.length<=10000/\fi h g 240 (.slice r o t) (a.map uv)/\Num.val l=Num.bv 1000000000 a+1000000000^a.length*Num.val s) (jK h 240 ((aF 1000000000 (Num.val l)).map uv)) (by
  intro A s r o t;intros;rename_i g X;obtain⟨rfl,p,x2,Q,a,C,x0,O,I⟩:=X;refine ah (λz=>?_) (λz=>?_)
  ·have z:=dT z;have U:wrap .i64 ((s.length:Int)-9)=(s.length:Int)-9:=aO (by omega) (by omega);rw[U];have E:(if(s.length:Int)-9>0 then(s.length:Int)-9 else 0)=((s.length-9:Nat):Int):=by split<;>omega
   refine⟨_,vN _ _ _,?_⟩;rw[E];have T:=qR l (λA s r o t g=>A=s.length/\s.all cp=true/\s.length<=10000/\Ok h g/\∃a:List Nat,(∀d∈a,d<1000000000)/\a.length+s.length<=10000/\fi h g 240 (.slice r o t) (a.map uv)/\Num.val l=Num.bv 1000000000 a+1000000000^a.length*Num.val s) s.length s r o t ((s.length-9:Nat):Int)
    (λq i v B=>∃j:Nat,i=(s.length-9:Nat)+(j:Int)/\s.length-9+j<=s.length/\q=s.length-(s.length-9+j)/\v=(Num.val ((s.drop (s.length-9)).take j):Nat)/\B=g) (jK h 240 ((aF 1000000000 (Num.val l)).map uv)) (by
    intro q i v;intros;rename_i B P;obtain⟨j,rfl,hj,x3,rfl,rfl⟩:=P;have D:(s.drop (s.length-9)).all cp=true:=by
     rw[all_eq_true]at p⊢;exact λx c=>p x (List.mem_of_mem_drop c)
    have F:=HI (l:=(s.drop (s.length-9)).take j) (by
     rw[all_eq_true]at D⊢;exact λx c=>D x (List.mem_of_mem_take c))
    have f:Num.val ((s.drop (s.length-9)).take j)<1000000000:=by
     refine lt_of_lt_of_le F (Nat.le_trans (pow_le_pow_right (by omega) (show _<=9 by rw[length_take,length_drop];omega)) (by decide))
    refine ah (λe=>?_) (λe=>?_)
    ·have e:=dT e;have H:s.length-9+j<s.length:=by omega
     have y:=R9 p H;have x4:=nu.1 y;have x1:=zT y;refine⟨_,Yk (h:=B) s (by omega) e,?_⟩;have G:(((s.length-9:Nat):Int)+(j:Int)).toNat=s.length-9+j:=by omega
     rw[G];have R:wrap .u8 ((((s.getD (s.length-9+j) 0).toNat:Nat):Int)-48)=(uG (s.getD (s.length-9+j) 0):Nat):=by
      rw[yv (by omega) (by omega)];unfold uG;omega
     have e2:(s.drop (s.length-9)).getD j 0=s.getD (s.length-9+j) 0:=by
      rw[gD,List.getElem?_drop,gD]
     have N:=Dy (l:=s.drop (s.length-9)) (i:=j) (by rw[length_drop];omega);rw[e2]at N;dsimp only;rw[R,eg (n:=((uG (s.getD (s.length-9+j) 0):Nat):Int)) (by omega) (by omega),eg (n:=10*((Num.val ((s.drop (s.length-9)).take j):Nat):Int)) (by omega) (by omega),eg (by omega) (by omega),aO (n:=((s.length-9:Nat):Int)+(j:Int)+1) (by omega) (by omega)];exact ju (q-1) (by omega) ⟨j+1,by omega,by omega,by omega,by rw[N];omega,rfl⟩
    ·have e:=dF e;have K:(s.drop (s.length-9)).take j=s.drop (s.length-9):=take_of_length_le (by rw[length_drop];omega);rw[K]at f⊢;refine⟨_,_,_,qf _,?_⟩;obtain⟨b,m,d,u,V,g7,S,g9⟩:=jA w Q O ((Num.val (s.drop (s.length-9)):Nat):Int) (by rw[lM];omega);refine⟨b,m,d,u,V,?_⟩;refine⟨_,Ra s (show s.length-9<=s.length by omega),?_⟩;refine NT (s.take (s.length-9)).length (by rw[length_take];omega) ⟨rfl,?_,by rw[length_take];omega,g9,a++[Num.val (s.drop (s.length-9))],?_,?_,?_,?_⟩
     ·rw[all_eq_true]at p⊢;exact λx c=>p x (List.mem_of_mem_take c)
     ·intro x c;rcases List.mem_append.1 c with c|c
      ·exact C x c
      ·rw[List.mem_singleton.1 c];exact f
     ·rw[length_append,length_take];simp;omega
     ·rw[map_append];exact S
     ·rw[oj,length_append,I,HZ (s:=s) rfl (by omega),List.length_singleton];rcases lt_or_ge s.length 10 with W|W
      ·rw[show s.length-9=0 by omega,take_zero,jJ];simp
      ·rw[show s.length-(s.length-9)=9 by omega,show(10:Nat)^9=1000000000 from rfl,pow_succ,Nat.mul_add,Nat.mul_assoc];omega)
   exact T _ ⟨0,by omega,by omega,rfl,by simp[jJ],rfl⟩
  ·have z:=dF z;obtain rfl:s=[]:=List.eq_nil_of_length_eq_zero (by omega);refine(pC O (by omega)).mono ?_;rintro _ B ⟨M,L,J,rfl,Z,rfl⟩;refine⟨M,L,J,rfl,M,L,J,rfl,?_,Q⟩;rw[I,jJ,mul_zero,add_zero,<-iS (by omega) C];exact Z)
 exact Gi l h _ (Y l.length ⟨rfl,hd,k,Ok.refl w,[],by simp,by simpa using k,.inl ⟨rfl,rfl⟩,by simp[Num.bv]⟩)
variable{m:Nat}{k:Nat}{j:Nat}{P:Program}{w:Value}{x:List Nat}
theorem N9(x:Int)(h:aa):FW SS 289 [.int .u64 x] h (λv a=>v = .bool false/\a=h):=YN x h _ ⟨by simp,rfl⟩
theorem N8(x:Int)(h:aa):FW SS 175 [.int .i64 x] h (λv a=>v = .bool false/\a=h):=YM x h _ ⟨by simp,rfl⟩
theorem XA(m n:Nat)(h:aa):FW SS 268 [.int .u64 (m:Int),.int .u64 (n:Int)] h (λv c=>v = .int .i64 (eG m n)/\c=h):=by
 refine Xz _ _ h _ ((N9 _ h).mono ?_);rintro _ _ ⟨rfl,rfl⟩;refine⟨_,rfl,(N9 _ _).mono ?_⟩;rintro _ _ ⟨rfl,rfl⟩;refine⟨_,rfl,ah (λe=>by cases e) (λ_=>ah (λe=>by cases e) (λ_=>ah (λa=>?_) (λa=>ah (λb=>?_) (λb=>?_))))⟩
 ·exact⟨by rw[ma (by have:=dT a;omega)],rfl⟩
 ·exact⟨by rw[l9 (by have:=dT b;omega)],rfl⟩
 ·have a:=dF a;have b:=dF b;exact⟨by rw[show m=n by omega,rI],rfl⟩
theorem Xw(m n:Nat)(h:aa):FW SS 139 [.int .i64 (m:Int),.int .i64 (n:Int)] h (λv c=>v = .int .i64 (eG m n)/\c=h):=by
 refine Xv _ _ h _ ((N8 _ h).mono ?_);rintro _ _ ⟨rfl,rfl⟩;refine⟨_,rfl,(N8 _ _).mono ?_⟩;rintro _ _ ⟨rfl,rfl⟩;refine⟨_,rfl,ah (λe=>by cases e) (λ_=>ah (λe=>by cases e) (λ_=>ah (λa=>?_) (λa=>ah (λb=>?_) (λb=>?_))))⟩
 ·exact⟨by rw[ma (by have:=dT a;omega)],rfl⟩
 ·exact⟨by rw[l9 (by have:=dT b;omega)],rfl⟩
 ·have a:=dF a;have b:=dF b;exact⟨by rw[show m=n by omega,rI],rfl⟩
abbrev BB:Nat:=1000000000
abbrev bl(n:Nat):List Value:=(aF BB n).map uv
theorem eY:1<BB:=by decide
theorem nY{b:Option Addr}{c:Nat}{x:Nat}(E:Rd h 240 (.slice a n c) (bl x))(D:Rd h 240 (.slice b m k) (bl j))(I:(aF BB x).length<=10000)(w:Wf h):
  FW SS 241 [.slice a n c,.slice b m k] h (λv u=>v = .int .i64 (eG x j)/\Ok h u):=by
 have O:n=(aF BB x).length:=by have:=E.len;rwa[lM]at this
 have P:m=(aF BB j).length:=by have:=D.len;rwa[lM]at this
 have L:=λ(C:(aF BB x).length=(aF BB j).length)=>qs a n c b m k (λs i g=>i<=n/\s=n-i/\(aF BB x).drop (n-i)=(aF BB j).drop (n-i)/\Ok h g) (λv u=>v = .int .i64 (eG x j)/\Ok h u) (by
  intro s i;intros;rename_i g M;obtain⟨f,o,t,G⟩:=M;have B:wrap .i64 ((n:Int)-1)=(n:Int)-1:=aO (by omega) (by omega);have z:wrap .i64 ((n:Int)-1-(i:Int))=(n:Int)-1-(i:Int):=aO (by omega) (by omega);have A:wrap .i64 ((i:Int)+1)=((i+1:Nat):Int):=by rw[aO (by omega) (by omega)];omega
  rw[B,z,A];have l:=G.room 18;refine ah (λr=>?_) (λr=>?_)
  ·have r:=dT r;have N:((n:Int)-1-(i:Int)).toNat=n-1-i:=by omega
   obtain⟨p,J,H⟩:=DV (E.ok l) (i:=(n:Int)-1-(i:Int)) (by omega) (by omega);obtain⟨q,K,F⟩:=DV (D.ok l) (i:=(n:Int)-1-(i:Int)) (by omega) (by omega);rw[N]at H F;refine⟨p,J,_,H,q,K,_,F,(XA _ _ _).mono ?_⟩;rintro _ _ ⟨rfl,rfl⟩;have y:(aF BB x).drop (n-1-i+1)=(aF BB j).drop (n-1-i+1):=by rw[show n-1-i+1=n-i by omega];exact t
   refine⟨_,rfl,ah (λd=>?_) (λd=>?_)⟩
   ·refine⟨?_,l⟩;have d:eG ((aF BB x).getD (n-1-i) 0) ((aF BB j).getD (n-1-i) 0)≠0:=by simpa using d
    rcases Nat.lt_trichotomy ((aF BB x).getD (n-1-i) 0) ((aF BB j).getD (n-1-i) 0)with e|e|e
    ·have:=qy eY (cr eY x) C (by omega) y e;rw[bK eY,bK eY]at this;rw[ma e,ma this]
    ·rw[e,rI]at d;exact absurd rfl d
    ·have:=qy eY (cr eY j) C.symm (by omega) y.symm e;rw[bK eY,bK eY]at this;rw[l9 e,l9 this]
   ·have d:eG ((aF BB x).getD (n-1-i) 0) ((aF BB j).getD (n-1-i) 0)=0:=by simpa using d
    have e:(aF BB x).getD (n-1-i) 0=(aF BB j).getD (n-1-i) 0:=by
     unfold eG at d;split at d
     ·cases d
     ·split at d
      ·assumption
      ·cases d
    refine cG (s-1) (by omega) ⟨by omega,by omega,?_,l⟩;rw[show n-(i+1)=n-1-i by omega,List.drop_eq_getElem_cons (show n-1-i<(aF BB x).length by omega),List.drop_eq_getElem_cons (show n-1-i<(aF BB j).length by omega),y];congr 1;rw[gD,gE (by omega),gD,gE (by omega)]at e;exact e
  ·have r:=dF r;rw[show n-i=0 by omega,drop_zero,drop_zero]at t;have:x=j:=by rw[<-bK eY x,t,bK eY]
   exact⟨by rw[this,rI],G⟩)
 refine Dl a n c b m k h _ (ah (λf=>(Xw _ _ h).mono ?_) (λf=>?_))
 ·rintro _ _ ⟨rfl,rfl⟩;have f:=abx f;refine⟨_,rfl,?_,Ok.refl w⟩;rcases Nat.lt_trichotomy n m with o|o|o
  ·rw[ma o,ma (jo eY (by omega))]
  ·exact absurd o f
  ·rw[l9 o,l9 (jo eY (by omega))]
 ·have f:=abf f;refine L (by omega) n (i:=0) ⟨by omega,by omega,?_,Ok.refl w⟩;rw[Nat.sub_zero,drop_of_length_le (by omega),drop_of_length_le (by omega)]
theorem TL{t:TypeId}(o:Ok h g)(a:ae P t h v=some w):ae P t g v=some w:=by
 unfold ae at a⊢;split at a
 ·next c=>
  split at a
  ·next cs _ _ _ b=>rw[o.ext _ _ b];exact a
  ·cases a
 ·cases a
theorem Mz(i:ae SS.P 240 h (.pointer a)=some (.int .u64 (k:Int)))(x y z:Nat)(d:x<BB)(f:k<=BB)(m:z<BB):
  FW SS 283 [.int .u64 (x:Int),.int .u64 (y:Int),.int .u64 (z:Int),.pointer a] h (λv e=>v = .tuple ⟨[uv (b9 BB k x y z).1,uv (b9 BB k x y z).2]⟩/\e=h):=by
 have j:BB=1000000000:=rfl;have l:x*k<=1000000000000000000:=Nat.le_trans (mul_le_mul (le_of_lt d) f) (by decide);have c:wrap .u64 ((x:Int)*(k:Int))=((x*k:Nat):Int):=by rw[<-Int.natCast_mul];exact eg (by omega) (by omega)
 have g:wrap .u64 (((x*k:Nat):Int)+(z:Int))=((x*k+z:Nat):Int):=by rw[<-Int.natCast_add];exact eg (by omega) (by omega)
 refine My _ _ _ a h _ ⟨_,i,?_⟩;dsimp only;rw[c,g];refine⟨_,fR (b:=BB) (by omega) (by decide),_,nK (b:=BB) (by omega) (by omega) (by decide),?_,rfl⟩;unfold uv b9;rw[natCast_emod,natCast_ediv]
theorem Db{c:Nat}{p:Option Addr}(S:Rd h 240 (.slice a n c) (x.map uv))(C:∀d∈x,d<BB)(x0:x.length<=10000)(Z:ae SS.P 240 h (.pointer p)=some (.int .u64 (k:Int)))(A:0<k)(E:k<=BB)(w:Wf h):
  FW SS 266 [.slice a n c,.slice none 0 0,.func (.func 283) ⟨[]⟩ ⟨[.pointer p]⟩] h (jK h 240 (bl (Num.bv BB x*k))):=by
 have hn:n=x.length:=by have:=S.len;rwa[lM]at this
 have Y:BB=1000000000:=rfl;have hF:∀p q c,c<=BB-1->p<BB->(b9 BB k p q c).2<=BB-1:=λp q c hc Z=>by
  unfold b9;dsimp only;have h1:p*k<=999999999*1000000000:=mul_le_mul (by omega) E;have:(p*k+c)/BB<BB:=div_lt_of_lt_mul (by rw[Y];omega);omega
 have T:∀j,eH (b9 BB k) x [] 0 0 j<=BB-1:=by
  intro j
  induction j with
  |zero=>exact zero_le _
  |succ j ih=>exact hF _ _ _ ih (bo (by decide) C _)
 have fin:cM (bq (b9 BB k) x [] 0 (n+1) 0)=aF BB (Num.bv BB x*k):=by
  rw[iS eY (jH (λp q c=>mod_lt _ (by decide)) x [] (n+1) 0 0),KE eY E A C (n+1) 0 0 (by omega) A (by omega)];rw[drop_zero,add_zero]
 have L:=qp a n c p ((n:Int)+1) (λz i cy r N P g=>i<=n+1/\z=n+1-i/\cy=(eH (b9 BB k) x [] 0 0 i:Nat)/\fi h g 240 (.slice r N P) ((bq (b9 BB k) x [] 0 i 0).map uv)/\Ok h g) (jK h 240 (bl (Num.bv BB x*k))) (by
  intro z i cy r N P;intros;rename_i g hi;obtain⟨h1,h2,rfl,F,v⟩:=hi;have K:wrap .i64 ((i:Int)+1)=((i+1:Nat):Int):=by rw[aO (by omega) (by omega)];omega
  rw[K];have l:(bq (b9 BB k) x [] 0 i 0).length=i:=gO _ _ _ _ _ _;have f:=jk (b9 BB k) x [] i 0 0;rw[zero_add]at f;have o:eH (b9 BB k) x [] 0 0 (i+1)=(b9 BB k (x.getD i 0) (([]:List Nat).getD i 0) (eH (b9 BB k) x [] 0 0 i)).2:=by
   show(b9 BB k (x.getD (0+i) 0) (([]:List Nat).getD (0+i) 0) _).2=_;rw[zero_add]
  have x1:=T i;have W:=bo (b:=BB) (by decide) C i;have O:=TL v Z;have U:=Mz O (x.getD i 0) (([]:List Nat).getD i 0) (eH (b9 BB k) x [] 0 0 i) W E (by omega);have M:([]:List Nat).getD i 0=0:=by simp
  refine ah (λy=>?_) (λy=>?_)
  ·have y:=dT y;refine ah (λt=>?_) (λt=>?_)
   ·have t:=dT t;obtain⟨q,J,g3⟩:=DV (S.ok v) (i:=(i:Int)) (by omega) (by omega);rw[toNat_natCast]at g3;refine⟨q,J,_,g3,ah (λs=>?_) (λs=>?_)⟩
    ·have:=dT s;omega
    ·refine(show FW SS 283 [.int .u64 ((x.getD i 0:Nat):Int),.int .u64 ((([]:List Nat).getD i 0:Nat):Int),.int .u64 ((eH (b9 BB k) x [] 0 0 i:Nat):Int),.pointer p] g _ from U).mono ?_ |> (λe=>by rw[M]at e;exact e)
     rintro _ _ ⟨rfl,rfl⟩;refine⟨_,_,rfl,_,_,_,qf _,?_⟩;obtain⟨b,m,d,u,D,g7,B,G⟩:=jA w v F ((b9 BB k (x.getD i 0) (([]:List Nat).getD i 0) (eH (b9 BB k) x [] 0 0 i)).1:Nat) (by rw[lM,l];omega);refine⟨b,m,d,u,D,sW (z-1) (by omega) ⟨by omega,by omega,by rw[o],?_,G⟩⟩;rw[f,map_append];exact B
   ·have t:=dF t;have V:x.getD i 0=0:=by rw[gD,getElem?_eq_none (by omega)];rfl
    refine ah (λs=>?_) (λs=>?_)
    ·have:=dT s;omega
    ·refine(show FW SS 283 [.int .u64 ((x.getD i 0:Nat):Int),.int .u64 ((([]:List Nat).getD i 0:Nat):Int),.int .u64 ((eH (b9 BB k) x [] 0 0 i:Nat):Int),.pointer p] g _ from U).mono ?_ |> (λe=>by rw[M,V]at e;exact e)
     rintro _ _ ⟨rfl,rfl⟩;refine⟨_,_,rfl,_,_,_,qf _,?_⟩;obtain⟨b,m,d,u,D,g7,B,G⟩:=jA w v F ((b9 BB k (x.getD i 0) (([]:List Nat).getD i 0) (eH (b9 BB k) x [] 0 0 i)).1:Nat) (by rw[lM,l];omega);refine⟨b,m,d,u,D,sW (z-1) (by omega) ⟨by omega,by omega,by rw[o],?_,G⟩⟩;rw[f,map_append];exact B
  ·have y:=dF y;obtain rfl:i=n+1:=by omega
   refine(pC F (by rw[l];omega)).mono ?_;rintro _ J ⟨R,Q,I,rfl,X,rfl⟩;rw[fin]at X;exact⟨R,Q,I,rfl,R,Q,I,rfl,X,v⟩)
 refine Da a n c p h _ ⟨_,vN _ _ _,?_⟩;have H:(if(0:Int)>(n:Int)then(0:Int)else(n:Int))=(n:Int):=if_neg (by omega);have hw:wrap .i64 ((n:Int)+1)=(n:Int)+1:=aO (by omega) (by omega);dsimp only;rw[H,hw];exact L (n+1) (i:=0) ⟨by omega,by omega,rfl,.inl ⟨rfl,rfl⟩,Ok.refl w⟩
noncomputable def aY:FD:=dY Tryz.f261 [([1,1,1,1,0,0,0],[0,1,5,7,8]),([1,1,1,1,1,1,0,1,0,0],[0,1,5,7,9,10,87,88]),([1,1,1,1,1,1,1,1,1,0,1,0,0],[0,1,5,7,10,128,129])]
abbrev dB(a:OA)(n c:Nat)(b:OA)(m d:Nat)(q e:Int):LV:=[(.slice a n c),(.slice b m d),(iA m),(.int .u64 q),(.int .u64 e)]
abbrev cE(a:OA)(n c:Nat)(b:OA)(m d:Nat)(q e:Int)(i:Nat)(f cy:Int):LV:=[(.slice a n c),(.slice b m d),(iA m),(.int .u64 q),(.int .u64 f),(.int .u64 cy),(.int .i64 e),(iA i)]
abbrev fv(a:OA)(n c:Nat)(b:OA)(m d:Nat)(q e:Int)(i:Nat)(cy:Int):LV:=[(.slice a n c),(.slice b m d),(iA m),(.int .u64 q),(.int .u64 cy),(.int .i64 e),(iA i)]
theorem I9(a:OA)(n c:Nat)(b:OA)(m d:Nat)(h:aa)(Q:VH)(l:xP (ai SS.P 260 (.slice a n c) (iA m)) λq=>xI .u64 (ae SS.P 240 (room h 12) (.pointer (some q))) λe=>xP (ai SS.P 260 (.slice a n c) (.int .i64 (wrap .i64 ((m:Int)-1)))) λr=>xI .u64 (ae SS.P 240 (room h 12) (.pointer (some r))) λg=>xP (ai SS.P 260 (.slice b m d) (.int .i64 (wrap .i64 ((m:Int)-1)))) λk=>xI .u64 (ae SS.P 240 (room (room h 12) 16) (.pointer (some k))) λo=>xI .u64 (ax SS.P .quo 240 (.int .u64 (wrap .u64 (wrap .u64 (e*1000000000)+g))) (.int .u64 o)) λp=>xP (ai SS.P 260 (.slice b m d) (.int .i64 (wrap .i64 ((m:Int)-1)))) λj=>xI .u64 (ae SS.P 240 (room (room h 12) 16) (.pointer (some j))) λi=>xI .u64 (ax SS.P .rem 240 (.int .u64 (wrap .u64 (wrap .u64 (e*1000000000)+g))) (.int .u64 i)) λf=>LL SS aY [1,1,1,1,0,0,0] (dB a n c b m d p f) (room (room h 12) 16) (KK SS aY [1,1,1,1,0,0] [] (EE SS aY Q))):FW SS 261 [(.slice a n c),(.slice b m d)] h Q:=eh aY Tryz.func261 (av l)
theorem sy(a:OA)(n c:Nat)(b:OA)(m d:Nat)  (f:Nat->Int->Int->aa->Prop) (Q:VH) (step:∀(g:Nat)(q e:Int)(s:Nat->Value)(h:aa),f g q e h->aS (decide ((q:Int)>=1000000000)) (xP (ai SS.P 260 (.slice b m d) (.int .i64 (wrap .i64 ((m:Int)-1)))) λt=>xI .u64 (ae SS.P 240 (room h 28) (.pointer (some t))) λj=>aS (decide ((wrap .u64 (e+j):Int)>=1000000000)) (aS (decide ((wrap .u64 (q-1):Int)<1000000000)) (LL SS aY [1,1,1,1,1,1,0,1,0,0] (cE a n c b m d (wrap .u64 (q-1)) (wrap .i64 ((m:Int)+1)) 0 0 0) (room h 28) (KK SS aY [1,1,1,1,1,1,0,1,0] [] (EE SS aY Q))) (aH (qu (dB a n c b m d) f) g [(.slice a n c),(.slice b m d),(iA m),(.int .u64 (wrap .u64 (q-1))),(.int .u64 (wrap .u64 (e+j)))] (room h 28))) (aH (qu (dB a n c b m d) f) g [(.slice a n c),(.slice b m d),(iA m),(.int .u64 (wrap .u64 (q-1))),(.int .u64 (wrap .u64 (e+j)))] (room h 28))) (aS (decide (((m:Int):Int)>1)) (aS (decide ((e:Int)<1000000000)) (xP (ai SS.P 260 (.slice b m d) (.int .i64 (wrap .i64 ((m:Int)-2)))) λu=>xI .u64 (ae SS.P 240 (room h 28) (.pointer (some u))) λl=>xP (ai SS.P 260 (.slice a n c) (.int .i64 (wrap .i64 ((m:Int)-2)))) λp=>xI .u64 (ae SS.P 240 (room h 28) (.pointer (some p))) λo=>aS (decide ((wrap .u64 (q*l):Int)>wrap .u64 (wrap .u64 (e*1000000000)+o))) (xP (ai SS.P 260 (.slice b m d) (.int .i64 (wrap .i64 ((m:Int)-1)))) λr=>xI .u64 (ae SS.P 240 (room h 28) (.pointer (some r))) λi=>aS (decide ((wrap .u64 (e+i):Int)>=1000000000)) (aS (decide ((wrap .u64 (q-1):Int)<1000000000)) (LL SS aY [1,1,1,1,1,1,0,1,0,0] (cE a n c b m d (wrap .u64 (q-1)) (wrap .i64 ((m:Int)+1)) 0 0 0) (room h 28) (KK SS aY [1,1,1,1,1,1,0,1,0] [] (EE SS aY Q))) (aH (qu (dB a n c b m d) f) g [(.slice a n c),(.slice b m d),(iA m),(.int .u64 (wrap .u64 (q-1))),(.int .u64 (wrap .u64 (e+i)))] (room h 28))) (aH (qu (dB a n c b m d) f) g [(.slice a n c),(.slice b m d),(iA m),(.int .u64 (wrap .u64 (q-1))),(.int .u64 (wrap .u64 (e+i)))] (room h 28))) (LL SS aY [1,1,1,1,1,1,0,1,0,0] (cE a n c b m d q (wrap .i64 ((m:Int)+1)) 0 0 0) (room h 28) (KK SS aY [1,1,1,1,1,1,0,1,0] [] (EE SS aY Q)))) (LL SS aY [1,1,1,1,1,1,0,1,0,0] (cE a n c b m d q (wrap .i64 ((m:Int)+1)) 0 0 0) (room h 28) (KK SS aY [1,1,1,1,1,1,0,1,0] [] (EE SS aY Q)))) (LL SS aY [1,1,1,1,1,1,0,1,0,0] (cE a n c b m d q (wrap .i64 ((m:Int)+1)) 0 0 0) (room h 28) (KK SS aY [1,1,1,1,1,1,0,1,0] [] (EE SS aY Q))))) (g:Nat) {q e:Int} {h:aa} (k:f g q e h):LL SS aY [1,1,1,1,0,0,0] (dB a n c b m d q e) h (KK SS aY [1,1,1,1,0,0] [] (EE SS aY Q)):=
 oJ (dB a n c b m d) f (λg q e s h k=>av (step g q e s h k)) g k
theorem sC(a:OA)(n c:Nat)(b:OA)(m d:Nat)(q e:Int)(g:Nat->Nat->Int->Int->aa->Prop)(Q:VH)(step:∀(j:Nat) (i:Nat) (f cy:Int) (E:Nat->Value) (h:aa),g j i f cy h->aS (decide (((i:Int):Int)<e)) (aS (decide (((i:Int):Int)<(m:Int))) (xP (ai SS.P 260 (.slice b m d) (iA i)) λA=>xI .u64 (ae SS.P 240 h (.pointer (some A))) λo=>xP (ai SS.P 260 (.slice a n c) (iA i)) λx=>xI .u64 (ae SS.P 240 h (.pointer (some x))) λp=>xI .u64 (ax SS.P .rem 240 (.int .u64 (wrap .u64 (cy+wrap .u64 (q*o)))) (.int .u64 1000000000)) λl=>xI .u64 (ax SS.P .rem 240 (.int .u64 (wrap .u64 (wrap .u64 (wrap .u64 (p+1000000000)-l)-f))) (.int .u64 1000000000)) λC=>xI .u64 (ax SS.P .quo 240 (.int .u64 (wrap .u64 (wrap .u64 (wrap .u64 (p+1000000000)-l)-f))) (.int .u64 1000000000)) λu=>xI .u64 (ax SS.P .quo 240 (.int .u64 (wrap .u64 (cy+wrap .u64 (q*o)))) (.int .u64 1000000000)) λF=>xP (ai SS.P 260 (.slice a n c) (iA i)) λG=>xU (aj SS.P 240 (.pointer (some G)) (.int .u64 C) h) h λH D=>aH (LA3 (cE a n c b m d q e) g) j [(.slice a n c),(.slice b m d),(iA m),(.int .u64 q),(.int .u64 (wrap .u64 (1-u))),(.int .u64 F),(.int .i64 e),(.int .i64 (wrap .i64 ((i:Int)+1)))] D) (xP (ai SS.P 260 (.slice a n c) (iA i)) λw=>xI .u64 (ae SS.P 240 h (.pointer (some w))) λk=>xI .u64 (ax SS.P .rem 240 (.int .u64 cy) (.int .u64 1000000000)) λr=>xI .u64 (ax SS.P .rem 240 (.int .u64 (wrap .u64 (wrap .u64 (wrap .u64 (k+1000000000)-r)-f))) (.int .u64 1000000000)) λB=>xI .u64 (ax SS.P .quo 240 (.int .u64 (wrap .u64 (wrap .u64 (wrap .u64 (k+1000000000)-r)-f))) (.int .u64 1000000000)) λv=>xI .u64 (ax SS.P .quo 240 (.int .u64 cy) (.int .u64 1000000000)) λz=>xP (ai SS.P 260 (.slice a n c) (iA i)) λy=>xU (aj SS.P 240 (.pointer (some y)) (.int .u64 B) h) h λI t=>aH (LA3 (cE a n c b m d q e) g) j [(.slice a n c),(.slice b m d),(iA m),(.int .u64 q),(.int .u64 (wrap .u64 (1-v))),(.int .u64 z),(.int .i64 e),(.int .i64 (wrap .i64 ((i:Int)+1)))] t)) (aS (((f:Int)==0)) (Q (.int .u64 q) h) (LL SS aY [1,1,1,1,1,1,1,1,1,0,1,0,0] (fv a n c b m d q (wrap .i64 ((m:Int)+1)) 0 0) h (KK SS aY [1,1,1,1,1,1,1,1,1,0,1,0] [] (EE SS aY Q)))))(j:Nat){i:Nat}{f cy:Int}{h:aa}(s:g j i f cy h):LL SS aY [1,1,1,1,1,1,0,1,0,0] (cE a n c b m d q e i f cy) h (KK SS aY [1,1,1,1,1,1,0,1,0] [] (EE SS aY Q)):=
 Va (cE a n c b m d q e) g (λj i f cy E h s=>av (step j i f cy E h s)) j s
theorem sD(a:OA)(n c:Nat)(b:OA)(m d:Nat)(q e:Int)(f:Nat->Nat->Int->aa->Prop)(Q:VH)(step:∀(g:Nat) (i:Nat) (cy:Int) (u:Nat->Value) (h:aa),f g i cy h->aS (decide (((i:Int):Int)<e)) (xP (ai SS.P 260 (.slice a n c) (iA i)) λr=>xI .u64 (ae SS.P 240 h (.pointer (some r))) λj=>aS (decide (((i:Int):Int)<(m:Int))) (xP (ai SS.P 260 (.slice b m d) (iA i)) λv=>xI .u64 (ae SS.P 240 h (.pointer (some v))) λk=>xI .u64 (ax SS.P .rem 240 (.int .u64 (wrap .u64 (wrap .u64 (j+cy)+k))) (.int .u64 1000000000)) λz=>xI .u64 (ax SS.P .quo 240 (.int .u64 (wrap .u64 (wrap .u64 (j+cy)+k))) (.int .u64 1000000000)) λs=>xP (ai SS.P 260 (.slice a n c) (iA i)) λw=>xU (aj SS.P 240 (.pointer (some w)) (.int .u64 z) h) h λB t=>aH (qu (fv a n c b m d q e) f) g [(.slice a n c),(.slice b m d),(iA m),(.int .u64 q),(.int .u64 s),(.int .i64 e),(.int .i64 (wrap .i64 ((i:Int)+1)))] t) (xI .u64 (ax SS.P .rem 240 (.int .u64 (wrap .u64 (j+cy))) (.int .u64 1000000000)) λp=>xI .u64 (ax SS.P .quo 240 (.int .u64 (wrap .u64 (j+cy))) (.int .u64 1000000000)) λy=>xP (ai SS.P 260 (.slice a n c) (iA i)) λo=>xU (aj SS.P 240 (.pointer (some o)) (.int .u64 p) h) h λA x=>aH (qu (fv a n c b m d q e) f) g [(.slice a n c),(.slice b m d),(iA m),(.int .u64 q),(.int .u64 y),(.int .i64 e),(.int .i64 (wrap .i64 ((i:Int)+1)))] x)) (Q (.int .u64 (wrap .u64 (q-1))) h))(g:Nat){i:Nat}{cy:Int}{h:aa}(l:f g i cy h):LL SS aY [1,1,1,1,1,1,1,1,1,0,1,0,0] (fv a n c b m d q e i cy) h (KK SS aY [1,1,1,1,1,1,1,1,1,0,1,0] [] (EE SS aY Q)):=
 oJ (fv a n c b m d q e) f (λg i cy u h l=>av (step g i cy u h l)) g l
noncomputable def bN:FD:=dY Tryz.f238 [([1,1,1,1,1,0,0,0],[0,1,6,7,8,9]),([1,1,1,1,1,1,1,0,1,0,0],[0,1,4,6,7,8,9,49,50]),([1,1,1,1,1,1,1,1,1,1,0,1,0,0],[4,5,7,12,74,75])]
abbrev gJ(a:OA)(n c:Nat)(b:OA)(m d:Nat)(j:Int)(e:OA)(f h:Nat)(r:OA)(g i:Nat):LV:=[(.slice a n c),(.slice b m d),(iA m),(.int .u64 j),(.slice r g i),(.slice e f h)]
abbrev gK(a:OA)(n c:Nat)(b:OA)(m d:Nat)(p:Int)(g:OA)(q l:Nat)(r:OA)(j o:Nat)(e:OA)(h k:Nat)(f:Int)(i:Nat):LV:=[(.slice a n c),(.slice b m d),(.slice g q l),(iA m),(.int .u64 p),(.slice r j o),(.slice e h k),(.int .i64 f),(iA i)]
abbrev gL(e:Int)(g:OA)(f c:Nat)(r:OA)(b d:Nat)(a:Int)(i:Nat)(left:Int):LV:=[(.slice g f c),(.slice r b d),(.int .u64 e),(.int .u64 left),(.int .i64 a),(iA i)]
theorem Gj(a:OA)(n c:Nat)(b:OA)(m d:Nat)(h:aa)(Q:VH)(v:FW SS 241 [(.slice a n c),(.slice b m d)] h λx f=>yI .i64 x λs=>aS (decide ((s:Int)<0)) (Q (.tuple ⟨[nA,(.slice a n c)]⟩) f) (xP (ai SS.P 260 (.slice b m d) (.int .i64 (wrap .i64 ((m:Int)-1)))) λw=>xI .u64 (ae SS.P 240 f (.pointer (some w))) λq=>xI .u64 (ax SS.P .quo 240 (.int .u64 1000000000) (.int .u64 (wrap .u64 (q+1)))) λe=>FW SS 260 [(.slice a n c),(.int .u64 e)] f λr u=>yL r λt k p=>FW SS 260 [(.slice b m d),(.int .u64 e)] u λg o=>yL g λi j l=>LL SS bN [1,1,1,1,1,0,0,0] (gJ a n c b m d e i j l t k p) o (KK SS bN [1,1,1,1,1,0,0] [] (EE SS bN Q)))):FW SS 238 [(.slice a n c),(.slice b m d)] h Q:=eh bN Tryz.func238 (av v)
theorem qS(a:OA)(n c:Nat)(b:OA)(m d:Nat)(o:Int)(e:OA)(k l:Nat)(j:Nat->OA->Nat->Nat->aa->Prop)(Q:VH)(step:∀(i:Nat) (r:OA) (f g:Nat) (z:Nat->Value) (h:aa),j i r f g h->aS (decide (((f:Int):Int)<=(n:Int))) (xR (az SS.P 260 1 [(0,(.int .u64 0))]) h λD v A q=>xE (aJ SS.P 260 260 (.slice r f g) (sA (h.next) v A) q) q λu B t C w=>aH (LA3 (gJ a n c b m d o e k l) j) i [(.slice a n c),(.slice b m d),(iA m),(.int .u64 o),(.slice u B t),(.slice e k l)] w) (xR (aX SS.P 260 (.int .i64 (wrap .i64 ((f:Int)-(m:Int)))) (.int .i64 (wrap .i64 ((f:Int)-(m:Int))))) h λE p y x=>LL SS bN [1,1,1,1,1,1,1,0,1,0,0] (gK a n c b m d o (some ⟨h.next,0,none⟩) p y r f g e k l (p:Int) 0) x (KK SS bN [1,1,1,1,1,1,1,0,1,0] [] (EE SS bN Q))))(i:Nat){r:OA}{f g:Nat}{h:aa}(s:j i r f g h):LL SS bN [1,1,1,1,1,0,0,0] (gJ a n c b m d o e k l r f g) h (KK SS bN [1,1,1,1,1,0,0] [] (EE SS bN Q)):=
 Va (gJ a n c b m d o e k l) j (λi r f g z h s=>av (step i r f g z h s)) i s
theorem qT(a:OA)(n c:Nat)(b:OA)(m d:Nat)(u:Int)(g:OA)(f p:Nat)(r:OA)(o q:Nat)(e:OA)(s t:Nat)(j:Int)(l:Nat->Nat->aa->Prop)(Q:VH)(step:∀(k:Nat) (i:Nat) (G:Nat->Value) (h:aa),l k i h->aS (decide (((i:Int):Int)<j)) (xL (bE SS.P 260 (.slice r o q) (some (.int .i64 (wrap .i64 (wrap .i64 ((f:Int)-1)-(i:Int))))) (some (.int .i64 (wrap .i64 (wrap .i64 (wrap .i64 (wrap .i64 ((f:Int)-1)-(i:Int))+(m:Int))+1)))) none h) λH F E=>FW SS 261 [(.slice H F E),(.slice e s t)] h λD w=>yI .u64 D λC=>xP (ai SS.P 260 (.slice g f p) (.int .i64 (wrap .i64 (wrap .i64 ((f:Int)-1)-(i:Int))))) λB=>xU (aj SS.P 240 (.pointer (some B)) (.int .u64 C) w) w λK y=>aH (fD (gK a n c b m d u g f p r o q e s t j) l) k [(.slice a n c),(.slice b m d),(.slice g f p),(iA m),(.int .u64 u),(.slice r o q),(.slice e s t),(.int .i64 j),(.int .i64 (wrap .i64 ((i:Int)+1)))] y) (FW SS 210 [(.slice r o q)] h λA I=>yL A λz v J=>LL SS bN [1,1,1,1,1,1,1,1,1,1,0,1,0,0] (gL u g f p z v J (v:Int) 0 0) I (KK SS bN [1,1,1,1,1,1,1,1,1,1,0,1,0] [] (EE SS bN Q))))(k:Nat){i:Nat}{h:aa}(x:l k i h):LL SS bN [1,1,1,1,1,1,1,0,1,0,0] (gK a n c b m d u g f p r o q e s t j i) h (KK SS bN [1,1,1,1,1,1,1,0,1,0] [] (EE SS bN Q)):=
 dN (gK a n c b m d u g f p r o q e s t j) l (λk i G h x=>av (step k i G h x)) k x
theorem qU(a:OA)(n c:Nat)(b:OA)(m d:Nat)(o:Int)(g:OA)(q p:Nat)(r:OA)(e k:Nat)(f:Int)(l:Nat->Nat->Int->aa->Prop)(Q:VH)(step:∀(j:Nat) (i:Nat) (left:Int) (E:Nat->Value) (h:aa),l j i left h->aS (decide (((i:Int):Int)<f)) (xP (ai SS.P 260 (.slice r e k) (.int .i64 (wrap .i64 (wrap .i64 ((e:Int)-1)-(i:Int))))) λJ=>xI .u64 (ae SS.P 240 h (.pointer (some J))) λs=>xI .u64 (ax SS.P .quo 240 (.int .u64 (wrap .u64 (wrap .u64 (left*1000000000)+s))) (.int .u64 o)) λz=>xI .u64 (ax SS.P .rem 240 (.int .u64 (wrap .u64 (wrap .u64 (left*1000000000)+s))) (.int .u64 o)) λD=>xP (ai SS.P 260 (.slice r e k) (.int .i64 (wrap .i64 (wrap .i64 ((e:Int)-1)-(i:Int))))) λw=>xU (aj SS.P 240 (.pointer (some w)) (.int .u64 z) (room h 11)) (room h 11) λK G=>aH (qu (gL o g q p r e k f) l) j [(.slice g q p),(.slice r e k),(.int .u64 o),(.int .u64 D),(.int .i64 f),(.int .i64 (wrap .i64 ((i:Int)+1)))] G) (FW SS 210 [(.slice g q p)] h λx A=>yL x λB y F=>FW SS 210 [(.slice r e k)] A λH C=>yL H λu v I=>Q (.tuple ⟨[(.slice B y F),(.slice u v I)]⟩) C))(j:Nat){i:Nat}{left:Int}{h:aa}(t:l j i left h):LL SS bN [1,1,1,1,1,1,1,1,1,1,0,1,0,0] (gL o g q p r e k f i left) h (KK SS bN [1,1,1,1,1,1,1,1,1,1,0,1,0] [] (EE SS bN Q)):=
 oJ (gL o g q p r e k f) l (λj i left E h t=>av (step j i left E h t)) j t
section
def bU(cs:List Value)(off:Nat)(W:List Nat):List Value:=cs.take off++W.map uv++cs.drop (off+W.length)
structure HJ(h:aa)(k:Nat)(h':aa):Prop where
 wf:Wf h'
 jO:∀j B,j≠k->h.get j=some B->h'.get j=some B
 nx:h.next<=h'.next
theorem HJ.refl{k:Nat}(w:Wf h):HJ h k h:=⟨w,λ_ _ _ h=>h,Nat.le_refl _⟩
theorem HJ.room{h a:aa}{k:Nat}(o:HJ h k a)(n:Nat):HJ h k (room a n):=⟨λj B b=>lt_of_lt_of_le (o.wf j B b) (Nat.le_add_right _ _),o.jO,Nat.le_trans o.nx (Nat.le_add_right _ _)⟩
theorem HJ.set{c:aa}{k:Nat}(o:HJ h k c)(d:k<c.next)(B:bu):HJ h k (c.set k B):=by
 refine⟨λj C a=>?_,λj C b a=>?_,o.nx⟩
 ·rw[aa.ay]at a;split at a
  ·next e=>rw[e];exact d
  ·exact o.wf _ _ a
 ·rw[aa.ay,if_neg b];exact o.jO _ _ b a
theorem vE{k off c:Nat}{i:Int}(b:0<=i)(a:i<n):ai SS.P 260 (.slice (some ⟨k,off,none⟩) n c) (.int .i64 i)=some (.pointer (some ⟨k,off+i.toNat,none⟩)):=by
 unfold ai;rw[zj];dsimp only;rw[CR];dsimp only;rw[if_pos ⟨b,a⟩,mul_one,cF]
section
variable {g:aa} {k off:Nat} {cs:List Value} {W:List Nat}
theorem BG(b:g.get k=some (.cells (bU cs off W) 240 1 true))(c:off+W.length<=cs.length){i:Nat}(a:i<W.length):ae SS.P 240 g (.pointer (some ⟨k,off+i,none⟩))=some (.int .u64 (W.getD i 0:Nat)):=by
 unfold ae;rw[OK];dsimp only;rw[b];dsimp only;rw[Nw];simp only[Bool.false_eq_true,if_false];unfold bU;rw[append_assoc,List.getElem?_append_right (by rw[length_take];omega),length_take,min_eq_left (by omega),Nat.add_sub_cancel_left,List.getElem?_append_left (by rw[lM];exact a),getElem?_map,gE a,gD,gE a];rfl
theorem Cr(h:g.get k=some (.cells (bU cs off W) 240 1 true))(j:off+W.length<=cs.length){i:Nat}(b:i<W.length)(d:Nat):aj SS.P 240 (.pointer (some ⟨k,off+i,none⟩)) (.int .u64 (d:Int)) g=some (undef,.set k (.cells (bU cs off (W.set i d)) 240 1 true)):=by
 show(if au SS.P 240=some 1 then(storeAt g k (off+i) [.int .u64 (d:Int)]).map λu=>(undef,u)else none)=_;rw[if_pos CR];unfold storeAt;rw[h];dsimp only;have a:(bU cs off W).length=cs.length:=by
  unfold bU;simp only[length_append,length_take,lM,length_drop];omega
 rw[if_pos ⟨by rw[a];simp;omega,rfl⟩];have e:(bU cs off W).take (off+i)++[Value.int .u64 (d:Int)]++(bU cs off W).drop (off+i+[Value.int .u64 (d:Int)].length)=bU cs off (W.set i d):=by
  have f:(cs.take off).length=off:=by rw[length_take];omega
  have c:(bU cs off W).take (off+i)++[Value.int .u64 (d:Int)]++(bU cs off W).drop (off+i+[Value.int .u64 (d:Int)].length)=(bU cs off W).set (off+i) (.int .u64 (d:Int)):=by
   rw[List.set_eq_take_append_cons_drop,if_pos (by rw[a];omega),append_assoc];rfl
  rw[c];unfold bU;rw[append_assoc,List.set_append,if_neg (by omega),f,Nat.add_sub_cancel_left,List.set_append,if_pos (by rw[lM];exact b),length_set,append_assoc,List.map_set];rfl
 rw[e];rfl
end
end
variable{z:Int}{y:List Nat}{l:Nat}
theorem Cj{a:Nat}:ax SS.P .rem 240 (.int .u64 (a:Int)) (.int .u64 1000000000)=some (.int .u64 ((a%BB:Nat):Int)):=by
 have:=fR (P:=SS.P) (t:=240) (k:= .u64) (a:=(a:Int)) (b:=BB) (by omega) (by decide);rw[<-natCast_emod]at this;exact this
theorem EC{a:Nat}(h:a<18446744073709551616):ax SS.P .quo 240 (.int .u64 (a:Int)) (.int .u64 1000000000)=some (.int .u64 ((a/BB:Nat):Int)):=by
 have:=nK (P:=SS.P) (t:=240) (a:=(a:Int)) (b:=BB) (by omega) (by omega) (by decide);rw[<-natCast_ediv]at this;exact this
theorem aaw{a b:Nat}(c:0<b):ax SS.P .rem 240 (.int .u64 (a:Int)) (.int .u64 (b:Int))=some (.int .u64 ((a%b:Nat):Int)):=by
 have:=fR (P:=SS.P) (t:=240) (k:= .u64) (a:=(a:Int)) (b:=b) (by omega) c;rw[<-natCast_emod]at this;exact this
theorem UM{a b:Nat}(h:a<18446744073709551616)(c:0<b):ax SS.P .quo 240 (.int .u64 (a:Int)) (.int .u64 (b:Int))=some (.int .u64 ((a/b:Nat):Int)):=by
 have:=nK (P:=SS.P) (t:=240) (a:=(a:Int)) (b:=b) (by omega) (by omega) c;rw[<-natCast_ediv]at this;exact this
theorem wU(h:z=(n:Int))(a:n<18446744073709551616):wrap .u64 z=(n:Int):=by rw[h];exact eg (by omega) (by omega)
structure ZW(h:aa)(k off c m:Nat)(cs:List Value)(U V:List Nat)(b:Option Addr)(d:Nat):Prop where
 w:Wf h
 get:h.get k=some (.cells (bU cs off U) 240 1 true)
 fit:off+U.length<=cs.length
 ul:U.length=m+1
 vl:V.length=m
 mp:0<m
 mle:m<=10000
 ult:∀x∈U,x<BB
 vlt:∀x∈V,x<BB
 v1:0<V.getD (m-1) 0
 lt:Num.bv BB U<BB*Num.bv BB V
 rd:∀g,HJ h k g->Rd g 240 (.slice b m d) (V.map uv)
def E5(h:aa)(k a:Nat)(cs:List Value)(m:Nat)(U V:List Nat):VH:=λv b=>∃W:List Nat,W.length=m+1/\(∀x∈W,x<BB)/\Num.bv BB W=Num.bv BB U%Num.bv BB V/\v=uv (Num.bv BB U/Num.bv BB V)/\b.get k=some (.cells (bU cs a W) 240 1 true)/\HJ h k b
theorem Ja{c:Nat}{cs:List Value}{V:List Nat}{b:Option Addr}(D:ZW h k n c m cs y V b l):
  FW SS 261 [.slice (some ⟨k,n,none⟩) (m+1) c,.slice b m l] h (E5 h k n cs m y V):=by
 have y1:BB=1000000000:=rfl;have w1:=D.ul;have v7:=D.vl;have x5:=D.mp;have u7:=D.mle;have I:0<BB:=by decide
 have ug:∀i,y.getD i 0<BB:=λi=>bo I D.ult i;have vg:∀i,V.getD i 0<BB:=λi=>bo I D.vlt i;have y5:wrap .i64 ((m:Int)-1)=((m-1:Nat):Int):=by rw[aO (by omega) (by omega)];omega
 have z5:1<m->wrap .i64 ((m:Int)-2)=((m-2:Nat):Int):=λhm=>by rw[aO (by omega) (by omega)];omega
 have P:wrap .i64 ((m:Int)+1)=(m:Int)+1:=aO (by omega) (by omega);have wi:∀i:Nat,i<=m->wrap .i64 ((i:Int)+1)=((i+1:Nat):Int):=λi hi=>by rw[aO (by omega) (by omega)];omega
 have L3:=λ(d:Nat) (W:List Nat) (y4:0<d) (C:d<BB) (w0:W.length=m+1) (w:∀x∈W,x<BB) (hq:d-1=Num.bv BB y/Num.bv BB V) (z3:Num.bv BB (bq (aP BB) W V 0 (m+1) 0)=Num.bv BB y%Num.bv BB V)=>
  sD (some ⟨k,n,none⟩) (m+1) c b m l (d:Int) ((m:Int)+1) (λa i cy g=>i<=m+1/\a=m+1-i/\cy=(eH (aP BB) W V 0 0 i:Nat)/\g.get k=some (.cells (bU cs n (bq (aP BB) W V 0 i 0++W.drop i)) 240 1 true)/\HJ h k g) (E5 h k n cs m y V) (by
  intro a i cy;intros;rename_i g hi;obtain⟨h1,h2,rfl,B,H⟩:=hi;have r:(bq (aP BB) W V 0 i 0).length=i:=gO _ _ _ _ _ _;have L:=jk (aP BB) W V i 0 0;rw[zero_add]at L;have x0:eH (aP BB) W V 0 0 (i+1)=(aP BB (W.getD i 0) (V.getD i 0) (eH (aP BB) W V 0 0 i)).2:=by
   show(aP BB (W.getD (0+i) 0) (V.getD (0+i) 0) _).2=_;rw[zero_add]
  have wg:W.getD i 0<BB:=bo I w i;have v3:eH (aP BB) W V 0 0 i<=1:=by
   clear x0 L r B h2 h1
   induction i with
   |zero=>exact zero_le _
   |succ j ih=>
    have a1:=bo (b:=BB) I w (0+j);have a2:=vg (0+j);have a3:=ih (bo I w j);show(W.getD (0+j) 0+V.getD (0+j) 0+eH (aP BB) W V 0 0 j)/BB<=1;have:(W.getD (0+j) 0+V.getD (0+j) 0+eH (aP BB) W V 0 0 j)/BB<2:=div_lt_of_lt_mul (by omega);omega
  have u4:=vg i;have o:(bq (aP BB) W V 0 i 0++W.drop i).length=m+1:=by rw[length_append,r,length_drop];omega
  have J:=D.fit;refine ah (λA=>?_) (λA=>?_)
  ·have A:=dT A;have M:=BG B (by rw[o];omega) (i:=i) (by rw[o];omega);rw[uH _ _ r]at M;have X:=H.wf _ _ B;have step:∀(s:Nat),s=W.getD i 0+V.getD i 0+eH (aP BB) W V 0 0 i->
     aj SS.P 240 (.pointer (some ⟨k,n+i,none⟩)) (.int .u64 ((s%BB:Nat):Int)) g=some (undef,.set k (.cells (bU cs n (bq (aP BB) W V 0 (i+1) 0++W.drop (i+1))) 240 1 true)):=λs Y=>by
    rw[Cr B (by rw[o];omega) (by rw[o];omega),yy _ _ r (by omega),L,Y];rfl
   refine⟨_,vE (by omega) (by omega),_,by rw[toNat_natCast];exact M,?_⟩;have e1:wrap .u64 (((W.getD i 0:Nat):Int)+((eH (aP BB) W V 0 0 i:Nat):Int))=((W.getD i 0+eH (aP BB) W V 0 0 i:Nat):Int):=wU (by omega) (by omega);dsimp only;rw[e1,wi i (by omega)];refine ah (λf=>?_) (λf=>?_)
   ·have f:=dT f;obtain⟨p,Q,K⟩:=DV (D.rd g H) (i:=(i:Int)) (by omega) (by omega);rw[toNat_natCast]at K;refine⟨p,Q,_,K,?_⟩;have e2:wrap .u64 (((W.getD i 0+eH (aP BB) W V 0 0 i:Nat):Int)+((V.getD i 0:Nat):Int))=((W.getD i 0+V.getD i 0+eH (aP BB) W V 0 0 i:Nat):Int):=wU (by omega) (by omega);dsimp only;rw[e2];refine⟨_,Cj,_,EC (by omega),_,vE (by omega) (by omega),_,by rw[toNat_natCast];exact step _ rfl,?_⟩;refine ju (a-1) (by omega) ⟨by omega,by omega,by rw[x0];rfl,?_,H.set X _⟩;show(g.set k _).get k=_;rw[aa.ay,if_pos rfl]
   ·have f:=dF f;have x7:V.getD i 0=0:=by rw[gD,getElem?_eq_none (by omega)];rfl
    refine⟨_,Cj,_,EC (by omega),_,vE (by omega) (by omega),_,by rw[toNat_natCast];exact step _ (by omega),?_⟩;refine ju (a-1) (by omega) ⟨by omega,by omega,?_,?_,H.set X _⟩
    ·rw[x0];show _=(((W.getD i 0+V.getD i 0+eH (aP BB) W V 0 0 i)/BB:Nat):Int);rw[x7,add_zero]
    ·show(g.set k _).get k=_;rw[aa.ay,if_pos rfl]
  ·have A:=dF A;obtain rfl:i=m+1:=by omega
   have e3:wrap .u64 ((d:Int)-1)=((d-1:Nat):Int):=wU (by omega) (by omega);rw[e3];rw[drop_of_length_le (by omega),List.append_nil]at B;exact⟨_,r,jH (λp q c=>mod_lt _ I) _ _ _ _ _,z3,by rw[hq];rfl,B,H⟩)
 have L2:=λ(d:Nat) (C:d<BB) (u3:Num.bv BB y<(d+1)*Num.bv BB V) (u0:d*Num.bv BB V<Num.bv BB y+Num.bv BB V)=>
  sC (some ⟨k,n,none⟩) (m+1) c b m l (d:Int) ((m:Int)+1) (λa i F cy g=>i<=m+1/\a=m+1-i/\F=((bt BB d y V 0 i 0 0).2.1:Nat)/\cy=((bt BB d y V 0 i 0 0).2.2:Nat)/\g.get k=some (.cells (bU cs n ((bt BB d y V 0 i 0 0).1++y.drop i)) 240 1 true)/\HJ h k g) (E5 h k n cs m y V) (by
  intro a i F cy;intros;rename_i g hi;obtain⟨h1,h2,rfl,rfl,B,H⟩:=hi;have r:(bt BB d y V 0 i 0 0).1.length=i:=oT _ _ _ _ _ _ _ _;have L:=qB BB d y V i 0 0 0;rw[zero_add]at L;have z4:=CY (q:=d) (v:=V) eY D.ult i;have z8:=p8 eY C (u:=y) D.vlt i;generalize u1:bt BB d y V 0 i 0 0=st at*;obtain⟨Wl,F,cy⟩:=st;dsimp only at r B z4 z8 L⊢;have o:(Wl++y.drop i).length=m+1:=by rw[length_append,r,length_drop];omega
  have J:=D.fit;have v6:=ug i;have u4:=vg i;have y3:d*V.getD i 0<=999999999*999999999:=mul_le_mul (by omega) (by omega);refine ah (λA=>?_) (λA=>?_)
  ·have A:=dT A;have M:=BG B (by rw[o];omega) (i:=i) (by rw[o];omega);rw[uH _ _ r]at M;have X:=H.wf _ _ B;have step:∀(s:Nat),s=d*V.getD i 0+cy->
     aj SS.P 240 (.pointer (some ⟨k,n+i,none⟩)) (.int .u64 (((y.getD i 0+BB-s%BB-F)%BB:Nat):Int)) g=some (undef,.set k (.cells (bU cs n ((bt BB d y V 0 (i+1) 0 0).1++y.drop (i+1))) 240 1 true)):=λs Y=>by
    rw[Cr B (by rw[o];omega) (by rw[o];omega),yy _ _ r (by omega),L,Y];rfl
   have Z:∀(s:Nat),s=d*V.getD i 0+cy->∀(z9:Addr),z9=⟨k,n+i,none⟩->
     ∃y7:Int,ax SS.P .rem 240 (.int .u64 (s:Int)) (.int .u64 1000000000)=some (.int .u64 y7)/\y7=((s%BB:Nat):Int):=λs _ _ _=>⟨_,Cj,rfl⟩
   rw[wi i (by omega)];have fin:∀(s:Nat),s=d*V.getD i 0+cy->((1-(y.getD i 0+BB-s%BB-F)/BB:Nat):Int)=((bt BB d y V 0 (i+1) 0 0).2.1:Nat)/\((s/BB:Nat):Int)=((bt BB d y V 0 (i+1) 0 0).2.2:Nat):=λs Y=>by
    rw[L,Y];exact⟨rfl,rfl⟩
   have ed:∀s:Nat,wrap .u64 (wrap .u64 (wrap .u64 (((y.getD i 0:Nat):Int)+1000000000)-((s%BB:Nat):Int))-(F:Int))=((y.getD i 0+BB-s%BB-F:Nat):Int):=λs=>by
    have hm:=mod_lt s I;generalize s%BB=z at hm;have a1:wrap .u64 (((y.getD i 0:Nat):Int)+1000000000)=((y.getD i 0+BB:Nat):Int):=wU (by omega) (by omega);have a2:wrap .u64 (((y.getD i 0+BB:Nat):Int)-(z:Int))=((y.getD i 0+BB-z:Nat):Int):=wU (by omega) (by omega);have a3:wrap .u64 (((y.getD i 0+BB-z:Nat):Int)-(F:Int))=((y.getD i 0+BB-z-F:Nat):Int):=wU (by omega) (by omega);rw[a1,a2,a3]
   have z0:∀s:Nat,wrap .u64 (1-(((y.getD i 0+BB-s%BB-F)/BB:Nat):Int))=((1-(y.getD i 0+BB-s%BB-F)/BB:Nat):Int):=λs=>by
    have h9:(y.getD i 0+BB-s%BB-F)/BB<2:=div_lt_of_lt_mul (by omega);generalize (y.getD i 0+BB-s%BB-F)/BB=z at h9⊢;exact wU (by omega) (by omega)
   refine ah (λf=>?_) (λf=>?_)
   ·have f:=dT f;obtain⟨p,Q,K⟩:=DV (D.rd g H) (i:=(i:Int)) (by omega) (by omega);rw[toNat_natCast]at K;refine⟨p,Q,_,K,_,vE (by omega) (by omega),_,by rw[toNat_natCast];exact M,?_⟩;have e2:wrap .u64 ((cy:Int)+wrap .u64 ((d:Int)*((V.getD i 0:Nat):Int)))=((d*V.getD i 0+cy:Nat):Int):=by
     have e0:wrap .u64 ((d:Int)*((V.getD i 0:Nat):Int))=((d*V.getD i 0:Nat):Int):=wU (by rw[Int.natCast_mul]) (by omega);rw[e0];exact wU (by omega) (by omega)
    rw[e2];refine⟨_,Cj,?_⟩;dsimp only;rw[ed];have hm:=mod_lt (d*V.getD i 0+cy) I;refine⟨_,Cj,_,EC (by omega),_,EC (by omega),_,vE (by omega) (by omega),_,by rw[toNat_natCast];exact step _ rfl,?_⟩;rw[z0];refine IM (a-1) (by omega) ⟨by omega,by omega,(fin _ rfl).1,(fin _ rfl).2,?_,H.set X _⟩;show(g.set k _).get k=_;rw[aa.ay,if_pos rfl]
   ·have f:=dF f;have x7:V.getD i 0=0:=by rw[gD,getElem?_eq_none (by omega)];rfl
    have x4:cy=d*V.getD i 0+cy:=by rw[x7,mul_zero,zero_add]
    refine⟨_,vE (by omega) (by omega),_,by rw[toNat_natCast];exact M,_,Cj,?_⟩;dsimp only;rw[ed];have hm:=mod_lt cy I;refine⟨_,Cj,_,EC (by omega),_,EC (by omega),_,vE (by omega) (by omega),_,by rw[toNat_natCast];exact step _ x4,?_⟩;rw[z0];refine IM (a-1) (by omega) ⟨by omega,by omega,(fin _ x4).1,(fin _ x4).2,?_,H.set X _⟩;show(g.set k _).get k=_;rw[aa.ay,if_pos rfl]
  ·have A:=dF A;obtain rfl:i=m+1:=by omega
   obtain⟨d0,d1,d2⟩:=E9 eY D.ult D.vlt D.ul D.vl C u3 u0;have w:=rJ (q:=d) eY y V (m+1) 0 0 0;rw[u1]at d0 d1 d2 w;dsimp only at d0 d1 d2 w;rw[drop_of_length_le (by omega),List.append_nil]at B;refine ah (λf=>?_) (λf=>?_)
   ·have f:(F:Int)=0:=by simpa using f
    obtain⟨e1,e2⟩:=d1 (by omega);exact⟨Wl,r,w,e2,by rw[e1];rfl,B,H⟩
   ·have f:¬(F:Int)=0:=by simpa using f
    obtain⟨e0,e1,e2⟩:=d2 (by omega);rw[P];exact L3 d Wl e0 C r w e1 e2 (m+1) (i:=0) ⟨by omega,by omega,rfl,by simpa[bq]using B,H⟩)
 have O:=D.v1;have y0:y.getD m 0*BB+y.getD (m-1) 0<1000000000000000000:=by
  have a1:=ug m;have a2:=ug (m-1);have a3:y.getD m 0*BB=1000000000*y.getD m 0:=by rw[y1,mul_comm]
  omega
 have L1:=sy (some ⟨k,n,none⟩) (m+1) c b m l (λa q Z g=>∃d G:Nat,q=(d:Int)/\Z=(G:Int)/\a=d/\fJ BB m y V d G/\g.get k=some (.cells (bU cs n y) 240 1 true)/\HJ h k g) (E5 h k n cs m y V) (by
  intro a q Z;intros;rename_i g hi;obtain⟨d,G,rfl,rfl,rfl,T,B,H⟩:=hi;have hT:=T.eq;have J:=D.fit;have v8:G<1000000000000000000:=Nat.lt_of_le_of_lt (by rw[<-hT];omega) y0;have v5:a<1000000000000000000:=by
   refine Nat.lt_of_le_of_lt ?_ y0;rw[<-hT];have:=Nat.le_mul_of_pos_right a O;omega
  have t:=H.room 28;have E:(room g 28).get k=some (.cells (bU cs n y) 240 1 true):=B;have v1:=vg (m-1);have hj:((m-1:Nat):Int).toNat=m-1:=by omega
  obtain⟨p1,Q,K⟩:=DV (D.rd _ t) (i:=((m-1:Nat):Int)) (by omega) (by omega);rw[hj]at K;have er:wrap .u64 ((G:Int)+((V.getD (m-1) 0:Nat):Int))=((G+V.getD (m-1) 0:Nat):Int):=wU (by omega) (by omega);have u6:∀(S:Nat),S<BB->Num.bv BB y<(S+1)*Num.bv BB V->S*Num.bv BB V<Num.bv BB y+Num.bv BB V->_:=λS h1 h2 h3=>L2 S h1 h2 h3;have y2:Num.bv BB y<a*Num.bv BB V->0<a/\fJ BB m y V (a-1) (G+V.getD (m-1) 0):=λM=>⟨by
   rcases Nat.eq_zero_or_pos a with e|e
   ·subst e;rw[Nat.zero_mul]at M;omega
   ·exact e,T.lower M⟩
  have x3:a-1<BB->BB<=G+V.getD (m-1) 0->fJ BB m y V (a-1) (G+V.getD (m-1) 0)->(a-1)*Num.bv BB V<Num.bv BB y+Num.bv BB V:=λh1 h2 N=>
   N.last eY D.ul D.vl x5 D.vlt O h1 λ_=>sN h1 (vg (m-2)) h2
  have u9:Num.bv BB y<a*Num.bv BB V->True:=λ_=>trivial;rw[y5];refine ah (λA=>?_) (λA=>?_)
  ·have A:=dT A;obtain⟨y4,N⟩:=y2 (fJ.adf D.lt (by omega));have x8:wrap .u64 ((a:Int)-1)=((a-1:Nat):Int):=wU (by omega) (by omega);rw[x8];refine⟨p1,Q,_,K,?_⟩;dsimp only;rw[er];generalize x2:decide (((a-1:Nat):Int)<1000000000)=bz;refine ah (λf=>ah (λR=>?_) (λR=>?_)) (λf=>?_)
   ·subst x2;have f:=dT f;have R:=dT R;rw[P];exact L2 (a-1) (by omega) N.hi (x3 (by omega) (by omega) N) (m+1) (i:=0) ⟨by omega,by omega,rfl,rfl,by simpa[bt]using E,t⟩
   ·exact ju (a-1) (by omega) ⟨a-1,_,rfl,rfl,rfl,N,E,t⟩
   ·exact ju (a-1) (by omega) ⟨a-1,_,rfl,rfl,rfl,N,E,t⟩
  ·have A:=dF A;have C:a<BB:=by omega
   have x1:(1<m->a*V.getD (m-2) 0<=G*BB+y.getD (m-2) 0)->a*Num.bv BB V<Num.bv BB y+Num.bv BB V:=λY=>T.last eY D.ul D.vl x5 D.vlt O C Y;refine ah (λf=>?_) (λf=>?_)
   ·have f:=dT f;have y8:1<m:=by omega
    rw[z5 y8];generalize x2:decide ((G:Int)<1000000000)=bz;refine ah (λR=>?_) (λR=>?_)
    ·subst x2;have R:=dT R;have z2:((m-2:Nat):Int).toNat=m-2:=by omega
     obtain⟨p2,g4,g5⟩:=DV (D.rd _ t) (i:=((m-2:Nat):Int)) (by omega) (by omega);rw[z2]at g5;have M:=BG E J (i:=m-2) (by omega);refine⟨p2,g4,_,g5,_,vE (by omega) (by omega),_,by rw[z2];exact M,?_⟩;have v2:=vg (m-2);have v9:=ug (m-2);have y3:a*V.getD (m-2) 0<=999999999*999999999:=mul_le_mul (by omega) (by omega);have ea:wrap .u64 ((a:Int)*((V.getD (m-2) 0:Nat):Int))=((a*V.getD (m-2) 0:Nat):Int):=wU (by rw[Int.natCast_mul]) (by omega);obtain⟨RB,x9⟩:∃x,x=G*BB:=⟨_,rfl⟩
     have u8:RB=1000000000*G:=by rw[x9,y1,mul_comm]
     obtain⟨MV,x6⟩:∃x,x=a*V.getD (m-2) 0:=⟨_,rfl⟩
     rw[<-x6]at y3 ea;have eb:wrap .u64 ((G:Int)*1000000000)=(RB:Int):=wU (by omega) (by omega);have ec:wrap .u64 ((RB:Int)+((y.getD (m-2) 0:Nat):Int))=((RB+y.getD (m-2) 0:Nat):Int):=wU (by omega) (by omega);dsimp only;rw[ea,eb,ec];generalize y9:decide ((MV:Int)>((RB+y.getD (m-2) 0:Nat):Int))=v4;refine ah (λh8=>?_) (λh8=>?_)
     ·subst y9;have h8:=dT h8;obtain⟨y4,N⟩:=y2 (T.second D.ul D.vl y8 D.ult (by rw[<-x9,<-x6];omega));have x8:wrap .u64 ((a:Int)-1)=((a-1:Nat):Int):=wU (by omega) (by omega);rw[x8];refine⟨p1,Q,_,K,?_⟩;dsimp only;rw[er];generalize w2:decide (((a-1:Nat):Int)<1000000000)=bx;refine ah (λh9=>ah (λu5=>?_) (λu5=>?_)) (λh9=>?_)
      ·have h9:=dT h9;rw[P];exact L2 (a-1) (by omega) N.hi (x3 (by omega) (by omega) N) (m+1) (i:=0) ⟨by omega,by omega,rfl,rfl,by simpa[bt]using E,t⟩
      ·exact ju (a-1) (by omega) ⟨a-1,_,rfl,rfl,rfl,N,E,t⟩
      ·exact ju (a-1) (by omega) ⟨a-1,_,rfl,rfl,rfl,N,E,t⟩
     ·subst y9;have h8:=dF h8;rw[P];exact L2 a C T.hi (x1 λ_=>by rw[<-x9,<-x6];omega) (m+1) (i:=0) ⟨by omega,by omega,rfl,rfl,by simpa[bt]using E,t⟩
    ·subst x2;have R:=dF R;rw[P];exact L2 a C T.hi (x1 λ_=>sN C (vg (m-2)) (by omega)) (m+1) (i:=0) ⟨by omega,by omega,rfl,rfl,by simpa[bt]using E,t⟩
   ·have f:=dF f;rw[P];exact L2 a C T.hi (x1 λhm=>by omega) (m+1) (i:=0) ⟨by omega,by omega,rfl,rfl,by simpa[bt]using E,t⟩)
 have z7:=(HJ.refl (k:=k) D.w).room 12;have z1:=z7.room 16;have J:=D.fit;have hj:((m-1:Nat):Int).toNat=m-1:=by omega
 have z6:=BG (g:=room h 12) D.get J (i:=m) (by omega);have u2:=BG (g:=room h 12) D.get J (i:=m-1) (by omega);obtain⟨p1,Q,K⟩:=DV (D.rd _ z1) (i:=((m-1:Nat):Int)) (by omega) (by omega);rw[hj]at K;have a1:=ug m;have a2:=ug (m-1);refine I9 _ _ _ _ _ _ h _ ⟨_,vE (by omega) (by omega),_,by rw[toNat_natCast];exact z6,?_⟩;rw[y5];refine⟨_,vE (by omega) (by omega),_,by rw[hj];exact u2,p1,Q,_,K,?_⟩;obtain⟨TB,y6⟩:∃x,x=y.getD m 0*BB:=⟨_,rfl⟩
 have v0:TB=1000000000*y.getD m 0:=by rw[y6,y1,mul_comm]
 have ea:wrap .u64 (((y.getD m 0:Nat):Int)*1000000000)=(TB:Int):=wU (by omega) (by omega);have eb:wrap .u64 ((TB:Int)+((y.getD (m-1) 0:Nat):Int))=((TB+y.getD (m-1) 0:Nat):Int):=wU (by omega) (by omega);rw[ea,eb];have U:=fJ.start eY D.ul D.vl x5 D.ult O;rw[<-y6]at U;refine⟨_,UM (by omega) O,p1,Q,_,K,_,aaw O,?_⟩;exact L1 _ ⟨_,_,rfl,rfl,rfl,U,D.get,z1⟩
variable{T:TypeId}{c:List Value}
theorem fi.aen{b:aa}(d:g.next<=b.next)(o:fi b h T v c):fi g h T v c:=by
 rcases o with o|⟨k,cs,a,f,e,i,j⟩
 ·exact .inl o
 ·exact .inr ⟨k,cs,a,Nat.le_trans d f,e,i,j⟩
theorem aa3(k:Int):dp SS.P 240 (.int .u64 k)=some (.cells [.int .u64 k] 240 0 true,dR):=by kernel_rfl
theorem vU{c:Nat}(p:Rd h 240 (.slice a n c) (x.map uv))(m:∀d∈x,d<BB)(b:x.length<=10000){k:Nat}(g:0<k)(q:k<=BB)(w:Wf h):
  FW SS 260 [.slice a n c,.int .u64 (k:Int)] h (jK h 240 (bl (Num.bv BB x*k))):=by
 have e:=(Ok.refl w).push (.cells [.int .u64 (k:Int)] 240 0 true);refine Gn a n c _ h _ ⟨_,aa3 _,?_⟩;have r:ae SS.P 240 (h.push (.cells [.int .u64 (k:Int)] 240 0 true)) (.pointer (some ⟨h.next,0,none⟩))=some (.int .u64 (k:Int)):=by
  unfold ae;rw[OK];dsimp only;rw[aa.aN,if_pos rfl];dsimp only;rw[Nw];rfl
 refine(Db (p.ok e) m b r g q e.wf).mono ?_;rintro _ s ⟨j,f,l,rfl,o,i⟩;exact⟨j,f,l,rfl,j,f,l,rfl,fi.aen (Nat.le_succ _) o,e.trans i⟩
def AI(h:aa)(k a n c:Nat)(l:List Nat):Prop:=∃cs b,h.get k=some (.cells cs 240 1 b)/\n=l.length/\(cs.drop a).take n=l.map uv/\n<=aW c
theorem AI.rd{c:Nat}{l:List Nat}(r:AI h k n m c l):Rd h 240 (.slice (some ⟨k,n,none⟩) m c) (l.map uv):=by
 obtain⟨cs,d,b,rfl,a,e⟩:=r;exact .inr ⟨k,n,cs,c,d,by rw[lM],b,by rw[lM];exact a⟩
theorem AI.take{c:Nat}{l:List Nat}(r:AI h k n m c l){j:Nat}(g:j<=m):bE SS.P 260 (.slice (some ⟨k,n,none⟩) m c) none (some (.int .i64 (j:Int))) none h=some (.slice (some ⟨k,n,none⟩) j c)/\AI h k n j c (l.take j):=by
 obtain⟨cs,d,a,rfl,b,i⟩:=r;refine⟨?_,cs,d,a,by rw[length_take];omega,?_,by omega⟩
 ·unfold bE;dsimp only;rw[zj];dsimp only[dH];rw[CR,a];dsimp only;have e:((j:Int)-((0:Nat):Int)).toNat=j:=by omega
  have f:((0:Nat):Int).toNat=0:=rfl;rw[if_pos (by simp),if_pos (by omega),e,f];rfl
 ·have:=congrArg (List.take j) b;rwa[take_take,min_eq_left g,<-map_take]at this
theorem nH{c:Nat}{l:List Nat}(r:AI h k n m c l)(y:l.length<=100000):
  FW SS 210 [.slice (some ⟨k,n,none⟩) m c] h (λv o=>v = .slice (some ⟨k,n,none⟩) (cM l).length c/\o=h):=by
 have t:m=l.length:=by obtain⟨_,_,_,D,_⟩:=r;exact D
 have L:=mI (some ⟨k,n,none⟩) m c (λa r s d g=>s<=l.length/\a=s/\r=some ⟨k,n,none⟩/\d=c/\AI h k n s c (l.take s)/\cM l=cM (l.take s)/\g=h) (λv o=>v = .slice (some ⟨k,n,none⟩) (cM l).length c/\o=h) (by
  intro a r s d;intros;rename_i g F;obtain⟨C,rfl,rfl,rfl,u,q,rfl⟩:=F;have E:wrap .i64 ((a:Int)-1)=(a:Int)-1:=aO (by omega) (by omega);rw[E];have f:a≠0->l.take a=l.take (a-1)++[l.getD (a-1) 0]:=λf=>by
   obtain⟨j,rfl⟩:∃j,a=j+1:=⟨a-1,by omega⟩
   rw[List.take_succ_eq_append_getElem (by omega),Nat.add_sub_cancel,gD,gE (by omega)];rfl
  refine ah (λe=>?_) (λe=>?_)
  ·have e:=dT e;obtain⟨p,A,x⟩:=DV u.rd (i:=(a:Int)-1) (by omega) (by rw[length_take];omega);have z:(l.take a).getD ((a:Int)-1).toNat 0=l.getD (a-1) 0:=by
    rw[show((a:Int)-1).toNat=a-1 by omega,gD,List.getElem?_take,if_pos (by omega),gD]
   rw[z]at x;refine⟨p,A,_,x,ah (λb=>?_) (λb=>?_)⟩
   ·have b:((l.getD (a-1) 0:Nat):Int)=0:=by simpa using b
    have b:l.getD (a-1) 0=0:=by omega
    obtain⟨B,w⟩:=u.take (j:=a-1) (by omega);rw[show((a:Int)-1)=((a-1:Nat):Int) by omega];refine⟨_,_,_,B,IM (a-1) (by omega) ⟨by omega,rfl,rfl,rfl,?_,?_,rfl⟩⟩
    ·rw[take_take,min_eq_left (by omega)]at w;exact w
    ·rw[q,f (by omega),b,gm]
   ·have b:¬((l.getD (a-1) 0:Nat):Int)=0:=by simpa using b
    refine⟨?_,rfl⟩;rw[q,f (by omega),ic _ (by omega),<-f (by omega),length_take,min_eq_left C]
  ·have e:=dF e;obtain rfl:a=0:=by omega
   refine⟨?_,rfl⟩;rw[q];rfl)
 exact BI _ m c h _ (L m ⟨by omega,rfl,rfl,rfl,by rw[show l.take m=l by rw[t,take_length]];exact r,by rw[show l.take m=l by rw[t,take_length]],rfl⟩)
theorem CQ:∀n,bO [uv 0] n=(List.replicate n 0).map uv
 |0=>rfl
 |n+1=>by rw[bO,CQ n];rfl
noncomputable def VU:TypeInfo:=(SS.P.info? 240).getD default
theorem VV:SS.P.info? 240=some VU:=by kernel_rfl
theorem M3:VU.size=1:=by kernel_rfl
theorem Kb:VU.bytes=8:=by kernel_rfl
theorem ZU:zeroOf SS.P 240=some (uv 0):=by kernel_rfl
theorem aaq(n:Nat)(a:n<=100000):aX SS.P 260 (.int .i64 (n:Int)) (.int .i64 (n:Int))=some (.cells ((List.replicate n 0).map uv) 240 1 true,jE n n):=by
 unfold aX aT;dsimp only;rw[zj]
 try dsimp only
 change (match SS.P.info? 240,zeroOf SS.P 240 with
  |some i,some z=>(if z.cells.size=i.size/\0<i.size/\(0:Int)<=(n:Int)/\(n:Int)<=(n:Int)/\(n:Int)*i.bytes<=140737488355328/\(n:Int)<=1099511627776 then some (bu.cells (bO z.cells.toList (n:Int).toNat) 240 i.size true,λk=>Value.slice (some ⟨k,0,none⟩) (n:Int).toNat (n:Int).toNat)else none)
  |_,_=>none)=_
 rw[VV,ZU];dsimp only;rw[M3,Kb,if_pos ⟨rfl,by omega,by omega,Int.le_refl _,by omega,by omega⟩];have e:((n:Int)).toNat=n:=by omega
 rw[e,show(uv 0).cells.toList=[uv 0]from rfl,CQ];rfl
theorem kU(h:(c.drop n).take x.length=x.map uv):bU c n x=c:=by
 unfold bU;rw[<-h,append_assoc,<-List.drop_drop,List.take_append_drop,List.take_append_drop]
theorem C8{W:List Nat}(h:n+y.length<=x.length)(e:x.length<=c.length)(g:y.length=W.length)(f:(x.drop n).take W.length=W):
  bU (bU c 0 x) n y=bU c 0 (x.take n++y++x.drop (n+y.length)):=by
 unfold bU;have b:(c.take 0++x.map uv++c.drop (0+x.length)).take n=(x.take n).map uv:=by
  rw[take_zero,nil_append,List.take_append_of_le_length (by rw[lM];omega),map_take]
 have d:(c.take 0++x.map uv++c.drop (0+x.length)).drop (n+y.length)=(x.drop (n+y.length)).map uv++c.drop (0+x.length):=by
  rw[take_zero,nil_append,List.drop_append_of_le_length (by rw[lM];omega),List.map_drop]
 have a:(x.take n++y++x.drop (n+y.length)).length=x.length:=by
  simp only[length_append,length_take,length_drop];omega
 rw[b,d,a,map_append,map_append,take_zero,nil_append,append_assoc,append_assoc,append_assoc]
theorem nW(a:n+m<=x.length):((bU c 0 x).drop n).take m=((x.drop n).take m).map uv:=by
 unfold bU;rw[take_zero,nil_append,List.drop_append_of_le_length (by rw[lM];omega),List.take_append_of_le_length (by rw[length_drop,lM];omega),<-List.map_drop,<-map_take]
theorem BE(h:n+x.length<=c.length):(bU c n x).length=c.length:=by
 unfold bU;simp only[length_append,length_take,lM,length_drop];omega
theorem AI.Hi{c:Nat}{l:List Nat}(r:AI h k n m c l){lo hi:Nat}(f:lo<=hi)(i:hi<=m):bE SS.P 260 (.slice (some ⟨k,n,none⟩) m c) (some (.int .i64 (lo:Int))) (some (.int .i64 (hi:Int))) none h=some (.slice (some ⟨k,n+lo,none⟩) (hi-lo) (c-lo)):=by
 obtain⟨cs,g,a,rfl,e,j⟩:=r;unfold bE;dsimp only;rw[zj];dsimp only[dH];rw[CR,a];dsimp only;have b:((hi:Int)-(lo:Int)).toNat=hi-lo:=by omega
 have d:((lo:Nat):Int).toNat=lo:=by omega
 rw[if_pos (by simp),if_pos (by omega),b,d,mul_one]
structure aaD(h2 G:aa)(ku kv kq:Nat)(cu:List Value)(cv:List Value)(U Ql:List Nat)(N m XK V j:Nat):Prop where
 ok:Ok h2 G
 w2:Wf h2
 u2:h2.next<=ku
 q2:h2.next<=kq
 gu:G.get ku=some (.cells (bU cu 0 U) 240 1 true)
 gv:G.get kv=some (.cells cv 240 1 true)
 gq:G.get kq=some (.cells (bU ((List.replicate (N+1-m) 0).map uv) 0 Ql) 240 1 true)
 uv':ku≠kv
 uq:ku≠kq
 vq:kv≠kq
 ul:U.length=N+1
 cl:N+1<=cu.length
 abH:Ql.length=N+1-m
 ZO:(cv.take (aF BB V).length)=bl V
 inv:fX BB m V XK U Ql j
end Go.Proofs.YtnlccnpbjeiccaaGreatDoor
end
section
set_option linter.defProp false
namespace Go.Proofs.YtnlccnpbjeiccaaGreatDoor
open Go Go.Ab Go.Num
variable{h:aa}{k:Nat}{n:Nat}{d:List Value}{g:aa}
def E6(h:aa)(X Y:Nat):VH:=λv a=>∃(g:Option Addr)(b e:Nat)(d:Option Addr)(c f:Nat),v = .tuple ⟨[.slice g b e,.slice d c f]⟩/\Rd a 240 (.slice g b e) (bl (X/Y))/\Rd a 240 (.slice d c f) (bl (X%Y))/\Ok h a
theorem An{c:Nat}{l:List Nat}(b:h.get k=some (.cells (bU d 0 l) 240 1 true))(a:n=l.length)(e:n<=aW c):AI h k 0 n c l:=by
 refine⟨_,_,b,a,?_,e⟩;subst a;rw[nW (by omega),drop_zero,take_length]
theorem ye{c:Nat}{l:List Nat}(r:AI g k 0 n c l)(b:∀d∈l,d<BB):Rd g 240 (.slice (some ⟨k,0,none⟩) (cM l).length c) (bl (Num.bv BB l)):=by
 obtain⟨e,i⟩:=uL l;have f:n=l.length:=by obtain⟨_,_,_,h,_⟩:=r;exact h
 have a:=(r.take (j:=(cM l).length) (by omega)).2.rd;rw[e,iS eY b]at a;rw[iS eY b];exact a
def XI{h:aa}(w:Wf h){X Y ku kq f rc L k R:Nat}{C Zq:List Value}{Ql:List Nat}(G:h.next<=ku)(x3:h.next<=kq)(N:ku≠kq)(x6:f<=C.length)(x0:f<=10000)(V:L=Ql.length)(x4:L<=10000)(E:f<=aW rc)(u:L<=aW L)(v:0<k)(kB:k<=BB)
  (hQ:∀d∈Ql,d<BB) (Z:Num.bv BB Ql=X/Y) (hr:R/k=X%Y) (a:Option Addr) (n c:Nat) (b:Option Addr) (m d:Nat):=
 qU a n c b m d (k:Int) (some ⟨kq,0,none⟩) L L (some ⟨ku,0,none⟩) f rc (f:Int)
  (λD i left g=>i<=f/\D=f-i/\(∃(r:List Nat)(q:Nat),r.length=f/\left=(q:Int)/\iR BB k R r (f-i) q/\g.get ku=some (.cells (bU C 0 r) 240 1 true))/\g.get kq=some (.cells (bU Zq 0 Ql) 240 1 true)/\Ok h g) (E6 h X Y) (by
  intro D i left;intros;rename_i g hi;obtain⟨h1,h2,⟨r,q,j,rfl,l,y⟩,B,S⟩:=hi;have P:BB=1000000000:=rfl;have J:wrap .i64 ((f:Int)-1)=(f:Int)-1:=aO (by omega) (by omega);have F:wrap .i64 ((f:Int)-1-(i:Int))=(f:Int)-1-(i:Int):=aO (by omega) (by omega);have H:wrap .i64 ((i:Int)+1)=((i+1:Nat):Int):=by rw[aO (by omega) (by omega)];omega
  rw[J,F,H];refine ah (λs=>?_) (λs=>?_)
  ·have s:=dT s;have Q:((f:Int)-1-(i:Int)).toNat=f-1-i:=by omega
   have W:=BG y (by rw[j];omega) (i:=f-1-i) (by rw[j];omega);have x2:=l.lt;have x5:r.getD (f-1-i) 0<BB:=bo (by decide) l.rl _;obtain⟨o,A⟩:∃x,x=q*BB:=⟨_,rfl⟩
   have x1:o=1000000000*q:=by rw[A,P,mul_comm]
   have T:wrap .u64 ((q:Int)*1000000000)=(o:Int):=wU (by omega) (by omega);have U:wrap .u64 ((o:Int)+((r.getD (f-1-i) 0:Nat):Int))=((o+r.getD (f-1-i) 0:Nat):Int):=wU (by omega) (by omega);refine⟨_,vE (by omega) (by omega),_,by rw[Q];exact W,?_⟩;dsimp only;rw[T,U];refine⟨_,UM (by omega) v,_,aaw v,_,vE (by omega) (by omega),?_⟩;have K:=Cr (g:=room g 11) y (by rw[j];omega) (i:=f-1-i) (by rw[j];omega) ((o+r.getD (f-1-i) 0)/k);have z:=S.room 11;have O:=z.wf _ _ (show(room g 11).get ku=_ from y);refine⟨_,by rw[Q];exact K,?_⟩;have p:=iR.step (at':=f-1-i) v (by rw[show f-1-i+1=f-i by omega];exact l);rw[<-A]at p;refine ju (D-1) (by omega) ⟨by omega,by omega,⟨r.set (f-1-i) ((o+r.getD (f-1-i) 0)/k),(o+r.getD (f-1-i) 0)%k,by rw[length_set,j],rfl,by rw[show f-(i+1)=f-1-i by omega];exact p,?_⟩,?_,z.set _ G O w⟩
   ·show((room g 11).set ku _).get ku=_;rw[aa.ay,if_pos rfl]
   ·show((room g 11).set ku _).get kq=_;rw[aa.ay,if_neg (λe=>N e.symm)];exact B
  ·have s:=dF s;obtain rfl:i=f:=by omega
   rw[Nat.sub_self]at l;have t:=l.done v;have I:=An B V u;have M:=An y j.symm E;refine(nH I (by omega)).mono ?_;rintro _ _ ⟨rfl,rfl⟩;refine⟨_,_,_,rfl,(nH M (by omega)).mono ?_⟩;rintro _ _ ⟨rfl,rfl⟩;refine⟨_,_,_,rfl,_,_,_,_,_,_,rfl,?_,?_,S⟩
   ·have:=ye I hQ;rw[Z]at this;exact this
   ·have:=ye M l.rl;rw[t,hr]at this;exact this)
theorem Ok.but{b:aa}(o:Ok h g)(w:Wf h)(x:HJ g k b)(c:h.next<=k):Ok h b:=
 ⟨x.wf,λj B a=>x.jO j B (λe=>by have:=w _ _ a;omega) (o.ext j B a),Nat.le_trans o.nx x.nx⟩
def XJ{h2:aa}{X Y N m L k ku kv kq ec:Nat}{cu cv:List Value}(hY:0<Y)(hm:0<m)(y4:m<=N)(hN:N<=5000)(hL:L=N+1-m)(u:0<k)(kB:k<=BB)(o:(aF BB (Y*k)).length=m)(H:Y*k<=BB^m)(a:Option Addr)(n c:Nat)(b:Option Addr)(d:Nat):=
 qT a n c b m d (k:Int) (some ⟨kq,0,none⟩) L L (some ⟨ku,0,none⟩) (N+1) (cj+cu.length) (some ⟨kv,0,none⟩) m ec (L:Int)
  (λO i G=>i<=L/\O=L-i/\∃U j:List Nat,aaD h2 G ku kv kq cu cv U j N m (X*k) (Y*k) (L-i)) (E6 h2 X Y) (by
  intro O i;intros;rename_i G hi;obtain⟨h1,y2,U,j,D⟩:=hi;have M:0<Y*k:=mul_pos hY u;have x4:wrap .i64 ((L:Int)-1)=(L:Int)-1:=aO (by omega) (by omega);have x2:wrap .i64 ((i:Int)+1)=((i+1:Nat):Int):=by rw[aO (by omega) (by omega)];omega
  have s:aW (cj+cu.length)=cu.length:=by unfold aW;rw[if_pos (by omega)];omega
  have y1:=D.ul;have K:=D.cl;have F:=D.abH;have ru:=An (c:=cj+cu.length) D.gu y1.symm (by rw[s];exact K);rw[x4];refine ah (λv=>?_) (λv=>?_)
  ·have v:=dT v;obtain⟨f,y3⟩:∃x,x=L-1-i:=⟨_,rfl⟩
   have Z:wrap .i64 ((L:Int)-1-(i:Int))=(f:Int):=by rw[aO (by omega) (by omega)];omega
   have x9:wrap .i64 ((f:Int)+(m:Int))=((f+m:Nat):Int):=by rw[aO (by omega) (by omega)];omega
   have x1:wrap .i64 (((f+m:Nat):Int)+1)=((f+m+1:Nat):Int):=by rw[aO (by omega) (by omega)];omega
   rw[Z,x9,x1,x2];have h:fX BB m (Y*k) (X*k) U j (f+1):=by rw[show f+1=L-i by omega];exact D.inv
   obtain⟨w1,w2,t⟩:=h.Hi eY H;have r:=ru.Hi (lo:=f) (hi:=f+m+1) (by omega) (by omega);rw[show f+m+1-f=m+1 by omega,zero_add]at r;refine⟨_,_,_,r,?_⟩;have P:(bU cu 0 U).length=cu.length:=BE (by omega);have DI:ZW G ku f (cj+cu.length-f) m (bU cu 0 U) ((U.drop f).take (m+1)) (aF BB (Y*k)) (some ⟨kv,0,none⟩) ec:={
    w:=D.ok.wf
    get:=by
     rw[kU (by rw[t];exact nW (by omega))];exact D.gu
    fit:=by rw[t,P];omega
    ul:=t
    vl:=o
    mp:=hm
    mle:=by omega
    ult:=λx A=>h.ul x (List.mem_of_mem_drop (List.mem_of_mem_take A))
    vlt:=cr eY _
    v1:=by have:=DH eY M;rwa[o]at this
    lt:=by rw[bK eY];exact w2
    rd:=λg og=> .inr ⟨kv,0,cv,ec,true,by rw[lM,o],og.jO _ _ (λe=>D.uv' e.symm) D.gv,by rw[drop_zero,lM];exact D.ZO⟩ }
   refine(Ja DI).mono ?_;rintro _ V ⟨W',z,x8,l,rfl,S,p⟩;rw[bK eY]at l;have x6:Num.bv BB ((U.drop f).take (m+1))/Num.bv BB (aF BB (Y*k))=Num.bv BB ((U.drop f).take (m+1))/(Y*k):=by rw[bK eY]
   rw[x6];have y0:Num.bv BB ((U.drop f).take (m+1))/(Y*k)<BB:=div_lt_of_lt_mul (by rw[mul_comm];exact w2);have J:=p.jO _ _ (λe=>D.uq e.symm) D.gq;have x3:=p.jO _ _ (λe=>D.uv' e.symm) D.gv;have I:=Ok.but D.ok D.w2 p D.u2;have x0:((List.replicate (N+1-m) 0).map uv).length=N+1-m:=by rw[lM,length_replicate]
   have x5:=Cr J (by rw[x0];omega) (i:=f) (by omega) (Num.bv BB ((U.drop f).take (m+1))/(Y*k));have x7:=I.wf _ _ J;have E:=vE (k:=kq) (off:=0) (n:=L) (c:=L) (i:=(f:Int)) (by omega) (by omega);rw[toNat_natCast]at E;refine⟨_,rfl,_,E,_,x5,?_⟩;have y:Num.bv BB ((U.drop f).take (m+1))=Num.bv BB W'+Num.bv BB ((U.drop f).take (m+1))/(Y*k)*(Y*k):=by
    have h9:=Nat.mod_add_div (Num.bv BB ((U.drop f).take (m+1))) (Y*k);rw[mul_comm (Y*k)]at h9;rw[l];exact h9.symm
   have T:=h.step eY H x8 z y0 y (by rw[l];exact mod_lt _ M);refine cG (O-1) (by omega) ⟨by omega,by omega,U.take f++W'++U.drop (f+(m+1)),j.set f (Num.bv BB ((U.drop f).take (m+1))/(Y*k)),{
    ok:=I.set _ D.q2 x7 D.w2
    w2:=D.w2
    u2:=D.u2
    q2:=D.q2
    gu:= ?_
    gv:= ?_
    gq:= ?_
    uv':=D.uv'
    uq:=D.uq
    vq:=D.vq
    ul:= ?_
    cl:=K
    abH:=by rw[length_set];exact F
    ZO:=D.ZO
    inv:=by rw[show L-(i+1)=f by omega];exact T }⟩
   ·show(V.set kq _).get ku=_;rw[aa.ay,if_neg D.uq,S,C8 (W:=(U.drop f).take (m+1)) (by omega) (by omega) (by rw[z,t]) (by rw[t]),z]
   ·show(V.set kq _).get kv=_;rw[aa.ay,if_neg D.vq];exact x3
   ·show(V.set kq _).get kq=_;rw[aa.ay,if_pos rfl]
   ·simp only[length_append,length_take,length_drop,z];omega
  ·have v:=dF v;obtain rfl:i=L:=by omega
   have h:=D.inv;rw[Nat.sub_self]at h;obtain⟨d1,d2⟩:=h.done;obtain⟨e1,e2⟩:=zy (X:=X) (Y:=Y) u;rw[e1]at d1;rw[e2]at d2;have q:=h.ul;obtain⟨t1,t2⟩:=uL U;refine(nH ru (by omega)).mono ?_;rintro _ _ ⟨rfl,rfl⟩;refine⟨_,_,_,rfl,?_⟩;have P:(bU cu 0 U).length=cu.length:=BE (by omega);have B:aW (N+1-m)=N+1-m:=by unfold aW;rw[if_neg (by unfold cj;omega)]
   have Q:Num.bv BB (cM U)=X%Y*k:=by rw[iS eY q,bK eY,d2]
   subst hL;rename_i G';refine XI D.w2 (X:=X) (Y:=Y) (ku:=ku) (kq:=kq) (rc:=cj+cu.length) (k:=k) (R:=X%Y*k) (C:=bU cu 0 U) (Zq:=(List.replicate (N+1-m) 0).map uv) (Ql:=j) D.u2 D.q2 D.uq (by rw[P];omega) (by omega) F.symm (by omega) (by rw[s];omega) (by rw[B];exact Nat.le_refl _) u kB h.ql d1 (Nat.mul_div_cancel _ u) a n c b m d _ (i:=0)
    ⟨zero_le _,rfl,⟨cM U,0,rfl,rfl,⟨λx A=>q x (by rw[<-t1]at A;exact List.mem_of_mem_take A),by omega,u,?_⟩,?_⟩,D.gq,D.ok⟩
   ·rw[Nat.sub_zero,List.drop_length,take_length,Q];simp[Num.bv]
   ·rw[kU (by rw[nW (by omega),drop_zero,t1])];exact D.gu)
end Go.Proofs.YtnlccnpbjeiccaaGreatDoor
end
section
namespace Go.Proofs.YtnlccnpbjeiccaaGreatDoor
open Go Go.Ab Go.Num
variable{h:aa}{a:Option Addr}{n:Nat}{j:Nat}{l:Nat}
theorem Gk{b:Option Addr}{c:Nat}{X Y:Nat}(V:Rd h 240 (.slice a n c) (bl X))(T:Rd h 240 (.slice b j l) (bl Y))(hY:0<Y)(hN:(aF BB X).length<=5000)(hM:(aF BB Y).length<=5000)(w:Wf h):
  FW SS 238 [.slice a n c,.slice b j l] h (E6 h X Y):=by
 have z7:BB=1000000000:=rfl;have hn:n=(aF BB X).length:=by have:=V.len;rwa[lM]at this
 have y0:j=(aF BB Y).length:=by have:=T.len;rwa[lM]at this
 obtain⟨f1,f2,s,C,f5,G⟩:=RT eY hY;rw[<-y0]at f1 f2 s C f5 G;generalize x6:(aF BB Y).getD (j-1) 0=v at f2 s C G;generalize y2:BB/(v+1)=k at s C G;refine Gj a n c b j l h _ ((nY V T (by omega) w).mono ?_);rintro _ h2 ⟨rfl,f⟩;refine⟨_,rfl,ah (λz=>?_) (λz=>?_)⟩
 ·have z:=tz.1 (dT z);refine⟨_,_,_,_,_,_,rfl,.inl ⟨rfl,?_⟩,?_,f⟩
  ·rw[Nat.div_eq_of_lt z];show(aF BB 0).map uv=[];rw[ew];rfl
  ·rw[Nat.mod_eq_of_lt z];exact V.ok f
 ·have z5:Y<=X:=by
   rcases lt_or_ge X Y with h|h
   ·exact absurd (tz.2 h) (dF z)
   ·exact h
  have hX:0<X:=by omega
  have x4:j<=n:=by
   rcases lt_or_ge n j with h|h
   ·have:=jo eY (m:=X) (n:=Y) (by omega);omega
   ·exact h
  have y1:wrap .i64 ((j:Int)-1)=((j-1:Nat):Int):=by rw[aO (by omega) (by omega)];omega
  have hj:((j-1:Nat):Int).toNat=j-1:=by omega
  obtain⟨p,g2,g3⟩:=DV (T.ok f) (i:=((j-1:Nat):Int)) (by omega) (by omega);rw[hj,x6]at g3;have et:wrap .u64 ((v:Int)+1)=((v+1:Nat):Int):=wU (by omega) (by omega);have x5:ax SS.P .quo 240 (.int .u64 1000000000) (.int .u64 ((v+1:Nat):Int))=some (.int .u64 (k:Int)):=by
   have:=UM (a:=BB) (b:=v+1) (by decide) (by omega);rw[y2]at this;exact this
  rw[y1];refine⟨p,g2,_,g3,?_⟩;dsimp only;rw[et];refine⟨_,x5,?_⟩;refine(vU (V.ok f) (cr eY X) (by omega) s C f.wf).mono ?_;rintro _ h8 ⟨a9,I,y7,rfl,R,E⟩;rw[bK eY]at R;refine⟨a9,I,y7,rfl,(vU ((T.ok f).ok E) (cr eY Y) (by omega) s C E.wf).mono ?_⟩;rintro _ z8 ⟨x8,d,O,rfl,ov,H⟩;rw[bK eY]at ov;refine⟨x8,d,O,rfl,?_⟩;have z6:0<Y*k:=mul_pos hY s;have J:(aF BB (Y*k)).length=j:=Fa eY G (Nat.le_trans f5 (Nat.le_mul_of_pos_right Y s)) f1;have q:(bl (Y*k)).length=j:=by rw[lM];exact J
  rcases ov with⟨_,e⟩|⟨A,cv,e,x7,gv,tv,lv⟩
  ·rw[e]at q;simp at q;omega
  injection e with e1 e2 e3
  subst e1;obtain rfl:d=j:=by rw[e2,q]
  rw[q]at tv;have B:=dV (cr eY X);rw[bK eY,<-hn]at B;have z3:0<X*k:=mul_pos hX s;have L1:=qS a n c b d l (k:Int) (some ⟨A,0,none⟩) d O
   (λmz r y rc g=>y<=n+1/\mz=n+1-y/\0<y/\∃U:List Nat,U.length=y/\fi h g 240 (.slice r y rc) (U.map uv)/\Ok h g/\(∀x∈U,x<BB)/\Num.bv BB U=X*k/\g.get A=some (.cells cv 240 1 true)/\(∀o n c,Value.slice r y rc≠ .slice (some ⟨A,o,none⟩) n c)) (E6 h X Y) (by
   intro mz r y rc;intros;rename_i g hi;obtain⟨z,z4,h3,U,D,o,ok,x1,x3,F,M⟩:=hi;refine ah (λQ=>?_) (λQ=>?_)
   ·have Q:=dT Q;refine⟨_,_,_,qf _,?_⟩;obtain⟨b',m',d',u,g6,g7,g8,g9,y6,y5⟩:=fi.adW (P:=SS.P) (t:=260) (x:= .int .u64 0) zj JD Cf w ok o rfl (by rw[zd,lM];omega) (by rw[lM];omega);rw[lM,D]at g7;subst g7;refine⟨b',_,d',u,g6,IM (mz-1) (by omega) ⟨by omega,by omega,by omega,U++[0],by simp[D],?_,g9,?_,?_,y6 _ _ F M,?_⟩⟩
    ·rw[map_append];exact g8
    ·intro x K;rcases List.mem_append.1 K with K|K
     ·exact x1 x K
     ·rw[List.mem_singleton.1 K];decide
    ·rw[oj,x3];simp
    ·intro o' n' c' e;rcases y5 _ _ _ _ e with h7|⟨o2,n2,c2,h7⟩
     ·have:=ok.wf _ _ F;omega
     ·exact M _ _ _ h7
   ·have Q:=dF Q;obtain rfl:y=n+1:=by omega
    rcases o with⟨_,e⟩|⟨Z,W,e,x2,gu,tu,lu⟩
    ·have:=congrArg List.length e;rw[lM,D]at this;have h9:n+1=0:=this;omega
    rw[lM,D]at e tu lu;injection e with e1 _ e3
    subst e1;subst e3;have y4:wrap .i64 (((n+1:Nat):Int)-(d:Int))=((n+1-d:Nat):Int):=by rw[aO (by omega) (by omega)];omega
    rw[y4];refine⟨_,_,_,aaq _ (by omega),?_⟩;have z2:=ok.wf _ _ gu;have z1:=ok.wf _ _ F;have x9:Z≠A:=λe=>M 0 (n+1) (cj+W.length) (by rw[e]);have S:((List.replicate (n+1-d) 0).map uv).length=n+1-d:=by rw[lM,length_replicate]
    exact XJ (h2:=h) (X:=X) (Y:=Y) (N:=n) (m:=d) (L:=n+1-d) (k:=k) (ku:=Z) (kv:=A) (kq:=g.next) (ec:=O) (cu:=W) (cv:=cv) hY f1 x4 (by omega) rfl s C J (le_of_lt G) a n c b l (n+1-d) (i:=0)
     ⟨zero_le _,rfl,U,List.replicate (n+1-d) 0,{
      ok:=ok.push _
      w2:=w
      u2:=x2
      q2:=ok.nx
      gu:=by
       rw[aa.aN,if_neg (by omega),kU (by rw[drop_zero,D];exact tu)];exact gu
      gv:=by rw[aa.aN,if_neg (by omega)];exact F
      gq:=by
       rw[aa.aN,if_pos rfl,kU (by rw[drop_zero,length_replicate,take_of_length_le (by rw[S];exact Nat.le_refl _)])]
      uv':=x9
      uq:=by omega
      vq:=by omega
      ul:=D
      cl:=lu
      abH:=by rw[length_replicate]
      ZO:=by rw[J];exact tv
      inv:=fX.start eY x1 D x4 B f5 f1 s x3 }⟩)
  have y3:=fi.aen f.nx R;have x0:I=(aF BB (X*k)).length:=by have:=R.len;rwa[lM]at this
  have y8:h8.next<=A:=x7;have z0:(aF BB (X*k)).length<=n+1:=by
   refine jm eY ?_;rw[pow_succ];exact lt_of_lt_of_le (Nat.mul_lt_mul_of_pos_right B s) (Nat.mul_le_mul_left _ C)
  have y9:0<(aF BB (X*k)).length:=List.length_pos_iff.2 λe=>by have:=(fK eY).1 e;omega
  refine L1 (n+1-I) ⟨by omega,rfl,by omega,aF BB (X*k),x0.symm,y3.ok H,(f.trans E).trans H,cr eY _,bK eY _,gv,?_⟩;intro o n' c' e;rcases R with⟨e',_⟩|⟨Z,W,e',x2,gu,_,_⟩
  ·rw[e']at e;injection e with e;cases e
  ·rw[e']at e;injection e with e _ _
   injection e with e
   injection e with e
   have:=E.wf _ _ gu;omega
abbrev fH:LB:=[0,1,2,2,3,3,3,3,4,4,4,4,4,4,4,4,5,5,5,5,5,5,5,5,5,5,5,5,5,5,5,5,6,6,6,6,6,6,6,6,6,6,6,6,6,6,6,6,6,6,6,6,6,6,6,6,6,6,6,6,6,6,6,6,7,7,7,7,7,7,7,7,7,7,7,7,7,7,7,7,7,7,7,7,7,7,7,7,7,7,7,7,7,7,7,7,7,7,7,7,7,7,7,7,7,7,7,7,7,7,7,7,7,7,7,7,7,7,7,7,7,7,7,7,7,7,7,7,8,8,8,8,8,8,8,8,8,8,8,8,8,8,8,8,8,8,8,8,8,8,8,8,8,8,8,8,8,8,8,8,8,8,8,8,8,8,8,8,8,8,8,8,8,8,8,8,8,8,8,8,8,8,8,8,8,8,8,8,8,8,8,8,8,8,8,8,8,8,8,8,8,8,8,8,8,8,8,8,8,8,8,8,8,8,8,8,8,8,8,8,8,8,8,8,8,8,8,8,8,8,8,8,8,8,8,8,8,8,8,8,8,8,8,8,8,8,8,8,8,8,8,8,8,8,8,8]
noncomputable def Yx:FD:=dY Tryz.f186 []
theorem TI(u:Int)(h:aa)(Q:VH)(m:aS (decide ((u:Int)>=4294967296)) (xI .u64 (ax SS.P .shr 240 (.int .u64 u) (.int .u64 32)) λa=>aS (decide ((a:Int)>=65536)) (xI .u64 (ax SS.P .shr 240 (.int .u64 a) (.int .u64 16)) λc=>aS (decide ((c:Int)>=256)) (xI .u64 (ax SS.P .shr 240 (.int .u64 c) (.int .u64 8)) λl=>xI .u8 (bH SS.P 9 (strOf fH) (.int .u8 (wrap .u8 l))) λq=>Q (.int .i64 (wrap .i64 (wrap .i64 (wrap .i64 (32+16)+8)+wrap .i64 q))) h) (xI .u8 (bH SS.P 9 (strOf fH) (.int .u8 (wrap .u8 c))) λk=>Q (.int .i64 (wrap .i64 (wrap .i64 (32+16)+wrap .i64 k))) h)) (aS (decide ((a:Int)>=256)) (xI .u64 (ax SS.P .shr 240 (.int .u64 a) (.int .u64 8)) λn=>xI .u8 (bH SS.P 9 (strOf fH) (.int .u8 (wrap .u8 n))) λo=>Q (.int .i64 (wrap .i64 (wrap .i64 (32+8)+wrap .i64 o))) h) (xI .u8 (bH SS.P 9 (strOf fH) (.int .u8 (wrap .u8 a))) λp=>Q (.int .i64 (wrap .i64 (32+wrap .i64 p))) h))) (aS (decide ((u:Int)>=65536)) (xI .u64 (ax SS.P .shr 240 (.int .u64 u) (.int .u64 16)) λb=>aS (decide ((b:Int)>=256)) (xI .u64 (ax SS.P .shr 240 (.int .u64 b) (.int .u64 8)) λg=>xI .u8 (bH SS.P 9 (strOf fH) (.int .u8 (wrap .u8 g))) λi=>Q (.int .i64 (wrap .i64 (wrap .i64 (wrap .i64 (0+16)+8)+wrap .i64 i))) h) (xI .u8 (bH SS.P 9 (strOf fH) (.int .u8 (wrap .u8 b))) λj=>Q (.int .i64 (wrap .i64 (wrap .i64 (0+16)+wrap .i64 j))) h)) (aS (decide ((u:Int)>=256)) (xI .u64 (ax SS.P .shr 240 (.int .u64 u) (.int .u64 8)) λe=>xI .u8 (bH SS.P 9 (strOf fH) (.int .u8 (wrap .u8 e))) λd=>Q (.int .i64 (wrap .i64 (wrap .i64 (0+8)+wrap .i64 d))) h) (xI .u8 (bH SS.P 9 (strOf fH) (.int .u8 (wrap .u8 u))) λf=>Q (.int .i64 (wrap .i64 (0+wrap .i64 f))) h)))):FW SS 186 [(.int .u64 u)] h Q:=eh Yx Tryz.func186 (av m)
noncomputable def I1:FD:=dY Tryz.f298 []
theorem Gc(n:Int)(h:aa)(Q:VH)(b:xI .i64 (ax SS.P .shr 3 (.int .i64 (wrap .i64 (n*78913))) (.int .u64 18)) λa=>Q (.int .i64 a) h):FW SS 298 [(.int .i64 n)] h Q:=eh I1 Tryz.func298 (av b)
noncomputable def Xj:FD:=dY Tryz.f299 []
theorem Ss(b:Bool)(h:aa)(Q:VH)(a:aS b (Q (.int .i64 1) h) (Q (.int .i64 0) h)):FW SS 299 [(.bool b)] h Q:=eh Xj Tryz.func299 (av a)
noncomputable def Jj:FD:=dY Tryz.f293 []
theorem Gv(u:Int)(h:aa)(Q:VH)(g:FW SS 186 [(.int .u64 u)] h λm i=>yI .i64 m λe=>FW SS 298 [(.int .i64 e)] i λf d=>yI .i64 f λa=>xP (ai SS.P 328 (pA 1) (.int .i64 a)) λj=>xI .u64 (ae SS.P 240 d (.pointer (some j))) λl=>FW SS 299 [(.bool (decide ((u:Int)>=l)))] d λk c=>yI .i64 k λb=>Q (.int .i64 (wrap .i64 (a+b))) c):FW SS 293 [(.int .u64 u)] h Q:=eh Jj Tryz.func293 (av g)
abbrev bM:LB:=[48,48,48,49,48,50,48,51,48,52,48,53,48,54,48,55,48,56,48,57,49,48,49,49,49,50,49,51,49,52,49,53,49,54,49,55,49,56,49,57,50,48,50,49,50,50,50,51,50,52,50,53,50,54,50,55,50,56,50,57,51,48,51,49,51,50,51,51,51,52,51,53,51,54,51,55,51,56,51,57,52,48,52,49,52,50,52,51,52,52,52,53,52,54,52,55,52,56,52,57,53,48,53,49,53,50,53,51,53,52,53,53,53,54,53,55,53,56,53,57,54,48,54,49,54,50,54,51,54,52,54,53,54,54,54,55,54,56,54,57,55,48,55,49,55,50,55,51,55,52,55,53,55,54,55,55,55,56,55,57,56,48,56,49,56,50,56,51,56,52,56,53,56,54,56,55,56,56,56,57,57,48,57,49,57,50,57,51,57,52,57,53,57,54,57,55,57,56,57,57]
noncomputable def Zv:FD:=dY Tryz.f292 []
theorem Vn(n:Int)(h:aa)(Q:VH)(a:aS (decide ((n:Int)<10)) (xS (bE SS.P 9 (strOf [48,49,50,51,52,53,54,55,56,57,97,98,99,100,101,102,103,104,105,106,107,108,109,110,111,112,113,114,115,116,117,118,119,120,121,122]) (some (.int .i64 n)) (some (.int .i64 (wrap .i64 (n+1)))) none h) λb=>Q (strOf b) h) (xS (bE SS.P 9 (strOf bM) (some (.int .i64 (wrap .i64 (n*2)))) (some (.int .i64 (wrap .i64 (wrap .i64 (n*2)+2)))) none h) λc=>Q (strOf c) h)):FW SS 292 [(.int .i64 n)] h Q:=eh Zv Tryz.func292 (av a)
noncomputable def po:FD:=dY Tryz.f294 [([1,0,0,0],[0,1,4])]
abbrev kz(a:OA)(n c:Nat)(i:Nat)(v:Int):LV:=[(.slice a n c),(.int .u64 v),(iA i)]
theorem Tk(a:OA)(n c:Nat)(u:Int)(h:aa)(Q:VH)(b:LL SS po [1,0,0,0] (kz a n c n u) h (KK SS po [1,0,0] [] (EE SS po Q))):FW SS 294 [(.slice a n c),(.int .u64 u)] h Q:=eh po Tryz.func294 (av b)
theorem xz(a:OA)(n c:Nat)(u:Int)  (e:Nat->Nat->Int->aa->Prop) (Q:VH) (step:∀(d:Nat)(i:Nat)(v:Int)(zz:Nat->Value)(h:aa),e d i v h->aS (decide (((i:Int):Int)>=8)) (xI .u64 (ax SS.P .rem 240 (.int .u64 v) (.int .u64 100000000)) λU=>xI .u64 (ax SS.P .quo 240 (.int .u64 v) (.int .u64 100000000)) λn2=>xI .u32 (ax SS.P .quo 238 (.int .u32 (wrap .u32 U)) (.int .u32 10000)) λJ=>xI .u32 (ax SS.P .rem 238 (.int .u32 (wrap .u32 U)) (.int .u32 10000)) λn4=>xI .u32 (ax SS.P .quo 238 (.int .u32 n4) (.int .u32 100)) λF=>xI .u32 (ax SS.P .rem 238 (.int .u32 n4) (.int .u32 100)) λn6=>xI .u32 (ax SS.P .quo 238 (.int .u32 J) (.int .u32 100)) λn7=>xI .u32 (ax SS.P .rem 238 (.int .u32 J) (.int .u32 100)) λn8=>xI .u8 (bH SS.P 9 (strOf bM) (.int .u32 (wrap .u32 (wrap .u32 (n6*2)+1)))) λn9=>xI .u8 (bH SS.P 9 (strOf bM) (.int .u32 (wrap .u32 (n6*2)))) λx1=>xP (ai SS.P 183 (.slice a n c) (.int .i64 (wrap .i64 ((i:Int)-1)))) λy4=>xU (aj SS.P 5 (.pointer (some y4)) (.int .u8 n9) (room h 15)) (room h 15) λv4 l=>xP (ai SS.P 183 (.slice a n c) (.int .i64 (wrap .i64 ((i:Int)-2)))) λW=>xU (aj SS.P 5 (.pointer (some W)) (.int .u8 x1) l) l λv2 m=>xI .u8 (bH SS.P 9 (strOf bM) (.int .u32 (wrap .u32 (wrap .u32 (F*2)+1)))) λz3=>xI .u8 (bH SS.P 9 (strOf bM) (.int .u32 (wrap .u32 (F*2)))) λX=>xP (ai SS.P 183 (.slice a n c) (.int .i64 (wrap .i64 ((i:Int)-3)))) λZ=>xU (aj SS.P 5 (.pointer (some Z)) (.int .u8 z3) (room m 15)) (room m 15) λu4 z=>xP (ai SS.P 183 (.slice a n c) (.int .i64 (wrap .i64 ((i:Int)-4)))) λL=>xU (aj SS.P 5 (.pointer (some L)) (.int .u8 X) z) z λz9 q=>xI .u8 (bH SS.P 9 (strOf bM) (.int .u32 (wrap .u32 (wrap .u32 (n8*2)+1)))) λM=>xI .u8 (bH SS.P 9 (strOf bM) (.int .u32 (wrap .u32 (n8*2)))) λy9=>xP (ai SS.P 183 (.slice a n c) (.int .i64 (wrap .i64 ((i:Int)-5)))) λz1=>xU (aj SS.P 5 (.pointer (some z1)) (.int .u8 M) (room q 15)) (room q 15) λz7 p=>xP (ai SS.P 183 (.slice a n c) (.int .i64 (wrap .i64 ((i:Int)-6)))) λT=>xU (aj SS.P 5 (.pointer (some T)) (.int .u8 y9) p) p λv0 t=>xI .u8 (bH SS.P 9 (strOf bM) (.int .u32 (wrap .u32 (wrap .u32 (n7*2)+1)))) λx0=>xI .u8 (bH SS.P 9 (strOf bM) (.int .u32 (wrap .u32 (n7*2)))) λR=>xP (ai SS.P 183 (.slice a n c) (.int .i64 (wrap .i64 ((i:Int)-7)))) λy8=>xU (aj SS.P 5 (.pointer (some y8)) (.int .u8 x0) (room t 15)) (room t 15) λv3 B=>xP (ai SS.P 183 (.slice a n c) (.int .i64 (wrap .i64 ((i:Int)-8)))) λz4=>xU (aj SS.P 5 (.pointer (some z4)) (.int .u8 R) B) B λz8 K=>aH (qu (kz a n c) e) d [(.slice a n c),(.int .u64 n2),(.int .i64 (wrap .i64 ((i:Int)-8)))] K) (aS (decide (((i:Int):Int)>=4)) (xI .u32 (ax SS.P .rem 238 (.int .u32 (wrap .u32 v)) (.int .u32 10000)) λA=>xI .u32 (ax SS.P .quo 238 (.int .u32 (wrap .u32 v)) (.int .u32 10000)) λf=>xI .u32 (ax SS.P .quo 238 (.int .u32 A) (.int .u32 100)) λC=>xI .u32 (ax SS.P .rem 238 (.int .u32 A) (.int .u32 100)) λo=>xI .u8 (bH SS.P 9 (strOf bM) (.int .u32 (wrap .u32 (wrap .u32 (o*2)+1)))) λY=>xI .u8 (bH SS.P 9 (strOf bM) (.int .u32 (wrap .u32 (o*2)))) λx4=>xP (ai SS.P 183 (.slice a n c) (.int .i64 (wrap .i64 ((i:Int)-1)))) λy6=>xU (aj SS.P 5 (.pointer (some y6)) (.int .u8 Y) (room h 15)) (room h 15) λu7 r=>xP (ai SS.P 183 (.slice a n c) (.int .i64 (wrap .i64 ((i:Int)-2)))) λG=>xU (aj SS.P 5 (.pointer (some G)) (.int .u8 x4) r) r λu9 w=>xI .u8 (bH SS.P 9 (strOf bM) (.int .u32 (wrap .u32 (wrap .u32 (C*2)+1)))) λH=>xI .u8 (bH SS.P 9 (strOf bM) (.int .u32 (wrap .u32 (C*2)))) λI=>xP (ai SS.P 183 (.slice a n c) (.int .i64 (wrap .i64 ((i:Int)-3)))) λx9=>xU (aj SS.P 5 (.pointer (some x9)) (.int .u8 H) (room w 15)) (room w 15) λu5 D=>xP (ai SS.P 183 (.slice a n c) (.int .i64 (wrap .i64 ((i:Int)-4)))) λy5=>xU (aj SS.P 5 (.pointer (some y5)) (.int .u8 I) D) D λu8 b=>aS (decide ((wrap .i64 ((i:Int)-4):Int)>=2)) (xI .u32 (ax SS.P .rem 238 (.int .u32 f) (.int .u32 100)) λy=>xI .u32 (ax SS.P .quo 238 (.int .u32 f) (.int .u32 100)) λy7=>xI .u8 (bH SS.P 9 (strOf bM) (.int .u32 (wrap .u32 (wrap .u32 (y*2)+1)))) λx3=>xI .u8 (bH SS.P 9 (strOf bM) (.int .u32 (wrap .u32 (y*2)))) λy2=>xP (ai SS.P 183 (.slice a n c) (.int .i64 (wrap .i64 (wrap .i64 ((i:Int)-4)-1)))) λz0=>xU (aj SS.P 5 (.pointer (some z0)) (.int .u8 x3) (room b 15)) (room b 15) λu0 k=>xP (ai SS.P 183 (.slice a n c) (.int .i64 (wrap .i64 (wrap .i64 ((i:Int)-4)-2)))) λV=>xU (aj SS.P 5 (.pointer (some V)) (.int .u8 y2) k) k λu6 j=>aS (decide ((wrap .i64 (wrap .i64 ((i:Int)-4)-2):Int)>0)) (xP (ai SS.P 183 (.slice a n c) (.int .i64 0)) λz2=>xU (aj SS.P 5 (.pointer (some z2)) (.int .u8 (wrap .u8 (wrap .u32 (48+y7)))) j) j λz5 x8=>Q (.tuple ⟨[]⟩) x8) (Q (.tuple ⟨[]⟩) j)) (aS (decide ((wrap .i64 ((i:Int)-4):Int)>0)) (xP (ai SS.P 183 (.slice a n c) (.int .i64 0)) λx6=>xU (aj SS.P 5 (.pointer (some x6)) (.int .u8 (wrap .u8 (wrap .u32 (48+f)))) b) b λu2 x2=>Q (.tuple ⟨[]⟩) x2) (Q (.tuple ⟨[]⟩) b))) (aS (decide (((i:Int):Int)>=2)) (xI .u32 (ax SS.P .rem 238 (.int .u32 (wrap .u32 v)) (.int .u32 100)) λs=>xI .u32 (ax SS.P .quo 238 (.int .u32 (wrap .u32 v)) (.int .u32 100)) λx7=>xI .u8 (bH SS.P 9 (strOf bM) (.int .u32 (wrap .u32 (wrap .u32 (s*2)+1)))) λy3=>xI .u8 (bH SS.P 9 (strOf bM) (.int .u32 (wrap .u32 (s*2)))) λy0=>xP (ai SS.P 183 (.slice a n c) (.int .i64 (wrap .i64 ((i:Int)-1)))) λN=>xU (aj SS.P 5 (.pointer (some N)) (.int .u8 y3) (room h 15)) (room h 15) λz6 x=>xP (ai SS.P 183 (.slice a n c) (.int .i64 (wrap .i64 ((i:Int)-2)))) λx5=>xU (aj SS.P 5 (.pointer (some x5)) (.int .u8 y0) x) x λu1 g=>aS (decide ((wrap .i64 ((i:Int)-2):Int)>0)) (xP (ai SS.P 183 (.slice a n c) (.int .i64 0)) λS=>xU (aj SS.P 5 (.pointer (some S)) (.int .u8 (wrap .u8 (wrap .u32 (48+x7)))) g) g λv1 P=>Q (.tuple ⟨[]⟩) P) (Q (.tuple ⟨[]⟩) g)) (aS (decide (((i:Int):Int)>0)) (xP (ai SS.P 183 (.slice a n c) (.int .i64 0)) λO=>xU (aj SS.P 5 (.pointer (some O)) (.int .u8 (wrap .u8 (wrap .u32 (48+wrap .u32 v)))) h) h λu3 y1=>Q (.tuple ⟨[]⟩) y1) (Q (.tuple ⟨[]⟩) h))))) (d:Nat) {i:Nat} {v:Int} {h:aa} (E:e d i v h):LL SS po [1,0,0,0] (kz a n c i v) h (KK SS po [1,0,0] [] (EE SS po Q)):=
 oJ (kz a n c) e (λd i v zz h E=>av (step d i v zz h E)) d E
noncomputable def Lo:FD:=dY Tryz.f284 []
theorem IG(u:Int)(h:aa)(Q:VH)(t:aS (((10:Int)==10)) (aS (decide ((u:Int)<100)) (FW SS 292 [(.int .i64 (wrap .i64 u))] h λy v=>yS y λw=>Q (strOf w) v) (xN (aA SS.P 321) h λz x=>FW SS 293 [(.int .u64 u)] x λr l=>yI .i64 r λn=>xL (bE SS.P 321 (pA (h.next)) none (some (.int .i64 n)) none l) λs i p=>FW SS 294 [(.slice s i p),(.int .u64 u)] l λd a=>d=(.tuple ⟨[]⟩)/\xL (bE SS.P 321 (pA (h.next)) none (some (.int .i64 n)) none a) λe g k=>xS (Vz SS.P 183 9 (.slice e g k) a) λj=>Q (strOf j) a)) (FW SS 295 [nA,(.int .u64 u),(.int .i64 10),(.bool false),(.bool false)] h λf q=>∃(o:OA) (m c:Nat),∃b:LB,f=(.tuple ⟨[(.slice o m c),(strOf b)]⟩)/\Q (strOf b) q)):FW SS 284 [(.int .u64 u),(.int .i64 10)] h Q:=eh Lo Tryz.func284 (av t)
noncomputable def PE:FD:=dY Tryz.f262 []
theorem Lp(u:Int)(h:aa)(Q:VH)(a:FW SS 284 [(.int .u64 u),(.int .i64 10)] h λd b=>yS d λc=>Q (strOf c) b):FW SS 262 [(.int .u64 u),(.int .i64 10)] h Q:=eh PE Tryz.func262 (av a)
variable{P:Program}{g:aa}{m:Nat}
theorem MF{t:TypeId}{a:Int}(h:0<=a){s:Nat}(b:s<=64):ax P .shr t (.int .u64 a) (.int .u64 (s:Int))=some (.int .u64 (a/2^s)):=by
 show(if 0<=(s:Int)then some (Value.int .u64 (a.fdiv (2^(min (s:Int).toNat 64))))else none)=_;rw[if_pos (by omega),toNat_natCast,min_eq_left b,Int.fdiv_eq_ediv_of_nonneg _ (Int.le_of_lt (Int.pow_pos (by decide)))]
theorem Zu{t:TypeId}{a:Int}(h:0<=a){s:Nat}(b:s<=64):ax P .shr t (.int .i64 a) (.int .u64 (s:Int))=some (.int .i64 (a/2^s)):=by
 show(if 0<=(s:Int)then some (Value.int .i64 (a.fdiv (2^(min (s:Int).toNat 64))))else none)=_;rw[if_pos (by omega),toNat_natCast,min_eq_left b,Int.fdiv_eq_ediv_of_nonneg _ (Int.le_of_lt (Int.pow_pos (by decide)))]
def WD:List UInt8:=[0,1,2,2,3,3,3,3,4,4,4,4,4,4,4,4,5,5,5,5,5,5,5,5,5,5,5,5,5,5,5,5,6,6,6,6,6,6,6,6,6,6,6,6,6,6,6,6,6,6,6,6,6,6,6,6,6,6,6,6,6,6,6,6,7,7,7,7,7,7,7,7,7,7,7,7,7,7,7,7,7,7,7,7,7,7,7,7,7,7,7,7,7,7,7,7,7,7,7,7,7,7,7,7,7,7,7,7,7,7,7,7,7,7,7,7,7,7,7,7,7,7,7,7,7,7,7,7,8,8,8,8,8,8,8,8,8,8,8,8,8,8,8,8,8,8,8,8,8,8,8,8,8,8,8,8,8,8,8,8,8,8,8,8,8,8,8,8,8,8,8,8,8,8,8,8,8,8,8,8,8,8,8,8,8,8,8,8,8,8,8,8,8,8,8,8,8,8,8,8,8,8,8,8,8,8,8,8,8,8,8,8,8,8,8,8,8,8,8,8,8,8,8,8,8,8,8,8,8,8,8,8,8,8,8,8,8,8,8,8,8,8,8,8,8,8,8,8,8,8,8,8,8,8,8,8]
def SM:List UInt8:=[48,48,48,49,48,50,48,51,48,52,48,53,48,54,48,55,48,56,48,57,49,48,49,49,49,50,49,51,49,52,49,53,49,54,49,55,49,56,49,57,50,48,50,49,50,50,50,51,50,52,50,53,50,54,50,55,50,56,50,57,51,48,51,49,51,50,51,51,51,52,51,53,51,54,51,55,51,56,51,57,52,48,52,49,52,50,52,51,52,52,52,53,52,54,52,55,52,56,52,57,53,48,53,49,53,50,53,51,53,52,53,53,53,54,53,55,53,56,53,57,54,48,54,49,54,50,54,51,54,52,54,53,54,54,54,55,54,56,54,57,55,48,55,49,55,50,55,51,55,52,55,53,55,54,55,55,55,56,55,57,56,48,56,49,56,50,56,51,56,52,56,53,56,54,56,55,56,56,56,57,57,48,57,49,57,50,57,51,57,52,57,53,57,54,57,55,57,56,57,57]
theorem YC:((List.range 256).all λx=>(x==0&&(WD.getD x 0).toNat==0)||(Nat.ble 1 (WD.getD x 0).toNat&&Nat.ble (WD.getD x 0).toNat 8&&Nat.ble (2^((WD.getD x 0).toNat-1)) x&&Nat.blt x (2^(WD.getD x 0).toNat)))=true:=by kernel_rfl
theorem lt8{x:Nat}(h:x<256)(g:0<x):∃t,(WD.getD x 0).toNat=t+1/\t<8/\2^t<=x/\x<2^(t+1):=by
 have e:=all_eq_true.1 YC x (List.mem_range.2 h);have f:(x==0)=false:=by simp;omega
 rw[f]at e;simp only[Bool.false_and,Bool.false_or,Bool.and_eq_true,Nat.ble_eq,Nat.blt_eq]at e;obtain⟨⟨⟨a,b⟩,c⟩,d⟩:=e;refine⟨(WD.getD x 0).toNat-1,by omega,by omega,c,?_⟩;rwa[Nat.sub_add_cancel a]
theorem Ae{x:Int}(a:0<=x)(b:x<256):bH SS.P 9 (strOf WD) (.int .u8 (wrap .u8 x))=some (.int .u8 ((WD.getD x.toNat 0).toNat:Nat)):=by
 rw[yv a b];exact rS (by kernel_rfl) WD .u8 a (by show x<((256:Nat):Int);omega)
theorem abT:((List.range 100).all λx=>Nat.beq (SM.getD (2*x) 0).toNat (48+x/10)&&Nat.beq (SM.getD (2*x+1) 0).toNat (48+x%10))=true:=by kernel_rfl
theorem Vm{x:Nat}(h:x<100):(SM.getD (2*x) 0).toNat=48+x/10/\(SM.getD (2*x+1) 0).toNat=48+x%10:=by
 have a:=all_eq_true.1 abT x (List.mem_range.2 h);simp only[Bool.and_eq_true,Nat.beq_eq]at a;exact a
theorem TJ(k:0<n)(j:n<4294967296)(h:aa):FW SS 186 [.int .u64 (n:Int)] h (λv i=>i=h/\∃f:Nat,v = .int .i64 (f+1:Nat)/\f<32/\2^f<=n/\n<2^(f+1)):=by
 refine TI _ h _ (ah (λg=>absurd (dT g) (by omega)) λ_=>ah (λg=>?_) (λg=>?_))
 ·have g:=dT g;refine⟨_,MF (s:=16) (by omega) (by omega),ah (λa=>?_) (λa=>?_)⟩
  ·have a:=dT a;refine⟨_,MF (s:=8) (by omega) (by omega),_,Ae (by omega) (by omega),rfl,?_⟩;obtain⟨t,e,c,b,d⟩:=lt8 (x:=((n:Int)/2^16/2^8).toNat) (by omega) (by omega);rw[e];refine⟨t+24,?_,by omega,?_,?_⟩
   ·refine congrArg (Value.int .i64) ?_;simp only[wrap_i64];omega
   ·rw[pow_add];omega
   ·rw[show t+24+1=(t+1)+24 by omega,pow_add];omega
  ·have a:=dF a;refine⟨_,Ae (by omega) (by omega),rfl,?_⟩;obtain⟨t,e,c,b,d⟩:=lt8 (x:=((n:Int)/2^16).toNat) (by omega) (by omega);rw[e];refine⟨t+16,?_,by omega,?_,?_⟩
   ·refine congrArg (Value.int .i64) ?_;simp only[wrap_i64];omega
   ·rw[pow_add];omega
   ·rw[show t+16+1=(t+1)+16 by omega,pow_add];omega
 ·have g:=dF g;refine ah (λa=>?_) (λa=>?_)
  ·have a:=dT a;refine⟨_,MF (s:=8) (by omega) (by omega),_,Ae (by omega) (by omega),rfl,?_⟩;obtain⟨t,e,c,b,d⟩:=lt8 (x:=((n:Int)/2^8).toNat) (by omega) (by omega);rw[e];refine⟨t+8,?_,by omega,?_,?_⟩
   ·refine congrArg (Value.int .i64) ?_;simp only[wrap_i64];omega
   ·rw[pow_add];omega
   ·rw[show t+8+1=(t+1)+8 by omega,pow_add];omega
  ·have a:=dF a;refine⟨_,Ae (by omega) (by omega),rfl,?_⟩;obtain⟨t,e,c,b,d⟩:=lt8 (x:=((n:Int)).toNat) (by omega) (by omega);rw[e];refine⟨t,?_,by omega,by omega,by omega⟩;refine congrArg (Value.int .i64) ?_;simp only[wrap_i64];omega
def J5:List Value:=(List.range 20).map λi=>uv (10^i)
def rK(h:aa):Prop:=∃t a,h.get 1=some (.cells J5 t 0 a)
theorem rK.ok(t:rK h)(o:Ok h g):rK g:=let⟨k,a,e⟩:=t;⟨k,a,o.ext _ _ e⟩
theorem acN:SS.P.underlying 328=some (.array 20 240):=by kernel_rfl
theorem ab4(t:rK h){i:Int}(b:0<=i)(a:i<20):ai SS.P 328 (.pointer (some ⟨1,0,none⟩)) (.int .i64 i)=some (.pointer (some ⟨1,0+i.toNat*1,none⟩))/\ae SS.P 240 h (.pointer (some ⟨1,0+i.toNat*1,none⟩))=some (.int .u64 ((10^i.toNat:Nat):Int)):=by
 obtain⟨_,c,e⟩:=t;constructor
 ·unfold ai;rw[acN];dsimp only;rw[CR];dsimp only;rw[if_pos ⟨b,a⟩,cF,zero_add]
 ·unfold ae;rw[OK];dsimp only;rw[e];dsimp only;rw[Nw];simp only[Bool.false_eq_true,if_false];unfold J5;rw[zero_add,mul_one,getElem?_map,List.getElem?_range (by omega)];rfl
theorem Gw(B:100<=n)(x:n<1000000000){h:aa}(t:rK h):FW SS 293 [.int .u64 (n:Int)] h (λv o=>o=h/\∃a:Nat,v = .int .i64 (a+1:Nat)/\a<9/\10^a<=n/\n<10^(a+1)):=by
 refine Gv _ h _ ((TJ (by omega) (by omega) h).mono ?_);rintro _ g ⟨e,a,rfl,y,u,z⟩;have t:=e▸t;refine⟨_,rfl,Gc _ _ _ ⟨_,Zu (s:=18) ?_ (by omega),_,rfl,?_⟩⟩
 ·rw[aO (by omega) (by omega)];omega
 rw[aO (by omega) (by omega)];have D:a<30:=by
  rcases lt_or_ge a 30 with h|h
  ·exact h
  ·have:2^30<=2^a:=pow_le_pow_right (by omega) h;omega
 have C:6<=a:=by
  rcases lt_or_ge a 6 with h|h
  ·have:2^(a+1)<=2^6:=pow_le_pow_right (by omega) h;omega
  ·exact h
 obtain⟨p,k⟩:=ab4 t (i:=((a+1:Nat):Int)*78913/2^18) (by omega) (by omega);refine⟨_,p,_,k,Ss _ _ _ ?_⟩;have b:∀q:Nat,2<=q->q<=9->10^(q-1)<=n->n<10^(q+1)->((a+1:Nat):Int)*78913/2^18=(q:Int)->aS (decide (((n:Nat):Int)>=((10^(((a+1:Nat):Int)*78913/2^18).toNat:Nat):Int))) (∃c:Int,Value.int .i64 1 = .int .i64 c/\(g=h/\∃m:Nat,Value.int .i64 (wrap .i64 (((a+1:Nat):Int)*78913/2^18+c)) = .int .i64 (m+1:Nat)/\m<9/\10^m<=n/\n<10^(m+1))) (∃c:Int,Value.int .i64 0 = .int .i64 c/\(g=h/\∃m:Nat,Value.int .i64 (wrap .i64 (((a+1:Nat):Int)*78913/2^18+c)) = .int .i64 (m+1:Nat)/\m<9/\10^m<=n/\n<10^(m+1))):=by
  intro q A w f l r;rw[r,toNat_natCast];refine ah (λd=>?_) (λd=>?_)
  ·have d:=dT d;refine⟨1,rfl,e,q,?_,?_,by omega,l⟩
   ·rw[aO (by omega) (by omega)];rfl
   ·rcases lt_or_ge q 9 with h|h
    ·exact h
    ·have:q=9:=by omega
     subst this;omega
  ·have d:=dF d;refine⟨0,rfl,e,q-1,?_,by omega,f,by rw[Nat.sub_add_cancel (by omega)];omega⟩;rw[aO (by omega) (by omega),Nat.sub_add_cancel (by omega),Int.add_zero]
 have j:a=6\/a=7\/a=8\/a=9\/a=10\/a=11\/a=12\/a=13\/a=14\/a=15\/a=16\/a=17\/a=18\/a=19\/a=20\/a=21\/a=22\/a=23\/a=24\/a=25\/a=26\/a=27\/a=28\/a=29:=by omega
 rcases j with rfl|rfl|rfl|rfl|rfl|rfl|rfl|rfl|rfl|rfl|rfl|rfl|rfl|rfl|rfl|rfl|rfl|rfl|rfl|rfl|rfl|rfl|rfl|rfl
 all_goals first
  |exact b 2 (by omega) (by omega) (by omega) (by omega) (by omega)
  |exact b 3 (by omega) (by omega) (by omega) (by omega) (by omega)
  |exact b 4 (by omega) (by omega) (by omega) (by omega) (by omega)
  |exact b 5 (by omega) (by omega) (by omega) (by omega) (by omega)
  |exact b 6 (by omega) (by omega) (by omega) (by omega) (by omega)
  |exact b 7 (by omega) (by omega) (by omega) (by omega) (by omega)
  |exact b 8 (by omega) (by omega) (by omega) (by omega) (by omega)
  |exact b 9 (by omega) (by omega) (by omega) (by omega) (by omega)
theorem Vo(e:m<100)(h:aa):FW SS 292 [.int .i64 (m:Int)] h (λv f=>f=h/\v=strOf (aC m)):=by
 refine Vn _ h _ (ah (λg=>?_) (λg=>?_))
 ·have g:=dT g;rw[aO (by omega) (by omega)];refine⟨_,oK (by kernel_rfl) _ (a:=m) (b:=m+1) rfl rfl (by omega) (by simp;omega),rfl,?_⟩;rw[cX (by omega)];have:m=0\/m=1\/m=2\/m=3\/m=4\/m=5\/m=6\/m=7\/m=8\/m=9:=by omega
  rcases this with rfl|rfl|rfl|rfl|rfl|rfl|rfl|rfl|rfl|rfl<;>rfl
 ·have g:=dF g;rw[aO (n:=(m:Int)*2) (by omega) (by omega),aO (by omega) (by omega)];refine⟨_,oK (l:=SM) (by kernel_rfl) (a:=2*m) (b:=2*m+2) (by show some _=some _;congr 1;omega) (by show some _=some _;congr 1;omega) (by omega) (by show _<=200;omega),rfl,?_⟩;have c:=Vm e;rw[gQ (by omega),cX (by omega),show 2*m+2-2*m=2 by omega];have j:SM.length=200:=rfl;rw[List.drop_eq_getElem_cons (by omega),List.drop_eq_getElem_cons (by omega)];have d:SM[2*m]'(by omega)=gk (m/10):=by
   apply UInt8.toNat_inj.1;have:=c.1;rw[gD,gE (by omega)]at this;rw[show(SM[2*m]'(by omega)).toNat=_ from this];unfold gk;rw[UInt8.toNat_ofNat',Nat.mod_eq_of_lt (by omega)]
  have i:SM[2*m+1]'(by omega)=gk (m%10):=by
   apply UInt8.toNat_inj.1;have:=c.2;rw[gD,gE (by omega)]at this;rw[show(SM[2*m+1]'(by omega)).toNat=_ from this];unfold gk;rw[UInt8.toNat_ofNat',Nat.mod_eq_of_lt (a:=48+m%10) (b:=2^8) (by omega)]
  rw[d,i];rfl
variable{z:Int}
section
theorem kK{n:Int}(a:0<=n)(b:n<4294967296):wrap .u32 n=n:=by
 simp only[wrap,IntKind.bits,IntKind.signed,Bool.false_and,Bool.false_eq_true,if_false];omega
theorem B2{t:TypeId}{a:Int}{b:Nat}(h0:0<=a)(c:a<4294967296)(d:0<b):ax P .quo t (.int .u32 a) (.int .u32 (b:Int))=some (.int .u32 (a/(b:Int))):=by
 rw[NA P t .u32 _ _ (by omega),Int.tdiv_eq_ediv_of_nonneg h0,kK (Int.ediv_nonneg h0 (by omega)) (Int.lt_of_le_of_lt (Int.ediv_le_self _ h0) c)]
theorem Xo(h:m<10):AO (gk m) = .int .u8 (48+(m:Int)):=by
 unfold AO gk;rw[UInt8.toNat_ofNat',Nat.mod_eq_of_lt (a:=48+m) (b:=2^8) (by omega)];rfl
structure FB(h0:aa)(k n u j w:Nat)(h:aa):Prop where
 blk:∃cs,h.get k=some (.cells cs 321 0 true)/\cs.length=24/\(cs.drop j).take (n-j)=(Num.wid (n-j) u).map AO
 hw:w=u/10^(n-j)
 lt:w<10^j
 jn:j<=n
 n24:n<=9
 ok:HJ h0 k h
section
variable {h0 h:aa} {k n u j w:Nat}
theorem FB.room(f:FB h0 k n u j w h)(r:Nat):FB h0 k n u j w (room h r):=⟨f.blk,f.hw,f.lt,f.jn,f.n24,f.ok.room r⟩
theorem FB.step(f:FB h0 k n u (j+1) w h){c:Nat}{x i:Int}(m:x=48+(w:Int)%10)(q:i=(j:Int)):
  ∃p:Addr,ai SS.P 183 (.slice (some ⟨k,0,none⟩) n c) (.int .i64 i)=some (.pointer (some p))/\∃d:bp,aj SS.P 5 (.pointer (some p)) (.int .u8 x) h=some (undef,d)/\FB h0 k n u j (w/10) (d.app h):=by
 subst m q;obtain⟨cs,b,o,l⟩:=f.blk;have s:=f.jn;have g:=f.n24;refine⟨⟨k,0+j,none⟩,?_,.set k (.cells (cs.set j (AO (gk (w%10)))) 321 0 true),?_,?_⟩
 ·unfold ai;rw[Ox];dsimp only;rw[zz5];dsimp only;rw[if_pos ⟨by omega,by omega⟩,mul_one,cF,toNat_natCast]
 ·rw[show(48+((w:Nat):Int)%10)=48+((w%10:Nat):Int) by omega,<-Xo (mod_lt _ (by omega))];show(if au SS.P 5=some 1 then(storeAt h k (0+j) [AO (gk (w%10))]).map λu=>(undef,u)else none)=_;rw[if_pos zz5];unfold storeAt;rw[b];dsimp only;rw[zero_add,if_pos ⟨by simp;omega,rfl⟩];have e:cs.take j++[AO (gk (w%10))]++cs.drop (j+[AO (gk (w%10))].length)=cs.set j (AO (gk (w%10))):=by
   rw[List.set_eq_take_append_cons_drop,if_pos (by omega),append_assoc];rfl
  rw[e];rfl
 ·have r:=f.ok.wf _ _ b;have a:n-j=(n-(j+1))+1:=by omega
  refine⟨⟨cs.set j (AO (gk (w%10))),?_,by rw[length_set];exact o,?_⟩,?_,?_,by omega,g,f.ok.set r _⟩
  ·show(h.set k _).get k=_;rw[aa.ay,if_pos rfl]
  ·rw[List.drop_eq_getElem_cons (by simp only[length_set];omega),a,List.take_succ_cons,List.getElem_set_self,List.drop_set_of_lt (by omega),l,tB,List.map_cons,<-f.hw]
  ·rw[a,pow_succ,<-Nat.div_div_eq_div_mul,<-f.hw]
  ·have:=f.lt;rw[pow_succ]at this;omega
theorem adV{x:Nat}(b:z=(x:Int))(a:x<100):bH SS.P 9 (strOf SM) (.int .u32 (wrap .u32 (wrap .u32 (z*2)+1)))=some (.int .u8 (48+(x:Int)%10)):=by
 rw[kK (n:=z*2) (by omega) (by omega),kK (by omega) (by omega),rS (by kernel_rfl) SM .u32 (by omega) (by show _<((200:Nat):Int);omega),show(z*2+1).toNat=2*x+1 by omega,(Vm a).2];rfl
theorem adU{x:Nat}(b:z=(x:Int))(a:x<100):bH SS.P 9 (strOf SM) (.int .u32 (wrap .u32 (z*2)))=some (.int .u8 (48+(x:Int)/10)):=by
 rw[kK (n:=z*2) (by omega) (by omega),rS (by kernel_rfl) SM .u32 (by omega) (by show _<((200:Nat):Int);omega),show(z*2).toNat=2*x by omega,(Vm a).1];rfl
theorem FB.pair(f:FB h0 k n u (j+2) w h){c:Nat}{y i1 i2:Int}(E:y=(w:Int)%100)(C:i1=(j:Int)+1)(D:i2=(j:Int)):
  ∃m:Int,bH SS.P 9 (strOf SM) (.int .u32 (wrap .u32 (wrap .u32 (y*2)+1)))=some (.int .u8 m)/\
  ∃d:Int,bH SS.P 9 (strOf SM) (.int .u32 (wrap .u32 (y*2)))=some (.int .u8 d)/\
  ∃g:Addr,ai SS.P 183 (.slice (some ⟨k,0,none⟩) n c) (.int .i64 i1)=some (.pointer (some g))/\
  ∃a:bp,aj SS.P 5 (.pointer (some g)) (.int .u8 m) (Go.Ab.room h 15)=some (undef,a)/\
  ∃l:Addr,ai SS.P 183 (.slice (some ⟨k,0,none⟩) n c) (.int .i64 i2)=some (.pointer (some l))/\
  ∃b:bp,aj SS.P 5 (.pointer (some l)) (.int .u8 d) (a.app (Go.Ab.room h 15))=some (undef,b)/\
  FB h0 k n u j (w/100) (b.app (a.app (Go.Ab.room h 15))):=by
 have e:y=((w%100:Nat):Int):=by omega
 obtain⟨p,A,t,s,B⟩:=(f.room 15).step (j:=j+1) (c:=c) (x:=48+((w%100:Nat):Int)%10) (i:=i1) (by omega) (by omega);obtain⟨q,v,r,z,o⟩:=B.step (c:=c) (x:=48+((w%100:Nat):Int)/10) (i:=i2) (by omega) (by omega);refine⟨_,adV e (by omega),_,adU e (by omega),p,A,t,s,q,v,r,z,?_⟩;rw[Nat.div_div_eq_div_mul]at o;exact o
end
theorem Tl{h0 h:aa}{k n c u:Nat}(f:FB h0 k n u n u h):FW SS 294 [.slice (some ⟨k,0,none⟩) n c,.int .u64 (u:Int)] h (λv O=>v = .tuple ⟨[]⟩/\∃w,FB h0 k n u 0 w O):=by
 have V:=f.n24;have L:=xz (some ⟨k,0,none⟩) n c (u:Int) (λD i v g=>∃w:Nat,v=(w:Int)/\D=i/\FB h0 k n u i w g) (λv O=>v = .tuple ⟨[]⟩/\∃w,FB h0 k n u 0 w O) (by
  intro D i v;intros;rename_i g R;obtain⟨w,rfl,rfl,f⟩:=R;have S:=f.jn;have W:w<1000000000:=lt_of_lt_of_le f.lt (show 10^D<=10^9 from pow_le_pow_right (by omega) (by omega));refine ah (λK=>?_) (λK=>?_)
  ·have K:=dT K;obtain⟨j,rfl⟩:∃j,D=j+8:=⟨D-8,by omega⟩
   refine⟨_,fR (b:=100000000) (by omega) (by omega),_,nK (b:=100000000) (by omega) (by omega) (by omega),?_⟩;rw[kK (n:=((w:Nat):Int)%((100000000:Nat):Int)) (by omega) (by omega)];refine⟨_,B2 (b:=10000) (by omega) (by omega) (by omega),_,fR (b:=10000) (by omega) (by omega),_,B2 (b:=100) (by omega) (by omega) (by omega),_,fR (b:=100) (by omega) (by omega),_,B2 (b:=100) (by omega) (by omega) (by omega),_,fR (b:=100) (by omega) (by omega),?_⟩;obtain⟨C,d,q,e,t,m,z,s,B,A,r,o,Q⟩:=FB.pair (j:=j+6) (c:=c) (y:=((w:Nat):Int)%((100000000:Nat):Int)%((10000:Nat):Int)%((100:Nat):Int)) (i1:=wrap .i64 (((j+8:Nat):Int)-1)) (i2:=wrap .i64 (((j+8:Nat):Int)-2)) f (by omega) (by rw[aO (by omega) (by omega)];omega) (by rw[aO (by omega) (by omega)];omega);refine⟨C,d,q,e,t,m,z,s,B,A,r,o,?_⟩;obtain⟨C,d,q,e,t,m,z,s,B,A,r,o,I⟩:=FB.pair (j:=j+4) (c:=c) (y:=((w:Nat):Int)%((100000000:Nat):Int)%((10000:Nat):Int)/((100:Nat):Int)) (i1:=wrap .i64 (((j+8:Nat):Int)-3)) (i2:=wrap .i64 (((j+8:Nat):Int)-4)) Q (by omega) (by rw[aO (by omega) (by omega)];omega) (by rw[aO (by omega) (by omega)];omega);refine⟨C,d,q,e,t,m,z,s,B,A,r,o,?_⟩;obtain⟨C,d,q,e,t,m,z,s,B,A,r,o,G⟩:=FB.pair (j:=j+2) (c:=c) (y:=((w:Nat):Int)%((100000000:Nat):Int)/((10000:Nat):Int)%((100:Nat):Int)) (i1:=wrap .i64 (((j+8:Nat):Int)-5)) (i2:=wrap .i64 (((j+8:Nat):Int)-6)) I (by omega) (by rw[aO (by omega) (by omega)];omega) (by rw[aO (by omega) (by omega)];omega);refine⟨C,d,q,e,t,m,z,s,B,A,r,o,?_⟩;obtain⟨C,d,q,e,t,m,z,s,B,A,r,o,F⟩:=FB.pair (j:=j) (c:=c) (y:=((w:Nat):Int)%((100000000:Nat):Int)/((10000:Nat):Int)/((100:Nat):Int)) (i1:=wrap .i64 (((j+8:Nat):Int)-7)) (i2:=wrap .i64 (((j+8:Nat):Int)-8)) G (by omega) (by rw[aO (by omega) (by omega)];omega) (by rw[aO (by omega) (by omega)];omega);refine⟨C,d,q,e,t,m,z,s,B,A,r,o,?_⟩;have N:wrap .i64 (((j+8:Nat):Int)-8)=(j:Int):=by rw[aO (by omega) (by omega)];omega
   rw[N];exact ju j (by omega) ⟨w/100000000,by omega,rfl,by
    have:=F;simp only[Nat.div_div_eq_div_mul]at this;exact this⟩
  ·have K:=dF K;have T:w<100000000:=lt_of_lt_of_le f.lt (show 10^D<=10^8 from pow_le_pow_right (by omega) (by omega));rw[kK (n:=((w:Nat):Int)) (by omega) (by omega)];refine ah (λJ=>?_) (λJ=>?_)
   ·have J:=dT J;obtain⟨j,rfl⟩:∃j,D=j+4:=⟨D-4,by omega⟩
    refine⟨_,fR (b:=10000) (by omega) (by omega),_,B2 (b:=10000) (by omega) (by omega) (by omega),_,B2 (b:=100) (by omega) (by omega) (by omega),_,fR (b:=100) (by omega) (by omega),?_⟩;obtain⟨C,d,q,e,t,m,z,s,B,A,r,o,Q⟩:=FB.pair (j:=j+2) (c:=c) (y:=((w:Nat):Int)%((10000:Nat):Int)%((100:Nat):Int)) (i1:=wrap .i64 (((j+4:Nat):Int)-1)) (i2:=wrap .i64 (((j+4:Nat):Int)-2)) f (by omega) (by rw[aO (by omega) (by omega)];omega) (by rw[aO (by omega) (by omega)];omega);refine⟨C,d,q,e,t,m,z,s,B,A,r,o,?_⟩;obtain⟨C,d,q,e,t,m,z,s,B,A,r,o,I⟩:=FB.pair (j:=j) (c:=c) (y:=((w:Nat):Int)%((10000:Nat):Int)/((100:Nat):Int)) (i1:=wrap .i64 (((j+4:Nat):Int)-3)) (i2:=wrap .i64 (((j+4:Nat):Int)-4)) Q (by omega) (by rw[aO (by omega) (by omega)];omega) (by rw[aO (by omega) (by omega)];omega);refine⟨C,d,q,e,t,m,z,s,B,A,r,o,?_⟩;have N:wrap .i64 (((j+4:Nat):Int)-4)=(j:Int):=by rw[aO (by omega) (by omega)];omega
    rw[N];have U:=I.lt;refine ah (λE=>?_) (λE=>?_)
    ·have E:=dT E;obtain⟨l,rfl⟩:∃l,j=l+2:=⟨j-2,by omega⟩
     refine⟨_,fR (b:=100) (by omega) (by omega),_,B2 (b:=100) (by omega) (by omega) (by omega),?_⟩;obtain⟨C,d,q,e,t,m,z,s,B,A,r,o,G⟩:=FB.pair (j:=l) (c:=c) (y:=((w:Nat):Int)/((10000:Nat):Int)%((100:Nat):Int)) (i1:=wrap .i64 (((l+2:Nat):Int)-1)) (i2:=wrap .i64 (((l+2:Nat):Int)-2)) I (by omega) (by rw[aO (by omega) (by omega)];omega) (by rw[aO (by omega) (by omega)];omega);refine⟨C,d,q,e,t,m,z,s,B,A,r,o,?_⟩;have P:wrap .i64 (((l+2:Nat):Int)-2)=(l:Int):=by rw[aO (by omega) (by omega)];omega
     rw[P];refine ah (λa=>?_) (λa=>?_)
     ·have a:=dT a;obtain rfl:l=1:=by omega
      have M:=G.lt;rw[kK (n:=48+_) (by omega) (by omega),yv (n:=48+_) (by omega) (by omega)];obtain⟨p,d,H,e,F⟩:=G.step (c:=c) (x:=48+((w:Nat):Int)/((10000:Nat):Int)/((100:Nat):Int)) (i:=0) (by omega) rfl;exact⟨p,d,H,e,rfl,_,F⟩
     ·have a:=dF a;obtain rfl:l=0:=by omega
      exact⟨rfl,_,G⟩
    ·have E:=dF E;refine ah (λa=>?_) (λa=>?_)
     ·have a:=dT a;obtain rfl:j=1:=by omega
      rw[kK (n:=48+_) (by omega) (by omega),yv (n:=48+_) (by omega) (by omega)];obtain⟨p,d,H,e,F⟩:=I.step (c:=c) (x:=48+((w:Nat):Int)/((10000:Nat):Int)) (i:=0) (by omega) rfl;exact⟨p,d,H,e,rfl,_,F⟩
     ·have a:=dF a;obtain rfl:j=0:=by omega
      exact⟨rfl,_,I⟩
   ·have J:=dF J;refine ah (λE=>?_) (λE=>?_)
    ·have E:=dT E;obtain⟨l,rfl⟩:∃l,D=l+2:=⟨D-2,by omega⟩
     refine⟨_,fR (b:=100) (by omega) (by omega),_,B2 (b:=100) (by omega) (by omega) (by omega),?_⟩;obtain⟨C,d,q,e,t,m,z,s,B,A,r,o,G⟩:=FB.pair (j:=l) (c:=c) (y:=((w:Nat):Int)%((100:Nat):Int)) (i1:=wrap .i64 (((l+2:Nat):Int)-1)) (i2:=wrap .i64 (((l+2:Nat):Int)-2)) f (by omega) (by rw[aO (by omega) (by omega)];omega) (by rw[aO (by omega) (by omega)];omega);refine⟨C,d,q,e,t,m,z,s,B,A,r,o,?_⟩;have P:wrap .i64 (((l+2:Nat):Int)-2)=(l:Int):=by rw[aO (by omega) (by omega)];omega
     rw[P];have M:=G.lt;refine ah (λa=>?_) (λa=>?_)
     ·have a:=dT a;obtain rfl:l=1:=by omega
      rw[kK (n:=48+_) (by omega) (by omega),yv (n:=48+_) (by omega) (by omega)];obtain⟨p,d,H,e,F⟩:=G.step (c:=c) (x:=48+((w:Nat):Int)/((100:Nat):Int)) (i:=0) (by omega) rfl;exact⟨p,d,H,e,rfl,_,F⟩
     ·have a:=dF a;obtain rfl:l=0:=by omega
      exact⟨rfl,_,G⟩
    ·have E:=dF E;have M:=f.lt;refine ah (λa=>?_) (λa=>?_)
     ·have a:=dT a;obtain rfl:D=1:=by omega
      rw[kK (n:=48+_) (by omega) (by omega),yv (n:=48+_) (by omega) (by omega)];obtain⟨p,d,H,e,F⟩:=f.step (c:=c) (x:=48+((w:Nat):Int)) (i:=0) (by omega) rfl;exact⟨p,d,H,e,rfl,_,F⟩
     ·have a:=dF a;obtain rfl:D=0:=by omega
      exact⟨rfl,_,f⟩)
 exact Tk _ n c _ h _ (L n ⟨u,rfl,rfl,f⟩)
end
variable{k:Nat}{b:Bool}{i:Nat}
noncomputable def RN:bu:= .cells (List.replicate 24 (.int .u8 0)) 321 0 true
theorem acK:aA SS.P 321=some (RN,dR):=by kernel_rfl
theorem acM:SS.P.underlying 321=some (.array 24 5):=by kernel_rfl
theorem DU{cs:List Value}(c:h.get k=some (.cells cs 321 0 b)){n:Nat}(f:n<=24):bE SS.P 321 (.pointer (some ⟨k,0,none⟩)) none (some (.int .i64 (n:Int))) none h=some (.slice (some ⟨k,0,none⟩) n 24):=by
 unfold bE;dsimp only;rw[acM];dsimp only[dH];rw[zz5,c];show(if 0<=((0:Nat):Int)/\((0:Nat):Int)<=(n:Int)/\(n:Int)<=((24:Nat):Int)/\24<cj then some (Value.slice (some ⟨k,0+((0:Nat):Int).toNat*1,none⟩) ((n:Int)-((0:Nat):Int)).toNat (24-((0:Nat):Int).toNat))else none)=_;have a:24<cj:=by unfold cj;omega
 rw[if_pos ⟨by omega,by omega,by omega,a⟩];have d:((n:Int)-((0:Nat):Int)).toNat=n:=by omega
 have e:((0:Nat):Int).toNat=0:=rfl;rw[d,e]
theorem MN{c:Nat}{cs:List Value}(e:h.get k=some (.cells cs i j b)){l:List UInt8}(d:(cs.drop n).take m=l.map AO)(a:l.length=m):Vz SS.P 183 9 (.slice (some ⟨k,n,none⟩) m c) h=some (strOf l):=by
 unfold Vz bj;dsimp only;rw[Ox,show SS.P.underlying 9=some .string by kernel_rfl];dsimp only;rw[show SS.P.underlying 5=some (.int .u8) by kernel_rfl];dsimp only;rw[e];dsimp only;rw[d,if_pos (by rw[lM];exact a),qJ];rfl
theorem IH(p:n<1000000000){h:aa}(t:rK h)(w:Wf h):FW SS 284 [.int .u64 (n:Int),.int .i64 10] h (λv q=>v=strOf (aC n)/\Ok h q):=by
 refine IG _ h _ (ah (λ_=>?_) (λg=>by simp at g));refine ah (λg=>?_) (λg=>?_)
 ·have g:=dT g;rw[aO (by omega) (by omega)];refine(Vo (by omega) h).mono ?_;rintro _ _ ⟨rfl,rfl⟩;exact⟨_,rfl,rfl,Ok.refl w⟩
 ·have g:=dF g;have b:=(Ok.refl w).push RN;refine⟨_,acK,(Gw (by omega) p (t.ok b)).mono ?_⟩;rintro _ y ⟨r,d,rfl,u,i,c⟩;subst r;have l:(h.push RN).get h.next=some (.cells (List.replicate 24 (.int .u8 0)) 321 0 true):=by rw[aa.aN,if_pos rfl];rfl
  refine⟨_,rfl,_,_,_,DU l (n:=d+1) (by omega),?_⟩;have f:FB (h.push RN) h.next (d+1) n (d+1) n (h.push RN):=⟨⟨_,l,by simp,by simp[Num.wid]⟩,by simp,c,Nat.le_refl _,by omega,HJ.refl b.wf⟩
  refine(Tl f).mono ?_;rintro _ s ⟨rfl,x,a⟩;obtain⟨cs,m,z,k⟩:=a.blk;rw[drop_zero,Nat.sub_zero]at k;refine⟨rfl,_,_,_,DU m (n:=d+1) (by omega),aC n,MN m ?_ ?_,rfl,?_⟩
  ·rw[drop_zero,k,wQ c (.inr i)]
  ·rw[<-wQ c (.inr i),wS]
  ·refine⟨a.ok.wf,λj B o=>a.ok.jO j B (λe=>by have:=w _ _ o;omega) (b.ext _ _ o),Nat.le_trans b.nx a.ok.nx⟩
theorem Lq(a:n<1000000000){h:aa}(t:rK h)(w:Wf h):FW SS 262 [.int .u64 (n:Int),.int .i64 10] h (λv b=>v=strOf (aC n)/\Ok h b):=by
 refine Lp _ h _ ((IH a t w).mono ?_);rintro _ c ⟨rfl,o⟩;exact⟨_,rfl,rfl,o⟩
noncomputable def oY:FD:=dY Tryz.f285 []
theorem C6(p:Addr)(h:aa)(Q:VH)(o:xP (af SS.P 301 (.pointer (some p)) 0) λd=>xO (ae SS.P 299 h (.pointer (some d))) λc=>xB (ax SS.P .eql 299 (.pointer c) (.pointer none)) λb=>aS b (xG (bm SS.P fb (ev SS.gl (uN [(.pointer (some p)),undef,(.pointer (some p)),(.pointer (some p)),(.pointer (some d)),(.pointer c),(.bool b),(.pointer (some p)),(.pointer (some p))] 11)) (Ol (jD [1,0] oY.body) 2) h) h λe u q=>FW SS 296 [e] q λn g=>yV n λr=>xG (bm SS.P fb (ev SS.gl (uN [(.pointer (some p)),undef,(.pointer (some p)),(.pointer (some p)),(.pointer (some d)),(.pointer c),(.bool b),(.pointer (some p)),(.pointer (some p)),e,r] 9)) (Ol (jD [1,0] oY.body) 4) g) g λf t a=>xP (af SS.P 301 (.pointer (some p)) 0) λk=>xU (aj SS.P 299 (.pointer (some k)) f a) a λs i=>Q (.tuple ⟨[]⟩) i) (xP (af SS.P 301 (.pointer (some p)) 0) λj=>xO (ae SS.P 299 h (.pointer (some j))) λm=>xB (ax SS.P .neq 299 (.pointer m) (.pointer (some p))) λl=>aS l (False) (Q (.tuple ⟨[]⟩) h))):FW SS 285 [(.pointer (some p))] h Q:=eh oY Tryz.func285 (av o)
noncomputable def Sl:FD:=dY Tryz.f263 []
theorem O5(p:Addr)(l:LB)(h:aa)(Q:VH)(g:FW SS 285 [(.pointer (some p))] h λn b=>n=(.tuple ⟨[]⟩)/\xP (af SS.P 301 (.pointer (some p)) 1) λo=>xL (ae SS.P 183 b (.pointer (some o))) λi e k=>xE (aJ SS.P 183 9 (.slice i e k) (strOf l) b) b λj m f q a=>xP (af SS.P 301 (.pointer (some p)) 1) λd=>xU (aj SS.P 183 (.pointer (some d)) (.slice j m f) a) a λr c=>Q (.tuple ⟨[(.int .i64 ((l:LB).length:Int)),.nilIface]⟩) c):FW SS 263 [(.pointer (some p)),(strOf l)] h Q:=eh Sl Tryz.func263 (av g)
noncomputable def xe:FD:=dY Tryz.f265 []
theorem KQ(p:Addr)(h:aa)(Q:VH)(m:xP (af SS.P 301 (.pointer (some p)) 1) λf=>xL (ae SS.P 183 (room h 12) (.pointer (some f))) λk i l=>xG (bm SS.P fb (ev SS.gl (uN [(.pointer (some p)),undef,(strOf []),(.pointer (some p)),(.pointer (some p)),(.pointer (some f)),(.slice k i l)] 7)) (Ol (jD [1,0] xe.body) 4) (room h 12)) (room h 12) λn q e=>xP (af SS.P 301 (.pointer (some p)) 1) λd=>xL (ae SS.P 183 e (.pointer (some d))) λc a b=>xG (bm SS.P fb (ev SS.gl [(.pointer (some p)),undef,(strOf []),(.pointer (some p)),(.pointer (some p)),(.pointer (some f)),(.slice k i l),n,(.pointer (some p)),(.pointer (some p)),(.pointer (some d)),(.slice c a b),(iA a),undef]) (Ol (jD [1,0] xe.body) 10) e) e λg o j=>(ae SS.P 183 (room h 12) (.pointer (some d))=some (.slice c a b)/\df 4 (.slice c a b) (.slice c a b)=true)/\(TK SS.P 183 (.slice c a b) (room h 12)=some (iA a)/\df 4 (iA a) (iA a)=true)/\Q g j):FW SS 265 [(.pointer (some p))] h Q:=eh xe Tryz.func265 (av m)
noncomputable def YL:FD:=dY Tryz.f197 []
theorem T6(x y:Int)(h:aa)(Q:VH)(e:xI .u64 (ax SS.P .shr 240 (.int .u64 x) (.int .u64 32)) λa=>xI .u64 (ax SS.P .shr 240 (.int .u64 y) (.int .u64 32)) λc=>xI .u64 (ax SS.P .shr 240 (.int .u64 (wrap .u64 (wrap .u64 ((BitVec.ofInt (IntKind.bits .u64) x&&&BitVec.ofInt (IntKind.bits .u64) 4294967295).toNat:Int)*wrap .u64 ((BitVec.ofInt (IntKind.bits .u64) y&&&BitVec.ofInt (IntKind.bits .u64) 4294967295).toNat:Int)))) (.int .u64 32)) λb=>xI .u64 (ax SS.P .shr 240 (.int .u64 (wrap .u64 (wrap .u64 (a*wrap .u64 ((BitVec.ofInt (IntKind.bits .u64) y&&&BitVec.ofInt (IntKind.bits .u64) 4294967295).toNat:Int))+b))) (.int .u64 32)) λf=>xI .u64 (ax SS.P .shr 240 (.int .u64 (wrap .u64 (wrap .u64 ((BitVec.ofInt (IntKind.bits .u64) (wrap .u64 (wrap .u64 (a*wrap .u64 ((BitVec.ofInt (IntKind.bits .u64) y&&&BitVec.ofInt (IntKind.bits .u64) 4294967295).toNat:Int))+b))&&&BitVec.ofInt (IntKind.bits .u64) 4294967295).toNat:Int)+wrap .u64 (wrap .u64 ((BitVec.ofInt (IntKind.bits .u64) x&&&BitVec.ofInt (IntKind.bits .u64) 4294967295).toNat:Int)*c)))) (.int .u64 32)) λd=>Q (.tuple ⟨[(.int .u64 (wrap .u64 (wrap .u64 (wrap .u64 (a*c)+f)+d))),(.int .u64 (wrap .u64 (x*y)))]⟩) h):FW SS 197 [(.int .u64 x),(.int .u64 y)] h Q:=eh YL Tryz.func197 (av e)
variable{T:TypeId}{v:Value}{c:List Value}{s:List UInt8}
theorem tq:SS.P.underlying 299=some (.pointer 301):=by kernel_rfl
theorem zq:SS.P.underlying 325=some .unsafePointer:=by kernel_rfl
theorem V9:au SS.P 301=some 2:=by kernel_rfl
theorem XC{ρ:Operand->Value}{o:Oper}{x:Operand}(q:o.op = .convert 299 325 x){h:aa}{k:Nat}{a b:Value}{m:Bool}(g:ρ x = .pointer (some ⟨k,0,none⟩))(p:h.get k=some (.cells [a,b] 301 0 m)):bm SS.P fb ρ o h=some (.pointer (some ⟨k,0,none⟩),.no):=by
 obtain⟨f,s,i,e,d,c⟩:=o;subst q;unfold bm;have l:ba SS.P ρ ⟨f,.convert 299 325 x,i,e,d,c⟩=none:=by
  show eP SS.P 299 325 (ρ x)=none;rw[g];unfold eP;rw[tq,zq]
 have n:bj SS.P ρ ⟨f,.convert 299 325 x,i,e,d,c⟩ h=none:=by
  unfold bj;dsimp only;rw[tq,zq,g]
 have j:aT SS.P ρ ⟨f,.convert 299 325 x,i,e,d,c⟩=none:=by
  unfold aT;dsimp only;rw[tq,zq,g]
 rw[l];dsimp only;rw[n];dsimp only;rw[j];dsimp only;unfold cJ;dsimp only;rw[tq,zq,g];show(match h.get k with|some (.cells cs r 0 _)=>if 301=r/\au SS.P 301=some cs.length/\0<cs.length then some (Value.pointer (some ⟨k,0,none⟩),bp.no)else none|_=>none)=_;rw[p];show(if 301=301/\au SS.P 301=some [a,b].length/\0<[a,b].length then some (Value.pointer (some ⟨k,0,none⟩),bp.no)else none)=_;rw[if_pos ⟨rfl,V9,by simp⟩]
theorem Pm{ρ:Operand->Value}{o:Oper}{x:Operand}(q:o.op = .convert 325 299 x){h:aa}{k:Nat}{a b:Value}{m:Bool}(g:ρ x = .pointer (some ⟨k,0,none⟩))(p:h.get k=some (.cells [a,b] 301 0 m)):bm SS.P fb ρ o h=some (.pointer (some ⟨k,0,none⟩),.no):=by
 obtain⟨f,s,i,e,d,c⟩:=o;subst q;unfold bm;have l:ba SS.P ρ ⟨f,.convert 325 299 x,i,e,d,c⟩=none:=by
  show eP SS.P 325 299 (ρ x)=none;rw[g];unfold eP;rw[tq,zq]
 have n:bj SS.P ρ ⟨f,.convert 325 299 x,i,e,d,c⟩ h=none:=by
  unfold bj;dsimp only;rw[tq,zq,g]
 have j:aT SS.P ρ ⟨f,.convert 325 299 x,i,e,d,c⟩=none:=by
  unfold aT;dsimp only;rw[tq,zq,g]
 rw[l];dsimp only;rw[n];dsimp only;rw[j];dsimp only;unfold cJ;dsimp only;rw[tq,zq,g];show(match h.get k with|some (.cells cs r 0 _)=>if 301=r/\au SS.P 301=some cs.length/\0<cs.length then some (Value.pointer (some ⟨k,0,none⟩),bp.no)else none|_=>none)=_;rw[p];show(if 301=301/\au SS.P 301=some [a,b].length/\0<[a,b].length then some (Value.pointer (some ⟨k,0,none⟩),bp.no)else none)=_;rw[if_pos ⟨rfl,V9,by simp⟩]
def self(k:Nat):Value:= .pointer (some ⟨k,0,none⟩)
theorem abj(k:Nat):af SS.P 301 (.pointer (some ⟨k,0,none⟩)) 0=some (.pointer (some ⟨k,0,none⟩)):=by kernel_rfl
theorem Ye(k:Nat):af SS.P 301 (.pointer (some ⟨k,0,none⟩)) 1=some (.pointer (some ⟨k,1,none⟩)):=by kernel_rfl
theorem ld0{a b:Value}{c:Bool}(d:h.get k=some (.cells [a,b] 301 0 c)):ae SS.P 299 h (.pointer (some ⟨k,0,none⟩))=some a:=by
 unfold ae;rw[tq];dsimp only;rw[d];dsimp only;rw[show Go.Ab.isAgg SS.P 299=false by kernel_rfl];rfl
theorem ld1{a b:Value}{c:Bool}(d:h.get k=some (.cells [a,b] 301 0 c)):ae SS.P 183 h (.pointer (some ⟨k,1,none⟩))=some b:=by
 unfold ae;rw[Ox];dsimp only;rw[d];dsimp only;rw[show Go.Ab.isAgg SS.P 183=false by kernel_rfl];rfl
theorem st0{a b x:Value}(d:h.get k=some (.cells [a,b] 301 0 true))(c:bw x=true)(e:x.cells = #[x]):aj SS.P 299 (.pointer (some ⟨k,0,none⟩)) x h=some (undef,.set k (.cells [x,b] 301 0 true)):=by
 show(if au SS.P 299=some x.cells.size then(storeAt h k 0 x.cells.toList).map λu=>(undef,u)else none)=_;rw[e,show au SS.P 299=some 1 by kernel_rfl,if_pos (show some 1=some #[x].size from rfl)];unfold storeAt;rw[d];dsimp only;rw[if_pos ⟨by simp,by simp[c]⟩];rfl
theorem st1{a b x:Value}(d:h.get k=some (.cells [a,b] 301 0 true))(c:bw x=true)(e:x.cells = #[x]):aj SS.P 183 (.pointer (some ⟨k,1,none⟩)) x h=some (undef,.set k (.cells [a,x] 301 0 true)):=by
 show(if au SS.P 183=some x.cells.size then(storeAt h k 1 x.cells.toList).map λu=>(undef,u)else none)=_;rw[e,show au SS.P 183=some 1 by kernel_rfl,if_pos (show some 1=some #[x].size from rfl)];unfold storeAt;rw[d];dsimp only;rw[if_pos ⟨by simp,by simp[c]⟩];rfl
theorem Fv{a b:Value}(c:h.get k=some (.cells [a,b] 301 0 true))(f:a = .pointer none\/a=self k):
  FW SS 285 [self k] h (λv d=>v = .tuple ⟨[]⟩/\d.get k=some (.cells [self k,b] 301 0 true)/\(∀j,j≠k->d.get j=h.get j)/\d.next=h.next):=by
 refine C6 ⟨k,0,none⟩ h _ ⟨_,abj k,?_⟩;rcases f with rfl|rfl
 ·refine⟨_,ld0 c,true,by kernel_rfl,?_⟩;refine ah (λ_=>?_) (λg=>by cases g);refine⟨_,_,XC (k:=k) (x:= .tmp 8) (by kernel_rfl) (by kernel_rfl) c,rR (p:=jX) (v:=self k) (by kernel_rfl) (by kernel_rfl) (λ_=>rfl) ⟨_,rfl,_,_,Pm (k:=k) (x:= .tmp 10) (by kernel_rfl) (by kernel_rfl) c,_,abj k,_,st0 c rfl rfl,rfl,?_,?_,rfl⟩⟩
  ·show(h.set k _).get k=_;rw[aa.ay,if_pos rfl];rfl
  ·intro j i;show(h.set k _).get j=_;rw[aa.ay,if_neg i]
 ·refine⟨_,ld0 c,false,by kernel_rfl,?_⟩;refine ah (λg=>by cases g) (λ_=>?_);have e:ax SS.P .neq 299 (self k) (self k)=some (.bool false):=by
   show((pf SS.P 299 (.pointer (some ⟨k,0,none⟩)) (.pointer (some ⟨k,0,none⟩))).map λb=>Value.bool !b)=_;unfold pf;dsimp only;rw[tq];dsimp only;rw[if_pos ⟨rfl,by rw[V9];rfl⟩];rfl
  refine⟨_,abj k,_,ld0 c,false,e,ah (λg=>by cases g) (λ_=>⟨rfl,c,λ_ _=>rfl,rfl⟩)⟩
def Bd(b h:aa)(k:Nat)(l:List UInt8):Prop:=∃a v,h.get k=some (.cells [a,v] 301 0 true)/\(a = .pointer none\/a=self k)/\KI b h 5 v (l.map AO)/\b.next<=k
theorem rw5:dC SS.P 5=some ((SS.P.info? 5).getD default):=by kernel_rfl
theorem ae4:((SS.P.info? 5).getD default).size=1:=by kernel_rfl
theorem ae3:((SS.P.info? 5).getD default).bytes=1:=by kernel_rfl
theorem tl9:ch SS.P 9=true:=by kernel_rfl
theorem abU(h:aa)(l:List UInt8):cQ h 1 (strOf l)=some (l.map AO,(l.map AO).length):=by
 show(if 1=1 then some (l.map (λb=>Value.int .u8 b.toNat),l.length)else none)=_;rw[if_pos rfl,lM];rfl
theorem NC:∀l:List UInt8,(l.map AO).all bw=true
 |[]=>rfl
 |c::l=>by rw[List.map_cons,List.all_cons,NC l];rfl
theorem GF{i:aa}(o:KI g h T v c)(f:∀j B,h.get j=some B->(∃cs d,B = .cells cs T 1 d)->i.get j=some B):KI g i T v c:=by
 rcases o with o|⟨k,b,e,a⟩
 ·exact .inl o
 ·exact .inr ⟨k,b,e,f _ _ a ⟨_,_,rfl⟩⟩
theorem xf{l:List UInt8}(u:Wf g)(q:Ok g h)(b:Bd g h k l)(T:l.length+s.length<=1000000):
  FW SS 263 [self k,strOf s] h (λv G=>v = .tuple ⟨[.int .i64 (s.length:Int),.nilIface]⟩/\Ok g G/\Bd g G k (l++s)):=by
 obtain⟨a,v,y,R,o,D⟩:=b;refine O5 ⟨k,0,none⟩ s h _ ((Fv y R).mono ?_);rintro _ C ⟨rfl,A,z,F⟩;have H:Ok g C:=by
  refine⟨λj B d=>?_,λj B d=>?_,by rw[F];exact q.nx⟩
  ·rw[F];by_cases e:j=k
   ·rw[e];exact q.wf _ _ y
   ·rw[z j e]at d;exact q.wf _ _ d
  ·have:=u _ _ d;rw[z j (by omega)];exact q.ext _ _ d
 have t:KI g C 5 v (l.map AO):=GF o λj B d x=>by
  obtain⟨cs,P,rfl⟩:=x;by_cases e:j=k
  ·subst e;rw[y]at d;injection d with d;injection d;omega
  ·rw[z j e];exact d
 have M:∃a n c,v = .slice a n c:=by
  rcases t with⟨rfl,_⟩|⟨_,rfl,_⟩<;>exact⟨_,_,_,rfl⟩
 obtain⟨Q,L,S,rfl⟩:=M;obtain⟨I,K,E,f,N,J,r,w⟩:=t.wX Ox rw5 ae4 tl9 u H (abU C s) (NC s) (by rw[ae3,lM,lM];omega) (by rw[lM,lM];omega);have m:(f.app C).get k=some (.cells [self k,.slice Q L S] 301 0 true):=w k _ A (by
  intro o n c e;rcases t with⟨i,_⟩|⟨O,i,_,p⟩
  ·rw[i]at e;cases e
  ·rw[i]at e;injection e with e
   injection e with e
   injection e with e
   subst e;rw[A]at p;injection p with p;injection p;omega)
 refine⟨rfl,_,Ye k,_,_,_,ld1 A,I,K,E,f,N,_,Ye k,_,st1 m ?_ ?_,rfl,?_,?_⟩
 ·rcases J with⟨i,_⟩|⟨O,i,_,p⟩<;>rw[i]<;>rfl
 ·rfl
 ·exact r.set _ D (r.wf _ _ m) u
 ·refine⟨self k,.slice I K E,?_,.inr rfl,?_,D⟩
  ·show((f.app C).set k _).get k=_;rw[aa.ay,if_pos rfl]
  ·rw[map_append];refine GF J λj B d x=>?_;obtain⟨cs,P,rfl⟩:=x;show((f.app C).set k _).get j=_;rw[aa.ay,if_neg]
   ·exact d
   intro e;subst e;rw[m]at d;injection d with d;injection d;omega
theorem adR{ρ:Operand->Value}{o:Oper}{x:Operand}{ts:Array TypeId}(f:o.op = .call ⟨.builtin .unsafeSliceData,#[x],ts⟩){h:aa}{a:Addr}{n c:Nat}(e:ρ x = .slice (some a) n c)(g:0<aW c):bm SS.P fb ρ o h=some (.pointer (some a),.no):=by
 obtain⟨j,l,k,i,d,b⟩:=o;subst f;show(match [x].map ρ with
  |[.slice none _ _]=>some (Value.pointer none,bp.no)
  |[.slice (some a) _ c]=>if 0<aW c then some (Value.pointer (some a),bp.no)else none
  |_=>none)=_
 rw[List.map_cons,List.map_nil,e];show(if 0<aW c then some (Value.pointer (some a),bp.no)else none)=_;rw[if_pos g]
theorem aef:SS.P.underlying 318=some (.pointer 5):=by kernel_rfl
theorem Zx{ρ:Operand->Value}{o:Oper}{x y:Operand}{t2:TypeId}(g:o.op = .call ⟨.builtin .unsafeString,#[x,y],#[318,t2]⟩){h:aa}{k:Nat}{l:List UInt8}(d:ρ x = .pointer (some ⟨k,0,none⟩))(p:ρ y = .int .i64 (l.length:Int))(f:h.get k=some (.cells (l.map AO) 5 1 true))(j:l≠[])(t:l.length<9223372036854775807):bm SS.P fb ρ o h=some (strOf l,.set k (.cells (l.map AO) 5 1 false)):=by
 obtain⟨r,u,s,q,c,b⟩:=o;subst g;show(match [x,y].map ρ,(#[318,t2]:Array TypeId)[0]? with
  |[.pointer none,.int _ 0],some _=>some (strOf [],bp.no)
  | [.pointer (some ⟨k,i,none⟩),.int _ n],some m=>(match h.get k,SS.P.underlying m with
   | some (.cells cs e 1 true),some (.pointer a)=>
    if e=a/\au SS.P e=some 1/\0<n/\n<9223372036854775807/\((cs.drop i).take n.toNat).length=n.toNat then
     (match bytesOf ((cs.drop i).take n.toNat)with
     |some l=>some (strOf l,bp.set k (.cells cs e 1 false))
     |none=>none)
    else none
   |_,_=>none)
  |_,_=>none)=_
 rw[List.map_cons,List.map_cons,List.map_nil,d,p];show(match h.get k,SS.P.underlying 318 with
   | some (.cells cs e 1 true),some (.pointer a)=>
    if e=a/\au SS.P e=some 1/\0<(l.length:Int)/\(l.length:Int)<9223372036854775807/\((cs.drop 0).take (l.length:Int).toNat).length=(l.length:Int).toNat then
     (match bytesOf ((cs.drop 0).take (l.length:Int).toNat)with
     |some l=>some (strOf l,bp.set k (.cells cs e 1 false))
     |none=>none)
    else none
   |_,_=>none)=_
 rw[f,aef];have v:=List.length_pos_iff.2 j;show(if 5=5/\au SS.P 5=some 1/\0<(l.length:Int)/\(l.length:Int)<9223372036854775807/\(((l.map AO).drop 0).take (l.length:Int).toNat).length=(l.length:Int).toNat then
     (match bytesOf (((l.map AO).drop 0).take (l.length:Int).toNat)with
     |some l'=>some (strOf l',bp.set k (.cells (l.map AO) 5 1 false))
     |none=>none)
    else none)=_
 rw[toNat_natCast,drop_zero,take_of_length_le (by simp),if_pos ⟨rfl,zz5,by omega,by omega,by simp⟩,qJ]
theorem KR{l:List UInt8}(m:Wf g)(j:Ok g h)(b:Bd g h k l)(e:l≠[])(z:l.length<=1000000):
  FW SS 265 [self k] h (λv r=>v=strOf l/\Ok g r):=by
 obtain⟨a,v,s,A,o,w⟩:=b;rcases o with⟨_,p⟩|⟨f,rfl,q,i⟩
 ·exact absurd (List.map_eq_nil_iff.1 p) e
 have d:(room h 12).get k=_:=s;have t:=List.length_pos_iff.2 e;have u:aW (cj+(l.map AO).length)=l.length:=by unfold aW;rw[if_pos (by omega),lM];omega
 rw[lM]at*;refine KQ ⟨k,0,none⟩ h _ ⟨_,Ye k,_,_,_,ld1 d,_,_,adR (x:= .tmp 6) (ts:= #[183]) (a:=⟨f,0,none⟩) (n:=l.length) (c:=cj+l.length) (by kernel_rfl) (by kernel_rfl) (by rw[u];exact t),_,Ye k,_,_,_,ld1 d,_,_,Zx (x:= .tmp 7) (y:= .tmp 12) (k:=f) (l:=l) (t2:=3) (by kernel_rfl) (by kernel_rfl) (by kernel_rfl) i e (by omega),⟨ld1 d,by simp[df]⟩,⟨rfl,by simp[df]⟩,rfl,?_⟩;exact(j.room 12).set _ q ((j.room 12).wf _ _ i) m
theorem aeS(m:Nat)(h:aa):bn SS.P SS.gl SS.pr (m+8) 264 [strOf [48],.int .i64 0] h=some (strOf [],h):=by kernel_rfl
theorem aeT(m:Nat)(h:aa):bn SS.P SS.gl SS.pr (m+8) 264 [strOf [48],.int .i64 1] h=some (strOf [48],h):=by kernel_rfl
theorem aeU(m:Nat)(h:aa):bn SS.P SS.gl SS.pr (m+8) 264 [strOf [48],.int .i64 2] h=some (strOf [48,48],h):=by kernel_rfl
theorem aeV(m:Nat)(h:aa):bn SS.P SS.gl SS.pr (m+8) 264 [strOf [48],.int .i64 3] h=some (strOf [48,48,48],h):=by kernel_rfl
theorem aeW(m:Nat)(h:aa):bn SS.P SS.gl SS.pr (m+8) 264 [strOf [48],.int .i64 4] h=some (strOf [48,48,48,48],h):=by kernel_rfl
theorem aeX(m:Nat)(h:aa):bn SS.P SS.gl SS.pr (m+8) 264 [strOf [48],.int .i64 5] h=some (strOf [48,48,48,48,48],h):=by kernel_rfl
theorem aeY(m:Nat)(h:aa):bn SS.P SS.gl SS.pr (m+8) 264 [strOf [48],.int .i64 6] h=some (strOf [48,48,48,48,48,48],h):=by kernel_rfl
theorem aeZ(m:Nat)(h:aa):bn SS.P SS.gl SS.pr (m+8) 264 [strOf [48],.int .i64 7] h=some (strOf [48,48,48,48,48,48,48],h):=by kernel_rfl
theorem ae0(m:Nat)(h:aa):bn SS.P SS.gl SS.pr (m+8) 264 [strOf [48],.int .i64 8] h=some (strOf [48,48,48,48,48,48,48,48],h):=by kernel_rfl
theorem Q3(d:n<=8)(h:aa):FW SS 264 [strOf [48],.int .i64 (n:Int)] h (λv b=>v=strOf (List.replicate n 48)/\b=h):=by
 have a:∀(z:Int)(l:List UInt8),(∀m,bn SS.P SS.gl SS.pr (m+8) 264 [strOf [48],.int .i64 z] h=some (strOf l,h))->FW SS 264 [strOf [48],.int .i64 z] h (λv b=>v=strOf l/\b=h):=λz l c=>
  ⟨_,_,⟨8,λN e=>by obtain⟨m,rfl⟩:∃m,N=m+8:=⟨N-8,by omega⟩;exact c m⟩,rfl,rfl⟩
 have:n=0\/n=1\/n=2\/n=3\/n=4\/n=5\/n=6\/n=7\/n=8:=by omega
 rcases this with rfl|rfl|rfl|rfl|rfl|rfl|rfl|rfl|rfl
 ·exact a 0 _ λm=>aeS m h
 ·exact a 1 _ λm=>aeT m h
 ·exact a 2 _ λm=>aeU m h
 ·exact a 3 _ λm=>aeV m h
 ·exact a 4 _ λm=>aeW m h
 ·exact a 5 _ λm=>aeX m h
 ·exact a 6 _ λm=>aeY m h
 ·exact a 7 _ λm=>aeZ m h
 ·exact a 8 _ λm=>ae0 m h
noncomputable def jQ:FD:=dY Tryz.f239 [([1,1,1,0,1,0,0],[0,3,10,11])]
abbrev iN(a:OA)(n c:Nat)(p:Addr)(b:Int)(i:Nat):LV:=[(.slice a n c),(.pointer (some p)),(.int .i64 b),(iA i)]
theorem LS(a:OA)(n c:Nat)(h:aa)(Q:VH)(d:aS ((((n:Int):Int)==0)) (Q (strOf [48]) h) (xN (aA SS.P 301) h λe b=>LL SS jQ [1,1,1,0,1,0,0] [(.slice a n c),(pA (h.next)),(iA n),(.int .i64 0)] b (KK SS jQ [1,1,1,0,1,0] [] (EE SS jQ Q)))):FW SS 239 [(.slice a n c)] h Q:=eh jQ Tryz.func239 (av d)
theorem tY(a:OA)(n c:Nat)(p:Addr)(b:Int)(d:Nat->Nat->aa->Prop)(Q:VH)(step:∀(e:Nat) (i:Nat) (v:Nat->Value) (h:aa),d e i h->aS (decide (((i:Int):Int)<b)) (xP (ai SS.P 260 (.slice a n c) (.int .i64 (wrap .i64 (wrap .i64 ((n:Int)-1)-(i:Int))))) λG=>xI .u64 (ae SS.P 240 h (.pointer (some G))) λH=>FW SS 262 [(.int .u64 H),(.int .i64 10)] h λF z=>yS F λf=>aS (decide (((i:Int):Int)>0)) (FW SS 264 [(strOf [48]),(.int .i64 (wrap .i64 (9-((f:LB).length:Int))))] z λD E=>yS D λs=>FW SS 263 [(.pointer (some p)),(strOf s)] E λm u=>∃o:Int,∃k:Value,m=(.tuple ⟨[(.int .i64 o),k]⟩)/\FW SS 263 [(.pointer (some p)),(strOf f)] u λj r=>∃A:Int,∃l:Value,j=(.tuple ⟨[(.int .i64 A),l]⟩)/\aH (fD (iN a n c p b) d) e [(.slice a n c),(.pointer (some p)),(.int .i64 b),(.int .i64 (wrap .i64 ((i:Int)+1)))] r) (FW SS 263 [(.pointer (some p)),(strOf f)] z λy C=>∃x:Int,∃B:Value,y=(.tuple ⟨[(.int .i64 x),B]⟩)/\aH (fD (iN a n c p b) d) e [(.slice a n c),(.pointer (some p)),(.int .i64 b),(.int .i64 (wrap .i64 ((i:Int)+1)))] C)) (FW SS 265 [(.pointer (some p))] h λt q=>yS t λw=>Q (strOf w) q))(e:Nat){i:Nat}{h:aa}(g:d e i h):LL SS jQ [1,1,1,0,1,0,0] (iN a n c p b i) h (KK SS jQ [1,1,1,0,1,0] [] (EE SS jQ Q)):=
 dN (iN a n c p b) d (λe i v h g=>av (step e i v h g)) e g
noncomputable def mH:FD:=dY Tryz.f204 [([1,1,1,0,0,0],[6,7])]
abbrev jw  (a:OA) (n c:Nat) (b:OA) (k d:Nat):LV:=[(.slice a n c),(.slice b k d)]
theorem Qo(l m:LB)(h:aa)(Q:VH)(s:FW SS 203 [(strOf l)] h λt e=>yB t λp=>aS (!p) (Q (.tuple ⟨[(strOf []),(.int .i64 1)]⟩) e) (FW SS 203 [(strOf m)] e λo j=>yB o λq=>aS (!q) (Q (.tuple ⟨[(strOf []),(.int .i64 1)]⟩) j) (FW SS 208 [(strOf l)] j λk r=>yL k λn d i=>FW SS 208 [(strOf m)] r λa g=>yL a λb c f=>LL SS mH [1,1,1,0,0,0] (jw n d i b c f) g (KK SS mH [1,1,1,0,0] [] (EE SS mH Q))))):FW SS 204 [(strOf l),(strOf m)] h Q:=eh mH Tryz.func204 (av s)
theorem vQ(l m:LB)  (f:Nat->OA->Nat->Nat->OA->Nat->Nat->aa->Prop) (Q:VH) (step:∀(e:Nat)(a:OA)(n c:Nat)(b:OA)(k d:Nat)(t:Nat->Value)(h:aa),f e a n c b k d h->aS (decide (((k:Int):Int)>0)) (FW SS 238 [(.slice a n c),(.slice b k d)] h λx r=>∃(v:OA)(w p:Nat),∃(g:OA)(i j:Nat),x=(.tuple ⟨[(.slice v w p),(.slice g i j)]⟩)/\aH (LA6 jw f) e [(.slice b k d),(.slice g i j)] r) (FW SS 239 [(.slice a n c)] h λs u=>yS s λq=>Q (.tuple ⟨[(strOf q),(.int .i64 0)]⟩) u)) (e:Nat) {a:OA} {n c:Nat} {b:OA} {k d:Nat} {h:aa} (o:f e a n c b k d h):LL SS mH [1,1,1,0,0,0] (jw  a n c b k d) h (KK SS mH [1,1,1,0,0] [] (EE SS mH Q)):=
 adQ jw f (λe a n c b k d t h o=>av (step e a n c b k d t h o)) e o
noncomputable def acr:bu:= .cells [.pointer none,.slice none 0 0] 301 0 true
theorem acJ:aA SS.P 301=some (acr,dR):=by kernel_rfl
theorem acP{m:aa}{l:List UInt8}(b:Bd g h k l)(o:Ok h m):Bd g m k l:=by
 obtain⟨a,v,d,e,c,f⟩:=b;exact⟨a,v,o.ext _ _ d,e,GF c λj B i _=>o.ext _ _ i,f⟩
theorem tX{c:Nat}(A:Rd h 240 (.slice a n c) (bl m))(S:(aF BB m).length<=10000)(t:rK h)(w:Wf h):
  FW SS 239 [.slice a n c] h (λv D=>v=strOf (aC m)/\Ok h D):=by
 have y:n=(aF BB m).length:=by have:=A.len;rwa[lM]at this
 refine LS a n c h _ (ah (λg=>?_) (λg=>?_))
 ·have g:(n:Int)=0:=by simpa using g
  have Y:(aF BB m).length=0:=by omega
  have:m=0:=by have:=(fK eY).1 (List.eq_nil_of_length_eq_zero Y);omega
  subst this;refine⟨?_,Ok.refl w⟩;rw[cX (by omega)];rfl
 ·have g:¬(n:Int)=0:=by simpa using g
  have W:0<m:=by
   rcases Nat.eq_zero_or_pos m with h|h
   ·subst h;rw[(fK eY).2 rfl]at y;simp at y;omega
   ·exact h
  have F:=DH eY W;have I:=cr eY m;have M:=bK eY m;have A:Rd h 240 (.slice a n c) ((aF BB m).map uv):=A;generalize hx:aF BB m=x at*;have L:=tY a n c ⟨h.next,0,none⟩ (n:Int) (λK i g=>i<=n/\K=n-i/\Ok h g/\∃l,Bd h g h.next l/\l.length<=9*i/\(i=0->l=[])/\(0<i->0<Num.bv BB (x.drop (n-i))/\l=aC (Num.bv BB (x.drop (n-i))))) (λv D=>v=strOf (aC m)/\Ok h D) (by
   intro K i;intros;rename_i g X;obtain⟨h1,rfl,s,l,O,x2,Z,Q⟩:=X;refine ah (λq=>?_) (λq=>?_)
   ·have q:=dT q;have T:wrap .i64 (wrap .i64 ((n:Int)-1)-(i:Int))=((n-1-i:Nat):Int):=by
     rw[aO (n:=(n:Int)-1) (by omega) (by omega),aO (by omega) (by omega)];omega
    obtain⟨p,e2,P⟩:=DV (A.ok s) (i:=((n-1-i:Nat):Int)) (by omega) (by rw[<-y];omega);rw[T];rw[toNat_natCast]at P;have R:x.getD (n-1-i) 0<BB:=bo (by decide) I _;have f:Num.bv BB (x.drop (n-1-i))=x.getD (n-1-i) 0+BB*Num.bv BB (x.drop (n-i)):=by
     rw[eK,show n-1-i+1=n-i by omega]
    have e5:wrap .i64 ((i:Int)+1)=((i+1:Nat):Int):=by rw[aO (by omega) (by omega)];omega
    rw[e5];have u:i=0->0<x.getD (n-1-i) 0:=λe=>by subst e;rw[y];exact F
    generalize x.getD (n-1-i) 0=b at*;have o:b<1000000000:=R;have x1:=C0 o;refine⟨p,e2,_,P,(Lq o (t.ok s) s.wf).mono ?_⟩;rintro _ h5 ⟨rfl,j⟩;have C:=acP O j;have j:=s.trans j;refine⟨_,rfl,ah (λr=>?_) (λr=>?_)⟩
    ·have r:=dT r;obtain⟨H,z⟩:=Q (by omega);have V:wrap .i64 (9-((aC b).length:Int))=((9-(aC b).length:Nat):Int):=by rw[aO (by omega) (by omega)];omega
     rw[V];have U:=qb b;refine(Q3 (by omega) h5).mono ?_;rintro _ h8 ⟨rfl,rfl⟩;refine⟨_,rfl,(xf w j C (by rw[length_replicate];omega)).mono ?_⟩;rintro _ x0 ⟨rfl,E,G⟩;refine⟨_,_,rfl,(xf w E G (by rw[length_append,length_replicate];omega)).mono ?_⟩;rintro _ B ⟨rfl,d,k⟩;refine⟨_,_,rfl,cG (n-(i+1)) (by omega) ⟨by omega,rfl,d,_,k,?_,λh=>by omega,λ_=>?_⟩⟩
     ·rw[length_append,length_append,length_replicate];omega
     ·rw[show n-(i+1)=n-1-i by omega,f];refine⟨Nat.add_pos_right _ (mul_pos (by decide) H),?_⟩;have:=CZ H o;rw[z];exact this.symm
    ·have r:=dF r;obtain rfl:i=0:=by omega
     obtain rfl:=Z rfl;refine(xf w j C (by rw[List.length_nil];omega)).mono ?_;rintro _ B ⟨rfl,d,k⟩;refine⟨_,_,rfl,cG (n-1) (by omega) ⟨by omega,rfl,d,_,k,?_,λh=>by omega,λ_=>?_⟩⟩
     ·rw[nil_append];omega
     ·have N:Num.bv BB (x.drop n)=0:=by rw[drop_of_length_le (by omega)];rfl
      rw[show n-1-0=n-1 by omega,show n-0=n by omega,N,mul_zero,add_zero]at f;rw[zero_add,f,nil_append];refine⟨?_,rfl⟩;exact u rfl
   ·have q:=dF q;obtain rfl:i=n:=by omega
    obtain⟨H,z⟩:=Q (by omega);rw[Nat.sub_self,drop_zero,M]at z;subst z;refine(KR w s O (tA m) (by omega)).mono ?_;rintro _ B ⟨rfl,d⟩;exact⟨_,rfl,rfl,d⟩)
  have J:=(Ok.refl w).push acr;refine⟨_,acJ,L n (i:=0) ⟨by omega,rfl,J,[],⟨_,_,?_,.inl rfl,.inl ⟨rfl,rfl⟩,Nat.le_refl _⟩,by simp,λ_=>rfl,λh=>by omega⟩⟩;rw[aa.aN,if_pos rfl];rfl
theorem abF(h:k<=9*m):10^k<=BB^m:=by
 show 10^k<=(10^9)^m;rw[<-Nat.pow_mul];exact pow_le_pow_right (by decide) h
theorem nO(h:n<10^1000):(aF BB n).length<=112:=by
 refine jm eY (lt_of_lt_of_le h (abF (k:=1000) (m:=112) (by decide)))
def FN(h:aa)(X Y:Nat)(e:Nat)(a:Option Addr)(n c:Nat)(b:Option Addr)(k d:Nat)(g:aa):Prop:=∃p:Nat,Rd g 240 (.slice a n c) (bl p)/\Rd g 240 (.slice b k d) (bl e)/\(aF BB p).length<=112/\(aF BB e).length<=112/\Nat.gcd p e=Nat.gcd X Y/\Ok h g
theorem Tn{c:Nat}{b:Option Addr}(t:rK h)(N:FN h n m i a j c b k l g){K:Nat->Option Addr->Nat->Nat->Option Addr->Nat->Nat->aa->Prop}{Q:VH}
  (J:∀(u:Option Addr)(r s:Nat)(f:Option Addr)(d q x:Nat)(g:aa),x<i->FN h n m x b k l f d q g->K x u r s f d q g):
  (0<k->FW SS 238 [.slice a j c,.slice b k l] g (λv C=>∃(u:Option Addr)(r s:Nat)(f:Option Addr)(d q x:Nat),v = .tuple ⟨[.slice u r s,.slice f d q]⟩/\K x u r s f d q C))/\
  (k=0->FW SS 239 [.slice a j c] g (λv C=>v=strOf (aC (Nat.gcd n m))/\Ok h C)):=by
 obtain⟨p,G,A,F,B,E,w⟩:=N;have D:k=(aF BB i).length:=by have:=A.len;rwa[lM]at this
 constructor
 ·intro y;have o:0<i:=by
   rcases Nat.eq_zero_or_pos i with e|e
   ·subst e;rw[(fK eY).2 rfl]at D;simp at D;omega
   ·exact e
  refine(Gk G A o (Nat.le_trans F (by omega)) (Nat.le_trans B (by omega)) w.wf).mono ?_;rintro _ I ⟨u,r,s,f,d,q,rfl,O,L,z⟩;refine⟨u,r,s,f,d,q,p%i,rfl,J u r s f d q (p%i) I (mod_lt _ o) ⟨i,A.ok z,L,B,?_,?_,w.trans z⟩⟩
  ·exact Nat.le_trans (Nat.le_of_not_lt λh=>by have M:=jo eY h;have y:=mod_lt p o;exact absurd M (Nat.not_lt.2 (le_of_lt y))) B
  ·rw[<-E,Nat.gcd_comm i,<-Nat.gcd_rec,Nat.gcd_comm]
 ·intro y;have o:i=0:=(fK eY).1 (List.eq_nil_of_length_eq_zero (by rw[<-D,y]));subst o;rw[Nat.gcd_zero_right]at E;subst E;refine(tX G (Nat.le_trans F (by omega)) (t.ok w) w.wf).mono ?_;rintro _ P ⟨rfl,H⟩;exact⟨rfl,w.trans H⟩
theorem Qp(a b:List UInt8){h:aa}(t:rK h)(w:Wf h):FW SS 204 [strOf a,strOf b] h (λv u=>v=Ls a b/\Ok h u):=by
 refine Qo a b h _ ((dk a h).mono ?_);rintro _ A ⟨rfl,y⟩;obtain rfl:h=A:=y.symm;refine⟨_,rfl,ah (λg=>?_) (λg=>?_)⟩
 ·have g:aM a=false:=by simpa using g
  refine⟨?_,Ok.refl w⟩;unfold Ls;rw[if_neg (λe=>by rw[e.1]at g;cases g)];rfl
 have g:aM a=true:=by simpa using g
 refine(dk b h).mono ?_;rintro _ A ⟨rfl,y⟩;obtain rfl:h=A:=y.symm;refine⟨_,rfl,ah (λf=>?_) (λf=>?_)⟩
 ·have f:aM b=false:=by simpa using f
  refine⟨?_,Ok.refl w⟩;unfold Ls;rw[if_neg (λe=>by rw[e.2]at f;cases f)];rfl
 have f:aM b=true:=by simpa using f
 obtain⟨X,U,D,F⟩:=mr g;obtain⟨Y,V,C,I⟩:=mr f;have H:=(kO.1 g)
 have J:=(kO.1 f)
 have T:=nO D;have O:=nO C;clear D C;refine(pB a H.1.2.1 (Nat.le_trans H.2 (by omega)) h w).mono ?_;rintro _ s ⟨z,r,x,rfl,B,p⟩;refine⟨_,_,_,rfl,(pB b J.1.2.1 (Nat.le_trans J.2 (by omega)) s p.wf).mono ?_⟩;rintro _ i ⟨m,l,o,rfl,E,q⟩;refine⟨_,_,_,rfl,?_⟩;have R:Ls a b=E1 (aC (Nat.gcd X Y)) 0:=by unfold Ls;rw[if_pos ⟨g,f⟩,F,I]
 rw[R];rw[F]at B;rw[I]at E;refine vQ a b (FN h X Y) (λv u=>v=E1 (aC (Nat.gcd X Y)) 0/\Ok h u) (λL a n c b k d=>?_) Y ⟨X,B.rd.ok q,E.rd,T,O,rfl,p.trans q⟩;intros;rename_i g P;have S:=Tn t P (K:=λj z r x m l o g=>j<L/\FN h X Y j b k d m l o g) (λz r x m l o j g s i=>⟨s,i⟩) (Q:=λ_ _=>True);refine ah (λi=>?_) (λi=>?_)
 ·have i:=dT i;refine(S.1 (by omega)).mono ?_;rintro _ W ⟨z,r,x,m,l,o,j,rfl,M,N⟩;exact⟨_,_,_,_,_,_,rfl,ade j M N⟩
 ·have i:=dF i;refine(S.2 (by omega)).mono ?_;rintro _ Z ⟨rfl,G⟩;exact⟨_,rfl,rfl,G⟩
noncomputable def Y7:FD:=dY Tryz.f267 []
theorem UB(x y z:Int)(h:aa)(Q:VH)(c:xI .u64 (ax SS.P .rem 240 (.int .u64 (wrap .u64 (wrap .u64 (x+y)+z))) (.int .u64 1000000000)) λa=>xI .u64 (ax SS.P .quo 240 (.int .u64 (wrap .u64 (wrap .u64 (x+y)+z))) (.int .u64 1000000000)) λb=>Q (.tuple ⟨[(.int .u64 a),(.int .u64 b)]⟩) h):FW SS 267 [(.int .u64 x),(.int .u64 y),(.int .u64 z)] h Q:=eh Y7 Tryz.func267 (av c)
noncomputable def T2:FD:=dY Tryz.f269 []
theorem Qb(x y z:Int)(h:aa)(Q:VH)(c:xI .u64 (ax SS.P .rem 240 (.int .u64 (wrap .u64 (wrap .u64 (wrap .u64 (x+1000000000)-y)-z))) (.int .u64 1000000000)) λa=>xI .u64 (ax SS.P .quo 240 (.int .u64 (wrap .u64 (wrap .u64 (wrap .u64 (x+1000000000)-y)-z))) (.int .u64 1000000000)) λb=>Q (.tuple ⟨[(.int .u64 a),(.int .u64 (wrap .u64 (1-b)))]⟩) h):FW SS 269 [(.int .u64 x),(.int .u64 y),(.int .u64 z)] h Q:=eh T2 Tryz.func269 (av c)
noncomputable def iW:FD:=dY Tryz.f266 [([1,1,1,0,1,0,0],[0,1,2,7,8,18,19])]
abbrev dx(a:OA)(n c:Nat)(b:OA)(m d:Nat)(e:Int)(i:Nat)(cy:Int)(r:OA)(f g:Nat):LV:=[(.slice a n c),(.slice b m d),(.func (.func 267) ⟨[]⟩ ⟨[]⟩),(.slice r f g),(.int .u64 cy),(.int .i64 e),(iA i)]
theorem Ik(a:OA)(n c:Nat)(b:OA)(m d:Nat)(h:aa)(Q:VH)(f:xI .i64 (qq true [(iA n),(iA m)]) λe=>LL SS iW [1,1,1,0,1,0,0] (dx a n c b m d (wrap .i64 (e+1)) 0 0 none 0 0) h (KK SS iW [1,1,1,0,1,0] [] (EE SS iW Q))):FW SS 266 [(.slice a n c),(.slice b m d),(.func (.func 267) ⟨[]⟩ ⟨[]⟩)] h Q:=eh iW Tryz.func266 (av f)
theorem su(a:OA)(n c:Nat)(b:OA)(m d:Nat)(e:Int)(f:Nat->Nat->Int->OA->Nat->Nat->aa->Prop)(Q:VH)(step:∀(k:Nat) (i:Nat) (cy:Int) (r:OA) (g j:Nat) (X:Nat->Value) (h:aa),f k i cy r g j h->aS (decide (((i:Int):Int)<e)) (aS (decide (((i:Int):Int)<(n:Int))) (xP (ai SS.P 260 (.slice a n c) (iA i)) λp2=>xI .u64 (ae SS.P 240 h (.pointer (some p2))) λE=>aS (decide (((i:Int):Int)<(m:Int))) (xP (ai SS.P 260 (.slice b m d) (iA i)) λp4=>xI .u64 (ae SS.P 240 h (.pointer (some p4))) λn5=>FW SS 267 [(.int .u64 E),(.int .u64 n5),(.int .u64 cy)] h λv6 h7=>∃n8:Int,∃F:Int,v6=(.tuple ⟨[(.int .u64 n8),(.int .u64 F)]⟩)/\xR (az SS.P 260 1 [(0,(.int .u64 n8))]) h7 λy6 S y1 o=>xE (aJ SS.P 260 260 (.slice r g j) (sA (h7.next) S y1) o) o λD N U y9 L=>aH (Kw (dx a n c b m d e) f) k [(.slice a n c),(.slice b m d),(.func (.func 267) ⟨[]⟩ ⟨[]⟩),(.slice D N U),(.int .u64 F),(.int .i64 e),(.int .i64 (wrap .i64 ((i:Int)+1)))] L) (FW SS 267 [(.int .u64 E),(.int .u64 0),(.int .u64 cy)] h λx6 A=>∃s:Int,∃z:Int,x6=(.tuple ⟨[(.int .u64 s),(.int .u64 z)]⟩)/\xR (az SS.P 260 1 [(0,(.int .u64 s))]) A λz1 R G t=>xE (aJ SS.P 260 260 (.slice r g j) (sA (A.next) R G) t) t λy2 x3 x7 z0 x0=>aH (Kw (dx a n c b m d e) f) k [(.slice a n c),(.slice b m d),(.func (.func 267) ⟨[]⟩ ⟨[]⟩),(.slice y2 x3 x7),(.int .u64 z),(.int .i64 e),(.int .i64 (wrap .i64 ((i:Int)+1)))] x0)) (aS (decide (((i:Int):Int)<(m:Int))) (xP (ai SS.P 260 (.slice b m d) (iA i)) λx2=>xI .u64 (ae SS.P 240 h (.pointer (some x2))) λM=>FW SS 267 [(.int .u64 0),(.int .u64 M),(.int .u64 cy)] h λy0 q=>∃l:Int,∃p:Int,y0=(.tuple ⟨[(.int .u64 l),(.int .u64 p)]⟩)/\xR (az SS.P 260 1 [(0,(.int .u64 l))]) q λy8 x8 H x=>xE (aJ SS.P 260 260 (.slice r g j) (sA (q.next) x8 H) x) x λV y3 T y4 K=>aH (Kw (dx a n c b m d e) f) k [(.slice a n c),(.slice b m d),(.func (.func 267) ⟨[]⟩ ⟨[]⟩),(.slice V y3 T),(.int .u64 p),(.int .i64 e),(.int .i64 (wrap .i64 ((i:Int)+1)))] K) (FW SS 267 [(.int .u64 0),(.int .u64 0),(.int .u64 cy)] h λJ y=>∃v:Int,∃w:Int,J=(.tuple ⟨[(.int .u64 v),(.int .u64 w)]⟩)/\xR (az SS.P 260 1 [(0,(.int .u64 v))]) y λy5 Y x4 u=>xE (aJ SS.P 260 260 (.slice r g j) (sA (y.next) Y x4) u) u λx5 x1 I y7 O=>aH (Kw (dx a n c b m d e) f) k [(.slice a n c),(.slice b m d),(.func (.func 267) ⟨[]⟩ ⟨[]⟩),(.slice x5 x1 I),(.int .u64 w),(.int .i64 e),(.int .i64 (wrap .i64 ((i:Int)+1)))] O))) (FW SS 210 [(.slice r g j)] h λx9 W=>yL x9 λC P Z=>Q (.slice C P Z) W))(k:Nat){i:Nat}{cy:Int}{r:OA}{g j:Nat}{h:aa}(B:f k i cy r g j h):LL SS iW [1,1,1,0,1,0,0] (dx a n c b m d e i cy r g j) h (KK SS iW [1,1,1,0,1,0] [] (EE SS iW Q)):=
 Vc (dx a n c b m d e) f (λk i cy r g j X h B=>av (step k i cy r g j X h B)) k B
noncomputable def gW:FD:=dY Tryz.f266 [([1,1,1,0,1,0,0],[0,1,2,7,8,18,19])]
abbrev da(a:OA)(n c:Nat)(b:OA)(m d:Nat)(e:Int)(i:Nat)(cy:Int)(r:OA)(f g:Nat):LV:=[(.slice a n c),(.slice b m d),(.func (.func 269) ⟨[]⟩ ⟨[]⟩),(.slice r f g),(.int .u64 cy),(.int .i64 e),(iA i)]
theorem Fy(a:OA)(n c:Nat)(b:OA)(m d:Nat)(h:aa)(Q:VH)(f:xI .i64 (qq true [(iA n),(iA m)]) λe=>LL SS gW [1,1,1,0,1,0,0] (da a n c b m d (wrap .i64 (e+1)) 0 0 none 0 0) h (KK SS gW [1,1,1,0,1,0] [] (EE SS gW Q))):FW SS 266 [(.slice a n c),(.slice b m d),(.func (.func 269) ⟨[]⟩ ⟨[]⟩)] h Q:=eh gW Tryz.func266 (av f)
theorem qL(a:OA)(n c:Nat)(b:OA)(m d:Nat)(e:Int)(f:Nat->Nat->Int->OA->Nat->Nat->aa->Prop)(Q:VH)(step:∀(k:Nat) (i:Nat) (cy:Int) (r:OA) (g j:Nat) (X:Nat->Value) (h:aa),f k i cy r g j h->aS (decide (((i:Int):Int)<e)) (aS (decide (((i:Int):Int)<(n:Int))) (xP (ai SS.P 260 (.slice a n c) (iA i)) λp2=>xI .u64 (ae SS.P 240 h (.pointer (some p2))) λE=>aS (decide (((i:Int):Int)<(m:Int))) (xP (ai SS.P 260 (.slice b m d) (iA i)) λp4=>xI .u64 (ae SS.P 240 h (.pointer (some p4))) λn5=>FW SS 269 [(.int .u64 E),(.int .u64 n5),(.int .u64 cy)] h λv6 h7=>∃n8:Int,∃F:Int,v6=(.tuple ⟨[(.int .u64 n8),(.int .u64 F)]⟩)/\xR (az SS.P 260 1 [(0,(.int .u64 n8))]) h7 λy6 S y1 o=>xE (aJ SS.P 260 260 (.slice r g j) (sA (h7.next) S y1) o) o λD N U y9 L=>aH (Kw (da a n c b m d e) f) k [(.slice a n c),(.slice b m d),(.func (.func 269) ⟨[]⟩ ⟨[]⟩),(.slice D N U),(.int .u64 F),(.int .i64 e),(.int .i64 (wrap .i64 ((i:Int)+1)))] L) (FW SS 269 [(.int .u64 E),(.int .u64 0),(.int .u64 cy)] h λx6 A=>∃s:Int,∃z:Int,x6=(.tuple ⟨[(.int .u64 s),(.int .u64 z)]⟩)/\xR (az SS.P 260 1 [(0,(.int .u64 s))]) A λz1 R G t=>xE (aJ SS.P 260 260 (.slice r g j) (sA (A.next) R G) t) t λy2 x3 x7 z0 x0=>aH (Kw (da a n c b m d e) f) k [(.slice a n c),(.slice b m d),(.func (.func 269) ⟨[]⟩ ⟨[]⟩),(.slice y2 x3 x7),(.int .u64 z),(.int .i64 e),(.int .i64 (wrap .i64 ((i:Int)+1)))] x0)) (aS (decide (((i:Int):Int)<(m:Int))) (xP (ai SS.P 260 (.slice b m d) (iA i)) λx2=>xI .u64 (ae SS.P 240 h (.pointer (some x2))) λM=>FW SS 269 [(.int .u64 0),(.int .u64 M),(.int .u64 cy)] h λy0 q=>∃l:Int,∃p:Int,y0=(.tuple ⟨[(.int .u64 l),(.int .u64 p)]⟩)/\xR (az SS.P 260 1 [(0,(.int .u64 l))]) q λy8 x8 H x=>xE (aJ SS.P 260 260 (.slice r g j) (sA (q.next) x8 H) x) x λV y3 T y4 K=>aH (Kw (da a n c b m d e) f) k [(.slice a n c),(.slice b m d),(.func (.func 269) ⟨[]⟩ ⟨[]⟩),(.slice V y3 T),(.int .u64 p),(.int .i64 e),(.int .i64 (wrap .i64 ((i:Int)+1)))] K) (FW SS 269 [(.int .u64 0),(.int .u64 0),(.int .u64 cy)] h λJ y=>∃v:Int,∃w:Int,J=(.tuple ⟨[(.int .u64 v),(.int .u64 w)]⟩)/\xR (az SS.P 260 1 [(0,(.int .u64 v))]) y λy5 Y x4 u=>xE (aJ SS.P 260 260 (.slice r g j) (sA (y.next) Y x4) u) u λx5 x1 I y7 O=>aH (Kw (da a n c b m d e) f) k [(.slice a n c),(.slice b m d),(.func (.func 269) ⟨[]⟩ ⟨[]⟩),(.slice x5 x1 I),(.int .u64 w),(.int .i64 e),(.int .i64 (wrap .i64 ((i:Int)+1)))] O))) (FW SS 210 [(.slice r g j)] h λx9 W=>yL x9 λC P Z=>Q (.slice C P Z) W))(k:Nat){i:Nat}{cy:Int}{r:OA}{g j:Nat}{h:aa}(B:f k i cy r g j h):LL SS gW [1,1,1,0,1,0,0] (da a n c b m d e i cy r g j) h (KK SS gW [1,1,1,0,1,0] [] (EE SS gW Q)):=
 Vc (da a n c b m d e) f (λk i cy r g j X h B=>av (step k i cy r g j X h B)) k B
noncomputable def Qr:FD:=dY Tryz.f240 []
theorem LQ(a:OA)(n c:Nat)(b:OA)(m d:Nat)(h:aa)(Q:VH)(e:FW SS 266 [(.slice a n c),(.slice b m d),(.func (.func 267) ⟨[]⟩ ⟨[]⟩)] h λi f=>yL i λg j k=>Q (.slice g j k) f):FW SS 240 [(.slice a n c),(.slice b m d)] h Q:=eh Qr Tryz.func240 (av e)
noncomputable def LP:FD:=dY Tryz.f242 []
theorem Jc(a:OA)(n c:Nat)(b:OA)(m d:Nat)(h:aa)(Q:VH)(e:FW SS 266 [(.slice a n c),(.slice b m d),(.func (.func 269) ⟨[]⟩ ⟨[]⟩)] h λi f=>yL i λg j k=>Q (.slice g j k) f):FW SS 242 [(.slice a n c),(.slice b m d)] h Q:=eh LP Tryz.func242 (av e)
noncomputable def Gm:FD:=dY Tryz.f209 []
theorem Dm(a:OA)(n c:Nat)(h:aa)(Q:VH)(e:FW SS 239 [(.slice a n c)] h λf b=>yS f λd=>aS (decide ((((d:LB).length:Int):Int)>1000)) (Q (.tuple ⟨[(strOf []),(.int .i64 2)]⟩) b) (Q (.tuple ⟨[(strOf d),(.int .i64 0)]⟩) b)):FW SS 209 [(.slice a n c)] h Q:=eh Gm Tryz.func209 (av e)
noncomputable def T9:FD:=dY Tryz.f206 []
theorem Qm(l m:LB)(h:aa)(Q:VH)(v:FW SS 203 [(strOf l)] h λw g=>yB w λs=>aS (!s) (Q (.int .i64 0) g) (FW SS 203 [(strOf m)] g λr n=>yB r λt=>aS (!t) (Q (.int .i64 0) n) (FW SS 208 [(strOf l)] n λp u=>yL p λq d k=>FW SS 208 [(strOf m)] u λa j=>yL a λb c i=>FW SS 241 [(.slice q d k),(.slice b c i)] j λo e=>yI .i64 o λf=>Q (.int .i64 f) e))):FW SS 206 [(strOf l),(strOf m)] h Q:=eh T9 Tryz.func206 (av v)
noncomputable def T8:FD:=dY Tryz.f205 []
theorem Qj(l m:LB)(h:aa)(Q:VH)(B:FW SS 203 [(strOf l)] h λC j=>yB C λy=>aS (!y) (Q (.tuple ⟨[(strOf []),(.int .i64 1)]⟩) j) (FW SS 203 [(strOf m)] j λx s=>yB x λz=>aS (!z) (Q (.tuple ⟨[(strOf []),(.int .i64 1)]⟩) s) (FW SS 208 [(strOf l)] s λv A=>yL v λw g r=>FW SS 208 [(strOf m)] A λd o=>yL d λe f k=>FW SS 240 [(.slice w g r),(.slice e f k)] o λu i=>yL u λp q c=>FW SS 209 [(.slice p q c)] i λt n=>∃b:LB,∃a:Int,t=(.tuple ⟨[(strOf b),(.int .i64 a)]⟩)/\Q (.tuple ⟨[(strOf b),(.int .i64 a)]⟩) n))):FW SS 205 [(strOf l),(strOf m)] h Q:=eh T8 Tryz.func205 (av B)
noncomputable def Ua:FD:=dY Tryz.f207 []
theorem Qs(l m:LB)(h:aa)(Q:VH)(D:FW SS 203 [(strOf l)] h λE o=>yB E λA=>aS (!A) (Q (.tuple ⟨[(strOf []),(.int .i64 1)]⟩) o) (FW SS 203 [(strOf m)] o λz w=>yB z λB=>aS (!B) (Q (.tuple ⟨[(strOf []),(.int .i64 1)]⟩) w) (FW SS 208 [(strOf l)] w λy C=>yL y λi c f=>FW SS 208 [(strOf m)] C λg v=>yL g λa b e=>FW SS 241 [(.slice i c f),(.slice a b e)] v λx d=>yI .i64 x λn=>aS (decide ((n:Int)<0)) (Q (.tuple ⟨[(strOf []),(.int .i64 4)]⟩) d) (FW SS 242 [(.slice i c f),(.slice a b e)] d λs j=>yL s λp q t=>FW SS 239 [(.slice p q t)] j λr u=>yS r λk=>Q (.tuple ⟨[(strOf k),(.int .i64 0)]⟩) u)))):FW SS 207 [(strOf l),(strOf m)] h Q:=eh Ua Tryz.func207 (av D)
noncomputable def dG:FD:=dY Tryz.f172 [([1,1,1,1,0,1,0,0],[6,7,8,33,34]),([1,1,1,1,0,1,0,0,1,1,0,0,1,1,1,0,0],[6,7,8,9,10,33,34,39,40])]
abbrev fx(a:OA)(n c:Nat)(b:OA)(k d:Nat)(t:OA)(tn tc:Nat)(e:Int)(i:Nat):LV:=[(.slice a n c),(.slice b k d),(.slice t tn tc),(.int .i64 e),(iA i)]
abbrev gZ(a:OA)(n c:Nat)(b:OA)(k d:Nat)(t:OA)(tn tc:Nat)(f:Int)(i:Nat)(e:Int)(j:Nat)(cy:Int):LV:=[(.slice a n c),(.slice b k d),(.slice t tn tc),(iA i),(.int .u64 cy),(.int .i64 f),(iA i),(.int .i64 e),(iA j)]
theorem Qq(l m:LB)(h:aa)(Q:VH)(v:FW SS 203 [(strOf l)] h λw g=>yB w λs=>aS (!s) (Q (.tuple ⟨[(strOf []),(.int .i64 1)]⟩) g) (FW SS 203 [(strOf m)] g λr o=>yB r λt=>aS (!t) (Q (.tuple ⟨[(strOf []),(.int .i64 1)]⟩) o) (FW SS 208 [(strOf l)] o λp u=>yL p λq a n=>FW SS 208 [(strOf m)] u λd c=>yL d λe b i=>xR (aX SS.P 260 (.int .i64 (wrap .i64 (wrap .i64 ((a:Int)+(b:Int))+1))) (.int .i64 (wrap .i64 (wrap .i64 ((a:Int)+(b:Int))+1)))) c λx f j k=>LL SS dG [1,1,1,1,0,1,0,0] (fx q a n e b i (some ⟨c.next,0,none⟩) f j (a:Int) 0) k (KK SS dG [1,1,1,1,0,1,0] [] (EE SS dG Q))))):FW SS 172 [(strOf l),(strOf m)] h Q:=eh dG Tryz.func172 (av v)
theorem vR(l m:LB)(a:OA)(n c:Nat)(b:OA)(k d:Nat)(t:OA)(tn tc:Nat)(e:Int)(g:Nat->Nat->aa->Prop)(Q:VH)(step:∀(f:Nat) (i:Nat) (w:Nat->Value) (h:aa),g f i h->aS (decide (((i:Int):Int)<e)) (LL SS dG [1,1,1,1,0,1,0,0,1,1,0,0,1,1,1,0,0] (gZ a n c b k d t tn tc e i (wrap .i64 ((k:Int)+1)) 0 0) h (KK SS dG [1,1,0,0,1,1,1,0] [1,1,1,1,0,1,0,0] (RR dG [1,1,1,1,0,1,0,0] (fD (fx a n c b k d t tn tc e) g) f (KK SS dG [1,1,1,1,0,1,0] [] (EE SS dG Q))))) (FW SS 210 [(.slice t tn tc)] h λs x=>yL s λy u q=>FW SS 209 [(.slice y u q)] x λv r=>∃o:LB,∃j:Int,v=(.tuple ⟨[(strOf o),(.int .i64 j)]⟩)/\Q (.tuple ⟨[(strOf o),(.int .i64 j)]⟩) r))(f:Nat){i:Nat}{h:aa}(p:g f i h):LL SS dG [1,1,1,1,0,1,0,0] (fx a n c b k d t tn tc e i) h (KK SS dG [1,1,1,1,0,1,0] [] (EE SS dG Q)):=
 dN (fx a n c b k d t tn tc e) g (λf i w h p=>av (step f i w h p)) f p
theorem vS(l m:LB)(a:OA)(n c:Nat)(b:OA)(k d:Nat)(t:OA)(tn tc:Nat)(f:Int)(q:Nat->Nat->aa->Prop)(x i:Nat)(e:Int)(o:Nat->Nat->Int->aa->Prop)(Q:VH)(step:∀(g:Nat) (j:Nat) (cy:Int) (B:Nat->Value) (h:aa),o g j cy h->aS (decide (((j:Int):Int)<e)) (xP (ai SS.P 260 (.slice t tn tc) (.int .i64 (wrap .i64 ((i:Int)+(j:Int))))) λz=>xI .u64 (ae SS.P 240 h (.pointer (some z))) λp=>aS (decide (((j:Int):Int)<(k:Int))) (xP (ai SS.P 260 (.slice a n c) (iA i)) λC=>xI .u64 (ae SS.P 240 (room h 12) (.pointer (some C))) λs=>xP (ai SS.P 260 (.slice b k d) (iA j)) λG=>xI .u64 (ae SS.P 240 (room h 12) (.pointer (some G))) λr=>xI .u64 (ax SS.P .rem 240 (.int .u64 (wrap .u64 (wrap .u64 (p+cy)+wrap .u64 (s*r)))) (.int .u64 1000000000)) λv=>xI .u64 (ax SS.P .quo 240 (.int .u64 (wrap .u64 (wrap .u64 (p+cy)+wrap .u64 (s*r)))) (.int .u64 1000000000)) λA=>xP (ai SS.P 260 (.slice t tn tc) (.int .i64 (wrap .i64 ((i:Int)+(j:Int))))) λH=>xU (aj SS.P 240 (.pointer (some H)) (.int .u64 v) (room h 12)) (room h 12) λI w=>aH (qu (gZ a n c b k d t tn tc f i e) o) g [(.slice a n c),(.slice b k d),(.slice t tn tc),(iA i),(.int .u64 A),(.int .i64 f),(iA i),(.int .i64 e),(.int .i64 (wrap .i64 ((j:Int)+1)))] w) (xI .u64 (ax SS.P .rem 240 (.int .u64 (wrap .u64 (p+cy))) (.int .u64 1000000000)) λE=>xI .u64 (ax SS.P .quo 240 (.int .u64 (wrap .u64 (p+cy))) (.int .u64 1000000000)) λy=>xP (ai SS.P 260 (.slice t tn tc) (.int .i64 (wrap .i64 ((i:Int)+(j:Int))))) λF=>xU (aj SS.P 240 (.pointer (some F)) (.int .u64 E) h) h λJ D=>aH (qu (gZ a n c b k d t tn tc f i e) o) g [(.slice a n c),(.slice b k d),(.slice t tn tc),(iA i),(.int .u64 y),(.int .i64 f),(iA i),(.int .i64 e),(.int .i64 (wrap .i64 ((j:Int)+1)))] D)) (aH (fD (fx a n c b k d t tn tc f) q) x [(.slice a n c),(.slice b k d),(.slice t tn tc),(.int .i64 f),(.int .i64 (wrap .i64 ((i:Int)+1)))] h))(g:Nat){j:Nat}{cy:Int}{h:aa}(u:o g j cy h):LL SS dG [1,1,1,1,0,1,0,0,1,1,0,0,1,1,1,0,0] (gZ a n c b k d t tn tc f i e j cy) h (KK SS dG [1,1,0,0,1,1,1,0] [1,1,1,1,0,1,0,0] (RR dG [1,1,1,1,0,1,0,0] (fD (fx a n c b k d t tn tc f) q) x (KK SS dG [1,1,1,1,0,1,0] [] (EE SS dG Q)))):=
 oJ (gZ a n c b k d t tn tc f i e) o (λg j cy B h u=>av (step g j cy B h u)) g u
variable{x:List Nat}{y:List Nat}
theorem UD(x y z:Nat)(f:x<BB)(i:y<BB)(g:z<=1)(h:aa):FW SS 267 [.int .u64 (x:Int),.int .u64 (y:Int),.int .u64 (z:Int)] h (λv c=>v = .tuple ⟨[uv (aP BB x y z).1,uv (aP BB x y z).2]⟩/\c=h):=by
 have e:BB=1000000000:=rfl;have a:wrap .u64 ((x:Int)+(y:Int))=((x+y:Nat):Int):=by rw[<-Int.natCast_add];exact eg (by omega) (by omega)
 have d:wrap .u64 (((x+y:Nat):Int)+(z:Int))=((x+y+z:Nat):Int):=by rw[<-Int.natCast_add];exact eg (by omega) (by omega)
 refine UB _ _ _ h _ ?_;rw[a,d];refine⟨_,fR (b:=BB) (by omega) (by decide),_,nK (b:=BB) (by omega) (by omega) (by decide),?_,rfl⟩;unfold uv aP;rw[natCast_emod,natCast_ediv]
theorem Qc(x y z:Nat)(j:x<BB)(m:y<BB)(l:z<=1)(h:aa):FW SS 269 [.int .u64 (x:Int),.int .u64 (y:Int),.int .u64 (z:Int)] h (λv f=>v = .tuple ⟨[uv (bF BB x y z).1,uv (bF BB x y z).2]⟩/\f=h):=by
 have i:BB=1000000000:=rfl;have a:x+BB-y-z<2*BB:=by omega
 have c:wrap .u64 ((x:Int)+1000000000)=((x+BB:Nat):Int):=by rw[eg (by omega) (by omega)];omega
 have e:wrap .u64 (((x+BB:Nat):Int)-(y:Int))=((x+BB-y:Nat):Int):=by rw[eg (by omega) (by omega)];omega
 have d:wrap .u64 (((x+BB-y:Nat):Int)-(z:Int))=((x+BB-y-z:Nat):Int):=by rw[eg (by omega) (by omega)];omega
 refine Qb _ _ _ h _ ?_;rw[c,e,d];refine⟨_,fR (b:=BB) (by omega) (by decide),_,nK (b:=BB) (by omega) (by omega) (by decide),?_,rfl⟩;unfold uv bF;dsimp only;generalize x+BB-y-z=q at*;have k:q/BB<=1:=by
  have:q/BB<2:=div_lt_of_lt_mul (by omega);omega
 have g:wrap .u64 (1-(q:Int)/(BB:Int))=((1-q/BB:Nat):Int):=by
  rw[<-natCast_ediv];clear a c e d;generalize q/BB=r at*;rw[eg (by omega) (by omega)];omega
 rw[g,natCast_emod]
theorem Y8{c:Nat}(b:n<BB)(a:m<BB)(d:c<=1):(aP BB n m c).2<=1:=by
 show(n+m+c)/BB<=1;have:(n+m+c)/BB<2:=div_lt_of_lt_mul (by omega);omega
theorem T3{c:Nat}(b:n<BB)(a:m<BB)(d:c<=1):(bF BB n m c).2<=1:=(oS eY b a d).2
theorem Il{b:Option Addr}{c:Nat}(V:Rd h 240 (.slice a n c) (x.map uv))(I:Rd h 240 (.slice b m k) (y.map uv))(Q:∀k∈x,k<BB)(hy:∀k∈y,k<BB)(x2:x.length<=10000)(x4:y.length<=10000)(w:Wf h){R:Nat}(fin:cM (bq (aP BB) x y 0 (max x.length y.length+1) 0)=aF BB R):
  FW SS 266 [.slice a n c,.slice b m k,.func (.func 267) ⟨[]⟩ ⟨[]⟩] h (jK h 240 (bl R)):=by
 have hn:n=x.length:=by have:=V.len;rwa[lM]at this
 have hm:m=y.length:=by have:=I.len;rwa[lM]at this
 rw[<-hn,<-hm]at fin;have W:∀j,eH (aP BB) x y 0 0 j<=1:=by
  intro j
  induction j with
  |zero=>exact zero_le _
  |succ j ih=>exact Y8 (bo (by decide) Q _) (bo (by decide) hy _) ih
 have x3:n<=max n m/\m<=max n m:=⟨Nat.le_max_left _ _,Nat.le_max_right _ _⟩
 have x1:max n m<=10000:=Nat.max_le.2 ⟨by omega,by omega⟩;have J:(if(m:Int)>(n:Int)then(m:Int)else(n:Int))=((max n m:Nat):Int):=by split<;>omega
 generalize max n m=N at*;have L:=su a n c b m k ((N:Int)+1) (λz i cy r P S g=>i<=N+1/\z=N+1-i/\cy=(eH (aP BB) x y 0 0 i:Nat)/\fi h g 240 (.slice r P S) ((bq (aP BB) x y 0 i 0).map uv)/\Ok h g) (jK h 240 (bl R)) (by
  intro z i cy r P S;intros;rename_i g hi;obtain⟨h1,h2,rfl,A,o⟩:=hi;have O:wrap .i64 ((i:Int)+1)=((i+1:Nat):Int):=by rw[aO (by omega) (by omega)];omega
  rw[O];have l:(bq (aP BB) x y 0 i 0).length=i:=gO _ _ _ _ _ _;have e:=jk (aP BB) x y i 0 0;rw[zero_add]at e;have d:eH (aP BB) x y 0 0 (i+1)=(aP BB (x.getD i 0) (y.getD i 0) (eH (aP BB) x y 0 0 i)).2:=by
   show(aP BB (x.getD (0+i) 0) (y.getD (0+i) 0) _).2=_;rw[zero_add]
  have X:=W i;have t:=UD (x.getD i 0) (y.getD i 0) (eH (aP BB) x y 0 0 i) (bo (by decide) Q _) (bo (by decide) hy _) X g;refine ah (λD=>?_) (λD=>?_)
  ·have D:=dT D;refine ah (λC=>?_) (λC=>?_)
   ·have C:=dT C;obtain⟨q,M,Z⟩:=DV (V.ok o) (i:=(i:Int)) (by omega) (by omega);rw[toNat_natCast]at Z;refine⟨q,M,_,Z,ah (λf=>?_) (λf=>?_)⟩
    ·have f:=dT f;obtain⟨H,E,B⟩:=DV (I.ok o) (i:=(i:Int)) (by omega) (by omega);rw[toNat_natCast]at B;refine⟨H,E,_,B,t.mono ?_⟩;rintro _ _ ⟨rfl,rfl⟩;refine⟨_,_,rfl,_,_,_,qf _,?_⟩;obtain⟨b,m,k,u,s,F,p,v⟩:=jA w o A ((aP BB (x.getD i 0) (y.getD i 0) (eH (aP BB) x y 0 0 i)).1:Nat) (by rw[lM,l];omega);refine⟨b,m,k,u,s,sW (z-1) (by omega) ⟨by omega,by omega,by rw[d],?_,v⟩⟩;rw[e,map_append];exact p
    ·have f:=dF f;have G:y.getD i 0=0:=by rw[gD,getElem?_eq_none (by omega)];rfl
     rw[G]at t e d;refine t.mono ?_;rintro _ _ ⟨rfl,rfl⟩;refine⟨_,_,rfl,_,_,_,qf _,?_⟩;obtain⟨b,m,k,u,s,F,p,v⟩:=jA w o A ((aP BB (x.getD i 0) 0 (eH (aP BB) x y 0 0 i)).1:Nat) (by rw[lM,l];omega);refine⟨b,m,k,u,s,sW (z-1) (by omega) ⟨by omega,by omega,by rw[d],?_,v⟩⟩;rw[e,map_append];exact p
   ·have C:=dF C;have x0:x.getD i 0=0:=by rw[gD,getElem?_eq_none (by omega)];rfl
    rw[x0]at t e d;refine ah (λf=>?_) (λf=>?_)
    ·have f:=dT f;obtain⟨H,E,B⟩:=DV (I.ok o) (i:=(i:Int)) (by omega) (by omega);rw[toNat_natCast]at B;refine⟨H,E,_,B,t.mono ?_⟩;rintro _ _ ⟨rfl,rfl⟩;refine⟨_,_,rfl,_,_,_,qf _,?_⟩;obtain⟨b,m,k,u,s,F,p,v⟩:=jA w o A ((aP BB 0 (y.getD i 0) (eH (aP BB) x y 0 0 i)).1:Nat) (by rw[lM,l];omega);refine⟨b,m,k,u,s,sW (z-1) (by omega) ⟨by omega,by omega,by rw[d],?_,v⟩⟩;rw[e,map_append];exact p
    ·have f:=dF f;have G:y.getD i 0=0:=by rw[gD,getElem?_eq_none (by omega)];rfl
     rw[G]at t e d;refine t.mono ?_;rintro _ _ ⟨rfl,rfl⟩;refine⟨_,_,rfl,_,_,_,qf _,?_⟩;obtain⟨b,m,k,u,s,F,p,v⟩:=jA w o A ((aP BB 0 0 (eH (aP BB) x y 0 0 i)).1:Nat) (by rw[lM,l];omega);refine⟨b,m,k,u,s,sW (z-1) (by omega) ⟨by omega,by omega,by rw[d],?_,v⟩⟩;rw[e,map_append];exact p
  ·have D:=dF D;obtain rfl:i=N+1:=by omega
   refine(pC A (by rw[l];omega)).mono ?_;rintro _ M ⟨U,T,K,rfl,Y,rfl⟩;rw[fin]at Y;exact⟨U,T,K,rfl,U,T,K,rfl,Y,o⟩)
 refine Ik a n c b m k h _ ⟨_,vN _ _ _,?_⟩;have hw:wrap .i64 ((N:Int)+1)=(N:Int)+1:=aO (by omega) (by omega);dsimp only;rw[J,hw];exact L (N+1) (i:=0) ⟨by omega,by omega,rfl,.inl ⟨rfl,rfl⟩,Ok.refl w⟩
theorem Fz{b:Option Addr}{c:Nat}(V:Rd h 240 (.slice a n c) (x.map uv))(I:Rd h 240 (.slice b m k) (y.map uv))(Q:∀k∈x,k<BB)(hy:∀k∈y,k<BB)(x2:x.length<=10000)(x4:y.length<=10000)(w:Wf h){R:Nat}(fin:cM (bq (bF BB) x y 0 (max x.length y.length+1) 0)=aF BB R):
  FW SS 266 [.slice a n c,.slice b m k,.func (.func 269) ⟨[]⟩ ⟨[]⟩] h (jK h 240 (bl R)):=by
 have hn:n=x.length:=by have:=V.len;rwa[lM]at this
 have hm:m=y.length:=by have:=I.len;rwa[lM]at this
 rw[<-hn,<-hm]at fin;have W:∀j,eH (bF BB) x y 0 0 j<=1:=by
  intro j
  induction j with
  |zero=>exact zero_le _
  |succ j ih=>exact T3 (bo (by decide) Q _) (bo (by decide) hy _) ih
 have x3:n<=max n m/\m<=max n m:=⟨Nat.le_max_left _ _,Nat.le_max_right _ _⟩
 have x1:max n m<=10000:=Nat.max_le.2 ⟨by omega,by omega⟩;have J:(if(m:Int)>(n:Int)then(m:Int)else(n:Int))=((max n m:Nat):Int):=by split<;>omega
 generalize max n m=N at*;have L:=qL a n c b m k ((N:Int)+1) (λz i cy r P S g=>i<=N+1/\z=N+1-i/\cy=(eH (bF BB) x y 0 0 i:Nat)/\fi h g 240 (.slice r P S) ((bq (bF BB) x y 0 i 0).map uv)/\Ok h g) (jK h 240 (bl R)) (by
  intro z i cy r P S;intros;rename_i g hi;obtain⟨h1,h2,rfl,A,o⟩:=hi;have O:wrap .i64 ((i:Int)+1)=((i+1:Nat):Int):=by rw[aO (by omega) (by omega)];omega
  rw[O];have l:(bq (bF BB) x y 0 i 0).length=i:=gO _ _ _ _ _ _;have e:=jk (bF BB) x y i 0 0;rw[zero_add]at e;have d:eH (bF BB) x y 0 0 (i+1)=(bF BB (x.getD i 0) (y.getD i 0) (eH (bF BB) x y 0 0 i)).2:=by
   show(bF BB (x.getD (0+i) 0) (y.getD (0+i) 0) _).2=_;rw[zero_add]
  have X:=W i;have t:=Qc (x.getD i 0) (y.getD i 0) (eH (bF BB) x y 0 0 i) (bo (by decide) Q _) (bo (by decide) hy _) X g;refine ah (λD=>?_) (λD=>?_)
  ·have D:=dT D;refine ah (λC=>?_) (λC=>?_)
   ·have C:=dT C;obtain⟨q,M,Z⟩:=DV (V.ok o) (i:=(i:Int)) (by omega) (by omega);rw[toNat_natCast]at Z;refine⟨q,M,_,Z,ah (λf=>?_) (λf=>?_)⟩
    ·have f:=dT f;obtain⟨H,E,B⟩:=DV (I.ok o) (i:=(i:Int)) (by omega) (by omega);rw[toNat_natCast]at B;refine⟨H,E,_,B,t.mono ?_⟩;rintro _ _ ⟨rfl,rfl⟩;refine⟨_,_,rfl,_,_,_,qf _,?_⟩;obtain⟨b,m,k,u,s,F,p,v⟩:=jA w o A ((bF BB (x.getD i 0) (y.getD i 0) (eH (bF BB) x y 0 0 i)).1:Nat) (by rw[lM,l];omega);refine⟨b,m,k,u,s,sW (z-1) (by omega) ⟨by omega,by omega,by rw[d],?_,v⟩⟩;rw[e,map_append];exact p
    ·have f:=dF f;have G:y.getD i 0=0:=by rw[gD,getElem?_eq_none (by omega)];rfl
     rw[G]at t e d;refine t.mono ?_;rintro _ _ ⟨rfl,rfl⟩;refine⟨_,_,rfl,_,_,_,qf _,?_⟩;obtain⟨b,m,k,u,s,F,p,v⟩:=jA w o A ((bF BB (x.getD i 0) 0 (eH (bF BB) x y 0 0 i)).1:Nat) (by rw[lM,l];omega);refine⟨b,m,k,u,s,sW (z-1) (by omega) ⟨by omega,by omega,by rw[d],?_,v⟩⟩;rw[e,map_append];exact p
   ·have C:=dF C;have x0:x.getD i 0=0:=by rw[gD,getElem?_eq_none (by omega)];rfl
    rw[x0]at t e d;refine ah (λf=>?_) (λf=>?_)
    ·have f:=dT f;obtain⟨H,E,B⟩:=DV (I.ok o) (i:=(i:Int)) (by omega) (by omega);rw[toNat_natCast]at B;refine⟨H,E,_,B,t.mono ?_⟩;rintro _ _ ⟨rfl,rfl⟩;refine⟨_,_,rfl,_,_,_,qf _,?_⟩;obtain⟨b,m,k,u,s,F,p,v⟩:=jA w o A ((bF BB 0 (y.getD i 0) (eH (bF BB) x y 0 0 i)).1:Nat) (by rw[lM,l];omega);refine⟨b,m,k,u,s,sW (z-1) (by omega) ⟨by omega,by omega,by rw[d],?_,v⟩⟩;rw[e,map_append];exact p
    ·have f:=dF f;have G:y.getD i 0=0:=by rw[gD,getElem?_eq_none (by omega)];rfl
     rw[G]at t e d;refine t.mono ?_;rintro _ _ ⟨rfl,rfl⟩;refine⟨_,_,rfl,_,_,_,qf _,?_⟩;obtain⟨b,m,k,u,s,F,p,v⟩:=jA w o A ((bF BB 0 0 (eH (bF BB) x y 0 0 i)).1:Nat) (by rw[lM,l];omega);refine⟨b,m,k,u,s,sW (z-1) (by omega) ⟨by omega,by omega,by rw[d],?_,v⟩⟩;rw[e,map_append];exact p
  ·have D:=dF D;obtain rfl:i=N+1:=by omega
   refine(pC A (by rw[l];omega)).mono ?_;rintro _ M ⟨U,T,K,rfl,Y,rfl⟩;rw[fin]at Y;exact⟨U,T,K,rfl,U,T,K,rfl,Y,o⟩)
 refine Fy a n c b m k h _ ⟨_,vN _ _ _,?_⟩;have hw:wrap .i64 ((N:Int)+1)=(N:Int)+1:=aO (by omega) (by omega);dsimp only;rw[J,hw];exact L (N+1) (i:=0) ⟨by omega,by omega,rfl,.inl ⟨rfl,rfl⟩,Ok.refl w⟩
theorem LR{b:Option Addr}{c:Nat}(v:Rd h 240 (.slice a n c) (bl i))(s:Rd h 240 (.slice b m k) (bl j))(d:(aF BB i).length<=10000)(l:(aF BB j).length<=10000)(w:Wf h):FW SS 240 [.slice a n c,.slice b m k] h (jK h 240 (bl (i+j))):=by
 have f:=cr eY i;have e:=cr eY j;refine LQ a n c b m k h _ ((Il v s f e d l w (R:=i+j) ?_).mono ?_)
 ·have y:=Nat.le_max_left (aF BB i).length (aF BB j).length;have z:=Nat.le_max_right (aF BB i).length (aF BB j).length;rw[iS eY (jH (λp q c=>mod_lt _ (by decide)) _ _ _ 0 0),DG eY f e _ 0 0 (by omega) (by omega) (by omega) (by omega),drop_zero,drop_zero,bK eY,bK eY];rfl
 ·rintro _ g ⟨u,t,r,rfl,o,x⟩;exact⟨_,_,_,rfl,u,t,r,rfl,o,x⟩
theorem Jd{b:Option Addr}{c:Nat}(y:Rd h 240 (.slice a n c) (bl i))(u:Rd h 240 (.slice b m k) (bl j))(d:j<=i)(e:(aF BB i).length<=10000)(r:(aF BB j).length<=10000)(w:Wf h):FW SS 242 [.slice a n c,.slice b m k] h (jK h 240 (bl (i-j))):=by
 have l:=cr eY i;have f:=cr eY j;refine Jc a n c b m k h _ ((Fz y u l f e r w (R:=i-j) ?_).mono ?_)
 ·have A:=Nat.le_max_left (aF BB i).length (aF BB j).length;have B:=Nat.le_max_right (aF BB i).length (aF BB j).length;rw[iS eY (jH (λp q c=>mod_lt _ (by decide)) _ _ _ 0 0)];have t:=KD eY l f (max (aF BB i).length (aF BB j).length+1) 0 0 (by omega) (by omega) (by omega) (by rw[drop_zero,drop_zero,bK eY,bK eY];exact d);rw[drop_zero,drop_zero,bK eY,bK eY]at t;congr 1;omega
 ·rintro _ g ⟨x,v,s,rfl,o,z⟩;exact⟨_,_,_,rfl,x,v,s,rfl,o,z⟩
def vJ(X:Nat):Value:=if 1000<(aC X).length then E1 [] 2 else E1 (aC X) 0
def KM(a b:List UInt8):Value:=if aM a=true/\aM b=true then vJ (Num.val a+Num.val b)else E1 [] 1
def LO(a b:List UInt8):Value:=if aM a=true/\aM b=true then vJ (Num.val a*Num.val b)else E1 [] 1
def MP(a b:List UInt8):Value:=if aM a=true/\aM b=true then(if Num.val a<Num.val b then E1 [] 4 else E1 (aC (Num.val a-Num.val b)) 0)else E1 [] 1
def K7(a b:List UInt8):Value:=if aM a=true/\aM b=true then .int .i64 (eG (Num.val a) (Num.val b))else .int .i64 0
theorem sY{c:Nat}(f:Rd h 240 (.slice a n c) (bl m))(d:(aF BB m).length<=10000)(t:rK h)(w:Wf h):FW SS 209 [.slice a n c] h (λv i=>v=vJ m/\Ok h i):=by
 refine Dm a n c h _ ((tX f d t w).mono ?_);rintro _ g ⟨rfl,e⟩;refine⟨_,rfl,ah (λb=>?_) (λb=>?_)⟩
 ·have b:=dT b;refine⟨?_,e⟩;unfold vJ;rw[if_pos (by omega)];rfl
 ·have b:=dF b;refine⟨?_,e⟩;unfold vJ;rw[if_neg (by omega)];rfl
structure aev(a b:List UInt8)(X Y:Nat):Prop where
 va:aM a=true
 vb:aM b=true
 ea:Num.val a=X
 eb:Num.val b=Y
 lx:(aF BB X).length<=112
 ly:(aF BB Y).length<=112
theorem ZJ{a b:List UInt8}(c:aM a=true)(d:aM b=true):aev a b (Num.val a) (Num.val b):=by
 obtain⟨X,_,f,g⟩:=mr c;obtain⟨Y,_,e,h⟩:=mr d;exact⟨c,d,rfl,rfl,by rw[g];exact nO f,by rw[h];exact nO e⟩
theorem kT{a:List UInt8}(c:aM a=true){h:aa}(w:Wf h):FW SS 208 [strOf a] h (jK h 240 (bl (Num.val a))):=by
 have b:=(kO.1 c)
 exact pB a b.1.2.1 (Nat.le_trans b.2 (by omega)) h w
theorem ZG(c:(aF BB n).length<=112)(d:(aF BB m).length<=112):(aF BB (n+m)).length<=10000:=by
 have a:=dV (cr eY n);have b:=dV (cr eY m);rw[bK eY]at a b;have e:=lt_of_lt_of_le a (pow_le_pow_right (show 0<BB by decide) c);have f:=lt_of_lt_of_le b (pow_le_pow_right (show 0<BB by decide) d);refine Nat.le_trans (jm eY (k:=113) ?_) (by omega);rw[pow_succ];have g:2*BB^112<=BB^112*BB:=by rw[mul_comm];exact Nat.mul_le_mul_left _ (by decide)
 generalize BB^112=M at*;omega
theorem V0(h:n<=m):(aF BB n).length<=(aF BB m).length:=Nat.le_of_not_lt λg=>absurd (jo eY g) (Nat.not_lt.2 h)
theorem IX(X:Nat):∃l n,vJ X=E1 l n:=by
 unfold vJ;split<;>exact⟨_,_,rfl⟩
theorem OI(a:∃l n,v=E1 l n){K:Value->Prop}(b:K v):∃(l:List UInt8)(n:Int),v = .tuple ⟨[strOf l,.int .i64 n]⟩/\K (.tuple ⟨[strOf l,.int .i64 n]⟩):=by
 obtain⟨l,n,rfl⟩:=a;exact⟨l,n,rfl,b⟩
theorem Xy{x:Nat}(h:eG x n<0):x<n:=by
 unfold eG at h;split at h<;>omega
theorem Xx{x:Nat}(h:¬eG x n<0):n<=x:=by
 unfold eG at h;split at h<;>omega
theorem Qk(a b:List UInt8){h:aa}(t:rK h)(w:Wf h):FW SS 205 [strOf a,strOf b] h (λv r=>v=KM a b/\Ok h r):=by
 refine Qj a b h _ ((dk a h).mono ?_);rintro _ l ⟨rfl,j⟩;obtain rfl:h=l:=j.symm;refine⟨_,rfl,ah (λg=>?_) (λg=>?_)⟩
 ·have g:aM a=false:=by simpa using g
  refine⟨?_,Ok.refl w⟩;unfold KM;rw[if_neg (λe=>by rw[e.1]at g;cases g)];rfl
 have g:aM a=true:=by simpa using g
 refine(dk b h).mono ?_;rintro _ l ⟨rfl,j⟩;obtain rfl:h=l:=j.symm;refine⟨_,rfl,ah (λc=>?_) (λc=>?_)⟩
 ·have c:aM b=false:=by simpa using c
  refine⟨?_,Ok.refl w⟩;unfold KM;rw[if_neg (λe=>by rw[e.2]at c;cases c)];rfl
 have c:aM b=true:=by simpa using c
 have m:=ZJ g c;have A:=m.lx;have z:=m.ly;refine(kT g w).mono ?_;rintro _ G ⟨N,C,J,rfl,o,f⟩;refine⟨_,_,_,rfl,(kT c f.wf).mono ?_⟩;rintro _ H ⟨E,D,M,rfl,y,i⟩;refine⟨_,_,_,rfl,?_⟩;have x:KM a b=vJ (Num.val a+Num.val b):=by unfold KM;rw[if_pos ⟨g,c⟩]
 rw[x];have p:=o.rd.ok i;have q:=y.rd;have k:=f.trans i;refine(LR p q (by omega) (by omega) k.wf).mono ?_;rintro _ F ⟨I,B,L,rfl,s,d⟩;refine⟨_,_,_,rfl,(sY s.rd (ZG A z) (t.ok (k.trans d)) d.wf).mono ?_⟩;rintro _ u ⟨rfl,n⟩;exact OI (K:=λv=>v=vJ (Num.val a+Num.val b)/\Ok h u) (IX _) ⟨rfl,(k.trans d).trans n⟩
theorem Et(a b:List UInt8){h:aa}(t:rK h)(w:Wf h):FW SS 207 [strOf a,strOf b] h (λv x=>v=MP a b/\Ok h x):=by
 refine Qs a b h _ ((dk a h).mono ?_);rintro _ o ⟨rfl,n⟩;obtain rfl:h=o:=n.symm;refine⟨_,rfl,ah (λg=>?_) (λg=>?_)⟩
 ·have g:aM a=false:=by simpa using g
  refine⟨?_,Ok.refl w⟩;unfold MP;rw[if_neg (λe=>by rw[e.1]at g;cases g)];rfl
 have g:aM a=true:=by simpa using g
 refine(dk b h).mono ?_;rintro _ o ⟨rfl,n⟩;obtain rfl:h=o:=n.symm;refine⟨_,rfl,ah (λc=>?_) (λc=>?_)⟩
 ·have c:aM b=false:=by simpa using c
  refine⟨?_,Ok.refl w⟩;unfold MP;rw[if_neg (λe=>by rw[e.2]at c;cases c)];rfl
 have c:aM b=true:=by simpa using c
 have r:=ZJ g c;have P:=r.lx;have N:=r.ly;refine(kT g w).mono ?_;rintro _ G ⟨O,C,J,rfl,u,k⟩;refine⟨_,_,_,rfl,(kT c k.wf).mono ?_⟩;rintro _ H ⟨E,D,M,rfl,A,l⟩;refine⟨_,_,_,rfl,?_⟩;have z:MP a b=(if Num.val a<Num.val b then E1 [] 4 else E1 (aC (Num.val a-Num.val b)) 0):=by unfold MP;rw[if_pos ⟨g,c⟩]
 rw[z];have p:=u.rd.ok l;have q:=A.rd;have j:=k.trans l;refine(nY p q (by omega) j.wf).mono ?_;rintro _ F ⟨rfl,d⟩;refine⟨_,rfl,ah (λf=>?_) (λf=>?_)⟩
 ·have f:=dT f;rw[if_pos (Xy f)];exact⟨rfl,j.trans d⟩
 ·have f:=dF f;have m:=Xx f;rw[if_neg (Nat.not_lt.2 m)];refine(Jd (p.ok d) (q.ok d) m (by omega) (by omega) d.wf).mono ?_;rintro _ L ⟨I,B,K,rfl,y,i⟩;refine⟨_,_,_,rfl,(tX y.rd (Nat.le_trans (V0 (Nat.sub_le _ _)) (by omega)) (t.ok ((j.trans d).trans i)) i.wf).mono ?_⟩;rintro _ Q ⟨rfl,s⟩;exact⟨_,rfl,rfl,((j.trans d).trans i).trans s⟩
theorem Qn(a b:List UInt8){h:aa}(t:rK h)(w:Wf h):FW SS 206 [strOf a,strOf b] h (λv q=>v=K7 a b/\Ok h q):=by
 refine Qm a b h _ ((dk a h).mono ?_);rintro _ j ⟨rfl,i⟩;obtain rfl:h=j:=i.symm;refine⟨_,rfl,ah (λg=>?_) (λg=>?_)⟩
 ·have g:aM a=false:=by simpa using g
  refine⟨?_,Ok.refl w⟩;unfold K7;rw[if_neg (λe=>by rw[e.1]at g;cases g)]
 have g:aM a=true:=by simpa using g
 refine(dk b h).mono ?_;rintro _ j ⟨rfl,i⟩;obtain rfl:h=j:=i.symm;refine⟨_,rfl,ah (λc=>?_) (λc=>?_)⟩
 ·have c:aM b=false:=by simpa using c
  refine⟨?_,Ok.refl w⟩;unfold K7;rw[if_neg (λe=>by rw[e.2]at c;cases c)]
 have c:aM b=true:=by simpa using c
 have l:=ZJ g c;have G:=l.lx;have E:=l.ly;refine(kT g w).mono ?_;rintro _ A ⟨F,u,C,rfl,n,d⟩;refine⟨_,_,_,rfl,(kT c d.wf).mono ?_⟩;rintro _ B ⟨y,x,D,rfl,s,f⟩;refine⟨_,_,_,rfl,?_⟩;have r:K7 a b = .int .i64 (eG (Num.val a) (Num.val b)):=by unfold K7;rw[if_pos ⟨g,c⟩]
 rw[r];have o:=n.rd.ok f;have p:=s.rd;have m:=d.trans f;refine(nY o p (by omega) m.wf).mono ?_;rintro _ z ⟨rfl,k⟩;exact⟨_,rfl,rfl,m.trans k⟩
theorem WJ:SS.P.underlying 9=some .string:=Tryz.underlying9
theorem Oy(l:List UInt8)(h:aa){b:Nat}(c:b<=l.length):bE SS.P 9 (strOf l) none (some (.int .i64 (b:Int))) none h=some (strOf (l.take b)):=by
 have:=oK (h:=h) WJ l (lo:=none) (hi:=some (.int .i64 (b:Int))) (a:=0) (b:=b) rfl rfl (by omega) c;simpa using this
theorem ES(l:List UInt8)(h:aa){a:Nat}(c:a<=l.length):bE SS.P 9 (strOf l) (some (.int .i64 (a:Int))) none none h=some (strOf (l.drop a)):=by
 have:=oK (h:=h) WJ l (lo:=some (.int .i64 (a:Int))) (hi:=none) (a:=a) (b:=l.length) rfl rfl c (Nat.le_refl _);rw[this,take_of_length_le (by simp)]
theorem PK(l:List UInt8)(h:aa):FW SS 258 [strOf l,strOf [45]] h (λv e=>v = .bool (Num.isNeg l)/\e=h):=by
 refine PJ l [45] h _ (ah (λa=>?_) (λa=>?_))
 ·have a:=dT a;have d:1<=l.length:=by simp only[List.length_cons,List.length_nil]at a;omega
  refine⟨_,Oy l h (b:=1) d,?_,rfl⟩
  cases l with
  |nil=>simp at d
  |cons c l=>
   unfold Num.isNeg;simp only[List.take_succ_cons,take_zero,List.head?_cons];congr 1
   cases f:c==45<;>simp_all
 ·have a:=dF a;have d:l=[]:=List.eq_nil_of_length_eq_zero (by simp at a;omega);subst d;exact⟨rfl,rfl⟩
theorem Lb(l:List UInt8)(h:aa):FW SS 236 [strOf l,strOf [45]] h (λv c=>v = .tuple ⟨[strOf (cq l),.bool (Num.isNeg l)]⟩/\c=h):=by
 refine La l [45] h _ ((PK l h).mono ?_);rintro _ e ⟨rfl,d⟩;obtain rfl:h=e:=d.symm;refine⟨_,rfl,ah (λg=>?_) (λg=>?_)⟩
 ·have g:Num.isNeg l=false:=by simpa using g
  unfold cq;rw[g];exact⟨rfl,rfl⟩
 ·have g:Num.isNeg l=true:=by simpa using g
  have b:1<=l.length:=by
   cases l with
   |nil=>cases g
   |cons=>simp
  refine⟨_,ES l h (a:=1) b,?_,rfl⟩;unfold cq;rw[g];rfl
theorem Pq(l:List UInt8)(h:aa):FW SS 201 [strOf l,strOf [45]] h (λv a=>v = .tuple ⟨[strOf (cq l),.bool (Num.isNeg l)]⟩/\a=h):=by
 refine Pp l [45] h _ ((Lb l h).mono ?_);rintro _ c ⟨rfl,b⟩;exact⟨_,_,rfl,rfl,b⟩
theorem Ll(l:List UInt8):∀i:Nat,findAt 47 l i=if fh 47 l<l.length then((i+fh 47 l:Nat):Int)else -1:=by
 induction l with
 |nil=>intro i;rfl
 | cons c l b=>
  intro i;unfold findAt fh;have a:c.toNat=47↔c=47:=by rw[<-UInt8.toNat_inj];rfl
  by_cases h:c=47
  ·rw[if_pos (a.2 h),if_pos h,if_pos (by simp)];rfl
  ·rw[if_neg (λe=>h (a.1 e)),if_neg h,b (i+1)];have:(fh 47 l+1<(c::l).length)↔fh 47 l<l.length:=by simp
   simp only[this];split
   ·congr 1;omega
   ·rfl
def Tu(l:List UInt8):Int:=if fh 47 l<l.length then(fh 47 l:Int)else -1
theorem IP(l:List UInt8)(h:aa):FW SS 279 [strOf l,.int .u8 47] h (λv a=>v = .int .i64 (Tu l)/\a=h):=by
 refine IN l 47 h _ (rR (p:=hJ) (v:= .int .i64 (Tu l)) (h':=h) (by decide +kernel) (by kernel_rfl) (λb=>?_) ⟨_,rfl,rfl,rfl⟩);show(if(0:Int)<=47/\(47:Int)<256 then some (Value.int .i64 (findAt 47 l 0),h)else none)=_;rw[if_pos (by decide),Ll,zero_add];rfl
theorem PN(l:List UInt8)(h:aa):FW SS 259 [strOf l,strOf [47]] h (λv b=>v = .int .i64 (Tu l)/\b=h):=by
 refine PM l h _ (ah (λa=>?_) (λa=>?_))
 ·have a:([47]:List UInt8)=l:=by simpa using a
  subst a;exact⟨rfl,rfl⟩
 ·refine⟨47,rfl,(IP l h).mono ?_⟩;rintro _ d ⟨rfl,c⟩;exact⟨_,rfl,rfl,c⟩
def Pr(l:List UInt8):Value:=if fh 47 l<l.length then .tuple ⟨[strOf (l.take (fh 47 l)),strOf (l.drop (fh 47 l+1)),.bool true]⟩else .tuple ⟨[strOf l,strOf [],.bool false]⟩
theorem XE(l:List UInt8)(f:l.length<=281474976710656){h:aa}(w:Wf h):FW SS 237 [strOf l,strOf [47]] h (λv b=>v=Pr l/\Ok h b):=by
 refine XD l h _ ((PN l h).mono ?_);rintro _ e ⟨rfl,d⟩;obtain rfl:h=e:=d.symm;refine⟨_,rfl,ah (λg=>?_) (λg=>?_)⟩
 ·have g:=dT g;unfold Tu Pr at*;by_cases a:fh 47 l<l.length
  ·rw[if_pos a,if_pos a];have c:wrap .i64 ((fh 47 l:Int)+1)=((fh 47 l+1:Nat):Int):=by rw[aO (by omega) (by omega)];omega
   rw[c];exact⟨_,Oy l _ (le_of_lt a),_,ES l _ a,rfl,(Ok.refl w).room 12⟩
  ·rw[if_neg a]at g;omega
 ·have g:=dF g;unfold Tu Pr at*;by_cases a:fh 47 l<l.length
  ·rw[if_pos a]at g;omega
  ·rw[if_neg a];exact⟨rfl,Ok.refl w⟩
theorem abc(l:List UInt8)(b:l.length<=281474976710656){h:aa}(w:Wf h):FW SS 202 [strOf l,strOf [47]] h (λv c=>v=Pr l/\Ok h c):=by
 refine abb l h _ ((XE l b w).mono ?_);rintro _ d ⟨rfl,a⟩;unfold Pr;split
 ·exact⟨_,_,_,rfl,rfl,a⟩
 ·exact⟨_,_,_,rfl,rfl,a⟩
end Go.Proofs.YtnlccnpbjeiccaaGreatDoor
end
section
set_option linter.defProp false
namespace Go.Proofs.YtnlccnpbjeiccaaGreatDoor
open Go Go.Ab Go.Num
noncomputable def ti3:TypeInfo:=(SS.P.info? 3).getD default
theorem ab6:SS.P.info? 3=some ti3:=by kernel_rfl
theorem VW:ti3.size=1:=by kernel_rfl
theorem Ro:ti3.bytes=8:=by kernel_rfl
theorem aeo:zeroOf SS.P 3=some (iv 0):=by kernel_rfl
theorem aeP(n:Nat)(a:n<=100000):aX SS.P 27 (.int .i64 (n:Int)) (.int .i64 (n:Int))=some (.cells ((List.replicate n 0).map iv) 3 1 true,jE n n):=by
 unfold aX aT;dsimp only;rw[cO]
 try dsimp only
 change (match SS.P.info? 3,zeroOf SS.P 3 with
  |some i,some z=>(if z.cells.size=i.size/\0<i.size/\(0:Int)<=(n:Int)/\(n:Int)<=(n:Int)/\(n:Int)*i.bytes<=140737488355328/\(n:Int)<=1099511627776 then some (bu.cells (bO z.cells.toList (n:Int).toNat) 3 i.size true,λk=>Value.slice (some ⟨k,0,none⟩) (n:Int).toNat (n:Int).toNat)else none)
  |_,_=>none)=_
 rw[ab6,aeo];dsimp only;rw[VW,Ro,if_pos ⟨rfl,by omega,by omega,Int.le_refl _,by omega,by omega⟩];have e:((n:Int)).toNat=n:=by omega
 rw[e,show(iv 0).cells.toList=[iv 0]from rfl,lA,List.map_replicate];rfl
theorem OM(n:Int):df 4 (.int .i64 n) (.int .i64 n)=true:=by simp[df]
end Go.Proofs.YtnlccnpbjeiccaaGreatDoor
end
section
namespace Go.Proofs.YtnlccnpbjeiccaaGreatDoor
open Go Go.Ab Go.Num
variable{h:aa}{g:aa}{v:Value}{w:Value}{s:List UInt8}{t:List UInt8}{n:Nat}{m:Nat}
def uh(h:aa)(C:Prop)(G B:Value):VH:=λv a=>Ok h a/\(C->v=G)/\(¬C->v=B)
theorem QJ{C:Prop}(o:Ok h g)(a:¬C):uh h C v w w g:=⟨o,λc=>absurd c a,λ_=>rfl⟩
theorem Mi{C:Prop}(o:Ok h g)(a:C):uh h C v w v g:=⟨o,λ_=>rfl,λc=>absurd a c⟩
theorem To(a:aM s=true)(b:aM t=true):Ls s t=E1 (aC (Nat.gcd (Num.val s) (Num.val t))) 0:=by unfold Ls;rw[if_pos ⟨a,b⟩]
theorem mj(h:n<10^800):aM (aC n)=true:=sO.2 (lt_of_lt_of_le h (uI (k:=800) (m:=1000) (by decide)))
theorem N2(h:m<10^1000):vJ m=E1 (aC m) 0:=by
 unfold vJ;rw[if_neg];have:=(gR (n:=m) (k:=1000) (by decide)).2 h;omega
theorem R2(b:n<10^800)(a:m<10^800):KM (aC n) (aC m)=E1 (aC (n+m)) 0:=by
 unfold KM;rw[if_pos ⟨mj b,mj a⟩,fG,fG];exact N2 (lt_of_lt_of_le (Nat.add_lt_add b a) OQ)
theorem J4(b:n<10^800)(a:m<10^800)(h:m<=n):MP (aC n) (aC m)=E1 (aC (n-m)) 0:=by
 unfold MP;rw[if_pos ⟨mj b,mj a⟩,fG,fG,if_neg (Nat.not_lt.2 h)]
theorem SN(b:n<10^800)(a:m<10^800):K7 (aC n) (aC m) = .int .i64 (eG n m):=by
 unfold K7;rw[if_pos ⟨mj b,mj a⟩,fG,fG]
theorem vP{a b:List UInt8}(d:aM a=true)(c:aM b=true)(e:a.length<=400)(f:b.length<=400):LO a b=E1 (aC (Num.val a*Num.val b)) 0/\Num.val a*Num.val b<10^800:=by
 have h:=CW (AE (k:=400) d (by decide) e) (AE (k:=400) c (by decide) f);refine⟨?_,h⟩;unfold LO;rw[if_pos ⟨d,c⟩];exact N2 (lt_of_lt_of_le h (uI (k:=800) (m:=1000) (by decide)))
def Oe(s:Bool)(A:Nat)(t:Bool)(B:Nat):Value:= .tuple ⟨[.bool (nw s A t B).1,strOf (aC (nw s A t B).2)]⟩
theorem H8:eG n m<0↔n<m:=tz
end Go.Proofs.YtnlccnpbjeiccaaGreatDoor
end
section
set_option linter.defProp false
namespace Go.Proofs.YtnlccnpbjeiccaaGreatDoor
open Go Go.Ab Go.Num
variable{h:aa}{n:Nat}{m:Nat}{x:List Nat}{g:aa}
structure MR(hb:aa)(kt N:Nat)(L:List Nat)(g:aa):Prop where
 len:L.length=N
 lt:∀d∈L,d<BB
 row:g.get kt=some (.cells (bU ((List.replicate N 0).map uv) 0 L) 240 1 true)
 ok:Ok hb g
theorem MR.room(a:MR h n m x g)(r:Nat):MR h n m x (Go.Ab.room g r):=⟨a.len,a.lt,a.row,a.ok.room r⟩
theorem MR.get{c:Nat}{b:aa}(a:MR g n m x b){j:Int}{jn:Nat}(r:j=(jn:Int))(f:jn<m):∃p:Addr,ai SS.P 260 (.slice (some ⟨n,0,none⟩) m c) (.int .i64 j)=some (.pointer (some p))/\ae SS.P 240 b (.pointer (some p))=some (.int .u64 (x.getD jn 0:Nat))/\
  ∀d:Nat,d<BB->n<b.next->g.next<=n->Wf g->∃u:bp,aj SS.P 240 (.pointer (some p)) (.int .u64 (d:Int)) b=some (undef,u)/\MR g n m (x.set jn d) (u.app b):=by
 subst r;have i:(0:Nat)+x.length<=((List.replicate m 0).map uv).length:=by rw[lM,length_replicate,a.len];omega
 refine⟨⟨n,0+(jn:Int).toNat,none⟩,vE (by omega) (by omega),?_,?_⟩
 ·rw[toNat_natCast];exact BG a.row i (by rw[a.len];exact f)
 ·intro d q o k w;rw[toNat_natCast];refine⟨_,Cr a.row i (by rw[a.len];exact f) d,by rw[length_set];exact a.len,λe l=>?_,?_,a.ok.set _ k o w⟩
  ·rcases List.mem_or_eq_of_mem_set l with h|h
   ·exact a.lt e h
   ·rw[h];exact q
  ·show(b.set n _).get n=_;rw[aa.ay,if_pos rfl]
def T7(a:aa)(c N n:Nat)(x y:List Nat)(b i:Nat)(g:aa):Prop:=i<=n/\b=n-i/\∃L,MR a c N L g/\Num.bv BB L=Num.bv BB (x.take i)*Num.bv BB y
def aar(b:aa)(d N k:Nat)(x y:List Nat)(i c j:Nat)(cy:Int)(g:aa):Prop:=j<=k+1/\c=k+1-j/\∃(L:List Nat)(a:Nat),cy=(a:Int)/\a<BB/\MR b d N L g/\Num.bv BB L+a*BB^(i+j)=Num.bv BB (x.take i)*Num.bv BB y+x.getD i 0*Num.bv BB (y.take j)*BB^i
theorem LN(w:Wf h){c N k:Nat}{x y:List Nat}(A:h.next<=c)(u:∀d∈x,d<BB)(z:∀d∈y,d<BB){i l j:Nat}{f:Nat}{L:List Nat}{g:aa}(C:j<k+1)(o:i+j<N)(B:l=k+1-j)(n:f<BB)(m:MR h c N L g)(s:Num.bv BB L+f*BB^(i+j)=Num.bv BB (x.take i)*Num.bv BB y+x.getD i 0*Num.bv BB (y.take j)*BB^i){q:Nat}(r:q=x.getD i 0*y.getD j 0):
  q<=999999998000000001/\L.getD (i+j) 0<BB/\(∀p,MR h c N (L.set (i+j) ((L.getD (i+j) 0+f+q)%BB)) p->l-1<l/\aar h c N k x y i (l-1) (j+1) (((L.getD (i+j) 0+f+q)/BB:Nat):Int) p)/\(L.getD (i+j) 0+f+q)%BB<BB/\c<g.next:=by
 have e:=bo (b:=BB) (by decide) u i;have a:=bo (b:=BB) (by decide) z j;have t:=bo (b:=BB) (by decide) m.lt (i+j);refine⟨?_,t,λp v=>⟨by omega,by omega,by omega,_,_,rfl,?_,v,?_⟩,mod_lt _ (by decide),m.ok.wf _ _ m.row⟩
 ·rw[r];exact Nat.le_trans (mul_le_mul (Nat.le_of_lt_succ e) (Nat.le_of_lt_succ a)) (by decide)
 ·exact(Az eY m.lt (by rw[m.len];exact o) n e a (by rw[r]) s).2.1
 ·exact(Az eY m.lt (by rw[m.len];exact o) n e a (by rw[r]) s).2.2
def Qg{f:aa}(w:Wf f){a:Option Addr}{n c:Nat}{b:Option Addr}{k d:Nat}{t N tc:Nat}{x y:List Nat}(ra:Rd f 240 (.slice a n c) (x.map uv))(rb:Rd f 240 (.slice b k d) (y.map uv))(P:∀d∈x,d<BB)(V:∀d∈y,d<BB)(o:f.next<=t){i:Nat}(hi:i<n)(hn:n=x.length)(hk:k=y.length)(hN:N=n+k+1)(x0:N<=1000)(l m:List UInt8)(Q:VH)(K:Nat)(x2:K=n-i):=
 vS l m a n c b k d (some ⟨t,0,none⟩) N tc (n:Int) (T7 f t N n x y) K i ((k:Int)+1) (aar f t N k x y i) Q (by
  intro z j cy;intros;rename_i g J;obtain⟨h1,h2,L,v,rfl,Z,e,S⟩:=J;have x1:BB=1000000000:=rfl;have W:wrap .i64 ((i:Int)+(j:Int))=((i+j:Nat):Int):=by rw[aO (by omega) (by omega)];omega
  have e2:wrap .i64 ((j:Int)+1)=((j+1:Nat):Int):=by rw[aO (by omega) (by omega)];omega
  have e3:wrap .i64 ((i:Int)+1)=((i+1:Nat):Int):=by rw[aO (by omega) (by omega)];omega
  rw[W,e2,e3];refine ah (λs=>?_) (λs=>?_)
  ·have s:=dT s;obtain⟨q,D⟩:∃q,q=x.getD i 0*y.getD j 0:=⟨_,rfl⟩
   obtain⟨s1,s2,A,C,M⟩:=LN w o P V (by omega) (by omega) h2 Z e S D;obtain⟨p,g1,X,_⟩:=e.get (c:=tc) (j:=((i+j:Nat):Int)) rfl (by omega);have R:wrap .u64 (((L.getD (i+j) 0:Nat):Int)+(v:Int))=((L.getD (i+j) 0+v:Nat):Int):=by rw[eg (by omega) (by omega)];omega
   refine⟨p,g1,_,X,ah (λr=>?_) (λr=>?_)⟩
   ·have r:=dT r;obtain⟨p1,f1,T⟩:=DV (ra.ok (e.room 12).ok) (i:=(i:Int)) (by omega) (by omega);obtain⟨Y,f3,U⟩:=DV (rb.ok (e.room 12).ok) (i:=(j:Int)) (by omega) (by omega);rw[toNat_natCast]at T U;have e5:wrap .u64 (((x.getD i 0:Nat):Int)*((y.getD j 0:Nat):Int))=(q:Int):=by rw[<-Int.natCast_mul,<-D];exact eg (by omega) (by omega)
    have e6:wrap .u64 (((L.getD (i+j) 0+v:Nat):Int)+(q:Int))=((L.getD (i+j) 0+v+q:Nat):Int):=by rw[eg (by omega) (by omega)];omega
    rw[R];refine⟨p1,f1,_,T,Y,f3,_,U,?_⟩;dsimp only;rw[e5,e6];obtain⟨H,I,_,F⟩:=(e.room 12).get (c:=tc) (j:=((i+j:Nat):Int)) rfl (by omega);obtain⟨u,E,B⟩:=F _ C (lt_of_lt_of_le M (Nat.le_add_right _ _)) o w;obtain⟨G,h⟩:=A _ B;refine⟨_,fR (b:=BB) (by omega) (by decide),_,nK (b:=BB) (by omega) (by omega) (by decide),H,I,u,E,ju (z-1) G ?_⟩;rw[natCast_ediv]at h;exact h
   ·have r:=dF r;have y0:y.getD j 0=0:=by rw[gD,getElem?_eq_none (by omega)];rfl
    have O:q=0:=by rw[D,y0,mul_zero]
    rw[R];obtain⟨H,I,_,F⟩:=e.get (c:=tc) (j:=((i+j:Nat):Int)) rfl (by omega);rw[O,add_zero]at A C;obtain⟨u,E,B⟩:=F _ C M o w;obtain⟨G,h⟩:=A _ B;refine⟨_,fR (b:=BB) (by omega) (by decide),_,nK (b:=BB) (by omega) (by omega) (by decide),H,I,u,E,ju (z-1) G ?_⟩;rw[natCast_ediv]at h;exact h
  ·have s:=dF s;obtain rfl:j=k+1:=by omega
   refine cG (n-(i+1)) (by omega) ⟨by omega,rfl,L,e,?_⟩;exact OP eY P V (by omega) e.lt (by rw[<-hk];exact S))
theorem V1(d:(aF BB n).length<=112)(f:(aF BB m).length<=112):(aF BB (n*m)).length<=10000:=by
 have a:=dV (cr eY n);have b:=dV (cr eY m);rw[bK eY]at a b;have c:=lt_of_lt_of_le a (pow_le_pow_right (show 0<BB by decide) d);have e:=lt_of_lt_of_le b (pow_le_pow_right (show 0<BB by decide) f);refine Nat.le_trans (jm eY (k:=224) ?_) (by omega);rw[show 224=112+112 from rfl,pow_add];exact Nat.mul_lt_mul'' c e
theorem Es(a b:List UInt8){h:aa}(t:rK h)(w:Wf h):FW SS 172 [strOf a,strOf b] h (λv A=>v=LO a b/\Ok h A):=by
 refine Qq a b h _ ((dk a h).mono ?_);rintro _ D ⟨rfl,B⟩;obtain rfl:h=D:=B.symm;refine⟨_,rfl,ah (λg=>?_) (λg=>?_)⟩
 ·have g:aM a=false:=by simpa using g
  refine⟨?_,Ok.refl w⟩;unfold LO;rw[if_neg (λe=>by rw[e.1]at g;cases g)];rfl
 have g:aM a=true:=by simpa using g
 refine(dk b h).mono ?_;rintro _ D ⟨rfl,B⟩;obtain rfl:h=D:=B.symm;refine⟨_,rfl,ah (λl=>?_) (λl=>?_)⟩
 ·have l:aM b=false:=by simpa using l
  refine⟨?_,Ok.refl w⟩;unfold LO;rw[if_neg (λe=>by rw[e.2]at l;cases l)];rfl
 have l:aM b=true:=by simpa using l
 have P:=ZJ g l;have lx:=P.lx;have ly:=P.ly;refine(kT g w).mono ?_;rintro _ h1 ⟨S,f,O,rfl,T,u⟩;refine⟨_,_,_,rfl,(kT l u.wf).mono ?_⟩;rintro _ m ⟨G,k,Q,rfl,o2,z⟩;refine⟨_,_,_,rfl,?_⟩;have hS:LO a b=vJ (Num.val a*Num.val b):=by unfold LO;rw[if_pos ⟨g,l⟩]
 rw[hS];have q:=T.rd.ok z;have r:=o2.rd;have s:=u.trans z;have N:f=(aF BB (Num.val a)).length:=by have:=q.len;rwa[lM]at this
 have F:k=(aF BB (Num.val b)).length:=by have:=r.len;rwa[lM]at this
 have hX:=cr eY (Num.val a);have Z:=cr eY (Num.val b);have bX:=bK eY (Num.val a);have W:=bK eY (Num.val b);have q:Rd m 240 (.slice S f O) ((aF BB (Num.val a)).map uv):=q;have r:Rd m 240 (.slice G k Q) ((aF BB (Num.val b)).map uv):=r;have J:(aF BB (Num.val a*Num.val b)).length<=10000:=V1 lx ly;generalize Num.val a=X at*;generalize Num.val b=Y at*;generalize aF BB X=x at*;generalize aF BB Y=y at*;have V:wrap .i64 (wrap .i64 ((f:Int)+(k:Int))+1)=((f+k+1:Nat):Int):=by
  rw[aO (n:=(f:Int)+(k:Int)) (by omega) (by omega),aO (by omega) (by omega)];omega
 dsimp only;rw[V];refine⟨_,_,_,aaq _ (by omega),?_⟩;have I:=(Ok.refl s.wf).push (.cells ((List.replicate (f+k+1) 0).map uv) 240 1 true);have m0:MR m m.next (f+k+1) (List.replicate (f+k+1) 0) (m.push (.cells ((List.replicate (f+k+1) 0).map uv) 240 1 true)):=by
  refine⟨length_replicate,λd hd=>by rw[(List.mem_replicate.1 hd).2];decide,?_,I⟩;rw[aa.aN,if_pos rfl,kU (by rw[drop_zero,length_replicate,take_of_length_le (by rw[lM,length_replicate];omega)])]
 refine vR a b S f O G k Q (some ⟨m.next,0,none⟩) (f+k+1) (f+k+1) (f:Int) (T7 m m.next (f+k+1) f x y) (λv A=>v=vJ (X*Y)/\Ok h A) (λU i=>?_) f (i:=0) ⟨by omega,by omega,_,m0,by rw[Av,take_zero];simp[Num.bv]⟩;intros;rename_i g hi;obtain⟨f1,f2,L,o,E⟩:=hi;refine ah (λp=>?_) (λp=>?_)
 ·have p:=dT p;have e2:wrap .i64 ((k:Int)+1)=(k:Int)+1:=aO (by omega) (by omega);rw[e2];exact Qg s.wf q r hX Z (Nat.le_refl _) (i:=i) (by omega) N F rfl (by omega) a b _ U f2 (k+1) (j:=0) (cy:=0) ⟨by omega,by omega,L,0,rfl,by decide,o,by rw[E,take_zero];simp[Num.bv]⟩
 ·have p:=dF p;obtain rfl:f=i:=by omega
  rw[take_of_length_le (by omega),bX,W]at E;have C:f+k+1<=aW (f+k+1):=by unfold aW;rw[if_neg (by unfold cj;omega)];omega
  have M:=An o.row (n:=f+k+1) (c:=f+k+1) o.len.symm C;refine(nH M (by rw[o.len];omega)).mono ?_;rintro _ h6 ⟨rfl,e6⟩;subst e6;have H:=ye M o.lt;rw[E]at H;refine⟨_,_,_,rfl,(sY H J (t.ok (s.trans o.ok)) o.ok.wf).mono ?_⟩;rintro _ h7 ⟨rfl,R⟩;exact OI (K:=λv=>v=vJ (X*Y)/\Ok h h7) (IX _) ⟨rfl,(s.trans o.ok).trans R⟩
end Go.Proofs.YtnlccnpbjeiccaaGreatDoor
end
section
namespace Go.Proofs.YtnlccnpbjeiccaaGreatDoor
open Go Go.Ab Go.Num
variable{h:aa}{k:Nat}{b:Bool}{s:List UInt8}{t:List UInt8}{g:aa}{v:Value}
def CT:bu:= .cells [.bool false,strOf [],strOf []] 222 0 true
theorem R8:aA SS.P 222=some (CT,dR):=by kernel_rfl
theorem acU(neg:Bool)(n d:List UInt8):aD SS.P 222 [(0,(.bool neg)),(1,(strOf n)),(2,(strOf d))]=some (.agg ⟨[.bool neg,strOf n,strOf d]⟩):=by kernel_rfl
theorem nU:aD SS.P 222 []=some (.agg ⟨[.bool false,strOf [],strOf []]⟩):=by kernel_rfl
theorem VK:au SS.P 222=some 3:=by kernel_rfl
theorem acz:Go.Ab.isAgg SS.P 222=true:=by kernel_rfl
noncomputable def ack:TypeDesc:=(SS.P.underlying 222).getD .bool
theorem aed:SS.P.underlying 222=some ack:=by kernel_rfl
theorem aay{cs0:List Value}(a:cs0.length=3)(e:h.get k=some (.cells cs0 222 0 true))(b:Bool)(n d:List UInt8):aj SS.P 222 (.pointer (some ⟨k,0,none⟩)) (.agg ⟨[.bool b,strOf n,strOf d]⟩) h=some (undef,.set k (.cells [.bool b,strOf n,strOf d] 222 0 true)):=by
 unfold aj;dsimp only;rw[if_pos (show au SS.P 222=some ((Value.agg ⟨[.bool b,strOf n,strOf d]⟩).cells).size from VK)];unfold storeAt;rw[e];dsimp only;have c:([.bool b,strOf n,strOf d]:List Value).all bw=true:=rfl;rw[show(Value.agg ⟨[.bool b,strOf n,strOf d]⟩).cells.toList=[.bool b,strOf n,strOf d]from rfl,if_pos ⟨by simp[a],c⟩,List.drop_eq_nil_of_le (by simp[a])];rfl
theorem adq(a:h.get k=some (.cells [.bool b,strOf s,strOf t] 222 0 true)):ae SS.P 222 h (.pointer (some ⟨k,0,none⟩))=some (.agg ⟨[.bool b,strOf s,strOf t]⟩):=gG aed acz VK a (by simp)
theorem mN(l:List UInt8)(h:aa):FW SS 171 [strOf l,.int .i64 0] h (λv a=>v=strOf l/\a=h):=
 Mn l 0 h _ (ah (λg=>by cases g) (λ_=>⟨rfl,rfl⟩))
theorem Mp(s:Bool)(A:Nat)(t:Bool)(B:Nat)(i:A<10^800)(e:B<10^800){h:aa}(f:rK h)(w:Wf h):FW SS 170 [.bool s,strOf (aC A),.bool t,strOf (aC B)] h (λv m=>v=Oe s A t B/\Ok h m):=by
 refine Mo s _ t _ h _ (ah (λg=>?_) (λg=>?_))
 ·have g:s=t:=by simpa using g
  refine(Qk _ _ f w).mono ?_;rintro _ k ⟨rfl,a⟩;rw[R2 i e];refine⟨_,_,rfl,(mN _ _).mono ?_⟩;rintro _ _ ⟨rfl,rfl⟩;refine⟨_,rfl,?_,a⟩;unfold Oe nw;rw[if_pos g]
 ·have g:¬s=t:=by simpa using g
  refine(Qn _ _ f w).mono ?_;rintro _ k ⟨rfl,a⟩;rw[SN i e];refine⟨_,rfl,ah (λd=>?_) (λd=>?_)⟩
  ·have d:=dT d;have b:A<B:=H8.1 (by omega);refine(Et _ _ (f.ok a) a.wf).mono ?_;rintro _ l ⟨rfl,j⟩;rw[J4 e i (le_of_lt b)];refine⟨_,_,rfl,(mN _ _).mono ?_⟩;rintro _ _ ⟨rfl,rfl⟩;refine⟨_,rfl,?_,a.trans j⟩;unfold Oe nw;rw[if_neg g,if_pos b]
  ·have d:=dF d;have b:¬A<B:=λc=>by have:=H8.2 c;omega
   refine(Et _ _ (f.ok a) a.wf).mono ?_;rintro _ l ⟨rfl,j⟩;rw[J4 i e (Nat.not_lt.1 b)];refine⟨_,_,rfl,(mN _ _).mono ?_⟩;rintro _ _ ⟨rfl,rfl⟩;refine⟨_,rfl,?_,a.trans j⟩;unfold Oe nw;rw[if_neg g,if_neg b]
def Qu(b:Bool)(n d:List UInt8):Value:= .agg ⟨[.bool b,strOf n,strOf d]⟩
def ue(l:List UInt8):Value:=if eC l=true then .tuple ⟨[Qu (Num.isNeg l) (Num.numOf l) (cT l),.bool true]⟩else .tuple ⟨[Qu false [] [],.bool false]⟩
def r8(b:Bool)(n d:List UInt8):Value:= .tuple ⟨[Qu b n d,.bool true]⟩
def qZ:Value:= .tuple ⟨[Qu false [] [],.bool false]⟩
structure Kz(h0:aa)(k:Nat)(g:aa):Prop where
 row:∃cs0:List Value,cs0.length=3/\g.get k=some (.cells cs0 222 0 true)
 new:h0.next<=k
 ok:Ok h0 g
theorem Kz.trans{a:aa}(m:Kz h k g)(o:Ok g a):Kz h k a:=by
 obtain⟨⟨cs,c,d⟩,b,e⟩:=m;exact⟨⟨cs,c,o.ext _ _ d⟩,b,e.trans o⟩
theorem Jf(w:Wf h){k:Nat}{g:aa}(m:Kz h k g)(b:Bool)(n d:List UInt8)(a:Bool){Q:VH}(j:∀c,Ok h c->Q (.tuple ⟨[Qu b n d,.bool a]⟩) c):
  ∃u:bp,aj SS.P 222 (.pointer (some ⟨k,0,none⟩)) (.agg ⟨[.bool b,strOf n,strOf d]⟩) g=some (undef,u)/\dq SS [(.pointer (some ⟨k,0,none⟩),some 222),(.bool a,none)] (u.app g) Q:=by
 obtain⟨⟨cs,i,e⟩,l,f⟩:=m;refine⟨_,aay i e b n d,?_⟩;have o:Ok h ((bp.set k (.cells [.bool b,strOf n,strOf d] 222 0 true)).app g):=f.set _ l (f.wf _ _ e) w;have p:((bp.set k (.cells [.bool b,strOf n,strOf d] 222 0 true)).app g).get k=some (.cells [.bool b,strOf n,strOf d] 222 0 true):=by
  show(g.set k _).get k=_;rw[aa.ay,if_pos rfl]
 refine vp (v:=Qu b n d) (adq p) ?_;exact j _ o
def Zc(n d:List UInt8)(neg a:Bool):Prop:=aM n=true/\aM d=true/\n.length<=400/\d.length<=400/\¬(neg=true/\n=[48])/\¬(a=true/\(d=[48]\/d=[49]))/\Nat.gcd (Num.val n) (Num.val d)=1
theorem kD(w:Wf h){k:Nat}{g:aa}(m:Kz h k g){C:Prop}(a:¬C){G:Value}:
  ∃u:bp,aj SS.P 222 (.pointer (some ⟨k,0,none⟩)) (.agg ⟨[.bool false,strOf [],strOf []]⟩) g=some (undef,u)/\dq SS [(.pointer (some ⟨k,0,none⟩),some 222),(.bool false,none)] (u.app g) (uh h C G qZ):=
 Jf w m false [] [] false (λ_ o=>QJ o a)
theorem Oj(n d:List UInt8)(neg h:Bool)(k:Nat){h0 g:aa}(w:Wf h0)(m:Kz h0 k g)(tb:rK g){x0 x1 x3 x4 x9 z1 z3 I y7 W z8 u4 y6 z7 z5 J E B V Y u7 z0 x6 R y9 y1 N u2 u A t M u5 u1 L D z H Z y x z4 u6 u0 x7 z9 y0 G v z2 r z6 y2 y4 K y8 F U x2 Q C O S x8 P T x5 u3 y3 y5 X s:Value}:
  TT SS aq [1,1,1,1] [x0,x1,.pointer (some ⟨k,0,none⟩),x3,x4,.bool neg,strOf n,strOf d,.bool h,x9,z1,z3,I,y7,W,z8,u4,y6,z7,z5,J,E,B,V,Y,u7,z0,x6,R,y9,y1,N,u2,u,A,t,M,u5,u1,L,D,z,H,Z,y,x,z4,u6,u0,x7,z9,y0,G,v,z2,r,z6,y2,y4,K,y8,F,U,x2,Q,C,O,S,x8,P,T,x5,u3,y3,y5,X,s] g (EE SS aq (uh h0 (Zc n d neg h) (r8 neg n d) qZ)):=by
 refine Ca ((dk n g).mono ?_);rintro _ g0 ⟨rfl,e0⟩;obtain rfl:g=g0:=e0.symm;refine⟨_,rfl,ah (λl=>⟨_,nU,kD w m (λc=>?_)⟩) (λl=>?_)⟩
 ·rw[c.1]at l;cases l
 have l:aM n=true:=by simpa using l
 refine(dk d g).mono ?_;rintro _ g0 ⟨rfl,e0⟩;obtain rfl:g=g0:=e0.symm;refine⟨_,rfl,ah (λi=>⟨_,nU,kD w m (λc=>?_)⟩) (λi=>?_)⟩
 ·rw[c.2.1]at i;cases i
 have i:aM d=true:=by simpa using i
 refine ah (λq=>⟨_,nU,kD w m (λc=>?_)⟩) (λq=>?_)
 ·have:=c.2.2.1;have q:=dT q;omega
 have q:n.length<=400:=by have q:=dF q;omega
 refine ah (λj=>⟨_,nU,kD w m (λc=>?_)⟩) (λj=>?_)
 ·have:=c.2.2.2.1;have j:=dT j;omega
 have j:d.length<=400:=by have j:=dF j;omega
 have fin:¬(neg=true/\n=[48])->¬(h=true/\(d=[48]\/d=[49]))->∀{x0 x1 x3 x4 x9 z1 z3 I y7 W z8 u4 y6 z7 z5 J E B V Y u7 z0 x6 R y9 y1 N u2 u A t M u5 u1 L D z H Z y x z4 u6 u0 x7 z9 y0 G v z2 r z6 y2 y4 K y8 F U x2 Q C O S x8 P T x5 u3 y3 y5 X s:Value},TT SS aq [1,1,1,1,1,1] [x0,x1,.pointer (some ⟨k,0,none⟩),x3,x4,.bool neg,strOf n,strOf d,.bool h,x9,z1,z3,I,y7,W,z8,u4,y6,z7,z5,J,E,B,V,Y,u7,z0,x6,R,y9,y1,N,u2,u,A,t,M,u5,u1,L,D,z,H,Z,y,x,z4,u6,u0,x7,z9,y0,G,v,z2,r,z6,y2,y4,K,y8,F,U,x2,Q,C,O,S,x8,P,T,x5,u3,y3,y5,X,s] g (EE SS aq (uh h0 (Zc n d neg h) (r8 neg n d) qZ)):=by
  intro p c6;intros;refine Cc ((Qp n d tb m.ok.wf).mono ?_);rintro _ h1 ⟨rfl,o1⟩;have m1:=m.trans o1;rw[To l i];refine⟨_,_,rfl,ah (λe=>by cases e) (λ_=>?_)⟩;refine ah (λe=>⟨_,nU,kD w m1 (λc=>?_)⟩) (λe=>?_)
  ·have e:¬aC (Nat.gcd (Num.val n) (Num.val d))=[49]:=by simpa using e
   exact e (qC.2 c.2.2.2.2.2.2)
  ·have e:aC (Nat.gcd (Num.val n) (Num.val d))=[49]:=by simpa using e
   refine Cd ⟨_,acU neg n d,Jf w m1 neg n d true (λ_ o=>Mi o ?_)⟩;exact⟨l,i,q,j,p,c6,qC.1 e⟩
 refine Cb (ah (λg5=>ah (λg6=>⟨_,nU,kD w m (λc=>?_)⟩) (λg6=>?_)) (λg5=>?_))
 ·exact c.2.2.2.2.1 ⟨g5,by simpa using g6⟩
 ·have p:¬(neg=true/\n=[48]):=λc=>by
   have:¬n=[48]:=by simpa using g6
   exact this c.2
  refine ah (λb=>ah (λa=>⟨_,nU,kD w m (λc=>?_)⟩) (λa=>ah (λf=>⟨_,nU,kD w m (λc=>?_)⟩) (λf=>?_))) (λb=>?_)
  ·exact c.2.2.2.2.2.1 ⟨b,.inl (by simpa using a)⟩
  ·exact c.2.2.2.2.2.1 ⟨b,.inr (by simpa using f)⟩
  ·refine fin p (λc=>?_);have a:¬d=[48]:=by simpa using a
   have f:¬d=[49]:=by simpa using f
   exact c.2.elim a f
  ·exact fin p (λc=>by rw[c.1]at b;cases b)
 ·have p:¬(neg=true/\n=[48]):=λc=>by rw[c.1]at g5;cases g5
  refine ah (λb=>ah (λa=>⟨_,nU,kD w m (λc=>?_)⟩) (λa=>ah (λf=>⟨_,nU,kD w m (λc=>?_)⟩) (λf=>?_))) (λb=>?_)
  ·exact c.2.2.2.2.2.1 ⟨b,.inl (by simpa using a)⟩
  ·exact c.2.2.2.2.2.1 ⟨b,.inr (by simpa using f)⟩
  ·refine fin p (λc=>?_);have a:¬d=[48]:=by simpa using a
   have f:¬d=[49]:=by simpa using f
   exact c.2.elim a f
  ·exact fin p (λc=>by rw[c.1]at b;cases b)
theorem GH{l:List UInt8}(q:uh h (Zc (Num.numOf l) (cT l) (Num.isNeg l) (gP l)) (r8 (Num.isNeg l) (Num.numOf l) (cT l)) qZ v g):v=ue l/\Ok h g:=by
 obtain⟨o,d,b⟩:=q;refine⟨?_,o⟩;unfold ue;by_cases a:eC l=true
 ·rw[if_pos a];have r:=nv.1 a;exact d ⟨r.num,r.den,r.ln,r.ld,r.neg,r.fr,r.one⟩
 ·rw[if_neg a];exact b λc=>a (nv.2 ⟨c.1,c.2.1,c.2.2.1,c.2.2.2.1,c.2.2.2.2.1,c.2.2.2.2.2.1,c.2.2.2.2.2.2⟩)
theorem ri(l:List UInt8)(m:l.length<=281474976710656){h:aa}(o:rK h)(w:Wf h):FW SS 169 [strOf l] h (λv n=>v=ue l/\Ok h n):=by
 refine FW.mono (Q:=uh h (Zc (Num.numOf l) (cT l) (Num.isNeg l) (gP l)) (r8 (Num.isNeg l) (Num.numOf l) (cT l)) qZ) ?_ (λ_ _ q=>GH q);have f:Kz h h.next (h.push CT):=⟨⟨_,rfl,by rw[aa.aN,if_pos rfl];rfl⟩,Nat.le_refl _,(Ok.refl w).push _⟩
 refine JB l h _ ⟨_,R8,(Pq l _).mono ?_⟩;rintro _ r ⟨rfl,rfl⟩;have j:(cq l).length<=281474976710656:=by
  unfold cq;split
  ·rw[length_drop];omega
  ·exact m
 refine⟨_,_,rfl,(abc _ j f.ok.wf).mono ?_⟩;rintro _ p ⟨rfl,i⟩;have c:=f.trans i;have g:=o.ok c.ok;unfold Pr;by_cases b:fh 47 (cq l)<(cq l).length
 ·rw[if_pos b];have a:gP l=true:=decide_eq_true b;have d:cT l=(cq l).drop (fh 47 (cq l)+1):=by unfold cT;rw[if_pos a]
  rw[a];refine⟨_,_,_,rfl,ah (λe=>by cases e) (λ_=>?_)⟩;rw[<-d];exact Oj _ _ _ true _ w c g
 ·rw[if_neg b];have a:gP l=false:=decide_eq_false b;have d:cT l=[49]:=by unfold cT;rw[a];rfl
  have k:Num.numOf l=cq l:=by unfold Num.numOf;rw[take_of_length_le (by omega)]
  rw[a,k,d];refine⟨_,_,_,rfl,ah (λ_=>?_) (λe=>by cases e)⟩;exact Oj _ _ _ false _ w c g
theorem Mh(l:List UInt8):∃(cs:List Value)(b:Bool),ue l = .tuple ⟨[.agg ⟨cs⟩,.bool b]⟩/\b=eC l:=by
 unfold ue
 cases g:eC l with
 |true=>exact⟨_,_,rfl,rfl⟩
 |false=>exact⟨_,_,rfl,rfl⟩
theorem yZ(l:List UInt8)(c:l.length<=281474976710656){h:aa}(f:rK h)(w:Wf h):FW SS 155 [strOf l] h (λv d=>v = .bool (eC l)/\Ok h d):=by
 refine JC l h _ ((ri l c f w).mono ?_);rintro _ i ⟨rfl,a⟩;obtain⟨cs,b,e,g⟩:=Mh l;exact⟨cs,b,e,by rw[g],a⟩
theorem NP(k:Nat):af SS.P 222 (.pointer (some ⟨k,0,none⟩)) 0=some (.pointer (some ⟨k,0,none⟩)):=by kernel_rfl
theorem NQ(k:Nat):af SS.P 222 (.pointer (some ⟨k,0,none⟩)) 1=some (.pointer (some ⟨k,1,none⟩)):=by kernel_rfl
theorem NR(k:Nat):af SS.P 222 (.pointer (some ⟨k,0,none⟩)) 2=some (.pointer (some ⟨k,2,none⟩)):=by kernel_rfl
theorem un4:SS.P.underlying 4=some .bool:=Tryz.underlying4
theorem ag4:Go.Ab.isAgg SS.P 4=false:=by kernel_rfl
theorem Z5:Go.Ab.isAgg SS.P 9=false:=by kernel_rfl
def nQ(g:aa)(k:Nat)(b:Bool)(n d:List UInt8):Prop:=g.get k=some (.cells [.bool b,strOf n,strOf d] 222 0 true)
theorem nQ.ok(x:nQ h k b s t)(o:Ok h g):nQ g k b s t:=o.ext _ _ x
theorem nQ.l0(x:nQ h k b s t):ae SS.P 4 h (.pointer (some ⟨k,0,none⟩))=some (.bool b):=aR un4 ag4 x (by simp)
theorem nQ.l1(x:nQ h k b s t):ae SS.P 9 h (.pointer (some ⟨k,1,none⟩))=some (strOf s):=aR WJ Z5 x (by simp)
theorem nQ.l2(x:nQ h k b s t):ae SS.P 9 h (.pointer (some ⟨k,2,none⟩))=some (strOf t):=aR WJ Z5 x (by simp)
theorem UJ(w:Wf h)(b:Bool)(n d:List UInt8):∃u:bp,aj SS.P 222 (.pointer (some ⟨h.next,0,none⟩)) (.agg ⟨[.bool b,strOf n,strOf d]⟩) (h.push CT)=some (undef,u)/\Ok h (u.app (h.push CT))/\nQ (u.app (h.push CT)) h.next b n d:=by
 have a:(h.push CT).get h.next=some CT:=by rw[aa.aN,if_pos rfl]
 refine⟨_,aay (cs0:=[.bool false,strOf [],strOf []]) rfl a b n d,?_,?_⟩
 ·exact((Ok.refl w).push _).set _ (Nat.le_refl _) (Nat.lt_succ_self _) w
 ·show((h.push CT).set h.next _).get h.next=_;rw[aa.ay,if_pos rfl]
theorem Ey(l:List UInt8):∃(b:Bool)(n d:List UInt8),ue l = .tuple ⟨[.agg ⟨[.bool b,strOf n,strOf d]⟩,.bool (eC l)]⟩/\(eC l=true->b=Num.isNeg l/\n=Num.numOf l/\d=cT l):=by
 unfold ue
 cases g:eC l with
 |true=>exact⟨_,_,_,rfl,λ_=>⟨rfl,rfl,rfl⟩⟩
 |false=>exact⟨_,_,_,rfl,λe=>by cases e⟩
theorem zr(b:Bool):df 4 (.bool b) (.bool b)=true:=by simp[df]
theorem ON(l:List UInt8):df 4 (strOf l) (strOf l)=true:=by simp[df,strOf]
theorem QP(l m:List UInt8)(S:l.length<=281474976710656)(N:m.length<=281474976710656){h:aa}(s:rK h)(w:Wf h):FW SS 131 [strOf l,strOf m] h (λv X=>v = .int .i64 (oq l m)/\Ok h X):=by
 refine QO l m h _ ((ri l S s w).mono ?_);rintro _ K ⟨rfl,F⟩;obtain⟨b,n,d,O,f1⟩:=Ey l;obtain⟨I,s1,Y,Q⟩:=UJ F.wf b n d;refine⟨_,_,O,_,R8,I,s1,?_⟩;have r:=F.trans Y;generalize I.app (K.push CT)=g1 at*;refine(ri m N (s.ok r) r.wf).mono ?_;rintro _ L ⟨rfl,C⟩;obtain⟨Z,W,U,e2,f2⟩:=Ey m;obtain⟨E,P,J,g⟩:=UJ C.wf Z W U;refine⟨_,_,e2,_,R8,E,P,?_⟩;have f:=(r.trans C).trans J;have i:=(Q.ok C).ok J;generalize E.app (L.push CT)=H at*;generalize K.next=k1 at*;generalize L.next=k2 at*;refine ah (λq=>⟨?_,f⟩) (λq=>ah (λa=>⟨?_,f⟩) (λa=>?_))
 ·have q:eC l=false:=by simpa using q
  unfold oq;rw[if_neg (λc=>by rw[c.1]at q;cases q)]
 ·have a:eC m=false:=by simpa using a
  unfold oq;rw[if_neg (λc=>by rw[c.2]at a;cases a)]
 have q:eC l=true:=by simpa using q
 have a:eC m=true:=by simpa using a
 obtain⟨rfl,rfl,rfl⟩:=f1 q;obtain⟨rfl,rfl,rfl⟩:=f2 a;have j:=nv.1 q;have k:=nv.1 a;have o:Ok H (Go.Ab.room H 27):=(Ok.refl f.wf).room 27;refine⟨_,NP _,_,(i.ok o).l0,_,NQ _,_,(i.ok o).l1,_,NR _,_,(g.ok o).l2,?_⟩;have y:=f.trans o;refine(Es _ _ (s.ok y) y.wf).mono ?_;rintro _ R ⟨rfl,o3⟩;rw[(vP j.num k.den j.ln k.ld).1];refine⟨_,_,rfl,(mN _ _).mono ?_⟩;rintro _ G ⟨rfl,D⟩;obtain rfl:R=G:=D.symm;have e:=o.trans o3;refine⟨_,rfl,_,NP _,_,(g.ok e).l0,_,NQ _,_,(g.ok e).l1,_,NR _,_,(i.ok e).l2,?_⟩;have A:=f.trans e;refine(Es _ _ (s.ok A) A.wf).mono ?_;rintro _ h4 ⟨rfl,T⟩;rw[(vP k.num j.den k.ln j.ld).1];refine⟨_,_,rfl,(mN _ _).mono ?_⟩;rintro _ M ⟨rfl,D⟩;obtain rfl:h4=M:=D.symm;have t:=e.trans T;have x:=f.trans t;refine⟨_,rfl,(Mp _ _ _ _ (vP j.num k.den j.ln k.ld).2 (vP k.num j.den k.ln j.ld).2 (s.ok x) x.wf).mono ?_⟩;rintro _ h5 ⟨rfl,V⟩;have u:=x.trans V;refine⟨_,_,rfl,⟨(i.ok e).l0,zr _⟩,⟨(i.ok e).l0,zr _⟩,⟨(i.ok t).l0,zr _⟩,⟨(i.ok t).l0,zr _⟩,⟨(g.ok o).l0,zr _⟩,⟨(g.ok e).l0,zr _⟩,⟨(g.ok t).l0,zr _⟩,⟨(g.ok t).l0,zr _⟩,⟨(g.ok o).l1,ON _⟩,⟨(g.ok e).l1,ON _⟩,⟨(i.ok o).l2,ON _⟩,⟨(i.ok e).l2,ON _⟩,?_⟩;unfold oq;rw[if_pos ⟨q,a⟩];generalize nw _ _ _ _=z;refine ah (λp=>⟨?_,u⟩) (λp=>?_)
 ·have p:aC z.2=[48]:=by simpa using p
  rw[if_pos (qa.1 p)]
 ·have p:¬aC z.2=[48]:=by simpa using p
  rw[if_neg (λc=>p (qa.2 c))];refine ah (λB=>⟨?_,u⟩) (λB=>⟨?_,u⟩)
  ·rw[if_pos B]
  ·rw[if_neg (by rw[B];simp)]
noncomputable def MA:FD:=dY Tryz.f121 []
theorem JV  (h:aa) (Q:VH) (d:xN (aA SS.P 184) h λi a=>xA (aD SS.P 100 [(0,(strOf [105,110,102])),(1,(strOf [48])),(2,(.bool true)),(3,(.func (.func 152) ⟨[]⟩ ⟨[]⟩)),(4,(.func (.func 153) ⟨[]⟩ ⟨[]⟩)),(5,(.func (.func 154) ⟨[]⟩ ⟨[]⟩)),(6,(.func (.func 155) ⟨[]⟩ ⟨[]⟩)),(7,(.func (.func 155) ⟨[]⟩ ⟨[]⟩))]) λe=>xA (aD SS.P 100 [(0,(strOf [48])),(1,(strOf [49])),(2,(.bool false)),(3,(.func (.func 156) ⟨[]⟩ ⟨[]⟩)),(4,(.func (.func 157) ⟨[]⟩ ⟨[]⟩)),(5,(.func (.func 158) ⟨[]⟩ ⟨[]⟩)),(6,(.func (.func 159) ⟨[]⟩ ⟨[]⟩)),(7,(.func (.func 160) ⟨[]⟩ ⟨[]⟩))]) λc=>xA (aD SS.P 100 [(0,(strOf [48])),(1,(strOf [49])),(2,(.bool false)),(3,(.func (.func 152) ⟨[]⟩ ⟨[]⟩)),(4,(.func (.func 157) ⟨[]⟩ ⟨[]⟩)),(5,(.func (.func 161) ⟨[]⟩ ⟨[]⟩)),(6,(.func (.func 159) ⟨[]⟩ ⟨[]⟩)),(7,(.func (.func 160) ⟨[]⟩ ⟨[]⟩))]) λg=>xA (aD SS.P 184 [(1,(.agg ⟨e⟩)),(2,(.agg ⟨c⟩)),(3,(.agg ⟨g⟩))]) λf=>xU (aj SS.P 184 (pA (h.next)) (.agg ⟨f⟩) a) a λj b=>dq SS [((pA (h.next)),some 184)] b Q):FW SS 121 [] h Q:=eh MA Tryz.func121 (av d)
noncomputable def Zr:FD:=dY Tryz.f67 []
theorem Vi(a:Int)(h:aa)(Q:VH)(i:xN (aA SS.P 100) h λo b=>aS (decide ((a:Int)<1)) (xA (aD SS.P 100 []) λj=>xU (aj SS.P 100 (pA (h.next)) (.agg ⟨j⟩) b) b λp m=>dq SS [((pA (h.next)),some 100),((.bool false),none)] m Q) (aS (decide ((a:Int)>3)) (xA (aD SS.P 100 []) λk=>xU (aj SS.P 100 (pA (h.next)) (.agg ⟨k⟩) b) b λq g=>dq SS [((pA (h.next)),some 100),((.bool false),none)] g Q) (FW SS 121 [] b λl c=>yA l λe=>xA (bH SS.P 184 (.agg ⟨e⟩) (.int .i64 a)) λf=>xU (aj SS.P 100 (pA (h.next)) (.agg ⟨f⟩) c) c λn d=>dq SS [((pA (h.next)),some 100),((.bool true),none)] d Q))):FW SS 67 [(.int .i64 a)] h Q:=eh Zr Tryz.func67 (av i)
noncomputable def Dw:FD:=dY Tryz.f160 []
theorem Cl(l:LB)(h:aa)(Q:VH)(d:FW SS 155 [(strOf l)] h λf a=>yB f λc=>aS c (FW SS 131 [(strOf l),(strOf [48])] a λb g=>yI .i64 b λe=>Q (.bool (decide ((e:Int)>0))) g) (Q (.bool false) a)):FW SS 160 [(strOf l)] h Q:=eh Dw Tryz.func160 (av d)
noncomputable def JX:FD:=dY Tryz.f73 []
theorem GU(a:Int)(l:LB)(h:aa)(Q:VH)(o:FW SS 67 [(.int .i64 a)] h λp e=>∃b:LV,∃i:Bool,p=(.tuple ⟨[(.agg ⟨b⟩),(.bool i)]⟩)/\xN (aA SS.P 100) e λs j=>xU (aj SS.P 100 (pA (e.next)) (.agg ⟨b⟩) j) j λr d=>aS i (xP (af SS.P 100 (pA (e.next)) 7) λq=>xF (ae SS.P 86 d (.pointer (some q))) λc f m=>aS (Nat.blt c YB) (FW SS c (f++[(strOf l)]++m) d λk n=>yB k λg=>Q (.bool g) n) False) (Q (.bool false) d)):FW SS 73 [(.int .i64 a),(strOf l)] h Q:=eh JX Tryz.func73 (av o)
variable{P:Program}{n:Nat}{c:List Value}
theorem dM{t:TypeId}(c:au P t=some n){h:aa}{k:Nat}{cs0:List Value}(g:cs0.length=n)(d:h.get k=some (.cells cs0 t 0 true)){cs:List Value}(f:cs.length=n)(a:cs.all bw=true):aj P t (.pointer (some ⟨k,0,none⟩)) (.agg ⟨cs⟩) h=some (undef,.set k (.cells cs t 0 true)):=by
 unfold aj;dsimp only;have b:(Value.agg ⟨cs⟩).cells.size=n:=by show cs.toArray.size=n;simpa using f
 have e:(Value.agg ⟨cs⟩).cells.toList=cs:=rfl;rw[if_pos (by rw[b,c])];unfold storeAt;rw[d,e];dsimp only;rw[if_pos ⟨by omega,a⟩,List.drop_eq_nil_of_le (by omega)];simp
theorem mM(w:Wf g)(o:Ok g h){k:Nat}{t:TypeId}{a cs:List Value}(c:h.get k=some (.cells a t 0 true))(b:g.next<=k):Ok g ((bp.set k (.cells cs t 0 true)).app h)/\((bp.set k (.cells cs t 0 true)).app h).get k=some (.cells cs t 0 true):=by
 refine⟨o.set _ b (o.wf _ _ c) w,?_⟩;show(h.set k _).get k=_;rw[aa.ay,if_pos rfl]
theorem aI(h:aa)(B:bu):(h.push B).get h.next=some B:=by rw[aa.aN,if_pos rfl]
def CS(i:Nat):Value:= .func (.func i) ⟨[]⟩ ⟨[]⟩
def ll:List Value:=[strOf [],strOf [],.bool false,.nilFunc,.nilFunc,.nilFunc,.nilFunc,.nilFunc]
def ze:List Value:=[strOf [105,110,102],strOf [48],.bool true,CS 152,CS 153,CS 154,CS 155,CS 155]
def zf:List Value:=[strOf [48],strOf [49],.bool false,CS 156,CS 157,CS 158,CS 159,CS 160]
def zg:List Value:=[strOf [48],strOf [49],.bool false,CS 152,CS 157,CS 161,CS 159,CS 160]
def yb:List Value:=ll++ze++zf++zg
def WL:bu:= .cells (ll++ll++ll++ll) 184 0 true
def zv:bu:= .cells ll 100 0 true
theorem acH:aA SS.P 184=some (WL,dR):=by kernel_rfl
theorem Nx:aA SS.P 100=some (zv,dR):=by kernel_rfl
theorem VJ:au SS.P 184=some 32:=by kernel_rfl
theorem Ct:au SS.P 100=some 8:=by kernel_rfl
theorem acx:Go.Ab.isAgg SS.P 184=true:=by kernel_rfl
theorem acv:Go.Ab.isAgg SS.P 100=true:=by kernel_rfl
noncomputable def acj:TypeDesc:=(SS.P.underlying 184).getD .bool
theorem aeb:SS.P.underlying 184=some acj:=by kernel_rfl
noncomputable def acd:TypeDesc:=(SS.P.underlying 100).getD .bool
theorem ad9:SS.P.underlying 100=some acd:=by kernel_rfl
noncomputable def aek:TypeDesc:=(SS.P.underlying 86).getD .bool
theorem afe:SS.P.underlying 86=some aek:=by kernel_rfl
theorem aez:Go.Ab.isAgg SS.P 86=false:=by kernel_rfl
theorem Xl:aD SS.P 100 [(0,(strOf [105,110,102])),(1,(strOf [48])),(2,(.bool true)),(3,(.func (.func 152) ⟨[]⟩ ⟨[]⟩)),(4,(.func (.func 153) ⟨[]⟩ ⟨[]⟩)),(5,(.func (.func 154) ⟨[]⟩ ⟨[]⟩)),(6,(.func (.func 155) ⟨[]⟩ ⟨[]⟩)),(7,(.func (.func 155) ⟨[]⟩ ⟨[]⟩))]=some (.agg ⟨ze⟩):=by kernel_rfl
theorem Xm:aD SS.P 100 [(0,(strOf [48])),(1,(strOf [49])),(2,(.bool false)),(3,(.func (.func 156) ⟨[]⟩ ⟨[]⟩)),(4,(.func (.func 157) ⟨[]⟩ ⟨[]⟩)),(5,(.func (.func 158) ⟨[]⟩ ⟨[]⟩)),(6,(.func (.func 159) ⟨[]⟩ ⟨[]⟩)),(7,(.func (.func 160) ⟨[]⟩ ⟨[]⟩))]=some (.agg ⟨zf⟩):=by kernel_rfl
theorem Xn:aD SS.P 100 [(0,(strOf [48])),(1,(strOf [49])),(2,(.bool false)),(3,(.func (.func 152) ⟨[]⟩ ⟨[]⟩)),(4,(.func (.func 157) ⟨[]⟩ ⟨[]⟩)),(5,(.func (.func 161) ⟨[]⟩ ⟨[]⟩)),(6,(.func (.func 159) ⟨[]⟩ ⟨[]⟩)),(7,(.func (.func 160) ⟨[]⟩ ⟨[]⟩))]=some (.agg ⟨zg⟩):=by kernel_rfl
theorem NB:aD SS.P 100 []=some (.agg ⟨ll⟩):=by kernel_rfl
theorem acT:aD SS.P 184 [(1,(.agg ⟨ze⟩)),(2,(.agg ⟨zf⟩)),(3,(.agg ⟨zg⟩))]=some (.agg ⟨yb⟩):=by kernel_rfl
theorem JW(w:Wf h):FW SS 121 [] h (λv b=>v = .agg ⟨yb⟩/\Ok h b):=by
 have a:(h.push WL).get h.next=some (.cells (ll++ll++ll++ll) 184 0 true):=aI h WL;refine JV h _ ⟨_,acH,_,Xl,_,Xm,_,Xn,_,acT,_,dM VJ (by rfl) a (cs:=yb) (by rfl) (by rfl),?_⟩;obtain⟨o,g⟩:=mM (cs:=yb) w ((Ok.refl w).push WL) a (Nat.le_refl _);refine Ip (v:= .agg ⟨yb⟩) (gG aeb acx VJ g (by simp[yb,ll,ze,zf,zg])) ?_;exact⟨rfl,o⟩
def ofV(a:Int):Value:=if a=1 then .tuple ⟨[.agg ⟨ze⟩,.bool true]⟩else if a=2 then .tuple ⟨[.agg ⟨zf⟩,.bool true]⟩else if a=3 then .tuple ⟨[.agg ⟨zg⟩,.bool true]⟩else .tuple ⟨[.agg ⟨ll⟩,.bool false]⟩
theorem BO(w:Wf h){g:aa}(o:Ok h g){k:Nat}{a:List Value}(i:a.length=8)(d:g.get k=some (.cells a 100 0 true))(e:h.next<=k){cs:List Value}(l:cs.length=8)(f:cs.all bw=true)(b:Bool){Q:VH}(j:∀c,Ok h c->Q (.tuple ⟨[.agg ⟨cs⟩,.bool b]⟩) c):
  ∃u:bp,aj SS.P 100 (.pointer (some ⟨k,0,none⟩)) (.agg ⟨cs⟩) g=some (undef,u)/\dq SS [(.pointer (some ⟨k,0,none⟩),some 100),(.bool b,none)] (u.app g) Q:=by
 refine⟨_,dM Ct i d l f,?_⟩;obtain⟨o,g⟩:=mM (cs:=cs) w o d e;refine vp (v:= .agg ⟨cs⟩) (by rw[gG ad9 acv Ct g (by omega),drop_zero,take_of_length_le (by omega)]) ?_;exact j _ o
theorem JU(a:Int){h:aa}(w:Wf h):FW SS 67 [.int .i64 a] h (λv j=>v=ofV a/\Ok h j):=by
 have c:=(Ok.refl w).push zv;have f:=aI h zv;refine Vi a h _ ⟨_,Nx,ah (λg=>?_) (λg=>ah (λb=>?_) (λb=>?_))⟩
 ·have g:=dT g;refine⟨_,NB,BO w c rfl f (Nat.le_refl _) rfl rfl false (λ_ o=>⟨?_,o⟩)⟩;unfold ofV;rw[if_neg (by omega),if_neg (by omega),if_neg (by omega)]
 ·have b:=dT b;refine⟨_,NB,BO w c rfl f (Nat.le_refl _) rfl rfl false (λ_ o=>⟨?_,o⟩)⟩;unfold ofV;rw[if_neg (by omega),if_neg (by omega),if_neg (by omega)]
 ·have g:=dF g;have b:=dF b;refine(JW c.wf).mono ?_;rintro _ k ⟨rfl,i⟩;have d:=i.ext _ _ f;have e:=c.trans i;obtain rfl|rfl|rfl:a=1\/a=2\/a=3:=by omega
  ·exact⟨_,rfl,ze,by kernel_rfl,BO w e rfl d (Nat.le_refl _) rfl rfl true (λ_ o=>⟨rfl,o⟩)⟩
  ·exact⟨_,rfl,zf,by kernel_rfl,BO w e rfl d (Nat.le_refl _) rfl rfl true (λ_ o=>⟨rfl,o⟩)⟩
  ·exact⟨_,rfl,zg,by kernel_rfl,BO w e rfl d (Nat.le_refl _) rfl rfl true (λ_ o=>⟨rfl,o⟩)⟩
theorem rv(l:List UInt8)(b:l.length<=281474976710656){h:aa}(c:rK h)(w:Wf h):FW SS 160 [strOf l] h (λv d=>v = .bool (eC l&&decide (0<oq l [48]))/\Ok h d):=by
 refine Cl l h _ ((yZ l b c w).mono ?_);rintro _ f ⟨rfl,a⟩;refine⟨_,rfl,ah (λg=>?_) (λg=>?_)⟩
 ·refine(QP l [48] b (by simp) (c.ok a) a.wf).mono ?_;rintro _ i ⟨rfl,e⟩;refine⟨_,rfl,?_,a.trans e⟩;rw[g,Bool.true_and]
 ·refine⟨?_,a⟩;rw[g,Bool.false_and]
theorem adX{A B:Prop}(c:b=true)(a:A):aS b A B:=ah (λ_=>a) (λe=>by rw[c]at e;cases e)
theorem D1{K:VH}(d:Nat.blt n YB=true)(e:FW SS n c h λv a=>∃b:Bool,v = .bool b/\K (.bool b) a):aS (Nat.blt n YB) (FW SS n ([]++c++[]) h λv a=>∃b:Bool,v = .bool b/\K (.bool b) a) False:=
 adX d (by rw[nil_append,List.append_nil];exact e)
theorem pO(a:Int)(l:List UInt8)(u:l.length<=281474976710656){h:aa}(z:rK h)(w:Wf h):FW SS 73 [.int .i64 a,strOf l] h (λv y=>v = .bool (cY a l)/\Ok h y):=by
 refine GU a l h _ ((JU a w).mono ?_);rintro _ b ⟨rfl,c⟩;have j:∀(cs:List Value)(f:Nat),cs.length=8->cs.all bw=true->cs.getD 7 undef=CS f->Nat.blt f YB=true->(∀g,Ok h g->FW SS f [strOf l] g (λv y=>v = .bool (cY a l)/\Ok g y))->ofV a = .tuple ⟨[.agg ⟨cs⟩,.bool true]⟩->∃p:List Value,∃D:Bool,ofV a=(.tuple ⟨[(.agg ⟨p⟩),(.bool D)]⟩)/\∃m:bu,aA SS.P 100=some (m,dR)/\∃n:bp,aj SS.P 100 (.pointer (some ⟨b.next,0,none⟩)) (.agg ⟨p⟩) (b.push m)=some (undef,n)/\aS D (∃E:Addr,af SS.P 100 (.pointer (some ⟨b.next,0,none⟩)) 7=some (.pointer (some E))/\∃(t:Nat)(B r:List Value),ae SS.P 86 (n.app (b.push m)) (.pointer (some E))=some (.func (.func t) ⟨B⟩ ⟨r⟩)/\aS (Nat.blt t YB) (FW SS t (B++[(strOf l)]++r) (n.app (b.push m)) λA k=>∃s:Bool,A=(.bool s)/\(Value.bool s = .bool (cY a l)/\Ok h k)) False) (Value.bool false = .bool (cY a l)/\Ok h (n.app (b.push m))):=by
  intro cs f M I H J L e;refine⟨_,_,e,_,Nx,_,dM Ct rfl (aI b zv) M I,ah (λ_=>?_) (λg=>by cases g)⟩;obtain⟨o,g⟩:=mM (cs:=cs) c.wf ((Ok.refl c.wf).push zv) (aI b zv) (Nat.le_refl _);have q:=aR afe aez g (i:=7) (by omega);rw[H]at q;refine⟨⟨b.next,7,none⟩,by kernel_rfl,f,[],[],q,?_⟩;refine D1 (K:=λv k=>v = .bool (cY a l)/\Ok h k) J ((L _ (c.trans o)).mono ?_);rintro _ x ⟨rfl,d⟩;exact⟨_,rfl,rfl,(c.trans o).trans d⟩
 by_cases F:a=1
 ·subst F;refine j ze 155 rfl rfl rfl (by decide +kernel) (λg o=>?_) rfl;refine(yZ l u (z.ok o) o.wf).mono ?_;rintro _ x ⟨rfl,d⟩;refine⟨?_,d⟩;unfold cY;simp
 by_cases C:a=2
 ·subst C;refine j zf 160 rfl rfl rfl (by decide +kernel) (λg o=>?_) rfl;refine(rv l u (z.ok o) o.wf).mono ?_;rintro _ x ⟨rfl,d⟩;refine⟨?_,d⟩;unfold cY;simp
 by_cases G:a=3
 ·subst G;refine j zg 160 rfl rfl rfl (by decide +kernel) (λg o=>?_) rfl;refine(rv l u (z.ok o) o.wf).mono ?_;rintro _ x ⟨rfl,d⟩;refine⟨?_,d⟩;unfold cY;simp
 ·have e:ofV a = .tuple ⟨[.agg ⟨ll⟩,.bool false]⟩:=by unfold ofV;rw[if_neg F,if_neg C,if_neg G]
  refine⟨_,_,e,_,Nx,_,dM Ct rfl (aI b zv) (cs:=ll) rfl rfl,ah (λg=>by cases g) (λ_=>?_)⟩;obtain⟨o,g⟩:=mM (cs:=ll) c.wf ((Ok.refl c.wf).push zv) (aI b zv) (Nat.le_refl _);refine⟨?_,c.trans o⟩;unfold cY;rw[decide_eq_false (by omega)];rfl
variable{m:Nat}{D:bJ}
section
def eT(h:aa)(v:Value)(l:List bJ):Prop:=wT h 46 4 v (l.map gV)
def sg(p:fF×Value):List Value:=[strOf p.1.f,p.2]
def ey(h:aa)(v:Value)(l:List fF):Prop:=∃a:List (fF×Value),a.map (·.1)=l/\wT h 44 2 v (a.map sg)/\(∀p∈a,eT h p.2 p.1.an)/\v≠sV
theorem ey.ok{a:aa}{l:List fF}(r:ey h v l)(o:Ok h a):ey a v l:=by
 obtain⟨f,c,d,b,e⟩:=r;exact⟨f,c,d.ok o,λp g=>wT.ok (b p g) o,e⟩
theorem ey.len{a:Option Addr}{n c:Nat}{l:List fF}(r:ey h (.slice a n c) l):n=l.length:=by
 obtain⟨f,b,d,e,_⟩:=r;rw[d.len,lM,<-b,lM]
theorem Cn:SS.P.underlying 22=some (.slice 44):=by kernel_rfl
theorem Vk:SS.P.underlying 42=some (.slice 46):=by kernel_rfl
theorem VL:au SS.P 44=some 2:=by kernel_rfl
theorem OD:au SS.P 46=some 4:=by kernel_rfl
theorem mY:au SS.P 24=some 4:=by kernel_rfl
theorem acA:Go.Ab.isAgg SS.P 44=true:=by kernel_rfl
theorem aaM:Go.Ab.isAgg SS.P 46=true:=by kernel_rfl
theorem C4:Go.Ab.isAgg SS.P 24=true:=by kernel_rfl
theorem HO:Go.Ab.isAgg SS.P 22=false:=by kernel_rfl
theorem aaL:Go.Ab.isAgg SS.P 42=false:=by kernel_rfl
noncomputable def aeh:TypeDesc:=(SS.P.underlying 44).getD .bool
theorem aeg:SS.P.underlying 44=some aeh:=by kernel_rfl
noncomputable def aei:TypeDesc:=(SS.P.underlying 46).getD .bool
theorem acm:SS.P.underlying 46=some aei:=by kernel_rfl
noncomputable def aee:TypeDesc:=(SS.P.underlying 24).getD .bool
theorem Dx:SS.P.underlying 24=some aee:=by kernel_rfl
theorem tO(k:Nat):af SS.P 24 (.pointer (some ⟨k,0,none⟩)) 0=some (.pointer (some ⟨k,0,none⟩)):=by kernel_rfl
theorem pk(k:Nat):af SS.P 24 (.pointer (some ⟨k,0,none⟩)) 1=some (.pointer (some ⟨k,1,none⟩)):=by kernel_rfl
theorem Te(k:Nat):af SS.P 24 (.pointer (some ⟨k,0,none⟩)) 2=some (.pointer (some ⟨k,2,none⟩)):=by kernel_rfl
theorem eJ(k:Nat):af SS.P 24 (.pointer (some ⟨k,0,none⟩)) 3=some (.pointer (some ⟨k,3,none⟩)):=by kernel_rfl
theorem pn(k o:Nat):af SS.P 44 (.pointer (some ⟨k,o,none⟩)) 0=some (.pointer (some ⟨k,o+0,none⟩)):=by kernel_rfl
theorem iw(k o:Nat):af SS.P 44 (.pointer (some ⟨k,o,none⟩)) 1=some (.pointer (some ⟨k,o+1,none⟩)):=by kernel_rfl
theorem gj(k o:Nat):af SS.P 46 (.pointer (some ⟨k,o,none⟩)) 0=some (.pointer (some ⟨k,o+0,none⟩)):=by kernel_rfl
theorem xy(k o:Nat):af SS.P 46 (.pointer (some ⟨k,o,none⟩)) 1=some (.pointer (some ⟨k,o+1,none⟩)):=by kernel_rfl
theorem abh(k o:Nat):af SS.P 46 (.pointer (some ⟨k,o,none⟩)) 2=some (.pointer (some ⟨k,o+2,none⟩)):=by kernel_rfl
theorem eV(k o:Nat):af SS.P 46 (.pointer (some ⟨k,o,none⟩)) 3=some (.pointer (some ⟨k,o+3,none⟩)):=by kernel_rfl
structure MB(g:aa)(k:Nat)(M:aG)(a:Option Addr)(n c:Nat):Prop where
 box:g.get k=some (.cells [.int .i64 M.kind,.int .i64 M.start,strOf M.lead,.slice a n c] 24 0 true)
 row:ey g (.slice a n c) M.ak
section
variable {g g':aa} {k:Nat} {M:aG} {a:Option Addr} {n c:Nat}
theorem MB.ok(m:MB g k M a n c)(o:Ok g g'):MB g' k M a n c:=⟨o.ext _ _ m.box,m.row.ok o⟩
theorem MB.l0(m:MB g k M a n c):ae SS.P 3 g (.pointer (some ⟨k,0,none⟩))=some (.int .i64 M.kind):=aR lC lB m.box (by simp)
theorem MB.l1(m:MB g k M a n c):ae SS.P 3 g (.pointer (some ⟨k,1,none⟩))=some (.int .i64 M.start):=aR lC lB m.box (by simp)
theorem MB.l2(m:MB g k M a n c):ae SS.P 9 g (.pointer (some ⟨k,2,none⟩))=some (strOf M.lead):=aR WJ Z5 m.box (by simp)
theorem MB.l3(m:MB g k M a n c):ae SS.P 22 g (.pointer (some ⟨k,3,none⟩))=some (.slice a n c):=aR Cn HO m.box (by simp)
theorem MB.all(m:MB g k M a n c):ae SS.P 24 g (.pointer (some ⟨k,0,none⟩))=some (.agg ⟨[.int .i64 M.kind,.int .i64 M.start,strOf M.lead,.slice a n c]⟩):=gG Dx C4 mY m.box (by simp)
theorem MB.len(m:MB g k M a n c):n=M.ak.length:=m.row.len
end
theorem ey.at_{g:aa}{a:Option Addr}{n c:Nat}{l:List fF}(r:ey g (.slice a n c) l){i:Nat}{s:fF}(k:l[i]?=some s):
  ∃(b o:Nat)(x:Option Addr)(y z:Nat),ai SS.P 22 (.slice a n c) (.int .i64 (i:Int))=some (.pointer (some ⟨b,o,none⟩))/\ae SS.P 44 g (.pointer (some ⟨b,o,none⟩))=some (.agg ⟨[strOf s.f,.slice x y z]⟩)/\
   ae SS.P 9 g (.pointer (some ⟨b,o+0,none⟩))=some (strOf s.f)/\ae SS.P 42 g (.pointer (some ⟨b,o+1,none⟩))=some (.slice x y z)/\eT g (.slice x y z) s.an:=by
 obtain⟨B,v,w,t,_⟩:=r;rw[<-v,getElem?_map]at k;obtain⟨p,j,rfl⟩:=Option.map_eq_some_iff.1 k;have C:=(List.getElem?_eq_some_iff.1 j).1;obtain⟨b,o,q,d,e⟩:=w.at_ Cn VL aeg acA (ik:= .i64) (i:=(i:Int)) (by omega) (by rw[lM];omega);have A:(B.map sg).getD (i:Int).toNat []=sg p:=by
  rw[toNat_natCast,gD,getElem?_map,j];rfl
 rw[A]at d e;have f:=t p (List.mem_of_getElem? j);obtain⟨x,z,u⟩:=wT.oa f;have m:=e 9 _ 0 WJ Z5 (by omega);have h:=e 42 _ 1 Vk aaL (by omega);unfold sg at d m h;rw[u]at d h f;exact⟨b,o,x,_,z,q,d,m,h,f⟩
theorem eT.len{g:aa}{x:Option Addr}{z:Nat}{l:List bJ}(r:eT g (.slice x m z) l):m=l.length:=by
 have:=wT.len r;rwa[lM]at this
theorem eT.ok{a:aa}{l:List bJ}(r:eT h v l)(o:Ok h a):eT a v l:=wT.ok r o
theorem eT.at_{g:aa}{x:Option Addr}{z:Nat}{l:List bJ}(r:eT g (.slice x m z) l){j:Nat}{q:bJ}(c:l[j]?=some q):
  ∃(b o:Nat),ai SS.P 42 (.slice x m z) (.int .i64 (j:Int))=some (.pointer (some ⟨b,o,none⟩))/\ae SS.P 46 g (.pointer (some ⟨b,o,none⟩))=some (.agg ⟨gV q⟩)/\
   ae SS.P 3 g (.pointer (some ⟨b,o+0,none⟩))=some (.int .i64 q.i)/\ae SS.P 3 g (.pointer (some ⟨b,o+1,none⟩))=some (.int .i64 q.o)/\ae SS.P 9 g (.pointer (some ⟨b,o+2,none⟩))=some (strOf q.w)/\ae SS.P 3 g (.pointer (some ⟨b,o+3,none⟩))=some (.int .i64 q.t):=by
 have h:=(List.getElem?_eq_some_iff.1 c).1;obtain⟨b,o,e,d,a⟩:=wT.at_ Vk OD acm aaM r (ik:= .i64) (i:=(j:Int)) (by omega) (by rw[lM];omega);have f:(l.map gV).getD (j:Int).toNat []=gV q:=by
  rw[toNat_natCast,gD,getElem?_map,c];rfl
 rw[f]at d a;exact⟨b,o,e,d,a 3 _ 0 lC lB (by omega),a 3 _ 1 lC lB (by omega),a 9 _ 2 WJ Z5 (by omega),a 3 _ 3 lC lB (by omega)⟩
def SB(g:aa)(k:Nat)(f:List UInt8)(x:Option Addr)(y z:Nat):Prop:=g.get k=some (.cells [strOf f,.slice x y z] 44 0 true)
theorem SB.ok{g g':aa}{k:Nat}{x:Option Addr}{z:Nat}(s:SB g k t x m z)(o:Ok g g'):SB g' k t x m z:=o.ext _ _ s
theorem SB.l0{g:aa}{k:Nat}{x:Option Addr}{z:Nat}(s:SB g k t x m z):ae SS.P 9 g (.pointer (some ⟨k,0+0,none⟩))=some (strOf t):=aR WJ Z5 s (by simp)
theorem SB.l1{g:aa}{k:Nat}{x:Option Addr}{z:Nat}(s:SB g k t x m z):ae SS.P 42 g (.pointer (some ⟨k,0+1,none⟩))=some (.slice x m z):=aR Vk aaL s (by simp)
def AB(g:aa)(k:Nat)(q:bJ):Prop:=g.get k=some (.cells (gV q) 46 0 true)
theorem AB.ok{g g':aa}{k:Nat}(s:AB g k D)(o:Ok g g'):AB g' k D:=o.ext _ _ s
theorem AB.l0{g:aa}{k:Nat}(s:AB g k D):ae SS.P 3 g (.pointer (some ⟨k,0+0,none⟩))=some (.int .i64 D.i):=aR lC lB s (by simp[gV])
theorem AB.l1{g:aa}{k:Nat}(s:AB g k D):ae SS.P 3 g (.pointer (some ⟨k,0+1,none⟩))=some (.int .i64 D.o):=aR lC lB s (by simp[gV])
theorem AB.l2{g:aa}{k:Nat}(s:AB g k D):ae SS.P 9 g (.pointer (some ⟨k,0+2,none⟩))=some (strOf D.w):=aR WJ Z5 s (by simp[gV])
theorem AB.l3{g:aa}{k:Nat}(s:AB g k D):ae SS.P 3 g (.pointer (some ⟨k,0+3,none⟩))=some (.int .i64 D.t):=aR lC lB s (by simp[gV])
def RO:bu:= .cells [strOf [],.slice none 0 0] 44 0 true
theorem aaQ:aA SS.P 44=some (RO,dR):=by kernel_rfl
def Hr:bu:= .cells [.int .i64 0,.int .i64 0,strOf [],.int .i64 0] 46 0 true
theorem Fk:aA SS.P 46=some (Hr,dR):=by kernel_rfl
theorem UK(w:Wf h)(f:List UInt8)(x:Option Addr)(y z:Nat):∃u:bp,aj SS.P 44 (.pointer (some ⟨h.next,0,none⟩)) (.agg ⟨[strOf f,.slice x y z]⟩) (h.push RO)=some (undef,u)/\Ok h (u.app (h.push RO))/\SB (u.app (h.push RO)) h.next f x y z:=by
 obtain⟨o,e⟩:=mM (cs:=[strOf f,.slice x y z]) w ((Ok.refl w).push RO) (aI h RO) (Nat.le_refl _);exact⟨_,dM VL rfl (aI h RO) rfl rfl,o,e⟩
theorem wc(w:Wf h)(q:bJ):∃u:bp,aj SS.P 46 (.pointer (some ⟨h.next,0,none⟩)) (.agg ⟨gV q⟩) (h.push Hr)=some (undef,u)/\Ok h (u.app (h.push Hr))/\AB (u.app (h.push Hr)) h.next q:=by
 obtain⟨o,e⟩:=mM (cs:=gV q) w ((Ok.refl w).push Hr) (aI h Hr) (Nat.le_refl _);exact⟨_,dM OD rfl (aI h Hr) rfl rfl,o,e⟩
def bD(M:aG)(a:Option Addr)(n c:Nat):List Value:=[.int .i64 M.kind,.int .i64 M.start,strOf M.lead,.slice a n c]
def Bm(M:aG)(a:Option Addr)(n c:Nat):bu:= .cells (bD M a n c) 24 0 true
theorem oy(M:aG)(a:Option Addr)(n c:Nat):dp SS.P 24 (.agg ⟨bD M a n c⟩)=some (Bm M a n c,dR):=by kernel_rfl
theorem nT(w:Wf h){M:aG}{a:Option Addr}{n c:Nat}(r:ey h (.slice a n c) M.ak):MB (h.push (Bm M a n c)) h.next M a n c/\Ok h (h.push (Bm M a n c)):=
 ⟨⟨aI h _,r.ok ((Ok.refl w).push _)⟩,(Ok.refl w).push _⟩
def EW(s:Int):Bool:=decide (0<=s)&&decide (s<=500)
def qe(b:Int)(N:Nat)(a:bJ):Bool:=EW a.i&&EW a.o&&decide (0<=a.t)&&decide (a.t<N)&&cY b a.w
def tp(a:Int)(N:Nat):Int->List fF->Bool
 |_,[]=>true
 |b,s::r=>decide (b+s.an.length<=30000)&&(s.f==[]||cY a s.f)&&s.an.all (qe a N)&&tp a N (b+s.an.length) r
def cL(M:aG):Bool:=decide (1<=M.kind)&&decide (M.kind<=3)&&decide (1<=M.ak.length)&&decide (M.ak.length<=3000)&&decide (0<=M.start)&&decide (M.start<M.ak.length)&&cY M.kind M.lead&&tp M.kind M.ak.length 0 M.ak
def mX(l:List fF):Nat:=(l.map λs=>s.an.length).sum
structure Small(M:aG):Prop where
 lead:M.lead.length<=281474976710656
 RL:M.ak.length<=300
 fin:∀s∈M.ak,s.f.length<=281474976710656
 an:∀s∈M.ak,s.an.length<=2000
 w:∀s∈M.ak,∀q∈s.an,q.w.length<=281474976710656
 tot:mX M.ak<=2000
end
noncomputable def VB:FD:=dY Tryz.f74 []
theorem Rl(s:Int)(h:aa)(Q:VH)(a:aS (decide ((s:Int)>=0)) (Q (.bool (decide ((s:Int)<=500))) h) (Q (.bool false) h)):FW SS 74 [(.int .i64 s)] h Q:=eh VB Tryz.func74 (av a)
noncomputable def cH:FD:=dY Tryz.f30 [([1,1,1,1,0,1,0,0],[1,2,3,4,48,49,50]),([1,1,1,1,0,1,0,0,1,1,0,0,1,1,1,1,0,0],[1,2,3,4,6,48,49,50,75,76,77])]
abbrev ft(k:Nat)(a:OA)(n c:Nat)(i:Nat)(b:Int):LV:=[(pA k),(.bool false),(iA n),(.int .i64 b),(.slice a n c),(iA n),(iA i)]
abbrev gY(k:Nat)(a:OA)(n c f:Nat)(b:OA)(m d i:Nat)(e:Int)(j:Nat):LV:=[(pA k),(.bool false),(iA n),(.int .i64 e),(pA f),(.slice a n c),(iA n),(iA i),(.slice b m d),(iA m),(iA j)]
theorem Qa(e:LV)(h:aa)(Q:VH)(u:xN (dp SS.P 24 (.agg ⟨e⟩)) h λz a=>xP (af SS.P 24 (pA (h.next)) 3) λx=>xL (ae SS.P 22 a (.pointer (some x))) λA c B=>xP (af SS.P 24 (pA (h.next)) 0) λv=>xI .i64 (ae SS.P 3 a (.pointer (some v))) λw=>aS (decide ((w:Int)<1)) (Q (.bool false) a) (xP (af SS.P 24 (pA (h.next)) 0) λy=>xI .i64 (ae SS.P 3 a (.pointer (some y))) λm=>aS (decide ((m:Int)>3)) (Q (.bool false) a) (aS (decide (((c:Int):Int)<1)) (Q (.bool false) a) (aS (decide (((c:Int):Int)>3000)) (Q (.bool false) a) (xP (af SS.P 24 (pA (h.next)) 1) λp=>xI .i64 (ae SS.P 3 a (.pointer (some p))) λo=>aS (decide ((o:Int)<0)) (Q (.bool false) a) (xP (af SS.P 24 (pA (h.next)) 1) λq=>xI .i64 (ae SS.P 3 a (.pointer (some q))) λg=>aS (decide ((g:Int)>=(c:Int))) (Q (.bool false) a) (xP (af SS.P 24 (pA (h.next)) 0) λl=>xI .i64 (ae SS.P 3 a (.pointer (some l))) λj=>xP (af SS.P 24 (pA (h.next)) 2) λn=>xS (ae SS.P 9 a (.pointer (some n))) λt=>FW SS 73 [(.int .i64 j),(strOf t)] a λr b=>yB r λk=>aS (!k) (Q (.bool false) b) (xP (af SS.P 24 (pA (h.next)) 3) λf=>xL (ae SS.P 22 b (.pointer (some f))) λs d i=>LL SS cH [1,1,1,1,0,1,0,0] [(pA (h.next)),(.bool false),(iA c),(.int .i64 0),(.slice s d i),(iA d),(.int .i64 0)] b (KK SS cH [1,1,1,1,0,1,0] [] (EE SS cH Q)))))))))):FW SS 30 [(.agg ⟨e⟩)] h Q:=eh cH Tryz.func30 (av u)
theorem vL(L:LV)(k:Nat)(a:OA)(n c:Nat)(d:Nat->Nat->Int->aa->Prop)(Q:VH)(step:∀(e:Nat) (i:Nat) (acc:Int) (w:Nat->Value) (h:aa),d e i acc h->aS (decide (((i:Int):Int)<(n:Int))) (xP (ai SS.P 22 (.slice a n c) (iA i)) λo=>xA (ae SS.P 44 h (.pointer (some o))) λr=>xN (aA SS.P 44) h λK j=>xU (aj SS.P 44 (pA (h.next)) (.agg ⟨r⟩) j) j λJ b=>xP (af SS.P 44 (pA (h.next)) 1) λC=>xL (ae SS.P 42 b (.pointer (some C))) λI f H=>aS (decide ((wrap .i64 (acc+(f:Int)):Int)>30000)) (Q (.bool false) b) (xP (af SS.P 44 (pA (h.next)) 0) λp=>xS (ae SS.P 9 b (.pointer (some p))) λm=>aS (!((m:LB)==[])) (xP (af SS.P 24 (pA k) 0) λG=>xI .i64 (ae SS.P 3 b (.pointer (some G))) λE=>xP (af SS.P 44 (pA (h.next)) 0) λs=>xS (ae SS.P 9 b (.pointer (some s))) λx=>FW SS 73 [(.int .i64 E),(strOf x)] b λq g=>yB q λF=>aS (!F) (Q (.bool false) g) (xP (af SS.P 44 (pA (h.next)) 1) λA=>xL (ae SS.P 42 g (.pointer (some A))) λD v t=>LL SS cH [1,1,1,1,0,1,0,0,1,1,0,0,1,1,1,1,0,0] (gY k a n c (h.next) D v t i (wrap .i64 (acc+(f:Int))) 0) g (KK SS cH [1,1,0,0,1,1,1,1,0] [1,1,1,1,0,1,0,0] (RR cH [1,1,1,1,0,1,0,0] (qu (ft k a n c) d) e (KK SS cH [1,1,1,1,0,1,0] [] (EE SS cH Q)))))) (xP (af SS.P 44 (pA (h.next)) 1) λu=>xL (ae SS.P 42 b (.pointer (some u))) λB y z=>LL SS cH [1,1,1,1,0,1,0,0,1,1,0,0,1,1,1,1,0,0] (gY k a n c (h.next) B y z i (wrap .i64 (acc+(f:Int))) 0) b (KK SS cH [1,1,0,0,1,1,1,1,0] [1,1,1,1,0,1,0,0] (RR cH [1,1,1,1,0,1,0,0] (qu (ft k a n c) d) e (KK SS cH [1,1,1,1,0,1,0] [] (EE SS cH Q))))))) (Q (.bool true) h))(e:Nat){i:Nat}{acc:Int}{h:aa}(l:d e i acc h):LL SS cH [1,1,1,1,0,1,0,0] (ft k a n c i acc) h (KK SS cH [1,1,1,1,0,1,0] [] (EE SS cH Q)):=
 oJ (ft k a n c) d (λe i acc w h l=>av (step e i acc w h l)) e l
theorem vM(U:LV)(k:Nat)(a:OA)(n c:Nat)(p:Nat)(b:OA)(m d:Nat)(q:Nat->Nat->Int->aa->Prop)(x i:Nat)(l:Int)(g:Nat->Nat->aa->Prop)(Q:VH)(step:∀(f:Nat) (j:Nat) (F:Nat->Value) (h:aa),g f j h->aS (decide (((j:Int):Int)<(m:Int))) (xP (ai SS.P 42 (.slice b m d) (iA j)) λJ=>xA (ae SS.P 46 h (.pointer (some J))) λK=>xN (aA SS.P 46) h λT t=>xU (aj SS.P 46 (pA (h.next)) (.agg ⟨K⟩) t) t λS s=>xP (af SS.P 46 (pA (h.next)) 0) λw=>xI .i64 (ae SS.P 3 s (.pointer (some w))) λB=>FW SS 74 [(.int .i64 B)] s λH o=>yB H λv=>aS (!v) (Q (.bool false) o) (xP (af SS.P 46 (pA (h.next)) 1) λE=>xI .i64 (ae SS.P 3 o (.pointer (some E))) λC=>FW SS 74 [(.int .i64 C)] o λA e=>yB A λN=>aS (!N) (Q (.bool false) e) (xP (af SS.P 46 (pA (h.next)) 3) λI=>xI .i64 (ae SS.P 3 e (.pointer (some I))) λO=>aS (decide ((O:Int)<0)) (Q (.bool false) e) (xP (af SS.P 46 (pA (h.next)) 3) λL=>xI .i64 (ae SS.P 3 e (.pointer (some L))) λM=>aS (decide ((M:Int)>=(n:Int))) (Q (.bool false) e) (xP (af SS.P 24 (pA k) 0) λz=>xI .i64 (ae SS.P 3 e (.pointer (some z))) λG=>xP (af SS.P 46 (pA (h.next)) 2) λy=>xS (ae SS.P 9 e (.pointer (some y))) λD=>FW SS 73 [(.int .i64 G),(strOf D)] e λP r=>yB P λR=>aS (!R) (Q (.bool false) r) (aH (fD (gY k a n c p b m d i l) g) f [(pA k),(.bool false),(iA n),(.int .i64 l),(pA p),(.slice a n c),(iA n),(iA i),(.slice b m d),(iA m),(.int .i64 (wrap .i64 ((j:Int)+1)))] r)))))) (aH (qu (ft k a n c) q) x [(pA k),(.bool false),(iA n),(.int .i64 l),(.slice a n c),(iA n),(.int .i64 (wrap .i64 ((i:Int)+1)))] h))(f:Nat){j:Nat}{h:aa}(u:g f j h):LL SS cH [1,1,1,1,0,1,0,0,1,1,0,0,1,1,1,1,0,0] (gY k a n c p b m d i l j) h (KK SS cH [1,1,0,0,1,1,1,1,0] [1,1,1,1,0,1,0,0] (RR cH [1,1,1,1,0,1,0,0] (qu (ft k a n c) q) x (KK SS cH [1,1,1,1,0,1,0] [] (EE SS cH Q)))):=
 dN (gY k a n c p b m d i l) g (λf j F h u=>av (step f j F h u)) f u
noncomputable def pJ:FD:=dY Tryz.f23 [([1,1,0,1,0,0],[1,3,4])]
abbrev kC(k:Nat)(i:Nat)(a:Int):LV:=[(pA k),(.int .i64 a),(iA i)]
theorem UN(a:LV)(h:aa)(Q:VH)(c:xN (dp SS.P 24 (.agg ⟨a⟩)) h λd b=>LL SS pJ [1,1,0,1,0,0] (kC (h.next) 0 0) b (KK SS pJ [1,1,0,1,0] [] (EE SS pJ Q))):FW SS 23 [(.agg ⟨a⟩)] h Q:=eh pJ Tryz.func23 (av c)
theorem xY(s:LV)(k:Nat)(b:Nat->Nat->Int->aa->Prop)(Q:VH)(step:∀(a:Nat) (i:Nat) (acc:Int) (f:Nat->Value) (h:aa),b a i acc h->xP (af SS.P 24 (pA k) 3) λp=>xL (ae SS.P 22 h (.pointer (some p))) λt l u=>aS (decide (((i:Int):Int)<(l:Int))) (xP (af SS.P 24 (pA k) 3) λo=>xL (ae SS.P 22 h (.pointer (some o))) λn m j=>xP (ai SS.P 22 (.slice n m j) (iA i)) λg=>xP (af SS.P 44 (.pointer (some g)) 1) λe=>xL (ae SS.P 42 h (.pointer (some e))) λq d r=>aH (qu (kC k) b) a [(pA k),(.int .i64 (wrap .i64 (acc+(d:Int)))),(.int .i64 (wrap .i64 ((i:Int)+1)))] h) (Q (.int .i64 acc) h))(a:Nat){i:Nat}{acc:Int}{h:aa}(c:b a i acc h):LL SS pJ [1,1,0,1,0,0] (kC k i acc) h (KK SS pJ [1,1,0,1,0] [] (EE SS pJ Q)):=
 oJ (kC k) b (λa i acc f h c=>av (step a i acc f h c)) a c
end Go.Proofs.YtnlccnpbjeiccaaGreatDoor
end
