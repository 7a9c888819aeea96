/- Laws and walks that the proof leans on (part 3): AbRow; AbRec; AbGrow; AbOwn; FunA; FunB and others. No condition. -/
import Derived.Test.YtnlccnpbjeiccaaGreatDoorPart2
import Derived.Test.YtnlccnpbjeiccaaGreatDoorPart1
import Derived.Shelf.SortM.Plain
import Derived.Shelf.SortM.SortNone
import Derived.ChangeArms
import Derived.DataElems
import Derived.Below
import Derived.ChangeSame
import Derived.Test.YtnlccnpbjeiccaaGreatDoorProg
set_option linter.unusedVariables false
set_option linter.unusedSimpArgs false
set_option maxRecDepth 100000
open List (all_append all_cons all_eq_true all_nil append_assoc append_nil cons_append drop_drop drop_eq_nil_of_le drop_of_length_le drop_take drop_zero eq_nil_of_length_eq_zero filterMap_cons flatten_append flatten_cons getElem?_drop getElem?_eq_none getElem?_map getElem?_of_mem getElem?_take getElem_mem length_append length_cons length_drop length_pos_iff length_replicate length_set length_take map_append map_take mem_append mem_cons mem_cons_of_mem mem_cons_self mem_map mem_of_mem_take mem_singleton nil_append nodup_append set_append take_append_drop take_length take_of_length_le take_take take_zero)
open Nat (add_comm add_mul add_sub_cancel add_zero div_eq_of_lt div_lt_of_lt_mul div_lt_self eq_zero_or_pos le_add_right le_of_lt le_succ lt_of_lt_of_le lt_or_ge min_eq_left mod_add_div mod_eq_of_lt mod_lt mul_add mul_assoc mul_comm mul_le_mul mul_le_mul_left mul_le_mul_right mul_one mul_succ mul_zero one_mul pow_le_pow_right pow_succ succ_le_of_lt succ_mul zero_add zero_mul)
open Option (map_some)
open Bool (and_eq_true)
open Int (toNat_natCast)
open Go.IntKind (wrap)
section
namespace Go.Ab
open Go
variable{P:Program}{T:TypeId}{m:Nat}{n:Nat}{h:aa}{c:List Value}{g:aa}{A:Type}
theorem O2(k i j:Nat):Addr.add ⟨k,i,none⟩ j=⟨k,i+j,none⟩:=by simp[Addr.add]
theorem F0{t:TypeId}(e:P.underlying t=some (.slice T))(a:au P T=some m){k off n c:Nat}{ik:IntKind}{i:Int}(d:0<=i)(b:i<n):ai P t (.slice (some ⟨k,off,none⟩) n c) (.int ik i)=some (.pointer (some ⟨k,off+i.toNat*m,none⟩)):=by simp_all[O2,ai]
theorem aN{t:TypeId}{d:TypeDesc}(f:P.underlying t=some d)(a:isAgg P t=false){h:aa}{k i:Nat}{cs:List Value}{e:TypeId}{sz:Nat}{wr:Bool}(c:h.get k=some (.cells cs e sz wr))(b:i<cs.length):ae P t h (.pointer (some ⟨k,i,none⟩))=some (cs.getD i undef):=by simp_all[ae]
theorem fE{t:TypeId}{d:TypeDesc}(j:P.underlying t=some d)(c:isAgg P t=true)(b:au P t=some n){h:aa}{k i:Nat}{cs:List Value}{e:TypeId}{z:Nat}{a:Bool}(g:h.get k=some (.cells cs e z a))(f:i+n<=cs.length):ae P t h (.pointer (some ⟨k,i,none⟩))=some (.agg ⟨(cs.drop i).take n⟩):=by
 unfold ae
 grind
theorem bC{t:TypeId}(c:au P t=some 1){h:aa}{k i:Nat}{cs:List Value}{e:TypeId}{a:Nat}(d:h.get k=some (.cells cs e a true))(g:i<cs.length){v:Value}(b:bc v=true)(f:v.cells = #[v]):aj P t (.pointer (some ⟨k,i,none⟩)) v h=some (undef,.set k (.cells (cs.set i v) e a true)):=by
 unfold aj;dsimp only;rw[f,if_pos (show au P t=some (#[v]:Array Value).size from c)];unfold storeAt;rw[d];dsimp only;rw[if_pos ⟨by simp;omega,by simp[b]⟩]
 simp_all[List.set_eq_take_append_cons_drop]
structure uB(hb:aa)(kt:Nat)(e:TypeId)(vs:List Value)(g:aa):Prop where
 row:g.get kt=some (.cells vs e 1 true)
 new:hb.next<=kt
 ok:Ok hb g
theorem uB.lt(m:uB h n T c g):n<g.next:=m.ok.wf _ _ m.row
theorem uB.trans{a:aa}(m:uB h n T c g)(o:Ok g a):uB h n T c a:=⟨o.ext _ _ m.row,m.new,m.ok.trans o⟩
theorem uB.set(w:Wf h){a:Nat}{e:TypeId}{b:List Value}{g:aa}(m:uB h a e b g)(j:Nat)(v:Value):uB h a e (b.set j v) ((aY.set a (.cells (b.set j v) e 1 true)).app g):=by
 refine⟨?_,m.new,m.ok.set _ m.new m.lt w⟩;show(g.set a _).get a=_;rw[aa.aw,if_pos rfl]
theorem lj(z:Value)(n:Nat):bG [z] n=List.replicate n z:=by
 induction n with
 |zero=>rfl
 |succ n a=>grind[bG]
theorem Zk(f:A->Value)(L:List A)(j:Nat)(d:A):(L.map f).set j (f d)=(L.set j d).map f:=by simp
variable{v:Value}{L:List (List Value)}{a:Option Addr}
def sV:Value:= .slice (some ⟨0,0,some 0⟩) 0 0
def qA(h:aa)(e:TypeId)(d:Nat)(v:Value)(b:List (List Value)):Prop:=
 (∀r∈b,r.length=d)/\(((v = .slice none 0 0\/v=sV)/\b=[])\/ ∃k a cs f z c g,v = .slice (some ⟨k,a,none⟩) b.length c/\h.get k=some (.cells cs f z g)/\a+b.length*d<=cs.length/\∀(i:Nat)(r:List Value),b[i]?=some r->(cs.drop (a+i*d)).take d=r)
theorem qA.ok(r:qA h T n v L)(o:Ok h g):qA g T n v L:=by
 obtain⟨a,r|⟨k,b,cs,d,z,c,i,f,j,e,l⟩⟩:=r
 ·exact⟨a,.inl r⟩
 ·exact⟨a,.inr ⟨k,b,cs,d,z,c,i,f,o.ext _ _ j,e,l⟩⟩
theorem qA.len{c:Nat}(r:qA h T n (.slice a m c) L):m=L.length:=by
 obtain⟨_,⟨b|b,rfl⟩|⟨k,d,cs,e,z,c,g,b,i,f,j⟩⟩:=r
 all_goals grind[sV]
theorem qA.mU(r:qA h T n v L):∃(a:Option Addr)(c:Nat),v = .slice a L.length c:=by
 obtain⟨_,⟨b|b,rfl⟩|⟨k,d,cs,e,z,c,g,b,i,f,j⟩⟩:=r
 ·exact⟨_,_,b⟩
 ·exact⟨_,_,b⟩
 grind
theorem qA.at_{t:TypeId}{d:TypeDesc}(K:P.underlying t=some (.slice T))(D:au P T=some n)(I:P.underlying T=some d)(J:isAgg P T=true){h:aa}{v:Value}{a:List (List Value)}(r:qA h T n v a){ik:IntKind}{i:Int}(H:0<=i)(E:i<a.length):
  ∃(k o:Nat),ai P t v (.int ik i)=some (.pointer (some ⟨k,o,none⟩))/\ae P T h (.pointer (some ⟨k,o,none⟩))=some (.agg ⟨a.getD i.toNat []⟩)/\
   ∀(t':TypeId)(f:TypeDesc)(j:Nat),P.underlying t'=some f->isAgg P t'=false->j<n->ae P t' h (.pointer (some ⟨k,o+j,none⟩))=some ((a.getD i.toNat []).getD j undef):=by
 obtain⟨C,⟨_,rfl⟩|⟨b,e,cs,B,z,c,F,rfl,u,G,A⟩⟩:=r
 ·grind
 ·have l:i.toNat<a.length:=by omega
  have x:a[i.toNat]?=some (a.getD i.toNat []):=by rw[gD,gE l];rfl
  have g:=A _ _ x;have m:(i.toNat+1)*n<=a.length*n:=mul_le_mul_right _ l;rw[add_mul,one_mul]at m;obtain⟨q,w⟩:∃q,q=i.toNat*n:=⟨_,rfl⟩
  rw[<-w]at g m;refine⟨b,e+q,?_,?_,λt' f j s p y=>?_⟩
  ·grind[F0]
  ·grind[fE]
  ·rw[aN s p u (by omega),<-g,gD,gD,getElem?_take,if_pos y,getElem?_drop]
variable{d:List Value}
def bE:Value->Option Nat
 |.slice (some a) _ _=>some a.block
 |_=>none
def ie(d h:aa)(e:TypeId)(v:Value)(a:List Value):Prop:=
 (v = .slice none 0 0/\a=[])\/ ∃k b cs c,v = .slice (some ⟨k,b,none⟩) a.length c/\d.next<=k/\h.get k=some (.cells cs e 1 true)/\(cs.drop b).take a.length=a/\aV c+b=cs.length/\a.length<=aV c
theorem ie.rd{h0:aa}(o:ie h0 h T v d):Rd h T v d:=by
 rcases o with o|⟨k,a,cs,c,e,g,b,f,j,i⟩
 ·exact .inl o
 ·exact .inr ⟨k,a,cs,c,true,e,b,f⟩
theorem ie.jb{e:aa}(o:ie g h T v d)(l:∀(k:Nat) (B:bw),bE v=some k->h.get k=some B->e.get k=some B):ie g e T v d:=by
 rcases o with o|⟨k,a,cs,c,b,i,f,j,n,m⟩
 ·exact .inl o
 ·exact .inr ⟨k,a,cs,c,b,i,l k _ (by rw[b];rfl) f,j,n,m⟩
theorem ie.ok{a:aa}(r:ie g h T v c)(o:Ok h a):ie g a T v c:=r.jb λk B _ b=>o.ext _ _ b
theorem ie.lt(o:ie g h T v d)(w:Wf h){k:Nat}(a:bE v=some k):k<h.next/\g.next<=k:=by
 rcases o with⟨rfl,_⟩|⟨b,j,cs,c,f,i,e,l,n,m⟩
 ·cases a
 ·rw[f]at a;obtain rfl:b=k:=oI a;exact⟨w _ _ e,i⟩
theorem ie.nil(a h:aa)(e:TypeId):ie a h e (.slice none 0 0) []:= .inl ⟨rfl,rfl⟩
theorem ie.mU(o:ie g h T v d):∃(a:Option Addr)(c:Nat),v = .slice a d.length c:=by
 rcases o with⟨rfl,rfl⟩|⟨k,e,cs,c,b,i,f,j,m,l⟩
 ·exact⟨_,_,rfl⟩
 ·exact⟨_,_,b⟩
theorem ie.snoc{t:TypeId}{i:TypeInfo}(J:P.underlying t=some (.slice T))(M:dG P T=some i)(q:i.size=1){m g:aa}(E:Wf m)(a:Ok m g){v:Value}{d:List Value}(o:ie m g T v d){x:Value}(G:bc x=true){s:Nat}(D:g.get s=some (.cells [x] T 1 true))(F:(d.length+1)*i.bytes<=70368744177664)(w:d.length+1<=1099511627776):
  ∃(b:Option Addr)(n c:Nat)(u:aY),aE P t t v (.slice (some ⟨s,0,none⟩) 1 1) g=some (.slice b n c,u)/\n=d.length+1/\ie m (u.app g) T (.slice b n c) (d++[x])/\Ok m (u.app g)/\
   (∀j B,g.get j=some B->bE v≠some j->(u.app g).get j=some B)/\
   (∀j,bE (.slice b n c)=some j->g.next<=j\/bE v=some j)/\g.next<=(u.app g).next:=by
 have N:bZ P t=true:=by unfold bZ;rw[J]
 have y:cI g i.size (.slice (some ⟨s,0,none⟩) 1 1)=some ([x],1):=by
  show(match g.get s with|some (.cells cs ..)=>if((cs.drop 0).take (1*i.size)).length=1*i.size then some ((cs.drop 0).take (1*i.size),1)else none|_=>none)=_;rw[D,q];rfl
 unfold aE;rw[J];dsimp only;rw[M];dsimp only;rw[if_pos N,y];dsimp only;rw[if_pos (by simp[G,q])];rcases o with⟨rfl,rfl⟩|⟨k,f,cs,c,rfl,H,z,r,R,Q⟩
 ·show ∃b n c u,(if 1=0 then some (Value.slice none 0 0,aY.no)else if 1*i.bytes<=70368744177664/\1<=1099511627776 then some (Value.slice (some ⟨g.next,0,none⟩) 1 (ca+1),aY.push (.cells [x] T i.size true))else none)=_/\_;rw[if_neg (by omega),if_pos (by simpa using And.intro F w)];refine⟨_,_,_,_,rfl,rfl,.inr ⟨g.next,0,[x],ca+1,rfl,a.nx,?_,rfl,by rw[bS];rfl,by rw[bS];exact Nat.le_refl _⟩,a.push _,λj B e _=>?_,λj T=> .inl ?_,le_succ _⟩
  ·show(g.push (.cells [x] T i.size true)).get g.next=_;rw[aa.aM,if_pos rfl,q]
  ·show(g.push _).get j=_;rw[aa.aM,if_neg (λT=>by have:=a.wf _ _ e;omega)];exact e
  ·have:g.next=j:=oI T;omega
 ·dsimp only;rw[if_neg (by omega),q,mul_one];have I:=a.wf _ _ z;by_cases h:d.length+1<=aV c
  ·rw[if_pos h];unfold storeAt;rw[z];dsimp only;rw[if_pos ⟨by simp;omega,by simp[G]⟩];refine⟨_,_,_,_,rfl,rfl,.inr ⟨k,f,cs.take (f+d.length)++[x]++cs.drop (f+d.length+1),c,?_,H,?_,?_,?_,?_⟩,?_,λj B e p=>?_,λj T=> .inr T,Nat.le_refl _⟩
   ·simp
   ·show(g.set k _).get k=_;rw[aa.aw,if_pos rfl];rfl
   ·have l:(cs.take (f+d.length)).length=f+d.length:=by rw[length_take];omega
    rw[append_assoc,List.drop_append_of_le_length (by rw[l];omega),drop_take,show f+d.length-f=d.length by omega,r,length_append,length_cons,List.length_nil,List.take_append,take_of_length_le (by omega)];congr 1;rw[show d.length+(0+1)-d.length=1 by omega];rfl
   ·simp;omega
   ·simp;omega
   ·exact a.set _ H I E
   ·show(g.set k _).get j=_;rw[aa.aw,if_neg (λT=>p (by rw[T];rfl))];exact e
  ·rw[if_neg h];have O:aV c=d.length:=by omega
   have l:((cs.drop f).take d.length).length=d.length:=by rw[r]
   unfold fI;rw[if_pos ⟨F,w⟩,z];dsimp only;rw[mul_one,if_pos ⟨rfl,rfl,l⟩];have A:∀B:bw,ie m ((g.push (.cells (d++[x]) T 1 true))) T (.slice (some ⟨g.next,0,none⟩) (d.length+1) (ca+(d.length+1))) (d++[x]):=λ_=>
    .inr ⟨g.next,0,d++[x],ca+(d.length+1),by rw[length_append];rfl,a.nx,by rw[aa.aM,if_pos rfl],by rw[drop_zero,take_length],by rw[bS,length_append];rfl,by rw[bS,length_append];exact Nat.le_refl _⟩
   by_cases K:c<ca
   ·rw[if_pos K,r];refine⟨_,_,_,_,rfl,rfl,A (.map []),a.push _,λj B e _=>?_,λj T=> .inl ?_,le_succ _⟩
    ·show(g.push _).get j=_;rw[aa.aM,if_neg (λT=>by have:=a.wf _ _ e;omega)];exact e
    ·have:g.next=j:=oI T;omega
   ·rw[if_neg K,if_pos ⟨rfl,by omega⟩,r];refine⟨_,_,_,_,rfl,rfl,.inr ⟨g.next,0,d++[x],ca+(d.length+1),by rw[length_append];rfl,a.nx,?_,by rw[drop_zero,take_length],by rw[bS,length_append];rfl,by rw[bS,length_append];exact Nat.le_refl _⟩,?_,λj B e p=>?_,λj T=> .inl ?_,le_succ _⟩
    ·show((g.del k).push _).get g.next=_;rw[aa.aM,if_pos (show g.next=(g.del k).next from rfl)]
    ·refine⟨?_,λj C e=>?_,Nat.le_trans a.nx (le_succ _)⟩
     ·refine aa.lZ (λj C e=>?_) _;rw[aa.dt]at e;split at e
      ·cases e
      ·exact a.wf _ _ e
     ·have l:=a.ext _ _ e;have L:=a.wf _ _ l;show((g.del k).push _).get j=_;rw[aa.aM,if_neg (λT=>by have:j=g.next:=T;omega),aa.dt,if_neg (λT=>by have:=E _ _ e;omega)];exact l
    ·have L:=a.wf _ _ e;show((g.del k).push _).get j=_;rw[aa.aM,if_neg (λT=>by have:j=g.next:=T;omega),aa.dt,if_neg (λT=>p (by rw[T];rfl))];exact e
    ·have:g.next=j:=oI T;omega
theorem ie.upto{t:TypeId}(s:P.underlying t=some (.slice T))(i:au P T=some 1){g h:aa}{v:Value}{b:List Value}(r:ie g h T v b){z:Nat}(e:z<=b.length)(p:0<b.length):
  ∃a n c,bm P t v none (some (.int .i64 (z:Int))) none h=some (.slice a n c)/\ie g h T (.slice a n c) (b.take z)/\bE (.slice a n c)=bE v:=by
 rcases r with⟨rfl,rfl⟩|⟨k,d,cs,c,rfl,j,f,l,q,u⟩
 ·simp at p
 ·refine⟨some ⟨k,d+0*1,none⟩,z,c,?_,.inr ⟨k,d,cs,c,?_,j,f,?_,q,?_⟩,rfl⟩
  ·unfold bm;dsimp only;rw[s];dsimp only[dq];rw[i,f];dsimp only;rw[if_pos (by simp),if_pos (by omega)];have m:((z:Int)-((0:Nat):Int)).toNat=z:=by omega
   have o:((0:Nat):Int).toNat=0:=rfl;rw[m,o];rfl
  ·rw[length_take,min_eq_left e];rfl
  ·rw[length_take,min_eq_left e,<-l,take_take,min_eq_left e]
  ·rw[length_take];omega
variable{k:Nat}
theorem fj{sz:Nat}:∀{l:List (List Value)},(∀r∈l,r.length=sz)->l.flatten.length=l.length*sz
 |[],_=>by simp
 |r::l,h=>by
  rw[flatten_cons,length_append,fj λx a=>h x (mem_cons_of_mem _ a),h r (mem_cons_self ..),length_cons,add_mul,one_mul,add_comm]
theorem IF{a:Nat}:∀{l:List (List Value)},(∀r∈l,r.length=a)->∀{i:Nat}{r:List Value},l[i]?=some r->(l.flatten.drop (i*a)).take a=r
 |[],_,i,r,h=>by grind
 |x::l,b,0,r,h=>by grind
 |x::l,b,i+1,r,h=>by
  have c:=b x (mem_cons_self ..);rw[flatten_cons,add_mul,one_mul,List.drop_append,drop_eq_nil_of_le (by omega),nil_append,c,show i*a+a-a=i*a by omega];exact IF (λy d=>b y (mem_cons_of_mem _ d)) (by grind)
theorem Ee{a:Nat}:∀{l:List (List Value)},(∀r∈l,r.length=a)->∀{i j:Nat}{r:List Value}{v:Value},l[i]?=some r->j<a->(l.set i (r.set j v)).flatten=l.flatten.set (i*a+j) v
 |[],_,i,j,r,v,h,_=>by rfl
 |x::l,b,0,j,r,v,h,c=>by grind
 |x::l,b,i+1,j,r,v,h,c=>by
  have d:=b x (mem_cons_self ..);rw[List.set_cons_succ,flatten_cons,flatten_cons,Ee (λy e=>b y (mem_cons_of_mem _ e)) (by grind) c,set_append,if_neg (by grind),add_mul,one_mul,d,show i*a+a+j-a=i*a+j by omega]
theorem EL{a:Nat}:∀{l:List (List Value)}{cs:List Value}{off:Nat},(∀r∈l,r.length=a)->off+l.length*a<=cs.length->(∀(i:Nat)(r:List Value),l[i]?=some r->(cs.drop (off+i*a)).take a=r)->(cs.drop off).take (l.length*a)=l.flatten
 |[],_,_,_,_,_=>by simp
 | x::l,cs,off,d,c,h=>by
  rw[length_cons,add_mul,one_mul]at c;have b:=h 0 x rfl;rw[zero_mul,add_zero]at b;have e:=EL (l:=l) (cs:=cs) (off:=off+a) (λr g=>d r (mem_cons_of_mem _ g)) (by omega) (λi r f=>by
   have:=h (i+1) r (by simpa using f);rw[add_mul,one_mul]at this;rw[show off+a+i*a=off+(i*a+a) by omega];exact this)
  rw[flatten_cons,<-e,length_cons,add_mul,one_mul,add_comm (l.length*a) a,List.take_add,b,drop_drop]
def cT(f h:aa)(e:TypeId)(d:Nat)(v:Value)(a:List (List Value)):Prop:=
 (∀r∈a,r.length=d)/\((v = .slice none 0 0/\a=[])\/ ∃k b cs c,v = .slice (some ⟨k,b,none⟩) a.length c/\f.next<=k/\h.get k=some (.cells cs e d true)/\(cs.drop b).take (a.length*d)=a.flatten/\aV c*d+b=cs.length/\a.length<=aV c)
theorem cT.rd{h0:aa}(o:cT h0 h T n v L):qA h T n v L:=by
 obtain⟨a,⟨b,f⟩|⟨k,e,cs,c,b,f,j,s,t,m⟩⟩:=o
 ·exact⟨a,.inl ⟨.inl b,f⟩⟩
 ·have q:=mul_le_mul_right n m;refine⟨a,.inr ⟨k,e,cs,T,n,c,true,b,j,by omega,λi r g=>?_⟩⟩;have p:=IF a g;have d:i<L.length:=(List.getElem?_eq_some_iff.1 g).1;have l:(i+1)*n<=L.length*n:=mul_le_mul_right _ d;rw[add_mul,one_mul]at l
  grind[drop_take,drop_drop]
theorem cT.jb{e:aa}(o:cT g h T n v L)(l:∀(k:Nat) (B:bw),bE v=some k->h.get k=some B->e.get k=some B):cT g e T n v L:=by
 obtain⟨a,o|⟨k,b,cs,c,d,i,f,j,p,m⟩⟩:=o
 ·exact⟨a,.inl o⟩
 ·exact⟨a,.inr ⟨k,b,cs,c,d,i,l k _ (by rw[d];rfl) f,j,p,m⟩⟩
theorem cT.ok{a:aa}(r:cT g h T n v L)(o:Ok h a):cT g a T n v L:=r.jb λk B _ b=>o.ext _ _ b
theorem cT.base{a:aa}(r:cT a h T n v L)(o:Ok g a):cT g h T n v L:=by
 obtain⟨b,r|⟨k,d,cs,c,a,f,e,i,l,j⟩⟩:=r
 ·exact⟨b,.inl r⟩
 ·exact⟨b,.inr ⟨k,d,cs,c,a,Nat.le_trans o.nx f,e,i,l,j⟩⟩
theorem cT.lt(o:cT g h T n v L)(w:Wf h){k:Nat}(a:bE v=some k):k<h.next/\g.next<=k:=by
 obtain⟨_,⟨rfl,_⟩|⟨b,i,cs,c,e,f,d,j,m,l⟩⟩:=o
 ·cases a
 ·rw[e]at a;obtain rfl:b=k:=oI a;exact⟨w _ _ d,f⟩
theorem cT.nil(b h:aa)(e:TypeId)(a:Nat):cT b h e a (.slice none 0 0) []:=⟨λr c=>(by grind),.inl ⟨rfl,rfl⟩⟩
theorem cT.mU(o:cT g h T n v L):∃(a:Option Addr)(c:Nat),v = .slice a L.length c:=o.rd.mU
theorem cT.blk(o:cT g h T n v L)(e:0<L.length):∃(k a c:Nat),v = .slice (some ⟨k,a,none⟩) L.length c/\g.next<=k:=by
 obtain⟨_,⟨_,rfl⟩|⟨k,a,cs,c,b,d,_⟩⟩:=o
 all_goals grind
theorem cT.made{h0:aa}{rs:List (List Value)}(e:h.get k=some (.cells rs.flatten T n true))(b:∀r∈rs,r.length=n)(a:h0.next<=k)(f:rs.length<ca):cT h0 h T n (.slice (some ⟨k,0,none⟩) rs.length rs.length) rs:=by
 have c:aV rs.length=rs.length:=by unfold aV;rw[if_neg (by omega)]
 have d:=fj b;exact⟨b,.inr ⟨k,0,rs.flatten,rs.length,rfl,a,e,by rw[drop_zero,take_of_length_le (by omega)],by rw[c,d];rfl,by rw[c];exact Nat.le_refl _⟩⟩
theorem WU{t t':TypeId}{x:Value}{b:Option Addr}{c:Nat}{u:aY}(d:∀a n c,v = .slice a n c->aV c=n)(e:aE P t t' v x h=some (.slice b n c,u)):aV c=n:=by
 unfold aE at e;split at e<;>try cases e
 split at e<;>try cases e
 split at e<;>try cases e
 split at e<;>try cases e
 split at e<;>try cases e
 split at e
 ·split at e
  ·injection e with e;injection e with e _;exact d _ _ _ e
  ·split at e<;>cases e
   exact bS _
 ·have f:=d _ _ _ rfl;split at e
  ·injection e with e;injection e with e _;exact d _ _ _ e
  ·split at e
   ·omega
   ·unfold fI at e;split at e<;>try cases e
    split at e<;>try cases e
    split at e<;>try cases e
    split at e
    ·cases e;exact bS _
    ·split at e<;>cases e
     exact bS _
 ·cases e
theorem cT.add{t t':TypeId}{i:TypeInfo}(hU:P.underlying t=some (.slice T))(W:dG P T=some i)(X:i.size=n)(Y:bZ P t'=true){w g:aa}(K:Wf w)(a:Ok w g){v:Value}{d:List (List Value)}(o:cT w g T n v d){x:Value}{ns:List (List Value)}(A:cI g n x=some (ns.flatten,ns.length))(z:∀r∈ns,r.length=n)(M:ns.flatten.all bc=true)(D:(d.length+ns.length)*i.bytes<=70368744177664)(s:d.length+ns.length<=1099511627776)(L:ns.length<=1\/ ∀a E c,v = .slice a E c->aV c=E):
  ∃(b:Option Addr)(E c:Nat)(u:aY),aE P t t' v x g=some (.slice b E c,u)/\E=d.length+ns.length/\cT w (u.app g) T n (.slice b E c) (d++ns)/\Ok w (u.app g)/\
   (∀j B,g.get j=some B->bE v≠some j->(u.app g).get j=some B)/\
   (∀j,bE (.slice b E c)=some j->g.next<=j\/bE v=some j)/\g.next<=(u.app g).next:=by
 obtain⟨S,o⟩:=o;have f:∀r∈d++ns,r.length=n:=λr h=>(mem_append.1 h).elim (S r) (z r);have f1:=fj S;have Q:=fj z;unfold aE;rw[hU];dsimp only;rw[W];dsimp only;rw[X,if_pos Y,A];dsimp only;rw[if_pos ⟨M,Q⟩];have N:∀B:bw,∀j I,g.get j=some I->(g.push B).get j=some I:=λB j I e=>by
  rw[aa.aM,if_neg (λT=>by have:=a.wf _ _ e;omega)];omega
 rcases o with⟨rfl,rfl⟩|⟨k,m,cs,c,rfl,F,y,H,h5,h6⟩
 ·by_cases p:ns.length=0
  ·rw[if_pos p];obtain rfl:=eq_nil_of_length_eq_zero p;exact⟨_,_,_,_,rfl,rfl,⟨f,.inl ⟨rfl,rfl⟩⟩,a,λj B e _=>e,λj T=> .inr T,Nat.le_refl _⟩
  ·rw[List.length_nil,zero_add]at D s;rw[if_neg p,if_pos ⟨D,s⟩];refine⟨_,_,_,_,rfl,(zero_add _).symm,⟨f,.inr ⟨g.next,0,ns.flatten,ca+ns.length,rfl,a.nx,?_,?_,by rw[bS,Q];rfl,by rw[bS];exact Nat.le_refl _⟩⟩,a.push _,λj B e _=>N _ j B e,λj T=> .inl (Nat.le_of_eq (oI T)),le_succ _⟩
   ·show(g.push _).get g.next=_;rw[aa.aM,if_pos rfl]
   grind
 ·dsimp only;by_cases p:ns.length=0
  ·rw[if_pos p];obtain rfl:=eq_nil_of_length_eq_zero p;exact⟨_,_,_,_,rfl,rfl,⟨f,.inr ⟨k,m,cs,c,by grind,F,y,by grind,h5,by grind⟩⟩,a,λj B e _=>e,λj T=> .inr T,Nat.le_refl _⟩
  have O:=a.wf _ _ y;have m1:(d.length+ns.length)*n=d.length*n+ns.length*n:=add_mul ..;rw[if_neg p];by_cases l:d.length+ns.length<=aV c
  ·rw[if_pos l];have m2:(d.length+ns.length)*n<=aV c*n:=mul_le_mul_right _ l;unfold storeAt;rw[y];dsimp only;rw[if_pos ⟨by omega,M⟩];refine⟨_,_,_,_,rfl,rfl,⟨f,.inr ⟨k,m,cs.take (m+d.length*n)++ns.flatten++cs.drop (m+d.length*n+ns.flatten.length),c,?_,F,?_,?_,?_,?_⟩⟩,?_,λj B e q=>?_,λj T=> .inr T,Nat.le_refl _⟩
   ·grind
   ·show(g.set k _).get k=_;rw[aa.aw,if_pos rfl]
   ·grind
   ·grind
   ·grind
   ·exact a.set _ F O K
   ·show(g.set k _).get j=_;rw[aa.aw,if_neg (λT=>q (by rw[T];rfl))];omega
  ·rw[if_neg l];have G:((cs.drop m).take (d.length*n)).length=d.length*n:=by rw[H,f1]
   unfold fI;rw[if_pos ⟨D,s⟩,y];dsimp only;rw[if_pos ⟨rfl,rfl,G⟩];have R:d.flatten++ns.flatten=(d++ns).flatten:=flatten_append.symm;have J:=fj f;rw[length_append]at J;by_cases U:c<ca
   ·rw[if_pos U,H,R];refine⟨_,_,_,_,rfl,rfl,⟨f,.inr ⟨g.next,0,(d++ns).flatten,ca+(d.length+ns.length),by rw[length_append],a.nx,?_,?_,by rw[bS,J];rfl,by rw[bS,length_append];exact Nat.le_refl _⟩⟩,a.push _,λj B e _=>N _ j B e,λj T=> .inl (Nat.le_of_eq (oI T)),le_succ _⟩
    ·show(g.push _).get g.next=_;rw[aa.aM,if_pos rfl]
    grind
   ·rw[if_neg U];have Z:aV c=d.length:=by
     rcases L with h|h
     ·omega
     ·exact h _ _ _ rfl
    rw[if_pos ⟨rfl,by grind⟩,H,R];refine⟨_,_,_,_,rfl,rfl,⟨f,.inr ⟨g.next,0,(d++ns).flatten,ca+(d.length+ns.length),by grind,a.nx,?_,?_,by rw[bS,J];rfl,by simp[bS]⟩⟩,?_,λj B e q=>?_,λj T=> .inl (Nat.le_of_eq (oI T)),le_succ _⟩
    ·show((g.del k).push _).get g.next=_
     simp_all[aa.aM]
    ·grind
    ·refine⟨?_,λj C e=>?_,Nat.le_trans a.nx (le_succ _)⟩
     ·refine aa.lZ (λj C e=>?_) _;rw[aa.dt]at e;split at e
      ·grind
      ·exact a.wf _ _ e
     ·have G:=a.ext _ _ e;have V:=a.wf _ _ G;show((g.del k).push _).get j=_;rw[aa.aM,if_neg (λT=>by have:j=g.next:=T;omega),aa.dt,if_neg (λT=>by have:=K _ _ e;omega)];omega
    ·have V:=a.wf _ _ e;show((g.del k).push _).get j=_;rw[aa.aM,if_neg (λT=>by have:j=g.next:=T;omega),aa.dt,if_neg (λT=>q (by rw[T];rfl))];omega
theorem cT.put{e t':TypeId}{sz:Nat}(z:au P t'=some 1){f g:aa}(w:Wf f)(a:Ok f g){k b n c:Nat}{h:List (List Value)}(o:cT f g e sz (.slice (some ⟨k,b,none⟩) n c) h){i j:Nat}{r:List Value}(l:h[i]?=some r)(G:j<sz){v':Value}(y:bc v'=true)(H:v'.cells = #[v']):
  ∃u:aY,aj P t' (.pointer (some ⟨k,b+i*sz+j,none⟩)) v' g=some (undef,u)/\cT f (u.app g) e sz (.slice (some ⟨k,b,none⟩) n c) (h.set i (r.set j v'))/\Ok f (u.app g)/\(∀j B,g.get j=some B->k≠j->(u.app g).get j=some B)/\(u.app g).next=g.next:=by
 obtain⟨v,⟨d,_⟩|⟨M,D,cs,N,d,s,p,A,Q,F⟩⟩:=o
 ·grind
 ·injection d with d hn t
  injection d with d
  injection d with d C _
  subst d;subst C;subst t;have m:i<h.length:=(List.getElem?_eq_some_iff.1 l).1;have E:(i+1)*sz<=h.length*sz:=mul_le_mul_right _ m;have L:=mul_le_mul_right sz F;have J:=v r (List.mem_of_getElem? l);rw[add_mul,one_mul]at E;refine⟨_,bC z p (by omega) y H,⟨λO K=>?_,.inr ⟨k,b,cs.set (b+i*sz+j) v',c,?_,s,?_,?_,?_,?_⟩⟩,a.set _ s (a.wf _ _ p) w,λx B I q=>?_,rfl⟩
  ·grind
  ·grind
  ·show(g.set k _).get k=_;rw[aa.aw,if_pos rfl]
  ·rw[length_set,Ee v l G,<-A,List.drop_set,if_neg (by omega),List.take_set,show b+i*sz+j-b=i*sz+j by omega]
  ·grind
  ·grind
  ·show(g.set k _).get x=_;rw[aa.aw,if_neg (λe=>q e.symm)];omega
theorem cT.at_{t:TypeId}(F:P.underlying t=some (.slice T))(v:au P T=some n){A g:aa}{k a u c:Nat}{e:List (List Value)}(o:cT A g T n (.slice (some ⟨k,a,none⟩) u c) e){i:Nat}{r:List Value}(m:e[i]?=some r)(ik:IntKind):
  ai P t (.slice (some ⟨k,a,none⟩) u c) (.int ik (i:Int))=some (.pointer (some ⟨k,a+i*n,none⟩))/\(∀(t':TypeId)(h:TypeDesc)(j:Nat),P.underlying t'=some h->isAgg P t'=false->j<n->ae P t' g (.pointer (some ⟨k,a+i*n+j,none⟩))=some (r.getD j undef))/\
   (∀d,P.underlying T=some d->isAgg P T=true->ae P T g (.pointer (some ⟨k,a+i*n,none⟩))=some (.agg ⟨r⟩)):=by
 have H:=o.rd.len;have f:i<e.length:=(List.getElem?_eq_some_iff.1 m).1;have l:=F0 (P:=P) F v (k:=k) (off:=a) (n:=u) (c:=c) (ik:=ik) (i:=(i:Int)) (by omega) (by omega);rw[toNat_natCast]at l;obtain⟨O,⟨b,_⟩|⟨G,B,cs,J,z,I,L,b,w,K,x⟩⟩:=o.rd
 ·grind
 ·injection b with b _ p
  injection b with b
  injection b with b y _
  subst b;subst y;subst p;have C:(i+1)*n<=e.length*n:=mul_le_mul_right _ f;rw[add_mul,one_mul]at C;have E:=x i r m;refine⟨l,λt' h j s q D=>?_,λd N M=>?_⟩
  ·rw[aN s q w (by omega),<-E,gD,gD,getElem?_take,if_pos D,getElem?_drop]
  grind[fE]
theorem pR(z:List Value):∀n,bG z n=(List.replicate n z).flatten:=by
 intro n
 induction n with
 |zero=>simp[bG]
 |succ n a=>rw[bG,a,List.replicate_succ,flatten_cons]
variable{M:aH}{i:Nat}{p:List Int}
section
def bD(M:aH)(s:Nat):List cq:=(M.ak.getD s ⟨[],[]⟩).an
def fX(M:aH)(s:Nat):Prop:=(M.ak.getD s ⟨[],[]⟩).f≠[]
def opt(c:Int)(x:List Int):List Int:=if c=0 then x else c::x
theorem bN(x:List Int):opt 0 x=x:=if_pos rfl
theorem eW{c:Int}(h:c≠0)(x:List Int):opt c x=c::x:=if_neg h
theorem lV(c:Int)(x:List Int):opt c x=opt c []++x:=by unfold opt;split<;>rfl
inductive dx(M:aH):Nat->List Nat->Nat->List Int->List Int->Prop
 |nil (s:Nat):dx M s [] s [] []
 |cons {s i e:Nat} {a:cq} {l:List Nat} {x y:List Int} (h:(bD M s)[i]?=some a) (r:dx M a.t.toNat l e x y):dx M s (i::l) e (opt a.i x) (opt a.o y)
theorem dx.cons_inv{l:List Nat}{x:List Int}(r:dx M n (i::l) m x p):∃a c b,(bD M n)[i]?=some a/\dx M a.t.toNat l m c b/\x=opt a.i c/\p=opt a.o b:=by
 cases r with
 |cons h r=>exact⟨_,_,_,h,r,rfl,rfl⟩
theorem dx.eO{x:List Int}(r:dx M n [] m x p):n=m/\x=[]/\p=[]:=by
 cases r with
 |nil=>exact⟨rfl,rfl,rfl⟩
theorem dx.app{l l':List Nat}{x c b:List Int}(r:dx M n l m x p)(d:dx M m l' k c b):dx M n (l++l') k (x++c) (p++b):=by
 induction r with
 |nil=>exact d
 |@cons n i k a l x p h r e=>
  have:=dx.cons h (e d);rw[lV a.i x,lV a.o p,append_assoc,append_assoc,<-lV a.i,<-lV a.o];exact this
def uy(M:aH)(l:List Nat)(x y:List Int):Prop:=∃e,dx M M.start.toNat l e x y/\fX M e
def Av(M:aH):Prop:=∀l l' x y z,uy M l x y->uy M l' x z->y=z
def sP(M:aH):Prop:=∀l l' x y z,uy M l x y->uy M l' x z->l=l'
theorem dx.det{l:List Nat}{x:List Int}(r:dx M n l m x p):∀{b c a},dx M n l b c a->m=b/\x=c/\p=a:=by
 induction r with
 |nil=>exact λd=>d.eO.imp id λh=>⟨h.1.symm,h.2.symm⟩
 |cons h r f=>
  intro b c a d;obtain⟨i,k,j,g,e,rfl,rfl⟩:=d.cons_inv;obtain rfl:=oI (h.symm.trans g);obtain⟨rfl,rfl,rfl⟩:=f e;exact⟨rfl,rfl,rfl⟩
theorem sP.func{M:aH}(h:sP M):Av M:=by
 intro l l' x y z a b;obtain rfl:=h _ _ _ _ _ a b;obtain⟨e,r,_⟩:=a;obtain⟨d,c,_⟩:=b;exact(r.det c).2.2
structure Mv where
 i:Int
 l:Int
 r:Int
inductive DQ(A B:aH):Nat×Nat->Mv->Nat×Nat->Prop
 |left {p q:Nat} {a:cq} (h:a∈bD A p) (h0:a.i=0):DQ A B (p,q) ⟨0,a.o,0⟩ (a.t.toNat,q)
 |right {p q:Nat} {b:cq} (h:b∈bD B q) (h0:b.i=0):DQ A B (p,q) ⟨0,0,b.o⟩ (p,b.t.toNat)
 |both {p q:Nat} {a b:cq} (h:a∈bD A p) (h':b∈bD B q) (h0:a.i≠0) (e:a.i=b.i):DQ A B (p,q) ⟨a.i,a.o,b.o⟩ (a.t.toNat,b.t.toNat)
inductive PR(A B:aH):Nat×Nat->List Mv->Nat×Nat->Prop
 |nil (s:Nat×Nat):PR A B s [] s
 |cons {s k e:Nat×Nat} {m:Mv} {ms:List Mv} (h:DQ A B s m k) (r:PR A B k ms e):PR A B s (m::ms) e
def wI(a:List Mv):List Int:=a.foldr (λm x=>opt m.i x) []
def wL(a:List Mv):List Int:=a.foldr (λm x=>opt m.l x) []
def wR(a:List Mv):List Int:=a.foldr (λm x=>opt m.r x) []
theorem Hk(m:Mv)(a:List Mv):wI (m::a)=opt m.i (wI a):=rfl
theorem Hl(m:Mv)(a:List Mv):wL (m::a)=opt m.l (wL a):=rfl
theorem Hm(m:Mv)(a:List Mv):wR (m::a)=opt m.r (wR a):=rfl
theorem vw(f:Mv->Int):∀(a b:List Mv),(a++b).foldr (λm x=>opt (f m) x) []=a.foldr (λm x=>opt (f m) x) []++b.foldr (λm x=>opt (f m) x) []
 |[],_=>rfl
 |m::a,b=>by
  rw[cons_append,List.foldr_cons,List.foldr_cons,vw f a b,lV,lV (f m) (List.foldr _ _ a),append_assoc]
theorem Nk(b a:List Mv):wI (b++a)=wI b++wI a:=vw Mv.i b a
theorem CI(b a:List Mv):wL (b++a)=wL b++wL a:=vw Mv.l b a
theorem CJ(b a:List Mv):wR (b++a)=wR b++wR a:=vw Mv.r b a
section
variable {A B:aH}
theorem PR.app{s m e:Nat×Nat}{b a:List Mv}(r:PR A B s b m)(c:PR A B m a e):PR A B s (b++a) e:=by
 induction r with
 |nil=>exact c
 |cons h _ d=>exact .cons h (d c)
theorem PR.snoc{s k e:Nat×Nat}{a:List Mv}{m:Mv}(r:PR A B s a k)(h:DQ A B k m e):PR A B s (a++[m]) e:=r.app (.cons h (.nil _))
theorem PR.split{s e:Nat×Nat}:∀{b a:List Mv},PR A B s (b++a) e->∃k,PR A B s b k/\PR A B k a e
 |[],a,r=>⟨s,.nil _,r⟩
 | m::b,a,r=>by
  cases r with
  |cons h r=>
   obtain⟨k,c,d⟩:=r.split;exact⟨k,.cons h c,d⟩
theorem DQ.fst{s k:Nat×Nat}{m:Mv}(h:DQ A B s m k){e:Nat}{l:List Nat}{x y:List Int}(r:dx A k.1 l e x y):∃l',dx A s.1 l' e (opt m.i x) (opt m.l y):=by
 cases h with
 |left h b=>
  obtain⟨i,a⟩:=getElem?_of_mem h;have:=dx.cons a r;rw[b]at this;exact⟨_,this⟩
 |right h b=>exact⟨l,by rw[bN,bN];exact r⟩
 |both h c b e=>
  obtain⟨i,a⟩:=getElem?_of_mem h;exact⟨_,dx.cons a r⟩
theorem DQ.snd{s k:Nat×Nat}{m:Mv}(h:DQ A B s m k){e:Nat}{l:List Nat}{x y:List Int}(r:dx B k.2 l e x y):∃l',dx B s.2 l' e (opt m.i x) (opt m.r y):=by
 cases h with
 |left h b=>exact⟨l,by rw[bN,bN];exact r⟩
 |right h b=>
  obtain⟨i,a⟩:=getElem?_of_mem h;have:=dx.cons a r;rw[b]at this;exact⟨_,this⟩
 |both h c b e=>
  obtain⟨i,a⟩:=getElem?_of_mem c;have:=dx.cons a r;rw[<-e]at this;exact⟨_,this⟩
theorem PR.runs{s e:Nat×Nat}{a:List Mv}(r:PR A B s a e):(∃l,dx A s.1 l e.1 (wI a) (wL a))/\∃l',dx B s.2 l' e.2 (wI a) (wR a):=by
 induction r with
 |nil s=>exact⟨⟨_,.nil _⟩,⟨_,.nil _⟩⟩
 |cons h r c=>
  obtain⟨⟨l,b⟩,⟨l',d⟩⟩:=c;exact⟨h.fst b,h.snd d⟩
theorem Zd:∀(n:Nat){l l':List Nat},l.length+l'.length<=n->∀{p q e t:Nat}{x y z:List Int},dx A p l e x y->dx B q l' t x z->∃c,PR A B (p,q) c (e,t)/\wI c=x/\wL c=y/\wR c=z:=by
 intro n
 induction n with
 |zero=>
  intro l l' G p q e t x y z r u;obtain rfl:l=[]:=eq_nil_of_length_eq_zero (by omega);obtain rfl:l'=[]:=eq_nil_of_length_eq_zero (by omega);obtain⟨rfl,rfl,rfl⟩:=r.eO;obtain⟨rfl,_,rfl⟩:=u.eO;exact⟨[],.nil _,rfl,rfl,rfl⟩
 | succ n M=>
  intro l l' G p q e t x y z r u;have N:∀{i:Nat}{g:List Nat}{a:cq}{j h:List Int},l=i::g->(bD A p)[i]?=some a->a.i=0->dx A a.t.toNat g e j h->x=opt a.i j->y=opt a.o h->∃c,PR A B (p,q) c (e,t)/\wI c=x/\wL c=y/\wR c=z:=by
   intro i g a j h L w f m d s;rw[f,bN]at d;subst d;obtain⟨c,D,o,C,E⟩:=M (l:=g) (l':=l') (by rw[L,length_cons]at G;omega) m u;exact⟨_,.cons (.left (List.mem_of_getElem? w) f) D,by rw[Hk,o,bN],by rw[Hl,C,s],by rw[Hm,E,bN]⟩
  have J:∀{i:Nat}{g:List Nat}{a:cq}{j h:List Int},l'=i::g->(bD B q)[i]?=some a->a.i=0->dx B a.t.toNat g t j h->x=opt a.i j->z=opt a.o h->∃c,PR A B (p,q) c (e,t)/\wI c=x/\wL c=y/\wR c=z:=by
   intro i g a j h L w f m d s;rw[f,bN]at d;subst d;obtain⟨c,D,o,C,E⟩:=M (l:=l) (l':=g) (by rw[L,length_cons]at G;omega) r m;exact⟨_,.cons (.right (List.mem_of_getElem? w) f) D,by rw[Hk,o,bN],by rw[Hl,C,bN],by rw[Hm,E,s]⟩
  cases l with
  | nil=>
   cases l' with
   |nil=>
    obtain⟨rfl,rfl,rfl⟩:=r.eO;obtain⟨rfl,_,rfl⟩:=u.eO;exact⟨[],.nil _,rfl,rfl,rfl⟩
   |cons k K=>
    obtain⟨_,rfl,_⟩:=r.eO;obtain⟨b,j,h,F,m,d,s⟩:=u.cons_inv;by_cases f:b.i=0
    ·exact J rfl F f m d s
    ·rw[eW f]at d;cases d
  | cons i g=>
   obtain⟨a,j,h,w,m,d,s⟩:=r.cons_inv;by_cases f:a.i=0
   ·exact N rfl w f m d s
   ·cases l' with
    |nil=>
     obtain⟨_,O,_⟩:=u.eO;rw[eW f,O]at d;cases d
    | cons k K=>
     obtain⟨b,S,R,F,P,H,I⟩:=u.cons_inv;by_cases o:b.i=0
     ·exact J rfl F o P H I
     ·have v:=d.symm.trans H;rw[eW f,eW o]at v;injection v with Q v
      subst v;obtain⟨c,D,o,C,E⟩:=M (l:=g) (l':=K) (by simp only[length_cons]at G;omega) m P;exact⟨_,.cons (.both (List.mem_of_getElem? w) (List.mem_of_getElem? F) f Q) D,by rw[Hk,o,d],by rw[Hl,C,s],by rw[Hm,E,I]⟩
end
def lI(A B:aH)(k:Nat×Nat):Prop:=fX A k.1/\fX B k.2
def Co(A B:aH)(k:Nat×Nat):Prop:=∃a e,PR A B k a e/\lI A B e
def sI(A B:aH):Nat×Nat:=(A.start.toNat,B.start.toNat)
def Ar(A B:aH):Prop:=∀l l' x y z,uy A l x y->uy B l' x z->y=z
theorem DT{A B:aH}:Ar A B↔ ∀a e,PR A B (sI A B) a e->lI A B e->wL a=wR a:=by
 constructor
 ·intro h a e r f;obtain⟨⟨l,b⟩,⟨l',c⟩⟩:=r.runs;exact h l l' _ _ _ ⟨_,b,f.1⟩ ⟨_,c,f.2⟩
 ·rintro h l l' x y z ⟨e,r,f⟩ ⟨k,j,i⟩;obtain⟨a,b,c,d,g⟩:=Zd _ (Nat.le_refl _) r j;rw[<-d,<-g];exact h a _ b ⟨f,i⟩
def iu:List Int->List Int->Option (List Int×List Int)
 |[],z=>some ([],z)
 |a::y,[]=>some (a::y,[])
 |a::y,b::z=>if a=b then iu y z else none
theorem H8:∀(y z u v:List Int),iu (y++u) (z++v)=(iu y z).bind λd=>iu (d.1++u) (d.2++v)
 |[],z,u,v=>rfl
 |a::y,[],u,v=>rfl
 |a::y,b::z,u,v=>by
  rw[cons_append,cons_append,iu,iu];by_cases h:a=b
  ·rw[if_pos h,if_pos h,H8 y z u v]
  ·rw[if_neg h,if_neg h];rfl
theorem D5:∀{y z:List Int},iu y z=none->∀u v,y++u≠z++v
 |[],z,h,_,_=>by cases h
 |a::y,[],h,_,_=>by cases h
 |a::y,b::z,h,u,v=>by
  rw[iu]at h;intro e;injection e with c d
  rw[if_pos c]at h;exact D5 h u v d
theorem rO:∀{y z:List Int}{d:List Int×List Int},iu y z=some d->(d.1=[]\/d.2=[])/\∀u v,(y++u=z++v↔d.1++u=d.2++v)
 |[],z,d,h=>by
  obtain rfl:=oI h;exact⟨.inl rfl,λu v=>Iff.rfl⟩
 |a::y,[],d,h=>by
  obtain rfl:=oI h;exact⟨.inr rfl,λu v=>Iff.rfl⟩
 | a::y,b::z,d,h=>by
  rw[iu]at h;split at h
  ·next e=>
   obtain⟨c,f⟩:=rO h;refine⟨c,λu v=>?_⟩;rw[<-f u v,e];constructor
   ·intro h;injection h
   ·intro h;rw[cons_append,cons_append,h]
  ·cases h
theorem Xi{z:List Int}(h:iu p z=some ([],[])):p=z:=by
 have:=((rO h).2 [] []).2 rfl;simpa using this
theorem Pf{z:List Int}(h:p=z):iu p z=some ([],[]):=by
 subst h
 induction p with
 |nil=>rfl
 |cons a p b=>rw[iu,if_pos rfl,b]
theorem ZC{d f:List Int×List Int}(h:d.1=[]\/d.2=[])(k:f.1=[]\/f.2=[]){u v:List Int}(e:d.1++u=d.2++v)(c:f.1++u=f.2++v):d=f:=by
 obtain⟨a,b⟩:=d;obtain⟨j,m⟩:=f;dsimp only at*;rcases h with rfl|rfl<;>rcases k with rfl|rfl
 ·rw[nil_append]at e c;rw[List.append_cancel_right (e.symm.trans c)]
 ·rw[nil_append]at e c;have g:=congrArg List.length e;have i:=congrArg List.length c;simp only[length_append]at g i;rw[eq_nil_of_length_eq_zero (l:=b) (by omega),eq_nil_of_length_eq_zero (l:=j) (by omega)]
 ·rw[nil_append]at e c;have g:=congrArg List.length e;have i:=congrArg List.length c;simp only[length_append]at g i;rw[eq_nil_of_length_eq_zero (l:=a) (by omega),eq_nil_of_length_eq_zero (l:=m) (by omega)]
 ·rw[nil_append]at e c;rw[List.append_cancel_right (e.trans c.symm)]
def zF(d:List Int×List Int)(m:Mv):Option (List Int×List Int):=iu (d.1++opt m.l []) (d.2++opt m.r [])
theorem A8{a:List Mv}{m:Mv}{d:List Int×List Int}(h:iu (wL a) (wR a)=some d):iu (wL (a++[m])) (wR (a++[m]))=zF d m:=by
 rw[CI,CJ,H8,h];rfl
section
variable {A B:aH}
theorem Co.step{s k:Nat×Nat}{m:Mv}(h:DQ A B s m k)(c:Co A B k):Co A B s:=by
 obtain⟨a,e,r,f⟩:=c;exact⟨m::a,e,.cons h r,f⟩
theorem XG(D:Nat×Nat->Option (List Int×List Int))(C:D (sI A B)=some ([],[]))(v:∀k d m b,D k=some d->DQ A B k m b->Co A B b->∃i,zF d m=some i/\D b=some i)(t:∀k d,D k=some d->lI A B k->d=([],[])):Ar A B:=by
 rw[DT];have p:∀(n:Nat)(a:List Mv),a.length=n->∀k,PR A B (sI A B) a k->Co A B k->∃d,D k=some d/\iu (wL a) (wR a)=some d:=by
  intro n
  induction n with
  |zero=>
   intro a g k r c;obtain rfl:=eq_nil_of_length_eq_zero g
   cases r
   exact⟨_,C,rfl⟩
  | succ n x=>
   intro a g k r c;obtain⟨o,m,rfl⟩:∃o m,a=o++[m]:=⟨a.dropLast,a.getLast (λe=>by rw[e]at g;simp at g),(List.dropLast_concat_getLast _).symm⟩
   obtain⟨b,u,w⟩:=r.split;have q:DQ A B b m k:=by
    cases w with
    |cons h s=>cases s;exact h
   obtain⟨d,l,j⟩:=x o (by simp at g;omega) b u (c.step q);obtain⟨i,y,z⟩:=v _ _ _ _ l q c;exact⟨i,z,by rw[A8 j,y]⟩
 intro a e r f;obtain⟨d,l,j⟩:=p _ a rfl e r ⟨[],e,.nil _,f⟩;rw[t _ _ l f]at j;exact Xi j
theorem XJ{k e:Nat×Nat}{i c g:List Mv}{d l:List Int×List Int}(r:PR A B (sI A B) i k)(u:PR A B (sI A B) c k)(s:iu (wL i) (wR i)=some d)(j:iu (wL c) (wR c)=some l)(n:d≠l)(t:PR A B k g e)(f:lI A B e):wL (i++g)≠wR (i++g)\/wL (c++g)≠wR (c++g):=by
 refine Classical.byContradiction λh=>?_;have m:wL (i++g)=wR (i++g):=Classical.byContradiction λe=>h (.inl e);have o:wL (c++g)=wR (c++g):=Classical.byContradiction λe=>h (.inr e);rw[CI,CJ]at m o;obtain⟨a,b⟩:=rO s;obtain⟨p,q⟩:=rO j;exact n (ZC a p ((b _ _).1 m) ((q _ _).1 o))
theorem XH{a ns:List Mv}(b:iu (wL a) (wR a)=none):wL (a++ns)≠wR (a++ns):=by
 rw[CI,CJ];exact D5 b _ _
theorem XI{a:List Mv}{d:List Int×List Int}(c:iu (wL a) (wR a)=some d)(b:d≠([],[])):wL a≠wR a:=by
 intro e;rw[Pf e]at c;exact b (oI c).symm
end
end
variable{B:Type}
section
theorem dx.snoc{M:aH}{a:cq}{l:List Nat}{x:List Int}(r:dx M n l m x p)(h:(bD M m)[i]?=some a):dx M n (l++[i]) a.t.toNat (x++opt a.i []) (p++opt a.o []):=r.app (.cons h (.nil _))
inductive RX(M:aH):Nat×Nat×Nat->Int->Nat×Nat×Nat->Prop
 |WC {p q h:Nat} {a:cq} (ha:a∈bD M p) (h0:a.i=0):RX M (p,q,h) 0 (a.t.toNat,q,if h=0 then 2 else h)
 |same {p q i:Nat} {a b:cq} (ha:(bD M p)[i]?=some a) (hb:(bD M q)[i]?=some b) (e:a.i=b.i):RX M (p,q,0) a.i (a.t.toNat,b.t.toNat,0)
 |fork {p q i k:Nat} {a b:cq} (ha:(bD M p)[i]?=some a) (hb:(bD M q)[k]?=some b) (e:a.i=b.i) (n:i≠k):RX M (p,q,0) a.i (a.t.toNat,b.t.toNat,1)
 |read {p q h:Nat} {a b:cq} (ha:a∈bD M p) (hb:b∈bD M q) (e:a.i=b.i) (h0:a.i≠0) (hh:h≠0):RX M (p,q,h) a.i (a.t.toNat,b.t.toNat,1)
 |U7 {p q:Nat} {b:cq} (hb:b∈bD M q) (h0:b.i=0):RX M (p,q,1) 0 (p,b.t.toNat,1)
def Ww(l l':List Nat):Prop:=∀r a,l++r≠l'++a
theorem Ww.app{l l':List Nat}(h:Ww l l')(u v:List Nat):Ww (l++u) (l'++v):=λr a=>by
 rw[append_assoc,append_assoc];exact h _ _
theorem Ww.fork(l:List Nat){i k:Nat}(n:i≠k):Ww (l++[i]) (l++[k]):=λr a e=>by
 rw[append_assoc,append_assoc]at e;have:=List.append_cancel_left e;injection this with h
 exact n h
theorem Ww.ne{l l':List Nat}(h:Ww l l'):l≠l':=λe=>h [] [] (by rw[e])
def Rel(M:aH)(x:List Int):Nat×Nat×Nat->Prop
 |(p,q,0)=>p=q/\∃l y,dx M M.start.toNat l p x y
 |(p,q,1)=>∃l l' y z,dx M M.start.toNat l p x y/\dx M M.start.toNat l' q x z/\Ww l l'
 |(p,q,_)=>∃l l' y z i r a,dx M M.start.toNat l p x y/\dx M M.start.toNat l' q x z/\l=l'++i::r/\(bD M q)[i]?=some a/\a.i=0
section
variable {M:aH}
theorem Rel.step{x:List Int}{k k':Nat×Nat×Nat}{c:Int}(f:Rel M x k)(C:RX M k c k'):Rel M (x++opt c []) k':=by
 cases C with
 | @WC p q h a o s=>
  rw[bN,append_nil];obtain⟨i,u⟩:=getElem?_of_mem o
  match h,f with
  |0,f=>
   obtain⟨rfl,l,y,r⟩:=f;have d:=r.snoc u;rw[s,bN,append_nil]at d;exact⟨_,l,_,y,i,[],a,d,r,rfl,u,s⟩
  |1,f=>
   obtain⟨l,l',y,z,r,m,n⟩:=f;have d:=r.snoc u;rw[s,bN,append_nil]at d;have:=n.app [i] [];rw[append_nil]at this;exact⟨_,_,_,_,d,m,this⟩
  |h+2,f=>
   obtain⟨l,l',y,z,j,t,b,r,m,n,g,A⟩:=f;have d:=r.snoc u;rw[s,bN,append_nil]at d;exact⟨_,l',_,z,j,t++[i],b,d,m,by rw[n];simp,g,A⟩
 |@same p q i a b o g e=>
  obtain⟨rfl,l,y,r⟩:=f;obtain rfl:=oI (o.symm.trans g);exact⟨rfl,_,_,r.snoc o⟩
 |@fork p q i k a b o g e n=>
  obtain⟨rfl,l,y,r⟩:=f;have d:=r.snoc g;rw[<-e]at d;exact⟨_,_,_,_,r.snoc o,d,Ww.fork l n⟩
 | @read p q h a b o g e s D=>
  obtain⟨i,u⟩:=getElem?_of_mem o;obtain⟨k,v⟩:=getElem?_of_mem g
  match h,f with
  |0,f=>exact absurd rfl D
  |1,f=>
   obtain⟨l,l',y,z,r,m,n⟩:=f;have d:=m.snoc v;rw[<-e]at d;exact⟨_,_,_,_,r.snoc u,d,n.app _ _⟩
  | h+2,f=>
   obtain⟨l,l',y,z,j,t,c,r,m,n,hc,B⟩:=f;have d:=m.snoc v;rw[<-e]at d;have w:j≠k:=λE=>by
    rw[E,v]at hc;obtain rfl:=oI hc;exact s (e.trans B)
   have:=(Ww.fork l' w).app (t++[i]) [];rw[append_nil,append_assoc]at this;refine⟨_,_,_,_,r.snoc u,d,?_⟩;rw[n];simpa using this
 |@U7 p q b g s=>
  rw[bN,append_nil];obtain⟨k,v⟩:=getElem?_of_mem g;obtain⟨l,l',y,z,r,m,n⟩:=f;have d:=m.snoc v;rw[s,bN,append_nil]at d;have:=n.app [] [k];rw[append_nil]at this;exact⟨_,_,_,_,r,d,this⟩
theorem Rel.end_{x:List Int}{p q h:Nat}(a:Rel M x (p,q,h))(g:h≠0)(f:fX M p)(d:fX M q):∃l l' y z,uy M l x y/\uy M l' x z/\l≠l':=by
 match h,a with
 |0,_=>exact absurd rfl g
 |1,a=>
  obtain⟨l,l',y,z,r,b,n⟩:=a;exact⟨l,l',y,z,⟨_,r,f⟩,⟨_,b,d⟩,n.ne⟩
 |h+2,a=>
  obtain⟨l,l',y,z,j,t,c,r,b,n,hc,i⟩:=a;refine⟨l,l',y,z,⟨_,r,f⟩,⟨_,b,d⟩,λe=>?_⟩;rw[e]at n;have:=congrArg List.length n;simp at this
section
variable {P:Nat×Nat×Nat->Prop} (hc: ∀ k c k',P k->RX M k c k'->P k')
include hc
theorem DY:∀(n:Nat){l l':List Nat},l.length+l'.length<=n->∀{p q e j:Nat}{x y z:List Int},P (p,q,1)->dx M p l e x y->dx M q l' j x z->P (e,j,1):=by
 intro n
 induction n with
 |zero=>
  intro l l' u p q e j x y z o r g;obtain rfl:l=[]:=eq_nil_of_length_eq_zero (by omega);obtain rfl:l'=[]:=eq_nil_of_length_eq_zero (by omega);obtain⟨rfl,rfl,rfl⟩:=r.eO;obtain⟨rfl,_,rfl⟩:=g.eO;exact o
 | succ n D=>
  intro l l' u p q e j x y z o r g;have B:∀{i:Nat}{f:List Nat}{a:cq}{s v:List Int},l'=i::f->(bD M q)[i]?=some a->a.i=0->dx M a.t.toNat f j s v->x=opt a.i s->P (e,j,1):=by
   intro i f a s v H w d m c;rw[d,bN]at c;subst c;exact D (l:=l) (l':=f) (by rw[H,length_cons]at u;omega) (hc _ _ _ o (.U7 (List.mem_of_getElem? w) d)) r m
  cases l with
  | nil=>
   obtain⟨rfl,rfl,rfl⟩:=r.eO
   cases l' with
   |nil=>
    obtain⟨rfl,_,rfl⟩:=g.eO;exact o
   |cons k C=>
    obtain⟨b,s,v,t,m,c,J⟩:=g.cons_inv;by_cases d:b.i=0
    ·exact B rfl t d m c
    ·rw[eW d]at c;cases c
  | cons i f=>
   obtain⟨a,s,v,w,m,c,J⟩:=r.cons_inv;by_cases d:a.i=0
   ·rw[d,bN]at c;subst c;exact D (l:=f) (l':=l') (by rw[length_cons]at u;omega) (hc _ _ _ o (.WC (List.mem_of_getElem? w) d)) m g
   ·cases l' with
    |nil=>
     obtain⟨_,E,_⟩:=g.eO;rw[eW d,E]at c;cases c
    | cons k C=>
     obtain⟨b,N,L,t,F,A,K⟩:=g.cons_inv;by_cases G:b.i=0
     ·exact B rfl t G F A
     ·have h:=c.symm.trans A;rw[eW d,eW G]at h;injection h with I h
      subst h;exact D (l:=f) (l':=C) (by simp only[length_cons]at u;omega) (hc _ _ _ o (.read (List.mem_of_getElem? w) (List.mem_of_getElem? t) I d (by decide))) m F
theorem rF:∀(l:List Nat){l':List Nat}{p q e n:Nat}{x y z:List Int},P (p,q,2)->dx M p l e x y->dx M q l' n x z->(∀k t,l'=k::t->∀b,(bD M q)[k]?=some b->b.i≠0)->∃h,h≠0/\P (e,n,h)
 | [],l',p,q,e,n,x,y,z,o,r,f,m=>by
  obtain⟨rfl,rfl,rfl⟩:=r.eO
  cases l' with
  |nil=>
   obtain⟨rfl,_,rfl⟩:=f.eO;exact⟨2,by decide,o⟩
  |cons k t=>
   obtain⟨b,C,A,j,s,c,F⟩:=f.cons_inv;rw[eW (m _ _ rfl b j)]at c;cases c
 | i::l,l',p,q,e,n,x,y,z,o,r,f,m=>by
  obtain⟨a,C,A,v,s,c,F⟩:=r.cons_inv;by_cases g:a.i=0
  ·rw[g,bN]at c;subst c;exact rF l (hc _ _ _ o (.WC (List.mem_of_getElem? v) g)) s f m
  ·cases l' with
   |nil=>
    obtain⟨_,u,_⟩:=f.eO;rw[eW g,u]at c;cases c
   |cons k t=>
    obtain⟨b,I,H,j,B,w,G⟩:=f.cons_inv;have D:=m _ _ rfl b j;have d:=c.symm.trans w;rw[eW g,eW D]at d;injection d with E d
    subst d;exact⟨1,by decide,DY hc _ (Nat.le_refl _) (hc _ _ _ o (.read (List.mem_of_getElem? v) (List.mem_of_getElem? j) E g (by decide))) s B⟩
theorem JU:∀(l:List Nat){l':List Nat}{p e u:Nat}{x y z:List Int},P (p,p,0)->dx M p l e x y->dx M p l' u x z->l≠l'->∃h,h≠0/\(P (e,u,h)\/P (u,e,h))
 | [],l',p,e,u,x,y,z,q,r,B,D=>by
  cases l' with
  |nil=>exact absurd rfl D
  |cons k G=>
   obtain⟨rfl,rfl,rfl⟩:=r.eO;obtain⟨b,F,I,s,t,g,O⟩:=B.cons_inv;by_cases d:b.i=0
   ·rw[d,bN]at g;subst g;obtain⟨h,v,j⟩:=rF hc G (hc _ _ _ q (.WC (List.mem_of_getElem? s) d)) t (.nil p) (λ_ _ e=>by cases e);exact⟨h,v,.inr j⟩
   ·rw[eW d]at g;cases g
 | i::l,l',p,e,u,x,y,z,q,r,B,D=>by
  obtain⟨a,F,I,o,t,g,O⟩:=r.cons_inv
  cases l' with
  |nil=>
   obtain⟨rfl,rfl,rfl⟩:=B.eO;by_cases d:a.i=0
   ·rw[d,bN]at g;subst g;obtain⟨h,v,j⟩:=rF hc l (hc _ _ _ q (.WC (List.mem_of_getElem? o) d)) t (.nil p) (λ_ _ e=>by cases e);exact⟨h,v,.inl j⟩
   ·rw[eW d]at g;cases g
  | cons k G=>
   obtain⟨b,H,R,s,E,w,Q⟩:=B.cons_inv;have f:=g.symm.trans w;by_cases C:i=k
   ·subst C;obtain rfl:=oI (o.symm.trans s);have n:F=H:=by
     by_cases d:a.i=0
     ·rw[d,bN,bN]at f;exact f
     ·rw[eW d,eW d]at f;injection f
    subst n;exact JU l (hc _ _ _ q (.same o o rfl)) t E (λe=>D (by rw[e]))
   ·by_cases m:a.i=b.i
    ·have n:F=H:=by
      by_cases d:a.i=0
      ·rw[<-m,d,bN,bN]at f;exact f
      ·rw[<-m,eW d,eW d]at f;injection f
     subst n;exact⟨1,by decide,.inl (DY hc _ (Nat.le_refl _) (hc _ _ _ q (.fork o s m C)) t E)⟩
    ·by_cases d:a.i=0
     ·rw[d,bN]at g;subst g;obtain⟨h,v,j⟩:=rF hc l (hc _ _ _ q (.WC (List.mem_of_getElem? o) d)) t B (λk' N e c A=>by
       injection e with n e2
       subst n;obtain rfl:=oI (s.symm.trans A);exact λe=>m (d.trans e.symm))
      exact⟨h,v,.inl j⟩
     ·by_cases j:b.i=0
      ·rw[j,bN]at w;subst w;obtain⟨h,J,K⟩:=rF hc G (hc _ _ _ q (.WC (List.mem_of_getElem? s) j)) E r (λk' N e c A=>by
        injection e with n e2
        subst n;obtain rfl:=oI (o.symm.trans A);exact d)
       exact⟨h,J,.inr K⟩
      ·rw[eW d,eW j]at f;injection f with L f
       exact absurd L m
theorem V7(g:P (M.start.toNat,M.start.toNat,0))(b:∀p q h,P (p,q,h)->h≠0->fX M p->fX M q->False):sP M:=by
 rintro l l' x y z ⟨e,r,f⟩ ⟨j,i,d⟩;refine Classical.byContradiction λn=>?_;obtain⟨h,c,a|a⟩:=JU hc l g r i n
 ·exact b _ _ _ a c f d
 ·exact b _ _ _ a c d f
end
end
structure RJ(N M:aH)(D:Nat->Prop)(φ:Nat->Nat)(ψ:Nat->Nat->Nat):Prop where
 start:D N.start.toNat/\φ N.start.toNat=M.start.toNat
 arc:∀s i a,D s->(bD N s)[i]?=some a->D a.t.toNat/\∃b,(bD M (φ s))[ψ s i]?=some b/\b.i=a.i/\b.o=a.o/\b.t.toNat=φ a.t.toNat
 inj:∀s i j a b,D s->(bD N s)[i]?=some a->(bD N s)[j]?=some b->ψ s i=ψ s j->i=j
 fin:∀s,D s->fX N s->fX M (φ s)
def RN(N:aH)(ψ:Nat->Nat->Nat):Nat->List Nat->List Nat
 |_,[]=>[]
 |s,i::l=>ψ s i::RN N ψ (((bD N s).getD i q0).t.toNat) l
section
variable {N M:aH} {D:Nat->Prop} {φ:Nat->Nat} {ψ:Nat->Nat->Nat}
theorem RJ.run(h:RJ N M D φ ψ){s e:Nat}{l:List Nat}{x y:List Int}(r:dx N s l e x y):D s->D e/\dx M (φ s) (RN N ψ s l) (φ e) x y:=by
 induction r with
 |nil=>exact λd=>⟨d,.nil _⟩
 |@cons s i e a l x y f r n=>
  intro d;obtain⟨j,b,g,k,p,o⟩:=h.arc s i a d f;obtain⟨m,c⟩:=n j;have q:(bD N s).getD i q0=a:=by rw[gD,f];rfl
  refine⟨m,?_⟩;rw[<-o]at c;have:=dx.cons g c;rw[k,p]at this;rw[RN,q];exact this
theorem RJ.Gb(h:RJ N M D φ ψ):∀(l l':List Nat){s e n:Nat}{x y q k:List Int},D s->dx N s l e x y->dx N s l' n q k->RN N ψ s l=RN N ψ s l'->l=l'
 |[],[],_,_,_,_,_,_,_,_,_,_,_=>rfl
 |[],_::_,_,_,_,_,_,_,_,_,_,_,e=>by cases e
 |_::_,[],_,_,_,_,_,_,_,_,_,_,e=>by cases e
 |i::l,j::l',s,_,_,_,_,_,_,d,r,u,e=>by
  obtain⟨a,_,_,c,o,_,_⟩:=r.cons_inv;obtain⟨b,_,_,f,p,_,_⟩:=u.cons_inv;rw[RN,RN]at e;injection e with m g
  obtain rfl:=h.inj s i j a b d c f m;obtain rfl:=oI (c.symm.trans f);have t:(bD N s).getD i q0=a:=by rw[gD,c];rfl
  rw[t]at g;rw[h.Gb l l' (h.arc s i a d c).1 o p g]
theorem RJ.acc(h:RJ N M D φ ψ){l:List Nat}{x y:List Int}(a:uy N l x y):uy M (RN N ψ N.start.toNat l) x y:=by
 obtain⟨e,r,f⟩:=a;obtain⟨d,b⟩:=h.run r h.start.1;rw[h.start.2]at b;exact⟨_,b,h.fin _ d f⟩
theorem RJ.func(h:RJ N M D φ ψ)(f:Av M):Av N:=λl l' x y z a b=>f _ _ _ _ _ (h.acc a) (h.acc b)
theorem RJ.aec(h:RJ N M D φ ψ)(f:sP M):sP N:=λl l' x y z a b=>by
 have:=f _ _ _ _ _ (h.acc a) (h.acc b);obtain⟨_,r,_⟩:=a;obtain⟨_,c,_⟩:=b;exact h.Gb l l' h.start.1 r c this
end
def IG{b c:Type}(f:b->Option c):List b->Nat->Nat
 |[],_=>0
 |a::l,0=>if(f a).isSome then 0 else IG f l 0+1
 |a::l,j+1=>if(f a).isSome then IG f l j+1 else IG f l (j+1)+1
theorem vu{f:A->Option B}{a:A}(h:f a=none)(l:List A)(j:Nat):IG f (a::l) j=IG f l j+1:=by
 cases j<;>simp[IG,h]
theorem vv{f:A->Option B}{a:A}{b:B}(h:f a=some b)(l:List A):IG f (a::l) 0=0:=by simp[IG,h]
theorem oh{f:A->Option B}{a:A}{b:B}(h:f a=some b)(l:List A)(j:Nat):IG f (a::l) (j+1)=IG f l j+1:=by simp[IG,h]
theorem Ls{k m:Type}(f:k->Option m):∀(l:List k){j:Nat}{b:m},(l.filterMap f)[j]?=some b->∃a,l[IG f l j]?=some a/\f a=some b
 |[],j,b,h=>by simp at h
 | a::l,j,b,h=>by
  rw[filterMap_cons]at h
  cases d:f a with
  |none=>
   rw[d]at h;obtain⟨g,e,i⟩:=Ls f l h;exact⟨g,by rw[vu d];exact e,i⟩
  | some c=>
   rw[d]at h;dsimp only at h
   cases j with
   |zero=>
    obtain rfl:c=b:=by simpa using h
    exact⟨a,by rw[vv d];rfl,d⟩
   |succ j=>
    obtain⟨g,e,i⟩:=Ls f l (j:=j) (by simpa using h);exact⟨g,by rw[oh d];exact e,i⟩
theorem FT{i m:Type}(f:i->Option m):∀(l:List i){j k:Nat},j<(l.filterMap f).length->k<(l.filterMap f).length->IG f l j=IG f l k->j=k
 |[],j,k,h,_,_=>by simp at h
 | a::l,j,k,g,d,e=>by
  rw[filterMap_cons]at g d
  cases b:f a with
  |none=>
   rw[b]at g d;rw[vu b,vu b]at e;exact FT f l g d (by simpa using e)
  | some c=>
   rw[b]at g d
   cases j with
   |zero=>
    cases k with
    |zero=>rfl
    |succ k=>rw[vv b,oh b]at e;omega
   | succ j=>
    cases k with
    |zero=>rw[vv b,oh b]at e;omega
    |succ k=>
     rw[oh b,oh b]at e;simp only[length_cons]at g d;have:=FT f l (j:=j) (k:=k) (by omega) (by omega) (by simpa using e);omega
theorem NW{g n:Type}(f:g->Option n):∀(l:List g){i:Nat}{a:g}{b:n},l[i]?=some a->f a=some b->∃j,(l.filterMap f)[j]?=some b/\IG f l j=i
 |[],i,a,b,h,_=>by simp at h
 |x::l,0,a,b,h,d=>by
  obtain rfl:x=a:=by simpa using h
  exact⟨0,by rw[filterMap_cons,d];rfl,vv d l⟩
 |x::l,i+1,a,b,h,d=>by
  obtain⟨j,k,m⟩:=NW f l (i:=i) (by simpa using h) d
  cases e:f x with
  |none=>exact⟨j,by rw[filterMap_cons,e];exact k,by rw[vu e,m]⟩
  |some c=>exact⟨j+1,by rw[filterMap_cons,e];exact k,by rw[oh e,m]⟩
end
theorem Bu{sz:Nat}:∀{l:List (List Value)},(∀r∈l,r.length=sz)->∀k,(l.take k).flatten=l.flatten.take (k*sz)
 |[],_,k=>by simp
 |x::l,h,0=>by simp
 |x::l,h,k+1=>by
  have hx:=h x (mem_cons_self ..);rw[List.take_succ_cons,flatten_cons,flatten_cons,Bu (λr hr=>h r (mem_cons_of_mem _ hr)) k,List.take_append,take_of_length_le (show x.length<=(k+1)*sz by rw[hx,add_mul];omega),hx,add_mul,one_mul,add_sub_cancel]
theorem Bt{sz:Nat}:∀{l:List (List Value)},(∀r∈l,r.length=sz)->∀k,(l.drop k).flatten=l.flatten.drop (k*sz)
 |[],_,k=>by simp
 |x::l,h,0=>by simp
 |x::l,h,k+1=>by
  have hx:=h x (mem_cons_self ..);rw[List.drop_succ_cons,flatten_cons,Bt (λr hr=>h r (mem_cons_of_mem _ hr)) k,List.drop_append,drop_eq_nil_of_le (show x.length<=(k+1)*sz by rw[hx,add_mul];omega),nil_append,hx,add_mul,one_mul,add_sub_cancel]
theorem ui{t e:TypeId}{sz:Nat}(hU:P.underlying t=some (.slice e))(hs:au P e=some sz){g:aa}{k off n c z:Nat}{cs:List Value}(hk:g.get k=some (.cells cs e sz true))(hz:z<=n)(hn:n<=aV c):
  bm P t (.slice (some ⟨k,off,none⟩) n c) (some (.int .i64 (z:Int))) none none g=some (.slice (some ⟨k,off+z*sz,none⟩) (n-z) (c-z)):=by simp_all[bm,dq]
variable{j:Nat}
section
def UT:Code->Array Oper
 |.region _ a _=>a
 |_=> #[]
def DG(P:Program)(a:Option Addr)(h:aa)(K:Value->aa->Prop):Prop:=si (aZ P (λ_=> .pointer a) ⟨none,.nilCheck (.tmp 0),0,"",#[],none⟩) h K
theorem gj{a:Addr}{K:Value->aa->Prop}(b:K (.pointer (some a)) h):DG P (some a) h K:=b
abbrev cD:=List (Nat×bw)
def keys(L:List cD):List Nat:=L.flatten.map (·.1)
structure OL(h0 g:aa)(L:List cD):Prop where
 ok:Ok h0 g
 nd:(keys L).Nodup
 lo:∀k∈keys L,h0.next<=k
 at_:∀p∈L.flatten,g.get p.1=some p.2
def Im(g:aa)(L:List cD)(k:Nat)(B:bw):Prop:=g.get k=some B/\k∉keys L
def eS(g:aa)(L:List cD)(g':aa)(a:List cD):Prop:=∀k B,Im g L k B->Im g' a k B
theorem eS.refl(g:aa)(L:List cD):eS g L g L:=λ_ _ h=>h
theorem eS.trans{g g' d:aa}{L e c:List cD}(a:eS g L g' e)(b:eS g' e d c):eS g L d c:=λk B h=>b k B (a k B h)
theorem kQ(A B:List cD):keys (A++B)=keys A++keys B:=by unfold keys;rw[flatten_append,map_append]
theorem BI(G:cD):keys [G]=G.map (·.1):=by unfold keys;simp
theorem J4{b:Type}:∀{L:List b}{i:Nat}{G:b},L[i]?=some G->∀a,∃A B,L=A++[G]++B/\L.set i a=A++[a]++B
 |[],_,_,h,_=>by simp at h
 |x::L,0,G,h,a=>by
  obtain rfl:x=G:=by simpa using h
  exact⟨[],L,rfl,rfl⟩
 |x::L,i+1,G,h,a=>by
  obtain⟨A,B,c,d⟩:=J4 (L:=L) (i:=i) (by simpa using h) a;exact⟨x::A,B,by rw[c];rfl,by rw[List.set_cons_succ,d];rfl⟩
theorem mem_keys{L:List cD}{p:Nat×bw}(h:p∈L.flatten):p.1∈keys L:=mem_map.2 ⟨p,h,rfl⟩
section
variable {h0 g g':aa} {L:List cD}
theorem OL.lt(o:OL h0 g L){k:Nat}(a:k∈keys L):k<g.next:=by
 obtain⟨p,b,rfl⟩:=mem_map.1 a;exact o.ok.wf _ _ (o.at_ p b)
theorem OL.nil(c:Ok h0 g):OL h0 g []:=⟨c,List.nodup_nil,λk a=>by simp[keys]at a,λp b=>by simp at b⟩
theorem OL.mem{G:cD}(a:L[i]?=some G){p:Nat×bw}(b:G[j]?=some p):p∈L.flatten:=List.mem_flatten.2 ⟨G,List.mem_of_getElem? a,List.mem_of_getElem? b⟩
theorem OL.get(o:OL h0 g L)(i:Nat){k:Nat}{B:bw}(a:L[i]?=some [(k,B)]):g.get k=some B:=o.at_ (k,B) (OL.mem a (j:=0) rfl)
theorem OL.old(w:Wf h0)(o:OL h0 g L){k:Nat}{B:bw}(a:h0.get k=some B):Im g L k B:=⟨o.ok.ext _ _ a,λh=>by have:=o.lo k h;have:=w _ _ a;omega⟩
theorem OL.UX(o:OL h0 g L){i:Nat}{G d:cD}(H:L[i]?=some G)(J:Ok h0 g')(u:∀p∈d,g'.get p.1=some p.2)(z:(d.map (·.1)).Nodup)(l:∀k∈d.map (·.1),k∈G.map (·.1)\/g.next<=k)(f:∀k B,g.get k=some B->k∉G.map (·.1)->g'.get k=some B):OL h0 g' (L.set i d)/\eS g L g' (L.set i d):=by
 obtain⟨A,B,s,I⟩:=J4 H d;rw[I];have c:keys L=keys A++G.map (·.1)++keys B:=by rw[s,kQ,kQ,BI]
 have n:keys (A++[d]++B)=keys A++d.map (·.1)++keys B:=by rw[kQ,kQ,BI]
 have r:=o.nd;rw[c]at r;obtain⟨D,E,t⟩:=nodup_append.1 r;obtain⟨K,M,F⟩:=nodup_append.1 D;have w:∀k∈keys A,k<g.next:=λk a=>o.lt (by rw[c];simp[a]);have x:∀k∈keys B,k<g.next:=λk a=>o.lt (by rw[c];simp[a]);have y:∀k∈keys A,k∉G.map (·.1):=λk a h=>F k a k h rfl;have v:∀k∈keys B,k∉G.map (·.1):=λk a h=>t k (List.mem_append_right _ h) k a rfl;refine⟨⟨J,?_,λk a=>?_,λp b=>?_⟩,λk C m=>⟨f k C m.1 λh=>m.2 (by rw[c];simp[h]),λh=>?_⟩⟩
 ·rw[n];refine nodup_append.2 ⟨nodup_append.2 ⟨K,z,λk a j q e=>?_⟩,E,λk a j q e=>?_⟩
  ·subst e;rcases l k q with h|h
   ·exact y k a h
   ·have:=w k a;omega
  ·subst e;rcases mem_append.1 a with a|a
   ·exact t k (List.mem_append_left _ a) k q rfl
   ·rcases l k a with h|h
    ·exact v k q h
    ·have:=x k q;omega
 ·rw[n]at a;rcases mem_append.1 a with a|a
  ·rcases mem_append.1 a with a|a
   ·exact o.lo k (by rw[c];simp[a])
   ·rcases l k a with h|h
    ·exact o.lo k (by rw[c];simp[h])
    ·have:=o.ok.nx;omega
  ·exact o.lo k (by rw[c];simp[a])
 ·rw[flatten_append,flatten_append]at b;rcases mem_append.1 b with b|b
  ·rcases mem_append.1 b with b|b
   ·exact f _ _ (o.at_ p (by rw[s,flatten_append,flatten_append];simp[b])) (y _ (mem_keys b))
   ·exact u p (by simpa using b)
  ·exact f _ _ (o.at_ p (by rw[s,flatten_append,flatten_append];simp[b])) (v _ (mem_keys b))
 ·rw[n]at h;rcases mem_append.1 h with h|h
  ·rcases mem_append.1 h with h|h
   ·exact m.2 (by rw[c];simp[h])
   ·rcases l k h with h|h
    ·exact m.2 (by rw[c];simp[h])
    ·have:=o.ok.wf _ _ m.1;omega
  ·exact m.2 (by rw[c];simp[h])
theorem OL.set(f:Wf h0)(o:OL h0 g L)(i:Nat){k:Nat}{B:bw}(c:L[i]?=some [(k,B)])(a:bw):OL h0 (g.set k a) (L.set i [(k,a)])/\eS g L (g.set k a) (L.set i [(k,a)]):=by
 have d:k∈keys L:=mem_keys (OL.mem c (j:=0) (p:=(k,B)) rfl);refine o.UX c (o.ok.set _ (o.lo k d) (o.lt d) f) (λp l=>?_) (by simp) (λj b=> .inl (by simpa using b)) (λj C b h=>?_)
 ·obtain rfl:=mem_singleton.1 l;rw[aa.aw,if_pos rfl]
 ·rw[aa.aw,if_neg (λe=>h (by simp[e]))];exact b
theorem OL.kF(b:Wf h0)(o:OL h0 g L)(i:Nat){k:Nat}{B:bw}(c:L[i]?=some [(k,B)])(a:bw):OL h0 ((aY.set k a).app g) (L.set i [(k,a)])/\eS g L ((aY.set k a).app g) (L.set i [(k,a)]):=o.set b i c a
theorem OL.more(o:OL h0 g L){G:cD}(q:Ok h0 g')(i:∀p∈G,g'.get p.1=some p.2)(l:(G.map (·.1)).Nodup)(c:∀k∈G.map (·.1),g.next<=k)(d:∀k B,g.get k=some B->g'.get k=some B):OL h0 g' (L++[G])/\eS g L g' (L++[G]):=by
 have f:keys (L++[G])=keys L++G.map (·.1):=by rw[kQ,BI]
 refine⟨⟨q,?_,λk a=>?_,λp b=>?_⟩,λk C m=>⟨d k C m.1,λh=>?_⟩⟩
 ·rw[f];refine nodup_append.2 ⟨o.nd,l,λk a j n e=>?_⟩;subst e;have:=c k n;have:=o.lt a;omega
 ·rw[f]at a;rcases mem_append.1 a with a|a
  ·exact o.lo k a
  ·have:=c k a;have:=o.ok.nx;omega
 ·rw[flatten_append]at b;rcases mem_append.1 b with b|b
  ·exact d _ _ (o.at_ p b)
  ·exact i p (by simpa using b)
 ·rw[f]at h;rcases mem_append.1 h with h|h
  ·exact m.2 h
  ·have:=c k h;have:=o.ok.wf _ _ m.1;omega
theorem OL.push(o:OL h0 g L)(B:bw):OL h0 (g.push B) (L++[[(g.next,B)]])/\eS g L (g.push B) (L++[[(g.next,B)]]):=by
 refine o.more (o.ok.push B) (λp b=>?_) (by simp) (λk a=>by simp at a;omega) (λk C a=>?_)
 ·obtain rfl:=mem_singleton.1 b;rw[aa.aM,if_pos rfl]
 ·rw[aa.aM,if_neg (λe=>by have:=o.ok.wf _ _ a;omega)];exact a
theorem OL.none(o:OL h0 g L):OL h0 g (L++[[]])/\eS g L g (L++[[]]):=o.more o.ok (λp b=>by cases b) (by simp) (λk a=>by cases a) (λ_ _ h=>h)
theorem OL.grow(o:OL h0 g L)(e:Ok g g'):OL h0 g' L/\eS g L g' L:=⟨⟨o.ok.trans e,o.nd,o.lo,λp a=>e.ext _ _ (o.at_ p a)⟩,λk B m=>⟨e.ext _ _ m.1,m.2⟩⟩
theorem OL.new(o:OL h0 g L){k:Nat}{B:bw}(b:g.next<=k)(a:g'.get k=some B):Im g' L k B:=⟨a,λh=>by have:=o.lt h;omega⟩
theorem OL.fe(o:OL h0 g L)(B:bw):Im (g.push B) L g.next B:=o.new (Nat.le_refl _) (by rw[aa.aM,if_pos rfl])
theorem OL.left{A:List cD}(o:OL h0 g (L++A)):OL h0 g L/\eS g (L++A) g L:=by
 have a:keys (L++A)=keys L++keys A:=kQ ..;refine⟨⟨o.ok,?_,λk b=>o.lo k (by rw[a];simp[b]),λp c=>o.at_ p (by rw[flatten_append];simp[c])⟩,λk B m=>⟨m.1,λh=>m.2 (by rw[a];simp[h])⟩⟩;have:=o.nd;rw[a]at this;exact(nodup_append.1 this).1
end
def fh(e:TypeId)(sz:Nat)(v:Value)(rs:List (List Value))(G:cD):Prop:=
 (∀r∈rs,r.length=sz)/\((v = .slice none 0 0/\rs=[]/\G=[])\/ ∃k a cs c,v = .slice (some ⟨k,a,none⟩) rs.length c/\G=[(k,.cells cs e sz true)]/\(cs.drop a).take (rs.length*sz)=rs.flatten/\aV c*sz+a=cs.length/\rs.length<=aV c)
theorem fh.nil(e:TypeId)(sz:Nat):fh e sz (.slice none 0 0) [] []:=⟨λr a=>(by cases a),.inl ⟨rfl,rfl,rfl⟩⟩
theorem fh.mU{e:TypeId}{sz:Nat}{v:Value}{rs:List (List Value)}{G:cD}(r:fh e sz v rs G):∃(a:Option Addr)(c:Nat),v = .slice a rs.length c:=by
 obtain⟨_,⟨rfl,rfl,_⟩|⟨k,d,cs,c,b,_⟩⟩:=r
 ·exact⟨_,_,rfl⟩
 ·exact⟨_,_,b⟩
theorem fh.len{e:TypeId}{sz:Nat}{c:Nat}{rs:List (List Value)}{G:cD}(r:fh e sz (.slice a n c) rs G):n=rs.length:=by
 obtain⟨d,b,h⟩:=r.mU;injection h
theorem fh.blk{e:TypeId}{sz:Nat}{v:Value}{rs:List (List Value)}{G:cD}(r:fh e sz v rs G):G.map (·.1)=(bE v).toList:=by
 obtain⟨_,⟨rfl,rfl,rfl⟩|⟨k,a,cs,c,rfl,rfl,_⟩⟩:=r
 ·rfl
 ·rfl
theorem fh.made{e:TypeId}{sz:Nat}{rs:List (List Value)}(a:∀r∈rs,r.length=sz)(d:rs.length<ca):fh e sz (.slice (some ⟨k,0,none⟩) rs.length rs.length) rs [(k,.cells rs.flatten e sz true)]:=by
 have b:aV rs.length=rs.length:=by unfold aV;rw[if_neg (by omega)]
 have c:=fj a;exact⟨a,.inr ⟨k,0,rs.flatten,rs.length,rfl,rfl,by rw[drop_zero,take_of_length_le (by omega)],by rw[b,c];rfl,by rw[b];exact Nat.le_refl _⟩⟩
section
variable {h0 g:aa} {L:List cD} {e:TypeId} {sz:Nat} {v:Value} {rs:List (List Value)} {G:cD}
theorem fh.own(r:fh e sz v rs G)(o:OL h0 g L){i:Nat}(l:L[i]?=some G):cT h0 g e sz v rs:=by
 obtain⟨f,⟨rfl,rfl,rfl⟩|⟨k,b,cs,c,rfl,rfl,d,h,m⟩⟩:=r
 ·exact cT.nil ..
 ·have a:=OL.mem l (j:=0) (p:=(k,.cells cs e sz true)) rfl;exact⟨f,.inr ⟨k,b,cs,c,rfl,o.lo k (mem_keys a),o.at_ _ a,d,h,m⟩⟩
theorem fh.rd(r:fh e sz v rs G)(o:OL h0 g L){i:Nat}(a:L[i]?=some G):qA g e sz v rs:=(r.own o a).rd
theorem fh.of(o:cT h0 g e sz v rs):∃G,fh e sz v rs G/\(∀p∈G,g.get p.1=some p.2):=by
 obtain⟨f,⟨rfl,rfl⟩|⟨k,b,cs,c,rfl,l,d,h,j,i⟩⟩:=o
 ·exact⟨[],fh.nil ..,λp a=>by cases a⟩
 ·exact⟨_,⟨f,.inr ⟨k,b,cs,c,rfl,rfl,h,j,i⟩⟩,λp a=>by obtain rfl:=mem_singleton.1 a;exact d⟩
theorem fh.nd(r:fh e sz v rs G):(G.map (·.1)).Nodup:=by
 rw[r.blk];cases bE v<;>simp
theorem fh.add{t t':TypeId}{i:TypeInfo}(Q:P.underlying t=some (.slice e))(D:dG P e=some i)(E:i.size=sz)(M:bZ P t'=true)(y:Wf h0)(r:fh e sz v rs G)(o:OL h0 g L){j:Nat}(w:L[j]?=some G){x:Value}{ns:List (List Value)}(l:cI g sz x=some (ns.flatten,ns.length))(q:∀r∈ns,r.length=sz)(F:ns.flatten.all bc=true)(C:(rs.length+ns.length)*i.bytes<=70368744177664)(s:rs.length+ns.length<=1099511627776)(p:ns.length<=1\/ ∀a n c,v = .slice a n c->aV c=n):
  ∃(b:Option Addr)(n c:Nat)(u:aY),aE P t t' v x g=some (.slice b n c,u)/\n=rs.length+ns.length/\∃d,fh e sz (.slice b n c) (rs++ns) d/\OL h0 (u.app g) (L.set j d)/\eS g L (u.app g) (L.set j d):=by
 obtain⟨b,n,c,u,H,J,A,K,O,N,R⟩:=(r.own o w).add Q D E M y o.ok l q F C s p;obtain⟨d,m,I⟩:=fh.of A;refine⟨b,n,c,u,H,J,d,m,o.UX w K I m.nd (λk f=>?_) (λk B f z=>O k B f λe=>z ?_)⟩
 ·rw[m.blk]at f;rw[r.blk];rcases N k (by simpa using f)with h|h
  ·exact .inr h
  ·exact .inl (by simp[h])
 ·rw[r.blk,e];simp
theorem fh.put{t':TypeId}(t:au P t'=some 1)(l:Wf h0){k a n c:Nat}(r:fh e sz (.slice (some ⟨k,a,none⟩) n c) rs G)(o:OL h0 g L){j:Nat}(h:L[j]?=some G){i q:Nat}{x:List Value}(C:rs[i]?=some x)(y:q<sz){v':Value}(p:bc v'=true)(D:v'.cells = #[v']):
  ∃u:aY,aj P t' (.pointer (some ⟨k,a+i*sz+q,none⟩)) v' g=some (undef,u)/\∃b,fh e sz (.slice (some ⟨k,a,none⟩) n c) (rs.set i (x.set q v')) b/\OL h0 (u.app g) (L.set j b)/\eS g L (u.app g) (L.set j b):=by
 obtain⟨u,v,z,s,A,E⟩:=(r.own o h).put t l o.ok C y p D;obtain⟨b,f,w⟩:=fh.of z;refine⟨u,v,b,f,o.UX h s w f.nd (λk d=> .inl ?_) (λk B d m=>A k B d λe=>m ?_)⟩
 ·rw[f.blk]at d;rw[r.blk];exact d
 ·rw[r.blk,<-e];exact mem_singleton.2 rfl
end
end
section
theorem BW:∀(N:Nat){l:List Nat},l.Nodup->(∀i∈l,i<N)->l.length<=N
 |0,[],_,_=>Nat.le_refl _
 |0,i::_,_,h=>absurd (h i (mem_cons_self ..)) (Nat.not_lt_zero _)
 | N+1,l,b,h=>by
  have c:(l.erase N).length<=N:=BW N (b.erase N) λi a=>by
   have f:=h i (List.mem_of_mem_erase a);have d:i≠N:=λe=>by rw[e,b.mem_erase_iff]at a;exact a.1 rfl
   omega
  rw[List.length_erase]at c;split at c<;>omega
section
variable {P:Program} {gl:Nat->Bool} {ops:Array Oper} {bf:Nat->Nat->Bool} {base N:Nat} (hN:ops.size=N) (St:(Nat->Bool)->yx->Prop) (step: ∀ D s j,j < N->D j=false->(∀ i,i < j->bf j i=true->D i=true)->St D s-> ∃ s',wx P gl ops base j s=some s'/\St (fun i=>i == j || D i) s')
include step
theorem Kc:∀(n j:Nat)(s:yx),j+n=N->St (λi=>decide (i<j)) s->∃s',zm P gl ops base n j s=some s'/\St (λi=>decide (i<N)) s'
 |0,j,s,h,c=>⟨s,rfl,by rw[<-h];exact c⟩
 | n+1,j,s,h,c=>by
  obtain⟨l,b,a⟩:=step _ s j (by omega) (by simp) (λi k _=>by simpa using k) c;have e:(λi=>i==j||decide (i<j))=λi=>decide (i<j+1):=by
   funext i;by_cases b:i=j
   ·subst b;simp
   ·rw[show(i==j)=false by simpa using b,Bool.false_or];by_cases a:i<j
    ·simp[a,Nat.lt_succ_of_lt a]
    ·rw[decide_eq_false a,decide_eq_false (by omega)]
  rw[e]at a;obtain⟨f,d,g⟩:=Kc n (j+1) l (by omega) a;exact⟨f,by rw[zm,b];exact d,g⟩
include hN
theorem NC{fin:yx}(d:∀D s,(∀i,i<N->D i=true)->St D s->Eb fin s=true):∀(n:Nat)(a:List Nat)(s:yx),a.Nodup->(∀i∈a,i<N)->a.length+n=N->St (λi=>a.contains i) s->HS P gl ops bf base fin n a s=true
 | 0,a,s,g,k,h,l=>by
  rw[HS];refine d _ s (λi b=>?_) l;rw[List.contains_iff_mem];refine Classical.byContradiction λf=>?_;have:=BW N (List.nodup_cons.2 ⟨f,g⟩) (λj c=>by
   rcases mem_cons.1 c with rfl|c
   ·exact b
   ·exact k j c)
  rw[length_cons]at this;omega
 | n+1,a,s,g,k,h,l=>by
  rw[HS,all_eq_true];intro j c;rw[List.mem_range,hN]at c
  cases o:a.contains j with
  |true=>rfl
  | false=>
   rw[Bool.false_or]
   cases m:(List.range j).any λi=>bf j i && !a.contains i with
   |true=>rfl
   | false=>
    rw[Bool.false_or];obtain⟨t,q,r⟩:=step _ s j c o (λi b p=>by
     rw[List.any_eq_false]at m;have:=m i (List.mem_range.2 b);rw[p]at this;simpa using this) l
    rw[q];refine NC d n (j::a) t (List.nodup_cons.2 ⟨λf=>?_,g⟩) (λi b=>?_) (by rw[length_cons];omega) ?_
    ·rw[<-List.contains_iff_mem,o]at f;cases f
    ·rcases mem_cons.1 b with rfl|b
     ·exact c
     ·exact k i b
    ·have e:(λi=>(j::a).contains i)=λi=>i==j||a.contains i:=by
      funext i;rw[List.contains_cons]
     rw[e];exact r
theorem SZ{tm:List Value}(j:h.next=base)(f:St (λ_=>false) (tm,{ h with next:=h.next+ops.size },[]))(a:∀D c s s',(∀i,i<N->D i=true)->(∀i,i<N->c i=true)->St D s->St c s'->Eb s s'=true):∃s:yx,St (λi=>decide (i<N)) s/\vc P gl ops bf tm h=some (s.1,s.2.1):=by
 subst j;obtain⟨s,d,e⟩:=Kc St step N 0 _ (by omega) (by simpa using f);refine⟨s,e,?_⟩;unfold vc;rw[hN,show zm P gl ops h.next N 0 (tm,{ h with next:=h.next+N },[])=some s by rw[<-hN]at d⊢;exact d];dsimp only;rw[if_pos (NC hN St step (fin:=s) (λD s' k g=>a _ D s s' (λi b=>by simpa using b) k e g) N [] _ List.nodup_nil (λi b=>by cases b) (by simp) (by simpa[hN]using f))]
end
end
section
def po(vs:List Value):List (List Value):=vs.map λx=>[x]
theorem jR:∀vs:List Value,(po vs).flatten=vs
 |[]=>rfl
 |x::vs=>by
  show[x]++(po vs).flatten=_;rw[jR vs];rfl
theorem dw(vs:List Value):(po vs).length=vs.length:=lM ..
theorem vU{vs:List Value}:∀r∈po vs,r.length=1:=λr a=>by
 obtain⟨x,_,rfl⟩:=mem_map.1 a;rfl
theorem Um(vs a:List Value):po (vs++a)=po vs++po a:=map_append
def dy(e:TypeId)(v:Value)(vs:List Value)(G:cD):Prop:=fh e 1 v (po vs) G
theorem dy.nil(e:TypeId):dy e (.slice none 0 0) [] []:=fh.nil e 1
section
variable {h0 g:aa} {L:List cD} {e:TypeId} {v:Value} {vs:List Value} {G:cD}
theorem dy.mU(r:dy e v vs G):∃(a:Option Addr)(c:Nat),v = .slice a vs.length c:=by
 obtain⟨a,c,h⟩:=fh.mU r;rw[dw]at h;exact⟨a,c,h⟩
theorem dy.rdp(r:dy e v vs G)(h:∀p∈G,g.get p.1=some p.2):Rd g e v vs:=by
 obtain⟨_,⟨rfl,f,_⟩|⟨k,b,cs,c,d,rfl,a,i,j⟩⟩:=r
 ·have:vs=[]:=by simpa[po]using f
  subst this;exact .inl ⟨rfl,rfl⟩
 ·rw[dw,mul_one,jR]at a;rw[dw]at d;exact .inr ⟨k,b,cs,c,true,d,h _ (mem_singleton.2 rfl),a⟩
theorem OL.PJ(o:OL h0 g L){i:Nat}(a:L[i]?=some G):∀p∈G,g.get p.1=some p.2:=λp b=>by
 obtain⟨j,c⟩:=getElem?_of_mem b;exact o.at_ p (OL.mem a c)
theorem dy.rd(r:dy e v vs G)(o:OL h0 g L){i:Nat}(a:L[i]?=some G):Rd g e v vs:=r.rdp (o.PJ a)
theorem dy.snoc{t:TypeId}{i:TypeInfo}(F:P.underlying t=some (.slice e))(q:dG P e=some i)(s:i.size=1)(B:bZ P t=true)(l:Wf h0)(r:dy e v vs G)(o:OL h0 g L){j:Nat}(C:L[j]?=some G){x:Value}(w:bc x=true){d:Nat}(h:g.get d=some (.cells [x] e 1 true))(p:(vs.length+1)*i.bytes<=70368744177664)(k:vs.length+1<=1099511627776):
  ∃(b:Option Addr)(n c:Nat)(u:aY),aE P t t v (.slice (some ⟨d,0,none⟩) 1 1) g=some (.slice b n c,u)/\n=vs.length+1/\∃a,dy e (.slice b n c) (vs++[x]) a/\OL h0 (u.app g) (L.set j a)/\eS g L (u.app g) (L.set j a):=by
 have f:cI g 1 (.slice (some ⟨d,0,none⟩) 1 1)=some (([[x]]:List (List Value)).flatten,1):=by
  show(match g.get d with|some (.cells cs ..)=>if((cs.drop 0).take (1*1)).length=1*1 then some ((cs.drop 0).take (1*1),1)else none|_=>none)=_;rw[h];rfl
 have E:fh e 1 v (po vs) G:=r;obtain⟨b,n,c,u,y,z,a,m,A⟩:=E.add F q s B l o C (ns:=[[x]]) f (λr D=>by rw[mem_singleton.1 D];rfl) (by simp[w]) (by rw[dw];exact p) (by rw[dw];exact k) (.inl (Nat.le_refl _));refine⟨b,n,c,u,y,by rw[z,dw];rfl,a,?_,A⟩;unfold dy;rw[Um];exact m
theorem dy.tail{t:TypeId}(s:P.underlying t=some (.slice e))(i:au P e=some 1){x:Value}(r:dy e v (x::vs) G)(q:∀p∈G,g.get p.1=some p.2):∃(a:Option Addr)(n c:Nat),bm P t v (some (.int .i64 1)) none none g=some (.slice a n c)/\dy e (.slice a n c) vs G:=by
 obtain⟨_,⟨_,l,_⟩|⟨k,f,cs,c,rfl,rfl,h,m,d⟩⟩:=r
 ·cases l
 ·rw[dw,length_cons]at h d;rw[jR,mul_one]at h;rw[mul_one]at m;have o:=q _ (mem_singleton.2 rfl);have j:=ui s i (k:=k) (off:=f) o (n:=(x::vs).length) (z:=1) (by rw[length_cons];omega) (by rw[length_cons];exact d);rw[dw];refine⟨_,_,_,j,vU,.inr ⟨k,f+1*1,cs,c-1,?_,rfl,?_,?_,?_⟩⟩
  ·rw[dw,length_cons];rfl
  ·rw[dw,jR,mul_one];have:=congrArg (List.drop 1) h;rw[drop_take,drop_drop]at this;simpa using this
  ·have b:aV (c-1)=aV c-1:=by
    unfold aV at d⊢;by_cases b:ca<=c
    ·rw[if_pos b]at d;rw[if_pos b,if_pos (by omega)];omega
    ·rw[if_neg b,if_neg (by omega)]
   rw[b];omega
  ·have b:aV (c-1)=aV c-1:=by
    unfold aV at d⊢;by_cases b:ca<=c
    ·rw[if_pos b]at d;rw[if_pos b,if_pos (by omega)];omega
    ·rw[if_neg b,if_neg (by omega)]
   rw[b,dw];omega
end
theorem mF{t e:TypeId}(b:P.underlying t=some (.slice e))(a:au P e=some 1){k n c i:Nat}(h:i<n):ai P t (sA k n c) (.int .i64 (i:Int))=some (.pointer (some ⟨k,i,none⟩)):=by
 rw[F0 b a (by omega) (by omega)];simp
theorem Im.ld{t:TypeId}{d:TypeDesc}(b:P.underlying t=some d)(a:isAgg P t=false){g:aa}{L:List cD}{k:Nat}{v:Value}{e:TypeId}{z:Nat}{w:Bool}(m:Im g L k (.cells [v] e z w)):ae P t g (pA k)=some v:=aN b a m.1 (by simp)
theorem OL.Ys{h0 g:aa}{L A:List cD}(o:OL h0 g (L++A)):∀p∈A.flatten,Im g L p.1 p.2:=λp a=>⟨o.at_ p (by rw[flatten_append];exact List.mem_append_right _ a),λb=>by
 have:=o.nd;rw[kQ]at this;exact(nodup_append.1 this).2.2 _ b _ (mem_keys a) rfl⟩
def sL(g:aa)(L:List cD)(e:TypeId)(v:Value)(vs:List Value):Prop:=∃G,dy e v vs G/\∀p∈G,Im g L p.1 p.2
theorem sL.cS{g:aa}{L a:List cD}{e:TypeId}{v:Value}{vs:List Value}(r:sL g L e v vs)(c:eS g L h a):sL h a e v vs:=by
 obtain⟨G,b,d⟩:=r;exact⟨G,b,λp f=>c _ _ (d p f)⟩
theorem sL.rd{g:aa}{L:List cD}{e:TypeId}{v:Value}{vs:List Value}(r:sL g L e v vs):Rd g e v vs:=by
 obtain⟨G,a,b⟩:=r;exact a.rdp λp c=>(b p c).1
theorem OL.LC{h0 g:aa}{L:List cD}(o:OL h0 g L){n j:Nat}(a:j<n)(B:bw):OL h0 (av (room g n) g.next [(j,B)]) L/\eS g L (av (room g n) g.next [(j,B)]) L/\Im (av (room g n) g.next [(j,B)]) L (g.next+j) B:=by
 have e:Ok g (av (room g n) g.next [(j,B)]):=((Ok.refl o.ok.wf).room n).set B (le_add_right _ _) (Nat.add_lt_add_left a _) o.ok.wf;have b:(av (room g n) g.next [(j,B)]).get (g.next+j)=some B:=by
  show((room g n).set (g.next+j) B).get (g.next+j)=_;rw[aa.aw,if_pos rfl]
 exact⟨(o.grow e).1,(o.grow e).2,o.new (le_add_right _ _) b⟩
theorem OL.IZ{h0 g:aa}{L:List cD}{G:cD}(o:OL h0 g L){i:Nat}(a:L[i]?=some G):∀p∈G,h0.next<=p.1:=λp b=>o.lo _ (mem_keys (List.mem_flatten.2 ⟨G,List.mem_of_getElem? a,b⟩))
def na(g a:aa)(e:TypeId)(v:Value)(vs:List Value):Prop:=∃G,dy e v vs G/\∀p∈G,g.next<=p.1/\a.get p.1=some p.2
theorem na.im{h0 g:aa}{L:List cD}{e:TypeId}{v:Value}{vs:List Value}(r:na g h e v vs)(o:OL h0 g L):sL h L e v vs:=by
 obtain⟨G,c,a⟩:=r;exact⟨G,c,λp b=>o.new (a p b).1 (a p b).2⟩
theorem na.rd{g:aa}{e:TypeId}{v:Value}{vs:List Value}(r:na g h e v vs):Rd h e v vs:=by
 obtain⟨G,a,b⟩:=r;exact a.rdp λp c=>(b p c).2
theorem abL{g:aa}{e:TypeId}{v:Value}{vs:List Value}(r:Rd g e v vs):cI g 1 v=some (vs,vs.length):=by
 rcases r with⟨rfl,rfl⟩|⟨k,a,cs,c,f,rfl,d,b⟩
 ·rfl
 ·show(match g.get k with|some (.cells cs ..)=>if((cs.drop a).take (vs.length*1)).length=vs.length*1 then some ((cs.drop a).take (vs.length*1),vs.length)else none|_=>none)=_;rw[d,mul_one];dsimp only;rw[b,if_pos rfl]
theorem WV{t e:TypeId}{i:TypeInfo}(y:P.underlying t=some (.slice e))(m:dG P e=some i)(o:i.size=1)(s:bZ P t=true){g:aa}(w:Wf g){x:Value}{vs:List Value}(d:cI (g.push (.cells [] e 1 true)) 1 x=some (vs,vs.length))(q:vs.all bc=true)(l:vs.length*i.bytes<=70368744177664)(h:vs.length<=1099511627776):
  ∃(b:Option Addr)(n c:Nat)(u:aY),aE P t t (sA g.next 0 0) x (g.push (.cells [] e 1 true))=some (.slice b n c,u)/\na g (u.app (g.push (.cells [] e 1 true))) e (.slice b n c) vs/\Ok g (u.app (g.push (.cells [] e 1 true))):=by
 have a:=(Ok.refl w).push (.cells [] e 1 true);have j:(g.push (.cells [] e 1 true)).get g.next=some (.cells [] e 1 true):=by rw[aa.aM,if_pos rfl]
 have k:g.next<(g.push (.cells [] e 1 true)).next:=Nat.lt_succ_self _;unfold aE;rw[y];dsimp only;rw[m];dsimp only;rw[o,if_pos s,d];dsimp only;rw[if_pos ⟨q,(mul_one _).symm⟩];by_cases h0:vs.length=0
 ·rw[if_pos h0];obtain rfl:=eq_nil_of_length_eq_zero h0;exact⟨_,_,_,_,rfl,⟨[(g.next,.cells [] e 1 true)],fh.made (rs:=[]) (λr v=>by cases v) (by decide),λp f=>by obtain rfl:=mem_singleton.1 f;exact⟨Nat.le_refl _,j⟩⟩,a⟩
 ·have z:aV 0=0:=by unfold aV;rw[if_neg (by decide)]
  rw[if_neg h0,z,if_neg (by omega)];unfold fI;rw[if_pos ⟨by rw[zero_add];exact l,by rw[zero_add];exact h⟩,j];dsimp only;rw[if_pos ⟨rfl,rfl,rfl⟩,if_pos (by decide)];refine⟨_,_,_,_,rfl,⟨[((g.push (.cells [] e 1 true)).next,.cells ([]++vs) e 1 true)],⟨vU,.inr ⟨(g.push (.cells [] e 1 true)).next,0,vs,ca+(0+vs.length),?_,?_,?_,?_,?_⟩⟩,λp f=>?_⟩,a.push _⟩
  ·rw[dw,zero_add]
  ·rfl
  ·rw[dw,jR,mul_one,drop_zero,take_length]
  ·rw[zero_add,bS];simp
  ·rw[zero_add,bS,dw];exact Nat.le_refl _
  ·obtain rfl:=mem_singleton.1 f;refine⟨le_of_lt k,?_⟩;show((g.push _).push _).get _=_;rw[aa.aM,if_pos rfl];rfl
theorem OL.cell{t:TypeId}(b:au P t=some 1){h0 g:aa}{L:List cD}(o:OL h0 g L)(z:Value){v:Value}(a:bc v=true)(c:v.cells = #[v]):∃u:aY,aj P t (pA g.next) v (g.push (.cells [z] t 0 true))=some (undef,u)/\Ok g (u.app (g.push (.cells [z] t 0 true)))/\Im (u.app (g.push (.cells [z] t 0 true))) L g.next (.cells [v] t 0 true):=by
 have k:(g.push (.cells [z] t 0 true)).get g.next=some (.cells [z] t 0 true):=by rw[aa.aM,if_pos rfl]
 have e:Ok g ((g.push (.cells [z] t 0 true)).set g.next (.cells [v] t 0 true)):=((Ok.refl o.ok.wf).push _).set _ (Nat.le_refl _) (Nat.lt_succ_self _) o.ok.wf;exact⟨_,bC b k (by simp) a c,e,o.new (Nat.le_refl _) (by show((g.push _).set _ _).get _=_;rw[aa.aw,if_pos rfl];rfl)⟩
theorem tR(L:List cD)(n:Nat):keys (L++List.replicate n [])=keys L:=by
 rw[kQ];have:keys (List.replicate n ([]:cD))=[]:=by unfold keys;simp
 rw[this,append_nil]
theorem OL.cY{h0 g:aa}{L:List cD}(o:OL h0 g L)(n:Nat):OL h0 g (L++List.replicate n [])/\eS g L g (L++List.replicate n []):=
 ⟨⟨o.ok,by rw[tR];exact o.nd,λk a=>o.lo k (by rwa[tR]at a),λp b=>o.at_ p (by simpa using b)⟩,λk B m=>⟨m.1,by rw[tR];exact m.2⟩⟩
end
theorem Ie{t e:TypeId}{sz:Nat}(hU:P.underlying t=some (.slice e))(hs:au P e=some sz){g:aa}{a:Option Addr}{n c c':Nat}{rs:List (List Value)}(r:qA g e sz (.slice a n c) rs)(hn:n≠0)(hsc:rs.flatten.all bc=true){k:Nat}{cs0:List Value}(hk:g.get k=some (.cells cs0 e sz true))(hl:cs0.length=n*sz):
  copyV P t (.slice (some ⟨k,0,none⟩) n c') (.slice a n c) g=some (.int .i64 (n:Int),.set k (.cells rs.flatten e sz true)):=by
 have hnr:=r.len;obtain⟨hr,⟨h1|h1,h2⟩|⟨k',off,cs,e',z,c2,wr,h1,h2,h3,h4⟩⟩:=r
 ·subst h2;exact absurd hnr hn
 ·subst h2;exact absurd hnr hn
 injection h1 with h1 _ _
 subst h1;subst hnr;have hF:=EL hr h3 h4;have hFl:=fj hr;have hsrc:cI g sz (.slice (some ⟨k',off,none⟩) rs.length c)=some (rs.flatten,rs.length):=by
  show(match g.get k' with|some (.cells cs ..)=>if((cs.drop off).take (rs.length*sz)).length=rs.length*sz then some ((cs.drop off).take (rs.length*sz),rs.length)else none|_=>none)=_;rw[h2];dsimp only;rw[hF,if_pos hFl]
 unfold copyV;rw[hU];dsimp only;rw[hs];dsimp only;rw[hsrc];dsimp only;rw[if_neg (by omega),Nat.min_self,take_of_length_le (by omega)];unfold storeAt;rw[hk];dsimp only;rw[if_pos ⟨by omega,hsc⟩];have e1:cs0.take 0++rs.flatten++cs0.drop (0+rs.flatten.length)=rs.flatten:=by
  rw[take_zero,nil_append,drop_eq_nil_of_le (by omega),append_nil]
 rw[e1];rfl
theorem NM{t e:TypeId}{sz:Nat}(hU:P.underlying t=some (.slice e))(hs:au P e=some sz){k off c:Nat}{cs:List Value}{rs:List (List Value)}(hl:∀r∈rs,r.length=sz)(h4:(cs.drop off).take (rs.length*sz)=rs.flatten)(h5:aV c*sz+off=cs.length)(h6:rs.length<=aV c){lo hi:Option Value}{x y:Nat}(ha:dq lo 0=some (x:Int))(hb:dq hi rs.length=some (y:Int))(hx:x<=y)(hy:y<=rs.length){g:aa}(hk:g.get k=some (.cells cs e sz true)):
  bm P t (.slice (some ⟨k,off,none⟩) rs.length c) lo hi none g=some (.slice (some ⟨k,off+x*sz,none⟩) (y-x) (c-x))/\cI g sz (.slice (some ⟨k,off+x*sz,none⟩) (y-x) (c-x))=some (((rs.drop x).take (y-x)).flatten,((rs.drop x).take (y-x)).length):=by
 have e1:((rs.drop x).take (y-x)).length=y-x:=by rw[length_take,length_drop];omega
 have e2:=fj hl;have m1:rs.length*sz<=aV c*sz:=mul_le_mul_right _ h6;have m2:(y-x)*sz+x*sz=y*sz:=by rw[<-add_mul,Nat.sub_add_cancel hx]
 have m3:y*sz<=rs.length*sz:=mul_le_mul_right _ hy;have e3:(cs.drop (off+x*sz)).take ((y-x)*sz)=((rs.drop x).take (y-x)).flatten:=by
  rw[Bu (λr hr=>hl r (List.mem_of_mem_drop hr)),Bt hl,<-h4,drop_take,take_take,drop_drop,min_eq_left (by omega)]
 constructor
 ·unfold bm;simp only[hU,ha,hb,hs,hk];rw[if_pos (.inl trivial),if_pos ⟨by omega,by omega,by omega⟩];simp only[toNat_natCast];congr 2;omega
 ·show(match g.get k with|some (.cells cs ..)=>if((cs.drop (off+x*sz)).take ((y-x)*sz)).length=(y-x)*sz then some ((cs.drop (off+x*sz)).take ((y-x)*sz),y-x)else none|_=>none)=_;rw[hk];dsimp only;rw[e3,fj (l:=(rs.drop x).take (y-x)) (λr hr=>hl r (List.mem_of_mem_drop (mem_of_mem_take hr))),e1,if_pos rfl]
end Go.Ab
end
section
namespace Go.Ab
open Go Go.RowKit Go.Proofs Go.Sort Go.Shelf
variable{n:Nat}{a:Option Addr}{v:Value}{W:World}{V:Array Value}{m:Nat}
section
variable {β:cO} {P:Program} {gl:Nat->Bool}
theorem D8:∀{cs:List Value}{l:List Int},Li cs=some l->cs=l.map zV
 |[],l,h=>by obtain rfl:=oI h;rfl
 | v::r,l,h=>by
  unfold Li at h;split at h
  ·next a=>cases a
  ·next z d a=>
   injection a with a c
   subst a;subst c;obtain⟨l',b,rfl⟩:=Option.map_eq_some_iff.1 h;rw[D8 b];rfl
  grind
theorem Mx{c:Nat}(h:aB β (.slice a n c) v):∃d b,v = .slice d n b:=by
 cases h with
 |kT=>grind
 |slice=>grind
 |dead=>grind
theorem PN{b:Nat}{t:TypeId}{d:Nat×Nat}{cs:List Value}{l:List Int}(g:W.heap[b]?=some (.cells V t d))(u:fb β cs n V)(i:Tm d V.size)(h:m+l.length<=cs.length)(o:(cs.drop m).take l.length=l.map zV):Holds (Value.int .i64) W b (n+m) l.toArray:=by
 intro j a;have a:j<l.length:=by simpa using a
 have f:(l.map zV)[j]?=some (zV l[j]):=by rw[getElem?_map,gE a];rfl
 rw[<-o,getElem?_take,if_pos a,getElem?_drop]at f;obtain⟨v',c,k⟩:=u _ _ f;rw[k.rM rfl]at c;rw[show n+(m+j)=n+m+j by omega]at c;have e:l.toArray[j]! = l[j]:=getElem!_pos l.toArray j (by simpa using a);refine⟨by rw[lL g,c,e];rfl,?_⟩;have v:n+m+j<V.size:=(Array.getElem?_eq_some_iff.1 c).1;unfold World.frozen?;rw[g];dsimp only;obtain⟨q,p⟩:=d;rw[Bool.and_eq_false_iff];by_cases s:q<=n+m+j
 ·right;have:¬n+m+j<p:=λr=>by
   have:=i (n+m+j) s r;omega
  simpa using this
 grind
set_option maxHeartbeats 1000000 in
theorem Vo{S:Ren}(L:SlLaysM.n5 P S){f5:Func}(T:P.funcs[S.f 5]?=some f5)(W:f5.body.isSome=true):jj P gl (S.f 5) Cu:=by
 intro x7 _ x4 h v h' g β w E o _ ha;refine⟨f5,T,.inl ⟨W,?_⟩⟩;unfold Cu at g;split at g
 ·next a n c=>
  obtain⟨v1,r1,e1,K,X⟩:=ha.cA;have e3:=X.dN;subst e3;have F:E = #[v1]:=by
   have:=congrArg List.toArray e1;simpa using this
  subst F;split at g
  ·next O=>
   subst O;simp only[Option.some.injEq,Prod.mk.injEq]at g;obtain⟨rfl,rfl⟩:=g;obtain⟨a',Q,rfl⟩:=Mx K;refine(AnyM.slices_Sort_int_none L a' Q w).mono ?_;rintro e w' ⟨rfl,rfl⟩;exact⟨_,β,rfl,Step.refl o,.tuple rfl λi v v' h=>by simp at h⟩
  ·next O=>
   split at g
   ·next b d=>
    split at g
    ·next cs t sz s=>
     split at g
     ·next A=>
      obtain⟨l,R,he⟩:=Option.map_eq_some_iff.1 g;simp only[Prod.mk.injEq]at he;obtain⟨rfl,rfl⟩:=he;have Y:=D8 R;obtain⟨f,i',Q,r,V,_,rfl,x5,x9,x6,B,x8⟩:=K.fk;have B:i'=f.s+d:=by
       rcases B with h|⟨h,_⟩
       ·exact h
       ·exact absurd h O
      subst B;obtain⟨V,ht,hz,q,fr,hw,Z,N,I⟩:=o.blk _ _ _ s r;have u:((cs.drop d).take n).length=n:=by rw[length_take,length_drop];omega
      have x1:l.length=n:=by
       rw[Y,lM]at u;exact u
      subst x1;have H:=PN (β:=β) hw N (I rfl) A.2 Y;refine(AnyM.slices_Sort_int L f.b (f.s+d) Q l w H (o.lt _ _ r).2 A.1).mono ?_;rintro e w' ⟨rfl,m,os,rfl⟩;have z:(zk l).length=l.length:=List.length_mergeSort l;have e0:(l.mergeSort λx y=>decide (x<=y))=zk l:=rfl;rw[e0];generalize zk l=l' at*;have x3:d<=cs.length:=by omega
      have p:∀i v,cs[i]?=some v->∃v',q[f.s+i]?=some v'/\aB β v v':=N;have G:Step β h w β (h.set b (.cells (cs.take d++l'.map zV++cs.drop (d+l.length)) t sz true)) (putRow (Value.int .i64) (Sort.ahead w m) f.b (f.s+d) l'.toArray):=by
       refine Step.at_ o s r rfl ⟨by simp,rfl,⟨rfl,le_add_right _ _⟩,rfl,λb' U=>?_⟩ ⟨V,ht,hz,putCells (Value.int .i64) (f.s+d) l'.toArray q,fr,?_,by simp[putCells,Z],λi v k=>?_,λ_=>by simpa[putCells]using I rfl⟩
       ·simp only[putRow,mapBlock,Array.getElem?_modify];rw[if_neg (Ne.symm U)];rfl
       ·simp only[putRow,mapBlock,Array.getElem?_modify,if_true,heap_ahead,hw,map_some,onCells]
       ·have x2:∀j,(putCells (Value.int .i64) (f.s+d) l'.toArray q)[j]?=(q[j]?).map λx=>if f.s+d<=j/\j<f.s+d+l.length then Value.int .i64 (l'.toArray[j-(f.s+d)]!)else x:=λj=>by
         simp only[putCells,Array.getElem?_mapIdx,List.size_toArray,z]
        rw[x2];have hf:(l'.map zV).length=l.length:=by rw[lM,z]
        have x0:(cs.take d).length=d:=by rw[length_take];omega
        rw[append_assoc,List.getElem?_append,x0]at k;split at k
        ·next hi=>
         rw[getElem?_take,if_pos hi]at k;obtain⟨v',C,D⟩:=p i v k;rw[C];exact⟨v',by simp only[map_some];rw[if_neg (by omega)],D⟩
        ·next hi=>
         rw[List.getElem?_append,hf]at k;split at k
         ·next M=>
          have g0:i<cs.length:=by omega
          obtain⟨v',C,D⟩:=p i _ (gE g0);rw[C];simp only[map_some];rw[if_pos (by omega)];have J:i-d<l'.length:=by rw[z];exact M
          rw[getElem?_map,gE J]at k;obtain rfl:=oI k;refine⟨_,rfl,?_⟩;rw[show f.s+i-(f.s+d)=i-d by omega];have e:l'.toArray[i-d]! = l'[i-d]:=getElem!_pos l'.toArray (i-d) (by simpa using J);rw[e];exact .vS rfl
         ·next M=>
          rw[getElem?_drop,show d+l.length+(i-d-l.length)=i by omega]at k;obtain⟨v',C,D⟩:=p i v k;rw[C];exact⟨v',by simp only[map_some];rw[if_neg (by omega)],D⟩
      refine⟨_,β,rfl,G.trans (tq G.nS ⟨rfl,rfl,rfl,by rw[size_grow];exact le_add_right _ _,λj hj=>heap_grow_old _ os hj⟩ (Nat.le_refl _)),.tuple rfl λi v v' h=>by simp at h⟩
     ·cases g
    ·cases g
   ·cases g
 grind
end
end Go.Ab
end
section
namespace Go.Ab
open Go Go.RowKit
variable{A:Type}{n:Nat}{v:Value}{T:TypeId}
section
variable {β:cO} {P:Program} {h:aa} {w:World}
theorem FQ{e:Type}{c:Nat}:∀{a:List (List e)},(∀r∈a,r.length=c)->∀{i:Nat}{r:List e},a[i]?=some r->∀{j:Nat},j<c->a.flatten[i*c+j]?=r[j]?
 |[],_,i,r,b,_,_=>by grind
 |x::a,d,0,r,b,j,f=>by grind
 |x::a,d,i+1,r,b,j,f=>by
  have h:=d x (mem_cons_self ..);rw[List.getElem?_cons_succ]at b;have k:=FQ (λr g=>d r (mem_cons_of_mem _ g)) b f
  grind
theorem oe{d:Type}{b:Nat}:∀{a:List (List d)},(∀r∈a,r.length=b)->a.flatten.length=a.length*b
 |[],_=>by simp
 |x::a,c=>by
  have e:=c x (mem_cons_self ..);rw[flatten_cons,length_append,oe λr f=>c r (mem_cons_of_mem _ f),e,length_cons,add_mul];omega
theorem Tj{a:List (List A)}(b:∀r∈a,r.length=n){i:Nat}{r:List A}(c:a[i]?=some r):(a.flatten.drop (i*n)).take n=r:=by
 have d:=b r (List.mem_of_getElem? c);refine List.ext_getElem? λj=>?_
 grind[FQ]
structure tx(β:cO)(h:aa)(w:World):Prop where
 nS:iJ β h w
 ro:∀k B,h.get k=some B->B.wr=false
theorem aeC(n:Nat)(w:World):tx β0 ⟨n,.nil⟩ w:=⟨Oz n w,λk B h=>by grind[aa.get_nil]⟩
theorem tx.wf(i:tx β h w):Wf h:=i.nS.wf
theorem tx.below(i:tx β h w){b:cO}{e:aa}{a:World}(s:Step β h w b e a):Below w.heap.size w a:=
 ⟨s.os,s.tape.1,s.output,s.size,λk f=>s.kept k f λ⟨k,B,g,c,d,_⟩=>by rw[i.ro k B c]at d;grind⟩
abbrev GX(b n:Nat)(t:TypeId):Slot:=⟨b,0,n,t,0,false⟩
theorem tx.fresh(i:tx β h w):β h.next=none:=i.nS.jQ (Nat.le_refl _)
theorem tx.le(i:tx β h w)(a:Slot):β.le (β.ext h.next a):=cO.BM a i.fresh
theorem tx.push(i:tx β h w){cs:List Value}{t:TypeId}{c:Array Value}{o:Nat×Nat}{b:Nat}(l:w.heap[b]?=some (.cells c t o))(q:fb β cs 0 c):
  tx (β.ext h.next (GX b c.size t)) (h.push (.cells cs t 0 false)) w:=by
 have j:=i.le (GX b c.size t);have m:b<w.heap.size:=(Array.getElem?_eq_some_iff.1 l).1;have n:∀k B,(h.push (.cells cs t 0 false)).get k=some B->B.wr=false:=λk B a=>by
  rw[aa.aM]at a;split at a
  ·obtain rfl:=oI a;rfl
  ·exact i.ro k B a
 refine⟨⟨λk f a=>?_,λk B f d g=>?_,λk s B u f r _ d _ _ _ p=>?_,aa.lZ i.nS.wf _⟩,n⟩
 ·by_cases e:k=h.next
  ·subst e;rw[cO.bW]at a;obtain rfl:=oI a;exact⟨by simp,m⟩
  ·rw[cO.dB _ _ e]at a;have:=i.nS.lt k f a;exact⟨by simp;omega,this.2⟩
 ·rw[aa.aM]at d;split at d
  ·next e=>
   subst e;rw[cO.bW]at g;obtain rfl:=oI g;obtain rfl:=oI d;exact⟨rfl,rfl,⟨rfl,λ_=>rfl⟩,c,o,l,rfl,q.mono j,λp=>by cases p⟩
  ·next e=>
   rw[cO.dB _ _ e]at g;exact(i.nS.blk k B f d g).mono j
 grind
theorem H7(r:tE P){q:FuncId->Option lK}{j:Nat->Bool}(u:oK P j q){f:FuncId}{l:Func}{b:List Value}{Q:Value->aa->Prop}(p:FW ⟨P,j,q⟩ f b h Q)(x:f<YB)(m:P.funcs[f]?=some l)(s:l.body.isSome=true)
  {args':Array Value} (i:tx β h w) (C:Gl j β) (A:aW β b args'.toList):
  Calls P f args' w λe d=>∃v v' c a,e = .returned v'/\Q v c/\aB a v v'/\Step β h w a c d/\Below w.heap.size w d:=by
 obtain⟨v,c,⟨n,B⟩,z⟩:=p;obtain⟨D,g,k⟩:=(r.aeV u n).fn f b h v c x (B n (Nat.le_refl _)) β w args' i.nS C A;rw[m]at g;obtain rfl:=oI g;rcases k with⟨_,k⟩|⟨v',d,a,y,_,_⟩
 ·refine k.mono ?_;rintro e d ⟨v',a,rfl,o,t⟩;exact⟨v,v',c,a,rfl,z,t,o,i.below o⟩
 ·rw[fS r.names m s]at y
  grind
def DP(w:World)(v:Value)(f:Nat)(c:List (List Value)):Prop:=
 (∀r∈c,r.length=f)/\((v = .slice none 0 0/\c=[])\/(∃a,v = .slice (some a) 0 0/\c=[])\/
  ∃b e d cs t g,v = .slice (some ⟨b,e,none⟩) c.length d/\c.length<=d/\d<ca/\w.heap[b]?=some (.cells cs t g)/\e<=cs.size/\
   ∀(i:Nat)(r:List Value),c[i]?=some r->∀j,j<f->cs[e+(i*f+j)]?=r[j]?)
theorem tx.U5(i:tx β h w){f:Nat}{e:TypeId}{l d:List (List Value)}{b a g:Nat}{cs:Array Value}{t:TypeId}{J:Nat×Nat}(C:∀r∈d,r.length=f)(G:l.length=d.length)
  (x:∀(k:Nat) r E,l[k]?=some r->d[k]?=some E->aW β r E) (P:d.length<=g) (O:g<ca) (F:w.heap[b]?=some (.cells cs t J)) (Q:a<=cs.size)
  (R:∀(i:Nat)(r:List Value),d[i]?=some r->∀j,j<f->cs[a+(i*f+j)]?=r[j]?):
  ∃s y,tx s y w/\β.le s/\Ok h y/\aB s (.slice (some ⟨h.next,a,none⟩) l.length g) (.slice (some ⟨b,a,none⟩) d.length g)/\qA y e f (.slice (some ⟨h.next,a,none⟩) l.length g) l:=by
 have p:∀r∈l,r.length=f:=λr A=>by
  obtain⟨k,o,rfl⟩:=List.getElem_of_mem A;have I:d[k]?=some d[k]:=gE (by omega);rw[(x k _ _ (gE o) I).1]
  grind
 have u:fb β (List.replicate a jE++l.flatten) 0 cs:=λk v m=>by
  rw[zero_add];rw[List.getElem?_append]at m;split at m
  ·next o=>
   rw[length_replicate]at o;rw[List.getElem?_replicate,if_pos o]at m;obtain rfl:=oI m;exact⟨_,Array.getElem?_eq_getElem (by omega),.jE _⟩
  ·next o=>
   rw[length_replicate]at o m;have q:=(List.getElem?_eq_some_iff.1 m).1;rw[oe p]at q;rcases eq_zero_or_pos f with z|z
   ·subst z;simp at q
   have H:k-a=(k-a)/f*f+(k-a)%f:=by rw[mul_comm];exact(Nat.div_add_mod _ _).symm
   have L:=mod_lt (k-a) z;have K:(k-a)/f<l.length:=div_lt_of_lt_mul (by rw[mul_comm];exact q);have D:l[(k-a)/f]?=some l[(k-a)/f]:=gE K;have B:d[(k-a)/f]?=some d[(k-a)/f]:=gE (by omega);rw[H,FQ p D L]at m;have A:=x _ _ _ D B;have N:=C _ (List.mem_of_getElem? B);have M:d[(k-a)/f][(k-a)%f]?=some d[(k-a)/f][(k-a)%f]:=gE (by omega);refine⟨_,?_,A.2 _ _ _ m M⟩
   grind
 refine⟨_,_,i.push F u,i.le _,(Ok.refl i.wf).push _,?_,p,.inr ⟨h.next,a,_,t,0,g,false,rfl,aa.gf _ _,?_,λk r o=>?_⟩⟩
 ·have:=aB.slice (β:=β.ext h.next (GX b cs.size t)) (i:=a) (n:=l.length) (c:=g) (i':=a) (c':=g) (cO.bW _ _ _) rfl (λ_=>rfl) (λh=>by omega) (by unfold aV;split<;>omega) (.inl (by simp)) (.inl rfl)
  grind
 ·grind[oe]
 ·rw[List.drop_append,length_replicate,drop_eq_nil_of_le (by simp),nil_append,Nat.add_sub_cancel_left]
  grind[Tj]
theorem tx.row(i:tx β h w){m:Nat}{e:TypeId}{v':Value}{rs f:List (List Value)}(r:DP w v' m f)(c:rs.length=f.length)(l:∀(k:Nat) r o,rs[k]?=some r->f[k]?=some o->aW β r o):
  ∃d g v,tx d g w/\β.le d/\Ok h g/\aB d v v'/\qA g e m v rs:=by
 obtain⟨n,⟨rfl,rfl⟩|⟨a,rfl,rfl⟩|⟨b,z,y,cs,t,B,rfl,s,q,p,u,x⟩⟩:=r
 ·obtain rfl:rs=[]:=eq_nil_of_length_eq_zero c;exact⟨β,h,_,i,β.le_refl,Ok.refl i.wf,.kT,⟨λ_ j=>absurd j (by simp),.inl ⟨.inl rfl,rfl⟩⟩⟩
 ·obtain rfl:rs=[]:=eq_nil_of_length_eq_zero c;exact⟨β,h,sV,i,β.le_refl,Ok.refl i.wf,.dead a,⟨λ_ j=>absurd j (by simp),.inl ⟨.inr rfl,rfl⟩⟩⟩
 ·obtain⟨d,g,D,F,E,C,A⟩:=i.U5 (e:=e) n c l s q p u x
  grind
theorem tx.U6(i:tx β h w){p:Nat}{e:TypeId}{v':Value}{rs f:List (List Value)}(r:DP w v' p f)(c:rs.length=f.length)(o:∀(k:Nat) r u,rs[k]?=some r->f[k]?=some u->aW β r u)
  (B:∀a,v' = .slice (some a) 0 0->a.spot=none/\∃cs t m,w.heap[a.block]?=some (.cells cs t m)):
  ∃d g v,tx d g w/\β.le d/\Ok h g/\aB d v v'/\qA g e p v rs/\v≠sV:=by
 obtain⟨q,⟨rfl,rfl⟩|⟨a,rfl,rfl⟩|⟨b,s,E,cs,t,m,rfl,z,x,j,A,D⟩⟩:=r
 ·obtain rfl:rs=[]:=eq_nil_of_length_eq_zero c;exact⟨β,h,_,i,β.le_refl,Ok.refl i.wf,.kT,⟨λ_ l=>absurd l (by simp),.inl ⟨.inl rfl,rfl⟩⟩,λe=>by cases e⟩
 ·obtain rfl:rs=[]:=eq_nil_of_length_eq_zero c;obtain⟨y,cs,t,m,j⟩:=B a rfl;obtain⟨b,s,n⟩:=a
  cases (show n=none from y)
  have C:=i.push (cs:=[]) j (λk v F=>by grind);refine⟨_,_,.slice (some ⟨h.next,0,none⟩) 0 0,C,i.le _,(Ok.refl i.wf).push _,?_,⟨λ_ l=>absurd l (by simp),.inr ⟨h.next,0,_,t,0,0,false,rfl,aa.gf _ _,by simp,λk r J=>by grind⟩⟩,λe=>by grind[sV]⟩;exact aB.slice (sl:=GX b cs.size t) (cO.bW _ _ _) rfl (λ_=>rfl) (λh=>by omega) (by omega) (.inr ⟨rfl,rfl⟩) (.inl rfl)
 ·obtain⟨d,g,I,L,K,H,G⟩:=i.U5 (e:=e) q c o z x j A D
  grind[sV]
section
variable {H:Type} {enc:TypeId×Value->H} {held:Bool}
theorem SH{a:Addr}(b:w.cell? a=some v):a.spot=none/\∃cs t c,w.heap[a.block]?=some (.cells cs t c)/\cs[a.off]?=some v:=by
 unfold World.cell? at b;split at b
 all_goals simp_all
theorem pick{a:Type}{p:Nat->a->Prop}:∀n,(∀i,i<n->∃q,p i q)->∃l:List a,l.length=n/\∀i q,l[i]?=some q->p i q
 |0,_=>⟨[],rfl,λi q b=>by grind⟩
 |n+1,c=>by
  obtain⟨l,d,f⟩:=pick n λi b=>c i (by omega);obtain⟨q,e⟩:=c n (by omega);refine⟨l++[q],by simp[d],λi x b=>?_⟩
  grind
theorem rG{e:TypeId}{d:DataW H}{n:Nat}:∀{l:List (DataW H)},d∈l->n∈d.weights P e->n∈DataW.weightsAll P e l
 |[],h,_=>by cases h
 |x::l,h,a=>by
  rw[DataW.weightsAll,mem_append];rcases mem_cons.1 h with rfl|h
  ·grind
  ·exact .inr (rG h a)
theorem EI{t:TypeId}(ht:P.underlying t=some (.slice T))(l:P.cellsOf T=n)(C:0<n){p:List Value->Prop}
  (hp:∀x0 cs y,DataW.trod enc P w 0 (λ_=>true) held x0 T cs=some y->(y.1.weights P T).all (· <=reachBytes)=true->p cs) {E:Nat} {cv:List Value} {x:DataW H×List MemPlace}
  (h:DataW.trod enc P w 0 (λ_=>true) held E t cv=some x) (X:(x.1.weights P t).all (· <=reachBytes)=true):
  ∃v d,cv=[v]/\DP w v n d/\(∀r∈d,p r)/\d.length*P.bytesOf T<=reachBytes:=by
 rcases DataW.trod_slice ht h with⟨rfl,rfl⟩|⟨a,e,f,c,x1,x0,_,rfl,rfl,hb,x3,W,x5,N,G,_⟩
 ·exact⟨_,[],rfl,⟨λ_ g=>absurd g (by simp),.inl ⟨rfl,rfl⟩⟩,λ_ g=>absurd g (by simp),by simp⟩
 obtain⟨x6,G⟩:=G rfl;simp only[DataW.weights,ht,all_cons,and_eq_true,decide_eq_true_eq,all_append,lM]at X;obtain⟨x4,q,x2⟩:=X;have K:f<ca:=by unfold maxLen at W;unfold ca;omega
 have M:∀i,i<e->∃r:List Value,(r.length=n/\p r)/\∀j,j<n->w.cell? (a.add (i*n+j))=r[j]?:=λi F=>by
  have S:=N i F;have V:c[i]?=some c[i]:=gE (by omega);rw[V,l,Option.bind_eq_some_iff]at S;obtain⟨r,z,Z⟩:=S;obtain⟨_,h5,I⟩:=World.cells?_some z;refine⟨r,⟨h5,hp x0 r _ Z ?_⟩,λj J=>?_⟩
  ·rw[all_eq_true]at q⊢;exact λm g=>q m (rG (mem_map.2 ⟨c[i],List.mem_of_getElem? V,rfl⟩) g)
  ·rw[<-I j J,Addr.add_add]
 obtain⟨d,Y,U⟩:=pick e M;have u:∀r∈d,r.length=n/\p r:=λr o=>by
  obtain⟨k,hk⟩:=List.mem_iff_getElem?.1 o;exact(U k r hk).1
 refine⟨_,d,rfl,⟨λr o=>(u r o).1,?_⟩,λr o=>(u r o).2,?_⟩
 ·rcases eq_zero_or_pos f with hz|hz
  ·obtain rfl:d=[]:=eq_nil_of_length_eq_zero (by omega);have:e=0:=by omega
   subst this;subst hz;exact .inr (.inl ⟨a,rfl,rfl⟩)
  ·have h0:∃v,w.cell? a=some v:=by
    have L:a.add (0*n)=a:=by rw[zero_mul];unfold Addr.add;split<;>simp_all
    have fin:∀x,(w.cells? 0 (a.add (0*n)) n).bind (DataW.trod enc P w 0 (λ_=>true) held x0 T)=some x->∃v,w.cell? a=some v:=λx R=>by
     rw[Option.bind_eq_some_iff,L]at R;obtain⟨r,z,Z⟩:=R;obtain⟨_,h5,I⟩:=World.cells?_some z;have:=I 0 C;rw[show a.add 0=a by unfold Addr.add;split<;>simp_all,gE (by omega)]at this;exact⟨_,this⟩
    rcases eq_zero_or_pos e with A|A
    ·have:=G 0 (by omega);rw[A,l,gE (by omega)]at this;exact fin _ this
    ·have:=N 0 A;rw[l,gE (by omega)]at this;exact fin _ this
   obtain⟨v0,Q⟩:=h0;obtain⟨hs,cs,tt,fr,s,B⟩:=SH Q;obtain⟨b,O,D⟩:=a
   cases (show D=none from hs)
   have ho:=(Array.getElem?_eq_some_iff.1 B).1;refine .inr (.inr ⟨b,O,f,cs,tt,fr,by rw[Y],by omega,K,s,le_of_lt ho,λi r F j J=>?_⟩);have:=(U i r F).2 j J;rw[cG,lL s]at this;exact this
 grind
end
end
end Go.Ab
end
section
namespace Go.Ab
open Go Go.RowKit Go.WideShapes Go.ChangeShapes
variable{F:Func}{W:World}{V:Array Value}{v:Value}
section
section
variable {H:Type} {enc:TypeId×Value->H} {P:Program}
theorem TD{s:ChangeSpec}{f o g k:Bool}{e:World}{ds:List (DataW H)}{places:List MemPlace}
  (m:s.vars=[]) (y:DataW.Whole enc P F.params.toList s.vars f W V.toList ds [] places) (A:Below W.heap.size W e)
  (l:(s.fn H (ds++[])).args=ds) (z:(s.fn H (ds++[])).vars=[])
  (i:∀(b:Nat)(a:Nat->Bool)(E:Bool),DataW.TrodAll enc P e b a E F.resultTypes.toList (v.resultList F.resultTypes.size) (s.fn H (ds++[])).results [])
  (B:∀(j:Nat)(t:TypeId)(r:Value),F.resultTypes[j]?=some t->(v.resultList F.resultTypes.size)[j]?=some r->Value.okWide P e .any 0 t r)
  (q:∀a:Nat->Bool,(∀p∈places,a p.block=true)->DataW.TrodAll enc P e 0 a true F.params.toList V.toList ds places):s.post enc P F f o g k W V v e:=by
 have u:∀p∈places,p.block<W.heap.size:=λp c=>y.lt p c;have n:∀p∈places,(λb=>decide (b<W.heap.size)) p.block=true:=λp c=>decide_eq_true (u p c);have x:∀a:Nat->Bool,DataW.TrodVars enc P e a s.vars (s.fn H (ds++[])).vars []:=λa=>by
  rw[m,z];rfl
 have C:=World.keptBut_mono (may':=λp=>p∈places/\(p∈([]:List MemPlace)\/p∈places\/p∈([]:List MemPlace))) (λp c=>⟨c,.inr (.inl c)⟩) (A.frame (· ∈places));obtain⟨_,_,_,_,_,D,G⟩:=id y;have d:∀a:Nat->Bool,(∀p∈places,a p.block=true)->DataW.TrodAll enc P e 0 a true F.params.toList V.toList (s.fn H (ds++[])).args places:=λa h=>by rw[l];exact q a h
 refine⟨ds,[],places,[],places,[],y,i _ _ _,d _ n,x _,C,λ_=>⟨B,_,_,([]++places)++[],⟨[]++places,[],trodAll_append (d _ λ_ _=>rfl) (i _ _ _),x _,rfl,?_,?_⟩,?_⟩⟩
 ·intro b w c;have c:MemPlace.cell b w∈places:=by simpa using c
  rw[A.frozen (u _ c)];exact D b w c
 all_goals grind
end
end
end Go.Ab
end
section
namespace Go.Num
variable{n:Nat}{m:Nat}{k:Nat}
def cp(c:UInt8):Bool:=decide (48<=c.toNat)&&decide (c.toNat<=57)
def uD(c:UInt8):Nat:=c.toNat-48
def val(l:List UInt8):Nat:=l.foldl (λn c=>10*n+uD c) 0
def gm(n:Nat):UInt8:=UInt8.ofNat (48+n)
theorem jJ:val []=0:=rfl
theorem ml(l:List UInt8)(c:UInt8):val (l++[c])=10*val l+uD c:=by simp[val,List.foldl_append]
theorem nu(h:n<10):(gm n).toNat=48+n:=by grind[UInt8.toNat_ofNat',gm]
theorem RV(h:n<10):uD (gm n)=n:=by grind[nu,uD]
theorem HD(h:n<10):cp (gm n)=true:=by grind[nu,cp]
theorem nj{c:UInt8}:cp c=true↔48<=c.toNat/\c.toNat<=57:=by simp[cp]
theorem zT{c:UInt8}(h:cp c=true):uD c<10:=by grind[nj,uD]
theorem HB{c:UInt8}(h:cp c=true):gm (uD c)=c:=by grind[nj,UInt8.toNat_inj,nu,uD]
theorem mc{α:Type}{P:List α->Prop}(h0:P [])(h1:∀l a,P l->P (l++[a]))(l:List α):P l:=by
 have:∀n (l:List α),l.length=n->P l:=by
  intro n
  induction n with
  |zero=>intro l hl;rw[eq_nil_of_length_eq_zero hl];exact h0
  |succ n ih=>
   intro l hl;have hne:l≠[]:=by intro e;subst e;simp at hl
   rw[<-List.dropLast_concat_getLast hne];exact h1 _ _ (ih _ (by simp[hl]))
 grind
theorem Fi(a b:List UInt8):val (a++b)=val a*10^b.length+val b:=by
 induction b using mc with
 |h0=>simp[jJ]
 |h1 b c d=>grind[mul_assoc,mul_comm,val]
theorem HK{l:List UInt8}(h:l.all cp=true):val l<10^l.length:=by
 induction l using mc with
 |h0=>simp[jJ]
 |h1 l c a=>
  simp only[all_append,all_cons,all_nil,Bool.and_true,and_eq_true]at h
  grind[zT,ml]
def aC(n:Nat):List UInt8:=if n<10 then[gm n]else aC (n/10)++[gm (n%10)]
termination_by n
decreasing_by omega
theorem da(h:n<10):aC n=[gm n]:=by rw[aC,if_pos h]
theorem gP(h:10<=n):aC n=aC (n/10)++[gm (n%10)]:=by rw[aC,if_neg (by omega)]
theorem uH(a:0<n)(b:m<10):aC (10*n+m)=aC n++[gm m]:=by grind[gP]
theorem fC(n:Nat):val (aC n)=n:=by
 induction n using Nat.strongRecOn with
 |ind n a=>grind[da,ml,RV,jJ,gP]
theorem yC(h:aC n=aC m):n=m:=by grind[fC]
theorem tB(n:Nat):aC n≠[]:=by
 by_cases h:n<10
 ·grind[da]
 ·rw[gP (by omega)];simp
theorem pW(n:Nat):0<(aC n).length:=length_pos_iff.2 (tB n)
theorem yz(n:Nat):(aC n).all cp=true:=by
 induction n using Nat.strongRecOn with
 |ind n a=>grind[da,HD,gP]
theorem AE(n:Nat):n<10^(aC n).length:=by grind[HK,yz,fC]
theorem AF(h:10<=n):10^((aC n).length-1)<=n:=by
 induction n using Nat.strongRecOn with
 | ind n a=>
  rw[gP h,length_append,List.length_singleton];by_cases c:n/10<10
  ·grind[da]
  ·have d:=a (n/10) (by omega) (by omega);have b:=pW (n/10);obtain⟨k,e⟩:∃k,(aC (n/10)).length=k+1:=⟨(aC (n/10)).length-1,by omega⟩
   grind
theorem gQ(e:0<k):(aC n).length<=k↔n<10^k:=by
 constructor
 ·grind[lt_of_lt_of_le,AE,pow_le_pow_right]
 ·intro h;by_cases b:n<10
  ·grind[da]
  ·have d:=AF (n:=n) (by omega);rcases lt_or_ge k (aC n).length with a|a
   ·have c:10^k<=10^((aC n).length-1):=pow_le_pow_right (by omega) (by omega);omega
   omega
def zS(l:List UInt8):Prop:=l≠[]/\l.all cp=true/\(1<l.length->l.head?≠some 48)
theorem OX{l:List UInt8}(a:l.all cp=true)(h0:l≠[])(h:l.head?≠some 48):0<val l:=by
 induction l using mc with
 |h0=>grind
 | h1 l c d=>
  simp only[all_append,all_cons,all_nil,Bool.and_true,and_eq_true]at a;rw[ml];by_cases b:l=[]
  ·subst b;have f:c≠48:=by intro e;subst e;simp at h
   have i:=nj.1 a.2;have g:c.toNat≠48:=λe=>f (by apply UInt8.toNat_inj.1;rw[e];rfl)
   grind[uD]
  ·have:=d a.1 b (by grind);omega
theorem HH{l:List UInt8}(h:zS l):aC (val l)=l:=by
 induction l using mc with
 |h0=>exact absurd rfl h.1
 | h1 l c f=>
  obtain⟨_,b,g⟩:=h;simp only[all_append,all_cons,all_nil,Bool.and_true,and_eq_true]at b;rw[ml];by_cases d:l=[]
  ·grind[jJ,da,zT,HB]
  ·have e:l.head?≠some 48:=by
    have:=g (by grind[length_pos_iff])
    cases l with
    |nil=>grind
    |cons a l=>grind
   have i:=OX b.1 d e;rw[uH i (zT b.2),f ⟨d,b.1,λ_=>e⟩,HB b.2]
theorem C2(n:Nat):zS (aC n):=by
 refine⟨tB n,yz n,?_⟩
 induction n using Nat.strongRecOn with
 | ind n d=>
  intro c;by_cases h:n<10
  ·grind[da]
  ·rw[gP (by omega)];by_cases a:n/10<10
   ·rw[da a];simp only[cons_append,List.head?_cons,ne_eq,Option.some.injEq];intro e;have:=congrArg UInt8.toNat e;rw[nu a]at this;have b:(48:UInt8).toNat=48:=rfl;omega
   grind[aC]
def aK(l:List UInt8):Bool:= !l.isEmpty&&decide (l.length<=1000) && !(decide (1<l.length)&&l.head? == some 48)&&l.all cp
theorem kJ{l:List UInt8}:aK l=true↔zS l/\l.length<=1000:=by
 unfold aK zS
 grind
theorem sN:aK (aC n)=true↔n<10^1000:=by grind[kJ,gQ,C2]
theorem mn{l:List UInt8}(h:aK l=true):∃n,l=aC n/\n<10^1000/\val l=n:=by grind[kJ,HH,sN]
def bv(b:Nat):List Nat->Nat
 |[]=>0
 |d::l=>d+b*bv b l
theorem eI(b:Nat):∀x y:List Nat,bv b (x++y)=bv b x+b^x.length*bv b y
 |[],y=>by simp[bv]
 |d::x,y=>by
  simp only[cons_append,bv,eI b x y,length_cons,pow_succ]
  grind
theorem nV(b:Nat)(x:List Nat)(d:Nat):bv b (x++[d])=bv b x+b^x.length*d:=by grind[eI,bv]
theorem dU{b:Nat}:∀{x:List Nat},(∀d∈x,d<b)->bv b x<b^x.length
 |[],_=>by simp[bv]
 | d::x,h=>by
  have a:=dU (b:=b) (x:=x) λe c=>h e (by simp[c]);have f:=h d (by simp);simp only[bv,length_cons,pow_succ];have:b*bv b x+b<=b*b^x.length:=by
   have:=mul_le_mul_left b (succ_le_of_lt a);rw[mul_succ]at this;exact this
  grind
def aG(b n:Nat):List Nat:=if h:1<b/\0<n then n%b::aG b (n/b)else[]
termination_by n
decreasing_by exact div_lt_self h.2 h.1
theorem ej(b:Nat):aG b 0=[]:=by simp_all[aG]
theorem jI{b:Nat}(a:1<b)(c:0<n):aG b n=n%b::aG b (n/b):=by rw[aG,dif_pos ⟨a,c⟩]
theorem bJ{b:Nat}(a:1<b)(n:Nat):bv b (aG b n)=n:=by
 induction n using Nat.strongRecOn with
 |ind n c=>
  rcases eq_zero_or_pos n with rfl|hn
  all_goals grind[ej,jI,div_lt_self,mod_add_div,bv]
theorem cz{b:Nat}(a:1<b)(n:Nat):∀d∈aG b n,d<b:=by
 induction n using Nat.strongRecOn with
 |ind n c=>grind[eq_zero_or_pos,ej,jI,mod_lt,div_lt_self]
def KH(b:Nat)(l:List Nat):Prop:=(∀d∈l,d<b)/\l.getLast?≠some 0
theorem KP{b:Nat}(a:1<b)(n:Nat):KH b (aG b n):=by
 refine⟨cz a n,?_⟩
 induction n using Nat.strongRecOn with
 | ind n d=>
  rcases eq_zero_or_pos n with rfl|hn
  ·grind[ej]
  ·rw[jI a hn];by_cases c:n/b=0
   ·rw[c,ej];have:n<b:=by
     rcases lt_or_ge n b with h|h
     ·exact h
     ·have:=Nat.div_pos h (by omega);omega
    simp[mod_eq_of_lt this];omega
   grind[div_lt_self,jI]
theorem HF{b:Nat}(g:1<b):∀{l:List Nat},KH b l->aG b (bv b l)=l
 |[],_=>ej b
 | d::l,h=>by
  have j:d<b:=h.1 d (by simp);have m:0<bv b (d::l):=by
   have i:∀l:List Nat,l≠[]->l.getLast?≠some 0->0<bv b l:=by
    intro l
    induction l with
    |nil=>grind
    |cons a l k=>
     intro _ n;by_cases f:l=[]
     ·grind[bv]
     ·have:0<bv b l:=k f (by grind);simp only[bv];have:=Nat.mul_pos (show 0<b by omega) this;omega
   exact i _ (by simp) h.2
  have f:KH b l:=⟨λe o=>h.1 e (by grind),by
   intro e
   cases l with
   |nil=>grind
   |cons c l=>exact h.2 (by grind)⟩
  rw[jI g m];simp only[bv];rw[show(d+b*bv b l)%b=d by rw[Nat.add_mul_mod_self_left,mod_eq_of_lt j],show(d+b*bv b l)/b=bv b l by rw[Nat.add_mul_div_left _ _ (by omega),div_eq_of_lt j,zero_add],HF g f]
def cP(l:List Nat):List Nat:=(l.reverse.dropWhile (· == 0)).reverse
theorem HJ:cP []=[]:=rfl
theorem gr(l:List Nat):cP (l++[0])=cP l:=by simp[cP]
theorem hW(l:List Nat){d:Nat}(h:d≠0):cP (l++[d])=l++[d]:=by simp[cP,h]
theorem iI{b:Nat}(c:1<b){l:List Nat}(h:∀d∈l,d<b):cP l=aG b (bv b l):=by
 induction l using mc with
 |h0=>rw[HJ];exact(ej b).symm
 | h1 l d e=>
  by_cases a:d=0
  ·subst a
   grind[gr,nV]
  ·rw[hW l a,HF c];exact⟨h,by grind⟩
theorem fH{b:Nat}(a:1<b):aG b n=[]↔n=0:=by
 constructor
 ·intro h;have:=bJ a n;rw[h]at this;exact this.symm
 simp_all[ej]
theorem jh{b:Nat}(a:1<b){n k:Nat}(h:n<b^k):(aG b n).length<=k:=by
 induction k generalizing n with
 |zero=>rw[Nat.pow_zero]at h;grind[ej]
 |succ k c=>grind[jI,div_lt_of_lt_mul]
theorem pT{b:Nat}(c:1<b){n:Nat}(d:0<n):b^((aG b n).length-1)<=n:=by
 induction n using Nat.strongRecOn with
 | ind n f=>
  rw[jI c d,length_cons,add_sub_cancel];by_cases e:n/b=0
  ·rw[e,ej];simp;omega
  ·have a:=f (n/b) (div_lt_self d c) (Nat.pos_of_ne_zero e);have i:0<(aG b (n/b)).length:=length_pos_iff.2 (by simp_all[fH]);obtain⟨k,g⟩:∃k,(aG b (n/b)).length=k+1:=⟨(aG b (n/b)).length-1,by omega⟩
   rw[g]at a⊢;rw[add_sub_cancel]at a;rw[pow_succ];have h:=mul_le_mul_right b a;have j:=Nat.div_mul_le_self n b;omega
variable{x:List Nat}{i:Nat}{j:Nat}{l:Nat}
theorem eG(b:Nat)(x:List Nat)(i:Nat):bv b (x.drop i)=x.getD i 0+b*bv b (x.drop (i+1)):=by grind[List.drop_eq_getElem_cons,drop_eq_nil_of_le,bv]
theorem bp{b:Nat}(c:0<b)(h:∀d∈x,d<b)(i:Nat):x.getD i 0<b:=by
 rw[gD]
 cases a:x[i]? with
 |none=>grind
 |some d=>exact h d (List.mem_of_getElem? a)
def bq(F:Nat->Nat->Nat->Nat×Nat)(x y:List Nat):Nat->Nat->Nat->List Nat
 |_,0,_=>[]
 |i,k+1,c=>(F (x.getD i 0) (y.getD i 0) c).1::bq F x y (i+1) k (F (x.getD i 0) (y.getD i 0) c).2
theorem jH{b:Nat}{F:Nat->Nat->Nat->Nat×Nat}(h:∀p q c,(F p q c).1<b)(x y:List Nat):∀k i c,∀d∈bq F x y i k c,d<b
 |0,_,_=>by simp[bq]
 |k+1,i,c=>by
  intro d a;rcases mem_cons.1 a with rfl|a
  ·grind
  ·exact jH h x y k _ _ d a
def aP(b:Nat)(p q c:Nat):Nat×Nat:=((p+q+c)%b,(p+q+c)/b)
theorem DM{b:Nat}(l:1<b){x y:List Nat}(e:∀d∈x,d<b)(g:∀d∈y,d<b):∀k i c,x.length<i+k->y.length<i+k->c<=1->0<k->
  bv b (bq (aP b) x y i k c)=bv b (x.drop i)+bv b (y.drop i)+c:=by
 intro k
 induction k with
 |zero=>omega
 | succ k o=>
  intro i c n p s _;have q:=bp (by omega) e i;have j:=bp (by omega) g i;rw[eG b x i,eG b y i];simp only[bq,bv];have m:=mod_add_div (x.getD i 0+y.getD i 0+c) b;have h:(aP b (x.getD i 0) (y.getD i 0) c).2<=1:=by
   show(x.getD i 0+y.getD i 0+c)/b<=1;have:(x.getD i 0+y.getD i 0+c)/b<2:=div_lt_of_lt_mul (by omega);omega
  rcases eq_zero_or_pos k with rfl|r
  ·rw[drop_eq_nil_of_le (show x.length<=i+1 by omega),drop_eq_nil_of_le (show y.length<=i+1 by omega)];have a:x.getD i 0=0:=by rw[gD,getElem?_eq_none (by omega)];rfl
   have f:y.getD i 0=0:=by rw[gD,getElem?_eq_none (by omega)];rfl
   simp only[bq,bv,aP,a,f,zero_add,mul_zero,add_zero];exact mod_eq_of_lt (by omega)
  grind[aP]
def bV(b m:Nat)(p a c:Nat):Nat×Nat:=((p*m+c)%b,(p*m+c)/b)
theorem KM{b:Nat}(l:1<b)(m:n<=b)(g:0<n){x y:List Nat}(e:∀d∈x,d<b):∀k i c,x.length<i+k->c<n->0<k->
  bv b (bq (bV b n) x y i k c)=bv b (x.drop i)*n+c:=by
 intro k
 induction k with
 |zero=>omega
 | succ k p=>
  intro i c o r _;have f:=bp (by omega) e i;rw[eG b x i];simp only[bq,bv];have h:=mod_add_div (x.getD i 0*n+c) b;have j:(bV b n (x.getD i 0) (y.getD i 0) c).2<n:=by
   show(x.getD i 0*n+c)/b<n;refine div_lt_of_lt_mul ?_;have:x.getD i 0*n+n<=b*n:=by
    have:=mul_le_mul_right n (succ_le_of_lt f);rw[succ_mul]at this;exact this
   omega
  rcases eq_zero_or_pos k with rfl|q
  ·rw[drop_eq_nil_of_le (show x.length<=i+1 by omega)];have a:x.getD i 0=0:=by rw[gD,getElem?_eq_none (by omega)];rfl
   simp only[bq,bv,bV,a,zero_mul,zero_add,mul_zero,add_zero];exact mod_eq_of_lt (by omega)
  grind[bV]
def bB(b:Nat)(p q c:Nat):Nat×Nat:=((p+b-q-c)%b,1-(p+b-q-c)/b)
theorem oH{b p q c:Nat}(a:1<b)(f:p<b)(d:q<b)(g:c<=1):p+b*(bB b p q c).2=(bB b p q c).1+q+c/\(bB b p q c).2<=1:=by
 unfold bB;dsimp only;rcases lt_or_ge (p+b-q-c) b with h|h
 ·grind[div_eq_of_lt,mod_eq_of_lt]
 ·have e:(p+b-q-c)/b=1:=by
   refine Nat.le_antisymm ?_ ((Nat.le_div_iff_mul_le (by omega)).2 (by omega));have:(p+b-q-c)/b<2:=div_lt_of_lt_mul (by omega);omega
  grind[mod_add_div]
theorem KL{b:Nat}(e:1<b){x y:List Nat}(j:∀d∈x,d<b)(n:∀d∈y,d<b):∀k i c,x.length<=i+k->y.length<=i+k->c<=1->bv b (y.drop i)+c<=bv b (x.drop i)->
  bv b (bq (bB b) x y i k c)+bv b (y.drop i)+c=bv b (x.drop i):=by
 intro k
 induction k with
 |zero=>grind[drop_eq_nil_of_le,bv,bq]
 | succ k r=>
  intro i c q s m h;have l:=bp (by omega) j i;have a:=bp (by omega) n i;obtain⟨u,t⟩:=oH e l a m;rw[eG b x i,eG b y i]at h⊢;simp only[bq,bv];have o:(bB b (x.getD i 0) (y.getD i 0) c).1<b:=mod_lt _ (by omega);have p:bv b (y.drop (i+1))+(bB b (x.getD i 0) (y.getD i 0) c).2<=bv b (x.drop (i+1)):=by
   rcases lt_or_ge (bv b (x.drop (i+1))) (bv b (y.drop (i+1))+(bB b (x.getD i 0) (y.getD i 0) c).2)with g|g
   ·have f:=mul_le_mul_left b (succ_le_of_lt g);rw[mul_succ,mul_add]at f;omega
   ·exact g
  grind
theorem HI{b a U V c d:Nat}(t:U=(a*n+b)*n^m+c)(q:c<n^m)(f:V=(i*n+j)*n^m+d)(p:k*i+l=a)(h:l*n+b<k*j):U<k*V:=by
 have g:a*n+b+1<=k*(i*n+j):=by
  have e:k*(i*n+j)=k*i*n+k*j:=by rw[mul_add,mul_assoc]
  have s:a*n=k*i*n+l*n:=by rw[<-p,add_mul]
  omega
 have o:=mul_le_mul_right (n^m) g;rw[add_mul,one_mul]at o;have r:k*V=k*(i*n+j)*n^m+k*d:=by rw[f,mul_add,mul_assoc]
 omega
theorem Fh{c a U V g b:Nat}(y:U=(a*n+c)*n^m+g)(o:V=(i*n+j)*n^m+b)(d:b<n^m)(r:k*i+l=a)(q:k<n)(f:0<i)(h:k*j<=l*n+c):k*V<U+V:=by
 have p:k*(i*n+j)<=a*n+c:=by
  have e:k*(i*n+j)=k*i*n+k*j:=by rw[mul_add,mul_assoc]
  have v:a*n=k*i*n+l*n:=by rw[<-r,add_mul]
  omega
 have t:=mul_le_mul_right (n^m) p;have s:k*V=k*(i*n+j)*n^m+k*b:=by rw[o,mul_add,mul_assoc]
 have u:k*b<=k*n^m:=mul_le_mul_left k (le_of_lt d);have x:k*n^m+n^m<=n*n^m:=by
  have:=mul_le_mul_right (n^m) (succ_le_of_lt q);rw[succ_mul]at this;exact this
 have w:n*n^m<=i*n*n^m:=by
  have:=mul_le_mul_right (n*n^m) (succ_le_of_lt f);rw[Nat.succ_eq_add_one,zero_add,one_mul,<-mul_assoc]at this;exact this
 grind
def ic(B q u v b a:Nat):Nat×Nat×Nat:=((u+B-(q*v+a)%B-b)%B,1-(u+B-(q*v+a)%B-b)/B,(q*v+a)/B)
theorem KO{B q u v borrow carry:Nat}(d:1<B)(e:u<B)(a:borrow<=1):
  u+B*((ic B q u v borrow carry).2.1+(ic B q u v borrow carry).2.2)=(ic B q u v borrow carry).1+q*v+(borrow+carry)/\(ic B q u v borrow carry).2.1<=1/\(ic B q u v borrow carry).1<B:=by
 have f:=mod_lt (q*v+carry) (show 0<B by omega);have g:=mod_add_div (q*v+carry) B;have h:=oH (b:=B) (p:=u) (q:=(q*v+carry)%B) (c:=borrow) d e f a;unfold bB at h;dsimp only at h;unfold ic;dsimp only;refine⟨?_,h.2,mod_lt _ (by omega)⟩
 grind
def eD(m n:Nat):Int:=if m<n then -1 else if m=n then 0 else 1
theorem ma(h:n<m):eD n m = -1:=if_pos h
theorem l9(h:m<n):eD n m=1:=by unfold eD;omega
theorem rJ(m:Nat):eD m m=0:=by simp_all[eD]
theorem tA:eD n m<0↔n<m:=by grind[eD]
theorem gN(F:Nat->Nat->Nat->Nat×Nat)(x y:List Nat):∀k i c,(bq F x y i k c).length=k
 |0,_,_=>rfl
 |k+1,i,c=>by simp[bq,gN F x y k]
theorem Fg:aC 0=[48]:=by rw[da (by omega)];rfl
theorem HG:aC 1=[49]:=by rw[da (by omega)];rfl
theorem pV:aC n=[48]↔n=0:=by grind[Fg,yC]
theorem qw:aC n=[49]↔n=1:=by grind[HG,yC]
theorem zC{l:List UInt8}{c:UInt8}(h:l[i]?=some c):val (l.take (i+1))=10*val (l.take i)+uD c:=by grind[List.take_succ_eq_append_getElem,ml]
def bt(B q:Nat)(u v:List Nat):Nat->Nat->Nat->Nat->List Nat×Nat×Nat
 |_,0,b,c=>([],b,c)
 |i,k+1,b,c=>
  let s:=ic B q (u.getD i 0) (v.getD i 0) b c
  let r:=bt B q u v (i+1) k s.2.1 s.2.2
  (s.1::r.1,r.2)
theorem oJ(B q:Nat)(u v:List Nat):∀k i b c,(bt B q u v i k b c).1.length=k
 |0,_,_,_=>rfl
 |k+1,i,b,c=>by simp[bt,oJ B q u v k]
theorem rK{B q:Nat}(e:1<B)(u v:List Nat):∀k i b c,∀d∈(bt B q u v i k b c).1,d<B
 |0,_,_,_=>by simp[bt]
 |k+1,i,b,c=>by
  intro d a;simp only[bt]at a;rcases mem_cons.1 a with rfl|a
  ·exact mod_lt _ (by omega)
  ·exact rK e u v k _ _ _ d a
theorem qp(b:Nat)(x:List Nat)(i k:Nat):bv b ((x.drop i).take (k+1))=x.getD i 0+b*bv b ((x.drop (i+1)).take k):=by grind[List.drop_eq_getElem_cons,drop_eq_nil_of_le,bv]
theorem wH{B q:Nat}(e:1<B){u v:List Nat}(f:∀d∈u,d<B):∀k i b c,b<=1->
  bv B ((u.drop i).take k)+B^k*((bt B q u v i k b c).2.1+(bt B q u v i k b c).2.2)=bv B (bt B q u v i k b c).1+q*bv B ((v.drop i).take k)+(b+c)/\(bt B q u v i k b c).2.1<=1
 |0,i,b,c,a=>by grind[bt,bv]
 |k+1,i,b,c,a=>by
  obtain⟨m,g,j⟩:=KO (B:=B) (q:=q) (u:=u.getD i 0) (v:=v.getD i 0) (borrow:=b) (carry:=c) e (bp (by omega) f i) a;obtain⟨l,h⟩:=wH e (q:=q) (v:=v) f k (i+1) _ (ic B q (u.getD i 0) (v.getD i 0) b c).2.2 g;rw[qp,qp];simp only[bt,bv]
  grind
theorem zx{l:List Nat}(h:l.length=m):bv n (l.take m)=bv n l:=by grind
theorem HC{q:Nat}(f:1<n){u v:List Nat}{a:Nat}(g:∀d∈u,d<n)(c:u.length=a+1)(j:v.length=a):
  (bt n q u v 0 (a+1) 0 0).2.2=0->((bt n q u v 0 (a+1) 0 0).2.1=0->bv n u=bv n (bt n q u v 0 (a+1) 0 0).1+q*bv n v)/\
  ((bt n q u v 0 (a+1) 0 0).2.1≠0->bv n u+n^(a+1)=bv n (bt n q u v 0 (a+1) 0 0).1+q*bv n v/\bv n u<q*bv n v):=by
 intro i;obtain⟨e,k⟩:=wH f (q:=q) (v:=v) g (a+1) 0 0 0 (by omega);rw[drop_zero,drop_zero,zx c,take_of_length_le (by omega:v.length<=a+1),i]at e;refine⟨λh=>?_,λh=>?_⟩
 ·grind
 ·have b:(bt n q u v 0 (a+1) 0 0).2.1=1:=by omega
  rw[b,mul_one]at e
  grind[dU,rK,oJ]
theorem uG{B q:Nat}(e:1<B){u v:List Nat}(g:q<B)(a:∀d∈v,d<B):∀k i b c,c<B->v.length<=i+k->0<k->v.length<i+k->(bt B q u v i k b c).2.2=0
 |0,_,_,_,_,_,h,_=>by omega
 |1,i,b,c,j,_,_,f=>by
  simp only[bt,ic];have:v.getD i 0=0:=by rw[gD,getElem?_eq_none (by omega)];rfl
  simp_all
 | k+2,i,b,c,j,_,_,f=>by
  have m:=bp (by omega) a i;simp only[bt];have:=uG e (u:=u) g a (k+1) (i+1) (ic B q (u.getD i 0) (v.getD i 0) b c).2.1 (ic B q (u.getD i 0) (v.getD i 0) b c).2.2 (by
   show(q*v.getD i 0+c)/B<B;refine div_lt_of_lt_mul ?_;have l:q*v.getD i 0<=(B-1)*(B-1):=mul_le_mul (by omega) (by omega);have n:(B-1)*(B-1)+(B-1)=(B-1)*B:=by rw[<-mul_succ];congr 1;omega
   have o:(B-1)*B+B=B*B:=by rw[<-succ_mul];congr 1;omega
   omega) (by omega) (by omega) (by omega)
  grind[bt]
theorem KI(s:1<n){u v:List Nat}{a Q V U:Nat}(m:∀d∈u,d<n)(l:∀d∈v,d<n)(r:u.length=a+1)(o:v.length=a)(w:U+n^(a+1)=bv n u+(Q+1)*V)(B:U<(Q+1)*V)(t:(Q+1)*V<U+V)(E:V=bv n v):
  bv n ((bq (aP n) u v 0 (a+1) 0))+Q*V=U:=by
 have e:=DM s (x:=u) (y:=v) m l (a+2) 0 0 (by omega) (by omega) (by omega) (by omega);simp only[drop_zero,add_zero]at e;have split:∀k i c,bq (aP n) u v i (k+1) c=bq (aP n) u v i k c++(bq (aP n) u v i (k+1) c).drop k:=by
  intro k
  induction k with
  |zero=>intro i c;simp[bq]
  |succ k A=>
   intro i c;have:=A (i+1) (aP n (u.getD i 0) (v.getD i 0) c).2;show _::bq (aP n) u v (i+1) (k+1) _=(_::bq (aP n) u v (i+1) k _)++(_::bq (aP n) u v (i+1) (k+1) _).drop (k+1);rw[cons_append,List.drop_succ_cons];exact congrArg _ this
 rw[split (a+1) 0 0,eI,gN]at e;have j:=dU (jH (b:=n) (F:=aP n) (λp q c=>mod_lt _ (by omega)) u v (a+1) 0 0);rw[gN]at j;rw[add_mul,one_mul]at w B t;have g:=dU m;rw[r]at g;have h:=dU l;rw[o]at h;have C:n^a<=n^(a+1):=pow_le_pow_right (by omega) (by omega);have D:bv n ((bq (aP n) u v 0 (a+1+1) 0).drop (a+1))=1:=by
  generalize bv n ((bq (aP n) u v 0 (a+1+1) 0).drop (a+1))=z at e;rcases Nat.lt_trichotomy z 1 with f|f|f
  ·have:z=0:=by omega
   subst this;rw[mul_zero]at e;omega
  ·exact f
  ·have:=mul_le_mul_left (n^(a+1)) f;rw[mul_succ,mul_one]at this;omega
 grind
variable{y:List Nat}
theorem Ay{B:Nat}:∀(l:List Nat)(i d:Nat),i<l.length->bv B (l.set i d)+B^i*l.getD i 0=bv B l+B^i*d
 |[],i,d,h=>by grind
 |a::l,0,d,_=>by grind[bv]
 |a::l,i+1,d,h=>by
  have b:=congrArg (B*·) (Ay (B:=B) l i d (by simpa using h))
  grind[bv]
theorem HE{l:List Nat}(h:∀d∈l,d<n){i d:Nat}(b:d<n):∀x∈l.set i d,x<n:=λx a=>by grind
theorem ni(_:1<n):∀{l:List Nat},bv n l<n^m->bv n (l.drop m)=0
 | l,h=>by
  rcases lt_or_ge m l.length with a|a
  ·have e:=eI n (l.take m) (l.drop m);rw[take_append_drop,length_take,min_eq_left (by omega)]at e;rcases eq_zero_or_pos (bv n (l.drop m))with b|b
   ·omega
   ·have:=mul_le_mul_left (n^m) b;omega
  ·rw[drop_eq_nil_of_le a];rfl
theorem tz(B:Nat)(l:List Nat)(n:Nat):bv B l=bv B (l.take n)+B^(min n l.length)*bv B (l.drop n):=by grind[eI,take_append_drop]
structure fW(B n V XK:Nat)(u q:List Nat)(j:Nat):Prop where
 ul:∀d∈u,d<B
 ql:∀d∈q,d<B
 len:u.length=q.length+n
 jle:j<=q.length
 lo:bv B (u.drop j)<V
 eq:XK=bv B u+V*bv B q
 qz:∀i,i<j->q.getD i 0=0
theorem fW.Hn(b:1<n)(a:k<=n^m)(h:fW n m k i x y (j+1)):
  bv n ((x.drop j).take (m+1))=bv n (x.drop j)/\bv n ((x.drop j).take (m+1))<n*k/\((x.drop j).take (m+1)).length=m+1:=by
 have e:=h.len;have o:=h.jle;have f:bv n (x.drop j)=x.getD j 0+n*bv n (x.drop (j+1)):=eG n x j;have g:=bp (by omega) h.ul j;have c:=h.lo;have d:bv n (x.drop j)<n*k:=by
  have:=mul_le_mul_left n (succ_le_of_lt c);rw[mul_succ]at this;omega
 have p:bv n ((x.drop j).drop (m+1))=0:=by
  refine ni b (lt_of_lt_of_le d ?_);rw[pow_succ,mul_comm];exact mul_le_mul_right n a
 have l:=tz n (x.drop j) (m+1)
 grind
theorem fW.step{q w:List Nat}{at':Nat}(g:1<n)(d:k<=n^m)(h:fW n m k j y q (at'+1))(B:∀x∈w,x<n)(z:w.length=m+1)(u:l<n)
  (r:bv n ((y.drop at').take (m+1))=bv n w+l*k) (v:bv n w<k):fW n m k j (y.take at'++w++y.drop (at'+(m+1))) (q.set at' l) at':=by
 have A:=h.len;have D:=h.jle;obtain⟨e,s,E⟩:=h.Hn g d;have p:bv n (y.drop (at'+(m+1)))=0:=by
  rw[<-drop_drop];refine ni g ?_;rw[<-e];refine lt_of_lt_of_le s ?_;rw[pow_succ,mul_comm];exact mul_le_mul_right n d
 have c:(y.take at').length=at':=by rw[length_take];omega
 have b:(y.take at'++w++y.drop (at'+(m+1))).drop at'=w++y.drop (at'+(m+1)):=by
  rw[append_assoc,List.drop_append_of_le_length (by omega),drop_of_length_le (by omega),nil_append]
 refine⟨?_,HE h.ql u,?_,by grind,?_,?_,?_⟩
 ·intro x a;simp only[mem_append]at a;rcases a with(a|a)|a
  ·exact h.ul x (mem_of_mem_take a)
  ·grind
  ·exact h.ul x (List.mem_of_mem_drop a)
 ·grind
 ·rw[b,eI,p,mul_zero,add_zero];omega
 ·have f:=eI n (y.take at') (y.drop at');rw[take_append_drop,c,<-e,r]at f;have t:bv n (y.take at'++w++y.drop (at'+(m+1)))=bv n (y.take at')+n^at'*bv n w:=by
   rw[append_assoc,eI,eI,p,c,mul_zero,add_zero]
  have o:=Ay (B:=n) q at' l (by omega);rw[h.qz at' (by omega),mul_zero,add_zero]at o;rw[h.eq,f,t,o,mul_add,mul_add]
  grind
 ·intro i C;have:=h.qz i (by omega)
  grind
theorem fW.done(h:fW n m k i x y 0):bv n y=i/k/\bv n x=i%k:=by
 have a:=h.lo;rw[drop_zero]at a;rw[h.eq]
 grind[Nat.mul_add_div,div_eq_of_lt,Nat.mul_add_mod,mod_eq_of_lt]
theorem fW.start{X Y:Nat}(u:1<n)(h:∀d∈x,d<n)(s:x.length=l+1)(t:m<=l)(o:X<n^l)(c:n^(m-1)<=Y)(r:0<m)(p:0<k)(b:bv n x=X*k):fW n m (Y*k) (X*k) x (List.replicate (l+1-m) 0) (l+1-m):=by
 refine⟨h,λd q=>by rw[(List.mem_replicate.1 q).2];omega,by rw[length_replicate];omega,by rw[length_replicate];exact Nat.le_refl _,?_,?_,λi y=>?_⟩
 ·have f:=tz n x (l+1-m);rw[b,min_eq_left (by omega)]at f;rcases lt_or_ge (bv n (x.drop (l+1-m))) (Y*k)with a|a
  ·exact a
  ·have v:=mul_le_mul_left (n^(l+1-m)) a;have w:n^l*k<=n^(l+1-m)*(Y*k):=by
    have e:n^l=n^(l+1-m)*n^(m-1):=by rw[<-Nat.pow_add];congr 1;omega
    rw[e,mul_assoc];exact mul_le_mul_left _ (mul_le_mul_right k c)
   have z:X*k<n^l*k:=Nat.mul_lt_mul_of_pos_right o p;omega
 ·have:bv n (List.replicate (l+1-m) 0)=0:=by
   induction (l+1-m)with
   |zero=>rfl
   |succ j g=>rw[List.replicate_succ,bv,g];rfl
  rw[this,b,mul_zero,add_zero]
 grind
theorem zy{X Y:Nat}(a:0<k):X*k/(Y*k)=X/Y/\X*k%(Y*k)=X%Y*k:=
 by grind[Nat.mul_div_mul_right,Nat.mul_mod_mul_right]
theorem C4{B left a:Nat}(c:0<k)(b:left<k)(d:a<B):(left*B+a)/k<B/\(left*B+a)%k<k/\(left*B+a)/k*k+(left*B+a)%k=left*B+a:=by
 refine⟨div_lt_of_lt_mul ?_,mod_lt _ c,by rw[mul_comm];exact Nat.div_add_mod _ _⟩;have:=mul_le_mul_right B (succ_le_of_lt b)
 grind
structure iH(B k R:Nat)(r:List Nat)(j left:Nat):Prop where
 rl:∀d∈r,d<B
 jle:j<=r.length
 lt:left<k
 eq:bv B (r.drop j)*k*B^j+left*B^j+bv B (r.take j)=R
theorem iH.step{at' left:Nat}(d:0<k)(h:iH n k m x (at'+1) left):iH n k m (x.set at' ((left*n+x.getD at' 0)/k)) at' ((left*n+x.getD at' 0)%k):=by
 have g:=h.jle;have b:0<n:=by
  have:=h.rl (x.getD at' 0) (by
   rw[gD,gE (by omega)];exact getElem_mem _)
  omega
 obtain⟨e,c,f⟩:=C4 (B:=n) d h.lt (bp b h.rl at');refine⟨HE h.rl e,by rw[length_set];omega,c,?_⟩;rw[List.take_set_of_le (by omega),eG,List.drop_set_of_lt (by omega)];have a:(x.set at' ((left*n+x.getD at' 0)/k)).getD at' 0=(left*n+x.getD at' 0)/k:=by
  rw[gD,List.getElem?_set_self (by omega)];rfl
 rw[a,<-h.eq]
 grind[List.take_succ_eq_append_getElem,nV]
theorem iH.done{left:Nat}(a:0<k)(h:iH n k m x 0 left):bv n x=m/k:=by
 have e:=h.eq;simp only[drop_zero,Nat.pow_zero,mul_one,take_zero,bv,add_zero]at e;rw[<-e,mul_comm,Nat.mul_add_div a,div_eq_of_lt h.lt];rfl
section
theorem lJ(B:Nat)(l:List Nat)(i:Nat)(h:i<=l.length):bv B l=bv B (l.take i)+B^i*bv B (l.drop i):=by grind[tz]
theorem je{B:Nat}{l:List Nat}(h:l.length=i+1):bv B (l.drop i)=l.getD i 0:=by
 rw[eG,drop_eq_nil_of_le (by omega)];rfl
theorem il{B:Nat}{l:List Nat}(h:l.length=i+2):bv B (l.drop i)=l.getD (i+1) 0*B+l.getD i 0:=by grind[eG,je]
theorem pS{B:Nat}{l:List Nat}(h:l.length=i+3):bv B (l.drop i)=(l.getD (i+2) 0*B+l.getD (i+1) 0)*B+l.getD i 0:=by grind[eG,il]
structure fG(B n:Nat)(u v:List Nat)(q rest:Nat):Prop where
 eq:q*v.getD (n-1) 0+rest=u.getD n 0*B+u.getD (n-1) 0
 hi:bv B u<(q+1)*bv B v
section
variable {B n:Nat} {u v:List Nat} {q rest:Nat}
theorem fG.start(s:1<B)(q:u.length=n+1)(p:v.length=n)(r:0<n)(k:∀d∈u,d<B)(g:0<v.getD (n-1) 0):fG B n u v ((u.getD n 0*B+u.getD (n-1) 0)/v.getD (n-1) 0) ((u.getD n 0*B+u.getD (n-1) 0)%v.getD (n-1) 0):=by
 refine⟨by rw[mul_comm];exact Nat.div_add_mod _ _,?_⟩;have e:=lJ B u (n-1) (by omega);have f:=lJ B v (n-1) (by omega);have h:bv B (u.drop (n-1))=u.getD n 0*B+u.getD (n-1) 0:=by
  have:=il (B:=B) (l:=u) (i:=n-1) (by omega);rwa[show n-1+1=n by omega]at this
 rw[je (by omega)]at f;rw[h]at e;rw[e,f];have j:=dU (b:=B) (x:=u.take (n-1)) (λd o=>k d (mem_of_mem_take o));rw[length_take,min_eq_left (by omega)]at j;generalize u.getD n 0*B+u.getD (n-1) 0=a;generalize v.getD (n-1) 0=c at g⊢;have m:a<(a/c+1)*c:=by
  have:=Nat.div_add_mod a c;have:=mod_lt a g;rw[add_mul,one_mul,mul_comm];omega
 have t:=mul_le_mul_left (B^(n-1)) (succ_le_of_lt m)
 grind
theorem fG.lower(b:bv B u<q*bv B v)(h:fG B n u v q rest):fG B n u v (q-1) (rest+v.getD (n-1) 0):=by
 have c:0<q:=by
  rcases eq_zero_or_pos q with a|a
  ·subst a;rw[zero_mul]at b;omega
  ·exact a
 obtain⟨p,rfl⟩:∃p,q=p+1:=⟨q-1,by omega⟩
 refine⟨?_,by simpa using b⟩;have:=h.eq
 grind
theorem fG.ac5(b:bv B u<B*bv B v)(a:B<=q):bv B u<q*bv B v:=lt_of_lt_of_le b (mul_le_mul_right _ a)
theorem fG.second(p:u.length=n+1)(o:v.length=n)(r:1<n)(j:∀d∈u,d<B)(h:fG B n u v q rest)(g:rest*B+u.getD (n-2) 0<q*v.getD (n-2) 0):bv B u<q*bv B v:=by
 have c:=lJ B u (n-2) (by omega);have e:=lJ B v (n-2) (by omega);have f:bv B (u.drop (n-2))=(u.getD n 0*B+u.getD (n-1) 0)*B+u.getD (n-2) 0:=by
  have:=pS (B:=B) (l:=u) (i:=n-2) (by omega);rwa[show n-2+1=n-1 by omega,show n-2+2=n by omega]at this
 have k:bv B (v.drop (n-2))=v.getD (n-1) 0*B+v.getD (n-2) 0:=by
  have:=il (B:=B) (l:=v) (i:=n-2) (by omega);rwa[show n-2+1=n-1 by omega]at this
 rw[f,add_comm,mul_comm]at c;rw[k,add_comm,mul_comm]at e;have a:=dU (b:=B) (x:=u.take (n-2)) (λd m=>j d (mem_of_mem_take m));rw[length_take,min_eq_left (by omega)]at a;exact HI c a e h.eq g
theorem fG.last(y:1<B)(t:u.length=n+1)(s:v.length=n)(w:0<n)(k:∀d∈v,d<B)(p:0<v.getD (n-1) 0)(h:fG B n u v q rest)(o:q<B)(m:1<n->q*v.getD (n-2) 0<=rest*B+u.getD (n-2) 0):q*bv B v<bv B u+bv B v:=by
 rcases lt_or_ge 1 n with f|f
 ·have e:=lJ B u (n-2) (by omega);have g:=lJ B v (n-2) (by omega);have a:bv B (u.drop (n-2))=(u.getD n 0*B+u.getD (n-1) 0)*B+u.getD (n-2) 0:=by
   have:=pS (B:=B) (l:=u) (i:=n-2) (by omega);rwa[show n-2+1=n-1 by omega,show n-2+2=n by omega]at this
  have c:bv B (v.drop (n-2))=v.getD (n-1) 0*B+v.getD (n-2) 0:=by
   have:=il (B:=B) (l:=v) (i:=n-2) (by omega);rwa[show n-2+1=n-1 by omega]at this
  rw[a,add_comm,mul_comm]at e;rw[c,add_comm,mul_comm]at g;have j:=dU (b:=B) (x:=v.take (n-2)) (λd r=>k d (mem_of_mem_take r));rw[length_take,min_eq_left (by omega)]at j;exact Fh e g j h.eq o p (m f)
 ·obtain rfl:n=1:=by omega
  have a:=il (B:=B) (l:=u) (i:=0) (by omega);have c:=je (B:=B) (l:=v) (i:=0) (by omega);rw[drop_zero]at a c;have:=h.eq
  grind
theorem sM(f:q<B){a b:Nat}(d:a<B)(c:B<=rest):q*a<=rest*B+b:=by
 have e:q*a<=B*B:=mul_le_mul (by omega) (by omega);have g:B*B<=rest*B:=mul_le_mul_right B c;omega
end
theorem Fe{B q n:Nat}(a:1<B){u v:List Nat}(s:∀d∈u,d<B)(f:∀d∈v,d<B)(i:u.length=n+1)(b:v.length=n)(o:q<B)(y:bv B u<(q+1)*bv B v)(p:q*bv B v<bv B u+bv B v):
  (bt B q u v 0 (n+1) 0 0).2.2=0/\
  ((bt B q u v 0 (n+1) 0 0).2.1=0->q=bv B u/bv B v/\bv B (bt B q u v 0 (n+1) 0 0).1=bv B u%bv B v)/\
  ((bt B q u v 0 (n+1) 0 0).2.1≠0->0<q/\q-1=bv B u/bv B v/\bv B (bq (aP B) (bt B q u v 0 (n+1) 0 0).1 v 0 (n+1) 0)=bv B u%bv B v):=by
 have j:=uG a (u:=u) o f (n+1) 0 0 0 (by omega) (by omega) (by omega) (by omega);obtain⟨A,l⟩:=HC a s i b j (q:=q);have w:∀{k r:Nat},bv B u=r+k*bv B v->r<bv B v->k=bv B u/bv B v/\r=bv B u%bv B v:=by
  intro k r e t;rw[e,mul_comm k,add_comm];constructor
  ·grind[Nat.mul_add_div,div_eq_of_lt]
  ·rw[Nat.mul_add_mod,mod_eq_of_lt t]
 refine⟨j,λh=>?_,λh=>?_⟩
 ·grind
 ·obtain⟨m,g⟩:=l h;have x:0<q:=by
   rcases eq_zero_or_pos q with c|c
   ·subst c;rw[zero_mul]at g;omega
   ·exact c
  obtain⟨Q,rfl⟩:∃Q,q=Q+1:=⟨q-1,by omega⟩
  have z:=KI a (Q:=Q) (V:=bv B v) (U:=bv B u) (rK (q:=Q+1) a u v (n+1) 0 0 0) f (oJ _ _ _ _ _ _ _ _) b m g p rfl
  grind
end
def eE(F:Nat->Nat->Nat->Nat×Nat)(x y:List Nat)(i c:Nat):Nat->Nat
 |0=>c
 |k+1=>(F (x.getD (i+k) 0) (y.getD (i+k) 0) (eE F x y i c k)).2
theorem AA(F:Nat->Nat->Nat->Nat×Nat)(x y:List Nat)(i c:Nat):∀k,eE F x y (i+1) (F (x.getD i 0) (y.getD i 0) c).2 k=eE F x y i c (k+1)
 |0=>rfl
 |k+1=>by
  show(F (x.getD (i+1+k) 0) (y.getD (i+1+k) 0) (eE F x y (i+1) _ k)).2=(F (x.getD (i+(k+1)) 0) (y.getD (i+(k+1)) 0) (eE F x y i c (k+1))).2;rw[AA F x y i c k,show i+1+k=i+(k+1) by omega]
theorem jg(F:Nat->Nat->Nat->Nat×Nat)(x y:List Nat):∀k i c,bq F x y i (k+1) c=bq F x y i k c++[(F (x.getD (i+k) 0) (y.getD (i+k) 0) (eE F x y i c k)).1]
 |0,i,c=>rfl
 |k+1,i,c=>by
  have a:=jg F x y k (i+1) (F (x.getD i 0) (y.getD i 0) c).2
  grind[AA,bq]
theorem qq{b:Nat}(k:1<b){x y:List Nat}(h:∀d∈x,d<b)(l:x.length=y.length){j:Nat}(n:j<x.length)(i:x.drop (j+1)=y.drop (j+1))(a:x.getD j 0<y.getD j 0):bv b x<bv b y:=by
 have c:=lJ b x j (by omega);have e:=lJ b y j (by omega);rw[eG]at c e;rw[c,e,i];have g:=dU (b:=b) (x:=x.take j) (λd f=>h d (mem_of_mem_take f));rw[length_take,min_eq_left (by omega)]at g;have m:=mul_le_mul_left (b^j) (succ_le_of_lt (Nat.add_lt_add_right a (b*bv b (y.drop (j+1)))))
 grind
theorem ji{b:Nat}(a:1<b){m n:Nat}(h:(aG b m).length<(aG b n).length):m<n:=by
 have c:0<n:=by
  rcases eq_zero_or_pos n with e|e
  ·grind[ej]
  ·exact e
 have d:=dU (cz a m);rw[bJ a]at d;have g:=pT a c;have f:b^(aG b m).length<=b^((aG b n).length-1):=pow_le_pow_right (by omega) (by omega);omega
variable{A:Type}
theorem qu(B q:Nat)(u v:List Nat):∀k i b c,bt B q u v i (k+1) b c =
    ((bt B q u v i k b c).1++[(ic B q (u.getD (i+k) 0) (v.getD (i+k) 0) (bt B q u v i k b c).2.1 (bt B q u v i k b c).2.2).1],
     (ic B q (u.getD (i+k) 0) (v.getD (i+k) 0) (bt B q u v i k b c).2.1 (bt B q u v i k b c).2.2).2.1,
     (ic B q (u.getD (i+k) 0) (v.getD (i+k) 0) (bt B q u v i k b c).2.1 (bt B q u v i k b c).2.2).2.2)
  |0,i,b,c=>rfl
  | k+1,i,b,c=>by
    have a:=qu B q u v k (i+1) (ic B q (u.getD i 0) (v.getD i 0) b c).2.1 (ic B q (u.getD i 0) (v.getD i 0) b c).2.2
    grind[bt]
theorem C5{q:Nat}(a:1<n){u v:List Nat}(b:∀d∈u,d<n)(k:Nat):(bt n q u v 0 k 0 0).2.1<=1:=(wH a (v:=v) b k 0 0 0 (by omega)).2
theorem pU{B q:Nat}(b:1<B)(c:q<B){u v:List Nat}(a:∀d∈v,d<B):∀k,(bt B q u v 0 k 0 0).2.2<B
  |0=>by grind[bt]
  | k+1=>by
    rw[qu];have f:=pU b c (u:=u) a k;have g:=bp (by omega) a (0+k);show(q*v.getD (0+k) 0+(bt B q u v 0 k 0 0).2.2)/B<B;refine div_lt_of_lt_mul ?_;have e:q*v.getD (0+k) 0<=(B-1)*(B-1):=mul_le_mul (by omega) (by omega);have h:(B-1)*(B-1)+(B-1)=(B-1)*B:=by rw[<-mul_succ];congr 1;omega
    have i:(B-1)*B+B=B*B:=by rw[<-succ_mul];congr 1;omega
    omega
theorem yy(x y:List A){i:Nat}(a:x.length=i)(b:i<y.length)(d:A):(x++y.drop i).set i d=(x++[d])++y.drop (i+1):=by
  rw[set_append,if_neg (by omega),a,Nat.sub_self,List.drop_eq_getElem_cons b,List.set_cons_zero,append_assoc];rfl
theorem uE(x y:List Nat){i:Nat}(a:x.length=i):(x++y.drop i).getD i 0=y.getD i 0:=by grind
theorem uI(l:List Nat):l.take (cP l).length=cP l/\(cP l).length<=l.length:=by
 induction l using mc with
 |h0=>exact⟨rfl,Nat.le_refl _⟩
 | h1 l d b=>
  by_cases a:d=0
  ·grind[gr]
  ·rw[hW l a,take_length]
   grind
theorem DN(a:1<n)(b:0<m):0<(aG n m).getD ((aG n m).length-1) 0:=by
 have c:=(KP a m).2
 grind[aG]
theorem Ff(a:1<n)(c:m<n^k)(e:n^(k-1)<=m)(d:0<k):(aG n m).length=k:=by
 refine Nat.le_antisymm (jh a c) ?_;rcases lt_or_ge (aG n m).length k with h|h
 ·have b:=dU (cz a m);rw[bJ a]at b;have:n^(aG n m).length<=n^(k-1):=pow_le_pow_right (by omega) (by omega);omega
 omega
theorem RW(f:1<n)(o:0<m):let c:=(aG n m).length;let a:=(aG n m).getD (c-1) 0;let k:=n/(a+1)
  0<c/\a<n/\0<k/\k<=n/\n^(c-1)<=m/\m*k<n^c:=by
 intro c a k;have l:0<c:=length_pos_iff.2 λe=>by grind[fH]
 have s:a<n:=bp (by omega) (cz f m) _;have j:0<k:=Nat.div_pos (by omega) (by omega);have g:=pT f o;refine⟨l,s,j,Nat.div_le_self _ _,g,?_⟩;have i:m<(a+1)*n^(c-1):=by
  have h:=lJ n (aG n m) (c-1) (by omega);rw[je (show(aG n m).length=c-1+1 by omega),bJ f]at h;have p:=dU (b:=n) (x:=(aG n m).take (c-1)) (λd r=>cz f m d (mem_of_mem_take r));rw[length_take,min_eq_left (by omega)]at p;rw[add_mul,one_mul,mul_comm a];show m<n^(c-1)*a+_;have:(aG n m).getD (c-1) 0=a:=rfl;rw[this]at h;omega
 have t:m*k<(a+1)*n^(c-1)*k:=Nat.mul_lt_mul_of_pos_right i j;have q:(a+1)*k<=n:=by rw[mul_comm];exact Nat.div_mul_le_self _ _
 have w:(a+1)*n^(c-1)*k=(a+1)*k*n^(c-1):=by rw[Nat.mul_right_comm]
 have v:(a+1)*k*n^(c-1)<=n*n^(c-1):=mul_le_mul_right _ q;have u:n*n^(c-1)=n^c:=by rw[mul_comm,<-pow_succ];congr 1;omega
 omega
def wid:Nat->Nat->List UInt8
 |0,_=>[]
 |n+1,u=>wid n (u/10)++[gm (u%10)]
theorem wK:∀n u,(wid n u).length=n
 |0,_=>rfl
 |n+1,u=>by rw[wid,length_append,wK n];rfl
theorem tC:∀(n u:Nat),wid (n+1) u=gm (u/10^n%10)::wid n u
 |0,u=>by simp[wid]
 |n+1,u=>by
  rw[wid,tC n (u/10),wid,cons_append,Nat.div_div_eq_div_mul,pow_succ,mul_comm 10]
theorem wJ(a:m<10^(n+1))(c:n=0\/10^n<=m):wid (n+1) m=aC m:=by
 induction n generalizing m with
 |zero=>grind[da,wid]
 |succ n b=>grind[gP,Nat.le_div_iff_mul_le,wid]
theorem DO{u:Nat}:∀{n:Nat},u<10^n->0<n->wid n u=List.replicate (n-(aC u).length) 48++aC u
 |0,_,h=>absurd h (by omega)
 | n+1,h,_=>by
  by_cases b:n=0\/10^n<=u
  ·have c:=wJ h b;have d:=congrArg List.length c;rw[wK]at d
   simp_all
  ·have e:n≠0:=λh=>b (.inl h);have a:u<10^n:=Nat.lt_of_not_le λh=>b (.inr h);have f:=(gQ (n:=u) (k:=n) (by omega)).2 a;rw[tC,DO a (by omega),div_eq_of_lt a,show n+1-(aC u).length=(n-(aC u).length)+1 by omega,List.replicate_succ];rfl
theorem yD{Y:Nat}(a:0<Y):∀{n b:Nat},b<10^n->aC (Y*10^n+b)=aC Y++wid n b
 |0,b,h=>by simp_all[wid]
 | n+1,b,h=>by
  have c:b/10<10^n:=by rw[Nat.div_lt_iff_lt_mul (by omega),<-pow_succ];exact h
  have g:=yD a c;have d:0<10^n:=Nat.pow_pos (by omega);have f:0<Y*10^n+b/10:=Nat.add_pos_left (Nat.mul_pos a d) _;have e:Y*10^(n+1)+b=10*(Y*10^n+b/10)+b%10:=by
   rw[pow_succ,mul_add,<-mul_assoc,mul_comm (Y*10^n) 10];omega
  simp_all[uH,mod_lt,wid]
theorem C6{b:Nat}(c:0<m)(a:b<1000000000):aC (b+1000000000*m)=aC m++List.replicate (9-(aC b).length) 48++aC b:=by
 have h:=yD c (n:=9) (b:=b) a
 grind[DO]
theorem C7{b:Nat}(a:b<1000000000):(aC b).length<=9:=(gQ (by omega)).2 a
theorem qt(B:Nat)(y:List Nat)(k:Nat):bv B (y.take (k+1))=bv B (y.take k)+B^k*y.getD k 0:=by grind[List.take_succ_eq_append_getElem,nV,take_of_length_le]
theorem KJ(a:0<n)(h:∀d∈x,d<n)(i:Nat):x.getD i 0<n:=by grind[getElem_mem]
theorem AD{B:Nat}(m:1<B){L y:List Nat}{i k cy xi P p:Nat}(a:∀d∈L,d<B)(q:i+k<L.length)(f:cy<B)(j:xi<B)(g:y.getD k 0<B)(c:p=L.getD (i+k) 0+cy+xi*y.getD k 0)(n:bv B L+cy*B^(i+k)=P+xi*bv B (y.take k)*B^i):
  (∀d∈L.set (i+k) (p%B),d<B)/\p/B<B/\bv B (L.set (i+k) (p%B))+p/B*B^(i+(k+1))=P+xi*bv B (y.take (k+1))*B^i:=by
 have l:=KJ (by omega) a (i+k);refine⟨λd e=>?_,?_,?_⟩
 ·rcases List.mem_or_eq_of_mem_set e with h|h
  ·exact a d h
  ·rw[h];exact mod_lt _ (by omega)
 ·rw[Nat.div_lt_iff_lt_mul (by omega),c];have b:xi*y.getD k 0<=(B-1)*(B-1):=mul_le_mul (by omega) (by omega);obtain⟨C,rfl⟩:∃C,B=C+1:=⟨B-1,by omega⟩
  rw[add_sub_cancel]at b;have o:(C+1)*(C+1)=C*C+C+C+1:=by rw[mul_succ,succ_mul];omega
  omega
 grind[Ay,mod_add_div,qt]
theorem OU(l:1<n){L x y:List Nat}{i cy:Nat}(e:∀d∈x,d<n)(k:∀d∈y,d<n)(p:i<x.length)(m:∀d∈L,d<n)(c:bv n L+cy*n^(i+(y.length+1))=bv n (x.take i)*bv n y+x.getD i 0*bv n (y.take (y.length+1))*n^i):
  bv n L=bv n (x.take (i+1))*bv n y:=by
 have f:bv n (x.take (i+1))*bv n y=bv n (x.take i)*bv n y+x.getD i 0*bv n y*n^i:=by
  rw[qt,add_mul];congr 1;rw[mul_assoc,mul_comm]
 rw[take_of_length_le (by omega:y.length<=y.length+1),<-f]at c;have g:bv n (x.take (i+1))<n^(i+1):=by
  have:=dU (b:=n) (x:=x.take (i+1)) (λd j=>e d (mem_of_mem_take j));rwa[length_take,min_eq_left (by omega)]at this
 have a:=dU k;have o:bv n (x.take (i+1))*bv n y<n^(i+(y.length+1)):=by
  rw[show i+(y.length+1)=(i+1)+y.length by omega,Nat.pow_add];exact Nat.mul_lt_mul'' g a
 rcases eq_zero_or_pos cy with h|h
 ·grind
 ·have q:1*n^(i+(y.length+1))<=cy*n^(i+(y.length+1)):=mul_le_mul_right _ h;omega
theorem Ax(B n:Nat):bv B (List.replicate n 0)=0:=by
 induction n with
 |zero=>rfl
 |succ n a=>grind[bv]
def ff(c:UInt8):List UInt8->Nat
 |[]=>0
 |x::l=>if x=c then 0 else ff c l+1
def isNeg(a:List UInt8):Bool:=a.head? == some 45
def cw(a:List UInt8):List UInt8:=if isNeg a then a.drop 1 else a
def numOf(a:List UInt8):List UInt8:=(cw a).take (ff 47 (cw a))
def gO(a:List UInt8):Bool:=decide (ff 47 (cw a)<(cw a).length)
def cV(a:List UInt8):List UInt8:=if gO a then(cw a).drop (ff 47 (cw a)+1)else[49]
def ez(a:List UInt8):Bool:=aK (numOf a)&&aK (cV a)&&decide ((numOf a).length<=400)&&decide ((cV a).length<=400) && !(isNeg a&&numOf a==[48]) && !(gO a&&(cV a==[48]||cV a==[49]))&&decide (Nat.gcd (val (numOf a)) (val (cV a))=1)
structure WH(a:List UInt8):Prop where
 num:aK (numOf a)=true
 den:aK (cV a)=true
 ln:(numOf a).length<=400
 ld:(cV a).length<=400
 neg:¬(isNeg a=true/\numOf a=[48])
 fr:¬(gO a=true/\(cV a=[48]\/cV a=[49]))
 one:Nat.gcd (val (numOf a)) (val (cV a))=1
theorem np{a:List UInt8}:ez a=true↔WH a:=by
 unfold ez;simp only[and_eq_true,Bool.not_eq_true',Bool.and_eq_false_iff,Bool.or_eq_false_iff,decide_eq_true_eq,beq_eq_false_iff_ne];constructor
 ·rintro⟨⟨⟨⟨⟨⟨c,d⟩,b⟩,f⟩,j⟩,i⟩,e⟩;refine⟨c,d,b,f,λ⟨g,h⟩=>?_,λ⟨g,h⟩=>?_,e⟩
  all_goals grind
 ·rintro⟨c,d,b,f,j,i,e⟩
  grind
theorem AG{a:List UInt8}(h:aK a=true)(c:0<k)(b:a.length<=k):val a<10^k:=by grind[mn,gQ]
def nq(s:Bool)(A:Nat)(t:Bool)(B:Nat):Bool×Nat:=if s=t then(s,A+B)else if A<B then(t,B-A)else(s,A-B)
def nW(a b:List UInt8):Int:=
 if ez a=true/\ez b=true then
  if(nq (isNeg a) (val (numOf a)*val (cV b)) (!isNeg b) (val (numOf b)*val (cV a))).2=0 then 0
  else if(nq (isNeg a) (val (numOf a)*val (cV b)) (!isNeg b) (val (numOf b)*val (cV a))).1=true then -1 else 1
 else 0
theorem OW(e:k+k=m)(b:n<10^k)(a:i<10^k):n*i<10^m:=by
 subst e;rw[Nat.pow_add];exact Nat.mul_lt_mul'' b a
theorem C3(b:n<10^400)(a:i<10^400):n*i<10^800:=OW (k:=400) (m:=800) rfl b a
theorem uF(h:k<=m):10^k<=10^m:=pow_le_pow_right (by decide) h
theorem OV:(10:Nat)^800+10^800<=10^1000:=by omega
def cJ(b:Int)(a:List UInt8):Bool:=decide (1<=b/\b<=3)&&ez a&&(b==1||decide (0<nW a [48]))
section
inductive ij(E:Nat->Nat->Prop)(F:Nat->Prop):Nat->Prop where
 |base {x:Nat} (h:F x):ij E F x
 |step {y x:Nat} (h:ij E F y) (e:E y x):ij E F x
def jf(L:List Bool):Nat:=(L.filter λb=> !b).length
theorem Az:∀{L:List Bool}{s:Nat},s<L.length->L.getD s false=false->jf (L.set s true)+1=jf L
 |[],s,h,_=>by grind
 |b::L,0,h,a=>by grind[jf]
 |b::L,s+1,h,a=>by
  have c:=Az (L:=L) (s:=s) (by simpa using h) (by simpa using a)
  grind[jf]
theorem kI{L:List Bool}{x:Nat}(a:n<L.length):(L.set n true).getD x false=if x=n then true else L.getD x false:=by grind
structure jG(E:Nat->Nat->Prop)(F:Nat->Prop)(N:Nat)(L:List Bool)(T:List Nat)(ex:Nat->Prop):Prop where
 len:L.length=N
 tin:∀x∈T,x<N/\L.getD x false=true
 snd:∀x,L.getD x false=true->ij E F x
 cls:∀y,L.getD y false=true->y∉T->¬ex y->∀z,E y z->L.getD z false=true
section
variable {E:Nat->Nat->Prop} {F:Nat->Prop} {N:Nat} {L:List Bool} {T:List Nat} {ex:Nat->Prop}
theorem KN(n:Nat)(ex:Nat->Prop):jG E F n (List.replicate n false) [] ex:=by
 have h:∀x,(List.replicate n false).getD x false=false:=λx=>by grind
 exact⟨length_replicate,λx a=>(by grind),λx a=>(by grind),λy b=>(by grind)⟩
theorem jG.see(v:jG E F N L T ex){s:Nat}(f:s<N)(m:ij E F s)(k:L.getD s false=false):jG E F N (L.set s true) (T++[s]) ex/\jf (L.set s true)+1=jf L:=by
 have b:s<L.length:=by rw[v.len];exact f
 refine⟨⟨by rw[length_set];exact v.len,λx a=>?_,λx a=>?_,λy d e j z l=>?_⟩,Az b k⟩
 ·rcases mem_append.1 a with h|h
  ·obtain⟨g,i⟩:=v.tin x h;refine⟨g,?_⟩;rw[kI b];split
   ·rfl
   ·exact i
  grind
 ·rw[kI b]at a;split at a
  ·grind
  ·exact v.snd x a
 ·rw[kI b]at d⊢;split
  ·rfl
  ·split at d
   ·grind
   ·exact v.cls y d (λc=>e (mem_append.2 (.inl c))) j z l
theorem jG.take(v:jG E F N L T (λ_=>False))(e:∀x∈y,x∈T)(f:∀x∈T,x∈y\/x=n):jG E F N L y (λb=>b=n):=
 ⟨v.len,λx d=>v.tin x (e x d),v.snd,λb i a g z h=>v.cls b i (λc=>(f b c).elim a g) (λc=>c) z h⟩
theorem jG.done(v:jG E F N L T (λy=>y=n))(h:∀z,E n z->L.getD z false=true):jG E F N L T (λ_=>False):=
 ⟨v.len,v.tin,v.snd,λy c a _ z b=>by
  by_cases e:y=n
  ·grind
  ·exact v.cls y c a e z b⟩
theorem jG.final(v:jG E F N L [] (λ_=>False))(b:∀x,F x->L.getD x false=true)(x:Nat):L.getD x false=true↔ij E F x:=by
 refine⟨v.snd x,λh=>?_⟩
 induction h with
 |base h=>grind
 |step _ e a=>exact v.cls _ a (λc=>(by cases c)) (λc=>c) _ e
end
end
end Go.Num
end
section
namespace Go.Proofs.YtnlccnpbjeiccaaGreatDoor
open Go Go.Ab Go.RowKit
theorem XL:(((Tryz.prog.funcs.toList.drop 0).take 40).all λf=>dC f)=true:=by kernel_rfl
theorem XM:(((Tryz.prog.funcs.toList.drop 40).take 40).all λf=>dC f)=true:=by kernel_rfl
theorem XN:(((Tryz.prog.funcs.toList.drop 80).take 40).all λf=>dC f)=true:=by kernel_rfl
theorem XO:(((Tryz.prog.funcs.toList.drop 120).take 40).all λf=>dC f)=true:=by kernel_rfl
theorem XP:(((Tryz.prog.funcs.toList.drop 160).take 40).all λf=>dC f)=true:=by kernel_rfl
theorem XQ:(((Tryz.prog.funcs.toList.drop 200).take 40).all λf=>dC f)=true:=by kernel_rfl
theorem XR:(((Tryz.prog.funcs.toList.drop 240).take 40).all λf=>dC f)=true:=by kernel_rfl
theorem XS:(((Tryz.prog.funcs.toList.drop 280).take 40).all λf=>dC f)=true:=by kernel_rfl
theorem XT:(((Tryz.prog.funcs.toList.drop 320).take 40).all λf=>dC f)=true:=by kernel_rfl
theorem PI:Tryz.prog.funcs.toList.length=329:=by kernel_rfl
theorem S1(i:Nat)(c:Func)(h:Tryz.prog.funcs.toList[i]?=some c):dC c=true:=by
 have b:∀a,((Tryz.prog.funcs.toList.drop a).take 40).all (λf=>dC f)=true->a<=i->i<a+40->dC c=true:=λa g d e=>by
  refine all_eq_true.1 g c (List.mem_of_getElem? (i:=i-a) ?_);rw[getElem?_take,if_pos (by omega),getElem?_drop,show a+(i-a)=i by omega];exact h
 have j:i<329:=by
  have:=(List.getElem?_eq_some_iff.1 h).1;rw[PI]at this;exact this
 by_cases n:i<40
 ·exact b 0 XL (by omega) (by omega)
 by_cases d:i<80
 ·exact b 40 XM (by omega) (by omega)
 by_cases e:i<120
 ·exact b 80 XN (by omega) (by omega)
 by_cases k:i<160
 ·exact b 120 XO (by omega) (by omega)
 by_cases m:i<200
 ·exact b 160 XP (by omega) (by omega)
 by_cases p:i<240
 ·exact b 200 XQ (by omega) (by omega)
 by_cases o:i<280
 ·exact b 240 XR (by omega) (by omega)
 by_cases l:i<320
 ·exact b 280 XS (by omega) (by omega)
 exact b 320 XT (by omega) (by omega)
theorem Qm:(Tryz.prog.funcs.toList.all λf=> !(f.name == "runtime.NumGoroutine"))=true:=by kernel_rfl
theorem lY:tE Tryz.prog:={
 names:=λ_ a h=>by
  have b:a∈Tryz.prog.funcs.toList:=by
   rw[<-Array.getElem?_toList]at h;exact List.mem_of_getElem? h
  have:=all_eq_true.1 Qm a b;simpa using this
 S0:=λf a h=>S1 f a (by rw[Array.getElem?_toList];exact h) }
theorem Dw:jj Tryz.prog sD 296 jU:=yW (fn:=(Tryz.prog.funcs[296]?).getD default) (by kernel_rfl) (by kernel_rfl) (by kernel_rfl) (by kernel_rfl) (by kernel_rfl)
theorem BD:jj Tryz.prog sD 290 hE:=vz (fn:=(Tryz.prog.funcs[290]?).getD default) (by kernel_rfl) (by kernel_rfl) (by kernel_rfl) (by kernel_rfl) (by kernel_rfl)
noncomputable def abf:lG:=[(296,.aaj),(290,.NY)]
theorem Ad:mj Tryz.prog sD abf:=mu Dw (mu BD DU)
end Go.Proofs.YtnlccnpbjeiccaaGreatDoor
end
section
namespace Go.Proofs.YtnlccnpbjeiccaaGreatDoor
open Go Go.Ab Go.Num
def Ye:Nat->Bool:=λg=>Nat.beq g 1
noncomputable def adh:lG:=(13,.Gm [([],.bool true)]) ::abf
noncomputable def prS:FuncId->Option lK:=λf=>A1 (Nat.beq f 146) (some Cu) (Jy Tryz.prog Ye adh f)
noncomputable def SS:Sx:=⟨Tryz.prog,Ye,prS⟩
theorem ae8:au Tryz.prog 22=some 1:=by kernel_rfl
variable{s:List UInt8}{t:List UInt8}{b:Bool}{e:Addr}{v:Value}{w:Value}{h:aa}{Q:VH}
noncomputable def Pr:FD:=ei Tryz.f236 []
theorem Lg(l m:LB)(h:aa)(Q:VH)(c:FW SS 258 [(strOf l),(strOf m)] h λe a=>yB e λb=>aQ (!b) (Q (.tuple ⟨[(strOf l),(.bool false)]⟩) a) (xS (bm SS.P 9 (strOf l) (some (.int .i64 ((m:LB).length:Int))) none none a) λd=>Q (.tuple ⟨[(strOf d),(.bool true)]⟩) a)):FW SS 236 [(strOf l),(strOf m)] h Q:=eu Pr Tryz.func236 (ax c)
noncomputable def SQ:FD:=ei Tryz.f201 []
theorem Ps(l m:LB)(h:aa)(Q:VH)(c:FW SS 236 [(strOf l),(strOf m)] h λe d=>∃b:LB,∃a:Bool,e=(.tuple ⟨[(strOf b),(.bool a)]⟩)/\Q (.tuple ⟨[(strOf b),(.bool a)]⟩) d):FW SS 201 [(strOf l),(strOf m)] h Q:=eu SQ Tryz.func201 (ax c)
noncomputable def LA:FD:=ei Tryz.f279 []
theorem IP(l:LB)(c:Int)(h:aa)(Q:VH)(b:FW SS 290 [(strOf l),(.int .u8 c)] h λe d=>yI .i64 e λa=>Q (.int .i64 a) d):FW SS 279 [(strOf l),(.int .u8 c)] h Q:=eu LA Tryz.func279 (ax b)
noncomputable def Tv:FD:=ei Tryz.f259 []
theorem PO(l:LB)(h:aa)(Q:VH)(d:aQ (([47]:LB)==l) (Q (.int .i64 0) h) (xI .u8 (bH SS.P 9 (strOf [47]) (.int .i64 0)) λa=>FW SS 279 [(strOf l),(.int .u8 a)] h λb c=>yI .i64 b λe=>Q (.int .i64 e) c)):FW SS 259 [(strOf l),(strOf [47])] h Q:=eu Tv Tryz.func259 (ax d)
noncomputable def aaZ:FD:=ei Tryz.f237 []
theorem Xz(l:LB)(h:aa)(Q:VH)(c:FW SS 259 [(strOf l),(strOf [47])] h λe a=>yI .i64 e λb=>aQ (decide ((b:Int)>=0)) (xS (bm SS.P 9 (strOf l) none (some (.int .i64 b)) none (room a 12)) λd=>xS (bm SS.P 9 (strOf l) (some (.int .i64 (wrap .i64 (b+1)))) none none (room a 12)) λf=>Q (.tuple ⟨[(strOf d),(strOf f),(.bool true)]⟩) (room a 12)) (Q (.tuple ⟨[(strOf l),(strOf []),(.bool false)]⟩) a)):FW SS 237 [(strOf l),(strOf [47])] h Q:=eu aaZ Tryz.func237 (ax c)
noncomputable def acT:FD:=ei Tryz.f202 []
theorem aa0(l:LB)(h:aa)(Q:VH)(d:FW SS 237 [(strOf l),(strOf [47])] h λf e=>∃a:LB,∃c:LB,∃b:Bool,f=(.tuple ⟨[(strOf a),(strOf c),(.bool b)]⟩)/\Q (.tuple ⟨[(strOf a),(strOf c),(.bool b)]⟩) e):FW SS 202 [(strOf l),(strOf [47])] h Q:=eu acT Tryz.func202 (ax d)
noncomputable def QT:FD:=ei Tryz.f171 []
theorem Ms(l:LB)(e:Int)(h:aa)(Q:VH)(a:aQ (((e:Int) !=0)) (xA (aD SS.P 259 []) λb=>False) (Q (strOf l) h)):FW SS 171 [(strOf l),(.int .i64 e)] h Q:=eu QT Tryz.func171 (ax a)
noncomputable def aq:FD:=ei Tryz.f169 []
abbrev Ch(l:LB)(cc:Code)(h:aa)(Q:VH):Prop:=xN (aA SS.P 222) h λm j=>FW SS 201 [(strOf l),(strOf [45])] j λg k=>∃c:LB,∃d:Bool,g=(.tuple ⟨[(strOf c),(.bool d)]⟩)/\FW SS 202 [(strOf c),(strOf [47])] k λi f=>∃e:LB,∃b:LB,∃a:Bool,i=(.tuple ⟨[(strOf e),(strOf b),(.bool a)]⟩)/\aQ (!a) (wpS SS aq.nm aq.ms [1,1,1,1] cc (uN [(strOf l),undef,(pA (h.next)),(.bool false),(strOf c),(.bool d),(strOf e),(strOf [49]),(.bool a),undef,undef,(.tuple ⟨[(strOf c),(.bool d)]⟩),(strOf l),(.tuple ⟨[(strOf c),(.bool d)]⟩),(strOf c),(.bool d),(.tuple ⟨[(strOf e),(strOf b),(.bool a)]⟩),(strOf c),(.tuple ⟨[(strOf e),(strOf b),(.bool a)]⟩),(strOf e),(strOf b),(.bool a),(.bool a),(.bool (!a))] 53) f (EE SS aq Q)) (wpS SS aq.nm aq.ms [1,1,1,1] cc (uN [(strOf l),undef,(pA (h.next)),(.bool false),(strOf c),(.bool d),(strOf e),(strOf b),(.bool a),undef,undef,(.tuple ⟨[(strOf c),(.bool d)]⟩),(strOf l),(.tuple ⟨[(strOf c),(.bool d)]⟩),(strOf c),(.bool d),(.tuple ⟨[(strOf e),(strOf b),(.bool a)]⟩),(strOf c),(.tuple ⟨[(strOf e),(strOf b),(.bool a)]⟩),(strOf e),(strOf b),(.bool a),(.bool a),(.bool (!a))] 53) f (EE SS aq Q))
theorem JD(l:LB)(h:aa)(Q:VH)(a:Ch l (jD [1,1,1,1] aq.body) h Q):FW SS 169 [(strOf l)] h Q:=by
 have e:∀cc,Ch l cc h Q=wpS SS aq.nm aq.ms [] (setAt [1,1,1,1] cc aq.body) ([(strOf l)]++List.replicate (aq.nm-([(strOf l)]:LV).length) undef) h (EE SS aq Q):=λcc=>by kernel_rfl
 have e:=e (jD [1,1,1,1] aq.body);rw[iX]at e;exact eu aq Tryz.func169 (ax a e)
abbrev tf(n d:LB)(neg r:Bool)(p:Addr)(cc:Code)(x0 x1 x3 x4 x9 Z x5 v X G y1 y6 W y0 x7 w q m F z9 u9 u4 u1 z8 u3 u2 z7 u7 z0 z2 y9 z6 u8 u6 z5 z3 z1 u I l j x6 y7 y3 N y2 P t i x2 f x8 S U x Y s E J A o y C O z D K y4 T V H g:Value)(h:aa)(Q:VH):Prop:=FW SS 203 [(strOf n)] h λv1 e=>yB v1 λc=>aQ (!c) (xA (aD SS.P 222 []) λc4=>xU (aj SS.P 222 (.pointer (some p)) (.agg ⟨c4⟩) e) e λu5 g6=>di SS [((.pointer (some p)),some 222),((.bool false),none)] g6 Q) (FW SS 203 [(strOf d)] e λv7 a=>yB v7 λb=>aQ (!b) (xA (aD SS.P 222 []) λy5=>xU (aj SS.P 222 (.pointer (some p)) (.agg ⟨y5⟩) a) a λz4 k=>di SS [((.pointer (some p)),some 222),((.bool false),none)] k Q) (aQ (decide ((((n:LB).length:Int):Int)>400)) (xA (aD SS.P 222 []) λM=>xU (aj SS.P 222 (.pointer (some p)) (.agg ⟨M⟩) a) a λy8 L=>di SS [((.pointer (some p)),some 222),((.bool false),none)] L Q) (aQ (decide ((((d:LB).length:Int):Int)>400)) (xA (aD SS.P 222 []) λR=>xU (aj SS.P 222 (.pointer (some p)) (.agg ⟨R⟩) a) a λu0 B=>di SS [((.pointer (some p)),some 222),((.bool false),none)] B Q) (wpS SS aq.nm aq.ms [1,1,1,1,1] cc [x0,x1,(.pointer (some p)),x3,x4,(.bool neg),(strOf n),(strOf d),(.bool r),x9,Z,x5,v,X,G,y1,y6,W,y0,x7,w,q,m,F,(strOf n),(.bool c),(.bool (!c)),(.bool false),(strOf d),(.bool b),(.bool (!b)),(.bool (!b)),(.bool false),(strOf n),(.int .i64 ((n:LB).length:Int)),(.bool (decide ((((n:LB).length:Int):Int)>400))),(.bool (decide ((((n:LB).length:Int):Int)>400))),(.bool false),(strOf d),(.int .i64 ((d:LB).length:Int)),(.bool (decide ((((d:LB).length:Int):Int)>400))),(.bool (decide ((((d:LB).length:Int):Int)>400))),u,I,l,j,x6,y7,y3,N,y2,P,t,i,x2,f,x8,S,U,x,Y,s,E,J,A,o,y,C,O,z,D,K,y4,T,V,H,g] a (EE SS aq Q)))))
theorem Ci{neg:Bool}{x3 x4 x9 y1 y3 x x6 L y8 z4 x5 y7 y5 y p m K N z7 y0 S G x8 W C z2 f l d B z5 z1 A o k u O j i y4 z6 z0 T y9 V r g y2 a y6 X Z z x7 q J P F n D H U E I R z3 Y x2 M c:Value}(hx:tf s t neg b e (jD [1,1,1,1,1] aq.body) v w x3 x4 x9 y1 y3 x x6 L y8 z4 x5 y7 y5 y p m K N z7 y0 S G x8 W C z2 f l d B z5 z1 A o k u O j i y4 z6 z0 T y9 V r g y2 a y6 X Z z x7 q J P F n D H U E I R z3 Y x2 M c h Q):TT SS aq [1,1,1,1] [v,w,(.pointer (some e)),x3,x4,(.bool neg),(strOf s),(strOf t),(.bool b),x9,y1,y3,x,x6,L,y8,z4,x5,y7,y5,y,p,m,K,N,z7,y0,S,G,x8,W,C,z2,f,l,d,B,z5,z1,A,o,k,u,O,j,i,y4,z6,z0,T,y9,V,r,g,y2,a,y6,X,Z,z,x7,q,J,P,F,n,D,H,U,E,I,R,z3,Y,x2,M,c] h (EE SS aq Q):=by
 have z8:∀cc,tf s t neg b e cc v w x3 x4 x9 y1 y3 x x6 L y8 z4 x5 y7 y5 y p m K N z7 y0 S G x8 W C z2 f l d B z5 z1 A o k u O j i y4 z6 z0 T y9 V r g y2 a y6 X Z z x7 q J P F n D H U E I R z3 Y x2 M c h Q=wpS SS aq.nm aq.ms [1,1,1,1] (setAt [1] cc (jD [1,1,1,1] aq.body)) [v,w,(.pointer (some e)),x3,x4,(.bool neg),(strOf s),(strOf t),(.bool b),x9,y1,y3,x,x6,L,y8,z4,x5,y7,y5,y,p,m,K,N,z7,y0,S,G,x8,W,C,z2,f,l,d,B,z5,z1,A,o,k,u,O,j,i,y4,z6,z0,T,y9,V,r,g,y2,a,y6,X,Z,z,x7,q,J,P,F,n,D,H,U,E,I,R,z3,Y,x2,M,c] h (EE SS aq Q):=λcc=>by kernel_rfl
 have z8:=z8 (jD [1,1,1,1,1] aq.body);have ec:(jD [1,1,1,1,1] aq.body)=jD [1] (jD [1,1,1,1] aq.body):=by kernel_rfl
 have es:setAt [1] (jD [1,1,1,1,1] aq.body) (jD [1,1,1,1] aq.body)=jD [1,1,1,1] aq.body:=by rw[ec,iX]
 rw[es]at z8;exact ax hx z8
abbrev tg(n d:LB)(neg a:Bool)(p:Addr)(cc:Code)(x0 x1 x3 x4 x9 U V q P E Y x6 O X W r l i D G x8 T J z S L v x2 e g c u x7 Z t k f o z1 y8 y7 z7 u1 u0 z2 z9 z3 z0 y6 z6 y5 z8 z4 z5 s R m C H y j w A K x B I x5 M N F b:Value)(h:aa)(Q:VH):Prop:=aQ neg (aQ ((n:LB)==[48]) (xA (aD SS.P 222 []) λc1=>xU (aj SS.P 222 (.pointer (some p)) (.agg ⟨c1⟩) h) h λu2 g3=>di SS [((.pointer (some p)),some 222),((.bool false),none)] g3 Q) (aQ a (aQ ((d:LB)==[48]) (xA (aD SS.P 222 []) λc4=>xU (aj SS.P 222 (.pointer (some p)) (.agg ⟨c4⟩) h) h λu5 g6=>di SS [((.pointer (some p)),some 222),((.bool false),none)] g6 Q) (aQ ((d:LB)==[49]) (xA (aD SS.P 222 []) λc7=>xU (aj SS.P 222 (.pointer (some p)) (.agg ⟨c7⟩) h) h λu8 g9=>di SS [((.pointer (some p)),some 222),((.bool false),none)] g9 Q) (wpS SS aq.nm aq.ms [1,1,1,1,1,1] cc [x0,x1,(.pointer (some p)),x3,x4,(.bool neg),(strOf n),(strOf d),(.bool a),x9,U,V,q,P,E,Y,x6,O,X,W,r,l,i,D,G,x8,T,J,z,S,L,v,x2,e,g,c,u,x7,Z,t,k,f,o,(.bool neg),(.bool true),(strOf n),(.bool ((n:LB)==[48])),(.bool ((n:LB)==[48])),(.bool false),(.bool a),(.bool true),(strOf d),(.bool ((d:LB)==[48])),(.bool false),(strOf d),(.bool ((d:LB)==[49])),(.bool ((d:LB)==[49])),(.bool ((d:LB)==[49])),(.bool ((d:LB)==[49])),s,R,m,C,H,y,j,w,A,K,x,B,I,x5,M,N,F,b] h (EE SS aq Q)))) (wpS SS aq.nm aq.ms [1,1,1,1,1,1] cc [x0,x1,(.pointer (some p)),x3,x4,(.bool neg),(strOf n),(strOf d),(.bool a),x9,U,V,q,P,E,Y,x6,O,X,W,r,l,i,D,G,x8,T,J,z,S,L,v,x2,e,g,c,u,x7,Z,t,k,f,o,(.bool neg),(.bool true),(strOf n),(.bool ((n:LB)==[48])),(.bool ((n:LB)==[48])),(.bool false),(.bool a),(.bool false),undef,undef,undef,undef,undef,undef,(.bool false),(.bool false),s,R,m,C,H,y,j,w,A,K,x,B,I,x5,M,N,F,b] h (EE SS aq Q)))) (aQ a (aQ ((d:LB)==[48]) (xA (aD SS.P 222 []) λy3=>xU (aj SS.P 222 (.pointer (some p)) (.agg ⟨y3⟩) h) h λy9 y0=>di SS [((.pointer (some p)),some 222),((.bool false),none)] y0 Q) (aQ ((d:LB)==[49]) (xA (aD SS.P 222 []) λy2=>xU (aj SS.P 222 (.pointer (some p)) (.agg ⟨y2⟩) h) h λy4 y1=>di SS [((.pointer (some p)),some 222),((.bool false),none)] y1 Q) (wpS SS aq.nm aq.ms [1,1,1,1,1,1] cc [x0,x1,(.pointer (some p)),x3,x4,(.bool neg),(strOf n),(strOf d),(.bool a),x9,U,V,q,P,E,Y,x6,O,X,W,r,l,i,D,G,x8,T,J,z,S,L,v,x2,e,g,c,u,x7,Z,t,k,f,o,(.bool neg),(.bool false),undef,undef,(.bool false),(.bool false),(.bool a),(.bool true),(strOf d),(.bool ((d:LB)==[48])),(.bool false),(strOf d),(.bool ((d:LB)==[49])),(.bool ((d:LB)==[49])),(.bool ((d:LB)==[49])),(.bool ((d:LB)==[49])),s,R,m,C,H,y,j,w,A,K,x,B,I,x5,M,N,F,b] h (EE SS aq Q)))) (wpS SS aq.nm aq.ms [1,1,1,1,1,1] cc [x0,x1,(.pointer (some p)),x3,x4,(.bool neg),(strOf n),(strOf d),(.bool a),x9,U,V,q,P,E,Y,x6,O,X,W,r,l,i,D,G,x8,T,J,z,S,L,v,x2,e,g,c,u,x7,Z,t,k,f,o,(.bool neg),(.bool false),undef,undef,(.bool false),(.bool false),(.bool a),(.bool false),undef,undef,undef,undef,undef,undef,(.bool false),(.bool false),s,R,m,C,H,y,j,w,A,K,x,B,I,x5,M,N,F,b] h (EE SS aq Q)))
theorem Cj{neg:Bool}{x3 x4 x9 y1 y3 x x6 L y8 z4 x5 y7 y5 y p m K N z7 y0 S G x8 W C z2 f l d B z5 z1 A o k u O j i y4 z6 z0 T y9 V r g y2 a y6 X Z z x7 q J P F n D H U E I R z3 Y x2 M c:Value}(hx:tg s t neg b e (jD [1,1,1,1,1,1] aq.body) v w x3 x4 x9 y1 y3 x x6 L y8 z4 x5 y7 y5 y p m K N z7 y0 S G x8 W C z2 f l d B z5 z1 A o k u O j i y4 z6 z0 T y9 V r g y2 a y6 X Z z x7 q J P F n D H U E I R z3 Y x2 M c h Q):TT SS aq [1,1,1,1,1] [v,w,(.pointer (some e)),x3,x4,(.bool neg),(strOf s),(strOf t),(.bool b),x9,y1,y3,x,x6,L,y8,z4,x5,y7,y5,y,p,m,K,N,z7,y0,S,G,x8,W,C,z2,f,l,d,B,z5,z1,A,o,k,u,O,j,i,y4,z6,z0,T,y9,V,r,g,y2,a,y6,X,Z,z,x7,q,J,P,F,n,D,H,U,E,I,R,z3,Y,x2,M,c] h (EE SS aq Q):=by
 have z8:∀cc,tg s t neg b e cc v w x3 x4 x9 y1 y3 x x6 L y8 z4 x5 y7 y5 y p m K N z7 y0 S G x8 W C z2 f l d B z5 z1 A o k u O j i y4 z6 z0 T y9 V r g y2 a y6 X Z z x7 q J P F n D H U E I R z3 Y x2 M c h Q=wpS SS aq.nm aq.ms [1,1,1,1,1] (setAt [1] cc (jD [1,1,1,1,1] aq.body)) [v,w,(.pointer (some e)),x3,x4,(.bool neg),(strOf s),(strOf t),(.bool b),x9,y1,y3,x,x6,L,y8,z4,x5,y7,y5,y,p,m,K,N,z7,y0,S,G,x8,W,C,z2,f,l,d,B,z5,z1,A,o,k,u,O,j,i,y4,z6,z0,T,y9,V,r,g,y2,a,y6,X,Z,z,x7,q,J,P,F,n,D,H,U,E,I,R,z3,Y,x2,M,c] h (EE SS aq Q):=λcc=>by kernel_rfl
 have z8:=z8 (jD [1,1,1,1,1,1] aq.body);have ec:(jD [1,1,1,1,1,1] aq.body)=jD [1] (jD [1,1,1,1,1] aq.body):=by kernel_rfl
 have es:setAt [1] (jD [1,1,1,1,1,1] aq.body) (jD [1,1,1,1,1] aq.body)=jD [1,1,1,1,1] aq.body:=by rw[ec,iX]
 rw[es]at z8;exact ax hx z8
abbrev th(n d:LB)(neg t:Bool)(p:Addr)(cc:Code)(x0 x1 x3 x4 x9 z9 W w S E x6 y3 R x5 Z x s q D G y6 U I C T L B y1 i o g A y4 y0 z r m v H l k Y y5 x8 J x7 K u j V e x2 M O y z8 y8 z4 z5 z1 y7 y9 z2 z7 z0 z3 z6 y2 N P F f:Value)(h:aa)(Q:VH):Prop:=FW SS 204 [(strOf n),(strOf d)] h λv1 c=>∃a:LB,∃b:Int,v1=(.tuple ⟨[(strOf a),(.int .i64 b)]⟩)/\aQ (((b:Int) !=0)) (xA (aD SS.P 222 []) λc5=>xU (aj SS.P 222 (.pointer (some p)) (.agg ⟨c5⟩) c) c λu6 g7=>di SS [((.pointer (some p)),some 222),((.bool false),none)] g7 Q) (aQ (!((a:LB)==[49])) (xA (aD SS.P 222 []) λc8=>xU (aj SS.P 222 (.pointer (some p)) (.agg ⟨c8⟩) c) c λu9 X=>di SS [((.pointer (some p)),some 222),((.bool false),none)] X Q) (wpS SS aq.nm aq.ms [1,1,1,1,1,1,1] cc [x0,x1,(.pointer (some p)),x3,x4,(.bool neg),(strOf n),(strOf d),(.bool t),(strOf a),(.int .i64 b),W,w,S,E,x6,y3,R,x5,Z,x,s,q,D,G,y6,U,I,C,T,L,B,y1,i,o,g,A,y4,y0,z,r,m,v,H,l,k,Y,y5,x8,J,x7,K,u,j,V,e,x2,M,O,y,(.tuple ⟨[(strOf a),(.int .i64 b)]⟩),(strOf n),(strOf d),(.tuple ⟨[(strOf a),(.int .i64 b)]⟩),(strOf a),(.int .i64 b),(.int .i64 b),(.bool (((b:Int) !=0))),(.bool false),(strOf a),(.bool (!((a:LB)==[49]))),(.bool (!((a:LB)==[49]))),y2,N,P,F,f] c (EE SS aq Q)))
theorem Ck{neg:Bool}{x3 x4 x9 y1 y3 x x6 L y8 z4 x5 y7 y5 y p m K N z7 y0 S G x8 W C z2 f l d B z5 z1 A o k u O j i y4 z6 z0 T y9 V r g y2 a y6 X Z z x7 q J P F n D H U E I R z3 Y x2 M c:Value}(hx:th s t neg b e (jD [1,1,1,1,1,1,1] aq.body) v w x3 x4 x9 y1 y3 x x6 L y8 z4 x5 y7 y5 y p m K N z7 y0 S G x8 W C z2 f l d B z5 z1 A o k u O j i y4 z6 z0 T y9 V r g y2 a y6 X Z z x7 q J P F n D H U E I R z3 Y x2 M c h Q):TT SS aq [1,1,1,1,1,1] [v,w,(.pointer (some e)),x3,x4,(.bool neg),(strOf s),(strOf t),(.bool b),x9,y1,y3,x,x6,L,y8,z4,x5,y7,y5,y,p,m,K,N,z7,y0,S,G,x8,W,C,z2,f,l,d,B,z5,z1,A,o,k,u,O,j,i,y4,z6,z0,T,y9,V,r,g,y2,a,y6,X,Z,z,x7,q,J,P,F,n,D,H,U,E,I,R,z3,Y,x2,M,c] h (EE SS aq Q):=by
 have z8:∀cc,th s t neg b e cc v w x3 x4 x9 y1 y3 x x6 L y8 z4 x5 y7 y5 y p m K N z7 y0 S G x8 W C z2 f l d B z5 z1 A o k u O j i y4 z6 z0 T y9 V r g y2 a y6 X Z z x7 q J P F n D H U E I R z3 Y x2 M c h Q=wpS SS aq.nm aq.ms [1,1,1,1,1,1] (setAt [1] cc (jD [1,1,1,1,1,1] aq.body)) [v,w,(.pointer (some e)),x3,x4,(.bool neg),(strOf s),(strOf t),(.bool b),x9,y1,y3,x,x6,L,y8,z4,x5,y7,y5,y,p,m,K,N,z7,y0,S,G,x8,W,C,z2,f,l,d,B,z5,z1,A,o,k,u,O,j,i,y4,z6,z0,T,y9,V,r,g,y2,a,y6,X,Z,z,x7,q,J,P,F,n,D,H,U,E,I,R,z3,Y,x2,M,c] h (EE SS aq Q):=λcc=>by kernel_rfl
 have z8:=z8 (jD [1,1,1,1,1,1,1] aq.body);have ec:(jD [1,1,1,1,1,1,1] aq.body)=jD [1] (jD [1,1,1,1,1,1] aq.body):=by kernel_rfl
 have es:setAt [1] (jD [1,1,1,1,1,1,1] aq.body) (jD [1,1,1,1,1,1] aq.body)=jD [1,1,1,1,1,1] aq.body:=by rw[ec,iX]
 rw[es]at z8;exact ax hx z8
theorem Cl{neg:Bool}{x3 x4 x9 y1 y3 x x6 L y8 z4 x5 y7 y5 y p m K N z7 y0 S G x8 W C z2 f l d B z5 z1 A o k u O j i y4 z6 z0 T y9 V r g y2 a y6 X Z z x7 q J P F n D H U E I R z3 Y x2 M c:Value}(hx:xA (aD SS.P 222 [(0,(.bool neg)),(1,(strOf s)),(2,(strOf t))]) λc1=>xU (aj SS.P 222 (.pointer (some e)) (.agg ⟨c1⟩) h) h λu2 g3=>di SS [((.pointer (some e)),some 222),((.bool true),none)] g3 Q):TT SS aq [1,1,1,1,1,1,1] [v,w,(.pointer (some e)),x3,x4,(.bool neg),(strOf s),(strOf t),(.bool b),x9,y1,y3,x,x6,L,y8,z4,x5,y7,y5,y,p,m,K,N,z7,y0,S,G,x8,W,C,z2,f,l,d,B,z5,z1,A,o,k,u,O,j,i,y4,z6,z0,T,y9,V,r,g,y2,a,y6,X,Z,z,x7,q,J,P,F,n,D,H,U,E,I,R,z3,Y,x2,M,c] h (EE SS aq Q):=ax hx
noncomputable def Mw:FD:=ei Tryz.f155 []
theorem JE(l:LB)(h:aa)(Q:VH)(c:FW SS 169 [(strOf l)] h λe d=>∃b:LV,∃a:Bool,e=(.tuple ⟨[(.agg ⟨b⟩),(.bool a)]⟩)/\Q (.bool a) d):FW SS 155 [(strOf l)] h Q:=eu Mw Tryz.func155 (ax c)
noncomputable def QU:FD:=ei Tryz.f170 []
theorem Mt(p:Bool)(l:LB)(q:Bool)(m:LB)(h:aa)(Q:VH)(z:aQ (p==q) (FW SS 205 [(strOf l),(strOf m)] h λD A=>∃s:LB,∃v:Int,D=(.tuple ⟨[(strOf s),(.int .i64 v)]⟩)/\FW SS 171 [(strOf s),(.int .i64 v)] A λB C=>yS B λx=>Q (.tuple ⟨[(.bool p),(strOf x)]⟩) C) (FW SS 206 [(strOf l),(strOf m)] h λy t=>yI .i64 y λj=>aQ (decide ((j:Int)<0)) (FW SS 207 [(strOf m),(strOf l)] t λg o=>∃c:LB,∃b:Int,g=(.tuple ⟨[(strOf c),(.int .i64 b)]⟩)/\FW SS 171 [(strOf c),(.int .i64 b)] o λe k=>yS e λn=>Q (.tuple ⟨[(.bool q),(strOf n)]⟩) k) (FW SS 207 [(strOf l),(strOf m)] t λf u=>∃a:LB,∃d:Int,f=(.tuple ⟨[(strOf a),(.int .i64 d)]⟩)/\FW SS 171 [(strOf a),(.int .i64 d)] u λw r=>yS w λi=>Q (.tuple ⟨[(.bool p),(strOf i)]⟩) r))):FW SS 170 [(.bool p),(strOf l),(.bool q),(strOf m)] h Q:=eu QU Tryz.func170 (ax z)
noncomputable def UO:FD:=ei Tryz.f131 []
theorem QR(l m:LB)(h:aa)(Q:VH)(S:FW SS 169 [(strOf l)] h λU p=>∃y:LV,∃H:Bool,U=(.tuple ⟨[(.agg ⟨y⟩),(.bool H)]⟩)/\xN (aA SS.P 222) p λY K=>xU (aj SS.P 222 (pA (p.next)) (.agg ⟨y⟩) K) K λX R=>FW SS 169 [(strOf m)] R λT k=>∃n:LV,∃C:Bool,T=(.tuple ⟨[(.agg ⟨n⟩),(.bool C)]⟩)/\xN (aA SS.P 222) k λV v=>xU (aj SS.P 222 (pA (k.next)) (.agg ⟨n⟩) v) v λW c=>aQ (!H) (Q (.int .i64 0) c) (aQ (!C) (Q (.int .i64 0) c) (xP (af SS.P 222 (pA (p.next)) 0) λi=>xB (ae SS.P 4 (room c 27) (.pointer (some i))) λb=>xP (af SS.P 222 (pA (p.next)) 1) λG=>xS (ae SS.P 9 (room c 27) (.pointer (some G))) λE=>xP (af SS.P 222 (pA (k.next)) 2) λF=>xS (ae SS.P 9 (room c 27) (.pointer (some F))) λM=>FW SS 172 [(strOf E),(strOf M)] (room c 27) λJ g=>∃z:LB,∃B:Int,J=(.tuple ⟨[(strOf z),(.int .i64 B)]⟩)/\FW SS 171 [(strOf z),(.int .i64 B)] g λN j=>yS N λL=>xP (af SS.P 222 (pA (k.next)) 0) λf=>xB (ae SS.P 4 j (.pointer (some f))) λa=>xP (af SS.P 222 (pA (k.next)) 1) λr=>xS (ae SS.P 9 j (.pointer (some r))) λe=>xP (af SS.P 222 (pA (p.next)) 2) λs=>xS (ae SS.P 9 j (.pointer (some s))) λd=>FW SS 172 [(strOf e),(strOf d)] j λD t=>∃u:LB,∃A:Int,D=(.tuple ⟨[(strOf u),(.int .i64 A)]⟩)/\FW SS 171 [(strOf u),(.int .i64 A)] t λO q=>yS O λI=>FW SS 170 [(.bool b),(strOf L),(.bool (!a)),(strOf I)] q λP o=>∃x:Bool,∃w:LB,P=(.tuple ⟨[(.bool x),(strOf w)]⟩)/\(ae SS.P 4 g (.pointer (some i))=some (.bool b)/\cZ 4 (.bool b) (.bool b)=true)/\(ae SS.P 4 j (.pointer (some i))=some (.bool b)/\cZ 4 (.bool b) (.bool b)=true)/\(ae SS.P 4 t (.pointer (some i))=some (.bool b)/\cZ 4 (.bool b) (.bool b)=true)/\(ae SS.P 4 q (.pointer (some i))=some (.bool b)/\cZ 4 (.bool b) (.bool b)=true)/\(ae SS.P 4 (room c 27) (.pointer (some f))=some (.bool a)/\cZ 4 (.bool a) (.bool a)=true)/\(ae SS.P 4 g (.pointer (some f))=some (.bool a)/\cZ 4 (.bool a) (.bool a)=true)/\(ae SS.P 4 t (.pointer (some f))=some (.bool a)/\cZ 4 (.bool a) (.bool a)=true)/\(ae SS.P 4 q (.pointer (some f))=some (.bool a)/\cZ 4 (.bool a) (.bool a)=true)/\(ae SS.P 9 (room c 27) (.pointer (some r))=some (strOf e)/\cZ 4 (strOf e) (strOf e)=true)/\(ae SS.P 9 g (.pointer (some r))=some (strOf e)/\cZ 4 (strOf e) (strOf e)=true)/\(ae SS.P 9 (room c 27) (.pointer (some s))=some (strOf d)/\cZ 4 (strOf d) (strOf d)=true)/\(ae SS.P 9 g (.pointer (some s))=some (strOf d)/\cZ 4 (strOf d) (strOf d)=true)/\aQ ((w:LB)==[48]) (Q (.int .i64 0) o) (aQ x (Q (.int .i64 (-1)) o) (Q (.int .i64 1) o))))):FW SS 131 [(strOf l),(strOf m)] h Q:=eu UO Tryz.func131 (ax S)
noncomputable def Ts:FD:=ei Tryz.f258 []
theorem PL(l m:LB)(h:aa)(Q:VH)(a:aQ (decide ((((l:LB).length:Int):Int)>=((m:LB).length:Int))) (xS (bm SS.P 9 (strOf l) none (some (.int .i64 ((m:LB).length:Int))) none h) λb=>Q (.bool ((b:LB)==m)) h) (Q (.bool false) h)):FW SS 258 [(strOf l),(strOf m)] h Q:=eu Ts Tryz.func258 (ax a)
noncomputable def eV:FD:=ei Tryz.f203 [([1,1,0,1,0,0],[0,22,23])]
abbrev jP(l:LB)(i:Int):LV:=[(strOf l),(.int .i64 (l.length:Int)),(.int .i64 i)]
theorem yU(l:LB)(h:aa)(Q:VH)(b:aQ ((l:LB)==[]) (Q (.bool false) h) (aQ (decide ((((l:LB).length:Int):Int)>1000)) (Q (.bool false) h) (aQ (decide ((((l:LB).length:Int):Int)>1)) (xI .u8 (bH SS.P 9 (strOf l) (.int .i64 0)) λa=>aQ (((a:Int)==48)) (Q (.bool false) h) (LL SS eV [1,1,0,1,0,0] [(strOf l),(.int .i64 ((l:LB).length:Int)),(.int .i64 0)] h (KK SS eV [1,1,0,1,0] [] (EE SS eV Q)))) (LL SS eV [1,1,0,1,0,0] [(strOf l),(.int .i64 ((l:LB).length:Int)),(.int .i64 0)] h (KK SS eV [1,1,0,1,0] [] (EE SS eV Q)))))):FW SS 203 [(strOf l)] h Q:=eu eV Tryz.func203 (ax b)
theorem sC(l:LB)  (b:Nat->Int->aa->Prop) (Q:VH) (step:∀(a:Nat)(i:Int)(d:Nat->Value)(h:aa),b a i h->aQ (decide ((i:Int)<(l.length:Int))) (xI .u8 (bH SS.P 9 (strOf l) (.int .i64 i)) λf=>aQ (decide ((f:Int)<48)) (Q (.bool false) h) (xI .u8 (bH SS.P 9 (strOf l) (.int .i64 i)) λe=>aQ (decide ((e:Int)>57)) (Q (.bool false) h) (aJ (fB (jP l) b) a [(strOf l),(.int .i64 (l.length:Int)),(.int .i64 (wrap .i64 (i+1)))] h))) (Q (.bool true) h)) (a:Nat) {i:Int} {h:aa} (c:b a i h):LL SS eV [1,1,0,1,0,0] (jP l i) h (KK SS eV [1,1,0,1,0] [] (EE SS eV Q)):=
 dQ (jP l) b (λa i d h c=>ax (step a i d h c)) a c
variable{i:Nat}
theorem adP:SS.P.underlying 9=some .string:=by kernel_rfl
theorem Yg(l:List UInt8){h:aa}{i:Int}(b:0<=i)(a:i<l.length):bH SS.P 9 (strOf l) (.int .i64 i)=some (.int .u8 ((l.getD i.toNat 0).toNat:Nat)):=rV adP l _ b a
theorem aa3{c:UInt8}(a:¬(c.toNat:Int)<48)(b:¬(c.toNat:Int)>57):cp c=true:=by
 unfold cp;simp;omega
theorem Uk{c:UInt8}(h:(c.toNat:Int)<48\/(c.toNat:Int)>57):cp c=false:=by
 unfold cp;simp;omega
theorem Db{l:List UInt8}(b:i<l.length)(c:(l.take i).all cp=true)(a:cp (l.getD i 0)=true):(l.take (i+1)).all cp=true:=by
 rw[List.take_succ_eq_append_getElem b,all_append,c];rw[gD,gE b]at a;simpa using a
theorem DV{l:List UInt8}(b:i<l.length)(a:cp (l.getD i 0)=false):l.all cp=false:=by
 rw[gD,gE b]at a;exact List.all_eq_false.2 ⟨l[i],getElem_mem b,by simpa using a⟩
theorem Ni{l:List UInt8}(h:1000<l.length):aK l=false:=by
 unfold aK;rw[decide_eq_false (by omega:¬l.length<=1000)];simp
theorem Nj{l:List UInt8}(h:1<l.length)(b:l.getD 0 0=48):aK l=false:=by
 unfold aK
 cases l with
 |nil=>rfl
 |cons a l=>
  have b:a=48:=b;subst b;rw[decide_eq_true h];simp
theorem E8{l:List UInt8}(e:l≠[])(c:l.length<=1000)(d:1<l.length->l.getD 0 0≠48):aK l=l.all cp:=by
 unfold aK
 cases l with
 |nil=>exact absurd rfl e
 |cons a l=>
  rw[decide_eq_true c];by_cases h:1<(a::l).length
  ·have b:a≠48:=d h;rw[decide_eq_true h];simp[b]
  ·rw[decide_eq_false h];simp
theorem aar{c:UInt8}:((c.toNat:Int)==48)=true↔c=48:=by
 rw[beq_iff_eq];refine⟨λh=>UInt8.toNat_inj.1 ?_,λh=>by rw[h];rfl⟩;have a:(48:UInt8).toNat=48:=rfl;omega
theorem dj(l:List UInt8)(h:aa):FW SS 203 [strOf l] h (λv o=>v = .bool (aK l)/\o=h):=by
 by_cases j:l.length<=1000
 case neg=>
  refine yU l h _ (ah (λa=>?_) (λa=>ah (λd=>?_) (λd=>?_)))
  ·obtain rfl:l=[]:=by simpa using a
   exact⟨rfl,rfl⟩
  ·exact⟨by rw[Ni (by omega)],rfl⟩
  ·have:=dF d;omega
 have L:=λ(n:aK l=l.all cp)=>sC l (λm i g=>0<=i/\i<=l.length/\m=l.length-i.toNat/\(l.take i.toNat).all cp=true/\g=h) (λv o=>v = .bool (aK l)/\o=h) (by
  intro m i;intros;rename_i g t;obtain⟨a,d,k,b,rfl⟩:=t;refine ah (λc=>?_) (λc=>?_)
  ·have c:=dT c;have f:i.toNat<l.length:=by omega
   refine⟨_,Yg (h:=g) l a c,ah (λq=>?_) (λq=>⟨_,Yg (h:=g) l a c,ah (λp=>?_) (λp=>?_)⟩)⟩
   ·exact⟨by rw[n,DV f (Uk (.inl (dT q)))],rfl⟩
   ·exact⟨by rw[n,DV f (Uk (.inr (dT p)))],rfl⟩
   ·have s:wrap .i64 (i+1)=i+1:=aO (by omega) (by omega);refine cK (m-1) (by omega) ?_;rw[s];refine⟨by omega,by omega,by omega,?_,rfl⟩;rw[show(i+1).toNat=i.toNat+1 by omega];exact Db f b (aa3 (dF q) (dF p))
  ·have c:=dF c;refine⟨?_,rfl⟩;rw[n,<-b,take_of_length_le (by omega)])
 refine yU l h _ (ah (λa=>?_) (λa=>ah (λd=>?_) (λd=>?_)))
 ·obtain rfl:l=[]:=by simpa using a
  exact⟨rfl,rfl⟩
 ·have:=dT d;omega
 ·have a:l≠[]:=by simpa using a
  have r:=length_pos_iff.2 a;refine ah (λk=>⟨_,Yg (h:=h) l (by omega) (by omega),ah (λb=>?_) (λb=>?_)⟩) (λk=>?_)
  ·exact⟨by rw[Nj (by have:=dT k;omega) (aar.1 b)],rfl⟩
  ·exact L (E8 a j λ_ e=>by have b:(((l.getD 0 0).toNat:Int)==48)=false:=b;rw[aar.2 e]at b;cases b) l.length ⟨by omega,by omega,by simp,by simp,rfl⟩
  ·exact L (E8 a j λe=>by have:=dF k;omega) l.length ⟨by omega,by omega,by simp,by simp,rfl⟩
theorem abm{a b:Nat}(h:((a:Int) !=b)=true):a≠b:=by
 intro e;subst e;simp at h
theorem aa4{a b:Nat}(h:((a:Int) !=b)=false):a=b:=by
 by_cases e:a=b
 ·exact e
 ·exfalso;have:(a:Int)≠b:=by omega
  simp[this]at h
def iv(d:Nat):Value:= .int .i64 (d:Int)
theorem cQ:SS.P.underlying 27=some (.slice 3):=by kernel_rfl
theorem wF:au SS.P 3=some 1:=by kernel_rfl
theorem lp:SS.P.underlying 3=some (.int .i64):=by kernel_rfl
theorem ll:Go.Ab.isAgg SS.P 3=false:=by kernel_rfl
noncomputable def re3:TypeInfo:=(dG SS.P 3).getD default
theorem rk:dG SS.P 3=some re3:=by kernel_rfl
theorem kX:re3.size=1:=by kernel_rfl
theorem iV:re3.bytes=8:=by kernel_rfl
theorem tH(z:Int):az SS.P 27 1 [(0,.int .i64 z)]=some (.cells [.int .i64 z] 3 1 true,jc 1 1):=by kernel_rfl
theorem OC:SS.P.underlying 183=some (.slice 5):=by kernel_rfl
theorem zz5:au SS.P 5=some 1:=by kernel_rfl
theorem Sa{l:List UInt8}(a:l.all cp=true){i:Nat}(h:i<l.length):cp (l.getD i 0)=true:=by
 rw[gD,gE h];exact all_eq_true.1 a _ (getElem_mem h)
def jK(h:aa)(e:TypeId)(d:List Value):VH:=λv b=>∃a n c,v = .slice a n c/\fg h b e (.slice a n c) d/\Ok h b
variable{k:Nat}
theorem aa9{l:List UInt8}(h:k<l.length):l[k]?=some (l.getD k 0):=by
 rw[gD,gE h];rfl
def E5(a:List UInt8)(e:Int):Value:= .tuple ⟨[strOf a,.int .i64 e]⟩
def Lx(a b:List UInt8):Value:=if aK a=true/\aK b=true then E5 (aC (Nat.gcd (Num.val a) (Num.val b))) 0 else E5 [] 1
noncomputable def jO:FD:=ei Tryz.f210 [([1,0,0,0],[0])]
abbrev lE  (r:OA) (m d:Nat):LV:=[(.slice r m d)]
theorem BT(a:OA)(n c:Nat)(h:aa)(Q:VH)(b:LL SS jO [1,0,0,0] [(.slice a n c)] h (KK SS jO [1,0,0] [] (EE SS jO Q))):FW SS 210 [(.slice a n c)] h Q:=eu jO Tryz.func210 (ax b)
theorem mI(a:OA)(n c:Nat)  (e:Nat->OA->Nat->Nat->aa->Prop) (Q:VH) (step:∀(b:Nat)(r:OA)(m d:Nat)(g:Nat->Value)(h:aa),e b r m d h->aQ (decide (((m:Int):Int)>0)) (xP (ai SS.P 260 (.slice r m d) (.int .i64 (wrap .i64 ((m:Int)-1)))) λk=>xI .u64 (ae SS.P 240 h (.pointer (some k))) λi=>aQ (((i:Int)==0)) (xL (bm SS.P 260 (.slice r m d) none (some (.int .i64 (wrap .i64 ((m:Int)-1)))) none h) λj l o=>aJ (LA3 lE e) b [(.slice j l o)] h) (Q (.slice r m d) h)) (Q (.slice r m d) h)) (b:Nat) {r:OA} {m d:Nat} {h:aa} (f:e b r m d h):LL SS jO [1,0,0,0] (lE  r m d) h (KK SS jO [1,0,0] [] (EE SS jO Q)):=
 U9 lE e (λb r m d g h f=>ax (step b r m d g h f)) b f
noncomputable def bY:FD:=ei Tryz.f208 [([1,1,0,0,0],[0,3]),([1,1,0,0,0,1,0,1,1,0,1,0,0],[0,3,4,5,6])]
abbrev eN  (s:LB) (r:OA) (a b:Nat):LV:=[(strOf s),(.slice r a b)]
abbrev gH(s:LB)(r:OA)(b c:Nat)(a:Int)(i v:Int):LV:=[(strOf s),(.slice r b c),(.int .i64 a),(.int .u64 v),(.int .i64 i)]
theorem Gp(l:LB)(h:aa)(Q:VH)(a:LL SS bY [1,1,0,0,0] [(strOf l),nA] h (KK SS bY [1,1,0,0] [] (EE SS bY Q))):FW SS 208 [(strOf l)] h Q:=eu bY Tryz.func208 (ax a)
theorem qO(l:LB)  (d:Nat->LB->OA->Nat->Nat->aa->Prop) (Q:VH) (step:∀(c:Nat)(s:LB)(r:OA)(a b:Nat)(g:Nat->Value)(h:aa),d c s r a b h->aQ (decide ((((s:LB).length:Int):Int)>0)) (xI .i64 (qm true [(.int .i64 0),(.int .i64 (wrap .i64 (((s:LB).length:Int)-9)))]) λf=>LL SS bY [1,1,0,0,0,1,0,1,1,0,1,0,0] (gH s r a b f f 0) h (KK SS bY [1,0,1,1,0,1,0] [1,1,0,0,0] (RR bY [1,1,0,0,0] (RL eN d) c (KK SS bY [1,1,0,0] [] (EE SS bY Q))))) (FW SS 210 [(.slice r a b)] h λj k=>yL j λm i n=>Q (.slice m i n) k)) (c:Nat) {s:LB} {r:OA} {a b:Nat} {h:aa} (e:d c s r a b h):LL SS bY [1,1,0,0,0] (eN  s r a b) h (KK SS bY [1,1,0,0] [] (EE SS bY Q)):=
 Va eN d (λc s r a b g h e=>ax (step c s r a b g h e)) c e
theorem qP(l:LB)(f:Nat->LB->OA->Nat->Nat->aa->Prop)(n:Nat)(s:LB)(r:OA)(d e:Nat)(c:Int)(b:Nat->Int->Int->aa->Prop)(Q:VH)(step:∀(a:Nat) (i v:Int) (q:Nat->Value) (h:aa),b a i v h->aQ (decide ((i:Int)<((s:LB).length:Int))) (xI .u8 (bH SS.P 9 (strOf s) (.int .i64 i)) λx=>aJ (C1 (gH s r d e c) b) a [(strOf s),(.slice r d e),(.int .i64 c),(.int .u64 (wrap .u64 (wrap .u64 (10*v)+wrap .u64 (wrap .u8 (x-48))))),(.int .i64 (wrap .i64 (i+1)))] h) (xR (az SS.P 260 1 [(0,(.int .u64 v))]) h λz w u j=>xE (aE SS.P 260 260 (.slice r d e) (sA (h.next) w u) j) j λm o t y g=>xS (bm SS.P 9 (strOf s) none (some (.int .i64 c)) none g) λp=>aJ (RL eN f) n [(strOf p),(.slice m o t)] g))(a:Nat){i v:Int}{h:aa}(k:b a i v h):LL SS bY [1,1,0,0,0,1,0,1,1,0,1,0,0] (gH s r d e c i v) h (KK SS bY [1,0,1,1,0,1,0] [1,1,0,0,0] (RR bY [1,1,0,0,0] (RL eN f) n (KK SS bY [1,1,0,0] [] (EE SS bY Q)))):=
 tl (gH s r d e c) b (λa i v q h k=>ax (step a i v q h k)) a k
noncomputable def abk:FD:=ei Tryz.f289 []
theorem YF(x:Int)(h:aa)(Q:VH)(a:Q (.bool (((x:Int) !=x))) h):FW SS 289 [(.int .u64 x)] h Q:=eu abk Tryz.func289 (ax a)
noncomputable def aaW:FD:=ei Tryz.f268 []
theorem Xr(x y:Int)(h:aa)(Q:VH)(e:FW SS 289 [(.int .u64 x)] h λg f=>yB g λd=>FW SS 289 [(.int .u64 y)] f λc a=>yB c λb=>aQ d (aQ b (Q (.int .i64 0) a) (Q (.int .i64 (-1)) a)) (aQ b (Q (.int .i64 1) a) (aQ (decide ((x:Int)<y)) (Q (.int .i64 (-1)) a) (aQ (decide ((x:Int)>y)) (Q (.int .i64 1) a) (Q (.int .i64 0) a))))):FW SS 268 [(.int .u64 x),(.int .u64 y)] h Q:=eu aaW Tryz.func268 (ax e)
noncomputable def abj:FD:=ei Tryz.f175 []
theorem YE(x:Int)(h:aa)(Q:VH)(a:Q (.bool (((x:Int) !=x))) h):FW SS 175 [(.int .i64 x)] h Q:=eu abj Tryz.func175 (ax a)
noncomputable def aaV:FD:=ei Tryz.f139 []
theorem Xn(x y:Int)(h:aa)(Q:VH)(e:FW SS 175 [(.int .i64 x)] h λg f=>yB g λd=>FW SS 175 [(.int .i64 y)] f λc a=>yB c λb=>aQ d (aQ b (Q (.int .i64 0) a) (Q (.int .i64 (-1)) a)) (aQ b (Q (.int .i64 1) a) (aQ (decide ((x:Int)<y)) (Q (.int .i64 (-1)) a) (aQ (decide ((x:Int)>y)) (Q (.int .i64 1) a) (Q (.int .i64 0) a))))):FW SS 139 [(.int .i64 x),(.int .i64 y)] h Q:=eu aaV Tryz.func139 (ax e)
noncomputable def fN:FD:=ei Tryz.f241 [([1,1,0,1,0,0],[0,1,18,19])]
abbrev fO(a:OA)(n c:Nat)(b:OA)(m d:Nat)(i:Nat):LV:=[(.slice a n c),(.slice b m d),(iA n),(iA i)]
theorem Du(a:OA)(n c:Nat)(b:OA)(m d:Nat)(h:aa)(Q:VH)(f:aQ ((((n:Int):Int) !=(m:Int))) (FW SS 139 [(iA n),(iA m)] h λi g=>yI .i64 i λe=>Q (.int .i64 e) g) (LL SS fN [1,1,0,1,0,0] (fO a n c b m d 0) h (KK SS fN [1,1,0,1,0] [] (EE SS fN Q)))):FW SS 241 [(.slice a n c),(.slice b m d)] h Q:=eu fN Tryz.func241 (ax f)
theorem qn(a:OA)(n c:Nat)(b:OA)(m d:Nat)  (f:Nat->Nat->aa->Prop) (Q:VH) (step:∀(e:Nat)(i:Nat)(k:Nat->Value)(h:aa),f e i h->aQ (decide (((i:Int):Int)<(n:Int))) (xP (ai SS.P 260 (.slice a n c) (.int .i64 (wrap .i64 (wrap .i64 ((n:Int)-1)-(i:Int))))) λr=>xI .u64 (ae SS.P 240 (room h 18) (.pointer (some r))) λo=>xP (ai SS.P 260 (.slice b m d) (.int .i64 (wrap .i64 (wrap .i64 ((n:Int)-1)-(i:Int))))) λs=>xI .u64 (ae SS.P 240 (room h 18) (.pointer (some s))) λq=>FW SS 268 [(.int .u64 o),(.int .u64 q)] (room h 18) λp l=>yI .i64 p λg=>aQ (((g:Int) !=0)) (Q (.int .i64 g) l) (aJ (fB (fO a n c b m d) f) e [(.slice a n c),(.slice b m d),(iA n),(.int .i64 (wrap .i64 ((i:Int)+1)))] l)) (Q (.int .i64 0) h)) (e:Nat) {i:Nat} {h:aa} (j:f e i h):LL SS fN [1,1,0,1,0,0] (fO a n c b m d i) h (KK SS fN [1,1,0,1,0] [] (EE SS fN Q)):=
 dQ (fO a n c b m d) f (λe i k h j=>ax (step e i k h j)) e j
noncomputable def Q8:FD:=ei Tryz.f283 []
theorem MD(x y z:Int)(p:OA)(h:aa)(Q:VH)(d:xI .u64 (ae SS.P 240 h (.pointer p)) λa=>xI .u64 (ay SS.P .rem 240 (.int .u64 (wrap .u64 (wrap .u64 (x*a)+z))) (.int .u64 1000000000)) λc=>xI .u64 (ay SS.P .quo 240 (.int .u64 (wrap .u64 (wrap .u64 (x*a)+z))) (.int .u64 1000000000)) λb=>Q (.tuple ⟨[(.int .u64 c),(.int .u64 b)]⟩) h):FW SS 283 [(.int .u64 x),(.int .u64 y),(.int .u64 z),(.pointer p)] h Q:=eu Q8 Tryz.func283 (ax d)
noncomputable def fK:FD:=ei Tryz.f266 [([1,1,1,0,1,0,0],[0,1,2,7,8,18,19])]
abbrev dA(a:OA)(n c:Nat)(p:OA)(b:Int)(i:Nat)(cy:Int)(r:OA)(d e:Nat):LV:=[(.slice a n c),nA,(.func (.func 283) ⟨[]⟩ ⟨[(.pointer p)]⟩),(.slice r d e),(.int .u64 cy),(.int .i64 b),(iA i)]
theorem Dh(a:OA)(n c:Nat)(p:OA)(h:aa)(Q:VH)(d:xI .i64 (qm true [(iA n),(.int .i64 0)]) λb=>LL SS fK [1,1,1,0,1,0,0] [(.slice a n c),nA,(.func (.func 283) ⟨[]⟩ ⟨[(.pointer p)]⟩),nA,(.int .u64 0),(.int .i64 (wrap .i64 (b+1))),(.int .i64 0)] h (KK SS fK [1,1,1,0,1,0] [] (EE SS fK Q))):FW SS 266 [(.slice a n c),nA,(.func (.func 283) ⟨[]⟩ ⟨[(.pointer p)]⟩)] h Q:=eu fK Tryz.func266 (ax d)
theorem qk(a:OA)(n c:Nat)(p:OA)(b:Int)(d:Nat->Nat->Int->OA->Nat->Nat->aa->Prop)(Q:VH)(step:∀(g:Nat) (i:Nat) (cy:Int) (r:OA) (e f:Nat) (V:Nat->Value) (h:aa),d g i cy r e f h->aQ (decide (((i:Int):Int)<b)) (aQ (decide (((i:Int):Int)<(n:Int))) (xP (ai SS.P 260 (.slice a n c) (iA i)) λp2=>xI .u64 (ae SS.P 240 h (.pointer (some p2))) λC=>aQ (decide (((i:Int):Int)<0)) (xP (ai SS.P 260 nA (iA i)) λp4=>xI .u64 (ae SS.P 240 h (.pointer (some p4))) λn5=>FW SS 283 [(.int .u64 C),(.int .u64 n5),(.int .u64 cy),(.pointer p)] h λv6 Y=>∃n8:Int,∃D:Int,v6=(.tuple ⟨[(.int .u64 n8),(.int .u64 D)]⟩)/\xR (az SS.P 260 1 [(0,(.int .u64 n8))]) Y λy5 P y0 k=>xE (aE SS.P 260 260 (.slice r e f) (sA (Y.next) P y0) k) k λB L S y8 J=>aJ (KE (dA a n c p b) d) g [(.slice a n c),nA,(.func (.func 283) ⟨[]⟩ ⟨[(.pointer p)]⟩),(.slice B L S),(.int .u64 D),(.int .i64 b),(.int .i64 (wrap .i64 ((i:Int)+1)))] J) (FW SS 283 [(.int .u64 C),(.int .u64 0),(.int .u64 cy),(.pointer p)] h λx5 y=>∃o:Int,∃x:Int,x5=(.tuple ⟨[(.int .u64 o),(.int .u64 x)]⟩)/\xR (az SS.P 260 1 [(0,(.int .u64 o))]) y λz0 O E q=>xE (aE SS.P 260 260 (.slice r e f) (sA (y.next) O E) q) q λy1 x2 x6 y9 Z=>aJ (KE (dA a n c p b) d) g [(.slice a n c),nA,(.func (.func 283) ⟨[]⟩ ⟨[(.pointer p)]⟩),(.slice y1 x2 x6),(.int .u64 x),(.int .i64 b),(.int .i64 (wrap .i64 ((i:Int)+1)))] Z)) (aQ (decide (((i:Int):Int)<0)) (xP (ai SS.P 260 nA (iA i)) λx1=>xI .u64 (ae SS.P 240 h (.pointer (some x1))) λK=>FW SS 283 [(.int .u64 0),(.int .u64 K),(.int .u64 cy),(.pointer p)] h λx9 m=>∃j:Int,∃l:Int,x9=(.tuple ⟨[(.int .u64 j),(.int .u64 l)]⟩)/\xR (az SS.P 260 1 [(0,(.int .u64 j))]) m λy7 x7 F v=>xE (aE SS.P 260 260 (.slice r e f) (sA (m.next) x7 F) v) v λT y2 R y3 I=>aJ (KE (dA a n c p b) d) g [(.slice a n c),nA,(.func (.func 283) ⟨[]⟩ ⟨[(.pointer p)]⟩),(.slice T y2 R),(.int .u64 l),(.int .i64 b),(.int .i64 (wrap .i64 ((i:Int)+1)))] I) (FW SS 283 [(.int .u64 0),(.int .u64 0),(.int .u64 cy),(.pointer p)] h λH w=>∃t:Int,∃u:Int,H=(.tuple ⟨[(.int .u64 t),(.int .u64 u)]⟩)/\xR (az SS.P 260 1 [(0,(.int .u64 t))]) w λy4 W x3 s=>xE (aE SS.P 260 260 (.slice r e f) (sA (w.next) W x3) s) s λx4 x0 G y6 M=>aJ (KE (dA a n c p b) d) g [(.slice a n c),nA,(.func (.func 283) ⟨[]⟩ ⟨[(.pointer p)]⟩),(.slice x4 x0 G),(.int .u64 u),(.int .i64 b),(.int .i64 (wrap .i64 ((i:Int)+1)))] M))) (FW SS 210 [(.slice r e f)] h λx8 U=>yL x8 λA N X=>Q (.slice A N X) U))(g:Nat){i:Nat}{cy:Int}{r:OA}{e f:Nat}{h:aa}(z:d g i cy r e f h):LL SS fK [1,1,1,0,1,0,0] (dA a n c p b i cy r e f) h (KK SS fK [1,1,1,0,1,0] [] (EE SS fK Q)):=
 Vb (dA a n c p b) d (λg i cy r e f V h z=>ax (step g i cy r e f V h z)) g z
noncomputable def Jf:FD:=ei Tryz.f260 []
theorem Gw(a:OA)(n c:Nat)(k:Int)(h:aa)(Q:VH)(f:xN (dK SS.P 240 (.int .u64 k)) h λl d=>FW SS 266 [(.slice a n c),nA,(.func (.func 283) ⟨[]⟩ ⟨[(pA (h.next))]⟩)] d λb i=>yL b λj g e=>Q (.slice j g e) i):FW SS 260 [(.slice a n c),(.int .u64 k)] h Q:=eu Jf Tryz.func260 (ax f)
variable{g:aa}{a:Option Addr}{n:Nat}
def uv(d:Nat):Value:= .int .u64 (d:Int)
theorem zj:SS.P.underlying 260=some (.slice 240):=by kernel_rfl
theorem OQ:SS.P.underlying 240=some (.int .u64):=by kernel_rfl
theorem CY:au SS.P 240=some 1:=by kernel_rfl
theorem NA:Go.Ab.isAgg SS.P 240=false:=by kernel_rfl
noncomputable def UQ:TypeInfo:=(dG SS.P 240).getD default
theorem JF:dG SS.P 240=some UQ:=by kernel_rfl
theorem Cn:UQ.size=1:=by kernel_rfl
theorem zd:UQ.bytes=8:=by kernel_rfl
theorem p8(z:Int):az SS.P 260 1 [(0,.int .u64 z)]=some (.cells [.int .u64 z] 240 1 true,jc 1 1):=by kernel_rfl
theorem jA(d:Wf g)(e:Ok g h){v:Value}{a:List Value}(o:fg g h 240 v a)(z:Int)(f:a.length<=100000):
  ∃(b:Option Addr)(n c:Nat)(u:aY),aE SS.P 260 260 v (.slice (some ⟨h.next,0,none⟩) 1 1) (h.push (.cells [.int .u64 z] 240 1 true))=some (.slice b n c,u)/\n=a.length+1/\fg g (u.app (h.push (.cells [.int .u64 z] 240 1 true))) 240 (.slice b n c) (a++[.int .u64 z])/\Ok g (u.app (h.push (.cells [.int .u64 z] 240 1 true))):=
 fg.snoc zj JF Cn d e o rfl (by rw[zd];omega) (by omega)
theorem T2(l:List Nat)(i:Nat)(h:i<l.length):(l.map uv).getD i undef = .int .u64 (l.getD i 0:Nat):=by
 simp[gD,getElem?_map,gE h,uv]
theorem D0{l:List Nat}(r:Rd h 240 v (l.map uv)){i:Int}(d:0<=i)(b:i<l.length):
  ∃p:Addr,ai SS.P 260 v (.int .i64 i)=some (.pointer (some p))/\ae SS.P 240 h (.pointer (some p))=some (.int .u64 (l.getD i.toNat 0:Nat)):=by
 obtain⟨p,c,a⟩:=r.at_ zj CY OQ NA (k:= .i64) d (by rw[lM];exact b);rw[T2 l _ (by omega)]at a;exact⟨p,c,a⟩
theorem pn{c:Nat}{l:List Nat}(o:fg g h 240 (.slice a n c) (l.map uv))(D:l.length<=100000):
  FW SS 210 [.slice a n c] h (λv w=>∃k f e,v = .slice k f e/\fg g h 240 (.slice k f e) ((cP l).map uv)/\w=h):=by
 have A:n=l.length:=by have:=o.len;rwa[lM]at this
 have L:=mI a n c (λb r m d J=>m<=l.length/\b=m/\fg g h 240 (.slice r m d) ((l.take m).map uv)/\cP l=cP (l.take m)/\J=h) (λv w=>∃k f e,v = .slice k f e/\fg g h 240 (.slice k f e) ((cP l).map uv)/\w=h) (by
  intro b r m d;intros;rename_i J I;obtain⟨K,rfl,u,x,rfl⟩:=I;have H:wrap .i64 ((b:Int)-1)=(b:Int)-1:=aO (by omega) (by omega);rw[H];have t:b≠0->l.take b=l.take (b-1)++[l.getD (b-1) 0]:=λt=>by
   obtain⟨j,rfl⟩:∃j,b=j+1:=⟨b-1,by omega⟩
   rw[List.take_succ_eq_append_getElem (by omega),add_sub_cancel,gD,gE (by omega)];rfl
  refine ah (λs=>?_) (λs=>?_)
  ·have s:=dT s;obtain⟨p,F,C⟩:=D0 u.rd (i:=(b:Int)-1) (by omega) (by rw[length_take];omega);have E:(l.take b).getD ((b:Int)-1).toNat 0=l.getD (b-1) 0:=by
    rw[show((b:Int)-1).toNat=b-1 by omega,gD,getElem?_take,if_pos (by omega),gD]
   rw[E]at C;refine⟨p,F,_,C,ah (λq=>?_) (λq=>?_)⟩
   ·have q:((l.getD (b-1) 0:Nat):Int)=0:=by simpa using q
    have q:l.getD (b-1) 0=0:=by omega
    obtain⟨k,f,e,G,y⟩:=u.upto zj CY (z:=b-1) (by rw[lM,length_take];omega) (by rw[lM,length_take];omega);rw[show((b:Int)-1)=((b-1:Nat):Int) by omega];have B:f=b-1:=by have:=y.len;rw[length_take,lM,length_take]at this;omega
    subst B;refine⟨k,_,e,G,IN (b-1) (by omega) ⟨by omega,rfl,?_,?_,rfl⟩⟩
    ·rw[<-map_take,take_take,min_eq_left (by omega)]at y;exact y
    ·rw[x,t (by omega),q,gr]
   ·have q:¬((l.getD (b-1) 0:Nat):Int)=0:=by simpa using q
    refine⟨r,b,d,rfl,?_,rfl⟩;rw[x,t (by omega),hW _ (by omega),<-t (by omega)];exact u
  ·have s:=dF s;obtain rfl:b=0:=by omega
   refine⟨r,0,d,rfl,?_,rfl⟩;rw[x];exact u)
 exact BT a n c h _ (L n ⟨by omega,rfl,by rw[show l.take n=l by rw[A,take_length]];exact o,by rw[show l.take n=l by rw[A,take_length]],rfl⟩)
theorem DF{l:List UInt8}(h:i<l.length):Num.val (l.take (i+1))=10*Num.val (l.take i)+uD (l.getD i 0):=zC (aa9 h)
theorem Rc(l:List UInt8){h:aa}{b:Nat}(c:b<=l.length):bm SS.P 9 (strOf l) none (some (.int .i64 (b:Int))) none h=some (strOf (l.take b)):=oA (a:=0) adP l rfl rfl (by omega) c
theorem H2(b:n=s.length-9)(a:0<s.length):Num.val s=Num.val (s.drop n)+10^(s.length-n)*Num.val (s.take n):=by
 have:=Fi (s.take n) (s.drop n);rw[take_append_drop,length_drop,mul_comm]at this;omega
theorem pk(l:List UInt8)(hd:l.all cp=true)(k:l.length<=10000)(h:aa)(w:Wf h):FW SS 208 [strOf l] h (jK h 240 ((aG 1000000000 (Num.val l)).map uv)):=by
 have Y:=qO l (λA s r o t g=>A=s.length/\s.all cp=true/\s.length<=10000/\Ok h g/\∃a:List Nat,(∀d∈a,d<1000000000)/\a.length+s.length<=10000/\fg h g 240 (.slice r o t) (a.map uv)/\Num.val l=Num.bv 1000000000 a+1000000000^a.length*Num.val s) (jK h 240 ((aG 1000000000 (Num.val l)).map uv)) (by
  intro A s r o t;intros;rename_i g X;obtain⟨rfl,p,x2,Q,a,C,x0,O,I⟩:=X;refine ah (λz=>?_) (λz=>?_)
  ·have z:=dT z;have U:wrap .i64 ((s.length:Int)-9)=(s.length:Int)-9:=aO (by omega) (by omega);rw[U];have E:(if(s.length:Int)-9>0 then(s.length:Int)-9 else 0)=((s.length-9:Nat):Int):=by split<;>omega
   refine⟨_,vK _ _ _,?_⟩;rw[E];have T:=qP l (λA s r o t g=>A=s.length/\s.all cp=true/\s.length<=10000/\Ok h g/\∃a:List Nat,(∀d∈a,d<1000000000)/\a.length+s.length<=10000/\fg h g 240 (.slice r o t) (a.map uv)/\Num.val l=Num.bv 1000000000 a+1000000000^a.length*Num.val s) s.length s r o t ((s.length-9:Nat):Int)
    (λq i v B=>∃j:Nat,i=(s.length-9:Nat)+(j:Int)/\s.length-9+j<=s.length/\q=s.length-(s.length-9+j)/\v=(Num.val ((s.drop (s.length-9)).take j):Nat)/\B=g) (jK h 240 ((aG 1000000000 (Num.val l)).map uv)) (by
    intro q i v;intros;rename_i B P;obtain⟨j,rfl,hj,x3,rfl,rfl⟩:=P;have D:(s.drop (s.length-9)).all cp=true:=by
     rw[all_eq_true]at p⊢;exact λx c=>p x (List.mem_of_mem_drop c)
    have F:=HK (l:=(s.drop (s.length-9)).take j) (by
     rw[all_eq_true]at D⊢;exact λx c=>D x (mem_of_mem_take c))
    have f:Num.val ((s.drop (s.length-9)).take j)<1000000000:=by
     refine lt_of_lt_of_le F (Nat.le_trans (pow_le_pow_right (by omega) (show _<=9 by rw[length_take,length_drop];omega)) (by decide))
    refine ah (λe=>?_) (λe=>?_)
    ·have e:=dT e;have H:s.length-9+j<s.length:=by omega
     have y:=Sa p H;have x4:=nj.1 y;have x1:=zT y;refine⟨_,Yg (h:=B) s (by omega) e,?_⟩;have G:(((s.length-9:Nat):Int)+(j:Int)).toNat=s.length-9+j:=by omega
     rw[G];have R:wrap .u8 ((((s.getD (s.length-9+j) 0).toNat:Nat):Int)-48)=(uD (s.getD (s.length-9+j) 0):Nat):=by
      rw[yw (by omega) (by omega)];unfold uD;omega
     have e2:(s.drop (s.length-9)).getD j 0=s.getD (s.length-9+j) 0:=by
      rw[gD,getElem?_drop,gD]
     have N:=DF (l:=s.drop (s.length-9)) (i:=j) (by rw[length_drop];omega);rw[e2]at N;dsimp only;rw[R,dZ (n:=((uD (s.getD (s.length-9+j) 0):Nat):Int)) (by omega) (by omega),dZ (n:=10*((Num.val ((s.drop (s.length-9)).take j):Nat):Int)) (by omega) (by omega),dZ (by omega) (by omega),aO (n:=((s.length-9:Nat):Int)+(j:Int)+1) (by omega) (by omega)];exact mE (q-1) (by omega) ⟨j+1,by omega,by omega,by omega,by rw[N];omega,rfl⟩
    ·have e:=dF e;have K:(s.drop (s.length-9)).take j=s.drop (s.length-9):=take_of_length_le (by rw[length_drop];omega);rw[K]at f⊢;refine⟨_,_,_,p8 _,?_⟩;obtain⟨b,m,d,u,V,g7,S,g9⟩:=jA w Q O ((Num.val (s.drop (s.length-9)):Nat):Int) (by rw[lM];omega);refine⟨b,m,d,u,V,?_⟩;refine⟨_,Rc s (show s.length-9<=s.length by omega),?_⟩;refine NX (s.take (s.length-9)).length (by rw[length_take];omega) ⟨rfl,?_,by rw[length_take];omega,g9,a++[Num.val (s.drop (s.length-9))],?_,?_,?_,?_⟩
     ·rw[all_eq_true]at p⊢;exact λx c=>p x (mem_of_mem_take c)
     ·intro x c;rcases mem_append.1 c with c|c
      ·exact C x c
      ·rw[mem_singleton.1 c];exact f
     ·rw[length_append,length_take];simp;omega
     ·rw[map_append];exact S
     ·rw[nV,length_append,I,H2 (s:=s) rfl (by omega),List.length_singleton];rcases lt_or_ge s.length 10 with W|W
      ·rw[show s.length-9=0 by omega,take_zero,jJ];simp
      ·rw[show s.length-(s.length-9)=9 by omega,show(10:Nat)^9=1000000000 from rfl,pow_succ,mul_add,mul_assoc];omega)
   exact T _ ⟨0,by omega,by omega,rfl,by simp[jJ],rfl⟩
  ·have z:=dF z;obtain rfl:s=[]:=eq_nil_of_length_eq_zero (by omega);refine(pn O (by omega)).mono ?_;rintro _ B ⟨M,L,J,rfl,Z,rfl⟩;refine⟨M,L,J,rfl,M,L,J,rfl,?_,Q⟩;rw[I,jJ,mul_zero,add_zero,<-iI (by omega) C];exact Z)
 exact Gp l h _ (Y l.length ⟨rfl,hd,k,Ok.refl w,[],by simp,by simpa using k,.inl ⟨rfl,rfl⟩,by simp[Num.bv]⟩)
variable{m:Nat}{j:Nat}{P:Program}{x:List Nat}
theorem Oc(x:Int)(h:aa):FW SS 289 [.int .u64 x] h (λv a=>v = .bool false/\a=h):=YF x h _ ⟨by simp,rfl⟩
theorem Ob(x:Int)(h:aa):FW SS 175 [.int .i64 x] h (λv a=>v = .bool false/\a=h):=YE x h _ ⟨by simp,rfl⟩
theorem Xs(m n:Nat)(h:aa):FW SS 268 [.int .u64 (m:Int),.int .u64 (n:Int)] h (λv c=>v = .int .i64 (eD m n)/\c=h):=by
 refine Xr _ _ h _ ((Oc _ h).mono ?_);rintro _ _ ⟨rfl,rfl⟩;refine⟨_,rfl,(Oc _ _).mono ?_⟩;rintro _ _ ⟨rfl,rfl⟩;refine⟨_,rfl,ah (λe=>by cases e) (λ_=>ah (λe=>by cases e) (λ_=>ah (λa=>?_) (λa=>ah (λb=>?_) (λb=>?_))))⟩
 ·exact⟨by rw[ma (by have:=dT a;omega)],rfl⟩
 ·exact⟨by rw[l9 (by have:=dT b;omega)],rfl⟩
 ·have a:=dF a;have b:=dF b;exact⟨by rw[show m=n by omega,rJ],rfl⟩
theorem Xo(m n:Nat)(h:aa):FW SS 139 [.int .i64 (m:Int),.int .i64 (n:Int)] h (λv c=>v = .int .i64 (eD m n)/\c=h):=by
 refine Xn _ _ h _ ((Ob _ h).mono ?_);rintro _ _ ⟨rfl,rfl⟩;refine⟨_,rfl,(Ob _ _).mono ?_⟩;rintro _ _ ⟨rfl,rfl⟩;refine⟨_,rfl,ah (λe=>by cases e) (λ_=>ah (λe=>by cases e) (λ_=>ah (λa=>?_) (λa=>ah (λb=>?_) (λb=>?_))))⟩
 ·exact⟨by rw[ma (by have:=dT a;omega)],rfl⟩
 ·exact⟨by rw[l9 (by have:=dT b;omega)],rfl⟩
 ·have a:=dF a;have b:=dF b;exact⟨by rw[show m=n by omega,rJ],rfl⟩
abbrev BB:Nat:=1000000000
abbrev bl(n:Nat):List Value:=(aG BB n).map uv
theorem eY:1<BB:=by decide
theorem nP{b:Option Addr}{c:Nat}{x:Nat}(E:Rd h 240 (.slice a n c) (bl x))(D:Rd h 240 (.slice b m k) (bl j))(I:(aG BB x).length<=10000)(w:Wf h):
  FW SS 241 [.slice a n c,.slice b m k] h (λv u=>v = .int .i64 (eD x j)/\Ok h u):=by
 have O:n=(aG BB x).length:=by have:=E.len;rwa[lM]at this
 have P:m=(aG BB j).length:=by have:=D.len;rwa[lM]at this
 have L:=λ(C:(aG BB x).length=(aG BB j).length)=>qn a n c b m k (λs i g=>i<=n/\s=n-i/\(aG BB x).drop (n-i)=(aG BB j).drop (n-i)/\Ok h g) (λv u=>v = .int .i64 (eD x j)/\Ok h u) (by
  intro s i;intros;rename_i g M;obtain⟨f,o,t,G⟩:=M;have B:wrap .i64 ((n:Int)-1)=(n:Int)-1:=aO (by omega) (by omega);have z:wrap .i64 ((n:Int)-1-(i:Int))=(n:Int)-1-(i:Int):=aO (by omega) (by omega);have A:wrap .i64 ((i:Int)+1)=((i+1:Nat):Int):=by rw[aO (by omega) (by omega)];omega
  rw[B,z,A];have l:=G.room 18;refine ah (λr=>?_) (λr=>?_)
  ·have r:=dT r;have N:((n:Int)-1-(i:Int)).toNat=n-1-i:=by omega
   obtain⟨p,J,H⟩:=D0 (E.ok l) (i:=(n:Int)-1-(i:Int)) (by omega) (by omega);obtain⟨q,K,F⟩:=D0 (D.ok l) (i:=(n:Int)-1-(i:Int)) (by omega) (by omega);rw[N]at H F;refine⟨p,J,_,H,q,K,_,F,(Xs _ _ _).mono ?_⟩;rintro _ _ ⟨rfl,rfl⟩;have y:(aG BB x).drop (n-1-i+1)=(aG BB j).drop (n-1-i+1):=by rw[show n-1-i+1=n-i by omega];exact t
   refine⟨_,rfl,ah (λd=>?_) (λd=>?_)⟩
   ·refine⟨?_,l⟩;have d:eD ((aG BB x).getD (n-1-i) 0) ((aG BB j).getD (n-1-i) 0)≠0:=by simpa using d
    rcases Nat.lt_trichotomy ((aG BB x).getD (n-1-i) 0) ((aG BB j).getD (n-1-i) 0)with e|e|e
    ·have:=qq eY (cz eY x) C (by omega) y e;rw[bJ eY,bJ eY]at this;rw[ma e,ma this]
    ·rw[e,rJ]at d;exact absurd rfl d
    ·have:=qq eY (cz eY j) C.symm (by omega) y.symm e;rw[bJ eY,bJ eY]at this;rw[l9 e,l9 this]
   ·have d:eD ((aG BB x).getD (n-1-i) 0) ((aG BB j).getD (n-1-i) 0)=0:=by simpa using d
    have e:(aG BB x).getD (n-1-i) 0=(aG BB j).getD (n-1-i) 0:=by
     unfold eD at d;split at d
     ·cases d
     ·split at d
      ·assumption
      ·cases d
    refine cK (s-1) (by omega) ⟨by omega,by omega,?_,l⟩;rw[show n-(i+1)=n-1-i by omega,List.drop_eq_getElem_cons (show n-1-i<(aG BB x).length by omega),List.drop_eq_getElem_cons (show n-1-i<(aG BB j).length by omega),y];congr 1;rw[gD,gE (by omega),gD,gE (by omega)]at e;exact e
  ·have r:=dF r;rw[show n-i=0 by omega,drop_zero,drop_zero]at t;have:x=j:=by rw[<-bJ eY x,t,bJ eY]
   exact⟨by rw[this,rJ],G⟩)
 refine Du a n c b m k h _ (ah (λf=>(Xo _ _ h).mono ?_) (λf=>?_))
 ·rintro _ _ ⟨rfl,rfl⟩;have f:=abm f;refine⟨_,rfl,?_,Ok.refl w⟩;rcases Nat.lt_trichotomy n m with o|o|o
  ·rw[ma o,ma (ji eY (by omega))]
  ·exact absurd o f
  ·rw[l9 o,l9 (ji eY (by omega))]
 ·have f:=aa4 f;refine L (by omega) n (i:=0) ⟨by omega,by omega,?_,Ok.refl w⟩;rw[Nat.sub_zero,drop_of_length_le (by omega),drop_of_length_le (by omega)]
theorem TN{t:TypeId}(o:Ok h g)(a:ae P t h v=some w):ae P t g v=some w:=by
 unfold ae at a⊢;split at a
 ·next c=>
  split at a
  ·next cs _ _ _ b=>rw[o.ext _ _ b];exact a
  ·cases a
 ·cases a
theorem ME(i:ae SS.P 240 h (.pointer a)=some (.int .u64 (k:Int)))(x y z:Nat)(d:x<BB)(f:k<=BB)(m:z<BB):
  FW SS 283 [.int .u64 (x:Int),.int .u64 (y:Int),.int .u64 (z:Int),.pointer a] h (λv e=>v = .tuple ⟨[uv (bV BB k x y z).1,uv (bV BB k x y z).2]⟩/\e=h):=by
 have j:BB=1000000000:=rfl;have l:x*k<=1000000000000000000:=Nat.le_trans (mul_le_mul (le_of_lt d) f) (by decide);have c:wrap .u64 ((x:Int)*(k:Int))=((x*k:Nat):Int):=by rw[<-Int.natCast_mul];exact dZ (by omega) (by omega)
 have g:wrap .u64 (((x*k:Nat):Int)+(z:Int))=((x*k+z:Nat):Int):=by rw[<-Int.natCast_add];exact dZ (by omega) (by omega)
 refine MD _ _ _ a h _ ⟨_,i,?_⟩;dsimp only;rw[c,g];refine⟨_,fQ (b:=BB) (by omega) (by decide),_,nE (b:=BB) (by omega) (by omega) (by decide),?_,rfl⟩;unfold uv bV;rw[Int.natCast_emod,Int.natCast_ediv]
theorem Di{c:Nat}{p:Option Addr}(S:Rd h 240 (.slice a n c) (x.map uv))(C:∀d∈x,d<BB)(x0:x.length<=10000)(Z:ae SS.P 240 h (.pointer p)=some (.int .u64 (k:Int)))(A:0<k)(E:k<=BB)(w:Wf h):
  FW SS 266 [.slice a n c,.slice none 0 0,.func (.func 283) ⟨[]⟩ ⟨[.pointer p]⟩] h (jK h 240 (bl (Num.bv BB x*k))):=by
 have hn:n=x.length:=by have:=S.len;rwa[lM]at this
 have Y:BB=1000000000:=rfl;have hF:∀p q c,c<=BB-1->p<BB->(bV BB k p q c).2<=BB-1:=λp q c hc Z=>by
  unfold bV;dsimp only;have h1:p*k<=999999999*1000000000:=mul_le_mul (by omega) E;have:(p*k+c)/BB<BB:=div_lt_of_lt_mul (by rw[Y];omega);omega
 have T:∀j,eE (bV BB k) x [] 0 0 j<=BB-1:=by
  intro j
  induction j with
  |zero=>exact Nat.zero_le _
  |succ j ih=>exact hF _ _ _ ih (bp (by decide) C _)
 have fin:cP (bq (bV BB k) x [] 0 (n+1) 0)=aG BB (Num.bv BB x*k):=by
  rw[iI eY (jH (λp q c=>mod_lt _ (by decide)) x [] (n+1) 0 0),KM eY E A C (n+1) 0 0 (by omega) A (by omega)];rw[drop_zero,add_zero]
 have L:=qk a n c p ((n:Int)+1) (λz i cy r N P g=>i<=n+1/\z=n+1-i/\cy=(eE (bV BB k) x [] 0 0 i:Nat)/\fg h g 240 (.slice r N P) ((bq (bV BB k) x [] 0 i 0).map uv)/\Ok h g) (jK h 240 (bl (Num.bv BB x*k))) (by
  intro z i cy r N P;intros;rename_i g hi;obtain⟨h1,h2,rfl,F,v⟩:=hi;have K:wrap .i64 ((i:Int)+1)=((i+1:Nat):Int):=by rw[aO (by omega) (by omega)];omega
  rw[K];have l:(bq (bV BB k) x [] 0 i 0).length=i:=gN _ _ _ _ _ _;have f:=jg (bV BB k) x [] i 0 0;rw[zero_add]at f;have o:eE (bV BB k) x [] 0 0 (i+1)=(bV BB k (x.getD i 0) (([]:List Nat).getD i 0) (eE (bV BB k) x [] 0 0 i)).2:=by
   show(bV BB k (x.getD (0+i) 0) (([]:List Nat).getD (0+i) 0) _).2=_;rw[zero_add]
  have x1:=T i;have W:=bp (b:=BB) (by decide) C i;have O:=TN v Z;have U:=ME O (x.getD i 0) (([]:List Nat).getD i 0) (eE (bV BB k) x [] 0 0 i) W E (by omega);have M:([]:List Nat).getD i 0=0:=by simp
  refine ah (λy=>?_) (λy=>?_)
  ·have y:=dT y;refine ah (λt=>?_) (λt=>?_)
   ·have t:=dT t;obtain⟨q,J,g3⟩:=D0 (S.ok v) (i:=(i:Int)) (by omega) (by omega);rw[toNat_natCast]at g3;refine⟨q,J,_,g3,ah (λs=>?_) (λs=>?_)⟩
    ·have:=dT s;omega
    ·refine(show FW SS 283 [.int .u64 ((x.getD i 0:Nat):Int),.int .u64 ((([]:List Nat).getD i 0:Nat):Int),.int .u64 ((eE (bV BB k) x [] 0 0 i:Nat):Int),.pointer p] g _ from U).mono ?_ |> (λe=>by rw[M]at e;exact e)
     rintro _ _ ⟨rfl,rfl⟩;refine⟨_,_,rfl,_,_,_,p8 _,?_⟩;obtain⟨b,m,d,u,D,g7,B,G⟩:=jA w v F ((bV BB k (x.getD i 0) (([]:List Nat).getD i 0) (eE (bV BB k) x [] 0 0 i)).1:Nat) (by rw[lM,l];omega);refine⟨b,m,d,u,D,sW (z-1) (by omega) ⟨by omega,by omega,by rw[o],?_,G⟩⟩;rw[f,map_append];exact B
   ·have t:=dF t;have V:x.getD i 0=0:=by rw[gD,getElem?_eq_none (by omega)];rfl
    refine ah (λs=>?_) (λs=>?_)
    ·have:=dT s;omega
    ·refine(show FW SS 283 [.int .u64 ((x.getD i 0:Nat):Int),.int .u64 ((([]:List Nat).getD i 0:Nat):Int),.int .u64 ((eE (bV BB k) x [] 0 0 i:Nat):Int),.pointer p] g _ from U).mono ?_ |> (λe=>by rw[M,V]at e;exact e)
     rintro _ _ ⟨rfl,rfl⟩;refine⟨_,_,rfl,_,_,_,p8 _,?_⟩;obtain⟨b,m,d,u,D,g7,B,G⟩:=jA w v F ((bV BB k (x.getD i 0) (([]:List Nat).getD i 0) (eE (bV BB k) x [] 0 0 i)).1:Nat) (by rw[lM,l];omega);refine⟨b,m,d,u,D,sW (z-1) (by omega) ⟨by omega,by omega,by rw[o],?_,G⟩⟩;rw[f,map_append];exact B
  ·have y:=dF y;obtain rfl:i=n+1:=by omega
   refine(pn F (by rw[l];omega)).mono ?_;rintro _ J ⟨R,Q,I,rfl,X,rfl⟩;rw[fin]at X;exact⟨R,Q,I,rfl,R,Q,I,rfl,X,v⟩)
 refine Dh a n c p h _ ⟨_,vK _ _ _,?_⟩;have H:(if(0:Int)>(n:Int)then(0:Int)else(n:Int))=(n:Int):=if_neg (by omega);have hw:wrap .i64 ((n:Int)+1)=(n:Int)+1:=aO (by omega) (by omega);dsimp only;rw[H,hw];exact L (n+1) (i:=0) ⟨by omega,by omega,rfl,.inl ⟨rfl,rfl⟩,Ok.refl w⟩
noncomputable def aX:FD:=ei Tryz.f261 [([1,1,1,1,0,0,0],[0,1,5,7,8]),([1,1,1,1,1,1,0,1,0,0],[0,1,5,7,9,10,87,88]),([1,1,1,1,1,1,1,1,1,0,1,0,0],[0,1,5,7,10,128,129])]
abbrev dD(a:OA)(n c:Nat)(b:OA)(m d:Nat)(q e:Int):LV:=[(.slice a n c),(.slice b m d),(iA m),(.int .u64 q),(.int .u64 e)]
abbrev cF(a:OA)(n c:Nat)(b:OA)(m d:Nat)(q e:Int)(i:Nat)(f cy:Int):LV:=[(.slice a n c),(.slice b m d),(iA m),(.int .u64 q),(.int .u64 f),(.int .u64 cy),(.int .i64 e),(iA i)]
abbrev fo(a:OA)(n c:Nat)(b:OA)(m d:Nat)(q e:Int)(i:Nat)(cy:Int):LV:=[(.slice a n c),(.slice b m d),(iA m),(.int .u64 q),(.int .u64 cy),(.int .i64 e),(iA i)]
theorem Ja(a:OA)(n c:Nat)(b:OA)(m d:Nat)(h:aa)(Q:VH)(l:xP (ai SS.P 260 (.slice a n c) (iA m)) λq=>xI .u64 (ae SS.P 240 (room h 12) (.pointer (some q))) λe=>xP (ai SS.P 260 (.slice a n c) (.int .i64 (wrap .i64 ((m:Int)-1)))) λr=>xI .u64 (ae SS.P 240 (room h 12) (.pointer (some r))) λg=>xP (ai SS.P 260 (.slice b m d) (.int .i64 (wrap .i64 ((m:Int)-1)))) λk=>xI .u64 (ae SS.P 240 (room (room h 12) 16) (.pointer (some k))) λo=>xI .u64 (ay SS.P .quo 240 (.int .u64 (wrap .u64 (wrap .u64 (e*1000000000)+g))) (.int .u64 o)) λp=>xP (ai SS.P 260 (.slice b m d) (.int .i64 (wrap .i64 ((m:Int)-1)))) λj=>xI .u64 (ae SS.P 240 (room (room h 12) 16) (.pointer (some j))) λi=>xI .u64 (ay SS.P .rem 240 (.int .u64 (wrap .u64 (wrap .u64 (e*1000000000)+g))) (.int .u64 i)) λf=>LL SS aX [1,1,1,1,0,0,0] (dD a n c b m d p f) (room (room h 12) 16) (KK SS aX [1,1,1,1,0,0] [] (EE SS aX Q))):FW SS 261 [(.slice a n c),(.slice b m d)] h Q:=eu aX Tryz.func261 (ax l)
theorem su(a:OA)(n c:Nat)(b:OA)(m d:Nat)  (f:Nat->Int->Int->aa->Prop) (Q:VH) (step:∀(g:Nat)(q e:Int)(s:Nat->Value)(h:aa),f g q e h->aQ (decide ((q:Int)>=1000000000)) (xP (ai SS.P 260 (.slice b m d) (.int .i64 (wrap .i64 ((m:Int)-1)))) λt=>xI .u64 (ae SS.P 240 (room h 28) (.pointer (some t))) λj=>aQ (decide ((wrap .u64 (e+j):Int)>=1000000000)) (aQ (decide ((wrap .u64 (q-1):Int)<1000000000)) (LL SS aX [1,1,1,1,1,1,0,1,0,0] (cF a n c b m d (wrap .u64 (q-1)) (wrap .i64 ((m:Int)+1)) 0 0 0) (room h 28) (KK SS aX [1,1,1,1,1,1,0,1,0] [] (EE SS aX Q))) (aJ (C1 (dD a n c b m d) f) g [(.slice a n c),(.slice b m d),(iA m),(.int .u64 (wrap .u64 (q-1))),(.int .u64 (wrap .u64 (e+j)))] (room h 28))) (aJ (C1 (dD a n c b m d) f) g [(.slice a n c),(.slice b m d),(iA m),(.int .u64 (wrap .u64 (q-1))),(.int .u64 (wrap .u64 (e+j)))] (room h 28))) (aQ (decide (((m:Int):Int)>1)) (aQ (decide ((e:Int)<1000000000)) (xP (ai SS.P 260 (.slice b m d) (.int .i64 (wrap .i64 ((m:Int)-2)))) λu=>xI .u64 (ae SS.P 240 (room h 28) (.pointer (some u))) λl=>xP (ai SS.P 260 (.slice a n c) (.int .i64 (wrap .i64 ((m:Int)-2)))) λp=>xI .u64 (ae SS.P 240 (room h 28) (.pointer (some p))) λo=>aQ (decide ((wrap .u64 (q*l):Int)>wrap .u64 (wrap .u64 (e*1000000000)+o))) (xP (ai SS.P 260 (.slice b m d) (.int .i64 (wrap .i64 ((m:Int)-1)))) λr=>xI .u64 (ae SS.P 240 (room h 28) (.pointer (some r))) λi=>aQ (decide ((wrap .u64 (e+i):Int)>=1000000000)) (aQ (decide ((wrap .u64 (q-1):Int)<1000000000)) (LL SS aX [1,1,1,1,1,1,0,1,0,0] (cF a n c b m d (wrap .u64 (q-1)) (wrap .i64 ((m:Int)+1)) 0 0 0) (room h 28) (KK SS aX [1,1,1,1,1,1,0,1,0] [] (EE SS aX Q))) (aJ (C1 (dD a n c b m d) f) g [(.slice a n c),(.slice b m d),(iA m),(.int .u64 (wrap .u64 (q-1))),(.int .u64 (wrap .u64 (e+i)))] (room h 28))) (aJ (C1 (dD a n c b m d) f) g [(.slice a n c),(.slice b m d),(iA m),(.int .u64 (wrap .u64 (q-1))),(.int .u64 (wrap .u64 (e+i)))] (room h 28))) (LL SS aX [1,1,1,1,1,1,0,1,0,0] (cF a n c b m d q (wrap .i64 ((m:Int)+1)) 0 0 0) (room h 28) (KK SS aX [1,1,1,1,1,1,0,1,0] [] (EE SS aX Q)))) (LL SS aX [1,1,1,1,1,1,0,1,0,0] (cF a n c b m d q (wrap .i64 ((m:Int)+1)) 0 0 0) (room h 28) (KK SS aX [1,1,1,1,1,1,0,1,0] [] (EE SS aX Q)))) (LL SS aX [1,1,1,1,1,1,0,1,0,0] (cF a n c b m d q (wrap .i64 ((m:Int)+1)) 0 0 0) (room h 28) (KK SS aX [1,1,1,1,1,1,0,1,0] [] (EE SS aX Q))))) (g:Nat) {q e:Int} {h:aa} (k:f g q e h):LL SS aX [1,1,1,1,0,0,0] (dD a n c b m d q e) h (KK SS aX [1,1,1,1,0,0] [] (EE SS aX Q)):=
 tl (dD a n c b m d) f (λg q e s h k=>ax (step g q e s h k)) g k
theorem sw(a:OA)(n c:Nat)(b:OA)(m d:Nat)(q e:Int)(g:Nat->Nat->Int->Int->aa->Prop)(Q:VH)(step:∀(j:Nat) (i:Nat) (f cy:Int) (E:Nat->Value) (h:aa),g j i f cy h->aQ (decide (((i:Int):Int)<e)) (aQ (decide (((i:Int):Int)<(m:Int))) (xP (ai SS.P 260 (.slice b m d) (iA i)) λA=>xI .u64 (ae SS.P 240 h (.pointer (some A))) λo=>xP (ai SS.P 260 (.slice a n c) (iA i)) λx=>xI .u64 (ae SS.P 240 h (.pointer (some x))) λp=>xI .u64 (ay SS.P .rem 240 (.int .u64 (wrap .u64 (cy+wrap .u64 (q*o)))) (.int .u64 1000000000)) λl=>xI .u64 (ay SS.P .rem 240 (.int .u64 (wrap .u64 (wrap .u64 (wrap .u64 (p+1000000000)-l)-f))) (.int .u64 1000000000)) λC=>xI .u64 (ay SS.P .quo 240 (.int .u64 (wrap .u64 (wrap .u64 (wrap .u64 (p+1000000000)-l)-f))) (.int .u64 1000000000)) λu=>xI .u64 (ay SS.P .quo 240 (.int .u64 (wrap .u64 (cy+wrap .u64 (q*o)))) (.int .u64 1000000000)) λF=>xP (ai SS.P 260 (.slice a n c) (iA i)) λG=>xU (aj SS.P 240 (.pointer (some G)) (.int .u64 C) h) h λH D=>aJ (LA3 (cF a n c b m d q e) g) j [(.slice a n c),(.slice b m d),(iA m),(.int .u64 q),(.int .u64 (wrap .u64 (1-u))),(.int .u64 F),(.int .i64 e),(.int .i64 (wrap .i64 ((i:Int)+1)))] D) (xP (ai SS.P 260 (.slice a n c) (iA i)) λw=>xI .u64 (ae SS.P 240 h (.pointer (some w))) λk=>xI .u64 (ay SS.P .rem 240 (.int .u64 cy) (.int .u64 1000000000)) λr=>xI .u64 (ay SS.P .rem 240 (.int .u64 (wrap .u64 (wrap .u64 (wrap .u64 (k+1000000000)-r)-f))) (.int .u64 1000000000)) λB=>xI .u64 (ay SS.P .quo 240 (.int .u64 (wrap .u64 (wrap .u64 (wrap .u64 (k+1000000000)-r)-f))) (.int .u64 1000000000)) λv=>xI .u64 (ay SS.P .quo 240 (.int .u64 cy) (.int .u64 1000000000)) λz=>xP (ai SS.P 260 (.slice a n c) (iA i)) λy=>xU (aj SS.P 240 (.pointer (some y)) (.int .u64 B) h) h λI t=>aJ (LA3 (cF a n c b m d q e) g) j [(.slice a n c),(.slice b m d),(iA m),(.int .u64 q),(.int .u64 (wrap .u64 (1-v))),(.int .u64 z),(.int .i64 e),(.int .i64 (wrap .i64 ((i:Int)+1)))] t)) (aQ (((f:Int)==0)) (Q (.int .u64 q) h) (LL SS aX [1,1,1,1,1,1,1,1,1,0,1,0,0] (fo a n c b m d q (wrap .i64 ((m:Int)+1)) 0 0) h (KK SS aX [1,1,1,1,1,1,1,1,1,0,1,0] [] (EE SS aX Q)))))(j:Nat){i:Nat}{f cy:Int}{h:aa}(s:g j i f cy h):LL SS aX [1,1,1,1,1,1,0,1,0,0] (cF a n c b m d q e i f cy) h (KK SS aX [1,1,1,1,1,1,0,1,0] [] (EE SS aX Q)):=
 U9 (cF a n c b m d q e) g (λj i f cy E h s=>ax (step j i f cy E h s)) j s
theorem sy(a:OA)(n c:Nat)(b:OA)(m d:Nat)(q e:Int)(f:Nat->Nat->Int->aa->Prop)(Q:VH)(step:∀(g:Nat) (i:Nat) (cy:Int) (u:Nat->Value) (h:aa),f g i cy h->aQ (decide (((i:Int):Int)<e)) (xP (ai SS.P 260 (.slice a n c) (iA i)) λr=>xI .u64 (ae SS.P 240 h (.pointer (some r))) λj=>aQ (decide (((i:Int):Int)<(m:Int))) (xP (ai SS.P 260 (.slice b m d) (iA i)) λv=>xI .u64 (ae SS.P 240 h (.pointer (some v))) λk=>xI .u64 (ay SS.P .rem 240 (.int .u64 (wrap .u64 (wrap .u64 (j+cy)+k))) (.int .u64 1000000000)) λz=>xI .u64 (ay SS.P .quo 240 (.int .u64 (wrap .u64 (wrap .u64 (j+cy)+k))) (.int .u64 1000000000)) λs=>xP (ai SS.P 260 (.slice a n c) (iA i)) λw=>xU (aj SS.P 240 (.pointer (some w)) (.int .u64 z) h) h λB t=>aJ (C1 (fo a n c b m d q e) f) g [(.slice a n c),(.slice b m d),(iA m),(.int .u64 q),(.int .u64 s),(.int .i64 e),(.int .i64 (wrap .i64 ((i:Int)+1)))] t) (xI .u64 (ay SS.P .rem 240 (.int .u64 (wrap .u64 (j+cy))) (.int .u64 1000000000)) λp=>xI .u64 (ay SS.P .quo 240 (.int .u64 (wrap .u64 (j+cy))) (.int .u64 1000000000)) λy=>xP (ai SS.P 260 (.slice a n c) (iA i)) λo=>xU (aj SS.P 240 (.pointer (some o)) (.int .u64 p) h) h λA x=>aJ (C1 (fo a n c b m d q e) f) g [(.slice a n c),(.slice b m d),(iA m),(.int .u64 q),(.int .u64 y),(.int .i64 e),(.int .i64 (wrap .i64 ((i:Int)+1)))] x)) (Q (.int .u64 (wrap .u64 (q-1))) h))(g:Nat){i:Nat}{cy:Int}{h:aa}(l:f g i cy h):LL SS aX [1,1,1,1,1,1,1,1,1,0,1,0,0] (fo a n c b m d q e i cy) h (KK SS aX [1,1,1,1,1,1,1,1,1,0,1,0] [] (EE SS aX Q)):=
 tl (fo a n c b m d q e) f (λg i cy u h l=>ax (step g i cy u h l)) g l
noncomputable def bM:FD:=ei Tryz.f238 [([1,1,1,1,1,0,0,0],[0,1,6,7,8,9]),([1,1,1,1,1,1,1,0,1,0,0],[0,1,4,6,7,8,9,49,50]),([1,1,1,1,1,1,1,1,1,1,0,1,0,0],[4,5,7,12,74,75])]
abbrev gI(a:OA)(n c:Nat)(b:OA)(m d:Nat)(j:Int)(e:OA)(f h:Nat)(r:OA)(g i:Nat):LV:=[(.slice a n c),(.slice b m d),(iA m),(.int .u64 j),(.slice r g i),(.slice e f h)]
abbrev gJ(a:OA)(n c:Nat)(b:OA)(m d:Nat)(p:Int)(g:OA)(q l:Nat)(r:OA)(j o:Nat)(e:OA)(h k:Nat)(f:Int)(i:Nat):LV:=[(.slice a n c),(.slice b m d),(.slice g q l),(iA m),(.int .u64 p),(.slice r j o),(.slice e h k),(.int .i64 f),(iA i)]
abbrev gK(e:Int)(g:OA)(f c:Nat)(r:OA)(b d:Nat)(a:Int)(i:Nat)(left:Int):LV:=[(.slice g f c),(.slice r b d),(.int .u64 e),(.int .u64 left),(.int .i64 a),(iA i)]
theorem Gr(a:OA)(n c:Nat)(b:OA)(m d:Nat)(h:aa)(Q:VH)(v:FW SS 241 [(.slice a n c),(.slice b m d)] h λx f=>yI .i64 x λs=>aQ (decide ((s:Int)<0)) (Q (.tuple ⟨[nA,(.slice a n c)]⟩) f) (xP (ai SS.P 260 (.slice b m d) (.int .i64 (wrap .i64 ((m:Int)-1)))) λw=>xI .u64 (ae SS.P 240 f (.pointer (some w))) λq=>xI .u64 (ay SS.P .quo 240 (.int .u64 1000000000) (.int .u64 (wrap .u64 (q+1)))) λe=>FW SS 260 [(.slice a n c),(.int .u64 e)] f λr u=>yL r λt k p=>FW SS 260 [(.slice b m d),(.int .u64 e)] u λg o=>yL g λi j l=>LL SS bM [1,1,1,1,1,0,0,0] (gI a n c b m d e i j l t k p) o (KK SS bM [1,1,1,1,1,0,0] [] (EE SS bM Q)))):FW SS 238 [(.slice a n c),(.slice b m d)] h Q:=eu bM Tryz.func238 (ax v)
theorem qQ(a:OA)(n c:Nat)(b:OA)(m d:Nat)(o:Int)(e:OA)(k l:Nat)(j:Nat->OA->Nat->Nat->aa->Prop)(Q:VH)(step:∀(i:Nat) (r:OA) (f g:Nat) (z:Nat->Value) (h:aa),j i r f g h->aQ (decide (((f:Int):Int)<=(n:Int))) (xR (az SS.P 260 1 [(0,(.int .u64 0))]) h λD v A q=>xE (aE SS.P 260 260 (.slice r f g) (sA (h.next) v A) q) q λu B t C w=>aJ (LA3 (gI a n c b m d o e k l) j) i [(.slice a n c),(.slice b m d),(iA m),(.int .u64 o),(.slice u B t),(.slice e k l)] w) (xR (aR SS.P 260 (.int .i64 (wrap .i64 ((f:Int)-(m:Int)))) (.int .i64 (wrap .i64 ((f:Int)-(m:Int))))) h λE p y x=>LL SS bM [1,1,1,1,1,1,1,0,1,0,0] (gJ a n c b m d o (some ⟨h.next,0,none⟩) p y r f g e k l (p:Int) 0) x (KK SS bM [1,1,1,1,1,1,1,0,1,0] [] (EE SS bM Q))))(i:Nat){r:OA}{f g:Nat}{h:aa}(s:j i r f g h):LL SS bM [1,1,1,1,1,0,0,0] (gI a n c b m d o e k l r f g) h (KK SS bM [1,1,1,1,1,0,0] [] (EE SS bM Q)):=
 U9 (gI a n c b m d o e k l) j (λi r f g z h s=>ax (step i r f g z h s)) i s
theorem qR(a:OA)(n c:Nat)(b:OA)(m d:Nat)(u:Int)(g:OA)(f p:Nat)(r:OA)(o q:Nat)(e:OA)(s t:Nat)(j:Int)(l:Nat->Nat->aa->Prop)(Q:VH)(step:∀(k:Nat) (i:Nat) (G:Nat->Value) (h:aa),l k i h->aQ (decide (((i:Int):Int)<j)) (xL (bm SS.P 260 (.slice r o q) (some (.int .i64 (wrap .i64 (wrap .i64 ((f:Int)-1)-(i:Int))))) (some (.int .i64 (wrap .i64 (wrap .i64 (wrap .i64 (wrap .i64 ((f:Int)-1)-(i:Int))+(m:Int))+1)))) none h) λH F E=>FW SS 261 [(.slice H F E),(.slice e s t)] h λD w=>yI .u64 D λC=>xP (ai SS.P 260 (.slice g f p) (.int .i64 (wrap .i64 (wrap .i64 ((f:Int)-1)-(i:Int))))) λB=>xU (aj SS.P 240 (.pointer (some B)) (.int .u64 C) w) w λK y=>aJ (fB (gJ a n c b m d u g f p r o q e s t j) l) k [(.slice a n c),(.slice b m d),(.slice g f p),(iA m),(.int .u64 u),(.slice r o q),(.slice e s t),(.int .i64 j),(.int .i64 (wrap .i64 ((i:Int)+1)))] y) (FW SS 210 [(.slice r o q)] h λA I=>yL A λz v J=>LL SS bM [1,1,1,1,1,1,1,1,1,1,0,1,0,0] (gK u g f p z v J (v:Int) 0 0) I (KK SS bM [1,1,1,1,1,1,1,1,1,1,0,1,0] [] (EE SS bM Q))))(k:Nat){i:Nat}{h:aa}(x:l k i h):LL SS bM [1,1,1,1,1,1,1,0,1,0,0] (gJ a n c b m d u g f p r o q e s t j i) h (KK SS bM [1,1,1,1,1,1,1,0,1,0] [] (EE SS bM Q)):=
 dQ (gJ a n c b m d u g f p r o q e s t j) l (λk i G h x=>ax (step k i G h x)) k x
theorem qS(a:OA)(n c:Nat)(b:OA)(m d:Nat)(o:Int)(g:OA)(q p:Nat)(r:OA)(e k:Nat)(f:Int)(l:Nat->Nat->Int->aa->Prop)(Q:VH)(step:∀(j:Nat) (i:Nat) (left:Int) (E:Nat->Value) (h:aa),l j i left h->aQ (decide (((i:Int):Int)<f)) (xP (ai SS.P 260 (.slice r e k) (.int .i64 (wrap .i64 (wrap .i64 ((e:Int)-1)-(i:Int))))) λJ=>xI .u64 (ae SS.P 240 h (.pointer (some J))) λs=>xI .u64 (ay SS.P .quo 240 (.int .u64 (wrap .u64 (wrap .u64 (left*1000000000)+s))) (.int .u64 o)) λz=>xI .u64 (ay SS.P .rem 240 (.int .u64 (wrap .u64 (wrap .u64 (left*1000000000)+s))) (.int .u64 o)) λD=>xP (ai SS.P 260 (.slice r e k) (.int .i64 (wrap .i64 (wrap .i64 ((e:Int)-1)-(i:Int))))) λw=>xU (aj SS.P 240 (.pointer (some w)) (.int .u64 z) (room h 11)) (room h 11) λK G=>aJ (C1 (gK o g q p r e k f) l) j [(.slice g q p),(.slice r e k),(.int .u64 o),(.int .u64 D),(.int .i64 f),(.int .i64 (wrap .i64 ((i:Int)+1)))] G) (FW SS 210 [(.slice g q p)] h λx A=>yL x λB y F=>FW SS 210 [(.slice r e k)] A λH C=>yL H λu v I=>Q (.tuple ⟨[(.slice B y F),(.slice u v I)]⟩) C))(j:Nat){i:Nat}{left:Int}{h:aa}(t:l j i left h):LL SS bM [1,1,1,1,1,1,1,1,1,1,0,1,0,0] (gK o g q p r e k f i left) h (KK SS bM [1,1,1,1,1,1,1,1,1,1,0,1,0] [] (EE SS bM Q)):=
 tl (gK o g q p r e k f) l (λj i left E h t=>ax (step j i left E h t)) j t
section
def bT(cs:List Value)(off:Nat)(W:List Nat):List Value:=cs.take off++W.map uv++cs.drop (off+W.length)
structure HL(h:aa)(k:Nat)(h':aa):Prop where
 wf:Wf h'
 jb:∀j B,j≠k->h.get j=some B->h'.get j=some B
 nx:h.next<=h'.next
theorem HL.refl{k:Nat}(w:Wf h):HL h k h:=⟨w,λ_ _ _ h=>h,Nat.le_refl _⟩
theorem HL.room{h a:aa}{k:Nat}(o:HL h k a)(n:Nat):HL h k (room a n):=⟨λj B b=>lt_of_lt_of_le (o.wf j B b) (le_add_right _ _),o.jb,Nat.le_trans o.nx (le_add_right _ _)⟩
theorem HL.set{c:aa}{k:Nat}(o:HL h k c)(d:k<c.next)(B:bw):HL h k (c.set k B):=by
 refine⟨λj C a=>?_,λj C b a=>?_,o.nx⟩
 ·rw[aa.aw]at a;split at a
  ·next e=>rw[e];exact d
  ·exact o.wf _ _ a
 ·rw[aa.aw,if_neg b];exact o.jb _ _ b a
theorem vy{k off c:Nat}{i:Int}(b:0<=i)(a:i<n):ai SS.P 260 (.slice (some ⟨k,off,none⟩) n c) (.int .i64 i)=some (.pointer (some ⟨k,off+i.toNat,none⟩)):=by
 unfold ai;rw[zj];dsimp only;rw[CY];dsimp only;rw[if_pos ⟨b,a⟩,mul_one,cG]
section
variable {g:aa} {k off:Nat} {cs:List Value} {W:List Nat}
theorem BP(b:g.get k=some (.cells (bT cs off W) 240 1 true))(c:off+W.length<=cs.length){i:Nat}(a:i<W.length):ae SS.P 240 g (.pointer (some ⟨k,off+i,none⟩))=some (.int .u64 (W.getD i 0:Nat)):=by
 unfold ae;rw[OQ];dsimp only;rw[b];dsimp only;rw[NA];simp only[Bool.false_eq_true,if_false];unfold bT;rw[append_assoc,List.getElem?_append_right (by rw[length_take];omega),length_take,min_eq_left (by omega),Nat.add_sub_cancel_left,List.getElem?_append_left (by rw[lM];exact a),getElem?_map,gE a,gD,gE a];rfl
theorem CA(h:g.get k=some (.cells (bT cs off W) 240 1 true))(j:off+W.length<=cs.length){i:Nat}(b:i<W.length)(d:Nat):aj SS.P 240 (.pointer (some ⟨k,off+i,none⟩)) (.int .u64 (d:Int)) g=some (undef,.set k (.cells (bT cs off (W.set i d)) 240 1 true)):=by
 show(if au SS.P 240=some 1 then(storeAt g k (off+i) [.int .u64 (d:Int)]).map λu=>(undef,u)else none)=_;rw[if_pos CY];unfold storeAt;rw[h];dsimp only;have a:(bT cs off W).length=cs.length:=by
  unfold bT;simp only[length_append,length_take,lM,length_drop];omega
 rw[if_pos ⟨by rw[a];simp;omega,rfl⟩];have e:(bT cs off W).take (off+i)++[Value.int .u64 (d:Int)]++(bT cs off W).drop (off+i+[Value.int .u64 (d:Int)].length)=bT cs off (W.set i d):=by
  have f:(cs.take off).length=off:=by rw[length_take];omega
  have c:(bT cs off W).take (off+i)++[Value.int .u64 (d:Int)]++(bT cs off W).drop (off+i+[Value.int .u64 (d:Int)].length)=(bT cs off W).set (off+i) (.int .u64 (d:Int)):=by
   rw[List.set_eq_take_append_cons_drop,if_pos (by rw[a];omega),append_assoc];rfl
  rw[c];unfold bT;rw[append_assoc,set_append,if_neg (by omega),f,Nat.add_sub_cancel_left,set_append,if_pos (by rw[lM];exact b),length_set,append_assoc,List.map_set];rfl
 rw[e];rfl
end
end
variable{z:Int}{y:List Nat}{l:Nat}
theorem Cs{a:Nat}:ay SS.P .rem 240 (.int .u64 (a:Int)) (.int .u64 1000000000)=some (.int .u64 ((a%BB:Nat):Int)):=by
 have:=fQ (P:=SS.P) (t:=240) (k:= .u64) (a:=(a:Int)) (b:=BB) (by omega) (by decide);rw[<-Int.natCast_emod]at this;exact this
theorem EG{a:Nat}(h:a<18446744073709551616):ay SS.P .quo 240 (.int .u64 (a:Int)) (.int .u64 1000000000)=some (.int .u64 ((a/BB:Nat):Int)):=by
 have:=nE (P:=SS.P) (t:=240) (a:=(a:Int)) (b:=BB) (by omega) (by omega) (by decide);rw[<-Int.natCast_ediv]at this;exact this
theorem aao{a b:Nat}(c:0<b):ay SS.P .rem 240 (.int .u64 (a:Int)) (.int .u64 (b:Int))=some (.int .u64 ((a%b:Nat):Int)):=by
 have:=fQ (P:=SS.P) (t:=240) (k:= .u64) (a:=(a:Int)) (b:=b) (by omega) c;rw[<-Int.natCast_emod]at this;exact this
theorem UL{a b:Nat}(h:a<18446744073709551616)(c:0<b):ay SS.P .quo 240 (.int .u64 (a:Int)) (.int .u64 (b:Int))=some (.int .u64 ((a/b:Nat):Int)):=by
 have:=nE (P:=SS.P) (t:=240) (a:=(a:Int)) (b:=b) (by omega) (by omega) c;rw[<-Int.natCast_ediv]at this;exact this
theorem wU(h:z=(n:Int))(a:n<18446744073709551616):wrap .u64 z=(n:Int):=by rw[h];exact dZ (by omega) (by omega)
structure ZO(h:aa)(k off c m:Nat)(cs:List Value)(U V:List Nat)(b:Option Addr)(d:Nat):Prop where
 w:Wf h
 get:h.get k=some (.cells (bT cs off U) 240 1 true)
 fit:off+U.length<=cs.length
 ul:U.length=m+1
 vl:V.length=m
 mp:0<m
 mle:m<=10000
 ult:∀x∈U,x<BB
 vlt:∀x∈V,x<BB
 v1:0<V.getD (m-1) 0
 lt:Num.bv BB U<BB*Num.bv BB V
 rd:∀g,HL h k g->Rd g 240 (.slice b m d) (V.map uv)
def E9(h:aa)(k a:Nat)(cs:List Value)(m:Nat)(U V:List Nat):VH:=λv b=>∃W:List Nat,W.length=m+1/\(∀x∈W,x<BB)/\Num.bv BB W=Num.bv BB U%Num.bv BB V/\v=uv (Num.bv BB U/Num.bv BB V)/\b.get k=some (.cells (bT cs a W) 240 1 true)/\HL h k b
theorem Jb{c:Nat}{cs:List Value}{V:List Nat}{b:Option Addr}(D:ZO h k n c m cs y V b l):
  FW SS 261 [.slice (some ⟨k,n,none⟩) (m+1) c,.slice b m l] h (E9 h k n cs m y V):=by
 have y1:BB=1000000000:=rfl;have w1:=D.ul;have v7:=D.vl;have x5:=D.mp;have u7:=D.mle;have I:0<BB:=by decide
 have ug:∀i,y.getD i 0<BB:=λi=>bp I D.ult i;have vg:∀i,V.getD i 0<BB:=λi=>bp I D.vlt i;have y5:wrap .i64 ((m:Int)-1)=((m-1:Nat):Int):=by rw[aO (by omega) (by omega)];omega
 have z5:1<m->wrap .i64 ((m:Int)-2)=((m-2:Nat):Int):=λhm=>by rw[aO (by omega) (by omega)];omega
 have P:wrap .i64 ((m:Int)+1)=(m:Int)+1:=aO (by omega) (by omega);have wi:∀i:Nat,i<=m->wrap .i64 ((i:Int)+1)=((i+1:Nat):Int):=λi hi=>by rw[aO (by omega) (by omega)];omega
 have L3:=λ(d:Nat) (W:List Nat) (y4:0<d) (C:d<BB) (w0:W.length=m+1) (w:∀x∈W,x<BB) (hq:d-1=Num.bv BB y/Num.bv BB V) (z3:Num.bv BB (bq (aP BB) W V 0 (m+1) 0)=Num.bv BB y%Num.bv BB V)=>
  sy (some ⟨k,n,none⟩) (m+1) c b m l (d:Int) ((m:Int)+1) (λa i cy g=>i<=m+1/\a=m+1-i/\cy=(eE (aP BB) W V 0 0 i:Nat)/\g.get k=some (.cells (bT cs n (bq (aP BB) W V 0 i 0++W.drop i)) 240 1 true)/\HL h k g) (E9 h k n cs m y V) (by
  intro a i cy;intros;rename_i g hi;obtain⟨h1,h2,rfl,B,H⟩:=hi;have r:(bq (aP BB) W V 0 i 0).length=i:=gN _ _ _ _ _ _;have L:=jg (aP BB) W V i 0 0;rw[zero_add]at L;have x0:eE (aP BB) W V 0 0 (i+1)=(aP BB (W.getD i 0) (V.getD i 0) (eE (aP BB) W V 0 0 i)).2:=by
   show(aP BB (W.getD (0+i) 0) (V.getD (0+i) 0) _).2=_;rw[zero_add]
  have wg:W.getD i 0<BB:=bp I w i;have v3:eE (aP BB) W V 0 0 i<=1:=by
   clear x0 L r B h2 h1
   induction i with
   |zero=>exact Nat.zero_le _
   |succ j ih=>
    have a1:=bp (b:=BB) I w (0+j);have a2:=vg (0+j);have a3:=ih (bp I w j);show(W.getD (0+j) 0+V.getD (0+j) 0+eE (aP BB) W V 0 0 j)/BB<=1;have:(W.getD (0+j) 0+V.getD (0+j) 0+eE (aP BB) W V 0 0 j)/BB<2:=div_lt_of_lt_mul (by omega);omega
  have u4:=vg i;have o:(bq (aP BB) W V 0 i 0++W.drop i).length=m+1:=by rw[length_append,r,length_drop];omega
  have J:=D.fit;refine ah (λA=>?_) (λA=>?_)
  ·have A:=dT A;have M:=BP B (by rw[o];omega) (i:=i) (by rw[o];omega);rw[uE _ _ r]at M;have X:=H.wf _ _ B;have step:∀(s:Nat),s=W.getD i 0+V.getD i 0+eE (aP BB) W V 0 0 i->
     aj SS.P 240 (.pointer (some ⟨k,n+i,none⟩)) (.int .u64 ((s%BB:Nat):Int)) g=some (undef,.set k (.cells (bT cs n (bq (aP BB) W V 0 (i+1) 0++W.drop (i+1))) 240 1 true)):=λs Y=>by
    rw[CA B (by rw[o];omega) (by rw[o];omega),yy _ _ r (by omega),L,Y];rfl
   refine⟨_,vy (by omega) (by omega),_,by rw[toNat_natCast];exact M,?_⟩;have e1:wrap .u64 (((W.getD i 0:Nat):Int)+((eE (aP BB) W V 0 0 i:Nat):Int))=((W.getD i 0+eE (aP BB) W V 0 0 i:Nat):Int):=wU (by omega) (by omega);dsimp only;rw[e1,wi i (by omega)];refine ah (λf=>?_) (λf=>?_)
   ·have f:=dT f;obtain⟨p,Q,K⟩:=D0 (D.rd g H) (i:=(i:Int)) (by omega) (by omega);rw[toNat_natCast]at K;refine⟨p,Q,_,K,?_⟩;have e2:wrap .u64 (((W.getD i 0+eE (aP BB) W V 0 0 i:Nat):Int)+((V.getD i 0:Nat):Int))=((W.getD i 0+V.getD i 0+eE (aP BB) W V 0 0 i:Nat):Int):=wU (by omega) (by omega);dsimp only;rw[e2];refine⟨_,Cs,_,EG (by omega),_,vy (by omega) (by omega),_,by rw[toNat_natCast];exact step _ rfl,?_⟩;refine mE (a-1) (by omega) ⟨by omega,by omega,by rw[x0];rfl,?_,H.set X _⟩;show(g.set k _).get k=_;rw[aa.aw,if_pos rfl]
   ·have f:=dF f;have x7:V.getD i 0=0:=by rw[gD,getElem?_eq_none (by omega)];rfl
    refine⟨_,Cs,_,EG (by omega),_,vy (by omega) (by omega),_,by rw[toNat_natCast];exact step _ (by omega),?_⟩;refine mE (a-1) (by omega) ⟨by omega,by omega,?_,?_,H.set X _⟩
    ·rw[x0];show _=(((W.getD i 0+V.getD i 0+eE (aP BB) W V 0 0 i)/BB:Nat):Int);rw[x7,add_zero]
    ·show(g.set k _).get k=_;rw[aa.aw,if_pos rfl]
  ·have A:=dF A;obtain rfl:i=m+1:=by omega
   have e3:wrap .u64 ((d:Int)-1)=((d-1:Nat):Int):=wU (by omega) (by omega);rw[e3];rw[drop_of_length_le (by omega),append_nil]at B;exact⟨_,r,jH (λp q c=>mod_lt _ I) _ _ _ _ _,z3,by rw[hq];rfl,B,H⟩)
 have L2:=λ(d:Nat) (C:d<BB) (u3:Num.bv BB y<(d+1)*Num.bv BB V) (u0:d*Num.bv BB V<Num.bv BB y+Num.bv BB V)=>
  sw (some ⟨k,n,none⟩) (m+1) c b m l (d:Int) ((m:Int)+1) (λa i F cy g=>i<=m+1/\a=m+1-i/\F=((bt BB d y V 0 i 0 0).2.1:Nat)/\cy=((bt BB d y V 0 i 0 0).2.2:Nat)/\g.get k=some (.cells (bT cs n ((bt BB d y V 0 i 0 0).1++y.drop i)) 240 1 true)/\HL h k g) (E9 h k n cs m y V) (by
  intro a i F cy;intros;rename_i g hi;obtain⟨h1,h2,rfl,rfl,B,H⟩:=hi;have r:(bt BB d y V 0 i 0 0).1.length=i:=oJ _ _ _ _ _ _ _ _;have L:=qu BB d y V i 0 0 0;rw[zero_add]at L;have z4:=C5 (q:=d) (v:=V) eY D.ult i;have z8:=pU eY C (u:=y) D.vlt i;generalize u1:bt BB d y V 0 i 0 0=st at*;obtain⟨Wl,F,cy⟩:=st;dsimp only at r B z4 z8 L⊢;have o:(Wl++y.drop i).length=m+1:=by rw[length_append,r,length_drop];omega
  have J:=D.fit;have v6:=ug i;have u4:=vg i;have y3:d*V.getD i 0<=999999999*999999999:=mul_le_mul (by omega) (by omega);refine ah (λA=>?_) (λA=>?_)
  ·have A:=dT A;have M:=BP B (by rw[o];omega) (i:=i) (by rw[o];omega);rw[uE _ _ r]at M;have X:=H.wf _ _ B;have step:∀(s:Nat),s=d*V.getD i 0+cy->
     aj SS.P 240 (.pointer (some ⟨k,n+i,none⟩)) (.int .u64 (((y.getD i 0+BB-s%BB-F)%BB:Nat):Int)) g=some (undef,.set k (.cells (bT cs n ((bt BB d y V 0 (i+1) 0 0).1++y.drop (i+1))) 240 1 true)):=λs Y=>by
    rw[CA B (by rw[o];omega) (by rw[o];omega),yy _ _ r (by omega),L,Y];rfl
   have Z:∀(s:Nat),s=d*V.getD i 0+cy->∀(z9:Addr),z9=⟨k,n+i,none⟩->
     ∃y7:Int,ay SS.P .rem 240 (.int .u64 (s:Int)) (.int .u64 1000000000)=some (.int .u64 y7)/\y7=((s%BB:Nat):Int):=λs _ _ _=>⟨_,Cs,rfl⟩
   rw[wi i (by omega)];have fin:∀(s:Nat),s=d*V.getD i 0+cy->((1-(y.getD i 0+BB-s%BB-F)/BB:Nat):Int)=((bt BB d y V 0 (i+1) 0 0).2.1:Nat)/\((s/BB:Nat):Int)=((bt BB d y V 0 (i+1) 0 0).2.2:Nat):=λs Y=>by
    rw[L,Y];exact⟨rfl,rfl⟩
   have ed:∀s:Nat,wrap .u64 (wrap .u64 (wrap .u64 (((y.getD i 0:Nat):Int)+1000000000)-((s%BB:Nat):Int))-(F:Int))=((y.getD i 0+BB-s%BB-F:Nat):Int):=λs=>by
    have hm:=mod_lt s I;generalize s%BB=z at hm;have a1:wrap .u64 (((y.getD i 0:Nat):Int)+1000000000)=((y.getD i 0+BB:Nat):Int):=wU (by omega) (by omega);have a2:wrap .u64 (((y.getD i 0+BB:Nat):Int)-(z:Int))=((y.getD i 0+BB-z:Nat):Int):=wU (by omega) (by omega);have a3:wrap .u64 (((y.getD i 0+BB-z:Nat):Int)-(F:Int))=((y.getD i 0+BB-z-F:Nat):Int):=wU (by omega) (by omega);rw[a1,a2,a3]
   have z0:∀s:Nat,wrap .u64 (1-(((y.getD i 0+BB-s%BB-F)/BB:Nat):Int))=((1-(y.getD i 0+BB-s%BB-F)/BB:Nat):Int):=λs=>by
    have h9:(y.getD i 0+BB-s%BB-F)/BB<2:=div_lt_of_lt_mul (by omega);generalize (y.getD i 0+BB-s%BB-F)/BB=z at h9⊢;exact wU (by omega) (by omega)
   refine ah (λf=>?_) (λf=>?_)
   ·have f:=dT f;obtain⟨p,Q,K⟩:=D0 (D.rd g H) (i:=(i:Int)) (by omega) (by omega);rw[toNat_natCast]at K;refine⟨p,Q,_,K,_,vy (by omega) (by omega),_,by rw[toNat_natCast];exact M,?_⟩;have e2:wrap .u64 ((cy:Int)+wrap .u64 ((d:Int)*((V.getD i 0:Nat):Int)))=((d*V.getD i 0+cy:Nat):Int):=by
     have e0:wrap .u64 ((d:Int)*((V.getD i 0:Nat):Int))=((d*V.getD i 0:Nat):Int):=wU (by rw[Int.natCast_mul]) (by omega);rw[e0];exact wU (by omega) (by omega)
    rw[e2];refine⟨_,Cs,?_⟩;dsimp only;rw[ed];have hm:=mod_lt (d*V.getD i 0+cy) I;refine⟨_,Cs,_,EG (by omega),_,EG (by omega),_,vy (by omega) (by omega),_,by rw[toNat_natCast];exact step _ rfl,?_⟩;rw[z0];refine IN (a-1) (by omega) ⟨by omega,by omega,(fin _ rfl).1,(fin _ rfl).2,?_,H.set X _⟩;show(g.set k _).get k=_;rw[aa.aw,if_pos rfl]
   ·have f:=dF f;have x7:V.getD i 0=0:=by rw[gD,getElem?_eq_none (by omega)];rfl
    have x4:cy=d*V.getD i 0+cy:=by rw[x7,mul_zero,zero_add]
    refine⟨_,vy (by omega) (by omega),_,by rw[toNat_natCast];exact M,_,Cs,?_⟩;dsimp only;rw[ed];have hm:=mod_lt cy I;refine⟨_,Cs,_,EG (by omega),_,EG (by omega),_,vy (by omega) (by omega),_,by rw[toNat_natCast];exact step _ x4,?_⟩;rw[z0];refine IN (a-1) (by omega) ⟨by omega,by omega,(fin _ x4).1,(fin _ x4).2,?_,H.set X _⟩;show(g.set k _).get k=_;rw[aa.aw,if_pos rfl]
  ·have A:=dF A;obtain rfl:i=m+1:=by omega
   obtain⟨d0,d1,d2⟩:=Fe eY D.ult D.vlt D.ul D.vl C u3 u0;have w:=rK (q:=d) eY y V (m+1) 0 0 0;rw[u1]at d0 d1 d2 w;dsimp only at d0 d1 d2 w;rw[drop_of_length_le (by omega),append_nil]at B;refine ah (λf=>?_) (λf=>?_)
   ·have f:(F:Int)=0:=by simpa using f
    obtain⟨e1,e2⟩:=d1 (by omega);exact⟨Wl,r,w,e2,by rw[e1];rfl,B,H⟩
   ·have f:¬(F:Int)=0:=by simpa using f
    obtain⟨e0,e1,e2⟩:=d2 (by omega);rw[P];exact L3 d Wl e0 C r w e1 e2 (m+1) (i:=0) ⟨by omega,by omega,rfl,by simpa[bq]using B,H⟩)
 have O:=D.v1;have y0:y.getD m 0*BB+y.getD (m-1) 0<1000000000000000000:=by
  have a1:=ug m;have a2:=ug (m-1);have a3:y.getD m 0*BB=1000000000*y.getD m 0:=by rw[y1,mul_comm]
  omega
 have L1:=su (some ⟨k,n,none⟩) (m+1) c b m l (λa q Z g=>∃d G:Nat,q=(d:Int)/\Z=(G:Int)/\a=d/\fG BB m y V d G/\g.get k=some (.cells (bT cs n y) 240 1 true)/\HL h k g) (E9 h k n cs m y V) (by
  intro a q Z;intros;rename_i g hi;obtain⟨d,G,rfl,rfl,rfl,T,B,H⟩:=hi;have hT:=T.eq;have J:=D.fit;have v8:G<1000000000000000000:=Nat.lt_of_le_of_lt (by rw[<-hT];omega) y0;have v5:a<1000000000000000000:=by
   refine Nat.lt_of_le_of_lt ?_ y0;rw[<-hT];have:=Nat.le_mul_of_pos_right a O;omega
  have t:=H.room 28;have E:(room g 28).get k=some (.cells (bT cs n y) 240 1 true):=B;have v1:=vg (m-1);have hj:((m-1:Nat):Int).toNat=m-1:=by omega
  obtain⟨p1,Q,K⟩:=D0 (D.rd _ t) (i:=((m-1:Nat):Int)) (by omega) (by omega);rw[hj]at K;have er:wrap .u64 ((G:Int)+((V.getD (m-1) 0:Nat):Int))=((G+V.getD (m-1) 0:Nat):Int):=wU (by omega) (by omega);have u6:∀(S:Nat),S<BB->Num.bv BB y<(S+1)*Num.bv BB V->S*Num.bv BB V<Num.bv BB y+Num.bv BB V->_:=λS h1 h2 h3=>L2 S h1 h2 h3;have y2:Num.bv BB y<a*Num.bv BB V->0<a/\fG BB m y V (a-1) (G+V.getD (m-1) 0):=λM=>⟨by
   rcases eq_zero_or_pos a with e|e
   ·subst e;rw[zero_mul]at M;omega
   ·exact e,T.lower M⟩
  have x3:a-1<BB->BB<=G+V.getD (m-1) 0->fG BB m y V (a-1) (G+V.getD (m-1) 0)->(a-1)*Num.bv BB V<Num.bv BB y+Num.bv BB V:=λh1 h2 N=>
   N.last eY D.ul D.vl x5 D.vlt O h1 λ_=>sM h1 (vg (m-2)) h2
  have u9:Num.bv BB y<a*Num.bv BB V->True:=λ_=>trivial;rw[y5];refine ah (λA=>?_) (λA=>?_)
  ·have A:=dT A;obtain⟨y4,N⟩:=y2 (fG.ac5 D.lt (by omega));have x8:wrap .u64 ((a:Int)-1)=((a-1:Nat):Int):=wU (by omega) (by omega);rw[x8];refine⟨p1,Q,_,K,?_⟩;dsimp only;rw[er];generalize x2:decide (((a-1:Nat):Int)<1000000000)=bz;refine ah (λf=>ah (λR=>?_) (λR=>?_)) (λf=>?_)
   ·subst x2;have f:=dT f;have R:=dT R;rw[P];exact L2 (a-1) (by omega) N.hi (x3 (by omega) (by omega) N) (m+1) (i:=0) ⟨by omega,by omega,rfl,rfl,by simpa[bt]using E,t⟩
   ·exact mE (a-1) (by omega) ⟨a-1,_,rfl,rfl,rfl,N,E,t⟩
   ·exact mE (a-1) (by omega) ⟨a-1,_,rfl,rfl,rfl,N,E,t⟩
  ·have A:=dF A;have C:a<BB:=by omega
   have x1:(1<m->a*V.getD (m-2) 0<=G*BB+y.getD (m-2) 0)->a*Num.bv BB V<Num.bv BB y+Num.bv BB V:=λY=>T.last eY D.ul D.vl x5 D.vlt O C Y;refine ah (λf=>?_) (λf=>?_)
   ·have f:=dT f;have y8:1<m:=by omega
    rw[z5 y8];generalize x2:decide ((G:Int)<1000000000)=bz;refine ah (λR=>?_) (λR=>?_)
    ·subst x2;have R:=dT R;have z2:((m-2:Nat):Int).toNat=m-2:=by omega
     obtain⟨p2,g4,g5⟩:=D0 (D.rd _ t) (i:=((m-2:Nat):Int)) (by omega) (by omega);rw[z2]at g5;have M:=BP E J (i:=m-2) (by omega);refine⟨p2,g4,_,g5,_,vy (by omega) (by omega),_,by rw[z2];exact M,?_⟩;have v2:=vg (m-2);have v9:=ug (m-2);have y3:a*V.getD (m-2) 0<=999999999*999999999:=mul_le_mul (by omega) (by omega);have ea:wrap .u64 ((a:Int)*((V.getD (m-2) 0:Nat):Int))=((a*V.getD (m-2) 0:Nat):Int):=wU (by rw[Int.natCast_mul]) (by omega);obtain⟨RB,x9⟩:∃x,x=G*BB:=⟨_,rfl⟩
     have u8:RB=1000000000*G:=by rw[x9,y1,mul_comm]
     obtain⟨MV,x6⟩:∃x,x=a*V.getD (m-2) 0:=⟨_,rfl⟩
     rw[<-x6]at y3 ea;have eb:wrap .u64 ((G:Int)*1000000000)=(RB:Int):=wU (by omega) (by omega);have ec:wrap .u64 ((RB:Int)+((y.getD (m-2) 0:Nat):Int))=((RB+y.getD (m-2) 0:Nat):Int):=wU (by omega) (by omega);dsimp only;rw[ea,eb,ec];generalize y9:decide ((MV:Int)>((RB+y.getD (m-2) 0:Nat):Int))=v4;refine ah (λh8=>?_) (λh8=>?_)
     ·subst y9;have h8:=dT h8;obtain⟨y4,N⟩:=y2 (T.second D.ul D.vl y8 D.ult (by rw[<-x9,<-x6];omega));have x8:wrap .u64 ((a:Int)-1)=((a-1:Nat):Int):=wU (by omega) (by omega);rw[x8];refine⟨p1,Q,_,K,?_⟩;dsimp only;rw[er];generalize w2:decide (((a-1:Nat):Int)<1000000000)=bx;refine ah (λh9=>ah (λu5=>?_) (λu5=>?_)) (λh9=>?_)
      ·have h9:=dT h9;rw[P];exact L2 (a-1) (by omega) N.hi (x3 (by omega) (by omega) N) (m+1) (i:=0) ⟨by omega,by omega,rfl,rfl,by simpa[bt]using E,t⟩
      ·exact mE (a-1) (by omega) ⟨a-1,_,rfl,rfl,rfl,N,E,t⟩
      ·exact mE (a-1) (by omega) ⟨a-1,_,rfl,rfl,rfl,N,E,t⟩
     ·subst y9;have h8:=dF h8;rw[P];exact L2 a C T.hi (x1 λ_=>by rw[<-x9,<-x6];omega) (m+1) (i:=0) ⟨by omega,by omega,rfl,rfl,by simpa[bt]using E,t⟩
    ·subst x2;have R:=dF R;rw[P];exact L2 a C T.hi (x1 λ_=>sM C (vg (m-2)) (by omega)) (m+1) (i:=0) ⟨by omega,by omega,rfl,rfl,by simpa[bt]using E,t⟩
   ·have f:=dF f;rw[P];exact L2 a C T.hi (x1 λhm=>by omega) (m+1) (i:=0) ⟨by omega,by omega,rfl,rfl,by simpa[bt]using E,t⟩)
 have z7:=(HL.refl (k:=k) D.w).room 12;have z1:=z7.room 16;have J:=D.fit;have hj:((m-1:Nat):Int).toNat=m-1:=by omega
 have z6:=BP (g:=room h 12) D.get J (i:=m) (by omega);have u2:=BP (g:=room h 12) D.get J (i:=m-1) (by omega);obtain⟨p1,Q,K⟩:=D0 (D.rd _ z1) (i:=((m-1:Nat):Int)) (by omega) (by omega);rw[hj]at K;have a1:=ug m;have a2:=ug (m-1);refine Ja _ _ _ _ _ _ h _ ⟨_,vy (by omega) (by omega),_,by rw[toNat_natCast];exact z6,?_⟩;rw[y5];refine⟨_,vy (by omega) (by omega),_,by rw[hj];exact u2,p1,Q,_,K,?_⟩;obtain⟨TB,y6⟩:∃x,x=y.getD m 0*BB:=⟨_,rfl⟩
 have v0:TB=1000000000*y.getD m 0:=by rw[y6,y1,mul_comm]
 have ea:wrap .u64 (((y.getD m 0:Nat):Int)*1000000000)=(TB:Int):=wU (by omega) (by omega);have eb:wrap .u64 ((TB:Int)+((y.getD (m-1) 0:Nat):Int))=((TB+y.getD (m-1) 0:Nat):Int):=wU (by omega) (by omega);rw[ea,eb];have U:=fG.start eY D.ul D.vl x5 D.ult O;rw[<-y6]at U;refine⟨_,UL (by omega) O,p1,Q,_,K,_,aao O,?_⟩;exact L1 _ ⟨_,_,rfl,rfl,rfl,U,D.get,z1⟩
variable{T:TypeId}{c:List Value}
theorem fg.aee{b:aa}(d:g.next<=b.next)(o:fg b h T v c):fg g h T v c:=by
 rcases o with o|⟨k,cs,a,f,e,i,j⟩
 ·exact .inl o
 ·exact .inr ⟨k,cs,a,Nat.le_trans d f,e,i,j⟩
theorem aaQ(k:Int):dK SS.P 240 (.int .u64 k)=some (.cells [.int .u64 k] 240 0 true,dX):=by kernel_rfl
theorem vR{c:Nat}(p:Rd h 240 (.slice a n c) (x.map uv))(m:∀d∈x,d<BB)(b:x.length<=10000){k:Nat}(g:0<k)(q:k<=BB)(w:Wf h):
  FW SS 260 [.slice a n c,.int .u64 (k:Int)] h (jK h 240 (bl (Num.bv BB x*k))):=by
 have e:=(Ok.refl w).push (.cells [.int .u64 (k:Int)] 240 0 true);refine Gw a n c _ h _ ⟨_,aaQ _,?_⟩;have r:ae SS.P 240 (h.push (.cells [.int .u64 (k:Int)] 240 0 true)) (.pointer (some ⟨h.next,0,none⟩))=some (.int .u64 (k:Int)):=by
  unfold ae;rw[OQ];dsimp only;rw[aa.aM,if_pos rfl];dsimp only;rw[NA];rfl
 refine(Di (p.ok e) m b r g q e.wf).mono ?_;rintro _ s ⟨j,f,l,rfl,o,i⟩;exact⟨j,f,l,rfl,j,f,l,rfl,fg.aee (le_succ _) o,e.trans i⟩
def AK(h:aa)(k a n c:Nat)(l:List Nat):Prop:=∃cs b,h.get k=some (.cells cs 240 1 b)/\n=l.length/\(cs.drop a).take n=l.map uv/\n<=aV c
theorem AK.rd{c:Nat}{l:List Nat}(r:AK h k n m c l):Rd h 240 (.slice (some ⟨k,n,none⟩) m c) (l.map uv):=by
 obtain⟨cs,d,b,rfl,a,e⟩:=r;exact .inr ⟨k,n,cs,c,d,by rw[lM],b,by rw[lM];exact a⟩
theorem AK.take{c:Nat}{l:List Nat}(r:AK h k n m c l){j:Nat}(g:j<=m):bm SS.P 260 (.slice (some ⟨k,n,none⟩) m c) none (some (.int .i64 (j:Int))) none h=some (.slice (some ⟨k,n,none⟩) j c)/\AK h k n j c (l.take j):=by
 obtain⟨cs,d,a,rfl,b,i⟩:=r;refine⟨?_,cs,d,a,by rw[length_take];omega,?_,by omega⟩
 ·unfold bm;dsimp only;rw[zj];dsimp only[dq];rw[CY,a];dsimp only;have e:((j:Int)-((0:Nat):Int)).toNat=j:=by omega
  have f:((0:Nat):Int).toNat=0:=rfl;rw[if_pos (by simp),if_pos (by omega),e,f];rfl
 ·have:=congrArg (List.take j) b;rwa[take_take,min_eq_left g,<-map_take]at this
theorem nC{c:Nat}{l:List Nat}(r:AK h k n m c l)(y:l.length<=100000):
  FW SS 210 [.slice (some ⟨k,n,none⟩) m c] h (λv o=>v = .slice (some ⟨k,n,none⟩) (cP l).length c/\o=h):=by
 have t:m=l.length:=by obtain⟨_,_,_,D,_⟩:=r;exact D
 have L:=mI (some ⟨k,n,none⟩) m c (λa r s d g=>s<=l.length/\a=s/\r=some ⟨k,n,none⟩/\d=c/\AK h k n s c (l.take s)/\cP l=cP (l.take s)/\g=h) (λv o=>v = .slice (some ⟨k,n,none⟩) (cP l).length c/\o=h) (by
  intro a r s d;intros;rename_i g F;obtain⟨C,rfl,rfl,rfl,u,q,rfl⟩:=F;have E:wrap .i64 ((a:Int)-1)=(a:Int)-1:=aO (by omega) (by omega);rw[E];have f:a≠0->l.take a=l.take (a-1)++[l.getD (a-1) 0]:=λf=>by
   obtain⟨j,rfl⟩:∃j,a=j+1:=⟨a-1,by omega⟩
   rw[List.take_succ_eq_append_getElem (by omega),add_sub_cancel,gD,gE (by omega)];rfl
  refine ah (λe=>?_) (λe=>?_)
  ·have e:=dT e;obtain⟨p,A,x⟩:=D0 u.rd (i:=(a:Int)-1) (by omega) (by rw[length_take];omega);have z:(l.take a).getD ((a:Int)-1).toNat 0=l.getD (a-1) 0:=by
    rw[show((a:Int)-1).toNat=a-1 by omega,gD,getElem?_take,if_pos (by omega),gD]
   rw[z]at x;refine⟨p,A,_,x,ah (λb=>?_) (λb=>?_)⟩
   ·have b:((l.getD (a-1) 0:Nat):Int)=0:=by simpa using b
    have b:l.getD (a-1) 0=0:=by omega
    obtain⟨B,w⟩:=u.take (j:=a-1) (by omega);rw[show((a:Int)-1)=((a-1:Nat):Int) by omega];refine⟨_,_,_,B,IN (a-1) (by omega) ⟨by omega,rfl,rfl,rfl,?_,?_,rfl⟩⟩
    ·rw[take_take,min_eq_left (by omega)]at w;exact w
    ·rw[q,f (by omega),b,gr]
   ·have b:¬((l.getD (a-1) 0:Nat):Int)=0:=by simpa using b
    refine⟨?_,rfl⟩;rw[q,f (by omega),hW _ (by omega),<-f (by omega),length_take,min_eq_left C]
  ·have e:=dF e;obtain rfl:a=0:=by omega
   refine⟨?_,rfl⟩;rw[q];rfl)
 exact BT _ m c h _ (L m ⟨by omega,rfl,rfl,rfl,by rw[show l.take m=l by rw[t,take_length]];exact r,by rw[show l.take m=l by rw[t,take_length]],rfl⟩)
theorem CX:∀n,bG [uv 0] n=(List.replicate n 0).map uv
 |0=>rfl
 |n+1=>by rw[bG,CX n];rfl
noncomputable def VP:TypeInfo:=(SS.P.info? 240).getD default
theorem VQ:SS.P.info? 240=some VP:=by kernel_rfl
theorem M6:VP.size=1:=by kernel_rfl
theorem Kh:VP.bytes=8:=by kernel_rfl
theorem ZM:zeroOf SS.P 240=some (uv 0):=by kernel_rfl
theorem aah(n:Nat)(a:n<=100000):aR SS.P 260 (.int .i64 (n:Int)) (.int .i64 (n:Int))=some (.cells ((List.replicate n 0).map uv) 240 1 true,jc n n):=by
 unfold aR aT;dsimp only;rw[zj]
 try dsimp only
 change (match SS.P.info? 240,zeroOf SS.P 240 with
  |some i,some z=>(if z.cells.size=i.size/\0<i.size/\(0:Int)<=(n:Int)/\(n:Int)<=(n:Int)/\(n:Int)*i.bytes<=140737488355328/\(n:Int)<=1099511627776 then some (bw.cells (bG z.cells.toList (n:Int).toNat) 240 i.size true,λk=>Value.slice (some ⟨k,0,none⟩) (n:Int).toNat (n:Int).toNat)else none)
  |_,_=>none)=_
 rw[VQ,ZM];dsimp only;rw[M6,Kh,if_pos ⟨rfl,by omega,by omega,Int.le_refl _,by omega,by omega⟩];have e:((n:Int)).toNat=n:=by omega
 rw[e,show(uv 0).cells.toList=[uv 0]from rfl,CX];rfl
theorem kN(h:(c.drop n).take x.length=x.map uv):bT c n x=c:=by
 unfold bT;rw[<-h,append_assoc,<-drop_drop,take_append_drop,take_append_drop]
theorem Df{W:List Nat}(h:n+y.length<=x.length)(e:x.length<=c.length)(g:y.length=W.length)(f:(x.drop n).take W.length=W):
  bT (bT c 0 x) n y=bT c 0 (x.take n++y++x.drop (n+y.length)):=by
 unfold bT;have b:(c.take 0++x.map uv++c.drop (0+x.length)).take n=(x.take n).map uv:=by
  rw[take_zero,nil_append,List.take_append_of_le_length (by rw[lM];omega),map_take]
 have d:(c.take 0++x.map uv++c.drop (0+x.length)).drop (n+y.length)=(x.drop (n+y.length)).map uv++c.drop (0+x.length):=by
  rw[take_zero,nil_append,List.drop_append_of_le_length (by rw[lM];omega),List.map_drop]
 have a:(x.take n++y++x.drop (n+y.length)).length=x.length:=by
  simp only[length_append,length_take,length_drop];omega
 rw[b,d,a,map_append,map_append,take_zero,nil_append,append_assoc,append_assoc,append_assoc]
theorem nO(a:n+m<=x.length):((bT c 0 x).drop n).take m=((x.drop n).take m).map uv:=by
 unfold bT;rw[take_zero,nil_append,List.drop_append_of_le_length (by rw[lM];omega),List.take_append_of_le_length (by rw[length_drop,lM];omega),<-List.map_drop,<-map_take]
theorem BN(h:n+x.length<=c.length):(bT c n x).length=c.length:=by
 unfold bT;simp only[length_append,length_take,lM,length_drop];omega
theorem AK.Hn{c:Nat}{l:List Nat}(r:AK h k n m c l){lo hi:Nat}(f:lo<=hi)(i:hi<=m):bm SS.P 260 (.slice (some ⟨k,n,none⟩) m c) (some (.int .i64 (lo:Int))) (some (.int .i64 (hi:Int))) none h=some (.slice (some ⟨k,n+lo,none⟩) (hi-lo) (c-lo)):=by
 obtain⟨cs,g,a,rfl,e,j⟩:=r;unfold bm;dsimp only;rw[zj];dsimp only[dq];rw[CY,a];dsimp only;have b:((hi:Int)-(lo:Int)).toNat=hi-lo:=by omega
 have d:((lo:Nat):Int).toNat=lo:=by omega
 rw[if_pos (by simp),if_pos (by omega),b,d,mul_one]
structure aaw(h2 G:aa)(ku kv kq:Nat)(cu:List Value)(cv:List Value)(U Ql:List Nat)(N m XK V j:Nat):Prop where
 ok:Ok h2 G
 w2:Wf h2
 u2:h2.next<=ku
 q2:h2.next<=kq
 gu:G.get ku=some (.cells (bT cu 0 U) 240 1 true)
 gv:G.get kv=some (.cells cv 240 1 true)
 gq:G.get kq=some (.cells (bT ((List.replicate (N+1-m) 0).map uv) 0 Ql) 240 1 true)
 uv':ku≠kv
 uq:ku≠kq
 vq:kv≠kq
 ul:U.length=N+1
 cl:N+1<=cu.length
 abw:Ql.length=N+1-m
 ZG:(cv.take (aG BB V).length)=bl V
 inv:fW BB m V XK U Ql j
end Go.Proofs.YtnlccnpbjeiccaaGreatDoor
end
