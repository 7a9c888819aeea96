/- Laws and walks that the proof leans on (part 6): G6; G7; G8; G9; F3; G10 and others. No condition. -/
import Derived.Test.YtnlccnpbjeiccaaGreatDoorPart5
import Derived.Test.YtnlccnpbjeiccaaGreatDoorPart3
set_option linter.unusedVariables false
set_option linter.unusedSimpArgs false
set_option maxRecDepth 100000
open List (append_assoc append_nil countP_cons eq_nil_of_length_eq_zero getElem?_eq_none getElem?_map getElem?_of_mem getElem?_replicate getElem?_set length_append length_cons length_nil length_replicate length_set length_singleton length_take map_append map_map map_set mem_append mem_cons mem_map mem_singleton nodup_cons reverse_append sum_cons)
open Nat (zero_add zero_le)
open Bool (and_eq_true)
open Int (toNat_natCast)
open Go.IntKind (wrap)
section
namespace Go.Proofs.YtnlccnpbjeiccaaGreatDoor
open Go Go.Ab Go.Num
variable{i:Nat}{v:Value}{d:List Value}{c:List Value}{h:aa}{m:Nat}{M:aG}
section
theorem oN{n:Nat}(h:i<n)(a:n<=4611686018427387904):wrap .i64 ((i:Int)+1)=((i+1:Nat):Int):=by rw[aO (by omega) (by omega)];omega
theorem UF:SS.pr 146=some Ck:=by kernel_rfl
theorem M6:ch SS.P 27=true:=by kernel_rfl
theorem Ic:∀l:List Int,Lc (l.map zV)=some l
 |[]=>rfl
 |z::l=>by
  show(Lc (l.map zV)).map (z::·)=_;rw[Ic l];rfl
def mW(l:List Nat):List Nat:=(zk (l.map λx:Nat=>(x:Int))).map Int.toNat
theorem pQ(l:List Nat):(zk (l.map λx:Nat=>(x:Int))).Perm (l.map λx:Nat=>(x:Int)):=List.mergeSort_perm ..
theorem Re{l:List Nat}{x:Nat}:x∈mW l↔x∈l:=by
 unfold mW;rw[mem_map];constructor
 ·rintro⟨z,a,rfl⟩;obtain⟨y,b,rfl⟩:=mem_map.1 ((pQ l).mem_iff.1 a);simpa using b
 ·intro h;exact⟨(x:Int),(pQ l).mem_iff.2 (mem_map.2 ⟨x,h,rfl⟩),by simp⟩
theorem oL(l:List Nat):(mW l).length=l.length:=by
 unfold mW;rw[lM,(pQ l).length_eq,lM]
theorem Vs(l:List Nat):(mW l).map iv=(zk (l.map λx:Nat=>(x:Int))).map zV:=by
 unfold mW;rw[map_map];refine List.map_congr_left λz a=>?_;obtain⟨y,b,rfl⟩:=mem_map.1 ((pQ l).mem_iff.1 a);show iv (Int.toNat (y:Int))=zV (y:Int);rw[toNat_natCast];rfl
theorem MH{h0 g:aa}{L:List cC}{l:List Nat}{G:cC}(A:Wf h0)(r:dw 3 v (l.map iv) G)(o:OL h0 g L){i:Nat}(m:L[i]?=some G)(K:l.length<=4611686018427387903):FW SS 146 [v] g (λx d=>x = .tuple ⟨[]⟩/\∃u,dw 3 v ((mW l).map iv) u/\OL h0 d (L.set i u)/\eU g L d (L.set i u)):=by
 obtain⟨J,⟨rfl,C,rfl⟩|⟨k,a,cs,c,rfl,rfl,q,D,z⟩⟩:=r
 ·have f:l=[]:=by simpa[pD]using C
  subst f;refine rR (h':=g) (v:= .tuple ⟨[]⟩) (by kernel_rfl) UF (λy=>?_) ⟨rfl,[],?_,?_⟩
  ·rfl
  ·have:mW []=[]:=eq_nil_of_length_eq_zero (oL []);rw[this];exact dw.nil 3
  ·exact o.UY m o.ok (λp s=>by cases s) (by simp) (λk n=>by cases n) (λ_ _ h _=>h)
 ·rw[du,lM]at q z;rw[jU,Nat.mul_one]at q;rw[Nat.mul_one]at D;have n:=o.get i m;have b:(pD (l.map iv)).length=l.length:=by rw[du,lM]
  have e:(pD ((mW l).map iv)).length=l.length:=by rw[du,lM,oL]
  have w:l.map iv=(l.map λx:Nat=>(x:Int)).map zV:=by rw[map_map];rfl
  have I:((mW l).map iv).length=l.length:=by rw[lM,oL]
  obtain⟨F,E⟩:=o.kJ A i m (.cells (cs.take a++(mW l).map iv++cs.drop (a+l.length)) 3 1 true);by_cases h0:l.length=0
  ·have f:l=[]:=eq_nil_of_length_eq_zero h0;subst f;refine rR (h':=g) (v:= .tuple ⟨[]⟩) (by kernel_rfl) UF (λy=>?_) ⟨rfl,[(k,.cells cs 3 1 true)],?_,?_⟩
   ·rfl
   ·have:mW []=[]:=eq_nil_of_length_eq_zero (oL []);rw[this];exact⟨vW,.inr ⟨k,a,cs,c,rfl,rfl,by simp[pD],by omega,zero_le _⟩⟩
   ·exact o.UY m o.ok (λp s=>by obtain rfl:=mem_singleton.1 s;exact n) (by simp) (λj H=> .inl H) (λ_ _ h _=>h)
  ·refine rR (h':=(bp.set k (.cells (cs.take a++(mW l).map iv++cs.drop (a+l.length)) 3 1 true)).app g) (v:= .tuple ⟨[]⟩) (by kernel_rfl) UF (λy=>?_) ⟨rfl,_,⟨vW,.inr ⟨k,a,_,c,by rw[b,e],rfl,?_,?_,by rw[e];exact z⟩⟩,F,E⟩
   ·rw[b];show(if l.length=0 then some (Value.tuple ⟨[]⟩,g)else match g.get k with
     |some (.cells cs t B true)=>if l.length<4611686018427387904/\a+l.length<=cs.length then(Lc ((cs.drop a).take l.length)).map λl'=>(Value.tuple ⟨[]⟩,g.set k (.cells (cs.take a++(zk l').map zV++cs.drop (a+l.length)) t B true))else none
     |_=>none)=_
    rw[if_neg h0,n];dsimp only;rw[if_pos (⟨by omega,by omega⟩:l.length<4611686018427387904/\a+l.length<=cs.length),q,w,Ic,Vs];rfl
   ·rw[e,Nat.mul_one,jU,append_assoc,List.drop_append,List.drop_eq_nil_of_le (by rw[length_take];omega),List.nil_append,show a-(cs.take a).length=0 by rw[length_take];omega,List.drop_zero,List.take_append_of_le_length (by omega),List.take_of_length_le (by omega)]
   ·rw[length_append,length_append,length_take,List.length_drop,I];omega
def bkL(ko kb n:Nat)(a:List Value)(b:List cC):List cC:=[(ko,.cells (List.replicate n (.pointer none)) 168 1 true)]::[(kb,.cells a 27 1 true)]::b
structure BkR(n:Nat)(bs:List (List Nat))(vs:List Value)(Gs:List cC):Prop where
 lv:vs.length=n
 lg:Gs.length=n
 lb:bs.length=n
 row:∀(j:Nat)(v:Value)(b:List Nat)(G:cC),vs[j]?=some v->bs[j]?=some b->Gs[j]?=some G->dw 3 v (b.map iv) G
theorem BkR.at_{n:Nat}{f:List (List Nat)}{g:List cC}(r:BkR n f d g){t:Nat}(h:t<n):∃b a c G,d[t]?=some (.slice a b.length c)/\f[t]?=some b/\g[t]?=some G/\dw 3 (.slice a b.length c) (b.map iv) G:=by
 have e:=gE (l:=d) (i:=t) (by rw[r.lv];exact h);have o:=gE (l:=f) (i:=t) (by rw[r.lb];exact h);have m:=gE (l:=g) (i:=t) (by rw[r.lg];exact h);have j:=r.row t _ _ _ e o m;obtain⟨a,c,k⟩:=j.oa;rw[lM]at k;rw[k]at j e;exact⟨_,a,c,_,e,o,m,j⟩
theorem BkR.set{n:Nat}{g:List (List Nat)}{i:List cC}(r:BkR n g c i)(t:Nat){v:Value}{b:List Nat}{G:cC}(h:dw 3 v (b.map iv) G):BkR n (g.set t b) (c.set t v) (i.set t G):=by
 refine⟨by rw[length_set];exact r.lv,by rw[length_set];exact r.lg,by rw[length_set];exact r.lb,λj l k m d f a=>?_⟩;rw[getElem?_set]at d f a;by_cases e:t=j
 ·rw[if_pos e]at d f a;split at d
  ·split at f
   ·split at a
    ·obtain rfl:=oI d;obtain rfl:=oI f;obtain rfl:=oI a;exact h
    ·cases a
   ·cases f
  ·cases d
 ·rw[if_neg e]at d f a;exact r.row j _ _ _ d f a
def BS(h0:aa)(ko kb n:Nat)(c:List (List Nat))(g:aa)(L:List cC):Prop:=OL h0 g L/\∃a b,BkR n c a b/\L=bkL ko kb n a b
structure Still(k3 k5 k8 km:Nat)(T:eE)(ord:List NN)(kb n:Nat)(g:aa)(L:List cC):Prop where
 m3:Im g L k3 (kj T)
 m5:Im g L k5 (.cells [.map (some km)] 163 0 true)
 m8:Im g L k8 (.cells [sA kb n n] 126 0 true)
 mm:Im g L km (.map (js ord 0))
section
variable {h0:aa} {T:eE} {ord:List NN} {k3 k5 k8 km ko kb n:Nat} {g:aa} {L:List cC}
theorem Still.cP{a:List cC}(s:Still k3 k5 k8 km T ord kb n g L)(c:eU g L h a):Still k3 k5 k8 km T ord kb n h a:=⟨c _ _ s.m3,c _ _ s.m5,c _ _ s.m8,c _ _ s.mm⟩
def C2(ord:List NN)(i:Nat)(a:List (List Nat))(x:Mv×NN):List (List Nat):=match ni ord x.2 with
 |some t=>a.set t (a.getD t []++[i])
 |none=>a
theorem Q4(J:Wf h0){r:List (List Nat)}(hr:BS h0 ko kb n r g L)(S:Still k3 k5 k8 km T ord kb n g L){B i:Nat}(mi:Im g L B (.cells [iA i] 3 0 true)){x:NN}{t:Nat}(W:ni ord x=some t)(d:t<n)(Z:∀b∈r,b.length<=500000000000)(m:Mv):
  FW SS 145 [.agg ⟨rX m⟩,.agg ⟨kV x⟩,pA k8,pA k5,pA B] g (λv f=>v = .tuple ⟨[]⟩/\∃I,BS h0 ko kb n (C2 ord i r (m,x)) f I/\eU g L f I):=by
 refine Mf (rX m) (kV x) k8 k5 B g _ ⟨_,AN m,_,xj x,?_⟩;obtain⟨o,k,V,q,rfl⟩:=hr;obtain⟨w,c1⟩:=o.grow ((Ok.refl o.ok.wf).push (iP m));generalize g.push (iP m)=g1 at*;have b:=w.fg (dh x);obtain⟨E,c2⟩:=w.grow ((Ok.refl w.ok.wf).push (dh x));have c:=c1.trans c2;generalize g1.push (dh x)=y at*;obtain⟨o3,D⟩:=E.grow ((Ok.refl E.ok.wf).room 15);have e:=S.cP (c.trans D);have N:=D _ _ b;have P:=(c.trans D) _ _ mi;have H:∀{f:aa},f.get km=some (.map (js ord 0))->jF SS.P 163 (.map (some km)) (.agg ⟨kV x⟩) false f=some (.int .i64 (t:Int)):=λh=>by
  have:=(Ac h x).2;rw[W]at this;exact this
 obtain⟨l,a,cc,G,e1,U,e3,X⟩:=q.at_ d;have R:k.getD t undef = .slice a l.length cc:=by rw[gD,e1];rfl
 have K:ae SS.P 27 (Go.Ab.room y 15) (.pointer (some ⟨kb,t,none⟩))=some (.slice a l.length cc):=by rw[aR cO gM (o3.get 1 rfl) (by rw[q.lv];exact d),R]
 refine⟨_,_,_,e.m8.ld jg ox,.map (some km),e.m5.ld oD qF,_,dh.all N.1,_,H e.mm.1,_,_,_,e.m8.ld jg ox,.map (some km),e.m5.ld oD qF,_,dh.all N.1,_,H e.mm.1,_,mF jg ej d,_,_,_,K,_,P.ld lC lB,_,_,_,tG _,?_⟩;obtain⟨o4,A,m4⟩:=E.Ly (n:=15) (j:=11) (by omega) (.cells [.int .i64 (i:Int)] 3 1 true);have s4:=S.cP (c.trans A);have b4:=A _ _ b;generalize aw (Go.Ab.room y 15) y.next [(11,.cells [.int .i64 (i:Int)] 3 1 true)]=g4 at*;have x0:=Z l (List.mem_of_getElem? U);obtain⟨C,Q,M,u,p1,p2,Y,s,p,F⟩:=X.snoc cO rk lj M6 J o4 (j:=t+2) (by exact e3) (x:= .int .i64 (i:Int)) rfl m4.1 (by rw[jd,lM];omega) (by rw[lM];omega);refine⟨_,_,_,_,p1,?_⟩;have z:=s4.cP F;have b5:=F _ _ b4;generalize u.app g4=g5 at*;have p:OL h0 g5 (bkL ko kb n k (V.set t Y)):=p;obtain⟨o6,c6⟩:=p.kJ J 1 rfl (.cells (k.set t (.slice C Q M)) 27 1 true);refine⟨_,mF jg ej d,_,bG ej (p.get 1 rfl) (by rw[q.lv];exact d) (aV ..) (by cases C<;>rfl),⟨z.m8.ld jg ox,by simp[df]⟩,⟨z.m5.ld oD qF,by simp[df]⟩,⟨dh.all b5.1,by simp[df,wN,kV]⟩,⟨H z.mm.1,by simp[df]⟩,rfl,_,⟨o6,k.set t (.slice C Q M),V.set t Y,?_,rfl⟩,(c.trans A).trans (F.trans c6)⟩;unfold C2;rw[show ni ord (m,x).2=some t from W];dsimp only;have O:r.getD t []=l:=by rw[gD,U];rfl
 rw[O];exact q.set t (by rw[map_append];exact s)
end
def uF(ord:List NN)(W:Nat->(Mv×NN)->Prop)(c:List (List Nat)):Prop:=∀t b,c[t]?=some b->∀a,a∈b↔ ∃x,W a x/\ni ord x.2=some t
theorem uF.add{ord:List NN}{W:Nat->(Mv×NN)->Prop}{j:List (List Nat)}(h:uF ord W j)(i:Nat)(x:Mv×NN):uF ord (λa y=>W a y\/(a=i/\y=x)) (C2 ord i j x):=by
 intro t b f a;unfold C2 at f
 cases g:ni ord x.2 with
 | none=>
  rw[g]at f;rw[h t b f a];constructor
  ·rintro⟨y,d,c⟩;exact⟨y,.inl d,c⟩
  ·rintro⟨y,d|⟨_,rfl⟩,c⟩
   ·exact⟨y,d,c⟩
   ·rw[g]at c;cases c
 | some s=>
  rw[g]at f;dsimp only at f;rw[getElem?_set]at f;by_cases e:s=t
  ·subst e;rw[if_pos rfl]at f;split at f
   ·next k=>
    obtain rfl:=oI f;have h0:=h s _ (gE k) a;have l:j.getD s []=j[s]:=by rw[gD,gE k];rfl
    rw[l,mem_append,h0,mem_singleton];constructor
    ·rintro(⟨y,d,c⟩|rfl)
     ·exact⟨y,.inl d,c⟩
     ·exact⟨x,.inr ⟨rfl,rfl⟩,g⟩
    ·rintro⟨y,d|⟨d,_⟩,c⟩
     ·exact .inl ⟨y,d,c⟩
     ·exact .inr d
   ·cases f
  ·rw[if_neg e]at f;rw[h t b f a];constructor
   ·rintro⟨y,d,c⟩;exact⟨y,.inl d,c⟩
   ·rintro⟨y,d|⟨_,rfl⟩,c⟩
    ·exact⟨y,d,c⟩
    ·rw[g]at c;exact absurd (oI c) e
theorem uF.congr{ord:List NN}{W f:Nat->(Mv×NN)->Prop}{g:List (List Nat)}(h:uF ord W g)(e:∀a x,W a x↔f a x):uF ord f g:=λt b i a=>by
 rw[h t b i a];exact⟨λ⟨x,c,d⟩=>⟨x,(e a x).1 c,d⟩,λ⟨x,c,d⟩=>⟨x,(e a x).2 c,d⟩⟩
theorem uF.sort{ord:List NN}{W:Nat->(Mv×NN)->Prop}{d:List (List Nat)}(h:uF ord W d){i:Nat}{b:List Nat}(g:d[i]?=some b):uF ord W (d.set i (mW b)):=by
 intro t f c a;rw[getElem?_set]at c;by_cases e:i=t
 ·subst e;rw[if_pos rfl]at c;split at c
  ·obtain rfl:=oI c;rw[Re];exact h i b g a
  ·cases c
 ·rw[if_neg e]at c;exact h t f c a
theorem R0{ord:List NN}{d:List (List Nat)}{x:Mv×NN}(h:∀b∈d,b.length<=m):∀b∈C2 ord i d x,b.length<=m+1:=by
 intro b a;unfold C2 at a;split at a
 ·next t _=>
  rcases List.mem_or_eq_of_mem_set a with f|rfl
  ·exact Nat.le_succ_of_le (h b f)
  ·rw[length_append,length_singleton];refine Nat.succ_le_succ ?_;rw[gD]
   cases e:d[t]? with
   |none=>exact zero_le _
   |some c=>exact h c (List.mem_of_getElem? e)
 ·exact Nat.le_succ_of_le (h b a)
theorem PW{a:bJ}{b:List bJ}(h:b.length<=2000):(gF a m b).length<=2000:=by
 unfold gF;split
 ·exact(by decide:(1:Nat)<=2000)
 ·exact Nat.le_trans (List.length_filterMap_le ..) h
theorem oA{b c:Type}{f:b->List c}{N:Nat}(h:∀a,(f a).length<=N):∀l:List b,(l.flatMap f).length<=l.length*N
 |[]=>by simp
 |a::l=>by
  rw[List.flatMap_cons,length_append,length_cons,Nat.add_mul,Nat.one_mul];have:=h a;have:=oA h l;omega
theorem MM{B:aG}(h:∀s∈M.ak,s.an.length<=2000)(b:∀s∈B.ak,s.an.length<=2000){k:NN}(c:inB M B k):(dQ M B k).length<=4002000:=by
 obtain⟨s,_,e,_,g⟩:=iy c.1;obtain⟨t,_,i,_,d⟩:=iy c.2;unfold dQ;rw[e,i,length_append];have l:=oA (f:=λa=>gF a k.2 t.an) (λa=>PW (b t d)) s.an;have m:=List.length_filterMap_le (lh k.1) t.an;have j:=b t d;have n:=Nat.mul_le_mul_right 2000 (h s g);omega
end
variable{k:Nat}{j:Nat}{A:Type}{x:List Nat}{l:Nat}
section
def qt(m:Mv)(p:Option Addr):bu:= .cells (rX m++[.pointer p]) 170 0 true
inductive Au(I:Nat->bu->Prop):Nat->List Mv->Prop
 |nil {k:Nat} (m:Mv) (h:I k (qt m none)):Au I k []
 |cons {k k':Nat} {m:Mv} {ms:List Mv} (h:I k (qt m (some ⟨k',0,none⟩))) (r:Au I k' ms):Au I k (m::ms)
theorem Au.mono{I I':Nat->bu->Prop}(b:∀k B,I k B->I' k B){k:Nat}{a:List Mv}(r:Au I k a):Au I' k a:=by
 induction r with
 |nil m h=>exact .nil m (b _ _ h)
 |cons h _ c=>exact .cons (b _ _ h) c
def Ds(o:Option Nat):Value:= .pointer (o.map λk=>⟨k,0,none⟩)
def zZ(a:List (Option Nat))(j:Nat):Prop:=∃k:Nat,a[j]?=some (some k)
def cW{b:Type}(a:List (Option b)):Nat:=a.countP Option.isNone
theorem pw{a:List (Option Nat)}(h:zZ a j):zZ (a.set i (some k)) j:=by
 obtain⟨b,h⟩:=h;unfold zZ;rw[getElem?_set];by_cases e:i=j
 ·rw[if_pos e,if_pos (by rw[e];exact(List.getElem?_eq_some_iff.1 h).1)];exact⟨k,rfl⟩
 ·rw[if_neg e];exact⟨b,h⟩
theorem vI{a:List (Option Nat)}(h:i<a.length):zZ (a.set i (some k)) i:=⟨k,by rw[getElem?_set,if_pos rfl,if_pos h]⟩
theorem NY{a:List (Option Nat)}(h:zZ (a.set i (some k)) j):j=i\/zZ a j:=by
 obtain⟨b,h⟩:=h;rw[getElem?_set]at h;by_cases e:i=j
 ·exact .inl e.symm
 ·rw[if_neg e]at h;exact .inr ⟨b,h⟩
theorem jb{a:Type}:∀{outs:List (Option a)}{i:Nat}(k:a),outs[i]?=some none->cW (outs.set i (some k))+1=cW outs
 |[],i,_,h=>by simp at h
 |o::outs,0,k,h=>by
  obtain rfl:o=none:=by simpa using h
  unfold cW;rw[List.set_cons_zero,List.countP_cons_of_neg (by simp),List.countP_cons_of_pos (by simp)]
 |o::outs,i+1,k,h=>by
  have:=jb (outs:=outs) (i:=i) k (by simpa using h);unfold cW at this⊢;rw[List.set_cons_succ,countP_cons,countP_cons];omega
theorem Ji(a:List (Option A)):cW a<=a.length:=List.countP_le_length
theorem BM{b:Type}:∀(a:List (Option b))(i:Nat)(k:b),cW (a.set i (some k))<=cW a
 |[],_,_=>Nat.le_refl _
 |o::a,0,k=>by
  unfold cW;rw[List.set_cons_zero,countP_cons,countP_cons];simp
 |o::a,i+1,k=>by
  have:=BM a i k;unfold cW at this⊢;rw[List.set_cons_succ,countP_cons,countP_cons];omega
def DE(h g:aa)(L:List cC)(k:Nat)(B:bu):Prop:=Im g L k B/\h.next<=k
theorem DE.cP{h g b:aa}{L a:List cC}(c:eU g L b a):∀k B,DE h g L k B->DE h b a k B:=λk B m=>⟨c _ _ m.1,m.2⟩
def qc(I:Nat->bu->Prop)(A B:aG)(ord:List NN)(a:List (Option Nat)):Prop:=∀(j k:Nat),a[j]?=some (some k)->∃(x:NN)(b:List Mv)(e:NN),ord[j]?=some x/\Au I k b/\PR A B x b e/\lJ A B e/\(lJ A B x->b=[])/\b.length+cW a<=a.length
theorem qc.mono{I I':Nat->bu->Prop}{B:aG}{ord:List NN}{a:List (Option Nat)}(c:∀k B,I k B->I' k B)(o:qc I M B ord a):qc I' M B ord a:=λj k h=>by
 obtain⟨x,b,e,f,g,d⟩:=o j k h;exact⟨x,b,e,f,g.mono c,d⟩
theorem qc.set{I:Nat->bu->Prop}{B:aG}{ord:List NN}{a:List (Option Nat)}(o:qc I M B ord a){i k:Nat}{x e:NN}{b:List Mv}(n:ord[i]?=some x)(m:Au I k b)(u:PR M B x b e)(g:lJ M B e)(s:lJ M B x->b=[])(f:b.length+cW (a.set i (some k))<=a.length):qc I M B ord (a.set i (some k)):=λj d h=>by
 rw[getElem?_set]at h;by_cases c:i=j
 ·rw[if_pos c]at h;split at h
  ·obtain rfl:=oI (oI h);exact⟨x,b,e,by rw[<-c];exact n,m,u,g,s,by rw[length_set];exact f⟩
  ·cases h
 ·rw[if_neg c]at h;obtain⟨x,b,e,p,q,l,r,t,v⟩:=o j d h;exact⟨x,b,e,p,q,l,r,t,by rw[length_set];have:=BM a i k;omega⟩
def otL(ko iG:Nat)(a:List (Option Nat))(b:Value)(c:cC):List cC:=[[(ko,.cells (a.map Ds) 168 1 true)],[(iG,.cells [b] 27 0 true)],c]
def P2(h:aa)(ko iG:Nat)(a:List (Option Nat))(b:List Nat)(g:aa)(L:List cC):Prop:=OL h g L/\∃c d,dw 3 c (b.map iv) d/\L=otL ko iG a c d
structure tC(k3 k5 k7 k8 km:Nat)(T:eE)(ord:List NN)(ko kb n:Nat)(vs:List Value)(bs:List (List Nat))(g:aa)(L:List cC):Prop where
 st:Still k3 k5 k8 km T ord kb n g L
 m7:Im g L k7 (.cells [sA ko n n] 166 0 true)
 mb:Im g L kb (.cells vs 27 1 true)
 lv:vs.length=n
 lb:bs.length=n
 rows:∀(t:Nat)(v:Value)(b:List Nat),vs[t]?=some v->bs[t]?=some b->sM g L 3 v (b.map iv)
theorem il:SS.P.underlying 166=some (.slice 168):=by kernel_rfl
theorem uS:Go.Ab.isAgg SS.P 166=false:=by kernel_rfl
theorem VG:au SS.P 166=some 1:=by kernel_rfl
theorem jY:au SS.P 168=some 1:=by kernel_rfl
theorem Ke:SS.P.underlying 168=some (.pointer 170):=by kernel_rfl
theorem HN:Go.Ab.isAgg SS.P 168=false:=by kernel_rfl
theorem FA(a:Option Addr):ax SS.P .eql 168 (.pointer a) (.pointer none)=some (.bool a.isNone):=by cases a<;>kernel_rfl
theorem LW(a:Option Addr):ax SS.P .neq 168 (.pointer a) (.pointer none)=some (.bool !a.isNone):=by cases a<;>kernel_rfl
theorem aaX(m:Mv)(a:Option Addr):aD SS.P 170 [(0,(.agg ⟨rX m⟩)),(1,(.pointer a))]=some (.agg ⟨rX m++[.pointer a]⟩):=by cases a<;>kernel_rfl
theorem Sv(m:Mv)(a:Option Addr):dp SS.P 170 (.agg ⟨rX m++[.pointer a]⟩)=some (qt m a,dR):=by cases a<;>kernel_rfl
section
variable {h:aa} {T:eE} {ord:List NN} {k3 k5 k7 k8 km ko kb n iG:Nat} {vs:List Value} {bs:List (List Nat)} {g:aa} {L:List cC}
theorem tC.cP{d:aa}{a:List cC}(s:tC k3 k5 k7 k8 km T ord ko kb n vs bs g L)(c:eU g L d a):tC k3 k5 k7 k8 km T ord ko kb n vs bs d a:=⟨s.st.cP c,c _ _ s.m7,c _ _ s.mb,s.lv,s.lb,λt v b e f=>(s.rows t v b e f).cP c⟩
theorem P2.grow{b:aa}{a:List (Option Nat)}(p:P2 h ko iG a x g L)(o:Ok g b):P2 h ko iG a x b L:=⟨(p.1.grow o).1,p.2⟩
theorem Oi(w:Wf h){a:List (Option Nat)}{b:List Nat}(p:P2 h ko iG a b g L)(q:a.length=n){i kx:Nat}(m:i<n):∃u:bp,aj SS.P 168 (.pointer (some ⟨ko,i,none⟩)) (pA kx) g=some (undef,u)/\∃c,P2 h ko iG (a.set i (some kx)) b (u.app g) c/\eU g L (u.app g) c:=by
 obtain⟨o,k,l,d,rfl⟩:=p;have e:(a.map Ds).set i (pA kx)=(a.set i (some kx)).map Ds:=by rw[map_set];rfl
 obtain⟨j,f⟩:=o.kJ w 0 rfl (.cells ((a.map Ds).set i (pA kx)) 168 1 true);refine⟨_,bG jY (o.get 0 rfl) (by rw[lM];omega) rfl rfl,_,⟨j,k,l,d,?_⟩,f⟩;rw[e];rfl
theorem Jy(w:Wf h){e:List (Option Nat)}{b:List Nat}(p:P2 h ko iG e b g L)(J:b.length<=100000)(i:Nat):
  ∃(a:Option Addr)(m c:Nat),ae SS.P 27 g (pA iG)=some (.slice a m c)/\∃(v:Option Addr)(y d:Nat)(u:bp),aJ SS.P 27 27 (.slice a m c) (sA g.next 1 1) (g.push (.cells [.int .i64 (i:Int)] 3 1 true))=some (.slice v y d,u)/\∃q:bp,aj SS.P 27 (pA iG) (.slice v y d) (u.app (g.push (.cells [.int .i64 (i:Int)] 3 1 true)))=some (undef,q)/\∃r,P2 h ko iG e (b++[i]) (q.app (u.app (g.push (.cells [.int .i64 (i:Int)] 3 1 true)))) r/\eU g L (q.app (u.app (g.push (.cells [.int .i64 (i:Int)] 3 1 true)))) r:=by
 obtain⟨o,K,N,k,rfl⟩:=p;obtain⟨a,c,s⟩:=k.oa;rw[lM]at s;subst s;have B:=aI g (.cells [.int .i64 (i:Int)] 3 1 true);obtain⟨D,C⟩:=o.grow ((Ok.refl o.ok.wf).push (.cells [.int .i64 (i:Int)] 3 1 true));refine⟨_,_,_,aR cO gM (o.get 1 rfl) (by simp),?_⟩;generalize g.push (.cells [.int .i64 (i:Int)] 3 1 true)=z at*;obtain⟨f,n,d,u,F,I,H,l,t,G⟩:=k.snoc cO rk lj M6 w D (j:=2) rfl (x:= .int .i64 (i:Int)) rfl B (by rw[jd,lM];omega) (by rw[lM];omega);refine⟨f,n,d,u,F,?_⟩;generalize u.app z=M at*;obtain⟨A,E⟩:=t.kJ w 1 rfl (.cells [.slice f n d] 27 0 true);refine⟨_,bG ej (t.get 1 rfl) (by simp) (aV ..) (by cases f<;>rfl),_,⟨A,.slice f n d,H,?_,rfl⟩,C.trans (G.trans E)⟩;rw[map_append];exact l
def VI(h:aa)(T:eE)(ord:List NN)(k3 k5 k7 k8 km ko kb n iG d c:Nat)(vs:List Value)(bs:List (List Nat))(a:List (Option Nat))(b:List Nat)(e i:Nat)(f:List (Mv×NN))(g:aa)(L:List cC):Prop:=
 tC k3 k5 k7 k8 km T ord ko kb n vs bs g L/\Im g L d (.cells [iA e] 3 0 true)/\Im g L c (.cells [iA i] 3 0 true)/\
  (((∀x∈f,ni ord x.2≠some e)/\P2 h ko iG a b g L/\qc (DE h g L) T.A T.B ord a)\/
   ∃k,P2 h ko iG (a.set i (some k)) (b++[i]) g L/\qc (DE h g L) T.A T.B ord (a.set i (some k)))
theorem VI.grow{e:List (Option Nat)}{q:List (Mv×NN)}{r:aa}(v:VI h T ord k3 k5 k7 k8 km ko kb n iG m j vs bs e x l i q g L)(o:Ok g r):VI h T ord k3 k5 k7 k8 km ko kb n iG m j vs bs e x l i q r L:=by
 obtain⟨a,b,c,d⟩:=v;have f:eU g L r L:=by
  rcases d with⟨_,p,_⟩|⟨_,p,_⟩<;>exact(p.1.grow o).2
 refine⟨a.cP f,f _ _ b,f _ _ c,?_⟩;rcases d with⟨t,p,s⟩|⟨k,p,s⟩
 ·exact .inl ⟨t,p.grow o,s.mono (DE.cP f)⟩
 ·exact .inr ⟨k,p.grow o,s.mono (DE.cP f)⟩
theorem VI.ol{a:List (Option Nat)}{b:List (Mv×NN)}(v:VI h T ord k3 k5 k7 k8 km ko kb n iG m k vs bs a x j i b g L):OL h g L:=by
 rcases v.2.2.2 with⟨_,p,_⟩|⟨_,p,_⟩<;>exact p.1
theorem Q5(w:Wf h){F E C i:Nat}{f:List (Option Nat)}{s:List Nat}{W:List (Mv×NN)}(hv:VI h T ord k3 k5 k7 k8 km ko kb n iG F E vs bs f s C i W g L)(V:f.length=n)(hl:s.length<=99999)(U:i<n)(x2:C<n)(h0:f[i]?=some none)(ht:∃k,f[C]?=some (some k)){Y:NN}(x8:ord[i]?=some Y)(y0:¬lJ T.A T.B Y){m:Mv}{x:NN}(hs:DL T.A T.B Y m x)(hx:∃t,ni ord x=some t):
  FW SS 147 [.agg ⟨rX m⟩,.agg ⟨kV x⟩,pA k5,pA F,pA k7,pA E,pA iG] g (λv H=>v = .tuple ⟨[]⟩/\∃M,VI h T ord k3 k5 k7 k8 km ko kb n iG F E vs bs f s C i (W++[(m,x)]) H M/\eU g L H M):=by
 refine Mg (rX m) (kV x) k5 F k7 E iG g _ ⟨_,AN m,_,xj x,?_⟩;have o:=hv.ol;have e1:=(Ok.refl o.ok.wf).push (iP m);have Q:=o.fg (iP m);have c1:=(o.grow e1).2;have v1:=hv.grow e1;generalize g.push (iP m)=g1 at*;have Z:=v1.ol;have e2:=(Ok.refl Z.ok.wf).push (dh x);have b:=Z.fg (dh x);have c2:=(Z.grow e2).2;have Q:=c2 _ _ Q;have v2:=v1.grow e2;have c:=c1.trans c2;generalize g1.push (dh x)=g2 at*;have o2:=v2.ol;have e3:=(Ok.refl o2.ok.wf).room 12;have c3:=(o2.grow e3).2;have v3:=v2.grow e3;have c:=c.trans c3;have Q:=c3 _ _ Q;have b:=c3 _ _ b;dsimp only;generalize Go.Ab.room g2 12=A at*;obtain⟨t,K⟩:=hx;have G:=v3;obtain⟨z,l,a,d⟩:=v3;have lk:jF SS.P 163 (.map (some km)) (.agg ⟨kV x⟩) false A=some (.int .i64 (t:Int)):=by
  have:=(Ac z.st.mm.1 x).2;rw[K]at this;exact this
 refine⟨.map (some km),z.st.m5.ld oD qF,_,dh.all b.1,_,lk,_,l.ld lC lB,ah (λq=>?_) (λq=>?_)⟩
 ·have q:t=C:=by
   have:(t:Int)=C:=by simpa using q
   omega
  subst q;have N:∀{r:List (Option Nat)}{D:List Nat}{H:aa}{M:List cC},P2 h ko iG r D H M->r.length=n->∀{j:Nat}{v:Option Nat},r[j]?=some v->ae SS.P 168 H (.pointer (some ⟨ko,j,none⟩))=some (Ds v):=by
   rintro r D H M ⟨o',tv,Gq,_,rfl⟩ y8 j v hj;have x5:=(List.getElem?_eq_some_iff.1 hj).1;rw[aR Ke HN (o'.get 0 rfl) (by rw[lM];exact x5),gD,getElem?_map,hj];rfl
  rcases d with⟨d1,p,O⟩|⟨k,p,O⟩
  ·obtain⟨I,X⟩:=ht;refine⟨_,_,_,z.m7.ld il uS,_,a.ld lC lB,_,mF il jY U,none,N p V h0,_,FA none,ah (λ_=>?_) (λq=>by cases q)⟩;have e4:=(Ok.refl G.ol.ok.wf).room 11;have S:=(G.ol.grow e4).2;have s4:=z.cP S;have x0:=S _ _ l;have x1:=S _ _ a;have x6:=S _ _ Q;refine⟨_,_,_,s4.m7.ld il uS,_,x1.ld lC lB,_,iP.all x6.1,_,_,_,s4.m7.ld il uS,_,x0.ld lC lB,_,mF il jY x2,some ⟨I,0,none⟩,N (p.grow e4) V X,_,aaX _ _,_,Sv _ _,_,mF il jY U,?_⟩;obtain⟨o5,R,m5⟩:=G.ol.Ly (n:=11) (j:=8) (by omega) (qt m (some ⟨I,0,none⟩));have z0:=G.ol.ok.nx;have p5:P2 h ko iG f s (aw (Go.Ab.room A 11) A.next [(8,qt m (some ⟨I,0,none⟩))]) L:=⟨o5,p.2⟩
   have s5:=z.cP R;have l:=R _ _ l;have a:=R _ _ a;have d5:=O.mono (DE.cP R);generalize aw (Go.Ab.room A 11) A.next [(8,qt m (some ⟨I,0,none⟩))]=g5 at*;obtain⟨u,u1,L6,p6,J⟩:=Oi w p5 V U (kx:=A.next+8);refine⟨u,u1,?_⟩;have s6:=s5.cP J;have l:=J _ _ l;have a:=J _ _ a;have d6:=d5.mono (DE.cP J);have m5:=J _ _ m5;generalize u.app g5=g6 at*;obtain⟨a7,m7,x9,l7,a8,m8,y9,u8,x4,u9,x7,L9,p9,P⟩:=Jy w p6 (by omega) i;refine⟨a7,m7,x9,l7,_,a.ld lC lB,_,_,_,tG _,_,_,_,_,x4,_,x7,rfl,L9,⟨s6.cP P,P _ _ l,P _ _ a,.inr ⟨_,p9,?_⟩⟩,c.trans (R.trans (J.trans P))⟩;obtain⟨y,ms,e,y1,y2,y3,y4,y6,y5⟩:=d6 t I X;have z1:=jb (A.next+8) h0;have B:=rY K;rw[y1]at B;obtain rfl:=oI B;have x3:DE h g6 L6 (A.next+8) (qt m (some ⟨I,0,none⟩)):=⟨m5,by omega⟩
   exact(d6.set x8 (.cons x3 y2) (.cons hs y3) y4 (λh=>absurd h y0) (by rw[length_cons];omega)).mono (DE.cP P)
  ·have y7:(f.set i (some k))[i]?=some (some k):=by rw[getElem?_set,if_pos rfl,if_pos (by omega)]
   refine⟨_,_,_,z.m7.ld il uS,_,a.ld lC lB,_,mF il jY U,some ⟨k,0,none⟩,N p (by rw[length_set];exact V) y7,_,FA _,ah (λq=>by cases q) (λ_=>?_)⟩;exact⟨rfl,L,⟨z,l,a,.inr ⟨k,p,O⟩⟩,c⟩
 ·have q:t≠C:=λe=>by rw[e]at q;simp at q
  refine⟨rfl,L,⟨z,l,a,?_⟩,c⟩;rcases d with⟨d1,p,O⟩|d
  ·refine .inl ⟨λy B=>?_,p,O⟩;rcases mem_append.1 B with B|B
   ·exact d1 y B
   ·rw[mem_singleton.1 B,K];exact λe=>q (oI e)
  ·exact .inr d
end
end
variable{g:aa}{a:Option Addr}
section
def Clo(bs:List (List Nat))(a:List (Option Nat))(j:Nat):Prop:=∀b,bs[j]?=some b->∀i∈b,zZ a i
theorem Clo.set{bs:List (List Nat)}{c:List (Option Nat)}(h:Clo bs c j):Clo bs (c.set i (some k)) j:=λb d a e=>pw (h b d a e)
def stW(A B:aG)(ord:List NN)(a:Nat)(x:Mv×NN):Prop:=∃b,ord[a]?=some b/\x∈dQ A B b
theorem Sn{B:aG}{ord:List NN}(n:WO M B ord){bs:List (List Nat)}(p:uF ord (stW M B ord) bs)(w:bs.length=ord.length){a:List (Option Nat)}(fin:∀j x,ord[j]?=some x->lJ M B x->zZ a j)(o:∀j,zZ a j->Clo bs a j){x e:NN}{d:List Mv}(r:PR M B x d e)(f:lJ M B e):∀j,ord[j]?=some x->zZ a j:=by
 induction r with
 |nil s=>exact λj b=>fin j s b f
 |@cons s k e m d g r q=>
  intro j b;obtain⟨t,u,h⟩:=qW (n.cl s (List.mem_of_getElem? b) m k g);have v:=(List.getElem?_eq_some_iff.1 h).1;have c:=gE (l:=bs) (i:=t) (by omega);exact o t (q f t h) _ c j ((p t _ c j).2 ⟨(m,k),⟨s,b,fM.2 g⟩,u⟩)
def Oq(h:aa)(T:eE)(ord:List NN):VH:=λv g=>∃(ko:Nat)(a:List (Option Nat)),v=sA ko ord.length ord.length/\g.get ko=some (.cells (a.map Ds) 168 1 true)/\h.next<=ko/\a.length=ord.length/\qc (λk B=>g.get k=some B/\h.next<=k) T.A T.B ord a/\(∀(j:Nat)(x:NN),ord[j]?=some x->Co T.A T.B x->zZ a j)/\Ok h g
theorem al3:aA SS.P 3=some (.cells [.int .i64 0] 3 0 true,dR):=by kernel_rfl
theorem HP:aA SS.P 27=some (.cells [nA] 27 0 true,dR):=by kernel_rfl
section
variable {h:aa} {T:eE} {ord:List NN} {k3 k5 k7 k8 km ko kb n iG:Nat} {vs:List Value} {bs:List (List Nat)}
structure R3(h:aa)(T:eE)(ord:List NN)(k3 k5 k7 k8 km ko kb n iG:Nat)(vs:List Value)(bs:List (List Nat))(outs:List (Option Nat))(todo:List Nat)(g:aa)(L:List cC):Prop where
 p:P2 h ko iG outs todo g L
 s:tC k3 k5 k7 k8 km T ord ko kb n vs bs g L
 ok:qc (DE h g L) T.A T.B ord outs
 len:outs.length=n
 fin:∀j x,ord[j]?=some x->lJ T.A T.B x->zZ outs j
 td:∀j∈todo,zZ outs j
 bd:todo.length+cW outs<=n
theorem R3.jO{a:List (Option Nat)}{d:aa}{L b:List cC}(r:R3 h T ord k3 k5 k7 k8 km ko kb n iG vs bs a x g L)(c:eU g L d b)(p:P2 h ko iG a x d b):R3 h T ord k3 k5 k7 k8 km ko kb n iG vs bs a x d b:=⟨p,r.s.cP c,r.ok.mono (DE.cP c),r.len,r.fin,r.td,r.bd⟩
theorem R3.grow{a:List (Option Nat)}{b:aa}{L:List cC}(r:R3 h T ord k3 k5 k7 k8 km ko kb n iG vs bs a x g L)(o:Ok g b):R3 h T ord k3 k5 k7 k8 km ko kb n iG vs bs a x b L:=r.jO (r.p.1.grow o).2 (r.p.grow o)
theorem P2.out(a:List (Option Nat)){b:List Nat}{g:aa}{L:List cC}(p:P2 h ko iG a b g L){j:Nat}{v:Option Nat}(d:a[j]?=some v):ae SS.P 168 g (.pointer (some ⟨ko,j,none⟩))=some (Ds v):=by
 obtain⟨e,f,i,_,rfl⟩:=p;have c:=(List.getElem?_eq_some_iff.1 d).1;rw[aR Ke HN (e.get 0 rfl) (by rw[lM];exact c),gD,getElem?_map,d];rfl
theorem BV{c:Nat}(e:wT g 105 2 (.slice a ord.length c) (ord.map kV)){i:Nat}{x:NN}(b:ord[i]?=some x):∃(k o:Nat),ai SS.P 162 (.slice a ord.length c) (.int .i64 (i:Int))=some (.pointer (some ⟨k,o,none⟩))/\ae SS.P 105 g (.pointer (some ⟨k,o,none⟩))=some (.agg ⟨kV x⟩):=by
 have l:=(List.getElem?_eq_some_iff.1 b).1;obtain⟨f,h,j,d,_⟩:=e.at_ wx Cu V8 R4 (ik:= .i64) (i:=(i:Int)) (by omega) (by rw[lM];omega);refine⟨f,h,j,?_⟩;rw[d,toNat_natCast,gD,getElem?_map,b];rfl
theorem U1(w:Wf h)(y1:T.Rows h)(gA:Good T.A)(gB:Good T.B)(zA:∀s∈T.A.ak,s.an.length<=2000)(zB:∀s∈T.B.ak,s.an.length<=2000)(ro:WO T.A T.B ord)(hn:ord.length<=90000){a:Option Addr}{c:Nat}(rl:wT h 105 2 (.slice a ord.length c) (ord.map kV))(mb:uF ord (stW T.A T.B ord) bs)(zb:∀b∈bs,b.length<=500000000000){mz:Nat}{g:aa}(J:∃d u L,R3 h T ord k3 k5 k7 k8 km ko kb ord.length iG vs bs d u g L/\(∀j,zZ d j->j∈u\/Clo bs d j)/\mz=2*cW d+u.length):
  LL SS bg [1,1,1,1,1,1,0,0,0] (fA a ord.length c k3 k5 k7 k8 iG ()) g (KK SS bg [1,1,1,1,1,1,0,0] [] (EE SS bg (Oq h T ord))):=by
 refine wa a ord.length c T.arg km k3 k5 k7 k8 iG (λmz _ g=>∃d u L,R3 h T ord k3 k5 k7 k8 km ko kb ord.length iG vs bs d u g L/\(∀j,zZ d j->j∈u\/Clo bs d j)/\mz=2*cW d+u.length) _ (λz8 z=>?_) mz J;clear J g mz;intro zz g J;obtain⟨d,u,L,r,cl,rfl⟩:=J;obtain⟨o,tv,Gq,x3,rfl⟩:=r.p;obtain⟨ta,tc,hv⟩:=x3.oa;rw[lM]at hv;subst hv;have x4:ae SS.P 27 g (pA iG)=some (.slice ta u.length tc):=aR cO gM (o.get 1 rfl) (by simp);refine⟨_,_,_,x4,ah (λq=>?_) (λq=>?_)⟩
 ·have q:=dT q
  cases u with
  |nil=>simp at q
  |cons C I=>
  obtain⟨kt,x8⟩:=r.td C (List.mem_cons_self ..);have V:C<ord.length:=by rw[<-r.len];exact(List.getElem?_eq_some_iff.1 x8).1
  obtain⟨D,W⟩:∃b,bs[C]?=some b:=⟨_,gE (by rw[r.s.lb];exact V)⟩
  obtain⟨vt,x1⟩:∃v,vs[C]?=some v:=⟨_,gE (by rw[r.s.lv];exact V)⟩
  obtain⟨p0,i1,i2⟩:=(x3.rd o (i:=2) rfl).at_ cO wM lC lB (k:= .i64) (i:=((0:Nat):Int)) (by omega) (by simp);have i2:ae SS.P 3 g (.pointer (some p0))=some (iA C):=i2;refine⟨_,_,_,x4,_,i1,_,i2,_,al3,?_⟩;obtain⟨u1,y4,e1,m1⟩:=o.cell (P:=SS.P) wM (.int .i64 0) (v:=iA C) rfl rfl;refine⟨u1,y4,?_⟩;have r1:=r.grow e1;have Z:=(o.grow e1).1;generalize u1.app (g.push (.cells [.int .i64 0] 3 0 true))=g1 at*;obtain⟨N,Q,R,sl,y0⟩:=dw.tail (g:=g1) (x:=iv C) (vs:=I.map iv) cO wM x3 (Z.PH (i:=2) rfl);obtain⟨o2,c2⟩:=Z.kJ w 1 rfl (.cells [.slice N Q R] 27 0 true);refine⟨_,_,_,aR cO gM (Z.get 1 rfl) (by simp),_,_,_,sl,_,bG ej (Z.get 1 rfl) (by simp) (aV ..) (by cases N<;>rfl),?_⟩;have nn:cW d=cW d:=rfl;have r2:R3 h T ord k3 k5 k7 k8 km ko kb ord.length iG vs bs d I ((bp.set iG (.cells (([.slice ta (C::I).length tc]:List Value).set 0 (.slice N Q R)) 27 0 true)).app g1) (otL ko iG d (.slice N Q R) Gq):=⟨⟨o2,_,Gq,y0,rfl⟩,r1.s.cP c2,r1.ok.mono (DE.cP c2),r.len,r.fin,λj A=>r.td j (List.mem_cons_of_mem _ A),by have:=r.bd;rw[length_cons]at this;omega⟩
  have m2:=c2 _ _ m1;have gn:=o.ok.nx;change Im ((bp.set iG (.cells (([.slice ta (C::I).length tc]:List Value).set 0 (.slice N Q R)) 27 0 true)).app g1) (otL ko iG d (.slice N Q R) Gq) g.next _ at m2;generalize (bp.set iG (.cells (([.slice ta (C::I).length tc]:List Value).set 0 (.slice N Q R)) 27 0 true)).app g1=g2 at*;generalize otL ko iG d (.slice N Q R) Gq=L2 at*;have ir:=r2.s.rows C vt D x1 W;obtain⟨b',m',d',y7⟩:∃b' m' d',vt = .slice b' m' d':=by
   obtain⟨G,n,_⟩:=ir;obtain⟨x,y,e⟩:=n.oa;exact⟨x,_,y,e⟩
  subst y7;have z5:m'=D.length:=by have:=ir.rd.len;rwa[lM]at this
  have y6:ae SS.P 27 g2 (.pointer (some ⟨kb,C,none⟩))=some (.slice b' m' d'):=by
   rw[aR cO gM r2.s.mb.1 (by rw[r2.s.lv];exact V),gD,x1];rfl
  refine⟨_,_,_,r2.s.st.m8.ld jg ox,_,m2.ld lC lB,_,mF jg ej V,_,_,_,y6,?_⟩;have z3:=zb D (List.mem_of_getElem? W);refine wb a ord.length c T.arg km k3 k5 k7 k8 iG g.next b' m' d' _ _ () (λx6 M g'=>∃H U L',R3 h T ord k3 k5 k7 k8 km ko kb ord.length iG vs bs H U g' L'/\Im g' L' g.next (.cells [iA C] 3 0 true)/\zZ H C/\(∀j,zZ H j->j∈U\/j=C\/Clo bs H j)/\(∀i∈D.take M,zZ H i)/\2*cW H+U.length+1<=2*cW d+(C::I).length/\M<=D.length/\x6=D.length-M) _ (λx6 M=>?_) D.length (j:=0) ⟨d,I,L2,r2,m2,⟨kt,x8⟩,λj A=>?_,λi X=>by simp at X,by rw[length_cons];omega,zero_le _,rfl⟩
  rotate_left
  ·rcases cl j A with n|n
   ·rcases mem_cons.1 n with n|n
    ·exact .inr (.inl n)
    ·exact .inl n
   ·exact .inr (.inr n)
  intros;rename_i _ g4 J;obtain⟨p,F,L4,K,m4,s4,x2,Y,y2,jl,rfl⟩:=J;refine ah (λq=>?_) (λq=>?_)
  ·have q:=dT q;have A:M<D.length:=by omega
   obtain⟨i,x0⟩:∃i,D[M]?=some i:=⟨_,gE A⟩
   obtain⟨y,⟨ki,S,hy⟩,z1⟩:=(mb C D W i).1 (List.mem_of_getElem? x0);have X:=(List.getElem?_eq_some_iff.1 S).1;have y5:=(K.s.rows C _ D x1 W).rd;obtain⟨p1,j1,j2⟩:=y5.at_ cO wM lC lB (k:= .i64) (i:=(M:Int)) (by omega) (by rw[lM];omega);have e2:(D.map iv).getD (M:Int).toNat undef=iA i:=by
    rw[toNat_natCast,gD,getElem?_map,x0];rfl
   rw[e2]at j2;refine⟨_,j1,_,j2,_,al3,?_⟩;obtain⟨u5,y9,e5,m5⟩:=K.p.1.cell (P:=SS.P) wM (.int .i64 0) (v:=iA i) rfl rfl;refine⟨u5,y9,?_⟩;have c5:=(K.p.1.grow e5).2;have r5:=K.grow e5;have m4:=c5 _ _ m4;generalize u5.app (g4.push (.cells [.int .i64 0] 3 0 true))=g5 at*;obtain⟨oi,O⟩:∃v,p[i]?=some v:=⟨_,gE (by rw[K.len];exact X)⟩
   have x9:D.take (M+1)=D.take M++[i]:=(fT x0).2;refine⟨_,_,_,r5.s.m7.ld il uS,_,m5.ld lC lB,_,mF il jY X,_,r5.p.out _ O,_,LW _,ah (λq2=>?_) (λq2=>?_)⟩
   ·have hs:zZ p i:=by
     cases oi with
     |none=>cases q2
     |some k=>exact⟨k,O⟩
    rw[oN A (by omega)];refine cG (D.length-(M+1)) (by omega) ⟨p,F,L4,r5,m4,s4,x2,λx E=>?_,y2,by omega,rfl⟩;rw[x9]at E;rcases mem_append.1 E with E|E
    ·exact Y x E
    ·rw[mem_singleton.1 E];exact hs
   ·have O:p[i]?=some none:=by
     cases oi with
     |none=>exact O
     |some k=>cases q2
    have e6:=(Ok.refl r5.p.1.ok.wf).room 7;have c6:=(r5.p.1.grow e6).2;have r6:=r5.grow e6;have m4:=c6 _ _ m4;have m5:=c6 _ _ m5;generalize Go.Ab.room g5 7=g6 at*;obtain⟨kk,z9,d1,d2⟩:=BV (rl.ok r6.p.1.ok) S;have J:=ro.lt ki (List.mem_of_getElem? S);refine⟨_,kj.all r6.s.st.m3.1,_,m5.ld lC lB,_,d1,_,d2,?_⟩;have y3:F.length<=99999:=by have:=K.bd;omega
    have z0:¬lJ T.A T.B ki:=λhf=>by
     obtain⟨k,hk⟩:=K.fin i ki S hf;rw[O]at hk;cases hk
    refine(wA w y1 gA gB zA zB (h:=g6) (L:=L4) J.1 J.2 (fa:=[]) (fc:=[pA k5,pA g.next,pA k7,pA g4.next,pA iG]) (by decide +kernel) (VI h T ord k3 k5 k7 k8 km ko kb ord.length iG g.next g4.next vs bs p F C i) (λl g L r=>r.ol) (λl g L g' r o=>r.grow o) ⟨r6.s,m4,m5,.inl ⟨λx E=>(by cases E),r6.p,r6.ok⟩⟩ (λz4 x z2 y8 g' L' hv=>?_)).mono ?_
    ·have E:x∈dQ T.A T.B ki:=by rw[y8];simp
     have x7:=fM.1 (show(x.1,x.2)∈dQ T.A T.B ki from E);obtain⟨t,ht,_⟩:=qW (ro.cl ki (List.mem_of_getElem? S) _ _ x7);exact Q5 w hv K.len y3 X V O s4 S z0 x7 ⟨t,ht⟩
    ·rintro _ g7 ⟨rfl,L7,⟨s7,m7,m8,d7⟩,c7⟩;refine⟨rfl,?_⟩;rcases d7 with⟨d7,_⟩|⟨k,p7,o7⟩
     ·exact absurd z1 (d7 y hy)
     ·have x5:i<p.length:=by rw[K.len];exact X
      have z7:=jb k O;have z6:=K.bd;rw[oN A (by omega)];refine cG (D.length-(M+1)) (by omega) ⟨p.set i (some k),F++[i],L7,⟨p7,s7,o7,by rw[length_set];exact K.len,λj x n h2=>pw (K.fin j x n h2),λj A=>?_,by rw[length_append,length_singleton];omega⟩,m7,pw s4,λj A=>?_,λx E=>?_,by rw[length_append,length_singleton];omega,by omega,rfl⟩
      ·rcases mem_append.1 A with A|A
       ·exact pw (K.td j A)
       ·rw[mem_singleton.1 A];exact vI x5
      ·rcases NY A with rfl|A
       ·exact .inl (List.mem_append_right _ (mem_singleton.2 rfl))
       ·rcases x2 j A with n|n|n
        ·exact .inl (List.mem_append_left _ n)
        ·exact .inr (.inl n)
        ·exact .inr (.inr n.set)
      ·rw[x9]at E;rcases mem_append.1 E with E|E
       ·exact pw (Y x E)
       ·rw[mem_singleton.1 E];exact vI x5
  ·have q:=dF q;have e:D.take M=D:=List.take_of_length_le (by omega);rw[e]at Y;refine cG (a:=()) (2*cW p+F.length) (by omega) ⟨p,F,L4,K,λj A=>?_,rfl⟩;rcases x2 j A with n|rfl|n
   ·exact .inl n
   ·refine .inr λb hb i X=>?_;rw[W]at hb;obtain rfl:=oI hb;exact Y i X
   ·exact .inr n
 ·have q:=dF q;have ht:u=[]:=eq_nil_of_length_eq_zero (by omega);subst ht;refine⟨_,_,_,r.s.m7.ld il uS,ko,d,rfl,o.get 0 rfl,?_,r.len,r.ok.mono λk B m=>⟨m.1.1,m.2⟩,λj x A ⟨ms,e,pr,f⟩=>Sn ro mb (by rw[r.s.lb]) r.fin (λj A=>?_) pr f j A,o.ok⟩
  ·exact o.lo ko (by unfold keys otL;simp)
  ·rcases cl j A with n|n
   ·cases n
   ·exact n
end
end
section
def xh:Nat:=4002000
theorem Fp(h:i<=90000):i*xh<=360180000000:=by unfold xh;omega
theorem Xh:aD SS.P 170 []=some (.agg ⟨rX ⟨0,0,0⟩++[.pointer none]⟩):=by kernel_rfl
noncomputable def VQ:TypeInfo:=(SS.P.info? 168).getD default
theorem VR:SS.P.info? 168=some VQ:=by kernel_rfl
theorem MZ:VQ.size=1:=by kernel_rfl
theorem J9:VQ.bytes=8:=by kernel_rfl
theorem ZS:zeroOf SS.P 168=some (.pointer none):=by kernel_rfl
theorem adx(n:Nat)(a:n<=100000):aX SS.P 166 (.int .i64 (n:Int)) (.int .i64 (n:Int))=some (.cells (List.replicate n (.pointer none)) 168 1 true,jE n n):=by
 unfold aX aT;dsimp only;rw[il]
 try dsimp only
 change (match SS.P.info? 168,zeroOf SS.P 168 with
  |some i,some z=>(if z.cells.size=i.size/\0<i.size/\(0:Int)<=(n:Int)/\(n:Int)<=(n:Int)/\(n:Int)*i.bytes<=140737488355328/\(n:Int)<=1099511627776 then some (bu.cells (bO z.cells.toList (n:Int).toNat) 168 i.size true,λk=>Value.slice (some ⟨k,0,none⟩) (n:Int).toNat (n:Int).toNat)else none)
  |_,_=>none)=_
 rw[VR,ZS];dsimp only;rw[MZ,J9,if_pos ⟨rfl,by omega,by omega,Int.le_refl _,by omega,by omega⟩];have e:((n:Int)).toNat=n:=by omega
 rw[e,show(Value.pointer none).cells.toList=[.pointer none]from rfl,lA];rfl
theorem Z9:aA SS.P 166=some (.cells [nA] 166 0 true,dR):=by kernel_rfl
theorem aaO:aA SS.P 126=some (.cells [nA] 126 0 true,dR):=by kernel_rfl
theorem aa2(k:Nat):dp SS.P 163 (.map (some k))=some (.cells [.map (some k)] 163 0 true,dR):=by kernel_rfl
section
variable {h:aa} {T:eE} {ord:List NN} {k3 k5 k7 k8 km ko kb iG:Nat} {vs:List Value} {bs:List (List Nat)}
theorem abz{L:List cC}(o:OL h g L)(x:NN):∃u:bp,aj SS.P 105 (pA g.next) (.agg ⟨kV x⟩) (g.push nc)=some (undef,u)/\Ok g (u.app (g.push nc))/\Im (u.app (g.push nc)) L g.next (dh x):=by
 have e:Ok g ((g.push nc).set g.next (dh x)):=((Ok.refl o.ok.wf).push _).set _ (Nat.le_refl _) (Nat.lt_succ_self _) o.ok.wf;exact⟨_,UH x g,e,o.new (Nat.le_refl _) (by show((g.push _).set _ _).get _=_;rw[aa.ay,if_pos rfl])⟩
theorem U0(w:Wf h)(v:T.Rows h)(gA:Good T.A)(gB:Good T.B)(zA:∀s∈T.A.ak,s.an.length<=2000)(zB:∀s∈T.B.ak,s.an.length<=2000)(O:WO T.A T.B ord)(hn:ord.length<=90000){a:Option Addr}{c:Nat}(P:wT h 105 2 (.slice a ord.length c) (ord.map kV))(mb:uF ord (stW T.A T.B ord) bs)(zb:∀b∈bs,b.length<=500000000000){g:aa}{L:List cC}(p:P2 h ko iG (List.replicate ord.length none) [] g L)(s:tC k3 k5 k7 k8 km T ord ko kb ord.length vs bs g L):
  LL SS bg [1,1,1,1,1,0,1,0,0] (fz a ord.length c k3 k5 k7 k8 iG 0) g (KK SS bg [1,1,1,1,1,0,1,0] [] (EE SS bg (Oq h T ord))):=by
 refine vZ a ord.length c T.arg km k3 k5 k7 k8 iG (λI i g=>∃d l L,P2 h ko iG d l g L/\tC k3 k5 k7 k8 km T ord ko kb ord.length vs bs g L/\qc (DE h g L) T.A T.B ord d/\d.length=ord.length/\(∀j x,j<i->ord[j]?=some x->lJ T.A T.B x->zZ d j)/\(∀j,zZ d j↔j∈l)/\(∀j,i<=j->j<ord.length->d[j]?=some none)/\l.length+cW d=ord.length/\i<=ord.length/\I=ord.length-i) _ (λI i=>?_) ord.length (i:=0) ⟨_,_,L,p,s,λj k f=>?_,length_replicate,λj x f=>absurd f (Nat.not_lt_zero _),λj=>?_,λj _ f=>?_,?_,zero_le _,rfl⟩
 rotate_left
 ·rw[getElem?_replicate]at f;split at f<;>cases f
 ·constructor
  ·rintro⟨k,M⟩;rw[getElem?_replicate]at M;split at M<;>cases M
  ·intro f;cases f
 ·rw[getElem?_replicate,if_pos f]
 ·unfold cW;rw[List.countP_replicate];simp
 clear p s g L;intro zz g o;obtain⟨d,l,L,p,s,ok,r,fin,B,N,bd,hi,rfl⟩:=o;refine ah (λq=>?_) (λq=>?_)
 ·have q:=dT q;have m:i<ord.length:=by omega
  obtain⟨x,E⟩:∃x,ord[i]?=some x:=⟨_,gE m⟩
  have o:=O.lt x (List.mem_of_getElem? E);obtain⟨kk,x6,d1,d2⟩:=BV (P.ok p.1.ok) E;obtain⟨U,V,Q,m1⟩:=abz p.1 x;refine⟨_,d1,_,d2,_,R6,U,V,?_⟩;have c1:=(p.1.grow Q).2;have F:=p.grow Q;have s1:=s.cP c1;generalize U.app (g.push nc)=g1 at*;refine⟨_,kj.all s1.st.m3.1,_,dh.all m1.1,(Jq F.1.ok.wf (v.ok F.1.ok) o.1 o.2).mono ?_⟩;rintro _ z ⟨rfl,e2⟩;have c2:=c1.trans (F.1.grow e2).2;have t:=F.grow e2;have K:=s.cP c2;have H:=ok.mono (DE.cP c2);have Y:wrap .i64 ((i:Int)+1)=((i+1:Nat):Int):=oN m (by omega);refine⟨_,rfl,ah (λu=>?_) (λu=>?_)⟩
  ·rw[and_eq_true]at u;have f2:lJ T.A T.B x:=⟨fY.1 u.1,fY.1 u.2⟩
   refine⟨_,_,_,K.m7.ld il uS,_,Xh,_,Sv _ _,_,mF il jY m,?_⟩;have X:=(Ok.refl t.1.ok.wf).push (qt ⟨0,0,0⟩ none);have m3:=t.1.fg (qt ⟨0,0,0⟩ none);have c3:=(t.1.grow X).2;have p3:=t.grow X;have gn:=t.1.ok.nx;have s3:=K.cP c3;have Z:=H.mono (DE.cP c3);generalize z.push (qt ⟨0,0,0⟩ none)=g3 at*;obtain⟨W,x3,L4,p4,J⟩:=Oi w p3 r m (kx:=z.next);refine⟨W,x3,?_⟩;have s4:=s3.cP J;have x2:=Z.mono (DE.cP J);have m4:=J _ _ m3;generalize W.app g3=g4 at*;obtain⟨a7,m7,x1,l7,a8,m8,x4,u8,S,u9,x0,L9,p9,R⟩:=Jy w p4 (by omega) i;refine⟨a7,m7,x1,l7,_,_,_,tG _,_,_,_,_,S,_,x0,?_⟩;rw[Y];have h0:=N i (Nat.le_refl _) m;have x5:=jb z.next h0;have G:i<d.length:=by omega
   refine cG (ord.length-(i+1)) (by omega) ⟨d.set i (some z.next),l++[i],L9,p9,s4.cP R,?_,by rw[length_set];exact r,λj y f D n=>?_,λj=>?_,λj f A=>?_,by rw[length_append,length_singleton];omega,by omega,rfl⟩
   ·exact(x2.set E (.nil ⟨0,0,0⟩ (show DE h g4 L4 z.next _ from⟨m4,gn⟩)) (.nil _) f2 (λ_=>rfl) (by rw[length_nil];omega)).mono (DE.cP R)
   ·by_cases e:j=i
    ·subst e;exact vI G
    ·exact pw (fin j y (by omega) D n)
   ·rw[mem_append,mem_singleton];constructor
    ·intro f;rcases NY f with C|C
     ·exact .inr C
     ·exact .inl ((B j).1 C)
    ·rintro(C|rfl)
     ·exact pw ((B j).2 C)
     ·exact vI G
   ·rw[getElem?_set,if_neg (by omega)];exact N j (by omega) A
  ·rw[Y];refine cG (ord.length-(i+1)) (by omega) ⟨d,l,L,t,K,H,r,λj y f D n=>?_,B,λj f A=>N j (by omega) A,bd,by omega,rfl⟩;by_cases e:j=i
   ·subst e;rw[E]at D;obtain rfl:=oI D;rw[fY.2 n.1,fY.2 n.2]at u
    cases u
   ·exact fin j y (by omega) D n
 ·have q:=dF q;exact U1 w v gA gB zA zB O hn P mb zb (mz:=2*cW d+l.length) ⟨d,l,L,⟨p,s,ok,r,λj x f n=>fin j x (by have:=(List.getElem?_eq_some_iff.1 f).1;omega) f n,λj f=>(B j).2 f,by omega⟩,λj f=> .inl ((B j).1 f),rfl⟩
theorem UZ(w:Wf h)(O:T.Rows h)(gA:Good T.A)(gB:Good T.B)(zA:∀s∈T.A.ak,s.an.length<=2000)(zB:∀s∈T.B.ak,s.an.length<=2000)(ro:WO T.A T.B ord)(hn:ord.length<=90000){a:Option Addr}{c:Nat}(rl:wT h 105 2 (.slice a ord.length c) (ord.map kV)){g:aa}{L:List cC}(b:BS h ko kb ord.length (List.replicate ord.length []) g L)(s:Still k3 k5 k8 km T ord kb ord.length g L)(V:Im g L k7 (.cells [sA ko ord.length ord.length] 166 0 true)):
  LL SS bg [1,1,1,0,1,0,0] (hE a ord.length c k3 k5 k7 k8 0) g (KK SS bg [1,1,1,0,1,0] [] (EE SS bg (Oq h T ord))):=by
 refine vY a ord.length c T.arg km k3 k5 k7 k8 (λmz i g=>∃bs L,BS h ko kb ord.length bs g L/\Still k3 k5 k8 km T ord kb ord.length g L/\Im g L k7 (.cells [sA ko ord.length ord.length] 166 0 true)/\uF ord (λa x=>a<i/\stW T.A T.B ord a x) bs/\(∀b∈bs,b.length<=i*xh)/\i<=ord.length/\mz=ord.length-i) _ (λmz i=>?_) ord.length (i:=0) ⟨_,L,b,s,V,λt b f x=>?_,λb f=>?_,zero_le _,rfl⟩
 rotate_left
 ·rw[getElem?_replicate]at f;split at f
  ·obtain rfl:=oI f;constructor
   ·intro h;cases h
   ·rintro⟨_,⟨h,_⟩,_⟩;exact absurd h (Nat.not_lt_zero _)
  ·cases f
 ·rw[List.eq_of_mem_replicate f];exact zero_le _
 clear b s V g L;intro zz g C;obtain⟨bs,L,b,s,V,x4,zb,hi,rfl⟩:=C;refine ah (λq=>?_) (λq=>?_)
 ·have q:=dT q;have n:i<ord.length:=by omega
  obtain⟨x,U⟩:∃x,ord[i]?=some x:=⟨_,gE n⟩
  have C:=ro.lt x (List.mem_of_getElem? U);obtain⟨kk,z7,d1,d2⟩:=BV (rl.ok b.1.ok) U;have e0:=(Ok.refl b.1.ok.wf).push (.cells [.int .i64 0] 3 0 true);have o0:=(b.1.grow e0).1;have n0:(g.push (.cells [.int .i64 0] 3 0 true)).next=g.next+1:=rfl;have k0:=aI g (.cells [.int .i64 0] 3 0 true);have Y:=e0.push nc;have k1:((g.push (.cells [.int .i64 0] 3 0 true)).push nc).get g.next=some (.cells [.int .i64 0] 3 0 true):=by
   rw[aa.aN,if_neg (by omega)];exact k0
  have k2:=aI (g.push (.cells [.int .i64 0] 3 0 true)) nc;have n1:((g.push (.cells [.int .i64 0] 3 0 true)).push nc).next=g.next+2:=rfl;refine⟨_,d1,_,d2,_,al3,_,R6,_,bG wM k1 (by simp) rfl rfl,?_⟩;generalize I:((bp.set g.next (.cells (([.int .i64 0]:List Value).set 0 (iA i)) 3 0 true)).app ((g.push (.cells [.int .i64 0] 3 0 true)).push nc))=A;have W:Ok g A:=by rw[<-I];exact Y.set _ (Nat.le_refl _) (by omega) b.1.ok.wf
  have n2:A.next=g.next+2:=by rw[<-I];rfl
  have x9:A.get g.next=some (.cells [iA i] 3 0 true):=by
   rw[<-I];show(aa.set _ _ _).get _=_;rw[aa.ay,if_pos rfl];rfl
  have k4:A.get (g.next+1)=some nc:=by
   rw[<-I];show(aa.set _ _ _).get _=_;rw[aa.ay,if_neg (by omega)];exact k2
  have z0:aj SS.P 105 (pA (g.push (.cells [.int .i64 0] 3 0 true)).next) (.agg ⟨kV x⟩) A=some (undef,.set (g.next+1) (dh x)):=dM Cu rfl k4 rfl rfl;refine⟨_,z0,?_⟩;generalize u:((bp.set (g.next+1) (dh x)).app A)=B;have e3:Ok g B:=by rw[<-u];exact W.set _ (by omega) (by omega) b.1.ok.wf
  have c3:=(b.1.grow e3).2;have mi:Im B L g.next (.cells [iA i] 3 0 true):=b.1.new (Nat.le_refl _) (by
   rw[<-u];show(aa.set _ _ _).get _=_;rw[aa.ay,if_neg (by omega)];exact x9)
  have mx:Im B L (g.next+1) (dh x):=b.1.new (by omega) (by
   rw[<-u];show(aa.set _ _ _).get _=_;rw[aa.ay,if_pos rfl])
  have b3:BS h ko kb ord.length bs B L:=⟨(b.1.grow e3).1,b.2⟩
  have s3:=s.cP c3;have y1:=c3 _ _ V;have z4:(dQ T.A T.B x).length<=xh:=MM zA zB C;refine⟨_,kj.all s3.m3.1,_,dh.all mx.1,?_⟩;refine(wA w O gA gB zA zB (h:=B) (L:=L) C.1 C.2 (fa:=[]) (fc:=[pA k8,pA k5,pA g.next]) (by decide +kernel) (λl g L=>BS h ko kb ord.length (l.foldl (C2 ord i) bs) g L/\Still k3 k5 k8 km T ord kb ord.length g L/\Im g L k7 (.cells [sA ko ord.length ord.length] 166 0 true)/\Im g L B.next.pred.pred (.cells [iA i] 3 0 true)/\uF ord (λa y=>(a<i/\stW T.A T.B ord a y)\/(a=i/\y∈l)) (l.foldl (C2 ord i) bs)/\∀b∈l.foldl (C2 ord i) bs,b.length<=i*xh+l.length) (λl g L r=>r.1.1) (λl g L g' r o=>?_) ?_ (λJ y z1 x3 g' L' hv=>?_)).mono ?_
  ·obtain⟨E,F,M,D,S⟩:=r;have c:=(E.1.grow o).2;exact⟨⟨(E.1.grow o).1,E.2⟩,F.cP c,c _ _ M,c _ _ D,S⟩
  ·refine⟨b3,s3,y1,?_,x4.congr λa y=>⟨.inl,λh=>h.elim id λh=>by cases h.2⟩,λb f=>Nat.le_trans (zb b f) (Nat.le_add_right _ _)⟩;have:B.next.pred.pred=g.next:=by
    rw[<-u];show A.next.pred.pred=_;rw[n2];rfl
   rw[this];exact mi
  ·have Z:B.next.pred.pred=g.next:=by
    rw[<-u];show A.next.pred.pred=_;rw[n2];rfl
   obtain⟨E,F,M,D,S,K⟩:=hv;rw[Z]at D;have hy:y∈dQ T.A T.B x:=by rw[x3];simp
   have y4:=fM.1 (show(y.1,y.2)∈dQ T.A T.B x from hy);obtain⟨t,ht,y8⟩:=qW (ro.cl x (List.mem_of_getElem? U) _ _ y4);have z3:J.length<=xh:=by
    have:=congrArg List.length x3;rw[length_append]at this;omega
   have R:=Fp (i:=i) (by omega);have x0:xh=4002000:=rfl;refine(Q4 w E F D ht (List.getElem?_eq_some_iff.1 y8).1 (λb f=>by have:=K b f;omega) y.1).mono ?_;rintro _ g5 ⟨rfl,L5,b5,X⟩;refine⟨rfl,L5,⟨by rw[List.foldl_append];exact b5,F.cP X,X _ _ M,by rw[Z];exact X _ _ D,?_,?_⟩,X⟩
   ·rw[List.foldl_append];refine(S.add i y).congr λa z=>?_;rw[mem_append,mem_singleton];constructor
    ·rintro((d|d)|d)
     ·exact .inl d
     ·exact .inr ⟨d.1,.inl d.2⟩
     ·exact .inr ⟨d.1,.inr d.2⟩
    ·rintro(d|⟨d,k|k⟩)
     ·exact .inl (.inl d)
     ·exact .inl (.inr ⟨d,k⟩)
     ·exact .inr ⟨d,k⟩
   ·rw[List.foldl_append,length_append,length_singleton];rw[show i*xh+(J.length+1)=(i*xh+J.length)+1 by omega];generalize i*xh+J.length=N at K⊢;exact R0 K
  ·rintro _ g5 ⟨rfl,L5,⟨E,F,M,D,S,K⟩,X⟩;have Z:B.next.pred.pred=g.next:=by
    rw[<-u];show A.next.pred.pred=_;rw[n2];rfl
   rw[Z]at D;refine⟨rfl,?_⟩;generalize (dQ T.A T.B x).foldl (C2 ord i) bs=x1 at*;obtain⟨o5,vs,Gs,m,rfl⟩:=E;obtain⟨P,x2,ct,G,Y,W,y2,y9⟩:=m.at_ n;have y7:ae SS.P 27 g5 (.pointer (some ⟨kb,i,none⟩))=some (.slice x2 P.length ct):=by
    rw[aR cO gM (o5.get 1 rfl) (by rw[m.lv];exact n),gD,Y];rfl
   have z2:=K P (List.mem_of_getElem? W);have R:=Fp (i:=i) (by omega);have x0:xh=4002000:=rfl;refine⟨_,_,_,F.m8.ld jg ox,_,D.ld lC lB,_,mF jg ej n,_,_,_,y7,(MH w y9 o5 (i:=i+2) (by exact y2) (by omega)).mono ?_⟩;rintro _ g6 ⟨rfl,G',x7,o6,c6⟩;refine⟨rfl,?_⟩;rw[oN n (by omega)];have x6:=m.set i x7;have y6:vs.set i (.slice x2 P.length ct)=vs:=by
    refine List.ext_getElem? λj=>?_;rw[getElem?_set];by_cases e:i=j
    ·subst e;rw[if_pos rfl,if_pos (by rw[m.lv];exact n),Y]
    ·rw[if_neg e]
   rw[y6]at x6;refine cG (ord.length-(i+1)) (by omega) ⟨x1.set i (mW P),_,⟨o6,vs,Gs.set i G',x6,rfl⟩,F.cP c6,c6 _ _ M,?_,λb f=>?_,by omega,rfl⟩
   ·refine(S.sort W).congr λa y=>?_;constructor
    ·rintro(⟨d,k⟩|⟨rfl,k⟩)
     ·exact⟨by omega,k⟩
     ·exact⟨by omega,x,U,k⟩
    ·rintro⟨d,ka,k,Q⟩;by_cases e:a=i
     ·subst e;rw[U]at k;obtain rfl:=oI k;exact .inr ⟨rfl,Q⟩
     ·exact .inl ⟨by omega,ka,k,Q⟩
   ·have x5:∀b∈x1,b.length<=(i+1)*xh:=λb f=>by have:=K b f;rw[Nat.add_mul,Nat.one_mul];omega
    rcases List.mem_or_eq_of_mem_set f with d|rfl
    ·exact x5 b d
    ·rw[oL];exact x5 P (List.mem_of_getElem? W)
 ·have q:=dF q;have z5:i=ord.length:=by omega
  obtain⟨o,vs,Gs,m,rfl⟩:=b;have ol:OL h g ([[(ko,.cells (List.replicate ord.length (.pointer none)) 168 1 true)]]++([(kb,.cells vs 27 1 true)]::Gs)):=o;obtain⟨o1,c1⟩:=ol.left;have im:=ol.Yw;have s1:=s.cP c1;have y5:=c1 _ _ V;have y0:Im g [[(ko,.cells (List.replicate ord.length (.pointer none)) 168 1 true)]] kb (.cells vs 27 1 true):=im (kb,.cells vs 27 1 true) (by simp);have x8:∀(t:Nat)(v:Value)(b:List Nat),vs[t]?=some v->bs[t]?=some b->sM g [[(ko,.cells (List.replicate ord.length (.pointer none)) 168 1 true)]] 3 v (b.map iv):=λt v b d k=>by
   have y3:t<Gs.length:=by rw[m.lg,<-m.lv];exact(List.getElem?_eq_some_iff.1 d).1
   have Q:=gE y3;exact⟨_,m.row t v b _ d k Q,λp hp=>im p (by rw[List.flatten_cons];exact List.mem_append_right _ (List.mem_flatten.2 ⟨_,List.mem_of_getElem? Q,hp⟩))⟩
  refine⟨_,HP,?_⟩;obtain⟨o2,c2⟩:=o1.push (.cells [nA] 27 0 true);have z6:=c2;obtain⟨o3,c3⟩:=o2.none;have H:=c2.trans c3;have R:=Fp (i:=i) (by omega);have x0:xh=4002000:=rfl;refine U0 (bs:=bs) (vs:=vs) (ko:=ko) (kb:=kb) w O gA gB zA zB ro hn rl (x4.congr λa x=>⟨λh=>h.2,λh=>⟨by obtain⟨ka,d,_⟩:=h;have:=(List.getElem?_eq_some_iff.1 d).1;omega,h⟩⟩) (λb f=>Nat.le_trans (zb b f) (by omega)) (L:=otL ko g.next (List.replicate ord.length none) nA []) ⟨?_,nA,[],dw.nil 3,rfl⟩ ⟨s1.cP ?_,?_,?_,m.lv,m.lb,λt v b d k=>(x8 t v b d k).cP ?_⟩
  all_goals
   have eo:otL ko g.next (List.replicate ord.length none) nA []=[[(ko,.cells (List.replicate ord.length (.pointer none)) 168 1 true)]]++[[(g.next,.cells [nA] 27 0 true)]]++[[]]:=by
    unfold otL;rw[List.map_replicate];rfl
   rw[eo]
  ·exact o3
  ·exact H
  ·exact H _ _ y5
  ·exact H _ _ y0
  ·exact H
theorem QG(w:Wf h)(p:T.Rows h)(gA:Good T.A)(Q:Good T.B)(R:∀s∈T.A.ak,s.an.length<=2000)(V:∀s∈T.B.ak,s.an.length<=2000)(N:WO T.A T.B ord)(M:ord.length<=90000){a:Option Addr}{c:Nat}(O:wT h 105 2 (.slice a ord.length c) (ord.map kV))(W:h.get km=some (.map (js ord 0))):
  FW SS 106 [.agg ⟨T.arg⟩,.slice a ord.length c,.map (some km)] h (Oq h T ord):=by
 refine QF a ord.length c T.arg km h _ ⟨_,H3 T,_,aa2 km,_,_,_,adx _ (by omega),_,Z9,?_⟩;have l:=OL.nil (Ok.refl w);have B:=(Ok.refl w).push (kj T);have e:=l.fg (kj T);have d:=(l.grow B).2 _ _ (l.old w W);have k:=(l.grow B).1;generalize h.push (kj T)=Y at*;have I:=(Ok.refl k.ok.wf).push (.cells [.map (some km)] 163 0 true);have f:=k.fg (.cells [.map (some km)] 163 0 true);have H:=(k.grow I).2;have X:=(k.grow I).1;have e:=H _ _ e;have d:=H _ _ d;generalize Y.push (.cells [.map (some km)] 163 0 true)=q at*;obtain⟨z,A⟩:=X.push (.cells (List.replicate ord.length (.pointer none)) 168 1 true);have e:=A _ _ e;have f:=A _ _ f;have d:=A _ _ d;generalize q.push (.cells (List.replicate ord.length (.pointer none)) 168 1 true)=g3 at*;obtain⟨C,K,D,i⟩:=z.cell (P:=SS.P) VG nA (v:=sA q.next ord.length ord.length) rfl rfl;refine⟨C,K,_,_,_,T4 _ (by omega),_,aaO,?_⟩;have u:=(z.grow D).2;have U:=(z.grow D).1;have e:=u _ _ e;have f:=u _ _ f;have d:=u _ _ d;generalize C.app (g3.push (.cells [nA] 166 0 true))=r at*;obtain⟨x,o⟩:=U.push (.cells (List.replicate ord.length xQ) 27 1 true);have e:=o _ _ e;have f:=o _ _ f;have d:=o _ _ d;have i:=o _ _ i;generalize r.push (.cells (List.replicate ord.length xQ) 27 1 true)=Z at*;obtain⟨F,J,E,m8⟩:=x.cell (P:=SS.P) MT nA (v:=sA r.next ord.length ord.length) rfl rfl;refine⟨F,J,?_⟩;have n:=(x.grow E).2;have S:=(x.grow E).1;have e:=n _ _ e;have f:=n _ _ f;have d:=n _ _ d;have i:=n _ _ i;generalize F.app (Z.push (.cells [nA] 126 0 true))=g6 at*;obtain⟨o7,g⟩:=S.cW ord.length;refine UZ w p gA Q R V N M O (L:=bkL q.next r.next ord.length (List.replicate ord.length xQ) (List.replicate ord.length [])) ⟨o7,_,_,⟨length_replicate,length_replicate,length_replicate,λj v b G m y t=>?_⟩,rfl⟩ ⟨g _ _ e,g _ _ f,g _ _ m8,g _ _ d⟩ (g _ _ i);rw[getElem?_replicate]at m y t;split at m
 ·next hj=>
  rw[if_pos hj]at y t;obtain rfl:=oI m;obtain rfl:=oI y;obtain rfl:=oI t;exact dw.nil 3
 ·cases m
end
end
noncomputable def cS:FD:=dY Tryz.f68 [([1,0,0,0],[0,2,3,4]),([1,0,0,0,1,0,0,1,0,0],[0,2,3,4,31,32])]
abbrev eM(a c b:Nat)(t:OA):LV:=[(.pointer t),(pA a),(pA c),(pA b)]
abbrev fZ(t:OA)(a d b:Nat)(c:LV)(i:Nat):LV:=[(.pointer t),(pA a),(pA d),(pA b),(.agg ⟨c⟩),(iA i)]
theorem M9(a:OA)(h:aa)(Q:VH)(d:xN (aA SS.P 27) h λf b=>xN (aA SS.P 27) b λg c=>xN (aA SS.P 27) c λi e=>LL SS cS [1,0,0,0] (eM (h.next) (b.next) (c.next) a) e (KK SS cS [1,0,0] [] (EE SS cS Q))):FW SS 68 [(.pointer a)] h Q:=eh cS Tryz.func68 (av d)
theorem uu(t0:OA)(a c b:Nat)(f:Nat->OA->aa->Prop)(Q:VH)(step:∀(e:Nat) (t:OA) (G:Nat->Value) (h:aa),f e t h->xB (ax SS.P .neq 112 (.pointer t) (.pointer none)) λb7=>aS b7 (DA SS.P t (room h 20) λv8 h9=>xP (af SS.P 118 v8 0) λu=>xP (af SS.P 116 (.pointer (some u)) 0) λK=>xI .i64 (ae SS.P 3 (room h 20) (.pointer (some K))) λI=>xA (aD SS.P 187 [(0,(.int .i64 I)),(1,(pA a))]) λA=>DA SS.P t (room h 20) λo x0=>xP (af SS.P 118 o 0) λC=>xP (af SS.P 116 (.pointer (some C)) 1) λz=>xI .i64 (ae SS.P 3 (room h 20) (.pointer (some z))) λr=>xA (aD SS.P 187 [(0,(.int .i64 r)),(1,(pA c))]) λL=>DA SS.P t (room h 20) λO x1=>xP (af SS.P 118 O 0) λp=>xP (af SS.P 116 (.pointer (some p)) 2) λm=>xI .i64 (ae SS.P 3 (room h 20) (.pointer (some m))) λx=>xA (aD SS.P 187 [(0,(.int .i64 x)),(1,(pA b))]) λq=>xA (aD SS.P 188 [(0,(.agg ⟨A⟩)),(1,(.agg ⟨L⟩)),(2,(.agg ⟨q⟩))]) λJ=>LL SS cS [1,0,0,0,1,0,0,1,0,0] (fZ t a c b J 0) (room h 20) (KK SS cS [1,0,0,1,0] [1,0,0,0] (RR cS [1,0,0,0] (fD (eM a c b) f) e (KK SS cS [1,0,0] [] (EE SS cS Q))))) (xL (ae SS.P 27 h (pA a)) λU N P=>FW SS 122 [(.slice U N P)] h λE k=>E=(.tuple ⟨[]⟩)/\xL (ae SS.P 27 k (pA c)) λv s B=>FW SS 122 [(.slice v s B)] k λy g=>y=(.tuple ⟨[]⟩)/\xL (ae SS.P 27 g (pA b)) λn X S=>FW SS 122 [(.slice n X S)] g λT d=>T=(.tuple ⟨[]⟩)/\xL (ae SS.P 27 d (pA a)) λF W D=>xL (ae SS.P 27 d (pA c)) λH w M=>xL (ae SS.P 27 d (pA b)) λY R V=>xU (aj SS.P 27 (pA a) (.slice F W D) d) d λx2 i=>xU (aj SS.P 27 (pA c) (.slice H w M) i) i λx4 j=>xU (aj SS.P 27 (pA b) (.slice Y R V) j) j λx3 Z=>dq SS [((pA a),some 27),((pA c),some 27),((pA b),some 27)] Z Q))(e:Nat){t:OA}{h:aa}(l:f e t h):LL SS cS [1,0,0,0] (eM a c b t) h (KK SS cS [1,0,0] [] (EE SS cS Q)):=
 dN (eM a c b) f (λe t G h l=>av (step e t G h l)) e l
theorem uw(W:OA)(t:OA)(d f e:Nat)(g:LV)(l:Nat->OA->aa->Prop)(s:Nat)(c:Nat->Nat->aa->Prop)(Q:VH)(step:∀(b:Nat) (i:Nat) (G:Nat->Value) (h:aa),c b i h->aS (decide (((i:Int):Int)<3)) (xA (bH SS.P 188 (.agg ⟨g⟩) (iA i)) λx=>xN (aA SS.P 187) h λU n=>xU (aj SS.P 187 (pA (h.next)) (.agg ⟨x⟩) n) n λS a=>xP (af SS.P 187 (pA (h.next)) 0) λJ=>xI .i64 (ae SS.P 3 a (.pointer (some J))) λB=>aS (decide ((B:Int)>0)) (xP (af SS.P 187 (pA (h.next)) 1) λo=>xO (ae SS.P 186 (room a 12) (.pointer (some o))) λj=>xP (af SS.P 187 (pA (h.next)) 1) λM=>xO (ae SS.P 186 (room a 12) (.pointer (some M))) λL=>DA SS.P L (room a 12) λz R=>xL (ae SS.P 27 (room a 12) z) λA v E=>xP (af SS.P 187 (pA (h.next)) 0) λy=>xI .i64 (ae SS.P 3 (room a 12) (.pointer (some y))) λI=>zR (az SS.P 27 1 [(0,(.int .i64 I))]) λp C H=>xE (aJ SS.P 27 27 (.slice A v E) (sA (a.next+8) C H) (aw (room a 12) a.next [(8,p)])) (aw (room a 12) a.next [(8,p)]) λu F N P k=>DA SS.P j k λw V=>xU (aj SS.P 27 w (.slice u F N) k) k λT D=>(ae SS.P 186 k (.pointer (some o))=some (.pointer j)/\df 4 (.pointer j) (.pointer j)=true)/\aH (fD (fZ t d f e g) c) b [(.pointer t),(pA d),(pA f),(pA e),(.agg ⟨g⟩),(.int .i64 (wrap .i64 ((i:Int)+1)))] D) (aH (fD (fZ t d f e g) c) b [(.pointer t),(pA d),(pA f),(pA e),(.agg ⟨g⟩),(.int .i64 (wrap .i64 ((i:Int)+1)))] a)) (DA SS.P t h λO m=>xP (af SS.P 118 O 1) λK=>xO (ae SS.P 112 m (.pointer (some K))) λr=>aH (fD (eM d f e) l) s [(.pointer r),(pA d),(pA f),(pA e)] m))(b:Nat){i:Nat}{h:aa}(q:c b i h):LL SS cS [1,0,0,0,1,0,0,1,0,0] (fZ t d f e g i) h (KK SS cS [1,0,0,1,0] [1,0,0,0] (RR cS [1,0,0,0] (fD (eM d f e) l) s (KK SS cS [1,0,0] [] (EE SS cS Q)))):=
 dN (fZ t d f e g) c (λb i G h q=>av (step b i G h q)) b q
noncomputable def mL:FD:=dY Tryz.f107 [([1,0,0,0],[0,1,2,3,4])]
abbrev jx(a b c:Nat)(t r:OA):LV:=[(.pointer t),(.pointer r),(pA a),(pA b),(pA c)]
theorem QA(a b:OA)(c d e:Nat)(h:aa)(Q:VH)(f:LL SS mL [1,0,0,0] (jx c d e a b) h (KK SS mL [1,0,0] [] (EE SS mL Q))):FW SS 107 [(.pointer a),(.pointer b),(pA c),(pA d),(pA e)] h Q:=eh mL Tryz.func107 (av f)
theorem vX(t0 r0:OA)(f c d:Nat)  (b:Nat->OA->OA->aa->Prop) (Q:VH) (step:∀(a:Nat)(t r:OA)(G:Nat->Value)(h:aa),b a t r h->DA SS.P r h λV w=>xP (af SS.P 170 V 1) λW=>xO (ae SS.P 168 w (.pointer (some W))) λT=>xB (ax SS.P .neq 168 (.pointer T) (.pointer none)) λU=>aS U (DA SS.P r w λP x=>xP (af SS.P 170 P 0) λS=>xA (ae SS.P 116 x (.pointer (some S))) λR=>xA (aD SS.P 118 [(0,(.agg ⟨R⟩)),(1,(.pointer t))]) λN=>xN (dp SS.P 118 (.agg ⟨N⟩)) x λY A=>DA SS.P r A λJ v=>xP (af SS.P 170 J 1) λB=>xO (ae SS.P 168 v (.pointer (some B))) λF=>aH (qu (jx f c d) b) a [(pA (x.next)),(.pointer F),(pA f),(pA c),(pA d)] v) (FW SS 68 [(.pointer t)] w λO k=>∃(s:OA)(u g:Nat),∃(m:OA)(n q:Nat),∃(i:OA)(p j:Nat),O=(.tuple ⟨[(.slice s u g),(.slice m n q),(.slice i p j)]⟩)/\xU (aj SS.P 27 (pA f) (.slice s u g) k) k λX l=>xU (aj SS.P 27 (pA c) (.slice m n q) l) l λZ o=>xU (aj SS.P 27 (pA d) (.slice i p j) o) o λx0 e=>xL (ae SS.P 27 e (pA c)) λE D C=>xL (ae SS.P 27 e (pA d)) λz M K=>FW SS 108 [(.slice E D C),(.slice z M K)] e λL H=>yB L λI=>Q (.bool (!I)) H)) (a:Nat) {t r:OA} {h:aa} (y:b a t r h):LL SS mL [1,0,0,0] (jx f c d t r) h (KK SS mL [1,0,0] [] (EE SS mL Q)):=
 oJ (jx f c d) b (λa t r G h y=>av (step a t r G h y)) a y
noncomputable def XF:FD:=dY Tryz.f110 []
theorem SU(f n:LV)(h:aa)(Q:VH)(y:xN (dp SS.P 175 (.agg ⟨f⟩)) h λC b=>xN (dp SS.P 175 (.agg ⟨n⟩)) b λD c=>xP (af SS.P 175 (pA (h.next)) 0) λw=>xL (ae SS.P 27 c (.pointer (some w))) λx A z=>xP (af SS.P 175 (pA (b.next)) 0) λB=>xL (ae SS.P 27 c (.pointer (some B))) λj p u=>FW SS 108 [(.slice x A z),(.slice j p u)] c λs a=>yB s λm=>aS m (xP (af SS.P 175 (pA (h.next)) 1) λo=>xL (ae SS.P 27 a (.pointer (some o))) λt l q=>xP (af SS.P 175 (pA (b.next)) 1) λr=>xL (ae SS.P 27 a (.pointer (some r))) λg v e=>FW SS 108 [(.slice t l q),(.slice g v e)] a λd k=>yB d λi=>Q (.bool i) k) (Q (.bool false) a)):FW SS 110 [(.agg ⟨f⟩),(.agg ⟨n⟩)] h Q:=eh XF Tryz.func110 (av y)
noncomputable def cm:FD:=dY Tryz.f113 [([1,1,1,1,0,0,0],[4,6])]
abbrev mC(b a:Nat)(z:Unit):LV:=[(pA b),(pA a)]
theorem Ps(B J:LV)(h:aa)(Q:VH)(hx:xN (dp SS.P 175 (.agg ⟨B⟩)) h λB1 d=>xN (dp SS.P 116 (.agg ⟨J⟩)) d λB3 i=>xN (aA SS.P 175) i λB5 b=>xP (af SS.P 175 (pA (h.next)) 0) λp7=>xL (ae SS.P 27 (room b 9) (.pointer (some p7))) λa8 n9 z1=>FW SS 148 [(.slice a8 n9 z1)] (room b 9) λA n=>yL A λX C y5=>xP (af SS.P 175 (pA (h.next)) 1) λm=>xL (ae SS.P 27 n (.pointer (some m))) λg e f=>FW SS 148 [(.slice g e f)] n λx5 l=>yL x5 λU W y0=>xA (aD SS.P 175 [(0,(.slice X C y5)),(1,(.slice U W y0))]) λF=>zN (aA SS.P 175) λp=>xU (aj SS.P 175 (pA (b.next+7)) (.agg ⟨F⟩) (aw l b.next [(7,p)])) (aw l b.next [(7,p)]) λz7 a=>(ae SS.P 27 (room b 9) (.pointer (some m))=some (.slice g e f)/\df 4 (.slice g e f) (.slice g e f)=true)/\xP (af SS.P 116 (pA (d.next)) 1) λy9=>xI .i64 (ae SS.P 3 a (.pointer (some y9))) λM=>aS (decide ((M:Int)>0)) (xP (af SS.P 175 (pA (b.next+7)) 0) λu=>xL (ae SS.P 27 a (.pointer (some u))) λN L R=>xP (af SS.P 116 (pA (d.next)) 1) λx9=>xI .i64 (ae SS.P 3 a (.pointer (some x9))) λt=>xR (az SS.P 27 1 [(0,(.int .i64 t))]) a λu1 z0 y4 j=>xE (aJ SS.P 27 27 (.slice N L R) (sA (a.next) z0 y4) j) j λw y z3 z8 q=>xP (af SS.P 175 (pA (b.next+7)) 0) λK=>xU (aj SS.P 27 (.pointer (some K)) (.slice w y z3) q) q λu2 c=>xP (af SS.P 116 (pA (d.next)) 2) λT=>xI .i64 (ae SS.P 3 c (.pointer (some T))) λy7=>aS (decide ((y7:Int)>0)) (xP (af SS.P 175 (pA (b.next+7)) 1) λx2=>xL (ae SS.P 27 c (.pointer (some x2))) λY v y1=>xP (af SS.P 116 (pA (d.next)) 2) λV=>xI .i64 (ae SS.P 3 c (.pointer (some V))) λx1=>xR (az SS.P 27 1 [(0,(.int .i64 x1))]) c λu0 D x6 o=>xE (aJ SS.P 27 27 (.slice Y v y1) (sA (c.next) D x6) o) o λy3 x7 E z5 r=>xP (af SS.P 175 (pA (b.next+7)) 1) λy8=>xU (aj SS.P 27 (.pointer (some y8)) (.slice y3 x7 E) r) r λu3 x0=>LL SS cm [1,1,1,1,0,0,0] [(pA (i.next)),(pA (b.next+7))] x0 (KK SS cm [1,1,1,1,0,0] [] (EE SS cm Q))) (LL SS cm [1,1,1,1,0,0,0] [(pA (i.next)),(pA (b.next+7))] c (KK SS cm [1,1,1,1,0,0] [] (EE SS cm Q)))) (xP (af SS.P 116 (pA (d.next)) 2) λx4=>xI .i64 (ae SS.P 3 a (.pointer (some x4))) λz2=>aS (decide ((z2:Int)>0)) (xP (af SS.P 175 (pA (b.next+7)) 1) λy2=>xL (ae SS.P 27 a (.pointer (some y2))) λx Z y6=>xP (af SS.P 116 (pA (d.next)) 2) λG=>xI .i64 (ae SS.P 3 a (.pointer (some G))) λO=>xR (az SS.P 27 1 [(0,(.int .i64 O))]) a λz9 S z s=>xE (aJ SS.P 27 27 (.slice x Z y6) (sA (a.next) S z) s) s λx8 H I z6 k=>xP (af SS.P 175 (pA (b.next+7)) 1) λP=>xU (aj SS.P 27 (.pointer (some P)) (.slice x8 H I) k) k λz4 x3=>LL SS cm [1,1,1,1,0,0,0] [(pA (i.next)),(pA (b.next+7))] x3 (KK SS cm [1,1,1,1,0,0] [] (EE SS cm Q))) (LL SS cm [1,1,1,1,0,0,0] [(pA (i.next)),(pA (b.next+7))] a (KK SS cm [1,1,1,1,0,0] [] (EE SS cm Q))))):FW SS 113 [(.agg ⟨B⟩),(.agg ⟨J⟩)] h Q:=eh cm Tryz.func113 (av hx)
theorem vh(dv ov:LV)(b a:Nat)(i:Nat->Unit->aa->Prop)(Q:VH)(step:∀(f:Nat) (z:Unit) (T:Nat->Value) (h:aa),i f z h->xP (af SS.P 175 (pA a) 0) λW=>xL (ae SS.P 27 h (.pointer (some W))) λx2 P x4=>aS (decide (((P:Int):Int)>0)) (xP (af SS.P 175 (pA a) 1) λR=>xL (ae SS.P 27 h (.pointer (some R))) λx5 S x3=>aS (decide (((S:Int):Int)>0)) (xP (af SS.P 175 (pA a) 0) λV=>xL (ae SS.P 27 (room h 9) (.pointer (some V))) λU O L=>xP (ai SS.P 27 (.slice U O L) (.int .i64 0)) λJ=>xI .i64 (ae SS.P 3 (room h 9) (.pointer (some J))) λy=>xP (af SS.P 175 (pA a) 1) λv=>xL (ae SS.P 27 (room h 9) (.pointer (some v))) λH x r=>xP (ai SS.P 27 (.slice H x r) (.int .i64 0)) λN=>xI .i64 (ae SS.P 3 (room h 9) (.pointer (some N))) λI=>aS (((y:Int) !=I)) (xA (ae SS.P 175 (room h 9) (pA a)) λq=>xU (aj SS.P 175 (pA b) (.agg ⟨q⟩) (room h 9)) (room h 9) λx0 m=>dq SS [((pA b),some 175),((.bool false),none)] m Q) (xP (af SS.P 175 (pA a) 0) λA=>xL (ae SS.P 27 (room (room h 9) 10) (.pointer (some A))) λC t o=>xL (bE SS.P 27 (.slice C t o) (some (.int .i64 1)) none none (room (room h 9) 10)) λK M G=>xP (af SS.P 175 (pA a) 1) λw=>xL (ae SS.P 27 (room (room h 9) 10) (.pointer (some w))) λj k l=>xL (bE SS.P 27 (.slice j k l) (some (.int .i64 1)) none none (room (room h 9) 10)) λc e d=>xP (af SS.P 175 (pA a) 0) λE=>xU (aj SS.P 27 (.pointer (some E)) (.slice K M G) (room (room h 9) 10)) (room (room h 9) 10) λX g=>xP (af SS.P 175 (pA a) 1) λp=>xU (aj SS.P 27 (.pointer (some p)) (.slice c e d) g) g λx1 D=>(bE SS.P 27 (.slice j k l) (some (.int .i64 1)) none none g=some (.slice c e d)/\df 4 (.slice c e d) (.slice c e d)=true)/\aH (fD (mC b a) i) f [(pA b),(pA a)] D)) (xA (ae SS.P 175 h (pA a)) λF=>xU (aj SS.P 175 (pA b) (.agg ⟨F⟩) h) h λZ u=>dq SS [((pA b),some 175),((.bool true),none)] u Q)) (xA (ae SS.P 175 h (pA a)) λs=>xU (aj SS.P 175 (pA b) (.agg ⟨s⟩) h) h λY n=>dq SS [((pA b),some 175),((.bool true),none)] n Q))(f:Nat){z:Unit}{h:aa}(B:i f z h):LL SS cm [1,1,1,1,0,0,0] (mC b a z) h (KK SS cm [1,1,1,1,0,0] [] (EE SS cm Q)):=
 dN (mC b a) i (λf z T h B=>av (step f z T h B)) f B
variable{p:List Int}{T:TypeId}{n:Nat}
section
theorem zat{g:aa}{l:List Int}(r:Rd g 3 v (l.map zV)){i:Nat}{z:Int}(a:l[i]?=some z):∃p:Addr,ai SS.P 27 v (.int .i64 (i:Int))=some (.pointer (some p))/\ae SS.P 3 g (.pointer (some p))=some (.int .i64 z):=by
 have d:=(List.getElem?_eq_some_iff.1 a).1;obtain⟨p,b,c⟩:=r.at_ cO wM lC lB (k:= .i64) (i:=(i:Int)) (by omega) (by rw[lM];omega);refine⟨p,b,?_⟩;rw[c,toNat_natCast,gD,getElem?_map,a];rfl
theorem xr(w:Wf h){a:Option Addr}{n c:Nat}{b:Option Addr}{m d:Nat}{l l':List Int}(r:Rd h 3 (.slice a n c) (l.map zV))(A:Rd h 3 (.slice b m d) (l'.map zV))(F:l.length<=1000000000):FW SS 108 [.slice a n c,.slice b m d] h (λv g=>v = .bool (decide (l=l'))/\Ok h g):=by
 have B:n=l.length:=by have:=r.len;rwa[lM]at this
 have C:m=l'.length:=by have:=A.len;rwa[lM]at this
 refine Pv a n c b m d h _ (ah (λq=>?_) (λq=>?_))
 ·refine⟨?_,Ok.refl w⟩;rw[decide_eq_false];intro e;rw[B,C,e]at q;simp at q
 ·have I:n=m:=by
   have:(n:Int)=m:=by simpa using q
   omega
  refine vw a n c b m d (λu i g=>i<=l.length/\u=l.length-i/\Ok h g/\l.take i=l'.take i) _ (λu i=>?_) l.length (i:=0) ⟨zero_le _,rfl,Ok.refl w,by simp⟩;intro K g t;obtain⟨M,rfl,z,o⟩:=t;refine ah (λq=>?_) (λq=>?_)
  ·have q:=dT q;obtain⟨x,f⟩:∃p,l[i]?=some p:=⟨_,gE (by omega)⟩
   obtain⟨y,s⟩:∃p,l'[i]?=some p:=⟨_,gE (by omega)⟩
   have j:=z.room 9;obtain⟨L,D,E⟩:=zat (r.ok j) f;obtain⟨J,G,H⟩:=zat (A.ok j) s;refine⟨_,D,_,E,_,G,_,H,ah (λk=>?_) (λk=>?_)⟩
   ·refine⟨?_,j⟩;rw[decide_eq_false];intro e;rw[e,s]at f;obtain rfl:=oI f;simp at k
   ·have e:x=y:=by simpa using k
    subst e;rw[bA (n:=l.length) (by omega) F];refine cG (l.length-(i+1)) (by omega) ⟨by omega,rfl,j,?_⟩;rw[(fT f).2,(fT s).2,o]
  ·have q:=dF q;rw[List.take_of_length_le (by omega),List.take_of_length_le (by omega)]at o;exact⟨by rw[decide_eq_true o],z⟩
theorem AY(w:Wf h){v:Value}{l:List Int}(r:Rd h 3 v (l.map zV))(t:l.length<=1000000000):FW SS 148 [v] h (λx g=>nh h g 3 x (l.map zV)/\Ok h g):=by
 have d:(l.map zV).length=l.length:=lM ..;rcases r with⟨rfl,e⟩|⟨k,a,cs,c,n,rfl,e,j⟩
 ·rw[e];exact Pg h _ ⟨⟨[],dw.nil 3,λp o=>by cases o⟩,Ok.refl w⟩
 ·have r:Rd h 3 (.slice (some ⟨k,a,none⟩) (l.map zV).length c) (l.map zV):= .inr ⟨k,a,cs,c,n,rfl,e,j⟩;refine K6 ⟨k,a,none⟩ (l.map zV).length c h _ ⟨_,0,0,(by kernel_rfl:az SS.P 27 0 []=some (.cells [] 3 1 true,jE 0 0)),?_⟩;obtain⟨b,m,f,u,q,i,s⟩:=Xb cO rk lj M6 w (x:= .slice (some ⟨k,a,none⟩) (l.map zV).length c) (abV (r.ok ((Ok.refl w).push _))) (by rw[List.all_map];simp[zV,bw]) (by rw[jd,d];omega) (by rw[d];omega);exact⟨b,m,f,u,q,i,s⟩
structure OV(l cur:List Int)(i j:Int):Prop where
 len:cur.length=l.length
 out:∀p:Nat,p<l.length->((p:Int)<i\/j<(p:Int))->cur[p]?=l[l.length-1-p]?
 mid:∀p:Nat,i<=(p:Int)->(p:Int)<=j->cur[p]?=l[p]?
 sum:i+j=(l.length:Int)-1
theorem OV.done{l:List Int}{i j:Int}(t:OV l p i j)(h:j<=i):p=l.reverse:=by
 refine List.ext_getElem? λa=>?_;by_cases c:a<l.length
 ·rw[List.getElem?_reverse c];by_cases b:(a:Int)<i\/j<(a:Int)
  ·exact t.out a c b
  ·rw[not_or]at b;have:=t.sum;rw[t.mid a (by omega) (by omega)];congr 1;omega
 ·rw[getElem?_eq_none (by rw[t.len];omega),getElem?_eq_none (by rw[List.length_reverse];omega)]
theorem OV.step{l:List Int}(t:OV l p i j)(h:i<j){x y:Int}(k:p[i]?=some x)(e:p[j]?=some y):OV l ((p.set i y).set j x) ((i:Int)+1) ((j:Int)-1):=by
 have o:=t.sum;have b:j<p.length:=(List.getElem?_eq_some_iff.1 e).1;have g:=t.len;have n:=t.mid i (Int.le_refl _) (by omega);have f:=t.mid j (by omega) (Int.le_refl _);refine⟨by rw[length_set,length_set];exact g,λc m s=>?_,λc q r=>?_,by omega⟩
 ·rw[getElem?_set];by_cases a:j=c
  ·subst a;rw[if_pos rfl,if_pos (by rw[length_set];exact b),<-k,n];congr 1;omega
  ·rw[if_neg a,getElem?_set];by_cases d:i=c
   ·subst d;rw[if_pos rfl,if_pos (by omega),<-e,f];congr 1;omega
   ·rw[if_neg d];exact t.out c m (by omega)
 ·rw[getElem?_set,if_neg (by omega),getElem?_set,if_neg (by omega)];exact t.mid c (by omega) (by omega)
theorem JK{c:Nat}{G:cC}(r:dw T (.slice a n c) d G):n=d.length:=by
 obtain⟨e,b,h⟩:=r.oa;injection h
theorem EH{g:aa}{L:List cC}(t:Wf h){a:Option Addr}{n c:Nat}{b:List Int}{G:cC}(r:dw 3 (.slice a n c) (b.map zV) G)(o:OL h g L){j:Nat}(B:L[j]?=some G){i:Nat}(s:i<b.length)(y:Int):∃p:Addr,ai SS.P 27 (.slice a n c) (.int .i64 (i:Int))=some (.pointer (some p))/\∃u:bp,aj SS.P 3 (.pointer (some p)) (.int .i64 y) g=some (undef,u)/\∃d,dw 3 (.slice a n c) ((b.set i y).map zV) d/\OL h (u.app g) (L.set j d)/\eU g L (u.app g) (L.set j d):=by
 have v:=JK r;rw[lM]at v;have w:=r;obtain⟨D,⟨_,f,_⟩|⟨k,C,cs,E,l,_⟩⟩:=w
 ·have:b=[]:=by simpa[pD]using f
  subst this;exact absurd s (Nat.not_lt_zero _)
 ·injection l with l hv2 m
  subst l;subst m;obtain⟨u,A,d,f,z⟩:=fj.put (P:=SS.P) (t':=3) wM t (e:=3) (sz:=1) (i:=i) (q:=0) (x:=[zV b[i]]) (v':= .int .i64 y) r o B (by unfold pD;rw[getElem?_map,getElem?_map,gE s];rfl) (by omega) rfl rfl;refine⟨_,FU cO wM (by omega) (by omega),u,by rw[toNat_natCast];exact A,d,?_,z⟩;have e:(pD (b.map zV)).set i (([zV b[i]]:List Value).set 0 (.int .i64 y))=pD ((b.set i y).map zV):=by
   unfold pD;rw[map_set,map_set];rfl
  rw[e]at f;exact f
theorem uj{g:aa}{L:List cC}(E:Wf h){a:Option Addr}{n c:Nat}{l:List Int}{G:cC}(r:dw 3 (.slice a n c) (l.map zV) G)(o:OL h g L){k:Nat}(Q:L[k]?=some G)(hl:l.length<=1000000000):FW SS 122 [.slice a n c] g (λv u=>v = .tuple ⟨[]⟩/\∃f,dw 3 (.slice a n c) (l.reverse.map zV) f/\OL h u (L.set k f)/\eU g L u (L.set k f)):=by
 have hn:n=l.length:=by have:=JK r;rwa[lM]at this
 refine Mw a n c g _ ?_;rw[aO (by omega) (by omega)];have x:=(List.getElem?_eq_some_iff.1 Q).1;have w:L.set k G=L:=List.ext_getElem? λp=>by
  rw[getElem?_set];by_cases e:k=p
  ·subst e;rw[if_pos rfl,if_pos x,Q]
  ·rw[if_neg e]
 refine uk a n c (λH i j u=>∃b f,OV l b i j/\dw 3 (.slice a n c) (b.map zV) f/\OL h u (L.set k f)/\eU g L u (L.set k f)/\i<=l.length/\H=l.length-i) _ (λH i j=>?_) l.length (i:=0) ⟨l,G,⟨rfl,λp hp ho=>by omega,λp _ _=>rfl,by omega⟩,r,by rw[w];exact o,by rw[w];exact eU.refl _ _,zero_le _,rfl⟩;intro zz g1 F;obtain⟨b,B,t,y,z,N,hi,rfl⟩:=F;have hs:=t.sum;have x0:=t.len;refine ah (λq=>?_) (λq=>?_)
 ·have q:=dT q;obtain⟨d,rfl⟩:∃d:Nat,j=(d:Int):=⟨j.toNat,by omega⟩
  have S:d<b.length:=by omega
  have s:i<b.length:=by omega
  have K:=gE s;have T:=gE S;have D:(L.set k B)[k]?=some B:=by rw[getElem?_set,if_pos rfl,if_pos x]
  obtain⟨C,c2⟩:=z.grow ((Ok.refl z.ok.wf).room 16);generalize Go.Ab.room g1 16=g2 at*;obtain⟨p1,W,Y⟩:=zat (y.rd C D) T;obtain⟨Z,A,j2⟩:=zat (y.rd C D) K;obtain⟨q1,m,u1,s2,R,V,O,P⟩:=EH E y C D s b[d];rw[A]at m;obtain rfl:Z=q1:=by injection m with m;injection m with m;injection m
  refine⟨_,W,_,Y,_,A,_,j2,_,A,u1,s2,?_⟩;rw[List.set_set]at O P;have M:(L.set k R)[k]?=some R:=by rw[getElem?_set,if_pos rfl,if_pos x]
  obtain⟨q2,s3,U,s4,G4,r4,J,I⟩:=EH E V O M (i:=d) (by rw[length_set];exact S) b[i];rw[List.set_set]at J I;refine⟨_,s3,U,s4,?_⟩;have ts:=t.step (by omega) K T;have X:wrap .i64 ((i:Int)+1)=((i+1:Nat):Int):=bA s (by omega);have e2:wrap .i64 ((d:Int)-1)=(d:Int)-1:=aO (by omega) (by omega);rw[X,e2];refine ju (l.length-(i+1)) (by omega) ⟨_,G4,?_,r4,J,N.trans (c2.trans (P.trans I)),by omega,rfl⟩;have:((i+1:Nat):Int)=(i:Int)+1:=by omega
  rw[this];exact ts
 ·have q:=dF q;have e:=t.done (by omega);subst e;exact⟨rfl,B,y,z,N⟩
abbrev sL:=List Int×List Int
noncomputable def aci:TypeDesc:=(SS.P.underlying 175).getD .bool
theorem aaC:SS.P.underlying 175=some aci:=by kernel_rfl
theorem Z4:Go.Ab.isAgg SS.P 175=true:=by kernel_rfl
theorem ur:au SS.P 175=some 2:=by kernel_rfl
theorem lP(k o:Nat):af SS.P 175 (.pointer (some ⟨k,o,none⟩)) 0=some (.pointer (some ⟨k,o+0,none⟩)):=by kernel_rfl
theorem lQ(k o:Nat):af SS.P 175 (.pointer (some ⟨k,o,none⟩)) 1=some (.pointer (some ⟨k,o+1,none⟩)):=by kernel_rfl
def bT(x y:Value):bu:= .cells [x,y] 175 0 true
theorem KZ(a:Option Addr)(n c:Nat)(b:Option Addr)(m d:Nat):dp SS.P 175 (.agg ⟨[.slice a n c,.slice b m d]⟩)=some (bT (.slice a n c) (.slice b m d),dR):=by cases a<;>cases b<;>kernel_rfl
section
variable {g:aa} {k:Nat} {x y:Value}
theorem bT.l0(h:g.get k=some (bT x y)):ae SS.P 27 g (.pointer (some ⟨k,0+0,none⟩))=some x:=aR cO gM h (by simp)
theorem bT.l1(h:g.get k=some (bT x y)):ae SS.P 27 g (.pointer (some ⟨k,0+1,none⟩))=some y:=aR cO gM h (by simp)
theorem bT.all(h:g.get k=some (bT x y)):ae SS.P 175 g (.pointer (some ⟨k,0,none⟩))=some (.agg ⟨[x,y]⟩):=gG aaC Z4 ur h (by simp)
end
theorem Ib(w:Wf h){a:Option Addr}{n c:Nat}{b:Option Addr}{m d:Nat}{o:Option Addr}{l j:Nat}{r:Option Addr}{p k:Nat}{x y:sL}(F:Rd h 3 (.slice a n c) (x.1.map zV))(H:Rd h 3 (.slice b m d) (x.2.map zV))(D:Rd h 3 (.slice o l j) (y.1.map zV))(J:Rd h 3 (.slice r p k) (y.2.map zV))(G:x.1.length<=1000000000)(A:x.2.length<=1000000000):FW SS 110 [.agg ⟨[.slice a n c,.slice b m d]⟩,.agg ⟨[.slice o l j,.slice r p k]⟩] h (λv g=>v = .bool (decide (x=y))/\Ok h g):=by
 refine SU _ _ h _ ⟨_,KZ ..,_,KZ ..,?_⟩;have z:=(Ok.refl w).push (bT (.slice a n c) (.slice b m d));have i:=aI h (bT (.slice a n c) (.slice b m d));generalize h.push (bT (.slice a n c) (.slice b m d))=B at*;have C:=(Ok.refl z.wf).push (bT (.slice o l j) (.slice r p k));have t:=aI B (bT (.slice o l j) (.slice r p k));have i:=C.ext _ _ i;have s:=z.trans C;generalize B.push (bT (.slice o l j) (.slice r p k))=K at*;refine⟨_,lP _ _,_,_,_,bT.l0 i,_,lP _ _,_,_,_,bT.l0 t,(xr s.wf (F.ok s) (D.ok s) G).mono ?_⟩;rintro _ M ⟨rfl,u⟩;have f:=s.trans u;have i:=u.ext _ _ i;have t:=u.ext _ _ t;refine⟨_,rfl,ah (λq=>?_) (λq=>?_)⟩
 ·have q:=dT q;refine⟨_,lQ _ _,_,_,_,bT.l1 i,_,lQ _ _,_,_,_,bT.l1 t,(xr f.wf (H.ok f) (J.ok f) A).mono ?_⟩;rintro _ L ⟨rfl,I⟩;refine⟨_,rfl,?_,f.trans I⟩;by_cases e:x.2=y.2
  ·rw[decide_eq_true e,decide_eq_true (Prod.ext q e)]
  ·rw[decide_eq_false e,decide_eq_false (λE=>e (by rw[E]))]
 ·have q:=dF q;exact⟨by rw[decide_eq_false (λe=>q (by rw[e]))],f⟩
end
section
theorem U5{G:cC}(r:dw T v d G):df 4 v v=true:=by
 obtain⟨_,⟨rfl,_⟩|⟨k,a,cs,c,rfl,_⟩⟩:=r<;>simp[df]
theorem Ce(r:Rd g T v d):df 4 v v=true:=by
 rcases r with⟨rfl,_⟩|⟨k,a,cs,c,b,rfl,_⟩<;>simp[df]
theorem Ho(x:List Int)(c:Int):(x++opt c []).map zV=if c=0 then x.map zV else x.map zV++[zV c]:=by
 unfold opt;split
 ·rw[append_nil]
 ·rw[map_append];rfl
theorem FE(k:Nat):af SS.P 116 (.pointer (some ⟨k,0,none⟩)) 1=some (.pointer (some ⟨k,1,none⟩)):=by kernel_rfl
theorem FF(k:Nat):af SS.P 116 (.pointer (some ⟨k,0,none⟩)) 2=some (.pointer (some ⟨k,2,none⟩)):=by kernel_rfl
theorem iP.l1{m:Mv}(h:g.get k=some (iP m)):ae SS.P 3 g (.pointer (some ⟨k,1,none⟩))=some (.int .i64 m.l):=aR lC lB h (by simp[rX])
theorem iP.l2{m:Mv}(h:g.get k=some (iP m)):ae SS.P 3 g (.pointer (some ⟨k,2,none⟩))=some (.int .i64 m.r):=aR lC lB h (by simp[rX])
theorem R7:aA SS.P 175=some (bT nA nA,dR):=by kernel_rfl
theorem aaY(a:Option Addr)(n c:Nat)(b:Option Addr)(m d:Nat):aD SS.P 175 [(0,(.slice a n c)),(1,(.slice b m d))]=some (.agg ⟨[.slice a n c,.slice b m d]⟩):=by cases a<;>cases b<;>kernel_rfl
def aL(k4 k6:Nat)(c b:Value)(d a:cC):List cC:=[[(k4,bT nA nA)],[(k6,bT c b)],d,a]
def AS(h:aa)(k4 k6:Nat)(x y:List Int)(g:aa):Prop:=∃c b d a,OL h g (aL k4 k6 c b d a)/\dw 3 c (x.map zV) d/\dw 3 b (y.map zV) a
def aaK(h:aa)(r:Option sL):VH:=λv g=>Ok h g/\((r=none/\∃(a:Option Addr)(n c:Nat)(b:Option Addr)(m d:Nat),v = .tuple ⟨[.agg ⟨[.slice a n c,.slice b m d]⟩,.bool false]⟩)\/ ∃(e:sL)(a:Option Addr)(n c:Nat)(b:Option Addr)(m d:Nat),r=some e/\v = .tuple ⟨[.agg ⟨[.slice a n c,.slice b m d]⟩,.bool true]⟩/\nh h g 3 (.slice a n c) (e.1.map zV)/\nh h g 3 (.slice b m d) (e.2.map zV))
section
variable {h:aa} {k4 k6:Nat}
theorem AS.grow{x:List Int}{a:aa}(s:AS h k4 k6 x p g)(o:Ok g a):AS h k4 k6 x p a:=by
 obtain⟨e,d,f,c,b,r⟩:=s;exact⟨e,d,f,c,(b.grow o).1,r⟩
theorem cK(a:Option Addr)(n c:Nat):(Value.slice a n c).cells = #[.slice a n c]:=by cases a<;>rfl
theorem AS.ret(w:Wf h){x y:List Int}{g:aa}(s:AS h k4 k6 x y g)(b:Bool)(Q:VH)(A:∀(a:Option Addr) (n c:Nat) (e:Option Addr) (m d:Nat) (k:aa),Ok h k->nh h k 3 (.slice a n c) (x.map zV)->nh h k 3 (.slice e m d) (y.map zV)->Q (.tuple ⟨[.agg ⟨[.slice a n c,.slice e m d]⟩,.bool b]⟩) k):xA (ae SS.P 175 g (pA k6)) λq=>xU (aj SS.P 175 (pA k4) (.agg ⟨q⟩) g) g λz l=>dq SS [((pA k4),some 175),((.bool b),none)] l Q:=by
 obtain⟨D,C,B,u,o,t,r⟩:=s;obtain⟨a,c,rfl⟩:=t.oa;obtain⟨e,d,rfl⟩:=r.oa;obtain⟨f,_⟩:=o.kJ w 0 rfl (bT (.slice a (x.map zV).length c) (.slice e (y.map zV).length d));have v:aj SS.P 175 (pA k4) (.agg ⟨[.slice a (x.map zV).length c,.slice e (y.map zV).length d]⟩) g=some (undef,.set k4 (bT (.slice a (x.map zV).length c) (.slice e (y.map zV).length d))):=dM ur rfl (o.get 0 rfl) rfl (by simp[bw]);refine⟨_,bT.all (o.get 1 rfl),_,v,?_⟩;refine vp (bT.all (f.get 0 rfl)) (A a _ c e _ d _ f.ok ⟨B,t,λp j=>?_⟩ ⟨u,r,λp j=>?_⟩)
 ·exact⟨f.IY (i:=2) rfl p j,f.PH (i:=2) rfl p j⟩
 ·exact⟨f.IY (i:=3) rfl p j,f.PH (i:=3) rfl p j⟩
theorem HM(w:Wf h)(dv ov:List Value){r:Option sL}{x y:List Int}{g:aa}(s:AS h k4 k6 x y g)(D:iD x y=r):LL SS cm [1,1,1,1,0,0,0] [(pA k4),(pA k6)] g (KK SS cm [1,1,1,1,0,0] [] (EE SS cm (aaK h r))):=by
 refine vh dv ov k4 k6 (λmz _ g=>∃x y,AS h k4 k6 x y g/\iD x y=r/\mz=x.length) _ (λx5 z=>?_) x.length (z:=()) ⟨x,y,s,D,rfl⟩;clear s D x y g;intro zz g W;obtain⟨x,y,s,D,rfl⟩:=W;have S:=s;obtain⟨vl,vr,Gl,Z,o,N,H⟩:=s;have x1:=N.oa;have x0:=H.oa;obtain⟨a,c,rfl⟩:=x1;obtain⟨b,d,rfl⟩:=x0;refine⟨_,lP _ _,_,_,_,bT.l0 (o.get 1 rfl),ah (λq=>?_) (λq=>?_)⟩
 ·have q:=dT q;refine⟨_,lQ _ _,_,_,_,bT.l1 (o.get 1 rfl),ah (λl=>?_) (λl=>?_)⟩
  ·have l:=dT l
   cases x with
   |nil=>simp at q
   |cons u x=>
   cases y with
   |nil=>simp at l
   |cons v y=>
   obtain⟨F,_⟩:=o.grow ((Ok.refl o.ok.wf).room 9);have s1:=S.grow ((Ok.refl o.ok.wf).room 9);generalize Go.Ab.room g 9=g1 at*;obtain⟨p1,i1,i2⟩:=zat (N.rd F (i:=2) rfl) (i:=0) (z:=u) rfl;obtain⟨p2,j1,j2⟩:=zat (H.rd F (i:=3) rfl) (i:=0) (z:=v) rfl;refine⟨_,lP _ _,_,_,_,bT.l0 (F.get 1 rfl),_,i1,_,i2,_,lQ _ _,_,_,_,bT.l1 (F.get 1 rfl),_,j1,_,j2,ah (λj=>?_) (λj=>?_)⟩
   ·have j:u≠v:=by simpa using j
    refine s1.ret w false _ λa n c B m d V I _ _=>⟨I,.inl ⟨?_,_,_,_,_,_,_,rfl⟩⟩
    rw[<-D,iD,if_neg j]
   ·have j:u=v:=by simpa using j
    obtain⟨C,_⟩:=F.grow ((Ok.refl F.ok.wf).room 10);generalize Go.Ab.room g1 10=Y at*;obtain⟨A,p,f,t1,x2⟩:=dw.tail (x:=zV u) (vs:=x.map zV) cO wM N (C.PH (i:=2) rfl);obtain⟨B,K,J,M,L⟩:=dw.tail (x:=zV v) (vs:=y.map zV) cO wM H (C.PH (i:=3) rfl);obtain⟨G,_⟩:=C.kJ w 1 rfl (bT (.slice A p f) (.slice b ((v::y).map zV).length d));have U:aj SS.P 27 (.pointer (some ⟨k6,0+0,none⟩)) (.slice A p f) Y=some (undef,.set k6 (bT (.slice A p f) (.slice b ((v::y).map zV).length d))):=bG ej (C.get 1 rfl) (by simp) (aV ..) (cK ..);refine⟨_,lP _ _,_,_,_,bT.l0 (C.get 1 rfl),_,_,_,t1,_,lQ _ _,_,_,_,bT.l1 (C.get 1 rfl),_,_,_,M,_,lP _ _,_,U,?_⟩;generalize (bp.set k6 (bT (.slice A p f) (.slice b ((v::y).map zV).length d))).app Y=T at*;have G:OL h T (aL k4 k6 (.slice A p f) (.slice b ((v::y).map zV).length d) Gl Z):=G;obtain⟨o4,_⟩:=G.kJ w 1 rfl (bT (.slice A p f) (.slice B K J));have x3:aj SS.P 27 (.pointer (some ⟨k6,0+1,none⟩)) (.slice B K J) T=some (undef,.set k6 (bT (.slice A p f) (.slice B K J))):=bG ej (G.get 1 rfl) (by simp) (aV ..) (cK ..);obtain⟨b2,m2,d2,t3,x4⟩:=dw.tail (x:=zV v) (vs:=y.map zV) cO wM H (G.PH (i:=3) rfl);have et:bE SS.P 27 (.slice b ((v::y).map zV).length d) (some (.int .i64 1)) none none T=some (.slice B K J):=by
     obtain⟨_,⟨_,hh,_⟩|⟨k,E,cs,f,Q,hG,_,_,e⟩⟩:=H
     ·cases hh
     ·have k1:=C.PH (i:=3) rfl (k,.cells cs 3 1 true) (by rw[hG];exact mem_singleton.2 rfl);have k2:=G.PH (i:=3) rfl (k,.cells cs 3 1 true) (by rw[hG];exact mem_singleton.2 rfl);injection Q with Q hv2 X
      rw[du]at e;rw[<-X]at e;rw[Q]at M⊢;rw[<-M];have a1:=uo (P:=SS.P) (t:=27) cO wM (k:=k) (off:=E) (n:=((v::y).map zV).length) (c:=d) (z:=1) k1 (by simp) e;have a2:=uo (P:=SS.P) (t:=27) cO wM (k:=k) (off:=E) (n:=((v::y).map zV).length) (c:=d) (z:=1) k2 (by simp) e;exact a2.trans a1.symm
    refine⟨_,lQ _ _,_,x3,⟨et,U5 L⟩,?_⟩;refine cG (a:=()) x.length (by simp) ⟨x,y,⟨_,_,Gl,Z,o4,x2,L⟩,?_,rfl⟩;rw[<-D,j,iD,if_pos rfl]
  ·have l:=dF l;have hy:y=[]:=eq_nil_of_length_eq_zero (by rw[lM]at l;omega);refine S.ret w true _ λa n c B m d V I O R=>⟨I,.inr ⟨(x,y),_,_,_,_,_,_,?_,rfl,O,R⟩⟩
   rw[<-D,hy]
   cases x<;>rfl
 ·have q:=dF q;have hx:x=[]:=eq_nil_of_length_eq_zero (by rw[lM]at q;omega);refine S.ret w true _ λa n c B m d V I O R=>⟨I,.inr ⟨(x,y),_,_,_,_,_,_,?_,rfl,O,R⟩⟩
  rw[<-D,hx];rfl
def aex(e k4 k6:Nat)(g:aa)(Q:VH):Prop:=xP (af SS.P 116 (pA e) 2) λo=>xI .i64 (ae SS.P 3 g (.pointer (some o))) λs=>aS (decide ((s:Int)>0)) (xP (af SS.P 175 (pA k6) 1) λq=>xL (ae SS.P 27 g (.pointer (some q))) λc m r=>xP (af SS.P 116 (pA e) 2) λf=>xI .i64 (ae SS.P 3 g (.pointer (some f))) λj=>xR (az SS.P 27 1 [(0,(.int .i64 j))]) g λv l d b=>xE (aJ SS.P 27 27 (.slice c m r) (sA (g.next) l d) b) b λp h i u a=>xP (af SS.P 175 (pA k6) 1) λk=>xU (aj SS.P 27 (.pointer (some k)) (.slice p h i) a) a λt n=>LL SS cm [1,1,1,1,0,0,0] [(pA k4),(pA k6)] n (KK SS cm [1,1,1,1,0,0] [] (EE SS cm Q))) (LL SS cm [1,1,1,1,0,0,0] [(pA k4),(pA k6)] g (KK SS cm [1,1,1,1,0,0] [] (EE SS cm Q)))
theorem DM(w:Wf h)(v A:List Value){m:Mv}(T:0<=m.r){z:Nat}{r:Option sL}{x y:List Int}{g:aa}(F:g.get z=some (iP m))(s:AS h k4 k6 x y g)(P:y.length<=1000000000)(G:iD x (y++opt m.r [])=r):aex z k4 k6 g (aaK h r):=by
 have R:=s;obtain⟨S,Q,t,I,o,k,i⟩:=s;have C:=k.oa;have B:=i.oa;obtain⟨a,c,rfl⟩:=C;obtain⟨b,d,rfl⟩:=B;refine⟨_,FF _,_,iP.l2 F,ah (λq=>?_) (λq=>?_)⟩
 ·have q:=dT q;have N:=aI g (.cells [zV m.r] 3 1 true);obtain⟨H,_⟩:=o.grow ((Ok.refl o.ok.wf).push (.cells [zV m.r] 3 1 true));refine⟨_,lQ _ _,_,_,_,bT.l1 (o.get 1 rfl),_,FF _,_,iP.l2 F,_,_,_,tG _,?_⟩;change xE (aJ SS.P 27 27 (.slice b (y.map zV).length d) (sA g.next 1 1) (g.push (.cells [zV m.r] 3 1 true))) (g.push (.cells [zV m.r] 3 1 true)) _;generalize g.push (.cells [zV m.r] 3 1 true)=L at*;obtain⟨p,n,l,u,M,O,E,f,e,_⟩:=i.snoc cO rk lj M6 w H (j:=3) rfl (x:=zV m.r) rfl N (by rw[jd,lM];omega) (by rw[lM];omega);refine⟨_,_,_,_,M,?_⟩;generalize u.app L=D at*;have e:OL h D (aL k4 k6 (.slice a (x.map zV).length c) (.slice b (y.map zV).length d) t E):=e;obtain⟨J,_⟩:=e.kJ w 1 rfl (bT (.slice a (x.map zV).length c) (.slice p n l));have K:aj SS.P 27 (.pointer (some ⟨k6,0+1,none⟩)) (.slice p n l) D=some (undef,.set k6 (bT (.slice a (x.map zV).length c) (.slice p n l))):=bG ej (e.get 1 rfl) (by simp) (aV ..) (cK ..);refine⟨_,lQ _ _,_,K,?_⟩;refine HM w v A (x:=x) (y:=y++opt m.r []) ⟨_,_,t,E,J,k,?_⟩ G;rw[Ho,if_neg (by omega)];exact f
 ·have q:=dF q;refine HM w v A (x:=x) (y:=y++opt m.r []) ⟨_,_,t,I,o,k,?_⟩ G;rw[Ho,if_pos (by omega)];exact i
theorem Pt(w:Wf h){a:Option Addr}{n c:Nat}{b:Option Addr}{N M:Nat}{d:sL}{m:Mv}(r1:Rd h 3 (.slice a n c) (d.1.map zV))(r2:Rd h 3 (.slice b N M) (d.2.map zV))(W:0<=m.l)(hr:0<=m.r)(z1:d.1.length<=1000000000)(z2:d.2.length<=1000000000):FW SS 113 [.agg ⟨[.slice a n c,.slice b N M]⟩,.agg ⟨rX m⟩] h (aaK h (zF d m)):=by
 refine Ps _ _ h _ ⟨_,KZ ..,_,AN m,_,R7,?_⟩;have e1:=(Ok.refl w).push (bT (.slice a n c) (.slice b N M));have H:=aI h (bT (.slice a n c) (.slice b N M));have n1:(h.push (bT (.slice a n c) (.slice b N M))).next=h.next+1:=rfl;generalize h.push (bT (.slice a n c) (.slice b N M))=O at*;have e2:=(Ok.refl e1.wf).push (iP m);have b2:=aI O (iP m);have H:=e2.ext _ _ H;have n2:(O.push (iP m)).next=O.next+1:=rfl;have x0:=e1.trans e2;generalize O.push (iP m)=o at*;have R:=(Ok.refl e2.wf).push (bT nA nA);have b4:=aI o (bT nA nA);have H:=R.ext _ _ H;have b2:=R.ext _ _ b2;have n3:(o.push (bT nA nA)).next=o.next+1:=rfl;have t:=x0.trans R;generalize o.push (bT nA nA)=f at*;have G:=(Ok.refl R.wf).room 9;have n4:(Go.Ab.room f 9).next=f.next+9:=rfl;refine⟨_,lP _ _,_,_,_,bT.l0 (G.ext _ _ H),(AY G.wf (r1.ok (t.trans G)) z1).mono ?_⟩;rintro v5 Y ⟨⟨s,U,pl⟩,P⟩;obtain⟨D,E,rfl⟩:=U.oa;have x2:=(t.trans G).trans P;refine⟨_,_,_,rfl,_,lQ _ _,_,_,_,bT.l1 (P.ext _ _ (G.ext _ _ H)),(AY P.wf (r2.ok x2) z2).mono ?_⟩;rintro v6 C ⟨⟨r,T,pr⟩,X⟩;obtain⟨v,z,rfl⟩:=T.oa;have n5:=P.nx;have n6:=X.nx;refine⟨_,_,_,rfl,_,aaY ..,_,R7,?_⟩;have x4:aw C f.next [(7,bT nA nA)]=C.set (f.next+7) (bT nA nA):=rfl;dsimp only;rw[x4];have Q:∀k B,f.get k=some B->(C.set (f.next+7) (bT nA nA)).get k=some B:=λk B l=>by
  have:=R.wf _ _ l;rw[aa.ay,if_neg (by omega)];exact X.ext _ _ (P.ext _ _ (G.ext _ _ l))
 have x9:Ok h (C.set (f.next+7) (bT nA nA)):=(x2.trans X).set _ (by have:=t.nx;omega) (by omega) w;have gs:(C.set (f.next+7) (bT nA nA)).get (f.next+7)=some (bT nA nA):=by rw[aa.ay,if_pos rfl]
 have A:∀p∈s,f.next+9<=p.1/\(C.set (f.next+7) (bT nA nA)).get p.1=some p.2/\p.1<Y.next:=λp g=>by
  have i:=(pl p g).1;have h2:=(pl p g).2;refine⟨by omega,?_,P.wf _ _ h2⟩;rw[aa.ay,if_neg (by omega)];exact X.ext _ _ h2
 have J:∀p∈r,Y.next<=p.1/\(C.set (f.next+7) (bT nA nA)).get p.1=some p.2:=λp g=>by
  have i:=(pr p g).1;refine⟨i,?_⟩;rw[aa.ay,if_neg (by omega)];exact(pr p g).2
 have x5:=Q _ _ b2;have x8:=Q _ _ b4;generalize C.set (f.next+7) (bT nA nA)=V at*;have st:aj SS.P 175 (pA (f.next+7)) (.agg ⟨[.slice D (d.1.map zV).length E,.slice v (d.2.map zV).length z]⟩) V=some (undef,.set (f.next+7) (bT (.slice D (d.1.map zV).length E) (.slice v (d.2.map zV).length z))):=dM ur rfl gs rfl (by simp[bw]);have y2:f.next=o.next+1:=n3;have o7:OL h V (aL o.next (f.next+7) nA nA s r):=by
  refine⟨x9,?_,λk l=>?_,λp g=>?_⟩
  ·have e:keys (aL o.next (f.next+7) nA nA s r)=o.next::(f.next+7)::(s.map (·.1)++r.map (·.1)):=by unfold keys aL;simp
   rw[e];have W:∀k∈s.map (·.1),f.next+9<=k/\k<Y.next:=λk l=>by
    obtain⟨p,g,rfl⟩:=mem_map.1 l;exact⟨(A p g).1,(A p g).2.2⟩
   have S:∀k∈r.map (·.1),Y.next<=k:=λk l=>by
    obtain⟨p,g,rfl⟩:=mem_map.1 l;exact(J p g).1
   refine nodup_cons.2 ⟨λK=>?_,nodup_cons.2 ⟨λK=>?_,List.nodup_append.2 ⟨U.nd,T.nd,λx hx y hy e=>?_⟩⟩⟩
   ·rcases mem_cons.1 K with i|i
    ·omega
    ·rcases mem_append.1 i with i|i
     ·have:=W _ i;omega
     ·have:=S _ i;omega
   ·rcases mem_append.1 K with i|i
    ·have:=W _ i;omega
    ·have:=S _ i;omega
   ·have:=W _ hx;have:=S _ hy;omega
  ·have e:keys (aL o.next (f.next+7) nA nA s r)=o.next::(f.next+7)::(s.map (·.1)++r.map (·.1)):=by unfold keys aL;simp
   rw[e]at l;rcases mem_cons.1 l with rfl|l
   ·have:=x0.nx;omega
   ·rcases mem_cons.1 l with rfl|l
    ·have:=t.nx;omega
    ·rcases mem_append.1 l with l|l
     ·obtain⟨p,g,rfl⟩:=mem_map.1 l;have:=(A p g).1;have:=t.nx;omega
     ·obtain⟨p,g,rfl⟩:=mem_map.1 l;have:=(J p g).1;have:=t.nx;omega
  ·unfold aL at g;simp only[List.flatten_cons,List.flatten_nil,append_nil,List.cons_append,List.nil_append,mem_cons,mem_append]at g;rcases g with rfl|rfl|g|g
   ·exact x8
   ·exact gs
   ·exact(A p g).2.1
   ·exact(J p g).2
 have m7:Im V (aL o.next (f.next+7) nA nA s r) O.next (iP m):=by
  refine⟨x5,λK=>?_⟩;have e:keys (aL o.next (f.next+7) nA nA s r)=o.next::(f.next+7)::(s.map (·.1)++r.map (·.1)):=by unfold keys aL;simp
  rw[e]at K;rcases mem_cons.1 K with i|i
  ·omega
  ·rcases mem_cons.1 i with i|i
   ·omega
   ·rcases mem_append.1 i with i|i
    ·obtain⟨p,g,i⟩:=mem_map.1 i;have:=(A p g).1;omega
    ·obtain⟨p,g,i⟩:=mem_map.1 i;have:=(J p g).1;omega
 obtain⟨L,c8⟩:=o7.kJ w 1 rfl (bT (.slice D (d.1.map zV).length E) (.slice v (d.2.map zV).length z));refine⟨_,st,⟨bT.l1 (G.ext _ _ H),Ce r2⟩,?_⟩;generalize (bp.set (f.next+7) (bT (.slice D (d.1.map zV).length E) (.slice v (d.2.map zV).length z))).app V=F at*;have L:OL h F (aL o.next (f.next+7) (.slice D (d.1.map zV).length E) (.slice v (d.2.map zV).length z) s r):=L;have Z:Im F (aL o.next (f.next+7) (.slice D (d.1.map zV).length E) (.slice v (d.2.map zV).length z) s r) O.next (iP m):=c8 _ _ m7;refine⟨_,FE _,_,iP.l1 Z.1,ah (λq=>?_) (λq=>?_)⟩
 ·have q:=dT q;have k3:=aI F (.cells [zV m.l] 3 1 true);obtain⟨o9,c9⟩:=L.grow ((Ok.refl L.ok.wf).push (.cells [zV m.l] 3 1 true));refine⟨_,lP _ _,_,_,_,bT.l0 (L.get 1 rfl),_,FE _,_,iP.l1 Z.1,_,_,_,tG _,?_⟩;change xE (aJ SS.P 27 27 (.slice D (d.1.map zV).length E) (sA F.next 1 1) (F.push (.cells [zV m.l] 3 1 true))) (F.push (.cells [zV m.l] 3 1 true)) _;generalize F.push (.cells [zV m.l] 3 1 true)=g9 at*;obtain⟨b',n',c',u,p1,p2,G',x3,I,y1⟩:=U.snoc cO rk lj M6 w o9 (j:=2) rfl (x:=zV m.l) rfl k3 (by rw[jd,lM];omega) (by rw[lM];omega);refine⟨_,_,_,_,p1,?_⟩;generalize u.app g9=x1 at*;have I:OL h x1 (aL o.next (f.next+7) (.slice D (d.1.map zV).length E) (.slice v (d.2.map zV).length z) G' r):=I;have x7:=y1 _ _ (c9 _ _ Z);obtain⟨x6,y0⟩:=I.kJ w 1 rfl (bT (.slice b' n' c') (.slice v (d.2.map zV).length z));have st:aj SS.P 27 (.pointer (some ⟨f.next+7,0+0,none⟩)) (.slice b' n' c') x1=some (undef,.set (f.next+7) (bT (.slice b' n' c') (.slice v (d.2.map zV).length z))):=bG ej (I.get 1 rfl) (by simp) (aV ..) (cK ..);refine⟨_,lP _ _,_,st,?_⟩;refine DM w [] [] hr (y0 _ _ x7).1 (x:=d.1++opt m.l []) ⟨_,_,G',r,x6,?_,T⟩ z2 rfl;rw[Ho,if_neg (by omega)];exact x3
 ·have q:=dF q;refine DM w [] [] hr Z.1 (x:=d.1++opt m.l []) ⟨_,_,s,r,L,?_,T⟩ z2 rfl;rw[Ho,if_pos (by omega)];exact U
end
end
variable{z:Int}{X:Sx}{w:Value}{Q:VH}
section
def zp(m:Mv)(p:Option Addr):bu:= .cells (rX m++[.pointer p]) 118 0 true
inductive nR(I:Nat->bu->Prop):Option Addr->List Mv->Prop
 |nil:nR I none []
 |cons {k:Nat} {p:Option Addr} {m:Mv} {ms:List Mv} (h:I k (zp m p)) (r:nR I p ms):nR I (some ⟨k,0,none⟩) (m::ms)
theorem nR.mono{I I':Nat->bu->Prop}(b:∀k B,I k B->I' k B){p:Option Addr}{a:List Mv}(r:nR I p a):nR I' p a:=by
 induction r with
 |nil=>exact .nil
 |cons h _ c=>exact .cons (b _ _ h) c
def Qh(m:Mv):Prop:=0<=m.i/\0<=m.l/\0<=m.r
theorem GD(c:Int):(opt c []).reverse=opt c []:=by unfold opt;split<;>rfl
theorem Wk:∀a:List Mv,wI a.reverse=(wI a).reverse
 |[]=>rfl
 |m::a=>by
  rw[List.reverse_cons,Ng,Wk a];show _++opt m.i []=(opt m.i (wI a)).reverse;rw[lX m.i (wI a),reverse_append,GD]
theorem Wm:∀a:List Mv,wL a.reverse=(wL a).reverse
 |[]=>rfl
 |m::a=>by
  rw[List.reverse_cons,CB,Wm a];show _++opt m.l []=(opt m.l (wL a)).reverse;rw[lX m.l (wL a),reverse_append,GD]
theorem Wn:∀a:List Mv,wR a.reverse=(wR a).reverse
 |[]=>rfl
 |m::a=>by
  rw[List.reverse_cons,CC,Wn a];show _++opt m.r []=(opt m.r (wR a)).reverse;rw[lX m.r (wR a),reverse_append,GD]
theorem dK(f:Mv->Int):∀a:List Mv,(a.foldr (λm x=>opt (f m) x) []).length<=a.length
 |[]=>Nat.le_refl _
 |m::a=>by
  have:=dK f a;rw[List.foldr_cons];unfold opt at this⊢;split
  ·rw[length_cons];omega
  ·rw[length_cons,length_cons];omega
theorem OJ:SS.P.underlying 112=some (.pointer 118):=by kernel_rfl
theorem Nv:Go.Ab.isAgg SS.P 112=false:=by kernel_rfl
theorem aec:SS.P.underlying 186=some (.pointer 27):=by kernel_rfl
theorem acy:Go.Ab.isAgg SS.P 186=false:=by kernel_rfl
theorem aby(a:Option Addr):ax SS.P .neq 112 (.pointer a) (.pointer none)=some (.bool !a.isNone):=by cases a<;>kernel_rfl
theorem FG(k:Nat):af SS.P 118 (.pointer (some ⟨k,0,none⟩)) 0=some (.pointer (some ⟨k,0,none⟩)):=by kernel_rfl
theorem Yc(k:Nat):af SS.P 118 (.pointer (some ⟨k,0,none⟩)) 1=some (.pointer (some ⟨k,3,none⟩)):=by kernel_rfl
theorem Yb(k:Nat):af SS.P 116 (.pointer (some ⟨k,0,none⟩)) 0=some (.pointer (some ⟨k,0,none⟩)):=by kernel_rfl
section
variable {g:aa} {k:Nat} {m:Mv} {p:Option Addr}
theorem zp.l0(h:g.get k=some (zp m p)):ae SS.P 3 g (.pointer (some ⟨k,0,none⟩))=some (.int .i64 m.i):=aR lC lB h (by simp[rX])
theorem zp.l1(h:g.get k=some (zp m p)):ae SS.P 3 g (.pointer (some ⟨k,1,none⟩))=some (.int .i64 m.l):=aR lC lB h (by simp[rX])
theorem zp.l2(h:g.get k=some (zp m p)):ae SS.P 3 g (.pointer (some ⟨k,2,none⟩))=some (.int .i64 m.r):=aR lC lB h (by simp[rX])
theorem zp.l3(h:g.get k=some (zp m p)):ae SS.P 112 g (.pointer (some ⟨k,3,none⟩))=some (.pointer p):=aR OJ Nv h (by simp[rX])
end
theorem KV(n:Int)(k:Nat):aD SS.P 187 [(0,(.int .i64 n)),(1,(pA k))]=some (.agg ⟨[.int .i64 n,pA k]⟩):=by kernel_rfl
theorem aaZ(a b c:Int)(x y z:Nat):aD SS.P 188 [(0,(.agg ⟨[.int .i64 a,pA x]⟩)),(1,(.agg ⟨[.int .i64 b,pA y]⟩)),(2,(.agg ⟨[.int .i64 c,pA z]⟩))]=some (.agg ⟨[.int .i64 a,pA x,.int .i64 b,pA y,.int .i64 c,pA z]⟩):=by kernel_rfl
theorem Yp(a b c:Int)(x y z:Nat):bH SS.P 188 (.agg ⟨[.int .i64 a,pA x,.int .i64 b,pA y,.int .i64 c,pA z]⟩) (iA 0)=some (.agg ⟨[.int .i64 a,pA x]⟩):=by kernel_rfl
theorem Yq(a b c:Int)(x y z:Nat):bH SS.P 188 (.agg ⟨[.int .i64 a,pA x,.int .i64 b,pA y,.int .i64 c,pA z]⟩) (iA 1)=some (.agg ⟨[.int .i64 b,pA y]⟩):=by kernel_rfl
theorem Yr(a b c:Int)(x y z:Nat):bH SS.P 188 (.agg ⟨[.int .i64 a,pA x,.int .i64 b,pA y,.int .i64 c,pA z]⟩) (iA 2)=some (.agg ⟨[.int .i64 c,pA z]⟩):=by kernel_rfl
def uO(n:Int)(k:Nat):bu:= .cells [.int .i64 n,pA k] 187 0 true
def OO:bu:= .cells [.int .i64 0,.pointer none] 187 0 true
theorem acI:aA SS.P 187=some (OO,dR):=by kernel_rfl
theorem abZ:au SS.P 187=some 2:=by kernel_rfl
theorem NM(k:Nat):af SS.P 187 (.pointer (some ⟨k,0,none⟩)) 0=some (.pointer (some ⟨k,0,none⟩)):=by kernel_rfl
theorem NO(k:Nat):af SS.P 187 (.pointer (some ⟨k,0,none⟩)) 1=some (.pointer (some ⟨k,1,none⟩)):=by kernel_rfl
theorem uO.l0{g:aa}{k:Nat}(h:g.get k=some (uO z n)):ae SS.P 3 g (.pointer (some ⟨k,0,none⟩))=some (.int .i64 z):=aR lC lB h (by simp)
theorem uO.l1{g:aa}{k:Nat}(h:g.get k=some (uO z n)):ae SS.P 186 g (.pointer (some ⟨k,1,none⟩))=some (pA n):=aR aec acy h (by simp)
theorem S6{a b c:Value}{t d:TypeId}{j:Value}{h:aa}(f:ae X.P t h a=some v)(i:ae X.P T h b=some w)(e:ae X.P d h c=some j)(g:Q (.tuple ⟨[v,w,j]⟩) h):dq X [(a,some t),(b,some T),(c,some d)] h Q:=by
 unfold dq;simp only[JH,f,i,e];exact g
section
variable {h:aa}
def jh(k:Nat)(v:Value):cC:=[(k,.cells [v] 27 0 true)]
theorem Wo(w:Wf h){g:aa}{L:List cC}(o:OL h g L){s q:Nat}{v:Value}{G:cC}{x:List Int}(F:L[s]?=some (jh q v))(T:L[s+3]?=some G)(r:dw 3 v (x.map zV) G)(V:x.length<=1000000000)(c:Int):
  ∃(a:Option Addr)(n cc:Nat),ae SS.P 27 (Go.Ab.room g 12) (pA q)=some (.slice a n cc)/\∃(b:Option Addr)(f d:Nat)(u:bp),aJ SS.P 27 27 (.slice a n cc) (sA (g.next+8) 1 1) (aw (Go.Ab.room g 12) g.next [(8,.cells [.int .i64 c] 3 1 true)])=some (.slice b f d,u)/\eU g L (u.app (aw (Go.Ab.room g 12) g.next [(8,.cells [.int .i64 c] 3 1 true)])) (L.set (s+3) [])/\
   ∃C:bp,aj SS.P 27 (pA q) (.slice b f d) (u.app (aw (Go.Ab.room g 12) g.next [(8,.cells [.int .i64 c] 3 1 true)]))=some (undef,C)/\∃t,dw 3 (.slice b f d) ((x++[c]).map zV) t/\OL h (C.app (u.app (aw (Go.Ab.room g 12) g.next [(8,.cells [.int .i64 c] 3 1 true)]))) ((L.set (s+3) t).set s (jh q (.slice b f d))):=by
 obtain⟨a,cc,rfl⟩:=r.oa;have Q:=(o.grow ((Ok.refl o.ok.wf).room 12)).1;refine⟨a,_,cc,aR cO gM (Q.get s F) (by simp),?_⟩;obtain⟨H,N,J⟩:=o.Ly (n:=12) (j:=8) (by omega) (.cells [.int .i64 c] 3 1 true);generalize aw (Go.Ab.room g 12) g.next [(8,.cells [.int .i64 c] 3 1 true)]=E at*;obtain⟨b,f,d,u,S,U,t,A,D,P⟩:=r.snoc cO rk lj M6 w H T (x:= .int .i64 c) rfl J.1 (by rw[jd,lM];omega) (by rw[lM];omega);have O:eU E L (u.app E) (L.set (s+3) []):=λk B m=>by
  have:=P k B m;refine⟨this.1,λI=>this.2 ?_⟩;obtain⟨p,R,rfl⟩:=mem_map.1 I;obtain⟨X,M,y⟩:=List.mem_flatten.1 R;refine mem_keys (List.mem_flatten.2 ⟨X,?_,y⟩);obtain⟨j,l⟩:=getElem?_of_mem M;rw[getElem?_set]at l;by_cases e:s+3=j
  ·rw[if_pos e]at l;split at l
   ·obtain rfl:=oI l;cases y
   ·cases l
  ·rw[if_neg e]at l;exact List.mem_of_getElem? (i:=j) (by rw[getElem?_set,if_neg e];exact l)
 refine⟨b,f,d,u,S,N.trans O,?_⟩;have z:(L.set (s+3) t)[s]?=some (jh q (.slice a (x.map zV).length cc)):=by rw[getElem?_set,if_neg (by omega)];exact F
 obtain⟨K,_⟩:=D.kJ w s z (.cells [.slice b f d] 27 0 true);exact⟨_,bG ej (D.get s z) (by simp) (aV ..) (cK ..),t,by rw[map_append];exact A,K⟩
def afg(e i f:Nat)(c a d:Value)(b h g:cC):List cC:=[jh e c,jh i a,jh f d,b,h,g]
def WS(h:aa)(i k j:Nat)(x y z:List Int)(g:aa):Prop:=∃c a d b f e,OL h g (afg i k j c a d b f e)/\dw 3 c (x.map zV) b/\dw 3 a (y.map zV) f/\dw 3 d (z.map zV) e
theorem WS.grow{x y z:List Int}{g a:aa}(s:WS h n i j x y z g)(o:Ok g a):WS h n i j x y z a:=by
 obtain⟨e,b,f,c,l,k,d,r⟩:=s;exact⟨e,b,f,c,l,k,(d.grow o).1,r⟩
def acn(h:aa)(x y z:List Int):VH:=λv g=>Ok h g/\∃(a:Option Addr)(n c:Nat)(j:Option Addr)(i f:Nat)(d:Option Addr)(b e:Nat),v = .tuple ⟨[.slice a n c,.slice j i f,.slice d b e]⟩/\nh h g 3 (.slice a n c) (x.map zV)/\nh h g 3 (.slice j i f) (y.map zV)/\nh h g 3 (.slice d b e) (z.map zV)
def nq(i j:Nat)(c:Int):List Int:=if j<i then opt c []else[]
theorem Kj(w:Wf h){t:Option Addr}{F:List Mv}(M:nR (λk B=>h.get k=some B) t F)(nn:∀m∈F,Qh m)(hl:F.length<=1000000):FW SS 68 [.pointer t] h (acn h (wI F.reverse) (wL F.reverse) (wR F.reverse)):=by
 refine M9 t h _ ⟨_,HP,_,HP,_,HP,?_⟩;obtain⟨N,_⟩:=(OL.nil (Ok.refl w)).push (.cells [nA] 27 0 true);have n1:(h.push (.cells [nA] 27 0 true)).next=h.next+1:=rfl;generalize h.push (.cells [nA] 27 0 true)=g1 at*;obtain⟨o2,_⟩:=N.push (.cells [nA] 27 0 true);generalize g1.push (.cells [nA] 27 0 true)=d at*;obtain⟨o3,_⟩:=o2.push (.cells [nA] 27 0 true);generalize d.push (.cells [nA] 27 0 true)=g3 at*;obtain⟨H,_⟩:=o3.cW 3;generalize h.next=j at*;generalize g1.next=r at*;generalize d.next=l at*;have s0:WS h j r l [] [] [] g3:=⟨nA,nA,nA,[],[],[],H,dw.nil 3,dw.nil 3,dw.nil 3⟩
 clear N o2 o3 H n1;refine uu t j r l (λmz t' g=>∃c I,F=c++I/\nR (λk B=>h.get k=some B) t' I/\WS h j r l (wI c) (wL c) (wR c) g/\mz=I.length) _ (λmz t'=>?_) F.length ⟨[],F,rfl,M,s0,rfl⟩;clear s0 M;intro zz g x6;obtain⟨c,I,rfl,M,s,rfl⟩:=x6;refine⟨_,aby t',ah (λq=>?_) (λq=>?_)⟩
 ·cases M with
  |nil=>cases q
  |@cons k p m I hk M=>
  obtain⟨i0,l0,r0⟩:=nn m (by simp);have y6:c.length+I.length<1000000:=by rw[length_append,length_cons]at hl;omega
  have sR:=s.grow ((Ok.refl (by obtain⟨_,_,_,_,_,_,o,_⟩:=s;exact o.ok.wf)).room 20);generalize Go.Ab.room g 20=g1 at*;have O:∀{g:aa}{x y z:List Int},WS h j r l x y z g->g.get k=some (zp m p):=λ{g} {x y z} s=>by
   obtain⟨_,_,_,_,_,_,o,_⟩:=s;exact o.ok.ext _ _ hk
  refine gi ⟨_,FG _,_,Yb _,_,zp.l0 (O sR),_,KV _ _,gi ⟨_,FG _,_,FE _,_,zp.l1 (O sR),_,KV _ _,gi ⟨_,FG _,_,FF _,_,zp.l2 (O sR),_,KV _ _,_,aaZ _ _ _ _ _ _,?_⟩⟩⟩;refine uw t (some ⟨k,0,none⟩) j r l _ _ _ (λx2 i g=>i<=3/\x2=3-i/\WS h j r l (wI c++nq i 0 m.i) (wL c++nq i 1 m.l) (wR c++nq i 2 m.r) g) _ (λx2 i=>?_) 3 (i:=0) ⟨by omega,rfl,by unfold nq;simpa using sR⟩;clear sR s;intro y7 d x5;obtain⟨hi,rfl,s⟩:=x5;refine ah (λq2=>?_) (λq2=>?_)
  ·have q2:=dT q2;have x1:i=0\/i=1\/i=2:=by omega
   have bI:=dK Mv.i c;have bL:=dK Mv.l c;have bR:=dK Mv.r c;have bI:(wI c).length<=c.length:=bI;have bL:(wL c).length<=c.length:=bL;have bR:(wR c).length<=c.length:=bR;have x4:∃(L:List cC)(n:Int)(A E:Nat)(v:Value)(G:cC)(x:List Int),OL h d L/\L[E]?=some (jh A v)/\L[E+3]?=some G/\dw 3 v (x.map zV) G/\x.length<=1000000000/\bH SS.P 188 (.agg ⟨[.int .i64 m.i,pA j,.int .i64 m.l,pA r,.int .i64 m.r,pA l]⟩) (iA i)=some (.agg ⟨[.int .i64 n,pA A]⟩)/\0<=n/\
     ∀(K:Value)(D:cC)(Z:aa),dw 3 K ((x++opt n []).map zV) D->OL h Z ((L.set (E+3) D).set E (jh A K))->WS h j r l (wI c++nq (i+1) 0 m.i) (wL c++nq (i+1) 1 m.l) (wR c++nq (i+1) 2 m.r) Z:=by
    obtain⟨v2,v3,v4,G2,G3,G4,o,S,P,X⟩:=s;rcases x1 with rfl|rfl|rfl
    ·refine⟨_,m.i,j,0,v2,G2,wI c,o,rfl,rfl,(by simpa[nq]using S),(by omega),Yp _ _ _ _ _ _,i0,λK D Z f o'=>⟨K,v3,v4,D,G3,G4,o',?_,?_,?_⟩⟩
     ·simpa[nq]using f
     ·simpa[nq]using P
     ·simpa[nq]using X
    ·refine⟨_,m.l,r,1,v3,G3,wL c,o,rfl,rfl,(by simpa[nq]using P),(by omega),Yq _ _ _ _ _ _,l0,λK D Z f o'=>⟨v2,K,v4,G2,D,G4,o',?_,?_,?_⟩⟩
     ·simpa[nq]using S
     ·simpa[nq]using f
     ·simpa[nq]using X
    ·refine⟨_,m.r,l,2,v4,G4,wR c,o,rfl,rfl,(by simpa[nq]using X),(by omega),Yr _ _ _ _ _ _,r0,λK D Z f o'=>⟨v2,v3,K,G2,G3,D,o',?_,?_,?_⟩⟩
     ·simpa[nq]using S
     ·simpa[nq]using P
     ·simpa[nq]using f
   obtain⟨L,n,A,E,v,G,x,o,h1,h2,x3,y4,x8,y8,fin⟩:=x4;refine⟨_,x8,_,acI,?_⟩;have kb:=aI d OO;have eb:Ok d ((bp.set d.next (uO n A)).app (d.push OO)):=((Ok.refl o.ok.wf).push _).set _ (Nat.le_refl _) (Nat.lt_succ_self _) o.ok.wf;have x0:Im ((bp.set d.next (uO n A)).app (d.push OO)) L d.next (uO n A):=o.new (Nat.le_refl _) (by show((d.push _).set _ _).get _=_;rw[aa.ay,if_pos rfl]);have N:=(o.grow eb).1;have st:aj SS.P 187 (pA d.next) (.agg ⟨[.int .i64 n,pA A]⟩) (d.push OO)=some (undef,.set d.next (uO n A)):=dM abZ rfl kb rfl rfl;refine⟨_,st,?_⟩;generalize (bp.set d.next (uO n A)).app (d.push OO)=g3 at*;refine⟨_,NM _,_,uO.l0 x0.1,ah (λY=>?_) (λY=>?_)⟩
   ·have Y:=dT Y;obtain⟨oR,cR⟩:=N.grow ((Ok.refl N.ok.wf).room 12);have mR:=cR _ _ x0;obtain⟨a,n1,cc,l1,b,n',c',u,ap,cg,u',y2,D,f,o5⟩:=Wo w N h1 h2 x3 y4 n;have mA:=cg _ _ x0;refine⟨_,NO _,_,uO.l1 mR.1,_,NO _,_,uO.l1 mR.1,gi ⟨a,n1,cc,l1,_,NM _,_,uO.l0 mR.1,_,_,_,tG _,b,n',c',u,ap,gi ⟨u',y2,⟨uO.l1 mA.1,by simp[df]⟩,?_⟩⟩⟩;rw[oN (n:=3) (by omega) (by omega)];refine cG (3-(i+1)) (by omega) ⟨by omega,rfl,fin _ D _ ?_ o5⟩;rw[ee (by omega)];exact f
   ·have Y:=dF Y;rw[oN (n:=3) (by omega) (by omega)];refine cG (3-(i+1)) (by omega) ⟨by omega,rfl,fin v G _ ?_ ?_⟩
    ·have:n=0:=by omega
     rw[this,bP,append_nil];exact x3
    ·have e1:L.set (E+3) G=L:=List.ext_getElem? λp=>by
      rw[getElem?_set];by_cases e:E+3=p
      ·subst e;rw[if_pos rfl,if_pos (List.getElem?_eq_some_iff.1 h2).1,h2]
      ·rw[if_neg e]
     have e2:L.set E (jh A v)=L:=List.ext_getElem? λp=>by
      rw[getElem?_set];by_cases e:E=p
      ·subst e;rw[if_pos rfl,if_pos (List.getElem?_eq_some_iff.1 h1).1,h1]
      ·rw[if_neg e]
     rw[e1,e2];exact N
  ·have q2:=dF q2;have x1:i=3:=by omega
   subst x1;refine gi ⟨_,Yc _,_,zp.l3 (O s),?_⟩;refine cG I.length (by simp) ⟨c++[m],I,by simp,M,?_,rfl⟩;have e1:wI (c++[m])=wI c++nq 3 0 m.i:=by rw[Ng];rfl
   have e2:wL (c++[m])=wL c++nq 3 1 m.l:=by rw[CB];rfl
   have e3:wR (c++[m])=wR c++nq 3 2 m.r:=by rw[CC];rfl
   rw[e1,e2,e3];exact s
 ·cases M with
  |cons hk M=>cases q
  |nil=>
  rw[append_nil]at hl nn;rw[append_nil];obtain⟨v2,v3,v4,G2,G3,G4,o,S,P,X⟩:=s;obtain⟨Q,W,rfl⟩:=S.oa;obtain⟨T,V,rfl⟩:=P.oa;obtain⟨U,R,rfl⟩:=X.oa;have bI:(wI c).length<=c.length:=dK Mv.i c;have bL:(wL c).length<=c.length:=dK Mv.l c;have bR:(wR c).length<=c.length:=dK Mv.r c;refine⟨_,_,_,aR cO gM (o.get 0 rfl) (by simp),(uj w S o (k:=3) rfl (by omega)).mono ?_⟩;rintro _ d ⟨rfl,x9,x7,o2,_⟩;refine⟨rfl,_,_,_,aR cO gM (o2.get 1 rfl) (by simp),(uj w P o2 (k:=4) rfl (by omega)).mono ?_⟩;rintro _ g3 ⟨rfl,y5,y1,o3,_⟩;refine⟨rfl,_,_,_,aR cO gM (o3.get 2 rfl) (by simp),(uj w X o3 (k:=5) rfl (by omega)).mono ?_⟩;rintro _ g4 ⟨rfl,y3,y0,H,_⟩;have l2:ae SS.P 27 g4 (pA j)=some (.slice Q ((wI c).map zV).length W):=aR cO gM (H.get 0 rfl) (by simp);have l3:ae SS.P 27 g4 (pA r)=some (.slice T ((wL c).map zV).length V):=aR cO gM (H.get 1 rfl) (by simp);have l4:ae SS.P 27 g4 (pA l)=some (.slice U ((wR c).map zV).length R):=aR cO gM (H.get 2 rfl) (by simp);obtain⟨o5,_⟩:=H.kJ w 0 rfl (.cells [.slice Q ((wI c).map zV).length W] 27 0 true);have s5:aj SS.P 27 (pA j) (.slice Q ((wI c).map zV).length W) g4=some (undef,.set j (.cells [.slice Q ((wI c).map zV).length W] 27 0 true)):=bG ej (H.get 0 rfl) (by simp) (aV ..) (cK ..);refine⟨rfl,_,_,_,l2,_,_,_,l3,_,_,_,l4,_,s5,?_⟩;generalize (bp.set j (.cells [.slice Q ((wI c).map zV).length W] 27 0 true)).app g4=g5 at*;obtain⟨o6,_⟩:=o5.kJ w 1 rfl (.cells [.slice T ((wL c).map zV).length V] 27 0 true);have s6:aj SS.P 27 (pA r) (.slice T ((wL c).map zV).length V) g5=some (undef,.set r (.cells [.slice T ((wL c).map zV).length V] 27 0 true)):=bG ej (o5.get 1 rfl) (by simp) (aV ..) (cK ..);refine⟨_,s6,?_⟩;generalize (bp.set r (.cells [.slice T ((wL c).map zV).length V] 27 0 true)).app g5=g6 at*;obtain⟨C,_⟩:=o6.kJ w 2 rfl (.cells [.slice U ((wR c).map zV).length R] 27 0 true);have s7:aj SS.P 27 (pA l) (.slice U ((wR c).map zV).length R) g6=some (undef,.set l (.cells [.slice U ((wR c).map zV).length R] 27 0 true)):=bG ej (o6.get 2 rfl) (by simp) (aV ..) (cK ..);refine⟨_,s7,?_⟩;generalize (bp.set l (.cells [.slice U ((wR c).map zV).length R] 27 0 true)).app g6=g7 at*;rw[Wk,Wm,Wn];refine S6 (aR cO gM (C.get 0 rfl) (by simp)) (aR cO gM (C.get 1 rfl) (by simp)) (aR cO gM (C.get 2 rfl) (by simp)) ⟨C.ok,Q,_,W,T,_,V,U,_,R,rfl,⟨x9,x7,λp J=>⟨C.IY (i:=3) rfl p J,C.PH (i:=3) rfl p J⟩⟩,⟨y5,y1,λp J=>⟨C.IY (i:=4) rfl p J,C.PH (i:=4) rfl p J⟩⟩,⟨y3,y0,λp J=>⟨C.IY (i:=5) rfl p J,C.PH (i:=5) rfl p J⟩⟩⟩
end
end
section
theorem Yd(k:Nat):af SS.P 170 (.pointer (some ⟨k,0,none⟩)) 0=some (.pointer (some ⟨k,0,none⟩)):=by kernel_rfl
theorem FI(k:Nat):af SS.P 170 (.pointer (some ⟨k,0,none⟩)) 1=some (.pointer (some ⟨k,3,none⟩)):=by kernel_rfl
theorem qt.l3{m:Mv}(h:g.get k=some (qt m a)):ae SS.P 168 g (.pointer (some ⟨k,3,none⟩))=some (.pointer a):=aR Ke HN h (by simp[rX])
theorem qt.mv{m:Mv}(h:g.get k=some (qt m a)):ae SS.P 116 g (.pointer (some ⟨k,0,none⟩))=some (.agg ⟨rX m⟩):=gG aaB Z3 VF h (by simp[rX])
theorem KU(m:Mv)(p:Option Addr):aD SS.P 118 [(0,(.agg ⟨rX m⟩)),(1,(.pointer p))]=some (.agg ⟨rX m++[.pointer p]⟩):=by cases p<;>kernel_rfl
theorem KY(m:Mv)(p:Option Addr):dp SS.P 118 (.agg ⟨rX m++[.pointer p]⟩)=some (zp m p,dR):=by cases p<;>kernel_rfl
def Mm(L:List cC)(a b c:Nat)(x y z:Value):List cC:=((L.set 0 (jh a x)).set 1 (jh b y)).set 2 (jh c z)
def abG(h0 g:aa)(L:List cC)(b c d:Nat)(p:List Mv):VH:=λv a=>∃(x y z:Value),v = .bool (!decide (wL p=wR p))/\OL h0 a (Mm L b c d x y z)/\eU g L a (Mm L b c d x y z)/\sM a (Mm L b c d x y z) 3 x ((wI p).map zV)/\sM a (Mm L b c d x y z) 3 y ((wL p).map zV)/\sM a (Mm L b c d x y z) 3 z ((wR p).map zV)
section
variable {h0:aa}
theorem QB(W:Wf h0){g:aa}{L:List cC}(o:OL h0 g L){i h j:Nat}{v0 v1 v2:Value}(c0:L[0]?=some (jh i v0))(c1:L[1]?=some (jh h v1))(c2:L[2]?=some (jh j v2)){t:Option Addr}{z u:List Mv}{C:Nat}(H:nR (Im g L) t z)(G:Au (Im g L) C u)(nn:∀m∈z.reverse++u,Qh m)(F:z.length+u.length<=1000000):FW SS 107 [.pointer t,pA C,pA i,pA h,pA j] g (abG h0 g L i h j (z.reverse++u)):=by
 refine QA t (some ⟨C,0,none⟩) i h j g _ ?_;generalize A:z.reverse++u=p at*;refine vX t (some ⟨C,0,none⟩) i h j (λmz N r' O=>∃I E V,r'=some ⟨V,0,none⟩/\nR (Im O L) N I/\Au (Im O L) V E/\I.reverse++E=p/\I.length+E.length<=1000000/\OL h0 O L/\eU g L O L/\mz=E.length) _ (λmz N r'=>?_) u.length ⟨z,u,C,rfl,H,G,A,F,o,eU.refl _ _,rfl⟩;clear H G A F o z u C t;intro zz g1 Y;obtain⟨z,u,C,rfl,H,G,A,F,o,cg,rfl⟩:=Y
 cases G with
 |@cons _ k' m u J G=>
  refine gi ⟨_,FI _,_,qt.l3 J.1,_,LW _,ah (λ_=>?_) (λq=>by cases q)⟩;refine gi ⟨_,Yd _,_,qt.mv J.1,_,KU _ _,_,KY _ _,?_⟩;have e:=(Ok.refl o.ok.wf).push (zp m N);have mt:=o.fg (zp m N);have c:=(o.grow e).2;have o1:=(o.grow e).1;generalize g1.push (zp m N)=X at*;refine gi ⟨_,FI _,_,qt.l3 (c _ _ J).1,?_⟩;refine ju u.length (by simp) ⟨m::z,u,k',rfl,.cons mt (H.mono c),G.mono c,?_,by simp only[length_cons]at F⊢;omega,o1,cg.trans c,rfl⟩;rw[<-A];simp
 | nil m J=>
  refine gi ⟨_,FI _,_,qt.l3 J.1,_,LW _,ah (λq=>by cases q) (λ_=>?_)⟩;rw[append_nil]at A;refine(Kj o.ok.wf (H.mono λk B m=>m.1) (λx hx=>nn x (by rw[<-A];exact List.mem_reverse.2 hx)) (by simpa using F)).mono ?_;rintro _ X ⟨e2,a,n,c,s,r,l,d,b,f,rfl,r1,r2,Z⟩;rw[A]at r1 r2 Z;have y:=r1.im o;have v:=r2.im o;have w:=Z.im o;have x3:=cg.trans (o.grow e2).2;have o2:=(o.grow e2).1;obtain⟨o3,Q⟩:=o2.kJ W 0 c0 (.cells [.slice a n c] 27 0 true);have s3:aj SS.P 27 (pA i) (.slice a n c) X=some (undef,.set i (.cells [.slice a n c] 27 0 true)):=bG ej (o2.get 0 c0) (by simp) (aV ..) (cK ..);refine⟨_,_,_,_,_,_,_,_,_,rfl,_,s3,?_⟩;have y:=y.cP Q;have v:=v.cP Q;have w:=w.cP Q;have x1:=x3.trans Q;generalize (bp.set i (.cells [.slice a n c] 27 0 true)).app X=g3 at*;have T:(L.set 0 [(i,.cells [.slice a n c] 27 0 true)])[1]?=some (jh h v1):=by rw[getElem?_set,if_neg (by omega)];exact c1
  obtain⟨o4,P⟩:=o3.kJ W 1 T (.cells [.slice s r l] 27 0 true);have s4:aj SS.P 27 (pA h) (.slice s r l) g3=some (undef,.set h (.cells [.slice s r l] 27 0 true)):=bG ej (o3.get 1 T) (by simp) (aV ..) (cK ..);refine⟨_,s4,?_⟩;have y:=y.cP P;have v:=v.cP P;have w:=w.cP P;have x2:=x1.trans P;generalize (bp.set h (.cells [.slice s r l] 27 0 true)).app g3=g4 at*;have U:((L.set 0 [(i,.cells [.slice a n c] 27 0 true)]).set 1 [(h,.cells [.slice s r l] 27 0 true)])[2]?=some (jh j v2):=by rw[getElem?_set,if_neg (by omega),getElem?_set,if_neg (by omega)];exact c2
  obtain⟨D,S⟩:=o4.kJ W 2 U (.cells [.slice d b f] 27 0 true);have s5:aj SS.P 27 (pA j) (.slice d b f) g4=some (undef,.set j (.cells [.slice d b f] 27 0 true)):=bG ej (o4.get 2 U) (by simp) (aV ..) (cK ..);refine⟨_,s5,?_⟩;have y:=y.cP S;have v:=v.cP S;have w:=w.cP S;have M:=x2.trans S;generalize (bp.set j (.cells [.slice d b f] 27 0 true)).app g4=K at*;have D:OL h0 K (Mm L i h j (.slice a n c) (.slice s r l) (.slice d b f)):=D;have M:eU g L K (Mm L i h j (.slice a n c) (.slice s r l) (.slice d b f)):=M;have y:sM K (Mm L i h j (.slice a n c) (.slice s r l) (.slice d b f)) 3 _ _:=y;have v:sM K (Mm L i h j (.slice a n c) (.slice s r l) (.slice d b f)) 3 _ _:=v;have w:sM K (Mm L i h j (.slice a n c) (.slice s r l) (.slice d b f)) 3 _ _:=w;have l1:1<L.length:=(List.getElem?_eq_some_iff.1 c1).1;have l2:2<L.length:=(List.getElem?_eq_some_iff.1 c2).1;have x0:(Mm L i h j (.slice a n c) (.slice s r l) (.slice d b f))[1]?=some (jh h (.slice s r l)):=by
   unfold Mm;rw[getElem?_set,if_neg (by omega),getElem?_set,if_pos rfl,if_pos (by rw[length_set];exact l1)]
  have x4:(Mm L i h j (.slice a n c) (.slice s r l) (.slice d b f))[2]?=some (jh j (.slice d b f)):=by
   unfold Mm;rw[getElem?_set,if_pos rfl,if_pos (by rw[length_set,length_set];exact l2)]
  have x5:(wL p).length<=1000000:=by
   have:(wL p).length<=p.length:=dK Mv.l p;rw[<-A]at this⊢;rw[List.length_reverse]at this;simp at F;omega
  refine⟨_,_,_,aR cO gM (D.get 1 x0) (by simp),_,_,_,aR cO gM (D.get 2 x4) (by simp),(xr D.ok.wf v.rd w.rd (by omega)).mono ?_⟩;rintro _ g6 ⟨rfl,e6⟩;have R:=(D.grow e6).2;exact⟨_,rfl,_,_,_,rfl,(D.grow e6).1,M.trans R,y.cP R,v.cP R,w.cP R⟩
end
end
noncomputable def Ut:FD:=dY Tryz.f112 []
theorem QH(ov kv:LV)(kn t s v R p y U I:Nat)(h:aa)(Q:VH)(hx:xN (dp SS.P 116 (.agg ⟨ov⟩)) h λB1 g2=>xN (dp SS.P 105 (.agg ⟨kv⟩)) g2 λB3 b=>xV (ae SS.P 163 b (pA kn)) λv5=>xA (ae SS.P 105 b (pA (g2.next))) λc6=>xI .i64 (jF SS.P 163 v5 (.agg ⟨c6⟩) false b) λf=>xB (ae SS.P 4 b (pA t)) λb8=>aS b8 (Q (.tuple ⟨[]⟩) b) (xL (ae SS.P 166 b (pA s)) λa9 u1 j6=>xP (ai SS.P 166 (.slice a9 u1 j6) (.int .i64 f)) λv1=>xO (ae SS.P 168 b (.pointer (some v1))) λv9=>xB (ax SS.P .eql 168 (.pointer v9) (.pointer none)) λu2=>aS u2 (Q (.tuple ⟨[]⟩) b) (xL (ae SS.P 172 (room b 12) (pA v)) λy6 y9 y0=>xI .i64 (ae SS.P 3 (room b 12) (pA R)) λz8=>xP (ai SS.P 172 (.slice y6 y9 y0) (.int .i64 z8)) λz9=>xA (ae SS.P 175 (room b 12) (.pointer (some z9))) λu5=>xA (ae SS.P 116 (room b 12) (pA (h.next))) λy1=>FW SS 113 [(.agg ⟨u5⟩),(.agg ⟨y1⟩)] (room b 12) λq0 C=>∃r:LV,∃z:Bool,q0=(.tuple ⟨[(.agg ⟨r⟩),(.bool z)]⟩)/\zN (aA SS.P 175) λD=>xU (aj SS.P 175 (pA (b.next+9)) (.agg ⟨r⟩) (aw C b.next [(9,D)])) (aw C b.next [(9,D)]) λq4 d=>xA (ae SS.P 116 (room d 8) (pA (h.next))) λw9=>xL (ae SS.P 109 (room d 8) (pA p)) λj5 u8 u3=>xI .i64 (ae SS.P 3 (room d 8) (pA R)) λu0=>xP (ai SS.P 109 (.slice j5 u8 u3) (.int .i64 u0)) λj8=>xO (ae SS.P 112 (room d 8) (.pointer (some j8))) λy3=>xA (aD SS.P 118 [(0,(.agg ⟨w9⟩)),(1,(.pointer y3))]) λz7=>zN (dp SS.P 118 (.agg ⟨z7⟩)) λv0=>abn (aw (room d 8) d.next [(6,v0)]) λa=>aS (!z) (xF (ae SS.P 171 (room a 8) (pA y)) λA w5 z6=>xL (ae SS.P 166 (room a 8) (pA s)) λv6 j7 v2=>xP (ai SS.P 166 (.slice v6 j7 v2) (.int .i64 f)) λw1=>xO (ae SS.P 168 (room a 8) (.pointer (some w1))) λw6=>aS (Nat.blt A YB) (FW SS A (w5++[(pA (d.next+6)),(.pointer w6)]++z6) (room a 8) λz5 F=>yB z5 λu7=>xU (aj SS.P 4 (pA t) (.bool u7) F) F λq6 v7=>Q (.tuple ⟨[]⟩) v7) False) (xL (ae SS.P 68 a (pA U)) λw0 y2 j3=>xP (ai SS.P 68 (.slice w0 y2 j3) (.int .i64 f)) λv3=>xB (ae SS.P 4 a (.pointer (some v3))) λj1=>aS (!j1) (xL (ae SS.P 68 (room a 14) (pA U)) λw4 y8 w7=>xL (ae SS.P 172 (room a 14) (pA v)) λl n m=>xL (ae SS.P 109 (room a 14) (pA p)) λi e g=>xA (ae SS.P 175 (room a 14) (pA (b.next+9))) λo=>xP (ai SS.P 68 (.slice w4 y8 w7) (.int .i64 f)) λw2=>xU (aj SS.P 4 (.pointer (some w2)) (.bool true) (room a 14)) (room a 14) λq5 k=>xP (ai SS.P 172 (.slice l n m) (.int .i64 f)) λu9=>xU (aj SS.P 175 (.pointer (some u9)) (.agg ⟨o⟩) k) k λX0 x=>xP (ai SS.P 109 (.slice i e g) (.int .i64 f)) λz4=>xU (aj SS.P 112 (.pointer (some z4)) (pA (d.next+6)) x) x λq9 q=>(ae SS.P 172 k (pA v)=some (.slice l n m)/\df 4 (.slice l n m) (.slice l n m)=true)/\(ae SS.P 109 k (pA p)=some (.slice i e g)/\df 4 (.slice i e g) (.slice i e g)=true)/\(ae SS.P 109 x (pA p)=some (.slice i e g)/\df 4 (.slice i e g) (.slice i e g)=true)/\(ae SS.P 175 k (pA (b.next+9))=some (.agg ⟨o⟩)/\df 4 (.agg ⟨o⟩) (.agg ⟨o⟩)=true)/\xL (ae SS.P 27 q (pA I)) λy7 v8 j4=>xR (az SS.P 27 1 [(0,(.int .i64 f))]) q λq8 v4 y4 G=>xE (aJ SS.P 27 27 (.slice y7 v8 j4) (sA (q.next) v4 y4) G) G λj9 j0 u6 q3 E=>xU (aj SS.P 27 (pA I) (.slice j9 j0 u6) E) E λq7 y5=>Q (.tuple ⟨[]⟩) y5) (xA (ae SS.P 175 (room a 8) (pA (b.next+9))) λz1=>xL (ae SS.P 172 (room a 8) (pA v)) λj2 w3 z2=>xP (ai SS.P 172 (.slice j2 w3 z2) (.int .i64 f)) λw8=>xA (ae SS.P 175 (room a 8) (.pointer (some w8))) λz0=>FW SS 110 [(.agg ⟨z1⟩),(.agg ⟨z0⟩)] (room a 8) λz3 j=>yB z3 λu4=>aS (!u4) (xF (ae SS.P 171 (room j 20) (pA y)) λB T O=>xL (ae SS.P 166 (room j 20) (pA s)) λV x8 S=>xP (ai SS.P 166 (.slice V x8 S) (.int .i64 f)) λY=>xO (ae SS.P 168 (room j 20) (.pointer (some Y))) λJ=>aS (Nat.blt B YB) (FW SS B (T++[(pA (d.next+6)),(.pointer J)]++O) (room j 20) λW c=>yB W λx9=>aS x9 (xU (aj SS.P 4 (pA t) (.bool true) c) c λq2 H=>Q (.tuple ⟨[]⟩) H) (xF (ae SS.P 171 c (pA y)) λu X x6=>xL (ae SS.P 109 c (pA p)) λx1 Z x2=>xP (ai SS.P 109 (.slice x1 Z x2) (.int .i64 f)) λx5=>xO (ae SS.P 112 c (.pointer (some x5))) λx0=>xL (ae SS.P 166 c (pA s)) λK x3 x7=>xP (ai SS.P 166 (.slice K x3 x7) (.int .i64 f)) λx4=>xO (ae SS.P 168 c (.pointer (some x4))) λL=>aS (Nat.blt u YB) (FW SS u (X++[(.pointer x0),(.pointer L)]++x6) c λN w=>yB N λM=>xU (aj SS.P 4 (pA t) (.bool M) w) w λq1 P=>Q (.tuple ⟨[]⟩) P) False)) False) (Q (.tuple ⟨[]⟩) j)))))):FW SS 112 [(.agg ⟨ov⟩),(.agg ⟨kv⟩),(pA kn),(pA t),(pA s),(pA v),(pA R),(pA p),(pA y),(pA U),(pA I)] h Q:=eh Ut Tryz.func112 (av hx)
variable{b:Bool}
section
theorem Zb:SS.P.underlying 172=some (.slice 175):=by kernel_rfl
theorem aau:Go.Ab.isAgg SS.P 172=false:=by kernel_rfl
theorem xX:SS.P.underlying 109=some (.slice 112):=by kernel_rfl
theorem JA:Go.Ab.isAgg SS.P 109=false:=by kernel_rfl
theorem B0:au SS.P 112=some 1:=by kernel_rfl
theorem q68:SS.P.underlying 68=some (.slice 4):=by kernel_rfl
theorem adK:Go.Ab.isAgg SS.P 68=false:=by kernel_rfl
theorem q4:SS.P.underlying 4=some .bool:=by kernel_rfl
theorem q4a:Go.Ab.isAgg SS.P 4=false:=by kernel_rfl
theorem q4s:au SS.P 4=some 1:=by kernel_rfl
noncomputable def adJ:TypeDesc:=(SS.P.underlying 171).getD .bool
theorem aeR:SS.P.underlying 171=some adJ:=by kernel_rfl
theorem adI:Go.Ab.isAgg SS.P 171=false:=by kernel_rfl
theorem iY(g:Good M){s:Nat}{a:bJ}(h:a∈bC M s):Hx M.ak.length a:=by
 by_cases c:s<M.ak.length
 ·obtain⟨x,_,e,_,b⟩:=iy c;rw[e]at h;exact g.an x b a h
 ·unfold bC at h;rw[gD,getElem?_eq_none (by omega)]at h
  cases h
theorem Vy{B:aG}(c:Good M)(d:Good B){k f:NN}{m:Mv}(s:DL M B k m f):Qh m:=by
 cases s with
 |left a h0=>exact⟨Int.le_refl _,(iY c a).o0,Int.le_refl _⟩
 |right b h0=>exact⟨Int.le_refl _,Int.le_refl _,(iY d b).o0⟩
 |both a b h0 e=>exact⟨(iY c a).i0,(iY c a).o0,(iY d b).o0⟩
theorem adH{B:aG}(f:Good M)(d:Good B){k c:NN}{b:List Mv}(r:PR M B k b c):∀m∈b,Qh m:=by
 induction r with
 |nil=>intro m a;cases a
 |cons h r e=>
  intro m a;rcases mem_cons.1 a with rfl|a
  ·exact Vy f d h
  ·exact e m a
theorem ve:∀{y z:List Int}{d:sL},iD y z=some d->d.1.length<=y.length/\d.2.length<=z.length
 |[],z,d,h=>by obtain rfl:=oI h;exact⟨Nat.le_refl _,Nat.le_refl _⟩
 |a::y,[],d,h=>by obtain rfl:=oI h;exact⟨Nat.le_refl _,Nat.le_refl _⟩
 |a::y,b::z,d,h=>by
  rw[iD]at h;split at h
  ·obtain⟨c,e⟩:=ve h;exact⟨Nat.le_succ_of_le c,Nat.le_succ_of_le e⟩
  ·cases h
def nj(ds:List Value)(k:Nat)(a b:Value):List Value:=(ds.set (2*k) a).set (2*k+1) b
theorem Zs{ds:List Value}{a b x y:Value}(f:2*k+1<ds.length)(c:ds[2*j]?=some x)(d:ds[2*j+1]?=some y)(e:j≠k):(nj ds k a b)[2*j]?=some x/\(nj ds k a b)[2*j+1]?=some y:=by
 unfold nj;rw[getElem?_set,if_neg (by omega),getElem?_set,if_neg (by omega),getElem?_set,if_neg (by omega),getElem?_set,if_neg (by omega)];exact⟨c,d⟩
theorem yh{ds:List Value}{a b:Value}(c:2*k+1<ds.length):(nj ds k a b)[2*k]?=some a/\(nj ds k a b)[2*k+1]?=some b:=by
 unfold nj;constructor
 ·rw[getElem?_set,if_neg (by omega),getElem?_set,if_pos rfl,if_pos (by omega)]
 ·rw[getElem?_set,if_pos rfl,if_pos (by rw[length_set];exact c)]
theorem Yj{n c:Nat}(h:i<n):ai SS.P 172 (sA k n c) (.int .i64 (i:Int))=some (.pointer (some ⟨k,2*i,none⟩)):=by
 rw[FU Zb ur (by omega) (by omega)];rw[toNat_natCast,zero_add,Nat.mul_comm]
theorem ld2{g:aa}{ds:List Value}{x y:Value}{e:TypeId}{z:Nat}(d:g.get k=some (.cells ds e z b))(c:ds[2*i]?=some x)(a:ds[2*i+1]?=some y):ae SS.P 175 g (.pointer (some ⟨k,2*i,none⟩))=some (.agg ⟨[x,y]⟩):=by
 have f:=(List.getElem?_eq_some_iff.1 a).1;rw[gG aaC Z4 ur d (by omega)];have e:(ds.drop (2*i)).take 2=[x,y]:=by
  refine List.ext_getElem? λj=>?_;rw[List.getElem?_take]
  match j with
  |0=>rw[if_pos (by omega),List.getElem?_drop];exact c
  |1=>rw[if_pos (by omega),List.getElem?_drop];exact a
  |j+2=>rw[if_neg (by omega)];rfl
 rw[e]
theorem afb{g:aa}{ds:List Value}{x y:Value}{e:TypeId}{z:Nat}(q:g.get k=some (.cells ds e z true))(c:2*i+1<ds.length)(l:bw x=true)(r:bw y=true):aj SS.P 175 (.pointer (some ⟨k,2*i,none⟩)) (.agg ⟨[x,y]⟩) g=some (undef,.set k (.cells (nj ds i x y) e z true)):=by
 have d:ds.take (2*i)++[x,y]++ds.drop (2*i+2)=nj ds i x y:=by
  refine List.ext_getElem? λj=>?_;by_cases m:j<2*i
  ·unfold nj;rw[append_assoc,List.getElem?_append_left (by rw[length_take];omega),List.getElem?_take,if_pos m,getElem?_set,if_neg (by omega),getElem?_set,if_neg (by omega)]
  ·have h:(ds.take (2*i)).length=2*i:=by rw[length_take];omega
   rw[append_assoc,List.getElem?_append_right (by omega),h];by_cases o:j=2*i
   ·subst o;rw[(yh (a:=x) (b:=y) c).1,Nat.sub_self];rfl
   ·by_cases f:j=2*i+1
    ·subst f;rw[(yh (a:=x) (b:=y) c).2,show 2*i+1-2*i=1 by omega];rfl
    ·rw[List.getElem?_append_right (by show 2<=_;omega),List.getElem?_drop];unfold nj;rw[getElem?_set,if_neg (by omega),getElem?_set,if_neg (by omega)];congr 1;show 2*i+2+(j-2*i-2)=j;omega
 unfold aj;dsimp only;have p:(Value.agg ⟨[x,y]⟩).cells.size=2:=rfl;have n:(Value.agg ⟨[x,y]⟩).cells.toList=[x,y]:=rfl;rw[if_pos (by rw[p];exact ur)];unfold storeAt;rw[q,n];dsimp only;rw[if_pos ⟨by rw[length_cons,length_cons,length_nil];omega,by simp[l,r]⟩];show some (undef,bp.set k (.cells (ds.take (2*i)++[x,y]++ds.drop (2*i+2)) e z true))=_;rw[d]
abbrev uB:=List (Option (List Mv×sL))
structure yG(g:aa)(L:List cC)(n:Nat)(tr:uB)(ts ds ks:List Value):Prop where
 lt:tr.length=n
 lts:ts.length=n
 Kt:ds.length=2*n
 lks:ks.length=n
 kn:∀(k:Nat)(v:Option (List Mv×sL)),tr[k]?=some v->ks[k]?=some (.bool v.isSome)
 row:∀(k:Nat)(ms:List Mv)(d:sL),tr[k]?=some (some (ms,d))->∃(p:Option Addr)(dl dr:Value),ts[k]?=some (.pointer p)/\nR (Im g L) p ms.reverse/\ds[2*k]?=some dl/\ds[2*k+1]?=some dr/\sM g L 3 dl (d.1.map zV)/\sM g L 3 dr (d.2.map zV)
theorem yG.cP{g g':aa}{L a:List cC}{n:Nat}{tr:uB}{ts ds ks:List Value}(r:yG g L n tr ts ds ks)(c:eU g L g' a):yG g' a n tr ts ds ks:=⟨r.lt,r.lts,r.Kt,r.lks,r.kn,λk b d h=>by
 obtain⟨p,i,o,f,j,e,l,q,m⟩:=r.row k b d h;exact⟨p,i,o,f,j.mono c,e,l,q.cP c,m.cP c⟩⟩
theorem yG.set{g:aa}{L:List cC}{n:Nat}{tr:uB}{ts ds ks:List Value}(r:yG g L n tr ts ds ks){k:Nat}(G:k<n){q:List Mv}{d:sL}{p:Option Addr}{f i:Value}(A:nR (Im g L) p q.reverse)(x:sM g L 3 f (d.1.map zV))(w:sM g L 3 i (d.2.map zV)):yG g L n (tr.set k (some (q,d))) (ts.set k (.pointer p)) (nj ds k f i) (ks.set k (.bool true)):=by
 refine⟨by rw[length_set];exact r.lt,by rw[length_set];exact r.lts,by unfold nj;rw[length_set,length_set];exact r.Kt,by rw[length_set];exact r.lks,λj v c=>?_,λj s C c=>?_⟩
 ·rw[getElem?_set]at c⊢;by_cases e:k=j
  ·rw[if_pos e]at c⊢;rw[if_pos (by rw[r.lks];omega)];split at c
   ·obtain rfl:=oI c;rfl
   ·cases c
  ·rw[if_neg e]at c⊢;exact r.kn j v c
 ·have t:2*k+1<ds.length:=by rw[r.Kt];omega
  rw[getElem?_set]at c;by_cases e:k=j
  ·subst e;rw[if_pos rfl]at c;split at c
   ·have:=oI (oI c);injection this with y H
    subst y;subst H;obtain⟨m,l⟩:=yh (a:=f) (b:=i) t;exact⟨p,f,i,by rw[getElem?_set,if_pos rfl,if_pos (by rw[r.lts];exact G)],A,m,l,x,w⟩
   ·cases c
  ·rw[if_neg e]at c;obtain⟨z,u,o,D,E,B,F,J,I⟩:=r.row j s C c;obtain⟨m,l⟩:=Zs (a:=f) (b:=i) t B F (λh=>e h.symm);exact⟨z,u,o,by rw[getElem?_set,if_neg e];exact D,E,m,l,J,I⟩
structure KS where
 k1:Nat
 k2:Nat
 k3:Nat
 k4:Nat
 k5:Nat
 k7:Nat
 k8:Nat
 k9:Nat
 WG:Nat
 iG:Nat
 WH:Nat
 F0:Nat
 kt:Nat
 kd:Nat
 kk:Nat
 km:Nat
 ko:Nat
def ss(K:KS)(x y z:Value)(f:Bool)(ts ds ks:List Value)(tv:Value)(Gq:cC):List cC:=[jh K.k2 x,jh K.k3 y,jh K.k4 z,[(K.k5,.cells [.bool f] 4 0 true)],[(K.kt,.cells ts 112 1 true)],[(K.kd,.cells ds 175 2 true)],[(K.kk,.cells ks 4 1 true)],jh K.F0 tv,Gq]
structure DC(K:KS)(T:eE)(ord:List NN)(outs:List (Option Nat))(n:Nat)(g:aa)(L:List cC):Prop where
 m1:Im g L K.k1 (kj T)
 m7:Im g L K.k7 (.cells [.map (some K.km)] 163 0 true)
 mm:Im g L K.km (.map (js ord 0))
 m8:Im g L K.k8 (.cells [sA K.ko n n] 166 0 true)
 mo:Im g L K.ko (.cells (outs.map Ds) 168 1 true)
 m9:Im g L K.k9 (.cells [.func (.func 107) ⟨[]⟩ ⟨[pA K.k2,pA K.k3,pA K.k4]⟩] 171 0 true)
 m10:Im g L K.WG (.cells [sA K.kt n n] 109 0 true)
 m11:Im g L K.iG (.cells [sA K.kd n n] 172 0 true)
 m12:Im g L K.WH (.cells [sA K.kk n n] 68 0 true)
 lo:outs.length=n
 ok:qc (Im g L) T.A T.B ord outs
theorem DC.cP{K:KS}{T:eE}{ord:List NN}{outs:List (Option Nat)}{n:Nat}{g g':aa}{L a:List cC}(s:DC K T ord outs n g L)(c:eU g L g' a):DC K T ord outs n g' a:=⟨c _ _ s.m1,c _ _ s.m7,c _ _ s.mm,c _ _ s.m8,c _ _ s.mo,c _ _ s.m9,c _ _ s.m10,c _ _ s.m11,c _ _ s.m12,s.lo,s.ok.mono c⟩
def WR(A B:aG)(g:aa)(L:List cC)(x y z:Value):Prop:=∃p e,PR A B (sI A B) p e/\lJ A B e/\wL p≠wR p/\p.length<=1000000/\sM g L 3 x ((wI p).map zV)/\sM g L 3 y ((wL p).map zV)/\sM g L 3 z ((wR p).map zV)
theorem WR.cP{B:aG}{g g':aa}{L a:List cC}{x y z:Value}(w:WR M B g L x y z)(c:eU g L g' a):WR M B g' a x y z:=by
 obtain⟨p,e,d,f,b,i,k,j,h⟩:=w;exact⟨p,e,d,f,b,i,k.cP c,j.cP c,h.cP c⟩
def Ty(tr:uB)(k:Nat):Prop:=∃v,tr[k]?=some (some v)
def WQ(A B:aG)(ord:List NN)(tr:uB):Prop:=∀(k:Nat)(a:List Mv)(d:sL),tr[k]?=some (some (a,d))->∃x,ord[k]?=some x/\PR A B (sI A B) a x/\iD (wL a) (wR a)=some d/\a.length+cW tr<=tr.length
def HK(A B:aG)(ord:List NN)(tr:uB)(d:sL)(w:Mv×NN):Prop:=Co A B w.2->∃(k:Nat)(b:sL)(a:List Mv),ni ord w.2=some k/\zF d w.1=some b/\tr[k]?=some (some (a,b))
def qn(tr a:uB):Prop:=∀(k:Nat)(v:List Mv×sL),tr[k]?=some (some v)->a[k]?=some (some v)
theorem qn.set{tr:uB}(h:tr[k]?=some none)(v:List Mv×sL):qn tr (tr.set k (some v)):=λj w a=>by
 rw[getElem?_set];by_cases e:k=j
 ·subst e;rw[h]at a;cases a
 ·rw[if_neg e];exact a
theorem HK.ext{B:aG}{ord:List NN}{tr a:uB}{d:sL}{w:Mv×NN}(s:HK M B ord tr d w)(e:qn tr a):HK M B ord a d w:=λc=>by
 obtain⟨k,g,b,h,i,f⟩:=s c;exact⟨k,g,b,h,i,e _ _ f⟩
def Ar(A B:aG)(ord:List NN)(tr:uB)(k:Nat):Prop:=∀(b:List Mv)(d:sL)(x:NN),tr[k]?=some (some (b,d))->ord[k]?=some x->(lJ A B x->d=([],[]))/\∀m a,DL A B x m a->HK A B ord tr d (m,a)
theorem Ar.ext{B:aG}{ord:List NN}{tr c:uB}(h:Ar M B ord tr k)(o:Ty tr k)(e:qn tr c):Ar M B ord c k:=λg d x l n=>by
 obtain⟨v,f⟩:=o;have j:=e _ _ f;have:v=(g,d):=oI (oI (j.symm.trans l));subst this;obtain⟨a,b⟩:=h g d x f n;exact⟨a,λm i s=>(b m i s).ext e⟩
theorem qn.refl(tr:uB):qn tr tr:=λ_ _ h=>h
theorem qn.trans{a b c:uB}(h:qn a b)(d:qn b c):qn a c:=λk v x=>d k v (h k v x)
structure VC(h0:aa)(K:KS)(T:eE)(ord:List NN)(outs:List (Option Nat))(n:Nat)(tr:uB)(x y z:Value)(f:Bool)(ts ds ks:List Value)(todo:List Nat)(tv:Value)(Gq:cC)(g:aa)(L:List cC):Prop where
 e:L=ss K x y z f ts ds ks tv Gq
 o:OL h0 g L
 dc:DC K T ord outs n g L
 row:yG g L n tr ts ds ks
 RK:WQ T.A T.B ord tr
 td:dw 3 tv (todo.map iv) Gq
 bd:todo.length+cW tr<=n
section
variable {h0:aa} {K:KS} {T:eE} {ord:List NN} {outs:List (Option Nat)} {n:Nat} {tr:uB} {x y z:Value} {f:Bool} {ts ds ks:List Value} {todo:List Nat} {tv:Value} {Gq:cC} {g g':aa} {L:List cC}
theorem VC.grow(c:VC h0 K T ord outs n tr x y z f ts ds ks todo tv Gq g L)(o:Ok g g'):VC h0 K T ord outs n tr x y z f ts ds ks todo tv Gq g' L/\eU g L g' L:=by
 obtain⟨b,a⟩:=c.o.grow o;exact⟨⟨c.e,b,c.dc.cP a,c.row.cP a,c.RK,c.td,c.bd⟩,a⟩
variable (vcx:VC h0 K T ord outs n tr x y z f ts ds ks todo tv Gq g L)
include vcx
theorem VC.Ec:ae SS.P 4 g (pA K.k5)=some (.bool f):=by
 have a:L[3]?=some [(K.k5,.cells [.bool f] 4 0 true)]:=by rw[vcx.e];rfl
 exact aR q4 q4a (vcx.o.get 3 a) (by simp)
theorem VC.num:ae SS.P 163 g (pA K.k7)=some (.map (some K.km)):=vcx.dc.m7.ld oD qF
theorem VC.rst:ae SS.P 166 g (pA K.k8)=some (sA K.ko n n):=vcx.dc.m8.ld il uS
theorem VC.prv:ae SS.P 171 g (pA K.k9)=some (.func (.func 107) ⟨[]⟩ ⟨[pA K.k2,pA K.k3,pA K.k4]⟩):=vcx.dc.m9.ld aeR adI
theorem VC.trl:ae SS.P 109 g (pA K.WG)=some (sA K.kt n n):=vcx.dc.m10.ld xX JA
theorem VC.dly:ae SS.P 172 g (pA K.iG)=some (sA K.kd n n):=vcx.dc.m11.ld Zb aau
theorem VC.knw:ae SS.P 68 g (pA K.WH)=some (sA K.kk n n):=vcx.dc.m12.ld q68 adK
theorem VC.out{t:Nat}{o:Option Nat}(h:outs[t]?=some o):ae SS.P 168 g (.pointer (some ⟨K.ko,t,none⟩))=some (Ds o):=by
 rw[aR Ke HN vcx.dc.mo.1 (by rw[lM];exact(List.getElem?_eq_some_iff.1 h).1),gD,getElem?_map,h];rfl
theorem VC.adp{t:Nat}{v:Option (List Mv×sL)}(h:tr[t]?=some v):ae SS.P 4 g (.pointer (some ⟨K.kk,t,none⟩))=some (.bool v.isSome):=by
 have a:=vcx.row.kn t v h;rw[aR q4 q4a (vcx.o.get 6 (by rw[vcx.e];rfl)) (List.getElem?_eq_some_iff.1 a).1,gD,a];rfl
theorem VC.ways{t:Nat}{f:List Mv}{d:sL}(h:tr[t]?=some (some (f,d))):∃(p:Option Addr)(a:Option Addr)(m c:Nat)(b:Option Addr)(n i:Nat),ae SS.P 112 g (.pointer (some ⟨K.kt,t,none⟩))=some (.pointer p)/\nR (Im g L) p f.reverse/\ae SS.P 175 g (.pointer (some ⟨K.kd,2*t,none⟩))=some (.agg ⟨[.slice a m c,.slice b n i]⟩)/\sM g L 3 (.slice a m c) (d.1.map zV)/\sM g L 3 (.slice b n i) (d.2.map zV):=by
 obtain⟨p,z,A,l,u,s,v,y,w⟩:=vcx.row.row t f d h;obtain⟨G,j,o⟩:=y;obtain⟨x,k,r⟩:=w;obtain⟨a,e,rfl⟩:=j.oa;obtain⟨b,q,rfl⟩:=k.oa;refine⟨p,a,_,e,b,_,q,?_,u,ld2 (vcx.o.get 5 (by rw[vcx.e];rfl)) s v,⟨G,j,o⟩,⟨x,k,r⟩⟩;rw[aR OJ Nv (vcx.o.get 4 (by rw[vcx.e];rfl)) (List.getElem?_eq_some_iff.1 l).1,gD,l];rfl
theorem VC.found(i:Wf h0)(b:Bool):∃u:bp,aj SS.P 4 (pA K.k5) (.bool b) g=some (undef,u)/\VC h0 K T ord outs n tr x y z b ts ds ks todo tv Gq (u.app g) (ss K x y z b ts ds ks tv Gq)/\eU g L (u.app g) (ss K x y z b ts ds ks tv Gq):=by
 have h:L[3]?=some [(K.k5,.cells [.bool f] 4 0 true)]:=by rw[vcx.e];rfl
 obtain⟨d,a⟩:=vcx.o.kJ i 3 h (.cells [.bool b] 4 0 true);have e:L.set 3 [(K.k5,.cells [.bool b] 4 0 true)]=ss K x y z b ts ds ks tv Gq:=by rw[vcx.e];rfl
 rw[e]at d a;exact⟨_,bG q4s (vcx.o.get 3 h) (by simp) rfl rfl,⟨rfl,d,vcx.dc.cP a,vcx.row.cP a,vcx.RK,vcx.td,vcx.bd⟩,a⟩
theorem VC.prove(w:Wf h0)(I:Good T.A)(C:Good T.B){t:Option Addr}{i h:List Mv}{s:Nat}{k e:NN}(A:nR (Im g L) t i.reverse)(D:Au (Im g L) s h)(B:PR T.A T.B (sI T.A T.B) i k)(E:PR T.A T.B k h e)(F:lJ T.A T.B e)(r:i.length+h.length<=1000000):
  FW SS 107 [.pointer t,pA s,pA K.k2,pA K.k3,pA K.k4] g (λv g'=>v = .bool (!decide (wL (i++h)=wR (i++h)))/\∃d a b,VC h0 K T ord outs n tr d a b f ts ds ks todo tv Gq g' (ss K d a b f ts ds ks tv Gq)/\eU g L g' (ss K d a b f ts ds ks tv Gq)/\(wL (i++h)≠wR (i++h)->WR T.A T.B g' (ss K d a b f ts ds ks tv Gq) d a b)):=by
 have q:=B.app E;have H:=adH I C q;have G:=QB w vcx.o (v0:=x) (v1:=y) (v2:=z) (by rw[vcx.e];rfl) (by rw[vcx.e];rfl) (by rw[vcx.e];rfl) A D (by rw[List.reverse_reverse];exact H) (by rw[List.length_reverse];exact r);refine G.mono ?_;rintro _ J ⟨d,a,b,rfl,p,j,l,m,o⟩;have e:Mm L K.k2 K.k3 K.k4 d a b=ss K d a b f ts ds ks tv Gq:=by rw[vcx.e];rfl
 rw[e]at p j l m o;rw[List.reverse_reverse]at l m o⊢;exact⟨rfl,d,a,b,⟨rfl,p,vcx.dc.cP j,vcx.row.cP j,vcx.RK,vcx.td,vcx.bd⟩,j,λu=>⟨_,_,q,F,u,by rw[length_append];exact r,l,m,o⟩⟩
end
end
section
theorem ZM{n c:Nat}{b:Option Addr}{d:Nat}(g:df 4 (.slice a n c) (.slice a n c)=true)(h:df 4 (.slice b m d) (.slice b m d)=true):df 4 (.agg ⟨[.slice a n c,.slice b m d]⟩) (.agg ⟨[.slice a n c,.slice b m d]⟩)=true:=by
 rcases a with _|⟨k,o,_|s⟩<;>rcases b with _|⟨e,i,_|f⟩<;>simp_all[df,wN]
theorem QM(p:Option Addr):bw (.pointer p)=true:=by cases p<;>rfl
theorem Mk(p:Option Addr):(Value.pointer p).cells = #[.pointer p]:=by cases p<;>rfl
theorem nh.set{g:aa}{n:Nat}(k:j<n){e:TypeId}{v:Value}{a:List Value}(r:nh (room g n) h e v a)(B f:bu):nh g ((h.set (g.next+j) B).set (g.next+j) f) e v a:=by
 obtain⟨G,d,b⟩:=r;refine⟨G,d,λp c=>?_⟩;have i:g.next+n<=p.1:=(b p c).1;refine⟨by omega,?_⟩;rw[aa.ay,if_neg (by omega),aa.ay,if_neg (by omega)];exact(b p c).2
theorem WQ.put{B:aG}{ord:List NN}{tr:uB}(s:WQ M B ord tr){t:Nat}(h0:tr[t]?=some none){b:List Mv}{d:sL}{x:NN}(i:ord[t]?=some x)(r:PR M B (sI M B) b x)(o:iD (wL b) (wR b)=some d)(q:b.length+cW tr<=tr.length+1):WQ M B ord (tr.set t (some (b,d))):=λk c h a=>by
 have p:=jb (b,d) h0;rw[getElem?_set]at a;by_cases e:t=k
 ·subst e;rw[if_pos rfl]at a;split at a
  ·have:=oI (oI a);injection this with f n
   subst f;subst n;exact⟨x,i,r,o,by rw[length_set];omega⟩
  ·cases a
 ·rw[if_neg e]at a;obtain⟨l,j,m,g,u⟩:=s k c h a;exact⟨l,j,m,g,by rw[length_set];omega⟩
def VD(h0:aa)(K:KS)(T:eE)(ord:List NN)(outs:List (Option Nat))(n:Nat)(tr0:uB)(xi:NN)(i ki N:Nat)(pre:List (Mv×NN))(d:sL)(g:aa)(L:List cC):Prop:=
 ∃(tr:uB)(x y z:Value)(f:Bool)(ts ds ks:List Value)(todo:List Nat)(tv:Value)(Gq:cC),VC h0 K T ord outs n tr x y z f ts ds ks todo tv Gq g L/\Im g L ki (.cells [iA i] 3 0 true)/\qn tr0 tr/\((∀k,Ty tr k->k∈todo\/k=i\/Ar T.A T.B ord tr k)/\∀k∈todo,Ty tr k)/\2*cW tr+todo.length<=N/\((f=true/\WR T.A T.B g L x y z)\/(f=false/\(lJ T.A T.B xi->d=([],[]))/\∀w∈pre,HK T.A T.B ord tr d w))
theorem Ty.ext{tr a:uB}(h:Ty tr k)(e:qn tr a):Ty a k:=by
 obtain⟨v,b⟩:=h;exact⟨v,e _ _ b⟩
section
variable {h0:aa} {K:KS} {T:eE} {ord:List NN} {outs:List (Option Nat)} {n:Nat} {tr0:uB} {xi:NN} {i ki N:Nat} {pre:List (Mv×NN)} {d:sL} {g g':aa} {L:List cC}
theorem VD.ol(v:VD h0 K T ord outs n tr0 xi i ki N pre d g L):OL h0 g L:=by
 obtain⟨tr,x,y,z,f,ts,ds,ks,todo,tv,Gq,c,_⟩:=v;exact c.o
theorem VD.grow(v:VD h0 K T ord outs n tr0 xi i ki N pre d g L)(o:Ok g g'):VD h0 K T ord outs n tr0 xi i ki N pre d g' L:=by
 obtain⟨tr,x,y,z,f,ts,ds,ks,todo,tv,Gq,c,e,j,b,l,m⟩:=v;obtain⟨k,a⟩:=c.grow o;exact⟨tr,x,y,z,f,ts,ds,ks,todo,tv,Gq,k,a _ _ e,j,b,l,m.imp (λh=>⟨h.1,h.2.cP a⟩) id⟩
variable {tr:uB} {x y z:Value} {f:Bool} {ts ds ks:List Value} {todo:List Nat} {tv:Value} {Gq:cC}
theorem VC.put(D:Wf h0)(c:VC h0 K T ord outs n tr x y z f ts ds ks todo tv Gq g L){t:Nat}(H:tr[t]?=some none){i:List Mv}{d:sL}{P:NN}(hx:ord[t]?=some P)(r:PR T.A T.B (sI T.A T.B) i P)(hd:iD (wL i) (wR i)=some d)(hl:i.length+cW tr<=tr.length+1){p:Option Addr}(Z:nR (Im g L) p i.reverse){a b:Value}(sl:bw a=true)(sr:bw b=true)(X:sM g L 3 a (d.1.map zV))(W:sM g L 3 b (d.2.map zV)):
  ∃j:bp,aj SS.P 4 (.pointer (some ⟨K.kk,t,none⟩)) (.bool true) g=some (undef,j)/\∃l:bp,aj SS.P 175 (.pointer (some ⟨K.kd,2*t,none⟩)) (.agg ⟨[a,b]⟩) (j.app g)=some (undef,l)/\∃G:bp,aj SS.P 112 (.pointer (some ⟨K.kt,t,none⟩)) (.pointer p) (l.app (j.app g))=some (undef,G)/\
   (∃L1,eU g L (j.app g) L1)/\(∃L2,eU g L (l.app (j.app g)) L2)/\
   VC h0 K T ord outs n (tr.set t (some (i,d))) x y z f (ts.set t (.pointer p)) (nj ds t a b) (ks.set t (.bool true)) todo tv Gq (G.app (l.app (j.app g))) (ss K x y z f (ts.set t (.pointer p)) (nj ds t a b) (ks.set t (.bool true)) tv Gq)/\eU g L (G.app (l.app (j.app g))) (ss K x y z f (ts.set t (.pointer p)) (nj ds t a b) (ks.set t (.bool true)) tv Gq):=by
 have m:t<n:=by have:=(List.getElem?_eq_some_iff.1 H).1;rw[c.row.lt]at this;exact this
 have U:L[6]?=some [(K.kk,.cells ks 4 1 true)]:=by rw[c.e];rfl
 obtain⟨E,e⟩:=c.o.kJ D 6 U (.cells (ks.set t (.bool true)) 4 1 true);refine⟨_,bG q4s (c.o.get 6 U) (by rw[c.row.lks];exact m) rfl rfl,?_⟩;have M:=c.row.cP e;have S:=c.dc.cP e;have B:=Z.mono e;have C:=X.cP e;have s:=W.cP e;have Y:L.set 6 [(K.kk,.cells (ks.set t (.bool true)) 4 1 true)]=ss K x y z f ts ds (ks.set t (.bool true)) tv Gq:=by rw[c.e];rfl
 rw[Y]at E e M S B C s;generalize (bp.set K.kk (.cells (ks.set t (.bool true)) 4 1 true)).app g=g1 at*;have V:(ss K x y z f ts ds (ks.set t (.bool true)) tv Gq)[5]?=some [(K.kd,.cells ds 175 2 true)]:=rfl;obtain⟨F,h⟩:=E.kJ D 5 V (.cells (nj ds t a b) 175 2 true);refine⟨_,afb (E.get 5 V) (by rw[c.row.Kt];omega) sl sr,?_⟩;have N:=M.cP h;have J:=S.cP h;have w:=B.mono h;have u:=C.cP h;have q:=s.cP h;have e2:(ss K x y z f ts ds (ks.set t (.bool true)) tv Gq).set 5 [(K.kd,.cells (nj ds t a b) 175 2 true)]=ss K x y z f ts (nj ds t a b) (ks.set t (.bool true)) tv Gq:=rfl;rw[e2]at F h N J w u q;generalize (bp.set K.kd (.cells (nj ds t a b) 175 2 true)).app g1=g2 at*;have R:(ss K x y z f ts (nj ds t a b) (ks.set t (.bool true)) tv Gq)[4]?=some [(K.kt,.cells ts 112 1 true)]:=rfl;obtain⟨Q,k⟩:=F.kJ D 4 R (.cells (ts.set t (.pointer p)) 112 1 true);refine⟨_,bG B0 (F.get 4 R) (by rw[c.row.lts];exact m) (QM p) (Mk p),⟨_,e⟩,⟨_,e.trans h⟩,?_⟩;have I:=N.cP k;have O:=J.cP k;have A:=w.mono k;have o:=u.cP k;have v:=q.cP k;have e3:(ss K x y z f ts (nj ds t a b) (ks.set t (.bool true)) tv Gq).set 4 [(K.kt,.cells (ts.set t (.pointer p)) 112 1 true)]=ss K x y z f (ts.set t (.pointer p)) (nj ds t a b) (ks.set t (.bool true)) tv Gq:=rfl;rw[e3]at Q k I O A o v;have hn:=jb (i,d) H;exact⟨⟨rfl,Q,O,I.set m A o v,c.RK.put H hx r hd hl,c.td,by have:=c.bd;omega⟩,e.trans (h.trans k)⟩
theorem VC.push(s:Wf h0)(c:VC h0 K T ord outs n tr x y z f ts ds ks todo tv Gq g L)(t:Nat)(E:todo.length+1+cW tr<=n)(Q:n<=100000):
  ∃(a:Option Addr)(m cc:Nat),ae SS.P 27 g (pA K.F0)=some (.slice a m cc)/\∃(B:Option Addr)(C b:Nat)(u:bp),aJ SS.P 27 27 (.slice a m cc) (sA g.next 1 1) (g.push (.cells [.int .i64 (t:Int)] 3 1 true))=some (.slice B C b,u)/\∃r:bp,aj SS.P 27 (pA K.F0) (.slice B C b) (u.app (g.push (.cells [.int .i64 (t:Int)] 3 1 true)))=some (undef,r)/\∃e i,VC h0 K T ord outs n tr x y z f ts ds ks (todo++[t]) e i (r.app (u.app (g.push (.cells [.int .i64 (t:Int)] 3 1 true)))) (ss K x y z f ts ds ks e i)/\eU g L (r.app (u.app (g.push (.cells [.int .i64 (t:Int)] 3 1 true)))) (ss K x y z f ts ds ks e i):=by
 have p:=c.td;obtain⟨a,cc,v⟩:=p.oa;rw[lM]at v;subst v;have D:L[7]?=some (jh K.F0 (.slice a todo.length cc)):=by rw[c.e];rfl
 have G:L[8]?=some Gq:=by rw[c.e];rfl
 have H:=aI g (.cells [.int .i64 (t:Int)] 3 1 true);obtain⟨M,J⟩:=c.o.grow ((Ok.refl c.o.ok.wf).push (.cells [.int .i64 (t:Int)] 3 1 true));refine⟨_,_,_,aR cO gM (c.o.get 7 D) (by simp),?_⟩;generalize g.push (.cells [.int .i64 (t:Int)] 3 1 true)=F at*;obtain⟨h,d,b,u,O,R,l,q,A,P⟩:=p.snoc cO rk lj M6 s M (j:=8) G (x:= .int .i64 (t:Int)) rfl H (by rw[jd,lM];omega) (by rw[lM];omega);refine⟨h,d,b,u,O,?_⟩;generalize u.app F=S at*;have o:(L.set 8 l)[7]?=some (jh K.F0 (.slice a todo.length cc)):=by rw[getElem?_set,if_neg (by omega)];exact D
 obtain⟨w,N⟩:=A.kJ s 7 o (.cells [.slice h d b] 27 0 true);have k:=J.trans (P.trans N);have I:(L.set 8 l).set 7 [(K.F0,.cells [.slice h d b] 27 0 true)]=ss K x y z f ts ds ks (.slice h d b) l:=by rw[c.e];rfl
 rw[I]at w k;refine⟨_,bG ej (A.get 7 o) (by simp) (aV ..) (cK ..),.slice h d b,l,⟨rfl,w,c.dc.cP k,c.row.cP k,c.RK,?_,by rw[length_append];exact E⟩,k⟩;rw[map_append];exact q
end
end
section
theorem Fq:Nat.blt 107 YB=true:=by kernel_rfl
theorem aa1:Nat.blt 112 YB=true:=by kernel_rfl
section
variable {h0:aa} {K:KS} {T:eE} {ord:List NN} {outs:List (Option Nat)} {n:Nat} {tr0:uB} {xi:NN} {i ki N:Nat} {pre:List (Mv×NN)} {d:sL} {g g':aa} {L:List cC}
theorem QI(w0:Wf h0)(gA:Good T.A)(gB:Good T.B)(hn:n<=100000)(lo:ord.length=n)(al:∀j x,ord[j]?=some x->Co T.A T.B x->zZ outs j)(z9:ord[i]?=some xi){s:List Mv}(w9:tr0[i]?=some (some (s,d))){m:Mv}{P:NN}(hs:DL T.A T.B xi m P)(hx:∃t,ni ord P=some t)(hv:VD h0 K T ord outs n tr0 xi i ki N pre d g L):
  FW SS 112 [.agg ⟨rX m⟩,.agg ⟨kV P⟩,pA K.k7,pA K.k5,pA K.k8,pA K.iG,pA ki,pA K.WG,pA K.k9,pA K.WH,pA K.F0] g (λv g'=>v = .tuple ⟨[]⟩/\∃L',VD h0 K T ord outs n tr0 xi i ki N (pre++[(m,P)]) d g' L'/\eU g L g' L'):=by
 refine QH (rX m) (kV P) K.k7 K.k5 K.k8 K.iG ki K.WG K.k9 K.WH K.F0 g _ ⟨_,AN m,_,xj P,?_⟩;obtain⟨V,x,y,z,f,ts,ds,ks,W,tv,Gq,c,I,ex,kn,me,st⟩:=hv;have b1:=c.o.fg (iP m);obtain⟨c,H⟩:=c.grow ((Ok.refl c.o.ok.wf).push (iP m));generalize g.push (iP m)=g1 at*;have b2:=c.o.fg (dh P);obtain⟨c,M⟩:=c.grow ((Ok.refl c.o.ok.wf).push (dh P));have b1:=M _ _ b1;have H:=H.trans M;have I:=H _ _ I;generalize g1.push (dh P)=C at*;obtain⟨t,ht⟩:=hx;have x7:=rY ht;have G:t<n:=by have:=(List.getElem?_eq_some_iff.1 x7).1;omega
 have z5:i<n:=by have:=(List.getElem?_eq_some_iff.1 z9).1;omega
 have w8:jF SS.P 163 (.map (some K.km)) (.agg ⟨kV P⟩) false C=some (.int .i64 (t:Int)):=by
  have:=(Ac c.dc.mm.1 P).2;rw[ht]at this;exact this
 refine⟨_,c.num,_,dh.all b2.1,_,w8,_,c.Ec,ah (λhf=>?_) (λhf=>?_)⟩
 ·refine⟨rfl,L,⟨V,x,y,z,f,ts,ds,ks,W,tv,Gq,c,I,ex,kn,me,.inl ⟨hf,?_⟩⟩,H⟩;rcases st with⟨_,w⟩|⟨z7,_⟩
  ·exact w.cP H
  ·rw[hf]at z7;cases z7
 subst hf;obtain⟨hP,st⟩:(lJ T.A T.B xi->d=([],[]))/\∀w∈pre,HK T.A T.B ord V d w:=by
  rcases st with⟨h,_⟩|⟨_,h⟩
  ·cases h
  ·exact h
 have fin:∀{y4:uB},qn V y4->HK T.A T.B ord y4 d (m,P)->∀w∈pre++[(m,P)],HK T.A T.B ord y4 d w:=λhe hs w hw=>by
  rcases mem_append.1 hw with h|h
  ·exact(st w h).ext he
  ·obtain rfl:=mem_singleton.1 h;exact hs
 obtain⟨o,ho⟩:∃o,outs[t]?=some o:=⟨_,gE (by rw[c.dc.lo];exact G)⟩
 refine⟨_,_,_,c.rst,_,mF il jY G,_,c.out ho,_,FA _,ah (λq=>?_) (λq=>?_)⟩
 ·refine⟨rfl,L,⟨V,x,y,z,false,ts,ds,ks,W,tv,Gq,c,I,ex,kn,me,.inr ⟨rfl,hP,fin (qn.refl _) λhc=>?_⟩⟩,H⟩;obtain⟨k,hk⟩:=al t P x7 hc;rw[ho]at hk;obtain rfl:=oI hk
  cases q
 obtain⟨kr,rfl⟩:∃kr,o=some kr:=by
  cases o with
  |none=>cases q
  |some kr=>exact⟨kr,rfl⟩
 obtain⟨y6,ns,e,u7,lr,r2,f2,_,q4⟩:=c.dc.ok t kr ho;obtain rfl:P=y6:=oI (x7.symm.trans u7);have hi:=ex _ _ w9;obtain⟨u8,u4,v6,z0,q2⟩:=c.RK i s d hi;obtain rfl:xi=u8:=oI (z9.symm.trans u4);have r1:=v6.snoc hs;obtain⟨_,v0,w6⟩:=Vy gA gB hs;obtain⟨z1,z2⟩:=ve z0;have l1:(wL s).length<=s.length:=dK Mv.l s;have l2:(wR s).length<=s.length:=dK Mv.r s;have z4:=c.row.lt;have j5:=c.dc.lo;obtain⟨c3,x3⟩:=c.grow ((Ok.refl c.o.ok.wf).room 12);obtain⟨p,a,S,Q,O,D,E,w1,w2,w3,w4,w5⟩:=c3.ways hi;refine⟨_,_,_,c3.dly,_,(x3 _ _ I).ld lC lB,_,Yj z5,_,w3,_,iP.all (x3 _ _ b1).1,(Pt c3.o.ok.wf w4.rd w5.rd v0 w6 (by omega) (by omega)).mono ?_⟩;rintro j1 R ⟨e4,hr⟩;obtain⟨a,S,Q,O,D,E,x0,rfl,y9⟩:∃(a:Option Addr)(n c:Nat)(O:Option Addr)(n' c':Nat)(b:Bool),j1 = .tuple ⟨[.agg ⟨[.slice a n c,.slice O n' c']⟩,.bool b]⟩/\((b=false/\zF d m=none)\/(b=true/\∃l,zF d m=some l/\nh (room C 12) R 3 (.slice a n c) (l.1.map zV)/\nh (room C 12) R 3 (.slice O n' c') (l.2.map zV))):=by
  rcases hr with⟨h1,a,n,c,b,m,d,rfl⟩|⟨l,a,n,c,b,m,d,h1,rfl,h2,h3⟩
  ·exact⟨a,n,c,b,m,d,false,rfl,.inl ⟨rfl,h1⟩⟩
  ·exact⟨a,n,c,b,m,d,true,rfl,.inr ⟨rfl,l,h1,h2,h3⟩⟩
 obtain⟨e5,b5⟩:=Ou c.o.ok.wf (by omega:9<12) e4 (bT nA nA);have e6:Ok C ((bp.set (C.next+9) (bT (.slice a S Q) (.slice O D E))).app (aw R C.next [(9,bT nA nA)])):=e5.set (bT (.slice a S Q) (.slice O D E)) (Nat.le_add_right C.next 9) (e5.wf _ _ b5) c.o.ok.wf;have b6:((bp.set (C.next+9) (bT (.slice a S Q) (.slice O D E))).app (aw R C.next [(9,bT nA nA)])).get (C.next+9)=some (bT (.slice a S Q) (.slice O D E)):=by
  show((aw R C.next [(9,bT nA nA)]).set (C.next+9) (bT (.slice a S Q) (.slice O D E))).get (C.next+9)=_;rw[aa.ay,if_pos rfl]
 have u0:aj SS.P 175 (pA (C.next+9)) (.agg ⟨[.slice a S Q,.slice O D E]⟩) (aw R C.next [(9,bT nA nA)])=some (undef,.set (C.next+9) (bT (.slice a S Q) (.slice O D E))):=dM ur rfl b5 rfl (by simp[bw]);refine⟨_,x0,rfl,_,R7,_,u0,?_⟩;have y9:(x0=false/\zF d m=none)\/(x0=true/\∃l,zF d m=some l/\sM ((bp.set (C.next+9) (bT (.slice a S Q) (.slice O D E))).app (aw R C.next [(9,bT nA nA)])) L 3 (.slice a S Q) (l.1.map zV)/\sM ((bp.set (C.next+9) (bT (.slice a S Q) (.slice O D E))).app (aw R C.next [(9,bT nA nA)])) L 3 (.slice O D E) (l.2.map zV)):=by
  rcases y9 with h|⟨h,l,h1,h2,h3⟩
  ·exact .inl h
  ·exact .inr ⟨h,l,h1,nh.im (nh.set (by omega) h2 _ _) c.o,nh.im (nh.set (by omega) h3 _ _) c.o⟩
 have m6:=c.o.new (Nat.le_add_right C.next 9) b6;clear b5 e5 e4 hr u0;obtain⟨c,M⟩:=c.grow e6;have b1:=M _ _ b1;have H:=H.trans M;have I:=M _ _ I;have lr:=lr.mono M;clear e6 M b6 b2 w1 w2 w3 w4 w5 c3 x3;generalize (bp.set (C.next+9) (bT (.slice a S Q) (.slice O D E))).app (aw R C.next [(9,bT nA nA)])=U at*;obtain⟨c3,x3⟩:=c.grow ((Ok.refl c.o.ok.wf).room 8);obtain⟨p,_,_,_,_,_,_,w1,w2,_⟩:=c3.ways hi;have w2:nR (Im U L) p s.reverse:=w2.mono λk B m=>m;obtain⟨e8,b8⟩:=Ag c.o.ok.wf (n:=8) (j:=6) (by omega) (zp m p);refine⟨_,iP.all (x3 _ _ b1).1,_,_,_,c3.trl,_,(x3 _ _ I).ld lC lB,_,mF xX B0 z5,_,w1,_,KU m p,_,KY m p,?_⟩;have m8:=c.o.new (Nat.le_add_right U.next 6) b8;obtain⟨c,M⟩:=c.grow e8;have H:=H.trans M;have I:=M _ _ I;have lr:=lr.mono M;have m6:=M _ _ m6;have lt:nR (Im (aw (room U 8) U.next [(6,zp m p)]) L) (some ⟨U.next+6,0,none⟩) (s++[m]).reverse:=by
  rw[reverse_append];exact .cons m8 (w2.mono M)
 have hr:(x0=false/\zF d m=none)\/(x0=true/\∃l,zF d m=some l/\sM (aw (room U 8) U.next [(6,zp m p)]) L 3 (.slice a S Q) (l.1.map zV)/\sM (aw (room U 8) U.next [(6,zp m p)]) L 3 (.slice O D E) (l.2.map zV)):=y9.imp id λ⟨h,l,h1,h2,h3⟩=>⟨h,l,h1,h2.cP M,h3.cP M⟩
 clear w1 w2 c3 x3 b8 e8 b1 m8 M;change abn (aw (room U 8) U.next [(6,zp m p)]) _;generalize q3:U.next+6=k6 at*;generalize q0:C.next+9=k9 at*;unfold abn;generalize aw (room U 8) U.next [(6,zp m p)]=g6 at*;have hl:(s++[m]).length+ns.length<=1000000:=by rw[length_append,length_singleton];omega
 refine ah (λq=>?_) (λq=>?_)
 ·have q:x0=false:=by simpa using q
  have hd:zF d m=none:=by
   rcases hr with⟨_,h⟩|⟨h,_⟩
   ·exact h
   ·rw[q]at h;cases h
  have x4:=XM (ns:=ns) (by rw[A2 (m:=m) z0];exact hd);obtain⟨J,r⟩:=c.grow ((Ok.refl c.o.ok.wf).room 8);refine⟨_,_,_,J.prv,_,_,_,J.rst,_,mF il jY G,_,J.out ho,ah (λ_=>?_) (λq=>by rw[Fq]at q;cases q)⟩;refine(J.prove w0 gA gB (lt.mono r) (lr.mono r) r1 r2 f2 hl).mono ?_;rintro _ g7 ⟨rfl,x',y',z',x6,F,hw⟩;obtain⟨u,s1,Z,A⟩:=x6.found w0 (!decide (wL (s++[m]++ns)=wR (s++[m]++ns)));have ct:=H.trans (r.trans (F.trans A));exact⟨_,rfl,_,s1,rfl,_,⟨V,x',y',z',_,ts,ds,ks,W,tv,Gq,Z,(r.trans (F.trans A)) _ _ I,ex,kn,me,.inl ⟨by rw[decide_eq_false x4];rfl,(hw x4).cP A⟩⟩,ct⟩
 ·have q:x0=true:=by simpa using q
  obtain⟨l,y5,rl,rr⟩:∃l,zF d m=some l/\sM g6 L 3 (.slice a S Q) (l.1.map zV)/\sM g6 L 3 (.slice O D E) (l.2.map zV):=by
   rcases hr with⟨h,_⟩|⟨_,h⟩
   ·rw[q]at h;cases h
   ·exact h
  clear hr;have y0:iD (wL (s++[m])) (wR (s++[m]))=some l:=by rw[A2 (m:=m) z0];exact y5
  obtain⟨o',Y⟩:∃o',V[t]?=some o':=⟨_,gE (by rw[z4];exact G)⟩
  refine⟨_,_,_,c.knw,_,mF q68 q4s G,_,c.adp Y,ah (λq=>?_) (λq=>?_)⟩
  ·
   obtain rfl:o'=none:=by
    cases o' with
    |none=>rfl
    |some v=>cases q
   obtain⟨J,r⟩:=c.grow ((Ok.refl c.o.ok.wf).room 14);have m9:=r _ _ m6;obtain⟨u1,s1,u2,s2,u3,s3,⟨L1,x1⟩,⟨L2,x2⟩,x6,F⟩:=J.put w0 Y x7 r1 y0 (by rw[length_append,length_singleton];omega) (lt.mono r) (aV ..) (aV ..) (rl.cP r) (rr.cP r);refine⟨_,_,_,J.knw,_,_,_,J.dly,_,_,_,J.trl,_,bT.all m9.1,_,mF q68 q4s G,_,s1,_,Yj G,_,s2,_,mF xX B0 G,_,s3,⟨(x1 _ _ J.dc.m11).ld Zb aau,CA ..⟩,⟨(x1 _ _ J.dc.m10).ld xX JA,CA ..⟩,⟨(x2 _ _ J.dc.m10).ld xX JA,CA ..⟩,⟨bT.all (x1 _ _ m9).1,ZM (Ce rl.rd) (Ce rr.rd)⟩,?_⟩;have q7:=jb (s++[m],l) Y;have j6:=c.bd;generalize u3.app (u2.app (u1.app (room g6 14)))=g7 at*;obtain⟨a9,q8,j8,h1,j9,j7,j4,u,h2,u',h3,v7,j2,Z,A⟩:=x6.push w0 t (by omega) hn;have he:qn V (V.set t (some (s++[m],l))):=qn.set Y _;have z8:(V.set t (some (s++[m],l)))[t]?=some (some (s++[m],l)):=by rw[getElem?_set,if_pos rfl,if_pos (by rw[z4];exact G)]
   refine⟨_,_,_,h1,_,_,_,tG _,_,_,_,_,h2,_,h3,rfl,_,⟨_,x,y,z,false,_,_,_,_,v7,j2,Z,(r.trans (F.trans A)) _ _ I,ex.trans he,⟨λk hk=>?_,λk hk=>?_⟩,by rw[length_append,length_singleton];omega,.inr ⟨rfl,hP,fin he λ_=>⟨t,l,_,ht,y5,z8⟩⟩⟩,H.trans (r.trans (F.trans A))⟩
   ·by_cases ek:k=t
    ·subst ek;exact .inl (List.mem_append_right _ (mem_singleton.2 rfl))
    ·have z6:Ty V k:=by
      obtain⟨v,hv⟩:=hk;rw[getElem?_set,if_neg (λe=>ek e.symm)]at hv;exact⟨v,hv⟩
     rcases kn.1 k z6 with h|h|h
     ·exact .inl (List.mem_append_left _ h)
     ·exact .inr (.inl h)
     ·exact .inr (.inr (h.ext z6 he))
   ·rcases mem_append.1 hk with h|h
    ·exact(kn.2 k h).ext he
    ·rw[mem_singleton.1 h];exact⟨_,z8⟩
  ·
   obtain⟨⟨y3,d2⟩,rfl⟩:∃v,o'=some v:=by
    cases o' with
    |none=>cases q
    |some v=>exact⟨v,rfl⟩
   obtain⟨y6,u5,z3,u6,j3⟩:=c.RK t y3 d2 Y;obtain rfl:P=y6:=oI (x7.symm.trans u5);obtain⟨J,r⟩:=c.grow ((Ok.refl c.o.ok.wf).room 8);have m9:=r _ _ m6;obtain⟨p2,b,n2,f1,b',q6,q5,v1,v2,v3,v4,v5⟩:=J.ways Y;obtain⟨y1,y2⟩:=ve y0;have j0:(wL (s++[m])).length<=(s++[m]).length:=dK Mv.l _;have w7:(wR (s++[m])).length<=(s++[m]).length:=dK Mv.r _;rw[length_append,length_singleton]at hl;refine⟨_,bT.all m9.1,_,_,_,J.dly,_,Yj G,_,v3,(Ib J.o.ok.wf (x:=l) (y:=d2) (rl.cP r).rd (rr.cP r).rd v4.rd v5.rd (by rw[length_append,length_singleton]at j0;omega) (by rw[length_append,length_singleton]at w7;omega)).mono ?_⟩;rintro _ g7 ⟨rfl,e7⟩;obtain⟨x6,F⟩:=J.grow e7;have H:=H.trans (r.trans F);have I:=(r.trans F) _ _ I;have lt:=lt.mono (r.trans F);have lr:=lr.mono (r.trans F);refine⟨_,rfl,ah (λq=>?_) (λq=>?_)⟩
   ·have y8:l≠d2:=by simpa using q
    have u9:=XO r1 z3 y0 u6 y8 r2 f2;obtain⟨Z,A⟩:=x6.grow ((Ok.refl x6.o.ok.wf).room 20);refine⟨_,_,_,Z.prv,_,_,_,Z.rst,_,mF il jY G,_,Z.out ho,ah (λ_=>?_) (λq=>by rw[Fq]at q;cases q)⟩;refine(Z.prove w0 gA gB (lt.mono A) (lr.mono A) r1 r2 f2 (by rw[length_append,length_singleton];omega)).mono ?_;rintro _ g8 ⟨rfl,x',y',z',x5,x9,hw⟩;have H:=H.trans (A.trans x9);have I:=(A.trans x9) _ _ I;refine⟨_,rfl,ah (λq=>?_) (λq=>?_)⟩
    ·have x4:wL (s++[m]++ns)≠wR (s++[m]++ns):=by simpa using q
     obtain⟨u,s1,y7,X⟩:=x5.found w0 true;exact⟨_,s1,rfl,_,⟨V,x',y',z',_,ts,ds,ks,W,tv,Gq,y7,X _ _ I,ex,kn,me,.inl ⟨rfl,(hw x4).cP X⟩⟩,H.trans X⟩
    ·have v9:wL (s++[m]++ns)=wR (s++[m]++ns):=by simpa using q
     have x4:=u9.resolve_left λh=>h v9;obtain⟨p3,_,_,_,_,_,_,t1,t2,_⟩:=x5.ways Y;refine⟨_,_,_,x5.prv,_,_,_,x5.trl,_,mF xX B0 G,_,t1,_,_,_,x5.rst,_,mF il jY G,_,x5.out ho,ah (λ_=>?_) (λq=>by rw[Fq]at q;cases q)⟩;refine(x5.prove w0 gA gB t2 (lr.mono (A.trans x9)) z3 r2 f2 (by omega)).mono ?_;rintro _ g9 ⟨rfl,x',y',z',y7,X,hw⟩;obtain⟨u,s1,v8,x8⟩:=y7.found w0 (!decide (wL (y3++ns)=wR (y3++ns)));exact⟨_,rfl,_,s1,rfl,_,⟨V,x',y',z',_,ts,ds,ks,W,tv,Gq,v8,(X.trans x8) _ _ I,ex,kn,me,.inl ⟨by rw[decide_eq_false x4];rfl,(hw x4).cP x8⟩⟩,H.trans (X.trans x8)⟩
   ·have y8:l=d2:=by simpa using q
    subst y8;exact⟨rfl,L,⟨V,x,y,z,false,ts,ds,ks,W,tv,Gq,x6,I,ex,kn,me,.inr ⟨rfl,hP,fin (qn.refl _) λ_=>⟨t,l,y3,ht,y5,Y⟩⟩⟩,H⟩
end
end
noncomputable def gf:FD:=dY Tryz.f47 [([1,1,1,1,1,1,1,1,1,1,1,0,0,0],[1,2,3,4,5,6,7,8,9,10,11,12,13])]
abbrev dP(i h o j k m g l d b e f:Nat)(a:OA)(n c:Nat)(z:Unit):LV:=[(pA i),(pA h),(pA o),(pA j),(pA k),(.slice a n c),(pA m),(pA g),(pA l),(pA d),(pA b),(pA e),(pA f)]
theorem Mc(pv:LV)(h:aa)(Q:VH)(hx:xN (dp SS.P 66 (.agg ⟨pv⟩)) h λB1 c=>xN (aA SS.P 27) c λB3 d=>xN (aA SS.P 27) d λB5 e=>xN (aA SS.P 27) e λB7 f=>xN (aA SS.P 4) f λB9 J=>xP (af SS.P 66 (pA (h.next)) 0) λy6=>xA (ae SS.P 24 J (.pointer (some y6))) λz4=>FW SS 104 [(.agg ⟨z4⟩)] J λy9 n=>yB y9 λx4=>aS x4 (xU (aj SS.P 27 (pA (c.next)) nA n) n λw4 K=>xU (aj SS.P 27 (pA (d.next)) nA K) K λw8 E=>xU (aj SS.P 27 (pA (e.next)) nA E) E λv0 G=>xU (aj SS.P 4 (pA (f.next)) (.bool false) G) G λv4 x8=>dq SS [((pA (c.next)),some 27),((pA (d.next)),some 27),((pA (e.next)),some 27),((pA (f.next)),some 4)] x8 Q) (xP (af SS.P 66 (pA (h.next)) 1) λy3=>xA (ae SS.P 24 n (.pointer (some y3))) λx0=>FW SS 104 [(.agg ⟨x0⟩)] n λy5 k=>yB y5 λy1=>aS y1 (xU (aj SS.P 27 (pA (c.next)) nA k) k λu2 I=>xU (aj SS.P 27 (pA (d.next)) nA I) I λv6 D=>xU (aj SS.P 27 (pA (e.next)) nA D) D λu4 v=>xU (aj SS.P 4 (pA (f.next)) (.bool false) v) v λv9 x6=>dq SS [((pA (c.next)),some 27),((pA (d.next)),some 27),((pA (e.next)),some 27),((pA (f.next)),some 4)] x6 Q) (xA (ae SS.P 66 k (pA (h.next))) λy2=>FW SS 105 [(.agg ⟨y2⟩)] k λz1 m=>∃(s:OA) (a q:Nat),∃N:Value,z1=(.tuple ⟨[(.slice s a q),N]⟩)/\xN (aA SS.P 163) m λv8 H=>xU (aj SS.P 163 (pA (m.next)) N H) H λv5 p=>xA (ae SS.P 66 p (pA (h.next))) λy0=>xV (ae SS.P 163 p (pA (m.next))) λz0=>FW SS 106 [(.agg ⟨y0⟩),(.slice s a q),z0] p λx2 j=>yL x2 λy7 X z2=>xN (aA SS.P 166) j λw5 O=>xU (aj SS.P 166 (pA (j.next)) (.slice y7 X z2) O) O λw2 b=>xL (ae SS.P 166 b (pA (j.next))) λy4 x3 x7=>xP (ai SS.P 166 (.slice y4 x3 x7) (.int .i64 0)) λy8=>xO (ae SS.P 168 b (.pointer (some y8))) λz6=>xB (ax SS.P .eql 168 (.pointer z6) (.pointer none)) λx5=>aS x5 (xU (aj SS.P 27 (pA (c.next)) nA b) b λu3 L=>xU (aj SS.P 27 (pA (d.next)) nA L) L λw6 F=>xU (aj SS.P 27 (pA (e.next)) nA F) F λv3 z=>xU (aj SS.P 4 (pA (f.next)) (.bool false) z) z λw3 z7=>dq SS [((pA (c.next)),some 27),((pA (d.next)),some 27),((pA (e.next)),some 27),((pA (f.next)),some 4)] z7 Q) (xN (aA SS.P 171) b λw1 B=>xU (aj SS.P 171 (pA (b.next)) (.func (.func 107) ⟨[]⟩ ⟨[(pA (c.next)),(pA (d.next)),(pA (e.next))]⟩) B) B λu8 w=>xR (aX SS.P 109 (iA a) (iA a)) w λv1 x9 Z u=>xN (aA SS.P 109) u λu7 M=>xU (aj SS.P 109 (pA (u.next)) (sA (w.next) x9 Z) M) M λw0 y=>xR (aX SS.P 172 (iA a) (iA a)) y λv2 Y z5 r=>xN (aA SS.P 172) r λu6 C=>xU (aj SS.P 172 (pA (r.next)) (sA (y.next) Y z5) C) C λu9 A=>xR (aX SS.P 68 (iA a) (iA a)) A λu5 z3 x1 l=>xN (aA SS.P 68) l λv7 x=>xU (aj SS.P 68 (pA (l.next)) (sA (A.next) z3 x1) x) x λw7 i=>xL (ae SS.P 68 i (pA (l.next))) λW T U=>xP (ai SS.P 68 (.slice W T U) (.int .i64 0)) λS=>xU (aj SS.P 4 (.pointer (some S)) (.bool true) i) i λu1 t=>xR (az SS.P 27 1 [(0,(.int .i64 0))]) t λz9 V P g=>xN (aA SS.P 27) g λz8 o=>xU (aj SS.P 27 (pA (g.next)) (sA (t.next) V P) o) o λu0 R=>LL SS gf [1,1,1,1,1,1,1,1,1,1,1,0,0,0] [(pA (h.next)),(pA (c.next)),(pA (d.next)),(pA (e.next)),(pA (f.next)),(.slice s a q),(pA (m.next)),(pA (j.next)),(pA (b.next)),(pA (u.next)),(pA (r.next)),(pA (l.next)),(pA (g.next))] R (KK SS gf [1,1,1,1,1,1,1,1,1,1,1,0,0] [] (EE SS gf Q)))))):FW SS 47 [(.agg ⟨pv⟩)] h Q:=eh gf Tryz.func47 (av hx)
theorem ud(pv:LV)(v k g f d x u w j i l e:Nat)(a:OA)(n c:Nat)(y:Nat->Unit->aa->Prop)(Q:VH)(step:∀(B:Nat) (z:Unit) (zz:Nat->Value) (h:aa),y B z h->xL (ae SS.P 27 h (pA e)) λY0 w5 Y2=>aS (decide (((w5:Int):Int)>0)) (xB (ae SS.P 4 h (pA d)) λj8=>aS (!j8) (xL (ae SS.P 27 h (pA e)) λw6 v2 j7=>xP (ai SS.P 27 (.slice w6 v2 j7) (.int .i64 0)) λv5=>xI .i64 (ae SS.P 3 h (.pointer (some v5))) λz1=>xN (aA SS.P 3) h λY4 O=>xU (aj SS.P 3 (pA (h.next)) (.int .i64 z1) O) O λX9 I=>xL (ae SS.P 27 I (pA e)) λv7 q1 v3=>xL (bE SS.P 27 (.slice v7 q1 v3) (some (.int .i64 1)) none none I) λw8 z8 y6=>xU (aj SS.P 27 (pA e) (.slice w8 z8 y6) I) I λq5 G=>xA (ae SS.P 66 (room G 15) (pA v)) λu6=>xI .i64 (ae SS.P 3 (room G 15) (pA (h.next))) λw3=>xP (ai SS.P 162 (.slice a n c) (.int .i64 w3)) λj6=>xA (ae SS.P 105 (room G 15) (.pointer (some j6))) λj2=>FW SS 109 [(.agg ⟨u6⟩),(.agg ⟨j2⟩)] (room G 15) λx2 m=>yB x2 λv8=>aS v8 (xL (ae SS.P 172 m (pA i)) λv9 y8 j3=>xI .i64 (ae SS.P 3 m (pA (h.next))) λy0=>xP (ai SS.P 172 (.slice v9 y8 j3) (.int .i64 y0)) λz3=>xA (ae SS.P 175 m (.pointer (some z3))) λv4=>xA (aD SS.P 175 []) λy2=>FW SS 110 [(.agg ⟨v4⟩),(.agg ⟨y2⟩)] m λy7 b=>yB y7 λx7=>aS (!x7) (xF (ae SS.P 171 (room b 11) (pA w)) λT j9 w1=>xL (ae SS.P 109 (room b 11) (pA j)) λw7 x3 z9=>xI .i64 (ae SS.P 3 (room b 11) (pA (h.next))) λu2=>xP (ai SS.P 109 (.slice w7 x3 z9) (.int .i64 u2)) λu5=>xO (ae SS.P 112 (room b 11) (.pointer (some u5))) λu4=>xL (ae SS.P 166 (room b 11) (pA u)) λz4 z7 j4=>xI .i64 (ae SS.P 3 (room b 11) (pA (h.next))) λq0=>xP (ai SS.P 166 (.slice z4 z7 j4) (.int .i64 q0)) λx6=>xO (ae SS.P 168 (room b 11) (.pointer (some x6))) λq2=>aS (Nat.blt T YB) (FW SS T (j9++[(.pointer u4),(.pointer q2)]++w1) (room b 11) λv0 R=>yB v0 λu9=>xU (aj SS.P 4 (pA d) (.bool u9) R) R λX6 H=>xA (ae SS.P 66 (room H 7) (pA v)) λq3=>xI .i64 (ae SS.P 3 (room H 7) (pA (h.next))) λu8=>xP (ai SS.P 162 (.slice a n c) (.int .i64 u8)) λu1=>xA (ae SS.P 105 (room H 7) (.pointer (some u1))) λw4=>FW SS 111 [(.agg ⟨q3⟩),(.agg ⟨w4⟩),(.func (.func 112) ⟨[]⟩ ⟨[(pA x),(pA d),(pA u),(pA i),(pA (h.next)),(pA j),(pA w),(pA l),(pA e)]⟩)] (room H 7) λw9 x4=>w9=(.tuple ⟨[]⟩)/\aH (fD (dP v k g f d x u w j i l e a n c) y) B [(pA v),(pA k),(pA g),(pA f),(pA d),(.slice a n c),(pA x),(pA u),(pA w),(pA j),(pA i),(pA l),(pA e)] x4) False) (xA (ae SS.P 66 (room b 7) (pA v)) λj1=>xI .i64 (ae SS.P 3 (room b 7) (pA (h.next))) λz5=>xP (ai SS.P 162 (.slice a n c) (.int .i64 z5)) λw2=>xA (ae SS.P 105 (room b 7) (.pointer (some w2))) λz6=>FW SS 111 [(.agg ⟨j1⟩),(.agg ⟨z6⟩),(.func (.func 112) ⟨[]⟩ ⟨[(pA x),(pA d),(pA u),(pA i),(pA (h.next)),(pA j),(pA w),(pA l),(pA e)]⟩)] (room b 7) λx5 y1=>x5=(.tuple ⟨[]⟩)/\aH (fD (dP v k g f d x u w j i l e a n c) y) B [(pA v),(pA k),(pA g),(pA f),(pA d),(.slice a n c),(pA x),(pA u),(pA w),(pA j),(pA i),(pA l),(pA e)] y1)) (xA (ae SS.P 66 (room m 7) (pA v)) λx1=>xI .i64 (ae SS.P 3 (room m 7) (pA (h.next))) λx8=>xP (ai SS.P 162 (.slice a n c) (.int .i64 x8)) λu0=>xA (ae SS.P 105 (room m 7) (.pointer (some u0))) λv1=>FW SS 111 [(.agg ⟨x1⟩),(.agg ⟨v1⟩),(.func (.func 112) ⟨[]⟩ ⟨[(pA x),(pA d),(pA u),(pA i),(pA (h.next)),(pA j),(pA w),(pA l),(pA e)]⟩)] (room m 7) λy3 w0=>y3=(.tuple ⟨[]⟩)/\aH (fD (dP v k g f d x u w j i l e a n c) y) B [(pA v),(pA k),(pA g),(pA f),(pA d),(.slice a n c),(pA x),(pA u),(pA w),(pA j),(pA i),(pA l),(pA e)] w0)) (xB (ae SS.P 4 h (pA d)) λy9=>aS (!y9) (xU (aj SS.P 27 (pA k) nA h) h λq7 W=>xU (aj SS.P 27 (pA g) nA W) W λX4 S=>xU (aj SS.P 27 (pA f) nA S) S λq8 X=>xU (aj SS.P 4 (pA d) (.bool false) X) X λX3 y5=>dq SS [((pA k),some 27),((pA g),some 27),((pA f),some 27),((pA d),some 4)] y5 Q) (xL (ae SS.P 27 (room h 7) (pA k)) λj5 y4 j0=>xL (ae SS.P 27 (room h 7) (pA g)) λJ A L=>xL (ae SS.P 27 (room h 7) (pA f)) λt r o=>xU (aj SS.P 27 (pA k) (.slice j5 y4 j0) (room h 7)) (room h 7) λq9 K=>xU (aj SS.P 27 (pA g) (.slice J A L) K) K λY5 N=>xU (aj SS.P 27 (pA f) (.slice t r o) N) N λX1 P=>xU (aj SS.P 4 (pA d) (.bool true) P) P λX5 v6=>(ae SS.P 27 K (pA g)=some (.slice J A L)/\df 4 (.slice J A L) (.slice J A L)=true)/\(ae SS.P 27 K (pA f)=some (.slice t r o)/\df 4 (.slice t r o) (.slice t r o)=true)/\(ae SS.P 27 N (pA f)=some (.slice t r o)/\df 4 (.slice t r o) (.slice t r o)=true)/\dq SS [((pA k),some 27),((pA g),some 27),((pA f),some 27),((pA d),some 4)] v6 Q))) (xB (ae SS.P 4 h (pA d)) λu7=>aS (!u7) (xU (aj SS.P 27 (pA k) nA h) h λX8 U=>xU (aj SS.P 27 (pA g) nA U) U λq4 V=>xU (aj SS.P 27 (pA f) nA V) V λY1 Y=>xU (aj SS.P 4 (pA d) (.bool false) Y) Y λY3 z2=>dq SS [((pA k),some 27),((pA g),some 27),((pA f),some 27),((pA d),some 4)] z2 Q) (xL (ae SS.P 27 (room h 7) (pA k)) λu3 x9 x0=>xL (ae SS.P 27 (room h 7) (pA g)) λC D E=>xL (ae SS.P 27 (room h 7) (pA f)) λp s q=>xU (aj SS.P 27 (pA k) (.slice u3 x9 x0) (room h 7)) (room h 7) λq6 F=>xU (aj SS.P 27 (pA g) (.slice C D E) F) F λX2 M=>xU (aj SS.P 27 (pA f) (.slice p s q) M) M λX0 Z=>xU (aj SS.P 4 (pA d) (.bool true) Z) Z λX7 z0=>(ae SS.P 27 F (pA g)=some (.slice C D E)/\df 4 (.slice C D E) (.slice C D E)=true)/\(ae SS.P 27 F (pA f)=some (.slice p s q)/\df 4 (.slice p s q) (.slice p s q)=true)/\(ae SS.P 27 M (pA f)=some (.slice p s q)/\df 4 (.slice p s q) (.slice p s q)=true)/\dq SS [((pA k),some 27),((pA g),some 27),((pA f),some 27),((pA d),some 4)] z0 Q)))(B:Nat){z:Unit}{h:aa}(hi:y B z h):LL SS gf [1,1,1,1,1,1,1,1,1,1,1,0,0,0] (dP v k g f d x u w j i l e a n c z) h (KK SS gf [1,1,1,1,1,1,1,1,1,1,1,0,0] [] (EE SS gf Q)):=
 dN (dP v k g f d x u w j i l e a n c) y (λB z zz h hi=>av (step B z zz h hi)) B hi
noncomputable def E8:FD:=dY Tryz.f14 []
theorem CU(q:LV)(h:aa)(Q:VH)(A:xN (dp SS.P 24 (.agg ⟨q⟩)) h λF t=>xA (ae SS.P 24 t (pA (h.next))) λB=>FW SS 39 [(.agg ⟨B⟩)] t λz b=>∃m:LV,∃o:Int,z=(.tuple ⟨[(.agg ⟨m⟩),(.int .i64 o)]⟩)/\xN (aA SS.P 24) b λG x=>xU (aj SS.P 24 (pA (b.next)) (.agg ⟨m⟩) x) x λC a=>aS (((o:Int) !=0)) (Q (.tuple ⟨[(.bool false),nA,nA,nA,(.int .i64 o)]⟩) a) (xP (af SS.P 24 (pA (b.next)) 3) λu=>xL (ae SS.P 22 a (.pointer (some u))) λD s E=>aS (decide (((s:Int):Int)>200)) (Q (.tuple ⟨[(.bool false),nA,nA,nA,(.int .i64 2)]⟩) a) (xA (ae SS.P 24 a (pA (b.next))) λv=>xA (ae SS.P 24 a (pA (b.next))) λp=>xA (aD SS.P 66 [(0,(.agg ⟨v⟩)),(1,(.agg ⟨p⟩))]) λr=>FW SS 47 [(.agg ⟨r⟩)] a λw y=>∃(f:OA) (n d:Nat),∃(g:OA) (c i:Nat),∃(l:OA) (j k:Nat),∃e:Bool,w=(.tuple ⟨[(.slice f n d),(.slice g c i),(.slice l j k),(.bool e)]⟩)/\Q (.tuple ⟨[(.bool (!e)),(.slice f n d),(.slice g c i),(.slice l j k),(.int .i64 0)]⟩) y))):FW SS 14 [(.agg ⟨q⟩)] h Q:=eh E8 Tryz.func14 (av A)
section
theorem Lf{a b c d:Value}{t g e f:TypeId}{n q:Value}(j:ae X.P t h a=some v)(l:ae X.P g h b=some w)(i:ae X.P e h c=some n)(m:ae X.P f h d=some q)(k:Q (.tuple ⟨[v,w,n,q]⟩) h):dq X [(a,some t),(b,some g),(c,some e),(d,some f)] h Q:=by
 unfold dq;simp only[JH,j,l,i,m];exact k
def vi(h:aa)(A B:aG):VH:=λv g=>∃(a:Option Addr)(n c:Nat)(l:Option Addr)(k j:Nat)(d:Option Addr)(b i:Nat)(f:Bool),v = .tuple ⟨[.slice a n c,.slice l k j,.slice d b i,.bool f]⟩/\Ok h g/\((f=false/\Value.slice a n c=nA/\Value.slice l k j=nA/\Value.slice d b i=nA/\Aq A B)\/(f=true/\∃p e,PR A B (sI A B) p e/\lJ A B e/\wL p≠wR p/\p.length<=1000000/\Rd g 3 (.slice a n c) ((wI p).map zV)/\Rd g 3 (.slice l k j) ((wL p).map zV)/\Rd g 3 (.slice d b i) ((wR p).map zV)))
section
variable {h0:aa} {K:KS} {T:eE} {ord:List NN} {outs:List (Option Nat)} {n:Nat} {tr:uB} {x y z:Value} {f:Bool} {ts ds ks:List Value} {todo:List Nat} {tv:Value} {Gq:cC} {g g':aa} {L:List cC}
theorem VC.words(d:Wf h0)(c:VC h0 K T ord outs n tr x y z f ts ds ks todo tv Gq g L)(v:Value)(h:bw v=true)(i:v.cells = #[v]):
  (∃u:bp,aj SS.P 27 (pA K.k2) v g=some (undef,u)/\VC h0 K T ord outs n tr v y z f ts ds ks todo tv Gq (u.app g) (ss K v y z f ts ds ks tv Gq)/\eU g L (u.app g) (ss K v y z f ts ds ks tv Gq))/\
  (∃u:bp,aj SS.P 27 (pA K.k3) v g=some (undef,u)/\VC h0 K T ord outs n tr x v z f ts ds ks todo tv Gq (u.app g) (ss K x v z f ts ds ks tv Gq)/\eU g L (u.app g) (ss K x v z f ts ds ks tv Gq))/\
  (∃u:bp,aj SS.P 27 (pA K.k4) v g=some (undef,u)/\VC h0 K T ord outs n tr x y v f ts ds ks todo tv Gq (u.app g) (ss K x y v f ts ds ks tv Gq)/\eU g L (u.app g) (ss K x y v f ts ds ks tv Gq)):=by
 have l:L[0]?=some (jh K.k2 x):=by rw[c.e];rfl
 have j:L[1]?=some (jh K.k3 y):=by rw[c.e];rfl
 have k:L[2]?=some (jh K.k4 z):=by rw[c.e];rfl
 refine⟨?_,?_,?_⟩
 ·obtain⟨b,a⟩:=c.o.kJ d 0 l (.cells [v] 27 0 true);have e:L.set 0 [(K.k2,.cells [v] 27 0 true)]=ss K v y z f ts ds ks tv Gq:=by rw[c.e];rfl
  rw[e]at b a;exact⟨_,bG ej (c.o.get 0 l) (by simp) h i,⟨rfl,b,c.dc.cP a,c.row.cP a,c.RK,c.td,c.bd⟩,a⟩
 ·obtain⟨b,a⟩:=c.o.kJ d 1 j (.cells [v] 27 0 true);have e:L.set 1 [(K.k3,.cells [v] 27 0 true)]=ss K x v z f ts ds ks tv Gq:=by rw[c.e];rfl
  rw[e]at b a;exact⟨_,bG ej (c.o.get 1 j) (by simp) h i,⟨rfl,b,c.dc.cP a,c.row.cP a,c.RK,c.td,c.bd⟩,a⟩
 ·obtain⟨b,a⟩:=c.o.kJ d 2 k (.cells [v] 27 0 true);have e:L.set 2 [(K.k4,.cells [v] 27 0 true)]=ss K x y v f ts ds ks tv Gq:=by rw[c.e];rfl
  rw[e]at b a;exact⟨_,bG ej (c.o.get 2 k) (by simp) h i,⟨rfl,b,c.dc.cP a,c.row.cP a,c.RK,c.td,c.bd⟩,a⟩
theorem VC.Kt(c:VC h0 K T ord outs n tr x y z f ts ds ks todo tv Gq g L):ae SS.P 27 g (pA K.k2)=some x/\ae SS.P 27 g (pA K.k3)=some y/\ae SS.P 27 g (pA K.k4)=some z:=by
 have d:L[0]?=some (jh K.k2 x):=by rw[c.e];rfl
 have a:L[1]?=some (jh K.k3 y):=by rw[c.e];rfl
 have b:L[2]?=some (jh K.k4 z):=by rw[c.e];rfl
 exact⟨aR cO gM (c.o.get 0 d) (by simp),aR cO gM (c.o.get 1 a) (by simp),aR cO gM (c.o.get 2 b) (by simp)⟩
theorem VC.pop(l:Wf h0){i:Nat}{b:List Nat}(c:VC h0 K T ord outs n tr x y z f ts ds ks (i::b) tv Gq g L):∃(a:Option Addr)(m cc:Nat),bE SS.P 27 tv (some (.int .i64 1)) none none g=some (.slice a m cc)/\∃u:bp,aj SS.P 27 (pA K.F0) (.slice a m cc) g=some (undef,u)/\VC h0 K T ord outs n tr x y z f ts ds ks b (.slice a m cc) Gq (u.app g) (ss K x y z f ts ds ks (.slice a m cc) Gq)/\eU g L (u.app g) (ss K x y z f ts ds ks (.slice a m cc) Gq):=by
 have k:L[7]?=some (jh K.F0 tv):=by rw[c.e];rfl
 have p:L[8]?=some Gq:=by rw[c.e];rfl
 obtain⟨a,m,cc,o,h⟩:=dw.tail (g:=g) (x:=iv i) (vs:=b.map iv) cO wM c.td (c.o.PH p);obtain⟨j,d⟩:=c.o.kJ l 7 k (.cells [.slice a m cc] 27 0 true);have e:L.set 7 [(K.F0,.cells [.slice a m cc] 27 0 true)]=ss K x y z f ts ds ks (.slice a m cc) Gq:=by rw[c.e];rfl
 rw[e]at j d;exact⟨a,m,cc,o,_,bG ej (c.o.get 7 k) (by simp) (aV ..) (cK ..),⟨rfl,j,c.dc.cP d,c.row.cP d,c.RK,h,by have:=c.bd;rw[length_cons]at this;omega⟩,d⟩
theorem VC.ldt(c:VC h0 K T ord outs n tr x y z f ts ds ks todo tv Gq g L):ae SS.P 27 g (pA K.F0)=some tv/\Rd g 3 tv (todo.map iv)/\∃(a:Option Addr)(cc:Nat),tv = .slice a todo.length cc:=by
 have d:L[7]?=some (jh K.F0 tv):=by rw[c.e];rfl
 have b:L[8]?=some Gq:=by rw[c.e];rfl
 obtain⟨a,cc,h⟩:=c.td.oa;rw[lM]at h;exact⟨aR cO gM (c.o.get 7 d) (by simp),c.td.rd c.o b,a,cc,h⟩
theorem Ig(s:Wf h0)(c:VC h0 K T ord outs n tr x y z f ts ds ks todo tv Gq g L)(P:(f=true/\WR T.A T.B g L x y z)\/(f=false/\Aq T.A T.B)):
  xB (ae SS.P 4 g (pA K.k5)) λG=>aS (!G) (xU (aj SS.P 27 (pA K.k2) nA g) g λS B=>xU (aj SS.P 27 (pA K.k3) nA B) B λx2 A=>xU (aj SS.P 27 (pA K.k4) nA A) A λX C=>xU (aj SS.P 4 (pA K.k5) (.bool false) C) C λx1 F=>dq SS [((pA K.k2),some 27),((pA K.k3),some 27),((pA K.k4),some 27),((pA K.k5),some 4)] F (vi h0 T.A T.B)) (xL (ae SS.P 27 (room g 7) (pA K.k2)) λJ E I=>xL (ae SS.P 27 (room g 7) (pA K.k3)) λm l r=>xL (ae SS.P 27 (room g 7) (pA K.k4)) λj d b=>xU (aj SS.P 27 (pA K.k2) (.slice J E I) (room g 7)) (room g 7) λZ o=>xU (aj SS.P 27 (pA K.k3) (.slice m l r) o) o λx4 v=>xU (aj SS.P 27 (pA K.k4) (.slice j d b) v) v λx0 w=>xU (aj SS.P 4 (pA K.k5) (.bool true) w) w λx3 H=>(ae SS.P 27 o (pA K.k3)=some (.slice m l r)/\df 4 (.slice m l r) (.slice m l r)=true)/\(ae SS.P 27 o (pA K.k4)=some (.slice j d b)/\df 4 (.slice j d b) (.slice j d b)=true)/\(ae SS.P 27 v (pA K.k4)=some (.slice j d b)/\df 4 (.slice j d b) (.slice j d b)=true)/\dq SS [((pA K.k2),some 27),((pA K.k3),some 27),((pA K.k4),some 27),((pA K.k5),some 4)] H (vi h0 T.A T.B)):=by
 refine⟨_,c.Ec,ah (λq=>?_) (λq=>?_)⟩
 ·obtain rfl:f=false:=by simpa using q
  have ag:Aq T.A T.B:=by
   rcases P with⟨h,_⟩|⟨_,h⟩
   ·cases h
   ·exact h
  obtain⟨u,i,a,_⟩:=(c.words s nA rfl rfl).1;refine⟨_,i,?_⟩;obtain⟨u,i,a,_⟩:=(a.words s nA rfl rfl).2.1;refine⟨_,i,?_⟩;obtain⟨u,i,a,_⟩:=(a.words s nA rfl rfl).2.2;refine⟨_,i,?_⟩;obtain⟨u,i,a,_⟩:=a.found s false;refine⟨_,i,Lf a.Kt.1 a.Kt.2.1 a.Kt.2.2 a.Ec ⟨_,_,_,_,_,_,_,_,_,_,rfl,a.o.ok,.inl ⟨rfl,rfl,rfl,rfl,ag⟩⟩⟩
 ·obtain rfl:f=true:=by simpa using q
  have wt:WR T.A T.B g L x y z:=by
   rcases P with⟨_,h⟩|⟨h,_⟩
   ·exact h
   ·cases h
  obtain⟨p,e,h1,h2,h3,h4,O,D,M⟩:=wt;have j1:=O;have j2:=D;have j3:=M;obtain⟨G1,W,_⟩:=j1;obtain⟨G2,r2,_⟩:=j2;obtain⟨G3,R,_⟩:=j3;obtain⟨a1,U,rfl⟩:=W.oa;obtain⟨Y,e2,rfl⟩:=r2.oa;obtain⟨a3,e3,rfl⟩:=R.oa;have V:=Ce D.rd;have N:=Ce M.rd;obtain⟨a,k⟩:=c.grow ((Ok.refl c.o.ok.wf).room 7);refine⟨_,_,_,a.Kt.1,_,_,_,a.Kt.2.1,_,_,_,a.Kt.2.2,?_⟩;obtain⟨u,i,a,t⟩:=(a.words s (.slice a1 _ U) (aV ..) (cK ..)).1;have k:=k.trans t;refine⟨_,i,?_⟩;have Q:=a.Kt;obtain⟨u,i,a,t⟩:=(a.words s (.slice Y _ e2) (aV ..) (cK ..)).2.1;have k:=k.trans t;refine⟨_,i,?_⟩;have l4:=a.Kt;obtain⟨u,i,a,t⟩:=(a.words s (.slice a3 _ e3) (aV ..) (cK ..)).2.2;have k:=k.trans t;refine⟨_,i,?_⟩;obtain⟨u,i,a,t⟩:=a.found s true;have k:=k.trans t;refine⟨_,i,⟨Q.2.1,V⟩,⟨Q.2.2,N⟩,⟨l4.2.2,N⟩,Lf a.Kt.1 a.Kt.2.1 a.Kt.2.2 a.Ec ⟨_,_,_,_,_,_,_,_,_,_,rfl,a.o.ok,.inr ⟨rfl,p,e,h1,h2,h3,h4,(O.cP k).rd,(D.cP k).rd,(M.cP k).rd⟩⟩⟩
end
def RE(g:aa)(L:List cC)(e:TypeId)(a:Nat)(v:Value)(b:List (List Value)):Prop:=∃G,fj e a v b G/\∀p∈G,Im g L p.1 p.2
theorem RE.cP{g g':aa}{L a:List cC}{e:TypeId}{b:List (List Value)}(r:RE g L e m v b)(c:eU g L g' a):RE g' a e m v b:=by
 obtain⟨G,d,f⟩:=r;exact⟨G,d,λp h=>c _ _ (f p h)⟩
theorem RE.rd{g:aa}{L:List cC}{e:TypeId}{d:List (List Value)}(r:RE g L e m v d):wT g e m v d:=by
 obtain⟨G,⟨a,⟨rfl,rfl,rfl⟩|⟨k,b,cs,c,rfl,rfl,f,i,j⟩⟩,h⟩:=r
 ·exact⟨a,.inl ⟨.inl rfl,rfl⟩⟩
 ·exact eZ.rd (h0:={ g with next:=0 }) ⟨a,.inr ⟨k,b,cs,c,rfl,zero_le _,(h _ (mem_singleton.2 rfl)).1,f,i,j⟩⟩
def Dk(ord:List NN)(tr:uB)(k:NN):Option sL:=(ni ord k).bind λj=>(tr[j]?).bind λo=>o.map (·.2)
theorem E7{ord:List NN}{tr:uB}{k:NN}{d:sL}:Dk ord tr k=some d↔ ∃j b,ni ord k=some j/\tr[j]?=some (some (b,d)):=by
 unfold Dk;constructor
 ·intro h
  cases c:ni ord k with
  |none=>rw[c]at h;cases h
  | some j=>
   rw[c]at h
   cases a:tr[j]? with
   |none=>simp[a]at h
   | some o=>
    cases o with
    |none=>simp[a]at h
    |some v=>
     obtain⟨b,e⟩:=v;simp[a]at h;subst h;exact⟨j,b,rfl,a⟩
 ·rintro⟨j,b,c,a⟩;simp[c,a]
theorem Ld{B:aG}{ord:List NN}(b:WO M B ord){tr:uB}(h0:tr[0]?=some (some ([],([],[]))))(n:∀k,Ty tr k->Ar M B ord tr k):Aq M B:=by
 refine XL (Dk ord tr) ?_ (λk d m o h s c=>?_) (λk d h f=>?_)
 ·obtain⟨j,w,e⟩:=qW (List.mem_of_getElem? b.hd);have r:=(List.getElem?_eq_some_iff.1 e).1;have y:=(List.getElem?_eq_some_iff.1 b.hd).1;have:j=0:=(List.getElem?_inj r b.nd).1 (e.trans b.hd.symm);subst this;exact E7.2 ⟨0,[],w,h0⟩
 ·obtain⟨j,g,i,a⟩:=E7.1 h;obtain⟨_,v⟩:=n j ⟨_,a⟩ g d k a (rY i);obtain⟨p,t,l,q,u,x⟩:=v m o s c;exact⟨t,u,E7.2 ⟨p,l,q,x⟩⟩
 ·obtain⟨j,g,i,a⟩:=E7.1 h;exact(n j ⟨_,a⟩ g d k a (rY i)).1 f
section
variable {h0:aa} {K:KS} {T:eE} {ord:List NN} {outs:List (Option Nat)} {n:Nat} {tr0:uB} {xi:NN} {i ki N:Nat} {d:sL} {g:aa} {L:List cC}
theorem xm(D:Wf h0)(u:T.Rows h0)(O:Good T.A)(F:Good T.B)(V:∀s∈T.A.ak,s.an.length<=2000)(Y:∀s∈T.B.ak,s.an.length<=2000)(E:WO T.A T.B ord)(Z:ord.length=n)(hn:n<=90000)(al:∀j x,ord[j]?=some x->Co T.A T.B x->zZ outs j)(b:ord[i]?=some xi){U:List Mv}(M:tr0[i]?=some (some (U,d))){a:Option Addr}{c:Nat}(e:VD h0 K T ord outs n tr0 xi i ki N [] d g L)(H:RE g L 105 2 (.slice a n c) (ord.map kV))(G:aa->Prop)(W:∀g' p,VD h0 K T ord outs n tr0 xi i ki N (dQ T.A T.B xi) d g' p->RE g' p 105 2 (.slice a n c) (ord.map kV)->G g'):
  xA (ae SS.P 66 g (pA K.k1)) λC=>xI .i64 (ae SS.P 3 g (pA ki)) λw=>xP (ai SS.P 162 (.slice a n c) (.int .i64 w)) λv=>xA (ae SS.P 105 g (.pointer (some v))) λA=>FW SS 111 [(.agg ⟨C⟩),(.agg ⟨A⟩),(.func (.func 112) ⟨[]⟩ ⟨[(pA K.k7),(pA K.k5),(pA K.k8),(pA K.iG),(pA ki),(pA K.WG),(pA K.k9),(pA K.WH),(pA K.F0)]⟩)] g λB q=>B=(.tuple ⟨[]⟩)/\G q:=by
 have J:=e;obtain⟨tr,x,y,z,f,ts,ds,ks,todo,tv,Gq,cc,mi,_⟩:=J;subst Z;obtain⟨kk,x1,d1,Q⟩:=BV H.rd b;have k:=E.lt xi (List.mem_of_getElem? b);refine⟨_,kj.all cc.dc.m1.1,_,mi.ld lC lB,_,d1,_,Q,?_⟩;refine(wA D u O F V Y (h:=g) (L:=L) k.1 k.2 (fa:=[]) (fc:=[(pA K.k7),(pA K.k5),(pA K.k8),(pA K.iG),(pA ki),(pA K.WG),(pA K.k9),(pA K.WH),(pA K.F0)]) aa1 (λl g L=>VD h0 K T ord outs ord.length tr0 xi i ki N l d g L) (λl g L r=>r.ol) (λl g L g' r o=>r.grow o) e (λx0 x R I g' p e=>?_)).mono ?_
 ·have X:x∈dQ T.A T.B xi:=by rw[I];simp
  have m:=fM.1 (show(x.1,x.2)∈dQ T.A T.B xi from X);obtain⟨t,ht,_⟩:=qW (E.cl xi (List.mem_of_getElem? b) _ _ m);exact QI D O F (by omega) rfl al b M m ⟨t,ht⟩ e
 ·rintro _ g7 ⟨rfl,L7,P,S⟩;exact⟨rfl,W _ _ P (H.cP S)⟩
end
end
section
theorem Xi:aD SS.P 175 []=some (.agg ⟨[nA,nA]⟩):=by kernel_rfl
def DI(h0:aa)(K:KS)(T:eE)(ord:List NN)(outs:List (Option Nat))(n:Nat)(a:Option Addr)(c:Nat)(e:Nat)(g:aa):Prop:=
 ∃(d:uB)(x y z:Value)(f:Bool)(m h i:List Value)(b:List Nat)(j:Value)(l:cC)(L:List cC),VC h0 K T ord outs n d x y z f m h i b j l g L/\RE g L 105 2 (.slice a n c) (ord.map kV)/\d[0]?=some (some ([],([],[])))/\(∀k∈b,Ty d k)/\2*cW d+b.length=e/\((f=true/\WR T.A T.B g L x y z)\/(f=false/\∀k,Ty d k->k∈b\/Ar T.A T.B ord d k))
section
variable {h0:aa} {K:KS} {T:eE} {ord:List NN} {outs:List (Option Nat)} {n:Nat}
theorem SW(H:Wf h0)(G:T.Rows h0)(gA:Good T.A)(gB:Good T.B)(zA:∀s∈T.A.ak,s.an.length<=2000)(zB:∀s∈T.B.ak,s.an.length<=2000)(ro:WO T.A T.B ord)(lo:ord.length=n)(hn:n<=90000)(al:∀j x,ord[j]?=some x->Co T.A T.B x->zZ outs j)(pv:LV){a:Option Addr}{c mz:Nat}{g:aa}(B:DI h0 K T ord outs n a c mz g):
  LL SS gf [1,1,1,1,1,1,1,1,1,1,1,0,0,0] (dP K.k1 K.k2 K.k3 K.k4 K.k5 K.k7 K.k8 K.k9 K.WG K.iG K.WH K.F0 a n c ()) g (KK SS gf [1,1,1,1,1,1,1,1,1,1,1,0,0] [] (EE SS gf (vi h0 T.A T.B))):=by
 refine ud pv K.k1 K.k2 K.k3 K.k4 K.k5 K.k7 K.k8 K.k9 K.WG K.iG K.WH K.F0 a n c (λmz _ g=>DI h0 K T ord outs n a c mz g) _ (λv7 z=>?_) mz B;clear B g mz;intro zz g B;obtain⟨C,x,y,z,f,ts,ds,ks,S,tv,Gq,L,cc,o,x9,tk,rfl,st⟩:=B;obtain⟨ld,rt,u8,ct,rfl⟩:=cc.ldt;refine⟨_,_,_,ld,ah (λq=>?_) (λq=>?_)⟩
 rotate_left
 ·have q:=dF q;obtain rfl:S=[]:=eq_nil_of_length_eq_zero (by omega);refine Ig H cc (st.imp id λ⟨h1,h2⟩=>⟨h1,Ld ro x9 λk R=>(h2 k R).resolve_left (λh=>by cases h)⟩)
 refine⟨_,cc.Ec,ah (λq2=>?_) (λq2=>?_)⟩
 rotate_left
 ·have hf:f=true:=by simpa using q2
  refine Ig H cc (.inl ?_);rcases st with h|⟨h,_⟩
  ·exact h
  ·rw[hf]at h;cases h
 obtain rfl:f=false:=by simpa using q2
 have q:=dT q;obtain⟨i,l,rfl⟩:∃i l,S=i::l:=by
  cases S with
  |nil=>simp at q
  |cons i l=>exact⟨i,l,rfl⟩
 have dn:∀k,Ty C k->k∈i::l\/Ar T.A T.B ord C k:=by
  rcases st with⟨h,_⟩|⟨_,h⟩
  ·cases h
  ·exact h
 obtain⟨⟨I,d⟩,Q⟩:=tk i (List.mem_cons_self ..);obtain⟨F,t,z5,y4,u6⟩:=cc.RK i I d Q;have u3:=cc.row.lt;have B:i<n:=by have:=(List.getElem?_eq_some_iff.1 t).1;omega
 obtain⟨p0,i1,i2⟩:=rt.at_ cO wM lC lB (k:= .i64) (i:=((0:Nat):Int)) (by omega) (by simp);have i2:ae SS.P 3 g (.pointer (some p0))=some (iA i):=i2;refine⟨_,_,_,ld,_,i1,_,i2,_,al3,?_⟩;obtain⟨u1,z3,e1,m1⟩:=cc.o.cell (P:=SS.P) wM (.int .i64 0) (v:=iA i) rfl rfl;refine⟨u1,z3,?_⟩;obtain⟨cc,cg⟩:=cc.grow e1;have o:=o.cP cg;generalize u1.app (g.push (.cells [.int .i64 0] 3 0 true))=g1 at*;obtain⟨a',m',c',sl,u2,y5,c2,x8⟩:=cc.pop H;refine⟨_,_,_,cc.ldt.1,_,_,_,sl,_,y5,?_⟩;have o:=o.cP x8;have r:=x8 _ _ m1;generalize u2.app g1=g2 at*;generalize u4:g.next=ki at*;have z0:2*cW C+l.length<=2*cW C+l.length:=Nat.le_refl _;have M:∀(E:aa)(D:List cC),VD h0 K T ord outs n C F i ki (2*cW C+l.length) (dQ T.A T.B F) d E D->RE E D 105 2 (.slice a n c) (ord.map kV)->aH (fD (dP K.k1 K.k2 K.k3 K.k4 K.k5 K.k7 K.k8 K.k9 K.WG K.iG K.WH K.F0 a n c) (λmz (_:Unit) g=>DI h0 K T ord outs n a c mz g)) (2*cW C+(i::l).length) [(pA K.k1),(pA K.k2),(pA K.k3),(pA K.k4),(pA K.k5),(.slice a n c),(pA K.k7),(pA K.k8),(pA K.k9),(pA K.WG),(pA K.iG),(pA K.WH),(pA K.F0)] E:=by
  rintro E D ⟨x4,J,N,O,U,y7,y9,y6,V,z6,z9,c',v6,ex,kn,me,z7⟩ z8;refine cG (a:=()) (2*cW x4+V.length) (by rw[length_cons];omega) ⟨x4,J,N,O,U,y7,y9,y6,V,z6,z9,D,c',z8,ex _ _ x9,kn.2,rfl,z7.imp id λ⟨h1,h2,h3⟩=>⟨h1,λk R=>?_⟩⟩;rcases kn.1 k R with h|rfl|h
  ·exact .inl h
  ·refine .inr λu5 d' x0 e1 e2=>?_;have e3:=oI (oI ((ex _ _ Q).symm.trans e1));injection e3 with e4 e5
   subst e4;subst e5;obtain rfl:=oI (t.symm.trans e2);exact⟨h2,λm k' s=>h3 _ (fM.2 s)⟩
  ·exact .inr h
 have vd:∀{E:aa}{D:List cC}{J N O:Value}{U:Bool},VC h0 K T ord outs n C J N O U ts ds ks l (.slice a' m' c') Gq E D->Im E D ki (.cells [iA i] 3 0 true)->((U=true/\WR T.A T.B E D J N O)\/(U=false/\(lJ T.A T.B F->d=([],[]))))->VD h0 K T ord outs n C F i ki (2*cW C+l.length) [] d E D:=λ{E D J N O U} cv mv sv=>⟨C,J,N,O,U,ts,ds,ks,l,_,Gq,cv,mv,qn.refl _,⟨λk R=>by
   rcases dn k R with h|h
   ·rcases mem_cons.1 h with rfl|h
    ·exact .inr (.inl rfl)
    ·exact .inl h
   ·exact .inr (.inr h),λk R=>tk k (List.mem_cons_of_mem _ R)⟩,z0,sv.imp id λ⟨h1,h2⟩=>⟨h1,h2,λw Y=>by cases Y⟩⟩
 have u0:=o;obtain⟨c3,x6⟩:=c2.grow ((Ok.refl c2.o.ok.wf).room 15);have o:=o.cP x6;have r:=x6 _ _ r;have y8:=lo;subst y8;obtain⟨kk,v8,d1,d2⟩:=BV o.rd t;have x2:=ro.lt F (List.mem_of_getElem? t);refine⟨_,kj.all c3.dc.m1.1,_,r.ld lC lB,_,d1,_,d2,?_⟩;refine(Jq c3.o.ok.wf (G.ok c3.o.ok) x2.1 x2.2).mono ?_;rintro _ g4 ⟨rfl,e4⟩;obtain⟨X,x7⟩:=c3.grow e4;have o:=o.cP x7;have r:=x7 _ _ r;refine⟨_,rfl,ah (λW=>?_) (λW=>?_)⟩
 ·rw[and_eq_true]at W;have f2:lJ T.A T.B F:=⟨fY.1 W.1,fY.1 W.2⟩
  obtain⟨p,b,n2,f1,b',v0,u9,v1,v2,v3,v4,v5⟩:=X.ways Q;obtain⟨y1,y2⟩:=ve y4;have l1:(wL I).length<=I.length:=dK Mv.l _;have l2:(wR I).length<=I.length:=dK Mv.r _;refine⟨_,_,_,X.dly,_,r.ld lC lB,_,Yj B,_,v3,_,Xi,(Ib X.o.ok.wf (x:=d) (y:=([],[])) v4.rd v5.rd (.inl ⟨rfl,rfl⟩) (.inl ⟨rfl,rfl⟩) (by omega) (by omega)).mono ?_⟩;rintro _ g5 ⟨rfl,e5⟩;obtain⟨c5,y3⟩:=X.grow e5;have o:=o.cP y3;have r:=y3 _ _ r;refine⟨_,rfl,ah (λq4=>?_) (λq4=>?_)⟩
  ·have z4:d≠([],[]):=by simpa using q4
   obtain⟨kr,x5⟩:=al i F t ⟨[],F,.nil _,f2⟩;obtain⟨J,ns,e,z1,lr,r2,z2,hz,u7⟩:=c5.dc.ok i kr x5;obtain rfl:=oI (t.symm.trans z1);obtain rfl:=hz f2;obtain⟨Z,x1⟩:=c5.grow ((Ok.refl c5.o.ok.wf).room 11);have o:=o.cP x1;have r:=x1 _ _ r;obtain⟨p,_,_,_,_,_,_,w1,w2,_⟩:=Z.ways Q;refine⟨_,_,_,Z.prv,_,_,_,Z.trl,_,r.ld lC lB,_,mF xX B0 B,_,w1,_,_,_,Z.rst,_,r.ld lC lB,_,mF il jY B,_,Z.out x5,ah (λ_=>?_) (λq=>by rw[Fq]at q;cases q)⟩;have hl:I.length+([]:List Mv).length<=1000000:=by rw[length_nil];omega
   refine(Z.prove H gA gB w2 (lr.mono x1) z5 r2 z2 hl).mono ?_;rintro _ g7 ⟨rfl,J,N,O,c7,y0,Y⟩;have hd:=XN y4 z4;rw[append_nil]at Y⊢;obtain⟨u,s1,c8,x3⟩:=c7.found H (!decide (wL I=wR I));refine⟨_,rfl,_,s1,?_⟩;have o:=o.cP (y0.trans x3);have r:=(y0.trans x3) _ _ r;have Y:=(Y hd).cP x3;generalize u.app g7=g8 at*;obtain⟨c9,A⟩:=c8.grow ((Ok.refl c8.o.ok.wf).room 7);refine xm H G gA gB zA zB ro rfl hn al t Q (vd c9 (A _ _ r) (.inl ⟨by rw[decide_eq_false hd];rfl,Y.cP A⟩)) (o.cP A) _ M
  ·have he:d=([],[]):=by simpa using q4
   obtain⟨c9,A⟩:=c5.grow ((Ok.refl c5.o.ok.wf).room 7);refine xm H G gA gB zA zB ro rfl hn al t Q (vd c9 (A _ _ r) (.inr ⟨rfl,λ_=>he⟩)) (o.cP A) _ M
 ·have nf:¬lJ T.A T.B F:=λh=>by
   rw[fY.2 h.1,fY.2 h.2]at W;cases W
  obtain⟨c9,A⟩:=X.grow ((Ok.refl X.o.ok.wf).room 7);refine xm H G gA gB zA zB ro rfl hn al t Q (vd c9 (A _ _ r) (.inr ⟨rfl,λh=>absurd h nf⟩)) (o.cP A) _ M
end
end
section
theorem OL.perm{h0 g:aa}{L L':List cC}(o:OL h0 g L)(p:L.flatten.Perm L'.flatten):OL h0 g L'/\eU g L g L':=by
 have b:(keys L).Perm (keys L'):=p.map _;exact⟨⟨o.ok,b.nodup_iff.1 o.nd,λk a=>o.lo k (b.mem_iff.2 a),λq c=>o.at_ q (p.mem_iff.2 c)⟩,λk B m=>⟨m.1,λa=>m.2 (b.mem_iff.2 a)⟩⟩
theorem RE.abA{h0 g:aa}{L:List cC}{e:TypeId}{d:List (List Value)}(o:OL h0 g L)(i:eZ g h e n v d):RE h L e n v d:=by
 obtain⟨j,⟨rfl,rfl⟩|⟨k,b,cs,c,rfl,l,f,m,r,q⟩⟩:=i
 ·exact⟨[],fj.nil ..,λp a=>by cases a⟩
 ·exact⟨_,⟨j,.inr ⟨k,b,cs,c,rfl,rfl,m,r,q⟩⟩,λp a=>by obtain rfl:=mem_singleton.1 a;exact o.new l f⟩
theorem rj{s:Nat}{l:List Nat}{x:List Int}(r:di M s l n x p)(g:Good M)(b:gz M n):iz (λp x=>iK M x p) (PC M) s:=by
 induction r with
 |nil s=>
  refine .base ?_;unfold gz at b;by_cases c:s<M.ak.length
  ·rw[gD,gE c]at b;exact⟨_,gE c,b⟩
  ·rw[gD,getElem?_eq_none (by omega)]at b;exact absurd rfl b
 |@cons s i n a l x p h r e=>
  refine .step (e b) ?_;by_cases c:s<M.ak.length
  ·obtain⟨t,f,d,_⟩:=iy c;rw[d]at h;exact⟨t,f,mem_map.2 ⟨a,List.mem_of_getElem? h,rfl⟩⟩
  ·unfold bC at h;rw[gD,getElem?_eq_none (l:=M.ak) (by omega)]at h;simp at h
theorem A8(g:Good M)(h:A7 M=true):∀l x y,¬uC M l x y:=by
 rintro l x y ⟨e,r,f⟩;unfold A7 at h;rw[and_eq_true]at h;have a:=h.2;simp only[Bool.not_eq_true',decide_eq_false_iff_not]at a;exact a ⟨.base rfl,rj r g f⟩
theorem Z7:aA SS.P 109=some (.cells [nA] 109 0 true,dR):=by kernel_rfl
theorem acG:aA SS.P 172=some (.cells [nA] 172 0 true,dR):=by kernel_rfl
theorem acF:aA SS.P 171=some (.cells [.nilFunc] 171 0 true,dR):=by kernel_rfl
theorem acL:aA SS.P 68=some (.cells [nA] 68 0 true,dR):=by kernel_rfl
theorem al4:aA SS.P 4=some (.cells [.bool false] 4 0 true,dR):=by kernel_rfl
theorem aaP:aA SS.P 163=some (.cells [.map none] 163 0 true,dR):=by kernel_rfl
theorem MS:au SS.P 109=some 1:=by kernel_rfl
theorem abY:au SS.P 172=some 1:=by kernel_rfl
theorem abX:au SS.P 171=some 1:=by kernel_rfl
theorem ab1:au SS.P 68=some 1:=by kernel_rfl
noncomputable def OE:TypeInfo:=(SS.P.info? 112).getD default
theorem VP:SS.P.info? 112=some OE:=by kernel_rfl
theorem Cv:OE.size=1:=by kernel_rfl
theorem zo:OE.bytes=8:=by kernel_rfl
theorem ZR:zeroOf SS.P 112=some (.pointer none):=by kernel_rfl
theorem adu(n:Nat)(a:n<=100000):aX SS.P 109 (.int .i64 (n:Int)) (.int .i64 (n:Int))=some (.cells (List.replicate n (.pointer none)) 112 1 true,jE n n):=by
 unfold aX aT;dsimp only;rw[xX]
 try dsimp only
 change (match SS.P.info? 112,zeroOf SS.P 112 with
  |some i,some z=>(if z.cells.size=i.size/\0<i.size/\(0:Int)<=(n:Int)/\(n:Int)<=(n:Int)/\(n:Int)*i.bytes<=140737488355328/\(n:Int)<=1099511627776 then some (bu.cells (bO z.cells.toList (n:Int).toNat) 112 i.size true,λk=>Value.slice (some ⟨k,0,none⟩) (n:Int).toNat (n:Int).toNat)else none)
  |_,_=>none)=_
 rw[VP,ZR];dsimp only;rw[Cv,zo,if_pos ⟨rfl,by omega,by omega,Int.le_refl _,by omega,by omega⟩];have e:((n:Int)).toNat=n:=by omega
 rw[e,show(Value.pointer none).cells.toList=[.pointer none]from rfl,lA];rfl
noncomputable def VS:TypeInfo:=(SS.P.info? 175).getD default
theorem VT:SS.P.info? 175=some VS:=by kernel_rfl
theorem M1:VS.size=2:=by kernel_rfl
theorem Ka:VS.bytes=48:=by kernel_rfl
theorem ZT:zeroOf SS.P 175=some (.agg ⟨[nA,nA]⟩):=by kernel_rfl
theorem ady(n:Nat)(a:n<=100000):aX SS.P 172 (.int .i64 (n:Int)) (.int .i64 (n:Int))=some (.cells (List.replicate n [nA,nA]).flatten 175 2 true,jE n n):=by
 unfold aX aT;dsimp only;rw[Zb]
 try dsimp only
 change (match SS.P.info? 175,zeroOf SS.P 175 with
  |some i,some z=>(if z.cells.size=i.size/\0<i.size/\(0:Int)<=(n:Int)/\(n:Int)<=(n:Int)/\(n:Int)*i.bytes<=140737488355328/\(n:Int)<=1099511627776 then some (bu.cells (bO z.cells.toList (n:Int).toNat) 175 i.size true,λk=>Value.slice (some ⟨k,0,none⟩) (n:Int).toNat (n:Int).toNat)else none)
  |_,_=>none)=_
 rw[VT,ZT];dsimp only;rw[M1,Ka,if_pos ⟨rfl,by omega,by omega,Int.le_refl _,by omega,by omega⟩];have e:((n:Int)).toNat=n:=by omega
 rw[e,show(Value.agg ⟨[nA,nA]⟩).cells.toList=[nA,nA]from rfl,wK];rfl
section
variable {h0:aa} {T:eE} {g:aa} {L:List cC}
theorem A1(n:Wf h0)(o:OL h0 g L){b d c a:Nat}{x y z:Value}{f:Bool}{R:List cC}(e:L=[jh b x,jh d y,jh c z,[(a,.cells [.bool f] 4 0 true)]]++R)(C:Aq T.A T.B):
  xU (aj SS.P 27 (pA b) nA g) g λw l=>xU (aj SS.P 27 (pA d) nA l) l λE j=>xU (aj SS.P 27 (pA c) nA j) j λA m=>xU (aj SS.P 4 (pA a) (.bool false) m) m λD q=>dq SS [((pA b),some 27),((pA d),some 27),((pA c),some 27),((pA a),some 4)] q (vi h0 T.A T.B):=by
 subst e;obtain⟨p,_⟩:=o.kJ n 0 (k:=b) (B:= .cells [x] 27 0 true) rfl (.cells [nA] 27 0 true);have h:aj SS.P 27 (pA b) nA g=some (undef,.set b (.cells [nA] 27 0 true)):=bG ej (cs:=[x]) (o.get 0 rfl) (by simp) rfl rfl;refine⟨_,h,?_⟩;change OL h0 _ ([jh b nA,jh d y,jh c z,[(a,.cells [.bool f] 4 0 true)]]++R)at p;generalize (bp.set b (.cells [nA] 27 0 true)).app g=u at*;obtain⟨s,_⟩:=p.kJ n 1 (k:=d) (B:= .cells [y] 27 0 true) rfl (.cells [nA] 27 0 true);have h:aj SS.P 27 (pA d) nA u=some (undef,.set d (.cells [nA] 27 0 true)):=bG ej (cs:=[y]) (p.get 1 rfl) (by simp) rfl rfl;refine⟨_,h,?_⟩;change OL h0 _ ([jh b nA,jh d nA,jh c z,[(a,.cells [.bool f] 4 0 true)]]++R)at s;generalize (bp.set d (.cells [nA] 27 0 true)).app u=t at*;obtain⟨r,_⟩:=s.kJ n 2 (k:=c) (B:= .cells [z] 27 0 true) rfl (.cells [nA] 27 0 true);have h:aj SS.P 27 (pA c) nA t=some (undef,.set c (.cells [nA] 27 0 true)):=bG ej (cs:=[z]) (s.get 2 rfl) (by simp) rfl rfl;refine⟨_,h,?_⟩;change OL h0 _ ([jh b nA,jh d nA,jh c nA,[(a,.cells [.bool f] 4 0 true)]]++R)at r;generalize (bp.set c (.cells [nA] 27 0 true)).app t=v at*;obtain⟨i,_⟩:=r.kJ n 3 (k:=a) (B:= .cells [.bool f] 4 0 true) rfl (.cells [.bool false] 4 0 true);have h:aj SS.P 4 (pA a) (.bool false) v=some (undef,.set a (.cells [.bool false] 4 0 true)):=bG q4s (cs:=[.bool f]) (r.get 3 rfl) (by simp) rfl rfl;refine⟨_,h,?_⟩;change OL h0 _ ([jh b nA,jh d nA,jh c nA,[(a,.cells [.bool false] 4 0 true)]]++R)at i;generalize (bp.set a (.cells [.bool false] 4 0 true)).app v=F at*;exact Lf (aR cO gM (i.get 0 rfl) (by simp)) (aR cO gM (i.get 1 rfl) (by simp)) (aR cO gM (i.get 2 rfl) (by simp)) (aR q4 q4a (k:=a) (cs:=[.bool false]) (e:=4) (sz:=0) (wr:=true) (i.get 3 rfl) (by simp)) ⟨_,_,_,_,_,_,_,_,_,_,rfl,i.ok,.inl ⟨rfl,rfl,rfl,rfl,C⟩⟩
end
end
def Cw(n:Nat):uB:=(List.replicate n none).set 0 (some ([],([],[])))
theorem Hb{a:List Mv}{d:sL}(h:(Cw n)[k]?=some (some (a,d))):k=0/\a=[]/\d=([],[]):=by
 unfold Cw at h;rw[getElem?_set]at h;by_cases e:0=k
 ·rw[if_pos e]at h;split at h
  ·have:=oI (oI h);injection this with b c
   exact⟨e.symm,b.symm,c.symm⟩
  ·cases h
 ·rw[if_neg e,getElem?_replicate]at h;split at h<;>cases h
theorem EZ(a:0<n):(Cw n)[0]?=some (some ([],([],[]))):=by
 unfold Cw;rw[getElem?_set,if_pos rfl,if_pos (by rw[length_replicate];exact a)]
theorem M8(a:0<n):cW (Cw n)+1<=n:=by
 have h:(List.replicate n (none:Option (List Mv×sL)))[0]?=some none:=by rw[getElem?_replicate,if_pos a]
 have:=jb (([],([],[])):List Mv×sL) h;have b:=Ji (List.replicate n (none:Option (List Mv×sL)));rw[length_replicate]at b;unfold Cw;omega
theorem ZH{L:List cC}(b:0<n):yG g L n (Cw n) (List.replicate n (.pointer none)) (List.replicate n [nA,nA]).flatten (((List.replicate n false).map Value.bool).set 0 (.bool true)):=by
 refine⟨by unfold Cw;simp,by simp,by simp[List.length_flatten];omega,by simp,λk v h=>?_,λk i d h=>?_⟩
 ·unfold Cw at h;rw[getElem?_set]at h⊢;by_cases e:0=k
  ·rw[if_pos e]at h⊢;rw[if_pos (by simpa using b)];split at h
   ·obtain rfl:=oI h;rfl
   ·cases h
  ·rw[if_neg e,getElem?_replicate]at h;rw[if_neg e,getElem?_map,getElem?_replicate];split at h
   ·next c=>
    obtain rfl:=oI h;rw[if_pos c];rfl
   ·cases h
 ·obtain⟨rfl,rfl,rfl⟩:=Hb h;obtain⟨m,rfl⟩:∃m,n=m+1:=⟨n-1,by omega⟩
  have a:sM g L 3 nA ([].map zV):=⟨[],dw.nil 3,λp f=>by cases f⟩
  exact⟨none,nA,nA,by simp[List.replicate_succ],.nil,by simp[List.replicate_succ],by simp[List.replicate_succ],a,a⟩
theorem kj.lA{T:eE}(h:g.get k=some (kj T)):ae SS.P 24 g (.pointer (some ⟨k,0,none⟩))=some (.agg ⟨bD T.A T.a T.n T.c⟩):=gG Dx C4 mY h (by simp[eE.arg,bD])
theorem kj.lB{T:eE}(h:g.get k=some (kj T)):ae SS.P 24 g (.pointer (some ⟨k,4,none⟩))=some (.agg ⟨bD T.B T.b T.m T.d⟩):=gG Dx C4 mY h (by simp[eE.arg,bD])
theorem Uu(A:List cC)(G a:cC):(A++[G,a]).flatten.Perm (A++[a,G]).flatten:=by
 rw[List.flatten_append,List.flatten_append];refine List.Perm.append_left _ ?_;simp only[List.flatten_cons,List.flatten_nil,append_nil];exact List.perm_append_comm
theorem Md{T:eE}(tb:rK h)(w:Wf h)(x2:Small T.A)(x0:Small T.B)(U:T.Rows h)(gA:Good T.A)(gB:Good T.B):FW SS 47 [.agg ⟨T.arg⟩] h (vi h T.A T.B):=by
 have zA:=x2.an;have zB:=x0.an;refine Mc T.arg h _ ⟨_,H3 T,_,HP,_,HP,_,HP,_,al4,?_⟩;have o0:=OL.nil (Ok.refl w);have g:=o0.fg (kj T);obtain⟨o1,_⟩:=o0.grow ((Ok.refl w).push (kj T));generalize q3:h.next=k1 at*;generalize h.push (kj T)=g1 at*;obtain⟨o2,c2⟩:=o1.push (.cells [nA] 27 0 true);have g:=c2 _ _ g;generalize j3:g1.next=k2 at*;generalize g1.push (.cells [nA] 27 0 true)=g2 at*;obtain⟨o3,c3⟩:=o2.push (.cells [nA] 27 0 true);have g:=c3 _ _ g;generalize q4:g2.next=k3 at*;generalize g2.push (.cells [nA] 27 0 true)=g3 at*;obtain⟨o4,c4⟩:=o3.push (.cells [nA] 27 0 true);have g:=c4 _ _ g;generalize j2:g3.next=k4 at*;generalize g3.push (.cells [nA] 27 0 true)=g4 at*;obtain⟨o5,c5⟩:=o4.push (.cells [.bool false] 4 0 true);have g:=c5 _ _ g;generalize j7:g4.next=k5 at*;generalize g4.push (.cells [.bool false] 4 0 true)=g5 at*;change OL h g5 [jh k2 nA,jh k3 nA,jh k4 nA,[(k5,.cells [.bool false] 4 0 true)]]at o5;change Im g5 [jh k2 nA,jh k3 nA,jh k4 nA,[(k5,.cells [.bool false] 4 0 true)]] k1 (kj T)at g;clear c2 c3 c4 c5 o1 o2 o3 o4;refine⟨_,FJ _,_,kj.lA g.1,(En (tb.ok o5.ok) o5.ok.wf x2 (U.ok o5.ok).ra).mono ?_⟩;rintro _ g6 ⟨rfl,e6⟩;obtain⟨o6,c6⟩:=o5.grow e6;have g:=c6 _ _ g;refine⟨_,rfl,ah (λq=>?_) (λq=>?_)⟩
 ·exact A1 w o6 (R:=[]) (by rw[append_nil]) λl l' x y z h _=>absurd h (A8 gA q l x y)
 refine⟨_,Bj _,_,kj.lB g.1,(En (tb.ok o6.ok) o6.ok.wf x0 (U.ok o6.ok).rb).mono ?_⟩;rintro _ g7 ⟨rfl,e7⟩;obtain⟨o7,c7⟩:=o6.grow e7;have g:=c7 _ _ g;refine⟨_,rfl,ah (λq=>?_) (λq=>?_)⟩
 ·exact A1 w o7 (R:=[]) (by rw[append_nil]) λl l' x y z _ h=>absurd h (A8 gB q l' x z)
 refine⟨_,kj.all g.1,(Js o7.ok.wf (U.ok o7.ok) gA gB zA zB x2.RL x0.RL).mono ?_⟩;rintro _ g8 ⟨b,a,n,c,km,rfl,ro,ow,z6,w0,_,e8⟩;have w6:=nI ro.nd ro.lt;have j1:T.A.ak.length*T.B.ak.length<=90000:=Nat.mul_le_mul x2.RL x0.RL;have hn:b.length<=90000:=by omega
 have S:0<b.length:=(List.getElem?_eq_some_iff.1 ro.hd).1;have j:=RE.abA o7 ow;obtain rfl:n=b.length:=by
  obtain⟨G,r,_⟩:=j;rw[r.len,lM]
 have p:=o7.new w0 z6;obtain⟨o8,c8⟩:=o7.grow e8;have g:=c8 _ _ g;refine⟨_,_,_,_,rfl,_,aaP,?_⟩;obtain⟨u,s9,e9,s⟩:=o8.cell (P:=SS.P) MW (.map none) (v:= .map (some km)) rfl rfl;refine⟨u,s9,?_⟩;obtain⟨o9,c9⟩:=o8.grow e9;have g:=c9 _ _ g;have p:=c9 _ _ p;have j:=j.cP c9;generalize q2:g8.next=k7 at*;generalize u.app (g8.push (.cells [.map none] 163 0 true))=g9 at*;refine⟨_,kj.all g.1,_,s.ld oD qF,(QG o9.ok.wf (U.ok o9.ok) gA gB zA zB ro hn j.rd p.1).mono ?_⟩;rintro _ x6 ⟨ko,z3,rfl,u0,z4,lo,t,al,u3⟩;have A:=o9.new z4 u0;obtain⟨x7,x3⟩:=o9.grow u3;have t:=t.mono (I':=Im x6 [jh k2 nA,jh k3 nA,jh k4 nA,[(k5,.cells [.bool false] 4 0 true)]]) λk B m=>o9.new m.2 m.1;have g:=x3 _ _ g;have p:=x3 _ _ p;have s:=x3 _ _ s;have j:=j.cP x3;refine⟨_,_,_,rfl,_,Z9,?_⟩;obtain⟨u,z8,w4,C⟩:=x7.cell (P:=SS.P) VG nA (v:=sA ko b.length b.length) rfl rfl;refine⟨u,z8,?_⟩;obtain⟨x4,Z⟩:=x7.grow w4;have g:=Z _ _ g;have p:=Z _ _ p;have s:=Z _ _ s;have A:=Z _ _ A;have t:=t.mono Z;have j:=j.cP Z;generalize j4:x6.next=k8 at*;generalize u.app (x6.push (.cells [nA] 166 0 true))=x5 at*;obtain⟨o,ho⟩:∃o,z3[0]?=some o:=⟨_,gE (by omega)⟩
 have x8:ae SS.P 168 x5 (.pointer (some ⟨ko,0,none⟩))=some (Ds o):=by
  rw[aR Ke HN A.1 (by rw[lM];omega),gD,getElem?_map,ho];rfl
 refine⟨_,_,_,C.ld il uS,_,mF (i:=0) il jY S,_,x8,_,FA _,ah (λq=>?_) (λq=>?_)⟩
 ·refine A1 w x4 (R:=[]) (by rw[append_nil]) (DO.2 λms e r f=>?_);obtain⟨k,X⟩:=al 0 _ ro.hd ⟨ms,e,r,f⟩;rw[ho]at X;obtain rfl:=oI X
  cases q
 clear x8;refine⟨_,acF,?_⟩;obtain⟨u,v6,u6,J⟩:=x4.cell (P:=SS.P) abX .nilFunc (v:= .func (.func 107) ⟨[]⟩ ⟨[pA k2,pA k3,pA k4]⟩) rfl rfl;refine⟨u,v6,?_⟩;obtain⟨v4,V⟩:=x4.grow u6;have g:=V _ _ g;have p:=V _ _ p;have s:=V _ _ s;have C:=V _ _ C;have A:=V _ _ A;have t:=t.mono V;have j:=j.cP V;generalize j9:x5.next=k9 at*;generalize u.app (x5.push (.cells [.nilFunc] 171 0 true))=x9 at*;refine⟨_,_,_,adu _ (by omega),?_⟩;obtain⟨y3,N⟩:=v4.push (.cells (List.replicate b.length (.pointer none)) 112 1 true);have g:=N _ _ g;have p:=N _ _ p;have s:=N _ _ s;have C:=N _ _ C;have J:=N _ _ J;have A:=N _ _ A;have t:=t.mono N;have j:=j.cP N;generalize q1:x9.next=kt at*;generalize x9.push (.cells (List.replicate b.length (.pointer none)) 112 1 true)=y1 at*;refine⟨_,Z7,?_⟩;obtain⟨u,v3,v0,D⟩:=y3.cell (P:=SS.P) MS nA (v:=sA kt b.length b.length) rfl rfl;refine⟨u,v3,?_⟩;obtain⟨u5,O⟩:=y3.grow v0;have g:=O _ _ g;have p:=O _ _ p;have s:=O _ _ s;have C:=O _ _ C;have J:=O _ _ J;have A:=O _ _ A;have t:=t.mono O;have j:=j.cP O;generalize w8:y1.next=u4 at*;generalize u.app (y1.push (.cells [nA] 109 0 true))=y2 at*;refine⟨_,_,_,ady _ (by omega),?_⟩;obtain⟨z2,M⟩:=u5.push (.cells (List.replicate b.length [nA,nA]).flatten 175 2 true);have g:=M _ _ g;have p:=M _ _ p;have s:=M _ _ s;have C:=M _ _ C;have J:=M _ _ J;have D:=M _ _ D;have A:=M _ _ A;have t:=t.mono M;have j:=j.cP M;generalize j8:y2.next=kd at*;generalize y2.push (.cells (List.replicate b.length [nA,nA]).flatten 175 2 true)=y5 at*;refine⟨_,acG,?_⟩;obtain⟨u,w5,v7,Q⟩:=z2.cell (P:=SS.P) abY nA (v:=sA kd b.length b.length) rfl rfl;refine⟨u,w5,?_⟩;obtain⟨v2,L⟩:=z2.grow v7;have g:=L _ _ g;have p:=L _ _ p;have s:=L _ _ s;have C:=L _ _ C;have J:=L _ _ J;have D:=L _ _ D;have A:=L _ _ A;have t:=t.mono L;have j:=j.cP L;generalize j0:y5.next=u1 at*;generalize u.app (y5.push (.cells [nA] 172 0 true))=y4 at*;refine⟨_,_,_,adA _ (by omega),?_⟩;obtain⟨y0,H⟩:=v2.push (.cells ((List.replicate b.length false).map Value.bool) 4 1 true);have g:=H _ _ g;have p:=H _ _ p;have s:=H _ _ s;have C:=H _ _ C;have J:=H _ _ J;have D:=H _ _ D;have Q:=H _ _ Q;have A:=H _ _ A;have t:=t.mono H;have j:=j.cP H;generalize j5:y4.next=kk at*;generalize y4.push (.cells ((List.replicate b.length false).map Value.bool) 4 1 true)=z1 at*;refine⟨_,acL,?_⟩;obtain⟨u,u9,v8,x1⟩:=y0.cell (P:=SS.P) ab1 nA (v:=sA kk b.length b.length) rfl rfl;refine⟨u,u9,?_⟩;obtain⟨y6,I⟩:=y0.grow v8;have g:=I _ _ g;have p:=I _ _ p;have s:=I _ _ s;have C:=I _ _ C;have J:=I _ _ J;have D:=I _ _ D;have Q:=I _ _ Q;have A:=I _ _ A;have t:=t.mono I;have j:=j.cP I;generalize w9:z1.next=u7 at*;generalize u.app (z1.push (.cells [nA] 68 0 true))=v1 at*;obtain⟨u8,E⟩:=y6.kJ w 6 (k:=kk) (B:= .cells ((List.replicate b.length false).map Value.bool) 4 1 true) rfl (.cells (((List.replicate b.length false).map Value.bool).set 0 (.bool true)) 4 1 true);refine⟨_,_,_,x1.ld q68 adK,_,mF (i:=0) q68 q4s S,_,bG q4s (k:=kk) (y6.get 6 rfl) (by simpa using S) rfl rfl,_,_,_,tG 0,_,HP,?_⟩;have g:=E _ _ g;have p:=E _ _ p;have s:=E _ _ s;have C:=E _ _ C;have J:=E _ _ J;have D:=E _ _ D;have Q:=E _ _ Q;have x1:=E _ _ x1;have A:=E _ _ A;have t:=t.mono E;have j:=j.cP E;generalize (bp.set kk (.cells (((List.replicate b.length false).map Value.bool).set 0 (.bool true)) 4 1 true)).app v1=y7 at*;obtain⟨w3,v5⟩:=u8.push (.cells [.int .i64 0] 3 1 true);have F:=v5;generalize j6:y7.next=W at*;generalize y7.push (.cells [.int .i64 0] 3 1 true)=z0 at*
 obtain⟨y9,z5⟩:=w3.push (.cells [nA] 27 0 true);have F:=F.trans z5;generalize w7:z0.next=Y at*;generalize z0.push (.cells [nA] 27 0 true)=y8 at*;obtain⟨z7,z9⟩:=y9.kJ w 8 (k:=Y) (B:= .cells [nA] 27 0 true) rfl (.cells [sA W 1 1] 27 0 true);have F:=F.trans z9;have w1:aj SS.P 27 (pA Y) (sA W 1 1) y8=some (undef,.set Y (.cells [sA W 1 1] 27 0 true)):=bG ej (cs:=[nA]) (y9.get 8 rfl) (by simp) rfl rfl;refine⟨_,w1,?_⟩;generalize (bp.set Y (.cells [sA W 1 1] 27 0 true)).app y8=q0 at*
 let K:KS:=⟨k1,k2,k3,k4,k5,k7,k8,k9,u4,u1,u7,Y,kt,kd,kk,km,ko⟩
 obtain⟨v9,u2⟩:=OL.perm (L':=ss K nA nA nA false (List.replicate b.length (.pointer none)) (List.replicate b.length [nA,nA]).flatten (((List.replicate b.length false).map Value.bool).set 0 (.bool true)) (sA W 1 1) [(W,.cells [.int .i64 0] 3 1 true)]) z7 (Uu [jh k2 nA,jh k3 nA,jh k4 nA,[(k5,.cells [.bool false] 4 0 true)],[(kt,.cells (List.replicate b.length (.pointer none)) 112 1 true)],[(kd,.cells (List.replicate b.length [nA,nA]).flatten 175 2 true)],[(kk,.cells (((List.replicate b.length false).map Value.bool).set 0 (.bool true)) 4 1 true)]] [(W,.cells [.int .i64 0] 3 1 true)] (jh Y (sA W 1 1)));have F:=F.trans u2;have w2:dw 3 (sA W 1 1) (([0]:List Nat).map iv) [(W,.cells [.int .i64 0] 3 1 true)]:=fj.made (rs:=[[.int .i64 0]]) (by simp) (by decide +kernel);refine SW (K:=K) (mz:=2*cW (Cw b.length)+1) w U gA gB zA zB ro rfl hn al T.arg ⟨Cw b.length,nA,nA,nA,false,_,_,_,[0],_,_,_,⟨rfl,v9,⟨F _ _ g,F _ _ s,F _ _ p,F _ _ C,F _ _ A,F _ _ J,F _ _ D,F _ _ Q,F _ _ x1,lo,t.mono F⟩,ZH S,λk ms d X=>?_,w2,?_⟩,j.cP F,EZ S,λk X=>?_,rfl,.inr ⟨rfl,λk X=>?_⟩⟩
 ·obtain⟨rfl,rfl,rfl⟩:=Hb X;exact⟨_,ro.hd,.nil _,rfl,by rw[length_nil,zero_add];exact Ji _⟩
 ·have:=M8 S;rw[length_singleton];omega
 ·obtain rfl:=mem_singleton.1 X;exact⟨_,EZ S⟩
 ·obtain⟨⟨ms,d⟩,X⟩:=X;obtain⟨rfl,_⟩:=Hb X;exact .inl (mem_singleton.2 rfl)
variable{D:bJ}
section
theorem QZ{M:aG}{ord:List Nat}(l:Good M)(e:M.start.toNat∈ord):Good (ix M ord):=by
 have f:(ix M ord).ak.length=ord.length:=by unfold ix;simp
 have g:=(Jl ord 0 M.start.toNat).2 e;have j:=oF ord 0 M.start.toNat;refine⟨?_,?_,λs e q m=>?_⟩
 ·show 0<=eS ord 0 M.start.toNat;rcases j with h|h
  ·exact absurd h g
  ·omega
 ·show eS ord 0 M.start.toNat<_;rw[f];rcases j with h|h
  ·exact absurd h g
  ·omega
 ·obtain⟨x,o,rfl⟩:=mem_map.1 e;obtain⟨p,b,c⟩:=List.mem_filterMap.1 m;unfold fS at c;split at c
  ·cases c
  ·next i=>
   obtain rfl:=oI c;have k:=oF ord 0 p.t.toNat;rw[f];rcases k with h|h
   ·exact absurd h i
   ·have d:Hx M.ak.length p:=by
     rw[gD]at b
     cases a:M.ak[x]? with
     |none=>rw[a]at b;cases b
     |some n=>rw[a]at b;exact l.an n (List.mem_of_getElem? a) p b
    exact⟨d.i0,d.i1,d.o0,d.o1,by show 0<=eS ord 0 p.t.toNat;omega,by show eS ord 0 p.t.toNat<_;omega⟩
theorem Gx:∀{l:List Nat}{i j x:Nat},l.Nodup->l[j]?=some x->eS l i x=((i+j:Nat):Int)
 |[],_,_,_,_,h=>by simp at h
 |o::r,i,0,x,a,h=>by
  obtain rfl:o=x:=by simpa using h
  unfold eS;rw[if_pos rfl];simp
 |o::r,i,j+1,x,a,h=>by
  have b:r[j]?=some x:=by simpa using h
  have c:o≠x:=λe=>(nodup_cons.1 a).1 (e▸List.mem_of_getElem? b);unfold eS;rw[if_neg c,Gx (nodup_cons.1 a).2 b];omega
theorem Jk:∀{l:List Nat}{i j x:Nat},eS l i x=((i+j:Nat):Int)->l[j]?=some x
 |[],i,j,x,h=>by unfold eS at h;omega
 | o::r,i,j,x,h=>by
  unfold eS at h;split at h
  ·next e=>
   obtain rfl:j=0:=by omega
   rw[e];rfl
  ·have b:=oF r (i+1) x;obtain⟨a,rfl⟩:∃a,j=a+1:=⟨j-1,by omega⟩
   show r[a]?=some x;exact Jk (i:=i+1) (by rw[h];omega)
section
variable {M:aG} {ord:List Nat}
theorem On{x:Nat}(h:ord[i]?=some x):(ix M ord).ak[i]?=some (qk M ord x):=by
 show(ord.map (qk M ord))[i]?=_;rw[getElem?_map,h];rfl
theorem JF:(ix M ord).ak.length=ord.length:=by unfold ix;simp
theorem Vt{x:Nat}(h:x<M.ak.length):M.ak[x]?=some (M.ak.getD x ⟨[],[]⟩):=by
 rw[gD,gE h];rfl
theorem VA(d:Good M){x y:Nat}(h:iK M x y):x<M.ak.length/\y<M.ak.length:=by
 obtain⟨s,b,c⟩:=h;obtain⟨q,e,rfl⟩:=mem_map.1 c;have a:=d.an s (List.mem_of_getElem? b) q e;have g:=a.t0;have f:=a.t1;exact⟨(List.getElem?_eq_some_iff.1 b).1,by omega⟩
theorem Vu(a:Good M):M.start.toNat<M.ak.length:=by
 have c:=a.ob;have b:=a.rA;omega
theorem abN(a:Good M){x:Nat}(h:iz (iK M) (λy=>y=M.start.toNat) x):x<M.ak.length:=by
 cases h with
 |base h=>rw[h];exact Vu a
 |step h e=>exact(VA a e).2
theorem BU(a:Good M){x:Nat}:x∈iI M↔fU M x:=by
 unfold iI;rw[List.mem_filter,List.mem_range];constructor
 ·rintro⟨_,h⟩;exact @of_decide_eq_true _ (Classical.propDecidable _) h
 ·intro h;exact⟨abN a h.1,@decide_eq_true _ (Classical.propDecidable _) h⟩
theorem Q1(c:AF M.ak.length ord)(b:M.start.toNat∈ord):∃i,ord[i]?=some M.start.toNat/\(ix M ord).start=((i:Nat):Int):=by
 obtain⟨i,a⟩:=getElem?_of_mem b;refine⟨i,a,?_⟩;show eS ord 0 M.start.toNat=_;rw[Gx c.nd a];simp
end
theorem pT(f:Nat->Nat):∀(n:Nat)(l:List Nat),l.Nodup->(∀x∈l,x<n)->(l.map f).sum<=((List.range n).map f).sum
 |0,[],_,_=>Nat.le_refl _
 |0,x::l,_,h=>absurd (h x (List.mem_cons_self ..)) (Nat.not_lt_zero _)
 | n+1,l,b,h=>by
  rw[List.range_succ,map_append,List.sum_append];by_cases c:n∈l
  ·have j:=List.perm_cons_erase c;rw[(j.map f).sum_nat];have g:=pT f n (l.erase n) (b.erase n) (λx a=>by
    have d:=h x (List.mem_of_mem_erase a);have i:x≠n:=λe=>by subst e;exact(b.not_mem_erase) a
    omega)
   simp only[List.map_cons,sum_cons,List.map_nil,List.sum_nil];omega
  ·have g:=pT f n l b (λx a=>by
    have d:=h x a;have i:x≠n:=λe=>c (e▸a);omega)
   omega
theorem MQ(M:aG):mX M.ak=((List.range M.ak.length).map λx=>(M.ak.getD x ⟨[],[]⟩).an.length).sum:=by
 unfold mX;congr 1;refine List.ext_getElem? λi=>?_;rw[getElem?_map,getElem?_map];by_cases a:i<M.ak.length
 ·rw[List.getElem?_range a,Vt a];rfl
 ·rw[getElem?_eq_none (by omega),getElem?_eq_none (by simpa using a)];rfl
section
variable {M:aG} {ord:List Nat}
theorem Zh(a:AF M.ak.length ord):mX (ix M ord).ak<=mX M.ak:=by
 rw[MQ M];refine Nat.le_trans ?_ (pT _ M.ak.length ord a.nd a.lt);show((ord.map (qk M ord)).map λs=>s.an.length).sum<=_;rw[map_map];have:∀l:List Nat,(l.map ((λs:fF=>s.an.length)∘qk M ord)).sum<=(l.map λx=>(M.ak.getD x ⟨[],[]⟩).an.length).sum:=λl=>by
  induction l with
  |nil=>exact Nat.le_refl _
  |cons x l b=>
   rw[List.map_cons,List.map_cons,sum_cons,sum_cons];have:(qk M ord x).an.length<=(M.ak.getD x ⟨[],[]⟩).an.length:=List.length_filterMap_le ..;show(qk M ord x).an.length+_<=_;omega
 exact this ord
theorem Zg{i:Nat}{s:fF}(g:AF M.ak.length ord)(c:s∈(ix M ord).ak)(e:D∈s.an):∃b∈M.ak,∃p∈b.an,s.f=b.f/\D.i=p.i/\D.o=p.o/\D.w=p.w/\0<=D.t/\D.t<ord.length:=by
 obtain⟨x,d,rfl⟩:=mem_map.1 c;obtain⟨p,h,a⟩:=List.mem_filterMap.1 e;have f:=Vt (g.lt x d);unfold fS at a;split at a
 ·cases a
 ·next j=>
  obtain rfl:=oI a;have k:=oF ord 0 p.t.toNat;refine⟨_,List.mem_of_getElem? f,p,h,rfl,rfl,rfl,rfl,?_,?_⟩
  ·show 0<=eS ord 0 p.t.toNat;omega
  ·show eS ord 0 p.t.toNat<_;omega
theorem Oo{s:fF}(d:AF M.ak.length ord)(b:s∈(ix M ord).ak):∃a∈M.ak,s.f=a.f/\s.an.length<=a.an.length:=by
 obtain⟨x,c,rfl⟩:=mem_map.1 b;exact⟨_,List.mem_of_getElem? (Vt (d.lt x c)),rfl,List.length_filterMap_le ..⟩
theorem He(h:cL M=true):(1<=M.kind/\M.kind<=3)/\(1<=M.ak.length/\M.ak.length<=3000)/\(0<=M.start/\M.start<M.ak.length)/\cY M.kind M.lead=true/\tp M.kind M.ak.length 0 M.ak=true:=by
 unfold cL at h;simp only[and_eq_true,decide_eq_true_eq]at h;obtain⟨⟨⟨⟨⟨⟨⟨c,d⟩,a⟩,f⟩,i⟩,g⟩,e⟩,b⟩:=h;exact⟨⟨c,d⟩,⟨a,f⟩,⟨i,g⟩,e,b⟩
theorem Q0(a:Small M)(b:AF M.ak.length ord):Small (ix M ord):=by
 have h:=oE _ b.nd b.lt;refine⟨a.lead,by rw[JF];exact Nat.le_trans h a.RL,λs c=>?_,λs c=>?_,λs c q j=>?_,Nat.le_trans (Zh b) a.tot⟩
 ·obtain⟨d,f,e,_⟩:=Oo b c;rw[e];exact a.fin d f
 ·obtain⟨d,f,_,e⟩:=Oo b c;exact Nat.le_trans e (a.an d f)
 ·obtain⟨d,g,p,l,m,r,n,k,t,o⟩:=Zg (i:=0) b c j;rw[k];exact a.w d g p l
end
end
variable{s:List UInt8}
section
section
variable {M:aG}
noncomputable def Ux(M:aG)(s:Nat):Nat:=(iI M).getD s 0
noncomputable def psi(M:aG)(s i:Nat):Nat:=IF (fS (iI M)) (bC M (Ux M s)) i
theorem Mj{s x:Nat}(h:(iI M)[s]?=some x):Ux M s=x:=by
 unfold Ux;rw[gD,h];rfl
theorem GI{s:Nat}(h:s<(iI M).length):(iI M)[s]?=some (Ux M s):=by
 unfold Ux;rw[gD,gE h];rfl
theorem AJ{s:Nat}(h:s<(iI M).length):bC (ix M (iI M)) s=(bC M (Ux M s)).filterMap (fS (iI M)):=by
 unfold bC;rw[gD,On (GI h)];rfl
theorem IA{s:Nat}(h:s<(iI M).length):gz (ix M (iI M)) s↔gz M (Ux M s):=by
 unfold gz;rw[gD,On (GI h)];rfl
theorem JE{a:bJ}(h:fS x D=some a):a.i=D.i/\a.o=D.o/\∃j:Nat,a.t=(j:Int)/\x[j]?=some D.t.toNat:=by
 unfold fS at h;split at h
 ·cases h
 ·next b=>
  obtain rfl:=oI h;have c:=oF x 0 D.t.toNat;have d:eS x 0 D.t.toNat=((0+(eS x 0 D.t.toNat).toNat:Nat):Int):=by
   rcases c with h|h
   ·exact absurd h b
   ·omega
  exact⟨rfl,rfl,(eS x 0 D.t.toNat).toNat,by show eS x 0 D.t.toNat=_;omega,Jk d⟩
theorem V3(n:Good M)(t:fU M M.start.toNat):RP (ix M (iI M)) M (λs=>s<(iI M).length) (Ux M) (psi M):=by
 have w:=pH M;obtain⟨x,g,r⟩:=Q1 w ((BU n).2 t);have k:=(List.getElem?_eq_some_iff.1 g).1;refine⟨?_,λs i a c d=>?_,λs i j a b c d f e=>?_,λs c l=>(IA c).1 l⟩
 ·rw[r,toNat_natCast];exact⟨k,Mj g⟩
 ·rw[AJ c]at d;obtain⟨q,o,u⟩:=Ln _ _ d;obtain⟨m,v,j,p,h⟩:=JE u;rw[p,toNat_natCast];exact⟨(List.getElem?_eq_some_iff.1 h).1,q,o,m.symm,v.symm,(Mj h).symm⟩
 ·rw[AJ c]at d f;exact FL _ _ (List.getElem?_eq_some_iff.1 d).1 (List.getElem?_eq_some_iff.1 f).1 e
theorem UX(p:Good M){s e:Nat}{l:List Nat}{x y:List Int}(r:di M s l e x y)(h:gz M e):∀{t:Nat},t<(iI M).length->Ux M t=s->iz (iK M) (λy=>y=M.start.toNat) s->∃k f,di (ix M (iI M)) t k f x y/\gz (ix M (iI M)) f/\RI (ix M (iI M)) (psi M) t k=l:=by
 induction r with
 |nil s=>
  rintro t d rfl B;exact⟨[],t,.nil _,(IA d).2 h,rfl⟩
 | @cons s i e a l x y v r F=>
  rintro t d rfl B;have u:Ux M t<M.ak.length:=(pH M).lt _ (List.mem_of_getElem? (GI d));obtain⟨w,o,C,_⟩:=iy u;have A:w.an[i]?=some a:=by rw[<-C];exact v
  have c:iK M (Ux M t) a.t.toNat:=⟨w,o,mem_map.2 ⟨a,List.mem_of_getElem? A,rfl⟩⟩
  have g:iz (iK M) (λy=>y=M.start.toNat) a.t.toNat:= .step B c;have G:fU M a.t.toNat:=⟨g,rj r p h⟩
  obtain⟨j,m⟩:=getElem?_of_mem ((BU p).2 G);have D:eS (iI M) 0 a.t.toNat=(j:Int):=by rw[Gx (pH M).nd m,zero_add]
  have q:fS (iI M) a=some ⟨a.i,a.o,a.w,(j:Int)⟩:=by
   unfold fS;rw[D,if_neg (by omega)]
  obtain⟨n,b,z⟩:=NS _ _ v q;obtain⟨k,f,E,H,I⟩:=F h (t:=j) (List.getElem?_eq_some_iff.1 m).1 (Mj m) g;rw[<-AJ d]at b;have J:=di.cons b (l:=k) (e:=f) (x:=x) (y:=y) (by rw[show(bJ.t ⟨a.i,a.o,a.w,(j:Int)⟩)=(j:Int)from rfl,toNat_natCast];exact E);refine⟨n::k,f,J,H,?_⟩;have K:(bC (ix M (iI M)) t).getD n q0=⟨a.i,a.o,a.w,(j:Int)⟩:=by rw[gD,b];rfl
  rw[RI,K];show psi M t n::RI _ _ ((j:Int)).toNat k=_;rw[toNat_natCast,I];show IF _ _ _::_=_;rw[z]
structure Trm(N M:aG):Prop where
 fw:∀l x y,uC N l x y->∃l',uC M l' x y
 f2:∀l l' x y z,uC N l x y->uC N l' x z->l≠l'->∃k k',uC M k x y/\uC M k' x z/\k≠k'
 fu:yx N↔yx M
 un:qd N↔qd M
theorem V6{N:aG}(a:∀l x y,¬uC N l x y)(b:∀l x y,¬uC M l x y):Trm N M:=
 ⟨λl x y h=>absurd h (a l x y),λl l' x y z h=>absurd h (a l x y),⟨λ_ l l' x y z h=>absurd h (b l x y),λ_ l l' x y z h=>absurd h (a l x y)⟩,⟨λ_ l l' x y z h=>absurd h (b l x y),λ_ l l' x y z h=>absurd h (a l x y)⟩⟩
theorem ZI(m:Good M)(s:fU M M.start.toNat):Trm (ix M (iI M)) M:=by
 have a:=V3 m s;have d:∀{l x y},uC M l x y->∃k,uC (ix M (iI M)) k x y/\RI (ix M (iI M)) (psi M) (ix M (iI M)).start.toNat k=l:=by
  rintro l x y ⟨e,r,f⟩;obtain⟨k,u,q,t,i⟩:=UX m r f a.start.1 a.start.2 (.base rfl);exact⟨k,⟨u,q,t⟩,i⟩
 refine⟨λl x y h=>⟨_,a.acc h⟩,λl l' x y z b c n=>⟨_,_,a.acc b,a.acc c,λe=>n ?_⟩,⟨λh l l' x y z b c=>?_,a.func⟩,⟨λh l l' x y z b c=>?_,a.aff⟩⟩
 ·obtain⟨_,r,_⟩:=b;obtain⟨_,v,_⟩:=c;exact a.FX l l' a.start.1 r v e
 ·obtain⟨k,j,_⟩:=d b;obtain⟨o,g,_⟩:=d c;exact h _ _ _ _ _ j g
 ·obtain⟨k,j,p⟩:=d b;obtain⟨o,g,i⟩:=d c;rw[<-p,<-i,h _ _ _ _ _ j g]
theorem Ul{k:Int}:∀l x y,¬uC ⟨k,0,s,[⟨[],[]⟩]⟩ l x y:=by
 rintro l x y ⟨e,r,f⟩
 cases r with
 |nil=>exact f rfl
 |cons h _=>simp[bC]at h
theorem LY(a:Good M)(b:¬fU M M.start.toNat):∀l x y,¬uC M l x y:=λl x y ⟨e,r,f⟩=>b ⟨.base rfl,rj r a f⟩
theorem Kd(c:cL M=true)(h:Small M):(dS M).2=0/\Good (dS M).1/\Small (dS M).1/\Trm (dS M).1 M/\(dS M).1.ak.length<=M.ak.length:=by
 have d:=rD c;by_cases b:fU M M.start.toNat
 ·rw[Kc c b];have i:=oE _ (pH M).nd (pH M).lt;exact⟨rfl,QZ d ((BU d).2 b),Q0 h (pH M),ZI d b,by show(ix M (iI M)).ak.length<=_;rw[JF];exact i⟩
 ·rw[Cy c b];obtain⟨k,j,_⟩:=He c;unfold sZ;rw[if_pos k];have g:M.kind=1\/M.kind=2\/M.kind=3:=by omega
  refine⟨rfl,⟨Int.le_refl _,by show(0:Int)<(1:Nat);omega,λs a q f=>?_⟩,⟨?_,(show 1<=300 by decide),λs a=>?_,λs a=>?_,λs a=>?_,(show 0<=2000 by decide)⟩,V6 Ul (LY d b),j.1⟩
  ·rw[mem_singleton.1 a]at f;cases f
  ·rcases g with e|e|e<;>rw[e]<;>decide +kernel
  ·rw[mem_singleton.1 a];exact zero_le _
  ·rw[mem_singleton.1 a];exact zero_le _
  ·rw[mem_singleton.1 a];exact λq f=>by cases f
end
end
theorem acR(T:eE):aD SS.P 66 [(0,(.agg ⟨bD T.A T.a T.n T.c⟩)),(1,(.agg ⟨bD T.B T.b T.m T.d⟩))]=some (.agg ⟨T.arg⟩):=by
 obtain⟨A,a,n,c,B,b,m,d⟩:=T
 cases a<;>cases b<;>kernel_rfl
def ac8(h:aa)(M:aG):VH:=λv g=>∃(b:Bool)(a:Option Addr)(n c:Nat)(m:Option Addr)(f k:Nat)(i:Option Addr)(d j:Nat)(e:Int),v = .tuple ⟨[.bool b,.slice a n c,.slice m f k,.slice i d j,.int .i64 e]⟩/\Ok h g/\
 ((cL M=false/\b=false/\n=0/\f=0/\d=0/\e=1)\/(cL M=true/\200<M.ak.length/\b=false/\n=0/\f=0/\d=0/\e=2)\/
  (cL M=true/\e=0/\((b=true/\n=0/\f=0/\d=0/\yx M)\/(b=false/\∃l l' x y z,uC M l x y/\uC M l' x z/\y≠z/\Rd g 3 (.slice a n c) (x.map zV)/\Rd g 3 (.slice m f k) (y.map zV)/\Rd g 3 (.slice i d j) (z.map zV)))))
theorem BX{c:Nat}(I:rK h)(w:Wf h)(B:Small M)(r:ey h (.slice a n c) M.ak):FW SS 14 [.agg ⟨bD M a n c⟩] h (ac8 h M):=by
 refine CU (bD M a n c) h _ ⟨_,oy M a n c,?_⟩;have s:=(Ok.refl w).push (Bm M a n c);have b1:=aI h (Bm M a n c);have W:ae SS.P 24 (h.push (Bm M a n c)) (pA h.next)=some (.agg ⟨bD M a n c⟩):=gG Dx C4 mY b1 (by simp[bD]);refine⟨_,W,?_⟩;generalize h.push (Bm M a n c)=g1 at*;refine(I6 (I.ok s) s.wf B (r.ok s)).mono ?_;rintro _ b ⟨d,g,i,ps,rfl,t,J,Z⟩;have z:=s.trans Z;refine⟨_,_,rfl,_,OY,?_⟩;have V:=(Ok.refl z.wf).push sk;have O:=aI b sk;have X:aj SS.P 24 (pA b.next) (.agg ⟨bD (dS M).1 d g i⟩) (b.push sk)=some (undef,.set b.next (Bm (dS M).1 d g i)):=dM mY rfl O rfl (by simp[bD,bw,strOf]);refine⟨_,X,?_⟩;have F:Ok b ((bp.set b.next (Bm (dS M).1 d g i)).app (b.push sk)):=V.set _ (Nat.le_refl _) (Nat.lt_succ_self _) z.wf;have E:((bp.set b.next (Bm (dS M).1 d g i)).app (b.push sk)).get b.next=some (Bm (dS M).1 d g i):=by
  show((b.push sk).set _ _).get _=_;rw[aa.ay,if_pos rfl]
 generalize (bp.set b.next (Bm (dS M).1 d g i)).app (b.push sk)=C at*;have m:=z.trans F
 cases j:cL M with
 |false=>
  rw[yl j];exact ah (λ_=>⟨_,_,_,_,_,_,_,_,_,_,_,rfl,m,.inl ⟨j,rfl,rfl,rfl,rfl,rfl⟩⟩) (λq=>by cases q)
 | true=>
  obtain⟨t1,A,G,u,t5⟩:=Kd j B;have o:=(J.ok F).st;rw[t]at o;rw[t1];refine ah (λq=>by cases q) (λ_=>?_);have Y:ae SS.P 22 C (.pointer (some ⟨b.next,3,none⟩))=some (.slice d g i):=aR Cn HO E (by simp[bD]);have K:ae SS.P 24 C (pA b.next)=some (.agg ⟨bD (dS M).1 d g i⟩):=gG Dx C4 mY E (by simp[bD]);have x0:g=(dS M).1.ak.length:=by have:=J.row.rd.len;rw[<-t,lM,this,lM]
  refine⟨_,eJ _,_,_,_,Y,ah (λq=>?_) (λq=>?_)⟩
  ·have q:=dT q;exact⟨_,_,_,_,_,_,_,_,_,_,_,rfl,m,.inr (.inl ⟨j,by omega,rfl,rfl,rfl,rfl,rfl⟩)⟩
  ·refine⟨_,K,_,K,_,acR ⟨(dS M).1,d,g,i,(dS M).1,d,g,i⟩,?_⟩;refine(Md (T:=⟨(dS M).1,d,g,i,(dS M).1,d,g,i⟩) (I.ok m) m.wf G G ⟨o,o⟩ A A).mono ?_;rintro _ g5 ⟨xa,xn,xc,ya,yn,yc,za,zn,zc,f,rfl,e5,U⟩;refine⟨_,_,_,_,_,_,_,_,_,_,rfl,_,_,_,_,_,_,_,_,_,_,_,rfl,m.trans e5,.inr (.inr ⟨j,rfl,?_⟩)⟩;rcases U with⟨rfl,x,y,v,S⟩|⟨rfl,p,e,Q,H,D,_,N,P,i3⟩
   ·injection x with _ x
    injection y with _ y
    injection v with _ v
    exact .inl ⟨rfl,x,y,v,u.fu.1 S⟩
   ·obtain⟨⟨l,p1⟩,⟨l',R⟩⟩:=Q.runs;obtain⟨k,a1⟩:=u.fw l _ _ ⟨_,p1,H.1⟩;obtain⟨L,d⟩:=u.fw l' _ _ ⟨_,R,H.2⟩;exact .inr ⟨rfl,k,L,_,_,_,a1,d,D,N,P,i3⟩
noncomputable def V7:FD:=dY Tryz.f70 []
theorem Rt(K:Int)(N:LV)(l k c w:Nat)(h:aa)(Q:VH)(U:xN (dp SS.P 107 (.agg ⟨N⟩)) h λB1 b=>xV (ae SS.P 110 b (pA l)) λP=>xA (ae SS.P 107 b (pA (h.next))) λT=>xB (jF SS.P 110 P (.agg ⟨T⟩) false b) λV=>aS (!V) (xV (ae SS.P 110 b (pA l)) λR=>xA (ae SS.P 107 b (pA (h.next))) λS=>xU (gH SS.P 110 R (.agg ⟨S⟩) (.bool true) b) b λu8 d=>xL (ae SS.P 108 d (pA k)) λp C L=>xA (ae SS.P 107 d (pA (h.next))) λy=>xR (az SS.P 108 1 [(0,(.agg ⟨y⟩))]) d λx0 s E j=>xE (aJ SS.P 108 108 (.slice p C L) (sA (d.next) s E) j) j λx B z Y f=>xU (aj SS.P 108 (pA k) (.slice x B z) f) f λX a=>xL (ae SS.P 109 (room a 12) (pA c)) λt I u=>xA (aD SS.P 116 [(0,(.int .i64 K))]) λA=>xL (ae SS.P 109 (room a 12) (pA c)) λm v q=>xI .i64 (ae SS.P 3 (room a 12) (pA w)) λO=>xP (ai SS.P 109 (.slice m v q) (.int .i64 O)) λD=>xO (ae SS.P 112 (room a 12) (.pointer (some D))) λr=>xA (aD SS.P 118 [(0,(.agg ⟨A⟩)),(1,(.pointer r))]) λo=>zN (dp SS.P 118 (.agg ⟨o⟩)) λe=>zR (az SS.P 109 1 [(0,(pA (a.next+8)))]) λi M J=>xE (aJ SS.P 109 109 (.slice t I u) (sA (a.next+9) M J) (aw (room a 12) a.next [(9,i),(8,e)])) (aw (room a 12) a.next [(9,i),(8,e)]) λG H F Z g=>xU (aj SS.P 109 (pA c) (.slice G H F) g) g λW n=>Q (.tuple ⟨[]⟩) n) (Q (.tuple ⟨[]⟩) b)):FW SS 70 [(.int .i64 K),(.agg ⟨N⟩),(pA l),(pA k),(pA c),(pA w)] h Q:=eh V7 Tryz.func70 (av U)
noncomputable def bc:FD:=dY Tryz.f69 [([1,1,0,1,0,0],[2,4,7,30,31,32]),([1,1,0,1,0,0,1,1,0,0,1,1,1,0,0],[2,4,7,8,9,30,31,32,64,65,66]),([1,1,1,1,0,1,0,0],[2,4,117,118,119])]
abbrev dD(e:Nat)(g h:LV)(f:Nat)(a:OA)(n c:Nat)(b:OA)(m d:Nat)(i:Nat):LV:=[(.func (.func e) ⟨g⟩ ⟨h⟩),(pA f),(.slice b m d),(.slice a n c),(iA n),(iA i)]
abbrev bB(e:Nat)(g k:LV)(f:Nat)(a:OA)(n c:Nat)(b:OA)(m d h i:Nat)(j:Nat):LV:=[(.func (.func e) ⟨g⟩ ⟨k⟩),(pA f),(.slice b m d),(iA i),(pA h),(.slice a n c),(iA n),(iA i),(.slice b m d),(iA m),(iA j)]
abbrev jq(a:Nat)(e f:LV)(c:Nat)(b:OA)(m d:Nat)(i:Nat):LV:=[(.func (.func a) ⟨e⟩ ⟨f⟩),(pA c),(.slice b m d),(iA m),(iA i)]
theorem O2(d A:LV)(j:Nat)(x z:LV)(h:aa)(Q:VH)(D:xN (dp SS.P 24 (.agg ⟨d⟩)) h λH b=>xN (dp SS.P 107 (.agg ⟨A⟩)) b λI a=>xP (af SS.P 24 (pA (h.next)) 3) λB=>xL (ae SS.P 22 (room a 18) (.pointer (some B))) λC F E=>xP (af SS.P 107 (pA (b.next)) 0) λG=>xP (af SS.P 105 (.pointer (some G)) 0) λk=>xI .i64 (ae SS.P 3 (room a 18) (.pointer (some k))) λs=>xP (ai SS.P 22 (.slice C F E) (.int .i64 s)) λt=>xP (af SS.P 44 (.pointer (some t)) 1) λy=>xL (ae SS.P 42 (room a 18) (.pointer (some y))) λe c w=>xP (af SS.P 24 (pA (h.next)) 3) λm=>xL (ae SS.P 22 (room a 18) (.pointer (some m))) λl q o=>xP (af SS.P 107 (pA (b.next)) 0) λi=>xP (af SS.P 105 (.pointer (some i)) 1) λg=>xI .i64 (ae SS.P 3 (room a 18) (.pointer (some g))) λv=>xP (ai SS.P 22 (.slice l q o) (.int .i64 v)) λu=>xP (af SS.P 44 (.pointer (some u)) 1) λn=>xL (ae SS.P 42 (room a 18) (.pointer (some n))) λf r p=>LL SS bc [1,1,0,1,0,0] [(.func (.func j) ⟨x⟩ ⟨z⟩),(pA (b.next)),(.slice f r p),(.slice e c w),(iA c),(.int .i64 0)] (room a 18) (KK SS bc [1,1,0,1,0] [] (EE SS bc Q))):FW SS 69 [(.agg ⟨d⟩),(.agg ⟨A⟩),(.func (.func j) ⟨x⟩ ⟨z⟩)] h Q:=eh bc Tryz.func69 (av D)
theorem uU(X Y:LV)(g:Nat)(j k:LV)(f:Nat)(a:OA)(n c:Nat)(b:OA)(m d:Nat)(l:Nat->Nat->aa->Prop)(Q:VH)(step:∀(o:Nat) (i:Nat) (G:Nat->Value) (h:aa),l o i h->aS (decide (((i:Int):Int)<(n:Int))) (xP (ai SS.P 42 (.slice a n c) (iA i)) λR=>xA (ae SS.P 46 h (.pointer (some R))) λD=>xN (aA SS.P 46) h λW p=>xU (aj SS.P 46 (pA (h.next)) (.agg ⟨D⟩) p) p λV e=>xP (af SS.P 46 (pA (h.next)) 0) λN=>xI .i64 (ae SS.P 3 e (.pointer (some N))) λr=>aS (((r:Int)==0)) (xP (af SS.P 107 (pA f) 1) λy=>xI .i64 (ae SS.P 3 e (.pointer (some y))) λT=>aS (((T:Int)==0)) (xP (af SS.P 46 (pA (h.next)) 3) λz=>xI .i64 (ae SS.P 3 e (.pointer (some z))) λJ=>xP (af SS.P 107 (pA f) 0) λI=>xP (af SS.P 105 (.pointer (some I)) 1) λU=>xI .i64 (ae SS.P 3 e (.pointer (some U))) λS=>xA (aD SS.P 105 [(0,(.int .i64 J)),(1,(.int .i64 S))]) λF=>xA (aD SS.P 107 [(0,(.agg ⟨F⟩)),(1,(.int .i64 2))]) λM=>aS (Nat.blt g YB) (FW SS g (j++[(.int .i64 0),(.agg ⟨M⟩)]++k) e λP C=>P=(.tuple ⟨[]⟩)/\LL SS bc [1,1,0,1,0,0,1,1,0,0,1,1,1,0,0] [(.func (.func g) ⟨j⟩ ⟨k⟩),(pA f),(.slice b m d),(iA i),(pA (h.next)),(.slice a n c),(iA n),(iA i),(.slice b m d),(iA m),(.int .i64 0)] C (KK SS bc [1,1,0,0,1,1,1,0] [1,1,0,1,0,0] (RR bc [1,1,0,1,0,0] (fD (dD g j k f a n c b m d) l) o (KK SS bc [1,1,0,1,0] [] (EE SS bc Q))))) False) (xP (af SS.P 46 (pA (h.next)) 3) λs=>xI .i64 (ae SS.P 3 e (.pointer (some s))) λO=>xP (af SS.P 107 (pA f) 0) λt=>xP (af SS.P 105 (.pointer (some t)) 1) λL=>xI .i64 (ae SS.P 3 e (.pointer (some L))) λH=>xA (aD SS.P 105 [(0,(.int .i64 O)),(1,(.int .i64 H))]) λK=>xP (af SS.P 107 (pA f) 1) λE=>xI .i64 (ae SS.P 3 e (.pointer (some E))) λw=>xA (aD SS.P 107 [(0,(.agg ⟨K⟩)),(1,(.int .i64 w))]) λA=>aS (Nat.blt g YB) (FW SS g (j++[(.int .i64 0),(.agg ⟨A⟩)]++k) e λB v=>B=(.tuple ⟨[]⟩)/\LL SS bc [1,1,0,1,0,0,1,1,0,0,1,1,1,0,0] [(.func (.func g) ⟨j⟩ ⟨k⟩),(pA f),(.slice b m d),(iA i),(pA (h.next)),(.slice a n c),(iA n),(iA i),(.slice b m d),(iA m),(.int .i64 0)] v (KK SS bc [1,1,0,0,1,1,1,0] [1,1,0,1,0,0] (RR bc [1,1,0,1,0,0] (fD (dD g j k f a n c b m d) l) o (KK SS bc [1,1,0,1,0] [] (EE SS bc Q))))) False)) (LL SS bc [1,1,0,1,0,0,1,1,0,0,1,1,1,0,0] [(.func (.func g) ⟨j⟩ ⟨k⟩),(pA f),(.slice b m d),(iA i),(pA (h.next)),(.slice a n c),(iA n),(iA i),(.slice b m d),(iA m),(.int .i64 0)] e (KK SS bc [1,1,0,0,1,1,1,0] [1,1,0,1,0,0] (RR bc [1,1,0,1,0,0] (fD (dD g j k f a n c b m d) l) o (KK SS bc [1,1,0,1,0] [] (EE SS bc Q)))))) (xP (af SS.P 107 (pA f) 1) λu=>xI .i64 (ae SS.P 3 h (.pointer (some u))) λx=>aS (((x:Int)==1)) (LL SS bc [1,1,1,1,0,1,0,0] [(.func (.func g) ⟨j⟩ ⟨k⟩),(pA f),(.slice b m d),(iA m),(.int .i64 0)] h (KK SS bc [1,1,1,1,0,1,0] [] (EE SS bc Q))) (Q (.tuple ⟨[]⟩) h)))(o:Nat){i:Nat}{h:aa}(q:l o i h):LL SS bc [1,1,0,1,0,0] (dD g j k f a n c b m d i) h (KK SS bc [1,1,0,1,0] [] (EE SS bc Q)):=
 dN (dD g j k f a n c b m d) l (λo i G h q=>av (step o i G h q)) o q
theorem uV(mv qv:LV)(f:Nat)(k l:LV)(o:Nat)(a:OA)(n c:Nat)(b:OA)(m d:Nat)(g:Nat)(s:Nat->Nat->aa->Prop)(mz i:Nat)(p:Nat->Nat->aa->Prop)(Q:VH)(step:∀(q:Nat) (j:Nat) (zz:Nat->Value) (h:aa),p q j h->aS (decide (((j:Int):Int)<(m:Int))) (xP (ai SS.P 42 (.slice b m d) (iA j)) λx5=>xA (ae SS.P 46 h (.pointer (some x5))) λx2=>xN (aA SS.P 46) h λu6 t=>xU (aj SS.P 46 (pA (h.next)) (.agg ⟨x2⟩) t) t λu5 e=>xP (af SS.P 46 (pA g) 0) λz1=>xI .i64 (ae SS.P 3 e (.pointer (some z1))) λz3=>xP (af SS.P 46 (pA (h.next)) 0) λz2=>xI .i64 (ae SS.P 3 e (.pointer (some z2))) λu3=>aS (((z3:Int) !=u3)) (aH (fD (bB f k l o a n c b m d g i) p) q [(.func (.func f) ⟨k⟩ ⟨l⟩),(pA o),(.slice b m d),(iA i),(pA g),(.slice a n c),(iA n),(iA i),(.slice b m d),(iA m),(.int .i64 (wrap .i64 ((j:Int)+1)))] e) (xP (af SS.P 107 (pA o) 1) λz5=>xI .i64 (ae SS.P 3 e (.pointer (some z5))) λz7=>aS (((z7:Int)==0)) (aS ((((i:Int):Int)==(j:Int))) (xP (af SS.P 46 (pA g) 0) λy1=>xI .i64 (ae SS.P 3 e (.pointer (some y1))) λy9=>xP (af SS.P 46 (pA g) 3) λy0=>xI .i64 (ae SS.P 3 e (.pointer (some y0))) λy5=>xP (af SS.P 46 (pA (h.next)) 3) λx7=>xI .i64 (ae SS.P 3 e (.pointer (some x7))) λy7=>xA (aD SS.P 105 [(0,(.int .i64 y5)),(1,(.int .i64 y7))]) λx3=>xA (aD SS.P 107 [(0,(.agg ⟨x3⟩)),(1,(.int .i64 0))]) λu1=>aS (Nat.blt f YB) (FW SS f (k++[(.int .i64 y9),(.agg ⟨u1⟩)]++l) e λz0 y2=>z0=(.tuple ⟨[]⟩)/\aH (fD (bB f k l o a n c b m d g i) p) q [(.func (.func f) ⟨k⟩ ⟨l⟩),(pA o),(.slice b m d),(iA i),(pA g),(.slice a n c),(iA n),(iA i),(.slice b m d),(iA m),(.int .i64 (wrap .i64 ((j:Int)+1)))] y2) False) (xP (af SS.P 107 (pA o) 1) λz6=>xI .i64 (ae SS.P 3 e (.pointer (some z6))) λu=>aS (((u:Int)==0)) (aS (((u:Int)==0)) (xP (af SS.P 46 (pA g) 0) λy8=>xI .i64 (ae SS.P 3 e (.pointer (some y8))) λx1=>xP (af SS.P 46 (pA g) 3) λx6=>xI .i64 (ae SS.P 3 e (.pointer (some x6))) λy6=>xP (af SS.P 46 (pA (h.next)) 3) λu0=>xI .i64 (ae SS.P 3 e (.pointer (some u0))) λy3=>xA (aD SS.P 105 [(0,(.int .i64 y6)),(1,(.int .i64 y3))]) λu2=>xA (aD SS.P 107 [(0,(.agg ⟨u2⟩)),(1,(.int .i64 1))]) λx9=>aS (Nat.blt f YB) (FW SS f (k++[(.int .i64 x1),(.agg ⟨x9⟩)]++l) e λx4 x8=>x4=(.tuple ⟨[]⟩)/\aH (fD (bB f k l o a n c b m d g i) p) q [(.func (.func f) ⟨k⟩ ⟨l⟩),(pA o),(.slice b m d),(iA i),(pA g),(.slice a n c),(iA n),(iA i),(.slice b m d),(iA m),(.int .i64 (wrap .i64 ((j:Int)+1)))] x8) False) (aH (fD (bB f k l o a n c b m d g i) p) q [(.func (.func f) ⟨k⟩ ⟨l⟩),(pA o),(.slice b m d),(iA i),(pA g),(.slice a n c),(iA n),(iA i),(.slice b m d),(iA m),(.int .i64 (wrap .i64 ((j:Int)+1)))] e)) (xP (af SS.P 46 (pA g) 0) λz4=>xI .i64 (ae SS.P 3 e (.pointer (some z4))) λz9=>aS (decide ((z9:Int)>0)) (xP (af SS.P 46 (pA g) 0) λz8=>xI .i64 (ae SS.P 3 e (.pointer (some z8))) λu4=>xP (af SS.P 46 (pA g) 3) λy4=>xI .i64 (ae SS.P 3 e (.pointer (some y4))) λw=>xP (af SS.P 46 (pA (h.next)) 3) λX=>xI .i64 (ae SS.P 3 e (.pointer (some X))) λM=>xA (aD SS.P 105 [(0,(.int .i64 w)),(1,(.int .i64 M))]) λT=>xA (aD SS.P 107 [(0,(.agg ⟨T⟩)),(1,(.int .i64 1))]) λG=>aS (Nat.blt f YB) (FW SS f (k++[(.int .i64 u4),(.agg ⟨G⟩)]++l) e λv z=>v=(.tuple ⟨[]⟩)/\aH (fD (bB f k l o a n c b m d g i) p) q [(.func (.func f) ⟨k⟩ ⟨l⟩),(pA o),(.slice b m d),(iA i),(pA g),(.slice a n c),(iA n),(iA i),(.slice b m d),(iA m),(.int .i64 (wrap .i64 ((j:Int)+1)))] z) False) (aH (fD (bB f k l o a n c b m d g i) p) q [(.func (.func f) ⟨k⟩ ⟨l⟩),(pA o),(.slice b m d),(iA i),(pA g),(.slice a n c),(iA n),(iA i),(.slice b m d),(iA m),(.int .i64 (wrap .i64 ((j:Int)+1)))] e)))) (xP (af SS.P 107 (pA o) 1) λx0=>xI .i64 (ae SS.P 3 e (.pointer (some x0))) λr=>aS (((r:Int)==0)) (aS (((r:Int)==0)) (xP (af SS.P 46 (pA g) 0) λE=>xI .i64 (ae SS.P 3 e (.pointer (some E))) λI=>xP (af SS.P 46 (pA g) 3) λV=>xI .i64 (ae SS.P 3 e (.pointer (some V))) λZ=>xP (af SS.P 46 (pA (h.next)) 3) λO=>xI .i64 (ae SS.P 3 e (.pointer (some O))) λH=>xA (aD SS.P 105 [(0,(.int .i64 Z)),(1,(.int .i64 H))]) λx=>xA (aD SS.P 107 [(0,(.agg ⟨x⟩)),(1,(.int .i64 1))]) λF=>aS (Nat.blt f YB) (FW SS f (k++[(.int .i64 I),(.agg ⟨F⟩)]++l) e λS P=>S=(.tuple ⟨[]⟩)/\aH (fD (bB f k l o a n c b m d g i) p) q [(.func (.func f) ⟨k⟩ ⟨l⟩),(pA o),(.slice b m d),(iA i),(pA g),(.slice a n c),(iA n),(iA i),(.slice b m d),(iA m),(.int .i64 (wrap .i64 ((j:Int)+1)))] P) False) (aH (fD (bB f k l o a n c b m d g i) p) q [(.func (.func f) ⟨k⟩ ⟨l⟩),(pA o),(.slice b m d),(iA i),(pA g),(.slice a n c),(iA n),(iA i),(.slice b m d),(iA m),(.int .i64 (wrap .i64 ((j:Int)+1)))] e)) (xP (af SS.P 46 (pA g) 0) λL=>xI .i64 (ae SS.P 3 e (.pointer (some L))) λK=>aS (decide ((K:Int)>0)) (xP (af SS.P 46 (pA g) 0) λD=>xI .i64 (ae SS.P 3 e (.pointer (some D))) λJ=>xP (af SS.P 46 (pA g) 3) λW=>xI .i64 (ae SS.P 3 e (.pointer (some W))) λC=>xP (af SS.P 46 (pA (h.next)) 3) λY=>xI .i64 (ae SS.P 3 e (.pointer (some Y))) λy=>xA (aD SS.P 105 [(0,(.int .i64 C)),(1,(.int .i64 y))]) λA=>xA (aD SS.P 107 [(0,(.agg ⟨A⟩)),(1,(.int .i64 1))]) λB=>aS (Nat.blt f YB) (FW SS f (k++[(.int .i64 J),(.agg ⟨B⟩)]++l) e λU R=>U=(.tuple ⟨[]⟩)/\aH (fD (bB f k l o a n c b m d g i) p) q [(.func (.func f) ⟨k⟩ ⟨l⟩),(pA o),(.slice b m d),(iA i),(pA g),(.slice a n c),(iA n),(iA i),(.slice b m d),(iA m),(.int .i64 (wrap .i64 ((j:Int)+1)))] R) False) (aH (fD (bB f k l o a n c b m d g i) p) q [(.func (.func f) ⟨k⟩ ⟨l⟩),(pA o),(.slice b m d),(iA i),(pA g),(.slice a n c),(iA n),(iA i),(.slice b m d),(iA m),(.int .i64 (wrap .i64 ((j:Int)+1)))] e))))) (aH (fD (dD f k l o a n c b m d) s) mz [(.func (.func f) ⟨k⟩ ⟨l⟩),(pA o),(.slice b m d),(.slice a n c),(iA n),(.int .i64 (wrap .i64 ((i:Int)+1)))] h))(q:Nat){j:Nat}{h:aa}(N:p q j h):LL SS bc [1,1,0,1,0,0,1,1,0,0,1,1,1,0,0] (bB f k l o a n c b m d g i j) h (KK SS bc [1,1,0,0,1,1,1,0] [1,1,0,1,0,0] (RR bc [1,1,0,1,0,0] (fD (dD f k l o a n c b m d) s) mz (KK SS bc [1,1,0,1,0] [] (EE SS bc Q)))):=
 dN (bB f k l o a n c b m d g i) p (λq j zz h N=>av (step q j zz h N)) q N
theorem uW(E F:LV)(f:Nat)(j k:LV)(g:Nat)(b:OA)(m d:Nat)(e:Nat->Nat->aa->Prop)(Q:VH)(step:∀(a:Nat) (i:Nat) (B:Nat->Value) (h:aa),e a i h->aS (decide (((i:Int):Int)<(m:Int))) (xP (ai SS.P 42 (.slice b m d) (iA i)) λn=>xA (ae SS.P 46 h (.pointer (some n))) λt=>xN (aA SS.P 46) h λC l=>xU (aj SS.P 46 (pA (h.next)) (.agg ⟨t⟩) l) l λD c=>xP (af SS.P 46 (pA (h.next)) 0) λw=>xI .i64 (ae SS.P 3 c (.pointer (some w))) λx=>aS (((x:Int)==0)) (xP (af SS.P 107 (pA g) 0) λy=>xP (af SS.P 105 (.pointer (some y)) 0) λq=>xI .i64 (ae SS.P 3 c (.pointer (some q))) λv=>xP (af SS.P 46 (pA (h.next)) 3) λu=>xI .i64 (ae SS.P 3 c (.pointer (some u))) λr=>xA (aD SS.P 105 [(0,(.int .i64 v)),(1,(.int .i64 r))]) λA=>xA (aD SS.P 107 [(0,(.agg ⟨A⟩)),(1,(.int .i64 1))]) λz=>aS (Nat.blt f YB) (FW SS f (j++[(.int .i64 0),(.agg ⟨z⟩)]++k) c λo p=>o=(.tuple ⟨[]⟩)/\aH (fD (jq f j k g b m d) e) a [(.func (.func f) ⟨j⟩ ⟨k⟩),(pA g),(.slice b m d),(iA m),(.int .i64 (wrap .i64 ((i:Int)+1)))] p) False) (aH (fD (jq f j k g b m d) e) a [(.func (.func f) ⟨j⟩ ⟨k⟩),(pA g),(.slice b m d),(iA m),(.int .i64 (wrap .i64 ((i:Int)+1)))] c)) (Q (.tuple ⟨[]⟩) h))(a:Nat){i:Nat}{h:aa}(s:e a i h):LL SS bc [1,1,1,1,0,1,0,0] (jq f j k g b m d i) h (KK SS bc [1,1,1,1,0,1,0] [] (EE SS bc Q)):=
 dN (jq f j k g b m d) e (λa i B h s=>av (step a i B h s)) a s
section
abbrev Pl:=Nat×Nat×Nat
def qV(k:Pl):List Value:=[.int .i64 (k.1:Int),.int .i64 (k.2.1:Int),.int .i64 (k.2.2:Int)]
def dU(k:Pl):bu:= .cells (qV k) 107 0 true
theorem Su(k:Pl):dp SS.P 107 (.agg ⟨qV k⟩)=some (dU k,dR):=by kernel_rfl
theorem ph(k:Nat):af SS.P 107 (.pointer (some ⟨k,0,none⟩)) 0=some (.pointer (some ⟨k,0,none⟩)):=by kernel_rfl
theorem pj(k:Nat):af SS.P 107 (.pointer (some ⟨k,0,none⟩)) 1=some (.pointer (some ⟨k,2,none⟩)):=by kernel_rfl
noncomputable def acf:TypeDesc:=(SS.P.underlying 107).getD .bool
theorem aaA:SS.P.underlying 107=some acf:=by kernel_rfl
theorem Z0:Go.Ab.isAgg SS.P 107=true:=by kernel_rfl
theorem G0:au SS.P 107=some 3:=by kernel_rfl
section
variable {g:aa} {k:Nat} {x:Pl}
theorem dU.all(h:g.get k=some (dU x)):ae SS.P 107 g (.pointer (some ⟨k,0,none⟩))=some (.agg ⟨qV x⟩):=gG aaA Z0 G0 h (by simp[qV])
theorem dU.l0(h:g.get k=some (dU x)):ae SS.P 3 g (.pointer (some ⟨k,0+0,none⟩))=some (.int .i64 (x.1:Int)):=aR lC lB h (by simp[qV])
theorem dU.l1(h:g.get k=some (dU x)):ae SS.P 3 g (.pointer (some ⟨k,0+1,none⟩))=some (.int .i64 (x.2.1:Int)):=aR lC lB h (by simp[qV])
theorem dU.l2(h:g.get k=some (dU x)):ae SS.P 3 g (.pointer (some ⟨k,2,none⟩))=some (.int .i64 (x.2.2:Int)):=aR lC lB h (by simp[qV])
end
theorem tF(p q h:Int):aD SS.P 107 [(0,(.agg ⟨[.int .i64 p,.int .i64 q]⟩)),(1,(.int .i64 h))]=some (.agg ⟨[.int .i64 p,.int .i64 q,.int .i64 h]⟩):=by kernel_rfl
theorem OG{x y:Int}(a:x=(n:Int))(c:y=(m:Int))(b:z=(i:Int)):([.int .i64 x,.int .i64 y,.int .i64 z]:List Value)=qV (n,m,i):=by rw[a,c,b];rfl
def Hs(q h:Nat)(a:bJ):List (Int×Pl):=if a.i=0 then[(0,(a.t.toNat,q,if h=0 then 2 else h))]else[]
def HR(h i:Nat)(a:bJ)(k:Nat)(b:bJ):List (Int×Pl):=
 if a.i=b.i then(if h=0 then[(a.i,(a.t.toNat,b.t.toNat,if i=k then 0 else 1))]else if 0<a.i then[(a.i,(a.t.toNat,b.t.toNat,1))]else[])else[]
def uT(h i:Nat)(a:bJ):List bJ->Nat->List (Int×Pl)
 |[],_=>[]
 |b::r,k=>HR h i a k b++uT h i a r (k+1)
def zW(q h:Nat)(b:List bJ):List bJ->Nat->List (Int×Pl)
 |[],_=>[]
 |a::r,i=>Hs q h a++uT h i a b 0++zW q h b r (i+1)
def Nz(p:Nat)(b:bJ):List (Int×Pl):=if b.i=0 then[(0,(p,b.t.toNat,1))]else[]
def RG(M:aG)(k:Pl):List (Int×Pl):=zW k.2.1 k.2.2 (bC M k.2.1) (bC M k.1) 0++(if k.2.2=1 then(bC M k.2.1).flatMap (Nz k.1)else[])
theorem Fl(h i:Nat)(a:bJ):∀(l m:List bJ)(k:Nat),uT h i a (l++m) k=uT h i a l k++uT h i a m (k+l.length)
 |[],m,k=>rfl
 |b::l,m,k=>by
  rw[List.cons_append,uT,uT,Fl h i a l m (k+1),append_assoc,length_cons,Nat.add_assoc,Nat.add_comm 1]
theorem Fm(q h:Nat)(a:List bJ):∀(l m:List bJ)(k:Nat),zW q h a (l++m) k=zW q h a l k++zW q h a m (k+l.length)
 |[],m,k=>rfl
 |b::l,m,k=>by
  rw[List.cons_append,zW,zW,Fm q h a l m (k+1),append_assoc,append_assoc,append_assoc,length_cons,Nat.add_assoc,Nat.add_comm 1]
theorem vO{h i:Nat}{a:bJ}{x:Int×Pl}:∀{l:List bJ}{k:Nat},x∈uT h i a l k↔ ∃j b,l[j]?=some b/\x∈HR h i a (k+j) b
 |[],k=>by simp[uT]
 | c::l,k=>by
  rw[uT,mem_append,vO];constructor
  ·rintro(d|⟨j,b,d,e⟩)
   ·exact⟨0,c,rfl,d⟩
   ·exact⟨j+1,b,d,by rw[show k+(j+1)=k+1+j by omega];exact e⟩
  ·rintro⟨j,b,d,e⟩
   cases j with
   |zero=>
    obtain rfl:c=b:=by simpa using d
    exact .inl e
   |succ j=>exact .inr ⟨j,b,by simpa using d,by rw[show k+1+j=k+(j+1) by omega];exact e⟩
theorem N6{q h:Nat}{f:List bJ}{x:Int×Pl}:∀{l:List bJ}{k:Nat},x∈zW q h f l k↔ ∃i a,l[i]?=some a/\(x∈Hs q h a\/x∈uT h (k+i) a f 0)
 |[],k=>by simp[zW]
 | c::l,k=>by
  rw[zW,mem_append,mem_append,N6];constructor
  ·rintro(d|⟨j,b,d,e⟩)
   ·exact⟨0,c,rfl,d⟩
   ·exact⟨j+1,b,d,by rw[show k+(j+1)=k+1+j by omega];exact e⟩
  ·rintro⟨j,b,d,e⟩
   cases j with
   |zero=>
    obtain rfl:c=b:=by simpa using d
    exact .inl e
   |succ j=>exact .inr ⟨j,b,by simpa using d,by rw[show k+1+j=k+(j+1) by omega];exact e⟩
theorem N5(x:Good M){k v:Pl}{c:Int}:(c,v)∈RG M k↔RU M k c v:=by
 obtain⟨p,q,h⟩:=k;unfold RG;rw[mem_append,N6];dsimp only;constructor
 ·rintro(⟨i,a,g,m|m⟩|m)
  ·unfold Hs at m;split at m
   ·next l=>
    have:=mem_singleton.1 m;injection this with o r
    subst o;subst r;exact .WI (List.mem_of_getElem? g) l
   ·cases m
  ·obtain⟨j,b,f,d⟩:=vO.1 m;rw[zero_add,zero_add]at d;unfold HR at d;split at d
   ·next e=>
    split at d
    ·next l=>
     subst l;have:=mem_singleton.1 d;injection this with o r
     subst o;subst r;by_cases s:i=j
     ·subst s;rw[if_pos rfl];exact .same g f e
     ·rw[if_neg s];exact .fork g f e s
    ·next l=>
     split at d
     ·next z=>
      have:=mem_singleton.1 d;injection this with o r
      subst o;subst r;exact .read (List.mem_of_getElem? g) (List.mem_of_getElem? f) e (by omega) l
     ·cases d
   ·cases d
  ·split at m
   ·next t=>
    obtain⟨b,f,d⟩:=List.mem_flatMap.1 m;unfold Nz at d;split at d
    ·next l=>
     have:=mem_singleton.1 d;injection this with o r
     subst o;subst r;subst t;exact .U9 f l
    ·cases d
   ·cases m
 ·intro w
  cases w with
  |@WI _ _ _ a g l=>
   obtain⟨i,u⟩:=getElem?_of_mem g;exact .inl ⟨i,a,u,.inl (by unfold Hs;rw[if_pos l];exact mem_singleton.2 rfl)⟩
  |@same _ _ i a b g f e=>
   exact .inl ⟨i,a,g,.inr (vO.2 ⟨i,b,f,by unfold HR;rw[if_pos e,if_pos rfl,if_pos (by omega)];exact mem_singleton.2 rfl⟩)⟩
  |@fork _ _ i k a b g f e n=>
   exact .inl ⟨i,a,g,.inr (vO.2 ⟨k,b,f,by unfold HR;rw[if_pos e,if_pos rfl,if_neg (by omega)];exact mem_singleton.2 rfl⟩)⟩
  |@read _ _ _ a b g f e l t=>
   obtain⟨i,u⟩:=getElem?_of_mem g;obtain⟨j,y⟩:=getElem?_of_mem f;have:=(iY x g).i0;exact .inl ⟨i,a,u,.inr (vO.2 ⟨j,b,y,by unfold HR;rw[if_pos e,if_neg t,if_pos (by omega)];exact mem_singleton.2 rfl⟩)⟩
  |@U9 _ _ b f l=>
   exact .inr (by rw[if_pos rfl];exact List.mem_flatMap.2 ⟨b,f,by unfold Nz;rw[if_pos l];exact mem_singleton.2 rfl⟩)
end
end Go.Proofs.YtnlccnpbjeiccaaGreatDoor
end
