/- Laws and walks that the proof leans on (part 6): BA16; BA17; V12; BA18; V7; V8 and others. No condition. -/
import Derived.Test.YtaaichlgdgjgjaaGreatDoorPart5
import Derived.Test.YtaaichlgdgjgjaaGreatDoorPart3
import Derived.Test.YtaaichlgdgjgjaaGreatDoorPart2
set_option linter.unusedVariables false
set_option linter.unusedSimpArgs false
set_option maxRecDepth 100000
open List (all_cons all_eq_true append_assoc append_nil drop_eq_nil_of_le drop_zero ext_getElem getElem?_map getElem?_range length_append length_drop length_take map_append map_map map_set mem_append mem_cons mem_map mem_singleton range_succ take_of_length_le)
open Nat (lt_succ_self mul_le_mul)
open Option (map_eq_some_iff map_some)
open Bool (and_eq_true not_eq_false' not_eq_true')
open Go.IntKind (wrap)
section
namespace Go.Proofs.YtaaichlgdgjgjaaGreatDoor
open Go Go.Ab Go.Num
variable{h:ae}{T:TypeId}{n:Nat}{v:Value}{L:List (List Value)}
section
theorem qB{e:ae}(o:gh e h T n v L){k:Nat}(a:fN v=some k):∃cs,h.get k=some (.cells cs T n true):=by
 obtain⟨_,⟨b,_⟩|⟨d,f,cs,c,b,i,g,_⟩⟩:=o
 ·rw[b]at a;cases a
 ·rw[b]at a;obtain rfl:d=k:=oI a
  grind
theorem lO.other{hb g:ae}{h:List (dW×Value)}(m:lO hb g v h){k:Nat}{cs:List Value}{e z:Nat}{w:Bool}(u:g.get k=some (.cells cs e z w))(j:¬(e=73/\z=2))(l:¬(e=70/\z=4))(B:eB):lO hb (g.set k B) v h:=by
 have c:∀{b a:Nat}{f:Value}{d:List (List Value)},gh hb g b a f d->¬(e=b/\z=a)->gh hb (g.set k B) b a f d:=λ{b a f d} o s=>o.kL λt x q r=>by
  rw[ae.ay,if_neg ?_]
  all_goals grind[qB]
 exact⟨c m.row j,λi p n=>c (m.arcs i p n) l,m.ne,m.dis⟩
def Kp(g a:ae):Prop:=g.next<=a.next/\∀(j:Nat)(cs:List Value)(e z:Nat)(w:Bool),g.get j=some (.cells cs e z w)->¬(e=65/\z=0)->¬(e=73/\z=2)->¬(e=70/\z=4)->a.get j=some (.cells cs e z w)
theorem Kp.refl(g:ae):Kp g g:=⟨Nat.le_refl _,λ_ _ _ _ _ h _ _ _=>h⟩
theorem Kp.trans{g c d:ae}(a:Kp g c)(b:Kp c d):Kp g d:=⟨Nat.le_trans a.1 b.1,λj cs e z w h i k f=>b.2 j cs e z w (a.2 j cs e z w h i k f) i k f⟩
theorem O9{g a:ae}(o:Ok g a):Kp g a:=⟨o.nx,λj cs e z w h _ _ _=>o.ext _ _ h⟩
def Qi(kind start:Int)(lead:List UInt8)(a:Option Addr)(n c:Nat)(na:Nat):List Value:=[.int .i64 kind,.int .i64 start,strOf lead,.slice a n c,strOf (ct kind),.int .i64 (na:Int),.int .i64 0]
structure BU(hb g:ae)(k:Nat)(kind start:Int)(lead:List UInt8)(bT:List dW)(na:Nat):Prop where
 ex:∃(a:Option Addr)(n c:Nat)(ps:List (dW×Value)),g.get k=some (.cells (Qi kind start lead a n c na) 65 0 true)/\ps.map (·.1)=bT/\lO hb g (.slice a n c) ps
 ok:Ok hb g
 nk:hb.next<=k
theorem abX(k o n c:Nat):dV 4 (.slice (some ⟨k,o,none⟩) n c) (.slice (some ⟨k,o,none⟩) n c)=true:=by simp[dV]
theorem mg(k:Nat):bk SS.P 65 (pA k) 0=some (.pointer (some ⟨k,0,none⟩)):=by rfl
theorem Cv(k:Nat):bk SS.P 65 (pA k) 1=some (.pointer (some ⟨k,4,none⟩)):=by rfl
theorem OK(k:Nat):bk SS.P 65 (pA k) 2=some (.pointer (some ⟨k,5,none⟩)):=by rfl
theorem adA(k:Nat):bk SS.P 65 (pA k) 3=some (.pointer (some ⟨k,6,none⟩)):=by rfl
theorem agB(f:List UInt8):bu SS.P 73 [(0,strOf f)]=some (.agg ⟨[strOf f,nA]⟩):=by rfl
theorem aht:aI SS.P 27=some 1:=by rfl
theorem zs3:aI SS.P 3=some 1:=by rfl
theorem gz(kind start:Int)(lead:List UInt8)(a:Option Addr)(n c na:Nat):(Qi kind start lead a n c na).length=7:=rfl
theorem Db(n:Nat)(a:n<=1000000000):wrap .i64 (((n+1:Nat):Int)-1)=((n:Nat):Int):=by grind[aF]
section
variable {hb g:ae} {k:Nat} {kind start:Int} {lead:List UInt8} {bT:List dW} {na:Nat}
theorem BU.ym(b:BU hb g k kind start lead bT na)(o:Ok g h):BU hb h k kind start lead bT na:=by
 obtain⟨a,n,c,i,e,f,d⟩:=b.ex;exact⟨⟨a,n,c,i,o.ext _ _ e,f,d.ok o⟩,b.ok.trans o,b.nk⟩
theorem RS(w:Wf hb)(b:BU hb g k kind start lead bT na)(hl:bT.length<=100000)(f:List UInt8):FW SS 43 [pA k,strOf f] g (λv G=>v = .int .i64 (bT.length:Nat)/\BU hb G k kind start lead (bT++[⟨f,[]⟩]) na/\Kp g G):=by
 obtain⟨a,n,c,S,L,J,V⟩:=b.ex;have B:S.length=bT.length:=by rw[<-J,lM]
 have r:=(Ok.refl b.ok.wf).push (.cells [strOf f,.slice none 0 0] 73 2 true);have H:=b.ok.push (.cells [strOf f,.slice none 0 0] 73 2 true);have M:=r.ext _ _ L;have q:=V.ok r;obtain⟨m,d,l,u,Q,s,t,y,X,Y⟩:=q.snoc w H (f:=f) (arcs:=[]) (gh.nil hb _ 70 4) (λk' e=>by cases e) (aN g _) (by omega);have K:fN (.slice a n c)≠some k:=λe=>by
  obtain⟨cs,h⟩:=qB q.row e
  grind
 have o:=y _ _ M K;generalize I:u.app (g.push (.cells [strOf f,.slice none 0 0] 73 2 true))=D at*;have N:=s.other o (by omega) (by omega) (.cells (Qi kind start lead m d l na) 65 0 true);have A:(D.set k (.cells (Qi kind start lead m d l na) 65 0 true)).get k=some (.cells (Qi kind start lead m d l na) 65 0 true):=by rw[ae.ay,if_pos rfl]
 have W:d=bT.length+1:=by
  have:=s.st.len;rw[lM,length_append,B]at this;exact this
 have R:=ll aht o (i:=3) (by simp[gz]) (v:= .slice m d l) (Gx _ _ _) (by rfl);have U:=dp CR Hn A (i:=3) (by simp[gz]);refine RQ k f g _ ⟨_,mg k,_,dO k,a,n,c,dp CR Hn L (i:=3) (by simp[gz]),_,agB f,_,_,_,agv f none 0 0,m,d,l,u,Q,?_⟩;rw[I];refine⟨_,mg k,_,dO k,_,R,_,mg k,_,dO k,m,d,l,U,?_,⟨⟨m,d,l,_,A,?_,N⟩,t.set _ b.nk (t.wf _ _ o) w,b.nk⟩,?_⟩
 ·grind[Db]
 ·grind
 ·refine⟨by show g.next<=D.next;have:g.next<=(g.push (.cells [strOf f,.slice none 0 0] 73 2 true)).next:=r.nx;omega,λj cs e z w' T O P h3=>?_⟩;have x:=r.ext _ _ T;have p:=y _ _ x (λC=>by
   obtain⟨Z,h⟩:=qB q.row C;rw[x]at h;injection h with h
   injection h with _ E F
   exact P ⟨E,F⟩)
  show(D.set k _).get j=_;rw[ae.ay,if_neg (λC=>by
   rw[C,o]at p;injection p with p
   injection p with _ E F
   exact O ⟨E.symm,F.symm⟩)]
  omega
theorem agE(q:jj):fu SS.P 70 (.agg ⟨gM q⟩)=some (.cells (gM q) 70 0 true,np):=by rfl
theorem NQ(n:Nat)(a:n<=1000000000):wrap .i64 ((n:Int)+1)=((n+1:Nat):Int):=by grind[aF]
theorem aaf(w:Wf hb)(b:BU hb g k kind start lead bT na){s:Nat}{t:dW}(hs:bT[s]?=some t)(ha:t.arcs.length<=100000)(z6:na<=1000000)(q:jj):FW SS 44 [pA k,iA s,.agg ⟨gM q⟩] g (λv g'=>v = .tuple ⟨[]⟩/\BU hb g' k kind start lead (bT.set s ⟨t.f,t.arcs++[q]⟩) (na+1)/\Kp g g'):=by
 obtain⟨a,n,c,l,hk,T,om⟩:=b.ex;obtain⟨p,H,rfl⟩:∃p,l[s]?=some p/\p.1=t:=by
  rw[<-T,getElem?_map]at hs;exact map_eq_some_iff.1 hs
 have x3:0<(l.map yG).length:=by have:=(List.getElem?_eq_some_iff.1 H).1;rw[lM];omega
 obtain⟨f,d,cr,Y,z7⟩:=om.row.blk x3;injection Y with Y en ec
 subst Y en ec;have o1:=(Ok.refl b.ok.wf).push (.cells (gM q) 70 0 true);have P:=b.ok.push (.cells (gM q) 70 0 true);have m:=o1.ext _ _ hk;have y1:=om.ok o1;have x7:=aN g (.cells (gM q) 70 0 true);have z5:=b.ok.wf _ _ hk;generalize W:g.push (.cells (gM q) 70 0 true)=o at*;have y0:=dp KL JA m (i:=5) (by simp[gz]);have y5:=ll zs3 m (i:=5) (by simp[gz]) (v:= .int .i64 ((na+1:Nat):Int)) rfl rfl;have R:=y1.other m (by omega) (by omega) (.cells (Qi kind start lead (some ⟨f,d,none⟩) (l.map yG).length c (na+1)) 65 0 true);have u:=P.set (.cells (Qi kind start lead (some ⟨f,d,none⟩) (l.map yG).length c (na+1)) 65 0 true) b.nk (P.wf _ _ m) w;have O:(o.set k (.cells (Qi kind start lead (some ⟨f,d,none⟩) (l.map yG).length c (na+1)) 65 0 true)).get k=some (.cells (Qi kind start lead (some ⟨f,d,none⟩) (l.map yG).length c (na+1)) 65 0 true):=by rw[ae.ay,if_pos rfl]
 have z2:(o.set k (.cells (Qi kind start lead (some ⟨f,d,none⟩) (l.map yG).length c (na+1)) 65 0 true)).get g.next=some (.cells (gM q) 70 0 true):=by rw[ae.ay,if_neg (by omega)];exact x7
 refine aae k s (gM q) g _ ⟨_,agE q,?_⟩;rw[W];refine⟨_,OK k,_,y0,_,OK k,?_⟩;rw[NQ na (by omega)];refine⟨_,y5,?_⟩;have z8:(o.set k (.cells (Qi kind start lead (some ⟨f,d,none⟩) (l.map yG).length c (na+1)) 65 0 true)).next=o.next:=rfl;have z1:∀j cs e z L,g.get j=some (.cells cs e z L)->¬(e=65/\z=0)->(o.set k (.cells (Qi kind start lead (some ⟨f,d,none⟩) (l.map yG).length c (na+1)) 65 0 true)).get j=some (.cells cs e z L):=λj cs e z L I h1=>by
  have r:=o1.ext _ _ I;rw[ae.ay,if_neg (λA=>by
   rw[A,m]at r;injection r with r
   injection r with _ F J
   exact h1 ⟨F.symm,J.symm⟩)]
  exact r
 have z9:g.next<o.next:=by rw[<-W];exact lt_succ_self _
 generalize x6:o.set k (.cells (Qi kind start lead (some ⟨f,d,none⟩) (l.map yG).length c (na+1)) 65 0 true)=g2 at*;have e2:(eu.set k (.cells ((Qi kind start lead (some ⟨f,d,none⟩) (l.map yG).length c na).set 5 (.int .i64 ((na+1:Nat):Int))) 65 0 true)).app o=g2:=x6;rw[e2];obtain⟨E,y6⟩:=Q8 u.wf (n:=21) (j:=16) (by omega) (Ok.refl (u.room 21).wf) (.cells (gM q) 70 4 true);have or:=(Ok.refl u.wf).room 21;have x5:=R.ok or;obtain⟨i1,i2,i3⟩:=x5.at_ H;obtain⟨Z,xn,xc,M⟩:∃(Z:Option Addr)(xn xc:Nat),p.2 = .slice Z xn xc:=by
  obtain⟨x1,x2,e⟩:=(om.arcs s p H).ZN;exact⟨x1,_,x2,e⟩
 rw[M]at i2;have z0:=or.ext _ _ z2;have Q:=or.ext _ _ O;have x:=R.ok E;have V:=u.trans E;have y:=x.arcs s p H;rw[M]at y;obtain⟨b4,n4,c4,u4,y2,x9,y8,C,y9,z4⟩:=UZ w V y (q:=q) y6 ha;have K:=E.ext _ _ O;have X:fN (.slice Z xn xc)≠some k:=λe=>by
  obtain⟨D,h⟩:=qB y e;rw[K]at h;injection h with h
  injection h with _ h
  exact absurd h (by decide)
 have N:=C _ _ K X;obtain⟨u5,x0,y4,y7,S,x8⟩:=x.ahe w y8 H (λj B I U=>C _ _ I (by rw[M]at U;exact U)) x9 (λj e=>by rw[M];exact y9 j e) V.wf;have x4:f≠k:=λe=>by
  obtain⟨D,h⟩:=qB x.row (k:=f) rfl;rw[e,K]at h;injection h with h
  injection h with _ h
  exact absurd h (by decide)
 have y3:aj SS.P 70 (Go.Ab.room g2 21) (pA g.next)=some (.agg ⟨gM q⟩):=by
  rw[sj aeh ac5 Rf z0 (by simp[LA]),drop_zero,take_of_length_le (by simp[LA])]
 refine⟨_,mg k,_,dO k,_,_,_,dp CR Hn Q (i:=3) (by simp[gz]),_,mg k,_,dO k,_,_,_,dp CR Hn Q (i:=3) (by simp[gz]),_,i1,_,mh _ _,_,_,_,i2,_,y3,_,_,_,agw q,b4,n4,c4,u4,y2,_,i1,_,mh _ _,u5,x0,⟨dp CR Hn N (i:=3) (by simp[gz]),abX _ _ _ _⟩,rfl,⟨⟨_,_,_,_,S _ _ N x4,?_,y4⟩,y7,b.nk⟩,?_⟩
 ·rw[<-T,map_set]
 ·refine⟨by rw[x8];have:=E.nx;omega,λj cs e z L I h1 h2 h3=>?_⟩;have G:=E.ext _ _ (z1 _ _ _ _ _ I h1);have z3:=C _ _ G (λA=>by
   obtain⟨D,h⟩:=qB y A;rw[G]at h;injection h with h
   injection h with _ F J
   exact h3 ⟨F,J⟩)
  refine S _ _ z3 (λA=>?_);obtain⟨D,h⟩:=qB x.row (k:=f) rfl;rw[A,G]at h;injection h with h
  injection h with _ F J
  exact h2 ⟨F,J⟩
end
end
variable{A:Type}{i:Nat}{c:List Value}{d:List Value}
section
theorem Em(l:List A)(a:A)(r:List A){n:Nat}(h:l.length=n):(l++a::r)[n]?=some a:=by
 subst h;rw[List.getElem?_append_right (Nat.le_refl _),Nat.sub_self];rfl
theorem yz(l:List A)(a b:A)(r:List A){n:Nat}(h:l.length=n):(l++a::r).set n b=l++b::r:=by
 subst h;rw[List.set_append_right _ _ (Nat.le_refl _),Nat.sub_self];rfl
theorem GF{l:List A}{a:A}(h:l[i]?=some a):l=l.take i++a::l.drop (i+1)/\(l.take i).length=i:=by
 have b:=(List.getElem?_eq_some_iff.1 h).1;have e:l[i]=a:=by rw[gE b]at h;exact oI h
 refine⟨?_,by rw[length_take];omega⟩;rw[<-e,<-List.drop_eq_getElem_cons b,List.take_append_drop]
theorem eA(l r:List dW):bV (l++r)=bV l+bV r:=by unfold bV;rw[map_append,List.sum_append]
theorem Nz{l:List dW}{s:dW}(h:l[i]?=some s):s.arcs.length<=bV l:=by
 obtain⟨e,_⟩:=GF h;rw[e,eA,dy];omega
theorem GI{l:List dW}{s t:dW}(h:l[i]?=some s):bV (l.set i t)+s.arcs.length=bV l+t.arcs.length:=by
 obtain⟨e,a⟩:=GF h
 conv=>rhs;rw[e]
 conv=>lhs;rw[e]
 rw[yz _ _ _ _ a,eA,dy,eA,dy];omega
abbrev BS(hb g:ae)(k:Nat)(kind start:Int)(lead:List UInt8)(bT:List dW):Prop:=BU hb g k kind start lead bT (bV bT)
section
variable {hb g:ae} {k:Nat} {kind start:Int} {lead:List UInt8} {bT:List dW}
theorem jv(w:Wf hb)(b:BS hb g k kind start lead bT)(d:bT.length<=100000)(f:List UInt8):FW SS 43 [pA k,strOf f] g (λv a=>v = .int .i64 (bT.length:Nat)/\BS hb a k kind start lead (bT++[⟨f,[]⟩])/\Kp g a):=by
 refine(RS w b d f).mono ?_;rintro v a ⟨e,h,c⟩;refine⟨e,?_,c⟩;unfold BS;rw[eA];exact h
theorem AP(w:Wf hb)(b:BS hb g k kind start lead bT){s:Nat}{t:dW}(c:bT[s]?=some t)(j:bV bT<=100000)(q:jj):FW SS 44 [pA k,iA s,.agg ⟨gM q⟩] g (λv a=>v = .tuple ⟨[]⟩/\BS hb a k kind start lead (bT.set s ⟨t.f,t.arcs++[q]⟩)/\Kp g a):=by
 have:=Nz c;refine(aaf w b c (by omega) (by omega) q).mono ?_;rintro v a ⟨f,i,d⟩;refine⟨f,?_,d⟩;have e:=GI c (t:=⟨t.f,t.arcs++[q]⟩);have l:(t.arcs++[q]).length=t.arcs.length+1:=by simp
 have h:bV (bT.set s ⟨t.f,t.arcs++[q]⟩)=bV bT+1:=by
  have:bV (bT.set s ⟨t.f,t.arcs++[q]⟩)+t.arcs.length=bV bT+(t.arcs++[q]).length:=e;omega
 unfold BS;rw[h];exact i
theorem agA(w:List UInt8)(t:Int):bu SS.P 70 [(2,strOf w),(3,.int .i64 t)]=some (.agg ⟨gM ⟨0,0,w,t⟩⟩):=by kernel_rfl
theorem Ef(w:Wf hb)(b:BS hb g k kind start lead bT){s:Nat}{t:dW}(e:bT[s]?=some t)(d:bV bT<=100000)(x:List UInt8)(a:Int):FW SS 58 [pA k,iA s,strOf x,.int .i64 a] g (λv c=>v = .tuple ⟨[]⟩/\BS hb c k kind start lead (bT.set s ⟨t.f,t.arcs++[⟨0,0,x,a⟩]⟩)/\Kp g c):=by
 refine aan k s x a g _ ⟨_,agA x a,(AP w b e d ⟨0,0,x,a⟩).mono ?_⟩;rintro _ c ⟨rfl,f⟩;exact⟨rfl,rfl,f⟩
theorem aff(kind:Int)(l:List UInt8):bu SS.P 29 [(0,.int .i64 kind),(2,strOf l)]=some (.agg ⟨[.int .i64 kind,.int .i64 0,strOf l,nA]⟩):=by kernel_rfl
theorem agz(kind:Int)(l a:List UInt8):bu SS.P 65 [(0,.agg ⟨[.int .i64 kind,.int .i64 0,strOf l,nA]⟩),(1,strOf a)]=some (.agg ⟨[.int .i64 kind,.int .i64 0,strOf l,nA,strOf a,.int .i64 0,.int .i64 0]⟩):=by kernel_rfl
theorem agD(kind:Int)(l a:List UInt8):fu SS.P 65 (.agg ⟨[.int .i64 kind,.int .i64 0,strOf l,nA,strOf a,.int .i64 0,.int .i64 0]⟩)=some (.cells [.int .i64 kind,.int .i64 0,strOf l,nA,strOf a,.int .i64 0,.int .i64 0] 65 0 true,np):=by kernel_rfl
theorem oU(kind:Int)(w:Wf g):FW SS 42 [.int .i64 kind] g (λv b=>∃k,v=pA k/\BS g b k kind 0 (ct kind) []):=by
 refine RO kind g _ ((abC kind w).mono ?_);rintro _ d ⟨rfl,a⟩;have c:=a.push (.cells [.int .i64 kind,.int .i64 0,strOf (ct kind),nA,strOf (ct kind),.int .i64 0,.int .i64 0] 65 0 true);exact⟨_,rfl,_,aff _ _,_,agz _ _ _,_,agD _ _ _,_,rfl,⟨none,0,0,[],aN d _,rfl,lO.nil _ _⟩,c,a.nx⟩
theorem H8{a b c:List UInt8}(w:Wf hb)(o:qJ hb)(d:BS hb g k kind start lead bT)(l:aO kind a=true)(f:aO kind b=true)(p:cO kind a b=some c):FW SS 63 [pA k,strOf a,strOf b] g (λv h=>v=strOf c/\Ok g h):=by
 obtain⟨q,n,cc,r,m,_⟩:=d.ex;refine RT k a b g _ ⟨_,mg k,_,dN k,_,dp KL JA m (i:=0) (by simp[gz]),(Np l f p (o.ok d.ok) d.ok.wf).mono ?_⟩;rintro _ s ⟨rfl,j⟩;exact⟨_,_,rfl,aa (λe=>by cases e) (λ_=>⟨rfl,j⟩)⟩
theorem agC(k:Nat):fu SS.P 62 (pA k)=some (.cells [pA k] 62 0 true,np):=by kernel_rfl
theorem bx3(t:Int):fu SS.P 3 (.int .i64 t)=some (.cells [.int .i64 t] 3 0 true,np):=by kernel_rfl
noncomputable def af4:TypeDesc:=(SS.P.underlying 62).getD .bool
theorem af3:SS.P.underlying 62=some af4:=by kernel_rfl
theorem aeB:Go.Ab.isAgg SS.P 62=false:=by kernel_rfl
def oJ(k:Nat)(d:Option Int)(f:Nat)(e b:List Value)(g:ae):Prop:=e=[]/\match d with
 |none=>f=60/\b=[]
 |some t=>f=87/\∃a c,b=[pA a,pA c]/\g.get a=some (.cells [pA k] 62 0 true)/\g.get c=some (.cells [.int .i64 t] 3 0 true)
theorem oJ.kp{k:Nat}{a:Option Int}{g b:ae}(l:oJ k a n c d g)(h:Kp g b):oJ k a n c d b:=by
 obtain⟨j,e⟩:=l;refine⟨j,?_⟩
 cases a with
 |none=>exact e
 |some t=>
  obtain⟨i,f,p,m,q,o⟩:=e;exact⟨i,f,p,m,h.2 _ _ _ _ _ q (by decide) (by decide) (by decide),h.2 _ _ _ _ _ o (by decide) (by decide) (by decide)⟩
theorem oJ.blt{k:Nat}{a:Option Int}{g:ae}(l:oJ k a n c d g):Nat.blt n YB=true:=by
 obtain⟨_,b⟩:=l
 cases a with
 |none=>rw[b.1];decide +kernel
 |some t=>rw[b.1];decide +kernel
theorem Fb(w:Wf g)(t:Int):FW SS 64 [pA k,.int .i64 t] g (λv a=>∃c,v = .func (.func 87) ⟨[]⟩ ⟨c⟩/\oJ k (some t) 87 [] c a/\Ok g a):=by
 have b:=(Ok.refl w).push (.cells [pA k] 62 0 true);have d:=(Ok.refl b.wf).push (.cells [.int .i64 t] 3 0 true);exact Vg k t g _ ⟨_,agC k,_,bx3 t,_,rfl,⟨rfl,rfl,_,_,rfl,d.ext _ _ (aN g _),aN _ _⟩,b.trans d⟩
def wN(a:Option Int)(t:dW):dW:=match a with
 |none=>t
 |some b=>⟨[],t.arcs++[⟨0,0,t.f,b⟩]⟩
theorem WB{y:Option Int}{P:List Value}(w:Wf hb)(b:BS hb g k kind start lead bT)(l:oJ k y n d P g){s:Nat}{t:dW}(m:bT[s]?=some t)(x3:bV bT<=100000):
  FW SS n (d++[iA s,strOf t.f]++P) g (λv x=>v = .tuple ⟨[]⟩/\BS hb x k kind start lead (bT.set s (wN y t))/\Kp g x):=by
 obtain⟨rfl,l⟩:=l
 cases y with
 | none=>
  obtain⟨rfl,rfl⟩:=l;refine Va s t.f g _ ⟨rfl,?_,Kp.refl g⟩;have e:bT.set s (wN none t)=bT:=by
   obtain⟨H,E⟩:=GF m
   conv=>lhs;rw[H]
   rw[yz _ _ _ _ E];exact H.symm
  rw[e];exact b
 | some to=>
  obtain⟨rfl,W,k3,rfl,B,K⟩:=l;obtain⟨a,x7,c,R,C,q,o⟩:=b.ex;obtain⟨p,F,rfl⟩:∃p,R[s]?=some p/\p.1=t:=by
   rw[<-q,getElem?_map]at m;exact map_eq_some_iff.1 m
  have A:0<(R.map yG).length:=by have:=(List.getElem?_eq_some_iff.1 F).1;rw[lM];omega
  obtain⟨N,x4,cr,r,x5⟩:=o.row.blk A;injection r with r X Y
  subst r X Y;obtain⟨U,_,_⟩:=o.at_ F;obtain⟨u,st,J,Q,h,L⟩:=o.afQ w b.ok F [];have f:∃cs,g.get N=some (.cells cs 73 2 true):=qB o.row (k:=N) rfl;obtain⟨x6,f⟩:=f;have G:=h _ _ C (λe=>mf f C (by decide) e);have E:=h _ _ B (λe=>mf f B (by decide) e);have e3:=h _ _ K (λe=>mf f K (by decide) e);have b2:BS hb (u.app g) k kind start lead (bT.set s ⟨[],p.1.arcs⟩):=by
   refine⟨⟨_,_,_,_,?_,by rw[map_set,q],J⟩,Q,b.nk⟩;have e:=GI m (t:=⟨[],p.1.arcs⟩);have V:bV (bT.set s ⟨[],p.1.arcs⟩)=bV bT:=by
    have:bV (bT.set s ⟨[],p.1.arcs⟩)+p.1.arcs.length=bV bT+p.1.arcs.length:=e;omega
   rw[V];exact G
  have S:(bT.set s ⟨[],p.1.arcs⟩)[s]?=some (⟨[],p.1.arcs⟩:dW):=by
   have x0:=(List.getElem?_eq_some_iff.1 m).1;rw[List.getElem?_set_self (by omega)]
  have M:Kp g (u.app g):=⟨Nat.le_of_eq L.symm,λj cs e z w' T _ Z _=>h _ _ T (λc=>by
   rw[c,T]at f;injection f with f
   injection f with _ x1 x2
   exact Z ⟨x1,x2⟩)⟩
  have D:bV (bT.set s ⟨[],p.1.arcs⟩)<=100000:=by
   have:bV (bT.set s ⟨[],p.1.arcs⟩)+p.1.arcs.length=bV bT+p.1.arcs.length:=GI m (t:=⟨[],p.1.arcs⟩);omega
  refine RL s p.1.f W k3 g _ ⟨_,dp af3 aeB B (i:=0) (by simp),nG ⟨_,mg k,_,dO k,_,_,_,dp CR Hn C (i:=3) (by simp[gz]),_,U,_,qg _ _,u,st,_,dp af3 aeB E (i:=0) (by simp),_,dp KL JA e3 (i:=0) (by simp),(Ef w b2 S D p.1.f to).mono ?_⟩⟩;rintro _ x ⟨rfl,I,O⟩;refine⟨rfl,rfl,?_,M.trans O⟩;rw[List.set_set]at I;exact I
end
end
noncomputable def eW:FD:=dq Tryz.f59 [([1,1,0,1,0,0],[0,2,4,7,21,22,23]),([1,1,1,0,1,0,0],[0,2,4,7,33,34,35]),([1,1,1,0,1,0,0,1,1,0,0,1,0,1,0,0],[0,2,4,7,10,11,33,34,35,41,42,43])]
abbrev sO(k g:Nat)(e f:LV)(d b:Nat)(a:OA)(n c:Nat)(i:Nat):LV:=[(pA k),(.func (.func g) ⟨e⟩ ⟨f⟩),(pA d),(iA b),(.slice a n c),(iA n),(iA i)]
abbrev iD(k g:Nat)(e f:LV)(d b:Nat)(a:OA)(n c:Nat)(i:Nat):LV:=[(pA k),(.func (.func g) ⟨e⟩ ⟨f⟩),(pA d),(iA b),(.slice a n c),(iA n),(iA i)]
abbrev sP(k g:Nat)(l m:LV)(f b:Nat)(a:OA)(n c i o:Nat)(e:OA)(d h:Nat)(j:Nat):LV:=[(pA k),(.func (.func g) ⟨l⟩ ⟨m⟩),(pA f),(iA b),(iA i),(pA o),(.slice a n c),(iA n),(iA i),(.slice e d h),(iA d),(iA j)]
theorem U7(k:Nat)(l:LV)(g:Nat)(m n:LV)(h:ae)(Q:VH)(o:xN (fu SS.P 29 (.agg ⟨l⟩)) h λ_ j=>fP 65 (pA k) 0 λi=>fP 29 (.pointer (some i)) 3 λf=>lL 27 j f λ_ e _=>fP 29 (pA (h.next)) 3 λd=>lL 27 j d λa b c=>LL SS eW [1,1,0,1,0,0] [(pA k),(.func (.func g) ⟨m⟩ ⟨n⟩),(pA (h.next)),(iA e),(.slice a b c),(iA b),(.int .i64 0)] j (KK SS eW [1,1,0,1,0] [] (EE SS eW Q))):FW SS 59 [(pA k),(.agg ⟨l⟩),(.func (.func g) ⟨m⟩ ⟨n⟩)] h Q:=du eW Tryz.func59 (ai o)
theorem Ci(k:Nat)(x:LV)(g:Nat)(t u:LV)(s p:Nat)(a:OA)(n c:Nat)(r:Nat->Nat->ae->Prop)(Q:VH)(step:∀(q:Nat) (i:Nat) (w:Nat->Value) (h:ae),r q i h->au (decide (((i:Int):Int)<(n:Int))) (iP 27 (.slice a n c) (iA i) λo=>lA 73 h (.pointer (some o)) λm=>xN (av SS.P 73) h λ_ l=>xU (ah SS.P 73 (pA (h.next)) (.agg ⟨m⟩) l) l λ_ j=>fP 73 (pA (h.next)) 0 λf=>lS j f λe=>FW SS 43 [(pA k),(strOf e)] j λb d=>yI .i64 b λ_=>aM (gp (sO k g t u s p a n c) r) q [(pA k),(.func (.func g) ⟨t⟩ ⟨u⟩),(pA s),(iA p),(.slice a n c),(iA n),(.int .i64 (wrap .i64 ((i:Int)+1)))] d) (fP 29 (pA s) 3 λd=>lL 27 h d λa b c=>LL SS eW [1,1,1,0,1,0,0] [(pA k),(.func (.func g) ⟨t⟩ ⟨u⟩),(pA s),(iA p),(.slice a b c),(iA b),(.int .i64 0)] h (KK SS eW [1,1,1,0,1,0] [] (EE SS eW Q))))(q:Nat){i:Nat}{h:ae}(v:r q i h):LL SS eW [1,1,0,1,0,0] (sO k g t u s p a n c i) h (KK SS eW [1,1,0,1,0] [] (EE SS eW Q)):=
 dJ (sO k g t u s p a n c) r (λq i w h v=>ai (step q i w h v)) q v
theorem Cj(k:Nat)(x:LV)(g:Nat)(t u:LV)(s r:Nat)(a:OA)(n c:Nat)(q:Nat->Nat->ae->Prop)(Q:VH)(step:∀(p:Nat) (i:Nat) (w:Nat->Value) (h:ae),q p i h->au (decide (((i:Int):Int)<(n:Int))) (iP 27 (.slice a n c) (iA i) λo=>lA 73 h (.pointer (some o)) λm=>xN (av SS.P 73) h λ_ l=>xU (ah SS.P 73 (pA (h.next)) (.agg ⟨m⟩) l) l λ_ j=>fP 73 (pA (h.next)) 1 λf=>lL 71 j f λb d e=>LL SS eW [1,1,1,0,1,0,0,1,1,0,0,1,0,1,0,0] [(pA k),(.func (.func g) ⟨t⟩ ⟨u⟩),(pA s),(iA r),(iA i),(pA (h.next)),(.slice a n c),(iA n),(iA i),(.slice b d e),(iA d),(.int .i64 0)] j (KK SS eW [1,1,0,0,1,0,1,0] [1,1,1,0,1,0,0] (RR eW [1,1,1,0,1,0,0] (gp (iD k g t u s r a n c) q) p (KK SS eW [1,1,1,0,1,0] [] (EE SS eW Q))))) (fP 29 (pA s) 1 λb=>lI h b λa=>Q (.int .i64 (wrap .i64 ((r:Int)+a))) h))(p:Nat){i:Nat}{h:ae}(v:q p i h):LL SS eW [1,1,1,0,1,0,0] (iD k g t u s r a n c i) h (KK SS eW [1,1,1,0,1,0] [] (EE SS eW Q)):=
 dJ (iD k g t u s r a n c) q (λp i w h v=>ai (step p i w h v)) p v
theorem Ck(k:Nat)(H:LV)(g:Nat)(v w:LV)(x t:Nat)(a:OA)(n c:Nat)(A:Nat->Nat->ae->Prop)(D i:Nat)(B:Nat)(C:OA)(z E:Nat)(y:Nat->Nat->ae->Prop)(Q:VH)(step:∀(u:Nat) (j:Nat) (G:Nat->Value) (h:ae),y u j h->au (decide (((j:Int):Int)<(z:Int))) (iP 71 (.slice C z E) (iA j) λs=>lA 70 h (.pointer (some s)) λr=>xN (av SS.P 70) h λ_ q=>xU (ah SS.P 70 (pA (h.next)) (.agg ⟨r⟩) q) q λ_ p=>fP 70 (pA (h.next)) 3 λo=>lI p o λm=>fP 70 (pA (h.next)) 3 λl=>xU (ah SS.P 3 (.pointer (some l)) (.int .i64 (wrap .i64 (m+(t:Int)))) p) p λ_ f=>lA 70 f (pA (h.next)) λe=>FW SS 44 [(pA k),(.int .i64 (wrap .i64 ((t:Int)+(i:Int)))),(.agg ⟨e⟩)] f λb d=>b=(.tuple ⟨[]⟩)/\aM (gp (sP k g v w x t a n c i B C z E) y) u [(pA k),(.func (.func g) ⟨v⟩ ⟨w⟩),(pA x),(iA t),(iA i),(pA B),(.slice a n c),(iA n),(iA i),(.slice C z E),(iA z),(.int .i64 (wrap .i64 ((j:Int)+1)))] d) (fP 73 (pA B) 0 λl=>lS h l λj=>au (!((j:LB)==[])) (fP 73 (pA B) 0 λf=>lS h f λe=>au (Nat.blt g YB) (FW SS g (v++[(.int .i64 (wrap .i64 ((t:Int)+(i:Int)))),(strOf e)]++w) h λb d=>b=(.tuple ⟨[]⟩)/\aM (gp (iD k g v w x t a n c) A) D [(pA k),(.func (.func g) ⟨v⟩ ⟨w⟩),(pA x),(iA t),(.slice a n c),(iA n),(.int .i64 (wrap .i64 ((i:Int)+1)))] d) False) (aM (gp (iD k g v w x t a n c) A) D [(pA k),(.func (.func g) ⟨v⟩ ⟨w⟩),(pA x),(iA t),(.slice a n c),(iA n),(.int .i64 (wrap .i64 ((i:Int)+1)))] h)))(u:Nat){j:Nat}{h:ae}(F:y u j h):LL SS eW [1,1,1,0,1,0,0,1,1,0,0,1,0,1,0,0] (sP k g v w x t a n c i B C z E j) h (KK SS eW [1,1,0,0,1,0,1,0] [1,1,1,0,1,0,0] (RR eW [1,1,1,0,1,0,0] (gp (iD k g v w x t a n c) A) D (KK SS eW [1,1,1,0,1,0] [] (EE SS eW Q)))):=
 dJ (sP k g v w x t a n c i B C z E) y (λu j G h F=>ai (step u j G h F)) u F
variable{B:Type}{M:bJ}{m:Nat}
section
def bare(s:dW):dW:=⟨s.f,[]⟩
def K1(a:Nat)(q:jj):jj:=⟨q.i,q.o,q.w,q.t+a⟩
def lC(a:Nat)(b:Option Int)(s:dW):dW:=if s.f=[]then⟨[],s.arcs.map (K1 a)⟩else wN b ⟨s.f,s.arcs.map (K1 a)⟩
theorem oi(a:Nat)(b:Option Int):∀l:List dW,bV (l.map (lC a b))<=bV l+l.length
 |[]=>Nat.le_refl _
 | s::l=>by
  have c:=oi a b l;rw[List.map_cons,dy,dy,List.length_cons];have:(lC a b s).arcs.length<=s.arcs.length+1:=by
   unfold lC wN;split
   ·simp
   ·grind
  omega
theorem LG:∀l:List dW,bV (l.map bare)=0
 |[]=>rfl
 |s::l=>by rw[List.map_cons,dy,LG l];rfl
theorem s8(f:A->B){l:List A}{i:Nat}{a:A}(h:l[i]?=some a):(l.take (i+1)).map f=(l.take i).map f++[f a]:=by grind[List.take_add_one]
theorem ZB(h:n+i<=1000000000):wrap .i64 ((n:Int)+(i:Int))=((n+i:Nat):Int):=by grind[aF]
section
variable {hb g:ae} {k:Nat} {kind start:Int} {lead:List UInt8} {bT:List dW}
theorem tf{x:Option Addr}{z:Nat}{p:Option Int}(w:Wf hb)(b:BS hb g k kind start lead bT)(r:dR hb (.slice x n z) M.af)(l:oJ k p m c d g)(hl:bT.length+M.af.length<=100000)(z4:bV bT+bV M.af+M.af.length<=100000)(z6:0<=M.start/\M.start<M.af.length)(y2:∀s∈M.af,∀a∈s.arcs,0<=a.t/\a.t<M.af.length):
  FW SS 59 [pA k,.agg ⟨bM M x n z⟩,.func (.func m) ⟨c⟩ ⟨d⟩] g (λv o=>v = .int .i64 ((bT.length:Int)+M.start)/\BS hb o k kind start lead (bT++M.af.map (lC bT.length p))/\Kp g o):=by
 obtain⟨xa,xn,xc,ps,hk,y9,om⟩:=b.ex;obtain⟨Q,W⟩:=fv b.ok.wf (r.ok b.ok);obtain rfl:n=M.af.length:=Q.len;have b0:=b.ym W;have l0:=l.kp (O9 W);have y8:xn=bT.length:=by have:=om.st.len;rw[this,y9]
 subst y8;refine U7 k (bM M x M.af.length z) m c d g _ ⟨_,iO M x _ z,_,mg k,_,dO k,_,_,_,dp CR Hn (W.ext _ _ hk) (i:=3) (by simp[gz]),_,dO _,_,_,_,Q.l3,?_⟩;have z3:=(O9 W)
 have x0:∀o,Kp (g.push (Bm M x M.af.length z)) o->Ok hb o->MB o g.next M x M.af.length z:=λo h ok=>⟨h.2 _ _ _ _ _ Q.box (by decide) (by decide) (by decide),r.ok ok⟩
 generalize z8:g.push (Bm M x M.af.length z)=g0 at*;obtain⟨f,S⟩:∃f,f=bT.length:=⟨_,rfl⟩
 rw[<-S]at hl⊢;refine Ci k (bM M x M.af.length z) m c d g.next f x M.af.length z (λy i o=>i<=M.af.length/\y=M.af.length-i/\BS hb o k kind start lead (bT++(M.af.take i).map bare)/\Kp g0 o) _ (λy i=>?_) M.af.length (i:=0) ⟨by omega,rfl,by grind,Kp.refl _⟩;intros;rename_i g1 y1;obtain⟨f1,f2,T,P⟩:=y1;refine aa (λq1=>?_) (λq1=>?_)
 ·have E:i<M.af.length:=by have:=dT q1;omega
  obtain⟨s,A⟩:∃s,M.af[i]?=some s:=⟨_,gE E⟩
  obtain⟨bb,oo,u,U,t,u1,H,u3,u4,ar⟩:=(r.ok T.ok).at_ A;obtain⟨I,p1,J,Z⟩:=QZ T.ok.wf s.f u U t;have G:=T.ym J;refine⟨_,u1,_,H,_,aaa,I,p1,_,qg _ _,_,Z.l0,(jv w G (by rw[length_append,lM,length_take];omega) s.f).mono ?_⟩;rintro _ D ⟨rfl,b3,R⟩;rw[bg E (by omega)];refine⟨_,rfl,cz (M.af.length-(i+1)) (by omega) ⟨by omega,rfl,?_,(P.trans (O9 J)).trans R⟩⟩
  grind[s8,bare]
 obtain rfl:i=M.af.length:=by grind
 rw[List.take_length]at T;have y7:=x0 _ P T.ok;refine⟨_,dO _,_,_,_,y7.l3,?_⟩;refine Cj k (bM M x M.af.length z) m c d g.next f x M.af.length z (λy i o=>i<=M.af.length/\y=M.af.length-i/\BS hb o k kind start lead (bT++(M.af.take i).map (lC f p)++(M.af.drop i).map bare)/\Kp g0 o) _ (λy i=>?_) M.af.length (i:=0) ⟨by omega,rfl,by grind,P⟩;intros;rename_i D x7;obtain⟨d1,d2,G,V⟩:=x7;have Y:∀i,i<=M.af.length->bV (bT++(M.af.take i).map (lC f p))+bV (M.af.drop i)<=99999+1:=λi E=>by grind[oi,List.take_append_drop,bV]
 refine aa (λq2=>?_) (λq2=>?_)
 ·have E:i<M.af.length:=by have:=dT q2;omega
  obtain⟨s,A⟩:∃s,M.af[i]?=some s:=⟨_,gE E⟩
  have y4:=List.mem_of_getElem? A;obtain⟨bb,oo,u,U,t,u1,H,u3,u4,ar⟩:=r.at_ A;have H:=Mr G.ok H;obtain⟨I,p1,J,Z⟩:=QZ G.ok.wf s.f u U t;have b3:=G.ym J;have hy:=ar.len;subst hy;refine⟨_,u1,_,H,_,aaa,I,p1,_,mh _ _,_,_,_,Z.l1,?_⟩;have hd:(M.af.drop i).map bare=⟨s.f,(s.arcs.take 0).map (K1 f)⟩::(M.af.drop (i+1)).map bare:=by rw[iS A,List.map_cons];rfl
  rw[hd]at b3;have hL:(bT++(M.af.take i).map (lC f p)).length=f+i:=by rw[length_append,lM,length_take,<-S,Nat.min_eq_left (by omega)]
  have R:=V.trans (O9 J);have x2:SB (I.app (D.push UB)) D.next s.f u s.arcs.length t:=Z;generalize I.app (D.push UB)=g3 at*;have x6:∀o,Kp g3 o->SB o D.next s.f u s.arcs.length t:=λo h=>h.2 _ _ _ _ _ x2 (by decide) (by decide) (by decide);obtain⟨ks,z0⟩:∃ks,ks=D.next:=⟨_,rfl⟩
  rw[<-z0]at x2 x6⊢;have u0:=Y i (by omega);have u5:bV (M.af.drop i)=s.arcs.length+bV (M.af.drop (i+1)):=by rw[iS A,dy]
  have X:f+i<=1000000000:=by omega
  refine Ck k (bM M x M.af.length z) m c d g.next f x M.af.length z _ y i ks u s.arcs.length t (λx1 j o=>j<=s.arcs.length/\x1=s.arcs.length-j/\BS hb o k kind start lead (bT++(M.af.take i).map (lC f p)++⟨s.f,(s.arcs.take j).map (K1 f)⟩::(M.af.drop (i+1)).map bare)/\Kp g3 o) _ (λx1 j=>?_) s.arcs.length (j:=0) ⟨by omega,rfl,b3,Kp.refl _⟩;intros;rename_i K x8;obtain⟨e1,e2,B,O⟩:=x8;have C:=Em (bT++(M.af.take i).map (lC f p)) (⟨s.f,(s.arcs.take j).map (K1 f)⟩:dW) ((M.af.drop (i+1)).map bare) hL;have L:bV (bT++(M.af.take i).map (lC f p)++⟨s.f,(s.arcs.take j).map (K1 f)⟩::(M.af.drop (i+1)).map bare)<=100000:=by
   rw[eA,dy,LG];show _+(((s.arcs.take j).map (K1 f)).length+0)<=_;rw[lM,length_take];omega
  rw[ZB X];refine aa (λq3=>?_) (λq3=>?_)
  ·have hj:j<s.arcs.length:=by have:=dT q3;omega
   obtain⟨q,x4⟩:∃q,s.arcs[j]?=some q:=⟨_,gE hj⟩
   have z7:=y2 s y4 q (List.mem_of_getElem? x4);obtain⟨z5,z9,v1,v2,v3,v4,v5,v6⟩:=(ar.ok B.ok).at_ x4;obtain⟨ua,r1,r2,r3⟩:=MS B.ok.wf q;have b5:=B.ym r2;have x5:(ua.app (K.push Rl)).get K.next=some (.cells (gM q) 70 0 true):=r3;have y0:=ll zs3 x5 (i:=3) (by simp[gM]) (v:= .int .i64 (q.t+(f:Int))) rfl rfl;have o6:=r2.set (.cells (gM (K1 f q)) 70 0 true) (Nat.le_refl _) (r2.wf _ _ x5) B.ok.wf;have b6:=B.ym o6;have x9:((ua.app (K.push Rl)).set K.next (.cells (gM (K1 f q)) 70 0 true)).get K.next=some (.cells (gM (K1 f q)) 70 0 true):=by rw[ae.ay,if_pos rfl]
   have ld:=sj aeh ac5 Rf x9 (i:=0) (by simp[gM]);rw[drop_zero,take_of_length_le (by simp[gM])]at ld;have z2:wrap .i64 (q.t+(f:Int))=q.t+(f:Int):=aF (by omega) (by omega);refine⟨_,v1,_,v2,_,UU,ua,r1,_,uo _ _,_,r3.l3,_,uo _ _,?_⟩;rw[z2];refine⟨_,y0,_,ld,(AP w b6 C L (K1 f q)).mono ?_⟩;rintro _ g6 ⟨rfl,b7,y3⟩;rw[yz _ _ _ _ hL]at b7;rw[bg hj (by omega)];refine⟨rfl,cz (s.arcs.length-(j+1)) (by omega) ⟨by omega,rfl,?_,(O.trans (O9 o6)).trans y3⟩⟩
   grind[s8]
  ·obtain rfl:j=s.arcs.length:=by have:=dF q3;omega
   rw[List.take_length]at B C L;have x3:=x6 _ O;have N:=R.trans O;have z1:∀F,BS hb F k kind start lead (bT++(M.af.take i).map (lC f p)++lC f p s::(M.af.drop (i+1)).map bare)->Kp g0 F->aM (gp (iD k m c d g.next f x M.af.length z) (λy i o=>i<=M.af.length/\y=M.af.length-i/\BS hb o k kind start lead (bT++(M.af.take i).map (lC f p)++(M.af.drop i).map bare)/\Kp g0 o)) y [(pA k),(.func (.func m) ⟨c⟩ ⟨d⟩),(pA g.next),(iA f),(.slice x M.af.length z),(iA M.af.length),(.int .i64 (wrap .i64 ((i:Int)+1)))] F:=λF h1 h2=>by
    rw[bg E (by omega)];refine cz (M.af.length-(i+1)) (by omega) ⟨by omega,rfl,?_,h2⟩;rw[s8 (lC f p) A];have:bT++((M.af.take i).map (lC f p)++[lC f p s])++(M.af.drop (i+1)).map bare=bT++(M.af.take i).map (lC f p)++lC f p s::(M.af.drop (i+1)).map bare:=by simp
    rw[this];exact h1
   refine⟨_,qg _ _,_,x3.l0,aa (λq4=>?_) (λq4=>?_)⟩
   ·have hf:s.f≠[]:=cD (by simpa using q4);refine⟨_,qg _ _,_,x3.l0,aa (λ_=>(WB w B (l0.kp N) C L).mono ?_) (λe=>by rw[l0.blt]at e;cases e)⟩;rintro _ F ⟨rfl,b5,y5⟩;rw[yz _ _ _ _ hL]at b5;refine⟨rfl,z1 F ?_ (N.trans y5)⟩;have:lC f p s=wN p ⟨s.f,s.arcs.map (K1 f)⟩:=if_neg hf;rw[this];exact b5
   simp_all[lC]
 ·obtain rfl:i=M.af.length:=by have:=dF q2;omega
  have y6:=x0 _ V G.ok;have hw:wrap .i64 ((f:Int)+M.start)=(f:Int)+M.start:=aF (by omega) (by omega);refine⟨_,wJ _,_,y6.l1,by rw[hw],?_,z3.trans V⟩
  grind
end
end
noncomputable def dc:FD:=dq Tryz.f48 [([1,1,1,1,1,0,1,0,0],[1,2,3,8,10,11]),([1,1,1,1,1,0,1,0,0,1,0,0,1,1,0,0],[1,2,3,8,10,11,12]),([1,1,1,1,1,1,1,0,1,0,0],[1,2,3,8,10,13]),([1,1,1,1,1,1,1,0,1,0,0,1,0,0,1,0,0],[1,2,3,8,10,13,14]),([1,1,1,1,1,1,1,0,1,0,0,1,0,0,1,0,0,1,0,0,1,1,1,1,0,0],[1,2,3,8,10,13,14,15,17])]
abbrev nD(a:OA)(l f:Nat)(e:OA)(c h k g N:Nat)(b:OA)(j d:Nat)(i:Nat):LV:=[(.slice a l f),(.slice e c h),(pA k),(.slice b j d),(sA g N N),(iA i)]
abbrev sH(a:OA)(m f:Nat)(e:OA)(c h k g N:Nat)(b:OA)(l d i:Nat)(j:Nat):LV:=[(.slice a m f),(.slice e c h),(pA k),(.slice b l d),(sA g N N),(iA i),(iA j)]
abbrev iz(a:OA)(l f:Nat)(e:OA)(c h k g N:Nat)(b:OA)(j d:Nat)(i:Nat):LV:=[(.slice a l f),(.slice e c h),(pA k),(.slice b j d),(sA g N N),(iA i)]
abbrev nF(a:OA)(m f:Nat)(e:OA)(c h k g N:Nat)(b:OA)(l d i:Nat)(j:Nat):LV:=[(.slice a m f),(.slice e c h),(pA k),(.slice b l d),(sA g N N),(iA i),(iA j)]
abbrev gK(a:OA)(n g:Nat)(f:OA)(c l k h N:Nat)(b:OA)(m d i j:Nat)(v:OA)(e o:Nat)(q:Nat):LV:=[(.slice a n g),(.slice f c l),(pA k),(.slice b m d),(sA h N N),(iA i),(iA j),(.slice v e o),(iA q)]
theorem aem(C:LV)(x:OA)(t A:Nat)(z:OA)(y B:Nat)(h:ae)(Q:VH)(D:xN (fu SS.P 29 (.agg ⟨C⟩)) h λ_ s=>lA 29 s (pA (h.next)) λr=>FW SS 26 [(.agg ⟨r⟩)] s λp q=>yB p λo=>au (!o) (Q (.tuple ⟨[(strOf []),(.int .i64 1)]⟩) q) (FW SS 15 [(.slice x t A)] q λm n=>yB m λl=>au (!l) (Q (.tuple ⟨[(strOf []),(.int .i64 1)]⟩) n) (FW SS 15 [(.slice z y B)] n λj k=>yB j λi=>au (!i) (Q (.tuple ⟨[(strOf []),(.int .i64 1)]⟩) k) (lA 29 k (pA (h.next)) λg=>FW SS 73 [(.agg ⟨g⟩),(.bool false)] k λe f=>∃(v:OA) (w u:Nat),∃d:Int,e=(.tuple ⟨[(.slice v w u),(.int .i64 d)]⟩)/\au (((d:Int) !=0)) (Q (.tuple ⟨[(strOf []),(.int .i64 d)]⟩) f) (xR (cF SS.P 106 (.int .i64 (wrap .i64 ((t:Int)+1))) (.int .i64 (wrap .i64 ((t:Int)+1)))) f λ_ a b c=>LL SS dc [1,1,1,1,1,0,1,0,0] [(.slice x t A),(.slice z y B),(pA (h.next)),(.slice v w u),(sA (f.next) a b),(.int .i64 0)] c (KK SS dc [1,1,1,1,1,0,1,0] [] (EE SS dc Q))))))):FW SS 48 [(.agg ⟨C⟩),(.slice x t A),(.slice z y B)] h Q:=du dc Tryz.func48 (ai D)
theorem GS(E:LV)(w:OA)(v z:Nat)(y:OA)(s A:Nat)(k t N:Nat)(b:OA)(B x:Nat)(u:Nat->Nat->ae->Prop)(Q:VH)(step:∀(r:Nat) (i:Nat) (D:Nat->Value) (h:ae),u r i h->au (decide (((i:Int):Int)<=(v:Int))) (xR (cF SS.P 103 (.int .i64 (wrap .i64 ((s:Int)+1))) (.int .i64 (wrap .i64 ((s:Int)+1)))) h λ_ d e f=>iP 106 (sA t N N) (iA i) λc=>xU (ah SS.P 103 (.pointer (some c)) (sA (h.next) d e) f) f λ_ a=>LL SS dc [1,1,1,1,1,0,1,0,0,1,0,0,1,1,0,0] (sH w v z y s A k t N b B x i 0) a (KK SS dc [1,0,0,1,1,0] [1,1,1,1,1,0,1,0,0] (RR dc [1,1,1,1,1,0,1,0,0] (gp (nD w v z y s A k t N b B x) u) r (KK SS dc [1,1,1,1,1,0,1,0] [] (EE SS dc Q))))) (iP 106 (sA t N N) (.int .i64 0) λq=>lL 103 (room h 11) q λn o p=>iP 103 (.slice n o p) (.int .i64 0) λm=>lL 107 (room h 11) m λi j l=>fP 29 (pA k) 1 λg=>lI (room h 11) g λf=>fP 29 (pA k) 2 λe=>lS (room h 11) e λd=>iP 107 (.slice i j l) (.int .i64 f) λc=>xU (ah SS.P 9 (.pointer (some c)) (strOf d) (room h 11)) (room h 11) λ_ a=>LL SS dc [1,1,1,1,1,1,1,0,1,0,0] (iz w v z y s A k t N b B x 0) a (KK SS dc [1,1,1,1,1,1,1,0,1,0] [] (EE SS dc Q))))(r:Nat){i:Nat}{h:ae}(C:u r i h):LL SS dc [1,1,1,1,1,0,1,0,0] (nD w v z y s A k t N b B x i) h (KK SS dc [1,1,1,1,1,0,1,0] [] (EE SS dc Q)):=
 dJ (nD w v z y s A k t N b B x) u (λr i D h C=>ai (step r i D h C)) r C
theorem GU(F:LV)(u:OA)(A x:Nat)(w:OA)(s y:Nat)(k t N:Nat)(b:OA)(z v:Nat)(B:Nat->Nat->ae->Prop)(D i:Nat)(r:Nat->Nat->ae->Prop)(Q:VH)(step:∀(q:Nat) (j:Nat) (E:Nat->Value) (h:ae),r q j h->au (decide (((j:Int):Int)<=(s:Int))) (iP 106 (sA t N N) (iA i) λp=>lL 103 (room h 9) p λm n o=>lA 29 (room h 9) (pA k) λl=>FW SS 74 [(.agg ⟨l⟩)] (room h 9) λg h=>yL g λd e f=>iP 103 (.slice m n o) (iA j) λc=>xU (ah SS.P 107 (.pointer (some c)) (.slice d e f) h) h λ_ a=>(aj SS.P 103 h (.pointer (some p))=some (.slice m n o)/\dV 4 (.slice m n o) (.slice m n o)=true)/\aM (gp (sH u A x w s y k t N b z v i) r) q [(.slice u A x),(.slice w s y),(pA k),(.slice b z v),(sA t N N),(iA i),(.int .i64 (wrap .i64 ((j:Int)+1)))] a) (aM (gp (nD u A x w s y k t N b z v) B) D [(.slice u A x),(.slice w s y),(pA k),(.slice b z v),(sA t N N),(.int .i64 (wrap .i64 ((i:Int)+1)))] h))(q:Nat){j:Nat}{h:ae}(C:r q j h):LL SS dc [1,1,1,1,1,0,1,0,0,1,0,0,1,1,0,0] (sH u A x w s y k t N b z v i j) h (KK SS dc [1,0,0,1,1,0] [1,1,1,1,1,0,1,0,0] (RR dc [1,1,1,1,1,0,1,0,0] (gp (nD u A x w s y k t N b z v) B) D (KK SS dc [1,1,1,1,1,0,1,0] [] (EE SS dc Q)))):=
 dJ (sH u A x w s y k t N b z v i) r (λq j E h C=>ai (step q j E h C)) q C
theorem GV(B:LV)(t:OA)(q w:Nat)(v:OA)(r x:Nat)(k s N:Nat)(b:OA)(y u:Nat)(p:Nat->Nat->ae->Prop)(Q:VH)(step:∀(o:Nat) (i:Nat) (A:Nat->Value) (h:ae),p o i h->au (decide (((i:Int):Int)<=(q:Int))) (LL SS dc [1,1,1,1,1,1,1,0,1,0,0,1,0,0,1,0,0] (nF t q w v r x k s N b y u i 0) h (KK SS dc [1,0,0,1,0] [1,1,1,1,1,1,1,0,1,0,0] (RR dc [1,1,1,1,1,1,1,0,1,0,0] (gp (iz t q w v r x k s N b y u) p) o (KK SS dc [1,1,1,1,1,1,1,0,1,0] [] (EE SS dc Q))))) (lA 29 (room h 15) (pA k) λn=>iP 106 (sA s N N) (iA q) λm=>lL 103 (room h 15) m λj k l=>iP 103 (.slice j k l) (iA r) λi=>lL 107 (room h 15) i λe f g=>FW SS 78 [(.agg ⟨n⟩),(.slice e f g)] (room h 15) λc d=>∃b:LB,∃a:Int,c=(.tuple ⟨[(strOf b),(.int .i64 a)]⟩)/\Q (.tuple ⟨[(strOf b),(.int .i64 a)]⟩) d))(o:Nat){i:Nat}{h:ae}(z:p o i h):LL SS dc [1,1,1,1,1,1,1,0,1,0,0] (iz t q w v r x k s N b y u i) h (KK SS dc [1,1,1,1,1,1,1,0,1,0] [] (EE SS dc Q)):=
 dJ (iz t q w v r x k s N b y u) p (λo i A h z=>ai (step o i A h z)) o z
theorem GW(P:LV)(C:OA)(G E:Nat)(D:OA)(y F:Nat)(k x N:Nat)(b:OA)(A z:Nat)(H:Nat->Nat->ae->Prop)(I i:Nat)(B:Nat->Nat->ae->Prop)(Q:VH)(step:∀(w:Nat) (j:Nat) (O:Nat->Value) (h:ae),B w j h->au (decide (((j:Int):Int)<=(y:Int))) (lA 29 (room h 15) (pA k) λv=>iP 106 (sA x N N) (iA i) λu=>lL 103 (room h 15) u λr s t=>iP 103 (.slice r s t) (iA j) λq=>lL 107 (room h 15) q λn o p=>FW SS 75 [(.agg ⟨v⟩),(.slice n o p),(.slice b A z)] (room h 15) λl m=>∃(L:OA) (K J:Nat),∃h:Int,l=(.tuple ⟨[(.slice L K J),(.int .i64 h)]⟩)/\au (((h:Int) !=0)) (Q (.tuple ⟨[(strOf []),(.int .i64 h)]⟩) m) (iP 106 (sA x N N) (iA i) λg=>lL 103 m g λd e f=>iP 103 (.slice d e f) (iA j) λc=>xU (ah SS.P 107 (.pointer (some c)) (.slice L K J) m) m λ_ a=>LL SS dc [1,1,1,1,1,1,1,0,1,0,0,1,0,0,1,0,0,1,0,0,1,1,1,1,0,0] (gK C G E D y F k x N b A z i j L K J 1) a (KK SS dc [1,0,0,1,1,1,1,0] [1,1,1,1,1,1,1,0,1,0,0,1,0,0,1,0,0] (RR dc [1,1,1,1,1,1,1,0,1,0,0,1,0,0,1,0,0] (gp (nF C G E D y F k x N b A z i) B) w (KK SS dc [1,0,0,1,0] [1,1,1,1,1,1,1,0,1,0,0] (RR dc [1,1,1,1,1,1,1,0,1,0,0] (gp (iz C G E D y F k x N b A z) H) I (KK SS dc [1,1,1,1,1,1,1,0,1,0] [] (EE SS dc Q)))))))) (aM (gp (iz C G E D y F k x N b A z) H) I [(.slice C G E),(.slice D y F),(pA k),(.slice b A z),(sA x N N),(.int .i64 (wrap .i64 ((i:Int)+1)))] h))(w:Nat){j:Nat}{h:ae}(M:B w j h):LL SS dc [1,1,1,1,1,1,1,0,1,0,0,1,0,0,1,0,0] (nF C G E D y F k x N b A z i j) h (KK SS dc [1,0,0,1,0] [1,1,1,1,1,1,1,0,1,0,0] (RR dc [1,1,1,1,1,1,1,0,1,0,0] (gp (iz C G E D y F k x N b A z) H) I (KK SS dc [1,1,1,1,1,1,1,0,1,0] [] (EE SS dc Q)))):=
 dJ (nF C G E D y F k x N b A z i) B (λw j O h M=>ai (step w j O h M)) w M
theorem GX(mv:LV)(G:OA)(F I:Nat)(D:OA)(C E:Nat)(k B N:Nat)(b:OA)(M K:Nat)(y9:Nat->Nat->ae->Prop)(z0 i:Nat)(y1:Nat->Nat->ae->Prop)(y8 j:Nat)(v:OA)(L O:Nat)(H:Nat->Nat->ae->Prop)(Q:VH)(step:∀(J:Nat) (q:Nat) (zz:Nat->Value) (h:ae),H J q h->au (decide (((q:Int):Int)<=3)) (xI .i64 (aB SS.P .shr 3 (iA q) (.int .u64 1)) λP=>au (decide ((wrap .i64 ((i:Int)+wrap .i64 ((BitVec.ofInt (IntKind.bits .i64) (q:Int)&&&BitVec.ofInt (IntKind.bits .i64) 1).toNat:Int)):Int)>(F:Int))) (aM (gp (gK G F I D C E k B N b M K i j v L O) H) J [(.slice G F I),(.slice D C E),(pA k),(.slice b M K),(sA B N N),(iA i),(iA j),(.slice v L O),(.int .i64 (wrap .i64 ((q:Int)+1)))] h) (au (decide ((wrap .i64 ((j:Int)+P):Int)>(C:Int))) (aM (gp (gK G F I D C E k B N b M K i j v L O) H) J [(.slice G F I),(.slice D C E),(pA k),(.slice b M K),(sA B N N),(iA i),(iA j),(.slice v L O),(.int .i64 (wrap .i64 ((q:Int)+1)))] h) (au (((wrap .i64 ((BitVec.ofInt (IntKind.bits .i64) (q:Int)&&&BitVec.ofInt (IntKind.bits .i64) 1).toNat:Int):Int)==1)) (iP 22 (.slice G F I) (iA i) λa6=>lI h a6 λa5=>au (((P:Int)==1)) (iP 22 (.slice D C E) (iA j) λa4=>lI h a4 λa3=>lA 29 h (pA k) λR=>FW SS 76 [(.agg ⟨R⟩),(.slice v L O),(.int .i64 a5),(.int .i64 a3),(.bool false)] h λS A=>∃(x3:OA) (y4 Z:Nat),∃z:Int,S=(.tuple ⟨[(.slice x3 y4 Z),(.int .i64 z)]⟩)/\au (((z:Int) !=0)) (Q (.tuple ⟨[(strOf []),(.int .i64 z)]⟩) A) (xP (aD SS.P 106 (sA B N N) (.int .i64 (wrap .i64 ((i:Int)+wrap .i64 ((BitVec.ofInt (IntKind.bits .i64) (q:Int)&&&BitVec.ofInt (IntKind.bits .i64) 1).toNat:Int))))) λy=>lL 103 (room A 30) y λu w x=>fP 29 (pA k) 0 λt=>lI (room A 30) t λs=>xP (aD SS.P 106 (sA B N N) (.int .i64 (wrap .i64 ((i:Int)+wrap .i64 ((BitVec.ofInt (IntKind.bits .i64) (q:Int)&&&BitVec.ofInt (IntKind.bits .i64) 1).toNat:Int))))) λr=>lL 103 (room A 30) r λn o p=>iP 103 (.slice n o p) (.int .i64 (wrap .i64 ((j:Int)+P))) λm=>lL 107 (room A 30) m λg h l=>FW SS 77 [(.int .i64 s),(.slice g h l),(.slice x3 y4 Z)] (room A 30) λe f=>∃(W:OA) (X x5:Nat),∃d:Int,e=(.tuple ⟨[(.slice W X x5),(.int .i64 d)]⟩)/\iP 103 (.slice u w x) (.int .i64 (wrap .i64 ((j:Int)+P))) λc=>xU (ah SS.P 107 (.pointer (some c)) (.slice W X x5) f) f λ_ a=>(aj SS.P 103 f (.pointer (some y))=some (.slice u w x)/\dV 4 (.slice u w x) (.slice u w x)=true)/\au (((d:Int) !=0)) (Q (.tuple ⟨[(strOf []),(.int .i64 d)]⟩) a) (aM (gp (gK G F I D C E k B N b M K i j v L O) H) J [(.slice G F I),(.slice D C E),(pA k),(.slice b M K),(sA B N N),(iA i),(iA j),(.slice v L O),(.int .i64 (wrap .i64 ((q:Int)+1)))] a))) (lA 29 h (pA k) λR=>FW SS 76 [(.agg ⟨R⟩),(.slice v L O),(.int .i64 a5),(.int .i64 0),(.bool false)] h λS A=>∃(x7:OA) (V y7:Nat),∃z:Int,S=(.tuple ⟨[(.slice x7 V y7),(.int .i64 z)]⟩)/\au (((z:Int) !=0)) (Q (.tuple ⟨[(strOf []),(.int .i64 z)]⟩) A) (xP (aD SS.P 106 (sA B N N) (.int .i64 (wrap .i64 ((i:Int)+wrap .i64 ((BitVec.ofInt (IntKind.bits .i64) (q:Int)&&&BitVec.ofInt (IntKind.bits .i64) 1).toNat:Int))))) λy=>lL 103 (room A 30) y λu w x=>fP 29 (pA k) 0 λt=>lI (room A 30) t λs=>xP (aD SS.P 106 (sA B N N) (.int .i64 (wrap .i64 ((i:Int)+wrap .i64 ((BitVec.ofInt (IntKind.bits .i64) (q:Int)&&&BitVec.ofInt (IntKind.bits .i64) 1).toNat:Int))))) λr=>lL 103 (room A 30) r λn o p=>iP 103 (.slice n o p) (.int .i64 (wrap .i64 ((j:Int)+P))) λm=>lL 107 (room A 30) m λg h l=>FW SS 77 [(.int .i64 s),(.slice g h l),(.slice x7 V y7)] (room A 30) λe f=>∃(y3:OA) (x2 y0:Nat),∃d:Int,e=(.tuple ⟨[(.slice y3 x2 y0),(.int .i64 d)]⟩)/\iP 103 (.slice u w x) (.int .i64 (wrap .i64 ((j:Int)+P))) λc=>xU (ah SS.P 107 (.pointer (some c)) (.slice y3 x2 y0) f) f λ_ a=>(aj SS.P 103 f (.pointer (some y))=some (.slice u w x)/\dV 4 (.slice u w x) (.slice u w x)=true)/\au (((d:Int) !=0)) (Q (.tuple ⟨[(strOf []),(.int .i64 d)]⟩) a) (aM (gp (gK G F I D C E k B N b M K i j v L O) H) J [(.slice G F I),(.slice D C E),(pA k),(.slice b M K),(sA B N N),(iA i),(iA j),(.slice v L O),(.int .i64 (wrap .i64 ((q:Int)+1)))] a)))) (au (((P:Int)==1)) (iP 22 (.slice D C E) (iA j) λa4=>lI h a4 λa3=>lA 29 h (pA k) λR=>FW SS 76 [(.agg ⟨R⟩),(.slice v L O),(.int .i64 0),(.int .i64 a3),(.bool false)] h λS A=>∃(y6:OA) (y5 x0:Nat),∃z:Int,S=(.tuple ⟨[(.slice y6 y5 x0),(.int .i64 z)]⟩)/\au (((z:Int) !=0)) (Q (.tuple ⟨[(strOf []),(.int .i64 z)]⟩) A) (xP (aD SS.P 106 (sA B N N) (.int .i64 (wrap .i64 ((i:Int)+wrap .i64 ((BitVec.ofInt (IntKind.bits .i64) (q:Int)&&&BitVec.ofInt (IntKind.bits .i64) 1).toNat:Int))))) λy=>lL 103 (room A 30) y λu w x=>fP 29 (pA k) 0 λt=>lI (room A 30) t λs=>xP (aD SS.P 106 (sA B N N) (.int .i64 (wrap .i64 ((i:Int)+wrap .i64 ((BitVec.ofInt (IntKind.bits .i64) (q:Int)&&&BitVec.ofInt (IntKind.bits .i64) 1).toNat:Int))))) λr=>lL 103 (room A 30) r λn o p=>iP 103 (.slice n o p) (.int .i64 (wrap .i64 ((j:Int)+P))) λm=>lL 107 (room A 30) m λg h l=>FW SS 77 [(.int .i64 s),(.slice g h l),(.slice y6 y5 x0)] (room A 30) λe f=>∃(y2:OA) (x9 Y:Nat),∃d:Int,e=(.tuple ⟨[(.slice y2 x9 Y),(.int .i64 d)]⟩)/\iP 103 (.slice u w x) (.int .i64 (wrap .i64 ((j:Int)+P))) λc=>xU (ah SS.P 107 (.pointer (some c)) (.slice y2 x9 Y) f) f λ_ a=>(aj SS.P 103 f (.pointer (some y))=some (.slice u w x)/\dV 4 (.slice u w x) (.slice u w x)=true)/\au (((d:Int) !=0)) (Q (.tuple ⟨[(strOf []),(.int .i64 d)]⟩) a) (aM (gp (gK G F I D C E k B N b M K i j v L O) H) J [(.slice G F I),(.slice D C E),(pA k),(.slice b M K),(sA B N N),(iA i),(iA j),(.slice v L O),(.int .i64 (wrap .i64 ((q:Int)+1)))] a))) (lA 29 h (pA k) λR=>FW SS 76 [(.agg ⟨R⟩),(.slice v L O),(.int .i64 0),(.int .i64 0),(.bool false)] h λS A=>∃(x1:OA) (T x8:Nat),∃z:Int,S=(.tuple ⟨[(.slice x1 T x8),(.int .i64 z)]⟩)/\au (((z:Int) !=0)) (Q (.tuple ⟨[(strOf []),(.int .i64 z)]⟩) A) (xP (aD SS.P 106 (sA B N N) (.int .i64 (wrap .i64 ((i:Int)+wrap .i64 ((BitVec.ofInt (IntKind.bits .i64) (q:Int)&&&BitVec.ofInt (IntKind.bits .i64) 1).toNat:Int))))) λy=>lL 103 (room A 30) y λu w x=>fP 29 (pA k) 0 λt=>lI (room A 30) t λs=>xP (aD SS.P 106 (sA B N N) (.int .i64 (wrap .i64 ((i:Int)+wrap .i64 ((BitVec.ofInt (IntKind.bits .i64) (q:Int)&&&BitVec.ofInt (IntKind.bits .i64) 1).toNat:Int))))) λr=>lL 103 (room A 30) r λn o p=>iP 103 (.slice n o p) (.int .i64 (wrap .i64 ((j:Int)+P))) λm=>lL 107 (room A 30) m λg h l=>FW SS 77 [(.int .i64 s),(.slice g h l),(.slice x1 T x8)] (room A 30) λe f=>∃(x4:OA) (U x6:Nat),∃d:Int,e=(.tuple ⟨[(.slice x4 U x6),(.int .i64 d)]⟩)/\iP 103 (.slice u w x) (.int .i64 (wrap .i64 ((j:Int)+P))) λc=>xU (ah SS.P 107 (.pointer (some c)) (.slice x4 U x6) f) f λ_ a=>(aj SS.P 103 f (.pointer (some y))=some (.slice u w x)/\dV 4 (.slice u w x) (.slice u w x)=true)/\au (((d:Int) !=0)) (Q (.tuple ⟨[(strOf []),(.int .i64 d)]⟩) a) (aM (gp (gK G F I D C E k B N b M K i j v L O) H) J [(.slice G F I),(.slice D C E),(pA k),(.slice b M K),(sA B N N),(iA i),(iA j),(.slice v L O),(.int .i64 (wrap .i64 ((q:Int)+1)))] a))))))) (aM (gp (nF G F I D C E k B N b M K i) y1) y8 [(.slice G F I),(.slice D C E),(pA k),(.slice b M K),(sA B N N),(iA i),(.int .i64 (wrap .i64 ((j:Int)+1)))] h))(J:Nat){q:Nat}{h:ae}(hi:H J q h):LL SS dc [1,1,1,1,1,1,1,0,1,0,0,1,0,0,1,0,0,1,0,0,1,1,1,1,0,0] (gK G F I D C E k B N b M K i j v L O q) h (KK SS dc [1,0,0,1,1,1,1,0] [1,1,1,1,1,1,1,0,1,0,0,1,0,0,1,0,0] (RR dc [1,1,1,1,1,1,1,0,1,0,0,1,0,0,1,0,0] (gp (nF G F I D C E k B N b M K i) y1) y8 (KK SS dc [1,0,0,1,0] [1,1,1,1,1,1,1,0,1,0,0] (RR dc [1,1,1,1,1,1,1,0,1,0,0] (gp (iz G F I D C E k B N b M K) y9) z0 (KK SS dc [1,1,1,1,1,1,1,0,1,0] [] (EE SS dc Q)))))):=
 dJ (gK G F I D C E k B N b M K i j v L O) H (λJ q zz h hi=>ai (step J q zz h hi)) J hi
noncomputable def vG:FD:=dq Tryz.f15 [([1,1,0,1,0,0],[0,3])]
abbrev pI(a:OA)(c b:Nat)(i:Nat):LV:=[(.slice a c b),(iA i)]
theorem Zp(b:OA)(a c:Nat)(h:ae)(Q:VH)(d:au (decide (((a:Int):Int)>200)) (Q (.bool false) h) (LL SS vG [1,1,0,1,0,0] (pI b a c 0) h (KK SS vG [1,1,0,1,0] [] (EE SS vG Q)))):FW SS 15 [(.slice b a c)] h Q:=du vG Tryz.func15 (ai d)
theorem C7(j:OA)(f k:Nat)  (g:Nat->Nat->ae->Prop) (Q:VH) (step:∀(e:Nat)(i:Nat)(m:Nat->Value)(h:ae),g e i h->au (decide (((i:Int):Int)<(f:Int))) (iP 22 (.slice j f k) (iA i) λd=>lI h d λc=>au (decide ((c:Int)<1)) (Q (.bool false) h) (iP 22 (.slice j f k) (iA i) λb=>lI h b λa=>au (decide ((a:Int)>500)) (Q (.bool false) h) (aM (gp (pI j f k) g) e [(.slice j f k),(.int .i64 (wrap .i64 ((i:Int)+1)))] h))) (Q (.bool true) h)) (e:Nat) {i:Nat} {h:ae} (l:g e i h):LL SS vG [1,1,0,1,0,0] (pI j f k i) h (KK SS vG [1,1,0,1,0] [] (EE SS vG Q)):=
 dJ (pI j f k) g (λe i m h l=>ai (step e i m h l)) e l
variable{p:List Int}{g:ae}{a:Option Addr}
def A2(l:List Int):List Value:=l.map λz=> .int .i64 z
theorem kK(l:List Int):(A2 l).length=l.length:=lM _
theorem Wi(h:i<p.length):(A2 p).getD i undef = .int .i64 (p.getD i 0):=by
 unfold A2;rw[gD,getElem?_map,gD,gE h];rfl
def dz(h:ae)(v:Value)(l:List Int):Prop:=
 (v = .slice none 0 0/\l=[])\/ ∃k a cs c b e z,v = .slice (some ⟨k,a,none⟩) l.length c/\h.get k=some (.cells cs e z b)/\(e=3/\z=1\/z=0)/\(cs.drop a).take l.length=A2 l
theorem dz.ok(r:dz h v p)(o:Ok h g):dz g v p:=by
 rcases r with r|⟨k,a,cs,c,f,e,z,d,i,b,j⟩
 ·exact .inl r
 ·exact .inr ⟨k,a,cs,c,f,e,z,d,o.ext _ _ i,b,j⟩
theorem dz.QU(r:Rd h 3 v (A2 p)):dz h v p:=by
 rcases r with⟨b,d⟩|⟨k,f,cs,c,g,b,d,e⟩
 ·left;refine⟨b,?_⟩
  cases p with
  |nil=>rfl
  |cons a p=>cases d
 ·rw[kK]at b e;exact .inr ⟨k,f,cs,c,g,3,1,b,d,.inl ⟨rfl,rfl⟩,e⟩
theorem dz.at_{l:List Int}(r:dz h v l){i:Nat}(d:i<l.length):∃p:Addr,aD SS.P 22 v (iA i)=some (.pointer (some p))/\aj SS.P 3 h (.pointer (some p))=some (.int .i64 (l.getD i 0)):=by
 rcases r with⟨_,rfl⟩|⟨k,a,cs,c,q,e,z,rfl,m,_,g⟩
 ·exact absurd d (by simp)
 have b:((cs.drop a).take l.length).length=l.length:=by rw[g,kK]
 rw[length_take,length_drop]at b;have f:=Sr (P:=SS.P) xz ZK (k:=k) (off:=a) (n:=l.length) (c:=c) (ik:= .i64) (i:=(i:Int)) (by omega) (by omega);have o:a+((i:Int)).toNat*1=a+i:=by omega
 rw[o]at f;refine⟨_,f,?_⟩;have j:cs.getD (a+i) undef = .int .i64 (l.getD i 0):=by
  rw[<-Wi d,<-g,gD,gD,List.getElem?_take,if_pos d,List.getElem?_drop]
 rw[dp KL JA m (by omega),j]
theorem dz.len{c:Nat}(r:dz h (.slice a n c) p):n=p.length:=by
 rcases r with⟨b,rfl⟩|⟨k,d,cs,f,g,e,z,b,_⟩
 ·injection b
 ·injection b
def tC(z:Int):Bool:=decide (1<=z)&&decide (z<=500)
def fq(l:List Int):Bool:=decide (l.length<=200)&&l.all tC
theorem Ei(h:i<p.length):p.drop i=p.getD i 0::p.drop (i+1):=by
 rw[List.drop_eq_getElem_cons h,gD,gE h];rfl
theorem BN{c:Nat}{l:List Int}(r:dz h (.slice a n c) l):FW SS 15 [.slice a n c] h (λv g=>v = .bool (fq l)/\g=h):=by
 obtain rfl:=dz.len r;refine Zp a _ c h _ (aa (λq=>⟨?_,rfl⟩) (λq=>?_))
 ·have:¬l.length<=200:=by have:=dT q;omega
  unfold fq;rw[decide_eq_false this];rfl
 ·have t:l.length<=200:=by have:=dF q;omega
  have u:fq l=l.all tC:=by unfold fq;rw[decide_eq_true t,Bool.true_and]
  rw[u];refine C7 a _ c (λm i g=>i<=l.length/\m=l.length-i/\g=h/\(l.drop i).all tC=l.all tC) _ (λm i=>?_) l.length (i:=0) ⟨by omega,rfl,rfl,by rw[drop_zero]⟩;intros;rename_i g k;obtain⟨z,y,rfl,b⟩:=k;refine aa (λq=>?_) (λq=>?_)
  ·have j:i<l.length:=by have:=dT q;omega
   obtain⟨p,o,s⟩:=r.at_ j;rw[Ei j,all_cons]at b;refine⟨_,o,_,s,aa (λf=>⟨?_,rfl⟩) (λf=>⟨_,o,_,s,aa (λd=>⟨?_,rfl⟩) (λd=>?_)⟩)⟩
   ·have:¬1<=l.getD i 0:=by have:=dT f;omega
    rw[<-b];unfold tC;rw[decide_eq_false this];rfl
   ·have:¬l.getD i 0<=500:=by have:=dT d;omega
    rw[<-b];unfold tC;rw[decide_eq_false this,Bool.and_false];rfl
   ·have e:tC (l.getD i 0)=true:=by
     unfold tC;have w:=dF f;have x:=dF d;rw[decide_eq_true (show 1<=l.getD i 0 by omega),decide_eq_true (show l.getD i 0<=500 by omega)];rfl
    rw[e,Bool.true_and]at b;rw[bg j (by omega)];exact cz (l.length-(i+1)) (by omega) ⟨by omega,rfl,rfl,b⟩
  ·obtain rfl:i=l.length:=by have:=dF q;omega
   rw[List.drop_length]at b;exact⟨by rw[<-b];rfl,rfl⟩
noncomputable def ue:FD:=dq Tryz.f13 [([1,1,1,1,1,0,1,0,0],[1,2,8,10,11,42,43])]
abbrev sR(a:OA)(g e:Nat)(d:OA)(b f c k m:Nat)(s i:Nat):LV:=[(.slice a g e),(.slice d b f),(pA c),(pA k),(iA s),(iA m),(iA i)]
theorem Vo(y:Int)(B:OA)(A D:Nat)(C:OA)(z E:Nat)(w:LB)(h:ae)(Q:VH)(F:xN (av SS.P 29) h λ_ x=>FW SS 40 [(.slice B A D)] x λu v=>yB u λt=>au (!t) (xA (bu SS.P 29 []) λb=>xU (ah SS.P 29 (pA (h.next)) (.agg ⟨b⟩) v) v λ_ a=>eK SS [((pA (h.next)),some 29),((.int .i64 1),none)] a Q) (FW SS 40 [(.slice C z E)] v λr s=>yB r λq=>au (!q) (xA (bu SS.P 29 []) λb=>xU (ah SS.P 29 (pA (h.next)) (.agg ⟨b⟩) s) s λ_ a=>eK SS [((pA (h.next)),some 29),((.int .i64 1),none)] a Q) (FW SS 41 [(.int .i64 y),(strOf w)] s λo p=>yB o λn=>au (!n) (xA (bu SS.P 29 []) λb=>xU (ah SS.P 29 (pA (h.next)) (.agg ⟨b⟩) p) p λ_ a=>eK SS [((pA (h.next)),some 29),((.int .i64 1),none)] a Q) (FW SS 42 [(.int .i64 y)] p λl m=>yO l λk=>KY SS.P k m λi j=>fP 65 i 0 λg=>fP 29 (.pointer (some g)) 2 λf=>xU (ah SS.P 9 (.pointer (some f)) (strOf w) j) j λ_ e=>FW SS 43 [(.pointer k),(strOf [])] e λc d=>yI .i64 c λb=>xI .i64 (uE true [(iA A),(iA z)]) λa=>LL SS ue [1,1,1,1,1,0,1,0,0] [(.slice B A D),(.slice C z E),(pA (h.next)),(.pointer k),(.int .i64 b),(.int .i64 a),(.int .i64 0)] d (KK SS ue [1,1,1,1,1,0,1,0] [] (EE SS ue Q)))))):FW SS 13 [(.int .i64 y),(.slice B A D),(.slice C z E),(strOf w)] h Q:=du ue Tryz.func13 (ai F)
theorem Cm(E:Int)(v:OA)(B z:Nat)(y:OA)(x A:Nat)(w:LB)(u k m:Nat)(t:Nat->Nat->Nat->ae->Prop)(Q:VH)(step:∀(r:Nat) (s i:Nat) (D:Nat->Value) (h:ae),t r s i h->au (decide (((i:Int):Int)<(m:Int))) (FW SS 43 [(pA k),(strOf [])] h λp q=>yI .i64 p λo=>FW SS 45 [(.slice v B z),(iA i)] (room q 15) λl n=>yI .i64 l λj=>FW SS 45 [(.slice y x A),(iA i)] n λg h=>yI .i64 g λf=>fP 65 (pA k) 1 λe=>lS h e λd=>xA (bu SS.P 70 [(0,(.int .i64 j)),(1,(.int .i64 f)),(2,(strOf d)),(3,(.int .i64 o))]) λc=>FW SS 44 [(pA k),(iA s),(.agg ⟨c⟩)] h λa b=>a=(.tuple ⟨[]⟩)/\(aj SS.P 9 (room q 15) (.pointer (some e))=some (strOf d)/\dV 4 (strOf d) (strOf d)=true)/\(aj SS.P 9 n (.pointer (some e))=some (strOf d)/\dV 4 (strOf d) (strOf d)=true)/\aM (tE (sR v B z y x A u k m) t) r [(.slice v B z),(.slice y x A),(pA u),(pA k),(.int .i64 o),(iA m),(.int .i64 (wrap .i64 ((i:Int)+1)))] b) (fP 65 (pA k) 0 λq=>fP 29 (.pointer (some q)) 3 λp=>lL 27 (room h 13) p λm n o=>fP 65 (pA k) 1 λl=>lS (room h 13) l λj=>iP 27 (.slice m n o) (iA s) λi=>fP 73 (.pointer (some i)) 0 λg=>xU (ah SS.P 9 (.pointer (some g)) (strOf j) (room h 13)) (room h 13) λ_ f=>FW SS 46 [(pA k)] f λd e=>∃c:LV,∃b:Int,d=(.tuple ⟨[(.agg ⟨c⟩),(.int .i64 b)]⟩)/\xU (ah SS.P 29 (pA u) (.agg ⟨c⟩) e) e λ_ a=>eK SS [((pA u),some 29),((.int .i64 b),none)] a Q))(r:Nat){s i:Nat}{h:ae}(C:t r s i h):LL SS ue [1,1,1,1,1,0,1,0,0] (sR v B z y x A u k m s i) h (KK SS ue [1,1,1,1,1,0,1,0] [] (EE SS ue Q)):=
 pU (sR v B z y x A u k m) t (λr s i D h C=>ai (step r s i D h C)) r C
noncomputable def rk:FD:=dq Tryz.f25 [([1,1,1,1,0,1,0,0],[4,7,8,25,26,27])]
abbrev oh(b k s a n c:Nat)(i:Nat):LV:=[(pA b),(pA k),(iA s),(sA a n c),(iA n),(iA i)]
theorem RU(x w:LV)(h:ae)(Q:VH)(y:xN (fu SS.P 29 (.agg ⟨x⟩)) h λ_ v=>xN (fu SS.P 29 (.agg ⟨w⟩)) v λ_ u=>xN (av SS.P 29) u λ_ t=>lA 29 t (pA (h.next)) λs=>lA 29 t (pA (v.next)) λr=>FW SS 57 [(.agg ⟨s⟩),(.agg ⟨r⟩)] t λp q=>yI .i64 p λo=>au (((o:Int) !=0)) (xA (bu SS.P 29 []) λb=>xU (ah SS.P 29 (pA (u.next)) (.agg ⟨b⟩) q) q λ_ a=>eK SS [((pA (u.next)),some 29),((.int .i64 o),none)] a Q) (fP 29 (pA (h.next)) 0 λn=>lI q n λm=>FW SS 42 [(.int .i64 m)] q λk l=>yO k λj=>FW SS 43 [(.pointer j),(strOf [])] l λg i=>yI .i64 g λf=>lA 29 i (pA (h.next)) λe=>lA 29 i (pA (v.next)) λd=>xR (aJ SS.P 86 2 [(0,(.agg ⟨e⟩)),(1,(.agg ⟨d⟩))]) i λ_ a b c=>LL SS rk [1,1,1,1,0,1,0,0] [(pA (u.next)),(.pointer j),(.int .i64 f),(sA (i.next) a b),(iA a),(.int .i64 0)] c (KK SS rk [1,1,1,1,0,1,0] [] (EE SS rk Q)))):FW SS 25 [(.agg ⟨x⟩),(.agg ⟨w⟩)] h Q:=du rk Tryz.func25 (ai y)
theorem AL(z y:LV)(u k s v n c:Nat)(t:Nat->Nat->ae->Prop)(Q:VH)(step:∀(r:Nat) (i:Nat) (x:Nat->Value) (h:ae),t r i h->au (decide (((i:Int):Int)<(n:Int))) (iP 86 (sA v n c) (iA i) λq=>lA 29 h (.pointer (some q)) λp=>xN (av SS.P 29) h λ_ o=>xU (ah SS.P 29 (pA (h.next)) (.agg ⟨p⟩) o) o λ_ m=>fP 29 (pA (h.next)) 2 λl=>lS (room m 8) l λj=>lA 29 (room m 8) (pA (h.next)) λg=>FW SS 59 [(pA k),(.agg ⟨g⟩),(.func (.func 60) ⟨[]⟩ ⟨[]⟩)] (room m 8) λe f=>yI .i64 e λd=>FW SS 58 [(pA k),(iA s),(strOf j),(.int .i64 d)] f λa b=>a=(.tuple ⟨[]⟩)/\(aj SS.P 9 f (.pointer (some l))=some (strOf j)/\dV 4 (strOf j) (strOf j)=true)/\aM (gp (oh u k s v n c) t) r [(pA u),(pA k),(iA s),(sA v n c),(iA n),(.int .i64 (wrap .i64 ((i:Int)+1)))] b) (FW SS 46 [(pA k)] h λd e=>∃c:LV,∃b:Int,d=(.tuple ⟨[(.agg ⟨c⟩),(.int .i64 b)]⟩)/\xU (ah SS.P 29 (pA u) (.agg ⟨c⟩) e) e λ_ a=>eK SS [((pA u),some 29),((.int .i64 b),none)] a Q))(r:Nat){i:Nat}{h:ae}(w:t r i h):LL SS rk [1,1,1,1,0,1,0,0] (oh u k s v n c i) h (KK SS rk [1,1,1,1,0,1,0] [] (EE SS rk Q)):=
 dJ (oh u k s v n c) t (λr i x h w=>ai (step r i x h w)) r w
noncomputable def RK:FD:=dq Tryz.f31 []
theorem Oy(H E:LV)(h:ae)(Q:VH)(R:xN (fu SS.P 29 (.agg ⟨H⟩)) h λ_ C=>xN (fu SS.P 29 (.agg ⟨E⟩)) C λ_ B=>xN (av SS.P 29) B λ_ F=>lA 29 F (pA (h.next)) λL=>lA 29 F (pA (C.next)) λS=>FW SS 57 [(.agg ⟨L⟩),(.agg ⟨S⟩)] F λY D=>yI .i64 Y λI=>au (((I:Int) !=0)) (xA (bu SS.P 29 []) λb=>xU (ah SS.P 29 (pA (B.next)) (.agg ⟨b⟩) D) D λ_ a=>eK SS [((pA (B.next)),some 29),((.int .i64 I),none)] a Q) (fP 29 (pA (h.next)) 0 λK=>lI D K λZ=>FW SS 42 [(.int .i64 Z)] D λT G=>yO T λA=>fP 29 (pA (h.next)) 2 λM=>lS G M λW=>fP 29 (pA (C.next)) 2 λP=>lS G P λX=>FW SS 63 [(.pointer A),(strOf W),(strOf X)] G λU V=>yS U λN=>KY SS.P A V λO J=>fP 65 O 0 λz=>fP 29 (.pointer (some z)) 2 λy=>xU (ah SS.P 9 (.pointer (some y)) (strOf N) J) J λ_ x=>lA 29 x (pA (C.next)) λw=>FW SS 59 [(.pointer A),(.agg ⟨w⟩),(.func (.func 60) ⟨[]⟩ ⟨[]⟩)] x λu v=>yI .i64 u λt=>lA 29 (room v 11) (pA (h.next)) λs=>FW SS 64 [(.pointer A),(.int .i64 t)] (room v 11) λq r=>yF q λn o p=>FW SS 59 [(.pointer A),(.agg ⟨s⟩),(.func (.func n) ⟨o⟩ ⟨p⟩)] r λl m=>yI .i64 l λk=>KY SS.P A m λj _=>fP 65 j 0 λi=>fP 29 (.pointer (some i)) 1 λg=>xU (ah SS.P 3 (.pointer (some g)) (.int .i64 k) m) m λ_ f=>(aj SS.P 29 r (pA (h.next))=some (.agg ⟨s⟩)/\dV 4 (.agg ⟨s⟩) (.agg ⟨s⟩)=true)/\FW SS 46 [(.pointer A)] f λd e=>∃c:LV,∃b:Int,d=(.tuple ⟨[(.agg ⟨c⟩),(.int .i64 b)]⟩)/\xU (ah SS.P 29 (pA (B.next)) (.agg ⟨c⟩) e) e λ_ a=>eK SS [((pA (B.next)),some 29),((.int .i64 b),none)] a Q)):FW SS 31 [(.agg ⟨H⟩),(.agg ⟨E⟩)] h Q:=du RK Tryz.func31 (ai R)
noncomputable def aao:FD:=dq Tryz.f33 []
theorem Vi(D:LV)(h:ae)(Q:VH)(I:xN (fu SS.P 29 (.agg ⟨D⟩)) h λ_ B=>xN (av SS.P 29) B λ_ E=>lA 29 E (pA (h.next)) λM=>FW SS 66 [(.agg ⟨M⟩)] E λF C=>yB F λH=>au (!H) (xA (bu SS.P 29 []) λb=>xU (ah SS.P 29 (pA (B.next)) (.agg ⟨b⟩) C) C λ_ a=>eK SS [((pA (B.next)),some 29),((.int .i64 1),none)] a Q) (fP 29 (pA (h.next)) 0 λK=>lI C K λJ=>FW SS 42 [(.int .i64 J)] C λL G=>yO L λA=>KY SS.P A G λy z=>fP 65 y 1 λx=>lS z x λw=>FW SS 43 [(.pointer A),(strOf w)] z λu v=>yI .i64 u λt=>fP 29 (pA (h.next)) 2 λs=>lS (room v 11) s λr=>lA 29 (room v 11) (pA (h.next)) λq=>FW SS 64 [(.pointer A),(.int .i64 t)] (room v 11) λo p=>yF o λl m n=>FW SS 59 [(.pointer A),(.agg ⟨q⟩),(.func (.func l) ⟨m⟩ ⟨n⟩)] p λj k=>yI .i64 j λi=>FW SS 58 [(.pointer A),(.int .i64 t),(strOf r),(.int .i64 i)] k λf g=>f=(.tuple ⟨[]⟩)/\(aj SS.P 9 p (.pointer (some s))=some (strOf r)/\dV 4 (strOf r) (strOf r)=true)/\(aj SS.P 9 k (.pointer (some s))=some (strOf r)/\dV 4 (strOf r) (strOf r)=true)/\(aj SS.P 29 p (pA (h.next))=some (.agg ⟨q⟩)/\dV 4 (.agg ⟨q⟩) (.agg ⟨q⟩)=true)/\FW SS 46 [(.pointer A)] g λd e=>∃c:LV,∃b:Int,d=(.tuple ⟨[(.agg ⟨c⟩),(.int .i64 b)]⟩)/\xU (ah SS.P 29 (pA (B.next)) (.agg ⟨c⟩) e) e λ_ a=>eK SS [((pA (B.next)),some 29),((.int .i64 b),none)] a Q)):FW SS 33 [(.agg ⟨D⟩)] h Q:=du aao Tryz.func33 (ai I)
noncomputable def Vh:FD:=dq Tryz.f37 []
theorem RM(D:LV)(w:LB)(h:ae)(Q:VH)(L:xN (fu SS.P 29 (.agg ⟨D⟩)) h λ_ A=>xN (av SS.P 29) A λ_ E=>lA 29 E (pA (h.next)) λR=>FW SS 66 [(.agg ⟨R⟩)] E λG C=>yB G λK=>au (!K) (xA (bu SS.P 29 []) λb=>xU (ah SS.P 29 (pA (A.next)) (.agg ⟨b⟩) C) C λ_ a=>eK SS [((pA (A.next)),some 29),((.int .i64 1),none)] a Q) (fP 29 (pA (h.next)) 0 λH=>lI C H λO=>FW SS 41 [(.int .i64 O),(strOf w)] C λP B=>yB P λN=>au (!N) (xA (bu SS.P 29 []) λb=>xU (ah SS.P 29 (pA (A.next)) (.agg ⟨b⟩) B) B λ_ a=>eK SS [((pA (A.next)),some 29),((.int .i64 1),none)] a Q) (fP 29 (pA (h.next)) 0 λM=>lI B M λI=>FW SS 42 [(.int .i64 I)] B λJ F=>yO J λz=>fP 29 (pA (h.next)) 2 λy=>lS F y λx=>FW SS 63 [(.pointer z),(strOf w),(strOf x)] F λu v=>yS u λt=>KY SS.P z v λr s=>fP 65 r 0 λq=>fP 29 (.pointer (some q)) 2 λp=>xU (ah SS.P 9 (.pointer (some p)) (strOf t) s) s λ_ o=>lA 29 o (pA (h.next)) λn=>FW SS 59 [(.pointer z),(.agg ⟨n⟩),(.func (.func 60) ⟨[]⟩ ⟨[]⟩)] o λl m=>yI .i64 l λk=>KY SS.P z m λi j=>fP 65 i 0 λh=>fP 29 (.pointer (some h)) 1 λg=>xU (ah SS.P 3 (.pointer (some g)) (.int .i64 k) j) j λ_ f=>FW SS 46 [(.pointer z)] f λd e=>∃c:LV,∃b:Int,d=(.tuple ⟨[(.agg ⟨c⟩),(.int .i64 b)]⟩)/\xU (ah SS.P 29 (pA (A.next)) (.agg ⟨c⟩) e) e λ_ a=>eK SS [((pA (A.next)),some 29),((.int .i64 b),none)] a Q))):FW SS 37 [(.agg ⟨D⟩),(strOf w)] h Q:=du Vh Tryz.func37 (ai L)
noncomputable def gN:FD:=dq Tryz.f35 [([1,1,1,0,1,0,0],[1,2,3,6,8,33,34]),([1,1,1,1,0,1,0,0],[1,2,3,6,8,48,49])]
abbrev mN(n a:Int)(d c k:Nat)(b:Int)(i:Nat):LV:=[(.int .i64 n),(.int .i64 a),(pA d),(pA c),(pA k),(.int .i64 b),(iA i)]
abbrev mO(n a:Int)(c b k:Nat)(i:Nat):LV:=[(.int .i64 n),(.int .i64 a),(pA c),(pA b),(pA k),(.int .i64 a),(iA i)]
theorem Oz(o:LV)(n m:Int)(h:ae)(Q:VH)(p:xN (fu SS.P 29 (.agg ⟨o⟩)) h λ_ l=>xN (av SS.P 29) l λ_ k=>lA 29 k (pA (h.next)) λj=>FW SS 66 [(.agg ⟨j⟩)] k λg i=>yB g λf=>au (!f) (xA (bu SS.P 29 []) λb=>xU (ah SS.P 29 (pA (l.next)) (.agg ⟨b⟩) i) i λ_ a=>eK SS [((pA (l.next)),some 29),((.int .i64 1),none)] a Q) (au (decide ((n:Int)<0)) (xA (bu SS.P 29 []) λb=>xU (ah SS.P 29 (pA (l.next)) (.agg ⟨b⟩) i) i λ_ a=>eK SS [((pA (l.next)),some 29),((.int .i64 1),none)] a Q) (au (decide ((m:Int)<n)) (xA (bu SS.P 29 []) λb=>xU (ah SS.P 29 (pA (l.next)) (.agg ⟨b⟩) i) i λ_ a=>eK SS [((pA (l.next)),some 29),((.int .i64 1),none)] a Q) (au (decide ((m:Int)>30)) (xA (bu SS.P 29 []) λb=>xU (ah SS.P 29 (pA (l.next)) (.agg ⟨b⟩) i) i λ_ a=>eK SS [((pA (l.next)),some 29),((.int .i64 1),none)] a Q) (fP 29 (pA (h.next)) 0 λe=>lI i e λd=>FW SS 42 [(.int .i64 d)] i λb c=>yO b λa=>LL SS gN [1,1,1,0,1,0,0] [(.int .i64 n),(.int .i64 m),(pA (h.next)),(pA (l.next)),(.pointer a),(.int .i64 (wrap .i64 (m+1))),(.int .i64 0)] c (KK SS gN [1,1,1,0,1,0] [] (EE SS gN Q))))))):FW SS 35 [(.agg ⟨o⟩),(.int .i64 n),(.int .i64 m)] h Q:=du gN Tryz.func35 (ai p)
theorem zY(q:LV)(n e:Int)(m l k:Nat)(j:Int)(f:Nat->Nat->ae->Prop)(Q:VH)(step:∀(g:Nat) (i:Nat) (p:Nat->Value) (h:ae),f g i h->au (decide (((i:Int):Int)<j)) (au (decide (((i:Int):Int)>=n)) (fP 65 (pA k) 1 λd=>lS h d λc=>FW SS 43 [(pA k),(strOf c)] h λa b=>yI .i64 a λ_=>aM (gp (mN n e m l k j) f) g [(.int .i64 n),(.int .i64 e),(pA m),(pA l),(pA k),(.int .i64 j),(.int .i64 (wrap .i64 ((i:Int)+1)))] b) (FW SS 43 [(pA k),(strOf [])] h λa b=>yI .i64 a λ_=>aM (gp (mN n e m l k j) f) g [(.int .i64 n),(.int .i64 e),(pA m),(pA l),(pA k),(.int .i64 j),(.int .i64 (wrap .i64 ((i:Int)+1)))] b)) (LL SS gN [1,1,1,1,0,1,0,0] (mO n e m l k 0) h (KK SS gN [1,1,1,1,0,1,0] [] (EE SS gN Q))))(g:Nat){i:Nat}{h:ae}(o:f g i h):LL SS gN [1,1,1,0,1,0,0] (mN n e m l k j i) h (KK SS gN [1,1,1,0,1,0] [] (EE SS gN Q)):=
 dJ (mN n e m l k j) f (λg i p h o=>ai (step g i p h o)) g o
theorem zZ(x:LV)(n q:Int)(t u k:Nat)(s:Nat->Nat->ae->Prop)(Q:VH)(step:∀(r:Nat) (i:Nat) (w:Nat->Value) (h:ae),s r i h->au (decide (((i:Int):Int)<q)) (fP 29 (pA t) 2 λp=>lS (room h 12) p λo=>lA 29 (room h 12) (pA t) λm=>FW SS 64 [(pA k),(.int .i64 (wrap .i64 ((i:Int)+1)))] (room h 12) λj l=>yF j λf g h=>FW SS 59 [(pA k),(.agg ⟨m⟩),(.func (.func f) ⟨g⟩ ⟨h⟩)] l λd e=>yI .i64 d λc=>FW SS 58 [(pA k),(iA i),(strOf o),(.int .i64 c)] e λa b=>a=(.tuple ⟨[]⟩)/\(aj SS.P 9 l (.pointer (some p))=some (strOf o)/\dV 4 (strOf o) (strOf o)=true)/\(aj SS.P 9 e (.pointer (some p))=some (strOf o)/\dV 4 (strOf o) (strOf o)=true)/\(aj SS.P 29 l (pA t)=some (.agg ⟨m⟩)/\dV 4 (.agg ⟨m⟩) (.agg ⟨m⟩)=true)/\aM (gp (mO n q t u k) s) r [(.int .i64 n),(.int .i64 q),(pA t),(pA u),(pA k),(.int .i64 q),(.int .i64 (wrap .i64 ((i:Int)+1)))] b) (FW SS 46 [(pA k)] h λd e=>∃c:LV,∃b:Int,d=(.tuple ⟨[(.agg ⟨c⟩),(.int .i64 b)]⟩)/\xU (ah SS.P 29 (pA u) (.agg ⟨c⟩) e) e λ_ a=>eK SS [((pA u),some 29),((.int .i64 b),none)] a Q))(r:Nat){i:Nat}{h:ae}(v:s r i h):LL SS gN [1,1,1,1,0,1,0,0] (mO n q t u k i) h (KK SS gN [1,1,1,1,0,1,0] [] (EE SS gN Q)):=
 dJ (mO n q t u k) s (λr i w h v=>ai (step r i w h v)) r v
section
section
variable {hb g h:ae} {k:Nat} {kind start:Int} {lead:List UInt8} {bT:List dW}
theorem U9(w:Wf hb)(b:BS hb g k kind start lead bT)(u:bT.length<=3000)(x:bV bT<=30000):FW SS 46 [pA k] g (D3 hb (⟨kind,start,lead,bT⟩,0)):=by
 obtain⟨a,n,c,r,q,f,p⟩:=b.ex;have s:n=bT.length:=by have:=p.st.len;rw[this,f]
 have h:=(Ok.refl b.ok.wf).push lz;have d:=h.ext _ _ q;have j:=aN g lz;have o:=sj Uk RD xQ d (i:=0) (by simp[gz]);have m:=h.set (.cells (bM ⟨kind,start,lead,bT⟩ a n c) 29 0 true) (Nat.le_refl _) (h.wf _ _ j) b.ok.wf;have l:((g.push lz).set g.next (.cells (bM ⟨kind,start,lead,bT⟩ a n c) 29 0 true)).get g.next=some (.cells (bM ⟨kind,start,lead,bT⟩ a n c) 29 0 true):=by rw[ae.ay,if_pos rfl]
 refine U8 k g _ ⟨_,me,_,adA k,_,dp af2 aeA d (i:=6) (by simp[gz]),aa (λe=>by cases e) (λ_=>⟨_,mg k,_,dO k,_,_,_,dp CR Hn d (i:=3) (by simp[gz]),aa (λe=>?_) (λ_=>⟨_,OK k,_,dp KL JA d (i:=5) (by simp[gz]),aa (λe=>?_) (λ_=>⟨_,mg k,_,o,_,lR (t:=29) xQ (cs0:=[.int .i64 0,.int .i64 0,strOf [],.slice none 0 0]) rfl j (cs:=bM ⟨kind,start,lead,bT⟩ a n c) rfl (tl ..),?_⟩)⟩)⟩)⟩
 ·have:=dT e;omega
 ·have:=dT e;omega
 ·exact AX (v:= .agg ⟨bM ⟨kind,start,lead,bT⟩ a n c⟩) (sj Uk RD xQ l (by simp[bM])) ⟨a,n,c,r,rfl,f,p.ok m,b.ok.trans m⟩
theorem U6{c:Nat}{l:List Int}(r:dz h (.slice a n c) l)(i:Nat):FW SS 45 [.slice a n c,iA i] h (λv g=>v = .int .i64 (l.getD i 0)/\g=h):=by
 obtain rfl:=dz.len r;refine adj a _ c i h _ (aa (λq=>?_) (λq=>⟨?_,rfl⟩))
 ·have d:i<l.length:=by have:=dT q;omega
  obtain⟨p,b,e⟩:=r.at_ d;exact⟨_,b,_,e,rfl,rfl⟩
 ·have:l.length<=i:=by have:=dF q;omega
  rw[gD,List.getElem?_eq_none this];rfl
theorem Qs(s:Int):FW SS 51 [.int .i64 s] h (λv g=>v = .bool (tC s)/\g=h):=by
 unfold tC;refine aap s h _ (aa (λq=>⟨?_,rfl⟩) (λq=>⟨?_,rfl⟩))
 ·have:=dT q;rw[decide_eq_true (show 1<=s by omega),Bool.true_and]
 ·have:=dF q;rw[decide_eq_false (show ¬1<=s by omega),Bool.false_and]
theorem RX(s:Int):FW SS 68 [.int .i64 s] h (λv g=>v = .bool (!tC s)/\g=h):=by
 refine RV s h _ ((Qs s).mono ?_);rintro _ g ⟨rfl,rfl⟩;exact⟨_,rfl,rfl,rfl⟩
theorem Ve(s:Int):FW SS 50 [.int .i64 s] h (λv g=>v = .bool (!tC s)/\g=h):=by
 refine Vd s h _ ((Qs s).mono ?_);rintro _ g ⟨rfl,rfl⟩;exact⟨_,rfl,rfl,rfl⟩
theorem VG{c:Nat}{l:List Int}(r:dz h (.slice a n c) l)(t:l.length<=1000000):FW SS 49 [.slice a n c,.func (.func 68) ⟨[]⟩ ⟨[]⟩] h (λv g=>v = .bool (!l.all tC)/\g=h):=by
 obtain rfl:=dz.len r;refine Sb a _ c h _ (Wk a _ c h _ ?_);refine Cy a _ c (λj i g=>i<=l.length/\j=l.length-i/\g=h/\(l.drop i).all tC=l.all tC) _ (λj i=>?_) l.length (i:=0) ⟨by omega,rfl,rfl,by rw[drop_zero]⟩;intros;rename_i g f;obtain⟨w,u,rfl,b⟩:=f;refine aa (λq=>?_) (λq=>?_)
 ·have e:i<l.length:=by have:=dT q;omega
  obtain⟨p,k,o⟩:=r.at_ e;rw[Ei e,all_cons]at b;refine⟨_,k,_,o,(RX _).mono ?_⟩;rintro _ m ⟨rfl,s⟩;obtain rfl:g=m:=s.symm;refine⟨_,rfl,aa (λd=>⟨_,rfl,?_,rfl⟩) (λd=>?_)⟩
  ·rw[not_eq_true']at d;rw[<-b,d,Bool.false_and,decide_eq_true (show(i:Int)>=0 by omega)];rfl
  ·rw[not_eq_false']at d;rw[d,Bool.true_and]at b;rw[bg e (by omega)];exact cz (l.length-(i+1)) (by omega) ⟨by omega,rfl,rfl,b⟩
 ·obtain rfl:i=l.length:=by have:=dF q;omega
  rw[List.drop_length]at b;exact⟨_,rfl,by rw[<-b];rfl,rfl⟩
theorem VF{c:Nat}{l:List Int}(r:dz h (.slice a n c) l)(t:l.length<=1000000):FW SS 49 [.slice a n c,.func (.func 50) ⟨[]⟩ ⟨[]⟩] h (λv g=>v = .bool (!l.all tC)/\g=h):=by
 obtain rfl:=dz.len r;refine Sa a _ c h _ (Wj a _ c h _ ?_);refine Cx a _ c (λj i g=>i<=l.length/\j=l.length-i/\g=h/\(l.drop i).all tC=l.all tC) _ (λj i=>?_) l.length (i:=0) ⟨by omega,rfl,rfl,by rw[drop_zero]⟩;intros;rename_i g f;obtain⟨w,u,rfl,b⟩:=f;refine aa (λq=>?_) (λq=>?_)
 ·have e:i<l.length:=by have:=dT q;omega
  obtain⟨p,k,o⟩:=r.at_ e;rw[Ei e,all_cons]at b;refine⟨_,k,_,o,(Ve _).mono ?_⟩;rintro _ m ⟨rfl,s⟩;obtain rfl:g=m:=s.symm;refine⟨_,rfl,aa (λd=>⟨_,rfl,?_,rfl⟩) (λd=>?_)⟩
  ·rw[not_eq_true']at d;rw[<-b,d,Bool.false_and,decide_eq_true (show(i:Int)>=0 by omega)];rfl
  ·rw[not_eq_false']at d;rw[d,Bool.true_and]at b;rw[bg e (by omega)];exact cz (l.length-(i+1)) (by omega) ⟨by omega,rfl,rfl,b⟩
 ·obtain rfl:i=l.length:=by have:=dF q;omega
  rw[List.drop_length]at b;exact⟨_,rfl,by rw[<-b];rfl,rfl⟩
theorem H9{c:Nat}(r:dz h (.slice a n c) p):FW SS 40 [.slice a n c] h (λv g=>v = .bool (fq p)/\g=h):=by
 obtain rfl:=dz.len r;unfold fq;refine RY a _ c h _ (aa (λq=>(VG r (by have:=dT q;omega)).mono ?_) (λq=>⟨?_,rfl⟩))
 ·rintro _ g ⟨rfl,rfl⟩;refine⟨_,rfl,?_,rfl⟩;have:=dT q;rw[decide_eq_true (show p.length<=200 by omega),Bool.true_and,Bool.not_not]
 ·have:=dF q;rw[decide_eq_false (show ¬p.length<=200 by omega),Bool.false_and]
def Aq(A B:bJ):Int:=if(db A&&db B)=true then(if A.kind=B.kind then 0 else 6)else 1
theorem Qt{B:bJ}{x:Option Addr}{z:Nat}(w:Wf h)(r:qJ h)(u:Small M)(D:Small B)(A:dR h (.slice x n z) M.af)(t:dR h (.slice a m i) B.af):FW SS 57 [.agg ⟨bM M x n z⟩,.agg ⟨bM B a m i⟩] h (λv g=>v = .int .i64 (Aq M B)/\Ok h g):=by
 obtain⟨C,k⟩:=fv w A;obtain⟨y,s⟩:=fv k.wf (t.ok k);have p:=k.trans s;have j:=C.ok s;refine aaq _ _ h _ ⟨_,iO M x n z,_,iO B a m i,_,j.all,(tk (r.ok p) p.wf u j.row).mono ?_⟩;generalize (h.push (Bm M x n z)).push (Bm B a m i)=E at*;rintro _ G ⟨rfl,o⟩;have d:=p.trans o;have e:=y.ok o;unfold Aq;refine⟨_,rfl,aa (λq=>⟨?_,d⟩) (λq=>⟨_,e.all,(tk (r.ok d) d.wf D e.row).mono ?_⟩)⟩
 ·rw[not_eq_true']at q;rw[q];rfl
 rw[not_eq_false']at q;rintro _ F ⟨rfl,l⟩;have f:=d.trans l;refine⟨_,rfl,aa (λc=>⟨?_,f⟩) (λc=>⟨_,dN _,_,((j.ok o).ok l).l0,_,dN _,_,(e.ok l).l0,aa (λb=>⟨?_,f⟩) (λb=>⟨?_,f⟩)⟩)⟩
 ·rw[not_eq_true']at c;rw[q,c];rfl
 ·rw[not_eq_false']at c;have b:M.kind≠B.kind:=by simpa using b
  rw[q,c,if_pos (show(true&&true)=true from rfl),if_neg b]
 ·rw[not_eq_false']at c;have b:M.kind=B.kind:=by simpa using b
  rw[q,c,if_pos (show(true&&true)=true from rfl),if_pos b]
end
end
variable{j:Nat}{l:Nat}{t:List UInt8}
section
section
variable {hb g h:ae} {k:Nat} {kind start:Int} {lead:List UInt8} {bT:List dW}
theorem BU.KD(w:Wf hb)(b:BU hb g k kind start lead bT n)(l:List UInt8):∃u:eu,ah SS.P 9 (.pointer (some ⟨k,2,none⟩)) (strOf l) g=some (undef,u)/\BU hb (u.app g) k kind start l bT n/\Kp g (u.app g):=by
 obtain⟨a,t,c,p,d,h,q⟩:=b.ex;refine⟨_,ll zs9 d (i:=2) (by simp[gz]) rfl rfl,⟨⟨a,t,c,p,?_,h,q.other d (by omega) (by omega) _⟩,b.ok.set _ b.nk (b.ok.wf _ _ d) w,b.nk⟩,Nat.le_refl _,λj cs e z s f m _ _=>?_⟩
 ·show(g.set k _).get k=_;rw[ae.ay,if_pos rfl];rfl
 ·show(g.set k _).get j=_;rw[ae.ay,if_neg (λc=>by
   rw[c,d]at f;injection f with f
   injection f with _ r o
   exact m ⟨r.symm,o.symm⟩)]
  omega
theorem BU.Ns(w:Wf hb)(b:BU hb g k kind start lead bT n)(z:Int):∃u:eu,ah SS.P 3 (.pointer (some ⟨k,1,none⟩)) (.int .i64 z) g=some (undef,u)/\BU hb (u.app g) k kind z lead bT n/\Kp g (u.app g):=by
 obtain⟨a,s,c,o,d,h,p⟩:=b.ex;refine⟨_,ll zs3 d (i:=1) (by simp[gz]) rfl rfl,⟨⟨a,s,c,o,?_,h,p.other d (by omega) (by omega) _⟩,b.ok.set _ b.nk (b.ok.wf _ _ d) w,b.nk⟩,Nat.le_refl _,λj cs e z r f l _ _=>?_⟩
 ·show(g.set k _).get k=_;rw[ae.ay,if_pos rfl];rfl
 ·show(g.set k _).get j=_;rw[ae.ay,if_neg (λc=>by
   rw[c,d]at f;injection f with f
   injection f with _ q m
   exact l ⟨q.symm,m.symm⟩)]
  omega
theorem BU.one(b:BU hb g k kind start lead bT n):aj SS.P 9 g (.pointer (some ⟨k,4,none⟩))=some (strOf (ct kind)):=by
 obtain⟨a,j,c,f,d,e,h⟩:=b.ex;exact dp NX Ux d (i:=4) (by simp[gz])
theorem ju(w:Wf h)(o:Ok h g)(f:g.get m=some lz)(b:h.next<=m)(e:Int):
  xA (bu SS.P 29 []) λc=>xU (ah SS.P 29 (pA m) (.agg ⟨c⟩) g) g λu d=>eK SS [(pA m,some 29),(.int .i64 e,none)] d (D3 h (zH,e)):=by
 obtain⟨u,j,i⟩:=Q3 w o f b (R:=(zH,e)) (a:=none) (n:=0) (c:=0) (ps:=[]) rfl (lO.nil g g) o (.inr ⟨rfl,rfl,rfl,rfl⟩)
 grind[adp]
theorem rD(w:Wf h)(j:Wf hb)(b:BS hb g k kind start lead bT)(o:bT.length<=3000)(q:bV bT<=30000)(m:Ok h hb)(l:hb.get n=some lz)(r:h.next<=n):
  FW SS 46 [pA k] g λv d=>∃cs:LV,∃p:Int,v=(.tuple ⟨[(.agg ⟨cs⟩),(.int .i64 p)]⟩)/\xU (ah SS.P 29 (pA n) (.agg ⟨cs⟩) d) d λu f=>eK SS [(pA n,some 29),(.int .i64 p,none)] f (D3 h (⟨kind,start,lead,bT⟩,0)):=by
 refine(U9 j b o q).mono ?_;rintro _ f ⟨a,p,c,y,rfl,i,s,e⟩;obtain⟨u,x,t⟩:=Q3 w (m.trans e) (e.ext _ _ l) r (R:=(⟨kind,start,lead,bT⟩,0)) i s m (.inl (j _ _ l))
 grind
end
def pV(kind:Int)(a b:List Int)(m:Nat):List dW:=(List.range m).map λi=>⟨[],[⟨a.getD i 0,b.getD i 0,ct kind,((i+1:Nat):Int)⟩]⟩
def kj(kind:Int)(a b:List Int)(c:List UInt8):bJ:=⟨kind,0,c,pV kind a b (max a.length b.length)++[⟨ct kind,[]⟩]⟩
def BO(kind:Int)(b c:List Int)(a:List UInt8):bJ×Int:=if(fq b&&(fq c&&bq kind a))=true then(kj kind b c a,0)else(zH,1)
theorem mI(kind:Int)(a b:List Int)(m:Nat):(pV kind a b m).length=m:=by grind[pV]
theorem Jc(kind:Int)(a b:List Int)(m:Nat):pV kind a b (m+1)=pV kind a b m++[⟨[],[⟨a.getD m 0,b.getD m 0,ct kind,((m+1:Nat):Int)⟩]⟩]:=by grind[range_succ,pV]
theorem BK(kind:Int)(a b:List Int):∀m,bV (pV kind a b m)=m
 |0=>rfl
 |m+1=>by rw[Jc,eA,BK kind a b m];rfl
theorem acA(i o:Int)(w:List UInt8)(t:Int):bu SS.P 70 [(0,.int .i64 i),(1,.int .i64 o),(2,strOf w),(3,.int .i64 t)]=some (.agg ⟨gM ⟨i,o,w,t⟩⟩):=by kernel_rfl
theorem BP(h:fq p=true):p.length<=200:=by simp_all[fq]
theorem AM{h:ae}{kind:Int}{E G:Option Addr}{d f:List Int}(w:Wf h)(tb:qJ h)(R:dz h (.slice E n m) d)(V:dz h (.slice G j l) f)(hl:t.length<=1000000000):
  FW SS 13 [.int .i64 kind,.slice E n m,.slice G j l,strOf t] h (D3 h (BO kind d f t)):=by
 obtain rfl:=dz.len R;obtain rfl:=dz.len V;have v:=(Ok.refl w).push lz;have U:=aN h lz;have nb:h.next<(h.push lz).next:=lt_succ_self _;refine Vo kind E _ m G _ l t h _ ⟨_,me,?_⟩;generalize h.push lz=g1 at*;refine(H9 (dz.ok R v)).mono ?_;rintro _ z ⟨rfl,Z⟩;obtain rfl:g1=z:=Z.symm;unfold BO;refine⟨_,rfl,aa (λq=>?_) (λq=>(H9 (dz.ok V v)).mono ?_)⟩
 ·rw[not_eq_true']at q;rw[q,if_neg (show ¬(false&&(fq f&&bq kind t))=true by simp)];exact ju w v U (Nat.le_refl _) 1
 rw[not_eq_false']at q;rintro _ z ⟨rfl,Z⟩;obtain rfl:g1=z:=Z.symm;refine⟨_,rfl,aa (λA=>?_) (λA=>(oC kind t hl (tb.ok v) v.wf).mono ?_)⟩
 ·rw[not_eq_true']at A;rw[A,if_neg (show ¬(fq d&&(false&&bq kind t))=true by simp)];exact ju w v U (Nat.le_refl _) 1
 rw[not_eq_false']at A;rintro _ z ⟨rfl,r⟩;have N:=v.trans r;have x5:=r.ext _ _ U;refine⟨_,rfl,aa (λP=>?_) (λP=>(oU kind r.wf).mono ?_)⟩
 ·simp_all[ju]
 rw[not_eq_false']at P;rw[q,A,P,if_pos (show(true&&(true&&true))=true from rfl)];have lx:=BP q;have ly:=BP A;rintro _ g3 ⟨k,rfl,b3⟩;obtain⟨u,st,b4,_⟩:=b3.KD r.wf t;refine⟨_,rfl,nG ⟨_,mg k,_,oX k,u,st,(jv r.wf b4 (by simp) []).mono ?_⟩⟩;rintro _ g5 ⟨rfl,b5,_⟩;have hm:(if(f.length:Int)>(d.length:Int)then(f.length:Int)else(d.length:Int))=((max d.length f.length:Nat):Int):=by
  split<;>omega
 refine⟨_,rfl,_,wW _ _ _,?_⟩;rw[hm];obtain⟨D,M⟩:∃D,D=max d.length f.length:=⟨_,rfl⟩
 have x8:D<=200:=by omega
 rw[<-M];refine Cm kind E _ m G _ l t h.next k D (λmz s i g=>i<=D/\mz=D-i/\s=i/\BS z g k kind 0 t (pV kind d f i++[⟨[],[]⟩])) _ (λmz s i=>?_) D (s:=0) (i:=0) ⟨by omega,rfl,rfl,b5⟩;intros;rename_i g x3;obtain⟨f1,f2,rfl,b⟩:=x3;have B:=Em (pV kind d f s) (⟨[],[]⟩:dW) [] (mI kind d f s);refine aa (λp=>?_) (λp=>?_)
 ·have hi:s<D:=by have:=dT p;omega
  refine(jv r.wf b (by grind[mI]) []).mono ?_;rintro _ g6 ⟨rfl,b6,_⟩;have or:=(Ok.refl b6.ok.wf).room 15;have o:=b6.ym or;have K:=N.trans o.ok;refine⟨_,rfl,(U6 (dz.ok R K) s).mono ?_⟩;rintro _ S ⟨rfl,e7⟩;obtain rfl:Go.Ab.room g6 15=S:=e7.symm;refine⟨_,rfl,(U6 (dz.ok V K) s).mono ?_⟩;rintro _ S ⟨rfl,e7⟩;obtain rfl:Go.Ab.room g6 15=S:=e7.symm;have Q:(pV kind d f s++[(⟨[],[]⟩:dW)]).length=s+1:=by rw[length_append,mI];rfl
  rw[Q];have H:(pV kind d f s++[(⟨[],[]⟩:dW)]++[(⟨[],[]⟩:dW)])[s]?=some (⟨[],[]⟩:dW):=by
   rw[append_assoc];exact Em (pV kind d f s) (⟨[],[]⟩:dW) [⟨[],[]⟩] (mI kind d f s)
  have y:(pV kind d f s++[(⟨[],[]⟩:dW)]++[(⟨[],[]⟩:dW)]).set s (⟨[],[]++[⟨d.getD s 0,f.getD s 0,ct kind,((s+1:Nat):Int)⟩]⟩:dW)=pV kind d f (s+1)++[⟨[],[]⟩]:=by
   rw[append_assoc,Jc,append_assoc];exact yz (pV kind d f s) (⟨[],[]⟩:dW) _ [⟨[],[]⟩] (mI kind d f s)
  have x0:bV (pV kind d f s++[(⟨[],[]⟩:dW)]++[(⟨[],[]⟩:dW)])<=100000:=by
   rw[eA,eA,BK];show s+0+0<=_;omega
  refine⟨_,rfl,_,Cv k,_,o.one,_,acA _ _ _ _,(AP r.wf o H x0 _).mono ?_⟩;rintro _ g8 ⟨rfl,F,_⟩;rw[y]at F;rw[bg hi (by omega)];exact⟨rfl,⟨o.one,mD _⟩,⟨o.one,mD _⟩,jV (D-(s+1)) (by omega) ⟨by omega,rfl,rfl,F⟩⟩
 ·obtain rfl:s=D:=by have:=dF p;omega
  have o:=b.ym ((Ok.refl b.ok.wf).room 13);obtain⟨a,y3,c,Y,X,L,I⟩:=o.ex;obtain⟨pp,hp,x6⟩:∃p,Y[s]?=some p/\p.1=⟨[],[]⟩:=by
   rw[<-L,getElem?_map]at B;exact map_eq_some_iff.1 B
  have W:0<(Y.map yG).length:=by have:=(List.getElem?_eq_some_iff.1 hp).1;rw[lM];omega
  obtain⟨kr,y0,cr,O,y1⟩:=I.row.blk W;injection O with O en ec
  subst O en ec;obtain⟨i1,_,_⟩:=I.at_ hp;obtain⟨uu,x2,x4,x1,x7,x9⟩:=I.afQ r.wf o.ok hp (ct kind);obtain⟨y2,T⟩:=qB I.row (k:=kr) rfl;have J:=x7 _ _ X (λe=>mf T X (by decide) e);have y:(Y.set s (⟨ct kind,pp.1.arcs⟩,pp.2)).map (·.1)=pV kind d f s++[⟨ct kind,[]⟩]:=by
   rw[map_set,L,x6];exact yz (pV kind d f s) (⟨[],[]⟩:dW) _ [] (mI kind d f s)
  have C:∀x:dW,x.arcs=[]->bV (pV kind d f s++[x])=s:=λx hx=>by
   rw[eA,BK,dy,hx];rfl
  have F:BS z (uu.app (Go.Ab.room g 13)) k kind 0 t (pV kind d f s++[⟨ct kind,[]⟩]):=by
   refine⟨⟨_,_,_,_,?_,y,x4⟩,x1,o.nk⟩;rw[C _ rfl];rw[C _ rfl]at J;exact J
  refine⟨_,mg k,_,dO k,_,_,_,dp CR Hn X (i:=3) (by simp[gz]),_,Cv k,_,o.one,_,i1,_,qg _ _,uu,x2,?_⟩;have e:kj kind d f t=⟨kind,0,t,pV kind d f s++[⟨ct kind,[]⟩]⟩:=by unfold kj;rw[<-M]
  rw[e];exact rD w r.wf F (by rw[length_append,mI];simp;omega) (by rw[C _ rfl];omega) N x5 (Nat.le_refl _)
end
section
structure BY(M:bJ):Prop where
 n:M.af.length<=300
 s:bV M.af<=2000
 start:0<=M.start/\M.start<M.af.length
 to:∀s∈M.af,∀a∈s.arcs,0<=a.t/\a.t<M.af.length
theorem sc(c:Small M)(h:db M=true):BY M:=by
 have b:=CE h;exact⟨c.bT,c.tot,b.start,λs d a e=>(b.arc s d a e).2⟩
theorem oJ.kL(k:Nat)(g:ae):oJ k none 60 [] [] g:=⟨rfl,rfl,rfl⟩
theorem GP{x:Option Addr}{y z:Nat}(r:dR g (.slice x y z) M.af):dV 4 (.agg ⟨bM M x y z⟩) (.agg ⟨bM M x y z⟩)=true:=by
 obtain⟨t,d,l,q,m⟩:=r;have:∀{e i:Nat}{j:List (List Value)},Hl g e i (.slice x y z) j->dV 3 (.slice x y z) (.slice x y z)=true:=by
  intro e i j h;obtain⟨_,⟨d|d,_⟩|⟨k,o,cs,p,z',c,s,d,_⟩⟩:=h
  ·injection d with a b c;subst a b c;simp[dV]
  ·exact absurd d m
  ·injection d with a b c;subst a b c;simp[dV]
 have h:=this l;have e:dV 4 (.agg ⟨bM M x y z⟩) (.agg ⟨bM M x y z⟩)=(dV 3 (.int .i64 M.kind) (.int .i64 M.kind)&&(dV 3 (.int .i64 M.start) (.int .i64 M.start)&&(dV 3 (strOf M.lead) (strOf M.lead)&&(dV 3 (.slice x y z) (.slice x y z)&&true)))):=rfl;have f:∀a:Int,dV 3 (.int .i64 a) (.int .i64 a)=true:=λa=>by simp[dV]
 have n:dV 3 (strOf M.lead) (strOf M.lead)=true:=by simp[dV,strOf]
 rw[e,f,f,n,h];rfl
def rY(X:bJ):List dW->List dW
 |[]=>[]
 |a::r=>⟨a.f,a.arcs++[⟨0,0,X.lead,((r.length+1:Nat):Int)+X.start⟩]⟩::(r++X.af.map (lC (r.length+1) none))
def gG(A B:bJ):bJ:=⟨A.kind,0,ct A.kind,rY B (rY A [⟨[],[]⟩])⟩
def GO(A B:bJ):bJ×Int:=if Aq A B=0 then(gG A B,0)else(zH,Aq A B)
theorem NI(X:bJ)(a:List dW)(h:a≠[]):(rY X a).length=a.length+X.af.length/\bV (rY X a)<=bV a+bV X.af+X.af.length+1/\rY X a≠[]:=by
 cases a with
 |nil=>exact absurd rfl h
 |cons b r=>
  have:=oi (r.length+1) none X.af;refine⟨by unfold rY;simp;omega,?_,by unfold rY;simp⟩;unfold rY;rw[dy,eA,dy];simp only[length_append,List.length_singleton];omega
theorem agx(A B:bJ)(x x':Option Addr)(y z y' z':Nat):aJ SS.P 86 2 [(0,.agg ⟨bM A x y z⟩),(1,.agg ⟨bM B x' y' z'⟩)]=some (.cells (bM A x y z++bM B x' y' z') 29 4 true,ph 2 2):=by cases x<;>cases x'<;>kernel_rfl
theorem adG(k:Nat):aD SS.P 86 (sA k 2 2) (iA 0)=some (.pointer (some ⟨k,0,none⟩)):=by kernel_rfl
theorem adH(k:Nat):aD SS.P 86 (sA k 2 2) (iA 1)=some (.pointer (some ⟨k,4,none⟩)):=by kernel_rfl
theorem Qu{A B:bJ}(h:Aq A B=0):db A=true/\db B=true/\A.kind=B.kind:=by
 unfold Aq at h;split at h
 ·next c=>
  rw[and_eq_true]at c;split at h
  ·next e=>exact⟨c.1,c.2,e⟩
  ·cases h
 ·cases h
section
variable {h:ae} {A B:bJ} {x x':Option Addr} {y z y' z':Nat}
theorem tg(w:Wf h)(tb:qJ h)(sa:Small A)(sb:Small B)(ra:dR h (.slice x y z) A.af)(rb:dR h (.slice x' y' z') B.af):FW SS 25 [.agg ⟨bM A x y z⟩,.agg ⟨bM B x' y' z'⟩] h (D3 h (GO A B)):=by
 obtain⟨ma,H⟩:=fv w ra;obtain⟨mb,M⟩:=fv H.wf (rb.ok H);have n3:h.next<=((h.push (Bm A x y z)).push (Bm B x' y' z')).next:=(H.trans M).nx;have o3:=(Ok.refl M.wf).push lz;have kb:=aN ((h.push (Bm A x y z)).push (Bm B x' y' z')) lz;have ok:=(H.trans M).trans o3;have G:=(ma.ok M).ok o3;have F:=mb.ok o3;refine RU _ _ h _ ⟨_,iO A x y z,_,iO B x' y' z',_,me,_,G.all,_,F.all,(Qt ok.wf (tb.ok ok) sa sb G.row F.row).mono ?_⟩;generalize y9:(h.push (Bm A x y z)).next=k2 at*;generalize ((h.push (Bm A x y z)).push (Bm B x' y' z')).next=kr at*;generalize (((h.push (Bm A x y z)).push (Bm B x' y' z')).push lz)=g3 at*;rintro _ K ⟨rfl,c⟩;have S:=ok.trans c;have E:=G.ok c;have V:=F.ok c;have N:=c.ext _ _ kb;unfold GO;refine⟨_,rfl,aa (λq=>?_) (λq=>⟨_,dN _,_,E.l0,(oU A.kind c.wf).mono ?_⟩)⟩
 ·have q:Aq A B≠0:=by simpa using q
  rw[if_neg q];exact ju w S N n3 _
 have q:Aq A B=0:=by simpa using q
 rw[if_pos q];obtain⟨vA,vB,y8⟩:=Qu q;have Z:=sc sa vA;have cB:=sc sb vB;rintro _ g5 ⟨k,rfl,b5⟩;refine⟨_,rfl,(jv c.wf b5 (by simp) []).mono ?_⟩;rintro _ g6 ⟨rfl,J,z3⟩;have x4:=E.ok J.ok;have y7:=V.ok J.ok;have o7:=(Ok.refl J.ok.wf).push (.cells (bM A x y z++bM B x' y' z') 29 4 true);have b7:=J.ym o7;have x5:=aN g6 (.cells (bM A x y z++bM B x' y' z') 29 4 true);refine⟨_,rfl,_,x4.all,_,y7.all,_,_,_,agx A B x x' y z y' z',?_⟩;generalize g6.push (.cells (bM A x y z++bM B x' y' z') 29 4 true)=g7 at*;generalize g6.next=W at*;have hU:∀i,∃U:List dW,(i=0->U=[⟨[],[]⟩])/\(i=1->U=rY A [⟨[],[]⟩])/\(i=2->U=rY B (rY A [⟨[],[]⟩])):=λi=>by
  by_cases h0:i=0
  ·exact⟨_,λ_=>rfl,λe=>by omega,λe=>by omega⟩
  by_cases h1:i=1
  ·exact⟨_,λe=>by omega,λ_=>rfl,λe=>by omega⟩
  ·exact⟨_,λe=>by omega,λe=>by omega,λ_=>rfl⟩
 obtain⟨O,z4,x6⟩:=NI A [⟨[],[]⟩] (by simp);obtain⟨x7,z0,z5⟩:=NI B _ x6;have y5:bV ([⟨[],[]⟩]:List dW)=0:=rfl;have:=Z.n;have:=cB.n;have:=Z.s;have:=cB.s;refine AL (bM A x y z) (bM B x' y' z') kr k 0 W 2 2 (λv i g=>i<=2/\v=2-i/\(∃a r,BS K g k A.kind 0 (ct A.kind) (a::r)/\(i=0->a::r=[⟨[],[]⟩])/\(i=1->a::r=rY A [⟨[],[]⟩])/\(i=2->a::r=rY B (rY A [⟨[],[]⟩])))/\Kp g7 g) _ (λv i=>?_) 2 (i:=0) ⟨by omega,rfl,⟨⟨[],[]⟩,[],b7,λ_=>rfl,λe=>by omega,λe=>by omega⟩,Kp.refl _⟩;intros;rename_i g x3;obtain⟨f1,f2,⟨a,r,b,u0,u1,u2⟩,kp⟩:=x3;refine aa (λp=>?_) (λp=>?_)
 ·have hi:i=0\/i=1:=by have:=dT p;omega
  have kl:=kp.2 _ _ _ _ _ x5 (by decide) (by decide) (by decide);have step:∀(X:bJ)(f:Option Addr)(l j:Nat),dR K (.slice f l j) X.af->BY X->(a::r).length<=1000->bV (a::r)<=10000->(∀o u,o::u=rY X (a::r)->(i+1=0->o::u=[⟨[],[]⟩])/\(i+1=1->o::u=rY A [⟨[],[]⟩])/\(i+1=2->o::u=rY B (rY A [⟨[],[]⟩])))->
    xN (av SS.P 29) g λz7 P=>xU (ah SS.P 29 (pA (g.next)) (.agg ⟨bM X f l j⟩) P) P λz2 D=>xP (bk SS.P 29 (pA (g.next)) 2) λR=>xS (aj SS.P 9 (room D 8) (.pointer (some R))) λm=>xA (aj SS.P 29 (room D 8) (pA (g.next))) λx8=>FW SS 59 [(pA k),(.agg ⟨x8⟩),(.func (.func 60) ⟨[]⟩ ⟨[]⟩)] (room D 8) λy3 T=>yI .i64 y3 λy0=>FW SS 58 [(pA k),(iA 0),(strOf m),(.int .i64 y0)] T λy1 y6=>y1=(.tuple ⟨[]⟩)/\(aj SS.P 9 T (.pointer (some R))=some (strOf m)/\dV 4 (strOf m) (strOf m)=true)/\aM (gp (oh kr k 0 W 2 2) (λv i g=>i<=2/\v=2-i/\(∃a r,BS K g k A.kind 0 (ct A.kind) (a::r)/\(i=0->a::r=[⟨[],[]⟩])/\(i=1->a::r=rY A [⟨[],[]⟩])/\(i=2->a::r=rY B (rY A [⟨[],[]⟩])))/\Kp g7 g)) v [(pA kr),(pA k),(iA 0),(sA W 2 2),(iA 2),(.int .i64 (wrap .i64 ((i:Int)+1)))] y6:=by
   intro X f l j rX L hl hs I;obtain⟨o8,k8⟩:=qk (t:=29) (cs:=bM X f l j) b.ok.wf ((Ok.refl b.ok.wf).push lz) (aN g lz) (Nat.le_refl _);have b8:=b.ym o8;have z1:=k8;refine⟨_,me,_,lR (t:=29) xQ (cs0:=[.int .i64 0,.int .i64 0,strOf [],.slice none 0 0]) rfl (aN g lz) (cs:=bM X f l j) rfl (tl ..),?_⟩;generalize (eu.set g.next (.cells (bM X f l j) 29 0 true)).app (g.push lz)=g8 at*;have or:=(Ok.refl b8.ok.wf).room 8;have b9:=b8.ym or;have Y:MB (Go.Ab.room g8 8) g.next X f l j:=⟨k8,rX.ok b9.ok⟩
   have:=L.n;have:=L.s;refine⟨_,oX _,_,Y.l2,_,Y.all,(tf c.wf b9 rX (oJ.kL k _) (by omega) (by omega) L.start L.to).mono ?_⟩;rintro _ y2 ⟨rfl,Q,C⟩;have x1:MB y2 g.next X f l j:=⟨C.2 _ _ _ _ _ Y.box (by decide) (by decide) (by decide),rX.ok Q.ok⟩
   have z6:=oi (a::r).length none X.af;refine⟨_,rfl,(Ef c.wf Q (s:=0) (t:=a) rfl (by rw[eA];omega) X.lead (((a::r).length:Int)+X.start)).mono ?_⟩;rintro _ x9 ⟨rfl,x2,x0⟩;rw[bg (i:=i) (n:=2) (by omega) (by omega)];have y4:BS K x9 k A.kind 0 (ct A.kind) (⟨a.f,a.arcs++[⟨0,0,X.lead,((r.length+1:Nat):Int)+X.start⟩]⟩::(r++X.af.map (lC (r.length+1) none))):=x2;refine⟨rfl,⟨x1.l2,mD _⟩,cz (2-(i+1)) (by omega) ⟨by omega,rfl,⟨⟨a.f,a.arcs++[⟨0,0,X.lead,((r.length+1:Nat):Int)+X.start⟩]⟩,r++X.af.map (lC (r.length+1) none),y4,I _ _ rfl⟩,(((kp.trans (O9 o8)).trans (O9 or)).trans C).trans x0⟩⟩
  rcases hi with rfl|rfl
  ·have d:=u0 rfl;have ld:=sj Uk RD xQ kl (i:=0) (by simp[bM]);refine⟨_,adG _,_,ld,step A x y z E.row Z (by rw[d];simp) (by rw[d];simp[y5]) λo u e=>⟨λe=>by omega,λ_=>by rw[e,d],λe=>by omega⟩⟩
  ·have d:=u1 rfl;have ld:=sj Uk RD xQ kl (i:=4) (by simp[bM]);refine⟨_,adH _,_,ld,step B x' y' z' V.row cB (by rw[d,O];simp;omega) (by rw[d];omega) λo u e=>⟨λe=>by omega,λe=>by omega,λ_=>by rw[e,d]⟩⟩
 ·obtain rfl:i=2:=by have:=dF p;omega
  have d:=u2 rfl;rw[d]at b;exact rD w c.wf b (by rw[x7,O];simp;omega) (by omega) S N n3
end
end
variable{s:List UInt8}
section
def fp(A B:bJ)(c:List UInt8):bJ:=⟨A.kind,(B.af.length:Int)+A.start,c,B.af.map (lC 0 none)++A.af.map (lC B.af.length (some (((0:Nat):Int)+B.start)))⟩
def AU(A B:bJ)(c:List UInt8):bJ×Int:=if Aq A B=0 then(fp A B c,0)else(zH,Aq A B)
def fC(A:bJ):bJ:=⟨A.kind,0,ct A.kind,⟨ct A.kind,[⟨0,0,A.lead,((1:Nat):Int)+A.start⟩]⟩::A.af.map (lC 1 (some ((0:Nat):Int)))⟩
def GG(A:bJ):bJ×Int:=if db A=true then(fC A,0)else(zH,1)
def PE(A:bJ)(c:List UInt8):bJ:=⟨A.kind,((0:Nat):Int)+A.start,c,A.af.map (lC 0 none)⟩
def KA(A:bJ)(a c:List UInt8):bJ×Int:=if(db A&&bq A.kind a)=true then(PE A c,0)else(zH,1)
section
variable {h:ae} {A B:bJ} {x x':Option Addr} {y z y' z':Nat} {c:List UInt8}
theorem oT(w:Wf h)(R:qJ h)(N:Small A)(V:Small B)(ra:dR h (.slice x y z) A.af)(rb:dR h (.slice x' y' z') B.af)(F:Aq A B=0->cO A.kind A.lead B.lead=some c):FW SS 31 [.agg ⟨bM A x y z⟩,.agg ⟨bM B x' y' z'⟩] h (D3 h (AU A B c)):=by
 obtain⟨ma,l⟩:=fv w ra;obtain⟨mb,r⟩:=fv l.wf (rb.ok l);have J:h.next<=((h.push (Bm A x y z)).push (Bm B x' y' z')).next:=(l.trans r).nx;have D:=(Ok.refl r.wf).push lz;have kb:=aN ((h.push (Bm A x y z)).push (Bm B x' y' z')) lz;have E:=(l.trans r).trans D;have i:=(ma.ok r).ok D;have f:=mb.ok D;refine Oy _ _ h _ ⟨_,iO A x y z,_,iO B x' y' z',_,me,_,i.all,_,f.all,(Qt E.wf (R.ok E) N V i.row f.row).mono ?_⟩;generalize x2:(h.push (Bm A x y z)).next=k2 at*;generalize ((h.push (Bm A x y z)).push (Bm B x' y' z')).next=kr at*;generalize (((h.push (Bm A x y z)).push (Bm B x' y' z')).push lz)=g3 at*;rintro _ g4 ⟨rfl,a⟩;have g:=E.trans a;have b:=i.ok a;have j:=f.ok a;have s:=a.ext _ _ kb;unfold AU;refine⟨_,rfl,aa (λq=>?_) (λq=>⟨_,dN _,_,b.l0,(oU A.kind a.wf).mono ?_⟩)⟩
 ·have q:Aq A B≠0:=by simpa using q
  rw[if_neg q];exact ju w g s J _
 have q:Aq A B=0:=by simpa using q
 rw[if_pos q];have F:=F q;obtain⟨O,W,p⟩:=Qu q;have m:=sc N O;have n:=sc V W;have Q:=CE O;have L:=CE W;have Z:aO A.kind B.lead=true:=by rw[p];exact L.lead
 rintro _ g5 ⟨k,rfl,o⟩;have T:=b.ok o.ok;have K:=j.ok o.ok;refine⟨_,rfl,_,oX _,_,T.l2,_,oX _,_,K.l2,(H8 a.wf (R.ok g) o Q.lead Z F).mono ?_⟩;rintro _ g6 ⟨rfl,o6⟩;have b6:=o.ym o6;obtain⟨u7,P,S,x3⟩:=b6.KD a.wf c;have X:=j.ok S.ok;have:=m.n;have:=n.n;have:=m.s;have:=n.s;refine⟨_,rfl,nG ⟨_,mg k,_,oX k,u7,P,_,X.all,(tf a.wf S j.row (oJ.kL k _) (by simp;omega) (by simp[bV];unfold bV at*;omega) n.start n.to).mono ?_⟩⟩;rintro _ g8 ⟨rfl,M,x4⟩;have or:=(Ok.refl M.ok.wf).room 11;have C:=M.ym or;have H:=b.ok C.ok;have x5:=oi 0 none B.af;have d:(([]:List dW)++B.af.map (lC ([]:List dW).length none)).length=B.af.length:=by simp
 refine⟨_,rfl,_,H.all,(Fb (k:=k) C.ok.wf _).mono ?_⟩;rintro _ x7 ⟨fc,rfl,lv,G⟩;have t:=C.ym G;have v:=b.ok t.ok;refine⟨_,_,_,rfl,(tf a.wf t b.row lv (by rw[d];omega) (by show bV (B.af.map (lC 0 none))+_+_<=_;omega) m.start m.to).mono ?_⟩;rintro _ x6 ⟨rfl,I,x0⟩;have x8:=oi B.af.length (some (((0:Nat):Int)+B.start)) A.af;obtain⟨Y,u,U,x1⟩:=I.Ns a.wf ((([]++B.af.map (lC ([]:List dW).length none)).length:Int)+A.start);refine⟨_,rfl,nG ⟨_,mg k,_,wJ k,Y,u,⟨v.all,GP b.row⟩,?_⟩⟩;have e:fp A B c=⟨A.kind,(([]++B.af.map (lC ([]:List dW).length none)).length:Int)+A.start,c,[]++B.af.map (lC ([]:List dW).length none)++A.af.map (lC ([]++B.af.map (lC ([]:List dW).length none)).length (some ((([]:List dW).length:Int)+B.start)))⟩:=by
  unfold fp;rw[d];rfl
 rw[e];refine rD w a.wf U ?_ ?_ g s J
 ·rw[length_append,d,lM];omega
 ·rw[d,eA];show bV (B.af.map (lC 0 none))+bV (A.af.map (lC B.af.length (some (((0:Nat):Int)+B.start))))<=_;omega
theorem Fc(w:Wf h)(N:qJ h)(C:Small A)(M:dR h (.slice x y z) A.af):FW SS 33 [.agg ⟨bM A x y z⟩] h (D3 h (GG A)):=by
 obtain⟨Q,j⟩:=fv w M;have p:h.next<=(h.push (Bm A x y z)).next:=j.nx;have H:=(Ok.refl j.wf).push lz;have K:=aN (h.push (Bm A x y z)) lz;have m:=j.trans H;have c:=Q.ok H;refine Vi _ h _ ⟨_,iO A x y z,_,me,_,c.all,(tk (N.ok m) m.wf C c.row).mono ?_⟩;generalize (h.push (Bm A x y z)).next=W at*;generalize (h.push (Bm A x y z)).push lz=g3 at*;rintro _ u ⟨rfl,b⟩;have i:=m.trans b;have a:=c.ok b;have f:=b.ext _ _ K;unfold GG;refine⟨_,rfl,aa (λq=>?_) (λq=>⟨_,dN _,_,a.l0,(oU A.kind b.wf).mono ?_⟩)⟩
 ·rw[not_eq_true']at q;rw[q,if_neg (by simp)];exact ju w i f p _
 rw[not_eq_false']at q;rw[if_pos q];have d:=sc C q;have:=d.n;have:=d.s;rintro _ Z ⟨k,rfl,E⟩;refine⟨_,rfl,nG ⟨_,Cv k,_,E.one,(jv b.wf E (by simp) _).mono ?_⟩⟩;rintro _ X ⟨rfl,r,S⟩;have R:=(Ok.refl r.ok.wf).room 11;have l:=r.ym R;have g:=a.ok l.ok;refine⟨_,rfl,_,oX _,_,g.l2,_,g.all,(Fb (k:=k) l.ok.wf _).mono ?_⟩;rintro _ V ⟨Y,rfl,L,J⟩;have B:=l.ym J;have e:=a.ok B.ok;have O:bV ([]++[(⟨ct A.kind,[]⟩:dW)])=0:=rfl;refine⟨_,_,_,rfl,(tf b.wf B a.row L (by simp;omega) (by rw[O];omega) d.start d.to).mono ?_⟩;rintro _ P ⟨rfl,D,T⟩;have n:=a.ok D.ok;have U:=oi 1 (some ((0:Nat):Int)) A.af;have v:BS u P k A.kind 0 (ct A.kind) (⟨ct A.kind,[]⟩::A.af.map (lC 1 (some ((0:Nat):Int)))):=D;refine⟨_,rfl,(Ef b.wf v (s:=0) (t:=⟨ct A.kind,[]⟩) rfl (by rw[dy];show 0+_<=_;omega) A.lead (((1:Nat):Int)+A.start)).mono ?_⟩;rintro _ G ⟨rfl,F,I⟩;have o:BS u G k A.kind 0 (ct A.kind) (⟨ct A.kind,[⟨0,0,A.lead,((1:Nat):Int)+A.start⟩]⟩::A.af.map (lC 1 (some ((0:Nat):Int)))):=F;refine⟨rfl,⟨e.l2,mD _⟩,⟨n.l2,mD _⟩,⟨e.all,GP a.row⟩,rD w b.wf o (by rw[List.length_cons,lM];omega) (by rw[dy];show 1+_<=_;omega) i f p⟩
theorem RN(w:Wf h)(u:qJ h)(G:Small A)(P:s.length<=1000000000)(Q:dR h (.slice x y z) A.af)(C:db A=true->bq A.kind s=true->cO A.kind s A.lead=some c):FW SS 37 [.agg ⟨bM A x y z⟩,strOf s] h (D3 h (KA A s c)):=by
 obtain⟨T,p⟩:=fv w Q;have r:h.next<=(h.push (Bm A x y z)).next:=p.nx;have K:=(Ok.refl p.wf).push lz;have O:=aN (h.push (Bm A x y z)) lz;have B:=p.trans K;have i:=T.ok K;refine RM _ s h _ ⟨_,iO A x y z,_,me,_,i.all,(tk (u.ok B) B.wf G i.row).mono ?_⟩;generalize (h.push (Bm A x y z)).next=kr at*;generalize (h.push (Bm A x y z)).push lz=g3 at*;rintro _ Y ⟨rfl,l⟩;have g:=B.trans l;have n:=i.ok l;have o:=l.ext _ _ O;unfold KA;refine⟨_,rfl,aa (λq=>?_) (λq=>⟨_,dN _,_,n.l0,(oC A.kind s P (u.ok g) l.wf).mono ?_⟩)⟩
 ·rw[not_eq_true']at q;rw[q,if_neg (by simp)];exact ju w g o r _
 rw[not_eq_false']at q;rintro _ g5 ⟨rfl,a⟩;have f:=g.trans a;have d:=n.ok a;have m:=a.ext _ _ o;refine⟨_,rfl,aa (λb=>?_) (λb=>⟨_,dN _,_,d.l0,(oU A.kind a.wf).mono ?_⟩)⟩
 ·rw[not_eq_true']at b;rw[b,if_neg (by simp)];exact ju w f m r _
 rw[not_eq_false']at b;rw[q,b,if_pos (show(true&&true)=true from rfl)];have C:=C q b;have j:=sc G q;have I:=CE q;have:=j.n;have:=j.s;rintro _ g6 ⟨k,rfl,t⟩;have E:=d.ok t.ok;refine⟨_,rfl,_,oX _,_,E.l2,(H8 a.wf (u.ok f) t (pv b) I.lead C).mono ?_⟩;rintro _ Z ⟨rfl,U⟩;have S:=t.ym U;obtain⟨N,L,F,V⟩:=S.KD a.wf c;have D:=d.ok F.ok;refine⟨_,rfl,nG ⟨_,mg k,_,oX k,N,L,_,D.all,(tf a.wf F d.row (oJ.kL k _) (by simp;omega) (by simp[bV];unfold bV at*;omega) j.start j.to).mono ?_⟩⟩;rintro _ g9 ⟨rfl,R,W⟩;have X:=oi 0 none A.af;obtain⟨H,v,J,M⟩:=R.Ns a.wf ((([]:List dW).length:Int)+A.start);refine⟨_,rfl,nG ⟨_,mg k,_,wJ k,H,v,?_⟩⟩;have e:PE A c=⟨A.kind,(([]:List dW).length:Int)+A.start,c,[]++A.af.map (lC ([]:List dW).length none)⟩:=rfl;rw[e];refine rD w a.wf J ?_ ?_ f m r
 ·rw[length_append,lM];simp;omega
 ·show bV (A.af.map (lC 0 none))<=_;omega
end
end
section
def kf(A:bJ)(n:Int)(m i:Nat):List dW:=(List.range (m+1)).map λ(j:Nat)=>⟨if(j:Int)>=n then ct A.kind else[],if j<i then[⟨0,0,A.lead,((m+1+j*A.af.length:Nat):Int)+A.start⟩]else[]⟩
def ny(A:bJ)(m i:Nat):List dW:=(List.range i).flatMap λ(j:Nat)=>A.af.map (lC (m+1+j*A.af.length) (some ((j+1:Nat):Int)))
def qn(A:bJ)(n:Int)(m:Nat):bJ:=⟨A.kind,0,ct A.kind,kf A n m m++ny A m m⟩
def XV(A:bJ)(n a:Int):bJ×Int:=if db A=true/\0<=n/\n<=a/\a<=30 then(qn A n a.toNat,0)else(zH,1)
section
variable {A:bJ} {n:Int} {m i:Nat}
theorem jN:(kf A n m i).length=m+1:=by unfold kf;simp
theorem vj:ny A m (i+1)=ny A m i++A.af.map (lC (m+1+i*A.af.length) (some ((i+1:Nat):Int))):=by
 unfold ny;rw[range_succ,List.flatMap_append];simp
theorem tw:∀i,(ny A m i).length=i*A.af.length
 |0=>by simp[ny]
 |i+1=>by rw[vj,length_append,tw i,lM,Nat.add_mul,Nat.one_mul]
theorem CL:∀i,bV (ny A m i)<=i*(bV A.af+A.af.length)
 |0=>by simp[ny,bV]
 |i+1=>by
  have:=oi (m+1+i*A.af.length) (some ((i+1:Nat):Int)) A.af;have a:=CL i;rw[vj,eA,Nat.add_mul,Nat.one_mul];omega
theorem GK:∀{l:List dW},(∀s∈l,s.arcs.length<=1)->bV l<=l.length
 |[],_=>Nat.le_refl _
 |s::l,h=>by
  have b:=h s (List.mem_cons_self ..);have:=GK (l:=l) λt a=>h t (List.mem_cons_of_mem _ a);rw[dy,List.length_cons];omega
theorem IP:bV (kf A n m i)<=m+1:=by
 have:=GK (l:=kf A n m i) λs a=>by
  unfold kf at a;obtain⟨j,_,rfl⟩:=mem_map.1 a;show(if j<i then _ else _:List jj).length<=1;split<;>simp
 rw[jN]at this;exact this
theorem Na(a:i<m+1):(kf A n m i)[i]?=some ⟨if(i:Int)>=n then ct A.kind else[],[]⟩:=by
 unfold kf;rw[getElem?_map,getElem?_range a,map_some,if_neg (Nat.lt_irrefl i)]
theorem TR(b:i<m+1):(kf A n m i).set i ⟨if(i:Int)>=n then ct A.kind else[],[⟨0,0,A.lead,((m+1+i*A.af.length:Nat):Int)+A.start⟩]⟩=kf A n m (i+1):=by
 have a:∀i j,(kf A n m i)[j]?=if j<m+1 then some ⟨if(j:Int)>=n then ct A.kind else[],if j<i then[⟨0,0,A.lead,((m+1+j*A.af.length:Nat):Int)+A.start⟩]else[]⟩else none:=λi j=>by
  unfold kf;rw[getElem?_map];split
  ·next h=>rw[getElem?_range h];rfl
  ·next h=>rw[List.getElem?_eq_none (by simp;omega)];rfl
 refine List.ext_getElem? λj=>?_;rw[List.getElem?_set,a,a,jN];by_cases e:i=j
 ·subst e;rw[if_pos rfl,if_pos b,if_pos b,if_pos (lt_succ_self i)]
 ·rw[if_neg e];by_cases q:j<i
  ·rw[if_pos q,if_pos (show j<i+1 by omega)]
  ·rw[if_neg q,if_neg (show ¬j<i+1 by omega)]
theorem ud{x:Option Addr}{z:Nat}{d:Int}(w:Wf h)(tb:qJ h)(W:Small A)(h8:A.af.length<=8)(x9:bV A.af<=40)(ra:dR h (.slice x l z) A.af):FW SS 35 [.agg ⟨bM A x l z⟩,.int .i64 n,.int .i64 d] h (D3 h (XV A n d)):=by
 obtain⟨ma,L⟩:=fv w ra;have B:h.next<=(h.push (Bm A x l z)).next:=L.nx;have Y:=(Ok.refl L.wf).push lz;have kb:=aN (h.push (Bm A x l z)) lz;have P:=L.trans Y;have E:=ma.ok Y;refine Oz _ n d h _ ⟨_,iO A x l z,_,me,_,E.all,(tk (tb.ok P) P.wf W E.row).mono ?_⟩;generalize (h.push (Bm A x l z)).next=V at*;generalize (h.push (Bm A x l z)).push lz=g3 at*;rintro _ S ⟨rfl,r⟩;have t:=P.trans r;have a:=E.ok r;have s:=r.ext _ _ kb;unfold XV;refine⟨_,rfl,aa (λq=>?_) (λq=>aa (λG=>?_) (λG=>aa (λF=>?_) (λF=>aa (λH=>?_) (λH=>?_))))⟩
 ·rw[not_eq_true']at q;rw[if_neg (λc=>by rw[c.1]at q;cases q)];exact ju w t s B _
 ·rw[if_neg (λc=>by have:=dT G;omega)];exact ju w t s B _
 ·rw[if_neg (λc=>by have:=dT F;omega)];exact ju w t s B _
 ·rw[if_neg (λc=>by have:=dT H;omega)];exact ju w t s B _
 rw[not_eq_false']at q;have G:=dF G;have F:=dF F;have H:=dF H;rw[if_pos ⟨q,by omega,by omega,by omega⟩];have T:=sc W q;obtain⟨m,hm,x0⟩:∃m:Nat,d=m/\m<=30:=⟨d.toNat,by omega,by omega⟩
 subst hm;have em:((m:Int)).toNat=m:=by omega
 rw[em];refine⟨_,dN _,_,a.l0,(oU A.kind r.wf).mono ?_⟩;rintro _ g5 ⟨k,rfl,b5⟩;rw[NQ m (by omega)];refine⟨_,rfl,?_⟩;refine zY (bM A x l z) n m h.next V k ((m+1:Nat):Int) (λy i g=>i<=m+1/\y=m+1-i/\BS S g k A.kind 0 (ct A.kind) ((List.range i).map λ(j:Nat)=>⟨if(j:Int)>=n then ct A.kind else[],[]⟩)) _ (λy i=>?_) (m+1) (i:=0) ⟨by omega,rfl,b5⟩;intros;rename_i g v;obtain⟨f1,f2,b⟩:=v;refine aa (λp=>?_) (λp=>?_)
 ·have u:i<m+1:=by have:=dT p;omega
  have X:∀f:List UInt8,f=(if(i:Int)>=n then ct A.kind else[])->((List.range i).map λ(j:Nat)=>(⟨if(j:Int)>=n then ct A.kind else[],[]⟩:dW))++[⟨f,[]⟩]=(List.range (i+1)).map λ(j:Nat)=>(⟨if(j:Int)>=n then ct A.kind else[],[]⟩:dW):=λf hf=>by
   rw[range_succ,map_append,hf];rfl
  have J:((List.range i).map λ(j:Nat)=>(⟨if(j:Int)>=n then ct A.kind else[],[]⟩:dW)).length<=100000:=by simp;omega
  rw[bg u (by omega)];refine aa (λM=>⟨_,Cv k,_,b.one,(jv r.wf b J _).mono ?_⟩) (λM=>(jv r.wf b J _).mono ?_)
  ·rintro _ g6 ⟨rfl,C,_⟩;rw[X _ (by rw[if_pos (dT M)])]at C;exact⟨_,rfl,cz (m+1-(i+1)) (by omega) ⟨by omega,rfl,C⟩⟩
  ·rintro _ g6 ⟨rfl,C,_⟩;rw[X _ (by rw[if_neg (dF M)])]at C;exact⟨_,rfl,cz (m+1-(i+1)) (by omega) ⟨by omega,rfl,C⟩⟩
 have u:i=m+1:=by have:=dF p;omega
 subst u;have e0:((List.range (m+1)).map λ(j:Nat)=>(⟨if(j:Int)>=n then ct A.kind else[],[]⟩:dW))=kf A n m 0++ny A m 0:=by
  have:ny A m 0=[]:=rfl;rw[this,append_nil];unfold kf;refine List.map_congr_left λj _=>?_;rw[if_neg (Nat.not_lt_zero j)]
 rw[e0]at b;have x8:=a.ok b.ok;refine zZ (bM A x l z) n m h.next V k (λy i g=>i<=m/\y=m-i/\BS S g k A.kind 0 (ct A.kind) (kf A n m i++ny A m i)) _ (λy i=>?_) m (i:=0) ⟨by omega,rfl,b⟩;intros;rename_i g1 v;obtain⟨d1,d2,O⟩:=v;have o:(kf A n m i++ny A m i).length=m+1+i*A.af.length:=by rw[length_append,jN,tw]
 have x3:=CL (A:=A) (m:=m) i;have x2:=IP (A:=A) (n:=n) (m:=m) (i:=i);have x4:i*A.af.length<=30*8:=mul_le_mul (by omega) h8;have x1:i*(bV A.af+A.af.length)<=30*48:=mul_le_mul (by omega) (by omega);refine aa (λp=>?_) (λp=>?_)
 ·have u:i<m:=by have:=dT p;omega
  have or:=(Ok.refl O.ok.wf).room 12;have Q:=O.ym or;have D:=a.ok Q.ok;rw[bg u (by omega)];refine⟨_,oX _,_,D.l2,_,D.all,(Fb (k:=k) Q.ok.wf _).mono ?_⟩;rintro _ g8 ⟨fc,rfl,lv,o8⟩;have U:=Q.ym o8;have I:=a.ok U.ok;refine⟨_,_,_,rfl,(tf r.wf U a.row lv (by rw[o];omega) (by rw[eA];omega) T.start T.to).mono ?_⟩;rintro _ g9 ⟨rfl,N,x5⟩;have R:=a.ok N.ok;rw[o]at N;have hs:(kf A n m i++ny A m i++A.af.map (lC (m+1+i*A.af.length) (some ((i+1:Nat):Int))))[i]?=some (⟨if(i:Int)>=n then ct A.kind else[],[]⟩:dW):=by
   rw[append_assoc,List.getElem?_append_left (by rw[jN];omega)];exact Na (by omega)
  have x6:=oi (m+1+i*A.af.length) (some ((i+1:Nat):Int)) A.af;rw[o];refine⟨_,rfl,(Ef r.wf N hs (by rw[eA,eA];omega) A.lead _).mono ?_⟩;rintro _ x7 ⟨rfl,K,Z⟩;have e:(kf A n m i++ny A m i++A.af.map (lC (m+1+i*A.af.length) (some ((i+1:Nat):Int)))).set i (⟨if(i:Int)>=n then ct A.kind else[],[]++[⟨0,0,A.lead,((m+1+i*A.af.length:Nat):Int)+A.start⟩]⟩:dW)=kf A n m (i+1)++ny A m (i+1):=by
   rw[append_assoc,List.set_append_left _ _ (by rw[jN];omega),vj,<-TR (show i<m+1 by omega)];rfl
  rw[e]at K;exact⟨rfl,⟨I.l2,mD _⟩,⟨R.l2,mD _⟩,⟨I.all,GP a.row⟩,cz (m-(i+1)) (by omega) ⟨by omega,rfl,K⟩⟩
 ·have u:i=m:=by have:=dF p;omega
  subst u;exact rD w r.wf O (by rw[o];omega) (by rw[eA];omega) t s B
end
end
variable{w:Value}{Q:VH}
noncomputable def aej:FD:=dq Tryz.f54 []
theorem ab2(a:OA)(n c:Nat)(h:ae)(Q:VH)(b:xN (fu SS.P 22 (.slice a n c)) h λ_ a=>Q (.func (.func 82) ⟨[]⟩ ⟨[(pA (h.next))]⟩) a):FW SS 54 [(.slice a n c)] h Q:=du aej Tryz.func54 (ai b)
noncomputable def Ar:FD:=dq Tryz.f82 [([1,0,0],[0,5,6,7])]
abbrev vy(b:Nat)(a:OA)(n c:Nat)(i:Nat):LV:=[(.func (.yield b) ⟨[]⟩ ⟨[]⟩),(.slice a n c),(iA n),(iA i)]
theorem abY(e d:Nat)(h:ae)(Q:VH)(f:xL (aj SS.P 22 h (pA d)) λa b c=>LL SS Ar [1,0,0] [(.func (.yield e) ⟨[]⟩ ⟨[]⟩),(.slice a b c),(iA b),(.int .i64 0)] h (KK SS Ar [1,0] [] (EE SS Ar Q))):FW SS 82 [(.func (.yield e) ⟨[]⟩ ⟨[]⟩),(pA d)] h Q:=du Ar Tryz.func82 (ai f)
theorem D7(l p:Nat)(a:OA)(n c:Nat)(k:Nat->Nat->ae->Prop)(Q:VH)(step:∀(j:Nat) (i:Nat) (o:Nat->Value) (h:ae),k j i h->au (decide (((i:Int):Int)<(n:Int))) (iP 22 (.slice a n c) (iA i) λg=>lI h g λf=>FW SS (YB+l) [(.int .i64 f)] h λd e=>yB d λb=>au (!b) (Q (.tuple ⟨[]⟩) e) (aM (gp (vy l a n c) k) j [(.func (.yield l) ⟨[]⟩ ⟨[]⟩),(.slice a n c),(iA n),(.int .i64 (wrap .i64 ((i:Int)+1)))] e)) (Q (.tuple ⟨[]⟩) h))(j:Nat){i:Nat}{h:ae}(m:k j i h):LL SS Ar [1,0,0] (vy l a n c i) h (KK SS Ar [1,0] [] (EE SS Ar Q)):=
 dJ (vy l a n c) k (λj i o h m=>ai (step j i o h m)) j m
noncomputable def ig:FD:=dq Tryz.f99 []
theorem RH(a:OA)(n c:Nat)(d:Nat)(h:ae)(Q:VH)(e:xN (fu SS.P 22 (.slice a n c)) h λ_ b=>RG SS ig [1,0,1,0] [(.slice a n c),(.func (.func 82) ⟨[]⟩ ⟨[(pA d)]⟩),(pA (h.next)),undef,nA,undef,(.func (.func 82) ⟨[]⟩ ⟨[(pA d)]⟩),undef,undef,undef,undef,undef,undef] b (KK SS ig [1,0,1,0] [] (EE SS ig Q))):FW SS 99 [(.slice a n c),(.func (.func 82) ⟨[]⟩ ⟨[(pA d)]⟩)] h Q:=du ig Tryz.func99 (ai e)
theorem Hq{ks:Nat}{o m g i l j n e f d:Value}(k:xL (aj SS.P 22 h (pA ks)) λa b c=>Q (.slice a b c) h):(KK SS ig [1,0,1,0] [] (EE SS ig Q)) .normal [v,w,(pA ks),o,m,g,i,l,j,n,e,f,d] h:=ai k
theorem Ho{ks:Nat}{q:Int}{i f j d e g b c a:Value}{Q:fB}(k:Q .normal [v,w,(pA ks),i,f,(.int .i64 q),d,(.int .i64 q),e,g,b,c,a] h):TT SS ig [1,0,1,0,0] [v,w,(pA ks),i,f,j,d,(.int .i64 q),e,g,b,c,a] h Q:=ai k
theorem Hp{ks:Nat}{q:Int}{t p n o u y r s m:Value}{Q:fB}(x:xL (aj SS.P 22 h (pA ks)) λj k l=>xR (aJ SS.P 22 1 [(0,(.int .i64 q))]) h λ_ f g i=>xE (bR SS.P 22 22 (.slice j k l) (sA (h.next) f g) i) i λb c d _ e=>xU (ah SS.P 22 (pA ks) (.slice b c d) e) e λ_ a=>Q .normal [v,w,(pA ks),t,p,(.int .i64 q),n,o,(.slice j k l),(.int .i64 q),(sA (h.next) f g),(.slice b c d),m] a):TT SS ig [1,0,1,0,1] [v,w,(pA ks),t,p,(.int .i64 q),n,o,u,y,r,s,m] h Q:=ai x
noncomputable def adw:FD:=dq Tryz.f80 []
theorem aaB(f:Nat)(h:ae)(Q:VH)(g:FW SS 99 [nA,(.func (.func 82) ⟨[]⟩ ⟨[(pA f)]⟩)] h λd e=>yL d λa b c=>Q (.slice a b c) e):FW SS 80 [(.func (.func 82) ⟨[]⟩ ⟨[(pA f)]⟩)] h Q:=du adw Tryz.func80 (ai g)
noncomputable def abM:FD:=dq Tryz.f53 []
theorem Yw(i:Nat)(h:ae)(Q:VH)(j:FW SS 80 [(.func (.func 82) ⟨[]⟩ ⟨[(pA i)]⟩)] h λf g=>yL f λc d e=>FW SS 81 [(.slice c d e)] g λa b=>a=(.tuple ⟨[]⟩)/\Q (.slice c d e) b):FW SS 53 [(.func (.func 82) ⟨[]⟩ ⟨[(pA i)]⟩)] h Q:=du abM Tryz.func53 (ai j)
noncomputable def hI:FD:=dq Tryz.f52 [([1,1,0,1,0,0],[0,3]),([1,1,0,1,0,0,1,0,0,1,0,1,0,1,0,0],[0,3,4,5])]
abbrev jK(a:OA)(n c:Nat)(k:Nat):LV:=[(.slice a n c),(iA k)]
abbrev mr(a:OA)(n c:Nat)(b:OA)(m d:Nat)(k j:Nat):LV:=[(.slice a n c),(iA k),(.slice b m d),(iA j)]
theorem LR(a:OA)(n c:Nat)(h:ae)(Q:VH)(b:au (decide (((n:Int):Int)<2)) (Q (.slice a n c) h) (LL SS hI [1,1,0,1,0,0] (jK a n c 1) h (KK SS hI [1,1,0,1,0] [] (EE SS hI Q)))):FW SS 52 [(.slice a n c)] h Q:=du hI Tryz.func52 (ai b)
theorem Cr(a:OA)(n c:Nat)  (l:Nat->Nat->ae->Prop) (Q:VH) (step:∀(m:Nat)(k:Nat)(p:Nat->Value)(h:ae),l m k h->au (decide (((k:Int):Int)<(n:Int))) (iP 22 (.slice a n c) (iA k) λj=>lI (room h 10) j λi=>iP 22 (.slice a n c) (.int .i64 (wrap .i64 ((k:Int)-1))) λg=>lI (room h 10) g λf=>au (((i:Int)==f)) (xL (cg SS.P 22 (.slice a n c) (some (iA k)) none none (room h 10)) λb d e=>LL SS hI [1,1,0,1,0,0,1,0,0,1,0,1,0,1,0,0] (mr a n c b d e k 1) (room h 10) (KK SS hI [1,0,0,1,0,1,0,1,0] [1,1,0,1,0,0] (RR hI [1,1,0,1,0,0] (gp (jK a n c) l) m (KK SS hI [1,1,0,1,0] [] (EE SS hI Q))))) (aM (gp (jK a n c) l) m [(.slice a n c),(.int .i64 (wrap .i64 ((k:Int)+1)))] (room h 10))) (Q (.slice a n c) h)) (m:Nat) {k:Nat} {h:ae} (o:l m k h):LL SS hI [1,1,0,1,0,0] (jK a n c k) h (KK SS hI [1,1,0,1,0] [] (EE SS hI Q)):=
 dJ (jK a n c) l (λm k p h o=>ai (step m k p h o)) m o
theorem Cs(a:OA)(n c:Nat)(t:OA)(m d:Nat)(v:Nat->Nat->ae->Prop)(w:Nat)(s:Nat->Nat->Nat->ae->Prop)(Q:VH)(step:∀(r:Nat) (k j:Nat) (q:Nat->Value) (h:ae),s r k j h->au (decide (((j:Int):Int)<(m:Int))) (iP 22 (.slice t m d) (iA j) λp=>lI (room h 10) p λo=>iP 22 (.slice t m d) (.int .i64 (wrap .i64 ((j:Int)-1))) λl=>lI (room h 10) l λi=>au (((o:Int) !=i)) (iP 22 (.slice t m d) (iA j) λg=>lI (room h 10) g λf=>iP 22 (.slice a n c) (iA k) λe=>xU (ah SS.P 3 (.pointer (some e)) (.int .i64 f) (room h 10)) (room h 10) λ_ b=>aM (tE (mr a n c t m d) s) r [(.slice a n c),(.int .i64 (wrap .i64 ((k:Int)+1))),(.slice t m d),(.int .i64 (wrap .i64 ((j:Int)+1)))] b) (aM (tE (mr a n c t m d) s) r [(.slice a n c),(iA k),(.slice t m d),(.int .i64 (wrap .i64 ((j:Int)+1)))] (room h 10))) (xL (cg SS.P 22 (.slice a n c) (some (iA k)) none none h) λe f g=>xG (eH SS.P kn (ev SS.gl [(.slice a n c),(q 1),(q 2),(iA k),(.slice t m d),(iA j),(q 6),(q 7),(q 8),(q 9),(q 10),(q 11),(q 12),(q 13),(q 14),(q 15),(q 16),(q 17),(q 18),(q 19),(q 20),(q 21),(q 22),(q 23),(q 24),(q 25),(q 26),(q 27),(q 28),(iA j),(.slice t m d),(iA m),(.bool (decide (((j:Int):Int)<(m:Int)))),(q 33),(q 34),(q 35),(q 36),(q 37),(q 38),(q 39),(q 40),(q 41),(q 42),(q 43),(q 44),(q 45),(q 46),(q 47),(q 48),(q 49),(q 50),(q 51),(q 52),(q 53),(.slice a n c),(iA k),(.slice e f g),(q 57),(q 58),(q 59),(q 60)]) (M9 (gP [1,1,0,1,0,0,1,0,0,1,0,1,1,0] hI.body) 3) h) h λ_ _ d=>xL (cg SS.P 22 (.slice a n c) none (some (iA k)) none d) λa b c=>Q (.slice a b c) d))(r:Nat){k j:Nat}{h:ae}(u:s r k j h):LL SS hI [1,1,0,1,0,0,1,0,0,1,0,1,0,1,0,0] (mr a n c t m d k j) h (KK SS hI [1,0,0,1,0,1,0,1,0] [1,1,0,1,0,0] (RR hI [1,1,0,1,0,0] (gp (jK a n c) v) w (KK SS hI [1,1,0,1,0] [] (EE SS hI Q)))):=
 pU (mr a n c t m d) s (λr k j q h u=>ai (step r k j q h u)) r u
noncomputable def zX:FD:=dq Tryz.f21 [([1,1,1,1,0,1,0,0],[4,6,7,8,35,36,37])]
abbrev ub(a k f t:Nat)(b:OA)(m d:Nat)(i:Nat):LV:=[(pA a),(pA k),(iA f),(iA t),(.slice b m d),(iA m),(iA i)]
theorem aak(A:Int)(a:OA)(n c:Nat)(h:ae)(Q:VH)(G:xN (av SS.P 29) h λ_ B=>au (decide ((A:Int)<1)) (xA (bu SS.P 29 []) λb=>xU (ah SS.P 29 (pA (h.next)) (.agg ⟨b⟩) B) B λ_ a=>eK SS [((pA (h.next)),some 29),((.int .i64 1),none)] a Q) (au (decide ((A:Int)>3)) (xA (bu SS.P 29 []) λb=>xU (ah SS.P 29 (pA (h.next)) (.agg ⟨b⟩) B) B λ_ a=>eK SS [((pA (h.next)),some 29),((.int .i64 1),none)] a Q) (FW SS 49 [(.slice a n c),(.func (.func 50) ⟨[]⟩ ⟨[]⟩)] B λH C=>yB H λE=>au E (xA (bu SS.P 29 []) λb=>xU (ah SS.P 29 (pA (h.next)) (.agg ⟨b⟩) C) C λ_ a=>eK SS [((pA (h.next)),some 29),((.int .i64 1),none)] a Q) (FW SS 42 [(.int .i64 A)] C λF D=>yO F λz=>FW SS 43 [(.pointer z),(strOf [])] (room D 10) λx y=>yI .i64 x λw=>KY SS.P z y λv _=>fP 65 v 1 λu=>lS y u λt=>FW SS 43 [(.pointer z),(strOf t)] y λr s=>yI .i64 r λq=>(aj SS.P 9 (room D 10) (.pointer (some u))=some (strOf t)/\dV 4 (strOf t) (strOf t)=true)/\FW SS 54 [(.slice a n c)] s λo p=>yF o λl m n=>FW SS 53 [(.func (.func l) ⟨m⟩ ⟨n⟩)] p λj k=>yL j λf g i=>FW SS 52 [(.slice f g i)] k λd e=>yL d λa b c=>LL SS zX [1,1,1,1,0,1,0,0] [(pA (h.next)),(.pointer z),(.int .i64 w),(.int .i64 q),(.slice a b c),(iA b),(.int .i64 0)] e (KK SS zX [1,1,1,1,0,1,0] [] (EE SS zX Q)))))):FW SS 21 [(.int .i64 A),(.slice a n c)] h Q:=du zX Tryz.func21 (ai G)
theorem DU(u:Int)(a:OA)(n c:Nat)(q k f t:Nat)(b:OA)(m d:Nat)(p:Nat->Nat->ae->Prop)(Q:VH)(step:∀(o:Nat) (i:Nat) (s:Nat->Value) (h:ae),p o i h->au (decide (((i:Int):Int)<(m:Int))) (iP 22 (.slice b m d) (iA i) λn=>lI h n λl=>fP 65 (pA k) 1 λj=>lS h j λg=>xA (bu SS.P 70 [(0,(.int .i64 l)),(1,(.int .i64 l)),(2,(strOf g)),(3,(iA t))]) λe=>FW SS 44 [(pA k),(iA f),(.agg ⟨e⟩)] h λa c=>a=(.tuple ⟨[]⟩)/\aM (gp (ub q k f t b m d) p) o [(pA q),(pA k),(iA f),(iA t),(.slice b m d),(iA m),(.int .i64 (wrap .i64 ((i:Int)+1)))] c) (FW SS 46 [(pA k)] h λd e=>∃c:LV,∃b:Int,d=(.tuple ⟨[(.agg ⟨c⟩),(.int .i64 b)]⟩)/\xU (ah SS.P 29 (pA q) (.agg ⟨c⟩) e) e λ_ a=>eK SS [((pA q),some 29),((.int .i64 b),none)] a Q))(o:Nat){i:Nat}{h:ae}(r:p o i h):LL SS zX [1,1,1,1,0,1,0,0] (ub q k f t b m d i) h (KK SS zX [1,1,1,1,0,1,0] [] (EE SS zX Q)):=
 dJ (ub q k f t b m d) p (λo i s h r=>ai (step o i s h r)) o r
section
def sV(z:Int):List Value:=[zV z]
theorem tj:∀l:List Int,(l.map sV).flatten=l.map zV
 |[]=>rfl
 |z::l=>by rw[List.map_cons,List.flatten_cons,tj l];rfl
theorem Wn{l:List Int}:∀r∈l.map sV,r.length=1:=λr a=>by
 obtain⟨z,_,rfl⟩:=mem_map.1 a;rfl
theorem adQ{g:ae}{l:List Int}(o:gh g h 3 1 v (l.map sV)):Rd h 3 v (A2 l):=(by
 obtain⟨_,⟨a,d⟩|⟨k,b,cs,c,a,d,f,e,j,i⟩⟩:=o
 ·left;refine⟨a,?_⟩;have:l=[]:=by simpa using d
  rw[this];rfl
 ·rw[lM,Nat.mul_one,tj]at e;rw[lM]at a;exact .inr ⟨k,b,cs,c,true,by grind[kK],f,by rw[kK];exact e⟩)
theorem ahn:eI SS.P 22=true:=by rfl
theorem acw(a:Option Addr)(n c:Nat):fu SS.P 22 (.slice a n c)=some (.cells [.slice a n c] 22 0 true,np):=by rfl
theorem ac4:Go.Ab.isAgg SS.P 22=false:=by rfl
theorem afJ:SS.pr 81=some Gw:=by rfl
theorem Ig:∀l:List Int,OG (l.map zV)=some l
 |[]=>rfl
 |z::l=>by
  show(OG (l.map zV)).map (z::·)=_;rw[Ig l];rfl
theorem aer:oG []=[]:=by unfold oG;simp
theorem Wo{hb g:ae}(w:Wf hb)(h:Ok hb g){x:Value}{l:List Int}(f:gh hb g 3 1 x (l.map sV)){q:Int}{e:Nat}(d:g.get e=some (.cells [.int .i64 q] 3 1 true))(m:l.length<=100000):
  ∃(b:Option Addr)(n c:Nat)(u:eu),bR SS.P 22 22 x (.slice (some ⟨e,0,none⟩) 1 1) g=some (.slice b n c,u)/\gh hb (u.app g) 3 1 (.slice b n c) ((l++[q]).map sV)/\Ok hb (u.app g)/\
   (∀j B,g.get j=some B->fN x≠some j->(u.app g).get j=some B)/\(∀j,fN (.slice b n c)=some j->g.next<=j\/fN x=some j)/\g.next<=(u.app g).next:=by
 have a:(l.map sV).length=l.length:=lM ..;obtain⟨b,n,c,u,o,p,k,s⟩:=gh.add xz XN M4 ahn w h f (ns:=[sV q]) (Ez (cs:=sV q) d rfl) (λr i=>by rw[mem_singleton.1 i];rfl) rfl (by rw[II,a,List.length_singleton];omega) (by rw[a,List.length_singleton];omega) (.inl (Nat.le_refl _))
 grind
theorem Ua{g:ae}(u:Wf g)(n:Ok g h){v:Value}{l:List Int}(o:gh g h 3 1 v (l.map sV))(x:l.length<=100000):FW SS 81 [v] h (λr i=>r = .tuple ⟨[]⟩/\gh g i 3 1 v ((oG l).map sV)/\Ok g i):=by
 have d:(l.map sV).length=l.length:=lM ..;have j:(oG l).length=l.length:=List.length_mergeSort l;by_cases e:l.length=0
 ·obtain rfl:=List.eq_nil_of_length_eq_zero e;obtain⟨a,c,rfl⟩:=o.ZN;refine Ek (h':=h) (v:= .tuple ⟨[]⟩) (by rfl) afJ (λA=>?_) ⟨rfl,by grind,n⟩;rfl
 ·obtain⟨D,⟨_,z⟩|⟨k,b,cs,c,rfl,q,p,m,B,s⟩⟩:=o
  ·exact absurd (by rw[<-d,z];rfl) e
  rw[d]at m s;rw[Nat.mul_one,tj]at m;rw[Nat.mul_one]at B;have f:((oG l).map sV).length=l.length:=by rw[lM,j]
  have C:((oG l).map zV).length=l.length:=by rw[lM,j]
  refine Ek (h':=h.set k (.cells (cs.take b++(oG l).map zV++cs.drop (b+l.length)) 3 1 true)) (v:= .tuple ⟨[]⟩) (by kernel_rfl) afJ (λA=>?_) ⟨rfl,⟨Wn,.inr ⟨k,b,_,c,by rw[d,f],q,by rw[ae.ay,if_pos rfl],?_,?_,by rw[f];exact s⟩⟩,n.set _ q (n.wf _ _ p) u⟩
  ·rw[d];show(if l.length=0 then some (Value.tuple ⟨[]⟩,h)else match h.get k with
    |some (.cells cs t w true)=>if l.length<4611686018427387904/\b+l.length<=cs.length then(OG ((cs.drop b).take l.length)).map λy=>(Value.tuple ⟨[]⟩,h.set k (.cells (cs.take b++(oG y).map zV++cs.drop (b+l.length)) t w true))else none
    |_=>none)=_
   rw[if_neg e,p];dsimp only;rw[if_pos (⟨Nat.lt_of_le_of_lt x (by decide),by omega⟩:l.length<4611686018427387904/\b+l.length<=cs.length),m,Ig];rfl
  ·rw[f,Nat.mul_one,tj,append_assoc,List.drop_append,drop_eq_nil_of_le (by rw[length_take];omega),List.nil_append,show b-(cs.take b).length=0 by rw[length_take];omega,drop_zero,List.take_append_of_le_length (by omega),take_of_length_le (by omega)]
  grind[length_drop]
theorem Ok.del{b:ae}(a:Ok b h){k:Nat}(f:b.next<=k)(d:Wf b):Ok b (h.del k):=by
 refine⟨ae.KT a.wf k,λj B c=>?_,a.nx⟩;rw[ae.eD,if_neg (λe=>by have:=d _ _ c;omega)];exact a.ext _ _ c
abbrev T4(kc:Nat):Value:= .func (.func 82) ⟨[]⟩ ⟨[pA kc]⟩
abbrev tmA(ks kc:Nat):List Value:=[nA,T4 kc,pA ks,undef,nA,undef,T4 kc,undef,undef,undef,undef,undef,undef]
theorem hcA:uD (gP [1,0,1,0,0] ig.body) (gP [1,0,1,0,1] ig.body)=true:=by rfl
noncomputable def Qj(a:LSt)(ks kc:Nat):eB:= .loop a (tmA ks kc) [7] (gP [1,0,1,0,0] ig.body) (gP [1,0,1,0,1] ig.body) hcA
structure YI(hb g:ae)(ks ky kc:Nat)(l:List Int):Prop where
 ok:Ok hb g
 box:∃a n c,g.get ks=some (.cells [.slice a n c] 22 0 true)/\gh hb g 3 1 (.slice a n c) (l.map sV)/\∀j,fN (.slice a n c)=some j->j≠ks/\j≠ky
 lp:g.get ky=some (Qj .ready ks kc)
 gs:hb.next<=ks
 gy:hb.next<=ky
 ne:ks≠ky
section
variable {hb g:ae} {ks ky kc:Nat} {l:List Int}
theorem ZG(w:Wf hb)(T:YI hb g ks ky kc l)(q:Int)(S:l.length<=100000):FW SS (YB+ky) [.int .i64 q] g (λv Q=>v = .bool true/\YI hb Q ks ky kc (l++[q])):=by
 obtain⟨J,⟨a,n,c,K,R,I⟩,G,L,C,H⟩:=T;refine ZE (X:=ig) (p:=[1,0,1,0]) (hc:=hcA) G rfl rfl (by rfl) (by rfl) ?_;have x1:=J.wf _ _ K;have x3:=J.wf _ _ G;refine Ho (ks:=ks) (q:=q) ?_;refine⟨rfl,G,?_⟩;have f:∀j B,j≠ky->g.get j=some B->(g.set ky (Qj .busy ks kc)).get j=some B:=λj B b D=>by rw[ae.ay,if_neg b];omega
 have y:Ok hb (g.set ky (Qj .busy ks kc)):=J.set _ C (by omega) w;have z:=f ks _ H K;have O:(g.set ky (Qj .busy ks kc)).get ky=some (Qj .busy ks kc):=by rw[ae.ay,if_pos rfl]
 have P:=R.kL (h':=g.set ky (Qj .busy ks kc)) λj B b D=>f j B (I j b).2 D;have x0:(g.set ky (Qj .busy ks kc)).next=g.next:=rfl;show TT SS ig [1,0,1,0,1] _ (g.set ky (Qj .busy ks kc)) _;generalize g.set ky (Qj .busy ks kc)=d at*;have s:=(Ok.refl y.wf).push (.cells [.int .i64 q] 3 1 true);have Y:=aN d (.cells [.int .i64 q] 3 1 true);obtain⟨r,o,m,N,U,M,h,x,x4,Z⟩:=Wo w (y.trans s) (P.ok s) Y S;have A:=x ks _ (s.ext _ _ z) (λe=>(I ks e).1 rfl);have u:=x ky _ (s.ext _ _ O) (λe=>(I ky e).2 rfl);have x2:(d.push (.cells [.int .i64 q] 3 1 true)).next=d.next+1:=rfl;have V:=ll (t:=22) (i:=0) ahl A (by simp) (v:= .slice r o m) (by rfl) (by rfl);have W:aj SS.P 22 d (pA ks)=some (.slice a n c):=dp xz ac4 z (by simp);refine Hp (ks:=ks) (q:=q) ⟨a,n,c,W,_,_,_,R6 q,r,o,m,N,U,_,V,?_⟩;generalize N.app (d.push (.cells [.int .i64 q] 3 1 true))=g4 at*;dsimp only[eu.app];refine⟨?_,true,.ready,rfl,rfl,?_⟩
 ·rw[ae.ay,if_neg (Ne.symm H)];exact u
 have k:∀j,fN (.slice r o m)=some j->j≠ks/\j≠ky:=λj b=>by grind
 have F:=h.wf _ _ A;have E:=h.wf _ _ u;refine⟨(h.set _ L F w).set _ C E w,⟨r,o,m,?_,M.kL λj B b D=>?_,k⟩,?_,L,C,H⟩
 ·simp_all[ae.ay]
 ·rw[ae.ay,if_neg (k j b).2,ae.ay,if_neg (k j b).1];omega
 ·show(ae.set _ ky (Qj .ready ks kc)).get ky=_;rw[ae.ay,if_pos rfl]
theorem abZ{c:Nat}{L:List Int}(w:Wf hb)(b:YI hb g ks ky kc [])(t:hb.get kc=some (.cells [.slice a n c] 22 0 true))(r:dz hb (.slice a n c) L)(u:L.length<=100000):FW SS 82 [.func (.yield ky) ⟨[]⟩ ⟨[]⟩,pA kc] g (λ_ l=>YI hb l ks ky kc L):=by
 obtain rfl:=dz.len r;have k:aj SS.P 22 g (pA kc)=some (.slice a L.length c):=dp xz ac4 (b.ok.ext _ _ t) (by simp);refine abY ky kc g _ ⟨a,L.length,c,k,?_⟩;refine D7 ky kc a L.length c (λh i g=>i<=L.length/\h=L.length-i/\YI hb g ks ky kc (L.take i)) _ (λh i=>?_) L.length (i:=0) ⟨Nat.zero_le _,rfl,by simpa using b⟩;clear k b;intros;rename_i v f;obtain⟨y,rfl,b⟩:=f;refine aa (λq=>?_) (λq=>?_)
 ·have j:i<L.length:=by have:=dT q;omega
  obtain⟨p,s,m⟩:=dz.at_ (dz.ok r b.ok) j;refine⟨_,s,_,m,(ZG w b _ (by rw[length_take];omega)).mono ?_⟩;rintro _ x ⟨rfl,o⟩;refine⟨_,rfl,aa (λe=>by cases e) (λ_=>?_)⟩;rw[bg (n:=L.length) (by omega) (by omega)];refine cz (L.length-(i+1)) (by omega) ⟨by omega,rfl,?_⟩;rw[lU (d:=0) j];exact o
 grind
theorem RI{c:Nat}(w:Wf h)(q:h.get kc=some (.cells [.slice a n c] 22 0 true))(r:dz h (.slice a n c) p)(x:p.length<=100000):FW SS 99 [nA,T4 kc] h (λv l=>gh h l 3 1 v (p.map sV)/\Ok h l):=by
 refine RH none 0 0 kc h _ ⟨_,acw none 0 0,?_⟩;have i:=(Ok.refl w).push (.cells [nA] 22 0 true);have A:=aN h (.cells [nA] 22 0 true);have I:(h.push (.cells [nA] 22 0 true)).next=h.next+1:=rfl;generalize h.push (.cells [nA] 22 0 true)=b at*;refine afM (f:= .tmp 6) (ps:= #[7]) (g:=82) (first:=[]) (cap:=[pA kc]) (hc:=hcA) (by rfl) rfl rfl ⟨by grind[YB],by rfl⟩ ?_;show FW SS 82 [.func (.yield b.next) ⟨[]⟩ ⟨[]⟩,pA kc] (b.push (Qj .ready h.next kc)) _;have o:=(Ok.refl i.wf).push (Qj .ready h.next kc);have t:=aN b (Qj .ready h.next kc);have z:YI h (b.push (Qj .ready h.next kc)) h.next b.next kc []:=⟨i.trans o,⟨none,0,0,o.ext _ _ A,gh.nil _ _ _ _,λj e=>by cases e⟩,t,Nat.le_refl _,by omega,by omega⟩
 refine(abZ w z q r x).mono ?_;rintro v d ⟨H,⟨a,n,c,y,u,E⟩,C,K,s,D⟩;refine⟨.normal,by rw[C];rfl,?_⟩;have m:Ok h (d.del b.next):=Ok.del H s w;have k:(d.del b.next).get h.next=some (.cells [.slice a n c] 22 0 true):=by rw[ae.eD,if_neg D];exact y
 have G:aj SS.P 22 (d.del b.next) (pA h.next)=some (.slice a n c):=dp xz ac4 k (by simp);exact Hq (ks:=h.next) ⟨a,n,c,G,u.kL λj B F J=>(by rw[ae.eD,if_neg (E j F).2];omega),m⟩
theorem aaC{c:Nat}(w:Wf h)(e:h.get kc=some (.cells [.slice a n c] 22 0 true))(r:dz h (.slice a n c) p)(d:p.length<=100000):FW SS 80 [T4 kc] h (λv b=>gh h b 3 1 v (p.map sV)/\Ok h b):=by
 refine aaB kc h _ ((RI w e r d).mono ?_);rintro v g ⟨o,j⟩;obtain⟨i,f,rfl⟩:=o.ZN
 grind
theorem Yx{c:Nat}(w:Wf h)(e:h.get kc=some (.cells [.slice a n c] 22 0 true))(r:dz h (.slice a n c) p)(d:p.length<=100000):FW SS 53 [T4 kc] h (λv b=>gh h b 3 1 v ((oG p).map sV)/\Ok h b):=by
 refine Yw kc h _ ((aaC w e r d).mono ?_);rintro v g ⟨o,j⟩;obtain⟨i,f,rfl⟩:=o.ZN
 grind[Ua]
theorem ab3{c:Nat}(w:Wf h):FW SS 54 [.slice a n c] h (λv b=>v=T4 h.next/\b.get h.next=some (.cells [.slice a n c] 22 0 true)/\Ok h b):=
 ab2 a n c h _ ⟨_,acw a n c,rfl,aN h _,(Ok.refl w).push _⟩
end
end
variable{k:Nat}
section
def comp(l:List Int)(i:Nat):List Int:=(List.range i).flatMap λj=>if 1<=j/\l.getD j 0=l.getD (j-1) 0 then[]else[l.getD j 0]
theorem Cq(l:List Int)(i:Nat):comp l (i+1)=comp l i++(if 1<=i/\l.getD i 0=l.getD (i-1) 0 then[]else[l.getD i 0]):=by grind[range_succ,comp]
section
variable {h0 g:ae} {kb off n c N:Nat} {l D:List Int}
structure vV(h0:ae)(kb off n N:Nat)(D:List Int)(g:ae):Prop where
 blk:∃cs,g.get kb=some (.cells cs 3 1 true)/\(cs.drop off).take n=D.map zV/\cs.length=N
 len:D.length=n
 ok:Ok h0 g
 fit:off+n<=N
 nb:h0.next<=kb
theorem vV.room(r:vV h0 kb off n N D g)(m:Nat):vV h0 kb off n N D (Go.Ab.room g m):=⟨r.blk,r.len,r.ok.room m,r.fit,r.nb⟩
theorem vV.rd0(r:vV h0 kb off n N D g)(c:Nat):Rd g 3 (.slice (some ⟨kb,off,none⟩) n c) (A2 D):=by
 obtain⟨cs,a,b,d⟩:=r.blk;exact(.inr ⟨kb,off,cs,c,true,by rw[kK,r.len],a,by rw[kK,r.len];exact b⟩)
theorem vV.rd(r:vV h0 kb off n N D g)(c:Nat):dz g (.slice (some ⟨kb,off,none⟩) n c) D:=dz.QU (r.rd0 c)
theorem vV.rdF(r:vV h0 kb off n N D g){k:Nat}(f:k<=n)(c:Nat):dz g (.slice (some ⟨kb,off+k*1,none⟩) (n-k) c) (D.drop k):=by
 obtain⟨cs,b,d,e⟩:=r.blk;have a:(D.drop k).length=n-k:=by rw[length_drop,r.len]
 refine dz.QU (.inr ⟨kb,off+k*1,cs,c,true,by rw[kK,a],b,?_⟩);rw[kK,a,Nat.mul_one,<-List.drop_drop];have:((cs.drop off).drop k).take (n-k)=((cs.drop off).take n).drop k:=by rw[List.drop_take]
 rw[this,d];unfold A2;rw[List.map_drop];rfl
theorem vV.put(w:Wf h0)(r:vV h0 kb off n N D g){k:Nat}(e:k<n)(z:Int):∃u:eu,ah SS.P 3 (.pointer (some ⟨kb,off+k,none⟩)) (.int .i64 z) g=some (undef,u)/\vV h0 kb off n N (D.set k z) (u.app g):=by
 obtain⟨cs,a,c,d⟩:=r.blk;have b:=r.fit;refine⟨_,ll zs3 a (i:=off+k) (by omega) (v:= .int .i64 z) rfl rfl,⟨_,by show(g.set kb _).get kb=_;rw[ae.ay,if_pos rfl],?_,by grind⟩,by rw[List.length_set];exact r.len,r.ok.set _ r.nb (r.ok.wf _ _ a) w,b,r.nb⟩;rw[List.drop_set,if_neg (by omega),List.take_set,c,show off+k-off=k by omega,map_set];rfl
theorem vV.clr(w:Wf h0)(r:vV h0 kb off n N D g){k:Nat}(o:k<n)(d:Nat):∃u:eu,Cp SS.P 22 (.slice (some ⟨kb,off+k*1,none⟩) (n-k) d) g=some (undef,u)/\∃a,vV h0 kb off n N a (u.app g)/\a.take k=D.take k:=by
 obtain⟨cs,b,f,m⟩:=r.blk;have c:=r.fit;have h:dD (iv 0).cells.toList (n-k)=List.replicate (n-k) (zV 0):=pY _ _;refine⟨.set kb (.cells (cs.take (off+k)++List.replicate (n-k) (zV 0)++cs.drop (off+k+(n-k))) 3 1 true),?_,D.take k++List.replicate (n-k) 0,⟨⟨_,by show(g.set kb _).get kb=_;rw[ae.ay,if_pos rfl],?_,?_⟩,?_,r.ok.set _ r.nb (r.ok.wf _ _ b) w,c,r.nb⟩,?_⟩
 ·unfold Cp;rw[xz];dsimp only;rw[acT];dsimp only;rw[if_neg (by omega),h,Nat.mul_one];unfold storeAt;rw[b];dsimp only;rw[if_pos ⟨by simp;omega,by simp[zV,ey]⟩,List.length_replicate];rfl
 ·have l:D.take k=D.take k:=rfl;rw[append_assoc,List.drop_append,length_take,Nat.min_eq_left (by omega),List.drop_append,List.length_replicate];have j:off-(off+k)=0:=by omega
  rw[j,drop_zero,show 0-(n-k)=0 by omega,drop_zero];have e:(cs.take (off+k)).drop off=(cs.drop off).take k:=by rw[List.drop_take,show off+k-off=k by omega]
  rw[e];have i:(cs.drop off).take k=(D.take k).map zV:=by
   have:(cs.drop off).take k=((cs.drop off).take n).take k:=by rw[List.take_take,Nat.min_eq_left (by omega)]
   rw[this,f,List.map_take]
  rw[i,<-append_assoc,List.take_append_of_le_length (by simp[r.len];omega),take_of_length_le (by simp[r.len];omega),map_append,List.map_replicate]
 all_goals grind[length_take]
end
theorem Yr{g:ae}{off n c z:Nat}{cs:List Value}(a:g.get k=some (.cells cs 3 1 true))(d:z<=n)(b:n<=bY c):cg SS.P 22 (.slice (some ⟨k,off,none⟩) n c) none (some (.int .i64 (z:Int))) none g=some (.slice (some ⟨k,off,none⟩) z c):=by
 unfold cg;dsimp only;rw[xz];dsimp only[gk];rw[ZK,a]
 grind
theorem VA{h0:ae}(w:Wf h0)(ok:Ok h0 h){v:Value}{l:List Int}(o:gh h0 h 3 1 v (l.map sV))(hl:l.length<=100000):FW SS 52 [v] h (λr h'=>∃a n c,r = .slice a n c/\Rd h' 3 (.slice a n c) (A2 (comp l l.length))/\Ok h0 h'):=by
 have Q:=adQ o;by_cases V:l.length<2
 ·obtain⟨a,c,rfl⟩:=o.ZN;rw[lM]at Q⊢;refine LR a l.length c h _ (aa (λ_=>⟨a,l.length,c,rfl,?_,ok⟩) (λe=>by have:=dF e;omega));have:comp l l.length=l:=by
   match l,V with
   |[],_=>rfl
   |[x],_=>rfl
   |x::y::r,V=>simp at V;omega
  grind
 obtain⟨_,⟨_,he⟩|⟨kb,off,cs,c,rfl,nb,M,J,X,K⟩⟩:=o
 ·simp_all
 rw[lM]at J K;rw[lM]at Q⊢;rw[Nat.mul_one,tj]at J;rw[Nat.mul_one]at X;generalize x8:l.length=n at*;have r0:vV h0 kb off n cs.length l h:=⟨⟨cs,M,J,rfl⟩,x8,ok,by omega,nb⟩
 refine LR _ n c h _ (aa (λe=>by grind) (λ_=>?_));refine Cr _ n c (λT k g=>1<=k/\k<=n/\T=n-k/\vV h0 kb off n cs.length l g/\comp l k=l.take k) _ (λT k=>?_) (n-1) (k:=1) ⟨by omega,by omega,rfl,r0,?_⟩
 rotate_left
 ·rw[lU (d:=0) (by omega)];rfl
 intros;rename_i g x0;obtain⟨k1,k2,k3,Y,hc⟩:=x0;refine aa (λq=>?_) (λq=>?_)
 ·have M:k<n:=by have:=dT q;omega
  obtain⟨s,rfl⟩:∃s,k=s+1:=⟨k-1,by omega⟩
  have B:=Y.room 10;obtain⟨p,e1,e2⟩:=dz.at_ (B.rd c) (i:=s+1) (by omega);obtain⟨p',e3,e4⟩:=dz.at_ (B.rd c) (i:=s) (by omega);rw[Db s (by omega)];have A:=Cq l (s+1);rw[show s+1-1=s by omega]at A;refine⟨_,e1,_,e2,_,e3,_,e4,aa (λC=>?_) (λC=>?_)⟩
  ·have C:l.getD (s+1) 0=l.getD s 0:=by simpa using C
   rw[if_pos ⟨by omega,C⟩,append_nil,hc]at A;obtain⟨y6,g1,g2,g3⟩:=B.blk;refine⟨_,_,_,GC xz ZK g1 (by omega) K,?_⟩;clear e1 e2 e3 e4 C;generalize y5:s+1=f at*;refine Cs _ n c _ (n-f) (c-f) _ T (λO k j g=>1<=j/\j<=n-f/\O=n-f-j/\∃D,vV h0 kb off n cs.length D g/\(comp l (f+j)).length=k/\D.take k=comp l (f+j)/\k+1<=f+j/\∀p,f+j<=p+1->p<n->D.getD p 0=l.getD p 0) _ (λO k j=>?_) (n-f-1) (k:=f) (j:=1) ⟨by omega,by omega,rfl,l,B,by grind,by grind,by omega,λ_ _ _=>rfl⟩;intros;rename_i g4 U;obtain⟨j1,j2,j3,D,F,dl,dt,dk,Z⟩:=U;have y0:=F.len;refine aa (λS=>?_) (λS=>?_)
   ·have hj:j<n-f:=by have:=dT S;omega
    obtain⟨m,rfl⟩:∃m,j=m+1:=⟨j-1,by omega⟩
    have t:=F.room 10;have y7:(D.drop f).length=n-f:=by rw[length_drop,y0]
    obtain⟨p1,x1,L⟩:=dz.at_ (t.rdF (by omega:f<=n) (c-f)) (i:=m+1) (by omega);obtain⟨p2,x3,W⟩:=dz.at_ (t.rdF (by omega:f<=n) (c-f)) (i:=m) (by omega);have gd:∀i,(D.drop f).getD i 0=D.getD (f+i) 0:=λi=>by grind
    rw[gd]at L W;rw[Z (f+(m+1)) (by omega) (by omega)]at L;rw[Z (f+m) (by omega) (by omega)]at W;have z:=Cq l (f+(m+1));rw[show f+(m+1)-1=f+m by omega]at z;have I:k<n:=by omega
    rw[Db m (by omega),bg (i:=m+1) (n:=n) (by omega) (by omega)];refine⟨_,x1,_,L,_,x3,_,W,aa (λE=>?_) (λE=>?_)⟩
    ·have E:l.getD (f+(m+1)) 0≠l.getD (f+m) 0:=by simpa using E
     rw[if_neg (λe=>E e.2)]at z;obtain⟨u,st,x6⟩:=t.put w I (l.getD (f+(m+1)) 0);have x7:aD SS.P 22 (.slice (some ⟨kb,off,none⟩) n c) (iA k)=some (.pointer (some ⟨kb,off+k,none⟩)):=by
      have:=Sr (P:=SS.P) xz ZK (k:=kb) (off:=off) (n:=n) (c:=c) (ik:= .i64) (i:=(k:Int)) (by omega) (by omega);rw[this];have e:off+((k:Int)).toNat*1=off+k:=by omega
      rw[e]
     rw[bg (i:=k) (n:=n) (by omega) (by omega)];refine⟨_,x1,_,L,_,x7,u,st,jV (n-f-(m+1+1)) (by omega) ⟨by omega,by omega,rfl,_,x6,?_,?_,by omega,λp x9 N=>?_⟩⟩
     ·rw[show f+(m+1+1)=f+(m+1)+1 by omega,z,length_append,dl];rfl
     ·rw[show f+(m+1+1)=f+(m+1)+1 by omega,z,lU (d:=0) (by rw[List.length_set];omega),nz (Nat.le_refl _),dt,fz (by omega),if_pos rfl]
     grind
    ·have E:l.getD (f+(m+1)) 0=l.getD (f+m) 0:=by simpa using E
     rw[if_pos ⟨by omega,E⟩,append_nil]at z;refine jV (n-f-(m+1+1)) (by omega) ⟨by omega,by omega,rfl,D,t,?_,?_,by omega,λp x9 N=>Z p (by omega) N⟩
     all_goals grind
   ·have hj:j=n-f:=by have:=dF S;omega
    have I:k<n:=by omega
    obtain⟨y4,y1,y2,y3⟩:=F.blk;obtain⟨u,cl,D',t,x5⟩:=F.clr w I (c-k);obtain⟨G,z1,z2,z3⟩:=t.blk;have R:comp l n=D.take k:=by rw[dt,hj,show f+(n-f)=n by omega]
    refine⟨_,_,_,GC xz ZK y1 (by omega) K,undef,u,Eq.trans (b:=Cp SS.P 22 (.slice (some ⟨kb,off+k*1,none⟩) (n-k) (c-k)) g4) (by kernel_rfl) cl,_,_,_,Yr z1 (by omega) K,_,_,_,rfl,?_,t.ok⟩;have H:(comp l n).length=k:=by rw[R,length_take];omega
    refine(.inr ⟨kb,off,G,c,true,by rw[kK,H],z1,?_⟩);rw[kK,H];have:(G.drop off).take k=((G.drop off).take n).take k:=by rw[List.take_take,Nat.min_eq_left (by omega)]
    rw[this,z2,<-List.map_take,x5,<-R];rfl
  ·have C:l.getD (s+1) 0≠l.getD s 0:=by simpa using C
   rw[if_neg (λe=>C e.2),hc]at A;rw[bg (i:=s+1) (n:=n) (by omega) (by omega)];refine cz (n-(s+1+1)) (by omega) ⟨by omega,by omega,rfl,B,?_⟩;rw[A];exact(lU (d:=0) (by omega)).symm
 ·have M:k=n:=by have:=dF q;omega
  subst M;refine⟨_,_,_,rfl,?_,Y.ok⟩;rw[hc,take_of_length_le (by omega)];exact Y.rd0 c
end
variable{z:Int}
theorem adW{d:ae}(r:Rd g 3 v (A2 p))(h:Kp g d):Rd d 3 v (A2 p):=by
 rcases r with⟨a,b⟩|⟨k,e,cs,c,i,a,b,f⟩
 ·exact .inl ⟨a,b⟩
 ·exact .inr ⟨k,e,cs,c,i,a,h.2 _ _ _ _ _ b (by decide) (by decide) (by decide),f⟩
def qy(l:List Int):List Int:=comp (oG l) (oG l).length
theorem LQ(l:List Int):∀i,(comp l i).length<=i
 |0=>Nat.le_refl _
 |i+1=>by
  rw[Cq,length_append];have:=LQ l i;split
  ·simp;omega
  ·simp;omega
theorem IZ(l:List Int):(oG l).length=l.length:=List.length_mergeSort l
theorem WG(l:List Int):(qy l).length<=l.length:=by
 unfold qy;exact Nat.le_trans (LQ _ _) (Nat.le_of_eq (IZ l))
def JT(a:Int)(l:List Int):List jj:=l.map λs=>⟨s,s,ct a,1⟩
def FZ(a:Int)(l:List Int):bJ:=⟨a,0,ct a,[⟨[],JT a (qy l)⟩,⟨ct a,[]⟩]⟩
def A5(a:Int)(l:List Int):bJ×Int:=if(decide (1<=a/\a<=3)&&l.all tC)=true then(FZ a l,0)else(zH,1)
theorem aal{c:Nat}{l:List Int}(w:Wf h)(r:dz h (.slice a n c) l)(hl:l.length<=10000):FW SS 21 [.int .i64 z,.slice a n c] h (D3 h (A5 z l)):=by
 obtain rfl:=dz.len r;have e:=(Ok.refl w).push lz;have o:=aN h lz;have nb:h.next<(h.push lz).next:=lt_succ_self _;refine aak z a _ c h _ ⟨_,me,?_⟩;generalize h.push lz=K at*;unfold A5;refine aa (λq=>?_) (λq=>aa (λt=>?_) (λt=>?_))
 ·have:=dT q;rw[decide_eq_false (show ¬(1<=z/\z<=3) by omega),Bool.false_and,if_neg Bool.false_ne_true];exact ju w e o (Nat.le_refl _) 1
 ·have:=dT t;rw[decide_eq_false (show ¬(1<=z/\z<=3) by omega),Bool.false_and,if_neg Bool.false_ne_true];exact ju w e o (Nat.le_refl _) 1
 have q:=dF q;have t:=dF t;rw[decide_eq_true (show 1<=z/\z<=3 by omega),Bool.true_and];refine(VF (dz.ok r e) (by omega)).mono ?_;rintro _ N ⟨rfl,A⟩;obtain rfl:K=N:=A.symm;refine⟨_,rfl,aa (λj=>?_) (λj=>?_)⟩
 ·rw[not_eq_true']at j;rw[j,if_neg Bool.false_ne_true];exact ju w e o (Nat.le_refl _) 1
 rw[not_eq_false']at j;rw[j,if_pos rfl];refine(oU z e.wf).mono ?_;rintro _ g3 ⟨k,rfl,D⟩;have u:=D.ym ((Ok.refl D.ok.wf).room 10);refine⟨_,rfl,(jv e.wf u (by simp) []).mono ?_⟩;rintro _ Y ⟨rfl,H,V⟩;refine⟨_,rfl,nG ⟨_,Cv k,_,H.one,(jv e.wf H (by simp) _).mono ?_⟩⟩;rintro _ g5 ⟨rfl,x,U⟩;refine⟨_,rfl,⟨u.one,mD _⟩,(ab3 x.ok.wf).mono ?_⟩;rintro _ g6 ⟨rfl,T,m⟩;have R:=dz.ok r ((e.trans x.ok).trans m);refine⟨_,_,_,rfl,(Yx m.wf T R (by omega)).mono ?_⟩;rintro v g7 ⟨F,S⟩;obtain⟨a7,X,rfl⟩:=F.ZN;refine⟨_,_,_,rfl,(VA m.wf S F (by rw[IZ];omega)).mono ?_⟩;rintro _ Z ⟨E,n8,G,rfl,J,O⟩;obtain rfl:=dz.len (dz.QU J);have P:=x.ym (m.trans O);refine⟨_,_,_,rfl,?_⟩;have W:=WG l;rw[<-qy]at*;refine DU z a l.length c h.next k 0 1 E (qy l).length G (λC i g=>i<=(qy l).length/\C=(qy l).length-i/\Rd g 3 (.slice E (qy l).length G) (A2 (qy l))/\BS K g k z 0 (ct z) [⟨[],JT z ((qy l).take i)⟩,⟨ct z,[]⟩]) _ (λC i=>?_) (qy l).length (i:=0) ⟨Nat.zero_le _,rfl,J,P⟩;intros;rename_i g B;obtain⟨f1,f2,L,b⟩:=B;have f:bV [(⟨[],JT z ((qy l).take i)⟩:dW),⟨ct z,[]⟩]=i:=by
  rw[dy,dy];show(JT z ((qy l).take i)).length+(0+0)=i;unfold JT;rw[lM,length_take];omega
 refine aa (λp=>?_) (λp=>?_)
 ·have y:i<(qy l).length:=by have:=dT p;omega
  obtain⟨pp,M,A⟩:=dz.at_ (dz.QU L) y;refine⟨_,M,_,A,_,Cv k,_,b.one,_,acA _ _ _ _,(AP (s:=0) e.wf b rfl (by rw[f];omega) ⟨(qy l).getD i 0,(qy l).getD i 0,ct z,1⟩).mono ?_⟩;rintro _ g9 ⟨rfl,Q,I⟩;rw[bg y (by omega)];refine⟨rfl,cz ((qy l).length-(i+1)) (by omega) ⟨by omega,rfl,adW L I,?_⟩⟩;have:JT z ((qy l).take (i+1))=JT z ((qy l).take i)++[⟨(qy l).getD i 0,(qy l).getD i 0,ct z,1⟩]:=by
   rw[lU (d:=0) y];unfold JT;rw[map_append];rfl
  rw[this];exact Q
 ·obtain rfl:i=(qy l).length:=by have:=dF p;omega
  rw[take_of_length_le (Nat.le_refl _)]at b f;exact rD w e.wf b (by simp) (by rw[f];omega) e o (Nat.le_refl _)
variable{Z:List (List UInt8)}
section
theorem BD:SS.P.underlying 106=some (.slice 103):=by rfl
theorem BW:aI SS.P 103=some 1:=by rfl
theorem aew:Go.Ab.isAgg SS.P 103=false:=by rfl
noncomputable def YO:TypeInfo:=(SS.P.info? 103).getD default
theorem YP:SS.P.info? 103=some YO:=by rfl
theorem PT:YO.size=1:=by rfl
theorem ND:YO.bytes=24:=by rfl
theorem ack:zeroOf SS.P 103=some nA:=by rfl
theorem afB(n:Nat)(a:n<=100000):cF SS.P 106 (.int .i64 (n:Int)) (.int .i64 (n:Int))=some (.cells (List.replicate n nA) 103 1 true,ph n n):=by
 unfold cF cn;dsimp only;rw[BD]
 try dsimp only
 change (match SS.P.info? 103,zeroOf SS.P 103 with
  |some i,some z=>(if z.cells.size=i.size/\0<i.size/\(0:Int)<=(n:Int)/\(n:Int)<=(n:Int)/\(n:Int)*i.bytes<=140737488355328/\(n:Int)<=1099511627776 then some (eB.cells (dD z.cells.toList (n:Int).toNat) 103 i.size true,λk=>Value.slice (some ⟨k,0,none⟩) (n:Int).toNat (n:Int).toNat)else none)
  |_,_=>none)=_
 rw[YP,ack];dsimp only;rw[PT,ND,if_pos ⟨rfl,by omega,by omega,Int.le_refl _,by omega,by omega⟩];have e:((n:Int)).toNat=n:=by omega
 rw[e,show(nA).cells.toList=[nA]from rfl,pY];rfl
theorem ac2{g:ae}{z:Nat}{cs:List Value}{l:Bool}(r:Rd g n v d)(p:g.get k=some (.cells cs m z l))(o:n≠m)(B:eB):Rd (g.set k B) n v d:=by
 rcases r with r|⟨h,b,e,c,f,j,a,i⟩
 ·exact .inl r
 ·exact .inr ⟨h,b,e,c,f,j,by rw[ae.ay,if_neg (λx=>by rw[x,p]at a;injection a with a;injection a with _ a;exact o a.symm)];omega,i⟩
structure TB(h:ae)(kt X Y p:Nat)(kr:Nat->Nat)(cv:Nat->Nat->Value)(g:ae):Prop where
 out:g.get kt=some (.cells ((List.range X).map λa=>if a<p then vS (kr a) Y Y else nA) 103 1 true)
 row:∀a,a<p->g.get (kr a)=some (.cells ((List.range Y).map (cv a)) 107 1 true)
 new:h.next<=kt/\∀a,a<p->h.next<=kr a
 inj:∀a b,a<p->b<p->kr a=kr b->a=b
 ok:Ok h g
def up2(cv:Nat->Nat->Value)(i j:Nat)(y:Value):Nat->Nat->Value:=λa b=>if a=i/\b=j then y else cv a b
section
variable {h:ae} {kt X Y p i j:Nat} {kr:Nat->Nat} {cv:Nat->Nat->Value} {g g':ae}
theorem TB.ym(t:TB h kt X Y p kr cv g)(o:Ok g g'):TB h kt X Y p kr cv g':=⟨o.ext _ _ t.out,λa b=>o.ext _ _ (t.row a b),t.new,t.inj,t.ok.trans o⟩
theorem TB.room(t:TB h kt X Y p kr cv g)(n:Nat):TB h kt X Y p kr cv (Go.Ab.room g n):=⟨t.out,t.row,t.new,t.inj,t.ok.room n⟩
theorem TB.ZM(t:TB h kt X Y p kr cv g)(a:i<p)(b:p<=X):aj SS.P 103 g (.pointer (some ⟨kt,i,none⟩))=some (vS (kr i) Y Y):=by
 rw[dp qp aew t.out (by grind),Ky (by omega),if_pos a]
theorem TB.ldV(t:TB h kt X Y p kr cv g)(a:i<p)(b:j<Y):aj SS.P 107 g (.pointer (some ⟨kr i,j,none⟩))=some (cv i j):=by
 rw[dp GB Ly (t.row i a) (by grind),Ky b]
theorem TB.abk(t:TB h kt X Y p kr cv g)(w:Wf h)(d:i<p)(s:j<Y){y:Value}(n:ey y=true)(m:y.cells = #[y]):∃u:eu,ah SS.P 107 (.pointer (some ⟨kr i,j,none⟩)) y g=some (undef,u)/\TB h kt X Y p kr (up2 cv i j y) (u.app g)/\(∀v l,Rd g 9 v l->Rd (u.app g) 9 v l)/\(∀k l,VB g k l->VB (u.app g) k l)/\(u.app g).next=g.next:=by
 have c:=t.row i d;refine⟨_,ll pZ c (by grind) n m,⟨?_,λa f=>?_,t.new,t.inj,t.ok.set _ (t.new.2 i d) (t.ok.wf _ _ c) w⟩,λv l r=>ac2 r c (by decide) _,λk l b=>?_,rfl⟩
 ·show(g.set (kr i) _).get kt=_;rw[ae.ay,if_neg (mf t.out c (by decide))];exact t.out
 ·show(g.set (kr i) _).get (kr a)=_;rw[ae.ay];by_cases e:a=i
  ·subst e;rw[if_pos rfl];congr 2;refine ext_getElem (by simp) λb o q=>?_;rw[List.getElem_set];simp only[List.getElem_map,List.getElem_range];unfold up2
   grind
  ·rw[if_neg (λx=>e (t.inj a i f d x)),t.row a f]
   simp_all[up2]
 ·show(g.set (kr i) _).get k=_;rw[ae.ay,if_neg (λx=>by rw[x]at b;have b:g.get (kr i)=_:=b;grind)];exact b
theorem TB.agq(t:TB h kt X Y p kr cv g)(w:Wf h)(v:p<X){f:Nat}(j:g.get f=some (.cells (List.replicate Y nA) 107 1 true))(x:h.next<=f)(r:∀a,a<p->kr a≠f)(q:∀b,cv p b=nA):∃u:eu,ah SS.P 103 (.pointer (some ⟨kt,p,none⟩)) (sA f Y Y) g=some (undef,u)/\TB h kt X Y (p+1) (λa=>if a=p then f else kr a) cv (u.app g)/\(∀k l,VB g k l->VB (u.app g) k l)/\(u.app g).next=g.next:=by
 refine⟨_,ll BW t.out (by grind) rfl rfl,⟨?_,λa m=>?_,⟨t.new.1,λa m=>?_⟩,λa b m s i=>?_,t.ok.set _ t.new.1 (t.ok.wf _ _ t.out) w⟩,λk l b=>?_,rfl⟩
 ·show(g.set kt _).get kt=_;rw[ae.ay,if_pos rfl];congr 2;refine ext_getElem (by simp) λb n o=>?_;rw[List.getElem_set];simp only[List.getElem_map,List.getElem_range];by_cases e:p=b
  ·subst e;rw[if_pos rfl,if_pos (by omega),if_pos rfl];rfl
  grind
 ·show(g.set kt _).get _=_;by_cases e:a=p
  ·subst e;rw[if_pos rfl,ae.ay,if_neg (mf j t.out (by decide)),j];congr 2;refine ext_getElem (by simp) λb n o=>?_
   grind
  ·have:=t.row a (by omega);rw[if_neg e,ae.ay,if_neg (mf this t.out (by decide))];omega
 ·split
  ·omega
  ·exact t.new.2 a (by omega)
 ·by_cases c:a=p<;>by_cases d:b=p
  ·omega
  ·grind
  ·grind
  ·rw[if_neg c,if_neg d]at i;exact t.inj a b (by omega) (by omega) i
 ·show(g.set kt _).get k=_;rw[ae.ay,if_neg (mf b t.out (by decide))];exact b
end
structure TV(kind:Int)(N X Y:Nat)(cv:Nat->Nat->Value)(T:List LM)(g:ae):Prop where
 len:T.length=X
 row:∀a,a<X->(T.getD a []).length=Y
 at_:∀a b,a<X->b<Y->∃(ad:Option Addr)(c:Nat),cv a b = .slice ad N c/\Rd g 9 (.slice ad N c) (fk (eF T a b))/\VV kind N (eF T a b)
section
variable {kind:Int} {N X Y i j:Nat} {cv:Nat->Nat->Value} {T:List LM} {g g':ae}
theorem LD{T:List LM}{X Y i j a b:Nat}(c:T.length=X)(f:∀a,a<X->(T.getD a []).length=Y)(d:i<X)(e:j<Y)(v:List (List UInt8)):eF (gj T i j v) a b=if a=i/\b=j then v else eF T a b:=by
 unfold eF gj
 grind
theorem Nr{T:List LM}{X Y i j:Nat}(b:T.length=X)(e:∀a,a<X->(T.getD a []).length=Y)(c:i<X)(d:j<Y)(v:List (List UInt8)):(gj T i j v).length=X/\∀a,a<X->((gj T i j v).getD a []).length=Y:=by grind[gj]
theorem TV.ok(t:TV kind N X Y cv T g)(o:Ok g g'):TV kind N X Y cv T g':=⟨t.len,t.row,λa b j d=>by obtain⟨h,c,f,i,e⟩:=t.at_ a b j d;exact⟨h,c,f,i.ok o,e⟩⟩
theorem TV.put(t:TV kind N X Y cv T g)(f:i<X)(h:j<Y)(u:∀v l,Rd g 9 v l->Rd g' 9 v l){d:Option Addr}{c:Nat}{l:List (List UInt8)}(r:Rd g 9 (.slice d N c) (fk l))(w:VV kind N l):TV kind N X Y (up2 cv i j (.slice d N c)) (gj T i j l) g':=by
 obtain⟨n,o⟩:=Nr t.len t.row f h l;refine⟨n,o,λa b m k=>?_⟩;rw[LD t.len t.row f h];unfold up2;by_cases e:a=i/\b=j
 ·grind
 ·rw[if_neg e,if_neg e];obtain⟨d,c,q,s,p⟩:=t.at_ a b m k
  grind
end
def ZF(h g:ae)(N:Nat)(d:List (List UInt8))(cv:Nat->Nat->Value)(c:Nat->Nat->Nat)(f:Nat->Nat->Prop):Prop:=∀a b,f a b->cv a b=vS (c a b) N N/\VB g (c a b) d/\h.next<=c a b/\((a=0/\b=0)\/c a b≠c 0 0)
theorem ZF.mono{h g g':ae}{N:Nat}{cv:Nat->Nat->Value}{d:Nat->Nat->Nat}{f e:Nat->Nat->Prop}(z:ZF h g N Z cv d f)(p:∀k l,VB g k l->VB g' k l)(i:∀a b,e a b->f a b):ZF h g' N Z cv d e:=λa b c=>by
 obtain⟨m,n,j,o⟩:=z a b (i a b c)
 grind
theorem ZF.add{h g g':ae}{N i j:Nat}{cv:Nat->Nat->Value}{o:Nat->Nat->Nat}{f p:Nat->Nat->Prop}(z:ZF h g N Z cv o f)(r:∀k l,VB g k l->k<n)(y:∀k l,VB g k l->VB g' k l)(t:VB g' n Z)(s:h.next<=n)(c:(i=0/\j=0)\/f 0 0)(q:∀a b,p a b->f a b\/(a=i/\b=j))(A:i=0/\j=0->∀a b,¬f a b):ZF h g' N Z (up2 cv i j (vS n N N)) (λa b=>if a=i/\b=j then n else o a b) p:=λa b d=>by
 unfold up2;dsimp only;by_cases e:a=i/\b=j
 ·rw[if_pos e,if_pos e];refine⟨rfl,t,s,?_⟩;by_cases B:i=0/\j=0
  ·omega
  ·right;rw[if_neg (by omega)];rcases c with c|c
   ·omega
   ·have:=r _ _ (z 0 0 c).2.1;omega
 ·rw[if_neg e,if_neg e];have m:f a b:=(q a b d).resolve_right e;obtain⟨v,w,u,x⟩:=z a b m
  grind
def StB(kind:Int)(N:Nat)(g:ae)(b:Option Addr)(bn bc:Nat):Option LM->Prop
 |none=>b=none/\bn=0/\bc=0
 |some B=>(∃a,b=some a)/\bn=N/\Ou 107 g (.slice b bn bc) B/\Sq kind N B
theorem StB.ok{kind:Int}{N:Nat}{g g':ae}{b:Option Addr}{bn bc:Nat}{o:Option LM}(s:StB kind N g b bn bc o)(k:Ok g g'):StB kind N g' b bn bc o:=by
 cases o with
 |none=>exact s
 |some B=>exact⟨s.1,s.2.1,s.2.2.1.ok k,s.2.2.2⟩
section
variable {h:ae} {M:bJ} {x a b:Option Addr} {z c bn bc:Nat} {V:List (List UInt8)} {o:Option LM}
theorem aby(w:Wf h)(f:Rm M)(r:dR h (.slice x M.af.length z) M.af)(k:Rd h 9 (.slice a M.af.length c) (fk V))(g:VV M.kind M.af.length V)(d:StB M.kind M.af.length h b bn bc o):FW SS 75 [.agg ⟨bM M x M.af.length z⟩,.slice a M.af.length c,.slice b bn bc] h (Zh h M.kind M.af.length (ic (bo M.kind) V o)):=by
 cases o with
 |none=>
  obtain⟨rfl,rfl,rfl⟩:=d
  grind[Un]
 |some B=>
  obtain⟨⟨j,rfl⟩,rfl,e,i⟩:=d
  grind[Zk]
end
end
section
def agd(k kt N:Nat)(F K:Int)(v:OA)(M vc:Nat)(I J:Int)(Q:VH)(G:ae->Prop)(h:ae):Prop:=xA (aj SS.P 29 h (pA k)) λH=>FW SS 76 [(.agg ⟨H⟩),(.slice v M vc),(.int .i64 I),(.int .i64 J),(.bool false)] h λE a=>∃(o:OA)(q m:Nat),∃f:Int,E=(.tuple ⟨[(.slice o q m),(.int .i64 f)]⟩)/\au (((f:Int) !=0)) (Q (.tuple ⟨[(strOf []),(.int .i64 f)]⟩) a) (xP (aD SS.P 106 (sA kt N N) (.int .i64 F)) λi=>xL (aj SS.P 103 (room a 30) (.pointer (some i))) λc d b=>xP (bk SS.P 29 (pA k) 0) λx=>xI .i64 (aj SS.P 3 (room a 30) (.pointer (some x))) λy=>xP (aD SS.P 106 (sA kt N N) (.int .i64 F)) λz=>xL (aj SS.P 103 (room a 30) (.pointer (some z))) λA w u=>xP (aD SS.P 103 (.slice A w u) (.int .i64 K)) λs=>xL (aj SS.P 107 (room a 30) (.pointer (some s))) λC D r=>FW SS 77 [(.int .i64 y),(.slice C D r),(.slice o q m)] (room a 30) λt g=>∃(j:OA)(l p:Nat),∃e:Int,t=(.tuple ⟨[(.slice j l p),(.int .i64 e)]⟩)/\xP (aD SS.P 103 (.slice c d b) (.int .i64 K)) λB=>xU (ah SS.P 107 (.pointer (some B)) (.slice j l p) g) g λL n=>(aj SS.P 103 g (.pointer (some i))=some (.slice c d b)/\dV 4 (.slice c d b) (.slice c d b)=true)/\au (((e:Int) !=0)) (Q (.tuple ⟨[(strOf []),(.int .i64 e)]⟩) n) (G n))
theorem Q6(a:Option Addr)(n c:Nat):ey (.slice a n c)=true:=by cases a<;>rfl
section
variable {h0 h:ae} {M:bJ} {x v:Option Addr} {z k kt X Y i j vc:Nat} {kr:Nat->Nat} {cv:Nat->Nat->Value} {T:List LM} {V:List (List UInt8)}
def Ta(M:bJ)(V:List (List UInt8))(a b:Int)(T:List LM)(i j:Nat):Option (List LM):=match mM (bo M.kind) (gm M) V a b with
 |none=>none
 |some s=>match qe (bo M.kind) (eF T i j) s with
  |none=>none
  |some r=>some (gj T i j r)
theorem Zn(w:Wf h0)(O:Rm M)(U:MB h0 k M x M.af.length z)(A:TB h0 kt X Y X kr cv h)(tv:TV M.kind M.af.length X Y cv T h)(Z:Rd h 9 (.slice v M.af.length vc) (fk V))(vv:VV M.kind M.af.length V)(a:i<X)(f:j<Y)(q r:Int){Q:VH}{G:ae->Prop}
  (n:Ta M V q r T i j=none->∀g,Ok h0 g->Q (two [] 2) g)
  (p:∀R,Ta M V q r T i j=some R->∀D g,TB h0 kt X Y X kr D g->TV M.kind M.af.length X Y D R g->Rd g 9 (.slice v M.af.length vc) (fk V)->G g):
  agd k kt X (i:Int) (j:Int) v M.af.length vc q r Q G h:=by
 have hn:=O.n;unfold Ta at n p;have B:=U.ok A.ok;refine⟨_,B.all,(Zm A.ok.wf O B.row Z vv q r).mono ?_⟩;rintro _ g1 ⟨m,d⟩
 cases L:mM (bo M.kind) (gm M) V q r with
 |none=>
  rw[L]at d n;subst d;exact⟨_,_,_,_,rfl,aa (λ_=>n rfl _ (A.ok.trans m)) (λe=>by cases e)⟩
 | some s=>
  rw[L]at d n p;obtain⟨H,K,rfl,rs,vs⟩:=d;dsimp only at n p;have b:=(A.ym m).room 30;have E:TV M.kind M.af.length X Y cv T (Go.Ab.room g1 30):=(tv.ok m).ok ((Ok.refl m.wf).room 30);have P:=U.ok b.ok;obtain⟨ad,c,ec,rc,J⟩:=E.at_ i j a f;have C:=b.ldV a f;rw[ec]at C;refine⟨_,_,_,_,rfl,aa (λe=>by cases e) (λ_=>⟨_,FP BD BW a,_,_,_,b.ZM a (Nat.le_refl _),_,dN _,_,P.l0,_,FP BD BW a,_,_,_,b.ZM a (Nat.le_refl _),_,FP qp pZ f,_,_,_,C,(acb b.ok.wf hn rc J (Rd.ok rs ((Ok.refl m.wf).room 30)) vs).mono ?_⟩)⟩;rintro _ g2 ⟨I,d⟩;have o:=b.ym I;have N:=E.ok I
  cases W:qe (bo M.kind) (eF T i j) s with
  |none=>
   rw[W]at d n;subst d;obtain⟨u,F,t,_,_,_⟩:=o.abk w a f (y:=nA) rfl rfl;exact⟨_,_,_,_,rfl,_,FP qp pZ f,u,F,⟨o.ZM a (Nat.le_refl _),mj _ _ _⟩,aa (λ_=>n rfl _ t.ok) (λe=>by cases e)⟩
  |some l=>
   rw[W]at d p;obtain⟨H,K,rfl,rl,vl⟩:=d;obtain⟨u,F,t,S,_,_⟩:=o.abk w a f (y:= .slice H M.af.length K) (Q6 _ _ _) (by cases H<;>rfl);exact⟨_,_,_,_,rfl,_,FP qp pZ f,u,F,⟨o.ZM a (Nat.le_refl _),mj _ _ _⟩,aa (λe=>by cases e) (λ_=>p _ rfl _ _ t (N.put a f S rl vl) (S _ _ ((Rd.ok (Rd.ok Z m) ((Ok.refl m.wf).room 30)).ok I)))⟩
end
end
section
def RW(M:bJ)(B:Option LM)(xs ys:List Int)(i:Nat)(T:List LM):Option (List UInt8):=match bt (tL (bo M.kind) (gm M) B xs ys) (xs.length+1-i) i T with
 |none=>none
 |some T=>qW (bo M.kind) (gm M) (eF T xs.length ys.length)
def UM(M:bJ)(B:Option LM)(xs ys:List Int)(i j:Nat)(T:List LM):Option (List UInt8):=match bt (r7 (bo M.kind) (gm M) B xs ys i) (ys.length+1-j) j T with
 |none=>none
 |some T=>RW M B xs ys (i+1) T
def UO(M:bJ)(B:Option LM)(xs ys:List Int)(i j:Nat)(V:List (List UInt8))(q:Nat)(T:List LM):Option (List UInt8):=match bt (qY (bo M.kind) (gm M) xs ys V i j) (4-q) q T with
 |none=>none
 |some T=>UM M B xs ys i (j+1) T
section
variable {M:bJ} {B:Option LM} {xs ys:List Int} {i j q:Nat} {V:List (List UInt8)} {T:List LM}
theorem ac1(a:i<xs.length+1):RW M B xs ys i T=UM M B xs ys i 0 T:=by grind[gf,RW,UM,tL]
theorem ZX:UM M B xs ys i (ys.length+1) T=RW M B xs ys (i+1) T:=by grind[kg,UM]
theorem UN(a:j<ys.length+1):UM M B xs ys i j T=match ic (bo M.kind) (eF T i j) B with|none=>none|some v=>UO M B xs ys i j v 1 (gj T i j v):=by
 unfold UO;have b:UM M B xs ys i j T=match (match ic (bo M.kind) (eF T i j) B with|none=>none|some v=>bt (qY (bo M.kind) (gm M) xs ys v i j) 3 1 (gj T i j v))with|none=>none|some T=>UM M B xs ys i (j+1) T:=by
  conv=>lhs;unfold UM
  rw[gf _ a];have e:r7 (bo M.kind) (gm M) B xs ys i T j=(match ic (bo M.kind) (eF T i j) B with|none=>none|some v=>bt (qY (bo M.kind) (gm M) xs ys v i j) 3 1 (gj T i j v)):=by
   unfold r7
   cases ic (bo M.kind) (eF T i j) B<;>rfl
  rw[e];generalize (match ic (bo M.kind) (eF T i j) B with|none=>none|some v=>bt (qY (bo M.kind) (gm M) xs ys v i j) 3 1 (gj T i j v))=o
  cases o<;>rfl
 grind
theorem ZY:UO M B xs ys i j V 4 T=UM M B xs ys i (j+1) T:=by rfl
theorem Lu(a:q<4)(b:xs.length<i+q%2\/ys.length<j+q/2):UO M B xs ys i j V q T=UO M B xs ys i j V (q+1) T:=by simp_all[gf,UO,qY]
theorem UP(a:q<4)(b:¬(xs.length<i+q%2\/ys.length<j+q/2)):UO M B xs ys i j V q T=match Ta M V (cm xs i (q%2)) (cm ys j (q/2)) T (i+q%2) (j+q/2)with|none=>none|some T=>UO M B xs ys i j V (q+1) T:=by
 unfold UO;rw[gf _ a];have e:qY (bo M.kind) (gm M) xs ys V i j T q=Ta M V (cm xs i (q%2)) (cm ys j (q/2)) T (i+q%2) (j+q/2):=by
  unfold qY Ta;rw[if_neg b]
  cases mM (bo M.kind) (gm M) V (cm xs i (q%2)) (cm ys j (q/2))with
  |none=>rfl
  |some s=>dsimp only;cases qe (bo M.kind) (eF T (i+q%2) (j+q/2)) s<;>rfl
 grind
end
theorem ahr{q:Nat}(h:q=1\/q=2\/q=3):wrap .i64 ((BitVec.ofInt (IntKind.bits .i64) (q:Int)&&&BitVec.ofInt (IntKind.bits .i64) 1).toNat:Int)=((q%2:Nat):Int):=by
 rcases h with rfl|rfl|rfl<;>decide
theorem ahs{q:Nat}(h:q=1\/q=2\/q=3):aB SS.P .shr 3 (iA q) (.int .u64 1)=some (.int .i64 ((q/2:Nat):Int)):=by
 rcases h with rfl|rfl|rfl<;>kernel_rfl
theorem NP{i j:Nat}(h:i+j<=1000000000):wrap .i64 ((i:Int)+((j:Nat):Int))=((i+j:Nat):Int):=by grind[aF]
section
variable {h0:ae} {M:bJ} {x:Option Addr} {z k kt:Nat} {xa ya:Option Addr} {xc yc:Nat} {xs ys:List Int} {B:Option LM} {b:Option Addr} {bn bc:Nat}
theorem acj(w:Wf h0)(mo:Rm M)(mb:MB h0 k M x M.af.length z)(hx:xs.length<=200)(hy:ys.length<=200)(rx:dz h0 (.slice xa xs.length xc) xs)(ry:dz h0 (.slice ya ys.length yc) ys)(sb:StB M.kind M.af.length h0 b bn bc B){Q:VH}{S:Nat->Nat}{d:Nat->Nat->Value}{T:List LM}{g:ae}
  (L:TB h0 kt (xs.length+1) (ys.length+1) (xs.length+1) S d g) (Z:TV M.kind M.af.length (xs.length+1) (ys.length+1) d T g) (hQ:∀v g,oQ h0 (RW M B xs ys 0 T) v g->Q v g):
  LL SS dc [1,1,1,1,1,1,1,0,1,0,0] (iz xa xs.length xc ya ys.length yc k kt (xs.length+1) b bn bc 0) g (KK SS dc [1,1,1,1,1,1,1,0,1,0] [] (EE SS dc Q)):=by
 obtain⟨G,hG⟩:∃G,G=RW M B xs ys 0 T:=⟨_,rfl⟩
 rw[<-hG]at hQ;obtain⟨X,hX⟩:∃X,X=xs.length+1:=⟨_,rfl⟩
 obtain⟨Y,hY⟩:∃Y,Y=ys.length+1:=⟨_,rfl⟩
 rw[<-hX,<-hY]at L Z;rw[<-hX];have hn:=mo.n;refine GV (bM M x M.af.length z) xa xs.length xc ya ys.length yc k kt X b bn bc (λmz i g=>i<=X/\mz=X-i/\∃d T,TB h0 kt X Y X S d g/\TV M.kind M.af.length X Y d T g/\RW M B xs ys i T=G) _ (λmz i=>?_) X (i:=0) ⟨by omega,rfl,d,T,L,Z,hG.symm⟩;intros;rename_i g1 x5;obtain⟨f1,f2,d,T,L,Z,H⟩:=x5;refine aa (λq1=>?_) (λq1=>?_)
 ·have f:i<X:=by have:=dT q1;omega
  rw[ac1 (by omega)]at H;refine GW (bM M x M.af.length z) xa xs.length xc ya ys.length yc k kt X b bn bc _ mz i (λR j g=>j<=Y/\R=Y-j/\∃d T,TB h0 kt X Y X S d g/\TV M.kind M.af.length X Y d T g/\UM M B xs ys i j T=G) _ (λR j=>?_) Y (j:=0) ⟨by omega,rfl,d,T,L,Z,H⟩;intros;rename_i g2 x3;obtain⟨d1,d2,y1,T2,W,x2,m⟩:=x3;refine aa (λq2=>?_) (λq2=>?_)
  ·have s:j<Y:=by have:=dT q2;omega
   rw[UN (by omega)]at m;have a:=W.room 15;have J:TV M.kind M.af.length X Y y1 T2 (Go.Ab.room g2 15):=x2.ok ((Ok.refl W.ok.wf).room 15);have F:=mb.ok a.ok;obtain⟨ad,c,ec,rc,vc⟩:=J.at_ i j f s;have D:=a.ldV f s;rw[ec]at D;refine⟨_,F.all,_,FP BD BW f,_,_,_,a.ZM f (Nat.le_refl _),_,FP qp pZ s,_,_,_,D,(aby a.ok.wf mo F.row rc vc (sb.ok a.ok)).mono ?_⟩;rintro _ g3 ⟨o3,hv⟩;have x0:=a.ym o3;have x8:=J.ok o3
   cases t:ic (bo M.kind) (eF T2 i j) B with
   |none=>
    rw[t]at hv m;subst hv;exact⟨_,_,_,_,rfl,aa (λ_=>hQ _ _ ⟨by rw[<-m];rfl,x0.ok⟩) (λe=>by cases e)⟩
   | some V=>
    rw[t]at hv m;obtain⟨N,K,rfl,rl,vl⟩:=hv;dsimp only at m;obtain⟨u,st,x6,kp,_,_⟩:=x0.abk w f s (y:= .slice N M.af.length K) (Q6 _ _ _) (by rfl);have x7:=x8.put f s kp rl vl;have x9:=kp _ _ rl;refine⟨_,_,_,_,rfl,aa (λe=>by cases e) (λ_=>⟨_,FP BD BW f,_,_,_,x0.ZM f (Nat.le_refl _),_,FP qp pZ s,u,st,?_⟩)⟩;refine GX (bM M x M.af.length z) xa xs.length xc ya ys.length yc k kt X b bn bc _ mz i _ R j N M.af.length K (λC q g=>1<=q/\q<=4/\C=4-q/\∃d T,TB h0 kt X Y X S d g/\TV M.kind M.af.length X Y d T g/\Rd g 9 (.slice N M.af.length K) (fk V)/\UO M B xs ys i j V q T=G) _ (λC q=>?_) 3 (q:=1) ⟨by omega,by omega,rfl,_,_,x6,x7,x9,m⟩;intros;rename_i g5 x4;obtain⟨b1,b2,b3,y3,T6,r,I,P,E⟩:=x4;refine aa (λq3=>?_) (λq3=>?_)
    ·have hq:q=1\/q=2\/q=3:=by have:=dT q3;omega
     have x1:q<4:=by omega
     have y0:wrap .i64 ((q:Int)+1)=((q+1:Nat):Int):=bg x1 (by omega);refine⟨_,ahs hq,?_⟩;dsimp only;rw[ahr hq,NP (show i+q%2<=1000000000 by omega),NP (show j+q/2<=1000000000 by omega),y0];refine aa (λq4=>?_) (λq4=>aa (λq5=>?_) (λq5=>?_))
     ·have hc:xs.length<i+q%2\/ys.length<j+q/2:= .inl (by grind);exact cz (4-(q+1)) (by omega) ⟨by omega,by omega,rfl,_,_,r,I,P,by grind[Lu]⟩
     ·have hc:xs.length<i+q%2\/ys.length<j+q/2:= .inr (by grind);exact cz (4-(q+1)) (by omega) ⟨by omega,by omega,rfl,_,_,r,I,P,by grind[Lu]⟩
     ·have y2:¬xs.length<i+q%2:=by have:=dF q4;omega
      have y4:¬ys.length<j+q/2:=by have:=dF q5;omega
      rw[UP x1 (by omega)]at E;have h:=Zn (i:=i+q%2) (j:=j+q/2) (Q:=Q) (G:=λg=>aM (gp (gK xa xs.length xc ya ys.length yc k kt X b bn bc i j N M.af.length K) (λC q g=>1<=q/\q<=4/\C=4-q/\∃d T,TB h0 kt X Y X S d g/\TV M.kind M.af.length X Y d T g/\Rd g 9 (.slice N M.af.length K) (fk V)/\UO M B xs ys i j V q T=G)) C [(.slice xa xs.length xc),(.slice ya ys.length yc),(pA k),(.slice b bn bc),(sA kt X X),(iA i),(iA j),(.slice N M.af.length K),(iA (q+1))] g) w mo mb r I P vl (by omega) (by omega) (cm xs i (q%2)) (cm ys j (q/2))
       (λe g ok=>hQ _ _ ⟨by rw[e]at E;rw[<-E];rfl,ok⟩)
       (λT' e y5 g t1 t2 t3=>cz (4-(q+1)) (by omega) ⟨by omega,by omega,rfl,_,_,t1,t2,t3,by grind⟩)
      refine aa (λq6=>?_) (λq6=>?_)
      ·have h1:q%2=1:=by have:((q%2:Nat):Int)=1:=(by grind);omega
       obtain⟨p,t,O⟩:=dz.at_ (dz.ok rx r.ok) (i:=i) (by omega);have A:cm xs i (q%2)=xs.getD i 0:=if_pos h1;rw[A]at h;refine⟨_,t,_,O,aa (λq7=>?_) (λq7=>?_)⟩
       ·have U:q/2=1:=by have:((q/2:Nat):Int)=1:=(by grind);omega
        obtain⟨p,t,O⟩:=dz.at_ (dz.ok ry r.ok) (i:=j) (by omega);have A:cm ys j (q/2)=ys.getD j 0:=if_pos U;rw[A]at h;exact⟨_,t,_,O,h⟩
       ·have U:¬q/2=1:=λe=>by grind
        have A:cm ys j (q/2)=0:=if_neg U;rw[A]at h;exact h
      ·have h1:¬q%2=1:=λe=>by rw[e]at q6;exact absurd q6 (by decide)
       have A:cm xs i (q%2)=0:=if_neg h1;rw[A]at h;refine aa (λq7=>?_) (λq7=>?_)
       ·have U:q/2=1:=by have:((q/2:Nat):Int)=1:=(by simpa using q7);omega
        obtain⟨p,t,O⟩:=dz.at_ (dz.ok ry r.ok) (i:=j) (by omega);have A:cm ys j (q/2)=ys.getD j 0:=if_pos U;rw[A]at h;exact⟨_,t,_,O,h⟩
       grind
    ·obtain rfl:q=4:=by grind
     rw[ZY]at E;rw[bg s (by omega)];exact cz (Y-(j+1)) (by omega) ⟨by omega,rfl,_,_,r,I,E⟩
  ·obtain rfl:j=Y:=by grind
   rw[hY,ZX]at m;rw[bg f (by omega)];exact cz (X-(i+1)) (by omega) ⟨by omega,rfl,_,_,W,x2,m⟩
 ·obtain rfl:i=X:=by have:=dF q1;omega
  unfold RW at H;rw[hX,kg]at H;have H:qW (bo M.kind) (gm M) (eF T xs.length ys.length)=G:=H;have a:=L.room 15;have J:TV M.kind M.af.length i Y d T (Go.Ab.room g1 15):=Z.ok ((Ok.refl L.ok.wf).room 15);have F:=mb.ok a.ok;have f:xs.length<i:=by omega
  have s:ys.length<Y:=by omega
  obtain⟨ad,c,ec,rc,vc⟩:=J.at_ xs.length ys.length f s;have D:=a.ldV f s;rw[ec]at D;refine⟨_,F.all,_,FP BD BW f,_,_,_,a.ZM f (Nat.le_refl _),_,FP qp pZ s,_,_,_,D,(ab7 a.ok.wf mo F.row rc vc).mono ?_⟩;rintro _ g3 ⟨rfl,o3⟩;rw[H];obtain⟨l,n,t,O⟩:=ka (o:=G) (a.ok.trans o3)
  grind
end
end
section
theorem aab{a b:Nat}(d:a<n)(c:b<m)(l:List (List UInt8)):eF (List.replicate n (List.replicate m l)) a b=l:=by simp_all[eF]
theorem abx{X Y:Nat}(l:List (List UInt8)):(List.replicate X (List.replicate Y l)).length=X/\∀a,a<X->((List.replicate X (List.replicate Y l)).getD a []).length=Y:=by grind
section
variable {h0:ae} {M:bJ} {x:Option Addr} {z k kt:Nat} {xa ya:Option Addr} {xc yc:Nat} {xs ys:List Int} {B:Option LM} {b:Option Addr} {bn bc:Nat}
theorem aci(w:Wf h0)(E:Rm M)(mb:MB h0 k M x M.af.length z)(hx:xs.length<=200)(hy:ys.length<=200)(rx:dz h0 (.slice xa xs.length xc) xs)(ry:dz h0 (.slice ya ys.length yc) ys)(sb:StB M.kind M.af.length h0 b bn bc B){Q:VH}{g:ae}
  (ok:Ok h0 g) (hk:g.get kt=some (.cells (List.replicate (xs.length+1) nA) 103 1 true)) (nk:h0.next<=kt) (hQ:∀v g,oQ h0 (RW M B xs ys 0 (mc (bo M.kind) (gm M) xs ys)) v g->Q v g):
  LL SS dc [1,1,1,1,1,0,1,0,0] (nD xa xs.length xc ya ys.length yc k kt (xs.length+1) b bn bc 0) g (KK SS dc [1,1,1,1,1,0,1,0] [] (EE SS dc Q)):=by
 obtain⟨X,hX⟩:∃X,X=xs.length+1:=⟨_,rfl⟩
 obtain⟨Y,hY⟩:∃Y,Y=ys.length+1:=⟨_,rfl⟩
 obtain⟨f,L⟩:∃f,f=bK (bo M.kind) M.af.length:=⟨_,rfl⟩
 rw[<-hX]at hk⊢;have hn:=E.n;have t0:TB h0 kt X Y 0 (λ_=>0) (λ_ _=>nA) g:=by
  refine⟨?_,λa o=>by omega,⟨nk,λa o=>by omega⟩,λa b o=>by omega,ok⟩;rw[hk];congr 2;refine ext_getElem (by simp) λa h1 h2=>?_;simp
 refine GS (bM M x M.af.length z) xa xs.length xc ya ys.length yc k kt X b bn bc (λmz i g=>i<=X/\mz=X-i/\∃G r c,TB h0 kt X Y i G r g/\(∀a b,i<=a->r a b=nA)/\ZF h0 g M.af.length f r c (λa b=>a<i/\b<Y)) _ (λmz i=>?_) X (i:=0) ⟨by omega,rfl,_,_,λ_ _=>0,t0,λ_ _ _=>rfl,λa b s=>by omega⟩;intros;rename_i p x2;obtain⟨f1,f2,G,r,c,A,F,zf⟩:=x2;rw[bg (i:=ys.length) (n:=Y) (by omega) (by omega),<-hY];refine aa (λq1=>?_) (λq1=>?_)
 ·have K:i<X:=by have:=dT q1;omega
  have d:=A.ym ((Ok.refl A.ok.wf).push (.cells (List.replicate Y nA) 107 1 true));obtain⟨u,st,R,kp,nx⟩:=d.agq w K (aN p _) A.ok.nx (λa o=>by have:=A.ok.wf _ _ (A.row a o);omega) (λb=>F i b (Nat.le_refl _));refine⟨_,_,_,WR Y (by omega),_,FP BD BW K,u,st,?_⟩;have y2:∀q l,VB p q l->VB (p.push (.cells (List.replicate Y nA) 107 1 true)) q l:=λq l m=>((Ok.refl A.ok.wf).push (.cells (List.replicate Y nA) 107 1 true)).ext _ _ m;refine GU (bM M x M.af.length z) xa xs.length xc ya ys.length yc k kt X b bn bc _ mz i (λV j g=>j<=Y/\V=Y-j/\∃r c,TB h0 kt X Y (i+1) (λa=>if a=i then p.next else G a) r g/\(∀a b,i<a->r a b=nA)/\ZF h0 g M.af.length f r c (λa b=>b<Y/\(a<i\/(a=i/\b<j)))) _ (λV j=>?_) Y (j:=0) ⟨by omega,rfl,_,c,R,λa b o=>F a b (by omega),zf.mono (λq l m=>kp _ _ (y2 _ _ m)) (λa b s=>⟨by omega,s.1⟩)⟩;intros;rename_i J x1;obtain⟨d1,d2,y6,y3,I,C,U⟩:=x1;refine aa (λq2=>?_) (λq2=>?_)
  ·have hj:j<Y:=by have:=dT q2;omega
   have t:=I.room 9;have T:=mb.ok t.ok;have H:=t.ZM (i:=i) (by omega) (by omega);refine⟨_,FP BD BW K,_,_,_,H,_,T.all,(yN t.ok.wf E T.row).mono ?_⟩;rintro _ g3 ⟨kl,rfl,x0,nl,o3⟩;rw[<-L]at x0;have W:=t.ym o3;obtain⟨u,st,x6,_,N,_⟩:=W.abk w (i:=i) (j:=j) (by omega) hj (y:=sA kl M.af.length M.af.length) rfl rfl;have x8:∀q l,VB J q l->VB g3 q l:=λq l m=>o3.ext _ _ m;refine⟨_,_,_,rfl,_,FP qp pZ hj,u,st,⟨W.ZM (by omega) (by omega),mj _ _ _⟩,?_⟩;rw[bg hj (by omega)];refine cz (Y-(j+1)) (by omega) ⟨by omega,rfl,_,_,x6,λa b o=>?_,U.add (λq l m=>?_) (λq l m=>N _ _ (x8 _ _ m)) (N _ _ x0) (Nat.le_trans t.ok.nx nl) ?_ (λa b s=>?_) (λe a b s=>by omega)⟩
   ·unfold up2;rw[if_neg (by omega)];exact C a b o
   ·have:q<J.next:=I.ok.wf _ _ m;have:J.next<=(Go.Ab.room J 9).next:=Nat.le_add_right _ _;omega
   all_goals omega
  ·obtain rfl:j=Y:=by grind
   rw[bg K (by omega)];exact cz (X-(i+1)) (by omega) ⟨by omega,rfl,_,_,_,I,λa b o=>C a b (by omega),U.mono (λ_ _ m=>m) (λa b s=>⟨s.2,by omega⟩)⟩
 ·obtain rfl:i=X:=by have:=dF q1;omega
  have d:=A.room 11;have S:=mb.ok d.ok;have h:0<i/\0<Y:=by omega
  obtain⟨x4,y0,x9,_⟩:=zf 0 0 h;have H:=d.ZM (i:=0) h.1 (Nat.le_refl _);have Z:=d.ldV (i:=0) (j:=0) h.1 h.2;rw[x4]at Z;have D:VB (Go.Ab.room p 11) (c 0 0) f:=y0;have l1:=S.l1;have x7:M.start.toNat<M.af.length:=by have:=E.start;omega
  have x3:M.start=((M.start.toNat:Nat):Int):=by have:=E.start;omega
  rw[x3]at l1;have P:f.length=M.af.length:=by rw[L];exact Qh _ _
  refine⟨_,FP BD BW (i:=0) h.1,_,_,_,H,_,FP qp pZ (i:=0) h.2,_,_,_,Z,_,wJ _,_,l1,_,oX _,_,S.l2,_,VB.ix ty x7,_,D.st ty (by omega) _,?_⟩;have m:=d.ok.wf _ _ D;have R:TB h0 kt i Y i G r ((eu.set (c 0 0) (.cells (fk (f.set M.start.toNat M.lead)) 9 1 true)).app (Go.Ab.room p 11)):=by
   refine⟨?_,λa o=>?_,d.new,d.inj,d.ok.set _ x9 m w⟩
   ·show((Go.Ab.room p 11).set (c 0 0) _).get kt=_;rw[ae.ay,if_neg (mf d.out D (by decide))];exact d.out
   ·have:=d.row a o;show((Go.Ab.room p 11).set (c 0 0) _).get (G a)=_;rw[ae.ay,if_neg (mf this D (by decide))];exact this
  have vz:VV M.kind M.af.length f:=by rw[L];exact VV.Rk E.kind _
  have y4:TV M.kind M.af.length i Y r (mc (bo M.kind) (gm M) xs ys) ((eu.set (c 0 0) (.cells (fk (f.set M.start.toNat M.lead)) 9 1 true)).app (Go.Ab.room p 11)):=by
   have e0:mc (bo M.kind) (gm M) xs ys=gj (List.replicate i (List.replicate Y f)) 0 0 (f.set M.start.toNat M.lead):=by
    unfold mc;rw[FL,<-L,<-hX,<-hY];rfl
   rw[e0];obtain⟨r1,r2⟩:=abx (X:=i) (Y:=Y) f;obtain⟨s1,s2⟩:=Nr r1 r2 h.1 h.2 (f.set M.start.toNat M.lead);refine⟨s1,s2,λa b o O=>?_⟩;rw[LD r1 r2 h.1 h.2,aab o O];obtain⟨ec,x5,y5,y1⟩:=zf a b ⟨o,O⟩;by_cases e:a=0/\b=0
   ·rw[if_pos e];obtain⟨rfl,rfl⟩:=e;refine⟨some ⟨c 0 0,0,none⟩,M.af.length,ec,?_,vz.set E.lead⟩;have v1:VB ((eu.set (c 0 0) (.cells (fk (f.set M.start.toNat M.lead)) 9 1 true)).app (Go.Ab.room p 11)) (c 0 0) (f.set M.start.toNat M.lead):=by
     show((Go.Ab.room p 11).set (c 0 0) _).get (c 0 0)=_;rw[ae.ay,if_pos rfl]
    have:=v1.rd M.af.length;rw[List.length_set,P]at this;exact this
   ·rw[if_neg e];refine⟨some ⟨c a b,0,none⟩,M.af.length,ec,?_,vz⟩;have v1:VB ((eu.set (c 0 0) (.cells (fk (f.set M.start.toNat M.lead)) 9 1 true)).app (Go.Ab.room p 11)) (c a b) f:=by
     show((Go.Ab.room p 11).set (c 0 0) _).get (c a b)=_;rw[ae.ay,if_neg (y1.resolve_left e)];exact x5
    have:=v1.rd M.af.length;rw[P]at this;exact this
  grind[acj]
end
def wtQ(h:ae)(M:bJ)(xs ys:List Int):VH:=λv g=>v=(if(db M&&(fq xs&&fq ys))=true then Pd (ft (bo M.kind) (gm M) xs ys)else two [] 1)/\Ok h g
theorem aen(w:Wf h){M:bJ}(U:Small M){x:Option Addr}{y z:Nat}(r:dR h (.slice x y z) M.af){xa ya:Option Addr}{S xc I yc:Nat}{xs ys:List Int}(A:dz h (.slice xa S xc) xs)(E:dz h (.slice ya I yc) ys):
  FW SS 48 [.agg ⟨bM M x y z⟩,.slice xa S xc,.slice ya I yc] h (wtQ h M xs ys):=by
 obtain⟨k,u⟩:=fv w r;obtain rfl:y=M.af.length:=k.len;obtain rfl:=dz.len A;obtain rfl:=dz.len E;refine aem (bM M x M.af.length z) xa xs.length xc ya ys.length yc h _ ⟨_,iO M x _ z,_,k.all,(yv u.wf U k.row).mono ?_⟩;rintro _ R ⟨rfl,H⟩;have c:=u.trans H;refine⟨_,rfl,aa (λq=>⟨?_,c⟩) (λq=>(BN (dz.ok A c)).mono ?_)⟩
 ·rw[not_eq_true']at q;rw[q];rfl
 rw[not_eq_false']at q;rintro _ C ⟨rfl,F⟩;obtain rfl:R=C:=F.symm;refine⟨_,rfl,aa (λj=>⟨?_,c⟩) (λj=>(BN (dz.ok E c)).mono ?_)⟩
 ·rw[not_eq_true']at j;rw[q,j];rfl
 rw[not_eq_false']at j;rintro _ C ⟨rfl,F⟩;obtain rfl:R=C:=F.symm;refine⟨_,rfl,aa (λm=>⟨?_,c⟩) (λm=>?_)⟩
 ·rw[not_eq_true']at m;rw[q,j,m];rfl
 rw[not_eq_false']at m;have P:∀g v,oQ h (ft (bo M.kind) (gm M) xs ys) v g->wtQ h M xs ys v g:=λg v a=>by
  refine⟨?_,a.2⟩;rw[q,j,m];exact a.1
 have J:=CE q;have t:=k.ok H;have D:∀l,fq l=true->l.length<=200:=λl D=>by simp_all[fq]
 have X:=D xs j;have hy:=D ys m;refine⟨_,t.all,(ab9 c.wf J t.row).mono ?_⟩;rintro _ p ⟨L,a⟩;have f:=c.trans L;have N:=t.ok L;have s:∀(B:Option LM)(b:Option Addr)(bn bc:Nat),eG (bo M.kind) (gm M)=some B->StB M.kind M.af.length p b bn bc B->au (((0:Int) !=0)) (wtQ h M xs ys (.tuple ⟨[(strOf []),(.int .i64 0)]⟩) p) (xR (cF SS.P 106 (.int .i64 (wrap .i64 ((xs.length:Int)+1))) (.int .i64 (wrap .i64 ((xs.length:Int)+1)))) p λx0 O G K=>LL SS dc [1,1,1,1,1,0,1,0,0] [(.slice xa xs.length xc),(.slice ya ys.length yc),(pA (h.next)),(.slice b bn bc),(sA (p.next) O G),(.int .i64 0)] K (KK SS dc [1,1,1,1,1,0,1,0] [] (EE SS dc (wtQ h M xs ys)))):=by
  intro B b bn bc Y sb;refine aa (λe=>by cases e) (λ_=>?_);rw[bg (i:=xs.length) (n:=xs.length+1) (by omega) (by omega)];refine⟨_,_,_,afB (xs.length+1) (by omega),?_⟩;have V:=(Ok.refl f.wf).push (.cells (List.replicate (xs.length+1) nA) 103 1 true);have T:RW M B xs ys 0 (mc (bo M.kind) (gm M) xs ys)=ft (bo M.kind) (gm M) xs ys:=by
   unfold RW ft;rw[Y,Nat.sub_zero];dsimp only
   cases bt (tL (bo M.kind) (gm M) B xs ys) (xs.length+1) 0 (mc (bo M.kind) (gm M) xs ys)<;>rfl
  exact aci (kt:=p.next) f.wf J N X hy (dz.ok A f) (dz.ok E f) sb V (aN p _) (Nat.le_refl _) (λv g a=>P g v ⟨by rw[<-T];exact a.1,f.trans a.2⟩)
 cases e:eG (bo M.kind) (gm M)with
 |none=>
  rw[e]at a;subst a;exact⟨_,_,_,_,rfl,aa (λ_=>P _ _ ⟨by unfold ft;rw[e];rfl,f⟩) (λe=>by cases e)⟩
 | some o=>
  cases o with
  |none=>
   rw[e]at a;subst a;exact⟨_,_,_,_,rfl,s none none 0 0 e ⟨rfl,rfl,rfl⟩⟩
  |some B=>
   rw[e]at a;obtain⟨Q,d,rfl,Z,W⟩:=a;exact⟨_,_,_,_,rfl,s (some B) (some Q) _ d e ⟨⟨Q,rfl⟩,rfl,Z,W⟩⟩
end
end Go.Proofs.YtaaichlgdgjgjaaGreatDoor
end
section
namespace Go.Proofs.YtaaichlgdgjgjaaGreatDoor
open Go Go.Ab Go.Num Go.Num.aW
variable{p:List Int}{z:Int}
section
section
variable {K:Type} {S:aW K} {dec:List UInt8->K} {kind:Int}
def rR(S:aW K)(dec:List UInt8->K)(M:bJ):bp K:=fs S (mapM dec (gm M))
def iG(S:aW K)(dec:List UInt8->K)(M:bJ):DN K:=λx y=>S.mul (dec M.lead) (bp.val S (rR S dec M) x y M.start.toNat)
theorem aft(m:1<=kind/\kind<=3)(f:vM S dec kind):Ji (bo kind) (aq S) (λa=>aO kind a=true) dec where
 zero:=⟨yQ m,f.zero⟩
 one:=by
  refine⟨?_,f.one⟩;have:kind=1\/kind=2\/kind=3:=by omega
  show aO kind (r6 kind)=true;rcases this with rfl|rfl|rfl
  ·exact py.2 (.inr (.inr (by decide)))
  ·exact B9 (.inl rfl)
  ·exact B9 (.inr rfl)
 A4:=λ{a} h=>by
  have d:(aq S).A4 (dec a)=true↔dec a=S.zero:=xZ;have g:(bo kind).A4 a=true↔a=bP kind:=by show(a==bP kind)=true↔_;simp
  have l:dec a=S.zero↔a=bP kind:=⟨λe=>f.inj h (yQ m) (e.trans f.zero.symm),λe=>by rw[e];exact f.zero⟩
  cases j:(aq S).A4 (dec a)<;>cases k:(bo kind).A4 a
  ·rfl
  ·rw[d.2 (l.2 (g.1 k))]at j;cases j
  ·rw[g.2 (l.1 (d.1 j))]at k;cases k
  ·rfl
 plus:=λ{a b c} h i e=>by
  obtain⟨d,g⟩:=f.plus h i e;exact⟨d,by show some _=some _;rw[g]⟩
 times:=λ{a b c} h i e=>by
  obtain⟨d,g⟩:=f.times h i e;exact⟨d,by show some _=some _;rw[g]⟩
 star:=λ{a c} h e=>by
  obtain⟨d,g⟩:=f.star h e;exact⟨d,by show some _=some _;rw[g]⟩
variable {M:bJ}
theorem aek(d:Rm M):EG (λa=>aO M.kind a=true) (gm M):=by
 refine⟨d.lead,λs g f c=>?_,λs g a j=>?_⟩
 ·obtain⟨t,h,rfl⟩:=mem_map.1 g;by_cases e:t.f=[]
  ·have:(El t).fin=none:=if_pos e;rw[this]at c;cases c
  ·have:(El t).fin=some t.f:=if_neg e;rw[this]at c;obtain rfl:=oI c;exact d.fin t h e
 ·obtain⟨t,h,rfl⟩:=mem_map.1 g;obtain⟨b,i,rfl⟩:=mem_map.1 j;exact(d.arc t h b i).1
theorem aaU(g:Rm M):mJ (mapM dec (gm M)):=λs h a i=>by
 obtain⟨t,k,rfl⟩:=mem_map.1 h;obtain⟨j,c,rfl⟩:=mem_map.1 k;obtain⟨b,f,rfl⟩:=mem_map.1 i;obtain⟨e,d,rfl⟩:=mem_map.1 f;have:=g.arc j c e d;show e.t.toNat<((M.af.map El).map (qd dec)).length;rw[lM,lM];omega
theorem KG(h:fq p=true):∀s∈p,s≠0:=λs a e=>by
 unfold fq at h;rw[and_eq_true,all_eq_true]at h;have:=h.2 s a;rw[e]at this;exact absurd this (by decide)
theorem Zo(f:vM S dec M.kind)(a:Rm M){x y:List Int}(c:∀s∈x,s≠0)(h:∀s∈y,s≠0){w:List UInt8}(e:ft (bo M.kind) (gm M) x y=some w):aO M.kind w=true/\dec w=iG S dec M x y:=by
 obtain⟨d,g⟩:=Jv (aft a.kind f) (aek a) e;refine⟨d,?_⟩;have b:(mapM dec (gm M)).start<(mapM dec (gm M)).bT.length:=by
  show M.start.toNat<((M.af.map El).map (qd dec)).length;rw[lM,lM];have:=a.start;omega
 exact Oo (aaU a) b c h g
def NK(dec:List UInt8->K)(a:jj):sL K:=⟨a.i,a.o,dec a.w,a.t.toNat⟩
theorem As(M:bJ):(rR S dec M).n=M.af.length:=by
 show((M.af.map El).map (qd dec)).length=_;rw[lM,lM]
theorem acS{q:Nat}{s:dW}(h:M.af[q]?=some s):(mapM dec (gm M)).bT.getD q ew=qd dec (El s):=by
 show((M.af.map El).map (qd dec)).getD q ew=_;rw[gD,getElem?_map,getElem?_map,h];rfl
theorem s9{q:Nat}{s:dW}(h:M.af[q]?=some s):(rR S dec M).fin q=if s.f=[]then S.zero else dec s.f:=by
 show((mapM dec (gm M)).bT.getD q ew).fin.getD S.zero=_;rw[acS h];show((if s.f=[]then none else some s.f:Option (List UInt8)).map dec).getD S.zero=_;split<;>rfl
theorem iu{q:Nat}{s:dW}(h:M.af[q]?=some s):(rR S dec M).arcs q=s.arcs.map (NK dec):=by
 show(bO (mapM dec (gm M)) q).map _=_;show(((mapM dec (gm M)).bT.getD q ew).arcs).map _=_;rw[acS h];show((s.arcs.map FI).map (mapA dec)).map _=_;rw[map_map,map_map];rfl
theorem Zd(low:Nat){a:jj}(h:0<=a.t):NK dec (K1 low a)=Dk low (NK dec a):=by
 unfold NK K1 Dk;have:(a.t+(low:Int)).toNat=low+a.t.toNat:=by omega
 rw[this]
theorem LC(low:Nat){s:dW}(h:∀a∈s.arcs,0<=a.t):(s.arcs.map (K1 low)).map (NK dec)=(s.arcs.map (NK dec)).map (Dk low):=by
 rw[map_map,map_map];exact List.map_congr_left λa b=>Zd low (h a b)
variable {C X:bJ} {L R:List dW} {low:Nat}
theorem Eg{f:dW->dW}(a:C.af=L++X.af.map f++R)(b:L.length=low){q:Nat}{s:dW}(h:X.af[q]?=some s):C.af[low+q]?=some (f s):=by
 have c:=(List.getElem?_eq_some_iff.1 h).1;rw[a,append_assoc,List.getElem?_append_right (by omega),List.getElem?_append_left (by rw[lM];omega),show low+q-L.length=q by omega,getElem?_map,h];rfl
theorem Aa(j:C.af=L++X.af.map (lC low none)++R)(l:L.length=low)(k:BY X){t:Nat}(o:t<C.af.length/\(t<low\/low+X.af.length<=t)):∀x y,∀q,q<X.af.length->bp.val S (rR S dec C) x y (low+q)=bp.val S (rR S dec X) x y q:=by
 have i:(rR S dec X).n=X.af.length:=As X;have f:∀q,q<(rR S dec X).n->∃s,X.af[q]?=some s:=λq d=>⟨_,gE (by omega)⟩
 have b:lE (rR S dec C) (rR S dec X) low (λ_=>none) t:=by
  refine⟨?_,?_,λq d a g=>?_,λq d=>?_⟩
  ·rw[i,As,j];simp;omega
  ·rw[i,As];exact o
  ·obtain⟨s,c⟩:=f q d;rw[iu c]at g;obtain⟨m,n,rfl⟩:=mem_map.1 g;have:=k.to s (List.mem_of_getElem? c) m n;rw[i];show m.t.toNat<_;omega
  ·obtain⟨s,c⟩:=f q d;rw[iu c,iu (Eg j l c)];have e:(lC low none s).arcs=s.arcs.map (K1 low):=by unfold lC wN;split<;>rfl
   rw[e,LC low λa g=>(k.to s (List.mem_of_getElem? c) a g).1];exact(append_nil _).symm
 intro x y q d;refine b.kL (λ_ _=>rfl) (λq d=>?_) (x.length+y.length) x y (Nat.le_refl _) q (by omega);obtain⟨s,c⟩:=f q d;rw[s9 c,s9 (Eg j l c)];have e:(lC low none s).f=s.f:=by
  unfold lC wN;split
  ·next h=>exact h.symm
  ·rfl
 rw[e]
def WK(dec:List UInt8->K)(X:bJ)(q:Nat):Option K:=match X.af[q]? with
 |some s=>if s.f=[]then none else some (dec s.f)
 |none=>none
theorem Iu(low:Nat)(a:Int)(s:dW):(lC low (some a) s).arcs=s.arcs.map (K1 low)++(if s.f=[]then[]else[⟨0,0,s.f,a⟩])/\(lC low (some a) s).f=[]:=by
 unfold lC wN;split
 ·exact⟨(append_nil _).symm,rfl⟩
 ·exact⟨rfl,rfl⟩
theorem AO(g:C.af=L++X.af.map (lC low (some z))++R)(i:L.length=low)(h:BY X)(l:z.toNat<C.af.length/\(z.toNat<low\/low+X.af.length<=z.toNat)):lE (rR S dec C) (rR S dec X) low (WK dec X) z.toNat/\(∀q,q<(rR S dec X).n->zk S (WK dec X q)=(rR S dec X).fin q)/\(∀q,q<(rR S dec X).n->(rR S dec C).fin (low+q)=S.zero):=by
 have f:(rR S dec X).n=X.af.length:=As X;have d:∀q,q<(rR S dec X).n->∃s,X.af[q]?=some s:=λq c=>⟨_,gE (by omega)⟩
 refine⟨⟨?_,?_,λq c a e=>?_,λq c=>?_⟩,λq c=>?_,λq c=>?_⟩
 ·rw[f,As,g];simp;omega
 ·rw[f,As];exact l
 ·obtain⟨s,b⟩:=d q c;rw[iu b]at e;obtain⟨j,k,rfl⟩:=mem_map.1 e;have:=h.to s (List.mem_of_getElem? b) j k;rw[f];show j.t.toNat<_;omega
 ·obtain⟨s,b⟩:=d q c;rw[iu b,iu (Eg g i b),(Iu low z s).1,map_append,LC low λa e=>(h.to s (List.mem_of_getElem? b) a e).1];congr 1;unfold WK;rw[b];dsimp only;split<;>rfl
 ·obtain⟨s,b⟩:=d q c;rw[s9 b];unfold WK zk;rw[b];dsimp only;split<;>rfl
 ·obtain⟨s,b⟩:=d q c;rw[s9 (Eg g i b),(Iu low z s).2,if_pos rfl]
theorem Fe{to:Int}(h:C.af=L++X.af.map (lC low (some to))++R)(c:L.length=low)(a:BY X)(g:to.toNat<C.af.length/\(to.toNat<low\/low+X.af.length<=to.toNat)):∀x y,∀q,q<X.af.length->bp.val S (rR S dec C) x y (low+q)=conv S (rR S dec X) (λx y=>bp.val S (rR S dec C) x y to.toNat) x y q:=by
 obtain⟨b,d,f⟩:=AO (S:=S) (dec:=dec) h c a g;intro x y q e;exact b.link d f (x.length+y.length) x y (Nat.le_refl _) q (by rw[As];exact e)
end
end
variable{n:Nat}
section
section
variable {K:Type} {S:aW K} {dec:List UInt8->K} {A B:bJ}
theorem Pa(a:1<=A.kind/\A.kind<=3):ct A.kind≠[]:=by grind[Ai,r6]
theorem AW(x y:List Int):emp S x y S.zero=S.zero:=by grind[emp]
theorem tn(h:0<=z):((n:Int)+z).toNat=n+z.toNat:=by omega
theorem zG:(gG A B).af=⟨[],[⟨0,0,A.lead,((1:Nat):Int)+A.start⟩,⟨0,0,B.lead,((A.af.length+1:Nat):Int)+B.start⟩]⟩::(A.af.map (lC 1 none)++B.af.map (lC (A.af.length+1) none)):=by grind[gG,rY]
theorem Ul(h:BY A)(i:BY B)(m:dec (ct A.kind)=S.one)(x y:List Int):iG S dec (gG A B) x y=S.add (iG S dec A x y) (iG S dec B x y):=by
 have d:=zG (A:=A) (B:=B);have g:(gG A B).af[0]?=some ⟨[],[⟨0,0,A.lead,((1:Nat):Int)+A.start⟩,⟨0,0,B.lead,((A.af.length+1:Nat):Int)+B.start⟩]⟩:=by rw[d];rfl
 have f:(gG A B).af.length=1+A.af.length+B.af.length:=by rw[d];simp;omega
 have n:=h.start;have j:=i.start;have l:((((1:Nat):Int)+A.start)).toNat=1+A.start.toNat:=tn n.1;have o:((((A.af.length+1:Nat):Int)+B.start)).toNat=(A.af.length+1)+B.start.toNat:=tn j.1;have k:bp.val S (rR S dec (gG A B)) x y 0=S.add (S.mul (dec A.lead) (bp.val S (rR S dec A) x y A.start.toNat)) (S.mul (dec B.lead) (bp.val S (rR S dec B) x y B.start.toNat)):=by
  have c:∀a∈(rR S dec (gG A B)).arcs 0,a.i=0/\a.o=0/\a.t<(rR S dec (gG A B)).n:=λa c=>by
   rw[iu g]at c;rw[As,f];obtain⟨b,e,rfl⟩:=mem_map.1 c;rcases mem_cons.1 e with rfl|e
   ·exact⟨rfl,rfl,by show(((1:Nat):Int)+A.start).toNat<_;omega⟩
   ·have:=mem_singleton.1 e;subst this;exact⟨rfl,rfl,by show(((A.af.length+1:Nat):Int)+B.start).toNat<_;omega⟩
  rw[oe (by grind[As]) c,iu g,s9 g,if_pos rfl,AW,S.zero_add];show S.add (S.mul (dec A.lead) (bp.val S (rR S dec (gG A B)) x y (((1:Nat):Int)+A.start).toNat)) (S.add (S.mul (dec B.lead) (bp.val S (rR S dec (gG A B)) x y (((A.af.length+1:Nat):Int)+B.start).toNat)) S.zero)=_;rw[add_zero,l,o];rw[Aa (S:=S) (dec:=dec) (C:=gG A B) (X:=A) (L:=[⟨[],[⟨0,0,A.lead,((1:Nat):Int)+A.start⟩,⟨0,0,B.lead,((A.af.length+1:Nat):Int)+B.start⟩]⟩]) (R:=B.af.map (lC (A.af.length+1) none)) (low:=1) (by grind) rfl h (t:=0) ⟨by omega,by omega⟩ x y _ (by omega)];rw[Aa (S:=S) (dec:=dec) (C:=gG A B) (X:=B) (L:=⟨[],[⟨0,0,A.lead,((1:Nat):Int)+A.start⟩,⟨0,0,B.lead,((A.af.length+1:Nat):Int)+B.start⟩]⟩::A.af.map (lC 1 none)) (R:=[]) (low:=A.af.length+1) (by grind) (by simp) i (t:=0) ⟨by omega,by omega⟩ x y _ (by omega)]
 show S.mul (dec (ct A.kind)) (bp.val S (rR S dec (gG A B)) x y 0)=_;rw[m,S.one_mul,k];rfl
theorem PX(b:BY A)(d:BY B){c:List UInt8}(l:dec c=S.mul (dec A.lead) (dec B.lead))(x y:List Int):iG S dec (fp A B c) x y=rW S (iG S dec A) (iG S dec B) x y:=by
 have j:=b.start;have m:=d.start;have a:(fp A B c).af=[]++B.af.map (lC 0 none)++A.af.map (lC B.af.length (some (((0:Nat):Int)+B.start))):=rfl;have f:(fp A B c).af.length=B.af.length+A.af.length:=by rw[a];simp
 have k:(((0:Nat):Int)+B.start).toNat=B.start.toNat:=by omega
 have g:((B.af.length:Int)+A.start).toNat=B.af.length+A.start.toNat:=tn j.1;have h:=Fe (S:=S) (dec:=dec) (C:=fp A B c) (X:=A) (L:=[]++B.af.map (lC 0 none)) (R:=[]) (low:=B.af.length) (to:=((0:Nat):Int)+B.start) (by grind) (by simp) b ⟨by omega,by omega⟩;have i:=Aa (S:=S) (dec:=dec) (C:=fp A B c) (X:=B) (L:=[]) (R:=A.af.map (lC B.af.length (some (((0:Nat):Int)+B.start)))) (low:=0) a rfl d (t:=B.af.length) ⟨by omega,by omega⟩;show S.mul (dec c) (bp.val S (rR S dec (fp A B c)) x y ((B.af.length:Int)+A.start).toNat)=_;rw[g,h x y _ (by omega),l,k];have e:(λx y=>bp.val S (rR S dec (fp A B c)) x y B.start.toNat)=λx y=>bp.val S (rR S dec B) x y B.start.toNat:=by
  funext x y;have:=i x y B.start.toNat (by omega);rw[Nat.zero_add]at this;exact this
 rw[e];rw[S.mul_assoc];show S.mul (dec A.lead) (S.mul (dec B.lead) (conv S (rR S dec A) (λx y=>bp.val S (rR S dec B) x y B.start.toNat) x y A.start.toNat))=_;rw[<-S.mul_assoc,S.mul_comm (dec A.lead),S.mul_assoc,B2];rw[<-N8];rfl
theorem ad7(b:BY A)(g:1<=A.kind/\A.kind<=3)(f:dec (ct A.kind)=S.one):tH S (rR S dec (fC A)) (rR S dec A) (WK dec A) (dec A.lead) A.start.toNat:=by
 have j:=b.start;have a:(fC A).af=[⟨ct A.kind,[⟨0,0,A.lead,((1:Nat):Int)+A.start⟩]⟩]++A.af.map (lC 1 (some ((0:Nat):Int)))++[]:=by unfold fC;simp
 have c:(fC A).af[0]?=some ⟨ct A.kind,[⟨0,0,A.lead,((1:Nat):Int)+A.start⟩]⟩:=rfl;have d:(fC A).af.length=1+A.af.length:=by rw[a];simp;omega
 obtain⟨h,i,e⟩:=AO (S:=S) (dec:=dec) (C:=fC A) (X:=A) a rfl b ⟨by omega,by omega⟩;refine⟨h,by grind[As],i,e,?_,?_,by grind[As]⟩
 ·rw[iu c]
  grind[NK]
 ·rw[s9 c,if_neg (Pa g),f]
theorem NL(b:1<=A.kind/\A.kind<=3)(a:dec (ct A.kind)=S.one)(x y:List Int):iG S dec (fC A) x y=bp.val S (rR S dec (fC A)) x y 0:=by
 show S.mul (dec (ct A.kind)) (bp.val S (rR S dec (fC A)) x y 0)=_;rw[a,S.one_mul]
theorem KP(c:BY A)(b:1<=A.kind/\A.kind<=3)(a:dec (ct A.kind)=S.one)(x y:List Int):iG S dec (fC A) x y=S.add (unit S x y) (rW S (iG S dec A) (iG S dec (fC A)) x y):=by
 have e:(iG S dec (fC A))=λx y=>bp.val S (rR S dec (fC A)) x y 0:=by funext x y;exact NL b a x y
 rw[e];exact(ad7 c b a).fix x y
def Ki(S:aW K)(F:DN K)(n:Int):Nat->DN K
 |0=>λx y=>if n<=0 then unit S x y else S.zero
 |m+1=>λx y=>S.add (if n<=0 then unit S x y else S.zero) (rW S F (Ki S F (n-1) m) x y)
theorem IN{m:Nat}:∀{i j:Nat},j<i->∃L R,ny A m i=L++A.af.map (lC (m+1+j*A.af.length) (some ((j+1:Nat):Int)))++R/\L.length=j*A.af.length
 |i+1,j,h=>by
  rw[vj];by_cases e:j=i
  ·subst e;exact⟨ny A m j,[],by grind,tw j⟩
  ·obtain⟨L,R,a,b⟩:=IN (i:=i) (j:=j) (by omega);exact⟨L,R++_,by rw[a,append_assoc],b⟩
theorem ab1(p:BY A)(q:1<=A.kind/\A.kind<=3)(h:dec (ct A.kind)=S.one)(n:Int)(m:Nat)(x y:List Int):iG S dec (qn A n m) x y=Ki S (iG S dec A) n m x y:=by
 have v:=p.start;have g:(qn A n m).af=kf A n m m++ny A m m:=rfl;have b:(qn A n m).af.length=m+1+m*A.af.length:=by rw[g,length_append,jN,tw]
 have k:∀d j,j+d=m->∀x y,bp.val S (rR S dec (qn A n m)) x y j=Ki S (iG S dec A) (n-j) d x y:=by
  intro d
  induction d with
  | zero=>
   intro j w x y;obtain rfl:j=m:=by omega
   have f:(qn A n j).af[j]?=some ⟨if(j:Int)>=n then ct A.kind else[],[]⟩:=by
    rw[g,List.getElem?_append_left (by rw[jN];omega)];exact Na (by omega)
   rw[oe (by rw[As,b];omega) (λa e=>by rw[iu f]at e;cases e),iu f,s9 f];show S.add _ S.zero=if n-j<=0 then unit S x y else S.zero;rw[add_zero];by_cases c:(j:Int)>=n
   ·rw[if_pos c,if_neg (Pa q),if_pos (by omega),h];rfl
   ·rw[if_neg c,if_pos rfl,if_neg (by omega),AW]
  | succ d t=>
   intro j w x y;have f:(qn A n m).af[j]?=some ⟨if(j:Int)>=n then ct A.kind else[],[⟨0,0,A.lead,((m+1+j*A.af.length:Nat):Int)+A.start⟩]⟩:=by
    rw[g,List.getElem?_append_left (by rw[jN];omega)];unfold kf;rw[getElem?_map,getElem?_range (by omega),map_some,if_pos (show j<m by omega)]
   have z:j*A.af.length+A.af.length<=m*A.af.length:=by
    have:(j+1)*A.af.length<=m*A.af.length:=Nat.mul_le_mul_right _ (by omega);rwa[Nat.add_mul,Nat.one_mul]at this
   have l:(((m+1+j*A.af.length:Nat):Int)+A.start).toNat=(m+1+j*A.af.length)+A.start.toNat:=tn v.1;have e:∀a∈(rR S dec (qn A n m)).arcs j,a.i=0/\a.o=0/\a.t<(rR S dec (qn A n m)).n:=λa e=>by
    rw[iu f]at e;rw[As,b];have:=mem_singleton.1 e;subst this;exact⟨rfl,rfl,by unfold NK;dsimp only;rw[l];omega⟩
   rw[oe (by rw[As,b];omega) e,iu f,s9 f];show S.add _ (S.add (S.mul (dec A.lead) (bp.val S (rR S dec (qn A n m)) x y (((m+1+j*A.af.length:Nat):Int)+A.start).toNat)) S.zero)=S.add (if n-j<=0 then unit S x y else S.zero) (rW S (iG S dec A) (Ki S (iG S dec A) (n-j-1) d) x y);rw[add_zero,l];congr 1
   ·by_cases c:(j:Int)>=n
    ·rw[if_pos c,if_neg (Pa q),if_pos (by omega),h];rfl
    ·rw[if_neg c,if_pos rfl,if_neg (by omega),AW]
   ·obtain⟨L,R,r,o⟩:=IN (A:=A) (m:=m) (i:=m) (j:=j) (by omega);have s:=Fe (S:=S) (dec:=dec) (C:=qn A n m) (X:=A) (L:=kf A n m m++L) (R:=R) (low:=m+1+j*A.af.length) (to:=((j+1:Nat):Int)) (by rw[g,r];simp) (by rw[length_append,jN,o]) p ⟨by rw[b];omega,by omega⟩;rw[s x y _ (by omega),B2];refine N7 (λ_ _ _ _=>rfl) λD B _ _=>?_;have u:((j+1:Nat):Int).toNat=j+1:=by omega
    rw[u,t (j+1) (by omega)];congr 1;omega
 show S.mul (dec (ct A.kind)) (bp.val S (rR S dec (qn A n m)) x y 0)=_;rw[h,S.one_mul,k m 0 (by omega)]
 grind
end
end
end Go.Proofs.YtaaichlgdgjgjaaGreatDoor
end
section
namespace Go.Proofs.YtaaichlgdgjgjaaGreatDoor
open Go Go.Ab Go.Num
variable{M:bJ}{z:Int}{n:Nat}{m:Nat}{k:Nat}
section
structure StW(kind:Int)(N:Nat)(s:dW):Prop where
 f:s.f=[]\/bq kind s.f=true
 a:∀q∈s.arcs,jf kind N q=true
theorem Ny{a:Int}{N:Nat}:∀{l:List dW}{b:Int},b+bV l<=30000->(∀s∈l,StW a N s)->qq a N b l=true
 |[],_,_,_=>rfl
 |s::l,b,h,c=>by
  rw[dy]at h;have d:=c s (List.mem_cons_self ..);unfold qq;rw[and_eq_true,and_eq_true,and_eq_true];refine⟨⟨⟨decide_eq_true (by omega),?_⟩,all_eq_true.2 d.a⟩,Ny (by omega) λt f=>c t (List.mem_cons_of_mem _ f)⟩;rcases d.f with e|e
  all_goals grind
structure K0(M:bJ):Prop where
 kind:1<=M.kind/\M.kind<=3
 n:1<=M.af.length/\M.af.length<=3000
 start:0<=M.start/\M.start<M.af.length
 lead:bq M.kind M.lead=true
 sum:bV M.af<=30000
 st:∀s∈M.af,StW M.kind M.af.length s
theorem K0.valid(v:K0 M):db M=true:=by
 unfold db;simp only[and_eq_true,decide_eq_true_eq];exact⟨⟨⟨⟨⟨⟨⟨v.kind.1,v.kind.2⟩,v.n.1⟩,v.n.2⟩,v.start.1⟩,v.start.2⟩,v.lead⟩,Ny (by have:=v.sum;omega) v.st⟩
theorem KQ(h:db M=true)(a:bV M.af<=30000):K0 M:=by
 unfold db at h;simp only[and_eq_true,decide_eq_true_eq]at h;obtain⟨⟨⟨⟨⟨⟨⟨d,e⟩,b⟩,g⟩,k⟩,j⟩,f⟩,c⟩:=h;refine⟨⟨d,e⟩,⟨b,g⟩,⟨k,j⟩,f,a,λs a=>?_⟩;obtain⟨l,i⟩:=CX c s a;refine⟨?_,i⟩
 grind
theorem Gp{a:List UInt8}(h:aA a=true):a.length<=802:=by
 have r:=ba.1 h;obtain⟨b,e⟩:=Km r;have c:=r.ln;have d:=r.ld;rw[r.txt,QO,length_append,length_append,<-b]
 grind
theorem Aw{a:List UInt8}(h:bq z a=true):aA a=true:=by simp_all[bq]
theorem K0.small(v:K0 M)(b:M.af.length<=300)(d:bV M.af<=2000):Small M where
 lead:=by have:=Gp (Aw v.lead);omega
 bT:=b
 fin:=λs a=>by
  rcases(v.st s a).f with e|e
  all_goals grind[Gp,Aw]
 arcs:=λs a=>by
  obtain⟨i,f,e⟩:=List.mem_iff_getElem.1 a;have:=Nz (l:=M.af) (i:=i) (s:=s) (by grind);omega
 w:=λs a q c=>by
  have h:=(v.st s a).a q c;unfold jf at h;rw[and_eq_true]at h
  grind[Gp,Aw]
 tot:=d
theorem Bh(a:1<=z/\z<=3):bq z (ct z)=true:=by
 have:z=1\/z=2\/z=3:=by omega
 rcases this with rfl|rfl|rfl<;>decide
theorem rj{q:jj}(b:sF q.i=true)(c:sF q.o=true)(a:0<=q.t/\q.t<n)(d:bq z q.w=true):jf z n q=true:=by grind[jf]
theorem Ie{b:Option Int}{s:dW}(h:StW z n s)(l:k+n<=m)(e:∀t,b=some t->0<=t/\t<m):StW z m (lC k b s):=by
 have c:∀q∈s.arcs.map (K1 k),jf z m q=true:=λq a=>by
  obtain⟨p,i,rfl⟩:=mem_map.1 a;have:=h.a p i;unfold jf at this;simp only[and_eq_true,decide_eq_true_eq]at this;obtain⟨⟨⟨⟨f,g⟩,o⟩,r⟩,j⟩:=this;exact rj f g ⟨by show 0<=p.t+(k:Int);omega,by show p.t+(k:Int)<m;omega⟩ j
 unfold lC;split
 ·exact⟨.inl rfl,c⟩
 ·next d=>
  cases b with
  |none=>exact⟨h.f,c⟩
  |some t=>
   refine⟨.inl rfl,λq a=>?_⟩;rcases mem_append.1 a with a|a
   ·grind
   ·have:=mem_singleton.1 a;subst this;exact rj rfl rfl (e t rfl) (h.f.resolve_left d)
section
variable {A B:bJ}
theorem th(a:Nat)(b:Option Int):bV (M.af.map (lC a b))<=bV M.af+M.af.length:=by grind[oi]
theorem abW(d:K0 A)(i:K0 B)(j:A.kind=B.kind)(n:A.af.length<=100)(o:B.af.length<=100)(m:bV A.af<=500)(p:bV B.af<=500):K0 (gG A B)/\(gG A B).af.length=1+A.af.length+B.af.length/\bV (gG A B).af<=2+(bV A.af+A.af.length)+(bV B.af+B.af.length):=by
 have c:=zG (A:=A) (B:=B);have b:(gG A B).af.length=1+A.af.length+B.af.length:=by rw[c];simp;omega
 have g:bV (gG A B).af<=2+(bV A.af+A.af.length)+(bV B.af+B.af.length):=by
  have l:=th (M:=A) 1 none;have u:=th (M:=B) (A.af.length+1) none;rw[c,dy,eA];show 2+_<=_;omega
 have r:=d.start;have k:=i.start;refine⟨⟨d.kind,⟨by omega,by omega⟩,⟨Int.le_refl _,by rw[b];show(0:Int)<_;omega⟩,Bh d.kind,by omega,λs a=>?_⟩,b,g⟩;rw[b];show StW A.kind _ s;rw[c]at a;rcases mem_cons.1 a with rfl|a
 ·refine⟨.inl rfl,λq f=>?_⟩;rcases mem_cons.1 f with rfl|f
  ·exact rj rfl rfl ⟨by grind,by grind⟩ d.lead
  ·have:=mem_singleton.1 f;subst this;exact rj rfl rfl ⟨by grind,by grind⟩ (by rw[j];exact i.lead)
 ·rcases mem_append.1 a with a|a
  ·obtain⟨t,h,rfl⟩:=mem_map.1 a;exact Ie (d.st t h) (by omega) (λt e=>by cases e)
  ·obtain⟨t,h,rfl⟩:=mem_map.1 a;have:=i.st t h
   grind[Ie]
theorem VC{c:List UInt8}(f:K0 A)(i:K0 B)(r:A.kind=B.kind)(j:bq A.kind c=true)(o:A.af.length<=100)(p:B.af.length<=100)(n:bV A.af<=500)(q:bV B.af<=500):K0 (fp A B c)/\(fp A B c).af.length=A.af.length+B.af.length/\bV (fp A B c).af<=(bV A.af+A.af.length)+(bV B.af+B.af.length):=by
 have d:(fp A B c).af=B.af.map (lC 0 none)++A.af.map (lC B.af.length (some (((0:Nat):Int)+B.start))):=rfl;have a:(fp A B c).af.length=A.af.length+B.af.length:=by rw[d];simp;omega
 have g:bV (fp A B c).af<=(bV A.af+A.af.length)+(bV B.af+B.af.length):=by
  have l:=th (M:=B) 0 none;have v:=th (M:=A) B.af.length (some (((0:Nat):Int)+B.start));rw[d,eA];omega
 have u:=f.start;have k:=i.start;have m:=f.n;refine⟨⟨f.kind,⟨by omega,by omega⟩,⟨by show 0<=(B.af.length:Int)+A.start;omega,by rw[a];show(B.af.length:Int)+A.start<_;omega⟩,j,by omega,λs b=>?_⟩,a,g⟩;rw[a];show StW A.kind _ s;rw[d]at b;rcases mem_append.1 b with b|b
 ·obtain⟨t,h,rfl⟩:=mem_map.1 b;have:=i.st t h
  grind[Ie]
 ·obtain⟨t,h,rfl⟩:=mem_map.1 b;exact Ie (f.st t h) (by omega) (λt e=>by grind)
theorem ad9(b:K0 A)(k:A.af.length<=100)(j:bV A.af<=500):K0 (fC A)/\(fC A).af.length=1+A.af.length/\bV (fC A).af<=1+(bV A.af+A.af.length):=by
 have c:(fC A).af=⟨ct A.kind,[⟨0,0,A.lead,((1:Nat):Int)+A.start⟩]⟩::A.af.map (lC 1 (some ((0:Nat):Int))):=rfl;have a:(fC A).af.length=1+A.af.length:=by rw[c];simp;omega
 have f:bV (fC A).af<=1+(bV A.af+A.af.length):=by
  have i:=th (M:=A) 1 (some ((0:Nat):Int));rw[c,dy];show 1+_<=_;omega
 have l:=b.start;refine⟨⟨b.kind,⟨by omega,by omega⟩,⟨Int.le_refl _,by rw[a];show(0:Int)<_;omega⟩,Bh b.kind,by omega,λs d=>?_⟩,a,f⟩;rw[a];show StW A.kind _ s;rw[c]at d;rcases mem_cons.1 d with rfl|d
 ·refine⟨.inr (Bh b.kind),λq g=>?_⟩;have:=mem_singleton.1 g;subst this;exact rj rfl rfl ⟨by grind,by grind⟩ b.lead
 ·obtain⟨t,h,rfl⟩:=mem_map.1 d;exact Ie (b.st t h) (by omega) (λt e=>by grind)
theorem afL{n:Int}(f:K0 A)(o:m<=30)(p:A.af.length<=8)(w:bV A.af<=40):K0 (qn A n m)/\(qn A n m).af.length=m+1+m*A.af.length/\bV (qn A n m).af<=m+1+m*(bV A.af+A.af.length):=by
 have g:(qn A n m).af=kf A n m m++ny A m m:=rfl;have b:(qn A n m).af.length=m+1+m*A.af.length:=by rw[g,length_append,jN,tw]
 have l:bV (qn A n m).af<=m+1+m*(bV A.af+A.af.length):=by
  have u:=IP (A:=A) (n:=n) (m:=m) (i:=m);have y:=CL (A:=A) (m:=m) m;rw[g,eA];omega
 have v:m*A.af.length<=30*8:=mul_le_mul o p;have z:m*(bV A.af+A.af.length)<=30*48:=mul_le_mul o (by omega);have x:=f.start;refine⟨⟨f.kind,⟨by omega,by omega⟩,⟨Int.le_refl _,by rw[b];show(0:Int)<_;omega⟩,Bh f.kind,by omega,λs a=>?_⟩,b,l⟩;rw[b];show StW A.kind _ s;rw[g]at a;have k:∀j,j<m->j*A.af.length+A.af.length<=m*A.af.length:=λj k=>by
  have:(j+1)*A.af.length<=m*A.af.length:=Nat.mul_le_mul_right _ (by omega)
  grind
 rcases mem_append.1 a with a|a
 ·unfold kf at a;obtain⟨j,d,rfl⟩:=mem_map.1 a;refine⟨?_,λq h=>?_⟩
  ·show(if(j:Int)>=n then ct A.kind else[])=[]\/_;by_cases c:(j:Int)>=n
   ·right;show bq A.kind (if(j:Int)>=n then ct A.kind else[])=true;rw[if_pos c];exact Bh f.kind
   grind
  ·have h:q∈(if j<m then[(⟨0,0,A.lead,((m+1+j*A.af.length:Nat):Int)+A.start⟩:jj)]else[]:List jj):=h;split at h
   ·next c=>
    have:=mem_singleton.1 h;subst this;have:=k j c;exact rj rfl rfl ⟨by show 0<=((m+1+j*A.af.length:Nat):Int)+A.start;omega,by show((m+1+j*A.af.length:Nat):Int)+A.start<_;omega⟩ f.lead
   grind
 ·unfold ny at a;obtain⟨j,d,a⟩:=List.mem_flatMap.1 a;have d:=List.mem_range.1 d;obtain⟨t,r,rfl⟩:=mem_map.1 a;have:=k j d;exact Ie (f.st t r) (by omega) (λt e=>by grind)
end
end
noncomputable def Wx:FD:=dq Tryz.f11 []
theorem SF(j:OA)(i l:Nat)(k:OA)(g m:Nat)(h:ae)(Q:VH)(n:au (decide ((wrap .i64 ((i:Int)+(g:Int)):Int)<=6)) (FW SS 15 [(.slice j i l)] h λe f=>yB e λd=>au d (FW SS 15 [(.slice k g m)] f λb c=>yB b λa=>Q (.bool a) c) (Q (.bool false) f)) (Q (.bool false) h)):FW SS 11 [(.slice j i l),(.slice k g m)] h Q:=du Wx Tryz.func11 (ai n)
noncomputable def il:FD:=dq Tryz.f24 [([1,1,0,1,0,0],[1,3]),([1,1,0,1,0,0,1,0,0,1,1,0,0],[1,3,4])]
abbrev jL(k:Nat)(i:Nat):LV:=[(pA k),(iA i)]
abbrev pE(k i:Nat)(j:Nat):LV:=[(pA k),(iA i),(iA j)]
theorem Wv(k:LV)(h:ae)(Q:VH)(l:xN (fu SS.P 29 (.agg ⟨k⟩)) h λ_ j=>fP 29 (pA (h.next)) 3 λi=>lL 27 j i λ_ g _=>au (decide (((g:Int):Int)>8)) (Q (.bool true) j) (lA 29 j (pA (h.next)) λf=>FW SS 56 [(.agg ⟨f⟩)] j λd e=>yI .i64 d λc=>au (decide ((c:Int)>40)) (Q (.bool true) e) (fP 29 (pA (h.next)) 2 λb=>lS e b λa=>au (decide ((((a:LB).length:Int):Int)>40)) (Q (.bool true) e) (LL SS il [1,1,0,1,0,0] (jL (h.next) 0) e (KK SS il [1,1,0,1,0] [] (EE SS il Q)))))):FW SS 24 [(.agg ⟨k⟩)] h Q:=du il Tryz.func24 (ai l)
theorem CB(q:LV)(k:Nat)(n:Nat->Nat->ae->Prop)(Q:VH)(step:∀(m:Nat) (i:Nat) (p:Nat->Value) (h:ae),n m i h->fP 29 (pA k) 3 λl=>lL 27 h l λ_ j _=>au (decide (((i:Int):Int)<(j:Int))) (fP 29 (pA k) 3 λg=>lL 27 h g λd e f=>iP 27 (.slice d e f) (iA i) λc=>fP 73 (.pointer (some c)) 0 λb=>lS h b λa=>au (decide ((((a:LB).length:Int):Int)>40)) (Q (.bool true) h) (LL SS il [1,1,0,1,0,0,1,0,0,1,1,0,0] (pE k i 0) h (KK SS il [1,0,0,1,1,0] [1,1,0,1,0,0] (RR il [1,1,0,1,0,0] (gp (jL k) n) m (KK SS il [1,1,0,1,0] [] (EE SS il Q)))))) (Q (.bool false) h))(m:Nat){i:Nat}{h:ae}(o:n m i h):LL SS il [1,1,0,1,0,0] (jL k i) h (KK SS il [1,1,0,1,0] [] (EE SS il Q)):=
 dJ (jL k) n (λm i p h o=>ai (step m i p h o)) m o
theorem CC(D:LV)(k:Nat)(z:Nat->Nat->ae->Prop)(B i:Nat)(y:Nat->Nat->ae->Prop)(Q:VH)(step:∀(x:Nat) (j:Nat) (C:Nat->Value) (h:ae),y x j h->fP 29 (pA k) 3 λw=>lL 27 h w λt u v=>iP 27 (.slice t u v) (iA i) λs=>fP 73 (.pointer (some s)) 1 λr=>lL 71 h r λ_ q _=>au (decide (((j:Int):Int)<(q:Int))) (fP 29 (pA k) 3 λp=>lL 27 h p λm n o=>iP 27 (.slice m n o) (iA i) λl=>fP 73 (.pointer (some l)) 1 λg=>lL 71 h g λd e f=>iP 71 (.slice d e f) (iA j) λc=>fP 70 (.pointer (some c)) 2 λb=>lS h b λa=>au (decide ((((a:LB).length:Int):Int)>40)) (Q (.bool true) h) (aM (gp (pE k i) y) x [(pA k),(iA i),(.int .i64 (wrap .i64 ((j:Int)+1)))] h)) (aM (gp (jL k) z) B [(pA k),(.int .i64 (wrap .i64 ((i:Int)+1)))] h))(x:Nat){j:Nat}{h:ae}(A:y x j h):LL SS il [1,1,0,1,0,0,1,0,0,1,1,0,0] (pE k i j) h (KK SS il [1,0,0,1,1,0] [1,1,0,1,0,0] (RR il [1,1,0,1,0,0] (gp (jL k) z) B (KK SS il [1,1,0,1,0] [] (EE SS il Q)))):=
 dJ (pE k i) y (λx j C h A=>ai (step x j C h A)) x A
noncomputable def Ww:FD:=dq Tryz.f39 []
theorem SD(g:LV)(e:Int)(i:OA)(n l:Nat)(k:OA)(j m:Nat)(h:ae)(Q:VH)(o:xN (fu SS.P 29 (.agg ⟨g⟩)) h λ_ f=>au (((e:Int) !=0)) (Q (strOf []) f) (lA 29 f (pA (h.next)) λe=>FW SS 48 [(.agg ⟨e⟩),(.slice i n l),(.slice k j m)] f λc d=>∃b:LB,∃a:Int,c=(.tuple ⟨[(strOf b),(.int .i64 a)]⟩)/\Q (strOf b) d)):FW SS 39 [(.agg ⟨g⟩),(.int .i64 e),(.slice i n l),(.slice k j m)] h Q:=du Ww Tryz.func39 (ai o)
noncomputable def Wu:FD:=dq Tryz.f38 []
theorem SA(t:LV)(e:Int)(m:LV)(f:Int)(n:OA)(s q:Nat)(p:OA)(o r:Nat)(h:ae)(Q:VH)(u:xN (fu SS.P 29 (.agg ⟨t⟩)) h λ_ l=>xN (fu SS.P 29 (.agg ⟨m⟩)) l λ_ k=>au (((e:Int) !=0)) (Q (.bool true) k) (au (((f:Int) !=0)) (Q (.bool true) k) (lA 29 k (pA (h.next)) λj=>FW SS 48 [(.agg ⟨j⟩),(.slice n s q),(.slice p o r)] k λh i=>∃g:LB,∃f:Int,h=(.tuple ⟨[(strOf g),(.int .i64 f)]⟩)/\lA 29 i (pA (l.next)) λe=>FW SS 48 [(.agg ⟨e⟩),(.slice n s q),(.slice p o r)] i λc d=>∃b:LB,∃a:Int,c=(.tuple ⟨[(strOf b),(.int .i64 a)]⟩)/\au (((f:Int) !=0)) (Q (.bool true) d) (au (((a:Int) !=0)) (Q (.bool true) d) (Q (.bool ((g:LB)==b)) d))))):FW SS 38 [(.agg ⟨t⟩),(.int .i64 e),(.agg ⟨m⟩),(.int .i64 f),(.slice n s q),(.slice p o r)] h Q:=du Wu Tryz.func38 (ai u)
variable{i:Nat}
section
def MK(s:dW):Bool:=decide (s.f.length<=40)&&s.arcs.all λq=>decide (q.w.length<=40)
def KE(M:bJ):Bool:=decide (M.af.length<=8)&&(decide (bV M.af<=40)&&(decide (M.lead.length<=40)&&M.af.all MK))
def PZ(xs ys:List Int):Bool:=decide (xs.length+ys.length<=6)&&(fq xs&&fq ys)
section
variable {h:ae} {M:bJ} {a:Option Addr} {n c:Nat} {xa ya:Option Addr} {xn xc yn yc:Nat} {xs ys:List Int}
theorem SG(b:dz h (.slice xa xn xc) xs)(c:dz h (.slice ya yn yc) ys)(f:xs.length<=281474976710656)(i:ys.length<=281474976710656):FW SS 11 [.slice xa xn xc,.slice ya yn yc] h (λv g=>v = .bool (PZ xs ys)/\g=h):=by
 obtain rfl:=dz.len b;obtain rfl:=dz.len c;refine SF xa _ xc ya _ yc h _ ?_;have e:wrap .i64 ((xs.length:Int)+(ys.length:Int))=((xs.length+ys.length:Nat):Int):=by rw[aF (by omega) (by omega)];omega
 rw[e];unfold PZ;refine aa (λq=>(BN b).mono ?_) (λq=>?_)
 ·have q:=dT q;rw[decide_eq_true (show xs.length+ys.length<=6 by omega),Bool.true_and];rintro _ g ⟨rfl,d⟩;obtain rfl:h=g:=d.symm;refine⟨_,rfl,aa (λa=>(BN c).mono ?_) (λa=>?_)⟩
  ·rintro _ g ⟨rfl,rfl⟩;rw[a,Bool.true_and];exact⟨_,rfl,rfl,rfl⟩
  ·rw[a];exact⟨rfl,rfl⟩
 grind
theorem FU(w:Wf h)(S:Bnd M)(r:dR h (.slice a n c) M.af):FW SS 24 [.agg ⟨bM M a n c⟩] h (λv g=>v = .bool (!KE M)/\Ok h g):=by
 obtain⟨l,G⟩:=fv w r;refine Wv (bM M a n c) h _ ⟨_,iO M a n c,?_⟩;generalize h.push (Bm M a n c)=g at*;have hl:=l.len;unfold KE;refine⟨_,dO _,_,_,_,l.l3,aa (λq=>⟨?_,G⟩) (λq=>?_)⟩
 ·have:=dT q;rw[decide_eq_false (show ¬M.af.length<=8 by omega)];rfl
 have q:=dF q;have Q:M.af.length<=8:=by omega
 rw[decide_eq_true Q,Bool.true_and];refine⟨_,l.all,(XE G.wf S (by omega) l.row).mono ?_⟩;rintro _ R ⟨rfl,O⟩;have f:=G.trans O;have e:=l.ok O;refine⟨_,rfl,aa (λt=>⟨?_,f⟩) (λt=>?_)⟩
 ·have:=dT t;rw[decide_eq_false (show ¬bV M.af<=40 by omega)];rfl
 have t:=dF t;rw[decide_eq_true (show bV M.af<=40 by omega),Bool.true_and];refine⟨_,oX _,_,e.l2,aa (λm=>⟨?_,f⟩) (λm=>?_)⟩
 ·have:=dT m;rw[decide_eq_false (show ¬M.lead.length<=40 by omega)];rfl
 have m:=dF m;rw[decide_eq_true (show M.lead.length<=40 by omega),Bool.true_and];generalize P:M.af.all MK=V;refine CB (bM M a n c) h.next (λC i A=>i<=n/\C=n-i/\A=R/\(M.af.drop i).all MK=V) _ (λC i=>?_) n (i:=0) ⟨by omega,rfl,rfl,P⟩;intros;rename_i W H;obtain⟨f1,f2,rfl,k⟩:=H;refine⟨_,dO _,_,_,_,e.l3,aa (λK=>?_) (λK=>?_)⟩
 ·have X:i<n:=by have:=dT K;omega
  obtain⟨s,E⟩:∃s,M.af[i]?=some s:=⟨_,gE (by omega)⟩
  obtain⟨b,o,x',y,z,D,e2,T,N,I⟩:=e.row.at_ E;have hy:=I.len;have hm:s.arcs.length<=40:=by
   have:=F3 (List.mem_of_getElem? E);omega
  rw[iS E,all_cons]at k;refine⟨_,dO _,_,_,_,e.l3,_,D,_,qg _ _,_,T,aa (λu=>⟨?_,f⟩) (λu=>?_)⟩
  ·have:=dT u;unfold MK at k;rw[decide_eq_false (show ¬s.f.length<=40 by omega),Bool.false_and,Bool.false_and]at k;rw[<-k];rfl
  have u:=dF u;have L:MK s=s.arcs.all λq=>decide (q.w.length<=40):=by
   unfold MK;rw[decide_eq_true (show s.f.length<=40 by omega),Bool.true_and]
  rw[L]at k;refine CC (bM M a n c) h.next _ C i (λx j A=>j<=y/\x=y-j/\A=W/\((s.arcs.drop j).all (λq=>decide (q.w.length<=40))&&(M.af.drop (i+1)).all MK)=V) _ (λx j=>?_) y (j:=0) ⟨by omega,rfl,rfl,k⟩;intros;rename_i g6 F;obtain⟨j1,j2,rfl,d⟩:=F;refine⟨_,dO _,_,_,_,e.l3,_,D,_,mh _ _,_,_,_,N,aa (λB=>?_) (λB=>?_)⟩
  ·have Z:j<y:=by have:=dT B;omega
   obtain⟨q,J⟩:∃q,s.arcs[j]?=some q:=⟨_,gE (by omega)⟩
   obtain⟨bb,oo,Y,d2,d3,d4,U,d6⟩:=I.at_ J;rw[iS J,all_cons]at d;refine⟨_,dO _,_,_,_,e.l3,_,D,_,mh _ _,_,_,_,N,_,Y,_,Fy _ _,_,U,aa (λp=>⟨?_,f⟩) (λp=>?_)⟩
   ·have:=dT p;rw[decide_eq_false (show ¬q.w.length<=40 by omega),Bool.false_and,Bool.false_and]at d;rw[<-d];rfl
   ·have p:=dF p;rw[decide_eq_true (show q.w.length<=40 by omega),Bool.true_and]at d;rw[bg Z (by omega)];exact cz (y-(j+1)) (by omega) ⟨by omega,rfl,rfl,d⟩
  ·have:=dF B;rw[drop_eq_nil_of_le (by omega)]at d;rw[bg X (by omega)];exact cz (n-(i+1)) (by omega) ⟨by omega,rfl,rfl,d⟩
 grind
def BX(M:bJ)(xs ys:List Int):List UInt8×Int:=if(db M&&(fq xs&&fq ys))=true then(match ft (bo M.kind) (gm M) xs ys with|some w=>(w,0)|none=>([],2))else([],1)
theorem ach(M:bJ)(xs ys:List Int):(if(db M&&(fq xs&&fq ys))=true then Pd (ft (bo M.kind) (gm M) xs ys)else two [] 1)=two (BX M xs ys).1 (BX M xs ys).2:=by
 unfold BX;split
 ·cases ft (bo M.kind) (gm M) xs ys<;>rfl
 ·rfl
theorem KS(w:Wf h)(d:Small M)(r:dR h (.slice a n c) M.af)(b:dz h (.slice xa xn xc) xs)(e:dz h (.slice ya yn yc) ys):
  FW SS 48 [.agg ⟨bM M a n c⟩,.slice xa xn xc,.slice ya yn yc] h (λv g=>v = .tuple ⟨[strOf (BX M xs ys).1,.int .i64 (BX M xs ys).2]⟩/\Ok h g):=by
 refine(aen w d r b e).mono ?_;rintro _ g ⟨rfl,f⟩;exact⟨ach M xs ys,f⟩
theorem SE(w:Wf h)(f:Small M)(r:dR h (.slice a n c) M.af)(e:dz h (.slice xa xn xc) xs)(i:dz h (.slice ya yn yc) ys):
  FW SS 39 [.agg ⟨bM M a n c⟩,.int .i64 0,.slice xa xn xc,.slice ya yn yc] h (λv g=>v=strOf (BX M xs ys).1/\Ok h g):=by
 obtain⟨d,b⟩:=fv w r;refine SD (bM M a n c) 0 xa xn xc ya yn yc h _ ⟨_,iO M a n c,aa (λq=>by cases q) (λ_=>⟨_,d.all,(KS b.wf f d.row (dz.ok e b) (dz.ok i b)).mono ?_⟩)⟩;rintro _ g ⟨rfl,j⟩;exact⟨_,_,rfl,rfl,b.trans j⟩
def Ft(A B:bJ)(xs ys:List Int):Bool:=(BX A xs ys).2 !=0||((BX B xs ys).2 !=0||(BX A xs ys).1==(BX B xs ys).1)
theorem SC{A B:bJ}{x b:Option Addr}{z:Nat}(w:Wf h)(u:Small A)(E:Small B)(C:dR h (.slice x m z) A.af)(t:dR h (.slice b k i) B.af)(o:dz h (.slice xa xn xc) xs)(r:dz h (.slice ya yn yc) ys):
  FW SS 38 [.agg ⟨bM A x m z⟩,.int .i64 0,.agg ⟨bM B b k i⟩,.int .i64 0,.slice xa xn xc,.slice ya yn yc] h (λv g=>v = .bool (Ft A B xs ys)/\Ok h g):=by
 obtain⟨y,n⟩:=fv w C;obtain⟨p,j⟩:=fv n.wf (t.ok n);have f:=y.ok j;have a:=n.trans j;refine SA (bM A x m z) 0 (bM B b k i) 0 xa xn xc ya yn yc h _ ⟨_,iO A x m z,_,iO B b k i,aa (λq=>by cases q) (λ_=>aa (λq=>by cases q) (λ_=>⟨_,f.all,(KS a.wf u f.row (dz.ok o a) (dz.ok r a)).mono ?_⟩))⟩;generalize (h.push (Bm A x m z)).push (Bm B b k i)=g at*;unfold Ft;rintro _ F ⟨rfl,l⟩;have e:=p.ok l;have d:=a.trans l;refine⟨_,_,rfl,_,e.all,(KS l.wf E e.row (dz.ok o d) (dz.ok r d)).mono ?_⟩;rintro _ G ⟨rfl,D⟩;have c:=d.trans D;refine⟨_,_,rfl,aa (λq=>⟨?_,c⟩) (λq=>aa (λs=>⟨?_,c⟩) (λs=>⟨?_,c⟩))⟩
 all_goals grind
end
end
end Go.Proofs.YtaaichlgdgjgjaaGreatDoor
end
section
namespace Go.Proofs.YtaaichlgdgjgjaaGreatDoor
open Go Go.Ab Go.Num Go.Num.aW
section
section
variable {K:Type} {S:aW K} {dec:List UInt8->K} {M:bJ}
theorem ZD(f:vM S dec M.kind)(e:db M=true){a b:List Int}(c:fq a=true)(d:fq b=true):(∃w,BX M a b=(w,0)/\aO M.kind w=true/\dec w=iG S dec M a b)\/BX M a b=([],2):=by
 unfold BX;rw[e,c,d,if_pos (show(true&&(true&&true))=true from rfl)]
 grind[Zo,CE,KG]
end
end
end Go.Proofs.YtaaichlgdgjgjaaGreatDoor
end
section
namespace Go.Proofs.YtaaichlgdgjgjaaGreatDoor
open Go Go.Ab Go.Num
variable{M:bJ}
def aaH:Nat->Nat->List UInt8
 |0,_=>[]
 |f+1,n=>if n<10 then[fI n]else aaH f (n/10)++[fI (n%10)]
theorem QB:∀{f n:Nat},n<f->aaH f n=ag n
 |f+1,n,h=>by
  unfold aaH;by_cases c:n<10
  ·rw[if_pos c,ef c]
  ·rw[if_neg c,jq (by omega),QB (by omega)]
def GM(n:Nat):List UInt8:=aaH (n+1) n
theorem EB(n:Nat):ag n=GM n:=(QB (lt_succ_self n)).symm
def aa2(s:Bool)(n d:Nat):List UInt8:=(if s=true/\n≠0 then[45]else[])++(GM n++(if d=1 then[]else 47::GM d))
theorem acR(s:Bool)(n d:Nat):dh s n d=aa2 s n d:=by unfold dh aa2;rw[EB,EB]
def Ws(s:Bool)(n d:Nat):Option (List UInt8):=if 400<(GM (n/Nat.gcd n d)).length\/400<(GM (d/Nat.gcd n d)).length then none else some (aa2 s (n/Nat.gcd n d) (d/Nat.gcd n d))
theorem XQ(s:Bool)(n d:Nat):lY s n d=Ws s n d:=by unfold lY Ws;rw[EB,EB,acR]
def aa1(a b:List UInt8):Option (List UInt8):=Ws (dC (Num.isNeg a) (Num.val (Num.numOf a)*Num.val (ak b)) (Num.isNeg b) (Num.val (Num.numOf b)*Num.val (ak a))).1 (dC (Num.isNeg a) (Num.val (Num.numOf a)*Num.val (ak b)) (Num.isNeg b) (Num.val (Num.numOf b)*Num.val (ak a))).2 (Num.val (ak a)*Num.val (ak b))
def afx(a b:List UInt8):Option (List UInt8):=Ws (Num.isNeg a !=Num.isNeg b) (Num.val (Num.numOf a)*Num.val (Num.numOf b)) (Num.val (ak a)*Num.val (ak b))
def afw(a b:List UInt8):Option (List UInt8):=Ws (Num.isNeg a !=Num.isNeg b) (Num.val (Num.numOf a)*Num.val (ak b)) (Num.val (ak a)*Num.val (Num.numOf b))
def afy(a:List UInt8):List UInt8:=aa2 (!Num.isNeg a) (Num.val (Num.numOf a)) (Num.val (ak a))
theorem UT:qT=aa1:=by funext a b;exact XQ _ _ _
theorem afC:B3=afx:=by funext a b;exact XQ _ _ _
theorem afm:Jo=afw:=by funext a b;exact XQ _ _ _
theorem afD:sM=afy:=by funext a;exact acR _ _ _
def Wq(c:Int)(a b:List UInt8):Option (List UInt8):=if c≠2 then some (if Jm c b a<0 then b else a)else if a=dI\/b=dI then some dI else aa1 a b
def OW(c:Int)(a b:List UInt8):Option (List UInt8):=if a=bP c\/b=bP c then some (bP c)else if a=dI\/b=dI then some dI else if a=jm\/b=jm then some jm else if c=1 then aa1 a b else afx a b
def Wt(b:Int)(a:List UInt8):Option (List UInt8):=if b=1 then(if dS a [48]>=0 then some [48]else some jm)else if b=3 then(if dS a [49]<=0 then some [49]else some dI)else if dS a [49]>=0 then some dI else match aa1 [49] (afy a)with
 |some d=>afw [49] d
 |none=>none
theorem adS:fD=Wq:=by funext k a b;unfold fD Wq;rw[UT]
theorem KH:cO=OW:=by funext k a b;unfold cO OW;rw[UT,afC]
theorem ad8:nW=Wt:=by funext k a;unfold nW Wt;rw[UT,afm,afD];rfl
def adI(b:Int):sK (List UInt8):=⟨bP b,r6 b,λa=>a==bP b,Wq b,OW b,Wt b⟩
theorem afI(a:Int):bo a=adI a:=by unfold bo adI;rw[adS,KH,ad8]
def agf(M:bJ)(a b:List Int):List UInt8×Int:=if(db M&&(fq a&&fq b))=true then(match ft (adI M.kind) (gm M) a b with|some w=>(w,0)|none=>([],2))else([],1)
theorem Ec(M:bJ)(a b:List Int):BX M a b=agf M a b:=by unfold BX agf;rw[afI]<;>rfl
def NW:bJ:=kj 1 [1] [2] [51]
def awB:bJ:=kj 1 [1] [2] [53]
def awU:bJ:=gG NW awB
def awC:bJ:=fp NW awB [56]
def awS:bJ:=fC NW
def awR:bJ:=qn NW 2 3
def awT:bJ:=PE NW [55,47,50]
def awL:bJ:=FZ 1 [2,1,2]
def awH:bJ:=kj 2 [] [] [49,47,50]
def awK:bJ:=fC awH
theorem ada:qy [2,1,2]=[1,2]:=by
 have:oG [2,1,2]=[1,2,2]:=by simp[oG,List.mergeSort,List.MergeSort.Internal.splitInTwo]
 unfold qy;rw[this];decide
theorem ac9:awL=⟨1,0,ct 1,[⟨[],JT 1 [1,2]⟩,⟨ct 1,[]⟩]⟩:=by unfold awL FZ;rw[ada]
theorem aeK:BO 1 [1] [2] [51]=(NW,0):=by unfold BO;rw[if_pos (by decide +kernel)];rfl
theorem aeL:BO 1 [1] [2] [53]=(awB,0):=by unfold BO;rw[if_pos (by decide +kernel)];rfl
theorem aeT:GO NW awB=(awU,0):=by unfold GO;rw[if_pos (by decide +kernel)];rfl
theorem adb:cO NW.kind NW.lead awB.lead=some [56]:=by rw[KH];decide +kernel
theorem aeM:AU NW awB [56]=(awC,0):=by unfold AU;rw[if_pos (by decide +kernel)];rfl
theorem aeR:GG NW=(awS,0):=by unfold GG;rw[if_pos (by decide +kernel)];rfl
theorem aeQ:XV NW 2 3=(awR,0):=by unfold XV;rw[if_pos (by decide +kernel)];rfl
theorem ade:cO NW.kind [49,47,50] NW.lead=some [55,47,50]:=by rw[KH];decide +kernel
theorem aeS:KA NW [49,47,50] [55,47,50]=(awT,0):=by unfold KA;rw[if_pos (by decide +kernel)];rfl
theorem aeP:A5 1 [2,1,2]=(awL,0):=by unfold A5;rw[if_pos (by decide)];rfl
theorem aeN:BO 2 [] [] [49,47,50]=(awH,0):=by unfold BO;rw[if_pos (by decide +kernel)];rfl
theorem aeO:GG awH=(awK,0):=by unfold GG;rw[if_pos (by decide +kernel)];rfl
theorem aeY:BX awU [1] [2]=([51],0):=by rw[Ec];decide +kernel
theorem aeZ:BX awU [1] [1]=([105,110,102],0):=by rw[Ec];decide +kernel
theorem ae0:BX awC [1,1] [2,2]=([56],0):=by rw[Ec];decide +kernel
theorem ae1:BX awS [] []=([48],0):=by rw[Ec];decide +kernel
theorem ae2:BX awS [1,1] [2,2]=([54],0):=by rw[Ec];decide +kernel
theorem ae3:BX awS [1] []=([105,110,102],0):=by rw[Ec];decide +kernel
theorem ae4:BX awR [1] [2]=([105,110,102],0):=by rw[Ec];decide +kernel
theorem ae5:BX awR [1,1] [2,2]=([54],0):=by rw[Ec];decide +kernel
theorem ae6:BX awT [1] [2]=([55,47,50],0):=by rw[Ec];decide +kernel
theorem adf:BX awL [2] [2]=([48],0):=by rw[Ec,ac9];decide +kernel
theorem adg:BX awL [1,2] [1,2]=([105,110,102],0):=by rw[Ec,ac9];decide +kernel
theorem adh:BX awK [] []=([50],0):=by rw[Ec];decide +kernel
theorem mA(a:db M=true)(b:M.af.length<=300)(c:bV M.af<=2000):Small M:=(KQ a (by omega)).small b c
theorem LF:Small NW:=mA (by decide +kernel) (by decide +kernel) (by decide +kernel)
theorem acr:Small awB:=mA (by decide +kernel) (by decide +kernel) (by decide +kernel)
theorem acv:Small awU:=mA (by decide +kernel) (by decide +kernel) (by decide +kernel)
theorem aeU:Small awC:=mA (by decide +kernel) (by decide +kernel) (by decide +kernel)
theorem U3:Small awS:=mA (by decide +kernel) (by decide +kernel) (by decide +kernel)
theorem acu:Small awR:=mA (by decide +kernel) (by decide +kernel) (by decide +kernel)
theorem aeX:Small awT:=mA (by decide +kernel) (by decide +kernel) (by decide +kernel)
theorem acs:Small awL:=by rw[ac9];exact mA (by decide +kernel) (by decide +kernel) (by decide +kernel)
theorem aeV:Small awH:=mA (by decide +kernel) (by decide +kernel) (by decide +kernel)
theorem aeW:Small awK:=mA (by decide +kernel) (by decide +kernel) (by decide +kernel)
noncomputable def aad:FD:=dq Tryz.f12 []
theorem U4  (h:ae) (Q:VH) (hx:xR (aJ SS.P 22 1 [(0,(.int .i64 1))]) h λ_ A C B=>xR (aJ SS.P 22 1 [(0,(.int .i64 2))]) B λ_ F D J=>xR (aJ SS.P 22 2 [(0,(.int .i64 1)),(1,(.int .i64 1))]) J λ_ W k7 I=>xR (aJ SS.P 22 2 [(0,(.int .i64 2)),(1,(.int .i64 2))]) I λ_ k3 Z k5=>FW SS 13 [(.int .i64 1),(sA (h.next) A C),(sA (B.next) F D),(strOf [51])] k5 λk1 E=>∃k0:LV,∃j9:Int,k1=(.tuple ⟨[(.agg ⟨k0⟩),(.int .i64 j9)]⟩)/\xN (av SS.P 29) E λ_ j8=>xU (ah SS.P 29 (pA (E.next)) (.agg ⟨k0⟩) j8) j8 λ_ j7=>FW SS 13 [(.int .i64 1),(sA (h.next) A C),(sA (B.next) F D),(strOf [53])] j7 λj5 L=>∃j4:LV,∃j3:Int,j5=(.tuple ⟨[(.agg ⟨j4⟩),(.int .i64 j3)]⟩)/\xN (av SS.P 29) L λ_ j2=>xU (ah SS.P 29 (pA (L.next)) (.agg ⟨j4⟩) j2) j2 λ_ H=>au (((j9:Int) !=0)) (Q (.bool false) H) (au (((j3:Int) !=0)) (Q (.bool false) H) (lA 29 H (pA (E.next)) λj0=>lA 29 H (pA (L.next)) λi9=>FW SS 25 [(.agg ⟨j0⟩),(.agg ⟨i9⟩)] H λi7 K=>∃i6:LV,∃i5:Int,i7=(.tuple ⟨[(.agg ⟨i6⟩),(.int .i64 i5)]⟩)/\xN (av SS.P 29) K λ_ i4=>xU (ah SS.P 29 (pA (K.next)) (.agg ⟨i6⟩) i4) i4 λ_ i3=>lA 29 i3 (pA (E.next)) λi2=>lA 29 i3 (pA (L.next)) λi1=>FW SS 31 [(.agg ⟨i2⟩),(.agg ⟨i1⟩)] i3 λh9 P=>∃h8:LV,∃h7:Int,h9=(.tuple ⟨[(.agg ⟨h8⟩),(.int .i64 h7)]⟩)/\xN (av SS.P 29) P λ_ h6=>xU (ah SS.P 29 (pA (P.next)) (.agg ⟨h8⟩) h6) h6 λ_ h5=>lA 29 h5 (pA (E.next)) λh4=>FW SS 33 [(.agg ⟨h4⟩)] h5 λh2 G=>∃h1:LV,∃M:Int,h2=(.tuple ⟨[(.agg ⟨h1⟩),(.int .i64 M)]⟩)/\xN (av SS.P 29) G λ_ g9=>xU (ah SS.P 29 (pA (G.next)) (.agg ⟨h1⟩) g9) g9 λ_ g7=>lA 29 g7 (pA (E.next)) λg6=>FW SS 35 [(.agg ⟨g6⟩),(.int .i64 2),(.int .i64 3)] g7 λg3 N=>∃g2:LV,∃g1:Int,g3=(.tuple ⟨[(.agg ⟨g2⟩),(.int .i64 g1)]⟩)/\xN (av SS.P 29) N λ_ g0=>xU (ah SS.P 29 (pA (N.next)) (.agg ⟨g2⟩) g0) g0 λ_ f9=>lA 29 f9 (pA (E.next)) λf8=>FW SS 37 [(.agg ⟨f8⟩),(strOf [49,47,50])] f9 λf6 V=>∃f5:LV,∃f4:Int,f6=(.tuple ⟨[(.agg ⟨f5⟩),(.int .i64 f4)]⟩)/\xN (av SS.P 29) V λ_ f3=>xU (ah SS.P 29 (pA (V.next)) (.agg ⟨f5⟩) f3) f3 λ_ f2=>xR (aJ SS.P 22 3 [(0,(.int .i64 2)),(1,(.int .i64 1)),(2,(.int .i64 2))]) f2 λ_ e9 f0 f1=>FW SS 21 [(.int .i64 1),(sA (f2.next) e9 f0)] f1 λe7 O=>∃e6:LV,∃e5:Int,e7=(.tuple ⟨[(.agg ⟨e6⟩),(.int .i64 e5)]⟩)/\xN (av SS.P 29) O λ_ e4=>xU (ah SS.P 29 (pA (O.next)) (.agg ⟨e6⟩) e4) e4 λ_ e3=>FW SS 13 [(.int .i64 2),nA,nA,(strOf [49,47,50])] e3 λe1 e2=>∃e0:LV,∃d9:Int,e1=(.tuple ⟨[(.agg ⟨e0⟩),(.int .i64 d9)]⟩)/\xN (av SS.P 29) e2 λ_ d8=>xU (ah SS.P 29 (pA (e2.next)) (.agg ⟨e0⟩) d8) d8 λ_ d7=>lA 29 d7 (pA (e2.next)) λd6=>FW SS 33 [(.agg ⟨d6⟩)] d7 λd4 d5=>∃d3:LV,∃d2:Int,d4=(.tuple ⟨[(.agg ⟨d3⟩),(.int .i64 d2)]⟩)/\xN (av SS.P 29) d5 λ_ d1=>xU (ah SS.P 29 (pA (d5.next)) (.agg ⟨d3⟩) d1) d1 λ_ d0=>au (((d9:Int)==0)) (lA 29 d0 (pA (K.next)) λc9=>FW SS 39 [(.agg ⟨c9⟩),(.int .i64 i5),(sA (h.next) A C),(sA (B.next) F D)] d0 λc6 U=>yS c6 λc5=>au ((c5:LB)==[51]) (lA 29 U (pA (K.next)) λc4=>FW SS 39 [(.agg ⟨c4⟩),(.int .i64 i5),(sA (h.next) A C),(sA (h.next) A C)] U λc1 c2=>yS c1 λc0=>au ((c0:LB)==[105,110,102]) (lA 29 c2 (pA (P.next)) λb9=>FW SS 39 [(.agg ⟨b9⟩),(.int .i64 h7),(sA (J.next) W k7),(sA (I.next) k3 Z)] c2 λb7 T=>yS b7 λb6=>au ((b6:LB)==[56]) (lA 29 T (pA (G.next)) λb5=>FW SS 39 [(.agg ⟨b5⟩),(.int .i64 M),nA,nA] T λb3 X=>yS b3 λb2=>au ((b2:LB)==[48]) (lA 29 X (pA (G.next)) λb1=>FW SS 39 [(.agg ⟨b1⟩),(.int .i64 M),(sA (J.next) W k7),(sA (I.next) k3 Z)] X λa9 Y=>yS a9 λa8=>au ((a8:LB)==[54]) (lA 29 Y (pA (G.next)) λa7=>FW SS 39 [(.agg ⟨a7⟩),(.int .i64 M),(sA (h.next) A C),nA] Y λa5 S=>yS a5 λa4=>au ((a4:LB)==[105,110,102]) (lA 29 S (pA (N.next)) λa3=>FW SS 39 [(.agg ⟨a3⟩),(.int .i64 g1),(sA (h.next) A C),(sA (B.next) F D)] S λa1 R=>yS a1 λa0=>au ((a0:LB)==[105,110,102]) (lA 29 R (pA (N.next)) λz=>FW SS 39 [(.agg ⟨z⟩),(.int .i64 g1),(sA (J.next) W k7),(sA (I.next) k3 Z)] R λx y=>yS x λw=>au ((w:LB)==[54]) (lA 29 y (pA (V.next)) λv=>FW SS 39 [(.agg ⟨v⟩),(.int .i64 f4),(sA (h.next) A C),(sA (B.next) F D)] y λt u=>yS t λs=>au ((s:LB)==[55,47,50]) (lA 29 u (pA (O.next)) λr=>FW SS 39 [(.agg ⟨r⟩),(.int .i64 e5),(sA (B.next) F D),(sA (B.next) F D)] u λp q=>yS p λo=>au ((o:LB)==[48]) (lA 29 q (pA (O.next)) λn=>xR (aJ SS.P 22 2 [(0,(.int .i64 1)),(1,(.int .i64 2))]) q λ_ k l m=>xR (aJ SS.P 22 2 [(0,(.int .i64 1)),(1,(.int .i64 2))]) m λ_ h i j=>FW SS 39 [(.agg ⟨n⟩),(.int .i64 e5),(sA (q.next) k l),(sA (m.next) h i)] j λf g=>yS f λe=>au ((e:LB)==[105,110,102]) (lA 29 g (pA (d5.next)) λd=>FW SS 39 [(.agg ⟨d⟩),(.int .i64 d2),nA,nA] g λb c=>yS b λa=>Q (.bool ((a:LB)==[50])) c) (Q (.bool false) g)) (Q (.bool false) q)) (Q (.bool false) u)) (Q (.bool false) y)) (Q (.bool false) R)) (Q (.bool false) S)) (Q (.bool false) Y)) (Q (.bool false) X)) (Q (.bool false) T)) (Q (.bool false) c2)) (Q (.bool false) U)) (Q (.bool false) d0)))):FW SS 12 [] h Q:=du aad Tryz.func12 (ai hx)
variable{h:ae}{g:ae}{a:Option Addr}{n:Nat}{k:Nat}{d:List Value}{p:List Int}{t:List UInt8}
theorem Xm{c:Nat}{b:List (dW×Value)}(w:Wf g)(f:b.map (·.1)=M.af)(d:lO h g (.slice a n c) b):
  ∃u:eu,ah SS.P 29 (.pointer (some ⟨g.next,0,none⟩)) (.agg ⟨bM M a n c⟩) (g.push lz)=some (undef,u)/\Ok g (u.app (g.push lz))/\MB (u.app (g.push lz)) g.next M a n c:=by
 obtain⟨o,e⟩:=qk (cs:=bM M a n c) w ((Ok.refl w).push lz) (aN g lz) (Nat.le_refl _);refine⟨_,lR (t:=29) xQ (cs0:=[.int .i64 0,.int .i64 0,strOf [],.slice none 0 0]) rfl (aN g lz) (cs:=bM M a n c) rfl (tl ..),o,e,?_⟩;have:=d.st
 grind[dR.ok]
theorem afb(z:Int):aJ SS.P 22 1 [(0,.int .i64 z)]=some (.cells [.int .i64 z] 3 1 true,ph 1 1):=by rfl
theorem aav(z y:Int):aJ SS.P 22 2 [(0,.int .i64 z),(1,.int .i64 y)]=some (.cells [.int .i64 z,.int .i64 y] 3 1 true,ph 2 2):=by rfl
theorem agy(z y x:Int):aJ SS.P 22 3 [(0,.int .i64 z),(1,.int .i64 y),(2,.int .i64 x)]=some (.cells [.int .i64 z,.int .i64 y,.int .i64 x] 3 1 true,ph 3 3):=by kernel_rfl
theorem vn{cs:List Value}{l:List Int}(h:g.get k=some (.cells cs 3 1 true))(b:cs=A2 l)(a:l.length=n):dz g (.slice (some ⟨k,0,none⟩) n n) l:=by
 subst a;subst b;exact .inr ⟨k,0,A2 l,l.length,true,3,1,rfl,h,.inl ⟨rfl,rfl⟩,by grind[kK]⟩
theorem uH(g:ae):dz g (.slice none 0 0) []:= .inl ⟨rfl,rfl⟩
theorem gV{R:bJ}{e:Int}{r:bJ×Int}(l:FW SS n d g (D3 g r))(m:r=(R,e)){Z:ae->List Value->Int->Prop}
  (p:∀(b:ae)(a:Option Addr)(i c:Nat)(u:eu),Ok g b->ah SS.P 29 (.pointer (some ⟨b.next,0,none⟩)) (.agg ⟨bM R a i c⟩) (b.push lz)=some (undef,u)->Ok g (u.app (b.push lz))->MB (u.app (b.push lz)) b.next R a i c->Z b (bM R a i c) e):
  FW SS n d g λv h=>∃cs:LV,∃i:Int,v = .tuple ⟨[.agg ⟨cs⟩,.int .i64 i]⟩/\Z h cs i:=by
 refine l.mono ?_;rintro _ b ⟨a,i,c,t,rfl,f,s,j⟩;rw[m]at f⊢;obtain⟨u,o,q,k⟩:=Xm j.wf f s;exact⟨_,_,rfl,p b a i c u j o (j.trans q) k⟩
theorem qo{c:Nat}{j:List Int}(w:Wf g)(u:MB g k M a n c)(r:Small M){d f:Option Addr}{o i e m:Nat}(q:dz g (.slice d o i) p)(s:dz g (.slice f e m) j)(y:BX M p j=(t,0))
  {Z:List UInt8->ae->Prop} (x:∀b,Ok g b->Z t b):
  FW SS 39 [.agg ⟨bM M a n c⟩,.int .i64 0,.slice d o i,.slice f e m] g λv h=>yS v λl=>Z l h:=by
 refine(SE w r u.row q s).mono ?_
 grind
theorem U5(w:Wf h)(r:qJ h):FW SS 12 [] h (λv g=>v = .bool true/\Ok h g):=by
 have o1:=(Ok.refl w).push (.cells [.int .i64 1] 3 1 true);have e:=vn (l:=[1]) (n:=1) (aN h (.cells [.int .i64 1] 3 1 true)) rfl rfl;refine U4 h _ ⟨_,_,_,afb 1,_,_,_,afb 2,_,_,_,aav 1 1,_,_,_,aav 2 2,?_⟩;generalize h.push (.cells [.int .i64 1] 3 1 true)=g1 at*;have o2:=(Ok.refl o1.wf).push (.cells [.int .i64 2] 3 1 true);have f:=vn (l:=[2]) (n:=1) (aN g1 (.cells [.int .i64 2] 3 1 true)) rfl rfl;generalize g1.push (.cells [.int .i64 2] 3 1 true)=g2 at*;have X:=(Ok.refl o2.wf).push (.cells [.int .i64 1,.int .i64 1] 3 1 true);have t:=vn (l:=[1,1]) (n:=2) (aN g2 (.cells [.int .i64 1,.int .i64 1] 3 1 true)) rfl rfl;generalize g2.push (.cells [.int .i64 1,.int .i64 1] 3 1 true)=g3 at*;have M:=(Ok.refl X.wf).push (.cells [.int .i64 2,.int .i64 2] 3 1 true);have Q:=vn (l:=[2,2]) (n:=2) (aN g3 (.cells [.int .i64 2,.int .i64 2] 3 1 true)) rfl rfl;generalize g3.push (.cells [.int .i64 2,.int .i64 2] 3 1 true)=g4 at*;have q4:=((o1.trans o2).trans X).trans M;have e:=dz.ok e ((o2.trans X).trans M);have f:=dz.ok f (X.trans M);have t:=dz.ok t M;refine gV (AM M.wf (r.ok q4) e f (by decide)) aeK λv5 a n c z8 ob st T b=>⟨_,me,z8,st,?_⟩
 generalize z8.app (v5.push lz)=v8 at*;have y3:=q4.trans T;have e:=dz.ok e T;have f:=dz.ok f T;refine gV (AM T.wf (r.ok y3) e f (by decide)) aeL λj0 a' n' c' y8 j6 w3 V x=>⟨_,me,y8,w3,aa (λq=>by cases q) (λ_=>aa (λq=>by cases q) (λ_=>?_))⟩
 generalize y8.app (j0.push lz)=w5 at*;have z6:=y3.trans V;have b:=b.ok V;refine⟨_,b.all,_,x.all,gV (tg V.wf (r.ok z6) LF acr b.row x.row) aeT λu2 aU nU cU z4 q0 v3 L B=>⟨_,me,z4,v3,?_⟩⟩;generalize z4.app (u2.push lz)=w8 at*;have y9:=z6.trans L;have b:=b.ok L;have x:=x.ok L;refine⟨_,b.all,_,x.all,gV (oT L.wf (r.ok y9) LF acr b.row x.row (λ_=>adb)) aeM λw2 aC nC cC y4 X1 v7 W Z=>⟨_,me,y4,v7,?_⟩⟩;generalize y4.app (w2.push lz)=w7 at*;have x9:=y9.trans W;have b:=b.ok W;refine⟨_,b.all,gV (Fc W.wf (r.ok x9) LF b.row) aeR λu8 aS nS cS y7 j9 j3 K s=>⟨_,me,y7,j3,?_⟩⟩;generalize y7.app (u8.push lz)=u5 at*;have z3:=x9.trans K;have b:=b.ok K;refine⟨_,b.all,gV (ud K.wf (r.ok z3) LF (by decide) (by decide) b.row) aeQ λu3 aR nR cR x5 X3 u7 o E=>⟨_,me,x5,u7,?_⟩⟩;generalize x5.app (u3.push lz)=w1 at*;have z0:=z3.trans o;have b:=b.ok o;refine⟨_,b.all,gV (RN o.wf (r.ok z0) LF (by decide) b.row (λ_ _=>ade)) aeS λj5 aT nT cT z1 X2 w4 p Y=>⟨_,me,z1,w4,?_⟩⟩;generalize z1.app (j5.push lz)=J at*;have v6:=z0.trans p;refine⟨_,_,_,agy 2 1 2,?_⟩;have m:=(Ok.refl p.wf).push (.cells [.int .i64 2,.int .i64 1,.int .i64 2] 3 1 true);have v9:=vn (l:=[2,1,2]) (n:=3) (aN J (.cells [.int .i64 2,.int .i64 1,.int .i64 2] 3 1 true)) rfl rfl;generalize J.push (.cells [.int .i64 2,.int .i64 1,.int .i64 2] 3 1 true)=q3 at*;refine gV (aal m.wf v9 (by decide)) aeP λu6 aL nL cL x8 q1 j4 k G=>⟨_,me,x8,j4,?_⟩
 generalize x8.app (u6.push lz)=R at*;have z2:=(v6.trans m).trans k;refine gV (AM k.wf (r.ok z2) (uH R) (uH R) (by decide)) aeN λv0 aH nH cH x0 j7 j1 j mH=>⟨_,me,x0,j1,?_⟩
 generalize x0.app (v0.push lz)=j8 at*;have x6:=z2.trans j;refine⟨_,mH.all,gV (Fc j.wf (r.ok x6) aeV mH.row) aeO λz9 aK nK cK I X0 w0 i mK=>⟨_,me,I,w0,aa (λ_=>?_) (λq=>by cases q)⟩⟩;generalize I.app (z9.push lz)=d at*;have x7:Ok w8 d:=((((((W.trans K).trans o).trans p).trans m).trans k).trans j).trans i;have u4:Ok w7 d:=(((((K.trans o).trans p).trans m).trans k).trans j).trans i;have j2:Ok u5 d:=((((o.trans p).trans m).trans k).trans j).trans i;have v2:Ok w1 d:=(((p.trans m).trans k).trans j).trans i;have v1:Ok J d:=((m.trans k).trans j).trans i;have w9:Ok R d:=j.trans i;have u1:Ok w5 d:=L.trans x7;have P:Ok v8 d:=V.trans u1;have e4:Ok g4 d:=T.trans P;have u0:=x6.trans i;have B:=B.ok x7;have Z:=Z.ok u4;have s:=s.ok j2;have E:=E.ok v2;have Y:=Y.ok v1;have G:=G.ok w9;have e:=dz.ok e P;have f:=dz.ok f P;have t:=dz.ok t e4;have Q:=dz.ok Q e4;refine⟨_,B.all,qo i.wf B acv e f aeY λh1 p1=>aa (λ_=>?_) (λq=>by cases q)⟩;have y:=p1;refine⟨_,(B.ok y).all,qo y.wf (B.ok y) acv (dz.ok e y) (dz.ok e y) aeZ λh2 p2=>aa (λ_=>?_) (λq=>by cases q)⟩;have A:=y.trans p2;refine⟨_,(Z.ok A).all,qo A.wf (Z.ok A) aeU (dz.ok t A) (dz.ok Q A) ae0 λh3 p3=>aa (λ_=>?_) (λq=>by cases q)⟩;have U:=A.trans p3;refine⟨_,(s.ok U).all,qo U.wf (s.ok U) U3 (uH h3) (uH h3) ae1 λh4 p4=>aa (λ_=>?_) (λq=>by cases q)⟩;have H:=U.trans p4;refine⟨_,(s.ok H).all,qo H.wf (s.ok H) U3 (dz.ok t H) (dz.ok Q H) ae2 λh5 p5=>aa (λ_=>?_) (λq=>by cases q)⟩;have O:=H.trans p5;refine⟨_,(s.ok O).all,qo O.wf (s.ok O) U3 (dz.ok e O) (uH h5) ae3 λh6 p6=>aa (λ_=>?_) (λq=>by cases q)⟩;have C:=O.trans p6;refine⟨_,(E.ok C).all,qo C.wf (E.ok C) acu (dz.ok e C) (dz.ok f C) ae4 λh7 p7=>aa (λ_=>?_) (λq=>by cases q)⟩;have F:=C.trans p7;refine⟨_,(E.ok F).all,qo F.wf (E.ok F) acu (dz.ok t F) (dz.ok Q F) ae5 λh8 p8=>aa (λ_=>?_) (λq=>by cases q)⟩;have D:=F.trans p8;refine⟨_,(Y.ok D).all,qo D.wf (Y.ok D) aeX (dz.ok e D) (dz.ok f D) ae6 λh9 p9=>aa (λ_=>?_) (λq=>by cases q)⟩;have z:=D.trans p9;refine⟨_,(G.ok z).all,qo z.wf (G.ok z) acs (dz.ok f z) (dz.ok f z) adf λz7 v4=>aa (λ_=>?_) (λq=>by cases q)⟩;have N:=z.trans v4;refine⟨_,(G.ok N).all,_,_,_,aav 1 2,_,_,_,aav 1 2,?_⟩;have y6:=(Ok.refl N.wf).push (.cells [.int .i64 1,.int .i64 2] 3 1 true);have y1:=vn (l:=[1,2]) (n:=2) (aN z7 (.cells [.int .i64 1,.int .i64 2] 3 1 true)) rfl rfl;generalize z7.push (.cells [.int .i64 1,.int .i64 2] 3 1 true)=y0 at*;have y5:=(Ok.refl y6.wf).push (.cells [.int .i64 1,.int .i64 2] 3 1 true);have y2:=vn (l:=[1,2]) (n:=2) (aN y0 (.cells [.int .i64 1,.int .i64 2] 3 1 true)) rfl rfl;generalize y0.push (.cells [.int .i64 1,.int .i64 2] 3 1 true)=q2 at*;have S:=(N.trans y6).trans y5;refine qo S.wf (G.ok S) acs (dz.ok y1 y5) y2 adg λz5 w6=>aa (λ_=>?_) (λq=>by cases q);have u:=S.trans w6;refine⟨_,(mK.ok u).all,qo u.wf (mK.ok u) aeW (uH z5) (uH z5) adh λX4 u9=>⟨rfl,u0.trans (u.trans u9)⟩⟩
variable{s:List UInt8}{z:Int}
theorem Lx(a:List UInt8):(bw a).length<=a.length:=by
 unfold bw;split
 ·rw[length_drop];omega
 ·omega
theorem WZ(a:List UInt8):(numOf a).length<=a.length:=by
 have:=Lx a;unfold numOf;rw[length_take];omega
theorem VL(a:List UInt8):(ak a).length<=a.length+1:=by
 have:=Lx a;unfold ak;split
 ·rw[length_drop];omega
 ·show 1<=_;omega
theorem yK(h:valid s=true){k:Nat}(a:s.length<=k):val s<10^k:=by
 unfold valid at h;simp only[and_eq_true]at h;exact Nat.lt_of_lt_of_le (AK h.2) (Nat.pow_le_pow_right (by omega) a)
theorem Q2(s:Bool){n d:Nat}(a:n<10^400)(f:d<10^400):∃c,lY s n d=some c:=by
 unfold lY;have b:n/Nat.gcd n d<10^400:=Nat.lt_of_le_of_lt (Nat.div_le_self _ _) a;have e:d/Nat.gcd n d<10^400:=Nat.lt_of_le_of_lt (Nat.div_le_self _ _) f;have g:=(dB (n:=n/Nat.gcd n d) (k:=400) (by decide)).2 b;have h:=(dB (n:=d/Nat.gcd n d) (k:=400) (by decide)).2 e;rw[if_neg (by omega)];exact⟨_,rfl⟩
theorem J2{x:Nat}(a:x<10^101)(b:n<10^101):x*n<10^202:=by
 have:x*n<10^101*10^101:=Nat.mul_lt_mul'' a b;rwa[<-Nat.pow_add]at this
theorem Xj(s:Bool)(A:Nat)(t:Bool)(B:Nat):(dC s A t B).2<=A+B:=by
 unfold dC;split
 ·exact Nat.le_refl _
 ·split
  ·show B-A<=_;omega
  ·show A-B<=_;omega
theorem Jd{a:List UInt8}(h:bq z a=true):aA a=true/\(z=1\/(z=2\/z=3)/\0<br a):=by
 unfold bq at h;rw[and_eq_true,and_eq_true,decide_eq_true_eq,Bool.or_eq_true]at h;obtain⟨⟨f,b⟩,d⟩:=h;refine⟨b,?_⟩;rcases d with h|h
 ·exact .inl (by simpa using h)
 ·by_cases c:z=1
  ·exact .inl c
  ·refine .inr ⟨by omega,?_⟩;have h:=dT h;have e:=rZ b gx;rw[je]at e;refine Rat.not_le.1 λc=>?_;rcases Rat.le_iff_lt_or_eq.1 c with c|c
   ·have:=e.1.2 c;omega
   ·have:=e.2.2 c;omega
theorem Je{a:List UInt8}(d:aA a=true)(h:z=1\/(z=2\/z=3)/\0<br a):bq z a=true:=by
 unfold bq;rw[d];rcases h with rfl|⟨h,b⟩
 ·rfl
 ·have e:=rZ d gx;rw[je]at e;have f:¬de a [48]<0:=λc=>by
   have:=e.1.1 c;exact(Rat.not_lt.2 (Rat.le_of_lt this)) b
  have g:¬de a [48]=0:=λc=>by
   have:=e.2.1 c;rw[this]at b;exact Rat.lt_irrefl b
  rw[decide_eq_true (show 0<de a [48] by omega),Bool.or_true,Bool.and_true,Bool.and_true];exact decide_eq_true (by omega)
theorem adn{A B:Nat}(h:A*10<=B)(a:0<A):A+A<B:=by omega
set_option exponentiation.threshold 1000 in
theorem YW{f:Int}{a b:List UInt8}(E:bq f a=true)(y:bq f b=true)(J:a.length<=100)(L:b.length<=100):∃c,cO f a b=some c/\bq f c=true:=by
 obtain⟨i,o⟩:=Jd E;obtain⟨g,q⟩:=Jd y;have p:=ba.1 i;have s:=ba.1 g;have r:=yK p.num (k:=101) (by have:=WZ a;omega);have u:=yK s.num (k:=101) (by have:=WZ b;omega);have v:=yK p.den (k:=101) (by have:=VL a;omega);have w:=yK s.den (k:=101) (by have:=VL b;omega);have G:(10:Nat)^202+10^202<10^400:=adn (A:=10^202) (B:=10^400) (by rw[<-Nat.pow_succ];exact Nat.pow_le_pow_right (by decide) (by decide)) (Nat.pow_pos (by decide));have t:∀x:List UInt8,aA x=true->(f=1\/(f=2\/f=3)/\0<br x)->x≠bP f:=λx z m e=>by
  rcases m with rfl|⟨h,m⟩
  ·exact(cw z).1 e
  ·have:bP f=[48]:=by rcases h with rfl|rfl<;>rfl
   rw[e,this,je]at m;exact Rat.lt_irrefl m
 have F:cO f a b=if f=1 then qT a b else B3 a b:=by
  unfold cO;rw[if_neg (λc=>c.elim (t a i o) (t b g q)),if_neg (λc=>c.elim (cw i).1 (cw g).1),if_neg (λc=>c.elim (cw i).2 (cw g).2)]
 rw[F];have H:=J2 r u;have M:=J2 v w;have K:=J2 r w;have I:=J2 u v;by_cases j:f=1
 ·rw[if_pos j];obtain⟨c,l⟩:=Q2 (dC (isNeg a) (val (numOf a)*val (ak b)) (isNeg b) (val (numOf b)*val (ak a))).1 (n:=(dC (isNeg a) (val (numOf a)*val (ak b)) (isNeg b) (val (numOf b)*val (ak a))).2) (d:=val (ak a)*val (ak b))
   (Nat.lt_of_le_of_lt (Xj ..) (by omega)) (by omega)
  exact⟨c,l,Je (pK i g l).1 (.inl j)⟩
 ·rw[if_neg j];obtain⟨c,l⟩:=Q2 (isNeg a !=isNeg b) (n:=val (numOf a)*val (numOf b)) (d:=val (ak a)*val (ak b)) (by omega) (by omega);obtain⟨C,D⟩:=Di i g l;refine⟨c,l,Je C (.inr ⟨by omega,?_⟩)⟩;rw[D];exact Rat.mul_pos (o.resolve_left j).2 (q.resolve_left j).2
end Go.Proofs.YtaaichlgdgjgjaaGreatDoor
end
section
namespace Go.Proofs.YtaaichlgdgjgjaaGreatDoor
open Go Go.Ab Go.Num Go.Num.aW
variable{p:List Int}{i:Nat}
section
section
variable {K:Type} {S:aW K} {dec:List UInt8->K}
theorem Zf{C:bp K}{q:Nat}(d:∀a∈C.arcs q,¬(a.i=0/\a.o=0))(x y:List Int):bp.val S C x y q=S.add (emp S x y (C.fin q)) (fG S (bp.go S (bp.val S C) x y) (C.arcs q)):=by
 have b:bp.val S C x y q=qN S (bp.D4 S C) C.n (bp.tail S C (bp.val S C) x y) q:=by rw[bp.C1 (S:=S) (M:=C) x y]
 rw[b,xH];have e:∀p,bp.D4 S C q p=S.zero:=λp=>by
  unfold bp.D4;rw[ei (g:=λ_=>S.zero) λa h=>?_,pn];exact if_neg λc=>d a h ⟨c.1,c.2.1⟩
 rw[aw (g:=λ_=>S.zero) λp _=>by rw[e p,S.zero_mul],dH,aW.add_zero];rfl
theorem QD{s:Int}(a:s≠0)(r u:List Int):ek s u=some r↔u=s::r:=by
 unfold ek;rw[if_neg a]
 cases u with
 |nil=>simp
 |cons c t=>
  dsimp only;by_cases e:c=s
  ·subst e;rw[if_pos rfl];simp
  ·rw[if_neg e];simp[e]
theorem VP(f:∀s∈p,s≠0)(i:Nat)(u:List Int):(∀r,ek (p.getD i 0) u=some r->(u=p.drop i↔r=p.drop (i+1)))/\(ek (p.getD i 0) u=none->u≠p.drop i):=by
 by_cases a:i<p.length
 ·have d:p.getD i 0∈p:=by
   rw[gD,gE a];exact List.getElem_mem a
  have b:=f _ d;have c:=Ei a;constructor
  ·intro r h;have:=(QD b r u).1 h;rw[this,c];simp
  ·intro h e;have:=(QD b (p.drop (i+1)) u).2 (e.trans c);rw[this]at h;cases h
 ·have g:p.getD i 0=0:=by rw[gD,List.getElem?_eq_none (by omega)];rfl
  have e:ek (p.getD i 0) u=some u:=by rw[g];exact if_pos rfl
  rw[drop_eq_nil_of_le (by omega),drop_eq_nil_of_le (by omega)];constructor
  ·intro r h;rw[e]at h;injection h with h
   rw[h]
  ·intro h;rw[e]at h;cases h
variable {kind:Int} {xs ys:List Int} {wt:List UInt8}
theorem Zr(a:i<max xs.length ys.length):(kj kind xs ys wt).af[i]?=some ⟨[],[⟨xs.getD i 0,ys.getD i 0,ct kind,((i+1:Nat):Int)⟩]⟩:=by
 show(pV kind xs ys (max xs.length ys.length)++[(⟨ct kind,[]⟩:dW)])[i]?=_;rw[List.getElem?_append_left (by rw[mI];exact a)];unfold pV;rw[getElem?_map,getElem?_range a];rfl
theorem Up:(kj kind xs ys wt).af[max xs.length ys.length]?=some ⟨ct kind,[]⟩:=Em _ _ [] (mI ..)
theorem C8:(kj kind xs ys wt).af.length=max xs.length ys.length+1:=by
 show(pV kind xs ys (max xs.length ys.length)++[(⟨ct kind,[]⟩:dW)]).length=_;rw[length_append,mI];rfl
theorem Jf:bV (kj kind xs ys wt).af=max xs.length ys.length:=by
 show bV (pV kind xs ys (max xs.length ys.length)++[(⟨ct kind,[]⟩:dW)])=_;rw[eA,BK];rfl
theorem acd(e:1<=kind/\kind<=3)(g:fq xs=true)(k:fq ys=true)(m:bq kind wt=true):K0 (kj kind xs ys wt):=by
 have p:=BP g;have o:=BP k;have b:=C8 (kind:=kind) (xs:=xs) (ys:=ys) (wt:=wt);have n:=Jf (kind:=kind) (xs:=xs) (ys:=ys) (wt:=wt);refine⟨e,⟨by omega,by omega⟩,⟨Int.le_refl _,by rw[b];show(0:Int)<_;omega⟩,m,by omega,λs a=>?_⟩;rw[b];show StW kind _ s;rcases mem_append.1 a with a|a
 ·unfold pV at a;obtain⟨i,j,rfl⟩:=mem_map.1 a;have j:=List.mem_range.1 j;refine⟨.inl rfl,λq d=>?_⟩;have:=mem_singleton.1 d;subst this;have f:∀{l:List Int},fq l=true->sF (l.getD i 0)=true:=λ{l} h=>by
   unfold fq at h;rw[and_eq_true,all_eq_true]at h;by_cases c:i<l.length
   ·have:=h.2 (l.getD i 0) (by rw[gD,gE c];exact List.getElem_mem c);unfold tC at this;rw[and_eq_true,decide_eq_true_eq,decide_eq_true_eq]at this;unfold sF;rw[decide_eq_true (show 0<=l.getD i 0 by omega),decide_eq_true this.2];rfl
   ·rw[gD,List.getElem?_eq_none (by omega)];rfl
  exact rj (f g) (f k) ⟨by show 0<=((i+1:Nat):Int);omega,by show((i+1:Nat):Int)<_;omega⟩ (Bh e)
 ·have:=mem_singleton.1 a;subst this;exact⟨.inr (Bh e),λq d=>by cases d⟩
theorem ME(b:fq xs=true){i:Nat}(a:i<xs.length):xs.getD i 0≠0:=KG b _ (by rw[gD,gE a];exact List.getElem_mem a)
theorem Zg(r:1<=kind/\kind<=3)(z:vM S dec kind)(n:fq xs=true)(w:fq ys=true)(u v:List Int):iG S dec (kj kind xs ys wt) u v=if u=xs/\v=ys then dec wt else S.zero:=by
 have o:dec (ct kind)=S.one:=by rw[Ai r];exact z.one
 have p:ct kind≠[]:=by rw[Ai r];unfold r6;split<;>simp
 have g:=C8 (kind:=kind) (xs:=xs) (ys:=ys) (wt:=wt);have m:∀d i,i+d=max xs.length ys.length->∀u v,bp.val S (rR S dec (kj kind xs ys wt)) u v i=if u=xs.drop i/\v=ys.drop i then S.one else S.zero:=by
  intro d
  induction d with
  |zero=>
   intro i C u v;obtain rfl:i=max xs.length ys.length:=by omega
   have b:=Up (kind:=kind) (xs:=xs) (ys:=ys) (wt:=wt);rw[oe (by rw[As,g];omega) (λa f=>by rw[iu b]at f;cases f),iu b,s9 b];show S.add _ S.zero=_;rw[aW.add_zero,if_neg p,o,drop_eq_nil_of_le (by omega),drop_eq_nil_of_le (by omega)];rfl
  | succ d A=>
   intro i C u v;have y:i<max xs.length ys.length:=by omega
   have b:=Zr (kind:=kind) (wt:=wt) y;have s:¬(xs.getD i 0=0/\ys.getD i 0=0):=λc=>by
    by_cases e:i<xs.length
    ·exact ME n e c.1
    ·exact ME w (by omega) c.2
   rw[Zf (λa f=>by
    rw[iu b]at f;have:=mem_singleton.1 f;subst this;exact s),iu b,s9 b,if_pos rfl,AW,S.zero_add]
   show S.add (bp.go S (bp.val S (rR S dec (kj kind xs ys wt))) u v ⟨xs.getD i 0,ys.getD i 0,dec (ct kind),((i+1:Nat):Int).toNat⟩) S.zero=_;rw[aW.add_zero];unfold bp.go;dsimp only;rw[if_neg s];obtain⟨t,B⟩:=VP (KG n) i u;obtain⟨q,x⟩:=VP (KG w) i v
   cases k:ek (xs.getD i 0) u with
   |none=>rw[if_neg (λc=>B k c.1)]
   | some j=>
    cases h:ek (ys.getD i 0) v with
    |none=>rw[if_neg (λc=>x h c.2)]
    |some l=>
     dsimp only;rw[show((i+1:Nat):Int).toNat=i+1 by omega,A (i+1) (by omega),o,S.one_mul];by_cases c:j=xs.drop (i+1)/\l=ys.drop (i+1)
     ·rw[if_pos c,if_pos ⟨(t j k).2 c.1,(q l h).2 c.2⟩]
     ·rw[if_neg c,if_neg (λe=>c ⟨(t j k).1 e.1,(q l h).1 e.2⟩)]
 show S.mul (dec wt) (bp.val S (rR S dec (kj kind xs ys wt)) u v 0)=_;rw[m _ 0 (Nat.zero_add _),drop_zero,drop_zero];split
 ·exact aW.mul_one _
 ·exact aW.mul_zero _
end
end
end Go.Proofs.YtaaichlgdgjgjaaGreatDoor
end
section
namespace Go.Proofs.YtaaichlgdgjgjaaGreatDoor
open Go Go.Ab Go.Num
section
def EQ(h:ae):VH:=λv g=>v = .bool true/\Ok h g
section
variable {h g:ae}
theorem wF(d:qJ h)(a:Ok h g):FW SS 12 [] g λv c=>yB v λb=>EQ h (.bool b) c:=by
 refine(U5 a.wf (d.ok a)).mono ?_;rintro _ e ⟨rfl,o⟩;exact⟨_,rfl,rfl,a.trans o⟩
variable {kind:Int} {xa ya ua va:Option Addr} {xc yc uc vc:Nat} {xs ys us vs:List Int} {wt:List UInt8}
end
end
section
theorem xD{M:bJ}(h:KE M=true):Small M/\M.af.length<=8/\bV M.af<=40/\M.lead.length<=40:=by
 unfold KE at h;simp only[and_eq_true,decide_eq_true_eq,all_eq_true]at h;obtain⟨c,d,b,e⟩:=h;have g:∀s∈M.af,s.f.length<=40/\∀q∈s.arcs,q.w.length<=40:=λs a=>by
  have:=e s a
  simp_all[MK]
 refine⟨⟨by omega,by omega,λs a=>by grind,λs a=>?_,λs a q f=>by grind,by omega⟩,c,d,b⟩;have:=F3 a;omega
section
variable {h g:ae} {A B M:bJ} {kA kB km kt ku:Nat} {a b m:Option Addr} {nA nB nM cA cB cM:Nat} {xa ya:Option Addr} {xc yc:Nat} {xs ys:List Int}
theorem NH(b:db A=true)(c:db B=true)(a:A.kind=B.kind):Aq A B=0:=by simp_all[Aq]
end
end
end Go.Proofs.YtaaichlgdgjgjaaGreatDoor
end
