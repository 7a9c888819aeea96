/- Laws and walks that the proof leans on (part 5): P24; P26; P22; P27; P28; W13 and others. No condition. -/
import Derived.Test.YtaheifbogkjpdaaGreatDoorPart4
import Derived.Test.YtaheifbogkjpdaaGreatDoorPart3
import Derived.Test.YtaheifbogkjpdaaGreatDoorPart2
set_option linter.unusedVariables false
set_option linter.unusedSimpArgs false
set_option maxRecDepth 100000
open List (all_cons drop_eq_nil_of_le drop_zero getElem?_drop getElem?_map getElem?_take length_append length_drop length_replicate length_set map_replicate mem_append mem_cons mem_singleton nodup_append nodup_nil take_add_one take_of_length_le take_zero)
open Nat (add_mul lt_of_lt_of_le lt_or_ge one_mul)
open Bool (and_eq_true not_eq_false' not_eq_true')
open Int (toNat_natCast)
open Go.IntKind (wrap)
section
set_option linter.defProp false
namespace Go.Proofs.YtaheifbogkjpdaaGreatDoor
open Go Go.Ab Go.Num
noncomputable def YP:TypeInfo:=(SS.P.info? 3).getD default
theorem Ux:SS.P.info? 3=some YP:=by kernel_rfl
theorem OY:YP.size=1:=by kernel_rfl
theorem LP:YP.bytes=8:=by kernel_rfl
theorem Xt:zeroOf SS.P 3=some (iv 0):=by kernel_rfl
theorem VR(n:Nat)(hn:n<=100000):bL SS.P 32 (.int .i64 (n:Int)) (.int .i64 (n:Int))=some (.cells ((List.replicate n 0).map iv) 3 1 true,my n n):=by
 unfold bL aS;dsimp only;rw[ll]
 try dsimp only
 change (match SS.P.info? 3,zeroOf SS.P 3 with
  |some i,some z=>(if z.cells.size=i.size/\0<i.size/\(0:Int)<=(n:Int)/\(n:Int)<=(n:Int)/\(n:Int)*i.bytes<=140737488355328/\(n:Int)<=1099511627776 then some (bO.cells (cd z.cells.toList (n:Int).toNat) 3 i.size true,λk=>Value.slice (some ⟨k,0,none⟩) (n:Int).toNat (n:Int).toNat)else none)
  |_,_=>none)=_
 rw[Ux,Xt];dsimp only;rw[OY,LP,if_pos ⟨rfl,by omega,by omega,Int.le_refl _,by omega,by omega⟩];have e:((n:Int)).toNat=n:=by omega
 rw[e,show(iv 0).cells.toList=[iv 0]from rfl,qp,map_replicate];rfl
theorem VC{k off n c:Nat}{i:Int}(h0:0<=i)(h1:i<n):af SS.P 32 (.slice (some ⟨k,off,none⟩) n c) (.int .i64 i)=some (.pointer (some ⟨k,off+i.toNat*1,none⟩)):=Fw ll Pv h0 h1
theorem Zz{h:aa}{a:Option Addr}{n c:Nat}{l:List Nat}(r:Rd h 3 (.slice a n c) (l.map iv)){i:Int}(h0:0<=i)(h1:i<l.length):∃p:Addr,af SS.P 32 (.slice a n c) (.int .i64 i)=some (.pointer (some p))/\ai SS.P 3 h (.pointer (some p))=some (.int .i64 (l.getD i.toNat 0:Nat)):=by
 obtain⟨p,h2,h3⟩:=r.at_ ll Pv GS GR (k:= .i64) (i:=i) h0 (by rw[lM];omega);rw[pD l i.toNat (by omega)]at h3;exact⟨p,h2,h3⟩
theorem D6(n:Int):mq 4 (.int .i64 n) (.int .i64 n)=true:=by simp[mq]
structure RP(hb:aa)(kt N:Nat)(L:List Nat)(g:aa):Prop where
 len:L.length=N
 lt:∀d∈L,d<10
 row:uh hb kt 3 (L.map iv) g
theorem RP.get{hb:aa}{kt N c:Nat}{L:List Nat}{g:aa}(m:RP hb kt N L g){jn:Nat}(hl:jn<N):af SS.P 32 (.slice (some ⟨kt,0,none⟩) N c) (.int .i64 (jn:Int))=some (.pointer (some ⟨kt,0+(jn:Int).toNat*1,none⟩))/\ai SS.P 3 g (.pointer (some ⟨kt,0+(jn:Int).toNat*1,none⟩))=some (.int .i64 (L.getD jn 0:Nat))/\
  ∀d:Nat,d<10->Wf hb->∃u:cX,aw SS.P 3 (.pointer (some ⟨kt,0+(jn:Int).toNat*1,none⟩)) (.int .i64 (d:Int)) g=some (undef,u)/\RP hb kt N (L.set jn d) (u.app g):=by
 have e:0+(jn:Int).toNat*1=jn:=by omega
 refine⟨VC (by omega) (by omega),?_,?_⟩
 ·rw[e,gG GS GR m.row.row (by rw[lM,m.len];exact hl),pD L jn (by rw[m.len];exact hl)]
 ·intro d hd w;rw[e];refine⟨_,vr Pv m.row.row (by rw[lM,m.len];exact hl) rfl rfl,by rw[length_set];exact m.len,λe he=>?_,?_⟩
  ·rcases List.mem_or_eq_of_mem_set he with h|h
   ·exact m.lt e h
   ·rw[h];exact hd
  ·have:=m.row.set w jn (.int .i64 (d:Int));rw[show(Value.int .i64 (d:Int))=iv d from rfl,xy iv L jn d]at this;rw[show(Value.int .i64 (d:Int))=iv d from rfl,xy iv L jn d];exact this
def Sh(hb:aa)(kt N n:Nat)(x y:List Nat)(mz i:Nat)(g:aa):Prop:=i<=n/\mz=n-i/\∃L,RP hb kt N L g/\Num.bv 10 L=Num.bv 10 (x.take i)*Num.bv 10 y
def Yx(hb:aa)(kt N k:Nat)(x y:List Nat)(i mz j:Nat)(cy:Int)(g:aa):Prop:=j<=k+1/\mz=k+1-j/\∃(L:List Nat)(cn:Nat),cy=(cn:Int)/\cn<10/\RP hb kt N L g/\Num.bv 10 L+cn*10^(i+j)=Num.bv 10 (x.take i)*Num.bv 10 y+x.getD i 0*Num.bv 10 (y.take j)*10^i
def Ow{hb:aa}(w:Wf hb){a:Option Addr}{n c:Nat}{b:Option Addr}{k d:Nat}{kt N tc:Nat}{x y:List Nat}(ra:Rd hb 3 (.slice a n c) (x.map iv))(rb:Rd hb 3 (.slice b k d) (y.map iv))(hx:∀d∈x,d<10)(hy:∀d∈y,d<10){i:Nat}(hi:i<n)(hn:n=x.length)(hk:k=y.length)(hN:N=n+k+1)(hN2:N<=10000)(l m:List UInt8)(Q:VH)(mz:Nat)(hmz:mz=n-i):=
 tU l m a n c b k d (some ⟨kt,0,none⟩) N tc (Sh hb kt N n x y) mz i (Yx hb kt N k x y i) Q (by
  intro mz2 j cy;intros;rename_i g hin;obtain⟨h1,h2,L,cn,rfl,h3,mr,h4⟩:=hin;have e1:wrap .i64 ((i:Int)+(j:Int))=((i+j:Nat):Int):=by rw[aA (by omega) (by omega)];omega
  have e2:wrap .i64 ((j:Int)+1)=((j+1:Nat):Int):=by rw[aA (by omega) (by omega)];omega
  have e3:wrap .i64 ((i:Int)+1)=((i+1:Nat):Int):=by rw[aA (by omega) (by omega)];omega
  rw[e1,e2,e3];refine ae (λh5=>?_) (λh5=>?_)
  ·have h5:=dT h5;have mr1:RP hb kt N L (Go.Ab.room g 18):=⟨mr.len,mr.lt,⟨mr.row.row,mr.row.new,mr.row.ok.room 18⟩⟩
   obtain⟨g1,g2,g3⟩:=mr1.get (c:=tc) (jn:=i+j) (by omega);obtain⟨p2,f1,f2⟩:=Zz (ra.ok mr1.row.ok) (i:=(i:Int)) (by omega) (by omega);rw[toNat_natCast]at f2;refine⟨_,g1,_,g2,p2,f1,_,f2,(pV (rb.ok mr1.row.ok) j).mono ?_⟩;rintro _ _ ⟨rfl,rfl⟩;refine⟨_,rfl,⟨g2,D6 _⟩,⟨f2,D6 _⟩,?_⟩;have hxi:=aG (b:=10) (by decide) hx i;have hyj:=aG (b:=10) (by decide) hy j;have hLj:=aG (b:=10) (by decide) mr.lt (i+j);obtain⟨q,hq⟩:∃q,q=x.getD i 0*y.getD j 0:=⟨_,rfl⟩
   have hq2:q<=81:=by rw[hq];exact Nat.le_trans (Nat.mul_le_mul (Nat.le_of_lt_succ hxi) (Nat.le_of_lt_succ hyj)) (by decide)
   have ms:=rU (B:=10) (by decide) (L:=L) (y:=y) (i:=i) (k:=j) (cy:=cn) (xi:=x.getD i 0) (P:=Num.bv 10 (x.take i)*Num.bv 10 y) (p:=L.getD (i+j) 0+cn+q) mr.lt (by rw[mr.len];omega) h3 hxi hyj (by rw[hq]) h4;have e4:wrap .i64 (((x.getD i 0:Nat):Int)*((y.getD j 0:Nat):Int))=(q:Int):=by rw[<-Int.natCast_mul,<-hq];exact aA (by omega) (by omega)
   rw[e4];have e5:wrap .i64 (((L.getD (i+j) 0:Nat):Int)+(q:Int))=((L.getD (i+j) 0+q:Nat):Int):=by rw[aA (by omega) (by omega)];omega
   rw[e5];have e6:wrap .i64 (((L.getD (i+j) 0+q:Nat):Int)+(cn:Int))=((L.getD (i+j) 0+cn+q:Nat):Int):=by rw[aA (by omega) (by omega)];omega
   rw[e6];generalize L.getD (i+j) 0+cn+q=pp at*;obtain⟨u,g6,g7⟩:=g3 (pp%10) (Nat.mod_lt _ (by decide)) w;refine⟨_,Ou,_,g1,u,g6,_,Oa (by omega),iN (mz2-1) (by omega) ⟨by omega,by omega,_,_,rfl,ms.2.1,g7,ms.2.2⟩⟩
  ·have h5:=dF h5;obtain rfl:j=k+1:=by omega
   refine cH (n-(i+1)) (by omega) ⟨by omega,rfl,L,mr,?_⟩;exact Bc (by decide) hx hy (by omega) mr.lt (by rw[<-hk];exact h4))
theorem Lv(a b:List UInt8){h:aa}(w:Wf h):FW SS 179 [strOf a,strOf b] h (λv h'=>v=wR a b/\Ok h h'):=by
 refine Lu a b h _ ((cU a h).mono ?_);rintro _ g0 ⟨rfl,e0⟩;obtain rfl:h=g0:=e0.symm;refine⟨_,rfl,ae (λg=>?_) (λg=>?_)⟩
 ·have g:Num.valid a=false:=by simpa using g
  refine⟨?_,Ok.refl w⟩;unfold wR;rw[if_neg (λe=>by rw[e.1]at g;cases g)];rfl
 have g:Num.valid a=true:=by simpa using g
 refine(cU b h).mono ?_;rintro _ g0 ⟨rfl,e0⟩;obtain rfl:h=g0:=e0.symm;refine⟨_,rfl,ae (λg2=>?_) (λg2=>?_)⟩
 ·have g2:Num.valid b=false:=by simpa using g2
  refine⟨?_,Ok.refl w⟩;unfold wR;rw[if_neg (λe=>by rw[e.2]at g2;cases g2)];rfl
 have g2:Num.valid b=true:=by simpa using g2
 have hS:wR a b=lU (Num.val a*Num.val b):=by unfold wR;rw[if_pos ⟨g,g2⟩]
 rw[hS];refine(nc g w).mono ?_;rintro _ h2 ⟨a2,n2,c2,rfl,o2,ok2⟩;refine⟨_,_,_,rfl,(nc g2 ok2.wf).mono ?_⟩;rintro _ h3 ⟨a3,n3,c3,rfl,o3,ok3⟩;refine⟨_,_,_,rfl,?_⟩;have r1:=o2.rd.ok ok3;have r2:=o3.rd;have ok:=ok2.trans ok3;have w3:=ok3.wf;have hn1:n2=(dS a).length:=by have:=r1.len;rwa[lM]at this
 have hn2:n3=(dS b).length:=by have:=r2.len;rwa[lM]at this
 have l1:=lB g;have l2:=lB g2;have hx:=iM g;have hy:=iM g2;have bX:=eE a;have bY:=eE b;generalize dS a=x at*;generalize dS b=y at*;generalize Num.val a=X at*;generalize Num.val b=Y at*;have e1:wrap .i64 (wrap .i64 ((n2:Int)+(n3:Int))+1)=((n2+n3+1:Nat):Int):=by
  rw[aA (n:=(n2:Int)+(n3:Int)) (by omega) (by omega),aA (by omega) (by omega)];omega
 dsimp only;rw[e1];refine⟨_,_,_,VR _ (by omega),?_⟩;have m0:RP h3 h3.next (n2+n3+1) (List.replicate (n2+n3+1) 0) (h3.push (.cells ((List.replicate (n2+n3+1) 0).map iv) 3 1 true)):=by
  refine⟨length_replicate,λd hd=>by rw[(List.mem_replicate.1 hd).2];decide,?_,Nat.le_refl _,(Ok.refl w3).push _⟩;rw[aa.aR,if_pos rfl]
 refine tT a b a2 n2 c2 a3 n3 c3 (some ⟨h3.next,0,none⟩) (n2+n3+1) (n2+n3+1) (Sh h3 h3.next (n2+n3+1) n2 x y) (λv h'=>v=lU (X*Y)/\Ok h h') (λmz i=>?_) n2 (i:=0) ⟨by omega,by omega,_,m0,by rw[o7,take_zero];simp[Num.bv]⟩;intros;rename_i gg hi;obtain⟨f1,f2,L,mr,f3⟩:=hi;refine ae (λh5=>?_) (λh5=>?_)
 ·have h5:=dT h5;exact Ow w3 r1 r2 hx hy (i:=i) (by omega) hn1 hn2 rfl (by omega) a b _ mz f2 (n3+1) (j:=0) (cy:=0) ⟨by omega,by omega,L,0,rfl,by decide,mr,by rw[f3,take_zero];simp[Num.bv]⟩
 ·have h5:=dF h5;obtain rfl:n2=i:=by omega
  rw[take_of_length_le (by omega),bX,bY]at f3;have hr:=mr.row.rd (n2+n3+1);rw[lM,mr.len]at hr;refine(oc hr mr.lt (by rw[mr.len];omega) mr.row.ok.wf).mono ?_;rintro _ h6 ⟨rfl,ok6⟩;refine⟨_,rfl,?_⟩;rw[f3];refine(rK _ h6).mono ?_;rintro _ _ ⟨rfl,rfl⟩;exact xC (K:=λv=>v=lU (X*Y)/\Ok h _) (tr _) ⟨rfl,(ok.trans mr.row.ok).trans ok6⟩
end Go.Proofs.YtaheifbogkjpdaaGreatDoor
end
section
namespace Go.Proofs.YtaheifbogkjpdaaGreatDoor
open Go Go.Ab Go.Num
theorem tM(l:List UInt8)(h:aa):FW SS 174 [strOf l] h (λv h'=>v = .bool (decide (l.length<=400)&&Num.valid l)/\h'=h):=by
 refine DM l h _ (ae (λg=>?_) (λg=>?_))
 ·have g:=dT g;refine(cU l h).mono ?_;rintro _ g0 ⟨rfl,e0⟩;refine⟨_,rfl,?_,e0⟩;rw[decide_eq_true (show l.length<=400 by omega),Bool.true_and]
 ·have g:=dF g;refine⟨?_,rfl⟩;rw[decide_eq_false (show ¬l.length<=400 by omega),Bool.false_and]
def Rk(n d:List UInt8)(neg stroke:Bool):Prop:=(Num.valid n=true/\n.length<=400)/\(Num.valid d=true/\d.length<=400)/\d≠[48]/\¬(n=[48]/\(neg=true\/stroke=true))/\¬(d=[49]/\stroke=true)/\(Nat.gcd (Num.val n) (Num.val d)=1\/d=[49])
def nR:Value:= .tuple ⟨[.bool false,strOf [],strOf [],.bool false]⟩
def jZ(neg:Bool)(n d:List UInt8):Value:= .tuple ⟨[.bool neg,strOf n,strOf d,.bool true]⟩
def mf(h:aa)(C:Prop)(G B:Value):VH:=λv h'=>Ok h h'/\(C->v=G)/\(¬C->v=B)
theorem iB{h h':aa}{C:Prop}{G B:Value}(o:Ok h h')(hc:¬C):mf h C G B B h':=⟨o,λc=>absurd c hc,λ_=>rfl⟩
theorem sq{h h':aa}{C:Prop}{G B:Value}(o:Ok h h')(hc:C):mf h C G B G h':=⟨o,λ_=>rfl,λc=>absurd hc c⟩
theorem Cl{n:List UInt8}(g:(decide (n.length<=400)&&Num.valid n)=true):Num.valid n=true/\n.length<=400:=by
 rw[and_eq_true,decide_eq_true_eq]at g;exact⟨g.2,g.1⟩
theorem Fq{n d:List UInt8}(hn:Num.valid n=true)(hd:Num.valid d=true):wB n d=Ak (aj (Nat.gcd (Num.val n) (Num.val d))) 0:=by unfold wB;rw[if_pos ⟨hn,hd⟩]
theorem nf(n d:List UInt8)(neg:Bool)(st:Int)(stroke:Bool)(hst:stroke=decide (st>=0)){h:aa}(w:Wf h){x0 x1 x2 x3 x4 x5 x10 x11 x12 x13 x14 x15 x16 x17 x18 x19 x20 x21 x22 x23 x24 x25 x26 x27 x28 x29 x30 x31 x32 x33 x34 x35 x36 x37 x38 x39 x40 x41 x42 x43 x44 x45 x46 x47 x48 x49 x50 x51 x52 x53 x54 x55 x56 x57 x58 x59 x60 x61 x62 x63 x64 x65 x66 x67 x68 x69 x70 x71 x72 x73 x74 x75 x76 x77 x78 x79 x80:Value}:
  TT SS an [1,1,1,1,1,1] [x0,x1,x2,x3,x4,x5,strOf n,strOf d,.bool neg,.int .i64 st,x10,x11,x12,x13,x14,x15,x16,x17,x18,x19,x20,x21,x22,x23,x24,x25,x26,x27,x28,x29,x30,x31,x32,x33,x34,x35,x36,x37,x38,x39,x40,x41,x42,x43,x44,x45,x46,x47,x48,x49,x50,x51,x52,x53,x54,x55,x56,x57,x58,x59,x60,x61,x62,x63,x64,x65,x66,x67,x68,x69,x70,x71,x72,x73,x74,x75,x76,x77,x78,x79,x80] h (EE SS an (mf h (Rk n d neg stroke) (jZ neg n d) nR)):=by
 refine wY ((tM n h).mono ?_);rintro _ g0 ⟨rfl,e0⟩;obtain rfl:h=g0:=e0.symm;refine⟨_,rfl,ae (λg=>iB (Ok.refl w) λc=>?_) (λg=>?_)⟩
 ·obtain⟨⟨c1,c2⟩,_⟩:=c;rw[c1,decide_eq_true c2]at g;cases g
 have hn:=Cl (n:=n) (by simpa using g);refine(tM d h).mono ?_;rintro _ g0 ⟨rfl,e0⟩;obtain rfl:h=g0:=e0.symm;refine⟨_,rfl,ae (λg=>iB (Ok.refl w) λc=>?_) (λg=>?_)⟩
 ·obtain⟨_,⟨c1,c2⟩,_⟩:=c;rw[c1,decide_eq_true c2]at g;cases g
 have hd:=Cl (n:=d) (by simpa using g);have fin:d≠[48]->¬(n=[48]/\(neg=true\/stroke=true))->¬(d=[49]/\stroke=true)->∀{x0 x1 x2 x3 x4 x5 x10 x11 x12 x13 x14 x15 x16 x17 x18 x19 x20 x21 x22 x23 x24 x25 x26 x27 x28 x29 x30 x31 x32 x33 x34 x35 x36 x37 x38 x39 x40 x41 x42 x43 x44 x45 x46 x47 x48 x49 x50 x51 x52 x53 x54 x55 x56 x57 x58 x59 x60 x61 x62 x63 x64 x65 x66 x67 x68 x69 x70 x71 x72 x73 x74 x75 x76 x77 x78 x79 x80:Value},
   TT SS an [1,1,1,1,1,1,1] [x0,x1,x2,x3,x4,x5,strOf n,strOf d,.bool neg,.int .i64 st,x10,x11,x12,x13,x14,x15,x16,x17,x18,x19,x20,x21,x22,x23,x24,x25,x26,x27,x28,x29,x30,x31,x32,x33,x34,x35,x36,x37,x38,x39,x40,x41,x42,x43,x44,x45,x46,x47,x48,x49,x50,x51,x52,x53,x54,x55,x56,x57,x58,x59,x60,x61,x62,x63,x64,x65,x66,x67,x68,x69,x70,x71,x72,x73,x74,x75,x76,x77,x78,x79,x80] h (EE SS an (mf h (Rk n d neg stroke) (jZ neg n d) nR)):=by
  intro c3 c4 c5;intros;refine wZ ((Lt n d h w).mono ?_);rintro _ h1 ⟨rfl,o1⟩;rw[Fq hn.1 hd.1];refine⟨_,_,rfl,?_⟩;have e1:aj (Nat.gcd (Num.val n) (Num.val d))=[49]↔Nat.gcd (Num.val n) (Num.val d)=1:=jr;refine ae (λg1=>ae (λg2=>iB o1 λc=>?_) (λg2=>sq o1 ?_)) (λg1=>sq o1 ?_)
  ·have g1:¬aj (Nat.gcd (Num.val n) (Num.val d))=[49]:=by simpa using g1
   have g2:¬d=[49]:=by simpa using g2
   rcases c.2.2.2.2.2 with c|c
   ·exact g1 (e1.2 c)
   ·exact g2 c
  ·have g2:d=[49]:=by simpa using g2
   exact⟨hn,hd,c3,c4,c5,.inr g2⟩
  ·have g1:aj (Nat.gcd (Num.val n) (Num.val d))=[49]:=by simpa using g1
   exact⟨hn,hd,c3,c4,c5,.inl (e1.1 g1)⟩
 refine ae (λg1=>iB (Ok.refl w) λc=>?_) (λg1=>?_)
 ·exact c.2.2.1 (by simpa using g1)
 have g1:d≠[48]:=by simpa using g1
 have k49:∀{x:Bool},(x=true->st>=0)->True:=λ_=>trivial;have nst:decide (st>=0)=false->¬stroke=true:=λe f=>by rw[hst]at f;rw[f]at e;cases e
 have yst:decide (st>=0)=true->stroke=true:=λe=>by rw[hst,e]
 refine ae (λg2=>?_) (λg2=>?_)
 ·have g2:n=[48]:=by simpa using g2
  refine ae (λg3=>iB (Ok.refl w) λc=>c.2.2.2.1 ⟨g2,.inl g3⟩) (λg3=>?_);have g3:¬neg=true:=by rw[g3];simp
  refine ae (λg4=>iB (Ok.refl w) λc=>c.2.2.2.1 ⟨g2,.inr (yst g4)⟩) (λg4=>?_);have f4:¬(n=[48]/\(neg=true\/stroke=true)):=λc=>c.2.elim g3 (nst g4);refine ae (λg5=>?_) (λg5=>?_)
  ·refine ae (λg6=>iB (Ok.refl w) λc=>c.2.2.2.2.1 ⟨by simpa using g5,yst g6⟩) (λg6=>?_);exact fin g1 f4 (λc=>nst g6 c.2)
  ·exact fin g1 f4 (λc=>(by
    have:¬d=[49]:=by simpa using g5
    exact this c.1))
 ·have f4:¬(n=[48]/\(neg=true\/stroke=true)):=λc=>by
   have:¬n=[48]:=by simpa using g2
   exact this c.1
  refine ae (λg5=>?_) (λg5=>?_)
  ·refine ae (λg6=>iB (Ok.refl w) λc=>c.2.2.2.2.1 ⟨by simpa using g5,yst g6⟩) (λg6=>?_);exact fin g1 f4 (λc=>nst g6 c.2)
  ·exact fin g1 f4 (λc=>(by
    have:¬d=[49]:=by simpa using g5
    exact this c.1))
def jA(l:List UInt8):Value:=if bN l=true then jZ (Num.isNeg l) (Num.numOf l) (aZ l)else nR
theorem Dz{h:aa}{l:List UInt8}{v:Value}{h':aa}(q:mf h (Rk (Num.numOf l) (aZ l) (Num.isNeg l) (bu l)) (jZ (Num.isNeg l) (Num.numOf l) (aZ l)) nR v h'):v=jA l/\Ok h h':=by
 obtain⟨o,q1,q2⟩:=q;refine⟨?_,o⟩;unfold jA;by_cases g:bN l=true
 ·rw[if_pos g];exact q1 (vA.1 (eI.1 g))
 ·rw[if_neg g];exact q2 λc=>g (eI.2 (vA.2 c))
theorem lj(l:List UInt8)(hl:l.length<=281474976710656){h:aa}(w:Wf h):FW SS 154 [strOf l] h (λv h'=>v=jA l/\Ok h h'):=by
 refine FW.mono (Q:=mf h (Rk (Num.numOf l) (aZ l) (Num.isNeg l) (bu l)) (jZ (Num.isNeg l) (Num.numOf l) (aZ l)) nR) ?_ (λ_ _ q=>Dz q);have hs:∀m:List UInt8,m.length<=281474976710656->∀(K:VH),(∀(n5:Int),n5=AI m->(if n5>=0 then ∃i:Nat,n5=(i:Int)/\wrap .i64 (n5+1)=((i+1:Nat):Int)/\i=dp 47 m/\i<m.length else ¬dp 47 m<m.length)  ->K (.int .i64 n5) h)->FW SS 173 [strOf m,.int .u8 47] h K:=by
  intro m hm K hK;refine(DJ m hm h).mono ?_;rintro _ g0 ⟨rfl,e0⟩;obtain rfl:h=g0:=e0.symm;refine hK _ rfl ?_;unfold AI;by_cases g:dp 47 m<m.length
  ·rw[if_pos g,if_pos (by omega)];exact⟨_,rfl,by rw[aA (by omega) (by omega)];omega,rfl,g⟩
  ·rw[if_neg g,if_neg (by omega)];exact g
 have body:∀(m:List UInt8),m=bc l->m.length<=281474976710656->∀(n5:Int),(if n5>=0 then ∃i:Nat,n5=(i:Int)/\wrap .i64 (n5+1)=((i+1:Nat):Int)/\i=dp 47 m/\i<m.length else ¬dp 47 m<m.length)->
   (decide (n5>=0)=true->bu l=true/\bt SS.P 9 (strOf m) (some (.int .i64 (wrap .i64 (n5+1)))) none none h=some (strOf (aZ l))/\bt SS.P 9 (strOf m) none (some (.int .i64 n5)) none h=some (strOf (Num.numOf l)))/\
   (decide (n5>=0)=false->bu l=false/\m=Num.numOf l/\aZ l=[49]):=by
  intro m em hm n5 hi;refine⟨λg=>?_,λg=>?_⟩
  ·rw[if_pos (dT g)]at hi;obtain⟨i,rfl,e1,rfl,h2⟩:=hi;have hst:bu l=true:=by unfold bu;rw[<-em];exact decide_eq_true h2
   refine⟨hst,?_,?_⟩
   ·rw[e1,qK m h h2];unfold aZ;rw[if_pos hst,em]
   ·rw[D2 m h (Nat.le_of_lt h2)];unfold Num.numOf;rw[em]
  ·rw[if_neg (dF g)]at hi;have hst:bu l=false:=by unfold bu;rw[<-em];exact decide_eq_false hi
   refine⟨hst,?_,?_⟩
   ·unfold Num.numOf;rw[<-em,take_of_length_le (by omega)]
   ·unfold aZ;rw[hst];rfl
 have cont:∀(m:List UInt8),m=bc l->m.length<=281474976710656:=λm em=>by
  rw[em];unfold bc;split
  ·rw[length_drop];omega
  ·exact hl
 refine DK l h _ (ae (λg=>?_) (λg=>?_))
 ·have g:=dT g
  cases l with
  |nil=>simp at g
  | cons c l'=>
   have e:bp SS.P 9 (strOf (c::l')) (.int .i64 0)=some (.int .u8 ((c.toNat:Nat):Int)):=by
    have:=lC O7 (c::l') .i64 (i:=0) (by omega) g;simpa using this
   refine⟨_,e,ae (λg2=>?_) (λg2=>?_)⟩
   ·have g2:c=45:=by
     have:((c.toNat:Nat):Int)=45:=by simpa using g2
     rw[<-UInt8.toNat_inj];show c.toNat=45;omega
    have hneg:Num.isNeg (c::l')=true:=by unfold Num.isNeg;rw[g2];rfl
    have em:l'=bc (c::l'):=by unfold bc;rw[if_pos hneg];rfl
    have hs1:bt SS.P 9 (strOf (c::l')) (some (.int .i64 1)) none none h=some (strOf l'):=qK (c::l') h (a:=1) (by simp);refine⟨_,hs1,hs l' (cont _ em) _ (λn5 h5 hi=>⟨n5,rfl,?_⟩)⟩;obtain⟨b1,b2⟩:=body l' em (cont _ em) n5 hi;have e2:(((c.toNat:Nat):Int)==45)=true:=g2▸rfl;rw[hneg,e2];refine ae (λg=>?_) (λg=>?_)
    ·obtain⟨s1,s2,s3⟩:=b1 g;exact⟨_,s2,_,s3,nf _ _ true n5 _ (by rw[s1,g]) w⟩
    ·obtain⟨s1,s2,s3⟩:=b2 g;rw[s3,<-s2];exact nf _ _ true n5 _ (by rw[s1,g]) w
   ·have g2:¬c=45:=λe=>by rw[e]at g2;cases g2
    have hneg:Num.isNeg (c::l')=false:=by
     unfold Num.isNeg;simp[g2]
    have em:c::l'=bc (c::l'):=by unfold bc;rw[hneg];rfl
    have e2:(((c.toNat:Nat):Int)==45)=false:=by
     have:((c.toNat:Nat):Int)≠45:=λe=>g2 (by rw[<-UInt8.toNat_inj];show c.toNat=45;omega);simpa using this
    refine hs (c::l') hl _ (λn5 h5 hi=>⟨n5,rfl,?_⟩);obtain⟨b1,b2⟩:=body _ em hl n5 hi;rw[hneg,e2];refine ae (λg=>?_) (λg=>?_)
    ·obtain⟨s1,s2,s3⟩:=b1 g;exact⟨_,s2,_,s3,nf _ _ false n5 _ (by rw[s1,g]) w⟩
    ·obtain⟨s1,s2,s3⟩:=b2 g;rw[s3,<-s2];exact nf _ _ false n5 _ (by rw[s1,g]) w
 ·have g:=dF g;obtain rfl:l=[]:=List.eq_nil_of_length_eq_zero (by omega);have em:[]=bc []:=rfl;refine hs [] (by simp) _ (λn5 h5 hi=>⟨n5,rfl,?_⟩);obtain⟨b1,b2⟩:=body _ em (by simp) n5 hi;refine ae (λg=>?_) (λg=>?_)
  ·obtain⟨s1,s2,s3⟩:=b1 g;exact⟨_,s2,_,s3,nf _ _ false n5 _ (by rw[s1,g]) w⟩
  ·obtain⟨s1,s2,s3⟩:=b2 g;rw[s3,<-s2];exact nf _ _ false n5 _ (by rw[s1,g]) w
theorem BZ{l:List UInt8}{K:Value->Prop}(hK:K (jA l)):∃(b3:Bool)(l4 l5:List UInt8)(b6:Bool),jA l=(.tuple ⟨[.bool b3,strOf l4,strOf l5,.bool b6]⟩)/\K (.tuple ⟨[.bool b3,strOf l4,strOf l5,.bool b6]⟩)/\b6=bN l:=by
 unfold jA at*
 cases g:bN l with
 |true=>rw[g]at hK;exact⟨_,_,_,_,rfl,hK,rfl⟩
 |false=>rw[g]at hK;exact⟨_,_,_,_,rfl,hK,rfl⟩
theorem DP(l:List UInt8)(hl:l.length<=281474976710656){h:aa}(w:Wf h):FW SS 121 [strOf l] h (λv h'=>v = .bool (bN l)/\Ok h h'):=by
 refine DO l h _ ((lj l hl w).mono ?_);rintro _ h1 ⟨rfl,o1⟩;obtain⟨b3,l4,l5,b6,e,_,e6⟩:=BZ (l:=l) (K:=λ_=>True) trivial;exact⟨b3,l4,l5,b6,e,by rw[e6],o1⟩
theorem lG{X:Nat}(h:X<10^800):Num.valid (aj X)=true:=j5.2 (lt_of_lt_of_le h (sJ (k:=800) (m:=1000) (by decide)))
theorem Jp{X:Nat}(h:X<10^1000):lU X=Ak (aj X) 0:=by
 unfold lU;rw[if_neg];have:=(dy (n:=X) (k:=1000) (by decide)).2 h;omega
theorem EB{A B:Nat}(hA:A<10^800)(hB:B<10^800):wy (aj A) (aj B)=Ak (aj (A+B)) 0:=by
 unfold wy;rw[if_pos ⟨lG hA,lG hB⟩,bC,bC];exact Jp (lt_of_lt_of_le (Nat.add_lt_add hA hB) JR)
theorem ua{A B:Nat}(hA:A<10^800)(hB:B<10^800)(h:B<=A):w7 (aj A) (aj B)=Ak (aj (A-B)) 0:=by
 unfold w7;rw[if_pos ⟨lG hA,lG hB⟩,bC,bC,if_neg (Nat.not_lt.2 h)]
theorem EO{A B:Nat}(hA:A<10^800)(hB:B<10^800):wz (aj A) (aj B) = .int .i64 (dn A B):=by
 unfold wz;rw[if_pos ⟨lG hA,lG hB⟩,bC,bC]
theorem lV{a b:List UInt8}(ha:Num.valid a=true)(hb:Num.valid b=true)(la:a.length<=400)(lb:b.length<=400):wR a b=Ak (aj (Num.val a*Num.val b)) 0/\Num.val a*Num.val b<10^800:=by
 have h:=Aq (x6 (k:=400) ha (by decide) la) (x6 (k:=400) hb (by decide) lb);refine⟨?_,h⟩;unfold wR;rw[if_pos ⟨ha,hb⟩];exact Jp (lt_of_lt_of_le h (sJ (k:=800) (m:=1000) (by decide)))
def vQ(s:Bool)(A:Nat)(t:Bool)(B:Nat):Value:= .tuple ⟨[.bool (iq s A t B).1,strOf (aj (iq s A t B).2)]⟩
theorem sV{A B:Nat}:dn A B<0↔A<B:=rR
theorem Il(s:Bool)(A:Nat)(t:Bool)(B:Nat)(hA:A<10^800)(hB:B<10^800){h:aa}(w:Wf h):FW SS 155 [.bool s,strOf (aj A),.bool t,strOf (aj B)] h (λv h'=>v=vQ s A t B/\Ok h h'):=by
 refine Ik s _ t _ h _ (ae (λg=>?_) (λg=>?_))
 ·have g:s=t:=by simpa using g
  refine(Ln _ _ w).mono ?_;rintro _ h1 ⟨rfl,o1⟩;rw[EB hA hB];refine⟨_,_,rfl,?_,o1⟩;unfold vQ iq;rw[if_pos g]
 ·have g:¬s=t:=by simpa using g
  refine(Lp _ _ w).mono ?_;rintro _ h1 ⟨rfl,o1⟩;rw[EO hA hB];refine⟨_,rfl,ae (λg1=>?_) (λg1=>?_)⟩
  ·have g1:=dT g1;have g2:¬A<B:=λc=>by have:=sV.2 c;omega
   refine(Cd _ _ o1.wf).mono ?_;rintro _ h2 ⟨rfl,o2⟩;rw[ua hA hB (Nat.not_lt.1 g2)];refine⟨_,_,rfl,?_,o1.trans o2⟩;unfold vQ iq;rw[if_neg g,if_neg g2]
  ·have g1:=dF g1;have g2:A<B:=sV.1 (by omega);refine(Cd _ _ o1.wf).mono ?_;rintro _ h2 ⟨rfl,o2⟩;rw[ua hB hA (Nat.le_of_lt g2)];refine⟨_,_,rfl,?_,o1.trans o2⟩;unfold vQ iq;rw[if_neg g,if_pos g2]
theorem tN{a b:List UInt8}(ha:Num.valid a=true)(hb:Num.valid b=true)(la:a.length<=400)(lb:b.length<=400){h:aa}(w:Wf h):FW SS 156 [strOf a,strOf b] h (λv h'=>v=strOf (aj (Num.val a*Num.val b))/\Ok h h'):=by
 refine DN a b h _ ((Lv a b w).mono ?_);rintro _ h1 ⟨rfl,o1⟩;rw[(lV ha hb la lb).1];exact⟨_,_,rfl,rfl,o1⟩
theorem Ij(l m:List UInt8)(hl:l.length<=281474976710656)(hm:m.length<=281474976710656){h:aa}(w:Wf h):FW SS 122 [strOf l,strOf m] h (λv h'=>v = .int .i64 (ef l m)/\Ok h h'):=by
 refine Ii l m h _ ((lj l hl w).mono ?_);rintro _ h1 ⟨rfl,o1⟩
 cases g:bN l with
 |false=>
  have e:jA l=nR:=by unfold jA;rw[g];rfl
  refine⟨_,_,_,_,e,(lj m hm o1.wf).mono ?_⟩;rintro _ h2 ⟨rfl,o2⟩;obtain⟨b3,l4,l5,b6,e2,_,e6⟩:=BZ (l:=m) (K:=λ_=>True) trivial;refine⟨b3,l4,l5,b6,e2,?_,o1.trans o2⟩;unfold ef;rw[if_neg (λc=>by rw[c.1]at g;cases g)]
 | true=>
  have e:jA l=jZ (Num.isNeg l) (Num.numOf l) (aZ l):=by unfold jA;rw[g];rfl
  refine⟨_,_,_,_,e,(lj m hm o1.wf).mono ?_⟩;rintro _ h2 ⟨rfl,o2⟩
  cases g2:bN m with
  |false=>
   have e2:jA m=nR:=by unfold jA;rw[g2];rfl
   refine⟨_,_,_,_,e2,?_,o1.trans o2⟩;unfold ef;rw[if_neg (λc=>by rw[c.2]at g2;cases g2)]
  | true=>
   have e2:jA m=jZ (Num.isNeg m) (Num.numOf m) (aZ m):=by unfold jA;rw[g2];rfl
   have r1:=eI.1 g;have r2:=eI.1 g2;refine⟨_,_,_,_,e2,(tN r1.num r2.den r1.ln r2.ld o2.wf).mono ?_⟩;rintro _ h3 ⟨rfl,o3⟩;refine⟨_,rfl,(tN r2.num r1.den r2.ln r1.ld o3.wf).mono ?_⟩;rintro _ h4 ⟨rfl,o4⟩;refine⟨_,rfl,(Il _ _ _ _ (lV r1.num r2.den r1.ln r2.ld).2 (lV r2.num r1.den r2.ln r1.ld).2 o4.wf).mono ?_⟩;rintro _ h5 ⟨rfl,o5⟩;have ok:=(((o1.trans o2).trans o3).trans o4).trans o5;refine⟨_,_,rfl,?_⟩;unfold ef;rw[if_pos ⟨g,g2⟩];generalize iq _ _ _ _=z;refine ae (λg3=>⟨?_,ok⟩) (λg3=>?_)
   ·have g3:aj z.2=[48]:=by simpa using g3
    rw[if_pos (cI.1 g3)]
   ·have g3:¬aj z.2=[48]:=by simpa using g3
    rw[if_neg (λc=>g3 (cI.2 c))];refine ae (λg4=>⟨?_,ok⟩) (λg4=>⟨?_,ok⟩)
    ·rw[if_pos g4]
    ·rw[if_neg (by rw[g4];simp)]
end Go.Proofs.YtaheifbogkjpdaaGreatDoor
end
section
set_option linter.defProp false
namespace Go.Proofs.YtaheifbogkjpdaaGreatDoor
open Go Go.Ab Go.Num
structure MR(hb:aa)(kt N:Nat)(L:List Nat)(g:aa):Prop where
 len:L.length=N
 lt:∀d∈L,d<BB
 row:g.get kt=some (.cells (bI ((List.replicate N 0).map uv) 0 L) 117 1 true)
 ok:Ok hb g
theorem MR.room{hb:aa}{kt N:Nat}{L:List Nat}{g:aa}(m:MR hb kt N L g)(r:Nat):MR hb kt N L (Go.Ab.room g r):=⟨m.len,m.lt,m.row,m.ok.room r⟩
theorem MR.get{hb:aa}{kt N c:Nat}{L:List Nat}{g:aa}(m:MR hb kt N L g){j:Int}{jn:Nat}(hj:j=(jn:Int))(hl:jn<N):∃p:Addr,af SS.P 150 (.slice (some ⟨kt,0,none⟩) N c) (.int .i64 j)=some (.pointer (some p))/\ai SS.P 117 g (.pointer (some p))=some (.int .u64 (L.getD jn 0:Nat))/\
  ∀d:Nat,d<BB->kt<g.next->hb.next<=kt->Wf hb->∃u:cX,aw SS.P 117 (.pointer (some p)) (.int .u64 (d:Int)) g=some (undef,u)/\MR hb kt N (L.set jn d) (u.app g):=by
 subst hj;have hc:(0:Nat)+L.length<=((List.replicate N 0).map uv).length:=by rw[lM,length_replicate,m.len];omega
 refine⟨⟨kt,0+(jn:Int).toNat,none⟩,ti (by omega) (by omega),?_,?_⟩
 ·rw[toNat_natCast];exact ze m.row hc (by rw[m.len];exact hl)
 ·intro d hd hk hn w;rw[toNat_natCast];refine⟨_,zT m.row hc (by rw[m.len];exact hl) d,by rw[length_set];exact m.len,λe he=>?_,?_,m.ok.set _ hn hk w⟩
  ·rcases List.mem_or_eq_of_mem_set he with h|h
   ·exact m.lt e h
   ·rw[h];exact hd
  ·show(g.set kt _).get kt=_;rw[aa.aX,if_pos rfl]
def NM(hb:aa)(kt N n:Nat)(x y:List Nat)(mz i:Nat)(g:aa):Prop:=i<=n/\mz=n-i/\∃L,MR hb kt N L g/\Num.bv BB L=Num.bv BB (x.take i)*Num.bv BB y
def Sc(hb:aa)(kt N k:Nat)(x y:List Nat)(i mz j:Nat)(cy:Int)(g:aa):Prop:=j<=k+1/\mz=k+1-j/\∃(L:List Nat)(cn:Nat),cy=(cn:Int)/\cn<BB/\MR hb kt N L g/\Num.bv BB L+cn*BB^(i+j)=Num.bv BB (x.take i)*Num.bv BB y+x.getD i 0*Num.bv BB (y.take j)*BB^i
theorem HY{hb:aa}(w:Wf hb){kt N k:Nat}{x y:List Nat}(hkt:hb.next<=kt)(hx:∀d∈x,d<BB)(hy:∀d∈y,d<BB){i mz j:Nat}{cn:Nat}{L:List Nat}{g:aa}(hj:j<k+1)(hij:i+j<N)(hmz:mz=k+1-j)(hcn:cn<BB)(m:MR hb kt N L g)(he:Num.bv BB L+cn*BB^(i+j)=Num.bv BB (x.take i)*Num.bv BB y+x.getD i 0*Num.bv BB (y.take j)*BB^i){q:Nat}(hq:q=x.getD i 0*y.getD j 0):
  q<=999999998000000001/\L.getD (i+j) 0<BB/\(∀g',MR hb kt N (L.set (i+j) ((L.getD (i+j) 0+cn+q)%BB)) g'->mz-1<mz/\Sc hb kt N k x y i (mz-1) (j+1) (((L.getD (i+j) 0+cn+q)/BB:Nat):Int) g')/\(L.getD (i+j) 0+cn+q)%BB<BB/\kt<g.next:=by
 have hxi:=aG (b:=BB) (by decide) hx i;have hyj:=aG (b:=BB) (by decide) hy j;have hLj:=aG (b:=BB) (by decide) m.lt (i+j);refine⟨?_,hLj,λg' m'=>⟨by omega,by omega,by omega,_,_,rfl,?_,m',?_⟩,Nat.mod_lt _ (by decide),m.ok.wf _ _ m.row⟩
 ·rw[hq];exact Nat.le_trans (Nat.mul_le_mul (Nat.le_of_lt_succ hxi) (Nat.le_of_lt_succ hyj)) (by decide)
 ·exact(rU eU m.lt (by rw[m.len];exact hij) hcn hxi hyj (by rw[hq]) he).2.1
 ·exact(rU eU m.lt (by rw[m.len];exact hij) hcn hxi hyj (by rw[hq]) he).2.2
def KP{hb:aa}(w:Wf hb){a:Option Addr}{n c:Nat}{b:Option Addr}{k d:Nat}{kt N tc:Nat}{x y:List Nat}(ra:Rd hb 117 (.slice a n c) (x.map uv))(rb:Rd hb 117 (.slice b k d) (y.map uv))(hx:∀d∈x,d<BB)(hy:∀d∈y,d<BB)(hkt:hb.next<=kt){i:Nat}(hi:i<n)(hn:n=x.length)(hk:k=y.length)(hN:N=n+k+1)(hN2:N<=1000)(l m:List UInt8)(Q:VH)(mz:Nat)(hmz:mz=n-i):=
 tF l m a n c b k d (some ⟨kt,0,none⟩) N tc (n:Int) (NM hb kt N n x y) mz i ((k:Int)+1) (Sc hb kt N k x y i) Q (by
  intro mz2 j cy;intros;rename_i g hin;obtain⟨h1,h2,L,cn,rfl,h3,mr,h4⟩:=hin;have hBv:BB=1000000000:=rfl;have e1:wrap .i64 ((i:Int)+(j:Int))=((i+j:Nat):Int):=by rw[aA (by omega) (by omega)];omega
  have e2:wrap .i64 ((j:Int)+1)=((j+1:Nat):Int):=by rw[aA (by omega) (by omega)];omega
  have e3:wrap .i64 ((i:Int)+1)=((i+1:Nat):Int):=by rw[aA (by omega) (by omega)];omega
  rw[e1,e2,e3];refine ae (λh5=>?_) (λh5=>?_)
  ·have h5:=dT h5;obtain⟨q,hq⟩:∃q,q=x.getD i 0*y.getD j 0:=⟨_,rfl⟩
   obtain⟨s1,s2,s3,s4,s5⟩:=HY w hkt hx hy (by omega) (by omega) h2 h3 mr h4 hq;obtain⟨p,g1,g2,_⟩:=mr.get (c:=tc) (j:=((i+j:Nat):Int)) rfl (by omega);have e4:wrap .u64 (((L.getD (i+j) 0:Nat):Int)+(cn:Int))=((L.getD (i+j) 0+cn:Nat):Int):=by rw[e9 (by omega) (by omega)];omega
   refine⟨p,g1,_,g2,ae (λh6=>?_) (λh6=>?_)⟩
   ·have h6:=dT h6;obtain⟨p1,f1,f2⟩:=Bp (ra.ok (mr.room 12).ok) (i:=(i:Int)) (by omega) (by omega);obtain⟨p2,f3,f4⟩:=Bp (rb.ok (mr.room 12).ok) (i:=(j:Int)) (by omega) (by omega);rw[toNat_natCast]at f2 f4;have e5:wrap .u64 (((x.getD i 0:Nat):Int)*((y.getD j 0:Nat):Int))=(q:Int):=by rw[<-Int.natCast_mul,<-hq];exact e9 (by omega) (by omega)
    have e6:wrap .u64 (((L.getD (i+j) 0+cn:Nat):Int)+(q:Int))=((L.getD (i+j) 0+cn+q:Nat):Int):=by rw[e9 (by omega) (by omega)];omega
    rw[e4];refine⟨p1,f1,_,f2,p2,f3,_,f4,?_⟩;dsimp only;rw[e5,e6];obtain⟨p3,g3,_,g5⟩:=(mr.room 12).get (c:=tc) (j:=((i+j:Nat):Int)) rfl (by omega);obtain⟨u,g6,g7⟩:=g5 _ s4 (lt_of_lt_of_le s5 (Nat.le_add_right _ _)) hkt w;obtain⟨t1,t2⟩:=s3 _ g7;refine⟨_,eW (b:=BB) (by omega) (by decide),_,mM (b:=BB) (by omega) (by omega) (by decide),p3,g3,u,g6,iN (mz2-1) t1 ?_⟩;rw[Int.natCast_ediv]at t2;exact t2
   ·have h6:=dF h6;have y0:y.getD j 0=0:=by rw[gD,List.getElem?_eq_none (by omega)];rfl
    have hq0:q=0:=by rw[hq,y0,Nat.mul_zero]
    rw[e4];obtain⟨p3,g3,_,g5⟩:=mr.get (c:=tc) (j:=((i+j:Nat):Int)) rfl (by omega);rw[hq0,Nat.add_zero]at s3 s4;obtain⟨u,g6,g7⟩:=g5 _ s4 s5 hkt w;obtain⟨t1,t2⟩:=s3 _ g7;refine⟨_,eW (b:=BB) (by omega) (by decide),_,mM (b:=BB) (by omega) (by omega) (by decide),p3,g3,u,g6,iN (mz2-1) t1 ?_⟩;rw[Int.natCast_ediv]at t2;exact t2
  ·have h5:=dF h5;obtain rfl:j=k+1:=by omega
   refine cH (n-(i+1)) (by omega) ⟨by omega,rfl,L,mr,?_⟩;exact Bc eU hx hy (by omega) mr.lt (by rw[<-hk];exact h4))
theorem O4{X Y:Nat}(hx:(aE BB X).length<=112)(hy:(aE BB Y).length<=112):(aE BB (X*Y)).length<=10000:=by
 have h1:=dR (cg eU X);have h2:=dR (cg eU Y);rw[bB eU]at h1 h2;have h3:=lt_of_lt_of_le h1 (Nat.pow_le_pow_right (show 0<BB by decide) hx);have h4:=lt_of_lt_of_le h2 (Nat.pow_le_pow_right (show 0<BB by decide) hy);refine Nat.le_trans (jo eU (k:=224) ?_) (by omega);rw[show 224=112+112 from rfl,Nat.pow_add];exact Nat.mul_lt_mul'' h3 h4
theorem BT(a b:List UInt8){h:aa}(t:qP h)(w:Wf h):FW SS 94 [strOf a,strOf b] h (λv h'=>v=wR a b/\Ok h h'):=by
 refine KX a b h _ ((dm a h).mono ?_);rintro _ g0 ⟨rfl,e0⟩;obtain rfl:h=g0:=e0.symm;refine⟨_,rfl,ae (λg=>?_) (λg=>?_)⟩
 ·have g:Num.valid a=false:=by simpa using g
  refine⟨?_,Ok.refl w⟩;unfold wR;rw[if_neg (λe=>by rw[e.1]at g;cases g)];rfl
 have g:Num.valid a=true:=by simpa using g
 refine(dm b h).mono ?_;rintro _ g0 ⟨rfl,e0⟩;obtain rfl:h=g0:=e0.symm;refine⟨_,rfl,ae (λg2=>?_) (λg2=>?_)⟩
 ·have g2:Num.valid b=false:=by simpa using g2
  refine⟨?_,Ok.refl w⟩;unfold wR;rw[if_neg (λe=>by rw[e.2]at g2;cases g2)];rfl
 have g2:Num.valid b=true:=by simpa using g2
 have tb:=RJ g g2;have lx:=tb.lx;have ly:=tb.ly;refine(km g w).mono ?_;rintro _ h1 ⟨a1,n1,c1,rfl,o1,ok1⟩;refine⟨_,_,_,rfl,(km g2 ok1.wf).mono ?_⟩;rintro _ h2 ⟨a2,n2,c2,rfl,o2,ok2⟩;refine⟨_,_,_,rfl,?_⟩;have hS:wR a b=lU (Num.val a*Num.val b):=by unfold wR;rw[if_pos ⟨g,g2⟩]
 rw[hS];have r1:=o1.rd.ok ok2;have r2:=o2.rd;have ok:=ok1.trans ok2;have hn1:n1=(aE BB (Num.val a)).length:=by have:=r1.len;rwa[lM]at this
 have hn2:n2=(aE BB (Num.val b)).length:=by have:=r2.len;rwa[lM]at this
 have hX:=cg eU (Num.val a);have hY:=cg eU (Num.val b);have bX:=bB eU (Num.val a);have bY:=bB eU (Num.val b);have r1:Rd h2 117 (.slice a1 n1 c1) ((aE BB (Num.val a)).map uv):=r1;have r2:Rd h2 117 (.slice a2 n2 c2) ((aE BB (Num.val b)).map uv):=r2;have hsz:(aE BB (Num.val a*Num.val b)).length<=10000:=O4 lx ly;generalize Num.val a=X at*;generalize Num.val b=Y at*;generalize aE BB X=x at*;generalize aE BB Y=y at*;have e1:wrap .i64 (wrap .i64 ((n1:Int)+(n2:Int))+1)=((n1+n2+1:Nat):Int):=by
  rw[aA (n:=(n1:Int)+(n2:Int)) (by omega) (by omega),aA (by omega) (by omega)];omega
 dsimp only;rw[e1];refine⟨_,_,_,Sa _ (by omega),?_⟩;have okp:=(Ok.refl ok.wf).push (.cells ((List.replicate (n1+n2+1) 0).map uv) 117 1 true);have m0:MR h2 h2.next (n1+n2+1) (List.replicate (n1+n2+1) 0) (h2.push (.cells ((List.replicate (n1+n2+1) 0).map uv) 117 1 true)):=by
  refine⟨length_replicate,λd hd=>by rw[(List.mem_replicate.1 hd).2];decide,?_,okp⟩;rw[aa.aR,if_pos rfl,kn (by rw[drop_zero,length_replicate,take_of_length_le (by rw[lM,length_replicate];omega)])]
 refine tE a b a1 n1 c1 a2 n2 c2 (some ⟨h2.next,0,none⟩) (n1+n2+1) (n1+n2+1) (n1:Int) (NM h2 h2.next (n1+n2+1) n1 x y) (λv h'=>v=lU (X*Y)/\Ok h h') (λmz i=>?_) n1 (i:=0) ⟨by omega,by omega,_,m0,by rw[o7,take_zero];simp[Num.bv]⟩;intros;rename_i g hi;obtain⟨f1,f2,L,mr,f3⟩:=hi;refine ae (λh5=>?_) (λh5=>?_)
 ·have h5:=dT h5;have e2:wrap .i64 ((n2:Int)+1)=(n2:Int)+1:=aA (by omega) (by omega);rw[e2];exact KP ok.wf r1 r2 hX hY (Nat.le_refl _) (i:=i) (by omega) hn1 hn2 rfl (by omega) a b _ mz f2 (n2+1) (j:=0) (cy:=0) ⟨by omega,by omega,L,0,rfl,by decide,mr,by rw[f3,take_zero];simp[Num.bv]⟩
 ·have h5:=dF h5;obtain rfl:n1=i:=by omega
  rw[take_of_length_le (by omega),bX,bY]at f3;have hcap:n1+n2+1<=bn (n1+n2+1):=by unfold bn;rw[if_neg (by unfold bV;omega)];omega
  have rc:=xu mr.row (n:=n1+n2+1) (c:=n1+n2+1) mr.len.symm hcap;refine(mK rc (by rw[mr.len];omega)).mono ?_;rintro _ h6 ⟨rfl,e6⟩;subst e6;have rt:=vk rc mr.lt;rw[f3]at rt;refine⟨_,_,_,rfl,(rD rt hsz (t.ok (ok.trans mr.ok)) mr.ok.wf).mono ?_⟩;rintro _ h7 ⟨rfl,ok7⟩;exact xC (K:=λv=>v=lU (X*Y)/\Ok h h7) (tr _) ⟨rfl,(ok.trans mr.ok).trans ok7⟩
end Go.Proofs.YtaheifbogkjpdaaGreatDoor
end
section
namespace Go.Proofs.YtaheifbogkjpdaaGreatDoor
open Go Go.Ab Go.Num
def Am:bO:= .cells [.bool false,strOf [],strOf []] 120 0 true
theorem Mg:cq SS.P 120=some (Am,nV):=by kernel_rfl
theorem Va(neg:Bool)(n d:List UInt8):cF SS.P 120 [(0,(.bool neg)),(1,(strOf n)),(2,(strOf d))]=some (.agg ⟨[.bool neg,strOf n,strOf d]⟩):=by kernel_rfl
theorem mV:cF SS.P 120 []=some (.agg ⟨[.bool false,strOf [],strOf []]⟩):=by kernel_rfl
theorem OU:aB SS.P 120=some 3:=by kernel_rfl
theorem UX:Go.Ab.isAgg SS.P 120=true:=by kernel_rfl
noncomputable def UC:TypeDesc:=(SS.P.underlying 120).getD .bool
theorem Xf:SS.P.underlying 120=some UC:=by kernel_rfl
theorem Sj{h:aa}{k:Nat}{cs0:List Value}(hl:cs0.length=3)(hk:h.get k=some (.cells cs0 120 0 true))(b:Bool)(n d:List UInt8):aw SS.P 120 (.pointer (some ⟨k,0,none⟩)) (.agg ⟨[.bool b,strOf n,strOf d]⟩) h=some (undef,.set k (.cells [.bool b,strOf n,strOf d] 120 0 true)):=by
 unfold aw;dsimp only;rw[if_pos (show aB SS.P 120=some ((Value.agg ⟨[.bool b,strOf n,strOf d]⟩).cells).size from OU)];unfold storeAt;rw[hk];dsimp only;have hs:([.bool b,strOf n,strOf d]:List Value).all di=true:=rfl;rw[show(Value.agg ⟨[.bool b,strOf n,strOf d]⟩).cells.toList=[.bool b,strOf n,strOf d]from rfl,if_pos ⟨by simp[hl],hs⟩,drop_eq_nil_of_le (by simp[hl])];rfl
theorem VK{h:aa}{k:Nat}{b:Bool}{n d:List UInt8}(hk:h.get k=some (.cells [.bool b,strOf n,strOf d] 120 0 true)):ai SS.P 120 h (.pointer (some ⟨k,0,none⟩))=some (.agg ⟨[.bool b,strOf n,strOf d]⟩):=zd Xf UX OU hk (by simp)
theorem mg(l:List UInt8)(h:aa):FW SS 93 [strOf l,.int .i64 0] h (λv h'=>v=strOf l/\h'=h):=
 Ib l 0 h _ (ae (λg=>by cases g) (λ_=>⟨rfl,rfl⟩))
theorem Ie(s:Bool)(A:Nat)(t:Bool)(B:Nat)(hA:A<10^800)(hB:B<10^800){h:aa}(tb:qP h)(w:Wf h):FW SS 92 [.bool s,strOf (aj A),.bool t,strOf (aj B)] h (λv h'=>v=vQ s A t B/\Ok h h'):=by
 refine Ic s _ t _ h _ (ae (λg=>?_) (λg=>?_))
 ·have g:s=t:=by simpa using g
  refine(KS _ _ tb w).mono ?_;rintro _ h1 ⟨rfl,o1⟩;rw[EB hA hB];refine⟨_,_,rfl,(mg _ _).mono ?_⟩;rintro _ _ ⟨rfl,rfl⟩;refine⟨_,rfl,?_,o1⟩;unfold vQ iq;rw[if_pos g]
 ·have g:¬s=t:=by simpa using g
  refine(KU _ _ tb w).mono ?_;rintro _ h1 ⟨rfl,o1⟩;rw[EO hA hB];refine⟨_,rfl,ae (λg1=>?_) (λg1=>?_)⟩
  ·have g1:=dT g1;have g2:A<B:=sV.1 (by omega);refine(BU _ _ (tb.ok o1) o1.wf).mono ?_;rintro _ h2 ⟨rfl,o2⟩;rw[ua hB hA (Nat.le_of_lt g2)];refine⟨_,_,rfl,(mg _ _).mono ?_⟩;rintro _ _ ⟨rfl,rfl⟩;refine⟨_,rfl,?_,o1.trans o2⟩;unfold vQ iq;rw[if_neg g,if_pos g2]
  ·have g1:=dF g1;have g2:¬A<B:=λc=>by have:=sV.2 c;omega
   refine(BU _ _ (tb.ok o1) o1.wf).mono ?_;rintro _ h2 ⟨rfl,o2⟩;rw[ua hA hB (Nat.not_lt.1 g2)];refine⟨_,_,rfl,(mg _ _).mono ?_⟩;rintro _ _ ⟨rfl,rfl⟩;refine⟨_,rfl,?_,o1.trans o2⟩;unfold vQ iq;rw[if_neg g,if_neg g2]
def K1(b:Bool)(n d:List UInt8):Value:= .agg ⟨[.bool b,strOf n,strOf d]⟩
def so(l:List UInt8):Value:=if bN l=true then .tuple ⟨[K1 (Num.isNeg l) (Num.numOf l) (aZ l),.bool true]⟩else .tuple ⟨[K1 false [] [],.bool false]⟩
def qF(b:Bool)(n d:List UInt8):Value:= .tuple ⟨[K1 b n d,.bool true]⟩
def pN:Value:= .tuple ⟨[K1 false [] [],.bool false]⟩
structure GZ(h0:aa)(k:Nat)(g:aa):Prop where
 row:∃cs0:List Value,cs0.length=3/\g.get k=some (.cells cs0 120 0 true)
 new:h0.next<=k
 ok:Ok h0 g
theorem GZ.trans{h0:aa}{k:Nat}{g g':aa}(m:GZ h0 k g)(o:Ok g g'):GZ h0 k g':=by
 obtain⟨⟨cs,h1,h2⟩,h3,h4⟩:=m;exact⟨⟨cs,h1,o.ext _ _ h2⟩,h3,h4.trans o⟩
theorem FZ{h0:aa}(w:Wf h0){k:Nat}{g:aa}(m:GZ h0 k g)(b:Bool)(n d:List UInt8)(okb:Bool){Q:VH}(hq:∀g',Ok h0 g'->Q (.tuple ⟨[K1 b n d,.bool okb]⟩) g'):
  ∃u:cX,aw SS.P 120 (.pointer (some ⟨k,0,none⟩)) (.agg ⟨[.bool b,strOf n,strOf d]⟩) g=some (undef,u)/\lR SS [(.pointer (some ⟨k,0,none⟩),some 120),(.bool okb,none)] (u.app g) Q:=by
 obtain⟨⟨cs,hl,hk⟩,h4,h5⟩:=m;refine⟨_,Sj hl hk b n d,?_⟩;have o:Ok h0 ((cX.set k (.cells [.bool b,strOf n,strOf d] 120 0 true)).app g):=h5.set _ h4 (h5.wf _ _ hk) w;have hg:((cX.set k (.cells [.bool b,strOf n,strOf d] 120 0 true)).app g).get k=some (.cells [.bool b,strOf n,strOf d] 120 0 true):=by
  show(g.set k _).get k=_;rw[aa.aX,if_pos rfl]
 refine E3 (v:=K1 b n d) (VK hg) ?_;exact hq _ o
def Rg(n d:List UInt8)(neg fnd:Bool):Prop:=Num.valid n=true/\Num.valid d=true/\n.length<=400/\d.length<=400/\¬(neg=true/\n=[48])/\¬(fnd=true/\(d=[48]\/d=[49]))/\Nat.gcd (Num.val n) (Num.val d)=1
theorem kc{h0:aa}(w:Wf h0){k:Nat}{g:aa}(m:GZ h0 k g){C:Prop}(hc:¬C){G:Value}:
  ∃u:cX,aw SS.P 120 (.pointer (some ⟨k,0,none⟩)) (.agg ⟨[.bool false,strOf [],strOf []]⟩) g=some (undef,u)/\lR SS [(.pointer (some ⟨k,0,none⟩),some 120),(.bool false,none)] (u.app g) (mf h0 C G pN):=
 FZ w m false [] [] false (λ_ o=>iB o hc)
theorem JD(n d:List UInt8)(neg fnd:Bool)(k:Nat){h0 g:aa}(w:Wf h0)(m:GZ h0 k g)(tb:qP g){x0 x1 x3 x4 x9 x10 x11 x12 x13 x14 x15 x16 x17 x18 x19 x20 x21 x22 x23 x24 x25 x26 x27 x28 x29 x30 x31 x32 x33 x34 x35 x36 x37 x38 x39 x40 x41 x42 x43 x44 x45 x46 x47 x48 x49 x50 x51 x52 x53 x54 x55 x56 x57 x58 x59 x60 x61 x62 x63 x64 x65 x66 x67 x68 x69 x70 x71 x72 x73 x74 x75 x76:Value}:
  TT SS ak [1,1,1,1] [x0,x1,.pointer (some ⟨k,0,none⟩),x3,x4,.bool neg,strOf n,strOf d,.bool fnd,x9,x10,x11,x12,x13,x14,x15,x16,x17,x18,x19,x20,x21,x22,x23,x24,x25,x26,x27,x28,x29,x30,x31,x32,x33,x34,x35,x36,x37,x38,x39,x40,x41,x42,x43,x44,x45,x46,x47,x48,x49,x50,x51,x52,x53,x54,x55,x56,x57,x58,x59,x60,x61,x62,x63,x64,x65,x66,x67,x68,x69,x70,x71,x72,x73,x74,x75,x76] g (EE SS ak (mf h0 (Rg n d neg fnd) (qF neg n d) pN)):=by
 refine zx ((dm n g).mono ?_);rintro _ g0 ⟨rfl,e0⟩;obtain rfl:g=g0:=e0.symm;refine⟨_,rfl,ae (λg1=>⟨_,mV,kc w m (λc=>?_)⟩) (λg1=>?_)⟩
 ·rw[c.1]at g1;cases g1
 have g1:Num.valid n=true:=by simpa using g1
 refine(dm d g).mono ?_;rintro _ g0 ⟨rfl,e0⟩;obtain rfl:g=g0:=e0.symm;refine⟨_,rfl,ae (λg2=>⟨_,mV,kc w m (λc=>?_)⟩) (λg2=>?_)⟩
 ·rw[c.2.1]at g2;cases g2
 have g2:Num.valid d=true:=by simpa using g2
 refine ae (λg3=>⟨_,mV,kc w m (λc=>?_)⟩) (λg3=>?_)
 ·have:=c.2.2.1;have g3:=dT g3;omega
 have g3:n.length<=400:=by have g3:=dF g3;omega
 refine ae (λg4=>⟨_,mV,kc w m (λc=>?_)⟩) (λg4=>?_)
 ·have:=c.2.2.2.1;have g4:=dT g4;omega
 have g4:d.length<=400:=by have g4:=dF g4;omega
 have fin:¬(neg=true/\n=[48])->¬(fnd=true/\(d=[48]\/d=[49]))->∀{x0 x1 x3 x4 x9 x10 x11 x12 x13 x14 x15 x16 x17 x18 x19 x20 x21 x22 x23 x24 x25 x26 x27 x28 x29 x30 x31 x32 x33 x34 x35 x36 x37 x38 x39 x40 x41 x42 x43 x44 x45 x46 x47 x48 x49 x50 x51 x52 x53 x54 x55 x56 x57 x58 x59 x60 x61 x62 x63 x64 x65 x66 x67 x68 x69 x70 x71 x72 x73 x74 x75 x76:Value},TT SS ak [1,1,1,1,1,1] [x0,x1,.pointer (some ⟨k,0,none⟩),x3,x4,.bool neg,strOf n,strOf d,.bool fnd,x9,x10,x11,x12,x13,x14,x15,x16,x17,x18,x19,x20,x21,x22,x23,x24,x25,x26,x27,x28,x29,x30,x31,x32,x33,x34,x35,x36,x37,x38,x39,x40,x41,x42,x43,x44,x45,x46,x47,x48,x49,x50,x51,x52,x53,x54,x55,x56,x57,x58,x59,x60,x61,x62,x63,x64,x65,x66,x67,x68,x69,x70,x71,x72,x73,x74,x75,x76] g (EE SS ak (mf h0 (Rg n d neg fnd) (qF neg n d) pN)):=by
  intro c5 c6;intros;refine zA ((KW n d tb m.ok.wf).mono ?_);rintro _ h1 ⟨rfl,o1⟩;have m1:=m.trans o1;rw[Fq g1 g2];refine⟨_,_,rfl,ae (λe=>by cases e) (λ_=>?_)⟩;refine ae (λe=>⟨_,mV,kc w m1 (λc=>?_)⟩) (λe=>?_)
  ·have e:¬aj (Nat.gcd (Num.val n) (Num.val d))=[49]:=by simpa using e
   exact e (jr.2 c.2.2.2.2.2.2)
  ·have e:aj (Nat.gcd (Num.val n) (Num.val d))=[49]:=by simpa using e
   refine zB ⟨_,Va neg n d,FZ w m1 neg n d true (λ_ o=>sq o ?_)⟩;exact⟨g1,g2,g3,g4,c5,c6,jr.1 e⟩
 refine zy (ae (λg5=>ae (λg6=>⟨_,mV,kc w m (λc=>?_)⟩) (λg6=>?_)) (λg5=>?_))
 ·exact c.2.2.2.2.1 ⟨g5,by simpa using g6⟩
 ·have c5:¬(neg=true/\n=[48]):=λc=>by
   have:¬n=[48]:=by simpa using g6
   exact this c.2
  refine ae (λg7=>ae (λg8=>⟨_,mV,kc w m (λc=>?_)⟩) (λg8=>ae (λg9=>⟨_,mV,kc w m (λc=>?_)⟩) (λg9=>?_))) (λg7=>?_)
  ·exact c.2.2.2.2.2.1 ⟨g7,.inl (by simpa using g8)⟩
  ·exact c.2.2.2.2.2.1 ⟨g7,.inr (by simpa using g9)⟩
  ·refine fin c5 (λc=>?_);have g8:¬d=[48]:=by simpa using g8
   have g9:¬d=[49]:=by simpa using g9
   exact c.2.elim g8 g9
  ·exact fin c5 (λc=>by rw[c.1]at g7;cases g7)
 ·have c5:¬(neg=true/\n=[48]):=λc=>by rw[c.1]at g5;cases g5
  refine ae (λg7=>ae (λg8=>⟨_,mV,kc w m (λc=>?_)⟩) (λg8=>ae (λg9=>⟨_,mV,kc w m (λc=>?_)⟩) (λg9=>?_))) (λg7=>?_)
  ·exact c.2.2.2.2.2.1 ⟨g7,.inl (by simpa using g8)⟩
  ·exact c.2.2.2.2.2.1 ⟨g7,.inr (by simpa using g9)⟩
  ·refine fin c5 (λc=>?_);have g8:¬d=[48]:=by simpa using g8
   have g9:¬d=[49]:=by simpa using g9
   exact c.2.elim g8 g9
  ·exact fin c5 (λc=>by rw[c.1]at g7;cases g7)
theorem Dy{h:aa}{l:List UInt8}{v:Value}{h':aa}(q:mf h (Rg (Num.numOf l) (aZ l) (Num.isNeg l) (bu l)) (qF (Num.isNeg l) (Num.numOf l) (aZ l)) pN v h'):v=so l/\Ok h h':=by
 obtain⟨o,q1,q2⟩:=q;refine⟨?_,o⟩;unfold so;by_cases g:bN l=true
 ·rw[if_pos g];have r:=eI.1 g;exact q1 ⟨r.num,r.den,r.ln,r.ld,r.neg,r.fr,r.one⟩
 ·rw[if_neg g];exact q2 λc=>g (eI.2 ⟨c.1,c.2.1,c.2.2.1,c.2.2.2.1,c.2.2.2.2.1,c.2.2.2.2.2.1,c.2.2.2.2.2.2⟩)
theorem pS(l:List UInt8)(hl:l.length<=281474976710656){h:aa}(tb:qP h)(w:Wf h):FW SS 130 [strOf l] h (λv h'=>v=so l/\Ok h h'):=by
 refine FW.mono (Q:=mf h (Rg (Num.numOf l) (aZ l) (Num.isNeg l) (bu l)) (qF (Num.isNeg l) (Num.numOf l) (aZ l)) pN) ?_ (λ_ _ q=>Dy q);have m0:GZ h h.next (h.push Am):=⟨⟨_,rfl,by rw[aa.aR,if_pos rfl];rfl⟩,Nat.le_refl _,(Ok.refl w).push _⟩
 refine Ga l h _ ⟨_,Mg,(Kj l _).mono ?_⟩;rintro _ g0 ⟨rfl,rfl⟩;have hm:(bc l).length<=281474976710656:=by
  unfold bc;split
  ·rw[length_drop];omega
  ·exact hl
 refine⟨_,_,rfl,(SQ _ hm m0.ok.wf).mono ?_⟩;rintro _ g1 ⟨rfl,o1⟩;have m1:=m0.trans o1;have t1:=tb.ok m1.ok;unfold Kk;by_cases hs:dp 47 (bc l)<(bc l).length
 ·rw[if_pos hs];have hst:bu l=true:=decide_eq_true hs;have e2:aZ l=(bc l).drop (dp 47 (bc l)+1):=by unfold aZ;rw[if_pos hst]
  rw[hst];refine⟨_,_,_,rfl,ae (λe=>by cases e) (λ_=>?_)⟩;rw[<-e2];exact JD _ _ _ true _ w m1 t1
 ·rw[if_neg hs];have hst:bu l=false:=decide_eq_false hs;have e2:aZ l=[49]:=by unfold aZ;rw[hst];rfl
  have e1:Num.numOf l=bc l:=by unfold Num.numOf;rw[take_of_length_le (by omega)]
  rw[hst,e1,e2];refine⟨_,_,_,rfl,ae (λ_=>?_) (λe=>by cases e)⟩;exact JD _ _ _ false _ w m1 t1
theorem H9(l:List UInt8):∃(cs:List Value)(b:Bool),so l = .tuple ⟨[.agg ⟨cs⟩,.bool b]⟩/\b=bN l:=by
 unfold so
 cases g:bN l with
 |true=>exact⟨_,_,rfl,rfl⟩
 |false=>exact⟨_,_,rfl,rfl⟩
theorem vR(l:List UInt8)(hl:l.length<=281474976710656){h:aa}(tb:qP h)(w:Wf h):FW SS 96 [strOf l] h (λv h'=>v = .bool (bN l)/\Ok h h'):=by
 refine Gb l h _ ((pS l hl tb w).mono ?_);rintro _ h1 ⟨rfl,o1⟩;obtain⟨cs,b,e,e2⟩:=H9 l;exact⟨cs,b,e,by rw[e2],o1⟩
theorem Jg(k:Nat):ah SS.P 120 (.pointer (some ⟨k,0,none⟩)) 0=some (.pointer (some ⟨k,0,none⟩)):=by kernel_rfl
theorem Jh(k:Nat):ah SS.P 120 (.pointer (some ⟨k,0,none⟩)) 1=some (.pointer (some ⟨k,1,none⟩)):=by kernel_rfl
theorem Ji(k:Nat):ah SS.P 120 (.pointer (some ⟨k,0,none⟩)) 2=some (.pointer (some ⟨k,2,none⟩)):=by kernel_rfl
theorem Zv:SS.P.underlying 4=some .bool:=Tryz.underlying4
theorem Y0:Go.Ab.isAgg SS.P 4=false:=by kernel_rfl
theorem Sy:Go.Ab.isAgg SS.P 9=false:=by kernel_rfl
def mT(g:aa)(k:Nat)(b:Bool)(n d:List UInt8):Prop:=g.get k=some (.cells [.bool b,strOf n,strOf d] 120 0 true)
theorem mT.ok{g g':aa}{k:Nat}{b:Bool}{n d:List UInt8}(x:mT g k b n d)(o:Ok g g'):mT g' k b n d:=o.ext _ _ x
theorem mT.l0{g:aa}{k:Nat}{b:Bool}{n d:List UInt8}(x:mT g k b n d):ai SS.P 4 g (.pointer (some ⟨k,0,none⟩))=some (.bool b):=gG Zv Y0 x (by simp)
theorem mT.l1{g:aa}{k:Nat}{b:Bool}{n d:List UInt8}(x:mT g k b n d):ai SS.P 9 g (.pointer (some ⟨k,1,none⟩))=some (strOf n):=gG O7 Sy x (by simp)
theorem mT.l2{g:aa}{k:Nat}{b:Bool}{n d:List UInt8}(x:mT g k b n d):ai SS.P 9 g (.pointer (some ⟨k,2,none⟩))=some (strOf d):=gG O7 Sy x (by simp)
theorem N7{h:aa}(w:Wf h)(b:Bool)(n d:List UInt8):∃u:cX,aw SS.P 120 (.pointer (some ⟨h.next,0,none⟩)) (.agg ⟨[.bool b,strOf n,strOf d]⟩) (h.push Am)=some (undef,u)/\Ok h (u.app (h.push Am))/\mT (u.app (h.push Am)) h.next b n d:=by
 have hk:(h.push Am).get h.next=some Am:=by rw[aa.aR,if_pos rfl]
 refine⟨_,Sj (cs0:=[.bool false,strOf [],strOf []]) rfl hk b n d,?_,?_⟩
 ·exact((Ok.refl w).push _).set _ (Nat.le_refl _) (Nat.lt_succ_self _) w
 ·show((h.push Am).set h.next _).get h.next=_;rw[aa.aX,if_pos rfl]
theorem BW(l:List UInt8):∃(b:Bool)(n d:List UInt8),so l = .tuple ⟨[.agg ⟨[.bool b,strOf n,strOf d]⟩,.bool (bN l)]⟩/\(bN l=true->b=Num.isNeg l/\n=Num.numOf l/\d=aZ l):=by
 unfold so
 cases g:bN l with
 |true=>exact⟨_,_,_,rfl,λ_=>⟨rfl,rfl,rfl⟩⟩
 |false=>exact⟨_,_,_,rfl,λe=>by cases e⟩
theorem we(b:Bool):mq 4 (.bool b) (.bool b)=true:=by simp[mq]
theorem JN(l:List UInt8):mq 4 (strOf l) (strOf l)=true:=by simp[mq,strOf]
theorem Le(l m:List UInt8)(hl:l.length<=281474976710656)(hm:m.length<=281474976710656){h:aa}(tb:qP h)(w:Wf h):FW SS 152 [strOf l,strOf m] h (λv h'=>v = .int .i64 (ef l m)/\Ok h h'):=by
 refine Ld l m h _ ((pS l hl tb w).mono ?_);rintro _ h1 ⟨rfl,o1⟩;obtain⟨b,n,d,e1,f1⟩:=BW l;obtain⟨u1,s1,s2,s3⟩:=N7 o1.wf b n d;refine⟨_,_,e1,_,Mg,u1,s1,?_⟩;have ok1:=o1.trans s2;generalize u1.app (h1.push Am)=g1 at*;refine(pS m hm (tb.ok ok1) ok1.wf).mono ?_;rintro _ h2 ⟨rfl,o2⟩;obtain⟨b',n',d',e2,f2⟩:=BW m;obtain⟨u2,r1,r2,r3⟩:=N7 o2.wf b' n' d';refine⟨_,_,e2,_,Mg,u2,r1,?_⟩;have ok2:=(ok1.trans o2).trans r2;have x1:=(s3.ok o2).ok r2;generalize u2.app (h2.push Am)=g2 at*;generalize h1.next=k1 at*;generalize h2.next=k2 at*;refine ae (λq=>⟨?_,ok2⟩) (λq=>ae (λq2=>⟨?_,ok2⟩) (λq2=>?_))
 ·have q:bN l=false:=by simpa using q
  unfold ef;rw[if_neg (λc=>by rw[c.1]at q;cases q)]
 ·have q2:bN m=false:=by simpa using q2
  unfold ef;rw[if_neg (λc=>by rw[c.2]at q2;cases q2)]
 have q:bN l=true:=by simpa using q
 have q2:bN m=true:=by simpa using q2
 obtain⟨rfl,rfl,rfl⟩:=f1 q;obtain⟨rfl,rfl,rfl⟩:=f2 q2;have i1:=eI.1 q;have i2:=eI.1 q2;have or:Ok g2 (Go.Ab.room g2 27):=(Ok.refl ok2.wf).room 27;refine⟨_,Jg _,_,(x1.ok or).l0,_,Jh _,_,(x1.ok or).l1,_,Ji _,_,(r3.ok or).l2,?_⟩;have okr:=ok2.trans or;refine(BT _ _ (tb.ok okr) okr.wf).mono ?_;rintro _ h3 ⟨rfl,o3⟩;rw[(lV i1.num i2.den i1.ln i2.ld).1];refine⟨_,_,rfl,(mg _ _).mono ?_⟩;rintro _ h3' ⟨rfl,eh⟩;obtain rfl:h3=h3':=eh.symm;have p3:=or.trans o3;refine⟨_,rfl,_,Jg _,_,(r3.ok p3).l0,_,Jh _,_,(r3.ok p3).l1,_,Ji _,_,(x1.ok p3).l2,?_⟩;have ok3:=ok2.trans p3;refine(BT _ _ (tb.ok ok3) ok3.wf).mono ?_;rintro _ h4 ⟨rfl,o4⟩;rw[(lV i2.num i1.den i2.ln i1.ld).1];refine⟨_,_,rfl,(mg _ _).mono ?_⟩;rintro _ h4' ⟨rfl,eh⟩;obtain rfl:h4=h4':=eh.symm;have p4:=p3.trans o4;have ok4:=ok2.trans p4;refine⟨_,rfl,(Ie _ _ _ _ (lV i1.num i2.den i1.ln i2.ld).2 (lV i2.num i1.den i2.ln i1.ld).2 (tb.ok ok4) ok4.wf).mono ?_⟩;rintro _ h5 ⟨rfl,o5⟩;have ok5:=ok4.trans o5;refine⟨_,_,rfl,⟨(x1.ok p3).l0,we _⟩,⟨(x1.ok p3).l0,we _⟩,⟨(x1.ok p4).l0,we _⟩,⟨(x1.ok p4).l0,we _⟩,⟨(r3.ok or).l0,we _⟩,⟨(r3.ok p3).l0,we _⟩,⟨(r3.ok p4).l0,we _⟩,⟨(r3.ok p4).l0,we _⟩,⟨(r3.ok or).l1,JN _⟩,⟨(r3.ok p3).l1,JN _⟩,⟨(x1.ok or).l2,JN _⟩,⟨(x1.ok p3).l2,JN _⟩,?_⟩;unfold ef;rw[if_pos ⟨q,q2⟩];generalize iq _ _ _ _=z;refine ae (λg3=>⟨?_,ok5⟩) (λg3=>?_)
 ·have g3:aj z.2=[48]:=by simpa using g3
  rw[if_pos (cI.1 g3)]
 ·have g3:¬aj z.2=[48]:=by simpa using g3
  rw[if_neg (λc=>g3 (cI.2 c))];refine ae (λg4=>⟨?_,ok5⟩) (λg4=>⟨?_,ok5⟩)
  ·rw[if_pos g4]
  ·rw[if_neg (by rw[g4];simp)]
noncomputable def Iv:FD:=dJ Tryz.f68 []
theorem Gw  (h:aa) (Q:VH) (hx:xN (cq SS.P 97) h λB1 g2=>xA (cF SS.P 79 [(0,(strOf [105,110,102])),(1,(strOf [48])),(2,(.bool true)),(3,(.func (.func 107) ⟨[]⟩ ⟨[]⟩)),(4,(.func (.func 108) ⟨[]⟩ ⟨[]⟩)),(5,(.func (.func 109) ⟨[]⟩ ⟨[]⟩)),(6,(.func (.func 96) ⟨[]⟩ ⟨[]⟩)),(7,(.func (.func 96) ⟨[]⟩ ⟨[]⟩))]) λc3=>xA (cF SS.P 79 [(0,(strOf [48])),(1,(strOf [49])),(2,(.bool false)),(3,(.func (.func 110) ⟨[]⟩ ⟨[]⟩)),(4,(.func (.func 111) ⟨[]⟩ ⟨[]⟩)),(5,(.func (.func 112) ⟨[]⟩ ⟨[]⟩)),(6,(.func (.func 113) ⟨[]⟩ ⟨[]⟩)),(7,(.func (.func 114) ⟨[]⟩ ⟨[]⟩))]) λc4=>xA (cF SS.P 79 [(0,(strOf [48])),(1,(strOf [49])),(2,(.bool false)),(3,(.func (.func 107) ⟨[]⟩ ⟨[]⟩)),(4,(.func (.func 111) ⟨[]⟩ ⟨[]⟩)),(5,(.func (.func 115) ⟨[]⟩ ⟨[]⟩)),(6,(.func (.func 113) ⟨[]⟩ ⟨[]⟩)),(7,(.func (.func 114) ⟨[]⟩ ⟨[]⟩))]) λc5=>xA (cF SS.P 97 [(1,(.agg ⟨c3⟩)),(2,(.agg ⟨c4⟩)),(3,(.agg ⟨c5⟩))]) λc6=>xU (aw SS.P 97 (pA (h.next)) (.agg ⟨c6⟩) g2) g2 λu7 g8=>lR SS [((pA (h.next)),some 97)] g8 Q):FW SS 68 [] h Q:=dM Iv Tryz.func68 (au hx)
noncomputable def Rp:FD:=dJ Tryz.f45 []
theorem OJ(kind:Int)(h:aa)(Q:VH)(hx:xN (cq SS.P 79) h λB1 g2=>aF (decide ((kind:Int)<1)) (xA (cF SS.P 79 []) λc3=>xU (aw SS.P 79 (pA (h.next)) (.agg ⟨c3⟩) g2) g2 λu4 g5=>lR SS [((pA (h.next)),some 79),((.bool false),none)] g5 Q) (aF (decide ((kind:Int)>3)) (xA (cF SS.P 79 []) λc6=>xU (aw SS.P 79 (pA (h.next)) (.agg ⟨c6⟩) g2) g2 λu7 g8=>lR SS [((pA (h.next)),some 79),((.bool false),none)] g8 Q) (FW SS 68 [] g2 λv9 h10=>yA v9 λbW=>xA (bp SS.P 97 (.agg ⟨bW⟩) (.int .i64 kind)) λck=>xU (aw SS.P 79 (pA (h.next)) (.agg ⟨ck⟩) h10) h10 λUO L4=>lR SS [((pA (h.next)),some 79),((.bool true),none)] L4 Q))):FW SS 45 [(.int .i64 kind)] h Q:=dM Rp Tryz.func45 (au hx)
noncomputable def AY:FD:=dJ Tryz.f114 []
theorem zM(l:LB)(h:aa)(Q:VH)(hx:FW SS 96 [(strOf l)] h λv1 h2=>yB v1 λb3=>aF b3 (FW SS 152 [(strOf l),(strOf [48])] h2 λv4 h5=>yI .i64 v4 λn6=>Q (.bool (decide ((n6:Int)>0))) h5) (Q (.bool false) h2)):FW SS 114 [(strOf l)] h Q:=dM AY Tryz.func114 (au hx)
noncomputable def Gy:FD:=dJ Tryz.f50 []
theorem DY(kind:Int)(l:LB)(h:aa)(Q:VH)(hx:FW SS 45 [(.int .i64 kind)] h λv1 h2=>∃cs3:LV,∃b4:Bool,v1=(.tuple ⟨[(.agg ⟨cs3⟩),(.bool b4)]⟩)/\xN (cq SS.P 79) h2 λB5 g6=>xU (aw SS.P 79 (pA (h2.next)) (.agg ⟨cs3⟩) g6) g6 λu7 g8=>aF b4 (xP (ah SS.P 79 (pA (h2.next)) 7) λp9=>xF (ai SS.P 77 g8 (.pointer (some p9))) λyT a11 ck=>aF (Nat.blt yT YB) (FW SS yT (a11++[(strOf l)]++ck) g8 λv13 h14=>yB v13 λb15=>Q (.bool b15) h14) False) (Q (.bool false) g8)):FW SS 50 [(.int .i64 kind),(strOf l)] h Q:=dM Gy Tryz.func50 (au hx)
noncomputable def Im:FD:=dJ Tryz.f54 []
theorem vU(kind:Int)(h:aa)(Q:VH)(hx:aF (decide ((kind:Int)>=1)) (Q (.bool (decide ((kind:Int)<=3))) h) (Q (.bool false) h)):FW SS 54 [(.int .i64 kind)] h Q:=dM Im Tryz.func54 (au hx)
noncomputable def Gh:FD:=dJ Tryz.f77 []
theorem DQ(kind:Int)(l:LB)(h:aa)(Q:VH)(hx:FW SS 54 [(.int .i64 kind)] h λv1 h2=>yB v1 λb3=>aF (!b3) (Q (.bool false) h2) (aF ((l:LB)==[105,110,102]) (aF ((l:LB)==[105,110,102]) (Q (.bool true) h2) (Q (.bool (((kind:Int)==1))) h2)) (aF ((l:LB)==[45,105,110,102]) (aF ((l:LB)==[105,110,102]) (Q (.bool true) h2) (Q (.bool (((kind:Int)==1))) h2)) (FW SS 121 [(strOf l)] h2 λv4 h5=>yB v4 λb6=>aF b6 (aF (((kind:Int)==1)) (Q (.bool true) h5) (FW SS 122 [(strOf l),(strOf [48])] h5 λv7 h8=>yI .i64 v7 λn9=>Q (.bool (decide ((n9:Int)>=0))) h8)) (Q (.bool false) h5))))):FW SS 77 [(.int .i64 kind),(strOf l)] h Q:=dM Gh Tryz.func77 (au hx)
noncomputable def DS:FD:=dJ Tryz.f55 []
theorem AU(kind:Int)(l:LB)(h:aa)(Q:VH)(hx:FW SS 77 [(.int .i64 kind),(strOf l)] h λv1 h2=>yB v1 λb3=>aF b3 (aF (!((l:LB)==[105,110,102])) (aF (!((l:LB)==[45,105,110,102])) (aF (((kind:Int)==1)) (Q (.bool true) h2) (Q (.bool (!((l:LB)==[48]))) h2)) (Q (.bool false) h2)) (Q (.bool false) h2)) (Q (.bool false) h2)):FW SS 55 [(.int .i64 kind),(strOf l)] h Q:=dM DS Tryz.func55 (au hx)
theorem nY{P:Program}{t:TypeId}{n:Nat}(hs:aB P t=some n){h:aa}{k:Nat}{cs0:List Value}(hl:cs0.length=n)(hk:h.get k=some (.cells cs0 t 0 true)){cs:List Value}(hc:cs.length=n)(hv:cs.all di=true):aw P t (.pointer (some ⟨k,0,none⟩)) (.agg ⟨cs⟩) h=some (undef,.set k (.cells cs t 0 true)):=by
 unfold aw;dsimp only;have e1:(Value.agg ⟨cs⟩).cells.size=n:=by show cs.toArray.size=n;simpa using hc
 have e2:(Value.agg ⟨cs⟩).cells.toList=cs:=rfl;rw[if_pos (by rw[e1,hs])];unfold storeAt;rw[hk,e2];dsimp only;rw[if_pos ⟨by omega,hv⟩,drop_eq_nil_of_le (by omega)];simp
theorem pP{h0 h:aa}(w:Wf h0)(o:Ok h0 h){k:Nat}{t:TypeId}{cs0 cs:List Value}(hk:h.get k=some (.cells cs0 t 0 true))(hn:h0.next<=k):Ok h0 ((cX.set k (.cells cs t 0 true)).app h)/\((cX.set k (.cells cs t 0 true)).app h).get k=some (.cells cs t 0 true):=by
 refine⟨o.set _ hn (o.wf _ _ hk) w,?_⟩;show(h.set k _).get k=_;rw[aa.aX,if_pos rfl]
theorem bF(h:aa)(B:bO):(h.push B).get h.next=some B:=by rw[aa.aR,if_pos rfl]
def Aj(i:Nat):Value:= .func (.func i) ⟨[]⟩ ⟨[]⟩
def kJ:List Value:=[strOf [],strOf [],.bool false,.nilFunc,.nilFunc,.nilFunc,.nilFunc,.nilFunc]
def zI:List Value:=[strOf [105,110,102],strOf [48],.bool true,Aj 107,Aj 108,Aj 109,Aj 96,Aj 96]
def zJ:List Value:=[strOf [48],strOf [49],.bool false,Aj 110,Aj 111,Aj 112,Aj 113,Aj 114]
def zK:List Value:=[strOf [48],strOf [49],.bool false,Aj 107,Aj 111,Aj 115,Aj 113,Aj 114]
def vj:List Value:=kJ++zI++zJ++zK
def Xv:bO:= .cells (kJ++kJ++kJ++kJ) 97 0 true
def Pw:bO:= .cells kJ 79 0 true
theorem XR:cq SS.P 97=some (Xv,nV):=by kernel_rfl
theorem Sz:cq SS.P 79=some (Pw,nV):=by kernel_rfl
theorem Sl:aB SS.P 97=some 32:=by kernel_rfl
theorem JL:aB SS.P 79=some 8:=by kernel_rfl
theorem XQ:Go.Ab.isAgg SS.P 97=true:=by kernel_rfl
theorem XP:Go.Ab.isAgg SS.P 79=true:=by kernel_rfl
noncomputable def Xn:TypeDesc:=(SS.P.underlying 97).getD .bool
theorem YW:SS.P.underlying 97=some Xn:=by kernel_rfl
noncomputable def Xm:TypeDesc:=(SS.P.underlying 79).getD .bool
theorem YV:SS.P.underlying 79=some Xm:=by kernel_rfl
noncomputable def Xl:TypeDesc:=(SS.P.underlying 77).getD .bool
theorem YU:SS.P.underlying 77=some Xl:=by kernel_rfl
theorem XO:Go.Ab.isAgg SS.P 77=false:=by kernel_rfl
theorem SG:cF SS.P 79 [(0,(strOf [105,110,102])),(1,(strOf [48])),(2,(.bool true)),(3,(.func (.func 107) ⟨[]⟩ ⟨[]⟩)),(4,(.func (.func 108) ⟨[]⟩ ⟨[]⟩)),(5,(.func (.func 109) ⟨[]⟩ ⟨[]⟩)),(6,(.func (.func 96) ⟨[]⟩ ⟨[]⟩)),(7,(.func (.func 96) ⟨[]⟩ ⟨[]⟩))]=some (.agg ⟨zI⟩):=by kernel_rfl
theorem SH:cF SS.P 79 [(0,(strOf [48])),(1,(strOf [49])),(2,(.bool false)),(3,(.func (.func 110) ⟨[]⟩ ⟨[]⟩)),(4,(.func (.func 111) ⟨[]⟩ ⟨[]⟩)),(5,(.func (.func 112) ⟨[]⟩ ⟨[]⟩)),(6,(.func (.func 113) ⟨[]⟩ ⟨[]⟩)),(7,(.func (.func 114) ⟨[]⟩ ⟨[]⟩))]=some (.agg ⟨zJ⟩):=by kernel_rfl
theorem SI:cF SS.P 79 [(0,(strOf [48])),(1,(strOf [49])),(2,(.bool false)),(3,(.func (.func 107) ⟨[]⟩ ⟨[]⟩)),(4,(.func (.func 111) ⟨[]⟩ ⟨[]⟩)),(5,(.func (.func 115) ⟨[]⟩ ⟨[]⟩)),(6,(.func (.func 113) ⟨[]⟩ ⟨[]⟩)),(7,(.func (.func 114) ⟨[]⟩ ⟨[]⟩))]=some (.agg ⟨zK⟩):=by kernel_rfl
theorem Mv:cF SS.P 79 []=some (.agg ⟨kJ⟩):=by kernel_rfl
theorem XW:cF SS.P 97 [(1,(.agg ⟨zI⟩)),(2,(.agg ⟨zJ⟩)),(3,(.agg ⟨zK⟩))]=some (.agg ⟨vj⟩):=by kernel_rfl
theorem Gx{h:aa}(w:Wf h):FW SS 68 [] h (λv h'=>v = .agg ⟨vj⟩/\Ok h h'):=by
 have hk:(h.push Xv).get h.next=some (.cells (kJ++kJ++kJ++kJ) 97 0 true):=bF h Xv;refine Gw h _ ⟨_,XR,_,SG,_,SH,_,SI,_,XW,_,nY Sl (by rfl) hk (cs:=vj) (by rfl) (by rfl),?_⟩;obtain⟨o,g⟩:=pP (cs:=vj) w ((Ok.refl w).push Xv) hk (Nat.le_refl _);refine MX (v:= .agg ⟨vj⟩) (zd YW XQ Sl g (by simp[vj,kJ,zI,zJ,zK])) ?_;exact⟨rfl,o⟩
def Te(kind:Int):Value:=if kind=1 then .tuple ⟨[.agg ⟨zI⟩,.bool true]⟩else if kind=2 then .tuple ⟨[.agg ⟨zJ⟩,.bool true]⟩else if kind=3 then .tuple ⟨[.agg ⟨zK⟩,.bool true]⟩else .tuple ⟨[.agg ⟨kJ⟩,.bool false]⟩
theorem zm{h0:aa}(w:Wf h0){g:aa}(o:Ok h0 g){k:Nat}{cs0:List Value}(hl:cs0.length=8)(hk:g.get k=some (.cells cs0 79 0 true))(hn:h0.next<=k){cs:List Value}(hc:cs.length=8)(hv:cs.all di=true)(okb:Bool){Q:VH}(hq:∀g',Ok h0 g'->Q (.tuple ⟨[.agg ⟨cs⟩,.bool okb]⟩) g'):
  ∃u:cX,aw SS.P 79 (.pointer (some ⟨k,0,none⟩)) (.agg ⟨cs⟩) g=some (undef,u)/\lR SS [(.pointer (some ⟨k,0,none⟩),some 79),(.bool okb,none)] (u.app g) Q:=by
 refine⟨_,nY JL hl hk hc hv,?_⟩;obtain⟨o,g⟩:=pP (cs:=cs) w o hk hn;refine E3 (v:= .agg ⟨cs⟩) (by rw[zd YV XP JL g (by omega),drop_zero,take_of_length_le (by omega)]) ?_;exact hq _ o
theorem OK(kind:Int){h:aa}(w:Wf h):FW SS 45 [.int .i64 kind] h (λv h'=>v=Te kind/\Ok h h'):=by
 have o0:=(Ok.refl w).push Pw;have k0:=bF h Pw;refine OJ kind h _ ⟨_,Sz,ae (λg=>?_) (λg=>ae (λg2=>?_) (λg2=>?_))⟩
 ·have g:=dT g;refine⟨_,Mv,zm w o0 rfl k0 (Nat.le_refl _) rfl rfl false (λ_ o=>⟨?_,o⟩)⟩;unfold Te;rw[if_neg (by omega),if_neg (by omega),if_neg (by omega)]
 ·have g2:=dT g2;refine⟨_,Mv,zm w o0 rfl k0 (Nat.le_refl _) rfl rfl false (λ_ o=>⟨?_,o⟩)⟩;unfold Te;rw[if_neg (by omega),if_neg (by omega),if_neg (by omega)]
 ·have g:=dF g;have g2:=dF g2;refine(Gx o0.wf).mono ?_;rintro _ h1 ⟨rfl,o1⟩;have k1:=o1.ext _ _ k0;have ok:=o0.trans o1;obtain rfl|rfl|rfl:kind=1\/kind=2\/kind=3:=by omega
  ·exact⟨_,rfl,zI,by kernel_rfl,zm w ok rfl k1 (Nat.le_refl _) rfl rfl true (λ_ o=>⟨rfl,o⟩)⟩
  ·exact⟨_,rfl,zJ,by kernel_rfl,zm w ok rfl k1 (Nat.le_refl _) rfl rfl true (λ_ o=>⟨rfl,o⟩)⟩
  ·exact⟨_,rfl,zK,by kernel_rfl,zm w ok rfl k1 (Nat.le_refl _) rfl rfl true (λ_ o=>⟨rfl,o⟩)⟩
theorem qd(l:List UInt8)(hl:l.length<=281474976710656){h:aa}(tb:qP h)(w:Wf h):FW SS 114 [strOf l] h (λv h'=>v = .bool (bN l&&decide (0<ef l [48]))/\Ok h h'):=by
 refine zM l h _ ((vR l hl tb w).mono ?_);rintro _ h1 ⟨rfl,o1⟩;refine⟨_,rfl,ae (λg=>?_) (λg=>?_)⟩
 ·refine(Le l [48] hl (by simp) (tb.ok o1) o1.wf).mono ?_;rintro _ h2 ⟨rfl,o2⟩;refine⟨_,rfl,?_,o1.trans o2⟩;rw[g,Bool.true_and]
 ·refine⟨?_,o1⟩;rw[g,Bool.false_and]
theorem YM{b:Bool}{A B:Prop}(hb:b=true)(a:A):aF b A B:=ae (λ_=>a) (λe=>by rw[hb]at e;cases e)
theorem By{f:Nat}{args:List Value}{h:aa}{K:VH}(hf:Nat.blt f YB=true)(hx:FW SS f args h λv h'=>∃b:Bool,v = .bool b/\K (.bool b) h'):aF (Nat.blt f YB) (FW SS f ([]++args++[]) h λv h'=>∃b:Bool,v = .bool b/\K (.bool b) h') False:=
 YM hf (by rw[List.nil_append,List.append_nil];exact hx)
theorem oq(kind:Int)(l:List UInt8)(hl:l.length<=281474976710656){h:aa}(tb:qP h)(w:Wf h):FW SS 50 [.int .i64 kind,strOf l] h (λv h'=>v = .bool (cQ kind l)/\Ok h h'):=by
 refine DY kind l h _ ((OK kind w).mono ?_);rintro _ h1 ⟨rfl,o1⟩;have key:∀(cs:List Value)(f:Nat),cs.length=8->cs.all di=true->cs.getD 7 undef=Aj f->Nat.blt f YB=true->(∀g,Ok h g->FW SS f [strOf l] g (λv h'=>v = .bool (cQ kind l)/\Ok g h'))->Te kind = .tuple ⟨[.agg ⟨cs⟩,.bool true]⟩->∃cs3:List Value,∃b4:Bool,Te kind=(.tuple ⟨[(.agg ⟨cs3⟩),(.bool b4)]⟩)/\∃B5:bO,cq SS.P 79=some (B5,nV)/\∃u6:cX,aw SS.P 79 (.pointer (some ⟨h1.next,0,none⟩)) (.agg ⟨cs3⟩) (h1.push B5)=some (undef,u6)/\aF b4 (∃p7:Addr,ah SS.P 79 (.pointer (some ⟨h1.next,0,none⟩)) 7=some (.pointer (some p7))/\∃(g8:Nat)(a9 cp:List Value),ai SS.P 77 (u6.app (h1.push B5)) (.pointer (some p7))=some (.func (.func g8) ⟨a9⟩ ⟨cp⟩)/\aF (Nat.blt g8 YB) (FW SS g8 (a9++[(strOf l)]++cp) (u6.app (h1.push B5)) λv11 h12=>∃b13:Bool,v11=(.bool b13)/\(Value.bool b13 = .bool (cQ kind l)/\Ok h h12)) False) (Value.bool false = .bool (cQ kind l)/\Ok h (u6.app (h1.push B5))):=by
  intro cs f hc hv hf hY hw e;refine⟨_,_,e,_,Sz,_,nY JL rfl (bF h1 Pw) hc hv,ae (λ_=>?_) (λg=>by cases g)⟩;obtain⟨o,g⟩:=pP (cs:=cs) o1.wf ((Ok.refl o1.wf).push Pw) (bF h1 Pw) (Nat.le_refl _);have hld:=gG YU XO g (i:=7) (by omega);rw[hf]at hld;refine⟨⟨h1.next,7,none⟩,by kernel_rfl,f,[],[],hld,?_⟩;refine By (K:=λv h12=>v = .bool (cQ kind l)/\Ok h h12) hY ((hw _ (o1.trans o)).mono ?_);rintro _ h2 ⟨rfl,o2⟩;exact⟨_,rfl,rfl,(o1.trans o).trans o2⟩
 by_cases g1:kind=1
 ·subst g1;refine key zI 96 rfl rfl rfl (by decide +kernel) (λg o=>?_) rfl;refine(vR l hl (tb.ok o) o.wf).mono ?_;rintro _ h2 ⟨rfl,o2⟩;refine⟨?_,o2⟩;unfold cQ;simp
 by_cases g2:kind=2
 ·subst g2;refine key zJ 114 rfl rfl rfl (by decide +kernel) (λg o=>?_) rfl;refine(qd l hl (tb.ok o) o.wf).mono ?_;rintro _ h2 ⟨rfl,o2⟩;refine⟨?_,o2⟩;unfold cQ;simp
 by_cases g3:kind=3
 ·subst g3;refine key zK 114 rfl rfl rfl (by decide +kernel) (λg o=>?_) rfl;refine(qd l hl (tb.ok o) o.wf).mono ?_;rintro _ h2 ⟨rfl,o2⟩;refine⟨?_,o2⟩;unfold cQ;simp
 ·have e:Te kind = .tuple ⟨[.agg ⟨kJ⟩,.bool false]⟩:=by unfold Te;rw[if_neg g1,if_neg g2,if_neg g3]
  refine⟨_,_,e,_,Sz,_,nY JL rfl (bF h1 Pw) (cs:=kJ) rfl rfl,ae (λg=>by cases g) (λ_=>?_)⟩;obtain⟨o,g⟩:=pP (cs:=kJ) o1.wf ((Ok.refl o1.wf).push Pw) (bF h1 Pw) (Nat.le_refl _);refine⟨?_,o1.trans o⟩;unfold cQ;rw[decide_eq_false (by omega)];rfl
theorem DR(kind:Int)(l:List UInt8)(hl:l.length<=281474976710656){h:aa}(w:Wf h):FW SS 77 [.int .i64 kind,strOf l] h (λv h'=>v = .bool (decide (1<=kind/\kind<=3)&&(l==[105,110,102]||l==[45,105,110,102]&&kind==1||bN l&&(kind==1||decide (0<=ef l [48]))))/\Ok h h'):=by
 have hk:FW SS 54 [.int .i64 kind] h (λv h'=>v = .bool (decide (1<=kind/\kind<=3))/\h'=h):=by
  refine vU kind h _ (ae (λg=>⟨?_,rfl⟩) (λg=>⟨?_,rfl⟩))
  ·have g:=dT g;congr 1;exact decide_eq_decide.2 ⟨λc=>⟨g,c⟩,λc=>c.2⟩
  ·have g:=dF g;rw[decide_eq_false (by omega)]
 refine DQ kind l h _ (hk.mono ?_);rintro _ g0 ⟨rfl,e0⟩;obtain rfl:h=g0:=e0.symm;refine⟨_,rfl,ae (λg=>⟨?_,Ok.refl w⟩) (λg=>?_)⟩
 ·rw[not_eq_true']at g;rw[g];rfl
 rw[not_eq_false']at g;rw[g,Bool.true_and];refine ae (λg1=>ae (λ_=>⟨?_,Ok.refl w⟩) (λg2=>by rw[g1]at g2;cases g2)) (λg1=>ae (λg2=>ae (λg3=>by rw[g1]at g3;cases g3) (λ_=>⟨?_,Ok.refl w⟩)) (λg2=>?_))
 ·rw[g1];rfl
 ·rw[g1,g2];rw[show l=[45,105,110,102] by simpa using g2,rf];simp
 ·rw[g1,g2];refine(DP l hl w).mono ?_;rintro _ h1 ⟨rfl,o1⟩;refine⟨_,rfl,ae (λg3=>ae (λg4=>⟨?_,o1⟩) (λg4=>?_)) (λg3=>⟨?_,o1⟩)⟩
  ·rw[g3,g4];rfl
  ·refine(Ij l [48] hl (by simp) o1.wf).mono ?_;rintro _ h2 ⟨rfl,o2⟩;refine⟨_,rfl,?_,o1.trans o2⟩;rw[g3,g4];simp
  ·rw[g3];rfl
theorem m3(kind:Int)(l:List UInt8)(hl:l.length<=281474976710656){h:aa}(w:Wf h):FW SS 55 [.int .i64 kind,strOf l] h (λv h'=>v = .bool (cQ kind l)/\Ok h h'):=by
 refine AU kind l h _ ((DR kind l hl w).mono ?_);rintro _ h1 ⟨rfl,o1⟩;have e1:(l==[105,110,102])=true->bN l=false:=λe=>by rw[show l=[105,110,102] by simpa using e];exact Ep
 have e2:(l==[45,105,110,102])=true->bN l=false:=λe=>by rw[show l=[45,105,110,102] by simpa using e];exact rf
 unfold cQ;generalize decide (1<=kind/\kind<=3)=K;refine⟨_,rfl,ae (λg=>?_) (λg=>⟨?_,o1⟩)⟩
 ·refine ae (λg1=>ae (λg2=>?_) (λg2=>⟨?_,o1⟩)) (λg1=>⟨?_,o1⟩)
  ·have g1:(l==[105,110,102])=false:=by simpa using g1
   have g2:(l==[45,105,110,102])=false:=by simpa using g2
   rw[g1,g2]at g;simp only[Bool.false_or,Bool.false_and,and_eq_true]at g;obtain⟨q1,q2,q3⟩:=g;rw[q1,q2];refine ae (λg3=>⟨?_,o1⟩) (λg3=>⟨?_,o1⟩)
   ·rw[g3];rfl
   ·rw[g3]at q3⊢;simp only[Bool.false_or,decide_eq_true_eq]at q3;have:=Ao q2;congr 1;by_cases h0:l=[48]
    ·have h1:=this.2 h0;rw[h1,h0];rfl
    ·have h1:¬ef l [48]=0:=λc=>h0 (this.1 c);rw[decide_eq_true (by omega:0<ef l [48])];simpa using h0
  ·rw[e2 (by simpa using g2)];simp
  ·rw[e1 (by simpa using g1)];simp
 ·congr 1
  cases K with
  |false=>rfl
  |true=>
   rw[Bool.true_and]at g⊢;simp only[Bool.or_eq_false_iff,Bool.and_eq_false_iff]at g;obtain⟨⟨q1,q2⟩,q3⟩:=g;rcases q3 with q3|⟨q3,q4⟩
   ·rw[q3];rfl
   ·have q4:=dF q4;rw[q3,decide_eq_false (by omega)];simp
section
def gi(h:aa)(v:Value)(l:List dO):Prop:=CH h 34 4 v (l.map kj)
def L6(p:lA×Value):List Value:=[strOf p.1.f,p.2]
def eK(h:aa)(v:Value)(l:List lA):Prop:=∃ps:List (lA×Value),ps.map (·.1)=l/\CH h 38 2 v (ps.map L6)/\(∀p∈ps,gi h p.2 p.1.bq)/\v≠yw
theorem eK.ok{h h':aa}{v:Value}{l:List lA}(r:eK h v l)(o:Ok h h'):eK h' v l:=by
 obtain⟨ps,h1,h2,h3,h4⟩:=r;exact⟨ps,h1,h2.ok o,λp hp=>CH.ok (h3 p hp) o,h4⟩
theorem eK.len{h:aa}{a:Option Addr}{n c:Nat}{l:List lA}(r:eK h (.slice a n c) l):n=l.length:=by
 obtain⟨ps,h1,h2,h3,_⟩:=r;rw[h2.len,lM,<-h1,lM]
theorem WO:SS.P.underlying 22=some (.slice 38):=by kernel_rfl
theorem Uj:SS.P.underlying 36=some (.slice 34):=by kernel_rfl
theorem Sk:aB SS.P 38=some 2:=by kernel_rfl
theorem GF:aB SS.P 34=some 4:=by kernel_rfl
theorem WV:aB SS.P 24=some 4:=by kernel_rfl
theorem XM:Go.Ab.isAgg SS.P 38=true:=by kernel_rfl
theorem Sw:Go.Ab.isAgg SS.P 34=true:=by kernel_rfl
theorem XL:Go.Ab.isAgg SS.P 24=true:=by kernel_rfl
theorem XJ:Go.Ab.isAgg SS.P 22=false:=by kernel_rfl
theorem UY:Go.Ab.isAgg SS.P 36=false:=by kernel_rfl
noncomputable def Xj:TypeDesc:=(SS.P.underlying 38).getD .bool
theorem YS:SS.P.underlying 38=some Xj:=by kernel_rfl
noncomputable def Xi:TypeDesc:=(SS.P.underlying 34).getD .bool
theorem UD:SS.P.underlying 34=some Xi:=by kernel_rfl
noncomputable def Xh:TypeDesc:=(SS.P.underlying 24).getD .bool
theorem YR:SS.P.underlying 24=some Xh:=by kernel_rfl
theorem nI(k:Nat):ah SS.P 24 (.pointer (some ⟨k,0,none⟩)) 0=some (.pointer (some ⟨k,0,none⟩)):=by kernel_rfl
theorem CX(k:Nat):ah SS.P 24 (.pointer (some ⟨k,0,none⟩)) 1=some (.pointer (some ⟨k,1,none⟩)):=by kernel_rfl
theorem M7(k:Nat):ah SS.P 24 (.pointer (some ⟨k,0,none⟩)) 2=some (.pointer (some ⟨k,2,none⟩)):=by kernel_rfl
theorem bZ(k:Nat):ah SS.P 24 (.pointer (some ⟨k,0,none⟩)) 3=some (.pointer (some ⟨k,3,none⟩)):=by kernel_rfl
theorem uR(k o:Nat):ah SS.P 38 (.pointer (some ⟨k,o,none⟩)) 0=some (.pointer (some ⟨k,o+0,none⟩)):=by kernel_rfl
theorem eo(k o:Nat):ah SS.P 38 (.pointer (some ⟨k,o,none⟩)) 1=some (.pointer (some ⟨k,o+1,none⟩)):=by kernel_rfl
theorem je(k o:Nat):ah SS.P 34 (.pointer (some ⟨k,o,none⟩)) 0=some (.pointer (some ⟨k,o+0,none⟩)):=by kernel_rfl
theorem r9(k o:Nat):ah SS.P 34 (.pointer (some ⟨k,o,none⟩)) 1=some (.pointer (some ⟨k,o+1,none⟩)):=by kernel_rfl
theorem M8(k o:Nat):ah SS.P 34 (.pointer (some ⟨k,o,none⟩)) 2=some (.pointer (some ⟨k,o+2,none⟩)):=by kernel_rfl
theorem mY(k o:Nat):ah SS.P 34 (.pointer (some ⟨k,o,none⟩)) 3=some (.pointer (some ⟨k,o+3,none⟩)):=by kernel_rfl
structure MB(g:aa)(k:Nat)(M:bA)(a:Option Addr)(n c:Nat):Prop where
 box:g.get k=some (.cells [.int .i64 M.kind,.int .i64 M.start,strOf M.lead,.slice a n c] 24 0 true)
 row:eK g (.slice a n c) M.aq
section
variable {g g':aa} {k:Nat} {M:bA} {a:Option Addr} {n c:Nat}
theorem MB.ok(m:MB g k M a n c)(o:Ok g g'):MB g' k M a n c:=⟨o.ext _ _ m.box,m.row.ok o⟩
theorem MB.l0(m:MB g k M a n c):ai SS.P 3 g (.pointer (some ⟨k,0,none⟩))=some (.int .i64 M.kind):=gG GS GR m.box (by simp)
theorem MB.l1(m:MB g k M a n c):ai SS.P 3 g (.pointer (some ⟨k,1,none⟩))=some (.int .i64 M.start):=gG GS GR m.box (by simp)
theorem MB.l2(m:MB g k M a n c):ai SS.P 9 g (.pointer (some ⟨k,2,none⟩))=some (strOf M.lead):=gG O7 Sy m.box (by simp)
theorem MB.l3(m:MB g k M a n c):ai SS.P 22 g (.pointer (some ⟨k,3,none⟩))=some (.slice a n c):=gG WO XJ m.box (by simp)
theorem MB.all(m:MB g k M a n c):ai SS.P 24 g (.pointer (some ⟨k,0,none⟩))=some (.agg ⟨[.int .i64 M.kind,.int .i64 M.start,strOf M.lead,.slice a n c]⟩):=zd YR XL WV m.box (by simp)
theorem MB.len(m:MB g k M a n c):n=M.aq.length:=m.row.len
end
theorem eK.at_{g:aa}{a:Option Addr}{n c:Nat}{l:List lA}(r:eK g (.slice a n c) l){i:Nat}{s:lA}(hs:l[i]?=some s):
  ∃(b o:Nat)(x:Option Addr)(y z:Nat),af SS.P 22 (.slice a n c) (.int .i64 (i:Int))=some (.pointer (some ⟨b,o,none⟩))/\ai SS.P 38 g (.pointer (some ⟨b,o,none⟩))=some (.agg ⟨[strOf s.f,.slice x y z]⟩)/\
   ai SS.P 9 g (.pointer (some ⟨b,o+0,none⟩))=some (strOf s.f)/\ai SS.P 36 g (.pointer (some ⟨b,o+1,none⟩))=some (.slice x y z)/\gi g (.slice x y z) s.bq:=by
 obtain⟨ps,h1,h2,h3,_⟩:=r;rw[<-h1,getElem?_map]at hs;obtain⟨p,hp,rfl⟩:=Option.map_eq_some_iff.1 hs;have hi:=(List.getElem?_eq_some_iff.1 hp).1;obtain⟨b,o,e1,e2,e3⟩:=h2.at_ WO Sk YS XM (ik:= .i64) (i:=(i:Int)) (by omega) (by rw[lM];omega);have e4:(ps.map L6).getD (i:Int).toNat []=L6 p:=by
  rw[toNat_natCast,gD,getElem?_map,hp];rfl
 rw[e4]at e2 e3;have ha:=h3 p (List.mem_of_getElem? hp);obtain⟨x,z,hx⟩:=CH.L5 ha;have e5:=e3 9 _ 0 O7 Sy (by omega);have e6:=e3 36 _ 1 Uj UY (by omega);unfold L6 at e2 e5 e6;rw[hx]at e2 e6 ha;exact⟨b,o,x,_,z,e1,e2,e5,e6,ha⟩
theorem gi.len{g:aa}{x:Option Addr}{y z:Nat}{l:List dO}(r:gi g (.slice x y z) l):y=l.length:=by
 have:=CH.len r;rwa[lM]at this
theorem gi.ok{h h':aa}{v:Value}{l:List dO}(r:gi h v l)(o:Ok h h'):gi h' v l:=CH.ok r o
theorem gi.at_{g:aa}{x:Option Addr}{y z:Nat}{l:List dO}(r:gi g (.slice x y z) l){j:Nat}{q:dO}(hs:l[j]?=some q):
  ∃(b o:Nat),af SS.P 36 (.slice x y z) (.int .i64 (j:Int))=some (.pointer (some ⟨b,o,none⟩))/\ai SS.P 34 g (.pointer (some ⟨b,o,none⟩))=some (.agg ⟨kj q⟩)/\
   ai SS.P 3 g (.pointer (some ⟨b,o+0,none⟩))=some (.int .i64 q.i)/\ai SS.P 3 g (.pointer (some ⟨b,o+1,none⟩))=some (.int .i64 q.o)/\ai SS.P 9 g (.pointer (some ⟨b,o+2,none⟩))=some (strOf q.w)/\ai SS.P 3 g (.pointer (some ⟨b,o+3,none⟩))=some (.int .i64 q.t):=by
 have hj:=(List.getElem?_eq_some_iff.1 hs).1;obtain⟨b,o,e1,e2,e3⟩:=CH.at_ Uj GF UD Sw r (ik:= .i64) (i:=(j:Int)) (by omega) (by rw[lM];omega);have e4:(l.map kj).getD (j:Int).toNat []=kj q:=by
  rw[toNat_natCast,gD,getElem?_map,hs];rfl
 rw[e4]at e2 e3;exact⟨b,o,e1,e2,e3 3 _ 0 GS GR (by omega),e3 3 _ 1 GS GR (by omega),e3 9 _ 2 O7 Sy (by omega),e3 3 _ 3 GS GR (by omega)⟩
def SB(g:aa)(k:Nat)(f:List UInt8)(x:Option Addr)(y z:Nat):Prop:=g.get k=some (.cells [strOf f,.slice x y z] 38 0 true)
theorem SB.ok{g g':aa}{k:Nat}{f:List UInt8}{x:Option Addr}{y z:Nat}(s:SB g k f x y z)(o:Ok g g'):SB g' k f x y z:=o.ext _ _ s
theorem SB.l0{g:aa}{k:Nat}{f:List UInt8}{x:Option Addr}{y z:Nat}(s:SB g k f x y z):ai SS.P 9 g (.pointer (some ⟨k,0+0,none⟩))=some (strOf f):=gG O7 Sy s (by simp)
theorem SB.l1{g:aa}{k:Nat}{f:List UInt8}{x:Option Addr}{y z:Nat}(s:SB g k f x y z):ai SS.P 36 g (.pointer (some ⟨k,0+1,none⟩))=some (.slice x y z):=gG Uj UY s (by simp)
def AB(g:aa)(k:Nat)(q:dO):Prop:=g.get k=some (.cells (kj q) 34 0 true)
theorem AB.ok{g g':aa}{k:Nat}{q:dO}(s:AB g k q)(o:Ok g g'):AB g' k q:=o.ext _ _ s
theorem AB.l0{g:aa}{k:Nat}{q:dO}(s:AB g k q):ai SS.P 3 g (.pointer (some ⟨k,0+0,none⟩))=some (.int .i64 q.i):=gG GS GR s (by simp[kj])
theorem AB.l1{g:aa}{k:Nat}{q:dO}(s:AB g k q):ai SS.P 3 g (.pointer (some ⟨k,0+1,none⟩))=some (.int .i64 q.o):=gG GS GR s (by simp[kj])
theorem AB.l2{g:aa}{k:Nat}{q:dO}(s:AB g k q):ai SS.P 9 g (.pointer (some ⟨k,0+2,none⟩))=some (strOf q.w):=gG O7 Sy s (by simp[kj])
theorem AB.l3{g:aa}{k:Nat}{q:dO}(s:AB g k q):ai SS.P 3 g (.pointer (some ⟨k,0+3,none⟩))=some (.int .i64 q.t):=gG GS GR s (by simp[kj])
def GU:bO:= .cells [strOf [],.slice none 0 0] 38 0 true
theorem J0:cq SS.P 38=some (GU,nV):=by kernel_rfl
def JO:bO:= .cells [.int .i64 0,.int .i64 0,strOf [],.int .i64 0] 34 0 true
theorem He:cq SS.P 34=some (JO,nV):=by kernel_rfl
theorem B6{h:aa}(w:Wf h)(f:List UInt8)(x:Option Addr)(y z:Nat):∃u:cX,aw SS.P 38 (.pointer (some ⟨h.next,0,none⟩)) (.agg ⟨[strOf f,.slice x y z]⟩) (h.push GU)=some (undef,u)/\Ok h (u.app (h.push GU))/\SB (u.app (h.push GU)) h.next f x y z:=by
 obtain⟨o,e⟩:=pP (cs:=[strOf f,.slice x y z]) w ((Ok.refl w).push GU) (bF h GU) (Nat.le_refl _);exact⟨_,nY Sk rfl (bF h GU) rfl rfl,o,e⟩
theorem zu{h:aa}(w:Wf h)(q:dO):∃u:cX,aw SS.P 34 (.pointer (some ⟨h.next,0,none⟩)) (.agg ⟨kj q⟩) (h.push JO)=some (undef,u)/\Ok h (u.app (h.push JO))/\AB (u.app (h.push JO)) h.next q:=by
 obtain⟨o,e⟩:=pP (cs:=kj q) w ((Ok.refl w).push JO) (bF h JO) (Nat.le_refl _);exact⟨_,nY GF rfl (bF h JO) rfl rfl,o,e⟩
def dD(M:bA)(a:Option Addr)(n c:Nat):List Value:=[.int .i64 M.kind,.int .i64 M.start,strOf M.lead,.slice a n c]
def Bm(M:bA)(a:Option Addr)(n c:Nat):bO:= .cells (dD M a n c) 24 0 true
theorem jJ(M:bA)(a:Option Addr)(n c:Nat):jI SS.P 24 (.agg ⟨dD M a n c⟩)=some (Bm M a n c,nV):=by kernel_rfl
theorem gr{h:aa}(w:Wf h){M:bA}{a:Option Addr}{n c:Nat}(r:eK h (.slice a n c) M.aq):MB (h.push (Bm M a n c)) h.next M a n c/\Ok h (h.push (Bm M a n c)):=
 ⟨⟨bF h _,r.ok ((Ok.refl w).push _)⟩,(Ok.refl w).push _⟩
def qh(s:Int):Bool:=decide (0<=s)&&decide (s<=500)
def iL(kind:Int)(N:Nat)(a:dO):Bool:=qh a.i&&qh a.o&&decide (0<=a.t)&&decide (a.t<N)&&cQ kind a.w
def oP(kind:Int)(N:Nat):Int->List lA->Bool
 |_,[]=>true
 |acc,s::r=>decide (acc+s.bq.length<=30000)&&(s.f==[]||cQ kind s.f)&&s.bq.all (iL kind N)&&oP kind N (acc+s.bq.length) r
def dN(M:bA):Bool:=decide (1<=M.kind)&&decide (M.kind<=3)&&decide (1<=M.aq.length)&&decide (M.aq.length<=3000)&&decide (0<=M.start)&&decide (M.start<M.aq.length)&&cQ M.kind M.lead&&oP M.kind M.aq.length 0 M.aq
def oA(l:List lA):Nat:=(l.map λs=>s.bq.length).sum
structure Small(M:bA):Prop where
 lead:M.lead.length<=281474976710656
 oO:M.aq.length<=300
 fin:∀s∈M.aq,s.f.length<=281474976710656
 bq:∀s∈M.aq,s.bq.length<=2000
 w:∀s∈M.aq,∀q∈s.bq,q.w.length<=281474976710656
 ZM:oA M.aq<=2000
end
noncomputable def OT:FD:=dJ Tryz.f51 []
theorem LN(s:Int)(h:aa)(Q:VH)(hx:aF (decide ((s:Int)>=0)) (Q (.bool (decide ((s:Int)<=500))) h) (Q (.bool false) h)):FW SS 51 [(.int .i64 s)] h Q:=dM OT Tryz.func51 (au hx)
noncomputable def cA:FD:=dJ Tryz.f30 [([1,1,1,1,0,1,0,0],[1,2,3,4,48,49,50]),([1,1,1,1,0,1,0,0,1,1,0,0,1,1,1,1,0,0],[1,2,3,4,6,48,49,50,75,76,77])]
abbrev fe(k:Nat)(a:OA)(n c:Nat)(i:Nat)(acc:Int):LV:=[(pA k),(.bool false),(iA n),(.int .i64 acc),(.slice a n c),(iA n),(iA i)]
abbrev gX(k:Nat)(a:OA)(n c k2:Nat)(b:OA)(m d i:Nat)(acc:Int)(j:Nat):LV:=[(pA k),(.bool false),(iA n),(.int .i64 acc),(pA k2),(.slice a n c),(iA n),(iA i),(.slice b m d),(iA m),(iA j)]
theorem KL(mv:LV)(h:aa)(Q:VH)(hx:xN (jI SS.P 24 (.agg ⟨mv⟩)) h λB1 g2=>xP (ah SS.P 24 (pA (h.next)) 3) λp3=>xL (ai SS.P 22 g2 (.pointer (some p3))) λa4 n5 c6=>xP (ah SS.P 24 (pA (h.next)) 0) λp7=>xI .i64 (ai SS.P 3 g2 (.pointer (some p7))) λn8=>aF (decide ((n8:Int)<1)) (Q (.bool false) g2) (xP (ah SS.P 24 (pA (h.next)) 0) λp9=>xI .i64 (ai SS.P 3 g2 (.pointer (some p9))) λn10=>aF (decide ((n10:Int)>3)) (Q (.bool false) g2) (aF (decide (((n5:Int):Int)<1)) (Q (.bool false) g2) (aF (decide (((n5:Int):Int)>3000)) (Q (.bool false) g2) (xP (ah SS.P 24 (pA (h.next)) 1) λp11=>xI .i64 (ai SS.P 3 g2 (.pointer (some p11))) λn12=>aF (decide ((n12:Int)<0)) (Q (.bool false) g2) (xP (ah SS.P 24 (pA (h.next)) 1) λp13=>xI .i64 (ai SS.P 3 g2 (.pointer (some p13))) λn14=>aF (decide ((n14:Int)>=(n5:Int))) (Q (.bool false) g2) (xP (ah SS.P 24 (pA (h.next)) 0) λp15=>xI .i64 (ai SS.P 3 g2 (.pointer (some p15))) λn16=>xP (ah SS.P 24 (pA (h.next)) 2) λp17=>xS (ai SS.P 9 g2 (.pointer (some p17))) λl18=>FW SS 50 [(.int .i64 n16),(strOf l18)] g2 λv19 h20=>yB v19 λb21=>aF (!b21) (Q (.bool false) h20) (xP (ah SS.P 24 (pA (h.next)) 3) λp22=>xL (ai SS.P 22 h20 (.pointer (some p22))) λa23 n24 c25=>LL SS cA [1,1,1,1,0,1,0,0] [(pA (h.next)),(.bool false),(iA n5),(.int .i64 0),(.slice a23 n24 c25),(iA n24),(.int .i64 0)] h20 (KK SS cA [1,1,1,1,0,1,0] [] (EE SS cA Q)))))))))):FW SS 30 [(.agg ⟨mv⟩)] h Q:=dM cA Tryz.func30 (au hx)
theorem tx(mv:LV)(k:Nat)(a:OA)(n c:Nat)(Inv:Nat->Nat->Int->aa->Prop)(Q:VH)(step:∀(mz:Nat) (i:Nat) (acc:Int) (zz:Nat->Value) (h:aa),Inv mz i acc h->aF (decide (((i:Int):Int)<(n:Int))) (xP (af SS.P 22 (.slice a n c) (iA i)) λp26=>xA (ai SS.P 38 h (.pointer (some p26))) λc27=>xN (cq SS.P 38) h λB28 g29=>xU (aw SS.P 38 (pA (h.next)) (.agg ⟨c27⟩) g29) g29 λu30 g31=>xP (ah SS.P 38 (pA (h.next)) 1) λp32=>xL (ai SS.P 36 g31 (.pointer (some p32))) λa33 n34 c35=>aF (decide ((wrap .i64 (acc+(n34:Int)):Int)>30000)) (Q (.bool false) g31) (xP (ah SS.P 38 (pA (h.next)) 0) λp36=>xS (ai SS.P 9 g31 (.pointer (some p36))) λl37=>aF (!((l37:LB)==[])) (xP (ah SS.P 24 (pA k) 0) λp38=>xI .i64 (ai SS.P 3 g31 (.pointer (some p38))) λn39=>xP (ah SS.P 38 (pA (h.next)) 0) λp40=>xS (ai SS.P 9 g31 (.pointer (some p40))) λl41=>FW SS 50 [(.int .i64 n39),(strOf l41)] g31 λv42 h43=>yB v42 λb44=>aF (!b44) (Q (.bool false) h43) (xP (ah SS.P 38 (pA (h.next)) 1) λp45=>xL (ai SS.P 36 h43 (.pointer (some p45))) λa46 n47 c48=>LL SS cA [1,1,1,1,0,1,0,0,1,1,0,0,1,1,1,1,0,0] (gX k a n c (h.next) a46 n47 c48 i (wrap .i64 (acc+(n34:Int))) 0) h43 (KK SS cA [1,1,0,0,1,1,1,1,0] [1,1,1,1,0,1,0,0] (RR cA [1,1,1,1,0,1,0,0] (re (fe k a n c) Inv) mz (KK SS cA [1,1,1,1,0,1,0] [] (EE SS cA Q)))))) (xP (ah SS.P 38 (pA (h.next)) 1) λp49=>xL (ai SS.P 36 g31 (.pointer (some p49))) λa50 n51 c52=>LL SS cA [1,1,1,1,0,1,0,0,1,1,0,0,1,1,1,1,0,0] (gX k a n c (h.next) a50 n51 c52 i (wrap .i64 (acc+(n34:Int))) 0) g31 (KK SS cA [1,1,0,0,1,1,1,1,0] [1,1,1,1,0,1,0,0] (RR cA [1,1,1,1,0,1,0,0] (re (fe k a n c) Inv) mz (KK SS cA [1,1,1,1,0,1,0] [] (EE SS cA Q))))))) (Q (.bool true) h))(mz:Nat){i:Nat}{acc:Int}{h:aa}(hi:Inv mz i acc h):LL SS cA [1,1,1,1,0,1,0,0] (fe k a n c i acc) h (KK SS cA [1,1,1,1,0,1,0] [] (EE SS cA Q)):=
 ng (fe k a n c) Inv (λmz i acc zz h hi=>au (step mz i acc zz h hi)) mz hi
theorem tz(mv:LV)(k:Nat)(a:OA)(n c:Nat)(k2:Nat)(b:OA)(m d:Nat)(Inv:Nat->Nat->Int->aa->Prop)(mz i:Nat)(acc:Int)(Inv2:Nat->Nat->aa->Prop)(Q:VH)(step:∀(mz2:Nat) (j:Nat) (zz:Nat->Value) (h:aa),Inv2 mz2 j h->aF (decide (((j:Int):Int)<(m:Int))) (xP (af SS.P 36 (.slice b m d) (iA j)) λp53=>xA (ai SS.P 34 h (.pointer (some p53))) λc54=>xN (cq SS.P 34) h λB55 g56=>xU (aw SS.P 34 (pA (h.next)) (.agg ⟨c54⟩) g56) g56 λu57 g58=>xP (ah SS.P 34 (pA (h.next)) 0) λp59=>xI .i64 (ai SS.P 3 g58 (.pointer (some p59))) λn60=>FW SS 51 [(.int .i64 n60)] g58 λv61 h62=>yB v61 λb63=>aF (!b63) (Q (.bool false) h62) (xP (ah SS.P 34 (pA (h.next)) 1) λp64=>xI .i64 (ai SS.P 3 h62 (.pointer (some p64))) λn65=>FW SS 51 [(.int .i64 n65)] h62 λv66 h67=>yB v66 λb68=>aF (!b68) (Q (.bool false) h67) (xP (ah SS.P 34 (pA (h.next)) 3) λp69=>xI .i64 (ai SS.P 3 h67 (.pointer (some p69))) λn70=>aF (decide ((n70:Int)<0)) (Q (.bool false) h67) (xP (ah SS.P 34 (pA (h.next)) 3) λp71=>xI .i64 (ai SS.P 3 h67 (.pointer (some p71))) λn72=>aF (decide ((n72:Int)>=(n:Int))) (Q (.bool false) h67) (xP (ah SS.P 24 (pA k) 0) λp73=>xI .i64 (ai SS.P 3 h67 (.pointer (some p73))) λn74=>xP (ah SS.P 34 (pA (h.next)) 2) λp75=>xS (ai SS.P 9 h67 (.pointer (some p75))) λl76=>FW SS 50 [(.int .i64 n74),(strOf l76)] h67 λv77 h78=>yB v77 λb79=>aF (!b79) (Q (.bool false) h78) (aH (iR (gX k a n c k2 b m d i acc) Inv2) mz2 [(pA k),(.bool false),(iA n),(.int .i64 acc),(pA k2),(.slice a n c),(iA n),(iA i),(.slice b m d),(iA m),(.int .i64 (wrap .i64 ((j:Int)+1)))] h78)))))) (aH (re (fe k a n c) Inv) mz [(pA k),(.bool false),(iA n),(.int .i64 acc),(.slice a n c),(iA n),(.int .i64 (wrap .i64 ((i:Int)+1)))] h))(mz2:Nat){j:Nat}{h:aa}(hi:Inv2 mz2 j h):LL SS cA [1,1,1,1,0,1,0,0,1,1,0,0,1,1,1,1,0,0] (gX k a n c k2 b m d i acc j) h (KK SS cA [1,1,0,0,1,1,1,1,0] [1,1,1,1,0,1,0,0] (RR cA [1,1,1,1,0,1,0,0] (re (fe k a n c) Inv) mz (KK SS cA [1,1,1,1,0,1,0] [] (EE SS cA Q)))):=
 dK (gX k a n c k2 b m d i acc) Inv2 (λmz2 j zz h hi=>au (step mz2 j zz h hi)) mz2 hi
noncomputable def cB:FD:=dJ Tryz.f33 [([1,1,1,0,1,0,0],[1,2,3,4]),([1,1,1,0,1,0,0,1,0,0,1,1,1,1,0,0],[1,2,3,4,5,6])]
abbrev ew(k:Nat)(i:Nat)(acc:Int):LV:=[(pA k),(.bool false),(.int .i64 acc),(iA i)]
abbrev hJ(k k2 i:Nat)(acc:Int)(j:Nat):LV:=[(pA k),(.bool false),(.int .i64 acc),(iA i),(pA k2),(iA j)]
theorem Lc(mv:LV)(h:aa)(Q:VH)(hx:xN (jI SS.P 24 (.agg ⟨mv⟩)) h λB1 g2=>xP (ah SS.P 24 (pA (h.next)) 0) λp3=>xI .i64 (ai SS.P 3 g2 (.pointer (some p3))) λn4=>FW SS 54 [(.int .i64 n4)] g2 λv5 h6=>yB v5 λb7=>aF (!b7) (Q (.bool false) h6) (xP (ah SS.P 24 (pA (h.next)) 3) λp8=>xL (ai SS.P 22 h6 (.pointer (some p8))) λa9 n10 bW=>aF (decide (((n10:Int):Int)<1)) (Q (.bool false) h6) (xP (ah SS.P 24 (pA (h.next)) 3) λp12=>xL (ai SS.P 22 h6 (.pointer (some p12))) λa13 n14 cD=>aF (decide (((n14:Int):Int)>3000)) (Q (.bool false) h6) (xP (ah SS.P 24 (pA (h.next)) 1) λp16=>xI .i64 (ai SS.P 3 h6 (.pointer (some p16))) λn17=>aF (decide ((n17:Int)<0)) (Q (.bool false) h6) (xP (ah SS.P 24 (pA (h.next)) 1) λp18=>xI .i64 (ai SS.P 3 h6 (.pointer (some p18))) λn19=>xP (ah SS.P 24 (pA (h.next)) 3) λp20=>xL (ai SS.P 22 h6 (.pointer (some p20))) λa21 n22 c23=>aF (decide ((n19:Int)>=(n22:Int))) (Q (.bool false) h6) (xP (ah SS.P 24 (pA (h.next)) 0) λp24=>xI .i64 (ai SS.P 3 h6 (.pointer (some p24))) λn25=>xP (ah SS.P 24 (pA (h.next)) 2) λp26=>xS (ai SS.P 9 h6 (.pointer (some p26))) λl27=>FW SS 55 [(.int .i64 n25),(strOf l27)] h6 λv28 h29=>yB v28 λb30=>aF (!b30) (Q (.bool false) h29) (LL SS cB [1,1,1,0,1,0,0] (ew (h.next) 0 0) h29 (KK SS cB [1,1,1,0,1,0] [] (EE SS cB Q))))))))):FW SS 33 [(.agg ⟨mv⟩)] h Q:=dM cB Tryz.func33 (au hx)
theorem tJ(mv:LV)(k:Nat)(Inv:Nat->Nat->Int->aa->Prop)(Q:VH)(step:∀(mz:Nat) (i:Nat) (acc:Int) (zz:Nat->Value) (h:aa),Inv mz i acc h->xP (ah SS.P 24 (pA k) 3) λp31=>xL (ai SS.P 22 h (.pointer (some p31))) λa32 n33 c34=>aF (decide (((i:Int):Int)<(n33:Int))) (xP (ah SS.P 24 (pA k) 3) λp35=>xL (ai SS.P 22 h (.pointer (some p35))) λa36 n37 c38=>xP (af SS.P 22 (.slice a36 n37 c38) (iA i)) λp39=>xA (ai SS.P 38 h (.pointer (some p39))) λc40=>xN (cq SS.P 38) h λB41 g42=>xU (aw SS.P 38 (pA (h.next)) (.agg ⟨c40⟩) g42) g42 λu43 g44=>xP (ah SS.P 38 (pA (h.next)) 1) λp45=>xL (ai SS.P 36 g44 (.pointer (some p45))) λa46 n47 c48=>aF (decide ((wrap .i64 (acc+(n47:Int)):Int)>30000)) (Q (.bool false) g44) (xP (ah SS.P 38 (pA (h.next)) 0) λp49=>xS (ai SS.P 9 g44 (.pointer (some p49))) λl50=>aF (!((l50:LB)==[])) (xP (ah SS.P 24 (pA k) 0) λp51=>xI .i64 (ai SS.P 3 g44 (.pointer (some p51))) λn52=>xP (ah SS.P 38 (pA (h.next)) 0) λp53=>xS (ai SS.P 9 g44 (.pointer (some p53))) λl54=>FW SS 55 [(.int .i64 n52),(strOf l54)] g44 λv55 h56=>yB v55 λb57=>aF (!b57) (Q (.bool false) h56) (LL SS cB [1,1,1,0,1,0,0,1,0,0,1,1,1,1,0,0] (hJ k (h.next) i (wrap .i64 (acc+(n47:Int))) 0) h56 (KK SS cB [1,0,0,1,1,1,1,0] [1,1,1,0,1,0,0] (RR cB [1,1,1,0,1,0,0] (re (ew k) Inv) mz (KK SS cB [1,1,1,0,1,0] [] (EE SS cB Q)))))) (LL SS cB [1,1,1,0,1,0,0,1,0,0,1,1,1,1,0,0] (hJ k (h.next) i (wrap .i64 (acc+(n47:Int))) 0) g44 (KK SS cB [1,0,0,1,1,1,1,0] [1,1,1,0,1,0,0] (RR cB [1,1,1,0,1,0,0] (re (ew k) Inv) mz (KK SS cB [1,1,1,0,1,0] [] (EE SS cB Q))))))) (Q (.bool true) h))(mz:Nat){i:Nat}{acc:Int}{h:aa}(hi:Inv mz i acc h):LL SS cB [1,1,1,0,1,0,0] (ew k i acc) h (KK SS cB [1,1,1,0,1,0] [] (EE SS cB Q)):=
 ng (ew k) Inv (λmz i acc zz h hi=>au (step mz i acc zz h hi)) mz hi
theorem tK(mv:LV)(k k2:Nat)(Inv:Nat->Nat->Int->aa->Prop)(mz i:Nat)(acc:Int)(Inv2:Nat->Nat->aa->Prop)(Q:VH)(step:∀(mz2:Nat) (j:Nat) (zz:Nat->Value) (h:aa),Inv2 mz2 j h->xP (ah SS.P 38 (pA k2) 1) λp58=>xL (ai SS.P 36 h (.pointer (some p58))) λa59 n60 c61=>aF (decide (((j:Int):Int)<(n60:Int))) (xP (ah SS.P 38 (pA k2) 1) λp62=>xL (ai SS.P 36 h (.pointer (some p62))) λa63 n64 c65=>xP (af SS.P 36 (.slice a63 n64 c65) (iA j)) λp66=>xA (ai SS.P 34 h (.pointer (some p66))) λc67=>xN (cq SS.P 34) h λB68 g69=>xU (aw SS.P 34 (pA (h.next)) (.agg ⟨c67⟩) g69) g69 λu70 g71=>xP (ah SS.P 34 (pA (h.next)) 0) λp72=>xI .i64 (ai SS.P 3 g71 (.pointer (some p72))) λn73=>aF (decide ((n73:Int)<0)) (Q (.bool false) g71) (xP (ah SS.P 34 (pA (h.next)) 0) λp74=>xI .i64 (ai SS.P 3 g71 (.pointer (some p74))) λn75=>aF (decide ((n75:Int)>500)) (Q (.bool false) g71) (xP (ah SS.P 34 (pA (h.next)) 1) λp76=>xI .i64 (ai SS.P 3 g71 (.pointer (some p76))) λn77=>aF (decide ((n77:Int)<0)) (Q (.bool false) g71) (xP (ah SS.P 34 (pA (h.next)) 1) λp78=>xI .i64 (ai SS.P 3 g71 (.pointer (some p78))) λn79=>aF (decide ((n79:Int)>500)) (Q (.bool false) g71) (xP (ah SS.P 34 (pA (h.next)) 3) λp80=>xI .i64 (ai SS.P 3 g71 (.pointer (some p80))) λn81=>aF (decide ((n81:Int)<0)) (Q (.bool false) g71) (xP (ah SS.P 34 (pA (h.next)) 3) λp82=>xI .i64 (ai SS.P 3 g71 (.pointer (some p82))) λn83=>xP (ah SS.P 24 (pA k) 3) λp84=>xL (ai SS.P 22 g71 (.pointer (some p84))) λa85 n86 c87=>aF (decide ((n83:Int)>=(n86:Int))) (Q (.bool false) g71) (xP (ah SS.P 24 (pA k) 0) λp88=>xI .i64 (ai SS.P 3 g71 (.pointer (some p88))) λn89=>xP (ah SS.P 34 (pA (h.next)) 2) λp90=>xS (ai SS.P 9 g71 (.pointer (some p90))) λl91=>FW SS 55 [(.int .i64 n89),(strOf l91)] g71 λv92 h93=>yB v92 λb94=>aF (!b94) (Q (.bool false) h93) (aH (iR (hJ k k2 i acc) Inv2) mz2 [(pA k),(.bool false),(.int .i64 acc),(iA i),(pA k2),(.int .i64 (wrap .i64 ((j:Int)+1)))] h93)))))))) (aH (re (ew k) Inv) mz [(pA k),(.bool false),(.int .i64 acc),(.int .i64 (wrap .i64 ((i:Int)+1)))] h))(mz2:Nat){j:Nat}{h:aa}(hi:Inv2 mz2 j h):LL SS cB [1,1,1,0,1,0,0,1,0,0,1,1,1,1,0,0] (hJ k k2 i acc j) h (KK SS cB [1,0,0,1,1,1,1,0] [1,1,1,0,1,0,0] (RR cB [1,1,1,0,1,0,0] (re (ew k) Inv) mz (KK SS cB [1,1,1,0,1,0] [] (EE SS cB Q)))):=
 dK (hJ k k2 i acc) Inv2 (λmz2 j zz h hi=>au (step mz2 j zz h hi)) mz2 hi
noncomputable def nZ:FD:=dJ Tryz.f11 [([1,1,0,1,0,0],[1,3,4])]
abbrev j9(k:Nat)(i:Nat)(acc:Int):LV:=[(pA k),(.int .i64 acc),(iA i)]
theorem Oc(mv:LV)(h:aa)(Q:VH)(hx:xN (jI SS.P 24 (.agg ⟨mv⟩)) h λB1 g2=>LL SS nZ [1,1,0,1,0,0] (j9 (h.next) 0 0) g2 (KK SS nZ [1,1,0,1,0] [] (EE SS nZ Q))):FW SS 11 [(.agg ⟨mv⟩)] h Q:=dM nZ Tryz.func11 (au hx)
theorem uZ(mv:LV)(k:Nat)(Inv:Nat->Nat->Int->aa->Prop)(Q:VH)(step:∀(mz:Nat) (i:Nat) (acc:Int) (zz:Nat->Value) (h:aa),Inv mz i acc h->xP (ah SS.P 24 (pA k) 3) λp3=>xL (ai SS.P 22 h (.pointer (some p3))) λa4 n5 c6=>aF (decide (((i:Int):Int)<(n5:Int))) (xP (ah SS.P 24 (pA k) 3) λp7=>xL (ai SS.P 22 h (.pointer (some p7))) λa8 n9 cp=>xP (af SS.P 22 (.slice a8 n9 cp) (iA i)) λp11=>xP (ah SS.P 38 (.pointer (some p11)) 1) λp12=>xL (ai SS.P 36 h (.pointer (some p12))) λa13 n14 cD=>aH (re (j9 k) Inv) mz [(pA k),(.int .i64 (wrap .i64 (acc+(n14:Int)))),(.int .i64 (wrap .i64 ((i:Int)+1)))] h) (Q (.int .i64 acc) h))(mz:Nat){i:Nat}{acc:Int}{h:aa}(hi:Inv mz i acc h):LL SS nZ [1,1,0,1,0,0] (j9 k i acc) h (KK SS nZ [1,1,0,1,0] [] (EE SS nZ Q)):=
 ng (j9 k) Inv (λmz i acc zz h hi=>au (step mz i acc zz h hi)) mz hi
section
theorem cT{α:Type}{l:List α}{i:Nat}{s:α}(h:l[i]?=some s):l.drop i=s::l.drop (i+1):=by
 obtain⟨h1,rfl⟩:=List.getElem?_eq_some_iff.1 h;exact List.drop_eq_getElem_cons h1
theorem Cq(s:Int)(h:aa):FW SS 51 [.int .i64 s] h (λv h'=>v = .bool (qh s)/\h'=h):=by
 refine LN s h _ (ae (λg=>⟨?_,rfl⟩) (λg=>⟨?_,rfl⟩))
 ·have g:=dT g;unfold qh;rw[decide_eq_true (show 0<=s from g),Bool.true_and]
 ·have g:=dF g;unfold qh;rw[decide_eq_false (show ¬0<=s from g),Bool.false_and]
section
variable {h:aa} {k:Nat} {M:bA} {a:Option Addr} {n c:Nat}
def bQ(h:aa)(V:Bool):VH:=λv h'=>v = .bool V/\Ok h h'
def QS(h:aa)(k:Nat)(M:bA)(a:Option Addr)(n c:Nat)(V:Bool)(mz i:Nat)(acc:Int)(g:aa):Prop:=i<=n/\mz=n-i/\0<=acc/\acc<=30000/\MB g k M a n c/\Ok h g/\oP M.kind n acc (M.aq.drop i)=V
def Zj(h:aa)(k:Nat)(M:bA)(a:Option Addr)(n c:Nat)(s:lA)(b:Option Addr)(m d i:Nat)(acc:Int)(V:Bool)(mz2 j:Nat)(g:aa):Prop:=j<=m/\mz2=m-j/\MB g k M a n c/\Ok h g/\gi g (.slice b m d) s.bq/\((s.bq.drop j).all (iL M.kind n)&&oP M.kind n acc (M.aq.drop (i+1)))=V
theorem ba{i n:Nat}(h:i<n)(hn:n<=1000000000):wrap .i64 ((i:Int)+1)=((i+1:Nat):Int):=by rw[aA (by omega) (by omega)];omega
theorem lz(sm:Small M){s:lA}{i:Nat}(hs:M.aq[i]?=some s):s.bq.length<=2000/\s.f.length<=281474976710656/\∀q∈s.bq,q.w.length<=281474976710656:=by
 have h:=List.mem_of_getElem? hs;exact⟨sm.bq s h,Nat.le_trans (sm.fin s h) (by decide),λq hq=>Nat.le_trans (sm.w s h q hq) (by decide)⟩
set_option linter.defProp false in
def FP(w:Wf h)(tb:qP h)(sm:Small M)(V:Bool){s:lA}{b:Option Addr}{m d i k2:Nat}{acc:Int}(hs:M.aq[i]?=some s)(hi:i<n)(h0:0<=acc)(h1:acc<=30000)(mv:List Value)(mz:Nat)(hmz:mz=n-i):=
 tz mv k a n c k2 b m d (QS h k M a n c V) mz i acc (Zj h k M a n c s b m d i acc V) (bQ h V) (by
  intro mz2 j;intros;rename_i g hin;obtain⟨f1,f2,mb,ok,ar,hv⟩:=hin;have hn:n<=300:=by rw[mb.len];exact sm.oO
  obtain⟨l1,l2,l3⟩:=lz sm hs;have hm:=ar.len;refine ae (λg1=>?_) (λg1=>?_)
  ·have g1:=dT g1;obtain⟨q,hq⟩:∃q,s.bq[j]?=some q:=⟨_,gE (by omega)⟩
   obtain⟨bb,o,e1,e2,e3⟩:=ar.at_ hq;have lq:=l3 q (List.mem_of_getElem? hq);rw[cT hq,all_cons]at hv;obtain⟨u,p1,p2,p3⟩:=zu ok.wf q;refine⟨_,e1,_,e2,_,He,u,p1,?_⟩;have okg:=ok.trans p2;have mbg:=mb.ok p2;generalize u.app (g.push JO)=g2 at*;refine⟨_,je _ _,_,p3.l0,(Cq _ _).mono ?_⟩;rintro _ g3 ⟨rfl,eg⟩;obtain rfl:g2=g3:=eg.symm;refine⟨_,rfl,ae (λt=>⟨?_,okg⟩) (λt=>?_)⟩
   ·rw[not_eq_true']at t;rw[<-hv];unfold iL;rw[t];simp
   rw[not_eq_false']at t;refine⟨_,r9 _ _,_,p3.l1,(Cq _ _).mono ?_⟩;rintro _ g3 ⟨rfl,eg⟩;obtain rfl:g2=g3:=eg.symm;refine⟨_,rfl,ae (λt2=>⟨?_,okg⟩) (λt2=>?_)⟩
   ·rw[not_eq_true']at t2;rw[<-hv];unfold iL;rw[t2];simp
   rw[not_eq_false']at t2;refine⟨_,mY _ _,_,p3.l3,ae (λt3=>⟨?_,okg⟩) (λt3=>?_)⟩
   ·have t3:=dT t3;rw[<-hv];unfold iL;rw[decide_eq_false (show ¬0<=q.t by omega)];simp
   have t3:=dF t3;refine⟨_,mY _ _,_,p3.l3,ae (λt4=>⟨?_,okg⟩) (λt4=>?_)⟩
   ·have t4:=dT t4;rw[<-hv];unfold iL;rw[decide_eq_false (show ¬q.t<n by omega)];simp
   have t4:=dF t4;refine⟨_,nI _,_,mbg.l0,_,M8 _ _,_,p3.l2,(oq M.kind q.w lq (tb.ok okg) okg.wf).mono ?_⟩;rintro _ g4 ⟨rfl,o4⟩;refine⟨_,rfl,ae (λt5=>⟨?_,okg.trans o4⟩) (λt5=>?_)⟩
   ·rw[not_eq_true']at t5;rw[<-hv];unfold iL;rw[t5];simp
   rw[not_eq_false']at t5;have hq1:iL M.kind n q=true:=by
    unfold iL;rw[t,t2,t5,decide_eq_true (show 0<=q.t by omega),decide_eq_true (show q.t<n by omega)];rfl
   rw[hq1,Bool.true_and]at hv;rw[ba (i:=j) (n:=m) (by omega) (by omega)];exact cH (mz2-1) (by omega) ⟨by omega,by omega,mbg.ok o4,okg.trans o4,(ar.ok p2).ok o4,hv⟩
  ·have g1:=dF g1;obtain rfl:m=j:=by omega
   rw[drop_eq_nil_of_le (by omega)]at hv;rw[ba hi (by omega)];exact iN (n-(i+1)) (by omega) ⟨by omega,rfl,h0,h1,mb,ok,by simpa using hv⟩)
theorem BS{h:aa}(tb:qP h)(w:Wf h){M:bA}(sm:Small M){a:Option Addr}{n c:Nat}(r:eK h (.slice a n c) M.aq):FW SS 30 [.agg ⟨dD M a n c⟩] h (λv h'=>v = .bool (dN M)/\Ok h h'):=by
 obtain⟨mb,ok⟩:=gr w r;refine KL (dD M a n c) h _ ⟨_,jJ M a n c,?_⟩;have hl:=mb.len;have hn:n<=300:=by rw[hl];exact sm.oO
 generalize h.push (Bm M a n c)=g at*;refine⟨_,bZ _,_,_,_,mb.l3,_,nI _,_,mb.l0,ae (λt1=>⟨?_,ok⟩) (λt1=>?_)⟩
 ·have t1:=dT t1;unfold dN;rw[decide_eq_false (show ¬1<=M.kind by omega)];simp
 have t1:=dF t1;refine⟨_,nI _,_,mb.l0,ae (λt2=>⟨?_,ok⟩) (λt2=>ae (λt3=>⟨?_,ok⟩) (λt3=>ae (λt4=>⟨?_,ok⟩) (λt4=>?_)))⟩
 ·have t2:=dT t2;unfold dN;rw[decide_eq_false (show ¬M.kind<=3 by omega)];simp
 ·have t3:=dT t3;unfold dN;rw[decide_eq_false (show ¬1<=M.aq.length by omega)];simp
 ·have t4:=dT t4;omega
 have t2:=dF t2;have t3:=dF t3;refine⟨_,CX _,_,mb.l1,ae (λt5=>⟨?_,ok⟩) (λt5=>?_)⟩
 ·have t5:=dT t5;unfold dN;rw[decide_eq_false (show ¬0<=M.start by omega)];simp
 have t5:=dF t5;refine⟨_,CX _,_,mb.l1,ae (λt6=>⟨?_,ok⟩) (λt6=>?_)⟩
 ·have t6:=dT t6;unfold dN;rw[decide_eq_false (show ¬M.start<M.aq.length by omega)];simp
 have t6:=dF t6;refine⟨_,nI _,_,mb.l0,_,M7 _,_,mb.l2,(oq M.kind M.lead (Nat.le_trans sm.lead (by decide)) (tb.ok ok) ok.wf).mono ?_⟩;rintro _ g2 ⟨rfl,o2⟩;have ok2:=ok.trans o2;have mb2:=mb.ok o2;refine⟨_,rfl,ae (λt7=>⟨?_,ok2⟩) (λt7=>?_)⟩
 ·rw[not_eq_true']at t7;unfold dN;rw[t7];simp
 rw[not_eq_false']at t7;have hV:dN M=oP M.kind n 0 M.aq:=by
  unfold dN;rw[t7,decide_eq_true (show 1<=M.kind by omega),decide_eq_true (show M.kind<=3 by omega),decide_eq_true (show 1<=M.aq.length by omega),decide_eq_true (show M.aq.length<=3000 by omega),decide_eq_true (show 0<=M.start by omega),decide_eq_true (show M.start<M.aq.length by omega),hl];rfl
 obtain⟨V,hVd⟩:∃V,V=oP M.kind n 0 M.aq:=⟨_,rfl⟩
 rw[hV,<-hVd];refine⟨_,bZ _,_,_,_,mb2.l3,?_⟩;refine tx (dD M a n c) h.next a n c (QS h h.next M a n c V) (bQ h V) (λmz i acc=>?_) n (i:=0) (acc:=0) ⟨by omega,rfl,by omega,by omega,mb2,ok2,hVd.symm⟩;intros;rename_i gg hi;obtain⟨f1,f2,f3,f4,mb3,ok3,f5⟩:=hi;refine ae (λq1=>?_) (λq1=>?_)
 ·have q1:=dT q1;obtain⟨s,hs⟩:∃s,M.aq[i]?=some s:=⟨_,gE (by omega)⟩
  obtain⟨b,o,x,y,z,e1,e2,e3,e4,ar⟩:=mb3.row.at_ hs;obtain⟨l1,l2,l3⟩:=lz sm hs;have hy:=ar.len;rw[cT hs]at f5;unfold oP at f5;obtain⟨u,p1,p2,p3⟩:=B6 ok3.wf s.f x y z;refine⟨_,e1,_,e2,_,J0,u,p1,?_⟩;have okg:=ok3.trans p2;have mbg:=mb3.ok p2;have arg:=ar.ok p2;generalize u.app (gg.push GU)=g3 at*;have hw:wrap .i64 (acc+(y:Int))=acc+(s.bq.length:Int):=by rw[hy,aA (by omega) (by omega)]
  refine⟨_,eo _ _,_,_,_,p3.l1,?_⟩;dsimp only;rw[hw];refine ae (λq2=>⟨?_,okg⟩) (λq2=>?_)
  ·have q2:=dT q2;rw[<-f5,decide_eq_false (show ¬acc+(s.bq.length:Int)<=30000 by omega)];simp
  have q2:=dF q2;rw[decide_eq_true (show acc+(s.bq.length:Int)<=30000 by omega),Bool.true_and]at f5;refine⟨_,uR _ _,_,p3.l0,ae (λq3=>?_) (λq3=>?_)⟩
  ·refine⟨_,nI _,_,mbg.l0,_,uR _ _,_,p3.l0,(oq M.kind s.f l2 (tb.ok okg) okg.wf).mono ?_⟩;rintro _ g4 ⟨rfl,o4⟩;have q3:(s.f==[])=false:=by simpa using q3
   rw[q3,Bool.false_or]at f5;refine⟨_,rfl,ae (λq4=>⟨?_,okg.trans o4⟩) (λq4=>?_)⟩
   ·rw[not_eq_true']at q4;rw[<-f5,q4];simp
   rw[not_eq_false']at q4;rw[q4,Bool.true_and]at f5;refine⟨_,eo _ _,_,_,_,(p3.ok o4).l1,?_⟩;exact FP w tb sm _ hs (by omega) (by omega) (by omega) [] mz f2 y (j:=0) ⟨by omega,rfl,mbg.ok o4,okg.trans o4,arg.ok o4,by rw[drop_zero];exact f5⟩
  ·have q3:(s.f==[])=true:=by simpa using q3
   rw[q3,Bool.true_or,Bool.true_and]at f5;refine⟨_,eo _ _,_,_,_,p3.l1,?_⟩;exact FP w tb sm _ hs (by omega) (by omega) (by omega) [] mz f2 y (j:=0) ⟨by omega,rfl,mbg,okg,arg,by rw[drop_zero];exact f5⟩
 ·have q1:=dF q1;refine⟨?_,ok3⟩;rw[drop_eq_nil_of_le (by omega)]at f5;rw[<-f5];rfl
end
end
section
theorem Gg(kind:Int)(h:aa):FW SS 54 [.int .i64 kind] h (λv h'=>v = .bool (decide (1<=kind)&&decide (kind<=3))/\h'=h):=by
 refine vU kind h _ (ae (λg=>⟨?_,rfl⟩) (λg=>⟨?_,rfl⟩))
 ·have g:=dT g;rw[decide_eq_true (show 1<=kind from g),Bool.true_and]
 ·have g:=dF g;rw[decide_eq_false (show ¬1<=kind from g),Bool.false_and]
section
variable {h:aa} {k:Nat} {M:bA} {a:Option Addr} {n c:Nat}
set_option linter.defProp false in
def Gp(w:Wf h)(sm:Small M)(V:Bool){s:lA}{b:Option Addr}{m d i k2:Nat}{acc:Int}(hs:M.aq[i]?=some s)(hi:i<n)(h0:0<=acc)(h1:acc<=30000)(mv:List Value)(mz:Nat)(hmz:mz=n-i):=
 tK mv k k2 (QS h k M a n c V) mz i acc (λmz2 j g=>Zj h k M a n c s b m d i acc V mz2 j g/\SB g k2 s.f b m d) (bQ h V) (by
  intro mz2 j;intros;rename_i g hin;obtain⟨⟨f1,f2,mb,ok,ar,hv⟩,sb⟩:=hin;have hn:n<=300:=by rw[mb.len];exact sm.oO
  obtain⟨l1,l2,l3⟩:=lz sm hs;have hm:=ar.len;refine⟨_,eo _ _,_,_,_,sb.l1,ae (λg1=>?_) (λg1=>?_)⟩
  ·have g1:=dT g1;obtain⟨q,hq⟩:∃q,s.bq[j]?=some q:=⟨_,gE (by omega)⟩
   obtain⟨bb,o,e1,e2,e3⟩:=ar.at_ hq;have lq:=l3 q (List.mem_of_getElem? hq);rw[cT hq,all_cons]at hv;obtain⟨u,p1,p2,p3⟩:=zu ok.wf q;refine⟨_,eo _ _,_,_,_,sb.l1,_,e1,_,e2,_,He,u,p1,?_⟩;have okg:=ok.trans p2;have mbg:=mb.ok p2;generalize u.app (g.push JO)=g2 at*;refine⟨_,je _ _,_,p3.l0,ae (λt=>⟨?_,okg⟩) (λt=>⟨_,je _ _,_,p3.l0,ae (λt2=>⟨?_,okg⟩) (λt2=>⟨_,r9 _ _,_,p3.l1,ae (λt3=>⟨?_,okg⟩) (λt3=>⟨_,r9 _ _,_,p3.l1,ae (λt4=>⟨?_,okg⟩) (λt4=>⟨_,mY _ _,_,p3.l3,ae (λt5=>⟨?_,okg⟩) (λt5=>⟨_,mY _ _,_,p3.l3,_,bZ _,_,_,_,mbg.l3,ae (λt6=>⟨?_,okg⟩) (λt6=>?_)⟩)⟩)⟩)⟩)⟩)⟩
   ·have t:=dT t;rw[<-hv];unfold iL qh;rw[decide_eq_false (show ¬0<=q.i by omega)];simp
   ·have t2:=dT t2;rw[<-hv];unfold iL qh;rw[decide_eq_false (show ¬q.i<=500 by omega)];simp
   ·have t3:=dT t3;rw[<-hv];unfold iL qh;rw[decide_eq_false (show ¬0<=q.o by omega)];simp
   ·have t4:=dT t4;rw[<-hv];unfold iL qh;rw[decide_eq_false (show ¬q.o<=500 by omega)];simp
   ·have t5:=dT t5;rw[<-hv];unfold iL;rw[decide_eq_false (show ¬0<=q.t by omega)];simp
   ·have t6:=dT t6;rw[<-hv];unfold iL;rw[decide_eq_false (show ¬q.t<n by omega)];simp
   have t:=dF t;have t2:=dF t2;have t3:=dF t3;have t4:=dF t4;have t5:=dF t5;have t6:=dF t6;refine⟨_,nI _,_,mbg.l0,_,M8 _ _,_,p3.l2,(m3 M.kind q.w lq okg.wf).mono ?_⟩;rintro _ g4 ⟨rfl,o4⟩;refine⟨_,rfl,ae (λt7=>⟨?_,okg.trans o4⟩) (λt7=>?_)⟩
   ·rw[not_eq_true']at t7;rw[<-hv];unfold iL;rw[t7];simp
   rw[not_eq_false']at t7;have hq1:iL M.kind n q=true:=by
    unfold iL qh;rw[t7,decide_eq_true (show 0<=q.i by omega),decide_eq_true (show q.i<=500 by omega),decide_eq_true (show 0<=q.o by omega),decide_eq_true (show q.o<=500 by omega),decide_eq_true (show 0<=q.t by omega),decide_eq_true (show q.t<n by omega)];rfl
   rw[hq1,Bool.true_and]at hv;rw[ba (i:=j) (n:=m) (by omega) (by omega)];exact cH (mz2-1) (by omega) ⟨⟨by omega,by omega,mbg.ok o4,okg.trans o4,(ar.ok p2).ok o4,hv⟩,(sb.ok p2).ok o4⟩
  ·have g1:=dF g1;obtain rfl:m=j:=by omega
   rw[drop_eq_nil_of_le (by omega)]at hv;rw[ba hi (by omega)];exact iN (n-(i+1)) (by omega) ⟨by omega,rfl,h0,h1,mb,ok,by simpa using hv⟩)
end
theorem vf{h:aa}(w:Wf h){M:bA}(sm:Small M){a:Option Addr}{n c:Nat}(r:eK h (.slice a n c) M.aq):FW SS 33 [.agg ⟨dD M a n c⟩] h (λv h'=>v = .bool (dN M)/\Ok h h'):=by
 obtain⟨mb,ok⟩:=gr w r;refine Lc (dD M a n c) h _ ⟨_,jJ M a n c,?_⟩;have hl:=mb.len;have hn:n<=300:=by rw[hl];exact sm.oO
 generalize h.push (Bm M a n c)=g at*;refine⟨_,nI _,_,mb.l0,(Gg _ _).mono ?_⟩;rintro _ g1 ⟨rfl,eg⟩;obtain rfl:g=g1:=eg.symm;refine⟨_,rfl,ae (λt1=>⟨?_,ok⟩) (λt1=>?_)⟩
 ·rw[not_eq_true']at t1;unfold dN;rw[t1];simp
 rw[not_eq_false',and_eq_true]at t1;have t1:1<=M.kind/\M.kind<=3:=⟨dT t1.1,dT t1.2⟩
 refine⟨_,bZ _,_,_,_,mb.l3,ae (λt3=>⟨?_,ok⟩) (λt3=>⟨_,bZ _,_,_,_,mb.l3,ae (λt4=>⟨?_,ok⟩) (λt4=>?_)⟩)⟩
 ·have t3:=dT t3;unfold dN;rw[decide_eq_false (show ¬1<=M.aq.length by omega)];simp
 ·have t4:=dT t4;omega
 have t3:=dF t3;refine⟨_,CX _,_,mb.l1,ae (λt5=>⟨?_,ok⟩) (λt5=>?_)⟩
 ·have t5:=dT t5;unfold dN;rw[decide_eq_false (show ¬0<=M.start by omega)];simp
 have t5:=dF t5;refine⟨_,CX _,_,mb.l1,_,bZ _,_,_,_,mb.l3,ae (λt6=>⟨?_,ok⟩) (λt6=>?_)⟩
 ·have t6:=dT t6;unfold dN;rw[decide_eq_false (show ¬M.start<M.aq.length by omega)];simp
 have t6:=dF t6;refine⟨_,nI _,_,mb.l0,_,M7 _,_,mb.l2,(m3 M.kind M.lead (Nat.le_trans sm.lead (by decide)) ok.wf).mono ?_⟩;rintro _ g2 ⟨rfl,o2⟩;have ok2:=ok.trans o2;have mb2:=mb.ok o2;refine⟨_,rfl,ae (λt7=>⟨?_,ok2⟩) (λt7=>?_)⟩
 ·rw[not_eq_true']at t7;unfold dN;rw[t7];simp
 rw[not_eq_false']at t7;have hV:dN M=oP M.kind n 0 M.aq:=by
  unfold dN;rw[t7,decide_eq_true (show 1<=M.kind by omega),decide_eq_true (show M.kind<=3 by omega),decide_eq_true (show 1<=M.aq.length by omega),decide_eq_true (show M.aq.length<=3000 by omega),decide_eq_true (show 0<=M.start by omega),decide_eq_true (show M.start<M.aq.length by omega),hl];rfl
 obtain⟨V,hVd⟩:∃V,V=oP M.kind n 0 M.aq:=⟨_,rfl⟩
 rw[hV,<-hVd];refine tJ (dD M a n c) h.next (QS h h.next M a n c V) (bQ h V) (λmz i acc=>?_) n (i:=0) (acc:=0) ⟨by omega,rfl,by omega,by omega,mb2,ok2,hVd.symm⟩;intros;rename_i gg hi;obtain⟨f1,f2,f3,f4,mb3,ok3,f5⟩:=hi;refine⟨_,bZ _,_,_,_,mb3.l3,ae (λq1=>?_) (λq1=>?_)⟩
 ·have q1:=dT q1;obtain⟨s,hs⟩:∃s,M.aq[i]?=some s:=⟨_,gE (by omega)⟩
  obtain⟨b,o,x,y,z,e1,e2,e3,e4,ar⟩:=mb3.row.at_ hs;obtain⟨l1,l2,l3⟩:=lz sm hs;have hy:=ar.len;rw[cT hs]at f5;unfold oP at f5;obtain⟨u,p1,p2,p3⟩:=B6 ok3.wf s.f x y z;refine⟨_,bZ _,_,_,_,mb3.l3,_,e1,_,e2,_,J0,u,p1,?_⟩;have okg:=ok3.trans p2;have mbg:=mb3.ok p2;have arg:=ar.ok p2;generalize u.app (gg.push GU)=g3 at*;have hw:wrap .i64 (acc+(y:Int))=acc+(s.bq.length:Int):=by rw[hy,aA (by omega) (by omega)]
  refine⟨_,eo _ _,_,_,_,p3.l1,?_⟩;dsimp only;rw[hw];refine ae (λq2=>⟨?_,okg⟩) (λq2=>?_)
  ·have q2:=dT q2;rw[<-f5,decide_eq_false (show ¬acc+(s.bq.length:Int)<=30000 by omega)];simp
  have q2:=dF q2;rw[decide_eq_true (show acc+(s.bq.length:Int)<=30000 by omega),Bool.true_and]at f5;refine⟨_,uR _ _,_,p3.l0,ae (λq3=>?_) (λq3=>?_)⟩
  ·refine⟨_,nI _,_,mbg.l0,_,uR _ _,_,p3.l0,(m3 M.kind s.f l2 okg.wf).mono ?_⟩;rintro _ g4 ⟨rfl,o4⟩;have q3:(s.f==[])=false:=by simpa using q3
   rw[q3,Bool.false_or]at f5;refine⟨_,rfl,ae (λq4=>⟨?_,okg.trans o4⟩) (λq4=>?_)⟩
   ·rw[not_eq_true']at q4;rw[<-f5,q4];simp
   rw[not_eq_false']at q4;rw[q4,Bool.true_and]at f5;exact Gp w sm _ hs (by omega) (by omega) (by omega) [] mz f2 y (j:=0) ⟨⟨by omega,rfl,mbg.ok o4,okg.trans o4,arg.ok o4,by rw[drop_zero];exact f5⟩,p3.ok o4⟩
  ·have q3:(s.f==[])=true:=by simpa using q3
   rw[q3,Bool.true_or,Bool.true_and]at f5;exact Gp w sm _ hs (by omega) (by omega) (by omega) [] mz f2 y (j:=0) ⟨⟨by omega,rfl,mbg,okg,arg,by rw[drop_zero];exact f5⟩,p3⟩
 ·have q1:=dF q1;refine⟨?_,ok3⟩;rw[drop_eq_nil_of_le (by omega)]at f5;rw[<-f5];rfl
end
noncomputable def Sv:FD:=dJ Tryz.f75 []
theorem Px(qv:LV)(h:aa)(Q:VH)(hx:xN (jI SS.P 34 (.agg ⟨qv⟩)) h λB1 g2=>xP (ah SS.P 34 (pA (h.next)) 0) λp3=>xI .i64 (ai SS.P 3 g2 (.pointer (some p3))) λn4=>xP (ah SS.P 34 (pA (h.next)) 1) λp5=>xI .i64 (ai SS.P 3 g2 (.pointer (some p5))) λn6=>Q (.bool (((n4:Int)==n6))) g2):FW SS 75 [(.agg ⟨qv⟩)] h Q:=dM Sv Tryz.func75 (au hx)
noncomputable def N9:FD:=dJ Tryz.f76 []
theorem K8(qv:LV)(h:aa)(Q:VH)(hx:xN (jI SS.P 34 (.agg ⟨qv⟩)) h λB1 g2=>xP (ah SS.P 34 (pA (h.next)) 0) λp3=>xI .i64 (ai SS.P 3 g2 (.pointer (some p3))) λn4=>aF (((n4:Int) !=0)) (Q (.bool true) g2) (xP (ah SS.P 34 (pA (h.next)) 1) λp5=>xI .i64 (ai SS.P 3 g2 (.pointer (some p5))) λn6=>Q (.bool (((n6:Int) !=0))) g2)):FW SS 76 [(.agg ⟨qv⟩)] h Q:=dM N9 Tryz.func76 (au hx)
noncomputable def SA:FD:=dJ Tryz.f120 []
theorem PC(qv:LV)(k:Nat)(h:aa)(Q:VH)(hx:xN (jI SS.P 34 (.agg ⟨qv⟩)) h λB1 g2=>xF (ai SS.P 100 g2 (pA k)) λg3 a4 c5=>xA (ai SS.P 34 g2 (pA (h.next))) λc6=>aF (Nat.blt g3 YB) (FW SS g3 (a4++[(.agg ⟨c6⟩)]++c5) g2 λv7 h8=>yB v7 λb9=>Q (.bool (!b9)) h8) False):FW SS 120 [(.agg ⟨qv⟩),(pA k)] h Q:=dM SA Tryz.func120 (au hx)
noncomputable def jP:FD:=dJ Tryz.f153 [([1,0,1,0,0],[0,1,7,8])]
abbrev kD(b:OA)(m d k:Nat)(j:Nat):LV:=[(.slice b m d),(.func (.func 120) ⟨[]⟩ ⟨[(pA k)]⟩),(iA m),(iA j)]
theorem HP(b:OA)(m d k:Nat)(h:aa)(Q:VH)(hx:LL SS jP [1,0,1,0,0] [(.slice b m d),(.func (.func 120) ⟨[]⟩ ⟨[(pA k)]⟩),(iA m),(.int .i64 0)] h (KK SS jP [1,0,1,0] [] (EE SS jP Q))):FW SS 153 [(.slice b m d),(.func (.func 120) ⟨[]⟩ ⟨[(pA k)]⟩)] h Q:=dM jP Tryz.func153 (au hx)
theorem sa(b:OA)(m d k:Nat)  (Inv:Nat->Nat->aa->Prop) (Q:VH) (step:∀(mz:Nat)(j:Nat)(zz:Nat->Value)(h:aa),Inv mz j h->aF (decide (((j:Int):Int)<(m:Int))) (xP (af SS.P 36 (.slice b m d) (iA j)) λp1=>xA (ai SS.P 34 h (.pointer (some p1))) λc2=>FW SS 120 [(.agg ⟨c2⟩),(pA k)] h λv3 h4=>yB v3 λb5=>aF b5 (Q (iA j) h4) (aH (iR (kD b m d k) Inv) mz [(.slice b m d),(.func (.func 120) ⟨[]⟩ ⟨[(pA k)]⟩),(iA m),(.int .i64 (wrap .i64 ((j:Int)+1)))] h4)) (Q (.int .i64 (-1)) h)) (mz:Nat) {j:Nat} {h:aa} (hi:Inv mz j h):LL SS jP [1,0,1,0,0] (kD b m d k j) h (KK SS jP [1,0,1,0] [] (EE SS jP Q)):=
 dK (kD b m d k) Inv (λmz j zz h hi=>au (step mz j zz h hi)) mz hi
noncomputable def Kg:FD:=dJ Tryz.f119 []
theorem Hu(b:OA)(m d k:Nat)(h:aa)(Q:VH)(hx:FW SS 153 [(.slice b m d),(.func (.func 120) ⟨[]⟩ ⟨[(pA k)]⟩)] h λv1 h2=>yI .i64 v1 λn3=>Q (.bool (decide ((n3:Int)>=0))) h2):FW SS 119 [(.slice b m d),(.func (.func 120) ⟨[]⟩ ⟨[(pA k)]⟩)] h Q:=dM Kg Tryz.func119 (au hx)
noncomputable def sf:FD:=dJ Tryz.f74 [([1,1,0,1,0,0],[2,3,4,11,12,13])]
abbrev kW(k k2:Nat)(a:OA)(n c:Nat)(i:Nat):LV:=[(pA k),(pA k2),(.bool false),(.slice a n c),(iA n),(iA i)]
theorem QL(mv:LV)(f:Nat)(h:aa)(Q:VH)(hx:xN (jI SS.P 24 (.agg ⟨mv⟩)) h λB1 g2=>xN (jI SS.P 100 (.func (.func f) ⟨[]⟩ ⟨[]⟩)) g2 λB3 g4=>xA (ai SS.P 24 g4 (pA (h.next))) λc5=>FW SS 30 [(.agg ⟨c5⟩)] g4 λv6 h7=>yB v6 λb8=>aF (!b8) (Q (.bool false) h7) (xP (ah SS.P 24 (pA (h.next)) 3) λp9=>xL (ai SS.P 22 h7 (.pointer (some p9))) λa10 n11 ck=>LL SS sf [1,1,0,1,0,0] (kW (h.next) (g2.next) a10 n11 ck 0) h7 (KK SS sf [1,1,0,1,0] [] (EE SS sf Q)))):FW SS 74 [(.agg ⟨mv⟩),(.func (.func f) ⟨[]⟩ ⟨[]⟩)] h Q:=dM sf Tryz.func74 (au hx)
theorem wK(mv:LV)(f:Nat)(k k2:Nat)(a:OA)(n c:Nat)(Inv:Nat->Nat->aa->Prop)(Q:VH)(step:∀(mz:Nat) (i:Nat) (zz:Nat->Value) (h:aa),Inv mz i h->aF (decide (((i:Int):Int)<(n:Int))) (xP (af SS.P 22 (.slice a n c) (iA i)) λp13=>xA (ai SS.P 38 h (.pointer (some p13))) λcm=>xN (cq SS.P 38) h λB15 g16=>xU (aw SS.P 38 (pA (h.next)) (.agg ⟨cm⟩) g16) g16 λu17 g18=>xP (ah SS.P 38 (pA (h.next)) 1) λp19=>xL (ai SS.P 36 g18 (.pointer (some p19))) λa20 n21 c22=>FW SS 119 [(.slice a20 n21 c22),(.func (.func 120) ⟨[]⟩ ⟨[(pA k2)]⟩)] g18 λv23 h24=>yB v23 λb25=>aF b25 (Q (.bool false) h24) (aH (iR (kW k k2 a n c) Inv) mz [(pA k),(pA k2),(.bool false),(.slice a n c),(iA n),(.int .i64 (wrap .i64 ((i:Int)+1)))] h24)) (Q (.bool true) h))(mz:Nat){i:Nat}{h:aa}(hi:Inv mz i h):LL SS sf [1,1,0,1,0,0] (kW k k2 a n c i) h (KK SS sf [1,1,0,1,0] [] (EE SS sf Q)):=
 dK (kW k k2 a n c) Inv (λmz i zz h hi=>au (step mz i zz h hi)) mz hi
noncomputable def S7:FD:=dJ Tryz.f52 []
theorem QJ(mv:LV)(h:aa)(Q:VH)(hx:xN (jI SS.P 24 (.agg ⟨mv⟩)) h λB1 g2=>xA (ai SS.P 24 g2 (pA (h.next))) λc3=>FW SS 74 [(.agg ⟨c3⟩),(.func (.func 75) ⟨[]⟩ ⟨[]⟩)] g2 λv4 h5=>yB v4 λb6=>Q (.bool b6) h5):FW SS 52 [(.agg ⟨mv⟩)] h Q:=dM S7 Tryz.func52 (au hx)
noncomputable def NG:FD:=dJ Tryz.f53 []
theorem KI(mv:LV)(h:aa)(Q:VH)(hx:xN (jI SS.P 24 (.agg ⟨mv⟩)) h λB1 g2=>xA (ai SS.P 24 g2 (pA (h.next))) λc3=>FW SS 74 [(.agg ⟨c3⟩),(.func (.func 76) ⟨[]⟩ ⟨[]⟩)] g2 λv4 h5=>yB v4 λb6=>Q (.bool b6) h5):FW SS 53 [(.agg ⟨mv⟩)] h Q:=dM NG Tryz.func53 (au hx)
noncomputable def gZ:FD:=dJ Tryz.f56 [([1,1,0,1,0,0],[1,2,3]),([1,1,0,1,0,0,1,0,0,1,0,0],[1,2,3,4])]
abbrev iC(k:Nat)(i:Nat):LV:=[(pA k),(.bool false),(iA i)]
abbrev k6(k i:Nat)(j:Nat):LV:=[(pA k),(.bool false),(iA i),(iA j)]
theorem Q6(mv:LV)(h:aa)(Q:VH)(hx:xN (jI SS.P 24 (.agg ⟨mv⟩)) h λB1 g2=>xA (ai SS.P 24 g2 (pA (h.next))) λc3=>FW SS 33 [(.agg ⟨c3⟩)] g2 λv4 h5=>yB v4 λb6=>aF (!b6) (Q (.bool false) h5) (LL SS gZ [1,1,0,1,0,0] (iC (h.next) 0) h5 (KK SS gZ [1,1,0,1,0] [] (EE SS gZ Q)))):FW SS 56 [(.agg ⟨mv⟩)] h Q:=dM gZ Tryz.func56 (au hx)
theorem wS(mv:LV)(k:Nat)(Inv:Nat->Nat->aa->Prop)(Q:VH)(step:∀(mz:Nat) (i:Nat) (zz:Nat->Value) (h:aa),Inv mz i h->xP (ah SS.P 24 (pA k) 3) λp7=>xL (ai SS.P 22 h (.pointer (some p7))) λa8 n9 cp=>aF (decide (((i:Int):Int)<(n9:Int))) (LL SS gZ [1,1,0,1,0,0,1,0,0,1,0,0] (k6 k i 0) h (KK SS gZ [1,0,0,1,0] [1,1,0,1,0,0] (RR gZ [1,1,0,1,0,0] (iR (iC k) Inv) mz (KK SS gZ [1,1,0,1,0] [] (EE SS gZ Q))))) (Q (.bool true) h))(mz:Nat){i:Nat}{h:aa}(hi:Inv mz i h):LL SS gZ [1,1,0,1,0,0] (iC k i) h (KK SS gZ [1,1,0,1,0] [] (EE SS gZ Q)):=
 dK (iC k) Inv (λmz i zz h hi=>au (step mz i zz h hi)) mz hi
theorem wT(mv:LV)(k:Nat)(Inv:Nat->Nat->aa->Prop)(mz i:Nat)(Inv2:Nat->Nat->aa->Prop)(Q:VH)(step:∀(mz2:Nat) (j:Nat) (zz:Nat->Value) (h:aa),Inv2 mz2 j h->xP (ah SS.P 24 (pA k) 3) λp11=>xL (ai SS.P 22 h (.pointer (some p11))) λa12 n13 cm=>xP (af SS.P 22 (.slice a12 n13 cm) (iA i)) λp15=>xP (ah SS.P 38 (.pointer (some p15)) 1) λp16=>xL (ai SS.P 36 h (.pointer (some p16))) λa17 n18 c19=>aF (decide (((j:Int):Int)<(n18:Int))) (xP (ah SS.P 24 (pA k) 3) λp20=>xL (ai SS.P 22 (room h 21) (.pointer (some p20))) λa21 n22 c23=>xP (af SS.P 22 (.slice a21 n22 c23) (iA i)) λp24=>xP (ah SS.P 38 (.pointer (some p24)) 1) λp25=>xL (ai SS.P 36 (room h 21) (.pointer (some p25))) λa26 n27 c28=>xP (af SS.P 36 (.slice a26 n27 c28) (iA j)) λp29=>xP (ah SS.P 34 (.pointer (some p29)) 0) λp30=>xI .i64 (ai SS.P 3 (room h 21) (.pointer (some p30))) λn31=>xP (ah SS.P 24 (pA k) 3) λp32=>xL (ai SS.P 22 (room h 21) (.pointer (some p32))) λa33 n34 c35=>xP (af SS.P 22 (.slice a33 n34 c35) (iA i)) λp36=>xP (ah SS.P 38 (.pointer (some p36)) 1) λp37=>xL (ai SS.P 36 (room h 21) (.pointer (some p37))) λa38 n39 c40=>xP (af SS.P 36 (.slice a38 n39 c40) (iA j)) λp41=>xP (ah SS.P 34 (.pointer (some p41)) 1) λp42=>xI .i64 (ai SS.P 3 (room h 21) (.pointer (some p42))) λn43=>aF (((n31:Int) !=n43)) (Q (.bool false) (room h 21)) (aH (iR (k6 k i) Inv2) mz2 [(pA k),(.bool false),(iA i),(.int .i64 (wrap .i64 ((j:Int)+1)))] (room h 21))) (aH (iR (iC k) Inv) mz [(pA k),(.bool false),(.int .i64 (wrap .i64 ((i:Int)+1)))] h))(mz2:Nat){j:Nat}{h:aa}(hi:Inv2 mz2 j h):LL SS gZ [1,1,0,1,0,0,1,0,0,1,0,0] (k6 k i j) h (KK SS gZ [1,0,0,1,0] [1,1,0,1,0,0] (RR gZ [1,1,0,1,0,0] (iR (iC k) Inv) mz (KK SS gZ [1,1,0,1,0] [] (EE SS gZ Q)))):=
 dK (k6 k i) Inv2 (λmz2 j zz h hi=>au (step mz2 j zz h hi)) mz2 hi
noncomputable def dB:FD:=dJ Tryz.f57 [([1,1,0,1,0,0],[1,2,3]),([1,1,0,1,0,0,1,0,0,1,0,0],[1,2,3,4])]
abbrev fh(k:Nat)(i:Nat):LV:=[(pA k),(.bool false),(iA i)]
abbrev hH(k i:Nat)(j:Nat):LV:=[(pA k),(.bool false),(iA i),(iA j)]
theorem La(mv:LV)(h:aa)(Q:VH)(hx:xN (jI SS.P 24 (.agg ⟨mv⟩)) h λB1 g2=>xA (ai SS.P 24 g2 (pA (h.next))) λc3=>FW SS 33 [(.agg ⟨c3⟩)] g2 λv4 h5=>yB v4 λb6=>aF (!b6) (Q (.bool false) h5) (LL SS dB [1,1,0,1,0,0] (fh (h.next) 0) h5 (KK SS dB [1,1,0,1,0] [] (EE SS dB Q)))):FW SS 57 [(.agg ⟨mv⟩)] h Q:=dM dB Tryz.func57 (au hx)
theorem tH(mv:LV)(k:Nat)(Inv:Nat->Nat->aa->Prop)(Q:VH)(step:∀(mz:Nat) (i:Nat) (zz:Nat->Value) (h:aa),Inv mz i h->xP (ah SS.P 24 (pA k) 3) λp7=>xL (ai SS.P 22 h (.pointer (some p7))) λa8 n9 cp=>aF (decide (((i:Int):Int)<(n9:Int))) (LL SS dB [1,1,0,1,0,0,1,0,0,1,0,0] (hH k i 0) h (KK SS dB [1,0,0,1,0] [1,1,0,1,0,0] (RR dB [1,1,0,1,0,0] (iR (fh k) Inv) mz (KK SS dB [1,1,0,1,0] [] (EE SS dB Q))))) (Q (.bool true) h))(mz:Nat){i:Nat}{h:aa}(hi:Inv mz i h):LL SS dB [1,1,0,1,0,0] (fh k i) h (KK SS dB [1,1,0,1,0] [] (EE SS dB Q)):=
 dK (fh k) Inv (λmz i zz h hi=>au (step mz i zz h hi)) mz hi
theorem tI(mv:LV)(k:Nat)(Inv:Nat->Nat->aa->Prop)(mz i:Nat)(Inv2:Nat->Nat->aa->Prop)(Q:VH)(step:∀(mz2:Nat) (j:Nat) (zz:Nat->Value) (h:aa),Inv2 mz2 j h->xP (ah SS.P 24 (pA k) 3) λp11=>xL (ai SS.P 22 h (.pointer (some p11))) λa12 n13 cm=>xP (af SS.P 22 (.slice a12 n13 cm) (iA i)) λp15=>xP (ah SS.P 38 (.pointer (some p15)) 1) λp16=>xL (ai SS.P 36 h (.pointer (some p16))) λa17 n18 c19=>aF (decide (((j:Int):Int)<(n18:Int))) (xP (ah SS.P 24 (pA k) 3) λp20=>xL (ai SS.P 22 h (.pointer (some p20))) λa21 n22 c23=>xP (af SS.P 22 (.slice a21 n22 c23) (iA i)) λp24=>xP (ah SS.P 38 (.pointer (some p24)) 1) λp25=>xL (ai SS.P 36 h (.pointer (some p25))) λa26 n27 c28=>xP (af SS.P 36 (.slice a26 n27 c28) (iA j)) λp29=>xP (ah SS.P 34 (.pointer (some p29)) 0) λp30=>xI .i64 (ai SS.P 3 h (.pointer (some p30))) λn31=>aF (((n31:Int)==0)) (xP (ah SS.P 24 (pA k) 3) λp32=>xL (ai SS.P 22 h (.pointer (some p32))) λa33 n34 c35=>xP (af SS.P 22 (.slice a33 n34 c35) (iA i)) λp36=>xP (ah SS.P 38 (.pointer (some p36)) 1) λp37=>xL (ai SS.P 36 h (.pointer (some p37))) λa38 n39 c40=>xP (af SS.P 36 (.slice a38 n39 c40) (iA j)) λp41=>xP (ah SS.P 34 (.pointer (some p41)) 1) λp42=>xI .i64 (ai SS.P 3 h (.pointer (some p42))) λn43=>aF (((n43:Int)==0)) (Q (.bool false) h) (aH (iR (hH k i) Inv2) mz2 [(pA k),(.bool false),(iA i),(.int .i64 (wrap .i64 ((j:Int)+1)))] h)) (aH (iR (hH k i) Inv2) mz2 [(pA k),(.bool false),(iA i),(.int .i64 (wrap .i64 ((j:Int)+1)))] h)) (aH (iR (fh k) Inv) mz [(pA k),(.bool false),(.int .i64 (wrap .i64 ((i:Int)+1)))] h))(mz2:Nat){j:Nat}{h:aa}(hi:Inv2 mz2 j h):LL SS dB [1,1,0,1,0,0,1,0,0,1,0,0] (hH k i j) h (KK SS dB [1,0,0,1,0] [1,1,0,1,0,0] (RR dB [1,1,0,1,0,0] (iR (fh k) Inv) mz (KK SS dB [1,1,0,1,0] [] (EE SS dB Q)))):=
 dK (hH k i) Inv2 (λmz2 j zz h hi=>au (step mz2 j zz h hi)) mz2 hi
section
def ye(t:dO->Bool)(l:List lA):Bool:=l.all λs=>s.bq.all t
def yb(q:dO):Bool:=q.i==q.o
def jf(q:dO):Bool:=q.i !=0||q.o !=0
def Hd(f:Nat)(t:dO->Bool):Prop:=∀(q:dO)(g:aa),Wf g->FW SS f [.agg ⟨kj q⟩] g (λv g'=>v = .bool (t q)/\Ok g g')
def Bq(q:dO):bO:= .cells (kj q) 34 0 true
theorem Mu(q:dO):jI SS.P 34 (.agg ⟨kj q⟩)=some (Bq q,nV):=by kernel_rfl
theorem Py:Hd 75 yb:=λq g w=>by
 have b:AB (g.push (Bq q)) g.next q:=bF g _;exact Px _ g _ ⟨_,Mu q,_,je _ _,_,b.l0,_,r9 _ _,_,b.l1,rfl,(Ok.refl w).push _⟩
theorem K9:Hd 76 jf:=λq g w=>by
 have b:AB (g.push (Bq q)) g.next q:=bF g _;refine K8 _ g _ ⟨_,Mu q,_,je _ _,_,b.l0,ae (λt=>⟨?_,(Ok.refl w).push _⟩) (λt=>⟨_,r9 _ _,_,b.l1,?_,(Ok.refl w).push _⟩)⟩
 ·unfold jf;rw[t];rfl
 ·unfold jf;rw[t];rfl
noncomputable def Xk:TypeDesc:=(SS.P.underlying 44).getD .bool
theorem YT:SS.P.underlying 44=some Xk:=by kernel_rfl
theorem XN:Go.Ab.isAgg SS.P 100=false:=by kernel_rfl
def RV(g:aa)(k f:Nat):Prop:=g.get k=some (.cells [Aj f] 100 0 true)
theorem RV.ok{g g':aa}{k f:Nat}(x:RV g k f)(o:Ok g g'):RV g' k f:=o.ext _ _ x
section
variable {f:Nat} {t:dO->Bool} (hf:Nat.blt f YB=true) (ht:Hd f t)
include hf ht
theorem PD(q:dO){k:Nat}{g:aa}(w:Wf g)(b:RV g k f):FW SS 120 [.agg ⟨kj q⟩,.pointer (some ⟨k,0,none⟩)] g (λv g'=>v = .bool (!t q)/\Ok g g'):=by
 have o:=(Ok.refl w).push (Bq q);have hk:=bF g (Bq q);refine PC _ k g _ ⟨_,Mu q,f,[],[],gG YT XN (b.ok o) (by simp),_,zd UD Sw GF hk (by simp[kj]),?_⟩;refine By (K:=λv g'=>(match v with|.bool x=>Value.bool (!x) = .bool (!t q)|_=>False)/\Ok g g') hf ((ht q _ o.wf).mono ?_);rintro _ g2 ⟨rfl,o2⟩;exact⟨_,rfl,rfl,o.trans o2⟩
theorem HQ{k:Nat}{g:aa}(w:Wf g)(bx:RV g k f){b:Option Addr}{m d:Nat}{l:List dO}(ar:gi g (.slice b m d) l)(hl:l.length<=2000):
  FW SS 153 [.slice b m d,.func (.func 120) ⟨[]⟩ ⟨[.pointer (some ⟨k,0,none⟩)]⟩] g (λv g'=>∃n:Int,v = .int .i64 n/\decide (n>=0)=(!l.all t)/\Ok g g'):=by
 have hm:=ar.len;refine HP b m d k g _ (sa b m d k (λmz j g'=>j<=m/\mz=m-j/\Ok g g'/\(l.drop j).all t=l.all t) _ (λmz j=>?_) m (j:=0) ⟨by omega,rfl,Ok.refl w,rfl⟩);intros;rename_i g' hi;obtain⟨h1,h2,ok,h3⟩:=hi;refine ae (λq1=>?_) (λq1=>?_)
 ·have q1:=dT q1;obtain⟨q,hq⟩:∃q,l[j]?=some q:=⟨_,gE (by omega)⟩
  obtain⟨bb,o,e1,e2,e3⟩:=(ar.ok ok).at_ hq;rw[cT hq,all_cons]at h3;refine⟨_,e1,_,e2,(PD hf ht q ok.wf (bx.ok ok)).mono ?_⟩;rintro _ g2 ⟨rfl,o2⟩;refine⟨_,rfl,ae (λt1=>⟨_,rfl,?_,ok.trans o2⟩) (λt1=>?_)⟩
  ·rw[not_eq_true']at t1;rw[<-h3,t1];simp
  ·rw[not_eq_false']at t1;rw[t1,Bool.true_and]at h3;rw[ba (i:=j) (n:=m) (by omega) (by omega)];exact cH (mz-1) (by omega) ⟨by omega,by omega,ok.trans o2,h3⟩
 ·have q1:=dF q1;refine⟨_,rfl,?_,ok⟩;rw[drop_eq_nil_of_le (by omega)]at h3;rw[<-h3];rfl
theorem Hv{k:Nat}{g:aa}(w:Wf g)(bx:RV g k f){b:Option Addr}{m d:Nat}{l:List dO}(ar:gi g (.slice b m d) l)(hl:l.length<=2000):
  FW SS 119 [.slice b m d,.func (.func 120) ⟨[]⟩ ⟨[.pointer (some ⟨k,0,none⟩)]⟩] g (λv g'=>v = .bool (!l.all t)/\Ok g g'):=by
 refine Hu b m d k g _ ((HQ hf ht w bx ar hl).mono ?_);rintro _ g2 ⟨n,rfl,h1,o⟩;exact⟨_,rfl,by rw[h1],o⟩
theorem Jt{h:aa}(tb:qP h)(w:Wf h){M:bA}(sm:Small M){a:Option Addr}{n c:Nat}(r:eK h (.slice a n c) M.aq):FW SS 74 [.agg ⟨dD M a n c⟩,Aj f] h (λv h'=>v = .bool (dN M&&ye t M.aq)/\Ok h h'):=by
 obtain⟨mb0,ok0⟩:=gr w r;refine QL (dD M a n c) f h _ ⟨_,jJ M a n c,.cells [Aj f] 100 0 true,by kernel_rfl,?_⟩;generalize h.push (Bm M a n c)=g0 at*;have o1:=(Ok.refl ok0.wf).push (.cells [Aj f] 100 0 true);have bx:RV (g0.push (.cells [Aj f] 100 0 true)) g0.next f:=bF g0 _;have mb:=mb0.ok o1;have ok:=ok0.trans o1;generalize g0.push (.cells [Aj f] 100 0 true)=g at*;refine⟨_,mb.all,(BS (tb.ok ok) ok.wf sm mb.row).mono ?_⟩;rintro _ g2 ⟨rfl,o2⟩;have ok2:=ok.trans o2;have mb2:=mb.ok o2;have bx2:=bx.ok o2;have hn:n<=300:=by rw[mb.len];exact sm.oO
 refine⟨_,rfl,ae (λq=>⟨?_,ok2⟩) (λq=>?_)⟩
 ·rw[not_eq_true']at q;rw[q];rfl
 rw[not_eq_false']at q;rw[q,Bool.true_and];refine⟨_,bZ _,_,_,_,mb2.l3,?_⟩;obtain⟨V,hV⟩:∃V,V=ye t M.aq:=⟨_,rfl⟩
 rw[<-hV];refine wK (dD M a n c) f h.next g0.next a n c (λmz i g'=>i<=n/\mz=n-i/\MB g' h.next M a n c/\RV g' g0.next f/\Ok h g'/\ye t (M.aq.drop i)=V) (bQ h V) (λmz i=>?_) n (i:=0) ⟨by omega,rfl,mb2,bx2,ok2,hV.symm⟩;intros;rename_i gg hi;obtain⟨f1,f2,mb3,bx3,ok3,f5⟩:=hi;have hl:=mb3.len;refine ae (λq1=>?_) (λq1=>?_)
 ·have q1:=dT q1;obtain⟨s,hs⟩:∃s,M.aq[i]?=some s:=⟨_,gE (by omega)⟩
  obtain⟨b,o,x,y,z,e1,e2,e3,e4,ar⟩:=mb3.row.at_ hs;obtain⟨l1,l2,l3⟩:=lz sm hs;rw[cT hs]at f5;unfold ye at f5;rw[all_cons]at f5;obtain⟨u,p1,p2,p3⟩:=B6 ok3.wf s.f x y z;refine⟨_,e1,_,e2,_,J0,u,p1,_,eo _ _,_,_,_,p3.l1,?_⟩;have okg:=ok3.trans p2;refine(Hv hf ht okg.wf (bx3.ok p2) (ar.ok p2) l1).mono ?_;rintro _ g4 ⟨rfl,o4⟩;refine⟨_,rfl,ae (λq2=>⟨?_,okg.trans o4⟩) (λq2=>?_)⟩
  ·rw[not_eq_true']at q2;rw[<-f5,q2];rfl
  ·rw[not_eq_false']at q2;rw[q2,Bool.true_and]at f5;rw[ba (i:=i) (n:=n) (by omega) (by omega)];exact cH (mz-1) (by omega) ⟨by omega,by omega,(mb3.ok p2).ok o4,(bx3.ok p2).ok o4,okg.trans o4,f5⟩
 ·have q1:=dF q1;refine⟨?_,ok3⟩;rw[drop_eq_nil_of_le (by omega)]at f5;rw[<-f5];rfl
end
def EA(M:bA):Bool:=dN M&&ye yb M.aq
def sr(M:bA):Bool:=dN M&&ye jf M.aq
theorem QK{h:aa}(tb:qP h)(w:Wf h){M:bA}(sm:Small M){a:Option Addr}{n c:Nat}(r:eK h (.slice a n c) M.aq):FW SS 52 [.agg ⟨dD M a n c⟩] h (λv h'=>v = .bool (EA M)/\Ok h h'):=by
 obtain⟨mb,ok⟩:=gr w r;refine QJ _ h _ ⟨_,jJ M a n c,_,mb.all,(Jt (by decide +kernel) Py (tb.ok ok) ok.wf sm mb.row).mono ?_⟩;rintro _ g ⟨rfl,o⟩;exact⟨_,rfl,rfl,ok.trans o⟩
theorem KJ{h:aa}(tb:qP h)(w:Wf h){M:bA}(sm:Small M){a:Option Addr}{n c:Nat}(r:eK h (.slice a n c) M.aq):FW SS 53 [.agg ⟨dD M a n c⟩] h (λv h'=>v = .bool (sr M)/\Ok h h'):=by
 obtain⟨mb,ok⟩:=gr w r;refine KI _ h _ ⟨_,jJ M a n c,_,mb.all,(Jt (by decide +kernel) K9 (tb.ok ok) ok.wf sm mb.row).mono ?_⟩;rintro _ g ⟨rfl,o⟩;exact⟨_,rfl,rfl,ok.trans o⟩
end
section
section
variable {h:aa} {k:Nat} {M:bA} {a:Option Addr} {n c:Nat}
def iQ(h:aa)(V:Int):VH:=λv h'=>v = .int .i64 V/\Ok h h'
def RG(t:dO->Bool)(h:aa)(k:Nat)(M:bA)(a:Option Addr)(n c:Nat)(V:Bool)(mz i:Nat)(g:aa):Prop:=i<=n/\mz=n-i/\MB g k M a n c/\Ok h g/\ye t (M.aq.drop i)=V
def Zu(t:dO->Bool)(h:aa)(k:Nat)(M:bA)(a:Option Addr)(n c:Nat)(s:lA)(i:Nat)(V:Bool)(mz2 j:Nat)(g:aa):Prop:=j<=s.bq.length/\mz2=s.bq.length-j/\MB g k M a n c/\Ok h g/\((s.bq.drop j).all t&&ye t (M.aq.drop (i+1)))=V
set_option linter.defProp false in
def Og(w:Wf h)(sm:Small M)(V:Bool){s:lA}{i:Nat}(hs:M.aq[i]?=some s)(hi:i<n)(mv:List Value)(mz:Nat)(hmz:mz=n-i):=
 wT mv k (RG yb h k M a n c V) mz i (Zu yb h k M a n c s i V) (bQ h V) (by
  intro mz2 j;intros;rename_i g hin;obtain⟨f1,f2,mb,ok,hv⟩:=hin;have hn:n<=300:=by rw[mb.len];exact sm.oO
  obtain⟨l1,l2,l3⟩:=lz sm hs;obtain⟨b,o,x',y,z,e1,e2,e3,e4,ar⟩:=mb.row.at_ hs;have hm:=ar.len;refine⟨_,bZ _,_,_,_,mb.l3,_,e1,_,eo _ _,_,_,_,e4,ae (λg1=>?_) (λg1=>?_)⟩
  ·have g1:=dT g1;obtain⟨q,hq⟩:∃q,s.bq[j]?=some q:=⟨_,gE (by omega)⟩
   have or:=(Ok.refl ok.wf).room 21;have mb':=mb.ok or;obtain⟨b,o,x',y,z,e1,e2,e3,e4,ar⟩:=mb'.row.at_ hs;obtain⟨bb,oo,d1,d2,d3,d4,d5,d6⟩:=ar.at_ hq;rw[cT hq,all_cons]at hv;refine⟨_,bZ _,_,_,_,mb'.l3,_,e1,_,eo _ _,_,_,_,e4,_,d1,_,je _ _,_,d3,_,bZ _,_,_,_,mb'.l3,_,e1,_,eo _ _,_,_,_,e4,_,d1,_,r9 _ _,_,d4,ae (λg2=>⟨?_,ok.trans or⟩) (λg2=>?_)⟩
   ·have g2:¬q.i=q.o:=by simpa using g2
    rw[<-hv,show yb q=false by unfold yb;simpa using g2];rfl
   ·have g2:q.i=q.o:=by simpa using g2
    rw[show yb q=true by unfold yb;simpa using g2,Bool.true_and]at hv;rw[ba (i:=j) (n:=s.bq.length) (by omega) (by omega)];exact cH (mz2-1) (by omega) ⟨by omega,by omega,mb',ok.trans or,hv⟩
  ·have g1:=dF g1;rw[drop_eq_nil_of_le (by omega)]at hv;rw[ba hi (by omega)];exact cH (n-(i+1)) (by omega) ⟨by omega,rfl,mb,ok,by simpa using hv⟩)
theorem Q7{h:aa}(w:Wf h){M:bA}(sm:Small M){a:Option Addr}{n c:Nat}(r:eK h (.slice a n c) M.aq):FW SS 56 [.agg ⟨dD M a n c⟩] h (λv h'=>v = .bool (EA M)/\Ok h h'):=by
 obtain⟨mb,ok⟩:=gr w r;refine Q6 (dD M a n c) h _ ⟨_,jJ M a n c,_,mb.all,(vf ok.wf sm mb.row).mono ?_⟩;generalize h.push (Bm M a n c)=g at*;rintro _ g2 ⟨rfl,o2⟩;have ok2:=ok.trans o2;have mb2:=mb.ok o2;have hn:n<=300:=by rw[mb.len];exact sm.oO
 refine⟨_,rfl,ae (λq=>⟨?_,ok2⟩) (λq=>?_)⟩
 ·rw[not_eq_true']at q;unfold EA;rw[q];rfl
 rw[not_eq_false']at q;obtain⟨V,hV⟩:∃V,V=ye yb M.aq:=⟨_,rfl⟩
 have:EA M=V:=by unfold EA;rw[q,hV];rfl
 rw[this];refine wS (dD M a n c) h.next (RG yb h h.next M a n c V) (bQ h V) (λmz i=>?_) n (i:=0) ⟨by omega,rfl,mb2,ok2,hV.symm⟩;intros;rename_i gg hi;obtain⟨f1,f2,mb3,ok3,f5⟩:=hi;have hl:=mb3.len;refine⟨_,bZ _,_,_,_,mb3.l3,ae (λq1=>?_) (λq1=>?_)⟩
 ·have q1:=dT q1;obtain⟨s,hs⟩:∃s,M.aq[i]?=some s:=⟨_,gE (by omega)⟩
  rw[cT hs]at f5;exact Og w sm V hs (by omega) [] mz f2 s.bq.length (j:=0) ⟨by omega,by omega,mb3,ok3,by rw[drop_zero];exact f5⟩
 ·have q1:=dF q1;rw[drop_eq_nil_of_le (by omega)]at f5;exact⟨by rw[<-f5];rfl,ok3⟩
set_option linter.defProp false in
def OB(w:Wf h)(sm:Small M)(V:Bool){s:lA}{i:Nat}(hs:M.aq[i]?=some s)(hi:i<n)(mv:List Value)(mz:Nat)(hmz:mz=n-i):=
 tI mv k (RG jf h k M a n c V) mz i (Zu jf h k M a n c s i V) (bQ h V) (by
  intro mz2 j;intros;rename_i g hin;obtain⟨f1,f2,mb,ok,hv⟩:=hin;have hn:n<=300:=by rw[mb.len];exact sm.oO
  obtain⟨l1,l2,l3⟩:=lz sm hs;obtain⟨b,o,x',y,z,e1,e2,e3,e4,ar⟩:=mb.row.at_ hs;have hm:=ar.len;refine⟨_,bZ _,_,_,_,mb.l3,_,e1,_,eo _ _,_,_,_,e4,ae (λg1=>?_) (λg1=>?_)⟩
  ·have g1:=dT g1;obtain⟨q,hq⟩:∃q,s.bq[j]?=some q:=⟨_,gE (by omega)⟩
   obtain⟨bb,oo,d1,d2,d3,d4,d5,d6⟩:=ar.at_ hq;rw[cT hq,all_cons]at hv;have hw:=ba (i:=j) (n:=s.bq.length) (by omega) (by omega);refine⟨_,bZ _,_,_,_,mb.l3,_,e1,_,eo _ _,_,_,_,e4,_,d1,_,je _ _,_,d3,ae (λg2=>⟨_,bZ _,_,_,_,mb.l3,_,e1,_,eo _ _,_,_,_,e4,_,d1,_,r9 _ _,_,d4,ae (λg3=>⟨?_,ok⟩) (λg3=>?_)⟩) (λg2=>?_)⟩
   ·have g2:q.i=0:=by simpa using g2
    have g3:q.o=0:=by simpa using g3
    rw[<-hv,show jf q=false by unfold jf;rw[g2,g3];rfl];rfl
   ·have g3:¬q.o=0:=by simpa using g3
    rw[show jf q=true by unfold jf;simp[g3],Bool.true_and]at hv;rw[hw];exact cH (mz2-1) (by omega) ⟨by omega,by omega,mb,ok,hv⟩
   ·have g2:¬q.i=0:=by simpa using g2
    rw[show jf q=true by unfold jf;simp[g2],Bool.true_and]at hv;rw[hw];exact cH (mz2-1) (by omega) ⟨by omega,by omega,mb,ok,hv⟩
  ·have g1:=dF g1;rw[drop_eq_nil_of_le (by omega)]at hv;rw[ba hi (by omega)];exact cH (n-(i+1)) (by omega) ⟨by omega,rfl,mb,ok,by simpa using hv⟩)
theorem Lb{h:aa}(w:Wf h){M:bA}(sm:Small M){a:Option Addr}{n c:Nat}(r:eK h (.slice a n c) M.aq):FW SS 57 [.agg ⟨dD M a n c⟩] h (λv h'=>v = .bool (sr M)/\Ok h h'):=by
 obtain⟨mb,ok⟩:=gr w r;refine La (dD M a n c) h _ ⟨_,jJ M a n c,_,mb.all,(vf ok.wf sm mb.row).mono ?_⟩;generalize h.push (Bm M a n c)=g at*;rintro _ g2 ⟨rfl,o2⟩;have ok2:=ok.trans o2;have mb2:=mb.ok o2;have hn:n<=300:=by rw[mb.len];exact sm.oO
 refine⟨_,rfl,ae (λq=>⟨?_,ok2⟩) (λq=>?_)⟩
 ·rw[not_eq_true']at q;unfold sr;rw[q];rfl
 rw[not_eq_false']at q;obtain⟨V,hV⟩:∃V,V=ye jf M.aq:=⟨_,rfl⟩
 have:sr M=V:=by unfold sr;rw[q,hV];rfl
 rw[this];refine tH (dD M a n c) h.next (RG jf h h.next M a n c V) (bQ h V) (λmz i=>?_) n (i:=0) ⟨by omega,rfl,mb2,ok2,hV.symm⟩;intros;rename_i gg hi;obtain⟨f1,f2,mb3,ok3,f5⟩:=hi;have hl:=mb3.len;refine⟨_,bZ _,_,_,_,mb3.l3,ae (λq1=>?_) (λq1=>?_)⟩
 ·have q1:=dT q1;obtain⟨s,hs⟩:∃s,M.aq[i]?=some s:=⟨_,gE (by omega)⟩
  rw[cT hs]at f5;exact OB w sm V hs (by omega) [] mz f2 s.bq.length (j:=0) ⟨by omega,by omega,mb3,ok3,by rw[drop_zero];exact f5⟩
 ·have q1:=dF q1;rw[drop_eq_nil_of_le (by omega)]at f5;exact⟨by rw[<-f5];rfl,ok3⟩
end
end
section
theorem qN(s:lA)(l:List lA):oA (s::l)=s.bq.length+oA l:=by simp[oA]
theorem FN{s:lA}:∀{l:List lA},s∈l->s.bq.length<=oA l
 |x::l,h=>by
  rw[qN];rcases mem_cons.1 h with rfl|h
  ·omega
  ·have:=FN h;omega
theorem JK{B:Nat}:∀{l:List lA},(∀s∈l,s.bq.length<=B)->oA l<=l.length*B
 |[],_=>by simp[oA]
 |x::l,h=>by
  rw[qN,List.length_cons,add_mul,one_mul];have h1:=h x (List.mem_cons_self ..);have h2:=JK (l:=l) λs hs=>h s (List.mem_cons_of_mem _ hs);omega
def Xw(M:bA):Prop:=∀s∈M.aq,s.bq.length<=281474976710656
section
variable {h:aa} {k:Nat} {M:bA} {a:Option Addr} {n c:Nat}
theorem Od(w:Wf h)(bd:Xw M)(hst:M.aq.length<=300)(r:eK h (.slice a n c) M.aq):FW SS 11 [.agg ⟨dD M a n c⟩] h (λv h'=>v = .int .i64 (oA M.aq:Nat)/\Ok h h'):=by
 obtain⟨mb,ok⟩:=gr w r;refine Oc (dD M a n c) h _ ⟨_,jJ M a n c,?_⟩;generalize h.push (Bm M a n c)=g at*;have hl:=mb.len;have hB:=JK bd;have hB2:M.aq.length*281474976710656<=300*281474976710656:=Nat.mul_le_mul_right _ hst;have hS:oA M.aq<=300*281474976710656:=Nat.le_trans hB hB2;refine uZ (dD M a n c) h.next (λmz i acc g'=>i<=n/\mz=n-i/\MB g' h.next M a n c/\Ok h g'/\∃ac:Nat,acc=(ac:Int)/\ac+oA (M.aq.drop i)=oA M.aq) (iQ h (oA M.aq:Nat)) (λmz i acc=>?_) n (i:=0) (acc:=0) ⟨by omega,rfl,mb,ok,0,rfl,by rw[drop_zero];omega⟩;intros;rename_i gg hi;obtain⟨f1,f2,mb3,ok3,ac,rfl,f5⟩:=hi;refine⟨_,bZ _,_,_,_,mb3.l3,ae (λq1=>?_) (λq1=>?_)⟩
 ·have q1:=dT q1;obtain⟨s,hs⟩:∃s,M.aq[i]?=some s:=⟨_,gE (by omega)⟩
  obtain⟨b,o,x',y,z,e1,e2,e3,e4,ar⟩:=mb3.row.at_ hs;have hy:=ar.len;rw[cT hs,qN]at f5;refine⟨_,bZ _,_,_,_,mb3.l3,_,e1,_,eo _ _,_,_,_,e4,?_⟩;have hw:wrap .i64 ((ac:Int)+(y:Int))=((ac+y:Nat):Int):=by rw[aA (by omega) (by omega)];omega
  dsimp only;rw[hw,ba (i:=i) (n:=n) (by omega) (by omega)];exact iN (mz-1) (by omega) ⟨by omega,by omega,mb3,ok3,_,rfl,by omega⟩
 ·have q1:=dF q1;rw[drop_eq_nil_of_le (by omega)]at f5;refine⟨?_,ok3⟩;rw[show oA []=0 from rfl,Nat.add_zero]at f5;rw[f5]
end
end
noncomputable def gW:FD:=dJ Tryz.f31 [([1,1,0,1,0,0],[1,2,17,18,19]),([1,1,0,1,0,0,1,1,0,0,1,1,0,1,0,0],[1,2,4,5,17,18,19,25,26,27])]
abbrev iy(k:Nat)(a:OA)(n c:Nat)(i:Nat):LV:=[(pA k),(.bool false),(.slice a n c),(iA n),(iA i)]
abbrev kY(k:Nat)(a:OA)(n c k2 k3:Nat)(b:OA)(m d i:Nat)(j:Nat):LV:=[(pA k),(.bool false),(pA k2),(.map (some k3)),(.slice a n c),(iA n),(iA i),(.slice b m d),(iA m),(iA j)]
theorem QO(mv:LV)(h:aa)(Q:VH)(hx:xN (jI SS.P 24 (.agg ⟨mv⟩)) h λB1 g2=>xA (ai SS.P 24 g2 (pA (h.next))) λc3=>FW SS 52 [(.agg ⟨c3⟩)] g2 λv4 h5=>yB v4 λb6=>aF (!b6) (Q (.bool false) h5) (xA (ai SS.P 24 h5 (pA (h.next))) λc7=>FW SS 53 [(.agg ⟨c7⟩)] h5 λv8 h9=>yB v8 λb10=>aF (!b10) (Q (.bool false) h9) (xP (ah SS.P 24 (pA (h.next)) 3) λp11=>xL (ai SS.P 22 h9 (.pointer (some p11))) λa12 n13 cm=>LL SS gW [1,1,0,1,0,0] (iy (h.next) a12 n13 cm 0) h9 (KK SS gW [1,1,0,1,0] [] (EE SS gW Q))))):FW SS 31 [(.agg ⟨mv⟩)] h Q:=dM gW Tryz.func31 (au hx)
theorem wL(mv:LV)(k:Nat)(a:OA)(n c:Nat)(Inv:Nat->Nat->aa->Prop)(Q:VH)(step:∀(mz:Nat) (i:Nat) (zz:Nat->Value) (h:aa),Inv mz i h->aF (decide (((i:Int):Int)<(n:Int))) (xP (af SS.P 22 (.slice a n c) (iA i)) λp15=>xA (ai SS.P 38 h (.pointer (some p15))) λc16=>xN (cq SS.P 38) h λB17 g18=>xU (aw SS.P 38 (pA (h.next)) (.agg ⟨c16⟩) g18) g18 λu19 g20=>∃B21:bO,zf SS.P 83=some (B21,λk=> .map (some k))/\xP (ah SS.P 38 (pA (h.next)) 1) λp22=>xL (ai SS.P 36 (g20.push B21) (.pointer (some p22))) λa23 n24 c25=>LL SS gW [1,1,0,1,0,0,1,1,0,0,1,1,0,1,0,0] (kY k a n c (h.next) (g20.next) a23 n24 c25 i 0) (g20.push B21) (KK SS gW [1,1,0,0,1,1,0,1,0] [1,1,0,1,0,0] (RR gW [1,1,0,1,0,0] (iR (iy k a n c) Inv) mz (KK SS gW [1,1,0,1,0] [] (EE SS gW Q))))) (Q (.bool true) h))(mz:Nat){i:Nat}{h:aa}(hi:Inv mz i h):LL SS gW [1,1,0,1,0,0] (iy k a n c i) h (KK SS gW [1,1,0,1,0] [] (EE SS gW Q)):=
 dK (iy k a n c) Inv (λmz i zz h hi=>au (step mz i zz h hi)) mz hi
theorem wM(mv:LV)(k:Nat)(a:OA)(n c k2 k3:Nat)(b:OA)(m d:Nat)(Inv:Nat->Nat->aa->Prop)(mz i:Nat)(Inv2:Nat->Nat->aa->Prop)(Q:VH)(step:∀(mz2:Nat) (j:Nat) (zz:Nat->Value) (h:aa),Inv2 mz2 j h->aF (decide (((j:Int):Int)<(m:Int))) (xP (af SS.P 36 (.slice b m d) (iA j)) λp26=>xA (ai SS.P 34 h (.pointer (some p26))) λc27=>xN (cq SS.P 34) h λB28 g29=>xU (aw SS.P 34 (pA (h.next)) (.agg ⟨c27⟩) g29) g29 λu30 g31=>xP (ah SS.P 34 (pA (h.next)) 0) λp32=>xI .i64 (ai SS.P 3 g31 (.pointer (some p32))) λn33=>xU (nO SS.P 83 (.map (some k3)) (.int .i64 n33) (.bool true) g31) g31 λu34 g35=>aH (iR (kY k a n c k2 k3 b m d i) Inv2) mz2 [(pA k),(.bool false),(pA k2),(.map (some k3)),(.slice a n c),(iA n),(iA i),(.slice b m d),(iA m),(.int .i64 (wrap .i64 ((j:Int)+1)))] g35) (xI .i64 (FG SS.P 83 (.map (some k3)) h) λn36=>xP (ah SS.P 38 (pA k2) 1) λp37=>xL (ai SS.P 36 h (.pointer (some p37))) λa38 n39 c40=>aF (((n36:Int) !=(n39:Int))) (Q (.bool false) h) (aH (iR (iy k a n c) Inv) mz [(pA k),(.bool false),(.slice a n c),(iA n),(.int .i64 (wrap .i64 ((i:Int)+1)))] h)))(mz2:Nat){j:Nat}{h:aa}(hi:Inv2 mz2 j h):LL SS gW [1,1,0,1,0,0,1,1,0,0,1,1,0,1,0,0] (kY k a n c k2 k3 b m d i j) h (KK SS gW [1,1,0,0,1,1,0,1,0] [1,1,0,1,0,0] (RR gW [1,1,0,1,0,0] (iR (iy k a n c) Inv) mz (KK SS gW [1,1,0,1,0] [] (EE SS gW Q)))):=
 dK (kY k a n c k2 k3 b m d i) Inv2 (λmz2 j zz h hi=>au (step mz2 j zz h hi)) mz2 hi
noncomputable def hG:FD:=dJ Tryz.f34 [([1,1,0,1,0,0],[1,2,3]),([1,1,0,1,0,0,1,0,0,1,1,0,0],[1,2,3,4,5])]
abbrev iD(k:Nat)(i:Nat):LV:=[(pA k),(.bool false),(iA i)]
abbrev lf(k kt tn tc i:Nat)(j:Nat):LV:=[(pA k),(.bool false),(iA i),(sA kt tn tc),(iA j)]
theorem Ra(mv:LV)(h:aa)(Q:VH)(hx:xN (jI SS.P 24 (.agg ⟨mv⟩)) h λB1 g2=>xA (ai SS.P 24 g2 (pA (h.next))) λc3=>FW SS 56 [(.agg ⟨c3⟩)] g2 λv4 h5=>yB v4 λb6=>aF (!b6) (Q (.bool false) h5) (xA (ai SS.P 24 h5 (pA (h.next))) λc7=>FW SS 57 [(.agg ⟨c7⟩)] h5 λv8 h9=>yB v8 λb10=>aF (!b10) (Q (.bool false) h9) (LL SS hG [1,1,0,1,0,0] (iD (h.next) 0) h9 (KK SS hG [1,1,0,1,0] [] (EE SS hG Q))))):FW SS 34 [(.agg ⟨mv⟩)] h Q:=dM hG Tryz.func34 (au hx)
theorem wV(mv:LV)(k:Nat)(Inv:Nat->Nat->aa->Prop)(Q:VH)(step:∀(mz:Nat) (i:Nat) (zz:Nat->Value) (h:aa),Inv mz i h->xP (ah SS.P 24 (pA k) 3) λp11=>xL (ai SS.P 22 h (.pointer (some p11))) λa12 n13 cm=>aF (decide (((i:Int):Int)<(n13:Int))) (xR (bL SS.P 49 (.int .i64 501) (.int .i64 501)) h λB15 n16 c17 g18=>LL SS hG [1,1,0,1,0,0,1,0,0,1,1,0,0] (lf k (h.next) n16 c17 i 0) g18 (KK SS hG [1,0,0,1,1,0] [1,1,0,1,0,0] (RR hG [1,1,0,1,0,0] (iR (iD k) Inv) mz (KK SS hG [1,1,0,1,0] [] (EE SS hG Q))))) (Q (.bool true) h))(mz:Nat){i:Nat}{h:aa}(hi:Inv mz i h):LL SS hG [1,1,0,1,0,0] (iD k i) h (KK SS hG [1,1,0,1,0] [] (EE SS hG Q)):=
 dK (iD k) Inv (λmz i zz h hi=>au (step mz i zz h hi)) mz hi
theorem wW(mv:LV)(k kt tn tc:Nat)(Inv:Nat->Nat->aa->Prop)(mz i:Nat)(Inv2:Nat->Nat->aa->Prop)(Q:VH)(step:∀(mz2:Nat) (j:Nat) (zz:Nat->Value) (h:aa),Inv2 mz2 j h->xP (ah SS.P 24 (pA k) 3) λp19=>xL (ai SS.P 22 h (.pointer (some p19))) λa20 n21 c22=>xP (af SS.P 22 (.slice a20 n21 c22) (iA i)) λp23=>xP (ah SS.P 38 (.pointer (some p23)) 1) λp24=>xL (ai SS.P 36 h (.pointer (some p24))) λa25 n26 c27=>aF (decide (((j:Int):Int)<(n26:Int))) (xP (ah SS.P 24 (pA k) 3) λp28=>xL (ai SS.P 22 h (.pointer (some p28))) λa29 n30 c31=>xP (af SS.P 22 (.slice a29 n30 c31) (iA i)) λp32=>xP (ah SS.P 38 (.pointer (some p32)) 1) λp33=>xL (ai SS.P 36 h (.pointer (some p33))) λa34 n35 c36=>xP (af SS.P 36 (.slice a34 n35 c36) (iA j)) λp37=>xP (ah SS.P 34 (.pointer (some p37)) 0) λp38=>xI .i64 (ai SS.P 3 h (.pointer (some p38))) λn39=>xP (af SS.P 49 (sA kt tn tc) (.int .i64 n39)) λp40=>xB (ai SS.P 4 h (.pointer (some p40))) λb41=>aF b41 (Q (.bool false) h) (xP (ah SS.P 24 (pA k) 3) λp42=>xL (ai SS.P 22 h (.pointer (some p42))) λa43 n44 c45=>xP (af SS.P 22 (.slice a43 n44 c45) (iA i)) λp46=>xP (ah SS.P 38 (.pointer (some p46)) 1) λp47=>xL (ai SS.P 36 h (.pointer (some p47))) λa48 n49 c50=>xP (af SS.P 36 (.slice a48 n49 c50) (iA j)) λp51=>xP (ah SS.P 34 (.pointer (some p51)) 0) λp52=>xI .i64 (ai SS.P 3 h (.pointer (some p52))) λn53=>xP (af SS.P 49 (sA kt tn tc) (.int .i64 n53)) λp54=>xU (aw SS.P 4 (.pointer (some p54)) (.bool true) h) h λu55 g56=>aH (iR (lf k kt tn tc i) Inv2) mz2 [(pA k),(.bool false),(iA i),(sA kt tn tc),(.int .i64 (wrap .i64 ((j:Int)+1)))] g56)) (aH (iR (iD k) Inv) mz [(pA k),(.bool false),(.int .i64 (wrap .i64 ((i:Int)+1)))] h))(mz2:Nat){j:Nat}{h:aa}(hi:Inv2 mz2 j h):LL SS hG [1,1,0,1,0,0,1,0,0,1,1,0,0] (lf k kt tn tc i j) h (KK SS hG [1,0,0,1,1,0] [1,1,0,1,0,0] (RR hG [1,1,0,1,0,0] (iR (iD k) Inv) mz (KK SS hG [1,1,0,1,0] [] (EE SS hG Q)))):=
 dK (lf k kt tn tc i) Inv2 (λmz2 j zz h hi=>au (step mz2 j zz h hi)) mz2 hi
section
theorem Cp{kind:Int}{N:Nat}:∀{l:List lA}{acc:Int},oP kind N acc l=true->∀s∈l,(s.f==[]||cQ kind s.f)=true/\∀q∈s.bq,iL kind N q=true
 |[],_,_,s,hs=>by cases hs
 |x::l,acc,h,s,hs=>by
  unfold oP at h;simp only[and_eq_true]at h;obtain⟨⟨⟨h1,h2⟩,h3⟩,h4⟩:=h;rcases mem_cons.1 hs with rfl|hs
  ·exact⟨h2,λq hq=>List.all_eq_true.1 h3 q hq⟩
  ·exact Cp h4 s hs
structure RS(N:Nat)(q:dO):Prop where
 i0:0<=q.i
 i1:q.i<=500
 o0:0<=q.o
 o1:q.o<=500
 t0:0<=q.t
 t1:q.t<N
theorem Ml{kind:Int}{N:Nat}{q:dO}(h:iL kind N q=true):RS N q:=by
 unfold iL qh at h;simp only[and_eq_true,decide_eq_true_eq]at h;obtain⟨⟨⟨⟨⟨h1,h2⟩,h3,h4⟩,h5⟩,h6⟩,h7⟩:=h;exact⟨h1,h2,h3,h4,h5,h6⟩
structure Good(M:bA):Prop where
 YN:0<=M.start
 YO:M.start<M.aq.length
 bq:∀s∈M.aq,∀q∈s.bq,RS M.aq.length q
theorem qj{M:bA}(h:dN M=true):Good M:=by
 unfold dN at h;simp only[and_eq_true,decide_eq_true_eq]at h;obtain⟨⟨⟨⟨⟨⟨⟨h1,h2⟩,h3⟩,h4⟩,h5⟩,h6⟩,h7⟩,h8⟩:=h;exact⟨h5,h6,λs hs q hq=>Ml ((Cp h8 s hs).2 q hq)⟩
theorem S0(a b:Int):vM SS.P 3 (.int .i64 a) (.int .i64 b)=some (decide (a=b)):=by
 by_cases h:a=b
 ·subst h;have e:jc SS.P 3 3 (.int .i64 a) (.int .i64 a)=some (a==a):=by kernel_rfl
  unfold vM;rw[if_pos (show uU (Value.int .i64 a)=true from rfl),e];simp[JF,Gq]
 ·have e:jc SS.P 3 3 (.int .i64 a) (.int .i64 b)=some (a==b):=by kernel_rfl
  unfold vM;rw[if_pos (show uU (Value.int .i64 b)=true from rfl),e,show(a==b)=false by simpa using h];simp[h]
def sc(l:List Int)(k:Int):List Int:=if k∈l then l else l++[k]
def AO(x:Int):Value×Value:=(.int .i64 x,.bool true)
theorem Fx(k:Int):∀l:List Int,kP SS.P 3 (.int .i64 k) (.bool true) (l.map AO)=some ((sc l k).map AO)
 |[]=>rfl
 | x::l=>by
  show(match vM SS.P 3 (.int .i64 k) (.int .i64 x)with|some true=>some ((Value.int .i64 k,Value.bool true)::l.map AO)|some false=>(kP SS.P 3 (.int .i64 k) (.bool true) (l.map AO)).map (AO x::·)|none=>none)=_;rw[S0];by_cases h:k=x
  ·subst h;simp[sc,AO]
  ·rw[show decide (k=x)=false by simpa using h];dsimp only;rw[Fx k l];unfold sc;by_cases h2:k∈l
   ·rw[if_pos h2,if_pos (List.mem_cons_of_mem _ h2)];rfl
   ·rw[if_neg h2,if_neg (λe=>by rcases mem_cons.1 e with e|e;exact h e;exact h2 e)];rfl
theorem yP:∀(l acc:List Int),acc.Nodup->((l.foldl sc acc).length=acc.length+l.length↔(acc++l).Nodup)/\(l.foldl sc acc).length<=acc.length+l.length
 |[],acc,h=>by simp[h]
 | x::l,acc,h=>by
  rw[List.foldl_cons];by_cases hx:x∈acc
  ·have e:sc acc x=acc:=by unfold sc;rw[if_pos hx]
   rw[e];obtain⟨h1,h2⟩:=yP l acc h;refine⟨⟨λh3=>by simp at h3;omega,λh3=>?_⟩,by simp;omega⟩;rw[nodup_append]at h3;exact absurd rfl (h3.2.2 x hx x (List.mem_cons_self ..))
  ·have e:sc acc x=acc++[x]:=by unfold sc;rw[if_neg hx]
   rw[e];have hn:(acc++[x]).Nodup:=by
    rw[nodup_append];refine⟨h,by simp,λa ha b hb=>?_⟩;rw[mem_singleton]at hb;rintro rfl;exact hx (hb▸ha)
   obtain⟨h1,h2⟩:=yP l (acc++[x]) hn;rw[List.append_assoc]at h1;simp only[length_append,List.length_cons,List.length_nil,List.singleton_append]at h1 h2⊢;refine⟨⟨λh3=>h1.1 (by omega),λh3=>?_⟩,by omega⟩;have:=h1.2 h3;omega
theorem VV:SS.P.underlying 83=some (.map 3 4):=by kernel_rfl
theorem Xo{h:aa}{k:Nat}{l:List Int}(hk:h.get k=some (.map (l.map AO)))(x:Int):nO SS.P 83 (.map (some k)) (.int .i64 x) (.bool true) h=some (undef,.set k (.map ((sc l x).map AO))):=by
 unfold nO;rw[VV];dsimp only;rw[hk];dsimp only;rw[show oM SS.P 3 (.int .i64 x)=true by kernel_rfl,if_pos rfl,Fx];rfl
theorem VL{h:aa}{k:Nat}{es:List (Value×Value)}(hk:h.get k=some (.map es)):FG SS.P 83 (.map (some k)) h=some (.int .i64 (es.length:Int)):=by
 unfold FG;rw[VV];dsimp only;rw[hk]
theorem VT:zf SS.P 83=some (.map [],λk=> .map (some k)):=by kernel_rfl
def gF(s:lA):List Int:=s.bq.map (·.i)
def uJ(s:lA):Bool:=decide (gF s).Nodup
def wA(M:bA):Bool:=EA M&&sr M&&M.aq.all uJ
section
variable {h:aa} {k:Nat} {M:bA} {a:Option Addr} {n c:Nat}
def PZ(h:aa)(k:Nat)(M:bA)(a:Option Addr)(n c:Nat)(V:Bool)(mz i:Nat)(g:aa):Prop:=i<=n/\mz=n-i/\MB g k M a n c/\Ok h g/\(M.aq.drop i).all uJ=V
set_option linter.defProp false in
def NI{hb:aa}(w:Wf hb)(okb:Ok h hb)(sm:Small M)(V:Bool){s:lA}{b:Option Addr}{m d i k2 k3:Nat}(hs:M.aq[i]?=some s)(hi:i<n)(mb0:MB hb k M a n c)(hv:(uJ s&&(M.aq.drop (i+1)).all uJ)=V)(hk3:hb.next<=k3)(mv:List Value)(mz:Nat)(hmz:mz=n-i):=
 wM mv k a n c k2 k3 b m d (PZ h k M a n c V) mz i (λmz2 j g=>j<=m/\mz2=m-j/\Ok hb g/\gi g (.slice b m d) s.bq/\g.get k2=some (.cells [strOf s.f,.slice b m d] 38 0 true)/\k3≠k2/\hb.next<=k2/\g.get k3=some (.map ((((gF s).take j).foldl sc []).map AO))) (bQ h V) (by
  intro mz2 j;intros;rename_i g hin;obtain⟨f1,f2,ok,ar,sb,hne,hk2,hm⟩:=hin;have mb:=mb0.ok ok;have hn:n<=300:=by rw[mb.len];exact sm.oO
  obtain⟨l1,l2,l3⟩:=lz sm hs;have hml:=ar.len;refine ae (λg1=>?_) (λg1=>?_)
  ·have g1:=dT g1;obtain⟨q,hq⟩:∃q,s.bq[j]?=some q:=⟨_,gE (by omega)⟩
   obtain⟨bb,o,e1,e2,e3⟩:=ar.at_ hq;obtain⟨u,p1,p2,p3⟩:=zu ok.wf q;have hm2:=p2.ext _ _ hm;refine⟨_,e1,_,e2,_,He,u,p1,_,je _ _,_,p3.l0,_,Xo hm2 q.i,?_⟩;have okg:=ok.trans p2;have sb2:=p2.ext _ _ sb;have ar2:=ar.ok p2;generalize u.app (g.push JO)=g2 at*;rw[ba (i:=j) (n:=m) (by omega) (by omega)];have ok3:Ok hb ((cX.set k3 (.map ((sc (((gF s).take j).foldl sc []) q.i).map AO))).app g2):=okg.set _ hk3 (okg.wf _ _ hm2) w;have hq':(gF s)[j]?=some q.i:=by unfold gF;rw[getElem?_map,hq];rfl
   have ht:(gF s).take (j+1)=(gF s).take j++[q.i]:=by rw[take_add_one,hq'];rfl
   refine cH (mz2-1) (by omega) ⟨by omega,by omega,ok3,?_,?_,hne,hk2,?_⟩
   ·
    obtain⟨bb',oo',xx,yy,zz,_,_,_,w4,ar0⟩:=(mb0.ok ok3).row.at_ hs;obtain⟨bb2,oo2,xx2,yy2,zz2,v1,_,_,v4,ar02⟩:=(mb0.ok okg).row.at_ hs;obtain⟨r1,⟨r2,r3⟩|⟨kk,off,cs,e',z',cc,wr,r2,r3,r4,r5⟩⟩:=ar2
    ·exact⟨r1,.inl ⟨r2,r3⟩⟩
    ·refine⟨r1,.inr ⟨kk,off,cs,e',z',cc,wr,r2,?_,r4,r5⟩⟩;show(g2.set k3 _).get kk=_;rw[aa.aX,if_neg (λe=>by rw[e,hm2]at r3;cases r3)];exact r3
   ·show(g2.set k3 _).get k2=_;rw[aa.aX,if_neg (λe=>hne e.symm)];exact sb2
   ·show(g2.set k3 _).get k3=_;rw[aa.aX,if_pos rfl,ht,List.foldl_append];rfl
  ·have g1:=dF g1;obtain rfl:m=j:=by omega
   have sbl:SB g k2 s.f b m d:=sb;refine⟨_,VL hm,_,eo _ _,_,_,_,sbl.l1,?_⟩;have hlen:(gF s).length=m:=by unfold gF;rw[lM];exact hml.symm
   obtain⟨q1,q2⟩:=yP (gF s) [] nodup_nil;rw[List.nil_append,List.length_nil,Nat.zero_add,hlen]at q1;rw[lM,take_of_length_le (by omega)];refine ae (λt=>⟨?_,okb.trans ok⟩) (λt=>?_)
   ·have t:¬(((gF s).foldl sc []).length:Int)=(m:Int):=by simpa using t
    rw[<-hv,show uJ s=false from decide_eq_false λe=>t (by rw[q1.2 e])];rfl
   ·have t:(((gF s).foldl sc []).length:Int)=(m:Int):=by simpa using t
    rw[show uJ s=true from decide_eq_true (q1.1 (by omega)),Bool.true_and]at hv;rw[ba hi (by omega)];exact cH (n-(i+1)) (by omega) ⟨by omega,rfl,mb,okb.trans ok,hv⟩)
theorem QP(tb:qP h)(w:Wf h)(sm:Small M)(r:eK h (.slice a n c) M.aq):FW SS 31 [.agg ⟨dD M a n c⟩] h (λv h'=>v = .bool (wA M)/\Ok h h'):=by
 obtain⟨mb,ok⟩:=gr w r;refine QO (dD M a n c) h _ ⟨_,jJ M a n c,_,mb.all,(QK (tb.ok ok) ok.wf sm mb.row).mono ?_⟩;generalize h.push (Bm M a n c)=g at*;rintro _ g2 ⟨rfl,o2⟩;have ok2:=ok.trans o2;have mb2:=mb.ok o2;have hn:n<=300:=by rw[mb.len];exact sm.oO
 refine⟨_,rfl,ae (λq=>⟨?_,ok2⟩) (λq=>?_)⟩
 ·rw[not_eq_true']at q;unfold wA;rw[q];rfl
 rw[not_eq_false']at q;refine⟨_,mb2.all,(KJ (tb.ok ok2) ok2.wf sm mb2.row).mono ?_⟩;rintro _ g3 ⟨rfl,o3⟩;have ok3:=ok2.trans o3;have mb3:=mb2.ok o3;refine⟨_,rfl,ae (λt=>⟨?_,ok3⟩) (λt=>?_)⟩
 ·rw[not_eq_true']at t;unfold wA;rw[t,Bool.and_false];rfl
 rw[not_eq_false']at t;obtain⟨V,hV⟩:∃V,V=M.aq.all uJ:=⟨_,rfl⟩
 have:wA M=V:=by unfold wA;rw[q,t,hV];rfl
 rw[this];refine⟨_,bZ _,_,_,_,mb3.l3,?_⟩;refine wL (dD M a n c) h.next a n c (PZ h h.next M a n c V) (bQ h V) (λmz i=>?_) n (i:=0) ⟨by omega,rfl,mb3,ok3,hV.symm⟩;intros;rename_i gg hi;obtain⟨f1,f2,mb4,ok4,f5⟩:=hi;have hl:=mb4.len;refine ae (λq1=>?_) (λq1=>?_)
 ·have q1:=dT q1;obtain⟨s,hs⟩:∃s,M.aq[i]?=some s:=⟨_,gE (by omega)⟩
  obtain⟨b,o,x',y,z,e1,e2,e3,e4,ar⟩:=mb4.row.at_ hs;rw[cT hs,all_cons]at f5;obtain⟨u,p1,p2,p3⟩:=B6 ok4.wf s.f x' y z;have p4:=(Ok.refl p2.wf).push (.map []);have hk3:=bF (u.app (gg.push GU)) (.map []);have hlt:gg.next<(u.app (gg.push GU)).next:=p2.wf _ _ p3;refine⟨_,e1,_,e2,_,J0,u,p1,_,VT,_,eo _ _,_,_,_,(p3.ok p4).l1,?_⟩;generalize u.app (gg.push GU)=g5 at*;exact NI ok4.wf ok4 sm V hs (by omega) mb4 f5 (by omega) [] mz f2 y (j:=0) ⟨by omega,rfl,p2.trans p4,(ar.ok p2).ok p4,p3.ok p4,by omega,Nat.le_refl _,hk3⟩
 ·have q1:=dF q1;rw[drop_eq_nil_of_le (by omega)]at f5;exact⟨by rw[<-f5];rfl,ok4⟩
end
end
section
theorem WQ:SS.P.underlying 49=some (.slice 4):=by kernel_rfl
theorem WW:aB SS.P 4=some 1:=by kernel_rfl
noncomputable def YQ:TypeInfo:=(SS.P.info? 4).getD default
theorem Uy:SS.P.info? 4=some YQ:=by kernel_rfl
theorem OZ:YQ.size=1:=by kernel_rfl
theorem LQ:YQ.bytes=1:=by kernel_rfl
theorem Xu:zeroOf SS.P 4=some (.bool false):=by kernel_rfl
theorem VS(n:Nat)(hn:n<=100000):bL SS.P 49 (.int .i64 (n:Int)) (.int .i64 (n:Int))=some (.cells ((List.replicate n false).map Value.bool) 4 1 true,my n n):=by
 unfold bL aS;dsimp only;rw[WQ]
 try dsimp only
 change (match SS.P.info? 4,zeroOf SS.P 4 with
  |some i,some z=>(if z.cells.size=i.size/\0<i.size/\(0:Int)<=(n:Int)/\(n:Int)<=(n:Int)/\(n:Int)*i.bytes<=140737488355328/\(n:Int)<=1099511627776 then some (bO.cells (cd z.cells.toList (n:Int).toNat) 4 i.size true,λk=>Value.slice (some ⟨k,0,none⟩) (n:Int).toNat (n:Int).toNat)else none)
  |_,_=>none)=_
 rw[Uy,Xu];dsimp only;rw[OZ,LQ,if_pos ⟨rfl,by omega,by omega,Int.le_refl _,by omega,by omega⟩];have e:((n:Int)).toNat=n:=by omega
 rw[e,show(Value.bool false).cells.toList=[Value.bool false]from rfl,qp,map_replicate];rfl
structure BR(hb:aa)(kt N:Nat)(L:List Bool)(g:aa):Prop where
 len:L.length=N
 row:uh hb kt 4 (L.map Value.bool) g
theorem BR.trans{hb:aa}{kt N:Nat}{L:List Bool}{g g':aa}(m:BR hb kt N L g)(o:Ok g g'):BR hb kt N L g':=⟨m.len,m.row.trans o⟩
theorem BR.get{hb:aa}{kt N c:Nat}{L:List Bool}{g:aa}(m:BR hb kt N L g){x:Int}(h0:0<=x)(h1:x<N):af SS.P 49 (.slice (some ⟨kt,0,none⟩) N c) (.int .i64 x)=some (.pointer (some ⟨kt,x.toNat,none⟩))/\ai SS.P 4 g (.pointer (some ⟨kt,x.toNat,none⟩))=some (.bool (L.getD x.toNat false))/\
  ∀b:Bool,Wf hb->∃u:cX,aw SS.P 4 (.pointer (some ⟨kt,x.toNat,none⟩)) (.bool b) g=some (undef,u)/\BR hb kt N (L.set x.toNat b) (u.app g)/\(∀k' B,g.get k'=some B->k'≠kt->(u.app g).get k'=some B):=by
 have e:0+x.toNat*1=x.toNat:=by omega
 have hl:x.toNat<L.length:=by rw[m.len];omega
 refine⟨by rw[<-e];exact Fw WQ WW h0 h1,?_,?_⟩
 ·rw[gG Zv Y0 m.row.row (by rw[lM];exact hl),gD,getElem?_map,gD,gE hl];rfl
 ·intro b w;refine⟨_,vr WW m.row.row (by rw[lM];exact hl) rfl rfl,⟨by rw[length_set];exact m.len,?_⟩,λk' B hk hne=>?_⟩
  ·have:=m.row.set w x.toNat (.bool b);rw[xy Value.bool L x.toNat b]at this⊢;exact this
  ·show(g.set kt _).get k'=_;rw[aa.aX,if_neg hne];exact hk
theorem BR.new{h:aa}(w:Wf h)(n:Nat):BR h h.next n (List.replicate n false) (h.push (.cells ((List.replicate n false).map Value.bool) 4 1 true)):=
 ⟨length_replicate,bF h _,Nat.le_refl _,(Ok.refl w).push _⟩
theorem HL{L:List Bool}{x y:Nat}{b:Bool}(hx:x<L.length):(L.set x b).getD y false=if y=x then b else L.getD y false:=by
 rw[gD,List.getElem?_set,gD];split
 ·next e=>subst e;simp
 ·next e=>rw[if_neg (λc=>e c.symm)]
section
variable {h:aa} {k:Nat} {M:bA} {a:Option Addr} {n c:Nat}
set_option linter.defProp false in
def Oi{hb:aa}(w:Wf hb)(okb:Ok h hb)(sm:Small M)(gd:Good M)(V:Bool){s:lA}{i kt:Nat}(hs:M.aq[i]?=some s)(hi:i<n)(mb0:MB hb k M a n c)(hv:(uJ s&&(M.aq.drop (i+1)).all uJ)=V)(mv:List Value)(mz:Nat)(hmz:mz=n-i):=
 wW mv k kt 501 501 (PZ h k M a n c V) mz i (λmz2 j g=>j<=s.bq.length/\mz2=s.bq.length-j/\∃L,BR hb kt 501 L g/\(∀x:Nat,x<501->(L.getD x false=true↔(x:Int)∈(gF s).take j))/\((gF s).take j).Nodup) (bQ h V) (by
  intro mz2 j;intros;rename_i g hin;obtain⟨f1,f2,L,br,hL,hnd⟩:=hin;have ok:=br.row.ok;have mb:=mb0.ok ok;have hn:n<=300:=by rw[mb.len];exact sm.oO
  obtain⟨l1,l2,l3⟩:=lz sm hs;obtain⟨b,o,x',y,z,e1,e2,e3,e4,ar⟩:=mb.row.at_ hs;have hm:=ar.len;refine⟨_,bZ _,_,_,_,mb.l3,_,e1,_,eo _ _,_,_,_,e4,ae (λg1=>?_) (λg1=>?_)⟩
  ·have g1:=dT g1;obtain⟨q,hq⟩:∃q,s.bq[j]?=some q:=⟨_,gE (by omega)⟩
   obtain⟨bb,oo,d1,d2,d3,d4,d5,d6⟩:=ar.at_ hq;have hin:=gd.bq s (List.mem_of_getElem? hs) q (List.mem_of_getElem? hq);have hi0:=hin.i0;have hi1:=hin.i1;obtain⟨r1,r2,r3⟩:=br.get (c:=501) (x:=q.i) hi0 (by omega);have hq':(gF s)[j]?=some q.i:=by unfold gF;rw[getElem?_map,hq];rfl
   have ht:(gF s).take (j+1)=(gF s).take j++[q.i]:=by rw[take_add_one,hq'];rfl
   have hLq:=hL q.i.toNat (by omega);rw[show((q.i.toNat:Nat):Int)=q.i by omega]at hLq;refine⟨_,bZ _,_,_,_,mb.l3,_,e1,_,eo _ _,_,_,_,e4,_,d1,_,je _ _,_,d3,_,r1,_,r2,ae (λg2=>⟨?_,okb.trans ok⟩) (λg2=>?_)⟩
   ·have hmem:=hLq.1 g2;have:¬(gF s).Nodup:=λhnd2=>by
     rw[<-List.take_append_drop j (gF s),nodup_append]at hnd2;refine hnd2.2.2 _ hmem q.i ?_ rfl;rw[cT hq'];exact List.mem_cons_self ..
    rw[<-hv,show uJ s=false from decide_eq_false this];rfl
   ·have hnm:q.i∉(gF s).take j:=λc=>by rw[hLq.2 c]at g2;cases g2
    obtain⟨u,s1,s2,s3⟩:=r3 true w;refine⟨_,bZ _,_,_,_,mb.l3,_,e1,_,eo _ _,_,_,_,e4,_,d1,_,je _ _,_,d3,_,r1,u,s1,?_⟩;rw[ba (i:=j) (n:=s.bq.length) (by omega) (by omega)];refine cH (mz2-1) (by omega) ⟨by omega,by omega,_,s2,λx hx=>?_,?_⟩
    ·rw[HL (by rw[br.len];omega),ht,mem_append,mem_singleton];by_cases e:x=q.i.toNat
     ·rw[if_pos e];exact⟨λ_=> .inr (by omega),λ_=>rfl⟩
     ·rw[if_neg e,hL x hx];exact⟨.inl,λc=>c.elim id (λc=>absurd (by omega) e)⟩
    ·rw[ht,nodup_append];refine⟨hnd,by simp,λa1 h1 b1 h2=>?_⟩;rw[mem_singleton]at h2;rintro rfl;exact hnm (h2▸h1)
  ·have g1:=dF g1;rw[take_of_length_le (by unfold gF;rw[lM];omega)]at hnd;rw[show uJ s=true from decide_eq_true hnd,Bool.true_and]at hv;rw[ba hi (by omega)];exact cH (n-(i+1)) (by omega) ⟨by omega,rfl,mb,okb.trans ok,hv⟩)
theorem Rb(w:Wf h)(sm:Small M)(r:eK h (.slice a n c) M.aq):FW SS 34 [.agg ⟨dD M a n c⟩] h (λv h'=>v = .bool (wA M)/\Ok h h'):=by
 obtain⟨mb,ok⟩:=gr w r;refine Ra (dD M a n c) h _ ⟨_,jJ M a n c,_,mb.all,(Q7 ok.wf sm mb.row).mono ?_⟩;generalize h.push (Bm M a n c)=g at*;rintro _ g2 ⟨rfl,o2⟩;have ok2:=ok.trans o2;have mb2:=mb.ok o2;have hn:n<=300:=by rw[mb.len];exact sm.oO
 refine⟨_,rfl,ae (λq=>⟨?_,ok2⟩) (λq=>?_)⟩
 ·rw[not_eq_true']at q;unfold wA;rw[q];rfl
 rw[not_eq_false']at q;refine⟨_,mb2.all,(Lb ok2.wf sm mb2.row).mono ?_⟩;rintro _ g3 ⟨rfl,o3⟩;have ok3:=ok2.trans o3;have mb3:=mb2.ok o3;refine⟨_,rfl,ae (λt=>⟨?_,ok3⟩) (λt=>?_)⟩
 ·rw[not_eq_true']at t;unfold wA;rw[t,Bool.and_false];rfl
 rw[not_eq_false']at t;have gd:Good M:=qj (by unfold EA at q;rw[and_eq_true]at q;exact q.1);obtain⟨V,hV⟩:∃V,V=M.aq.all uJ:=⟨_,rfl⟩
 have:wA M=V:=by unfold wA;rw[q,t,hV];rfl
 rw[this];refine wV (dD M a n c) h.next (PZ h h.next M a n c V) (bQ h V) (λmz i=>?_) n (i:=0) ⟨by omega,rfl,mb3,ok3,hV.symm⟩;intros;rename_i gg hi;obtain⟨f1,f2,mb4,ok4,f5⟩:=hi;have hl:=mb4.len;refine⟨_,bZ _,_,_,_,mb4.l3,ae (λq1=>?_) (λq1=>?_)⟩
 ·have q1:=dT q1;obtain⟨s,hs⟩:∃s,M.aq[i]?=some s:=⟨_,gE (by omega)⟩
  rw[cT hs,all_cons]at f5;refine⟨_,_,_,VS 501 (by omega),?_⟩;exact Oi ok4.wf ok4 sm gd V hs (by omega) mb4 f5 [] mz f2 s.bq.length (j:=0) ⟨by omega,by omega,_,BR.new ok4.wf 501,λx hx=>by rw[take_zero,gD,List.getElem?_replicate,if_pos hx];simp,nodup_nil⟩
 ·have q1:=dF q1;rw[drop_eq_nil_of_le (by omega)]at f5;exact⟨by rw[<-f5];rfl,ok4⟩
end
end
section
theorem OQ{h0 g:aa}(w0:Wf h0)(ok:Ok h0 g){v:Value}{vs:List Value}(o:dQ h0 g 3 v vs){z:Int}{kx:Nat}(hkx:g.get kx=some (.cells [.int .i64 z] 3 1 true))(hl:vs.length<=100000):
  ∃(b:Option Addr)(n c:Nat)(u:cX),aO SS.P 32 32 v (.slice (some ⟨kx,0,none⟩) 1 1) g=some (.slice b n c,u)/\n=vs.length+1/\dQ h0 (u.app g) 3 (.slice b n c) (vs++[.int .i64 z])/\Ok h0 (u.app g)/\
   (∀j B,g.get j=some B->bG v≠some j->(u.app g).get j=some B)/\
   (∀j,bG (.slice b n c)=some j->g.next<=j\/bG v=some j)/\g.next<=(u.app g).next:=
 dQ.snoc ll DF tL w0 ok o rfl hkx (by rw[vh];omega) (by omega)
theorem wb:aB SS.P 32=some 1:=by kernel_rfl
theorem yc:Go.Ab.isAgg SS.P 32=false:=by kernel_rfl
theorem LC:SS.P.underlying 27=some (.slice 32):=by kernel_rfl
theorem mo(a:Option Addr)(n c:Nat):di (.slice a n c)=true:=by cases a<;>rfl
def uf(g:aa)(k:Nat)(t:TypeId)(v:Value):Prop:=g.get k=some (.cells [v] t 0 true)
theorem uf.ok{g g':aa}{k:Nat}{t:TypeId}{v:Value}(b:uf g k t v)(o:Ok g g'):uf g' k t v:=o.ext _ _ b
theorem uf.ld{g:aa}{k:Nat}{t:TypeId}{v:Value}{d:TypeDesc}(hU:SS.P.underlying t=some d)(ha:Go.Ab.isAgg SS.P t=false)(b:uf g k t v):ai SS.P t g (.pointer (some ⟨k,0,none⟩))=some v:=gG hU ha b (by simp)
theorem uf.st{g:aa}{k:Nat}{t:TypeId}{v:Value}(hs:aB SS.P t=some 1)(b:uf g k t v){v':Value}(hv:di v'=true)(hc:v'.cells = #[v']):aw SS.P t (.pointer (some ⟨k,0,none⟩)) v' g=some (undef,.set k (.cells [v'] t 0 true)):=vr hs b (by simp) hv hc
section
variable {h:aa} {k7 k8 kt N:Nat} {L:List Bool} {T:List Nat} {g:aa}
def Al(g:aa)(a:Option Addr)(N c:Nat)(A:List (List Nat)):Prop:=A.length=N/\∃vs:List Value,Rd g 32 (.slice a N c) vs/\vs.length=N/\∀(i:Nat)(l:List Nat),A[i]?=some l->∃(b:Option Addr)(m d:Nat),vs[i]?=some (.slice b m d)/\Rd g 3 (.slice b m d) (l.map iv)
theorem Al.ok{g g':aa}{a:Option Addr}{N c:Nat}{A:List (List Nat)}(r:Al g a N c A)(o:Ok g g'):Al g' a N c A:=by
 obtain⟨h1,vs,h2,h3,h4⟩:=r;exact⟨h1,vs,h2.ok o,h3,λi l hl=>let⟨b,m,d,e1,e2⟩:=h4 i l hl;⟨b,m,d,e1,e2.ok o⟩⟩
theorem Al.at_{g:aa}{a:Option Addr}{N c:Nat}{A:List (List Nat)}(r:Al g a N c A){i:Nat}{l:List Nat}(hl:A[i]?=some l):
  ∃(p:Addr)(b:Option Addr)(m d:Nat),af SS.P 27 (.slice a N c) (.int .i64 (i:Int))=some (.pointer (some p))/\ai SS.P 32 g (.pointer (some p))=some (.slice b m d)/\Rd g 3 (.slice b m d) (l.map iv):=by
 obtain⟨h1,vs,h2,h3,h4⟩:=r;obtain⟨b,m,d,e1,e2⟩:=h4 i l hl;have hi:=(List.getElem?_eq_some_iff.1 hl).1;obtain⟨p,q1,q2⟩:=h2.at_ LC wb ll yc (k:= .i64) (i:=(i:Int)) (by omega) (by omega);rw[toNat_natCast,gD,e1]at q2;exact⟨p,b,m,d,q1,q2,e2⟩
end
end
theorem PI{h:aa}{a:Option Addr}{n c:Nat}{l:List Nat}(r:Rd h 3 (.slice a n c) (l.map iv)){i:Nat}{x:Nat}(hx:l[i]?=some x):∃p:Addr,af SS.P 32 (.slice a n c) (.int .i64 (i:Int))=some (.pointer (some p))/\ai SS.P 3 h (.pointer (some p))=some (.int .i64 (x:Int)):=by
 have hi:=(List.getElem?_eq_some_iff.1 hx).1;obtain⟨p,h2,h3⟩:=r.at_ ll Pv GS GR (k:= .i64) (i:=(i:Int)) (by omega) (by rw[lM];omega);rw[toNat_natCast,gD,getElem?_map,hx]at h3;exact⟨p,h2,h3⟩
theorem DE{h:aa}{a:Option Addr}{n c:Nat}{l:List Nat}(r:Rd h 3 (.slice a n c) (l.map iv)):n=l.length:=by have:=r.len;rwa[lM]at this
section
theorem cL{α:Type}{l:List α}{i j:Nat}{x y:α}(h:(l.set i x)[j]?=some y):(j=i/\y=x)\/(j≠i/\l[j]?=some y):=by
 rw[List.getElem?_set]at h;split at h
 ·next e=>
  split at h
  ·exact .inl ⟨e.symm,(oI h).symm⟩
  ·cases h
 ·next e=>exact .inr ⟨λc=>e c.symm,h⟩
structure GX(hb g:aa)(X:Nat->Prop)(vs:List Value)(F:List (List Nat)):Prop where
 len:vs.length=F.length
 own:∀(i:Nat)(v:Value)(l:List Nat),vs[i]?=some v->F[i]?=some l->dQ hb g 3 v (l.map iv)
 Vk:∀(i j:Nat)(v v':Value),i≠j->vs[i]?=some v->vs[j]?=some v'->∀k,bG v=some k->bG v'≠some k
 out:∀(i:Nat)(v:Value),vs[i]?=some v->∀k,bG v=some k->¬X k
section
variable {hb g:aa} {X:Nat->Prop} {vs:List Value} {F:List (List Nat)}
theorem GX.fc(f:GX hb g X vs F){g':aa}(h:∀(k:Nat) (B:bO),¬X k->g.get k=some B->g'.get k=some B):GX hb g' X vs F:=
 ⟨f.len,λi v l hv hl=>(f.own i v l hv hl).fc λk B hk hB=>h k B (f.out i v hv k hk) hB,f.Vk,f.out⟩
theorem GX.ok(f:GX hb g X vs F){g':aa}(o:Ok g g'):GX hb g' X vs F:=f.fc λk B _ hB=>o.ext k B hB
theorem GX.at_(f:GX hb g X vs F){i:Nat}{l:List Nat}(hl:F[i]?=some l):∃(a:Option Addr)(c:Nat),vs[i]?=some (.slice a l.length c)/\dQ hb g 3 (.slice a l.length c) (l.map iv):=by
 have hi:=(List.getElem?_eq_some_iff.1 hl).1;obtain⟨v,hv⟩:∃v,vs[i]?=some v:=⟨_,gE (by rw[f.len];exact hi)⟩
 have o:=f.own i v l hv hl;obtain⟨a,c,rfl⟩:=o.L5;rw[lM]at*;exact⟨a,c,hv,o⟩
theorem GX.snoc(w:Wf hb)(ok:Ok hb g)(f:GX hb g X vs F)(hX:∀k,X k->k<g.next){idx:Nat}{v:Value}{l:List Nat}(hv:vs[idx]?=some v)(hl:F[idx]?=some l){x:Nat}{kx:Nat}(hkx:g.get kx=some (.cells [.int .i64 (x:Int)] 3 1 true))(hll:l.length<=100000):
  ∃(b:Option Addr)(n c:Nat)(u:cX),aO SS.P 32 32 v (.slice (some ⟨kx,0,none⟩) 1 1) g=some (.slice b n c,u)/\n=l.length+1/\GX hb (u.app g) X (vs.set idx (.slice b n c)) (F.set idx (l++[x]))/\Ok hb (u.app g)/\
   (∀j B,g.get j=some B->bG v≠some j->(u.app g).get j=some B)/\g.next<=(u.app g).next:=by
 have ov:=f.own idx v l hv hl;obtain⟨b,n,c,u,a1,a2,a3,a4,a5,a6,a7⟩:=OQ w ok ov hkx (by rw[lM];exact hll);rw[lM]at a2;refine⟨b,n,c,u,a1,a2,⟨by rw[length_set,length_set];exact f.len,λi v' l' hv' hl'=>?_,λi j v1 v2 hij h1 h2 k hk1 hk2=>?_,λi v' hv' k hk hXk=>?_⟩,a4,a5,a7⟩
 ·rcases cL hv' with⟨e1,rfl⟩|⟨e1,h1⟩
  ·rcases cL hl' with⟨_,rfl⟩|⟨e2,_⟩
   ·rw[List.map_append];exact a3
   ·exact absurd e1 e2
  ·rcases cL hl' with⟨e2,_⟩|⟨_,h2⟩
   ·exact absurd e2 e1
   ·exact(f.own i v' l' h1 h2).fc λk B hk hB=>a5 k B hB λc=>f.Vk i idx v' v e1 h1 hv k hk c
 ·have lt:∀(j:Nat)(v2:Value),vs[j]?=some v2->bG v2=some k->k<g.next:=λj v2 h2 hk2=>by
   obtain⟨l2,hl2⟩:∃l2,F[j]?=some l2:=⟨_,gE (by rw[<-f.len];exact(List.getElem?_eq_some_iff.1 h2).1)⟩
   exact((f.own j v2 l2 h2 hl2).lt ok.wf hk2).1
  rcases cL h1 with⟨e1,rfl⟩|⟨e1,h1⟩
  ·rcases cL h2 with⟨e2,_⟩|⟨e2,h2⟩
   ·exact hij (by rw[e1,e2])
   ·rcases a6 k hk1 with h3|h3
    ·have:=lt j v2 h2 hk2;omega
    ·exact f.Vk idx j v v2 (λc=>e2 c.symm) hv h2 k h3 hk2
  ·rcases cL h2 with⟨e2,rfl⟩|⟨e2,h2⟩
   ·rcases a6 k hk2 with h3|h3
    ·have:=lt i v1 h1 hk1;omega
    ·exact f.Vk idx i v v1 (λc=>e1 c.symm) hv h1 k h3 hk1
   ·exact f.Vk i j v1 v2 hij h1 h2 k hk1 hk2
 ·rcases cL hv' with⟨e1,rfl⟩|⟨e1,h1⟩
  ·rcases a6 k hk with h3|h3
   ·have:=hX k hXk;omega
   ·exact f.out idx v hv k h3 hXk
  ·exact f.out i v' h1 k hk hXk
end
structure Us(hb:aa)(R:Nat)(kt:Nat->Nat)(N:Nat)(X:Nat->Prop)(vs:List Value)(F:List (List Nat))(g:aa):Prop where
 cc:∀r,r<R->g.get (kt r)=some (.cells ((vs.drop (r*N)).take N) 32 1 true)
 L0:GX hb g X vs F
 ok:Ok hb g
 len:F.length=R*N+1
 xt:∀r,r<R->X (kt r)/\hb.next<=kt r
 inj:∀r r',r<R->r'<R->r≠r'->kt r≠kt r'
 Xs:∀k,X k->k<g.next
section
variable {hb g:aa} {R:Nat} {kt:Nat->Nat} {N:Nat} {X:Nat->Prop} {vs:List Value} {F:List (List Nat)}
theorem Us.ext(s:Us hb R kt N X vs F g){g':aa}(o:Ok g g'):Us hb R kt N X vs F g':=
 ⟨λr hr=>o.ext _ _ (s.cc r hr),s.L0.ok o,s.ok.trans o,s.len,s.xt,s.inj,λk hk=>lt_of_lt_of_le (s.Xs k hk) o.nx⟩
theorem OI{r i:Nat}(hr:r<R)(hi:i<N):r*N+i<R*N+1:=by
 have:(r+1)*N<=R*N:=Nat.mul_le_mul_right _ hr;rw[add_mul,one_mul]at this;omega
theorem Us.ld(s:Us hb R kt N X vs F g){r i:Nat}(hr:r<R)(hi:i<N):∃(l:List Nat)(a:Option Addr)(c:Nat),F[r*N+i]?=some l/\vs[r*N+i]?=some (.slice a l.length c)/\af SS.P 27 (.slice (some ⟨kt r,0,none⟩) N N) (.int .i64 (i:Int))=some (.pointer (some ⟨kt r,i,none⟩))/\∀g',Us hb R kt N X vs F g'->ai SS.P 32 g' (.pointer (some ⟨kt r,i,none⟩))=some (.slice a l.length c)/\Rd g' 3 (.slice a l.length c) (l.map iv):=by
 have hlt:=OI hr hi;obtain⟨l,hl⟩:∃l,F[r*N+i]?=some l:=⟨_,gE (by rw[s.len];exact hlt)⟩
 obtain⟨a,c,hv,_⟩:=s.L0.at_ hl;refine⟨l,a,c,hl,hv,?_,λg' s'=>⟨?_,?_⟩⟩
 ·have:=Fw (P:=SS.P) LC wb (k:=kt r) (off:=0) (n:=N) (c:=N) (ik:= .i64) (i:=(i:Int)) (by omega) (by omega);rw[this,toNat_natCast,Nat.zero_add,Nat.mul_one]
 ·have h1:((vs.drop (r*N)).take N)[i]?=some (.slice a l.length c):=by rw[getElem?_take,if_pos hi,getElem?_drop];exact hv
  rw[gG ll yc (s'.cc r hr) (List.getElem?_eq_some_iff.1 h1).1,gD,h1];rfl
 ·exact(s'.L0.own _ _ _ hv hl).rd
theorem Az{α:Type}(vs:List α)(o N i:Nat)(x:α)(hi:i<N):((vs.set (o+i) x).drop o).take N=((vs.drop o).take N).set i x:=by
 rw[List.drop_set,if_neg (by omega),show o+i-o=i by omega,List.take_set]
theorem CT{α:Type}(vs:List α)(o N j:Nat)(x:α)(h:j<o\/o+N<=j):((vs.set j x).drop o).take N=(vs.drop o).take N:=by
 apply List.ext_getElem?;intro i;rw[getElem?_take,getElem?_take,getElem?_drop,getElem?_drop];split
 ·rw[List.getElem?_set,if_neg (by omega)]
 ·rfl
theorem Us.put(w:Wf hb)(s:Us hb R kt N X vs F g){r i:Nat}(hr:r<R)(hi:i<N){vs':List Value}{F':List (List Nat)}{b:Option Addr}{n c:Nat}{l':List Nat}(ev:vs'=vs.set (r*N+i) (.slice b n c))(eF:F'=F.set (r*N+i) l'){g2:aa}(fm:GX hb g2 X vs' F')(ok2:Ok hb g2)(hk:∀j B,g.get j=some B->X j->g2.get j=some B)(hn:g.next<=g2.next):
  ∃u:cX,aw SS.P 32 (.pointer (some ⟨kt r,i,none⟩)) (.slice b n c) g2=some (undef,u)/\Us hb R kt N X vs' F' (u.app g2)/\(∀j B,g2.get j=some B->j≠kt r->(u.app g2).get j=some B):=by
 have hc:=hk _ _ (s.cc r hr) (s.xt r hr).1;have hlt:=OI hr hi;have hl:i<((vs.drop (r*N)).take N).length:=by
  have h1:(R*N+1)=vs.length:=by rw[s.L0.len,s.len]
  have h2:(r+1)*N<=R*N:=Nat.mul_le_mul_right _ hr;rw[add_mul,one_mul]at h2;rw[List.length_take,length_drop];omega
 refine⟨_,vr wb hc hl (mo _ _ _) rfl,?_,λj B hj hne=>?_⟩
 ·have hset:∀j,j≠kt r->((cX.set (kt r) (.cells (((vs.drop (r*N)).take N).set i (.slice b n c)) 32 1 true)).app g2).get j=g2.get j:=λj hj=>by
   show(g2.set (kt r) _).get j=_;rw[aa.aX,if_neg hj]
  refine⟨λr' hr'=>?_,fm.fc λk B hX hB=>?_,ok2.set _ (s.xt r hr).2 (ok2.wf _ _ hc) w,by rw[eF,length_set];exact s.len,s.xt,s.inj,λk hX=>lt_of_lt_of_le (s.Xs k hX) hn⟩
  ·by_cases e:r'=r
   ·subst e;show(g2.set (kt r') _).get (kt r')=_;rw[aa.aX,if_pos rfl,ev,Az _ _ _ _ _ hi]
   ·rw[hset _ (s.inj r' r hr' hr e),hk _ _ (s.cc r' hr') (s.xt r' hr').1,ev,CT];rcases lt_or_ge r r' with h1|h1
    ·have:=Nat.mul_le_mul_right N (show r+1<=r' from h1);rw[add_mul,one_mul]at this;exact .inl (by omega)
    ·have:=Nat.mul_le_mul_right N (show r'+1<=r by omega);rw[add_mul,one_mul]at this;exact .inr (by omega)
  ·rw[hset k (λc=>hX (c▸(s.xt r hr).1))];exact hB
 ·show(g2.set (kt r) _).get j=_;rw[aa.aX,if_neg hne];exact hj
end
theorem Jz{g:aa}(w:Wf g){n j:Nat}(hj:j<n)(B:bO):Ok g (bj (Go.Ab.room g n) g.next [(j,B)])/\(bj (Go.Ab.room g n) g.next [(j,B)]).get (g.next+j)=some B:=by
 refine⟨((Ok.refl w).room n).set B (Nat.le_add_right _ _) (Nat.add_lt_add_left hj _) w,?_⟩;show((Go.Ab.room g n).set (g.next+j) B).get (g.next+j)=_;rw[aa.aX,if_pos rfl]
end
theorem Jq{P:Program}{t:TypeId}{g g':aa}(o:Ok g g'){a v:Value}(h:ai P t g a=some v):ai P t g' a=some v:=by
 unfold ai at h⊢;split at h
 ·next d k i hd=>
  split at h
  ·next cs e sz wr hk=>
   rw[o.ext _ _ hk];exact h
  ·cases h
 ·cases h
noncomputable def Uw:TypeInfo:=(SS.P.info? 32).getD default
theorem RH:SS.P.info? 32=some Uw:=by kernel_rfl
theorem LO:Uw.size=1:=by kernel_rfl
theorem IH:Uw.bytes=24:=by kernel_rfl
def zh:Value:= .slice none 0 0
theorem UF:zeroOf SS.P 32=some zh:=by kernel_rfl
theorem Yj(n:Nat)(hn:n<=100000):bL SS.P 27 (.int .i64 (n:Int)) (.int .i64 (n:Int))=some (.cells (List.replicate n zh) 32 1 true,my n n):=by
 unfold bL aS;dsimp only;rw[LC]
 try dsimp only
 change (match SS.P.info? 32,zeroOf SS.P 32 with
  |some i,some z=>(if z.cells.size=i.size/\0<i.size/\(0:Int)<=(n:Int)/\(n:Int)<=(n:Int)/\(n:Int)*i.bytes<=140737488355328/\(n:Int)<=1099511627776 then some (bO.cells (cd z.cells.toList (n:Int).toNat) 32 i.size true,λk=>Value.slice (some ⟨k,0,none⟩) (n:Int).toNat (n:Int).toNat)else none)
  |_,_=>none)=_
 rw[RH,UF];dsimp only;rw[LO,IH,if_pos ⟨rfl,by omega,by omega,Int.le_refl _,by omega,by omega⟩];have e:((n:Int)).toNat=n:=by omega
 rw[e,show(zh).cells.toList=[zh]from rfl,qp];rfl
def wa(s:lA):List Nat:=s.bq.map λq=>q.t.toNat
def vZ(M:bA)(y x:Nat):Prop:=∃s,M.aq[y]?=some s/\x∈wa s
def RX(M:bA)(i j y x:Nat):Prop:=(y<i/\vZ M y x)\/(y=i/\∃s,M.aq[i]?=some s/\x∈(wa s).take j)
theorem zt{M:bA}{i y x:Nat}:RX M i 0 y x↔y<i/\vZ M y x:=by
 unfold RX;constructor
 ·rintro(h|⟨_,s,_,h⟩)
  ·exact h
  ·rw[take_zero]at h;cases h
 ·exact .inl
theorem N4{M:bA}{i j y x:Nat}{s:lA}(hs:M.aq[i]?=some s)(hj:s.bq.length<=j):RX M i j y x↔y<i+1/\vZ M y x:=by
 unfold RX;constructor
 ·rintro(⟨h1,h2⟩|⟨rfl,s',h1,h2⟩)
  ·exact⟨by omega,h2⟩
  ·exact⟨by omega,s',h1,List.mem_of_mem_take h2⟩
 ·rintro⟨h1,h2⟩;rcases lt_or_ge y i with h3|h3
  ·exact .inl ⟨h3,h2⟩
  ·obtain rfl:y=i:=by omega
   obtain⟨s',h4,h5⟩:=h2;refine .inr ⟨rfl,s',h4,?_⟩;rw[hs]at h4;obtain rfl:=oI h4;rw[take_of_length_le (by unfold wa;rw[lM];exact hj)];exact h5
theorem N5{M:bA}{i j y x:Nat}{s:lA}{q:dO}(hs:M.aq[i]?=some s)(hq:s.bq[j]?=some q):RX M i (j+1) y x↔RX M i j y x\/(y=i/\x=q.t.toNat):=by
 have hq':(wa s)[j]?=some q.t.toNat:=by unfold wa;rw[getElem?_map,hq];rfl
 have ht:(wa s).take (j+1)=(wa s).take j++[q.t.toNat]:=by rw[take_add_one,hq'];rfl
 unfold RX;constructor
 ·rintro(h|⟨h1,s',h2,h3⟩)
  ·exact .inl (.inl h)
  ·rw[hs]at h2;obtain rfl:=oI h2;rw[ht,mem_append,mem_singleton]at h3;rcases h3 with h3|h3
   ·exact .inl (.inr ⟨h1,s,hs,h3⟩)
   ·exact .inr ⟨h1,h3⟩
 ·rintro((h|⟨h1,s',h2,h3⟩)|⟨h1,h2⟩)
  ·exact .inl h
  ·rw[hs]at h2;obtain rfl:=oI h2;exact .inr ⟨h1,s,hs,by rw[ht];exact mem_append.2 (.inl h3)⟩
  ·exact .inr ⟨h1,s,hs,by rw[ht,h2];exact mem_append.2 (.inr (mem_singleton.2 rfl))⟩
theorem GX.lt{hb g:aa}{X:Nat->Prop}{vs:List Value}{F:List (List Nat)}(f:GX hb g X vs F)(w:Wf g){i:Nat}{v:Value}(hv:vs[i]?=some v){k:Nat}(hk:bG v=some k):k<g.next:=by
 obtain⟨l2,hl2⟩:∃l2,F[i]?=some l2:=⟨_,gE (by rw[<-f.len];exact(List.getElem?_eq_some_iff.1 hv).1)⟩
 exact((f.own i v l2 hv hl2).lt w hk).1
noncomputable def S8:FD:=dJ Tryz.f17 []
theorem QM(mv:LV)(h:aa)(Q:VH)(hx:xN (jI SS.P 24 (.agg ⟨mv⟩)) h λB1 g2=>xA (ai SS.P 24 g2 (pA (h.next))) λc3=>FW SS 30 [(.agg ⟨c3⟩)] g2 λv4 h5=>yB v4 λb6=>aF (!b6) (Q (.int .i64 1) h5) (xA (ai SS.P 24 h5 (pA (h.next))) λc7=>FW SS 31 [(.agg ⟨c7⟩)] h5 λv8 h9=>yB v8 λb10=>aF (!b10) (Q (.int .i64 6) h9) (Q (.int .i64 0) h9))):FW SS 17 [(.agg ⟨mv⟩)] h Q:=dM S8 Tryz.func17 (au hx)
noncomputable def Ud:FD:=dJ Tryz.f19 []
theorem Q8(mv:LV)(h:aa)(Q:VH)(hx:xN (jI SS.P 24 (.agg ⟨mv⟩)) h λB1 g2=>xA (ai SS.P 24 g2 (pA (h.next))) λc3=>FW SS 33 [(.agg ⟨c3⟩)] g2 λv4 h5=>yB v4 λb6=>aF (!b6) (Q (.int .i64 1) h5) (xA (ai SS.P 24 h5 (pA (h.next))) λc7=>FW SS 34 [(.agg ⟨c7⟩)] h5 λv8 h9=>yB v8 λb10=>aF (!b10) (Q (.int .i64 6) h9) (Q (.int .i64 0) h9))):FW SS 19 [(.agg ⟨mv⟩)] h Q:=dM Ud Tryz.func19 (au hx)
noncomputable def Qy:FD:=dJ Tryz.f5 []
theorem Ns(mv:LV)(h:aa)(Q:VH)(hx:xN (jI SS.P 24 (.agg ⟨mv⟩)) h λB1 g2=>xP (ah SS.P 24 (pA (h.next)) 3) λp3=>xL (ai SS.P 22 g2 (.pointer (some p3))) λa4 n5 c6=>aF (decide (((n5:Int):Int)>12)) (Q (.bool true) g2) (xA (ai SS.P 24 g2 (pA (h.next))) λc7=>FW SS 11 [(.agg ⟨c7⟩)] g2 λv8 h9=>yI .i64 v8 λn10=>Q (.bool (decide ((n10:Int)>40))) h9)):FW SS 5 [(.agg ⟨mv⟩)] h Q:=dM Qy Tryz.func5 (au hx)
noncomputable def nD:FD:=dJ Tryz.f35 [([1,1,0,1,0,0],[0,1,4,5])]
abbrev j6(a:OA)(n c:Nat)(b:OA)(m d:Nat)(i:Nat):LV:=[(.slice a n c),(.slice b m d),(.int .i64 0),(iA i)]
theorem MI(a:OA)(n c:Nat)(b:OA)(m d:Nat)(h:aa)(Q:VH)(hx:aF ((((n:Int):Int) !=(m:Int))) (aF (decide (((n:Int):Int)<(m:Int))) (Q (.int .i64 (-1)) h) (Q (.int .i64 1) h)) (LL SS nD [1,1,0,1,0,0] (j6 a n c b m d 0) h (KK SS nD [1,1,0,1,0] [] (EE SS nD Q)))):FW SS 35 [(.slice a n c),(.slice b m d)] h Q:=dM nD Tryz.func35 (au hx)
theorem uI(a:OA)(n c:Nat)(b:OA)(m d:Nat)  (Inv:Nat->Nat->aa->Prop) (Q:VH) (step:∀(mz:Nat)(i:Nat)(zz:Nat->Value)(h:aa),Inv mz i h->aF (decide (((i:Int):Int)<(n:Int))) (xP (af SS.P 32 (.slice a n c) (iA i)) λp1=>xI .i64 (ai SS.P 3 (room h 9) (.pointer (some p1))) λn2=>xP (af SS.P 32 (.slice b m d) (iA i)) λp3=>xI .i64 (ai SS.P 3 (room h 9) (.pointer (some p3))) λn4=>aF (decide ((n2:Int)<n4)) (Q (.int .i64 (-1)) (room h 9)) (xP (af SS.P 32 (.slice a n c) (iA i)) λp5=>xI .i64 (ai SS.P 3 (room (room h 9) 9) (.pointer (some p5))) λn6=>xP (af SS.P 32 (.slice b m d) (iA i)) λp7=>xI .i64 (ai SS.P 3 (room (room h 9) 9) (.pointer (some p7))) λn8=>aF (decide ((n6:Int)>n8)) (Q (.int .i64 1) (room (room h 9) 9)) (aH (iR (j6 a n c b m d) Inv) mz [(.slice a n c),(.slice b m d),(.int .i64 0),(.int .i64 (wrap .i64 ((i:Int)+1)))] (room (room h 9) 9)))) (Q (.int .i64 0) h)) (mz:Nat) {i:Nat} {h:aa} (hi:Inv mz i h):LL SS nD [1,1,0,1,0,0] (j6 a n c b m d i) h (KK SS nD [1,1,0,1,0] [] (EE SS nD Q)):=
 dK (j6 a n c b m d) Inv (λmz i zz h hi=>au (step mz i zz h hi)) mz hi
noncomputable def oj:FD:=dJ Tryz.f9 [([1,1,0,1,0,0],[0,1,4,5])]
abbrev kf(a:OA)(n c:Nat)(b:OA)(m d:Nat)(i:Nat):LV:=[(.slice a n c),(.slice b m d),(.bool false),(iA i)]
theorem OF(a:OA)(n c:Nat)(b:OA)(m d:Nat)(h:aa)(Q:VH)(hx:aF ((((n:Int):Int) !=(m:Int))) (Q (.bool false) h) (LL SS oj [1,1,0,1,0,0] (kf a n c b m d 0) h (KK SS oj [1,1,0,1,0] [] (EE SS oj Q)))):FW SS 9 [(.slice a n c),(.slice b m d)] h Q:=dM oj Tryz.func9 (au hx)
theorem vo(a:OA)(n c:Nat)(b:OA)(m d:Nat)  (Inv:Nat->Nat->aa->Prop) (Q:VH) (step:∀(mz:Nat)(i:Nat)(zz:Nat->Value)(h:aa),Inv mz i h->aF (decide (((i:Int):Int)<(n:Int))) (xP (af SS.P 32 (.slice a n c) (iA i)) λp1=>xI .i64 (ai SS.P 3 (room h 9) (.pointer (some p1))) λn2=>xP (af SS.P 32 (.slice b m d) (iA i)) λp3=>xI .i64 (ai SS.P 3 (room h 9) (.pointer (some p3))) λn4=>aF (((n2:Int) !=n4)) (Q (.bool false) (room h 9)) (aH (iR (kf a n c b m d) Inv) mz [(.slice a n c),(.slice b m d),(.bool false),(.int .i64 (wrap .i64 ((i:Int)+1)))] (room h 9))) (Q (.bool true) h)) (mz:Nat) {i:Nat} {h:aa} (hi:Inv mz i h):LL SS oj [1,1,0,1,0,0] (kf a n c b m d i) h (KK SS oj [1,1,0,1,0] [] (EE SS oj Q)):=
 dK (kf a n c b m d) Inv (λmz i zz h hi=>au (step mz i zz h hi)) mz hi
noncomputable def Ri:FD:=dJ Tryz.f32 []
theorem Om(s d:Int)(k4 k5:Nat)(h:aa)(Q:VH)(hx:xL (ai SS.P 32 h (pA k4)) λa1 n2 c3=>xP (af SS.P 32 (.slice a1 n2 c3) (.int .i64 s)) λp4=>xI .i64 (ai SS.P 3 h (.pointer (some p4))) λn5=>aF (decide ((n5:Int)<0)) (xL (ai SS.P 32 h (pA k4)) λa6 n7 c8=>xP (af SS.P 32 (.slice a6 n7 c8) (.int .i64 s)) λp9=>xU (aw SS.P 3 (.pointer (some p9)) (.int .i64 d) h) h λPs HK=>xL (ai SS.P 32 HK (pA k5)) λa12 n13 cm=>xR (aI SS.P 32 1 [(0,(.int .i64 s))]) HK λB15 n16 c17 g18=>xE (aO SS.P 32 32 (.slice a12 n13 cm) (sA (HK.next) n16 c17) g18) g18 λa19 n20 c21 u22 g23=>xU (aw SS.P 32 (pA k5) (.slice a19 n20 c21) g23) g23 λu24 g25=>Q (.tuple ⟨[]⟩) g25) (Q (.tuple ⟨[]⟩) h)):FW SS 32 [(.int .i64 s),(.int .i64 d),(pA k4),(pA k5)] h Q:=dM Ri Tryz.func32 (au hx)
noncomputable def bT:FD:=dJ Tryz.f18 [([1,1,1,1,1,0,1,0,0],[1,2,3,4,5,6,26,27,28]),([1,1,1,1,1,0,1,0,0,1,1,0,0,1,1,1,0,0],[1,2,3,4,5,6,7,8,26,27,28,37,38,39]),([1,1,1,1,1,1,0,1,0,0],[1,2,3,4,5,6,58,59,60]),([1,1,1,1,1,1,1,0,1,0,0],[1,2,3,4,5,6,13]),([1,1,1,1,1,1,1,0,1,0,0,1,0,0,1,0,0],[1,2,3,4,5,6,13,84,85,86])]
abbrev jx(k N kb k4 k5:Nat)(a:OA)(n c:Nat)(i:Nat):LV:=[(pA k),nA,(sA kb N N),(pA k4),(pA k5),(.func (.func 32) ⟨[]⟩ ⟨[(pA k4),(pA k5)]⟩),(.slice a n c),(iA n),(iA i)]
abbrev kT(k N kb k4 k5:Nat)(a:OA)(n c k8:Nat)(b:OA)(m d i:Nat)(j:Nat):LV:=[(pA k),nA,(sA kb N N),(pA k4),(pA k5),(.func (.func 32) ⟨[]⟩ ⟨[(pA k4),(pA k5)]⟩),(iA i),(pA k8),(.slice a n c),(iA n),(iA i),(.slice b m d),(iA m),(iA j)]
abbrev jy(k N kb k4 k5:Nat)(a:OA)(n c:Nat)(i:Nat):LV:=[(pA k),nA,(sA kb N N),(pA k4),(pA k5),(.func (.func 32) ⟨[]⟩ ⟨[(pA k4),(pA k5)]⟩),(.slice a n c),(iA n),(iA i)]
abbrev ix(k N kb k4 k5:Nat)(i:Nat):LV:=[(pA k),nA,(sA kb N N),(pA k4),(pA k5),(.func (.func 32) ⟨[]⟩ ⟨[(pA k4),(pA k5)]⟩),(iA i)]
abbrev kU(k N kb k4 k5:Nat)(b:OA)(m d i:Nat)(j:Nat):LV:=[(pA k),nA,(sA kb N N),(pA k4),(pA k5),(.func (.func 32) ⟨[]⟩ ⟨[(pA k4),(pA k5)]⟩),(iA i),(.slice b m d),(iA m),(iA j)]
theorem QE(mv:LV)(h:aa)(Q:VH)(hx:xN (jI SS.P 24 (.agg ⟨mv⟩)) h λB1 g2=>xP (ah SS.P 24 (pA (h.next)) 3) λp3=>xL (ai SS.P 22 g2 (.pointer (some p3))) λa4 n5 c6=>xR (bL SS.P 27 (iA n5) (iA n5)) g2 λB7 n8 c9 yT=>xP (ah SS.P 24 (pA (h.next)) 3) λp11=>xL (ai SS.P 22 yT (.pointer (some p11))) λa12 n13 cm=>xR (bL SS.P 32 (iA n13) (iA n13)) yT λB15 n16 c17 g18=>xN (cq SS.P 32) g18 λB19 g20=>xU (aw SS.P 32 (pA (g18.next)) (sA (yT.next) n16 c17) g20) g20 λu21 g22=>xN (cq SS.P 32) g22 λB23 g24=>xP (ah SS.P 24 (pA (h.next)) 3) λp25=>xL (ai SS.P 22 g24 (.pointer (some p25))) λa26 n27 c28=>LL SS bT [1,1,1,1,1,0,1,0,0] [(pA (h.next)),nA,(sA (g2.next) n8 c9),(pA (g18.next)),(pA (g22.next)),(.func (.func 32) ⟨[]⟩ ⟨[(pA (g18.next)),(pA (g22.next))]⟩),(.slice a26 n27 c28),(iA n27),(.int .i64 0)] g24 (KK SS bT [1,1,1,1,1,0,1,0] [] (EE SS bT Q))):FW SS 18 [(.agg ⟨mv⟩)] h Q:=dM bT Tryz.func18 (au hx)
theorem wF(mv:LV)(k N kb k4 k5:Nat)(a:OA)(n c:Nat)(Inv:Nat->Nat->aa->Prop)(Q:VH)(step:∀(mz:Nat) (i:Nat) (zz:Nat->Value) (h:aa),Inv mz i h->aF (decide (((i:Int):Int)<(n:Int))) (xP (af SS.P 22 (.slice a n c) (iA i)) λp29=>xA (ai SS.P 38 h (.pointer (some p29))) λc30=>xN (cq SS.P 38) h λB31 g32=>xU (aw SS.P 38 (pA (h.next)) (.agg ⟨c30⟩) g32) g32 λu33 g34=>xL (ai SS.P 32 g34 (pA k4)) λa35 n36 c37=>xP (af SS.P 32 (.slice a35 n36 c37) (iA i)) λp38=>xU (aw SS.P 3 (.pointer (some p38)) (.int .i64 (-1)) g34) g34 λu39 g40=>xP (ah SS.P 38 (pA (h.next)) 1) λp41=>xL (ai SS.P 36 g40 (.pointer (some p41))) λa42 n43 c44=>LL SS bT [1,1,1,1,1,0,1,0,0,1,1,0,0,1,1,1,0,0] (kT k N kb k4 k5 a n c (h.next) a42 n43 c44 i 0) g40 (KK SS bT [1,1,0,0,1,1,1,0] [1,1,1,1,1,0,1,0,0] (RR bT [1,1,1,1,1,0,1,0,0] (iR (jx k N kb k4 k5 a n c) Inv) mz (KK SS bT [1,1,1,1,1,0,1,0] [] (EE SS bT Q))))) (xP (ah SS.P 24 (pA k) 3) λp45=>xL (ai SS.P 22 h (.pointer (some p45))) λa46 n47 c48=>LL SS bT [1,1,1,1,1,1,0,1,0,0] (jy k N kb k4 k5 a46 n47 c48 0) h (KK SS bT [1,1,1,1,1,1,0,1,0] [] (EE SS bT Q))))(mz:Nat){i:Nat}{h:aa}(hi:Inv mz i h):LL SS bT [1,1,1,1,1,0,1,0,0] (jx k N kb k4 k5 a n c i) h (KK SS bT [1,1,1,1,1,0,1,0] [] (EE SS bT Q)):=
 dK (jx k N kb k4 k5 a n c) Inv (λmz i zz h hi=>au (step mz i zz h hi)) mz hi
theorem wG(mv:LV)(k N kb k4 k5:Nat)(a:OA)(n c k8:Nat)(b:OA)(m d:Nat)(Inv:Nat->Nat->aa->Prop)(mz i:Nat)(Inv2:Nat->Nat->aa->Prop)(Q:VH)(step:∀(mz2:Nat) (j:Nat) (zz:Nat->Value) (h:aa),Inv2 mz2 j h->aF (decide (((j:Int):Int)<(m:Int))) (xP (af SS.P 36 (.slice b m d) (iA j)) λp49=>xA (ai SS.P 34 h (.pointer (some p49))) λc50=>xN (cq SS.P 34) h λB51 g52=>xU (aw SS.P 34 (pA (h.next)) (.agg ⟨c50⟩) g52) g52 λu53 g54=>xP (ah SS.P 34 (pA (h.next)) 3) λp55=>xI .i64 (ai SS.P 3 (room g54 13) (.pointer (some p55))) λn56=>xP (ah SS.P 34 (pA (h.next)) 3) λp57=>xI .i64 (ai SS.P 3 (room g54 13) (.pointer (some p57))) λn58=>xP (af SS.P 27 (sA kb N N) (.int .i64 n58)) λp59=>xL (ai SS.P 32 (room g54 13) (.pointer (some p59))) λa60 n61 c62=>zR (aI SS.P 32 1 [(0,(iA i))]) λB63 n64 c65=>xE (aO SS.P 32 32 (.slice a60 n61 c62) (sA (g54.next+9) n64 c65) (bj (room g54 13) g54.next [(9,B63)])) (bj (room g54 13) g54.next [(9,B63)]) λa66 n67 c68 u69 g70=>xP (af SS.P 27 (sA kb N N) (.int .i64 n56)) λp71=>xU (aw SS.P 32 (.pointer (some p71)) (.slice a66 n67 c68) g70) g70 λu72 g73=>(ai SS.P 3 g70 (.pointer (some p55))=some (.int .i64 n56)/\mq 4 (.int .i64 n56) (.int .i64 n56)=true)/\aH (iR (kT k N kb k4 k5 a n c k8 b m d i) Inv2) mz2 [(pA k),nA,(sA kb N N),(pA k4),(pA k5),(.func (.func 32) ⟨[]⟩ ⟨[(pA k4),(pA k5)]⟩),(iA i),(pA k8),(.slice a n c),(iA n),(iA i),(.slice b m d),(iA m),(.int .i64 (wrap .i64 ((j:Int)+1)))] g73) (aH (iR (jx k N kb k4 k5 a n c) Inv) mz [(pA k),nA,(sA kb N N),(pA k4),(pA k5),(.func (.func 32) ⟨[]⟩ ⟨[(pA k4),(pA k5)]⟩),(.slice a n c),(iA n),(.int .i64 (wrap .i64 ((i:Int)+1)))] h))(mz2:Nat){j:Nat}{h:aa}(hi:Inv2 mz2 j h):LL SS bT [1,1,1,1,1,0,1,0,0,1,1,0,0,1,1,1,0,0] (kT k N kb k4 k5 a n c k8 b m d i j) h (KK SS bT [1,1,0,0,1,1,1,0] [1,1,1,1,1,0,1,0,0] (RR bT [1,1,1,1,1,0,1,0,0] (iR (jx k N kb k4 k5 a n c) Inv) mz (KK SS bT [1,1,1,1,1,0,1,0] [] (EE SS bT Q)))):=
 dK (kT k N kb k4 k5 a n c k8 b m d i) Inv2 (λmz2 j zz h hi=>au (step mz2 j zz h hi)) mz2 hi
theorem wH(mv:LV)(k N kb k4 k5:Nat)(a:OA)(n c:Nat)(Inv3:Nat->Nat->aa->Prop)(Q:VH)(step:∀(mz3:Nat) (i:Nat) (zz:Nat->Value) (h:aa),Inv3 mz3 i h->aF (decide (((i:Int):Int)<(n:Int))) (xP (af SS.P 22 (.slice a n c) (iA i)) λp74=>xA (ai SS.P 38 h (.pointer (some p74))) λc75=>xN (cq SS.P 38) h λB76 g77=>xU (aw SS.P 38 (pA (h.next)) (.agg ⟨c75⟩) g77) g77 λu78 g79=>xP (ah SS.P 38 (pA (h.next)) 0) λp80=>xS (ai SS.P 9 g79 (.pointer (some p80))) λl81=>aF (!((l81:LB)==[])) (FW SS 32 [(iA i),(.int .i64 0),(pA k4),(pA k5)] g79 λv82 h83=>v82=(.tuple ⟨[]⟩)/\aH (iR (jy k N kb k4 k5 a n c) Inv3) mz3 [(pA k),nA,(sA kb N N),(pA k4),(pA k5),(.func (.func 32) ⟨[]⟩ ⟨[(pA k4),(pA k5)]⟩),(.slice a n c),(iA n),(.int .i64 (wrap .i64 ((i:Int)+1)))] h83) (aH (iR (jy k N kb k4 k5 a n c) Inv3) mz3 [(pA k),nA,(sA kb N N),(pA k4),(pA k5),(.func (.func 32) ⟨[]⟩ ⟨[(pA k4),(pA k5)]⟩),(.slice a n c),(iA n),(.int .i64 (wrap .i64 ((i:Int)+1)))] g79)) (LL SS bT [1,1,1,1,1,1,1,0,1,0,0] (ix k N kb k4 k5 0) h (KK SS bT [1,1,1,1,1,1,1,0,1,0] [] (EE SS bT Q))))(mz3:Nat){i:Nat}{h:aa}(hi:Inv3 mz3 i h):LL SS bT [1,1,1,1,1,1,0,1,0,0] (jy k N kb k4 k5 a n c i) h (KK SS bT [1,1,1,1,1,1,0,1,0] [] (EE SS bT Q)):=
 dK (jy k N kb k4 k5 a n c) Inv3 (λmz3 i zz h hi=>au (step mz3 i zz h hi)) mz3 hi
theorem wI(mv:LV)(k N kb k4 k5:Nat)(Inv4:Nat->Nat->aa->Prop)(Q:VH)(step:∀(mz4:Nat) (i:Nat) (zz:Nat->Value) (h:aa),Inv4 mz4 i h->xL (ai SS.P 32 h (pA k5)) λa84 n85 c86=>aF (decide (((i:Int):Int)<(n85:Int))) (xL (ai SS.P 32 h (pA k5)) λa87 n88 c89=>xP (af SS.P 32 (.slice a87 n88 c89) (iA i)) λp90=>xI .i64 (ai SS.P 3 h (.pointer (some p90))) λn91=>xP (af SS.P 27 (sA kb N N) (.int .i64 n91)) λp92=>xL (ai SS.P 32 h (.pointer (some p92))) λa93 n94 c95=>LL SS bT [1,1,1,1,1,1,1,0,1,0,0,1,0,0,1,0,0] (kU k N kb k4 k5 a93 n94 c95 i 0) h (KK SS bT [1,0,0,1,0] [1,1,1,1,1,1,1,0,1,0,0] (RR bT [1,1,1,1,1,1,1,0,1,0,0] (iR (ix k N kb k4 k5) Inv4) mz4 (KK SS bT [1,1,1,1,1,1,1,0,1,0] [] (EE SS bT Q))))) (xL (ai SS.P 32 h (pA k4)) λa96 n97 c98=>Q (.slice a96 n97 c98) h))(mz4:Nat){i:Nat}{h:aa}(hi:Inv4 mz4 i h):LL SS bT [1,1,1,1,1,1,1,0,1,0,0] (ix k N kb k4 k5 i) h (KK SS bT [1,1,1,1,1,1,1,0,1,0] [] (EE SS bT Q)):=
 dK (ix k N kb k4 k5) Inv4 (λmz4 i zz h hi=>au (step mz4 i zz h hi)) mz4 hi
theorem wJ(mv:LV)(k N kb k4 k5:Nat)(b:OA)(m d:Nat)(Inv4:Nat->Nat->aa->Prop)(mz4 i:Nat)(Inv5:Nat->Nat->aa->Prop)(Q:VH)(step:∀(mz5:Nat) (j:Nat) (zz:Nat->Value) (h:aa),Inv5 mz5 j h->aF (decide (((j:Int):Int)<(m:Int))) (xP (af SS.P 32 (.slice b m d) (iA j)) λp99=>xI .i64 (ai SS.P 3 h (.pointer (some p99))) λn100=>xL (ai SS.P 32 (room h 11) (pA k4)) λa101 n102 c103=>xL (ai SS.P 32 (room h 11) (pA k5)) λa104 n105 c106=>xP (af SS.P 32 (.slice a104 n105 c106) (iA i)) λp107=>xI .i64 (ai SS.P 3 (room h 11) (.pointer (some p107))) λn108=>xP (af SS.P 32 (.slice a101 n102 c103) (.int .i64 n108)) λp109=>xI .i64 (ai SS.P 3 (room h 11) (.pointer (some p109))) λn110=>FW SS 32 [(.int .i64 n100),(.int .i64 (wrap .i64 (n110+1))),(pA k4),(pA k5)] (room h 11) λv111 h112=>v111=(.tuple ⟨[]⟩)/\aH (iR (kU k N kb k4 k5 b m d i) Inv5) mz5 [(pA k),nA,(sA kb N N),(pA k4),(pA k5),(.func (.func 32) ⟨[]⟩ ⟨[(pA k4),(pA k5)]⟩),(iA i),(.slice b m d),(iA m),(.int .i64 (wrap .i64 ((j:Int)+1)))] h112) (aH (iR (ix k N kb k4 k5) Inv4) mz4 [(pA k),nA,(sA kb N N),(pA k4),(pA k5),(.func (.func 32) ⟨[]⟩ ⟨[(pA k4),(pA k5)]⟩),(.int .i64 (wrap .i64 ((i:Int)+1)))] h))(mz5:Nat){j:Nat}{h:aa}(hi:Inv5 mz5 j h):LL SS bT [1,1,1,1,1,1,1,0,1,0,0,1,0,0,1,0,0] (kU k N kb k4 k5 b m d i j) h (KK SS bT [1,0,0,1,0] [1,1,1,1,1,1,1,0,1,0,0] (RR bT [1,1,1,1,1,1,1,0,1,0,0] (iR (ix k N kb k4 k5) Inv4) mz4 (KK SS bT [1,1,1,1,1,1,1,0,1,0] [] (EE SS bT Q)))):=
 dK (kU k N kb k4 k5 b m d i) Inv5 (λmz5 j zz h hi=>au (step mz5 j zz h hi)) mz5 hi
section
structure ZR(hb:aa)(kt N:Nat)(D:List Int)(g:aa):Prop where
 len:D.length=N
 row:uh hb kt 3 (D.map (Value.int .i64)) g
theorem ZR.trans{hb:aa}{kt N:Nat}{D:List Int}{g g':aa}(m:ZR hb kt N D g)(o:Ok g g'):ZR hb kt N D g':=⟨m.len,m.row.trans o⟩
theorem ZR.get{hb:aa}{kt N c:Nat}{D:List Int}{g:aa}(m:ZR hb kt N D g){x:Nat}(h1:x<N):af SS.P 32 (.slice (some ⟨kt,0,none⟩) N c) (.int .i64 (x:Int))=some (.pointer (some ⟨kt,x,none⟩))/\ai SS.P 3 g (.pointer (some ⟨kt,x,none⟩))=some (.int .i64 (D.getD x (-1)))/\
  ∀z:Int,Wf hb->∃u:cX,aw SS.P 3 (.pointer (some ⟨kt,x,none⟩)) (.int .i64 z) g=some (undef,u)/\ZR hb kt N (D.set x z) (u.app g)/\(∀k' B,g.get k'=some B->k'≠kt->(u.app g).get k'=some B)/\(u.app g).next=g.next:=by
 have e:0+(x:Int).toNat*1=x:=by omega
 have hl:x<D.length:=by rw[m.len];omega
 refine⟨?_,?_,?_⟩
 ·have:=Fw ll Pv (k:=kt) (off:=0) (n:=N) (c:=c) (ik:= .i64) (i:=(x:Int)) (by omega) (by omega);rwa[e]at this
 ·rw[gG GS GR m.row.row (by rw[lM];exact hl),gD,getElem?_map,gD,gE hl];rfl
 ·intro z w;refine⟨_,vr Pv m.row.row (by rw[lM];exact hl) rfl rfl,⟨by rw[length_set];exact m.len,?_⟩,λk' B hk hne=>?_,rfl⟩
  ·have:=m.row.set w x (.int .i64 z);rw[xy (Value.int .i64) D x z]at this⊢;exact this
  ·show(g.set kt _).get k'=_;rw[aa.aX,if_neg hne];exact hk
structure Ss(h:aa)(k4 k5 kl N:Nat)(D:List Int)(T:List Nat)(g:aa):Prop where
 b4:uf g k4 32 (.slice (some ⟨kl,0,none⟩) N N)
 b5:∃tv,uf g k5 32 tv/\dQ h g 3 tv (T.map iv)/\bG tv≠some kl/\bG tv≠some k4/\bG tv≠some k5
 row:ZR h kl N D g
 n4:h.next<=k4
 n5:h.next<=k5
 d1:k4≠kl
 d2:k5≠kl
 d3:k4≠k5
section
variable {h:aa} {k4 k5 kl N:Nat} {D:List Int} {T:List Nat} {g:aa}
theorem Ss.ext(s:Ss h k4 k5 kl N D T g){g':aa}(o:Ok g g'):Ss h k4 k5 kl N D T g':=by
 obtain⟨tv,t1,t2,t3⟩:=s.b5;exact⟨s.b4.ok o,⟨tv,t1.ok o,t2.ok o,t3⟩,s.row.trans o,s.n4,s.n5,s.d1,s.d2,s.d3⟩
theorem On(w:Wf h)(st:Ss h k4 k5 kl N D T g){s:Nat}(hs:s<N)(hT:T.length<=100000)(d:Int){X:Nat->Prop}(hX:∀k,X k->k<g.next/\k≠kl/\k≠k5/\∀tv,uf g k5 32 tv->bG tv≠some k):
  FW SS 32 [.int .i64 (s:Int),.int .i64 d,.pointer (some ⟨k4,0,none⟩),.pointer (some ⟨k5,0,none⟩)] g (λv g'=>v = .tuple ⟨[]⟩/\g.next<=g'.next/\Ok h g'/\(∀k B,X k->g.get k=some B->g'.get k=some B)/\(∀k,X k->∀tv,uf g' k5 32 tv->bG tv≠some k)/\
   ((¬D.getD s (-1)<0/\Ss h k4 k5 kl N D T g')\/(D.getD s (-1)<0/\Ss h k4 k5 kl N (D.set s d) (T++[s]) g'))):=by
 obtain⟨tv,t1,t2,t3,t4,t5⟩:=st.b5;obtain⟨r1,r2,r3⟩:=st.row.get (c:=N) hs;refine Om s d k4 k5 g _ ⟨_,_,_,st.b4.ld ll yc,_,r1,_,r2,ae (λq=>?_) (λq=>?_)⟩
 ·have q:=dT q;obtain⟨u,s1,s2,s3,s4⟩:=r3 d w;refine⟨_,_,_,st.b4.ld ll yc,_,r1,u,s1,?_⟩;have b4':uf (u.app g) k4 32 (.slice (some ⟨kl,0,none⟩) N N):=s3 _ _ st.b4 st.d1;have b5':uf (u.app g) k5 32 tv:=s3 _ _ t1 st.d2;have ow:dQ h (u.app g) 3 tv (T.map iv):=t2.fc λj B hj hB=>s3 j B hB (λe=>t3 (by rw[hj,e]));have kX:∀k B,X k->g.get k=some B->(u.app g).get k=some B:=λk B hk hB=>s3 k B hB (hX k hk).2.1;have nX:∀k,X k->bG tv≠some k:=λk hk=>(hX k hk).2.2.2 tv t1;have lX:∀k,X k->k<(u.app g).next:=λk hk=>by
   have h1:=(hX k hk).1;omega
  generalize u.app g=g1 at*;obtain⟨ta,tc,rfl⟩:=ow.L5;rw[lM]at*;refine⟨_,_,_,b5'.ld ll yc,?_⟩;have ok1:=s2.row.ok;have op:=(Ok.refl ok1.wf).push (.cells [.int .i64 (s:Int)] 3 1 true);have hk:=bF g1 (.cells [.int .i64 (s:Int)] 3 1 true);obtain⟨b,n',c',u2,a1,a2,a3,a4,a5,a6,a7⟩:=OQ w (ok1.trans op) (ow.ok op) hk (by rw[lM];exact hT);refine⟨_,_,_,yj _,b,n',c',u2,a1,?_⟩;have b4'':=a5 _ _ (b4'.ok op) t4;have b5'':uf (u2.app (g1.push (.cells [.int .i64 (s:Int)] 3 1 true))) k5 32 _:=a5 _ _ (b5'.ok op) t5;have rw2:=a5 _ _ (op.ext _ _ s2.row.row) t3;have kX2:∀k B,X k->g.get k=some B->(u2.app (g1.push (.cells [.int .i64 (s:Int)] 3 1 true))).get k=some B:=λk B hk hB=>a5 _ _ (op.ext _ _ (kX k B hk hB)) (nX k hk);have hgn:g1.next<=(g1.push (.cells [.int .i64 (s:Int)] 3 1 true)).next:=Nat.le_succ _;have l4:=ok1.wf _ _ b4';have l5:=ok1.wf _ _ b5';have lt:=s2.row.lt;generalize g1.push (.cells [.int .i64 (s:Int)] 3 1 true)=gp at*;generalize u2.app gp=g2 at*;have okf:Ok h ((cX.set k5 (.cells [.slice b n' c'] 32 0 true)).app g2):=a4.set _ st.n5 (a4.wf _ _ b5'') w;have hset:∀j,j≠k5->((cX.set k5 (.cells [.slice b n' c'] 32 0 true)).app g2).get j=g2.get j:=λj hj=>by
   show(g2.set k5 _).get j=_;rw[aa.aX,if_neg hj]
  have hself:((cX.set k5 (.cells [.slice b n' c'] 32 0 true)).app g2).get k5=some (.cells [.slice b n' c'] 32 0 true):=by
   show(g2.set k5 _).get k5=_;rw[aa.aX,if_pos rfl]
  have nb:∀j,bG (.slice ta T.length tc)≠some j->j<g1.next->bG (.slice b n' c')≠some j:=λj h1 h2 e=>by
   rcases a6 j e with h3|h3
   ·omega
   ·exact h1 h3
  have hbx:∀tv,uf ((cX.set k5 (.cells [.slice b n' c'] 32 0 true)).app g2) k5 32 tv->tv = .slice b n' c':=λtv ht=>by
   have:=hself.symm.trans ht;injection this with this;injection this with this;injection this with this
   exact this.symm
  refine⟨_,b5''.st wb (mo _ _ _) rfl,rfl,?_,okf,λk B hk hB=>?_,λk hk tv ht=>?_,.inr ⟨q,?_,⟨_,hself,?_,nb _ t3 lt,nb _ t4 l4,nb _ t5 l5⟩,⟨s2.len,?_,s2.row.new,okf⟩,st.n4,st.n5,st.d1,st.d2,st.d3⟩⟩
  ·show _<=g2.next;omega
  ·rw[hset _ (hX k hk).2.2.1];exact kX2 k B hk hB
  ·rw[hbx tv ht];exact nb k (nX k hk) (lX k hk)
  ·show _=_;rw[hset _ st.d3];exact b4''
  ·rw[List.map_append];exact a3.fc λj B hj hB=>by rw[hset j (λe=>nb _ t5 l5 (by rw[hj,e]))];exact hB
  ·rw[hset _ (λe=>st.d2 e.symm)];exact rw2
 ·have q:=dF q;exact⟨rfl,Nat.le_refl _,st.row.row.ok,λ_ _ _ h=>h,λk hk=>(hX k hk).2.2.2,.inl ⟨q,st⟩⟩
end
end
section
def lX(kb kl k4 k5:Nat):Nat->Prop:=λk=>k=kb\/k=kl\/k=k4\/k=k5
structure Ds(kb kl k4 k5:Nat):Prop where
 d1:kb≠kl
 d2:kb≠k4
 d3:kb≠k5
 d4:k4≠kl
 d5:k5≠kl
 d6:k4≠k5
structure B1(hb:aa)(n kb kl k4 k5:Nat)(D:List Int)(vs:List Value)(F:List (List Nat))(g:aa):Prop where
 us:Us hb 1 (λ_=>kb) n (lX kb kl k4 k5) vs F g
 zr:ZR hb kl n D g
 b4:uf g k4 32 (.slice (some ⟨kl,0,none⟩) n n)
 b5:uf g k5 32 (.slice none 0 0)
 d:Ds kb kl k4 k5
section
variable {hb g:aa} {n kb kl k4 k5:Nat} {D:List Int} {vs:List Value} {F:List (List Nat)}
theorem B1.ext(s:B1 hb n kb kl k4 k5 D vs F g){g':aa}(o:Ok g g'):B1 hb n kb kl k4 k5 D vs F g':=⟨s.us.ext o,s.zr.trans o,s.b4.ok o,s.b5.ok o,s.d⟩
theorem B1.neg(w:Wf hb)(s:B1 hb n kb kl k4 k5 D vs F g){i:Nat}(hi:i<n)(z:Int):
  ∃u:cX,aw SS.P 3 (.pointer (some ⟨kl,i,none⟩)) (.int .i64 z) g=some (undef,u)/\B1 hb n kb kl k4 k5 (D.set i z) vs F (u.app g)/\(∀k B,g.get k=some B->k≠kl->(u.app g).get k=some B):=by
 obtain⟨_,_,r3⟩:=s.zr.get (c:=n) hi;obtain⟨u,s1,s2,s3,s4⟩:=r3 z w;refine⟨u,s1,⟨⟨λr hr=>s3 _ _ (s.us.cc r hr) s.d.d1,s.us.L0.fc λk B hX hB=>s3 k B hB (λe=>hX (.inr (.inl e))),s2.row.ok,s.us.len,s.us.xt,s.us.inj,λk hk=>by rw[s4];exact s.us.Xs k hk⟩,s2,s3 _ _ s.b4 s.d.d4,s3 _ _ s.b5 s.d.d5,s.d⟩,s3⟩
theorem B1.add(w:Wf hb)(s:B1 hb n kb kl k4 k5 D vs F g){t:Nat}(ht:t<n)(x:Nat){kx:Nat}(hkx:g.get kx=some (.cells [.int .i64 (x:Int)] 3 1 true)){l:List Nat}{a:Option Addr}{c:Nat}(hF:F[0*n+t]?=some l)(hv:vs[0*n+t]?=some (.slice a l.length c))(hl:l.length<=100000):
  ∃(b:Option Addr)(n' c':Nat)(u:cX),aO SS.P 32 32 (.slice a l.length c) (.slice (some ⟨kx,0,none⟩) 1 1) g=some (.slice b n' c',u)/\
  (∀j B,g.get j=some B->bG (.slice a l.length c)≠some j->(u.app g).get j=some B)/\
  ∃u2:cX,aw SS.P 32 (.pointer (some ⟨kb,t,none⟩)) (.slice b n' c') (u.app g)=some (undef,u2)/\
   B1 hb n kb kl k4 k5 D (vs.set (0*n+t) (.slice b n' c')) (F.set (0*n+t) (l++[x])) (u2.app (u.app g)):=by
 obtain⟨b,n',c',u,a1,a2,fm,ok4,kp4,nx4⟩:=s.us.L0.snoc w s.us.ok s.us.Xs hv hF hkx hl;have nX:∀k,lX kb kl k4 k5 k->bG (.slice a l.length c)≠some k:=λk hX e=>s.us.L0.out _ _ hv k e hX;obtain⟨u2,s1,U5,kp5⟩:=s.us.put w (r:=0) (by omega) ht rfl rfl fm ok4 (λj B hj hX=>kp4 j B hj (nX j hX)) nx4;refine⟨b,n',c',u,a1,kp4,u2,s1,U5,⟨s.zr.len,kp5 _ _ (kp4 _ _ s.zr.row.row (nX _ (.inr (.inl rfl)))) (λe=>s.d.d1 e.symm),s.zr.row.new,U5.ok⟩,kp5 _ _ (kp4 _ _ s.b4 (nX _ (.inr (.inr (.inl rfl))))) (λe=>s.d.d2 e.symm),kp5 _ _ (kp4 _ _ s.b5 (nX _ (.inr (.inr (.inr rfl))))) (λe=>s.d.d3 e.symm),s.d⟩
end
structure DL(M:bA)(n i j cN:Nat)(F:List (List Nat)):Prop where
 bk:∀t l,t<n->F[0*n+t]?=some l->∀x,x∈l↔RX M i j x t
 ln:∀l∈F,l.length<=cN
theorem DL.Zy{M:bA}{n i j cN:Nat}{F:List (List Nat)}(d:DL M n i j cN F){s:lA}{q:dO}(hs:M.aq[i]?=some s)(hq:s.bq[j]?=some q){T:Nat}(hT:q.t.toNat=T){l:List Nat}(hl:F[0*n+T]?=some l):DL M n i (j+1) (cN+1) (F.set (0*n+T) (l++[i])):=by
 have b1:=d.ln l (List.mem_of_getElem? hl);refine⟨λt l' ht hl' x=>?_,λl' hl'=>?_⟩
 ·rw[N5 hs hq,hT];rcases cL hl' with⟨e,rfl⟩|⟨e,hl'⟩
  ·obtain rfl:t=T:=by omega
   rw[mem_append,mem_singleton,d.bk _ l ht hl x];exact⟨λc=>c.imp id λc=>⟨c,rfl⟩,λc=>c.imp id λc=>c.1⟩
  ·rw[d.bk t l' ht hl' x];exact⟨.inl,λc=>c.elim id λc=>absurd (by rw[c.2]) e⟩
 ·rcases List.mem_or_eq_of_mem_set hl' with h|h
  ·have:=d.ln l' h;omega
  ·subst h;rw[length_append,List.length_singleton];omega
theorem DL.next{M:bA}{n i j cN:Nat}{F:List (List Nat)}(d:DL M n i j cN F){s:lA}(hs:M.aq[i]?=some s)(hj:s.bq.length<=j):DL M n (i+1) 0 cN F:=
 ⟨λt l ht hl x=>by rw[d.bk t l ht hl x,N4 hs hj,zt],d.ln⟩
section
variable {hb:aa} {M:bA} {a:Option Addr} {n c k kb kl k4 k5:Nat}
def Za(hb:aa)(M:bA)(n kb kl k4 k5:Nat)(mz i:Nat)(g:aa):Prop:=i<=n/\mz=n-i/\∃D vs F cN,B1 hb n kb kl k4 k5 D vs F g/\DL M n i 0 cN F/\(∀q,q<i->D.getD q (-1) = -1)/\cN+oA (M.aq.drop i)<=2300
def ZC(hb:aa)(M:bA)(n kb kl k4 k5 m i:Nat)(mz2 j:Nat)(g:aa):Prop:=j<=m/\mz2=m-j/\∃D vs F cN,B1 hb n kb kl k4 k5 D vs F g/\DL M n i j cN F/\(∀q,q<i+1->D.getD q (-1) = -1)/\cN+(m-j)+oA (M.aq.drop (i+1))<=2300
set_option linter.defProp false in
def Qw(w:Wf hb)(gd:Good M)(hnM:n=M.aq.length)(hn:n<=300){s:lA}{b:Option Addr}{m d i k8:Nat}(hs:M.aq[i]?=some s)(hi:i<n)(ar:gi hb (.slice b m d) s.bq)(hsl:s.bq.length<=2000)(mv:List Value)(mz:Nat)(hmz:mz=n-i)(Q:VH):=
 wG mv k n kb k4 k5 a n c k8 b m d (Za hb M n kb kl k4 k5) mz i (ZC hb M n kb kl k4 k5 m i) Q (by
  intro mz2 j;intros;rename_i g hin;obtain⟨f1,f2,D,vs,F,cN,ub,dl,hD,hcN⟩:=hin;have hm:=ar.len;have ok:=ub.us.ok;refine ae (λg1=>?_) (λg1=>?_)
  ·have g1:=dT g1;obtain⟨q,hq⟩:∃q,s.bq[j]?=some q:=⟨_,gE (by omega)⟩
   obtain⟨bb,o,e1,e2,_⟩:=(ar.ok ok).at_ hq;have hin:=gd.bq s (List.mem_of_getElem? hs) q (List.mem_of_getElem? hq);obtain⟨T,hT⟩:∃T:Nat,q.t=(T:Int):=⟨q.t.toNat,by have:=hin.t0;omega⟩
   have hTn:T<n:=by have:=hin.t1;omega
   have hTq:q.t.toNat=T:=by omega
   obtain⟨u1,p1,p2,p3⟩:=zu ok.wf q;have l3:∀g',AB g' g.next q->ai SS.P 3 g' (.pointer (some ⟨g.next,0+3,none⟩))=some (.int .i64 (T:Int)):=λg' h=>by rw[<-hT];exact AB.l3 h
   have hlt:∀(idx:Nat)(v:Value),vs[idx]?=some v->bG v≠some g.next:=λidx v hv e=>by have:=ub.us.L0.lt ok.wf hv e;omega
   have U2:=ub.ext p2;refine⟨_,e1,_,e2,_,He,u1,p1,?_⟩;generalize u1.app (g.push JO)=g2 at*;have w2:=U2.us.ok.wf;have oR:=(Ok.refl w2).room 13;obtain⟨r1,a1,c1,hF1,hv1,ix1,UI⟩:=U2.us.ld (r:=0) (i:=T) (by omega) hTn;have hr1:=dl.ln r1 (List.mem_of_getElem? hF1);obtain⟨o9,k9⟩:=Jz w2 (n:=13) (j:=9) (by omega) (.cells [.int .i64 (i:Int)] 3 1 true);have ldR:=(UI _ (U2.us.ext oR)).1;have U3:=U2.ext o9;have A3:=AB.ok p3 o9;obtain⟨b',n',c',u,ap1,kp4,u2,Un,U5⟩:=U3.add w hTn i k9 hF1 hv1 (by omega);refine⟨_,mY _ _,_,l3 _ (p3.ok oR),_,mY _ _,_,l3 _ (p3.ok oR),_,ix1,_,_,_,ldR,_,_,_,yj _,b',n',c',u,ap1,_,ix1,u2,Un,⟨l3 _ (kp4 _ _ A3 (hlt _ _ hv1)),D6 _⟩,?_⟩;rw[ba (i:=j) (n:=m) (by omega) (by omega)];exact cH (mz2-1) (by omega) ⟨by omega,by omega,D,_,_,cN+1,U5,dl.Zy hs hq hTq hF1,hD,by omega⟩
  ·have g1:=dF g1;rw[ba hi (by omega)];exact cH (n-(i+1)) (by omega) ⟨by omega,rfl,D,vs,F,cN,ub,dl.next hs (by omega),hD,by omega⟩)
end
end
section
def aN(M:bA)(q:Nat):List (Nat×Nat):=match M.aq[q]? with|some s=>s.bq.map λa=>(a.i.toNat,a.t.toNat)|none=>[]
def fN(M:bA)(q:Nat):Prop:=∃s,M.aq[q]?=some s/\s.f≠[]
theorem jR{M:bA}{q x t:Nat}:(x,t)∈aN M q↔ ∃s,M.aq[q]?=some s/\∃a∈s.bq,a.i.toNat=x/\a.t.toNat=t:=by
 unfold aN
 cases h:M.aq[q]? with
 |none=>simp
 |some s=>simp
theorem I4{M:bA}{q t:Nat}:(∃x,(x,t)∈aN M q)↔vZ M q t:=by
 unfold vZ wa;constructor
 ·rintro⟨x,h⟩;obtain⟨s,h1,a,h2,h3,h4⟩:=jR.1 h;exact⟨s,h1,List.mem_map.2 ⟨a,h2,h4⟩⟩
 ·rintro⟨s,h1,h2⟩;obtain⟨a,h3,h4⟩:=List.mem_map.1 h2;exact⟨_,jR.2 ⟨s,h1,a,h3,rfl,h4⟩⟩
theorem GD{M:bA}{q t:Nat}(h:vZ M q t):q<M.aq.length:=by
 obtain⟨s,h1,_⟩:=h;exact(List.getElem?_eq_some_iff.1 h1).1
theorem zk{n:Nat}:∀{T:List Nat},T.Nodup->(∀q∈T,q<n)->T.length<=n:=by
 intro T h1 h2;have:=List.Nodup.length_le_of_subset (l₂:=List.range n) h1 λq hq=>List.mem_range.2 (h2 q hq);rwa[List.length_range]at this
structure Bk(hb:aa)(kb n:Nat)(vs:List Value)(F:List (List Nat))(g:aa):Prop where
 row:g.get kb=some (.cells vs 32 1 true)
 lv:vs.length=n
 lF:F.length=n
 own:∀(i:Nat)(v:Value)(l:List Nat),vs[i]?=some v->F[i]?=some l->dQ hb g 3 v (l.map iv)
def BX(kb:Nat)(vs:List Value):Nat->Prop:=λk=>k=kb\/ ∃(i:Nat)(v:Value),vs[i]?=some v/\bG v=some k
structure Bf(hb:aa)(k4 k5 kl kb n:Nat)(vs:List Value)(F:List (List Nat))(D:List Int)(T:List Nat)(g:aa):Prop where
 st:Ss hb k4 k5 kl n D T g
 bk:Bk hb kb n vs F g
 hX:∀k,BX kb vs k->k<g.next/\k≠kl/\k≠k5/\∀tv,uf g k5 32 tv->bG tv≠some k
section
variable {hb g:aa} {k4 k5 kl kb n:Nat} {vs:List Value} {F:List (List Nat)} {D:List Int} {T:List Nat}
theorem Bk.fc(b:Bk hb kb n vs F g){g':aa}(h:∀k B,BX kb vs k->g.get k=some B->g'.get k=some B):Bk hb kb n vs F g':=
 ⟨h _ _ (.inl rfl) b.row,b.lv,b.lF,λi v l hv hl=>(b.own i v l hv hl).fc λk B hk hB=>h k B (.inr ⟨i,v,hv,hk⟩) hB⟩
theorem Vb{g g':aa}{k:Nat}{v v':Value}(b:uf g k 32 v)(o:Ok g g')(b':uf g' k 32 v'):v=v':=by
 have:=(o.ext _ _ b).symm.trans b';injection this with this;injection this with this;injection this with this
theorem Bf.ext(b:Bf hb k4 k5 kl kb n vs F D T g){g':aa}(o:Ok g g'):Bf hb k4 k5 kl kb n vs F D T g':=by
 obtain⟨tv,t1,_⟩:=b.st.b5;refine⟨b.st.ext o,b.bk.fc λk B _ h=>o.ext k B h,λk hk=>?_⟩;obtain⟨h1,h2,h3,h4⟩:=b.hX k hk;exact⟨lt_of_lt_of_le h1 o.nx,h2,h3,λtv' ht=>Vb t1 o ht▸h4 tv t1⟩
theorem Bf.ok(b:Bf hb k4 k5 kl kb n vs F D T g):Ok hb g:=b.st.row.row.ok
theorem EI(w:Wf hb)(b:Bf hb k4 k5 kl kb n vs F D T g){s:Nat}(hs:s<n)(hT:T.length<=100000)(d:Int):
  FW SS 32 [.int .i64 (s:Int),.int .i64 d,.pointer (some ⟨k4,0,none⟩),.pointer (some ⟨k5,0,none⟩)] g (λv g'=>v = .tuple ⟨[]⟩/\((¬D.getD s (-1)<0/\Bf hb k4 k5 kl kb n vs F D T g')\/(D.getD s (-1)<0/\Bf hb k4 k5 kl kb n vs F (D.set s d) (T++[s]) g'))):=by
 refine(On w b.st hs hT d b.hX).mono ?_;rintro _ g' ⟨rfl,h1,h2,h3,h4,h5⟩;have hX:∀k,BX kb vs k->k<g'.next/\k≠kl/\k≠k5/\∀tv,uf g' k5 32 tv->bG tv≠some k:=λk hk=>by
  obtain⟨e1,e2,e3,_⟩:=b.hX k hk;exact⟨lt_of_lt_of_le e1 h1,e2,e3,h4 k hk⟩
 exact⟨rfl,h5.imp (λc=>⟨c.1,c.2,b.bk.fc h3,hX⟩) (λc=>⟨c.1,c.2,b.bk.fc h3,hX⟩)⟩
theorem Bf.todo(b:Bf hb k4 k5 kl kb n vs F D T g):∃(a:Option Addr)(c:Nat),ai SS.P 32 g (.pointer (some ⟨k5,0,none⟩))=some (.slice a T.length c)/\Rd g 3 (.slice a T.length c) (T.map iv):=by
 obtain⟨tv,t1,t2,_⟩:=b.st.b5;obtain⟨a,c,rfl⟩:=t2.L5;rw[lM]at*;exact⟨a,c,t1.ld ll yc,t2.rd⟩
theorem Bf.back(b:Bf hb k4 k5 kl kb n vs F D T g){t:Nat}{l:List Nat}(hl:F[t]?=some l):∃(a:Option Addr)(c:Nat),af SS.P 27 (.slice (some ⟨kb,0,none⟩) n n) (.int .i64 (t:Int))=some (.pointer (some ⟨kb,t,none⟩))/\ai SS.P 32 g (.pointer (some ⟨kb,t,none⟩))=some (.slice a l.length c)/\vs[t]?=some (.slice a l.length c)/\Rd g 3 (.slice a l.length c) (l.map iv):=by
 have ht:=(List.getElem?_eq_some_iff.1 hl).1;have h1:=b.bk.lF;have h2:=b.bk.lv;obtain⟨v,hv⟩:∃v,vs[t]?=some v:=⟨_,gE (by omega)⟩
 have o:=b.bk.own t v l hv hl;obtain⟨a,c,rfl⟩:=o.L5;rw[lM]at*;refine⟨a,c,?_,?_,hv,o.rd⟩
 ·have:=Fw (P:=SS.P) LC wb (k:=kb) (off:=0) (n:=n) (c:=n) (ik:= .i64) (i:=(t:Int)) (by omega) (by omega);rw[this,toNat_natCast,Nat.zero_add,Nat.mul_one]
 ·rw[gG ll yc b.bk.row (by omega),gD,hv];rfl
end
structure Bs(hb:aa)(M:bA)(k4 k5 kl kb n:Nat)(vs:List Value)(F:List (List Nat))(D:List Int)(T:List Nat)(i:Nat)(Pd:Nat->Prop)(g:aa):Prop where
 bf:Bf hb k4 k5 kl kb n vs F D T g
 inv:iU (aN M) (fN M) n D T i Pd
 nd:T.Nodup
 up:∀q,D.getD q (-1)<=T.length
 il:i<=T.length
def YY(M:bA)(n:Nat)(F:List (List Nat)):Prop:=∀t l,t<n->F[t]?=some l->l.length<=2300/\∀x,x∈l↔vZ M x t
section
variable {hb:aa} {M:bA} {n k k4 k5 kl kb:Nat} {vs:List Value} {F:List (List Nat)}
def Zb(hb:aa)(M:bA)(k4 k5 kl kb n:Nat)(vs:List Value)(F:List (List Nat))(mz4 i:Nat)(g:aa):Prop:=mz4=n-i/\∃D T,Bs hb M k4 k5 kl kb n vs F D T i (λ_=>False) g
def ZE(hb:aa)(M:bA)(k4 k5 kl kb n:Nat)(vs:List Value)(F:List (List Nat))(t:Nat)(l:List Nat)(i:Nat)(mz5 j:Nat)(g:aa):Prop:=j<=l.length/\mz5=l.length-j/\∃D T,T[i]?=some t/\Bs hb M k4 k5 kl kb n vs F D T i (λq=>q∈l.take j) g
def S2(h:aa)(M:bA)(n:Nat):VH:=λv h'=>∃kl D,v = .slice (some ⟨kl,0,none⟩) n n/\ZR h kl n D h'/\∀q,lJ (aN M) (fN M) q (D.getD q (-1))
theorem Sn.congr{A:Nat->List (Nat×Nat)}{Fp:Nat->Prop}{D:List Int}{T:List Nat}{i:Nat}{P P':Nat->Prop}(b:iU A Fp n D T i P)(h:∀q,P' q->P q):iU A Fp n D T i P':=
 { b with part:=λt ht q hq=>b.part t ht q (h q hq) }
set_option linter.defProp false in
def Nr(w:Wf hb)(hn:n<=300)(hnM:n=M.aq.length){t i:Nat}{l:List Nat}(hl:F[t]?=some l)(ht:t<n)(hll:l.length<=2300)(hlS:∀x,x∈l↔vZ M x t){a:Option Addr}{c:Nat}(hv:vs[t]?=some (.slice a l.length c))(mv:List Value)(Q:VH)(mz4:Nat)(hmz:mz4=n-i):=
 wJ mv k n kb k4 k5 a l.length c (Zb hb M k4 k5 kl kb n vs F) mz4 i (ZE hb M k4 k5 kl kb n vs F t l i) Q (by
  intro mz5 j;intros;rename_i g hin;obtain⟨f1,f2,D,T,hti,bs⟩:=hin;have hTl:=zk bs.nd bs.inv.tn;have hil:i<T.length:=(List.getElem?_eq_some_iff.1 hti).1;refine ae (λg1=>?_) (λg1=>?_)
  ·have g1:=dT g1;obtain⟨p,hp⟩:∃p,l[j]?=some p:=⟨_,gE (by omega)⟩
   have hS:=(hlS p).1 (List.mem_of_getElem? hp);have hpn:p<n:=by rw[hnM];exact GD hS
   obtain⟨x,hx⟩:=I4.2 hS;obtain⟨a',c',_,_,hv',rd⟩:=bs.bf.back hl;rw[hv]at hv';injection hv' with hv'
   injection hv' with q1 q2 q3
   subst q1;subst q3;obtain⟨P,e1,e2⟩:=PI rd hp;have oR:=(Ok.refl bs.bf.ok.wf).room 11;have BR:=bs.bf.ext oR;obtain⟨ta,tc,t1,t2⟩:=BR.todo;obtain⟨P2,e3,e4⟩:=PI t2 hti;obtain⟨z1,z2,_⟩:=BR.st.row.get (c:=n) ht;have hup:=bs.up t;have hlo:=bs.inv.low t ht;refine⟨_,e1,_,e2,_,_,_,BR.st.b4.ld ll yc,_,_,_,t1,_,e3,_,e4,_,z1,_,z2,?_⟩;dsimp only;rw[show wrap .i64 (D.getD t (-1)+1)=D.getD t (-1)+1 from aA (by omega) (by omega)];refine(EI w BR hpn (by omega) (D.getD t (-1)+1)).mono ?_;rintro _ g2 ⟨rfl,hc⟩;refine⟨rfl,?_⟩;rw[ba (i:=j) (n:=l.length) (by omega) (by omega)];have htk:∀q,q∈l.take (j+1)->q∈l.take j\/q=p:=λq hq=>by
    rw[take_add_one,hp]at hq;rcases mem_append.1 hq with h|h
    ·exact .inl h
    ·exact .inr (by simpa using h)
   rcases hc with⟨c1,c2⟩|⟨c1,c2⟩
   ·exact cH (mz5-1) (by omega) ⟨by omega,by omega,D,T,hti,c2,Sn.congr (bs.inv.old hti hpn c1) htk,bs.nd,bs.up,bs.il⟩
   ·have hpT:p∉T:=λh=>by have:=(bs.inv.mem p hpn).2 h;omega
    refine cH (mz5-1) (by omega) ⟨by omega,by omega,_,_,by rw[List.getElem?_append_left hil];exact hti,c2,Sn.congr (bs.inv.ZJ hti hpn hx c1) htk,?_,λq=>?_,by rw[length_append];omega⟩
    ·rw[nodup_append];refine⟨bs.nd,by simp,λa ha b hb' e=>?_⟩;rw[mem_singleton]at hb';subst hb';subst e;exact hpT ha
    ·rw[nq D p q _ (by rw[bs.inv.len];exact hpn),length_append,List.length_singleton];have:=bs.up q;split<;>omega
  ·have g1:=dF g1;have hjl:l.take j=l:=take_of_length_le (by omega);rw[ba (i:=i) (n:=T.length) hil (by omega)];refine cH (n-(i+1)) (by omega) ⟨rfl,D,T,bs.bf,bs.inv.next hti λq x hq=>?_,bs.nd,bs.up,by omega⟩;rw[hjl];exact(hlS q).2 (I4.1 ⟨x,hq⟩))
set_option linter.defProp false in
def Qx{h:aa}(w:Wf hb)(okb:Ok h hb)(hn:n<=300)(hnM:n=M.aq.length)(hA:∀q x t,(x,t)∈aN M q->q<n/\t<n)(bk:YY M n F)(mv:List Value):=
 wI mv k n kb k4 k5 (Zb hb M k4 k5 kl kb n vs F) (S2 h M n) (by
  intro mz4 i;intros;rename_i g hin;obtain⟨f1,D,T,bs⟩:=hin;obtain⟨ta,tc,t1,t2⟩:=bs.bf.todo;have hTl:=zk bs.nd bs.inv.tn;refine⟨_,_,_,t1,ae (λg1=>?_) (λg1=>?_)⟩
  ·have g1:=dT g1;obtain⟨t,hti⟩:∃t,T[i]?=some t:=⟨_,gE (by omega)⟩
   have htn:=bs.inv.tn t (List.mem_of_getElem? hti);obtain⟨P,e1,e2⟩:=PI t2 hti;obtain⟨l,hl⟩:∃l,F[t]?=some l:=⟨_,gE (by rw[bs.bf.bk.lF];exact htn)⟩
   obtain⟨a,c,b1,b2,b3,b4⟩:=bs.bf.back hl;obtain⟨h1,h2⟩:=bk t l htn hl;refine⟨_,_,_,t1,_,e1,_,e2,_,b1,_,_,_,b2,?_⟩;exact Nr w hn hnM hl htn h1 h2 b3 mv _ mz4 f1 l.length (j:=0) ⟨by omega,by omega,D,T,hti,bs.bf,Sn.congr bs.inv (λq hq=>by simp at hq),bs.nd,bs.up,bs.il⟩
  ·have g1:=dF g1;refine⟨_,_,_,bs.bf.st.b4.ld ll yc,kl,D,rfl,⟨bs.bf.st.row.len,bs.bf.st.row.row.row,Nat.le_trans okb.nx bs.bf.st.row.row.new,okb.trans bs.bf.ok⟩,bs.inv.SU hA (by omega)⟩)
end
end
section
theorem tC{M:bA}{i:Nat}(hi:i<M.aq.length):∃s,M.aq[i]?=some s:=⟨_,gE hi⟩
theorem VU(n:Nat)(hn:n<=100000):bL SS.P 32 (.int .i64 (n:Int)) (.int .i64 (n:Int))=some (.cells ((List.replicate n (0:Int)).map (Value.int .i64)) 3 1 true,my n n):=by
 rw[VR n hn,map_replicate,map_replicate];rfl
def Cw(n:Nat):bO:= .cells (List.replicate n zh) 32 1 true
theorem Sb(n:Nat)(hn:n<=100000):bL SS.P 27 (.int .i64 (n:Int)) (.int .i64 (n:Int))=some (Cw n,my n n):=Yj n hn
def Po:bO:= .cells [.slice none 0 0] 32 0 true
theorem U1:cq SS.P 32=some (Po,nV):=by kernel_rfl
structure Fi(M:bA)(n:Nat)(D:List Int)(T:List Nat)(i:Nat):Prop where
 len:D.length=n
 val:∀q,q<n->D.getD q (-1)=if q∈T then 0 else -1
 mem:∀q,q∈T↔q<i/\fN M q
 nd:T.Nodup
theorem Fi.inv{M:bA}{n:Nat}{D:List Int}{T:List Nat}(f:Fi M n D T n)(hn:n=M.aq.length):iU (aN M) (fN M) n D T 0 (λ_=>False):=by
 have tn:∀q∈T,q<n:=λq hq=>((f.mem q).1 hq).1;have v0:∀q∈T,D.getD q (-1)=0:=λq hq=>by rw[f.val q (tn q hq),if_pos hq]
 refine⟨f.len,λq hq=>?_,λq hq=>?_,tn,λq hq=>⟨[],((f.mem q).1 hq).2,by rw[v0 q hq];rfl⟩,λa b x y _ h1 h2=>?_,λx h1 y hy=>?_,λq hq=>?_,λa t ha=>absurd ha (Nat.not_lt_zero _),λ_ _ _ h=>h.elim⟩
 ·rw[f.val q hq];split
  ·next h=>exact⟨λ_=>h,λ_=>Int.le_refl _⟩
  ·next h=>exact⟨λc=>by omega,λc=>absurd c h⟩
 ·rw[f.val q hq];split<;>omega
 ·rw[v0 x (List.mem_of_getElem? h1),v0 y (List.mem_of_getElem? h2)];exact Int.le_refl _
 ·rw[v0 x (List.mem_of_getElem? h1),v0 y hy];omega
 ·have h1:q<n:=by
   obtain⟨s,h,_⟩:=hq;rw[hn];exact(List.getElem?_eq_some_iff.1 h).1
  have h2:=(f.mem q).2 ⟨h1,hq⟩;exact⟨h2,v0 q h2⟩
section
variable {hb:aa} {M:bA} {a:Option Addr} {n c k kb kl k4 k5:Nat} {vs:List Value} {F:List (List Nat)}
def ZD(hb:aa)(M:bA)(k4 k5 kl kb n:Nat)(vs:List Value)(F:List (List Nat))(mz3 i:Nat)(g:aa):Prop:=i<=n/\mz3=n-i/\∃D T,Bf hb k4 k5 kl kb n vs F D T g/\Fi M n D T i
set_option linter.defProp false in
def VJ{h:aa}(w:Wf hb)(okb:Ok h hb)(hn:n<=300)(hnM:n=M.aq.length)(hA:∀q x t,(x,t)∈aN M q->q<n/\t<n)(bk:YY M n F)(mb0:MB hb k M a n c)(mv:List Value):=
 wH mv k n kb k4 k5 a n c (ZD hb M k4 k5 kl kb n vs F) (S2 h M n) (by
  intro mz3 i;intros;rename_i g hin;obtain⟨f1,f2,D,T,bf,fi⟩:=hin;have mb:=mb0.ok bf.ok;have hTl:T.length<=n:=zk fi.nd λq hq=>by have:=((fi.mem q).1 hq).1;omega
  refine ae (λg1=>?_) (λg1=>?_)
  ·have g1:=dT g1;have hi:i<n:=by omega
   obtain⟨s,hs⟩:=tC (M:=M) (i:=i) (by omega);obtain⟨b,o,x',y,z,e1,e2,e3,e4,ar⟩:=mb.row.at_ hs;obtain⟨u,p1,p2,p3⟩:=B6 bf.ok.wf s.f x' y z;have B2:=bf.ext p2;refine⟨_,e1,_,e2,_,J0,u,p1,_,uR _ _,_,p3.l0,ae (λg2=>?_) (λg2=>?_)⟩
   ·have g2:s.f≠[]:=by simpa using g2
    refine(EI w B2 hi (by omega) 0).mono ?_;rintro _ g3 ⟨rfl,hc⟩;refine⟨rfl,?_⟩;rw[ba hi (by omega)];have hiT:i∉T:=λh=>by have:=((fi.mem i).1 h).1;omega
    have hv:D.getD i (-1) = -1:=by rw[fi.val i hi,if_neg hiT]
    rcases hc with⟨c1,c2⟩|⟨c1,c2⟩
    ·omega
    ·refine cH (mz3-1) (by omega) ⟨by omega,by omega,_,_,c2,by rw[length_set];exact fi.len,λq hq=>?_,λq=>?_,?_⟩
     ·rw[nq D i q _ (by rw[fi.len];exact hi),fi.val q hq];by_cases e:q=i
      ·subst e;rw[if_pos rfl,if_pos (by simp)]
      ·rw[if_neg e];simp[e]
     ·rw[mem_append,mem_singleton,fi.mem q];constructor
      ·rintro(⟨h1,h2⟩|h1)
       ·exact⟨by omega,h2⟩
       ·subst h1;exact⟨by omega,s,hs,g2⟩
      ·rintro⟨h1,h2⟩;by_cases e:q=i
       ·exact .inr e
       ·exact .inl ⟨by omega,h2⟩
     ·rw[nodup_append];refine⟨fi.nd,by simp,λa ha b hb' e=>?_⟩;rw[mem_singleton]at hb';subst hb';subst e;exact hiT ha
   ·have g2:s.f=[]:=by simpa using g2
    rw[ba hi (by omega)];refine cH (mz3-1) (by omega) ⟨by omega,by omega,D,T,B2,fi.len,fi.val,λq=>?_,fi.nd⟩;rw[fi.mem q];refine⟨λh=>⟨by omega,h.2⟩,λh=>⟨?_,h.2⟩⟩;rcases lt_or_ge q i with h3|h3
    ·exact h3
    ·obtain rfl:q=i:=by omega
     obtain⟨s',h4,h5⟩:=h.2;rw[hs]at h4;obtain rfl:=oI h4;exact absurd g2 h5
  ·have g1:=dF g1;obtain rfl:n=i:=by omega
   refine Qx w okb hn hnM hA bk mv n (i:=0) ⟨rfl,D,T,bf,fi.inv hnM,fi.nd,λq=>?_,Nat.zero_le _⟩;rcases lt_or_ge q n with h|h
   ·rw[fi.val q h];split<;>omega
   ·rw[gD,List.getElem?_eq_none (by rw[fi.len];exact h)];simp)
theorem B1.bf{D:List Int}{vs:List Value}{F:List (List Nat)}{g:aa}(s:B1 hb n kb kl k4 k5 D vs F g)(n4:hb.next<=k4)(n5:hb.next<=k5):Bf hb k4 k5 kl kb n ((vs.drop (0*n)).take n) ((F.drop (0*n)).take n) D [] g:=by
 have hF:=s.us.len;have hv:=s.us.L0.len;have l1:((vs.drop (0*n)).take n).length=n:=by rw[List.length_take,length_drop];omega
 have l2:((F.drop (0*n)).take n).length=n:=by rw[List.length_take,length_drop];omega
 have at_:∀{α:Type}{l:List α}{i:Nat}{v:α},((l.drop (0*n)).take n)[i]?=some v->l[0*n+i]?=some v:=λ{α l i v} h=>by
  rw[getElem?_take]at h;split at h
  ·rwa[getElem?_drop]at h
  ·cases h
 refine⟨⟨s.b4,⟨_,s.b5,dQ.nil _ _ _,by simp[bG],by simp[bG],by simp[bG]⟩,s.zr,n4,n5,s.d.d4,s.d.d5,s.d.d6⟩,⟨s.us.cc 0 (by omega),l1,l2,λi v l h1 h2=>s.us.L0.own _ v l (at_ h1) (at_ h2)⟩,λk hk=>?_⟩;have nb:∀tv,uf g k5 32 tv->bG tv≠some k:=λtv ht=>by
  have:=s.b5.symm.trans ht;injection this with this;injection this with this;injection this with this
  rw[<-this];simp[bG]
 rcases hk with rfl|⟨i,v,h1,h2⟩
 ·exact⟨s.us.Xs _ (.inl rfl),s.d.d1,s.d.d3,nb⟩
 ·have o:=s.us.L0.out _ v (at_ h1) k h2;exact⟨s.us.L0.lt s.us.ok.wf (at_ h1) h2,λe=>o (.inr (.inl e)),λe=>o (.inr (.inr (.inr e))),nb⟩
theorem QF{h:aa}(w:Wf h)(sm:Small M)(gd:Good M)(r:eK h (.slice a n c) M.aq):FW SS 18 [.agg ⟨dD M a n c⟩] h (S2 h M n):=by
 obtain⟨mb,ok⟩:=gr w r;have hl:=mb.len;have hn:n<=300:=by rw[hl];exact sm.oO
 have hA:∀q x t,(x,t)∈aN M q->q<n/\t<n:=λq x t hx=>by
  obtain⟨s,h1,q',h2,_,h4⟩:=jR.1 hx;have h3:=gd.bq s (List.mem_of_getElem? h1) q' h2;have h5:=(List.getElem?_eq_some_iff.1 h1).1;have:=h3.t0;have:=h3.t1;exact⟨by omega,by omega⟩
 refine QE (dD M a n c) h _ ⟨_,jJ M a n c,_,bZ _,_,_,_,mb.l3,_,_,_,Sb n (by omega),?_⟩;generalize h.push (Bm M a n c)=hb at*;have w0:=ok.wf;have o1:=(Ok.refl w0).push (Cw n);have k1:=bF hb (Cw n);have mb1:=mb.ok o1;have e1:(hb.push (Cw n)).next=hb.next+1:=rfl;generalize hb.push (Cw n)=g1 at*;have op:=(Ok.refl o1.wf).push (.cells ((List.replicate n (0:Int)).map (Value.int .i64)) 3 1 true);have z2:ZR hb g1.next n (List.replicate n 0) (g1.push (.cells ((List.replicate n (0:Int)).map (Value.int .i64)) 3 1 true)):=
  ⟨length_replicate,bF g1 _,o1.nx,o1.trans op⟩
 have e2:(g1.push (.cells ((List.replicate n (0:Int)).map (Value.int .i64)) 3 1 true)).next=g1.next+1:=rfl;have k2:=op.ext _ _ k1;refine⟨_,bZ _,_,_,_,mb1.l3,_,_,_,VU n (by omega),_,U1,?_⟩;generalize g1.push (.cells ((List.replicate n (0:Int)).map (Value.int .i64)) 3 1 true)=g2 at*;have o3:=(Ok.refl z2.row.ok.wf).push Po;have k3:uf (g2.push Po) g2.next 32 (.slice none 0 0):=bF g2 _;refine⟨_,k3.st wb (mo _ _ _) rfl,_,U1,?_⟩;obtain⟨o4,k4⟩:=pP (cs:=[.slice (some ⟨g1.next,0,none⟩) n n]) z2.row.ok.wf o3 k3 (Nat.le_refl _);have e3:((cX.set g2.next (.cells [.slice (some ⟨g1.next,0,none⟩) n n] 32 0 true)).app (g2.push Po)).next=g2.next+1:=rfl;generalize (cX.set g2.next (.cells [.slice (some ⟨g1.next,0,none⟩) n n] 32 0 true)).app (g2.push Po)=g3 at*;have o5:=(Ok.refl o4.wf).push Po;have k5:uf (g3.push Po) g3.next 32 (.slice none 0 0):=bF g3 _;have z5:=(z2.trans o4).trans o5;have k25:=o5.ext _ _ (o4.ext _ _ k2);have k45:uf (g3.push Po) g2.next 32 _:=uf.ok (show uf g3 g2.next 32 _ from k4) o5;have e4:(g3.push Po).next=g3.next+1:=rfl;have mb5:=mb.ok z5.row.ok;refine⟨_,bZ _,_,_,_,mb5.l3,?_⟩;generalize g3.push Po=g5 at*;have d:Ds hb.next g1.next g2.next g3.next:=⟨by omega,by omega,by omega,by omega,by omega,by omega⟩
 have hrep:∀{i:Nat}{v:Value},(List.replicate (n+1) zh)[i]?=some v->v=zh:=λ{i v} hl=>by
  rw[List.getElem?_replicate]at hl;split at hl
  ·exact(oI hl).symm
  ·cases hl
 have hrepF:∀{i:Nat}{l:List Nat},(List.replicate (n+1) ([]:List Nat))[i]?=some l->l=[]:=λ{i l} hl=>by
  rw[List.getElem?_replicate]at hl;split at hl
  ·exact(oI hl).symm
  ·cases hl
 have b1:B1 hb n hb.next g1.next g2.next g3.next (List.replicate n 0) (List.replicate (n+1) zh) (List.replicate (n+1) []) g5:=by
  refine⟨⟨λr hr=>?_,⟨by rw[length_replicate,length_replicate],λi v l hv hl=>?_,λi j v v' _ hv _ k hk=>?_,λi v hv k hk=>?_⟩,z5.row.ok,by rw[length_replicate];omega,λr hr=>⟨.inl rfl,Nat.le_refl _⟩,λr r' hr hr' hne=>absurd (by omega) hne,λk hX=>?_⟩,z5,k45,k5,d⟩
  ·have:r=0:=by omega
   subst this;rw[Nat.zero_mul,drop_zero,List.take_replicate,show min n (n+1)=n by omega];exact k25
  ·rw[hrep hv,hrepF hl];exact dQ.nil _ _ _
  ·rw[hrep hv]at hk;cases hk
  ·rw[hrep hv]at hk;cases hk
  ·rcases hX with rfl|rfl|rfl|rfl<;>omega
 refine wF (dD M a n c) h.next n hb.next g2.next g3.next a n c (Za hb M n hb.next g1.next g2.next g3.next) _ (λmz i=>?_) n (i:=0) ⟨by omega,rfl,_,_,_,0,b1,⟨λt l ht hl' x=>?_,λl hl'=>?_⟩,λq hq=>absurd hq (Nat.not_lt_zero _),by rw[drop_zero];have:=sm.ZM;omega⟩
 rotate_left
 ·rw[hrepF hl',zt];exact⟨λc=>(by cases c),λc=>absurd c.1 (Nat.not_lt_zero _)⟩
 ·rw[List.eq_of_mem_replicate hl'];exact Nat.le_refl _
 intros;rename_i gg hi;obtain⟨f1,f2,D,vs,F,cN,ub,dl,hD,hcN⟩:=hi;have mbg:=mb.ok ub.us.ok;refine ae (λq1=>?_) (λq1=>?_)
 ·have q1:=dT q1;have hi:i<n:=by omega
  obtain⟨s,hs⟩:=tC (M:=M) (i:=i) (by omega);obtain⟨b,o,x',y,z,e1,e2,e3,e4,ar⟩:=mb.row.at_ hs;obtain⟨b',o',x'',y',z',e1',e2',e3',e4',ar'⟩:=mbg.row.at_ hs;have hsl:=sm.bq s (List.mem_of_getElem? hs);have hd:oA (M.aq.drop i)=s.bq.length+oA (M.aq.drop (i+1)):=by rw[cT hs,qN]
  obtain⟨u,p1,p2,p3⟩:=B6 ub.us.ok.wf s.f x' y z;have U2:=ub.ext p2;obtain⟨z1,_,_⟩:=U2.zr.get (c:=n) hi;obtain⟨u3,s1,U3,kp⟩:=U2.neg w0 hi (-1);have e22:=Jq ub.us.ok e2;have lt:=ub.zr.row.lt;have p33:SB _ gg.next s.f x' y z:=kp _ _ p3 (by omega);refine⟨_,e1,_,e22,_,J0,u,p1,_,_,_,U2.b4.ld ll yc,_,z1,u3,s1,_,eo _ _,_,_,_,p33.l1,?_⟩;exact Qw w0 gd hl hn hs hi ar hsl [] mz f2 _ y (j:=0) ⟨by omega,by omega,_,vs,F,cN,U3,dl,λq hq=>(by
   rw[nq D i q _ (by rw[ub.zr.len];exact hi)];split
   ·rfl
   ·exact hD q (by omega)),by have:=ar.len;omega⟩
 ·have q1:=dF q1;obtain rfl:n=i:=by omega
  have hF:=ub.us.len;refine⟨_,bZ _,_,_,_,mbg.l3,?_⟩;refine VJ w0 ok hn hl hA (λt l ht hl'=>?_) mb (dD M a n c) n (i:=0) ⟨Nat.zero_le _,rfl,D,[],ub.bf (by omega) (by omega),ub.zr.len,λq hq=>by rw[hD q hq];simp,λq=>by simp,nodup_nil⟩;have h1:F[0*n+t]?=some l:=by
   rw[getElem?_take,if_pos ht,getElem?_drop]at hl';exact hl'
  refine⟨by have:=dl.ln l (List.mem_of_getElem? h1);omega,λx=>?_⟩;rw[dl.bk t l ht h1 x,zt];exact⟨λc=>c.2,λc=>⟨by rw[hl];exact GD c,c⟩⟩
end
end
section
def Hs(M:bA):Int:=if dN M=true then(if wA M=true then 0 else 6)else 1
section
variable {h:aa} {M:bA} {a:Option Addr} {n c:Nat}
theorem QN(tb:qP h)(w:Wf h)(sm:Small M)(r:eK h (.slice a n c) M.aq):FW SS 17 [.agg ⟨dD M a n c⟩] h (λv h'=>v = .int .i64 (Hs M)/\Ok h h'):=by
 obtain⟨mb,ok⟩:=gr w r;refine QM (dD M a n c) h _ ⟨_,jJ M a n c,_,mb.all,(BS (tb.ok ok) ok.wf sm mb.row).mono ?_⟩;rintro _ h5 ⟨rfl,o5⟩;have ok5:=ok.trans o5;refine⟨_,rfl,ae (λq=>?_) (λq=>⟨_,(mb.ok o5).all,(QP (tb.ok ok5) ok5.wf sm (mb.ok o5).row).mono ?_⟩)⟩
 ·exact⟨by unfold Hs;rw[if_neg (by simpa using q)],ok5⟩
 ·rintro _ h6 ⟨rfl,o6⟩;have hv:dN M=true:=by simpa using q
  refine⟨_,rfl,ae (λq2=>⟨?_,ok5.trans o6⟩) (λq2=>⟨?_,ok5.trans o6⟩)⟩
  ·unfold Hs;rw[if_pos hv,if_neg (by simpa using q2)]
  ·unfold Hs;rw[if_pos hv,if_pos (by simpa using q2)]
theorem Q9(w:Wf h)(sm:Small M)(r:eK h (.slice a n c) M.aq):FW SS 19 [.agg ⟨dD M a n c⟩] h (λv h'=>v = .int .i64 (Hs M)/\Ok h h'):=by
 obtain⟨mb,ok⟩:=gr w r;refine Q8 (dD M a n c) h _ ⟨_,jJ M a n c,_,mb.all,(vf ok.wf sm mb.row).mono ?_⟩;rintro _ h5 ⟨rfl,o5⟩;have ok5:=ok.trans o5;refine⟨_,rfl,ae (λq=>?_) (λq=>⟨_,(mb.ok o5).all,(Rb ok5.wf sm (mb.ok o5).row).mono ?_⟩)⟩
 ·exact⟨by unfold Hs;rw[if_neg (by simpa using q)],ok5⟩
 ·rintro _ h6 ⟨rfl,o6⟩;have hv:dN M=true:=by simpa using q
  refine⟨_,rfl,ae (λq2=>⟨?_,ok5.trans o6⟩) (λq2=>⟨?_,ok5.trans o6⟩)⟩
  ·unfold Hs;rw[if_pos hv,if_neg (by simpa using q2)]
  ·unfold Hs;rw[if_pos hv,if_pos (by simpa using q2)]
def VO(M:bA):Bool:=decide (12<M.aq.length)||decide (40<oA M.aq)
theorem Nt(w:Wf h)(bd:Xw M)(r:eK h (.slice a n c) M.aq):FW SS 5 [.agg ⟨dD M a n c⟩] h (λv h'=>v = .bool (VO M)/\Ok h h'):=by
 obtain⟨mb,ok⟩:=gr w r;have hl:=mb.len;refine Ns (dD M a n c) h _ ⟨_,jJ M a n c,_,bZ _,_,_,_,mb.l3,ae (λq=>?_) (λq=>?_)⟩
 ·have q:=dT q;refine⟨?_,ok⟩;unfold VO;rw[decide_eq_true (by omega)];rfl
 ·have q:=dF q;refine⟨_,mb.all,(Od ok.wf bd (by omega) mb.row).mono ?_⟩;rintro _ h6 ⟨rfl,o6⟩;refine⟨_,rfl,?_,ok.trans o6⟩;unfold VO;rw[decide_eq_false (by omega:¬12<M.aq.length),Bool.false_or];congr 1;by_cases e:40<oA M.aq
  ·rw[decide_eq_true e,decide_eq_true (by omega)]
  ·rw[decide_eq_false e,decide_eq_false (by omega)]
theorem MJ{b:Option Addr}{m d:Nat}{x y:List Nat}(w:Wf h)(rx:Rd h 3 (.slice a n c) (x.map iv))(ry:Rd h 3 (.slice b m d) (y.map iv))(hx:x.length<=100000)(hy:y.length<=100000):
  FW SS 35 [.slice a n c,.slice b m d] h (λv h'=>v = .int .i64 (pc x y)/\Ok h h'):=by
 have hn:=DE rx;have hm:=DE ry;refine MI a n c b m d h _ (ae (λq=>ae (λq2=>?_) (λq2=>?_)) (λq=>?_))
 ·have q2:=dT q2;refine⟨?_,Ok.refl w⟩;unfold pc;rw[if_neg (by omega),if_pos (by omega)]
 ·have q2:=dF q2;have q:n≠m:=λe=>by subst e;simp at q
  refine⟨?_,Ok.refl w⟩;unfold pc;rw[if_neg (by omega),if_neg (by omega)]
 ·have q:n=m:=by
   have:(n:Int)=(m:Int):=by simpa using q
   omega
  have e:x.length=y.length:=by omega
  refine uI a n c b m d (λmz i g=>i<=n/\mz=n-i/\Ok h g/\pb x y=pb (x.drop i) (y.drop i)) _ (λmz i=>?_) n (i:=0) ⟨by omega,rfl,Ok.refl w,by simp⟩;intros;rename_i g hin;obtain⟨f1,f2,ok,f3⟩:=hin;refine ae (λq1=>?_) (λq1=>?_)
  ·have q1:=dT q1;obtain⟨u,hu⟩:∃u,x[i]?=some u:=⟨_,gE (by omega)⟩
   obtain⟨t,ht⟩:∃t,y[i]?=some t:=⟨_,gE (by omega)⟩
   have o1:=ok.room 9;have o2:=o1.room 9;obtain⟨p1,e1,e2⟩:=PI (rx.ok o1) hu;obtain⟨p2,e3,e4⟩:=PI (ry.ok o1) ht;obtain⟨p3,e5,e6⟩:=PI (rx.ok o2) hu;obtain⟨p4,e7,e8⟩:=PI (ry.ok o2) ht;have d1:x.drop i=u::x.drop (i+1):=cT hu;have d2:y.drop i=t::y.drop (i+1):=cT ht;rw[d1,d2,pb]at f3;refine⟨_,e1,_,e2,_,e3,_,e4,ae (λg1=>?_) (λg1=>⟨_,e5,_,e6,_,e7,_,e8,ae (λg2=>?_) (λg2=>?_)⟩)⟩
   ·have g1:=dT g1;refine⟨?_,o1⟩;unfold pc;rw[if_pos e,f3,if_pos (by omega)]
   ·have g1:=dF g1;have g2:=dT g2;refine⟨?_,o2⟩;unfold pc;rw[if_pos e,f3,if_neg (by omega),if_pos (by omega)]
   ·have g1:=dF g1;have g2:=dF g2;rw[ba (i:=i) (n:=n) (by omega) (by omega)];exact cH (mz-1) (by omega) ⟨by omega,by omega,o2,by rw[f3,if_neg (by omega),if_neg (by omega)]⟩
  ·have q1:=dF q1;refine⟨?_,ok⟩;unfold pc;rw[if_pos e,f3,List.drop_of_length_le (by omega),List.drop_of_length_le (by omega)];rfl
theorem Ro{b:Option Addr}{m d:Nat}{x y:List Nat}(w:Wf h)(rx:Rd h 3 (.slice a n c) (x.map iv))(ry:Rd h 3 (.slice b m d) (y.map iv))(hx:x.length<=100000)(hy:y.length<=100000)(e:x=y):
  FW SS 9 [.slice a n c,.slice b m d] h (λv h'=>v = .bool true/\Ok h h'):=by
 subst e;have hn:=DE rx;have hm:=DE ry;refine OF a n c b m d h _ (ae (λq=>?_) (λq=>?_))
 ·have q:n≠m:=λe=>by subst e;simp at q
  omega
 ·refine vo a n c b m d (λmz i g=>i<=n/\mz=n-i/\Ok h g) _ (λmz i=>?_) n (i:=0) ⟨by omega,rfl,Ok.refl w⟩;intros;rename_i g hin;obtain⟨f1,f2,ok⟩:=hin;refine ae (λq1=>?_) (λq1=>?_)
  ·have q1:=dT q1;obtain⟨u,hu⟩:∃u,x[i]?=some u:=⟨_,gE (by omega)⟩
   have o1:=ok.room 9;obtain⟨p1,e1,e2⟩:=PI (rx.ok o1) hu;obtain⟨p2,e3,e4⟩:=PI (ry.ok o1) hu;refine⟨_,e1,_,e2,_,e3,_,e4,ae (λg1=>?_) (λg1=>?_)⟩
   ·simp at g1
   ·rw[ba (i:=i) (n:=n) (by omega) (by omega)];exact cH (mz-1) (by omega) ⟨by omega,by omega,o1⟩
  ·exact⟨rfl,ok⟩
end
end
section
noncomputable def Uf:TypeInfo:=(eZ SS.P 32).getD default
theorem Rh:eZ SS.P 32=some Uf:=by kernel_rfl
theorem Lh:Uf.size=1:=by kernel_rfl
theorem Ih:Uf.bytes=24:=by kernel_rfl
theorem U9(b:Option Addr)(m d:Nat):aI SS.P 27 1 [(0,.slice b m d)]=some (.cells [.slice b m d] 32 1 true,my 1 1):=by cases b<;>kernel_rfl
structure Fr(hb:aa)(rv:Value)(rs:List Value)(ws:List (List Nat))(xv:Value)(W:List Nat)(g:aa):Prop where
 ok:Ok hb g
 rr:dQ hb g 32 rv rs
 len:rs.length=ws.length
 wd:∀(i:Nat)(v:Value)(l:List Nat),rs[i]?=some v->ws[i]?=some l->dQ hb g 3 v (l.map iv)
 ra:∀(i:Nat)(v:Value),rs[i]?=some v->∀k,bG v=some k->bG rv≠some k
 xr:dQ hb g 3 xv (W.map iv)
 xa:∀k,bG xv=some k->bG rv≠some k/\∀(i:Nat)(v:Value),rs[i]?=some v->bG v≠some k
section
variable {hb g:aa} {rv:Value} {rs:List Value} {ws:List (List Nat)} {xv:Value} {W:List Nat}
theorem Fr.at_(f:Fr hb rv rs ws xv W g){i:Nat}{v:Value}(hv:rs[i]?=some v):∃l,ws[i]?=some l/\dQ hb g 3 v (l.map iv):=by
 have hi:=(List.getElem?_eq_some_iff.1 hv).1;obtain⟨l,hl⟩:∃l,ws[i]?=some l:=⟨_,gE (by rw[<-f.len];exact hi)⟩
 exact⟨l,hl,f.wd i v l hv hl⟩
theorem Fr.ext(f:Fr hb rv rs ws xv W g){g':aa}(o:Ok g g'):Fr hb rv rs ws xv W g':=
 ⟨f.ok.trans o,f.rr.ok o,f.len,λi v l h1 h2=>(f.wd i v l h1 h2).ok o,f.ra,f.xr.ok o,f.xa⟩
theorem Fr.fc(f:Fr hb rv rs ws xv W g){g':aa}(o:Ok hb g'){k8:Nat}(hk:∀j B,g.get j=some B->j≠k8->g'.get j=some B)(n1:bG rv≠some k8)(n2:bG xv≠some k8)(n3:∀(i:Nat) (v:Value),rs[i]?=some v->bG v≠some k8):Fr hb rv rs ws xv W g':=
 ⟨o,f.rr.fc λj B hj hB=>hk j B hB (λe=>n1 (by rw[hj,e])),f.len,λi v l h1 h2=>(f.wd i v l h1 h2).fc λj B hj hB=>hk j B hB (λe=>n3 i v h1 (by rw[hj,e])),f.ra,f.xr.fc λj B hj hB=>hk j B hB (λe=>n2 (by rw[hj,e])),f.xa⟩
theorem Fr.lt(f:Fr hb rv rs ws xv W g):(∀k,bG rv=some k->k<g.next)/\(∀k,bG xv=some k->k<g.next)/\∀(i:Nat)(v:Value),rs[i]?=some v->∀k,bG v=some k->k<g.next:=
 ⟨λk hk=>(f.rr.lt f.ok.wf hk).1,λk hk=>(f.xr.lt f.ok.wf hk).1,λi v hv k hk=>by
  obtain⟨l,_,o⟩:=f.at_ hv;exact(o.lt f.ok.wf hk).1⟩
theorem Fr.WU(w:Wf hb)(f:Fr hb rv rs ws xv W g){z kx:Nat}(hkx:g.get kx=some (.cells [.int .i64 (z:Int)] 3 1 true))(hl:W.length<=100000):
  ∃(b:Option Addr)(n c:Nat)(u:cX),aO SS.P 32 32 xv (.slice (some ⟨kx,0,none⟩) 1 1) g=some (.slice b n c,u)/\Fr hb rv rs ws (.slice b n c) (W++[z]) (u.app g)/\(∀j B,g.get j=some B->bG xv≠some j->(u.app g).get j=some B):=by
 obtain⟨b,n,c,u,a1,a2,a3,a4,a5,a6,a7⟩:=OQ w f.ok f.xr hkx (by rw[lM];exact hl);obtain⟨l1,l2,l3⟩:=f.lt;refine⟨b,n,c,u,a1,⟨a4,f.rr.fc λj B hj hB=>a5 j B hB (λe=>(f.xa j e).1 hj),f.len,λi v l h1 h2=>(f.wd i v l h1 h2).fc λj B hj hB=>a5 j B hB (λe=>(f.xa j e).2 i v h1 hj),f.ra,by rw[List.map_append];exact a3,λk hk=>?_⟩,a5⟩;rcases a6 k hk with h|h
 ·exact⟨λe=>by have:=l1 k e;omega,λi v hv e=>by have:=l3 i v hv k e;omega⟩
 ·exact f.xa k h
theorem Fr.fin(w:Wf hb)(f:Fr hb rv rs ws xv W g){kx:Nat}(hkx:g.get kx=some (.cells [xv] 32 1 true))(hl:rs.length<=100000):
  ∃(b:Option Addr)(n c:Nat)(u:cX),aO SS.P 27 27 rv (.slice (some ⟨kx,0,none⟩) 1 1) g=some (.slice b n c,u)/\Fr hb (.slice b n c) (rs++[xv]) (ws++[W]) (.slice none 0 0) [] (u.app g):=by
 have hsc:di xv=true:=by
  obtain⟨a,c,rfl⟩:=f.xr.L5;exact mo _ _ _
 obtain⟨b,n,c,u,a1,a2,a3,a4,a5,a6,a7⟩:=dQ.snoc LC Rh Lh w f.ok f.rr hsc hkx (by rw[Ih];omega) (by omega);obtain⟨l1,l2,l3⟩:=f.lt;have split:∀{i:Nat}{v:Value},(rs++[xv])[i]?=some v->(rs[i]?=some v/\i<rs.length)\/(v=xv/\i=rs.length):=λ{i v} h=>by
  rw[List.getElem?_append]at h;split at h
  ·next c=>exact .inl ⟨h,c⟩
  ·next c=>
   right
   cases e:i-rs.length with
   |zero=>rw[e]at h;simp at h;exact⟨h.symm,by omega⟩
   |succ m=>rw[e]at h;simp at h
 refine⟨b,n,c,u,a1,⟨a4,a3,by rw[length_append,length_append,f.len];rfl,λi v l h1 h2=>?_,λi v h1 k hk=>?_,dQ.nil _ _ _,λk hk=>by simp[bG]at hk⟩⟩
 ·rcases split h1 with⟨h3,h4⟩|⟨rfl,h4⟩
  ·rw[List.getElem?_append_left (by rw[<-f.len];exact h4)]at h2;exact(f.wd i v l h3 h2).fc λj B hj hB=>a5 j B hB (f.ra i v h3 j hj)
  ·rw[h4,f.len,List.getElem?_append_right (Nat.le_refl _),Nat.sub_self]at h2;simp at h2;subst h2;exact f.xr.fc λj B hj hB=>a5 j B hB (f.xa j hj).1
 ·have hlt:k<g.next:=by
   rcases split h1 with⟨h3,_⟩|⟨rfl,_⟩
   ·exact l3 i v h3 k hk
   ·exact l2 k hk
  intro e;rcases a6 k e with h|h
  ·omega
  ·rcases split h1 with⟨h3,_⟩|⟨rfl,_⟩
   ·exact f.ra i v h3 k hk h
   ·exact(f.xa k hk).1 h
theorem Fr.out(f:Fr hb rv rs ws xv W g):∃(b:Option Addr)(d:Nat),rv = .slice b ws.length d/\Al g b ws.length d ws:=by
 obtain⟨b,d,rfl⟩:=f.rr.L5;refine⟨b,d,by rw[f.len],rfl,rs,by rw[<-f.len];exact f.rr.rd,f.len,λi l hl=>?_⟩;obtain⟨v,hv⟩:∃v,rs[i]?=some v:=⟨_,gE (by rw[f.len];exact(List.getElem?_eq_some_iff.1 hl).1)⟩
 have o:=f.wd i v l hv hl;obtain⟨a',c',rfl⟩:=o.L5;exact⟨a',_,c',hv,o.rd⟩
end
def fA(M:bA)(n:Nat)(ws:List (List Nat)):Prop:=∀q w,q<n->ws[q]?=some w->w.length<=200/\(cE (aN M) (fN M) q w\/(w=[0]/\∀v,¬gj (aN M) (fN M) q v))
theorem fA.eq{M:bA}{n:Nat}{ws ws':List (List Nat)}(h:fA M n ws)(h':fA M n ws')(l:ws.length=n)(l':ws'.length=n):ws=ws':=by
 apply List.ext_getElem?;intro q;rcases lt_or_ge q n with hq|hq
 ·obtain⟨w,hw⟩:∃w,ws[q]?=some w:=⟨_,gE (by omega)⟩
  obtain⟨w',hw'⟩:∃w',ws'[q]?=some w':=⟨_,gE (by omega)⟩
  rw[hw,hw'];rcases(h q w hq hw).2 with a|⟨a,b⟩<;>rcases(h' q w' hq hw').2 with c|⟨c,d⟩
  ·rw[a.eq c]
  ·exact absurd a.1 (d w)
  ·exact absurd c.1 (b w')
  ·rw[a,c]
 ·rw[List.getElem?_eq_none (by omega),List.getElem?_eq_none (by omega)]
structure JP(M:bA):Prop where
 gd:Good M
 pos:∀s∈M.aq,∀q∈s.bq,1<=q.i
 X3:∀s∈M.aq,(gF s).Nodup
theorem Jb{M:bA}(h:Hs M=0):JP M:=by
 unfold Hs at h;split at h
 ·next hv=>
  split at h
  ·next hd=>
   unfold wA EA sr ye at hd;simp only[and_eq_true,List.all_eq_true]at hd;obtain⟨⟨⟨_,h1⟩,_,h2⟩,h3⟩:=hd;refine⟨qj hv,λs hs q hq=>?_,λs hs=>?_⟩
   ·have a1:=h1 s hs q hq;have a2:=h2 s hs q hq;have a3:=((qj hv).bq s hs q hq).i0;unfold yb at a1;unfold jf at a2;simp at a1 a2;omega
   ·have:=h3 s hs;unfold uJ at this;simpa using this
  ·omega
 ·omega
theorem JP.one{M:bA}(d:JP M){p x s s':Nat}(h1:(x,s)∈aN M p)(h2:(x,s')∈aN M p):s=s':=by
 obtain⟨st,a1,q,a2,a3,a4⟩:=jR.1 h1;obtain⟨st',b1,q',b2,b3,b4⟩:=jR.1 h2;rw[a1]at b1;obtain rfl:=oI b1;have hs:=List.mem_of_getElem? a1;have n1:=(d.gd.bq st hs q a2).i0;have n2:=(d.gd.bq st hs q' b2).i0;have e:q.i=q'.i:=by omega
 have hn:=d.X3 st hs;unfold gF at hn;obtain⟨i,hi,ei⟩:=List.mem_iff_getElem.1 a2;obtain⟨j,hj,ej⟩:=List.mem_iff_getElem.1 b2;have hp:=List.pairwise_iff_getElem.1 hn;have ne:∀(a b:Nat)(ha:a<st.bq.length)(hb:b<st.bq.length),a<b->st.bq[a].i≠st.bq[b].i:=λa b ha hb hlt=>by
  have:=hp a b (by rw[lM];exact ha) (by rw[lM];exact hb) hlt;simpa using this
 have:i=j:=by
  rcases Nat.lt_trichotomy i j with h|h|h
  ·exact absurd (by rw[ei,ej,e]) (ne i j hi hj h)
  ·exact h
  ·exact absurd (by rw[ei,ej,e]) (ne j i hj hi h)
 subst this;rw[<-a4,<-b4,<-ei,<-ej]
end
end Go.Proofs.YtaheifbogkjpdaaGreatDoor
end
