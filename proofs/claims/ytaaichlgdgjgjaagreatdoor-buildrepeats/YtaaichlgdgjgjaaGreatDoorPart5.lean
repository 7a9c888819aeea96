/- Laws and walks that the proof leans on (part 5): P29; P30; W14; P31; P32; W15 and others. No condition. -/
import Derived.Test.YtaaichlgdgjgjaaGreatDoorPart4
import Derived.Test.YtaaichlgdgjgjaaGreatDoorPart3
import Derived.Test.YtaaichlgdgjgjaaGreatDoorPart2
set_option linter.unusedVariables false
set_option linter.unusedSimpArgs false
set_option maxRecDepth 100000
open List (all_cons drop_eq_nil_of_le drop_zero ext_getElem getElem?_map getElem?_replicate length_replicate length_set mem_cons mem_singleton take_of_length_le take_zero)
open Nat (le_succ lt_of_le_of_lt mul_pos sub_zero)
open Bool (and_eq_true not_eq_false' not_eq_true' or_eq_true)
open Go.IntKind (wrap)
section
namespace Go.Proofs.YtaaichlgdgjgjaaGreatDoor
open Go Go.Ab Go.Num
variable{P:Program}{n:Nat}{g:ae}{h:ae}{b:Bool}{c:List Value}
theorem kZ{t:TypeId}(c:aG P t=some n){h:ae}{k:Nat}{cs0:List Value}(g:cs0.length=n)(d:h.get k=some (.cells cs0 t 0 true)){cs:List Value}(f:cs.length=n)(a:cs.all dQ=true):ah P t (.pointer (some ⟨k,0,none⟩)) (.agg ⟨cs⟩) h=some (undef,.set k (.cells cs t 0 true)):=by
 unfold ah;dsimp only;have b:(Value.agg ⟨cs⟩).cells.size=n:=by show cs.toArray.size=n;simpa using f
 have e:(Value.agg ⟨cs⟩).cells.toList=cs:=rfl;rw[if_pos (by rw[b,c])];unfold storeAt;rw[d,e];dsimp only;rw[if_pos ⟨by omega,a⟩,drop_eq_nil_of_le (by omega)];simp
theorem px(w:Wf g)(o:Ok g h){k:Nat}{t:TypeId}{a cs:List Value}(c:h.get k=some (.cells a t 0 true))(b:g.next<=k):Ok g ((dP.set k (.cells cs t 0 true)).app h)/\((dP.set k (.cells cs t 0 true)).app h).get k=some (.cells cs t 0 true):=by
 refine⟨o.set _ b (o.wf _ _ c) w,?_⟩;show(h.set k _).get k=_;rw[ae.aw,if_pos rfl]
theorem aO(h:ae)(B:dV):(h.push B).get h.next=some B:=by rw[ae.bt,if_pos rfl]
def pa(i:Nat):Value:= .func (.func i) ⟨[]⟩ ⟨[]⟩
def ny:List Value:=[strOf [],strOf [],.bool false,.nilFunc,.nilFunc,.nilFunc,.nilFunc,.nilFunc]
def yU:List Value:=[strOf [105,110,102],strOf [48],.bool true,pa 106,pa 107,pa 108,pa 109,pa 109]
def yW:List Value:=[strOf [48],strOf [49],.bool false,pa 110,pa 111,pa 112,pa 113,pa 114]
def yX:List Value:=[strOf [48],strOf [49],.bool false,pa 106,pa 111,pa 115,pa 113,pa 114]
def Av:List Value:=ny++yU++yW++yX
def XA:dV:= .cells (ny++ny++ny++ny) 119 0 true
def LD:dV:= .cells ny 99 0 true
theorem acy:br SS.P 119=some (XA,lk):=by kernel_rfl
theorem S0:br SS.P 99=some (LD,lk):=by kernel_rfl
theorem Wv:aG SS.P 119=some 32:=by kernel_rfl
theorem Ej:aG SS.P 99=some 8:=by kernel_rfl
theorem acp:Go.Ab.isAgg SS.P 119=true:=by kernel_rfl
theorem acx:Go.Ab.isAgg SS.P 99=true:=by kernel_rfl
noncomputable def ab4:TypeDesc:=(SS.P.underlying 119).getD .bool
theorem adY:SS.P.underlying 119=some ab4:=by kernel_rfl
noncomputable def aed:TypeDesc:=(SS.P.underlying 99).getD .bool
theorem aec:SS.P.underlying 99=some aed:=by kernel_rfl
noncomputable def aeb:TypeDesc:=(SS.P.underlying 97).getD .bool
theorem aea:SS.P.underlying 97=some aeb:=by kernel_rfl
theorem acw:Go.Ab.isAgg SS.P 97=false:=by kernel_rfl
theorem abg:bd SS.P 99 [(0,(strOf [105,110,102])),(1,(strOf [48])),(2,(.bool true)),(3,(.func (.func 106) ⟨[]⟩ ⟨[]⟩)),(4,(.func (.func 107) ⟨[]⟩ ⟨[]⟩)),(5,(.func (.func 108) ⟨[]⟩ ⟨[]⟩)),(6,(.func (.func 109) ⟨[]⟩ ⟨[]⟩)),(7,(.func (.func 109) ⟨[]⟩ ⟨[]⟩))]=some (.agg ⟨yU⟩):=by kernel_rfl
theorem abh:bd SS.P 99 [(0,(strOf [48])),(1,(strOf [49])),(2,(.bool false)),(3,(.func (.func 110) ⟨[]⟩ ⟨[]⟩)),(4,(.func (.func 111) ⟨[]⟩ ⟨[]⟩)),(5,(.func (.func 112) ⟨[]⟩ ⟨[]⟩)),(6,(.func (.func 113) ⟨[]⟩ ⟨[]⟩)),(7,(.func (.func 114) ⟨[]⟩ ⟨[]⟩))]=some (.agg ⟨yW⟩):=by kernel_rfl
theorem abi:bd SS.P 99 [(0,(strOf [48])),(1,(strOf [49])),(2,(.bool false)),(3,(.func (.func 106) ⟨[]⟩ ⟨[]⟩)),(4,(.func (.func 111) ⟨[]⟩ ⟨[]⟩)),(5,(.func (.func 115) ⟨[]⟩ ⟨[]⟩)),(6,(.func (.func 113) ⟨[]⟩ ⟨[]⟩)),(7,(.func (.func 114) ⟨[]⟩ ⟨[]⟩))]=some (.agg ⟨yX⟩):=by kernel_rfl
theorem Tw:bd SS.P 99 []=some (.agg ⟨ny⟩):=by kernel_rfl
theorem ac7:bd SS.P 119 [(1,(.agg ⟨yU⟩)),(2,(.agg ⟨yW⟩)),(3,(.agg ⟨yX⟩))]=some (.agg ⟨Av⟩):=by kernel_rfl
theorem K9(w:Wf h):FW SS 93 [] h (λv b=>v = .agg ⟨Av⟩/\Ok h b):=by
 have a:(h.push XA).get h.next=some (.cells (ny++ny++ny++ny) 119 0 true):=aO h XA;refine K8 h _ ⟨_,acy,_,abg,_,abh,_,abi,_,ac7,_,kZ Wv (by rfl) a (cs:=Av) (by rfl) (by rfl),?_⟩;obtain⟨o,g⟩:=px (cs:=Av) w ((Ok.refl w).push XA) a (Nat.le_refl _);refine JW (v:= .agg ⟨Av⟩) (pk adY acp Wv g (by simp[Av,ny,yU,yW,yX])) ?_;exact⟨rfl,o⟩
def Y2(a:Int):Value:=if a=1 then .tuple ⟨[.agg ⟨yU⟩,.bool true]⟩else if a=2 then .tuple ⟨[.agg ⟨yW⟩,.bool true]⟩else if a=3 then .tuple ⟨[.agg ⟨yX⟩,.bool true]⟩else .tuple ⟨[.agg ⟨ny⟩,.bool false]⟩
theorem DM(w:Wf h){g:ae}(o:Ok h g){k:Nat}{a:List Value}(i:a.length=8)(d:g.get k=some (.cells a 99 0 true))(e:h.next<=k){cs:List Value}(l:cs.length=8)(f:cs.all dQ=true)(b:Bool){Q:VH}(j:∀c,Ok h c->Q (.tuple ⟨[.agg ⟨cs⟩,.bool b]⟩) c):
  ∃u:dP,ah SS.P 99 (.pointer (some ⟨k,0,none⟩)) (.agg ⟨cs⟩) g=some (undef,u)/\ef SS [(.pointer (some ⟨k,0,none⟩),some 99),(.bool b,none)] (u.app g) Q:=by
 refine⟨_,kZ Ej i d l f,?_⟩;obtain⟨o,g⟩:=px (cs:=cs) w o d e;refine ye (v:= .agg ⟨cs⟩) (by rw[pk aec acx Ej g (by omega),drop_zero,take_of_length_le (by omega)]) ?_;exact j _ o
theorem D8(a:Int){h:ae}(w:Wf h):FW SS 69 [.int .i64 a] h (λv j=>v=Y2 a/\Ok h j):=by
 have c:=(Ok.refl w).push LD;have f:=aO h LD;refine V0 a h _ ⟨_,S0,aa (λg=>?_) (λg=>aa (λb=>?_) (λb=>?_))⟩
 ·have g:=dT g;refine⟨_,Tw,DM w c rfl f (Nat.le_refl _) rfl rfl false (λ_ o=>⟨?_,o⟩)⟩;unfold Y2;rw[if_neg (by omega),if_neg (by omega),if_neg (by omega)]
 ·have b:=dT b;refine⟨_,Tw,DM w c rfl f (Nat.le_refl _) rfl rfl false (λ_ o=>⟨?_,o⟩)⟩;unfold Y2;rw[if_neg (by omega),if_neg (by omega),if_neg (by omega)]
 ·have g:=dF g;have b:=dF b;refine(K9 c.wf).mono ?_;rintro _ k ⟨rfl,i⟩;have d:=i.ext _ _ f;have e:=c.trans i;obtain rfl|rfl|rfl:a=1\/a=2\/a=3:=by omega
  ·exact⟨_,rfl,yU,by kernel_rfl,DM w e rfl d (Nat.le_refl _) rfl rfl true (λ_ o=>⟨rfl,o⟩)⟩
  ·exact⟨_,rfl,yW,by kernel_rfl,DM w e rfl d (Nat.le_refl _) rfl rfl true (λ_ o=>⟨rfl,o⟩)⟩
  ·exact⟨_,rfl,yX,by kernel_rfl,DM w e rfl d (Nat.le_refl _) rfl rfl true (λ_ o=>⟨rfl,o⟩)⟩
theorem uz(l:List UInt8)(b:l.length<=1000000000){h:ae}(c:nW h)(w:Wf h):FW SS 114 [strOf l] h (λv d=>v = .bool (aA l&&decide (0<da l [48]))/\Ok h d):=by
 refine D9 l h _ ((qc l b c w).mono ?_);rintro _ f ⟨rfl,a⟩;refine⟨_,rfl,aa (λg=>?_) (λg=>?_)⟩
 ·refine(Gu l [48] b (by simp) (c.ok a) a.wf).mono ?_;rintro _ i ⟨rfl,e⟩;refine⟨_,rfl,?_,a.trans e⟩;rw[g,Bool.true_and]
 ·refine⟨?_,a⟩;rw[g,Bool.false_and]
theorem aff{A B:Prop}(c:b=true)(a:A):au b A B:=aa (λ_=>a) (λe=>by rw[c]at e;cases e)
theorem PW{K:VH}(d:Nat.blt n YB=true)(e:FW SS n c h λv a=>∃b:Bool,v = .bool b/\K (.bool b) a):au (Nat.blt n YB) (FW SS n ([]++c++[]) h λv a=>∃b:Bool,v = .bool b/\K (.bool b) a) False:=
 aff d (by rw[List.nil_append,List.append_nil];exact e)
theorem mi(a:Int)(l:List UInt8)(u:l.length<=1000000000){h:ae}(z:nW h)(w:Wf h):FW SS 41 [.int .i64 a,strOf l] h (λv y=>v = .bool (bG a l)/\Ok h y):=by
 refine Iw a l h _ ((D8 a w).mono ?_);rintro _ b ⟨rfl,c⟩;have j:∀(cs:List Value)(f:Nat),cs.length=8->cs.all dQ=true->cs.getD 7 undef=pa f->Nat.blt f YB=true->(∀g,Ok h g->FW SS f [strOf l] g (λv y=>v = .bool (bG a l)/\Ok g y))->Y2 a = .tuple ⟨[.agg ⟨cs⟩,.bool true]⟩->∃p:List Value,∃D:Bool,Y2 a=(.tuple ⟨[(.agg ⟨p⟩),(.bool D)]⟩)/\∃m:dV,br SS.P 99=some (m,lk)/\∃n:dP,ah SS.P 99 (.pointer (some ⟨b.next,0,none⟩)) (.agg ⟨p⟩) (b.push m)=some (undef,n)/\au D (∃E:Addr,aE SS.P 99 (.pointer (some ⟨b.next,0,none⟩)) 7=some (.pointer (some E))/\∃(t:Nat)(B r:List Value),aj SS.P 97 (n.app (b.push m)) (.pointer (some E))=some (.func (.func t) ⟨B⟩ ⟨r⟩)/\au (Nat.blt t YB) (FW SS t (B++[(strOf l)]++r) (n.app (b.push m)) λA k=>∃s:Bool,A=(.bool s)/\(Value.bool s = .bool (bG a l)/\Ok h k)) False) (Value.bool false = .bool (bG a l)/\Ok h (n.app (b.push m))):=by
  intro cs f M I H J L e;refine⟨_,_,e,_,S0,_,kZ Ej rfl (aO b LD) M I,aa (λ_=>?_) (λg=>by cases g)⟩;obtain⟨o,g⟩:=px (cs:=cs) c.wf ((Ok.refl c.wf).push LD) (aO b LD) (Nat.le_refl _);have q:=cq aea acw g (i:=7) (by omega);rw[H]at q;refine⟨⟨b.next,7,none⟩,by kernel_rfl,f,[],[],q,?_⟩;refine PW (K:=λv k=>v = .bool (bG a l)/\Ok h k) J ((L _ (c.trans o)).mono ?_);rintro _ x ⟨rfl,d⟩;exact⟨_,rfl,rfl,(c.trans o).trans d⟩
 by_cases F:a=1
 ·subst F;refine j yU 109 rfl rfl rfl (by decide +kernel) (λg o=>?_) rfl;refine(qc l u (z.ok o) o.wf).mono ?_;rintro _ x ⟨rfl,d⟩;refine⟨?_,d⟩;unfold bG;simp
 by_cases C:a=2
 ·subst C;refine j yW 114 rfl rfl rfl (by decide +kernel) (λg o=>?_) rfl;refine(uz l u (z.ok o) o.wf).mono ?_;rintro _ x ⟨rfl,d⟩;refine⟨?_,d⟩;unfold bG;simp
 by_cases G:a=3
 ·subst G;refine j yX 114 rfl rfl rfl (by decide +kernel) (λg o=>?_) rfl;refine(uz l u (z.ok o) o.wf).mono ?_;rintro _ x ⟨rfl,d⟩;refine⟨?_,d⟩;unfold bG;simp
 ·have e:Y2 a = .tuple ⟨[.agg ⟨ny⟩,.bool false]⟩:=by unfold Y2;rw[if_neg F,if_neg C,if_neg G]
  refine⟨_,_,e,_,S0,_,kZ Ej rfl (aO b LD) (cs:=ny) rfl rfl,aa (λg=>by cases g) (λ_=>?_)⟩;obtain⟨o,g⟩:=px (cs:=ny) c.wf ((Ok.refl c.wf).push LD) (aO b LD) (Nat.le_refl _);refine⟨?_,c.trans o⟩;unfold bG;rw[decide_eq_false (by omega)];rfl
theorem yH(a:Int)(l:List UInt8)(k:l.length<=1000000000){h:ae}(w:Wf h):FW SS 47 [.int .i64 a,strOf l] h (λv j=>v = .bool (decide (1<=a/\a<=3)&&(l==[105,110,102]||l==[45,105,110,102]&&a==1||aA l&&(a==1||decide (0<=da l [48]))))/\Ok h j):=by
 have m:FW SS 14 [.int .i64 a] h (λv j=>v = .bool (decide (1<=a/\a<=3))/\j=h):=by
  refine Bn a h _ (aa (λg=>⟨?_,rfl⟩) (λg=>⟨?_,rfl⟩))
  ·have g:=dT g;congr 1;exact decide_eq_decide.2 ⟨λc=>⟨g,c⟩,λc=>c.2⟩
  ·have g:=dF g;rw[decide_eq_false (by omega)]
 refine Ip a l h _ (m.mono ?_);rintro _ p ⟨rfl,o⟩;obtain rfl:h=p:=o.symm;refine⟨_,rfl,aa (λg=>⟨?_,Ok.refl w⟩) (λg=>?_)⟩
 ·rw[not_eq_true']at g;rw[g];rfl
 rw[not_eq_false']at g;rw[g,Bool.true_and];refine aa (λe=>aa (λ_=>⟨?_,Ok.refl w⟩) (λb=>by rw[e]at b;cases b)) (λe=>aa (λb=>aa (λd=>by rw[e]at d;cases d) (λ_=>⟨?_,Ok.refl w⟩)) (λb=>?_))
 ·rw[e];rfl
 ·rw[e,b];rw[show l=[45,105,110,102] by simpa using b,vQ];simp
 ·rw[e,b];refine(yG l k w).mono ?_;rintro _ q ⟨rfl,f⟩;refine⟨_,rfl,aa (λd=>aa (λi=>⟨?_,f⟩) (λi=>?_)) (λd=>⟨?_,f⟩)⟩
  ·rw[d,i];rfl
  ·refine(D2 l [48] k (by simp) f.wf).mono ?_;rintro _ r ⟨rfl,n⟩;refine⟨_,rfl,?_,f.trans n⟩;rw[d,i];simp
  ·rw[d];rfl
theorem qE(a:Int)(l:List UInt8)(r:l.length<=1000000000){h:ae}(w:Wf h):FW SS 16 [.int .i64 a,strOf l] h (λv s=>v = .bool (bG a l)/\Ok h s):=by
 refine Fp a l h _ ((yH a l r w).mono ?_);rintro _ m ⟨rfl,d⟩;have q:(l==[105,110,102])=true->aA l=false:=λe=>by rw[show l=[105,110,102] by simpa using e];exact Je
 have t:(l==[45,105,110,102])=true->aA l=false:=λe=>by rw[show l=[45,105,110,102] by simpa using e];exact vQ
 unfold bG;generalize decide (1<=a/\a<=3)=K;refine⟨_,rfl,aa (λg=>?_) (λg=>⟨?_,d⟩)⟩
 ·refine aa (λi=>aa (λf=>?_) (λf=>⟨?_,d⟩)) (λi=>⟨?_,d⟩)
  ·have i:(l==[105,110,102])=false:=by simpa using i
   have f:(l==[45,105,110,102])=false:=by simpa using f
   rw[i,f]at g;simp only[Bool.false_or,Bool.false_and,and_eq_true]at g;obtain⟨p,k,b⟩:=g;rw[p,k];refine aa (λn=>⟨?_,d⟩) (λn=>⟨?_,d⟩)
   ·rw[n];rfl
   ·rw[n]at b⊢;simp only[Bool.false_or,decide_eq_true_eq]at b;have:=EP k;congr 1;by_cases j:l=[48]
    ·have m:=this.2 j;rw[m,j];rfl
    ·have m:¬da l [48]=0:=λc=>j (this.1 c);rw[decide_eq_true (by omega:0<da l [48])];simpa using j
  ·rw[t (by simpa using f)];simp
  ·rw[q (by simpa using i)];simp
 ·congr 1
  cases K with
  |false=>rfl
  |true=>
   rw[Bool.true_and]at g⊢;simp only[Bool.or_eq_false_iff,Bool.and_eq_false_iff]at g;obtain⟨⟨p,k⟩,b⟩:=g;rcases b with b|⟨b,o⟩
   ·rw[b];rfl
   ·have o:=dF o;rw[b,decide_eq_false (by omega)];simp
variable{v:Value}{m:Nat}{t:List UInt8}
section
def mr(h:ae)(v:Value)(l:List gj):Prop:=EZ h 70 4 v (l.map fK)
def vp(p:dx×Value):List Value:=[strOf p.1.f,p.2]
def dy(h:ae)(v:Value)(l:List dx):Prop:=∃a:List (dx×Value),a.map (·.1)=l/\EZ h 73 2 v (a.map vp)/\(∀p∈a,mr h p.2 p.1.arcs)/\v≠vX
theorem dy.ok{a:ae}{l:List dx}(r:dy h v l)(o:Ok h a):dy a v l:=by
 obtain⟨f,c,d,b,e⟩:=r;exact⟨f,c,d.ok o,λp g=>EZ.ok (b p g) o,e⟩
theorem dy.len{a:Option Addr}{n c:Nat}{l:List dx}(r:dy h (.slice a n c) l):n=l.length:=by
 obtain⟨f,b,d,e,_⟩:=r;rw[d.len,lM,<-b,lM]
theorem AA:SS.P.underlying 27=some (.slice 73):=by kernel_rfl
theorem V9:SS.P.underlying 71=some (.slice 70):=by kernel_rfl
theorem Wx:aG SS.P 73=some 2:=by kernel_rfl
theorem O6:aG SS.P 70=some 4:=by kernel_rfl
theorem uE:aG SS.P 29=some 4:=by kernel_rfl
theorem acv:Go.Ab.isAgg SS.P 73=true:=by kernel_rfl
theorem aaX:Go.Ab.isAgg SS.P 70=true:=by kernel_rfl
theorem Mg:Go.Ab.isAgg SS.P 29=true:=by kernel_rfl
theorem E3:Go.Ab.isAgg SS.P 27=false:=by kernel_rfl
theorem aaY:Go.Ab.isAgg SS.P 71=false:=by kernel_rfl
noncomputable def ad8:TypeDesc:=(SS.P.underlying 73).getD .bool
theorem ad7:SS.P.underlying 73=some ad8:=by kernel_rfl
noncomputable def ad6:TypeDesc:=(SS.P.underlying 70).getD .bool
theorem ab8:SS.P.underlying 70=some ad6:=by kernel_rfl
noncomputable def ad2:TypeDesc:=(SS.P.underlying 29).getD .bool
theorem NS:SS.P.underlying 29=some ad2:=by kernel_rfl
theorem du(k:Nat):aE SS.P 29 (.pointer (some ⟨k,0,none⟩)) 0=some (.pointer (some ⟨k,0,none⟩)):=by kernel_rfl
theorem tO(k:Nat):aE SS.P 29 (.pointer (some ⟨k,0,none⟩)) 1=some (.pointer (some ⟨k,1,none⟩)):=by kernel_rfl
theorem mJ(k:Nat):aE SS.P 29 (.pointer (some ⟨k,0,none⟩)) 2=some (.pointer (some ⟨k,2,none⟩)):=by kernel_rfl
theorem cZ(k:Nat):aE SS.P 29 (.pointer (some ⟨k,0,none⟩)) 3=some (.pointer (some ⟨k,3,none⟩)):=by kernel_rfl
theorem nJ(k o:Nat):aE SS.P 73 (.pointer (some ⟨k,o,none⟩)) 0=some (.pointer (some ⟨k,o+0,none⟩)):=by kernel_rfl
theorem iG(k o:Nat):aE SS.P 73 (.pointer (some ⟨k,o,none⟩)) 1=some (.pointer (some ⟨k,o+1,none⟩)):=by kernel_rfl
theorem Ac(k o:Nat):aE SS.P 70 (.pointer (some ⟨k,o,none⟩)) 0=some (.pointer (some ⟨k,o+0,none⟩)):=by kernel_rfl
theorem Ad(k o:Nat):aE SS.P 70 (.pointer (some ⟨k,o,none⟩)) 1=some (.pointer (some ⟨k,o+1,none⟩)):=by kernel_rfl
theorem Dg(k o:Nat):aE SS.P 70 (.pointer (some ⟨k,o,none⟩)) 2=some (.pointer (some ⟨k,o+2,none⟩)):=by kernel_rfl
theorem rW(k o:Nat):aE SS.P 70 (.pointer (some ⟨k,o,none⟩)) 3=some (.pointer (some ⟨k,o+3,none⟩)):=by kernel_rfl
structure MB(g:ae)(k:Nat)(M:bp)(a:Option Addr)(n c:Nat):Prop where
 box:g.get k=some (.cells [.int .i64 M.kind,.int .i64 M.start,strOf M.lead,.slice a n c] 29 0 true)
 row:dy g (.slice a n c) M.af
section
variable {g g':ae} {k:Nat} {M:bp} {a:Option Addr} {n c:Nat}
theorem MB.ok(m:MB g k M a n c)(o:Ok g g'):MB g' k M a n c:=⟨o.ext _ _ m.box,m.row.ok o⟩
theorem MB.l0(m:MB g k M a n c):aj SS.P 3 g (.pointer (some ⟨k,0,none⟩))=some (.int .i64 M.kind):=cq G0 FT m.box (by simp)
theorem MB.l1(m:MB g k M a n c):aj SS.P 3 g (.pointer (some ⟨k,1,none⟩))=some (.int .i64 M.start):=cq G0 FT m.box (by simp)
theorem MB.l2(m:MB g k M a n c):aj SS.P 9 g (.pointer (some ⟨k,2,none⟩))=some (strOf M.lead):=cq LJ Su m.box (by simp)
theorem MB.l3(m:MB g k M a n c):aj SS.P 27 g (.pointer (some ⟨k,3,none⟩))=some (.slice a n c):=cq AA E3 m.box (by simp)
theorem MB.all(m:MB g k M a n c):aj SS.P 29 g (.pointer (some ⟨k,0,none⟩))=some (.agg ⟨[.int .i64 M.kind,.int .i64 M.start,strOf M.lead,.slice a n c]⟩):=pk NS Mg uE m.box (by simp)
theorem MB.len(m:MB g k M a n c):n=M.af.length:=m.row.len
end
theorem dy.at_{g:ae}{a:Option Addr}{n c:Nat}{l:List dx}(r:dy g (.slice a n c) l){i:Nat}{s:dx}(k:l[i]?=some s):
  ∃(b o:Nat)(x:Option Addr)(y z:Nat),aD SS.P 27 (.slice a n c) (.int .i64 (i:Int))=some (.pointer (some ⟨b,o,none⟩))/\aj SS.P 73 g (.pointer (some ⟨b,o,none⟩))=some (.agg ⟨[strOf s.f,.slice x y z]⟩)/\
   aj SS.P 9 g (.pointer (some ⟨b,o+0,none⟩))=some (strOf s.f)/\aj SS.P 71 g (.pointer (some ⟨b,o+1,none⟩))=some (.slice x y z)/\mr g (.slice x y z) s.arcs:=by
 obtain⟨B,v,w,t,_⟩:=r;rw[<-v,getElem?_map]at k;obtain⟨p,j,rfl⟩:=Option.map_eq_some_iff.1 k;have C:=(List.getElem?_eq_some_iff.1 j).1;obtain⟨b,o,q,d,e⟩:=w.at_ AA Wx ad7 acv (ik:= .i64) (i:=(i:Int)) (by omega) (by rw[lM];omega);have A:(B.map vp).getD (i:Int).toNat []=vp p:=by
  rw[Int.toNat_natCast,gD,getElem?_map,j];rfl
 rw[A]at d e;have f:=t p (List.mem_of_getElem? j);obtain⟨x,z,u⟩:=EZ.Xy f;have m:=e 9 _ 0 LJ Su (by omega);have h:=e 71 _ 1 V9 aaY (by omega);unfold vp at d m h;rw[u]at d h f;exact⟨b,o,x,_,z,q,d,m,h,f⟩
theorem mr.len{g:ae}{x:Option Addr}{z:Nat}{l:List gj}(r:mr g (.slice x m z) l):m=l.length:=by
 have:=EZ.len r;rwa[lM]at this
theorem mr.ok{a:ae}{l:List gj}(r:mr h v l)(o:Ok h a):mr a v l:=EZ.ok r o
theorem mr.at_{g:ae}{x:Option Addr}{z:Nat}{l:List gj}(r:mr g (.slice x m z) l){j:Nat}{q:gj}(c:l[j]?=some q):
  ∃(b o:Nat),aD SS.P 71 (.slice x m z) (.int .i64 (j:Int))=some (.pointer (some ⟨b,o,none⟩))/\aj SS.P 70 g (.pointer (some ⟨b,o,none⟩))=some (.agg ⟨fK q⟩)/\
   aj SS.P 3 g (.pointer (some ⟨b,o+0,none⟩))=some (.int .i64 q.i)/\aj SS.P 3 g (.pointer (some ⟨b,o+1,none⟩))=some (.int .i64 q.o)/\aj SS.P 9 g (.pointer (some ⟨b,o+2,none⟩))=some (strOf q.w)/\aj SS.P 3 g (.pointer (some ⟨b,o+3,none⟩))=some (.int .i64 q.t):=by
 have h:=(List.getElem?_eq_some_iff.1 c).1;obtain⟨b,o,e,d,a⟩:=EZ.at_ V9 O6 ab8 aaX r (ik:= .i64) (i:=(j:Int)) (by omega) (by rw[lM];omega);have f:(l.map fK).getD (j:Int).toNat []=fK q:=by
  rw[Int.toNat_natCast,gD,getElem?_map,c];rfl
 rw[f]at d a;exact⟨b,o,e,d,a 3 _ 0 G0 FT (by omega),a 3 _ 1 G0 FT (by omega),a 9 _ 2 LJ Su (by omega),a 3 _ 3 G0 FT (by omega)⟩
def SB(g:ae)(k:Nat)(f:List UInt8)(x:Option Addr)(y z:Nat):Prop:=g.get k=some (.cells [strOf f,.slice x y z] 73 0 true)
theorem SB.ok{g g':ae}{k:Nat}{x:Option Addr}{z:Nat}(s:SB g k t x m z)(o:Ok g g'):SB g' k t x m z:=o.ext _ _ s
theorem SB.l0{g:ae}{k:Nat}{x:Option Addr}{z:Nat}(s:SB g k t x m z):aj SS.P 9 g (.pointer (some ⟨k,0+0,none⟩))=some (strOf t):=cq LJ Su s (by simp)
theorem SB.l1{g:ae}{k:Nat}{x:Option Addr}{z:Nat}(s:SB g k t x m z):aj SS.P 71 g (.pointer (some ⟨k,0+1,none⟩))=some (.slice x m z):=cq V9 aaY s (by simp)
def AB(g:ae)(k:Nat)(q:gj):Prop:=g.get k=some (.cells (fK q) 70 0 true)
theorem AB.ok{g g':ae}{k:Nat}{q:gj}(s:AB g k q)(o:Ok g g'):AB g' k q:=o.ext _ _ s
theorem AB.l0{g:ae}{k:Nat}{q:gj}(s:AB g k q):aj SS.P 3 g (.pointer (some ⟨k,0+0,none⟩))=some (.int .i64 q.i):=cq G0 FT s (by simp[fK])
theorem AB.l1{g:ae}{k:Nat}{q:gj}(s:AB g k q):aj SS.P 3 g (.pointer (some ⟨k,0+1,none⟩))=some (.int .i64 q.o):=cq G0 FT s (by simp[fK])
theorem AB.l2{g:ae}{k:Nat}{q:gj}(s:AB g k q):aj SS.P 9 g (.pointer (some ⟨k,0+2,none⟩))=some (strOf q.w):=cq LJ Su s (by simp[fK])
theorem AB.l3{g:ae}{k:Nat}{q:gj}(s:AB g k q):aj SS.P 3 g (.pointer (some ⟨k,0+3,none⟩))=some (.int .i64 q.t):=cq G0 FT s (by simp[fK])
def Sz:dV:= .cells [strOf [],.slice none 0 0] 73 0 true
theorem XN:br SS.P 73=some (Sz,lk):=by kernel_rfl
def Pe:dV:= .cells [.int .i64 0,.int .i64 0,strOf [],.int .i64 0] 70 0 true
theorem SZ:br SS.P 70=some (Pe,lk):=by kernel_rfl
theorem OS(w:Wf h)(f:List UInt8)(x:Option Addr)(y z:Nat):∃u:dP,ah SS.P 73 (.pointer (some ⟨h.next,0,none⟩)) (.agg ⟨[strOf f,.slice x y z]⟩) (h.push Sz)=some (undef,u)/\Ok h (u.app (h.push Sz))/\SB (u.app (h.push Sz)) h.next f x y z:=by
 obtain⟨o,e⟩:=px (cs:=[strOf f,.slice x y z]) w ((Ok.refl w).push Sz) (aO h Sz) (Nat.le_refl _);exact⟨_,kZ Wx rfl (aO h Sz) rfl rfl,o,e⟩
theorem KI(w:Wf h)(q:gj):∃u:dP,ah SS.P 70 (.pointer (some ⟨h.next,0,none⟩)) (.agg ⟨fK q⟩) (h.push Pe)=some (undef,u)/\Ok h (u.app (h.push Pe))/\AB (u.app (h.push Pe)) h.next q:=by
 obtain⟨o,e⟩:=px (cs:=fK q) w ((Ok.refl w).push Pe) (aO h Pe) (Nat.le_refl _);exact⟨_,kZ O6 rfl (aO h Pe) rfl rfl,o,e⟩
def bK(M:bp)(a:Option Addr)(n c:Nat):List Value:=[.int .i64 M.kind,.int .i64 M.start,strOf M.lead,.slice a n c]
def Bm(M:bp)(a:Option Addr)(n c:Nat):dV:= .cells (bK M a n c) 29 0 true
theorem iS(M:bp)(a:Option Addr)(n c:Nat):eL SS.P 29 (.agg ⟨bK M a n c⟩)=some (Bm M a n c,lk):=by kernel_rfl
theorem fv(w:Wf h){M:bp}{a:Option Addr}{n c:Nat}(r:dy h (.slice a n c) M.af):MB (h.push (Bm M a n c)) h.next M a n c/\Ok h (h.push (Bm M a n c)):=
 ⟨⟨aO h _,r.ok ((Ok.refl w).push _)⟩,(Ok.refl w).push _⟩
def tf(s:Int):Bool:=decide (0<=s)&&decide (s<=500)
def ic(b:Int)(N:Nat)(a:gj):Bool:=tf a.i&&tf a.o&&decide (0<=a.t)&&decide (a.t<N)&&bG b a.w
def nY(a:Int)(N:Nat):Int->List dx->Bool
 |_,[]=>true
 |b,s::r=>decide (b+s.arcs.length<=30000)&&(s.f==[]||bG a s.f)&&s.arcs.all (ic a N)&&nY a N (b+s.arcs.length) r
def ca(M:bp):Bool:=decide (1<=M.kind)&&decide (M.kind<=3)&&decide (1<=M.af.length)&&decide (M.af.length<=3000)&&decide (0<=M.start)&&decide (M.start<M.af.length)&&bG M.kind M.lead&&nY M.kind M.af.length 0 M.af
def cg(l:List dx):Nat:=(l.map λs=>s.arcs.length).sum
structure Small(M:bp):Prop where
 lead:M.lead.length<=900
 bJ:M.af.length<=300
 fin:∀s∈M.af,s.f.length<=900
 arcs:∀s∈M.af,s.arcs.length<=2000
 w:∀s∈M.af,∀q∈s.arcs,q.w.length<=900
 tot:cg M.af<=2000
end
noncomputable def Wu:FD:=cF Tryz.f89 []
theorem R9(s:Int)(h:ae)(Q:VH)(a:au (decide ((s:Int)>=0)) (Q (.bool (decide ((s:Int)<=500))) h) (Q (.bool false) h)):FW SS 89 [(.int .i64 s)] h Q:=cI Wu Tryz.func89 (ai a)
noncomputable def dB:FD:=cF Tryz.f66 [([1,1,1,1,0,1,0,0],[1,2,3,4,48,49,50]),([1,1,1,1,0,1,0,0,1,1,0,0,1,1,1,1,0,0],[1,2,3,4,6,48,49,50,75,76,77])]
abbrev hH(k:Nat)(a:OA)(n c:Nat)(i:Nat)(b:Int):LV:=[(pA k),(.bool false),(iA n),(.int .i64 b),(.slice a n c),(iA n),(iA i)]
abbrev jE(k:Nat)(a:OA)(n c f:Nat)(b:OA)(m d i:Nat)(e:Int)(j:Nat):LV:=[(pA k),(.bool false),(iA n),(.int .i64 e),(pA f),(.slice a n c),(iA n),(iA i),(.slice b m d),(iA m),(iA j)]
theorem QE(x:LV)(h:ae)(Q:VH)(y:xN (eL SS.P 29 (.agg ⟨x⟩)) h λ_ w=>fP 29 (pA (h.next)) 3 λv=>lL 27 w v λ_ u _=>fP 29 (pA (h.next)) 0 λt=>lI w t λs=>au (decide ((s:Int)<1)) (Q (.bool false) w) (fP 29 (pA (h.next)) 0 λr=>lI w r λq=>au (decide ((q:Int)>3)) (Q (.bool false) w) (au (decide (((u:Int):Int)<1)) (Q (.bool false) w) (au (decide (((u:Int):Int)>3000)) (Q (.bool false) w) (fP 29 (pA (h.next)) 1 λp=>lI w p λo=>au (decide ((o:Int)<0)) (Q (.bool false) w) (fP 29 (pA (h.next)) 1 λn=>lI w n λm=>au (decide ((m:Int)>=(u:Int))) (Q (.bool false) w) (fP 29 (pA (h.next)) 0 λl=>lI w l λk=>fP 29 (pA (h.next)) 2 λj=>lS w j λi=>FW SS 41 [(.int .i64 k),(strOf i)] w λf g=>yB f λe=>au (!e) (Q (.bool false) g) (fP 29 (pA (h.next)) 3 λd=>lL 27 g d λa b c=>LL SS dB [1,1,1,1,0,1,0,0] [(pA (h.next)),(.bool false),(iA u),(.int .i64 0),(.slice a b c),(iA b),(.int .i64 0)] g (KK SS dB [1,1,1,1,0,1,0] [] (EE SS dB Q)))))))))):FW SS 66 [(.agg ⟨x⟩)] h Q:=cI dB Tryz.func66 (ai y)
theorem ym(D:LV)(k:Nat)(a:OA)(n c:Nat)(z:Nat->Nat->Int->ae->Prop)(Q:VH)(step:∀(A:Nat) (i:Nat) (acc:Int) (C:Nat->Value) (h:ae),z A i acc h->au (decide (((i:Int):Int)<(n:Int))) (iP 27 (.slice a n c) (iA i) λy=>lA 73 h (.pointer (some y)) λx=>xN (br SS.P 73) h λ_ w=>xU (ah SS.P 73 (pA (h.next)) (.agg ⟨x⟩) w) w λ_ v=>fP 73 (pA (h.next)) 1 λu=>lL 71 v u λ_ t _=>au (decide ((wrap .i64 (acc+(t:Int)):Int)>30000)) (Q (.bool false) v) (fP 73 (pA (h.next)) 0 λs=>lS v s λr=>au (!((r:LB)==[])) (fP 29 (pA k) 0 λq=>lI v q λp=>fP 73 (pA (h.next)) 0 λo=>lS v o λm=>FW SS 41 [(.int .i64 p),(strOf m)] v λj l=>yB j λg=>au (!g) (Q (.bool false) l) (fP 73 (pA (h.next)) 1 λf=>lL 71 l f λb d e=>LL SS dB [1,1,1,1,0,1,0,0,1,1,0,0,1,1,1,1,0,0] (jE k a n c (h.next) b d e i (wrap .i64 (acc+(t:Int))) 0) l (KK SS dB [1,1,0,0,1,1,1,1,0] [1,1,1,1,0,1,0,0] (RR dB [1,1,1,1,0,1,0,0] (pL (hH k a n c) z) A (KK SS dB [1,1,1,1,0,1,0] [] (EE SS dB Q)))))) (fP 73 (pA (h.next)) 1 λf=>lL 71 v f λb d e=>LL SS dB [1,1,1,1,0,1,0,0,1,1,0,0,1,1,1,1,0,0] (jE k a n c (h.next) b d e i (wrap .i64 (acc+(t:Int))) 0) v (KK SS dB [1,1,0,0,1,1,1,1,0] [1,1,1,1,0,1,0,0] (RR dB [1,1,1,1,0,1,0,0] (pL (hH k a n c) z) A (KK SS dB [1,1,1,1,0,1,0] [] (EE SS dB Q))))))) (Q (.bool true) h))(A:Nat){i:Nat}{acc:Int}{h:ae}(B:z A i acc h):LL SS dB [1,1,1,1,0,1,0,0] (hH k a n c i acc) h (KK SS dB [1,1,1,1,0,1,0] [] (EE SS dB Q)):=
 mh (hH k a n c) z (λA i acc C h B=>ai (step A i acc C h B)) A B
theorem yp(R:LV)(k:Nat)(a:OA)(n c:Nat)(D:Nat)(b:OA)(m d:Nat)(E:Nat->Nat->Int->ae->Prop)(H i:Nat)(C:Int)(B:Nat->Nat->ae->Prop)(Q:VH)(step:∀(A:Nat) (j:Nat) (I:Nat->Value) (h:ae),B A j h->au (decide (((j:Int):Int)<(m:Int))) (iP 71 (.slice b m d) (iA j) λP=>lA 70 h (.pointer (some P)) λN=>xN (br SS.P 70) h λ_ K=>xU (ah SS.P 70 (pA (h.next)) (.agg ⟨N⟩) K) K λ_ J=>fP 70 (pA (h.next)) 0 λO=>lI J O λL=>FW SS 89 [(.int .i64 L)] J λM G=>yB M λz=>au (!z) (Q (.bool false) G) (fP 70 (pA (h.next)) 1 λy=>lI G y λx=>FW SS 89 [(.int .i64 x)] G λv w=>yB v λu=>au (!u) (Q (.bool false) w) (fP 70 (pA (h.next)) 3 λt=>lI w t λs=>au (decide ((s:Int)<0)) (Q (.bool false) w) (fP 70 (pA (h.next)) 3 λr=>lI w r λq=>au (decide ((q:Int)>=(n:Int))) (Q (.bool false) w) (fP 29 (pA k) 0 λp=>lI w p λo=>fP 70 (pA (h.next)) 2 λl=>lS w l λh=>FW SS 41 [(.int .i64 o),(strOf h)] w λf g=>yB f λe=>au (!e) (Q (.bool false) g) (aJ (fs (jE k a n c D b m d i C) B) A [(pA k),(.bool false),(iA n),(.int .i64 C),(pA D),(.slice a n c),(iA n),(iA i),(.slice b m d),(iA m),(.int .i64 (wrap .i64 ((j:Int)+1)))] g)))))) (aJ (pL (hH k a n c) E) H [(pA k),(.bool false),(iA n),(.int .i64 C),(.slice a n c),(iA n),(.int .i64 (wrap .i64 ((i:Int)+1)))] h))(A:Nat){j:Nat}{h:ae}(F:B A j h):LL SS dB [1,1,1,1,0,1,0,0,1,1,0,0,1,1,1,1,0,0] (jE k a n c D b m d i C j) h (KK SS dB [1,1,0,0,1,1,1,1,0] [1,1,1,1,0,1,0,0] (RR dB [1,1,1,1,0,1,0,0] (pL (hH k a n c) E) H (KK SS dB [1,1,1,1,0,1,0] [] (EE SS dB Q)))):=
 dc (jE k a n c D b m d i C) B (λA j I h F=>ai (step A j I h F)) A F
noncomputable def dC:FD:=cF Tryz.f26 [([1,1,1,0,1,0,0],[1,2,3,4]),([1,1,1,0,1,0,0,1,0,0,1,1,1,1,0,0],[1,2,3,4,5,6])]
abbrev fV(k:Nat)(i:Nat)(a:Int):LV:=[(pA k),(.bool false),(.int .i64 a),(iA i)]
abbrev jJ(k b i:Nat)(a:Int)(j:Nat):LV:=[(pA k),(.bool false),(.int .i64 a),(iA i),(pA b),(iA j)]
theorem Re(y:LV)(h:ae)(Q:VH)(z:xN (eL SS.P 29 (.agg ⟨y⟩)) h λ_ x=>fP 29 (pA (h.next)) 0 λw=>lI x w λv=>FW SS 14 [(.int .i64 v)] x λt u=>yB t λs=>au (!s) (Q (.bool false) u) (fP 29 (pA (h.next)) 3 λr=>lL 27 u r λ_ q _=>au (decide (((q:Int):Int)<1)) (Q (.bool false) u) (fP 29 (pA (h.next)) 3 λp=>lL 27 u p λ_ o _=>au (decide (((o:Int):Int)>3000)) (Q (.bool false) u) (fP 29 (pA (h.next)) 1 λn=>lI u n λm=>au (decide ((m:Int)<0)) (Q (.bool false) u) (fP 29 (pA (h.next)) 1 λl=>lI u l λk=>fP 29 (pA (h.next)) 3 λj=>lL 27 u j λ_ i _=>au (decide ((k:Int)>=(i:Int))) (Q (.bool false) u) (fP 29 (pA (h.next)) 0 λg=>lI u g λf=>fP 29 (pA (h.next)) 2 λe=>lS u e λd=>FW SS 16 [(.int .i64 f),(strOf d)] u λb c=>yB b λa=>au (!a) (Q (.bool false) c) (LL SS dC [1,1,1,0,1,0,0] (fV (h.next) 0 0) c (KK SS dC [1,1,1,0,1,0] [] (EE SS dC Q))))))))):FW SS 26 [(.agg ⟨y⟩)] h Q:=cI dC Tryz.func26 (ai z)
theorem yC(C:LV)(k:Nat)(y:Nat->Nat->Int->ae->Prop)(Q:VH)(step:∀(z:Nat) (i:Nat) (acc:Int) (B:Nat->Value) (h:ae),y z i acc h->fP 29 (pA k) 3 λx=>lL 27 h x λ_ w _=>au (decide (((i:Int):Int)<(w:Int))) (fP 29 (pA k) 3 λv=>lL 27 h v λs t u=>iP 27 (.slice s t u) (iA i) λr=>lA 73 h (.pointer (some r)) λq=>xN (br SS.P 73) h λ_ p=>xU (ah SS.P 73 (pA (h.next)) (.agg ⟨q⟩) p) p λ_ o=>fP 73 (pA (h.next)) 1 λn=>lL 71 o n λ_ m _=>au (decide ((wrap .i64 (acc+(m:Int)):Int)>30000)) (Q (.bool false) o) (fP 73 (pA (h.next)) 0 λl=>lS o l λj=>au (!((j:LB)==[])) (fP 29 (pA k) 0 λg=>lI o g λf=>fP 73 (pA (h.next)) 0 λe=>lS o e λd=>FW SS 16 [(.int .i64 f),(strOf d)] o λb c=>yB b λa=>au (!a) (Q (.bool false) c) (LL SS dC [1,1,1,0,1,0,0,1,0,0,1,1,1,1,0,0] (jJ k (h.next) i (wrap .i64 (acc+(m:Int))) 0) c (KK SS dC [1,0,0,1,1,1,1,0] [1,1,1,0,1,0,0] (RR dC [1,1,1,0,1,0,0] (pL (fV k) y) z (KK SS dC [1,1,1,0,1,0] [] (EE SS dC Q)))))) (LL SS dC [1,1,1,0,1,0,0,1,0,0,1,1,1,1,0,0] (jJ k (h.next) i (wrap .i64 (acc+(m:Int))) 0) o (KK SS dC [1,0,0,1,1,1,1,0] [1,1,1,0,1,0,0] (RR dC [1,1,1,0,1,0,0] (pL (fV k) y) z (KK SS dC [1,1,1,0,1,0] [] (EE SS dC Q))))))) (Q (.bool true) h))(z:Nat){i:Nat}{acc:Int}{h:ae}(A:y z i acc h):LL SS dC [1,1,1,0,1,0,0] (fV k i acc) h (KK SS dC [1,1,1,0,1,0] [] (EE SS dC Q)):=
 mh (fV k) y (λz i acc B h A=>ai (step z i acc B h A)) z A
theorem yD(S:LV)(k D:Nat)(E:Nat->Nat->Int->ae->Prop)(G i:Nat)(C:Int)(B:Nat->Nat->ae->Prop)(Q:VH)(step:∀(A:Nat) (j:Nat) (I:Nat->Value) (h:ae),B A j h->fP 73 (pA D) 1 λJ=>lL 71 h J λ_ O _=>au (decide (((j:Int):Int)<(O:Int))) (fP 73 (pA D) 1 λL=>lL 71 h L λM N P=>iP 71 (.slice M N P) (iA j) λK=>lA 70 h (.pointer (some K)) λR=>xN (br SS.P 70) h λ_ H=>xU (ah SS.P 70 (pA (h.next)) (.agg ⟨R⟩) H) H λ_ z=>fP 70 (pA (h.next)) 0 λy=>lI z y λx=>au (decide ((x:Int)<0)) (Q (.bool false) z) (fP 70 (pA (h.next)) 0 λw=>lI z w λv=>au (decide ((v:Int)>500)) (Q (.bool false) z) (fP 70 (pA (h.next)) 1 λu=>lI z u λt=>au (decide ((t:Int)<0)) (Q (.bool false) z) (fP 70 (pA (h.next)) 1 λs=>lI z s λr=>au (decide ((r:Int)>500)) (Q (.bool false) z) (fP 70 (pA (h.next)) 3 λq=>lI z q λp=>au (decide ((p:Int)<0)) (Q (.bool false) z) (fP 70 (pA (h.next)) 3 λo=>lI z o λn=>fP 29 (pA k) 3 λm=>lL 27 z m λ_ l _=>au (decide ((n:Int)>=(l:Int))) (Q (.bool false) z) (fP 29 (pA k) 0 λg=>lI z g λf=>fP 70 (pA (h.next)) 2 λe=>lS z e λd=>FW SS 16 [(.int .i64 f),(strOf d)] z λb c=>yB b λa=>au (!a) (Q (.bool false) c) (aJ (fs (jJ k D i C) B) A [(pA k),(.bool false),(.int .i64 C),(iA i),(pA D),(.int .i64 (wrap .i64 ((j:Int)+1)))] c)))))))) (aJ (pL (fV k) E) G [(pA k),(.bool false),(.int .i64 C),(.int .i64 (wrap .i64 ((i:Int)+1)))] h))(A:Nat){j:Nat}{h:ae}(F:B A j h):LL SS dC [1,1,1,0,1,0,0,1,0,0,1,1,1,1,0,0] (jJ k D i C j) h (KK SS dC [1,0,0,1,1,1,1,0] [1,1,1,0,1,0,0] (RR dC [1,1,1,0,1,0,0] (pL (fV k) E) G (KK SS dC [1,1,1,0,1,0] [] (EE SS dC Q)))):=
 dc (jJ k D i C) B (λA j I h F=>ai (step A j I h F)) A F
noncomputable def sw:FD:=cF Tryz.f56 [([1,1,0,1,0,0],[1,3,4])]
abbrev nf(k:Nat)(i:Nat)(a:Int):LV:=[(pA k),(.int .i64 a),(iA i)]
theorem Vm(b:LV)(h:ae)(Q:VH)(c:xN (eL SS.P 29 (.agg ⟨b⟩)) h λ_ a=>LL SS sw [1,1,0,1,0,0] (nf (h.next) 0 0) a (KK SS sw [1,1,0,1,0] [] (EE SS sw Q))):FW SS 56 [(.agg ⟨b⟩)] h Q:=cI sw Tryz.func56 (ai c)
theorem Ap(q:LV)(k:Nat)(n:Nat->Nat->Int->ae->Prop)(Q:VH)(step:∀(m:Nat) (i:Nat) (acc:Int) (p:Nat->Value) (h:ae),n m i acc h->fP 29 (pA k) 3 λl=>lL 27 h l λ_ j _=>au (decide (((i:Int):Int)<(j:Int))) (fP 29 (pA k) 3 λg=>lL 27 h g λd e f=>iP 27 (.slice d e f) (iA i) λc=>fP 73 (.pointer (some c)) 1 λb=>lL 71 h b λ_ a _=>aJ (pL (nf k) n) m [(pA k),(.int .i64 (wrap .i64 (acc+(a:Int)))),(.int .i64 (wrap .i64 ((i:Int)+1)))] h) (Q (.int .i64 acc) h))(m:Nat){i:Nat}{acc:Int}{h:ae}(o:n m i acc h):LL SS sw [1,1,0,1,0,0] (nf k i acc) h (KK SS sw [1,1,0,1,0] [] (EE SS sw Q)):=
 mh (nf k) n (λm i acc p h o=>ai (step m i acc p h o)) m o
variable{A:Type}{i:Nat}
section
theorem fM{l:List A}{s:A}(h:l[i]?=some s):l.drop i=s::l.drop (i+1):=by
 obtain⟨a,rfl⟩:=List.getElem?_eq_some_iff.1 h;exact List.drop_eq_getElem_cons a
theorem GW(s:Int)(h:ae):FW SS 89 [.int .i64 s] h (λv a=>v = .bool (tf s)/\a=h):=by
 refine R9 s h _ (aa (λg=>⟨?_,rfl⟩) (λg=>⟨?_,rfl⟩))
 ·have g:=dT g;unfold tf;rw[decide_eq_true (show 0<=s from g),Bool.true_and]
 ·have g:=dF g;unfold tf;rw[decide_eq_false (show ¬0<=s from g),Bool.false_and]
section
variable {h:ae} {k:Nat} {M:bp} {a:Option Addr} {n c:Nat}
def bQ(h:ae)(V:Bool):VH:=λv a=>v = .bool V/\Ok h a
def YW(h:ae)(k:Nat)(M:bp)(a:Option Addr)(n c:Nat)(V:Bool)(d i:Nat)(b:Int)(g:ae):Prop:=i<=n/\d=n-i/\0<=b/\b<=30000/\MB g k M a n c/\Ok h g/\nY M.kind n b (M.af.drop i)=V
def mIn(h:ae)(k:Nat)(M:bp)(a:Option Addr)(n c:Nat)(s:dx)(b:Option Addr)(m d i:Nat)(f:Int)(V:Bool)(e j:Nat)(g:ae):Prop:=j<=m/\e=m-j/\MB g k M a n c/\Ok h g/\mr g (.slice b m d) s.arcs/\((s.arcs.drop j).all (ic M.kind n)&&nY M.kind n f (M.af.drop (i+1)))=V
theorem aP{n:Nat}(h:i<n)(a:n<=1000000000):wrap .i64 ((i:Int)+1)=((i+1:Nat):Int):=by rw[aB (by omega) (by omega)];omega
theorem zg(a:Small M){s:dx}{i:Nat}(b:M.af[i]?=some s):s.arcs.length<=2000/\s.f.length<=1000000000/\∀q∈s.arcs,q.w.length<=1000000000:=by
 have h:=List.mem_of_getElem? b;exact⟨a.arcs s h,Nat.le_trans (a.fin s h) (by decide),λq c=>Nat.le_trans (a.w s h q c) (by decide)⟩
set_option linter.defProp false in
def Ko(w:Wf h)(Z:nW h)(O:Small M)(V:Bool){s:dx}{b:Option Addr}{m d i T:Nat}{l:Int}(U:M.af[i]?=some s)(Y:i<n)(h0:0<=l)(W:l<=30000)(Q:List Value)(K:Nat)(x0:K=n-i):=
 yp Q k a n c T b m d (YW h k M a n c V) K i l (mIn h k M a n c s b m d i l V) (bQ h V) (by
  intro P j;intros;rename_i g J;obtain⟨f1,f2,E,H,C,f⟩:=J;have hn:n<=300:=by rw[E.len];exact O.bJ
  obtain⟨l1,l2,X⟩:=zg O U;have hm:=C.len;refine aa (λy=>?_) (λy=>?_)
  ·have y:=dT y;obtain⟨q,F⟩:∃q,s.arcs[j]?=some q:=⟨_,gE (by omega)⟩
   obtain⟨bb,o,S,e2,e3⟩:=C.at_ F;have R:=X q (List.mem_of_getElem? F);rw[fM F,all_cons]at f;obtain⟨u,p1,D,z⟩:=KI H.wf q;refine⟨_,S,_,e2,_,SZ,u,p1,?_⟩;have e:=H.trans D;have B:=E.ok D;generalize u.app (g.push Pe)=L at*;refine⟨_,Ac _ _,_,z.l0,(GW _ _).mono ?_⟩;rintro _ I ⟨rfl,G⟩;obtain rfl:L=I:=G.symm;refine⟨_,rfl,aa (λt=>⟨?_,e⟩) (λt=>?_)⟩
   ·rw[not_eq_true']at t;rw[<-f];unfold ic;rw[t];simp
   rw[not_eq_false']at t;refine⟨_,Ad _ _,_,z.l1,(GW _ _).mono ?_⟩;rintro _ I ⟨rfl,G⟩;obtain rfl:L=I:=G.symm;refine⟨_,rfl,aa (λp=>⟨?_,e⟩) (λp=>?_)⟩
   ·rw[not_eq_true']at p;rw[<-f];unfold ic;rw[p];simp
   rw[not_eq_false']at p;refine⟨_,rW _ _,_,z.l3,aa (λx=>⟨?_,e⟩) (λx=>?_)⟩
   ·have x:=dT x;rw[<-f];unfold ic;rw[decide_eq_false (show ¬0<=q.t by omega)];simp
   have x:=dF x;refine⟨_,rW _ _,_,z.l3,aa (λr=>⟨?_,e⟩) (λr=>?_)⟩
   ·have r:=dT r;rw[<-f];unfold ic;rw[decide_eq_false (show ¬q.t<n by omega)];simp
   have r:=dF r;refine⟨_,du _,_,B.l0,_,Dg _ _,_,z.l2,(mi M.kind q.w R (Z.ok e) e.wf).mono ?_⟩;rintro _ g4 ⟨rfl,A⟩;refine⟨_,rfl,aa (λv=>⟨?_,e.trans A⟩) (λv=>?_)⟩
   ·rw[not_eq_true']at v;rw[<-f];unfold ic;rw[v];simp
   rw[not_eq_false']at v;have N:ic M.kind n q=true:=by
    unfold ic;rw[t,p,v,decide_eq_true (show 0<=q.t by omega),decide_eq_true (show q.t<n by omega)];rfl
   rw[N,Bool.true_and]at f;rw[aP (i:=j) (n:=m) (by omega) (by omega)];exact bZ (P-1) (by omega) ⟨by omega,by omega,B.ok A,e.trans A,(C.ok D).ok A,f⟩
  ·have y:=dF y;obtain rfl:m=j:=by omega
   rw[drop_eq_nil_of_le (by omega)]at f;rw[aP Y (by omega)];exact gY (n-(i+1)) (by omega) ⟨by omega,rfl,h0,W,E,H,by simpa using f⟩)
theorem qX{h:ae}(N:nW h)(w:Wf h){M:bp}(q:Small M){a:Option Addr}{n c:Nat}(r:dy h (.slice a n c) M.af):FW SS 66 [.agg ⟨bK M a n c⟩] h (λv h'=>v = .bool (ca M)/\Ok h h'):=by
 obtain⟨f,k⟩:=fv w r;refine QE (bK M a n c) h _ ⟨_,iS M a n c,?_⟩;have Y:=f.len;have hn:n<=300:=by rw[Y];exact q.bJ
 generalize h.push (Bm M a n c)=g at*;refine⟨_,cZ _,_,_,_,f.l3,_,du _,_,f.l0,aa (λJ=>⟨?_,k⟩) (λJ=>?_)⟩
 ·have J:=dT J;unfold ca;rw[decide_eq_false (show ¬1<=M.kind by omega)];simp
 have J:=dF J;refine⟨_,du _,_,f.l0,aa (λp=>⟨?_,k⟩) (λp=>aa (λF=>⟨?_,k⟩) (λF=>aa (λT=>⟨?_,k⟩) (λT=>?_)))⟩
 ·have p:=dT p;unfold ca;rw[decide_eq_false (show ¬M.kind<=3 by omega)];simp
 ·have F:=dT F;unfold ca;rw[decide_eq_false (show ¬1<=M.af.length by omega)];simp
 ·have T:=dT T;omega
 have p:=dF p;have F:=dF F;refine⟨_,tO _,_,f.l1,aa (λC=>⟨?_,k⟩) (λC=>?_)⟩
 ·have C:=dT C;unfold ca;rw[decide_eq_false (show ¬0<=M.start by omega)];simp
 have C:=dF C;refine⟨_,tO _,_,f.l1,aa (λD=>⟨?_,k⟩) (λD=>?_)⟩
 ·have D:=dT D;unfold ca;rw[decide_eq_false (show ¬M.start<M.af.length by omega)];simp
 have D:=dF D;refine⟨_,du _,_,f.l0,_,mJ _,_,f.l2,(mi M.kind M.lead (Nat.le_trans q.lead (by decide)) (N.ok k) k.wf).mono ?_⟩;rintro _ g2 ⟨rfl,o2⟩;have R:=k.trans o2;have O:=f.ok o2;refine⟨_,rfl,aa (λI=>⟨?_,R⟩) (λI=>?_)⟩
 ·rw[not_eq_true']at I;unfold ca;rw[I];simp
 rw[not_eq_false']at I;have hV:ca M=nY M.kind n 0 M.af:=by
  unfold ca;rw[I,decide_eq_true (show 1<=M.kind by omega),decide_eq_true (show M.kind<=3 by omega),decide_eq_true (show 1<=M.af.length by omega),decide_eq_true (show M.af.length<=3000 by omega),decide_eq_true (show 0<=M.start by omega),decide_eq_true (show M.start<M.af.length by omega),Y];rfl
 obtain⟨V,S⟩:∃V,V=nY M.kind n 0 M.af:=⟨_,rfl⟩
 rw[hV,<-S];refine⟨_,cZ _,_,_,_,O.l3,?_⟩;refine ym (bK M a n c) h.next a n c (YW h h.next M a n c V) (bQ h V) (λW i l=>?_) n (i:=0) (acc:=0) ⟨by omega,rfl,by omega,by omega,O,R,S.symm⟩;intros;rename_i gg hi;obtain⟨f1,Z,f3,f4,Q,G,d⟩:=hi;refine aa (λH=>?_) (λH=>?_)
 ·have H:=dT H;obtain⟨s,t⟩:∃s,M.af[i]?=some s:=⟨_,gE (by omega)⟩
  obtain⟨b,o,x,y,z,e1,e2,e3,e4,X⟩:=Q.row.at_ t;obtain⟨l1,l2,l3⟩:=zg q t;have hy:=X.len;rw[fM t]at d;unfold nY at d;obtain⟨u,p1,U,K⟩:=OS G.wf s.f x y z;refine⟨_,e1,_,e2,_,XN,u,p1,?_⟩;have e:=G.trans U;have L:=Q.ok U;have P:=X.ok U;generalize u.app (gg.push Sz)=g3 at*;have hw:wrap .i64 (l+(y:Int))=l+(s.arcs.length:Int):=by rw[hy,aB (by omega) (by omega)]
  refine⟨_,iG _ _,_,_,_,K.l1,?_⟩;dsimp only;rw[hw];refine aa (λA=>⟨?_,e⟩) (λA=>?_)
  ·have A:=dT A;rw[<-d,decide_eq_false (show ¬l+(s.arcs.length:Int)<=30000 by omega)];simp
  have A:=dF A;rw[decide_eq_true (show l+(s.arcs.length:Int)<=30000 by omega),Bool.true_and]at d;refine⟨_,nJ _ _,_,K.l0,aa (λm=>?_) (λm=>?_)⟩
  ·refine⟨_,du _,_,L.l0,_,nJ _ _,_,K.l0,(mi M.kind s.f l2 (N.ok e) e.wf).mono ?_⟩;rintro _ g4 ⟨rfl,B⟩;have m:(s.f==[])=false:=by simpa using m
   rw[m,Bool.false_or]at d;refine⟨_,rfl,aa (λE=>⟨?_,e.trans B⟩) (λE=>?_)⟩
   ·rw[not_eq_true']at E;rw[<-d,E];simp
   rw[not_eq_false']at E;rw[E,Bool.true_and]at d;refine⟨_,iG _ _,_,_,_,(K.ok B).l1,?_⟩;exact Ko w N q _ t (by omega) (by omega) (by omega) [] W Z y (j:=0) ⟨by omega,rfl,L.ok B,e.trans B,P.ok B,by rw[drop_zero];exact d⟩
  ·have m:(s.f==[])=true:=by simpa using m
   rw[m,Bool.true_or,Bool.true_and]at d;refine⟨_,iG _ _,_,_,_,K.l1,?_⟩;exact Ko w N q _ t (by omega) (by omega) (by omega) [] W Z y (j:=0) ⟨by omega,rfl,L,e,P,by rw[drop_zero];exact d⟩
 ·have H:=dF H;refine⟨?_,G⟩;rw[drop_eq_nil_of_le (by omega)]at d;rw[<-d];rfl
end
end
section
theorem qe(a:Int)(h:ae):FW SS 14 [.int .i64 a] h (λv b=>v = .bool (decide (1<=a)&&decide (a<=3))/\b=h):=by
 refine Bn a h _ (aa (λg=>⟨?_,rfl⟩) (λg=>⟨?_,rfl⟩))
 ·have g:=dT g;rw[decide_eq_true (show 1<=a from g),Bool.true_and]
 ·have g:=dF g;rw[decide_eq_false (show ¬1<=a from g),Bool.false_and]
section
variable {h:ae} {k:Nat} {M:bp} {a:Option Addr} {n c:Nat}
set_option linter.defProp false in
def K3(w:Wf h)(P:Small M)(V:Bool){s:dx}{b:Option Addr}{m d i Q:Nat}{p:Int}(U:M.af[i]?=some s)(Y:i<n)(Z:0<=p)(W:p<=30000)(R:List Value)(N:Nat)(x0:N=n-i):=
 yD R k Q (YW h k M a n c V) N i p (λx j g=>mIn h k M a n c s b m d i p V x j g/\SB g Q s.f b m d) (bQ h V) (by
  intro x j;intros;rename_i g L;obtain⟨⟨f1,f2,H,K,G,f⟩,J⟩:=L;have hn:n<=300:=by rw[H.len];exact P.bJ
  obtain⟨l1,l2,X⟩:=zg P U;have hm:=G.len;refine⟨_,iG _ _,_,_,_,J.l1,aa (λD=>?_) (λD=>?_)⟩
  ·have D:=dT D;obtain⟨q,I⟩:∃q,s.arcs[j]?=some q:=⟨_,gE (by omega)⟩
   obtain⟨bb,o,T,e2,e3⟩:=G.at_ I;have S:=X q (List.mem_of_getElem? I);rw[fM I,all_cons]at f;obtain⟨u,p1,F,l⟩:=KI K.wf q;refine⟨_,iG _ _,_,_,_,J.l1,_,T,_,e2,_,SZ,u,p1,?_⟩;have e:=K.trans F;have E:=H.ok F;generalize u.app (g.push Pe)=g2 at*;refine⟨_,Ac _ _,_,l.l0,aa (λt=>⟨?_,e⟩) (λt=>⟨_,Ac _ _,_,l.l0,aa (λr=>⟨?_,e⟩) (λr=>⟨_,Ad _ _,_,l.l1,aa (λB=>⟨?_,e⟩) (λB=>⟨_,Ad _ _,_,l.l1,aa (λv=>⟨?_,e⟩) (λv=>⟨_,rW _ _,_,l.l3,aa (λz=>⟨?_,e⟩) (λz=>⟨_,rW _ _,_,l.l3,_,cZ _,_,_,_,E.l3,aa (λA=>⟨?_,e⟩) (λA=>?_)⟩)⟩)⟩)⟩)⟩)⟩
   ·have t:=dT t;rw[<-f];unfold ic tf;rw[decide_eq_false (show ¬0<=q.i by omega)];simp
   ·have r:=dT r;rw[<-f];unfold ic tf;rw[decide_eq_false (show ¬q.i<=500 by omega)];simp
   ·have B:=dT B;rw[<-f];unfold ic tf;rw[decide_eq_false (show ¬0<=q.o by omega)];simp
   ·have v:=dT v;rw[<-f];unfold ic tf;rw[decide_eq_false (show ¬q.o<=500 by omega)];simp
   ·have z:=dT z;rw[<-f];unfold ic;rw[decide_eq_false (show ¬0<=q.t by omega)];simp
   ·have A:=dT A;rw[<-f];unfold ic;rw[decide_eq_false (show ¬q.t<n by omega)];simp
   have t:=dF t;have r:=dF r;have B:=dF B;have v:=dF v;have z:=dF z;have A:=dF A;refine⟨_,du _,_,E.l0,_,Dg _ _,_,l.l2,(qE M.kind q.w S e.wf).mono ?_⟩;rintro _ g4 ⟨rfl,y⟩;refine⟨_,rfl,aa (λC=>⟨?_,e.trans y⟩) (λC=>?_)⟩
   ·rw[not_eq_true']at C;rw[<-f];unfold ic;rw[C];simp
   rw[not_eq_false']at C;have O:ic M.kind n q=true:=by
    unfold ic tf;rw[C,decide_eq_true (show 0<=q.i by omega),decide_eq_true (show q.i<=500 by omega),decide_eq_true (show 0<=q.o by omega),decide_eq_true (show q.o<=500 by omega),decide_eq_true (show 0<=q.t by omega),decide_eq_true (show q.t<n by omega)];rfl
   rw[O,Bool.true_and]at f;rw[aP (i:=j) (n:=m) (by omega) (by omega)];exact bZ (x-1) (by omega) ⟨⟨by omega,by omega,E.ok y,e.trans y,(G.ok F).ok y,f⟩,(J.ok F).ok y⟩
  ·have D:=dF D;obtain rfl:m=j:=by omega
   rw[drop_eq_nil_of_le (by omega)]at f;rw[aP Y (by omega)];exact gY (n-(i+1)) (by omega) ⟨by omega,rfl,Z,W,H,K,by simpa using f⟩)
end
theorem q7{h:ae}(w:Wf h){M:bp}(t:Small M){a:Option Addr}{n c:Nat}(r:dy h (.slice a n c) M.af):FW SS 26 [.agg ⟨bK M a n c⟩] h (λv h'=>v = .bool (ca M)/\Ok h h'):=by
 obtain⟨e,p⟩:=fv w r;refine Re (bK M a n c) h _ ⟨_,iS M a n c,?_⟩;have W:=e.len;have hn:n<=300:=by rw[W];exact t.bJ
 generalize h.push (Bm M a n c)=g at*;refine⟨_,du _,_,e.l0,(qe _ _).mono ?_⟩;rintro _ g1 ⟨rfl,eg⟩;obtain rfl:g=g1:=eg.symm;refine⟨_,rfl,aa (λm=>⟨?_,p⟩) (λm=>?_)⟩
 ·rw[not_eq_true']at m;unfold ca;rw[m];simp
 rw[not_eq_false',and_eq_true]at m;have m:1<=M.kind/\M.kind<=3:=⟨dT m.1,dT m.2⟩
 refine⟨_,cZ _,_,_,_,e.l3,aa (λG=>⟨?_,p⟩) (λG=>⟨_,cZ _,_,_,_,e.l3,aa (λQ=>⟨?_,p⟩) (λQ=>?_)⟩)⟩
 ·have G:=dT G;unfold ca;rw[decide_eq_false (show ¬1<=M.af.length by omega)];simp
 ·have Q:=dT Q;omega
 have G:=dF G;refine⟨_,tO _,_,e.l1,aa (λD=>⟨?_,p⟩) (λD=>?_)⟩
 ·have D:=dT D;unfold ca;rw[decide_eq_false (show ¬0<=M.start by omega)];simp
 have D:=dF D;refine⟨_,tO _,_,e.l1,_,cZ _,_,_,_,e.l3,aa (λE=>⟨?_,p⟩) (λE=>?_)⟩
 ·have E:=dT E;unfold ca;rw[decide_eq_false (show ¬M.start<M.af.length by omega)];simp
 have E:=dF E;refine⟨_,du _,_,e.l0,_,mJ _,_,e.l2,(qE M.kind M.lead (Nat.le_trans t.lead (by decide)) p.wf).mono ?_⟩;rintro _ g2 ⟨rfl,Y⟩;have O:=p.trans Y;have U:=e.ok Y;refine⟨_,rfl,aa (λJ=>⟨?_,O⟩) (λJ=>?_)⟩
 ·rw[not_eq_true']at J;unfold ca;rw[J];simp
 rw[not_eq_false']at J;have Z:ca M=nY M.kind n 0 M.af:=by
  unfold ca;rw[J,decide_eq_true (show 1<=M.kind by omega),decide_eq_true (show M.kind<=3 by omega),decide_eq_true (show 1<=M.af.length by omega),decide_eq_true (show M.af.length<=3000 by omega),decide_eq_true (show 0<=M.start by omega),decide_eq_true (show M.start<M.af.length by omega),W];rfl
 obtain⟨V,P⟩:∃V,V=nY M.kind n 0 M.af:=⟨_,rfl⟩
 rw[Z,<-P];refine yC (bK M a n c) h.next (YW h h.next M a n c V) (bQ h V) (λS i k=>?_) n (i:=0) (acc:=0) ⟨by omega,rfl,by omega,by omega,U,O,P.symm⟩;intros;rename_i gg hi;obtain⟨f1,X,f3,f4,q,H,d⟩:=hi;refine⟨_,cZ _,_,_,_,q.l3,aa (λI=>?_) (λI=>?_)⟩
 ·have I:=dT I;obtain⟨s,A⟩:∃s,M.af[i]?=some s:=⟨_,gE (by omega)⟩
  obtain⟨b,o,x,y,z,e1,e2,e3,e4,T⟩:=q.row.at_ A;obtain⟨l1,l2,l3⟩:=zg t A;have hy:=T.len;rw[fM A]at d;unfold nY at d;obtain⟨u,p1,R,K⟩:=OS H.wf s.f x y z;refine⟨_,cZ _,_,_,_,q.l3,_,e1,_,e2,_,XN,u,p1,?_⟩;have f:=H.trans R;have L:=q.ok R;have N:=T.ok R;generalize u.app (gg.push Sz)=g3 at*;have hw:wrap .i64 (k+(y:Int))=k+(s.arcs.length:Int):=by rw[hy,aB (by omega) (by omega)]
  refine⟨_,iG _ _,_,_,_,K.l1,?_⟩;dsimp only;rw[hw];refine aa (λB=>⟨?_,f⟩) (λB=>?_)
  ·have B:=dT B;rw[<-d,decide_eq_false (show ¬k+(s.arcs.length:Int)<=30000 by omega)];simp
  have B:=dF B;rw[decide_eq_true (show k+(s.arcs.length:Int)<=30000 by omega),Bool.true_and]at d;refine⟨_,nJ _ _,_,K.l0,aa (λl=>?_) (λl=>?_)⟩
  ·refine⟨_,du _,_,L.l0,_,nJ _ _,_,K.l0,(qE M.kind s.f l2 f.wf).mono ?_⟩;rintro _ g4 ⟨rfl,C⟩;have l:(s.f==[])=false:=by simpa using l
   rw[l,Bool.false_or]at d;refine⟨_,rfl,aa (λF=>⟨?_,f.trans C⟩) (λF=>?_)⟩
   ·rw[not_eq_true']at F;rw[<-d,F];simp
   rw[not_eq_false']at F;rw[F,Bool.true_and]at d;exact K3 w t _ A (by omega) (by omega) (by omega) [] S X y (j:=0) ⟨⟨by omega,rfl,L.ok C,f.trans C,N.ok C,by rw[drop_zero];exact d⟩,K.ok C⟩
  ·have l:(s.f==[])=true:=by simpa using l
   rw[l,Bool.true_or,Bool.true_and]at d;exact K3 w t _ A (by omega) (by omega) (by omega) [] S X y (j:=0) ⟨⟨by omega,rfl,L,f,N,by rw[drop_zero];exact d⟩,K⟩
 ·have I:=dF I;refine⟨?_,H⟩;rw[drop_eq_nil_of_le (by omega)]at d;rw[<-d];rfl
end
noncomputable def jI:FD:=cF Tryz.f20 [([1,1,0,1,0,0],[1,2,3]),([1,1,0,1,0,0,1,0,0,1,0,0],[1,2,3,4])]
abbrev kd(k:Nat)(i:Nat):LV:=[(pA k),(.bool false),(iA i)]
abbrev ow(k i:Nat)(j:Nat):LV:=[(pA k),(.bool false),(iA i),(iA j)]
theorem Zh(f:LV)(h:ae)(Q:VH)(g:xN (eL SS.P 29 (.agg ⟨f⟩)) h λ_ e=>lA 29 e (pA (h.next)) λd=>FW SS 26 [(.agg ⟨d⟩)] e λb c=>yB b λa=>au (!a) (Q (.bool false) c) (LL SS jI [1,1,0,1,0,0] (kd (h.next) 0) c (KK SS jI [1,1,0,1,0] [] (EE SS jI Q)))):FW SS 20 [(.agg ⟨f⟩)] h Q:=cI jI Tryz.func20 (ai g)
theorem BN(g:LV)(k:Nat)(d:Nat->Nat->ae->Prop)(Q:VH)(step:∀(c:Nat) (i:Nat) (f:Nat->Value) (h:ae),d c i h->fP 29 (pA k) 3 λb=>lL 27 h b λ_ a _=>au (decide (((i:Int):Int)<(a:Int))) (LL SS jI [1,1,0,1,0,0,1,0,0,1,0,0] (ow k i 0) h (KK SS jI [1,0,0,1,0] [1,1,0,1,0,0] (RR jI [1,1,0,1,0,0] (fs (kd k) d) c (KK SS jI [1,1,0,1,0] [] (EE SS jI Q))))) (Q (.bool true) h))(c:Nat){i:Nat}{h:ae}(e:d c i h):LL SS jI [1,1,0,1,0,0] (kd k i) h (KK SS jI [1,1,0,1,0] [] (EE SS jI Q)):=
 dc (kd k) d (λc i f h e=>ai (step c i f h e)) c e
theorem BO(P:LV)(k:Nat)(C:Nat->Nat->ae->Prop)(E i:Nat)(B:Nat->Nat->ae->Prop)(Q:VH)(step:∀(A:Nat) (j:Nat) (F:Nat->Value) (h:ae),B A j h->fP 29 (pA k) 3 λG=>lL 27 h G λN J M=>iP 27 (.slice N J M) (iA i) λL=>fP 73 (.pointer (some L)) 1 λK=>lL 71 h K λ_ H _=>au (decide (((j:Int):Int)<(H:Int))) (fP 29 (pA k) 3 λO=>lL 27 (room h 21) O λy z I=>iP 27 (.slice y z I) (iA i) λx=>fP 73 (.pointer (some x)) 1 λw=>lL 71 (room h 21) w λt u v=>iP 71 (.slice t u v) (iA j) λs=>fP 70 (.pointer (some s)) 0 λr=>lI (room h 21) r λq=>fP 29 (pA k) 3 λp=>lL 27 (room h 21) p λm n o=>iP 27 (.slice m n o) (iA i) λl=>fP 73 (.pointer (some l)) 1 λg=>lL 71 (room h 21) g λd e f=>iP 71 (.slice d e f) (iA j) λc=>fP 70 (.pointer (some c)) 1 λb=>lI (room h 21) b λa=>au (((q:Int) !=a)) (Q (.bool false) (room h 21)) (aJ (fs (ow k i) B) A [(pA k),(.bool false),(iA i),(.int .i64 (wrap .i64 ((j:Int)+1)))] (room h 21))) (aJ (fs (kd k) C) E [(pA k),(.bool false),(.int .i64 (wrap .i64 ((i:Int)+1)))] h))(A:Nat){j:Nat}{h:ae}(D:B A j h):LL SS jI [1,1,0,1,0,0,1,0,0,1,0,0] (ow k i j) h (KK SS jI [1,0,0,1,0] [1,1,0,1,0,0] (RR jI [1,1,0,1,0,0] (fs (kd k) C) E (KK SS jI [1,1,0,1,0] [] (EE SS jI Q)))):=
 dc (ow k i) B (λA j F h D=>ai (step A j F h D)) A D
def S2(t:gj->Bool)(l:List dx):Bool:=l.all λs=>s.arcs.all t
def xK(q:gj):Bool:=q.i==q.o
def Ho(M:bp):Bool:=ca M&&S2 xK M.af
section
section
variable {h:ae} {k:Nat} {M:bp} {a:Option Addr} {n c:Nat}
def iQ(h:ae)(V:Int):VH:=λv a=>v = .int .i64 V/\Ok h a
def adV(t:gj->Bool)(h:ae)(k:Nat)(M:bp)(a:Option Addr)(n c:Nat)(V:Bool)(b i:Nat)(g:ae):Prop:=i<=n/\b=n-i/\MB g k M a n c/\Ok h g/\S2 t (M.af.drop i)=V
def tIn(t:gj->Bool)(h:ae)(k:Nat)(M:bp)(a:Option Addr)(n c:Nat)(s:dx)(i:Nat)(V:Bool)(b j:Nat)(g:ae):Prop:=j<=s.arcs.length/\b=s.arcs.length-j/\MB g k M a n c/\Ok h g/\((s.arcs.drop j).all t&&S2 t (M.af.drop (i+1)))=V
set_option linter.defProp false in
def Vo(w:Wf h)(C:Small M)(V:Bool){s:dx}{i:Nat}(v:M.af[i]?=some s)(L:i<n)(G:List Value)(B:Nat)(O:B=n-i):=
 BO G k (adV xK h k M a n c V) B i (tIn xK h k M a n c s i V) (bQ h V) (by
  intro D j;intros;rename_i g A;obtain⟨f1,X,l,t,f⟩:=A;have Q:n<=300:=by rw[l.len];exact C.bJ
  obtain⟨W,l2,U⟩:=zg C v;obtain⟨b,o,J,y,z,p,N,K,r,u⟩:=l.row.at_ v;have R:=u.len;refine⟨_,cZ _,_,_,_,l.l3,_,p,_,iG _ _,_,_,_,r,aa (λm=>?_) (λm=>?_)⟩
  ·have m:=dT m;obtain⟨q,E⟩:∃q,s.arcs[j]?=some q:=⟨_,gE (by omega)⟩
   have x:=(Ok.refl t.wf).room 21;have e:=l.ok x;obtain⟨b,o,J,y,z,p,N,K,r,u⟩:=e.row.at_ v;obtain⟨Y,Z,F,P,I,H,T,S⟩:=u.at_ E;rw[fM E,all_cons]at f;refine⟨_,cZ _,_,_,_,e.l3,_,p,_,iG _ _,_,_,_,r,_,F,_,Ac _ _,_,I,_,cZ _,_,_,_,e.l3,_,p,_,iG _ _,_,_,_,r,_,F,_,Ad _ _,_,H,aa (λd=>⟨?_,t.trans x⟩) (λd=>?_)⟩
   ·have d:¬q.i=q.o:=by simpa using d
    rw[<-f,show xK q=false by unfold xK;simpa using d];rfl
   ·have d:q.i=q.o:=by simpa using d
    rw[show xK q=true by unfold xK;simpa using d,Bool.true_and]at f;rw[aP (i:=j) (n:=s.arcs.length) (by omega) (by omega)];exact bZ (D-1) (by omega) ⟨by omega,by omega,e,t.trans x,f⟩
  ·have m:=dF m;rw[drop_eq_nil_of_le (by omega)]at f;rw[aP L (by omega)];exact bZ (n-(i+1)) (by omega) ⟨by omega,rfl,l,t,by simpa using f⟩)
theorem OU{h:ae}(w:Wf h){M:bp}(m:Small M){a:Option Addr}{n c:Nat}(r:dy h (.slice a n c) M.af):FW SS 20 [.agg ⟨bK M a n c⟩] h (λv z=>v = .bool (Ho M)/\Ok h z):=by
 obtain⟨e,x⟩:=fv w r;refine Zh (bK M a n c) h _ ⟨_,iS M a n c,_,e.all,(q7 x.wf m e.row).mono ?_⟩;generalize h.push (Bm M a n c)=g at*;rintro _ D ⟨rfl,u⟩;have l:=x.trans u;have p:=e.ok u;have C:n<=300:=by rw[e.len];exact m.bJ
 refine⟨_,rfl,aa (λq=>⟨?_,l⟩) (λq=>?_)⟩
 ·rw[not_eq_true']at q;unfold Ho;rw[q];rfl
 rw[not_eq_false']at q;obtain⟨V,o⟩:∃V,V=S2 xK M.af:=⟨_,rfl⟩
 have:Ho M=V:=by unfold Ho;rw[q,o];rfl
 rw[this];refine BN (bK M a n c) h.next (adV xK h h.next M a n c V) (bQ h V) (λy i=>?_) n (i:=0) ⟨by omega,rfl,p,l,o.symm⟩;intros;rename_i F B;obtain⟨G,A,b,k,f⟩:=B;have E:=b.len;refine⟨_,cZ _,_,_,_,b.l3,aa (λd=>?_) (λd=>?_)⟩
 ·have d:=dT d;obtain⟨s,t⟩:∃s,M.af[i]?=some s:=⟨_,gE (by omega)⟩
  rw[fM t]at f;exact Vo w m V t (by omega) [] y A s.arcs.length (j:=0) ⟨by omega,by omega,b,k,by rw[drop_zero];exact f⟩
 ·have d:=dF d;rw[drop_eq_nil_of_le (by omega)]at f;exact⟨by rw[<-f];rfl,k⟩
end
end
theorem D7(a:Option Addr)(n c:Nat):dQ (.slice a n c)=true:=by cases a<;>rfl
variable{j:Nat}
theorem HE{l:List A}{x y:A}(h:(l.set i x)[j]?=some y):(j=i/\y=x)\/(j≠i/\l[j]?=some y):=by
 rw[List.getElem?_set]at h;split at h
 ·next e=>
  split at h
  ·exact .inl ⟨e.symm,(oI h).symm⟩
  ·cases h
 ·next e=>exact .inr ⟨λc=>e c.symm,h⟩
theorem ON(w:Wf h){n j:Nat}(a:j<n)(B:dV):Ok h (cj (Go.Ab.room h n) h.next [(j,B)])/\(cj (Go.Ab.room h n) h.next [(j,B)]).get (h.next+j)=some B:=by
 refine⟨((Ok.refl w).room n).set B (Nat.le_add_right _ _) (Nat.add_lt_add_left a _) w,?_⟩;show((Go.Ab.room h n).set (h.next+j) B).get (h.next+j)=_;rw[ae.aw,if_pos rfl]
variable{T:TypeId}
section
noncomputable def abP:TypeInfo:=(eW SS.P 73).getD default
theorem Zl:eW SS.P 73=some abP:=by kernel_rfl
theorem Rt:abP.size=2:=by kernel_rfl
theorem Np:abP.bytes=40:=by kernel_rfl
noncomputable def abO:TypeInfo:=(eW SS.P 70).getD default
theorem Zk:eW SS.P 70=some abO:=by kernel_rfl
theorem Rs:abO.size=4:=by kernel_rfl
theorem No:abO.bytes=40:=by kernel_rfl
theorem afi:dZ SS.P 27=true:=by kernel_rfl
theorem afj:dZ SS.P 71=true:=by kernel_rfl
theorem aew(f:List UInt8)(a:Option Addr)(n c:Nat):aI SS.P 27 1 [(0,.agg ⟨[strOf f,.slice a n c]⟩)]=some (.cells [strOf f,.slice a n c] 73 2 true,mR 1 1):=by cases a<;>kernel_rfl
theorem aex(q:gj):aI SS.P 71 1 [(0,.agg ⟨fK q⟩)]=some (.cells (fK q) 70 4 true,mR 1 1):=by kernel_rfl
theorem Jy(q:gj):(fK q).length=4:=rfl
structure ko(h0 h:ae)(v:Value)(ps:List (dx×Value)):Prop where
 row:fp h0 h 73 2 v (ps.map vp)
 arcs:∀(i:Nat)(p:dx×Value),ps[i]?=some p->fp h0 h 70 4 p.2 (p.1.arcs.map fK)
 ne:∀(i:Nat)(p:dx×Value),ps[i]?=some p->∀k,fh p.2=some k->fh v≠some k
 dis:∀(i j:Nat)(p q:dx×Value),i≠j->ps[i]?=some p->ps[j]?=some q->∀k,fh p.2=some k->fh q.2≠some k
section
variable {hb g g':ae} {v:Value} {ps:List (dx×Value)}
theorem ko.ok(m:ko hb g v ps)(o:Ok g g'):ko hb g' v ps:=⟨m.row.ok o,λi p a=>(m.arcs i p a).ok o,m.ne,m.dis⟩
theorem ko.nd(m:ko hb g v ps):v≠vX:=by
 obtain⟨_,⟨a,_⟩|⟨k,b,cs,c,a,_⟩⟩:=m.row
 ·rw[a];intro e;unfold vX at e;injection e with e _ _;cases e
 ·rw[a];intro e;unfold vX at e;injection e with e _ _;injection e with e;injection e with _ _ e;cases e
theorem ko.st(m:ko hb g v ps):dy g v (ps.map (·.1)):=
 ⟨ps,rfl,m.row.rd,λp b=>by
  obtain⟨i,a,e⟩:=List.mem_iff_getElem.1 b;exact(m.arcs i p (by rw[gE a,e])).rd,m.nd⟩
theorem ko.nil(hb g:ae):ko hb g (.slice none 0 0) []:=⟨fp.nil _ _ _ _,λi p a=>by simp at a,λi p a=>by simp at a,λi j p q _ a=>by simp at a⟩
theorem Cq{cs:List Value}{z:Nat}(a:g.get n=some (.cells cs T z b))(c:cs.length=m):fY g m (.slice (some ⟨n,0,none⟩) 1 1)=some (([cs]:List (List Value)).flatten,1):=by
 show(match g.get n with|some (.cells cs ..)=>if((cs.drop 0).take (1*m)).length=1*m then some ((cs.drop 0).take (1*m),1)else none|_=>none)=_;rw[a];dsimp only;rw[drop_zero,Nat.one_mul,take_of_length_le (by omega),if_pos c];simp
theorem ko.snoc(w:Wf hb)(C:Ok hb g)(m:ko hb g v ps){f:List UInt8}{a:Option Addr}{y z:Nat}{arcs:List gj}(F:fp hb g 70 4 (.slice a y z) (arcs.map fK))(t:∀k,fh (.slice a y z)=some k->fh v≠some k/\∀(i:Nat) (p:dx×Value),ps[i]?=some p->fh p.2≠some k){H:Nat}(E:g.get H=some (.cells [strOf f,.slice a y z] 73 2 true))(Q:ps.length<=100000):
  ∃(b:Option Addr)(n c:Nat)(u:dP),bH SS.P 27 27 v (.slice (some ⟨H,0,none⟩) 1 1) g=some (.slice b n c,u)/\ko hb (u.app g) (.slice b n c) (ps++[(⟨f,arcs⟩,.slice a y z)])/\Ok hb (u.app g)/\
   (∀j B,g.get j=some B->fh v≠some j->(u.app g).get j=some B)/\(∀j,fh (.slice b n c)=some j->g.next<=j\/fh v=some j)/\g.next<=(u.app g).next:=by
 have s:(ps.map vp).length=ps.length:=lM ..;obtain⟨b,n,c,u,K,R,J,M,D,A,L⟩:=fp.add AA Zl Rt afi w C m.row (ns:=[[strOf f,.slice a y z]]) (Cq E rfl) (λr O=>by rw[mem_singleton.1 O];rfl) (by cases a<;>rfl) (by rw[Np,s,List.length_singleton];omega) (by rw[s,List.length_singleton];omega) (.inl (Nat.le_refl _));refine⟨b,n,c,u,K,⟨by rw[List.map_append];exact J,λi p d=>?_,λi p d k l=>?_,λi j p q G d o k l=>?_⟩,M,D,A,L⟩
 ·rw[List.getElem?_append]at d;split at d
  ·exact(m.arcs i p d).kL λk B l x=>D k B x (m.ne i p d k l)
  ·obtain rfl:=(mem_singleton.1 (List.mem_of_getElem? d))
   exact F.kL λk B l x=>D k B x (t k l).1
 ·intro e;rw[List.getElem?_append]at d;split at d
  ·rcases A k e with h|h
   ·have:=((m.arcs i p d).lt C.wf l).1;omega
   ·exact m.ne i p d k l h
  ·obtain rfl:=(mem_singleton.1 (List.mem_of_getElem? d))
   rcases A k e with h|h
   ·have:=(F.lt C.wf l).1;omega
   ·exact(t k l).1 h
 ·rw[List.getElem?_append]at d o;split at d<;>split at o
  ·exact m.dis i j p q G d o k l
  ·obtain rfl:=(mem_singleton.1 (List.mem_of_getElem? o))
   exact λe=>(t k e).2 i p d l
  ·obtain rfl:=(mem_singleton.1 (List.mem_of_getElem? d))
   exact(t k l).2 j q o
  ·rename_i S P;have I:=(List.getElem?_eq_some_iff.1 d).1;have N:=(List.getElem?_eq_some_iff.1 o).1;simp at I N;omega
theorem S4(w:Wf hb)(m:Ok hb g){x:Value}{a:List gj}(k:fp hb g 70 4 x (a.map fK)){q:gj}{f:Nat}(e:g.get f=some (.cells (fK q) 70 4 true))(p:a.length<=100000):
  ∃(b:Option Addr)(n c:Nat)(u:dP),bH SS.P 71 71 x (.slice (some ⟨f,0,none⟩) 1 1) g=some (.slice b n c,u)/\fp hb (u.app g) 70 4 (.slice b n c) ((a++[q]).map fK)/\Ok hb (u.app g)/\
   (∀j B,g.get j=some B->fh x≠some j->(u.app g).get j=some B)/\(∀j,fh (.slice b n c)=some j->g.next<=j\/fh x=some j)/\g.next<=(u.app g).next:=by
 have d:(a.map fK).length=a.length:=lM ..;obtain⟨b,n,c,u,i,s,h,l⟩:=fp.add V9 Zk Rs afj w m k (ns:=[fK q]) (Cq e rfl) (λr o=>by rw[mem_singleton.1 o];rfl) rfl (by rw[No,d,List.length_singleton];omega) (by rw[d,List.length_singleton];omega) (.inl (Nat.le_refl _));exact⟨b,n,c,u,i,by rw[List.map_append];exact h,l⟩
end
end
noncomputable def abT:FD:=cF Tryz.f70 []
theorem Zu(i:Int)(h:ae)(Q:VH)(j:FW SS 69 [(.int .i64 i)] h λg h=>∃f:LV,∃e:Bool,g=(.tuple ⟨[(.agg ⟨f⟩),(.bool e)]⟩)/\xN (br SS.P 99) h λ_ d=>xU (ah SS.P 99 (pA (h.next)) (.agg ⟨f⟩) d) d λ_ c=>fP 99 (pA (h.next)) 1 λb=>lS c b λa=>Q (strOf a) c):FW SS 70 [(.int .i64 i)] h Q:=cI abT Tryz.func70 (ai j)
noncomputable def abL:FD:=cF Tryz.f22 []
theorem Zi(d:Int)(h:ae)(Q:VH)(e:FW SS 14 [(.int .i64 d)] h λb c=>yB b λa=>au (!a) (Q (strOf []) c) (au (((d:Int)==1)) (Q (strOf [48]) c) (Q (strOf [49]) c))):FW SS 22 [(.int .i64 d)] h Q:=cI abL Tryz.func22 (ai e)
section
section
variable {hb g g':ae} {k off n c:Nat} {ps:List (dx×Value)}
theorem DE{ps:List (dx×Value)}(p:dx×Value):(ps.set i p).map vp=(ps.map vp).set i (vp p):=by rw[List.map_set]
theorem ko.adO(w:Wf hb)(K:Ok hb g)(m:ko hb g (.slice (some ⟨k,off,none⟩) n c) ps){i:Nat}{p:dx×Value}(C:ps[i]?=some p)(f:List UInt8):
  ∃u:dP,ah SS.P 9 (.pointer (some ⟨k,off+i*2+0,none⟩)) (strOf f) g=some (undef,u)/\ko hb (u.app g) (.slice (some ⟨k,off,none⟩) n c) (ps.set i (⟨f,p.1.arcs⟩,p.2))/\Ok hb (u.app g)/\(∀j B,g.get j=some B->k≠j->(u.app g).get j=some B)/\(u.app g).next=g.next:=by
 obtain⟨u,H,I,F,A,M⟩:=m.row.put (e:=73) (t':=9) (by kernel_rfl) w K (i:=i) (j:=0) (r:=vp p) (by rw[getElem?_map,C];rfl) (by omega) (v':=strOf f) rfl rfl;have h:∀{j:Nat}{q:dx×Value},(ps.set i (⟨f,p.1.arcs⟩,p.2))[j]?=some q->∃d,ps[j]?=some d/\q.2=d.2/\q.1.arcs=d.1.arcs:=λ{j q} b=>by
  rw[List.getElem?_set]at b;split at b
  ·next e=>
   subst e;split at b
   ·obtain rfl:=oI b;exact⟨p,C,rfl,rfl⟩
   ·cases b
  ·exact⟨q,b,rfl,rfl⟩
 refine⟨u,H,⟨by rw[DE];exact I,λj q b=>?_,λj q b l a=>?_,λG N Q O z v D l a=>?_⟩,F,A,M⟩
 ·obtain⟨d,o,s,t⟩:=h b;rw[s,t];exact(m.arcs j d o).kL λl B a E=>A l B E (λe=>m.ne j d o l a (by rw[<-e];rfl))
 ·obtain⟨d,o,s,t⟩:=h b;rw[s]at a;exact m.ne j d o l a
 ·obtain⟨x,o,s,t⟩:=h v;obtain⟨y,J,L,P⟩:=h D;rw[s]at a;rw[L];exact m.dis G N x y z o J l a
theorem ko.afa(w:Wf hb)(I:Ok hb g')(m:ko hb g (.slice (some ⟨k,off,none⟩) n c) ps){i:Nat}{p:dx×Value}(v:ps[i]?=some p)(H:∀j B,g.get j=some B->fh p.2≠some j->g'.get j=some B){b:Option Addr}{o l:Nat}{s:List gj}(Y:fp hb g' 70 4 (.slice b o l) (s.map fK))(L:∀j,fh (.slice b o l)=some j->g.next<=j\/fh p.2=some j)(J:Wf g):
  ∃u:dP,ah SS.P 71 (.pointer (some ⟨k,off+i*2+1,none⟩)) (.slice b o l) g'=some (undef,u)/\ko hb (u.app g') (.slice (some ⟨k,off,none⟩) n c) (ps.set i (⟨p.1.f,s⟩,.slice b o l))/\Ok hb (u.app g')/\(∀j B,g'.get j=some B->k≠j->(u.app g').get j=some B)/\(u.app g').next=g'.next:=by
 have P:fh p.2≠some k:=λe=>m.ne i p v k e rfl;have D:fp hb g' 73 2 (.slice (some ⟨k,off,none⟩) n c) (ps.map vp):=m.row.kL λd B a y=>H d B y (λe=>m.ne i p v d e a);obtain⟨u,U,W,R,E,h5⟩:=D.put (e:=73) (t':=71) (by kernel_rfl) w I (i:=i) (j:=1) (r:=vp p) (by rw[getElem?_map,v];rfl) (by omega) (v':= .slice b o l) (D7 ..) (by cases b<;>rfl);have x0:i<ps.length:=(List.getElem?_eq_some_iff.1 v).1;have C:fh (.slice b o l)≠some k:=λe=>by
  rcases L k e with h|h
  ·have:=(m.row.lt J (k:=k) rfl).1;omega
  ·exact P h
 have t:∀{j:Nat}{q:dx×Value},(ps.set i (⟨p.1.f,s⟩,.slice b o l))[j]?=some q->(j=i/\q=(⟨p.1.f,s⟩,.slice b o l))\/(j≠i/\ps[j]?=some q):=λ{j q} f=>by
  rcases HE f with⟨e,F⟩|⟨e,f⟩
  ·exact .inl ⟨e,F⟩
  ·exact .inr ⟨e,f⟩
 have z:∀{j:Nat}{q:dx×Value},j≠i->ps[j]?=some q->∀d,fh q.2=some d->fh (.slice b o l)≠some d:=λ{j q} x f d a e=>by
  rcases L d e with h|h
  ·have:=((m.arcs j q f).lt J a).1;omega
  ·exact m.dis j i q p x f v d a h
 refine⟨u,U,⟨by rw[DE];exact W,λj q f=>?_,λj q f d a=>?_,λS j2 Z T A G N d a=>?_⟩,R,E,h5⟩
 ·rcases t f with⟨rfl,rfl⟩|⟨x,f⟩
  ·exact Y.kL λd B a y=>E d B y (λe=>C (by rw[e];exact a))
  ·exact(m.arcs j q f).kL λd B a y=>E d B (H d B y (λe=>m.dis j i q p x f v d a e)) (λe=>m.ne j q f d a (by rw[<-e];rfl))
 ·rcases t f with⟨rfl,rfl⟩|⟨x,f⟩
  ·exact λe=>C (by rw[a,<-e];rfl)
  ·exact m.ne j q f d a
 ·rcases t G with⟨Q,F⟩|⟨x,O⟩<;>rcases t N with⟨V,X⟩|⟨M,K⟩
  ·exact absurd (Q.trans V.symm) A
  ·rw[F]at a;exact λe=>z M K d e a
  ·rw[X];exact z x O d a
  ·exact m.dis S j2 Z T A O K d a
theorem ko.at_(m:ko hb g (.slice (some ⟨k,off,none⟩) n c) ps){i:Nat}{p:dx×Value}(e:ps[i]?=some p):
  aD SS.P 27 (.slice (some ⟨k,off,none⟩) n c) (.int .i64 (i:Int))=some (.pointer (some ⟨k,off+i*2,none⟩))/\aj SS.P 71 g (.pointer (some ⟨k,off+i*2+1,none⟩))=some p.2/\aj SS.P 73 g (.pointer (some ⟨k,off+i*2,none⟩))=some (.agg ⟨vp p⟩):=by
 obtain⟨b,d,a⟩:=m.row.at_ AA Wx (i:=i) (r:=vp p) (by rw[getElem?_map,e];rfl) .i64;exact⟨b,by rw[d 71 _ 1 V9 aaY (by omega)];rfl,a _ ad7 acv⟩
end
end
def mW:dV:= .cells [.int .i64 0,.int .i64 0,strOf [],.slice none 0 0] 29 0 true
theorem qS:br SS.P 29=some (mW,lk):=by kernel_rfl
theorem uX(M:bp)(a:Option Addr)(n c:Nat):(bK M a n c).all dQ=true:=by cases a<;>rfl
theorem ko.low{t b:ae}{s:List (dx×Value)}(m:ko g t v s)(o:Ok h g)(w:∀j B,t.get j=some B->g.next<=j->b.get j=some B):ko h b v s:=by
 have a:∀{e:TypeId}{d:Nat}{v:Value}{f:List (List Value)},fp g t e d v f->fp h b e d v f:=λ{e d v f} r=>by
  obtain⟨l,r|⟨k,n,cs,c,x,q,u,y⟩⟩:=r
  ·exact⟨l,.inl r⟩
  ·exact⟨l,.inr ⟨k,n,cs,c,x,Nat.le_trans o.nx q,w _ _ u q,y⟩⟩
 exact⟨a m.row,λi p z=>a (m.arcs i p z),m.ne,m.dis⟩
def df(a:Int):List UInt8:=if a=1 then[48]else if a=2\/a=3 then[49]else[]
theorem abr(k:Nat):aE SS.P 99 (.pointer (some ⟨k,0,none⟩)) 1=some (.pointer (some ⟨k,1,none⟩)):=by kernel_rfl
theorem Zv(a:Int){h:ae}(w:Wf h):FW SS 70 [.int .i64 a] h (λv s=>v=strOf (df a)/\Ok h s):=by
 refine Zu a h _ ((D8 a w).mono ?_);rintro _ g ⟨rfl,o⟩;have d:∀(c:List Value)(b:Bool),c.length=8->c.all dQ=true->c.getD 1 undef=strOf (df a)->∃cs:List Value,∃t:Bool,(Value.tuple ⟨[.agg ⟨c⟩,.bool b]⟩)=(.tuple ⟨[.agg ⟨cs⟩,.bool t]⟩)/\∃B:dV,br SS.P 99=some (B,lk)/\∃u:dP,ah SS.P 99 (.pointer (some ⟨g.next,0,none⟩)) (.agg ⟨cs⟩) (g.push B)=some (undef,u)/\∃p:Addr,aE SS.P 99 (.pointer (some ⟨g.next,0,none⟩)) 1=some (.pointer (some p))/\∃l:List UInt8,aj SS.P 9 (u.app (g.push B)) (.pointer (some p))=some (strOf l)/\(strOf l=strOf (df a)/\Ok h (u.app (g.push B))):=by
  intro c b n q r;have j:=aO g LD;have k:=(Ok.refl o.wf).push LD;obtain⟨x,m⟩:=px (cs:=c) o.wf k j (Nat.le_refl _);refine⟨c,b,rfl,LD,S0,_,kZ Ej rfl j n q,_,abr _,df a,?_,rfl,o.trans x⟩;rw[cq LJ Su m (by omega),r]
 unfold Y2;split
 ·next e=>exact d yU true rfl rfl (by unfold df;rw[if_pos e];rfl)
 ·next e=>
  split
  ·next f=>exact d yW true rfl rfl (by unfold df;rw[if_neg e,if_pos (.inl f)];rfl)
  ·next f=>
   split
   ·next i=>exact d yX true rfl rfl (by unfold df;rw[if_neg e,if_pos (.inr i)];rfl)
   ·next i=>exact d ny false rfl rfl (by unfold df;rw[if_neg e,if_neg (by rintro(h|h)<;>contradiction)];rfl)
theorem Cl(a:Int)(h:ae):FW SS 22 [.int .i64 a] h (λv c=>v=strOf (df a)/\c=h):=by
 refine Zi a h _ ((qe a h).mono ?_);rintro _ g ⟨rfl,rfl⟩;refine⟨_,rfl,aa (λq=>?_) (λq=>?_)⟩
 ·refine⟨?_,rfl⟩;simp at q;unfold df;rw[if_neg (by omega),if_neg (by omega)]
 ·simp at q;refine aa (λb=>?_) (λb=>?_)
  ·have b:a=1:=by simpa using b
   refine⟨?_,rfl⟩;unfold df;rw[if_pos b]
  ·have b:¬a=1:=by simpa using b
   refine⟨?_,rfl⟩;unfold df;rw[if_neg b,if_pos (by omega)]
def BR(h:ae)(R:bp×Int):VH:=λv b=>∃(a:Option Addr)(n c:Nat)(d:List (dx×Value)),v = .tuple ⟨[.agg ⟨bK R.1 a n c⟩,.int .i64 R.2]⟩/\d.map (·.1)=R.1.af/\ko h b (.slice a n c) d/\Ok h b
def uJ:bp:=⟨0,0,[],[]⟩
theorem abe:bd SS.P 29 []=some (.agg ⟨bK uJ none 0 0⟩):=by kernel_rfl
theorem OW(w:Wf h)(o:Ok h g){k:Nat}(f:g.get k=some mW)(i:h.next<=k){R:bp×Int}{a:Option Addr}{n c:Nat}{ps:List (dx×Value)}(e:ps.map (·.1)=R.1.af){d:ae}(q:ko d g (.slice a n c) ps)(r:Ok h d)(b:k<d.next\/ps=[]/\a=none/\n=0/\c=0):
  ∃u:dP,ah SS.P 29 (.pointer (some ⟨k,0,none⟩)) (.agg ⟨bK R.1 a n c⟩) g=some (undef,u)/\ef SS [(.pointer (some ⟨k,0,none⟩),some 29),(.int .i64 R.2,none)] (u.app g) (BR h R):=by
 refine⟨_,kZ (t:=29) uE (cs0:=[.int .i64 0,.int .i64 0,strOf [],.slice none 0 0]) rfl f (cs:=bK R.1 a n c) rfl (uX ..),?_⟩;obtain⟨l,m⟩:=px (cs:=bK R.1 a n c) w o f i;refine ye (v:= .agg ⟨bK R.1 a n c⟩) (pk NS Mg uE m (by simp[bK])) ⟨a,n,c,ps,rfl,e,?_,l⟩;rcases b with b|⟨rfl,rfl,rfl,rfl⟩
 ·exact q.low r (λj B p s=>by
   show(g.set k _).get j=_;rw[ae.aw,if_neg (by omega)];exact p)
 ·exact ko.nil _ _
theorem Zz(w:Wf h){n j:Nat}(b:j<n)(o:Ok (Go.Ab.room h n) g)(B:dV):Ok h (cj g h.next [(j,B)])/\(cj g h.next [(j,B)]).get (h.next+j)=some B:=by
 have a:h.next+n<=g.next:=o.nx;refine⟨(((Ok.refl w).room n).trans o).set B (Nat.le_add_right _ _) (by omega) w,?_⟩;show(g.set (h.next+j) B).get (h.next+j)=_;rw[ae.aw,if_pos rfl]
noncomputable def Vb:FD:=cF Tryz.f103 []
theorem Q5(s:Bool)(n d:LB)(h:ae)(Q:VH)(z:FW SS 136 [(strOf n)] h λx y=>yB x λw=>au (!w) (Q (.tuple ⟨[(strOf []),(.int .i64 1)]⟩) y) (FW SS 136 [(strOf d)] y λu v=>yB u λt=>au (!t) (Q (.tuple ⟨[(strOf []),(.int .i64 1)]⟩) v) (au ((d:LB)==[48]) (Q (.tuple ⟨[(strOf []),(.int .i64 1)]⟩) v) (FW SS 118 [(strOf n),(strOf d)] v λq r=>∃p:LB,∃o:Int,q=(.tuple ⟨[(strOf p),(.int .i64 o)]⟩)/\FW SS 137 [(strOf n),(strOf p)] r λl m=>∃k:LB,∃j:LB,∃i:Int,l=(.tuple ⟨[(strOf k),(strOf j),(.int .i64 i)]⟩)/\FW SS 137 [(strOf d),(strOf p)] m λg h=>∃f:LB,∃e:LB,∃d:Int,g=(.tuple ⟨[(strOf f),(strOf e),(.int .i64 d)]⟩)/\au (decide ((((k:LB).length:Int):Int)>400)) (Q (.tuple ⟨[(strOf []),(.int .i64 2)]⟩) h) (au (decide ((((f:LB).length:Int):Int)>400)) (Q (.tuple ⟨[(strOf []),(.int .i64 2)]⟩) h) (au s (au (!((k:LB)==[48])) (xS (ay SS.P .add 9 (strOf [45]) (strOf k)) λc=>au ((f:LB)==[49]) (Q (.tuple ⟨[(strOf c),(.int .i64 0)]⟩) h) (xS (ay SS.P .add 9 (strOf c) (strOf [47])) λb=>xS (ay SS.P .add 9 (strOf b) (strOf f)) λa=>Q (.tuple ⟨[(strOf a),(.int .i64 0)]⟩) h)) (au ((f:LB)==[49]) (Q (.tuple ⟨[(strOf k),(.int .i64 0)]⟩) h) (xS (ay SS.P .add 9 (strOf k) (strOf [47])) λb=>xS (ay SS.P .add 9 (strOf b) (strOf f)) λa=>Q (.tuple ⟨[(strOf a),(.int .i64 0)]⟩) h))) (au ((f:LB)==[49]) (Q (.tuple ⟨[(strOf k),(.int .i64 0)]⟩) h) (xS (ay SS.P .add 9 (strOf k) (strOf [47])) λb=>xS (ay SS.P .add 9 (strOf b) (strOf f)) λa=>Q (.tuple ⟨[(strOf a),(.int .i64 0)]⟩) h)))))))):FW SS 103 [(.bool s),(strOf n),(strOf d)] h Q:=cI Vb Tryz.func103 (ai z)
noncomputable def Zf:FD:=cF Tryz.f105 []
theorem Ve(a:LB)(h:ae)(Q:VH)(k:FW SS 94 [(strOf a)] h λi j=>∃h:Bool,∃g:LB,∃f:LB,∃e:Bool,i=(.tuple ⟨[(.bool h),(strOf g),(strOf f),(.bool e)]⟩)/\au (!e) (Q (.tuple ⟨[(strOf []),(.int .i64 1)]⟩) j) (FW SS 103 [(.bool (!h)),(strOf g),(strOf f)] j λc d=>∃b:LB,∃a:Int,c=(.tuple ⟨[(strOf b),(.int .i64 a)]⟩)/\Q (.tuple ⟨[(strOf b),(.int .i64 a)]⟩) d)):FW SS 105 [(strOf a)] h Q:=cI Zf Tryz.func105 (ai k)
noncomputable def Zc:FD:=cF Tryz.f85 []
theorem U8(a b:LB)(h:ae)(Q:VH)(B:FW SS 94 [(strOf a)] h λD C=>∃A:Bool,∃z:LB,∃y:LB,∃x:Bool,D=(.tuple ⟨[(.bool A),(strOf z),(strOf y),(.bool x)]⟩)/\FW SS 94 [(strOf b)] C λv w=>∃u:Bool,∃t:LB,∃s:LB,∃r:Bool,v=(.tuple ⟨[(.bool u),(strOf t),(strOf s),(.bool r)]⟩)/\au (!x) (Q (.tuple ⟨[(strOf []),(.int .i64 1)]⟩) w) (au (!r) (Q (.tuple ⟨[(strOf []),(.int .i64 1)]⟩) w) (FW SS 96 [(strOf z),(strOf s)] w λp q=>yS p λo=>FW SS 96 [(strOf t),(strOf y)] q λm n=>yS m λl=>FW SS 95 [(.bool A),(strOf o),(.bool u),(strOf l)] n λj k=>∃i:Bool,∃h:LB,j=(.tuple ⟨[(.bool i),(strOf h)]⟩)/\FW SS 96 [(strOf y),(strOf s)] k λf g=>yS f λe=>FW SS 103 [(.bool i),(strOf h),(strOf e)] g λc d=>∃b:LB,∃a:Int,c=(.tuple ⟨[(strOf b),(.int .i64 a)]⟩)/\Q (.tuple ⟨[(strOf b),(.int .i64 a)]⟩) d))):FW SS 85 [(strOf a),(strOf b)] h Q:=cI Zc Tryz.func85 (ai B)
noncomputable def Zg:FD:=cF Tryz.f91 []
theorem Vg(a b:LB)(h:ae)(Q:VH)(l:FW SS 105 [(strOf b)] h λj k=>∃i:LB,∃h:Int,j=(.tuple ⟨[(strOf i),(.int .i64 h)]⟩)/\au (((h:Int) !=0)) (Q (.tuple ⟨[(strOf []),(.int .i64 1)]⟩) k) (FW SS 71 [(strOf a)] k λf g=>yB f λe=>au (!e) (Q (.tuple ⟨[(strOf []),(.int .i64 1)]⟩) g) (FW SS 85 [(strOf a),(strOf i)] g λc d=>∃b:LB,∃a:Int,c=(.tuple ⟨[(strOf b),(.int .i64 a)]⟩)/\Q (.tuple ⟨[(strOf b),(.int .i64 a)]⟩) d))):FW SS 91 [(strOf a),(strOf b)] h Q:=cI Zg Tryz.func91 (ai l)
noncomputable def Ze:FD:=cF Tryz.f88 []
theorem Vc(a b:LB)(h:ae)(Q:VH)(w:FW SS 94 [(strOf a)] h λu v=>∃t:Bool,∃s:LB,∃r:LB,∃q:Bool,u=(.tuple ⟨[(.bool t),(strOf s),(strOf r),(.bool q)]⟩)/\FW SS 94 [(strOf b)] v λo p=>∃n:Bool,∃m:LB,∃l:LB,∃k:Bool,o=(.tuple ⟨[(.bool n),(strOf m),(strOf l),(.bool k)]⟩)/\au (!q) (Q (.tuple ⟨[(strOf []),(.int .i64 1)]⟩) p) (au (!k) (Q (.tuple ⟨[(strOf []),(.int .i64 1)]⟩) p) (FW SS 96 [(strOf s),(strOf m)] p λi j=>yS i λh=>FW SS 96 [(strOf r),(strOf l)] j λf g=>yS f λe=>FW SS 103 [(.bool (!(t==n))),(strOf h),(strOf e)] g λc d=>∃b:LB,∃a:Int,c=(.tuple ⟨[(strOf b),(.int .i64 a)]⟩)/\Q (.tuple ⟨[(strOf b),(.int .i64 a)]⟩) d))):FW SS 88 [(strOf a),(strOf b)] h Q:=cI Ze Tryz.func88 (ai w)
noncomputable def Zd:FD:=cF Tryz.f92 []
theorem U9(a b:LB)(h:ae)(Q:VH)(w:FW SS 94 [(strOf a)] h λu v=>∃t:Bool,∃s:LB,∃r:LB,∃q:Bool,u=(.tuple ⟨[(.bool t),(strOf s),(strOf r),(.bool q)]⟩)/\FW SS 94 [(strOf b)] v λo p=>∃n:Bool,∃m:LB,∃l:LB,∃k:Bool,o=(.tuple ⟨[(.bool n),(strOf m),(strOf l),(.bool k)]⟩)/\au (!q) (Q (.tuple ⟨[(strOf []),(.int .i64 1)]⟩) p) (au (!k) (Q (.tuple ⟨[(strOf []),(.int .i64 1)]⟩) p) (au ((m:LB)==[48]) (Q (.tuple ⟨[(strOf []),(.int .i64 4)]⟩) p) (FW SS 96 [(strOf s),(strOf l)] p λi j=>yS i λh=>FW SS 96 [(strOf r),(strOf m)] j λf g=>yS f λe=>FW SS 103 [(.bool (!(t==n))),(strOf h),(strOf e)] g λc d=>∃b:LB,∃a:Int,c=(.tuple ⟨[(strOf b),(.int .i64 a)]⟩)/\Q (.tuple ⟨[(strOf b),(.int .i64 a)]⟩) d)))):FW SS 92 [(strOf a),(strOf b)] h Q:=cI Zd Tryz.func92 (ai w)
noncomputable def Vk:FD:=cF Tryz.f18 []
theorem Ra(d:Int)(h:ae)(Q:VH)(e:FW SS 14 [(.int .i64 d)] h λb c=>yB b λa=>au (!a) (Q (strOf []) c) (au (((d:Int)==1)) (Q (strOf [105,110,102]) c) (Q (strOf [48]) c))):FW SS 18 [(.int .i64 d)] h Q:=cI Vk Tryz.func18 (ai e)
noncomputable def KM:FD:=cF Tryz.f90 []
theorem Ig(a b:LB)(h:ae)(Q:VH)(d:au ((a:LB)==b) (Q (.int .i64 0) h) (au ((a:LB)==[45,105,110,102]) (Q (.int .i64 (-1)) h) (au ((b:LB)==[105,110,102]) (Q (.int .i64 (-1)) h) (au ((a:LB)==[105,110,102]) (Q (.int .i64 1) h) (au ((b:LB)==[45,105,110,102]) (Q (.int .i64 1) h) (FW SS 72 [(strOf a),(strOf b)] h λb c=>yI .i64 b λa=>Q (.int .i64 a) c)))))):FW SS 90 [(strOf a),(strOf b)] h Q:=cI KM Tryz.func90 (ai d)
noncomputable def Nb:FD:=cF Tryz.f84 []
theorem KJ(j:Int)(a b:LB)(h:ae)(Q:VH)(k:FW SS 47 [(.int .i64 j),(strOf a)] h λh i=>yB h λg=>au (!g) (Q (.int .i64 0) i) (FW SS 47 [(.int .i64 j),(strOf b)] i λe f=>yB e λd=>au (!d) (Q (.int .i64 0) f) (au (((j:Int)==1)) (FW SS 90 [(strOf a),(strOf b)] f λb c=>yI .i64 b λa=>Q (.int .i64 a) c) (FW SS 90 [(strOf b),(strOf a)] f λb c=>yI .i64 b λa=>Q (.int .i64 a) c)))):FW SS 84 [(.int .i64 j),(strOf a),(strOf b)] h Q:=cI Nb Tryz.func84 (ai k)
noncomputable def Vi:FD:=cF Tryz.f62 []
theorem Q6(l:Int)(a b:LB)(h:ae)(Q:VH)(m:FW SS 47 [(.int .i64 l),(strOf a)] h λj k=>yB j λi=>au (!i) (Q (.tuple ⟨[(strOf []),(.int .i64 1)]⟩) k) (FW SS 47 [(.int .i64 l),(strOf b)] k λg h=>yB g λf=>au (!f) (Q (.tuple ⟨[(strOf []),(.int .i64 1)]⟩) h) (au (((l:Int) !=2)) (FW SS 84 [(.int .i64 l),(strOf b),(strOf a)] h λd e=>yI .i64 d λc=>au (decide ((c:Int)<0)) (Q (.tuple ⟨[(strOf b),(.int .i64 0)]⟩) e) (Q (.tuple ⟨[(strOf a),(.int .i64 0)]⟩) e)) (au ((a:LB)==[105,110,102]) (Q (.tuple ⟨[(strOf [105,110,102]),(.int .i64 0)]⟩) h) (au ((b:LB)==[105,110,102]) (Q (.tuple ⟨[(strOf [105,110,102]),(.int .i64 0)]⟩) h) (FW SS 85 [(strOf a),(strOf b)] h λc d=>∃b:LB,∃a:Int,c=(.tuple ⟨[(strOf b),(.int .i64 a)]⟩)/\Q (.tuple ⟨[(strOf b),(.int .i64 a)]⟩) d)))))):FW SS 62 [(.int .i64 l),(strOf a),(strOf b)] h Q:=cI Vi Tryz.func62 (ai m)
noncomputable def Q9:FD:=cF Tryz.f65 []
theorem Nc(n:Int)(a b:LB)(h:ae)(Q:VH)(o:FW SS 47 [(.int .i64 n),(strOf a)] h λl m=>yB l λk=>au (!k) (Q (.tuple ⟨[(strOf []),(.int .i64 1)]⟩) m) (FW SS 47 [(.int .i64 n),(strOf b)] m λi j=>yB i λh=>au (!h) (Q (.tuple ⟨[(strOf []),(.int .i64 1)]⟩) j) (FW SS 18 [(.int .i64 n)] j λf g=>yS f λe=>au ((a:LB)==e) (Q (.tuple ⟨[(strOf e),(.int .i64 0)]⟩) g) (au ((b:LB)==e) (Q (.tuple ⟨[(strOf e),(.int .i64 0)]⟩) g) (au ((a:LB)==[105,110,102]) (Q (.tuple ⟨[(strOf [105,110,102]),(.int .i64 0)]⟩) g) (au ((b:LB)==[105,110,102]) (Q (.tuple ⟨[(strOf [105,110,102]),(.int .i64 0)]⟩) g) (au ((a:LB)==[45,105,110,102]) (Q (.tuple ⟨[(strOf [45,105,110,102]),(.int .i64 0)]⟩) g) (au ((b:LB)==[45,105,110,102]) (Q (.tuple ⟨[(strOf [45,105,110,102]),(.int .i64 0)]⟩) g) (au (((n:Int)==1)) (FW SS 85 [(strOf a),(strOf b)] g λc d=>∃b:LB,∃a:Int,c=(.tuple ⟨[(strOf b),(.int .i64 a)]⟩)/\Q (.tuple ⟨[(strOf b),(.int .i64 a)]⟩) d) (FW SS 88 [(strOf a),(strOf b)] g λc d=>∃b:LB,∃a:Int,c=(.tuple ⟨[(strOf b),(.int .i64 a)]⟩)/\Q (.tuple ⟨[(strOf b),(.int .i64 a)]⟩) d)))))))))):FW SS 65 [(.int .i64 n),(strOf a),(strOf b)] h Q:=cI Q9 Tryz.func65 (ai o)
noncomputable def Vj:FD:=cF Tryz.f67 []
theorem Q7(r:Int)(a:LB)(h:ae)(Q:VH)(s:FW SS 47 [(.int .i64 r),(strOf a)] h λp q=>yB p λo=>au (!o) (Q (.tuple ⟨[(strOf []),(.int .i64 1)]⟩) q) (FW SS 22 [(.int .i64 r)] q λm n=>yS m λl=>au (((r:Int)==1)) (FW SS 90 [(strOf a),(strOf [48])] n λb c=>yI .i64 b λa=>au (decide ((a:Int)>=0)) (Q (.tuple ⟨[(strOf l),(.int .i64 0)]⟩) c) (Q (.tuple ⟨[(strOf [45,105,110,102]),(.int .i64 0)]⟩) c)) (au (((r:Int)==3)) (FW SS 90 [(strOf a),(strOf [49])] n λb c=>yI .i64 b λa=>au (decide ((a:Int)<=0)) (Q (.tuple ⟨[(strOf l),(.int .i64 0)]⟩) c) (Q (.tuple ⟨[(strOf [105,110,102]),(.int .i64 0)]⟩) c)) (FW SS 90 [(strOf a),(strOf [49])] n λj k=>yI .i64 j λi=>au (decide ((i:Int)>=0)) (Q (.tuple ⟨[(strOf [105,110,102]),(.int .i64 0)]⟩) k) (FW SS 91 [(strOf [49]),(strOf a)] k λg h=>∃f:LB,∃e:Int,g=(.tuple ⟨[(strOf f),(.int .i64 e)]⟩)/\au (((e:Int) !=0)) (Q (.tuple ⟨[(strOf []),(.int .i64 e)]⟩) h) (FW SS 92 [(strOf [49]),(strOf f)] h λc d=>∃b:LB,∃a:Int,c=(.tuple ⟨[(strOf b),(.int .i64 a)]⟩)/\Q (.tuple ⟨[(strOf b),(.int .i64 a)]⟩) d)))))):FW SS 67 [(.int .i64 r),(strOf a)] h Q:=cI Vj Tryz.func67 (ai s)
variable{s:List UInt8}{z:Int}
def M7:Option (List UInt8)->Value
 |some l=>two l 0
 |none=>two [] 2
theorem UY(o:Option (List UInt8)):∃l n,M7 o=two l n:=by cases o<;>exact⟨_,_,rfl⟩
def oQ(h:ae)(o:Option (List UInt8)):VH:=λv a=>v=M7 o/\Ok h a
theorem jm{o:Option (List UInt8)}(a:Ok h g):∃(l:List UInt8)(n:Int),M7 o = .tuple ⟨[strOf l,.int .i64 n]⟩/\oQ h o (.tuple ⟨[strOf l,.int .i64 n]⟩) g:=zk (K:=λv=>oQ h o v g) (UY o) ⟨rfl,a⟩
theorem cn{a b:List UInt8}(g:(a==b)=true):a=b:=by simpa using g
theorem cd{a b:List UInt8}(g:(a==b)=false):a≠b:=by simpa using g
theorem Vu{a:List UInt8}(r:gR a):Num.val (Num.numOf a)<10^400/\Num.val (ak a)<10^400:=⟨rI (k:=400) r.num (by decide) r.ln,rI (k:=400) r.den (by decide) r.ld⟩
theorem OG(s:Bool)(n d:Nat):cN s n d=(if s=true/\n≠0 then[45]else[])++(ag n++(if d=1 then[]else 47::ag d)):=rfl
theorem O9{s:Bool}(h:s=true/\n≠0):[45]++(ag n++(if m=1 then[]else 47::ag m))=cN s n m:=by unfold cN;rw[if_pos h]
theorem ID{s:Bool}(h:¬(s=true/\n≠0)):[]++(ag n++(if m=1 then[]else 47::ag m))=cN s n m:=by unfold cN;rw[if_neg h]
theorem vd(s:Bool){N D:Nat}(m:N<10^1000)(g:D<10^1000)(z:0<D){h:ae}(w:Wf h):FW SS 103 [.bool s,strOf (ag N),strOf (ag D)] h (oQ h (lQ s N D)):=by
 have x:Num.valid (ag N)=true:=ei.2 m;have E:Num.valid (ag D)=true:=ei.2 g;refine Q5 s _ _ h _ ((dr _ h).mono ?_);rintro _ r ⟨rfl,o⟩;obtain rfl:h=r:=o.symm;refine⟨_,rfl,aa (λe=>by rw[x]at e;cases e) (λ_=>(dr _ h).mono ?_)⟩;rintro _ r ⟨rfl,o⟩;obtain rfl:h=r:=o.symm;refine⟨_,rfl,aa (λe=>by rw[E]at e;cases e) (λ_=>aa (λe=>?_) (λ_=>?_))⟩
 ·exact absurd (bL.1 (cn e)) (by omega)
 refine(GA _ _ h w).mono ?_;rintro _ H ⟨rfl,u⟩;rw[yh x E,bu,bu];have C:0<Nat.gcd N D:=Nat.gcd_pos_of_pos_right N z;have v:Nat.gcd N D<=D:=Nat.gcd_le_right N z;have l:Nat.gcd N D<10^1000:=lt_of_le_of_lt v g;refine⟨_,_,rfl,(As N (Nat.gcd N D) m l C H u.wf).mono ?_⟩;rintro _ F ⟨rfl,A⟩;refine⟨_,_,_,rfl,(As D (Nat.gcd N D) g l C F A.wf).mono ?_⟩;rintro _ B ⟨rfl,G⟩;have j:=(u.trans A).trans G;unfold lQ;have I:=(dO (n:=N/Nat.gcd N D) (k:=1000) (by omega)).2 (lt_of_le_of_lt (Nat.div_le_self _ _) m);have J:=(dO (n:=D/Nat.gcd N D) (k:=1000) (by omega)).2 (lt_of_le_of_lt (Nat.div_le_self _ _) g);generalize N/Nat.gcd N D=n at*;generalize D/Nat.gcd N D=d at*;refine⟨_,_,_,rfl,aa (λq=>?_) (λq=>aa (λb=>?_) (λb=>?_))⟩
 ·have q:=dT q;rw[if_pos (.inl (by omega))];exact⟨rfl,j⟩
 ·have b:=dT b;rw[if_pos (.inr (by omega))];exact⟨rfl,j⟩
 have q:=dF q;have b:=dF b;rw[if_neg (by omega)];have f:∀(p:List UInt8),p.length<=2000->(p++(ag n++(if d=1 then[]else 47::ag d))=cN s n d)->au (ag d==[49]) (oQ h (some (cN s n d)) (.tuple ⟨[strOf (p++ag n),.int .i64 0]⟩) B) (xS (ay SS.P .add 9 (strOf (p++ag n)) (strOf [47])) λy=>xS (ay SS.P .add 9 (strOf y) (strOf (ag d))) λt=>oQ h (some (cN s n d)) (.tuple ⟨[strOf t,.int .i64 0]⟩) B):=λp K e=>by
  refine aa (λa=>⟨?_,j⟩) (λa=>?_)
  ·rw[if_pos (ej.1 (cn a)),List.append_nil]at e;rw[<-e];rfl
  ·rw[if_neg (λc=>cd a (ej.2 c))]at e;refine⟨_,rK _ _ (by simp;omega),_,rK _ _ (by simp;omega),?_,j⟩;rw[<-e,List.append_assoc,List.append_assoc];rfl
 refine aa (λa=>aa (λi=>?_) (λi=>?_)) (λa=>?_)
 ·refine⟨_,rK _ _ (by simp;omega),f [45] (by simp) (O9 ⟨a,λc=>by rw[bL.2 c]at i;cases i⟩)⟩
 ·have:n=0:=bL.1 (by simpa using i);exact f [] (by simp) (ID λc=>c.2 this)
 ·exact f [] (by simp) (ID λc=>by rw[c.1]at a;cases a)
theorem Ih{a:List UInt8}(r:gR a):Num.numOf a=ag (Num.val (Num.numOf a))/\ak a=ag (Num.val (ak a)):=by
 obtain⟨n,c,_,b⟩:=cx r.num;obtain⟨d,e,_,f⟩:=cx r.den;exact⟨by rw[b,<-c],by rw[f,<-e]⟩
theorem l8{a:List UInt8}(h:aA a=true):a.length<=1000:=by
 have r:=aZ.1 h;obtain⟨b,c⟩:=Ih r;have d:=r.ln;have e:=r.ld;rw[r.txt,OG,List.length_append,List.length_append,<-b];have:(if Num.val (ak a)=1 then[]else 47::ag (Num.val (ak a))).length<=401:=by
  split
  ·simp
  ·rw[List.length_cons,<-c];omega
 have:(if Num.isNeg a=true/\Num.val (Num.numOf a)≠0 then[45]else([]:List UInt8)).length<=1:=by split<;>simp
 omega
theorem pw(h:aA s=true):kC s = .tuple ⟨[.bool (Num.isNeg s),strOf (Num.numOf s),strOf (ak s),.bool true]⟩:=by unfold kC;rw[if_pos h];rfl
theorem pY(h:n<10^800):n<10^1000:=Nat.lt_of_lt_of_le h (jT (k:=800) (m:=1000) (by decide))
theorem OQ{s t:Bool}(b:n<10^800)(a:m<10^800):(dI s n t m).2<10^1000:=by
 have h:=Nat.lt_of_lt_of_le (Nat.add_lt_add b a) FJ;have:(dI s n t m).2<=n+m:=by
  unfold dI;split
  ·exact Nat.le_refl _
  ·split<;>dsimp only<;>omega
 exact lt_of_le_of_lt this h
theorem DS{a b:List UInt8}(g:aA a=true)(f:aA b=true){h:ae}(w:Wf h):FW SS 85 [strOf a,strOf b] h (oQ h (qp a b)):=by
 have d:=aZ.1 g;have c:=aZ.1 f;have v:=l8 g;have z:=l8 f;refine U8 a b h _ ((ey a (by omega) w).mono ?_);rintro _ x ⟨rfl,i⟩;rw[pw g];refine⟨_,_,_,_,rfl,(ey b (by omega) i.wf).mono ?_⟩;rintro _ r ⟨rfl,o⟩;rw[pw f];refine⟨_,_,_,_,rfl,aa (λe=>by cases e) (λ_=>aa (λe=>by cases e) (λ_=>?_))⟩;refine(fE d.num c.den d.ln c.ld o.wf).mono ?_;rintro _ A ⟨rfl,n⟩;refine⟨_,rfl,(fE c.num d.den c.ln d.ld n.wf).mono ?_⟩;rintro _ s ⟨rfl,l⟩;have p:=(dh d.num c.den d.ln c.ld).2;have j:=(dh c.num d.den c.ln d.ld).2;refine⟨_,rfl,(D3 _ _ _ _ p j l.wf).mono ?_⟩;rintro _ y ⟨rfl,m⟩;refine⟨_,_,rfl,(fE d.den c.den d.ld c.ld m.wf).mono ?_⟩;rintro _ u ⟨rfl,k⟩;refine⟨_,rfl,(vd _ (OQ p j) (pY (dh d.den c.den d.ld c.ld).2) (mul_pos d.den_pos c.den_pos) k.wf).mono ?_⟩;rintro _ t ⟨rfl,q⟩;exact jm (((((i.trans o).trans n).trans l).trans m).trans (k.trans q))
theorem Vd{a b:List UInt8}(g:aA a=true)(f:aA b=true){h:ae}(w:Wf h):FW SS 88 [strOf a,strOf b] h (oQ h (CK a b)):=by
 have d:=aZ.1 g;have c:=aZ.1 f;have p:=l8 g;have s:=l8 f;refine Vc a b h _ ((ey a (by omega) w).mono ?_);rintro _ q ⟨rfl,i⟩;rw[pw g];refine⟨_,_,_,_,rfl,(ey b (by omega) i.wf).mono ?_⟩;rintro _ n ⟨rfl,l⟩;rw[pw f];refine⟨_,_,_,_,rfl,aa (λe=>by cases e) (λ_=>aa (λe=>by cases e) (λ_=>?_))⟩;refine(fE d.num c.num d.ln c.ln l.wf).mono ?_;rintro _ t ⟨rfl,k⟩;refine⟨_,rfl,(fE d.den c.den d.ld c.ld k.wf).mono ?_⟩;rintro _ o ⟨rfl,j⟩;refine⟨_,rfl,(vd _ (pY (dh d.num c.num d.ln c.ln).2) (pY (dh d.den c.den d.ld c.ld).2) (mul_pos d.den_pos c.den_pos) j.wf).mono ?_⟩;rintro _ r ⟨rfl,m⟩;exact jm (((i.trans l).trans k).trans (j.trans m))
theorem Va{a b:List UInt8}(g:aA a=true)(f:aA b=true)(l:Num.val (Num.numOf b)≠0){h:ae}(w:Wf h):FW SS 92 [strOf a,strOf b] h (oQ h (Hd a b)):=by
 have d:=aZ.1 g;have c:=aZ.1 f;have q:=l8 g;have t:=l8 f;refine U9 a b h _ ((ey a (by omega) w).mono ?_);rintro _ r ⟨rfl,i⟩;rw[pw g];refine⟨_,_,_,_,rfl,(ey b (by omega) i.wf).mono ?_⟩;rintro _ o ⟨rfl,m⟩;rw[pw f];refine⟨_,_,_,_,rfl,aa (λe=>by cases e) (λ_=>aa (λe=>by cases e) (λ_=>aa (λe=>?_) (λ_=>?_)))⟩
 ·exact absurd ((iz c.num).1 (cn e)) l
 refine(fE d.num c.den d.ln c.ld m.wf).mono ?_;rintro _ u ⟨rfl,k⟩;refine⟨_,rfl,(fE d.den c.num d.ld c.ln k.wf).mono ?_⟩;rintro _ p ⟨rfl,j⟩;refine⟨_,rfl,(vd _ (pY (dh d.num c.den d.ln c.ld).2) (pY (dh d.den c.num d.ld c.ln).2) (mul_pos d.den_pos (Nat.pos_of_ne_zero l)) j.wf).mono ?_⟩;rintro _ s ⟨rfl,n⟩;exact jm (((i.trans m).trans k).trans (j.trans n))
theorem Vf{a:List UInt8}(c:aA a=true){h:ae}(w:Wf h):FW SS 105 [strOf a] h (λv j=>v=two (qq a) 0/\Ok h j):=by
 have b:=aZ.1 c;have p:=l8 c;obtain⟨g,i⟩:=Ih b;refine Ve a h _ ((ey a (by omega) w).mono ?_);rintro _ q ⟨rfl,d⟩;rw[pw c];refine⟨_,_,_,_,rfl,aa (λe=>by cases e) (λ_=>?_)⟩;have n:lQ (!Num.isNeg a) (Num.val (Num.numOf a)) (Num.val (ak a))=some (qq a):=L0 (by rw[<-g];exact b.ln) (by rw[<-i];exact b.ld) b.one;have f:=vd (!Num.isNeg a) (N:=Num.val (Num.numOf a)) (D:=Num.val (ak a)) (Nat.lt_of_lt_of_le (Vu b).1 (jT (k:=400) (m:=1000) (by decide))) (Nat.lt_of_lt_of_le (Vu b).2 (jT (k:=400) (m:=1000) (by decide))) b.den_pos d.wf;rw[<-g,<-i,n]at f;refine f.mono ?_;rintro _ o ⟨rfl,l⟩;exact⟨_,_,rfl,rfl,d.trans l⟩
theorem Vh{a b:List UInt8}(c:aA a=true)(d:aA b=true){h:ae}(w:Wf h):FW SS 91 [strOf a,strOf b] h (oQ h (qp a (qq b))):=by
 have k:=l8 c;refine Vg a b h _ ((Vf d w).mono ?_);rintro _ l ⟨rfl,f⟩;refine⟨_,_,rfl,aa (λe=>by cases e) (λ_=>(yG a (by omega) f.wf).mono ?_)⟩;rintro _ j ⟨rfl,g⟩;refine⟨_,rfl,aa (λe=>by rw[c]at e;cases e) (λ_=>(DS c (uM d).1 g.wf).mono ?_)⟩;rintro _ m ⟨rfl,i⟩;exact jm ((f.trans g).trans i)
theorem qi{a:List UInt8}(h:aM z a=true):a.length<=1000:=by
 unfold aM at h;rw[and_eq_true,or_eq_true,or_eq_true]at h;rcases h.2 with(h|h)|h
 ·rw[cn h];decide
 ·rw[and_eq_true]at h;rw[cn h.1];decide
 ·rw[and_eq_true]at h;exact l8 h.1
theorem jH{a:List UInt8}(b:aM z a=true){h:ae}(w:Wf h):FW SS 47 [.int .i64 z,strOf a] h (λv c=>v = .bool true/\Ok h c):=by
 have d:=qi b;refine(yH z a (by omega) w).mono ?_;rintro _ g ⟨rfl,o⟩;exact⟨congrArg Value.bool b,o⟩
theorem fO(a:1<=z/\z<=3)(h:ae):FW SS 18 [.int .i64 z] h (λv b=>v=strOf (bE z)/\b=h):=by
 refine Ra z h _ ((qe z h).mono ?_);rintro _ g ⟨rfl,rfl⟩;refine⟨_,rfl,aa (λe=>?_) (λ_=>aa (λe=>⟨?_,rfl⟩) (λe=>⟨?_,rfl⟩))⟩
 ·rw[decide_eq_true a.1,decide_eq_true a.2]at e;cases e
 ·have e:z=1:=by simpa using e
  unfold bE;rw[if_pos e]
 ·have e:¬z=1:=by simpa using e
  unfold bE;rw[if_neg e]
theorem H6(a:1<=z/\z<=3):df z=qN z:=by
 unfold df qN;by_cases e:z=1
 ·rw[if_pos e,if_pos e]
 ·rw[if_neg e,if_neg e,if_pos (by omega)]
theorem l7{a b:List UInt8}(l:a.length<=1000)(m:b.length<=1000){h:ae}(w:Wf h):FW SS 90 [strOf a,strOf b] h (λv k=>v = .int .i64 (dt a b)/\Ok h k):=by
 refine Ig a b h _ ?_;unfold dt;refine aa (λe=>⟨by rw[if_pos (cn e)],Ok.refl w⟩) (λe=>?_);rw[if_neg (cd e)];refine aa (λd=>⟨by rw[if_pos (.inl (cn d))],Ok.refl w⟩) (λd=>aa (λj=>⟨by rw[if_pos (.inr (cn j))],Ok.refl w⟩) (λj=>?_));rw[if_neg (λc=>c.elim (cd d) (cd j))];refine aa (λf=>⟨by rw[if_pos (.inl (cn f))],Ok.refl w⟩) (λf=>aa (λi=>⟨by rw[if_pos (.inr (cn i))],Ok.refl w⟩) (λi=>?_));rw[if_neg (λc=>c.elim (cd f) (cd i))];refine(D2 a b (by omega) (by omega) w).mono ?_;rintro _ g ⟨rfl,o⟩;exact⟨_,rfl,rfl,o⟩
theorem KL{a b:List UInt8}(g:aM z a=true)(d:aM z b=true){h:ae}(w:Wf h):FW SS 84 [.int .i64 z,strOf a,strOf b] h (λv j=>v = .int .i64 (Hb z a b)/\Ok h j):=by
 refine KJ z a b h _ ((jH g w).mono ?_);rintro _ m ⟨rfl,f⟩;refine⟨_,rfl,aa (λe=>by cases e) (λ_=>(jH d f.wf).mono ?_)⟩;rintro _ l ⟨rfl,c⟩;unfold Hb;refine⟨_,rfl,aa (λe=>by cases e) (λ_=>aa (λe=>?_) (λe=>?_))⟩
 ·rw[if_pos (by simpa using e)];refine(l7 (qi g) (qi d) c.wf).mono ?_;rintro _ k ⟨rfl,i⟩;exact⟨_,rfl,rfl,(f.trans c).trans i⟩
 ·rw[if_neg (by simpa using e)];refine(l7 (qi d) (qi g) c.wf).mono ?_;rintro _ k ⟨rfl,i⟩;exact⟨_,rfl,rfl,(f.trans c).trans i⟩
theorem lr{a:List UInt8}(h:aM z a=true)(b:a≠di)(d:z≠1\/a≠iq):aA a=true:=by
 rcases gL h with rfl|rfl|rfl
 ·rcases m3.1 h with e|e|e
  ·exact absurd e b
  ·exact absurd e (d.resolve_left (λc=>c rfl))
  ·exact e
 ·exact(((iw (.inl rfl)).1 h).resolve_left b).1
 ·exact(((iw (.inr rfl)).1 h).resolve_left b).1
theorem qZ{a b:List UInt8}(j:aM z a=true)(i:aM z b=true){h:ae}(w:Wf h):FW SS 62 [.int .i64 z,strOf a,strOf b] h (oQ h (eM z a b)):=by
 refine Q6 z a b h _ ((jH j w).mono ?_);rintro _ o ⟨rfl,l⟩;refine⟨_,rfl,aa (λe=>by cases e) (λ_=>(jH i l.wf).mono ?_)⟩;rintro _ n ⟨rfl,k⟩;have d:=l.trans k;unfold eM;refine⟨_,rfl,aa (λe=>by cases e) (λ_=>aa (λe=>?_) (λe=>?_))⟩
 ·rw[if_pos (by simpa using e)];refine(KL i j k.wf).mono ?_;rintro _ m ⟨rfl,g⟩;refine⟨_,rfl,aa (λq=>?_) (λq=>?_)⟩
  ·rw[if_pos (dT q)];exact⟨rfl,d.trans g⟩
  ·rw[if_neg (dF q)];exact⟨rfl,d.trans g⟩
 have e:z=2:=by simpa using e
 rw[if_neg (λc=>c e)];refine aa (λq=>?_) (λq=>aa (λf=>?_) (λf=>?_))
 ·rw[if_pos (.inl (cn q))];exact⟨rfl,d⟩
 ·rw[if_pos (.inr (cn f))];exact⟨rfl,d⟩
 ·rw[if_neg (λc=>c.elim (cd q) (cd f))];refine(DS (lr j (cd q) (.inl (by omega))) (lr i (cd f) (.inl (by omega))) k.wf).mono ?_;rintro _ m ⟨rfl,g⟩;exact jm (d.trans g)
theorem wX{a b:List UInt8}(n:aM z a=true)(p:aM z b=true){h:ae}(w:Wf h):FW SS 65 [.int .i64 z,strOf a,strOf b] h (oQ h (dg z a b)):=by
 have x:1<=z/\z<=3:=by have:=gL n;omega
 refine Nc z a b h _ ((jH n w).mono ?_);rintro _ y ⟨rfl,r⟩;refine⟨_,rfl,aa (λe=>by cases e) (λ_=>(jH p r.wf).mono ?_)⟩;rintro _ u ⟨rfl,o⟩;have d:=r.trans o;refine⟨_,rfl,aa (λe=>by cases e) (λ_=>(fO x u).mono ?_)⟩;rintro _ A ⟨rfl,rfl⟩;unfold dg;refine⟨_,rfl,aa (λq=>?_) (λq=>aa (λl=>?_) (λl=>?_))⟩
 ·rw[if_pos (.inl (cn q))];exact⟨rfl,d⟩
 ·rw[if_pos (.inr (cn l))];exact⟨rfl,d⟩
 rw[if_neg (λc=>c.elim (cd q) (cd l))];refine aa (λf=>?_) (λf=>aa (λi=>?_) (λi=>?_))
 ·rw[if_pos (.inl (cn f))];exact⟨rfl,d⟩
 ·rw[if_pos (.inr (cn i))];exact⟨rfl,d⟩
 rw[if_neg (λc=>c.elim (cd f) (cd i))];refine aa (λj=>?_) (λj=>aa (λg=>?_) (λg=>?_))
 ·rw[if_pos (.inl (cn j))];exact⟨rfl,d⟩
 ·rw[if_pos (.inr (cn g))];exact⟨rfl,d⟩
 rw[if_neg (λc=>c.elim (cd j) (cd g))];have t:=lr n (cd f) (.inr (cd j));have s:=lr p (cd i) (.inr (cd g));refine aa (λk=>?_) (λk=>?_)
 ·rw[if_pos (by simpa using k)];refine(DS t s o.wf).mono ?_;rintro _ v ⟨rfl,m⟩;exact jm (d.trans m)
 ·rw[if_neg (by simpa using k)];refine(Vd t s o.wf).mono ?_;rintro _ v ⟨rfl,m⟩;exact jm (d.trans m)
theorem Q8{a:List UInt8}(j:aM z a=true){h:ae}(w:Wf h):FW SS 67 [.int .i64 z,strOf a] h (oQ h (lR z a)):=by
 have x:1<=z/\z<=3:=by have:=gL j;omega
 have n:=qi j;refine Q7 z a h _ ((jH j w).mono ?_);rintro _ A ⟨rfl,b⟩;refine⟨_,rfl,aa (λe=>by cases e) (λ_=>(Cl z A).mono ?_)⟩;rintro _ B ⟨rfl,rfl⟩;rw[H6 x];unfold lR;refine⟨_,rfl,aa (λe=>?_) (λe=>aa (λg=>?_) (λg=>?_))⟩
 ·have e:z=1:=by simpa using e
  rw[if_pos e];refine(l7 n (by simp) b.wf).mono ?_;rintro _ s ⟨rfl,f⟩;refine⟨_,rfl,aa (λq=>?_) (λq=>?_)⟩
  ·rw[if_pos (dT q)];exact⟨by unfold qN;rw[if_pos e];rfl,b.trans f⟩
  ·rw[if_neg (dF q)];exact⟨rfl,b.trans f⟩
 ·have e:¬z=1:=by simpa using e
  have g:z=3:=by simpa using g
  rw[if_neg e,if_pos g];refine(l7 n (by simp) b.wf).mono ?_;rintro _ s ⟨rfl,f⟩;refine⟨_,rfl,aa (λq=>?_) (λq=>?_)⟩
  ·rw[if_pos (dT q)];exact⟨by unfold qN;rw[if_neg e];rfl,b.trans f⟩
  ·rw[if_neg (dF q)];exact⟨rfl,b.trans f⟩
 ·have e:¬z=1:=by simpa using e
  have g:¬z=3:=by simpa using g
  have E:z=2:=by omega
  rw[if_neg e,if_neg g];refine(l7 n (by simp) b.wf).mono ?_;rintro _ s ⟨rfl,f⟩;have l:=b.trans f;refine⟨_,rfl,aa (λq=>?_) (λq=>?_)⟩
  ·rw[if_pos (dT q)];exact⟨rfl,l⟩
  have q:=dF q;rw[if_neg q];have u:a≠di:=λc=>q (by rw[c];decide);have i:=lr j u (.inl e);refine(Vh fF i f.wf).mono ?_;rintro _ D ⟨rfl,p⟩;have m:=l.trans p
  cases t:qp [49] (qq a)with
  |none=>exact⟨_,_,rfl,aa (λ_=>⟨rfl,m⟩) (λc=>by cases c)⟩
  | some d=>
   obtain⟨r,o⟩:=pN fF (uM i).1 t;rw[(uM i).2,lb]at o;have C:bh a<1:=by
    have:=(zy i fF)
    rw[lb]at this;exact Rat.not_le.1 λc=>q (this.2 c)
   have y:Num.val (Num.numOf d)≠0:=λc=>by
    have k:=(aZ.1 r).wT;rw[c,rC]at k;have k:=Rat.num_eq_zero.1 k;rw[o]at k
    grind
   refine⟨_,_,rfl,aa (λc=>by cases c) (λ_=>(Va fF r y p.wf).mono ?_)⟩;rintro _ F ⟨rfl,v⟩;exact jm (m.trans v)
variable{d:List Value}{k:Nat}
noncomputable def UP:FD:=cF Tryz.f190 []
theorem QP(a b:LB)(h:ae)(Q:VH)(E:FW SS 171 [(strOf a)] h λw x=>yB w λv=>au (!v) (Q (.tuple ⟨[(strOf []),(strOf []),(.int .i64 1)]⟩) x) (FW SS 171 [(strOf b)] x λt u=>yB t λs=>au (!s) (Q (.tuple ⟨[(strOf []),(strOf []),(.int .i64 1)]⟩) u) (au ((b:LB)==[48]) (Q (.tuple ⟨[(strOf []),(strOf []),(.int .i64 4)]⟩) u) (FW SS 172 [(strOf a)] u λq r=>yL q λn o p=>FW SS 172 [(strOf b)] r λl m=>yL l λi j k=>FW SS 189 [(.slice n o p),(.slice i j k)] m λg h=>∃(C:OA) (D y:Nat),∃(z:OA) (A B:Nat),g=(.tuple ⟨[(.slice C D y),(.slice z A B)]⟩)/\FW SS 187 [(.slice C D y)] h λe f=>yS e λd=>FW SS 187 [(.slice z A B)] f λb c=>yS b λa=>Q (.tuple ⟨[(strOf d),(strOf a),(.int .i64 0)]⟩) c)))):FW SS 190 [(strOf a),(strOf b)] h Q:=cI UP Tryz.func190 (ai E)
noncomputable def Vs:FD:=cF Tryz.f176 []
theorem Rp(a b:LB)(h:ae)(Q:VH)(i:FW SS 190 [(strOf a),(strOf b)] h λg h=>∃f:LB,∃e:LB,∃d:Int,g=(.tuple ⟨[(strOf f),(strOf e),(.int .i64 d)]⟩)/\FW SS 142 [(strOf f),(.int .i64 d)] h λb c=>yS b λa=>Q (strOf a) c):FW SS 176 [(strOf a),(strOf b)] h Q:=cI Vs Tryz.func176 (ai i)
noncomputable def Vt:FD:=cF Tryz.f144 []
theorem Rq(s:Bool)(a b:LB)(h:ae)(Q:VH)(z:xN (br SS.P 155) h λ_ y=>FW SS 175 [(strOf a),(strOf b)] y λw x=>∃v:LB,∃u:Int,w=(.tuple ⟨[(strOf v),(.int .i64 u)]⟩)/\FW SS 142 [(strOf v),(.int .i64 u)] x λr t=>yS r λq=>au s (FW SS 176 [(strOf a),(strOf q)] t λo p=>yS o λn=>FW SS 176 [(strOf b),(strOf q)] p λl m=>yS l λk=>xA (bd SS.P 155 [(0,(.bool (!((a:LB)==[48])))),(1,(strOf n)),(2,(strOf k))]) λj=>xN (br SS.P 155) m λ_ i=>xU (ah SS.P 155 (pA (m.next)) (.agg ⟨j⟩) i) i λ_ g=>fP 155 (pA (m.next)) 1 λf=>lS g f λe=>au (decide ((((e:LB).length:Int):Int)>400)) (xA (bd SS.P 176 []) λ_=>False) (fP 155 (pA (m.next)) 2 λd=>lS g d λc=>au (decide ((((c:LB).length:Int):Int)>400)) (xA (bd SS.P 176 []) λ_=>False) (lA 155 g (pA (m.next)) λb=>xU (ah SS.P 155 (pA (h.next)) (.agg ⟨b⟩) g) g λ_ a=>ef SS [((pA (h.next)),some 155)] a Q))) (FW SS 176 [(strOf a),(strOf q)] t λo p=>yS o λn=>FW SS 176 [(strOf b),(strOf q)] p λl m=>yS l λk=>xA (bd SS.P 155 [(0,(.bool false)),(1,(strOf n)),(2,(strOf k))]) λj=>xN (br SS.P 155) m λ_ i=>xU (ah SS.P 155 (pA (m.next)) (.agg ⟨j⟩) i) i λ_ g=>fP 155 (pA (m.next)) 1 λf=>lS g f λe=>au (decide ((((e:LB).length:Int):Int)>400)) (xA (bd SS.P 176 []) λ_=>False) (fP 155 (pA (m.next)) 2 λd=>lS g d λc=>au (decide ((((c:LB).length:Int):Int)>400)) (xA (bd SS.P 176 []) λ_=>False) (lA 155 g (pA (m.next)) λb=>xU (ah SS.P 155 (pA (h.next)) (.agg ⟨b⟩) g) g λ_ a=>ef SS [((pA (h.next)),some 155)] a Q)))):FW SS 144 [(.bool s),(strOf a),(strOf b)] h Q:=cI Vt Tryz.func144 (ai z)
noncomputable def QX:FD:=cF Tryz.f184 []
theorem MZ(s:Bool)(a b:LB)(h:ae)(Q:VH)(n:xN (eL SS.P 155 (.agg ⟨[(.bool s),(strOf a),(strOf b)]⟩)) h λ_ m=>fP 155 (pA (h.next)) 1 λl=>lS m l λk=>fP 155 (pA (h.next)) 0 λj=>lB m j λi=>au i (xS (ay SS.P .add 9 (strOf [45]) (strOf k)) λg=>fP 155 (pA (h.next)) 2 λf=>lS m f λe=>au (!((e:LB)==[49])) (fP 155 (pA (h.next)) 2 λd=>lS m d λc=>xS (ay SS.P .add 9 (strOf [47]) (strOf c)) λb=>xS (ay SS.P .add 9 (strOf g) (strOf b)) λa=>Q (strOf a) m) (Q (strOf g) m)) (fP 155 (pA (h.next)) 2 λf=>lS m f λe=>au (!((e:LB)==[49])) (fP 155 (pA (h.next)) 2 λd=>lS m d λc=>xS (ay SS.P .add 9 (strOf [47]) (strOf c)) λb=>xS (ay SS.P .add 9 (strOf k) (strOf b)) λa=>Q (strOf a) m) (Q (strOf k) m))):FW SS 184 [(.agg ⟨[(.bool s),(strOf a),(strOf b)]⟩)] h Q:=cI QX Tryz.func184 (ai n)
noncomputable def Rj:FD:=cF Tryz.f139 []
theorem Ni(a b:LB)(g:Nat)(s t:LV)(h:ae)(Q:VH)(u:xN (eL SS.P 158 (.func (.func g) ⟨s⟩ ⟨t⟩)) h λ_ r=>FW SS 145 [(strOf a)] r λp q=>∃o:LV,∃n:Bool,p=(.tuple ⟨[(.agg ⟨o⟩),(.bool n)]⟩)/\xN (br SS.P 155) q λ_ m=>xU (ah SS.P 155 (pA (q.next)) (.agg ⟨o⟩) m) m λ_ l=>FW SS 145 [(strOf b)] l λj k=>∃i:LV,∃g:Bool,j=(.tuple ⟨[(.agg ⟨i⟩),(.bool g)]⟩)/\xN (br SS.P 155) k λ_ f=>xU (ah SS.P 155 (pA (k.next)) (.agg ⟨i⟩) f) f λ_ e=>au (!n) (Q (.tuple ⟨[(strOf []),(.int .i64 1)]⟩) e) (au (!g) (Q (.tuple ⟨[(strOf []),(.int .i64 1)]⟩) e) (FW SS 166 [(.func (.func 167) ⟨[]⟩ ⟨[(pA (h.next)),(pA (q.next)),(pA (k.next))]⟩)] e λc d=>∃b:LB,∃a:Int,c=(.tuple ⟨[(strOf b),(.int .i64 a)]⟩)/\Q (.tuple ⟨[(strOf b),(.int .i64 a)]⟩) d))):FW SS 139 [(strOf a),(strOf b),(.func (.func g) ⟨s⟩ ⟨t⟩)] h Q:=cI Rj Tryz.func139 (ai u)
noncomputable def Nh:FD:=cF Tryz.f167 []
theorem KN(m l n:Nat)(h:ae)(Q:VH)(o:xN (br SS.P 155) h λ_ k=>xF (aj SS.P 158 k (pA m)) λg i j=>lA 155 k (pA l) λf=>lA 155 k (pA n) λe=>au (Nat.blt g YB) (FW SS g (i++[(.agg ⟨f⟩),(.agg ⟨e⟩)]++j) k λc d=>yA c λb=>xU (ah SS.P 155 (pA (h.next)) (.agg ⟨b⟩) d) d λ_ a=>ef SS [((pA (h.next)),some 155)] a Q) False):FW SS 167 [(pA m),(pA l),(pA n)] h Q:=cI Nh Tryz.func167 (ai o)
noncomputable def Vp:FD:=cF Tryz.f107 []
theorem Rg(a b:LB)(h:ae)(Q:VH)(e:FW SS 139 [(strOf a),(strOf b),(.func (.func 140) ⟨[]⟩ ⟨[]⟩)] h λc d=>∃b:LB,∃a:Int,c=(.tuple ⟨[(strOf b),(.int .i64 a)]⟩)/\Q (.tuple ⟨[(strOf b),(.int .i64 a)]⟩) d):FW SS 107 [(strOf a),(strOf b)] h Q:=cI Vp Tryz.func107 (ai e)
noncomputable def Rf:FD:=cF Tryz.f140 []
theorem Nf(s t:Bool)(a b c d:LB)(h:ae)(Q:VH)(S:xN (eL SS.P 155 (.agg ⟨[(.bool s),(strOf a),(strOf b)]⟩)) h λ_ F=>xN (eL SS.P 155 (.agg ⟨[(.bool t),(strOf c),(strOf d)]⟩)) F λ_ K=>xN (br SS.P 155) K λ_ E=>fP 155 (pA (h.next)) 0 λH=>lB (room E 26) H λA=>fP 155 (pA (h.next)) 1 λX=>lS (room E 26) X λU=>fP 155 (pA (F.next)) 2 λT=>lS (room E 26) T λP=>FW SS 143 [(strOf U),(strOf P)] (room E 26) λW J=>∃O:LB,∃N:Int,W=(.tuple ⟨[(strOf O),(.int .i64 N)]⟩)/\FW SS 142 [(strOf O),(.int .i64 N)] J λV G=>yS V λR=>fP 155 (pA (F.next)) 0 λI=>lB G I λB=>fP 155 (pA (F.next)) 1 λL=>lS G L λC=>fP 155 (pA (h.next)) 2 λM=>lS G M λD=>FW SS 143 [(strOf C),(strOf D)] G λy z=>∃x:LB,∃w:Int,y=(.tuple ⟨[(strOf x),(.int .i64 w)]⟩)/\FW SS 142 [(strOf x),(.int .i64 w)] z λu v=>yS u λt=>FW SS 141 [(.bool A),(strOf R),(.bool B),(strOf t)] v λr s=>∃q:Bool,∃p:LB,r=(.tuple ⟨[(.bool q),(strOf p)]⟩)/\(aj SS.P 4 J (.pointer (some H))=some (.bool A)/\dG 4 (.bool A) (.bool A)=true)/\(aj SS.P 4 G (.pointer (some H))=some (.bool A)/\dG 4 (.bool A) (.bool A)=true)/\(aj SS.P 4 z (.pointer (some H))=some (.bool A)/\dG 4 (.bool A) (.bool A)=true)/\(aj SS.P 4 v (.pointer (some H))=some (.bool A)/\dG 4 (.bool A) (.bool A)=true)/\(aj SS.P 4 (room E 26) (.pointer (some I))=some (.bool B)/\dG 4 (.bool B) (.bool B)=true)/\(aj SS.P 4 J (.pointer (some I))=some (.bool B)/\dG 4 (.bool B) (.bool B)=true)/\(aj SS.P 4 z (.pointer (some I))=some (.bool B)/\dG 4 (.bool B) (.bool B)=true)/\(aj SS.P 4 v (.pointer (some I))=some (.bool B)/\dG 4 (.bool B) (.bool B)=true)/\(aj SS.P 9 (room E 26) (.pointer (some L))=some (strOf C)/\dG 4 (strOf C) (strOf C)=true)/\(aj SS.P 9 J (.pointer (some L))=some (strOf C)/\dG 4 (strOf C) (strOf C)=true)/\(aj SS.P 9 (room E 26) (.pointer (some M))=some (strOf D)/\dG 4 (strOf D) (strOf D)=true)/\(aj SS.P 9 J (.pointer (some M))=some (strOf D)/\dG 4 (strOf D) (strOf D)=true)/\fP 155 (pA (h.next)) 2 λo=>lS s o λn=>fP 155 (pA (F.next)) 2 λm=>lS s m λl=>FW SS 143 [(strOf n),(strOf l)] s λj k=>∃i:LB,∃h:Int,j=(.tuple ⟨[(strOf i),(.int .i64 h)]⟩)/\FW SS 142 [(strOf i),(.int .i64 h)] k λf g=>yS f λe=>FW SS 144 [(.bool q),(strOf p),(strOf e)] g λc d=>yA c λb=>xU (ah SS.P 155 (pA (K.next)) (.agg ⟨b⟩) d) d λ_ a=>ef SS [((pA (K.next)),some 155)] a Q):FW SS 140 [(.agg ⟨[(.bool s),(strOf a),(strOf b)]⟩),(.agg ⟨[(.bool t),(strOf c),(strOf d)]⟩)] h Q:=cI Rf Tryz.func140 (ai S)
noncomputable def Vr:FD:=cF Tryz.f111 []
theorem Rl(a b:LB)(h:ae)(Q:VH)(e:FW SS 139 [(strOf a),(strOf b),(.func (.func 146) ⟨[]⟩ ⟨[]⟩)] h λc d=>∃b:LB,∃a:Int,c=(.tuple ⟨[(strOf b),(.int .i64 a)]⟩)/\Q (.tuple ⟨[(strOf b),(.int .i64 a)]⟩) d):FW SS 111 [(strOf a),(strOf b)] h Q:=cI Vr Tryz.func111 (ai e)
noncomputable def Rk:FD:=cF Tryz.f146 []
theorem Nj(s t:Bool)(a b c d:LB)(h:ae)(Q:VH)(H:xN (eL SS.P 155 (.agg ⟨[(.bool s),(strOf a),(strOf b)]⟩)) h λ_ F=>xN (eL SS.P 155 (.agg ⟨[(.bool t),(strOf c),(strOf d)]⟩)) F λ_ G=>xN (br SS.P 155) G λ_ C=>fP 155 (pA (h.next)) 0 λD=>lB (room C 23) D λB=>fP 155 (pA (F.next)) 0 λE=>lB (room C 23) E λA=>fP 155 (pA (h.next)) 1 λz=>lS (room C 23) z λy=>fP 155 (pA (F.next)) 1 λx=>lS (room C 23) x λw=>FW SS 143 [(strOf y),(strOf w)] (room C 23) λu v=>∃t:LB,∃s:Int,u=(.tuple ⟨[(strOf t),(.int .i64 s)]⟩)/\FW SS 142 [(strOf t),(.int .i64 s)] v λq r=>yS q λp=>fP 155 (pA (h.next)) 2 λo=>lS r o λn=>fP 155 (pA (F.next)) 2 λm=>lS r m λl=>FW SS 143 [(strOf n),(strOf l)] r λj k=>∃i:LB,∃h:Int,j=(.tuple ⟨[(strOf i),(.int .i64 h)]⟩)/\FW SS 142 [(strOf i),(.int .i64 h)] k λf g=>yS f λe=>FW SS 144 [(.bool (!(B==A))),(strOf p),(strOf e)] g λc d=>yA c λb=>xU (ah SS.P 155 (pA (G.next)) (.agg ⟨b⟩) d) d λ_ a=>(aj SS.P 4 v (.pointer (some D))=some (.bool B)/\dG 4 (.bool B) (.bool B)=true)/\(aj SS.P 4 r (.pointer (some D))=some (.bool B)/\dG 4 (.bool B) (.bool B)=true)/\(aj SS.P 4 k (.pointer (some D))=some (.bool B)/\dG 4 (.bool B) (.bool B)=true)/\(aj SS.P 4 g (.pointer (some D))=some (.bool B)/\dG 4 (.bool B) (.bool B)=true)/\(aj SS.P 4 v (.pointer (some E))=some (.bool A)/\dG 4 (.bool A) (.bool A)=true)/\(aj SS.P 4 r (.pointer (some E))=some (.bool A)/\dG 4 (.bool A) (.bool A)=true)/\(aj SS.P 4 k (.pointer (some E))=some (.bool A)/\dG 4 (.bool A) (.bool A)=true)/\(aj SS.P 4 g (.pointer (some E))=some (.bool A)/\dG 4 (.bool A) (.bool A)=true)/\(aj SS.P 9 (room C 23) (.pointer (some o))=some (strOf n)/\dG 4 (strOf n) (strOf n)=true)/\(aj SS.P 9 v (.pointer (some o))=some (strOf n)/\dG 4 (strOf n) (strOf n)=true)/\(aj SS.P 9 (room C 23) (.pointer (some m))=some (strOf l)/\dG 4 (strOf l) (strOf l)=true)/\(aj SS.P 9 v (.pointer (some m))=some (strOf l)/\dG 4 (strOf l) (strOf l)=true)/\ef SS [((pA (G.next)),some 155)] a Q):FW SS 146 [(.agg ⟨[(.bool s),(strOf a),(strOf b)]⟩),(.agg ⟨[(.bool t),(strOf c),(strOf d)]⟩)] h Q:=cI Rk Tryz.func146 (ai H)
noncomputable def VZ:FD:=cF Tryz.f113 []
theorem RS(a:LB)(h:ae)(Q:VH)(g:FW SS 109 [(strOf a)] h λe f=>yB e λd=>au d (FW SS 149 [(strOf a),(strOf [48])] f λb c=>yI .i64 b λa=>Q (.bool (decide ((a:Int)>=0))) c) (Q (.bool false) f)):FW SS 113 [(strOf a)] h Q:=cI VZ Tryz.func113 (ai g)
noncomputable def Zr:FD:=cF Tryz.f104 []
theorem VI(r:LV)(a:LB)(h:ae)(Q:VH)(l:xN (eL SS.P 99 (.agg ⟨r⟩)) h λ_ k=>au ((a:LB)==[105,110,102]) (Q (.bool true) k) (au ((a:LB)==[45,105,110,102]) (fP 99 (pA (h.next)) 2 λj=>lB k j λi=>au i (Q (.bool true) k) (fP 99 (pA (h.next)) 6 λg=>xF (aj SS.P 97 k (.pointer (some g))) λd e f=>au (Nat.blt d YB) (FW SS d (e++[(strOf a)]++f) k λb c=>yB b λa=>Q (.bool a) c) False)) (fP 99 (pA (h.next)) 6 λg=>xF (aj SS.P 97 k (.pointer (some g))) λd e f=>au (Nat.blt d YB) (FW SS d (e++[(strOf a)]++f) k λb c=>yB b λa=>Q (.bool a) c) False))):FW SS 104 [(.agg ⟨r⟩),(strOf a)] h Q:=cI Zr Tryz.func104 (ai l)
noncomputable def ll:FD:=cF Tryz.f86 [([1,1,1,0,1,0,0],[1,2,8,33,34])]
abbrev ke(a b:LB)(k:Nat)(c:LV)(i:Nat):LV:=[(strOf a),(strOf b),(pA k),(.agg ⟨c⟩),(iA i)]
theorem La(t:Int)(a b:LB)(h:ae)(Q:VH)(u:FW SS 69 [(.int .i64 t)] h λr s=>∃q:LV,∃p:Bool,r=(.tuple ⟨[(.agg ⟨q⟩),(.bool p)]⟩)/\xN (br SS.P 99) s λ_ o=>xU (ah SS.P 99 (pA (s.next)) (.agg ⟨q⟩) o) o λ_ n=>au (!p) (Q (.tuple ⟨[(strOf []),(.int .i64 1)]⟩) n) (lA 99 n (pA (s.next)) λm=>FW SS 104 [(.agg ⟨m⟩),(strOf a)] n λk l=>yB k λj=>au (!j) (Q (.tuple ⟨[(strOf []),(.int .i64 1)]⟩) l) (lA 99 l (pA (s.next)) λi=>FW SS 104 [(.agg ⟨i⟩),(strOf b)] l λg h=>yB g λf=>au (!f) (Q (.tuple ⟨[(strOf []),(.int .i64 1)]⟩) h) (fP 99 (pA (s.next)) 0 λe=>lS h e λd=>xA (bd SS.P 131 [(0,(strOf d)),(1,(strOf [105,110,102])),(2,(strOf [45,105,110,102]))]) λc=>LL SS ll [1,1,1,0,1,0,0] (ke a b (s.next) c 0) h (KK SS ll [1,1,1,0,1,0] [] (EE SS ll Q)))))):FW SS 86 [(.int .i64 t),(strOf a),(strOf b)] h Q:=cI ll Tryz.func86 (ai u)
theorem vN(p:Int)(a b:LB)(k:Nat)(m:LV)(l:Nat->Nat->ae->Prop)(Q:VH)(step:∀(j:Nat) (i:Nat) (o:Nat->Value) (h:ae),l j i h->au (decide (((i:Int):Int)<3)) (xS (bP SS.P 131 (.agg ⟨m⟩) (iA i)) λc=>au ((a:LB)==c) (Q (.tuple ⟨[(strOf c),(.int .i64 0)]⟩) h) (au ((b:LB)==c) (Q (.tuple ⟨[(strOf c),(.int .i64 0)]⟩) h) (aJ (fs (ke a b k m) l) j [(strOf a),(strOf b),(pA k),(.agg ⟨m⟩),(.int .i64 (wrap .i64 ((i:Int)+1)))] h))) (fP 99 (pA k) 4 λi=>xF (aj SS.P 95 h (.pointer (some i))) λe f g=>au (Nat.blt e YB) (FW SS e (f++[(strOf a),(strOf b)]++g) h λc d=>∃b:LB,∃a:Int,c=(.tuple ⟨[(strOf b),(.int .i64 a)]⟩)/\Q (.tuple ⟨[(strOf b),(.int .i64 a)]⟩) d) False))(j:Nat){i:Nat}{h:ae}(n:l j i h):LL SS ll [1,1,1,0,1,0,0] (ke a b k m i) h (KK SS ll [1,1,1,0,1,0] [] (EE SS ll Q)):=
 dc (ke a b k m) l (λj i o h n=>ai (step j i o h n)) j n
noncomputable def Bw:FD:=cF Tryz.f166 []
theorem Z9{Q:eV}(e:xN (br SS.P 9) h λ_ b=>xN (br SS.P 30) b λ_ a=>Q .normal (uN [(.func (.func n) ⟨c⟩ ⟨d⟩),undef,(pA (h.next)),(pA (b.next))] 7) a):TT SS Bw [0] (uN [(.func (.func n) ⟨c⟩ ⟨d⟩)] 10) h Q:=ai e
theorem aaa{g:LV}{j:Value}{Q:eV}(l:au (Nat.blt n YB) (FW SS n (d++[]++g) h λh i=>yA h λf=>FW SS 184 [(.agg ⟨f⟩)] i λo e=>yS o λc=>xU (ah SS.P 9 (pA m) (strOf c) e) e λ_ b=>xU (ah SS.P 30 (pA k) (.int .i64 0) b) b λ_ a=>Q .ret [(.func (.func n) ⟨d⟩ ⟨g⟩),undef,(pA m),(pA k),(.func (.func 184) ⟨[(.agg ⟨f⟩)]⟩ ⟨[]⟩),j,(.func (.func n) ⟨d⟩ ⟨g⟩),(.agg ⟨f⟩),(.func (.func 184) ⟨[(.agg ⟨f⟩)]⟩ ⟨[]⟩),(.func (.func 184) ⟨[(.agg ⟨f⟩)]⟩ ⟨[]⟩),(strOf c)] a) False):TT SS Bw [1,1] [(.func (.func n) ⟨d⟩ ⟨g⟩),undef,(pA m),(pA k),undef,j,undef,undef,undef,undef,undef] h Q:=ai l
theorem QQ(c:n<10^1000)(k:m<10^1000)(y:0<m){h:ae}(p:nW h)(w:Wf h):FW SS 190 [strOf (ag n),strOf (ag m)] h (λv x=>v=three (ag (n/m)) (ag (n%m)) 0/\Ok h x):=by
 have l:Num.valid (ag n)=true:=ei.2 c;have t:Num.valid (ag m)=true:=ei.2 k;refine QP _ _ h _ ((dJ _ h).mono ?_);rintro _ i ⟨rfl,g⟩;obtain rfl:h=i:=g.symm;refine⟨_,rfl,aa (λe=>by rw[l]at e;cases e) (λ_=>(dJ _ h).mono ?_)⟩;rintro _ i ⟨rfl,g⟩;obtain rfl:h=i:=g.symm;refine⟨_,rfl,aa (λe=>by rw[t]at e;cases e) (λ_=>aa (λe=>?_) (λ_=>?_))⟩
 ·exact absurd (bL.1 (cn e)) (by omega)
 refine(kG l w).mono ?_;rintro _ H ⟨R,B,M,rfl,j,d⟩;refine⟨_,_,_,rfl,(kG t d.wf).mono ?_⟩;rintro _ I ⟨D,C,Q,rfl,q,a⟩;rw[bu]at j q;have L:=ij c;have U:=ij k;have P:=ij (lt_of_le_of_lt (Nat.div_le_self n m) c);have F:=ij (lt_of_le_of_lt (Nat.mod_le n m) c);refine⟨_,_,_,rfl,(yq (j.rd.ok a) q.rd y (by omega) (by omega) a.wf).mono ?_⟩;rintro _ E ⟨J,A,N,K,S,G,rfl,u,z,f⟩;have s:=(d.trans a).trans f;refine⟨_,_,_,_,_,_,rfl,(po u (by omega) (p.ok s) f.wf).mono ?_⟩;rintro _ O ⟨rfl,b⟩;have o:=s.trans b;refine⟨_,rfl,(po (z.ok b) (by omega) (p.ok o) b.wf).mono ?_⟩;rintro _ T ⟨rfl,r⟩;exact⟨_,rfl,rfl,o.trans r⟩
theorem Gv(d:n<10^1000)(c:m<10^1000)(g:0<m){h:ae}(f:nW h)(w:Wf h):FW SS 176 [strOf (ag n),strOf (ag m)] h (λv e=>v=strOf (ag (n/m))/\Ok h e):=by
 refine Rp _ _ h _ ((QQ d c g f w).mono ?_);rintro _ i ⟨rfl,a⟩;refine⟨_,_,_,rfl,(fw _ _).mono ?_⟩;rintro _ b ⟨rfl,j⟩;obtain rfl:i=b:=j.symm;exact⟨_,rfl,rfl,a⟩
theorem Ci{cs0:List Value}(w:Wf h)(e:cs0.length=3)(c:g.get k=some (.cells cs0 155 0 true))(i:h.next<=k)(o:Ok h g)(b:Bool)(n d:List UInt8){Q:VH}(f:∀a,Ok h a->Q (sj b n d) a):
  ∃u:dP,ah SS.P 155 (pA k) (.agg ⟨[.bool b,strOf n,strOf d]⟩) g=some (undef,u)/\ef SS [(pA k,some 155)] (u.app g) Q:=by
 refine⟨_,Wj e c b n d,JW (v:=sj b n d) (Kh ?_) (f _ (o.set _ i (o.wf _ _ c) w))⟩;show(g.set k _).get k=_;rw[ae.aw,if_pos rfl]
theorem Gw(s:Bool){N D:Nat}(F:N<10^1000)(k:D<10^1000)(K:0<D)(h1:(ag (N/Nat.gcd N D)).length<=400)(h2:(ag (D/Nat.gcd N D)).length<=400){h:ae}(t:nW h)(w:Wf h):
  FW SS 144 [.bool s,strOf (ag N),strOf (ag D)] h (λv p=>v=sj (s&&decide (N≠0)) (ag (N/Nat.gcd N D)) (ag (D/Nat.gcd N D))/\Ok h p):=by
 have W:Num.valid (ag N)=true:=ei.2 F;have vD:Num.valid (ag D)=true:=ei.2 k;have Q:0<Nat.gcd N D:=Nat.gcd_pos_of_pos_right N K;have g:Nat.gcd N D<10^1000:=lt_of_le_of_lt (Nat.gcd_le_right N K) k;have n:=(Ok.refl w).push rk;refine Rq s _ _ h _ ⟨_,vT,(Gi _ _ (t.ok n) n.wf).mono ?_⟩;rintro _ O ⟨rfl,j⟩;rw[yh W vD,bu,bu];refine⟨_,_,rfl,(fw _ _).mono ?_⟩;rintro _ T ⟨rfl,e2⟩;obtain rfl:O=T:=e2.symm;have E:=n.trans j;have f:∀b:Bool,b=(s&&decide (N≠0))->FW SS 176 [strOf (ag N),strOf (ag (Nat.gcd N D))] O λz A=>yS z λP=>FW SS 176 [strOf (ag D),strOf (ag (Nat.gcd N D))] A λM d=>yS M λx=>xA (bd SS.P 155 [(0,(.bool b)),(1,(strOf P)),(2,(strOf x))]) λI=>xN (br SS.P 155) d λx3 i=>xU (ah SS.P 155 (pA (d.next)) (.agg ⟨I⟩) i) i λx2 a=>xP (aE SS.P 155 (pA (d.next)) 1) λy=>xS (aj SS.P 9 a (.pointer (some y))) λJ=>au (decide ((((J:LB).length:Int):Int)>400)) (xA (bd SS.P 176 []) λx1=>False) (xP (aE SS.P 155 (pA (d.next)) 2) λH=>xS (aj SS.P 9 a (.pointer (some H))) λL=>au (decide ((((L:LB).length:Int):Int)>400)) (xA (bd SS.P 176 []) λx4=>False) (xA (aj SS.P 155 a (pA (d.next))) λB=>xU (ah SS.P 155 (pA (h.next)) (.agg ⟨B⟩) a) a λx0 C=>ef SS [((pA (h.next)),some 155)] C (λv p=>v=sj (s&&decide (N≠0)) (ag (N/Nat.gcd N D)) (ag (D/Nat.gcd N D))/\Ok h p))):=by
  intro b S;refine(Gv F g Q (t.ok E) j.wf).mono ?_;rintro _ g3 ⟨rfl,r⟩;have R:=E.trans r;refine⟨_,rfl,(Gv k g Q (t.ok R) r.wf).mono ?_⟩;rintro _ U ⟨rfl,m⟩;obtain⟨u,s1,G,l⟩:=DQ m.wf b (ag (N/Nat.gcd N D)) (ag (D/Nat.gcd N D));have X:=R.trans m;have Y:=X.trans G;have Z:(u.app (U.push rk)).get h.next=some rk:=G.ext _ _ (m.ext _ _ (r.ext _ _ (j.ext _ _ (aO h rk))));refine⟨_,rfl,_,aar _ _ _,_,vT,u,s1,_,pU _,_,l.l1,aa (λq=>?_) (λ_=>⟨_,lX _,_,l.l2,aa (λq=>?_) (λ_=>⟨_,Kh l,Ci w rfl Z (Nat.le_refl _) Y _ _ _ (λg' o=>⟨by rw[S],o⟩)⟩)⟩)⟩
  ·have:=dT q;omega
  ·have:=dT q;omega
 have V:(!(ag N==[48]))=decide (N≠0):=by
  by_cases e:N=0
  ·rw[bL.2 e,e];rfl
  ·rw[decide_eq_true e];have:(ag N==[48])=false:=by
    have:=λc=>e (bL.1 c);simpa using this
   rw[this];rfl
 refine⟨_,rfl,aa (λq=>?_) (λq=>?_)⟩
 ·rw[V];exact f _ (by rw[q,Bool.true_and])
 ·exact f false (by rw[q,Bool.false_and])
theorem JI(b:Bool)(n d:List UInt8):eL SS.P 155 (.agg ⟨[.bool b,strOf n,strOf d]⟩)=some (.cells [.bool b,strOf n,strOf d] 155 0 true,lk):=by kernel_rfl
theorem M1{s:Bool}(l:s=true->n≠0)(t:(ag n).length<=400)(x:(ag m).length<=400){h:ae}(w:Wf h):FW SS 184 [sj s (ag n) (ag m)] h (λv o=>v=strOf (cN s n m)/\Ok h o):=by
 have f:=(Ok.refl w).push (.cells [.bool s,strOf (ag n),strOf (ag m)] 155 0 true);have a:jt (h.push (.cells [.bool s,strOf (ag n),strOf (ag m)] 155 0 true)) h.next s (ag n) (ag m):=aO h _;have b:∀(p:List UInt8),p.length<=2000->(p++(ag n++(if m=1 then[]else 47::ag m))=cN s n m)->xP (aE SS.P 155 (pA (h.next)) 2) λk=>xS (aj SS.P 9 (h.push (.cells [.bool s,strOf (ag n),strOf (ag m)] 155 0 true)) (.pointer (some k))) λr=>au (!((r:LB)==[49])) (xP (aE SS.P 155 (pA (h.next)) 2) λd=>xS (aj SS.P 9 (h.push (.cells [.bool s,strOf (ag n),strOf (ag m)] 155 0 true)) (.pointer (some d))) λj=>xS (ay SS.P .add 9 (strOf [47]) (strOf j)) λi=>xS (ay SS.P .add 9 (strOf (p++ag n)) (strOf i)) λg=>strOf g=strOf (cN s n m)/\Ok h (h.push (.cells [.bool s,strOf (ag n),strOf (ag m)] 155 0 true))) (strOf (p++ag n)=strOf (cN s n m)/\Ok h (h.push (.cells [.bool s,strOf (ag n),strOf (ag m)] 155 0 true))):=λp u e=>by
  refine⟨_,lX _,_,a.l2,aa (λq=>?_) (λq=>⟨?_,f⟩)⟩
  ·have q:ag m≠[49]:=by simpa using q
   rw[if_neg (λc=>q (ej.2 c))]at e;refine⟨_,lX _,_,a.l2,_,rK _ _ (by simp;omega),_,rK _ _ (by simp;omega),?_,f⟩;rw[<-e,List.append_assoc];rfl
  ·have q:ag m=[49]:=by simpa using q
   rw[if_pos (ej.1 q),List.append_nil]at e;rw[e]
 refine MZ s _ _ h _ ⟨_,JI _ _ _,_,pU _,_,a.l1,_,rV _,_,a.l0,aa (λq=>?_) (λq=>?_)⟩
 ·exact⟨_,rK _ _ (by simp;omega),b [45] (by simp) (O9 ⟨q,l q⟩)⟩
 ·exact b [] (by simp) (ID λc=>by rw[c.1]at q;cases q)
variable{Q:VH}
section
theorem al9:br SS.P 9=some (.cells [strOf []] 9 0 true,lk):=by kernel_rfl
theorem aet:br SS.P 30=some (.cells [.int .i64 0] 30 0 true,lk):=by kernel_rfl
theorem zs9:aG SS.P 9=some 1:=by kernel_rfl
theorem afo:aG SS.P 30=some 1:=by kernel_rfl
theorem ad3:SS.P.underlying 30=some (.int .i64):=by kernel_rfl
theorem acs:Go.Ab.isAgg SS.P 30=false:=by kernel_rfl
theorem Xp:SS.pr 166=some (xe SS.P SS.gl Tryz.f166 (ND F0) (Ix (Ix F0)) 5):=by kernel_rfl
theorem YD(c:aj SS.P 9 g (pA n)=some (strOf s))(a:aj SS.P 30 g (pA m)=some (.int .i64 z))(b:Q (two s z) g):ef SS [(pA n,some 9),(pA m,some 30)] g Q:=by
 unfold ef;simp only[RL,c,a];exact b
theorem acg{g:Nat}{fa:List Value}(K:Nat.blt g YB=true){s:Bool}{n d:Nat}(I:s=true->n≠0)(E:(ag n).length<=400)(R:(ag d).length<=400){h:ae}(w:Wf h)
  (F:∀p,Ok h p->FW SS g (fa++[]++c) p (λv f=>v=sj s (ag n) (ag d)/\Ok p f)):FW SS 166 [.func (.func g) ⟨fa⟩ ⟨c⟩] h (oQ h (some (cN s n d))):=by
 have o:=(Ok.refl w).push (.cells [strOf []] 9 0 true);have z:=o.push (.cells [.int .i64 0] 30 0 true);have A:=(Ok.refl o.wf).push (.cells [.int .i64 0] 30 0 true);have P:((h.push (.cells [strOf []] 9 0 true)).push (.cells [.int .i64 0] 30 0 true)).get h.next=some (.cells [strOf []] 9 0 true):=A.ext _ _ (aO h _);have N:=aO (h.push (.cells [strOf []] 9 0 true)) (.cells [.int .i64 0] 30 0 true);generalize r:(h.push (.cells [strOf []] 9 0 true)).push (.cells [.int .i64 0] 30 0 true)=G at*;have D:h.next<=(h.push (.cells [strOf []] 9 0 true)).next:=o.nx;have l:h.next≠(h.push (.cells [strOf []] 9 0 true)).next:=by show h.next≠h.next+1;omega
 generalize B:(h.push (.cells [strOf []] 9 0 true)).next=j at*;have m:TT SS Bw [1,1] [(.func (.func g) ⟨fa⟩ ⟨c⟩),undef,(pA h.next),(pA j),undef,ib,undef,undef,undef,undef,undef] G (λx b f=>x = .ret/\EE SS Bw (oQ h (some (cN s n d))) .ret b f):=by
  refine aaa (aa (λ_=>(F _ z).mono ?_) (λe=>by rw[K]at e;cases e));rintro _ U ⟨rfl,u⟩;refine⟨_,rfl,(M1 I E R u.wf).mono ?_⟩;rintro _ q ⟨rfl,L⟩;have a:=u.trans L;have y:=a.ext _ _ P;have T:=a.ext _ _ N;have t:=(z.trans a).set (.cells [strOf (cN s n d)] 9 0 true) (Nat.le_refl _) (a.wf _ _ y) w;have k:(q.set h.next (.cells [strOf (cN s n d)] 9 0 true)).get j=some (.cells [.int .i64 0] 30 0 true):=by rw[ae.aw,if_neg (λe=>l e.symm)];exact T
  refine⟨_,rfl,_,jf zs9 y (i:=0) (by simp) (v:=strOf (cN s n d)) rfl rfl,_,jf afo k (i:=0) (by simp) (v:= .int .i64 0) rfl rfl,rfl,?_⟩;have S:=t.set (.cells [.int .i64 0] 30 0 true) D (t.wf _ _ k) w;have C:((q.set h.next (.cells [strOf (cN s n d)] 9 0 true)).set j (.cells [.int .i64 0] 30 0 true)).get j=some (.cells [.int .i64 0] 30 0 true):=by rw[ae.aw,if_pos rfl]
  have J:((q.set h.next (.cells [strOf (cN s n d)] 9 0 true)).set j (.cells [.int .i64 0] 30 0 true)).get h.next=some (.cells [strOf (cN s n d)] 9 0 true):=by rw[ae.aw,if_neg l,ae.aw,if_pos rfl]
  have H:=YD (Q:=oQ h (some (cN s n d))) (cq LJ Su J (i:=0) (by simp)) (cq ad3 acs C (i:=0) (by simp)) ⟨rfl,S⟩;exact ai H
 have O:TT SS Bw [0] (uN [(.func (.func g) ⟨fa⟩ ⟨c⟩)] 10) h (λx b M=>x = .normal/\TT SS Bw [1,1] (b.set 5 ib) M λx b f=>x = .ret/\EE SS Bw (oQ h (some (cN s n d))) .ret b f):=by
  refine Z9 ⟨_,al9,_,aet,rfl,?_⟩;rw[r,B];exact ai m
 exact T5 Bw Xp (ai O)
theorem Gz{s:Bool}{c:List UInt8}(b:0<m)(a:lQ s n m=some c):(ag (n/Nat.gcd n m)).length<=400/\(ag (m/Nat.gcd n m)).length<=400/\c=cN (s&&decide (n≠0)) (n/Nat.gcd n m) (m/Nat.gcd n m)/\((s&&decide (n≠0))=true->n/Nat.gcd n m≠0):=by
 unfold lQ at a;split at a
 ·cases a
 ·next q=>
  obtain rfl:=oI a;refine⟨by omega,by omega,?_,λe=>?_⟩
  ·unfold cN;by_cases e:n=0
   ·subst e;rw[Nat.zero_div,if_neg (show ¬(s=true/\(0:Nat)≠0)from λc=>c.2 rfl),if_neg (show ¬((s&&decide ((0:Nat)≠0))=true/\(0:Nat)≠0)from λc=>c.2 rfl)]
   ·rw[decide_eq_true e,Bool.and_true]
  ·rw[and_eq_true,decide_eq_true_eq]at e;have d:0<Nat.gcd n m:=Nat.gcd_pos_of_pos_right n b;exact Nat.ne_of_gt (Nat.div_pos (Nat.le_of_dvd (Nat.pos_of_ne_zero e.2) (Nat.gcd_dvd_left n m)) d)
abbrev YY(a:List UInt8):Value:=sj (Num.isNeg a) (Num.numOf a) (ak a)
section
variable {a b:List UInt8} {h:ae}
theorem ac4(w:Wf h)(a b c:dV):Ok h (((h.push a).push b).push c)/\(((h.push a).push b).push c).get h.next=some a/\(((h.push a).push b).push c).get (h.push a).next=some b/\(((h.push a).push b).push c).get ((h.push a).push b).next=some c:=by
 have f:=(Ok.refl w).push a;have e:=(Ok.refl f.wf).push b;have d:=(Ok.refl e.wf).push c;exact⟨(f.trans e).trans d,d.ext _ _ (e.ext _ _ (aO _ _)),d.ext _ _ (aO _ _),aO _ _⟩
theorem Ng(d:gR a)(c:gR b)(m:nW h)(w:Wf h){N D:Nat}{s:Bool}(M:s=(dI (Num.isNeg a) (Num.val (Num.numOf a)*Num.val (ak b)) (Num.isNeg b) (Num.val (Num.numOf b)*Num.val (ak a))).1)(B:N=(dI (Num.isNeg a) (Num.val (Num.numOf a)*Num.val (ak b)) (Num.isNeg b) (Num.val (Num.numOf b)*Num.val (ak a))).2)(q:D=Num.val (ak a)*Num.val (ak b))
  (Q:(ag (N/Nat.gcd N D)).length<=400) (S:(ag (D/Nat.gcd N D)).length<=400):
  FW SS 140 [YY a,YY b] h (λv T=>v=sj (s&&decide (N≠0)) (ag (N/Nat.gcd N D)) (ag (D/Nat.gcd N D))/\Ok h T):=by
 obtain⟨k,f,e,X⟩:=ac4 w (.cells [.bool (Num.isNeg a),strOf (Num.numOf a),strOf (ak a)] 155 0 true) (.cells [.bool (Num.isNeg b),strOf (Num.numOf b),strOf (ak b)] 155 0 true) rk;refine Nf _ _ _ _ _ _ h _ ⟨_,JI _ _ _,_,JI _ _ _,_,vT,?_⟩;have z:h.next<=((h.push (.cells [.bool (Num.isNeg a),strOf (Num.numOf a),strOf (ak a)] 155 0 true)).push (.cells [.bool (Num.isNeg b),strOf (Num.numOf b),strOf (ak b)] 155 0 true)).next:=Nat.le_trans (le_succ _) (le_succ _);generalize (((h.push (.cells [.bool (Num.isNeg a),strOf (Num.numOf a),strOf (ak a)] 155 0 true)).push (.cells [.bool (Num.isNeg b),strOf (Num.numOf b),strOf (ak b)] 155 0 true)).push rk)=p at*;generalize ((h.push (.cells [.bool (Num.isNeg a),strOf (Num.numOf a),strOf (ak a)] 155 0 true)).push (.cells [.bool (Num.isNeg b),strOf (Num.numOf b),strOf (ak b)] 155 0 true)).next=k3 at*;generalize (h.push (.cells [.bool (Num.isNeg a),strOf (Num.numOf a),strOf (ak a)] 155 0 true)).next=K at*;have f:jt p h.next (Num.isNeg a) (Num.numOf a) (ak a):=f;have e:jt p K (Num.isNeg b) (Num.numOf b) (ak b):=e;have i:Ok p (Go.Ab.room p 26):=(Ok.refl k.wf).room 26;refine⟨_,rV _,_,(f.ok i).l0,_,pU _,_,(f.ok i).l1,_,lX _,_,(e.ok i).l2,(mL _ _ (m.ok (k.trans i)) i.wf).mono ?_⟩;rintro _ Y ⟨rfl,W⟩;rw[(dh d.num c.den d.ln c.ld).1];refine⟨_,_,rfl,(fw _ _).mono ?_⟩;rintro _ y ⟨rfl,n⟩;obtain rfl:Y=y:=n.symm;have g:=i.trans W;have u:=k.trans g;refine⟨_,rfl,_,rV _,_,(e.ok g).l0,_,pU _,_,(e.ok g).l1,_,lX _,_,(f.ok g).l2,(mL _ _ (m.ok u) g.wf).mono ?_⟩;rintro _ J ⟨rfl,O⟩;rw[(dh c.num d.den c.ln d.ld).1];refine⟨_,_,rfl,(fw _ _).mono ?_⟩;rintro _ C ⟨rfl,n⟩;obtain rfl:J=C:=n.symm;have j:=g.trans O;have R:=k.trans j;have x:=(dh d.num c.den d.ln c.ld).2;have I:=(dh c.num d.den c.ln d.ld).2;refine⟨_,rfl,(DY _ _ _ _ x I (m.ok R) j.wf).mono ?_⟩;rintro _ g5 ⟨rfl,P⟩;have l:=j.trans P;have V:=k.trans l;have G:=OQ (s:=Num.isNeg a) (t:=Num.isNeg b) x I;refine⟨_,_,rfl,⟨(f.ok g).l0,jq _⟩,⟨(f.ok g).l0,jq _⟩,⟨(f.ok j).l0,jq _⟩,⟨(f.ok j).l0,jq _⟩,⟨(e.ok i).l0,jq _⟩,⟨(e.ok g).l0,jq _⟩,⟨(e.ok j).l0,jq _⟩,⟨(e.ok j).l0,jq _⟩,⟨(e.ok i).l1,kQ _⟩,⟨(e.ok g).l1,kQ _⟩,⟨(f.ok i).l2,kQ _⟩,⟨(f.ok g).l2,kQ _⟩,_,lX _,_,(f.ok l).l2,_,lX _,_,(e.ok l).l2,(mL _ _ (m.ok V) l.wf).mono ?_⟩;rintro _ U ⟨rfl,L⟩;rw[(dh d.den c.den d.ld c.ld).1];refine⟨_,_,rfl,(fw _ _).mono ?_⟩;rintro _ E ⟨rfl,n⟩;obtain rfl:U=E:=n.symm;have r:=l.trans L;have A:=k.trans r;have F:=pY (dh d.den c.den d.ld c.ld).2;rw[<-B]at G;rw[<-M,<-B,<-q];rw[<-q]at F;refine⟨_,rfl,(Gw s G F (by rw[q];exact mul_pos d.den_pos c.den_pos) Q S (m.ok A) r.wf).mono ?_⟩;rintro _ g7 ⟨rfl,H⟩;exact⟨_,rfl,Ci w (cs0:=[.bool false,strOf [],strOf []]) rfl ((r.trans H).ext _ _ X) z (A.trans H) _ _ _ (λZ o=>⟨rfl,o⟩)⟩
theorem Nk(g:gR a)(f:gR b)(p:nW h)(w:Wf h){N D:Nat}{s:Bool}(I:s=(Num.isNeg a !=Num.isNeg b))(B:N=Num.val (Num.numOf a)*Num.val (Num.numOf b))(m:D=Num.val (ak a)*Num.val (ak b))
  (K:(ag (N/Nat.gcd N D)).length<=400) (M:(ag (D/Nat.gcd N D)).length<=400):
  FW SS 146 [YY a,YY b] h (λv n=>v=sj (s&&decide (N≠0)) (ag (N/Nat.gcd N D)) (ag (D/Nat.gcd N D))/\Ok h n):=by
 obtain⟨l,e,c,R⟩:=ac4 w (.cells [.bool (Num.isNeg a),strOf (Num.numOf a),strOf (ak a)] 155 0 true) (.cells [.bool (Num.isNeg b),strOf (Num.numOf b),strOf (ak b)] 155 0 true) rk;refine Nj _ _ _ _ _ _ h _ ⟨_,JI _ _ _,_,JI _ _ _,_,vT,?_⟩;have y:h.next<=((h.push (.cells [.bool (Num.isNeg a),strOf (Num.numOf a),strOf (ak a)] 155 0 true)).push (.cells [.bool (Num.isNeg b),strOf (Num.numOf b),strOf (ak b)] 155 0 true)).next:=Nat.le_trans (le_succ _) (le_succ _);generalize (((h.push (.cells [.bool (Num.isNeg a),strOf (Num.numOf a),strOf (ak a)] 155 0 true)).push (.cells [.bool (Num.isNeg b),strOf (Num.numOf b),strOf (ak b)] 155 0 true)).push rk)=k at*;generalize ((h.push (.cells [.bool (Num.isNeg a),strOf (Num.numOf a),strOf (ak a)] 155 0 true)).push (.cells [.bool (Num.isNeg b),strOf (Num.numOf b),strOf (ak b)] 155 0 true)).next=V at*;generalize (h.push (.cells [.bool (Num.isNeg a),strOf (Num.numOf a),strOf (ak a)] 155 0 true)).next=G at*;have e:jt k h.next (Num.isNeg a) (Num.numOf a) (ak a):=e;have c:jt k G (Num.isNeg b) (Num.numOf b) (ak b):=c;have i:Ok k (Go.Ab.room k 23):=(Ok.refl l.wf).room 23;refine⟨_,rV _,_,(e.ok i).l0,_,rV _,_,(c.ok i).l0,_,pU _,_,(e.ok i).l1,_,pU _,_,(c.ok i).l1,(mL _ _ (p.ok (l.trans i)) i.wf).mono ?_⟩;rintro _ S ⟨rfl,O⟩;rw[(dh g.num f.num g.ln f.ln).1];refine⟨_,_,rfl,(fw _ _).mono ?_⟩;rintro _ x ⟨rfl,q⟩;obtain rfl:S=x:=q.symm;have d:=i.trans O;have r:=l.trans d;refine⟨_,rfl,_,lX _,_,(e.ok d).l2,_,lX _,_,(c.ok d).l2,(mL _ _ (p.ok r) d.wf).mono ?_⟩;rintro _ F ⟨rfl,J⟩;rw[(dh g.den f.den g.ld f.ld).1];refine⟨_,_,rfl,(fw _ _).mono ?_⟩;rintro _ C ⟨rfl,q⟩;obtain rfl:F=C:=q.symm;have j:=d.trans J;have A:=l.trans j;have t:=pY (dh g.num f.num g.ln f.ln).2;have E:=pY (dh g.den f.den g.ld f.ld).2;have L:(!(Num.isNeg a==Num.isNeg b))=s:=by rw[I];rfl
 rw[L];rw[<-B,<-m];rw[<-B]at t;rw[<-m]at E;refine⟨_,rfl,(Gw s t E (by rw[m];exact mul_pos g.den_pos f.den_pos) K M (p.ok A) j.wf).mono ?_⟩;rintro _ U ⟨rfl,z⟩;obtain⟨u,P,H⟩:=Ci w (cs0:=[.bool false,strOf [],strOf []]) rfl ((j.trans z).ext _ _ R) y (A.trans z) (s&&decide (N≠0)) (ag (N/Nat.gcd N D)) (ag (D/Nat.gcd N D)) (Q:=λv n=>v=sj (s&&decide (N≠0)) (ag (N/Nat.gcd N D)) (ag (D/Nat.gcd N D))/\Ok h n) (λT o=>⟨rfl,o⟩);exact⟨_,rfl,u,P,⟨(e.ok d).l0,jq _⟩,⟨(e.ok d).l0,jq _⟩,⟨(e.ok j).l0,jq _⟩,⟨(e.ok j).l0,jq _⟩,⟨(c.ok d).l0,jq _⟩,⟨(c.ok d).l0,jq _⟩,⟨(c.ok j).l0,jq _⟩,⟨(c.ok j).l0,jq _⟩,⟨(e.ok i).l2,kQ _⟩,⟨(e.ok d).l2,kQ _⟩,⟨(c.ok i).l2,kQ _⟩,⟨(c.ok d).l2,kQ _⟩,H⟩
end
end
section
noncomputable def ab6:TypeDesc:=(SS.P.underlying 158).getD .bool
theorem ad0:SS.P.underlying 158=some ab6:=by kernel_rfl
theorem acr:Go.Ab.isAgg SS.P 158=false:=by kernel_rfl
theorem ade(f:Nat):eL SS.P 158 (pa f)=some (.cells [pa f] 158 0 true,lk):=by kernel_rfl
section
variable {a b:List UInt8} {h:ae} {s:Bool} {n d f k1 k2 k3:Nat}
theorem TC(w:Wf h)(r:h.get k1=some (.cells [pa f] 158 0 true))(p:jt h k2 (Num.isNeg a) (Num.numOf a) (ak a))(t:jt h k3 (Num.isNeg b) (Num.numOf b) (ak b))(m:Nat.blt f YB=true)
  (l:∀j,Ok h j->FW SS f [YY a,YY b] j (λv g=>v=sj s (ag n) (ag d)/\Ok j g)):FW SS 167 [pA k1,pA k2,pA k3] h (λv g=>v=sj s (ag n) (ag d)/\Ok h g):=by
 have c:=(Ok.refl w).push rk;have q:=cq ad0 acr (c.ext _ _ r) (i:=0) (by simp);refine KN k1 k2 k3 h _ ⟨_,vT,f,[],[],q,_,Kh (p.ok c),_,Kh (t.ok c),aa (λ_=>(l _ c).mono ?_) (λe=>by rw[m]at e;cases e)⟩;rintro _ x ⟨rfl,k⟩;exact⟨_,rfl,Ci w (cs0:=[.bool false,strOf [],strOf []]) rfl (k.ext _ _ (aO h _)) (Nat.le_refl _) (c.trans k) _ _ _ (λu o=>⟨rfl,o⟩)⟩
theorem KF{a:List UInt8}(b:aA a=true):su a = .tuple ⟨[YY a,.bool true]⟩:=by unfold su;rw[if_pos b]
theorem Ot(t:aA a=true)(q:aA b=true)(u:nW h)(w:Wf h)(F:s=true->n≠0)(z:(ag n).length<=400)(J:(ag d).length<=400)(H:Nat.blt f YB=true)
  (A:∀j,Ok h j->FW SS f [YY a,YY b] j (λv r=>v=sj s (ag n) (ag d)/\Ok j r)):FW SS 139 [strOf a,strOf b,pa f] h (oQ h (some (cN s n d))):=by
 have M:=l8 t;have N:=l8 q;have l:=(Ok.refl w).push (.cells [pa f] 158 0 true);refine Ni a b f [] [] h _ ⟨_,ade f,(nw a (by omega) (u.ok l) l.wf).mono ?_⟩;rintro _ K ⟨rfl,p⟩;rw[KF t];obtain⟨E,I,m,D⟩:=DQ p.wf (Num.isNeg a) (Num.numOf a) (ak a);have k2:=(l.trans p).trans m;refine⟨_,_,rfl,_,vT,E,I,(nw b (by omega) (u.ok k2) m.wf).mono ?_⟩;rintro _ O ⟨rfl,k⟩;rw[KF q];obtain⟨x,C,i,y⟩:=DQ k.wf (Num.isNeg b) (Num.numOf b) (ak b);have k3:=(k2.trans k).trans i;have B:=(((p.trans m).trans k).trans i).ext _ _ (aO h (.cells [pa f] 158 0 true));refine⟨_,_,rfl,_,vT,x,C,aa (λe=>by cases e) (λ_=>aa (λe=>by cases e) (λ_=>?_))⟩;refine(acg (g:=167) (fa:=[]) (by decide +kernel) F z J i.wf (λj c=>TC c.wf (c.ext _ _ B) (((D.ok k).ok i).ok c) (y.ok c) H (λr o=>A _ ((k3.trans c).trans o)))).mono ?_;rintro _ L ⟨rfl,G⟩;exact jm (k3.trans G)
theorem Rh{c:List UInt8}(l:aA a=true)(d:aA b=true)(p:qp a b=some c)(m:nW h)(w:Wf h):FW SS 107 [strOf a,strOf b] h (oQ h (some c)):=by
 have j:=aZ.1 l;have i:=aZ.1 d;obtain⟨e,k,rfl,n⟩:=Gz (mul_pos j.den_pos i.den_pos) p;refine Rg a b h _ ((Ot (f:=140) l d m w n e k (by decide +kernel) (λq o=>Ng j i (m.ok o) o.wf rfl rfl rfl e k)).mono ?_);rintro _ g ⟨rfl,o⟩;exact jm o
theorem Rm{c:List UInt8}(l:aA a=true)(d:aA b=true)(p:CK a b=some c)(m:nW h)(w:Wf h):FW SS 111 [strOf a,strOf b] h (oQ h (some c)):=by
 have j:=aZ.1 l;have i:=aZ.1 d;obtain⟨e,k,rfl,n⟩:=Gz (mul_pos j.den_pos i.den_pos) p;refine Rl a b h _ ((Ot (f:=146) l d m w n e k (by decide +kernel) (λq o=>Nk j i (m.ok o) o.wf rfl rfl rfl e k)).mono ?_);rintro _ g ⟨rfl,o⟩;exact jm o
theorem RT(c:a.length<=1000000000)(d:nW h)(w:Wf h):FW SS 113 [strOf a] h (λv g=>v = .bool (aA a&&decide (0<=da a [48]))/\Ok h g):=by
 refine RS a h _ ((qc a c d w).mono ?_);rintro _ i ⟨rfl,b⟩;refine⟨_,rfl,aa (λq=>(Gu a [48] c (by simp) (d.ok b) b.wf).mono ?_) (λq=>⟨by rw[q];rfl,b⟩)⟩;rintro _ f ⟨rfl,e⟩;refine⟨_,rfl,?_,b.trans e⟩;rw[q,Bool.true_and]
end
theorem abq(k:Nat):aE SS.P 99 (pA k) 0=some (.pointer (some ⟨k,0,none⟩)):=by kernel_rfl
theorem abt(k:Nat):aE SS.P 99 (pA k) 2=some (.pointer (some ⟨k,2,none⟩)):=by kernel_rfl
theorem abu(k:Nat):aE SS.P 99 (pA k) 4=some (.pointer (some ⟨k,4,none⟩)):=by kernel_rfl
theorem TX(k:Nat):aE SS.P 99 (pA k) 6=some (.pointer (some ⟨k,6,none⟩)):=by kernel_rfl
noncomputable def ad9:TypeDesc:=(SS.P.underlying 95).getD .bool
theorem afk:SS.P.underlying 95=some ad9:=by kernel_rfl
theorem aes:Go.Ab.isAgg SS.P 95=false:=by kernel_rfl
theorem aeG(a b:List UInt8)(l:Bool)(f c g d e:Nat):eL SS.P 99 (.agg ⟨[strOf a,strOf b,.bool l,pa f,pa c,pa g,pa d,pa e]⟩)=some (.cells [strOf a,strOf b,.bool l,pa f,pa c,pa g,pa d,pa e] 99 0 true,lk):=by kernel_rfl
def Bp(kind:Int):List Value:=if kind=1 then yU else if kind=2 then yW else yX
theorem K1{kind:Int}(d:1<=kind/\kind<=3):∃b c a:Nat,Bp kind=[strOf (bE kind),strOf (qN kind),.bool (kind==1),pa b,pa (if kind=1 then 107 else 111),pa c,pa (if kind=1 then 109 else 113),pa a]:=by
 have:kind=1\/kind=2\/kind=3:=by omega
 rcases this with rfl|rfl|rfl
 ·exact⟨106,108,109,rfl⟩
 ·exact⟨110,112,114,rfl⟩
 ·exact⟨106,115,114,rfl⟩
theorem abE{kind:Int}(a:1<=kind/\kind<=3):Y2 kind = .tuple ⟨[.agg ⟨Bp kind⟩,.bool true]⟩:=by
 have:kind=1\/kind=2\/kind=3:=by omega
 rcases this with rfl|rfl|rfl<;>rfl
section
variable {kind:Int} {a b:List UInt8} {h:ae}
theorem K0(p:1<=kind/\kind<=3)(o:a.length<=1000000000)(s:nW h)(w:Wf h):FW SS 104 [.agg ⟨Bp kind⟩,strOf a] h (λv g=>v = .bool (aM kind a)/\Ok h g):=by
 obtain⟨y,z,u,G⟩:=K1 p;rw[G];have m:aM kind a=(a==[105,110,102]||a==[45,105,110,102]&&kind==1||aA a&&(kind==1||decide (0<=da a [48]))):=by
  unfold aM;rw[decide_eq_true p,Bool.true_and]
 have d:=(Ok.refl w).push (.cells [strOf (bE kind),strOf (qN kind),.bool (kind==1),pa y,pa (if kind=1 then 107 else 111),pa z,pa (if kind=1 then 109 else 113),pa u] 99 0 true);have t:=aO h (.cells [strOf (bE kind),strOf (qN kind),.bool (kind==1),pa y,pa (if kind=1 then 107 else 111),pa z,pa (if kind=1 then 109 else 113),pa u] 99 0 true);have F:=cq un4 ag4 t (i:=2) (by simp);have r:=cq aea acw t (i:=6) (by simp);have call:∀k,Ok h k->a≠[105,110,102]->(a==[45,105,110,102]&&kind==1)=false->au (Nat.blt (if kind=1 then 109 else 113) YB) (FW SS (if kind=1 then 109 else 113) ([]++[strOf a]++[]) k λE x=>yB E λn=>(.bool n:Value) = .bool (aM kind a)/\Ok h x) False:=by
  intro k b A D;have B:aM kind a=(aA a&&(kind==1||decide (0<=da a [48]))):=by
   rw[m,D,Bool.or_false];have:(a==[105,110,102])=false:=by simpa using A
   rw[this,Bool.false_or]
  rw[B];by_cases c:kind=1
  ·subst c;refine aa (λ_=>(qc a o (s.ok b) b.wf).mono ?_) (λe=>by revert e;decide +kernel);rintro _ C ⟨rfl,l⟩;exact⟨_,rfl,by simp,b.trans l⟩
  ·rw[if_neg c];refine aa (λ_=>(RT o (s.ok b) b.wf).mono ?_) (λe=>by revert e;decide +kernel);rintro _ C ⟨rfl,l⟩;refine⟨_,rfl,?_,b.trans l⟩;have:(kind==1)=false:=by simpa using c
   rw[this,Bool.false_or]
 refine VI _ a h _ ⟨_,aeG _ _ _ _ _ _ _ _,aa (λq=>⟨by rw[m,q];rfl,d⟩) (λq=>aa (λj=>⟨_,abt _,_,F,aa (λf=>⟨?_,d⟩) (λf=>?_)⟩) (λj=>?_))⟩
 ·rw[m,j,f];simp
 ·refine⟨_,TX _,_,[],[],r,call _ d (cd q) (by rw[f,Bool.and_false])⟩
 ·exact⟨_,TX _,_,[],[],r,call _ d (cd q) (by rw[j,Bool.false_and])⟩
theorem ac8(a b c:List UInt8):bd SS.P 131 [(0,strOf a),(1,strOf b),(2,strOf c)]=some (.agg ⟨[strOf a,strOf b,strOf c]⟩):=by kernel_rfl
theorem YL(a b c:List UInt8):bP SS.P 131 (.agg ⟨[strOf a,strOf b,strOf c]⟩) (iA 0)=some (strOf a):=by kernel_rfl
theorem YM(a b c:List UInt8):bP SS.P 131 (.agg ⟨[strOf a,strOf b,strOf c]⟩) (iA 1)=some (strOf b):=by kernel_rfl
theorem YN(a b c:List UInt8):bP SS.P 131 (.agg ⟨[strOf a,strOf b,strOf c]⟩) (iA 2)=some (strOf c):=by kernel_rfl
theorem Lb{c:List UInt8}(t:aM kind a=true)(D:aM kind b=true)(d:dg kind a b=some c)(x:nW h)(w:Wf h):FW SS 86 [.int .i64 kind,strOf a,strOf b] h (oQ h (some c)):=by
 have v:1<=kind/\kind<=3:=by have:=gL t;omega
 have W:=qi t;have Y:=qi D;refine La kind a b h _ ((D8 kind w).mono ?_);rintro _ r ⟨rfl,E⟩;rw[abE v];obtain⟨f1,f3,X,y⟩:=K1 v;have F:(Bp kind).length=8:=by rw[y];rfl
 have O:(Bp kind).all dQ=true:=by rw[y];rfl
 refine⟨_,_,rfl,_,S0,_,kZ Ej rfl (aO r LD) F O,?_⟩;obtain⟨H,k2⟩:=px (cs:=Bp kind) E.wf ((Ok.refl E.wf).push LD) (aO r LD) (Nat.le_refl _);generalize (dP.set r.next (.cells (Bp kind) 99 0 true)).app (r.push LD)=P at*;have B:=E.trans H;have z:∀g,Ok P g->aj SS.P 99 g (pA r.next)=some (.agg ⟨Bp kind⟩):=λg o=>by
  rw[pk aec acx Ej (o.ext _ _ k2) (by omega),drop_zero,take_of_length_le (by omega)]
 refine aa (λe=>by cases e) (λ_=>⟨_,z _ (Ok.refl H.wf),(K0 v (by omega) (x.ok B) H.wf).mono ?_⟩);rintro _ Z ⟨rfl,u⟩;have A:=B.trans u;refine⟨_,rfl,aa (λe=>by rw[t]at e;cases e) (λ_=>⟨_,z _ u,(K0 v (by omega) (x.ok A) u.wf).mono ?_⟩)⟩;rintro _ Q ⟨rfl,s⟩;have f:=A.trans s;have C:=u.trans s;have N:=cq LJ Su (C.ext _ _ k2) (i:=0) (by omega);rw[y]at N;have M:=cq afk aes (C.ext _ _ k2) (i:=4) (by omega);rw[y]at M;refine⟨_,rfl,aa (λe=>by rw[D]at e;cases e) (λ_=>⟨_,abq _,_,N,_,ac8 _ _ _,?_⟩)⟩;unfold dg at d;refine vN kind a b r.next [strOf (bE kind),strOf [105,110,102],strOf [45,105,110,102]] (λJ i g=>i<=3/\J=3-i/\g=Q/\(1<=i->a≠bE kind/\b≠bE kind)/\(2<=i->a≠di/\b≠di)/\(3<=i->a≠iq/\b≠iq)) _ (λJ i=>?_) 3 (i:=0) ⟨by omega,rfl,rfl,λe=>by omega,λe=>by omega,λe=>by omega⟩;intros;rename_i g I;obtain⟨U,V,rfl,j,m,p⟩:=I;refine aa (λq=>?_) (λq=>?_)
 ·have S:i=0\/i=1\/i=2:=by have:=dT q;omega
  have R:wrap .i64 ((i:Int)+1)=((i+1:Nat):Int):=aP (n:=3) (by omega) (by omega);rw[R];rcases S with rfl|rfl|rfl
  ·refine⟨_,YL _ _ _,aa (λl=>⟨?_,f⟩) (λl=>aa (λk=>⟨?_,f⟩) (λk=>?_))⟩
   ·rw[if_pos (.inl (cn l))]at d;rw[<-d];rfl
   ·rw[if_pos (.inr (cn k))]at d;rw[<-d];rfl
   ·exact bZ 2 (by omega) ⟨by omega,rfl,rfl,λ_=>⟨cd l,cd k⟩,λe=>by omega,λe=>by omega⟩
  ·have j:=j (by omega);rw[if_neg (λe=>e.elim j.1 j.2)]at d;refine⟨_,YM _ _ _,aa (λl=>⟨?_,f⟩) (λl=>aa (λk=>⟨?_,f⟩) (λk=>?_))⟩
   ·rw[if_pos (.inl (cn l))]at d;rw[<-d];rfl
   ·rw[if_pos (.inr (cn k))]at d;rw[<-d];rfl
   ·exact bZ 1 (by omega) ⟨by omega,rfl,rfl,λ_=>j,λe=>⟨cd l,cd k⟩,λe=>by omega⟩
  ·have j:=j (by omega);have m:=m (by omega);rw[if_neg (λe=>e.elim j.1 j.2),if_neg (λe=>e.elim m.1 m.2)]at d;refine⟨_,YN _ _ _,aa (λl=>⟨?_,f⟩) (λl=>aa (λk=>⟨?_,f⟩) (λk=>?_))⟩
   ·rw[if_pos (.inl (cn l))]at d;rw[<-d];rfl
   ·rw[if_pos (.inr (cn k))]at d;rw[<-d];rfl
   ·exact bZ 0 (by omega) ⟨by omega,rfl,rfl,λ_=>j,λ_=>m,λ_=>⟨cd l,cd k⟩⟩
 ·obtain rfl:i=3:=by have:=dF q;omega
  have j:=j (by omega);have m:=m (by omega);have p:=p (by omega);rw[if_neg (λe=>e.elim j.1 j.2),if_neg (λe=>e.elim m.1 m.2),if_neg (λe=>e.elim p.1 p.2)]at d;have L:=lr t m.1 (.inr p.1);have K:=lr D m.2 (.inr p.2);refine⟨_,abu _,_,[],[],M,?_⟩;by_cases c:kind=1
  ·rw[if_pos c]at d⊢;refine aa (λ_=>(Rh L K d (x.ok f) s.wf).mono ?_) (λe=>by revert e;decide +kernel);rintro _ T ⟨rfl,G⟩;exact jm (f.trans G)
  ·rw[if_neg c]at d⊢;refine aa (λ_=>(Rm L K d (x.ok f) s.wf).mono ?_) (λe=>by revert e;decide +kernel);rintro _ T ⟨rfl,G⟩;exact jm (f.trans G)
end
end
noncomputable def VP:FD:=cF Tryz.f181 []
theorem RM(i:Nat)(c:LB)(h:ae)(Q:VH)(j:fP 136 (pA i) 1 λg=>lB h g λf=>au f (fP 136 (pA i) 0 λe=>lI h e λd=>FW SS 18 [(.int .i64 d)] h λb c=>yS b λa=>Q (strOf a) c) (Q (strOf c) h)):FW SS 181 [(pA i),(strOf c)] h Q:=cI VP Tryz.func181 (ai j)
noncomputable def Zw:FD:=cF Tryz.f158 []
theorem VQ(n:Nat)(a b:LB)(h:ae)(Q:VH)(o:fP 136 (pA n) 0 λm=>lI h m λl=>FW SS 62 [(.int .i64 l),(strOf a),(strOf b)] h λj k=>∃i:LB,∃h:Int,j=(.tuple ⟨[(strOf i),(.int .i64 h)]⟩)/\fP 136 (pA n) 1 λg=>lB k g λf=>au f (fP 136 (pA n) 1 λe=>xU (ah SS.P 4 (.pointer (some e)) (.bool true) k) k λ_ d=>FW SS 181 [(pA n),(strOf i)] d λb c=>yS b λa=>Q (strOf a) c) (fP 136 (pA n) 1 λe=>xU (ah SS.P 4 (.pointer (some e)) (.bool (((h:Int) !=0))) k) k λ_ d=>FW SS 181 [(pA n),(strOf i)] d λb c=>yS b λa=>Q (strOf a) c)):FW SS 158 [(pA n),(strOf a),(strOf b)] h Q:=cI Zw Tryz.func158 (ai o)
noncomputable def VU:FD:=cF Tryz.f159 []
theorem RO(n:Nat)(a b:LB)(h:ae)(Q:VH)(o:fP 136 (pA n) 0 λm=>lI h m λl=>FW SS 65 [(.int .i64 l),(strOf a),(strOf b)] h λj k=>∃i:LB,∃h:Int,j=(.tuple ⟨[(strOf i),(.int .i64 h)]⟩)/\fP 136 (pA n) 1 λg=>lB k g λf=>au f (fP 136 (pA n) 1 λe=>xU (ah SS.P 4 (.pointer (some e)) (.bool true) k) k λ_ d=>FW SS 181 [(pA n),(strOf i)] d λb c=>yS b λa=>Q (strOf a) c) (fP 136 (pA n) 1 λe=>xU (ah SS.P 4 (.pointer (some e)) (.bool (((h:Int) !=0))) k) k λ_ d=>FW SS 181 [(pA n),(strOf i)] d λb c=>yS b λa=>Q (strOf a) c)):FW SS 159 [(pA n),(strOf a),(strOf b)] h Q:=cI VU Tryz.func159 (ai o)
noncomputable def Zx:FD:=cF Tryz.f157 []
theorem VR(n:Nat)(a:LB)(h:ae)(Q:VH)(o:fP 136 (pA n) 0 λm=>lI h m λl=>FW SS 67 [(.int .i64 l),(strOf a)] h λj k=>∃i:LB,∃h:Int,j=(.tuple ⟨[(strOf i),(.int .i64 h)]⟩)/\fP 136 (pA n) 1 λg=>lB k g λf=>au f (fP 136 (pA n) 1 λe=>xU (ah SS.P 4 (.pointer (some e)) (.bool true) k) k λ_ d=>FW SS 181 [(pA n),(strOf i)] d λb c=>yS b λa=>Q (strOf a) c) (fP 136 (pA n) 1 λe=>xU (ah SS.P 4 (.pointer (some e)) (.bool (((h:Int) !=0))) k) k λ_ d=>FW SS 181 [(pA n),(strOf i)] d λb c=>yS b λa=>Q (strOf a) c)):FW SS 157 [(pA n),(strOf a)] h Q:=cI Zx Tryz.func157 (ai o)
noncomputable def nt:FD:=cF Tryz.f123 [([1,1,0,1,0,0],[0,1,4,5]),([1,1,0,1,0,0,1,0,0,1,1,0,0],[0,1,4,5,6])]
abbrev lF(b:Int)(a:OA)(n c:Nat)(i:Nat):LV:=[(.int .i64 b),(.slice a n c),(.bool false),(iA i)]
abbrev pZ(b:Int)(a:OA)(n c i:Nat)(j:Nat):LV:=[(.int .i64 b),(.slice a n c),(.bool false),(iA i),(iA j)]
theorem abA(f:Int)(a:OA)(n c:Nat)(h:ae)(Q:VH)(g:FW SS 14 [(.int .i64 f)] h λd e=>yB d λb=>au (!b) (Q (.bool false) e) (LL SS nt [1,1,0,1,0,0] (lF f a n c 0) e (KK SS nt [1,1,0,1,0] [] (EE SS nt Q)))):FW SS 123 [(.int .i64 f),(.slice a n c)] h Q:=cI nt Tryz.func123 (ai g)
theorem DG(e:Int)(a:OA)(n c:Nat)  (g:Nat->Nat->ae->Prop) (Q:VH) (step:∀(f:Nat)(i:Nat)(k:Nat->Value)(h:ae),g f i h->au (decide (((i:Int):Int)<(n:Int))) (iP 103 (.slice a n c) (iA i) λd=>lL 107 h d λ_ b _=>au ((((b:Int):Int) !=(n:Int))) (Q (.bool false) h) (LL SS nt [1,1,0,1,0,0,1,0,0,1,1,0,0] (pZ e a n c i 0) h (KK SS nt [1,0,0,1,1,0] [1,1,0,1,0,0] (RR nt [1,1,0,1,0,0] (fs (lF e a n c) g) f (KK SS nt [1,1,0,1,0] [] (EE SS nt Q)))))) (Q (.bool true) h)) (f:Nat) {i:Nat} {h:ae} (j:g f i h):LL SS nt [1,1,0,1,0,0] (lF e a n c i) h (KK SS nt [1,1,0,1,0] [] (EE SS nt Q)):=
 dc (lF e a n c) g (λf i k h j=>ai (step f i k h j)) f j
theorem DH(p:Int)(a:OA)(n c:Nat)(s:Nat->Nat->ae->Prop)(u i:Nat)(r:Nat->Nat->ae->Prop)(Q:VH)(step:∀(q:Nat) (j:Nat) (v:Nat->Value) (h:ae),r q j h->au (decide (((j:Int):Int)<(n:Int))) (iP 103 (.slice a n c) (iA i) λo=>lL 107 h o λk l m=>iP 107 (.slice k l m) (iA j) λg=>lS h g λf=>FW SS 47 [(.int .i64 p),(strOf f)] h λd e=>yB d λb=>au (!b) (Q (.bool false) e) (aJ (fs (pZ p a n c i) r) q [(.int .i64 p),(.slice a n c),(.bool false),(iA i),(.int .i64 (wrap .i64 ((j:Int)+1)))] e)) (aJ (fs (lF p a n c) s) u [(.int .i64 p),(.slice a n c),(.bool false),(.int .i64 (wrap .i64 ((i:Int)+1)))] h))(q:Nat){j:Nat}{h:ae}(t:r q j h):LL SS nt [1,1,0,1,0,0,1,0,0,1,1,0,0] (pZ p a n c i j) h (KK SS nt [1,0,0,1,1,0] [1,1,0,1,0,0] (RR nt [1,1,0,1,0,0] (fs (lF p a n c) s) u (KK SS nt [1,1,0,1,0] [] (EE SS nt Q)))):=
 dc (pZ p a n c i) r (λq j v h t=>ai (step q j v h t)) q t
noncomputable def nB:FD:=cF Tryz.f156 [([1,1,0,1,0,0],[0,1,5,6]),([1,1,0,1,0,0,1,0,0,1,0,0],[0,1,5,6,7])]
abbrev lN(a:Int)(n b:Nat)(i:Nat):LV:=[(.int .i64 a),(iA n),(sA b n n),(iA i)]
abbrev qk(a:Int)(n b i:Nat)(j:Nat):LV:=[(.int .i64 a),(iA n),(sA b n n),(iA i),(iA j)]
theorem ach(d:Int)(n:Nat)(h:ae)(Q:VH)(e:xR (ch SS.P 103 (iA n) (iA n)) h λ_ a b c=>LL SS nB [1,1,0,1,0,0] [(.int .i64 d),(iA n),(sA (h.next) a b),(.int .i64 0)] c (KK SS nB [1,1,0,1,0] [] (EE SS nB Q))):FW SS 156 [(.int .i64 d),(iA n)] h Q:=cI nB Tryz.func156 (ai e)
theorem EJ(a:Int)(n:Nat)(d:Nat)(c:Nat->Nat->ae->Prop)(Q:VH)(step:∀(b:Nat) (i:Nat) (f:Nat->Value) (h:ae),c b i h->au (decide (((i:Int):Int)<(n:Int))) (LL SS nB [1,1,0,1,0,0,1,0,0,1,0,0] (qk a n d i 0) h (KK SS nB [1,0,0,1,0] [1,1,0,1,0,0] (RR nB [1,1,0,1,0,0] (fs (lN a n d) c) b (KK SS nB [1,1,0,1,0] [] (EE SS nB Q))))) (Q (sA d n n) h))(b:Nat){i:Nat}{h:ae}(e:c b i h):LL SS nB [1,1,0,1,0,0] (lN a n d i) h (KK SS nB [1,1,0,1,0] [] (EE SS nB Q)):=
 dc (lN a n d) c (λb i f h e=>ai (step b i f h e)) b e
theorem EK(u:Int)(n:Nat)(w:Nat)(y:Nat->Nat->ae->Prop)(A i:Nat)(x:Nat->Nat->ae->Prop)(Q:VH)(step:∀(v:Nat) (j:Nat) (B:Nat->Value) (h:ae),x v j h->au (decide (((j:Int):Int)<(n:Int))) (iP 103 (sA w n n) (iA i) λt=>lL 107 (room h 12) t λq r s=>FW SS 18 [(.int .i64 u)] (room h 12) λo p=>yS o λm=>zR (aI SS.P 107 1 [(0,(strOf m))]) λg k l=>xE (bH SS.P 107 107 (.slice q r s) (sA (h.next+8) k l) (cj p h.next [(8,g)])) (cj p h.next [(8,g)]) λc d e _ f=>iP 103 (sA w n n) (iA i) λb=>xU (ah SS.P 107 (.pointer (some b)) (.slice c d e) f) f λ_ a=>(aj SS.P 107 p (.pointer (some t))=some (.slice q r s)/\dG 4 (.slice q r s) (.slice q r s)=true)/\aJ (fs (qk u n w i) x) v [(.int .i64 u),(iA n),(sA w n n),(iA i),(.int .i64 (wrap .i64 ((j:Int)+1)))] a) (aJ (fs (lN u n w) y) A [(.int .i64 u),(iA n),(sA w n n),(.int .i64 (wrap .i64 ((i:Int)+1)))] h))(v:Nat){j:Nat}{h:ae}(z:x v j h):LL SS nB [1,1,0,1,0,0,1,0,0,1,0,0] (qk u n w i j) h (KK SS nB [1,0,0,1,0] [1,1,0,1,0,0] (RR nB [1,1,0,1,0,0] (fs (lN u n w) y) A (KK SS nB [1,1,0,1,0] [] (EE SS nB Q)))):=
 dc (qk u n w i) x (λv j B h z=>ai (step v j B h z)) v z
section
theorem dj(s:dx)(l:List dx):cg (s::l)=s.arcs.length+cg l:=by simp[cg]
theorem DF{s:dx}:∀{l:List dx},s∈l->s.arcs.length<=cg l
 |x::l,h=>by
  rw[dj];rcases mem_cons.1 h with rfl|h
  ·omega
  ·have:=DF h;omega
theorem O5{B:Nat}:∀{l:List dx},(∀s∈l,s.arcs.length<=B)->cg l<=l.length*B
 |[],_=>by simp[cg]
 |x::l,h=>by
  rw[dj,List.length_cons,Nat.add_mul,Nat.one_mul];have b:=h x (List.mem_cons_self ..);have c:=O5 (l:=l) λs a=>h s (List.mem_cons_of_mem _ a);omega
def Bnd(M:bp):Prop:=∀s∈M.af,s.arcs.length<=281474976710656
section
variable {h:ae} {k:Nat} {M:bp} {a:Option Addr} {n c:Nat}
theorem Vn(w:Wf h)(D:Bnd M)(t:M.af.length<=300)(r:dy h (.slice a n c) M.af):FW SS 56 [.agg ⟨bK M a n c⟩] h (λv E=>v = .int .i64 (cg M.af:Nat)/\Ok h E):=by
 obtain⟨x,I⟩:=fv w r;refine Vm (bK M a n c) h _ ⟨_,iS M a n c,?_⟩;generalize h.push (Bm M a n c)=g at*;have J:=x.len;have C:=O5 D;have u:M.af.length*281474976710656<=300*281474976710656:=Nat.mul_le_mul_right _ t;have P:cg M.af<=300*281474976710656:=Nat.le_trans C u;refine Ap (bK M a n c) h.next (λm i f p=>i<=n/\m=n-i/\MB p h.next M a n c/\Ok h p/\∃j:Nat,f=(j:Int)/\j+cg (M.af.drop i)=cg M.af) (iQ h (cg M.af:Nat)) (λm i f=>?_) n (i:=0) (acc:=0) ⟨by omega,rfl,x,I,0,rfl,by rw[drop_zero];omega⟩;intros;rename_i N H;obtain⟨R,O,d,l,j,rfl,k⟩:=H;refine⟨_,cZ _,_,_,_,d.l3,aa (λe=>?_) (λe=>?_)⟩
 ·have e:=dT e;obtain⟨s,q⟩:∃s,M.af[i]?=some s:=⟨_,gE (by omega)⟩
  obtain⟨b,o,K,y,z,B,Q,L,F,A⟩:=d.row.at_ q;have S:=A.len;rw[fM q,dj]at k;refine⟨_,cZ _,_,_,_,d.l3,_,B,_,iG _ _,_,_,_,F,?_⟩;have G:wrap .i64 ((j:Int)+(y:Int))=((j+y:Nat):Int):=by rw[aB (by omega) (by omega)];omega
  dsimp only;rw[G,aP (i:=i) (n:=n) (by omega) (by omega)];exact gY (m-1) (by omega) ⟨by omega,by omega,d,l,_,rfl,by omega⟩
 ·have e:=dF e;rw[drop_eq_nil_of_le (by omega)]at k;refine⟨?_,l⟩;rw[show cg []=0 from rfl,Nat.add_zero]at k;rw[k]
end
end
theorem AI{a:Int}{N:Nat}:∀{l:List dx}{c:Int},nY a N c l=true->∀s∈l,(s.f==[]||bG a s.f)=true/\∀q∈s.arcs,ic a N q=true
 |[],_,_,s,b=>by cases b
 |x::l,c,h,s,b=>by
  unfold nY at h;simp only[and_eq_true]at h;obtain⟨⟨⟨i,f⟩,d⟩,g⟩:=h;rcases mem_cons.1 b with rfl|b
  ·exact⟨f,λq e=>List.all_eq_true.1 d q e⟩
  ·exact AI g s b
theorem adU:aG SS.P 4=some 1:=by kernel_rfl
section
theorem Eb:SS.P.underlying 107=some (.slice 9):=by kernel_rfl
theorem nX:SS.P.underlying 103=some (.slice 107):=by kernel_rfl
theorem zz9:aG SS.P 9=some 1:=by kernel_rfl
theorem nE:aG SS.P 107=some 1:=by kernel_rfl
theorem Jw:Go.Ab.isAgg SS.P 107=false:=by kernel_rfl
theorem ty:MTy SS.P 103 107:=⟨nX,Eb,LJ,nE,zz9,Jw,Su⟩
theorem oi(k:Nat):aE SS.P 136 (.pointer (some ⟨k,0,none⟩)) 0=some (.pointer (some ⟨k,0,none⟩)):=by kernel_rfl
theorem pT(k:Nat):aE SS.P 136 (.pointer (some ⟨k,0,none⟩)) 1=some (.pointer (some ⟨k,1,none⟩)):=by kernel_rfl
def np(g:ae)(ks:Nat)(kind:Int)(bad:Bool):Prop:=g.get ks=some (.cells [.int .i64 kind,.bool bad] 136 0 true)
section
variable {g g' h:ae} {ks:Nat} {kind:Int} {bad:Bool}
theorem np.l0(s:np g ks kind bad):aj SS.P 3 g (.pointer (some ⟨ks,0,none⟩))=some (.int .i64 kind):=cq G0 FT s (by simp)
theorem np.l1(s:np g ks kind bad):aj SS.P 4 g (.pointer (some ⟨ks,1,none⟩))=some (.bool bad):=cq un4 ag4 s (by simp)
theorem np.st(s:np g ks kind bad)(b:Bool):ah SS.P 4 (.pointer (some ⟨ks,1,none⟩)) (.bool b) g=some (undef,.set ks (.cells [.int .i64 kind,.bool b] 136 0 true)):=jf adU s (by simp) rfl rfl
theorem np.set(w:Wf g)(s:np g ks kind bad)(b:Bool):np ((dP.set ks (.cells [.int .i64 kind,.bool b] 136 0 true)).app g) ks kind b/\zH (λk=>k=ks) g ((dP.set ks (.cells [.int .i64 kind,.bool b] 136 0 true)).app g):=
 ⟨by show(g.set ks _).get ks=_;rw[ae.aw,if_pos rfl],zH.set (X:=λk=>k=ks) w rfl (w _ _ s) _⟩
theorem np.ok(s:np g ks kind bad)(o:Ok g g'):np g' ks kind bad:=o.ext _ _ s
theorem yz{a b c:List UInt8}(d:aM kind a=true)(e:aM kind b=true)(h:eM kind a b=some c):aM kind c=true:=by
 obtain⟨K,S,g,f⟩:=xx (kind:=kind) (by have:=gL d;omega);exact(f.plus d e h).1
theorem AJ{a b c:List UInt8}(d:aM kind a=true)(e:aM kind b=true)(h:dg kind a b=some c):aM kind c=true:=by
 obtain⟨K,S,g,f⟩:=xx (kind:=kind) (by have:=gL d;omega);exact(f.times d e h).1
theorem Wn{a c:List UInt8}(b:aM kind a=true)(h:lR kind a=some c):aM kind c=true:=by
 obtain⟨K,S,e,d⟩:=xx (kind:=kind) (by have:=gL b;omega);exact(d.star b h).1
theorem oD(b:1<=kind/\kind<=3):aM kind (bE kind)=true:=by
 obtain rfl|rfl|rfl:kind=1\/kind=2\/kind=3:=by omega
 ·decide
 ·exact qQ (a:=[48]) (.inl rfl) fz (by rw[jz];exact Rat.le_refl)
 ·exact qQ (a:=[48]) (.inr rfl) fz (by rw[jz];exact Rat.le_refl)
theorem abF(a:1<=kind/\kind<=3):aM kind (qN kind)=true:=by
 obtain rfl|rfl|rfl:kind=1\/kind=2\/kind=3:=by omega
 ·decide
 ·exact qP (.inl rfl)
 ·exact qP (.inr rfl)
theorem RN(b:1<=kind/\kind<=3)(c:List UInt8)(s:np h ks kind bad):FW SS 181 [pA ks,strOf c] h (λv a=>v=strOf (if bad=true then bE kind else c)/\a=h):=by
 refine RM ks c h _ ⟨_,pT _,_,s.l1,aa (λq=>⟨_,oi _,_,s.l0,(fO b h).mono ?_⟩) (λq=>⟨?_,rfl⟩)⟩
 ·rintro _ e ⟨rfl,d⟩;obtain rfl:h=e:=d.symm;exact⟨_,rfl,by rw[if_pos q],rfl⟩
 ·rw[q];rfl
def sQ(g:ae)(ks:Nat)(kind:Int)(bad:Bool)(o:Option (List UInt8)):VH:=λv g'=>∃(a:Bool)(c:List UInt8),v=strOf c/\np g' ks kind a/\zH (λk=>k=ks) g g'/\aM kind c=true/\(a=false->bad=false/\o=some c)/\(a=true->bad=true\/o=none)
theorem VT(x:1<=kind/\kind<=3)(w:Wf g')(s:np g' ks kind bad)(C:Ok g g'){o:Option (List UInt8)}(G:∀c,o=some c->aM kind c=true):∃(m:List UInt8)(u:Int),M7 o=(.tuple ⟨[(strOf m),(.int .i64 u)]⟩)/\xP (aE SS.P 136 (pA ks) 1) λF=>xB (aj SS.P 4 g' (.pointer (some F))) λE=>au E (xP (aE SS.P 136 (pA ks) 1) λH=>xU (ah SS.P 4 (.pointer (some H)) (.bool true) g') g' λI v=>FW SS 181 [(pA ks),(strOf m)] v λd j=>yS d λf=>sQ g ks kind bad o (strOf f) j) (xP (aE SS.P 136 (pA ks) 1) λt=>xU (ah SS.P 4 (.pointer (some t)) (.bool (((u:Int) !=0))) g') g' λJ A=>FW SS 181 [(pA ks),(strOf m)] A λp B=>yS p λn=>sQ g ks kind bad o (strOf n) B):=by
 have a:∀(b:Bool)(l:List UInt8),(b=false->bad=false/\o=some l)->(b=true->bad=true\/o=none)->FW SS 181 [(pA ks),(strOf l)] ((dP.set ks (.cells [.int .i64 kind,.bool b] 136 0 true)).app g') λd j=>yS d λf=>sQ g ks kind bad o (strOf f) j:=λb l i r=>by
  obtain⟨y,D⟩:=s.set w b;refine(RN x l y).mono ?_;rintro _ K ⟨rfl,z⟩;refine⟨_,rfl,b,_,rfl,by rw[z];exact y,by rw[z];exact C.okS.trans D,?_,?_,r⟩
  ·cases b with
   |true=>exact oD x
   |false=>exact G _ (i rfl).2
  ·intro k;refine⟨(i k).1,?_⟩;rw[(i k).2,k];rfl
 cases e:o with
 |some l=>
  refine⟨_,_,rfl,_,pT _,_,s.l1,aa (λq=>⟨_,pT _,_,s.st true,?_⟩) (λq=>⟨_,pT _,_,s.st _,?_⟩)⟩
  ·rw[e]at a;exact a true l (λh=>by cases h) (λ_=> .inl q)
  ·rw[e]at a;exact a false l (λh=>⟨q,rfl⟩) (λh=>by cases h)
 |none=>
  refine⟨_,_,rfl,_,pT _,_,s.l1,aa (λq=>⟨_,pT _,_,s.st true,?_⟩) (λq=>⟨_,pT _,_,s.st _,?_⟩)⟩
  ·rw[e]at a;exact a true [] (λh=>by cases h) (λ_=> .inl q)
  ·rw[e]at a;exact a true [] (λh=>by cases h) (λ_=> .inr rfl)
theorem K4(w:Wf g)(s:np g ks kind bad){a b:List UInt8}(e:aM kind a=true)(f:aM kind b=true):FW SS 158 [pA ks,strOf a,strOf b] g (sQ g ks kind bad (eM kind a b)):=by
 refine VQ ks a b g _ ⟨_,oi _,_,s.l0,(qZ e f w).mono ?_⟩;rintro _ i ⟨rfl,d⟩;exact VT (by have:=gL e;omega) d.wf (s.ok d) d (λc h=>yz e f h)
theorem GH(w:Wf g)(s:np g ks kind bad){a b:List UInt8}(e:aM kind a=true)(f:aM kind b=true):FW SS 159 [pA ks,strOf a,strOf b] g (sQ g ks kind bad (dg kind a b)):=by
 refine RO ks a b g _ ⟨_,oi _,_,s.l0,(wX e f w).mono ?_⟩;rintro _ i ⟨rfl,d⟩;exact VT (by have:=gL e;omega) d.wf (s.ok d) d (λc h=>AJ e f h)
theorem VS(w:Wf g)(s:np g ks kind bad){a:List UInt8}(d:aM kind a=true):FW SS 157 [pA ks,strOf a] g (sQ g ks kind bad (lR kind a)):=by
 refine VR ks a g _ ⟨_,oi _,_,s.l0,(Q8 d w).mono ?_⟩;rintro _ f ⟨rfl,b⟩;exact VT (by have:=gL d;omega) b.wf (s.ok b) b (λc e=>Wn d e)
end
noncomputable def WG:TypeInfo:=(SS.P.info? 107).getD default
theorem WH:SS.P.info? 107=some WG:=by kernel_rfl
theorem NP:WG.size=1:=by kernel_rfl
theorem Lr:WG.bytes=24:=by kernel_rfl
theorem aaf:zeroOf SS.P 107=some nA:=by kernel_rfl
theorem UK(n:Nat)(a:n<=100000):ch SS.P 103 (.int .i64 (n:Int)) (.int .i64 (n:Int))=some (.cells (List.replicate n nA) 107 1 true,mR n n):=by
 unfold ch bW;dsimp only;rw[nX]
 try dsimp only
 change (match SS.P.info? 107,zeroOf SS.P 107 with
  |some i,some z=>(if z.cells.size=i.size/\0<i.size/\(0:Int)<=(n:Int)/\(n:Int)<=(n:Int)/\(n:Int)*i.bytes<=140737488355328/\(n:Int)<=1099511627776 then some (dV.cells (db z.cells.toList (n:Int).toNat) 107 i.size true,λk=>Value.slice (some ⟨k,0,none⟩) (n:Int).toNat (n:Int).toNat)else none)
  |_,_=>none)=_
 rw[WH,aaf];dsimp only;rw[NP,Lr,if_pos ⟨rfl,by omega,by omega,Int.le_refl _,by omega,by omega⟩];have e:((n:Int)).toNat=n:=by omega
 rw[e,show(nA).cells.toList=[nA]from rfl,nD];rfl
noncomputable def re9:TypeInfo:=(eW SS.P 9).getD default
theorem abQ:eW SS.P 9=some re9:=by kernel_rfl
theorem Vy:re9.size=1:=by kernel_rfl
theorem Ru:re9.bytes=16:=by kernel_rfl
theorem adX:dZ SS.P 107=true:=by kernel_rfl
theorem aap(l:List UInt8):aI SS.P 107 1 [(0,strOf l)]=some (.cells [strOf l] 9 1 true,mR 1 1):=by kernel_rfl
theorem kD(k n c:Nat):dG 4 (.slice (some ⟨k,0,none⟩) n c) (.slice (some ⟨k,0,none⟩) n c)=true:=by simp[dG]
theorem ab9:dG 4 nA nA=true:=by simp[dG]
def ss(n i:Nat)(ks cs:Nat->Nat)(x:Value):List Value:=(List.range n).map λa=>if a<i then vS (ks a) n (cs a)else if a=i then x else nA
theorem uf(n i:Nat)(ks cs:Nat->Nat)(x:Value):(ss n i ks cs x).length=n:=by unfold ss;simp
theorem DO(h:i<n)(ks cs:Nat->Nat)(x:Value):(ss n i ks cs x).getD i undef=x:=by
 unfold ss;rw[Cn h,if_neg (Nat.lt_irrefl i),if_pos rfl]
theorem KE(ks cs:Nat->Nat)(x y:Value):(ss n i ks cs x).set i y=ss n i ks cs y:=by
 unfold ss;refine ext_getElem (by simp) λa b d=>?_;simp only[length_set,lM,List.length_range]at b;rw[List.getElem_set];simp only[List.getElem_map,List.getElem_range];by_cases e:i=a
 ·subst e;rw[if_pos rfl,if_neg (Nat.lt_irrefl i),if_pos rfl]
 ·rw[if_neg e];by_cases c:a<i
  ·rw[if_pos c,if_pos c]
  ·rw[if_neg c,if_neg c,if_neg (λh=>e h.symm),if_neg (λh=>e h.symm)]
theorem Gm{ks cs:Nat->Nat}{c:Nat}:ss n i ks cs (vS k n c)=ss n (i+1) (λa=>if a=i then k else ks a) (λa=>if a=i then c else cs a) nA:=by
 unfold ss;refine List.map_congr_left λa _=>?_;dsimp only;by_cases e:a=i
 ·subst e;rw[if_neg (Nat.lt_irrefl a),if_pos rfl,if_pos (Nat.lt_succ_self a),if_pos rfl,if_pos rfl]
 ·by_cases b:a<i
  ·rw[if_pos b,if_pos (by omega),if_neg e,if_neg e]
  ·rw[if_neg b,if_neg e,if_neg (by omega)];split<;>rfl
structure ZI(h:ae)(n:Nat)(z:List UInt8)(kr i:Nat)(x:Value)(ks cs:Nat->Nat)(g:ae):Prop where
 out:g.get kr=some (.cells (ss n i ks cs x) 107 1 true)
 new:h.next<=kr
 row:∀a,a<i->VB g (ks a) (List.replicate n z)
 ne:∀a,a<i->ks a≠kr/\h.next<=ks a
 inj:∀a b,a<i->b<i->ks a=ks b->a=b
 ok:Ok h g
theorem ZI.lt{h:ae}{z:List UInt8}{x:Value}{ks cs:Nat->Nat}{g:ae}(b:ZI h n z m i x ks cs g):m<g.next/\∀a,a<i->ks a<g.next:=⟨b.ok.wf _ _ b.out,λa c=>b.ok.wf _ _ (b.row a c)⟩
theorem ZI.kL{h:ae}(w:Wf h){n:Nat}{z:List UInt8}{b i:Nat}{x y:Value}{ks cs:Nat->Nat}{g g':ae}(m:ZI h n z b i x ks cs g)(e:Ok h g')(d:g'.get b=some (.cells (ss n i ks cs y) 107 1 true))(f:∀a,a<i->g'.get (ks a)=g.get (ks a)):ZI h n z b i y ks cs g':=
 ⟨d,m.new,λa c=>by have:=m.row a c;unfold VB at this⊢;rw[f a c];exact this,m.ne,m.inj,e⟩
theorem VF(j:Nat)(z:A):List.replicate (j+1) z=List.replicate j z++[z]:=List.replicate_succ'
theorem Y5{g:ae}(w:Wf g){n j:Nat}(a:j<n)(B:dV):Ok g (cj (Go.Ab.room g n) g.next [(j,B)])/\(cj (Go.Ab.room g n) g.next [(j,B)]).get (g.next+j)=some B/\(cj (Go.Ab.room g n) g.next [(j,B)]).next=g.next+n:=⟨(ON w a B).1,(ON w a B).2,rfl⟩
def aeh(h:ae)(n:Nat)(z:List UInt8)(c i:Nat)(b j:Nat)(g:ae):Prop:=j<=n/\b=n-j/\∃(ks cs:Nat->Nat)(x:Value),ZI h n z c i x ks cs g/\BC h g 9 x (eI (List.replicate j z))/\∀k,fh x=some k->k≠c/\∀a,a<i->ks a≠k
set_option linter.defProp false in
def Sp{h:ae}(w:Wf h){kind:Int}(Z:1<=kind/\kind<=3){n f i:Nat}(r:i<n)(hn:n<=1000)(y:Nat->Nat->ae->Prop)(K:Nat)(Q:VH)(O:∀g,(∃ks cs,ZI h n (bE kind) f (i+1) nA ks cs g)->aJ (fs (lN kind n f) y) K [.int .i64 kind,iA n,sA f n n,iA (i+1)] g):=
 EK kind n f y K i (aeh h n (bE kind) f i) Q (by
  intro x0 j;intros;rename_i g J;obtain⟨f1,f2,ks,cs,x,m,D,E⟩:=J;refine aa (λq=>?_) (λq=>?_)
  ·have q:j<n:=by have:=dT q;omega
   have hr:(Go.Ab.room g 12).get f=some (.cells (ss n i ks cs x) 107 1 true):=m.out;have B:aj SS.P 107 (Go.Ab.room g 12) (.pointer (some ⟨f,i,none⟩))=some x:=by rw[cq Eb Jw hr (by rw[uf];exact r),DO r]
   obtain⟨I,U,L,ex,M⟩:∃a n c,x = .slice a n c/\dG 4 x x=true:=by
    rcases D with⟨e,_⟩|⟨k,e,_⟩
    ·exact⟨_,_,_,e,by rw[e];exact ab9⟩
    ·exact⟨_,_,_,e,by rw[e];exact kD _ _ _⟩
   subst ex;refine⟨_,Dv nX nE r,_,_,_,B,(fO Z _).mono ?_⟩;rintro _ g0 ⟨rfl,e0⟩;obtain rfl:Go.Ab.room g 12=g0:=e0.symm;refine⟨_,rfl,_,_,_,aap _,?_⟩;obtain⟨s,Y,x1⟩:=Y5 m.ok.wf (show 8<12 by omega) (.cells [strOf (bE kind)] 9 1 true);generalize cj (Go.Ab.room g 12) g.next [(8,.cells [strOf (bE kind)] 9 1 true)]=o at*;have v:=m.ok.trans s;have R:BC h o 9 (.slice I U L) (eI (List.replicate j (bE kind))):=by
    rcases D with e|⟨k,e,H,G⟩
    ·exact .inl e
    ·exact .inr ⟨k,e,H,s.ext _ _ G⟩
   have C:fY o 1 (sA (g.next+8) 1 1)=some ([strOf (bE kind)],1):=Cq Y rfl;obtain⟨u,V,X,P,a4,T⟩:=BC.adS Eb abQ Vy adX w v R C rfl (by rw[Ru,fm,length_replicate];omega) (by rw[fm,length_replicate];omega);rw[fm,length_replicate]at V;refine⟨_,_,_,u,V,?_⟩;have z:(u.app o).get f=some (.cells (ss n i ks cs (.slice I U L)) 107 1 true):=T _ _ (s.ext _ _ m.out) (λe=>(E f e).1 rfl);have N:∀a,a<i->(u.app o).get (ks a)=g.get (ks a):=λa l=>by
    have:=m.row a l;unfold VB at this;rw[this];exact T _ _ (s.ext _ _ this) (λe=>(E _ e).2 a l rfl)
   generalize u.app o=F at*;refine⟨_,Dv nX nE r,_,jf nE z (by rw[uf];exact r) rfl rfl,⟨B,M⟩,?_⟩;rw[KE];rw[aP (i:=j) (n:=n) q (by omega)];have t:=m.lt;have A:o.next≠f:=by have:=t.1;omega
   refine bZ (n-(j+1)) (by omega) ⟨by omega,rfl,ks,cs,.slice (some ⟨o.next,0,none⟩) (j+1) (dm+(j+1)),m.kL w ?_ ?_ ?_,.inr ⟨o.next,?_,v.nx,?_⟩,?_⟩
   ·exact P.set _ m.new (P.wf _ _ z) w
   ·show(F.set f _).get f=_;rw[ae.aw,if_pos rfl]
   ·intro a l;show(F.set f _).get (ks a)=_;rw[ae.aw,if_neg (m.ne a l).1];exact N a l
   ·rw[fm,length_replicate]
   ·show(F.set f _).get o.next=_;rw[ae.aw,if_neg A,X];unfold eI;rw[VF,List.map_append];rfl
   ·intro k ek;obtain rfl:o.next=k:=oI ek;exact⟨A,λa l e=>by have:=t.2 a l;omega⟩
  ·have q:=dF q;obtain rfl:j=n:=by omega
   rw[aP r (by omega)];refine O g ?_;rcases D with⟨_,e⟩|⟨k,e,H,G⟩
   ·have:=congrArg List.length e;rw[fm,length_replicate]at this;exact absurd this (by simp;omega)
   ·rw[fm,length_replicate]at e;obtain⟨b1,W⟩:=E k (by rw[e];rfl);have S:=m.out;rw[e,show(Value.slice (some ⟨k,0,none⟩) j (dm+j))=vS k j (dm+j)from rfl,Gm]at S;refine⟨_,_,S,m.new,λa l=>?_,λa l=>?_,λa b l hb p=>?_,m.ok⟩
    ·by_cases c:a=i
     ·rw[if_pos c];exact G
     ·rw[if_neg c];exact m.row a (by omega)
    ·by_cases c:a=i
     ·rw[if_pos c];exact⟨b1,H⟩
     ·rw[if_neg c];exact m.ne a (by omega)
    ·by_cases c:a=i<;>by_cases d:b=i
     ·omega
     ·rw[if_pos c,if_neg d]at p;exact absurd p.symm (W b (by omega))
     ·rw[if_neg c,if_pos d]at p;exact absurd p (W a (by omega))
     ·rw[if_neg c,if_neg d]at p;exact m.inj a b (by omega) (by omega) p)
theorem Xu{h:ae}(w:Wf h){kind:Int}(t:1<=kind/\kind<=3){n:Nat}(p:n<=1000):FW SS 156 [.int .i64 kind,iA n] h (λv g=>∃l ks cs,v=sA l n n/\s7 107 g l ks cs (List.replicate n (List.replicate n (bE kind)))/\Ok h g/\h.next<=l/\∀i,i<n->h.next<=ks i):=by
 refine ach kind n h _ ⟨_,_,_,UK n (by omega),?_⟩;have u:=aO h (.cells (List.replicate n nA) 107 1 true);have r:=(Ok.refl w).push (.cells (List.replicate n nA) 107 1 true);refine EJ kind n h.next (λf i g=>i<=n/\f=n-i/\∃ks cs,ZI h n (bE kind) h.next i nA ks cs g) _ (λf i=>?_) n (i:=0) ⟨by omega,rfl,λ_=>0,λ_=>0,?_,Nat.le_refl _,λa c=>by omega,λa c=>by omega,λa b c=>by omega,r⟩
 ·intros;rename_i g s;obtain⟨A,z,ks,cs,m⟩:=s;refine aa (λq=>?_) (λq=>?_)
  ·have q:i<n:=by have:=dT q;omega
   refine Sp w t q p _ f _ (λg' d=>?_) n (j:=0) ⟨by omega,rfl,ks,cs,nA,m,.inl ⟨rfl,rfl⟩,λk e=>by cases e⟩;exact bZ (n-(i+1)) (by omega) ⟨by omega,rfl,d⟩
  ·have q:=dF q;obtain rfl:i=n:=by omega
   have d:∀a,a<i->(List.replicate i (List.replicate i (bE kind))).getD a []=List.replicate i (bE kind):=λa c=>by
    rw[gD,getElem?_replicate,if_pos c];rfl
   refine⟨h.next,ks,cs,rfl,⟨?_,λa c=>?_,λa c=>?_,λa b c o=>?_⟩,m.ok,Nat.le_refl _,λa c=>(m.ne a c).2⟩
   ·rw[m.out,length_replicate];congr 2;unfold ss;refine List.map_congr_left λa c=>?_;have c:=List.mem_range.1 c;rw[if_pos c,d a c,length_replicate]
   ·rw[length_replicate]at c;rw[d a c];exact m.row a c
   ·rw[length_replicate]at c;exact(m.ne a c).1
   ·rw[length_replicate]at c o;exact m.inj a b c o
 ·rw[u];congr 2;unfold ss;refine ext_getElem (by simp) λa x y=>?_;simp
theorem abB{h:ae}(w:Wf h){kind:Int}(B:1<=kind/\kind<=3){a:Option Addr}{n c:Nat}{R:List (List (List UInt8))}(r:Mf 107 h (.slice a n c) R)(k:∀l∈R,l.length=R.length)(E:∀l∈R,∀x∈l,aM kind x=true)(O:n<=3000):FW SS 123 [.int .i64 kind,.slice a n c] h (λv g=>v = .bool true/\Ok h g):=by
 have G:=r.len;refine abA kind a n c h _ ((qe kind h).mono ?_);rintro _ N ⟨rfl,K⟩;obtain rfl:h=N:=K.symm;refine⟨_,rfl,aa (λe=>?_) (λ_=>?_)⟩
 ·rw[decide_eq_true B.1,decide_eq_true B.2]at e;cases e
 refine DG kind a n c (λs i g=>i<=n/\s=n-i/\Ok h g) _ (λs i=>?_) n (i:=0) ⟨by omega,rfl,Ok.refl w⟩;intros;rename_i g I;obtain⟨X,T,z⟩:=I;refine aa (λq=>?_) (λq=>⟨rfl,z⟩);have q:i<n:=by have:=dT q;omega
 have b:R.getD i []∈R:=by
  rw[gD,gE (by omega)];exact List.getElem_mem _
 obtain⟨p,J,d,F,t,y,u⟩:=(r.ok z).at_ ty (i:=i) (by omega);have C:=u.len;rw[fm,k _ b,<-G]at C;subst C;refine⟨_,t,_,_,_,y,aa (λe=>by simp at e) (λ_=>?_)⟩;refine DH kind a d c _ s i (λo j g=>j<=d/\o=d-j/\Ok h g) _ (λo j=>?_) d (j:=0) ⟨by omega,rfl,z⟩;intros;rename_i P A;obtain⟨V,W,f⟩:=A;refine aa (λm=>?_) (λm=>?_)
 ·have m:j<d:=by have:=dT m;omega
  obtain⟨p,J,U,F,t,y,u⟩:=(r.ok f).at_ ty (i:=i) (by omega);obtain⟨Q,L,D⟩:=Rd.cell ty u (j:=j) (by rw[k _ b];omega);refine⟨_,t,_,_,_,y,_,L,_,D,(jH (E _ b _ ?_) f.wf).mono ?_⟩
  ·have M:j<(R.getD i []).length:=by rw[k _ b];omega
   generalize R.getD i []=l at*;rw[gD,gE M];exact List.getElem_mem _
  rintro _ S ⟨rfl,H⟩;refine⟨_,rfl,aa (λe=>by cases e) (λ_=>?_)⟩;rw[aP m (by omega)];exact bZ (d-(j+1)) (by omega) ⟨by omega,rfl,f.trans H⟩
 ·rw[aP q (by omega)];exact bZ (d-(i+1)) (by omega) ⟨by omega,rfl,f⟩
end
noncomputable def bB:FD:=cF Tryz.f124 [([1,1,1,0,1,0,0],[0,1,5,6,7]),([1,1,1,1,0,1,0,0],[0,5,6,8]),([1,1,1,1,0,1,0,0,1,0,0,1,1,0,1,0,0],[0,5,6,8,9,10,11]),([1,1,1,1,1,0,1,0,0],[0,5,6,13]),([1,1,1,1,0,1,0,0,1,0,0,1,1,0,1,0,0,1,0,0,1,0,0],[0,5,6,8,9,10,11,12])]
abbrev qH(d:Nat)(a:OA)(n c b:Nat)(i:Nat):LV:=[(pA d),(.slice a n c),(iA n),(sA b n n),(iA i)]
abbrev eX(b n:Nat)(k a:Nat):LV:=[(pA b),(iA n),(sA a n n),(iA k)]
abbrev kO(c n b a k:Nat)(l:LB)(i:Nat):LV:=[(pA c),(iA n),(sA b n n),(iA k),(sA a n n),(strOf l),(iA i)]
abbrev kP(b n a:Nat)(i:Nat):LV:=[(pA b),(iA n),(sA a n n),(iA i)]
abbrev jb(c n b a k i:Nat)(l:LB)(j:Nat):LV:=[(pA c),(iA n),(sA b n n),(iA k),(sA a n n),(strOf l),(iA i),(iA j)]
theorem Wo(k:Nat)(a:OA)(n c:Nat)(h:ae)(Q:VH)(l:fP 136 (pA k) 0 λj=>lI h j λi=>FW SS 156 [(.int .i64 i),(iA n)] h λf g=>yL f λb d e=>LL SS bB [1,1,1,0,1,0,0] [(pA k),(.slice a n c),(iA n),(.slice b d e),(.int .i64 0)] g (KK SS bB [1,1,1,0,1,0] [] (EE SS bB Q))):FW SS 124 [(pA k),(.slice a n c)] h Q:=cI bB Tryz.func124 (ai l)
theorem AD(r:Nat)(a:OA)(n c:Nat)(q:Nat)(p:Nat->Nat->ae->Prop)(Q:VH)(step:∀(o:Nat) (i:Nat) (t:Nat->Value) (h:ae),p o i h->au (decide (((i:Int):Int)<(n:Int))) (iP 103 (sA q n n) (iA i) λm=>lL 107 (room h 9) m λj k l=>iP 103 (.slice a n c) (iA i) λg=>lL 107 (room h 9) g λd e f=>xC (copyV SS.P 107 (.slice j k l) (.slice d e f) (room h 9)) (room h 9) λ_ _ b=>aJ (fs (qH r a n c q) p) o [(pA r),(.slice a n c),(iA n),(sA q n n),(.int .i64 (wrap .i64 ((i:Int)+1)))] b) (LL SS bB [1,1,1,1,0,1,0,0] (eX r n 0 q) h (KK SS bB [1,1,1,1,0,1,0] [] (EE SS bB Q))))(o:Nat){i:Nat}{h:ae}(s:p o i h):LL SS bB [1,1,1,0,1,0,0] (qH r a n c q i) h (KK SS bB [1,1,1,0,1,0] [] (EE SS bB Q)):=
 dc (qH r a n c q) p (λo i t h s=>ai (step o i t h s)) o s
theorem AE(u:Nat)(a:OA)(n c:Nat)  (t:Nat->Nat->Nat->ae->Prop) (Q:VH) (step:∀(s:Nat)(k kb:Nat)(w:Nat->Value)(h:ae),t s k kb h->au (decide (((k:Int):Int)<(n:Int))) (fP 136 (pA u) 0 λr=>lI h r λq=>FW SS 156 [(.int .i64 q),(iA n)] h λo p=>yL o λj l m=>iP 103 (sA kb n n) (iA k) λi=>lL 107 p i λf g h=>iP 107 (.slice f g h) (iA k) λe=>lS p e λd=>FW SS 157 [(pA u),(strOf d)] p λb c=>yS b λa=>LL SS bB [1,1,1,1,0,1,0,0,1,0,0,1,1,0,1,0,0] [(pA u),(iA n),(sA kb n n),(iA k),(.slice j l m),(strOf a),(.int .i64 0)] c (KK SS bB [1,0,0,1,1,0,1,0] [1,1,1,1,0,1,0,0] (RR bB [1,1,1,1,0,1,0,0] (pL (eX u n) t) s (KK SS bB [1,1,1,1,0,1,0] [] (EE SS bB Q))))) (LL SS bB [1,1,1,1,1,0,1,0,0] (kP u n kb 0) h (KK SS bB [1,1,1,1,1,0,1,0] [] (EE SS bB Q)))) (s:Nat) {k kb:Nat} {h:ae} (v:t s k kb h):LL SS bB [1,1,1,1,0,1,0,0] (eX u n k kb) h (KK SS bB [1,1,1,1,0,1,0] [] (EE SS bB Q)):=
 mh (eX u n) t (λs k kb w h v=>ai (step s k kb w h v)) s v
theorem AF(e:Nat)(a:OA)(n c:Nat)(m g:Nat)(l:LB)(f:Nat->Nat->Nat->ae->Prop)(j k:Nat)(d:Nat->Nat->ae->Prop)(Q:VH)(step:∀(b:Nat) (i:Nat) (p:Nat->Value) (h:ae),d b i h->au (decide (((i:Int):Int)<(n:Int))) (LL SS bB [1,1,1,1,0,1,0,0,1,0,0,1,1,0,1,0,0,1,0,0,1,0,0] (jb e n m g k i l 0) h (KK SS bB [1,0,0,1,0] [1,1,1,1,0,1,0,0,1,0,0,1,1,0,1,0,0] (RR bB [1,1,1,1,0,1,0,0,1,0,0,1,1,0,1,0,0] (fs (kO e n m g k l) d) b (KK SS bB [1,0,0,1,1,0,1,0] [1,1,1,1,0,1,0,0] (RR bB [1,1,1,1,0,1,0,0] (pL (eX e n) f) j (KK SS bB [1,1,1,1,0,1,0] [] (EE SS bB Q))))))) (aJ (pL (eX e n) f) j [(pA e),(iA n),(sA g n n),(.int .i64 (wrap .i64 ((k:Int)+1)))] h))(b:Nat){i:Nat}{h:ae}(o:d b i h):LL SS bB [1,1,1,1,0,1,0,0,1,0,0,1,1,0,1,0,0] (kO e n m g k l i) h (KK SS bB [1,0,0,1,1,0,1,0] [1,1,1,1,0,1,0,0] (RR bB [1,1,1,1,0,1,0,0] (pL (eX e n) f) j (KK SS bB [1,1,1,1,0,1,0] [] (EE SS bB Q)))):=
 dc (kO e n m g k l) d (λb i p h o=>ai (step b i p h o)) b o
theorem AG(A:Nat)(a:OA)(n c:Nat)(z:Nat)(y:Nat->Nat->ae->Prop)(Q:VH)(step:∀(x:Nat) (i:Nat) (C:Nat->Value) (h:ae),y x i h->au (decide (((i:Int):Int)<(n:Int))) (iP 103 (sA z n n) (iA i) λw=>lL 107 (room h 21) w λt u v=>fP 136 (pA A) 0 λs=>lI (room h 21) s λr=>FW SS 22 [(.int .i64 r)] (room h 21) λp q=>yS p λo=>iP 103 (sA z n n) (iA i) λm=>lL 107 q m λj k l=>iP 107 (.slice j k l) (iA i) λg=>lS q g λf=>FW SS 158 [(pA A),(strOf o),(strOf f)] q λd e=>yS d λc=>iP 107 (.slice t u v) (iA i) λb=>xU (ah SS.P 9 (.pointer (some b)) (strOf c) e) e λ_ a=>(aj SS.P 107 q (.pointer (some w))=some (.slice t u v)/\dG 4 (.slice t u v) (.slice t u v)=true)/\(aj SS.P 107 e (.pointer (some w))=some (.slice t u v)/\dG 4 (.slice t u v) (.slice t u v)=true)/\(aj SS.P 107 (room h 21) (.pointer (some m))=some (.slice j k l)/\dG 4 (.slice j k l) (.slice j k l)=true)/\(aj SS.P 9 (room h 21) (.pointer (some g))=some (strOf f)/\dG 4 (strOf f) (strOf f)=true)/\aJ (fs (kP A n z) y) x [(pA A),(iA n),(sA z n n),(.int .i64 (wrap .i64 ((i:Int)+1)))] a) (Q (sA z n n) h))(x:Nat){i:Nat}{h:ae}(B:y x i h):LL SS bB [1,1,1,1,1,0,1,0,0] (kP A n z i) h (KK SS bB [1,1,1,1,1,0,1,0] [] (EE SS bB Q)):=
 dc (kP A n z) y (λx i C h B=>ai (step x i C h B)) x B
theorem AH(B:Nat)(a:OA)(n c:Nat)(A D:Nat)(l:LB)(x1:Nat->Nat->Nat->ae->Prop)(x2 k:Nat)(T:Nat->Nat->ae->Prop)(x0 i:Nat)(E:Nat->Nat->ae->Prop)(Q:VH)(step:∀(C:Nat) (j:Nat) (zz:Nat->Value) (h:ae),E C j h->au (decide (((j:Int):Int)<(n:Int))) (iP 103 (sA D n n) (iA i) λe5=>lL 107 (room h 14) e5 λe2 e3 e4=>iP 103 (sA A n n) (iA i) λe1=>lL 107 (room h 14) e1 λd8 d9 e0=>iP 107 (.slice d8 d9 e0) (iA j) λd7=>lS (room h 14) d7 λd6=>iP 107 (.slice e2 e3 e4) (iA j) λd5=>xU (ah SS.P 9 (.pointer (some d5)) (strOf d6) (room h 14)) (room h 14) λ_ U=>iP 103 (sA A n n) (iA i) λd3=>lL 107 (room U 28) d3 λS R K=>iP 107 (.slice S R K) (iA k) λc9=>lS (room U 28) c9 λN=>fP 136 (pA B) 0 λc7=>lI (room U 28) c7 λc6=>FW SS 18 [(.int .i64 c6)] (room U 28) λc4 J=>yS c4 λc3=>au (!((N:LB)==c3)) (iP 103 (sA A n n) (iA k) λc2=>lL 107 J c2 λV Z W=>iP 107 (.slice V Z W) (iA j) λb8=>lS J b8 λX=>fP 136 (pA B) 0 λb6=>lI J b6 λb5=>FW SS 18 [(.int .i64 b5)] J λb3 F=>yS b3 λb2=>(aj SS.P 107 J (.pointer (some d3))=some (.slice S R K)/\dG 4 (.slice S R K) (.slice S R K)=true)/\(aj SS.P 9 J (.pointer (some c9))=some (strOf N)/\dG 4 (strOf N) (strOf N)=true)/\(aj SS.P 107 F (.pointer (some c2))=some (.slice V Z W)/\dG 4 (.slice V Z W) (.slice V Z W)=true)/\(aj SS.P 9 F (.pointer (some b8))=some (strOf X)/\dG 4 (strOf X) (strOf X)=true)/\au (!((X:LB)==b2)) (iP 103 (sA D n n) (iA i) λY=>lL 107 (room F 35) Y λH G I=>iP 103 (sA A n n) (iA i) λa7=>lL 107 (room F 35) a7 λO P M=>iP 107 (.slice O P M) (iA j) λa3=>lS (room F 35) a3 λL=>iP 103 (sA A n n) (iA i) λa1=>lL 107 (room F 35) a1 λy z a0=>iP 107 (.slice y z a0) (iA k) λx=>lS (room F 35) x λw=>FW SS 159 [(pA B),(strOf w),(strOf l)] (room F 35) λu v=>yS u λt=>iP 103 (sA A n n) (iA k) λs=>lL 107 v s λp q r=>iP 107 (.slice p q r) (iA j) λo=>lS v o λm=>FW SS 159 [(pA B),(strOf t),(strOf m)] v λg h=>yS g λf=>FW SS 158 [(pA B),(strOf L),(strOf f)] h λd e=>yS d λc=>iP 107 (.slice H G I) (iA j) λb=>xU (ah SS.P 9 (.pointer (some b)) (strOf c) e) e λ_ a=>(aj SS.P 107 v (.pointer (some Y))=some (.slice H G I)/\dG 4 (.slice H G I) (.slice H G I)=true)/\(aj SS.P 107 h (.pointer (some Y))=some (.slice H G I)/\dG 4 (.slice H G I) (.slice H G I)=true)/\(aj SS.P 107 e (.pointer (some Y))=some (.slice H G I)/\dG 4 (.slice H G I) (.slice H G I)=true)/\(aj SS.P 107 v (.pointer (some a7))=some (.slice O P M)/\dG 4 (.slice O P M) (.slice O P M)=true)/\(aj SS.P 107 h (.pointer (some a7))=some (.slice O P M)/\dG 4 (.slice O P M) (.slice O P M)=true)/\(aj SS.P 9 v (.pointer (some a3))=some (strOf L)/\dG 4 (strOf L) (strOf L)=true)/\(aj SS.P 9 h (.pointer (some a3))=some (strOf L)/\dG 4 (strOf L) (strOf L)=true)/\(aj SS.P 107 (room F 35) (.pointer (some s))=some (.slice p q r)/\dG 4 (.slice p q r) (.slice p q r)=true)/\(aj SS.P 9 (room F 35) (.pointer (some o))=some (strOf m)/\dG 4 (strOf m) (strOf m)=true)/\aJ (fs (jb B n A D k i l) E) C [(pA B),(iA n),(sA A n n),(iA k),(sA D n n),(strOf l),(iA i),(.int .i64 (wrap .i64 ((j:Int)+1)))] a) (aJ (fs (jb B n A D k i l) E) C [(pA B),(iA n),(sA A n n),(iA k),(sA D n n),(strOf l),(iA i),(.int .i64 (wrap .i64 ((j:Int)+1)))] F)) ((aj SS.P 107 J (.pointer (some d3))=some (.slice S R K)/\dG 4 (.slice S R K) (.slice S R K)=true)/\(aj SS.P 9 J (.pointer (some c9))=some (strOf N)/\dG 4 (strOf N) (strOf N)=true)/\aJ (fs (jb B n A D k i l) E) C [(pA B),(iA n),(sA A n n),(iA k),(sA D n n),(strOf l),(iA i),(.int .i64 (wrap .i64 ((j:Int)+1)))] J)) (aJ (fs (kO B n A D k l) T) x0 [(pA B),(iA n),(sA A n n),(iA k),(sA D n n),(strOf l),(.int .i64 (wrap .i64 ((i:Int)+1)))] h))(C:Nat){j:Nat}{h:ae}(hi:E C j h):LL SS bB [1,1,1,1,0,1,0,0,1,0,0,1,1,0,1,0,0,1,0,0,1,0,0] (jb B n A D k i l j) h (KK SS bB [1,0,0,1,0] [1,1,1,1,0,1,0,0,1,0,0,1,1,0,1,0,0] (RR bB [1,1,1,1,0,1,0,0,1,0,0,1,1,0,1,0,0] (fs (kO B n A D k l) T) x0 (KK SS bB [1,0,0,1,1,0,1,0] [1,1,1,1,0,1,0,0] (RR bB [1,1,1,1,0,1,0,0] (pL (eX B n) x1) x2 (KK SS bB [1,1,1,1,0,1,0] [] (EE SS bB Q)))))):=
 dc (jb B n A D k i l) E (λC j zz h hi=>ai (step C j zz h hi)) C hi
noncomputable def Vl:FD:=cF Tryz.f97 []
theorem Rb(m:Int)(a:OA)(n c:Nat)(h:ae)(Q:VH)(o:FW SS 123 [(.int .i64 m),(.slice a n c)] h λk l=>yB k λj=>au (!j) (Q (.tuple ⟨[nA,(.int .i64 1)]⟩) l) (au (decide (((n:Int):Int)>60)) (Q (.tuple ⟨[nA,(.int .i64 2)]⟩) l) (xA (bd SS.P 136 [(0,(.int .i64 m))]) λi=>xN (eL SS.P 136 (.agg ⟨i⟩)) l λ_ h=>FW SS 124 [(pA (l.next)),(.slice a n c)] h λf g=>yL f λc d e=>fP 136 (pA (l.next)) 1 λb=>lB g b λa=>au a (Q (.tuple ⟨[nA,(.int .i64 2)]⟩) g) (Q (.tuple ⟨[(.slice c d e),(.int .i64 0)]⟩) g)))):FW SS 97 [(.int .i64 m),(.slice a n c)] h Q:=cI Vl Tryz.func97 (ai o)
section
def aY(kind:Int):qn (List UInt8):=⟨bE kind,qN kind,λa=>a==bE kind,eM kind,dg kind,lR kind⟩
abbrev LM:=List (List (List UInt8))
structure Sq(kind:Int)(n:Nat)(B:LM):Prop where
 len:B.length=n
 row:∀i,i<n->(B.getD i []).length=n
 val:∀i j,i<n->j<n->aM kind ((B.getD i []).getD j [])=true
theorem dv{l:List A}{i:Nat}(a:i<l.length)(v d:A)(j:Nat):(l.set i v).getD j d=if j=i then v else l.getD j d:=by
 rw[gD,List.getElem?_set];by_cases e:i=j
 ·subst e;rw[if_pos rfl,if_pos a,if_pos rfl];rfl
 ·rw[if_neg e,if_neg λh=>e h.symm,<-gD]
theorem Sq.put{kind:Int}{n:Nat}{B:LM}(s:Sq kind n B){i j:Nat}(d:i<n)(h:j<n){x:List UInt8}(g:aM kind x=true):Sq kind n (B.set i ((B.getD i []).set j x)):=by
 have f:=s.len;refine⟨by rw[length_set];exact f,λa c=>?_,λa b c e=>?_⟩
 ·rw[dv (by omega)];split
  ·rw[length_set];exact s.row i d
  ·exact s.row a c
 ·rw[dv (by omega)];split
  ·rw[dv (by rw[s.row i d];exact h)];split
   ·exact g
   ·exact s.val i b d e
  ·exact s.val a b c e
theorem Gb{l:List (List UInt8)}{j:Nat}(b:j<l.length)(d a:List UInt8):l.getD j d=l.getD j a:=by
 rw[gD,gD,gE b];rfl
theorem Sq.Mj{kind:Int}{n:Nat}{B:LM}(s:Sq kind n B){i j:Nat}(a:i<n)(b:j<n):bT (aY kind) B i j=(B.getD i []).getD j []:=Gb (by rw[s.row i a];exact b) _ _
def R2(kind:Int)(n:Nat)(B:LM)(k:Nat):Option LM:=match bg (ft (aY kind)) (n-k) k B with
 |none=>none
 |some a=>bg (oc (aY kind)) n 0 a
def R3(kind:Int)(n:Nat)(B:LM)(l:List UInt8)(k:Nat)(C:LM)(i:Nat):Option LM:=match bg (iW (aY kind) B l k) (n-i) i C with
 |none=>none
 |some a=>R2 kind n a (k+1)
def R4(kind:Int)(n:Nat)(B:LM)(l:List UInt8)(k:Nat)(C:LM)(i:Nat)(r:List (List UInt8))(j:Nat):Option LM:=match bg (cw (aY kind) B l k i) (n-j) j r with
 |none=>none
 |some a=>R3 kind n B l k (C++[a]) (i+1)
section
variable {kind:Int} {n:Nat} {B C:LM} {l:List UInt8} {k i j:Nat} {r:List (List UInt8)}
theorem fo(f:A->Nat->Option A){n i:Nat}(h:i<n)(b:A):bg f (n-i) i b=match f b i with|some a=>bg f (n-(i+1)) (i+1) a|none=>none:=by
 rw[show n-i=(n-(i+1))+1 by omega];rfl
theorem iM(f:A->Nat->Option A){n:Nat}(b:A):bg f (n-n) n b=some b:=by rw[Nat.sub_self];rfl
theorem SO(a:B.length=n):jU (aY kind) B=R2 kind n B 0:=by
 unfold jU R2;rw[a,sub_zero]
 cases bg (ft (aY kind)) n 0 B<;>rfl
theorem Oe(a:B.length=n)(b:k<n):R2 kind n B k=match (aY kind).star (bT (aY kind) B k k)with|none=>none|some s=>R3 kind n B s k [] 0:=by
 unfold R2;rw[fo _ b];unfold ft
 cases (aY kind).star (bT (aY kind) B k k)with
 |none=>rfl
 |some s=>
  dsimp only;unfold R3;rw[a]
  cases bg (iW (aY kind) B s k) n 0 []<;>rfl
theorem XG(a:B.length=n)(b:i<n):R3 kind n B l k C i=R4 kind n B l k C i [] 0:=by
 unfold R3;rw[fo _ b];have e:iW (aY kind) B l k C i=match bg (cw (aY kind) B l k i) n 0 []with|none=>none|some r=>some (C++[r]):=by
  unfold iW;rw[a]
  cases bg (cw (aY kind) B l k i) n 0 []<;>rfl
 rw[e];unfold R4
 cases bg (cw (aY kind) B l k i) n 0 []with
 |none=>rfl
 |some r=>rfl
theorem aaS:R3 kind n B l k C n=R2 kind n C (k+1):=by unfold R3;rw[iM]
theorem Hl(a:j<n):R4 kind n B l k C i r j=match cw (aY kind) B l k i r j with|none=>none|some b=>R4 kind n B l k C i b (j+1):=by
 unfold R4;rw[fo _ a]
 cases cw (aY kind) B l k i r j<;>rfl
theorem aaT:R4 kind n B l k C i r n=R3 kind n B l k (C++[r]) (i+1):=by unfold R4;rw[iM]
theorem lG{l:List A}{i:Nat}(h:m<=i)(x:A):(l.set i x).take m=l.take m:=by rw[List.take_set_of_le h]
theorem kf{l:List A}{i:Nat}(h:i<l.length)(d:A):l.take (i+1)=l.take i++[l.getD i d]:=by
 rw[List.take_add_one,gD,gE h];rfl
end
structure MI(kind:Int)(n N0:Nat)(kt:Nat)(ks cs:Nat->Nat)(B:LM)(g:ae):Prop where
 m:s7 107 g kt ks cs B
 sq:Sq kind n B
 new:N0<=kt/\∀i,i<n->N0<=ks i
section
variable {kind:Int} {n N0 N1 kt kb kc s0:Nat} {ks cs kbs bcs kcs ccs:Nat->Nat} {B C:LM} {g g' h:ae} {i j:Nat}
theorem MI.ld(x:MI kind n N0 kt ks cs B g)(a:i<n):aj SS.P 107 g (.pointer (some ⟨kt,i,none⟩))=some (.slice (some ⟨ks i,0,none⟩) n (cs i)):=by
 rw[x.m.ld ty (by rw[x.sq.len];exact a),x.sq.row i a]
theorem MI.cell(x:MI kind n N0 kt ks cs B g)(a:i<n)(b:j<n):aj SS.P 9 g (.pointer (some ⟨ks i,j,none⟩))=some (strOf ((B.getD i []).getD j [])):=(x.m.row i (by rw[x.sq.len];exact a)).ld ty (by rw[x.sq.row i a];exact b)
theorem MI.kL{X:Nat->Prop}(x:MI kind n N0 kt ks cs B g)(s:zH X g g')(b:∀a,X a->a<N0):MI kind n N0 kt ks cs B g':=
 ⟨x.m.kL s (λc=>by have:=b _ c;have:=x.new.1;omega) (λi d c=>by have:=b _ c;have:=x.new.2 i (by rw[<-x.sq.len];exact d);omega),x.sq,x.new⟩
theorem MI.ok(x:MI kind n N0 kt ks cs B g)(o:Ok g g'):MI kind n N0 kt ks cs B g':=⟨x.m.ok o,x.sq,x.new⟩
theorem MI.room(x:MI kind n N0 kt ks cs B g)(m:Nat):MI kind n N0 kt ks cs B (Go.Ab.room g m):=⟨x.m.room m,x.sq,x.new⟩
theorem MI.st(x:MI kind n N0 kt ks cs B g)(a:i<n)(b:j<n)(y:List UInt8):ah SS.P 9 (.pointer (some ⟨ks i,j,none⟩)) (strOf y) g=some (undef,.set (ks i) (.cells (eI ((B.getD i []).set j y)) 9 1 true)):=(x.m.row i (by rw[x.sq.len];exact a)).st ty (by rw[x.sq.row i a];exact b) y
theorem MI.put(x:MI kind n N0 kt ks cs B g)(a:i<n)(b:j<n){y:List UInt8}(c:aM kind y=true):MI kind n N0 kt ks cs (B.set i ((B.getD i []).set j y)) ((dP.set (ks i) (.cells (eI ((B.getD i []).set j y)) 9 1 true)).app g):=
 ⟨x.m.put (by rw[x.sq.len];exact a) j y,x.sq.put a b c,x.new⟩
theorem MI.lt(x:MI kind n N0 kt ks cs B g)(w:Wf g)(a:i<n):ks i<g.next:=(x.m.lt w).2 i (by rw[x.sq.len];exact a)
theorem MI.other(x:MI kind n N0 kt ks cs B g){k:Nat}(b:kt≠k/\∀i,i<n->ks i≠k)(l:dV):MI kind n N0 kt ks cs B ((dP.set k l).app g):=
 ⟨⟨by show(g.set k l).get kt=_;rw[ae.aw,if_neg b.1];exact x.m.out,λi a=>by
   have:=x.m.row i a;show(g.set k l).get (ks i)=_;rw[ae.aw,if_neg (b.2 i (by rw[<-x.sq.len];exact a))];exact this,x.m.ne,x.m.inj⟩,x.sq,x.new⟩
theorem np.other{bad:Bool}(s:np g s0 kind bad){k:Nat}(a:s0≠k)(l:dV):np ((dP.set k l).app g) s0 kind bad:=by
 show(g.set k l).get s0=_;rw[ae.aw,if_neg a];exact s
theorem Y4{X:Nat->Prop}(s:zH X h g)(d:Wf h){k:Nat}(i:h.next<=k)(c:k<g.next)(l:dV):zH X h ((dP.set k l).app g):=by
 refine⟨λa B b=>?_,λa B f b=>?_,s.nx⟩
 ·have b:(g.set k l).get a=some B:=b;rw[ae.aw]at b;split at b
  ·next e=>rw[e];exact c
  ·exact s.wf _ _ b
 ·show(g.set k l).get a=_;rw[ae.aw,if_neg (λe=>by have:=d _ _ b;omega)];exact s.ext _ _ f b
end
structure SI(h:ae)(s0:Nat)(kind:Int)(bad:Bool)(G now:Option LM)(g:ae):Prop where
 s:np g s0 kind bad
 ok:zH (λk=>k=s0) h g
 yes:bad=true->G=none
 no:bad=false->now=G
section
variable {h:ae} {s0:Nat} {kind:Int} {bad:Bool} {G now now':Option LM} {g g':ae}
theorem SI.step(x:SI h s0 kind bad G now g)(e:bad=false->now=now'):SI h s0 kind bad G now' g:=⟨x.s,x.ok,x.yes,λa=>by rw[<-e a];exact x.no a⟩
theorem SI.sk(x:SI h s0 kind bad G now g)(o:Ok g g'):SI h s0 kind bad G now g':=⟨x.s.ok o,x.ok.trans o.okS,x.yes,x.no⟩
theorem SI.op(x:SI h s0 kind bad G now g){a:Bool}{o:Option (List UInt8)}{c:List UInt8}(l:np g' s0 kind a)(p:zH (λk=>k=s0) g g')(m:a=false->bad=false/\o=some c)(n:a=true->bad=true\/o=none)(f:o=none->now=none)(j:o=some c->now=now'):SI h s0 kind a G now' g':=
 ⟨l,x.ok.trans p,λd=>(by
   rcases n d with e|e
   ·exact x.yes e
   ·cases b:bad with
    |true=>exact x.yes b
    |false=>rw[<-x.no b];exact f e),λd=>by
   obtain⟨i,q⟩:=m d;rw[<-j q];exact x.no i⟩
theorem SI.wf(x:SI h s0 kind bad G now g):Wf g:=x.ok.wf
theorem SI.room(x:SI h s0 kind bad G now g)(m:Nat):SI h s0 kind bad G now (Go.Ab.room g m):=⟨x.s,x.ok.room m,x.yes,x.no⟩
theorem SI.set(x:SI h s0 kind bad G now g)(b:Wf h){k:Nat}(c:s0≠k)(d:h.next<=k)(a:k<g.next)(l:dV):SI h s0 kind bad G now ((dP.set k l).app g):=⟨x.s.other c l,Y4 x.ok b d a l,x.yes,x.no⟩
end
structure St(h:ae)(s0:Nat)(kind:Int)(n N1 kb kc:Nat)(kbs bcs kcs ccs:Nat->Nat)(B C:LM)(g:ae):Prop where
 b:MI kind n h.next kb kbs bcs B g
 c:MI kind n N1 kc kcs ccs C g
 old:kb<N1/\(∀i,i<n->kbs i<N1)/\h.next<=N1
section
variable {h:ae} {s0:Nat} {kind:Int} {n N1 kb kc:Nat} {kbs bcs kcs ccs:Nat->Nat} {B C:LM} {g g':ae} {i j:Nat}
theorem St.op(t:St h s0 kind n N1 kb kc kbs bcs kcs ccs B C g)(b:s0<h.next)(o:zH (λk=>k=s0) g g'):St h s0 kind n N1 kb kc kbs bcs kcs ccs B C g':=
 ⟨t.b.kL o (λa e=>by rw[e];exact b),t.c.kL o (λa e=>by rw[e];have:=t.old.2.2;omega),t.old⟩
theorem St.room(t:St h s0 kind n N1 kb kc kbs bcs kcs ccs B C g)(m:Nat):St h s0 kind n N1 kb kc kbs bcs kcs ccs B C (Go.Ab.room g m):=⟨t.b.room m,t.c.room m,t.old⟩
theorem St.put(t:St h s0 kind n N1 kb kc kbs bcs kcs ccs B C g)(b:i<n)(d:j<n){y:List UInt8}(f:aM kind y=true):St h s0 kind n N1 kb kc kbs bcs kcs ccs B (C.set i ((C.getD i []).set j y)) ((dP.set (kcs i) (.cells (eI ((C.getD i []).set j y)) 9 1 true)).app g):=
 ⟨t.b.other ⟨λe=>by have:=t.c.new.2 i b;have:=t.old.1;omega,λa c e=>by have:=t.c.new.2 i b;have:=t.old.2.1 a c;omega⟩ _,t.c.put b d f,t.old⟩
end
def I4(h:ae)(s0:Nat)(kind:Int)(n N1 kb kc k i:Nat)(l:List UInt8)(kbs bcs kcs ccs:Nat->Nat)(B:LM)(G:Option LM)(a j:Nat)(g:ae):Prop:=j<=n/\a=n-j/\∃(C:LM)(bad:Bool),St h s0 kind n N1 kb kc kbs bcs kcs ccs B C g/\SI h s0 kind bad G (R4 kind n B l k (C.take i) i ((C.getD i []).take j) j) g
def I3(h:ae)(s0:Nat)(kind:Int)(n N1 kb kc k:Nat)(l:List UInt8)(kbs bcs kcs ccs:Nat->Nat)(B:LM)(G:Option LM)(a i:Nat)(g:ae):Prop:=i<=n/\a=n-i/\∃(C:LM)(bad:Bool),St h s0 kind n N1 kb kc kbs bcs kcs ccs B C g/\SI h s0 kind bad G (R3 kind n B l k (C.take i) i) g
section
variable {h:ae} {s0:Nat} {kind:Int} {n N1 kb kc k i:Nat} {l:List UInt8} {kbs bcs kcs ccs:Nat->Nat} {B:LM} {G:Option LM}
theorem VM{C:LM}{i j n:Nat}(e:C.length=n)(h:(C.getD i []).length=n)(f:i<n)(g:j<n)(x y:List UInt8):let b:=C.set i ((C.getD i []).set j x);let a:=b.set i ((b.getD i []).set j y);a.take i=C.take i/\(a.getD i []).take (j+1)=(C.getD i []).take j++[y]:=by
 dsimp only;have c:(C.set i ((C.getD i []).set j x)).getD i []=(C.getD i []).set j x:=by rw[dv (by omega),if_pos rfl]
 rw[c,List.set_set,List.set_set];refine⟨lG (Nat.le_refl _) _,?_⟩;rw[dv (by omega),if_pos rfl,kf (d:=[]) (by rw[length_set];omega),lG (Nat.le_refl _),dv (by omega),if_pos rfl]
theorem Zt{C:LM}{i j n:Nat}(b:C.length=n)(f:(C.getD i []).length=n)(c:i<n)(e:j<n)(y:List UInt8):let a:=C.set i ((C.getD i []).set j y);a.take i=C.take i/\(a.getD i []).take (j+1)=(C.getD i []).take j++[y]:=by
 dsimp only;refine⟨lG (Nat.le_refl _) _,?_⟩;rw[dv (by omega),if_pos rfl,kf (d:=[]) (by rw[length_set];omega),lG (Nat.le_refl _),dv (by omega),if_pos rfl]
theorem ml(l:List UInt8):dG 4 (strOf l) (strOf l)=true:=kQ l
set_option linter.defProp false in
def Wk(wh:Wf h)(S:s0<h.next)(hk:1<=kind/\kind<=3)(hn:n<=1000)(f:k<n)(d:i<n)(hl:aM kind l=true)(a:Option Addr)(c:Nat)(X:Nat->Nat->Nat->ae->Prop)(x1:Nat)(M:Nat)(x8:M=n-i)(Q:VH):=
 AH s0 a n c kb kc l X x1 k (I3 h s0 kind n N1 kb kc k l kbs bcs kcs ccs B G) M i (I4 h s0 kind n N1 kb kc k i l kbs bcs kcs ccs B G) Q (by
  intro x7 j;intros;rename_i g Z;obtain⟨f1,f2,C,bad,t,T⟩:=Z;refine aa (λq=>?_) (λq=>?_)
  ·have m:j<n:=by have:=dT q;omega
   have w:=t.room 14;have L:=t.b.sq.val i j d m;have P:s0≠kcs i:=λe=>by have:=t.c.new.2 i d;have:=t.old.2.2;omega
   refine⟨_,s7.ix ty d,_,_,_,w.c.ld d,_,s7.ix ty d,_,_,_,w.b.ld d,_,VB.ix ty m,_,w.b.cell d m,_,VB.ix ty m,_,w.c.st d m _,?_⟩;have t1:=w.put d m L;have x2:=(T.room 14).set wh P (Nat.le_trans t.old.2.2 (t.c.new.2 i d)) (w.c.lt (T.room 14).wf d) (.cells (eI ((C.getD i []).set j ((B.getD i []).getD j []))) 9 1 true);have hC:=t.c.sq.len;have hr:=t.c.sq.row i d;obtain⟨n1,n2⟩:=Zt hC hr d m ((B.getD i []).getD j []);obtain⟨r,N⟩:∃r,r=C.set i ((C.getD i []).set j ((B.getD i []).getD j [])):=⟨_,rfl⟩
   rw[<-N]at t1 n1 n2;have O:∀y,(r.set i ((r.getD i []).set j y)).take i=C.take i/\((r.set i ((r.getD i []).set j y)).getD i []).take (j+1)=(C.getD i []).take j++[y]:=λy=>by rw[N];exact VM hC hr d m _ y
   generalize (dP.set (kcs i) _).app (Go.Ab.room g 14)=U at*;have o:=t1.room 28;have u:=x2.room 28;rw[aP m (by omega)];refine⟨_,s7.ix ty d,_,_,_,o.b.ld d,_,VB.ix ty f,_,o.b.cell d f,_,oi _,_,u.s.l0,(fO hk _).mono ?_⟩;rintro _ Y ⟨rfl,V⟩;obtain rfl:Go.Ab.room U 28=Y:=V.symm;have zc:∀(b:Bool),((aY kind).yj (bT (aY kind) B i k)||(aY kind).yj (bT (aY kind) B k j))=true->SI h s0 kind bad G (R4 kind n B l k (r.take i) i ((r.getD i []).take (j+1)) (j+1)) (Go.Ab.room U 28):=λ_ J=>u.step λ_=>by
    rw[Hl m];unfold cw;rw[if_pos J,n1,n2,t.b.sq.Mj d m]
   refine⟨_,rfl,aa (λE=>?_) (λE=>?_)⟩
   ·refine⟨_,s7.ix ty f,_,_,_,o.b.ld f,_,VB.ix ty m,_,o.b.cell f m,_,oi _,_,u.s.l0,(fO hk _).mono ?_⟩;rintro _ Y ⟨rfl,V⟩;obtain rfl:Go.Ab.room U 28=Y:=V.symm;refine⟨_,rfl,⟨o.b.ld d,kD _ _ _⟩,⟨o.b.cell d f,ml _⟩,⟨o.b.ld f,kD _ _ _⟩,⟨o.b.cell f m,ml _⟩,aa (λz=>?_) (λz=>?_)⟩
    ·have s:=o.room 35;have x:=u.room 35;have x3:=t.b.sq.val i k d f;have x4:=t.b.sq.val k j f m;have J:¬((aY kind).yj (bT (aY kind) B i k)||(aY kind).yj (bT (aY kind) B k j))=true:=by
      rw[t.b.sq.Mj d f,t.b.sq.Mj f m];show ¬(((B.getD i []).getD k []==bE kind)||((B.getD k []).getD j []==bE kind))=true;rw[not_eq_true']at E z;rw[E,z];simp
     refine⟨_,s7.ix ty d,_,_,_,s.c.ld d,_,s7.ix ty d,_,_,_,s.b.ld d,_,VB.ix ty m,_,s.b.cell d m,_,s7.ix ty d,_,_,_,s.b.ld d,_,VB.ix ty f,_,s.b.cell d f,(GH x.wf x.s x3 hl).mono ?_⟩;rintro _ g4 ⟨x6,A,rfl,s4,o4,v4,y4,z4⟩;have v:=s.op S o4;have D:=x.op (now':=match dg kind A ((B.getD k []).getD j [])with|none=>none|some p=>match eM kind ((B.getD i []).getD j []) p with|none=>none|some c=>R4 kind n B l k (C.take i) i ((C.getD i []).take j++[c]) (j+1)) s4 o4 y4 z4 (λe=>by
      rw[Hl m];unfold cw;rw[if_neg J,t.b.sq.Mj d f];have e:(aY kind).times ((B.getD i []).getD k []) l=none:=e;rw[e]) (λe=>by
      rw[Hl m];unfold cw;rw[if_neg J,t.b.sq.Mj d f,t.b.sq.Mj f m,t.b.sq.Mj d m];have e:(aY kind).times ((B.getD i []).getD k []) l=some A:=e;rw[e];dsimp only;have e2:(aY kind).times A ((B.getD k []).getD j [])=dg kind A ((B.getD k []).getD j []):=rfl;rw[e2]
      cases dg kind A ((B.getD k []).getD j [])with
      |none=>rfl
      |some p=>
       dsimp only;have e3:(aY kind).plus ((B.getD i []).getD j []) p=eM kind ((B.getD i []).getD j []) p:=rfl;rw[e3]
       cases eM kind ((B.getD i []).getD j []) p<;>rfl)
     refine⟨_,rfl,_,s7.ix ty f,_,_,_,v.b.ld f,_,VB.ix ty m,_,v.b.cell f m,(GH D.wf D.s v4 x4).mono ?_⟩;rintro _ g5 ⟨x5,c5,rfl,s5,o5,v5,y5,z5⟩;have H:=v.op S o5;have F:=D.op (now':=match eM kind ((B.getD i []).getD j []) c5 with|none=>none|some c=>R4 kind n B l k (C.take i) i ((C.getD i []).take j++[c]) (j+1)) s5 o5 y5 z5 (λe=>by rw[e]) (λe=>by rw[e]);refine⟨_,rfl,(K4 F.wf F.s L v5).mono ?_⟩;rintro _ g6 ⟨W,K,rfl,s6,o6,v6,y6,z6⟩;have I:=H.op S o6;have R:=F.op (now':=R4 kind n B l k (C.take i) i ((C.getD i []).take j++[K]) (j+1)) s6 o6 y6 z6 (λe=>by rw[e]) (λe=>by rw[e]);refine⟨_,rfl,_,VB.ix ty m,_,I.c.st d m _,⟨v.c.ld d,kD _ _ _⟩,⟨H.c.ld d,kD _ _ _⟩,⟨I.c.ld d,kD _ _ _⟩,⟨v.b.ld d,kD _ _ _⟩,⟨H.b.ld d,kD _ _ _⟩,⟨v.b.cell d m,ml _⟩,⟨H.b.cell d m,ml _⟩,⟨s.b.ld f,kD _ _ _⟩,⟨s.b.cell f m,ml _⟩,?_⟩;refine bZ (n-(j+1)) (by omega) ⟨by omega,rfl,_,W,I.put d m v6,?_⟩;have x0:=R.set wh P (Nat.le_trans t.old.2.2 (t.c.new.2 i d)) (I.c.lt R.wf d) (.cells (eI ((r.getD i []).set j K)) 9 1 true);rw[(O K).1,(O K).2];exact x0
    ·refine bZ (n-(j+1)) (by omega) ⟨by omega,rfl,r,bad,o,zc true ?_⟩;rw[t.b.sq.Mj d f,t.b.sq.Mj f m];show(_||((B.getD k []).getD j []==bE kind))=true;rw[not_eq_false']at z;rw[z,Bool.or_true]
   ·refine⟨⟨o.b.ld d,kD _ _ _⟩,⟨o.b.cell d f,ml _⟩,bZ (n-(j+1)) (by omega) ⟨by omega,rfl,r,bad,o,zc true ?_⟩⟩;rw[t.b.sq.Mj d f];show(((B.getD i []).getD k []==bE kind)||_)=true;rw[not_eq_false']at E;rw[E,Bool.true_or]
  ·obtain rfl:j=n:=by have:=dF q;omega
   rw[aP d (by omega)];refine bZ (j-(i+1)) (by omega) ⟨by omega,rfl,C,bad,t,T.step λ_=>?_⟩;have e:(C.getD i []).take j=C.getD i []:=take_of_length_le (by rw[t.c.sq.row i d];exact Nat.le_refl _);rw[aaT,e,<-kf (by rw[t.c.sq.len];exact d)])
end
end
section
section
variable {h:ae} {s0:Nat} {kind:Int} {n:Nat} {G:Option LM}
def I2(h:ae)(s0:Nat)(kind:Int)(n:Nat)(G:Option LM)(c k d:Nat)(g:ae):Prop:=k<=n/\c=n-k/\∃(b a:Nat->Nat)(B:LM)(bad:Bool),MI kind n h.next d b a B g/\SI h s0 kind bad G (R2 kind n B k) g
def I5(h:ae)(s0:Nat)(kind:Int)(n:Nat)(G:Option LM)(d:Nat)(b a:Nat->Nat)(c i:Nat)(g:ae):Prop:=i<=n/\c=n-i/\∃(B:LM)(bad:Bool),MI kind n h.next d b a B g/\SI h s0 kind bad G (bg (oc (aY kind)) (n-i) i B) g
def stQ(h:ae)(s0:Nat)(kind:Int)(n:Nat)(G:Option LM):VH:=λv g=>∃(b:Nat)(c a:Nat->Nat)(B:LM)(bad:Bool),v=sA b n n/\MI kind n h.next b c a B g/\np g s0 kind bad/\zH (λk=>k=s0) h g/\(bad=true->G=none)/\(bad=false->G=some B)
theorem ZL(C:Wf h)(E:s0<h.next)(x:1<=kind/\kind<=3)(L:n<=1000)(a:Option Addr)(c:Nat){m:Nat}{k l:Nat->Nat}{B:LM}{bad:Bool}{g:ae}(d:MI kind n h.next m k l B g)(f:SI h s0 kind bad G (R2 kind n B n) g):
  LL SS bB [1,1,1,1,1,0,1,0,0] (kP s0 n m 0) g (KK SS bB [1,1,1,1,1,0,1,0] [] (EE SS bB (stQ h s0 kind n G))):=by
 have w:SI h s0 kind bad G (bg (oc (aY kind)) (n-0) 0 B) g:=f.step λ_=>by
  unfold R2;rw[iM,sub_zero]
 refine AG s0 a n c m (I5 h s0 kind n G m k l) (stQ h s0 kind n G) (λM i=>?_) n (i:=0) ⟨by omega,rfl,B,bad,d,w⟩;intros;rename_i g t;obtain⟨P,O,B,bad,d,f⟩:=t;refine aa (λq=>?_) (λq=>?_)
 ·have b:i<n:=by have:=dT q;omega
  have j:=d.room 21;have p:=f.room 21;have H:=d.sq.val i i b b;refine⟨_,s7.ix ty b,_,_,_,j.ld b,_,oi _,_,p.s.l0,(Cl kind _).mono ?_⟩;rintro _ K ⟨rfl,I⟩;obtain rfl:Go.Ab.room g 21=K:=I.symm;rw[H6 x];refine⟨_,rfl,_,s7.ix ty b,_,_,_,j.ld b,_,VB.ix ty b,_,j.cell b b,(K4 p.wf p.s (abF x) H).mono ?_⟩;rintro _ N ⟨s,u,rfl,F,v,A,D,J⟩;have o:=j.kL v (λa e=>by rw[e];exact E);have r:=p.op (now':=bg (oc (aY kind)) (n-(i+1)) (i+1) (B.set i ((B.getD i []).set i u))) F v D J (λe=>by
   rw[fo _ b];unfold oc;rw[d.sq.Mj b b];have e:(aY kind).plus (aY kind).one ((B.getD i []).getD i [])=none:=e;rw[e]) (λe=>by
   rw[fo _ b];unfold oc;rw[d.sq.Mj b b];have e:(aY kind).plus (aY kind).one ((B.getD i []).getD i [])=some u:=e;rw[e])
  refine⟨_,rfl,_,VB.ix ty b,_,o.st b b _,⟨j.ld b,kD _ _ _⟩,⟨o.ld b,kD _ _ _⟩,⟨j.ld b,kD _ _ _⟩,⟨j.cell b b,ml _⟩,?_⟩;have y:s0≠k i:=λe=>by have:=d.new.2 i b;omega
  rw[aP b (by omega)];exact bZ (n-(i+1)) (by omega) ⟨by omega,rfl,_,s,o.put b b A,r.set C y (d.new.2 i b) (o.lt r.wf b) _⟩
 ·obtain rfl:i=n:=by have:=dF q;omega
  refine⟨m,k,l,B,bad,rfl,d,f.s,f.ok,f.yes,λz=>?_⟩;rw[<-f.no z,iM]
theorem ZM(M:Wf h)(H:s0<h.next)(x:1<=kind/\kind<=3)(F:n<=1000)(a:Option Addr)(c:Nat){p:Nat}{kbs bcs:Nat->Nat}{B:LM}{bad:Bool}{g:ae}(f:MI kind n h.next p kbs bcs B g)(m:SI h s0 kind bad G (R2 kind n B 0) g):
  LL SS bB [1,1,1,1,0,1,0,0] (eX s0 n 0 p) g (KK SS bB [1,1,1,1,0,1,0] [] (EE SS bB (stQ h s0 kind n G))):=by
 refine AE s0 a n c (I2 h s0 kind n G) (stQ h s0 kind n G) (λz k p=>?_) n (k:=0) (kb:=p) ⟨by omega,rfl,kbs,bcs,B,bad,f,m⟩;intros;rename_i g J;obtain⟨f1,f2,kbs,bcs,B,bad,f,m⟩:=J;refine aa (λq=>?_) (λq=>?_)
 ·have d:k<n:=by have:=dT q;omega
  refine⟨_,oi _,_,m.s.l0,(Xu m.wf x F).mono ?_⟩;rintro _ g1 ⟨D,s,w,rfl,Z,L,U,K⟩;have v:=f.ok L;have t:=m.sk L;have W:=f.sq.val k k d d;refine⟨_,_,_,rfl,_,s7.ix ty d,_,_,_,v.ld d,_,VB.ix ty d,_,v.cell d d,(VS t.wf t.s W).mono ?_⟩;rintro _ g2 ⟨E,l,rfl,s2,Q,X,T,Y⟩;have hN:h.next<=g.next:=m.ok.nx;have zq:Sq kind n (List.replicate n (List.replicate n (bE kind))):=by
   have R:∀a,a<n->(List.replicate n (List.replicate n (bE kind))).getD a []=List.replicate n (bE kind):=λa o=>by
    rw[gD,getElem?_replicate,if_pos o];rfl
   refine⟨length_replicate,λa o=>by rw[R a o];exact length_replicate,λa b o S=>?_⟩;rw[R a o,gD,getElem?_replicate,if_pos S];exact oD x
  have t1:St h s0 kind n g.next p D kbs bcs s w B _ g1:=⟨v,⟨Z,zq,U,K⟩,(f.m.lt m.wf).1,λa o=>f.lt m.wf o,hN⟩
  have V:=t1.op H Q;have O:=t.op (now':=R3 kind n B l k [] 0) s2 Q T Y (λe=>by
   rw[Oe f.sq.len d,f.sq.Mj d d];have e:(aY kind).star ((B.getD k []).getD k [])=none:=e;rw[e]) (λe=>by
   rw[Oe f.sq.len d,f.sq.Mj d d];have e:(aY kind).star ((B.getD k []).getD k [])=some l:=e;rw[e])
  refine⟨_,rfl,?_⟩;refine AF s0 a n c p D l (I2 h s0 kind n G) z k (I3 h s0 kind n g.next p D k l kbs bcs s w B G) (stQ h s0 kind n G) (λN i=>?_) n (i:=0) ⟨by omega,rfl,_,E,V,by rw[take_zero];exact O⟩;intros;rename_i g3 I;obtain⟨e1,e2,C,u,r,y⟩:=I;refine aa (λA=>?_) (λA=>?_)
  ·have P:i<n:=by have:=dT A;omega
   exact Wk M H x F d P X a c (I2 h s0 kind n G) z N e2 (stQ h s0 kind n G) n (j:=0) ⟨by omega,rfl,C,u,r,by
    rw[take_zero];exact y.step λ_=>XG f.sq.len P⟩
  ·obtain rfl:i=n:=by have:=dF A;omega
   rw[aP d (by omega)];refine gY (i-(k+1)) (by omega) ⟨by omega,rfl,s,w,C,u,⟨r.c.m,r.c.sq,Nat.le_trans r.old.2.2 r.c.new.1,λa o=>Nat.le_trans r.old.2.2 (r.c.new.2 a o)⟩,y.step λ_=>?_⟩;rw[aaS,take_of_length_le (by rw[r.c.sq.len];exact Nat.le_refl _)]
 ·obtain rfl:k=n:=by have:=dF q;omega
  exact ZL M H x F a c f m
theorem Wp(o:Wf h)(F:1<=kind/\kind<=3)(A:n<=1000)(x:np h s0 kind false){a:Option Addr}{c:Nat}{R:LM}(r:Mf 107 h (.slice a n c) R)(j:Sq kind n R):FW SS 124 [pA s0,.slice a n c] h (stQ h s0 kind n (jU (aY kind) R)):=by
 have K:s0<h.next:=o _ _ x;refine Wo s0 a n c h _ ⟨_,oi _,_,x.l0,(Xu o F A).mono ?_⟩;rintro _ W ⟨D,f,k,rfl,M,I,Q,u⟩;refine⟨_,_,_,rfl,?_⟩;have S:∀a,a<n->(List.replicate n (List.replicate n (bE kind))).getD a []=List.replicate n (bE kind):=λa d=>by
  rw[gD,getElem?_replicate,if_pos d];rfl
 refine AD s0 a n c D (λC i g=>i<=n/\C=n-i/\Ok h g/\∃B:LM,s7 107 g D f k B/\B.length=n/\(∀a,a<n->(B.getD a []).length=n)/\∀a,a<i->B.getD a []=R.getD a []) _ (λC i=>?_) n (i:=0) ⟨by omega,rfl,I,_,M,length_replicate,λa d=>by rw[S a d];exact length_replicate,λa d=>by omega⟩;intros;rename_i g z;obtain⟨X,U,l,B,m,w,s,H⟩:=z;refine aa (λq=>?_) (λq=>?_)
 ·have b:i<n:=by have:=dT q;omega
  have t:=m.room 9;obtain⟨p,V,N,T,J,P,E⟩:=(r.ok (l.room 9)).at_ ty (i:=i) (by rw[j.len];exact b);have G:=E.len;rw[fm,j.row i b]at G;subst G;have v:=t.ld ty (i:=i) (by omega);rw[s i b]at v;refine⟨_,s7.ix ty b,_,_,_,v,_,J,_,_,_,P,_,_,Yo ty (t.row i (by omega)) (s i b) (by omega) E,?_⟩;rw[aP b (by omega)];have y:f i<(Go.Ab.room g 9).next:=(t.lt (l.room 9).wf).2 i (by omega);refine bZ (N-(i+1)) (by omega) ⟨by omega,rfl,(l.room 9).set _ (u i b) y o,B.set i (R.getD i []),t.adI (by omega) (by rw[j.row i b,s i b]),by rw[length_set];exact w,λa d=>?_,λa d=>?_⟩
  ·rw[dv (by omega)];split
   ·exact j.row i b
   ·exact s a d
  ·rw[dv (by omega)];split
   ·next e=>rw[e]
   ·exact H a (by omega)
 ·obtain rfl:i=n:=by have:=dF q;omega
  have e:B=R:=by
   refine ext_getElem (by rw[w,j.len]) λa L O=>?_;have:=H a (by omega);rw[gD,gD,gE L,gE O]at this;exact this
  subst e;exact ZM o K F A a c (kbs:=f) (bcs:=k) (B:=B) (bad:=false) ⟨m,j,Q,u⟩ ⟨x.ok l,l.okS,(λh=>by cases h),λ_=>(SO w).symm⟩
def aaN(kind:Int):dV:= .cells [.int .i64 kind,.bool false] 136 0 true
theorem ac9(kind:Int):bd SS.P 136 [(0,.int .i64 kind)]=some (.agg ⟨[.int .i64 kind,.bool false]⟩):=by kernel_rfl
theorem adb(kind:Int):eL SS.P 136 (.agg ⟨[.int .i64 kind,.bool false]⟩)=some (aaN kind,lk):=by kernel_rfl
def aeS(h:ae)(kind:Int)(n:Nat)(G:Option LM):VH:=λv g=>Ok h g/\match G with
 |none=>v = .tuple ⟨[nA,.int .i64 2]⟩
 |some B=>∃(a:Option Addr)(c:Nat),v = .tuple ⟨[.slice a n c,.int .i64 0]⟩/\a≠none/\Mf 107 g (.slice a n c) B/\Sq kind n B
theorem Rc(w:Wf h)(A:1<=kind/\kind<=3)(F:n<=3000){a:Option Addr}{c:Nat}{R:LM}(r:Mf 107 h (.slice a n c) R)(f:Sq kind n R):FW SS 97 [.int .i64 kind,.slice a n c] h (aeS h kind n (if 60<n then none else jU (aY kind) R)):=by
 have s:∀l∈R,l.length=R.length/\∀x∈l,aM kind x=true:=λl d=>by
  obtain⟨i,z,e⟩:=List.mem_iff_getElem.1 d;have m:i<n:=by rw[<-f.len];exact z
  have t:R.getD i []=l:=by rw[gD,gE z];exact e
  have v:=f.row i m;rw[t]at v;refine⟨by rw[v,f.len],λx H=>?_⟩;obtain⟨j,K,J⟩:=List.mem_iff_getElem.1 H;have:=f.val i j m (by omega);rw[t,gD,gE K]at this;rw[<-J];exact this
 refine Rb kind a n c h _ ((abB w A r (λl d=>(s l d).1) (λl d=>(s l d).2) F).mono ?_);rintro _ g ⟨rfl,b⟩;refine⟨_,rfl,aa (λe=>by cases e) (λ_=>aa (λq=>?_) (λq=>?_))⟩
 ·rw[if_pos (by have:=dT q;omega)];exact⟨b,rfl⟩
 have o:¬60<n:=by have:=dF q;omega
 rw[if_neg o];refine⟨_,ac9 kind,_,adb kind,?_⟩;have C:=(Ok.refl b.wf).push (aaN kind);have L:np (g.push (aaN kind)) g.next kind false:=aO g _;refine(Wp C.wf A (by omega) L (r.ok (b.trans C)) f).mono ?_;rintro _ G ⟨P,O,N,B,bad,rfl,p,y,I,M,u⟩;have D:Ok h G:=(I.ok (h0:=g) (Ok.push (Ok.refl b.wf) _) b.wf (λk e=>by rw[e];exact Nat.le_refl _)) |> b.trans
 refine⟨_,_,_,rfl,_,pT _,_,y.l1,aa (λq=>?_) (λq=>?_)⟩
 ·rw[M q];exact⟨D,rfl⟩
 ·rw[u q];have E:=p.m.rdM n;rw[p.sq.len]at E;exact⟨D,_,_,rfl,by simp,E,p.sq⟩
end
end
noncomputable def acd:FD:=cF Tryz.f98 []
theorem Z1(m:Int)(p n o:Nat)(t:Int)(a b:LB)(h:ae)(Q:VH)(q:FW SS 65 [(.int .i64 m),(strOf a),(strOf b)] h λk l=>∃j:LB,∃i:Int,k=(.tuple ⟨[(strOf j),(.int .i64 i)]⟩)/\au (((i:Int) !=0)) (Q (.int .i64 i) l) (iP 107 (sA p n o) (.int .i64 t) λh=>lS l h λg=>FW SS 62 [(.int .i64 m),(strOf g),(strOf j)] l λe f=>∃d:LB,∃c:Int,e=(.tuple ⟨[(strOf d),(.int .i64 c)]⟩)/\au (((c:Int)==0)) (iP 107 (sA p n o) (.int .i64 t) λb=>xU (ah SS.P 9 (.pointer (some b)) (strOf d) f) f λ_ a=>Q (.int .i64 c) a) (Q (.int .i64 c) f))):FW SS 98 [(.int .i64 m),(sA p n o),(.int .i64 t),(strOf a),(strOf b)] h Q:=cI acd Tryz.func98 (ai q)
noncomputable def pH:FD:=cF Tryz.f74 [([1,1,0,1,0,0],[1,3,4])]
abbrev pI(k a n:Nat)(i:Nat):LV:=[(pA k),(sA a n n),(iA i)]
theorem Si(g:LV)(h:ae)(Q:VH)(i:xN (eL SS.P 29 (.agg ⟨g⟩)) h λ_ f=>fP 29 (pA (h.next)) 3 λe=>lL 27 f e λ_ d _=>xR (ch SS.P 107 (iA d) (iA d)) f λ_ a b c=>LL SS pH [1,1,0,1,0,0] [(pA (h.next)),(sA (f.next) a b),(.int .i64 0)] c (KK SS pH [1,1,0,1,0] [] (EE SS pH Q))):FW SS 74 [(.agg ⟨g⟩)] h Q:=cI pH Tryz.func74 (ai i)
theorem zl(q:LV)(k m n:Nat)(l:Nat->Nat->ae->Prop)(Q:VH)(step:∀(j:Nat) (i:Nat) (p:Nat->Value) (h:ae),l j i h->au (decide (((i:Int):Int)<(n:Int))) (fP 29 (pA k) 0 λg=>lI h g λf=>FW SS 18 [(.int .i64 f)] h λd e=>yS d λc=>iP 107 (sA m n n) (iA i) λb=>xU (ah SS.P 9 (.pointer (some b)) (strOf c) e) e λ_ a=>aJ (fs (pI k m n) l) j [(pA k),(sA m n n),(.int .i64 (wrap .i64 ((i:Int)+1)))] a) (Q (sA m n n) h))(j:Nat){i:Nat}{h:ae}(o:l j i h):LL SS pH [1,1,0,1,0,0] (pI k m n i) h (KK SS pH [1,1,0,1,0] [] (EE SS pH Q)):=
 dc (pI k m n) l (λj i p h o=>ai (step j i p h o)) j o
noncomputable def xk:FD:=cF Tryz.f77 [([1,1,0,1,0,0],[0,1,2,8,9])]
abbrev sS(e:Int)(a:OA)(n c:Nat)(b:OA)(m d f:Nat)(i:Nat):LV:=[(.int .i64 e),(.slice a n c),(.slice b m d),(sA f n n),(iA i)]
theorem Z6(i:Int)(a:OA)(n c:Nat)(b:OA)(m d:Nat)(h:ae)(Q:VH)(j:xR (ch SS.P 107 (iA n) (iA n)) h λ_ e f g=>LL SS xk [1,1,0,1,0,0] [(.int .i64 i),(.slice a n c),(.slice b m d),(sA (h.next) e f),(.int .i64 0)] g (KK SS xk [1,1,0,1,0] [] (EE SS xk Q))):FW SS 77 [(.int .i64 i),(.slice a n c),(.slice b m d)] h Q:=cI xk Tryz.func77 (ai j)
theorem B2(r:Int)(a:OA)(n c:Nat)(b:OA)(m d:Nat)(u:Nat)(t:Nat->Nat->ae->Prop)(Q:VH)(step:∀(s:Nat) (i:Nat) (w:Nat->Value) (h:ae),t s i h->au (decide (((i:Int):Int)<(n:Int))) (iP 107 (.slice a n c) (iA i) λq=>lS (room h 15) q λp=>iP 107 (.slice b m d) (iA i) λo=>lS (room h 15) o λl=>FW SS 62 [(.int .i64 r),(strOf p),(strOf l)] (room h 15) λj k=>∃h:LB,∃g:Int,j=(.tuple ⟨[(strOf h),(.int .i64 g)]⟩)/\au (((g:Int) !=0)) (Q (.tuple ⟨[nA,(.int .i64 g)]⟩) k) (iP 107 (sA u n n) (iA i) λf=>xU (ah SS.P 9 (.pointer (some f)) (strOf h) k) k λ_ e=>aJ (fs (sS r a n c b m d u) t) s [(.int .i64 r),(.slice a n c),(.slice b m d),(sA u n n),(.int .i64 (wrap .i64 ((i:Int)+1)))] e)) (Q (.tuple ⟨[(sA u n n),(.int .i64 0)]⟩) h))(s:Nat){i:Nat}{h:ae}(v:t s i h):LL SS xk [1,1,0,1,0,0] (sS r a n c b m d u i) h (KK SS xk [1,1,0,1,0] [] (EE SS xk Q)):=
 dc (sS r a n c b m d u) t (λs i w h v=>ai (step s i w h v)) s v
noncomputable def gI:FD:=cF Tryz.f76 [([1,1,0,1,0,0],[1,2,3,4,5,12,13]),([1,1,0,1,0,0,1,0,0,1,1,0,0],[1,2,3,4,5,12,13,14])]
abbrev jc(a:OA)(n c:Nat)(d e:Int)(k b N:Nat)(q:Nat):LV:=[(.slice a n c),(.int .i64 d),(.int .i64 e),(.bool false),(pA k),(sA b N N),(iA q)]
abbrev jd(a:OA)(n c:Nat)(d e:Int)(k b N q:Nat)(j:Nat):LV:=[(.slice a n c),(.int .i64 d),(.int .i64 e),(.bool false),(pA k),(sA b N N),(iA q),(iA j)]
theorem Xa(k:LV)(a:OA)(n c:Nat)(l m:Int)(h:ae)(Q:VH)(o:xN (eL SS.P 29 (.agg ⟨k⟩)) h λ_ j=>lA 29 j (pA (h.next)) λi=>FW SS 74 [(.agg ⟨i⟩)] j λf g=>yL f λb d e=>LL SS gI [1,1,0,1,0,0] [(.slice a n c),(.int .i64 l),(.int .i64 m),(.bool false),(pA (h.next)),(.slice b d e),(.int .i64 0)] g (KK SS gI [1,1,0,1,0] [] (EE SS gI Q))):FW SS 76 [(.agg ⟨k⟩),(.slice a n c),(.int .i64 l),(.int .i64 m),(.bool false)] h Q:=cI gI Tryz.func76 (ai o)
theorem AR(w:LV)(a:OA)(n c:Nat)(s t:Int)(k r N:Nat)(o:Nat->Nat->ae->Prop)(Q:VH)(step:∀(p:Nat) (q:Nat) (v:Nat->Value) (h:ae),o p q h->fP 29 (pA k) 3 λm=>lL 27 h m λ_ l _=>au (decide (((q:Int):Int)<(l:Int))) (iP 107 (.slice a n c) (iA q) λj=>lS (room h 8) j λi=>fP 29 (pA k) 0 λg=>lI (room h 8) g λf=>FW SS 18 [(.int .i64 f)] (room h 8) λd e=>yS d λb=>(aj SS.P 9 e (.pointer (some j))=some (strOf i)/\dG 4 (strOf i) (strOf i)=true)/\au ((i:LB)==b) (aJ (fs (jc a n c s t k r N) o) p [(.slice a n c),(.int .i64 s),(.int .i64 t),(.bool false),(pA k),(sA r N N),(.int .i64 (wrap .i64 ((q:Int)+1)))] e) (LL SS gI [1,1,0,1,0,0,1,0,0,1,1,0,0] (jd a n c s t k r N q 0) e (KK SS gI [1,0,0,1,1,0] [1,1,0,1,0,0] (RR gI [1,1,0,1,0,0] (fs (jc a n c s t k r N) o) p (KK SS gI [1,1,0,1,0] [] (EE SS gI Q)))))) (Q (.tuple ⟨[(sA r N N),(.int .i64 0)]⟩) h))(p:Nat){q:Nat}{h:ae}(u:o p q h):LL SS gI [1,1,0,1,0,0] (jc a n c s t k r N q) h (KK SS gI [1,1,0,1,0] [] (EE SS gI Q)):=
 dc (jc a n c s t k r N) o (λp q v h u=>ai (step p q v h u)) p u
theorem AS(mv:LV)(a:OA)(n c:Nat)(D E:Int)(k C N:Nat)(F:Nat->Nat->ae->Prop)(H q:Nat)(B:Nat->Nat->ae->Prop)(Q:VH)(step:∀(A:Nat) (j:Nat) (I:Nat->Value) (h:ae),B A j h->fP 29 (pA k) 3 λV=>lL 27 h V λb2 K R=>iP 27 (.slice b2 K R) (iA q) λY=>fP 73 (.pointer (some Y)) 1 λS=>lL 71 h S λ_ J _=>au (decide (((j:Int):Int)<(J:Int))) (fP 29 (pA k) 3 λL=>lL 27 h L λX P W=>iP 27 (.slice X P W) (iA q) λU=>fP 73 (.pointer (some U)) 1 λT=>lL 71 h T λO Z M=>iP 71 (.slice O Z M) (iA j) λz=>lA 70 h (.pointer (some z)) λy=>xN (br SS.P 70) h λ_ x=>xU (ah SS.P 70 (pA (h.next)) (.agg ⟨y⟩) x) x λ_ w=>fP 70 (pA (h.next)) 0 λv=>lI w v λu=>au (((u:Int) !=D)) (aJ (fs (jd a n c D E k C N q) B) A [(.slice a n c),(.int .i64 D),(.int .i64 E),(.bool false),(pA k),(sA C N N),(iA q),(.int .i64 (wrap .i64 ((j:Int)+1)))] w) (fP 70 (pA (h.next)) 1 λt=>lI w t λs=>au (((s:Int) !=E)) (aJ (fs (jd a n c D E k C N q) B) A [(.slice a n c),(.int .i64 D),(.int .i64 E),(.bool false),(pA k),(sA C N N),(iA q),(.int .i64 (wrap .i64 ((j:Int)+1)))] w) (fP 29 (pA k) 0 λr=>lI (room w 13) r λp=>fP 70 (pA (h.next)) 3 λo=>lI (room w 13) o λm=>iP 107 (.slice a n c) (iA q) λl=>lS (room w 13) l λi=>fP 70 (pA (h.next)) 2 λg=>lS (room w 13) g λf=>FW SS 98 [(.int .i64 p),(sA C N N),(.int .i64 m),(strOf i),(strOf f)] (room w 13) λd e=>yI .i64 d λb=>au (((b:Int) !=0)) (Q (.tuple ⟨[nA,(.int .i64 b)]⟩) e) (aJ (fs (jd a n c D E k C N q) B) A [(.slice a n c),(.int .i64 D),(.int .i64 E),(.bool false),(pA k),(sA C N N),(iA q),(.int .i64 (wrap .i64 ((j:Int)+1)))] e)))) (aJ (fs (jc a n c D E k C N) F) H [(.slice a n c),(.int .i64 D),(.int .i64 E),(.bool false),(pA k),(sA C N N),(.int .i64 (wrap .i64 ((q:Int)+1)))] h))(A:Nat){j:Nat}{h:ae}(G:B A j h):LL SS gI [1,1,0,1,0,0,1,0,0,1,1,0,0] (jd a n c D E k C N q j) h (KK SS gI [1,0,0,1,1,0] [1,1,0,1,0,0] (RR gI [1,1,0,1,0,0] (fs (jc a n c D E k C N) F) H (KK SS gI [1,1,0,1,0] [] (EE SS gI Q)))):=
 dc (jd a n c D E k C N q) B (λA j I h G=>ai (step A j I h G)) A G
noncomputable def WY:FD:=cF Tryz.f75 []
theorem Sg(d:LV)(a:OA)(n c:Nat)(h:ae)(Q:VH)(e:xN (eL SS.P 29 (.agg ⟨d⟩)) h λ_ b=>Q (.tuple ⟨[(.slice a n c),(.int .i64 0)]⟩) b):FW SS 75 [(.agg ⟨d⟩),(.slice a n c),nA] h Q:=cI WY Tryz.func75 (ai e)
noncomputable def gH:FD:=cF Tryz.f75 [([1,1,1,0,1,0,0],[1,2,3,8,9]),([1,1,1,0,1,0,0,1,0,0,1,0,0],[1,2,3,8,9,10])]
abbrev kR(a:OA)(n c:Nat)(e:Addr)(m d k b:Nat)(q:Nat):LV:=[(.slice a n c),(.slice (some e) m d),(pA k),(sA b n n),(iA q)]
abbrev kS(a:OA)(n c:Nat)(e:Addr)(m d k b q:Nat)(p:Nat):LV:=[(.slice a n c),(.slice (some e) m d),(pA k),(sA b n n),(iA q),(iA p)]
theorem WZ(l:LV)(a:OA)(n c:Nat)(o:Addr)(m d:Nat)(h:ae)(Q:VH)(p:xN (eL SS.P 29 (.agg ⟨l⟩)) h λ_ k=>lA 29 k (pA (h.next)) λj=>FW SS 74 [(.agg ⟨j⟩)] k λg i=>yL g λb e f=>LL SS gH [1,1,1,0,1,0,0] [(.slice a n c),(.slice (some o) m d),(pA (h.next)),(.slice b e f),(.int .i64 0)] i (KK SS gH [1,1,1,0,1,0] [] (EE SS gH Q))):FW SS 75 [(.agg ⟨l⟩),(.slice a n c),(.slice (some o) m d)] h Q:=cI gH Tryz.func75 (ai p)
theorem AP(l:LV)(a:OA)(n c:Nat)(g:Addr)(m d:Nat)(k f:Nat)(e:Nat->Nat->ae->Prop)(Q:VH)(step:∀(b:Nat) (q:Nat) (j:Nat->Value) (h:ae),e b q h->au (decide (((q:Int):Int)<(n:Int))) (LL SS gH [1,1,1,0,1,0,0,1,0,0,1,0,0] [(.slice a n c),(.slice (some g) m d),(pA k),(sA f n n),(iA q),(.int .i64 0)] h (KK SS gH [1,0,0,1,0] [1,1,1,0,1,0,0] (RR gH [1,1,1,0,1,0,0] (fs (kR a n c g m d k f) e) b (KK SS gH [1,1,1,0,1,0] [] (EE SS gH Q))))) (Q (.tuple ⟨[(sA f n n),(.int .i64 0)]⟩) h))(b:Nat){q:Nat}{h:ae}(i:e b q h):LL SS gH [1,1,1,0,1,0,0] (kR a n c g m d k f q) h (KK SS gH [1,1,1,0,1,0] [] (EE SS gH Q)):=
 dc (kR a n c g m d k f) e (λb q j h i=>ai (step b q j h i)) b i
theorem AQ(W:LV)(a:OA)(n c:Nat)(B:Addr)(m d:Nat)(k D:Nat)(K:Nat->Nat->ae->Prop)(N q:Nat)(C:Nat->Nat->ae->Prop)(Q:VH)(step:∀(A:Nat) (p:Nat) (O:Nat->Value) (h:ae),C A p h->au (decide (((p:Int):Int)<(n:Int))) (iP 107 (.slice a n c) (iA q) λM=>lS (room h 21) M λF=>fP 29 (pA k) 0 λU=>lI (room h 21) U λS=>FW SS 18 [(.int .i64 S)] (room h 21) λV E=>yS V λT=>au ((F:LB)==T) ((aj SS.P 9 E (.pointer (some M))=some (strOf F)/\dG 4 (strOf F) (strOf F)=true)/\aJ (fs (kS a n c B m d k D q) C) A [(.slice a n c),(.slice (some B) m d),(pA k),(sA D n n),(iA q),(.int .i64 (wrap .i64 ((p:Int)+1)))] E) (iP 103 (.slice (some B) m d) (iA q) λP=>lL 107 E P λG I J=>iP 107 (.slice G I J) (iA p) λR=>lS E R λH=>fP 29 (pA k) 0 λz=>lI E z λy=>FW SS 18 [(.int .i64 y)] E λw x=>yS w λv=>(aj SS.P 9 E (.pointer (some M))=some (strOf F)/\dG 4 (strOf F) (strOf F)=true)/\(aj SS.P 107 x (.pointer (some P))=some (.slice G I J)/\dG 4 (.slice G I J) (.slice G I J)=true)/\(aj SS.P 9 x (.pointer (some R))=some (strOf H)/\dG 4 (strOf H) (strOf H)=true)/\au ((H:LB)==v) (aJ (fs (kS a n c B m d k D q) C) A [(.slice a n c),(.slice (some B) m d),(pA k),(sA D n n),(iA q),(.int .i64 (wrap .i64 ((p:Int)+1)))] x) (fP 29 (pA k) 0 λu=>lI (room x 17) u λt=>iP 107 (.slice a n c) (iA q) λs=>lS (room x 17) s λr=>iP 103 (.slice (some B) m d) (iA q) λo=>lL 107 (room x 17) o λi j l=>iP 107 (.slice i j l) (iA p) λh=>lS (room x 17) h λg=>FW SS 98 [(.int .i64 t),(sA D n n),(iA p),(strOf r),(strOf g)] (room x 17) λe f=>yI .i64 e λb=>au (((b:Int) !=0)) (Q (.tuple ⟨[nA,(.int .i64 b)]⟩) f) (aJ (fs (kS a n c B m d k D q) C) A [(.slice a n c),(.slice (some B) m d),(pA k),(sA D n n),(iA q),(.int .i64 (wrap .i64 ((p:Int)+1)))] f)))) (aJ (fs (kR a n c B m d k D) K) N [(.slice a n c),(.slice (some B) m d),(pA k),(sA D n n),(.int .i64 (wrap .i64 ((q:Int)+1)))] h))(A:Nat){p:Nat}{h:ae}(L:C A p h):LL SS gH [1,1,1,0,1,0,0,1,0,0,1,0,0] (kS a n c B m d k D q p) h (KK SS gH [1,0,0,1,0] [1,1,1,0,1,0,0] (RR gH [1,1,1,0,1,0,0] (fs (kR a n c B m d k D) K) N (KK SS gH [1,1,1,0,1,0] [] (EE SS gH Q)))):=
 dc (kS a n c B m d k D q) C (λA p O h L=>ai (step A p O h L)) A L
noncomputable def xj:FD:=cF Tryz.f78 [([1,1,0,1,0,0],[1,2,6,7])]
abbrev oB(a:OA)(n c k b:Nat)(q:Nat):LV:=[(.slice a n c),(pA k),(sA b 1 1),(iA q)]
theorem Z2(m:LV)(a:OA)(n c:Nat)(h:ae)(Q:VH)(o:xN (eL SS.P 29 (.agg ⟨m⟩)) h λ_ l=>fP 29 (pA (h.next)) 0 λk=>lI l k λj=>FW SS 18 [(.int .i64 j)] l λg i=>yS g λf=>xR (aI SS.P 107 1 [(0,(strOf f))]) i λ_ b d e=>LL SS xj [1,1,0,1,0,0] [(.slice a n c),(pA (h.next)),(sA (i.next) b d),(.int .i64 0)] e (KK SS xj [1,1,0,1,0] [] (EE SS xj Q))):FW SS 78 [(.agg ⟨m⟩),(.slice a n c)] h Q:=cI xj Tryz.func78 (ai o)
theorem BZ(G:LV)(a:OA)(n c:Nat)(k C:Nat)(A:Nat->Nat->ae->Prop)(Q:VH)(step:∀(B:Nat) (q:Nat) (E:Nat->Value) (h:ae),A B q h->au (decide (((q:Int):Int)<(n:Int))) (fP 29 (pA k) 3 λF=>lL 27 h F λx y z=>iP 27 (.slice x y z) (iA q) λw=>fP 73 (.pointer (some w)) 0 λv=>lS h v λu=>au (!((u:LB)==[])) (fP 29 (pA k) 0 λt=>lI (room h 15) t λs=>iP 107 (.slice a n c) (iA q) λr=>lS (room h 15) r λp=>fP 29 (pA k) 3 λo=>lL 27 (room h 15) o λj l m=>iP 27 (.slice j l m) (iA q) λi=>fP 73 (.pointer (some i)) 0 λg=>lS (room h 15) g λf=>FW SS 98 [(.int .i64 s),(sA C 1 1),(.int .i64 0),(strOf p),(strOf f)] (room h 15) λd e=>yI .i64 d λb=>au (((b:Int) !=0)) (Q (.tuple ⟨[(strOf []),(.int .i64 b)]⟩) e) (aJ (fs (oB a n c k C) A) B [(.slice a n c),(pA k),(sA C 1 1),(.int .i64 (wrap .i64 ((q:Int)+1)))] e)) (aJ (fs (oB a n c k C) A) B [(.slice a n c),(pA k),(sA C 1 1),(.int .i64 (wrap .i64 ((q:Int)+1)))] h)) (iP 107 (sA C 1 1) (.int .i64 0) λb=>lS h b λa=>Q (.tuple ⟨[(strOf a),(.int .i64 0)]⟩) h))(B:Nat){q:Nat}{h:ae}(D:A B q h):LL SS xj [1,1,0,1,0,0] (oB a n c k C q) h (KK SS xj [1,1,0,1,0] [] (EE SS xj Q)):=
 dc (oB a n c k C) A (λB q E h D=>ai (step B q E h D)) B D
noncomputable def jP:FD:=cF Tryz.f73 [([1,1,1,0,1,0,0],[1,2,6,7,8]),([1,1,1,0,1,0,0,1,0,0,1,1,0,0],[1,2,6,7,8,9])]
abbrev mn(k a N:Nat)(q:Nat)(an:Bool):LV:=[(.bool false),(pA k),(sA a N N),(.bool an),(iA q)]
abbrev kg(k a N q:Nat)(j:Nat)(an:Bool):LV:=[(.bool false),(pA k),(sA a N N),(.bool an),(iA q),(iA j)]
theorem Z4(g:LV)(h:ae)(Q:VH)(i:xN (eL SS.P 29 (.agg ⟨g⟩)) h λ_ f=>fP 29 (pA (h.next)) 3 λe=>lL 27 f e λ_ d _=>xR (ch SS.P 103 (iA d) (iA d)) f λ_ a b c=>LL SS jP [1,1,1,0,1,0,0] [(.bool false),(pA (h.next)),(sA (f.next) a b),(.bool false),(.int .i64 0)] c (KK SS jP [1,1,1,0,1,0] [] (EE SS jP Q))):FW SS 73 [(.agg ⟨g⟩),(.bool false)] h Q:=cI jP Tryz.func73 (ai i)
theorem B0(t:LV)(k m N:Nat)(l:Nat->Nat->Bool->ae->Prop)(Q:VH)(step:∀(j:Nat) (q:Nat) (an:Bool) (s:Nat->Value) (h:ae),l j q an h->au (decide (((q:Int):Int)<(N:Int))) (lA 29 h (pA k) λi=>FW SS 74 [(.agg ⟨i⟩)] h λf g=>yL f λc d e=>iP 103 (sA m N N) (iA q) λb=>xU (ah SS.P 107 (.pointer (some b)) (.slice c d e) g) g λ_ a=>LL SS jP [1,1,1,0,1,0,0,1,0,0,1,1,0,0] (kg k m N q 0 an) a (KK SS jP [1,0,0,1,1,0] [1,1,1,0,1,0,0] (RR jP [1,1,1,0,1,0,0] (pL (mn k m N) l) j (KK SS jP [1,1,1,0,1,0] [] (EE SS jP Q))))) (au (!an) (Q (.tuple ⟨[nA,(.int .i64 0)]⟩) h) (au (decide (((N:Int):Int)>60)) (Q (.tuple ⟨[nA,(.int .i64 2)]⟩) h) (fP 29 (pA k) 0 λe=>lI h e λd=>FW SS 97 [(.int .i64 d),(sA m N N)] h λb c=>∃(o:OA) (n p:Nat),∃a:Int,b=(.tuple ⟨[(.slice o n p),(.int .i64 a)]⟩)/\Q (.tuple ⟨[(.slice o n p),(.int .i64 a)]⟩) c))))(j:Nat){q:Nat}{an:Bool}{h:ae}(r:l j q an h):LL SS jP [1,1,1,0,1,0,0] (mn k m N q an) h (KK SS jP [1,1,1,0,1,0] [] (EE SS jP Q)):=
 mh (mn k m N) l (λj q an s h r=>ai (step j q an s h r)) j r
theorem B1(mv:LV)(k B N:Nat)(E:Nat->Nat->Bool->ae->Prop)(G q:Nat)(C:Nat->Nat->Bool->ae->Prop)(Q:VH)(step:∀(A:Nat) (j:Nat) (an:Bool) (H:Nat->Value) (h:ae),C A j an h->fP 29 (pA k) 3 λc5=>lL 27 h c5 λc2 c3 R=>iP 27 (.slice c2 c3 R) (iA q) λY=>fP 73 (.pointer (some Y)) 1 λc0=>lL 71 h c0 λ_ V _=>au (decide (((j:Int):Int)<(V:Int))) (fP 29 (pA k) 3 λS=>lL 27 h S λZ L b7=>iP 27 (.slice Z L b7) (iA q) λT=>fP 73 (.pointer (some T)) 1 λK=>lL 71 h K λU b1 b2=>iP 71 (.slice U b1 b2) (iA j) λJ=>lA 70 h (.pointer (some J)) λM=>xN (br SS.P 70) h λ_ I=>xU (ah SS.P 70 (pA (h.next)) (.agg ⟨M⟩) I) I λ_ D=>fP 70 (pA (h.next)) 0 λa5=>lI D a5 λX=>au (((X:Int) !=0)) (aJ (pL (kg k B N q) C) A [(.bool false),(pA k),(sA B N N),(.bool an),(iA q),(.int .i64 (wrap .i64 ((j:Int)+1)))] D) (fP 70 (pA (h.next)) 1 λW=>lI D W λO=>au (((O:Int) !=0)) (aJ (pL (kg k B N q) C) A [(.bool false),(pA k),(sA B N N),(.bool an),(iA q),(.int .i64 (wrap .i64 ((j:Int)+1)))] D) (fP 29 (pA k) 0 λa1=>lI (room D 18) a1 λP=>iP 103 (sA B N N) (iA q) λz=>lL 107 (room D 18) z λw x y=>fP 70 (pA (h.next)) 3 λv=>lI (room D 18) v λu=>iP 107 (.slice w x y) (.int .i64 u) λt=>lS (room D 18) t λs=>fP 70 (pA (h.next)) 2 λr=>lS (room D 18) r λp=>FW SS 62 [(.int .i64 P),(strOf s),(strOf p)] (room D 18) λn o=>∃m:LB,∃l:Int,n=(.tuple ⟨[(strOf m),(.int .i64 l)]⟩)/\au (((l:Int) !=0)) (Q (.tuple ⟨[nA,(.int .i64 l)]⟩) o) (iP 103 (sA B N N) (iA q) λi=>lL 107 (room o 9) i λe f g=>fP 70 (pA (h.next)) 3 λd=>lI (room o 9) d λc=>iP 107 (.slice e f g) (.int .i64 c) λb=>xU (ah SS.P 9 (.pointer (some b)) (strOf m) (room o 9)) (room o 9) λ_ a=>aJ (pL (kg k B N q) C) A [(.bool false),(pA k),(sA B N N),(.bool true),(iA q),(.int .i64 (wrap .i64 ((j:Int)+1)))] a)))) (aJ (pL (mn k B N) E) G [(.bool false),(pA k),(sA B N N),(.bool an),(.int .i64 (wrap .i64 ((q:Int)+1)))] h))(A:Nat){j:Nat}{an:Bool}{h:ae}(F:C A j an h):LL SS jP [1,1,1,0,1,0,0,1,0,0,1,1,0,0] (kg k B N q j an) h (KK SS jP [1,0,0,1,1,0] [1,1,1,0,1,0,0] (RR jP [1,1,1,0,1,0,0] (pL (mn k B N) E) G (KK SS jP [1,1,1,0,1,0] [] (EE SS jP Q)))):=
 mh (kg k B N q) C (λA j an H h F=>ai (step A j an H h F)) A F
section
theorem sT{kind:Int}{a:List UInt8}(h:bG kind a=true):aM kind a=true:=by
 unfold bG at h;rw[and_eq_true,and_eq_true]at h;obtain⟨⟨c,d⟩,b⟩:=h;unfold aM;rw[c,d,Bool.true_and,Bool.true_and];rw[or_eq_true]at b;rcases b with h|h
 ·rw[h];simp
 ·have:=dT h;rw[decide_eq_true (show 0<=da a [48] by omega)];simp
structure Pf(M:bp):Prop where
 kind:1<=M.kind/\M.kind<=3
 fin:∀s∈M.af,s.f≠[]->aM M.kind s.f=true
 arc:∀s∈M.af,∀a∈s.arcs,aM M.kind a.w=true/\0<=a.t/\a.t<M.af.length
 lead:aM M.kind M.lead=true
 start:0<=M.start/\M.start<M.af.length
 n:M.af.length<=3000
 m:∀s∈M.af,s.arcs.length<=30000
theorem GU{kind:Int}{N:Nat}:∀{l:List dx}{a:Int},0<=a->nY kind N a l=true->∀s∈l,s.arcs.length<=30000
 |s::r,a,c,h,x,b=>by
  unfold nY at h;rw[and_eq_true,and_eq_true,and_eq_true,decide_eq_true_eq]at h;rcases mem_cons.1 b with rfl|b
  ·omega
  ·exact GU (by omega) h.2 x b
theorem qB{M:bp}(h:ca M=true):Pf M:=by
 unfold ca at h;simp only[and_eq_true,decide_eq_true_eq]at h;obtain⟨⟨⟨⟨⟨⟨⟨j,k⟩,f⟩,d⟩,e⟩,n⟩,l⟩,g⟩:=h;have b:=AI g;refine⟨⟨j,k⟩,λs c i=>?_,λs c a m=>?_,sT l,⟨e,n⟩,d,GU (by omega) g⟩
 ·have:=(b s c).1;rw[or_eq_true]at this;rcases this with h|h
  ·exact absurd (cn h) i
  ·exact sT h
 ·have:=(b s c).2 a m;unfold ic at this;simp only[and_eq_true,decide_eq_true_eq]at this;obtain⟨⟨⟨⟨_,_⟩,f⟩,d⟩,e⟩:=this;exact⟨sT e,f,d⟩
def Dn(a:gj):ju (List UInt8):=⟨a.i,a.o,a.w,a.t.toNat⟩
def Cc(s:dx):I0 (List UInt8):=⟨if s.f=[]then none else some s.f,s.arcs.map Dn⟩
def gm(M:bp):gr (List UInt8):=⟨M.lead,M.start.toNat,M.af.map Cc⟩
theorem T9{M:bp}{q:Nat}{s:dx}(h:M.af[q]?=some s):(gm M).bJ.getD q dN=Cc s:=by
 show(M.af.map Cc).getD q _=_;rw[gD,getElem?_map,h];rfl
theorem aaz{s:dx}{a:gj}(h:s.arcs[j]?=some a)(O:qn (List UInt8)):(Cc s).arcs.getD j (ck O)=Dn a:=by
 show(s.arcs.map Dn).getD j _=_;rw[gD,getElem?_map,h];rfl
theorem Dr(M:bp):(gm M).bJ.length=M.af.length:=lM _
theorem Uc(s:dx):(Cc s).arcs.length=s.arcs.length:=lM _
structure VV(kind:Int)(n:Nat)(l:List (List UInt8)):Prop where
 len:l.length=n
 val:∀i,i<n->aM kind (l.getD i [])=true
theorem VV.at_{kind:Int}{n:Nat}{l:List (List UInt8)}(v:VV kind n l){i:Nat}(a:i<n)(d:List UInt8):l.getD i d=l.getD i []:=Gb (by rw[v.len];exact a) _ _
theorem VV.set{kind:Int}{n:Nat}{l:List (List UInt8)}(v:VV kind n l){t:Nat}{x:List UInt8}(b:aM kind x=true):VV kind n (l.set t x):=by
 refine⟨by rw[length_set];exact v.len,λi a=>?_⟩;by_cases c:t<l.length
 ·rw[dv c];split
  ·exact b
  ·exact v.val i a
 ·rw[List.set_eq_of_length_le (by omega)];exact v.val i a
theorem VV.Pd{kind:Int}(b:1<=kind/\kind<=3)(n:Nat):VV kind n (bw (aY kind) n):=by
 refine⟨length_replicate,λi a=>?_⟩;show aM kind ((List.replicate n (bE kind)).getD i [])=true;rw[gD,getElem?_replicate,if_pos a];exact oD b
section
variable {kind:Int} {kl n cl t:Nat} {l:List (List UInt8)} {a b:List UInt8} {g g' h:ae}
theorem Hp(d:VV kind n l)(i:aM kind a=true)(h:aM kind b=true)(g:t<n){l':List (List UInt8)}(e:gK (aY kind) l t a b=some l'):VV kind n l':=by
 unfold gK at e
 cases c:(aY kind).times a b with
 |none=>rw[c]at e;cases e
 | some p=>
  rw[c]at e;dsimp only at e;have j:=AJ i h c
  cases f:(aY kind).plus (l.getD t (aY kind).zero) p with
  |none=>rw[f]at e;cases e
  |some s=>
   rw[f]at e;obtain rfl:=oI e;refine d.set (yz (a:=l.getD t (aY kind).zero) (b:=p) ?_ j f);rw[d.at_ g];exact d.val t g
def aeq(g:ae)(kl:Nat)(r:Option (List (List UInt8))):VH:=λv g'=>zH (λk=>k=kl) g g'/\match r with
 |none=>v = .int .i64 2
 |some l'=>v = .int .i64 0/\VB g' kl l'
theorem IM(w:Wf g)(z:VB g kl l)(h:VV kind n l)(c:t<n)(q:aM kind a=true)(m:aM kind b=true):FW SS 98 [.int .i64 kind,sA kl n cl,iA t,strOf a,strOf b] g (aeq g kl (gK (aY kind) l t a b)):=by
 refine Z1 kind kl n cl t a b g _ ((wX q m w).mono ?_);rintro _ x ⟨rfl,d⟩;unfold gK;have y:(aY kind).times a b=dg kind a b:=rfl;rw[y]
 cases r:dg kind a b with
 |none=>exact⟨_,_,rfl,aa (λ_=>⟨d.okS,rfl⟩) (λe=>by cases e)⟩
 | some p=>
  have i:VB x kl l:=d.ext _ _ z;have A:=AJ q m r;have u:=h.val t c;refine⟨_,_,rfl,aa (λe=>by cases e) (λ_=>⟨_,VB.ix ty c,_,i.ld ty (by rw[h.len];exact c),(qZ u A d.wf).mono ?_⟩)⟩;rintro _ o ⟨rfl,f⟩;have j:VB o kl l:=f.ext _ _ i;dsimp only;rw[h.at_ c (aY kind).zero];have v:(aY kind).plus (l.getD t []) p=eM kind (l.getD t []) p:=rfl;rw[v]
  cases B:eM kind (l.getD t []) p with
  |none=>exact⟨_,_,rfl,aa (λe=>by cases e) (λ_=>⟨(d.trans f).okS,rfl⟩)⟩
  |some s=>
   refine⟨_,_,rfl,aa (λ_=>⟨_,VB.ix ty c,_,j.st ty (by rw[h.len];exact c) _,?_⟩) (λe=>by cases e)⟩;refine⟨(d.trans f).okS.trans (zH.set (X:=λk=>k=kl) f.wf rfl (f.wf _ _ j) _),rfl,?_⟩;show(o.set kl _).get kl=_;rw[ae.aw,if_pos rfl]
noncomputable def ti9:TypeInfo:=(SS.P.info? 9).getD default
theorem ab2:SS.P.info? 9=some ti9:=by kernel_rfl
theorem WM:ti9.size=1:=by kernel_rfl
theorem Se:ti9.bytes=16:=by kernel_rfl
theorem aei:zeroOf SS.P 9=some (strOf []):=by kernel_rfl
theorem aaD(n:Nat)(a:n<=100000):ch SS.P 107 (.int .i64 (n:Int)) (.int .i64 (n:Int))=some (.cells (eI (List.replicate n [])) 9 1 true,mR n n):=by
 unfold ch bW;dsimp only;rw[Eb]
 try dsimp only
 change (match SS.P.info? 9,zeroOf SS.P 9 with
  |some i,some z=>(if z.cells.size=i.size/\0<i.size/\(0:Int)<=(n:Int)/\(n:Int)<=(n:Int)/\(n:Int)*i.bytes<=140737488355328/\(n:Int)<=1099511627776 then some (dV.cells (db z.cells.toList (n:Int).toNat) 9 i.size true,λk=>Value.slice (some ⟨k,0,none⟩) (n:Int).toNat (n:Int).toNat)else none)
  |_,_=>none)=_
 rw[ab2,aei];dsimp only;rw[WM,Se,if_pos ⟨rfl,by omega,by omega,Int.le_refl _,by omega,by omega⟩];have e:((n:Int)).toNat=n:=by omega
 rw[e,show(strOf []).cells.toList=[strOf []]from rfl,nD];unfold eI;rw[List.map_replicate];rfl
end
structure WI(h:ae)(M:bp)(x:Option Addr)(y z k kl:Nat)(l:List (List UInt8))(g:ae):Prop where
 box:g.get k=some (.cells (bK M x y z) 29 0 true)
 vb:VB g kl l
 ok:Ok h g
 nk:h.next<=k
 nl:h.next<=kl
 ne:k≠kl
section
variable {h g g':ae} {M:bp} {x:Option Addr} {y z k kl:Nat} {l l':List (List UInt8)}
theorem WI.mb(i:WI h M x y z k kl l g)(r:dy h (.slice x y z) M.af):MB g k M x y z:=⟨i.box,r.ok i.ok⟩
theorem WI.step(i:WI h M x y z k kl l g)(w:Wf h)(o:zH (λj=>j=kl) g g')(v:VB g' kl l'):WI h M x y z k kl l' g':=⟨o.ext _ _ i.ne i.box,v,o.ok i.ok w (λj e=>by rw[e];exact i.nl),i.nk,i.nl,i.ne⟩
theorem WI.sk(i:WI h M x y z k kl l g)(o:Ok g g'):WI h M x y z k kl l g':=⟨o.ext _ _ i.box,o.ext _ _ i.vb,i.ok.trans o,i.nk,i.nl,i.ne⟩
theorem WI.room(i:WI h M x y z k kl l g)(n:Nat):WI h M x y z k kl l (Go.Ab.room g n):=⟨i.box,i.vb,i.ok.room n,i.nk,i.nl,i.ne⟩
theorem WI.set(i:WI h M x y z k kl l g)(w:Wf h)(l':List (List UInt8)):WI h M x y z k kl l' ((dP.set kl (.cells (eI l') 9 1 true)).app g):=
 i.step w (zH.set (X:=λj=>j=kl) i.ok.wf rfl (i.ok.wf _ _ i.vb) _) (by show(g.set kl _).get kl=_;rw[ae.aw,if_pos rfl])
theorem vw(w:Wf h)(n:Pf M)(r:dy h (.slice x y z) M.af):FW SS 74 [.agg ⟨bK M x y z⟩] h (λv g=>∃kl,v=sA kl M.af.length M.af.length/\VB g kl (bw (aY M.kind) M.af.length)/\h.next<=kl/\Ok h g):=by
 obtain⟨c,b⟩:=fv w r;obtain rfl:y=M.af.length:=c.len;have D:=n.n;refine Si (bK M x M.af.length z) h _ ⟨_,iS M x _ z,_,cZ _,_,_,_,c.l3,_,_,_,aaD _ (by omega),?_⟩;generalize h.push (Bm M x M.af.length z)=f at*;have A:=aO f (.cells (eI (List.replicate M.af.length [])) 9 1 true);have k:=(Ok.refl b.wf).push (.cells (eI (List.replicate M.af.length [])) 9 1 true);have t:WI h M x M.af.length z h.next f.next (List.replicate M.af.length []) (f.push (.cells (eI (List.replicate M.af.length [])) 9 1 true)):=⟨k.ext _ _ c.box,A,b.trans k,Nat.le_refl _,b.nx,by have:=b.wf _ _ c.box;omega⟩
 refine zl (bK M x M.af.length z) h.next f.next M.af.length (λm i g=>i<=M.af.length/\m=M.af.length-i/\∃l,WI h M x M.af.length z h.next f.next l g/\l.length=M.af.length/\∀a,a<i->l.getD a []=bE M.kind) _ (λm i=>?_) M.af.length (i:=0) ⟨by omega,rfl,_,t,length_replicate,λa B=>by omega⟩;intros;rename_i g j;obtain⟨G,F,l,d,o,s⟩:=j;refine aa (λq=>?_) (λq=>?_)
 ·have p:i<M.af.length:=by have:=dT q;omega
  refine⟨_,du _,_,(d.mb r).l0,(fO n.kind g).mono ?_⟩;rintro _ g' ⟨rfl,C⟩;obtain rfl:g=g':=C.symm;refine⟨_,rfl,_,VB.ix ty p,_,d.vb.st ty (by omega) _,?_⟩;rw[aP p (by omega)];refine bZ (M.af.length-(i+1)) (by omega) ⟨by omega,rfl,l.set i (bE M.kind),d.set w _,by rw[length_set];exact o,λa B=>?_⟩;rw[dv (by omega)];split
  ·rfl
  ·exact s a (by omega)
 ·obtain rfl:i=M.af.length:=by have:=dF q;omega
  refine⟨_,rfl,?_,b.nx,d.ok⟩;have:l=bw (aY M.kind) M.af.length:=by
   refine ext_getElem (by rw[o];exact length_replicate.symm) λa u E=>?_;have:=s a (by omega);rw[gD,gE u]at this;have e:(bw (aY M.kind) M.af.length)[a]=bE M.kind:=List.getElem_replicate ..;rw[e];exact this
  rw[<-this];exact d.vb
end
def WW(h:ae)(kind:Int)(n:Nat)(o:Option (List (List UInt8))):VH:=λv g=>Ok h g/\match o with
 |none=>v = .tuple ⟨[nA,.int .i64 2]⟩
 |some l=>∃(a:Option Addr)(c:Nat),v = .tuple ⟨[.slice a n c,.int .i64 0]⟩/\Rd g 9 (.slice a n c) (eI l)/\VV kind n l
section
variable {h:ae} {kind:Int} {a b:Option Addr} {n c d:Nat} {A B:List (List UInt8)}
theorem Sc{a:Type}{l:List a}{n:Nat}(b:l.length=n)(c:i<n)(x:a):(l.set i x).take (i+1)=l.take i++[x]:=by
 rw[kf (d:=x) (by rw[length_set];omega),lG (Nat.le_refl _),dv (by omega),if_pos rfl]
theorem Z7(w:Wf h)(S:n<=3000)(L:Rd h 9 (.slice a n c) (eI A))(o:VV kind n A)(K:Rd h 9 (.slice b n d) (eI B))(t:VV kind n B):FW SS 77 [.int .i64 kind,.slice a n c,.slice b n d] h (WW h kind n (nG (aY kind) A B)):=by
 refine Z6 kind a n c b n d h _ ⟨_,_,_,aaD n (by omega),?_⟩;have M:=aO h (.cells (eI (List.replicate n [])) 9 1 true);have I:=(Ok.refl w).push (.cells (eI (List.replicate n [])) 9 1 true);obtain⟨G,D⟩:∃G,G=nG (aY kind) A B:=⟨_,rfl⟩
 rw[<-D];refine B2 kind a n c b n d h.next (λy i g=>i<=n/\y=n-i/\Ok h g/\∃l,VB g h.next l/\l.length=n/\(∀j,j<i->aM kind (l.getD j [])=true)/\bg (xz (aY kind) A B) (n-i) i (l.take i)=G) _ (λy i=>?_) n (i:=0) ⟨by omega,rfl,I,_,M,length_replicate,λj Q=>by omega,by rw[take_zero,D];unfold nG;rw[o.len,sub_zero]⟩;intros;rename_i g x;obtain⟨W,U,H,l,F,r,z,k⟩:=x;refine aa (λq=>?_) (λq=>?_)
 ·have f:i<n:=by have:=dT q;omega
  have m:=H.room 15;obtain⟨V,J,P⟩:=Rd.cell ty (L.ok m) (j:=i) (by rw[o.len];exact f);obtain⟨T,N,O⟩:=Rd.cell ty (K.ok m) (j:=i) (by rw[t.len];exact f);refine⟨_,J,_,P,_,N,_,O,(qZ (o.val i f) (t.val i f) m.wf).mono ?_⟩;rintro _ C ⟨rfl,E⟩;have p:=m.trans E;rw[fo _ f]at k;unfold xz at k;rw[o.at_ f (aY kind).zero,t.at_ f (aY kind).zero]at k;have R:(aY kind).plus (A.getD i []) (B.getD i [])=eM kind (A.getD i []) (B.getD i []):=rfl;rw[R]at k
  cases v:eM kind (A.getD i []) (B.getD i [])with
  |none=>
   rw[v]at k;exact⟨_,_,rfl,aa (λ_=>⟨p,by rw[<-k]⟩) (λe=>by cases e)⟩
  | some s=>
   rw[v]at k;have u:VB C h.next l:=E.ext _ _ F;refine⟨_,_,rfl,aa (λe=>by cases e) (λ_=>⟨_,VB.ix ty f,_,u.st ty (by omega) _,?_⟩)⟩;rw[aP f (by omega)];refine bZ (n-(i+1)) (by omega) ⟨by omega,rfl,p.set _ (Nat.le_refl _) (p.wf _ _ u) w,l.set i s,?_,by rw[length_set];exact r,λj Q=>?_,?_⟩
   ·show(C.set h.next _).get h.next=_;rw[ae.aw,if_pos rfl]
   ·rw[dv (by omega)];split
    ·exact yz (o.val i f) (t.val i f) v
    ·exact z j (by omega)
   ·rw[Sc r f];exact k
 ·obtain rfl:i=n:=by have:=dF q;omega
  rw[iM,take_of_length_le (by omega)]at k;rw[<-k];have:=F.rd i;rw[r]at this;exact⟨H,_,_,rfl,this,⟨r,z⟩⟩
end
section
variable {h:ae} {M:bp} {x a:Option Addr} {y z n c:Nat} {V:List (List UInt8)}
def stR(M:bp)(V:List (List UInt8))(a b:Int)(q:Nat)(l:List (List UInt8)):Option (List (List UInt8)):=bg (qO (aY M.kind) (gm M) V a b) (M.af.length-q) q l
theorem N7(O:qn (List UInt8))(n:Nat):(bw O n).length=n:=length_replicate
theorem Xb(w:Wf h)(H:Pf M)(r:dy h (.slice x y z) M.af)(rv:Rd h 9 (.slice a M.af.length c) (eI V))(J:VV M.kind M.af.length V)(i k:Int):FW SS 76 [.agg ⟨bK M x y z⟩,.slice a M.af.length c,.int .i64 i,.int .i64 k,.bool false] h (WW h M.kind M.af.length (kU (aY M.kind) (gm M) V i k)):=by
 obtain⟨t,D⟩:=fv w r;obtain rfl:y=M.af.length:=t.len;have hn:=H.n;refine Xa (bK M x M.af.length z) a _ c i k h _ ⟨_,iS M x _ z,_,t.all,(vw D.wf H t.row).mono ?_⟩;rintro _ g1 ⟨kl,rfl,x2,nl,o1⟩;refine⟨_,_,_,rfl,?_⟩;have x3:=D.wf _ _ t.box;have i1:WI h M x M.af.length z h.next kl (bw (aY M.kind) M.af.length) g1:=⟨o1.ext _ _ t.box,x2,D.trans o1,Nat.le_refl _,Nat.le_trans D.nx nl,by omega⟩
 obtain⟨G,hG⟩:∃G,G=kU (aY M.kind) (gm M) V i k:=⟨_,rfl⟩
 rw[<-hG];have x0:stR M V i k 0 (bw (aY M.kind) M.af.length)=G:=by rw[hG];unfold stR kU;rw[Dr,sub_zero]
 refine AR (bK M x M.af.length z) a M.af.length c i k h.next kl M.af.length (λU q g=>q<=M.af.length/\U=M.af.length-q/\∃l,WI h M x M.af.length z h.next kl l g/\VV M.kind M.af.length l/\stR M V i k q l=G) _ (λU q=>?_) M.af.length (q:=0) ⟨by omega,rfl,_,i1,VV.Pd H.kind _,x0⟩;intros;rename_i g x1;obtain⟨f1,f2,l,A,N,m⟩:=x1;have mb:=A.mb r;refine⟨_,cZ _,_,_,_,mb.l3,aa (λZ=>?_) (λZ=>?_)⟩
 ·have p:q<M.af.length:=by have:=dT Z;omega
  obtain⟨s,W⟩:∃s,M.af[q]?=some s:=⟨_,gE p⟩
  have P:=List.mem_of_getElem? W;obtain⟨p1,e1,e2⟩:=Rd.cell ty (rv.ok (A.room 8).ok) (j:=q) (by rw[J.len];exact p);refine⟨_,e1,_,e2,_,du _,_,((A.room 8).mb r).l0,(fO H.kind _).mono ?_⟩;rintro _ g0 ⟨rfl,e0⟩;obtain rfl:Go.Ab.room g 8=g0:=e0.symm;unfold stR at m;rw[fo _ p]at m;unfold qO at m;rw[J.at_ p (aY M.kind).zero,T9 W,Uc]at m;have ez:(aY M.kind).yj (V.getD q [])=(V.getD q []==bE M.kind):=rfl;rw[ez]at m;refine⟨_,rfl,⟨e2,ml _⟩,aa (λX=>?_) (λX=>?_)⟩
  ·rw[if_pos X]at m;rw[aP p (by omega)];exact bZ (M.af.length-(q+1)) (by omega) ⟨by omega,rfl,l,A.room 8,N,m⟩
  ·rw[if_neg (by rw[X];simp)]at m;refine AS (bK M x M.af.length z) a M.af.length c i k h.next kl M.af.length _ U q (λQ j g=>j<=s.arcs.length/\Q=s.arcs.length-j/\∃l,WI h M x M.af.length z h.next kl l g/\VV M.kind M.af.length l/\(match bg (jV (aY M.kind) i k (V.getD q []) (Cc s).arcs) (s.arcs.length-j) j l with|none=>none|some l'=>stR M V i k (q+1) l')=G) _ (λQ j=>?_) s.arcs.length (j:=0) ⟨by omega,rfl,l,A.room 8,N,?_⟩
   ·intros;rename_i g2 Y;obtain⟨d1,d2,I,F,v,d⟩:=Y;have K:=F.mb r;obtain⟨b,o,xa,ya,za,u1,u2,u3,u4,ar⟩:=K.row.at_ W;have hm:=ar.len;subst hm;refine⟨_,cZ _,_,_,_,K.l3,_,u1,_,iG _ _,_,_,_,u4,aa (λT=>?_) (λT=>?_)⟩
    ·have hj:j<s.arcs.length:=by have:=dT T;omega
     obtain⟨f,L⟩:∃f,s.arcs[j]?=some f:=⟨_,gE hj⟩
     obtain⟨b2,o2,v1,v2,v3,v4,v5,v6⟩:=ar.at_ L;obtain⟨u,p1,p2,p3⟩:=KI F.ok.wf f;have E:=F.sk p2;have hw:=H.arc s P f (List.mem_of_getElem? L);rw[fo _ hj]at d;unfold jV at d;rw[aaz L]at d;rw[aP hj (by have:=H.m s P;omega)];refine⟨_,cZ _,_,_,_,K.l3,_,u1,_,iG _ _,_,_,_,u4,_,v1,_,v2,_,SZ,u,p1,?_⟩;generalize u.app (g2.push Pe)=g3 at*;refine⟨_,Ac _ _,_,p3.l0,aa (λB=>?_) (λB=>⟨_,Ad _ _,_,p3.l1,aa (λC=>?_) (λC=>?_)⟩)⟩
     ·have B:f.i≠i:=by simpa using B
      rw[if_pos (.inl B)]at d;exact bZ (s.arcs.length-(j+1)) (by omega) ⟨by omega,rfl,I,E,v,d⟩
     ·have C:f.o≠k:=by simpa using C
      rw[if_pos (.inr C)]at d;exact bZ (s.arcs.length-(j+1)) (by omega) ⟨by omega,rfl,I,E,v,d⟩
     ·have B:f.i=i:=by simpa using B
      have C:f.o=k:=by simpa using C
      rw[if_neg (by rintro(h|h)<;>exact h (by first|exact B|exact C))]at d;have n:=E.room 13;obtain⟨p6,e6,e7⟩:=Rd.cell ty (rv.ok n.ok) (j:=q) (by rw[J.len];exact p);have ht:f.t.toNat<M.af.length:=by omega
      have et:f.t=((f.t.toNat:Nat):Int):=by omega
      have R:=p3.ok ((Ok.refl E.ok.wf).room 13);have S:=R.l3;rw[et]at S;refine⟨_,du _,_,(n.mb r).l0,_,rW _ _,_,S,_,e6,_,e7,_,Dg _ _,_,R.l2,(IM n.ok.wf n.vb v ht (J.val q p) hw.1).mono ?_⟩;rintro _ g5 ⟨o5,O⟩;have ea:gK (aY M.kind) I (Dn f).t (V.getD q []) (Dn f).w=gK (aY M.kind) I f.t.toNat (V.getD q []) f.w:=rfl;rw[ea]at d
      cases e8:gK (aY M.kind) I f.t.toNat (V.getD q []) f.w with
      |none=>
       rw[e8]at O d;subst O;exact⟨_,rfl,aa (λ_=>⟨o5.ok n.ok w (λj e=>by rw[e];exact n.nl),by rw[<-d]⟩) (λe=>by cases e)⟩
      |some l5=>
       rw[e8]at O d;obtain⟨rfl,v5⟩:=O;exact⟨_,rfl,aa (λe=>by cases e) (λ_=>bZ (s.arcs.length-(j+1)) (by omega) ⟨by omega,rfl,l5,n.step w o5 v5,Hp v (J.val q p) hw.1 ht e8,d⟩)⟩
    ·obtain rfl:j=s.arcs.length:=by have:=dF T;omega
     rw[iM]at d;rw[aP p (by omega)];exact bZ (M.af.length-(q+1)) (by omega) ⟨by omega,rfl,I,F,v,d⟩
   ·rw[sub_zero];rw[<-m]
    cases bg (jV (aY M.kind) i k (V.getD q []) (Cc s).arcs) s.arcs.length 0 l<;>rfl
 ·obtain rfl:q=M.af.length:=by have:=dF Z;omega
  unfold stR at m;rw[iM]at m;rw[<-m];have:=A.vb.rd M.af.length;rw[N.len]at this;exact⟨A.ok,_,_,rfl,this,N⟩
end
end
end Go.Proofs.YtaaichlgdgjgjaaGreatDoor
end
