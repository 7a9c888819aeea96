/- Laws and walks that the proof leans on (part 5): P19; W9; P20; NumMul; P21; NumParts and others. No condition. -/
import Derived.Test.YtoabjjimjldcfaaGreatDoorPart4
import Derived.Test.YtoabjjimjldcfaaGreatDoorPart3
section
set_option linter.unusedVariables false
set_option maxRecDepth 100000
namespace Go.Proofs.YtoabjjimjldcfaaGreatDoor
open Go Go.Ab
noncomputable def WP:Blk:= .cells [.pointer none,.slice none 0 0] 163 0 true
theorem W5:bi SS.P 163=some (WP,kw):=by kernel_rfl
theorem Wx {h0 h g:Heap}{k:Nat}{l:List UInt8}(b:Bd h0 h k l)(o:Ok h g):Bd h0 g k l:=by
 obtain ⟨a,v,h1,h2,h3,h4⟩:=b
 exact ⟨a,v,o.ext _ _ h1,h2,EU h3 fun j B hj _=>o.ext _ _ hj,h4⟩
theorem sg {h:Heap}{a:Option Addr}{n c X:Nat}(ra:Rd h 103 (.slice a n c) (bl X))(hlen:(Num.toB BB X).length<=10000)(t:Tab h)(w:Wf h):
  FW SS 161 [.slice a n c] h (fun v h'=>v=aa (Num.toDec X)/\Ok h h'):=by
 have hn:n=(Num.toB BB X).length:=by have:=ra.len; rwa [lM] at this
 refine I2 a n c h _ (ae (fun g=> ?_) (fun g=> ?_))
 ·have g:(n:Int)=0:=by simpa using g
  have h0:(Num.toB BB X).length=0:=by omega
  have:X=0:=by have:=(Num.toB_eq_nil cG).1 (List.eq_nil_of_length_eq_zero h0); omega
  subst this
  refine ⟨?_,Ok.refl w⟩
  rw [Num.toDec_lt (by omega)]; rfl
 ·have g: ¬ (n:Int)=0:=by simpa using g
  have hX:0 < X:=by
   rcases Nat.eq_zero_or_pos X with h | h
   ·subst h; rw [(Num.toB_eq_nil cG).2 rfl] at hn; simp at hn; omega
   ·exact h
  have htop:=Num.toB_top cG hX
  have hlt:=Num.toB_lt cG X
  have hbv:=Num.bv_toB cG X
  have ra:Rd h 103 (.slice a n c) ((Num.toB BB X).map uv):=ra
  generalize hx:Num.toB BB X=x at *
  have L:=r7 a n c ⟨h.next,0,none⟩ (n:Int) (fun mz i g=>i<=n/\mz=n - i/\Ok h g/\ ∃ l,Bd h g h.next l/\l.length<=9*i/\(i=0->l=[])/\(0 < i->0 < Num.bv BB (x.drop (n - i))/\l=Num.toDec (Num.bv BB (x.drop (n - i))))) (fun v h'=>v=aa (Num.toDec X)/\Ok h h') (by
   intro mz i; intros; rename_i g hi
   obtain ⟨h1,rfl,ok,l,bd,hll,hz,hp⟩:=hi
   refine ae (fun h2=> ?_) (fun h2=> ?_)
   ·have h2:=dT h2
    have e1:IntKind.wrap .i64 (IntKind.wrap .i64 ((n:Int) - 1) - (i:Int))=((n - 1 - i:Nat):Int):=by
     rw [ap (n:=(n:Int) - 1) (by omega) (by omega),ap (by omega) (by omega)]; omega
    obtain ⟨p,e2,e3⟩:=Dt (ra.ok ok) (i:=((n - 1 - i:Nat):Int)) (by omega) (by rw [<-hn]; omega)
    rw [e1]
    rw [Int.toNat_natCast] at e3
    have hb:x.getD (n - 1 - i) 0 < BB:=Num.getD_lt (by decide) hlt _
    have hstep:Num.bv BB (x.drop (n - 1 - i))=x.getD (n - 1 - i) 0+BB*Num.bv BB (x.drop (n - i)):=by
     rw [Num.bv_drop,show n - 1 - i+1=n - i by omega]
    have e5:IntKind.wrap .i64 ((i:Int)+1)=((i+1:Nat):Int):=by rw [ap (by omega) (by omega)]; omega
    rw [e5]
    have htop':i=0->0 < x.getD (n - 1 - i) 0:=fun e=>by subst e; rw [hn]; exact htop
    generalize x.getD (n - 1 - i) 0=b at *
    have hb':b < 1000000000:=hb
    have hb9:=Num.toDec_len_9 hb'
    refine ⟨p,e2,_,e3,(Kb hb' (t.ok ok) ok.wf).mono ?_⟩
    rintro _ h5 ⟨rfl,ok5⟩
    have bd5:=Wx bd ok5
    have ok5:=ok.trans ok5
    refine ⟨_,rfl,ae (fun h6=> ?_) (fun h6=> ?_)⟩
    ·have h6:=dT h6
     obtain ⟨p1,p2⟩:=hp (by omega)
     have e4:IntKind.wrap .i64 (9 - ((Num.toDec b).length:Int))=((9 - (Num.toDec b).length:Nat):Int):=by rw [ap (by omega) (by omega)]; omega
     rw [e4]
     have hpos:=Num.toDec_len_pos b
     refine (L9 (by omega) h5).mono ?_
     rintro _ h8 ⟨rfl,rfl⟩
     refine ⟨_,rfl,(wp w ok5 bd5 (by rw [List.length_replicate]; omega)).mono ?_⟩
     rintro _ h11 ⟨rfl,ok11,bd11⟩
     refine ⟨_,_,rfl,(wp w ok11 bd11 (by rw [List.length_append,List.length_replicate]; omega)).mono ?_⟩
     rintro _ h15 ⟨rfl,ok15,bd15⟩
     refine ⟨_,_,rfl,jo (n - (i+1)) (by omega) ⟨by omega,rfl,ok15,_,bd15,?_,fun h=>by omega,fun _=> ?_⟩⟩
     ·rw [List.length_append,List.length_append,List.length_replicate]; omega
     ·rw [show n - (i+1)=n - 1 - i by omega,hstep]
      refine ⟨Nat.add_pos_right _ (Nat.mul_pos (by decide) p1),?_⟩
      have:=Num.toDec_block p1 hb'
      rw [p2]
      exact this.symm
    ·have h6:=dF h6
     obtain rfl:i=0:=by omega
     obtain rfl:=hz rfl
     refine (wp w ok5 bd5 (by rw [List.length_nil]; omega)).mono ?_
     rintro _ h15 ⟨rfl,ok15,bd15⟩
     refine ⟨_,_,rfl,jo (n - 1) (by omega) ⟨by omega,rfl,ok15,_,bd15,?_,fun h=>by omega,fun _=> ?_⟩⟩
     ·rw [List.nil_append]; omega
     ·have hb0:Num.bv BB (x.drop n)=0:=by rw [List.drop_of_length_le (by omega)]; rfl
      rw [show n - 1 - 0=n - 1 by omega,show n - 0=n by omega,hb0,Nat.mul_zero,Nat.add_zero] at hstep
      rw [Nat.zero_add,hstep,List.nil_append]
      refine ⟨?_,rfl⟩
      exact htop' rfl
   ·have h2:=dF h2
    obtain rfl:i=n:=by omega
    obtain ⟨p1,p2⟩:=hp (by omega)
    rw [Nat.sub_self,List.drop_zero,hbv] at p2
    subst p2
    refine (JZ w ok bd (Num.toDec_ne X) (by omega)).mono ?_
    rintro _ h15 ⟨rfl,ok15⟩
    exact ⟨_,rfl,rfl,ok15⟩)
  have ok1:=(Ok.refl w).push WP
  refine ⟨_,W5,L n (i:=0) ⟨by omega,rfl,ok1,[],⟨_,_,?_,.inl rfl,.inl ⟨rfl,rfl⟩,Nat.le_refl _⟩,by simp,fun _=>rfl,fun h=>by omega⟩⟩
  rw [Heap.get_push,if_pos rfl]; rfl
theorem UV {k m:Nat}(h:k<=9*m):10 ^ k<=BB ^ m:=by
 show 10 ^ k<=(10 ^ 9) ^ m
 rw [<-Nat.pow_mul]
 exact Nat.pow_le_pow_right (by decide) h
theorem kI {X:Nat}(h:X < 10 ^ 1000):(Num.toB BB X).length<=112:=by
 refine Num.toB_len_le cG (Nat.lt_of_lt_of_le h (UV (k:=1000) (m:=112) (by decide)))
def Fm (h:Heap)(X Y:Nat)(mz:Nat)(a:Option Addr)(n c:Nat)(b:Option Addr)(k d:Nat)(g:Heap):Prop:= ∃ p:Nat,Rd g 103 (.slice a n c) (bl p)/\Rd g 103 (.slice b k d) (bl mz)/\(Num.toB BB p).length<=112/\(Num.toB BB mz).length<=112/\Nat.gcd p mz=Nat.gcd X Y/\Ok h g
theorem gcd_step {h g:Heap}{X Y mz:Nat}{a:Option Addr}{n c:Nat}{b:Option Addr}{k d:Nat}(t:Tab h)(hi:Fm h X Y mz a n c b k d g){K:Nat->Option Addr->Nat->Nat->Option Addr->Nat->Nat->Heap->Prop}{Q:VH}
  (hK: ∀ (a1:Option Addr)(n1 c1:Nat)(a2:Option Addr)(n2 c2 m2:Nat)(g:Heap),m2 < mz->Fm h X Y m2 b k d a2 n2 c2 g->K m2 a1 n1 c1 a2 n2 c2 g):
  (0 < k->FW SS 163 [.slice a n c,.slice b k d] g (fun v h'=> ∃ (a1:Option Addr)(n1 c1:Nat)(a2:Option Addr)(n2 c2 m2:Nat),v = .tuple ⟨[.slice a1 n1 c1,.slice a2 n2 c2]⟩/\K m2 a1 n1 c1 a2 n2 c2 h'))/\
  (k=0->FW SS 161 [.slice a n c] g (fun v h'=>v=aa (Num.toDec (Nat.gcd X Y))/\Ok h h')):=by
 obtain ⟨p,rp,rq,lp,lq,hg,ok⟩:=hi
 have hk:k=(Num.toB BB mz).length:=by have:=rq.len; rwa [lM] at this
 constructor
 ·intro h2
  have hq0:0 < mz:=by
   rcases Nat.eq_zero_or_pos mz with e | e
   ·subst e; rw [(Num.toB_eq_nil cG).2 rfl] at hk; simp at hk; omega
   ·exact e
  refine (FJ rp rq hq0 (Nat.le_trans lp (by omega)) (Nat.le_trans lq (by omega)) ok.wf).mono ?_
  rintro _ h3 ⟨a1,n1,c1,a2,n2,c2,rfl,r1,r2,ok3⟩
  refine ⟨a1,n1,c1,a2,n2,c2,p % mz,rfl,hK a1 n1 c1 a2 n2 c2 (p % mz) h3 (Nat.mod_lt _ hq0) ⟨mz,rq.ok ok3,r2,lq,?_,?_,ok.trans ok3⟩⟩
  ·exact Nat.le_trans (Nat.le_of_not_lt fun h=>by have h1:=Num.toB_len_lt cG h; have h2:=Nat.mod_lt p hq0; exact absurd h1 (Nat.not_lt.2 (Nat.le_of_lt h2))) lq
  ·rw [<-hg,Nat.gcd_comm mz,<-Nat.gcd_rec,Nat.gcd_comm]
 ·intro h2
  have hq0:mz=0:=(Num.toB_eq_nil cG).1 (List.eq_nil_of_length_eq_zero (by rw [<-hk,h2]))
  subst hq0
  rw [Nat.gcd_zero_right] at hg
  subst hg
  refine (sg rp (Nat.le_trans lp (by omega)) (t.ok ok) ok.wf).mono ?_
  rintro _ h4 ⟨rfl,ok4⟩
  exact ⟨rfl,ok.trans ok4⟩
theorem Nb (a b:List UInt8){h:Heap}(t:Tab h)(w:Wf h):FW SS 143 [aa a,aa b] h (fun v h'=>v=ya a b/\Ok h h'):=by
 refine M1 a b h _ ((bJ a h).mono ?_)
 rintro _ g0 ⟨rfl,e0⟩
 obtain rfl:h=g0:=e0.symm
 refine ⟨_,rfl,ae (fun g=> ?_) (fun g=> ?_)⟩
 ·have g:Num.valid a=false:=by simpa using g
  refine ⟨?_,Ok.refl w⟩
  unfold ya; rw [if_neg (fun e=>by rw [e.1] at g; cases g)]; rfl
 have g:Num.valid a=true:=by simpa using g
 refine (bJ b h).mono ?_
 rintro _ g0 ⟨rfl,e0⟩
 obtain rfl:h=g0:=e0.symm
 refine ⟨_,rfl,ae (fun g2=> ?_) (fun g2=> ?_)⟩
 ·have g2:Num.valid b=false:=by simpa using g2
  refine ⟨?_,Ok.refl w⟩
  unfold ya; rw [if_neg (fun e=>by rw [e.2] at g2; cases g2)]; rfl
 have g2:Num.valid b=true:=by simpa using g2
 obtain ⟨X,ea,hX,eX⟩:=Num.valid_ex g
 obtain ⟨Y,eb,hY,eY⟩:=Num.valid_ex g2
 have da:=(Num.valid_iff.1 g)
 have db:=(Num.valid_iff.1 g2)
 have lX:=kI hX
 have lY:=kI hY
 clear hX hY
 refine (mO a da.1.2.1 (Nat.le_trans da.2 (by omega)) h w).mono ?_
 rintro _ h1 ⟨a1,n1,c1,rfl,o1,ok1⟩
 refine ⟨_,_,_,rfl,(mO b db.1.2.1 (Nat.le_trans db.2 (by omega)) h1 ok1.wf).mono ?_⟩
 rintro _ h2 ⟨a2,n2,c2,rfl,o2,ok2⟩
 refine ⟨_,_,_,rfl,?_⟩
 have hS:ya a b=BP (Num.toDec (Nat.gcd X Y)) 0:=by unfold ya; rw [if_pos ⟨g,g2⟩,eX,eY]
 rw [hS]
 rw [eX] at o1
 rw [eY] at o2
 refine tI a b (Fm h X Y) (fun v h'=>v=BP (Num.toDec (Nat.gcd X Y)) 0/\Ok h h') (fun mz a n c b k d=> ?_) Y ⟨X,o1.rd.ok ok2,o2.rd,lX,lY,rfl,ok1.trans ok2⟩
 intros; rename_i g hi
 have S:=gcd_step t hi (K:=fun m2 a1 n1 c1 a2 n2 c2 g=>m2 < mz/\Fm h X Y m2 b k d a2 n2 c2 g) (fun a1 n1 c1 a2 n2 c2 m2 g h1 h2=>⟨h1,h2⟩) (Q:=fun _ _=>True)
 refine ae (fun h2=> ?_) (fun h2=> ?_)
 ·have h2:=dT h2
  refine (S.1 (by omega)).mono ?_
  rintro _ h3 ⟨a1,n1,c1,a2,n2,c2,m2,rfl,i1,i2⟩
  exact ⟨_,_,_,_,_,_,rfl,uu m2 i1 i2⟩
 ·have h2:=dF h2
  refine (S.2 (by omega)).mono ?_
  rintro _ h4 ⟨rfl,ok4⟩
  exact ⟨_,rfl,rfl,ok4⟩
noncomputable def zi:Code:=(Tryz.f168.body).getD .skip
def Tu:List Nat:=[]
abbrev KX (x y z:Int)(h:Heap)(Q:VH):Prop:=xI .u64 (am SS.P .rem 103 (.int .u64 (IntKind.wrap .u64 (IntKind.wrap .u64 (x+y)+z))) (.int .u64 1000000000)) fun n1=>xI .u64 (am SS.P .quo 103 (.int .u64 (IntKind.wrap .u64 (IntKind.wrap .u64 (x+y)+z))) (.int .u64 1000000000)) fun n2=>Q (.tuple ⟨[(.int .u64 n1),(.int .u64 n2)]⟩) h
theorem ON (x y z:Int)(h:Heap)(Q:VH)(hx:KX x y z h Q):FW SS 168 [(.int .u64 x),(.int .u64 y),(.int .u64 z)] h Q:=ax (M:=Tu) (c:=zi) Tryz.func168 (show Tryz.f168.body=some zi by kernel_rfl) (by kernel_rfl) (ai hx (by kernel_rfl))
noncomputable def xb:Code:=(Tryz.f174.body).getD .skip
def Rm:List Nat:=[]
abbrev G7 (x y z:Int)(h:Heap)(Q:VH):Prop:=xI .u64 (am SS.P .rem 103 (.int .u64 (IntKind.wrap .u64 (IntKind.wrap .u64 (IntKind.wrap .u64 (x+1000000000) - y) - z))) (.int .u64 1000000000)) fun n1=>xI .u64 (am SS.P .quo 103 (.int .u64 (IntKind.wrap .u64 (IntKind.wrap .u64 (IntKind.wrap .u64 (x+1000000000) - y) - z))) (.int .u64 1000000000)) fun n2=>Q (.tuple ⟨[(.int .u64 n1),(.int .u64 (IntKind.wrap .u64 (1 - n2)))]⟩) h
theorem NQ (x y z:Int)(h:Heap)(Q:VH)(hx:G7 x y z h Q):FW SS 174 [(.int .u64 x),(.int .u64 y),(.int .u64 z)] h Q:=ax (M:=Rm) (c:=xb) Tryz.func174 (show Tryz.f174.body=some xb by kernel_rfl) (by kernel_rfl) (ai hx (by kernel_rfl))
noncomputable def eI:Code:=(Tryz.f167.body).getD .skip
noncomputable def zh (Q:VH):aj:=cE SS Tryz.f167.results.toList Q
def rQ:List Nat:=[0,1,2,7,8,18,19]
noncomputable def AQ (p:List Nat)(w:LV)(h:Heap)(Q:aj):Prop:=bp SS Tryz.f167.ntmps rQ (aP p eI) w h Q
noncomputable def As (p b:List Nat)(K:aj):aj:=ky SS Tryz.f167.ntmps rQ p (aP b eI) K
abbrev J5 (a:OA)(n c:Nat)(b:OA)(m d:Nat)(h:Heap)(Q:VH):Prop:=xI .i64 (ks true [(iA n),(iA m)]) fun n1=>AQ [1,1,1,0,1,0,0] [(.slice a n c),(.slice b m d),(.func (.func 168) ⟨[]⟩ ⟨[]⟩),nA,(.int .u64 0),(.int .i64 (IntKind.wrap .i64 (n1+1))),(.int .i64 0)] h (As [1,1,1,0,1,0] [] (zh Q))
theorem G0 (a:OA)(n c:Nat)(b:OA)(m d:Nat)(h:Heap)(Q:VH)(hx:J5 a n c b m d h Q):FW SS 167 [(.slice a n c),(.slice b m d),(.func (.func 168) ⟨[]⟩ ⟨[]⟩)] h Q:=ax (M:=rQ) (c:=eI) Tryz.func167 (show Tryz.f167.body=some eI by kernel_rfl) (by kernel_rfl) (ai hx (by kernel_rfl))
abbrev gI (a:OA)(n c:Nat)(b:OA)(m d:Nat)(aR:Int)(i:Nat)(cy:Int)(r:OA)(rn:Nat)(rc:Nat)  : LV:=[(.slice a n c),(.slice b m d),(.func (.func 168) ⟨[]⟩ ⟨[]⟩),(.slice r rn rc),(.int .u64 cy),(.int .i64 aR),(iA i)]
def cb (a:OA)(n c:Nat)(b:OA)(m d:Nat)(aR:Int)(Inv:Nat->Nat->Int->OA->Nat->Nat->Heap->Prop)(mz:Nat)(w:LV)(h:Heap):Prop:= ∃ (i:Nat)(cy:Int)(r:OA)(rn:Nat)(rc:Nat) ,w=(gI a n c b m d aR i cy r rn rc )/\Inv mz i cy r rn rc h
abbrev mj (a:OA)(n c:Nat)(b:OA)(m d:Nat)(aR:Int)(Inv:Nat->Nat->Int->OA->Nat->Nat->Heap->Prop)(Q:VH)(mz:Nat)(i:Nat)(cy:Int)(r:OA)(rn:Nat)(rc:Nat)  (zz:Nat->Value) (h:Heap):Prop:=aw (decide (((i:Int):Int) < aR)) (aw (decide (((i:Int):Int) < (n:Int))) (xP (af SS.P 136 (.slice a n c) (iA i)) fun p2=>xI .u64 (ah SS.P 103 h (.pointer (some p2))) fun n3=>aw (decide (((i:Int):Int) < (m:Int))) (xP (af SS.P 136 (.slice b m d) (iA i)) fun p4=>xI .u64 (ah SS.P 103 h (.pointer (some p4))) fun n5=>FW SS 168 [(.int .u64 n3),(.int .u64 n5),(.int .u64 cy)] h fun v6 h7=> ∃ n8:Int,∃ n9:Int,v6=(.tuple ⟨[(.int .u64 n8),(.int .u64 n9)]⟩)/\xR (ay SS.P 136 1 [(0,(.int .u64 n8))]) h7 fun B10 n11 c12 g13=>xE (aB SS.P 136 136 (.slice r rn rc) (sA (h7.next) n11 c12) g13) g13 fun a14 n15 c16 u17 g18=>ak (cb a n c b m d aR Inv) mz [(.slice a n c),(.slice b m d),(.func (.func 168) ⟨[]⟩ ⟨[]⟩),(.slice a14 n15 c16),(.int .u64 n9),(.int .i64 aR),(.int .i64 (IntKind.wrap .i64 ((i:Int)+1)))] g18) (FW SS 168 [(.int .u64 n3),(.int .u64 0),(.int .u64 cy)] h fun v19 h20=> ∃ n21:Int,∃ n22:Int,v19=(.tuple ⟨[(.int .u64 n21),(.int .u64 n22)]⟩)/\xR (ay SS.P 136 1 [(0,(.int .u64 n21))]) h20 fun B23 n24 c25 g26=>xE (aB SS.P 136 136 (.slice r rn rc) (sA (h20.next) n24 c25) g26) g26 fun a27 n28 c29 u30 g31=>ak (cb a n c b m d aR Inv) mz [(.slice a n c),(.slice b m d),(.func (.func 168) ⟨[]⟩ ⟨[]⟩),(.slice a27 n28 c29),(.int .u64 n22),(.int .i64 aR),(.int .i64 (IntKind.wrap .i64 ((i:Int)+1)))] g31)) (aw (decide (((i:Int):Int) < (m:Int))) (xP (af SS.P 136 (.slice b m d) (iA i)) fun p32=>xI .u64 (ah SS.P 103 h (.pointer (some p32))) fun n33=>FW SS 168 [(.int .u64 0),(.int .u64 n33),(.int .u64 cy)] h fun v34 h35=> ∃ n36:Int,∃ n37:Int,v34=(.tuple ⟨[(.int .u64 n36),(.int .u64 n37)]⟩)/\xR (ay SS.P 136 1 [(0,(.int .u64 n36))]) h35 fun B38 n39 c40 g41=>xE (aB SS.P 136 136 (.slice r rn rc) (sA (h35.next) n39 c40) g41) g41 fun a42 n43 c44 u45 g46=>ak (cb a n c b m d aR Inv) mz [(.slice a n c),(.slice b m d),(.func (.func 168) ⟨[]⟩ ⟨[]⟩),(.slice a42 n43 c44),(.int .u64 n37),(.int .i64 aR),(.int .i64 (IntKind.wrap .i64 ((i:Int)+1)))] g46) (FW SS 168 [(.int .u64 0),(.int .u64 0),(.int .u64 cy)] h fun v47 h48=> ∃ n49:Int,∃ n50:Int,v47=(.tuple ⟨[(.int .u64 n49),(.int .u64 n50)]⟩)/\xR (ay SS.P 136 1 [(0,(.int .u64 n49))]) h48 fun B51 n52 c53 g54=>xE (aB SS.P 136 136 (.slice r rn rc) (sA (h48.next) n52 c53) g54) g54 fun a55 n56 c57 u58 g59=>ak (cb a n c b m d aR Inv) mz [(.slice a n c),(.slice b m d),(.func (.func 168) ⟨[]⟩ ⟨[]⟩),(.slice a55 n56 c57),(.int .u64 n50),(.int .i64 aR),(.int .i64 (IntKind.wrap .i64 ((i:Int)+1)))] g59))) (FW SS 142 [(.slice r rn rc)] h fun v60 h61=>yL v60 fun a62 n63 c64=>Q (.slice a62 n63 c64) h61)
theorem cH {a:OA}{n c:Nat}{b:OA}{m d:Nat}{aR:Int}{Inv:Nat->Nat->Int->OA->Nat->Nat->Heap->Prop}{mz:Nat}(mq:Nat){i:Nat}{cy:Int}{r:OA}{rn:Nat}{rc:Nat}  {h:Heap} (hm:mq < mz) (hi:Inv mq i cy r rn rc h):ak (cb a n c b m d aR Inv) mz (gI a n c b m d aR i cy r rn rc ) h:=⟨mq,hm,i,cy,r,rn,rc,rfl,hi⟩
theorem qx (a:OA)(n c:Nat)(b:OA)(m d:Nat)(aR:Int)(Inv:Nat->Nat->Int->OA->Nat->Nat->Heap->Prop)(Q:VH)(step: ∀ (mz:Nat) (i:Nat) (cy:Int) (r:OA) (rn:Nat) (rc:Nat)  (zz:Nat->Value) (h:Heap),Inv mz i cy r rn rc h->mj a n c b m d aR Inv Q mz i cy r rn rc  zz h)(mz:Nat){i:Nat}{cy:Int}{r:OA}{rn:Nat}{rc:Nat}  {h:Heap} (hi:Inv mz i cy r rn rc h):AQ [1,1,1,0,1,0,0] (gI a n c b m d aR i cy r rn rc ) h (As [1,1,1,0,1,0] [] (zh Q)):=
 an (A:=(cb a n c b m d aR Inv)) (show aF Tryz.f167.ntmps (aP [1,1,1,0,1,0,0] eI)=true by kernel_rfl) (fun mz w zz h ⟨i,cy,r,rn,rc,hw,hi⟩=>by subst hw; exact ai (step mz i cy r rn rc  zz h hi) (by kernel_rfl)) mz _ h ⟨i,cy,r,rn,rc,rfl,hi⟩ (fun zz=>by kernel_rfl) (by kernel_rfl)
noncomputable def dW:Code:=(Tryz.f167.body).getD .skip
noncomputable def wL (Q:VH):aj:=cE SS Tryz.f167.results.toList Q
def pn:List Nat:=[0,1,2,7,8,18,19]
noncomputable def w6 (p:List Nat)(w:LV)(h:Heap)(Q:aj):Prop:=bp SS Tryz.f167.ntmps pn (aP p dW) w h Q
noncomputable def wA (p b:List Nat)(K:aj):aj:=ky SS Tryz.f167.ntmps pn p (aP b dW) K
abbrev Hg (a:OA)(n c:Nat)(b:OA)(m d:Nat)(h:Heap)(Q:VH):Prop:=xI .i64 (ks true [(iA n),(iA m)]) fun n1=>w6 [1,1,1,0,1,0,0] [(.slice a n c),(.slice b m d),(.func (.func 174) ⟨[]⟩ ⟨[]⟩),nA,(.int .u64 0),(.int .i64 (IntKind.wrap .i64 (n1+1))),(.int .i64 0)] h (wA [1,1,1,0,1,0] [] (wL Q))
theorem Ez (a:OA)(n c:Nat)(b:OA)(m d:Nat)(h:Heap)(Q:VH)(hx:Hg a n c b m d h Q):FW SS 167 [(.slice a n c),(.slice b m d),(.func (.func 174) ⟨[]⟩ ⟨[]⟩)] h Q:=ax (M:=pn) (c:=dW) Tryz.func167 (show Tryz.f167.body=some dW by kernel_rfl) (by kernel_rfl) (ai hx (by kernel_rfl))
abbrev gj (a:OA)(n c:Nat)(b:OA)(m d:Nat)(aR:Int)(i:Nat)(cy:Int)(r:OA)(rn:Nat)(rc:Nat)  : LV:=[(.slice a n c),(.slice b m d),(.func (.func 174) ⟨[]⟩ ⟨[]⟩),(.slice r rn rc),(.int .u64 cy),(.int .i64 aR),(iA i)]
def bR (a:OA)(n c:Nat)(b:OA)(m d:Nat)(aR:Int)(Inv:Nat->Nat->Int->OA->Nat->Nat->Heap->Prop)(mz:Nat)(w:LV)(h:Heap):Prop:= ∃ (i:Nat)(cy:Int)(r:OA)(rn:Nat)(rc:Nat) ,w=(gj a n c b m d aR i cy r rn rc )/\Inv mz i cy r rn rc h
abbrev kG (a:OA)(n c:Nat)(b:OA)(m d:Nat)(aR:Int)(Inv:Nat->Nat->Int->OA->Nat->Nat->Heap->Prop)(Q:VH)(mz:Nat)(i:Nat)(cy:Int)(r:OA)(rn:Nat)(rc:Nat)  (zz:Nat->Value) (h:Heap):Prop:=aw (decide (((i:Int):Int) < aR)) (aw (decide (((i:Int):Int) < (n:Int))) (xP (af SS.P 136 (.slice a n c) (iA i)) fun p2=>xI .u64 (ah SS.P 103 h (.pointer (some p2))) fun n3=>aw (decide (((i:Int):Int) < (m:Int))) (xP (af SS.P 136 (.slice b m d) (iA i)) fun p4=>xI .u64 (ah SS.P 103 h (.pointer (some p4))) fun n5=>FW SS 174 [(.int .u64 n3),(.int .u64 n5),(.int .u64 cy)] h fun v6 h7=> ∃ n8:Int,∃ n9:Int,v6=(.tuple ⟨[(.int .u64 n8),(.int .u64 n9)]⟩)/\xR (ay SS.P 136 1 [(0,(.int .u64 n8))]) h7 fun B10 n11 c12 g13=>xE (aB SS.P 136 136 (.slice r rn rc) (sA (h7.next) n11 c12) g13) g13 fun a14 n15 c16 u17 g18=>ak (bR a n c b m d aR Inv) mz [(.slice a n c),(.slice b m d),(.func (.func 174) ⟨[]⟩ ⟨[]⟩),(.slice a14 n15 c16),(.int .u64 n9),(.int .i64 aR),(.int .i64 (IntKind.wrap .i64 ((i:Int)+1)))] g18) (FW SS 174 [(.int .u64 n3),(.int .u64 0),(.int .u64 cy)] h fun v19 h20=> ∃ n21:Int,∃ n22:Int,v19=(.tuple ⟨[(.int .u64 n21),(.int .u64 n22)]⟩)/\xR (ay SS.P 136 1 [(0,(.int .u64 n21))]) h20 fun B23 n24 c25 g26=>xE (aB SS.P 136 136 (.slice r rn rc) (sA (h20.next) n24 c25) g26) g26 fun a27 n28 c29 u30 g31=>ak (bR a n c b m d aR Inv) mz [(.slice a n c),(.slice b m d),(.func (.func 174) ⟨[]⟩ ⟨[]⟩),(.slice a27 n28 c29),(.int .u64 n22),(.int .i64 aR),(.int .i64 (IntKind.wrap .i64 ((i:Int)+1)))] g31)) (aw (decide (((i:Int):Int) < (m:Int))) (xP (af SS.P 136 (.slice b m d) (iA i)) fun p32=>xI .u64 (ah SS.P 103 h (.pointer (some p32))) fun n33=>FW SS 174 [(.int .u64 0),(.int .u64 n33),(.int .u64 cy)] h fun v34 h35=> ∃ n36:Int,∃ n37:Int,v34=(.tuple ⟨[(.int .u64 n36),(.int .u64 n37)]⟩)/\xR (ay SS.P 136 1 [(0,(.int .u64 n36))]) h35 fun B38 n39 c40 g41=>xE (aB SS.P 136 136 (.slice r rn rc) (sA (h35.next) n39 c40) g41) g41 fun a42 n43 c44 u45 g46=>ak (bR a n c b m d aR Inv) mz [(.slice a n c),(.slice b m d),(.func (.func 174) ⟨[]⟩ ⟨[]⟩),(.slice a42 n43 c44),(.int .u64 n37),(.int .i64 aR),(.int .i64 (IntKind.wrap .i64 ((i:Int)+1)))] g46) (FW SS 174 [(.int .u64 0),(.int .u64 0),(.int .u64 cy)] h fun v47 h48=> ∃ n49:Int,∃ n50:Int,v47=(.tuple ⟨[(.int .u64 n49),(.int .u64 n50)]⟩)/\xR (ay SS.P 136 1 [(0,(.int .u64 n49))]) h48 fun B51 n52 c53 g54=>xE (aB SS.P 136 136 (.slice r rn rc) (sA (h48.next) n52 c53) g54) g54 fun a55 n56 c57 u58 g59=>ak (bR a n c b m d aR Inv) mz [(.slice a n c),(.slice b m d),(.func (.func 174) ⟨[]⟩ ⟨[]⟩),(.slice a55 n56 c57),(.int .u64 n50),(.int .i64 aR),(.int .i64 (IntKind.wrap .i64 ((i:Int)+1)))] g59))) (FW SS 142 [(.slice r rn rc)] h fun v60 h61=>yL v60 fun a62 n63 c64=>Q (.slice a62 n63 c64) h61)
theorem cA {a:OA}{n c:Nat}{b:OA}{m d:Nat}{aR:Int}{Inv:Nat->Nat->Int->OA->Nat->Nat->Heap->Prop}{mz:Nat}(mq:Nat){i:Nat}{cy:Int}{r:OA}{rn:Nat}{rc:Nat}  {h:Heap} (hm:mq < mz) (hi:Inv mq i cy r rn rc h):ak (bR a n c b m d aR Inv) mz (gj a n c b m d aR i cy r rn rc ) h:=⟨mq,hm,i,cy,r,rn,rc,rfl,hi⟩
theorem ph (a:OA)(n c:Nat)(b:OA)(m d:Nat)(aR:Int)(Inv:Nat->Nat->Int->OA->Nat->Nat->Heap->Prop)(Q:VH)(step: ∀ (mz:Nat) (i:Nat) (cy:Int) (r:OA) (rn:Nat) (rc:Nat)  (zz:Nat->Value) (h:Heap),Inv mz i cy r rn rc h->kG a n c b m d aR Inv Q mz i cy r rn rc  zz h)(mz:Nat){i:Nat}{cy:Int}{r:OA}{rn:Nat}{rc:Nat}  {h:Heap} (hi:Inv mz i cy r rn rc h):w6 [1,1,1,0,1,0,0] (gj a n c b m d aR i cy r rn rc ) h (wA [1,1,1,0,1,0] [] (wL Q)):=
 an (A:=(bR a n c b m d aR Inv)) (show aF Tryz.f167.ntmps (aP [1,1,1,0,1,0,0] dW)=true by kernel_rfl) (fun mz w zz h ⟨i,cy,r,rn,rc,hw,hi⟩=>by subst hw; exact ai (step mz i cy r rn rc  zz h hi) (by kernel_rfl)) mz _ h ⟨i,cy,r,rn,rc,rfl,hi⟩ (fun zz=>by kernel_rfl) (by kernel_rfl)
noncomputable def tW:Code:=(Tryz.f159.body).getD .skip
def MD:List Nat:=[]
abbrev Ms (a:OA)(n c:Nat)(b:OA)(m d:Nat)(h:Heap)(Q:VH):Prop:=FW SS 167 [(.slice a n c),(.slice b m d),(.func (.func 168) ⟨[]⟩ ⟨[]⟩)] h fun v1 h2=>yL v1 fun a3 n4 c5=>Q (.slice a3 n4 c5) h2
theorem Ja (a:OA)(n c:Nat)(b:OA)(m d:Nat)(h:Heap)(Q:VH)(hx:Ms a n c b m d h Q):FW SS 159 [(.slice a n c),(.slice b m d)] h Q:=ax (M:=MD) (c:=tW) Tryz.func159 (show Tryz.f159.body=some tW by kernel_rfl) (by kernel_rfl) (ai hx (by kernel_rfl))
noncomputable def qT:Code:=(Tryz.f162.body).getD .skip
def IP:List Nat:=[]
abbrev JC (a:OA)(n c:Nat)(b:OA)(m d:Nat)(h:Heap)(Q:VH):Prop:=FW SS 167 [(.slice a n c),(.slice b m d),(.func (.func 174) ⟨[]⟩ ⟨[]⟩)] h fun v1 h2=>yL v1 fun a3 n4 c5=>Q (.slice a3 n4 c5) h2
theorem Gu (a:OA)(n c:Nat)(b:OA)(m d:Nat)(h:Heap)(Q:VH)(hx:JC a n c b m d h Q):FW SS 162 [(.slice a n c),(.slice b m d)] h Q:=ax (M:=IP) (c:=qT) Tryz.func162 (show Tryz.f162.body=some qT by kernel_rfl) (by kernel_rfl) (ai hx (by kernel_rfl))
noncomputable def nH:Code:=(Tryz.f141.body).getD .skip
def Eg:List Nat:=[]
abbrev Ey (a:OA)(n c:Nat)(h:Heap)(Q:VH):Prop:=FW SS 161 [(.slice a n c)] h fun v1 h2=>yS v1 fun l3=>aw (decide ((((l3:LB).length:Int):Int) > 1000)) (Q (.tuple ⟨[(aa []),(.int .i64 2)]⟩) h2) (Q (.tuple ⟨[(aa l3),(.int .i64 0)]⟩) h2)
theorem Cc (a:OA)(n c:Nat)(h:Heap)(Q:VH)(hx:Ey a n c h Q):FW SS 141 [(.slice a n c)] h Q:=ax (M:=Eg) (c:=nH) Tryz.func141 (show Tryz.f141.body=some nH by kernel_rfl) (by kernel_rfl) (ai hx (by kernel_rfl))
noncomputable def wz:Code:=(Tryz.f137.body).getD .skip
def QP:List Nat:=[]
abbrev QN (l m:LB)(h:Heap)(Q:VH):Prop:=FW SS 139 [(aa l)] h fun v1 h2=>yB v1 fun b3=>aw (!b3) (Q (.int .i64 0) h2) (FW SS 139 [(aa m)] h2 fun v4 h5=>yB v4 fun b6=>aw (!b6) (Q (.int .i64 0) h5) (FW SS 140 [(aa l)] h5 fun v7 h8=>yL v7 fun a9 n10 c11=>FW SS 140 [(aa m)] h8 fun v12 h13=>yL v12 fun a14 n15 c16=>FW SS 160 [(.slice a9 n10 c11),(.slice a14 n15 c16)] h13 fun v17 h18=>yI .i64 v17 fun n19=>Q (.int .i64 n19) h18))
theorem LS (l m:LB)(h:Heap)(Q:VH)(hx:QN l m h Q):FW SS 137 [(aa l),(aa m)] h Q:=ax (M:=QP) (c:=wz) Tryz.func137 (show Tryz.f137.body=some wz by kernel_rfl) (by kernel_rfl) (ai hx (by kernel_rfl))
noncomputable def w8:Code:=(Tryz.f136.body).getD .skip
def O8:List Nat:=[]
abbrev PN (l m:LB)(h:Heap)(Q:VH):Prop:=FW SS 139 [(aa l)] h fun v1 h2=>yB v1 fun b3=>aw (!b3) (Q (.tuple ⟨[(aa []),(.int .i64 1)]⟩) h2) (FW SS 139 [(aa m)] h2 fun v4 h5=>yB v4 fun b6=>aw (!b6) (Q (.tuple ⟨[(aa []),(.int .i64 1)]⟩) h5) (FW SS 140 [(aa l)] h5 fun v7 h8=>yL v7 fun a9 n10 c11=>FW SS 140 [(aa m)] h8 fun v12 h13=>yL v12 fun a14 n15 c16=>FW SS 159 [(.slice a9 n10 c11),(.slice a14 n15 c16)] h13 fun v17 h18=>yL v17 fun a19 n20 c21=>FW SS 141 [(.slice a19 n20 c21)] h18 fun v22 h23=> ∃ l24:LB,∃ n25:Int,v22=(.tuple ⟨[(aa l24),(.int .i64 n25)]⟩)/\Q (.tuple ⟨[(aa l24),(.int .i64 n25)]⟩) h23))
theorem Lz (l m:LB)(h:Heap)(Q:VH)(hx:PN l m h Q):FW SS 136 [(aa l),(aa m)] h Q:=ax (M:=O8) (c:=w8) Tryz.func136 (show Tryz.f136.body=some w8 by kernel_rfl) (by kernel_rfl) (ai hx (by kernel_rfl))
noncomputable def xh:Code:=(Tryz.f138.body).getD .skip
def PX:List Nat:=[]
abbrev QX (l m:LB)(h:Heap)(Q:VH):Prop:=FW SS 139 [(aa l)] h fun v1 h2=>yB v1 fun b3=>aw (!b3) (Q (.tuple ⟨[(aa []),(.int .i64 1)]⟩) h2) (FW SS 139 [(aa m)] h2 fun v4 h5=>yB v4 fun b6=>aw (!b6) (Q (.tuple ⟨[(aa []),(.int .i64 1)]⟩) h5) (FW SS 140 [(aa l)] h5 fun v7 h8=>yL v7 fun a9 n10 c11=>FW SS 140 [(aa m)] h8 fun v12 h13=>yL v12 fun a14 n15 c16=>FW SS 160 [(.slice a9 n10 c11),(.slice a14 n15 c16)] h13 fun v17 h18=>yI .i64 v17 fun n19=>aw (decide ((n19:Int) < 0)) (Q (.tuple ⟨[(aa []),(.int .i64 4)]⟩) h18) (FW SS 162 [(.slice a9 n10 c11),(.slice a14 n15 c16)] h18 fun v20 h21=>yL v20 fun a22 n23 c24=>FW SS 161 [(.slice a22 n23 c24)] h21 fun v25 h26=>yS v25 fun l27=>Q (.tuple ⟨[(aa l27),(.int .i64 0)]⟩) h26)))
theorem Nx (l m:LB)(h:Heap)(Q:VH)(hx:QX l m h Q):FW SS 138 [(aa l),(aa m)] h Q:=ax (M:=PX) (c:=xh) Tryz.func138 (show Tryz.f138.body=some xh by kernel_rfl) (by kernel_rfl) (ai hx (by kernel_rfl))
noncomputable def fk:Code:=(Tryz.f119.body).getD .skip
noncomputable def uC (Q:VH):aj:=cE SS Tryz.f119.results.toList Q
def pC:List Nat:=[6,7,8,9,10,33,34,39,40]
noncomputable def th (p:List Nat)(w:LV)(h:Heap)(Q:aj):Prop:=bp SS Tryz.f119.ntmps pC (aP p fk) w h Q
noncomputable def mh (p b:List Nat)(K:aj):aj:=ky SS Tryz.f119.ntmps pC p (aP b fk) K
abbrev Rq (l m:LB)(h:Heap)(Q:VH):Prop:=FW SS 139 [(aa l)] h fun v1 h2=>yB v1 fun b3=>aw (!b3) (Q (.tuple ⟨[(aa []),(.int .i64 1)]⟩) h2) (FW SS 139 [(aa m)] h2 fun v4 h5=>yB v4 fun b6=>aw (!b6) (Q (.tuple ⟨[(aa []),(.int .i64 1)]⟩) h5) (FW SS 140 [(aa l)] h5 fun v7 h8=>yL v7 fun a9 n10 c11=>FW SS 140 [(aa m)] h8 fun v12 h13=>yL v12 fun a14 n15 c16=>xR (aW SS.P 136 (.int .i64 (IntKind.wrap .i64 (IntKind.wrap .i64 ((n10:Int)+(n15:Int))+1))) (.int .i64 (IntKind.wrap .i64 (IntKind.wrap .i64 ((n10:Int)+(n15:Int))+1)))) h13 fun B17 n18 c19 g20=>th [1,1,1,1,0,1,0,0] [(.slice a9 n10 c11),(.slice a14 n15 c16),(sA (h13.next) n18 c19),undef,undef,(iA n10),(.int .i64 0),undef,undef] g20 (mh [1,1,1,1,0,1,0] [] (uC Q))))
theorem Mx (l m:LB)(h:Heap)(Q:VH)(hx:Rq l m h Q):FW SS 119 [(aa l),(aa m)] h Q:=ax (M:=pC) (c:=fk) Tryz.func119 (show Tryz.f119.body=some fk by kernel_rfl) (by kernel_rfl) (ai hx (by kernel_rfl))
abbrev jL (l m:LB)(a:OA)(n c:Nat)(b:OA)(k d:Nat)(t:OA)(tn tc:Nat)(aR:Int)(i:Nat)(y9 y10 y39 y40:Value):LV:=[(.slice a n c),(.slice b k d),(.slice t tn tc),y9,y10,(.int .i64 aR),(iA i),y39,y40]
def dP (l m:LB)(a:OA)(n c:Nat)(b:OA)(k d:Nat)(t:OA)(tn tc:Nat)(aR:Int)(Inv:Nat->Nat->Heap->Prop)(mz:Nat)(w:LV)(h:Heap):Prop:= ∃ (i:Nat)(y9 y10 y39 y40:Value),w=(jL l m a n c b k d t tn tc aR i y9 y10 y39 y40)/\Inv mz i h
abbrev Bj (l m:LB)(a:OA)(n c:Nat)(b:OA)(k d:Nat)(t:OA)(tn tc:Nat)(aR:Int)(Inv:Nat->Nat->Heap->Prop)(Q:VH)(mz:Nat)(i:Nat)(y9 y10 y39 y40:Value)(zz:Nat->Value)(h:Heap):Prop:=aw (decide (((i:Int):Int) < aR)) (th [1,1,1,1,0,1,0,0,1,1,0,0,1,1,1,0,0] [(.slice a n c),(.slice b k d),(.slice t tn tc),(iA i),(.int .u64 0),(.int .i64 aR),(iA i),(.int .i64 (IntKind.wrap .i64 ((k:Int)+1))),(.int .i64 0)] h (mh [1,1,0,0,1,1,1,0] [1,1,1,1,0,1,0,0] (aT pC (dP l m a n c b k d t tn tc aR Inv) mz (mh [1,1,1,1,0,1,0] [] (uC Q))))) (FW SS 142 [(.slice t tn tc)] h fun v21 h22=>yL v21 fun a23 n24 c25=>FW SS 141 [(.slice a23 n24 c25)] h22 fun v26 h27=> ∃ l28:LB,∃ n29:Int,v26=(.tuple ⟨[(aa l28),(.int .i64 n29)]⟩)/\Q (.tuple ⟨[(aa l28),(.int .i64 n29)]⟩) h27)
theorem uP {l m:LB}{a:OA}{n c:Nat}{b:OA}{k d:Nat}{t:OA}{tn tc:Nat}{aR:Int}{Inv:Nat->Nat->Heap->Prop}{mz:Nat}(mq:Nat){i:Nat}{y9 y10 y39 y40:Value}{h:Heap}(hm:mq < mz)(hi:Inv mq i h):ak (dP l m a n c b k d t tn tc aR Inv) mz (jL l m a n c b k d t tn tc aR i y9 y10 y39 y40) h:=⟨mq,hm,i,y9,y10,y39,y40,rfl,hi⟩
theorem tk (l m:LB)(a:OA)(n c:Nat)(b:OA)(k d:Nat)(t:OA)(tn tc:Nat)(aR:Int)(Inv:Nat->Nat->Heap->Prop)(Q:VH)(step: ∀ (mz:Nat) (i:Nat) (y9 y10 y39 y40:Value) (zz:Nat->Value) (h:Heap),Inv mz i h->Bj l m a n c b k d t tn tc aR Inv Q mz i y9 y10 y39 y40 zz h)(mz:Nat){i:Nat}{y9 y10 y39 y40:Value}{h:Heap}(hi:Inv mz i h):th [1,1,1,1,0,1,0,0] (jL l m a n c b k d t tn tc aR i y9 y10 y39 y40) h (mh [1,1,1,1,0,1,0] [] (uC Q)):=
 an (A:=(dP l m a n c b k d t tn tc aR Inv)) (show aF Tryz.f119.ntmps (aP [1,1,1,1,0,1,0,0] fk)=true by kernel_rfl) (fun mz w zz h ⟨i,y9,y10,y39,y40,hw,hi⟩=>by subst hw; exact ai (step mz i y9 y10 y39 y40 zz h hi) (by kernel_rfl)) mz _ h ⟨i,y9,y10,y39,y40,rfl,hi⟩ (fun zz=>by kernel_rfl) (by kernel_rfl)
abbrev jC (l m:LB)(a:OA)(n c:Nat)(b:OA)(k d:Nat)(t:OA)(tn tc:Nat)(aR:Int)(i:Nat)(lim2:Int)(j:Nat)(cy:Int)  : LV:=[(.slice a n c),(.slice b k d),(.slice t tn tc),(iA i),(.int .u64 cy),(.int .i64 aR),(iA i),(.int .i64 lim2),(iA j)]
def fY (l m:LB)(a:OA)(n c:Nat)(b:OA)(k d:Nat)(t:OA)(tn tc:Nat)(aR:Int)(i:Nat)(lim2:Int)(Inv2:Nat->Nat->Int->Heap->Prop)(mz2:Nat)(w:LV)(h:Heap):Prop:= ∃ (j:Nat)(cy:Int) ,w=(jC l m a n c b k d t tn tc aR i lim2 j cy )/\Inv2 mz2 j cy h
abbrev oU (l m:LB)(a:OA)(n c:Nat)(b:OA)(k d:Nat)(t:OA)(tn tc:Nat)(aR:Int)(Inv:Nat->Nat->Heap->Prop)(mz i:Nat)(lim2:Int)(Inv2:Nat->Nat->Int->Heap->Prop)(Q:VH)(mz2:Nat)(j:Nat)(cy:Int)  (zz:Nat->Value) (h:Heap):Prop:=aw (decide (((j:Int):Int) < lim2)) (xP (af SS.P 136 (.slice t tn tc) (.int .i64 (IntKind.wrap .i64 ((i:Int)+(j:Int))))) fun p30=>xI .u64 (ah SS.P 103 h (.pointer (some p30))) fun n31=>aw (decide (((j:Int):Int) < (k:Int))) (xP (af SS.P 136 (.slice a n c) (iA i)) fun p32=>xI .u64 (ah SS.P 103 (room h 12) (.pointer (some p32))) fun n33=>xP (af SS.P 136 (.slice b k d) (iA j)) fun p34=>xI .u64 (ah SS.P 103 (room h 12) (.pointer (some p34))) fun n35=>xI .u64 (am SS.P .rem 103 (.int .u64 (IntKind.wrap .u64 (IntKind.wrap .u64 (n31+cy)+IntKind.wrap .u64 (n33*n35)))) (.int .u64 1000000000)) fun n36=>xI .u64 (am SS.P .quo 103 (.int .u64 (IntKind.wrap .u64 (IntKind.wrap .u64 (n31+cy)+IntKind.wrap .u64 (n33*n35)))) (.int .u64 1000000000)) fun n37=>xP (af SS.P 136 (.slice t tn tc) (.int .i64 (IntKind.wrap .i64 ((i:Int)+(j:Int))))) fun p38=>xU (al SS.P 103 (.pointer (some p38)) (.int .u64 n36) (room h 12)) (room h 12) fun u39 g40=>ak (fY l m a n c b k d t tn tc aR i lim2 Inv2) mz2 [(.slice a n c),(.slice b k d),(.slice t tn tc),(iA i),(.int .u64 n37),(.int .i64 aR),(iA i),(.int .i64 lim2),(.int .i64 (IntKind.wrap .i64 ((j:Int)+1)))] g40) (xI .u64 (am SS.P .rem 103 (.int .u64 (IntKind.wrap .u64 (n31+cy))) (.int .u64 1000000000)) fun n41=>xI .u64 (am SS.P .quo 103 (.int .u64 (IntKind.wrap .u64 (n31+cy))) (.int .u64 1000000000)) fun n42=>xP (af SS.P 136 (.slice t tn tc) (.int .i64 (IntKind.wrap .i64 ((i:Int)+(j:Int))))) fun p43=>xU (al SS.P 103 (.pointer (some p43)) (.int .u64 n41) h) h fun u44 g45=>ak (fY l m a n c b k d t tn tc aR i lim2 Inv2) mz2 [(.slice a n c),(.slice b k d),(.slice t tn tc),(iA i),(.int .u64 n42),(.int .i64 aR),(iA i),(.int .i64 lim2),(.int .i64 (IntKind.wrap .i64 ((j:Int)+1)))] g45)) (ak (dP l m a n c b k d t tn tc aR Inv) mz [(.slice a n c),(.slice b k d),(.slice t tn tc),(iA i),(.int .u64 cy),(.int .i64 aR),(.int .i64 (IntKind.wrap .i64 ((i:Int)+1))),(.int .i64 lim2),(iA j)] h)
theorem kT {l m:LB}{a:OA}{n c:Nat}{b:OA}{k d:Nat}{t:OA}{tn tc:Nat}{aR:Int}{i:Nat}{lim2:Int}{Inv2:Nat->Nat->Int->Heap->Prop}{mz2:Nat}(mq:Nat){j:Nat}{cy:Int}  {h:Heap} (hm:mq < mz2) (hi:Inv2 mq j cy h):ak (fY l m a n c b k d t tn tc aR i lim2 Inv2) mz2 (jC l m a n c b k d t tn tc aR i lim2 j cy ) h:=⟨mq,hm,j,cy,rfl,hi⟩
theorem uU (l m:LB)(a:OA)(n c:Nat)(b:OA)(k d:Nat)(t:OA)(tn tc:Nat)(aR:Int)(Inv:Nat->Nat->Heap->Prop)(mz i:Nat)(lim2:Int)(Inv2:Nat->Nat->Int->Heap->Prop)(Q:VH)(step: ∀ (mz2:Nat) (j:Nat) (cy:Int)  (zz:Nat->Value) (h:Heap),Inv2 mz2 j cy h->oU l m a n c b k d t tn tc aR Inv mz i lim2 Inv2 Q mz2 j cy  zz h)(mz2:Nat){j:Nat}{cy:Int}  {h:Heap} (hi:Inv2 mz2 j cy h):th [1,1,1,1,0,1,0,0,1,1,0,0,1,1,1,0,0] (jC l m a n c b k d t tn tc aR i lim2 j cy ) h (mh [1,1,0,0,1,1,1,0] [1,1,1,1,0,1,0,0] (aT pC (dP l m a n c b k d t tn tc aR Inv) mz (mh [1,1,1,1,0,1,0] [] (uC Q)))):=
 an (A:=(fY l m a n c b k d t tn tc aR i lim2 Inv2)) (show aF Tryz.f119.ntmps (aP [1,1,1,1,0,1,0,0,1,1,0,0,1,1,1,0,0] fk)=true by kernel_rfl) (fun mz2 w zz h ⟨j,cy,hw,hi⟩=>by subst hw; exact ai (step mz2 j cy  zz h hi) (by kernel_rfl)) mz2 _ h ⟨j,cy,rfl,hi⟩ (fun zz=>by kernel_rfl) (by kernel_rfl)
theorem O6 (x y z:Nat)(hx:x < BB)(hy:y < BB)(hz:z<=1)(h:Heap):FW SS 168 [.int .u64 (x:Int),.int .u64 (y:Int),.int .u64 (z:Int)] h (fun v h'=>v = .tuple ⟨[uv (Num.plusF BB x y z).1,uv (Num.plusF BB x y z).2]⟩/\h'=h):=by
 have hBv:BB=1000000000:=rfl
 have e1:IntKind.wrap .u64 ((x:Int)+(y:Int))=((x+y:Nat):Int):=by rw [<-Int.natCast_add]; exact cI (by omega) (by omega)
 have e2:IntKind.wrap .u64 (((x+y:Nat):Int)+(z:Int))=((x+y+z:Nat):Int):=by rw [<-Int.natCast_add]; exact cI (by omega) (by omega)
 refine ON _ _ _ h _ ?_
 unfold KX
 rw [e1,e2]
 refine ⟨_,cJ (b:=BB) (by omega) (by decide),_,kQ (b:=BB) (by omega) (by omega) (by decide),?_,rfl⟩
 unfold uv Num.plusF
 rw [Int.natCast_emod,Int.natCast_ediv]
theorem LZ (x y z:Nat)(hx:x < BB)(hy:y < BB)(hz:z<=1)(h:Heap):FW SS 174 [.int .u64 (x:Int),.int .u64 (y:Int),.int .u64 (z:Int)] h (fun v h'=>v = .tuple ⟨[uv (Num.minusF BB x y z).1,uv (Num.minusF BB x y z).2]⟩/\h'=h):=by
 have hBv:BB=1000000000:=rfl
 have hsum:x+BB - y - z < 2*BB:=by omega
 have e1:IntKind.wrap .u64 ((x:Int)+1000000000)=((x+BB:Nat):Int):=by rw [cI (by omega) (by omega)]; omega
 have e2:IntKind.wrap .u64 (((x+BB:Nat):Int) - (y:Int))=((x+BB - y:Nat):Int):=by rw [cI (by omega) (by omega)]; omega
 have e3:IntKind.wrap .u64 (((x+BB - y:Nat):Int) - (z:Int))=((x+BB - y - z:Nat):Int):=by rw [cI (by omega) (by omega)]; omega
 refine NQ _ _ _ h _ ?_
 unfold G7
 rw [e1,e2,e3]
 refine ⟨_,cJ (b:=BB) (by omega) (by decide),_,kQ (b:=BB) (by omega) (by omega) (by decide),?_,rfl⟩
 unfold uv Num.minusF
 dsimp only
 generalize x+BB - y - z=q at *
 have hq:q / BB<=1:=by
  have:q / BB < 2:=Nat.div_lt_of_lt_mul (by omega)
  omega
 have e4:IntKind.wrap .u64 (1 - (q:Int) / (BB:Int))=((1 - q / BB:Nat):Int):=by
  rw [<-Int.natCast_ediv]
  clear hsum e1 e2 e3
  generalize q / BB=r at *
  rw [cI (by omega) (by omega)]; omega
 rw [e4,Int.natCast_emod]
theorem Sp {p q c:Nat}(hp:p < BB)(hq:q < BB)(hc:c<=1):(Num.plusF BB p q c).2<=1:=by
 show (p+q+c) / BB<=1
 have:(p+q+c) / BB < 2:=Nat.div_lt_of_lt_mul (by omega)
 omega
theorem Qb {p q c:Nat}(hp:p < BB)(hq:q < BB)(hc:c<=1):(Num.minusF BB p q c).2<=1:=(Num.minus_step cG hp hq hc).2
theorem GR {h:Heap}{a b:Option Addr}{n c m d:Nat}{x y:List Nat}(ra:Rd h 103 (.slice a n c) (x.map uv))(rb:Rd h 103 (.slice b m d) (y.map uv))(hx: ∀ d∈x,d < BB)(hy: ∀ d∈y,d < BB)(hlx:x.length<=10000)(hly:y.length<=10000)(w:Wf h){R:Nat}(fin:Num.trimL (Num.eachF (Num.plusF BB) x y 0 (max x.length y.length+1) 0)=Num.toB BB R):
  FW SS 167 [.slice a n c,.slice b m d,.func (.func 168) ⟨[]⟩ ⟨[]⟩] h (dx h 103 (bl R)):=by
 have hn:n=x.length:=by have:=ra.len; rwa [lM] at this
 have hm:m=y.length:=by have:=rb.len; rwa [lM] at this
 rw [<-hn,<-hm] at fin
 have hcr: ∀ j,Num.cr (Num.plusF BB) x y 0 0 j<=1:=by
  intro j
  induction j with
  | zero=>exact Nat.zero_le _
  | succ j ih=>exact Sp (Num.getD_lt (by decide) hx _) (Num.getD_lt (by decide) hy _) ih
 have hmn:n<=max n m/\m<=max n m:=⟨Nat.le_max_left _ _,Nat.le_max_right _ _⟩
 have hmx2:max n m<=10000:=Nat.max_le.2 ⟨by omega,by omega⟩
 have hmx:(if (m:Int) > (n:Int) then (m:Int) else (n:Int))=((max n m:Nat):Int):=by split <;> omega
 generalize max n m=N at *
 have L:=qx a n c b m d ((N:Int)+1) (fun mz i cy r rn rc g=>i<=N+1/\mz=N+1 - i/\cy=(Num.cr (Num.plusF BB) x y 0 0 i:Nat)/\OwnR h g 103 (.slice r rn rc) ((Num.eachF (Num.plusF BB) x y 0 i 0).map uv)/\Ok h g) (dx h 103 (bl R)) (by
  intro mz i cy r rn rc; intros; rename_i g hi
  obtain ⟨h1,h2,rfl,ho,ok⟩:=hi
  have hw3:IntKind.wrap .i64 ((i:Int)+1)=((i+1:Nat):Int):=by rw [ap (by omega) (by omega)]; omega
  unfold mj
  rw [hw3]
  have hel:(Num.eachF (Num.plusF BB) x y 0 i 0).length=i:=Num.eachF_len _ _ _ _ _ _
  have hsn:=Num.eachF_snoc (Num.plusF BB) x y i 0 0
  rw [Nat.zero_add] at hsn
  have hcr1:Num.cr (Num.plusF BB) x y 0 0 (i+1)=(Num.plusF BB (x.getD i 0) (y.getD i 0) (Num.cr (Num.plusF BB) x y 0 0 i)).2:=by
   show (Num.plusF BB (x.getD (0+i) 0) (y.getD (0+i) 0) _).2=_
   rw [Nat.zero_add]
  have hci:=hcr i
  have go:=O6 (x.getD i 0) (y.getD i 0) (Num.cr (Num.plusF BB) x y 0 0 i) (Num.getD_lt (by decide) hx _) (Num.getD_lt (by decide) hy _) hci g
  refine ae (fun h5=> ?_) (fun h5=> ?_)
  ·have h5:=dT h5
   refine ae (fun h6=> ?_) (fun h6=> ?_)
   ·have h6:=dT h6
    obtain ⟨q,g2,g3⟩:=Dt (ra.ok ok) (i:=(i:Int)) (by omega) (by omega)
    rw [Int.toNat_natCast] at g3
    refine ⟨q,g2,_,g3,ae (fun h7=> ?_) (fun h7=> ?_)⟩
    ·have h7:=dT h7
     obtain ⟨q2,g4,g5⟩:=Dt (rb.ok ok) (i:=(i:Int)) (by omega) (by omega)
     rw [Int.toNat_natCast] at g5
     refine ⟨q2,g4,_,g5,go.mono ?_⟩
     rintro _ _ ⟨rfl,rfl⟩
     refine ⟨_,_,rfl,_,_,_,nJ _,?_⟩
     obtain ⟨b,m,d,u,g6,g7,g8,g9⟩:=fL w ok ho ((Num.plusF BB (x.getD i 0) (y.getD i 0) (Num.cr (Num.plusF BB) x y 0 0 i)).1:Nat) (by rw [lM,hel]; omega)
     refine ⟨b,m,d,u,g6,cH (mz - 1) (by omega) ⟨by omega,by omega,by rw [hcr1],?_,g9⟩⟩
     rw [hsn,List.map_append]
     exact g8
    ·have h7:=dF h7
     have y0:y.getD i 0=0:=by rw [gD,List.getElem?_eq_none (by omega)]; rfl
     rw [y0] at go hsn hcr1
     refine go.mono ?_
     rintro _ _ ⟨rfl,rfl⟩
     refine ⟨_,_,rfl,_,_,_,nJ _,?_⟩
     obtain ⟨b,m,d,u,g6,g7,g8,g9⟩:=fL w ok ho ((Num.plusF BB (x.getD i 0) 0 (Num.cr (Num.plusF BB) x y 0 0 i)).1:Nat) (by rw [lM,hel]; omega)
     refine ⟨b,m,d,u,g6,cH (mz - 1) (by omega) ⟨by omega,by omega,by rw [hcr1],?_,g9⟩⟩
     rw [hsn,List.map_append]
     exact g8
   ·have h6:=dF h6
    have x0:x.getD i 0=0:=by rw [gD,List.getElem?_eq_none (by omega)]; rfl
    rw [x0] at go hsn hcr1
    refine ae (fun h7=> ?_) (fun h7=> ?_)
    ·have h7:=dT h7
     obtain ⟨q2,g4,g5⟩:=Dt (rb.ok ok) (i:=(i:Int)) (by omega) (by omega)
     rw [Int.toNat_natCast] at g5
     refine ⟨q2,g4,_,g5,go.mono ?_⟩
     rintro _ _ ⟨rfl,rfl⟩
     refine ⟨_,_,rfl,_,_,_,nJ _,?_⟩
     obtain ⟨b,m,d,u,g6,g7,g8,g9⟩:=fL w ok ho ((Num.plusF BB 0 (y.getD i 0) (Num.cr (Num.plusF BB) x y 0 0 i)).1:Nat) (by rw [lM,hel]; omega)
     refine ⟨b,m,d,u,g6,cH (mz - 1) (by omega) ⟨by omega,by omega,by rw [hcr1],?_,g9⟩⟩
     rw [hsn,List.map_append]
     exact g8
    ·have h7:=dF h7
     have y0:y.getD i 0=0:=by rw [gD,List.getElem?_eq_none (by omega)]; rfl
     rw [y0] at go hsn hcr1
     refine go.mono ?_
     rintro _ _ ⟨rfl,rfl⟩
     refine ⟨_,_,rfl,_,_,_,nJ _,?_⟩
     obtain ⟨b,m,d,u,g6,g7,g8,g9⟩:=fL w ok ho ((Num.plusF BB 0 0 (Num.cr (Num.plusF BB) x y 0 0 i)).1:Nat) (by rw [lM,hel]; omega)
     refine ⟨b,m,d,u,g6,cH (mz - 1) (by omega) ⟨by omega,by omega,by rw [hcr1],?_,g9⟩⟩
     rw [hsn,List.map_append]
     exact g8
  ·have h5:=dF h5
   obtain rfl:i=N+1:=by omega
   refine (nj ho (by rw [hel]; omega)).mono ?_
   rintro _ g2 ⟨a',n',c',rfl,o2,rfl⟩
   rw [fin] at o2
   exact ⟨a',n',c',rfl,a',n',c',rfl,o2,ok⟩)
 refine G0 a n c b m d h _ ⟨_,sY _ _ _,?_⟩
 have hw:IntKind.wrap .i64 ((N:Int)+1)=(N:Int)+1:=ap (by omega) (by omega)
 dsimp only
 rw [hmx,hw]
 exact L (N+1) (i:=0) ⟨by omega,by omega,rfl,.inl ⟨rfl,rfl⟩,Ok.refl w⟩
theorem FE {h:Heap}{a b:Option Addr}{n c m d:Nat}{x y:List Nat}(ra:Rd h 103 (.slice a n c) (x.map uv))(rb:Rd h 103 (.slice b m d) (y.map uv))(hx: ∀ d∈x,d < BB)(hy: ∀ d∈y,d < BB)(hlx:x.length<=10000)(hly:y.length<=10000)(w:Wf h){R:Nat}(fin:Num.trimL (Num.eachF (Num.minusF BB) x y 0 (max x.length y.length+1) 0)=Num.toB BB R):
  FW SS 167 [.slice a n c,.slice b m d,.func (.func 174) ⟨[]⟩ ⟨[]⟩] h (dx h 103 (bl R)):=by
 have hn:n=x.length:=by have:=ra.len; rwa [lM] at this
 have hm:m=y.length:=by have:=rb.len; rwa [lM] at this
 rw [<-hn,<-hm] at fin
 have hcr: ∀ j,Num.cr (Num.minusF BB) x y 0 0 j<=1:=by
  intro j
  induction j with
  | zero=>exact Nat.zero_le _
  | succ j ih=>exact Qb (Num.getD_lt (by decide) hx _) (Num.getD_lt (by decide) hy _) ih
 have hmn:n<=max n m/\m<=max n m:=⟨Nat.le_max_left _ _,Nat.le_max_right _ _⟩
 have hmx2:max n m<=10000:=Nat.max_le.2 ⟨by omega,by omega⟩
 have hmx:(if (m:Int) > (n:Int) then (m:Int) else (n:Int))=((max n m:Nat):Int):=by split <;> omega
 generalize max n m=N at *
 have L:=ph a n c b m d ((N:Int)+1) (fun mz i cy r rn rc g=>i<=N+1/\mz=N+1 - i/\cy=(Num.cr (Num.minusF BB) x y 0 0 i:Nat)/\OwnR h g 103 (.slice r rn rc) ((Num.eachF (Num.minusF BB) x y 0 i 0).map uv)/\Ok h g) (dx h 103 (bl R)) (by
  intro mz i cy r rn rc; intros; rename_i g hi
  obtain ⟨h1,h2,rfl,ho,ok⟩:=hi
  have hw3:IntKind.wrap .i64 ((i:Int)+1)=((i+1:Nat):Int):=by rw [ap (by omega) (by omega)]; omega
  unfold kG
  rw [hw3]
  have hel:(Num.eachF (Num.minusF BB) x y 0 i 0).length=i:=Num.eachF_len _ _ _ _ _ _
  have hsn:=Num.eachF_snoc (Num.minusF BB) x y i 0 0
  rw [Nat.zero_add] at hsn
  have hcr1:Num.cr (Num.minusF BB) x y 0 0 (i+1)=(Num.minusF BB (x.getD i 0) (y.getD i 0) (Num.cr (Num.minusF BB) x y 0 0 i)).2:=by
   show (Num.minusF BB (x.getD (0+i) 0) (y.getD (0+i) 0) _).2=_
   rw [Nat.zero_add]
  have hci:=hcr i
  have go:=LZ (x.getD i 0) (y.getD i 0) (Num.cr (Num.minusF BB) x y 0 0 i) (Num.getD_lt (by decide) hx _) (Num.getD_lt (by decide) hy _) hci g
  refine ae (fun h5=> ?_) (fun h5=> ?_)
  ·have h5:=dT h5
   refine ae (fun h6=> ?_) (fun h6=> ?_)
   ·have h6:=dT h6
    obtain ⟨q,g2,g3⟩:=Dt (ra.ok ok) (i:=(i:Int)) (by omega) (by omega)
    rw [Int.toNat_natCast] at g3
    refine ⟨q,g2,_,g3,ae (fun h7=> ?_) (fun h7=> ?_)⟩
    ·have h7:=dT h7
     obtain ⟨q2,g4,g5⟩:=Dt (rb.ok ok) (i:=(i:Int)) (by omega) (by omega)
     rw [Int.toNat_natCast] at g5
     refine ⟨q2,g4,_,g5,go.mono ?_⟩
     rintro _ _ ⟨rfl,rfl⟩
     refine ⟨_,_,rfl,_,_,_,nJ _,?_⟩
     obtain ⟨b,m,d,u,g6,g7,g8,g9⟩:=fL w ok ho ((Num.minusF BB (x.getD i 0) (y.getD i 0) (Num.cr (Num.minusF BB) x y 0 0 i)).1:Nat) (by rw [lM,hel]; omega)
     refine ⟨b,m,d,u,g6,cA (mz - 1) (by omega) ⟨by omega,by omega,by rw [hcr1],?_,g9⟩⟩
     rw [hsn,List.map_append]
     exact g8
    ·have h7:=dF h7
     have y0:y.getD i 0=0:=by rw [gD,List.getElem?_eq_none (by omega)]; rfl
     rw [y0] at go hsn hcr1
     refine go.mono ?_
     rintro _ _ ⟨rfl,rfl⟩
     refine ⟨_,_,rfl,_,_,_,nJ _,?_⟩
     obtain ⟨b,m,d,u,g6,g7,g8,g9⟩:=fL w ok ho ((Num.minusF BB (x.getD i 0) 0 (Num.cr (Num.minusF BB) x y 0 0 i)).1:Nat) (by rw [lM,hel]; omega)
     refine ⟨b,m,d,u,g6,cA (mz - 1) (by omega) ⟨by omega,by omega,by rw [hcr1],?_,g9⟩⟩
     rw [hsn,List.map_append]
     exact g8
   ·have h6:=dF h6
    have x0:x.getD i 0=0:=by rw [gD,List.getElem?_eq_none (by omega)]; rfl
    rw [x0] at go hsn hcr1
    refine ae (fun h7=> ?_) (fun h7=> ?_)
    ·have h7:=dT h7
     obtain ⟨q2,g4,g5⟩:=Dt (rb.ok ok) (i:=(i:Int)) (by omega) (by omega)
     rw [Int.toNat_natCast] at g5
     refine ⟨q2,g4,_,g5,go.mono ?_⟩
     rintro _ _ ⟨rfl,rfl⟩
     refine ⟨_,_,rfl,_,_,_,nJ _,?_⟩
     obtain ⟨b,m,d,u,g6,g7,g8,g9⟩:=fL w ok ho ((Num.minusF BB 0 (y.getD i 0) (Num.cr (Num.minusF BB) x y 0 0 i)).1:Nat) (by rw [lM,hel]; omega)
     refine ⟨b,m,d,u,g6,cA (mz - 1) (by omega) ⟨by omega,by omega,by rw [hcr1],?_,g9⟩⟩
     rw [hsn,List.map_append]
     exact g8
    ·have h7:=dF h7
     have y0:y.getD i 0=0:=by rw [gD,List.getElem?_eq_none (by omega)]; rfl
     rw [y0] at go hsn hcr1
     refine go.mono ?_
     rintro _ _ ⟨rfl,rfl⟩
     refine ⟨_,_,rfl,_,_,_,nJ _,?_⟩
     obtain ⟨b,m,d,u,g6,g7,g8,g9⟩:=fL w ok ho ((Num.minusF BB 0 0 (Num.cr (Num.minusF BB) x y 0 0 i)).1:Nat) (by rw [lM,hel]; omega)
     refine ⟨b,m,d,u,g6,cA (mz - 1) (by omega) ⟨by omega,by omega,by rw [hcr1],?_,g9⟩⟩
     rw [hsn,List.map_append]
     exact g8
  ·have h5:=dF h5
   obtain rfl:i=N+1:=by omega
   refine (nj ho (by rw [hel]; omega)).mono ?_
   rintro _ g2 ⟨a',n',c',rfl,o2,rfl⟩
   rw [fin] at o2
   exact ⟨a',n',c',rfl,a',n',c',rfl,o2,ok⟩)
 refine Ez a n c b m d h _ ⟨_,sY _ _ _,?_⟩
 have hw:IntKind.wrap .i64 ((N:Int)+1)=(N:Int)+1:=ap (by omega) (by omega)
 dsimp only
 rw [hmx,hw]
 exact L (N+1) (i:=0) ⟨by omega,by omega,rfl,.inl ⟨rfl,rfl⟩,Ok.refl w⟩
theorem JU {h:Heap}{a b:Option Addr}{n c m d X Y:Nat}(ra:Rd h 103 (.slice a n c) (bl X))(rb:Rd h 103 (.slice b m d) (bl Y))(hlx:(Num.toB BB X).length<=10000)(hly:(Num.toB BB Y).length<=10000)(w:Wf h):FW SS 159 [.slice a n c,.slice b m d] h (dx h 103 (bl (X+Y))):=by
 have hX:=Num.toB_lt cG X
 have hY:=Num.toB_lt cG Y
 refine Ja a n c b m d h _ ((GR ra rb hX hY hlx hly w (R:=X+Y) ?_).mono ?_)
 ·have h1:=Nat.le_max_left (Num.toB BB X).length (Num.toB BB Y).length
  have h2:=Nat.le_max_right (Num.toB BB X).length (Num.toB BB Y).length
  rw [Num.trimL_eq cG (Num.eachF_lt (fun p q c=>Nat.mod_lt _ (by decide)) _ _ _ 0 0),Num.plus_bv cG hX hY _ 0 0 (by omega) (by omega) (by omega) (by omega),List.drop_zero,List.drop_zero,Num.bv_toB cG,Num.bv_toB cG]; rfl
 ·rintro _ g ⟨a',n',c',rfl,o,ok⟩
  exact ⟨_,_,_,rfl,a',n',c',rfl,o,ok⟩
theorem Hr {h:Heap}{a b:Option Addr}{n c m d X Y:Nat}(ra:Rd h 103 (.slice a n c) (bl X))(rb:Rd h 103 (.slice b m d) (bl Y))(hXY:Y<=X)(hlx:(Num.toB BB X).length<=10000)(hly:(Num.toB BB Y).length<=10000)(w:Wf h):FW SS 162 [.slice a n c,.slice b m d] h (dx h 103 (bl (X - Y))):=by
 have hX:=Num.toB_lt cG X
 have hY:=Num.toB_lt cG Y
 refine Gu a n c b m d h _ ((FE ra rb hX hY hlx hly w (R:=X - Y) ?_).mono ?_)
 ·have h1:=Nat.le_max_left (Num.toB BB X).length (Num.toB BB Y).length
  have h2:=Nat.le_max_right (Num.toB BB X).length (Num.toB BB Y).length
  rw [Num.trimL_eq cG (Num.eachF_lt (fun p q c=>Nat.mod_lt _ (by decide)) _ _ _ 0 0)]
  have h3:=Num.minus_bv cG hX hY (max (Num.toB BB X).length (Num.toB BB Y).length+1) 0 0 (by omega) (by omega) (by omega) (by rw [List.drop_zero,List.drop_zero,Num.bv_toB cG,Num.bv_toB cG]; exact hXY)
  rw [List.drop_zero,List.drop_zero,Num.bv_toB cG,Num.bv_toB cG] at h3
  congr 1
  omega
 ·rintro _ g ⟨a',n',c',rfl,o,ok⟩
  exact ⟨_,_,_,rfl,a',n',c',rfl,o,ok⟩
end Go.Proofs.YtoabjjimjldcfaaGreatDoor
end
section
set_option linter.unusedVariables false
namespace Go.Num
theorem ti (B:Nat)(y:List Nat)(k:Nat):bv B (y.take (k+1))=bv B (y.take k)+B ^ k*y.getD k 0:=by
 rcases Nat.lt_or_ge k y.length with h | h
 ·rw [List.take_succ_eq_append_getElem h,bv_snoc,List.length_take,Nat.min_eq_left (by omega),gD,gE h]; rfl
 ·rw [List.take_of_length_le (by omega),List.take_of_length_le (by omega),gD,List.getElem?_eq_none (by omega)]; simp
theorem QO {B:Nat}{x:List Nat}(hB:0 < B)(h: ∀ d∈x,d < B)(i:Nat):x.getD i 0 < B:=by
 rcases Nat.lt_or_ge i x.length with g | g
 ·rw [gD,gE g]; exact h _ (List.getElem_mem _)
 ·rw [gD,List.getElem?_eq_none g]; exact hB
theorem mul_step {B:Nat}(hB:1 < B){L y:List Nat}{i k cy xi P p:Nat}(hL: ∀ d∈L,d < B)(hj:i+k < L.length)(hcy:cy < B)(hxi:xi < B)(hyk:y.getD k 0 < B)(hp:p=L.getD (i+k) 0+cy+xi*y.getD k 0)(eq:bv B L+cy*B ^ (i+k)=P+xi*bv B (y.take k)*B ^ i):
  (∀ d∈L.set (i+k) (p % B),d < B)/\p / B < B/\bv B (L.set (i+k) (p % B))+p / B*B ^ (i+(k+1))=P+xi*bv B (y.take (k+1))*B ^ i:=by
 have hLj:=QO (by omega) hL (i+k)
 refine ⟨fun d hd=> ?_,?_,?_⟩
 ·rcases List.mem_or_eq_of_mem_set hd with h | h
  ·exact hL d h
  ·rw [h]; exact Nat.mod_lt _ (by omega)
 ·rw [Nat.div_lt_iff_lt_mul (by omega),hp]
  have h1:xi*y.getD k 0<=(B - 1)*(B - 1):=Nat.mul_le_mul (by omega) (by omega)
  obtain ⟨C,rfl⟩: ∃ C,B=C+1:=⟨B - 1,by omega⟩
  rw [Nat.add_sub_cancel] at h1
  have h2:(C+1)*(C+1)=C*C+C+C+1:=by rw [Nat.mul_succ,Nat.succ_mul]; omega
  omega
 ·have h1:=JW (B:=B) L (i+k) (p % B) hj
  have h2:=Nat.mod_add_div p B
  have h3:B ^ (i+k)*(p % B)+B ^ (i+k)*(B*(p / B))=B ^ (i+k)*p:=by rw [<-Nat.mul_add,h2]
  have h4:p / B*B ^ (i+(k+1))=B ^ (i+k)*(B*(p / B)):=by
   rw [<-Nat.add_assoc,Nat.pow_succ,Nat.mul_comm (p / B),Nat.mul_assoc]
  have h5:B ^ (i+k)*p=B ^ (i+k)*L.getD (i+k) 0+B ^ (i+k)*cy+B ^ (i+k)*(xi*y.getD k 0):=by rw [hp,Nat.mul_add,Nat.mul_add]
  have h6:xi*bv B (y.take (k+1))*B ^ i=xi*bv B (y.take k)*B ^ i+B ^ (i+k)*(xi*y.getD k 0):=by
   rw [ti,Nat.mul_add,Nat.add_mul,Nat.pow_add]
   congr 1
   rw [Nat.mul_left_comm xi,Nat.mul_comm _ (B ^ i),Nat.mul_assoc]
  rw [Nat.mul_comm cy] at eq
  rw [h4,h6]
  omega
theorem mul_end {B:Nat}(hB:1 < B){L x y:List Nat}{i cy:Nat}(hx: ∀ d∈x,d < B)(hy: ∀ d∈y,d < B)(hi:i < x.length)(hL: ∀ d∈L,d < B)(eq:bv B L+cy*B ^ (i+(y.length+1))=bv B (x.take i)*bv B y+x.getD i 0*bv B (y.take (y.length+1))*B ^ i):
  bv B L=bv B (x.take (i+1))*bv B y:=by
 have h1:bv B (x.take (i+1))*bv B y=bv B (x.take i)*bv B y+x.getD i 0*bv B y*B ^ i:=by
  rw [ti,Nat.add_mul]
  congr 1
  rw [Nat.mul_assoc,Nat.mul_comm]
 rw [List.take_of_length_le (by omega:y.length<=y.length+1),<-h1] at eq
 have h2:bv B (x.take (i+1)) < B ^ (i+1):=by
  have:=bv_lt (b:=B) (x:=x.take (i+1)) (fun d hd=>hx d (List.mem_of_mem_take hd))
  rwa [List.length_take,Nat.min_eq_left (by omega)] at this
 have h3:=bv_lt hy
 have h4:bv B (x.take (i+1))*bv B y < B ^ (i+(y.length+1)):=by
  rw [show i+(y.length+1)=(i+1)+y.length by omega,Nat.pow_add]
  exact Nat.mul_lt_mul'' h2 h3
 rcases Nat.eq_zero_or_pos cy with h | h
 ·subst h; omega
 ·have h5:1*B ^ (i+(y.length+1))<=cy*B ^ (i+(y.length+1)):=Nat.mul_le_mul_right _ h
  omega
theorem bv_replicate (B n:Nat):bv B (List.replicate n 0)=0:=by
 induction n with
 | zero=>rfl
 | succ n ih=>rw [List.replicate_succ,bv,ih]; simp
end Go.Num
end
section
set_option linter.unusedVariables false
set_option maxRecDepth 100000
namespace Go.Proofs.YtoabjjimjldcfaaGreatDoor
open Go Go.Ab
def jw (X:Nat):Value:=if 1000 < (Num.toDec X).length then BP [] 2 else BP (Num.toDec X) 0
def xK (a b:List UInt8):Value:=if Num.valid a=true/\Num.valid b=true then jw (Num.val a+Num.val b) else BP [] 1
def xV (a b:List UInt8):Value:=if Num.valid a=true/\Num.valid b=true then jw (Num.val a*Num.val b) else BP [] 1
def yx (a b:List UInt8):Value:=if Num.valid a=true/\Num.valid b=true then (if Num.val a < Num.val b then BP [] 4 else BP (Num.toDec (Num.val a - Num.val b)) 0) else BP [] 1
def xD (a b:List UInt8):Value:=if Num.valid a=true/\Num.valid b=true then .int .i64 (Num.cmpN (Num.val a) (Num.val b)) else .int .i64 0
theorem q6 {h:Heap}{a:Option Addr}{n c X:Nat}(ra:Rd h 103 (.slice a n c) (bl X))(hlen:(Num.toB BB X).length<=10000)(t:Tab h)(w:Wf h):FW SS 141 [.slice a n c] h (fun v h'=>v=jw X/\Ok h h'):=by
 refine Cc a n c h _ ((sg ra hlen t w).mono ?_)
 rintro _ g ⟨rfl,ok⟩
 refine ⟨_,rfl,ae (fun h1=> ?_) (fun h1=> ?_)⟩
 ·have h1:=dT h1
  refine ⟨?_,ok⟩
  unfold jw; rw [if_pos (by omega)]; rfl
 ·have h1:=dF h1
  refine ⟨?_,ok⟩
  unfold jw; rw [if_neg (by omega)]; rfl
structure TwoB (a b:List UInt8)(X Y:Nat):Prop where
 va:Num.valid a=true
 vb:Num.valid b=true
 ea:Num.val a=X
 eb:Num.val b=Y
 lx:(Num.toB BB X).length<=112
 ly:(Num.toB BB Y).length<=112
theorem RS {a b:List UInt8}(va:Num.valid a=true)(vb:Num.valid b=true):TwoB a b (Num.val a) (Num.val b):=by
 obtain ⟨X,_,hX,eX⟩:=Num.valid_ex va
 obtain ⟨Y,_,hY,eY⟩:=Num.valid_ex vb
 exact ⟨va,vb,rfl,rfl,by rw [eX]; exact kI hX,by rw [eY]; exact kI hY⟩
theorem ic {a:List UInt8}(va:Num.valid a=true){h:Heap}(w:Wf h):FW SS 140 [aa a] h (dx h 103 (bl (Num.val a))):=by
 have da:=(Num.valid_iff.1 va)
 exact mO a da.1.2.1 (Nat.le_trans da.2 (by omega)) h w
theorem Sg {X Y:Nat}(hx:(Num.toB BB X).length<=112)(hy:(Num.toB BB Y).length<=112):(Num.toB BB (X+Y)).length<=10000:=by
 have h1:=Num.bv_lt (Num.toB_lt cG X)
 have h2:=Num.bv_lt (Num.toB_lt cG Y)
 rw [Num.bv_toB cG] at h1 h2
 have h3:=Nat.lt_of_lt_of_le h1 (Nat.pow_le_pow_right (show 0 < BB by decide) hx)
 have h4:=Nat.lt_of_lt_of_le h2 (Nat.pow_le_pow_right (show 0 < BB by decide) hy)
 refine Nat.le_trans (Num.toB_len_le cG (k:=113) ?_) (by omega)
 rw [Nat.pow_succ]
 have h5:2*BB ^ 112<=BB ^ 112*BB:=by rw [Nat.mul_comm]; exact Nat.mul_le_mul_left _ (by decide)
 generalize BB ^ 112=M at *
 omega
theorem P4 {m n:Nat}(h:m<=n):(Num.toB BB m).length<=(Num.toB BB n).length:=Nat.le_of_not_lt fun g=>absurd (Num.toB_len_lt cG g) (Nat.not_lt.2 h)
theorem ur (X:Nat): ∃ l n,jw X=BP l n:=by
 unfold jw; split <;> exact ⟨_,_,rfl⟩
theorem yW {v:Value}(hv: ∃ l n,v=BP l n){K:Value->Prop}(hK:K v): ∃ (l:List UInt8)(n:Int),v = .tuple ⟨[aa l,.int .i64 n]⟩/\K (.tuple ⟨[aa l,.int .i64 n]⟩):=by
 obtain ⟨l,n,rfl⟩:=hv
 exact ⟨l,n,rfl,hK⟩
theorem cmpN_lt {x y:Nat}(h:Num.cmpN x y < 0):x < y:=by
 unfold Num.cmpN at h; split at h <;> omega
theorem cmpN_ge {x y:Nat}(h: ¬ Num.cmpN x y < 0):y<=x:=by
 unfold Num.cmpN at h; split at h <;> omega
theorem LD (a b:List UInt8){h:Heap}(t:Tab h)(w:Wf h):FW SS 136 [aa a,aa b] h (fun v h'=>v=xK a b/\Ok h h'):=by
 refine Lz a b h _ ((bJ a h).mono ?_)
 rintro _ g0 ⟨rfl,e0⟩
 obtain rfl:h=g0:=e0.symm
 refine ⟨_,rfl,ae (fun g=> ?_) (fun g=> ?_)⟩
 ·have g:Num.valid a=false:=by simpa using g
  refine ⟨?_,Ok.refl w⟩
  unfold xK; rw [if_neg (fun e=>by rw [e.1] at g; cases g)]; rfl
 have g:Num.valid a=true:=by simpa using g
 refine (bJ b h).mono ?_
 rintro _ g0 ⟨rfl,e0⟩
 obtain rfl:h=g0:=e0.symm
 refine ⟨_,rfl,ae (fun g2=> ?_) (fun g2=> ?_)⟩
 ·have g2:Num.valid b=false:=by simpa using g2
  refine ⟨?_,Ok.refl w⟩
  unfold xK; rw [if_neg (fun e=>by rw [e.2] at g2; cases g2)]; rfl
 have g2:Num.valid b=true:=by simpa using g2
 have tb:=RS g g2
 have lx:=tb.lx
 have ly:=tb.ly
 refine (ic g w).mono ?_
 rintro _ h1 ⟨a1,n1,c1,rfl,o1,ok1⟩
 refine ⟨_,_,_,rfl,(ic g2 ok1.wf).mono ?_⟩
 rintro _ h2 ⟨a2,n2,c2,rfl,o2,ok2⟩
 refine ⟨_,_,_,rfl,?_⟩
 have hS:xK a b=jw (Num.val a+Num.val b):=by unfold xK; rw [if_pos ⟨g,g2⟩]
 rw [hS]
 have r1:=o1.rd.ok ok2
 have r2:=o2.rd
 have ok:=ok1.trans ok2
 refine (JU r1 r2 (by omega) (by omega) ok.wf).mono ?_
 rintro _ h3 ⟨a3,n3,c3,rfl,o3,ok3⟩
 refine ⟨_,_,_,rfl,(q6 o3.rd (Sg lx ly) (t.ok (ok.trans ok3)) ok3.wf).mono ?_⟩
 rintro _ h4 ⟨rfl,ok4⟩
 exact yW (K:=fun v=>v=jw (Num.val a+Num.val b)/\Ok h h4) (ur _) ⟨rfl,(ok.trans ok3).trans ok4⟩
theorem CY (a b:List UInt8){h:Heap}(t:Tab h)(w:Wf h):FW SS 138 [aa a,aa b] h (fun v h'=>v=yx a b/\Ok h h'):=by
 refine Nx a b h _ ((bJ a h).mono ?_)
 rintro _ g0 ⟨rfl,e0⟩
 obtain rfl:h=g0:=e0.symm
 refine ⟨_,rfl,ae (fun g=> ?_) (fun g=> ?_)⟩
 ·have g:Num.valid a=false:=by simpa using g
  refine ⟨?_,Ok.refl w⟩
  unfold yx; rw [if_neg (fun e=>by rw [e.1] at g; cases g)]; rfl
 have g:Num.valid a=true:=by simpa using g
 refine (bJ b h).mono ?_
 rintro _ g0 ⟨rfl,e0⟩
 obtain rfl:h=g0:=e0.symm
 refine ⟨_,rfl,ae (fun g2=> ?_) (fun g2=> ?_)⟩
 ·have g2:Num.valid b=false:=by simpa using g2
  refine ⟨?_,Ok.refl w⟩
  unfold yx; rw [if_neg (fun e=>by rw [e.2] at g2; cases g2)]; rfl
 have g2:Num.valid b=true:=by simpa using g2
 have tb:=RS g g2
 have lx:=tb.lx
 have ly:=tb.ly
 refine (ic g w).mono ?_
 rintro _ h1 ⟨a1,n1,c1,rfl,o1,ok1⟩
 refine ⟨_,_,_,rfl,(ic g2 ok1.wf).mono ?_⟩
 rintro _ h2 ⟨a2,n2,c2,rfl,o2,ok2⟩
 refine ⟨_,_,_,rfl,?_⟩
 have hS:yx a b=(if Num.val a < Num.val b then BP [] 4 else BP (Num.toDec (Num.val a - Num.val b)) 0):=by unfold yx; rw [if_pos ⟨g,g2⟩]
 rw [hS]
 have r1:=o1.rd.ok ok2
 have r2:=o2.rd
 have ok:=ok1.trans ok2
 refine (lg r1 r2 (by omega) ok.wf).mono ?_
 rintro _ h3 ⟨rfl,ok3⟩
 refine ⟨_,rfl,ae (fun h6=> ?_) (fun h6=> ?_)⟩
 ·have h6:=dT h6
  rw [if_pos (cmpN_lt h6)]
  exact ⟨rfl,ok.trans ok3⟩
 ·have h6:=dF h6
  have hle:=cmpN_ge h6
  rw [if_neg (Nat.not_lt.2 hle)]
  refine (Hr (r1.ok ok3) (r2.ok ok3) hle (by omega) (by omega) ok3.wf).mono ?_
  rintro _ h4 ⟨a3,n3,c3,rfl,o3,ok4⟩
  refine ⟨_,_,_,rfl,(sg o3.rd (Nat.le_trans (P4 (Nat.sub_le _ _)) (by omega)) (t.ok ((ok.trans ok3).trans ok4)) ok4.wf).mono ?_⟩
  rintro _ h5 ⟨rfl,ok5⟩
  exact ⟨_,rfl,rfl,((ok.trans ok3).trans ok4).trans ok5⟩
theorem N0 (a b:List UInt8){h:Heap}(t:Tab h)(w:Wf h):FW SS 137 [aa a,aa b] h (fun v h'=>v=xD a b/\Ok h h'):=by
 refine LS a b h _ ((bJ a h).mono ?_)
 rintro _ g0 ⟨rfl,e0⟩
 obtain rfl:h=g0:=e0.symm
 refine ⟨_,rfl,ae (fun g=> ?_) (fun g=> ?_)⟩
 ·have g:Num.valid a=false:=by simpa using g
  refine ⟨?_,Ok.refl w⟩
  unfold xD; rw [if_neg (fun e=>by rw [e.1] at g; cases g)]
 have g:Num.valid a=true:=by simpa using g
 refine (bJ b h).mono ?_
 rintro _ g0 ⟨rfl,e0⟩
 obtain rfl:h=g0:=e0.symm
 refine ⟨_,rfl,ae (fun g2=> ?_) (fun g2=> ?_)⟩
 ·have g2:Num.valid b=false:=by simpa using g2
  refine ⟨?_,Ok.refl w⟩
  unfold xD; rw [if_neg (fun e=>by rw [e.2] at g2; cases g2)]
 have g2:Num.valid b=true:=by simpa using g2
 have tb:=RS g g2
 have lx:=tb.lx
 have ly:=tb.ly
 refine (ic g w).mono ?_
 rintro _ h1 ⟨a1,n1,c1,rfl,o1,ok1⟩
 refine ⟨_,_,_,rfl,(ic g2 ok1.wf).mono ?_⟩
 rintro _ h2 ⟨a2,n2,c2,rfl,o2,ok2⟩
 refine ⟨_,_,_,rfl,?_⟩
 have hS:xD a b = .int .i64 (Num.cmpN (Num.val a) (Num.val b)):=by unfold xD; rw [if_pos ⟨g,g2⟩]
 rw [hS]
 have r1:=o1.rd.ok ok2
 have r2:=o2.rd
 have ok:=ok1.trans ok2
 refine (lg r1 r2 (by omega) ok.wf).mono ?_
 rintro _ h3 ⟨rfl,ok3⟩
 exact ⟨_,rfl,rfl,ok.trans ok3⟩
end Go.Proofs.YtoabjjimjldcfaaGreatDoor
end
section
namespace Go.Num
def idxB (c:UInt8):List UInt8->Nat
 | []=>0
 | x::l=>if x=c then 0 else idxB c l+1
theorem idxB_iff (c:UInt8): ∀ (l:List UInt8)(i:Nat),i<=l.length->(∀ j,j < i->l.getD j 0≠c)->(i < l.length->l.getD i 0=c)->idxB c l=i
 | [],i,h,_,_=>by simp at h; subst h; rfl
 | x::l,0,h,_,h2=>by
  have:=h2 (by simp)
  unfold idxB; rw [if_pos (by simpa using this)]
 | x::l,i+1,h,h1,h2=>by
  have h0:=h1 0 (by omega)
  unfold idxB; rw [if_neg (by simpa using h0)]
  rw [idxB_iff c l i (by simpa using h) (fun j hj=>by simpa using h1 (j+1) (by omega)) (fun hi=>by simpa using h2 (by simpa using hi))]
def isNeg (a:List UInt8):Bool:=a.head? == some 45
def afterNeg (a:List UInt8):List UInt8:=if isNeg a then a.drop 1 else a
def numOf (a:List UInt8):List UInt8:=(afterNeg a).take (idxB 47 (afterNeg a))
def hasStroke (a:List UInt8):Bool:=decide (idxB 47 (afterNeg a) < (afterNeg a).length)
def denOf (a:List UInt8):List UInt8:=if hasStroke a then (afterNeg a).drop (idxB 47 (afterNeg a)+1) else [49]
def isRat (a:List UInt8):Bool:=valid (numOf a) && valid (denOf a) && decide ((numOf a).length<=400) && decide ((denOf a).length<=400) && !(isNeg a && numOf a == [48]) && !(hasStroke a && (denOf a == [48] || denOf a == [49])) && decide (Nat.gcd (val (numOf a)) (val (denOf a))=1)
structure IsRat (a:List UInt8):Prop where
 num:valid (numOf a)=true
 den:valid (denOf a)=true
 ln:(numOf a).length<=400
 ld:(denOf a).length<=400
 neg: ¬ (isNeg a=true/\numOf a=[48])
 fr: ¬ (hasStroke a=true/\(denOf a=[48]\/denOf a=[49]))
 one:Nat.gcd (val (numOf a)) (val (denOf a))=1
theorem isRat_iff {a:List UInt8}:isRat a=true↔IsRat a:=by
 unfold isRat
 simp only [Bool.and_eq_true,Bool.not_eq_true',Bool.and_eq_false_iff,Bool.or_eq_false_iff,decide_eq_true_eq,beq_eq_false_iff_ne]
 constructor
 ·rintro ⟨⟨⟨⟨⟨⟨h1,h2⟩,h3⟩,h4⟩,h5⟩,h6⟩,h7⟩
  refine ⟨h1,h2,h3,h4,fun ⟨e1,e2⟩=> ?_,fun ⟨e1,e2⟩=> ?_,h7⟩
  ·rcases h5 with h5 | h5
   ·rw [e1] at h5; cases h5
   ·exact h5 e2
  ·rcases h6 with h6 | h6
   ·rw [e1] at h6; cases h6
   ·rcases e2 with e2 | e2
    ·exact h6.1 e2
    ·exact h6.2 e2
 ·rintro ⟨h1,h2,h3,h4,h5,h6,h7⟩
  refine ⟨⟨⟨⟨⟨⟨h1,h2⟩,h3⟩,h4⟩,?_⟩,?_⟩,h7⟩
  ·cases hn:isNeg a with
   | false=>exact .inl rfl
   | true=>exact .inr fun e=>h5 ⟨hn,e⟩
  ·cases hn:hasStroke a with
   | false=>exact .inl rfl
   | true=>exact .inr ⟨fun e=>h6 ⟨hn,.inl e⟩,fun e=>h6 ⟨hn,.inr e⟩⟩
theorem j2 {a:List UInt8}(h:valid a=true):a=[48]↔val a=0:=by
 obtain ⟨n,rfl,_,e⟩:=valid_ex h
 rw [e,toDec_eq_zero]
theorem Dw {a:List UInt8}(h:valid a=true):a=[49]↔val a=1:=by
 obtain ⟨n,rfl,_,e⟩:=valid_ex h
 rw [e,toDec_eq_one]
theorem Um:val [49]=1:=by decide
theorem valid_lt {a:List UInt8}{k:Nat}(h:valid a=true)(hk:0 < k)(hl:a.length<=k):val a < 10 ^ k:=by
 obtain ⟨n,rfl,_,e⟩:=valid_ex h
 rw [e]; exact (toDec_len_le hk).1 hl
theorem isRat_ref {a:List UInt8}:IsRat a↔(valid (numOf a)=true/\(numOf a).length<=400)/\(valid (denOf a)=true/\(denOf a).length<=400)/\denOf a≠[48]/\ ¬ (numOf a=[48]/\(isNeg a=true\/hasStroke a=true))/\ ¬ (denOf a=[49]/\hasStroke a=true)/\(Nat.gcd (val (numOf a)) (val (denOf a))=1\/denOf a=[49]):=by
 constructor
 ·rintro ⟨h1,h2,h3,h4,h5,h6,h7⟩
  have hd:hasStroke a=false->denOf a=[49]:=fun h=>by unfold denOf; rw [h]; rfl
  refine ⟨⟨h1,h3⟩,⟨h2,h4⟩,fun e=> ?_,?_,fun ⟨e1,e2⟩=>h6 ⟨e2,.inr e1⟩,.inl h7⟩
  ·cases hs:hasStroke a with
   | false=>rw [hd hs] at e; cases e
   | true=>exact h6 ⟨hs,.inl e⟩
  ·rintro ⟨e1,e2 | e2⟩
   ·exact h5 ⟨e2,e1⟩
   ·have e3:=(j2 h1).1 e1
    rw [e3,Nat.gcd_zero_left] at h7
    exact h6 ⟨e2,.inr ((Dw h2).2 h7)⟩
 ·rintro ⟨⟨h1,h3⟩,⟨h2,h4⟩,h5,h6,h7,h8⟩
  refine ⟨h1,h2,h3,h4,fun ⟨e1,e2⟩=>h6 ⟨e2,.inl e1⟩,fun ⟨e1,e2⟩=> ?_,?_⟩
  ·rcases e2 with e2 | e2
   ·exact h5 e2
   ·exact h7 ⟨e2,e1⟩
  ·rcases h8 with h8 | h8
   ·exact h8
   ·rw [h8,Um,Nat.gcd_one_right]
def plusS (s:Bool)(A:Nat)(t:Bool)(B:Nat):Bool×Nat:=if s=t then (s,A+B) else if A < B then (t,B - A) else (s,A - B)
def cmpRat (a b:List UInt8):Int:=
 if isRat a=true/\isRat b=true then
  if (plusS (isNeg a) (val (numOf a)*val (denOf b)) (!isNeg b) (val (numOf b)*val (denOf a))).2=0 then 0
  else if (plusS (isNeg a) (val (numOf a)*val (denOf b)) (!isNeg b) (val (numOf b)*val (denOf a))).1=true then -1 else 1
 else 0
theorem Sf {A B k m:Nat}(e:k+k=m)(hA:A < 10 ^ k)(hB:B < 10 ^ k):A*B < 10 ^ m:=by
 subst e
 rw [Nat.pow_add]
 exact Nat.mul_lt_mul'' hA hB
theorem pow_400_800 {A B:Nat}(hA:A < 10 ^ 400)(hB:B < 10 ^ 400):A*B < 10 ^ 800:=Sf (k:=400) (m:=800) rfl hA hB
theorem pow_mono10 {k m:Nat}(h:k<=m):10 ^ k<=10 ^ m:=Nat.pow_le_pow_right (by decide) h
theorem MI {k m:Nat}(h:k+1<=m):10 ^ k+10 ^ k<=10 ^ m:=by
 have h1:=pow_mono10 h
 rw [Nat.pow_succ] at h1
 omega
theorem pow_800:(10:Nat) ^ 800+10 ^ 800<=10 ^ 1000:=MI (k:=800) (m:=1000) (by decide)
end Go.Num
end
section
set_option linter.unusedVariables false
set_option maxRecDepth 100000
namespace Go.Proofs.YtoabjjimjldcfaaGreatDoor
open Go Go.Ab
theorem Ri:SS.P.underlying 9=some .string:=Tryz.underlying9
theorem EQ (l:List UInt8)(h:Heap){b:Nat}(hb:b<=l.length):aL SS.P 9 (aa l) none (some (.int .i64 (b:Int))) none h=some (aa (l.take b)):=by
 have:=iY (h:=h) Ri l (lo:=none) (hi:=some (.int .i64 (b:Int))) (a:=0) (b:=b) rfl rfl (by omega) hb
 simpa using this
theorem qr (l:List UInt8)(h:Heap){a:Nat}(ha:a<=l.length):aL SS.P 9 (aa l) (some (.int .i64 (a:Int))) none none h=some (aa (l.drop a)):=by
 have:=iY (h:=h) Ri l (lo:=some (.int .i64 (a:Int))) (hi:=none) (a:=a) (b:=l.length) rfl rfl ha (Nat.le_refl _)
 rw [this,List.take_of_length_le (by simp)]
theorem Mb (l:List UInt8)(h:Heap):FW SS 177 [aa l,aa [45]] h (fun v h'=>v = .bool (Num.isNeg l)/\h'=h):=by
 refine LM l [45] h _ (ae (fun h1=> ?_) (fun h1=> ?_))
 ·have h1:=dT h1
  have h2:1<=l.length:=by simp only [List.length_cons,List.length_nil] at h1; omega
  refine ⟨_,EQ l h (b:=1) h2,?_,rfl⟩
  cases l with
  | nil=>simp at h2
  | cons c l=>
   unfold Num.isNeg
   simp only [List.take_succ_cons,List.take_zero,List.head?_cons]
   congr 1
   cases hc:c == 45 <;> simp_all
 ·have h1:=dF h1
  have h2:l=[]:=List.eq_nil_of_length_eq_zero (by simp at h1; omega)
  subst h2
  exact ⟨rfl,rfl⟩
theorem JS (l:List UInt8)(h:Heap):FW SS 165 [aa l,aa [45]] h (fun v h'=>v = .tuple ⟨[aa (Num.afterNeg l),.bool (Num.isNeg l)]⟩/\h'=h):=by
 refine Jq l [45] h _ ((Mb l h).mono ?_)
 rintro _ g0 ⟨rfl,e0⟩
 obtain rfl:h=g0:=e0.symm
 refine ⟨_,rfl,ae (fun g=> ?_) (fun g=> ?_)⟩
 ·have g:Num.isNeg l=false:=by simpa using g
  unfold Num.afterNeg; rw [g]; exact ⟨rfl,rfl⟩
 ·have g:Num.isNeg l=true:=by simpa using g
  have h2:1<=l.length:=by
   cases l with
   | nil=>cases g
   | cons=>simp
  refine ⟨_,qr l h (a:=1) h2,?_,rfl⟩
  unfold Num.afterNeg; rw [g]; rfl
theorem NA (l:List UInt8)(h:Heap):FW SS 145 [aa l,aa [45]] h (fun v h'=>v = .tuple ⟨[aa (Num.afterNeg l),.bool (Num.isNeg l)]⟩/\h'=h):=by
 refine LQ l [45] h _ ((JS l h).mono ?_)
 rintro _ g0 ⟨rfl,e0⟩
 exact ⟨_,_,rfl,rfl,e0⟩
theorem Jp (l:List UInt8): ∀ i:Nat,jF 47 l i=if Num.idxB 47 l < l.length then ((i+Num.idxB 47 l:Nat):Int) else -1:=by
 induction l with
 | nil=>intro i; rfl
 | cons c l ih=>
  intro i
  unfold jF Num.idxB
  have hc:c.toNat=47↔c=47:=by rw [<-UInt8.toNat_inj]; rfl
  by_cases h:c=47
  ·rw [if_pos (hc.2 h),if_pos h,if_pos (by simp)]; rfl
  ·rw [if_neg (fun e=>h (hc.1 e)),if_neg h,ih (i+1)]
   have:(Num.idxB 47 l+1 < (c::l).length)↔Num.idxB 47 l < l.length:=by simp
   simp only [this]
   split
   ·congr 1; omega
   ·rfl
def Cr (l:List UInt8):Int:=if Num.idxB 47 l < l.length then (Num.idxB 47 l:Int) else -1
theorem Ge (l:List UInt8)(h:Heap):FW SS 186 [aa l,.int .u8 47] h (fun v h'=>v = .int .i64 (Cr l)/\h'=h):=by
 refine HW l 47 h _ (FF (p:=dV) (v:= .int .i64 (Cr l)) (h':=h) (by decide +kernel) (by kernel_rfl) (fun cf=> ?_) ⟨_,rfl,rfl,rfl⟩)
 show (if (0:Int)<=47/\(47:Int) < 256 then some (Value.int .i64 (jF 47 l 0),h) else none)=_
 rw [if_pos (by decide),Jp,Nat.zero_add]; rfl
theorem Ns (l:List UInt8)(h:Heap):FW SS 178 [aa l,aa [47]] h (fun v h'=>v = .int .i64 (Cr l)/\h'=h):=by
 refine LY l h _ (ae (fun h1=> ?_) (fun h1=> ?_))
 ·have h1:([47]:List UInt8)=l:=by simpa using h1
  subst h1
  exact ⟨rfl,rfl⟩
 ·refine ⟨47,rfl,(Ge l h).mono ?_⟩
  rintro _ g0 ⟨rfl,e0⟩
  exact ⟨_,rfl,rfl,e0⟩
def Nt (l:List UInt8):Value:=if Num.idxB 47 l < l.length then .tuple ⟨[aa (l.take (Num.idxB 47 l)),aa (l.drop (Num.idxB 47 l+1)),.bool true]⟩ else .tuple ⟨[aa l,aa [],.bool false]⟩
theorem RE (l:List UInt8)(hl:l.length<=1000000000){h:Heap}(w:Wf h):FW SS 166 [aa l,aa [47]] h (fun v h'=>v=Nt l/\Ok h h'):=by
 refine SC l h _ ((Ns l h).mono ?_)
 rintro _ g0 ⟨rfl,e0⟩
 obtain rfl:h=g0:=e0.symm
 refine ⟨_,rfl,ae (fun g=> ?_) (fun g=> ?_)⟩
 ·have g:=dT g
  unfold Cr Nt at *
  by_cases h1:Num.idxB 47 l < l.length
  ·rw [if_pos h1,if_pos h1]
   have hw:IntKind.wrap .i64 ((Num.idxB 47 l:Int)+1)=((Num.idxB 47 l+1:Nat):Int):=by rw [ap (by omega) (by omega)]; omega
   rw [hw]
   exact ⟨_,EQ l _ (Nat.le_of_lt h1),_,qr l _ h1,rfl,(Ok.refl w).room 12⟩
  ·rw [if_neg h1] at g; omega
 ·have g:=dF g
  unfold Cr Nt at *
  by_cases h1:Num.idxB 47 l < l.length
  ·rw [if_pos h1] at g; omega
  ·rw [if_neg h1]; exact ⟨rfl,Ok.refl w⟩
theorem Uv (l:List UInt8)(hl:l.length<=1000000000){h:Heap}(w:Wf h):FW SS 146 [aa l,aa [47]] h (fun v h'=>v=Nt l/\Ok h h'):=by
 refine UO l h _ ((RE l hl w).mono ?_)
 rintro _ g0 ⟨rfl,e0⟩
 unfold Nt
 split
 ·exact ⟨_,_,_,rfl,rfl,e0⟩
 ·exact ⟨_,_,_,rfl,rfl,e0⟩
theorem E8 (l:List UInt8)(hl:l.length<=1000000000)(h:Heap):FW SS 126 [aa l,.int .u8 47] h (fun v h'=>v = .int .i64 (Cr l)/\h'=h):=by
 refine Fa l 47 h _ (pK l 47 (fun mz i g=>g=h/\i<=l.length/\mz=l.length - i/\ ∀ j,j < i->l.getD j 0≠47) _ (fun mz i=> ?_) l.length (i:=0) ⟨rfl,by omega,rfl,fun j hj=>by omega⟩)
 intros; rename_i g hi
 obtain ⟨rfl,h1,h2,h3⟩:=hi
 refine ae (fun g1=> ?_) (fun g1=> ?_)
 ·have g1:=dT g1
  have e:aQ SS.P 9 (aa l) (.int .i64 (i:Int))=some (.int .u8 (((l.getD i 0).toNat:Nat):Int)):=by
   have:=i6 Ri l .i64 (i:=(i:Int)) (by omega) g1
   simpa using this
  refine ⟨_,e,ae (fun g2=> ?_) (fun g2=> ?_)⟩
  ·have g2:(l.getD i 0).toNat=47:=by have:=dT g2; omega
   have g3:l.getD i 0=47:=by rw [<-UInt8.toNat_inj]; exact g2
   have:=Num.idxB_iff 47 l i h1 h3 (fun _=>g3)
   refine ⟨?_,rfl⟩
   unfold Cr; rw [this,if_pos (by omega)]
  ·have g2:((l.getD i 0).toNat:Int)≠47:=by simpa using g2
   have hw:IntKind.wrap .i64 ((i:Int)+1)=((i+1:Nat):Int):=by rw [ap (by omega) (by omega)]; omega
   rw [hw]
   refine pz (mz - 1) (by omega) ⟨rfl,by omega,by omega,fun j hj=> ?_⟩
   rcases Nat.lt_or_ge j i with hj2 | hj2
   ·exact h3 j hj2
   ·obtain rfl:j=i:=by omega
    intro e3; rw [e3] at g2; exact g2 rfl
 ·have g1:=dF g1
  obtain rfl:i=l.length:=by omega
  have:=Num.idxB_iff 47 l l.length (Nat.le_refl _) h3 (fun hh=>by omega)
  refine ⟨?_,rfl⟩
  unfold Cr; rw [this,if_neg (by omega)]
noncomputable def nN:Code:=(Tryz.f153.body).getD .skip
def EZ:List Nat:=[]
abbrev EG (l:LB)(h:Heap)(Q:VH):Prop:=aw (decide ((((l:LB).length:Int):Int) > 1000)) (Q (.tuple ⟨[(aa []),(.int .i64 2)]⟩) h) (Q (.tuple ⟨[(aa l),(.int .i64 0)]⟩) h)
theorem Cv (l:LB)(h:Heap)(Q:VH)(hx:EG l h Q):FW SS 153 [(aa l)] h Q:=ax (M:=EZ) (c:=nN) Tryz.func153 (show Tryz.f153.body=some nN by kernel_rfl) (by kernel_rfl) (ai hx (by kernel_rfl))
noncomputable def xq:Code:=(Tryz.f130.body).getD .skip
def Pv:List Nat:=[]
abbrev OC (l m:LB)(h:Heap)(Q:VH):Prop:=FW SS 149 [(aa l)] h fun v1 h2=>yB v1 fun b3=>aw (!b3) (Q (.int .i64 0) h2) (FW SS 149 [(aa m)] h2 fun v4 h5=>yB v4 fun b6=>aw (!b6) (Q (.int .i64 0) h5) (FW SS 155 [(aa l),(aa m)] h5 fun v7 h8=>yI .i64 v7 fun n9=>Q (.int .i64 n9) h8))
theorem M8 (l m:LB)(h:Heap)(Q:VH)(hx:OC l m h Q):FW SS 130 [(aa l),(aa m)] h Q:=ax (M:=Pv) (c:=xq) Tryz.func130 (show Tryz.f130.body=some xq by kernel_rfl) (by kernel_rfl) (ai hx (by kernel_rfl))
noncomputable def wS:Code:=(Tryz.f131.body).getD .skip
def PM:List Nat:=[]
abbrev OK (l m:LB)(h:Heap)(Q:VH):Prop:=FW SS 149 [(aa l)] h fun v1 h2=>yB v1 fun b3=>aw (!b3) (Q (.tuple ⟨[(aa []),(.int .i64 1)]⟩) h2) (FW SS 149 [(aa m)] h2 fun v4 h5=>yB v4 fun b6=>aw (!b6) (Q (.tuple ⟨[(aa []),(.int .i64 1)]⟩) h5) (FW SS 155 [(aa l),(aa m)] h5 fun v7 h8=>yI .i64 v7 fun n9=>aw (decide ((n9:Int) < 0)) (Q (.tuple ⟨[(aa []),(.int .i64 4)]⟩) h8) (FW SS 151 [(aa l)] h8 fun v10 h11=>yL v10 fun a12 n13 c14=>FW SS 151 [(aa m)] h11 fun v15 h16=>yL v15 fun a17 n18 c19=>FW SS 156 [(.slice a12 n13 c14),(.slice a17 n18 c19)] h16 fun v20 h21=>yL v20 fun a22 n23 c24=>FW SS 154 [(.slice a22 n23 c24)] h21 fun v25 h26=>yS v25 fun l27=>Q (.tuple ⟨[(aa l27),(.int .i64 0)]⟩) h26)))
theorem L0 (l m:LB)(h:Heap)(Q:VH)(hx:OK l m h Q):FW SS 131 [(aa l),(aa m)] h Q:=ax (M:=PM) (c:=wS) Tryz.func131 (show Tryz.f131.body=some wS by kernel_rfl) (by kernel_rfl) (ai hx (by kernel_rfl))
noncomputable def ij:Code:=(Tryz.f129.body).getD .skip
noncomputable def HI (Q:VH):aj:=cE SS Tryz.f129.results.toList Q
def zn:List Nat:=[6,7,8,9,10]
noncomputable def Gx (p:List Nat)(w:LV)(h:Heap)(Q:aj):Prop:=bp SS Tryz.f129.ntmps zn (aP p ij) w h Q
noncomputable def Iu (p b:List Nat)(K:aj):aj:=ky SS Tryz.f129.ntmps zn p (aP b ij) K
abbrev Qr (l m:LB)(h:Heap)(Q:VH):Prop:=FW SS 149 [(aa l)] h fun v1 h2=>yB v1 fun b3=>aw (!b3) (Q (.tuple ⟨[(aa []),(.int .i64 1)]⟩) h2) (FW SS 149 [(aa m)] h2 fun v4 h5=>yB v4 fun b6=>aw (!b6) (Q (.tuple ⟨[(aa []),(.int .i64 1)]⟩) h5) (FW SS 151 [(aa l)] h5 fun v7 h8=>yL v7 fun a9 n10 c11=>FW SS 151 [(aa m)] h8 fun v12 h13=>yL v12 fun a14 n15 c16=>Gx [1,1,1,1,1,0,1,0,0] [(.slice a9 n10 c11),(.slice a14 n15 c16),nA,(.int .i64 0),(.int .i64 0)] h13 (Iu [1,1,1,1,1,0,1,0] [] (HI Q))))
theorem N2 (l m:LB)(h:Heap)(Q:VH)(hx:Qr l m h Q):FW SS 129 [(aa l),(aa m)] h Q:=ax (M:=zn) (c:=ij) Tryz.func129 (show Tryz.f129.body=some ij by kernel_rfl) (by kernel_rfl) (ai hx (by kernel_rfl))
abbrev ke (l m:LB)(a:OA)(n c:Nat)(b:OA)(k d:Nat)(i:Nat)(cy:Int)(r:OA)(rn:Nat)(rc:Nat)  : LV:=[(.slice a n c),(.slice b k d),(.slice r rn rc),(.int .i64 cy),(iA i)]
def fB (l m:LB)(a:OA)(n c:Nat)(b:OA)(k d:Nat)(Inv:Nat->Nat->Int->OA->Nat->Nat->Heap->Prop)(mz:Nat)(w:LV)(h:Heap):Prop:= ∃ (i:Nat)(cy:Int)(r:OA)(rn:Nat)(rc:Nat) ,w=(ke l m a n c b k d i cy r rn rc )/\Inv mz i cy r rn rc h
abbrev oX (l m:LB)(a:OA)(n c:Nat)(b:OA)(k d:Nat)(Inv:Nat->Nat->Int->OA->Nat->Nat->Heap->Prop)(Q:VH)(mz:Nat)(i:Nat)(cy:Int)(r:OA)(rn:Nat)(rc:Nat)  (zz:Nat->Value) (h:Heap):Prop:=aw (decide (((i:Int):Int)<=(n:Int))) (FW SS 152 [(.slice a n c),(iA i)] h fun v17 h18=>yI .i64 v17 fun n19=>FW SS 152 [(.slice b k d),(iA i)] h18 fun v20 h21=>yI .i64 v20 fun n22=>xI .i64 (am SS.P .rem 3 (.int .i64 (IntKind.wrap .i64 (IntKind.wrap .i64 (n19+n22)+cy))) (.int .i64 10)) fun n23=>xR (ay SS.P 48 1 [(0,(.int .i64 n23))]) h21 fun B24 n25 c26 g27=>xE (aB SS.P 48 48 (.slice r rn rc) (sA (h21.next) n25 c26) g27) g27 fun a28 n29 c30 u31 g32=>xI .i64 (am SS.P .quo 3 (.int .i64 (IntKind.wrap .i64 (IntKind.wrap .i64 (n19+n22)+cy))) (.int .i64 10)) fun n33=>ak (fB l m a n c b k d Inv) mz [(.slice a n c),(.slice b k d),(.slice a28 n29 c30),(.int .i64 n33),(.int .i64 (IntKind.wrap .i64 ((i:Int)+1)))] g32) (aw (decide (((i:Int):Int)<=(k:Int))) (FW SS 152 [(.slice a n c),(iA i)] h fun v34 h35=>yI .i64 v34 fun n36=>FW SS 152 [(.slice b k d),(iA i)] h35 fun v37 h38=>yI .i64 v37 fun n39=>xI .i64 (am SS.P .rem 3 (.int .i64 (IntKind.wrap .i64 (IntKind.wrap .i64 (n36+n39)+cy))) (.int .i64 10)) fun n40=>xR (ay SS.P 48 1 [(0,(.int .i64 n40))]) h38 fun B41 n42 c43 g44=>xE (aB SS.P 48 48 (.slice r rn rc) (sA (h38.next) n42 c43) g44) g44 fun a45 n46 c47 u48 g49=>xI .i64 (am SS.P .quo 3 (.int .i64 (IntKind.wrap .i64 (IntKind.wrap .i64 (n36+n39)+cy))) (.int .i64 10)) fun n50=>ak (fB l m a n c b k d Inv) mz [(.slice a n c),(.slice b k d),(.slice a45 n46 c47),(.int .i64 n50),(.int .i64 (IntKind.wrap .i64 ((i:Int)+1)))] g49) (FW SS 154 [(.slice r rn rc)] h fun v51 h52=>yS v51 fun l53=>FW SS 153 [(aa l53)] h52 fun v54 h55=> ∃ l56:LB,∃ n57:Int,v54=(.tuple ⟨[(aa l56),(.int .i64 n57)]⟩)/\Q (.tuple ⟨[(aa l56),(.int .i64 n57)]⟩) h55))
theorem lc {l m:LB}{a:OA}{n c:Nat}{b:OA}{k d:Nat}{Inv:Nat->Nat->Int->OA->Nat->Nat->Heap->Prop}{mz:Nat}(mq:Nat){i:Nat}{cy:Int}{r:OA}{rn:Nat}{rc:Nat}  {h:Heap} (hm:mq < mz) (hi:Inv mq i cy r rn rc h):ak (fB l m a n c b k d Inv) mz (ke l m a n c b k d i cy r rn rc ) h:=⟨mq,hm,i,cy,r,rn,rc,rfl,hi⟩
theorem su (l m:LB)(a:OA)(n c:Nat)(b:OA)(k d:Nat)(Inv:Nat->Nat->Int->OA->Nat->Nat->Heap->Prop)(Q:VH)(step: ∀ (mz:Nat) (i:Nat) (cy:Int) (r:OA) (rn:Nat) (rc:Nat)  (zz:Nat->Value) (h:Heap),Inv mz i cy r rn rc h->oX l m a n c b k d Inv Q mz i cy r rn rc  zz h)(mz:Nat){i:Nat}{cy:Int}{r:OA}{rn:Nat}{rc:Nat}  {h:Heap} (hi:Inv mz i cy r rn rc h):Gx [1,1,1,1,1,0,1,0,0] (ke l m a n c b k d i cy r rn rc ) h (Iu [1,1,1,1,1,0,1,0] [] (HI Q)):=
 an (A:=(fB l m a n c b k d Inv)) (show aF Tryz.f129.ntmps (aP [1,1,1,1,1,0,1,0,0] ij)=true by kernel_rfl) (fun mz w zz h ⟨i,cy,r,rn,rc,hw,hi⟩=>by subst hw; exact ai (step mz i cy r rn rc  zz h hi) (by kernel_rfl)) mz _ h ⟨i,cy,r,rn,rc,rfl,hi⟩ (fun zz=>by kernel_rfl) (by kernel_rfl)
noncomputable def fg:Code:=(Tryz.f132.body).getD .skip
noncomputable def sS (Q:VH):aj:=cE SS Tryz.f132.results.toList Q
def pe:List Nat:=[6,7,8,9,10,11]
noncomputable def vj (p:List Nat)(w:LV)(h:Heap)(Q:aj):Prop:=bp SS Tryz.f132.ntmps pe (aP p fg) w h Q
noncomputable def lU (p b:List Nat)(K:aj):aj:=ky SS Tryz.f132.ntmps pe p (aP b fg) K
abbrev P7 (l m:LB)(h:Heap)(Q:VH):Prop:=FW SS 149 [(aa l)] h fun v1 h2=>yB v1 fun b3=>aw (!b3) (Q (.tuple ⟨[(aa []),(.int .i64 1)]⟩) h2) (FW SS 149 [(aa m)] h2 fun v4 h5=>yB v4 fun b6=>aw (!b6) (Q (.tuple ⟨[(aa []),(.int .i64 1)]⟩) h5) (FW SS 151 [(aa l)] h5 fun v7 h8=>yL v7 fun a9 n10 c11=>FW SS 151 [(aa m)] h8 fun v12 h13=>yL v12 fun a14 n15 c16=>xR (aW SS.P 48 (.int .i64 (IntKind.wrap .i64 (IntKind.wrap .i64 ((n10:Int)+(n15:Int))+1))) (.int .i64 (IntKind.wrap .i64 (IntKind.wrap .i64 ((n10:Int)+(n15:Int))+1)))) h13 fun B17 n18 c19 g20=>vj [1,1,1,1,0,1,0,0] [(.slice a9 n10 c11),(.slice a14 n15 c16),(sA (h13.next) n18 c19),(.int .i64 0),undef,undef] g20 (lU [1,1,1,1,0,1,0] [] (sS Q))))
theorem Nw (l m:LB)(h:Heap)(Q:VH)(hx:P7 l m h Q):FW SS 132 [(aa l),(aa m)] h Q:=ax (M:=pe) (c:=fg) Tryz.func132 (show Tryz.f132.body=some fg by kernel_rfl) (by kernel_rfl) (ai hx (by kernel_rfl))
abbrev kh (l m:LB)(a:OA)(n c:Nat)(b:OA)(k d:Nat)(t:OA)(tn tc:Nat)(i:Nat)(y10 y11:Value):LV:=[(.slice a n c),(.slice b k d),(.slice t tn tc),(iA i),y10,y11]
def dU (l m:LB)(a:OA)(n c:Nat)(b:OA)(k d:Nat)(t:OA)(tn tc:Nat)(Inv:Nat->Nat->Heap->Prop)(mz:Nat)(w:LV)(h:Heap):Prop:= ∃ (i:Nat)(y10 y11:Value),w=(kh l m a n c b k d t tn tc i y10 y11)/\Inv mz i h
abbrev z9 (l m:LB)(a:OA)(n c:Nat)(b:OA)(k d:Nat)(t:OA)(tn tc:Nat)(Inv:Nat->Nat->Heap->Prop)(Q:VH)(mz:Nat)(i:Nat)(y10 y11:Value)(zz:Nat->Value)(h:Heap):Prop:=aw (decide (((i:Int):Int) < (n:Int))) (vj [1,1,1,1,0,1,0,0,1,0,0,1,1,0,0] [(.slice a n c),(.slice b k d),(.slice t tn tc),(iA i),(.int .i64 0),(.int .i64 0)] h (lU [1,0,0,1,1,0] [1,1,1,1,0,1,0,0] (aT pe (dU l m a n c b k d t tn tc Inv) mz (lU [1,1,1,1,0,1,0] [] (sS Q))))) (FW SS 154 [(.slice t tn tc)] h fun v21 h22=>yS v21 fun l23=>FW SS 153 [(aa l23)] h22 fun v24 h25=> ∃ l26:LB,∃ n27:Int,v24=(.tuple ⟨[(aa l26),(.int .i64 n27)]⟩)/\Q (.tuple ⟨[(aa l26),(.int .i64 n27)]⟩) h25)
theorem uc {l m:LB}{a:OA}{n c:Nat}{b:OA}{k d:Nat}{t:OA}{tn tc:Nat}{Inv:Nat->Nat->Heap->Prop}{mz:Nat}(mq:Nat){i:Nat}{y10 y11:Value}{h:Heap}(hm:mq < mz)(hi:Inv mq i h):ak (dU l m a n c b k d t tn tc Inv) mz (kh l m a n c b k d t tn tc i y10 y11) h:=⟨mq,hm,i,y10,y11,rfl,hi⟩
theorem tK (l m:LB)(a:OA)(n c:Nat)(b:OA)(k d:Nat)(t:OA)(tn tc:Nat)(Inv:Nat->Nat->Heap->Prop)(Q:VH)(step: ∀ (mz:Nat) (i:Nat) (y10 y11:Value) (zz:Nat->Value) (h:Heap),Inv mz i h->z9 l m a n c b k d t tn tc Inv Q mz i y10 y11 zz h)(mz:Nat){i:Nat}{y10 y11:Value}{h:Heap}(hi:Inv mz i h):vj [1,1,1,1,0,1,0,0] (kh l m a n c b k d t tn tc i y10 y11) h (lU [1,1,1,1,0,1,0] [] (sS Q)):=
 an (A:=(dU l m a n c b k d t tn tc Inv)) (show aF Tryz.f132.ntmps (aP [1,1,1,1,0,1,0,0] fg)=true by kernel_rfl) (fun mz w zz h ⟨i,y10,y11,hw,hi⟩=>by subst hw; exact ai (step mz i y10 y11 zz h hi) (by kernel_rfl)) mz _ h ⟨i,y10,y11,rfl,hi⟩ (fun zz=>by kernel_rfl) (by kernel_rfl)
abbrev jQ (l m:LB)(a:OA)(n c:Nat)(b:OA)(k d:Nat)(t:OA)(tn tc:Nat)(i:Nat)(j:Nat)(cy:Int)  : LV:=[(.slice a n c),(.slice b k d),(.slice t tn tc),(iA i),(.int .i64 cy),(iA j)]
def jz (l m:LB)(a:OA)(n c:Nat)(b:OA)(k d:Nat)(t:OA)(tn tc:Nat)(i:Nat)(Inv2:Nat->Nat->Int->Heap->Prop)(mz2:Nat)(w:LV)(h:Heap):Prop:= ∃ (j:Nat)(cy:Int) ,w=(jQ l m a n c b k d t tn tc i j cy )/\Inv2 mz2 j cy h
abbrev oj (l m:LB)(a:OA)(n c:Nat)(b:OA)(k d:Nat)(t:OA)(tn tc:Nat)(Inv:Nat->Nat->Heap->Prop)(mz i:Nat)(Inv2:Nat->Nat->Int->Heap->Prop)(Q:VH)(mz2:Nat)(j:Nat)(cy:Int)  (zz:Nat->Value) (h:Heap):Prop:=aw (decide (((j:Int):Int)<=(k:Int))) (xP (af SS.P 48 (.slice t tn tc) (.int .i64 (IntKind.wrap .i64 ((i:Int)+(j:Int))))) fun p28=>xI .i64 (ah SS.P 3 (room h 18) (.pointer (some p28))) fun n29=>xP (af SS.P 48 (.slice a n c) (iA i)) fun p30=>xI .i64 (ah SS.P 3 (room h 18) (.pointer (some p30))) fun n31=>FW SS 152 [(.slice b k d),(iA j)] (room h 18) fun v32 h33=>yI .i64 v32 fun n34=>(ah SS.P 3 h33 (.pointer (some p28))=some (.int .i64 n29)/\cM 4 (.int .i64 n29) (.int .i64 n29)=true)/\(ah SS.P 3 h33 (.pointer (some p30))=some (.int .i64 n31)/\cM 4 (.int .i64 n31) (.int .i64 n31)=true)/\xI .i64 (am SS.P .rem 3 (.int .i64 (IntKind.wrap .i64 (IntKind.wrap .i64 (n29+IntKind.wrap .i64 (n31*n34))+cy))) (.int .i64 10)) fun n35=>xP (af SS.P 48 (.slice t tn tc) (.int .i64 (IntKind.wrap .i64 ((i:Int)+(j:Int))))) fun p36=>xU (al SS.P 3 (.pointer (some p36)) (.int .i64 n35) h33) h33 fun u37 g38=>xI .i64 (am SS.P .quo 3 (.int .i64 (IntKind.wrap .i64 (IntKind.wrap .i64 (n29+IntKind.wrap .i64 (n31*n34))+cy))) (.int .i64 10)) fun n39=>ak (jz l m a n c b k d t tn tc i Inv2) mz2 [(.slice a n c),(.slice b k d),(.slice t tn tc),(iA i),(.int .i64 n39),(.int .i64 (IntKind.wrap .i64 ((j:Int)+1)))] g38) (ak (dU l m a n c b k d t tn tc Inv) mz [(.slice a n c),(.slice b k d),(.slice t tn tc),(.int .i64 (IntKind.wrap .i64 ((i:Int)+1))),(.int .i64 cy),(iA j)] h)
theorem sw {l m:LB}{a:OA}{n c:Nat}{b:OA}{k d:Nat}{t:OA}{tn tc:Nat}{i:Nat}{Inv2:Nat->Nat->Int->Heap->Prop}{mz2:Nat}(mq:Nat){j:Nat}{cy:Int}  {h:Heap} (hm:mq < mz2) (hi:Inv2 mq j cy h):ak (jz l m a n c b k d t tn tc i Inv2) mz2 (jQ l m a n c b k d t tn tc i j cy ) h:=⟨mq,hm,j,cy,rfl,hi⟩
theorem un (l m:LB)(a:OA)(n c:Nat)(b:OA)(k d:Nat)(t:OA)(tn tc:Nat)(Inv:Nat->Nat->Heap->Prop)(mz i:Nat)(Inv2:Nat->Nat->Int->Heap->Prop)(Q:VH)(step: ∀ (mz2:Nat) (j:Nat) (cy:Int)  (zz:Nat->Value) (h:Heap),Inv2 mz2 j cy h->oj l m a n c b k d t tn tc Inv mz i Inv2 Q mz2 j cy  zz h)(mz2:Nat){j:Nat}{cy:Int}  {h:Heap} (hi:Inv2 mz2 j cy h):vj [1,1,1,1,0,1,0,0,1,0,0,1,1,0,0] (jQ l m a n c b k d t tn tc i j cy ) h (lU [1,0,0,1,1,0] [1,1,1,1,0,1,0,0] (aT pe (dU l m a n c b k d t tn tc Inv) mz (lU [1,1,1,1,0,1,0] [] (sS Q)))):=
 an (A:=(jz l m a n c b k d t tn tc i Inv2)) (show aF Tryz.f132.ntmps (aP [1,1,1,1,0,1,0,0,1,0,0,1,1,0,0] fg)=true by kernel_rfl) (fun mz2 w zz h ⟨j,cy,hw,hi⟩=>by subst hw; exact ai (step mz2 j cy  zz h hi) (by kernel_rfl)) mz2 _ h ⟨j,cy,rfl,hi⟩ (fun zz=>by kernel_rfl) (by kernel_rfl)
theorem qW (X:Nat)(h:Heap):FW SS 153 [aa (Num.toDec X)] h (fun v h'=>v=jw X/\h'=h):=by
 refine Cv _ h _ (ae (fun h1=> ?_) (fun h1=> ?_))
 ·have h1:=dT h1
  refine ⟨?_,rfl⟩
  unfold jw; rw [if_pos (by omega)]; rfl
 ·have h1:=dF h1
  refine ⟨?_,rfl⟩
  unfold jw; rw [if_neg (by omega)]; rfl
theorem LO (a b:List UInt8){h:Heap}(w:Wf h):FW SS 130 [aa a,aa b] h (fun v h'=>v=xD a b/\Ok h h'):=by
 refine M8 a b h _ ((bB a h).mono ?_)
 rintro _ g0 ⟨rfl,e0⟩
 obtain rfl:h=g0:=e0.symm
 refine ⟨_,rfl,ae (fun g=> ?_) (fun g=> ?_)⟩
 ·have g:Num.valid a=false:=by simpa using g
  refine ⟨?_,Ok.refl w⟩
  unfold xD; rw [if_neg (fun e=>by rw [e.1] at g; cases g)]
 have g:Num.valid a=true:=by simpa using g
 refine (bB b h).mono ?_
 rintro _ g0 ⟨rfl,e0⟩
 obtain rfl:h=g0:=e0.symm
 refine ⟨_,rfl,ae (fun g2=> ?_) (fun g2=> ?_)⟩
 ·have g2:Num.valid b=false:=by simpa using g2
  refine ⟨?_,Ok.refl w⟩
  unfold xD; rw [if_neg (fun e=>by rw [e.2] at g2; cases g2)]
 have g2:Num.valid b=true:=by simpa using g2
 have hS:xD a b = .int .i64 (Num.cmpN (Num.val a) (Num.val b)):=by unfold xD; rw [if_pos ⟨g,g2⟩]
 rw [hS]
 obtain ⟨m,rfl,hm,em⟩:=Num.valid_ex g
 obtain ⟨n,rfl,hn,en⟩:=Num.valid_ex g2
 have lm:=ce hm
 have ln:=ce hn
 rw [em,en]
 refine (lI m n (by omega) (by omega) h w).mono ?_
 rintro _ g ⟨rfl,ok⟩
 exact ⟨_,rfl,rfl,ok⟩
theorem lJ {a:List UInt8}(va:Num.valid a=true){h:Heap}(w:Wf h):FW SS 151 [aa a] h (dx h 3 ((Num.digs a).map iv)):=by
 have da:=(Num.valid_iff.1 va)
 exact nu a da.1.2.1 (Nat.le_trans da.2 (by omega)) h w
theorem eA {a:List UInt8}(va:Num.valid a=true): ∀ d∈Num.digs a,d < 10:=Num.digs_lt (Num.valid_iff.1 va).1.2.1
theorem iU {a:List UInt8}(va:Num.valid a=true):(Num.digs a).length<=1000:=by
 rw [Num.digs_len]; exact (Num.valid_iff.1 va).2
theorem BQ {a b:List UInt8}(va:Num.valid a=true)(vb:Num.valid b=true)(h:Num.val b<=Num.val a):b.length<=a.length:=by
 obtain ⟨m,rfl,_,em⟩:=Num.valid_ex va
 obtain ⟨n,rfl,_,en⟩:=Num.valid_ex vb
 exact Nat.le_of_not_lt fun g=>by have:=Num.toDec_len_lt g; omega
theorem C1 (a b:List UInt8){h:Heap}(w:Wf h):FW SS 131 [aa a,aa b] h (fun v h'=>v=yx a b/\Ok h h'):=by
 refine L0 a b h _ ((bB a h).mono ?_)
 rintro _ g0 ⟨rfl,e0⟩
 obtain rfl:h=g0:=e0.symm
 refine ⟨_,rfl,ae (fun g=> ?_) (fun g=> ?_)⟩
 ·have g:Num.valid a=false:=by simpa using g
  refine ⟨?_,Ok.refl w⟩
  unfold yx; rw [if_neg (fun e=>by rw [e.1] at g; cases g)]; rfl
 have g:Num.valid a=true:=by simpa using g
 refine (bB b h).mono ?_
 rintro _ g0 ⟨rfl,e0⟩
 obtain rfl:h=g0:=e0.symm
 refine ⟨_,rfl,ae (fun g2=> ?_) (fun g2=> ?_)⟩
 ·have g2:Num.valid b=false:=by simpa using g2
  refine ⟨?_,Ok.refl w⟩
  unfold yx; rw [if_neg (fun e=>by rw [e.2] at g2; cases g2)]; rfl
 have g2:Num.valid b=true:=by simpa using g2
 have hS:yx a b=(if Num.val a < Num.val b then BP [] 4 else BP (Num.toDec (Num.val a - Num.val b)) 0):=by unfold yx; rw [if_pos ⟨g,g2⟩]
 rw [hS]
 have hc:FW SS 155 [aa a,aa b] h (fun v h'=>v = .int .i64 (Num.cmpN (Num.val a) (Num.val b))/\Ok h h'):=by
  obtain ⟨m,rfl,hm,em⟩:=Num.valid_ex g
  obtain ⟨n,rfl,hn,en⟩:=Num.valid_ex g2
  have lm:=ce hm
  have ln:=ce hn
  rw [em,en]
  exact lI m n (by omega) (by omega) h w
 refine hc.mono ?_
 rintro _ h1 ⟨rfl,ok1⟩
 refine ⟨_,rfl,ae (fun h6=> ?_) (fun h6=> ?_)⟩
 ·have h6:=dT h6
  rw [if_pos (cmpN_lt h6)]
  exact ⟨rfl,ok1⟩
 have h6:=dF h6
 have hle:=cmpN_ge h6
 rw [if_neg (Nat.not_lt.2 hle)]
 refine (lJ g ok1.wf).mono ?_
 rintro _ h2 ⟨a2,n2,c2,rfl,o2,ok2⟩
 refine ⟨_,_,_,rfl,(lJ g2 ok2.wf).mono ?_⟩
 rintro _ h3 ⟨a3,n3,c3,rfl,o3,ok3⟩
 refine ⟨_,_,_,rfl,(Be (o2.rd.ok ok3) o3.rd (eA g) (eA g2) (Nat.le_trans (iU g) (by omega)) ok3.wf).mono ?_⟩
 rintro _ h4 ⟨a4,n4,c4,rfl,o4,ok4⟩
 refine ⟨_,_,_,rfl,(m7 o4.rd (Num.less_lt (eA g) (eA g2) _ _ _ (by omega)) (by rw [Num.eachF_len]; exact Nat.le_trans (iU g) (by omega)) ok4.wf).mono ?_⟩
 rintro _ h5 ⟨rfl,ok5⟩
 refine ⟨_,rfl,?_,(((ok1.trans ok2).trans ok3).trans ok4).trans ok5⟩
 rw [Num.less_bv (eA g) (eA g2) (by rw [Num.digs_len,Num.digs_len]; exact BQ g g2 hle) (by rw [Num.bv_digs,Num.bv_digs]; exact hle),Num.bv_digs,Num.bv_digs]
 rfl
theorem QE {d:Nat}:am SS.P .rem 3 (.int .i64 (d:Int)) (.int .i64 10)=some (.int .i64 ((d % 10:Nat):Int)):=by
 rw [show (10:Int)=((10:Nat):Int) from rfl,cJ (by omega) (by decide),Int.natCast_emod]
theorem Rc {d:Nat}(h:d < 1000000):am SS.P .quo 3 (.int .i64 (d:Int)) (.int .i64 10)=some (.int .i64 ((d / 10:Nat):Int)):=by
 have h2:(d:Int).tdiv 10=((d / 10:Nat):Int):=by
  rw [Int.tdiv_eq_ediv_of_nonneg (by omega)]; rfl
 rw [FV SS.P 3 .i64 _ _ (by omega),h2,ap (by omega) (by omega)]
theorem MX {p q c:Nat}(hp:p < 10)(hq:q < 10)(hc:c<=1):(Num.plusF 10 p q c).2<=1:=by
 show (p+q+c) / 10<=1
 omega
theorem NH (a b:List UInt8){h:Heap}(w:Wf h):FW SS 129 [aa a,aa b] h (fun v h'=>v=xK a b/\Ok h h'):=by
 refine N2 a b h _ ((bB a h).mono ?_)
 rintro _ g0 ⟨rfl,e0⟩
 obtain rfl:h=g0:=e0.symm
 refine ⟨_,rfl,ae (fun g=> ?_) (fun g=> ?_)⟩
 ·have g:Num.valid a=false:=by simpa using g
  refine ⟨?_,Ok.refl w⟩
  unfold xK; rw [if_neg (fun e=>by rw [e.1] at g; cases g)]; rfl
 have g:Num.valid a=true:=by simpa using g
 refine (bB b h).mono ?_
 rintro _ g0 ⟨rfl,e0⟩
 obtain rfl:h=g0:=e0.symm
 refine ⟨_,rfl,ae (fun g2=> ?_) (fun g2=> ?_)⟩
 ·have g2:Num.valid b=false:=by simpa using g2
  refine ⟨?_,Ok.refl w⟩
  unfold xK; rw [if_neg (fun e=>by rw [e.2] at g2; cases g2)]; rfl
 have g2:Num.valid b=true:=by simpa using g2
 have hS:xK a b=jw (Num.val a+Num.val b):=by unfold xK; rw [if_pos ⟨g,g2⟩]
 rw [hS]
 refine (lJ g w).mono ?_
 rintro _ h2 ⟨a2,n2,c2,rfl,o2,ok2⟩
 refine ⟨_,_,_,rfl,(lJ g2 ok2.wf).mono ?_⟩
 rintro _ h3 ⟨a3,n3,c3,rfl,o3,ok3⟩
 refine ⟨_,_,_,rfl,?_⟩
 have r1:=o2.rd.ok ok3
 have r2:=o3.rd
 have ok:=ok2.trans ok3
 have w3:=ok3.wf
 have hn1:n2=(Num.digs a).length:=by have:=r1.len; rwa [lM] at this
 have hn2:n3=(Num.digs b).length:=by have:=r2.len; rwa [lM] at this
 have l1:=iU g
 have l2:=iU g2
 have hx:=eA g
 have hy:=eA g2
 have e1:=Num.bv_digs a
 have e2:=Num.bv_digs b
 generalize Num.digs a=x at *
 generalize Num.digs b=y at *
 have hcr: ∀ j,Num.cr (Num.plusF 10) x y 0 0 j<=1:=by
  intro j
  induction j with
  | zero=>exact Nat.zero_le _
  | succ j ih=>exact MX (Num.getD_lt (by decide) hx _) (Num.getD_lt (by decide) hy _) ih
 have hbv:=Num.plus_bv (b:=10) (by decide) hx hy (max x.length y.length+1) 0 0 (by omega) (by omega) (by omega) (by omega)
 rw [List.drop_zero,List.drop_zero,e1,e2,Nat.add_zero] at hbv
 rw [<-hn1,<-hn2] at hbv
 have hmx1:=Nat.le_max_left n2 n3
 have hmx2:=Nat.le_max_right n2 n3
 have hmx3:max n2 n3<=1000:=Nat.max_le.2 ⟨by omega,by omega⟩
 have hmx4:n2=max n2 n3\/n3=max n2 n3:=by omega
 generalize max n2 n3=N at *
 refine su a b a2 n2 c2 a3 n3 c3 (fun mz i cy r rn rc g=>i<=N+1/\mz=N+1 - i/\cy=(Num.cr (Num.plusF 10) x y 0 0 i:Nat)/\OwnR h3 g 3 (.slice r rn rc) ((Num.eachF (Num.plusF 10) x y 0 i 0).map iv)/\Ok h3 g) (fun v h'=>v=jw (Num.val a+Num.val b)/\Ok h h') (by
  intro mz i cy r rn rc; intros; rename_i gg hi
  obtain ⟨f1,f2,rfl,ho,okg⟩:=hi
  have hw3:IntKind.wrap .i64 ((i:Int)+1)=((i+1:Nat):Int):=by rw [ap (by omega) (by omega)]; omega
  unfold oX
  rw [hw3]
  have hel:(Num.eachF (Num.plusF 10) x y 0 i 0).length=i:=Num.eachF_len _ _ _ _ _ _
  have hsn:=Num.eachF_snoc (Num.plusF 10) x y i 0 0
  rw [Nat.zero_add] at hsn
  have hcr1:Num.cr (Num.plusF 10) x y 0 0 (i+1)=(Num.plusF 10 (x.getD i 0) (y.getD i 0) (Num.cr (Num.plusF 10) x y 0 0 i)).2:=by
   show (Num.plusF 10 (x.getD (0+i) 0) (y.getD (0+i) 0) _).2=_
   rw [Nat.zero_add]
  have hci:=hcr i
  have hp:=Num.getD_lt (by omega) hx i
  have hq:=Num.getD_lt (by omega) hy i
  generalize Num.cr (Num.plusF 10) x y 0 0 i=ci at *
  have hstep: ∀ hg:i < N+1,FW SS 152 [(.slice a2 n2 c2),(.int .i64 (i:Int))] gg (fun v h'=>v = .int .i64 (x.getD i 0:Nat)/\h'=gg)/\FW SS 152 [(.slice a3 n3 c3),(.int .i64 (i:Int))] gg (fun v h'=>v = .int .i64 (y.getD i 0:Nat)/\h'=gg):=fun _=>⟨pU (r1.ok okg) i,pU (r2.ok okg) i⟩
  have hw1:IntKind.wrap .i64 (((x.getD i 0:Nat):Int)+((y.getD i 0:Nat):Int))=((x.getD i 0+y.getD i 0:Nat):Int):=by rw [ap (by omega) (by omega)]; omega
  have hw2:IntKind.wrap .i64 (((x.getD i 0+y.getD i 0:Nat):Int)+(ci:Int))=((x.getD i 0+y.getD i 0+ci:Nat):Int):=by rw [ap (by omega) (by omega)]; omega
  refine ae (fun h5=> ?_) (fun h5=>ae (fun h6=> ?_) (fun h6=> ?_))
  ·have h5:=dT h5
   obtain ⟨s1,s2⟩:=hstep (by omega)
   refine s1.mono ?_
   rintro _ _ ⟨rfl,rfl⟩
   refine ⟨_,rfl,s2.mono ?_⟩
   rintro _ _ ⟨rfl,rfl⟩
   rename_i gg
   refine ⟨_,rfl,?_⟩
   dsimp only
   rw [hw1,hw2]
   obtain ⟨b',m',d',u,g6,g7,g8,g9⟩:=Bp w3 okg ho (((x.getD i 0+y.getD i 0+ci) % 10:Nat):Int) (by rw [lM,hel]; omega)
   refine ⟨_,QE,_,_,_,rW _,b',m',d',u,g6,_,Rc (by omega),lc (mz - 1) (by omega) ⟨by omega,by omega,by rw [hcr1]; rfl,?_,g9⟩⟩
   rw [hsn,List.map_append]
   exact g8
  ·have h6:=dT h6
   obtain ⟨s1,s2⟩:=hstep (by omega)
   refine s1.mono ?_
   rintro _ _ ⟨rfl,rfl⟩
   refine ⟨_,rfl,s2.mono ?_⟩
   rintro _ _ ⟨rfl,rfl⟩
   rename_i gg
   refine ⟨_,rfl,?_⟩
   dsimp only
   rw [hw1,hw2]
   obtain ⟨b',m',d',u,g6,g7,g8,g9⟩:=Bp w3 okg ho (((x.getD i 0+y.getD i 0+ci) % 10:Nat):Int) (by rw [lM,hel]; omega)
   refine ⟨_,QE,_,_,_,rW _,b',m',d',u,g6,_,Rc (by omega),lc (mz - 1) (by omega) ⟨by omega,by omega,by rw [hcr1]; rfl,?_,g9⟩⟩
   rw [hsn,List.map_append]
   exact g8
  ·have h5:=dF h5
   have h6:=dF h6
   obtain rfl:i=N+1:=by omega
   refine (m7 ho.rd (Num.eachF_lt (fun p q c=>Nat.mod_lt _ (by decide)) _ _ _ 0 0) (by rw [hel]; omega) okg.wf).mono ?_
   rintro _ h4 ⟨rfl,ok4⟩
   refine ⟨_,rfl,?_⟩
   rw [hbv]
   refine (qW _ h4).mono ?_
   rintro _ _ ⟨rfl,rfl⟩
   exact yW (K:=fun v=>v=jw (Num.val a+Num.val b)/\Ok h _) (ur _) ⟨rfl,(ok.trans okg).trans ok4⟩)
  (N+1) (i:=0) ⟨by omega,by omega,rfl,.inl ⟨rfl,rfl⟩,Ok.refl w3⟩
end Go.Proofs.YtoabjjimjldcfaaGreatDoor
end
section
namespace Go.Ab
open Go
theorem MA (k i j:Nat):Addr.add ⟨k,i,none⟩ j=⟨k,i+j,none⟩:=by simp [Addr.add]
theorem Qg {P:Program}{t e:TypeId}{sz:Nat}(hU:P.underlying t=some (.slice e))(hs:aq P e=some sz){k off n c:Nat}{ik:IntKind}{i:Int}(h0:0<=i)(h1:i < n):af P t (.slice (some ⟨k,off,none⟩) n c) (.int ik i)=some (.pointer (some ⟨k,off+i.toNat*sz,none⟩)):=by
 unfold af
 rw [hU]; dsimp only
 rw [hs]; dsimp only
 rw [if_pos ⟨h0,h1⟩,MA]
theorem eC {P:Program}{t:TypeId}{d:TypeDesc}(hU:P.underlying t=some d)(ha:isAgg P t=false){h:Heap}{k i:Nat}{cs:List Value}{e:TypeId}{sz:Nat}{wr:Bool}(hg:h.get k=some (.cells cs e sz wr))(hi:i < cs.length):ah P t h (.pointer (some ⟨k,i,none⟩))=some (cs.getD i undef):=by
 unfold ah
 rw [hU]; dsimp only
 rw [hg]; dsimp only
 rw [ha]
 simp only [Bool.false_eq_true,if_false]
 rw [gD,gE hi]; rfl
theorem CT {P:Program}{t:TypeId}{d:TypeDesc}{sz:Nat}(hU:P.underlying t=some d)(ha:isAgg P t=true)(hs:aq P t=some sz){h:Heap}{k i:Nat}{cs:List Value}{e:TypeId}{z:Nat}{wr:Bool}(hg:h.get k=some (.cells cs e z wr))(hi:i+sz<=cs.length):ah P t h (.pointer (some ⟨k,i,none⟩))=some (.agg ⟨(cs.drop i).take sz⟩):=by
 unfold ah
 rw [hU]; dsimp only
 rw [hg]; dsimp only
 rw [ha]
 simp only [if_true]
 rw [hs]; dsimp only
 rw [if_pos (by rw [List.length_take,List.length_drop]; omega)]
theorem zZ {P:Program}{t:TypeId}(hs:aq P t=some 1){h:Heap}{k i:Nat}{cs:List Value}{e:TypeId}{sz:Nat}(hg:h.get k=some (.cells cs e sz true))(hi:i < cs.length){v:Value}(hv:bL v=true)(hc:v.cells = #[v]):al P t (.pointer (some ⟨k,i,none⟩)) v h=some (undef,.set k (.cells (cs.set i v) e sz true)):=by
 unfold al
 dsimp only
 rw [hc,if_pos (show aq P t=some (#[v]:Array Value).size from hs)]
 unfold storeAt
 rw [hg]; dsimp only
 rw [if_pos ⟨by simp; omega,by simp [hv]⟩]
 have e0:cs.take i++[v]++cs.drop (i+1)=cs.set i v:=by
  rw [List.set_eq_take_append_cons_drop,if_pos hi,List.append_assoc]; rfl
 show some (undef,Upd.set k (.cells (cs.take i++[v]++cs.drop (i+1)) e sz true))=_
 rw [e0]
structure IRow (hb:Heap)(kt:Nat)(e:TypeId)(vs:List Value)(g:Heap):Prop where
 row:g.get kt=some (.cells vs e 1 true)
 new:hb.next<=kt
 ok:Ok hb g
theorem IRow.lt {hb:Heap}{kt:Nat}{e:TypeId}{vs:List Value}{g:Heap}(m:IRow hb kt e vs g):kt < g.next:=m.ok.wf _ _ m.row
theorem IRow.rd {hb:Heap}{kt:Nat}{e:TypeId}{vs:List Value}{g:Heap}(m:IRow hb kt e vs g)(c:Nat):Rd g e (.slice (some ⟨kt,0,none⟩) vs.length c) vs:= .inr ⟨kt,0,vs,c,true,rfl,m.row,by simp⟩
theorem IRow.trans {hb:Heap}{kt:Nat}{e:TypeId}{vs:List Value}{g g':Heap}(m:IRow hb kt e vs g)(o:Ok g g'):IRow hb kt e vs g':=⟨o.ext _ _ m.row,m.new,m.ok.trans o⟩
theorem IRow.set {hb:Heap}(w:Wf hb){kt:Nat}{e:TypeId}{vs:List Value}{g:Heap}(m:IRow hb kt e vs g)(j:Nat)(v:Value):IRow hb kt e (vs.set j v) ((Upd.set kt (.cells (vs.set j v) e 1 true)).app g):=by
 refine ⟨?_,m.new,m.ok.set _ m.new m.lt w⟩
 show (g.set kt _).get kt=_
 rw [Heap.get_set,if_pos rfl]
theorem oy (z:Value)(n:Nat):bh [z] n=List.replicate n z:=by
 induction n with
 | zero=>rfl
 | succ n ih=>rw [bh,ih,List.replicate_succ]; rfl
theorem F4 {α:Type}(f:α->Value)(L:List α)(j:Nat)(d:α):(L.map f).set j (f d)=(L.set j d).map f:=by rw [List.map_set]
end Go.Ab
end
section
set_option linter.defProp false
set_option linter.unusedVariables false
set_option maxRecDepth 100000
namespace Go.Proofs.YtoabjjimjldcfaaGreatDoor
open Go Go.Ab
noncomputable def ti3:TypeInfo:=(SS.P.info? 3).getD default
theorem Vc:SS.P.info? 3=some ti3:=by kernel_rfl
theorem O0:ti3.size=1:=by kernel_rfl
theorem M9:ti3.bytes=8:=by kernel_rfl
theorem Xp:cp SS.P 3=some (iv 0):=by kernel_rfl
theorem X8 (n:Nat)(hn:n<=100000):aW SS.P 48 (.int .i64 (n:Int)) (.int .i64 (n:Int))=some (.cells ((List.replicate n 0).map iv) 3 1 true,nq n n):=by
 unfold aW aG
 dsimp only
 rw [mV]
 try dsimp only
 change (match SS.P.info? 3,cp SS.P 3 with
  | some i,some z=>(if z.cells.size=i.size/\0 < i.size/\(0:Int)<=(n:Int)/\(n:Int)<=(n:Int)/\(n:Int)*i.bytes<=140737488355328/\(n:Int)<=1099511627776 then some (Blk.cells (bh z.cells.toList (n:Int).toNat) 3 i.size true,fun k=>Value.slice (some ⟨k,0,none⟩) (n:Int).toNat (n:Int).toNat) else none)
  | _,_=>none)=_
 rw [Vc,Xp]
 dsimp only
 rw [O0,M9,if_pos ⟨rfl,by omega,by omega,Int.le_refl _,by omega,by omega⟩]
 have e:((n:Int)).toNat=n:=by omega
 rw [e,show (iv 0).cells.toList=[iv 0] from rfl,oy,List.map_replicate]; rfl
theorem Wh {k off n c:Nat}{i:Int}(h0:0<=i)(h1:i < n):af SS.P 48 (.slice (some ⟨k,off,none⟩) n c) (.int .i64 i)=some (.pointer (some ⟨k,off+i.toNat*1,none⟩)):=Qg mV TI h0 h1
theorem Zo {h:Heap}{a:Option Addr}{n c:Nat}{l:List Nat}(r:Rd h 3 (.slice a n c) (l.map iv)){i:Int}(h0:0<=i)(h1:i < l.length): ∃ p:Addr,af SS.P 48 (.slice a n c) (.int .i64 i)=some (.pointer (some p))/\ah SS.P 3 h (.pointer (some p))=some (.int .i64 (l.getD i.toNat 0:Nat)):=by
 obtain ⟨p,h2,h3⟩:=r.at_ mV TI KF Kv (k:= .i64) (i:=i) h0 (by rw [lM]; omega)
 rw [ob l i.toNat (by omega)] at h3
 exact ⟨p,h2,h3⟩
theorem uS (n:Int):cM 4 (.int .i64 n) (.int .i64 n)=true:=by simp [cM]
structure RP (hb:Heap)(kt N:Nat)(L:List Nat)(g:Heap):Prop where
 len:L.length=N
 lt: ∀ d∈L,d < 10
 row:IRow hb kt 3 (L.map iv) g
theorem RP.get {hb:Heap}{kt N c:Nat}{L:List Nat}{g:Heap}(m:RP hb kt N L g){jn:Nat}(hl:jn < N):af SS.P 48 (.slice (some ⟨kt,0,none⟩) N c) (.int .i64 (jn:Int))=some (.pointer (some ⟨kt,0+(jn:Int).toNat*1,none⟩))/\ah SS.P 3 g (.pointer (some ⟨kt,0+(jn:Int).toNat*1,none⟩))=some (.int .i64 (L.getD jn 0:Nat))/\
  ∀ d:Nat,d < 10->Wf hb-> ∃ u:Upd,al SS.P 3 (.pointer (some ⟨kt,0+(jn:Int).toNat*1,none⟩)) (.int .i64 (d:Int)) g=some (undef,u)/\RP hb kt N (L.set jn d) (u.app g):=by
 have e:0+(jn:Int).toNat*1=jn:=by omega
 refine ⟨Wh (by omega) (by omega),?_,?_⟩
 ·rw [e,eC KF Kv m.row.row (by rw [lM,m.len]; exact hl),ob L jn (by rw [m.len]; exact hl)]
 ·intro d hd w
  rw [e]
  refine ⟨_,zZ TI m.row.row (by rw [lM,m.len]; exact hl) rfl rfl,by rw [List.length_set]; exact m.len,fun e he=> ?_,?_⟩
  ·rcases List.mem_or_eq_of_mem_set he with h | h
   ·exact m.lt e h
   ·rw [h]; exact hd
  ·have:=m.row.set w jn (.int .i64 (d:Int))
   rw [show (Value.int .i64 (d:Int))=iv d from rfl,F4 iv L jn d] at this
   rw [show (Value.int .i64 (d:Int))=iv d from rfl,F4 iv L jn d]
   exact this
def Ue (hb:Heap)(kt N n:Nat)(x y:List Nat)(mz i:Nat)(g:Heap):Prop:=i<=n/\mz=n - i/\ ∃ L,RP hb kt N L g/\Num.bv 10 L=Num.bv 10 (x.take i)*Num.bv 10 y
def Yh (hb:Heap)(kt N k:Nat)(x y:List Nat)(i mz j:Nat)(cy:Int)(g:Heap):Prop:=j<=k+1/\mz=k+1 - j/\ ∃ (L:List Nat)(cn:Nat),cy=(cn:Int)/\cn < 10/\RP hb kt N L g/\Num.bv 10 L+cn*10 ^ (i+j)=Num.bv 10 (x.take i)*Num.bv 10 y+x.getD i 0*Num.bv 10 (y.take j)*10 ^ i
def Rj {hb:Heap}(w:Wf hb){a:Option Addr}{n c:Nat}{b:Option Addr}{k d:Nat}{kt N tc:Nat}{x y:List Nat}(ra:Rd hb 3 (.slice a n c) (x.map iv))(rb:Rd hb 3 (.slice b k d) (y.map iv))(hx: ∀ d∈x,d < 10)(hy: ∀ d∈y,d < 10){i:Nat}(hi:i < n)(hn:n=x.length)(hk:k=y.length)(hN:N=n+k+1)(hN2:N<=10000)(l m:List UInt8)(Q:VH)(mz:Nat)(hmz:mz=n - i):=
 un l m a n c b k d (some ⟨kt,0,none⟩) N tc (Ue hb kt N n x y) mz i (Yh hb kt N k x y i) Q (by
  intro mz2 j cy; intros; rename_i g hin
  obtain ⟨h1,h2,L,cn,rfl,h3,mr,h4⟩:=hin
  have e1:IntKind.wrap .i64 ((i:Int)+(j:Int))=((i+j:Nat):Int):=by rw [ap (by omega) (by omega)]; omega
  have e2:IntKind.wrap .i64 ((j:Int)+1)=((j+1:Nat):Int):=by rw [ap (by omega) (by omega)]; omega
  have e3:IntKind.wrap .i64 ((i:Int)+1)=((i+1:Nat):Int):=by rw [ap (by omega) (by omega)]; omega
  unfold oj
  rw [e1,e2,e3]
  refine ae (fun h5=> ?_) (fun h5=> ?_)
  ·have h5:=dT h5
   have mr1:RP hb kt N L (Go.Ab.room g 18):=⟨mr.len,mr.lt,⟨mr.row.row,mr.row.new,mr.row.ok.room 18⟩⟩
   obtain ⟨g1,g2,g3⟩:=mr1.get (c:=tc) (jn:=i+j) (by omega)
   obtain ⟨p2,f1,f2⟩:=Zo (ra.ok mr1.row.ok) (i:=(i:Int)) (by omega) (by omega)
   rw [Int.toNat_natCast] at f2
   refine ⟨_,g1,_,g2,p2,f1,_,f2,(pU (rb.ok mr1.row.ok) j).mono ?_⟩
   rintro _ _ ⟨rfl,rfl⟩
   refine ⟨_,rfl,⟨g2,uS _⟩,⟨f2,uS _⟩,?_⟩
   have hxi:=Num.getD_lt (b:=10) (by decide) hx i
   have hyj:=Num.getD_lt (b:=10) (by decide) hy j
   have hLj:=Num.getD_lt (b:=10) (by decide) mr.lt (i+j)
   obtain ⟨q,hq⟩: ∃ q,q=x.getD i 0*y.getD j 0:=⟨_,rfl⟩
   have hq2:q<=81:=by rw [hq]; exact Nat.le_trans (Nat.mul_le_mul (Nat.le_of_lt_succ hxi) (Nat.le_of_lt_succ hyj)) (by decide)
   have ms:=Num.mul_step (B:=10) (by decide) (L:=L) (y:=y) (i:=i) (k:=j) (cy:=cn) (xi:=x.getD i 0) (P:=Num.bv 10 (x.take i)*Num.bv 10 y) (p:=L.getD (i+j) 0+cn+q) mr.lt (by rw [mr.len]; omega) h3 hxi hyj (by rw [hq]) h4
   have e4:IntKind.wrap .i64 (((x.getD i 0:Nat):Int)*((y.getD j 0:Nat):Int))=(q:Int):=by rw [<-Int.natCast_mul,<-hq]; exact ap (by omega) (by omega)
   rw [e4]
   have e5:IntKind.wrap .i64 (((L.getD (i+j) 0:Nat):Int)+(q:Int))=((L.getD (i+j) 0+q:Nat):Int):=by rw [ap (by omega) (by omega)]; omega
   rw [e5]
   have e6:IntKind.wrap .i64 (((L.getD (i+j) 0+q:Nat):Int)+(cn:Int))=((L.getD (i+j) 0+cn+q:Nat):Int):=by rw [ap (by omega) (by omega)]; omega
   rw [e6]
   generalize L.getD (i+j) 0+cn+q=pp at *
   obtain ⟨u,g6,g7⟩:=g3 (pp % 10) (Nat.mod_lt _ (by decide)) w
   refine ⟨_,QE,_,g1,u,g6,_,Rc (by omega),sw (mz2 - 1) (by omega) ⟨by omega,by omega,_,_,rfl,ms.2.1,g7,ms.2.2⟩⟩
  ·have h5:=dF h5
   obtain rfl:j=k+1:=by omega
   refine uc (n - (i+1)) (by omega) ⟨by omega,rfl,L,mr,?_⟩
   exact Num.mul_end (by decide) hx hy (by omega) mr.lt (by rw [<-hk]; exact h4))
theorem Ma (a b:List UInt8){h:Heap}(w:Wf h):FW SS 132 [aa a,aa b] h (fun v h'=>v=xV a b/\Ok h h'):=by
 refine Nw a b h _ ((bB a h).mono ?_)
 rintro _ g0 ⟨rfl,e0⟩
 obtain rfl:h=g0:=e0.symm
 refine ⟨_,rfl,ae (fun g=> ?_) (fun g=> ?_)⟩
 ·have g:Num.valid a=false:=by simpa using g
  refine ⟨?_,Ok.refl w⟩
  unfold xV; rw [if_neg (fun e=>by rw [e.1] at g; cases g)]; rfl
 have g:Num.valid a=true:=by simpa using g
 refine (bB b h).mono ?_
 rintro _ g0 ⟨rfl,e0⟩
 obtain rfl:h=g0:=e0.symm
 refine ⟨_,rfl,ae (fun g2=> ?_) (fun g2=> ?_)⟩
 ·have g2:Num.valid b=false:=by simpa using g2
  refine ⟨?_,Ok.refl w⟩
  unfold xV; rw [if_neg (fun e=>by rw [e.2] at g2; cases g2)]; rfl
 have g2:Num.valid b=true:=by simpa using g2
 have hS:xV a b=jw (Num.val a*Num.val b):=by unfold xV; rw [if_pos ⟨g,g2⟩]
 rw [hS]
 refine (lJ g w).mono ?_
 rintro _ h2 ⟨a2,n2,c2,rfl,o2,ok2⟩
 refine ⟨_,_,_,rfl,(lJ g2 ok2.wf).mono ?_⟩
 rintro _ h3 ⟨a3,n3,c3,rfl,o3,ok3⟩
 refine ⟨_,_,_,rfl,?_⟩
 have r1:=o2.rd.ok ok3
 have r2:=o3.rd
 have ok:=ok2.trans ok3
 have w3:=ok3.wf
 have hn1:n2=(Num.digs a).length:=by have:=r1.len; rwa [lM] at this
 have hn2:n3=(Num.digs b).length:=by have:=r2.len; rwa [lM] at this
 have l1:=iU g
 have l2:=iU g2
 have hx:=eA g
 have hy:=eA g2
 have bX:=Num.bv_digs a
 have bY:=Num.bv_digs b
 generalize Num.digs a=x at *
 generalize Num.digs b=y at *
 generalize Num.val a=X at *
 generalize Num.val b=Y at *
 have e1:IntKind.wrap .i64 (IntKind.wrap .i64 ((n2:Int)+(n3:Int))+1)=((n2+n3+1:Nat):Int):=by
  rw [ap (n:=(n2:Int)+(n3:Int)) (by omega) (by omega),ap (by omega) (by omega)]; omega
 dsimp only
 rw [e1]
 refine ⟨_,_,_,X8 _ (by omega),?_⟩
 have m0:RP h3 h3.next (n2+n3+1) (List.replicate (n2+n3+1) 0) (h3.push (.cells ((List.replicate (n2+n3+1) 0).map iv) 3 1 true)):=by
  refine ⟨List.length_replicate,fun d hd=>by rw [(List.mem_replicate.1 hd).2]; decide,?_,Nat.le_refl _,(Ok.refl w3).push _⟩
  rw [Heap.get_push,if_pos rfl]
 refine tK a b a2 n2 c2 a3 n3 c3 (some ⟨h3.next,0,none⟩) (n2+n3+1) (n2+n3+1) (Ue h3 h3.next (n2+n3+1) n2 x y) (fun v h'=>v=jw (X*Y)/\Ok h h') (fun mz i=> ?_) n2 (i:=0) ⟨by omega,by omega,_,m0,by rw [Num.bv_replicate,List.take_zero]; simp [Num.bv]⟩
 intros; rename_i gg hi
 obtain ⟨f1,f2,L,mr,f3⟩:=hi
 refine ae (fun h5=> ?_) (fun h5=> ?_)
 ·have h5:=dT h5
  exact Rj w3 r1 r2 hx hy (i:=i) (by omega) hn1 hn2 rfl (by omega) a b _ mz f2 (n3+1) (j:=0) (cy:=0) ⟨by omega,by omega,L,0,rfl,by decide,mr,by rw [f3,List.take_zero]; simp [Num.bv]⟩
 ·have h5:=dF h5
  obtain rfl:n2=i:=by omega
  rw [List.take_of_length_le (by omega),bX,bY] at f3
  have hr:=mr.row.rd (n2+n3+1)
  rw [lM,mr.len] at hr
  refine (m7 hr mr.lt (by rw [mr.len]; omega) mr.row.ok.wf).mono ?_
  rintro _ h6 ⟨rfl,ok6⟩
  refine ⟨_,rfl,?_⟩
  rw [f3]
  refine (qW _ h6).mono ?_
  rintro _ _ ⟨rfl,rfl⟩
  exact yW (K:=fun v=>v=jw (X*Y)/\Ok h _) (ur _) ⟨rfl,(ok.trans mr.row.ok).trans ok6⟩
end Go.Proofs.YtoabjjimjldcfaaGreatDoor
end
section
set_option linter.unusedVariables false
set_option maxRecDepth 100000
namespace Go.Proofs.YtoabjjimjldcfaaGreatDoor
open Go Go.Ab
theorem tS (l:List UInt8)(h:Heap):FW SS 127 [aa l] h (fun v h'=>v = .bool (decide (l.length<=400) && Num.valid l)/\h'=h):=by
 refine Ef l h _ (ae (fun g=> ?_) (fun g=> ?_))
 ·have g:=dT g
  refine (bB l h).mono ?_
  rintro _ g0 ⟨rfl,e0⟩
  refine ⟨_,rfl,?_,e0⟩
  rw [decide_eq_true (show l.length<=400 by omega),Bool.true_and]
 ·have g:=dF g
  refine ⟨?_,rfl⟩
  rw [decide_eq_false (show ¬ l.length<=400 by omega),Bool.false_and]
def SV (n d:List UInt8)(neg stroke:Bool):Prop:=(Num.valid n=true/\n.length<=400)/\(Num.valid d=true/\d.length<=400)/\d≠[48]/\ ¬ (n=[48]/\(neg=true\/stroke=true))/\ ¬ (d=[49]/\stroke=true)/\(Nat.gcd (Num.val n) (Num.val d)=1\/d=[49])
def nr:Value:= .tuple ⟨[.bool false,aa [],aa [],.bool false]⟩
def gO (neg:Bool)(n d:List UInt8):Value:= .tuple ⟨[.bool neg,aa n,aa d,.bool true]⟩
def jT (h:Heap)(C:Prop)(G B:Value):VH:=fun v h'=>Ok h h'/\(C->v=G)/\(¬ C->v=B)
theorem ee {h h':Heap}{C:Prop}{G B:Value}(o:Ok h h')(hc: ¬ C):jT h C G B B h':=⟨o,fun c=>absurd c hc,fun _=>rfl⟩
theorem r9 {h h':Heap}{C:Prop}{G B:Value}(o:Ok h h')(hc:C):jT h C G B G h':=⟨o,fun _=>rfl,fun c=>absurd hc c⟩
theorem CW {n:List UInt8}(g:(decide (n.length<=400) && Num.valid n)=true):Num.valid n=true/\n.length<=400:=by
 rw [Bool.and_eq_true,decide_eq_true_eq] at g; exact ⟨g.2,g.1⟩
theorem Hp {n d:List UInt8}(hn:Num.valid n=true)(hd:Num.valid d=true):ya n d=BP (Num.toDec (Nat.gcd (Num.val n) (Num.val d))) 0:=by unfold ya; rw [if_pos ⟨hn,hd⟩]
theorem mf (n d:List UInt8)(neg:Bool)(st:Int)(stroke:Bool)(hst:stroke=decide (st>=0)){h:Heap}(w:Wf h){x0 x1 x2 x3 x4 x5 x10 x11 x12 x13 x14 x15 x16 x17 x18 x19 x20 x21 x22 x23 x24 x25 x26 x27 x28 x29 x30 x31 x32 x33 x34 x35 x36 x37 x38 x39 x40 x41 x42 x43 x44 x45 x46 x47 x48 x49 x50 x51 x52 x53 x54 x55 x56 x57 x58 x59 x60 x61 x62 x63 x64 x65 x66 x67 x68 x69 x70 x71 x72 x73 x74 x75 x76 x77 x78 x79 x80:Value}:
  wpS SS Tryz.f104.ntmps aY (aP [1,1,1,1,1,1] aO) [x0,x1,x2,x3,x4,x5,aa n,aa d,.bool neg,.int .i64 st,x10,x11,x12,x13,x14,x15,x16,x17,x18,x19,x20,x21,x22,x23,x24,x25,x26,x27,x28,x29,x30,x31,x32,x33,x34,x35,x36,x37,x38,x39,x40,x41,x42,x43,x44,x45,x46,x47,x48,x49,x50,x51,x52,x53,x54,x55,x56,x57,x58,x59,x60,x61,x62,x63,x64,x65,x66,x67,x68,x69,x70,x71,x72,x73,x74,x75,x76,x77,x78,x79,x80] h (bc (jT h (SV n d neg stroke) (gO neg n d) nr)):=by
 refine yv ((tS n h).mono ?_)
 rintro _ g0 ⟨rfl,e0⟩
 obtain rfl:h=g0:=e0.symm
 refine ⟨_,rfl,ae (fun g=>ee (Ok.refl w) fun c=> ?_) (fun g=> ?_)⟩
 ·obtain ⟨⟨c1,c2⟩,_⟩:=c
  rw [c1,decide_eq_true c2] at g; cases g
 have hn:=CW (n:=n) (by simpa using g)
 refine (tS d h).mono ?_
 rintro _ g0 ⟨rfl,e0⟩
 obtain rfl:h=g0:=e0.symm
 refine ⟨_,rfl,ae (fun g=>ee (Ok.refl w) fun c=> ?_) (fun g=> ?_)⟩
 ·obtain ⟨_,⟨c1,c2⟩,_⟩:=c
  rw [c1,decide_eq_true c2] at g; cases g
 have hd:=CW (n:=d) (by simpa using g)
 have fin:d≠[48]-> ¬ (n=[48]/\(neg=true\/stroke=true))-> ¬ (d=[49]/\stroke=true)-> ∀ {x0 x1 x2 x3 x4 x5 x10 x11 x12 x13 x14 x15 x16 x17 x18 x19 x20 x21 x22 x23 x24 x25 x26 x27 x28 x29 x30 x31 x32 x33 x34 x35 x36 x37 x38 x39 x40 x41 x42 x43 x44 x45 x46 x47 x48 x49 x50 x51 x52 x53 x54 x55 x56 x57 x58 x59 x60 x61 x62 x63 x64 x65 x66 x67 x68 x69 x70 x71 x72 x73 x74 x75 x76 x77 x78 x79 x80:Value},
   wpS SS Tryz.f104.ntmps aY (aP [1,1,1,1,1,1,1] aO) [x0,x1,x2,x3,x4,x5,aa n,aa d,.bool neg,.int .i64 st,x10,x11,x12,x13,x14,x15,x16,x17,x18,x19,x20,x21,x22,x23,x24,x25,x26,x27,x28,x29,x30,x31,x32,x33,x34,x35,x36,x37,x38,x39,x40,x41,x42,x43,x44,x45,x46,x47,x48,x49,x50,x51,x52,x53,x54,x55,x56,x57,x58,x59,x60,x61,x62,x63,x64,x65,x66,x67,x68,x69,x70,x71,x72,x73,x74,x75,x76,x77,x78,x79,x80] h (bc (jT h (SV n d neg stroke) (gO neg n d) nr)):=by
  intro c3 c4 c5
  intros
  refine xW ((Nn n d h w).mono ?_)
  rintro _ h1 ⟨rfl,o1⟩
  rw [Hp hn.1 hd.1]
  refine ⟨_,_,rfl,?_⟩
  have e1:Num.toDec (Nat.gcd (Num.val n) (Num.val d))=[49]↔Nat.gcd (Num.val n) (Num.val d)=1:=Num.toDec_eq_one
  refine ae (fun g1=>ae (fun g2=>ee o1 fun c=> ?_) (fun g2=>r9 o1 ?_)) (fun g1=>r9 o1 ?_)
  ·have g1: ¬ Num.toDec (Nat.gcd (Num.val n) (Num.val d))=[49]:=by simpa using g1
   have g2: ¬ d=[49]:=by simpa using g2
   rcases c.2.2.2.2.2 with c | c
   ·exact g1 (e1.2 c)
   ·exact g2 c
  ·have g2:d=[49]:=by simpa using g2
   exact ⟨hn,hd,c3,c4,c5,.inr g2⟩
  ·have g1:Num.toDec (Nat.gcd (Num.val n) (Num.val d))=[49]:=by simpa using g1
   exact ⟨hn,hd,c3,c4,c5,.inl (e1.1 g1)⟩
 refine ae (fun g1=>ee (Ok.refl w) fun c=> ?_) (fun g1=> ?_)
 ·exact c.2.2.1 (by simpa using g1)
 have g1:d≠[48]:=by simpa using g1
 have k49: ∀ {x:Bool},(x=true->st>=0)->True:=fun _=>trivial
 have nst:decide (st>=0)=false-> ¬ stroke=true:=fun e f=>by rw [hst] at f; rw [f] at e; cases e
 have yst:decide (st>=0)=true->stroke=true:=fun e=>by rw [hst,e]
 refine ae (fun g2=> ?_) (fun g2=> ?_)
 ·have g2:n=[48]:=by simpa using g2
  refine ae (fun g3=>ee (Ok.refl w) fun c=>c.2.2.2.1 ⟨g2,.inl g3⟩) (fun g3=> ?_)
  have g3: ¬ neg=true:=by rw [g3]; simp
  refine ae (fun g4=>ee (Ok.refl w) fun c=>c.2.2.2.1 ⟨g2,.inr (yst g4)⟩) (fun g4=> ?_)
  have f4: ¬ (n=[48]/\(neg=true\/stroke=true)):=fun c=>c.2.elim g3 (nst g4)
  refine ae (fun g5=> ?_) (fun g5=> ?_)
  ·refine ae (fun g6=>ee (Ok.refl w) fun c=>c.2.2.2.2.1 ⟨by simpa using g5,yst g6⟩) (fun g6=> ?_)
   exact fin g1 f4 (fun c=>nst g6 c.2)
  ·exact fin g1 f4 (fun c=>(by
    have: ¬ d=[49]:=by simpa using g5
    exact this c.1))
 ·have f4: ¬ (n=[48]/\(neg=true\/stroke=true)):=fun c=>by
   have: ¬ n=[48]:=by simpa using g2
   exact this c.1
  refine ae (fun g5=> ?_) (fun g5=> ?_)
  ·refine ae (fun g6=>ee (Ok.refl w) fun c=>c.2.2.2.2.1 ⟨by simpa using g5,yst g6⟩) (fun g6=> ?_)
   exact fin g1 f4 (fun c=>nst g6 c.2)
  ·exact fin g1 f4 (fun c=>(by
    have: ¬ d=[49]:=by simpa using g5
    exact this c.1))
def fF (l:List UInt8):Value:=if Num.isRat l=true then gO (Num.isNeg l) (Num.numOf l) (Num.denOf l) else nr
theorem Fj {h:Heap}{l:List UInt8}{v:Value}{h':Heap}(q:jT h (SV (Num.numOf l) (Num.denOf l) (Num.isNeg l) (Num.hasStroke l)) (gO (Num.isNeg l) (Num.numOf l) (Num.denOf l)) nr v h'):v=fF l/\Ok h h':=by
 obtain ⟨o,q1,q2⟩:=q
 refine ⟨?_,o⟩
 unfold fF
 by_cases g:Num.isRat l=true
 ·rw [if_pos g]; exact q1 (Num.isRat_ref.1 (Num.isRat_iff.1 g))
 ·rw [if_neg g]; exact q2 fun c=>g (Num.isRat_iff.2 (Num.isRat_ref.2 c))
theorem iN (l:List UInt8)(hl:l.length<=1000000000){h:Heap}(w:Wf h):FW SS 104 [aa l] h (fun v h'=>v=fF l/\Ok h h'):=by
 refine FW.mono (Q:=jT h (SV (Num.numOf l) (Num.denOf l) (Num.isNeg l) (Num.hasStroke l)) (gO (Num.isNeg l) (Num.numOf l) (Num.denOf l)) nr) ?_ (fun _ _ q=>Fj q)
 have hs: ∀ m:List UInt8,m.length<=1000000000-> ∀ (K:VH),(∀ (n5:Int),n5=Cr m->(if n5>=0 then ∃ i:Nat,n5=(i:Int)/\IntKind.wrap .i64 (n5+1)=((i+1:Nat):Int)/\i=Num.idxB 47 m/\i < m.length else ¬ Num.idxB 47 m < m.length)  ->K (.int .i64 n5) h)->FW SS 126 [aa m,.int .u8 47] h K:=by
  intro m hm K hK
  refine (E8 m hm h).mono ?_
  rintro _ g0 ⟨rfl,e0⟩
  obtain rfl:h=g0:=e0.symm
  refine hK _ rfl ?_
  unfold Cr
  by_cases g:Num.idxB 47 m < m.length
  ·rw [if_pos g,if_pos (by omega)]
   exact ⟨_,rfl,by rw [ap (by omega) (by omega)]; omega,rfl,g⟩
  ·rw [if_neg g,if_neg (by omega)]; exact g
 have body: ∀ (m:List UInt8),m=Num.afterNeg l->m.length<=1000000000-> ∀ (n5:Int),(if n5>=0 then ∃ i:Nat,n5=(i:Int)/\IntKind.wrap .i64 (n5+1)=((i+1:Nat):Int)/\i=Num.idxB 47 m/\i < m.length else ¬ Num.idxB 47 m < m.length)->
   (decide (n5>=0)=true->Num.hasStroke l=true/\aL SS.P 9 (aa m) (some (.int .i64 (IntKind.wrap .i64 (n5+1)))) none none h=some (aa (Num.denOf l))/\aL SS.P 9 (aa m) none (some (.int .i64 n5)) none h=some (aa (Num.numOf l)))/\
   (decide (n5>=0)=false->Num.hasStroke l=false/\m=Num.numOf l/\Num.denOf l=[49]):=by
  intro m em hm n5 hi
  refine ⟨fun g=> ?_,fun g=> ?_⟩
  ·rw [if_pos (dT g)] at hi
   obtain ⟨i,rfl,e1,rfl,h2⟩:=hi
   have hst:Num.hasStroke l=true:=by unfold Num.hasStroke; rw [<-em]; exact decide_eq_true h2
   refine ⟨hst,?_,?_⟩
   ·rw [e1,qr m h h2]; unfold Num.denOf; rw [if_pos hst,em]
   ·rw [EQ m h (Nat.le_of_lt h2)]; unfold Num.numOf; rw [em]
  ·rw [if_neg (dF g)] at hi
   have hst:Num.hasStroke l=false:=by unfold Num.hasStroke; rw [<-em]; exact decide_eq_false hi
   refine ⟨hst,?_,?_⟩
   ·unfold Num.numOf; rw [<-em,List.take_of_length_le (by omega)]
   ·unfold Num.denOf; rw [hst]; rfl
 have cont: ∀ (m:List UInt8),m=Num.afterNeg l->m.length<=1000000000:=fun m em=>by
  rw [em]; unfold Num.afterNeg; split
  ·rw [List.length_drop]; omega
  ·exact hl
 refine Eo l h _ (ae (fun g=> ?_) (fun g=> ?_))
 ·have g:=dT g
  cases l with
  | nil=>simp at g
  | cons c l'=>
   have e:aQ SS.P 9 (aa (c::l')) (.int .i64 0)=some (.int .u8 ((c.toNat:Nat):Int)):=by
    have:=i6 Ri (c::l') .i64 (i:=0) (by omega) g
    simpa using this
   refine ⟨_,e,ae (fun g2=> ?_) (fun g2=> ?_)⟩
   ·have g2:c=45:=by
     have:((c.toNat:Nat):Int)=45:=by simpa using g2
     rw [<-UInt8.toNat_inj]; show c.toNat=45; omega
    have hneg:Num.isNeg (c::l')=true:=by unfold Num.isNeg; rw [g2]; rfl
    have em:l'=Num.afterNeg (c::l'):=by unfold Num.afterNeg; rw [if_pos hneg]; rfl
    have hs1:aL SS.P 9 (aa (c::l')) (some (.int .i64 1)) none none h=some (aa l'):=qr (c::l') h (a:=1) (by simp)
    refine ⟨_,hs1,hs l' (cont _ em) _ (fun n5 h5 hi=>⟨n5,rfl,?_⟩)⟩
    obtain ⟨b1,b2⟩:=body l' em (cont _ em) n5 hi
    have e2:(((c.toNat:Nat):Int) == 45)=true:=g2 ▸ rfl
    rw [hneg,e2]
    refine ae (fun g=> ?_) (fun g=> ?_)
    ·obtain ⟨s1,s2,s3⟩:=b1 g
     exact ⟨_,s2,_,s3,mf _ _ true n5 _ (by rw [s1,g]) w⟩
    ·obtain ⟨s1,s2,s3⟩:=b2 g
     rw [s3,<-s2]
     exact mf _ _ true n5 _ (by rw [s1,g]) w
   ·have g2: ¬ c=45:=fun e=>by rw [e] at g2; cases g2
    have hneg:Num.isNeg (c::l')=false:=by
     unfold Num.isNeg
     simp [g2]
    have em:c::l'=Num.afterNeg (c::l'):=by unfold Num.afterNeg; rw [hneg]; rfl
    have e2:(((c.toNat:Nat):Int) == 45)=false:=by
     have:((c.toNat:Nat):Int)≠45:=fun e=>g2 (by rw [<-UInt8.toNat_inj]; show c.toNat=45; omega)
     simpa using this
    refine hs (c::l') hl _ (fun n5 h5 hi=>⟨n5,rfl,?_⟩)
    obtain ⟨b1,b2⟩:=body _ em hl n5 hi
    rw [hneg,e2]
    refine ae (fun g=> ?_) (fun g=> ?_)
    ·obtain ⟨s1,s2,s3⟩:=b1 g
     exact ⟨_,s2,_,s3,mf _ _ false n5 _ (by rw [s1,g]) w⟩
    ·obtain ⟨s1,s2,s3⟩:=b2 g
     rw [s3,<-s2]
     exact mf _ _ false n5 _ (by rw [s1,g]) w
 ·have g:=dF g
  obtain rfl:l=[]:=List.eq_nil_of_length_eq_zero (by omega)
  have em:[]=Num.afterNeg []:=rfl
  refine hs [] (by simp) _ (fun n5 h5 hi=>⟨n5,rfl,?_⟩)
  obtain ⟨b1,b2⟩:=body _ em (by simp) n5 hi
  refine ae (fun g=> ?_) (fun g=> ?_)
  ·obtain ⟨s1,s2,s3⟩:=b1 g
   exact ⟨_,s2,_,s3,mf _ _ false n5 _ (by rw [s1,g]) w⟩
  ·obtain ⟨s1,s2,s3⟩:=b2 g
   rw [s3,<-s2]
   exact mf _ _ false n5 _ (by rw [s1,g]) w
theorem Dy {l:List UInt8}{K:Value->Prop}(hK:K (fF l)): ∃ (b3:Bool)(l4 l5:List UInt8)(b6:Bool),fF l=(.tuple ⟨[.bool b3,aa l4,aa l5,.bool b6]⟩)/\K (.tuple ⟨[.bool b3,aa l4,aa l5,.bool b6]⟩)/\b6=Num.isRat l:=by
 unfold fF at *
 cases g:Num.isRat l with
 | true=>rw [g] at hK; exact ⟨_,_,_,_,rfl,hK,rfl⟩
 | false=>rw [g] at hK; exact ⟨_,_,_,_,rfl,hK,rfl⟩
theorem FT (l:List UInt8)(hl:l.length<=1000000000){h:Heap}(w:Wf h):FW SS 76 [aa l] h (fun v h'=>v = .bool (Num.isRat l)/\Ok h h'):=by
 refine Ev l h _ ((iN l hl w).mono ?_)
 rintro _ h1 ⟨rfl,o1⟩
 obtain ⟨b3,l4,l5,b6,e,_,e6⟩:=Dy (l:=l) (K:=fun _=>True) trivial
 exact ⟨b3,l4,l5,b6,e,by rw [e6],o1⟩
theorem i3 {X:Nat}(h:X < 10 ^ 800):Num.valid (Num.toDec X)=true:=Num.valid_toDec.2 (Nat.lt_of_lt_of_le h (Num.pow_mono10 (k:=800) (m:=1000) (by decide)))
theorem Lj {X:Nat}(h:X < 10 ^ 1000):jw X=BP (Num.toDec X) 0:=by
 unfold jw
 rw [if_neg]
 have:=(Num.toDec_len_le (n:=X) (k:=1000) (by decide)).2 h
 omega
theorem Gt {A B:Nat}(hA:A < 10 ^ 800)(hB:B < 10 ^ 800):xK (Num.toDec A) (Num.toDec B)=BP (Num.toDec (A+B)) 0:=by
 unfold xK
 rw [if_pos ⟨i3 hA,i3 hB⟩,Num.val_toDec,Num.val_toDec]
 exact Lj (Nat.lt_of_lt_of_le (Nat.add_lt_add hA hB) Num.pow_800)
theorem sE {A B:Nat}(hA:A < 10 ^ 800)(hB:B < 10 ^ 800)(h:B<=A):yx (Num.toDec A) (Num.toDec B)=BP (Num.toDec (A - B)) 0:=by
 unfold yx
 rw [if_pos ⟨i3 hA,i3 hB⟩,Num.val_toDec,Num.val_toDec,if_neg (Nat.not_lt.2 h)]
theorem GS {A B:Nat}(hA:A < 10 ^ 800)(hB:B < 10 ^ 800):xD (Num.toDec A) (Num.toDec B) = .int .i64 (Num.cmpN A B):=by
 unfold xD
 rw [if_pos ⟨i3 hA,i3 hB⟩,Num.val_toDec,Num.val_toDec]
theorem ja {a b:List UInt8}(ha:Num.valid a=true)(hb:Num.valid b=true)(la:a.length<=400)(lb:b.length<=400):xV a b=BP (Num.toDec (Num.val a*Num.val b)) 0/\Num.val a*Num.val b < 10 ^ 800:=by
 have h:=Num.pow_400_800 (Num.valid_lt (k:=400) ha (by decide) la) (Num.valid_lt (k:=400) hb (by decide) lb)
 refine ⟨?_,h⟩
 unfold xV
 rw [if_pos ⟨ha,hb⟩]
 exact Lj (Nat.lt_of_lt_of_le h (Num.pow_mono10 (k:=800) (m:=1000) (by decide)))
def xw (s:Bool)(A:Nat)(t:Bool)(B:Nat):Value:= .tuple ⟨[.bool (Num.plusS s A t B).1,aa (Num.toDec (Num.plusS s A t B).2)]⟩
theorem cmpN_lt0 {A B:Nat}:Num.cmpN A B < 0↔A < B:=Num.cmpN_neg
theorem Kf (s:Bool)(A:Nat)(t:Bool)(B:Nat)(hA:A < 10 ^ 800)(hB:B < 10 ^ 800){h:Heap}(w:Wf h):FW SS 105 [.bool s,aa (Num.toDec A),.bool t,aa (Num.toDec B)] h (fun v h'=>v=xw s A t B/\Ok h h'):=by
 refine II s _ t _ h _ (ae (fun g=> ?_) (fun g=> ?_))
 ·have g:s=t:=by simpa using g
  refine (NH _ _ w).mono ?_
  rintro _ h1 ⟨rfl,o1⟩
  rw [Gt hA hB]
  refine ⟨_,_,rfl,?_,o1⟩
  unfold xw Num.plusS; rw [if_pos g]
 ·have g: ¬ s=t:=by simpa using g
  refine (LO _ _ w).mono ?_
  rintro _ h1 ⟨rfl,o1⟩
  rw [GS hA hB]
  refine ⟨_,rfl,ae (fun g1=> ?_) (fun g1=> ?_)⟩
  ·have g1:=dT g1
   have g2: ¬ A < B:=fun c=>by have:=cmpN_lt0.2 c; omega
   refine (C1 _ _ o1.wf).mono ?_
   rintro _ h2 ⟨rfl,o2⟩
   rw [sE hA hB (Nat.not_lt.1 g2)]
   refine ⟨_,_,rfl,?_,o1.trans o2⟩
   unfold xw Num.plusS; rw [if_neg g,if_neg g2]
  ·have g1:=dF g1
   have g2:A < B:=cmpN_lt0.1 (by omega)
   refine (C1 _ _ o1.wf).mono ?_
   rintro _ h2 ⟨rfl,o2⟩
   rw [sE hB hA (Nat.le_of_lt g2)]
   refine ⟨_,_,rfl,?_,o1.trans o2⟩
   unfold xw Num.plusS; rw [if_neg g,if_pos g2]
theorem vf {a b:List UInt8}(ha:Num.valid a=true)(hb:Num.valid b=true)(la:a.length<=400)(lb:b.length<=400){h:Heap}(w:Wf h):FW SS 106 [aa a,aa b] h (fun v h'=>v=aa (Num.toDec (Num.val a*Num.val b))/\Ok h h'):=by
 refine Ec a b h _ ((Ma a b w).mono ?_)
 rintro _ h1 ⟨rfl,o1⟩
 rw [(ja ha hb la lb).1]
 exact ⟨_,_,rfl,rfl,o1⟩
theorem IY (l m:List UInt8)(hl:l.length<=1000000000)(hm:m.length<=1000000000){h:Heap}(w:Wf h):FW SS 77 [aa l,aa m] h (fun v h'=>v = .int .i64 (Num.cmpRat l m)/\Ok h h'):=by
 refine Kn l m h _ ((iN l hl w).mono ?_)
 rintro _ h1 ⟨rfl,o1⟩
 cases g:Num.isRat l with
 | false=>
  have e:fF l=nr:=by unfold fF; rw [g]; rfl
  refine ⟨_,_,_,_,e,(iN m hm o1.wf).mono ?_⟩
  rintro _ h2 ⟨rfl,o2⟩
  obtain ⟨b3,l4,l5,b6,e2,_,e6⟩:=Dy (l:=m) (K:=fun _=>True) trivial
  refine ⟨b3,l4,l5,b6,e2,?_,o1.trans o2⟩
  unfold Num.cmpRat; rw [if_neg (fun c=>by rw [c.1] at g; cases g)]
 | true=>
  have e:fF l=gO (Num.isNeg l) (Num.numOf l) (Num.denOf l):=by unfold fF; rw [g]; rfl
  refine ⟨_,_,_,_,e,(iN m hm o1.wf).mono ?_⟩
  rintro _ h2 ⟨rfl,o2⟩
  cases g2:Num.isRat m with
  | false=>
   have e2:fF m=nr:=by unfold fF; rw [g2]; rfl
   refine ⟨_,_,_,_,e2,?_,o1.trans o2⟩
   unfold Num.cmpRat; rw [if_neg (fun c=>by rw [c.2] at g2; cases g2)]
  | true=>
   have e2:fF m=gO (Num.isNeg m) (Num.numOf m) (Num.denOf m):=by unfold fF; rw [g2]; rfl
   have r1:=Num.isRat_iff.1 g
   have r2:=Num.isRat_iff.1 g2
   refine ⟨_,_,_,_,e2,(vf r1.num r2.den r1.ln r2.ld o2.wf).mono ?_⟩
   rintro _ h3 ⟨rfl,o3⟩
   refine ⟨_,rfl,(vf r2.num r1.den r2.ln r1.ld o3.wf).mono ?_⟩
   rintro _ h4 ⟨rfl,o4⟩
   refine ⟨_,rfl,(Kf _ _ _ _ (ja r1.num r2.den r1.ln r2.ld).2 (ja r2.num r1.den r2.ln r1.ld).2 o4.wf).mono ?_⟩
   rintro _ h5 ⟨rfl,o5⟩
   have ok:=(((o1.trans o2).trans o3).trans o4).trans o5
   refine ⟨_,_,rfl,?_⟩
   unfold Num.cmpRat
   rw [if_pos ⟨g,g2⟩]
   generalize Num.plusS _ _ _ _=z
   refine ae (fun g3=>⟨?_,ok⟩) (fun g3=> ?_)
   ·have g3:Num.toDec z.2=[48]:=by simpa using g3
    rw [if_pos (Num.toDec_eq_zero.1 g3)]
   ·have g3: ¬ Num.toDec z.2=[48]:=by simpa using g3
    rw [if_neg (fun c=>g3 (Num.toDec_eq_zero.2 c))]
    refine ae (fun g4=>⟨?_,ok⟩) (fun g4=>⟨?_,ok⟩)
    ·rw [if_pos g4]
    ·rw [if_neg (by rw [g4]; simp)]
end Go.Proofs.YtoabjjimjldcfaaGreatDoor
end
section
set_option linter.defProp false
set_option linter.unusedVariables false
set_option maxRecDepth 100000
namespace Go.Proofs.YtoabjjimjldcfaaGreatDoor
open Go Go.Ab
structure MR (hb:Heap)(kt N:Nat)(L:List Nat)(g:Heap):Prop where
 len:L.length=N
 lt: ∀ d∈L,d < BB
 row:g.get kt=some (.cells (aU ((List.replicate N 0).map uv) 0 L) 103 1 true)
 ok:Ok hb g
theorem MR.room {hb:Heap}{kt N:Nat}{L:List Nat}{g:Heap}(m:MR hb kt N L g)(r:Nat):MR hb kt N L (Go.Ab.room g r):=⟨m.len,m.lt,m.row,m.ok.room r⟩
theorem MR.get {hb:Heap}{kt N c:Nat}{L:List Nat}{g:Heap}(m:MR hb kt N L g){j:Int}{jn:Nat}(hj:j=(jn:Int))(hl:jn < N): ∃ p:Addr,af SS.P 136 (.slice (some ⟨kt,0,none⟩) N c) (.int .i64 j)=some (.pointer (some p))/\ah SS.P 103 g (.pointer (some p))=some (.int .u64 (L.getD jn 0:Nat))/\
  ∀ d:Nat,d < BB->kt < g.next->hb.next<=kt->Wf hb-> ∃ u:Upd,al SS.P 103 (.pointer (some p)) (.int .u64 (d:Int)) g=some (undef,u)/\MR hb kt N (L.set jn d) (u.app g):=by
 subst hj
 have hc:(0:Nat)+L.length<=((List.replicate N 0).map uv).length:=by rw [lM,List.length_replicate,m.len]; omega
 refine ⟨⟨kt,0+(jn:Int).toNat,none⟩,tZ (by omega) (by omega),?_,?_⟩
 ·rw [Int.toNat_natCast]
  exact Br m.row hc (by rw [m.len]; exact hl)
 ·intro d hd hk hn w
  rw [Int.toNat_natCast]
  refine ⟨_,AJ m.row hc (by rw [m.len]; exact hl) d,by rw [List.length_set]; exact m.len,fun e he=> ?_,?_,m.ok.set _ hn hk w⟩
  ·rcases List.mem_or_eq_of_mem_set he with h | h
   ·exact m.lt e h
   ·rw [h]; exact hd
  ·show (g.set kt _).get kt=_
   rw [Heap.get_set,if_pos rfl]
def OW (hb:Heap)(kt N n:Nat)(x y:List Nat)(mz i:Nat)(g:Heap):Prop:=i<=n/\mz=n - i/\ ∃ L,MR hb kt N L g/\Num.bv BB L=Num.bv BB (x.take i)*Num.bv BB y
def T9 (hb:Heap)(kt N k:Nat)(x y:List Nat)(i mz j:Nat)(cy:Int)(g:Heap):Prop:=j<=k+1/\mz=k+1 - j/\ ∃ (L:List Nat)(cn:Nat),cy=(cn:Int)/\cn < BB/\MR hb kt N L g/\Num.bv BB L+cn*BB ^ (i+j)=Num.bv BB (x.take i)*Num.bv BB y+x.getD i 0*Num.bv BB (y.take j)*BB ^ i
theorem IF {hb:Heap}(w:Wf hb){kt N k:Nat}{x y:List Nat}(hkt:hb.next<=kt)(hx: ∀ d∈x,d < BB)(hy: ∀ d∈y,d < BB){i mz j:Nat}{cn:Nat}{L:List Nat}{g:Heap}(hj:j < k+1)(hij:i+j < N)(hmz:mz=k+1 - j)(hcn:cn < BB)(m:MR hb kt N L g)(he:Num.bv BB L+cn*BB ^ (i+j)=Num.bv BB (x.take i)*Num.bv BB y+x.getD i 0*Num.bv BB (y.take j)*BB ^ i){q:Nat}(hq:q=x.getD i 0*y.getD j 0):
  q<=999999998000000001/\L.getD (i+j) 0 < BB/\(∀ g',MR hb kt N (L.set (i+j) ((L.getD (i+j) 0+cn+q) % BB)) g'->mz - 1 < mz/\T9 hb kt N k x y i (mz - 1) (j+1) (((L.getD (i+j) 0+cn+q) / BB:Nat):Int) g')/\(L.getD (i+j) 0+cn+q) % BB < BB/\kt < g.next:=by
 have hxi:=Num.getD_lt (b:=BB) (by decide) hx i
 have hyj:=Num.getD_lt (b:=BB) (by decide) hy j
 have hLj:=Num.getD_lt (b:=BB) (by decide) m.lt (i+j)
 refine ⟨?_,hLj,fun g' m'=>⟨by omega,by omega,by omega,_,_,rfl,?_,m',?_⟩,Nat.mod_lt _ (by decide),m.ok.wf _ _ m.row⟩
 ·rw [hq]
  exact Nat.le_trans (Nat.mul_le_mul (Nat.le_of_lt_succ hxi) (Nat.le_of_lt_succ hyj)) (by decide)
 ·exact (Num.mul_step cG m.lt (by rw [m.len]; exact hij) hcn hxi hyj (by rw [hq]) he).2.1
 ·exact (Num.mul_step cG m.lt (by rw [m.len]; exact hij) hcn hxi hyj (by rw [hq]) he).2.2
def MC {hb:Heap}(w:Wf hb){a:Option Addr}{n c:Nat}{b:Option Addr}{k d:Nat}{kt N tc:Nat}{x y:List Nat}(ra:Rd hb 103 (.slice a n c) (x.map uv))(rb:Rd hb 103 (.slice b k d) (y.map uv))(hx: ∀ d∈x,d < BB)(hy: ∀ d∈y,d < BB)(hkt:hb.next<=kt){i:Nat}(hi:i < n)(hn:n=x.length)(hk:k=y.length)(hN:N=n+k+1)(hN2:N<=1000)(l m:List UInt8)(Q:VH)(mz:Nat)(hmz:mz=n - i):=
 uU l m a n c b k d (some ⟨kt,0,none⟩) N tc (n:Int) (OW hb kt N n x y) mz i ((k:Int)+1) (T9 hb kt N k x y i) Q (by
  intro mz2 j cy; intros; rename_i g hin
  obtain ⟨h1,h2,L,cn,rfl,h3,mr,h4⟩:=hin
  have hBv:BB=1000000000:=rfl
  have e1:IntKind.wrap .i64 ((i:Int)+(j:Int))=((i+j:Nat):Int):=by rw [ap (by omega) (by omega)]; omega
  have e2:IntKind.wrap .i64 ((j:Int)+1)=((j+1:Nat):Int):=by rw [ap (by omega) (by omega)]; omega
  have e3:IntKind.wrap .i64 ((i:Int)+1)=((i+1:Nat):Int):=by rw [ap (by omega) (by omega)]; omega
  unfold oU
  rw [e1,e2,e3]
  refine ae (fun h5=> ?_) (fun h5=> ?_)
  ·have h5:=dT h5
   obtain ⟨q,hq⟩: ∃ q,q=x.getD i 0*y.getD j 0:=⟨_,rfl⟩
   obtain ⟨s1,s2,s3,s4,s5⟩:=IF w hkt hx hy (by omega) (by omega) h2 h3 mr h4 hq
   obtain ⟨p,g1,g2,_⟩:=mr.get (c:=tc) (j:=((i+j:Nat):Int)) rfl (by omega)
   have e4:IntKind.wrap .u64 (((L.getD (i+j) 0:Nat):Int)+(cn:Int))=((L.getD (i+j) 0+cn:Nat):Int):=by rw [cI (by omega) (by omega)]; omega
   refine ⟨p,g1,_,g2,ae (fun h6=> ?_) (fun h6=> ?_)⟩
   ·have h6:=dT h6
    obtain ⟨p1,f1,f2⟩:=Dt (ra.ok (mr.room 12).ok) (i:=(i:Int)) (by omega) (by omega)
    obtain ⟨p2,f3,f4⟩:=Dt (rb.ok (mr.room 12).ok) (i:=(j:Int)) (by omega) (by omega)
    rw [Int.toNat_natCast] at f2 f4
    have e5:IntKind.wrap .u64 (((x.getD i 0:Nat):Int)*((y.getD j 0:Nat):Int))=(q:Int):=by rw [<-Int.natCast_mul,<-hq]; exact cI (by omega) (by omega)
    have e6:IntKind.wrap .u64 (((L.getD (i+j) 0+cn:Nat):Int)+(q:Int))=((L.getD (i+j) 0+cn+q:Nat):Int):=by rw [cI (by omega) (by omega)]; omega
    rw [e4]
    refine ⟨p1,f1,_,f2,p2,f3,_,f4,?_⟩
    dsimp only
    rw [e5,e6]
    obtain ⟨p3,g3,_,g5⟩:=(mr.room 12).get (c:=tc) (j:=((i+j:Nat):Int)) rfl (by omega)
    obtain ⟨u,g6,g7⟩:=g5 _ s4 (Nat.lt_of_lt_of_le s5 (Nat.le_add_right _ _)) hkt w
    obtain ⟨t1,t2⟩:=s3 _ g7
    refine ⟨_,cJ (b:=BB) (by omega) (by decide),_,kQ (b:=BB) (by omega) (by omega) (by decide),p3,g3,u,g6,kT (mz2 - 1) t1 ?_⟩
    rw [Int.natCast_ediv] at t2
    exact t2
   ·have h6:=dF h6
    have y0:y.getD j 0=0:=by rw [gD,List.getElem?_eq_none (by omega)]; rfl
    have hq0:q=0:=by rw [hq,y0,Nat.mul_zero]
    rw [e4]
    obtain ⟨p3,g3,_,g5⟩:=mr.get (c:=tc) (j:=((i+j:Nat):Int)) rfl (by omega)
    rw [hq0,Nat.add_zero] at s3 s4
    obtain ⟨u,g6,g7⟩:=g5 _ s4 s5 hkt w
    obtain ⟨t1,t2⟩:=s3 _ g7
    refine ⟨_,cJ (b:=BB) (by omega) (by decide),_,kQ (b:=BB) (by omega) (by omega) (by decide),p3,g3,u,g6,kT (mz2 - 1) t1 ?_⟩
    rw [Int.natCast_ediv] at t2
    exact t2
  ·have h5:=dF h5
   obtain rfl:j=k+1:=by omega
   refine uP (n - (i+1)) (by omega) ⟨by omega,rfl,L,mr,?_⟩
   exact Num.mul_end cG hx hy (by omega) mr.lt (by rw [<-hk]; exact h4))
theorem QK {X Y:Nat}(hx:(Num.toB BB X).length<=112)(hy:(Num.toB BB Y).length<=112):(Num.toB BB (X*Y)).length<=10000:=by
 have h1:=Num.bv_lt (Num.toB_lt cG X)
 have h2:=Num.bv_lt (Num.toB_lt cG Y)
 rw [Num.bv_toB cG] at h1 h2
 have h3:=Nat.lt_of_lt_of_le h1 (Nat.pow_le_pow_right (show 0 < BB by decide) hx)
 have h4:=Nat.lt_of_lt_of_le h2 (Nat.pow_le_pow_right (show 0 < BB by decide) hy)
 refine Nat.le_trans (Num.toB_len_le cG (k:=224) ?_) (by omega)
 rw [show 224=112+112 from rfl,Nat.pow_add]
 exact Nat.mul_lt_mul'' h3 h4
theorem D3 (a b:List UInt8){h:Heap}(t:Tab h)(w:Wf h):FW SS 119 [aa a,aa b] h (fun v h'=>v=xV a b/\Ok h h'):=by
 refine Mx a b h _ ((bJ a h).mono ?_)
 rintro _ g0 ⟨rfl,e0⟩
 obtain rfl:h=g0:=e0.symm
 refine ⟨_,rfl,ae (fun g=> ?_) (fun g=> ?_)⟩
 ·have g:Num.valid a=false:=by simpa using g
  refine ⟨?_,Ok.refl w⟩
  unfold xV; rw [if_neg (fun e=>by rw [e.1] at g; cases g)]; rfl
 have g:Num.valid a=true:=by simpa using g
 refine (bJ b h).mono ?_
 rintro _ g0 ⟨rfl,e0⟩
 obtain rfl:h=g0:=e0.symm
 refine ⟨_,rfl,ae (fun g2=> ?_) (fun g2=> ?_)⟩
 ·have g2:Num.valid b=false:=by simpa using g2
  refine ⟨?_,Ok.refl w⟩
  unfold xV; rw [if_neg (fun e=>by rw [e.2] at g2; cases g2)]; rfl
 have g2:Num.valid b=true:=by simpa using g2
 have tb:=RS g g2
 have lx:=tb.lx
 have ly:=tb.ly
 refine (ic g w).mono ?_
 rintro _ h1 ⟨a1,n1,c1,rfl,o1,ok1⟩
 refine ⟨_,_,_,rfl,(ic g2 ok1.wf).mono ?_⟩
 rintro _ h2 ⟨a2,n2,c2,rfl,o2,ok2⟩
 refine ⟨_,_,_,rfl,?_⟩
 have hS:xV a b=jw (Num.val a*Num.val b):=by unfold xV; rw [if_pos ⟨g,g2⟩]
 rw [hS]
 have r1:=o1.rd.ok ok2
 have r2:=o2.rd
 have ok:=ok1.trans ok2
 have hn1:n1=(Num.toB BB (Num.val a)).length:=by have:=r1.len; rwa [lM] at this
 have hn2:n2=(Num.toB BB (Num.val b)).length:=by have:=r2.len; rwa [lM] at this
 have hX:=Num.toB_lt cG (Num.val a)
 have hY:=Num.toB_lt cG (Num.val b)
 have bX:=Num.bv_toB cG (Num.val a)
 have bY:=Num.bv_toB cG (Num.val b)
 have r1:Rd h2 103 (.slice a1 n1 c1) ((Num.toB BB (Num.val a)).map uv):=r1
 have r2:Rd h2 103 (.slice a2 n2 c2) ((Num.toB BB (Num.val b)).map uv):=r2
 have hsz:(Num.toB BB (Num.val a*Num.val b)).length<=10000:=QK lx ly
 generalize Num.val a=X at *
 generalize Num.val b=Y at *
 generalize Num.toB BB X=x at *
 generalize Num.toB BB Y=y at *
 have e1:IntKind.wrap .i64 (IntKind.wrap .i64 ((n1:Int)+(n2:Int))+1)=((n1+n2+1:Nat):Int):=by
  rw [ap (n:=(n1:Int)+(n2:Int)) (by omega) (by omega),ap (by omega) (by omega)]; omega
 dsimp only
 rw [e1]
 refine ⟨_,_,_,Uh _ (by omega),?_⟩
 have okp:=(Ok.refl ok.wf).push (.cells ((List.replicate (n1+n2+1) 0).map uv) 103 1 true)
 have m0:MR h2 h2.next (n1+n2+1) (List.replicate (n1+n2+1) 0) (h2.push (.cells ((List.replicate (n1+n2+1) 0).map uv) 103 1 true)):=by
  refine ⟨List.length_replicate,fun d hd=>by rw [(List.mem_replicate.1 hd).2]; decide,?_,okp⟩
  rw [Heap.get_push,if_pos rfl,hH (by rw [List.drop_zero,List.length_replicate,List.take_of_length_le (by rw [lM,List.length_replicate]; omega)])]
 refine tk a b a1 n1 c1 a2 n2 c2 (some ⟨h2.next,0,none⟩) (n1+n2+1) (n1+n2+1) (n1:Int) (OW h2 h2.next (n1+n2+1) n1 x y) (fun v h'=>v=jw (X*Y)/\Ok h h') (fun mz i=> ?_) n1 (i:=0) ⟨by omega,by omega,_,m0,by rw [Num.bv_replicate,List.take_zero]; simp [Num.bv]⟩
 intros; rename_i g hi
 obtain ⟨f1,f2,L,mr,f3⟩:=hi
 refine ae (fun h5=> ?_) (fun h5=> ?_)
 ·have h5:=dT h5
  have e2:IntKind.wrap .i64 ((n2:Int)+1)=(n2:Int)+1:=ap (by omega) (by omega)
  rw [e2]
  exact MC ok.wf r1 r2 hX hY (Nat.le_refl _) (i:=i) (by omega) hn1 hn2 rfl (by omega) a b _ mz f2 (n2+1) (j:=0) (cy:=0) ⟨by omega,by omega,L,0,rfl,by decide,mr,by rw [f3,List.take_zero]; simp [Num.bv]⟩
 ·have h5:=dF h5
  obtain rfl:n1=i:=by omega
  rw [List.take_of_length_le (by omega),bX,bY] at f3
  have hcap:n1+n2+1<=aN (n1+n2+1):=by unfold aN; rw [if_neg (by unfold bm; omega)]; omega
  have rc:=yF mr.row (n:=n1+n2+1) (c:=n1+n2+1) mr.len.symm hcap
  refine (kU rc (by rw [mr.len]; omega)).mono ?_
  rintro _ h6 ⟨rfl,e6⟩
  subst e6
  have rt:=vJ rc mr.lt
  rw [f3] at rt
  refine ⟨_,_,_,rfl,(q6 rt hsz (t.ok (ok.trans mr.ok)) mr.ok.wf).mono ?_⟩
  rintro _ h7 ⟨rfl,ok7⟩
  exact yW (K:=fun v=>v=jw (X*Y)/\Ok h h7) (ur _) ⟨rfl,(ok.trans mr.ok).trans ok7⟩
end Go.Proofs.YtoabjjimjldcfaaGreatDoor
end
section
set_option linter.unusedVariables false
set_option maxRecDepth 100000
namespace Go.Proofs.YtoabjjimjldcfaaGreatDoor
open Go Go.Ab
def Cy:Blk:= .cells [.bool false,aa [],aa []] 122 0 true
theorem Rg:bi SS.P 122=some (Cy,kw):=by kernel_rfl
theorem WI (neg:Bool)(n d:List UInt8):bE SS.P 122 [(0,(.bool neg)),(1,(aa n)),(2,(aa d))]=some (.agg ⟨[.bool neg,aa n,aa d]⟩):=by kernel_rfl
theorem lG:bE SS.P 122 []=some (.agg ⟨[.bool false,aa [],aa []]⟩):=by kernel_rfl
theorem Od:aq SS.P 122=some 3:=by kernel_rfl
theorem WN:Go.Ab.isAgg SS.P 122=true:=by kernel_rfl
noncomputable def VE:TypeDesc:=(SS.P.underlying 122).getD .bool
theorem Xf:SS.P.underlying 122=some VE:=by kernel_rfl
theorem TX {h:Heap}{k:Nat}{cs0:List Value}(hl:cs0.length=3)(hk:h.get k=some (.cells cs0 122 0 true))(b:Bool)(n d:List UInt8):al SS.P 122 (.pointer (some ⟨k,0,none⟩)) (.agg ⟨[.bool b,aa n,aa d]⟩) h=some (undef,.set k (.cells [.bool b,aa n,aa d] 122 0 true)):=by
 unfold al
 dsimp only
 rw [if_pos (show aq SS.P 122=some ((Value.agg ⟨[.bool b,aa n,aa d]⟩).cells).size from Od)]
 unfold storeAt
 rw [hk]; dsimp only
 have hs:([.bool b,aa n,aa d]:List Value).all bL=true:=rfl
 rw [show (Value.agg ⟨[.bool b,aa n,aa d]⟩).cells.toList=[.bool b,aa n,aa d] from rfl,if_pos ⟨by simp [hl],hs⟩,List.drop_eq_nil_of_le (by simp [hl])]
 rfl
theorem Wj {h:Heap}{k:Nat}{b:Bool}{n d:List UInt8}(hk:h.get k=some (.cells [.bool b,aa n,aa d] 122 0 true)):ah SS.P 122 h (.pointer (some ⟨k,0,none⟩))=some (.agg ⟨[.bool b,aa n,aa d]⟩):=CT Xf WN Od hk (by simp)
theorem jm (l:List UInt8)(h:Heap):FW SS 118 [aa l,.int .i64 0] h (fun v h'=>v=aa l/\h'=h):=
 JR l 0 h _ (ae (fun g=>by cases g) (fun _=>⟨rfl,rfl⟩))
theorem Jt (s:Bool)(A:Nat)(t:Bool)(B:Nat)(hA:A < 10 ^ 800)(hB:B < 10 ^ 800){h:Heap}(tb:Tab h)(w:Wf h):FW SS 117 [.bool s,aa (Num.toDec A),.bool t,aa (Num.toDec B)] h (fun v h'=>v=xw s A t B/\Ok h h'):=by
 refine Jo s _ t _ h _ (ae (fun g=> ?_) (fun g=> ?_))
 ·have g:s=t:=by simpa using g
  refine (LD _ _ tb w).mono ?_
  rintro _ h1 ⟨rfl,o1⟩
  rw [Gt hA hB]
  refine ⟨_,_,rfl,(jm _ _).mono ?_⟩
  rintro _ _ ⟨rfl,rfl⟩
  refine ⟨_,rfl,?_,o1⟩
  unfold xw Num.plusS; rw [if_pos g]
 ·have g: ¬ s=t:=by simpa using g
  refine (N0 _ _ tb w).mono ?_
  rintro _ h1 ⟨rfl,o1⟩
  rw [GS hA hB]
  refine ⟨_,rfl,ae (fun g1=> ?_) (fun g1=> ?_)⟩
  ·have g1:=dT g1
   have g2:A < B:=cmpN_lt0.1 (by omega)
   refine (CY _ _ (tb.ok o1) o1.wf).mono ?_
   rintro _ h2 ⟨rfl,o2⟩
   rw [sE hB hA (Nat.le_of_lt g2)]
   refine ⟨_,_,rfl,(jm _ _).mono ?_⟩
   rintro _ _ ⟨rfl,rfl⟩
   refine ⟨_,rfl,?_,o1.trans o2⟩
   unfold xw Num.plusS; rw [if_neg g,if_pos g2]
  ·have g1:=dF g1
   have g2: ¬ A < B:=fun c=>by have:=cmpN_lt0.2 c; omega
   refine (CY _ _ (tb.ok o1) o1.wf).mono ?_
   rintro _ h2 ⟨rfl,o2⟩
   rw [sE hA hB (Nat.not_lt.1 g2)]
   refine ⟨_,_,rfl,(jm _ _).mono ?_⟩
   rintro _ _ ⟨rfl,rfl⟩
   refine ⟨_,rfl,?_,o1.trans o2⟩
   unfold xw Num.plusS; rw [if_neg g,if_neg g2]
def Mc (b:Bool)(n d:List UInt8):Value:= .agg ⟨[.bool b,aa n,aa d]⟩
def rE (l:List UInt8):Value:=if Num.isRat l=true then .tuple ⟨[Mc (Num.isNeg l) (Num.numOf l) (Num.denOf l),.bool true]⟩ else .tuple ⟨[Mc false [] [],.bool false]⟩
def qa (b:Bool)(n d:List UInt8):Value:= .tuple ⟨[Mc b n d,.bool true]⟩
def pB:Value:= .tuple ⟨[Mc false [] [],.bool false]⟩
structure NBox (h0:Heap)(k:Nat)(g:Heap):Prop where
 row: ∃ cs0:List Value,cs0.length=3/\g.get k=some (.cells cs0 122 0 true)
 new:h0.next<=k
 ok:Ok h0 g
theorem NBox.trans {h0:Heap}{k:Nat}{g g':Heap}(m:NBox h0 k g)(o:Ok g g'):NBox h0 k g':=by
 obtain ⟨⟨cs,h1,h2⟩,h3,h4⟩:=m
 exact ⟨⟨cs,h1,o.ext _ _ h2⟩,h3,h4.trans o⟩
theorem Iy {h0:Heap}(w:Wf h0){k:Nat}{g:Heap}(m:NBox h0 k g)(b:Bool)(n d:List UInt8)(okb:Bool){Q:VH}(hq: ∀ g',Ok h0 g'->Q (.tuple ⟨[Mc b n d,.bool okb]⟩) g'):
  ∃ u:Upd,al SS.P 122 (.pointer (some ⟨k,0,none⟩)) (.agg ⟨[.bool b,aa n,aa d]⟩) g=some (undef,u)/\ko SS [(.pointer (some ⟨k,0,none⟩),some 122),(.bool okb,none)] (u.app g) Q:=by
 obtain ⟨⟨cs,hl,hk⟩,h4,h5⟩:=m
 refine ⟨_,TX hl hk b n d,?_⟩
 have o:Ok h0 ((Upd.set k (.cells [.bool b,aa n,aa d] 122 0 true)).app g):=h5.set _ h4 (h5.wf _ _ hk) w
 have hg:((Upd.set k (.cells [.bool b,aa n,aa d] 122 0 true)).app g).get k=some (.cells [.bool b,aa n,aa d] 122 0 true):=by
  show (g.set k _).get k=_
  rw [Heap.get_set,if_pos rfl]
 refine GG (v:=Mc b n d) (Wj hg) ?_
 exact hq _ o
def TK (n d:List UInt8)(neg fnd:Bool):Prop:=Num.valid n=true/\Num.valid d=true/\n.length<=400/\d.length<=400/\ ¬ (neg=true/\n=[48])/\ ¬ (fnd=true/\(d=[48]\/d=[49]))/\Nat.gcd (Num.val n) (Num.val d)=1
theorem gZ {h0:Heap}(w:Wf h0){k:Nat}{g:Heap}(m:NBox h0 k g){C:Prop}(hc: ¬ C){G:Value}:
  ∃ u:Upd,al SS.P 122 (.pointer (some ⟨k,0,none⟩)) (.agg ⟨[.bool false,aa [],aa []]⟩) g=some (undef,u)/\ko SS [(.pointer (some ⟨k,0,none⟩),some 122),(.bool false,none)] (u.app g) (jT h0 C G pB):=
 Iy w m false [] [] false (fun _ o=>ee o hc)
theorem KT (n d:List UInt8)(neg fnd:Bool)(k:Nat){h0 g:Heap}(w:Wf h0)(m:NBox h0 k g)(tb:Tab g){x0 x1 x3 x4 x9 x10 x11 x12 x13 x14 x15 x16 x17 x18 x19 x20 x21 x22 x23 x24 x25 x26 x27 x28 x29 x30 x31 x32 x33 x34 x35 x36 x37 x38 x39 x40 x41 x42 x43 x44 x45 x46 x47 x48 x49 x50 x51 x52 x53 x54 x55 x56 x57 x58 x59 x60 x61 x62 x63 x64 x65 x66 x67 x68 x69 x70 x71 x72 x73 x74 x75 x76:Value}:
  wpS SS Tryz.f121.ntmps a0 (aP [1,1,1,1] au) [x0,x1,.pointer (some ⟨k,0,none⟩),x3,x4,.bool neg,aa n,aa d,.bool fnd,x9,x10,x11,x12,x13,x14,x15,x16,x17,x18,x19,x20,x21,x22,x23,x24,x25,x26,x27,x28,x29,x30,x31,x32,x33,x34,x35,x36,x37,x38,x39,x40,x41,x42,x43,x44,x45,x46,x47,x48,x49,x50,x51,x52,x53,x54,x55,x56,x57,x58,x59,x60,x61,x62,x63,x64,x65,x66,x67,x68,x69,x70,x71,x72,x73,x74,x75,x76] g (bg (jT h0 (TK n d neg fnd) (qa neg n d) pB)):=by
 refine AZ ((bJ n g).mono ?_)
 rintro _ g0 ⟨rfl,e0⟩
 obtain rfl:g=g0:=e0.symm
 refine ⟨_,rfl,ae (fun g1=>⟨_,lG,gZ w m (fun c=> ?_)⟩) (fun g1=> ?_)⟩
 ·rw [c.1] at g1; cases g1
 have g1:Num.valid n=true:=by simpa using g1
 refine (bJ d g).mono ?_
 rintro _ g0 ⟨rfl,e0⟩
 obtain rfl:g=g0:=e0.symm
 refine ⟨_,rfl,ae (fun g2=>⟨_,lG,gZ w m (fun c=> ?_)⟩) (fun g2=> ?_)⟩
 ·rw [c.2.1] at g2; cases g2
 have g2:Num.valid d=true:=by simpa using g2
 refine ae (fun g3=>⟨_,lG,gZ w m (fun c=> ?_)⟩) (fun g3=> ?_)
 ·have:=c.2.2.1; have g3:=dT g3; omega
 have g3:n.length<=400:=by have g3:=dF g3; omega
 refine ae (fun g4=>⟨_,lG,gZ w m (fun c=> ?_)⟩) (fun g4=> ?_)
 ·have:=c.2.2.2.1; have g4:=dT g4; omega
 have g4:d.length<=400:=by have g4:=dF g4; omega
 have fin: ¬ (neg=true/\n=[48])-> ¬ (fnd=true/\(d=[48]\/d=[49]))-> ∀ {x0 x1 x3 x4 x9 x10 x11 x12 x13 x14 x15 x16 x17 x18 x19 x20 x21 x22 x23 x24 x25 x26 x27 x28 x29 x30 x31 x32 x33 x34 x35 x36 x37 x38 x39 x40 x41 x42 x43 x44 x45 x46 x47 x48 x49 x50 x51 x52 x53 x54 x55 x56 x57 x58 x59 x60 x61 x62 x63 x64 x65 x66 x67 x68 x69 x70 x71 x72 x73 x74 x75 x76:Value},wpS SS Tryz.f121.ntmps a0 (aP [1,1,1,1,1,1] au) [x0,x1,.pointer (some ⟨k,0,none⟩),x3,x4,.bool neg,aa n,aa d,.bool fnd,x9,x10,x11,x12,x13,x14,x15,x16,x17,x18,x19,x20,x21,x22,x23,x24,x25,x26,x27,x28,x29,x30,x31,x32,x33,x34,x35,x36,x37,x38,x39,x40,x41,x42,x43,x44,x45,x46,x47,x48,x49,x50,x51,x52,x53,x54,x55,x56,x57,x58,x59,x60,x61,x62,x63,x64,x65,x66,x67,x68,x69,x70,x71,x72,x73,x74,x75,x76] g (bg (jT h0 (TK n d neg fnd) (qa neg n d) pB)):=by
  intro c5 c6
  intros
  refine AI ((Nb n d tb m.ok.wf).mono ?_)
  rintro _ h1 ⟨rfl,o1⟩
  have m1:=m.trans o1
  rw [Hp g1 g2]
  refine ⟨_,_,rfl,ae (fun e=>by cases e) (fun _=> ?_)⟩
  refine ae (fun e=>⟨_,lG,gZ w m1 (fun c=> ?_)⟩) (fun e=> ?_)
  ·have e: ¬ Num.toDec (Nat.gcd (Num.val n) (Num.val d))=[49]:=by simpa using e
   exact e (Num.toDec_eq_one.2 c.2.2.2.2.2.2)
  ·have e:Num.toDec (Nat.gcd (Num.val n) (Num.val d))=[49]:=by simpa using e
   refine zC ⟨_,WI neg n d,Iy w m1 neg n d true (fun _ o=>r9 o ?_)⟩
   exact ⟨g1,g2,g3,g4,c5,c6,Num.toDec_eq_one.1 e⟩
 refine AC (ae (fun g5=>ae (fun g6=>⟨_,lG,gZ w m (fun c=> ?_)⟩) (fun g6=> ?_)) (fun g5=> ?_))
 ·exact c.2.2.2.2.1 ⟨g5,by simpa using g6⟩
 ·have c5: ¬ (neg=true/\n=[48]):=fun c=>by
   have: ¬ n=[48]:=by simpa using g6
   exact this c.2
  refine ae (fun g7=>ae (fun g8=>⟨_,lG,gZ w m (fun c=> ?_)⟩) (fun g8=>ae (fun g9=>⟨_,lG,gZ w m (fun c=> ?_)⟩) (fun g9=> ?_))) (fun g7=> ?_)
  ·exact c.2.2.2.2.2.1 ⟨g7,.inl (by simpa using g8)⟩
  ·exact c.2.2.2.2.2.1 ⟨g7,.inr (by simpa using g9)⟩
  ·refine fin c5 (fun c=> ?_)
   have g8: ¬ d=[48]:=by simpa using g8
   have g9: ¬ d=[49]:=by simpa using g9
   exact c.2.elim g8 g9
  ·exact fin c5 (fun c=>by rw [c.1] at g7; cases g7)
 ·have c5: ¬ (neg=true/\n=[48]):=fun c=>by rw [c.1] at g5; cases g5
  refine ae (fun g7=>ae (fun g8=>⟨_,lG,gZ w m (fun c=> ?_)⟩) (fun g8=>ae (fun g9=>⟨_,lG,gZ w m (fun c=> ?_)⟩) (fun g9=> ?_))) (fun g7=> ?_)
  ·exact c.2.2.2.2.2.1 ⟨g7,.inl (by simpa using g8)⟩
  ·exact c.2.2.2.2.2.1 ⟨g7,.inr (by simpa using g9)⟩
  ·refine fin c5 (fun c=> ?_)
   have g8: ¬ d=[48]:=by simpa using g8
   have g9: ¬ d=[49]:=by simpa using g9
   exact c.2.elim g8 g9
  ·exact fin c5 (fun c=>by rw [c.1] at g7; cases g7)
theorem Ei {h:Heap}{l:List UInt8}{v:Value}{h':Heap}(q:jT h (TK (Num.numOf l) (Num.denOf l) (Num.isNeg l) (Num.hasStroke l)) (qa (Num.isNeg l) (Num.numOf l) (Num.denOf l)) pB v h'):v=rE l/\Ok h h':=by
 obtain ⟨o,q1,q2⟩:=q
 refine ⟨?_,o⟩
 unfold rE
 by_cases g:Num.isRat l=true
 ·rw [if_pos g]
  have r:=Num.isRat_iff.1 g
  exact q1 ⟨r.num,r.den,r.ln,r.ld,r.neg,r.fr,r.one⟩
 ·rw [if_neg g]
  exact q2 fun c=>g (Num.isRat_iff.2 ⟨c.1,c.2.1,c.2.2.1,c.2.2.2.1,c.2.2.2.2.1,c.2.2.2.2.2.1,c.2.2.2.2.2.2⟩)
theorem pF (l:List UInt8)(hl:l.length<=1000000000){h:Heap}(tb:Tab h)(w:Wf h):FW SS 121 [aa l] h (fun v h'=>v=rE l/\Ok h h'):=by
 refine FW.mono (Q:=jT h (TK (Num.numOf l) (Num.denOf l) (Num.isNeg l) (Num.hasStroke l)) (qa (Num.isNeg l) (Num.numOf l) (Num.denOf l)) pB) ?_ (fun _ _ q=>Ei q)
 have m0:NBox h h.next (h.push Cy):=⟨⟨_,rfl,by rw [Heap.get_push,if_pos rfl]; rfl⟩,Nat.le_refl _,(Ok.refl w).push _⟩
 refine Hb l h _ ⟨_,Rg,(NA l _).mono ?_⟩
 rintro _ g0 ⟨rfl,rfl⟩
 have hm:(Num.afterNeg l).length<=1000000000:=by
  unfold Num.afterNeg; split
  ·rw [List.length_drop]; omega
  ·exact hl
 refine ⟨_,_,rfl,(Uv _ hm m0.ok.wf).mono ?_⟩
 rintro _ g1 ⟨rfl,o1⟩
 have m1:=m0.trans o1
 have t1:=tb.ok m1.ok
 unfold Nt
 by_cases hs:Num.idxB 47 (Num.afterNeg l) < (Num.afterNeg l).length
 ·rw [if_pos hs]
  have hst:Num.hasStroke l=true:=decide_eq_true hs
  have e2:Num.denOf l=(Num.afterNeg l).drop (Num.idxB 47 (Num.afterNeg l)+1):=by unfold Num.denOf; rw [if_pos hst]
  rw [hst]
  refine ⟨_,_,_,rfl,ae (fun e=>by cases e) (fun _=> ?_)⟩
  rw [<-e2]
  exact KT _ _ _ true _ w m1 t1
 ·rw [if_neg hs]
  have hst:Num.hasStroke l=false:=decide_eq_false hs
  have e2:Num.denOf l=[49]:=by unfold Num.denOf; rw [hst]; rfl
  have e1:Num.numOf l=Num.afterNeg l:=by unfold Num.numOf; rw [List.take_of_length_le (by omega)]
  rw [hst,e1,e2]
  refine ⟨_,_,_,rfl,ae (fun _=> ?_) (fun e=>by cases e)⟩
  exact KT _ _ _ false _ w m1 t1
theorem Jg (l:List UInt8): ∃ (cs:List Value)(b:Bool),rE l = .tuple ⟨[.agg ⟨cs⟩,.bool b]⟩/\b=Num.isRat l:=by
 unfold rE
 cases g:Num.isRat l with
 | true=>exact ⟨_,_,rfl,rfl⟩
 | false=>exact ⟨_,_,rfl,rfl⟩
theorem wP (l:List UInt8)(hl:l.length<=1000000000){h:Heap}(tb:Tab h)(w:Wf h):FW SS 97 [aa l] h (fun v h'=>v = .bool (Num.isRat l)/\Ok h h'):=by
 refine H1 l h _ ((pF l hl tb w).mono ?_)
 rintro _ h1 ⟨rfl,o1⟩
 obtain ⟨cs,b,e,e2⟩:=Jg l
 exact ⟨cs,b,e,by rw [e2],o1⟩
theorem Ku (k:Nat):ag SS.P 122 (.pointer (some ⟨k,0,none⟩)) 0=some (.pointer (some ⟨k,0,none⟩)):=by kernel_rfl
theorem La (k:Nat):ag SS.P 122 (.pointer (some ⟨k,0,none⟩)) 1=some (.pointer (some ⟨k,1,none⟩)):=by kernel_rfl
theorem K8 (k:Nat):ag SS.P 122 (.pointer (some ⟨k,0,none⟩)) 2=some (.pointer (some ⟨k,2,none⟩)):=by kernel_rfl
theorem Yp:SS.P.underlying 4=some .bool:=Tryz.underlying4
theorem YA:Go.Ab.isAgg SS.P 4=false:=by kernel_rfl
theorem Vt:Go.Ab.isAgg SS.P 9=false:=by kernel_rfl
def HasNum (g:Heap)(k:Nat)(b:Bool)(n d:List UInt8):Prop:=g.get k=some (.cells [.bool b,aa n,aa d] 122 0 true)
theorem HasNum.ok {g g':Heap}{k:Nat}{b:Bool}{n d:List UInt8}(x:HasNum g k b n d)(o:Ok g g'):HasNum g' k b n d:=o.ext _ _ x
theorem HasNum.l0 {g:Heap}{k:Nat}{b:Bool}{n d:List UInt8}(x:HasNum g k b n d):ah SS.P 4 g (.pointer (some ⟨k,0,none⟩))=some (.bool b):=eC Yp YA x (by simp)
theorem HasNum.l1 {g:Heap}{k:Nat}{b:Bool}{n d:List UInt8}(x:HasNum g k b n d):ah SS.P 9 g (.pointer (some ⟨k,1,none⟩))=some (aa n):=eC Ri Vt x (by simp)
theorem HasNum.l2 {g:Heap}{k:Nat}{b:Bool}{n d:List UInt8}(x:HasNum g k b n d):ah SS.P 9 g (.pointer (some ⟨k,2,none⟩))=some (aa d):=eC Ri Vt x (by simp)
theorem Oo {h:Heap}(w:Wf h)(b:Bool)(n d:List UInt8): ∃ u:Upd,al SS.P 122 (.pointer (some ⟨h.next,0,none⟩)) (.agg ⟨[.bool b,aa n,aa d]⟩) (h.push Cy)=some (undef,u)/\Ok h (u.app (h.push Cy))/\HasNum (u.app (h.push Cy)) h.next b n d:=by
 have hk:(h.push Cy).get h.next=some Cy:=by rw [Heap.get_push,if_pos rfl]
 refine ⟨_,TX (cs0:=[.bool false,aa [],aa []]) rfl hk b n d,?_,?_⟩
 ·exact ((Ok.refl w).push _).set _ (Nat.le_refl _) (Nat.lt_succ_self _) w
 ·show ((h.push Cy).set h.next _).get h.next=_
  rw [Heap.get_set,if_pos rfl]
theorem Dl (l:List UInt8): ∃ (b:Bool)(n d:List UInt8),rE l = .tuple ⟨[.agg ⟨[.bool b,aa n,aa d]⟩,.bool (Num.isRat l)]⟩/\(Num.isRat l=true->b=Num.isNeg l/\n=Num.numOf l/\d=Num.denOf l):=by
 unfold rE
 cases g:Num.isRat l with
 | true=>exact ⟨_,_,_,rfl,fun _=>⟨rfl,rfl,rfl⟩⟩
 | false=>exact ⟨_,_,_,rfl,fun e=>by cases e⟩
theorem wy (b:Bool):cM 4 (.bool b) (.bool b)=true:=by simp [cM]
theorem Lk (l:List UInt8):cM 4 (aa l) (aa l)=true:=by simp [cM,aa]
theorem Mm (l m:List UInt8)(hl:l.length<=1000000000)(hm:m.length<=1000000000){h:Heap}(tb:Tab h)(w:Wf h):FW SS 125 [aa l,aa m] h (fun v h'=>v = .int .i64 (Num.cmpRat l m)/\Ok h h'):=by
 refine Mz l m h _ ((pF l hl tb w).mono ?_)
 rintro _ h1 ⟨rfl,o1⟩
 obtain ⟨b,n,d,e1,f1⟩:=Dl l
 obtain ⟨u1,s1,s2,s3⟩:=Oo o1.wf b n d
 refine ⟨_,_,e1,_,Rg,u1,s1,?_⟩
 have ok1:=o1.trans s2
 generalize u1.app (h1.push Cy)=g1 at *
 refine (pF m hm (tb.ok ok1) ok1.wf).mono ?_
 rintro _ h2 ⟨rfl,o2⟩
 obtain ⟨b',n',d',e2,f2⟩:=Dl m
 obtain ⟨u2,r1,r2,r3⟩:=Oo o2.wf b' n' d'
 refine ⟨_,_,e2,_,Rg,u2,r1,?_⟩
 have ok2:=(ok1.trans o2).trans r2
 have x1:=(s3.ok o2).ok r2
 generalize u2.app (h2.push Cy)=g2 at *
 generalize h1.next=k1 at *
 generalize h2.next=k2 at *
 refine ae (fun q=>⟨?_,ok2⟩) (fun q=>ae (fun q2=>⟨?_,ok2⟩) (fun q2=> ?_))
 ·have q:Num.isRat l=false:=by simpa using q
  unfold Num.cmpRat; rw [if_neg (fun c=>by rw [c.1] at q; cases q)]
 ·have q2:Num.isRat m=false:=by simpa using q2
  unfold Num.cmpRat; rw [if_neg (fun c=>by rw [c.2] at q2; cases q2)]
 have q:Num.isRat l=true:=by simpa using q
 have q2:Num.isRat m=true:=by simpa using q2
 obtain ⟨rfl,rfl,rfl⟩:=f1 q
 obtain ⟨rfl,rfl,rfl⟩:=f2 q2
 have i1:=Num.isRat_iff.1 q
 have i2:=Num.isRat_iff.1 q2
 have or:Ok g2 (Go.Ab.room g2 27):=(Ok.refl ok2.wf).room 27
 refine ⟨_,Ku _,_,(x1.ok or).l0,_,La _,_,(x1.ok or).l1,_,K8 _,_,(r3.ok or).l2,?_⟩
 have okr:=ok2.trans or
 refine (D3 _ _ (tb.ok okr) okr.wf).mono ?_
 rintro _ h3 ⟨rfl,o3⟩
 rw [(ja i1.num i2.den i1.ln i2.ld).1]
 refine ⟨_,_,rfl,(jm _ _).mono ?_⟩
 rintro _ h3' ⟨rfl,eh⟩
 obtain rfl:h3=h3':=eh.symm
 have p3:=or.trans o3
 refine ⟨_,rfl,_,Ku _,_,(r3.ok p3).l0,_,La _,_,(r3.ok p3).l1,_,K8 _,_,(x1.ok p3).l2,?_⟩
 have ok3:=ok2.trans p3
 refine (D3 _ _ (tb.ok ok3) ok3.wf).mono ?_
 rintro _ h4 ⟨rfl,o4⟩
 rw [(ja i2.num i1.den i2.ln i1.ld).1]
 refine ⟨_,_,rfl,(jm _ _).mono ?_⟩
 rintro _ h4' ⟨rfl,eh⟩
 obtain rfl:h4=h4':=eh.symm
 have p4:=p3.trans o4
 have ok4:=ok2.trans p4
 refine ⟨_,rfl,(Jt _ _ _ _ (ja i1.num i2.den i1.ln i2.ld).2 (ja i2.num i1.den i2.ln i1.ld).2 (tb.ok ok4) ok4.wf).mono ?_⟩
 rintro _ h5 ⟨rfl,o5⟩
 have ok5:=ok4.trans o5
 refine ⟨_,_,rfl,⟨(x1.ok p3).l0,wy _⟩,⟨(x1.ok p3).l0,wy _⟩,⟨(x1.ok p4).l0,wy _⟩,⟨(x1.ok p4).l0,wy _⟩,⟨(r3.ok or).l0,wy _⟩,⟨(r3.ok p3).l0,wy _⟩,⟨(r3.ok p4).l0,wy _⟩,⟨(r3.ok p4).l0,wy _⟩,⟨(r3.ok or).l1,Lk _⟩,⟨(r3.ok p3).l1,Lk _⟩,⟨(x1.ok or).l2,Lk _⟩,⟨(x1.ok p3).l2,Lk _⟩,?_⟩
 unfold Num.cmpRat
 rw [if_pos ⟨q,q2⟩]
 generalize Num.plusS _ _ _ _=z
 refine ae (fun g3=>⟨?_,ok5⟩) (fun g3=> ?_)
 ·have g3:Num.toDec z.2=[48]:=by simpa using g3
  rw [if_pos (Num.toDec_eq_zero.1 g3)]
 ·have g3: ¬ Num.toDec z.2=[48]:=by simpa using g3
  rw [if_neg (fun c=>g3 (Num.toDec_eq_zero.2 c))]
  refine ae (fun g4=>⟨?_,ok5⟩) (fun g4=>⟨?_,ok5⟩)
  ·rw [if_pos g4]
  ·rw [if_neg (by rw [g4]; simp)]
noncomputable def qO:Code:=(Tryz.f75.body).getD .skip
def I1:List Nat:=[]
abbrev Ko  (h:Heap) (Q:VH):Prop:=xN (bi SS.P 85) h fun B1 g2=>xA (bE SS.P 68 [(0,(aa [105,110,102])),(1,(aa [48])),(2,(.bool true)),(3,(.func (.func 94) ⟨[]⟩ ⟨[]⟩)),(4,(.func (.func 95) ⟨[]⟩ ⟨[]⟩)),(5,(.func (.func 96) ⟨[]⟩ ⟨[]⟩)),(6,(.func (.func 97) ⟨[]⟩ ⟨[]⟩)),(7,(.func (.func 97) ⟨[]⟩ ⟨[]⟩))]) fun c3=>xA (bE SS.P 68 [(0,(aa [48])),(1,(aa [49])),(2,(.bool false)),(3,(.func (.func 98) ⟨[]⟩ ⟨[]⟩)),(4,(.func (.func 99) ⟨[]⟩ ⟨[]⟩)),(5,(.func (.func 100) ⟨[]⟩ ⟨[]⟩)),(6,(.func (.func 101) ⟨[]⟩ ⟨[]⟩)),(7,(.func (.func 102) ⟨[]⟩ ⟨[]⟩))]) fun c4=>xA (bE SS.P 68 [(0,(aa [48])),(1,(aa [49])),(2,(.bool false)),(3,(.func (.func 94) ⟨[]⟩ ⟨[]⟩)),(4,(.func (.func 99) ⟨[]⟩ ⟨[]⟩)),(5,(.func (.func 103) ⟨[]⟩ ⟨[]⟩)),(6,(.func (.func 101) ⟨[]⟩ ⟨[]⟩)),(7,(.func (.func 102) ⟨[]⟩ ⟨[]⟩))]) fun c5=>xA (bE SS.P 85 [(1,(.agg ⟨c3⟩)),(2,(.agg ⟨c4⟩)),(3,(.agg ⟨c5⟩))]) fun c6=>xU (al SS.P 85 (pA (h.next)) (.agg ⟨c6⟩) g2) g2 fun u7 g8=>ko SS [((pA (h.next)),some 85)] g8 Q
theorem Gc  (h:Heap) (Q:VH) (hx:Ko  h Q):FW SS 75 [] h Q:=ax (M:=I1) (c:=qO) Tryz.func75 (show Tryz.f75.body=some qO by kernel_rfl) (by kernel_rfl) (ai hx (by kernel_rfl))
noncomputable def AM:Code:=(Tryz.f57.body).getD .skip
def S3:List Nat:=[]
abbrev SR (kind:Int)(h:Heap)(Q:VH):Prop:=xN (bi SS.P 68) h fun B1 g2=>aw (decide ((kind:Int) < 1)) (xA (bE SS.P 68 []) fun c3=>xU (al SS.P 68 (pA (h.next)) (.agg ⟨c3⟩) g2) g2 fun u4 g5=>ko SS [((pA (h.next)),some 68),((.bool false),none)] g5 Q) (aw (decide ((kind:Int) > 3)) (xA (bE SS.P 68 []) fun c6=>xU (al SS.P 68 (pA (h.next)) (.agg ⟨c6⟩) g2) g2 fun u7 g8=>ko SS [((pA (h.next)),some 68),((.bool false),none)] g8 Q) (FW SS 75 [] g2 fun v9 h10=>yA v9 fun c11=>xA (aQ SS.P 85 (.agg ⟨c11⟩) (.int .i64 kind)) fun c12=>xU (al SS.P 68 (pA (h.next)) (.agg ⟨c12⟩) h10) h10 fun u13 g14=>ko SS [((pA (h.next)),some 68),((.bool true),none)] g14 Q))
theorem N9 (kind:Int)(h:Heap)(Q:VH)(hx:SR kind h Q):FW SS 57 [(.int .i64 kind)] h Q:=ax (M:=S3) (c:=AM) Tryz.func57 (show Tryz.f57.body=some AM by kernel_rfl) (by kernel_rfl) (ai hx (by kernel_rfl))
noncomputable def mw:Code:=(Tryz.f102.body).getD .skip
def BX:List Nat:=[]
abbrev Cn (l:LB)(h:Heap)(Q:VH):Prop:=FW SS 97 [(aa l)] h fun v1 h2=>yB v1 fun b3=>aw b3 (FW SS 125 [(aa l),(aa [48])] h2 fun v4 h5=>yI .i64 v4 fun n6=>Q (.bool (decide ((n6:Int) > 0))) h5) (Q (.bool false) h2)
theorem zx (l:LB)(h:Heap)(Q:VH)(hx:Cn l h Q):FW SS 102 [(aa l)] h Q:=ax (M:=BX) (c:=mw) Tryz.func102 (show Tryz.f102.body=some mw by kernel_rfl) (by kernel_rfl) (ai hx (by kernel_rfl))
noncomputable def oT:Code:=(Tryz.f34.body).getD .skip
def Gs:List Nat:=[]
abbrev Hh (kind:Int)(l:LB)(h:Heap)(Q:VH):Prop:=FW SS 57 [(.int .i64 kind)] h fun v1 h2=> ∃ cs3:LV,∃ b4:Bool,v1=(.tuple ⟨[(.agg ⟨cs3⟩),(.bool b4)]⟩)/\xN (bi SS.P 68) h2 fun B5 g6=>xU (al SS.P 68 (pA (h2.next)) (.agg ⟨cs3⟩) g6) g6 fun u7 g8=>aw b4 (xP (ag SS.P 68 (pA (h2.next)) 7) fun p9=>xF (ah SS.P 66 g8 (.pointer (some p9))) fun g10 a11 c12=>aw (Nat.blt g10 YB) (FW SS g10 (a11++[(aa l)]++c12) g8 fun v13 h14=>yB v13 fun b15=>Q (.bool b15) h14) False) (Q (.bool false) g8)
theorem EK (kind:Int)(l:LB)(h:Heap)(Q:VH)(hx:Hh kind l h Q):FW SS 34 [(.int .i64 kind),(aa l)] h Q:=ax (M:=Gs) (c:=oT) Tryz.func34 (show Tryz.f34.body=some oT by kernel_rfl) (by kernel_rfl) (ai hx (by kernel_rfl))
noncomputable def q9:Code:=(Tryz.f36.body).getD .skip
def Jc:List Nat:=[]
abbrev J4 (kind:Int)(h:Heap)(Q:VH):Prop:=aw (decide ((kind:Int)>=1)) (Q (.bool (decide ((kind:Int)<=3))) h) (Q (.bool false) h)
theorem wZ (kind:Int)(h:Heap)(Q:VH)(hx:J4 kind h Q):FW SS 36 [(.int .i64 kind)] h Q:=ax (M:=Jc) (c:=q9) Tryz.func36 (show Tryz.f36.body=some q9 by kernel_rfl) (by kernel_rfl) (ai hx (by kernel_rfl))
noncomputable def oe:Code:=(Tryz.f58.body).getD .skip
def Hi:List Nat:=[]
abbrev If (kind:Int)(l:LB)(h:Heap)(Q:VH):Prop:=FW SS 36 [(.int .i64 kind)] h fun v1 h2=>yB v1 fun b3=>aw (!b3) (Q (.bool false) h2) (aw ((l:LB) == [105,110,102]) (aw ((l:LB) == [105,110,102]) (Q (.bool true) h2) (Q (.bool (((kind:Int) == 1))) h2)) (aw ((l:LB) == [45,105,110,102]) (aw ((l:LB) == [105,110,102]) (Q (.bool true) h2) (Q (.bool (((kind:Int) == 1))) h2)) (FW SS 76 [(aa l)] h2 fun v4 h5=>yB v4 fun b6=>aw b6 (aw (((kind:Int) == 1)) (Q (.bool true) h5) (FW SS 77 [(aa l),(aa [48])] h5 fun v7 h8=>yI .i64 v7 fun n9=>Q (.bool (decide ((n9:Int)>=0))) h8)) (Q (.bool false) h5))))
theorem FZ (kind:Int)(l:LB)(h:Heap)(Q:VH)(hx:If kind l h Q):FW SS 58 [(.int .i64 kind),(aa l)] h Q:=ax (M:=Hi) (c:=oe) Tryz.func58 (show Tryz.f58.body=some oe by kernel_rfl) (by kernel_rfl) (ai hx (by kernel_rfl))
noncomputable def nI:Code:=(Tryz.f37.body).getD .skip
def EV:List Nat:=[]
abbrev Es (kind:Int)(l:LB)(h:Heap)(Q:VH):Prop:=FW SS 58 [(.int .i64 kind),(aa l)] h fun v1 h2=>yB v1 fun b3=>aw b3 (aw (!((l:LB) == [105,110,102])) (aw (!((l:LB) == [45,105,110,102])) (aw (((kind:Int) == 1)) (Q (.bool true) h2) (Q (.bool (!((l:LB) == [48]))) h2)) (Q (.bool false) h2)) (Q (.bool false) h2)) (Q (.bool false) h2)
theorem Co (kind:Int)(l:LB)(h:Heap)(Q:VH)(hx:Es kind l h Q):FW SS 37 [(.int .i64 kind),(aa l)] h Q:=ax (M:=EV) (c:=nI) Tryz.func37 (show Tryz.f37.body=some nI by kernel_rfl) (by kernel_rfl) (ai hx (by kernel_rfl))
end Go.Proofs.YtoabjjimjldcfaaGreatDoor
end
section
namespace Go.Num
theorem isRat_inf:isRat [105,110,102]=false:=by rfl
theorem isRat_below:isRat [45,105,110,102]=false:=by rfl
theorem Kk:isRat [48]=true:=by decide
theorem cmpRat_zero {a:List UInt8}(h:isRat a=true):cmpRat a [48]=0↔a=[48]:=by
 constructor
 ·intro e
  unfold cmpRat at e
  rw [if_pos ⟨h,Kk⟩] at e
  have r:=isRat_iff.1 h
  have e1:val (denOf [48])=1:=by decide
  have e2:val (numOf [48])=0:=by decide
  rw [e1,e2,Nat.mul_one,Nat.zero_mul,show isNeg [48]=false from rfl,Bool.not_false] at e
  have hz:val (numOf a)=0:=by
   unfold plusS at e
   by_cases hn:isNeg a=true
   ·rw [if_pos hn] at e
    dsimp only at e
    rw [Nat.add_zero] at e
    by_cases h0:val (numOf a)=0
    ·exact h0
    ·rw [if_neg h0,if_pos hn] at e; exact absurd e (by decide)
   ·rw [if_neg hn,if_neg (Nat.not_lt_zero _)] at e
    dsimp only at e
    rw [Nat.sub_zero] at e
    by_cases h0:val (numOf a)=0
    ·exact h0
    ·rw [if_neg h0,if_neg hn] at e; exact absurd e (by decide)
  have hn:=(j2 r.num).2 hz
  have hneg:isNeg a=false:=by
   cases g:isNeg a with
   | false=>rfl
   | true=>exact absurd ⟨g,hn⟩ r.neg
  have hd:denOf a=[49]:=by
   refine (Dw r.den).2 ?_
   have:=r.one
   rw [hz,Nat.gcd_zero_left] at this
   exact this
  have hs:hasStroke a=false:=by
   cases g:hasStroke a with
   | false=>rfl
   | true=>exact absurd ⟨g,.inr hd⟩ r.fr
  have ha:afterNeg a=a:=by unfold afterNeg; rw [hneg]; rfl
  unfold numOf at hn
  unfold hasStroke at hs
  rw [ha] at hn hs
  rw [List.take_of_length_le (by have:=dF hs; omega)] at hn
  exact hn
 ·rintro rfl; decide
def weightOk (kind:Int)(a:List UInt8):Bool:=decide (1<=kind/\kind<=3) && isRat a && (kind == 1 || decide (0 < cmpRat a [48]))
end Go.Num
end
section
set_option linter.unusedVariables false
set_option maxRecDepth 100000
namespace Go.Proofs.YtoabjjimjldcfaaGreatDoor
open Go Go.Ab
theorem qo {P:Program}{t:TypeId}{n:Nat}(hs:aq P t=some n){h:Heap}{k:Nat}{cs0:List Value}(hl:cs0.length=n)(hk:h.get k=some (.cells cs0 t 0 true)){cs:List Value}(hc:cs.length=n)(hv:cs.all bL=true):al P t (.pointer (some ⟨k,0,none⟩)) (.agg ⟨cs⟩) h=some (undef,.set k (.cells cs t 0 true)):=by
 unfold al
 dsimp only
 have e1:(Value.agg ⟨cs⟩).cells.size=n:=by show cs.toArray.size=n; simpa using hc
 have e2:(Value.agg ⟨cs⟩).cells.toList=cs:=rfl
 rw [if_pos (by rw [e1,hs])]
 unfold storeAt
 rw [hk,e2]; dsimp only
 rw [if_pos ⟨by omega,hv⟩,List.drop_eq_nil_of_le (by omega)]
 simp
theorem sa {h0 h:Heap}(w:Wf h0)(o:Ok h0 h){k:Nat}{t:TypeId}{cs0 cs:List Value}(hk:h.get k=some (.cells cs0 t 0 true))(hn:h0.next<=k):Ok h0 ((Upd.set k (.cells cs t 0 true)).app h)/\((Upd.set k (.cells cs t 0 true)).app h).get k=some (.cells cs t 0 true):=by
 refine ⟨o.set _ hn (o.wf _ _ hk) w,?_⟩
 show (h.set k _).get k=_
 rw [Heap.get_set,if_pos rfl]
theorem aZ (h:Heap)(B:Blk):(h.push B).get h.next=some B:=by rw [Heap.get_push,if_pos rfl]
def BM (i:Nat):Value:= .func (.func i) ⟨[]⟩ ⟨[]⟩
def iK:List Value:=[aa [],aa [],.bool false,.nilFunc,.nilFunc,.nilFunc,.nilFunc,.nilFunc]
def zT:List Value:=[aa [105,110,102],aa [48],.bool true,BM 94,BM 95,BM 96,BM 97,BM 97]
def Am:List Value:=[aa [48],aa [49],.bool false,BM 98,BM 99,BM 100,BM 101,BM 102]
def BE:List Value:=[aa [48],aa [49],.bool false,BM 94,BM 99,BM 103,BM 101,BM 102]
def vu:List Value:=iK++zT++Am++BE
def XW:Blk:= .cells (iK++iK++iK++iK) 85 0 true
def Rz:Blk:= .cells iK 68 0 true
theorem Yk:bi SS.P 85=some (XW,kw):=by kernel_rfl
theorem VO:bi SS.P 68=some (Rz,kw):=by kernel_rfl
theorem TY:aq SS.P 85=some 32:=by kernel_rfl
theorem Lc:aq SS.P 68=some 8:=by kernel_rfl
theorem XZ:Go.Ab.isAgg SS.P 85=true:=by kernel_rfl
theorem YF:Go.Ab.isAgg SS.P 68=true:=by kernel_rfl
noncomputable def WE:TypeDesc:=(SS.P.underlying 85).getD .bool
theorem YG:SS.P.underlying 85=some WE:=by kernel_rfl
noncomputable def W2:TypeDesc:=(SS.P.underlying 68).getD .bool
theorem Ys:SS.P.underlying 68=some W2:=by kernel_rfl
noncomputable def WL:TypeDesc:=(SS.P.underlying 66).getD .bool
theorem X6:SS.P.underlying 66=some WL:=by kernel_rfl
theorem YU:Go.Ab.isAgg SS.P 66=false:=by kernel_rfl
theorem Uz:bE SS.P 68 [(0,(aa [105,110,102])),(1,(aa [48])),(2,(.bool true)),(3,(.func (.func 94) ⟨[]⟩ ⟨[]⟩)),(4,(.func (.func 95) ⟨[]⟩ ⟨[]⟩)),(5,(.func (.func 96) ⟨[]⟩ ⟨[]⟩)),(6,(.func (.func 97) ⟨[]⟩ ⟨[]⟩)),(7,(.func (.func 97) ⟨[]⟩ ⟨[]⟩))]=some (.agg ⟨zT⟩):=by kernel_rfl
theorem VB:bE SS.P 68 [(0,(aa [48])),(1,(aa [49])),(2,(.bool false)),(3,(.func (.func 98) ⟨[]⟩ ⟨[]⟩)),(4,(.func (.func 99) ⟨[]⟩ ⟨[]⟩)),(5,(.func (.func 100) ⟨[]⟩ ⟨[]⟩)),(6,(.func (.func 101) ⟨[]⟩ ⟨[]⟩)),(7,(.func (.func 102) ⟨[]⟩ ⟨[]⟩))]=some (.agg ⟨Am⟩):=by kernel_rfl
theorem VK:bE SS.P 68 [(0,(aa [48])),(1,(aa [49])),(2,(.bool false)),(3,(.func (.func 94) ⟨[]⟩ ⟨[]⟩)),(4,(.func (.func 99) ⟨[]⟩ ⟨[]⟩)),(5,(.func (.func 103) ⟨[]⟩ ⟨[]⟩)),(6,(.func (.func 101) ⟨[]⟩ ⟨[]⟩)),(7,(.func (.func 102) ⟨[]⟩ ⟨[]⟩))]=some (.agg ⟨BE⟩):=by kernel_rfl
theorem Rn:bE SS.P 68 []=some (.agg ⟨iK⟩):=by kernel_rfl
theorem Yc:bE SS.P 85 [(1,(.agg ⟨zT⟩)),(2,(.agg ⟨Am⟩)),(3,(.agg ⟨BE⟩))]=some (.agg ⟨vu⟩):=by kernel_rfl
theorem Iq {h:Heap}(w:Wf h):FW SS 75 [] h (fun v h'=>v = .agg ⟨vu⟩/\Ok h h'):=by
 have hk:(h.push XW).get h.next=some (.cells (iK++iK++iK++iK) 85 0 true):=aZ h XW
 refine Gc h _ ⟨_,Yk,_,Uz,_,VB,_,VK,_,Yc,_,qo TY (by rfl) hk (cs:=vu) (by rfl) (by rfl),?_⟩
 obtain ⟨o,g⟩:=sa (cs:=vu) w ((Ok.refl w).push XW) hk (Nat.le_refl _)
 refine PR (v:= .agg ⟨vu⟩) (CT YG XZ TY g (by simp [vu,iK,zT,Am,BE])) ?_
 exact ⟨rfl,o⟩
def Uk (kind:Int):Value:=if kind=1 then .tuple ⟨[.agg ⟨zT⟩,.bool true]⟩ else if kind=2 then .tuple ⟨[.agg ⟨Am⟩,.bool true]⟩ else if kind=3 then .tuple ⟨[.agg ⟨BE⟩,.bool true]⟩ else .tuple ⟨[.agg ⟨iK⟩,.bool false]⟩
theorem zJ {h0:Heap}(w:Wf h0){g:Heap}(o:Ok h0 g){k:Nat}{cs0:List Value}(hl:cs0.length=8)(hk:g.get k=some (.cells cs0 68 0 true))(hn:h0.next<=k){cs:List Value}(hc:cs.length=8)(hv:cs.all bL=true)(okb:Bool){Q:VH}(hq: ∀ g',Ok h0 g'->Q (.tuple ⟨[.agg ⟨cs⟩,.bool okb]⟩) g'):
  ∃ u:Upd,al SS.P 68 (.pointer (some ⟨k,0,none⟩)) (.agg ⟨cs⟩) g=some (undef,u)/\ko SS [(.pointer (some ⟨k,0,none⟩),some 68),(.bool okb,none)] (u.app g) Q:=by
 refine ⟨_,qo Lc hl hk hc hv,?_⟩
 obtain ⟨o,g⟩:=sa (cs:=cs) w o hk hn
 refine GG (v:= .agg ⟨cs⟩) (by rw [CT Ys YF Lc g (by omega),List.drop_zero,List.take_of_length_le (by omega)]) ?_
 exact hq _ o
theorem Oe (kind:Int){h:Heap}(w:Wf h):FW SS 57 [.int .i64 kind] h (fun v h'=>v=Uk kind/\Ok h h'):=by
 have o0:=(Ok.refl w).push Rz
 have k0:=aZ h Rz
 refine N9 kind h _ ⟨_,VO,ae (fun g=> ?_) (fun g=>ae (fun g2=> ?_) (fun g2=> ?_))⟩
 ·have g:=dT g
  refine ⟨_,Rn,zJ w o0 rfl k0 (Nat.le_refl _) rfl rfl false (fun _ o=>⟨?_,o⟩)⟩
  unfold Uk; rw [if_neg (by omega),if_neg (by omega),if_neg (by omega)]
 ·have g2:=dT g2
  refine ⟨_,Rn,zJ w o0 rfl k0 (Nat.le_refl _) rfl rfl false (fun _ o=>⟨?_,o⟩)⟩
  unfold Uk; rw [if_neg (by omega),if_neg (by omega),if_neg (by omega)]
 ·have g:=dF g
  have g2:=dF g2
  refine (Iq o0.wf).mono ?_
  rintro _ h1 ⟨rfl,o1⟩
  have k1:=o1.ext _ _ k0
  have ok:=o0.trans o1
  obtain rfl | rfl | rfl:kind=1\/kind=2\/kind=3:=by omega
  ·exact ⟨_,rfl,zT,by kernel_rfl,zJ w ok rfl k1 (Nat.le_refl _) rfl rfl true (fun _ o=>⟨rfl,o⟩)⟩
  ·exact ⟨_,rfl,Am,by kernel_rfl,zJ w ok rfl k1 (Nat.le_refl _) rfl rfl true (fun _ o=>⟨rfl,o⟩)⟩
  ·exact ⟨_,rfl,BE,by kernel_rfl,zJ w ok rfl k1 (Nat.le_refl _) rfl rfl true (fun _ o=>⟨rfl,o⟩)⟩
theorem oF (l:List UInt8)(hl:l.length<=1000000000){h:Heap}(tb:Tab h)(w:Wf h):FW SS 102 [aa l] h (fun v h'=>v = .bool (Num.isRat l && decide (0 < Num.cmpRat l [48]))/\Ok h h'):=by
 refine zx l h _ ((wP l hl tb w).mono ?_)
 rintro _ h1 ⟨rfl,o1⟩
 refine ⟨_,rfl,ae (fun g=> ?_) (fun g=> ?_)⟩
 ·refine (Mm l [48] hl (by simp) (tb.ok o1) o1.wf).mono ?_
  rintro _ h2 ⟨rfl,o2⟩
  refine ⟨_,rfl,?_,o1.trans o2⟩
  rw [g,Bool.true_and]
 ·refine ⟨?_,o1⟩
  rw [g,Bool.false_and]
theorem Xg {b:Bool}{A B:Prop}(hb:b=true)(a:A):aw b A B:=ae (fun _=>a) (fun e=>by rw [hb] at e; cases e)
theorem DW {f:Nat}{args:List Value}{h:Heap}{K:VH}(hf:Nat.blt f YB=true)(hx:FW SS f args h fun v h'=> ∃ b:Bool,v = .bool b/\K (.bool b) h'):aw (Nat.blt f YB) (FW SS f ([]++args++[]) h fun v h'=> ∃ b:Bool,v = .bool b/\K (.bool b) h') False:=
 Xg hf (by rw [List.nil_append,List.append_nil]; exact hx)
theorem m8 (kind:Int)(l:List UInt8)(hl:l.length<=1000000000){h:Heap}(tb:Tab h)(w:Wf h):FW SS 34 [.int .i64 kind,aa l] h (fun v h'=>v = .bool (Num.weightOk kind l)/\Ok h h'):=by
 refine EK kind l h _ ((Oe kind w).mono ?_)
 rintro _ h1 ⟨rfl,o1⟩
 have key: ∀ (cs:List Value)(f:Nat),cs.length=8->cs.all bL=true->cs.getD 7 undef=BM f->Nat.blt f YB=true->(∀ g,Ok h g->FW SS f [aa l] g (fun v h'=>v = .bool (Num.weightOk kind l)/\Ok g h'))->Uk kind = .tuple ⟨[.agg ⟨cs⟩,.bool true]⟩-> ∃ cs3:List Value,∃ b4:Bool,Uk kind=(.tuple ⟨[(.agg ⟨cs3⟩),(.bool b4)]⟩)/\ ∃ B5:Blk,bi SS.P 68=some (B5,kw)/\ ∃ u6:Upd,al SS.P 68 (.pointer (some ⟨h1.next,0,none⟩)) (.agg ⟨cs3⟩) (h1.push B5)=some (undef,u6)/\aw b4 (∃ p7:Addr,ag SS.P 68 (.pointer (some ⟨h1.next,0,none⟩)) 7=some (.pointer (some p7))/\ ∃ (g8:Nat)(a9 c10:List Value),ah SS.P 66 (u6.app (h1.push B5)) (.pointer (some p7))=some (.func (.func g8) ⟨a9⟩ ⟨c10⟩)/\aw (Nat.blt g8 YB) (FW SS g8 (a9++[(aa l)]++c10) (u6.app (h1.push B5)) fun v11 h12=> ∃ b13:Bool,v11=(.bool b13)/\(Value.bool b13 = .bool (Num.weightOk kind l)/\Ok h h12)) False) (Value.bool false = .bool (Num.weightOk kind l)/\Ok h (u6.app (h1.push B5))):=by
  intro cs f hc hv hf hY hw e
  refine ⟨_,_,e,_,VO,_,qo Lc rfl (aZ h1 Rz) hc hv,ae (fun _=> ?_) (fun g=>by cases g)⟩
  obtain ⟨o,g⟩:=sa (cs:=cs) o1.wf ((Ok.refl o1.wf).push Rz) (aZ h1 Rz) (Nat.le_refl _)
  have hld:=eC X6 YU g (i:=7) (by omega)
  rw [hf] at hld
  refine ⟨⟨h1.next,7,none⟩,by kernel_rfl,f,[],[],hld,?_⟩
  refine DW (K:=fun v h12=>v = .bool (Num.weightOk kind l)/\Ok h h12) hY ((hw _ (o1.trans o)).mono ?_)
  rintro _ h2 ⟨rfl,o2⟩
  exact ⟨_,rfl,rfl,(o1.trans o).trans o2⟩
 by_cases g1:kind=1
 ·subst g1
  refine key zT 97 rfl rfl rfl (by decide +kernel) (fun g o=> ?_) rfl
  refine (wP l hl (tb.ok o) o.wf).mono ?_
  rintro _ h2 ⟨rfl,o2⟩
  refine ⟨?_,o2⟩
  unfold Num.weightOk; simp
 by_cases g2:kind=2
 ·subst g2
  refine key Am 102 rfl rfl rfl (by decide +kernel) (fun g o=> ?_) rfl
  refine (oF l hl (tb.ok o) o.wf).mono ?_
  rintro _ h2 ⟨rfl,o2⟩
  refine ⟨?_,o2⟩
  unfold Num.weightOk; simp
 by_cases g3:kind=3
 ·subst g3
  refine key BE 102 rfl rfl rfl (by decide +kernel) (fun g o=> ?_) rfl
  refine (oF l hl (tb.ok o) o.wf).mono ?_
  rintro _ h2 ⟨rfl,o2⟩
  refine ⟨?_,o2⟩
  unfold Num.weightOk; simp
 ·have e:Uk kind = .tuple ⟨[.agg ⟨iK⟩,.bool false]⟩:=by unfold Uk; rw [if_neg g1,if_neg g2,if_neg g3]
  refine ⟨_,_,e,_,VO,_,qo Lc rfl (aZ h1 Rz) (cs:=iK) rfl rfl,ae (fun g=>by cases g) (fun _=> ?_)⟩
  obtain ⟨o,g⟩:=sa (cs:=iK) o1.wf ((Ok.refl o1.wf).push Rz) (aZ h1 Rz) (Nat.le_refl _)
  refine ⟨?_,o1.trans o⟩
  unfold Num.weightOk
  rw [decide_eq_false (by omega)]; rfl
theorem Fq (kind:Int)(l:List UInt8)(hl:l.length<=1000000000){h:Heap}(w:Wf h):FW SS 58 [.int .i64 kind,aa l] h (fun v h'=>v = .bool (decide (1<=kind/\kind<=3) && (l == [105,110,102] || l == [45,105,110,102] && kind == 1 || Num.isRat l && (kind == 1 || decide (0<=Num.cmpRat l [48]))))/\Ok h h'):=by
 have hk:FW SS 36 [.int .i64 kind] h (fun v h'=>v = .bool (decide (1<=kind/\kind<=3))/\h'=h):=by
  refine wZ kind h _ (ae (fun g=>⟨?_,rfl⟩) (fun g=>⟨?_,rfl⟩))
  ·have g:=dT g
   congr 1; exact decide_eq_decide.2 ⟨fun c=>⟨g,c⟩,fun c=>c.2⟩
  ·have g:=dF g
   rw [decide_eq_false (by omega)]
 refine FZ kind l h _ (hk.mono ?_)
 rintro _ g0 ⟨rfl,e0⟩
 obtain rfl:h=g0:=e0.symm
 refine ⟨_,rfl,ae (fun g=>⟨?_,Ok.refl w⟩) (fun g=> ?_)⟩
 ·rw [Bool.not_eq_true'] at g; rw [g]; rfl
 rw [Bool.not_eq_false'] at g
 rw [g,Bool.true_and]
 refine ae (fun g1=>ae (fun _=>⟨?_,Ok.refl w⟩) (fun g2=>by rw [g1] at g2; cases g2)) (fun g1=>ae (fun g2=>ae (fun g3=>by rw [g1] at g3; cases g3) (fun _=>⟨?_,Ok.refl w⟩)) (fun g2=> ?_))
 ·rw [g1]; rfl
 ·rw [g1,g2]
  rw [show l=[45,105,110,102] by simpa using g2,Num.isRat_below]; simp
 ·rw [g1,g2]
  refine (FT l hl w).mono ?_
  rintro _ h1 ⟨rfl,o1⟩
  refine ⟨_,rfl,ae (fun g3=>ae (fun g4=>⟨?_,o1⟩) (fun g4=> ?_)) (fun g3=>⟨?_,o1⟩)⟩
  ·rw [g3,g4]; rfl
  ·refine (IY l [48] hl (by simp) o1.wf).mono ?_
   rintro _ h2 ⟨rfl,o2⟩
   refine ⟨_,rfl,?_,o1.trans o2⟩
   rw [g3,g4]; simp
  ·rw [g3]; rfl
theorem lf (kind:Int)(l:List UInt8)(hl:l.length<=1000000000){h:Heap}(w:Wf h):FW SS 37 [.int .i64 kind,aa l] h (fun v h'=>v = .bool (Num.weightOk kind l)/\Ok h h'):=by
 refine Co kind l h _ ((Fq kind l hl w).mono ?_)
 rintro _ h1 ⟨rfl,o1⟩
 have e1:(l == [105,110,102])=true->Num.isRat l=false:=fun e=>by rw [show l=[105,110,102] by simpa using e]; exact Num.isRat_inf
 have e2:(l == [45,105,110,102])=true->Num.isRat l=false:=fun e=>by rw [show l=[45,105,110,102] by simpa using e]; exact Num.isRat_below
 unfold Num.weightOk
 generalize decide (1<=kind/\kind<=3)=K
 refine ⟨_,rfl,ae (fun g=> ?_) (fun g=>⟨?_,o1⟩)⟩
 ·refine ae (fun g1=>ae (fun g2=> ?_) (fun g2=>⟨?_,o1⟩)) (fun g1=>⟨?_,o1⟩)
  ·have g1:(l == [105,110,102])=false:=by simpa using g1
   have g2:(l == [45,105,110,102])=false:=by simpa using g2
   rw [g1,g2] at g
   simp only [Bool.false_or,Bool.false_and,Bool.and_eq_true] at g
   obtain ⟨q1,q2,q3⟩:=g
   rw [q1,q2]
   refine ae (fun g3=>⟨?_,o1⟩) (fun g3=>⟨?_,o1⟩)
   ·rw [g3]; rfl
   ·rw [g3] at q3 ⊢
    simp only [Bool.false_or,decide_eq_true_eq] at q3
    have:=Num.cmpRat_zero q2
    congr 1
    by_cases h0:l=[48]
    ·have h1:=this.2 h0
     rw [h1,h0]; rfl
    ·have h1: ¬ Num.cmpRat l [48]=0:=fun c=>h0 (this.1 c)
     rw [decide_eq_true (by omega:0 < Num.cmpRat l [48])]
     simpa using h0
  ·rw [e2 (by simpa using g2)]; simp
  ·rw [e1 (by simpa using g1)]; simp
 ·congr 1
  cases K with
  | false=>rfl
  | true=>
   rw [Bool.true_and] at g ⊢
   simp only [Bool.or_eq_false_iff,Bool.and_eq_false_iff] at g
   obtain ⟨⟨q1,q2⟩,q3⟩:=g
   rcases q3 with q3 | ⟨q3,q4⟩
   ·rw [q3]; rfl
   ·have q4:=dF q4
    rw [q3,decide_eq_false (by omega)]; simp
end Go.Proofs.YtoabjjimjldcfaaGreatDoor
end
section
namespace Go.Ab
open Go
def zy:Value:= .slice (some ⟨0,0,some 0⟩) 0 0
def RdN (h:Heap)(e:TypeId)(sz:Nat)(v:Value)(rs:List (List Value)):Prop:=
 (∀ r∈rs,r.length=sz)/\(((v = .slice none 0 0\/v=zy)/\rs=[])\/ ∃ k off cs e' z c wr,v = .slice (some ⟨k,off,none⟩) rs.length c/\h.get k=some (.cells cs e' z wr)/\off+rs.length*sz<=cs.length/\ ∀ (i:Nat)(r:List Value),rs[i]?=some r->(cs.drop (off+i*sz)).take sz=r)
theorem RdN.ok {h h':Heap}{e:TypeId}{sz:Nat}{v:Value}{rs:List (List Value)}(r:RdN h e sz v rs)(o:Ok h h'):RdN h' e sz v rs:=by
 obtain ⟨r1,r | ⟨k,off,cs,e',z,c,wr,h1,h2,h3,h4⟩⟩:=r
 ·exact ⟨r1,.inl r⟩
 ·exact ⟨r1,.inr ⟨k,off,cs,e',z,c,wr,h1,o.ext _ _ h2,h3,h4⟩⟩
theorem RdN.len {h:Heap}{e:TypeId}{sz:Nat}{a:Option Addr}{n c:Nat}{rs:List (List Value)}(r:RdN h e sz (.slice a n c) rs):n=rs.length:=by
 obtain ⟨_,⟨h1 | h1,rfl⟩ | ⟨k,off,cs,e',z,c,wr,h1,h2,h3,h4⟩⟩:=r
 ·injection h1
 ·unfold zy at h1; injection h1
 ·injection h1
theorem RdN.slc {h:Heap}{e:TypeId}{sz:Nat}{v:Value}{rs:List (List Value)}(r:RdN h e sz v rs): ∃ (a:Option Addr)(c:Nat),v = .slice a rs.length c:=by
 obtain ⟨_,⟨h1 | h1,rfl⟩ | ⟨k,off,cs,e',z,c,wr,h1,h2,h3,h4⟩⟩:=r
 ·exact ⟨_,_,h1⟩
 ·exact ⟨_,_,h1⟩
 ·exact ⟨_,_,h1⟩
theorem RdN.at_ {P:Program}{t e:TypeId}{d:TypeDesc}{sz:Nat}(hU:P.underlying t=some (.slice e))(hs:aq P e=some sz)(hd:P.underlying e=some d)(hg:isAgg P e=true){h:Heap}{v:Value}{rs:List (List Value)}(r:RdN h e sz v rs){ik:IntKind}{i:Int}(h0:0<=i)(h1:i < rs.length):
  ∃ (k o:Nat),af P t v (.int ik i)=some (.pointer (some ⟨k,o,none⟩))/\ah P e h (.pointer (some ⟨k,o,none⟩))=some (.agg ⟨rs.getD i.toNat []⟩)/\
   ∀ (t':TypeId)(d':TypeDesc)(j:Nat),P.underlying t'=some d'->isAgg P t'=false->j < sz->ah P t' h (.pointer (some ⟨k,o+j,none⟩))=some ((rs.getD i.toNat []).getD j undef):=by
 obtain ⟨hl,⟨_,rfl⟩ | ⟨b,off,cs,e',z,c,wr,rfl,h3,h4,h5⟩⟩:=r
 ·simp at h1; omega
 ·have hi:i.toNat < rs.length:=by omega
  have h6:rs[i.toNat]?=some (rs.getD i.toNat []):=by rw [gD,gE hi]; rfl
  have h7:=h5 _ _ h6
  have h9:(i.toNat+1)*sz<=rs.length*sz:=Nat.mul_le_mul_right _ hi
  rw [Nat.add_mul,Nat.one_mul] at h9
  obtain ⟨q,hq⟩: ∃ q,q=i.toNat*sz:=⟨_,rfl⟩
  rw [<-hq] at h7 h9
  refine ⟨b,off+q,?_,?_,fun t' d' j hU' ha' hj=> ?_⟩
  ·have:=Qg (P:=P) hU hs (k:=b) (off:=off) (n:=rs.length) (c:=c) (ik:=ik) h0 h1
   rw [this,hq]
  ·rw [CT hd hg hs h3 (by omega),h7]
  ·rw [eC hU' ha' h3 (by omega),<-h7,gD,gD,List.getElem?_take,if_pos hj,List.getElem?_drop]
end Go.Ab
end
section
set_option linter.unusedVariables false
set_option maxRecDepth 100000
namespace Go.Proofs.YtoabjjimjldcfaaGreatDoor
open Go Go.Ab
section
structure MArc where
 i:Int
 o:Int
 w:List UInt8
 t:Int
structure MSt where
 f:List UInt8
 arcs:List MArc
structure Mach where
 kind:Int
 start:Int
 lead:List UInt8
 states:List MSt
def lD (a:MArc):List Value:=[.int .i64 a.i,.int .i64 a.o,aa a.w,.int .i64 a.t]
def ArcRow (h:Heap)(v:Value)(l:List MArc):Prop:=RdN h 39 4 v (l.map lD)
def N3 (p:MSt×Value):List Value:=[aa p.1.f,p.2]
def StRow (h:Heap)(v:Value)(l:List MSt):Prop:= ∃ ps:List (MSt×Value),ps.map (·.1)=l/\RdN h 37 2 v (ps.map N3)/\(∀ p∈ps,ArcRow h p.2 p.1.arcs)/\v≠zy
theorem StRow.ok {h h':Heap}{v:Value}{l:List MSt}(r:StRow h v l)(o:Ok h h'):StRow h' v l:=by
 obtain ⟨ps,h1,h2,h3,h4⟩:=r
 exact ⟨ps,h1,h2.ok o,fun p hp=>RdN.ok (h3 p hp) o,h4⟩
theorem StRow.len {h:Heap}{a:Option Addr}{n c:Nat}{l:List MSt}(r:StRow h (.slice a n c) l):n=l.length:=by
 obtain ⟨ps,h1,h2,h3,_⟩:=r
 rw [h2.len,lM,<-h1,lM]
theorem Xw:SS.P.underlying 22=some (.slice 37):=by kernel_rfl
theorem UM:SS.P.underlying 35=some (.slice 39):=by kernel_rfl
theorem Ui:aq SS.P 37=some 2:=by kernel_rfl
theorem PW:aq SS.P 39=some 4:=by kernel_rfl
theorem WS:aq SS.P 24=some 4:=by kernel_rfl
theorem Yq:Go.Ab.isAgg SS.P 37=true:=by kernel_rfl
theorem XL:Go.Ab.isAgg SS.P 39=true:=by kernel_rfl
theorem Yl:Go.Ab.isAgg SS.P 24=true:=by kernel_rfl
theorem YL:Go.Ab.isAgg SS.P 22=false:=by kernel_rfl
theorem XJ:Go.Ab.isAgg SS.P 35=false:=by kernel_rfl
noncomputable def WU:TypeDesc:=(SS.P.underlying 37).getD .bool
theorem Yt:SS.P.underlying 37=some WU:=by kernel_rfl
noncomputable def Xb:TypeDesc:=(SS.P.underlying 39).getD .bool
theorem WK:SS.P.underlying 39=some Xb:=by kernel_rfl
noncomputable def Ww:TypeDesc:=(SS.P.underlying 24).getD .bool
theorem X3:SS.P.underlying 24=some Ww:=by kernel_rfl
theorem mR (k:Nat):ag SS.P 24 (.pointer (some ⟨k,0,none⟩)) 0=some (.pointer (some ⟨k,0,none⟩)):=by kernel_rfl
theorem nn (k:Nat):ag SS.P 24 (.pointer (some ⟨k,0,none⟩)) 1=some (.pointer (some ⟨k,1,none⟩)):=by kernel_rfl
theorem IZ (k:Nat):ag SS.P 24 (.pointer (some ⟨k,0,none⟩)) 2=some (.pointer (some ⟨k,2,none⟩)):=by kernel_rfl
theorem aS (k:Nat):ag SS.P 24 (.pointer (some ⟨k,0,none⟩)) 3=some (.pointer (some ⟨k,3,none⟩)):=by kernel_rfl
theorem rv (k o:Nat):ag SS.P 37 (.pointer (some ⟨k,o,none⟩)) 0=some (.pointer (some ⟨k,o+0,none⟩)):=by kernel_rfl
theorem bq (k o:Nat):ag SS.P 37 (.pointer (some ⟨k,o,none⟩)) 1=some (.pointer (some ⟨k,o+1,none⟩)):=by kernel_rfl
theorem it (k o:Nat):ag SS.P 39 (.pointer (some ⟨k,o,none⟩)) 0=some (.pointer (some ⟨k,o+0,none⟩)):=by kernel_rfl
theorem ny (k o:Nat):ag SS.P 39 (.pointer (some ⟨k,o,none⟩)) 1=some (.pointer (some ⟨k,o+1,none⟩)):=by kernel_rfl
theorem Kc (k o:Nat):ag SS.P 39 (.pointer (some ⟨k,o,none⟩)) 2=some (.pointer (some ⟨k,o+2,none⟩)):=by kernel_rfl
theorem mZ (k o:Nat):ag SS.P 39 (.pointer (some ⟨k,o,none⟩)) 3=some (.pointer (some ⟨k,o+3,none⟩)):=by kernel_rfl
structure MB (g:Heap)(k:Nat)(M:Mach)(a:Option Addr)(n c:Nat):Prop where
 box:g.get k=some (.cells [.int .i64 M.kind,.int .i64 M.start,aa M.lead,.slice a n c] 24 0 true)
 row:StRow g (.slice a n c) M.states
section
variable {g g':Heap} {k:Nat} {M:Mach} {a:Option Addr} {n c:Nat}
theorem MB.ok (m:MB g k M a n c)(o:Ok g g'):MB g' k M a n c:=⟨o.ext _ _ m.box,m.row.ok o⟩
theorem MB.l0 (m:MB g k M a n c):ah SS.P 3 g (.pointer (some ⟨k,0,none⟩))=some (.int .i64 M.kind):=eC KF Kv m.box (by simp)
theorem MB.l1 (m:MB g k M a n c):ah SS.P 3 g (.pointer (some ⟨k,1,none⟩))=some (.int .i64 M.start):=eC KF Kv m.box (by simp)
theorem MB.l2 (m:MB g k M a n c):ah SS.P 9 g (.pointer (some ⟨k,2,none⟩))=some (aa M.lead):=eC Ri Vt m.box (by simp)
theorem MB.l3 (m:MB g k M a n c):ah SS.P 22 g (.pointer (some ⟨k,3,none⟩))=some (.slice a n c):=eC Xw YL m.box (by simp)
theorem MB.all (m:MB g k M a n c):ah SS.P 24 g (.pointer (some ⟨k,0,none⟩))=some (.agg ⟨[.int .i64 M.kind,.int .i64 M.start,aa M.lead,.slice a n c]⟩):=CT X3 Yl WS m.box (by simp)
theorem MB.len (m:MB g k M a n c):n=M.states.length:=m.row.len
end
theorem StRow.at_ {g:Heap}{a:Option Addr}{n c:Nat}{l:List MSt}(r:StRow g (.slice a n c) l){i:Nat}{s:MSt}(hs:l[i]?=some s):
  ∃ (b o:Nat)(x:Option Addr)(y z:Nat),af SS.P 22 (.slice a n c) (.int .i64 (i:Int))=some (.pointer (some ⟨b,o,none⟩))/\ah SS.P 37 g (.pointer (some ⟨b,o,none⟩))=some (.agg ⟨[aa s.f,.slice x y z]⟩)/\
   ah SS.P 9 g (.pointer (some ⟨b,o+0,none⟩))=some (aa s.f)/\ah SS.P 35 g (.pointer (some ⟨b,o+1,none⟩))=some (.slice x y z)/\ArcRow g (.slice x y z) s.arcs:=by
 obtain ⟨ps,h1,h2,h3,_⟩:=r
 rw [<-h1,List.getElem?_map] at hs
 obtain ⟨p,hp,rfl⟩:=Option.map_eq_some_iff.1 hs
 have hi:=(List.getElem?_eq_some_iff.1 hp).1
 obtain ⟨b,o,e1,e2,e3⟩:=h2.at_ Xw Ui Yt Yq (ik:= .i64) (i:=(i:Int)) (by omega) (by rw [lM]; omega)
 have e4:(ps.map N3).getD (i:Int).toNat []=N3 p:=by
  rw [Int.toNat_natCast,gD,List.getElem?_map,hp]; rfl
 rw [e4] at e2 e3
 have ha:=h3 p (List.mem_of_getElem? hp)
 obtain ⟨x,z,hx⟩:=RdN.slc ha
 have e5:=e3 9 _ 0 Ri Vt (by omega)
 have e6:=e3 35 _ 1 UM XJ (by omega)
 unfold N3 at e2 e5 e6
 rw [hx] at e2 e6 ha
 exact ⟨b,o,x,_,z,e1,e2,e5,e6,ha⟩
theorem ArcRow.len {g:Heap}{x:Option Addr}{y z:Nat}{l:List MArc}(r:ArcRow g (.slice x y z) l):y=l.length:=by
 have:=RdN.len r; rwa [lM] at this
theorem ArcRow.ok {h h':Heap}{v:Value}{l:List MArc}(r:ArcRow h v l)(o:Ok h h'):ArcRow h' v l:=RdN.ok r o
theorem ArcRow.at_ {g:Heap}{x:Option Addr}{y z:Nat}{l:List MArc}(r:ArcRow g (.slice x y z) l){j:Nat}{q:MArc}(hs:l[j]?=some q):
  ∃ (b o:Nat),af SS.P 35 (.slice x y z) (.int .i64 (j:Int))=some (.pointer (some ⟨b,o,none⟩))/\ah SS.P 39 g (.pointer (some ⟨b,o,none⟩))=some (.agg ⟨lD q⟩)/\
   ah SS.P 3 g (.pointer (some ⟨b,o+0,none⟩))=some (.int .i64 q.i)/\ah SS.P 3 g (.pointer (some ⟨b,o+1,none⟩))=some (.int .i64 q.o)/\ah SS.P 9 g (.pointer (some ⟨b,o+2,none⟩))=some (aa q.w)/\ah SS.P 3 g (.pointer (some ⟨b,o+3,none⟩))=some (.int .i64 q.t):=by
 have hj:=(List.getElem?_eq_some_iff.1 hs).1
 obtain ⟨b,o,e1,e2,e3⟩:=RdN.at_ UM PW WK XL r (ik:= .i64) (i:=(j:Int)) (by omega) (by rw [lM]; omega)
 have e4:(l.map lD).getD (j:Int).toNat []=lD q:=by
  rw [Int.toNat_natCast,gD,List.getElem?_map,hs]; rfl
 rw [e4] at e2 e3
 exact ⟨b,o,e1,e2,e3 3 _ 0 KF Kv (by omega),e3 3 _ 1 KF Kv (by omega),e3 9 _ 2 Ri Vt (by omega),e3 3 _ 3 KF Kv (by omega)⟩
def SB (g:Heap)(k:Nat)(f:List UInt8)(x:Option Addr)(y z:Nat):Prop:=g.get k=some (.cells [aa f,.slice x y z] 37 0 true)
theorem SB.ok {g g':Heap}{k:Nat}{f:List UInt8}{x:Option Addr}{y z:Nat}(s:SB g k f x y z)(o:Ok g g'):SB g' k f x y z:=o.ext _ _ s
theorem SB.l0 {g:Heap}{k:Nat}{f:List UInt8}{x:Option Addr}{y z:Nat}(s:SB g k f x y z):ah SS.P 9 g (.pointer (some ⟨k,0+0,none⟩))=some (aa f):=eC Ri Vt s (by simp)
theorem SB.l1 {g:Heap}{k:Nat}{f:List UInt8}{x:Option Addr}{y z:Nat}(s:SB g k f x y z):ah SS.P 35 g (.pointer (some ⟨k,0+1,none⟩))=some (.slice x y z):=eC UM XJ s (by simp)
def AB (g:Heap)(k:Nat)(q:MArc):Prop:=g.get k=some (.cells (lD q) 39 0 true)
theorem AB.ok {g g':Heap}{k:Nat}{q:MArc}(s:AB g k q)(o:Ok g g'):AB g' k q:=o.ext _ _ s
theorem AB.l0 {g:Heap}{k:Nat}{q:MArc}(s:AB g k q):ah SS.P 3 g (.pointer (some ⟨k,0+0,none⟩))=some (.int .i64 q.i):=eC KF Kv s (by simp [lD])
theorem AB.l1 {g:Heap}{k:Nat}{q:MArc}(s:AB g k q):ah SS.P 3 g (.pointer (some ⟨k,0+1,none⟩))=some (.int .i64 q.o):=eC KF Kv s (by simp [lD])
theorem AB.l2 {g:Heap}{k:Nat}{q:MArc}(s:AB g k q):ah SS.P 9 g (.pointer (some ⟨k,0+2,none⟩))=some (aa q.w):=eC Ri Vt s (by simp [lD])
theorem AB.l3 {g:Heap}{k:Nat}{q:MArc}(s:AB g k q):ah SS.P 3 g (.pointer (some ⟨k,0+3,none⟩))=some (.int .i64 q.t):=eC KF Kv s (by simp [lD])
def LK:Blk:= .cells [aa [],.slice none 0 0] 37 0 true
theorem Mp:bi SS.P 37=some (LK,kw):=by kernel_rfl
def O2:Blk:= .cells [.int .i64 0,.int .i64 0,aa [],.int .i64 0] 39 0 true
theorem Qp:bi SS.P 39=some (O2,kw):=by kernel_rfl
theorem D8 {h:Heap}(w:Wf h)(f:List UInt8)(x:Option Addr)(y z:Nat): ∃ u:Upd,al SS.P 37 (.pointer (some ⟨h.next,0,none⟩)) (.agg ⟨[aa f,.slice x y z]⟩) (h.push LK)=some (undef,u)/\Ok h (u.app (h.push LK))/\SB (u.app (h.push LK)) h.next f x y z:=by
 obtain ⟨o,e⟩:=sa (cs:=[aa f,.slice x y z]) w ((Ok.refl w).push LK) (aZ h LK) (Nat.le_refl _)
 exact ⟨_,qo Ui rfl (aZ h LK) rfl rfl,o,e⟩
theorem GZ {h:Heap}(w:Wf h)(q:MArc): ∃ u:Upd,al SS.P 39 (.pointer (some ⟨h.next,0,none⟩)) (.agg ⟨lD q⟩) (h.push O2)=some (undef,u)/\Ok h (u.app (h.push O2))/\AB (u.app (h.push O2)) h.next q:=by
 obtain ⟨o,e⟩:=sa (cs:=lD q) w ((Ok.refl w).push O2) (aZ h O2) (Nat.le_refl _)
 exact ⟨_,qo PW rfl (aZ h O2) rfl rfl,o,e⟩
def bu (M:Mach)(a:Option Addr)(n c:Nat):List Value:=[.int .i64 M.kind,.int .i64 M.start,aa M.lead,.slice a n c]
def Bm (M:Mach)(a:Option Addr)(n c:Nat):Blk:= .cells (bu M a n c) 24 0 true
theorem e8 (M:Mach)(a:Option Addr)(n c:Nat):fp SS.P 24 (.agg ⟨bu M a n c⟩)=some (Bm M a n c,kw):=by kernel_rfl
theorem cQ {h:Heap}(w:Wf h){M:Mach}{a:Option Addr}{n c:Nat}(r:StRow h (.slice a n c) M.states):MB (h.push (Bm M a n c)) h.next M a n c/\Ok h (h.push (Bm M a n c)):=
 ⟨⟨aZ h _,r.ok ((Ok.refl w).push _)⟩,(Ok.refl w).push _⟩
def oJ (s:Int):Bool:=decide (0<=s) && decide (s<=500)
def eE (kind:Int)(N:Nat)(a:MArc):Bool:=oJ a.i && oJ a.o && decide (0<=a.t) && decide (a.t < N) && Num.weightOk kind a.w
def nF (kind:Int)(N:Nat):Int->List MSt->Bool
 | _,[]=>true
 | acc,s::r=>decide (acc+s.arcs.length<=30000) && (s.f == [] || Num.weightOk kind s.f) && s.arcs.all (eE kind N) && nF kind N (acc+s.arcs.length) r
def bV (M:Mach):Bool:=decide (1<=M.kind) && decide (M.kind<=3) && decide (1<=M.states.length) && decide (M.states.length<=3000) && decide (0<=M.start) && decide (M.start < M.states.length) && Num.weightOk M.kind M.lead && nF M.kind M.states.length 0 M.states
def lk (l:List MSt):Nat:=(l.map fun s=>s.arcs.length).sum
structure Small (M:Mach):Prop where
 lead:M.lead.length<=900
 sts:M.states.length<=300
 fin: ∀ s∈M.states,s.f.length<=900
 arcs: ∀ s∈M.states,s.arcs.length<=2000
 w: ∀ s∈M.states,∀ q∈s.arcs,q.w.length<=900
 tot:lk M.states<=2000
end
noncomputable def xn:Code:=(Tryz.f35.body).getD .skip
def QY:List Nat:=[]
abbrev Qt (s:Int)(h:Heap)(Q:VH):Prop:=aw (decide ((s:Int)>=0)) (Q (.bool (decide ((s:Int)<=500))) h) (Q (.bool false) h)
theorem NZ (s:Int)(h:Heap)(Q:VH)(hx:Qt s h Q):FW SS 35 [(.int .i64 s)] h Q:=ax (M:=QY) (c:=xn) Tryz.func35 (show Tryz.f35.body=some xn by kernel_rfl) (by kernel_rfl) (ai hx (by kernel_rfl))
noncomputable def fo:Code:=(Tryz.f10.body).getD .skip
noncomputable def po (Q:VH):aj:=cE SS Tryz.f10.results.toList Q
def lL:List Nat:=[1,2,3,4,6,48,49,50,75,76,77]
noncomputable def om (p:List Nat)(w:LV)(h:Heap)(Q:aj):Prop:=bp SS Tryz.f10.ntmps lL (aP p fo) w h Q
noncomputable def ib (p b:List Nat)(K:aj):aj:=ky SS Tryz.f10.ntmps lL p (aP b fo) K
abbrev Qq (mv:LV)(h:Heap)(Q:VH):Prop:=xN (fp SS.P 24 (.agg ⟨mv⟩)) h fun B1 g2=>xP (ag SS.P 24 (pA (h.next)) 3) fun p3=>xL (ah SS.P 22 g2 (.pointer (some p3))) fun a4 n5 c6=>xP (ag SS.P 24 (pA (h.next)) 0) fun p7=>xI .i64 (ah SS.P 3 g2 (.pointer (some p7))) fun n8=>aw (decide ((n8:Int) < 1)) (Q (.bool false) g2) (xP (ag SS.P 24 (pA (h.next)) 0) fun p9=>xI .i64 (ah SS.P 3 g2 (.pointer (some p9))) fun n10=>aw (decide ((n10:Int) > 3)) (Q (.bool false) g2) (aw (decide (((n5:Int):Int) < 1)) (Q (.bool false) g2) (aw (decide (((n5:Int):Int) > 3000)) (Q (.bool false) g2) (xP (ag SS.P 24 (pA (h.next)) 1) fun p11=>xI .i64 (ah SS.P 3 g2 (.pointer (some p11))) fun n12=>aw (decide ((n12:Int) < 0)) (Q (.bool false) g2) (xP (ag SS.P 24 (pA (h.next)) 1) fun p13=>xI .i64 (ah SS.P 3 g2 (.pointer (some p13))) fun n14=>aw (decide ((n14:Int)>=(n5:Int))) (Q (.bool false) g2) (xP (ag SS.P 24 (pA (h.next)) 0) fun p15=>xI .i64 (ah SS.P 3 g2 (.pointer (some p15))) fun n16=>xP (ag SS.P 24 (pA (h.next)) 2) fun p17=>xS (ah SS.P 9 g2 (.pointer (some p17))) fun l18=>FW SS 34 [(.int .i64 n16),(aa l18)] g2 fun v19 h20=>yB v19 fun b21=>aw (!b21) (Q (.bool false) h20) (xP (ag SS.P 24 (pA (h.next)) 3) fun p22=>xL (ah SS.P 22 h20 (.pointer (some p22))) fun a23 n24 c25=>om [1,1,1,1,0,1,0,0] [(pA (h.next)),(.bool false),(iA n5),(.int .i64 0),undef,(.slice a23 n24 c25),(iA n24),(.int .i64 0),undef,undef,undef] h20 (ib [1,1,1,1,0,1,0] [] (po Q)))))))))
theorem NE (mv:LV)(h:Heap)(Q:VH)(hx:Qq mv h Q):FW SS 10 [(.agg ⟨mv⟩)] h Q:=ax (M:=lL) (c:=fo) Tryz.func10 (show Tryz.f10.body=some fo by kernel_rfl) (by kernel_rfl) (ai hx (by kernel_rfl))
abbrev jS (mv:LV)(k:Nat)(a:OA)(n c:Nat)(i:Nat)(acc:Int)(y6 y75 y76 y77:Value):LV:=[(pA k),(.bool false),(iA n),(.int .i64 acc),y6,(.slice a n c),(iA n),(iA i),y75,y76,y77]
def cR (mv:LV)(k:Nat)(a:OA)(n c:Nat)(Inv:Nat->Nat->Int->Heap->Prop)(mz:Nat)(w:LV)(h:Heap):Prop:= ∃ (i:Nat)(acc:Int)(y6 y75 y76 y77:Value),w=(jS mv k a n c i acc y6 y75 y76 y77)/\Inv mz i acc h
abbrev zU (mv:LV)(k:Nat)(a:OA)(n c:Nat)(Inv:Nat->Nat->Int->Heap->Prop)(Q:VH)(mz:Nat)(i:Nat)(acc:Int)(y6 y75 y76 y77:Value)(zz:Nat->Value)(h:Heap):Prop:=aw (decide (((i:Int):Int) < (n:Int))) (xP (af SS.P 22 (.slice a n c) (iA i)) fun p26=>xA (ah SS.P 37 h (.pointer (some p26))) fun c27=>xN (bi SS.P 37) h fun B28 g29=>xU (al SS.P 37 (pA (h.next)) (.agg ⟨c27⟩) g29) g29 fun u30 g31=>xP (ag SS.P 37 (pA (h.next)) 1) fun p32=>xL (ah SS.P 35 g31 (.pointer (some p32))) fun a33 n34 c35=>aw (decide ((IntKind.wrap .i64 (acc+(n34:Int)):Int) > 30000)) (Q (.bool false) g31) (xP (ag SS.P 37 (pA (h.next)) 0) fun p36=>xS (ah SS.P 9 g31 (.pointer (some p36))) fun l37=>aw (!((l37:LB) == [])) (xP (ag SS.P 24 (pA k) 0) fun p38=>xI .i64 (ah SS.P 3 g31 (.pointer (some p38))) fun n39=>xP (ag SS.P 37 (pA (h.next)) 0) fun p40=>xS (ah SS.P 9 g31 (.pointer (some p40))) fun l41=>FW SS 34 [(.int .i64 n39),(aa l41)] g31 fun v42 h43=>yB v42 fun b44=>aw (!b44) (Q (.bool false) h43) (xP (ag SS.P 37 (pA (h.next)) 1) fun p45=>xL (ah SS.P 35 h43 (.pointer (some p45))) fun a46 n47 c48=>om [1,1,1,1,0,1,0,0,1,1,0,0,1,1,1,1,0,0] [(pA k),(.bool false),(iA n),(.int .i64 (IntKind.wrap .i64 (acc+(n34:Int)))),(pA (h.next)),(.slice a n c),(iA n),(iA i),(.slice a46 n47 c48),(iA n47),(.int .i64 0)] h43 (ib [1,1,0,0,1,1,1,1,0] [1,1,1,1,0,1,0,0] (aT lL (cR mv k a n c Inv) mz (ib [1,1,1,1,0,1,0] [] (po Q)))))) (xP (ag SS.P 37 (pA (h.next)) 1) fun p49=>xL (ah SS.P 35 g31 (.pointer (some p49))) fun a50 n51 c52=>om [1,1,1,1,0,1,0,0,1,1,0,0,1,1,1,1,0,0] [(pA k),(.bool false),(iA n),(.int .i64 (IntKind.wrap .i64 (acc+(n34:Int)))),(pA (h.next)),(.slice a n c),(iA n),(iA i),(.slice a50 n51 c52),(iA n51),(.int .i64 0)] g31 (ib [1,1,0,0,1,1,1,1,0] [1,1,1,1,0,1,0,0] (aT lL (cR mv k a n c Inv) mz (ib [1,1,1,1,0,1,0] [] (po Q))))))) (Q (.bool true) h)
theorem t9 {mv:LV}{k:Nat}{a:OA}{n c:Nat}{Inv:Nat->Nat->Int->Heap->Prop}{mz:Nat}(mq:Nat){i:Nat}{acc:Int}{y6 y75 y76 y77:Value}{h:Heap}(hm:mq < mz)(hi:Inv mq i acc h):ak (cR mv k a n c Inv) mz (jS mv k a n c i acc y6 y75 y76 y77) h:=⟨mq,hm,i,acc,y6,y75,y76,y77,rfl,hi⟩
theorem sB (mv:LV)(k:Nat)(a:OA)(n c:Nat)(Inv:Nat->Nat->Int->Heap->Prop)(Q:VH)(step: ∀ (mz:Nat) (i:Nat) (acc:Int) (y6 y75 y76 y77:Value) (zz:Nat->Value) (h:Heap),Inv mz i acc h->zU mv k a n c Inv Q mz i acc y6 y75 y76 y77 zz h)(mz:Nat){i:Nat}{acc:Int}{y6 y75 y76 y77:Value}{h:Heap}(hi:Inv mz i acc h):om [1,1,1,1,0,1,0,0] (jS mv k a n c i acc y6 y75 y76 y77) h (ib [1,1,1,1,0,1,0] [] (po Q)):=
 an (A:=(cR mv k a n c Inv)) (show aF Tryz.f10.ntmps (aP [1,1,1,1,0,1,0,0] fo)=true by kernel_rfl) (fun mz w zz h ⟨i,acc,y6,y75,y76,y77,hw,hi⟩=>by subst hw; exact ai (step mz i acc y6 y75 y76 y77 zz h hi) (by kernel_rfl)) mz _ h ⟨i,acc,y6,y75,y76,y77,rfl,hi⟩ (fun zz=>by kernel_rfl) (by kernel_rfl)
abbrev j6 (mv:LV)(k:Nat)(a:OA)(n c:Nat)(k2:Nat)(b:OA)(m d:Nat)(i:Nat)(acc:Int)(j:Nat)  : LV:=[(pA k),(.bool false),(iA n),(.int .i64 acc),(pA k2),(.slice a n c),(iA n),(iA i),(.slice b m d),(iA m),(iA j)]
def je (mv:LV)(k:Nat)(a:OA)(n c:Nat)(k2:Nat)(b:OA)(m d:Nat)(i:Nat)(acc:Int)(Inv2:Nat->Nat->Heap->Prop)(mz2:Nat)(w:LV)(h:Heap):Prop:= ∃ (j:Nat) ,w=(j6 mv k a n c k2 b m d i acc j )/\Inv2 mz2 j h
abbrev Aw (mv:LV)(k:Nat)(a:OA)(n c:Nat)(k2:Nat)(b:OA)(m d:Nat)(Inv:Nat->Nat->Int->Heap->Prop)(mz i:Nat)(acc:Int)(Inv2:Nat->Nat->Heap->Prop)(Q:VH)(mz2:Nat)(j:Nat)  (zz:Nat->Value) (h:Heap):Prop:=aw (decide (((j:Int):Int) < (m:Int))) (xP (af SS.P 35 (.slice b m d) (iA j)) fun p53=>xA (ah SS.P 39 h (.pointer (some p53))) fun c54=>xN (bi SS.P 39) h fun B55 g56=>xU (al SS.P 39 (pA (h.next)) (.agg ⟨c54⟩) g56) g56 fun u57 g58=>xP (ag SS.P 39 (pA (h.next)) 0) fun p59=>xI .i64 (ah SS.P 3 g58 (.pointer (some p59))) fun n60=>FW SS 35 [(.int .i64 n60)] g58 fun v61 h62=>yB v61 fun b63=>aw (!b63) (Q (.bool false) h62) (xP (ag SS.P 39 (pA (h.next)) 1) fun p64=>xI .i64 (ah SS.P 3 h62 (.pointer (some p64))) fun n65=>FW SS 35 [(.int .i64 n65)] h62 fun v66 h67=>yB v66 fun b68=>aw (!b68) (Q (.bool false) h67) (xP (ag SS.P 39 (pA (h.next)) 3) fun p69=>xI .i64 (ah SS.P 3 h67 (.pointer (some p69))) fun n70=>aw (decide ((n70:Int) < 0)) (Q (.bool false) h67) (xP (ag SS.P 39 (pA (h.next)) 3) fun p71=>xI .i64 (ah SS.P 3 h67 (.pointer (some p71))) fun n72=>aw (decide ((n72:Int)>=(n:Int))) (Q (.bool false) h67) (xP (ag SS.P 24 (pA k) 0) fun p73=>xI .i64 (ah SS.P 3 h67 (.pointer (some p73))) fun n74=>xP (ag SS.P 39 (pA (h.next)) 2) fun p75=>xS (ah SS.P 9 h67 (.pointer (some p75))) fun l76=>FW SS 34 [(.int .i64 n74),(aa l76)] h67 fun v77 h78=>yB v77 fun b79=>aw (!b79) (Q (.bool false) h78) (ak (je mv k a n c k2 b m d i acc Inv2) mz2 [(pA k),(.bool false),(iA n),(.int .i64 acc),(pA k2),(.slice a n c),(iA n),(iA i),(.slice b m d),(iA m),(.int .i64 (IntKind.wrap .i64 ((j:Int)+1)))] h78)))))) (ak (cR mv k a n c Inv) mz [(pA k),(.bool false),(iA n),(.int .i64 acc),(pA k2),(.slice a n c),(iA n),(.int .i64 (IntKind.wrap .i64 ((i:Int)+1))),(.slice b m d),(iA m),(iA j)] h)
theorem tE {mv:LV}{k:Nat}{a:OA}{n c:Nat}{k2:Nat}{b:OA}{m d:Nat}{i:Nat}{acc:Int}{Inv2:Nat->Nat->Heap->Prop}{mz2:Nat}(mq:Nat){j:Nat}  {h:Heap} (hm:mq < mz2) (hi:Inv2 mq j h):ak (je mv k a n c k2 b m d i acc Inv2) mz2 (j6 mv k a n c k2 b m d i acc j ) h:=⟨mq,hm,j,rfl,hi⟩
theorem uX (mv:LV)(k:Nat)(a:OA)(n c:Nat)(k2:Nat)(b:OA)(m d:Nat)(Inv:Nat->Nat->Int->Heap->Prop)(mz i:Nat)(acc:Int)(Inv2:Nat->Nat->Heap->Prop)(Q:VH)(step: ∀ (mz2:Nat) (j:Nat)  (zz:Nat->Value) (h:Heap),Inv2 mz2 j h->Aw mv k a n c k2 b m d Inv mz i acc Inv2 Q mz2 j  zz h)(mz2:Nat){j:Nat}  {h:Heap} (hi:Inv2 mz2 j h):om [1,1,1,1,0,1,0,0,1,1,0,0,1,1,1,1,0,0] (j6 mv k a n c k2 b m d i acc j ) h (ib [1,1,0,0,1,1,1,1,0] [1,1,1,1,0,1,0,0] (aT lL (cR mv k a n c Inv) mz (ib [1,1,1,1,0,1,0] [] (po Q)))):=
 an (A:=(je mv k a n c k2 b m d i acc Inv2)) (show aF Tryz.f10.ntmps (aP [1,1,1,1,0,1,0,0,1,1,0,0,1,1,1,1,0,0] fo)=true by kernel_rfl) (fun mz2 w zz h ⟨j,hw,hi⟩=>by subst hw; exact ai (step mz2 j  zz h hi) (by kernel_rfl)) mz2 _ h ⟨j,rfl,hi⟩ (fun zz=>by kernel_rfl) (by kernel_rfl)
noncomputable def fh:Code:=(Tryz.f11.body).getD .skip
noncomputable def pD (Q:VH):aj:=cE SS Tryz.f11.results.toList Q
def mc:List Nat:=[1,2,3,4,5,6]
noncomputable def pI (p:List Nat)(w:LV)(h:Heap)(Q:aj):Prop:=bp SS Tryz.f11.ntmps mc (aP p fh) w h Q
noncomputable def hG (p b:List Nat)(K:aj):aj:=ky SS Tryz.f11.ntmps mc p (aP b fh) K
abbrev P6 (mv:LV)(h:Heap)(Q:VH):Prop:=xN (fp SS.P 24 (.agg ⟨mv⟩)) h fun B1 g2=>xP (ag SS.P 24 (pA (h.next)) 0) fun p3=>xI .i64 (ah SS.P 3 g2 (.pointer (some p3))) fun n4=>FW SS 36 [(.int .i64 n4)] g2 fun v5 h6=>yB v5 fun b7=>aw (!b7) (Q (.bool false) h6) (xP (ag SS.P 24 (pA (h.next)) 3) fun p8=>xL (ah SS.P 22 h6 (.pointer (some p8))) fun a9 n10 c11=>aw (decide (((n10:Int):Int) < 1)) (Q (.bool false) h6) (xP (ag SS.P 24 (pA (h.next)) 3) fun p12=>xL (ah SS.P 22 h6 (.pointer (some p12))) fun a13 n14 c15=>aw (decide (((n14:Int):Int) > 3000)) (Q (.bool false) h6) (xP (ag SS.P 24 (pA (h.next)) 1) fun p16=>xI .i64 (ah SS.P 3 h6 (.pointer (some p16))) fun n17=>aw (decide ((n17:Int) < 0)) (Q (.bool false) h6) (xP (ag SS.P 24 (pA (h.next)) 1) fun p18=>xI .i64 (ah SS.P 3 h6 (.pointer (some p18))) fun n19=>xP (ag SS.P 24 (pA (h.next)) 3) fun p20=>xL (ah SS.P 22 h6 (.pointer (some p20))) fun a21 n22 c23=>aw (decide ((n19:Int)>=(n22:Int))) (Q (.bool false) h6) (xP (ag SS.P 24 (pA (h.next)) 0) fun p24=>xI .i64 (ah SS.P 3 h6 (.pointer (some p24))) fun n25=>xP (ag SS.P 24 (pA (h.next)) 2) fun p26=>xS (ah SS.P 9 h6 (.pointer (some p26))) fun l27=>FW SS 37 [(.int .i64 n25),(aa l27)] h6 fun v28 h29=>yB v28 fun b30=>aw (!b30) (Q (.bool false) h29) (pI [1,1,1,0,1,0,0] [(pA (h.next)),(.bool false),(.int .i64 0),(.int .i64 0),undef,undef] h29 (hG [1,1,1,0,1,0] [] (pD Q))))))))
theorem LC (mv:LV)(h:Heap)(Q:VH)(hx:P6 mv h Q):FW SS 11 [(.agg ⟨mv⟩)] h Q:=ax (M:=mc) (c:=fh) Tryz.func11 (show Tryz.f11.body=some fh by kernel_rfl) (by kernel_rfl) (ai hx (by kernel_rfl))
abbrev i7 (mv:LV)(k:Nat)(i:Nat)(acc:Int)(y5 y6:Value):LV:=[(pA k),(.bool false),(.int .i64 acc),(iA i),y5,y6]
def cS (mv:LV)(k:Nat)(Inv:Nat->Nat->Int->Heap->Prop)(mz:Nat)(w:LV)(h:Heap):Prop:= ∃ (i:Nat)(acc:Int)(y5 y6:Value),w=(i7 mv k i acc y5 y6)/\Inv mz i acc h
abbrev Ad (mv:LV)(k:Nat)(Inv:Nat->Nat->Int->Heap->Prop)(Q:VH)(mz:Nat)(i:Nat)(acc:Int)(y5 y6:Value)(zz:Nat->Value)(h:Heap):Prop:=xP (ag SS.P 24 (pA k) 3) fun p31=>xL (ah SS.P 22 h (.pointer (some p31))) fun a32 n33 c34=>aw (decide (((i:Int):Int) < (n33:Int))) (xP (ag SS.P 24 (pA k) 3) fun p35=>xL (ah SS.P 22 h (.pointer (some p35))) fun a36 n37 c38=>xP (af SS.P 22 (.slice a36 n37 c38) (iA i)) fun p39=>xA (ah SS.P 37 h (.pointer (some p39))) fun c40=>xN (bi SS.P 37) h fun B41 g42=>xU (al SS.P 37 (pA (h.next)) (.agg ⟨c40⟩) g42) g42 fun u43 g44=>xP (ag SS.P 37 (pA (h.next)) 1) fun p45=>xL (ah SS.P 35 g44 (.pointer (some p45))) fun a46 n47 c48=>aw (decide ((IntKind.wrap .i64 (acc+(n47:Int)):Int) > 30000)) (Q (.bool false) g44) (xP (ag SS.P 37 (pA (h.next)) 0) fun p49=>xS (ah SS.P 9 g44 (.pointer (some p49))) fun l50=>aw (!((l50:LB) == [])) (xP (ag SS.P 24 (pA k) 0) fun p51=>xI .i64 (ah SS.P 3 g44 (.pointer (some p51))) fun n52=>xP (ag SS.P 37 (pA (h.next)) 0) fun p53=>xS (ah SS.P 9 g44 (.pointer (some p53))) fun l54=>FW SS 37 [(.int .i64 n52),(aa l54)] g44 fun v55 h56=>yB v55 fun b57=>aw (!b57) (Q (.bool false) h56) (pI [1,1,1,0,1,0,0,1,0,0,1,1,1,1,0,0] [(pA k),(.bool false),(.int .i64 (IntKind.wrap .i64 (acc+(n47:Int)))),(iA i),(pA (h.next)),(.int .i64 0)] h56 (hG [1,0,0,1,1,1,1,0] [1,1,1,0,1,0,0] (aT mc (cS mv k Inv) mz (hG [1,1,1,0,1,0] [] (pD Q)))))) (pI [1,1,1,0,1,0,0,1,0,0,1,1,1,1,0,0] [(pA k),(.bool false),(.int .i64 (IntKind.wrap .i64 (acc+(n47:Int)))),(iA i),(pA (h.next)),(.int .i64 0)] g44 (hG [1,0,0,1,1,1,1,0] [1,1,1,0,1,0,0] (aT mc (cS mv k Inv) mz (hG [1,1,1,0,1,0] [] (pD Q))))))) (Q (.bool true) h)
theorem uA {mv:LV}{k:Nat}{Inv:Nat->Nat->Int->Heap->Prop}{mz:Nat}(mq:Nat){i:Nat}{acc:Int}{y5 y6:Value}{h:Heap}(hm:mq < mz)(hi:Inv mq i acc h):ak (cS mv k Inv) mz (i7 mv k i acc y5 y6) h:=⟨mq,hm,i,acc,y5,y6,rfl,hi⟩
theorem uY (mv:LV)(k:Nat)(Inv:Nat->Nat->Int->Heap->Prop)(Q:VH)(step: ∀ (mz:Nat) (i:Nat) (acc:Int) (y5 y6:Value) (zz:Nat->Value) (h:Heap),Inv mz i acc h->Ad mv k Inv Q mz i acc y5 y6 zz h)(mz:Nat){i:Nat}{acc:Int}{y5 y6:Value}{h:Heap}(hi:Inv mz i acc h):pI [1,1,1,0,1,0,0] (i7 mv k i acc y5 y6) h (hG [1,1,1,0,1,0] [] (pD Q)):=
 an (A:=(cS mv k Inv)) (show aF Tryz.f11.ntmps (aP [1,1,1,0,1,0,0] fh)=true by kernel_rfl) (fun mz w zz h ⟨i,acc,y5,y6,hw,hi⟩=>by subst hw; exact ai (step mz i acc y5 y6 zz h hi) (by kernel_rfl)) mz _ h ⟨i,acc,y5,y6,rfl,hi⟩ (fun zz=>by kernel_rfl) (by kernel_rfl)
abbrev jx (mv:LV)(k k2 i:Nat)(acc:Int)(j:Nat)  : LV:=[(pA k),(.bool false),(.int .i64 acc),(iA i),(pA k2),(iA j)]
def jZ (mv:LV)(k k2 i:Nat)(acc:Int)(Inv2:Nat->Nat->Heap->Prop)(mz2:Nat)(w:LV)(h:Heap):Prop:= ∃ (j:Nat) ,w=(jx mv k k2 i acc j )/\Inv2 mz2 j h
abbrev zW (mv:LV)(k k2:Nat)(Inv:Nat->Nat->Int->Heap->Prop)(mz i:Nat)(acc:Int)(Inv2:Nat->Nat->Heap->Prop)(Q:VH)(mz2:Nat)(j:Nat)  (zz:Nat->Value) (h:Heap):Prop:=xP (ag SS.P 37 (pA k2) 1) fun p58=>xL (ah SS.P 35 h (.pointer (some p58))) fun a59 n60 c61=>aw (decide (((j:Int):Int) < (n60:Int))) (xP (ag SS.P 37 (pA k2) 1) fun p62=>xL (ah SS.P 35 h (.pointer (some p62))) fun a63 n64 c65=>xP (af SS.P 35 (.slice a63 n64 c65) (iA j)) fun p66=>xA (ah SS.P 39 h (.pointer (some p66))) fun c67=>xN (bi SS.P 39) h fun Rz g69=>xU (al SS.P 39 (pA (h.next)) (.agg ⟨c67⟩) g69) g69 fun u70 g71=>xP (ag SS.P 39 (pA (h.next)) 0) fun p72=>xI .i64 (ah SS.P 3 g71 (.pointer (some p72))) fun n73=>aw (decide ((n73:Int) < 0)) (Q (.bool false) g71) (xP (ag SS.P 39 (pA (h.next)) 0) fun p74=>xI .i64 (ah SS.P 3 g71 (.pointer (some p74))) fun n75=>aw (decide ((n75:Int) > 500)) (Q (.bool false) g71) (xP (ag SS.P 39 (pA (h.next)) 1) fun p76=>xI .i64 (ah SS.P 3 g71 (.pointer (some p76))) fun n77=>aw (decide ((n77:Int) < 0)) (Q (.bool false) g71) (xP (ag SS.P 39 (pA (h.next)) 1) fun p78=>xI .i64 (ah SS.P 3 g71 (.pointer (some p78))) fun n79=>aw (decide ((n79:Int) > 500)) (Q (.bool false) g71) (xP (ag SS.P 39 (pA (h.next)) 3) fun p80=>xI .i64 (ah SS.P 3 g71 (.pointer (some p80))) fun n81=>aw (decide ((n81:Int) < 0)) (Q (.bool false) g71) (xP (ag SS.P 39 (pA (h.next)) 3) fun p82=>xI .i64 (ah SS.P 3 g71 (.pointer (some p82))) fun n83=>xP (ag SS.P 24 (pA k) 3) fun p84=>xL (ah SS.P 22 g71 (.pointer (some p84))) fun a85 n86 c87=>aw (decide ((n83:Int)>=(n86:Int))) (Q (.bool false) g71) (xP (ag SS.P 24 (pA k) 0) fun p88=>xI .i64 (ah SS.P 3 g71 (.pointer (some p88))) fun n89=>xP (ag SS.P 39 (pA (h.next)) 2) fun p90=>xS (ah SS.P 9 g71 (.pointer (some p90))) fun l91=>FW SS 37 [(.int .i64 n89),(aa l91)] g71 fun v92 h93=>yB v92 fun b94=>aw (!b94) (Q (.bool false) h93) (ak (jZ mv k k2 i acc Inv2) mz2 [(pA k),(.bool false),(.int .i64 acc),(iA i),(pA k2),(.int .i64 (IntKind.wrap .i64 ((j:Int)+1)))] h93)))))))) (ak (cS mv k Inv) mz [(pA k),(.bool false),(.int .i64 acc),(.int .i64 (IntKind.wrap .i64 ((i:Int)+1))),(pA k2),(iA j)] h)
theorem sD {mv:LV}{k k2 i:Nat}{acc:Int}{Inv2:Nat->Nat->Heap->Prop}{mz2:Nat}(mq:Nat){j:Nat}  {h:Heap} (hm:mq < mz2) (hi:Inv2 mq j h):ak (jZ mv k k2 i acc Inv2) mz2 (jx mv k k2 i acc j ) h:=⟨mq,hm,j,rfl,hi⟩
theorem sR (mv:LV)(k k2:Nat)(Inv:Nat->Nat->Int->Heap->Prop)(mz i:Nat)(acc:Int)(Inv2:Nat->Nat->Heap->Prop)(Q:VH)(step: ∀ (mz2:Nat) (j:Nat)  (zz:Nat->Value) (h:Heap),Inv2 mz2 j h->zW mv k k2 Inv mz i acc Inv2 Q mz2 j  zz h)(mz2:Nat){j:Nat}  {h:Heap} (hi:Inv2 mz2 j h):pI [1,1,1,0,1,0,0,1,0,0,1,1,1,1,0,0] (jx mv k k2 i acc j ) h (hG [1,0,0,1,1,1,1,0] [1,1,1,0,1,0,0] (aT mc (cS mv k Inv) mz (hG [1,1,1,0,1,0] [] (pD Q)))):=
 an (A:=(jZ mv k k2 i acc Inv2)) (show aF Tryz.f11.ntmps (aP [1,1,1,0,1,0,0,1,0,0,1,1,1,1,0,0] fh)=true by kernel_rfl) (fun mz2 w zz h ⟨j,hw,hi⟩=>by subst hw; exact ai (step mz2 j  zz h hi) (by kernel_rfl)) mz2 _ h ⟨j,rfl,hi⟩ (fun zz=>by kernel_rfl) (by kernel_rfl)
noncomputable def i9:Code:=(Tryz.f33.body).getD .skip
noncomputable def Kt (Q:VH):aj:=cE SS Tryz.f33.results.toList Q
def FA:List Nat:=[1,3,4]
noncomputable def KS (p:List Nat)(w:LV)(h:Heap)(Q:aj):Prop:=bp SS Tryz.f33.ntmps FA (aP p i9) w h Q
noncomputable def K3 (p b:List Nat)(K:aj):aj:=ky SS Tryz.f33.ntmps FA p (aP b i9) K
abbrev RA (mv:LV)(h:Heap)(Q:VH):Prop:=xN (fp SS.P 24 (.agg ⟨mv⟩)) h fun B1 g2=>KS [1,1,0,1,0,0] [(pA (h.next)),(.int .i64 0),(.int .i64 0)] g2 (K3 [1,1,0,1,0] [] (Kt Q))
theorem OR (mv:LV)(h:Heap)(Q:VH)(hx:RA mv h Q):FW SS 33 [(.agg ⟨mv⟩)] h Q:=ax (M:=FA) (c:=i9) Tryz.func33 (show Tryz.f33.body=some i9 by kernel_rfl) (by kernel_rfl) (ai hx (by kernel_rfl))
abbrev ls (mv:LV)(k:Nat)(i:Nat)(acc:Int)  : LV:=[(pA k),(.int .i64 acc),(iA i)]
def lw (mv:LV)(k:Nat)(Inv:Nat->Nat->Int->Heap->Prop)(mz:Nat)(w:LV)(h:Heap):Prop:= ∃ (i:Nat)(acc:Int) ,w=(ls mv k i acc )/\Inv mz i acc h
abbrev Cu (mv:LV)(k:Nat)(Inv:Nat->Nat->Int->Heap->Prop)(Q:VH)(mz:Nat)(i:Nat)(acc:Int)  (zz:Nat->Value) (h:Heap):Prop:=xP (ag SS.P 24 (pA k) 3) fun p3=>xL (ah SS.P 22 h (.pointer (some p3))) fun a4 n5 c6=>aw (decide (((i:Int):Int) < (n5:Int))) (xP (ag SS.P 24 (pA k) 3) fun p7=>xL (ah SS.P 22 h (.pointer (some p7))) fun a8 n9 c10=>xP (af SS.P 22 (.slice a8 n9 c10) (iA i)) fun p11=>xP (ag SS.P 37 (.pointer (some p11)) 1) fun p12=>xL (ah SS.P 35 h (.pointer (some p12))) fun a13 n14 c15=>ak (lw mv k Inv) mz [(pA k),(.int .i64 (IntKind.wrap .i64 (acc+(n14:Int)))),(.int .i64 (IntKind.wrap .i64 ((i:Int)+1)))] h) (Q (.int .i64 acc) h)
theorem vZ {mv:LV}{k:Nat}{Inv:Nat->Nat->Int->Heap->Prop}{mz:Nat}(mq:Nat){i:Nat}{acc:Int}  {h:Heap} (hm:mq < mz) (hi:Inv mq i acc h):ak (lw mv k Inv) mz (ls mv k i acc ) h:=⟨mq,hm,i,acc,rfl,hi⟩
theorem wc (mv:LV)(k:Nat)(Inv:Nat->Nat->Int->Heap->Prop)(Q:VH)(step: ∀ (mz:Nat) (i:Nat) (acc:Int)  (zz:Nat->Value) (h:Heap),Inv mz i acc h->Cu mv k Inv Q mz i acc  zz h)(mz:Nat){i:Nat}{acc:Int}  {h:Heap} (hi:Inv mz i acc h):KS [1,1,0,1,0,0] (ls mv k i acc ) h (K3 [1,1,0,1,0] [] (Kt Q)):=
 an (A:=(lw mv k Inv)) (show aF Tryz.f33.ntmps (aP [1,1,0,1,0,0] i9)=true by kernel_rfl) (fun mz w zz h ⟨i,acc,hw,hi⟩=>by subst hw; exact ai (step mz i acc  zz h hi) (by kernel_rfl)) mz _ h ⟨i,acc,rfl,hi⟩ (fun zz=>by kernel_rfl) (by kernel_rfl)
noncomputable def gQ:Code:=(Tryz.f8.body).getD .skip
noncomputable def yN (Q:VH):aj:=cE SS Tryz.f8.results.toList Q
def sZ:List Nat:=[1,2,3,4]
noncomputable def yT (p:List Nat)(w:LV)(h:Heap)(Q:aj):Prop:=bp SS Tryz.f8.ntmps sZ (aP p gQ) w h Q
noncomputable def qi (p b:List Nat)(K:aj):aj:=ky SS Tryz.f8.ntmps sZ p (aP b gQ) K
abbrev SO (mv:LV)(h:Heap)(Q:VH):Prop:=xN (fp SS.P 24 (.agg ⟨mv⟩)) h fun B1 g2=>xP (ag SS.P 24 (pA (h.next)) 3) fun p3=>xL (ah SS.P 22 g2 (.pointer (some p3))) fun a4 n5 c6=>aw (decide (((n5:Int):Int) > 300)) (Q (.bool true) g2) (xA (ah SS.P 24 g2 (pA (h.next))) fun c7=>FW SS 33 [(.agg ⟨c7⟩)] g2 fun v8 h9=>yI .i64 v8 fun n10=>aw (decide ((n10:Int) > 2000)) (Q (.bool true) h9) (xP (ag SS.P 24 (pA (h.next)) 2) fun p11=>xS (ah SS.P 9 h9 (.pointer (some p11))) fun l12=>aw (decide ((((l12:LB).length:Int):Int) > 900)) (Q (.bool true) h9) (yT [1,1,0,1,0,0] [(pA (h.next)),(.bool false),(.int .i64 0),undef] h9 (qi [1,1,0,1,0] [] (yN Q)))))
theorem Rh (mv:LV)(h:Heap)(Q:VH)(hx:SO mv h Q):FW SS 8 [(.agg ⟨mv⟩)] h Q:=ax (M:=sZ) (c:=gQ) Tryz.func8 (show Tryz.f8.body=some gQ by kernel_rfl) (by kernel_rfl) (ai hx (by kernel_rfl))
abbrev lh (mv:LV)(k:Nat)(i:Nat)(y4:Value):LV:=[(pA k),(.bool false),(iA i),y4]
def eD (mv:LV)(k:Nat)(Inv:Nat->Nat->Heap->Prop)(mz:Nat)(w:LV)(h:Heap):Prop:= ∃ (i:Nat)(y4:Value),w=(lh mv k i y4)/\Inv mz i h
abbrev Ce (mv:LV)(k:Nat)(Inv:Nat->Nat->Heap->Prop)(Q:VH)(mz:Nat)(i:Nat)(y4:Value)(zz:Nat->Value)(h:Heap):Prop:=xP (ag SS.P 24 (pA k) 3) fun p13=>xL (ah SS.P 22 h (.pointer (some p13))) fun a14 n15 c16=>aw (decide (((i:Int):Int) < (n15:Int))) (xP (ag SS.P 24 (pA k) 3) fun p17=>xL (ah SS.P 22 h (.pointer (some p17))) fun a18 n19 c20=>xP (af SS.P 22 (.slice a18 n19 c20) (iA i)) fun p21=>xP (ag SS.P 37 (.pointer (some p21)) 0) fun p22=>xS (ah SS.P 9 h (.pointer (some p22))) fun l23=>aw (decide ((((l23:LB).length:Int):Int) > 900)) (Q (.bool true) h) (yT [1,1,0,1,0,0,1,0,0,1,1,0,0] [(pA k),(.bool false),(iA i),(.int .i64 0)] h (qi [1,0,0,1,1,0] [1,1,0,1,0,0] (aT sZ (eD mv k Inv) mz (qi [1,1,0,1,0] [] (yN Q)))))) (Q (.bool false) h)
theorem vp {mv:LV}{k:Nat}{Inv:Nat->Nat->Heap->Prop}{mz:Nat}(mq:Nat){i:Nat}{y4:Value}{h:Heap}(hm:mq < mz)(hi:Inv mq i h):ak (eD mv k Inv) mz (lh mv k i y4) h:=⟨mq,hm,i,y4,rfl,hi⟩
theorem vB (mv:LV)(k:Nat)(Inv:Nat->Nat->Heap->Prop)(Q:VH)(step: ∀ (mz:Nat) (i:Nat) (y4:Value) (zz:Nat->Value) (h:Heap),Inv mz i h->Ce mv k Inv Q mz i y4 zz h)(mz:Nat){i:Nat}{y4:Value}{h:Heap}(hi:Inv mz i h):yT [1,1,0,1,0,0] (lh mv k i y4) h (qi [1,1,0,1,0] [] (yN Q)):=
 an (A:=(eD mv k Inv)) (show aF Tryz.f8.ntmps (aP [1,1,0,1,0,0] gQ)=true by kernel_rfl) (fun mz w zz h ⟨i,y4,hw,hi⟩=>by subst hw; exact ai (step mz i y4 zz h hi) (by kernel_rfl)) mz _ h ⟨i,y4,rfl,hi⟩ (fun zz=>by kernel_rfl) (by kernel_rfl)
abbrev lA (mv:LV)(k i:Nat)(j:Nat)  : LV:=[(pA k),(.bool false),(iA i),(iA j)]
def lz (mv:LV)(k i:Nat)(Inv2:Nat->Nat->Heap->Prop)(mz2:Nat)(w:LV)(h:Heap):Prop:= ∃ (j:Nat) ,w=(lA mv k i j )/\Inv2 mz2 j h
abbrev BU (mv:LV)(k:Nat)(Inv:Nat->Nat->Heap->Prop)(mz i:Nat)(Inv2:Nat->Nat->Heap->Prop)(Q:VH)(mz2:Nat)(j:Nat)  (zz:Nat->Value) (h:Heap):Prop:=xP (ag SS.P 24 (pA k) 3) fun p24=>xL (ah SS.P 22 h (.pointer (some p24))) fun a25 n26 c27=>xP (af SS.P 22 (.slice a25 n26 c27) (iA i)) fun p28=>xP (ag SS.P 37 (.pointer (some p28)) 1) fun p29=>xL (ah SS.P 35 h (.pointer (some p29))) fun a30 n31 c32=>aw (decide (((j:Int):Int) < (n31:Int))) (xP (ag SS.P 24 (pA k) 3) fun p33=>xL (ah SS.P 22 h (.pointer (some p33))) fun a34 n35 c36=>xP (af SS.P 22 (.slice a34 n35 c36) (iA i)) fun p37=>xP (ag SS.P 37 (.pointer (some p37)) 1) fun p38=>xL (ah SS.P 35 h (.pointer (some p38))) fun a39 n40 c41=>xP (af SS.P 35 (.slice a39 n40 c41) (iA j)) fun p42=>xP (ag SS.P 39 (.pointer (some p42)) 2) fun p43=>xS (ah SS.P 9 h (.pointer (some p43))) fun l44=>aw (decide ((((l44:LB).length:Int):Int) > 900)) (Q (.bool true) h) (ak (lz mv k i Inv2) mz2 [(pA k),(.bool false),(iA i),(.int .i64 (IntKind.wrap .i64 ((j:Int)+1)))] h)) (ak (eD mv k Inv) mz [(pA k),(.bool false),(.int .i64 (IntKind.wrap .i64 ((i:Int)+1))),(iA j)] h)
theorem vE {mv:LV}{k i:Nat}{Inv2:Nat->Nat->Heap->Prop}{mz2:Nat}(mq:Nat){j:Nat}  {h:Heap} (hm:mq < mz2) (hi:Inv2 mq j h):ak (lz mv k i Inv2) mz2 (lA mv k i j ) h:=⟨mq,hm,j,rfl,hi⟩
theorem wa (mv:LV)(k:Nat)(Inv:Nat->Nat->Heap->Prop)(mz i:Nat)(Inv2:Nat->Nat->Heap->Prop)(Q:VH)(step: ∀ (mz2:Nat) (j:Nat)  (zz:Nat->Value) (h:Heap),Inv2 mz2 j h->BU mv k Inv mz i Inv2 Q mz2 j  zz h)(mz2:Nat){j:Nat}  {h:Heap} (hi:Inv2 mz2 j h):yT [1,1,0,1,0,0,1,0,0,1,1,0,0] (lA mv k i j ) h (qi [1,0,0,1,1,0] [1,1,0,1,0,0] (aT sZ (eD mv k Inv) mz (qi [1,1,0,1,0] [] (yN Q)))):=
 an (A:=(lz mv k i Inv2)) (show aF Tryz.f8.ntmps (aP [1,1,0,1,0,0,1,0,0,1,1,0,0] gQ)=true by kernel_rfl) (fun mz2 w zz h ⟨j,hw,hi⟩=>by subst hw; exact ai (step mz2 j  zz h hi) (by kernel_rfl)) mz2 _ h ⟨j,rfl,hi⟩ (fun zz=>by kernel_rfl) (by kernel_rfl)
section
theorem bj {α:Type}{l:List α}{i:Nat}{s:α}(h:l[i]?=some s):l.drop i=s::l.drop (i+1):=by
 obtain ⟨h1,rfl⟩:=List.getElem?_eq_some_iff.1 h
 exact List.drop_eq_getElem_cons h1
theorem Dr (s:Int)(h:Heap):FW SS 35 [.int .i64 s] h (fun v h'=>v = .bool (oJ s)/\h'=h):=by
 refine NZ s h _ (ae (fun g=>⟨?_,rfl⟩) (fun g=>⟨?_,rfl⟩))
 ·have g:=dT g
  unfold oJ; rw [decide_eq_true (show 0<=s from g),Bool.true_and]
 ·have g:=dF g
  unfold oJ; rw [decide_eq_false (show ¬ 0<=s from g),Bool.false_and]
section
variable {h:Heap} {k:Nat} {M:Mach} {a:Option Addr} {n c:Nat}
def bQ (h:Heap)(V:Bool):VH:=fun v h'=>v = .bool V/\Ok h h'
def R0 (h:Heap)(k:Nat)(M:Mach)(a:Option Addr)(n c:Nat)(V:Bool)(mz i:Nat)(acc:Int)(g:Heap):Prop:=i<=n/\mz=n - i/\0<=acc/\acc<=30000/\MB g k M a n c/\Ok h g/\nF M.kind n acc (M.states.drop i)=V
def Y7 (h:Heap)(k:Nat)(M:Mach)(a:Option Addr)(n c:Nat)(s:MSt)(b:Option Addr)(m d i:Nat)(acc:Int)(V:Bool)(mz2 j:Nat)(g:Heap):Prop:=j<=m/\mz2=m - j/\MB g k M a n c/\Ok h g/\ArcRow g (.slice b m d) s.arcs/\((s.arcs.drop j).all (eE M.kind n) && nF M.kind n acc (M.states.drop (i+1)))=V
theorem aJ {i n:Nat}(h:i < n)(hn:n<=1000000000):IntKind.wrap .i64 ((i:Int)+1)=((i+1:Nat):Int):=by rw [ap (by omega) (by omega)]; omega
theorem de (sm:Small M){s:MSt}{i:Nat}(hs:M.states[i]?=some s):s.arcs.length<=2000/\s.f.length<=1000000000/\ ∀ q∈s.arcs,q.w.length<=1000000000:=by
 have h:=List.mem_of_getElem? hs
 exact ⟨sm.arcs s h,Nat.le_trans (sm.fin s h) (by decide),fun q hq=>Nat.le_trans (sm.w s h q hq) (by decide)⟩
set_option linter.defProp false in
def HH (w:Wf h)(tb:Tab h)(sm:Small M)(V:Bool){s:MSt}{b:Option Addr}{m d i k2:Nat}{acc:Int}(hs:M.states[i]?=some s)(hi:i < n)(h0:0<=acc)(h1:acc<=30000)(mv:List Value)(mz:Nat)(hmz:mz=n - i):=
 uX mv k a n c k2 b m d (R0 h k M a n c V) mz i acc (Y7 h k M a n c s b m d i acc V) (bQ h V) (by
  intro mz2 j; intros; rename_i g hin
  obtain ⟨f1,f2,mb,ok,ar,hv⟩:=hin
  have hn:n<=300:=by rw [mb.len]; exact sm.sts
  obtain ⟨l1,l2,l3⟩:=de sm hs
  have hm:=ar.len
  refine ae (fun g1=> ?_) (fun g1=> ?_)
  ·have g1:=dT g1
   obtain ⟨q,hq⟩: ∃ q,s.arcs[j]?=some q:=⟨_,gE (by omega)⟩
   obtain ⟨bb,o,e1,e2,e3⟩:=ar.at_ hq
   have lq:=l3 q (List.mem_of_getElem? hq)
   rw [bj hq,List.all_cons] at hv
   obtain ⟨u,p1,p2,p3⟩:=GZ ok.wf q
   refine ⟨_,e1,_,e2,_,Qp,u,p1,?_⟩
   have okg:=ok.trans p2
   have mbg:=mb.ok p2
   generalize u.app (g.push O2)=g2 at *
   refine ⟨_,it _ _,_,p3.l0,(Dr _ _).mono ?_⟩
   rintro _ g3 ⟨rfl,eg⟩
   obtain rfl:g2=g3:=eg.symm
   refine ⟨_,rfl,ae (fun t=>⟨?_,okg⟩) (fun t=> ?_)⟩
   ·rw [Bool.not_eq_true'] at t
    rw [<-hv]; unfold eE; rw [t]; simp
   rw [Bool.not_eq_false'] at t
   refine ⟨_,ny _ _,_,p3.l1,(Dr _ _).mono ?_⟩
   rintro _ g3 ⟨rfl,eg⟩
   obtain rfl:g2=g3:=eg.symm
   refine ⟨_,rfl,ae (fun t2=>⟨?_,okg⟩) (fun t2=> ?_)⟩
   ·rw [Bool.not_eq_true'] at t2
    rw [<-hv]; unfold eE; rw [t2]; simp
   rw [Bool.not_eq_false'] at t2
   refine ⟨_,mZ _ _,_,p3.l3,ae (fun t3=>⟨?_,okg⟩) (fun t3=> ?_)⟩
   ·have t3:=dT t3
    rw [<-hv]; unfold eE; rw [decide_eq_false (show ¬ 0<=q.t by omega)]; simp
   have t3:=dF t3
   refine ⟨_,mZ _ _,_,p3.l3,ae (fun t4=>⟨?_,okg⟩) (fun t4=> ?_)⟩
   ·have t4:=dT t4
    rw [<-hv]; unfold eE; rw [decide_eq_false (show ¬ q.t < n by omega)]; simp
   have t4:=dF t4
   refine ⟨_,mR _,_,mbg.l0,_,Kc _ _,_,p3.l2,(m8 M.kind q.w lq (tb.ok okg) okg.wf).mono ?_⟩
   rintro _ g4 ⟨rfl,o4⟩
   refine ⟨_,rfl,ae (fun t5=>⟨?_,okg.trans o4⟩) (fun t5=> ?_)⟩
   ·rw [Bool.not_eq_true'] at t5
    rw [<-hv]; unfold eE; rw [t5]; simp
   rw [Bool.not_eq_false'] at t5
   have hq1:eE M.kind n q=true:=by
    unfold eE; rw [t,t2,t5,decide_eq_true (show 0<=q.t by omega),decide_eq_true (show q.t < n by omega)]; rfl
   rw [hq1,Bool.true_and] at hv
   rw [aJ (i:=j) (n:=m) (by omega) (by omega)]
   exact tE (mz2 - 1) (by omega) ⟨by omega,by omega,mbg.ok o4,okg.trans o4,(ar.ok p2).ok o4,hv⟩
  ·have g1:=dF g1
   obtain rfl:m=j:=by omega
   rw [List.drop_eq_nil_of_le (by omega)] at hv
   rw [aJ hi (by omega)]
   exact t9 (n - (i+1)) (by omega) ⟨by omega,rfl,h0,h1,mb,ok,by simpa using hv⟩)
theorem pV {h:Heap}(tb:Tab h)(w:Wf h){M:Mach}(sm:Small M){a:Option Addr}{n c:Nat}(r:StRow h (.slice a n c) M.states):FW SS 10 [.agg ⟨bu M a n c⟩] h (fun v h'=>v = .bool (bV M)/\Ok h h'):=by
 obtain ⟨mb,ok⟩:=cQ w r
 refine NE (bu M a n c) h _ ⟨_,e8 M a n c,?_⟩
 have hl:=mb.len
 have hn:n<=300:=by rw [hl]; exact sm.sts
 generalize h.push (Bm M a n c)=g at *
 refine ⟨_,aS _,_,_,_,mb.l3,_,mR _,_,mb.l0,ae (fun t1=>⟨?_,ok⟩) (fun t1=> ?_)⟩
 ·have t1:=dT t1
  unfold bV; rw [decide_eq_false (show ¬ 1<=M.kind by omega)]; simp
 have t1:=dF t1
 refine ⟨_,mR _,_,mb.l0,ae (fun t2=>⟨?_,ok⟩) (fun t2=>ae (fun t3=>⟨?_,ok⟩) (fun t3=>ae (fun t4=>⟨?_,ok⟩) (fun t4=> ?_)))⟩
 ·have t2:=dT t2
  unfold bV; rw [decide_eq_false (show ¬ M.kind<=3 by omega)]; simp
 ·have t3:=dT t3
  unfold bV; rw [decide_eq_false (show ¬ 1<=M.states.length by omega)]; simp
 ·have t4:=dT t4
  omega
 have t2:=dF t2
 have t3:=dF t3
 refine ⟨_,nn _,_,mb.l1,ae (fun t5=>⟨?_,ok⟩) (fun t5=> ?_)⟩
 ·have t5:=dT t5
  unfold bV; rw [decide_eq_false (show ¬ 0<=M.start by omega)]; simp
 have t5:=dF t5
 refine ⟨_,nn _,_,mb.l1,ae (fun t6=>⟨?_,ok⟩) (fun t6=> ?_)⟩
 ·have t6:=dT t6
  unfold bV; rw [decide_eq_false (show ¬ M.start < M.states.length by omega)]; simp
 have t6:=dF t6
 refine ⟨_,mR _,_,mb.l0,_,IZ _,_,mb.l2,(m8 M.kind M.lead (Nat.le_trans sm.lead (by decide)) (tb.ok ok) ok.wf).mono ?_⟩
 rintro _ g2 ⟨rfl,o2⟩
 have ok2:=ok.trans o2
 have mb2:=mb.ok o2
 refine ⟨_,rfl,ae (fun t7=>⟨?_,ok2⟩) (fun t7=> ?_)⟩
 ·rw [Bool.not_eq_true'] at t7
  unfold bV; rw [t7]; simp
 rw [Bool.not_eq_false'] at t7
 have hV:bV M=nF M.kind n 0 M.states:=by
  unfold bV
  rw [t7,decide_eq_true (show 1<=M.kind by omega),decide_eq_true (show M.kind<=3 by omega),decide_eq_true (show 1<=M.states.length by omega),decide_eq_true (show M.states.length<=3000 by omega),decide_eq_true (show 0<=M.start by omega),decide_eq_true (show M.start < M.states.length by omega),hl]
  rfl
 obtain ⟨V,hVd⟩: ∃ V,V=nF M.kind n 0 M.states:=⟨_,rfl⟩
 rw [hV,<-hVd]
 refine ⟨_,aS _,_,_,_,mb2.l3,?_⟩
 refine sB (bu M a n c) h.next a n c (R0 h h.next M a n c V) (bQ h V) (fun mz i acc=> ?_) n (i:=0) (acc:=0) ⟨by omega,rfl,by omega,by omega,mb2,ok2,hVd.symm⟩
 intros; rename_i gg hi
 obtain ⟨f1,f2,f3,f4,mb3,ok3,f5⟩:=hi
 refine ae (fun q1=> ?_) (fun q1=> ?_)
 ·have q1:=dT q1
  obtain ⟨s,hs⟩: ∃ s,M.states[i]?=some s:=⟨_,gE (by omega)⟩
  obtain ⟨b,o,x,y,z,e1,e2,e3,e4,ar⟩:=mb3.row.at_ hs
  obtain ⟨l1,l2,l3⟩:=de sm hs
  have hy:=ar.len
  rw [bj hs] at f5
  unfold nF at f5
  obtain ⟨u,p1,p2,p3⟩:=D8 ok3.wf s.f x y z
  refine ⟨_,e1,_,e2,_,Mp,u,p1,?_⟩
  have okg:=ok3.trans p2
  have mbg:=mb3.ok p2
  have arg:=ar.ok p2
  generalize u.app (gg.push LK)=g3 at *
  have hw:IntKind.wrap .i64 (acc+(y:Int))=acc+(s.arcs.length:Int):=by rw [hy,ap (by omega) (by omega)]
  refine ⟨_,bq _ _,_,_,_,p3.l1,?_⟩
  dsimp only
  rw [hw]
  refine ae (fun q2=>⟨?_,okg⟩) (fun q2=> ?_)
  ·have q2:=dT q2
   rw [<-f5,decide_eq_false (show ¬ acc+(s.arcs.length:Int)<=30000 by omega)]; simp
  have q2:=dF q2
  rw [decide_eq_true (show acc+(s.arcs.length:Int)<=30000 by omega),Bool.true_and] at f5
  refine ⟨_,rv _ _,_,p3.l0,ae (fun q3=> ?_) (fun q3=> ?_)⟩
  ·refine ⟨_,mR _,_,mbg.l0,_,rv _ _,_,p3.l0,(m8 M.kind s.f l2 (tb.ok okg) okg.wf).mono ?_⟩
   rintro _ g4 ⟨rfl,o4⟩
   have q3:(s.f == [])=false:=by simpa using q3
   rw [q3,Bool.false_or] at f5
   refine ⟨_,rfl,ae (fun q4=>⟨?_,okg.trans o4⟩) (fun q4=> ?_)⟩
   ·rw [Bool.not_eq_true'] at q4
    rw [<-f5,q4]; simp
   rw [Bool.not_eq_false'] at q4
   rw [q4,Bool.true_and] at f5
   refine ⟨_,bq _ _,_,_,_,(p3.ok o4).l1,?_⟩
   exact HH w tb sm _ hs (by omega) (by omega) (by omega) _ mz f2 y (j:=0) ⟨by omega,rfl,mbg.ok o4,okg.trans o4,arg.ok o4,by rw [List.drop_zero]; exact f5⟩
  ·have q3:(s.f == [])=true:=by simpa using q3
   rw [q3,Bool.true_or,Bool.true_and] at f5
   refine ⟨_,bq _ _,_,_,_,p3.l1,?_⟩
   exact HH w tb sm _ hs (by omega) (by omega) (by omega) _ mz f2 y (j:=0) ⟨by omega,rfl,mbg,okg,arg,by rw [List.drop_zero]; exact f5⟩
 ·have q1:=dF q1
  refine ⟨?_,ok3⟩
  rw [List.drop_eq_nil_of_le (by omega)] at f5
  rw [<-f5]; rfl
end
end
section
theorem H5 (kind:Int)(h:Heap):FW SS 36 [.int .i64 kind] h (fun v h'=>v = .bool (decide (1<=kind) && decide (kind<=3))/\h'=h):=by
 refine wZ kind h _ (ae (fun g=>⟨?_,rfl⟩) (fun g=>⟨?_,rfl⟩))
 ·have g:=dT g
  rw [decide_eq_true (show 1<=kind from g),Bool.true_and]
 ·have g:=dF g
  rw [decide_eq_false (show ¬ 1<=kind from g),Bool.false_and]
section
variable {h:Heap} {k:Nat} {M:Mach} {a:Option Addr} {n c:Nat}
set_option linter.defProp false in
def Hk (w:Wf h)(sm:Small M)(V:Bool){s:MSt}{b:Option Addr}{m d i k2:Nat}{acc:Int}(hs:M.states[i]?=some s)(hi:i < n)(h0:0<=acc)(h1:acc<=30000)(mv:List Value)(mz:Nat)(hmz:mz=n - i):=
 sR mv k k2 (R0 h k M a n c V) mz i acc (fun mz2 j g=>Y7 h k M a n c s b m d i acc V mz2 j g/\SB g k2 s.f b m d) (bQ h V) (by
  intro mz2 j; intros; rename_i g hin
  obtain ⟨⟨f1,f2,mb,ok,ar,hv⟩,sb⟩:=hin
  have hn:n<=300:=by rw [mb.len]; exact sm.sts
  obtain ⟨l1,l2,l3⟩:=de sm hs
  have hm:=ar.len
  refine ⟨_,bq _ _,_,_,_,sb.l1,ae (fun g1=> ?_) (fun g1=> ?_)⟩
  ·have g1:=dT g1
   obtain ⟨q,hq⟩: ∃ q,s.arcs[j]?=some q:=⟨_,gE (by omega)⟩
   obtain ⟨bb,o,e1,e2,e3⟩:=ar.at_ hq
   have lq:=l3 q (List.mem_of_getElem? hq)
   rw [bj hq,List.all_cons] at hv
   obtain ⟨u,p1,p2,p3⟩:=GZ ok.wf q
   refine ⟨_,bq _ _,_,_,_,sb.l1,_,e1,_,e2,_,Qp,u,p1,?_⟩
   have okg:=ok.trans p2
   have mbg:=mb.ok p2
   generalize u.app (g.push O2)=g2 at *
   refine ⟨_,it _ _,_,p3.l0,ae (fun t=>⟨?_,okg⟩) (fun t=>⟨_,it _ _,_,p3.l0,ae (fun t2=>⟨?_,okg⟩) (fun t2=>⟨_,ny _ _,_,p3.l1,ae (fun t3=>⟨?_,okg⟩) (fun t3=>⟨_,ny _ _,_,p3.l1,ae (fun t4=>⟨?_,okg⟩) (fun t4=>⟨_,mZ _ _,_,p3.l3,ae (fun t5=>⟨?_,okg⟩) (fun t5=>⟨_,mZ _ _,_,p3.l3,_,aS _,_,_,_,mbg.l3,ae (fun t6=>⟨?_,okg⟩) (fun t6=> ?_)⟩)⟩)⟩)⟩)⟩)⟩
   ·have t:=dT t
    rw [<-hv]; unfold eE oJ; rw [decide_eq_false (show ¬ 0<=q.i by omega)]; simp
   ·have t2:=dT t2
    rw [<-hv]; unfold eE oJ; rw [decide_eq_false (show ¬ q.i<=500 by omega)]; simp
   ·have t3:=dT t3
    rw [<-hv]; unfold eE oJ; rw [decide_eq_false (show ¬ 0<=q.o by omega)]; simp
   ·have t4:=dT t4
    rw [<-hv]; unfold eE oJ; rw [decide_eq_false (show ¬ q.o<=500 by omega)]; simp
   ·have t5:=dT t5
    rw [<-hv]; unfold eE; rw [decide_eq_false (show ¬ 0<=q.t by omega)]; simp
   ·have t6:=dT t6
    rw [<-hv]; unfold eE; rw [decide_eq_false (show ¬ q.t < n by omega)]; simp
   have t:=dF t
   have t2:=dF t2
   have t3:=dF t3
   have t4:=dF t4
   have t5:=dF t5
   have t6:=dF t6
   refine ⟨_,mR _,_,mbg.l0,_,Kc _ _,_,p3.l2,(lf M.kind q.w lq okg.wf).mono ?_⟩
   rintro _ g4 ⟨rfl,o4⟩
   refine ⟨_,rfl,ae (fun t7=>⟨?_,okg.trans o4⟩) (fun t7=> ?_)⟩
   ·rw [Bool.not_eq_true'] at t7
    rw [<-hv]; unfold eE; rw [t7]; simp
   rw [Bool.not_eq_false'] at t7
   have hq1:eE M.kind n q=true:=by
    unfold eE oJ; rw [t7,decide_eq_true (show 0<=q.i by omega),decide_eq_true (show q.i<=500 by omega),decide_eq_true (show 0<=q.o by omega),decide_eq_true (show q.o<=500 by omega),decide_eq_true (show 0<=q.t by omega),decide_eq_true (show q.t < n by omega)]; rfl
   rw [hq1,Bool.true_and] at hv
   rw [aJ (i:=j) (n:=m) (by omega) (by omega)]
   exact sD (mz2 - 1) (by omega) ⟨⟨by omega,by omega,mbg.ok o4,okg.trans o4,(ar.ok p2).ok o4,hv⟩,(sb.ok p2).ok o4⟩
  ·have g1:=dF g1
   obtain rfl:m=j:=by omega
   rw [List.drop_eq_nil_of_le (by omega)] at hv
   rw [aJ hi (by omega)]
   exact uA (n - (i+1)) (by omega) ⟨by omega,rfl,h0,h1,mb,ok,by simpa using hv⟩)
end
theorem mt {h:Heap}(w:Wf h){M:Mach}(sm:Small M){a:Option Addr}{n c:Nat}(r:StRow h (.slice a n c) M.states):FW SS 11 [.agg ⟨bu M a n c⟩] h (fun v h'=>v = .bool (bV M)/\Ok h h'):=by
 obtain ⟨mb,ok⟩:=cQ w r
 refine LC (bu M a n c) h _ ⟨_,e8 M a n c,?_⟩
 have hl:=mb.len
 have hn:n<=300:=by rw [hl]; exact sm.sts
 generalize h.push (Bm M a n c)=g at *
 refine ⟨_,mR _,_,mb.l0,(H5 _ _).mono ?_⟩
 rintro _ g1 ⟨rfl,eg⟩
 obtain rfl:g=g1:=eg.symm
 refine ⟨_,rfl,ae (fun t1=>⟨?_,ok⟩) (fun t1=> ?_)⟩
 ·rw [Bool.not_eq_true'] at t1
  unfold bV; rw [t1]; simp
 rw [Bool.not_eq_false',Bool.and_eq_true] at t1
 have t1:1<=M.kind/\M.kind<=3:=⟨dT t1.1,dT t1.2⟩
 refine ⟨_,aS _,_,_,_,mb.l3,ae (fun t3=>⟨?_,ok⟩) (fun t3=>⟨_,aS _,_,_,_,mb.l3,ae (fun t4=>⟨?_,ok⟩) (fun t4=> ?_)⟩)⟩
 ·have t3:=dT t3
  unfold bV; rw [decide_eq_false (show ¬ 1<=M.states.length by omega)]; simp
 ·have t4:=dT t4
  omega
 have t3:=dF t3
 refine ⟨_,nn _,_,mb.l1,ae (fun t5=>⟨?_,ok⟩) (fun t5=> ?_)⟩
 ·have t5:=dT t5
  unfold bV; rw [decide_eq_false (show ¬ 0<=M.start by omega)]; simp
 have t5:=dF t5
 refine ⟨_,nn _,_,mb.l1,_,aS _,_,_,_,mb.l3,ae (fun t6=>⟨?_,ok⟩) (fun t6=> ?_)⟩
 ·have t6:=dT t6
  unfold bV; rw [decide_eq_false (show ¬ M.start < M.states.length by omega)]; simp
 have t6:=dF t6
 refine ⟨_,mR _,_,mb.l0,_,IZ _,_,mb.l2,(lf M.kind M.lead (Nat.le_trans sm.lead (by decide)) ok.wf).mono ?_⟩
 rintro _ g2 ⟨rfl,o2⟩
 have ok2:=ok.trans o2
 have mb2:=mb.ok o2
 refine ⟨_,rfl,ae (fun t7=>⟨?_,ok2⟩) (fun t7=> ?_)⟩
 ·rw [Bool.not_eq_true'] at t7
  unfold bV; rw [t7]; simp
 rw [Bool.not_eq_false'] at t7
 have hV:bV M=nF M.kind n 0 M.states:=by
  unfold bV
  rw [t7,decide_eq_true (show 1<=M.kind by omega),decide_eq_true (show M.kind<=3 by omega),decide_eq_true (show 1<=M.states.length by omega),decide_eq_true (show M.states.length<=3000 by omega),decide_eq_true (show 0<=M.start by omega),decide_eq_true (show M.start < M.states.length by omega),hl]
  rfl
 obtain ⟨V,hVd⟩: ∃ V,V=nF M.kind n 0 M.states:=⟨_,rfl⟩
 rw [hV,<-hVd]
 refine uY (bu M a n c) h.next (R0 h h.next M a n c V) (bQ h V) (fun mz i acc=> ?_) n (i:=0) (acc:=0) ⟨by omega,rfl,by omega,by omega,mb2,ok2,hVd.symm⟩
 intros; rename_i gg hi
 obtain ⟨f1,f2,f3,f4,mb3,ok3,f5⟩:=hi
 refine ⟨_,aS _,_,_,_,mb3.l3,ae (fun q1=> ?_) (fun q1=> ?_)⟩
 ·have q1:=dT q1
  obtain ⟨s,hs⟩: ∃ s,M.states[i]?=some s:=⟨_,gE (by omega)⟩
  obtain ⟨b,o,x,y,z,e1,e2,e3,e4,ar⟩:=mb3.row.at_ hs
  obtain ⟨l1,l2,l3⟩:=de sm hs
  have hy:=ar.len
  rw [bj hs] at f5
  unfold nF at f5
  obtain ⟨u,p1,p2,p3⟩:=D8 ok3.wf s.f x y z
  refine ⟨_,aS _,_,_,_,mb3.l3,_,e1,_,e2,_,Mp,u,p1,?_⟩
  have okg:=ok3.trans p2
  have mbg:=mb3.ok p2
  have arg:=ar.ok p2
  generalize u.app (gg.push LK)=g3 at *
  have hw:IntKind.wrap .i64 (acc+(y:Int))=acc+(s.arcs.length:Int):=by rw [hy,ap (by omega) (by omega)]
  refine ⟨_,bq _ _,_,_,_,p3.l1,?_⟩
  dsimp only
  rw [hw]
  refine ae (fun q2=>⟨?_,okg⟩) (fun q2=> ?_)
  ·have q2:=dT q2
   rw [<-f5,decide_eq_false (show ¬ acc+(s.arcs.length:Int)<=30000 by omega)]; simp
  have q2:=dF q2
  rw [decide_eq_true (show acc+(s.arcs.length:Int)<=30000 by omega),Bool.true_and] at f5
  refine ⟨_,rv _ _,_,p3.l0,ae (fun q3=> ?_) (fun q3=> ?_)⟩
  ·refine ⟨_,mR _,_,mbg.l0,_,rv _ _,_,p3.l0,(lf M.kind s.f l2 okg.wf).mono ?_⟩
   rintro _ g4 ⟨rfl,o4⟩
   have q3:(s.f == [])=false:=by simpa using q3
   rw [q3,Bool.false_or] at f5
   refine ⟨_,rfl,ae (fun q4=>⟨?_,okg.trans o4⟩) (fun q4=> ?_)⟩
   ·rw [Bool.not_eq_true'] at q4
    rw [<-f5,q4]; simp
   rw [Bool.not_eq_false'] at q4
   rw [q4,Bool.true_and] at f5
   exact Hk w sm _ hs (by omega) (by omega) (by omega) _ mz f2 y (j:=0) ⟨⟨by omega,rfl,mbg.ok o4,okg.trans o4,arg.ok o4,by rw [List.drop_zero]; exact f5⟩,p3.ok o4⟩
  ·have q3:(s.f == [])=true:=by simpa using q3
   rw [q3,Bool.true_or,Bool.true_and] at f5
   exact Hk w sm _ hs (by omega) (by omega) (by omega) _ mz f2 y (j:=0) ⟨⟨by omega,rfl,mbg,okg,arg,by rw [List.drop_zero]; exact f5⟩,p3⟩
 ·have q1:=dF q1
  refine ⟨?_,ok3⟩
  rw [List.drop_eq_nil_of_le (by omega)] at f5
  rw [<-f5]; rfl
end
end Go.Proofs.YtoabjjimjldcfaaGreatDoor
end
