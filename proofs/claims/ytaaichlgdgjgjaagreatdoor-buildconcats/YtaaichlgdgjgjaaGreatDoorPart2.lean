/- Laws and walks that the proof leans on (part 2): AbDraw3; AbAny; AbDraw4; AbFastOk; AbFastOk2; AbFastOk3 and others. No condition. -/
import Derived.Test.YtaaichlgdgjgjaaGreatDoorPart1
import Derived.Laws.Externs
import Derived.Below
import Derived.Recover
import Derived.ControlIn
import Derived.Attr
import Derived.Laws.Bits64
import Derived.Shelf.SortM.Plain
import Derived.Shelf.SortM.SortNone
import Derived.ChangeArms
import Derived.DataElems
import Derived.ChangeSame
set_option linter.unusedVariables false
set_option linter.unusedSimpArgs false
set_option maxRecDepth 100000
open List (all_append all_cons all_eq_true all_nil append_assoc append_nil cons_append drop_drop drop_eq_getElem_cons drop_eq_nil_of_le drop_zero eq_nil_of_length_eq_zero flatten_cons getElem?_drop getElem?_eq_none getElem?_replicate getElem?_take length_append length_cons length_pos_iff length_replicate length_set length_take mem_append mem_append_left mem_cons mem_cons_of_mem mem_cons_self mem_of_mem_take mem_range mem_singleton range'_succ take_append_drop)
open Nat (ble_eq blt_eq div_eq_of_lt div_lt_of_lt_mul div_lt_self eq_zero_or_pos le_add_right le_succ lt_of_lt_of_le lt_or_ge min_eq_left mod_add_div mod_eq_of_lt mod_lt mul_le_mul mul_le_mul_left mul_le_mul_right mul_succ pow_le_pow_right pow_succ succ_le_of_lt succ_mul)
open Option (map_eq_some_iff map_some)
open Array (getElem?_toList length_toList)
open Bool (and_eq_true false_eq_true)
open Go.IntKind (wrap)
section
namespace Go.Ab
open Go
variable{n:Nat}{W:World}{v:Value}{r:Operand->Value}{i:Nat}{I:dQ}
section
variable {β:dN} {P:Program} {gl:Nat->Bool}
theorem A3{r:Option Nat}{o:Oper}{a:Act}{w:World}(d:∀c,o.op≠ .defer c)(b:(execOp a.eval o).run P w = .ok (.value v) W){next:Act->World->Prop}{Q:Exit->Act->World->Prop}
  (h:next (a.put o.dst v) W):o.wpIn (kz r) n P a w next Q:=by
 refine⟨λ_ _=>trivial,?_⟩;rw[Oper.semAt_eq _ _ _ d,b];exact h
theorem Uc(z:gn P){cf:ew}(s:tB P gl cf){r:Option Nat}{n:Nat}{ρ:Operand->Value}{a:Act}{h:ae}{w:World}{o:Oper}{v:Value}{u:dV}(q:kM β h w)(B:Gl gl β)(k:∀x,aE β (ρ x) (a.eval x))
  (j:gL P cf ρ o h=some (v,u)) (next:Act->World->Prop) (Q:Exit->Act->World->Prop)
  (l:∀i d b,Step β h w b (u.app h) d->aE b v i->next (a.put o.dst i) d):o.wpIn (kz r) n P a w next Q:=by
 refine⟨λ_ _=>trivial,?_⟩;have m:∀c,o.op≠ .defer c:=by
  intro c g;simp[gL,g]at j
 rw[Oper.semAt_eq _ _ _ m];by_cases g:bS o=false
 ·obtain⟨i,d,b,e,t,p⟩:=AH k g q j;rcases e with e|⟨e,rfl⟩
  ·rw[e];exact l i d b t p
  ·rw[e];exact l undef d b t p
 ·unfold bS at g;split at g
  ·next f A C y=>
   simp only[gL,y]at j;exact JU z s y q B k j next Q l
  grind
open Classical in
noncomputable def only(o:Oper)(ρ:Operand->Value):Operand->Value:=λx=>if x∈o.op.operands then ρ x else iq
theorem Cx{o:Oper}{ρ:Operand->Value}:∀x∈o.op.operands,ρ x=only o ρ x:=λx a=>by grind[only]
theorem Vc{o:Oper}{ρ:Operand->Value}(h:∀x∈o.op.operands,aE β (ρ x) (r x)):∀x,aE β (only o ρ x) (r x):=λx=>by
 unfold only;split
 ·grind
 ·exact .iq _
section
variable {cf:ew} {ops:Array Oper} {bf:Nat->Nat->Bool} {st:Nat->LY} {en:Nat->tc}
structure Inv(ops:Array Oper)(bf:Nat->Nat->Bool)(st:Nat->LY)(en:Nat->tc)(β₀:dN)(h:ae)(w₀:World)(a₀:Act)(pre:List Nat)(β:dN)(w:World)(a:Act)(c:Nat)(R:List (Nat×dQ)):Prop where
 le:c<=ops.size
 Fv:∀e,e<ops.size->(en e).fM=true->(e∈pre↔e<c)
 mem:∀i B,(i,B)∈R↔i∈pre/\BX bf en c i B
 step:Step β₀ h w₀ β (cg (st c).2.1 h.next R) w
 room:h.next+ops.size<=(st c).2.1.next
 KJ:∀i B,i<ops.size->(st c).2.1.get (h.next+i)=some B->∃e,e<c/\(en e).fM=true/\bf e i=true
 free:∀i,i<ops.size->i∉pre->(∃B v,en i = .alloc B v)->β (h.next+i)=none
 SQ:Tb ops en (st 0).1 pre β a
 dfs:a.defers=a₀.defers
theorem BX.YW{c:Nat}{a:dQ}(h:BX bf en c i I)(b:BX bf en c i a):I=a:=by
 obtain⟨v,d⟩:=h.1;obtain⟨f,e⟩:=b.1
 grind
variable {β₀:dN} {h:ae} {w₀:World} {a₀:Act} {pre:List Nat} {w:World} {a:Act} {c:Nat} {R:List (Nat×dQ)}
theorem Inv.none_(b:Inv ops bf st en β₀ h w₀ a₀ pre β w a c R){i:Nat}{B:dQ}(j:i<ops.size)(l:BX bf en c i B):(st c).2.1.get (h.next+i)=none:=by
 cases m:(st c).2.1.get (h.next+i)with
 |none=>rfl
 |some k=>
  obtain⟨e,f,g,d⟩:=b.KJ i k j m;rw[l.2 e f g]at d;grind
theorem Inv.get(b:Inv ops bf st en β₀ h w₀ a₀ pre β w a c R)(e:∀i∈pre,i<ops.size)(k:Nat)(B:dQ):
  (cg (st c).2.1 h.next R).get k=some B↔(st c).2.1.get k=some B\/ ∃i,k=h.next+i/\(i,B)∈R:=
 pq R (λi B g d f=>((b.mem i B).1 d).2.YW ((b.mem i g).1 f).2) (λi B d=>b.none_ (e i ((b.mem i B).1 d).1) ((b.mem i B).1 d).2) k B
theorem Inv.sub(d:Inv ops bf st en β₀ h w₀ a₀ pre β w a c R)(b:∀i∈pre,i<ops.size):kM β (st c).2.1 w:=
 d.step.pS.sub (iw R).symm λk B e=>(d.get b k B).2 (.inl e)
theorem Inv.calm(n:C6 ops bf)(b:Inv ops bf st en β₀ h w₀ a₀ pre β w a c R){j:Nat}{o:Oper}(q:ops[j]?=some o)(s:(en j).fM=false)(r:∀B v,en j≠ .alloc B v){g:Value}(k:aE β (en j).val g):
  Inv ops bf st en β₀ h w₀ a₀ (pre++[j]) β w (a.put o.dst g) c R where
 le:=b.le
 Fv:=λe p l=>by
  rw[mem_append,b.Fv e p l]
  grind
 mem:=λi B=>by
  rw[b.mem,mem_append];refine⟨λ⟨d,f⟩=>⟨.inl d,f⟩,λ⟨d,f⟩=>⟨?_,f⟩⟩;rcases d with d|d
  ·omega
  ·simp only[mem_singleton]at d;subst d;obtain⟨v,k⟩:=f.1
   grind
 step:=b.step
 room:=b.room
 KJ:=b.KJ
 free:=λi d f=>b.free i d λm=>f (mem_append_left _ m)
 SQ:=b.SQ.put n q k
 dfs:=(put_defers a o.dst g).trans b.dfs
theorem J2(hN:gn P)(y9:tB P gl cf)(z:C6 ops bf)(A:Ou P gl cf ops bf h.next st en)(x8:(st 0).2.2=[]){L:List Nat}(C:HB ops L){r:Option Nat}{n:Nat}{Q:Exit->Act->World->Prop}(x6:Gl gl β₀)
  (hk:∀a' w' I,Step β₀ h w₀ I (cg (st ops.size).2.1 h.next (st ops.size).2.2) w'->bp I (st ops.size).1 a'.tmps.toList->a'.defers=a₀.defers->Q .normal a' w'):
  ∀(J pre:List Nat)(β:dN)(w:World)(a:Act)(c:Nat)(R:List (Nat×dQ)),L=pre++J->Inv ops bf st en β₀ h w₀ a₀ pre β w a c R->wpOpsIn (kz r) n P ops Q J a w
 | [],pre,β,w,a,c,R,O,d=>by
  rw[append_nil]at O;subst O;have E:∀i∈L,i<ops.size:=λi hi=>(C.mem i).1 hi;have M:∀e,c<=e->e<ops.size->(en e).fM=false:=λe b g=>by
   cases x3:(en e).fM with
   |false=>rfl
   |true=>have:=(d.Fv e g x3).1 ((C.mem e).2 g);omega
  have u1:=d.le;have W:(st ops.size).2.1=(st c).2.1:=by
   have:=A.AR (c:=c) (ops.size-c) (by omega) λe b g=>M e b (by omega);rwa[show c+(ops.size-c)=ops.size by omega]at this
  have y5:∀i B,BX bf en ops.size i B↔BX bf en c i B:=λi B=>by
   refine⟨λhp=>⟨hp.1,λe b=>hp.2 e (by omega)⟩,λhp=>⟨hp.1,λe b g=>hp.2 e ?_ g⟩⟩
   grind
  have K:∀i B,(i,B)∈(st ops.size).2.2↔(i,B)∈R:=λi B=>by
   rw[A.ab1 z x8 ops.size (Nat.le_refl _),d.mem,y5,C.mem]
  have z1:=d.get E;have y6:∀k B,(cg (st ops.size).2.1 h.next (st ops.size).2.2).get k=some B↔(st c).2.1.get k=some B\/ ∃i,k=h.next+i/\(i,B)∈(st ops.size).2.2:=by
   rw[W];exact pq _ (λi B X b g=>((d.mem i B).1 ((K i B).1 b)).2.YW ((d.mem i X).1 ((K i X).1 g)).2)
    (λi B b=>d.none_ (E i ((d.mem i B).1 ((K i B).1 b)).1) ((d.mem i B).1 ((K i B).1 b)).2)
  have hS:Ad (cg (st c).2.1 h.next R) (cg (st ops.size).2.1 h.next (st ops.size).2.2):=by
   refine⟨by grind[iw],λk=>Option.ext λB=>?_⟩;rw[z1,y6];simp only[K]
  refine hk a w β (d.step.same (Ad.refl h) hS) ?_ d.dfs;refine⟨?_,λt v v' b g=>?_⟩
  ·rw[A.m4 _ (Nat.le_refl _),length_toList,d.SQ.1]
  ·rw[getElem?_toList]at g;obtain⟨y,x⟩:=d.SQ.2 t v' g;have z5:t<(st 0).1.length:=by rw[<-A.m4 _ (Nat.le_refl _)];exact(List.getElem?_eq_some_iff.1 b).1
   by_cases T:∃(i:Nat)(o:Oper),ops[i]?=some o/\o.dst=some t
   ·obtain⟨i,o,q,hd⟩:=T;have hi:i<ops.size:=(Array.getElem?_eq_some_iff.1 q).1;rw[A.IP z z5 q hd _ (Nat.le_refl _) hi]at b;obtain rfl:=oI b;exact y i o ((C.mem i).2 hi) q hd
   ·rw[A.N3 t _ (Nat.le_refl _) λi o _ q hd=>T ⟨i,o,q,hd⟩]at b
    grind
 | j::J,pre,β,w,a,c,R,O,d=>by
  have E:∀i∈pre,i<ops.size:=λi hi=>(C.mem i).1 (by grind);have hj:j<ops.size:=(C.mem j).1 (by grind);have y0:j∉pre:=λhm=>by
   have z9:=C.nodup
   grind
  have x2:∀i,bf j i=true->i∈pre:=z.Sw L C pre j J O;have y8:∀i∈pre,bf i j=false:=λi hi=>by
   cases hb:bf i j with
   |false=>rfl
   |true=>
    obtain⟨p1,p2,rfl⟩:=List.append_of_mem hi;exact absurd (mem_append_left _ (z.Sw L C p1 i (p2++j::J) (by grind) j hb)) y0
  have q:=Array.getElem?_eq_getElem hj;generalize ops[j]=o at q;have m:=A.one j o q;have hg:Gl gl β:=x6.mono d.step.le;have z2:=d.SQ.afq z A C O hg q;have x5:=Vc z2;have N:=J2 hN y9 z A x8 C (r:=r) (n:=n) x6 hk J (pre++[j]);have Z:L=(pre++[j])++J:=by rw[O];simp
  simp only[wpOpsIn,q]
  cases l:en j with
  |skip=>
   rw[l]at m;simp only[One]at m;rw[d.SQ.wanted z A C O q m.1];simp only[false_eq_true,if_false];refine⟨λ_ _=>trivial,?_⟩;exact N β w _ c R Z (d.calm z q (by rw[l];rfl) (by grind) (by rw[l];exact .undef β))
  |pure v=>
   rw[l]at m;simp only[One]at m;obtain⟨T,s,_⟩:=m;rw[d.SQ.wanted z A C O q T];simp only[if_true];rw[Ik Cx]at s;obtain⟨v',b,g⟩:=sD x5 s w;refine A3 ?_ b (N β w _ c R Z (d.calm z q (by rw[l];rfl) (by rw[l];intro B v h;cases h) (by rw[l];exact g)))
   grind[dz]
  | read v=>
   rw[l]at m;simp only[One]at m;obtain⟨T,_,_⟩:=m;rw[d.SQ.wanted z A C O q T];simp only[if_true];have s:=A.reads j o v q l c d.le
    (λe b g=>y8 e ((d.Fv e (by have:=d.le;omega) g).2 b))
    (λe b g y=>by
     cases hb:bf j e with
     |false=>rfl
     |true=>have:=(d.Fv e g y).1 (x2 e hb);omega)
   rw[Il Cx]at s;obtain⟨v',b,g⟩:=sE x5 (d.sub E) s;refine A3 ?_ b (N β w _ c R Z (d.calm z q (by rw[l];rfl) (by rw[l];intro B v h;cases h) (by rw[l];exact g)))
   grind[db]
  | alloc B v=>
   rw[l]at m;simp only[One]at m;obtain⟨T,⟨f,s,rfl⟩,_⟩:=m;rw[d.SQ.wanted z A C O q T];simp only[if_true];rw[FF Cx]at s;obtain⟨v',w',b,g⟩:=qh x5 (w:=w) s;have y3:=d.free j hj y0 ⟨B,_,l⟩;have y7:=d.room;obtain⟨I,y,x,h5,h6⟩:=g.Tk d.step y3 (by omega) (by grind[iw]);refine A3 (by grind[cd]) b (N I w' _ c ((j,B)::R) Z ⟨d.le,?_,?_,y,d.room,d.KJ,?_,?_,(put_defers a o.dst v').trans d.dfs⟩)
   ·intro e S G;rw[mem_append,d.Fv e S G];refine⟨λD=>?_,.inl⟩;rcases D with D|D
    ·omega
    ·simp only[mem_singleton]at D;subst D;rw[l]at G;cases G
   ·intro i X;rw[mem_cons,d.mem,mem_append];constructor
    ·rintro(D|⟨S,G⟩)
     ·simp only[Prod.mk.injEq]at D;obtain⟨rfl,rfl⟩:=D;refine⟨.inr mem_cons_self,⟨_,l⟩,λe S G=>y8 e ((d.Fv e (by have:=d.le;omega) G).2 S)⟩
     grind
    ·rintro⟨S|S,G⟩
     ·grind
     ·simp only[mem_singleton]at S;subst S;obtain⟨v2,h9⟩:=G.1
      grind
   ·intro i S G h9;rw[h6 _ λD=>G (by grind)];exact d.free i S (λD=>G (mem_append_left _ D)) h9
   ·exact(d.SQ.mono h5).put z q (by rw[l];exact x)
  | Co v h'=>
   rw[l]at m;simp only[One]at m;have y4:(st (j+1)).2.1=h':=by rw[m.2.2]
   obtain⟨T,⟨u,s,hu⟩,_⟩:=m;rw[d.SQ.wanted z A C O q T];simp only[if_true];have u0:c<=j:=by
    rcases lt_or_ge j c with b|b
    ·exact absurd ((d.Fv j hj (by rw[l];rfl)).2 b) y0
    ·omega
   have M:∀e,c<=e->e<j->(en e).fM=false:=λe b g=>by
    cases x3:(en e).fM with
    |false=>rfl
    |true=>
     have:=(d.Fv e (by omega) x3).1 (x2 e (A.chain e j g hj x3 (by rw[l];rfl)));omega
   have W:(st j).2.1=(st c).2.1:=by
    have:=A.AR (c:=c) (j-c) (by omega) λe b g=>M e b (by omega);rwa[show c+(j-c)=j by omega]at this
   rw[W]at s hu;have Y:∀i B,(i,B)∈(st j).2.2.filter (λp=>bf j p.1)↔BX bf en c i B/\bf j i=true:=λi B=>by
    rw[List.mem_filter,A.ab1 z x8 j (by omega)];constructor
    ·rintro⟨⟨b,g,y⟩,x⟩;exact⟨⟨g,λe h5=>y e (by omega)⟩,x⟩
    ·rintro⟨⟨g,y⟩,x⟩;refine⟨⟨z.lt _ _ x,g,λe h5 h6=>?_⟩,x⟩
     grind
   generalize (st j).2.2.filter (λp=>bf j p.1)=F at Y s hu;have x1:=pq (h:=(st c).2.1) (base:=h.next) F (λi B X b g=>((Y i B).1 b).1.YW ((Y i X).1 g).1)
    (λi B b=>d.none_ (by grind) ((Y i B).1 b).1)
   have x4:=d.get E;have z3:kM β (cg (st c).2.1 h.next F) w:=d.step.pS.sub (by grind[iw]) λk B z4=>by
    rw[x4];rcases(x1 k B).1 z4 with b|⟨i,b,g⟩
    ·grind
    ·exact .inr ⟨i,b,(d.mem i B).2 ⟨x2 i ((Y i B).1 g).2,((Y i B).1 g).1⟩⟩
   rw[KO Cx]at s;refine Uc hN y9 z3 hg x5 s _ _ λv' w' I U hv=>?_;rw[<-hu,<-y4]at U;have y7:=d.room;have x9:(cg (st c).2.1 h.next F).next=(st c).2.1.next:=iw F;have H:∀i B,(i,B)∈R.filter (λp=> !bf j p.1)↔i∈pre/\BX bf en c i B/\bf j i=false:=λi B=>by
    rw[List.mem_filter,d.mem];grind
   have z7:∀i B,(i,B)∈R.filter (λp=> !bf j p.1)->(cg (st c).2.1 h.next F).get (h.next+i)=none:=λi B hm=>by
    obtain⟨b,g,y⟩:=(H i B).1 hm
    cases z0:(cg (st c).2.1 h.next F).get (h.next+i)with
    |none=>rfl
    |some X=>
     rcases(x1 _ _).1 z0 with x|⟨i',x,h5⟩
     ·rw[d.none_ (E i b) g]at x;cases x
     grind
   have y2:∀k B,(st (j+1)).2.1.get k=some B->k<(st c).2.1.next->∃x0,(cg (st c).2.1 h.next F).get k=some x0:=λk B b g=>U.keys k B b (by omega);have z6:=pq (h:=(st (j+1)).2.1) (base:=h.next) (R.filter λp=> !bf j p.1) (λi B X b g=>((H i B).1 b).2.1.YW ((H i X).1 g).2.1)
    (λi B hm=>by
     cases z0:(st (j+1)).2.1.get (h.next+i)with
     |none=>rfl
     |some X=>grind)
   have x7:=U.frame (V:=cg (st c).2.1 h.next R) (V':=cg (st (j+1)).2.1 h.next (R.filter λp=> !bf j p.1)) d.step.pS (by grind[iw]) (iw _)
    (λk B=>∃i,k=h.next+i/\(i,B)∈R.filter λp=> !bf j p.1)
    (λk B ⟨i,b,g⟩=>by grind)
    (λk B=>by
     rw[x4,x1];constructor
     ·rintro(b|⟨i,b,g⟩)
      ·grind
      ·obtain⟨y,x⟩:=(d.mem i B).1 g
       grind
     ·rintro((b|⟨i,b,g⟩)|⟨i,b,g⟩)
      ·exact .inl b
      ·exact .inr ⟨i,b,(d.mem i B).2 ⟨x2 i ((Y i B).1 g).2,((Y i B).1 g).1⟩⟩
      grind)
    z6
   have y1:=U.next;rw[x9]at y1;refine N I w' _ (j+1) _ Z ⟨by omega,?_,?_,d.step.trans x7,by omega,?_,?_,(d.SQ.mono U.le).put z q (by rw[l];exact hv),(put_defers a o.dst v').trans d.dfs⟩
   ·intro e b g;rw[mem_append,d.Fv e b g,mem_singleton]
    grind
   ·intro i B;rw[H,mem_append];constructor
    ·rintro⟨b,⟨g,y⟩,x⟩;refine⟨.inl b,g,λe h5 h6=>?_⟩
     grind
    ·rintro⟨b,⟨v2,g⟩,y⟩;rcases b with b|b
     ·exact⟨b,⟨⟨v2,g⟩,λe x=>y e (by omega)⟩,y j (by omega) (by rw[l];rfl)⟩
     grind
   ·intro i B b g;obtain⟨x0,y⟩:=y2 _ _ g (by omega);rcases(x1 _ _).1 y with x|⟨i',x,h5⟩
    ·obtain⟨e,h6,S,G⟩:=d.KJ i x0 b x
     grind
    ·obtain rfl:i=i':=by omega
     exact⟨j,by omega,by rw[l];rfl,((Y _ _).1 h5).2⟩
   ·intro i b g y;have z8:=d.free i b (λD=>g (mem_append_left _ D)) y
    cases hb:I (h.next+i)with
    |none=>rfl
    |some sl=>
     rcases U.fresh _ sl hb with x|⟨x,_⟩
     all_goals grind
end
end
variable{h:ae}{g:ae}{k:Nat}{j:Nat}{x:List Nat}
section
variable {P:Program} {gl:Nat->Bool}
theorem yw:∀{x y:List (Value×Value)},Ar x y=true->x=y
 |[],[],_=>rfl
 |[],_::_,h=>by grind[Ar]
 |_::_,[],h=>by grind[Ar]
 |(a,b)::x,(c,d)::y,h=>by
  simp only[Ar,and_eq_true]at h;rw[oT _ _ _ h.1.1,oT _ _ _ h.1.2,yw h.2]
theorem JQ{C:dQ}(h:TL I C=true):I=C:=by
 unfold TL at h;split at h
 ·simp only[and_eq_true,Nat.beq_eq,beq_iff_eq]at h;obtain⟨⟨⟨a,rfl⟩,rfl⟩,rfl⟩:=h;rw[ve (oT 4) a]
 all_goals grind[yw]
theorem Db(e:Ye h g k=true):h.get k=g.get k:=by grind[JQ,Ye]
def PG(a:ae)(s:LO):Prop:=s.2.1.next=a.next/\∀k,k∉s.2.2->s.2.1.get k=a.get k
theorem PG.lay{s:LO}(h:PG g s)(c:Option Tmp)(v:Value)(u:Option (Nat×dQ)):PG g (Ks s c v u):=by
 cases u with
 |none=>exact h
 |some p=>
  obtain⟨k,b⟩:=p;refine⟨h.1,λj a=>?_⟩;simp only[Ks,mem_cons,not_or]at a;show(s.2.1.set k b).get j=_;rw[ae.av,if_neg a.1];exact h.2 j a.2
theorem G5{ops:Array Oper}{base:Nat}{s b:LO}(h:PG g s)(a:Lt P gl ops base j s=some b):PG g b:=by
 unfold Lt at a;split at a
 ·split at a
  ·split at a
   ·obtain rfl:=oI a;exact h.lay _ _ _
   ·cases a
  ·obtain rfl:=oI a;exact h.lay _ _ _
  ·cases a
 grind
theorem Hb{ops:Array Oper}{base:Nat}{a:ae}:∀(n j:Nat){s c:LO},PG a s->Ly P gl ops base n j s=some c->PG a c
 |0,_,_,_,h,b=>by simp_all[Ly]
 |n+1,j,s,c,h,b=>by
  simp only[Ly]at b;split at b
  ·next e d=>exact Hb n (j+1) (G5 h d) b
  grind
theorem J7{s a:LO}(h:PG g s)(b:PG g a)(e:Ud s a=true):s.1=a.1/\Ad s.2.1 a.2.1:=by
 unfold Ud at e;simp only[and_eq_true]at e;obtain⟨⟨c,j⟩,i⟩:=e;refine⟨ve (oT 4) c,h.1.trans b.1.symm,λk=>?_⟩;by_cases f:k∈s.2.2
 ·grind[Db]
 ·by_cases d:k∈a.2.2
  ·grind[Db]
  ·rw[h.2 k f,b.2 k d]
theorem HB.length{ops:Array Oper}(h:HB ops x):x.length=ops.size:=by
 have:=((List.perm_ext_iff_of_nodup h.nodup List.nodup_range).2 λi=>by rw[h.mem,mem_range]).length_eq
 grind
theorem Zh:tB P gl jw:=⟨(by intro f a h v c _ b;cases b),(by intro k a h v c b;cases b)⟩
theorem Rc(S:gn P){ops:Array Oper}(R:C6 ops (fp (lX ops))){L:List Nat}(J:HB ops L){r:Option Nat}{n:Nat}{Q:Exit->Act->World->Prop}{base:Nat}{fin:LO}{K hb:ae}{D:dN}{V:World}{a₀:Act}(k:Gl gl D)
  (g:hb.next=base+ops.size) (G:K.next<=base) (t:PG hb fin)
  (T:∀W H y,Step D K V y fin.2.1 H->bp y fin.1 W.tmps.toList->W.defers=a₀.defers->Q .normal W H):
  ∀(e b:List Nat)(q:dN)(w:World)(a:Act)(s:LO),L=b++e->Tg P gl ops (fp (lX ops)) base fin e.length b.reverse s=true->PG hb s->Step D K V q s.2.1 w->
   (∀i,i<ops.size->i∉b->q (base+i)=none)->bp q s.1 a.tmps.toList->a.defers=a₀.defers->wpOpsIn (kz r) n P ops Q e a w
 |[],b,q,w,a,s,he,hA,A,m,C,F,M=>by
  obtain⟨e1,e2⟩:=J7 t A hA;refine T a w q (m.same (Ad.refl _) e2.symm) (by grind) M
 | j::e,b,q,w,a,s,he,hA,A,m,C,F,M=>by
  have hj:j<ops.size:=(J.mem j).1 (by grind);have x4:j∉b:=λhm=>by
   have x5:=J.nodup
   grind
  have x6:∀i,fp (lX ops) j i=true->i∈b:=R.Sw L J b j e he;simp only[length_cons,Tg]at hA;have l:=all_eq_true.1 hA j (mem_range.2 hj);simp only[Bool.or_eq_true]at l;rcases l with(l|l)|l
  ·grind
  ·grind
  ·split at l
   ·next s' p=>
    have d:=G5 A p;have ho:=Array.getElem?_eq_getElem hj;generalize ops[j]=o at ho;unfold Lt at p;rw[ho]at p;dsimp only at p;have I:L=(b++[j])++e:=by rw[he];simp
    have z:(b++[j]).reverse=j::b.reverse:=by simp
    have h:∀i,i<ops.size->i∉b++[j]->q (base+i)=none:=λi l X=>C i l λhh=>X (mem_append_left _ hh);have hg:Gl gl q:=k.mono m.le;simp only[wpOpsIn,ho];split at p
    ·next hw=>
     rw[m5 F hw];simp only[if_true];split at p
     ·next v u c=>
      obtain rfl:=oI p;have O:=As (β:=q) hg F;unfold adW at c;split at c
      ·next v0 x=>
       simp only[Option.some.injEq,Prod.mk.injEq]at c;obtain⟨rfl,rfl⟩:=c;obtain⟨N,Y,U⟩:=sD O x w;refine A3 (by intro cc Z;simp[dz,Z]at x) Y (Rc S R J k g G t T e (b++[j]) q w _ _ I (by rw[z];exact l) d m h (mh F o.dst U) ((put_defers a o.dst N).trans M))
      ·split at c
       ·next v0 x=>
        simp only[Option.some.injEq,Prod.mk.injEq]at c;obtain⟨rfl,rfl⟩:=c;obtain⟨N,Y,U⟩:=sE O m.pS x;refine A3 (by intro cc Z;simp[db,Z]at x) Y (Rc S R J k g G t T e (b++[j]) q w _ _ I (by rw[z];exact l) d m h (mh F o.dst U) ((put_defers a o.dst N).trans M))
       ·split at c
        ·next B f x=>
         simp only[Option.some.injEq,Prod.mk.injEq]at c;obtain⟨rfl,rfl⟩:=c;obtain⟨N,H,Y,U⟩:=qh O (w:=w) x;obtain⟨y,g3,g4,g5,g6⟩:=U.Tk m (C j hj x4) (by omega) (by rw[A.1,g];omega);refine A3 (by intro cc Z;simp[cd,Z]at x) Y (Rc S R J k g G t T e (b++[j]) y H _ _ I (by rw[z];exact l) d g3 ?_ (mh (F.mono g5) o.dst g4) ((put_defers a o.dst N).trans M));intro i X h3;rw[g6 _ λhh=>h3 (by rw[show i=j by omega];simp)];exact h i X h3
        ·have x0:∀{u':dV}{v:Value},gL P jw (ev gl s.1) o s.2.1=some (v,u')->u'.app s.2.1=(Ks s o.dst v u).2.1->(Ks s o.dst v u).1=jK s.1 o.dst v->Tg P gl ops (fp (lX ops)) base fin e.length (j::b.reverse) (Ks s o.dst v u)=true->PG hb (Ks s o.dst v u)->
           o.wpIn (kz r) n P a w (λW H=>wpOpsIn (kz r) n P ops Q e W H) Q:=by
          intro u' v c hu x2 l d;refine Uc S Zh m.pS hg O c _ _ λN H y E hv=>?_;rw[hu]at E;refine Rc S R J k g G t T e (b++[j]) y H _ _ I (by rw[z];exact l) d (m.trans E) (λi X h3=>?_) (by rw[x2];exact mh (F.mono E.le) o.dst hv) ((put_defers a o.dst N).trans M);have x1:=h i X h3
          cases x3:y (base+i)with
          |none=>rfl
          |some sl=>
           rcases E.fresh _ sl x3 with h4|⟨h4,_⟩
           ·rw[x1]at h4;cases h4
           ·rw[A.1,g]at h4;omega
         split at c
         ·next v0 x=>
          simp only[Option.some.injEq,Prod.mk.injEq]at c;obtain⟨rfl,rfl⟩:=c;exact x0 x rfl rfl l d
         ·next v0 k0 b0 x=>
          simp only[Option.some.injEq,Prod.mk.injEq]at c;obtain⟨rfl,rfl⟩:=c;exact x0 x rfl rfl l d
         ·cases c
     ·cases p
    ·next hw=>
     obtain rfl:=oI p;rw[m5 F hw];simp only[false_eq_true,if_false];refine⟨λ_ _=>trivial,?_⟩;exact Rc S R J k g G t T e (b++[j]) q w _ _ I (by rw[z];exact l) d m h (mh F o.dst (.undef q)) ((put_defers a o.dst undef).trans M)
    ·cases p
   grind
end
variable{J:dN}
section
variable {P:Program} {gl:Nat->Bool}
theorem Step.room{w:World}(a:kM J h w)(m:Nat):Step J h w J { h with next:=h.next+m } w:=
 ⟨J.le_refl,le_add_right _ _,⟨λk c b=>⟨lt_of_lt_of_le (a.lt k c b).1 (le_add_right _ _),(a.lt k c b).2⟩,a.blk,a.own,λk B b=>lt_of_lt_of_le (a.wf k B b) (le_add_right _ _)⟩,Nat.le_refl _,rfl,.refl _,rfl,
  λ_ _ _=>rfl,λ_ _ h=>h,λ_ _ h=> .inl h,λ_ B h _=>⟨B,h⟩⟩
theorem Ub(C:gn P){D:ew}(A:tB P gl D){H:Nat}{ops:Array Oper}(p:C6 ops (fp (lX ops)))(z:LW ops)(y:Region.departs ops=true->(Region.linearise .gc ops 0).length=ops.size):
  m8 P gl D (.region H ops true):=by
 intro O J E b I N a h V w r n Q d e F u K
 cases E
 refine wpIn_region_draw λt=>?_;have c:Step b h w b { h with next:=h.next+ops.size } { w with drawn:=w.drawn+1 }:=
  (Step.of_heap e rfl rfl ⟨rfl,le_succ _⟩ rfl:Step b h w b h { w with drawn:=w.drawn+1 }).trans (Step.room (w:={ w with drawn:=w.drawn+1 }) (e.of_heap rfl) ops.size)
 unfold J1 at d;split at d
 ·unfold aaP at d;split at d
  ·next k m=>
   split at d
   ·next s=>
    simp only[Option.some.injEq,Prod.mk.injEq]at d;obtain⟨rfl,rfl⟩:=d;have g:=wJ z y (P.follows .mixedOrders) t;have f:PG { h with next:=h.next+ops.size } (I,{ h with next:=h.next+ops.size },[]):=⟨rfl,λ_ _=>rfl⟩
    have l:(Region.schedule (P.follows .mixedOrders) ops t).length=ops.size:=g.length;exact Rc C p g (base:=h.next) (fin:=k) (a₀:=a) F rfl (Nat.le_refl _) (Hb _ _ f m) K _ [] b _ a _ rfl (by rw[l];exact s) f c (λi q _=>e.mW (by omega)) u rfl
   ·cases d
  grind
 have c:True:=trivial;obtain⟨W,S,L,j,T,U⟩:=J0 p d;have g:=wJ z y (P.follows .mixedOrders) t;have c:Step b h w b { h with next:=h.next+ops.size } { w with drawn:=w.drawn+1 }:=
  (Step.of_heap e rfl rfl ⟨rfl,le_succ _⟩ rfl:Step b h w b h { w with drawn:=w.drawn+1 }).trans (Step.room (w:={ w with drawn:=w.drawn+1 }) (e.of_heap rfl) ops.size)
 refine J2 (β₀:=b) (h:=h) (w₀:=w) (a₀:=a) C A p L (by rw[j]) g F ?_ _ [] b _ a 0 [] rfl ⟨Nat.zero_le _,?_,?_,?_,?_,?_,?_,?_,rfl⟩
 ·grind
 ·grind
 ·grind
 ·rw[j];exact c
 ·grind
 ·intro i B q x;rw[j]at x;have:h.get (h.next+i)=some B:=x;have:=e.wf _ _ this;omega
 ·intro i q _ _;exact e.mW (by omega)
 ·rw[j];refine⟨by rw[u.1,length_toList],λt M R=>⟨λi o q=>by grind,λ_ v G=>?_⟩⟩;exact u.2 t v M G (by grind)
theorem Ki(g:Nat->Nat)(i:Nat):∀(a:List Edge)(s:Nat),(a.foldl (λs e=>if Region.binds .any e then s|||2^e.on|||g e.on else s) s).testBit i=true↔
  s.testBit i=true\/ ∃e∈a,Region.binds .any e=true/\(e.on=i\/(g e.on).testBit i=true)
 |[],s=>by simp
 |e::a,s=>by
  rw[List.foldl_cons,Ki g i a]
  grind
def uf(a:Array Nat)(o:Oper):Nat:=o.after.foldl (λs e=>if Region.binds .any e then s|||2^e.on|||a.getD e.on 0 else s) 0
theorem Gp:∀(l:List Oper)(a:Array Nat),(l.foldl (λa o=>a.push (uf a o)) a).size=a.size+l.length/\
  (∀i,i<a.size->(l.foldl (λa o=>a.push (uf a o)) a)[i]?=a[i]?)/\
  ∀i o,l[i]?=some o->∃b,(l.foldl (λa o=>a.push (uf a o)) a)[a.size+i]?=some (uf b o)/\∀k,k<a.size+i->b[k]?=(l.foldl (λa o=>a.push (uf a o)) a)[k]?
 |[],a=>⟨by simp,λ_ _=>rfl,λi o h=>by grind⟩
 |o::l,a=>by
  obtain⟨d,e,c⟩:=Gp l (a.push (uf a o))
  grind
theorem Qb(ops:Array Oper):Region.before ops=ops.toList.foldl (λa o=>a.push (uf a o)) #[]:=by
 unfold Region.before;rw[<-Array.foldl_toList];rfl
theorem Yt{ops:Array Oper}(m:LW ops)(j i:Nat):fp (lX ops) j i=true↔ ∃o,ops[j]?=some o/\∃e∈o.after,Region.binds .any e=true/\(e.on=i\/fp (lX ops) e.on i=true):=by
 have q:∀k,(lX ops).getD k 0=(Region.before ops).getD k 0:=λk=>by simp[lX,List.getD,Array.getD_eq_getD_getElem?]
 obtain⟨n,_,f⟩:=Gp ops.toList #[];rw[<-Qb]at n f;simp only[List.size_toArray,List.length_nil,Nat.zero_add,getElem?_toList,length_toList]at n f
 cases g:ops[j]? with
 |none=>grind[fp]
 | some o=>
  obtain⟨d,p,r⟩:=f j o g;simp only[fp,q];rw[Array.getD_eq_getD_getElem?,p,Option.getD_some,uf,<-Array.foldl_toList,Ki (λk=>d.getD k 0)];simp only[Nat.zero_testBit,false_eq_true,false_or,Option.some.injEq,exists_eq_left',Array.mem_toList_iff];constructor
  ·rintro⟨e,c,a,b⟩;refine⟨e,c,a,b.imp id λb=>?_⟩;have l:e.on<j:=by
    rcases m j o g e c with h|⟨h,_⟩
    ·exact h
    ·rw[h]at a;cases a
   simp_all
  ·rintro⟨e,c,a,b⟩;refine⟨e,c,a,b.imp id λb=>?_⟩;have l:e.on<j:=by
    rcases m j o g e c with h|⟨h,_⟩
    ·exact h
    ·rw[h]at a;cases a
   simp_all
theorem LW.lt{ops:Array Oper}(a:LW ops){j:Nat}{o:Oper}(c:ops[j]?=some o){e:Edge}(b:e∈o.after)(d:Region.binds .any e=true):e.on<j:=by
 rcases a j o c e b with h|⟨h,_⟩
 all_goals grind
theorem yj:∀(l:List Oper)(j:Nat),HD l j=true->∀i o,l[i]?=some o->∀e∈o.after,e.on<j+i\/Region.binds .any e=false/\Region.binds .text e=false
 |[],_,_,i,o,a,_,_=>by grind
 | c::l,j,h,i,o,a,e,b=>by
  simp only[HD,and_eq_true]at h
  cases i with
  |zero=>grind
  |succ i=>
   have:=yj l (j+1) h.2 i o (by simpa using a) e b
   grind
theorem uS{a:List Nat}{j:Nat}{t:Tmp}:∀(l:List Oper)(k:Nat),uR a j t l k=true->∀i o,l[i]?=some o->o.dst=some t->k+i=j\/fp a j (k+i)=true\/fp a (k+i) j=true
 |[],_,_,i,o,b,_=>by grind
 | d::l,k,h,i,o,b,c=>by
  simp only[uR,and_eq_true]at h
  cases i with
  |zero=>grind
  |succ i=>
   have:=uS l (k+1) h.2 i o (by simpa using b) c
   grind
theorem sF{c:List Nat}{all:List Oper}:∀(l:List Oper)(k:Nat),Im c all l k=true->∀i o,l[i]?=some o->
  (∀t,Operand.tmp t∈o.op.operands->uR c (k+i) t all 0=true)/\∀g b,o.guard=some (g,b)->fp c (k+i) g=true
 |[],_,_,i,o,a=>by grind
 | e::l,k,h,i,o,a=>by
  simp only[Im,and_eq_true]at h
  cases i with
  |zero=>
   simp only[List.getElem?_cons_zero,Option.some.injEq]at a;subst a;refine⟨λt d=>?_,λg b f=>?_⟩
   ·exact all_eq_true.1 h.1.1 (.tmp t) (by simpa using d)
   grind
  |succ i=>
   have:=sF l (k+1) h.2 i o (by simpa using a)
   grind
theorem sX:∀(l:List Oper)(m:Nat),A1 l m=true->(∀(i:Nat)(o:Oper)(t:Tmp),l[i]?=some o->o.dst=some t->m.testBit t=false)/\
  ∀(i j:Nat)(o a:Oper)(t:Tmp),l[i]?=some o->l[j]?=some a->o.dst=some t->a.dst=some t->i=j
 |[],_,_=>⟨λi o t h=>by grind,λi j o a t h=>by grind⟩
 | x::l,m,h=>by
  cases b:x.dst with
  |none=>
   simp only[A1,b]at h;obtain⟨c,e⟩:=sX l m h
   grind
  |some d=>
   simp only[A1,b,and_eq_true,Bool.not_eq_true']at h;obtain⟨c,e⟩:=sX l _ h.2
   grind
theorem HJ{ops:Array Oper}(h:MF ops=true):C6 ops (fp (lX ops))/\LW ops/\(Region.departs ops=true->(Region.linearise .gc ops 0).length=ops.size):=by
 simp only[MF,and_eq_true]at h;obtain⟨⟨⟨D,E⟩,I⟩,z⟩:=h;have l:LW ops:=λi o a e d=>by
  have:=yj ops.toList 0 D i o (by simpa using a) e d;rwa[Nat.zero_add]at this
 have f:=Yt l;have x:∀j i,fp (lX ops) j i=true->i<j:=by
  intro j
  induction j using Nat.strongRecOn with
  |_ j m=>
   intro i s;obtain⟨o,a,e,d,c,hh⟩:=(f j i).1 s;have:=l.lt a d c;rcases hh with hh|hh
   ·omega
   ·have:=m _ this i hh;omega
 refine⟨⟨x,?_,?_,?_,?_,?_⟩,l,?_⟩
 ·intro k
  induction k using Nat.strongRecOn with
  |_ k m=>
   intro j i g A;obtain⟨o,a,e,d,c,hh⟩:=(f k j).1 g;refine(f k i).2 ⟨o,a,e,d,c,.inr ?_⟩;rcases hh with rfl|hh
   ·exact A
   ·exact m _ (l.lt a d c) j i hh A
 ·intro L C q j
  induction j using Nat.strongRecOn generalizing q with
  |_ j m=>
   intro p r i s;obtain⟨o,a,e,d,c,hh⟩:=(f j i).1 s;have y:=C.ae2 q j p r o a e d c;rcases hh with rfl|hh
   ·exact y
   ·obtain⟨G,B,rfl⟩:=List.append_of_mem y;exact mem_append_left _ (m _ (l.lt a d c) G (B++j::p) (by rw[r];simp) i hh)
 ·intro j o t a v i u n F;have g:=(sF ops.toList 0 z j o (by simpa using a)).1 t v;rw[Nat.zero_add]at g;have:=uS ops.toList 0 g i u (by simpa using n) F;rwa[Nat.zero_add]at this
 ·intro j o i b a H;have g:=(sF ops.toList 0 z j o (by simpa using a)).2 i b H;rwa[Nat.zero_add]at g
 ·intro i j o u t a n v w;exact(sX ops.toList 0 E).2 i j o u t (by simpa using a) (by simpa using n) v w
 grind
theorem tl(k:gn P){b:ew}(e:tB P gl b):∀{d c:Code},Part d c->cZ c=true->m8 P gl b d:=by
 have n:∀c,cZ c=true->m8 P gl b c:=by
  intro c h i ops f;subst f;obtain⟨j,l,g⟩:=HJ h;exact Ub k e j l g i ops rfl
 intro d c m
 induction m with
 |refl=>grind
 |NO _ a=>simp_all[cZ]
 |II _ a=>simp_all[cZ]
 |aaN _ a=>simp_all[cZ]
 |aaL _ a=>simp_all[cZ]
 |block _ a=>grind[cZ]
 |loop _ a=>grind[cZ]
theorem r8(b:gn P):FU P gl:=λ_ a _ _ c h=>tl b a c h
def fU(a:Func):Bool:=match a.body with|some c=>cZ c|none=>true
theorem JG(i:gn P)(h:∀(f:FuncId) (a:Func),P.funcs[f]?=some a->fU a=true):Jb P gl:=λj b f a c d g e k=>by grind[tl,fU]
end
variable{P:Program}
section
theorem D2{cf:ew}{ρ:Operand->Value}{o:Oper}{h:ae}(g:bS o=false):gL P jw ρ o h=gL P cf ρ o h:=by
 obtain⟨dst,d,ty,pos,after,guard⟩:=o
 cases d<;>try rfl
 rename_i c;obtain⟨a,e,i⟩:=c
 cases a with
 |value f=>simp[bS]at g
 |invoke r m=>rfl
 |builtin b=>cases b<;>rfl
theorem Ng{cf:ew}{ρ:Operand->Value}{o:Oper}{h:ae}(a:bS o=false):ef P jw ρ o h=ef P cf ρ o h:=by
 unfold ef;rw[D2 a]
variable {cf:ew} {ρ:Operand->Value} {h:ae} {K:Value->ae->Bool} {dst:Option Tmp} {ty:TypeId} {pos:String} {after:Array Edge} {guard:Option (Nat×Bool)}
end
variable{f:FuncId}{F:Func}
section
variable {β:dN} {P:Program} {gl:Nat->Bool}
theorem wC{e:Array Value->Sem Value}{p:vN}(l:P.funcs[f]?=some F)(g:(F.name == "runtime.NumGoroutine")=false) (m:F.body.isNone=true) (n:Extern.findNext F=none) (u:Extern.find F=some e)
  (h:∀k b h v i,p k b h=some (v,i)->∀β w (a:Array Value),kM β h w->bp β b a.toList->∃j d c,(e a).run P w = .ok j d/\Step β h w c i d/\aE c v j):ph P gl f p:=by
 intro k _ b r v i y β w a q _ x;obtain⟨j,d,c,s,t,o⟩:=h k b r v i y β w a q x;refine⟨F,l,.inr ⟨j,d,c,?_,t,o⟩⟩;rw[run_callFunc_extern l g m n u,s];rfl
def rk:vN:=λ_ a h=>match a with
 |[v]=>some (v,h)
 |_=>none
theorem KI{fn:Func}(i:P.funcs[f]?=some fn)(a:(fn.name == "runtime.NumGoroutine")=false) (g:fn.body.isNone=true) (d:Extern.findNext fn=none) (l:Extern.find fn=some Extern.AbiNoEscape.same):ph P gl f rk:=by
 refine wC i a g d l λq n h v p c β w b k m=>?_;unfold rk at c;split at c
 ·next u=>
  simp only[Option.some.injEq,Prod.mk.injEq]at c;obtain⟨rfl,rfl⟩:=c;obtain⟨e,r,o,j,d⟩:=m.dH;obtain rfl:=d.fH;obtain rfl:b = #[e]:=by
   have:=congrArg List.toArray o;simpa using this
  exact⟨e,w,β,rfl,Step.refl k,j⟩
 grind
noncomputable def findAt(c:Nat):List UInt8->Nat->Int
 |[],_=> -1
 |b::l,i=>if b.toNat=c then i else findAt c l (i+1)
noncomputable def pN:vN:=λ_ a h=>match a with
 |[.string s,.int .u8 c]=>if 0<=c/\c<256 then some (.int .i64 (findAt c.toNat s.data.toList 0),h)else none
 |_=>none
theorem Qt(s:ByteArray)(c:Nat)(p:c<256):findAt c s.data.toList 0=firstIdx s c.toUInt8:=by
 have f:∀(l:List UInt8)(i:Nat),s.data.toList.drop i=l->findAt c l i=match (List.range' i l.length).find? λj=>s[j]! == c.toUInt8 with|some j=>(j:Int)|none=> -1:=by
  intro l
  induction l with
  |nil=>intro i _;rfl
  | cons b l m=>
   intro i d;have e:i<s.data.toList.length:=by
    rcases lt_or_ge i s.data.toList.length with h|h
    ·exact h
    ·rw[drop_eq_nil_of_le h]at d;cases d
   have k:s[i]! = b:=by
    have n:s.data.toList[i]?=some b:=by
     have:(s.data.toList.drop i)[0]?=some b:=by rw[d];rfl
     rw[getElem?_drop]at this;simpa using this
    have g:i<s.size:=by simpa using e
    rw[getElem!_pos s i g];have:s.data[i]?=some b:=by rw[<-getElem?_toList];exact n
    rw[Array.getElem?_eq_getElem (by simpa using e)]at this;exact oI this
   have o:s.data.toList.drop (i+1)=l:=by rw[<-drop_drop,d];rfl
   simp only[findAt,length_cons,range'_succ,List.find?_cons,k];by_cases a:b.toNat=c
   ·have:(b==c.toUInt8)=true:=by
     rw[beq_iff_eq,<-UInt8.toNat_inj];simp[a];omega
    rw[if_pos a,this]
   ·have:(b==c.toUInt8)=false:=by
     rw[beq_eq_false_iff_ne];rintro rfl;apply a;simp;omega
    rw[if_neg a,this];exact m (i+1) o
 rw[f s.data.toList 0 rfl];unfold firstIdx;rw[List.range_eq_range',show s.data.toList.length=s.size by simp];rfl
theorem HV{fn:Func}(j:P.funcs[f]?=some fn)(b:(fn.name == "runtime.NumGoroutine")=false) (i:fn.body.isNone=true) (e:Extern.findNext fn=none) (n:Extern.find fn=some Extern.BytealgIndexByte.indexByte):ph P gl f pN:=by
 refine wC j b i e n λy p h v u a β w d l o=>?_;unfold pN at a;split at a
 ·next s c=>
  split at a
  ·next A=>
   simp only[Option.some.injEq,Prod.mk.injEq]at a;obtain⟨rfl,rfl⟩:=a;obtain⟨x,r,q,k,e⟩:=o.dH;obtain⟨t,z,rfl,m,g⟩:=e.dH;obtain rfl:=g.fH;obtain rfl:=k.ga;obtain rfl:=m.eo;obtain rfl:d = #[.string s,.int .u8 c]:=by
    have:=congrArg List.toArray q;simpa using this
   refine⟨_,w,β,run_indexByte_string s c w,Step.refl l,?_⟩;rw[Qt s c.toNat (by omega)];exact .int _ _
  ·cases a
 grind
def β0:dN:=λ_=>none
def Q9:Nat->Bool:=λ_=>false
theorem ae.get_nil(n k:Nat):(⟨n,.nil⟩:ae).get k=none:=HT.get_nil _
theorem Pe(n:Nat)(w:World):kM β0 ⟨n,.nil⟩ w:=
 {
  lt:=λk a h=>nomatch h
  blk:=λk B a h=>by grind[ae.get_nil]
  own:=λk c B d a b _ h=>by grind[ae.get_nil]
  wf:=λk B h=>by grind[ae.get_nil] }
theorem MS:Gl Q9 β0:=λg h=>by cases h
open Go.RowKit in
theorem Fq{n:Nat}{w a:World}{b:dN}{c:ae}(s:Step β0 ⟨n,.nil⟩ w b c a):Below w.heap.size w a:=
 ⟨s.os,s.tape.1,s.output,s.size,λk d=>s.kept k d λ⟨k,B,f,e,_⟩=>by grind[ae.get_nil]⟩
end
end Go.Ab
end
section
namespace Go.Ab
open Go Go.RowKit
variable{h:ae}{W:World}{c:List Value}{v:Value}{w:Value}
section
variable {β:dN} {P:Program} {gl:Nat->Bool}
theorem wK{e:World}(c:kM β h W)(a:Below W.heap.size W e)(j:W.drawn<=e.drawn):Step β h W β h e:=
 {
  le:=β.le_refl,next:=Nat.le_refl _
  pS:={ lt:=λk d i=>⟨(c.lt k d i).1,lt_of_lt_of_le (c.lt k d i).2 a.size⟩,blk:=λk B d f g=>(c.blk k B d f g).of_heap (a.block _ (c.lt k d g).2),own:=c.own,wf:=c.wf }
  size:=a.size,os:=a.os,tape:=⟨a.tape,j⟩,output:=a.output
  kept:=λb f _=>a.block b f
  back:=λ_ _ h=>h,fresh:=λ_ _ h=> .inl h,keys:=λ_ B h _=>⟨B,h⟩ }
theorem bp.yT{β:dN}(h:c.all bare=true):bp β c c:=by
 induction c with
 |nil=>exact .nil β
 |cons v c a=>
  simp only[all_cons,and_eq_true]at h;exact .cons (.yR h.1) (a h.2)
theorem aE.Ys{β:dN}(a:bare v=true)(h:aE β v w):w=v:=by
 cases h<;>first|rfl|(simp[bare]at a)
end
variable{n:Nat}{f:FuncId}{V:Array Value}
section
variable {β:dN} {P:Program} {gl:Nat->Bool}
noncomputable def xz(P:Program)(gl:Nat->Bool)(e:Func)(k b:Code)(d:Tmp):vN:=λi a h=>
 match bN P gl i 40 k (a++List.replicate (e.ntmps-a.length) undef) h with
 | some (.normal,f,l)=>if d<f.length then
   match bN P gl i 40 b (f.set d iq) l with
   |some (.ret,c,g)=>(dL P c g e.results.toList).map λj=>(dP j,g)
   |_=>none
  else none
 |_=>none
theorem yp{fn:Func}{c:Code}{u:FrameMode}{Bool:Ending->FrameMode->World->Prop}(l:P.funcs[f]?=some fn)(s:fn.body=some c)
  (h:∀(a:Frame)(cs:List Frame),a.mode=u->c.wpS P (bodyPostS P fn a cs Bool) { tmps:=V++Array.replicate (fn.ntmps-V.size) undef,defers:=[] } (a::cs) W):CallsDIn Fence.wide n P f V u W Bool:=by
 refine⟨trivial,λa cs t _=>?_⟩;have r:Frame.enter P f V .deferred=({ (default:Frame)with fn:=f,kind:= .deferred }:Frame).at { tmps:=V++Array.replicate (fn.ntmps-V.size) undef,defers:=[] } [.code c]:=by
  simp[Frame.enter,Frame.at,l,s]
 obtain⟨e,x,w,k,i,b⟩:=h a cs t { (default:Frame)with fn:=f,kind:= .deferred } [] rfl rfl;rw[<-r]at b;rcases e with _|_|_|_|m|_
 ·obtain⟨j,d,rfl,v,q,g⟩:=i;exact⟨.returned v,d,k,_,g,comesIn_wide.2 (Steps.trans b (.one step_end)),rfl,rfl,rfl,j,fn,l,q⟩
 ·exact i.elim
 ·exact i.elim
 ·obtain⟨j,d,rfl,v,q,g⟩:=i;obtain⟨p,o⟩:=b;exact⟨.returned v,d,k,_,g,comesIn_wide.2 o,rfl,rfl,rfl,j,fn,l,q⟩
 ·obtain⟨j,d,rfl,g⟩:=i;obtain⟨p,o⟩:=b;exact⟨.panicked m,d,k,_,g,comesIn_wide.2 o,rfl,rfl,rfl,j,fn,l⟩
 ·obtain⟨d,g⟩:=i;exact⟨.outgrown,d,k,{ (default:Frame)with fn:=f,kind:= .deferred },g,comesIn_wide.2 (b.resolve_left (by simp)),rfl,rfl,trivial⟩
theorem qd{F:Fence}{n:Nat}{l:Func}{e i:dN}{h q:ae}{d:World}{g:Array Value}{Bool:Ending->World->Prop}{s:List Deferred}:
  ∀(f:List Nat)(c:World),f.Nodup->(∀b∈f,d.heap.size<=b/\c.heap[b]?=some (.deferred (some [])))->Step e h d i q c->
   (∀a,Step e h d i q a->(∀b,b∉f->a.heap[b]?=c.heap[b]?)->LeavesInM F n P l g Bool s .returning a)->LeavesInM F n P l g Bool (f.map H4++s) .returning c
 |[],c,_,_,k,j=>j c k λ_ _=>rfl
 | b::f,c,v,u,k,j=>by
  obtain⟨w,p⟩:=u b (by simp);obtain⟨y,o⟩:=List.nodup_cons.1 v;refine⟨by simp,.inl ⟨b,_,rfl,run_takeDeferred p,?_⟩⟩;refine qd f _ o (λx z=>?_) (G6 k w p) λa r t=>j a r λx m=>?_
  ·grind[World.putObj_heap_other]
  ·simp only[mem_cons,not_or]at m
   grind[World.putObj_heap_other]
theorem T7(I:gn P){fW j:FuncId}{s Y:Func}{N l:Code}{i1:Nat}{p m:Oper}{d:Tmp}{g:Array Operand}
  (hf:P.funcs[fW]?=some s) (hb:s.body=some (.seq N (.seq (.region i1 #[p,m] false) l)))
  (W:p.op = .makeFunc (.func j) #[] g) (z1:p.dst=some d) (x8:p.guard=none) (y6:m.op = .defer { callee:= .value (.tmp d),args:= #[],argTypes:= #[] }) (z6:m.guard=none) (z3:m.dst=none)
  (z7:P.funcs[j]?=some Y) (z4:Y.body.isSome=true)
  (R:∀(args:Array Value)(w:World),args.size=g.size->CallsDIn Fence.wide 0 P j args .returning w λe u' w'=>(∃v,e = .returned v)/\u' = .returning/\Below w.heap.size w w'/\w.drawn<=w'.drawn)
  (y0:cZ N=true) (y3:cZ l=true):ph P gl fW (xz P gl s N l d):=by
 intro cf A args h v h' z β w o hs hg ha;refine⟨s,hf,.inl ⟨by simp[hb],?_⟩⟩;unfold xz at z;split at z
 ·next tm H y7=>
  split at z
  ·next x6=>
   split at z
   ·next z9 B O=>
    obtain⟨vs,x4,he⟩:=map_eq_some_iff.1 z;simp only[Prod.mk.injEq]at he;obtain⟨rfl,rfl⟩:=he;refine(callsIn_wide (n:=0)).1 (callsIn_of_wp_marks (F:=Fence.wide) hf hb trivial ?_);have x1:∀k,bp β (List.replicate k undef) (List.replicate k undef):=λk=>⟨rfl,λi v v' H B=>by
     rw[getElem?_replicate]at H B;split at H
     ·next hi=>rw[if_pos hi]at B;obtain rfl:=oI H;obtain rfl:=oI B;exact .undef β
     ·cases H⟩
    have ht:bp β (args++List.replicate (s.ntmps-args.length) undef) (o++Array.replicate (s.ntmps-o.size) undef).toList:=by
     have:o.size=args.length:=by rw[ha.1];simp
     rw[this];simp only[Array.toList_append,Array.toList_replicate];exact ha.append (x1 _)
    refine wpIn_seq ?_;refine yr (r:=none) I A N (.inl rfl) (lg (r8 I _ A) y0) _ y7 hs hg ht λf x z0 q X z2=>?_;refine wpIn_seq (wpIn_region ?_);have y5:d<f.tmps.size:=by have:=X.1;rw[<-length_toList,<-this];exact x6
    have y8:(f.put (some d) (.func (.func j) #[] (g.map f.eval))).eval (.tmp d) = .func (.func j) #[] (g.map f.eval):=by
     simp[Act.put,Act.eval,y5]
    have y2:Region.wanted p (yielded #[p,m] f.tmps)=true:=by simp[Region.wanted,x8]
    have x7:∀t,Region.wanted m (yielded #[p,m] t)=true:=λt=>by simp[Region.wanted,z6]
    show wpOpsIn (kz none) 0 P #[p,m] _ [0,1] f x;simp only[wpOpsIn,List.getElem?_toArray,List.getElem?_cons_zero,List.getElem?_cons_succ,y2,if_true];refine⟨λ_ _=>trivial,?_⟩;rw[Oper.semAt_eq _ _ _ (λc hc=>by rw[W]at hc;cases hc)];have Q:(execOp f.eval p).run P x = .ok (.value (.func (.func j) #[] (g.map f.eval))) x:=by
     unfold execOp;simp[W,Instr.makeFunc]
    rw[Q];rw[Oper.uponIn_value];rw[z1,if_pos (x7 _)];refine⟨λ_ _=>trivial,?_⟩;have T:(m.semAt (kz none).round (f.put (some d) (.func (.func j) #[] (g.map f.eval))).eval).run P x = .ok (.defer { target:= .fn (.func j) (g.map f.eval),args:= #[] }) x:=by
     show(execOp (f.put (some d) (.func (.func j) #[] (g.map f.eval))).eval m).run P x=_;unfold execOp;simp only[y6,resolve,y8,Deferred.ofValue,Sem.run_bind,Sem.run_pure,Result.andThen_ok];simp
    rw[T];show Code.wpIn (kz none) 0 P l _ ({ (f.put (some d) (.func (.func j) #[] (g.map f.eval)))with defers:={ target:= .fn (.func j) (g.map f.eval),args:= #[] }::(f.put (some d) (.func (.func j) #[] (g.map f.eval))).defers }.put m.dst undef) x;rw[z3];have x2:bp z0 (tm.set d iq) (f.put (some d) (.func (.func j) #[] (g.map f.eval))).tmps.toList:=by
     have:=mh X (some d) (v:=iq) (.iq (.func (.func j) #[] (g.map f.eval)));exact this
    refine yr (r:=none) I A l (.inl rfl) (lg (r8 I _ A) y3) _ O q.pS (hg.mono q.le) (a:={ (f.put (some d) (.func (.func j) #[] (g.map f.eval)))with defers:=_ }) x2 λM S u0 y y4 x9=>?_;have U:=q.trans y;obtain⟨J,C,y9,V⟩:=z2;obtain⟨K,x3,y1,E⟩:=x9;simp only[append_nil]at C;have x0:M.defers=K.map H4++({ target:= .fn (.func j) (g.map f.eval),args:= #[] }::J.map H4):=by
     rw[x3];show _++(_::(f.put (some d) _).defers)=_;rw[put_defers,C]
    show LeavesInM Fence.wide 0 P s M.tmps (qy β h w (dP vs) B) M.defers .returning S;rw[x0];refine qd K S y1 (λb D=>⟨Nat.le_trans q.size (E b D).1,(E b D).2.2.1⟩) U λw3 G L=>?_;refine⟨by simp,.inr ⟨λhd=>by simp[Fence.wide]at hd,.func j,g.map f.eval,j,#[]++g.map f.eval,rfl,iU I z7 z4 _ _,λ_ _=>trivial,?_⟩⟩;refine(R (#[]++g.map f.eval) w3 (by simp)).mono ?_;rintro e u' w4 ⟨⟨v,rfl⟩,rfl,u,z5⟩;show LeavesInM Fence.wide 0 P s M.tmps (qy β h w (dP vs) B) (J.map H4) .returning w4;refine sr (P:=P) x4 y4 J w4 y9 (λb D=>⟨(V b D).1,?_⟩) (G.trans (wK G.pS u z5));obtain⟨h4,h5,h6,h7⟩:=V b D;have z8:b<S.heap.size:=lt_of_lt_of_le h5 y.size;have x5:b∉K:=λZ=>by have:=(E b Z).1;omega
    have h8:S.heap[b]?=some (.deferred (some [])):=(y.kept b h5 h7).trans h6;have h9:w3.heap[b]?=some (.deferred (some [])):=(L b x5).trans h8;rw[u.block b ?_,h9];exact(Array.getElem?_eq_some_iff.1 h9).1
   ·cases z
  ·cases z
 grind
end
section
variable {P:Program} {gl:Nat->Bool}
noncomputable def TU{a:Type}(b:Bool)(x y:Option a):Option a:=Bool.rec (motive:=λ_=>Option a) y x b
theorem KT:rT P gl (λ_=>none):=λ_ _ h=>by cases h
theorem oE{p:vN}{c:FuncId->Option vN}(h:ph P gl f p)(d:rT P gl c):rT P gl (λg=>TU (Nat.beq g f) (some p) (c g)):=λg q a=>by
 dsimp only at a
 cases b:Nat.beq g f with
 |false=>rw[b]at a;exact d g q a
 |true=>
  rw[b]at a;obtain rfl:=oI a
  simp_all
structure HA(P:Program):Prop where
 names:gn P
 aaQ:∀(f:FuncId)(fn:Func),P.funcs[f]?=some fn->fU fn=true
theorem HA.afn(h:HA P){pr:FuncId->Option vN}(a:rT P gl pr)(n:Nat):tB P gl (ck P gl pr n):=OB h.names a (JG h.names h.aaQ) (r8 h.names) n
end
end Go.Ab
end
section
namespace Go.Ab
open Go
variable{d:List Value}{f:FuncId}{w:Value}{P:Program}{F:Func}
section
structure Sx where
 P:Program
 gl:Nat->Bool
 pr:FuncId->Option vN
abbrev Fr:=Nat->Value
def upd(E:Fr)(d:Nat)(v:Value):Fr:=λt=>if t=d then v else E t
def vY(E:Fr)(dst:Option Tmp)(v:Value):Fr:=match dst with
 |some d=>upd E d v
 |none=>E
def fG(gl:Nat->Bool)(E:Fr):Operand->Value
 |.tmp t=>E t
 |.const v=>if plain v then v else iq
 |.global g=>if gl g then .pointer (some ⟨g,0,none⟩)else iq
 |.func f=> .func (.func f) #[] #[]
def ER(nm:Nat)(E:Fr)(a:List Value):Prop:=a.length=nm/\∀t,a.getD t undef=E t
def tU(nm:Nat):Option Tmp->Bool
 |none=>true
 |some d=>decide (d<nm)
theorem ER.ev{nm:Nat}{E:Fr}{a:List Value}(gl:Nat->Bool)(h:ER nm E a):ev gl a=fG gl E:=by
 funext x
 cases x with
 |tmp t=>exact h.2 t
 |const v=>rfl
 |global g=>rfl
 |func f=>rfl
theorem ER.put{nm:Nat}{E:Fr}(h:ER nm E d){dst:Option Tmp}(b:tU nm dst=true)(v:Value):ER nm (vY E dst v) (jK d dst v):=by
 cases dst with
 |none=>exact h
 |some c=>
  have b:c<nm:=by simpa[tU]using b
  refine⟨by simp[jK,h.1],λt=>?_⟩;simp only[jK,vY,upd,gD,List.getElem?_set];by_cases a:t=c
  ·subst a;rw[if_pos rfl,if_pos rfl,if_pos (by rw[h.1];omega)];rfl
  ·rw[if_neg a,if_neg (λe=>a e.symm),<-gD];exact h.2 t
def FR(S:Sx)(f:FuncId)(a:List Value)(h:ae)(v:Value)(b:ae):Prop:=∃c,∀n,c<=n->ck S.P S.gl S.pr n f a h=some (v,b)
def FW(S:Sx)(f:FuncId)(a:List Value)(h:ae)(Q:Value->ae->Prop):Prop:=∃v b,FR S f a h v b/\Q v b
theorem FW.mono{S:Sx}{h:ae}{Q R:Value->ae->Prop}(c:FW S f d h Q)(g:∀v a,Q v a->R v a):FW S f d h R:=by
 obtain⟨v,a,b,e⟩:=c;exact⟨v,a,b,g v a e⟩
abbrev VH:=Value->ae->Prop
abbrev FH:=Fr->ae->Prop
abbrev Fh:=Exit->Fr->ae->Prop
def EP(ops:Array Oper)(E:Fr)(a:Option (Nat×Bool)):Option Bool:=match a with
 |none=>some true
 | some (j,c)=>match (ops[j]?).bind (·.dst)with
  |some d=>match E d with
   |.bool b=>some (b==c)
   |.tuple _=>some false
   |_=>none
  |none=>none
theorem pR{nm:Nat}{E:Fr}(h:ER nm E d)(ops:Array Oper)(o:Oper):jv ops d o=EP ops E o.guard:=by
 unfold jv EP
 cases o.guard with
 |none=>rfl
 |some g=>
  obtain⟨j,a⟩:=g;dsimp only
  cases (ops[j]?).bind (·.dst)with
  |none=>rfl
  |some b=>dsimp only;rw[h.2 b];rfl
def Ja(r:Option (Value×dV))(h:ae)(K:VH):Prop:=match r with
 |some (v,u)=>K v (u.app h)
 |none=>False
def vL(r:Option Value)(h:ae)(K:VH):Prop:=match r with
 |some v=>K v h
 |none=>False
def s8(S:Sx)(f:Value)(b:List Value)(h:ae)(K:VH):Prop:=match f with
 |.func (.func g) first a=>g<YB/\FW S g (first.toList++b++a.toList) h K
 |.func (.yield k) first a=>(first.size=0/\a.size=0)/\FW S (YB+k) b h K
 |_=>False
def wpOp(S:Sx)(E:Fr)(o:Oper)(h:ae)(K:VH):Prop:=match o.op with
 |.call { callee:= .value f,args,.. }=>s8 S (fG S.gl E f) (args.toList.map (fG S.gl E)) h K
 |_=>Ja (ef S.P jw (fG S.gl E) o h) h K
def wpG(r:Option Bool)(A B:Unit->Prop):Prop:=match r with
 |some true=>A ()
 |some false=>B ()
 |none=>False
def XU(S:Sx)(ops:Array Oper):List Oper->Fr->ae->FH->Prop
 |[],E,h,R=>R E h
 |o::l,E,h,R=>wpG (EP ops E o.guard) (λ_=>wpOp S E o h λv h=>XU S ops l (vY E o.dst v) h R) (λ_=>XU S ops l (vY E o.dst undef) h R)
def ad7(S:Sx)(ops:Array Oper)(dst:Option Tmp)(l:List Oper)(E:Fr)(h:ae)(R:FH)(_:Unit):Prop:=XU S ops l (vY E dst undef) h R
def opK(S:Sx)(ops:Array Oper)(dst:Option Tmp)(l:List Oper)(E:Fr)(R:FH)(v:Value)(h:ae):Prop:=XU S ops l (vY E dst v) h R
def afa(S:Sx)(ops:Array Oper)(o:Oper)(l:List Oper)(E:Fr)(h:ae)(R:FH)(_:Unit):Prop:=wpOp S E o h (opK S ops o.dst l E R)
section
variable (S:Sx) (ops:Array Oper) (o:Oper) (l:List Oper) (dst:Option Tmp) (E:Fr) (h:ae) (R:FH) (v:Value)
theorem XD:XU S ops (o::l) E h R=wpG (EP ops E o.guard) (afa S ops o l E h R) (ad7 S ops o.dst l E h R):=rfl
theorem N8(ops:Array Oper)(E:Fr)(j:Nat)(a:Bool):EP ops E (some (j,a))=match (ops[j]?).bind (·.dst)with
  |some d=>(match E d with|.bool b=>some (b==a)|.tuple _=>some false|_=>none)
  |none=>none:=rfl
end
noncomputable section
variable (S:Sx) (bf:Nat->Nat->Bool)
def GX(o:Oper)(E:Fr)(v:Value)(h:ae):Bool:=match db S.P (fG S.gl E) o h with
 |some a=>dM 4 v a
 |none=>false
def qk(j:Nat)(o:Oper)(E:Fr)(v:Value):ae->List (Nat×ae)->Bool->Bool
 |h,[],a=>a||GX S o E v h
 |h,(e,b)::r,a=>((a&&Nat.blt j e)||bf j e||GX S o E v h)&&(bf e j||qk j o E v b r (Nat.blt e j))
abbrev LR:=Fr×Oper×tc
def xu(h:ae)(a:List (Nat×ae)):List LR->Nat->Bool
 |[],_=>true
 |(E,o,.read v)::r,j=>qk S bf j o E v h a true&&xu h a r (j+1)
 |_::r,j=>xu h a r (j+1)
def pZ:List LR->Nat->List (Nat×ae)
 |[],_=>[]
 |(_,_,.Co _ h)::r,j=>(j,h)::pZ r (j+1)
 |_::r,j=>pZ r (j+1)
def yu(h:ae)(a:List LR):Bool:=kg bf (pZ a 0)&&xu S bf h (pZ a 0) a 0
def EX(E:Fr)(o:Oper)(h:ae)(K:VH):Prop:=match o.op with
 |.call { callee:= .value f,args,.. }=>s8 S (fG S.gl E f) (args.toList.map (fG S.gl E)) h K
 |_=>Ja (gL S.P jw (fG S.gl E) o h) h K
def zJ(ops:Array Oper)(base:Nat)(b:ae):List Oper->Nat->Fr->ae->List (Nat×dQ)->List LR->FH->Prop
 |[],_,E,h,pd,a,R=>yu S bf b a.reverse=true/\R E (cg h base pd)
 | o::l,j,E,h,pd,a,R=>wpG (EP ops E o.guard)
   (λ_=>match dz S.P (fG S.gl E) o with
    |some v=>zJ ops base b l (j+1) (vY E o.dst v) h pd ((E,o,.pure v)::a) R
    | none=>match db S.P (fG S.gl E) o h with
     |some v=>zJ ops base b l (j+1) (vY E o.dst v) h pd ((E,o,.read v)::a) R
     |none=>match cd S.P (fG S.gl E) o with
      |some (B,f)=>zJ ops base b l (j+1) (vY E o.dst (f (base+j))) h ((j,B)::pd) ((E,o,.alloc B (f (base+j)))::a) R
      |none=>EX S E o (cg h base (pd.filter λp=>bf j p.1)) λv c=>zJ ops base b l (j+1) (vY E o.dst v) c (pd.filter λp=> !bf j p.1) ((E,o,.Co v c)::a) R)
   (λ_=>zJ ops base b l (j+1) (vY E o.dst undef) h pd ((E,o,.skip)::a) R)
def wpD(ops:Array Oper)(E:Fr)(h:ae)(R:FH):Prop:=
 Mq ops=false/\zJ S (fp (lX ops)) ops h.next { h with next:=h.next+ops.size } ops.toList 0 E { h with next:=h.next+ops.size } [] [] R
end
section
variable (S:Sx) (nm:Nat)
def S9(c:Code)(E:Fr)(h:ae)(x:Exit)(e:Fr)(f:ae):Prop:=
 ∃d,∀n N,d<=n->d<=N->∀b,ER nm E b->∃a,ER nm e a/\bN S.P S.gl (ck S.P S.gl S.pr n) N c b h=some (x,a,f)
def acI(c:Code)(E:Fr)(h:ae)(x:Exit)(e:Fr)(f:ae):Prop:=
 ∃b,∀n N j,b<=n->b<=N->b<=j->∀d,ER nm E d->∃a,ER nm e a/\iter (bN S.P S.gl (ck S.P S.gl S.pr n) N c) j d h=some (x,a,f)
def FV(c:Code)(E:Fr)(h:ae)(Q:Fh):Prop:=∃x a b,acI S nm c E h x a b/\Q x a b
def Mm(c:Code)(E:Fr)(h:ae)(Q:Fh):Prop:=∃x a b,S9 S nm c E h x a b/\Q x a b
def wpB(v:Value)(A B:Unit->Prop):Prop:=match v with
 |.bool true=>A ()
 |.bool false=>B ()
 |_=>False
def Xz:Code->Fr->ae->Fh->Prop
 |.skip,E,h,Q=>Q .normal E h
 |.region _ ops false,E,h,Q=>XU S ops ops.toList E h λE h=>Q .normal E h
 |.region _ ops true,E,h,Q=>wpD S ops E h λE h=>Q .normal E h
 |.seq a b,E,h,Q=>Xz a E h λx E h=>match x with
  |.normal=>Xz b E h Q
  |x=>Q x E h
 |.cond c a b,E,h,Q=>wpB (fG S.gl E c) (λ_=>Xz a E h Q) (λ_=>Xz b E h Q)
 |.block id c,E,h,Q=>Xz c E h λx E h=>match x with
  |.exit id'=>if id'=id then Q .normal E h else Q (.exit id') E h
  |x=>Q x E h
 |.loop c,E,h,Q=>FV S nm c E h Q
 |.exit id,E,h,Q=>Q (.exit id) E h
 |.ret,E,h,Q=>Q .ret E h
 |.label _,E,h,Q=>Q .normal E h
 |.rangeFunc f d a b,E,h,Q=>Mm S nm (.rangeFunc f d a b) E h Q
 |_,_,_,_=>False
def ado(c:Code)(Q:Fh)(x:Exit)(E:Fr)(h:ae):Prop:=match x with
 |.normal=>FV S nm c E h Q
 |x=>Q x E h
def goK(c:Code)(E:Fr)(h:ae)(Q:Fh)(_:Unit):Prop:=Xz S nm c E h Q
variable (a b c:Code) (o:Operand) (id id':Nat) (ops:Array Oper) (E:Fr) (h:ae) (Q:Fh)
theorem XA:Xz S nm (.cond o a b) E h Q=wpB (fG S.gl E o) (goK S nm a E h Q) (goK S nm b E h Q):=rfl
end
theorem aao{v:Value}{A B:Unit->Prop}(h:wpB v A B):∃b,v = .bool b/\((b=true/\A ())\/(b=false/\B ())):=by
 cases v with
 |bool b=>
  cases b with
  |true=>exact⟨true,rfl,.inl ⟨rfl,h⟩⟩
  |false=>exact⟨false,rfl,.inr ⟨rfl,h⟩⟩
 |_=>exact h.elim
theorem I1{r:Option Bool}{A B:Unit->Prop}(h:wpG r A B):(r=some true/\A ())\/(r=some false/\B ()):=by
 cases r with
 |none=>exact h.elim
 |some b=>
  cases b with
  |true=>exact .inl ⟨rfl,h⟩
  |false=>exact .inr ⟨rfl,h⟩
section
variable {S:Sx} {nm:Nat}
theorem zI{h:ae}{K:VH}(c:s8 S w d h K):∃v a b,(∀n,b<=n->Af (ck S.P S.gl S.pr n) w d h=some (v,.all a))/\K v a:=by
 unfold s8 at c;split at c
 ·next g first j=>
  obtain⟨k,v,a,⟨b,i⟩,f⟩:=c;refine⟨v,a,b,λn e=>?_,f⟩;simp only[Af];rw[if_pos k,i n e];rfl
 ·obtain⟨l,v,a,⟨b,i⟩,f⟩:=c;refine⟨v,a,b,λn e=>?_,f⟩;simp only[Af];rw[if_pos l,i n e];rfl
 grind
theorem pn{o:Oper}(b:bS o=true):∃f args a,o.op = .call { callee:= .value f,args:=args,argTypes:=a }:=by grind[bS]
theorem LG{E:Fr}{o:Oper}{h:ae}{K:VH}(c:EX S E o h K):∃v u d,(∀n,d<=n->gL S.P (ck S.P S.gl S.pr n) (fG S.gl E) o h=some (v,u))/\K v (u.app h):=by
 cases b:bS o with
 |true=>
  obtain⟨f,m,s,e⟩:=pn b;obtain⟨dst,r,q,p,i,g⟩:=o;dsimp only at e;subst e;obtain⟨v,l,d,j,k⟩:=zI c;exact⟨v,.all l,d,j,k⟩
 | false=>
  have a:Ja (gL S.P jw (fG S.gl E) o h) h K:=by
   unfold EX at c;split at c
   ·next e=>unfold bS at b;rw[e]at b;cases b
   ·exact c
  unfold Ja at a;split at a
  ·next v u e=>exact⟨v,u,0,λn _=>by rw[<-D2 b];exact e,a⟩
  grind
theorem KP{a:ew}{ρ:Operand->Value}{o:Oper}{h:ae}(g:bS o=true):ef P a ρ o h=gL P a ρ o h:=by
 obtain⟨f,d,l,e⟩:=pn g;obtain⟨dst,k,j,i,c,b⟩:=o;dsimp only at e;subst e;rfl
theorem Oe{E:Fr}{o:Oper}{h:ae}{K:VH}(c:wpOp S E o h K):∃v u d,(∀n,d<=n->ef S.P (ck S.P S.gl S.pr n) (fG S.gl E) o h=some (v,u))/\K v (u.app h):=by
 cases a:bS o with
 |true=>
  obtain⟨f,p,t,e⟩:=pn a;obtain⟨dst,s,r,q,i,g⟩:=o;dsimp only at e;subst e;obtain⟨v,m,d,k,l⟩:=zI c;exact⟨v,.all m,d,λn j=>by rw[KP a];exact k n j,l⟩
 | false=>
  have b:Ja (ef S.P jw (fG S.gl E) o h) h K:=by
   unfold wpOp at c;split at c
   ·next e=>unfold bS at a;rw[e]at a;cases a
   ·exact c
  unfold Ja at b;split at b
  ·next v u e=>exact⟨v,u,0,λn _=>by rw[<-Ng a];exact e,b⟩
  grind
theorem Ba(ops:Array Oper){R:FH}:∀(l:List Oper)(E:Fr)(h:ae),(l.all λo=>tU nm o.dst)=true->XU S ops l E h R->
  ∃e f x,(∀n,x<=n->∀d,ER nm E d->∃a,ER nm e a/\lE S.P S.gl (ck S.P S.gl S.pr n) ops l d h=some (a,f))/\R e f
 |[],E,h,_,b=>⟨E,h,0,λn _ d c=>⟨d,c,rfl⟩,b⟩
 | o::l,E,h,g,b=>by
  simp only[all_cons,and_eq_true]at g;rcases I1 b with⟨q,b⟩|⟨q,b⟩
  ·obtain⟨v,u,r,s,t⟩:=Oe b;obtain⟨e,f,j,k,m⟩:=Ba ops l _ _ g.2 t;refine⟨e,f,max r j,λn p d c=>?_,m⟩;obtain⟨a,i,w⟩:=k n (by omega) _ (c.put g.1 v);refine⟨a,i,?_⟩;simp only[lE];rw[pR c,q,c.ev,s n (by omega)];omega
  ·obtain⟨e,f,j,k,m⟩:=Ba ops l _ _ g.2 b;refine⟨e,f,j,λn p d c=>?_,m⟩;obtain⟨a,i,w⟩:=k n p _ (c.put g.1 undef)
   grind[pR,lE]
def C7(nm:Nat):List Oper->List LR->List (List Value×tc)->Prop
 |[],[],[]=>True
 |o::c,(E,d,e)::r,(b,a)::f=>d=o/\a=e/\ER nm E b/\C7 nm c r f
 |_,_,_=>False
theorem J5:∀{l:List Oper}{r:List LR}{a:List (List Value×tc)}(j:Nat),C7 nm l r a->iM a j=pZ r j
 |[],[],[],_,_=>rfl
 |o::d,(E,f,e)::r,(c,b)::a,j,h=>by
  obtain⟨rfl,rfl,_,h⟩:=h
  cases b<;>simp only[iM,pZ,J5 (j+1) h]
 |[],[],_::_,_,h=>h.elim
 |[],_::_,_,_,h=>h.elim
 |_::_,[],_,_,h=>h.elim
 |_::_,_::_,[],_,h=>h.elim
theorem zr{o:Oper}{E:Fr}{v:Value}{h:ae}(a:ER nm E d):rp S.P S.gl o d v h=GX S o E v h:=by
 unfold rp GX;rw[a.ev];rfl
theorem Eg{bf:Nat->Nat->Bool}{j:Nat}{o:Oper}{E:Fr}{c:List Value}{v:Value}(d:ER nm E c):∀(b:List (Nat×ae))(h:ae)(a:Bool),qK S.P S.gl bf j o c v h b a=qk S bf j o E v h b a
 |[],h,a=>by grind[zr,qK,qk]
 |(e,f)::b,h,a=>by simp only[qK,qk,zr d,Eg d b]
theorem GN{bf:Nat->Nat->Bool}{h:ae}{c:List (Nat×ae)}:∀{l:List Oper}{r:List LR}{b:List (List Value×tc)}(j:Nat),C7 nm l r b->oH S.P S.gl bf h c l b j=xu S bf h c r j
 |[],[],[],_,_=>rfl
 |o::i,(E,k,e)::r,(g,d)::b,j,a=>by
  obtain⟨rfl,rfl,f,a⟩:=a
  cases d<;>simp only[oH,xu,GN (j+1) a,Eg f]
 |[],[],_::_,_,h=>h.elim
 |[],_::_,_,_,h=>h.elim
 |_::_,[],_,_,h=>h.elim
 |_::_,_::_,[],_,h=>h.elim
theorem EW(bf:Nat->Nat->Bool)(ops:Array Oper)(base:Nat)(z:ae){R:FH}:∀(l:List Oper)(j:Nat)(E:Fr)(h:ae)(pd:List (Nat×dQ))(d:List LR),(l.all λo=>tU nm o.dst)=true->zJ S bf ops base z l j E h pd d R->
  ∃m p i r I,(∀n,I<=n->∀a,ER nm E a->∃g s,ER nm m g/\C7 nm l r s/\fF S.P S.gl (ck S.P S.gl S.pr n) ops bf base l j a h pd=some (s,g,p,i))/\yu S bf z (d.reverse++r)=true/\R m (cg p base i)
 |[],j,E,h,pd,d,_,b=>⟨E,h,pd,[],0,λn _ a c=>⟨a,[],c,trivial,rfl⟩,by rw[append_nil];exact b.1,b.2⟩
 | o::l,j,E,h,pd,d,H,b=>by
  simp only[all_cons,and_eq_true]at H;have k:∀(v:Value)(e:tc)(C:ae)(x:List (Nat×dQ))(y:Nat),zJ S bf ops base z l (j+1) (vY E o.dst v) C x ((E,o,e)::d) R->
    (∀n,y<=n->∀a,ER nm E a->∀q,fF S.P S.gl (ck S.P S.gl S.pr n) ops bf base l (j+1) (jK a o.dst v) C x=some q->fF S.P S.gl (ck S.P S.gl S.pr n) ops bf base (o::l) j a h pd=some ((a,e)::q.1,q.2))->
    ∃m p i r I,(∀n,I<=n->∀a,ER nm E a->∃g s,ER nm m g/\C7 nm (o::l) r s/\fF S.P S.gl (ck S.P S.gl S.pr n) ops bf base (o::l) j a h pd=some (s,g,p,i))/\yu S bf z (d.reverse++r)=true/\R m (cg p base i):=by
   intro v e C x y K t;obtain⟨m,p,i,r,N,G,T,O⟩:=EW bf ops base z l (j+1) _ _ _ _ H.2 K;refine⟨m,p,i,(E,o,e)::r,max y N,λn M a c=>?_,?_,O⟩
   ·obtain⟨g,s,J,P,Q⟩:=G n (by omega) _ (c.put H.1 v);exact⟨g,(a,e)::s,J,⟨rfl,rfl,c,P⟩,t n (by omega) a c _ Q⟩
   ·grind
  rcases I1 b with⟨A,b⟩|⟨A,b⟩
  ·cases w:dz S.P (fG S.gl E) o with
   |some v=>
    rw[w]at b;refine k v (.pure v) h pd 0 b λn _ a c q t=>?_;simp only[fF];rw[pR c,A,c.ev,w]
    grind
   | none=>
    rw[w]at b;dsimp only at b
    cases D:db S.P (fG S.gl E) o h with
    |some v=>
     rw[D]at b;refine k v (.read v) h pd 0 b λn _ a c q t=>?_;simp only[fF];rw[pR c,A,c.ev,w]
     grind
    | none=>
     rw[D]at b;dsimp only at b
     cases F:cd S.P (fG S.gl E) o with
     |some L=>
      obtain⟨B,f⟩:=L;rw[F]at b;refine k _ (.alloc B (f (base+j))) h ((j,B)::pd) 0 b λn _ a c q t=>?_;simp only[fF];rw[pR c,A,c.ev,w]
      grind
     |none=>
      rw[F]at b;dsimp only at b;obtain⟨v,u,y,C,G⟩:=LG b;refine k v (.Co v _) _ _ y G λn M a c q t=>?_;simp only[fF];rw[pR c,A,c.ev,w]
      grind
  ·refine k undef .skip h pd 0 b λn _ a c q t=>?_
   grind[pR,fF]
theorem SD{ops:Array Oper}{E:Fr}{h:ae}{R:FH}(q:(ops.toList.all λo=>tU nm o.dst)=true)(e:wpD S ops E h R):
  ∃c d g,(∀n,g<=n->∀b,ER nm E b->∃a,ER nm c a/\J1 S.P S.gl (ck S.P S.gl S.pr n) ops b h=some (a,d))/\R c d:=by
 obtain⟨f,e⟩:=e;obtain⟨c,d,t,r,g,m,u,l⟩:=EW (fp (lX ops)) ops h.next _ ops.toList 0 E _ [] [] q e;refine⟨c,_,g,λn k b s=>?_,l⟩;obtain⟨a,v,i,j,p⟩:=m n k b s;refine⟨a,i,?_⟩;unfold J1;rw[f,if_neg (by simp)];unfold Cn;rw[p];dsimp only;rw[J5 0 j,GN 0 j]
 simp_all[yu]
def gw(nm:Nat):Code->Bool
 |.region _ ops _=>ops.toList.all λo=>tU nm o.dst
 |.seq a b=>gw nm a&&gw nm b
 |.cond _ a b=>gw nm a&&gw nm b
 |.block _ c=>gw nm c
 |.loop c=>gw nm c
 |_=>true
theorem il:∀(c:Code){E:Fr}{h:ae}{Q:Fh},gw nm c=true->Xz S nm c E h Q->∃x y z,S9 S nm c E h x y z/\Q x y z
 |.skip,E,h,_,_,d=>⟨.normal,E,h,⟨0,λ_ _ _ _ f j=>⟨f,j,rfl⟩⟩,d⟩
 |.exit id,E,h,_,_,d=>⟨.exit id,E,h,⟨0,λ_ _ _ _ f j=>⟨f,j,rfl⟩⟩,d⟩
 |.ret,E,h,_,_,d=>⟨.ret,E,h,⟨0,λ_ _ _ _ f j=>⟨f,j,rfl⟩⟩,d⟩
 |.label _,E,h,_,_,d=>⟨.normal,E,h,⟨0,λ_ _ _ _ f j=>⟨f,j,rfl⟩⟩,d⟩
 |.region _ ops false,E,h,_,r,d=>by
  obtain⟨y,z,D,q,B⟩:=Ba ops ops.toList E h r d;refine⟨.normal,y,z,⟨D,λn N s _ f j=>?_⟩,B⟩
  grind[bN]
 |.region _ ops true,E,h,_,r,d=>by
  obtain⟨y,z,D,q,B⟩:=SD r d;refine⟨.normal,y,z,⟨D,λn N s _ f j=>?_⟩,B⟩
  grind[bN]
 | .seq a b,E,h,Q,r,d=>by
  simp only[gw,and_eq_true]at r;obtain⟨x,w,q,⟨v,k⟩,p⟩:=il a r.1 d;have J:(∀n N g ,bN S.P S.gl (ck S.P S.gl S.pr n) N a g h=some (x,g,q)->True)->x≠ .normal->Q x w q->∃x y z,S9 S nm (.seq a b) E h x y z/\Q x y z:=by
   intro _ C p;refine⟨x,w,q,⟨v,λn N s u f j=>?_⟩,p⟩;obtain⟨g,i,A⟩:=k n N s u f j;refine⟨g,i,?_⟩;simp only[bN];rw[A]
   cases x with
   |normal=>grind
   |_=>rfl
  cases x with
  |normal=>
   obtain⟨x,I,B,⟨H,G⟩,p⟩:=il b r.2 p;refine⟨x,I,B,⟨max v H,λn N s u f j=>?_⟩,p⟩;obtain⟨g,i,A⟩:=k n N (by omega) (by omega) f j;obtain⟨K,L,M⟩:=G n N (by omega) (by omega) g i
   grind[bN]
  |exit id=>simp_all
  |goto l=>simp_all
  |ret=>simp_all
  |panic _=>simp_all
  |outgrown=>simp_all
 | .cond o a b,E,h,Q,r,d=>by
  simp only[gw,and_eq_true]at r;obtain⟨t,F,⟨j,d⟩|⟨j,d⟩⟩:=aao d
  ·obtain⟨x,w,q,⟨v,k⟩,p⟩:=il a r.1 d;refine⟨x,w,q,⟨v,λn N s u f m=>?_⟩,p⟩;obtain⟨g,i,A⟩:=k n N s u f m;refine⟨g,i,?_⟩;simp only[bN];rw[m.ev,F,j]
   grind
  ·obtain⟨x,w,q,⟨v,k⟩,p⟩:=il b r.2 d;refine⟨x,w,q,⟨v,λn N s u f m=>?_⟩,p⟩;obtain⟨g,i,A⟩:=k n N s u f m;refine⟨g,i,?_⟩;simp only[bN];rw[m.ev,F,j]
   grind
 | .block id c,E,h,Q,r,d=>by
  obtain⟨x,w,q,⟨v,k⟩,p⟩:=il c r d;by_cases C:x = .exit id
  ·subst C;dsimp only at p;rw[if_pos rfl]at p;refine⟨.normal,w,q,⟨v,λn N s u f m=>?_⟩,p⟩
   grind[bN]
  ·refine⟨x,w,q,⟨v,λn N s u f m=>?_⟩,?_⟩
   ·obtain⟨g,i,A⟩:=k n N s u f m;refine⟨g,i,?_⟩;simp only[bN];rw[A]
    cases x with
    |exit id'=>dsimp only;rw[if_neg (λe=>C (by rw[e]))]
    |_=>rfl
   grind
 |.loop c,E,h,Q,r,d=>by
  obtain⟨x,w,q,⟨v,k⟩,p⟩:=d;refine⟨x,w,q,⟨v,λn N s u f m=>?_⟩,p⟩;obtain⟨g,i,A⟩:=k n N N s u u f m;exact⟨g,i,A⟩
 |.rangeFunc ..,_,_,_,_,d=>d
 |.scope _,_,_,_,_,d=>d.elim
 |.goto _,_,_,_,_,d=>d.elim
 |.refuse _,_,_,_,_,d=>d.elim
theorem UT{c:Code}{E:Fr}{h:ae}{Q:Fh}(z:gw nm c=true)(y:Xz S nm c E h (ado S nm c Q)):FV S nm c E h Q:=by
 obtain⟨x,r,p,⟨m,g⟩,a⟩:=il c z y;have b:x≠ .normal->Q x r p->FV S nm c E h Q:=by
  intro D a;refine⟨x,r,p,⟨m+1,λn N j s v A i k=>?_⟩,a⟩;obtain⟨d,rfl⟩:∃d,j=d+1:=⟨j-1,by omega⟩
  obtain⟨f,e,o⟩:=g n N (by omega) (by omega) i k;refine⟨f,e,?_⟩;simp only[iter];rw[o]
  cases x with
  |normal=>grind
  |_=>rfl
 cases x with
 |normal=>
  obtain⟨x,u,w,⟨t,q⟩,a⟩:=a;refine⟨x,u,w,⟨max m t+1,λn N j s v A i k=>?_⟩,a⟩;obtain⟨d,rfl⟩:∃d,j=d+1:=⟨j-1,by omega⟩
  obtain⟨f,e,o⟩:=g n N (by omega) (by omega) i k;obtain⟨B,C,F⟩:=q n N d (by omega) (by omega) (by omega) f e
  grind[iter]
 |exit id=>exact b (by simp) a
 |goto l=>exact b (by simp) a
 |ret=>exact b (by simp) a
 |panic _=>exact b (by simp) a
 |outgrown=>exact b (by simp) a
noncomputable def wa(S:Sx)(E:Fr)(h:ae):List ResultVar->Option (List Value)
 |[]=>some []
 |.tmp t::r=>(wa S E h r).map (E t::·)
 |.cell a t::r=>match aj S.P t h (E a)with
  |some v=>(wa S E h r).map (v::·)
  |none=>none
theorem Cz{E:Fr}{h:ae}{c:List Value}(b:ER nm E c):∀l,dL S.P c h l=wa S E h l
 |[]=>rfl
 |.tmp t::r=>by simp only[dL,wa,Cz b r,b.2 t]
 |.cell a t::r=>by
  simp only[dL,wa,Cz b r,b.2 a];rfl
def zK(r:Option (List Value))(h:ae)(Q:VH):Prop:=match r with
 |some a=>Q (dP a) h
 |none=>False
def afk(S:Sx)(a:List ResultVar)(Q:VH)(x:Exit)(E:Fr)(h:ae):Prop:=match x with
 |.normal=>zK (wa S E h a) h Q
 |.ret=>zK (wa S E h a) h Q
 |_=>False
def abh(a:List Value):Fr:=λt=>a.getD t undef
theorem adG{c:Code}{h:ae}{Q:VH}(D:S.P.funcs[f]?=some F)(B:F.body=some c)(q:f<YB)(s:S.pr f=none)(G:d.length<=F.ntmps)(u:gw F.ntmps c=true)
  (r:Xz S F.ntmps c (abh d) h (afk S F.results.toList Q)):FW S f d h Q:=by
 obtain⟨x,i,e,⟨y,w⟩,b⟩:=il c u r;have v:ER F.ntmps (abh d) (d++List.replicate (F.ntmps-d.length) undef):=by
  refine⟨by simp;omega,λt=>?_⟩;show _=d.getD t undef;simp only[gD];by_cases g:t<d.length
  ·rw[List.getElem?_append_left g]
  ·rw[List.getElem?_append_right (by omega),getElem?_eq_none (l:=d) (by omega),getElem?_replicate];split<;>rfl
 have p:∃a,wa S i e F.results.toList=some a/\Q (dP a) e/\(x = .normal\/x = .ret):=by
  have k:zK (wa S i e F.results.toList) e Q->∃a,wa S i e F.results.toList=some a/\Q (dP a) e:=by
   intro b
   cases m:wa S i e F.results.toList with
   |none=>rw[m]at b;exact b.elim
   |some a=>rw[m]at b;exact⟨a,rfl,b⟩
  cases x with
  |normal=>obtain⟨a,g,o⟩:=k b;exact⟨a,g,o,.inl rfl⟩
  |ret=>obtain⟨a,g,o⟩:=k b;exact⟨a,g,o,.inr rfl⟩
  |_=>exact b.elim
 obtain⟨a,m,b,H⟩:=p;refine⟨dP a,e,⟨y+1,λn C=>?_⟩,b⟩;obtain⟨j,rfl⟩:∃j,n=j+1:=⟨n-1,by omega⟩
 obtain⟨A,z,E⟩:=w j j (by omega) (by omega) _ v;simp only[ck];rw[if_neg (Nat.not_le.2 q),s]
 grind[Cz]
end
end
variable{A:Type}{B:Type}
section
section
variable (gl:Nat->Bool) (E:Fr)
theorem map_nil(f:A->B):[].map f=([]:List B):=rfl
theorem map_cons(f:A->B)(a:A)(l:List A):(a::l).map f=f a::l.map f:=rfl
end
section
variable (S:Sx) (E:Fr) (dst:Option Tmp) (ty:TypeId) (pos:String) (after:Array Edge) (guard:Option (Nat×Bool)) (h:ae) (K:VH)
theorem iW{o:Oper}(a:bS o=false):wpOp S E o h K=Ja (ef S.P jw (fG S.gl E) o h) h K:=by grind[wpOp,bS]
theorem XH{P:Program}{ρ:Operand->Value}{o:Oper}(b:∀h,dz P ρ o=none->ef P jw ρ o h=none):Ja (ef P jw ρ o h) h K=vL (dz P ρ o) h K:=by
 cases a:dz P ρ o with
 |none=>rw[b h a];rfl
 |some v=>unfold ef;rw[a];rfl
def oa:Op->Bool
 |.move _|.assign _|.pick ..|.build ..|.nilCheck _|.binOp ..|.unOp ..|.makeInterface ..|.makeFunc ..|.fieldAddr ..|.field ..|.indexAddr ..|.index ..|.typeAssert ..|.extract .. =>true
 |.call { callee:= .builtin .max,.. }|.call { callee:= .builtin .min,.. }|.call { callee:= .builtin .cap,.. }=>true
 |_=>false
theorem Ri{P:Program}{ρ:Operand->Value}{a:Op}(b:oa a=true)(h:ae)(c:dz P ρ ⟨dst,a,ty,pos,after,guard⟩=none):ef P jw ρ ⟨dst,a,ty,pos,after,guard⟩ h=none:=by
 unfold ef;rw[c];unfold oa at b;split at b<;>first|rfl|grind
theorem Nl{a:Op}(b:oa a=true):bS ⟨dst,a,ty,pos,after,guard⟩=false:=by
 unfold oa at b;split at b<;>first|rfl|grind
theorem eM{a:Op}(b:oa a=true):wpOp S E ⟨dst,a,ty,pos,after,guard⟩ h K=vL (dz S.P (fG S.gl E) ⟨dst,a,ty,pos,after,guard⟩) h K:=by grind[iW,Nl,XH,Ri]
def aaZ(c x y:Value):Option Value:=match c with
 |.bool t=>some (if t then x else y)
 |_=>none
def aaR(v:Value)(i:Nat):Option Value:=match v with
 |.tuple a=>a[i]?
 |_=>none
def bU(P:Program)(t:TypeId)(x i:Value):Option Value:=match P.underlying t,x,i with
  |some (.array a e),.agg cs,.int _ j=>match aG P e with
   |some n=>if 0<=j/\j<(a:Int)then partOf P e cs (j.toNat*n)else none
   |none=>none
  |some .string,.string s,.int _ j=>if 0<=j then match s.data.toList[j.toNat]? with|some b=>some (.int .u8 b.toNat)|none=>none else none
  |_,_,_=>none
def aB(P:Program)(t:TypeId)(x i:Value):Option Value:=match P.underlying t,x,i with
  |some (.array b e),.pointer (some a),.int _ j=>match aG P e with
   |some n=>if 0<=j/\j<(b:Int)then some (.pointer (some (a.add (j.toNat*n))))else none
   |none=>none
  |some (.slice e),.slice (some a) b _,.int _ j=>match aG P e with
   |some n=>if 0<=j/\j<(b:Int)then some (.pointer (some (a.add (j.toNat*n))))else none
   |none=>none
  |_,_,_=>none
def aF(P:Program)(s:TypeId)(x:Value)(f:Nat):Option Value:=match P.underlying s,x with
  |some (.struct b),.pointer (some a)=>match b[f]? with
   |some c=>if(aG P c.type).any (· ≠0)then some (.pointer (some (a.add c.offset)))else none
   |none=>none
  |_,_=>none
def Ug(P:Program)(t:TypeId)(x:Value)(f:Nat):Option Value:=match P.underlying t,x with
  |some (.struct a),.agg cs=>match a[f]? with
   |some b=>partOf P b.type cs b.offset
   |none=>none
  |_,_=>none
noncomputable def UQ(P:Program)(t:TypeId)(x:Value)(h:ae):Option Value:=match P.underlying t,x with
   |some .string,.string s=>some (.int .i64 s.data.toList.length)
   |some (.array n _),_=>some (.int .i64 n)
   |some (.slice _),.slice _ n _=>some (.int .i64 n)
   |some (.map ..),.map none=>some (.int .i64 0)
   |some (.map ..),.map (some r)=>match h.get r with
    |some (.map a)=>some (.int .i64 a.length)
    |_=>none
   |_,_=>none
theorem SG(c a b:Operand):wpOp S E ⟨dst,.pick c a b,ty,pos,after,guard⟩ h K=vL (aaZ (fG S.gl E c) (fG S.gl E a) (fG S.gl E b)) h K:=eM S E dst ty pos after guard h K rfl
theorem Oa(a:BinOp)(t u:TypeId)(x y:Operand):wpOp S E ⟨dst,.binOp a t x y u,ty,pos,after,guard⟩ h K=vL (aA S.P a t (fG S.gl E x) (fG S.gl E y)) h K:=eM S E dst ty pos after guard h K rfl
theorem SH(a:UnOp)(t:TypeId)(x:Operand):wpOp S E ⟨dst,.unOp a t x,ty,pos,after,guard⟩ h K=vL (LF a (fG S.gl E x)) h K:=eM S E dst ty pos after guard h K rfl
theorem I7(x:Operand)(i:Nat):wpOp S E ⟨dst,.extract x i,ty,pos,after,guard⟩ h K=vL (aaR (fG S.gl E x) i) h K:=eM S E dst ty pos after guard h K rfl
theorem Oc(t:TypeId)(x i:Operand):wpOp S E ⟨dst,.index t x i,ty,pos,after,guard⟩ h K=vL (bU S.P t (fG S.gl E x) (fG S.gl E i)) h K:=eM S E dst ty pos after guard h K rfl
theorem E3(t:TypeId)(x i:Operand):wpOp S E ⟨dst,.indexAddr t x i,ty,pos,after,guard⟩ h K=vL (aB S.P t (fG S.gl E x) (fG S.gl E i)) h K:=eM S E dst ty pos after guard h K rfl
theorem E2(t:TypeId)(x:Operand)(f:Nat):wpOp S E ⟨dst,.fieldAddr t x f,ty,pos,after,guard⟩ h K=vL (aF S.P t (fG S.gl E x) f) h K:=eM S E dst ty pos after guard h K rfl
theorem Ob(t:TypeId)(x:Operand)(f:Nat):wpOp S E ⟨dst,.field t x f,ty,pos,after,guard⟩ h K=vL (Ug S.P t (fG S.gl E x) f) h K:=eM S E dst ty pos after guard h K rfl
theorem XF(a:Array Operand)(b:Array TypeId):wpOp S E ⟨dst,.call ⟨.builtin .max,a,b⟩,ty,pos,after,guard⟩ h K=vL (su true (a.toList.map (fG S.gl E))) h K:=eM S E dst ty pos after guard h K rfl
theorem XG(a:Array Operand)(b:Array TypeId):wpOp S E ⟨dst,.call ⟨.builtin .min,a,b⟩,ty,pos,after,guard⟩ h K=vL (su false (a.toList.map (fG S.gl E))) h K:=eM S E dst ty pos after guard h K rfl
theorem rD(o:Oper)(b:bS o=false)(c:dz S.P (fG S.gl E) o=none)(a:cd S.P (fG S.gl E) o=none)(d:gL S.P jw (fG S.gl E) o h=none):wpOp S E o h K=vL (db S.P (fG S.gl E) o h) h K:=by
 rw[iW S E h K b];unfold ef;rw[c];dsimp only
 cases db S.P (fG S.gl E) o h with
 |some v=>rfl
 |none=>dsimp only;rw[a];dsimp only;rw[d];rfl
theorem SE(t:TypeId)(a:Operand):wpOp S E ⟨dst,.load t a,ty,pos,after,guard⟩ h K=vL (aj S.P t h (fG S.gl E a)) h K:=rD S E h K _ rfl rfl rfl rfl
theorem Od(t:TypeId)(x:Operand)(c b a:Option Operand):wpOp S E ⟨dst,.slice t x c b a,ty,pos,after,guard⟩ h K=vL (bK S.P t (fG S.gl E x) (c.map (fG S.gl E)) (b.map (fG S.gl E)) (a.map (fG S.gl E)) h) h K:=rD S E h K _ rfl rfl rfl rfl
theorem XE(x:Operand)(t:TypeId):wpOp S E ⟨dst,.call ⟨.builtin .len,#[x],#[t]⟩,ty,pos,after,guard⟩ h K=vL (UQ S.P t (fG S.gl E x) h) h K:=rD S E h K _ rfl rfl rfl rfl
theorem EZ(o:Oper)(b:bS o=false)(c:dz S.P (fG S.gl E) o=none)(a:db S.P (fG S.gl E) o h=none)(d:cd S.P (fG S.gl E) o=none):wpOp S E o h K=Ja (gL S.P jw (fG S.gl E) o h) h K:=by grind[iW,ef]
theorem LH(s x:Operand)(t a:TypeId):wpOp S E ⟨dst,.call ⟨.builtin .append,#[s,x],#[t,a]⟩,ty,pos,after,guard⟩ h K=Ja (bM S.P t a (fG S.gl E s) (fG S.gl E x) h) h K:=rfl
theorem Of(t:TypeId)(a x:Operand):wpOp S E ⟨dst,.store t a x,ty,pos,after,guard⟩ h K=Ja (ah S.P t (fG S.gl E a) (fG S.gl E x) h) h K:=rfl
def wpA(r:Option (dQ×(Nat->Value)))(h:ae)(K:VH):Prop:=match r with
 |some (B,f)=>K (f h.next) (h.push B)
 |none=>False
theorem nO(o:Oper)(b:bS o=false)(c:dz S.P (fG S.gl E) o=none)(a:db S.P (fG S.gl E) o h=none)(d:gL S.P jw (fG S.gl E) o h=none):wpOp S E o h K=wpA (cd S.P (fG S.gl E) o) h K:=by
 rw[iW S E h K b];unfold ef;rw[c];dsimp only;rw[a];dsimp only
 cases cd S.P (fG S.gl E) o with
 |some r=>rfl
 |none=>dsimp only;rw[d];rfl
end
section
variable (P:Program) (t:TypeId) (k:IntKind) (a b:Int)
theorem HE(c:b≠0):aA P .quo t (.int k a) (.int k b)=some (.int k (k.wrap (a.tdiv b))):=by grind[aA]
theorem Yu(c:b≠0):aA P .rem t (.int k a) (.int k b)=some (.int k (a.tmod b)):=by grind[aA]
variable (x y:ByteArray)
end
end
variable{b:Bool}{h:ae}{X:Sx}{T:TypeId}{v:Value}{c:List Value}{E:Fr}{n:Nat}{Q:VH}{j:Nat}{H:Code}{m:Nat}{V:Array Value}{y:List Nat}{k:Nat}
noncomputable section
def au(b:Bool)(A B:Prop):Prop:=Bool.rec (motive:=λ_=>Prop) B A b
theorem aa{A B:Prop}(a:b=true->A)(c:b=false->B):au b A B:=by
 cases b with
 |true=>exact a rfl
 |false=>exact c rfl
theorem zu{A B:Prop}(h:au b A B):(b=true/\A)\/(b=false/\B):=by
 cases b with
 |true=>exact .inl ⟨rfl,h⟩
 |false=>exact .inr ⟨rfl,h⟩
abbrev TS:=List Value
abbrev fg:=Exit->TS->ae->Prop
abbrev TH:=TS->ae->Prop
def fr(a:TS):Fr:=λt=>a.getD t undef
def OL(P:Program)(t:TypeId)(K:Value->Prop):Prop:=match P.underlying t with
 |some (.int k)=>∃n:Int,K (.int k n)
 |some .bool=>∃b:Bool,K (.bool b)
 |some .string=>∃l:List UInt8,K (strOf l)
 |some (.slice _)=>∃(a:Option Addr)(n c:Nat),K (.slice a n c)
 |some (.pointer _)=>∃a:Option Addr,K (.pointer a)
 |some (.struct _)=>∃cs:List Value,K (.agg ⟨cs⟩)
 |some (.array ..)=>∃cs:List Value,K (.agg ⟨cs⟩)
 |some (.func ..)=>∃(g:Nat)(a c:List Value),K (.func (.func g) ⟨a⟩ ⟨c⟩)
 |_=>∃v:Value,K v
def aco(P:Program):List TypeId->(List Value->Prop)->Prop
 |[],K=>K []
 |t::b,K=>OL P t λx=>aco P b λa=>K (x::a)
def Kb(P:Program)(t:TypeId)(K:Value->Prop):Prop:=match P.underlying t with
 |some (.tuple b)=>aco P b.toList λa=>K (.tuple ⟨a⟩)
 |_=>OL P t K
theorem Dt{t:TypeId}{K:Value->Prop}(a:OL P t K):∃v,K v:=by grind[OL]
theorem Hc{P:Program}:∀{b:List TypeId}{K:List Value->Prop},aco P b K->∃c,K c
 |[],_,a=>⟨_,a⟩
 |t::b,K,a=>by
  obtain⟨x,h⟩:=Dt a;obtain⟨d,h⟩:=Hc h
  grind
theorem sd{t:TypeId}{K:Value->Prop}(a:Kb P t K):∃v,K v:=by
 unfold Kb at a;split at a
 ·obtain⟨_,h⟩:=Hc a;grind
 ·exact Dt a
def Kc(P:Program)(t:TypeId)(r:Option Value)(h:ae)(K:VH):Prop:=Kb P t λx=>r=some x/\K x h
def exP(r:Option Value)(h:ae)(K:VH):Prop:=∃a:Addr,r=some (.pointer (some a))/\K (.pointer (some a)) h
def exU(r:Option (Value×dV))(h:ae)(K:VH):Prop:=∃v u,r=some (v,u)/\K v (u.app h)
def exW(r:Option (Value×dV))(h:ae)(K:VH):Prop:=∃u,r=some (undef,u)/\K undef (u.app h)
def exS(r:Option (Value×dV))(h:ae)(K:VH):Prop:=∃(a:Option Addr)(n c:Nat)(u:dV),r=some (.slice a n c,u)/\K (.slice a n c) (u.app h)
def exC(r:Option (Value×dV))(h:ae)(K:VH):Prop:=∃(n:Int)(u:dV),r=some (.int .i64 n,u)/\K (.int .i64 n) (u.app h)
def kS(k:Nat):Value:= .pointer (some ⟨k,0,none⟩)
def mY(n c k:Nat):Value:= .slice (some ⟨k,0,none⟩) n c
abbrev OA:Type:=Option Addr
abbrev LV:Type:=List Value
abbrev LB:Type:=List UInt8
abbrev uN(l:List Value)(k:Nat):List Value:=l++List.replicate k undef
abbrev pA(k:Nat):Value:= .pointer (some ⟨k,0,none⟩)
abbrev sA(k n c:Nat):Value:= .slice (some ⟨k,0,none⟩) n c
abbrev nA:Value:= .slice none 0 0
abbrev iA(n:Nat):Value:= .int .i64 (n:Int)
abbrev xI(k:IntKind)(r:Option Value)(K:Int->Prop):Prop:=∃n:Int,r=some (.int k n)/\K n
abbrev xB(r:Option Value)(K:Bool->Prop):Prop:=∃b:Bool,r=some (.bool b)/\K b
abbrev xS(r:Option Value)(K:List UInt8->Prop):Prop:=∃l:List UInt8,r=some (strOf l)/\K l
abbrev xL(r:Option Value)(K:Option Addr->Nat->Nat->Prop):Prop:=∃(a:Option Addr)(n c:Nat),r=some (.slice a n c)/\K a n c
abbrev xO(r:Option Value)(K:Option Addr->Prop):Prop:=∃a:Option Addr,r=some (.pointer a)/\K a
abbrev xP(r:Option Value)(K:Addr->Prop):Prop:=∃a:Addr,r=some (.pointer (some a))/\K a
abbrev xA(r:Option Value)(K:List Value->Prop):Prop:=∃cs:List Value,r=some (.agg ⟨cs⟩)/\K cs
abbrev xF(r:Option Value)(K:Nat->List Value->List Value->Prop):Prop:=∃(g:Nat)(a c:List Value),r=some (.func (.func g) ⟨a⟩ ⟨c⟩)/\K g a c
abbrev yI(k:IntKind)(r:Value)(K:Int->Prop):Prop:=∃n:Int,r = .int k n/\K n
abbrev yB(r:Value)(K:Bool->Prop):Prop:=∃b:Bool,r = .bool b/\K b
abbrev yS(r:Value)(K:List UInt8->Prop):Prop:=∃l:List UInt8,r=strOf l/\K l
abbrev yL(r:Value)(K:Option Addr->Nat->Nat->Prop):Prop:=∃(a:Option Addr)(n c:Nat),r = .slice a n c/\K a n c
abbrev yO(r:Value)(K:Option Addr->Prop):Prop:=∃a:Option Addr,r = .pointer a/\K a
abbrev yA(r:Value)(K:List Value->Prop):Prop:=∃cs:List Value,r = .agg ⟨cs⟩/\K cs
abbrev yF(r:Value)(K:Nat->List Value->List Value->Prop):Prop:=∃(g:Nat)(a c:List Value),r = .func (.func g) ⟨a⟩ ⟨c⟩/\K g a c
abbrev yV(r:Value)(K:Value->Prop):Prop:=∃v:Value,r=v/\K v
abbrev xU(r:Option (Value×dV))(h:ae)(K:dV->ae->Prop):Prop:=∃u:dV,r=some (undef,u)/\K u (u.app h)
abbrev xE(r:Option (Value×dV))(h:ae)(K:Option Addr->Nat->Nat->dV->ae->Prop):Prop:=∃(a:Option Addr)(n c:Nat)(u:dV),r=some (.slice a n c,u)/\K a n c u (u.app h)
abbrev xC(r:Option (Value×dV))(h:ae)(K:Int->dV->ae->Prop):Prop:=∃(n:Int)(u:dV),r=some (.int .i64 n,u)/\K n u (u.app h)
abbrev xG(r:Option (Value×dV))(h:ae)(K:Value->dV->ae->Prop):Prop:=∃(v:Value)(u:dV),r=some (v,u)/\K v u (u.app h)
abbrev xN(r:Option (dQ×(Nat->Value)))(h:ae)(K:dQ->ae->Prop):Prop:=∃B:dQ,r=some (B,kS)/\K B (h.push B)
abbrev xR(r:Option (dQ×(Nat->Value)))(h:ae)(K:dQ->Nat->Nat->ae->Prop):Prop:=∃(B:dQ)(n c:Nat),r=some (B,mY n c)/\K B n c (h.push B)
abbrev zN(r:Option (dQ×(Nat->Value)))(K:dQ->Prop):Prop:=∃B:dQ,r=some (B,kS)/\K B
abbrev zR(r:Option (dQ×(Nat->Value)))(K:dQ->Nat->Nat->Prop):Prop:=∃(B:dQ)(n c:Nat),r=some (B,mY n c)/\K B n c
abbrev abS(h:ae)(K:ae->Prop):Prop:=K h
def exA(r:Option (dQ×(Nat->Value)))(h:ae)(K:VH):Prop:=∃B,r=some (B,kS)/\K (kS h.next) (h.push B)
def exR(r:Option (dQ×(Nat->Value)))(h:ae)(K:VH):Prop:=∃B n c,r=some (B,mY n c)/\K (mY n c h.next) (h.push B)
def exM(r:Option (dQ×(Nat->Value)))(h:ae)(K:VH):Prop:=∃B,r=some (B,λk=> .map (some k))/\K (.map (some h.next)) (h.push B)
def bw(P:Program)(t:TypeId):Option (dQ×(Nat->Value)):=cd P (λ_=>undef) ⟨none,.alloc t,0,"",#[],none⟩
def eE(P:Program)(t:TypeId)(v:Value):Option (dQ×(Nat->Value)):=cd P (λ_=>v) ⟨none,.box t (.tmp 0),0,"",#[],none⟩
def cq(P:Program)(t:TypeId)(l c:Value):Option (dQ×(Nat->Value)):=cd P (λx=>match x with|.tmp 0=>l|_=>c) ⟨none,.makeSlice t (.tmp 0) (.tmp 1),0,"",#[],none⟩
def aI(P:Program)(t:TypeId)(b:Nat)(a:List (Nat×Value)):Option (dQ×(Nat->Value)):=
 cd P (λx=>match x with|.tmp i=>(a.getD i (0,undef)).2|_=>undef) ⟨none,.buildSlice t b ((List.range a.length).map λi=>((a.getD i (0,undef)).1,.tmp i)).toArray,0,"",#[],none⟩
def Vg(c a b:Value)(h:ae)(K:VH):Prop:=match c with
 |.bool t=>au t (K a h) (K b h)
 |_=>False
def abx(P:Program)(b:BinOp)(t a:TypeId)(x y:Value)(h:ae)(K:VH):Prop:=match b with
 |.quo|.rem|.shl|.shr=>Kc P a (aA P b t x y) h K
 |.add=>(match x with|.string _=>Kc P a (aA P .add t x y) h K|_=>vL (aA P .add t x y) h K)
 |.eql=>(match x with|.pointer _=>Kc P a (aA P .eql t x y) h K|.agg _=>Kc P a (aA P .eql t x y) h K|_=>vL (aA P .eql t x y) h K)
 |.neq=>(match x with|.pointer _=>Kc P a (aA P .neq t x y) h K|.agg _=>Kc P a (aA P .neq t x y) h K|_=>vL (aA P .neq t x y) h K)
 |b=>vL (aA P b t x y) h K
def TO(S:Sx)(c:TypeId)(f:Value)(b:List Value)(h:ae)(K:VH):Prop:=match f with
 |.func (.func g) first a=>au (Nat.blt g YB) (FW S g (first.toList++b++a.toList) h λv h=>Kb S.P c λx=>v=x/\K x h) False
 |.func (.yield k) ⟨[]⟩ ⟨[]⟩=>FW S (YB+k) b h λv h=>Kb S.P c λx=>v=x/\K x h
 |_=>False
def Cb(P:Program)(s d:TypeId)(x:Value)(h:ae):Option Value:=db P (λ_=>x) ⟨none,.convert s d (.tmp 0),0,"",#[],none⟩ h
def ae6(t:Option TypeDesc):Bool:=match t with
 |some .unsafePointer=>true
 |_=>false
def Cu(P:Program)(t:TypeId)(m k x:Value)(h:ae):Option (Value×dV):=match P.underlying t,m with
  |some (.map b _),.map (some r)=>match h.get r with
   |some (.map c)=>if ub P b k then(sk P b k x c).map λa=>(undef,.set r (.map a))else none
   |_=>none
  |_,_=>none
def adP(P:Program)(t:TypeId)(m k:Value)(a:Bool)(h:ae):Option Value:=db P (λx=>match x with|.tmp 0=>m|_=>k) ⟨none,.lookup t (.tmp 0) (.tmp 1) a,0,"",#[],none⟩ h
def UU(P:Program)(t:TypeId):Option (dQ×(Nat->Value)):=cd P (λ_=>undef) ⟨none,.makeMap t none,0,"",#[],none⟩
def opQ(S:Sx)(ρ:Operand->Value)(o:Oper)(h:ae)(K:VH):Prop:=match o.op with
 |.move x|.assign x=>K (ρ x) h
 |.pick c a b=>Vg (ρ c) (ρ a) (ρ b) h K
 |.binOp g t x y _=>abx S.P g t o.type (ρ x) (ρ y) h K
 |.unOp g _ x=>vL (LF g (ρ x)) h K
 |.extract x i=>vL (aaR (ρ x) i) h K
 |.index t x i=>Kc S.P o.type (bU S.P t (ρ x) (ρ i)) h K
 |.indexAddr t x i=>exP (aB S.P t (ρ x) (ρ i)) h K
 |.fieldAddr t x f=>exP (aF S.P t (ρ x) f) h K
 |.field t x f=>Kc S.P o.type (Ug S.P t (ρ x) f) h K
 |.load t a=>Kc S.P t (aj S.P t h (ρ a)) h K
 |.slice t x q n j=>Kc S.P o.type (bK S.P t (ρ x) (q.map ρ) (n.map ρ) (j.map ρ) h) h K
 |.store t a x=>exW (ah S.P t (ρ a) (ρ x) h) h K
 |.alloc t=>exA (bw S.P t) h K
 |.box t x=>exA (eE S.P t (ρ x)) h K
 |.makeSlice t l c=>exR (cq S.P t (ρ l) (ρ c)) h K
 |.buildSlice .. =>exR (cd S.P ρ o) h K
 |.makeMap t r=>exM (match r with|none=>UU S.P t|some _=>cd S.P ρ o) h K
 |.mapUpdate t m k x=>exW (Cu S.P t (ρ m) (ρ k) (ρ x) h) h K
 |.insert t m k x=>exW (Cu S.P t (ρ m) (ρ k) (ρ x) h) h K
 |.lookup t m k u=>Kc S.P o.type (adP S.P t (ρ m) (ρ k) u h) h K
 |.convert s d x=>(match ae6 (S.P.underlying s)with|true=>exU (ef S.P jw ρ o h) h K|false=>(match ρ x with|.int _ _=>vL (hP S.P s d (ρ x)) h K|.slice _ _ _=>Kc S.P o.type (Cb S.P s d (ρ x) h) h K|_=>exU (ef S.P jw ρ o h) h K))
 |.build t e=>Kc S.P o.type (bd S.P t (e.toList.map λp=>(p.1,ρ p.2))) h K
 |.makeFunc ..|.makeInterface ..|.nilCheck ..|.typeAssert .. =>vL (dz S.P ρ o) h K
 |.panic .. =>False
 |.call { callee:= .value f,args,.. }=>TO S o.type (ρ f) (args.toList.map ρ) h K
 |.call { callee:= .builtin .len,args,argTypes }=>(match args.toList,argTypes.toList with|[x],[t]=>(match ρ x with|.map _=>Kc S.P o.type (UQ S.P t (ρ x) h) h K|_=>vL (UQ S.P t (ρ x) h) h K)|_,_=>False)
 |.call { callee:= .builtin .max,args,.. }=>Kc S.P o.type (su true (args.toList.map ρ)) h K
 |.call { callee:= .builtin .min,args,.. }=>Kc S.P o.type (su false (args.toList.map ρ)) h K
 |.call { callee:= .builtin .append,args,argTypes }=>(match args.toList,argTypes.toList with|[s,x],[t,v]=>exS (bM S.P t v (ρ s) (ρ x) h) h K|_,_=>False)
 |.call { callee:= .builtin .copy,args,argTypes }=>(match args.toList,argTypes.toList with|[d,s],[t,_]=>exC (copyV S.P t (ρ d) (ρ s) h) h K|_,_=>False)
 |.call { callee:= .builtin _,.. }=>exU (ef S.P jw ρ o h) h K
 |_=>exU (ef S.P jw ρ o h) h K
theorem gV{t:TypeId}{r:Option Value}{K:VH}(a:Kc P t r h K):vL r h K:=by
 obtain⟨v,b,c⟩:=sd a;rw[b];exact c
theorem E4{r:Option Value}{K:VH}(a:exP r h K):vL r h K:=by
 obtain⟨v,b,c⟩:=a;rw[b];exact c
theorem s9{r:Option (Value×dV)}{K:VH}(a:exU r h K):Ja r h K:=by
 obtain⟨v,u,b,c⟩:=a;rw[b];exact c
theorem xM{r:Option (Value×dV)}{K:VH}(a:exW r h K):Ja r h K:=by
 obtain⟨u,b,c⟩:=a;rw[b];exact c
theorem Oh{r:Option (Value×dV)}{K:VH}(b:exS r h K):Ja r h K:=by
 obtain⟨a,n,c,u,d,e⟩:=b;rw[d];exact e
theorem Og{r:Option (Value×dV)}{K:VH}(a:exC r h K):Ja r h K:=by
 obtain⟨n,u,b,c⟩:=a;rw[b];exact c
theorem ET{r:Option (dQ×(Nat->Value))}{K:VH}(a:exA r h K):wpA r h K:=by
 obtain⟨B,b,c⟩:=a;rw[b];exact c
theorem EV{r:Option (dQ×(Nat->Value))}{K:VH}(a:exR r h K):wpA r h K:=by
 obtain⟨B,n,c,b,d⟩:=a;rw[b];exact d
theorem EU{r:Option (dQ×(Nat->Value))}{K:VH}(a:exM r h K):wpA r h K:=by
 obtain⟨B,b,c⟩:=a;rw[b];exact c
theorem TP{K:VH}(a:TO X T v c h K):s8 X v c h K:=by
 unfold TO at a;unfold s8;split at a
 ·rcases zu a with⟨d,a⟩|⟨_,a⟩
  ·refine⟨by simpa[blt_eq]using d,a.mono λe h a=>?_⟩;obtain⟨x,rfl,b⟩:=sd a;exact b
  ·exact a.elim
 ·exact⟨⟨rfl,rfl⟩,a.mono λe h a=>by
   obtain⟨x,rfl,b⟩:=sd a;exact b⟩
 grind
theorem TK{a:BinOp}{t:TypeId}{x:Value}{K:VH}(b:abx P a t T x v h K):vL (aA P a t x v) h K:=by
 unfold abx at b
 grind[gV]
theorem Rf{c a b:Value}{K:VH}(d:Vg c a b h K):vL (aaZ c a b) h K:=by
 unfold Vg at d;split at d
 ·next t=>
  rcases zu d with⟨rfl,e⟩|⟨rfl,e⟩<;>exact e
 grind
theorem vn{o:Oper}{K:VH}(b:opQ X (fG X.gl E) o h K):wpOp X E o h K:=by
 obtain⟨p,H,q,l,g,f⟩:=o;unfold opQ at b;split at b
 ·next e=>subst e;exact b
 ·next e=>subst e;exact b
 ·next e=>subst e;rw[SG];exact Rf b
 ·next e=>subst e;rw[Oa];exact TK b
 ·next e=>subst e;rw[SH];exact b
 ·next e=>subst e;rw[I7];exact b
 ·next e=>subst e;rw[Oc];exact gV b
 ·next e=>subst e;rw[E3];exact E4 b
 ·next e=>subst e;rw[E2];exact E4 b
 ·next e=>subst e;rw[Ob];exact gV b
 ·next e=>subst e;rw[SE];exact gV b
 ·next e=>subst e;rw[Od];exact gV b
 ·next e=>subst e;rw[Of];exact xM b
 ·next e=>subst e;rw[nO _ _ _ _ _ rfl rfl rfl rfl];exact ET b
 ·next e=>subst e;rw[nO _ _ _ _ _ rfl rfl rfl rfl];exact ET b
 ·next e=>subst e;rw[nO _ _ _ _ _ rfl rfl rfl rfl];exact EV b
 ·next e=>subst e;rw[nO _ _ _ _ _ rfl rfl rfl rfl];exact EV b
 ·next t r e=>
  subst e;rw[nO _ _ _ _ _ rfl rfl rfl rfl]
  cases r with
  |none=>exact EU b
  |some x=>exact EU b
 ·next t m k x e=>
  subst e;rw[iW _ _ _ _ rfl];have y:ef X.P jw (fG X.gl E) ⟨p,.mapUpdate t m k x,q,l,g,f⟩ h=Cu X.P t (fG X.gl E m) (fG X.gl E k) (fG X.gl E x) h:=rfl;rw[y];exact xM b
 ·next t m k x e=>
  subst e;rw[iW _ _ _ _ rfl];have y:ef X.P jw (fG X.gl E) ⟨p,.insert t m k x,q,l,g,f⟩ h=Cu X.P t (fG X.gl E m) (fG X.gl E k) (fG X.gl E x) h:=rfl;rw[y];exact xM b
 ·next t m k D e=>
  subst e;have b:vL (db X.P (fG X.gl E) ⟨p,.lookup t m k D,q,l,g,f⟩ h) h K:=gV b;exact(rD X E h K ⟨p,.lookup t m k D,q,l,g,f⟩ rfl rfl rfl rfl)▸b
 ·next e=>
  subst e;rw[iW _ _ _ _ rfl];split at b
  ·exact s9 b
  split at b
  ·next k n A=>
   unfold ef;generalize B:dz X.P (fG X.gl E) _=r
   cases r with
   |some v=>rw[show hP X.P _ _ _=some v from B]at b;exact b
   |none=>rw[show hP X.P _ _ _=none from B]at b;exact b.elim
  ·next a n c A=>
   obtain⟨v,u,w⟩:=sd b;have B:∀s d,hP X.P s d (.slice a n c)=none:=λs d=>by unfold hP;split<;>simp_all
   have F:∀s d x,fG X.gl E x = .slice a n c->dz X.P (fG X.gl E) ⟨p,.convert s d x,q,l,g,f⟩=none:=λs d x A=>by
    show hP X.P s d (fG X.gl E x)=none;rw[A];exact B s d
   have G:∀s d x,db X.P (fG X.gl E) ⟨p,.convert s d x,q,l,g,f⟩ h=Cb X.P s d (fG X.gl E x) h:=λs d x=>rfl;unfold ef;rw[F _ _ _ A];dsimp only;rw[G,u];exact w
  ·exact s9 b
 ·next e=>subst e;rw[eM _ _ _ _ _ _ _ _ _ rfl];exact gV b
 ·next e=>subst e;rw[eM _ _ _ _ _ _ _ _ _ rfl];exact b
 ·next e=>subst e;rw[eM _ _ _ _ _ _ _ _ _ rfl];exact b
 ·next e=>subst e;rw[eM _ _ _ _ _ _ _ _ _ rfl];exact b
 ·next e=>subst e;rw[eM _ _ _ _ _ _ _ _ _ rfl];exact b
 ·exact b.elim
 ·next e=>subst e;exact TP b
 ·next i j e=>
  subst e;split at b
  ·next x t u w=>
   obtain⟨i⟩:=i;obtain⟨j⟩:=j;obtain rfl:i=[x]:=u;obtain rfl:j=[t]:=w;have C:vL (UQ X.P t (fG X.gl E x) h) h K:=by
    split at b
    ·exact gV b
    ·exact b
   exact(XE X E p q l g f h K x t).symm▸C
  ·exact b.elim
 ·next e=>subst e;rw[XF];exact gV b
 ·next e=>subst e;rw[XG];exact gV b
 ·next i j e=>
  subst e;split at b
  ·next s x t z u w=>
   obtain⟨i⟩:=i;obtain⟨j⟩:=j;obtain rfl:i=[s,x]:=u;obtain rfl:j=[t,z]:=w;exact(LH X E p q l g f h K s x t z).symm▸Oh b
  ·exact b.elim
 ·next i j e=>
  subst e;split at b
  ·next s x t z u w=>
   obtain⟨i⟩:=i;obtain⟨j⟩:=j;obtain rfl:i=[s,x]:=u;obtain rfl:j=[t,z]:=w;have y:wpOp X E ⟨p,.call ⟨.builtin .copy,#[s,x],#[t,z]⟩,q,l,g,f⟩ h K=Ja (copyV X.P t (fG X.gl E s) (fG X.gl E x) h) h K:=EZ X E h K _ rfl rfl rfl rfl;exact y.symm▸Og b
  ·exact b.elim
 ·next e=>subst e;rw[iW _ _ _ _ rfl];exact s9 b
 grind[iW,s9,bS]
def Se:TS->Nat->Value->(TS->Prop)->Prop
 |[],_,_,K=>K []
 |_::l,0,v,K=>K (v::l)
 |x::l,d+1,v,K=>Se l d v λl=>K (x::l)
def Uo:TS->Nat->(Value->Prop)->Prop
 |[],_,K=>K undef
 |x::_,0,K=>K x
 |_::l,t+1,K=>Uo l t K
theorem CC:∀(l:TS)(d:Nat)(v:Value)(K:TS->Prop),Se l d v K=K (l.set d v)
 |[],_,_,_=>rfl
 |_::_,0,_,_=>rfl
 |x::l,d+1,v,K=>by rw[Se,CC l d v];rfl
theorem HP:∀(l:TS)(t:Nat)(K:Value->Prop),Uo l t K=K (l.getD t undef)
 |[],_,_=>rfl
 |_::_,0,_=>rfl
 |x::l,t+1,K=>by rw[Uo,HP l t];rfl
def Ir(a:TS)(b:Option Tmp)(v:Value)(K:TS->Prop):Prop:=match b with
 |some d=>Se a d v K
 |none=>K a
theorem Cy(b:TS)(a:Option Tmp)(v:Value)(K:TS->Prop):Ir b a v K=K (jK b a v):=by
 cases a with
 |none=>rfl
 |some d=>exact CC _ _ _ _
def opT(S:Sx)(a:TS)(o:Oper)(h:ae)(K:VH):Prop:=match o.op with
 |.move (.tmp t)=>Uo a t λv=>K v h
 |.assign (.tmp t)=>Uo a t λv=>K v h
 |_=>opQ S (ev S.gl a) o h K
theorem O0{b:TS}{o:Oper}{K:VH}(a:opT X b o h K):opQ X (ev X.gl b) o h K:=by
 unfold opT at a;split at a
 ·next t e=>rw[HP]at a;unfold opQ;rw[e];exact a
 ·next t e=>rw[HP]at a;unfold opQ;rw[e];exact a
 omega
def gS(ops:Array Oper)(c:TS)(e:Option (Nat×Bool))(A B:TS->Prop):Prop:=match e with
 |none=>A c
 | some (j,a)=>match (ops[j]?).bind (·.dst)with
  |some d=>match c.getD d undef with
   |.bool b=>au b (Se c d (.bool true) (Bool.rec (motive:=λ_=>TS->Prop) B A a)) (Se c d (.bool false) (Bool.rec (motive:=λ_=>TS->Prop) A B a))
   |.tuple _=>B c
   |_=>False
  |none=>False
def Zm(S:Sx)(ops:Array Oper):List Oper->TS->ae->TH->Prop
 |[],a,h,R=>R a h
 |o::l,a,h,R=>gS ops a o.guard (λa=>opT S a o h λv h=>Ir a o.dst v λa=>Zm S ops l a h R) (λa=>Ir a o.dst undef λa=>Zm S ops l a h R)
def lift(b:Nat)(Q:TH):FH:=λE h=>∃a:TS,a.length=b/\E=fr a/\Q a h
def Bw(a:Nat)(Q:fg):Fh:=λx=>lift a (Q x)
def aaM(v:Value)(A B:Prop):Prop:=match v with
 |.bool b=>au b A B
 |_=>False
def Om(S:Sx)(a:Nat)(c:Code)(b:TS)(h:ae)(Q:fg):Prop:=FV S a c (fr b) h (Bw a Q)
def Ml(S:Sx)(a:Nat)(c:Code)(b:TS)(h:ae)(Q:fg):Prop:=Mm S a c (fr b) h (Bw a Q)
def ad5(B:TH)(Q:fg)(x:Exit)(a:TS)(h:ae):Prop:=match x with
 |.normal=>B a h
 |x=>Q x a h
def My(c:Nat)(Q:fg)(x:Exit)(b:TS)(h:ae):Prop:=match x with
 |.exit a=>(match Nat.beq a c with|true=>Q .normal b h|false=>Q (.exit a) b h)
 |x=>Q x b h
def room(h:ae)(n:Nat):ae:={ h with next:=h.next+n }
def MW:Op->Bool
 |.load ..|.slice .. =>true
 |.call { callee:= .builtin .len,.. }=>true
 |_=>false
def afH:Op->Bool
 |.store .. =>true
 |.call { callee:= .value _,.. }=>true
 |_=>false
def Yd(ops:Array Oper)(f:Op->Bool)(j:Nat):Bool:=match ops[j]? with|some o=>f o.op|none=>false
def Kq:Op->Bool
 |.alloc ..|.box ..|.makeSlice ..|.buildSlice .. =>true
 |_=>false
def DJ:Op->Bool
 |.store .. =>true
 |.call { callee:= .value _,.. }=>true
 |.call { callee:= .builtin .append,.. }|.call { callee:= .builtin .copy,.. }|.call { callee:= .builtin .unsafeSliceData,.. }|.call { callee:= .builtin .unsafeString,.. }=>true
 |_=>false
def ifC(b:Bool)(A B:Prop):Prop:=Bool.rec (motive:=λ_=>Prop) B A b
def Pa(S:Sx)(o:Oper)(E:Fr)(v:Value)(h:ae)(K:Prop):Prop:=match o.op with
 |.load t a=>(aj S.P t h (fG S.gl E a)=some v/\dM 4 v v=true)/\K
 |.slice t x d c b=>(bK S.P t (fG S.gl E x) (d.map (fG S.gl E)) (c.map (fG S.gl E)) (b.map (fG S.gl E)) h=some v/\dM 4 v v=true)/\K
 |_=>(db S.P (fG S.gl E) o h=some v/\dM 4 v v=true)/\K
def vr(S:Sx)(bf:Nat->Nat->Bool)(j:Nat)(o:Oper)(E:Fr)(v:Value):ae->List (Nat×ae)->Bool->Prop->Prop
 |h,[],a,K=>ifC a K (Pa S o E v h K)
 |h,(e,b)::r,a,K=>ifC ((a&&Nat.blt j e)||bf j e) (ifC (bf e j) K (vr S bf j o E v b r (Nat.blt e j) K)) (Pa S o E v h (ifC (bf e j) K (vr S bf j o E v b r (Nat.blt e j) K)))
def AL(S:Sx)(bf:Nat->Nat->Bool)(h:ae)(a:List (Nat×ae)):List LR->Nat->Prop->Prop
 |[],_,K=>K
 |(E,o,.read v)::r,j,K=>vr S bf j o E v h a true (AL S bf h a r (j+1) K)
 |_::r,j,K=>AL S bf h a r (j+1) K
def alQ(S:Sx)(ρ:Operand->Value)(o:Oper)(K:dQ->(Nat->Value)->Prop):Prop:=match o.op with
 |.alloc t=>∃B,bw S.P t=some (B,kS)/\K B kS
 |.box t x=>∃B,eE S.P t (ρ x)=some (B,kS)/\K B kS
 |.makeSlice t l c=>∃B n d,cq S.P t (ρ l) (ρ c)=some (B,mY n d)/\K B (mY n d)
 |_=>∃B n d,cd S.P ρ o=some (B,mY n d)/\K B (mY n d)
def aaU{f:Type}(e:Op)(a b c d:f):f:=match oa e with
 |true=>a
 | false=>match MW e with
  |true=>b
  |false=>match Kq e with
   |true=>c
   |false=>d
def zF(S:Sx)(bf:Nat->Nat->Bool)(ops:Array Oper)(base:Nat)(d:ae):List Oper->Nat->TS->ae->List (Nat×dQ)->List LR->TH->Prop
 |[],_,a,h,pd,b,R=>AL S bf d (pZ b.reverse 0) b.reverse 0 (R a (cg h base pd))
 | o::l,j,a,h,pd,b,R=>gS ops a o.guard
   (λa=>aaU o.op
    (opT S a o h λv _=>Ir a o.dst v λc=>zF S bf ops base d l (j+1) c h pd ((fr a,o,.pure v)::b) R)
    (opT S a o h λv _=>Ir a o.dst v λc=>zF S bf ops base d l (j+1) c h pd ((fr a,o,.read v)::b) R)
    (alQ S (ev S.gl a) o λB f=>Ir a o.dst (f (base+j)) λc=>zF S bf ops base d l (j+1) c h ((j,B)::pd) ((fr a,o,.alloc B (f (base+j)))::b) R)
    (opT S a o (cg h base (pd.filter λp=>bf j p.1)) λv e=>Ir a o.dst v λc=>zF S bf ops base d l (j+1) c e (pd.filter λp=> !bf j p.1) ((fr a,o,.Co v e)::b) R))
   (λa=>Ir a o.dst undef λc=>zF S bf ops base d l (j+1) c h pd ((fr a,o,.skip)::b) R)
def sT(ops:Array Oper):Bool:= !Mq ops&&(ops.toList.all λo=>oa o.op||MW o.op||Kq o.op||DJ o.op)&&(List.range ops.size).all λe=> !Yd ops DJ e||(List.range ops.size).all λj=> !Yd ops DJ j || !Nat.blt j e||fp (lX ops) e j
def wc(a:TS)(j:Nat):Value:=a.getD j undef
def B4:Nat->Nat->List (Nat×Value)->(Nat->Value)->TS
 |0,_,_,_=>[]
 |n+1,j,[],x=>x j::B4 n (j+1) [] x
 |n+1,j,(i,v)::l,x=>match Nat.beq i j with
  |true=>v::B4 n (j+1) l x
  |false=>x j::B4 n (j+1) ((i,v)::l) x
theorem H6:∀(n j:Nat)(l:List (Nat×Value))(x:Nat->Value),(∀p∈l,p.2=x p.1)->B4 n j l x=(List.range' j n).map x
 |0,_,_,_,_=>by rfl
 |n+1,j,[],x,h=>by simp only[B4,range'_succ,List.map_cons];rw[H6 n (j+1) [] x h]
 | n+1,j,(i,v)::l,x,h=>by
  simp only[B4,range'_succ,List.map_cons]
  cases a:Nat.beq i j with
  |true=>
   dsimp only;rw[H6 n (j+1) l x λp b=>h p (mem_cons_of_mem _ b),<-Nat.eq_of_beq_eq_true a]
   simp_all
  |false=>
   dsimp only;rw[H6 n (j+1) ((i,v)::l) x h]
theorem Cv:∀(n j:Nat)(l:List (Nat×Value))(x:Nat->Value),(B4 n j l x).length=n
 |0,_,_,_=>by rfl
 |n+1,j,[],x=>by simp only[B4,length_cons];rw[Cv n (j+1) [] x]
 |n+1,j,(i,v)::l,x=>by
  simp only[B4]
  cases a:Nat.beq i j with
  |true=>dsimp only;rw[length_cons,Cv n (j+1) l x]
  |false=>dsimp only;rw[length_cons,Cv n (j+1) ((i,v)::l) x]
theorem LN(f:Nat->Value):∀(M:List Nat),∀p∈M.zip (M.map f),p.2=f p.1
 |[],p,h=>by simp at h
 |a::M,p,h=>by
  rw[List.map_cons,List.zip_cons_cons]at h;rcases mem_cons.1 h with rfl|h
  ·rfl
  ·exact LN f M p h
theorem KA{a:TS}(b:a.length=n)(M:List Nat):B4 n 0 (M.zip (M.map (wc a))) (wc a)=a:=by
 rw[H6 _ _ _ _ (LN _ M)];refine List.ext_getElem? λi=>?_
 grind[wc]
def aay(S:Sx)(a:Nat)(M:List Nat)(c:Code)(w:List Value)(h:ae)(Q:fg):Prop:=∀x:Nat->Value,Om S a c (B4 a 0 (M.zip w) x) h Q
def US(S:Sx)(b:Nat)(M:List Nat)(c:Code)(a:TS)(h:ae)(Q:fg):Prop:=match Nat.beq a.length b with
 |true=>aay S b M c (M.map (wc a)) h Q
 |false=>Om S b c a h Q
theorem MZ{M:List Nat}{c:Code}{a:TS}{Q:fg}(d:a.length=n)(b:US X n M c a h Q):Om X n c a h Q:=by
 unfold US at b;rw[d,Nat.beq_refl]at b;have:=b (wc a)
 grind[KA]
structure FD where
 nm:Nat
 body:Code
 rs:List ResultVar
 ms:List (List Nat×List Nat)
def cP(a:Func)(b:List (List Nat×List Nat)):FD:=⟨a.ntmps,a.body.getD .skip,a.results.toList,b⟩
def adE:List Nat->List Nat->Bool
 |[],[]=>true
 |a::x,b::y=>(match Nat.beq a b with
  |true=>adE x y
  |false=>false)
 |_,_=>false
def AG:List (List Nat×List Nat)->List Nat->List Nat
 |[],_=>[]
 |(q,m)::r,p=>match adE q p with
  |true=>m
  |false=>AG r p
def wpS(S:Sx)(e:Nat)(M:List (List Nat×List Nat))(p:List Nat):Code->TS->ae->fg->Prop
 |.skip,d,h,Q=>Q .normal d h
 | .region _ ops i,d,h,Q=>(match i with
  |false=>Zm S ops ops.toList d h λd h=>Q .normal d h
  |true=>(match sT ops with
   |true=>zF S (fp (lX ops)) ops h.next (room h ops.size) ops.toList 0 d (room h ops.size) [] [] λd h=>Q .normal d h
   |false=>wpD S ops (fr d) h (lift e λd h=>Q .normal d h)))
 |.seq a b,d,h,Q=>wpS S e M (0::p) a d h (ad5 (λd h=>wpS S e M (1::p) b d h Q) Q)
 |.cond c a b,d,h,Q=>aaM (ev S.gl d c) (wpS S e M (0::p) a d h Q) (wpS S e M (1::p) b d h Q)
 |.block g c,d,h,Q=>wpS S e M (0::p) c d h (My g Q)
 |.loop c,d,h,Q=>US S e (AG M (0::p).reverse) c d h Q
 |.exit g,d,h,Q=>Q (.exit g) d h
 |.ret,d,h,Q=>Q .ret d h
 |.label _,d,h,Q=>Q .normal d h
 |.rangeFunc f j a b,d,h,Q=>Ml S e (.rangeFunc f j a b) d h Q
 |_,_,_,_=>False
end
theorem Ul{a:TS}(h:a.length=n):ER n (fr a) a:=⟨h,λ_=>rfl⟩
theorem Gr{a:TS}(gl:Nat->Bool):fG gl (fr a)=ev gl a:=rfl
theorem DA{b:TS}(h:b.length=n){a:Option Tmp}(c:tU n a=true)(v:Value):vY (fr b) a v=fr (jK b a v):=by
 funext t;exact((Ul h).put c v).2 t |>.symm
theorem Bs{a:TS}(h:a.getD n undef=v):a.set n v=a:=by
 refine List.ext_getElem? λi=>?_
 grind
theorem Kj{ops:Array Oper}{h:TS}{c:Option (Nat×Bool)}{A B:TS->Prop}{k m:Unit->Prop}(n:A h->k ())(l:B h->m ())(a:gS ops h c A B):wpG (EP ops (fr h) c) k m:=by
 cases c with
 |none=>exact n a
 | some g=>
  obtain⟨j,e⟩:=g;unfold gS at a;rw[N8];dsimp only at a
  cases o:(ops[j]?).bind (·.dst)with
  |none=>grind
  | some d=>
   rw[o]at a;dsimp only at a⊢;show wpG (match h.getD d undef with|.bool b=>some (b==e)|.tuple _=>some false|_=>none) k m
   cases i:h.getD d undef with
   | bool b=>
    rw[i]at a;dsimp only at a⊢;rcases zu a with⟨rfl,f⟩|⟨rfl,f⟩
    ·rw[CC,Bs i]at f
     cases e
     ·exact l f
     ·exact n f
    ·rw[CC,Bs i]at f
     cases e
     ·exact n f
     ·exact l f
   |tuple p=>rw[i]at a;exact l a
   |_=>rw[i]at a;exact a.elim
theorem LI{r:Option (Value×dV)}{K:VH}(b:∀v h,K v h->Q v h)(a:Ja r h K):Ja r h Q:=by
 cases r with
 |none=>exact a
 |some p=>obtain⟨v,u⟩:=p;exact b _ _ a
theorem BN{K:VH}(b:∀d h,K d h->Q d h)(a:s8 X v c h K):s8 X v c h Q:=by
 unfold s8 at a⊢;split at a
 ·exact⟨a.1,a.2.mono b⟩
 ·exact⟨a.1,a.2.mono b⟩
 omega
theorem SF{o:Oper}{K:VH}(b:∀v h,K v h->Q v h)(a:wpOp X E o h K):wpOp X E o h Q:=by grind[BN,LI,wpOp]
theorem xp{S:Sx}{f:Nat}{ops:Array Oper}{R:TH}{c:FH}(g:∀b h,b.length=f->R b h->c (fr b) h):∀(l:List Oper){b:TS}{h:ae},b.length=f->(l.all λo=>tU f o.dst)=true->Zm S ops l b h R->XU S ops l (fr b) h c
 |[],_,_,e,_,a=>g _ _ e a
 |o::l,b,h,e,d,a=>by
  simp only[all_cons,and_eq_true]at d;rw[XD];refine Kj (λa=>?_) (λa=>?_) a
  ·show wpOp S (fr b) o h (opK S ops o.dst l (fr b) c);have a:=O0 a;rw[<-Gr]at a;refine SF (λv h a=>?_) (vn a);show XU S ops l (vY (fr b) o.dst v) h c;rw[DA e d.1];rw[Cy]at a;exact xp g l (by grind[nI]) d.2 a
  ·show XU S ops l (vY (fr b) o.dst undef) h c;rw[DA e d.1];rw[Cy]at a;exact xp g l (by grind[nI]) d.2 a
theorem EY{o:Oper}{K:VH}(b:∀v h,K v h->Q v h)(a:EX X E o h K):EX X E o h Q:=by grind[BN,LI,EX]
theorem XC{r:Option Bool}{A B a b:Unit->Prop}(e:A ()->a ())(c:B ()->b ())(d:wpG r A B):wpG r a b:=by
 rcases I1 d with⟨rfl,h⟩|⟨rfl,h⟩
 ·exact e h
 ·exact c h
theorem oV{S:Sx}{bf:Nat->Nat->Bool}{ops:Array Oper}{base:Nat}{g:ae}{R i:FH}(c:∀E h,R E h->i E h):∀(l:List Oper)(j:Nat)(E:Fr)(h:ae)(pd:List (Nat×dQ))(b:List LR),zJ S bf ops base g l j E h pd b R->zJ S bf ops base g l j E h pd b i
 |[],_,_,_,_,_,a=>⟨a.1,c _ _ a.2⟩
 | o::l,j,E,h,pd,b,a=>by
  simp only[zJ]at a⊢;refine XC (λa=>?_) (λa=>oV c l _ _ _ _ _ a) a
  cases k:dz S.P (fG S.gl E) o with
  |some v=>rw[k]at a;exact oV c l _ _ _ _ _ a
  | none=>
   rw[k]at a;dsimp only at a⊢
   cases e:db S.P (fG S.gl E) o h with
   |some v=>rw[e]at a;exact oV c l _ _ _ _ _ a
   | none=>
    rw[e]at a;dsimp only at a⊢
    cases d:cd S.P (fG S.gl E) o with
    |some p=>obtain⟨B,f⟩:=p;rw[d]at a;exact oV c l _ _ _ _ _ a
    |none=>
     rw[d]at a;dsimp only at a⊢;exact EY (λv m a=>oV c l _ _ _ _ _ a) a
theorem XB{ops:Array Oper}{R b:FH}(c:∀E h,R E h->b E h)(a:wpD X ops E h R):wpD X ops E h b:=⟨a.1,oV c _ _ _ _ _ _ a.2⟩
theorem abi{ops:Array Oper}{f:Op->Bool}(h:Yd ops f j=true):j<ops.size:=by grind[Yd]
theorem DG{A B:Prop}(h:ifC b A B):(b=true/\A)\/(b=false/\B):=by
 cases b with
 |true=>exact .inl ⟨rfl,h⟩
 |false=>exact .inr ⟨rfl,h⟩
theorem uH{o:Oper}{K:Prop}(a:Pa X o E v h K):GX X o E v h=true/\K:=by
 obtain⟨f,i,g,d,c,b⟩:=o;have j:(db X.P (fG X.gl E) ⟨f,i,g,d,c,b⟩ h=some v/\dM 4 v v=true)/\K:=by
  unfold Pa at a;split at a
  ·next e=>subst e;exact a
  ·next e=>subst e;exact a
  ·exact a
 grind[GX]
theorem wG{S:Sx}{bf:Nat->Nat->Bool}{j:Nat}{o:Oper}{E:Fr}{v:Value}{K:Prop}:∀{g:List (Nat×ae)}{h:ae}{a:Bool},vr S bf j o E v h g a K->qk S bf j o E v h g a=true/\K
 |[],h,a,b=>by
  rcases DG b with⟨rfl,d⟩|⟨rfl,d⟩
  ·exact⟨rfl,d⟩
  ·exact⟨(uH d).1,(uH d).2⟩
 | (e,i)::r,h,a,b=>by
  have m:∀{k:Prop},ifC (bf e j) K (vr S bf j o E v i r (Nat.blt e j) K)->((bf e j||qk S bf j o E v i r (Nat.blt e j))=true)/\K:=λb=>by
   rcases DG b with⟨f,c⟩|⟨f,c⟩
   ·grind
   ·have:=wG c
    grind
  have b:ifC ((a&&Nat.blt j e)||bf j e) _ _:=b;simp only[qk,and_eq_true];rcases DG b with⟨f,c⟩|⟨f,c⟩
  ·simp_all
  ·obtain⟨l,n⟩:=uH c
   simp_all
theorem sJ{S:Sx}{bf:Nat->Nat->Bool}{h:ae}{b:List (Nat×ae)}{K:Prop}:∀{l:List LR}{j:Nat},AL S bf h b l j K->xu S bf h b l j=true/\K
 |[],_,a=>⟨rfl,a⟩
 | (E,o,e)::r,j,a=>by
  cases e with
  |read v=>
   have c:=wG (show vr S bf j o E v h b true (AL S bf h b r (j+1) K)from a);have d:=sJ c.2
   grind[xu]
  |_=>exact sJ (l:=r) a
def FT(ops:Array Oper)(i:Nat)(l:List LR):Prop:=∀k r,l[k]?=some r->∀v g,r.2.2 = .Co v g->Yd ops DJ (i+k)=true
theorem xe{ops:Array Oper}:∀{l:List LR}{i:Nat},FT ops i l->∀p∈pZ l i,Yd ops DJ p.1=true/\i<=p.1
 |[],_,_=>by simp[pZ]
 | r::l,i,c=>by
  have a:FT ops (i+1) l:=λk r h=>by
   have:=c (k+1) r (by simpa using h)
   grind
  obtain⟨E,o,e⟩:=r;intro p b;have d:p∈pZ l (i+1)->Yd ops DJ p.1=true/\i<=p.1:=λh=>⟨(xe a p h).1,by have:=(xe a p h).2;omega⟩
  cases e with
  |Co v g=>
   rcases mem_cons.1 b with rfl|b
   ·exact⟨c 0 _ rfl v g rfl,Nat.le_refl _⟩
   grind
  |_=>exact d b
theorem uL{ops:Array Oper}(b:sT ops=true):∀{l:List LR}{i:Nat},FT ops i l->kg (fp (lX ops)) (pZ l i)=true
 |[],_,_=>rfl
 | r::l,i,s=>by
  have c:FT ops (i+1) l:=λk r h=>by
   have:=s (k+1) r (by simpa using h)
   grind
  obtain⟨E,o,e⟩:=r;have d:=uL b c
  cases e with
  | Co v g=>
   show kg (fp (lX ops)) ((i,g)::pZ l (i+1))=true;have a:=xe c
   cases q:pZ l (i+1)with
   |nil=>rfl
   |cons p t=>
    obtain⟨j,f⟩:=p;rw[q]at d a;show(fp (lX ops) j i&&kg (fp (lX ops)) ((j,f)::t))=true;rw[d,Bool.and_true];have u:=s 0 _ rfl v g rfl;have n:=a (j,f) (mem_cons_self ..);unfold sT at b;simp only[and_eq_true]at b;have m:=all_eq_true.1 b.2 j (mem_range.2 (abi n.1));rw[n.1]at m;simp only[Bool.not_true,Bool.false_or]at m
    grind[blt_eq,Yd]
  |_=>exact d
theorem PI{ρ:Operand->Value}{o:Oper}(l:Kq o.op=true){K:dQ->(Nat->Value)->Prop}(a:alQ X ρ o K):∃B f,cd X.P ρ o=some (B,f)/\K B f:=by
 obtain⟨j,m,k,i,h,g⟩:=o;unfold alQ at a;split at a
 ·next e=>subst e;obtain⟨B,b,c⟩:=a;exact⟨B,_,b,c⟩
 ·next e=>subst e;obtain⟨B,b,c⟩:=a;exact⟨B,_,b,c⟩
 ·next e=>subst e;obtain⟨B,n,d,b,c⟩:=a;exact⟨B,_,b,c⟩
 grind
theorem A9{S:Sx}{Y:Nat}{ops:Array Oper}(N:sT ops=true){base:Nat}{O:ae}{R:TH}{R':FH}(hR:∀s h,s.length=Y->R s h->R' (fr s) h):∀(l:List Oper)(j:Nat)(s:TS)(h:ae)(pd:List (Nat×dQ))(q:List LR),s.length=Y->(l.all λo=>tU Y o.dst)=true->ops.toList.drop j=l->q.length=j->FT ops 0 q.reverse->zF S (fp (lX ops)) ops base O l j s h pd q R->zJ S (fp (lX ops)) ops base O l j (fr s) h pd q R'
 |[],j,s,h,pd,q,T,_,_,_,hr,n=>by
  have X:=sJ (show AL S (fp (lX ops)) O (pZ q.reverse 0) q.reverse 0 (R s (cg h base pd))from n);refine⟨?_,hR _ _ T X.2⟩
  grind[uL,yu]
 | o::l,j,s,h,pd,q,T,Q,V,x4,hr,n=>by
  have ho:ops[j]?=some o:=by
   have:(ops.toList.drop j)[0]?=some o:=by rw[V];rfl
   rw[getElem?_drop]at this;rw[<-getElem?_toList];simpa using this
  have L:ops.toList.drop (j+1)=l:=by rw[<-drop_drop,V];rfl
  simp only[all_cons,and_eq_true]at Q;have H:∀e,(∀v g,e=tc.Co v g->DJ o.op=true)->FT ops 0 ((fr s,o,e)::q).reverse:=by
   intro e U k r G;rw[List.reverse_cons]at G;rcases lt_or_ge k q.reverse.length with W|W
   ·rw[List.getElem?_append_left W]at G;exact hr k r G
   ·rw[List.getElem?_append_right W]at G;have x2:k-q.reverse.length=0:=by
     rcases eq_zero_or_pos (k-q.reverse.length)with h4|h4
     ·exact h4
     ·rw[getElem?_eq_none (by simp only[length_cons,List.length_nil];omega)]at G;cases G
    rw[x2]at G;obtain rfl:=oI G
    grind[Yd]
  simp only[zJ];refine Kj (λn=>?_) (λn=>?_) n
  ·have Z:∀v e g M,(∀v g,e=tc.Co v g->DJ o.op=true)->Ir s o.dst v (λx1=>zF S (fp (lX ops)) ops base O l (j+1) x1 g M ((fr s,o,e)::q) R)->zJ S (fp (lX ops)) ops base O l (j+1) (vY (fr s) o.dst v) g M ((fr s,o,e)::q) R':=by
    intro v e g M U n;rw[Cy]at n;rw[DA T Q.1];exact A9 N hR l (j+1) _ g _ _ (by grind[nI]) Q.2 L (by grind) (H e U) n
   have D:(oa o.op||MW o.op||Kq o.op||DJ o.op)=true:=by
    have hc:=N;unfold sT at hc;simp only[and_eq_true]at hc;exact all_eq_true.1 hc.1.2 o (List.mem_of_mem_drop (i:=j) (by grind))
   obtain⟨y,u,z,w,m,d⟩:=o;unfold aaU at n
   cases A:oa u with
   |true=>
    rw[show oa (Oper.mk y u z w m d).op=true from A]at n;have n:=vn (E:=fr s) (by rw[Gr];exact O0 n)
    grind[eM,vL]
   |false=>
   rw[show oa (Oper.mk y u z w m d).op=false from A]at n;dsimp only at n
   cases I:MW u with
   | true=>
    rw[show MW (Oper.mk y u z w m d).op=true from I]at n;have n:=vn (E:=fr s) (by rw[Gr];exact O0 n);have J:dz S.P (fG S.gl (fr s)) ⟨y,u,z,w,m,d⟩=none/\bS ⟨y,u,z,w,m,d⟩=false/\cd S.P (fG S.gl (fr s)) ⟨y,u,z,w,m,d⟩=none/\gL S.P jw (fG S.gl (fr s)) ⟨y,u,z,w,m,d⟩ h=none:=by
     clear n H Z D A ho;revert I
     cases u with
     |load=>intro _;exact⟨rfl,rfl,rfl,rfl⟩
     |slice=>intro _;exact⟨rfl,rfl,rfl,rfl⟩
     |call c=>
      obtain⟨F,x0,x3⟩:=c
      cases F with
      |builtin b=>cases b<;>intro A<;>first|exact⟨rfl,rfl,rfl,rfl⟩|cases A
      |_=>intro A;cases A
     |_=>intro A;cases A
    grind[rD,vL]
   |false=>
   rw[show MW (Oper.mk y u z w m d).op=false from I]at n;dsimp only at n
   cases C:Kq u with
   | true=>
    rw[show Kq (Oper.mk y u z w m d).op=true from C]at n;rw[<-Gr]at n;obtain⟨B,f,X,U⟩:=PI C n;have J:dz S.P (fG S.gl (fr s)) ⟨y,u,z,w,m,d⟩=none/\db S.P (fG S.gl (fr s)) ⟨y,u,z,w,m,d⟩ h=none:=by
     clear n H Z D A ho X U I;revert C
     cases u<;>intro C<;>first|exact⟨rfl,rfl⟩|cases C
    grind
   |false=>
   rw[show Kq (Oper.mk y u z w m d).op=false from C]at n;dsimp only at n;have P:DJ u=true:=by
    have G:(oa u||MW u||Kq u||DJ u)=true:=D;rw[A,I,C]at G;exact G
   have n:=vn (E:=fr s) (by rw[Gr];exact O0 n);generalize cg h base (pd.filter λp=>fp (lX ops) j p.1)=hs at n⊢;have J:(∀h,dz S.P (fG S.gl (fr s)) ⟨y,u,z,w,m,d⟩=none/\db S.P (fG S.gl (fr s)) ⟨y,u,z,w,m,d⟩ h=none/\cd S.P (fG S.gl (fr s)) ⟨y,u,z,w,m,d⟩=none)/\
     ∀K:VH,wpOp S (fr s) ⟨y,u,z,w,m,d⟩ hs K->EX S (fr s) ⟨y,u,z,w,m,d⟩ hs K:=by
    clear n H Z D A ho I C;revert P
    cases u with
    |store t a x=>intro _;exact⟨λ_=>⟨rfl,rfl,rfl⟩,λK n=>by rw[EZ _ _ _ _ _ rfl rfl rfl rfl]at n;exact n⟩
    |call c=>
     obtain⟨F,x0,x3⟩:=c
     cases F with
     |value f=>intro _;exact⟨λ_=>⟨rfl,rfl,rfl⟩,λK n=>n⟩
     |builtin b=>cases b<;>intro P<;>first|exact⟨λ_=>⟨rfl,rfl,rfl⟩,λK n=>by rw[EZ _ _ _ _ _ rfl rfl rfl rfl]at n;exact n⟩|cases P
     |_=>intro A;cases A
    |_=>intro A;cases A
   rw[(J.1 h).1];dsimp only;rw[(J.1 h).2.1];dsimp only;rw[(J.1 h).2.2]
   grind[EY]
  ·rw[Cy]at n;rw[DA T Q.1];exact A9 N hR l (j+1) _ h _ _ (by grind[nI]) Q.2 L (by grind) (H .skip (by simp)) n
theorem im{S:Sx}{l:Nat}{M:List (List Nat×List Nat)}:∀(c:Code){p:List Nat}{e:TS}{h:ae}{Q:fg}{Q':Fh},e.length=l->gw l c=true->(∀x e h,e.length=l->Q x e h->Q' x (fr e) h)->wpS S l M p c e h Q->Xz S l c (fr e) h Q'
 |.skip,_,_,_,_,_,g,_,i,d=>i _ _ _ g d
 |.exit _,_,_,_,_,_,g,_,i,d=>i _ _ _ g d
 |.ret,_,_,_,_,_,g,_,i,d=>i _ _ _ g d
 |.label _,_,_,_,_,_,g,_,i,d=>i _ _ _ g d
 | .region _ ops v,p,e,h,Q,Q',g,j,i,d=>by
  cases v with
  |false=>exact xp (λe h g d=>i _ _ _ g d) ops.toList g j d
  | true=>
   cases n:sT ops with
   |true=>
    have d:(match sT ops with|true=>zF S (fp (lX ops)) ops h.next (room h ops.size) ops.toList 0 e (room h ops.size) [] [] λe h=>Q .normal e h|false=>_):=d;rw[n]at d;refine⟨?_,A9 n (λe h g d=>i _ _ _ g d) ops.toList 0 e _ [] [] g j rfl rfl (λk r h=>by simp at h) d⟩
    simp_all[sT]
   |false=>
   have d:(match sT ops with|true=>_|false=>wpD S ops (fr e) h (lift l λe h=>Q .normal e h)):=d;rw[n]at d;refine XB (λE h d=>?_) (show wpD S ops (fr e) h (lift l λe h=>Q .normal e h)from d);obtain⟨s,m,rfl,q⟩:=d
   grind
 |.seq a b,p,e,h,Q,Q',g,j,i,d=>by
  simp only[gw,and_eq_true]at j;refine im a g j.1 (λx e h g d=>?_) d
  cases x with
  |normal=>exact im b g j.2 i d
  |_=>exact i _ _ _ g d
 | .cond c a b,p,e,h,Q,Q',g,j,i,d=>by
  simp only[gw,and_eq_true]at j;rw[XA,Gr];simp only[wpS]at d;unfold aaM at d;split at d
  ·next t B=>
   rw[B];rcases zu d with⟨rfl,m⟩|⟨rfl,m⟩
   ·exact im a g j.1 i m
   ·exact im b g j.2 i m
  grind
 | .block z c,p,e,h,Q,Q',g,j,i,d=>by
  refine im c g j (λx e h g d=>?_) d
  cases x with
  | exit o=>
   show if o=z then Q' .normal (fr e) h else Q' (.exit o) (fr e) h;simp only[My]at d
   cases y:Nat.beq o z with
   |true=>simp_all
   |false=>
    rw[y]at d;rw[if_neg (Nat.ne_of_beq_eq_false y)];grind
  |_=>exact i _ _ _ g d
 |.loop c,p,e,h,Q,Q',g,j,i,d=>by
  obtain⟨x,u,w,m,q⟩:=(show FV S l c (fr e) h (Bw l Q)from MZ g d)
  refine⟨x,u,w,m,?_⟩;obtain⟨s,A,rfl,C⟩:=q
  grind
 |.rangeFunc f D a b,p,e,h,Q,Q',g,j,i,d=>by
  obtain⟨x,u,w,m,q⟩:=(show Mm S l (.rangeFunc f D a b) (fr e) h (Bw l Q)from d)
  refine⟨x,u,w,m,?_⟩;obtain⟨s,A,rfl,C⟩:=q
  grind
 |.scope _,_,_,_,_,_,_,_,_,d=>d.elim
 |.goto _,_,_,_,_,_,_,_,_,d=>d.elim
 |.refuse _,_,_,_,_,_,_,_,_,d=>d.elim
def aeD(I:Nat->TH)(n:Nat)(a:TS)(h:ae):Prop:=∃m,m<n/\I m a h
def acd(I:Nat->TH)(n:Nat)(Q:fg)(x:Exit)(a:TS)(h:ae):Prop:=match x with
 |.normal=>aeD I n a h
 |x=>Q x a h
def K7:Code->Nat->Oper
 |.region _ ops _,i=>ops.toList.getD i ⟨none,.nilCheck (.tmp 0),0,"",#[],none⟩
 |_,_=>⟨none,.nilCheck (.tmp 0),0,"",#[],none⟩
def fV:List Nat->Code->Code
 |[],c=>c
 |0::p,.seq a _=>fV p a
 |_::p,.seq _ b=>fV p b
 |0::p,.cond _ a _=>fV p a
 |_::p,.cond _ _ b=>fV p b
 |_::p,.block _ a=>fV p a
 |_::p,.loop a=>fV p a
 |0::p,.rangeFunc _ _ a _=>fV p a
 |_::p,.rangeFunc _ _ _ b=>fV p b
 |_,_=> .skip
theorem MY{M:List (List Nat×List Nat)}{p:List Nat}{c:Code}{Q:fg}(g:gw n c=true)(I:Nat->TH)(j:∀d a h,a.length=n->I d a h->wpS X n M p c a h (acd I d Q)):∀d a h,a.length=n->I d a h->Om X n c a h Q:=by
 intro d
 induction d using Nat.strongRecOn with
 | _ d k=>
  intro a h b l;refine UT g (im c b g (λx a h b f=>?_) (j d a h b l))
  cases x with
  |normal=>
   obtain⟨m,i,e⟩:=f;exact k m i a h b e
  |_=>exact⟨a,b,rfl,f⟩
def aM(A:Nat->List Value->ae->Prop)(n:Nat)(w:List Value)(h:ae):Prop:=∃m,m<n/\A m w h
def acb(M:List Nat)(A:Nat->List Value->ae->Prop)(n:Nat)(Q:fg)(x:Exit)(a:TS)(h:ae):Prop:=match x with
 |.normal=>aM A n (M.map (wc a)) h
 |x=>Q x a h
theorem ai{A B:Prop}(h:A)(e:A=B:=by kernel_rfl):B:=cast e h
def kAt(S:Sx)(c:Nat)(M:List (List Nat×List Nat)):List Nat->List Nat->Code->fg->fg
 |_,[],_,K=>K
 |p,0::q,.seq a b,K=>kAt S c M (0::p) q a (ad5 (λe h=>wpS S c M (1::p) b e h K) K)
 |p,_::q,.seq _ b,K=>kAt S c M (1::p) q b K
 |p,0::q,.cond _ a _,K=>kAt S c M (0::p) q a K
 |p,_::q,.cond _ _ b,K=>kAt S c M (1::p) q b K
 |p,_::q,.block d a,K=>kAt S c M (0::p) q a (My d K)
 |_,_,_,K=>K
def LL(S:Sx)(X:FD)(p:List Nat)(w:List Value)(h:ae)(Q:fg):Prop:=aay S X.nm (AG X.ms p) (fV p X.body) w h Q
def TT(S:Sx)(X:FD)(p:List Nat)(a:TS)(h:ae)(Q:fg):Prop:=wpS S X.nm X.ms p.reverse (fV p X.body) a h Q
def KK(S:Sx)(X:FD)(q p:List Nat)(K:fg):fg:=kAt S X.nm X.ms p.reverse q (fV p X.body) K
def RR(X:FD)(p:List Nat)(A:Nat->List Value->ae->Prop)(n:Nat)(Q:fg):fg:=acb (AG X.ms p) A n Q
theorem GV{a:FD}{p:List Nat}{K:fg}(A:Nat->List Value->ae->Prop)(e:gw a.nm (fV p a.body)=true)
  (step:∀n w (x:Nat->Value) h,A n w h->TT X a p (B4 a.nm 0 ((AG a.ms p).zip w) x) h (RR a p A n K)) (n:Nat) {w:List Value} {h:ae} (g:A n w h) (f:∀x:Nat->Value,(AG a.ms p).map (wc (B4 a.nm 0 ((AG a.ms p).zip w) x))=w):LL X a p w h K:=λx=>
 MY (M:=a.ms) (p:=p.reverse) e (λm b h=>A m ((AG a.ms p).map (wc b)) h) (λm b h c d=>by
  have:=step m ((AG a.ms p).map (wc b)) (wc b) h d;rw[KA c]at this;exact this) n _ h (Cv ..) (by grind)
def fy{b:Type}(W:b->LV)(I:Nat->b->ae->Prop)(n:Nat)(w:LV)(h:ae):Prop:=∃a,w=W a/\I n a h
theorem cm{W:A->LV}{I:Nat->A->ae->Prop}(m:Nat){a:A}{h:ae}(b:m<n)(c:I m a h):aM (fy W I) n (W a) h:=⟨m,b,a,rfl,c⟩
theorem dm{b:FD}{p:List Nat}{K:fg}(W:A->LV)(I:Nat->A->ae->Prop)
  (step:∀n (a:A) (x:Nat->Value) h,I n a h->TT X b p (B4 b.nm 0 ((AG b.ms p).zip (W a)) x) h (RR b p (fy W I) n K)) (n:Nat) {a:A} {h:ae} (c:I n a h) (e:gw b.nm (fV p b.body)=true:=by kernel_rfl) (d:∀x:Nat->Value,(AG b.ms p).map (wc (B4 b.nm 0 ((AG b.ms p).zip (W a)) x))=W a:=by intro;kernel_rfl):LL X b p (W a) h K:=
 GV (fy W I) e (λn w x h ⟨a,f,c⟩=>by grind) n ⟨a,rfl,c⟩ d
def pU{c d:Type}(W:c->d->LV)(I:Nat->c->d->ae->Prop)(n:Nat)(w:LV)(h:ae):Prop:=∃a b,w=W a b/\I n a b h
theorem hW{W:A->B->LV}{I:Nat->A->B->ae->Prop}(m:Nat){a:A}{b:B}{h:ae}(c:m<n)(d:I m a b h):aM (pU W I) n (W a b) h:=⟨m,c,a,b,rfl,d⟩
theorem mw{c:FD}{p:List Nat}{K:fg}(W:A->B->LV)(I:Nat->A->B->ae->Prop)
  (step:∀n (a:A) (b:B) (x:Nat->Value) h,I n a b h->TT X c p (B4 c.nm 0 ((AG c.ms p).zip (W a b)) x) h (RR c p (pU W I) n K)) (n:Nat) {a:A} {b:B} {h:ae} (d:I n a b h) (f:gw c.nm (fV p c.body)=true:=by kernel_rfl) (e:∀x:Nat->Value,(AG c.ms p).map (wc (B4 c.nm 0 ((AG c.ms p).zip (W a b)) x))=W a b:=by intro;kernel_rfl):LL X c p (W a b) h K:=
 GV (pU W I) f (λn w x h ⟨a,b,g,d⟩=>by grind) n ⟨a,b,rfl,d⟩ e
def LA3{d f e:Type}(W:d->f->e->LV)(I:Nat->d->f->e->ae->Prop)(n:Nat)(w:LV)(h:ae):Prop:=∃a b c,w=W a b c/\I n a b c h
theorem Kl{d:Type}{W:A->B->d->LV}{I:Nat->A->B->d->ae->Prop}(m:Nat){a:A}{b:B}{c:d}{h:ae}(e:m<n)(f:I m a b c h):aM (LA3 W I) n (W a b c) h:=⟨m,e,a,b,c,rfl,f⟩
theorem Wd{d:FD}{p:List Nat}{K:fg}{e:Type}(W:A->B->e->LV)(I:Nat->A->B->e->ae->Prop)
  (step:∀n (a:A) (b:B) (c:e) (x:Nat->Value) h,I n a b c h->TT X d p (B4 d.nm 0 ((AG d.ms p).zip (W a b c)) x) h (RR d p (LA3 W I) n K)) (n:Nat) {a:A} {b:B} {c:e} {h:ae} (f:I n a b c h) (i:gw d.nm (fV p d.body)=true:=by kernel_rfl) (g:∀x:Nat->Value,(AG d.ms p).map (wc (B4 d.nm 0 ((AG d.ms p).zip (W a b c)) x))=W a b c:=by intro;kernel_rfl):LL X d p (W a b c) h K:=
 GV (LA3 W I) i (λn w x h ⟨a,b,c,j,f⟩=>by grind) n ⟨a,b,c,rfl,f⟩ g
def LA4{f i g e:Type}(W:f->i->g->e->LV)(I:Nat->f->i->g->e->ae->Prop)(n:Nat)(w:LV)(h:ae):Prop:=∃a b c d,w=W a b c d/\I n a b c d h
theorem Ur{f e:Type}{W:A->B->f->e->LV}{I:Nat->A->B->f->e->ae->Prop}(m:Nat){a:A}{b:B}{c:f}{d:e}{h:ae}(g:m<n)(i:I m a b c d h):aM (LA4 W I) n (W a b c d) h:=⟨m,g,a,b,c,d,rfl,i⟩
theorem We{e:FD}{p:List Nat}{K:fg}{g f:Type}(W:A->B->g->f->LV)(I:Nat->A->B->g->f->ae->Prop)
  (step:∀n (a:A) (b:B) (c:g) (d:f) (x:Nat->Value) h,I n a b c d h->TT X e p (B4 e.nm 0 ((AG e.ms p).zip (W a b c d)) x) h (RR e p (LA4 W I) n K)) (n:Nat) {a:A} {b:B} {c:g} {d:f} {h:ae} (i:I n a b c d h) (k:gw e.nm (fV p e.body)=true:=by kernel_rfl) (j:∀x:Nat->Value,(AG e.ms p).map (wc (B4 e.nm 0 ((AG e.ms p).zip (W a b c d)) x))=W a b c d:=by intro;kernel_rfl):LL X e p (W a b c d) h K:=
 GV (LA4 W I) k (λn w x h ⟨a,b,c,d,l,i⟩=>by grind) n ⟨a,b,c,d,rfl,i⟩ j
def CG{g k j f i:Type}(W:g->k->j->f->i->LV)(I:Nat->g->k->j->f->i->ae->Prop)(n:Nat)(w:LV)(h:ae):Prop:=∃a b c d e,w=W a b c d e/\I n a b c d e h
theorem pv{i f g:Type}{W:A->B->i->f->g->LV}{I:Nat->A->B->i->f->g->ae->Prop}(m:Nat){a:A}{b:B}{c:i}{d:f}{e:g}{h:ae}(j:m<n)(k:I m a b c d e h):aM (CG W I) n (W a b c d e) h:=⟨m,j,a,b,c,d,e,rfl,k⟩
theorem GU{f:FD}{p:List Nat}{K:fg}{j g i:Type}(W:A->B->j->g->i->LV)(I:Nat->A->B->j->g->i->ae->Prop)
  (step:∀n (a:A) (b:B) (c:j) (d:g) (e:i) (x:Nat->Value) h,I n a b c d e h->TT X f p (B4 f.nm 0 ((AG f.ms p).zip (W a b c d e)) x) h (RR f p (CG W I) n K)) (n:Nat) {a:A} {b:B} {c:j} {d:g} {e:i} {h:ae} (k:I n a b c d e h) (m:gw f.nm (fV p f.body)=true:=by kernel_rfl) (l:∀x:Nat->Value,(AG f.ms p).map (wc (B4 f.nm 0 ((AG f.ms p).zip (W a b c d e)) x))=W a b c d e:=by intro;kernel_rfl):LL X f p (W a b c d e) h K:=
 GV (CG W I) m (λn w x h ⟨a,b,c,d,e,o,k⟩=>by grind) n ⟨a,b,c,d,e,rfl,k⟩ l
def LA6{i l k g j m:Type}(W:i->l->k->g->j->m->LV)(I:Nat->i->l->k->g->j->m->ae->Prop)(n:Nat)(w:LV)(h:ae):Prop:=∃a b c d e f,w=W a b c d e f/\I n a b c d e f h
theorem adH{j g i k:Type}{W:A->B->j->g->i->k->LV}{I:Nat->A->B->j->g->i->k->ae->Prop}(m:Nat){a:A}{b:B}{c:j}{d:g}{e:i}{f:k}{h:ae}(l:m<n)(o:I m a b c d e f h):aM (LA6 W I) n (W a b c d e f) h:=⟨m,l,a,b,c,d,e,f,rfl,o⟩
theorem ad3{g:FD}{p:List Nat}{K:fg}{k i j l:Type}(W:A->B->k->i->j->l->LV)(I:Nat->A->B->k->i->j->l->ae->Prop)
  (step:∀n (a:A) (b:B) (c:k) (d:i) (e:j) (f:l) (x:Nat->Value) h,I n a b c d e f h->TT X g p (B4 g.nm 0 ((AG g.ms p).zip (W a b c d e f)) x) h (RR g p (LA6 W I) n K)) (n:Nat) {a:A} {b:B} {c:k} {d:i} {e:j} {f:l} {h:ae} (m:I n a b c d e f h) (q:gw g.nm (fV p g.body)=true:=by kernel_rfl) (o:∀x:Nat->Value,(AG g.ms p).map (wc (B4 g.nm 0 ((AG g.ms p).zip (W a b c d e f)) x))=W a b c d e f:=by intro;kernel_rfl):LL X g p (W a b c d e f) h K:=
 GV (LA6 W I) q (λn w x h ⟨a,b,c,d,e,f,r,m⟩=>by grind) n ⟨a,b,c,d,e,f,rfl,m⟩ o
def RG(S:Sx)(X:FD)(p:List Nat)(a:TS)(h:ae)(Q:fg):Prop:=Ml S X.nm (fV p X.body) a h Q
theorem No{f:Operand}{k:Array Tmp}{b:Code}{a:TS}{Q:fg}{first:Array Value}(o:a.length=n)(y:ev X.gl a f = .func (.func m) first V)(u:ss H b=true)(B:m<YB/\Dg X.P m=true)
  (p:FW X m (first.toList++[.func (.yield h.next) #[] #[]]++V.toList) (h.push (.loop .ready a k.toList H b u)) λ_ d=>∃e,H0 (d.get h.next)=some e/\Q e a (d.del h.next)):Ml X n (.rangeFunc f k H b) a h Q:=by
 obtain⟨v,d,⟨t,A⟩,e,z,q⟩:=p;refine⟨e,fr a,d.del h.next,⟨t,λC N x _ c g=>⟨c,g,?_⟩⟩,a,o,rfl,q⟩;have w:c=a:=by
  refine List.ext_getElem? λi=>?_;have j:=g.2 i;unfold fr at j;by_cases r:i<n
  ·have l:c[i]?=some (c.getD i undef):=by rw[gD,gE (by rw[g.1];exact r)];rfl
   have s:a[i]?=some (a.getD i undef):=by rw[gD,gE (by omega)];rfl
   rw[l,s,j]
  ·rw[getElem?_eq_none (by rw[g.1];omega),getElem?_eq_none (by omega)]
 simp_all[bN]
theorem NI{M:List (List Nat×List Nat)}{B:List Nat}{d:TS}{f:List Tmp}{a:Code}{i:ss H a=true}{K:VH}(J:h.get k=some (.loop .ready d f H a i))(r:c.length=f.length)(o:(qo d (f.zip c)).length=n)(D:gw n H=true)(A:gw n a=true)
  (q:wpS X n M y H (qo d (f.zip c)) h λe m l=>e = .normal/\l.get k=some (.loop .ready d f H a i)/\wpS X n M B a m (l.set k (.loop .busy d f H a i)) λe _ g=>g.get k=some (.loop .busy d f H a i)/\∃b j,Bx e=some (b,j)/\K (.bool b) (g.set k (.loop j d f H a i))):FW X (YB+k) c h K:=by
 have l:=im (Q':=Bw n λe m l=>e = .normal/\l.get k=some (.loop .ready d f H a i)/\wpS X n M B a m (l.set k (.loop .busy d f H a i)) λe _ g=>g.get k=some (.loop .busy d f H a i)/\∃b j,Bx e=some (b,j)/\K (.bool b) (g.set k (.loop j d f H a i))) H o D (λx d h o q=>⟨d,o,rfl,q⟩) q;obtain⟨x,V,l,⟨E,u⟩,m,t,rfl,rfl,v,g⟩:=il H D l;have g:=im (Q':=Bw n λe _ g=>g.get k=some (.loop .busy d f H a i)/\∃b j,Bx e=some (b,j)/\K (.bool b) (g.set k (.loop j d f H a i))) a t A (λx d h o q=>⟨d,o,rfl,q⟩) g;obtain⟨x,T,g,⟨G,C⟩,N,Q,rfl,s,b,j,z,I⟩:=il a A g;refine⟨_,_,⟨max E G+1,λP R=>?_⟩,I⟩;obtain⟨p,rfl⟩:∃p,P=p+1:=⟨P-1,by omega⟩
 obtain⟨U,w,F⟩:=u p p (by omega) (by omega) _ (Ul o);obtain⟨S,O,L⟩:=C p p (by omega) (by omega) _ w;simp only[ck];rw[if_pos (by omega),Nat.add_sub_cancel_left];unfold zL;rw[J];dsimp only;rw[if_pos r,F];dsimp only;rw[v];dsimp only;rw[L];dsimp only;rw[s,z]
theorem GZ:∀(l:List (Tmp×Value))(a:TS),(qo a l).length=a.length
 |[],_=>rfl
 |p::l,a=>by
  show(qo (a.set p.1 p.2) l).length=_;rw[GZ l,length_set]
theorem ad2{b:FD}{p:List Nat}{f:Operand}{ps:Array Tmp}{a:TS}{Q:fg}{g:Nat}{first cap:List Value}(k:fV p b.body = .rangeFunc f ps (fV (p++[0]) b.body) (fV (p++[1]) b.body))(i:a.length=b.nm)(d:ev X.gl a f = .func (.func g) ⟨first⟩ ⟨cap⟩)(hc:ss (fV (p++[0]) b.body) (fV (p++[1]) b.body)=true)(l:g<YB/\Dg X.P g=true)
  (j:FW X g (first++[.func (.yield h.next) ⟨[]⟩ ⟨[]⟩]++cap) (h.push (.loop .ready a ps.toList (fV (p++[0]) b.body) (fV (p++[1]) b.body) hc)) λ_ c=>∃e,H0 (c.get h.next)=some e/\Q e a (c.del h.next)):RG X b p a h Q:=by grind[No,RG]
theorem XM{S:Sx}{X:FD}{p:List Nat}{a:TS}{d:List Tmp}{hc:ss (fV (p++[0]) X.body) (fV (p++[1]) X.body)=true}{K:VH}(n:h.get k=some (.loop .ready a d (fV (p++[0]) X.body) (fV (p++[1]) X.body) hc))(f:c.length=d.length)(r:a.length=X.nm)(q:gw X.nm (fV (p++[0]) X.body)=true)(o:gw X.nm (fV (p++[1]) X.body)=true)
  (m:TT S X (p++[0]) (qo a (d.zip c)) h λe j g=>e = .normal/\g.get k=some (.loop .ready a d (fV (p++[0]) X.body) (fV (p++[1]) X.body) hc)/\TT S X (p++[1]) j (g.set k (.loop .busy a d (fV (p++[0]) X.body) (fV (p++[1]) X.body) hc)) λe _ i=>i.get k=some (.loop .busy a d (fV (p++[0]) X.body) (fV (p++[1]) X.body) hc)/\∃b l,Bx e=some (b,l)/\K (.bool b) (i.set k (.loop l a d (fV (p++[0]) X.body) (fV (p++[1]) X.body) hc))):FW S (YB+k) c h K:=
 NI n f (by grind[GZ]) q o m
noncomputable def FL(S:Sx)(b:TS)(h:ae):List ResultVar->Option (List Value)
 |[]=>some []
 |.tmp t::r=>(FL S b h r).map (b.getD t undef::·)
 |.cell a t::r=>match aj S.P t h (b.getD a undef)with
  |some v=>(FL S b h r).map (v::·)
  |none=>none
theorem zl(S:Sx)(b:TS)(h:ae):∀l,wa S (fr b) h l=FL S b h l
 |[]=>rfl
 |.tmp t::r=>by simp only[wa,FL,zl S b h r,fr]
 |.cell a t::r=>by simp only[wa,FL,zl S b h r,fr];try (cases aj S.P t h (b.getD a undef)<;>rfl)
noncomputable def adD(S:Sx)(b:List ResultVar)(Q:VH)(x:Exit)(a:TS)(h:ae):Prop:=match x with
 |.normal=>zK (FL S a h b) h Q
 |.ret=>zK (FL S a h b) h Q
 |_=>False
noncomputable def R6(S:Sx)(h:ae):List (Value×Option TypeId)->Option (List Value)
 |[]=>some []
 |(v,none)::r=>(R6 S h r).map (v::·)
 |(a,some t)::r=>match aj S.P t h a with
  |some v=>(R6 S h r).map (v::·)
  |none=>none
noncomputable def ep(S:Sx)(l:List (Value×Option TypeId))(h:ae)(Q:VH):Prop:=zK (R6 S h l) h Q
theorem J6{a:Value}{t:TypeId}(b:aj X.P t h a=some v)(c:Q v h):ep X [(a,some t)] h Q:=by
 unfold ep;simp only[R6,b];exact c
theorem yv{a:Value}{t:TypeId}(b:aj X.P t h a=some v)(c:Q (.tuple ⟨[v,w]⟩) h):ep X [(a,some t),(w,none)] h Q:=by
 unfold ep;simp only[R6,b];exact c
noncomputable def EE(S:Sx)(X:FD)(Q:VH):fg:=adD S X.rs Q
theorem cV(d:FD){f:FuncId}{b:Func}{a:List Value}{h:ae}{Q:VH}(q:X.P.funcs[f]?=some b)
  (e:wpS X d.nm d.ms [] d.body (a++List.replicate (d.nm-a.length) undef) h (EE X d Q)) (j:d=cP b d.ms:=by kernel_rfl) (k:(Nat.blt f YB&&(X.pr f).isNone&&Nat.ble a.length d.nm&&gw d.nm d.body&&b.body.isSome)=true:=by kernel_rfl):FW X f a h Q:=by
 have m:d.nm=b.ntmps:=by rw[j];rfl
 have o:d.body=b.body.getD .skip:=by rw[j];rfl
 have v:d.rs=b.results.toList:=by rw[j];rfl
 unfold EE at e;rw[m,o,v]at e;rw[m,o]at k;simp only[and_eq_true,blt_eq,ble_eq,Option.isNone_iff_eq_none]at k;obtain⟨⟨⟨⟨u,w⟩,r⟩,g⟩,p⟩:=k;obtain⟨c,l⟩:=Option.isSome_iff_exists.1 p;rw[l]at e g;have e:wpS X b.ntmps d.ms [] c (a++List.replicate (b.ntmps-a.length) undef) h (adD X b.results.toList Q):=e;have g:gw b.ntmps c=true:=g;have s:(a++List.replicate (b.ntmps-a.length) undef).length=b.ntmps:=by simp;omega
 have y:fr (a++List.replicate (b.ntmps-a.length) undef)=abh a:=by
  funext t;show(a++List.replicate (b.ntmps-a.length) undef).getD t undef=a.getD t undef;simp only[gD];by_cases p:t<a.length
  ·grind
  ·grind
 refine adG q l u w r g ?_;rw[<-y];refine im c s g (λx n h _ i=>?_) e
 cases x with
 |normal=>show zK (wa X (fr n) h _) h Q;rw[zl];exact i
 |ret=>show zK (wa X (fr n) h _) h Q;rw[zl];exact i
 |_=>exact i.elim
structure gY where
 i:Int
 o:Int
 w:List UInt8
 t:Int
structure dE where
 f:List UInt8
 arcs:List gY
structure bq where
 kind:Int
 start:Int
 lead:List UInt8
 af:List dE
def fQ(a:gY):List Value:=[.int .i64 a.i,.int .i64 a.o,strOf a.w,.int .i64 a.t]
def zV(z:Int):Value:= .int .i64 z
def ME:List Value->Option (List Int)
 |[]=>some []
 |.int .i64 z::r=>(ME r).map (z::·)
 |_::_=>none
def mD(l:List Int):List Int:=l.mergeSort λx y=>decide (x<=y)
noncomputable def El:vN:=λ_ e h=>match e with
 | [.slice a n c]=>if n=0 then some (.tuple ⟨[]⟩,h)else match a with
   |some ⟨b,d,none⟩=>(match h.get b with
    |some (.cells cs t f true)=>if n<4611686018427387904/\d+n<=cs.length then(ME ((cs.drop d).take n)).map λl=>(.tuple ⟨[]⟩,h.set b (.cells (cs.take d++(mD l).map zV++cs.drop (d+n)) t f true))else none
    |_=>none)
   |_=>none
 |_=>none
end Go.Ab
end
section
namespace Go.Ab
open Go Go.RowKit
variable{c:List Value}{h:ae}{W:World}{v:Value}{f:FuncId}{F:Func}{m:Nat}{j:Nat}{n:Nat}{q:Oper}{U:Array Oper}{H:Code}
section
variable {β:dN} {P:Program} {gl:Nat->Bool}
theorem Vd{r:ew}{a:Act}{o:Oper}{u:dV}(l:kM β h W)(t:Gl gl β)(s:bp β c a.tmps.toList)(w:bS o=false)(b:ef P r (ev gl c) o h=some (v,u)):
  ∃d j g,Step β h W g (u.app h) j/\aE g v d/\((execOp a.eval o).run P W = .ok (.value d) j\/((execOp a.eval o).run P W = .ok .skip j/\d=undef)):=by
 have i:=As (β:=β) t s;unfold ef at b;split at b
 ·next p m=>
  simp only[Option.some.injEq,Prod.mk.injEq]at b;obtain⟨rfl,rfl⟩:=b;obtain⟨d,e,k⟩:=sD i m W;exact⟨d,W,β,Step.refl l,k,.inl e⟩
 ·split at b
  ·next p m=>
   simp only[Option.some.injEq,Prod.mk.injEq]at b;obtain⟨rfl,rfl⟩:=b;obtain⟨d,e,k⟩:=sE i l m;exact⟨d,W,β,Step.refl l,k,.inl e⟩
  ·split at b
   ·next B f m=>
    simp only[Option.some.injEq,Prod.mk.injEq]at b;obtain⟨rfl,rfl⟩:=b;obtain⟨d,j,e,k⟩:=qh i (w:=W) m;obtain⟨g,n,q⟩:=k.step l;exact⟨d,j,g,n,q,.inl e⟩
   ·obtain⟨d,j,g,e,k,n⟩:=AH i w l b;rcases e with e|⟨e,rfl⟩
    all_goals grind
theorem Zn{cf:ew}{ops:Array Oper}{cs:List Frame}(Q:Exit->Act->List Frame->World->Prop):∀(b:List Oper)(i:Nat){β:dN}{p j:List Value}{a:Act}{h q:ae}{w:World},
  ops.toList.drop i=b->(b.all λo=> !bS o)=true->lE P gl cf ops b p h=some (j,q)->kM β h w->Gl gl β->bp β p a.tmps.toList->
  (∀f y l,Step β h w l q y->bp l j f.tmps.toList->f.defers=a.defers->Q .normal f cs y)->wpOpsS P ops Q (List.range' i b.length) a cs w
 |[],i,β,p,j,a,h,q,w,E,_,e,n,s,g,r=>by
  simp only[lE,Option.some.injEq,Prod.mk.injEq]at e;obtain⟨rfl,rfl⟩:=e;exact r a w β (Step.refl n) g rfl
 | o::b,i,β,p,j,a,h,q,w,E,d,e,n,s,g,r=>by
  have H:ops[i]?=some o:=by
   have:(ops.toList.drop i)[0]?=some o:=by rw[E];rfl
   rw[getElem?_drop]at this;rw[<-getElem?_toList];simpa using this
  have t:ops.toList.drop (i+1)=b:=by rw[<-drop_drop,E];rfl
  simp only[all_cons,and_eq_true,Bool.not_eq_true']at d;simp only[length_cons,range'_succ,wpOpsS,H];simp only[lE]at e;split at e
  ·next C=>
   rw[m5 g C];simp only[if_true];split at e
   ·next v u F=>
    obtain⟨I,y,l,k,G,c⟩:=Vd n s g d.1 F;have x:=Zn (cs:=cs) Q b (i+1) t (by simpa using d.2) e k.pS (s.mono k.le) (mh (g.mono k.le) o.dst G) λf D m A B z=>r f D m (k.trans A) B (z.trans (put_defers a o.dst I));rcases c with c|⟨c,rfl⟩
    ·rw[c];exact x
    ·rw[c];exact x
   ·cases e
  ·next C=>
   rw[m5 g C];simp only[false_eq_true,if_false];exact Zn (cs:=cs) Q b (i+1) t (by simpa using d.2) e n s (mh g o.dst (.undef β)) λf D m A B z=>r f D m A B (z.trans (put_defers a o.dst undef))
  grind
noncomputable def OM(P:Program)(f:Func)(e a:Array Oper)(c:Operand)(n:Nat):Bool:=
 match e.toList with
 | o::b=>match o.dst with
  | some d=>match lE P Q9 jw e b ((List.replicate n iq++List.replicate (f.ntmps-n) undef).set d .nilIface) ⟨0,.nil⟩with
   | some (h,i)=>match lE P Q9 jw a a.toList h i with
    |some (g,_)=>match ev Q9 g c with
     |.bool false=>(b.all λo=> !bS o)&&(a.toList.all λo=> !bS o)&&o.guard.isNone&&f.results.size==0
     |_=>false
    |none=>false
   |none=>false
  |none=>false
 |[]=>false
theorem YY{b:List Oper}{c:Operand}(T:P.funcs[f]?=some F)(R:F.body=some (.seq (.region m (q::b).toArray false) (.seq (.region j U false) (.cond c H .skip))))
  (Z:q.op = .call { callee:= .builtin .recover,args:= #[],argTypes:= #[] }) (a:OM P F (q::b).toArray U c n=true) (args:Array Value) (w:World) (S:args.size=n):
  CallsDIn Fence.wide 0 P f args .returning w λe X C=>(∃v,e = .returned v)/\X = .returning/\Below w.heap.size w C/\w.drawn<=C.drawn:=by
 subst S;unfold OM at a;simp only at a;split at a
 ·next d hd=>
  split at a
  ·next x3 h G=>
   split at a
   ·next x0 r N=>
    split at a
    ·next J=>
     simp only[and_eq_true,beq_iff_eq,Option.isNone_iff_eq_none]at a;obtain⟨⟨⟨y,x⟩,E⟩,B⟩:=a;refine yp T R λp cs W=>?_;refine wpS_seq (wpS_region ?_);have s:∀(l:List Value),bp β0 (List.replicate l.length iq) l:=λl=>⟨by simp,λi v Q h r=>by
      rw[getElem?_replicate]at h;split at h
      ·obtain rfl:=oI h;exact .iq Q
      ·cases h⟩
     have z:∀k,bp β0 (List.replicate k undef) (List.replicate k undef):=λk=>⟨rfl,λi v Q h r=>by
      rw[getElem?_replicate]at h r;split at h
      ·next Y=>rw[if_pos Y]at r;obtain rfl:=oI h;obtain rfl:=oI r;exact .undef _
      ·cases h⟩
     have O:bp β0 (List.replicate args.size iq++List.replicate (F.ntmps-args.size) undef) (args++Array.replicate (F.ntmps-args.size) undef).toList:=by
      simp only[Array.toList_append,Array.toList_replicate];have:=s args.toList;rw[length_toList]at this;exact this.append (z _)
     have L:∀t,Region.wanted q (yielded (q::b).toArray t)=true:=λt=>by simp[Region.wanted,E]
     have A:∀(ρ:Operand->Value),(execOp ρ q).run P w = .ok .recover w:=λρ=>by
      unfold execOp;simp only[Z,resolve,Sem.run_bind,Sem.run_pure,Result.andThen_ok,invoke];rfl
     have u:recoverD (p::cs)=none:=by simp[recoverD,W]
     show wpOpsS P (q::b).toArray _ (List.range (b.length+1)) _ _ w;rw[List.range_eq_range',range'_succ];rw[wpOpsS];simp only[List.getElem?_toArray,List.getElem?_cons_zero,L,if_true,A,u];rw[hd];refine Zn (cf:=jw) (gl:=Q9) _ b 1 (by simp) y G (Pe 0 w) MS (mh O (some d) (v:= .nilIface) .nilIface) λa1 w1 x2 g M D=>?_;refine wpS_seq (wpS_region ?_);rw[<-length_toList,List.range_eq_range'];refine Zn (cf:=jw) (gl:=Q9) _ U.toList 0 (by simp) x N g.pS (MS.mono g.le) M λV w2 x1 o I K=>?_;refine wpS_cond (t:=false) ?_ ?_
     ·have:=As (MS.mono (g.trans o).le) I c;rw[J]at this;exact this.kR
     ·show Code.wpS P .skip _ V (p::cs) w2;refine wpS_of_wp (wp_skip ?_);refine⟨K.trans (D.trans (put_defers _ _ _)),.returning,by cases p;simp_all,.tuple #[],?_,⟨⟨_,rfl⟩,rfl,Fq (g.trans o),(g.trans o).tape.2⟩⟩;have:F.results = #[]:=Array.eq_empty_of_size_eq_zero B;simp[results,this]
    ·cases a
   ·cases a
  ·cases a
 grind
end
end Go.Ab
end
section
namespace Go.Ab
open Go
variable{P:Program}{h:ae}{g:ae}{T:TypeId}{v:Value}{c:List Value}{d:List Value}{a:Option Addr}{n:Nat}
theorem aD{n:Int}(a: -9223372036854775808<=n)(b:n<9223372036854775808):wrap .i64 n=n:=by grind[IntKind.wrap_i64]
theorem hK{n:Int}(a:0<=n)(b:n<18446744073709551616):wrap .u64 n=n:=by grind[IntKind.wrap_u64]
theorem ta{n:Int}(a:0<=n)(b:n<256):wrap .u8 n=n:=by grind[IntKind.wrap_u8]
theorem oP{t:TypeId}(c:P.underlying t=some .string)(l:List UInt8)(k:IntKind){i:Int}(b:0<=i)(a:i<l.length):bU P t (strOf l) (.int k i)=some (.int .u8 ((l.getD i.toNat 0).toNat:Nat)):=by simp_all[bU,strOf]
theorem oR{t:TypeId}(g:P.underlying t=some .string)(l:List UInt8){h:ae}{lo hi:Option Value}{a b:Nat}(f:fe lo 0=some (a:Int))(c:fe hi l.length=some (b:Int))(d:a<=b)(e:b<=l.length):bK P t (strOf l) lo hi none h=some (strOf ((l.drop a).take (b-a))):=by simp_all[bK,strOf]
theorem rU{t:TypeId}(a b:List UInt8)(h:a.length+b.length<=4611686018427387904):aA P .add t (strOf a) (strOf b)=some (strOf (a++b)):=by
 show G7 .add a b=_
 simp_all[G7]
structure Ok(h0 h:ae):Prop where
 wf:∀k B,h.get k=some B->k<h.next
 ext:∀k B,h0.get k=some B->h.get k=some B
 nx:h0.next<=h.next
def Wf(h:ae):Prop:=∀k B,h.get k=some B->k<h.next
theorem Ok.refl(w:Wf h):Ok h h:=⟨w,λ_ _ h=>h,Nat.le_refl _⟩
theorem Ok.trans{c d:ae}(a:Ok g c)(b:Ok c d):Ok g d:=⟨b.wf,λk B h=>b.ext k B (a.ext k B h),Nat.le_trans a.nx b.nx⟩
theorem Ok.push(a:Ok g h)(B:dQ):Ok g (h.push B):=by
 refine⟨ae.oM a.wf B,λk C c=>?_,Nat.le_trans a.nx (le_succ _)⟩;have b:=a.ext k C c;rw[ae.bC,if_neg (λe=>by have:=a.wf _ _ b;omega)];omega
theorem Ok.set(a:Ok g h){k:Nat}(B:dQ)(f:g.next<=k)(d:k<h.next)(c:Wf g):Ok g (h.set k B):=by
 refine⟨λj C b=>?_,λj C b=>?_,a.nx⟩
 ·rw[ae.av]at b;split at b
  ·simp_all
  ·exact a.wf _ _ b
 ·rw[ae.av,if_neg (λe=>by have:=c _ _ b;omega)];exact a.ext _ _ b
theorem Ok.room{b h:ae}(a:Ok b h)(n:Nat):Ok b (room h n):=⟨λk B c=>lt_of_lt_of_le (a.wf k B c) (le_add_right _ _),a.ext,Nat.le_trans a.nx (le_add_right _ _)⟩
def eC(b h:ae)(e:TypeId)(v:Value)(a:List Value):Prop:=
 (v = .slice none 0 0/\a=[])\/ ∃k cs,v = .slice (some ⟨k,0,none⟩) a.length (dv+cs.length)/\b.next<=k/\h.get k=some (.cells cs e 1 true)/\cs.take a.length=a/\a.length<=cs.length
theorem eC.push(a:Ok g h)(o:eC g h T v c)(B:dQ):eC g (h.push B) T v c:=by
 rcases o with o|⟨k,cs,d,e,b,f,i⟩
 ·exact .inl o
 ·refine .inr ⟨k,cs,d,e,?_,f,i⟩;rw[ae.bC,if_neg (λT=>by have:=a.wf _ _ b;omega)];omega
theorem eC.snoc{t:TypeId}{i:TypeInfo}(D:P.underlying t=some (.slice T))(F:fh P T=some i)(r:i.size=1){m h:ae}(w:Wf m)(a:Ok m h){v:Value}{d:List Value}(o:eC m h T v d){x:Value}(M:dX x=true)(E:(d.length+1)*i.bytes<=70368744177664)(y:d.length+1<=1099511627776):
  ∃(b:Option Addr)(n c:Nat)(u:dV),bM P t t v (mY 1 1 h.next) (h.push (.cells [x] T 1 true))=some (.slice b n c,u)/\n=d.length+1/\eC m (u.app (h.push (.cells [x] T 1 true))) T (.slice b n c) (d++[x])/\Ok m (u.app (h.push (.cells [x] T 1 true))):=by
 have I:ej P t=true:=by unfold ej;rw[D]
 have p:gh (h.push (.cells [x] T 1 true)) i.size (mY 1 1 h.next)=some ([x],1):=by
  show(match (h.push (.cells [x] T 1 true)).get h.next with|some (.cells cs ..)=>if((cs.drop 0).take (1*i.size)).length=1*i.size then some ((cs.drop 0).take (1*i.size),1)else none|_=>none)=_;rw[ae.bC,if_pos rfl,r];rfl
 have z:=eC.push a o (.cells [x] T 1 true);have e:=a.push (.cells [x] T 1 true);generalize G:h.push (.cells [x] T 1 true)=g at*;have K:h.next<g.next:=by rw[<-G];exact Nat.lt_succ_self _
 unfold bM;rw[D];dsimp only;rw[F];dsimp only;rw[if_pos I,p];dsimp only;rw[if_pos (by grind)];rcases z with⟨rfl,rfl⟩|⟨k,cs,rfl,A,q,N,O⟩
 ·show ∃b n c u,(if 1=0 then some (Value.slice none 0 0,dV.no)else if 1*i.bytes<=70368744177664/\1<=1099511627776 then some (Value.slice (some ⟨g.next,0,none⟩) 1 (dv+1),dV.push (.cells [x] T i.size true))else none)=_/\_;rw[if_neg (by omega),if_pos (by grind)];refine⟨_,_,_,_,rfl,rfl,.inr ⟨g.next,[x],rfl,e.nx,?_,rfl,by simp⟩,e.push _⟩;show(g.push (.cells [x] T i.size true)).get g.next=_;rw[ae.bC,if_pos rfl,r]
 ·dsimp only;rw[if_neg (by omega),r,Nat.mul_one];have s:bL (dv+cs.length)=cs.length:=by unfold bL;rw[if_pos (by omega)];omega
  rw[s];have B:=e.wf _ _ q;by_cases f:d.length+1<=cs.length
  ·rw[if_pos f];unfold storeAt;rw[Nat.zero_add,q];dsimp only;rw[if_pos ⟨by omega,by grind⟩];refine⟨_,_,_,_,rfl,rfl,.inr ⟨k,cs.take d.length++[x]++cs.drop (d.length+1),?_,A,?_,?_,?_⟩,?_⟩
   ·grind
   ·show(g.set k _).get k=_;simp[ae.av]
   ·grind
   ·grind
   ·exact e.set _ A B w
  ·rw[if_neg f];have J:cs.length=d.length:=by omega
   unfold lC;rw[if_pos ⟨E,y⟩,q];dsimp only;rw[Nat.mul_one,if_pos ⟨rfl,rfl,by grind⟩,if_neg (by omega),if_pos ⟨rfl,by omega⟩];refine⟨_,_,_,_,rfl,rfl,.inr ⟨g.next,d++[x],?_,e.nx,?_,?_,?_⟩,?_⟩
   ·grind
   ·show((g.del k).push _).get g.next=_
    simp_all[ae.bC]
   ·grind
   ·omega
   ·refine⟨?_,λj C l=>?_,Nat.le_trans e.nx (le_succ _)⟩
    ·refine ae.oM (λj C l=>?_) _;rw[ae.dZ]at l;split at l
     ·grind
     ·exact e.wf _ _ l
    ·have H:=e.ext _ _ l;have L:=e.wf _ _ H;show((g.del k).push _).get j=_;rw[ae.bC,if_neg (λT=>by have:j=g.next:=T;omega),ae.dZ,if_neg (λT=>by have:=w _ _ l;omega)];omega
def Rd(h:ae)(e:TypeId)(v:Value)(a:List Value):Prop:=
 (v = .slice none 0 0/\a=[])\/ ∃k b cs c d,v = .slice (some ⟨k,b,none⟩) a.length c/\h.get k=some (.cells cs e 1 d)/\(cs.drop b).take a.length=a
theorem eC.rd(o:eC g h T v c):Rd h T v c:=by
 rcases o with o|⟨k,cs,b,d,a,e,f⟩
 ·exact .inl o
 ·exact .inr ⟨k,0,cs,_,true,b,a,by grind⟩
theorem Rd.ok(r:Rd h T v d)(o:Ok h g):Rd g T v d:=by
 rcases r with r|⟨k,a,cs,c,f,e,i,b⟩
 ·exact .inl r
 ·exact .inr ⟨k,a,cs,c,f,e,o.ext _ _ i,b⟩
theorem Rd.len{c:Nat}(r:Rd h T (.slice a n c) d):n=d.length:=by
 rcases r with⟨b,rfl⟩|⟨k,e,cs,c,g,b,i,f⟩
 all_goals grind
theorem eC.len{c:Nat}(r:eC g h T (.slice a n c) d):n=d.length:=r.rd.len
theorem Rd.at_{t:TypeId}{d:TypeDesc}(s:P.underlying t=some (.slice T))(g:aG P T=some 1)(o:P.underlying T=some d)(q:isAgg P T=false){h:ae}{v:Value}{a:List Value}(r:Rd h T v a){k:IntKind}{i:Int}(n:0<=i)(j:i<a.length):
  ∃p:Addr,aB P t v (.int k i)=some (.pointer (some p))/\aj P T h (.pointer (some p))=some (a.getD i.toNat undef):=by
 rcases r with⟨_,rfl⟩|⟨b,e,cs,c,l,rfl,f,m⟩
 ·grind
 ·refine⟨⟨b,e+i.toNat*1,none⟩,?_,?_⟩
  ·simp_all[aB,Addr.add]
  ·unfold aj
   grind
def tw(c:UInt8):Value:= .int .u8 (c.toNat:Nat)
theorem pY:∀l:List UInt8,bytesOf (l.map tw)=some l
 |[]=>rfl
 |c::l=>by
  have a:c.toNat<256:=c.toNat_lt;show(if 0<=((c.toNat:Nat):Int)/\((c.toNat:Nat):Int)<256 then(bytesOf (l.map tw)).map (UInt8.ofNat ((c.toNat:Nat):Int).toNat::·)else none)=_;rw[if_pos (by omega),pY l,Int.toNat_natCast];simp
theorem Z5{s e:TypeId}(a:P.underlying s=some (.slice e))(d:P.underlying T=some .string)(j:P.underlying e=some (.int .u8)){h:ae}{v:Value}{l:List UInt8}(r:Rd h e v (l.map tw)):Cb P s T v h=some (strOf l):=by
 unfold Cb db;dsimp only;rw[a,d];rcases r with⟨rfl,b⟩|⟨k,f,cs,c,i,rfl,b,g⟩
 all_goals simp_all[pY]
theorem eC.ok{h0:ae}(r:eC h0 h T v c)(o:Ok h g):eC h0 g T v c:=by
 rcases r with r|⟨k,cs,b,d,a,e,f⟩
 ·exact .inl r
 ·exact .inr ⟨k,cs,b,d,o.ext _ _ a,e,f⟩
theorem eC.from_{t:TypeId}(j:P.underlying t=some (.slice T))(e:aG P T=some 1){g h:ae}{v:Value}{b:List Value}(r:eC g h T v b){z:Nat}(m:z<b.length):
  ∃a n c,bK P t v (some (.int .i64 (z:Int))) none none h=some (.slice a n c)/\Rd h T (.slice a n c) (b.drop z):=by
 rcases r with⟨rfl,rfl⟩|⟨k,cs,rfl,l,d,f,o⟩
 ·grind
 ·refine⟨some ⟨k,0+z*1,none⟩,b.length-z,dv+cs.length-z,?_,.inr ⟨k,0+z*1,cs,_,true,by rw[List.length_drop],d,?_⟩⟩
  ·unfold bK;dsimp only;rw[j];dsimp only[fe];rw[e,d];dsimp only;have i:bL (dv+cs.length)=cs.length:=by unfold bL;rw[if_pos (by omega)];omega
   grind
  ·rw[Nat.zero_add,Nat.mul_one,List.length_drop];have:=congrArg (List.drop z) f
   grind[List.drop_take]
theorem eC.upto{t:TypeId}(m:P.underlying t=some (.slice T))(g:aG P T=some 1){f h:ae}{v:Value}{b:List Value}(r:eC f h T v b){z:Nat}(p:z<=b.length)(q:0<b.length):
  ∃a n c,bK P t v none (some (.int .i64 (z:Int))) none h=some (.slice a n c)/\eC f h T (.slice a n c) (b.take z):=by
 rcases r with⟨rfl,rfl⟩|⟨k,cs,rfl,i,e,o,s⟩
 ·grind
 ·refine⟨some ⟨k,0+0*1,none⟩,z,dv+cs.length,?_,.inr ⟨k,cs,?_,i,e,?_,?_⟩⟩
  ·unfold bK;dsimp only;rw[m];dsimp only[fe];rw[g,e];dsimp only;have d:bL (dv+cs.length)=cs.length:=by unfold bL;rw[if_pos (by omega)];omega
   rw[if_pos (by simp),d,if_pos (by omega)];have j:((z:Int)-((0:Nat):Int)).toNat=z:=by omega
   have l:((0:Nat):Int).toNat=0:=rfl;rw[j,l];rfl
  all_goals grind
theorem uh(k:IntKind)(a b:Int):su true [.int k a,.int k b]=some (.int k (if b>a then b else a)):=by simp[su]
theorem hI{t:TypeId}{k:IntKind}{a:Int}{b:Nat}(d:0<=a)(c:0<b):aA P .rem t (.int k a) (.int k (b:Int))=some (.int k (a%(b:Int))):=by grind[Yu]
theorem qi{t:TypeId}{a:Int}{b:Nat}(c:0<=a)(d:a<18446744073709551616)(e:0<b):aA P .quo t (.int .u64 a) (.int .u64 (b:Int))=some (.int .u64 (a/(b:Int))):=by
 rw[HE P t .u64 _ _ (by omega),Int.tdiv_eq_ediv_of_nonneg c,hK (Int.ediv_nonneg c (by omega)) (Int.lt_of_le_of_lt (Int.ediv_le_self _ c) d)]
def setAt:List Nat->Code->Code->Code
 |[],n,_=>n
 |0::p,n,.seq a b=> .seq (setAt p n a) b
 |_::p,n,.seq a b=> .seq a (setAt p n b)
 |0::p,n,.cond c a b=> .cond c (setAt p n a) b
 |_::p,n,.cond c a b=> .cond c a (setAt p n b)
 |_::p,n,.block i c=> .block i (setAt p n c)
 |_::p,n,.loop c=> .loop (setAt p n c)
 |_::_,_,c=>c
theorem je:∀(p:List Nat)(c:Code),setAt p (fV p c) c=c
 |[],c=>rfl
 |i::p,c=>by
  cases c with
  |seq a b=>cases i<;>simp only[fV,setAt,je p]
  |cond c a b=>cases i<;>simp only[fV,setAt,je p]
  |block i c=>simp only[fV,setAt,je p]
  |loop c=>simp only[fV,setAt,je p]
  |_=>simp only[setAt]
theorem eC.aeb{t:TypeId}{i:TypeInfo}(I:P.underlying t=some (.slice T))(K:fh P T=some i)(z:i.size=1){q h:ae}(D:Wf q)(a:Ok q h){v:Value}{f:List Value}(o:eC q h T v f){x:Value}(U:dX x=true)(J:(f.length+1)*i.bytes<=70368744177664)(E:f.length+1<=1099511627776):
  ∃(b:Option Addr)(n c:Nat)(u:dV),bM P t t v (mY 1 1 h.next) (h.push (.cells [x] T 1 true))=some (.slice b n c,u)/\n=f.length+1/\eC q (u.app (h.push (.cells [x] T 1 true))) T (.slice b n c) (f++[x])/\Ok q (u.app (h.push (.cells [x] T 1 true)))/\
   (∀j B,h.get j=some B->(∀o n c,v≠ .slice (some ⟨j,o,none⟩) n c)->(u.app (h.push (.cells [x] T 1 true))).get j=some B)/\
   (∀j o m d,Value.slice b n c = .slice (some ⟨j,o,none⟩) m d->h.next<=j\/ ∃o n c,v = .slice (some ⟨j,o,none⟩) n c):=by
 have N:ej P t=true:=by unfold ej;rw[I]
 have s:gh (h.push (.cells [x] T 1 true)) i.size (mY 1 1 h.next)=some ([x],1):=by
  show(match (h.push (.cells [x] T 1 true)).get h.next with|some (.cells cs ..)=>if((cs.drop 0).take (1*i.size)).length=1*i.size then some ((cs.drop 0).take (1*i.size),1)else none|_=>none)=_;rw[ae.bC,if_pos rfl,z];rfl
 have F:=eC.push a o (.cells [x] T 1 true);have l:=a.push (.cells [x] T 1 true);have O:∀j B,h.get j=some B->(h.push (.cells [x] T 1 true)).get j=some B:=λj B e=>by
  rw[ae.bC,if_neg (λT=>by have:=a.wf _ _ e;omega)];omega
 have r:∀j B,h.get j=some B->j<h.next:=λj B e=>a.wf _ _ e;generalize L:h.push (.cells [x] T 1 true)=g at*;have R:h.next<g.next:=by rw[<-L];exact Nat.lt_succ_self _
 unfold bM;rw[I];dsimp only;rw[K];dsimp only;rw[if_pos N,s];dsimp only;rw[if_pos (by grind)];rcases F with⟨rfl,rfl⟩|⟨k,cs,rfl,G,y,V,W⟩
 ·show ∃b n c u,(if 1=0 then some (Value.slice none 0 0,dV.no)else if 1*i.bytes<=70368744177664/\1<=1099511627776 then some (Value.slice (some ⟨g.next,0,none⟩) 1 (dv+1),dV.push (.cells [x] T i.size true))else none)=_/\_;rw[if_neg (by omega),if_pos (by grind)];refine⟨_,_,_,_,rfl,rfl,.inr ⟨g.next,[x],rfl,l.nx,?_,rfl,by simp⟩,l.push _,λj B e _=>?_,λj o m d T=> .inl ?_⟩
  rotate_left
  ·show(g.push _).get j=_;rw[ae.bC,if_neg (λT=>by have:=r _ _ e;omega)]
   grind
  ·grind
  show(g.push (.cells [x] T i.size true)).get g.next=_;rw[ae.bC,if_pos rfl,z]
 ·dsimp only;rw[if_neg (by omega),z,Nat.mul_one];have A:bL (dv+cs.length)=cs.length:=by unfold bL;rw[if_pos (by omega)];omega
  rw[A];have H:=l.wf _ _ y;by_cases p:f.length+1<=cs.length
  ·rw[if_pos p];unfold storeAt;rw[Nat.zero_add,y];dsimp only;rw[if_pos ⟨by omega,by grind⟩];refine⟨_,_,_,_,rfl,rfl,.inr ⟨k,cs.take f.length++[x]++cs.drop (f.length+1),?_,G,?_,?_,?_⟩,?_,λj B e w=>?_,λj o m d T=> .inr ?_⟩
   rotate_left 5
   ·show(g.set k _).get j=_;rw[ae.av,if_neg (λT=>w 0 _ _ (by rw[T]))]
    grind
   ·grind
   ·grind
   ·show(g.set k _).get k=_;simp[ae.av]
   ·grind
   ·grind
   ·exact l.set _ G H D
  ·rw[if_neg p];have Q:cs.length=f.length:=by omega
   unfold lC;rw[if_pos ⟨J,E⟩,y];dsimp only;rw[Nat.mul_one,if_pos ⟨rfl,rfl,by grind⟩,if_neg (by omega),if_pos ⟨rfl,by omega⟩];refine⟨_,_,_,_,rfl,rfl,.inr ⟨g.next,f++[x],?_,l.nx,?_,?_,?_⟩,?_,λj B e w=>?_,λj o m d T=> .inl ?_⟩
   rotate_left 5
   ·show((g.del k).push _).get j=_;rw[ae.bC,if_neg (λT=>by have:=r _ _ e;have:j=g.next:=T;omega),ae.dZ,if_neg (λT=>w 0 _ _ (by rw[T]))]
    grind
   ·grind
   ·grind
   ·show((g.del k).push _).get g.next=_
    simp_all[ae.bC]
   ·grind
   ·omega
   ·refine⟨?_,λj C e=>?_,Nat.le_trans l.nx (le_succ _)⟩
    ·refine ae.oM (λj C e=>?_) _;rw[ae.dZ]at e;split at e
     ·grind
     ·exact l.wf _ _ e
    ·have M:=l.ext _ _ e;have S:=l.wf _ _ M;show((g.del k).push _).get j=_;rw[ae.bC,if_neg (λT=>by have:j=g.next:=T;omega),ae.dZ,if_neg (λT=>by have:=D _ _ e;omega)];omega
variable{X:Sx}{f:FuncId}{Q:VH}
def BV(b h:ae)(e:TypeId)(v:Value)(a:List Value):Prop:=
 (v = .slice none 0 0/\a=[])\/ ∃k,v = .slice (some ⟨k,0,none⟩) a.length (dv+a.length)/\b.next<=k/\h.get k=some (.cells a e 1 true)
theorem BV.aeG{t y:TypeId}{i:TypeInfo}(K:P.underlying t=some (.slice T))(E:fh P T=some i)(F:i.size=1)(J:ej P y=true){g h:ae}(z:Wf g)(a:Ok g h){v:Value}{f:List Value}(o:BV g h T v f){x:Value}{d:List Value}(p:gh h 1 x=some (d,d.length))(G:d.all dX=true)(D:(f.length+d.length)*i.bytes<=70368744177664)(w:f.length+d.length<=1099511627776):
  ∃(b:Option Addr)(n c:Nat)(u:dV),bM P t y v x h=some (.slice b n c,u)/\BV g (u.app h) T (.slice b n c) (f++d)/\Ok g (u.app h)/\(∀j B,h.get j=some B->(∀o n c,v≠ .slice (some ⟨j,o,none⟩) n c)->(u.app h).get j=some B):=by
 have m:∀j B,h.get j=some B->j<h.next:=λj B e=>a.wf _ _ e;unfold bM;rw[K];dsimp only;rw[E];dsimp only;rw[if_pos J,F,p];dsimp only;rw[if_pos ⟨G,by omega⟩];rcases o with⟨rfl,rfl⟩|⟨k,rfl,H,r⟩
 ·show ∃b n c u,(if d.length=0 then some (Value.slice none 0 0,dV.no)else if d.length*i.bytes<=70368744177664/\d.length<=1099511627776 then some (Value.slice (some ⟨h.next,0,none⟩) d.length (dv+d.length),dV.push (.cells d T 1 true))else none)=_/\_;by_cases l:d.length=0
  ·have q:d=[]:=eq_nil_of_length_eq_zero l;subst q;exact⟨_,_,_,_,rfl,.inl ⟨rfl,rfl⟩,a,λj B e _=>e⟩
  ·rw[if_neg l,if_pos (by grind)];refine⟨_,_,_,_,rfl,.inr ⟨h.next,by simp,a.nx,?_⟩,a.push _,λj B e _=>?_⟩
   ·show(h.push _).get h.next=_;simp[ae.bC]
   ·show(h.push _).get j=_;rw[ae.bC,if_neg (λT=>by have:=m _ _ e;omega)];omega
 ·dsimp only;have L:=a.wf _ _ r;by_cases l:d.length=0
  ·have q:d=[]:=eq_nil_of_length_eq_zero l;subst q;refine⟨_,_,_,_,rfl,.inr ⟨k,by simp,H,by rw[append_nil];exact r⟩,a,λj B e _=>e⟩
  ·rw[if_neg l,Nat.mul_one];have s:bL (dv+f.length)=f.length:=by unfold bL;rw[if_pos (by omega)];omega
   rw[s,if_neg (by omega)];unfold lC;rw[if_pos ⟨D,w⟩,r];dsimp only;rw[Nat.mul_one,if_pos ⟨rfl,rfl,by simp⟩,if_neg (by omega),if_pos ⟨rfl,by omega⟩];refine⟨_,_,_,_,rfl,.inr ⟨h.next,by simp,a.nx,?_⟩,?_,λj B e A=>?_⟩
   ·show((h.del k).push _).get h.next=_
    simp_all[ae.bC]
   ·refine⟨?_,λj C e=>?_,Nat.le_trans a.nx (le_succ _)⟩
    ·refine ae.oM (λj C e=>?_) _;rw[ae.dZ]at e
     simp_all
    ·have I:=a.ext _ _ e;have M:=a.wf _ _ I;show((h.del k).push _).get j=_;rw[ae.bC,if_neg (λT=>by have:j=h.next:=T;omega),ae.dZ,if_neg (λT=>by have:=z _ _ e;omega)];omega
   ·show((h.del k).push _).get j=_;rw[ae.bC,if_neg (λT=>by have:=m _ _ e;have:j=h.next:=T;omega),ae.dZ,if_neg (λT=>A 0 _ _ (by rw[T]))];omega
theorem Cp{p:vN}{h':ae}(a:Nat.ble YB f=false)(i:X.pr f=some p)(j:∀d,p d c h=some (v,h'))(b:Q v h'):FW X f c h Q:=by
 refine⟨v,h',⟨1,λn g=>?_⟩,b⟩;obtain⟨m,rfl⟩:∃m,n=m+1:=⟨n-1,by omega⟩
 have e:¬YB<=f:=λh=>by rw[<-ble_eq]at h;rw[a]at h;cases h
 simp_all[if_neg,ck]
variable{m:Nat}{A:Type}
theorem PH(k i j:Nat):Addr.add ⟨k,i,none⟩ j=⟨k,i+j,none⟩:=by simp[Addr.add]
theorem Qz{t:TypeId}(e:P.underlying t=some (.slice T))(a:aG P T=some m){k off n c:Nat}{ik:IntKind}{i:Int}(d:0<=i)(b:i<n):aB P t (.slice (some ⟨k,off,none⟩) n c) (.int ik i)=some (.pointer (some ⟨k,off+i.toNat*m,none⟩)):=by simp_all[PH,aB]
theorem cD{t:TypeId}{d:TypeDesc}(j:P.underlying t=some d)(c:isAgg P t=false){h:ae}{k i:Nat}{cs:List Value}{e:TypeId}{a:Nat}{b:Bool}(g:h.get k=some (.cells cs e a b))(f:i<cs.length):aj P t h (.pointer (some ⟨k,i,none⟩))=some (cs.getD i undef):=by simp_all[aj]
theorem pz{t:TypeId}{d:TypeDesc}(j:P.underlying t=some d)(c:isAgg P t=true)(b:aG P t=some n){h:ae}{k i:Nat}{cs:List Value}{e:TypeId}{z:Nat}{a:Bool}(g:h.get k=some (.cells cs e z a))(f:i+n<=cs.length):aj P t h (.pointer (some ⟨k,i,none⟩))=some (.agg ⟨(cs.drop i).take n⟩):=by
 unfold aj
 grind
theorem jj{t:TypeId}(c:aG P t=some 1){h:ae}{k i:Nat}{cs:List Value}{e:TypeId}{a:Nat}(d:h.get k=some (.cells cs e a true))(g:i<cs.length){v:Value}(b:dX v=true)(f:v.cells = #[v]):ah P t (.pointer (some ⟨k,i,none⟩)) v h=some (undef,.set k (.cells (cs.set i v) e a true)):=by
 unfold ah;dsimp only;rw[f,if_pos (show aG P t=some (#[v]:Array Value).size from c)];unfold storeAt;rw[d];dsimp only;rw[if_pos ⟨by simp;omega,by simp[b]⟩]
 simp_all[List.set_eq_take_append_cons_drop]
structure Jc(hb:ae)(kt:Nat)(e:TypeId)(vs:List Value)(g:ae):Prop where
 row:g.get kt=some (.cells vs e 1 true)
 new:hb.next<=kt
 ok:Ok hb g
theorem Jc.lt(m:Jc h n T c g):n<g.next:=m.ok.wf _ _ m.row
theorem Jc.rd(m:Jc h n T d g)(c:Nat):Rd g T (.slice (some ⟨n,0,none⟩) d.length c) d:= .inr ⟨n,0,d,c,true,rfl,m.row,by simp⟩
theorem Jc.set(w:Wf h){a:Nat}{e:TypeId}{b:List Value}{g:ae}(m:Jc h a e b g)(j:Nat)(v:Value):Jc h a e (b.set j v) ((dV.set a (.cells (b.set j v) e 1 true)).app g):=by
 refine⟨?_,m.new,m.ok.set _ m.new m.lt w⟩;show(g.set a _).get a=_;rw[ae.av,if_pos rfl]
theorem nQ(z:Value)(n:Nat):dj [z] n=List.replicate n z:=by
 induction n with
 |zero=>rfl
 |succ n a=>grind[dj]
theorem Pc(f:A->Value)(L:List A)(j:Nat)(d:A):(L.map f).set j (f d)=(L.set j d).map f:=by simp
variable{L:List (List Value)}
def wz:Value:= .slice (some ⟨0,0,some 0⟩) 0 0
def Fi(h:ae)(e:TypeId)(d:Nat)(v:Value)(b:List (List Value)):Prop:=
 (∀r∈b,r.length=d)/\(((v = .slice none 0 0\/v=wz)/\b=[])\/ ∃k a cs f z c g,v = .slice (some ⟨k,a,none⟩) b.length c/\h.get k=some (.cells cs f z g)/\a+b.length*d<=cs.length/\∀(i:Nat)(r:List Value),b[i]?=some r->(cs.drop (a+i*d)).take d=r)
theorem Fi.ok(r:Fi h T n v L)(o:Ok h g):Fi g T n v L:=by
 obtain⟨a,r|⟨k,b,cs,d,z,c,i,f,j,e,l⟩⟩:=r
 ·exact⟨a,.inl r⟩
 ·exact⟨a,.inr ⟨k,b,cs,d,z,c,i,f,o.ext _ _ j,e,l⟩⟩
theorem Fi.len{c:Nat}(r:Fi h T n (.slice a m c) L):m=L.length:=by
 obtain⟨_,⟨b|b,rfl⟩|⟨k,d,cs,e,z,c,g,b,i,f,j⟩⟩:=r
 all_goals grind[wz]
theorem Fi.XT(r:Fi h T n v L):∃(a:Option Addr)(c:Nat),v = .slice a L.length c:=by
 obtain⟨_,⟨b|b,rfl⟩|⟨k,d,cs,e,z,c,g,b,i,f,j⟩⟩:=r
 ·exact⟨_,_,b⟩
 ·exact⟨_,_,b⟩
 grind
theorem Fi.at_{t:TypeId}{d:TypeDesc}(L:P.underlying t=some (.slice T))(E:aG P T=some n)(J:P.underlying T=some d)(K:isAgg P T=true){h:ae}{v:Value}{a:List (List Value)}(r:Fi h T n v a){ik:IntKind}{i:Int}(I:0<=i)(F:i<a.length):
  ∃(k o:Nat),aB P t v (.int ik i)=some (.pointer (some ⟨k,o,none⟩))/\aj P T h (.pointer (some ⟨k,o,none⟩))=some (.agg ⟨a.getD i.toNat []⟩)/\
   ∀(e:TypeId)(g:TypeDesc)(j:Nat),P.underlying e=some g->isAgg P e=false->j<n->aj P e h (.pointer (some ⟨k,o+j,none⟩))=some ((a.getD i.toNat []).getD j undef):=by
 obtain⟨D,⟨_,rfl⟩|⟨b,f,cs,C,z,c,G,rfl,w,H,B⟩⟩:=r
 ·grind
 ·have m:i.toNat<a.length:=by omega
  have y:a[i.toNat]?=some (a.getD i.toNat []):=by rw[gD,gE m];rfl
  have l:=B _ _ y;have p:(i.toNat+1)*n<=a.length*n:=mul_le_mul_right _ m;rw[Nat.add_mul,Nat.one_mul]at p;obtain⟨q,x⟩:∃q,q=i.toNat*n:=⟨_,rfl⟩
  rw[<-x]at l p;refine⟨b,f+q,?_,?_,λe g j u s A=>?_⟩
  ·grind[Qz]
  ·grind[pz]
  ·rw[cD u s w (by omega),<-l,gD,gD,getElem?_take,if_pos A,getElem?_drop]
def fq:Value->Option Nat
 |.slice (some a) _ _=>some a.block
 |_=>none
theorem vf{a:Nat}:∀{l:List (List Value)},(∀r∈l,r.length=a)->l.flatten.length=l.length*a
 |[],_=>by simp
 |r::l,h=>by
  rw[flatten_cons,length_append,vf λx b=>h x (mem_cons_of_mem _ b),h r (mem_cons_self ..),length_cons,Nat.add_mul,Nat.one_mul,Nat.add_comm]
theorem Kf{a:Nat}:∀{l:List (List Value)},(∀r∈l,r.length=a)->∀{i:Nat}{r:List Value},l[i]?=some r->(l.flatten.drop (i*a)).take a=r
 |[],_,i,r,h=>by grind
 |x::l,b,0,r,h=>by grind
 |x::l,b,i+1,r,h=>by
  have c:=b x (mem_cons_self ..);rw[flatten_cons,Nat.add_mul,Nat.one_mul,List.drop_append,drop_eq_nil_of_le (by omega),List.nil_append,c,show i*a+a-a=i*a by omega];exact Kf (λy d=>b y (mem_cons_of_mem _ d)) (by grind)
theorem Gn{a:Nat}:∀{l:List (List Value)},(∀r∈l,r.length=a)->∀{i j:Nat}{r:List Value}{v:Value},l[i]?=some r->j<a->(l.set i (r.set j v)).flatten=l.flatten.set (i*a+j) v
 |[],_,i,j,r,v,h,_=>by rfl
 |x::l,b,0,j,r,v,h,c=>by grind
 |x::l,b,i+1,j,r,v,h,c=>by
  have d:=b x (mem_cons_self ..);rw[List.set_cons_succ,flatten_cons,flatten_cons,Gn (λy e=>b y (mem_cons_of_mem _ e)) (by grind) c,List.set_append,if_neg (by grind),Nat.add_mul,Nat.one_mul,d,show i*a+a+j-a=i*a+j by omega]
def fw(f h:ae)(e:TypeId)(d:Nat)(v:Value)(a:List (List Value)):Prop:=
 (∀r∈a,r.length=d)/\((v = .slice none 0 0/\a=[])\/ ∃k b cs c,v = .slice (some ⟨k,b,none⟩) a.length c/\f.next<=k/\h.get k=some (.cells cs e d true)/\(cs.drop b).take (a.length*d)=a.flatten/\bL c*d+b=cs.length/\a.length<=bL c)
theorem fw.rd(o:fw g h T n v L):Fi h T n v L:=by
 obtain⟨a,⟨b,f⟩|⟨k,e,cs,c,b,f,l,t,u,p⟩⟩:=o
 ·exact⟨a,.inl ⟨.inl b,f⟩⟩
 ·have s:=mul_le_mul_right n p;refine⟨a,.inr ⟨k,e,cs,T,n,c,true,b,l,by omega,λi r j=>?_⟩⟩;have q:=Kf a j;have d:i<L.length:=(List.getElem?_eq_some_iff.1 j).1;have m:(i+1)*n<=L.length*n:=mul_le_mul_right _ d;rw[Nat.add_mul,Nat.one_mul]at m
  grind[List.drop_take,drop_drop]
theorem fw.jH{h':ae}(o:fw g h T n v L)(j:∀(k:Nat) (B:dQ),fq v=some k->h.get k=some B->h'.get k=some B):fw g h' T n v L:=by
 obtain⟨a,o|⟨k,b,cs,c,d,f,e,i,m,l⟩⟩:=o
 ·exact⟨a,.inl o⟩
 ·exact⟨a,.inr ⟨k,b,cs,c,d,f,j k _ (by rw[d];rfl) e,i,m,l⟩⟩
theorem fw.ok{h0:ae}(r:fw h0 h T n v L)(o:Ok h g):fw h0 g T n v L:=r.jH λk B _ a=>o.ext _ _ a
theorem fw.lt(o:fw g h T n v L)(w:Wf h){k:Nat}(a:fq v=some k):k<h.next/\g.next<=k:=by
 obtain⟨_,⟨rfl,_⟩|⟨b,i,cs,c,e,f,d,j,m,l⟩⟩:=o
 ·cases a
 ·rw[e]at a;obtain rfl:b=k:=oI a;exact⟨w _ _ d,f⟩
theorem fw.nil(b h:ae)(e:TypeId)(a:Nat):fw b h e a (.slice none 0 0) []:=⟨λr c=>(by grind),.inl ⟨rfl,rfl⟩⟩
theorem fw.XT(o:fw g h T n v L):∃(a:Option Addr)(c:Nat),v = .slice a L.length c:=o.rd.XT
theorem fw.blk(o:fw g h T n v L)(e:0<L.length):∃(k a c:Nat),v = .slice (some ⟨k,a,none⟩) L.length c/\g.next<=k:=by
 obtain⟨_,⟨_,rfl⟩|⟨k,a,cs,c,b,d,_⟩⟩:=o
 all_goals grind
theorem fw.add{t e:TypeId}{i:TypeInfo}(hU:P.underlying t=some (.slice e))(W:fh P e=some i)(X:i.size=n)(Y:ej P T=true){y g:ae}(K:Wf y)(a:Ok y g){v:Value}{d:List (List Value)}(o:fw y g e n v d){x:Value}{ns:List (List Value)}(D:gh g n x=some (ns.flatten,ns.length))(A:∀r∈ns,r.length=n)(M:ns.flatten.all dX=true)(E:(d.length+ns.length)*i.bytes<=70368744177664)(w:d.length+ns.length<=1099511627776)(L:ns.length<=1\/v = .slice none 0 0):
  ∃(b:Option Addr)(U c:Nat)(u:dV),bM P t T v x g=some (.slice b U c,u)/\U=d.length+ns.length/\fw y (u.app g) e n (.slice b U c) (d++ns)/\Ok y (u.app g)/\
   (∀j B,g.get j=some B->fq v≠some j->(u.app g).get j=some B)/\
   (∀j,fq (.slice b U c)=some j->g.next<=j\/fq v=some j)/\g.next<=(u.app g).next:=by
 obtain⟨R,o⟩:=o;have l:∀r∈d++ns,r.length=n:=λr h=>(mem_append.1 h).elim (R r) (A r);have f1:=vf R;have Q:=vf A;unfold bM;rw[hU];dsimp only;rw[W];dsimp only;rw[X,if_pos Y,D];dsimp only;rw[if_pos ⟨M,Q⟩];have N:∀B:dQ,∀j I,g.get j=some I->(g.push B).get j=some I:=λB j I f=>by
  rw[ae.bC,if_neg (λe=>by have:=a.wf _ _ f;omega)];omega
 rcases o with⟨rfl,rfl⟩|⟨k,p,cs,c,rfl,F,z,H,h5,h6⟩
 ·by_cases q:ns.length=0
  ·rw[if_pos q];obtain rfl:=eq_nil_of_length_eq_zero q;exact⟨_,_,_,_,rfl,rfl,⟨l,.inl ⟨rfl,rfl⟩⟩,a,λj B f _=>f,λj e=> .inr e,Nat.le_refl _⟩
  ·rw[List.length_nil,Nat.zero_add]at E w;rw[if_neg q,if_pos ⟨E,w⟩];refine⟨_,_,_,_,rfl,(Nat.zero_add _).symm,⟨l,.inr ⟨g.next,0,ns.flatten,dv+ns.length,rfl,a.nx,?_,?_,by rw[iK,Q];rfl,by rw[iK];exact Nat.le_refl _⟩⟩,a.push _,λj B f _=>N _ j B f,λj e=> .inl (Nat.le_of_eq (oI e)),le_succ _⟩
   ·show(g.push _).get g.next=_;rw[ae.bC,if_pos rfl]
   grind
 ·dsimp only;by_cases q:ns.length=0
  ·rw[if_pos q];obtain rfl:=eq_nil_of_length_eq_zero q;exact⟨_,_,_,_,rfl,rfl,⟨l,.inr ⟨k,p,cs,c,by grind,F,z,by grind,h5,by grind⟩⟩,a,λj B f _=>f,λj e=> .inr e,Nat.le_refl _⟩
  have O:=a.wf _ _ z;have m1:(d.length+ns.length)*n=d.length*n+ns.length*n:=Nat.add_mul ..;rw[if_neg q];by_cases m:d.length+ns.length<=bL c
  ·rw[if_pos m];have m2:(d.length+ns.length)*n<=bL c*n:=mul_le_mul_right _ m;unfold storeAt;rw[z];dsimp only;rw[if_pos ⟨by omega,M⟩];refine⟨_,_,_,_,rfl,rfl,⟨l,.inr ⟨k,p,cs.take (p+d.length*n)++ns.flatten++cs.drop (p+d.length*n+ns.flatten.length),c,?_,F,?_,?_,?_,?_⟩⟩,?_,λj B f s=>?_,λj e=> .inr e,Nat.le_refl _⟩
   ·grind
   ·show(g.set k _).get k=_;rw[ae.av,if_pos rfl]
   ·grind
   ·grind
   ·grind
   ·exact a.set _ F O K
   ·show(g.set k _).get j=_;rw[ae.av,if_neg (λe=>s (by rw[e];rfl))];omega
  ·rw[if_neg m];have G:((cs.drop p).take (d.length*n)).length=d.length*n:=by rw[H,f1]
   unfold lC;rw[if_pos ⟨E,w⟩,z];dsimp only;rw[if_pos ⟨rfl,rfl,G⟩];have fl:d.flatten++ns.flatten=(d++ns).flatten:=List.flatten_append.symm;have J:=vf l;rw[length_append]at J;by_cases S:c<dv
   ·rw[if_pos S,H,fl];refine⟨_,_,_,_,rfl,rfl,⟨l,.inr ⟨g.next,0,(d++ns).flatten,dv+(d.length+ns.length),by rw[length_append],a.nx,?_,?_,by rw[iK,J];rfl,by rw[iK,length_append];exact Nat.le_refl _⟩⟩,a.push _,λj B f _=>N _ j B f,λj e=> .inl (Nat.le_of_eq (oI e)),le_succ _⟩
    ·show(g.push _).get g.next=_;rw[ae.bC,if_pos rfl]
    grind
   ·rw[if_neg S];have Z:bL c=d.length:=by
     rcases L with h|h
     ·omega
     ·cases h
    rw[if_pos ⟨rfl,by grind⟩,H,fl];refine⟨_,_,_,_,rfl,rfl,⟨l,.inr ⟨g.next,0,(d++ns).flatten,dv+(d.length+ns.length),by grind,a.nx,?_,?_,by rw[iK,J];rfl,by simp[iK]⟩⟩,?_,λj B f s=>?_,λj e=> .inl (Nat.le_of_eq (oI e)),le_succ _⟩
    ·show((g.del k).push _).get g.next=_
     simp_all[ae.bC]
    ·grind
    ·refine⟨?_,λj C f=>?_,Nat.le_trans a.nx (le_succ _)⟩
     ·refine ae.oM (λj C f=>?_) _;rw[ae.dZ]at f;split at f
      ·grind
      ·exact a.wf _ _ f
     ·have G:=a.ext _ _ f;have V:=a.wf _ _ G;show((g.del k).push _).get j=_;rw[ae.bC,if_neg (λe=>by have:j=g.next:=e;omega),ae.dZ,if_neg (λe=>by have:=K _ _ f;omega)];omega
    ·have V:=a.wf _ _ f;show((g.del k).push _).get j=_;rw[ae.bC,if_neg (λe=>by have:j=g.next:=e;omega),ae.dZ,if_neg (λe=>s (by rw[e];rfl))];omega
theorem fw.put{e t':TypeId}(z:aG P t'=some 1){f g:ae}(w:Wf f)(a:Ok f g){k b J c:Nat}{h:List (List Value)}(o:fw f g e n (.slice (some ⟨k,b,none⟩) J c) h){i j:Nat}{r:List Value}(l:h[i]?=some r)(G:j<n){v':Value}(y:dX v'=true)(H:v'.cells = #[v']):
  ∃u:dV,ah P t' (.pointer (some ⟨k,b+i*n+j,none⟩)) v' g=some (undef,u)/\fw f (u.app g) e n (.slice (some ⟨k,b,none⟩) J c) (h.set i (r.set j v'))/\Ok f (u.app g)/\(∀j B,g.get j=some B->k≠j->(u.app g).get j=some B)/\(u.app g).next=g.next:=by
 obtain⟨v,⟨d,_⟩|⟨N,D,cs,O,d,s,p,A,R,F⟩⟩:=o
 ·grind
 ·injection d with d hn t
  injection d with d
  injection d with d C _
  subst d;subst C;subst t;have m:i<h.length:=(List.getElem?_eq_some_iff.1 l).1;have E:(i+1)*n<=h.length*n:=mul_le_mul_right _ m;have M:=mul_le_mul_right n F;have K:=v r (List.mem_of_getElem? l);rw[Nat.add_mul,Nat.one_mul]at E;refine⟨_,jj z p (by omega) y H,⟨λQ L=>?_,.inr ⟨k,b,cs.set (b+i*n+j) v',c,?_,s,?_,?_,?_,?_⟩⟩,a.set _ s (a.wf _ _ p) w,λx B I q=>?_,rfl⟩
  ·grind
  ·grind
  ·show(g.set k _).get k=_;rw[ae.av,if_pos rfl]
  ·rw[length_set,Gn v l G,<-A,List.drop_set,if_neg (by omega),List.take_set,show b+i*n+j-b=i*n+j by omega]
  ·grind
  ·grind
  ·show(g.set k _).get x=_;rw[ae.av,if_neg (λe=>q e.symm)];omega
theorem fw.at_{t:TypeId}(G:P.underlying t=some (.slice T))(w:aG P T=some n){B g:ae}{k a v c:Nat}{e:List (List Value)}(o:fw B g T n (.slice (some ⟨k,a,none⟩) v c) e){i:Nat}{r:List Value}(p:e[i]?=some r)(ik:IntKind):
  aB P t (.slice (some ⟨k,a,none⟩) v c) (.int ik (i:Int))=some (.pointer (some ⟨k,a+i*n,none⟩))/\(∀(f:TypeId)(l:TypeDesc)(j:Nat),P.underlying f=some l->isAgg P f=false->j<n->aj P f g (.pointer (some ⟨k,a+i*n+j,none⟩))=some (r.getD j undef))/\
   (∀d,P.underlying T=some d->isAgg P T=true->aj P T g (.pointer (some ⟨k,a+i*n,none⟩))=some (.agg ⟨r⟩)):=by
 have I:=o.rd.len;have h:i<e.length:=(List.getElem?_eq_some_iff.1 p).1;have m:=Qz (P:=P) G w (k:=k) (off:=a) (n:=v) (c:=c) (ik:=ik) (i:=(i:Int)) (by omega) (by omega);rw[Int.toNat_natCast]at m;obtain⟨Q,⟨b,_⟩|⟨H,C,cs,K,z,J,M,b,x,L,y⟩⟩:=o.rd
 ·grind
 ·injection b with b _ q
  injection b with b
  injection b with b A _
  subst b;subst A;subst q;have D:(i+1)*n<=e.length*n:=mul_le_mul_right _ h;rw[Nat.add_mul,Nat.one_mul]at D;have F:=y i r p;refine⟨m,λf l j u s E=>?_,λd O N=>?_⟩
  ·rw[cD u s x (by omega),<-F,gD,gD,getElem?_take,if_pos E,getElem?_drop]
  grind[pz]
def od:Code->Bool
 |.seq a b=>od a&&od b
 |.cond _ a b=>od a&&od b
 |.block _ c=>od c
 |.loop _=>false
 |_=>true
theorem fZ{P:Program}{gl:Nat->Bool}{f:ew}(N M:Nat):∀(c:Code)(e:List Value)(h:ae),od c=true->bN P gl f N c e h=bN P gl f M c e h
 |.skip,_,_,_=>rfl
 |.region _ _ false,_,_,_=>rfl
 |.region _ _ true,_,_,_=>rfl
 |.seq a b,e,h,d=>by
  simp only[od,and_eq_true]at d;simp only[bN];rw[fZ N M a e h d.1];split
  ·exact fZ N M b _ _ d.2
  ·rfl
 |.cond c a b,e,h,d=>by
  simp only[od,and_eq_true]at d;simp only[bN];rw[fZ N M a e h d.1,fZ N M b e h d.2]
 |.block g c,e,h,d=>by
  simp only[od]at d;simp only[bN];rw[fZ N M c e h d]
 |.loop _,_,_,d=>by grind[od]
 |.exit _,_,_,_=>rfl
 |.ret,_,_,_=>rfl
 |.label _,_,_,_=>rfl
 |.rangeFunc ..,_,_,_=>by rfl
 |.scope _,_,_,_=>rfl
 |.goto _,_,_,_=>rfl
 |.refuse _,_,_,_=>rfl
theorem Um(e:FD){f:FuncId}{m:Func}{j a:Code}{d:Tmp}{b:List Value}{h:ae}{Q:VH}(hp:X.pr f=some (xz X.P X.gl m j a d))(w:TT X e [0] (b++List.replicate (e.nm-b.length) undef) h (λx c g=>x = .normal/\TT X e [1,1] (c.set d iq) g λx c q=>x = .ret/\EE X e Q .ret c q))
  (F:e=cP m []:=by kernel_rfl) (Z:fV [0] e.body=j:=by kernel_rfl) (P:fV [1,1] e.body=a:=by kernel_rfl) (K:(Nat.blt f YB&&Nat.ble b.length e.nm&&gw e.nm j&&gw e.nm a&&od j&&od a&&Nat.blt d e.nm)=true:=by kernel_rfl):FW X f b h Q:=by
 have S:e.nm=m.ntmps:=by rw[F];rfl
 have er:e.rs=m.results.toList:=by rw[F];rfl
 simp only[and_eq_true,blt_eq,ble_eq]at K;obtain⟨⟨⟨⟨⟨⟨V,c2⟩,H⟩,D⟩,c5⟩,Y⟩,B⟩:=K;unfold TT at w;rw[Z]at w;have o:(b++List.replicate (e.nm-b.length) undef).length=e.nm:=by simp;omega
 have M:=im (Q':=Bw e.nm λx c g=>x = .normal/\wpS X e.nm e.ms [1,1].reverse a (c.set d iq) g λx c q=>x = .ret/\EE X e Q .ret c q) j o H (λx c h o t=>⟨c,o,rfl,by rw[P]at t;exact t⟩) w;obtain⟨x0,E0,I,⟨n0,E⟩,A,v,rfl,rfl,N⟩:=il j H M;have z:(A.set d iq).length=e.nm:=by rw[length_set];exact v
 have W:=im (Q':=Bw e.nm λx c q=>x = .ret/\EE X e Q .ret c q) a z D (λx c h o t=>⟨c,o,rfl,t⟩) N;obtain⟨x1,E1,g,⟨O,C⟩,r,U,rfl,rfl,p⟩:=il a D W;have y:∃k,FL X r g e.rs=some k/\Q (dP k) g:=by
  have p:zK (FL X r g e.rs) g Q:=p
  cases s:FL X r g e.rs with
  |none=>rw[s]at p;exact p.elim
  |some k=>rw[s]at p;exact⟨k,rfl,p⟩
 obtain⟨k,s,T⟩:=y;refine⟨dP k,g,⟨n0+O+1,λn hn=>?_⟩,T⟩;obtain⟨i,rfl⟩:∃i,n=i+1:=⟨n-1,by omega⟩
 simp only[ck];rw[if_neg (Nat.not_le.2 V),hp];obtain⟨l,G,hA⟩:=E i i (by omega) (by omega) _ (Ul o);obtain⟨u,L,R⟩:=C i i (by omega) (by omega) (l.set d iq) (by
  have J:tU e.nm (some d)=true:=by simp[tU];exact B
  have:=ER.put G J iq;rw[DA v J]at this;exact this)
 have x4:bN X.P X.gl (ck X.P X.gl X.pr i) 40 j (b++List.replicate (m.ntmps-b.length) undef) h=some (.normal,l,I):=by
  rw[fZ 40 i j _ _ c5,<-S];exact hA
 have x3:bN X.P X.gl (ck X.P X.gl X.pr i) 40 a (l.set d iq) I=some (.ret,u,g):=by
  rw[fZ 40 i a _ _ Y];exact R
 have x2:d<l.length:=by rw[G.1];exact B
 have hE:dL X.P u g m.results.toList=some k:=by
  rw[Cz L,zl,<-er];exact s
 simp_all[xz]
def I8(P:Program)(a:Option Addr)(h:ae)(K:VH):Prop:=vL (dz P (λ_=> .pointer a) ⟨none,.nilCheck (.tmp 0),0,"",#[],none⟩) h K
theorem lV{p:Addr}{K:VH}(a:K (.pointer (some p)) h):I8 P (some p) h K:=a
variable{j:Nat}{i:Nat}
section
structure Ac(X:Nat->Prop)(g g':ae):Prop where
 wf:Wf g'
 ext:∀k B,¬X k->g.get k=some B->g'.get k=some B
 nx:g.next<=g'.next
section
variable {X Y:Nat->Prop} {g g' g2 h0:ae}
theorem Ok.okS(o:Ok g g'):Ac X g g':=⟨o.wf,λk B _ h=>o.ext k B h,o.nx⟩
theorem Ac.trans(a:Ac X g g')(b:Ac X g' g2):Ac X g g2:=⟨b.wf,λk B h c=>b.ext k B h (a.ext k B h c),Nat.le_trans a.nx b.nx⟩
theorem Ac.ok(s:Ac X g g')(o:Ok h0 g)(w:Wf h0)(b:∀k,X k->h0.next<=k):Ok h0 g':=
 ⟨s.wf,λk B a=>s.ext k B (λx=>by have:=b k x;have:=w k B a;omega) (o.ext k B a),Nat.le_trans o.nx s.nx⟩
theorem Ac.set(w:Wf g){k:Nat}(b:X k)(c:k<g.next)(B:dQ):Ac X g (g.set k B):=by
 refine⟨λj C a=>?_,λj C a h=>?_,Nat.le_refl _⟩
 ·rw[ae.av]at a;split at a
  ·simp_all
  ·exact w _ _ a
 ·rw[ae.av,if_neg (λe=>a (by grind))];exact h
theorem Ac.room(s:Ac X g g')(n:Nat):Ac X g (room g' n):=⟨λk B a=>lt_of_lt_of_le (s.wf k B a) (le_add_right _ _),s.ext,Nat.le_trans s.nx (le_add_right _ _)⟩
end
structure MTy(P:Program)(tM tV:TypeId):Prop where
 M:P.underlying tM=some (.slice tV)
 V:P.underlying tV=some (.slice 9)
 s:P.underlying 9=some .string
 zV:aG P tV=some 1
 zs:aG P 9=some 1
 aV:isAgg P tV=false
 az:isAgg P 9=false
def eN(l:List (List UInt8)):List Value:=l.map strOf
theorem fu(l:List (List UInt8)):(eN l).length=l.length:=lM _
theorem Lw{l:List (List UInt8)}(a:j<l.length):(eN l).getD j undef=strOf (l.getD j []):=by grind[eN]
theorem WV(l:List (List UInt8))(j:Nat)(x:List UInt8):(eN l).set j (strOf x)=eN (l.set j x):=by grind[List.map_set,eN]
def VB(g:ae)(k:Nat)(l:List (List UInt8)):Prop:=g.get k=some (.cells (eN l) 9 1 true)
def vS(k n c:Nat):Value:= .slice (some ⟨k,0,none⟩) n c
theorem DK{P:Program}{t:TypeId}(b:P.underlying t=some (.slice T))(a:aG P T=some 1){k n c i:Nat}(d:i<n):aB P t (.slice (some ⟨k,0,none⟩) n c) (.int .i64 (i:Int))=some (.pointer (some ⟨k,i,none⟩)):=by
 have:=Qz (P:=P) b a (k:=k) (off:=0) (n:=n) (c:=c) (ik:= .i64) (i:=(i:Int)) (by omega) (by omega)
 grind
section
variable {P:Program} {tM tV:TypeId} (ty:MTy P tM tV) {g g':ae} {k:Nat} {l:List (List UInt8)}
include ty
theorem VB.ix{c:Nat}(a:j<n):aB P tV (.slice (some ⟨k,0,none⟩) n c) (.int .i64 (j:Int))=some (.pointer (some ⟨k,j,none⟩)):=DK ty.V ty.zs a
theorem VB.ld(b:VB g k l){j:Nat}(a:j<l.length):aj P 9 g (.pointer (some ⟨k,j,none⟩))=some (strOf (l.getD j [])):=by
 rw[cD ty.s ty.az b (by grind[fu]),Lw a]
theorem VB.st(b:VB g k l){j:Nat}(a:j<l.length)(x:List UInt8):ah P 9 (.pointer (some ⟨k,j,none⟩)) (strOf x) g=some (undef,.set k (.cells (eN (l.set j x)) 9 1 true)):=by
 rw[jj ty.zs b (by grind[fu]) rfl rfl,WV]
end
theorem VB.rd{g:ae}{k:Nat}{l:List (List UInt8)}(b:VB g k l)(c:Nat):Rd g 9 (.slice (some ⟨k,0,none⟩) l.length c) (eN l):=
 .inr ⟨k,0,eN l,c,true,by rw[fu],b,by grind⟩
structure td(tV:TypeId)(g:ae)(kt:Nat)(ks cs:Nat->Nat)(R:List (List (List UInt8))):Prop where
 out:g.get kt=some (.cells ((List.range R.length).map λi=>vS (ks i) (R.getD i []).length (cs i)) tV 1 true)
 row:∀i,i<R.length->VB g (ks i) (R.getD i [])
 ne:∀i,i<R.length->ks i≠kt
 inj:∀i j,i<R.length->j<R.length->ks i=ks j->i=j
theorem CA{f:Nat->Value}(h:i<n)(d:Value):((List.range n).map f).getD i d=f i:=by grind
section
variable {P:Program} {tM tV:TypeId} {g g':ae} {kt:Nat} {ks cs:Nat->Nat} {R:List (List (List UInt8))}
theorem td.ix(ty:MTy P tM tV){i n c:Nat}(a:i<n):aB P tM (.slice (some ⟨kt,0,none⟩) n c) (.int .i64 (i:Int))=some (.pointer (some ⟨kt,i,none⟩)):=DK ty.M ty.zV a
theorem td.ld(ty:MTy P tM tV)(m:td tV g kt ks cs R){i:Nat}(a:i<R.length):aj P tV g (.pointer (some ⟨kt,i,none⟩))=some (.slice (some ⟨ks i,0,none⟩) (R.getD i []).length (cs i)):=by
 rw[cD ty.V ty.aV m.out (by grind),CA a];rfl
theorem td.jH{X:Nat->Prop}(m:td tV g kt ks cs R)(s:Ac X g g')(b:¬X kt)(c:∀i,i<R.length->¬X (ks i)):td tV g' kt ks cs R:=
 ⟨s.ext _ _ b m.out,λi a=>s.ext _ _ (c i a) (m.row i a),m.ne,m.inj⟩
theorem td.ok(m:td tV g kt ks cs R)(o:Ok g g'):td tV g' kt ks cs R:=m.jH (X:=λ_=>False) o.okS id λ_ _=>id
theorem td.room(m:td tV g kt ks cs R)(n:Nat):td tV (room g n) kt ks cs R:=⟨m.out,m.row,m.ne,m.inj⟩
theorem td.ad0(m:td tV g kt ks cs R){i:Nat}(h:i<R.length){l:List (List UInt8)}(k:l.length=(R.getD i []).length):td tV (g.set (ks i) (.cells (eN l) 9 1 true)) kt ks cs (R.set i l):=by
 have f:(R.set i l).length=R.length:=length_set;have j:∀a,a<R.length->(R.set i l).getD a []=if a=i then l else R.getD a []:=λa d=>by grind
 refine⟨?_,λa d=>?_,λa d=>m.ne a (by omega),λa b d n=>m.inj a b (by omega) (by omega)⟩
 ·rw[ae.av,if_neg (λe=>m.ne i h e.symm),m.out,f]
  grind
 ·rw[f]at d;unfold VB;rw[ae.av,j a d];by_cases e:a=i
  ·grind
  ·rw[if_neg (λc=>e (m.inj a i d h c)),if_neg e];exact m.row a d
theorem td.put(m:td tV g kt ks cs R){i:Nat}(a:i<R.length)(j:Nat)(x:List UInt8):td tV (g.set (ks i) (.cells (eN ((R.getD i []).set j x)) 9 1 true)) kt ks cs (R.set i ((R.getD i []).set j x)):=m.ad0 a length_set
theorem td.lt(m:td tV g kt ks cs R)(w:Wf g):kt<g.next/\∀i,i<R.length->ks i<g.next:=⟨w _ _ m.out,λi a=>w _ _ (m.row i a)⟩
end
def Mn(tV:TypeId)(g:ae)(v:Value)(R:List (List (List UInt8))):Prop:=∃b:List Value,Rd g tV v b/\b.length=R.length/\∀i x,b[i]?=some x->∃a n c,x = .slice a n c/\Rd g 9 x (eN (R.getD i []))
theorem Mn.ok{tV:TypeId}{g g':ae}{R:List (List (List UInt8))}(r:Mn tV g v R)(o:Ok g g'):Mn tV g' v R:=by
 obtain⟨b,h,j,d⟩:=r;refine⟨b,h.ok o,j,λi x f=>?_⟩;obtain⟨a,n,c,e,k⟩:=d i x f;exact⟨a,n,c,e,k.ok o⟩
theorem Mn.len{tV:TypeId}{g:ae}{c:Nat}{R:List (List (List UInt8))}(r:Mn tV g (.slice a n c) R):n=R.length:=by
 obtain⟨e,b,d,f⟩:=r;rw[b.len,d]
theorem Mn.at_{P:Program}{tM tV:TypeId}(ty:MTy P tM tV){g:ae}{v:Value}{R:List (List (List UInt8))}(r:Mn tV g v R){i:Nat}(j:i<R.length):
  ∃(p:Addr)(a:Option Addr)(n c:Nat),aB P tM v (.int .i64 (i:Int))=some (.pointer (some p))/\aj P tV g (.pointer (some p))=some (.slice a n c)/\Rd g 9 (.slice a n c) (eN (R.getD i [])):=by
 obtain⟨d,b,f,e⟩:=r;obtain⟨p,h,l⟩:=b.at_ ty.M ty.zV ty.V ty.aV (k:= .i64) (i:=(i:Int)) (by omega) (by omega)
 grind
theorem td.rdM{tV:TypeId}{g:ae}{kt:Nat}{ks cs:Nat->Nat}{R:List (List (List UInt8))}(m:td tV g kt ks cs R)(c:Nat):Mn tV g (.slice (some ⟨kt,0,none⟩) R.length c) R:=by
 refine⟨(List.range R.length).map λi=>vS (ks i) (R.getD i []).length (cs i),.inr ⟨kt,0,_,c,true,by simp,m.out,by grind⟩,by simp,λi x a=>?_⟩;rw[List.getElem?_map]at a;obtain⟨j,h,e⟩:=map_eq_some_iff.1 a;have f:=List.getElem?_eq_some_iff.1 h;obtain⟨b,d⟩:=f;rw[List.length_range]at b;rw[List.getElem_range]at d;subst d;exact⟨_,_,_,e.symm,by rw[<-e];exact(m.row i b).rd _⟩
theorem Rd.cell{P:Program}{tM tV:TypeId}(ty:MTy P tM tV){g:ae}{v:Value}{l:List (List UInt8)}(r:Rd g 9 v (eN l)){j:Nat}(c:j<l.length):∃p:Addr,aB P tV v (.int .i64 (j:Int))=some (.pointer (some p))/\aj P 9 g (.pointer (some p))=some (strOf (l.getD j [])):=by
 obtain⟨p,a,b⟩:=r.at_ ty.V ty.zs ty.s ty.az (k:= .i64) (i:=(j:Int)) (by omega) (by rw[fu];omega)
 grind[Lw]
theorem BV.aea{P:Program}{t:TypeId}{i:TypeInfo}(z:P.underlying t=some (.slice T))(r:fh P T=some i)(s:i.size=1)(y:ej P t=true){h0 g:ae}(n:Wf h0)(a:Ok h0 g){v:Value}{c:List Value}(o:BV h0 g T v c){x m:Value}(e:gh g 1 m=some ([x],1))(E:dX x=true)(q:(c.length+1)*i.bytes<=70368744177664)(l:c.length+1<=1099511627776):
  ∃u:dV,bM P t t v m g=some (.slice (some ⟨g.next,0,none⟩) (c.length+1) (dv+(c.length+1)),u)/\(u.app g).get g.next=some (.cells (c++[x]) T 1 true)/\Ok h0 (u.app g)/\(u.app g).next=g.next+1/\∀j B,g.get j=some B->fq v≠some j->(u.app g).get j=some B:=by
 have d:∀j B,g.get j=some B->j<g.next:=λj B b=>a.wf _ _ b;unfold bM;rw[z];dsimp only;rw[r];dsimp only;rw[if_pos y,s,e];dsimp only;rw[if_pos ⟨by grind,by simp⟩];rcases o with⟨rfl,rfl⟩|⟨k,rfl,F,h⟩
 ·show ∃u:dV,(if 1=0 then some (Value.slice none 0 0,dV.no)else if 1*i.bytes<=70368744177664/\1<=1099511627776 then some (Value.slice (some ⟨g.next,0,none⟩) 1 (dv+1),dV.push (.cells [x] T 1 true))else none)=_/\_;rw[if_neg (by omega),if_pos (by grind)];refine⟨_,rfl,?_,a.push _,rfl,λj B b _=>?_⟩
  ·show(g.push _).get g.next=_;simp[ae.bC]
  ·show(g.push _).get j=_;rw[ae.bC,if_neg (λT=>by have:=d _ _ b;omega)];omega
 ·dsimp only;have A:=a.wf _ _ h;rw[if_neg (by omega),Nat.mul_one];have f:bL (dv+c.length)=c.length:=by unfold bL;rw[if_pos (by omega)];omega
  rw[f,if_neg (by omega)];unfold lC;rw[if_pos ⟨q,l⟩,h];dsimp only;rw[Nat.mul_one,if_pos ⟨rfl,rfl,by simp⟩,if_neg (by omega),if_pos ⟨rfl,by omega⟩];refine⟨_,rfl,?_,?_,rfl,λj B b p=>?_⟩
  ·show((g.del k).push _).get g.next=_
   simp_all[ae.bC]
  ·refine⟨?_,λj C b=>?_,Nat.le_trans a.nx (le_succ _)⟩
   ·refine ae.oM (λj C b=>?_) _;rw[ae.dZ]at b
    simp_all
   ·have w:=a.ext _ _ b;have D:=a.wf _ _ w;show((g.del k).push _).get j=_;rw[ae.bC,if_neg (λT=>by have:j=g.next:=T;omega),ae.dZ,if_neg (λT=>by have:=n _ _ b;omega)];omega
  ·show((g.del k).push _).get j=_;rw[ae.bC,if_neg (λT=>by have:=d _ _ b;have:j=g.next:=T;omega),ae.dZ,if_neg (λT=>p (by rw[T];rfl))];omega
theorem YG{P:Program}{tM tV:TypeId}(ty:MTy P tM tV){g:ae}{k n c p:Nat}{a:Option Addr}{l m:List (List UInt8)}(b:VB g k m)(h0:m.length=n)(q:0<n)(r:Rd g 9 (.slice a n c) (eN l)):copyV P tV (.slice (some ⟨k,0,none⟩) n p) (.slice a n c) g=some (.int .i64 (n:Int),.set k (.cells (eN l) 9 1 true)):=by
 have j:=r.len;rw[fu]at j;have f:gh g 1 (.slice a n c)=some (eN l,n):=by
  rcases r with⟨d,h⟩|⟨o,e,cs,u,t,d,h,i⟩
  ·have:l.length=0:=by rw[<-fu,h];rfl
   omega
  ·injection d with d h4 h5
   subst d;show(match g.get o with|some (.cells cs ..)=>if((cs.drop e).take (n*1)).length=n*1 then some ((cs.drop e).take (n*1),n)else none|_=>none)=_;rw[h];dsimp only;rw[fu,<-j]at i;rw[Nat.mul_one,i,if_pos (by rw[fu];omega)]
 unfold copyV;rw[ty.V];dsimp only;rw[ty.zs];dsimp only;rw[f];dsimp only;rw[if_neg (show ¬(n=0\/n=0) by omega),Nat.min_self,Nat.mul_one,List.take_of_length_le (show(eN l).length<=n by rw[fu];omega)];unfold storeAt;rw[b];dsimp only;have s:(eN l).all dX=true:=by
  unfold eN;rw[List.all_map];exact all_eq_true.2 λ_ _=>rfl
 simp_all[eN]
end
theorem Et{t:TypeId}(i:P.underlying t=some (.slice T))(e:aG P T=some n){g:ae}{k a b c z:Nat}{cs:List Value}(f:g.get k=some (.cells cs T n true))(h:z<=b)(d:b<=bL c):
  bK P t (.slice (some ⟨k,a,none⟩) b c) (some (.int .i64 (z:Int))) none none g=some (.slice (some ⟨k,a+z*n,none⟩) (b-z) (c-z)):=by simp_all[bK,fe]
end Go.Ab
end
section
namespace Go.Ab
open Go Go.RowKit Go.Proofs Go.Sort Go.Shelf
variable{n:Nat}{a:Option Addr}{v:Value}{W:World}{V:Array Value}{p:List Int}
section
variable {β:dN} {P:Program} {gl:Nat->Bool}
theorem Gj:∀{cs:List Value}{l:List Int},ME cs=some l->cs=l.map zV
 |[],l,h=>by obtain rfl:=oI h;rfl
 | v::r,l,h=>by
  unfold ME at h;split at h
  ·next a=>cases a
  ·next z e a=>
   injection a with a c
   subst a;subst c;obtain⟨d,b,rfl⟩:=map_eq_some_iff.1 h;rw[Gj b];rfl
  grind
theorem NG{c:Nat}(h:aE β (.slice a n c) v):∃d b,v = .slice d n b:=by
 cases h with
 |mg=>grind
 |slice=>grind
 |dead=>grind
theorem Qy{b s:Nat}{t:TypeId}{d:Nat×Nat}{cs:List Value}(g:W.heap[b]?=some (.cells V t d))(u:gB β cs s V)(i:Uk d V.size)(h:n+p.length<=cs.length)(l:(cs.drop n).take p.length=p.map zV):Holds (Value.int .i64) W b (s+n) p.toArray:=by
 intro j a;have a:j<p.length:=by simpa using a
 have f:(p.map zV)[j]?=some (zV p[j]):=by rw[List.getElem?_map,gE a];rfl
 rw[<-l,getElem?_take,if_pos a,getElem?_drop]at f;obtain⟨w,c,k⟩:=u _ _ f;rw[k.Ys rfl]at c;rw[show s+(n+j)=s+n+j by omega]at c;have e:p.toArray[j]! = p[j]:=getElem!_pos p.toArray j (by simpa using a);refine⟨by rw[oy g,c,e];rfl,?_⟩;have v:s+n+j<V.size:=(Array.getElem?_eq_some_iff.1 c).1;unfold World.frozen?;rw[g];dsimp only;obtain⟨o,m⟩:=d;rw[Bool.and_eq_false_iff];by_cases r:o<=s+n+j
 ·right;have:¬s+n+j<m:=λq=>by
   have:=i (s+n+j) r q;omega
  simpa using this
 grind
set_option maxHeartbeats 1000000 in
theorem Wz{ρ:Ren}(L:SlLaysM.n5 P ρ){f5:Func}(U:P.funcs[ρ.f 5]?=some f5)(X:f5.body.isSome=true):ph P gl (ρ.f 5) El:=by
 intro x8 _ x5 h v h' g β w G p _ ha;refine⟨f5,U,.inl ⟨X,?_⟩⟩;unfold El at g;split at g
 ·next a n c=>
  obtain⟨v1,r1,e1,N,Y⟩:=ha.dH;have e3:=Y.fH;subst e3;have I:G = #[v1]:=by
   have:=congrArg List.toArray e1;simpa using this
  subst I;split at g
  ·next R=>
   subst R;simp only[Option.some.injEq,Prod.mk.injEq]at g;obtain⟨rfl,rfl⟩:=g;obtain⟨a',S,rfl⟩:=NG N;refine(AnyM.slices_Sort_int_none L a' S w).mono ?_;rintro e w' ⟨rfl,rfl⟩;exact⟨_,β,rfl,Step.refl p,.tuple rfl λi v q h=>by simp at h⟩
  ·next R=>
   split at g
   ·next b d=>
    split at g
    ·next cs t sz z=>
     split at g
     ·next C=>
      obtain⟨l,T,he⟩:=map_eq_some_iff.1 g;simp only[Prod.mk.injEq]at he;obtain⟨rfl,rfl⟩:=he;have Z:=Gj T;obtain⟨f,i',S,u,W,_,rfl,x6,y0,x7,D,x9⟩:=N.hZ;have D:i'=f.s+d:=by
       rcases D with h|⟨h,_⟩
       ·exact h
       ·exact absurd h R
      subst D;obtain⟨W,ht,hz,s,fr,hw,x0,Q,K⟩:=p.blk _ _ _ z u;have A:((cs.drop d).take n).length=n:=by rw[length_take,List.length_drop];omega
      have x2:l.length=n:=by
       rw[Z,lM]at A;exact A
      subst x2;have H:=Qy (β:=β) hw Q (K rfl) C.2 Z;refine(AnyM.slices_Sort_int L f.b (f.s+d) S l w H (p.lt _ _ u).2 C.1).mono ?_;rintro e w' ⟨rfl,m,os,rfl⟩;have B:(mD l).length=l.length:=List.length_mergeSort l;have e0:(l.mergeSort λx y=>decide (x<=y))=mD l:=rfl;rw[e0];generalize mD l=o at*;have x4:d<=cs.length:=by omega
      have r:∀i v,cs[i]?=some v->∃q,s[f.s+i]?=some q/\aE β v q:=Q;have J:Step β h w β (h.set b (.cells (cs.take d++o.map zV++cs.drop (d+l.length)) t sz true)) (putRow (Value.int .i64) (Sort.ahead w m) f.b (f.s+d) o.toArray):=by
       refine Step.at_ p z u rfl ⟨by simp,rfl,⟨rfl,le_add_right _ _⟩,rfl,λb' V=>?_⟩ ⟨W,ht,hz,putCells (Value.int .i64) (f.s+d) o.toArray s,fr,?_,by simp[putCells,x0],λi v k=>?_,λ_=>by simpa[putCells]using K rfl⟩
       ·simp only[putRow,mapBlock,Array.getElem?_modify];rw[if_neg (Ne.symm V)];rfl
       ·simp only[putRow,mapBlock,Array.getElem?_modify,if_true,heap_ahead,hw,map_some,onCells]
       ·have x3:∀j,(putCells (Value.int .i64) (f.s+d) o.toArray s)[j]?=(s[j]?).map λx=>if f.s+d<=j/\j<f.s+d+l.length then Value.int .i64 (o.toArray[j-(f.s+d)]!)else x:=λj=>by
         simp only[putCells,Array.getElem?_mapIdx,List.size_toArray,B]
        rw[x3];have hf:(o.map zV).length=l.length:=by rw[lM,B]
        have x1:(cs.take d).length=d:=by rw[length_take];omega
        rw[append_assoc,List.getElem?_append,x1]at k;split at k
        ·next hi=>
         rw[getElem?_take,if_pos hi]at k;obtain⟨q,E,F⟩:=r i v k;rw[E];exact⟨q,by simp only[map_some];rw[if_neg (by omega)],F⟩
        ·next hi=>
         rw[List.getElem?_append,hf]at k;split at k
         ·next O=>
          have g0:i<cs.length:=by omega
          obtain⟨q,E,F⟩:=r i _ (gE g0);rw[E];simp only[map_some];rw[if_pos (by omega)];have M:i-d<o.length:=by rw[B];exact O
          rw[List.getElem?_map,gE M]at k;obtain rfl:=oI k;refine⟨_,rfl,?_⟩;rw[show f.s+i-(f.s+d)=i-d by omega];have e:o.toArray[i-d]! = o[i-d]:=getElem!_pos o.toArray (i-d) (by simpa using M);rw[e];exact .yR rfl
         ·next O=>
          rw[getElem?_drop,show d+l.length+(i-d-l.length)=i by omega]at k;obtain⟨q,E,F⟩:=r i v k;rw[E];exact⟨q,by simp only[map_some];rw[if_neg (by omega)],F⟩
      refine⟨_,β,rfl,J.trans (wK J.pS ⟨rfl,rfl,rfl,by rw[size_grow];exact le_add_right _ _,λj hj=>heap_grow_old _ os hj⟩ (Nat.le_refl _)),.tuple rfl λi v q h=>by simp at h⟩
     ·cases g
    ·cases g
   ·cases g
 grind
end
end Go.Ab
end
section
namespace Go.Ab
open Go Go.RowKit
variable{A:Type}{n:Nat}{v:Value}{T:TypeId}
section
variable {β:dN} {P:Program} {h:ae} {w:World}
theorem HN{e:Type}{c:Nat}:∀{a:List (List e)},(∀r∈a,r.length=c)->∀{i:Nat}{r:List e},a[i]?=some r->∀{j:Nat},j<c->a.flatten[i*c+j]?=r[j]?
 |[],_,i,r,b,_,_=>by grind
 |x::a,d,0,r,b,j,f=>by grind
 |x::a,d,i+1,r,b,j,f=>by
  have h:=d x (mem_cons_self ..);rw[List.getElem?_cons_succ]at b;have k:=HN (λr g=>d r (mem_cons_of_mem _ g)) b f
  grind
theorem Dx{d:Type}{b:Nat}:∀{a:List (List d)},(∀r∈a,r.length=b)->a.flatten.length=a.length*b
 |[],_=>by simp
 |x::a,c=>by
  have e:=c x (mem_cons_self ..);rw[flatten_cons,length_append,Dx λr f=>c r (mem_cons_of_mem _ f),e,length_cons,Nat.add_mul];omega
theorem Uh{a:List (List A)}(b:∀r∈a,r.length=n){i:Nat}{r:List A}(c:a[i]?=some r):(a.flatten.drop (i*n)).take n=r:=by
 have d:=b r (List.mem_of_getElem? c);refine List.ext_getElem? λj=>?_
 grind[HN]
structure vM(β:dN)(h:ae)(w:World):Prop where
 pS:kM β h w
 ro:∀k B,h.get k=some B->B.wr=false
theorem ae5(n:Nat)(w:World):vM β0 ⟨n,.nil⟩ w:=⟨Pe n w,λk B h=>by grind[ae.get_nil]⟩
theorem vM.wf(i:vM β h w):Wf h:=i.pS.wf
theorem vM.below(i:vM β h w){b:dN}{e:ae}{a:World}(s:Step β h w b e a):Below w.heap.size w a:=
 ⟨s.os,s.tape.1,s.output,s.size,λk f=>s.kept k f λ⟨k,B,g,c,d,_⟩=>by rw[i.ro k B c]at d;grind⟩
abbrev AO(b n:Nat)(t:TypeId):Slot:=⟨b,0,n,t,0,false⟩
theorem vM.fresh(i:vM β h w):β h.next=none:=i.pS.mW (Nat.le_refl _)
theorem vM.le(i:vM β h w)(a:Slot):β.le (β.ext h.next a):=dN.DO a i.fresh
theorem vM.push(i:vM β h w){cs:List Value}{t:TypeId}{c:Array Value}{o:Nat×Nat}{b:Nat}(l:w.heap[b]?=some (.cells c t o))(q:gB β cs 0 c):
  vM (β.ext h.next (AO b c.size t)) (h.push (.cells cs t 0 false)) w:=by
 have j:=i.le (AO b c.size t);have m:b<w.heap.size:=(Array.getElem?_eq_some_iff.1 l).1;have n:∀k B,(h.push (.cells cs t 0 false)).get k=some B->B.wr=false:=λk B a=>by
  rw[ae.bC]at a;split at a
  ·obtain rfl:=oI a;rfl
  ·exact i.ro k B a
 refine⟨⟨λk f a=>?_,λk B f d g=>?_,λk s B u f r _ d _ _ _ p=>?_,ae.oM i.pS.wf _⟩,n⟩
 ·by_cases e:k=h.next
  ·subst e;rw[dN.cN]at a;obtain rfl:=oI a;exact⟨by simp,m⟩
  ·rw[dN.eZ _ _ e]at a;have:=i.pS.lt k f a;exact⟨by simp;omega,this.2⟩
 ·rw[ae.bC]at d;split at d
  ·next e=>
   subst e;rw[dN.cN]at g;obtain rfl:=oI g;obtain rfl:=oI d;exact⟨rfl,rfl,⟨rfl,λ_=>rfl⟩,c,o,l,rfl,q.mono j,λp=>by cases p⟩
  ·next e=>
   rw[dN.eZ _ _ e]at g;exact(i.pS.blk k B f d g).mono j
 grind
theorem JV(r:HA P){q:FuncId->Option vN}{gl:Nat->Bool}(u:rT P gl q){f:FuncId}{l:Func}{b:List Value}{Q:Value->ae->Prop}(p:FW ⟨P,gl,q⟩ f b h Q)(x:f<YB)(m:P.funcs[f]?=some l)(s:l.body.isSome=true)
  {args':Array Value} (i:vM β h w) (C:Gl gl β) (A:bp β b args'.toList):
  Calls P f args' w λe g=>∃v d c a,e = .returned d/\Q v c/\aE a v d/\Step β h w a c g/\Below w.heap.size w g:=by
 obtain⟨v,c,⟨n,B⟩,z⟩:=p;obtain⟨D,j,k⟩:=(r.afn u n).fn f b h v c x (B n (Nat.le_refl _)) β w args' i.pS C A;rw[m]at j;obtain rfl:=oI j;rcases k with⟨_,k⟩|⟨d,g,a,y,_,_⟩
 ·refine k.mono ?_;rintro e g ⟨d,a,rfl,o,t⟩;exact⟨v,d,c,a,rfl,z,t,o,i.below o⟩
 ·rw[iU r.names m s]at y
  grind
def Bq(w:World)(v:Value)(f:Nat)(c:List (List Value)):Prop:=
 (∀r∈c,r.length=f)/\((v = .slice none 0 0/\c=[])\/(∃a,v = .slice (some a) 0 0/\c=[])\/
  ∃b e d cs t g,v = .slice (some ⟨b,e,none⟩) c.length d/\c.length<=d/\d<dv/\w.heap[b]?=some (.cells cs t g)/\e<=cs.size/\
   ∀(i:Nat)(r:List Value),c[i]?=some r->∀j,j<f->cs[e+(i*f+j)]?=r[j]?)
theorem vM.Wa(i:vM β h w){f:Nat}{e:TypeId}{l d:List (List Value)}{b a g:Nat}{cs:Array Value}{t:TypeId}{J:Nat×Nat}(C:∀r∈d,r.length=f)(G:l.length=d.length)
  (x:∀(k:Nat) r E,l[k]?=some r->d[k]?=some E->bp β r E) (P:d.length<=g) (O:g<dv) (F:w.heap[b]?=some (.cells cs t J)) (Q:a<=cs.size)
  (R:∀(i:Nat)(r:List Value),d[i]?=some r->∀j,j<f->cs[a+(i*f+j)]?=r[j]?):
  ∃s y,vM s y w/\β.le s/\Ok h y/\aE s (.slice (some ⟨h.next,a,none⟩) l.length g) (.slice (some ⟨b,a,none⟩) d.length g)/\Fi y e f (.slice (some ⟨h.next,a,none⟩) l.length g) l:=by
 have p:∀r∈l,r.length=f:=λr A=>by
  obtain⟨k,o,rfl⟩:=List.getElem_of_mem A;have I:d[k]?=some d[k]:=gE (by omega);rw[(x k _ _ (gE o) I).1]
  grind
 have u:gB β (List.replicate a iq++l.flatten) 0 cs:=λk v m=>by
  rw[Nat.zero_add];rw[List.getElem?_append]at m;split at m
  ·next o=>
   rw[length_replicate]at o;rw[getElem?_replicate,if_pos o]at m;obtain rfl:=oI m;exact⟨_,Array.getElem?_eq_getElem (by omega),.iq _⟩
  ·next o=>
   rw[length_replicate]at o m;have q:=(List.getElem?_eq_some_iff.1 m).1;rw[Dx p]at q;rcases eq_zero_or_pos f with z|z
   ·subst z;simp at q
   have H:k-a=(k-a)/f*f+(k-a)%f:=by rw[Nat.mul_comm];exact(Nat.div_add_mod _ _).symm
   have L:=mod_lt (k-a) z;have K:(k-a)/f<l.length:=div_lt_of_lt_mul (by rw[Nat.mul_comm];exact q);have D:l[(k-a)/f]?=some l[(k-a)/f]:=gE K;have B:d[(k-a)/f]?=some d[(k-a)/f]:=gE (by omega);rw[H,HN p D L]at m;have A:=x _ _ _ D B;have N:=C _ (List.mem_of_getElem? B);have M:d[(k-a)/f][(k-a)%f]?=some d[(k-a)/f][(k-a)%f]:=gE (by omega);refine⟨_,?_,A.2 _ _ _ m M⟩
   grind
 refine⟨_,_,i.push F u,i.le _,(Ok.refl i.wf).push _,?_,p,.inr ⟨h.next,a,_,t,0,g,false,rfl,ae.fL _ _,?_,λk r o=>?_⟩⟩
 ·have:=aE.slice (β:=β.ext h.next (AO b cs.size t)) (i:=a) (n:=l.length) (c:=g) (i':=a) (c':=g) (dN.cN _ _ _) rfl (λ_=>rfl) (λh=>by omega) (by unfold bL;split<;>omega) (.inl (by simp)) (.inl rfl)
  grind
 ·grind[Dx]
 ·rw[List.drop_append,length_replicate,drop_eq_nil_of_le (by simp),List.nil_append,Nat.add_sub_cancel_left]
  grind[Uh]
theorem vM.row(i:vM β h w){m:Nat}{e:TypeId}{o:Value}{rs f:List (List Value)}(r:Bq w o m f)(c:rs.length=f.length)(l:∀(k:Nat) r p,rs[k]?=some r->f[k]?=some p->bp β r p):
  ∃d g v,vM d g w/\β.le d/\Ok h g/\aE d v o/\Fi g e m v rs:=by
 obtain⟨n,⟨rfl,rfl⟩|⟨a,rfl,rfl⟩|⟨b,A,z,cs,t,C,rfl,u,s,q,x,y⟩⟩:=r
 ·obtain rfl:rs=[]:=eq_nil_of_length_eq_zero c;exact⟨β,h,_,i,β.le_refl,Ok.refl i.wf,.mg,⟨λ_ j=>absurd j (by simp),.inl ⟨.inl rfl,rfl⟩⟩⟩
 ·obtain rfl:rs=[]:=eq_nil_of_length_eq_zero c;exact⟨β,h,wz,i,β.le_refl,Ok.refl i.wf,.dead a,⟨λ_ j=>absurd j (by simp),.inl ⟨.inr rfl,rfl⟩⟩⟩
 ·obtain⟨d,g,E,G,F,D,B⟩:=i.Wa (e:=e) n c l u s q x y
  grind
theorem vM.Wb(i:vM β h w){q:Nat}{e:TypeId}{p:Value}{rs f:List (List Value)}(r:Bq w p q f)(c:rs.length=f.length)(o:∀(k:Nat) r x,rs[k]?=some r->f[k]?=some x->bp β r x)
  (C:∀a,p = .slice (some a) 0 0->a.spot=none/\∃cs t m,w.heap[a.block]?=some (.cells cs t m)):
  ∃d g v,vM d g w/\β.le d/\Ok h g/\aE d v p/\Fi g e q v rs/\v≠wz:=by
 obtain⟨s,⟨rfl,rfl⟩|⟨a,rfl,rfl⟩|⟨b,u,F,cs,t,m,rfl,A,y,j,B,E⟩⟩:=r
 ·obtain rfl:rs=[]:=eq_nil_of_length_eq_zero c;exact⟨β,h,_,i,β.le_refl,Ok.refl i.wf,.mg,⟨λ_ l=>absurd l (by simp),.inl ⟨.inl rfl,rfl⟩⟩,λe=>by cases e⟩
 ·obtain rfl:rs=[]:=eq_nil_of_length_eq_zero c;obtain⟨z,cs,t,m,j⟩:=C a rfl;obtain⟨b,u,n⟩:=a
  cases (show n=none from z)
  have D:=i.push (cs:=[]) j (λk v G=>by grind);refine⟨_,_,.slice (some ⟨h.next,0,none⟩) 0 0,D,i.le _,(Ok.refl i.wf).push _,?_,⟨λ_ l=>absurd l (by simp),.inr ⟨h.next,0,_,t,0,0,false,rfl,ae.fL _ _,by simp,λk r K=>by grind⟩⟩,λe=>by grind[wz]⟩;exact aE.slice (sl:=AO b cs.size t) (dN.cN _ _ _) rfl (λ_=>rfl) (λh=>by omega) (by omega) (.inr ⟨rfl,rfl⟩) (.inl rfl)
 ·obtain⟨d,g,J,M,L,I,H⟩:=i.Wa (e:=e) s c o A y j B E
  grind[wz]
section
variable {H:Type} {enc:TypeId×Value->H} {held:Bool}
theorem TR{a:Addr}(b:w.cell? a=some v):a.spot=none/\∃cs t c,w.heap[a.block]?=some (.cells cs t c)/\cs[a.off]?=some v:=by
 unfold World.cell? at b;split at b
 all_goals simp_all
theorem pick{a:Type}{p:Nat->a->Prop}:∀n,(∀i,i<n->∃q,p i q)->∃l:List a,l.length=n/\∀i q,l[i]?=some q->p i q
 |0,_=>⟨[],rfl,λi q b=>by grind⟩
 |n+1,c=>by
  obtain⟨l,d,f⟩:=pick n λi b=>c i (by omega);obtain⟨q,e⟩:=c n (by omega);refine⟨l++[q],by simp[d],λi x b=>?_⟩
  grind
theorem uQ{e:TypeId}{d:DataW H}{n:Nat}:∀{l:List (DataW H)},d∈l->n∈d.weights P e->n∈DataW.weightsAll P e l
 |[],h,_=>by cases h
 |x::l,h,a=>by
  rw[DataW.weightsAll,mem_append];rcases mem_cons.1 h with rfl|h
  ·grind
  ·exact .inr (uQ h a)
theorem AK{t:TypeId}(ht:P.underlying t=some (.slice T))(l:P.cellsOf T=n)(D:0<n){p:List Value->Prop}
  (hp:∀x0 cs y,DataW.trod enc P w 0 (λ_=>true) held x0 T cs=some y->(y.1.weights P T).all (· <=reachBytes)=true->p cs) {F:Nat} {cv:List Value} {x:DataW H×List MemPlace}
  (h:DataW.trod enc P w 0 (λ_=>true) held F t cv=some x) (Y:(x.1.weights P t).all (· <=reachBytes)=true):
  ∃v d,cv=[v]/\Bq w v n d/\(∀r∈d,p r)/\d.length*P.bytesOf T<=reachBytes:=by
 rcases DataW.trod_slice ht h with⟨rfl,rfl⟩|⟨a,e,f,c,x1,x0,_,rfl,rfl,hb,x3,X,x5,O,I,_⟩
 ·exact⟨_,[],rfl,⟨λ_ g=>absurd g (by simp),.inl ⟨rfl,rfl⟩⟩,λ_ g=>absurd g (by simp),by simp⟩
 obtain⟨x6,I⟩:=I rfl;simp only[DataW.weights,ht,all_cons,and_eq_true,decide_eq_true_eq,all_append,lM]at Y;obtain⟨x4,q,x2⟩:=Y;have L:f<dv:=by unfold maxLen at X;unfold dv;omega
 have N:∀i,i<e->∃r:List Value,(r.length=n/\p r)/\∀j,j<n->w.cell? (a.add (i*n+j))=r[j]?:=λi G=>by
  have U:=O i G;have W:c[i]?=some c[i]:=gE (by omega);rw[W,l,Option.bind_eq_some_iff]at U;obtain⟨r,A,h4⟩:=U;obtain⟨_,h5,J⟩:=World.cells?_some A;refine⟨r,⟨h5,hp x0 r _ h4 ?_⟩,λj K=>?_⟩
  ·rw[all_eq_true]at q⊢;exact λm g=>q m (uQ (List.mem_map.2 ⟨c[i],List.mem_of_getElem? W,rfl⟩) g)
  ·rw[<-J j K,Addr.add_add]
 obtain⟨d,Z,V⟩:=pick e N;have u:∀r∈d,r.length=n/\p r:=λr o=>by
  obtain⟨k,hk⟩:=List.mem_iff_getElem?.1 o;exact(V k r hk).1
 refine⟨_,d,rfl,⟨λr o=>(u r o).1,?_⟩,λr o=>(u r o).2,?_⟩
 ·rcases eq_zero_or_pos f with hz|hz
  ·obtain rfl:d=[]:=eq_nil_of_length_eq_zero (by omega);have:e=0:=by omega
   subst this;subst hz;exact .inr (.inl ⟨a,rfl,rfl⟩)
  ·have h0:∃v,w.cell? a=some v:=by
    have M:a.add (0*n)=a:=by rw[Nat.zero_mul];unfold Addr.add;split<;>simp_all
    have z:∀x,(w.cells? 0 (a.add (0*n)) n).bind (DataW.trod enc P w 0 (λ_=>true) held x0 T)=some x->∃v,w.cell? a=some v:=λx S=>by
     rw[Option.bind_eq_some_iff,M]at S;obtain⟨r,A,h4⟩:=S;obtain⟨_,h5,J⟩:=World.cells?_some A;have:=J 0 D;rw[show a.add 0=a by unfold Addr.add;split<;>simp_all,gE (by omega)]at this;exact⟨_,this⟩
    rcases eq_zero_or_pos e with B|B
    ·have:=I 0 (by omega);rw[B,l,gE (by omega)]at this;exact z _ this
    ·have:=O 0 B;rw[l,gE (by omega)]at this;exact z _ this
   obtain⟨v0,R⟩:=h0;obtain⟨hs,cs,tt,fr,s,C⟩:=TR R;obtain⟨b,Q,E⟩:=a
   cases (show E=none from hs)
   have ho:=(Array.getElem?_eq_some_iff.1 C).1;refine .inr (.inr ⟨b,Q,f,cs,tt,fr,by rw[Z],by omega,L,s,Nat.le_of_lt ho,λi r G j K=>?_⟩);have:=(V i r G).2 j K;rw[dG,oy s]at this;exact this
 grind
end
end
end Go.Ab
end
section
namespace Go.Ab
open Go Go.RowKit Go.WideShapes Go.ChangeShapes
variable{F:Func}{W:World}{V:Array Value}{v:Value}
section
section
variable {H:Type} {enc:TypeId×Value->H} {P:Program}
theorem UK{s:ChangeSpec}{f o g k:Bool}{e:World}{ds:List (DataW H)}{places:List MemPlace}
  (m:s.vars=[]) (y:DataW.Whole enc P F.params.toList s.vars f W V.toList ds [] places) (A:Below W.heap.size W e)
  (l:(s.fn H (ds++[])).args=ds) (z:(s.fn H (ds++[])).vars=[])
  (i:∀(b:Nat)(a:Nat->Bool)(E:Bool),DataW.TrodAll enc P e b a E F.resultTypes.toList (v.resultList F.resultTypes.size) (s.fn H (ds++[])).results [])
  (B:∀(j:Nat)(t:TypeId)(r:Value),F.resultTypes[j]?=some t->(v.resultList F.resultTypes.size)[j]?=some r->Value.okWide P e .any 0 t r)
  (q:∀a:Nat->Bool,(∀p∈places,a p.block=true)->DataW.TrodAll enc P e 0 a true F.params.toList V.toList ds places):s.post enc P F f o g k W V v e:=by
 have u:∀p∈places,p.block<W.heap.size:=λp c=>y.lt p c;have n:∀p∈places,(λb=>decide (b<W.heap.size)) p.block=true:=λp c=>decide_eq_true (u p c);have x:∀a:Nat->Bool,DataW.TrodVars enc P e a s.vars (s.fn H (ds++[])).vars []:=λa=>by
  rw[m,z];rfl
 have C:=World.keptBut_mono (may':=λp=>p∈places/\(p∈([]:List MemPlace)\/p∈places\/p∈([]:List MemPlace))) (λp c=>⟨c,.inr (.inl c)⟩) (A.frame (· ∈places));obtain⟨_,_,_,_,_,D,G⟩:=id y;have d:∀a:Nat->Bool,(∀p∈places,a p.block=true)->DataW.TrodAll enc P e 0 a true F.params.toList V.toList (s.fn H (ds++[])).args places:=λa h=>by rw[l];exact q a h
 refine⟨ds,[],places,[],places,[],y,i _ _ _,d _ n,x _,C,λ_=>⟨B,_,_,([]++places)++[],⟨[]++places,[],trodAll_append (d _ λ_ _=>rfl) (i _ _ _),x _,rfl,?_,?_⟩,?_⟩⟩
 ·intro b w c;have c:MemPlace.cell b w∈places:=by simpa using c
  rw[A.frozen (u _ c)];exact D b w c
 all_goals grind
end
end
end Go.Ab
end
section
namespace Go.Num
variable{n:Nat}{m:Nat}{k:Nat}{s:List UInt8}
def bV(c:UInt8):Bool:=decide (48<=c.toNat)&&decide (c.toNat<=57)
def jB(c:UInt8):Nat:=c.toNat-48
def val(l:List UInt8):Nat:=l.foldl (λn c=>10*n+jB c) 0
def fj(n:Nat):UInt8:=UInt8.ofNat (48+n)
theorem ke:val []=0:=rfl
theorem iG(l:List UInt8)(c:UInt8):val (l++[c])=10*val l+jB c:=by simp[val,List.foldl_append]
theorem jD(h:n<10):(fj n).toNat=48+n:=by grind[UInt8.toNat_ofNat',fj]
theorem CU(h:n<10):jB (fj n)=n:=by grind[jD,jB]
theorem tJ(h:n<10):bV (fj n)=true:=by grind[jD,bV]
theorem lN{c:UInt8}:bV c=true↔48<=c.toNat/\c.toNat<=57:=by simp[bV]
theorem rJ{c:UInt8}(h:bV c=true):jB c<10:=by grind[lN,jB]
theorem xW{c:UInt8}(h:bV c=true):fj (jB c)=c:=by grind[lN,UInt8.toNat_inj,jD,jB]
theorem lO{α:Type}{P:List α->Prop}(h0:P [])(h1:∀l a,P l->P (l++[a]))(l:List α):P l:=by
 have:∀n (l:List α),l.length=n->P l:=by
  intro n
  induction n with
  |zero=>intro l hl;rw[eq_nil_of_length_eq_zero hl];exact h0
  |succ n ih=>
   intro l hl;have hne:l≠[]:=by intro e;subst e;simp at hl
   rw[<-List.dropLast_concat_getLast hne];exact h1 _ _ (ih _ (by simp[hl]))
 grind
theorem kd(a b:List UInt8):val (a++b)=val a*10^b.length+val b:=by
 induction b using lO with
 |h0=>simp[ke]
 |h1 b c d=>grind[Nat.mul_assoc,Nat.mul_comm,val]
theorem yh{l:List UInt8}(h:l.all bV=true):val l<10^l.length:=by
 induction l using lO with
 |h0=>simp[ke]
 |h1 l c a=>
  simp only[all_append,all_cons,all_nil,Bool.and_true,and_eq_true]at h
  grind[rJ,iG]
def ag(n:Nat):List UInt8:=if n<10 then[fj n]else ag (n/10)++[fj (n%10)]
termination_by n
decreasing_by omega
theorem dK(h:n<10):ag n=[fj n]:=by rw[ag,if_pos h]
theorem iE(h:10<=n):ag n=ag (n/10)++[fj (n%10)]:=by rw[ag,if_neg (by omega)]
theorem rR(a:0<n)(b:m<10):ag (10*n+m)=ag n++[fj m]:=by grind[iE]
theorem bD(n:Nat):val (ag n)=n:=by
 induction n using Nat.strongRecOn with
 |ind n a=>grind[dK,iG,CU,ke,iE]
theorem tP(h:ag n=ag m):n=m:=by grind[bD]
theorem rQ(n:Nat):ag n≠[]:=by
 by_cases h:n<10
 ·grind[dK]
 ·rw[iE (by omega)];simp
theorem nY(n:Nat):0<(ag n).length:=length_pos_iff.2 (rQ n)
theorem de(n:Nat):(ag n).all bV=true:=by
 induction n using Nat.strongRecOn with
 |ind n a=>grind[dK,tJ,iE]
theorem pe(n:Nat):n<10^(ag n).length:=by grind[yh,de,bD]
theorem C5(h:10<=n):10^((ag n).length-1)<=n:=by
 induction n using Nat.strongRecOn with
 | ind n a=>
  rw[iE h,length_append,List.length_singleton];by_cases c:n/10<10
  ·grind[dK]
  ·have d:=a (n/10) (by omega) (by omega);have b:=nY (n/10);obtain⟨k,e⟩:∃k,(ag (n/10)).length=k+1:=⟨(ag (n/10)).length-1,by omega⟩
   grind
theorem dh(e:0<k):(ag n).length<=k↔n<10^k:=by
 constructor
 ·grind[lt_of_lt_of_le,pe,pow_le_pow_right]
 ·intro h;by_cases b:n<10
  ·grind[dK]
  ·have d:=C5 (n:=n) (by omega);rcases lt_or_ge k (ag n).length with a|a
   ·have c:10^k<=10^((ag n).length-1):=pow_le_pow_right (by omega) (by omega);omega
   omega
def Cj(l:List UInt8):Prop:=l≠[]/\l.all bV=true/\(1<l.length->l.head?≠some 48)
theorem PE(a:s.all bV=true)(h0:s≠[])(h:s.head?≠some 48):0<val s:=by
 induction s using lO with
 |h0=>grind
 | h1 s c d=>
  simp only[all_append,all_cons,all_nil,Bool.and_true,and_eq_true]at a;rw[iG];by_cases b:s=[]
  ·subst b;have f:c≠48:=by intro e;subst e;simp at h
   have i:=lN.1 a.2;have g:c.toNat≠48:=λe=>f (by apply UInt8.toNat_inj.1;rw[e];rfl)
   grind[jB]
  ·have:=d a.1 b (by grind);omega
theorem tQ(h:Cj s):ag (val s)=s:=by
 induction s using lO with
 |h0=>exact absurd rfl h.1
 | h1 s c f=>
  obtain⟨_,b,g⟩:=h;simp only[all_append,all_cons,all_nil,Bool.and_true,and_eq_true]at b;rw[iG];by_cases d:s=[]
  ·grind[ke,dK,rJ,xW]
  ·have e:s.head?≠some 48:=by
    have:=g (by grind[length_pos_iff])
    cases s with
    |nil=>grind
    |cons a s=>grind
   have i:=PE b.1 d e;rw[rR i (rJ b.2),f ⟨d,b.1,λ_=>e⟩,xW b.2]
theorem we(n:Nat):Cj (ag n):=by
 refine⟨rQ n,de n,?_⟩
 induction n using Nat.strongRecOn with
 | ind n d=>
  intro c;by_cases h:n<10
  ·grind[dK]
  ·rw[iE (by omega)];by_cases a:n/10<10
   ·rw[dK a];simp only[cons_append,List.head?_cons,ne_eq,Option.some.injEq];intro e;have:=congrArg UInt8.toNat e;rw[jD a]at this;have b:(48:UInt8).toNat=48:=rfl;omega
   grind[ag]
def valid(l:List UInt8):Bool:= !l.isEmpty&&decide (l.length<=1000) && !(decide (1<l.length)&&l.head? == some 48)&&l.all bV
theorem gG:valid s=true↔Cj s/\s.length<=1000:=by
 unfold valid Cj
 grind
theorem ey:valid (ag n)=true↔n<10^1000:=by grind[gG,dh,we]
theorem cG(h:valid s=true):∃n,s=ag n/\n<10^1000/\val s=n:=by grind[gG,tQ,ey]
def bv(b:Nat):List Nat->Nat
 |[]=>0
 |d::l=>d+b*bv b l
theorem gF(b:Nat):∀x y:List Nat,bv b (x++y)=bv b x+b^x.length*bv b y
 |[],y=>by simp[bv]
 |d::x,y=>by
  simp only[cons_append,bv,gF b x y,length_cons,pow_succ]
  grind
theorem qS(b:Nat)(x:List Nat)(d:Nat):bv b (x++[d])=bv b x+b^x.length*d:=by grind[gF,bv]
theorem fC{b:Nat}:∀{x:List Nat},(∀d∈x,d<b)->bv b x<b^x.length
 |[],_=>by simp[bv]
 | d::x,h=>by
  have a:=fC (b:=b) (x:=x) λe c=>h e (by simp[c]);have f:=h d (by simp);simp only[bv,length_cons,pow_succ];have:b*bv b x+b<=b*b^x.length:=by
   have:=mul_le_mul_left b (succ_le_of_lt a);rw[mul_succ]at this;exact this
  grind
def aY(b n:Nat):List Nat:=if h:1<b/\0<n then n%b::aY b (n/b)else[]
termination_by n
decreasing_by exact div_lt_self h.2 h.1
theorem fY(b:Nat):aY b 0=[]:=by simp_all[aY]
theorem mM{b:Nat}(a:1<b)(c:0<n):aY b n=n%b::aY b (n/b):=by rw[aY,dif_pos ⟨a,c⟩]
theorem cw{b:Nat}(a:1<b)(n:Nat):bv b (aY b n)=n:=by
 induction n using Nat.strongRecOn with
 |ind n c=>
  rcases eq_zero_or_pos n with rfl|hn
  all_goals grind[fY,mM,div_lt_self,mod_add_div,bv]
theorem dx{b:Nat}(a:1<b)(n:Nat):∀d∈aY b n,d<b:=by
 induction n using Nat.strongRecOn with
 |ind n c=>grind[eq_zero_or_pos,fY,mM,mod_lt,div_lt_self]
def L4(b:Nat)(l:List Nat):Prop:=(∀d∈l,d<b)/\l.getLast?≠some 0
theorem Mj{b:Nat}(a:1<b)(n:Nat):L4 b (aY b n):=by
 refine⟨dx a n,?_⟩
 induction n using Nat.strongRecOn with
 | ind n d=>
  rcases eq_zero_or_pos n with rfl|hn
  ·grind[fY]
  ·rw[mM a hn];by_cases c:n/b=0
   ·rw[c,fY];have:n<b:=by
     rcases lt_or_ge n b with h|h
     ·exact h
     ·have:=Nat.div_pos h (by omega);omega
    simp[mod_eq_of_lt this];omega
   grind[div_lt_self,mM]
theorem Jw{b:Nat}(g:1<b):∀{l:List Nat},L4 b l->aY b (bv b l)=l
 |[],_=>fY b
 | d::l,h=>by
  have j:d<b:=h.1 d (by simp);have m:0<bv b (d::l):=by
   have i:∀l:List Nat,l≠[]->l.getLast?≠some 0->0<bv b l:=by
    intro l
    induction l with
    |nil=>grind
    |cons a l k=>
     intro _ n;by_cases f:l=[]
     ·grind[bv]
     ·have:0<bv b l:=k f (by grind);simp only[bv];have:=Nat.mul_pos (show 0<b by omega) this;omega
   exact i _ (by simp) h.2
  have f:L4 b l:=⟨λe o=>h.1 e (by grind),by
   intro e
   cases l with
   |nil=>grind
   |cons c l=>exact h.2 (by grind)⟩
  rw[mM g m];simp only[bv];rw[show(d+b*bv b l)%b=d by rw[Nat.add_mul_mod_self_left,mod_eq_of_lt j],show(d+b*bv b l)/b=bv b l by rw[Nat.add_mul_div_left _ _ (by omega),div_eq_of_lt j,Nat.zero_add],Jw g f]
def dY(l:List Nat):List Nat:=(l.reverse.dropWhile (· == 0)).reverse
theorem Jy:dY []=[]:=rfl
theorem jl(l:List Nat):dY (l++[0])=dY l:=by simp[dY]
theorem ka(l:List Nat){d:Nat}(h:d≠0):dY (l++[d])=l++[d]:=by simp[dY,h]
theorem lz{b:Nat}(c:1<b){l:List Nat}(h:∀d∈l,d<b):dY l=aY b (bv b l):=by
 induction l using lO with
 |h0=>rw[Jy];exact(fY b).symm
 | h1 l d e=>
  by_cases a:d=0
  ·subst a
   grind[jl,qS]
  ·rw[ka l a,Jw c];exact⟨h,by grind⟩
theorem iD{b:Nat}(a:1<b):aY b n=[]↔n=0:=by
 constructor
 ·intro h;have:=cw a n;rw[h]at this;exact this.symm
 simp_all[fY]
theorem l6{b:Nat}(a:1<b){n k:Nat}(h:n<b^k):(aY b n).length<=k:=by
 induction k generalizing n with
 |zero=>rw[Nat.pow_zero]at h;grind[fY]
 |succ k c=>grind[mM,div_lt_of_lt_mul]
theorem th{b:Nat}(c:1<b){n:Nat}(d:0<n):b^((aY b n).length-1)<=n:=by
 induction n using Nat.strongRecOn with
 | ind n f=>
  rw[mM c d,length_cons,Nat.add_sub_cancel];by_cases e:n/b=0
  ·rw[e,fY];simp;omega
  ·have a:=f (n/b) (div_lt_self d c) (Nat.pos_of_ne_zero e);have i:0<(aY b (n/b)).length:=length_pos_iff.2 (by simp_all[iD]);obtain⟨k,g⟩:∃k,(aY b (n/b)).length=k+1:=⟨(aY b (n/b)).length-1,by omega⟩
   rw[g]at a⊢;rw[Nat.add_sub_cancel]at a;rw[pow_succ];have h:=mul_le_mul_right b a;have j:=Nat.div_mul_le_self n b;omega
variable{x:List Nat}{i:Nat}{j:Nat}{l:Nat}
theorem gz(b:Nat)(x:List Nat)(i:Nat):bv b (x.drop i)=x.getD i 0+b*bv b (x.drop (i+1)):=by grind[drop_eq_getElem_cons,drop_eq_nil_of_le,bv]
theorem ba{b:Nat}(c:0<b)(h:∀d∈x,d<b)(i:Nat):x.getD i 0<b:=by
 rw[gD]
 cases a:x[i]? with
 |none=>grind
 |some d=>exact h d (List.mem_of_getElem? a)
def bm(F:Nat->Nat->Nat->Nat×Nat)(x y:List Nat):Nat->Nat->Nat->List Nat
 |_,0,_=>[]
 |i,k+1,c=>(F (x.getD i 0) (y.getD i 0) c).1::bm F x y (i+1) k (F (x.getD i 0) (y.getD i 0) c).2
theorem jC{b:Nat}{F:Nat->Nat->Nat->Nat×Nat}(h:∀p q c,(F p q c).1<b)(x y:List Nat):∀k i c,∀d∈bm F x y i k c,d<b
 |0,_,_=>by simp[bm]
 |k+1,i,c=>by
  intro d a;rcases mem_cons.1 a with rfl|a
  ·grind
  ·exact jC h x y k _ _ d a
def aQ(b:Nat)(p q c:Nat):Nat×Nat:=((p+q+c)%b,(p+q+c)/b)
theorem zT{b:Nat}(l:1<b){x y:List Nat}(e:∀d∈x,d<b)(g:∀d∈y,d<b):∀k i c,x.length<i+k->y.length<i+k->c<=1->0<k->
  bv b (bm (aQ b) x y i k c)=bv b (x.drop i)+bv b (y.drop i)+c:=by
 intro k
 induction k with
 |zero=>omega
 | succ k o=>
  intro i c n p s _;have q:=ba (by omega) e i;have j:=ba (by omega) g i;rw[gz b x i,gz b y i];simp only[bm,bv];have m:=mod_add_div (x.getD i 0+y.getD i 0+c) b;have h:(aQ b (x.getD i 0) (y.getD i 0) c).2<=1:=by
   show(x.getD i 0+y.getD i 0+c)/b<=1;have:(x.getD i 0+y.getD i 0+c)/b<2:=div_lt_of_lt_mul (by omega);omega
  rcases eq_zero_or_pos k with rfl|r
  ·rw[drop_eq_nil_of_le (show x.length<=i+1 by omega),drop_eq_nil_of_le (show y.length<=i+1 by omega)];have a:x.getD i 0=0:=by rw[gD,getElem?_eq_none (by omega)];rfl
   have f:y.getD i 0=0:=by rw[gD,getElem?_eq_none (by omega)];rfl
   simp only[bm,bv,aQ,a,f,Nat.zero_add,Nat.mul_zero,Nat.add_zero];exact mod_eq_of_lt (by omega)
  grind[aQ]
def dc(b m:Nat)(p a c:Nat):Nat×Nat:=((p*m+c)%b,(p*m+c)/b)
theorem Me{b:Nat}(l:1<b)(m:n<=b)(g:0<n){x y:List Nat}(e:∀d∈x,d<b):∀k i c,x.length<i+k->c<n->0<k->
  bv b (bm (dc b n) x y i k c)=bv b (x.drop i)*n+c:=by
 intro k
 induction k with
 |zero=>omega
 | succ k p=>
  intro i c o r _;have f:=ba (by omega) e i;rw[gz b x i];simp only[bm,bv];have h:=mod_add_div (x.getD i 0*n+c) b;have j:(dc b n (x.getD i 0) (y.getD i 0) c).2<n:=by
   show(x.getD i 0*n+c)/b<n;refine div_lt_of_lt_mul ?_;have:x.getD i 0*n+n<=b*n:=by
    have:=mul_le_mul_right n (succ_le_of_lt f);rw[succ_mul]at this;exact this
   omega
  rcases eq_zero_or_pos k with rfl|q
  ·rw[drop_eq_nil_of_le (show x.length<=i+1 by omega)];have a:x.getD i 0=0:=by rw[gD,getElem?_eq_none (by omega)];rfl
   simp only[bm,bv,dc,a,Nat.zero_mul,Nat.zero_add,Nat.mul_zero,Nat.add_zero];exact mod_eq_of_lt (by omega)
  grind[dc]
def bY(b:Nat)(p q c:Nat):Nat×Nat:=((p+b-q-c)%b,1-(p+b-q-c)/b)
theorem ow{b p q c:Nat}(a:1<b)(f:p<b)(d:q<b)(g:c<=1):p+b*(bY b p q c).2=(bY b p q c).1+q+c/\(bY b p q c).2<=1:=by
 unfold bY;dsimp only;rcases lt_or_ge (p+b-q-c) b with h|h
 ·grind[div_eq_of_lt,mod_eq_of_lt]
 ·have e:(p+b-q-c)/b=1:=by
   refine Nat.le_antisymm ?_ ((Nat.le_div_iff_mul_le (by omega)).2 (by omega));have:(p+b-q-c)/b<2:=div_lt_of_lt_mul (by omega);omega
  grind[mod_add_div]
theorem CY{b:Nat}(e:1<b){x y:List Nat}(j:∀d∈x,d<b)(n:∀d∈y,d<b):∀k i c,x.length<=i+k->y.length<=i+k->c<=1->bv b (y.drop i)+c<=bv b (x.drop i)->
  bv b (bm (bY b) x y i k c)+bv b (y.drop i)+c=bv b (x.drop i):=by
 intro k
 induction k with
 |zero=>grind[drop_eq_nil_of_le,bv,bm]
 | succ k r=>
  intro i c q s m h;have l:=ba (by omega) j i;have a:=ba (by omega) n i;obtain⟨u,t⟩:=ow e l a m;rw[gz b x i,gz b y i]at h⊢;simp only[bm,bv];have o:(bY b (x.getD i 0) (y.getD i 0) c).1<b:=mod_lt _ (by omega);have p:bv b (y.drop (i+1))+(bY b (x.getD i 0) (y.getD i 0) c).2<=bv b (x.drop (i+1)):=by
   rcases lt_or_ge (bv b (x.drop (i+1))) (bv b (y.drop (i+1))+(bY b (x.getD i 0) (y.getD i 0) c).2)with g|g
   ·have f:=mul_le_mul_left b (succ_le_of_lt g);rw[mul_succ,Nat.mul_add]at f;omega
   ·exact g
  grind
theorem Jx{q a U V b c:Nat}(t:U=(a*n+l)*n^m+b)(p:b<n^m)(d:V=(k*n+i)*n^m+c)(o:q*k+j=a)(h:j*n+l<q*i):U<q*V:=by
 have f:a*n+l+1<=q*(k*n+i):=by
  have e:q*(k*n+i)=q*k*n+q*i:=by rw[Nat.mul_add,Nat.mul_assoc]
  have s:a*n=q*k*n+j*n:=by rw[<-o,Nat.add_mul]
  omega
 have g:=mul_le_mul_right (n^m) f;rw[Nat.add_mul,Nat.one_mul]at g;have r:q*V=q*(k*n+i)*n^m+q*c:=by rw[d,Nat.mul_add,Nat.mul_assoc]
 omega
theorem Hx{q a U V f b:Nat}(y:U=(a*n+l)*n^m+f)(g:V=(k*n+i)*n^m+b)(c:b<n^m)(r:q*k+j=a)(p:q<n)(d:0<k)(h:q*i<=j*n+l):q*V<U+V:=by
 have o:q*(k*n+i)<=a*n+l:=by
  have e:q*(k*n+i)=q*k*n+q*i:=by rw[Nat.mul_add,Nat.mul_assoc]
  have v:a*n=q*k*n+j*n:=by rw[<-r,Nat.add_mul]
  omega
 have t:=mul_le_mul_right (n^m) o;have s:q*V=q*(k*n+i)*n^m+q*b:=by rw[g,Nat.mul_add,Nat.mul_assoc]
 have u:q*b<=q*n^m:=mul_le_mul_left q (Nat.le_of_lt c);have x:q*n^m+n^m<=n*n^m:=by
  have:=mul_le_mul_right (n^m) (succ_le_of_lt p);rw[succ_mul]at this;exact this
 have w:n*n^m<=k*n*n^m:=by
  have:=mul_le_mul_right (n*n^m) (succ_le_of_lt d);rw[Nat.succ_eq_add_one,Nat.zero_add,Nat.one_mul,<-Nat.mul_assoc]at this;exact this
 grind
def kD(B q u v b a:Nat):Nat×Nat×Nat:=((u+B-(q*v+a)%B-b)%B,1-(u+B-(q*v+a)%B-b)/B,(q*v+a)/B)
theorem Mh{B q u v borrow carry:Nat}(d:1<B)(e:u<B)(a:borrow<=1):
  u+B*((kD B q u v borrow carry).2.1+(kD B q u v borrow carry).2.2)=(kD B q u v borrow carry).1+q*v+(borrow+carry)/\(kD B q u v borrow carry).2.1<=1/\(kD B q u v borrow carry).1<B:=by
 have f:=mod_lt (q*v+carry) (show 0<B by omega);have g:=mod_add_div (q*v+carry) B;have h:=ow (b:=B) (p:=u) (q:=(q*v+carry)%B) (c:=borrow) d e f a;unfold bY at h;dsimp only at h;unfold kD;dsimp only;refine⟨?_,h.2,mod_lt _ (by omega)⟩
 grind
variable{y:List Nat}
def eO(m n:Nat):Int:=if m<n then -1 else if m=n then 0 else 1
theorem lK(h:n<m):eO n m = -1:=if_pos h
theorem lJ(h:m<n):eO n m=1:=by unfold eO;omega
theorem qT(m:Nat):eO m m=0:=by simp_all[eO]
theorem wP:eO n m<0↔n<m:=by grind[eO]
theorem FX:eO n m>=0↔m<=n:=by grind[eO]
theorem l8(h:(ag n).length<(ag m).length):n<m:=by grind[lt_or_ge,dh,pe]
theorem pg{a b:List UInt8}(y:b.all bV=true)(f:a.all bV=true)(k:a.length=b.length){i:Nat}{c d:UInt8}(n:a.take i=b.take i)(w:a[i]?=some c)(u:b[i]?=some d)(o:c<d):val a<val b:=by
 obtain⟨e,rfl⟩:=List.getElem?_eq_some_iff.1 w;obtain⟨l,rfl⟩:=List.getElem?_eq_some_iff.1 u;have z:a=a.take i++(a[i]::a.drop (i+1)):=by rw[<-drop_eq_getElem_cons e,take_append_drop]
 have B:b=a.take i++(b[i]::b.drop (i+1)):=by rw[n,<-drop_eq_getElem_cons l,take_append_drop]
 have v:val a=val (a.take i)*10^(a.drop i).length+val (a.drop i):=by rw[<-kd,take_append_drop]
 have r:val b=val (a.take i)*10^(b.drop i).length+val (b.drop i):=by rw[n,<-kd,take_append_drop]
 have q:val (a.drop i)=jB a[i]*10^(a.drop (i+1)).length+val (a.drop (i+1)):=by
  rw[drop_eq_getElem_cons e,<-List.singleton_append,kd];simp[val]
 have s:val (b.drop i)=jB b[i]*10^(b.drop (i+1)).length+val (b.drop (i+1)):=by
  rw[drop_eq_getElem_cons l,<-List.singleton_append,kd];simp[val]
 have j:(a.drop (i+1)).all bV=true:=by
  rw[all_eq_true]at f⊢;exact λx t=>f x (List.mem_of_mem_drop t)
 have h:=yh j;have g:jB a[i]+1<=jB b[i]:=by
  have C:=lN.1 (all_eq_true.1 f _ (List.getElem_mem e));have A:=UInt8.lt_iff_toNat_lt.1 o;unfold jB;omega
 have p:(a.drop i).length=(b.drop i).length:=by simp[k]
 have m:(a.drop (i+1)).length=(b.drop (i+1)).length:=by simp[k]
 rw[v,r,q,s,p,<-m];rw[m]at h⊢;have D:=mul_le_mul_right (10^(b.drop (i+1)).length) g
 grind
def fD(l:List UInt8):List Nat:=l.reverse.map jB
theorem lq(l:List UInt8):(fD l).length=l.length:=by simp[fD]
theorem mI(h:s.all bV=true):∀d∈fD s,d<10:=by simp_all[rJ,fD]
theorem gx(l:List UInt8):bv 10 (fD l)=val l:=by
 induction l using lO with
 |h0=>rfl
 |h1 l c a=>grind[iG,fD,bv]
def tR(l:List Nat):List UInt8:=l.reverse.map fj
theorem F6(l:List Nat):(tR l).length=l.length:=by simp[tR]
theorem PF(h:∀d∈x,d<10):val (tR x)=bv 10 x:=by
 induction x with
 |nil=>rfl
 |cons d x a=>grind[iG,CU,tR,bv]
theorem PC(h:∀d∈x,d<10):(tR x).all bV=true:=by simp_all[tJ,tR]
theorem PD(h:∀d∈x,d<10)(f:x≠[])(g:1<x.length->x.getLast?≠some 0):tR x=ag (bv 10 x):=by
 rw[<-PF h];refine(tQ ⟨λe=>f ?_,PC h,λa=>?_⟩).symm
 ·have:=congrArg List.length e
  grind[F6]
 ·rw[F6]at a;have b:=g a;rw[tR,List.head?_map,List.head?_reverse]
  cases c:x.getLast? with
  |none=>simp
  |some d=>
   rw[c]at b;have i:=h d (List.mem_of_getLast? c);simp only[map_some,ne_eq,Option.some.injEq]at b⊢;intro e;have:=congrArg UInt8.toNat e
   grind[jD]
theorem CN{l:List Nat}(h:∀i,n<=i->l.getD i 0=0):bv 10 (l.take n)=bv 10 l:=by
 induction n generalizing l with
 | zero=>
  have:∀l:List Nat,(∀i,0<=i->l.getD i 0=0)->bv 10 l=0:=by
   intro l
   induction l with
   |nil=>intro _;rfl
   |cons a l b=>
    intro h;have c:=h 0 (by omega);rw[bv,b (λi _=>by have:=h (i+1) (by omega);simpa using this)];simpa using c
  grind
 | succ n b=>
  cases l with
  |nil=>rfl
  |cons a l=>
   simp only[List.take_succ_cons,bv];rw[b (λi d=>by have:=h (i+1) (by omega);grind)]
def fx(p q c:Nat):Nat×Nat:=if p<q+c then(p+10-q-c,1)else(p-q-c,0)
theorem Ma{p q c:Nat}(b:p<10)(a:q<10)(d:c<=1):fx p q c=bY 10 p q c:=by grind[fx,bY]
theorem rK{x y:List Nat}(a:∀d∈x,d<10)(b:∀d∈y,d<10):∀k i c,c<=1->bm fx x y i k c=bm (bY 10) x y i k c
 |0,_,_,_=>rfl
 |k+1,i,c,e=>by
  have f:=Ma (ba (by omega) a i) (ba (by omega) b i) e;simp only[bm];rw[f,rK a b k (i+1) _ (ow (by omega) (ba (by omega) a i) (ba (by omega) b i) e).2]
theorem FY(a:∀d∈x,d<10)(c:∀d∈y,d<10)(e:y.length<=x.length)(h:bv 10 y<=bv 10 x):bv 10 (bm fx x y 0 x.length 0)=bv 10 x-bv 10 y:=by
 rw[rK a c _ _ _ (by omega)];have:=CY (b:=10) (by omega) a c x.length 0 0 (by omega) (by omega) (by omega) (by simpa using h)
 grind
theorem fk(F:Nat->Nat->Nat->Nat×Nat)(x y:List Nat):∀k i c,(bm F x y i k c).length=k
 |0,_,_=>rfl
 |k+1,i,c=>by simp[bm,fk F x y k]
theorem FZ(a:∀d∈x,d<10)(e:∀d∈y,d<10)(k i c:Nat)(b:c<=1):∀d∈bm fx x y i k c,d<10:=by
 rw[rK a e _ _ _ b];exact jC (λp q c=>mod_lt _ (by omega)) x y k i c
theorem ox:ag 0=[48]:=by rw[dK (by omega)];rfl
theorem Bo:ag 1=[49]:=by rw[dK (by omega)];rfl
theorem bR:ag n=[48]↔n=0:=by grind[ox,tP]
theorem eB:ag n=[49]↔n=1:=by grind[Bo,tP]
theorem Hw{r:Nat}{c:UInt8}(a:bV c=true):(if ag r=[48]then[c]else ag r++[c])=ag (10*r+jB c):=by
 have b:=rJ a;by_cases h:r=0
 ·subst h;rw[if_pos ox,Nat.mul_zero,Nat.zero_add,dK b,xW a]
 ·rw[if_neg (λe=>h (bR.1 e)),rR (by omega) b,xW a]
theorem tj{c:UInt8}(h:s[i]?=some c):val (s.take (i+1))=10*val (s.take i)+jB c:=by grind[List.take_succ_eq_append_getElem,iG]
theorem Jk{V d:Nat}(b:0<n)(g:k*n<=10*(V%n)+d)(c:10*(V%n)+d<(k+1)*n):(10*V+d)/n=10*(V/n)+k/\(10*V+d)%n=10*(V%n)+d-k*n:=by
 have e:=mod_add_div V n;have f:10*V+d=n*(10*(V/n)+k)+(10*(V%n)+d-k*n):=by
  have h:n*(10*(V/n)+k)=10*(n*(V/n))+k*n:=by rw[Nat.mul_add,Nat.mul_left_comm,Nat.mul_comm n k]
  omega
 have a:10*(V%n)+d-k*n<n:=by rw[Nat.add_mul,Nat.one_mul]at c;omega
 rw[f];constructor
 ·rw[Nat.mul_add_div b,div_eq_of_lt a];rfl
 ·rw[Nat.mul_add_mod,mod_eq_of_lt a]
theorem Jj(a:0<m)(c:i<10)(b:k*m<=10*(n%m)+i):k<10:=by
 have:=mod_lt n a;rcases lt_or_ge k 10 with h|h
 ·exact h
 ·have:=mul_le_mul_right m h;omega
theorem JA(h:∀c∈s,c=48):val s=0:=by
 induction s using lO with
 |h0=>rfl
 |h1 s c a=>
  rw[iG,a (λx b=>h x (by grind)),h c (by simp)];rfl
theorem Jv(m:s.all bV=true)(l:k<s.length)(d:∀i,i<k->s[i]?=some 48)(j:k+1<s.length->s[k]?≠some 48):s.drop k=ag (val s):=by
 have b:val s=val (s.drop k):=by
  have:=kd (s.take k) (s.drop k);rw[take_append_drop]at this;rw[this,JA (λc f=>by
   obtain⟨i,a⟩:=List.getElem?_of_mem f;rw[getElem?_take]at a;split at a
   ·next h=>rw[d i h]at a;exact(oI a).symm
   ·cases a),Nat.zero_mul,Nat.zero_add]
 rw[b];refine(tQ ⟨λe=>?_,?_,λg=>?_⟩).symm
 ·have:=congrArg List.length e;simp at this;omega
 all_goals grind[List.head?_drop]
theorem L8(m n:Nat):Nat.gcd m n=Nat.gcd n (m%n):=by grind[Nat.gcd_comm,Nat.gcd_rec]
def bZ(B q:Nat)(u v:List Nat):Nat->Nat->Nat->Nat->List Nat×Nat×Nat
 |_,0,b,c=>([],b,c)
 |i,k+1,b,c=>
  let s:=kD B q (u.getD i 0) (v.getD i 0) b c
  let r:=bZ B q u v (i+1) k s.2.1 s.2.2
  (s.1::r.1,r.2)
theorem rN(B q:Nat)(u v:List Nat):∀k i b c,(bZ B q u v i k b c).1.length=k
 |0,_,_,_=>rfl
 |k+1,i,b,c=>by simp[bZ,rN B q u v k]
theorem uX{B q:Nat}(e:1<B)(u v:List Nat):∀k i b c,∀d∈(bZ B q u v i k b c).1,d<B
 |0,_,_,_=>by simp[bZ]
 |k+1,i,b,c=>by
  intro d a;simp only[bZ]at a;rcases mem_cons.1 a with rfl|a
  ·exact mod_lt _ (by omega)
  ·exact uX e u v k _ _ _ d a
theorem tC(b:Nat)(x:List Nat)(i k:Nat):bv b ((x.drop i).take (k+1))=x.getD i 0+b*bv b ((x.drop (i+1)).take k):=by grind[drop_eq_getElem_cons,drop_eq_nil_of_le,bv]
theorem zY{B q:Nat}(e:1<B){u v:List Nat}(f:∀d∈u,d<B):∀k i b c,b<=1->
  bv B ((u.drop i).take k)+B^k*((bZ B q u v i k b c).2.1+(bZ B q u v i k b c).2.2)=bv B (bZ B q u v i k b c).1+q*bv B ((v.drop i).take k)+(b+c)/\(bZ B q u v i k b c).2.1<=1
 |0,i,b,c,a=>by grind[bZ,bv]
 |k+1,i,b,c,a=>by
  obtain⟨m,g,j⟩:=Mh (B:=B) (q:=q) (u:=u.getD i 0) (v:=v.getD i 0) (borrow:=b) (carry:=c) e (ba (by omega) f i) a;obtain⟨l,h⟩:=zY e (q:=q) (v:=v) f k (i+1) _ (kD B q (u.getD i 0) (v.getD i 0) b c).2.2 g;rw[tC,tC];simp only[bZ,bv]
  grind
theorem BR(h:x.length=m):bv n (x.take m)=bv n x:=by grind
theorem Jh{q:Nat}(f:1<n){u v:List Nat}{a:Nat}(g:∀d∈u,d<n)(c:u.length=a+1)(j:v.length=a):
  (bZ n q u v 0 (a+1) 0 0).2.2=0->((bZ n q u v 0 (a+1) 0 0).2.1=0->bv n u=bv n (bZ n q u v 0 (a+1) 0 0).1+q*bv n v)/\
  ((bZ n q u v 0 (a+1) 0 0).2.1≠0->bv n u+n^(a+1)=bv n (bZ n q u v 0 (a+1) 0 0).1+q*bv n v/\bv n u<q*bv n v):=by
 intro i;obtain⟨e,k⟩:=zY f (q:=q) (v:=v) g (a+1) 0 0 0 (by omega);rw[drop_zero,drop_zero,BR c,List.take_of_length_le (by omega:v.length<=a+1),i]at e;refine⟨λh=>?_,λh=>?_⟩
 ·grind
 ·have b:(bZ n q u v 0 (a+1) 0 0).2.1=1:=by omega
  rw[b,Nat.mul_one]at e
  grind[fC,uX,rN]
theorem yb{B q:Nat}(e:1<B){u v:List Nat}(g:q<B)(a:∀d∈v,d<B):∀k i b c,c<B->v.length<=i+k->0<k->v.length<i+k->(bZ B q u v i k b c).2.2=0
 |0,_,_,_,_,_,h,_=>by omega
 |1,i,b,c,j,_,_,f=>by
  simp only[bZ,kD];have:v.getD i 0=0:=by rw[gD,getElem?_eq_none (by omega)];rfl
  simp_all
 | k+2,i,b,c,j,_,_,f=>by
  have m:=ba (by omega) a i;simp only[bZ];have:=yb e (u:=u) g a (k+1) (i+1) (kD B q (u.getD i 0) (v.getD i 0) b c).2.1 (kD B q (u.getD i 0) (v.getD i 0) b c).2.2 (by
   show(q*v.getD i 0+c)/B<B;refine div_lt_of_lt_mul ?_;have l:q*v.getD i 0<=(B-1)*(B-1):=mul_le_mul (by omega) (by omega);have n:(B-1)*(B-1)+(B-1)=(B-1)*B:=by rw[<-mul_succ];congr 1;omega
   have o:(B-1)*B+B=B*B:=by rw[<-succ_mul];congr 1;omega
   omega) (by omega) (by omega) (by omega)
  grind[bZ]
theorem L5(s:1<n){u v:List Nat}{a Q V U:Nat}(m:∀d∈u,d<n)(l:∀d∈v,d<n)(r:u.length=a+1)(o:v.length=a)(w:U+n^(a+1)=bv n u+(Q+1)*V)(B:U<(Q+1)*V)(t:(Q+1)*V<U+V)(E:V=bv n v):
  bv n ((bm (aQ n) u v 0 (a+1) 0))+Q*V=U:=by
 have e:=zT s (x:=u) (y:=v) m l (a+2) 0 0 (by omega) (by omega) (by omega) (by omega);simp only[drop_zero,Nat.add_zero]at e;have split:∀k i c,bm (aQ n) u v i (k+1) c=bm (aQ n) u v i k c++(bm (aQ n) u v i (k+1) c).drop k:=by
  intro k
  induction k with
  |zero=>intro i c;simp[bm]
  |succ k A=>
   intro i c;have:=A (i+1) (aQ n (u.getD i 0) (v.getD i 0) c).2;show _::bm (aQ n) u v (i+1) (k+1) _=(_::bm (aQ n) u v (i+1) k _)++(_::bm (aQ n) u v (i+1) (k+1) _).drop (k+1);rw[cons_append,List.drop_succ_cons];exact congrArg _ this
 rw[split (a+1) 0 0,gF,fk]at e;have j:=fC (jC (b:=n) (F:=aQ n) (λp q c=>mod_lt _ (by omega)) u v (a+1) 0 0);rw[fk]at j;rw[Nat.add_mul,Nat.one_mul]at w B t;have g:=fC m;rw[r]at g;have h:=fC l;rw[o]at h;have C:n^a<=n^(a+1):=pow_le_pow_right (by omega) (by omega);have D:bv n ((bm (aQ n) u v 0 (a+1+1) 0).drop (a+1))=1:=by
  generalize bv n ((bm (aQ n) u v 0 (a+1+1) 0).drop (a+1))=z at e;rcases Nat.lt_trichotomy z 1 with f|f|f
  ·have:z=0:=by omega
   subst this;rw[Nat.mul_zero]at e;omega
  ·exact f
  ·have:=mul_le_mul_left (n^(a+1)) f;rw[mul_succ,Nat.mul_one]at this;omega
 grind
theorem CM{B:Nat}:∀(l:List Nat)(i d:Nat),i<l.length->bv B (l.set i d)+B^i*l.getD i 0=bv B l+B^i*d
 |[],i,d,h=>by grind
 |a::l,0,d,_=>by grind[bv]
 |a::l,i+1,d,h=>by
  have b:=congrArg (B*·) (CM (B:=B) l i d (by simpa using h))
  grind[bv]
theorem Jr(h:∀d∈y,d<n){i d:Nat}(b:d<n):∀x∈y.set i d,x<n:=λx a=>by grind
theorem pW(_:1<n):∀{l:List Nat},bv n l<n^m->bv n (l.drop m)=0
 | l,h=>by
  rcases lt_or_ge m l.length with a|a
  ·have e:=gF n (l.take m) (l.drop m);rw[take_append_drop,length_take,min_eq_left (by omega)]at e;rcases eq_zero_or_pos (bv n (l.drop m))with b|b
   ·omega
   ·have:=mul_le_mul_left (n^m) b;omega
  ·rw[drop_eq_nil_of_le a];rfl
theorem wO(B:Nat)(l:List Nat)(n:Nat):bv B l=bv B (l.take n)+B^(min n l.length)*bv B (l.drop n):=by grind[gF,take_append_drop]
structure iX(B n V XK:Nat)(u q:List Nat)(j:Nat):Prop where
 ul:∀d∈u,d<B
 ql:∀d∈q,d<B
 len:u.length=q.length+n
 jle:j<=q.length
 lo:bv B (u.drop j)<V
 eq:XK=bv B u+V*bv B q
 qz:∀i,i<j->q.getD i 0=0
theorem iX.I0{q:List Nat}(b:1<n)(a:k<=n^m)(h:iX n m k i x q (j+1)):
  bv n ((x.drop j).take (m+1))=bv n (x.drop j)/\bv n ((x.drop j).take (m+1))<n*k/\((x.drop j).take (m+1)).length=m+1:=by
 have e:=h.len;have o:=h.jle;have f:bv n (x.drop j)=x.getD j 0+n*bv n (x.drop (j+1)):=gz n x j;have g:=ba (by omega) h.ul j;have c:=h.lo;have d:bv n (x.drop j)<n*k:=by
  have:=mul_le_mul_left n (succ_le_of_lt c);rw[mul_succ]at this;omega
 have p:bv n ((x.drop j).drop (m+1))=0:=by
  refine pW b (lt_of_lt_of_le d ?_);rw[pow_succ,Nat.mul_comm];exact mul_le_mul_right n a
 have l:=wO n (x.drop j) (m+1)
 grind
theorem iX.step{q w:List Nat}{at':Nat}(g:1<n)(d:k<=n^m)(h:iX n m k j y q (at'+1))(B:∀x∈w,x<n)(z:w.length=m+1)(u:l<n)
  (r:bv n ((y.drop at').take (m+1))=bv n w+l*k) (v:bv n w<k):iX n m k j (y.take at'++w++y.drop (at'+(m+1))) (q.set at' l) at':=by
 have A:=h.len;have D:=h.jle;obtain⟨e,s,E⟩:=h.I0 g d;have p:bv n (y.drop (at'+(m+1)))=0:=by
  rw[<-drop_drop];refine pW g ?_;rw[<-e];refine lt_of_lt_of_le s ?_;rw[pow_succ,Nat.mul_comm];exact mul_le_mul_right n d
 have c:(y.take at').length=at':=by rw[length_take];omega
 have b:(y.take at'++w++y.drop (at'+(m+1))).drop at'=w++y.drop (at'+(m+1)):=by
  rw[append_assoc,List.drop_append_of_le_length (by omega),List.drop_of_length_le (by omega),List.nil_append]
 refine⟨?_,Jr h.ql u,?_,by grind,?_,?_,?_⟩
 ·intro x a;simp only[mem_append]at a;rcases a with(a|a)|a
  ·exact h.ul x (mem_of_mem_take a)
  ·grind
  ·exact h.ul x (List.mem_of_mem_drop a)
 ·grind
 ·rw[b,gF,p,Nat.mul_zero,Nat.add_zero];omega
 ·have f:=gF n (y.take at') (y.drop at');rw[take_append_drop,c,<-e,r]at f;have t:bv n (y.take at'++w++y.drop (at'+(m+1)))=bv n (y.take at')+n^at'*bv n w:=by
   rw[append_assoc,gF,gF,p,c,Nat.mul_zero,Nat.add_zero]
  have o:=CM (B:=n) q at' l (by omega);rw[h.qz at' (by omega),Nat.mul_zero,Nat.add_zero]at o;rw[h.eq,f,t,o,Nat.mul_add,Nat.mul_add]
  grind
 ·intro i C;have:=h.qz i (by omega)
  grind
theorem iX.done{q:List Nat}(h:iX n m k i x q 0):bv n q=i/k/\bv n x=i%k:=by
 have a:=h.lo;rw[drop_zero]at a;rw[h.eq]
 grind[Nat.mul_add_div,div_eq_of_lt,Nat.mul_add_mod,mod_eq_of_lt]
theorem iX.start{X Y:Nat}(u:1<n)(h:∀d∈x,d<n)(s:x.length=l+1)(t:m<=l)(o:X<n^l)(c:n^(m-1)<=Y)(r:0<m)(p:0<k)(b:bv n x=X*k):iX n m (Y*k) (X*k) x (List.replicate (l+1-m) 0) (l+1-m):=by
 refine⟨h,λd q=>by rw[(List.mem_replicate.1 q).2];omega,by rw[length_replicate];omega,by rw[length_replicate];exact Nat.le_refl _,?_,?_,λi y=>?_⟩
 ·have f:=wO n x (l+1-m);rw[b,min_eq_left (by omega)]at f;rcases lt_or_ge (bv n (x.drop (l+1-m))) (Y*k)with a|a
  ·exact a
  ·have v:=mul_le_mul_left (n^(l+1-m)) a;have w:n^l*k<=n^(l+1-m)*(Y*k):=by
    have e:n^l=n^(l+1-m)*n^(m-1):=by rw[<-Nat.pow_add];congr 1;omega
    rw[e,Nat.mul_assoc];exact mul_le_mul_left _ (mul_le_mul_right k c)
   have z:X*k<n^l*k:=Nat.mul_lt_mul_of_pos_right o p;omega
 ·have:bv n (List.replicate (l+1-m) 0)=0:=by
   induction (l+1-m)with
   |zero=>rfl
   |succ j g=>rw[List.replicate_succ,bv,g];rfl
  rw[this,b,Nat.mul_zero,Nat.add_zero]
 grind
theorem BT{X Y:Nat}(a:0<k):X*k/(Y*k)=X/Y/\X*k%(Y*k)=X%Y*k:=
 by grind[Nat.mul_div_mul_right,Nat.mul_mod_mul_right]
theorem Fb{B left a:Nat}(c:0<k)(b:left<k)(d:a<B):(left*B+a)/k<B/\(left*B+a)%k<k/\(left*B+a)/k*k+(left*B+a)%k=left*B+a:=by
 refine⟨div_lt_of_lt_mul ?_,mod_lt _ c,by rw[Nat.mul_comm];exact Nat.div_add_mod _ _⟩;have:=mul_le_mul_right B (succ_le_of_lt b)
 grind
structure lk(B k R:Nat)(r:List Nat)(j left:Nat):Prop where
 rl:∀d∈r,d<B
 jle:j<=r.length
 lt:left<k
 eq:bv B (r.drop j)*k*B^j+left*B^j+bv B (r.take j)=R
theorem lk.step{at' left:Nat}(d:0<k)(h:lk n k m x (at'+1) left):lk n k m (x.set at' ((left*n+x.getD at' 0)/k)) at' ((left*n+x.getD at' 0)%k):=by
 have g:=h.jle;have b:0<n:=by
  have:=h.rl (x.getD at' 0) (by
   rw[gD,gE (by omega)];exact List.getElem_mem _)
  omega
 obtain⟨e,c,f⟩:=Fb (B:=n) d h.lt (ba b h.rl at');refine⟨Jr h.rl e,by rw[length_set];omega,c,?_⟩;rw[List.take_set_of_le (by omega),gz,List.drop_set_of_lt (by omega)];have a:(x.set at' ((left*n+x.getD at' 0)/k)).getD at' 0=(left*n+x.getD at' 0)/k:=by
  rw[gD,List.getElem?_set_self (by omega)];rfl
 rw[a,<-h.eq]
 grind[List.take_succ_eq_append_getElem,qS]
theorem lk.done{left:Nat}(a:0<k)(h:lk n k m x 0 left):bv n x=m/k:=by
 have e:=h.eq;simp only[drop_zero,Nat.pow_zero,Nat.mul_one,List.take_zero,bv,Nat.add_zero]at e;rw[<-e,Nat.mul_comm,Nat.mul_add_div a,div_eq_of_lt h.lt];rfl
section
theorem ot(B:Nat)(l:List Nat)(i:Nat)(h:i<=l.length):bv B l=bv B (l.take i)+B^i*bv B (l.drop i):=by grind[wO]
theorem lY{B:Nat}{l:List Nat}(h:l.length=i+1):bv B (l.drop i)=l.getD i 0:=by
 rw[gz,drop_eq_nil_of_le (by omega)];rfl
theorem kL{B:Nat}{l:List Nat}(h:l.length=i+2):bv B (l.drop i)=l.getD (i+1) 0*B+l.getD i 0:=by grind[gz,lY]
theorem tf{B:Nat}{l:List Nat}(h:l.length=i+3):bv B (l.drop i)=(l.getD (i+2) 0*B+l.getD (i+1) 0)*B+l.getD i 0:=by grind[gz,kL]
structure iz(B n:Nat)(u v:List Nat)(q rest:Nat):Prop where
 eq:q*v.getD (n-1) 0+rest=u.getD n 0*B+u.getD (n-1) 0
 hi:bv B u<(q+1)*bv B v
section
variable {B n:Nat} {u v:List Nat} {q rest:Nat}
theorem iz.start(s:1<B)(q:u.length=n+1)(p:v.length=n)(r:0<n)(k:∀d∈u,d<B)(g:0<v.getD (n-1) 0):iz B n u v ((u.getD n 0*B+u.getD (n-1) 0)/v.getD (n-1) 0) ((u.getD n 0*B+u.getD (n-1) 0)%v.getD (n-1) 0):=by
 refine⟨by rw[Nat.mul_comm];exact Nat.div_add_mod _ _,?_⟩;have e:=ot B u (n-1) (by omega);have f:=ot B v (n-1) (by omega);have h:bv B (u.drop (n-1))=u.getD n 0*B+u.getD (n-1) 0:=by
  have:=kL (B:=B) (l:=u) (i:=n-1) (by omega);rwa[show n-1+1=n by omega]at this
 rw[lY (by omega)]at f;rw[h]at e;rw[e,f];have j:=fC (b:=B) (x:=u.take (n-1)) (λd o=>k d (mem_of_mem_take o));rw[length_take,min_eq_left (by omega)]at j;generalize u.getD n 0*B+u.getD (n-1) 0=a;generalize v.getD (n-1) 0=c at g⊢;have m:a<(a/c+1)*c:=by
  have:=Nat.div_add_mod a c;have:=mod_lt a g;rw[Nat.add_mul,Nat.one_mul,Nat.mul_comm];omega
 have t:=mul_le_mul_left (B^(n-1)) (succ_le_of_lt m)
 grind
theorem iz.lower(b:bv B u<q*bv B v)(h:iz B n u v q rest):iz B n u v (q-1) (rest+v.getD (n-1) 0):=by
 have c:0<q:=by
  rcases eq_zero_or_pos q with a|a
  ·subst a;rw[Nat.zero_mul]at b;omega
  ·exact a
 obtain⟨p,rfl⟩:∃p,q=p+1:=⟨q-1,by omega⟩
 refine⟨?_,by simpa using b⟩;have:=h.eq
 grind
theorem iz.adI(b:bv B u<B*bv B v)(a:B<=q):bv B u<q*bv B v:=lt_of_lt_of_le b (mul_le_mul_right _ a)
theorem iz.second(p:u.length=n+1)(o:v.length=n)(r:1<n)(j:∀d∈u,d<B)(h:iz B n u v q rest)(g:rest*B+u.getD (n-2) 0<q*v.getD (n-2) 0):bv B u<q*bv B v:=by
 have c:=ot B u (n-2) (by omega);have e:=ot B v (n-2) (by omega);have f:bv B (u.drop (n-2))=(u.getD n 0*B+u.getD (n-1) 0)*B+u.getD (n-2) 0:=by
  have:=tf (B:=B) (l:=u) (i:=n-2) (by omega);rwa[show n-2+1=n-1 by omega,show n-2+2=n by omega]at this
 have k:bv B (v.drop (n-2))=v.getD (n-1) 0*B+v.getD (n-2) 0:=by
  have:=kL (B:=B) (l:=v) (i:=n-2) (by omega);rwa[show n-2+1=n-1 by omega]at this
 rw[f,Nat.add_comm,Nat.mul_comm]at c;rw[k,Nat.add_comm,Nat.mul_comm]at e;have a:=fC (b:=B) (x:=u.take (n-2)) (λd m=>j d (mem_of_mem_take m));rw[length_take,min_eq_left (by omega)]at a;exact Jx c a e h.eq g
theorem iz.last(y:1<B)(t:u.length=n+1)(s:v.length=n)(w:0<n)(k:∀d∈v,d<B)(p:0<v.getD (n-1) 0)(h:iz B n u v q rest)(o:q<B)(m:1<n->q*v.getD (n-2) 0<=rest*B+u.getD (n-2) 0):q*bv B v<bv B u+bv B v:=by
 rcases lt_or_ge 1 n with f|f
 ·have e:=ot B u (n-2) (by omega);have g:=ot B v (n-2) (by omega);have a:bv B (u.drop (n-2))=(u.getD n 0*B+u.getD (n-1) 0)*B+u.getD (n-2) 0:=by
   have:=tf (B:=B) (l:=u) (i:=n-2) (by omega);rwa[show n-2+1=n-1 by omega,show n-2+2=n by omega]at this
  have c:bv B (v.drop (n-2))=v.getD (n-1) 0*B+v.getD (n-2) 0:=by
   have:=kL (B:=B) (l:=v) (i:=n-2) (by omega);rwa[show n-2+1=n-1 by omega]at this
  rw[a,Nat.add_comm,Nat.mul_comm]at e;rw[c,Nat.add_comm,Nat.mul_comm]at g;have j:=fC (b:=B) (x:=v.take (n-2)) (λd r=>k d (mem_of_mem_take r));rw[length_take,min_eq_left (by omega)]at j;exact Hx e g j h.eq o p (m f)
 ·obtain rfl:n=1:=by omega
  have a:=kL (B:=B) (l:=u) (i:=0) (by omega);have c:=lY (B:=B) (l:=v) (i:=0) (by omega);rw[drop_zero]at a c;have:=h.eq
  grind
theorem wk(f:q<B){a b:Nat}(d:a<B)(c:B<=rest):q*a<=rest*B+b:=by
 have e:q*a<=B*B:=mul_le_mul (by omega) (by omega);have g:B*B<=rest*B:=mul_le_mul_right B c;omega
end
theorem Hq{B q n:Nat}(a:1<B){u v:List Nat}(s:∀d∈u,d<B)(f:∀d∈v,d<B)(i:u.length=n+1)(b:v.length=n)(o:q<B)(y:bv B u<(q+1)*bv B v)(p:q*bv B v<bv B u+bv B v):
  (bZ B q u v 0 (n+1) 0 0).2.2=0/\
  ((bZ B q u v 0 (n+1) 0 0).2.1=0->q=bv B u/bv B v/\bv B (bZ B q u v 0 (n+1) 0 0).1=bv B u%bv B v)/\
  ((bZ B q u v 0 (n+1) 0 0).2.1≠0->0<q/\q-1=bv B u/bv B v/\bv B (bm (aQ B) (bZ B q u v 0 (n+1) 0 0).1 v 0 (n+1) 0)=bv B u%bv B v):=by
 have j:=yb a (u:=u) o f (n+1) 0 0 0 (by omega) (by omega) (by omega) (by omega);obtain⟨A,l⟩:=Jh a s i b j (q:=q);have w:∀{k r:Nat},bv B u=r+k*bv B v->r<bv B v->k=bv B u/bv B v/\r=bv B u%bv B v:=by
  intro k r e t;rw[e,Nat.mul_comm k,Nat.add_comm];constructor
  ·grind[Nat.mul_add_div,div_eq_of_lt]
  ·rw[Nat.mul_add_mod,mod_eq_of_lt t]
 refine⟨j,λh=>?_,λh=>?_⟩
 ·grind
 ·obtain⟨m,g⟩:=l h;have x:0<q:=by
   rcases eq_zero_or_pos q with c|c
   ·subst c;rw[Nat.zero_mul]at g;omega
   ·exact c
  obtain⟨Q,rfl⟩:∃Q,q=Q+1:=⟨q-1,by omega⟩
  have z:=L5 a (Q:=Q) (V:=bv B v) (U:=bv B u) (uX (q:=Q+1) a u v (n+1) 0 0 0) f (rN _ _ _ _ _ _ _ _) b m g p rfl
  grind
end
def eV(F:Nat->Nat->Nat->Nat×Nat)(x y:List Nat)(i c:Nat):Nat->Nat
 |0=>c
 |k+1=>(F (x.getD (i+k) 0) (y.getD (i+k) 0) (eV F x y i c k)).2
theorem CO(F:Nat->Nat->Nat->Nat×Nat)(x y:List Nat)(i c:Nat):∀k,eV F x y (i+1) (F (x.getD i 0) (y.getD i 0) c).2 k=eV F x y i c (k+1)
 |0=>rfl
 |k+1=>by
  show(F (x.getD (i+1+k) 0) (y.getD (i+1+k) 0) (eV F x y (i+1) _ k)).2=(F (x.getD (i+(k+1)) 0) (y.getD (i+(k+1)) 0) (eV F x y i c (k+1))).2;rw[CO F x y i c k,show i+1+k=i+(k+1) by omega]
theorem iB(F:Nat->Nat->Nat->Nat×Nat)(x y:List Nat):∀k i c,bm F x y i (k+1) c=bm F x y i k c++[(F (x.getD (i+k) 0) (y.getD (i+k) 0) (eV F x y i c k)).1]
 |0,i,c=>rfl
 |k+1,i,c=>by
  have a:=iB F x y k (i+1) (F (x.getD i 0) (y.getD i 0) c).2
  grind[CO,bm]
theorem Oo{F:Nat->Nat->Nat->Nat×Nat}{m:Nat}(h:∀p q c,c<=m->(F p q c).2<=m)(x y:List Nat)(i c:Nat)(a:c<=m):∀k,eV F x y i c k<=m
 |0=>a
 |k+1=>h _ _ _ (Oo h x y i c a k)
theorem tF{b:Nat}(k:1<b){x y:List Nat}(h:∀d∈x,d<b)(l:x.length=y.length){j:Nat}(n:j<x.length)(i:x.drop (j+1)=y.drop (j+1))(a:x.getD j 0<y.getD j 0):bv b x<bv b y:=by
 have c:=ot b x j (by omega);have e:=ot b y j (by omega);rw[gz]at c e;rw[c,e,i];have g:=fC (b:=b) (x:=x.take j) (λd f=>h d (mem_of_mem_take f));rw[length_take,min_eq_left (by omega)]at g;have m:=mul_le_mul_left (b^j) (succ_le_of_lt (Nat.add_lt_add_right a (b*bv b (y.drop (j+1)))))
 grind
theorem l7{b:Nat}(a:1<b){m n:Nat}(h:(aY b m).length<(aY b n).length):m<n:=by
 have c:0<n:=by
  rcases eq_zero_or_pos n with e|e
  ·grind[fY]
  ·exact e
 have d:=fC (dx a m);rw[cw a]at d;have g:=th a c;have f:b^(aY b m).length<=b^((aY b n).length-1):=pow_le_pow_right (by omega) (by omega);omega
variable{A:Type}
theorem tN(B q:Nat)(u v:List Nat):∀k i b c,bZ B q u v i (k+1) b c =
    ((bZ B q u v i k b c).1++[(kD B q (u.getD (i+k) 0) (v.getD (i+k) 0) (bZ B q u v i k b c).2.1 (bZ B q u v i k b c).2.2).1],
     (kD B q (u.getD (i+k) 0) (v.getD (i+k) 0) (bZ B q u v i k b c).2.1 (bZ B q u v i k b c).2.2).2.1,
     (kD B q (u.getD (i+k) 0) (v.getD (i+k) 0) (bZ B q u v i k b c).2.1 (bZ B q u v i k b c).2.2).2.2)
  |0,i,b,c=>rfl
  | k+1,i,b,c=>by
    have a:=tN B q u v k (i+1) (kD B q (u.getD i 0) (v.getD i 0) b c).2.1 (kD B q (u.getD i 0) (v.getD i 0) b c).2.2
    grind[bZ]
theorem Fe{q:Nat}(a:1<n){u v:List Nat}(b:∀d∈u,d<n)(k:Nat):(bZ n q u v 0 k 0 0).2.1<=1:=(zY a (v:=v) b k 0 0 0 (by omega)).2
theorem ti{B q:Nat}(b:1<B)(c:q<B){u v:List Nat}(a:∀d∈v,d<B):∀k,(bZ B q u v 0 k 0 0).2.2<B
  |0=>by grind[bZ]
  | k+1=>by
    rw[tN];have f:=ti b c (u:=u) a k;have g:=ba (by omega) a (0+k);show(q*v.getD (0+k) 0+(bZ B q u v 0 k 0 0).2.2)/B<B;refine div_lt_of_lt_mul ?_;have e:q*v.getD (0+k) 0<=(B-1)*(B-1):=mul_le_mul (by omega) (by omega);have h:(B-1)*(B-1)+(B-1)=(B-1)*B:=by rw[<-mul_succ];congr 1;omega
    have i:(B-1)*B+B=B*B:=by rw[<-succ_mul];congr 1;omega
    omega
theorem Bl(x y:List A){i:Nat}(a:x.length=i)(b:i<y.length)(d:A):(x++y.drop i).set i d=(x++[d])++y.drop (i+1):=by
  rw[List.set_append,if_neg (by omega),a,Nat.sub_self,drop_eq_getElem_cons b,List.set_cons_zero,append_assoc];rfl
theorem xX(x y:List Nat){i:Nat}(a:x.length=i):(x++y.drop i).getD i 0=y.getD i 0:=by grind
theorem yf(l:List Nat):l.take (dY l).length=dY l/\(dY l).length<=l.length:=by
 induction l using lO with
 |h0=>exact⟨rfl,Nat.le_refl _⟩
 | h1 l d b=>
  by_cases a:d=0
  ·grind[jl]
  ·rw[ka l a,List.take_length]
   grind
theorem F5(a:1<n)(b:0<m):0<(aY n m).getD ((aY n m).length-1) 0:=by
 have c:=(Mj a m).2
 grind[aY]
theorem Hu(a:1<n)(c:m<n^k)(e:n^(k-1)<=m)(d:0<k):(aY n m).length=k:=by
 refine Nat.le_antisymm (l6 a c) ?_;rcases lt_or_ge (aY n m).length k with h|h
 ·have b:=fC (dx a m);rw[cw a]at b;have:n^(aY n m).length<=n^(k-1):=pow_le_pow_right (by omega) (by omega);omega
 omega
theorem SX(f:1<n)(o:0<m):let c:=(aY n m).length;let a:=(aY n m).getD (c-1) 0;let k:=n/(a+1)
  0<c/\a<n/\0<k/\k<=n/\n^(c-1)<=m/\m*k<n^c:=by
 intro c a k;have l:0<c:=length_pos_iff.2 λe=>by grind[iD]
 have s:a<n:=ba (by omega) (dx f m) _;have j:0<k:=Nat.div_pos (by omega) (by omega);have g:=th f o;refine⟨l,s,j,Nat.div_le_self _ _,g,?_⟩;have i:m<(a+1)*n^(c-1):=by
  have h:=ot n (aY n m) (c-1) (by omega);rw[lY (show(aY n m).length=c-1+1 by omega),cw f]at h;have p:=fC (b:=n) (x:=(aY n m).take (c-1)) (λd r=>dx f m d (mem_of_mem_take r));rw[length_take,min_eq_left (by omega)]at p;rw[Nat.add_mul,Nat.one_mul,Nat.mul_comm a];show m<n^(c-1)*a+_;have:(aY n m).getD (c-1) 0=a:=rfl;rw[this]at h;omega
 have t:m*k<(a+1)*n^(c-1)*k:=Nat.mul_lt_mul_of_pos_right i j;have q:(a+1)*k<=n:=by rw[Nat.mul_comm];exact Nat.div_mul_le_self _ _
 have w:(a+1)*n^(c-1)*k=(a+1)*k*n^(c-1):=by rw[Nat.mul_right_comm]
 have v:(a+1)*k*n^(c-1)<=n*n^(c-1):=mul_le_mul_right _ q;have u:n*n^(c-1)=n^c:=by rw[Nat.mul_comm,<-pow_succ];congr 1;omega
 omega
def wid:Nat->Nat->List UInt8
 |0,_=>[]
 |n+1,u=>wid n (u/10)++[fj (u%10)]
theorem Aa:∀n u,(wid n u).length=n
 |0,_=>rfl
 |n+1,u=>by rw[wid,length_append,Aa n];rfl
theorem wX:∀(n u:Nat),wid (n+1) u=fj (u/10^n%10)::wid n u
 |0,u=>by simp[wid]
 |n+1,u=>by
  rw[wid,wX n (u/10),wid,cons_append,Nat.div_div_eq_div_mul,pow_succ,Nat.mul_comm 10]
theorem zZ(a:m<10^(n+1))(c:n=0\/10^n<=m):wid (n+1) m=ag m:=by
 induction n generalizing m with
 |zero=>grind[dK,wid]
 |succ n b=>grind[iE,Nat.le_div_iff_mul_le,wid]
theorem F8{u:Nat}:∀{n:Nat},u<10^n->0<n->wid n u=List.replicate (n-(ag u).length) 48++ag u
 |0,_,h=>absurd h (by omega)
 | n+1,h,_=>by
  by_cases b:n=0\/10^n<=u
  ·have c:=zZ h b;have d:=congrArg List.length c;rw[Aa]at d
   simp_all
  ·have e:n≠0:=λh=>b (.inl h);have a:u<10^n:=Nat.lt_of_not_le λh=>b (.inr h);have f:=(dh (n:=u) (k:=n) (by omega)).2 a;rw[wX,F8 a (by omega),div_eq_of_lt a,show n+1-(ag u).length=(n-(ag u).length)+1 by omega,List.replicate_succ];rfl
theorem Bp{Y:Nat}(a:0<Y):∀{n b:Nat},b<10^n->ag (Y*10^n+b)=ag Y++wid n b
 |0,b,h=>by simp_all[wid]
 | n+1,b,h=>by
  have c:b/10<10^n:=by rw[Nat.div_lt_iff_lt_mul (by omega),<-pow_succ];exact h
  have g:=Bp a c;have d:0<10^n:=Nat.pow_pos (by omega);have f:0<Y*10^n+b/10:=Nat.add_pos_left (Nat.mul_pos a d) _;have e:Y*10^(n+1)+b=10*(Y*10^n+b/10)+b%10:=by
   rw[pow_succ,Nat.mul_add,<-Nat.mul_assoc,Nat.mul_comm (Y*10^n) 10];omega
  simp_all[rR,mod_lt,wid]
theorem Ff{b:Nat}(c:0<m)(a:b<1000000000):ag (b+1000000000*m)=ag m++List.replicate (9-(ag b).length) 48++ag b:=by
 have h:=Bp c (n:=9) (b:=b) a
 grind[F8]
theorem Fg{b:Nat}(a:b<1000000000):(ag b).length<=9:=(dh (by omega)).2 a
theorem tH(B:Nat)(y:List Nat)(k:Nat):bv B (y.take (k+1))=bv B (y.take k)+B^k*y.getD k 0:=by grind[List.take_succ_eq_append_getElem,qS,List.take_of_length_le]
theorem L9(a:0<n)(h:∀d∈x,d<n)(i:Nat):x.getD i 0<n:=by grind[List.getElem_mem]
theorem wS{B:Nat}(m:1<B){L y:List Nat}{i k cy xi P p:Nat}(a:∀d∈L,d<B)(q:i+k<L.length)(f:cy<B)(j:xi<B)(g:y.getD k 0<B)(c:p=L.getD (i+k) 0+cy+xi*y.getD k 0)(n:bv B L+cy*B^(i+k)=P+xi*bv B (y.take k)*B^i):
  (∀d∈L.set (i+k) (p%B),d<B)/\p/B<B/\bv B (L.set (i+k) (p%B))+p/B*B^(i+(k+1))=P+xi*bv B (y.take (k+1))*B^i:=by
 have l:=L9 (by omega) a (i+k);refine⟨λd e=>?_,?_,?_⟩
 ·rcases List.mem_or_eq_of_mem_set e with h|h
  ·exact a d h
  ·rw[h];exact mod_lt _ (by omega)
 ·rw[Nat.div_lt_iff_lt_mul (by omega),c];have b:xi*y.getD k 0<=(B-1)*(B-1):=mul_le_mul (by omega) (by omega);obtain⟨C,rfl⟩:∃C,B=C+1:=⟨B-1,by omega⟩
  rw[Nat.add_sub_cancel]at b;have o:(C+1)*(C+1)=C*C+C+C+1:=by rw[mul_succ,succ_mul];omega
  omega
 grind[CM,mod_add_div,tH]
theorem F0(l:1<n){L x y:List Nat}{i cy:Nat}(e:∀d∈x,d<n)(k:∀d∈y,d<n)(p:i<x.length)(m:∀d∈L,d<n)(c:bv n L+cy*n^(i+(y.length+1))=bv n (x.take i)*bv n y+x.getD i 0*bv n (y.take (y.length+1))*n^i):
  bv n L=bv n (x.take (i+1))*bv n y:=by
 have f:bv n (x.take (i+1))*bv n y=bv n (x.take i)*bv n y+x.getD i 0*bv n y*n^i:=by
  rw[tH,Nat.add_mul];congr 1;rw[Nat.mul_assoc,Nat.mul_comm]
 rw[List.take_of_length_le (by omega:y.length<=y.length+1),<-f]at c;have g:bv n (x.take (i+1))<n^(i+1):=by
  have:=fC (b:=n) (x:=x.take (i+1)) (λd j=>e d (mem_of_mem_take j));rwa[length_take,min_eq_left (by omega)]at this
 have a:=fC k;have o:bv n (x.take (i+1))*bv n y<n^(i+(y.length+1)):=by
  rw[show i+(y.length+1)=(i+1)+y.length by omega,Nat.pow_add];exact Nat.mul_lt_mul'' g a
 rcases eq_zero_or_pos cy with h|h
 ·grind
 ·have q:1*n^(i+(y.length+1))<=cy*n^(i+(y.length+1)):=mul_le_mul_right _ h;omega
theorem tG(B n:Nat):bv B (List.replicate n 0)=0:=by
 induction n with
 |zero=>rfl
 |succ n a=>grind[bv]
def cW(c:UInt8):List UInt8->Nat
 |[]=>0
 |x::l=>if x=c then 0 else cW c l+1
theorem wR(c:UInt8):∀(l:List UInt8)(i:Nat),i<=l.length->(∀j,j<i->l.getD j 0≠c)->(i<l.length->l.getD i 0=c)->cW c l=i
 |[],i,h,_,_=>by simp at h;subst h;rfl
 |x::l,0,h,_,b=>by simp_all[cW]
 |x::l,i+1,h,a,b=>by
  have e:=a 0 (by omega);unfold cW;rw[if_neg (by grind)];rw[wR c l i (by grind) (λj f=>by grind) (λd=>by grind)]
def isNeg(a:List UInt8):Bool:=a.head? == some 45
def bk(a:List UInt8):List UInt8:=if isNeg a then a.drop 1 else a
def numOf(a:List UInt8):List UInt8:=(bk a).take (cW 47 (bk a))
def bo(a:List UInt8):Bool:=decide (cW 47 (bk a)<(bk a).length)
def ak(a:List UInt8):List UInt8:=if bo a then(bk a).drop (cW 47 (bk a)+1)else[49]
def ay(a:List UInt8):Bool:=valid (numOf a)&&valid (ak a)&&decide ((numOf a).length<=400)&&decide ((ak a).length<=400) && !(isNeg a&&numOf a==[48]) && !(bo a&&(ak a==[48]||ak a==[49]))&&decide (Nat.gcd (val (numOf a)) (val (ak a))=1)
structure gZ(a:List UInt8):Prop where
 num:valid (numOf a)=true
 den:valid (ak a)=true
 ln:(numOf a).length<=400
 ld:(ak a).length<=400
 neg:¬(isNeg a=true/\numOf a=[48])
 fr:¬(bo a=true/\(ak a=[48]\/ak a=[49]))
 one:Nat.gcd (val (numOf a)) (val (ak a))=1
theorem aW{a:List UInt8}:ay a=true↔gZ a:=by
 unfold ay;simp only[and_eq_true,Bool.not_eq_true',Bool.and_eq_false_iff,Bool.or_eq_false_iff,decide_eq_true_eq,beq_eq_false_iff_ne];constructor
 ·rintro⟨⟨⟨⟨⟨⟨c,d⟩,b⟩,f⟩,j⟩,i⟩,e⟩;refine⟨c,d,b,f,λ⟨g,h⟩=>?_,λ⟨g,h⟩=>?_,e⟩
  all_goals grind
 ·rintro⟨c,d,b,f,j,i,e⟩
  grind
theorem iH{a:List UInt8}(h:valid a=true):a=[48]↔val a=0:=by grind[cG,bR]
theorem tS{a:List UInt8}(h:valid a=true):a=[49]↔val a=1:=by grind[cG,eB]
theorem Jz:val [49]=1:=by decide
theorem rS{a:List UInt8}(h:valid a=true)(c:0<k)(b:a.length<=k):val a<10^k:=by grind[cG,dh]
theorem Bi{a:List UInt8}:gZ a↔(valid (numOf a)=true/\(numOf a).length<=400)/\(valid (ak a)=true/\(ak a).length<=400)/\ak a≠[48]/\¬(numOf a=[48]/\(isNeg a=true\/bo a=true))/\¬(ak a=[49]/\bo a=true)/\(Nat.gcd (val (numOf a)) (val (ak a))=1\/ak a=[49]):=by
 constructor
 ·rintro⟨d,e,c,f,j,h,i⟩
  grind[iH,tS,ak]
 ·rintro⟨⟨d,c⟩,⟨e,f⟩,j,h,i,k⟩;refine⟨d,e,c,f,λ⟨b,g⟩=>h ⟨g,.inl b⟩,λ⟨b,g⟩=>?_,?_⟩
  all_goals grind[Jz,Nat.gcd_one_right]
def di(s:Bool)(A:Nat)(t:Bool)(B:Nat):Bool×Nat:=if s=t then(s,A+B)else if A<B then(t,B-A)else(s,A-B)
def cI(a b:List UInt8):Int:=
 if ay a=true/\ay b=true then
  if(di (isNeg a) (val (numOf a)*val (ak b)) (!isNeg b) (val (numOf b)*val (ak a))).2=0 then 0
  else if(di (isNeg a) (val (numOf a)*val (ak b)) (!isNeg b) (val (numOf b)*val (ak a))).1=true then -1 else 1
 else 0
theorem Py(e:k+k=m)(b:n<10^k)(a:i<10^k):n*i<10^m:=by
 subst e;rw[Nat.pow_add];exact Nat.mul_lt_mul'' b a
theorem Fa(b:n<10^400)(a:i<10^400):n*i<10^800:=Py (k:=400) (m:=800) rfl b a
theorem jX(h:k<=m):10^k<=10^m:=pow_le_pow_right (by decide) h
theorem aaz(h:k+1<=n):10^k+10^k<=10^n:=by
 have a:=jX h
 grind
theorem F1:(10:Nat)^800+10^800<=10^1000:=by omega
end Go.Num
end
