/- Laws and walks that the proof leans on (part 2): AbDraw3; AbAny; AbDraw4; AbFastOk; AbFastOk2; AbFastOk3 and others. No condition. -/
import Derived.Test.YtaaichlgdgjgjaaGreatDoorPart1
import Derived.Laws.Externs
import Derived.Below
import Derived.Recover
import Derived.ControlIn
import Derived.Attr
import Derived.Laws.Bits64
import Derived.Shelf.SortM.Plain
import Derived.Shelf.SortM.SortNone
import Derived.ChangeArms
import Derived.DataElems
import Derived.ChangeSame
set_option linter.unusedVariables false
set_option linter.unusedSimpArgs false
set_option maxRecDepth 100000
open List (all_append all_cons all_eq_true all_nil append_assoc append_nil cons_append drop_drop drop_eq_getElem_cons drop_eq_nil_of_le drop_zero eq_nil_of_length_eq_zero flatten_cons getElem?_drop getElem?_eq_none getElem?_replicate getElem?_take length_append length_cons length_pos_iff length_replicate length_set length_take mem_append mem_append_left mem_cons mem_cons_of_mem mem_cons_self mem_of_mem_take mem_range mem_singleton range'_succ take_append_drop)
open Nat (ble_eq blt_eq div_eq_of_lt div_lt_of_lt_mul div_lt_self eq_zero_or_pos le_add_right le_succ lt_of_lt_of_le lt_or_ge min_eq_left mod_add_div mod_eq_of_lt mod_lt mul_le_mul mul_le_mul_left mul_le_mul_right mul_succ pow_le_pow_right pow_succ succ_le_of_lt succ_mul)
open Option (map_eq_some_iff map_some)
open Array (getElem?_toList length_toList)
open Bool (and_eq_true false_eq_true)
open Go.IntKind (wrap)
section
namespace Go.Ab
open Go
variable{n:Nat}{W:World}{v:Value}{r:Operand->Value}{i:Nat}{I:dS}
section
variable {β:dH} {P:Program} {gl:Nat->Bool}
theorem Al{r:Option Nat}{o:Oper}{a:Act}{w:World}(d:∀c,o.op≠ .defer c)(b:(execOp a.eval o).run P w = .ok (.value v) W){next:Act->World->Prop}{Q:Exit->Act->World->Prop}
  (h:next (a.put o.dst v) W):o.wpIn (jY r) n P a w next Q:=by
 refine⟨λ_ _=>trivial,?_⟩;rw[Oper.semAt_eq _ _ _ d,b];exact h
theorem SX(z:fT P){cf:dZ}(s:sW P gl cf){r:Option Nat}{n:Nat}{ρ:Operand->Value}{a:Act}{h:ae}{w:World}{o:Oper}{v:Value}{u:dM}(q:ko β h w)(B:Gl gl β)(k:∀x,aD β (ρ x) (a.eval x))
  (j:gp P cf ρ o h=some (v,u)) (next:Act->World->Prop) (Q:Exit->Act->World->Prop)
  (l:∀i d b,Step β h w b (u.app h) d->aD b v i->next (a.put o.dst i) d):o.wpIn (jY r) n P a w next Q:=by
 refine⟨λ_ _=>trivial,?_⟩;have m:∀c,o.op≠ .defer c:=by
  intro c g;simp[gp,g]at j
 rw[Oper.semAt_eq _ _ _ m];by_cases g:bN o=false
 ·obtain⟨i,d,b,e,t,p⟩:=zL k g q j;rcases e with e|⟨e,rfl⟩
  ·rw[e];exact l i d b t p
  ·rw[e];exact l undef d b t p
 ·unfold bN at g;split at g
  ·next f A C y=>
   simp only[gp,y]at j;exact IT z s y q B k j next Q l
  grind
open Classical in
noncomputable def only(o:Oper)(ρ:Operand->Value):Operand->Value:=λx=>if x∈o.op.operands then ρ x else hH
theorem BL{o:Oper}{ρ:Operand->Value}:∀x∈o.op.operands,ρ x=only o ρ x:=λx a=>by grind[only]
theorem T7{o:Oper}{ρ:Operand->Value}(h:∀x∈o.op.operands,aD β (ρ x) (r x)):∀x,aD β (only o ρ x) (r x):=λx=>by
 unfold only;split
 ·grind
 ·exact .hH _
section
variable {cf:dZ} {ops:Array Oper} {bf:Nat->Nat->Bool} {st:Nat->KX} {en:Nat->sD}
structure Inv(ops:Array Oper)(bf:Nat->Nat->Bool)(st:Nat->KX)(en:Nat->sD)(β₀:dH)(h:ae)(w₀:World)(a₀:Act)(pre:List Nat)(β:dH)(w:World)(a:Act)(c:Nat)(R:List (Nat×dS)):Prop where
 le:c<=ops.size
 Ew:∀e,e<ops.size->(en e).fB=true->(e∈pre↔e<c)
 mem:∀i B,(i,B)∈R↔i∈pre/\A8 bf en c i B
 step:Step β₀ h w₀ β (cj (st c).2.1 h.next R) w
 room:h.next+ops.size<=(st c).2.1.next
 JJ:∀i B,i<ops.size->(st c).2.1.get (h.next+i)=some B->∃e,e<c/\(en e).fB=true/\bf e i=true
 free:∀i,i<ops.size->i∉pre->(∃B v,en i = .alloc B v)->β (h.next+i)=none
 Rz:RU ops en (st 0).1 pre β a
 dfs:a.defers=a₀.defers
theorem A8.XG{c:Nat}{a:dS}(h:A8 bf en c i I)(b:A8 bf en c i a):I=a:=by
 obtain⟨v,d⟩:=h.1;obtain⟨f,e⟩:=b.1
 grind
variable {β₀:dH} {h:ae} {w₀:World} {a₀:Act} {pre:List Nat} {w:World} {a:Act} {c:Nat} {R:List (Nat×dS)}
theorem Inv.none_(b:Inv ops bf st en β₀ h w₀ a₀ pre β w a c R){i:Nat}{B:dS}(j:i<ops.size)(l:A8 bf en c i B):(st c).2.1.get (h.next+i)=none:=by
 cases m:(st c).2.1.get (h.next+i)with
 |none=>rfl
 |some k=>
  obtain⟨e,f,g,d⟩:=b.JJ i k j m;rw[l.2 e f g]at d;grind
theorem Inv.get(b:Inv ops bf st en β₀ h w₀ a₀ pre β w a c R)(e:∀i∈pre,i<ops.size)(k:Nat)(B:dS):
  (cj (st c).2.1 h.next R).get k=some B↔(st c).2.1.get k=some B\/ ∃i,k=h.next+i/\(i,B)∈R:=
 oV R (λi B g d f=>((b.mem i B).1 d).2.XG ((b.mem i g).1 f).2) (λi B d=>b.none_ (e i ((b.mem i B).1 d).1) ((b.mem i B).1 d).2) k B
theorem Inv.sub(d:Inv ops bf st en β₀ h w₀ a₀ pre β w a c R)(b:∀i∈pre,i<ops.size):ko β (st c).2.1 w:=
 d.step.pC.sub (hK R).symm λk B e=>(d.get b k B).2 (.inl e)
theorem Inv.calm(n:Ci ops bf)(b:Inv ops bf st en β₀ h w₀ a₀ pre β w a c R){j:Nat}{o:Oper}(q:ops[j]?=some o)(s:(en j).fB=false)(r:∀B v,en j≠ .alloc B v){g:Value}(k:aD β (en j).val g):
  Inv ops bf st en β₀ h w₀ a₀ (pre++[j]) β w (a.put o.dst g) c R where
 le:=b.le
 Ew:=λe p l=>by
  rw[mem_append,b.Ew e p l]
  grind
 mem:=λi B=>by
  rw[b.mem,mem_append];refine⟨λ⟨d,f⟩=>⟨.inl d,f⟩,λ⟨d,f⟩=>⟨?_,f⟩⟩;rcases d with d|d
  ·omega
  ·simp only[mem_singleton]at d;subst d;obtain⟨v,k⟩:=f.1
   grind
 step:=b.step
 room:=b.room
 JJ:=b.JJ
 free:=λi d f=>b.free i d λm=>f (mem_append_left _ m)
 Rz:=b.Rz.put n q k
 dfs:=(put_defers a o.dst g).trans b.dfs
theorem I1(hN:fT P)(y9:sW P gl cf)(z:Ci ops bf)(A:Np P gl cf ops bf h.next st en)(x8:(st 0).2.2=[]){L:List Nat}(C:GL ops L){r:Option Nat}{n:Nat}{Q:Exit->Act->World->Prop}(x6:Gl gl β₀)
  (hk:∀a' w' I,Step β₀ h w₀ I (cj (st ops.size).2.1 h.next (st ops.size).2.2) w'->bp I (st ops.size).1 a'.tmps.toList->a'.defers=a₀.defers->Q .normal a' w'):
  ∀(J pre:List Nat)(β:dH)(w:World)(a:Act)(c:Nat)(R:List (Nat×dS)),L=pre++J->Inv ops bf st en β₀ h w₀ a₀ pre β w a c R->wpOpsIn (jY r) n P ops Q J a w
 | [],pre,β,w,a,c,R,O,d=>by
  rw[append_nil]at O;subst O;have E:∀i∈L,i<ops.size:=λi hi=>(C.mem i).1 hi;have M:∀e,c<=e->e<ops.size->(en e).fB=false:=λe b g=>by
   cases x3:(en e).fB with
   |false=>rfl
   |true=>have:=(d.Ew e g x3).1 ((C.mem e).2 g);omega
  have u1:=d.le;have W:(st ops.size).2.1=(st c).2.1:=by
   have:=A.zX (c:=c) (ops.size-c) (by omega) λe b g=>M e b (by omega);rwa[show c+(ops.size-c)=ops.size by omega]at this
  have y5:∀i B,A8 bf en ops.size i B↔A8 bf en c i B:=λi B=>by
   refine⟨λhp=>⟨hp.1,λe b=>hp.2 e (by omega)⟩,λhp=>⟨hp.1,λe b g=>hp.2 e ?_ g⟩⟩
   grind
  have K:∀i B,(i,B)∈(st ops.size).2.2↔(i,B)∈R:=λi B=>by
   rw[A.aaP z x8 ops.size (Nat.le_refl _),d.mem,y5,C.mem]
  have z1:=d.get E;have y6:∀k B,(cj (st ops.size).2.1 h.next (st ops.size).2.2).get k=some B↔(st c).2.1.get k=some B\/ ∃i,k=h.next+i/\(i,B)∈(st ops.size).2.2:=by
   rw[W];exact oV _ (λi B X b g=>((d.mem i B).1 ((K i B).1 b)).2.XG ((d.mem i X).1 ((K i X).1 g)).2)
    (λi B b=>d.none_ (E i ((d.mem i B).1 ((K i B).1 b)).1) ((d.mem i B).1 ((K i B).1 b)).2)
  have hS:ze (cj (st c).2.1 h.next R) (cj (st ops.size).2.1 h.next (st ops.size).2.2):=by
   refine⟨by grind[hK],λk=>Option.ext λB=>?_⟩;rw[z1,y6];simp only[K]
  refine hk a w β (d.step.same (ze.refl h) hS) ?_ d.dfs;refine⟨?_,λt v v' b g=>?_⟩
  ·rw[A.mO _ (Nat.le_refl _),length_toList,d.Rz.1]
  ·rw[getElem?_toList]at g;obtain⟨y,x⟩:=d.Rz.2 t v' g;have z5:t<(st 0).1.length:=by rw[<-A.mO _ (Nat.le_refl _)];exact(List.getElem?_eq_some_iff.1 b).1
   by_cases T:∃(i:Nat)(o:Oper),ops[i]?=some o/\o.dst=some t
   ·obtain⟨i,o,q,hd⟩:=T;have hi:i<ops.size:=(Array.getElem?_eq_some_iff.1 q).1;rw[A.HR z z5 q hd _ (Nat.le_refl _) hi]at b;obtain rfl:=oI b;exact y i o ((C.mem i).2 hi) q hd
   ·rw[A.M3 t _ (Nat.le_refl _) λi o _ q hd=>T ⟨i,o,q,hd⟩]at b
    grind
 | j::J,pre,β,w,a,c,R,O,d=>by
  have E:∀i∈pre,i<ops.size:=λi hi=>(C.mem i).1 (by grind);have hj:j<ops.size:=(C.mem j).1 (by grind);have y0:j∉pre:=λhm=>by
   have z9:=C.nodup
   grind
  have x2:∀i,bf j i=true->i∈pre:=z.Rj L C pre j J O;have y8:∀i∈pre,bf i j=false:=λi hi=>by
   cases hb:bf i j with
   |false=>rfl
   |true=>
    obtain⟨p1,p2,rfl⟩:=List.append_of_mem hi;exact absurd (mem_append_left _ (z.Rj L C p1 i (p2++j::J) (by grind) j hb)) y0
  have q:=Array.getElem?_eq_getElem hj;generalize ops[j]=o at q;have m:=A.one j o q;have hg:Gl gl β:=x6.mono d.step.le;have z2:=d.Rz.aem z A C O hg q;have x5:=T7 z2;have N:=I1 hN y9 z A x8 C (r:=r) (n:=n) x6 hk J (pre++[j]);have Z:L=(pre++[j])++J:=by rw[O];simp
  simp only[wpOpsIn,q]
  cases l:en j with
  |skip=>
   rw[l]at m;simp only[One]at m;rw[d.Rz.wanted z A C O q m.1];simp only[false_eq_true,if_false];refine⟨λ_ _=>trivial,?_⟩;exact N β w _ c R Z (d.calm z q (by rw[l];rfl) (by grind) (by rw[l];exact .undef β))
  |pure v=>
   rw[l]at m;simp only[One]at m;obtain⟨T,s,_⟩:=m;rw[d.Rz.wanted z A C O q T];simp only[if_true];rw[Hr BL]at s;obtain⟨v',b,g⟩:=rV x5 s w;refine Al ?_ b (N β w _ c R Z (d.calm z q (by rw[l];rfl) (by rw[l];intro B v h;cases h) (by rw[l];exact g)))
   grind[dr]
  | read v=>
   rw[l]at m;simp only[One]at m;obtain⟨T,_,_⟩:=m;rw[d.Rz.wanted z A C O q T];simp only[if_true];have s:=A.reads j o v q l c d.le
    (λe b g=>y8 e ((d.Ew e (by have:=d.le;omega) g).2 b))
    (λe b g y=>by
     cases hb:bf j e with
     |false=>rfl
     |true=>have:=(d.Ew e g y).1 (x2 e hb);omega)
   rw[Hs BL]at s;obtain⟨v',b,g⟩:=rW x5 (d.sub E) s;refine Al ?_ b (N β w _ c R Z (d.calm z q (by rw[l];rfl) (by rw[l];intro B v h;cases h) (by rw[l];exact g)))
   grind[cW]
  | alloc B v=>
   rw[l]at m;simp only[One]at m;obtain⟨T,⟨f,s,rfl⟩,_⟩:=m;rw[d.Rz.wanted z A C O q T];simp only[if_true];rw[EH BL]at s;obtain⟨v',w',b,g⟩:=pR x5 (w:=w) s;have y3:=d.free j hj y0 ⟨B,_,l⟩;have y7:=d.room;obtain⟨I,y,x,h5,h6⟩:=g.R7 d.step y3 (by omega) (by grind[hK]);refine Al (by grind[bV]) b (N I w' _ c ((j,B)::R) Z ⟨d.le,?_,?_,y,d.room,d.JJ,?_,?_,(put_defers a o.dst v').trans d.dfs⟩)
   ·intro e S G;rw[mem_append,d.Ew e S G];refine⟨λD=>?_,.inl⟩;rcases D with D|D
    ·omega
    ·simp only[mem_singleton]at D;subst D;rw[l]at G;cases G
   ·intro i X;rw[mem_cons,d.mem,mem_append];constructor
    ·rintro(D|⟨S,G⟩)
     ·simp only[Prod.mk.injEq]at D;obtain⟨rfl,rfl⟩:=D;refine⟨.inr mem_cons_self,⟨_,l⟩,λe S G=>y8 e ((d.Ew e (by have:=d.le;omega) G).2 S)⟩
     grind
    ·rintro⟨S|S,G⟩
     ·grind
     ·simp only[mem_singleton]at S;subst S;obtain⟨v2,h9⟩:=G.1
      grind
   ·intro i S G h9;rw[h6 _ λD=>G (by grind)];exact d.free i S (λD=>G (mem_append_left _ D)) h9
   ·exact(d.Rz.mono h5).put z q (by rw[l];exact x)
  | BE v h'=>
   rw[l]at m;simp only[One]at m;have y4:(st (j+1)).2.1=h':=by rw[m.2.2]
   obtain⟨T,⟨u,s,hu⟩,_⟩:=m;rw[d.Rz.wanted z A C O q T];simp only[if_true];have u0:c<=j:=by
    rcases lt_or_ge j c with b|b
    ·exact absurd ((d.Ew j hj (by rw[l];rfl)).2 b) y0
    ·omega
   have M:∀e,c<=e->e<j->(en e).fB=false:=λe b g=>by
    cases x3:(en e).fB with
    |false=>rfl
    |true=>
     have:=(d.Ew e (by omega) x3).1 (x2 e (A.chain e j g hj x3 (by rw[l];rfl)));omega
   have W:(st j).2.1=(st c).2.1:=by
    have:=A.zX (c:=c) (j-c) (by omega) λe b g=>M e b (by omega);rwa[show c+(j-c)=j by omega]at this
   rw[W]at s hu;have Y:∀i B,(i,B)∈(st j).2.2.filter (λp=>bf j p.1)↔A8 bf en c i B/\bf j i=true:=λi B=>by
    rw[List.mem_filter,A.aaP z x8 j (by omega)];constructor
    ·rintro⟨⟨b,g,y⟩,x⟩;exact⟨⟨g,λe h5=>y e (by omega)⟩,x⟩
    ·rintro⟨⟨g,y⟩,x⟩;refine⟨⟨z.lt _ _ x,g,λe h5 h6=>?_⟩,x⟩
     grind
   generalize (st j).2.2.filter (λp=>bf j p.1)=F at Y s hu;have x1:=oV (h:=(st c).2.1) (base:=h.next) F (λi B X b g=>((Y i B).1 b).1.XG ((Y i X).1 g).1)
    (λi B b=>d.none_ (by grind) ((Y i B).1 b).1)
   have x4:=d.get E;have z3:ko β (cj (st c).2.1 h.next F) w:=d.step.pC.sub (by grind[hK]) λk B z4=>by
    rw[x4];rcases(x1 k B).1 z4 with b|⟨i,b,g⟩
    ·grind
    ·exact .inr ⟨i,b,(d.mem i B).2 ⟨x2 i ((Y i B).1 g).2,((Y i B).1 g).1⟩⟩
   rw[JN BL]at s;refine SX hN y9 z3 hg x5 s _ _ λv' w' I U hv=>?_;rw[<-hu,<-y4]at U;have y7:=d.room;have x9:(cj (st c).2.1 h.next F).next=(st c).2.1.next:=hK F;have H:∀i B,(i,B)∈R.filter (λp=> !bf j p.1)↔i∈pre/\A8 bf en c i B/\bf j i=false:=λi B=>by
    rw[List.mem_filter,d.mem];grind
   have z7:∀i B,(i,B)∈R.filter (λp=> !bf j p.1)->(cj (st c).2.1 h.next F).get (h.next+i)=none:=λi B hm=>by
    obtain⟨b,g,y⟩:=(H i B).1 hm
    cases z0:(cj (st c).2.1 h.next F).get (h.next+i)with
    |none=>rfl
    |some X=>
     rcases(x1 _ _).1 z0 with x|⟨i',x,h5⟩
     ·rw[d.none_ (E i b) g]at x;cases x
     grind
   have y2:∀k B,(st (j+1)).2.1.get k=some B->k<(st c).2.1.next->∃x0,(cj (st c).2.1 h.next F).get k=some x0:=λk B b g=>U.keys k B b (by omega);have z6:=oV (h:=(st (j+1)).2.1) (base:=h.next) (R.filter λp=> !bf j p.1) (λi B X b g=>((H i B).1 b).2.1.XG ((H i X).1 g).2.1)
    (λi B hm=>by
     cases z0:(st (j+1)).2.1.get (h.next+i)with
     |none=>rfl
     |some X=>grind)
   have x7:=U.frame (V:=cj (st c).2.1 h.next R) (V':=cj (st (j+1)).2.1 h.next (R.filter λp=> !bf j p.1)) d.step.pC (by grind[hK]) (hK _)
    (λk B=>∃i,k=h.next+i/\(i,B)∈R.filter λp=> !bf j p.1)
    (λk B ⟨i,b,g⟩=>by grind)
    (λk B=>by
     rw[x4,x1];constructor
     ·rintro(b|⟨i,b,g⟩)
      ·grind
      ·obtain⟨y,x⟩:=(d.mem i B).1 g
       grind
     ·rintro((b|⟨i,b,g⟩)|⟨i,b,g⟩)
      ·exact .inl b
      ·exact .inr ⟨i,b,(d.mem i B).2 ⟨x2 i ((Y i B).1 g).2,((Y i B).1 g).1⟩⟩
      grind)
    z6
   have y1:=U.next;rw[x9]at y1;refine N I w' _ (j+1) _ Z ⟨by omega,?_,?_,d.step.trans x7,by omega,?_,?_,(d.Rz.mono U.le).put z q (by rw[l];exact hv),(put_defers a o.dst v').trans d.dfs⟩
   ·intro e b g;rw[mem_append,d.Ew e b g,mem_singleton]
    grind
   ·intro i B;rw[H,mem_append];constructor
    ·rintro⟨b,⟨g,y⟩,x⟩;refine⟨.inl b,g,λe h5 h6=>?_⟩
     grind
    ·rintro⟨b,⟨v2,g⟩,y⟩;rcases b with b|b
     ·exact⟨b,⟨⟨v2,g⟩,λe x=>y e (by omega)⟩,y j (by omega) (by rw[l];rfl)⟩
     grind
   ·intro i B b g;obtain⟨x0,y⟩:=y2 _ _ g (by omega);rcases(x1 _ _).1 y with x|⟨i',x,h5⟩
    ·obtain⟨e,h6,S,G⟩:=d.JJ i x0 b x
     grind
    ·obtain rfl:i=i':=by omega
     exact⟨j,by omega,by rw[l];rfl,((Y _ _).1 h5).2⟩
   ·intro i b g y;have z8:=d.free i b (λD=>g (mem_append_left _ D)) y
    cases hb:I (h.next+i)with
    |none=>rfl
    |some sl=>
     rcases U.fresh _ sl hb with x|⟨x,_⟩
     all_goals grind
end
end
variable{h:ae}{g:ae}{k:Nat}{j:Nat}{x:List Nat}
section
variable {P:Program} {gl:Nat->Bool}
theorem xk:∀{x y:List (Value×Value)},zw x y=true->x=y
 |[],[],_=>rfl
 |[],_::_,h=>by grind[zw]
 |_::_,[],h=>by grind[zw]
 |(a,b)::x,(c,d)::y,h=>by
  simp only[zw,and_eq_true]at h;rw[oB _ _ _ h.1.1,oB _ _ _ h.1.2,xk h.2]
theorem IN{C:dS}(h:Sy I C=true):I=C:=by
 unfold Sy at h;split at h
 ·simp only[and_eq_true,Nat.beq_eq,beq_iff_eq]at h;obtain⟨⟨⟨a,rfl⟩,rfl⟩,rfl⟩:=h;rw[ur (oB 4) a]
 all_goals grind[xk]
theorem Cn(e:WO h g k=true):h.get k=g.get k:=by grind[IN,WO]
def OD(a:ae)(s:KP):Prop:=s.2.1.next=a.next/\∀k,k∉s.2.2->s.2.1.get k=a.get k
theorem OD.lay{s:KP}(h:OD g s)(c:Option Tmp)(v:Value)(u:Option (Nat×dS)):OD g (Jt s c v u):=by
 cases u with
 |none=>exact h
 |some p=>
  obtain⟨k,b⟩:=p;refine⟨h.1,λj a=>?_⟩;simp only[Jt,mem_cons,not_or]at a;show(s.2.1.set k b).get j=_;rw[ae.aw,if_neg a.1];exact h.2 j a.2
theorem Gc{ops:Array Oper}{base:Nat}{s b:KP}(h:OD g s)(a:Kv P gl ops base j s=some b):OD g b:=by
 unfold Kv at a;split at a
 ·split at a
  ·split at a
   ·obtain rfl:=oI a;exact h.lay _ _ _
   ·cases a
  ·obtain rfl:=oI a;exact h.lay _ _ _
  ·cases a
 grind
theorem Gi{ops:Array Oper}{base:Nat}{a:ae}:∀(n j:Nat){s c:KP},OD a s->KA P gl ops base n j s=some c->OD a c
 |0,_,_,_,h,b=>by simp_all[KA]
 |n+1,j,s,c,h,b=>by
  simp only[KA]at b;split at b
  ·next e d=>exact Gi n (j+1) (Gc h d) b
  grind
theorem Ja{s a:KP}(h:OD g s)(b:OD g a)(e:SY s a=true):s.1=a.1/\ze s.2.1 a.2.1:=by
 unfold SY at e;simp only[and_eq_true]at e;obtain⟨⟨c,j⟩,i⟩:=e;refine⟨ur (oB 4) c,h.1.trans b.1.symm,λk=>?_⟩;by_cases f:k∈s.2.2
 ·grind[Cn]
 ·by_cases d:k∈a.2.2
  ·grind[Cn]
  ·rw[h.2 k f,b.2 k d]
theorem GL.length{ops:Array Oper}(h:GL ops x):x.length=ops.size:=by
 have:=((List.perm_ext_iff_of_nodup h.nodup List.nodup_range).2 λi=>by rw[h.mem,mem_range]).length_eq
 grind
theorem X6:sW P gl ji:=⟨(by intro f a h v c _ b;cases b),(by intro k a h v c b;cases b)⟩
theorem PX(S:fT P){ops:Array Oper}(R:Ci ops (eY (lF ops))){L:List Nat}(J:GL ops L){r:Option Nat}{n:Nat}{Q:Exit->Act->World->Prop}{base:Nat}{fin:KP}{K hb:ae}{D:dH}{V:World}{a₀:Act}(k:Gl gl D)
  (g:hb.next=base+ops.size) (G:K.next<=base) (t:OD hb fin)
  (T:∀W H y,Step D K V y fin.2.1 H->bp y fin.1 W.tmps.toList->W.defers=a₀.defers->Q .normal W H):
  ∀(e b:List Nat)(q:dH)(w:World)(a:Act)(s:KP),L=b++e->R0 P gl ops (eY (lF ops)) base fin e.length b.reverse s=true->OD hb s->Step D K V q s.2.1 w->
   (∀i,i<ops.size->i∉b->q (base+i)=none)->bp q s.1 a.tmps.toList->a.defers=a₀.defers->wpOpsIn (jY r) n P ops Q e a w
 |[],b,q,w,a,s,he,hA,A,m,C,F,M=>by
  obtain⟨e1,e2⟩:=Ja t A hA;refine T a w q (m.same (ze.refl _) e2.symm) (by grind) M
 | j::e,b,q,w,a,s,he,hA,A,m,C,F,M=>by
  have hj:j<ops.size:=(J.mem j).1 (by grind);have x4:j∉b:=λhm=>by
   have x5:=J.nodup
   grind
  have x6:∀i,eY (lF ops) j i=true->i∈b:=R.Rj L J b j e he;simp only[length_cons,R0]at hA;have l:=all_eq_true.1 hA j (mem_range.2 hj);simp only[Bool.or_eq_true]at l;rcases l with(l|l)|l
  ·grind
  ·grind
  ·split at l
   ·next s' p=>
    have d:=Gc A p;have ho:=Array.getElem?_eq_getElem hj;generalize ops[j]=o at ho;unfold Kv at p;rw[ho]at p;dsimp only at p;have I:L=(b++[j])++e:=by rw[he];simp
    have z:(b++[j]).reverse=j::b.reverse:=by simp
    have h:∀i,i<ops.size->i∉b++[j]->q (base+i)=none:=λi l X=>C i l λhh=>X (mem_append_left _ hh);have hg:Gl gl q:=k.mono m.le;simp only[wpOpsIn,ho];split at p
    ·next hw=>
     rw[mP F hw];simp only[if_true];split at p
     ·next v u c=>
      obtain rfl:=oI p;have O:=zx (β:=q) hg F;unfold acO at c;split at c
      ·next v0 x=>
       simp only[Option.some.injEq,Prod.mk.injEq]at c;obtain⟨rfl,rfl⟩:=c;obtain⟨N,Y,U⟩:=rV O x w;refine Al (by intro cc Z;simp[dr,Z]at x) Y (PX S R J k g G t T e (b++[j]) q w _ _ I (by rw[z];exact l) d m h (lV F o.dst U) ((put_defers a o.dst N).trans M))
      ·split at c
       ·next v0 x=>
        simp only[Option.some.injEq,Prod.mk.injEq]at c;obtain⟨rfl,rfl⟩:=c;obtain⟨N,Y,U⟩:=rW O m.pC x;refine Al (by intro cc Z;simp[cW,Z]at x) Y (PX S R J k g G t T e (b++[j]) q w _ _ I (by rw[z];exact l) d m h (lV F o.dst U) ((put_defers a o.dst N).trans M))
       ·split at c
        ·next B f x=>
         simp only[Option.some.injEq,Prod.mk.injEq]at c;obtain⟨rfl,rfl⟩:=c;obtain⟨N,H,Y,U⟩:=pR O (w:=w) x;obtain⟨y,g3,g4,g5,g6⟩:=U.R7 m (C j hj x4) (by omega) (by rw[A.1,g];omega);refine Al (by intro cc Z;simp[bV,Z]at x) Y (PX S R J k g G t T e (b++[j]) y H _ _ I (by rw[z];exact l) d g3 ?_ (lV (F.mono g5) o.dst g4) ((put_defers a o.dst N).trans M));intro i X h3;rw[g6 _ λhh=>h3 (by rw[show i=j by omega];simp)];exact h i X h3
        ·have x0:∀{u':dM}{v:Value},gp P ji (ev gl s.1) o s.2.1=some (v,u')->u'.app s.2.1=(Jt s o.dst v u).2.1->(Jt s o.dst v u).1=jx s.1 o.dst v->R0 P gl ops (eY (lF ops)) base fin e.length (j::b.reverse) (Jt s o.dst v u)=true->OD hb (Jt s o.dst v u)->
           o.wpIn (jY r) n P a w (λW H=>wpOpsIn (jY r) n P ops Q e W H) Q:=by
          intro u' v c hu x2 l d;refine SX S X6 m.pC hg O c _ _ λN H y E hv=>?_;rw[hu]at E;refine PX S R J k g G t T e (b++[j]) y H _ _ I (by rw[z];exact l) d (m.trans E) (λi X h3=>?_) (by rw[x2];exact lV (F.mono E.le) o.dst hv) ((put_defers a o.dst N).trans M);have x1:=h i X h3
          cases x3:y (base+i)with
          |none=>rfl
          |some sl=>
           rcases E.fresh _ sl x3 with h4|⟨h4,_⟩
           ·rw[x1]at h4;cases h4
           ·rw[A.1,g]at h4;omega
         split at c
         ·next v0 x=>
          simp only[Option.some.injEq,Prod.mk.injEq]at c;obtain⟨rfl,rfl⟩:=c;exact x0 x rfl rfl l d
         ·next v0 k0 b0 x=>
          simp only[Option.some.injEq,Prod.mk.injEq]at c;obtain⟨rfl,rfl⟩:=c;exact x0 x rfl rfl l d
         ·cases c
     ·cases p
    ·next hw=>
     obtain rfl:=oI p;rw[mP F hw];simp only[false_eq_true,if_false];refine⟨λ_ _=>trivial,?_⟩;exact PX S R J k g G t T e (b++[j]) q w _ _ I (by rw[z];exact l) d m h (lV F o.dst (.undef q)) ((put_defers a o.dst undef).trans M)
    ·cases p
   grind
end
variable{J:dH}
section
variable {P:Program} {gl:Nat->Bool}
theorem Step.room{w:World}(a:ko J h w)(m:Nat):Step J h w J { h with next:=h.next+m } w:=
 ⟨J.le_refl,le_add_right _ _,⟨λk c b=>⟨lt_of_lt_of_le (a.lt k c b).1 (le_add_right _ _),(a.lt k c b).2⟩,a.blk,a.own,λk B b=>lt_of_lt_of_le (a.wf k B b) (le_add_right _ _)⟩,Nat.le_refl _,rfl,.refl _,rfl,
  λ_ _ _=>rfl,λ_ _ h=>h,λ_ _ h=> .inl h,λ_ B h _=>⟨B,h⟩⟩
theorem SW(C:fT P){D:dZ}(A:sW P gl D){H:Nat}{ops:Array Oper}(p:Ci ops (eY (lF ops)))(z:KW ops)(y:Region.departs ops=true->(Region.linearise .gc ops 0).length=ops.size):
  mR P gl D (.region H ops true):=by
 intro O J E b I N a h V w r n Q d e F u K
 cases E
 refine wpIn_region_draw λt=>?_;have c:Step b h w b { h with next:=h.next+ops.size } { w with drawn:=w.drawn+1 }:=
  (Step.of_heap e rfl rfl ⟨rfl,le_succ _⟩ rfl:Step b h w b h { w with drawn:=w.drawn+1 }).trans (Step.room (w:={ w with drawn:=w.drawn+1 }) (e.of_heap rfl) ops.size)
 unfold I0 at d;split at d
 ·unfold Zx at d;split at d
  ·next k m=>
   split at d
   ·next s=>
    simp only[Option.some.injEq,Prod.mk.injEq]at d;obtain⟨rfl,rfl⟩:=d;have g:=vL z y (P.follows .mixedOrders) t;have f:OD { h with next:=h.next+ops.size } (I,{ h with next:=h.next+ops.size },[]):=⟨rfl,λ_ _=>rfl⟩
    have l:(Region.schedule (P.follows .mixedOrders) ops t).length=ops.size:=g.length;exact PX C p g (base:=h.next) (fin:=k) (a₀:=a) F rfl (Nat.le_refl _) (Gi _ _ f m) K _ [] b _ a _ rfl (by rw[l];exact s) f c (λi q _=>e.mI (by omega)) u rfl
   ·cases d
  grind
 have c:True:=trivial;obtain⟨W,S,L,j,T,U⟩:=IZ p d;have g:=vL z y (P.follows .mixedOrders) t;have c:Step b h w b { h with next:=h.next+ops.size } { w with drawn:=w.drawn+1 }:=
  (Step.of_heap e rfl rfl ⟨rfl,le_succ _⟩ rfl:Step b h w b h { w with drawn:=w.drawn+1 }).trans (Step.room (w:={ w with drawn:=w.drawn+1 }) (e.of_heap rfl) ops.size)
 refine I1 (β₀:=b) (h:=h) (w₀:=w) (a₀:=a) C A p L (by rw[j]) g F ?_ _ [] b _ a 0 [] rfl ⟨Nat.zero_le _,?_,?_,?_,?_,?_,?_,?_,rfl⟩
 ·grind
 ·grind
 ·grind
 ·rw[j];exact c
 ·grind
 ·intro i B q x;rw[j]at x;have:h.get (h.next+i)=some B:=x;have:=e.wf _ _ this;omega
 ·intro i q _ _;exact e.mI (by omega)
 ·rw[j];refine⟨by rw[u.1,length_toList],λt M R=>⟨λi o q=>by grind,λ_ v G=>?_⟩⟩;exact u.2 t v M G (by grind)
theorem Jl(g:Nat->Nat)(i:Nat):∀(a:List Edge)(s:Nat),(a.foldl (λs e=>if Region.binds .any e then s|||2^e.on|||g e.on else s) s).testBit i=true↔
  s.testBit i=true\/ ∃e∈a,Region.binds .any e=true/\(e.on=i\/(g e.on).testBit i=true)
 |[],s=>by simp
 |e::a,s=>by
  rw[List.foldl_cons,Jl g i a]
  grind
def tw(a:Array Nat)(o:Oper):Nat:=o.after.foldl (λs e=>if Region.binds .any e then s|||2^e.on|||a.getD e.on 0 else s) 0
theorem Fs:∀(l:List Oper)(a:Array Nat),(l.foldl (λa o=>a.push (tw a o)) a).size=a.size+l.length/\
  (∀i,i<a.size->(l.foldl (λa o=>a.push (tw a o)) a)[i]?=a[i]?)/\
  ∀i o,l[i]?=some o->∃b,(l.foldl (λa o=>a.push (tw a o)) a)[a.size+i]?=some (tw b o)/\∀k,k<a.size+i->b[k]?=(l.foldl (λa o=>a.push (tw a o)) a)[k]?
 |[],a=>⟨by simp,λ_ _=>rfl,λi o h=>by grind⟩
 |o::l,a=>by
  obtain⟨d,e,c⟩:=Fs l (a.push (tw a o))
  grind
theorem OZ(ops:Array Oper):Region.before ops=ops.toList.foldl (λa o=>a.push (tw a o)) #[]:=by
 unfold Region.before;rw[<-Array.foldl_toList];rfl
theorem Xd{ops:Array Oper}(m:KW ops)(j i:Nat):eY (lF ops) j i=true↔ ∃o,ops[j]?=some o/\∃e∈o.after,Region.binds .any e=true/\(e.on=i\/eY (lF ops) e.on i=true):=by
 have q:∀k,(lF ops).getD k 0=(Region.before ops).getD k 0:=λk=>by simp[lF,List.getD,Array.getD_eq_getD_getElem?]
 obtain⟨n,_,f⟩:=Fs ops.toList #[];rw[<-OZ]at n f;simp only[List.size_toArray,List.length_nil,Nat.zero_add,getElem?_toList,length_toList]at n f
 cases g:ops[j]? with
 |none=>grind[eY]
 | some o=>
  obtain⟨d,p,r⟩:=f j o g;simp only[eY,q];rw[Array.getD_eq_getD_getElem?,p,Option.getD_some,tw,<-Array.foldl_toList,Jl (λk=>d.getD k 0)];simp only[Nat.zero_testBit,false_eq_true,false_or,Option.some.injEq,exists_eq_left',Array.mem_toList_iff];constructor
  ·rintro⟨e,c,a,b⟩;refine⟨e,c,a,b.imp id λb=>?_⟩;have l:e.on<j:=by
    rcases m j o g e c with h|⟨h,_⟩
    ·exact h
    ·rw[h]at a;cases a
   simp_all
  ·rintro⟨e,c,a,b⟩;refine⟨e,c,a,b.imp id λb=>?_⟩;have l:e.on<j:=by
    rcases m j o g e c with h|⟨h,_⟩
    ·exact h
    ·rw[h]at a;cases a
   simp_all
theorem KW.lt{ops:Array Oper}(a:KW ops){j:Nat}{o:Oper}(c:ops[j]?=some o){e:Edge}(b:e∈o.after)(d:Region.binds .any e=true):e.on<j:=by
 rcases a j o c e b with h|⟨h,_⟩
 all_goals grind
theorem wZ:∀(l:List Oper)(j:Nat),GO l j=true->∀i o,l[i]?=some o->∀e∈o.after,e.on<j+i\/Region.binds .any e=false/\Region.binds .text e=false
 |[],_,_,i,o,a,_,_=>by grind
 | c::l,j,h,i,o,a,e,b=>by
  simp only[GO,and_eq_true]at h
  cases i with
  |zero=>grind
  |succ i=>
   have:=wZ l (j+1) h.2 i o (by simpa using a) e b
   grind
theorem ud{a:List Nat}{j:Nat}{t:Tmp}:∀(l:List Oper)(k:Nat),ub a j t l k=true->∀i o,l[i]?=some o->o.dst=some t->k+i=j\/eY a j (k+i)=true\/eY a (k+i) j=true
 |[],_,_,i,o,b,_=>by grind
 | d::l,k,h,i,o,b,c=>by
  simp only[ub,and_eq_true]at h
  cases i with
  |zero=>grind
  |succ i=>
   have:=ud l (k+1) h.2 i o (by simpa using b) c
   grind
theorem rY{c:List Nat}{all:List Oper}:∀(l:List Oper)(k:Nat),Ht c all l k=true->∀i o,l[i]?=some o->
  (∀t,Operand.tmp t∈o.op.operands->ub c (k+i) t all 0=true)/\∀g b,o.guard=some (g,b)->eY c (k+i) g=true
 |[],_,_,i,o,a=>by grind
 | e::l,k,h,i,o,a=>by
  simp only[Ht,and_eq_true]at h
  cases i with
  |zero=>
   simp only[List.getElem?_cons_zero,Option.some.injEq]at a;subst a;refine⟨λt d=>?_,λg b f=>?_⟩
   ·exact all_eq_true.1 h.1.1 (.tmp t) (by simpa using d)
   grind
  |succ i=>
   have:=rY l (k+1) h.2 i o (by simpa using a)
   grind
theorem so:∀(l:List Oper)(m:Nat),Aj l m=true->(∀(i:Nat)(o:Oper)(t:Tmp),l[i]?=some o->o.dst=some t->m.testBit t=false)/\
  ∀(i j:Nat)(o a:Oper)(t:Tmp),l[i]?=some o->l[j]?=some a->o.dst=some t->a.dst=some t->i=j
 |[],_,_=>⟨λi o t h=>by grind,λi j o a t h=>by grind⟩
 | x::l,m,h=>by
  cases b:x.dst with
  |none=>
   simp only[Aj,b]at h;obtain⟨c,e⟩:=so l m h
   grind
  |some d=>
   simp only[Aj,b,and_eq_true,Bool.not_eq_true']at h;obtain⟨c,e⟩:=so l _ h.2
   grind
theorem GU{ops:Array Oper}(h:Lz ops=true):Ci ops (eY (lF ops))/\KW ops/\(Region.departs ops=true->(Region.linearise .gc ops 0).length=ops.size):=by
 simp only[Lz,and_eq_true]at h;obtain⟨⟨⟨D,E⟩,I⟩,z⟩:=h;have l:KW ops:=λi o a e d=>by
  have:=wZ ops.toList 0 D i o (by simpa using a) e d;rwa[Nat.zero_add]at this
 have f:=Xd l;have x:∀j i,eY (lF ops) j i=true->i<j:=by
  intro j
  induction j using Nat.strongRecOn with
  |_ j m=>
   intro i s;obtain⟨o,a,e,d,c,hh⟩:=(f j i).1 s;have:=l.lt a d c;rcases hh with hh|hh
   ·omega
   ·have:=m _ this i hh;omega
 refine⟨⟨x,?_,?_,?_,?_,?_⟩,l,?_⟩
 ·intro k
  induction k using Nat.strongRecOn with
  |_ k m=>
   intro j i g A;obtain⟨o,a,e,d,c,hh⟩:=(f k j).1 g;refine(f k i).2 ⟨o,a,e,d,c,.inr ?_⟩;rcases hh with rfl|hh
   ·exact A
   ·exact m _ (l.lt a d c) j i hh A
 ·intro L C q j
  induction j using Nat.strongRecOn generalizing q with
  |_ j m=>
   intro p r i s;obtain⟨o,a,e,d,c,hh⟩:=(f j i).1 s;have y:=C.adY q j p r o a e d c;rcases hh with rfl|hh
   ·exact y
   ·obtain⟨G,B,rfl⟩:=List.append_of_mem y;exact mem_append_left _ (m _ (l.lt a d c) G (B++j::p) (by rw[r];simp) i hh)
 ·intro j o t a v i u n F;have g:=(rY ops.toList 0 z j o (by simpa using a)).1 t v;rw[Nat.zero_add]at g;have:=ud ops.toList 0 g i u (by simpa using n) F;rwa[Nat.zero_add]at this
 ·intro j o i b a H;have g:=(rY ops.toList 0 z j o (by simpa using a)).2 i b H;rwa[Nat.zero_add]at g
 ·intro i j o u t a n v w;exact(so ops.toList 0 E).2 i j o u t (by simpa using a) (by simpa using n) v w
 grind
theorem sL(k:fT P){b:dZ}(e:sW P gl b):∀{d c:Code},Part d c->cP c=true->mR P gl b d:=by
 have n:∀c,cP c=true->mR P gl b c:=by
  intro c h i ops f;subst f;obtain⟨j,l,g⟩:=GU h;exact SW k e j l g i ops rfl
 intro d c m
 induction m with
 |refl=>grind
 |ML _ a=>simp_all[cP]
 |HM _ a=>simp_all[cP]
 |Zv _ a=>simp_all[cP]
 |Zt _ a=>simp_all[cP]
 |block _ a=>grind[cP]
 |loop _ a=>grind[cP]
theorem rC(b:fT P):EV P gl:=λ_ a _ _ c h=>sL b a c h
def fH(a:Func):Bool:=match a.body with|some c=>cP c|none=>true
theorem IG(i:fT P)(h:∀(f:FuncId) (a:Func),P.funcs[f]?=some a->fH a=true):H9 P gl:=λj b f a c d g e k=>by grind[sL,fH]
end
variable{P:Program}
section
theorem C9{cf:dZ}{ρ:Operand->Value}{o:Oper}{h:ae}(g:bN o=false):gp P ji ρ o h=gp P cf ρ o h:=by
 obtain⟨dst,d,ty,pos,after,guard⟩:=o
 cases d<;>try rfl
 rename_i c;obtain⟨a,e,i⟩:=c
 cases a with
 |value f=>simp[bN]at g
 |invoke r m=>rfl
 |builtin b=>cases b<;>rfl
theorem Md{cf:dZ}{ρ:Operand->Value}{o:Oper}{h:ae}(a:bN o=false):dV P ji ρ o h=dV P cf ρ o h:=by
 unfold dV;rw[C9 a]
variable {cf:dZ} {ρ:Operand->Value} {h:ae} {K:Value->ae->Bool} {dst:Option Tmp} {ty:TypeId} {pos:String} {after:Array Edge} {guard:Option (Nat×Bool)}
end
variable{f:FuncId}{F:Func}
section
variable {β:dH} {P:Program} {gl:Nat->Bool}
theorem vE{e:Array Value->Sem Value}{p:uV}(l:P.funcs[f]?=some F)(g:(F.name == "runtime.NumGoroutine")=false) (m:F.body.isNone=true) (n:Extern.findNext F=none) (u:Extern.find F=some e)
  (h:∀k b h v i,p k b h=some (v,i)->∀β w (a:Array Value),ko β h w->bp β b a.toList->∃j d c,(e a).run P w = .ok j d/\Step β h w c i d/\aD c v j):oP P gl f p:=by
 intro k _ b r v i y β w a q _ x;obtain⟨j,d,c,s,t,o⟩:=h k b r v i y β w a q x;refine⟨F,l,.inr ⟨j,d,c,?_,t,o⟩⟩;rw[run_callFunc_extern l g m n u,s];rfl
def qL:uV:=λ_ a h=>match a with
 |[v]=>some (v,h)
 |_=>none
theorem JI{fn:Func}(i:P.funcs[f]?=some fn)(a:(fn.name == "runtime.NumGoroutine")=false) (g:fn.body.isNone=true) (d:Extern.findNext fn=none) (l:Extern.find fn=some Extern.AbiNoEscape.same):oP P gl f qL:=by
 refine vE i a g d l λq n h v p c β w b k m=>?_;unfold qL at c;split at c
 ·next u=>
  simp only[Option.some.injEq,Prod.mk.injEq]at c;obtain⟨rfl,rfl⟩:=c;obtain⟨e,r,o,j,d⟩:=m.dz;obtain rfl:=d.fw;obtain rfl:b = #[e]:=by
   have:=congrArg List.toArray o;simpa using this
  exact⟨e,w,β,rfl,Step.refl k,j⟩
 grind
noncomputable def findAt(c:Nat):List UInt8->Nat->Int
 |[],_=> -1
 |b::l,i=>if b.toNat=c then i else findAt c l (i+1)
noncomputable def pw:uV:=λ_ a h=>match a with
 |[.string s,.int .u8 c]=>if 0<=c/\c<256 then some (.int .i64 (findAt c.toNat s.data.toList 0),h)else none
 |_=>none
theorem Pg(s:ByteArray)(c:Nat)(p:c<256):findAt c s.data.toList 0=firstIdx s c.toUInt8:=by
 have f:∀(l:List UInt8)(i:Nat),s.data.toList.drop i=l->findAt c l i=match (List.range' i l.length).find? λj=>s[j]! == c.toUInt8 with|some j=>(j:Int)|none=> -1:=by
  intro l
  induction l with
  |nil=>intro i _;rfl
  | cons b l m=>
   intro i d;have e:i<s.data.toList.length:=by
    rcases lt_or_ge i s.data.toList.length with h|h
    ·exact h
    ·rw[drop_eq_nil_of_le h]at d;cases d
   have k:s[i]! = b:=by
    have n:s.data.toList[i]?=some b:=by
     have:(s.data.toList.drop i)[0]?=some b:=by rw[d];rfl
     rw[getElem?_drop]at this;simpa using this
    have g:i<s.size:=by simpa using e
    rw[getElem!_pos s i g];have:s.data[i]?=some b:=by rw[<-getElem?_toList];exact n
    rw[Array.getElem?_eq_getElem (by simpa using e)]at this;exact oI this
   have o:s.data.toList.drop (i+1)=l:=by rw[<-drop_drop,d];rfl
   simp only[findAt,length_cons,range'_succ,List.find?_cons,k];by_cases a:b.toNat=c
   ·have:(b==c.toUInt8)=true:=by
     rw[beq_iff_eq,<-UInt8.toNat_inj];simp[a];omega
    rw[if_pos a,this]
   ·have:(b==c.toUInt8)=false:=by
     rw[beq_eq_false_iff_ne];rintro rfl;apply a;simp;omega
    rw[if_neg a,this];exact m (i+1) o
 rw[f s.data.toList 0 rfl];unfold firstIdx;rw[List.range_eq_range',show s.data.toList.length=s.size by simp];rfl
theorem G5{fn:Func}(j:P.funcs[f]?=some fn)(b:(fn.name == "runtime.NumGoroutine")=false) (i:fn.body.isNone=true) (e:Extern.findNext fn=none) (n:Extern.find fn=some Extern.BytealgIndexByte.indexByte):oP P gl f pw:=by
 refine vE j b i e n λy p h v u a β w d l o=>?_;unfold pw at a;split at a
 ·next s c=>
  split at a
  ·next A=>
   simp only[Option.some.injEq,Prod.mk.injEq]at a;obtain⟨rfl,rfl⟩:=a;obtain⟨x,r,q,k,e⟩:=o.dz;obtain⟨t,z,rfl,m,g⟩:=e.dz;obtain rfl:=g.fw;obtain rfl:=k.fM;obtain rfl:=m.dX;obtain rfl:d = #[.string s,.int .u8 c]:=by
    have:=congrArg List.toArray q;simpa using this
   refine⟨_,w,β,run_indexByte_string s c w,Step.refl l,?_⟩;rw[Pg s c.toNat (by omega)];exact .int _ _
  ·cases a
 grind
def β0:dH:=λ_=>none
def PU:Nat->Bool:=λ_=>false
theorem ae.get_nil(n k:Nat):(⟨n,.nil⟩:ae).get k=none:=HT.get_nil _
theorem Ob(n:Nat)(w:World):ko β0 ⟨n,.nil⟩ w:=
 {
  lt:=λk a h=>nomatch h
  blk:=λk B a h=>by grind[ae.get_nil]
  own:=λk c B d a b _ h=>by grind[ae.get_nil]
  wf:=λk B h=>by grind[ae.get_nil] }
theorem LO:Gl PU β0:=λg h=>by cases h
open Go.RowKit in
theorem Es{n:Nat}{w a:World}{b:dH}{c:ae}(s:Step β0 ⟨n,.nil⟩ w b c a):Below w.heap.size w a:=
 ⟨s.os,s.tape.1,s.output,s.size,λk d=>s.kept k d λ⟨k,B,f,e,_⟩=>by grind[ae.get_nil]⟩
end
end Go.Ab
end
section
namespace Go.Ab
open Go Go.RowKit
variable{h:ae}{W:World}{c:List Value}{v:Value}{w:Value}
section
variable {β:dH} {P:Program} {gl:Nat->Bool}
theorem vM{e:World}(c:ko β h W)(a:Below W.heap.size W e)(j:W.drawn<=e.drawn):Step β h W β h e:=
 {
  le:=β.le_refl,next:=Nat.le_refl _
  pC:={ lt:=λk d i=>⟨(c.lt k d i).1,lt_of_lt_of_le (c.lt k d i).2 a.size⟩,blk:=λk B d f g=>(c.blk k B d f g).of_heap (a.block _ (c.lt k d g).2),own:=c.own,wf:=c.wf }
  size:=a.size,os:=a.os,tape:=⟨a.tape,j⟩,output:=a.output
  kept:=λb f _=>a.block b f
  back:=λ_ _ h=>h,fresh:=λ_ _ h=> .inl h,keys:=λ_ B h _=>⟨B,h⟩ }
theorem bp.xM{β:dH}(h:c.all bare=true):bp β c c:=by
 induction c with
 |nil=>exact .nil β
 |cons v c a=>
  simp only[all_cons,and_eq_true]at h;exact .cons (.xK h.1) (a h.2)
theorem aD.Xc{β:dH}(a:bare v=true)(h:aD β v w):w=v:=by
 cases h<;>first|rfl|(simp[bare]at a)
end
variable{n:Nat}{f:FuncId}{V:Array Value}
section
variable {β:dH} {P:Program} {gl:Nat->Bool}
noncomputable def wG(P:Program)(gl:Nat->Bool)(e:Func)(k b:Code)(d:Tmp):uV:=λi a h=>
 match bJ P gl i 40 k (a++List.replicate (e.ntmps-a.length) undef) h with
 | some (.normal,f,l)=>if d<f.length then
   match bJ P gl i 40 b (f.set d hH) l with
   |some (.ret,c,g)=>(dE P c g e.results.toList).map λj=>(dJ j,g)
   |_=>none
  else none
 |_=>none
theorem xe{fn:Func}{c:Code}{u:FrameMode}{Bool:Ending->FrameMode->World->Prop}(l:P.funcs[f]?=some fn)(s:fn.body=some c)
  (h:∀(a:Frame)(cs:List Frame),a.mode=u->c.wpS P (bodyPostS P fn a cs Bool) { tmps:=V++Array.replicate (fn.ntmps-V.size) undef,defers:=[] } (a::cs) W):CallsDIn Fence.wide n P f V u W Bool:=by
 refine⟨trivial,λa cs t _=>?_⟩;have r:Frame.enter P f V .deferred=({ (default:Frame)with fn:=f,kind:= .deferred }:Frame).at { tmps:=V++Array.replicate (fn.ntmps-V.size) undef,defers:=[] } [.code c]:=by
  simp[Frame.enter,Frame.at,l,s]
 obtain⟨e,x,w,k,i,b⟩:=h a cs t { (default:Frame)with fn:=f,kind:= .deferred } [] rfl rfl;rw[<-r]at b;rcases e with _|_|_|_|m|_
 ·obtain⟨j,d,rfl,v,q,g⟩:=i;exact⟨.returned v,d,k,_,g,comesIn_wide.2 (Steps.trans b (.one step_end)),rfl,rfl,rfl,j,fn,l,q⟩
 ·exact i.elim
 ·exact i.elim
 ·obtain⟨j,d,rfl,v,q,g⟩:=i;obtain⟨p,o⟩:=b;exact⟨.returned v,d,k,_,g,comesIn_wide.2 o,rfl,rfl,rfl,j,fn,l,q⟩
 ·obtain⟨j,d,rfl,g⟩:=i;obtain⟨p,o⟩:=b;exact⟨.panicked m,d,k,_,g,comesIn_wide.2 o,rfl,rfl,rfl,j,fn,l⟩
 ·obtain⟨d,g⟩:=i;exact⟨.outgrown,d,k,{ (default:Frame)with fn:=f,kind:= .deferred },g,comesIn_wide.2 (b.resolve_left (by simp)),rfl,rfl,trivial⟩
theorem pN{F:Fence}{n:Nat}{l:Func}{e i:dH}{h q:ae}{d:World}{g:Array Value}{Bool:Ending->World->Prop}{s:List Deferred}:
  ∀(f:List Nat)(c:World),f.Nodup->(∀b∈f,d.heap.size<=b/\c.heap[b]?=some (.deferred (some [])))->Step e h d i q c->
   (∀a,Step e h d i q a->(∀b,b∉f->a.heap[b]?=c.heap[b]?)->LeavesInM F n P l g Bool s .returning a)->LeavesInM F n P l g Bool (f.map He++s) .returning c
 |[],c,_,_,k,j=>j c k λ_ _=>rfl
 | b::f,c,v,u,k,j=>by
  obtain⟨w,p⟩:=u b (by simp);obtain⟨y,o⟩:=List.nodup_cons.1 v;refine⟨by simp,.inl ⟨b,_,rfl,run_takeDeferred p,?_⟩⟩;refine pN f _ o (λx z=>?_) (Gd k w p) λa r t=>j a r λx m=>?_
  ·grind[World.putObj_heap_other]
  ·simp only[mem_cons,not_or]at m
   grind[World.putObj_heap_other]
theorem SQ(I:fT P){fW j:FuncId}{s Y:Func}{N l:Code}{i1:Nat}{p m:Oper}{d:Tmp}{g:Array Operand}
  (hf:P.funcs[fW]?=some s) (hb:s.body=some (.seq N (.seq (.region i1 #[p,m] false) l)))
  (W:p.op = .makeFunc (.func j) #[] g) (z1:p.dst=some d) (x8:p.guard=none) (y6:m.op = .defer { callee:= .value (.tmp d),args:= #[],argTypes:= #[] }) (z6:m.guard=none) (z3:m.dst=none)
  (z7:P.funcs[j]?=some Y) (z4:Y.body.isSome=true)
  (R:∀(args:Array Value)(w:World),args.size=g.size->CallsDIn Fence.wide 0 P j args .returning w λe u' w'=>(∃v,e = .returned v)/\u' = .returning/\Below w.heap.size w w'/\w.drawn<=w'.drawn)
  (y0:cP N=true) (y3:cP l=true):oP P gl fW (wG P gl s N l d):=by
 intro cf A args h v h' z β w o hs hg ha;refine⟨s,hf,.inl ⟨by simp[hb],?_⟩⟩;unfold wG at z;split at z
 ·next tm H y7=>
  split at z
  ·next x6=>
   split at z
   ·next z9 B O=>
    obtain⟨vs,x4,he⟩:=map_eq_some_iff.1 z;simp only[Prod.mk.injEq]at he;obtain⟨rfl,rfl⟩:=he;refine(callsIn_wide (n:=0)).1 (callsIn_of_wp_marks (F:=Fence.wide) hf hb trivial ?_);have x1:∀k,bp β (List.replicate k undef) (List.replicate k undef):=λk=>⟨rfl,λi v v' H B=>by
     rw[getElem?_replicate]at H B;split at H
     ·next hi=>rw[if_pos hi]at B;obtain rfl:=oI H;obtain rfl:=oI B;exact .undef β
     ·cases H⟩
    have ht:bp β (args++List.replicate (s.ntmps-args.length) undef) (o++Array.replicate (s.ntmps-o.size) undef).toList:=by
     have:o.size=args.length:=by rw[ha.1];simp
     rw[this];simp only[Array.toList_append,Array.toList_replicate];exact ha.append (x1 _)
    refine wpIn_seq ?_;refine xg (r:=none) I A N (.inl rfl) (kQ (rC I _ A) y0) _ y7 hs hg ht λf x z0 q X z2=>?_;refine wpIn_seq (wpIn_region ?_);have y5:d<f.tmps.size:=by have:=X.1;rw[<-length_toList,<-this];exact x6
    have y8:(f.put (some d) (.func (.func j) #[] (g.map f.eval))).eval (.tmp d) = .func (.func j) #[] (g.map f.eval):=by
     simp[Act.put,Act.eval,y5]
    have y2:Region.wanted p (yielded #[p,m] f.tmps)=true:=by simp[Region.wanted,x8]
    have x7:∀t,Region.wanted m (yielded #[p,m] t)=true:=λt=>by simp[Region.wanted,z6]
    show wpOpsIn (jY none) 0 P #[p,m] _ [0,1] f x;simp only[wpOpsIn,List.getElem?_toArray,List.getElem?_cons_zero,List.getElem?_cons_succ,y2,if_true];refine⟨λ_ _=>trivial,?_⟩;rw[Oper.semAt_eq _ _ _ (λc hc=>by rw[W]at hc;cases hc)];have Q:(execOp f.eval p).run P x = .ok (.value (.func (.func j) #[] (g.map f.eval))) x:=by
     unfold execOp;simp[W,Instr.makeFunc]
    rw[Q];rw[Oper.uponIn_value];rw[z1,if_pos (x7 _)];refine⟨λ_ _=>trivial,?_⟩;have T:(m.semAt (jY none).round (f.put (some d) (.func (.func j) #[] (g.map f.eval))).eval).run P x = .ok (.defer { target:= .fn (.func j) (g.map f.eval),args:= #[] }) x:=by
     show(execOp (f.put (some d) (.func (.func j) #[] (g.map f.eval))).eval m).run P x=_;unfold execOp;simp only[y6,resolve,y8,Deferred.ofValue,Sem.run_bind,Sem.run_pure,Result.andThen_ok];simp
    rw[T];show Code.wpIn (jY none) 0 P l _ ({ (f.put (some d) (.func (.func j) #[] (g.map f.eval)))with defers:={ target:= .fn (.func j) (g.map f.eval),args:= #[] }::(f.put (some d) (.func (.func j) #[] (g.map f.eval))).defers }.put m.dst undef) x;rw[z3];have x2:bp z0 (tm.set d hH) (f.put (some d) (.func (.func j) #[] (g.map f.eval))).tmps.toList:=by
     have:=lV X (some d) (v:=hH) (.hH (.func (.func j) #[] (g.map f.eval)));exact this
    refine xg (r:=none) I A l (.inl rfl) (kQ (rC I _ A) y3) _ O q.pC (hg.mono q.le) (a:={ (f.put (some d) (.func (.func j) #[] (g.map f.eval)))with defers:=_ }) x2 λM S u0 y y4 x9=>?_;have U:=q.trans y;obtain⟨J,C,y9,V⟩:=z2;obtain⟨K,x3,y1,E⟩:=x9;simp only[append_nil]at C;have x0:M.defers=K.map He++({ target:= .fn (.func j) (g.map f.eval),args:= #[] }::J.map He):=by
     rw[x3];show _++(_::(f.put (some d) _).defers)=_;rw[put_defers,C]
    show LeavesInM Fence.wide 0 P s M.tmps (qd β h w (dJ vs) B) M.defers .returning S;rw[x0];refine pN K S y1 (λb D=>⟨Nat.le_trans q.size (E b D).1,(E b D).2.2.1⟩) U λw3 G L=>?_;refine⟨by simp,.inr ⟨λhd=>by simp[Fence.wide]at hd,.func j,g.map f.eval,j,#[]++g.map f.eval,rfl,iC I z7 z4 _ _,λ_ _=>trivial,?_⟩⟩;refine(R (#[]++g.map f.eval) w3 (by simp)).mono ?_;rintro e u' w4 ⟨⟨v,rfl⟩,rfl,u,z5⟩;show LeavesInM Fence.wide 0 P s M.tmps (qd β h w (dJ vs) B) (J.map He) .returning w4;refine rO (P:=P) x4 y4 J w4 y9 (λb D=>⟨(V b D).1,?_⟩) (G.trans (vM G.pC u z5));obtain⟨h4,h5,h6,h7⟩:=V b D;have z8:b<S.heap.size:=lt_of_lt_of_le h5 y.size;have x5:b∉K:=λZ=>by have:=(E b Z).1;omega
    have h8:S.heap[b]?=some (.deferred (some [])):=(y.kept b h5 h7).trans h6;have h9:w3.heap[b]?=some (.deferred (some [])):=(L b x5).trans h8;rw[u.block b ?_,h9];exact(Array.getElem?_eq_some_iff.1 h9).1
   ·cases z
  ·cases z
 grind
end
section
variable {P:Program} {gl:Nat->Bool}
noncomputable def SF{a:Type}(b:Bool)(x y:Option a):Option a:=Bool.rec (motive:=λ_=>Option a) y x b
theorem JS:rf P gl (λ_=>none):=λ_ _ h=>by cases h
theorem oh{p:uV}{c:FuncId->Option uV}(h:oP P gl f p)(d:rf P gl c):rf P gl (λg=>SF (Nat.beq g f) (some p) (c g)):=λg q a=>by
 dsimp only at a
 cases b:Nat.beq g f with
 |false=>rw[b]at a;exact d g q a
 |true=>
  rw[b]at a;obtain rfl:=oI a
  simp_all
structure GK(P:Program):Prop where
 names:fT P
 Zy:∀(f:FuncId)(fn:Func),P.funcs[f]?=some fn->fH fn=true
theorem GK.aej(h:GK P){pr:FuncId->Option uV}(a:rf P gl pr)(n:Nat):sW P gl (bY P gl pr n):=Nw h.names a (IG h.names h.Zy) (rC h.names) n
end
end Go.Ab
end
section
namespace Go.Ab
open Go
variable{d:List Value}{f:FuncId}{w:Value}{P:Program}{F:Func}
section
structure Sx where
 P:Program
 gl:Nat->Bool
 pr:FuncId->Option uV
abbrev Fr:=Nat->Value
def upd(E:Fr)(d:Nat)(v:Value):Fr:=λt=>if t=d then v else E t
def ve(E:Fr)(dst:Option Tmp)(v:Value):Fr:=match dst with
 |some d=>upd E d v
 |none=>E
def fv(gl:Nat->Bool)(E:Fr):Operand->Value
 |.tmp t=>E t
 |.const v=>if plain v then v else hH
 |.global g=>if gl g then .pointer (some ⟨g,0,none⟩)else hH
 |.func f=> .func (.func f) #[] #[]
def ER(nm:Nat)(E:Fr)(a:List Value):Prop:=a.length=nm/\∀t,a.getD t undef=E t
def tk(nm:Nat):Option Tmp->Bool
 |none=>true
 |some d=>decide (d<nm)
theorem ER.ev{nm:Nat}{E:Fr}{a:List Value}(gl:Nat->Bool)(h:ER nm E a):ev gl a=fv gl E:=by
 funext x
 cases x with
 |tmp t=>exact h.2 t
 |const v=>rfl
 |global g=>rfl
 |func f=>rfl
theorem ER.put{nm:Nat}{E:Fr}(h:ER nm E d){dst:Option Tmp}(b:tk nm dst=true)(v:Value):ER nm (ve E dst v) (jx d dst v):=by
 cases dst with
 |none=>exact h
 |some c=>
  have b:c<nm:=by simpa[tk]using b
  refine⟨by simp[jx,h.1],λt=>?_⟩;simp only[jx,ve,upd,gD,List.getElem?_set];by_cases a:t=c
  ·subst a;rw[if_pos rfl,if_pos rfl,if_pos (by rw[h.1];omega)];rfl
  ·rw[if_neg a,if_neg (λe=>a e.symm),<-gD];exact h.2 t
def FR(S:Sx)(f:FuncId)(a:List Value)(h:ae)(v:Value)(b:ae):Prop:=∃c,∀n,c<=n->bY S.P S.gl S.pr n f a h=some (v,b)
def FW(S:Sx)(f:FuncId)(a:List Value)(h:ae)(Q:Value->ae->Prop):Prop:=∃v b,FR S f a h v b/\Q v b
theorem FW.mono{S:Sx}{h:ae}{Q R:Value->ae->Prop}(c:FW S f d h Q)(g:∀v a,Q v a->R v a):FW S f d h R:=by
 obtain⟨v,a,b,e⟩:=c;exact⟨v,a,b,g v a e⟩
abbrev VH:=Value->ae->Prop
abbrev FH:=Fr->ae->Prop
abbrev Ej:=Exit->Fr->ae->Prop
def DV(ops:Array Oper)(E:Fr)(a:Option (Nat×Bool)):Option Bool:=match a with
 |none=>some true
 | some (j,c)=>match (ops[j]?).bind (·.dst)with
  |some d=>match E d with
   |.bool b=>some (b==c)
   |.tuple _=>some false
   |_=>none
  |none=>none
theorem pB{nm:Nat}{E:Fr}(h:ER nm E d)(ops:Array Oper)(o:Oper):jh ops d o=DV ops E o.guard:=by
 unfold jh DV
 cases o.guard with
 |none=>rfl
 |some g=>
  obtain⟨j,a⟩:=g;dsimp only
  cases (ops[j]?).bind (·.dst)with
  |none=>rfl
  |some b=>dsimp only;rw[h.2 b];rfl
def H8(r:Option (Value×dM))(h:ae)(K:VH):Prop:=match r with
 |some (v,u)=>K v (u.app h)
 |none=>False
def uT(r:Option Value)(h:ae)(K:VH):Prop:=match r with
 |some v=>K v h
 |none=>False
def sw(S:Sx)(f:Value)(b:List Value)(h:ae)(K:VH):Prop:=match f with
 |.func (.func g) first a=>g<YB/\FW S g (first.toList++b++a.toList) h K
 |.func (.yield k) first a=>(first.size=0/\a.size=0)/\FW S (YB+k) b h K
 |_=>False
def wpOp(S:Sx)(E:Fr)(o:Oper)(h:ae)(K:VH):Prop:=match o.op with
 |.call { callee:= .value f,args,.. }=>sw S (fv S.gl E f) (args.toList.map (fv S.gl E)) h K
 |_=>H8 (dV S.P ji (fv S.gl E) o h) h K
def ZO(r:Option Bool)(A B:Unit->Prop):Prop:=match r with
 |some true=>A ()
 |some false=>B ()
 |none=>False
def Ww(S:Sx)(ops:Array Oper):List Oper->Fr->ae->FH->Prop
 |[],E,h,R=>R E h
 |o::l,E,h,R=>ZO (DV ops E o.guard) (λ_=>wpOp S E o h λv h=>Ww S ops l (ve E o.dst v) h R) (λ_=>Ww S ops l (ve E o.dst undef) h R)
def acZ(S:Sx)(ops:Array Oper)(dst:Option Tmp)(l:List Oper)(E:Fr)(h:ae)(R:FH)(_:Unit):Prop:=Ww S ops l (ve E dst undef) h R
def opK(S:Sx)(ops:Array Oper)(dst:Option Tmp)(l:List Oper)(E:Fr)(R:FH)(v:Value)(h:ae):Prop:=Ww S ops l (ve E dst v) h R
def ad6(S:Sx)(ops:Array Oper)(o:Oper)(l:List Oper)(E:Fr)(h:ae)(R:FH)(_:Unit):Prop:=wpOp S E o h (opK S ops o.dst l E R)
section
variable (S:Sx) (ops:Array Oper) (o:Oper) (l:List Oper) (dst:Option Tmp) (E:Fr) (h:ae) (R:FH) (v:Value)
theorem Wd:Ww S ops (o::l) E h R=ZO (DV ops E o.guard) (ad6 S ops o l E h R) (acZ S ops o.dst l E h R):=rfl
theorem M6(ops:Array Oper)(E:Fr)(j:Nat)(a:Bool):DV ops E (some (j,a))=match (ops[j]?).bind (·.dst)with
  |some d=>(match E d with|.bool b=>some (b==a)|.tuple _=>some false|_=>none)
  |none=>none:=rfl
end
noncomputable section
variable (S:Sx) (bf:Nat->Nat->Bool)
def F3(o:Oper)(E:Fr)(v:Value)(h:ae):Bool:=match cW S.P (fv S.gl E) o h with
 |some a=>dG 4 v a
 |none=>false
def pU(j:Nat)(o:Oper)(E:Fr)(v:Value):ae->List (Nat×ae)->Bool->Bool
 |h,[],a=>a||F3 S o E v h
 |h,(e,b)::r,a=>((a&&Nat.blt j e)||bf j e||F3 S o E v h)&&(bf e j||pU j o E v b r (Nat.blt e j))
abbrev KS:=Fr×Oper×sD
def wB(h:ae)(a:List (Nat×ae)):List KS->Nat->Bool
 |[],_=>true
 |(E,o,.read v)::r,j=>pU S bf j o E v h a true&&wB h a r (j+1)
 |_::r,j=>wB h a r (j+1)
def pI:List KS->Nat->List (Nat×ae)
 |[],_=>[]
 |(_,_,.BE _ h)::r,j=>(j,h)::pI r (j+1)
 |_::r,j=>pI r (j+1)
def xh(h:ae)(a:List KS):Bool:=jQ bf (pI a 0)&&wB S bf h (pI a 0) a 0
def D1(E:Fr)(o:Oper)(h:ae)(K:VH):Prop:=match o.op with
 |.call { callee:= .value f,args,.. }=>sw S (fv S.gl E f) (args.toList.map (fv S.gl E)) h K
 |_=>H8 (gp S.P ji (fv S.gl E) o h) h K
def yJ(ops:Array Oper)(base:Nat)(b:ae):List Oper->Nat->Fr->ae->List (Nat×dS)->List KS->FH->Prop
 |[],_,E,h,pd,a,R=>xh S bf b a.reverse=true/\R E (cj h base pd)
 | o::l,j,E,h,pd,a,R=>ZO (DV ops E o.guard)
   (λ_=>match dr S.P (fv S.gl E) o with
    |some v=>yJ ops base b l (j+1) (ve E o.dst v) h pd ((E,o,.pure v)::a) R
    | none=>match cW S.P (fv S.gl E) o h with
     |some v=>yJ ops base b l (j+1) (ve E o.dst v) h pd ((E,o,.read v)::a) R
     |none=>match bV S.P (fv S.gl E) o with
      |some (B,f)=>yJ ops base b l (j+1) (ve E o.dst (f (base+j))) h ((j,B)::pd) ((E,o,.alloc B (f (base+j)))::a) R
      |none=>D1 S E o (cj h base (pd.filter λp=>bf j p.1)) λv c=>yJ ops base b l (j+1) (ve E o.dst v) c (pd.filter λp=> !bf j p.1) ((E,o,.BE v c)::a) R)
   (λ_=>yJ ops base b l (j+1) (ve E o.dst undef) h pd ((E,o,.skip)::a) R)
def wpD(ops:Array Oper)(E:Fr)(h:ae)(R:FH):Prop:=
 Lk ops=false/\yJ S (eY (lF ops)) ops h.next { h with next:=h.next+ops.size } ops.toList 0 E { h with next:=h.next+ops.size } [] [] R
end
section
variable (S:Sx) (nm:Nat)
def RS(c:Code)(E:Fr)(h:ae)(x:Exit)(e:Fr)(f:ae):Prop:=
 ∃d,∀n N,d<=n->d<=N->∀b,ER nm E b->∃a,ER nm e a/\bJ S.P S.gl (bY S.P S.gl S.pr n) N c b h=some (x,a,f)
def abv(c:Code)(E:Fr)(h:ae)(x:Exit)(e:Fr)(f:ae):Prop:=
 ∃b,∀n N j,b<=n->b<=N->b<=j->∀d,ER nm E d->∃a,ER nm e a/\iter (bJ S.P S.gl (bY S.P S.gl S.pr n) N c) j d h=some (x,a,f)
def EW(c:Code)(E:Fr)(h:ae)(Q:Ej):Prop:=∃x a b,abv S nm c E h x a b/\Q x a b
def Lh(c:Code)(E:Fr)(h:ae)(Q:Ej):Prop:=∃x a b,RS S nm c E h x a b/\Q x a b
def wpB(v:Value)(A B:Unit->Prop):Prop:=match v with
 |.bool true=>A ()
 |.bool false=>B ()
 |_=>False
def V9:Code->Fr->ae->Ej->Prop
 |.skip,E,h,Q=>Q .normal E h
 |.region _ ops false,E,h,Q=>Ww S ops ops.toList E h λE h=>Q .normal E h
 |.region _ ops true,E,h,Q=>wpD S ops E h λE h=>Q .normal E h
 |.seq a b,E,h,Q=>V9 a E h λx E h=>match x with
  |.normal=>V9 b E h Q
  |x=>Q x E h
 |.cond c a b,E,h,Q=>wpB (fv S.gl E c) (λ_=>V9 a E h Q) (λ_=>V9 b E h Q)
 |.block id c,E,h,Q=>V9 c E h λx E h=>match x with
  |.exit id'=>if id'=id then Q .normal E h else Q (.exit id') E h
  |x=>Q x E h
 |.loop c,E,h,Q=>EW S nm c E h Q
 |.exit id,E,h,Q=>Q (.exit id) E h
 |.ret,E,h,Q=>Q .ret E h
 |.label _,E,h,Q=>Q .normal E h
 |.rangeFunc f d a b,E,h,Q=>Lh S nm (.rangeFunc f d a b) E h Q
 |_,_,_,_=>False
def aca(c:Code)(Q:Ej)(x:Exit)(E:Fr)(h:ae):Prop:=match x with
 |.normal=>EW S nm c E h Q
 |x=>Q x E h
def goK(c:Code)(E:Fr)(h:ae)(Q:Ej)(_:Unit):Prop:=V9 S nm c E h Q
variable (a b c:Code) (o:Operand) (id id':Nat) (ops:Array Oper) (E:Fr) (h:ae) (Q:Ej)
theorem Wa:V9 S nm (.cond o a b) E h Q=wpB (fv S.gl E o) (goK S nm a E h Q) (goK S nm b E h Q):=rfl
end
theorem Y6{v:Value}{A B:Unit->Prop}(h:wpB v A B):∃b,v = .bool b/\((b=true/\A ())\/(b=false/\B ())):=by
 cases v with
 |bool b=>
  cases b with
  |true=>exact⟨true,rfl,.inl ⟨rfl,h⟩⟩
  |false=>exact⟨false,rfl,.inr ⟨rfl,h⟩⟩
 |_=>exact h.elim
theorem H3{r:Option Bool}{A B:Unit->Prop}(h:ZO r A B):(r=some true/\A ())\/(r=some false/\B ()):=by
 cases r with
 |none=>exact h.elim
 |some b=>
  cases b with
  |true=>exact .inl ⟨rfl,h⟩
  |false=>exact .inr ⟨rfl,h⟩
section
variable {S:Sx} {nm:Nat}
theorem yH{h:ae}{K:VH}(c:sw S w d h K):∃v a b,(∀n,b<=n->zh (bY S.P S.gl S.pr n) w d h=some (v,.all a))/\K v a:=by
 unfold sw at c;split at c
 ·next g first j=>
  obtain⟨k,v,a,⟨b,i⟩,f⟩:=c;refine⟨v,a,b,λn e=>?_,f⟩;simp only[zh];rw[if_pos k,i n e];rfl
 ·obtain⟨l,v,a,⟨b,i⟩,f⟩:=c;refine⟨v,a,b,λn e=>?_,f⟩;simp only[zh];rw[if_pos l,i n e];rfl
 grind
theorem oT{o:Oper}(b:bN o=true):∃f args a,o.op = .call { callee:= .value f,args:=args,argTypes:=a }:=by grind[bN]
theorem KI{E:Fr}{o:Oper}{h:ae}{K:VH}(c:D1 S E o h K):∃v u d,(∀n,d<=n->gp S.P (bY S.P S.gl S.pr n) (fv S.gl E) o h=some (v,u))/\K v (u.app h):=by
 cases b:bN o with
 |true=>
  obtain⟨f,m,s,e⟩:=oT b;obtain⟨dst,r,q,p,i,g⟩:=o;dsimp only at e;subst e;obtain⟨v,l,d,j,k⟩:=yH c;exact⟨v,.all l,d,j,k⟩
 | false=>
  have a:H8 (gp S.P ji (fv S.gl E) o h) h K:=by
   unfold D1 at c;split at c
   ·next e=>unfold bN at b;rw[e]at b;cases b
   ·exact c
  unfold H8 at a;split at a
  ·next v u e=>exact⟨v,u,0,λn _=>by rw[<-C9 b];exact e,a⟩
  grind
theorem JO{a:dZ}{ρ:Operand->Value}{o:Oper}{h:ae}(g:bN o=true):dV P a ρ o h=gp P a ρ o h:=by
 obtain⟨f,d,l,e⟩:=oT g;obtain⟨dst,k,j,i,c,b⟩:=o;dsimp only at e;subst e;rfl
theorem Nc{E:Fr}{o:Oper}{h:ae}{K:VH}(c:wpOp S E o h K):∃v u d,(∀n,d<=n->dV S.P (bY S.P S.gl S.pr n) (fv S.gl E) o h=some (v,u))/\K v (u.app h):=by
 cases a:bN o with
 |true=>
  obtain⟨f,p,t,e⟩:=oT a;obtain⟨dst,s,r,q,i,g⟩:=o;dsimp only at e;subst e;obtain⟨v,m,d,k,l⟩:=yH c;exact⟨v,.all m,d,λn j=>by rw[JO a];exact k n j,l⟩
 | false=>
  have b:H8 (dV S.P ji (fv S.gl E) o h) h K:=by
   unfold wpOp at c;split at c
   ·next e=>unfold bN at a;rw[e]at a;cases a
   ·exact c
  unfold H8 at b;split at b
  ·next v u e=>exact⟨v,u,0,λn _=>by rw[<-Md a];exact e,b⟩
  grind
theorem As(ops:Array Oper){R:FH}:∀(l:List Oper)(E:Fr)(h:ae),(l.all λo=>tk nm o.dst)=true->Ww S ops l E h R->
  ∃e f x,(∀n,x<=n->∀d,ER nm E d->∃a,ER nm e a/\k4 S.P S.gl (bY S.P S.gl S.pr n) ops l d h=some (a,f))/\R e f
 |[],E,h,_,b=>⟨E,h,0,λn _ d c=>⟨d,c,rfl⟩,b⟩
 | o::l,E,h,g,b=>by
  simp only[all_cons,and_eq_true]at g;rcases H3 b with⟨q,b⟩|⟨q,b⟩
  ·obtain⟨v,u,r,s,t⟩:=Nc b;obtain⟨e,f,j,k,m⟩:=As ops l _ _ g.2 t;refine⟨e,f,max r j,λn p d c=>?_,m⟩;obtain⟨a,i,w⟩:=k n (by omega) _ (c.put g.1 v);refine⟨a,i,?_⟩;simp only[k4];rw[pB c,q,c.ev,s n (by omega)];omega
  ·obtain⟨e,f,j,k,m⟩:=As ops l _ _ g.2 b;refine⟨e,f,j,λn p d c=>?_,m⟩;obtain⟨a,i,w⟩:=k n p _ (c.put g.1 undef)
   grind[pB,k4]
def Cj(nm:Nat):List Oper->List KS->List (List Value×sD)->Prop
 |[],[],[]=>True
 |o::c,(E,d,e)::r,(b,a)::f=>d=o/\a=e/\ER nm E b/\Cj nm c r f
 |_,_,_=>False
theorem I8:∀{l:List Oper}{r:List KS}{a:List (List Value×sD)}(j:Nat),Cj nm l r a->ir a j=pI r j
 |[],[],[],_,_=>rfl
 |o::d,(E,f,e)::r,(c,b)::a,j,h=>by
  obtain⟨rfl,rfl,_,h⟩:=h
  cases b<;>simp only[ir,pI,I8 (j+1) h]
 |[],[],_::_,_,h=>h.elim
 |[],_::_,_,_,h=>h.elim
 |_::_,[],_,_,h=>h.elim
 |_::_,_::_,[],_,h=>h.elim
theorem yq{o:Oper}{E:Fr}{v:Value}{h:ae}(a:ER nm E d):qM S.P S.gl o d v h=F3 S o E v h:=by
 unfold qM F3;rw[a.ev];rfl
theorem Dn{bf:Nat->Nat->Bool}{j:Nat}{o:Oper}{E:Fr}{c:List Value}{v:Value}(d:ER nm E c):∀(b:List (Nat×ae))(h:ae)(a:Bool),qn S.P S.gl bf j o c v h b a=pU S bf j o E v h b a
 |[],h,a=>by grind[yq,qn,pU]
 |(e,f)::b,h,a=>by simp only[qn,pU,yq d,Dn d b]
theorem FT{bf:Nat->Nat->Bool}{h:ae}{c:List (Nat×ae)}:∀{l:List Oper}{r:List KS}{b:List (List Value×sD)}(j:Nat),Cj nm l r b->oq S.P S.gl bf h c l b j=wB S bf h c r j
 |[],[],[],_,_=>rfl
 |o::i,(E,k,e)::r,(g,d)::b,j,a=>by
  obtain⟨rfl,rfl,f,a⟩:=a
  cases d<;>simp only[oq,wB,FT (j+1) a,Dn f]
 |[],[],_::_,_,h=>h.elim
 |[],_::_,_,_,h=>h.elim
 |_::_,[],_,_,h=>h.elim
 |_::_,_::_,[],_,h=>h.elim
theorem D0(bf:Nat->Nat->Bool)(ops:Array Oper)(base:Nat)(z:ae){R:FH}:∀(l:List Oper)(j:Nat)(E:Fr)(h:ae)(pd:List (Nat×dS))(d:List KS),(l.all λo=>tk nm o.dst)=true->yJ S bf ops base z l j E h pd d R->
  ∃m p i r I,(∀n,I<=n->∀a,ER nm E a->∃g s,ER nm m g/\Cj nm l r s/\fu S.P S.gl (bY S.P S.gl S.pr n) ops bf base l j a h pd=some (s,g,p,i))/\xh S bf z (d.reverse++r)=true/\R m (cj p base i)
 |[],j,E,h,pd,d,_,b=>⟨E,h,pd,[],0,λn _ a c=>⟨a,[],c,trivial,rfl⟩,by rw[append_nil];exact b.1,b.2⟩
 | o::l,j,E,h,pd,d,H,b=>by
  simp only[all_cons,and_eq_true]at H;have k:∀(v:Value)(e:sD)(C:ae)(x:List (Nat×dS))(y:Nat),yJ S bf ops base z l (j+1) (ve E o.dst v) C x ((E,o,e)::d) R->
    (∀n,y<=n->∀a,ER nm E a->∀q,fu S.P S.gl (bY S.P S.gl S.pr n) ops bf base l (j+1) (jx a o.dst v) C x=some q->fu S.P S.gl (bY S.P S.gl S.pr n) ops bf base (o::l) j a h pd=some ((a,e)::q.1,q.2))->
    ∃m p i r I,(∀n,I<=n->∀a,ER nm E a->∃g s,ER nm m g/\Cj nm (o::l) r s/\fu S.P S.gl (bY S.P S.gl S.pr n) ops bf base (o::l) j a h pd=some (s,g,p,i))/\xh S bf z (d.reverse++r)=true/\R m (cj p base i):=by
   intro v e C x y K t;obtain⟨m,p,i,r,N,G,T,O⟩:=D0 bf ops base z l (j+1) _ _ _ _ H.2 K;refine⟨m,p,i,(E,o,e)::r,max y N,λn M a c=>?_,?_,O⟩
   ·obtain⟨g,s,J,P,Q⟩:=G n (by omega) _ (c.put H.1 v);exact⟨g,(a,e)::s,J,⟨rfl,rfl,c,P⟩,t n (by omega) a c _ Q⟩
   ·grind
  rcases H3 b with⟨A,b⟩|⟨A,b⟩
  ·cases w:dr S.P (fv S.gl E) o with
   |some v=>
    rw[w]at b;refine k v (.pure v) h pd 0 b λn _ a c q t=>?_;simp only[fu];rw[pB c,A,c.ev,w]
    grind
   | none=>
    rw[w]at b;dsimp only at b
    cases D:cW S.P (fv S.gl E) o h with
    |some v=>
     rw[D]at b;refine k v (.read v) h pd 0 b λn _ a c q t=>?_;simp only[fu];rw[pB c,A,c.ev,w]
     grind
    | none=>
     rw[D]at b;dsimp only at b
     cases F:bV S.P (fv S.gl E) o with
     |some L=>
      obtain⟨B,f⟩:=L;rw[F]at b;refine k _ (.alloc B (f (base+j))) h ((j,B)::pd) 0 b λn _ a c q t=>?_;simp only[fu];rw[pB c,A,c.ev,w]
      grind
     |none=>
      rw[F]at b;dsimp only at b;obtain⟨v,u,y,C,G⟩:=KI b;refine k v (.BE v _) _ _ y G λn M a c q t=>?_;simp only[fu];rw[pB c,A,c.ev,w]
      grind
  ·refine k undef .skip h pd 0 b λn _ a c q t=>?_
   grind[pB,fu]
theorem Ro{ops:Array Oper}{E:Fr}{h:ae}{R:FH}(q:(ops.toList.all λo=>tk nm o.dst)=true)(e:wpD S ops E h R):
  ∃c d g,(∀n,g<=n->∀b,ER nm E b->∃a,ER nm c a/\I0 S.P S.gl (bY S.P S.gl S.pr n) ops b h=some (a,d))/\R c d:=by
 obtain⟨f,e⟩:=e;obtain⟨c,d,t,r,g,m,u,l⟩:=D0 (eY (lF ops)) ops h.next _ ops.toList 0 E _ [] [] q e;refine⟨c,_,g,λn k b s=>?_,l⟩;obtain⟨a,v,i,j,p⟩:=m n k b s;refine⟨a,i,?_⟩;unfold I0;rw[f,if_neg (by simp)];unfold BD;rw[p];dsimp only;rw[I8 0 j,FT 0 j]
 simp_all[xh]
def fX(nm:Nat):Code->Bool
 |.region _ ops _=>ops.toList.all λo=>tk nm o.dst
 |.seq a b=>fX nm a&&fX nm b
 |.cond _ a b=>fX nm a&&fX nm b
 |.block _ c=>fX nm c
 |.loop c=>fX nm c
 |_=>true
theorem gX:∀(c:Code){E:Fr}{h:ae}{Q:Ej},fX nm c=true->V9 S nm c E h Q->∃x y z,RS S nm c E h x y z/\Q x y z
 |.skip,E,h,_,_,d=>⟨.normal,E,h,⟨0,λ_ _ _ _ f j=>⟨f,j,rfl⟩⟩,d⟩
 |.exit id,E,h,_,_,d=>⟨.exit id,E,h,⟨0,λ_ _ _ _ f j=>⟨f,j,rfl⟩⟩,d⟩
 |.ret,E,h,_,_,d=>⟨.ret,E,h,⟨0,λ_ _ _ _ f j=>⟨f,j,rfl⟩⟩,d⟩
 |.label _,E,h,_,_,d=>⟨.normal,E,h,⟨0,λ_ _ _ _ f j=>⟨f,j,rfl⟩⟩,d⟩
 |.region _ ops false,E,h,_,r,d=>by
  obtain⟨y,z,D,q,B⟩:=As ops ops.toList E h r d;refine⟨.normal,y,z,⟨D,λn N s _ f j=>?_⟩,B⟩
  grind[bJ]
 |.region _ ops true,E,h,_,r,d=>by
  obtain⟨y,z,D,q,B⟩:=Ro r d;refine⟨.normal,y,z,⟨D,λn N s _ f j=>?_⟩,B⟩
  grind[bJ]
 | .seq a b,E,h,Q,r,d=>by
  simp only[fX,and_eq_true]at r;obtain⟨x,w,q,⟨v,k⟩,p⟩:=gX a r.1 d;have J:(∀n N g ,bJ S.P S.gl (bY S.P S.gl S.pr n) N a g h=some (x,g,q)->True)->x≠ .normal->Q x w q->∃x y z,RS S nm (.seq a b) E h x y z/\Q x y z:=by
   intro _ C p;refine⟨x,w,q,⟨v,λn N s u f j=>?_⟩,p⟩;obtain⟨g,i,A⟩:=k n N s u f j;refine⟨g,i,?_⟩;simp only[bJ];rw[A]
   cases x with
   |normal=>grind
   |_=>rfl
  cases x with
  |normal=>
   obtain⟨x,I,B,⟨H,G⟩,p⟩:=gX b r.2 p;refine⟨x,I,B,⟨max v H,λn N s u f j=>?_⟩,p⟩;obtain⟨g,i,A⟩:=k n N (by omega) (by omega) f j;obtain⟨K,L,M⟩:=G n N (by omega) (by omega) g i
   grind[bJ]
  |exit id=>simp_all
  |goto l=>simp_all
  |ret=>simp_all
  |panic _=>simp_all
  |outgrown=>simp_all
 | .cond o a b,E,h,Q,r,d=>by
  simp only[fX,and_eq_true]at r;obtain⟨t,F,⟨j,d⟩|⟨j,d⟩⟩:=Y6 d
  ·obtain⟨x,w,q,⟨v,k⟩,p⟩:=gX a r.1 d;refine⟨x,w,q,⟨v,λn N s u f m=>?_⟩,p⟩;obtain⟨g,i,A⟩:=k n N s u f m;refine⟨g,i,?_⟩;simp only[bJ];rw[m.ev,F,j]
   grind
  ·obtain⟨x,w,q,⟨v,k⟩,p⟩:=gX b r.2 d;refine⟨x,w,q,⟨v,λn N s u f m=>?_⟩,p⟩;obtain⟨g,i,A⟩:=k n N s u f m;refine⟨g,i,?_⟩;simp only[bJ];rw[m.ev,F,j]
   grind
 | .block id c,E,h,Q,r,d=>by
  obtain⟨x,w,q,⟨v,k⟩,p⟩:=gX c r d;by_cases C:x = .exit id
  ·subst C;dsimp only at p;rw[if_pos rfl]at p;refine⟨.normal,w,q,⟨v,λn N s u f m=>?_⟩,p⟩
   grind[bJ]
  ·refine⟨x,w,q,⟨v,λn N s u f m=>?_⟩,?_⟩
   ·obtain⟨g,i,A⟩:=k n N s u f m;refine⟨g,i,?_⟩;simp only[bJ];rw[A]
    cases x with
    |exit id'=>dsimp only;rw[if_neg (λe=>C (by rw[e]))]
    |_=>rfl
   grind
 |.loop c,E,h,Q,r,d=>by
  obtain⟨x,w,q,⟨v,k⟩,p⟩:=d;refine⟨x,w,q,⟨v,λn N s u f m=>?_⟩,p⟩;obtain⟨g,i,A⟩:=k n N N s u u f m;exact⟨g,i,A⟩
 |.rangeFunc ..,_,_,_,_,d=>d
 |.scope _,_,_,_,_,d=>d.elim
 |.goto _,_,_,_,_,d=>d.elim
 |.refuse _,_,_,_,_,d=>d.elim
theorem TI{c:Code}{E:Fr}{h:ae}{Q:Ej}(z:fX nm c=true)(y:V9 S nm c E h (aca S nm c Q)):EW S nm c E h Q:=by
 obtain⟨x,r,p,⟨m,g⟩,a⟩:=gX c z y;have b:x≠ .normal->Q x r p->EW S nm c E h Q:=by
  intro D a;refine⟨x,r,p,⟨m+1,λn N j s v A i k=>?_⟩,a⟩;obtain⟨d,rfl⟩:∃d,j=d+1:=⟨j-1,by omega⟩
  obtain⟨f,e,o⟩:=g n N (by omega) (by omega) i k;refine⟨f,e,?_⟩;simp only[iter];rw[o]
  cases x with
  |normal=>grind
  |_=>rfl
 cases x with
 |normal=>
  obtain⟨x,u,w,⟨t,q⟩,a⟩:=a;refine⟨x,u,w,⟨max m t+1,λn N j s v A i k=>?_⟩,a⟩;obtain⟨d,rfl⟩:∃d,j=d+1:=⟨j-1,by omega⟩
  obtain⟨f,e,o⟩:=g n N (by omega) (by omega) i k;obtain⟨B,C,F⟩:=q n N d (by omega) (by omega) (by omega) f e
  grind[iter]
 |exit id=>exact b (by simp) a
 |goto l=>exact b (by simp) a
 |ret=>exact b (by simp) a
 |panic _=>exact b (by simp) a
 |outgrown=>exact b (by simp) a
noncomputable def vh(S:Sx)(E:Fr)(h:ae):List ResultVar->Option (List Value)
 |[]=>some []
 |.tmp t::r=>(vh S E h r).map (E t::·)
 |.cell a t::r=>match aj S.P t h (E a)with
  |some v=>(vh S E h r).map (v::·)
  |none=>none
theorem BN{E:Fr}{h:ae}{c:List Value}(b:ER nm E c):∀l,dE S.P c h l=vh S E h l
 |[]=>rfl
 |.tmp t::r=>by simp only[dE,vh,BN b r,b.2 t]
 |.cell a t::r=>by
  simp only[dE,vh,BN b r,b.2 a];rfl
def yK(r:Option (List Value))(h:ae)(Q:VH):Prop:=match r with
 |some a=>Q (dJ a) h
 |none=>False
def aeg(S:Sx)(a:List ResultVar)(Q:VH)(x:Exit)(E:Fr)(h:ae):Prop:=match x with
 |.normal=>yK (vh S E h a) h Q
 |.ret=>yK (vh S E h a) h Q
 |_=>False
def Z5(a:List Value):Fr:=λt=>a.getD t undef
theorem acy{c:Code}{h:ae}{Q:VH}(D:S.P.funcs[f]?=some F)(B:F.body=some c)(q:f<YB)(s:S.pr f=none)(G:d.length<=F.ntmps)(u:fX F.ntmps c=true)
  (r:V9 S F.ntmps c (Z5 d) h (aeg S F.results.toList Q)):FW S f d h Q:=by
 obtain⟨x,i,e,⟨y,w⟩,b⟩:=gX c u r;have v:ER F.ntmps (Z5 d) (d++List.replicate (F.ntmps-d.length) undef):=by
  refine⟨by simp;omega,λt=>?_⟩;show _=d.getD t undef;simp only[gD];by_cases g:t<d.length
  ·rw[List.getElem?_append_left g]
  ·rw[List.getElem?_append_right (by omega),getElem?_eq_none (l:=d) (by omega),getElem?_replicate];split<;>rfl
 have p:∃a,vh S i e F.results.toList=some a/\Q (dJ a) e/\(x = .normal\/x = .ret):=by
  have k:yK (vh S i e F.results.toList) e Q->∃a,vh S i e F.results.toList=some a/\Q (dJ a) e:=by
   intro b
   cases m:vh S i e F.results.toList with
   |none=>rw[m]at b;exact b.elim
   |some a=>rw[m]at b;exact⟨a,rfl,b⟩
  cases x with
  |normal=>obtain⟨a,g,o⟩:=k b;exact⟨a,g,o,.inl rfl⟩
  |ret=>obtain⟨a,g,o⟩:=k b;exact⟨a,g,o,.inr rfl⟩
  |_=>exact b.elim
 obtain⟨a,m,b,H⟩:=p;refine⟨dJ a,e,⟨y+1,λn C=>?_⟩,b⟩;obtain⟨j,rfl⟩:∃j,n=j+1:=⟨n-1,by omega⟩
 obtain⟨A,z,E⟩:=w j j (by omega) (by omega) _ v;simp only[bY];rw[if_neg (Nat.not_le.2 q),s]
 grind[BN]
end
end
variable{A:Type}{B:Type}
section
section
variable (gl:Nat->Bool) (E:Fr)
theorem map_nil(f:A->B):[].map f=([]:List B):=rfl
theorem map_cons(f:A->B)(a:A)(l:List A):(a::l).map f=f a::l.map f:=rfl
end
section
variable (S:Sx) (E:Fr) (dst:Option Tmp) (ty:TypeId) (pos:String) (after:Array Edge) (guard:Option (Nat×Bool)) (h:ae) (K:VH)
theorem iE{o:Oper}(a:bN o=false):wpOp S E o h K=H8 (dV S.P ji (fv S.gl E) o h) h K:=by grind[wpOp,bN]
theorem Wi{P:Program}{ρ:Operand->Value}{o:Oper}(b:∀h,dr P ρ o=none->dV P ji ρ o h=none):H8 (dV P ji ρ o h) h K=uT (dr P ρ o) h K:=by
 cases a:dr P ρ o with
 |none=>rw[b h a];rfl
 |some v=>unfold dV;rw[a];rfl
def nF:Op->Bool
 |.move _|.assign _|.pick ..|.build ..|.nilCheck _|.binOp ..|.unOp ..|.makeInterface ..|.makeFunc ..|.fieldAddr ..|.field ..|.indexAddr ..|.index ..|.typeAssert ..|.extract .. =>true
 |.call { callee:= .builtin .max,.. }|.call { callee:= .builtin .min,.. }|.call { callee:= .builtin .cap,.. }=>true
 |_=>false
theorem Qb{P:Program}{ρ:Operand->Value}{a:Op}(b:nF a=true)(h:ae)(c:dr P ρ ⟨dst,a,ty,pos,after,guard⟩=none):dV P ji ρ ⟨dst,a,ty,pos,after,guard⟩ h=none:=by
 unfold dV;rw[c];unfold nF at b;split at b<;>first|rfl|grind
theorem Mi{a:Op}(b:nF a=true):bN ⟨dst,a,ty,pos,after,guard⟩=false:=by
 unfold nF at b;split at b<;>first|rfl|grind
theorem eE{a:Op}(b:nF a=true):wpOp S E ⟨dst,a,ty,pos,after,guard⟩ h K=uT (dr S.P (fv S.gl E) ⟨dst,a,ty,pos,after,guard⟩) h K:=by grind[iE,Mi,Wi,Qb]
def ZJ(c x y:Value):Option Value:=match c with
 |.bool t=>some (if t then x else y)
 |_=>none
def Zz(v:Value)(i:Nat):Option Value:=match v with
 |.tuple a=>a[i]?
 |_=>none
def bP(P:Program)(t:TypeId)(x i:Value):Option Value:=match P.underlying t,x,i with
  |some (.array a e),.agg cs,.int _ j=>match aE P e with
   |some n=>if 0<=j/\j<(a:Int)then partOf P e cs (j.toNat*n)else none
   |none=>none
  |some .string,.string s,.int _ j=>if 0<=j then match s.data.toList[j.toNat]? with|some b=>some (.int .u8 b.toNat)|none=>none else none
  |_,_,_=>none
def aA(P:Program)(t:TypeId)(x i:Value):Option Value:=match P.underlying t,x,i with
  |some (.array b e),.pointer (some a),.int _ j=>match aE P e with
   |some n=>if 0<=j/\j<(b:Int)then some (.pointer (some (a.add (j.toNat*n))))else none
   |none=>none
  |some (.slice e),.slice (some a) b _,.int _ j=>match aE P e with
   |some n=>if 0<=j/\j<(b:Int)then some (.pointer (some (a.add (j.toNat*n))))else none
   |none=>none
  |_,_,_=>none
def aG(P:Program)(s:TypeId)(x:Value)(f:Nat):Option Value:=match P.underlying s,x with
  |some (.struct b),.pointer (some a)=>match b[f]? with
   |some c=>if(aE P c.type).any (· ≠0)then some (.pointer (some (a.add c.offset)))else none
   |none=>none
  |_,_=>none
def S1(P:Program)(t:TypeId)(x:Value)(f:Nat):Option Value:=match P.underlying t,x with
  |some (.struct a),.agg cs=>match a[f]? with
   |some b=>partOf P b.type cs b.offset
   |none=>none
  |_,_=>none
noncomputable def TE(P:Program)(t:TypeId)(x:Value)(h:ae):Option Value:=match P.underlying t,x with
   |some .string,.string s=>some (.int .i64 s.data.toList.length)
   |some (.array n _),_=>some (.int .i64 n)
   |some (.slice _),.slice _ n _=>some (.int .i64 n)
   |some (.map ..),.map none=>some (.int .i64 0)
   |some (.map ..),.map (some r)=>match h.get r with
    |some (.map a)=>some (.int .i64 a.length)
    |_=>none
   |_,_=>none
theorem Rr(c a b:Operand):wpOp S E ⟨dst,.pick c a b,ty,pos,after,guard⟩ h K=uT (ZJ (fv S.gl E c) (fv S.gl E a) (fv S.gl E b)) h K:=eE S E dst ty pos after guard h K rfl
theorem M8(a:BinOp)(t u:TypeId)(x y:Operand):wpOp S E ⟨dst,.binOp a t x y u,ty,pos,after,guard⟩ h K=uT (ay S.P a t (fv S.gl E x) (fv S.gl E y)) h K:=eE S E dst ty pos after guard h K rfl
theorem Rs(a:UnOp)(t:TypeId)(x:Operand):wpOp S E ⟨dst,.unOp a t x,ty,pos,after,guard⟩ h K=uT (KF a (fv S.gl E x)) h K:=eE S E dst ty pos after guard h K rfl
theorem H5(x:Operand)(i:Nat):wpOp S E ⟨dst,.extract x i,ty,pos,after,guard⟩ h K=uT (Zz (fv S.gl E x) i) h K:=eE S E dst ty pos after guard h K rfl
theorem Na(t:TypeId)(x i:Operand):wpOp S E ⟨dst,.index t x i,ty,pos,after,guard⟩ h K=uT (bP S.P t (fv S.gl E x) (fv S.gl E i)) h K:=eE S E dst ty pos after guard h K rfl
theorem D5(t:TypeId)(x i:Operand):wpOp S E ⟨dst,.indexAddr t x i,ty,pos,after,guard⟩ h K=uT (aA S.P t (fv S.gl E x) (fv S.gl E i)) h K:=eE S E dst ty pos after guard h K rfl
theorem D4(t:TypeId)(x:Operand)(f:Nat):wpOp S E ⟨dst,.fieldAddr t x f,ty,pos,after,guard⟩ h K=uT (aG S.P t (fv S.gl E x) f) h K:=eE S E dst ty pos after guard h K rfl
theorem M9(t:TypeId)(x:Operand)(f:Nat):wpOp S E ⟨dst,.field t x f,ty,pos,after,guard⟩ h K=uT (S1 S.P t (fv S.gl E x) f) h K:=eE S E dst ty pos after guard h K rfl
theorem Wg(a:Array Operand)(b:Array TypeId):wpOp S E ⟨dst,.call ⟨.builtin .max,a,b⟩,ty,pos,after,guard⟩ h K=uT (rQ true (a.toList.map (fv S.gl E))) h K:=eE S E dst ty pos after guard h K rfl
theorem Wh(a:Array Operand)(b:Array TypeId):wpOp S E ⟨dst,.call ⟨.builtin .min,a,b⟩,ty,pos,after,guard⟩ h K=uT (rQ false (a.toList.map (fv S.gl E))) h K:=eE S E dst ty pos after guard h K rfl
theorem qO(o:Oper)(b:bN o=false)(c:dr S.P (fv S.gl E) o=none)(a:bV S.P (fv S.gl E) o=none)(d:gp S.P ji (fv S.gl E) o h=none):wpOp S E o h K=uT (cW S.P (fv S.gl E) o h) h K:=by
 rw[iE S E h K b];unfold dV;rw[c];dsimp only
 cases cW S.P (fv S.gl E) o h with
 |some v=>rfl
 |none=>dsimp only;rw[a];dsimp only;rw[d];rfl
theorem Rp(t:TypeId)(a:Operand):wpOp S E ⟨dst,.load t a,ty,pos,after,guard⟩ h K=uT (aj S.P t h (fv S.gl E a)) h K:=qO S E h K _ rfl rfl rfl rfl
theorem Nb(t:TypeId)(x:Operand)(c b a:Option Operand):wpOp S E ⟨dst,.slice t x c b a,ty,pos,after,guard⟩ h K=uT (bG S.P t (fv S.gl E x) (c.map (fv S.gl E)) (b.map (fv S.gl E)) (a.map (fv S.gl E)) h) h K:=qO S E h K _ rfl rfl rfl rfl
theorem We(x:Operand)(t:TypeId):wpOp S E ⟨dst,.call ⟨.builtin .len,#[x],#[t]⟩,ty,pos,after,guard⟩ h K=uT (TE S.P t (fv S.gl E x) h) h K:=qO S E h K _ rfl rfl rfl rfl
theorem D3(o:Oper)(b:bN o=false)(c:dr S.P (fv S.gl E) o=none)(a:cW S.P (fv S.gl E) o h=none)(d:bV S.P (fv S.gl E) o=none):wpOp S E o h K=H8 (gp S.P ji (fv S.gl E) o h) h K:=by grind[iE,dV]
theorem KJ(s x:Operand)(t a:TypeId):wpOp S E ⟨dst,.call ⟨.builtin .append,#[s,x],#[t,a]⟩,ty,pos,after,guard⟩ h K=H8 (bI S.P t a (fv S.gl E s) (fv S.gl E x) h) h K:=rfl
theorem Nd(t:TypeId)(a x:Operand):wpOp S E ⟨dst,.store t a x,ty,pos,after,guard⟩ h K=H8 (ah S.P t (fv S.gl E a) (fv S.gl E x) h) h K:=rfl
def wpA(r:Option (dS×(Nat->Value)))(h:ae)(K:VH):Prop:=match r with
 |some (B,f)=>K (f h.next) (h.push B)
 |none=>False
theorem nv(o:Oper)(b:bN o=false)(c:dr S.P (fv S.gl E) o=none)(a:cW S.P (fv S.gl E) o h=none)(d:gp S.P ji (fv S.gl E) o h=none):wpOp S E o h K=wpA (bV S.P (fv S.gl E) o) h K:=by
 rw[iE S E h K b];unfold dV;rw[c];dsimp only;rw[a];dsimp only
 cases bV S.P (fv S.gl E) o with
 |some r=>rfl
 |none=>dsimp only;rw[d];rfl
end
section
variable (P:Program) (t:TypeId) (k:IntKind) (a b:Int)
theorem GP(c:b≠0):ay P .quo t (.int k a) (.int k b)=some (.int k (k.wrap (a.tdiv b))):=by grind[ay]
theorem Xe(c:b≠0):ay P .rem t (.int k a) (.int k b)=some (.int k (a.tmod b)):=by grind[ay]
variable (x y:ByteArray)
end
end
variable{b:Bool}{h:ae}{X:Sx}{T:TypeId}{v:Value}{c:List Value}{E:Fr}{n:Nat}{Q:VH}{j:Nat}{H:Code}{m:Nat}{V:Array Value}{y:List Nat}{k:Nat}
noncomputable section
def au(b:Bool)(A B:Prop):Prop:=Bool.rec (motive:=λ_=>Prop) B A b
theorem aa{A B:Prop}(a:b=true->A)(c:b=false->B):au b A B:=by
 cases b with
 |true=>exact a rfl
 |false=>exact c rfl
theorem yu{A B:Prop}(h:au b A B):(b=true/\A)\/(b=false/\B):=by
 cases b with
 |true=>exact .inl ⟨rfl,h⟩
 |false=>exact .inr ⟨rfl,h⟩
abbrev TS:=List Value
abbrev eQ:=Exit->TS->ae->Prop
abbrev TH:=TS->ae->Prop
def fr(a:TS):Fr:=λt=>a.getD t undef
def NG(P:Program)(t:TypeId)(K:Value->Prop):Prop:=match P.underlying t with
 |some (.int k)=>∃n:Int,K (.int k n)
 |some .bool=>∃b:Bool,K (.bool b)
 |some .string=>∃l:List UInt8,K (strOf l)
 |some (.slice _)=>∃(a:Option Addr)(n c:Nat),K (.slice a n c)
 |some (.pointer _)=>∃a:Option Addr,K (.pointer a)
 |some (.struct _)=>∃cs:List Value,K (.agg ⟨cs⟩)
 |some (.array ..)=>∃cs:List Value,K (.agg ⟨cs⟩)
 |some (.func ..)=>∃(g:Nat)(a c:List Value),K (.func (.func g) ⟨a⟩ ⟨c⟩)
 |_=>∃v:Value,K v
def aba(P:Program):List TypeId->(List Value->Prop)->Prop
 |[],K=>K []
 |t::b,K=>NG P t λx=>aba P b λa=>K (x::a)
def Je(P:Program)(t:TypeId)(K:Value->Prop):Prop:=match P.underlying t with
 |some (.tuple b)=>aba P b.toList λa=>K (.tuple ⟨a⟩)
 |_=>NG P t K
theorem CC{t:TypeId}{K:Value->Prop}(a:NG P t K):∃v,K v:=by grind[NG]
theorem Gj{P:Program}:∀{b:List TypeId}{K:List Value->Prop},aba P b K->∃c,K c
 |[],_,a=>⟨_,a⟩
 |t::b,K,a=>by
  obtain⟨x,h⟩:=CC a;obtain⟨d,h⟩:=Gj h
  grind
theorem rE{t:TypeId}{K:Value->Prop}(a:Je P t K):∃v,K v:=by
 unfold Je at a;split at a
 ·obtain⟨_,h⟩:=Gj a;grind
 ·exact CC a
def Jf(P:Program)(t:TypeId)(r:Option Value)(h:ae)(K:VH):Prop:=Je P t λx=>r=some x/\K x h
def exP(r:Option Value)(h:ae)(K:VH):Prop:=∃a:Addr,r=some (.pointer (some a))/\K (.pointer (some a)) h
def exU(r:Option (Value×dM))(h:ae)(K:VH):Prop:=∃v u,r=some (v,u)/\K v (u.app h)
def exW(r:Option (Value×dM))(h:ae)(K:VH):Prop:=∃u,r=some (undef,u)/\K undef (u.app h)
def exS(r:Option (Value×dM))(h:ae)(K:VH):Prop:=∃(a:Option Addr)(n c:Nat)(u:dM),r=some (.slice a n c,u)/\K (.slice a n c) (u.app h)
def exC(r:Option (Value×dM))(h:ae)(K:VH):Prop:=∃(n:Int)(u:dM),r=some (.int .i64 n,u)/\K (.int .i64 n) (u.app h)
def k6(k:Nat):Value:= .pointer (some ⟨k,0,none⟩)
def mL(n c k:Nat):Value:= .slice (some ⟨k,0,none⟩) n c
abbrev OA:Type:=Option Addr
abbrev LV:Type:=List Value
abbrev LB:Type:=List UInt8
abbrev uN(l:List Value)(k:Nat):List Value:=l++List.replicate k undef
abbrev pA(k:Nat):Value:= .pointer (some ⟨k,0,none⟩)
abbrev sA(k n c:Nat):Value:= .slice (some ⟨k,0,none⟩) n c
abbrev nA:Value:= .slice none 0 0
abbrev iA(n:Nat):Value:= .int .i64 (n:Int)
abbrev xI(k:IntKind)(r:Option Value)(K:Int->Prop):Prop:=∃n:Int,r=some (.int k n)/\K n
abbrev xB(r:Option Value)(K:Bool->Prop):Prop:=∃b:Bool,r=some (.bool b)/\K b
abbrev xS(r:Option Value)(K:List UInt8->Prop):Prop:=∃l:List UInt8,r=some (strOf l)/\K l
abbrev xL(r:Option Value)(K:Option Addr->Nat->Nat->Prop):Prop:=∃(a:Option Addr)(n c:Nat),r=some (.slice a n c)/\K a n c
abbrev xO(r:Option Value)(K:Option Addr->Prop):Prop:=∃a:Option Addr,r=some (.pointer a)/\K a
abbrev xP(r:Option Value)(K:Addr->Prop):Prop:=∃a:Addr,r=some (.pointer (some a))/\K a
abbrev xA(r:Option Value)(K:List Value->Prop):Prop:=∃cs:List Value,r=some (.agg ⟨cs⟩)/\K cs
abbrev xF(r:Option Value)(K:Nat->List Value->List Value->Prop):Prop:=∃(g:Nat)(a c:List Value),r=some (.func (.func g) ⟨a⟩ ⟨c⟩)/\K g a c
abbrev yI(k:IntKind)(r:Value)(K:Int->Prop):Prop:=∃n:Int,r = .int k n/\K n
abbrev yB(r:Value)(K:Bool->Prop):Prop:=∃b:Bool,r = .bool b/\K b
abbrev yS(r:Value)(K:List UInt8->Prop):Prop:=∃l:List UInt8,r=strOf l/\K l
abbrev yL(r:Value)(K:Option Addr->Nat->Nat->Prop):Prop:=∃(a:Option Addr)(n c:Nat),r = .slice a n c/\K a n c
abbrev yO(r:Value)(K:Option Addr->Prop):Prop:=∃a:Option Addr,r = .pointer a/\K a
abbrev yA(r:Value)(K:List Value->Prop):Prop:=∃cs:List Value,r = .agg ⟨cs⟩/\K cs
abbrev yF(r:Value)(K:Nat->List Value->List Value->Prop):Prop:=∃(g:Nat)(a c:List Value),r = .func (.func g) ⟨a⟩ ⟨c⟩/\K g a c
abbrev yV(r:Value)(K:Value->Prop):Prop:=∃v:Value,r=v/\K v
abbrev xU(r:Option (Value×dM))(h:ae)(K:dM->ae->Prop):Prop:=∃u:dM,r=some (undef,u)/\K u (u.app h)
abbrev xE(r:Option (Value×dM))(h:ae)(K:Option Addr->Nat->Nat->dM->ae->Prop):Prop:=∃(a:Option Addr)(n c:Nat)(u:dM),r=some (.slice a n c,u)/\K a n c u (u.app h)
abbrev xC(r:Option (Value×dM))(h:ae)(K:Int->dM->ae->Prop):Prop:=∃(n:Int)(u:dM),r=some (.int .i64 n,u)/\K n u (u.app h)
abbrev xG(r:Option (Value×dM))(h:ae)(K:Value->dM->ae->Prop):Prop:=∃(v:Value)(u:dM),r=some (v,u)/\K v u (u.app h)
abbrev xN(r:Option (dS×(Nat->Value)))(h:ae)(K:dS->ae->Prop):Prop:=∃B:dS,r=some (B,k6)/\K B (h.push B)
abbrev xR(r:Option (dS×(Nat->Value)))(h:ae)(K:dS->Nat->Nat->ae->Prop):Prop:=∃(B:dS)(n c:Nat),r=some (B,mL n c)/\K B n c (h.push B)
abbrev zR(r:Option (dS×(Nat->Value)))(K:dS->Nat->Nat->Prop):Prop:=∃(B:dS)(n c:Nat),r=some (B,mL n c)/\K B n c
def exA(r:Option (dS×(Nat->Value)))(h:ae)(K:VH):Prop:=∃B,r=some (B,k6)/\K (k6 h.next) (h.push B)
def exR(r:Option (dS×(Nat->Value)))(h:ae)(K:VH):Prop:=∃B n c,r=some (B,mL n c)/\K (mL n c h.next) (h.push B)
def exM(r:Option (dS×(Nat->Value)))(h:ae)(K:VH):Prop:=∃B,r=some (B,λk=> .map (some k))/\K (.map (some h.next)) (h.push B)
def br(P:Program)(t:TypeId):Option (dS×(Nat->Value)):=bV P (λ_=>undef) ⟨none,.alloc t,0,"",#[],none⟩
def eK(P:Program)(t:TypeId)(v:Value):Option (dS×(Nat->Value)):=bV P (λ_=>v) ⟨none,.box t (.tmp 0),0,"",#[],none⟩
def ch(P:Program)(t:TypeId)(l c:Value):Option (dS×(Nat->Value)):=bV P (λx=>match x with|.tmp 0=>l|_=>c) ⟨none,.makeSlice t (.tmp 0) (.tmp 1),0,"",#[],none⟩
def aF(P:Program)(t:TypeId)(b:Nat)(a:List (Nat×Value)):Option (dS×(Nat->Value)):=
 bV P (λx=>match x with|.tmp i=>(a.getD i (0,undef)).2|_=>undef) ⟨none,.buildSlice t b ((List.range a.length).map λi=>((a.getD i (0,undef)).1,.tmp i)).toArray,0,"",#[],none⟩
def Ua(c a b:Value)(h:ae)(K:VH):Prop:=match c with
 |.bool t=>au t (K a h) (K b h)
 |_=>False
def aal(P:Program)(b:BinOp)(t a:TypeId)(x y:Value)(h:ae)(K:VH):Prop:=match b with
 |.quo|.rem|.shl|.shr=>Jf P a (ay P b t x y) h K
 |.add=>(match x with|.string _=>Jf P a (ay P .add t x y) h K|_=>uT (ay P .add t x y) h K)
 |.eql=>(match x with|.pointer _=>Jf P a (ay P .eql t x y) h K|.agg _=>Jf P a (ay P .eql t x y) h K|_=>uT (ay P .eql t x y) h K)
 |.neq=>(match x with|.pointer _=>Jf P a (ay P .neq t x y) h K|.agg _=>Jf P a (ay P .neq t x y) h K|_=>uT (ay P .neq t x y) h K)
 |b=>uT (ay P b t x y) h K
def SC(S:Sx)(c:TypeId)(f:Value)(b:List Value)(h:ae)(K:VH):Prop:=match f with
 |.func (.func g) first a=>au (Nat.blt g YB) (FW S g (first.toList++b++a.toList) h λv h=>Je S.P c λx=>v=x/\K x h) False
 |.func (.yield k) ⟨[]⟩ ⟨[]⟩=>FW S (YB+k) b h λv h=>Je S.P c λx=>v=x/\K x h
 |_=>False
def Bo(P:Program)(s d:TypeId)(x:Value)(h:ae):Option Value:=cW P (λ_=>x) ⟨none,.convert s d (.tmp 0),0,"",#[],none⟩ h
def ad2(t:Option TypeDesc):Bool:=match t with
 |some .unsafePointer=>true
 |_=>false
def BI(P:Program)(t:TypeId)(m k x:Value)(h:ae):Option (Value×dM):=match P.underlying t,m with
  |some (.map b _),.map (some r)=>match h.get r with
   |some (.map c)=>if tq P b k then(rL P b k x c).map λa=>(undef,.set r (.map a))else none
   |_=>none
  |_,_=>none
def acH(P:Program)(t:TypeId)(m k:Value)(a:Bool)(h:ae):Option Value:=cW P (λx=>match x with|.tmp 0=>m|_=>k) ⟨none,.lookup t (.tmp 0) (.tmp 1) a,0,"",#[],none⟩ h
def TJ(P:Program)(t:TypeId):Option (dS×(Nat->Value)):=bV P (λ_=>undef) ⟨none,.makeMap t none,0,"",#[],none⟩
def opQ(S:Sx)(ρ:Operand->Value)(o:Oper)(h:ae)(K:VH):Prop:=match o.op with
 |.move x|.assign x=>K (ρ x) h
 |.pick c a b=>Ua (ρ c) (ρ a) (ρ b) h K
 |.binOp g t x y _=>aal S.P g t o.type (ρ x) (ρ y) h K
 |.unOp g _ x=>uT (KF g (ρ x)) h K
 |.extract x i=>uT (Zz (ρ x) i) h K
 |.index t x i=>Jf S.P o.type (bP S.P t (ρ x) (ρ i)) h K
 |.indexAddr t x i=>exP (aA S.P t (ρ x) (ρ i)) h K
 |.fieldAddr t x f=>exP (aG S.P t (ρ x) f) h K
 |.field t x f=>Jf S.P o.type (S1 S.P t (ρ x) f) h K
 |.load t a=>Jf S.P t (aj S.P t h (ρ a)) h K
 |.slice t x q n j=>Jf S.P o.type (bG S.P t (ρ x) (q.map ρ) (n.map ρ) (j.map ρ) h) h K
 |.store t a x=>exW (ah S.P t (ρ a) (ρ x) h) h K
 |.alloc t=>exA (br S.P t) h K
 |.box t x=>exA (eK S.P t (ρ x)) h K
 |.makeSlice t l c=>exR (ch S.P t (ρ l) (ρ c)) h K
 |.buildSlice .. =>exR (bV S.P ρ o) h K
 |.makeMap t r=>exM (match r with|none=>TJ S.P t|some _=>bV S.P ρ o) h K
 |.mapUpdate t m k x=>exW (BI S.P t (ρ m) (ρ k) (ρ x) h) h K
 |.insert t m k x=>exW (BI S.P t (ρ m) (ρ k) (ρ x) h) h K
 |.lookup t m k u=>Jf S.P o.type (acH S.P t (ρ m) (ρ k) u h) h K
 |.convert s d x=>(match ad2 (S.P.underlying s)with|true=>exU (dV S.P ji ρ o h) h K|false=>(match ρ x with|.int _ _=>uT (gN S.P s d (ρ x)) h K|.slice _ _ _=>Jf S.P o.type (Bo S.P s d (ρ x) h) h K|_=>exU (dV S.P ji ρ o h) h K))
 |.build t e=>Jf S.P o.type (bh S.P t (e.toList.map λp=>(p.1,ρ p.2))) h K
 |.makeFunc ..|.makeInterface ..|.nilCheck ..|.typeAssert .. =>uT (dr S.P ρ o) h K
 |.panic .. =>False
 |.call { callee:= .value f,args,.. }=>SC S o.type (ρ f) (args.toList.map ρ) h K
 |.call { callee:= .builtin .len,args,argTypes }=>(match args.toList,argTypes.toList with|[x],[t]=>(match ρ x with|.map _=>Jf S.P o.type (TE S.P t (ρ x) h) h K|_=>uT (TE S.P t (ρ x) h) h K)|_,_=>False)
 |.call { callee:= .builtin .max,args,.. }=>Jf S.P o.type (rQ true (args.toList.map ρ)) h K
 |.call { callee:= .builtin .min,args,.. }=>Jf S.P o.type (rQ false (args.toList.map ρ)) h K
 |.call { callee:= .builtin .append,args,argTypes }=>(match args.toList,argTypes.toList with|[s,x],[t,v]=>exS (bI S.P t v (ρ s) (ρ x) h) h K|_,_=>False)
 |.call { callee:= .builtin .copy,args,argTypes }=>(match args.toList,argTypes.toList with|[d,s],[t,_]=>exC (copyV S.P t (ρ d) (ρ s) h) h K|_,_=>False)
 |.call { callee:= .builtin _,.. }=>exU (dV S.P ji ρ o h) h K
 |_=>exU (dV S.P ji ρ o h) h K
theorem gG{t:TypeId}{r:Option Value}{K:VH}(a:Jf P t r h K):uT r h K:=by
 obtain⟨v,b,c⟩:=rE a;rw[b];exact c
theorem D6{r:Option Value}{K:VH}(a:exP r h K):uT r h K:=by
 obtain⟨v,b,c⟩:=a;rw[b];exact c
theorem sx{r:Option (Value×dM)}{K:VH}(a:exU r h K):H8 r h K:=by
 obtain⟨v,u,b,c⟩:=a;rw[b];exact c
theorem wL{r:Option (Value×dM)}{K:VH}(a:exW r h K):H8 r h K:=by
 obtain⟨u,b,c⟩:=a;rw[b];exact c
theorem Ng{r:Option (Value×dM)}{K:VH}(b:exS r h K):H8 r h K:=by
 obtain⟨a,n,c,u,d,e⟩:=b;rw[d];exact e
theorem Nf{r:Option (Value×dM)}{K:VH}(a:exC r h K):H8 r h K:=by
 obtain⟨n,u,b,c⟩:=a;rw[b];exact c
theorem DX{r:Option (dS×(Nat->Value))}{K:VH}(a:exA r h K):wpA r h K:=by
 obtain⟨B,b,c⟩:=a;rw[b];exact c
theorem DZ{r:Option (dS×(Nat->Value))}{K:VH}(a:exR r h K):wpA r h K:=by
 obtain⟨B,n,c,b,d⟩:=a;rw[b];exact d
theorem DY{r:Option (dS×(Nat->Value))}{K:VH}(a:exM r h K):wpA r h K:=by
 obtain⟨B,b,c⟩:=a;rw[b];exact c
theorem SD{K:VH}(a:SC X T v c h K):sw X v c h K:=by
 unfold SC at a;unfold sw;split at a
 ·rcases yu a with⟨d,a⟩|⟨_,a⟩
  ·refine⟨by simpa[blt_eq]using d,a.mono λe h a=>?_⟩;obtain⟨x,rfl,b⟩:=rE a;exact b
  ·exact a.elim
 ·exact⟨⟨rfl,rfl⟩,a.mono λe h a=>by
   obtain⟨x,rfl,b⟩:=rE a;exact b⟩
 grind
theorem Sw{a:BinOp}{t:TypeId}{x:Value}{K:VH}(b:aal P a t T x v h K):uT (ay P a t x v) h K:=by
 unfold aal at b
 grind[gG]
theorem PZ{c a b:Value}{K:VH}(d:Ua c a b h K):uT (ZJ c a b) h K:=by
 unfold Ua at d;split at d
 ·next t=>
  rcases yu d with⟨rfl,e⟩|⟨rfl,e⟩<;>exact e
 grind
theorem uB{o:Oper}{K:VH}(b:opQ X (fv X.gl E) o h K):wpOp X E o h K:=by
 obtain⟨p,H,q,l,g,f⟩:=o;unfold opQ at b;split at b
 ·next e=>subst e;exact b
 ·next e=>subst e;exact b
 ·next e=>subst e;rw[Rr];exact PZ b
 ·next e=>subst e;rw[M8];exact Sw b
 ·next e=>subst e;rw[Rs];exact b
 ·next e=>subst e;rw[H5];exact b
 ·next e=>subst e;rw[Na];exact gG b
 ·next e=>subst e;rw[D5];exact D6 b
 ·next e=>subst e;rw[D4];exact D6 b
 ·next e=>subst e;rw[M9];exact gG b
 ·next e=>subst e;rw[Rp];exact gG b
 ·next e=>subst e;rw[Nb];exact gG b
 ·next e=>subst e;rw[Nd];exact wL b
 ·next e=>subst e;rw[nv _ _ _ _ _ rfl rfl rfl rfl];exact DX b
 ·next e=>subst e;rw[nv _ _ _ _ _ rfl rfl rfl rfl];exact DX b
 ·next e=>subst e;rw[nv _ _ _ _ _ rfl rfl rfl rfl];exact DZ b
 ·next e=>subst e;rw[nv _ _ _ _ _ rfl rfl rfl rfl];exact DZ b
 ·next t r e=>
  subst e;rw[nv _ _ _ _ _ rfl rfl rfl rfl]
  cases r with
  |none=>exact DY b
  |some x=>exact DY b
 ·next t m k x e=>
  subst e;rw[iE _ _ _ _ rfl];have y:dV X.P ji (fv X.gl E) ⟨p,.mapUpdate t m k x,q,l,g,f⟩ h=BI X.P t (fv X.gl E m) (fv X.gl E k) (fv X.gl E x) h:=rfl;rw[y];exact wL b
 ·next t m k x e=>
  subst e;rw[iE _ _ _ _ rfl];have y:dV X.P ji (fv X.gl E) ⟨p,.insert t m k x,q,l,g,f⟩ h=BI X.P t (fv X.gl E m) (fv X.gl E k) (fv X.gl E x) h:=rfl;rw[y];exact wL b
 ·next t m k D e=>
  subst e;have b:uT (cW X.P (fv X.gl E) ⟨p,.lookup t m k D,q,l,g,f⟩ h) h K:=gG b;exact(qO X E h K ⟨p,.lookup t m k D,q,l,g,f⟩ rfl rfl rfl rfl)▸b
 ·next e=>
  subst e;rw[iE _ _ _ _ rfl];split at b
  ·exact sx b
  split at b
  ·next k n A=>
   unfold dV;generalize B:dr X.P (fv X.gl E) _=r
   cases r with
   |some v=>rw[show gN X.P _ _ _=some v from B]at b;exact b
   |none=>rw[show gN X.P _ _ _=none from B]at b;exact b.elim
  ·next a n c A=>
   obtain⟨v,u,w⟩:=rE b;have B:∀s d,gN X.P s d (.slice a n c)=none:=λs d=>by unfold gN;split<;>simp_all
   have F:∀s d x,fv X.gl E x = .slice a n c->dr X.P (fv X.gl E) ⟨p,.convert s d x,q,l,g,f⟩=none:=λs d x A=>by
    show gN X.P s d (fv X.gl E x)=none;rw[A];exact B s d
   have G:∀s d x,cW X.P (fv X.gl E) ⟨p,.convert s d x,q,l,g,f⟩ h=Bo X.P s d (fv X.gl E x) h:=λs d x=>rfl;unfold dV;rw[F _ _ _ A];dsimp only;rw[G,u];exact w
  ·exact sx b
 ·next e=>subst e;rw[eE _ _ _ _ _ _ _ _ _ rfl];exact gG b
 ·next e=>subst e;rw[eE _ _ _ _ _ _ _ _ _ rfl];exact b
 ·next e=>subst e;rw[eE _ _ _ _ _ _ _ _ _ rfl];exact b
 ·next e=>subst e;rw[eE _ _ _ _ _ _ _ _ _ rfl];exact b
 ·next e=>subst e;rw[eE _ _ _ _ _ _ _ _ _ rfl];exact b
 ·exact b.elim
 ·next e=>subst e;exact SD b
 ·next i j e=>
  subst e;split at b
  ·next x t u w=>
   obtain⟨i⟩:=i;obtain⟨j⟩:=j;obtain rfl:i=[x]:=u;obtain rfl:j=[t]:=w;have C:uT (TE X.P t (fv X.gl E x) h) h K:=by
    split at b
    ·exact gG b
    ·exact b
   exact(We X E p q l g f h K x t).symm▸C
  ·exact b.elim
 ·next e=>subst e;rw[Wg];exact gG b
 ·next e=>subst e;rw[Wh];exact gG b
 ·next i j e=>
  subst e;split at b
  ·next s x t z u w=>
   obtain⟨i⟩:=i;obtain⟨j⟩:=j;obtain rfl:i=[s,x]:=u;obtain rfl:j=[t,z]:=w;exact(KJ X E p q l g f h K s x t z).symm▸Ng b
  ·exact b.elim
 ·next i j e=>
  subst e;split at b
  ·next s x t z u w=>
   obtain⟨i⟩:=i;obtain⟨j⟩:=j;obtain rfl:i=[s,x]:=u;obtain rfl:j=[t,z]:=w;have y:wpOp X E ⟨p,.call ⟨.builtin .copy,#[s,x],#[t,z]⟩,q,l,g,f⟩ h K=H8 (copyV X.P t (fv X.gl E s) (fv X.gl E x) h) h K:=D3 X E h K _ rfl rfl rfl rfl;exact y.symm▸Nf b
  ·exact b.elim
 ·next e=>subst e;rw[iE _ _ _ _ rfl];exact sx b
 grind[iE,sx,bN]
def Q1:TS->Nat->Value->(TS->Prop)->Prop
 |[],_,_,K=>K []
 |_::l,0,v,K=>K (v::l)
 |x::l,d+1,v,K=>Q1 l d v λl=>K (x::l)
def S9:TS->Nat->(Value->Prop)->Prop
 |[],_,K=>K undef
 |x::_,0,K=>K x
 |_::l,t+1,K=>S9 l t K
theorem BQ:∀(l:TS)(d:Nat)(v:Value)(K:TS->Prop),Q1 l d v K=K (l.set d v)
 |[],_,_,_=>rfl
 |_::_,0,_,_=>rfl
 |x::l,d+1,v,K=>by rw[Q1,BQ l d v];rfl
theorem G0:∀(l:TS)(t:Nat)(K:Value->Prop),S9 l t K=K (l.getD t undef)
 |[],_,_=>rfl
 |_::_,0,_=>rfl
 |x::l,t+1,K=>by rw[S9,G0 l t];rfl
def Hx(a:TS)(b:Option Tmp)(v:Value)(K:TS->Prop):Prop:=match b with
 |some d=>Q1 a d v K
 |none=>K a
theorem BM(b:TS)(a:Option Tmp)(v:Value)(K:TS->Prop):Hx b a v K=K (jx b a v):=by
 cases a with
 |none=>rfl
 |some d=>exact BQ _ _ _ _
def opT(S:Sx)(a:TS)(o:Oper)(h:ae)(K:VH):Prop:=match o.op with
 |.move (.tmp t)=>S9 a t λv=>K v h
 |.assign (.tmp t)=>S9 a t λv=>K v h
 |_=>opQ S (ev S.gl a) o h K
theorem NU{b:TS}{o:Oper}{K:VH}(a:opT X b o h K):opQ X (ev X.gl b) o h K:=by
 unfold opT at a;split at a
 ·next t e=>rw[G0]at a;unfold opQ;rw[e];exact a
 ·next t e=>rw[G0]at a;unfold opQ;rw[e];exact a
 omega
def gS(ops:Array Oper)(c:TS)(e:Option (Nat×Bool))(A B:TS->Prop):Prop:=match e with
 |none=>A c
 | some (j,a)=>match (ops[j]?).bind (·.dst)with
  |some d=>match c.getD d undef with
   |.bool b=>au b (Q1 c d (.bool true) (Bool.rec (motive:=λ_=>TS->Prop) B A a)) (Q1 c d (.bool false) (Bool.rec (motive:=λ_=>TS->Prop) A B a))
   |.tuple _=>B c
   |_=>False
  |none=>False
def Yb(S:Sx)(ops:Array Oper):List Oper->TS->ae->TH->Prop
 |[],a,h,R=>R a h
 |o::l,a,h,R=>gS ops a o.guard (λa=>opT S a o h λv h=>Hx a o.dst v λa=>Yb S ops l a h R) (λa=>Hx a o.dst undef λa=>Yb S ops l a h R)
def lift(b:Nat)(Q:TH):FH:=λE h=>∃a:TS,a.length=b/\E=fr a/\Q a h
def AM(a:Nat)(Q:eQ):Ej:=λx=>lift a (Q x)
def Zu(v:Value)(A B:Prop):Prop:=match v with
 |.bool b=>au b A B
 |_=>False
def Nk(S:Sx)(a:Nat)(c:Code)(b:TS)(h:ae)(Q:eQ):Prop:=EW S a c (fr b) h (AM a Q)
def Lg(S:Sx)(a:Nat)(c:Code)(b:TS)(h:ae)(Q:eQ):Prop:=Lh S a c (fr b) h (AM a Q)
def acX(B:TH)(Q:eQ)(x:Exit)(a:TS)(h:ae):Prop:=match x with
 |.normal=>B a h
 |x=>Q x a h
def Lv(c:Nat)(Q:eQ)(x:Exit)(b:TS)(h:ae):Prop:=match x with
 |.exit a=>(match Nat.beq a c with|true=>Q .normal b h|false=>Q (.exit a) b h)
 |x=>Q x b h
def room(h:ae)(n:Nat):ae:={ h with next:=h.next+n }
def LR:Op->Bool
 |.load ..|.slice .. =>true
 |.call { callee:= .builtin .len,.. }=>true
 |_=>false
def aeD:Op->Bool
 |.store .. =>true
 |.call { callee:= .value _,.. }=>true
 |_=>false
def WN(ops:Array Oper)(f:Op->Bool)(j:Nat):Bool:=match ops[j]? with|some o=>f o.op|none=>false
def Js:Op->Bool
 |.alloc ..|.box ..|.makeSlice ..|.buildSlice .. =>true
 |_=>false
def CR:Op->Bool
 |.store .. =>true
 |.call { callee:= .value _,.. }=>true
 |.call { callee:= .builtin .append,.. }|.call { callee:= .builtin .copy,.. }|.call { callee:= .builtin .unsafeSliceData,.. }|.call { callee:= .builtin .unsafeString,.. }=>true
 |_=>false
def ifC(b:Bool)(A B:Prop):Prop:=Bool.rec (motive:=λ_=>Prop) B A b
def N7(S:Sx)(o:Oper)(E:Fr)(v:Value)(h:ae)(K:Prop):Prop:=match o.op with
 |.load t a=>(aj S.P t h (fv S.gl E a)=some v/\dG 4 v v=true)/\K
 |.slice t x d c b=>(bG S.P t (fv S.gl E x) (d.map (fv S.gl E)) (c.map (fv S.gl E)) (b.map (fv S.gl E)) h=some v/\dG 4 v v=true)/\K
 |_=>(cW S.P (fv S.gl E) o h=some v/\dG 4 v v=true)/\K
def uF(S:Sx)(bf:Nat->Nat->Bool)(j:Nat)(o:Oper)(E:Fr)(v:Value):ae->List (Nat×ae)->Bool->Prop->Prop
 |h,[],a,K=>ifC a K (N7 S o E v h K)
 |h,(e,b)::r,a,K=>ifC ((a&&Nat.blt j e)||bf j e) (ifC (bf e j) K (uF S bf j o E v b r (Nat.blt e j) K)) (N7 S o E v h (ifC (bf e j) K (uF S bf j o E v b r (Nat.blt e j) K)))
def zP(S:Sx)(bf:Nat->Nat->Bool)(h:ae)(a:List (Nat×ae)):List KS->Nat->Prop->Prop
 |[],_,K=>K
 |(E,o,.read v)::r,j,K=>uF S bf j o E v h a true (zP S bf h a r (j+1) K)
 |_::r,j,K=>zP S bf h a r (j+1) K
def alQ(S:Sx)(ρ:Operand->Value)(o:Oper)(K:dS->(Nat->Value)->Prop):Prop:=match o.op with
 |.alloc t=>∃B,br S.P t=some (B,k6)/\K B k6
 |.box t x=>∃B,eK S.P t (ρ x)=some (B,k6)/\K B k6
 |.makeSlice t l c=>∃B n d,ch S.P t (ρ l) (ρ c)=some (B,mL n d)/\K B (mL n d)
 |_=>∃B n d,bV S.P ρ o=some (B,mL n d)/\K B (mL n d)
def ZC{f:Type}(e:Op)(a b c d:f):f:=match nF e with
 |true=>a
 | false=>match LR e with
  |true=>b
  |false=>match Js e with
   |true=>c
   |false=>d
def yE(S:Sx)(bf:Nat->Nat->Bool)(ops:Array Oper)(base:Nat)(d:ae):List Oper->Nat->TS->ae->List (Nat×dS)->List KS->TH->Prop
 |[],_,a,h,pd,b,R=>zP S bf d (pI b.reverse 0) b.reverse 0 (R a (cj h base pd))
 | o::l,j,a,h,pd,b,R=>gS ops a o.guard
   (λa=>ZC o.op
    (opT S a o h λv _=>Hx a o.dst v λc=>yE S bf ops base d l (j+1) c h pd ((fr a,o,.pure v)::b) R)
    (opT S a o h λv _=>Hx a o.dst v λc=>yE S bf ops base d l (j+1) c h pd ((fr a,o,.read v)::b) R)
    (alQ S (ev S.gl a) o λB f=>Hx a o.dst (f (base+j)) λc=>yE S bf ops base d l (j+1) c h ((j,B)::pd) ((fr a,o,.alloc B (f (base+j)))::b) R)
    (opT S a o (cj h base (pd.filter λp=>bf j p.1)) λv e=>Hx a o.dst v λc=>yE S bf ops base d l (j+1) c e (pd.filter λp=> !bf j p.1) ((fr a,o,.BE v e)::b) R))
   (λa=>Hx a o.dst undef λc=>yE S bf ops base d l (j+1) c h pd ((fr a,o,.skip)::b) R)
def sj(ops:Array Oper):Bool:= !Lk ops&&(ops.toList.all λo=>nF o.op||LR o.op||Js o.op||CR o.op)&&(List.range ops.size).all λe=> !WN ops CR e||(List.range ops.size).all λj=> !WN ops CR j || !Nat.blt j e||eY (lF ops) e j
def vj(a:TS)(j:Nat):Value:=a.getD j undef
def Bg:Nat->Nat->List (Nat×Value)->(Nat->Value)->TS
 |0,_,_,_=>[]
 |n+1,j,[],x=>x j::Bg n (j+1) [] x
 |n+1,j,(i,v)::l,x=>match Nat.beq i j with
  |true=>v::Bg n (j+1) l x
  |false=>x j::Bg n (j+1) ((i,v)::l) x
theorem Hg:∀(n j:Nat)(l:List (Nat×Value))(x:Nat->Value),(∀p∈l,p.2=x p.1)->Bg n j l x=(List.range' j n).map x
 |0,_,_,_,_=>by rfl
 |n+1,j,[],x,h=>by simp only[Bg,range'_succ,List.map_cons];rw[Hg n (j+1) [] x h]
 | n+1,j,(i,v)::l,x,h=>by
  simp only[Bg,range'_succ,List.map_cons]
  cases a:Nat.beq i j with
  |true=>
   dsimp only;rw[Hg n (j+1) l x λp b=>h p (mem_cons_of_mem _ b),<-Nat.eq_of_beq_eq_true a]
   simp_all
  |false=>
   dsimp only;rw[Hg n (j+1) ((i,v)::l) x h]
theorem BJ:∀(n j:Nat)(l:List (Nat×Value))(x:Nat->Value),(Bg n j l x).length=n
 |0,_,_,_=>by rfl
 |n+1,j,[],x=>by simp only[Bg,length_cons];rw[BJ n (j+1) [] x]
 |n+1,j,(i,v)::l,x=>by
  simp only[Bg]
  cases a:Nat.beq i j with
  |true=>dsimp only;rw[length_cons,BJ n (j+1) l x]
  |false=>dsimp only;rw[length_cons,BJ n (j+1) ((i,v)::l) x]
theorem KO(f:Nat->Value):∀(M:List Nat),∀p∈M.zip (M.map f),p.2=f p.1
 |[],p,h=>by simp at h
 |a::M,p,h=>by
  rw[List.map_cons,List.zip_cons_cons]at h;rcases mem_cons.1 h with rfl|h
  ·rfl
  ·exact KO f M p h
theorem JA{a:TS}(b:a.length=n)(M:List Nat):Bg n 0 (M.zip (M.map (vj a))) (vj a)=a:=by
 rw[Hg _ _ _ _ (KO _ M)];refine List.ext_getElem? λi=>?_
 grind[vj]
def Zh(S:Sx)(a:Nat)(M:List Nat)(c:Code)(w:List Value)(h:ae)(Q:eQ):Prop:=∀x:Nat->Value,Nk S a c (Bg a 0 (M.zip w) x) h Q
def TG(S:Sx)(b:Nat)(M:List Nat)(c:Code)(a:TS)(h:ae)(Q:eQ):Prop:=match Nat.beq a.length b with
 |true=>Zh S b M c (M.map (vj a)) h Q
 |false=>Nk S b c a h Q
theorem LW{M:List Nat}{c:Code}{a:TS}{Q:eQ}(d:a.length=n)(b:TG X n M c a h Q):Nk X n c a h Q:=by
 unfold TG at b;rw[d,Nat.beq_refl]at b;have:=b (vj a)
 grind[JA]
structure FD where
 nm:Nat
 body:Code
 rs:List ResultVar
 ms:List (List Nat×List Nat)
def cG(a:Func)(b:List (List Nat×List Nat)):FD:=⟨a.ntmps,a.body.getD .skip,a.results.toList,b⟩
def acw:List Nat->List Nat->Bool
 |[],[]=>true
 |a::x,b::y=>(match Nat.beq a b with
  |true=>acw x y
  |false=>false)
 |_,_=>false
def zK:List (List Nat×List Nat)->List Nat->List Nat
 |[],_=>[]
 |(q,m)::r,p=>match acw q p with
  |true=>m
  |false=>zK r p
def wpS(S:Sx)(e:Nat)(M:List (List Nat×List Nat))(p:List Nat):Code->TS->ae->eQ->Prop
 |.skip,d,h,Q=>Q .normal d h
 | .region _ ops i,d,h,Q=>(match i with
  |false=>Yb S ops ops.toList d h λd h=>Q .normal d h
  |true=>(match sj ops with
   |true=>yE S (eY (lF ops)) ops h.next (room h ops.size) ops.toList 0 d (room h ops.size) [] [] λd h=>Q .normal d h
   |false=>wpD S ops (fr d) h (lift e λd h=>Q .normal d h)))
 |.seq a b,d,h,Q=>wpS S e M (0::p) a d h (acX (λd h=>wpS S e M (1::p) b d h Q) Q)
 |.cond c a b,d,h,Q=>Zu (ev S.gl d c) (wpS S e M (0::p) a d h Q) (wpS S e M (1::p) b d h Q)
 |.block g c,d,h,Q=>wpS S e M (0::p) c d h (Lv g Q)
 |.loop c,d,h,Q=>TG S e (zK M (0::p).reverse) c d h Q
 |.exit g,d,h,Q=>Q (.exit g) d h
 |.ret,d,h,Q=>Q .ret d h
 |.label _,d,h,Q=>Q .normal d h
 |.rangeFunc f j a b,d,h,Q=>Lg S e (.rangeFunc f j a b) d h Q
 |_,_,_,_=>False
end
theorem S6{a:TS}(h:a.length=n):ER n (fr a) a:=⟨h,λ_=>rfl⟩
theorem Fu{a:TS}(gl:Nat->Bool):fv gl (fr a)=ev gl a:=rfl
theorem CK{b:TS}(h:b.length=n){a:Option Tmp}(c:tk n a=true)(v:Value):ve (fr b) a v=fr (jx b a v):=by
 funext t;exact((S6 h).put c v).2 t |>.symm
theorem AI{a:TS}(h:a.getD n undef=v):a.set n v=a:=by
 refine List.ext_getElem? λi=>?_
 grind
theorem Jm{ops:Array Oper}{h:TS}{c:Option (Nat×Bool)}{A B:TS->Prop}{k m:Unit->Prop}(n:A h->k ())(l:B h->m ())(a:gS ops h c A B):ZO (DV ops (fr h) c) k m:=by
 cases c with
 |none=>exact n a
 | some g=>
  obtain⟨j,e⟩:=g;unfold gS at a;rw[M6];dsimp only at a
  cases o:(ops[j]?).bind (·.dst)with
  |none=>grind
  | some d=>
   rw[o]at a;dsimp only at a⊢;show ZO (match h.getD d undef with|.bool b=>some (b==e)|.tuple _=>some false|_=>none) k m
   cases i:h.getD d undef with
   | bool b=>
    rw[i]at a;dsimp only at a⊢;rcases yu a with⟨rfl,f⟩|⟨rfl,f⟩
    ·rw[BQ,AI i]at f
     cases e
     ·exact l f
     ·exact n f
    ·rw[BQ,AI i]at f
     cases e
     ·exact n f
     ·exact l f
   |tuple p=>rw[i]at a;exact l a
   |_=>rw[i]at a;exact a.elim
theorem KL{r:Option (Value×dM)}{K:VH}(b:∀v h,K v h->Q v h)(a:H8 r h K):H8 r h Q:=by
 cases r with
 |none=>exact a
 |some p=>obtain⟨v,u⟩:=p;exact b _ _ a
theorem A0{K:VH}(b:∀d h,K d h->Q d h)(a:sw X v c h K):sw X v c h Q:=by
 unfold sw at a⊢;split at a
 ·exact⟨a.1,a.2.mono b⟩
 ·exact⟨a.1,a.2.mono b⟩
 omega
theorem Rq{o:Oper}{K:VH}(b:∀v h,K v h->Q v h)(a:wpOp X E o h K):wpOp X E o h Q:=by grind[A0,KL,wpOp]
theorem wv{S:Sx}{f:Nat}{ops:Array Oper}{R:TH}{c:FH}(g:∀b h,b.length=f->R b h->c (fr b) h):∀(l:List Oper){b:TS}{h:ae},b.length=f->(l.all λo=>tk f o.dst)=true->Yb S ops l b h R->Ww S ops l (fr b) h c
 |[],_,_,e,_,a=>g _ _ e a
 |o::l,b,h,e,d,a=>by
  simp only[all_cons,and_eq_true]at d;rw[Wd];refine Jm (λa=>?_) (λa=>?_) a
  ·show wpOp S (fr b) o h (opK S ops o.dst l (fr b) c);have a:=NU a;rw[<-Fu]at a;refine Rq (λv h a=>?_) (uB a);show Ww S ops l (ve (fr b) o.dst v) h c;rw[CK e d.1];rw[BM]at a;exact wv g l (by grind[nq]) d.2 a
  ·show Ww S ops l (ve (fr b) o.dst undef) h c;rw[CK e d.1];rw[BM]at a;exact wv g l (by grind[nq]) d.2 a
theorem D2{o:Oper}{K:VH}(b:∀v h,K v h->Q v h)(a:D1 X E o h K):D1 X E o h Q:=by grind[A0,KL,D1]
theorem Wc{r:Option Bool}{A B a b:Unit->Prop}(e:A ()->a ())(c:B ()->b ())(d:ZO r A B):ZO r a b:=by
 rcases H3 d with⟨rfl,h⟩|⟨rfl,h⟩
 ·exact e h
 ·exact c h
theorem oD{S:Sx}{bf:Nat->Nat->Bool}{ops:Array Oper}{base:Nat}{g:ae}{R i:FH}(c:∀E h,R E h->i E h):∀(l:List Oper)(j:Nat)(E:Fr)(h:ae)(pd:List (Nat×dS))(b:List KS),yJ S bf ops base g l j E h pd b R->yJ S bf ops base g l j E h pd b i
 |[],_,_,_,_,_,a=>⟨a.1,c _ _ a.2⟩
 | o::l,j,E,h,pd,b,a=>by
  simp only[yJ]at a⊢;refine Wc (λa=>?_) (λa=>oD c l _ _ _ _ _ a) a
  cases k:dr S.P (fv S.gl E) o with
  |some v=>rw[k]at a;exact oD c l _ _ _ _ _ a
  | none=>
   rw[k]at a;dsimp only at a⊢
   cases e:cW S.P (fv S.gl E) o h with
   |some v=>rw[e]at a;exact oD c l _ _ _ _ _ a
   | none=>
    rw[e]at a;dsimp only at a⊢
    cases d:bV S.P (fv S.gl E) o with
    |some p=>obtain⟨B,f⟩:=p;rw[d]at a;exact oD c l _ _ _ _ _ a
    |none=>
     rw[d]at a;dsimp only at a⊢;exact D2 (λv m a=>oD c l _ _ _ _ _ a) a
theorem Wb{ops:Array Oper}{R b:FH}(c:∀E h,R E h->b E h)(a:wpD X ops E h R):wpD X ops E h b:=⟨a.1,oD c _ _ _ _ _ _ a.2⟩
theorem Z6{ops:Array Oper}{f:Op->Bool}(h:WN ops f j=true):j<ops.size:=by grind[WN]
theorem CP{A B:Prop}(h:ifC b A B):(b=true/\A)\/(b=false/\B):=by
 cases b with
 |true=>exact .inl ⟨rfl,h⟩
 |false=>exact .inr ⟨rfl,h⟩
theorem tR{o:Oper}{K:Prop}(a:N7 X o E v h K):F3 X o E v h=true/\K:=by
 obtain⟨f,i,g,d,c,b⟩:=o;have j:(cW X.P (fv X.gl E) ⟨f,i,g,d,c,b⟩ h=some v/\dG 4 v v=true)/\K:=by
  unfold N7 at a;split at a
  ·next e=>subst e;exact a
  ·next e=>subst e;exact a
  ·exact a
 grind[F3]
theorem vI{S:Sx}{bf:Nat->Nat->Bool}{j:Nat}{o:Oper}{E:Fr}{v:Value}{K:Prop}:∀{g:List (Nat×ae)}{h:ae}{a:Bool},uF S bf j o E v h g a K->pU S bf j o E v h g a=true/\K
 |[],h,a,b=>by
  rcases CP b with⟨rfl,d⟩|⟨rfl,d⟩
  ·exact⟨rfl,d⟩
  ·exact⟨(tR d).1,(tR d).2⟩
 | (e,i)::r,h,a,b=>by
  have m:∀{k:Prop},ifC (bf e j) K (uF S bf j o E v i r (Nat.blt e j) K)->((bf e j||pU S bf j o E v i r (Nat.blt e j))=true)/\K:=λb=>by
   rcases CP b with⟨f,c⟩|⟨f,c⟩
   ·grind
   ·have:=vI c
    grind
  have b:ifC ((a&&Nat.blt j e)||bf j e) _ _:=b;simp only[pU,and_eq_true];rcases CP b with⟨f,c⟩|⟨f,c⟩
  ·simp_all
  ·obtain⟨l,n⟩:=tR c
   simp_all
theorem r6{S:Sx}{bf:Nat->Nat->Bool}{h:ae}{b:List (Nat×ae)}{K:Prop}:∀{l:List KS}{j:Nat},zP S bf h b l j K->wB S bf h b l j=true/\K
 |[],_,a=>⟨rfl,a⟩
 | (E,o,e)::r,j,a=>by
  cases e with
  |read v=>
   have c:=vI (show uF S bf j o E v h b true (zP S bf h b r (j+1) K)from a);have d:=r6 c.2
   grind[wB]
  |_=>exact r6 (l:=r) a
def EU(ops:Array Oper)(i:Nat)(l:List KS):Prop:=∀k r,l[k]?=some r->∀v g,r.2.2 = .BE v g->WN ops CR (i+k)=true
theorem wc{ops:Array Oper}:∀{l:List KS}{i:Nat},EU ops i l->∀p∈pI l i,WN ops CR p.1=true/\i<=p.1
 |[],_,_=>by simp[pI]
 | r::l,i,c=>by
  have a:EU ops (i+1) l:=λk r h=>by
   have:=c (k+1) r (by simpa using h)
   grind
  obtain⟨E,o,e⟩:=r;intro p b;have d:p∈pI l (i+1)->WN ops CR p.1=true/\i<=p.1:=λh=>⟨(wc a p h).1,by have:=(wc a p h).2;omega⟩
  cases e with
  |BE v g=>
   rcases mem_cons.1 b with rfl|b
   ·exact⟨c 0 _ rfl v g rfl,Nat.le_refl _⟩
   grind
  |_=>exact d b
theorem tW{ops:Array Oper}(b:sj ops=true):∀{l:List KS}{i:Nat},EU ops i l->jQ (eY (lF ops)) (pI l i)=true
 |[],_,_=>rfl
 | r::l,i,s=>by
  have c:EU ops (i+1) l:=λk r h=>by
   have:=s (k+1) r (by simpa using h)
   grind
  obtain⟨E,o,e⟩:=r;have d:=tW b c
  cases e with
  | BE v g=>
   show jQ (eY (lF ops)) ((i,g)::pI l (i+1))=true;have a:=wc c
   cases q:pI l (i+1)with
   |nil=>rfl
   |cons p t=>
    obtain⟨j,f⟩:=p;rw[q]at d a;show(eY (lF ops) j i&&jQ (eY (lF ops)) ((j,f)::t))=true;rw[d,Bool.and_true];have u:=s 0 _ rfl v g rfl;have n:=a (j,f) (mem_cons_self ..);unfold sj at b;simp only[and_eq_true]at b;have m:=all_eq_true.1 b.2 j (mem_range.2 (Z6 n.1));rw[n.1]at m;simp only[Bool.not_true,Bool.false_or]at m
    grind[blt_eq,WN]
  |_=>exact d
theorem OG{ρ:Operand->Value}{o:Oper}(l:Js o.op=true){K:dS->(Nat->Value)->Prop}(a:alQ X ρ o K):∃B f,bV X.P ρ o=some (B,f)/\K B f:=by
 obtain⟨j,m,k,i,h,g⟩:=o;unfold alQ at a;split at a
 ·next e=>subst e;obtain⟨B,b,c⟩:=a;exact⟨B,_,b,c⟩
 ·next e=>subst e;obtain⟨B,b,c⟩:=a;exact⟨B,_,b,c⟩
 ·next e=>subst e;obtain⟨B,n,d,b,c⟩:=a;exact⟨B,_,b,c⟩
 grind
theorem Ar{S:Sx}{Y:Nat}{ops:Array Oper}(N:sj ops=true){base:Nat}{O:ae}{R:TH}{R':FH}(hR:∀s h,s.length=Y->R s h->R' (fr s) h):∀(l:List Oper)(j:Nat)(s:TS)(h:ae)(pd:List (Nat×dS))(q:List KS),s.length=Y->(l.all λo=>tk Y o.dst)=true->ops.toList.drop j=l->q.length=j->EU ops 0 q.reverse->yE S (eY (lF ops)) ops base O l j s h pd q R->yJ S (eY (lF ops)) ops base O l j (fr s) h pd q R'
 |[],j,s,h,pd,q,T,_,_,_,hr,n=>by
  have X:=r6 (show zP S (eY (lF ops)) O (pI q.reverse 0) q.reverse 0 (R s (cj h base pd))from n);refine⟨?_,hR _ _ T X.2⟩
  grind[tW,xh]
 | o::l,j,s,h,pd,q,T,Q,V,x4,hr,n=>by
  have ho:ops[j]?=some o:=by
   have:(ops.toList.drop j)[0]?=some o:=by rw[V];rfl
   rw[getElem?_drop]at this;rw[<-getElem?_toList];simpa using this
  have L:ops.toList.drop (j+1)=l:=by rw[<-drop_drop,V];rfl
  simp only[all_cons,and_eq_true]at Q;have H:∀e,(∀v g,e=sD.BE v g->CR o.op=true)->EU ops 0 ((fr s,o,e)::q).reverse:=by
   intro e U k r G;rw[List.reverse_cons]at G;rcases lt_or_ge k q.reverse.length with W|W
   ·rw[List.getElem?_append_left W]at G;exact hr k r G
   ·rw[List.getElem?_append_right W]at G;have x2:k-q.reverse.length=0:=by
     rcases eq_zero_or_pos (k-q.reverse.length)with h4|h4
     ·exact h4
     ·rw[getElem?_eq_none (by simp only[length_cons,List.length_nil];omega)]at G;cases G
    rw[x2]at G;obtain rfl:=oI G
    grind[WN]
  simp only[yJ];refine Jm (λn=>?_) (λn=>?_) n
  ·have Z:∀v e g M,(∀v g,e=sD.BE v g->CR o.op=true)->Hx s o.dst v (λx1=>yE S (eY (lF ops)) ops base O l (j+1) x1 g M ((fr s,o,e)::q) R)->yJ S (eY (lF ops)) ops base O l (j+1) (ve (fr s) o.dst v) g M ((fr s,o,e)::q) R':=by
    intro v e g M U n;rw[BM]at n;rw[CK T Q.1];exact Ar N hR l (j+1) _ g _ _ (by grind[nq]) Q.2 L (by grind) (H e U) n
   have D:(nF o.op||LR o.op||Js o.op||CR o.op)=true:=by
    have hc:=N;unfold sj at hc;simp only[and_eq_true]at hc;exact all_eq_true.1 hc.1.2 o (List.mem_of_mem_drop (i:=j) (by grind))
   obtain⟨y,u,z,w,m,d⟩:=o;unfold ZC at n
   cases A:nF u with
   |true=>
    rw[show nF (Oper.mk y u z w m d).op=true from A]at n;have n:=uB (E:=fr s) (by rw[Fu];exact NU n)
    grind[eE,uT]
   |false=>
   rw[show nF (Oper.mk y u z w m d).op=false from A]at n;dsimp only at n
   cases I:LR u with
   | true=>
    rw[show LR (Oper.mk y u z w m d).op=true from I]at n;have n:=uB (E:=fr s) (by rw[Fu];exact NU n);have J:dr S.P (fv S.gl (fr s)) ⟨y,u,z,w,m,d⟩=none/\bN ⟨y,u,z,w,m,d⟩=false/\bV S.P (fv S.gl (fr s)) ⟨y,u,z,w,m,d⟩=none/\gp S.P ji (fv S.gl (fr s)) ⟨y,u,z,w,m,d⟩ h=none:=by
     clear n H Z D A ho;revert I
     cases u with
     |load=>intro _;exact⟨rfl,rfl,rfl,rfl⟩
     |slice=>intro _;exact⟨rfl,rfl,rfl,rfl⟩
     |call c=>
      obtain⟨F,x0,x3⟩:=c
      cases F with
      |builtin b=>cases b<;>intro A<;>first|exact⟨rfl,rfl,rfl,rfl⟩|cases A
      |_=>intro A;cases A
     |_=>intro A;cases A
    grind[qO,uT]
   |false=>
   rw[show LR (Oper.mk y u z w m d).op=false from I]at n;dsimp only at n
   cases C:Js u with
   | true=>
    rw[show Js (Oper.mk y u z w m d).op=true from C]at n;rw[<-Fu]at n;obtain⟨B,f,X,U⟩:=OG C n;have J:dr S.P (fv S.gl (fr s)) ⟨y,u,z,w,m,d⟩=none/\cW S.P (fv S.gl (fr s)) ⟨y,u,z,w,m,d⟩ h=none:=by
     clear n H Z D A ho X U I;revert C
     cases u<;>intro C<;>first|exact⟨rfl,rfl⟩|cases C
    grind
   |false=>
   rw[show Js (Oper.mk y u z w m d).op=false from C]at n;dsimp only at n;have P:CR u=true:=by
    have G:(nF u||LR u||Js u||CR u)=true:=D;rw[A,I,C]at G;exact G
   have n:=uB (E:=fr s) (by rw[Fu];exact NU n);generalize cj h base (pd.filter λp=>eY (lF ops) j p.1)=hs at n⊢;have J:(∀h,dr S.P (fv S.gl (fr s)) ⟨y,u,z,w,m,d⟩=none/\cW S.P (fv S.gl (fr s)) ⟨y,u,z,w,m,d⟩ h=none/\bV S.P (fv S.gl (fr s)) ⟨y,u,z,w,m,d⟩=none)/\
     ∀K:VH,wpOp S (fr s) ⟨y,u,z,w,m,d⟩ hs K->D1 S (fr s) ⟨y,u,z,w,m,d⟩ hs K:=by
    clear n H Z D A ho I C;revert P
    cases u with
    |store t a x=>intro _;exact⟨λ_=>⟨rfl,rfl,rfl⟩,λK n=>by rw[D3 _ _ _ _ _ rfl rfl rfl rfl]at n;exact n⟩
    |call c=>
     obtain⟨F,x0,x3⟩:=c
     cases F with
     |value f=>intro _;exact⟨λ_=>⟨rfl,rfl,rfl⟩,λK n=>n⟩
     |builtin b=>cases b<;>intro P<;>first|exact⟨λ_=>⟨rfl,rfl,rfl⟩,λK n=>by rw[D3 _ _ _ _ _ rfl rfl rfl rfl]at n;exact n⟩|cases P
     |_=>intro A;cases A
    |_=>intro A;cases A
   rw[(J.1 h).1];dsimp only;rw[(J.1 h).2.1];dsimp only;rw[(J.1 h).2.2]
   grind[D2]
  ·rw[BM]at n;rw[CK T Q.1];exact Ar N hR l (j+1) _ h _ _ (by grind[nq]) Q.2 L (by grind) (H .skip (by simp)) n
theorem gY{S:Sx}{l:Nat}{M:List (List Nat×List Nat)}:∀(c:Code){p:List Nat}{e:TS}{h:ae}{Q:eQ}{Q':Ej},e.length=l->fX l c=true->(∀x e h,e.length=l->Q x e h->Q' x (fr e) h)->wpS S l M p c e h Q->V9 S l c (fr e) h Q'
 |.skip,_,_,_,_,_,g,_,i,d=>i _ _ _ g d
 |.exit _,_,_,_,_,_,g,_,i,d=>i _ _ _ g d
 |.ret,_,_,_,_,_,g,_,i,d=>i _ _ _ g d
 |.label _,_,_,_,_,_,g,_,i,d=>i _ _ _ g d
 | .region _ ops v,p,e,h,Q,Q',g,j,i,d=>by
  cases v with
  |false=>exact wv (λe h g d=>i _ _ _ g d) ops.toList g j d
  | true=>
   cases n:sj ops with
   |true=>
    have d:(match sj ops with|true=>yE S (eY (lF ops)) ops h.next (room h ops.size) ops.toList 0 e (room h ops.size) [] [] λe h=>Q .normal e h|false=>_):=d;rw[n]at d;refine⟨?_,Ar n (λe h g d=>i _ _ _ g d) ops.toList 0 e _ [] [] g j rfl rfl (λk r h=>by simp at h) d⟩
    simp_all[sj]
   |false=>
   have d:(match sj ops with|true=>_|false=>wpD S ops (fr e) h (lift l λe h=>Q .normal e h)):=d;rw[n]at d;refine Wb (λE h d=>?_) (show wpD S ops (fr e) h (lift l λe h=>Q .normal e h)from d);obtain⟨s,m,rfl,q⟩:=d
   grind
 |.seq a b,p,e,h,Q,Q',g,j,i,d=>by
  simp only[fX,and_eq_true]at j;refine gY a g j.1 (λx e h g d=>?_) d
  cases x with
  |normal=>exact gY b g j.2 i d
  |_=>exact i _ _ _ g d
 | .cond c a b,p,e,h,Q,Q',g,j,i,d=>by
  simp only[fX,and_eq_true]at j;rw[Wa,Fu];simp only[wpS]at d;unfold Zu at d;split at d
  ·next t B=>
   rw[B];rcases yu d with⟨rfl,m⟩|⟨rfl,m⟩
   ·exact gY a g j.1 i m
   ·exact gY b g j.2 i m
  grind
 | .block z c,p,e,h,Q,Q',g,j,i,d=>by
  refine gY c g j (λx e h g d=>?_) d
  cases x with
  | exit o=>
   show if o=z then Q' .normal (fr e) h else Q' (.exit o) (fr e) h;simp only[Lv]at d
   cases y:Nat.beq o z with
   |true=>simp_all
   |false=>
    rw[y]at d;rw[if_neg (Nat.ne_of_beq_eq_false y)];grind
  |_=>exact i _ _ _ g d
 |.loop c,p,e,h,Q,Q',g,j,i,d=>by
  obtain⟨x,u,w,m,q⟩:=(show EW S l c (fr e) h (AM l Q)from LW g d)
  refine⟨x,u,w,m,?_⟩;obtain⟨s,A,rfl,C⟩:=q
  grind
 |.rangeFunc f D a b,p,e,h,Q,Q',g,j,i,d=>by
  obtain⟨x,u,w,m,q⟩:=(show Lh S l (.rangeFunc f D a b) (fr e) h (AM l Q)from d)
  refine⟨x,u,w,m,?_⟩;obtain⟨s,A,rfl,C⟩:=q
  grind
 |.scope _,_,_,_,_,_,_,_,_,d=>d.elim
 |.goto _,_,_,_,_,_,_,_,_,d=>d.elim
 |.refuse _,_,_,_,_,_,_,_,_,d=>d.elim
def adx(I:Nat->TH)(n:Nat)(a:TS)(h:ae):Prop:=∃m,m<n/\I m a h
def aa0(I:Nat->TH)(n:Nat)(Q:eQ)(x:Exit)(a:TS)(h:ae):Prop:=match x with
 |.normal=>adx I n a h
 |x=>Q x a h
def J6:Code->Nat->Oper
 |.region _ ops _,i=>ops.toList.getD i ⟨none,.nilCheck (.tmp 0),0,"",#[],none⟩
 |_,_=>⟨none,.nilCheck (.tmp 0),0,"",#[],none⟩
def fI:List Nat->Code->Code
 |[],c=>c
 |0::p,.seq a _=>fI p a
 |_::p,.seq _ b=>fI p b
 |0::p,.cond _ a _=>fI p a
 |_::p,.cond _ _ b=>fI p b
 |_::p,.block _ a=>fI p a
 |_::p,.loop a=>fI p a
 |0::p,.rangeFunc _ _ a _=>fI p a
 |_::p,.rangeFunc _ _ _ b=>fI p b
 |_,_=> .skip
theorem LU{M:List (List Nat×List Nat)}{p:List Nat}{c:Code}{Q:eQ}(g:fX n c=true)(I:Nat->TH)(j:∀d a h,a.length=n->I d a h->wpS X n M p c a h (aa0 I d Q)):∀d a h,a.length=n->I d a h->Nk X n c a h Q:=by
 intro d
 induction d using Nat.strongRecOn with
 | _ d k=>
  intro a h b l;refine TI g (gY c b g (λx a h b f=>?_) (j d a h b l))
  cases x with
  |normal=>
   obtain⟨m,i,e⟩:=f;exact k m i a h b e
  |_=>exact⟨a,b,rfl,f⟩
def aI(A:Nat->List Value->ae->Prop)(n:Nat)(w:List Value)(h:ae):Prop:=∃m,m<n/\A m w h
def aaZ(M:List Nat)(A:Nat->List Value->ae->Prop)(n:Nat)(Q:eQ)(x:Exit)(a:TS)(h:ae):Prop:=match x with
 |.normal=>aI A n (M.map (vj a)) h
 |x=>Q x a h
theorem ai{A B:Prop}(h:A)(e:A=B:=by kernel_rfl):B:=cast e h
def kAt(S:Sx)(c:Nat)(M:List (List Nat×List Nat)):List Nat->List Nat->Code->eQ->eQ
 |_,[],_,K=>K
 |p,0::q,.seq a b,K=>kAt S c M (0::p) q a (acX (λe h=>wpS S c M (1::p) b e h K) K)
 |p,_::q,.seq _ b,K=>kAt S c M (1::p) q b K
 |p,0::q,.cond _ a _,K=>kAt S c M (0::p) q a K
 |p,_::q,.cond _ _ b,K=>kAt S c M (1::p) q b K
 |p,_::q,.block d a,K=>kAt S c M (0::p) q a (Lv d K)
 |_,_,_,K=>K
def LL(S:Sx)(X:FD)(p:List Nat)(w:List Value)(h:ae)(Q:eQ):Prop:=Zh S X.nm (zK X.ms p) (fI p X.body) w h Q
def TT(S:Sx)(X:FD)(p:List Nat)(a:TS)(h:ae)(Q:eQ):Prop:=wpS S X.nm X.ms p.reverse (fI p X.body) a h Q
def KK(S:Sx)(X:FD)(q p:List Nat)(K:eQ):eQ:=kAt S X.nm X.ms p.reverse q (fI p X.body) K
def RR(X:FD)(p:List Nat)(A:Nat->List Value->ae->Prop)(n:Nat)(Q:eQ):eQ:=aaZ (zK X.ms p) A n Q
theorem F1{a:FD}{p:List Nat}{K:eQ}(A:Nat->List Value->ae->Prop)(e:fX a.nm (fI p a.body)=true)
  (step:∀n w (x:Nat->Value) h,A n w h->TT X a p (Bg a.nm 0 ((zK a.ms p).zip w) x) h (RR a p A n K)) (n:Nat) {w:List Value} {h:ae} (g:A n w h) (f:∀x:Nat->Value,(zK a.ms p).map (vj (Bg a.nm 0 ((zK a.ms p).zip w) x))=w):LL X a p w h K:=λx=>
 LU (M:=a.ms) (p:=p.reverse) e (λm b h=>A m ((zK a.ms p).map (vj b)) h) (λm b h c d=>by
  have:=step m ((zK a.ms p).map (vj b)) (vj b) h d;rw[JA c]at this;exact this) n _ h (BJ ..) (by grind)
def fj{b:Type}(W:b->LV)(I:Nat->b->ae->Prop)(n:Nat)(w:LV)(h:ae):Prop:=∃a,w=W a/\I n a h
theorem bZ{W:A->LV}{I:Nat->A->ae->Prop}(m:Nat){a:A}{h:ae}(b:m<n)(c:I m a h):aI (fj W I) n (W a) h:=⟨m,b,a,rfl,c⟩
theorem dg{b:FD}{p:List Nat}{K:eQ}(W:A->LV)(I:Nat->A->ae->Prop)
  (step:∀n (a:A) (x:Nat->Value) h,I n a h->TT X b p (Bg b.nm 0 ((zK b.ms p).zip (W a)) x) h (RR b p (fj W I) n K)) (n:Nat) {a:A} {h:ae} (c:I n a h) (e:fX b.nm (fI p b.body)=true:=by kernel_rfl) (d:∀x:Nat->Value,(zK b.ms p).map (vj (Bg b.nm 0 ((zK b.ms p).zip (W a)) x))=W a:=by intro;kernel_rfl):LL X b p (W a) h K:=
 F1 (fj W I) e (λn w x h ⟨a,f,c⟩=>by grind) n ⟨a,rfl,c⟩ d
def qP{c d:Type}(W:c->d->LV)(I:Nat->c->d->ae->Prop)(n:Nat)(w:LV)(h:ae):Prop:=∃a b,w=W a b/\I n a b h
theorem iI{W:A->B->LV}{I:Nat->A->B->ae->Prop}(m:Nat){a:A}{b:B}{h:ae}(c:m<n)(d:I m a b h):aI (qP W I) n (W a b) h:=⟨m,c,a,b,rfl,d⟩
theorem nu{c:FD}{p:List Nat}{K:eQ}(W:A->B->LV)(I:Nat->A->B->ae->Prop)
  (step:∀n (a:A) (b:B) (x:Nat->Value) h,I n a b h->TT X c p (Bg c.nm 0 ((zK c.ms p).zip (W a b)) x) h (RR c p (qP W I) n K)) (n:Nat) {a:A} {b:B} {h:ae} (d:I n a b h) (f:fX c.nm (fI p c.body)=true:=by kernel_rfl) (e:∀x:Nat->Value,(zK c.ms p).map (vj (Bg c.nm 0 ((zK c.ms p).zip (W a b)) x))=W a b:=by intro;kernel_rfl):LL X c p (W a b) h K:=
 F1 (qP W I) f (λn w x h ⟨a,b,g,d⟩=>by grind) n ⟨a,b,rfl,d⟩ e
def ZS{d f e:Type}(W:d->f->e->LV)(I:Nat->d->f->e->ae->Prop)(n:Nat)(w:LV)(h:ae):Prop:=∃a b c,w=W a b c/\I n a b c h
theorem Jo{d:Type}{W:A->B->d->LV}{I:Nat->A->B->d->ae->Prop}(m:Nat){a:A}{b:B}{c:d}{h:ae}(e:m<n)(f:I m a b c h):aI (ZS W I) n (W a b c) h:=⟨m,e,a,b,c,rfl,f⟩
theorem UX{d:FD}{p:List Nat}{K:eQ}{e:Type}(W:A->B->e->LV)(I:Nat->A->B->e->ae->Prop)
  (step:∀n (a:A) (b:B) (c:e) (x:Nat->Value) h,I n a b c h->TT X d p (Bg d.nm 0 ((zK d.ms p).zip (W a b c)) x) h (RR d p (ZS W I) n K)) (n:Nat) {a:A} {b:B} {c:e} {h:ae} (f:I n a b c h) (i:fX d.nm (fI p d.body)=true:=by kernel_rfl) (g:∀x:Nat->Value,(zK d.ms p).map (vj (Bg d.nm 0 ((zK d.ms p).zip (W a b c)) x))=W a b c:=by intro;kernel_rfl):LL X d p (W a b c) h K:=
 F1 (ZS W I) i (λn w x h ⟨a,b,c,j,f⟩=>by grind) n ⟨a,b,c,rfl,f⟩ g
def Zg{f i g e:Type}(W:f->i->g->e->LV)(I:Nat->f->i->g->e->ae->Prop)(n:Nat)(w:LV)(h:ae):Prop:=∃a b c d,w=W a b c d/\I n a b c d h
theorem Td{f e:Type}{W:A->B->f->e->LV}{I:Nat->A->B->f->e->ae->Prop}(m:Nat){a:A}{b:B}{c:f}{d:e}{h:ae}(g:m<n)(i:I m a b c d h):aI (Zg W I) n (W a b c d) h:=⟨m,g,a,b,c,d,rfl,i⟩
theorem UY{e:FD}{p:List Nat}{K:eQ}{g f:Type}(W:A->B->g->f->LV)(I:Nat->A->B->g->f->ae->Prop)
  (step:∀n (a:A) (b:B) (c:g) (d:f) (x:Nat->Value) h,I n a b c d h->TT X e p (Bg e.nm 0 ((zK e.ms p).zip (W a b c d)) x) h (RR e p (Zg W I) n K)) (n:Nat) {a:A} {b:B} {c:g} {d:f} {h:ae} (i:I n a b c d h) (k:fX e.nm (fI p e.body)=true:=by kernel_rfl) (j:∀x:Nat->Value,(zK e.ms p).map (vj (Bg e.nm 0 ((zK e.ms p).zip (W a b c d)) x))=W a b c d:=by intro;kernel_rfl):LL X e p (W a b c d) h K:=
 F1 (Zg W I) k (λn w x h ⟨a,b,c,d,l,i⟩=>by grind) n ⟨a,b,c,d,rfl,i⟩ j
def BW{g k j f i:Type}(W:g->k->j->f->i->LV)(I:Nat->g->k->j->f->i->ae->Prop)(n:Nat)(w:LV)(h:ae):Prop:=∃a b c d e,w=W a b c d e/\I n a b c d e h
theorem oW{i f g:Type}{W:A->B->i->f->g->LV}{I:Nat->A->B->i->f->g->ae->Prop}(m:Nat){a:A}{b:B}{c:i}{d:f}{e:g}{h:ae}(j:m<n)(k:I m a b c d e h):aI (BW W I) n (W a b c d e) h:=⟨m,j,a,b,c,d,e,rfl,k⟩
theorem F0{f:FD}{p:List Nat}{K:eQ}{j g i:Type}(W:A->B->j->g->i->LV)(I:Nat->A->B->j->g->i->ae->Prop)
  (step:∀n (a:A) (b:B) (c:j) (d:g) (e:i) (x:Nat->Value) h,I n a b c d e h->TT X f p (Bg f.nm 0 ((zK f.ms p).zip (W a b c d e)) x) h (RR f p (BW W I) n K)) (n:Nat) {a:A} {b:B} {c:j} {d:g} {e:i} {h:ae} (k:I n a b c d e h) (m:fX f.nm (fI p f.body)=true:=by kernel_rfl) (l:∀x:Nat->Value,(zK f.ms p).map (vj (Bg f.nm 0 ((zK f.ms p).zip (W a b c d e)) x))=W a b c d e:=by intro;kernel_rfl):LL X f p (W a b c d e) h K:=
 F1 (BW W I) m (λn w x h ⟨a,b,c,d,e,o,k⟩=>by grind) n ⟨a,b,c,d,e,rfl,k⟩ l
def LA6{i l k g j m:Type}(W:i->l->k->g->j->m->LV)(I:Nat->i->l->k->g->j->m->ae->Prop)(n:Nat)(w:LV)(h:ae):Prop:=∃a b c d e f,w=W a b c d e f/\I n a b c d e f h
theorem acz{j g i k:Type}{W:A->B->j->g->i->k->LV}{I:Nat->A->B->j->g->i->k->ae->Prop}(m:Nat){a:A}{b:B}{c:j}{d:g}{e:i}{f:k}{h:ae}(l:m<n)(o:I m a b c d e f h):aI (LA6 W I) n (W a b c d e f) h:=⟨m,l,a,b,c,d,e,f,rfl,o⟩
theorem acV{g:FD}{p:List Nat}{K:eQ}{k i j l:Type}(W:A->B->k->i->j->l->LV)(I:Nat->A->B->k->i->j->l->ae->Prop)
  (step:∀n (a:A) (b:B) (c:k) (d:i) (e:j) (f:l) (x:Nat->Value) h,I n a b c d e f h->TT X g p (Bg g.nm 0 ((zK g.ms p).zip (W a b c d e f)) x) h (RR g p (LA6 W I) n K)) (n:Nat) {a:A} {b:B} {c:k} {d:i} {e:j} {f:l} {h:ae} (m:I n a b c d e f h) (q:fX g.nm (fI p g.body)=true:=by kernel_rfl) (o:∀x:Nat->Value,(zK g.ms p).map (vj (Bg g.nm 0 ((zK g.ms p).zip (W a b c d e f)) x))=W a b c d e f:=by intro;kernel_rfl):LL X g p (W a b c d e f) h K:=
 F1 (LA6 W I) q (λn w x h ⟨a,b,c,d,e,f,r,m⟩=>by grind) n ⟨a,b,c,d,e,f,rfl,m⟩ o
def RG(S:Sx)(X:FD)(p:List Nat)(a:TS)(h:ae)(Q:eQ):Prop:=Lg S X.nm (fI p X.body) a h Q
theorem Ml{f:Operand}{k:Array Tmp}{b:Code}{a:TS}{Q:eQ}{first:Array Value}(o:a.length=n)(y:ev X.gl a f = .func (.func m) first V)(u:rP H b=true)(B:m<YB/\Cq X.P m=true)
  (p:FW X m (first.toList++[.func (.yield h.next) #[] #[]]++V.toList) (h.push (.loop .ready a k.toList H b u)) λ_ d=>∃e,Hb (d.get h.next)=some e/\Q e a (d.del h.next)):Lg X n (.rangeFunc f k H b) a h Q:=by
 obtain⟨v,d,⟨t,A⟩,e,z,q⟩:=p;refine⟨e,fr a,d.del h.next,⟨t,λC N x _ c g=>⟨c,g,?_⟩⟩,a,o,rfl,q⟩;have w:c=a:=by
  refine List.ext_getElem? λi=>?_;have j:=g.2 i;unfold fr at j;by_cases r:i<n
  ·have l:c[i]?=some (c.getD i undef):=by rw[gD,gE (by rw[g.1];exact r)];rfl
   have s:a[i]?=some (a.getD i undef):=by rw[gD,gE (by omega)];rfl
   rw[l,s,j]
  ·rw[getElem?_eq_none (by rw[g.1];omega),getElem?_eq_none (by omega)]
 simp_all[bJ]
theorem MF{M:List (List Nat×List Nat)}{B:List Nat}{d:TS}{f:List Tmp}{a:Code}{i:rP H a=true}{K:VH}(J:h.get k=some (.loop .ready d f H a i))(r:c.length=f.length)(o:(pX d (f.zip c)).length=n)(D:fX n H=true)(A:fX n a=true)
  (q:wpS X n M y H (pX d (f.zip c)) h λe m l=>e = .normal/\l.get k=some (.loop .ready d f H a i)/\wpS X n M B a m (l.set k (.loop .busy d f H a i)) λe _ g=>g.get k=some (.loop .busy d f H a i)/\∃b j,AN e=some (b,j)/\K (.bool b) (g.set k (.loop j d f H a i))):FW X (YB+k) c h K:=by
 have l:=gY (Q':=AM n λe m l=>e = .normal/\l.get k=some (.loop .ready d f H a i)/\wpS X n M B a m (l.set k (.loop .busy d f H a i)) λe _ g=>g.get k=some (.loop .busy d f H a i)/\∃b j,AN e=some (b,j)/\K (.bool b) (g.set k (.loop j d f H a i))) H o D (λx d h o q=>⟨d,o,rfl,q⟩) q;obtain⟨x,V,l,⟨E,u⟩,m,t,rfl,rfl,v,g⟩:=gX H D l;have g:=gY (Q':=AM n λe _ g=>g.get k=some (.loop .busy d f H a i)/\∃b j,AN e=some (b,j)/\K (.bool b) (g.set k (.loop j d f H a i))) a t A (λx d h o q=>⟨d,o,rfl,q⟩) g;obtain⟨x,T,g,⟨G,C⟩,N,Q,rfl,s,b,j,z,I⟩:=gX a A g;refine⟨_,_,⟨max E G+1,λP R=>?_⟩,I⟩;obtain⟨p,rfl⟩:∃p,P=p+1:=⟨P-1,by omega⟩
 obtain⟨U,w,F⟩:=u p p (by omega) (by omega) _ (S6 o);obtain⟨S,O,L⟩:=C p p (by omega) (by omega) _ w;simp only[bY];rw[if_pos (by omega),Nat.add_sub_cancel_left];unfold yM;rw[J];dsimp only;rw[if_pos r,F];dsimp only;rw[v];dsimp only;rw[L];dsimp only;rw[s,z]
theorem F5:∀(l:List (Tmp×Value))(a:TS),(pX a l).length=a.length
 |[],_=>rfl
 |p::l,a=>by
  show(pX (a.set p.1 p.2) l).length=_;rw[F5 l,length_set]
theorem acU{b:FD}{p:List Nat}{f:Operand}{ps:Array Tmp}{a:TS}{Q:eQ}{g:Nat}{first cap:List Value}(k:fI p b.body = .rangeFunc f ps (fI (p++[0]) b.body) (fI (p++[1]) b.body))(i:a.length=b.nm)(d:ev X.gl a f = .func (.func g) ⟨first⟩ ⟨cap⟩)(hc:rP (fI (p++[0]) b.body) (fI (p++[1]) b.body)=true)(l:g<YB/\Cq X.P g=true)
  (j:FW X g (first++[.func (.yield h.next) ⟨[]⟩ ⟨[]⟩]++cap) (h.push (.loop .ready a ps.toList (fI (p++[0]) b.body) (fI (p++[1]) b.body) hc)) λ_ c=>∃e,Hb (c.get h.next)=some e/\Q e a (c.del h.next)):RG X b p a h Q:=by grind[Ml,RG]
theorem Wn{S:Sx}{X:FD}{p:List Nat}{a:TS}{d:List Tmp}{hc:rP (fI (p++[0]) X.body) (fI (p++[1]) X.body)=true}{K:VH}(n:h.get k=some (.loop .ready a d (fI (p++[0]) X.body) (fI (p++[1]) X.body) hc))(f:c.length=d.length)(r:a.length=X.nm)(q:fX X.nm (fI (p++[0]) X.body)=true)(o:fX X.nm (fI (p++[1]) X.body)=true)
  (m:TT S X (p++[0]) (pX a (d.zip c)) h λe j g=>e = .normal/\g.get k=some (.loop .ready a d (fI (p++[0]) X.body) (fI (p++[1]) X.body) hc)/\TT S X (p++[1]) j (g.set k (.loop .busy a d (fI (p++[0]) X.body) (fI (p++[1]) X.body) hc)) λe _ i=>i.get k=some (.loop .busy a d (fI (p++[0]) X.body) (fI (p++[1]) X.body) hc)/\∃b l,AN e=some (b,l)/\K (.bool b) (i.set k (.loop l a d (fI (p++[0]) X.body) (fI (p++[1]) X.body) hc))):FW S (YB+k) c h K:=
 MF n f (by grind[F5]) q o m
noncomputable def EM(S:Sx)(b:TS)(h:ae):List ResultVar->Option (List Value)
 |[]=>some []
 |.tmp t::r=>(EM S b h r).map (b.getD t undef::·)
 |.cell a t::r=>match aj S.P t h (b.getD a undef)with
  |some v=>(EM S b h r).map (v::·)
  |none=>none
theorem yj(S:Sx)(b:TS)(h:ae):∀l,vh S (fr b) h l=EM S b h l
 |[]=>rfl
 |.tmp t::r=>by simp only[vh,EM,yj S b h r,fr]
 |.cell a t::r=>by simp only[vh,EM,yj S b h r,fr];try (cases aj S.P t h (b.getD a undef)<;>rfl)
noncomputable def acv(S:Sx)(b:List ResultVar)(Q:VH)(x:Exit)(a:TS)(h:ae):Prop:=match x with
 |.normal=>yK (EM S a h b) h Q
 |.ret=>yK (EM S a h b) h Q
 |_=>False
noncomputable def QT(S:Sx)(h:ae):List (Value×Option TypeId)->Option (List Value)
 |[]=>some []
 |(v,none)::r=>(QT S h r).map (v::·)
 |(a,some t)::r=>match aj S.P t h a with
  |some v=>(QT S h r).map (v::·)
  |none=>none
noncomputable def dY(S:Sx)(l:List (Value×Option TypeId))(h:ae)(Q:VH):Prop:=yK (QT S h l) h Q
theorem I9{a:Value}{t:TypeId}(b:aj X.P t h a=some v)(c:Q v h):dY X [(a,some t)] h Q:=by
 unfold dY;simp only[QT,b];exact c
theorem xj{a:Value}{t:TypeId}(b:aj X.P t h a=some v)(c:Q (.tuple ⟨[v,w]⟩) h):dY X [(a,some t),(w,none)] h Q:=by
 unfold dY;simp only[QT,b];exact c
noncomputable def EE(S:Sx)(X:FD)(Q:VH):eQ:=acv S X.rs Q
theorem cQ(d:FD){f:FuncId}{b:Func}{a:List Value}{h:ae}{Q:VH}(q:X.P.funcs[f]?=some b)
  (e:wpS X d.nm d.ms [] d.body (a++List.replicate (d.nm-a.length) undef) h (EE X d Q)) (j:d=cG b d.ms:=by kernel_rfl) (k:(Nat.blt f YB&&(X.pr f).isNone&&Nat.ble a.length d.nm&&fX d.nm d.body&&b.body.isSome)=true:=by kernel_rfl):FW X f a h Q:=by
 have m:d.nm=b.ntmps:=by rw[j];rfl
 have o:d.body=b.body.getD .skip:=by rw[j];rfl
 have v:d.rs=b.results.toList:=by rw[j];rfl
 unfold EE at e;rw[m,o,v]at e;rw[m,o]at k;simp only[and_eq_true,blt_eq,ble_eq,Option.isNone_iff_eq_none]at k;obtain⟨⟨⟨⟨u,w⟩,r⟩,g⟩,p⟩:=k;obtain⟨c,l⟩:=Option.isSome_iff_exists.1 p;rw[l]at e g;have e:wpS X b.ntmps d.ms [] c (a++List.replicate (b.ntmps-a.length) undef) h (acv X b.results.toList Q):=e;have g:fX b.ntmps c=true:=g;have s:(a++List.replicate (b.ntmps-a.length) undef).length=b.ntmps:=by simp;omega
 have y:fr (a++List.replicate (b.ntmps-a.length) undef)=Z5 a:=by
  funext t;show(a++List.replicate (b.ntmps-a.length) undef).getD t undef=a.getD t undef;simp only[gD];by_cases p:t<a.length
  ·grind
  ·grind
 refine acy q l u w r g ?_;rw[<-y];refine gY c s g (λx n h _ i=>?_) e
 cases x with
 |normal=>show yK (vh X (fr n) h _) h Q;rw[yj];exact i
 |ret=>show yK (vh X (fr n) h _) h Q;rw[yj];exact i
 |_=>exact i.elim
structure gZ where
 i:Int
 o:Int
 w:List UInt8
 t:Int
structure dP where
 f:List UInt8
 arcs:List gZ
structure bw where
 kind:Int
 start:Int
 lead:List UInt8
 af:List dP
def fE(a:gZ):List Value:=[.int .i64 a.i,.int .i64 a.o,strOf a.w,.int .i64 a.t]
def zV(z:Int):Value:= .int .i64 z
def Ly:List Value->Option (List Int)
 |[]=>some []
 |.int .i64 z::r=>(Ly r).map (z::·)
 |_::_=>none
def mg(l:List Int):List Int:=l.mergeSort λx y=>decide (x<=y)
noncomputable def Dt:uV:=λ_ e h=>match e with
 | [.slice a n c]=>if n=0 then some (.tuple ⟨[]⟩,h)else match a with
   |some ⟨b,d,none⟩=>(match h.get b with
    |some (.cells cs t f true)=>if n<4611686018427387904/\d+n<=cs.length then(Ly ((cs.drop d).take n)).map λl=>(.tuple ⟨[]⟩,h.set b (.cells (cs.take d++(mg l).map zV++cs.drop (d+n)) t f true))else none
    |_=>none)
   |_=>none
 |_=>none
end Go.Ab
end
section
namespace Go.Ab
open Go Go.RowKit
variable{c:List Value}{h:ae}{W:World}{v:Value}{f:FuncId}{F:Func}{m:Nat}{j:Nat}{n:Nat}{q:Oper}{U:Array Oper}{H:Code}
section
variable {β:dH} {P:Program} {gl:Nat->Bool}
theorem T8{r:dZ}{a:Act}{o:Oper}{u:dM}(l:ko β h W)(t:Gl gl β)(s:bp β c a.tmps.toList)(w:bN o=false)(b:dV P r (ev gl c) o h=some (v,u)):
  ∃d j g,Step β h W g (u.app h) j/\aD g v d/\((execOp a.eval o).run P W = .ok (.value d) j\/((execOp a.eval o).run P W = .ok .skip j/\d=undef)):=by
 have i:=zx (β:=β) t s;unfold dV at b;split at b
 ·next p m=>
  simp only[Option.some.injEq,Prod.mk.injEq]at b;obtain⟨rfl,rfl⟩:=b;obtain⟨d,e,k⟩:=rV i m W;exact⟨d,W,β,Step.refl l,k,.inl e⟩
 ·split at b
  ·next p m=>
   simp only[Option.some.injEq,Prod.mk.injEq]at b;obtain⟨rfl,rfl⟩:=b;obtain⟨d,e,k⟩:=rW i l m;exact⟨d,W,β,Step.refl l,k,.inl e⟩
  ·split at b
   ·next B f m=>
    simp only[Option.some.injEq,Prod.mk.injEq]at b;obtain⟨rfl,rfl⟩:=b;obtain⟨d,j,e,k⟩:=pR i (w:=W) m;obtain⟨g,n,q⟩:=k.step l;exact⟨d,j,g,n,q,.inl e⟩
   ·obtain⟨d,j,g,e,k,n⟩:=zL i w l b;rcases e with e|⟨e,rfl⟩
    all_goals grind
theorem Yc{cf:dZ}{ops:Array Oper}{cs:List Frame}(Q:Exit->Act->List Frame->World->Prop):∀(b:List Oper)(i:Nat){β:dH}{p j:List Value}{a:Act}{h q:ae}{w:World},
  ops.toList.drop i=b->(b.all λo=> !bN o)=true->k4 P gl cf ops b p h=some (j,q)->ko β h w->Gl gl β->bp β p a.tmps.toList->
  (∀f y l,Step β h w l q y->bp l j f.tmps.toList->f.defers=a.defers->Q .normal f cs y)->wpOpsS P ops Q (List.range' i b.length) a cs w
 |[],i,β,p,j,a,h,q,w,E,_,e,n,s,g,r=>by
  simp only[k4,Option.some.injEq,Prod.mk.injEq]at e;obtain⟨rfl,rfl⟩:=e;exact r a w β (Step.refl n) g rfl
 | o::b,i,β,p,j,a,h,q,w,E,d,e,n,s,g,r=>by
  have H:ops[i]?=some o:=by
   have:(ops.toList.drop i)[0]?=some o:=by rw[E];rfl
   rw[getElem?_drop]at this;rw[<-getElem?_toList];simpa using this
  have t:ops.toList.drop (i+1)=b:=by rw[<-drop_drop,E];rfl
  simp only[all_cons,and_eq_true,Bool.not_eq_true']at d;simp only[length_cons,range'_succ,wpOpsS,H];simp only[k4]at e;split at e
  ·next C=>
   rw[mP g C];simp only[if_true];split at e
   ·next v u F=>
    obtain⟨I,y,l,k,G,c⟩:=T8 n s g d.1 F;have x:=Yc (cs:=cs) Q b (i+1) t (by simpa using d.2) e k.pC (s.mono k.le) (lV (g.mono k.le) o.dst G) λf D m A B z=>r f D m (k.trans A) B (z.trans (put_defers a o.dst I));rcases c with c|⟨c,rfl⟩
    ·rw[c];exact x
    ·rw[c];exact x
   ·cases e
  ·next C=>
   rw[mP g C];simp only[false_eq_true,if_false];exact Yc (cs:=cs) Q b (i+1) t (by simpa using d.2) e n s (lV g o.dst (.undef β)) λf D m A B z=>r f D m A B (z.trans (put_defers a o.dst undef))
  grind
noncomputable def NH(P:Program)(f:Func)(e a:Array Oper)(c:Operand)(n:Nat):Bool:=
 match e.toList with
 | o::b=>match o.dst with
  | some d=>match k4 P PU ji e b ((List.replicate n hH++List.replicate (f.ntmps-n) undef).set d .nilIface) ⟨0,.nil⟩with
   | some (h,i)=>match k4 P PU ji a a.toList h i with
    |some (g,_)=>match ev PU g c with
     |.bool false=>(b.all λo=> !bN o)&&(a.toList.all λo=> !bN o)&&o.guard.isNone&&f.results.size==0
     |_=>false
    |none=>false
   |none=>false
  |none=>false
 |[]=>false
theorem XI{b:List Oper}{c:Operand}(T:P.funcs[f]?=some F)(R:F.body=some (.seq (.region m (q::b).toArray false) (.seq (.region j U false) (.cond c H .skip))))
  (Z:q.op = .call { callee:= .builtin .recover,args:= #[],argTypes:= #[] }) (a:NH P F (q::b).toArray U c n=true) (args:Array Value) (w:World) (S:args.size=n):
  CallsDIn Fence.wide 0 P f args .returning w λe X C=>(∃v,e = .returned v)/\X = .returning/\Below w.heap.size w C/\w.drawn<=C.drawn:=by
 subst S;unfold NH at a;simp only at a;split at a
 ·next d hd=>
  split at a
  ·next x3 h G=>
   split at a
   ·next x0 r N=>
    split at a
    ·next J=>
     simp only[and_eq_true,beq_iff_eq,Option.isNone_iff_eq_none]at a;obtain⟨⟨⟨y,x⟩,E⟩,B⟩:=a;refine xe T R λp cs W=>?_;refine wpS_seq (wpS_region ?_);have s:∀(l:List Value),bp β0 (List.replicate l.length hH) l:=λl=>⟨by simp,λi v Q h r=>by
      rw[getElem?_replicate]at h;split at h
      ·obtain rfl:=oI h;exact .hH Q
      ·cases h⟩
     have z:∀k,bp β0 (List.replicate k undef) (List.replicate k undef):=λk=>⟨rfl,λi v Q h r=>by
      rw[getElem?_replicate]at h r;split at h
      ·next Y=>rw[if_pos Y]at r;obtain rfl:=oI h;obtain rfl:=oI r;exact .undef _
      ·cases h⟩
     have O:bp β0 (List.replicate args.size hH++List.replicate (F.ntmps-args.size) undef) (args++Array.replicate (F.ntmps-args.size) undef).toList:=by
      simp only[Array.toList_append,Array.toList_replicate];have:=s args.toList;rw[length_toList]at this;exact this.append (z _)
     have L:∀t,Region.wanted q (yielded (q::b).toArray t)=true:=λt=>by simp[Region.wanted,E]
     have A:∀(ρ:Operand->Value),(execOp ρ q).run P w = .ok .recover w:=λρ=>by
      unfold execOp;simp only[Z,resolve,Sem.run_bind,Sem.run_pure,Result.andThen_ok,invoke];rfl
     have u:recoverD (p::cs)=none:=by simp[recoverD,W]
     show wpOpsS P (q::b).toArray _ (List.range (b.length+1)) _ _ w;rw[List.range_eq_range',range'_succ];rw[wpOpsS];simp only[List.getElem?_toArray,List.getElem?_cons_zero,L,if_true,A,u];rw[hd];refine Yc (cf:=ji) (gl:=PU) _ b 1 (by simp) y G (Ob 0 w) LO (lV O (some d) (v:= .nilIface) .nilIface) λa1 w1 x2 g M D=>?_;refine wpS_seq (wpS_region ?_);rw[<-length_toList,List.range_eq_range'];refine Yc (cf:=ji) (gl:=PU) _ U.toList 0 (by simp) x N g.pC (LO.mono g.le) M λV w2 x1 o I K=>?_;refine wpS_cond (t:=false) ?_ ?_
     ·have:=zx (LO.mono (g.trans o).le) I c;rw[J]at this;exact this.kE
     ·show Code.wpS P .skip _ V (p::cs) w2;refine wpS_of_wp (wp_skip ?_);refine⟨K.trans (D.trans (put_defers _ _ _)),.returning,by cases p;simp_all,.tuple #[],?_,⟨⟨_,rfl⟩,rfl,Es (g.trans o),(g.trans o).tape.2⟩⟩;have:F.results = #[]:=Array.eq_empty_of_size_eq_zero B;simp[results,this]
    ·cases a
   ·cases a
  ·cases a
 grind
end
end Go.Ab
end
section
namespace Go.Ab
open Go
variable{P:Program}{h:ae}{g:ae}{T:TypeId}{v:Value}{c:List Value}{d:List Value}{a:Option Addr}{n:Nat}
theorem aB{n:Int}(a: -9223372036854775808<=n)(b:n<9223372036854775808):wrap .i64 n=n:=by grind[IntKind.wrap_i64]
theorem gL{n:Int}(a:0<=n)(b:n<18446744073709551616):wrap .u64 n=n:=by grind[IntKind.wrap_u64]
theorem sy{n:Int}(a:0<=n)(b:n<256):wrap .u8 n=n:=by grind[IntKind.wrap_u8]
theorem oz{t:TypeId}(c:P.underlying t=some .string)(l:List UInt8)(k:IntKind){i:Int}(b:0<=i)(a:i<l.length):bP P t (strOf l) (.int k i)=some (.int .u8 ((l.getD i.toNat 0).toNat:Nat)):=by simp_all[bP,strOf]
theorem oA{t:TypeId}(g:P.underlying t=some .string)(l:List UInt8){h:ae}{lo hi:Option Value}{a b:Nat}(f:eP lo 0=some (a:Int))(c:eP hi l.length=some (b:Int))(d:a<=b)(e:b<=l.length):bG P t (strOf l) lo hi none h=some (strOf ((l.drop a).take (b-a))):=by simp_all[bG,strOf]
theorem rh{t:TypeId}(a b:List UInt8)(h:a.length+b.length<=4611686018427387904):ay P .add t (strOf a) (strOf b)=some (strOf (a++b)):=by
 show Ge .add a b=_
 simp_all[Ge]
structure Ok(h0 h:ae):Prop where
 wf:∀k B,h.get k=some B->k<h.next
 ext:∀k B,h0.get k=some B->h.get k=some B
 nx:h0.next<=h.next
def Wf(h:ae):Prop:=∀k B,h.get k=some B->k<h.next
theorem Ok.refl(w:Wf h):Ok h h:=⟨w,λ_ _ h=>h,Nat.le_refl _⟩
theorem Ok.trans{c d:ae}(a:Ok g c)(b:Ok c d):Ok g d:=⟨b.wf,λk B h=>b.ext k B (a.ext k B h),Nat.le_trans a.nx b.nx⟩
theorem Ok.push(a:Ok g h)(B:dS):Ok g (h.push B):=by
 refine⟨ae.ow a.wf B,λk C c=>?_,Nat.le_trans a.nx (le_succ _)⟩;have b:=a.ext k C c;rw[ae.bt,if_neg (λe=>by have:=a.wf _ _ b;omega)];omega
theorem Ok.set(a:Ok g h){k:Nat}(B:dS)(f:g.next<=k)(d:k<h.next)(c:Wf g):Ok g (h.set k B):=by
 refine⟨λj C b=>?_,λj C b=>?_,a.nx⟩
 ·rw[ae.aw]at b;split at b
  ·simp_all
  ·exact a.wf _ _ b
 ·rw[ae.aw,if_neg (λe=>by have:=c _ _ b;omega)];exact a.ext _ _ b
theorem Ok.room{b h:ae}(a:Ok b h)(n:Nat):Ok b (room h n):=⟨λk B c=>lt_of_lt_of_le (a.wf k B c) (le_add_right _ _),a.ext,Nat.le_trans a.nx (le_add_right _ _)⟩
def ej(b h:ae)(e:TypeId)(v:Value)(a:List Value):Prop:=
 (v = .slice none 0 0/\a=[])\/ ∃k cs,v = .slice (some ⟨k,0,none⟩) a.length (dn+cs.length)/\b.next<=k/\h.get k=some (.cells cs e 1 true)/\cs.take a.length=a/\a.length<=cs.length
theorem ej.push(a:Ok g h)(o:ej g h T v c)(B:dS):ej g (h.push B) T v c:=by
 rcases o with o|⟨k,cs,d,e,b,f,i⟩
 ·exact .inl o
 ·refine .inr ⟨k,cs,d,e,?_,f,i⟩;rw[ae.bt,if_neg (λT=>by have:=a.wf _ _ b;omega)];omega
theorem ej.snoc{t:TypeId}{i:TypeInfo}(D:P.underlying t=some (.slice T))(F:eS P T=some i)(r:i.size=1){m h:ae}(w:Wf m)(a:Ok m h){v:Value}{d:List Value}(o:ej m h T v d){x:Value}(M:dO x=true)(E:(d.length+1)*i.bytes<=70368744177664)(y:d.length+1<=1099511627776):
  ∃(b:Option Addr)(n c:Nat)(u:dM),bI P t t v (mL 1 1 h.next) (h.push (.cells [x] T 1 true))=some (.slice b n c,u)/\n=d.length+1/\ej m (u.app (h.push (.cells [x] T 1 true))) T (.slice b n c) (d++[x])/\Ok m (u.app (h.push (.cells [x] T 1 true))):=by
 have I:dW P t=true:=by unfold dW;rw[D]
 have p:fQ (h.push (.cells [x] T 1 true)) i.size (mL 1 1 h.next)=some ([x],1):=by
  show(match (h.push (.cells [x] T 1 true)).get h.next with|some (.cells cs ..)=>if((cs.drop 0).take (1*i.size)).length=1*i.size then some ((cs.drop 0).take (1*i.size),1)else none|_=>none)=_;rw[ae.bt,if_pos rfl,r];rfl
 have z:=ej.push a o (.cells [x] T 1 true);have e:=a.push (.cells [x] T 1 true);generalize G:h.push (.cells [x] T 1 true)=g at*;have K:h.next<g.next:=by rw[<-G];exact Nat.lt_succ_self _
 unfold bI;rw[D];dsimp only;rw[F];dsimp only;rw[if_pos I,p];dsimp only;rw[if_pos (by grind)];rcases z with⟨rfl,rfl⟩|⟨k,cs,rfl,A,q,N,O⟩
 ·show ∃b n c u,(if 1=0 then some (Value.slice none 0 0,dM.no)else if 1*i.bytes<=70368744177664/\1<=1099511627776 then some (Value.slice (some ⟨g.next,0,none⟩) 1 (dn+1),dM.push (.cells [x] T i.size true))else none)=_/\_;rw[if_neg (by omega),if_pos (by grind)];refine⟨_,_,_,_,rfl,rfl,.inr ⟨g.next,[x],rfl,e.nx,?_,rfl,by simp⟩,e.push _⟩;show(g.push (.cells [x] T i.size true)).get g.next=_;rw[ae.bt,if_pos rfl,r]
 ·dsimp only;rw[if_neg (by omega),r,Nat.mul_one];have s:bH (dn+cs.length)=cs.length:=by unfold bH;rw[if_pos (by omega)];omega
  rw[s];have B:=e.wf _ _ q;by_cases f:d.length+1<=cs.length
  ·rw[if_pos f];unfold storeAt;rw[Nat.zero_add,q];dsimp only;rw[if_pos ⟨by omega,by grind⟩];refine⟨_,_,_,_,rfl,rfl,.inr ⟨k,cs.take d.length++[x]++cs.drop (d.length+1),?_,A,?_,?_,?_⟩,?_⟩
   ·grind
   ·show(g.set k _).get k=_;simp[ae.aw]
   ·grind
   ·grind
   ·exact e.set _ A B w
  ·rw[if_neg f];have J:cs.length=d.length:=by omega
   unfold kY;rw[if_pos ⟨E,y⟩,q];dsimp only;rw[Nat.mul_one,if_pos ⟨rfl,rfl,by grind⟩,if_neg (by omega),if_pos ⟨rfl,by omega⟩];refine⟨_,_,_,_,rfl,rfl,.inr ⟨g.next,d++[x],?_,e.nx,?_,?_,?_⟩,?_⟩
   ·grind
   ·show((g.del k).push _).get g.next=_
    simp_all[ae.bt]
   ·grind
   ·omega
   ·refine⟨?_,λj C l=>?_,Nat.le_trans e.nx (le_succ _)⟩
    ·refine ae.ow (λj C l=>?_) _;rw[ae.dR]at l;split at l
     ·grind
     ·exact e.wf _ _ l
    ·have H:=e.ext _ _ l;have L:=e.wf _ _ H;show((g.del k).push _).get j=_;rw[ae.bt,if_neg (λT=>by have:j=g.next:=T;omega),ae.dR,if_neg (λT=>by have:=w _ _ l;omega)];omega
def Rd(h:ae)(e:TypeId)(v:Value)(a:List Value):Prop:=
 (v = .slice none 0 0/\a=[])\/ ∃k b cs c d,v = .slice (some ⟨k,b,none⟩) a.length c/\h.get k=some (.cells cs e 1 d)/\(cs.drop b).take a.length=a
theorem ej.rd(o:ej g h T v c):Rd h T v c:=by
 rcases o with o|⟨k,cs,b,d,a,e,f⟩
 ·exact .inl o
 ·exact .inr ⟨k,0,cs,_,true,b,a,by grind⟩
theorem Rd.ok(r:Rd h T v d)(o:Ok h g):Rd g T v d:=by
 rcases r with r|⟨k,a,cs,c,f,e,i,b⟩
 ·exact .inl r
 ·exact .inr ⟨k,a,cs,c,f,e,o.ext _ _ i,b⟩
theorem Rd.len{c:Nat}(r:Rd h T (.slice a n c) d):n=d.length:=by
 rcases r with⟨b,rfl⟩|⟨k,e,cs,c,g,b,i,f⟩
 all_goals grind
theorem ej.len{c:Nat}(r:ej g h T (.slice a n c) d):n=d.length:=r.rd.len
theorem Rd.at_{t:TypeId}{d:TypeDesc}(s:P.underlying t=some (.slice T))(g:aE P T=some 1)(o:P.underlying T=some d)(q:isAgg P T=false){h:ae}{v:Value}{a:List Value}(r:Rd h T v a){k:IntKind}{i:Int}(n:0<=i)(j:i<a.length):
  ∃p:Addr,aA P t v (.int k i)=some (.pointer (some p))/\aj P T h (.pointer (some p))=some (a.getD i.toNat undef):=by
 rcases r with⟨_,rfl⟩|⟨b,e,cs,c,l,rfl,f,m⟩
 ·grind
 ·refine⟨⟨b,e+i.toNat*1,none⟩,?_,?_⟩
  ·simp_all[aA,Addr.add]
  ·unfold aj
   grind
def sR(c:UInt8):Value:= .int .u8 (c.toNat:Nat)
theorem pG:∀l:List UInt8,bytesOf (l.map sR)=some l
 |[]=>rfl
 |c::l=>by
  have a:c.toNat<256:=c.toNat_lt;show(if 0<=((c.toNat:Nat):Int)/\((c.toNat:Nat):Int)<256 then(bytesOf (l.map sR)).map (UInt8.ofNat ((c.toNat:Nat):Int).toNat::·)else none)=_;rw[if_pos (by omega),pG l,Int.toNat_natCast];simp
theorem YQ{s e:TypeId}(a:P.underlying s=some (.slice e))(d:P.underlying T=some .string)(j:P.underlying e=some (.int .u8)){h:ae}{v:Value}{l:List UInt8}(r:Rd h e v (l.map sR)):Bo P s T v h=some (strOf l):=by
 unfold Bo cW;dsimp only;rw[a,d];rcases r with⟨rfl,b⟩|⟨k,f,cs,c,i,rfl,b,g⟩
 all_goals simp_all[pG]
theorem ej.ok{h0:ae}(r:ej h0 h T v c)(o:Ok h g):ej h0 g T v c:=by
 rcases r with r|⟨k,cs,b,d,a,e,f⟩
 ·exact .inl r
 ·exact .inr ⟨k,cs,b,d,o.ext _ _ a,e,f⟩
theorem ej.from_{t:TypeId}(j:P.underlying t=some (.slice T))(e:aE P T=some 1){g h:ae}{v:Value}{b:List Value}(r:ej g h T v b){z:Nat}(m:z<b.length):
  ∃a n c,bG P t v (some (.int .i64 (z:Int))) none none h=some (.slice a n c)/\Rd h T (.slice a n c) (b.drop z):=by
 rcases r with⟨rfl,rfl⟩|⟨k,cs,rfl,l,d,f,o⟩
 ·grind
 ·refine⟨some ⟨k,0+z*1,none⟩,b.length-z,dn+cs.length-z,?_,.inr ⟨k,0+z*1,cs,_,true,by rw[List.length_drop],d,?_⟩⟩
  ·unfold bG;dsimp only;rw[j];dsimp only[eP];rw[e,d];dsimp only;have i:bH (dn+cs.length)=cs.length:=by unfold bH;rw[if_pos (by omega)];omega
   grind
  ·rw[Nat.zero_add,Nat.mul_one,List.length_drop];have:=congrArg (List.drop z) f
   grind[List.drop_take]
theorem ej.upto{t:TypeId}(m:P.underlying t=some (.slice T))(g:aE P T=some 1){f h:ae}{v:Value}{b:List Value}(r:ej f h T v b){z:Nat}(p:z<=b.length)(q:0<b.length):
  ∃a n c,bG P t v none (some (.int .i64 (z:Int))) none h=some (.slice a n c)/\ej f h T (.slice a n c) (b.take z):=by
 rcases r with⟨rfl,rfl⟩|⟨k,cs,rfl,i,e,o,s⟩
 ·grind
 ·refine⟨some ⟨k,0+0*1,none⟩,z,dn+cs.length,?_,.inr ⟨k,cs,?_,i,e,?_,?_⟩⟩
  ·unfold bG;dsimp only;rw[m];dsimp only[eP];rw[g,e];dsimp only;have d:bH (dn+cs.length)=cs.length:=by unfold bH;rw[if_pos (by omega)];omega
   rw[if_pos (by simp),d,if_pos (by omega)];have j:((z:Int)-((0:Nat):Int)).toNat=z:=by omega
   have l:((0:Nat):Int).toNat=0:=rfl;rw[j,l];rfl
  all_goals grind
theorem tx(k:IntKind)(a b:Int):rQ true [.int k a,.int k b]=some (.int k (if b>a then b else a)):=by simp[rQ]
theorem gK{t:TypeId}{k:IntKind}{a:Int}{b:Nat}(d:0<=a)(c:0<b):ay P .rem t (.int k a) (.int k (b:Int))=some (.int k (a%(b:Int))):=by grind[Xe]
theorem pS{t:TypeId}{a:Int}{b:Nat}(c:0<=a)(d:a<18446744073709551616)(e:0<b):ay P .quo t (.int .u64 a) (.int .u64 (b:Int))=some (.int .u64 (a/(b:Int))):=by
 rw[GP P t .u64 _ _ (by omega),Int.tdiv_eq_ediv_of_nonneg c,gL (Int.ediv_nonneg c (by omega)) (Int.lt_of_le_of_lt (Int.ediv_le_self _ c) d)]
def setAt:List Nat->Code->Code->Code
 |[],n,_=>n
 |0::p,n,.seq a b=> .seq (setAt p n a) b
 |_::p,n,.seq a b=> .seq a (setAt p n b)
 |0::p,n,.cond c a b=> .cond c (setAt p n a) b
 |_::p,n,.cond c a b=> .cond c a (setAt p n b)
 |_::p,n,.block i c=> .block i (setAt p n c)
 |_::p,n,.loop c=> .loop (setAt p n c)
 |_::_,_,c=>c
theorem iR:∀(p:List Nat)(c:Code),setAt p (fI p c) c=c
 |[],c=>rfl
 |i::p,c=>by
  cases c with
  |seq a b=>cases i<;>simp only[fI,setAt,iR p]
  |cond c a b=>cases i<;>simp only[fI,setAt,iR p]
  |block i c=>simp only[fI,setAt,iR p]
  |loop c=>simp only[fI,setAt,iR p]
  |_=>simp only[setAt]
theorem ej.ac3{t:TypeId}{i:TypeInfo}(I:P.underlying t=some (.slice T))(K:eS P T=some i)(z:i.size=1){q h:ae}(D:Wf q)(a:Ok q h){v:Value}{f:List Value}(o:ej q h T v f){x:Value}(U:dO x=true)(J:(f.length+1)*i.bytes<=70368744177664)(E:f.length+1<=1099511627776):
  ∃(b:Option Addr)(n c:Nat)(u:dM),bI P t t v (mL 1 1 h.next) (h.push (.cells [x] T 1 true))=some (.slice b n c,u)/\n=f.length+1/\ej q (u.app (h.push (.cells [x] T 1 true))) T (.slice b n c) (f++[x])/\Ok q (u.app (h.push (.cells [x] T 1 true)))/\
   (∀j B,h.get j=some B->(∀o n c,v≠ .slice (some ⟨j,o,none⟩) n c)->(u.app (h.push (.cells [x] T 1 true))).get j=some B)/\
   (∀j o m d,Value.slice b n c = .slice (some ⟨j,o,none⟩) m d->h.next<=j\/ ∃o n c,v = .slice (some ⟨j,o,none⟩) n c):=by
 have N:dW P t=true:=by unfold dW;rw[I]
 have s:fQ (h.push (.cells [x] T 1 true)) i.size (mL 1 1 h.next)=some ([x],1):=by
  show(match (h.push (.cells [x] T 1 true)).get h.next with|some (.cells cs ..)=>if((cs.drop 0).take (1*i.size)).length=1*i.size then some ((cs.drop 0).take (1*i.size),1)else none|_=>none)=_;rw[ae.bt,if_pos rfl,z];rfl
 have F:=ej.push a o (.cells [x] T 1 true);have l:=a.push (.cells [x] T 1 true);have O:∀j B,h.get j=some B->(h.push (.cells [x] T 1 true)).get j=some B:=λj B e=>by
  rw[ae.bt,if_neg (λT=>by have:=a.wf _ _ e;omega)];omega
 have r:∀j B,h.get j=some B->j<h.next:=λj B e=>a.wf _ _ e;generalize L:h.push (.cells [x] T 1 true)=g at*;have R:h.next<g.next:=by rw[<-L];exact Nat.lt_succ_self _
 unfold bI;rw[I];dsimp only;rw[K];dsimp only;rw[if_pos N,s];dsimp only;rw[if_pos (by grind)];rcases F with⟨rfl,rfl⟩|⟨k,cs,rfl,G,y,V,W⟩
 ·show ∃b n c u,(if 1=0 then some (Value.slice none 0 0,dM.no)else if 1*i.bytes<=70368744177664/\1<=1099511627776 then some (Value.slice (some ⟨g.next,0,none⟩) 1 (dn+1),dM.push (.cells [x] T i.size true))else none)=_/\_;rw[if_neg (by omega),if_pos (by grind)];refine⟨_,_,_,_,rfl,rfl,.inr ⟨g.next,[x],rfl,l.nx,?_,rfl,by simp⟩,l.push _,λj B e _=>?_,λj o m d T=> .inl ?_⟩
  rotate_left
  ·show(g.push _).get j=_;rw[ae.bt,if_neg (λT=>by have:=r _ _ e;omega)]
   grind
  ·grind
  show(g.push (.cells [x] T i.size true)).get g.next=_;rw[ae.bt,if_pos rfl,z]
 ·dsimp only;rw[if_neg (by omega),z,Nat.mul_one];have A:bH (dn+cs.length)=cs.length:=by unfold bH;rw[if_pos (by omega)];omega
  rw[A];have H:=l.wf _ _ y;by_cases p:f.length+1<=cs.length
  ·rw[if_pos p];unfold storeAt;rw[Nat.zero_add,y];dsimp only;rw[if_pos ⟨by omega,by grind⟩];refine⟨_,_,_,_,rfl,rfl,.inr ⟨k,cs.take f.length++[x]++cs.drop (f.length+1),?_,G,?_,?_,?_⟩,?_,λj B e w=>?_,λj o m d T=> .inr ?_⟩
   rotate_left 5
   ·show(g.set k _).get j=_;rw[ae.aw,if_neg (λT=>w 0 _ _ (by rw[T]))]
    grind
   ·grind
   ·grind
   ·show(g.set k _).get k=_;simp[ae.aw]
   ·grind
   ·grind
   ·exact l.set _ G H D
  ·rw[if_neg p];have Q:cs.length=f.length:=by omega
   unfold kY;rw[if_pos ⟨J,E⟩,y];dsimp only;rw[Nat.mul_one,if_pos ⟨rfl,rfl,by grind⟩,if_neg (by omega),if_pos ⟨rfl,by omega⟩];refine⟨_,_,_,_,rfl,rfl,.inr ⟨g.next,f++[x],?_,l.nx,?_,?_,?_⟩,?_,λj B e w=>?_,λj o m d T=> .inl ?_⟩
   rotate_left 5
   ·show((g.del k).push _).get j=_;rw[ae.bt,if_neg (λT=>by have:=r _ _ e;have:j=g.next:=T;omega),ae.dR,if_neg (λT=>w 0 _ _ (by rw[T]))]
    grind
   ·grind
   ·grind
   ·show((g.del k).push _).get g.next=_
    simp_all[ae.bt]
   ·grind
   ·omega
   ·refine⟨?_,λj C e=>?_,Nat.le_trans l.nx (le_succ _)⟩
    ·refine ae.ow (λj C e=>?_) _;rw[ae.dR]at e;split at e
     ·grind
     ·exact l.wf _ _ e
    ·have M:=l.ext _ _ e;have S:=l.wf _ _ M;show((g.del k).push _).get j=_;rw[ae.bt,if_neg (λT=>by have:j=g.next:=T;omega),ae.dR,if_neg (λT=>by have:=D _ _ e;omega)];omega
variable{X:Sx}{f:FuncId}{Q:VH}
def A6(b h:ae)(e:TypeId)(v:Value)(a:List Value):Prop:=
 (v = .slice none 0 0/\a=[])\/ ∃k,v = .slice (some ⟨k,0,none⟩) a.length (dn+a.length)/\b.next<=k/\h.get k=some (.cells a e 1 true)
theorem A6.adC{t y:TypeId}{i:TypeInfo}(K:P.underlying t=some (.slice T))(E:eS P T=some i)(F:i.size=1)(J:dW P y=true){g h:ae}(z:Wf g)(a:Ok g h){v:Value}{f:List Value}(o:A6 g h T v f){x:Value}{d:List Value}(p:fQ h 1 x=some (d,d.length))(G:d.all dO=true)(D:(f.length+d.length)*i.bytes<=70368744177664)(w:f.length+d.length<=1099511627776):
  ∃(b:Option Addr)(n c:Nat)(u:dM),bI P t y v x h=some (.slice b n c,u)/\A6 g (u.app h) T (.slice b n c) (f++d)/\Ok g (u.app h)/\(∀j B,h.get j=some B->(∀o n c,v≠ .slice (some ⟨j,o,none⟩) n c)->(u.app h).get j=some B):=by
 have m:∀j B,h.get j=some B->j<h.next:=λj B e=>a.wf _ _ e;unfold bI;rw[K];dsimp only;rw[E];dsimp only;rw[if_pos J,F,p];dsimp only;rw[if_pos ⟨G,by omega⟩];rcases o with⟨rfl,rfl⟩|⟨k,rfl,H,r⟩
 ·show ∃b n c u,(if d.length=0 then some (Value.slice none 0 0,dM.no)else if d.length*i.bytes<=70368744177664/\d.length<=1099511627776 then some (Value.slice (some ⟨h.next,0,none⟩) d.length (dn+d.length),dM.push (.cells d T 1 true))else none)=_/\_;by_cases l:d.length=0
  ·have q:d=[]:=eq_nil_of_length_eq_zero l;subst q;exact⟨_,_,_,_,rfl,.inl ⟨rfl,rfl⟩,a,λj B e _=>e⟩
  ·rw[if_neg l,if_pos (by grind)];refine⟨_,_,_,_,rfl,.inr ⟨h.next,by simp,a.nx,?_⟩,a.push _,λj B e _=>?_⟩
   ·show(h.push _).get h.next=_;simp[ae.bt]
   ·show(h.push _).get j=_;rw[ae.bt,if_neg (λT=>by have:=m _ _ e;omega)];omega
 ·dsimp only;have L:=a.wf _ _ r;by_cases l:d.length=0
  ·have q:d=[]:=eq_nil_of_length_eq_zero l;subst q;refine⟨_,_,_,_,rfl,.inr ⟨k,by simp,H,by rw[append_nil];exact r⟩,a,λj B e _=>e⟩
  ·rw[if_neg l,Nat.mul_one];have s:bH (dn+f.length)=f.length:=by unfold bH;rw[if_pos (by omega)];omega
   rw[s,if_neg (by omega)];unfold kY;rw[if_pos ⟨D,w⟩,r];dsimp only;rw[Nat.mul_one,if_pos ⟨rfl,rfl,by simp⟩,if_neg (by omega),if_pos ⟨rfl,by omega⟩];refine⟨_,_,_,_,rfl,.inr ⟨h.next,by simp,a.nx,?_⟩,?_,λj B e A=>?_⟩
   ·show((h.del k).push _).get h.next=_
    simp_all[ae.bt]
   ·refine⟨?_,λj C e=>?_,Nat.le_trans a.nx (le_succ _)⟩
    ·refine ae.ow (λj C e=>?_) _;rw[ae.dR]at e
     simp_all
    ·have I:=a.ext _ _ e;have M:=a.wf _ _ I;show((h.del k).push _).get j=_;rw[ae.bt,if_neg (λT=>by have:j=h.next:=T;omega),ae.dR,if_neg (λT=>by have:=z _ _ e;omega)];omega
   ·show((h.del k).push _).get j=_;rw[ae.bt,if_neg (λT=>by have:=m _ _ e;have:j=h.next:=T;omega),ae.dR,if_neg (λT=>A 0 _ _ (by rw[T]))];omega
theorem BF{p:uV}{h':ae}(a:Nat.ble YB f=false)(i:X.pr f=some p)(j:∀d,p d c h=some (v,h'))(b:Q v h'):FW X f c h Q:=by
 refine⟨v,h',⟨1,λn g=>?_⟩,b⟩;obtain⟨m,rfl⟩:∃m,n=m+1:=⟨n-1,by omega⟩
 have e:¬YB<=f:=λh=>by rw[<-ble_eq]at h;rw[a]at h;cases h
 simp_all[if_neg,bY]
variable{m:Nat}{A:Type}
theorem OF(k i j:Nat):Addr.add ⟨k,i,none⟩ j=⟨k,i+j,none⟩:=by simp[Addr.add]
theorem Pn{t:TypeId}(e:P.underlying t=some (.slice T))(a:aE P T=some m){k off n c:Nat}{ik:IntKind}{i:Int}(d:0<=i)(b:i<n):aA P t (.slice (some ⟨k,off,none⟩) n c) (.int ik i)=some (.pointer (some ⟨k,off+i.toNat*m,none⟩)):=by simp_all[OF,aA]
theorem cq{t:TypeId}{d:TypeDesc}(j:P.underlying t=some d)(c:isAgg P t=false){h:ae}{k i:Nat}{cs:List Value}{e:TypeId}{a:Nat}{b:Bool}(g:h.get k=some (.cells cs e a b))(f:i<cs.length):aj P t h (.pointer (some ⟨k,i,none⟩))=some (cs.getD i undef):=by simp_all[aj]
theorem o0{t:TypeId}{d:TypeDesc}(j:P.underlying t=some d)(c:isAgg P t=true)(b:aE P t=some n){h:ae}{k i:Nat}{cs:List Value}{e:TypeId}{z:Nat}{a:Bool}(g:h.get k=some (.cells cs e z a))(f:i+n<=cs.length):aj P t h (.pointer (some ⟨k,i,none⟩))=some (.agg ⟨(cs.drop i).take n⟩):=by
 unfold aj
 grind
theorem iX{t:TypeId}(c:aE P t=some 1){h:ae}{k i:Nat}{cs:List Value}{e:TypeId}{a:Nat}(d:h.get k=some (.cells cs e a true))(g:i<cs.length){v:Value}(b:dO v=true)(f:v.cells = #[v]):ah P t (.pointer (some ⟨k,i,none⟩)) v h=some (undef,.set k (.cells (cs.set i v) e a true)):=by
 unfold ah;dsimp only;rw[f,if_pos (show aE P t=some (#[v]:Array Value).size from c)];unfold storeAt;rw[d];dsimp only;rw[if_pos ⟨by simp;omega,by simp[b]⟩]
 simp_all[List.set_eq_take_append_cons_drop]
structure Ia(hb:ae)(kt:Nat)(e:TypeId)(vs:List Value)(g:ae):Prop where
 row:g.get kt=some (.cells vs e 1 true)
 new:hb.next<=kt
 ok:Ok hb g
theorem Ia.lt(m:Ia h n T c g):n<g.next:=m.ok.wf _ _ m.row
theorem Ia.rd(m:Ia h n T d g)(c:Nat):Rd g T (.slice (some ⟨n,0,none⟩) d.length c) d:= .inr ⟨n,0,d,c,true,rfl,m.row,by simp⟩
theorem Ia.set(w:Wf h){a:Nat}{e:TypeId}{b:List Value}{g:ae}(m:Ia h a e b g)(j:Nat)(v:Value):Ia h a e (b.set j v) ((dM.set a (.cells (b.set j v) e 1 true)).app g):=by
 refine⟨?_,m.new,m.ok.set _ m.new m.lt w⟩;show(g.set a _).get a=_;rw[ae.aw,if_pos rfl]
theorem ny(z:Value)(n:Nat):df [z] n=List.replicate n z:=by
 induction n with
 |zero=>rfl
 |succ n a=>grind[df]
theorem N9(f:A->Value)(L:List A)(j:Nat)(d:A):(L.map f).set j (f d)=(L.set j d).map f:=by simp
variable{L:List (List Value)}
def vx:Value:= .slice (some ⟨0,0,some 0⟩) 0 0
def Ek(h:ae)(e:TypeId)(d:Nat)(v:Value)(b:List (List Value)):Prop:=
 (∀r∈b,r.length=d)/\(((v = .slice none 0 0\/v=vx)/\b=[])\/ ∃k a cs f z c g,v = .slice (some ⟨k,a,none⟩) b.length c/\h.get k=some (.cells cs f z g)/\a+b.length*d<=cs.length/\∀(i:Nat)(r:List Value),b[i]?=some r->(cs.drop (a+i*d)).take d=r)
theorem Ek.ok(r:Ek h T n v L)(o:Ok h g):Ek g T n v L:=by
 obtain⟨a,r|⟨k,b,cs,d,z,c,i,f,j,e,l⟩⟩:=r
 ·exact⟨a,.inl r⟩
 ·exact⟨a,.inr ⟨k,b,cs,d,z,c,i,f,o.ext _ _ j,e,l⟩⟩
theorem Ek.len{c:Nat}(r:Ek h T n (.slice a m c) L):m=L.length:=by
 obtain⟨_,⟨b|b,rfl⟩|⟨k,d,cs,e,z,c,g,b,i,f,j⟩⟩:=r
 all_goals grind[vx]
theorem Ek.Wv(r:Ek h T n v L):∃(a:Option Addr)(c:Nat),v = .slice a L.length c:=by
 obtain⟨_,⟨b|b,rfl⟩|⟨k,d,cs,e,z,c,g,b,i,f,j⟩⟩:=r
 ·exact⟨_,_,b⟩
 ·exact⟨_,_,b⟩
 grind
theorem Ek.at_{t:TypeId}{d:TypeDesc}(L:P.underlying t=some (.slice T))(E:aE P T=some n)(J:P.underlying T=some d)(K:isAgg P T=true){h:ae}{v:Value}{a:List (List Value)}(r:Ek h T n v a){ik:IntKind}{i:Int}(I:0<=i)(F:i<a.length):
  ∃(k o:Nat),aA P t v (.int ik i)=some (.pointer (some ⟨k,o,none⟩))/\aj P T h (.pointer (some ⟨k,o,none⟩))=some (.agg ⟨a.getD i.toNat []⟩)/\
   ∀(e:TypeId)(g:TypeDesc)(j:Nat),P.underlying e=some g->isAgg P e=false->j<n->aj P e h (.pointer (some ⟨k,o+j,none⟩))=some ((a.getD i.toNat []).getD j undef):=by
 obtain⟨D,⟨_,rfl⟩|⟨b,f,cs,C,z,c,G,rfl,w,H,B⟩⟩:=r
 ·grind
 ·have m:i.toNat<a.length:=by omega
  have y:a[i.toNat]?=some (a.getD i.toNat []):=by rw[gD,gE m];rfl
  have l:=B _ _ y;have p:(i.toNat+1)*n<=a.length*n:=mul_le_mul_right _ m;rw[Nat.add_mul,Nat.one_mul]at p;obtain⟨q,x⟩:∃q,q=i.toNat*n:=⟨_,rfl⟩
  rw[<-x]at l p;refine⟨b,f+q,?_,?_,λe g j u s A=>?_⟩
  ·grind[Pn]
  ·grind[o0]
  ·rw[cq u s w (by omega),<-l,gD,gD,getElem?_take,if_pos A,getElem?_drop]
def eZ:Value->Option Nat
 |.slice (some a) _ _=>some a.block
 |_=>none
theorem uw{a:Nat}:∀{l:List (List Value)},(∀r∈l,r.length=a)->l.flatten.length=l.length*a
 |[],_=>by simp
 |r::l,h=>by
  rw[flatten_cons,length_append,uw λx b=>h x (mem_cons_of_mem _ b),h r (mem_cons_self ..),length_cons,Nat.add_mul,Nat.one_mul,Nat.add_comm]
theorem Ji{a:Nat}:∀{l:List (List Value)},(∀r∈l,r.length=a)->∀{i:Nat}{r:List Value},l[i]?=some r->(l.flatten.drop (i*a)).take a=r
 |[],_,i,r,h=>by grind
 |x::l,b,0,r,h=>by grind
 |x::l,b,i+1,r,h=>by
  have c:=b x (mem_cons_self ..);rw[flatten_cons,Nat.add_mul,Nat.one_mul,List.drop_append,drop_eq_nil_of_le (by omega),List.nil_append,c,show i*a+a-a=i*a by omega];exact Ji (λy d=>b y (mem_cons_of_mem _ d)) (by grind)
theorem Fq{a:Nat}:∀{l:List (List Value)},(∀r∈l,r.length=a)->∀{i j:Nat}{r:List Value}{v:Value},l[i]?=some r->j<a->(l.set i (r.set j v)).flatten=l.flatten.set (i*a+j) v
 |[],_,i,j,r,v,h,_=>by rfl
 |x::l,b,0,j,r,v,h,c=>by grind
 |x::l,b,i+1,j,r,v,h,c=>by
  have d:=b x (mem_cons_self ..);rw[List.set_cons_succ,flatten_cons,flatten_cons,Fq (λy e=>b y (mem_cons_of_mem _ e)) (by grind) c,List.set_append,if_neg (by grind),Nat.add_mul,Nat.one_mul,d,show i*a+a+j-a=i*a+j by omega]
def fh(f h:ae)(e:TypeId)(d:Nat)(v:Value)(a:List (List Value)):Prop:=
 (∀r∈a,r.length=d)/\((v = .slice none 0 0/\a=[])\/ ∃k b cs c,v = .slice (some ⟨k,b,none⟩) a.length c/\f.next<=k/\h.get k=some (.cells cs e d true)/\(cs.drop b).take (a.length*d)=a.flatten/\bH c*d+b=cs.length/\a.length<=bH c)
theorem fh.rd(o:fh g h T n v L):Ek h T n v L:=by
 obtain⟨a,⟨b,f⟩|⟨k,e,cs,c,b,f,l,t,u,p⟩⟩:=o
 ·exact⟨a,.inl ⟨.inl b,f⟩⟩
 ·have s:=mul_le_mul_right n p;refine⟨a,.inr ⟨k,e,cs,T,n,c,true,b,l,by omega,λi r j=>?_⟩⟩;have q:=Ji a j;have d:i<L.length:=(List.getElem?_eq_some_iff.1 j).1;have m:(i+1)*n<=L.length*n:=mul_le_mul_right _ d;rw[Nat.add_mul,Nat.one_mul]at m
  grind[List.drop_take,drop_drop]
theorem fh.kF{h':ae}(o:fh g h T n v L)(j:∀(k:Nat) (B:dS),eZ v=some k->h.get k=some B->h'.get k=some B):fh g h' T n v L:=by
 obtain⟨a,o|⟨k,b,cs,c,d,f,e,i,m,l⟩⟩:=o
 ·exact⟨a,.inl o⟩
 ·exact⟨a,.inr ⟨k,b,cs,c,d,f,j k _ (by rw[d];rfl) e,i,m,l⟩⟩
theorem fh.ok{h0:ae}(r:fh h0 h T n v L)(o:Ok h g):fh h0 g T n v L:=r.kF λk B _ a=>o.ext _ _ a
theorem fh.lt(o:fh g h T n v L)(w:Wf h){k:Nat}(a:eZ v=some k):k<h.next/\g.next<=k:=by
 obtain⟨_,⟨rfl,_⟩|⟨b,i,cs,c,e,f,d,j,m,l⟩⟩:=o
 ·cases a
 ·rw[e]at a;obtain rfl:b=k:=oI a;exact⟨w _ _ d,f⟩
theorem fh.nil(b h:ae)(e:TypeId)(a:Nat):fh b h e a (.slice none 0 0) []:=⟨λr c=>(by grind),.inl ⟨rfl,rfl⟩⟩
theorem fh.Wv(o:fh g h T n v L):∃(a:Option Addr)(c:Nat),v = .slice a L.length c:=o.rd.Wv
theorem fh.blk(o:fh g h T n v L)(e:0<L.length):∃(k a c:Nat),v = .slice (some ⟨k,a,none⟩) L.length c/\g.next<=k:=by
 obtain⟨_,⟨_,rfl⟩|⟨k,a,cs,c,b,d,_⟩⟩:=o
 all_goals grind
theorem fh.add{t e:TypeId}{i:TypeInfo}(hU:P.underlying t=some (.slice e))(W:eS P e=some i)(X:i.size=n)(Y:dW P T=true){y g:ae}(K:Wf y)(a:Ok y g){v:Value}{d:List (List Value)}(o:fh y g e n v d){x:Value}{ns:List (List Value)}(D:fQ g n x=some (ns.flatten,ns.length))(A:∀r∈ns,r.length=n)(M:ns.flatten.all dO=true)(E:(d.length+ns.length)*i.bytes<=70368744177664)(w:d.length+ns.length<=1099511627776)(L:ns.length<=1\/v = .slice none 0 0):
  ∃(b:Option Addr)(U c:Nat)(u:dM),bI P t T v x g=some (.slice b U c,u)/\U=d.length+ns.length/\fh y (u.app g) e n (.slice b U c) (d++ns)/\Ok y (u.app g)/\
   (∀j B,g.get j=some B->eZ v≠some j->(u.app g).get j=some B)/\
   (∀j,eZ (.slice b U c)=some j->g.next<=j\/eZ v=some j)/\g.next<=(u.app g).next:=by
 obtain⟨R,o⟩:=o;have l:∀r∈d++ns,r.length=n:=λr h=>(mem_append.1 h).elim (R r) (A r);have f1:=uw R;have Q:=uw A;unfold bI;rw[hU];dsimp only;rw[W];dsimp only;rw[X,if_pos Y,D];dsimp only;rw[if_pos ⟨M,Q⟩];have N:∀B:dS,∀j I,g.get j=some I->(g.push B).get j=some I:=λB j I f=>by
  rw[ae.bt,if_neg (λe=>by have:=a.wf _ _ f;omega)];omega
 rcases o with⟨rfl,rfl⟩|⟨k,p,cs,c,rfl,F,z,H,h5,h6⟩
 ·by_cases q:ns.length=0
  ·rw[if_pos q];obtain rfl:=eq_nil_of_length_eq_zero q;exact⟨_,_,_,_,rfl,rfl,⟨l,.inl ⟨rfl,rfl⟩⟩,a,λj B f _=>f,λj e=> .inr e,Nat.le_refl _⟩
  ·rw[List.length_nil,Nat.zero_add]at E w;rw[if_neg q,if_pos ⟨E,w⟩];refine⟨_,_,_,_,rfl,(Nat.zero_add _).symm,⟨l,.inr ⟨g.next,0,ns.flatten,dn+ns.length,rfl,a.nx,?_,?_,by rw[im,Q];rfl,by rw[im];exact Nat.le_refl _⟩⟩,a.push _,λj B f _=>N _ j B f,λj e=> .inl (Nat.le_of_eq (oI e)),le_succ _⟩
   ·show(g.push _).get g.next=_;rw[ae.bt,if_pos rfl]
   grind
 ·dsimp only;by_cases q:ns.length=0
  ·rw[if_pos q];obtain rfl:=eq_nil_of_length_eq_zero q;exact⟨_,_,_,_,rfl,rfl,⟨l,.inr ⟨k,p,cs,c,by grind,F,z,by grind,h5,by grind⟩⟩,a,λj B f _=>f,λj e=> .inr e,Nat.le_refl _⟩
  have O:=a.wf _ _ z;have m1:(d.length+ns.length)*n=d.length*n+ns.length*n:=Nat.add_mul ..;rw[if_neg q];by_cases m:d.length+ns.length<=bH c
  ·rw[if_pos m];have m2:(d.length+ns.length)*n<=bH c*n:=mul_le_mul_right _ m;unfold storeAt;rw[z];dsimp only;rw[if_pos ⟨by omega,M⟩];refine⟨_,_,_,_,rfl,rfl,⟨l,.inr ⟨k,p,cs.take (p+d.length*n)++ns.flatten++cs.drop (p+d.length*n+ns.flatten.length),c,?_,F,?_,?_,?_,?_⟩⟩,?_,λj B f s=>?_,λj e=> .inr e,Nat.le_refl _⟩
   ·grind
   ·show(g.set k _).get k=_;rw[ae.aw,if_pos rfl]
   ·grind
   ·grind
   ·grind
   ·exact a.set _ F O K
   ·show(g.set k _).get j=_;rw[ae.aw,if_neg (λe=>s (by rw[e];rfl))];omega
  ·rw[if_neg m];have G:((cs.drop p).take (d.length*n)).length=d.length*n:=by rw[H,f1]
   unfold kY;rw[if_pos ⟨E,w⟩,z];dsimp only;rw[if_pos ⟨rfl,rfl,G⟩];have fl:d.flatten++ns.flatten=(d++ns).flatten:=List.flatten_append.symm;have J:=uw l;rw[length_append]at J;by_cases S:c<dn
   ·rw[if_pos S,H,fl];refine⟨_,_,_,_,rfl,rfl,⟨l,.inr ⟨g.next,0,(d++ns).flatten,dn+(d.length+ns.length),by rw[length_append],a.nx,?_,?_,by rw[im,J];rfl,by rw[im,length_append];exact Nat.le_refl _⟩⟩,a.push _,λj B f _=>N _ j B f,λj e=> .inl (Nat.le_of_eq (oI e)),le_succ _⟩
    ·show(g.push _).get g.next=_;rw[ae.bt,if_pos rfl]
    grind
   ·rw[if_neg S];have Z:bH c=d.length:=by
     rcases L with h|h
     ·omega
     ·cases h
    rw[if_pos ⟨rfl,by grind⟩,H,fl];refine⟨_,_,_,_,rfl,rfl,⟨l,.inr ⟨g.next,0,(d++ns).flatten,dn+(d.length+ns.length),by grind,a.nx,?_,?_,by rw[im,J];rfl,by simp[im]⟩⟩,?_,λj B f s=>?_,λj e=> .inl (Nat.le_of_eq (oI e)),le_succ _⟩
    ·show((g.del k).push _).get g.next=_
     simp_all[ae.bt]
    ·grind
    ·refine⟨?_,λj C f=>?_,Nat.le_trans a.nx (le_succ _)⟩
     ·refine ae.ow (λj C f=>?_) _;rw[ae.dR]at f;split at f
      ·grind
      ·exact a.wf _ _ f
     ·have G:=a.ext _ _ f;have V:=a.wf _ _ G;show((g.del k).push _).get j=_;rw[ae.bt,if_neg (λe=>by have:j=g.next:=e;omega),ae.dR,if_neg (λe=>by have:=K _ _ f;omega)];omega
    ·have V:=a.wf _ _ f;show((g.del k).push _).get j=_;rw[ae.bt,if_neg (λe=>by have:j=g.next:=e;omega),ae.dR,if_neg (λe=>s (by rw[e];rfl))];omega
theorem fh.put{e t':TypeId}(z:aE P t'=some 1){f g:ae}(w:Wf f)(a:Ok f g){k b J c:Nat}{h:List (List Value)}(o:fh f g e n (.slice (some ⟨k,b,none⟩) J c) h){i j:Nat}{r:List Value}(l:h[i]?=some r)(G:j<n){v':Value}(y:dO v'=true)(H:v'.cells = #[v']):
  ∃u:dM,ah P t' (.pointer (some ⟨k,b+i*n+j,none⟩)) v' g=some (undef,u)/\fh f (u.app g) e n (.slice (some ⟨k,b,none⟩) J c) (h.set i (r.set j v'))/\Ok f (u.app g)/\(∀j B,g.get j=some B->k≠j->(u.app g).get j=some B)/\(u.app g).next=g.next:=by
 obtain⟨v,⟨d,_⟩|⟨N,D,cs,O,d,s,p,A,R,F⟩⟩:=o
 ·grind
 ·injection d with d hn t
  injection d with d
  injection d with d C _
  subst d;subst C;subst t;have m:i<h.length:=(List.getElem?_eq_some_iff.1 l).1;have E:(i+1)*n<=h.length*n:=mul_le_mul_right _ m;have M:=mul_le_mul_right n F;have K:=v r (List.mem_of_getElem? l);rw[Nat.add_mul,Nat.one_mul]at E;refine⟨_,iX z p (by omega) y H,⟨λQ L=>?_,.inr ⟨k,b,cs.set (b+i*n+j) v',c,?_,s,?_,?_,?_,?_⟩⟩,a.set _ s (a.wf _ _ p) w,λx B I q=>?_,rfl⟩
  ·grind
  ·grind
  ·show(g.set k _).get k=_;rw[ae.aw,if_pos rfl]
  ·rw[length_set,Fq v l G,<-A,List.drop_set,if_neg (by omega),List.take_set,show b+i*n+j-b=i*n+j by omega]
  ·grind
  ·grind
  ·show(g.set k _).get x=_;rw[ae.aw,if_neg (λe=>q e.symm)];omega
theorem fh.at_{t:TypeId}(G:P.underlying t=some (.slice T))(w:aE P T=some n){B g:ae}{k a v c:Nat}{e:List (List Value)}(o:fh B g T n (.slice (some ⟨k,a,none⟩) v c) e){i:Nat}{r:List Value}(p:e[i]?=some r)(ik:IntKind):
  aA P t (.slice (some ⟨k,a,none⟩) v c) (.int ik (i:Int))=some (.pointer (some ⟨k,a+i*n,none⟩))/\(∀(f:TypeId)(l:TypeDesc)(j:Nat),P.underlying f=some l->isAgg P f=false->j<n->aj P f g (.pointer (some ⟨k,a+i*n+j,none⟩))=some (r.getD j undef))/\
   (∀d,P.underlying T=some d->isAgg P T=true->aj P T g (.pointer (some ⟨k,a+i*n,none⟩))=some (.agg ⟨r⟩)):=by
 have I:=o.rd.len;have h:i<e.length:=(List.getElem?_eq_some_iff.1 p).1;have m:=Pn (P:=P) G w (k:=k) (off:=a) (n:=v) (c:=c) (ik:=ik) (i:=(i:Int)) (by omega) (by omega);rw[Int.toNat_natCast]at m;obtain⟨Q,⟨b,_⟩|⟨H,C,cs,K,z,J,M,b,x,L,y⟩⟩:=o.rd
 ·grind
 ·injection b with b _ q
  injection b with b
  injection b with b A _
  subst b;subst A;subst q;have D:(i+1)*n<=e.length*n:=mul_le_mul_right _ h;rw[Nat.add_mul,Nat.one_mul]at D;have F:=y i r p;refine⟨m,λf l j u s E=>?_,λd O N=>?_⟩
  ·rw[cq u s x (by omega),<-F,gD,gD,getElem?_take,if_pos E,getElem?_drop]
  grind[o0]
def nI:Code->Bool
 |.seq a b=>nI a&&nI b
 |.cond _ a b=>nI a&&nI b
 |.block _ c=>nI c
 |.loop _=>false
 |_=>true
theorem fL{P:Program}{gl:Nat->Bool}{f:dZ}(N M:Nat):∀(c:Code)(e:List Value)(h:ae),nI c=true->bJ P gl f N c e h=bJ P gl f M c e h
 |.skip,_,_,_=>rfl
 |.region _ _ false,_,_,_=>rfl
 |.region _ _ true,_,_,_=>rfl
 |.seq a b,e,h,d=>by
  simp only[nI,and_eq_true]at d;simp only[bJ];rw[fL N M a e h d.1];split
  ·exact fL N M b _ _ d.2
  ·rfl
 |.cond c a b,e,h,d=>by
  simp only[nI,and_eq_true]at d;simp only[bJ];rw[fL N M a e h d.1,fL N M b e h d.2]
 |.block g c,e,h,d=>by
  simp only[nI]at d;simp only[bJ];rw[fL N M c e h d]
 |.loop _,_,_,d=>by grind[nI]
 |.exit _,_,_,_=>rfl
 |.ret,_,_,_=>rfl
 |.label _,_,_,_=>rfl
 |.rangeFunc ..,_,_,_=>by rfl
 |.scope _,_,_,_=>rfl
 |.goto _,_,_,_=>rfl
 |.refuse _,_,_,_=>rfl
theorem S7(e:FD){f:FuncId}{m:Func}{j a:Code}{d:Tmp}{b:List Value}{h:ae}{Q:VH}(hp:X.pr f=some (wG X.P X.gl m j a d))(w:TT X e [0] (b++List.replicate (e.nm-b.length) undef) h (λx c g=>x = .normal/\TT X e [1,1] (c.set d hH) g λx c q=>x = .ret/\EE X e Q .ret c q))
  (F:e=cG m []:=by kernel_rfl) (Z:fI [0] e.body=j:=by kernel_rfl) (P:fI [1,1] e.body=a:=by kernel_rfl) (K:(Nat.blt f YB&&Nat.ble b.length e.nm&&fX e.nm j&&fX e.nm a&&nI j&&nI a&&Nat.blt d e.nm)=true:=by kernel_rfl):FW X f b h Q:=by
 have S:e.nm=m.ntmps:=by rw[F];rfl
 have er:e.rs=m.results.toList:=by rw[F];rfl
 simp only[and_eq_true,blt_eq,ble_eq]at K;obtain⟨⟨⟨⟨⟨⟨V,c2⟩,H⟩,D⟩,c5⟩,Y⟩,B⟩:=K;unfold TT at w;rw[Z]at w;have o:(b++List.replicate (e.nm-b.length) undef).length=e.nm:=by simp;omega
 have M:=gY (Q':=AM e.nm λx c g=>x = .normal/\wpS X e.nm e.ms [1,1].reverse a (c.set d hH) g λx c q=>x = .ret/\EE X e Q .ret c q) j o H (λx c h o t=>⟨c,o,rfl,by rw[P]at t;exact t⟩) w;obtain⟨x0,E0,I,⟨n0,E⟩,A,v,rfl,rfl,N⟩:=gX j H M;have z:(A.set d hH).length=e.nm:=by rw[length_set];exact v
 have W:=gY (Q':=AM e.nm λx c q=>x = .ret/\EE X e Q .ret c q) a z D (λx c h o t=>⟨c,o,rfl,t⟩) N;obtain⟨x1,E1,g,⟨O,C⟩,r,U,rfl,rfl,p⟩:=gX a D W;have y:∃k,EM X r g e.rs=some k/\Q (dJ k) g:=by
  have p:yK (EM X r g e.rs) g Q:=p
  cases s:EM X r g e.rs with
  |none=>rw[s]at p;exact p.elim
  |some k=>rw[s]at p;exact⟨k,rfl,p⟩
 obtain⟨k,s,T⟩:=y;refine⟨dJ k,g,⟨n0+O+1,λn hn=>?_⟩,T⟩;obtain⟨i,rfl⟩:∃i,n=i+1:=⟨n-1,by omega⟩
 simp only[bY];rw[if_neg (Nat.not_le.2 V),hp];obtain⟨l,G,hA⟩:=E i i (by omega) (by omega) _ (S6 o);obtain⟨u,L,R⟩:=C i i (by omega) (by omega) (l.set d hH) (by
  have J:tk e.nm (some d)=true:=by simp[tk];exact B
  have:=ER.put G J hH;rw[CK v J]at this;exact this)
 have x4:bJ X.P X.gl (bY X.P X.gl X.pr i) 40 j (b++List.replicate (m.ntmps-b.length) undef) h=some (.normal,l,I):=by
  rw[fL 40 i j _ _ c5,<-S];exact hA
 have x3:bJ X.P X.gl (bY X.P X.gl X.pr i) 40 a (l.set d hH) I=some (.ret,u,g):=by
  rw[fL 40 i a _ _ Y];exact R
 have x2:d<l.length:=by rw[G.1];exact B
 have hE:dE X.P u g m.results.toList=some k:=by
  rw[BN L,yj,<-er];exact s
 simp_all[wG]
def H6(P:Program)(a:Option Addr)(h:ae)(K:VH):Prop:=uT (dr P (λ_=> .pointer a) ⟨none,.nilCheck (.tmp 0),0,"",#[],none⟩) h K
theorem lD{p:Addr}{K:VH}(a:K (.pointer (some p)) h):H6 P (some p) h K:=a
variable{j:Nat}{i:Nat}
section
structure zd(X:Nat->Prop)(g g':ae):Prop where
 wf:Wf g'
 ext:∀k B,¬X k->g.get k=some B->g'.get k=some B
 nx:g.next<=g'.next
section
variable {X Y:Nat->Prop} {g g' g2 h0:ae}
theorem Ok.okS(o:Ok g g'):zd X g g':=⟨o.wf,λk B _ h=>o.ext k B h,o.nx⟩
theorem zd.trans(a:zd X g g')(b:zd X g' g2):zd X g g2:=⟨b.wf,λk B h c=>b.ext k B h (a.ext k B h c),Nat.le_trans a.nx b.nx⟩
theorem zd.ok(s:zd X g g')(o:Ok h0 g)(w:Wf h0)(b:∀k,X k->h0.next<=k):Ok h0 g':=
 ⟨s.wf,λk B a=>s.ext k B (λx=>by have:=b k x;have:=w k B a;omega) (o.ext k B a),Nat.le_trans o.nx s.nx⟩
theorem zd.set(w:Wf g){k:Nat}(b:X k)(c:k<g.next)(B:dS):zd X g (g.set k B):=by
 refine⟨λj C a=>?_,λj C a h=>?_,Nat.le_refl _⟩
 ·rw[ae.aw]at a;split at a
  ·simp_all
  ·exact w _ _ a
 ·rw[ae.aw,if_neg (λe=>a (by grind))];exact h
theorem zd.room(s:zd X g g')(n:Nat):zd X g (room g' n):=⟨λk B a=>lt_of_lt_of_le (s.wf k B a) (le_add_right _ _),s.ext,Nat.le_trans s.nx (le_add_right _ _)⟩
end
structure ZT(P:Program)(tM tV:TypeId):Prop where
 M:P.underlying tM=some (.slice tV)
 V:P.underlying tV=some (.slice 9)
 s:P.underlying 9=some .string
 zV:aE P tV=some 1
 zs:aE P 9=some 1
 aV:isAgg P tV=false
 az:isAgg P 9=false
def eF(l:List (List UInt8)):List Value:=l.map strOf
theorem ff(l:List (List UInt8)):(eF l).length=l.length:=lM _
theorem Ky{l:List (List UInt8)}(a:j<l.length):(eF l).getD j undef=strOf (l.getD j []):=by grind[eF]
theorem Vv(l:List (List UInt8))(j:Nat)(x:List UInt8):(eF l).set j (strOf x)=eF (l.set j x):=by grind[List.map_set,eF]
def VB(g:ae)(k:Nat)(l:List (List UInt8)):Prop:=g.get k=some (.cells (eF l) 9 1 true)
def vS(k n c:Nat):Value:= .slice (some ⟨k,0,none⟩) n c
theorem CS{P:Program}{t:TypeId}(b:P.underlying t=some (.slice T))(a:aE P T=some 1){k n c i:Nat}(d:i<n):aA P t (.slice (some ⟨k,0,none⟩) n c) (.int .i64 (i:Int))=some (.pointer (some ⟨k,i,none⟩)):=by
 have:=Pn (P:=P) b a (k:=k) (off:=0) (n:=n) (c:=c) (ik:= .i64) (i:=(i:Int)) (by omega) (by omega)
 grind
section
variable {P:Program} {tM tV:TypeId} (ty:ZT P tM tV) {g g':ae} {k:Nat} {l:List (List UInt8)}
include ty
theorem VB.ix{c:Nat}(a:j<n):aA P tV (.slice (some ⟨k,0,none⟩) n c) (.int .i64 (j:Int))=some (.pointer (some ⟨k,j,none⟩)):=CS ty.V ty.zs a
theorem VB.ld(b:VB g k l){j:Nat}(a:j<l.length):aj P 9 g (.pointer (some ⟨k,j,none⟩))=some (strOf (l.getD j [])):=by
 rw[cq ty.s ty.az b (by grind[ff]),Ky a]
theorem VB.st(b:VB g k l){j:Nat}(a:j<l.length)(x:List UInt8):ah P 9 (.pointer (some ⟨k,j,none⟩)) (strOf x) g=some (undef,.set k (.cells (eF (l.set j x)) 9 1 true)):=by
 rw[iX ty.zs b (by grind[ff]) rfl rfl,Vv]
end
theorem VB.rd{g:ae}{k:Nat}{l:List (List UInt8)}(b:VB g k l)(c:Nat):Rd g 9 (.slice (some ⟨k,0,none⟩) l.length c) (eF l):=
 .inr ⟨k,0,eF l,c,true,by rw[ff],b,by grind⟩
structure sE(tV:TypeId)(g:ae)(kt:Nat)(ks cs:Nat->Nat)(R:List (List (List UInt8))):Prop where
 out:g.get kt=some (.cells ((List.range R.length).map λi=>vS (ks i) (R.getD i []).length (cs i)) tV 1 true)
 row:∀i,i<R.length->VB g (ks i) (R.getD i [])
 ne:∀i,i<R.length->ks i≠kt
 inj:∀i j,i<R.length->j<R.length->ks i=ks j->i=j
theorem BO{f:Nat->Value}(h:i<n)(d:Value):((List.range n).map f).getD i d=f i:=by grind
section
variable {P:Program} {tM tV:TypeId} {g g':ae} {kt:Nat} {ks cs:Nat->Nat} {R:List (List (List UInt8))}
theorem sE.ix(ty:ZT P tM tV){i n c:Nat}(a:i<n):aA P tM (.slice (some ⟨kt,0,none⟩) n c) (.int .i64 (i:Int))=some (.pointer (some ⟨kt,i,none⟩)):=CS ty.M ty.zV a
theorem sE.ld(ty:ZT P tM tV)(m:sE tV g kt ks cs R){i:Nat}(a:i<R.length):aj P tV g (.pointer (some ⟨kt,i,none⟩))=some (.slice (some ⟨ks i,0,none⟩) (R.getD i []).length (cs i)):=by
 rw[cq ty.V ty.aV m.out (by grind),BO a];rfl
theorem sE.kF{X:Nat->Prop}(m:sE tV g kt ks cs R)(s:zd X g g')(b:¬X kt)(c:∀i,i<R.length->¬X (ks i)):sE tV g' kt ks cs R:=
 ⟨s.ext _ _ b m.out,λi a=>s.ext _ _ (c i a) (m.row i a),m.ne,m.inj⟩
theorem sE.ok(m:sE tV g kt ks cs R)(o:Ok g g'):sE tV g' kt ks cs R:=m.kF (X:=λ_=>False) o.okS id λ_ _=>id
theorem sE.room(m:sE tV g kt ks cs R)(n:Nat):sE tV (room g n) kt ks cs R:=⟨m.out,m.row,m.ne,m.inj⟩
theorem sE.acS(m:sE tV g kt ks cs R){i:Nat}(h:i<R.length){l:List (List UInt8)}(k:l.length=(R.getD i []).length):sE tV (g.set (ks i) (.cells (eF l) 9 1 true)) kt ks cs (R.set i l):=by
 have f:(R.set i l).length=R.length:=length_set;have j:∀a,a<R.length->(R.set i l).getD a []=if a=i then l else R.getD a []:=λa d=>by grind
 refine⟨?_,λa d=>?_,λa d=>m.ne a (by omega),λa b d n=>m.inj a b (by omega) (by omega)⟩
 ·rw[ae.aw,if_neg (λe=>m.ne i h e.symm),m.out,f]
  grind
 ·rw[f]at d;unfold VB;rw[ae.aw,j a d];by_cases e:a=i
  ·grind
  ·rw[if_neg (λc=>e (m.inj a i d h c)),if_neg e];exact m.row a d
theorem sE.put(m:sE tV g kt ks cs R){i:Nat}(a:i<R.length)(j:Nat)(x:List UInt8):sE tV (g.set (ks i) (.cells (eF ((R.getD i []).set j x)) 9 1 true)) kt ks cs (R.set i ((R.getD i []).set j x)):=m.acS a length_set
theorem sE.lt(m:sE tV g kt ks cs R)(w:Wf g):kt<g.next/\∀i,i<R.length->ks i<g.next:=⟨w _ _ m.out,λi a=>w _ _ (m.row i a)⟩
end
def Li(tV:TypeId)(g:ae)(v:Value)(R:List (List (List UInt8))):Prop:=∃b:List Value,Rd g tV v b/\b.length=R.length/\∀i x,b[i]?=some x->∃a n c,x = .slice a n c/\Rd g 9 x (eF (R.getD i []))
theorem Li.ok{tV:TypeId}{g g':ae}{R:List (List (List UInt8))}(r:Li tV g v R)(o:Ok g g'):Li tV g' v R:=by
 obtain⟨b,h,j,d⟩:=r;refine⟨b,h.ok o,j,λi x f=>?_⟩;obtain⟨a,n,c,e,k⟩:=d i x f;exact⟨a,n,c,e,k.ok o⟩
theorem Li.len{tV:TypeId}{g:ae}{c:Nat}{R:List (List (List UInt8))}(r:Li tV g (.slice a n c) R):n=R.length:=by
 obtain⟨e,b,d,f⟩:=r;rw[b.len,d]
theorem Li.at_{P:Program}{tM tV:TypeId}(ty:ZT P tM tV){g:ae}{v:Value}{R:List (List (List UInt8))}(r:Li tV g v R){i:Nat}(j:i<R.length):
  ∃(p:Addr)(a:Option Addr)(n c:Nat),aA P tM v (.int .i64 (i:Int))=some (.pointer (some p))/\aj P tV g (.pointer (some p))=some (.slice a n c)/\Rd g 9 (.slice a n c) (eF (R.getD i [])):=by
 obtain⟨d,b,f,e⟩:=r;obtain⟨p,h,l⟩:=b.at_ ty.M ty.zV ty.V ty.aV (k:= .i64) (i:=(i:Int)) (by omega) (by omega)
 grind
theorem sE.rdM{tV:TypeId}{g:ae}{kt:Nat}{ks cs:Nat->Nat}{R:List (List (List UInt8))}(m:sE tV g kt ks cs R)(c:Nat):Li tV g (.slice (some ⟨kt,0,none⟩) R.length c) R:=by
 refine⟨(List.range R.length).map λi=>vS (ks i) (R.getD i []).length (cs i),.inr ⟨kt,0,_,c,true,by simp,m.out,by grind⟩,by simp,λi x a=>?_⟩;rw[List.getElem?_map]at a;obtain⟨j,h,e⟩:=map_eq_some_iff.1 a;have f:=List.getElem?_eq_some_iff.1 h;obtain⟨b,d⟩:=f;rw[List.length_range]at b;rw[List.getElem_range]at d;subst d;exact⟨_,_,_,e.symm,by rw[<-e];exact(m.row i b).rd _⟩
theorem Rd.cell{P:Program}{tM tV:TypeId}(ty:ZT P tM tV){g:ae}{v:Value}{l:List (List UInt8)}(r:Rd g 9 v (eF l)){j:Nat}(c:j<l.length):∃p:Addr,aA P tV v (.int .i64 (j:Int))=some (.pointer (some p))/\aj P 9 g (.pointer (some p))=some (strOf (l.getD j [])):=by
 obtain⟨p,a,b⟩:=r.at_ ty.V ty.zs ty.s ty.az (k:= .i64) (i:=(j:Int)) (by omega) (by rw[ff];omega)
 grind[Ky]
theorem A6.ac2{P:Program}{t:TypeId}{i:TypeInfo}(z:P.underlying t=some (.slice T))(r:eS P T=some i)(s:i.size=1)(y:dW P t=true){h0 g:ae}(n:Wf h0)(a:Ok h0 g){v:Value}{c:List Value}(o:A6 h0 g T v c){x m:Value}(e:fQ g 1 m=some ([x],1))(E:dO x=true)(q:(c.length+1)*i.bytes<=70368744177664)(l:c.length+1<=1099511627776):
  ∃u:dM,bI P t t v m g=some (.slice (some ⟨g.next,0,none⟩) (c.length+1) (dn+(c.length+1)),u)/\(u.app g).get g.next=some (.cells (c++[x]) T 1 true)/\Ok h0 (u.app g)/\(u.app g).next=g.next+1/\∀j B,g.get j=some B->eZ v≠some j->(u.app g).get j=some B:=by
 have d:∀j B,g.get j=some B->j<g.next:=λj B b=>a.wf _ _ b;unfold bI;rw[z];dsimp only;rw[r];dsimp only;rw[if_pos y,s,e];dsimp only;rw[if_pos ⟨by grind,by simp⟩];rcases o with⟨rfl,rfl⟩|⟨k,rfl,F,h⟩
 ·show ∃u:dM,(if 1=0 then some (Value.slice none 0 0,dM.no)else if 1*i.bytes<=70368744177664/\1<=1099511627776 then some (Value.slice (some ⟨g.next,0,none⟩) 1 (dn+1),dM.push (.cells [x] T 1 true))else none)=_/\_;rw[if_neg (by omega),if_pos (by grind)];refine⟨_,rfl,?_,a.push _,rfl,λj B b _=>?_⟩
  ·show(g.push _).get g.next=_;simp[ae.bt]
  ·show(g.push _).get j=_;rw[ae.bt,if_neg (λT=>by have:=d _ _ b;omega)];omega
 ·dsimp only;have A:=a.wf _ _ h;rw[if_neg (by omega),Nat.mul_one];have f:bH (dn+c.length)=c.length:=by unfold bH;rw[if_pos (by omega)];omega
  rw[f,if_neg (by omega)];unfold kY;rw[if_pos ⟨q,l⟩,h];dsimp only;rw[Nat.mul_one,if_pos ⟨rfl,rfl,by simp⟩,if_neg (by omega),if_pos ⟨rfl,by omega⟩];refine⟨_,rfl,?_,?_,rfl,λj B b p=>?_⟩
  ·show((g.del k).push _).get g.next=_
   simp_all[ae.bt]
  ·refine⟨?_,λj C b=>?_,Nat.le_trans a.nx (le_succ _)⟩
   ·refine ae.ow (λj C b=>?_) _;rw[ae.dR]at b
    simp_all
   ·have w:=a.ext _ _ b;have D:=a.wf _ _ w;show((g.del k).push _).get j=_;rw[ae.bt,if_neg (λT=>by have:j=g.next:=T;omega),ae.dR,if_neg (λT=>by have:=n _ _ b;omega)];omega
  ·show((g.del k).push _).get j=_;rw[ae.bt,if_neg (λT=>by have:=d _ _ b;have:j=g.next:=T;omega),ae.dR,if_neg (λT=>p (by rw[T];rfl))];omega
theorem Xp{P:Program}{tM tV:TypeId}(ty:ZT P tM tV){g:ae}{k n c p:Nat}{a:Option Addr}{l m:List (List UInt8)}(b:VB g k m)(h0:m.length=n)(q:0<n)(r:Rd g 9 (.slice a n c) (eF l)):copyV P tV (.slice (some ⟨k,0,none⟩) n p) (.slice a n c) g=some (.int .i64 (n:Int),.set k (.cells (eF l) 9 1 true)):=by
 have j:=r.len;rw[ff]at j;have f:fQ g 1 (.slice a n c)=some (eF l,n):=by
  rcases r with⟨d,h⟩|⟨o,e,cs,u,t,d,h,i⟩
  ·have:l.length=0:=by rw[<-ff,h];rfl
   omega
  ·injection d with d h4 h5
   subst d;show(match g.get o with|some (.cells cs ..)=>if((cs.drop e).take (n*1)).length=n*1 then some ((cs.drop e).take (n*1),n)else none|_=>none)=_;rw[h];dsimp only;rw[ff,<-j]at i;rw[Nat.mul_one,i,if_pos (by rw[ff];omega)]
 unfold copyV;rw[ty.V];dsimp only;rw[ty.zs];dsimp only;rw[f];dsimp only;rw[if_neg (show ¬(n=0\/n=0) by omega),Nat.min_self,Nat.mul_one,List.take_of_length_le (show(eF l).length<=n by rw[ff];omega)];unfold storeAt;rw[b];dsimp only;have s:(eF l).all dO=true:=by
  unfold eF;rw[List.all_map];exact all_eq_true.2 λ_ _=>rfl
 simp_all[eF]
end
theorem Dz{t:TypeId}(i:P.underlying t=some (.slice T))(e:aE P T=some n){g:ae}{k a b c z:Nat}{cs:List Value}(f:g.get k=some (.cells cs T n true))(h:z<=b)(d:b<=bH c):
  bG P t (.slice (some ⟨k,a,none⟩) b c) (some (.int .i64 (z:Int))) none none g=some (.slice (some ⟨k,a+z*n,none⟩) (b-z) (c-z)):=by simp_all[bG,eP]
end Go.Ab
end
section
namespace Go.Ab
open Go Go.RowKit Go.Proofs Go.Sort Go.Shelf
variable{n:Nat}{a:Option Addr}{v:Value}{W:World}{V:Array Value}{p:List Int}
section
variable {β:dH} {P:Program} {gl:Nat->Bool}
theorem Fm:∀{cs:List Value}{l:List Int},Ly cs=some l->cs=l.map zV
 |[],l,h=>by obtain rfl:=oI h;rfl
 | v::r,l,h=>by
  unfold Ly at h;split at h
  ·next a=>cases a
  ·next z e a=>
   injection a with a c
   subst a;subst c;obtain⟨d,b,rfl⟩:=map_eq_some_iff.1 h;rw[Fm b];rfl
  grind
theorem MD{c:Nat}(h:aD β (.slice a n c) v):∃d b,v = .slice d n b:=by
 cases h with
 |lU=>grind
 |slice=>grind
 |dead=>grind
theorem Pm{b s:Nat}{t:TypeId}{d:Nat×Nat}{cs:List Value}(g:W.heap[b]?=some (.cells V t d))(u:ga β cs s V)(i:S5 d V.size)(h:n+p.length<=cs.length)(l:(cs.drop n).take p.length=p.map zV):Holds (Value.int .i64) W b (s+n) p.toArray:=by
 intro j a;have a:j<p.length:=by simpa using a
 have f:(p.map zV)[j]?=some (zV p[j]):=by rw[List.getElem?_map,gE a];rfl
 rw[<-l,getElem?_take,if_pos a,getElem?_drop]at f;obtain⟨w,c,k⟩:=u _ _ f;rw[k.Xc rfl]at c;rw[show s+(n+j)=s+n+j by omega]at c;have e:p.toArray[j]! = p[j]:=getElem!_pos p.toArray j (by simpa using a);refine⟨by rw[nZ g,c,e];rfl,?_⟩;have v:s+n+j<V.size:=(Array.getElem?_eq_some_iff.1 c).1;unfold World.frozen?;rw[g];dsimp only;obtain⟨o,m⟩:=d;rw[Bool.and_eq_false_iff];by_cases r:o<=s+n+j
 ·right;have:¬s+n+j<m:=λq=>by
   have:=i (s+n+j) r q;omega
  simpa using this
 grind
set_option maxHeartbeats 1000000 in
theorem Vg{ρ:Ren}(L:SlLaysM.n5 P ρ){f5:Func}(U:P.funcs[ρ.f 5]?=some f5)(X:f5.body.isSome=true):oP P gl (ρ.f 5) Dt:=by
 intro x8 _ x5 h v h' g β w G p _ ha;refine⟨f5,U,.inl ⟨X,?_⟩⟩;unfold Dt at g;split at g
 ·next a n c=>
  obtain⟨v1,r1,e1,N,Y⟩:=ha.dz;have e3:=Y.fw;subst e3;have I:G = #[v1]:=by
   have:=congrArg List.toArray e1;simpa using this
  subst I;split at g
  ·next R=>
   subst R;simp only[Option.some.injEq,Prod.mk.injEq]at g;obtain⟨rfl,rfl⟩:=g;obtain⟨a',S,rfl⟩:=MD N;refine(AnyM.slices_Sort_int_none L a' S w).mono ?_;rintro e w' ⟨rfl,rfl⟩;exact⟨_,β,rfl,Step.refl p,.tuple rfl λi v q h=>by simp at h⟩
  ·next R=>
   split at g
   ·next b d=>
    split at g
    ·next cs t sz z=>
     split at g
     ·next C=>
      obtain⟨l,T,he⟩:=map_eq_some_iff.1 g;simp only[Prod.mk.injEq]at he;obtain⟨rfl,rfl⟩:=he;have Z:=Fm T;obtain⟨f,i',S,u,W,_,rfl,x6,y0,x7,D,x9⟩:=N.gO;have D:i'=f.s+d:=by
       rcases D with h|⟨h,_⟩
       ·exact h
       ·exact absurd h R
      subst D;obtain⟨W,ht,hz,s,fr,hw,x0,Q,K⟩:=p.blk _ _ _ z u;have A:((cs.drop d).take n).length=n:=by rw[length_take,List.length_drop];omega
      have x2:l.length=n:=by
       rw[Z,lM]at A;exact A
      subst x2;have H:=Pm (β:=β) hw Q (K rfl) C.2 Z;refine(AnyM.slices_Sort_int L f.b (f.s+d) S l w H (p.lt _ _ u).2 C.1).mono ?_;rintro e w' ⟨rfl,m,os,rfl⟩;have B:(mg l).length=l.length:=List.length_mergeSort l;have e0:(l.mergeSort λx y=>decide (x<=y))=mg l:=rfl;rw[e0];generalize mg l=o at*;have x4:d<=cs.length:=by omega
      have r:∀i v,cs[i]?=some v->∃q,s[f.s+i]?=some q/\aD β v q:=Q;have J:Step β h w β (h.set b (.cells (cs.take d++o.map zV++cs.drop (d+l.length)) t sz true)) (putRow (Value.int .i64) (Sort.ahead w m) f.b (f.s+d) o.toArray):=by
       refine Step.at_ p z u rfl ⟨by simp,rfl,⟨rfl,le_add_right _ _⟩,rfl,λb' V=>?_⟩ ⟨W,ht,hz,putCells (Value.int .i64) (f.s+d) o.toArray s,fr,?_,by simp[putCells,x0],λi v k=>?_,λ_=>by simpa[putCells]using K rfl⟩
       ·simp only[putRow,mapBlock,Array.getElem?_modify];rw[if_neg (Ne.symm V)];rfl
       ·simp only[putRow,mapBlock,Array.getElem?_modify,if_true,heap_ahead,hw,map_some,onCells]
       ·have x3:∀j,(putCells (Value.int .i64) (f.s+d) o.toArray s)[j]?=(s[j]?).map λx=>if f.s+d<=j/\j<f.s+d+l.length then Value.int .i64 (o.toArray[j-(f.s+d)]!)else x:=λj=>by
         simp only[putCells,Array.getElem?_mapIdx,List.size_toArray,B]
        rw[x3];have hf:(o.map zV).length=l.length:=by rw[lM,B]
        have x1:(cs.take d).length=d:=by rw[length_take];omega
        rw[append_assoc,List.getElem?_append,x1]at k;split at k
        ·next hi=>
         rw[getElem?_take,if_pos hi]at k;obtain⟨q,E,F⟩:=r i v k;rw[E];exact⟨q,by simp only[map_some];rw[if_neg (by omega)],F⟩
        ·next hi=>
         rw[List.getElem?_append,hf]at k;split at k
         ·next O=>
          have g0:i<cs.length:=by omega
          obtain⟨q,E,F⟩:=r i _ (gE g0);rw[E];simp only[map_some];rw[if_pos (by omega)];have M:i-d<o.length:=by rw[B];exact O
          rw[List.getElem?_map,gE M]at k;obtain rfl:=oI k;refine⟨_,rfl,?_⟩;rw[show f.s+i-(f.s+d)=i-d by omega];have e:o.toArray[i-d]! = o[i-d]:=getElem!_pos o.toArray (i-d) (by simpa using M);rw[e];exact .xK rfl
         ·next O=>
          rw[getElem?_drop,show d+l.length+(i-d-l.length)=i by omega]at k;obtain⟨q,E,F⟩:=r i v k;rw[E];exact⟨q,by simp only[map_some];rw[if_neg (by omega)],F⟩
      refine⟨_,β,rfl,J.trans (vM J.pC ⟨rfl,rfl,rfl,by rw[size_grow];exact le_add_right _ _,λj hj=>heap_grow_old _ os hj⟩ (Nat.le_refl _)),.tuple rfl λi v q h=>by simp at h⟩
     ·cases g
    ·cases g
   ·cases g
 grind
end
end Go.Ab
end
section
namespace Go.Ab
open Go Go.RowKit
variable{A:Type}{n:Nat}{v:Value}{T:TypeId}
section
variable {β:dH} {P:Program} {h:ae} {w:World}
theorem GY{e:Type}{c:Nat}:∀{a:List (List e)},(∀r∈a,r.length=c)->∀{i:Nat}{r:List e},a[i]?=some r->∀{j:Nat},j<c->a.flatten[i*c+j]?=r[j]?
 |[],_,i,r,b,_,_=>by grind
 |x::a,d,0,r,b,j,f=>by grind
 |x::a,d,i+1,r,b,j,f=>by
  have h:=d x (mem_cons_self ..);rw[List.getElem?_cons_succ]at b;have k:=GY (λr g=>d r (mem_cons_of_mem _ g)) b f
  grind
theorem CH{d:Type}{b:Nat}:∀{a:List (List d)},(∀r∈a,r.length=b)->a.flatten.length=a.length*b
 |[],_=>by simp
 |x::a,c=>by
  have e:=c x (mem_cons_self ..);rw[flatten_cons,length_append,CH λr f=>c r (mem_cons_of_mem _ f),e,length_cons,Nat.add_mul];omega
theorem S2{a:List (List A)}(b:∀r∈a,r.length=n){i:Nat}{r:List A}(c:a[i]?=some r):(a.flatten.drop (i*n)).take n=r:=by
 have d:=b r (List.mem_of_getElem? c);refine List.ext_getElem? λj=>?_
 grind[GY]
structure uU(β:dH)(h:ae)(w:World):Prop where
 pC:ko β h w
 ro:∀k B,h.get k=some B->B.wr=false
theorem ad1(n:Nat)(w:World):uU β0 ⟨n,.nil⟩ w:=⟨Ob n w,λk B h=>by grind[ae.get_nil]⟩
theorem uU.wf(i:uU β h w):Wf h:=i.pC.wf
theorem uU.below(i:uU β h w){b:dH}{e:ae}{a:World}(s:Step β h w b e a):Below w.heap.size w a:=
 ⟨s.os,s.tape.1,s.output,s.size,λk f=>s.kept k f λ⟨k,B,g,c,d,_⟩=>by rw[i.ro k B c]at d;grind⟩
abbrev zT(b n:Nat)(t:TypeId):Slot:=⟨b,0,n,t,0,false⟩
theorem uU.fresh(i:uU β h w):β h.next=none:=i.pC.mI (Nat.le_refl _)
theorem uU.le(i:uU β h w)(a:Slot):β.le (β.ext h.next a):=dH.CW a i.fresh
theorem uU.push(i:uU β h w){cs:List Value}{t:TypeId}{c:Array Value}{o:Nat×Nat}{b:Nat}(l:w.heap[b]?=some (.cells c t o))(q:ga β cs 0 c):
  uU (β.ext h.next (zT b c.size t)) (h.push (.cells cs t 0 false)) w:=by
 have j:=i.le (zT b c.size t);have m:b<w.heap.size:=(Array.getElem?_eq_some_iff.1 l).1;have n:∀k B,(h.push (.cells cs t 0 false)).get k=some B->B.wr=false:=λk B a=>by
  rw[ae.bt]at a;split at a
  ·obtain rfl:=oI a;rfl
  ·exact i.ro k B a
 refine⟨⟨λk f a=>?_,λk B f d g=>?_,λk s B u f r _ d _ _ _ p=>?_,ae.ow i.pC.wf _⟩,n⟩
 ·by_cases e:k=h.next
  ·subst e;rw[dH.cE]at a;obtain rfl:=oI a;exact⟨by simp,m⟩
  ·rw[dH.eN _ _ e]at a;have:=i.pC.lt k f a;exact⟨by simp;omega,this.2⟩
 ·rw[ae.bt]at d;split at d
  ·next e=>
   subst e;rw[dH.cE]at g;obtain rfl:=oI g;obtain rfl:=oI d;exact⟨rfl,rfl,⟨rfl,λ_=>rfl⟩,c,o,l,rfl,q.mono j,λp=>by cases p⟩
  ·next e=>
   rw[dH.eN _ _ e]at g;exact(i.pC.blk k B f d g).mono j
 grind
theorem IU(r:GK P){q:FuncId->Option uV}{gl:Nat->Bool}(u:rf P gl q){f:FuncId}{l:Func}{b:List Value}{Q:Value->ae->Prop}(p:FW ⟨P,gl,q⟩ f b h Q)(x:f<YB)(m:P.funcs[f]?=some l)(s:l.body.isSome=true)
  {args':Array Value} (i:uU β h w) (C:Gl gl β) (A:bp β b args'.toList):
  Calls P f args' w λe g=>∃v d c a,e = .returned d/\Q v c/\aD a v d/\Step β h w a c g/\Below w.heap.size w g:=by
 obtain⟨v,c,⟨n,B⟩,z⟩:=p;obtain⟨D,j,k⟩:=(r.aej u n).fn f b h v c x (B n (Nat.le_refl _)) β w args' i.pC C A;rw[m]at j;obtain rfl:=oI j;rcases k with⟨_,k⟩|⟨d,g,a,y,_,_⟩
 ·refine k.mono ?_;rintro e g ⟨d,a,rfl,o,t⟩;exact⟨v,d,c,a,rfl,z,t,o,i.below o⟩
 ·rw[iC r.names m s]at y
  grind
def AG(w:World)(v:Value)(f:Nat)(c:List (List Value)):Prop:=
 (∀r∈c,r.length=f)/\((v = .slice none 0 0/\c=[])\/(∃a,v = .slice (some a) 0 0/\c=[])\/
  ∃b e d cs t g,v = .slice (some ⟨b,e,none⟩) c.length d/\c.length<=d/\d<dn/\w.heap[b]?=some (.cells cs t g)/\e<=cs.size/\
   ∀(i:Nat)(r:List Value),c[i]?=some r->∀j,j<f->cs[e+(i*f+j)]?=r[j]?)
theorem uU.UT(i:uU β h w){f:Nat}{e:TypeId}{l d:List (List Value)}{b a g:Nat}{cs:Array Value}{t:TypeId}{J:Nat×Nat}(C:∀r∈d,r.length=f)(G:l.length=d.length)
  (x:∀(k:Nat) r E,l[k]?=some r->d[k]?=some E->bp β r E) (P:d.length<=g) (O:g<dn) (F:w.heap[b]?=some (.cells cs t J)) (Q:a<=cs.size)
  (R:∀(i:Nat)(r:List Value),d[i]?=some r->∀j,j<f->cs[a+(i*f+j)]?=r[j]?):
  ∃s y,uU s y w/\β.le s/\Ok h y/\aD s (.slice (some ⟨h.next,a,none⟩) l.length g) (.slice (some ⟨b,a,none⟩) d.length g)/\Ek y e f (.slice (some ⟨h.next,a,none⟩) l.length g) l:=by
 have p:∀r∈l,r.length=f:=λr A=>by
  obtain⟨k,o,rfl⟩:=List.getElem_of_mem A;have I:d[k]?=some d[k]:=gE (by omega);rw[(x k _ _ (gE o) I).1]
  grind
 have u:ga β (List.replicate a hH++l.flatten) 0 cs:=λk v m=>by
  rw[Nat.zero_add];rw[List.getElem?_append]at m;split at m
  ·next o=>
   rw[length_replicate]at o;rw[getElem?_replicate,if_pos o]at m;obtain rfl:=oI m;exact⟨_,Array.getElem?_eq_getElem (by omega),.hH _⟩
  ·next o=>
   rw[length_replicate]at o m;have q:=(List.getElem?_eq_some_iff.1 m).1;rw[CH p]at q;rcases eq_zero_or_pos f with z|z
   ·subst z;simp at q
   have H:k-a=(k-a)/f*f+(k-a)%f:=by rw[Nat.mul_comm];exact(Nat.div_add_mod _ _).symm
   have L:=mod_lt (k-a) z;have K:(k-a)/f<l.length:=div_lt_of_lt_mul (by rw[Nat.mul_comm];exact q);have D:l[(k-a)/f]?=some l[(k-a)/f]:=gE K;have B:d[(k-a)/f]?=some d[(k-a)/f]:=gE (by omega);rw[H,GY p D L]at m;have A:=x _ _ _ D B;have N:=C _ (List.mem_of_getElem? B);have M:d[(k-a)/f][(k-a)%f]?=some d[(k-a)/f][(k-a)%f]:=gE (by omega);refine⟨_,?_,A.2 _ _ _ m M⟩
   grind
 refine⟨_,_,i.push F u,i.le _,(Ok.refl i.wf).push _,?_,p,.inr ⟨h.next,a,_,t,0,g,false,rfl,ae.fA _ _,?_,λk r o=>?_⟩⟩
 ·have:=aD.slice (β:=β.ext h.next (zT b cs.size t)) (i:=a) (n:=l.length) (c:=g) (i':=a) (c':=g) (dH.cE _ _ _) rfl (λ_=>rfl) (λh=>by omega) (by unfold bH;split<;>omega) (.inl (by simp)) (.inl rfl)
  grind
 ·grind[CH]
 ·rw[List.drop_append,length_replicate,drop_eq_nil_of_le (by simp),List.nil_append,Nat.add_sub_cancel_left]
  grind[S2]
theorem uU.row(i:uU β h w){m:Nat}{e:TypeId}{o:Value}{rs f:List (List Value)}(r:AG w o m f)(c:rs.length=f.length)(l:∀(k:Nat) r p,rs[k]?=some r->f[k]?=some p->bp β r p):
  ∃d g v,uU d g w/\β.le d/\Ok h g/\aD d v o/\Ek g e m v rs:=by
 obtain⟨n,⟨rfl,rfl⟩|⟨a,rfl,rfl⟩|⟨b,A,z,cs,t,C,rfl,u,s,q,x,y⟩⟩:=r
 ·obtain rfl:rs=[]:=eq_nil_of_length_eq_zero c;exact⟨β,h,_,i,β.le_refl,Ok.refl i.wf,.lU,⟨λ_ j=>absurd j (by simp),.inl ⟨.inl rfl,rfl⟩⟩⟩
 ·obtain rfl:rs=[]:=eq_nil_of_length_eq_zero c;exact⟨β,h,vx,i,β.le_refl,Ok.refl i.wf,.dead a,⟨λ_ j=>absurd j (by simp),.inl ⟨.inr rfl,rfl⟩⟩⟩
 ·obtain⟨d,g,E,G,F,D,B⟩:=i.UT (e:=e) n c l u s q x y
  grind
theorem uU.UU(i:uU β h w){q:Nat}{e:TypeId}{p:Value}{rs f:List (List Value)}(r:AG w p q f)(c:rs.length=f.length)(o:∀(k:Nat) r x,rs[k]?=some r->f[k]?=some x->bp β r x)
  (C:∀a,p = .slice (some a) 0 0->a.spot=none/\∃cs t m,w.heap[a.block]?=some (.cells cs t m)):
  ∃d g v,uU d g w/\β.le d/\Ok h g/\aD d v p/\Ek g e q v rs/\v≠vx:=by
 obtain⟨s,⟨rfl,rfl⟩|⟨a,rfl,rfl⟩|⟨b,u,F,cs,t,m,rfl,A,y,j,B,E⟩⟩:=r
 ·obtain rfl:rs=[]:=eq_nil_of_length_eq_zero c;exact⟨β,h,_,i,β.le_refl,Ok.refl i.wf,.lU,⟨λ_ l=>absurd l (by simp),.inl ⟨.inl rfl,rfl⟩⟩,λe=>by cases e⟩
 ·obtain rfl:rs=[]:=eq_nil_of_length_eq_zero c;obtain⟨z,cs,t,m,j⟩:=C a rfl;obtain⟨b,u,n⟩:=a
  cases (show n=none from z)
  have D:=i.push (cs:=[]) j (λk v G=>by grind);refine⟨_,_,.slice (some ⟨h.next,0,none⟩) 0 0,D,i.le _,(Ok.refl i.wf).push _,?_,⟨λ_ l=>absurd l (by simp),.inr ⟨h.next,0,_,t,0,0,false,rfl,ae.fA _ _,by simp,λk r K=>by grind⟩⟩,λe=>by grind[vx]⟩;exact aD.slice (sl:=zT b cs.size t) (dH.cE _ _ _) rfl (λ_=>rfl) (λh=>by omega) (by omega) (.inr ⟨rfl,rfl⟩) (.inl rfl)
 ·obtain⟨d,g,J,M,L,I,H⟩:=i.UT (e:=e) s c o A y j B E
  grind[vx]
section
variable {H:Type} {enc:TypeId×Value->H} {held:Bool}
theorem SE{a:Addr}(b:w.cell? a=some v):a.spot=none/\∃cs t c,w.heap[a.block]?=some (.cells cs t c)/\cs[a.off]?=some v:=by
 unfold World.cell? at b;split at b
 all_goals simp_all
theorem pick{a:Type}{p:Nat->a->Prop}:∀n,(∀i,i<n->∃q,p i q)->∃l:List a,l.length=n/\∀i q,l[i]?=some q->p i q
 |0,_=>⟨[],rfl,λi q b=>by grind⟩
 |n+1,c=>by
  obtain⟨l,d,f⟩:=pick n λi b=>c i (by omega);obtain⟨q,e⟩:=c n (by omega);refine⟨l++[q],by simp[d],λi x b=>?_⟩
  grind
theorem tZ{e:TypeId}{d:DataW H}{n:Nat}:∀{l:List (DataW H)},d∈l->n∈d.weights P e->n∈DataW.weightsAll P e l
 |[],h,_=>by cases h
 |x::l,h,a=>by
  rw[DataW.weightsAll,mem_append];rcases mem_cons.1 h with rfl|h
  ·grind
  ·exact .inr (tZ h a)
theorem zO{t:TypeId}(ht:P.underlying t=some (.slice T))(l:P.cellsOf T=n)(D:0<n){p:List Value->Prop}
  (hp:∀x0 cs y,DataW.trod enc P w 0 (λ_=>true) held x0 T cs=some y->(y.1.weights P T).all (· <=reachBytes)=true->p cs) {F:Nat} {cv:List Value} {x:DataW H×List MemPlace}
  (h:DataW.trod enc P w 0 (λ_=>true) held F t cv=some x) (Y:(x.1.weights P t).all (· <=reachBytes)=true):
  ∃v d,cv=[v]/\AG w v n d/\(∀r∈d,p r)/\d.length*P.bytesOf T<=reachBytes:=by
 rcases DataW.trod_slice ht h with⟨rfl,rfl⟩|⟨a,e,f,c,x1,x0,_,rfl,rfl,hb,x3,X,x5,O,I,_⟩
 ·exact⟨_,[],rfl,⟨λ_ g=>absurd g (by simp),.inl ⟨rfl,rfl⟩⟩,λ_ g=>absurd g (by simp),by simp⟩
 obtain⟨x6,I⟩:=I rfl;simp only[DataW.weights,ht,all_cons,and_eq_true,decide_eq_true_eq,all_append,lM]at Y;obtain⟨x4,q,x2⟩:=Y;have L:f<dn:=by unfold maxLen at X;unfold dn;omega
 have N:∀i,i<e->∃r:List Value,(r.length=n/\p r)/\∀j,j<n->w.cell? (a.add (i*n+j))=r[j]?:=λi G=>by
  have U:=O i G;have W:c[i]?=some c[i]:=gE (by omega);rw[W,l,Option.bind_eq_some_iff]at U;obtain⟨r,A,h4⟩:=U;obtain⟨_,h5,J⟩:=World.cells?_some A;refine⟨r,⟨h5,hp x0 r _ h4 ?_⟩,λj K=>?_⟩
  ·rw[all_eq_true]at q⊢;exact λm g=>q m (tZ (List.mem_map.2 ⟨c[i],List.mem_of_getElem? W,rfl⟩) g)
  ·rw[<-J j K,Addr.add_add]
 obtain⟨d,Z,V⟩:=pick e N;have u:∀r∈d,r.length=n/\p r:=λr o=>by
  obtain⟨k,hk⟩:=List.mem_iff_getElem?.1 o;exact(V k r hk).1
 refine⟨_,d,rfl,⟨λr o=>(u r o).1,?_⟩,λr o=>(u r o).2,?_⟩
 ·rcases eq_zero_or_pos f with hz|hz
  ·obtain rfl:d=[]:=eq_nil_of_length_eq_zero (by omega);have:e=0:=by omega
   subst this;subst hz;exact .inr (.inl ⟨a,rfl,rfl⟩)
  ·have h0:∃v,w.cell? a=some v:=by
    have M:a.add (0*n)=a:=by rw[Nat.zero_mul];unfold Addr.add;split<;>simp_all
    have z:∀x,(w.cells? 0 (a.add (0*n)) n).bind (DataW.trod enc P w 0 (λ_=>true) held x0 T)=some x->∃v,w.cell? a=some v:=λx S=>by
     rw[Option.bind_eq_some_iff,M]at S;obtain⟨r,A,h4⟩:=S;obtain⟨_,h5,J⟩:=World.cells?_some A;have:=J 0 D;rw[show a.add 0=a by unfold Addr.add;split<;>simp_all,gE (by omega)]at this;exact⟨_,this⟩
    rcases eq_zero_or_pos e with B|B
    ·have:=I 0 (by omega);rw[B,l,gE (by omega)]at this;exact z _ this
    ·have:=O 0 B;rw[l,gE (by omega)]at this;exact z _ this
   obtain⟨v0,R⟩:=h0;obtain⟨hs,cs,tt,fr,s,C⟩:=SE R;obtain⟨b,Q,E⟩:=a
   cases (show E=none from hs)
   have ho:=(Array.getElem?_eq_some_iff.1 C).1;refine .inr (.inr ⟨b,Q,f,cs,tt,fr,by rw[Z],by omega,L,s,Nat.le_of_lt ho,λi r G j K=>?_⟩);have:=(V i r G).2 j K;rw[dy,nZ s]at this;exact this
 grind
end
end
end Go.Ab
end
section
namespace Go.Ab
open Go Go.RowKit Go.WideShapes Go.ChangeShapes
variable{F:Func}{W:World}{V:Array Value}{v:Value}
section
section
variable {H:Type} {enc:TypeId×Value->H} {P:Program}
theorem Tw{s:ChangeSpec}{f o g k:Bool}{e:World}{ds:List (DataW H)}{places:List MemPlace}
  (m:s.vars=[]) (y:DataW.Whole enc P F.params.toList s.vars f W V.toList ds [] places) (A:Below W.heap.size W e)
  (l:(s.fn H (ds++[])).args=ds) (z:(s.fn H (ds++[])).vars=[])
  (i:∀(b:Nat)(a:Nat->Bool)(E:Bool),DataW.TrodAll enc P e b a E F.resultTypes.toList (v.resultList F.resultTypes.size) (s.fn H (ds++[])).results [])
  (B:∀(j:Nat)(t:TypeId)(r:Value),F.resultTypes[j]?=some t->(v.resultList F.resultTypes.size)[j]?=some r->Value.okWide P e .any 0 t r)
  (q:∀a:Nat->Bool,(∀p∈places,a p.block=true)->DataW.TrodAll enc P e 0 a true F.params.toList V.toList ds places):s.post enc P F f o g k W V v e:=by
 have u:∀p∈places,p.block<W.heap.size:=λp c=>y.lt p c;have n:∀p∈places,(λb=>decide (b<W.heap.size)) p.block=true:=λp c=>decide_eq_true (u p c);have x:∀a:Nat->Bool,DataW.TrodVars enc P e a s.vars (s.fn H (ds++[])).vars []:=λa=>by
  rw[m,z];rfl
 have C:=World.keptBut_mono (may':=λp=>p∈places/\(p∈([]:List MemPlace)\/p∈places\/p∈([]:List MemPlace))) (λp c=>⟨c,.inr (.inl c)⟩) (A.frame (· ∈places));obtain⟨_,_,_,_,_,D,G⟩:=id y;have d:∀a:Nat->Bool,(∀p∈places,a p.block=true)->DataW.TrodAll enc P e 0 a true F.params.toList V.toList (s.fn H (ds++[])).args places:=λa h=>by rw[l];exact q a h
 refine⟨ds,[],places,[],places,[],y,i _ _ _,d _ n,x _,C,λ_=>⟨B,_,_,([]++places)++[],⟨[]++places,[],trodAll_append (d _ λ_ _=>rfl) (i _ _ _),x _,rfl,?_,?_⟩,?_⟩⟩
 ·intro b w c;have c:MemPlace.cell b w∈places:=by simpa using c
  rw[A.frozen (u _ c)];exact D b w c
 all_goals grind
end
end
end Go.Ab
end
section
namespace Go.Num
variable{n:Nat}{m:Nat}{k:Nat}{s:List UInt8}
def bR(c:UInt8):Bool:=decide (48<=c.toNat)&&decide (c.toNat<=57)
def jo(c:UInt8):Nat:=c.toNat-48
def val(l:List UInt8):Nat:=l.foldl (λn c=>10*n+jo c) 0
def eU(n:Nat):UInt8:=UInt8.ofNat (48+n)
theorem jP:val []=0:=rfl
theorem ie(l:List UInt8)(c:UInt8):val (l++[c])=10*val l+jo c:=by simp[val,List.foldl_append]
theorem jr(h:n<10):(eU n).toNat=48+n:=by grind[UInt8.toNat_ofNat',eU]
theorem B7(h:n<10):jo (eU n)=n:=by grind[jr,jo]
theorem s9(h:n<10):bR (eU n)=true:=by grind[jr,bR]
theorem lk{c:UInt8}:bR c=true↔48<=c.toNat/\c.toNat<=57:=by simp[bR]
theorem qU{c:UInt8}(h:bR c=true):jo c<10:=by grind[lk,jo]
theorem wP{c:UInt8}(h:bR c=true):eU (jo c)=c:=by grind[lk,UInt8.toNat_inj,jr,jo]
theorem ll{α:Type}{P:List α->Prop}(h0:P [])(h1:∀l a,P l->P (l++[a]))(l:List α):P l:=by
 have:∀n (l:List α),l.length=n->P l:=by
  intro n
  induction n with
  |zero=>intro l hl;rw[eq_nil_of_length_eq_zero hl];exact h0
  |succ n ih=>
   intro l hl;have hne:l≠[]:=by intro e;subst e;simp at hl
   rw[<-List.dropLast_concat_getLast hne];exact h1 _ _ (ih _ (by simp[hl]))
 grind
theorem jO(a b:List UInt8):val (a++b)=val a*10^b.length+val b:=by
 induction b using ll with
 |h0=>simp[jP]
 |h1 b c d=>grind[Nat.mul_assoc,Nat.mul_comm,val]
theorem wX{l:List UInt8}(h:l.all bR=true):val l<10^l.length:=by
 induction l using ll with
 |h0=>simp[jP]
 |h1 l c a=>
  simp only[all_append,all_cons,all_nil,Bool.and_true,and_eq_true]at h
  grind[qU,ie]
def ag(n:Nat):List UInt8:=if n<10 then[eU n]else ag (n/10)++[eU (n%10)]
termination_by n
decreasing_by omega
theorem dC(h:n<10):ag n=[eU n]:=by rw[ag,if_pos h]
theorem ib(h:10<=n):ag n=ag (n/10)++[eU (n%10)]:=by rw[ag,if_neg (by omega)]
theorem q9(a:0<n)(b:m<10):ag (10*n+m)=ag n++[eU m]:=by grind[ib]
theorem bu(n:Nat):val (ag n)=n:=by
 induction n using Nat.strongRecOn with
 |ind n a=>grind[dC,ie,B7,jP,ib]
theorem tf(h:ag n=ag m):n=m:=by grind[bu]
theorem q8(n:Nat):ag n≠[]:=by
 by_cases h:n<10
 ·grind[dC]
 ·rw[ib (by omega)];simp
theorem nD(n:Nat):0<(ag n).length:=length_pos_iff.2 (q8 n)
theorem cY(n:Nat):(ag n).all bR=true:=by
 induction n using Nat.strongRecOn with
 |ind n a=>grind[dC,s9,ib]
theorem oM(n:Nat):n<10^(ag n).length:=by grind[wX,cY,bu]
theorem Ch(h:10<=n):10^((ag n).length-1)<=n:=by
 induction n using Nat.strongRecOn with
 | ind n a=>
  rw[ib h,length_append,List.length_singleton];by_cases c:n/10<10
  ·grind[dC]
  ·have d:=a (n/10) (by omega) (by omega);have b:=nD (n/10);obtain⟨k,e⟩:∃k,(ag (n/10)).length=k+1:=⟨(ag (n/10)).length-1,by omega⟩
   grind
theorem dc(e:0<k):(ag n).length<=k↔n<10^k:=by
 constructor
 ·grind[lt_of_lt_of_le,oM,pow_le_pow_right]
 ·intro h;by_cases b:n<10
  ·grind[dC]
  ·have d:=Ch (n:=n) (by omega);rcases lt_or_ge k (ag n).length with a|a
   ·have c:10^k<=10^((ag n).length-1):=pow_le_pow_right (by omega) (by omega);omega
   omega
def Bw(l:List UInt8):Prop:=l≠[]/\l.all bR=true/\(1<l.length->l.head?≠some 48)
theorem OB(a:s.all bR=true)(h0:s≠[])(h:s.head?≠some 48):0<val s:=by
 induction s using ll with
 |h0=>grind
 | h1 s c d=>
  simp only[all_append,all_cons,all_nil,Bool.and_true,and_eq_true]at a;rw[ie];by_cases b:s=[]
  ·subst b;have f:c≠48:=by intro e;subst e;simp at h
   have i:=lk.1 a.2;have g:c.toNat≠48:=λe=>f (by apply UInt8.toNat_inj.1;rw[e];rfl)
   grind[jo]
  ·have:=d a.1 b (by grind);omega
theorem tg(h:Bw s):ag (val s)=s:=by
 induction s using ll with
 |h0=>exact absurd rfl h.1
 | h1 s c f=>
  obtain⟨_,b,g⟩:=h;simp only[all_append,all_cons,all_nil,Bool.and_true,and_eq_true]at b;rw[ie];by_cases d:s=[]
  ·grind[jP,dC,qU,wP]
  ·have e:s.head?≠some 48:=by
    have:=g (by grind[length_pos_iff])
    cases s with
    |nil=>grind
    |cons a s=>grind
   have i:=OB b.1 d e;rw[q9 i (qU b.2),f ⟨d,b.1,λ_=>e⟩,wP b.2]
theorem vn(n:Nat):Bw (ag n):=by
 refine⟨q8 n,cY n,?_⟩
 induction n using Nat.strongRecOn with
 | ind n d=>
  intro c;by_cases h:n<10
  ·grind[dC]
  ·rw[ib (by omega)];by_cases a:n/10<10
   ·rw[dC a];simp only[cons_append,List.head?_cons,ne_eq,Option.some.injEq];intro e;have:=congrArg UInt8.toNat e;rw[jr a]at this;have b:(48:UInt8).toNat=48:=rfl;omega
   grind[ag]
def valid(l:List UInt8):Bool:= !l.isEmpty&&decide (l.length<=1000) && !(decide (1<l.length)&&l.head? == some 48)&&l.all bR
theorem gh:valid s=true↔Bw s/\s.length<=1000:=by
 unfold valid Bw
 grind
theorem ee:valid (ag n)=true↔n<10^1000:=by grind[gh,dc,vn]
theorem cx(h:valid s=true):∃n,s=ag n/\n<10^1000/\val s=n:=by grind[gh,tg,ee]
def bv(b:Nat):List Nat->Nat
 |[]=>0
 |d::l=>d+b*bv b l
theorem gf(b:Nat):∀x y:List Nat,bv b (x++y)=bv b x+b^x.length*bv b y
 |[],y=>by simp[bv]
 |d::x,y=>by
  simp only[cons_append,bv,gf b x y,length_cons,pow_succ]
  grind
theorem qv(b:Nat)(x:List Nat)(d:Nat):bv b (x++[d])=bv b x+b^x.length*d:=by grind[gf,bv]
theorem fq{b:Nat}:∀{x:List Nat},(∀d∈x,d<b)->bv b x<b^x.length
 |[],_=>by simp[bv]
 | d::x,h=>by
  have a:=fq (b:=b) (x:=x) λe c=>h e (by simp[c]);have f:=h d (by simp);simp only[bv,length_cons,pow_succ];have:b*bv b x+b<=b*b^x.length:=by
   have:=mul_le_mul_left b (succ_le_of_lt a);rw[mul_succ]at this;exact this
  grind
def aW(b n:Nat):List Nat:=if h:1<b/\0<n then n%b::aW b (n/b)else[]
termination_by n
decreasing_by exact div_lt_self h.2 h.1
theorem fK(b:Nat):aW b 0=[]:=by simp_all[aW]
theorem mr{b:Nat}(a:1<b)(c:0<n):aW b n=n%b::aW b (n/b):=by rw[aW,dif_pos ⟨a,c⟩]
theorem cm{b:Nat}(a:1<b)(n:Nat):bv b (aW b n)=n:=by
 induction n using Nat.strongRecOn with
 |ind n c=>
  rcases eq_zero_or_pos n with rfl|hn
  all_goals grind[fK,mr,div_lt_self,mod_add_div,bv]
theorem dq{b:Nat}(a:1<b)(n:Nat):∀d∈aW b n,d<b:=by
 induction n using Nat.strongRecOn with
 |ind n c=>grind[eq_zero_or_pos,fK,mr,mod_lt,div_lt_self]
def K0(b:Nat)(l:List Nat):Prop:=(∀d∈l,d<b)/\l.getLast?≠some 0
theorem Le{b:Nat}(a:1<b)(n:Nat):K0 b (aW b n):=by
 refine⟨dq a n,?_⟩
 induction n using Nat.strongRecOn with
 | ind n d=>
  rcases eq_zero_or_pos n with rfl|hn
  ·grind[fK]
  ·rw[mr a hn];by_cases c:n/b=0
   ·rw[c,fK];have:n<b:=by
     rcases lt_or_ge n b with h|h
     ·exact h
     ·have:=Nat.div_pos h (by omega);omega
    simp[mod_eq_of_lt this];omega
   grind[div_lt_self,mr]
theorem Iw{b:Nat}(g:1<b):∀{l:List Nat},K0 b l->aW b (bv b l)=l
 |[],_=>fK b
 | d::l,h=>by
  have j:d<b:=h.1 d (by simp);have m:0<bv b (d::l):=by
   have i:∀l:List Nat,l≠[]->l.getLast?≠some 0->0<bv b l:=by
    intro l
    induction l with
    |nil=>grind
    |cons a l k=>
     intro _ n;by_cases f:l=[]
     ·grind[bv]
     ·have:0<bv b l:=k f (by grind);simp only[bv];have:=Nat.mul_pos (show 0<b by omega) this;omega
   exact i _ (by simp) h.2
  have f:K0 b l:=⟨λe o=>h.1 e (by grind),by
   intro e
   cases l with
   |nil=>grind
   |cons c l=>exact h.2 (by grind)⟩
  rw[mr g m];simp only[bv];rw[show(d+b*bv b l)%b=d by rw[Nat.add_mul_mod_self_left,mod_eq_of_lt j],show(d+b*bv b l)/b=bv b l by rw[Nat.add_mul_div_left _ _ (by omega),div_eq_of_lt j,Nat.zero_add],Iw g f]
def dQ(l:List Nat):List Nat:=(l.reverse.dropWhile (· == 0)).reverse
theorem Iy:dQ []=[]:=rfl
theorem iZ(l:List Nat):dQ (l++[0])=dQ l:=by simp[dQ]
theorem jN(l:List Nat){d:Nat}(h:d≠0):dQ (l++[d])=l++[d]:=by simp[dQ,h]
theorem kX{b:Nat}(c:1<b){l:List Nat}(h:∀d∈l,d<b):dQ l=aW b (bv b l):=by
 induction l using ll with
 |h0=>rw[Iy];exact(fK b).symm
 | h1 l d e=>
  by_cases a:d=0
  ·subst a
   grind[iZ,qv]
  ·rw[jN l a,Iw c];exact⟨h,by grind⟩
theorem ia{b:Nat}(a:1<b):aW b n=[]↔n=0:=by
 constructor
 ·intro h;have:=cm a n;rw[h]at this;exact this.symm
 simp_all[fK]
theorem lK{b:Nat}(a:1<b){n k:Nat}(h:n<b^k):(aW b n).length<=k:=by
 induction k generalizing n with
 |zero=>rw[Nat.pow_zero]at h;grind[fK]
 |succ k c=>grind[mr,div_lt_of_lt_mul]
theorem sH{b:Nat}(c:1<b){n:Nat}(d:0<n):b^((aW b n).length-1)<=n:=by
 induction n using Nat.strongRecOn with
 | ind n f=>
  rw[mr c d,length_cons,Nat.add_sub_cancel];by_cases e:n/b=0
  ·rw[e,fK];simp;omega
  ·have a:=f (n/b) (div_lt_self d c) (Nat.pos_of_ne_zero e);have i:0<(aW b (n/b)).length:=length_pos_iff.2 (by simp_all[ia]);obtain⟨k,g⟩:∃k,(aW b (n/b)).length=k+1:=⟨(aW b (n/b)).length-1,by omega⟩
   rw[g]at a⊢;rw[Nat.add_sub_cancel]at a;rw[pow_succ];have h:=mul_le_mul_right b a;have j:=Nat.div_mul_le_self n b;omega
variable{x:List Nat}{i:Nat}{j:Nat}{l:Nat}
theorem fZ(b:Nat)(x:List Nat)(i:Nat):bv b (x.drop i)=x.getD i 0+b*bv b (x.drop (i+1)):=by grind[drop_eq_getElem_cons,drop_eq_nil_of_le,bv]
theorem aZ{b:Nat}(c:0<b)(h:∀d∈x,d<b)(i:Nat):x.getD i 0<b:=by
 rw[gD]
 cases a:x[i]? with
 |none=>grind
 |some d=>exact h d (List.mem_of_getElem? a)
def bk(F:Nat->Nat->Nat->Nat×Nat)(x y:List Nat):Nat->Nat->Nat->List Nat
 |_,0,_=>[]
 |i,k+1,c=>(F (x.getD i 0) (y.getD i 0) c).1::bk F x y (i+1) k (F (x.getD i 0) (y.getD i 0) c).2
theorem jq{b:Nat}{F:Nat->Nat->Nat->Nat×Nat}(h:∀p q c,(F p q c).1<b)(x y:List Nat):∀k i c,∀d∈bk F x y i k c,d<b
 |0,_,_=>by simp[bk]
 |k+1,i,c=>by
  intro d a;rcases mem_cons.1 a with rfl|a
  ·grind
  ·exact jq h x y k _ _ d a
def aO(b:Nat)(p q c:Nat):Nat×Nat:=((p+q+c)%b,(p+q+c)/b)
theorem yU{b:Nat}(l:1<b){x y:List Nat}(e:∀d∈x,d<b)(g:∀d∈y,d<b):∀k i c,x.length<i+k->y.length<i+k->c<=1->0<k->
  bv b (bk (aO b) x y i k c)=bv b (x.drop i)+bv b (y.drop i)+c:=by
 intro k
 induction k with
 |zero=>omega
 | succ k o=>
  intro i c n p s _;have q:=aZ (by omega) e i;have j:=aZ (by omega) g i;rw[fZ b x i,fZ b y i];simp only[bk,bv];have m:=mod_add_div (x.getD i 0+y.getD i 0+c) b;have h:(aO b (x.getD i 0) (y.getD i 0) c).2<=1:=by
   show(x.getD i 0+y.getD i 0+c)/b<=1;have:(x.getD i 0+y.getD i 0+c)/b<2:=div_lt_of_lt_mul (by omega);omega
  rcases eq_zero_or_pos k with rfl|r
  ·rw[drop_eq_nil_of_le (show x.length<=i+1 by omega),drop_eq_nil_of_le (show y.length<=i+1 by omega)];have a:x.getD i 0=0:=by rw[gD,getElem?_eq_none (by omega)];rfl
   have f:y.getD i 0=0:=by rw[gD,getElem?_eq_none (by omega)];rfl
   simp only[bk,bv,aO,a,f,Nat.zero_add,Nat.mul_zero,Nat.add_zero];exact mod_eq_of_lt (by omega)
  grind[aO]
def cX(b m:Nat)(p a c:Nat):Nat×Nat:=((p*m+c)%b,(p*m+c)/b)
theorem K9{b:Nat}(l:1<b)(m:n<=b)(g:0<n){x y:List Nat}(e:∀d∈x,d<b):∀k i c,x.length<i+k->c<n->0<k->
  bv b (bk (cX b n) x y i k c)=bv b (x.drop i)*n+c:=by
 intro k
 induction k with
 |zero=>omega
 | succ k p=>
  intro i c o r _;have f:=aZ (by omega) e i;rw[fZ b x i];simp only[bk,bv];have h:=mod_add_div (x.getD i 0*n+c) b;have j:(cX b n (x.getD i 0) (y.getD i 0) c).2<n:=by
   show(x.getD i 0*n+c)/b<n;refine div_lt_of_lt_mul ?_;have:x.getD i 0*n+n<=b*n:=by
    have:=mul_le_mul_right n (succ_le_of_lt f);rw[succ_mul]at this;exact this
   omega
  rcases eq_zero_or_pos k with rfl|q
  ·rw[drop_eq_nil_of_le (show x.length<=i+1 by omega)];have a:x.getD i 0=0:=by rw[gD,getElem?_eq_none (by omega)];rfl
   simp only[bk,bv,cX,a,Nat.zero_mul,Nat.zero_add,Nat.mul_zero,Nat.add_zero];exact mod_eq_of_lt (by omega)
  grind[cX]
def bT(b:Nat)(p q c:Nat):Nat×Nat:=((p+b-q-c)%b,1-(p+b-q-c)/b)
theorem nX{b p q c:Nat}(a:1<b)(f:p<b)(d:q<b)(g:c<=1):p+b*(bT b p q c).2=(bT b p q c).1+q+c/\(bT b p q c).2<=1:=by
 unfold bT;dsimp only;rcases lt_or_ge (p+b-q-c) b with h|h
 ·grind[div_eq_of_lt,mod_eq_of_lt]
 ·have e:(p+b-q-c)/b=1:=by
   refine Nat.le_antisymm ?_ ((Nat.le_div_iff_mul_le (by omega)).2 (by omega));have:(p+b-q-c)/b<2:=div_lt_of_lt_mul (by omega);omega
  grind[mod_add_div]
theorem Ca{b:Nat}(e:1<b){x y:List Nat}(j:∀d∈x,d<b)(n:∀d∈y,d<b):∀k i c,x.length<=i+k->y.length<=i+k->c<=1->bv b (y.drop i)+c<=bv b (x.drop i)->
  bv b (bk (bT b) x y i k c)+bv b (y.drop i)+c=bv b (x.drop i):=by
 intro k
 induction k with
 |zero=>grind[drop_eq_nil_of_le,bv,bk]
 | succ k r=>
  intro i c q s m h;have l:=aZ (by omega) j i;have a:=aZ (by omega) n i;obtain⟨u,t⟩:=nX e l a m;rw[fZ b x i,fZ b y i]at h⊢;simp only[bk,bv];have o:(bT b (x.getD i 0) (y.getD i 0) c).1<b:=mod_lt _ (by omega);have p:bv b (y.drop (i+1))+(bT b (x.getD i 0) (y.getD i 0) c).2<=bv b (x.drop (i+1)):=by
   rcases lt_or_ge (bv b (x.drop (i+1))) (bv b (y.drop (i+1))+(bT b (x.getD i 0) (y.getD i 0) c).2)with g|g
   ·have f:=mul_le_mul_left b (succ_le_of_lt g);rw[mul_succ,Nat.mul_add]at f;omega
   ·exact g
  grind
theorem Ix{q a U V b c:Nat}(t:U=(a*n+l)*n^m+b)(p:b<n^m)(d:V=(k*n+i)*n^m+c)(o:q*k+j=a)(h:j*n+l<q*i):U<q*V:=by
 have f:a*n+l+1<=q*(k*n+i):=by
  have e:q*(k*n+i)=q*k*n+q*i:=by rw[Nat.mul_add,Nat.mul_assoc]
  have s:a*n=q*k*n+j*n:=by rw[<-o,Nat.add_mul]
  omega
 have g:=mul_le_mul_right (n^m) f;rw[Nat.add_mul,Nat.one_mul]at g;have r:q*V=q*(k*n+i)*n^m+q*c:=by rw[d,Nat.mul_add,Nat.mul_assoc]
 omega
theorem GH{q a U V f b:Nat}(y:U=(a*n+l)*n^m+f)(g:V=(k*n+i)*n^m+b)(c:b<n^m)(r:q*k+j=a)(p:q<n)(d:0<k)(h:q*i<=j*n+l):q*V<U+V:=by
 have o:q*(k*n+i)<=a*n+l:=by
  have e:q*(k*n+i)=q*k*n+q*i:=by rw[Nat.mul_add,Nat.mul_assoc]
  have v:a*n=q*k*n+j*n:=by rw[<-r,Nat.add_mul]
  omega
 have t:=mul_le_mul_right (n^m) o;have s:q*V=q*(k*n+i)*n^m+q*b:=by rw[g,Nat.mul_add,Nat.mul_assoc]
 have u:q*b<=q*n^m:=mul_le_mul_left q (Nat.le_of_lt c);have x:q*n^m+n^m<=n*n^m:=by
  have:=mul_le_mul_right (n^m) (succ_le_of_lt p);rw[succ_mul]at this;exact this
 have w:n*n^m<=k*n*n^m:=by
  have:=mul_le_mul_right (n*n^m) (succ_le_of_lt d);rw[Nat.succ_eq_add_one,Nat.zero_add,Nat.one_mul,<-Nat.mul_assoc]at this;exact this
 grind
def ka(B q u v b a:Nat):Nat×Nat×Nat:=((u+B-(q*v+a)%B-b)%B,1-(u+B-(q*v+a)%B-b)/B,(q*v+a)/B)
theorem Lc{B q u v borrow carry:Nat}(d:1<B)(e:u<B)(a:borrow<=1):
  u+B*((ka B q u v borrow carry).2.1+(ka B q u v borrow carry).2.2)=(ka B q u v borrow carry).1+q*v+(borrow+carry)/\(ka B q u v borrow carry).2.1<=1/\(ka B q u v borrow carry).1<B:=by
 have f:=mod_lt (q*v+carry) (show 0<B by omega);have g:=mod_add_div (q*v+carry) B;have h:=nX (b:=B) (p:=u) (q:=(q*v+carry)%B) (c:=borrow) d e f a;unfold bT at h;dsimp only at h;unfold ka;dsimp only;refine⟨?_,h.2,mod_lt _ (by omega)⟩
 grind
variable{y:List Nat}
def eG(m n:Nat):Int:=if m<n then -1 else if m=n then 0 else 1
theorem lj(h:n<m):eG n m = -1:=if_pos h
theorem lh(h:m<n):eG n m=1:=by unfold eG;omega
theorem qw(m:Nat):eG m m=0:=by simp_all[eG]
theorem vQ:eG n m<0↔n<m:=by grind[eG]
theorem EX:eG n m>=0↔m<=n:=by grind[eG]
theorem lO(h:(ag n).length<(ag m).length):n<m:=by grind[lt_or_ge,dc,oM]
theorem oO{a b:List UInt8}(y:b.all bR=true)(f:a.all bR=true)(k:a.length=b.length){i:Nat}{c d:UInt8}(n:a.take i=b.take i)(w:a[i]?=some c)(u:b[i]?=some d)(o:c<d):val a<val b:=by
 obtain⟨e,rfl⟩:=List.getElem?_eq_some_iff.1 w;obtain⟨l,rfl⟩:=List.getElem?_eq_some_iff.1 u;have z:a=a.take i++(a[i]::a.drop (i+1)):=by rw[<-drop_eq_getElem_cons e,take_append_drop]
 have B:b=a.take i++(b[i]::b.drop (i+1)):=by rw[n,<-drop_eq_getElem_cons l,take_append_drop]
 have v:val a=val (a.take i)*10^(a.drop i).length+val (a.drop i):=by rw[<-jO,take_append_drop]
 have r:val b=val (a.take i)*10^(b.drop i).length+val (b.drop i):=by rw[n,<-jO,take_append_drop]
 have q:val (a.drop i)=jo a[i]*10^(a.drop (i+1)).length+val (a.drop (i+1)):=by
  rw[drop_eq_getElem_cons e,<-List.singleton_append,jO];simp[val]
 have s:val (b.drop i)=jo b[i]*10^(b.drop (i+1)).length+val (b.drop (i+1)):=by
  rw[drop_eq_getElem_cons l,<-List.singleton_append,jO];simp[val]
 have j:(a.drop (i+1)).all bR=true:=by
  rw[all_eq_true]at f⊢;exact λx t=>f x (List.mem_of_mem_drop t)
 have h:=wX j;have g:jo a[i]+1<=jo b[i]:=by
  have C:=lk.1 (all_eq_true.1 f _ (List.getElem_mem e));have A:=UInt8.lt_iff_toNat_lt.1 o;unfold jo;omega
 have p:(a.drop i).length=(b.drop i).length:=by simp[k]
 have m:(a.drop (i+1)).length=(b.drop (i+1)).length:=by simp[k]
 rw[v,r,q,s,p,<-m];rw[m]at h⊢;have D:=mul_le_mul_right (10^(b.drop (i+1)).length) g
 grind
def fs(l:List UInt8):List Nat:=l.reverse.map jo
theorem kV(l:List UInt8):(fs l).length=l.length:=by simp[fs]
theorem ml(h:s.all bR=true):∀d∈fs s,d<10:=by simp_all[qU,fs]
theorem fY(l:List UInt8):bv 10 (fs l)=val l:=by
 induction l using ll with
 |h0=>rfl
 |h1 l c a=>grind[ie,fs,bv]
def th(l:List Nat):List UInt8:=l.reverse.map eU
theorem E7(l:List Nat):(th l).length=l.length:=by simp[th]
theorem OC(h:∀d∈x,d<10):val (th x)=bv 10 x:=by
 induction x with
 |nil=>rfl
 |cons d x a=>grind[ie,B7,th,bv]
theorem Oy(h:∀d∈x,d<10):(th x).all bR=true:=by simp_all[s9,th]
theorem Oz(h:∀d∈x,d<10)(f:x≠[])(g:1<x.length->x.getLast?≠some 0):th x=ag (bv 10 x):=by
 rw[<-OC h];refine(tg ⟨λe=>f ?_,Oy h,λa=>?_⟩).symm
 ·have:=congrArg List.length e
  grind[E7]
 ·rw[E7]at a;have b:=g a;rw[th,List.head?_map,List.head?_reverse]
  cases c:x.getLast? with
  |none=>simp
  |some d=>
   rw[c]at b;have i:=h d (List.mem_of_getLast? c);simp only[map_some,ne_eq,Option.some.injEq]at b⊢;intro e;have:=congrArg UInt8.toNat e
   grind[jr]
theorem B2{l:List Nat}(h:∀i,n<=i->l.getD i 0=0):bv 10 (l.take n)=bv 10 l:=by
 induction n generalizing l with
 | zero=>
  have:∀l:List Nat,(∀i,0<=i->l.getD i 0=0)->bv 10 l=0:=by
   intro l
   induction l with
   |nil=>intro _;rfl
   |cons a l b=>
    intro h;have c:=h 0 (by omega);rw[bv,b (λi _=>by have:=h (i+1) (by omega);simpa using this)];simpa using c
  grind
 | succ n b=>
  cases l with
  |nil=>rfl
  |cons a l=>
   simp only[List.take_succ_cons,bv];rw[b (λi d=>by have:=h (i+1) (by omega);grind)]
def fi(p q c:Nat):Nat×Nat:=if p<q+c then(p+10-q-c,1)else(p-q-c,0)
theorem K5{p q c:Nat}(b:p<10)(a:q<10)(d:c<=1):fi p q c=bT 10 p q c:=by grind[fi,bT]
theorem qV{x y:List Nat}(a:∀d∈x,d<10)(b:∀d∈y,d<10):∀k i c,c<=1->bk fi x y i k c=bk (bT 10) x y i k c
 |0,_,_,_=>rfl
 |k+1,i,c,e=>by
  have f:=K5 (aZ (by omega) a i) (aZ (by omega) b i) e;simp only[bk];rw[f,qV a b k (i+1) _ (nX (by omega) (aZ (by omega) a i) (aZ (by omega) b i) e).2]
theorem EY(a:∀d∈x,d<10)(c:∀d∈y,d<10)(e:y.length<=x.length)(h:bv 10 y<=bv 10 x):bv 10 (bk fi x y 0 x.length 0)=bv 10 x-bv 10 y:=by
 rw[qV a c _ _ _ (by omega)];have:=Ca (b:=10) (by omega) a c x.length 0 0 (by omega) (by omega) (by omega) (by simpa using h)
 grind
theorem eV(F:Nat->Nat->Nat->Nat×Nat)(x y:List Nat):∀k i c,(bk F x y i k c).length=k
 |0,_,_=>rfl
 |k+1,i,c=>by simp[bk,eV F x y k]
theorem EZ(a:∀d∈x,d<10)(e:∀d∈y,d<10)(k i c:Nat)(b:c<=1):∀d∈bk fi x y i k c,d<10:=by
 rw[qV a e _ _ _ b];exact jq (λp q c=>mod_lt _ (by omega)) x y k i c
theorem nY:ag 0=[48]:=by rw[dC (by omega)];rfl
theorem AE:ag 1=[49]:=by rw[dC (by omega)];rfl
theorem bM:ag n=[48]↔n=0:=by grind[nY,tf]
theorem ei:ag n=[49]↔n=1:=by grind[AE,tf]
theorem GG{r:Nat}{c:UInt8}(a:bR c=true):(if ag r=[48]then[c]else ag r++[c])=ag (10*r+jo c):=by
 have b:=qU a;by_cases h:r=0
 ·subst h;rw[if_pos nY,Nat.mul_zero,Nat.zero_add,dC b,wP a]
 ·rw[if_neg (λe=>h (bM.1 e)),q9 (by omega) b,wP a]
theorem sJ{c:UInt8}(h:s[i]?=some c):val (s.take (i+1))=10*val (s.take i)+jo c:=by grind[List.take_succ_eq_append_getElem,ie]
theorem Ij{V d:Nat}(b:0<n)(g:k*n<=10*(V%n)+d)(c:10*(V%n)+d<(k+1)*n):(10*V+d)/n=10*(V/n)+k/\(10*V+d)%n=10*(V%n)+d-k*n:=by
 have e:=mod_add_div V n;have f:10*V+d=n*(10*(V/n)+k)+(10*(V%n)+d-k*n):=by
  have h:n*(10*(V/n)+k)=10*(n*(V/n))+k*n:=by rw[Nat.mul_add,Nat.mul_left_comm,Nat.mul_comm n k]
  omega
 have a:10*(V%n)+d-k*n<n:=by rw[Nat.add_mul,Nat.one_mul]at c;omega
 rw[f];constructor
 ·rw[Nat.mul_add_div b,div_eq_of_lt a];rfl
 ·rw[Nat.mul_add_mod,mod_eq_of_lt a]
theorem Ii(a:0<m)(c:i<10)(b:k*m<=10*(n%m)+i):k<10:=by
 have:=mod_lt n a;rcases lt_or_ge k 10 with h|h
 ·exact h
 ·have:=mul_le_mul_right m h;omega
theorem IA(h:∀c∈s,c=48):val s=0:=by
 induction s using ll with
 |h0=>rfl
 |h1 s c a=>
  rw[ie,a (λx b=>h x (by grind)),h c (by simp)];rfl
theorem Iv(m:s.all bR=true)(l:k<s.length)(d:∀i,i<k->s[i]?=some 48)(j:k+1<s.length->s[k]?≠some 48):s.drop k=ag (val s):=by
 have b:val s=val (s.drop k):=by
  have:=jO (s.take k) (s.drop k);rw[take_append_drop]at this;rw[this,IA (λc f=>by
   obtain⟨i,a⟩:=List.getElem?_of_mem f;rw[getElem?_take]at a;split at a
   ·next h=>rw[d i h]at a;exact(oI a).symm
   ·cases a),Nat.zero_mul,Nat.zero_add]
 rw[b];refine(tg ⟨λe=>?_,?_,λg=>?_⟩).symm
 ·have:=congrArg List.length e;simp at this;omega
 all_goals grind[List.head?_drop]
theorem K3(m n:Nat):Nat.gcd m n=Nat.gcd n (m%n):=by grind[Nat.gcd_comm,Nat.gcd_rec]
def bU(B q:Nat)(u v:List Nat):Nat->Nat->Nat->Nat->List Nat×Nat×Nat
 |_,0,b,c=>([],b,c)
 |i,k+1,b,c=>
  let s:=ka B q (u.getD i 0) (v.getD i 0) b c
  let r:=bU B q u v (i+1) k s.2.1 s.2.2
  (s.1::r.1,r.2)
theorem qZ(B q:Nat)(u v:List Nat):∀k i b c,(bU B q u v i k b c).1.length=k
 |0,_,_,_=>rfl
 |k+1,i,b,c=>by simp[bU,qZ B q u v k]
theorem uj{B q:Nat}(e:1<B)(u v:List Nat):∀k i b c,∀d∈(bU B q u v i k b c).1,d<B
 |0,_,_,_=>by simp[bU]
 |k+1,i,b,c=>by
  intro d a;simp only[bU]at a;rcases mem_cons.1 a with rfl|a
  ·exact mod_lt _ (by omega)
  ·exact uj e u v k _ _ _ d a
theorem sX(b:Nat)(x:List Nat)(i k:Nat):bv b ((x.drop i).take (k+1))=x.getD i 0+b*bv b ((x.drop (i+1)).take k):=by grind[drop_eq_getElem_cons,drop_eq_nil_of_le,bv]
theorem yY{B q:Nat}(e:1<B){u v:List Nat}(f:∀d∈u,d<B):∀k i b c,b<=1->
  bv B ((u.drop i).take k)+B^k*((bU B q u v i k b c).2.1+(bU B q u v i k b c).2.2)=bv B (bU B q u v i k b c).1+q*bv B ((v.drop i).take k)+(b+c)/\(bU B q u v i k b c).2.1<=1
 |0,i,b,c,a=>by grind[bU,bv]
 |k+1,i,b,c,a=>by
  obtain⟨m,g,j⟩:=Lc (B:=B) (q:=q) (u:=u.getD i 0) (v:=v.getD i 0) (borrow:=b) (carry:=c) e (aZ (by omega) f i) a;obtain⟨l,h⟩:=yY e (q:=q) (v:=v) f k (i+1) _ (ka B q (u.getD i 0) (v.getD i 0) b c).2.2 g;rw[sX,sX];simp only[bU,bv]
  grind
theorem A4(h:x.length=m):bv n (x.take m)=bv n x:=by grind
theorem Ig{q:Nat}(f:1<n){u v:List Nat}{a:Nat}(g:∀d∈u,d<n)(c:u.length=a+1)(j:v.length=a):
  (bU n q u v 0 (a+1) 0 0).2.2=0->((bU n q u v 0 (a+1) 0 0).2.1=0->bv n u=bv n (bU n q u v 0 (a+1) 0 0).1+q*bv n v)/\
  ((bU n q u v 0 (a+1) 0 0).2.1≠0->bv n u+n^(a+1)=bv n (bU n q u v 0 (a+1) 0 0).1+q*bv n v/\bv n u<q*bv n v):=by
 intro i;obtain⟨e,k⟩:=yY f (q:=q) (v:=v) g (a+1) 0 0 0 (by omega);rw[drop_zero,drop_zero,A4 c,List.take_of_length_le (by omega:v.length<=a+1),i]at e;refine⟨λh=>?_,λh=>?_⟩
 ·grind
 ·have b:(bU n q u v 0 (a+1) 0 0).2.1=1:=by omega
  rw[b,Nat.mul_one]at e
  grind[fq,uj,qZ]
theorem wS{B q:Nat}(e:1<B){u v:List Nat}(g:q<B)(a:∀d∈v,d<B):∀k i b c,c<B->v.length<=i+k->0<k->v.length<i+k->(bU B q u v i k b c).2.2=0
 |0,_,_,_,_,_,h,_=>by omega
 |1,i,b,c,j,_,_,f=>by
  simp only[bU,ka];have:v.getD i 0=0:=by rw[gD,getElem?_eq_none (by omega)];rfl
  simp_all
 | k+2,i,b,c,j,_,_,f=>by
  have m:=aZ (by omega) a i;simp only[bU];have:=wS e (u:=u) g a (k+1) (i+1) (ka B q (u.getD i 0) (v.getD i 0) b c).2.1 (ka B q (u.getD i 0) (v.getD i 0) b c).2.2 (by
   show(q*v.getD i 0+c)/B<B;refine div_lt_of_lt_mul ?_;have l:q*v.getD i 0<=(B-1)*(B-1):=mul_le_mul (by omega) (by omega);have n:(B-1)*(B-1)+(B-1)=(B-1)*B:=by rw[<-mul_succ];congr 1;omega
   have o:(B-1)*B+B=B*B:=by rw[<-succ_mul];congr 1;omega
   omega) (by omega) (by omega) (by omega)
  grind[bU]
theorem K2(s:1<n){u v:List Nat}{a Q V U:Nat}(m:∀d∈u,d<n)(l:∀d∈v,d<n)(r:u.length=a+1)(o:v.length=a)(w:U+n^(a+1)=bv n u+(Q+1)*V)(B:U<(Q+1)*V)(t:(Q+1)*V<U+V)(E:V=bv n v):
  bv n ((bk (aO n) u v 0 (a+1) 0))+Q*V=U:=by
 have e:=yU s (x:=u) (y:=v) m l (a+2) 0 0 (by omega) (by omega) (by omega) (by omega);simp only[drop_zero,Nat.add_zero]at e;have split:∀k i c,bk (aO n) u v i (k+1) c=bk (aO n) u v i k c++(bk (aO n) u v i (k+1) c).drop k:=by
  intro k
  induction k with
  |zero=>intro i c;simp[bk]
  |succ k A=>
   intro i c;have:=A (i+1) (aO n (u.getD i 0) (v.getD i 0) c).2;show _::bk (aO n) u v (i+1) (k+1) _=(_::bk (aO n) u v (i+1) k _)++(_::bk (aO n) u v (i+1) (k+1) _).drop (k+1);rw[cons_append,List.drop_succ_cons];exact congrArg _ this
 rw[split (a+1) 0 0,gf,eV]at e;have j:=fq (jq (b:=n) (F:=aO n) (λp q c=>mod_lt _ (by omega)) u v (a+1) 0 0);rw[eV]at j;rw[Nat.add_mul,Nat.one_mul]at w B t;have g:=fq m;rw[r]at g;have h:=fq l;rw[o]at h;have C:n^a<=n^(a+1):=pow_le_pow_right (by omega) (by omega);have D:bv n ((bk (aO n) u v 0 (a+1+1) 0).drop (a+1))=1:=by
  generalize bv n ((bk (aO n) u v 0 (a+1+1) 0).drop (a+1))=z at e;rcases Nat.lt_trichotomy z 1 with f|f|f
  ·have:z=0:=by omega
   subst this;rw[Nat.mul_zero]at e;omega
  ·exact f
  ·have:=mul_le_mul_left (n^(a+1)) f;rw[mul_succ,Nat.mul_one]at this;omega
 grind
theorem B1{B:Nat}:∀(l:List Nat)(i d:Nat),i<l.length->bv B (l.set i d)+B^i*l.getD i 0=bv B l+B^i*d
 |[],i,d,h=>by grind
 |a::l,0,d,_=>by grind[bv]
 |a::l,i+1,d,h=>by
  have b:=congrArg (B*·) (B1 (B:=B) l i d (by simpa using h))
  grind[bv]
theorem Ir(h:∀d∈y,d<n){i d:Nat}(b:d<n):∀x∈y.set i d,x<n:=λx a=>by grind
theorem pE(_:1<n):∀{l:List Nat},bv n l<n^m->bv n (l.drop m)=0
 | l,h=>by
  rcases lt_or_ge m l.length with a|a
  ·have e:=gf n (l.take m) (l.drop m);rw[take_append_drop,length_take,min_eq_left (by omega)]at e;rcases eq_zero_or_pos (bv n (l.drop m))with b|b
   ·omega
   ·have:=mul_le_mul_left (n^m) b;omega
  ·rw[drop_eq_nil_of_le a];rfl
theorem vP(B:Nat)(l:List Nat)(n:Nat):bv B l=bv B (l.take n)+B^(min n l.length)*bv B (l.drop n):=by grind[gf,take_append_drop]
structure iF(B n V XK:Nat)(u q:List Nat)(j:Nat):Prop where
 ul:∀d∈u,d<B
 ql:∀d∈q,d<B
 len:u.length=q.length+n
 jle:j<=q.length
 lo:bv B (u.drop j)<V
 eq:XK=bv B u+V*bv B q
 qz:∀i,i<j->q.getD i 0=0
theorem iF.H2{q:List Nat}(b:1<n)(a:k<=n^m)(h:iF n m k i x q (j+1)):
  bv n ((x.drop j).take (m+1))=bv n (x.drop j)/\bv n ((x.drop j).take (m+1))<n*k/\((x.drop j).take (m+1)).length=m+1:=by
 have e:=h.len;have o:=h.jle;have f:bv n (x.drop j)=x.getD j 0+n*bv n (x.drop (j+1)):=fZ n x j;have g:=aZ (by omega) h.ul j;have c:=h.lo;have d:bv n (x.drop j)<n*k:=by
  have:=mul_le_mul_left n (succ_le_of_lt c);rw[mul_succ]at this;omega
 have p:bv n ((x.drop j).drop (m+1))=0:=by
  refine pE b (lt_of_lt_of_le d ?_);rw[pow_succ,Nat.mul_comm];exact mul_le_mul_right n a
 have l:=vP n (x.drop j) (m+1)
 grind
theorem iF.step{q w:List Nat}{at':Nat}(g:1<n)(d:k<=n^m)(h:iF n m k j y q (at'+1))(B:∀x∈w,x<n)(z:w.length=m+1)(u:l<n)
  (r:bv n ((y.drop at').take (m+1))=bv n w+l*k) (v:bv n w<k):iF n m k j (y.take at'++w++y.drop (at'+(m+1))) (q.set at' l) at':=by
 have A:=h.len;have D:=h.jle;obtain⟨e,s,E⟩:=h.H2 g d;have p:bv n (y.drop (at'+(m+1)))=0:=by
  rw[<-drop_drop];refine pE g ?_;rw[<-e];refine lt_of_lt_of_le s ?_;rw[pow_succ,Nat.mul_comm];exact mul_le_mul_right n d
 have c:(y.take at').length=at':=by rw[length_take];omega
 have b:(y.take at'++w++y.drop (at'+(m+1))).drop at'=w++y.drop (at'+(m+1)):=by
  rw[append_assoc,List.drop_append_of_le_length (by omega),List.drop_of_length_le (by omega),List.nil_append]
 refine⟨?_,Ir h.ql u,?_,by grind,?_,?_,?_⟩
 ·intro x a;simp only[mem_append]at a;rcases a with(a|a)|a
  ·exact h.ul x (mem_of_mem_take a)
  ·grind
  ·exact h.ul x (List.mem_of_mem_drop a)
 ·grind
 ·rw[b,gf,p,Nat.mul_zero,Nat.add_zero];omega
 ·have f:=gf n (y.take at') (y.drop at');rw[take_append_drop,c,<-e,r]at f;have t:bv n (y.take at'++w++y.drop (at'+(m+1)))=bv n (y.take at')+n^at'*bv n w:=by
   rw[append_assoc,gf,gf,p,c,Nat.mul_zero,Nat.add_zero]
  have o:=B1 (B:=n) q at' l (by omega);rw[h.qz at' (by omega),Nat.mul_zero,Nat.add_zero]at o;rw[h.eq,f,t,o,Nat.mul_add,Nat.mul_add]
  grind
 ·intro i C;have:=h.qz i (by omega)
  grind
theorem iF.done{q:List Nat}(h:iF n m k i x q 0):bv n q=i/k/\bv n x=i%k:=by
 have a:=h.lo;rw[drop_zero]at a;rw[h.eq]
 grind[Nat.mul_add_div,div_eq_of_lt,Nat.mul_add_mod,mod_eq_of_lt]
theorem iF.start{X Y:Nat}(u:1<n)(h:∀d∈x,d<n)(s:x.length=l+1)(t:m<=l)(o:X<n^l)(c:n^(m-1)<=Y)(r:0<m)(p:0<k)(b:bv n x=X*k):iF n m (Y*k) (X*k) x (List.replicate (l+1-m) 0) (l+1-m):=by
 refine⟨h,λd q=>by rw[(List.mem_replicate.1 q).2];omega,by rw[length_replicate];omega,by rw[length_replicate];exact Nat.le_refl _,?_,?_,λi y=>?_⟩
 ·have f:=vP n x (l+1-m);rw[b,min_eq_left (by omega)]at f;rcases lt_or_ge (bv n (x.drop (l+1-m))) (Y*k)with a|a
  ·exact a
  ·have v:=mul_le_mul_left (n^(l+1-m)) a;have w:n^l*k<=n^(l+1-m)*(Y*k):=by
    have e:n^l=n^(l+1-m)*n^(m-1):=by rw[<-Nat.pow_add];congr 1;omega
    rw[e,Nat.mul_assoc];exact mul_le_mul_left _ (mul_le_mul_right k c)
   have z:X*k<n^l*k:=Nat.mul_lt_mul_of_pos_right o p;omega
 ·have:bv n (List.replicate (l+1-m) 0)=0:=by
   induction (l+1-m)with
   |zero=>rfl
   |succ j g=>rw[List.replicate_succ,bv,g];rfl
  rw[this,b,Nat.mul_zero,Nat.add_zero]
 grind
theorem A5{X Y:Nat}(a:0<k):X*k/(Y*k)=X/Y/\X*k%(Y*k)=X%Y*k:=
 by grind[Nat.mul_div_mul_right,Nat.mul_mod_mul_right]
theorem Ee{B left a:Nat}(c:0<k)(b:left<k)(d:a<B):(left*B+a)/k<B/\(left*B+a)%k<k/\(left*B+a)/k*k+(left*B+a)%k=left*B+a:=by
 refine⟨div_lt_of_lt_mul ?_,mod_lt _ c,by rw[Nat.mul_comm];exact Nat.div_add_mod _ _⟩;have:=mul_le_mul_right B (succ_le_of_lt b)
 grind
structure kT(B k R:Nat)(r:List Nat)(j left:Nat):Prop where
 rl:∀d∈r,d<B
 jle:j<=r.length
 lt:left<k
 eq:bv B (r.drop j)*k*B^j+left*B^j+bv B (r.take j)=R
theorem kT.step{at' left:Nat}(d:0<k)(h:kT n k m x (at'+1) left):kT n k m (x.set at' ((left*n+x.getD at' 0)/k)) at' ((left*n+x.getD at' 0)%k):=by
 have g:=h.jle;have b:0<n:=by
  have:=h.rl (x.getD at' 0) (by
   rw[gD,gE (by omega)];exact List.getElem_mem _)
  omega
 obtain⟨e,c,f⟩:=Ee (B:=n) d h.lt (aZ b h.rl at');refine⟨Ir h.rl e,by rw[length_set];omega,c,?_⟩;rw[List.take_set_of_le (by omega),fZ,List.drop_set_of_lt (by omega)];have a:(x.set at' ((left*n+x.getD at' 0)/k)).getD at' 0=(left*n+x.getD at' 0)/k:=by
  rw[gD,List.getElem?_set_self (by omega)];rfl
 rw[a,<-h.eq]
 grind[List.take_succ_eq_append_getElem,qv]
theorem kT.done{left:Nat}(a:0<k)(h:kT n k m x 0 left):bv n x=m/k:=by
 have e:=h.eq;simp only[drop_zero,Nat.pow_zero,Nat.mul_one,List.take_zero,bv,Nat.add_zero]at e;rw[<-e,Nat.mul_comm,Nat.mul_add_div a,div_eq_of_lt h.lt];rfl
section
theorem nV(B:Nat)(l:List Nat)(i:Nat)(h:i<=l.length):bv B l=bv B (l.take i)+B^i*bv B (l.drop i):=by grind[vP]
theorem lG{B:Nat}{l:List Nat}(h:l.length=i+1):bv B (l.drop i)=l.getD i 0:=by
 rw[fZ,drop_eq_nil_of_le (by omega)];rfl
theorem kn{B:Nat}{l:List Nat}(h:l.length=i+2):bv B (l.drop i)=l.getD (i+1) 0*B+l.getD i 0:=by grind[fZ,lG]
theorem sF{B:Nat}{l:List Nat}(h:l.length=i+3):bv B (l.drop i)=(l.getD (i+2) 0*B+l.getD (i+1) 0)*B+l.getD i 0:=by grind[fZ,kn]
structure hP(B n:Nat)(u v:List Nat)(q rest:Nat):Prop where
 eq:q*v.getD (n-1) 0+rest=u.getD n 0*B+u.getD (n-1) 0
 hi:bv B u<(q+1)*bv B v
section
variable {B n:Nat} {u v:List Nat} {q rest:Nat}
theorem hP.start(s:1<B)(q:u.length=n+1)(p:v.length=n)(r:0<n)(k:∀d∈u,d<B)(g:0<v.getD (n-1) 0):hP B n u v ((u.getD n 0*B+u.getD (n-1) 0)/v.getD (n-1) 0) ((u.getD n 0*B+u.getD (n-1) 0)%v.getD (n-1) 0):=by
 refine⟨by rw[Nat.mul_comm];exact Nat.div_add_mod _ _,?_⟩;have e:=nV B u (n-1) (by omega);have f:=nV B v (n-1) (by omega);have h:bv B (u.drop (n-1))=u.getD n 0*B+u.getD (n-1) 0:=by
  have:=kn (B:=B) (l:=u) (i:=n-1) (by omega);rwa[show n-1+1=n by omega]at this
 rw[lG (by omega)]at f;rw[h]at e;rw[e,f];have j:=fq (b:=B) (x:=u.take (n-1)) (λd o=>k d (mem_of_mem_take o));rw[length_take,min_eq_left (by omega)]at j;generalize u.getD n 0*B+u.getD (n-1) 0=a;generalize v.getD (n-1) 0=c at g⊢;have m:a<(a/c+1)*c:=by
  have:=Nat.div_add_mod a c;have:=mod_lt a g;rw[Nat.add_mul,Nat.one_mul,Nat.mul_comm];omega
 have t:=mul_le_mul_left (B^(n-1)) (succ_le_of_lt m)
 grind
theorem hP.lower(b:bv B u<q*bv B v)(h:hP B n u v q rest):hP B n u v (q-1) (rest+v.getD (n-1) 0):=by
 have c:0<q:=by
  rcases eq_zero_or_pos q with a|a
  ·subst a;rw[Nat.zero_mul]at b;omega
  ·exact a
 obtain⟨p,rfl⟩:∃p,q=p+1:=⟨q-1,by omega⟩
 refine⟨?_,by simpa using b⟩;have:=h.eq
 grind
theorem hP.acA(b:bv B u<B*bv B v)(a:B<=q):bv B u<q*bv B v:=lt_of_lt_of_le b (mul_le_mul_right _ a)
theorem hP.second(p:u.length=n+1)(o:v.length=n)(r:1<n)(j:∀d∈u,d<B)(h:hP B n u v q rest)(g:rest*B+u.getD (n-2) 0<q*v.getD (n-2) 0):bv B u<q*bv B v:=by
 have c:=nV B u (n-2) (by omega);have e:=nV B v (n-2) (by omega);have f:bv B (u.drop (n-2))=(u.getD n 0*B+u.getD (n-1) 0)*B+u.getD (n-2) 0:=by
  have:=sF (B:=B) (l:=u) (i:=n-2) (by omega);rwa[show n-2+1=n-1 by omega,show n-2+2=n by omega]at this
 have k:bv B (v.drop (n-2))=v.getD (n-1) 0*B+v.getD (n-2) 0:=by
  have:=kn (B:=B) (l:=v) (i:=n-2) (by omega);rwa[show n-2+1=n-1 by omega]at this
 rw[f,Nat.add_comm,Nat.mul_comm]at c;rw[k,Nat.add_comm,Nat.mul_comm]at e;have a:=fq (b:=B) (x:=u.take (n-2)) (λd m=>j d (mem_of_mem_take m));rw[length_take,min_eq_left (by omega)]at a;exact Ix c a e h.eq g
theorem hP.last(y:1<B)(t:u.length=n+1)(s:v.length=n)(w:0<n)(k:∀d∈v,d<B)(p:0<v.getD (n-1) 0)(h:hP B n u v q rest)(o:q<B)(m:1<n->q*v.getD (n-2) 0<=rest*B+u.getD (n-2) 0):q*bv B v<bv B u+bv B v:=by
 rcases lt_or_ge 1 n with f|f
 ·have e:=nV B u (n-2) (by omega);have g:=nV B v (n-2) (by omega);have a:bv B (u.drop (n-2))=(u.getD n 0*B+u.getD (n-1) 0)*B+u.getD (n-2) 0:=by
   have:=sF (B:=B) (l:=u) (i:=n-2) (by omega);rwa[show n-2+1=n-1 by omega,show n-2+2=n by omega]at this
  have c:bv B (v.drop (n-2))=v.getD (n-1) 0*B+v.getD (n-2) 0:=by
   have:=kn (B:=B) (l:=v) (i:=n-2) (by omega);rwa[show n-2+1=n-1 by omega]at this
  rw[a,Nat.add_comm,Nat.mul_comm]at e;rw[c,Nat.add_comm,Nat.mul_comm]at g;have j:=fq (b:=B) (x:=v.take (n-2)) (λd r=>k d (mem_of_mem_take r));rw[length_take,min_eq_left (by omega)]at j;exact GH e g j h.eq o p (m f)
 ·obtain rfl:n=1:=by omega
  have a:=kn (B:=B) (l:=u) (i:=0) (by omega);have c:=lG (B:=B) (l:=v) (i:=0) (by omega);rw[drop_zero]at a c;have:=h.eq
  grind
theorem vp(f:q<B){a b:Nat}(d:a<B)(c:B<=rest):q*a<=rest*B+b:=by
 have e:q*a<=B*B:=mul_le_mul (by omega) (by omega);have g:B*B<=rest*B:=mul_le_mul_right B c;omega
end
theorem Gz{B q n:Nat}(a:1<B){u v:List Nat}(s:∀d∈u,d<B)(f:∀d∈v,d<B)(i:u.length=n+1)(b:v.length=n)(o:q<B)(y:bv B u<(q+1)*bv B v)(p:q*bv B v<bv B u+bv B v):
  (bU B q u v 0 (n+1) 0 0).2.2=0/\
  ((bU B q u v 0 (n+1) 0 0).2.1=0->q=bv B u/bv B v/\bv B (bU B q u v 0 (n+1) 0 0).1=bv B u%bv B v)/\
  ((bU B q u v 0 (n+1) 0 0).2.1≠0->0<q/\q-1=bv B u/bv B v/\bv B (bk (aO B) (bU B q u v 0 (n+1) 0 0).1 v 0 (n+1) 0)=bv B u%bv B v):=by
 have j:=wS a (u:=u) o f (n+1) 0 0 0 (by omega) (by omega) (by omega) (by omega);obtain⟨A,l⟩:=Ig a s i b j (q:=q);have w:∀{k r:Nat},bv B u=r+k*bv B v->r<bv B v->k=bv B u/bv B v/\r=bv B u%bv B v:=by
  intro k r e t;rw[e,Nat.mul_comm k,Nat.add_comm];constructor
  ·grind[Nat.mul_add_div,div_eq_of_lt]
  ·rw[Nat.mul_add_mod,mod_eq_of_lt t]
 refine⟨j,λh=>?_,λh=>?_⟩
 ·grind
 ·obtain⟨m,g⟩:=l h;have x:0<q:=by
   rcases eq_zero_or_pos q with c|c
   ·subst c;rw[Nat.zero_mul]at g;omega
   ·exact c
  obtain⟨Q,rfl⟩:∃Q,q=Q+1:=⟨q-1,by omega⟩
  have z:=K2 a (Q:=Q) (V:=bv B v) (U:=bv B u) (uj (q:=Q+1) a u v (n+1) 0 0 0) f (qZ _ _ _ _ _ _ _ _) b m g p rfl
  grind
end
def eJ(F:Nat->Nat->Nat->Nat×Nat)(x y:List Nat)(i c:Nat):Nat->Nat
 |0=>c
 |k+1=>(F (x.getD (i+k) 0) (y.getD (i+k) 0) (eJ F x y i c k)).2
theorem B3(F:Nat->Nat->Nat->Nat×Nat)(x y:List Nat)(i c:Nat):∀k,eJ F x y (i+1) (F (x.getD i 0) (y.getD i 0) c).2 k=eJ F x y i c (k+1)
 |0=>rfl
 |k+1=>by
  show(F (x.getD (i+1+k) 0) (y.getD (i+1+k) 0) (eJ F x y (i+1) _ k)).2=(F (x.getD (i+(k+1)) 0) (y.getD (i+(k+1)) 0) (eJ F x y i c (k+1))).2;rw[B3 F x y i c k,show i+1+k=i+(k+1) by omega]
theorem hW(F:Nat->Nat->Nat->Nat×Nat)(x y:List Nat):∀k i c,bk F x y i (k+1) c=bk F x y i k c++[(F (x.getD (i+k) 0) (y.getD (i+k) 0) (eJ F x y i c k)).1]
 |0,i,c=>rfl
 |k+1,i,c=>by
  have a:=hW F x y k (i+1) (F (x.getD i 0) (y.getD i 0) c).2
  grind[B3,bk]
theorem Nm{F:Nat->Nat->Nat->Nat×Nat}{m:Nat}(h:∀p q c,c<=m->(F p q c).2<=m)(x y:List Nat)(i c:Nat)(a:c<=m):∀k,eJ F x y i c k<=m
 |0=>a
 |k+1=>h _ _ _ (Nm h x y i c a k)
theorem sY{b:Nat}(k:1<b){x y:List Nat}(h:∀d∈x,d<b)(l:x.length=y.length){j:Nat}(n:j<x.length)(i:x.drop (j+1)=y.drop (j+1))(a:x.getD j 0<y.getD j 0):bv b x<bv b y:=by
 have c:=nV b x j (by omega);have e:=nV b y j (by omega);rw[fZ]at c e;rw[c,e,i];have g:=fq (b:=b) (x:=x.take j) (λd f=>h d (mem_of_mem_take f));rw[length_take,min_eq_left (by omega)]at g;have m:=mul_le_mul_left (b^j) (succ_le_of_lt (Nat.add_lt_add_right a (b*bv b (y.drop (j+1)))))
 grind
theorem lN{b:Nat}(a:1<b){m n:Nat}(h:(aW b m).length<(aW b n).length):m<n:=by
 have c:0<n:=by
  rcases eq_zero_or_pos n with e|e
  ·grind[fK]
  ·exact e
 have d:=fq (dq a m);rw[cm a]at d;have g:=sH a c;have f:b^(aW b m).length<=b^((aW b n).length-1):=pow_le_pow_right (by omega) (by omega);omega
variable{A:Type}
theorem td(B q:Nat)(u v:List Nat):∀k i b c,bU B q u v i (k+1) b c =
    ((bU B q u v i k b c).1++[(ka B q (u.getD (i+k) 0) (v.getD (i+k) 0) (bU B q u v i k b c).2.1 (bU B q u v i k b c).2.2).1],
     (ka B q (u.getD (i+k) 0) (v.getD (i+k) 0) (bU B q u v i k b c).2.1 (bU B q u v i k b c).2.2).2.1,
     (ka B q (u.getD (i+k) 0) (v.getD (i+k) 0) (bU B q u v i k b c).2.1 (bU B q u v i k b c).2.2).2.2)
  |0,i,b,c=>rfl
  | k+1,i,b,c=>by
    have a:=td B q u v k (i+1) (ka B q (u.getD i 0) (v.getD i 0) b c).2.1 (ka B q (u.getD i 0) (v.getD i 0) b c).2.2
    grind[bU]
theorem Eg{q:Nat}(a:1<n){u v:List Nat}(b:∀d∈u,d<n)(k:Nat):(bU n q u v 0 k 0 0).2.1<=1:=(yY a (v:=v) b k 0 0 0 (by omega)).2
theorem sI{B q:Nat}(b:1<B)(c:q<B){u v:List Nat}(a:∀d∈v,d<B):∀k,(bU B q u v 0 k 0 0).2.2<B
  |0=>by grind[bU]
  | k+1=>by
    rw[td];have f:=sI b c (u:=u) a k;have g:=aZ (by omega) a (0+k);show(q*v.getD (0+k) 0+(bU B q u v 0 k 0 0).2.2)/B<B;refine div_lt_of_lt_mul ?_;have e:q*v.getD (0+k) 0<=(B-1)*(B-1):=mul_le_mul (by omega) (by omega);have h:(B-1)*(B-1)+(B-1)=(B-1)*B:=by rw[<-mul_succ];congr 1;omega
    have i:(B-1)*B+B=B*B:=by rw[<-succ_mul];congr 1;omega
    omega
theorem AD(x y:List A){i:Nat}(a:x.length=i)(b:i<y.length)(d:A):(x++y.drop i).set i d=(x++[d])++y.drop (i+1):=by
  rw[List.set_append,if_neg (by omega),a,Nat.sub_self,drop_eq_getElem_cons b,List.set_cons_zero,append_assoc];rfl
theorem wQ(x y:List Nat){i:Nat}(a:x.length=i):(x++y.drop i).getD i 0=y.getD i 0:=by grind
theorem wV(l:List Nat):l.take (dQ l).length=dQ l/\(dQ l).length<=l.length:=by
 induction l using ll with
 |h0=>exact⟨rfl,Nat.le_refl _⟩
 | h1 l d b=>
  by_cases a:d=0
  ·grind[iZ]
  ·rw[jN l a,List.take_length]
   grind
theorem E6(a:1<n)(b:0<m):0<(aW n m).getD ((aW n m).length-1) 0:=by
 have c:=(Le a m).2
 grind[aW]
theorem GD(a:1<n)(c:m<n^k)(e:n^(k-1)<=m)(d:0<k):(aW n m).length=k:=by
 refine Nat.le_antisymm (lK a c) ?_;rcases lt_or_ge (aW n m).length k with h|h
 ·have b:=fq (dq a m);rw[cm a]at b;have:n^(aW n m).length<=n^(k-1):=pow_le_pow_right (by omega) (by omega);omega
 omega
theorem RE(f:1<n)(o:0<m):let c:=(aW n m).length;let a:=(aW n m).getD (c-1) 0;let k:=n/(a+1)
  0<c/\a<n/\0<k/\k<=n/\n^(c-1)<=m/\m*k<n^c:=by
 intro c a k;have l:0<c:=length_pos_iff.2 λe=>by grind[ia]
 have s:a<n:=aZ (by omega) (dq f m) _;have j:0<k:=Nat.div_pos (by omega) (by omega);have g:=sH f o;refine⟨l,s,j,Nat.div_le_self _ _,g,?_⟩;have i:m<(a+1)*n^(c-1):=by
  have h:=nV n (aW n m) (c-1) (by omega);rw[lG (show(aW n m).length=c-1+1 by omega),cm f]at h;have p:=fq (b:=n) (x:=(aW n m).take (c-1)) (λd r=>dq f m d (mem_of_mem_take r));rw[length_take,min_eq_left (by omega)]at p;rw[Nat.add_mul,Nat.one_mul,Nat.mul_comm a];show m<n^(c-1)*a+_;have:(aW n m).getD (c-1) 0=a:=rfl;rw[this]at h;omega
 have t:m*k<(a+1)*n^(c-1)*k:=Nat.mul_lt_mul_of_pos_right i j;have q:(a+1)*k<=n:=by rw[Nat.mul_comm];exact Nat.div_mul_le_self _ _
 have w:(a+1)*n^(c-1)*k=(a+1)*k*n^(c-1):=by rw[Nat.mul_right_comm]
 have v:(a+1)*k*n^(c-1)<=n*n^(c-1):=mul_le_mul_right _ q;have u:n*n^(c-1)=n^c:=by rw[Nat.mul_comm,<-pow_succ];congr 1;omega
 omega
def wid:Nat->Nat->List UInt8
 |0,_=>[]
 |n+1,u=>wid n (u/10)++[eU (u%10)]
theorem zb:∀n u,(wid n u).length=n
 |0,_=>rfl
 |n+1,u=>by rw[wid,length_append,zb n];rfl
theorem vX:∀(n u:Nat),wid (n+1) u=eU (u/10^n%10)::wid n u
 |0,u=>by simp[wid]
 |n+1,u=>by
  rw[wid,vX n (u/10),wid,cons_append,Nat.div_div_eq_div_mul,pow_succ,Nat.mul_comm 10]
theorem yZ(a:m<10^(n+1))(c:n=0\/10^n<=m):wid (n+1) m=ag m:=by
 induction n generalizing m with
 |zero=>grind[dC,wid]
 |succ n b=>grind[ib,Nat.le_div_iff_mul_le,wid]
theorem E9{u:Nat}:∀{n:Nat},u<10^n->0<n->wid n u=List.replicate (n-(ag u).length) 48++ag u
 |0,_,h=>absurd h (by omega)
 | n+1,h,_=>by
  by_cases b:n=0\/10^n<=u
  ·have c:=yZ h b;have d:=congrArg List.length c;rw[zb]at d
   simp_all
  ·have e:n≠0:=λh=>b (.inl h);have a:u<10^n:=Nat.lt_of_not_le λh=>b (.inr h);have f:=(dc (n:=u) (k:=n) (by omega)).2 a;rw[vX,E9 a (by omega),div_eq_of_lt a,show n+1-(ag u).length=(n-(ag u).length)+1 by omega,List.replicate_succ];rfl
theorem AF{Y:Nat}(a:0<Y):∀{n b:Nat},b<10^n->ag (Y*10^n+b)=ag Y++wid n b
 |0,b,h=>by simp_all[wid]
 | n+1,b,h=>by
  have c:b/10<10^n:=by rw[Nat.div_lt_iff_lt_mul (by omega),<-pow_succ];exact h
  have g:=AF a c;have d:0<10^n:=Nat.pow_pos (by omega);have f:0<Y*10^n+b/10:=Nat.add_pos_left (Nat.mul_pos a d) _;have e:Y*10^(n+1)+b=10*(Y*10^n+b/10)+b%10:=by
   rw[pow_succ,Nat.mul_add,<-Nat.mul_assoc,Nat.mul_comm (Y*10^n) 10];omega
  simp_all[q9,mod_lt,wid]
theorem Eh{b:Nat}(c:0<m)(a:b<1000000000):ag (b+1000000000*m)=ag m++List.replicate (9-(ag b).length) 48++ag b:=by
 have h:=AF c (n:=9) (b:=b) a
 grind[E9]
theorem Ei{b:Nat}(a:b<1000000000):(ag b).length<=9:=(dc (by omega)).2 a
theorem s7(B:Nat)(y:List Nat)(k:Nat):bv B (y.take (k+1))=bv B (y.take k)+B^k*y.getD k 0:=by grind[List.take_succ_eq_append_getElem,qv,List.take_of_length_le]
theorem K4(a:0<n)(h:∀d∈x,d<n)(i:Nat):x.getD i 0<n:=by grind[List.getElem_mem]
theorem vU{B:Nat}(m:1<B){L y:List Nat}{i k cy xi P p:Nat}(a:∀d∈L,d<B)(q:i+k<L.length)(f:cy<B)(j:xi<B)(g:y.getD k 0<B)(c:p=L.getD (i+k) 0+cy+xi*y.getD k 0)(n:bv B L+cy*B^(i+k)=P+xi*bv B (y.take k)*B^i):
  (∀d∈L.set (i+k) (p%B),d<B)/\p/B<B/\bv B (L.set (i+k) (p%B))+p/B*B^(i+(k+1))=P+xi*bv B (y.take (k+1))*B^i:=by
 have l:=K4 (by omega) a (i+k);refine⟨λd e=>?_,?_,?_⟩
 ·rcases List.mem_or_eq_of_mem_set e with h|h
  ·exact a d h
  ·rw[h];exact mod_lt _ (by omega)
 ·rw[Nat.div_lt_iff_lt_mul (by omega),c];have b:xi*y.getD k 0<=(B-1)*(B-1):=mul_le_mul (by omega) (by omega);obtain⟨C,rfl⟩:∃C,B=C+1:=⟨B-1,by omega⟩
  rw[Nat.add_sub_cancel]at b;have o:(C+1)*(C+1)=C*C+C+C+1:=by rw[mul_succ,succ_mul];omega
  omega
 grind[B1,mod_add_div,s7]
theorem E2(l:1<n){L x y:List Nat}{i cy:Nat}(e:∀d∈x,d<n)(k:∀d∈y,d<n)(p:i<x.length)(m:∀d∈L,d<n)(c:bv n L+cy*n^(i+(y.length+1))=bv n (x.take i)*bv n y+x.getD i 0*bv n (y.take (y.length+1))*n^i):
  bv n L=bv n (x.take (i+1))*bv n y:=by
 have f:bv n (x.take (i+1))*bv n y=bv n (x.take i)*bv n y+x.getD i 0*bv n y*n^i:=by
  rw[s7,Nat.add_mul];congr 1;rw[Nat.mul_assoc,Nat.mul_comm]
 rw[List.take_of_length_le (by omega:y.length<=y.length+1),<-f]at c;have g:bv n (x.take (i+1))<n^(i+1):=by
  have:=fq (b:=n) (x:=x.take (i+1)) (λd j=>e d (mem_of_mem_take j));rwa[length_take,min_eq_left (by omega)]at this
 have a:=fq k;have o:bv n (x.take (i+1))*bv n y<n^(i+(y.length+1)):=by
  rw[show i+(y.length+1)=(i+1)+y.length by omega,Nat.pow_add];exact Nat.mul_lt_mul'' g a
 rcases eq_zero_or_pos cy with h|h
 ·grind
 ·have q:1*n^(i+(y.length+1))<=cy*n^(i+(y.length+1)):=mul_le_mul_right _ h;omega
theorem sZ(B n:Nat):bv B (List.replicate n 0)=0:=by
 induction n with
 |zero=>rfl
 |succ n a=>grind[bv]
def cJ(c:UInt8):List UInt8->Nat
 |[]=>0
 |x::l=>if x=c then 0 else cJ c l+1
theorem vT(c:UInt8):∀(l:List UInt8)(i:Nat),i<=l.length->(∀j,j<i->l.getD j 0≠c)->(i<l.length->l.getD i 0=c)->cJ c l=i
 |[],i,h,_,_=>by simp at h;subst h;rfl
 |x::l,0,h,_,b=>by simp_all[cJ]
 |x::l,i+1,h,a,b=>by
  have e:=a 0 (by omega);unfold cJ;rw[if_neg (by grind)];rw[vT c l i (by grind) (λj f=>by grind) (λd=>by grind)]
def isNeg(a:List UInt8):Bool:=a.head? == some 45
def bj(a:List UInt8):List UInt8:=if isNeg a then a.drop 1 else a
def numOf(a:List UInt8):List UInt8:=(bj a).take (cJ 47 (bj a))
def bo(a:List UInt8):Bool:=decide (cJ 47 (bj a)<(bj a).length)
def ak(a:List UInt8):List UInt8:=if bo a then(bj a).drop (cJ 47 (bj a)+1)else[49]
def ax(a:List UInt8):Bool:=valid (numOf a)&&valid (ak a)&&decide ((numOf a).length<=400)&&decide ((ak a).length<=400) && !(isNeg a&&numOf a==[48]) && !(bo a&&(ak a==[48]||ak a==[49]))&&decide (Nat.gcd (val (numOf a)) (val (ak a))=1)
structure gI(a:List UInt8):Prop where
 num:valid (numOf a)=true
 den:valid (ak a)=true
 ln:(numOf a).length<=400
 ld:(ak a).length<=400
 neg:¬(isNeg a=true/\numOf a=[48])
 fr:¬(bo a=true/\(ak a=[48]\/ak a=[49]))
 one:Nat.gcd (val (numOf a)) (val (ak a))=1
theorem aP{a:List UInt8}:ax a=true↔gI a:=by
 unfold ax;simp only[and_eq_true,Bool.not_eq_true',Bool.and_eq_false_iff,Bool.or_eq_false_iff,decide_eq_true_eq,beq_eq_false_iff_ne];constructor
 ·rintro⟨⟨⟨⟨⟨⟨c,d⟩,b⟩,f⟩,j⟩,i⟩,e⟩;refine⟨c,d,b,f,λ⟨g,h⟩=>?_,λ⟨g,h⟩=>?_,e⟩
  all_goals grind
 ·rintro⟨c,d,b,f,j,i,e⟩
  grind
theorem ig{a:List UInt8}(h:valid a=true):a=[48]↔val a=0:=by grind[cx,bM]
theorem ti{a:List UInt8}(h:valid a=true):a=[49]↔val a=1:=by grind[cx,ei]
theorem Iz:val [49]=1:=by decide
theorem re{a:List UInt8}(h:valid a=true)(c:0<k)(b:a.length<=k):val a<10^k:=by grind[cx,dc]
theorem Ay{a:List UInt8}:gI a↔(valid (numOf a)=true/\(numOf a).length<=400)/\(valid (ak a)=true/\(ak a).length<=400)/\ak a≠[48]/\¬(numOf a=[48]/\(isNeg a=true\/bo a=true))/\¬(ak a=[49]/\bo a=true)/\(Nat.gcd (val (numOf a)) (val (ak a))=1\/ak a=[49]):=by
 constructor
 ·rintro⟨d,e,c,f,j,h,i⟩
  grind[ig,ti,ak]
 ·rintro⟨⟨d,c⟩,⟨e,f⟩,j,h,i,k⟩;refine⟨d,e,c,f,λ⟨b,g⟩=>h ⟨g,.inl b⟩,λ⟨b,g⟩=>?_,?_⟩
  all_goals grind[Iz,Nat.gcd_one_right]
def de(s:Bool)(A:Nat)(t:Bool)(B:Nat):Bool×Nat:=if s=t then(s,A+B)else if A<B then(t,B-A)else(s,A-B)
def cz(a b:List UInt8):Int:=
 if ax a=true/\ax b=true then
  if(de (isNeg a) (val (numOf a)*val (ak b)) (!isNeg b) (val (numOf b)*val (ak a))).2=0 then 0
  else if(de (isNeg a) (val (numOf a)*val (ak b)) (!isNeg b) (val (numOf b)*val (ak a))).1=true then -1 else 1
 else 0
theorem Ou(e:k+k=m)(b:n<10^k)(a:i<10^k):n*i<10^m:=by
 subst e;rw[Nat.pow_add];exact Nat.mul_lt_mul'' b a
theorem Ed(b:n<10^400)(a:i<10^400):n*i<10^800:=Ou (k:=400) (m:=800) rfl b a
theorem jK(h:k<=m):10^k<=10^m:=pow_le_pow_right (by decide) h
theorem Zi(h:k+1<=n):10^k+10^k<=10^n:=by
 have a:=jK h
 grind
theorem E3:(10:Nat)^800+10^800<=10^1000:=by omega
end Go.Num
end
