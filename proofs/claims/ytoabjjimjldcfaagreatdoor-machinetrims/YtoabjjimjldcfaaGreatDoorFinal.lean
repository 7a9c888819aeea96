/- Whatever machine and number are handed to it, in whatever memory, on every schedule, MachineTrims returns true. No condition. -/
import Derived.Test.YtoabjjimjldcfaaGreatDoorPart5
import Derived.Test.YtoabjjimjldcfaaGreatDoorPart2
import Derived.Test.YtoabjjimjldcfaaGreatDoorPart4
import Derived.ChangeArms
import Derived.DataElems
import Derived.Shelf.SlSortCmp.NoneTotal
import Derived.Test.YtoabjjimjldcfaaGreatDoorProg
import Derived.OpenShut
import Derived.MakeChecks
import Derived.FnData
import Derived.ChangeSame
import Derived.Test.YtoabjjimjldcfaaGreatDoorRows
import Derived.ProofKit
import Derived.LaidLaws
import Derived.LaidHandle
import Derived.ChangeVars
import Derived.Below
import Derived.Test.YtoabjjimjldcfaaGreatDoorCards
import Derived.Test.YtoabjjimjldcfaaGreatDoorTie
import Derived.WalkKit
import Derived.Carry
import Derived.SevenTiedAt
open List (all_append all_eq_true append_assoc append_nil drop_eq_nil_of_le drop_take eq_nil_of_length_eq_zero flatten_append flatten_cons getElem?_map getElem?_range getElem?_set length_append length_drop length_set length_take map_append map_set mem_append mem_append_left mem_cons mem_cons_of_mem mem_cons_self mem_flatten mem_map mem_range mem_singleton take_add_one take_of_length_le take_take)
open Nat (add_mul eq_zero_or_pos le_refl le_trans one_mul zero_add zero_le)
open Option (map_eq_some_iff map_some)
open Bool (and_eq_true eq_false_iff)
open Go.IntKind (wrap)
section
set_option linter.unusedVariables false
set_option maxRecDepth 100000
namespace Go.Proofs.YtoabjjimjldcfaaGreatDoor
open Go Go.Ab
def oK (kind:Int):List UInt8:=if kind=1 then [48] else if kind=2\/kind=3 then [49] else []
theorem OP (k:Nat):af SS.P 68 (.pointer (some ⟨k,0,none⟩)) 1=some (.pointer (some ⟨k,1,none⟩)):=by kernel_rfl
theorem LJ (kind:Int){h:Heap}(w:Wf h):FW SS 50 [.int .i64 kind] h (fun v h'=>v=aa (oK kind)/\Ok h h'):=by
 refine LX kind h _ ((Cn kind w).mono ?_);rintro _ g ⟨rfl,o⟩;have key: ∀ (ring:List Value)(b:Bool),ring.length=8->ring.all bw=true->ring.getD 1 undef=aa (oK kind)-> ∃ cs:List Value,∃ b':Bool,(Value.tuple ⟨[.agg ⟨ring⟩,.bool b]⟩)=(.tuple ⟨[.agg ⟨cs⟩,.bool b']⟩)/\ ∃ B:Blk,aF SS.P 68=some (B,iy)/\ ∃ u:Upd,ai SS.P 68 (.pointer (some ⟨g.next,0,none⟩)) (.agg ⟨cs⟩) (g.push B)=some (undef,u)/\ ∃ p:Addr,af SS.P 68 (.pointer (some ⟨g.next,0,none⟩)) 1=some (.pointer (some p))/\ ∃ l:List UInt8,ah SS.P 9 (u.app (g.push B)) (.pointer (some p))=some (aa l)/\(aa l=aa (oK kind)/\Ok h (u.app (g.push B))):=by
  intro ring b hl hs h1;have k0:=aq g FI;have o1:=(Ok.refl o.wf).push FI;obtain ⟨o2,k2⟩:=cG (cs:=ring) o.wf o1 k0 (le_refl _);refine ⟨ring,b,rfl,FI,Mz,_,bO Bs rfl k0 hl hs,_,OP _,oK kind,?_,rfl,o.trans o2⟩;rw [cH Ir Nl k2 (by omega),h1]
 unfold Nj;split
 ·next hk=>exact key sY true rfl rfl (by unfold oK; rw [if_pos hk]; rfl)
 ·next hk=>
  split
  ·next hk2=>exact key sU true rfl rfl (by unfold oK; rw [if_neg hk,if_pos (.inl hk2)]; rfl)
  ·next hk2=>
   split
   ·next hk3=>exact key tj true rfl rfl (by unfold oK; rw [if_neg hk,if_pos (.inr hk3)]; rfl)
   ·next hk3=>exact key iz false rfl rfl (by unfold oK; rw [if_neg hk,if_neg (by rintro (h | h) <;> contradiction)]; rfl)
theorem Ml (kind:Int)(h:Heap):FW SS 51 [.int .i64 kind] h (fun v h'=>v=aa (oK kind)/\h'=h):=by
 refine Lt kind h _ ((nf kind h).mono ?_);rintro _ g ⟨rfl,rfl⟩;refine ⟨_,rfl,ae (fun q=> ?_) (fun q=> ?_)⟩
 ·refine ⟨?_,rfl⟩;simp at q;unfold oK;rw [if_neg (by omega),if_neg (by omega)]
 ·simp at q;refine ae (fun q2=> ?_) (fun q2=> ?_)
  ·have q2:kind=1:=by simpa using q2
   refine ⟨?_,rfl⟩;unfold oK; rw [if_pos q2]
  ·have q2: ¬ kind=1:=by simpa using q2
   refine ⟨?_,rfl⟩;unfold oK; rw [if_neg q2,if_pos (by omega)]
def oD (h:Heap)(R:Mach×Int):VH:=fun v h'=> ∃ (a:Option Addr)(n c:Nat)(ps:List (MSt×Value)),v = .tuple ⟨[.agg ⟨aC R.1 a n c⟩,.int .i64 R.2]⟩/\ps.map (·.1)=R.1.states/\OwnM h h' (.slice a n c) ps/\Ok h h'
def kK:Mach:=⟨0,0,[],[]⟩
def ju (kind:Int):Mach×Int:=if 1<=kind/\kind<=3 then (⟨kind,0,oK kind,[⟨[],[]⟩]⟩,0) else (kK,1)
theorem vT:aI SS.P 24 []=some (.agg ⟨aC kK none 0 0⟩):=by kernel_rfl
theorem J1 (k:Int)(l:List UInt8)(a:Option Addr)(n c:Nat):aI SS.P 24 [(0,(.int .i64 k)),(2,(aa l)),(3,(.slice a n c))]=some (.agg ⟨[.int .i64 k,.int .i64 0,aa l,.slice a n c]⟩):=by cases a <;> kernel_rfl
theorem ja {h g:Heap}(w:Wf h)(o:Ok h g){k:Nat}(hk:g.get k=some eG)(hn:h.next<=k){R:Mach×Int}{a:Option Addr}{n c:Nat}{ps:List (MSt×Value)}(hps:ps.map (·.1)=R.1.states){hb:Heap}(om:OwnM hb g (.slice a n c) ps)(ob:Ok h hb)(hkb:k < hb.next\/ps=[]/\a=none/\n=0/\c=0):
  ∃ u:Upd,ai SS.P 24 (.pointer (some ⟨k,0,none⟩)) (.agg ⟨aC R.1 a n c⟩) g=some (undef,u)/\cX SS [(.pointer (some ⟨k,0,none⟩),some 24),(.int .i64 R.2,none)] (u.app g) (oD h R):=by
 refine ⟨_,bO (t:=24) ej (cs0:=[.int .i64 0,.int .i64 0,aa [],.slice none 0 0]) rfl hk (cs:=aC R.1 a n c) rfl (dK ..),?_⟩;obtain ⟨o5,k5⟩:=cG (cs:=aC R.1 a n c) w o hk hn;refine rH (v:= .agg ⟨aC R.1 a n c⟩) (fJ wC vV ej k5 (by simp [aC])) ⟨a,n,c,ps,rfl,hps,?_,o5⟩;rcases hkb with hkb | ⟨rfl,rfl,rfl,rfl⟩
 ·exact om.low ob (fun j B hj hne=>by
   show (g.set k _).get j=_;rw [Heap.get_set,if_neg (by omega)]; exact hj)
 ·exact OwnM.nil _ _
theorem nu {h g:Heap}(w:Wf h)(o:Ok h g){k:Nat}(hk:g.get k=some eG)(hn:h.next<=k){kind:Int}(hkd: ¬ (1<=kind/\kind<=3)): ∃ cs:List Value,aI SS.P 24 []=some (.agg ⟨cs⟩)/\ ∃ u:Upd,ai SS.P 24 (.pointer (some ⟨k,0,none⟩)) (.agg ⟨cs⟩) g=some (undef,u)/\cX SS [(.pointer (some ⟨k,0,none⟩),some 24),(.int .i64 1,none)] (u.app g) (oD h (ju kind)):=by
 have e:ju kind=(kK,1):=by unfold ju; rw [if_neg hkd]
 rw [e];exact ⟨_,vT,ja w o hk hn (R:=(kK,1)) (ps:=[]) rfl (OwnM.nil h g) (Ok.refl w) (.inr ⟨rfl,rfl,rfl,rfl⟩)⟩
theorem vU {h g:Heap}(w:Wf h)(o:Ok h g){k:Nat}(hk:g.get k=some eG)(hn:h.next<=k){g0:Heap}(wg0:Wf g0)(o0:Ok h g0)(oS:Ok g0 g)(hk0:k < g0.next){kx:Nat}(hx:g0.next<=kx)(hkx:g.get kx=some (.cells ((List.replicate 1 zst).map gG).flatten 37 2 true)){kind:Int}(hkd:1<=kind/\kind<=3):
  ∃ cs:List Value,aI SS.P 24 [(0,(.int .i64 kind)),(2,(aa (oK kind))),(3,(.slice (some ⟨kx,0,none⟩) 1 1))]=some (.agg ⟨cs⟩)/\ ∃ u:Upd,ai SS.P 24 (.pointer (some ⟨k,0,none⟩)) (.agg ⟨cs⟩) g=some (undef,u)/\cX SS [(.pointer (some ⟨k,0,none⟩),some 24),(.int .i64 0,none)] (u.app g) (oD h (ju kind)):=by
 have e:ju kind=(⟨kind,0,oK kind,[⟨[],[]⟩]⟩,0):=by unfold ju; rw [if_pos hkd]
 rw [e];exact ⟨_,J1 _ _ _ _ _,ja w o hk hn (R:=(⟨kind,0,oK kind,[⟨[],[]⟩]⟩,0)) (ps:=[zst]) rfl (OwnM.made (hb:=g0) (n:=1) hkx hx (by omega)) o0 (.inl hk0)⟩
theorem zg {g g2:Heap}(w:Wf g){n j:Nat}(hj:j < n)(o:Ok (Go.Ab.room g n) g2)(B:Blk):Ok g (aB g2 g.next [(j,B)])/\(aB g2 g.next [(j,B)]).get (g.next+j)=some B:=by
 have h1:g.next+n<=g2.next:=o.nx;refine ⟨(((Ok.refl w).room n).trans o).set B (Nat.le_add_right _ _) (by omega) w,?_⟩;show (g2.set (g.next+j) B).get (g.next+j)=_;rw [Heap.get_set,if_pos rfl]
theorem mT (kind:Int){h:Heap}(w:Wf h):FW SS 27 [.int .i64 kind] h (oD h (ju kind)):=by
 have o1:=(Ok.refl w).push eG;have k1:=aq h eG;refine CR kind h _ ⟨_,iU,ae (fun q=> ?_) (fun q=>ae (fun q2=> ?_) (fun q2=> ?_))⟩
 ·have q:=dT q;exact nu w o1 k1 (le_refl _) (by omega)
 ·have q2:=dT q2;exact nu w o1 k1 (le_refl _) (by omega)
 ·have q:=dF q;have q2:=dF q2;have hn1:(h.push eG).next=h.next+1:=rfl;generalize h.push eG=g at *;have oR:=(Ok.refl o1.wf).room 7;refine (LJ kind oR.wf).mono ?_;rintro _ g2 ⟨rfl,o2⟩;obtain ⟨s1,s2⟩:=zg o1.wf (n:=7) (j:=3) (by omega) o2 (.cells ((List.replicate 1 zst).map gG).flatten 37 2 true);have k2:=s1.ext _ _ k1;refine ⟨_,rfl,_,_,_,Ot 1 (by omega),?_⟩;exact vU w (o1.trans s1) k2 (le_refl _) o1.wf o1 s1 (by omega) (by omega) s2 (by omega)
theorem tC (kind:Int){h:Heap}(w:Wf h):FW SS 28 [.int .i64 kind] h (oD h (ju kind)):=by
 have o1:=(Ok.refl w).push eG;have k1:=aq h eG;refine CV kind h _ ⟨_,iU,(nf kind _).mono ?_⟩;have hn1:(h.push eG).next=h.next+1:=rfl;generalize h.push eG=g at *;rintro _ g' ⟨rfl,rfl⟩;refine ⟨_,rfl,ae (fun q=> ?_) (fun q=> ?_)⟩
 ·simp at q;exact nu w o1 k1 (le_refl _) (by omega)
 ·simp at q;have oR:=(Ok.refl o1.wf).room 7;refine (Ml kind _).mono ?_;rintro _ g2 ⟨rfl,rfl⟩;obtain ⟨s1,s2⟩:=zg o1.wf (n:=7) (j:=3) (by omega) (Ok.refl oR.wf) (.cells ((List.replicate 1 zst).map gG).flatten 37 2 true);have k2:=s1.ext _ _ k1;refine ⟨_,rfl,_,_,_,Ot 1 (by omega),?_⟩;exact vU w (o1.trans s1) k2 (le_refl _) o1.wf o1 s1 (by omega) (by omega) s2 (by omega)
section
noncomputable def tS (M:Mach):List Nat:=(List.range M.states.length).filter fun x=>@decide (fO M x) (Classical.propDecidable _)
noncomputable def bu (M:Mach):Mach×Int:=@ite _ (bq M=true) _ (@ite _ (fO M M.start.toNat) (Classical.propDecidable _) (dP M (tS M),0) (ju M.kind)) (kK,1)
theorem nJ {M:Mach}(h:bq M=false):bu M=(kK,1):=by unfold bu; rw [h]; rfl
theorem pX {M:Mach}(h:bq M=true)(hu: ¬ fO M M.start.toNat):bu M=ju M.kind:=by unfold bu; rw [if_pos h,if_neg hu]
theorem qL {M:Mach}(h:bq M=true)(hu:fO M M.start.toNat):bu M=(dP M (tS M),0):=by unfold bu; rw [if_pos h,if_pos hu]
theorem um (M:Mach):OrdOk M.states.length (tS M):=⟨fun x hx=>mem_range.1 (List.mem_filter.1 hx).1,List.nodup_range.filter _⟩
theorem zS {M:Mach}{L:List Bool}{N:Nat}(hN:N=M.states.length)(hL: ∀ x,x < N->(L.getD x false=true↔fO M x)):(List.range N).filter (fun x=>L.getD x false)=tS M:=by
 unfold tS;subst hN;refine List.filter_congr fun x hx=> ?_;exact Kd (hL x (mem_range.1 hx))
section
variable {h:Heap} {M:Mach} {a:Option Addr} {n c:Nat}
def js (L:List Bool)(i:Nat):List Nat:=(List.range i).filter fun x=>L.getD x false
theorem kU (L:List Bool)(i:Nat):js L (i+1)=js L i++(if L.getD i false=true then [i] else []):=by
 unfold js;rw [List.range_succ,List.filter_append];congr 1;split <;> simp_all
theorem Bt (L:List Bool)(i:Nat):(js L i).length<=i:=by
 have:=List.length_filter_le (fun x=>L.getD x false) (List.range i);rwa [List.length_range] at this
theorem z7 {L:List Bool}{i x:Nat}(hx:x∈js L i):x < i:=mem_range.1 (List.mem_filter.1 hx).1
theorem Bj {h g g':Heap}(w:Wf h)(o:Ok h g){k2:Nat}(hk:g.get k2=some eG)(hk2:h.next<=k2){R:Mach}{v:Value}(hq:JF g R v g'): ∃ cs:List Value,v = .agg ⟨cs⟩/\ ∃ u:Upd,ai SS.P 24 (.pointer (some ⟨k2,0,none⟩)) (.agg ⟨cs⟩) g'=some (undef,u)/\cX SS [(.pointer (some ⟨k2,0,none⟩),some 24),(.int .i64 0,none)] (u.app g') (oD h (R,0)):=by
 obtain ⟨a,n,c,ps,rfl,hps,om,ok⟩:=hq;exact ⟨_,rfl,ja w (o.trans ok) (ok.ext _ _ hk) hk2 (R:=(R,0)) hps om o (.inl (o.wf _ _ hk))⟩
theorem BC {h g g':Heap}(w:Wf h)(o:Ok h g){k2:Nat}(hk:g.get k2=some eG)(hk2:h.next<=k2){R:Mach×Int}{v:Value}(hq:oD g R v g'): ∃ cs:List Value,∃ e:Int,v = .tuple ⟨[.agg ⟨cs⟩,.int .i64 e]⟩/\ ∃ u:Upd,ai SS.P 24 (.pointer (some ⟨k2,0,none⟩)) (.agg ⟨cs⟩) g'=some (undef,u)/\cX SS [(.pointer (some ⟨k2,0,none⟩),some 24),(.int .i64 e,none)] (u.app g') (oD h R):=by
 obtain ⟨a,n,c,ps,rfl,hps,om,ok⟩:=hq;exact ⟨_,_,rfl,ja w (o.trans ok) (ok.ext _ _ hk) hk2 hps om o (.inl (o.wf _ _ hk))⟩
def tI (hb:Heap)(L:List Bool)(n:Nat)(mz i:Nat)(t:Option Addr)(tn tc:Nat)(g:Heap):Prop:=i<=n/\mz=n - i/\OwnG hb g 3 (.slice t tn tc) ((js L i).map iv)/\Ok hb g
theorem vh (tb:Tab h)(w:Wf h)(sm:Small M)(r:StRow h (.slice a n c) M.states):FW SS 23 [.agg ⟨aC M a n c⟩] h (oD h (bu M)):=by
 obtain ⟨mb0,ok0⟩:=cD w r;have hnl:n=M.states.length:=mb0.len;have hn:n<=300:=by rw [hnl]; exact sm.sts
 refine KY (aC M a n c) h _ ⟨_,ei M a n c,_,iU,?_⟩;have n0:h.next<=(h.push (Bm M a n c)).next:=ok0.nx;generalize h.push (Bm M a n c)=g0 at *;have k4:=aq g0 eG;have o1:=(Ok.refl ok0.wf).push eG;have ok1:=ok0.trans o1;have mb1:=mb0.ok o1;generalize g0.push eG=g1 at *;generalize g0.next=K at *;refine ⟨_,mb1.all,(nN (tb.ok ok1) ok1.wf sm mb1.row).mono ?_⟩;rintro _ g2 ⟨rfl,o2⟩;have ok2:=ok1.trans o2;have mb2:=mb1.ok o2;have k42:=o2.ext _ _ k4;refine ⟨_,rfl,ae (fun q=> ?_) (fun q=> ?_)⟩
 ·have q:bq M=false:=by simpa using q
  rw [nJ q];exact ⟨_,vT,ja w ok2 k42 n0 (R:=(kK,1)) (ps:=[]) rfl (OwnM.nil h g2) (Ok.refl w) (.inr ⟨rfl,rfl,rfl,rfl⟩)⟩
 have q:bq M=true:=by simpa using q
 have gd:=mY q;have h0:=gd.start0;have h1:=gd.start1;refine ⟨_,mb2.all,(HJ ok2.wf sm gd mb2.row).mono ?_⟩;rintro _ g3 ⟨kl,L,rfl,br,hL⟩;have o3:=br.row.ok;have ok3:=ok2.trans o3;have mb3:=mb2.ok o3;have k43:=o3.ext _ _ k42;obtain ⟨S,hS⟩: ∃ S:Nat,M.start=(S:Int):=⟨M.start.toNat,by omega⟩
 have hSt:M.start.toNat=S:=by omega
 have hSn:S < n:=by omega
 have lS:=mb3.l1;rw [hS] at lS;obtain ⟨x1,x2⟩:=gh (c:=n) br.row.row br.len hSn;refine ⟨_,_,_,rfl,_,dG _,_,lS,_,x1,_,x2,ae (fun q1=> ?_) (fun q1=> ?_)⟩
 ·have q1:L.getD S false=false:=by simpa using q1
  have hu: ¬ fO M M.start.toNat:=by rw [hSt,<-hL S hSn,q1]; exact Bool.false_ne_true
  rw [pX q hu];refine ⟨_,eu _,_,mb3.l0,(mT M.kind ok3.wf).mono ?_⟩;intro v g4 hq;exact BC w ok3 k43 n0 hq
 ·have q1:L.getD S false=true:=by simpa using q1
  have hu:fO M M.start.toNat:=by rw [hSt,<-hL S hSn]; exact q1
  rw [qL q hu];refine rV (aC M a n c) h.next K (some ⟨kl,0,none⟩) n n (tI g3 L n) _ (fun mz i t tn tc=> ?_) n (i:=0) ⟨zero_le _,rfl,OwnG.nil _ _ _,Ok.refl ok3.wf⟩;intros; rename_i g hin;obtain ⟨f1,rfl,ot,ok⟩:=hin;refine ae (fun q2=> ?_) (fun q2=> ?_)
  ·have q2:=dT q2;have hi:i < n:=by omega
   obtain ⟨y1,y2⟩:=gh (c:=n) (ok.ext _ _ br.row.row) br.len hi;have hsu:=kU L i;refine ⟨_,y1,_,y2,ae (fun q3=> ?_) (fun q3=> ?_)⟩
   ·rw [if_pos q3] at hsu;have oP:=(Ok.refl ok.wf).push (.cells [.int .i64 (i:Int)] 3 1 true);have kP:=aq g (.cells [.int .i64 (i:Int)] 3 1 true);have hl:=Bt L i;obtain ⟨b,n',c',u,a1,a2,a3,a4,_⟩:=xH ok3.wf (ok.trans oP) (ot.ok oP) kP (by rw [lM]; omega);refine ⟨_,_,_,jR _,b,n',c',u,a1,?_⟩;dsimp only;rw [az hi (by omega)];refine fG (n - (i+1)) (by omega) ⟨by omega,rfl,?_,a4⟩;rw [hsu,map_append];exact a3
   ·rw [if_neg (by rw [q3]; exact Bool.false_ne_true),append_nil] at hsu;rw [az hi (by omega)];exact fG (n - (i+1)) (by omega) ⟨by omega,rfl,by rw [hsu]; exact ot,ok⟩
  ·have q2:=dF q2;obtain rfl:n=i:=by omega
   have okg:=ok3.trans ok;have mbg:=mb3.ok ok;have eo:js L n=tS M:=zS hnl hL;rw [eo] at ot;refine ⟨_,mbg.all,(E5 okg.wf gd sm.sts (fun s hs=> ?_) mbg.row ot.rd (um M)).mono ?_⟩
   ·obtain ⟨j,hj,e⟩:=List.mem_iff_getElem.1 hs;exact (eD sm (i:=j) (by rw [gE hj,e])).1
   ·intro v g5 hq;exact Bj w okg (ok.ext _ _ k43) n0 hq
def rN (L:List Bool)(n i:Nat):List Value:=(List.range n).map fun x=> .int .i64 (if x < i then cR (js L i) 0 x else 0)
theorem ze (L:List Bool)(n i:Nat):(rN L n i).length=n:=by simp [rN]
theorem EZ (L:List Bool)(n:Nat):(List.replicate n 0).map iv=rN L n 0:=by
 refine List.ext_getElem? fun x=> ?_;unfold rN;rw [getElem?_map,getElem?_map,List.getElem?_replicate];by_cases h:x < n
 ·rw [getElem?_range h,if_pos h]; rfl
 ·rw [if_neg h,List.getElem?_eq_none (by simpa using h)]; rfl
theorem Fm (L:List Bool)(n:Nat):rN L n n=sx n (js L n):=by
 unfold rN sx;refine List.map_congr_left fun x hx=> ?_;rw [if_pos (mem_range.1 hx)]
theorem Fi (L:List Bool){n i:Nat}(hi:i < n):rN L n (i+1)=(rN L n i).set i (.int .i64 (cR (js L (i+1)) 0 i)):=by
 refine List.ext_getElem? fun x=> ?_;unfold rN;rw [getElem?_set,getElem?_map,getElem?_map,lM,List.length_range];have hni:i ∉ js L i:=fun h=>Nat.lt_irrefl _ (z7 h);by_cases h:x < n
 ·rw [getElem?_range h];simp only [map_some];by_cases e:i=x
  ·subst e;rw [if_pos rfl,if_pos hi,if_pos (Nat.lt_succ_self i)]
  ·rw [if_neg e];by_cases h2:x < i
   ·rw [if_pos (by omega),if_pos h2,kU];split
    ·rw [nP _ _ _ _ hni,if_neg (fun e'=>e e'.symm)]
    ·rw [append_nil]
   ·rw [if_neg (by omega),if_neg h2]
 ·rw [List.getElem?_eq_none (by simpa using h)];by_cases e:i=x
  ·omega
  ·rw [if_neg e]; rfl
theorem Jp {L:List Bool}{i:Nat}(h:L.getD i false=true):cR (js L (i+1)) 0 i=((js L i).length:Nat):=by
 have hni:i ∉ js L i:=fun h=>Nat.lt_irrefl _ (z7 h);rw [kU,if_pos h,nP _ _ _ _ hni,if_pos rfl,zero_add]
theorem FA {L:List Bool}{i:Nat}(h:L.getD i false=false):cR (js L (i+1)) 0 i = -1:=by
 have hni:i ∉ js L i:=fun h=>Nat.lt_irrefl _ (z7 h);rw [kU,if_neg (by rw [h]; exact Bool.false_ne_true),append_nil];exact Classical.not_not.1 (mt (nB _ _ _).1 hni)
def uI (hb:Heap)(ke:Nat)(L:List Bool)(n:Nat)(mz i:Nat)(t:Option Addr)(tn tc:Nat)(g:Heap):Prop:=i<=n/\mz=n - i/\OwnG hb g 3 (.slice t tn tc) ((js L i).map iv)/\IRow hb ke 3 (rN L n i) g/\(∀ j,aG (.slice t tn tc)=some j->ke < j)
theorem Bk (w:Wf h)(sm:Small M)(r:StRow h (.slice a n c) M.states):FW SS 24 [.agg ⟨aC M a n c⟩] h (oD h (bu M)):=by
 obtain ⟨mb0,ok0⟩:=cD w r;have hnl:n=M.states.length:=mb0.len;have hn:n<=300:=by rw [hnl]; exact sm.sts
 refine K7 (aC M a n c) h _ ⟨_,ei M a n c,_,iU,?_⟩;have n0:h.next<=(h.push (Bm M a n c)).next:=ok0.nx;generalize h.push (Bm M a n c)=g0 at *;have k4:=aq g0 eG;have o1:=(Ok.refl ok0.wf).push eG;have ok1:=ok0.trans o1;have mb1:=mb0.ok o1;generalize g0.push eG=g1 at *;generalize g0.next=K at *;refine ⟨_,mb1.all,(Il ok1.wf sm mb1.row).mono ?_⟩;rintro _ g2 ⟨rfl,o2⟩;have ok2:=ok1.trans o2;have mb2:=mb1.ok o2;have k42:=o2.ext _ _ k4;refine ⟨_,rfl,ae (fun q=> ?_) (fun q=> ?_)⟩
 ·have q:bq M=false:=by simpa using q
  rw [nJ q];exact ⟨_,vT,ja w ok2 k42 n0 (R:=(kK,1)) (ps:=[]) rfl (OwnM.nil h g2) (Ok.refl w) (.inr ⟨rfl,rfl,rfl,rfl⟩)⟩
 have q:bq M=true:=by simpa using q
 have gd:=mY q;have h0:=gd.start0;have h1:=gd.start1;refine ⟨_,mb2.all,(Dy ok2.wf sm gd mb2.row).mono ?_⟩;rintro _ g3 ⟨kl,L,rfl,br,hL⟩;have o3:=br.row.ok;have ok3:=ok2.trans o3;have mb3:=mb2.ok o3;have k43:=o3.ext _ _ k42;obtain ⟨S,hS⟩: ∃ S:Nat,M.start=(S:Int):=⟨M.start.toNat,by omega⟩
 have hSt:M.start.toNat=S:=by omega
 have hSn:S < n:=by omega
 have lS:=mb3.l1;rw [hS] at lS;obtain ⟨x1,x2⟩:=gh (c:=n) br.row.row br.len hSn;refine ⟨_,_,_,rfl,_,dG _,_,lS,_,x1,_,x2,ae (fun q1=> ?_) (fun q1=> ?_)⟩
 ·have q1:L.getD S false=false:=by simpa using q1
  have hu: ¬ fO M M.start.toNat:=by rw [hSt,<-hL S hSn,q1]; exact Bool.false_ne_true
  rw [pX q hu];refine ⟨_,eu _,_,mb3.l0,(tC M.kind ok3.wf).mono ?_⟩;intro v g4 hq;exact BC w ok3 k43 n0 hq
 ·have q1:L.getD S false=true:=by simpa using q1
  have hu:fO M M.start.toNat:=by rw [hSt,<-hL S hSn]; exact q1
  rw [qL q hu];have mk:=M5 n (by omega);rw [EZ L n] at mk;refine ⟨_,aM _,_,_,_,mb3.l3,_,_,_,mk,?_⟩;have oE:=(Ok.refl ok3.wf).push (.cells (rN L n 0) 3 1 true);have kE:=aq g3 (.cells (rN L n 0) 3 1 true);refine sd (aC M a n c) h.next K (some ⟨kl,0,none⟩) n n (some ⟨g3.next,0,none⟩) n n (uI g3 g3.next L n) _ (fun mz i t tn tc=> ?_) n (i:=0) ⟨zero_le _,rfl,OwnG.nil _ _ _,⟨kE,le_refl _,oE⟩,fun j hj=>(by cases hj)⟩;intros; rename_i g hin;obtain ⟨f1,rfl,ot,ir,htk⟩:=hin;have ok:=ir.ok;have okg:=ok3.trans ok;have mbg:=mb3.ok ok;refine ⟨_,aM _,_,_,_,mbg.l3,ae (fun q2=> ?_) (fun q2=> ?_)⟩
  ·have q2:=dT q2;have hi:i < n:=by omega
   have ix:=zD (P:=SS.P) gP tF (k:=g3.next) (off:=0) (n:=n) (c:=n) (ik:= .i64) (i:=(i:Int)) (by omega) (by omega);rw [Int.toNat_natCast,zero_add,Nat.mul_one] at ix;have st1:=fB (t:=3) tF ir.row (i:=i) (by rw [ze]; exact hi) (v:= .int .i64 (-1)) rfl rfl;have ir1:=ir.set ok3.wf i (.int .i64 (-1));have ot1:OwnG g3 ((Upd.set g3.next (.cells ((rN L n i).set i (.int .i64 (-1))) 3 1 true)).app g) 3 (.slice t tn tc) ((js L i).map iv):=ot.keep fun k' B hk' hB=>by
    show (g.set g3.next _).get k'=_;rw [Heap.get_set,if_neg (fun e=>by have:=htk k' hk'; omega)]; exact hB
   refine ⟨_,ix,_,st1,?_⟩;generalize (Upd.set g3.next (.cells ((rN L n i).set i (.int .i64 (-1))) 3 1 true)).app g=gA at *;obtain ⟨y1,y2⟩:=gh (c:=n) (ir1.ok.ext _ _ br.row.row) br.len hi;have hsu:=kU L i;have hrs:=Fi L hi;have hl:=Bt L i;have htn:tn=(js L i).length:=by
    obtain ⟨a',c',e⟩:=ot.slc;injection e with _ e _
    rw [e,lM]
   refine ⟨_,y1,_,y2,ae (fun q3=> ?_) (fun q3=> ?_)⟩
   ·rw [if_pos q3] at hsu;rw [Jp q3] at hrs;have st2:=fB (t:=3) tF ir1.row (i:=i) (by rw [length_set,ze]; exact hi) (v:= .int .i64 (tn:Int)) rfl rfl;have ir2:=ir1.set ok3.wf i (.int .i64 (tn:Int));rw [List.set_set,htn,<-hrs] at ir2;rw [List.set_set,htn,<-hrs] at st2;have ot2:OwnG g3 ((Upd.set g3.next (.cells (rN L n (i+1)) 3 1 true)).app gA) 3 (.slice t tn tc) ((js L i).map iv):=ot1.keep fun k' B hk' hB=>by
     show (gA.set g3.next _).get k'=_;rw [Heap.get_set,if_neg (fun e=>by have:=htk k' hk'; omega)]; exact hB
    refine ⟨_,ix,_,(by rw [htn]; exact st2),?_⟩;generalize (Upd.set g3.next (.cells (rN L n (i+1)) 3 1 true)).app gA=gB at *;have oP:=(Ok.refl ir2.ok.wf).push (.cells [.int .i64 (i:Int)] 3 1 true);have kP:=aq gB (.cells [.int .i64 (i:Int)] 3 1 true);obtain ⟨b,n',c',u,a1,a2,a3,a4,a5,a6,a7⟩:=xH ok3.wf (ir2.ok.trans oP) (ot2.ok oP) kP (by rw [lM]; omega);refine ⟨_,_,_,jR _,b,n',c',u,a1,?_⟩;dsimp only;rw [az hi (by omega)];have hke:g3.next < gB.next:=ir2.ok.wf _ _ ir2.row;refine fG (n - (i+1)) (by omega) ⟨by omega,rfl,?_,⟨a5 _ _ (oP.ext _ _ ir2.row) (fun e=>by have:=htk _ e; omega),le_refl _,a4⟩,fun j hj=> ?_⟩
    ·rw [hsu,map_append];exact a3
    ·rcases a6 j hj with h | h
     ·have:=oP.nx; omega
     ·exact htk j h
   ·rw [if_neg (by rw [q3]; exact Bool.false_ne_true),append_nil] at hsu;rw [FA q3] at hrs;rw [az hi (by omega)];rw [<-hrs] at ir1;exact fG (n - (i+1)) (by omega) ⟨by omega,rfl,by rw [hsu]; exact ot1,ir1,htk⟩
  ·have q2:=dF q2;obtain rfl:n=i:=by omega
   have eo:js L n=tS M:=zS hnl hL;have rn:=ir.rd n;rw [ze,Fm,eo] at rn;rw [eo] at ot;have rn2:Rd g 3 (.slice (some ⟨g3.next,0,none⟩) n n) (sx M.states.length (tS M)):=hnl ▸ rn;refine ⟨_,mbg.all,(EV okg.wf gd sm.sts (fun s hs=> ?_) mbg.row ot.rd rn2 (um M)).mono ?_⟩
   ·obtain ⟨j,hj,e⟩:=List.mem_iff_getElem.1 hs;exact (eD sm (i:=j) (by rw [gE hj,e])).1
   ·intro v g5 hq;exact Bj w okg (ok.ext _ _ k43) n0 hq
end
end
section
theorem PI (f:List UInt8)(a:Option Addr)(n c:Nat):aI SS.P 37 [(0,(aa f)),(1,(.slice a n c))]=some (.agg ⟨[aa f,.slice a n c]⟩):=by cases a <;> kernel_rfl
theorem E7 {hb g:Heap}{v:Value}{ps:List (MSt×Value)}(m:OwnM hb g v ps):dY 4 v v=true:=by
 obtain ⟨_,⟨h1,_⟩ | ⟨k,off,cs,c,h1,_⟩⟩:=m.row
 ·rw [h1]; simp [dY]
 ·rw [h1]; simp [dY]
theorem OG {g:Heap}{v:Value}{l:List MSt}(r:StRow g v l):dY 4 v v=true:=by
 obtain ⟨ps,_,⟨_,⟨h1 | h1,_⟩ | ⟨k,off,cs,e',z,c,wr,h1,_⟩⟩,_,nd⟩:=r
 ·rw [h1]; simp [dY]
 ·exact absurd h1 nd
 ·rw [h1]; simp [dY]
section
variable {h:Heap} {M:Mach} {a:Option Addr} {n c:Nat}
def cI (hb:Heap)(M:Mach)(k3:Nat)(mz i:Nat)(g:Heap):Prop:=i<=M.states.length/\mz=M.states.length - i/\ ∃ a n c ps,ps.map (·.1)=M.states.take i/\SnI hb k3 M a n c ps g
theorem Gf (w:Wf h)(hN:M.states.length<=100000)(hA: ∀ s∈M.states,s.arcs.length<=100000)(r:StRow h (.slice a n c) M.states):FW SS 22 [.agg ⟨aC M a n c⟩] h (JF h M):=by
 obtain ⟨mb0,ok0⟩:=cD w r;have hnl:n=M.states.length:=mb0.len;refine H8 (aC M a n c) h _ ⟨_,ei M a n c,_,iU,?_⟩;have ok4:=ok0.push eG;have k4:=aq (h.push (Bm M a n c)) eG;have mb4:=mb0.ok ((Ok.refl ok0.wf).push eG);have n4:h.next<=(h.push (Bm M a n c)).next:=ok0.nx;generalize h.push (Bm M a n c)=g0 at *;generalize hK4:g0.next=K4 at *;generalize g0.push eG=g4 at *;have o2:=(Ok.refl ok4.wf).push eG;have k3:=aq g4 eG;refine ⟨_,eu _,_,mb4.l0,_,dG _,_,mb4.l1,_,jq _,_,mb4.l2,_,KO _ _ _,_,iU,?_⟩;dsimp only;generalize g4.push eG=S2 at *;have pa:=bO (t:=24) ej (cs0:=[.int .i64 0,.int .i64 0,aa [],.slice none 0 0]) rfl k3 (cs:=aC M none 0 0) rfl rfl;obtain ⟨o3,k3'⟩:=cG (cs:=aC M none 0 0) ok4.wf o2 k3 (by omega);refine ⟨_,pa,?_⟩;generalize (Upd.set g4.next (.cells (aC M none 0 0) 24 0 true)).app S2=g15 at *;have si:SnI g4 g4.next M none 0 0 [] g15:=⟨OwnM.nil _ _,o3,k3',fun j hj=>(by cases hj),fun i p hp=>(by simp at hp),le_refl _⟩
 refine qD (aC M a n c) h.next K4 g4.next (cI g4 M g4.next) _ (fun mz i=> ?_) M.states.length (i:=0) ⟨zero_le _,rfl,none,0,0,[],rfl,si⟩;intros; rename_i g hin;obtain ⟨f1,rfl,a0,n0,c0,ps,hps,si⟩:=hin;have okg:=ok4.trans si.ok;have mbg:=mb4.ok si.ok;refine ⟨_,aM _,_,_,_,mbg.l3,ae (fun q1=> ?_) (fun q1=> ?_)⟩
 ·have q1:=dT q1;have hi:i < M.states.length:=by omega
  obtain ⟨s,hs⟩:=gf (M:=M) (i:=i) hi;have oR:=(Ok.refl okg.wf).room 20;have siR:=si.ext oR;have mbR:=mbg.ok oR;obtain ⟨bb,o,x',y,z,j1,j2,j3,j4,ar⟩:=mb4.row.at2 (si.ok.trans oR) hs;have hal:=hA s (List.mem_of_getElem? hs);obtain ⟨b2,n2,c2,u,p1,p2,p3,p4,p5,p6⟩:=JE ok4.wf siR.ok (ar.ok siR.ok) hal;have oC:Ok (Go.Ab.room g 20) (u.app (Go.Ab.room g 20)):=⟨p3.wf,p4,p6⟩
  obtain ⟨oS,kS⟩:=zg okg.wf (n:=20) (j:=16) (by omega) oC (.cells [aa s.f,.slice b2 n2 c2] 37 2 true);have si44:=siR.ext oC;have mb44:=mbR.ok oC;obtain ⟨bb',o',x'',y',z',i1,i2,i3,i4,_⟩:=mb4.row.at2 si44.ok hs;have hpp:(⟨bb',o',none⟩:Addr)=⟨bb,o,none⟩:=by
   have:=j1.symm.trans i1;injection this with this; injection this with this; injection this with this; exact this.symm
  have hb':bb'=bb:=by injection hpp
  have ho':o'=o:=by injection hpp
  subst hb'; subst ho';have siS:=si.ext oS;have p2S:OwnK g4 (aB (u.app (Go.Ab.room g 20)) g.next [(16,.cells [aa s.f,.slice b2 n2 c2] 37 2 true)]) 39 4 (.slice b2 n2 c2) (s.arcs.map aD):=p2.keep fun k B hk hB=>by
   show ((u.app (Go.Ab.room g 20)).set (g.next+16) _).get k=_;have:=p5 k hk;have e:(Go.Ab.room g 20).next=g.next+20:=rfl;rw [Heap.get_set,if_neg (by omega)]; exact hB
  refine ⟨_,aM _,_,_,_,siR.l3,_,aM _,_,_,_,mbR.l3,_,j1,_,fY _ _,_,j3,_,aM _,_,_,_,mbR.l3,_,j1,_,bm _ _,_,_,_,j4,b2,n2,c2,u,p1,_,PI _ _ _ _,_,_,_,PW _ _ _ _,?_⟩;have hpl:ps.length<=100000:=by
   have:=congrArg List.length hps;rw [lM,length_take] at this;omega
  obtain ⟨a',n',c',u1,v1,u2,v2,v3⟩:=siS.snoc ok4.wf p2S (f:=s.f) (fun kk hkk=>by
   have h1:=p5 kk hkk;have e:(Go.Ab.room g 20).next=g.next+20:=rfl;have h2:=si.ok.wf _ _ si.box;refine ⟨by omega,fun e=> ?_,fun i' p hp e=> ?_⟩
   ·have:=(si.own.row.lt okg.wf e).1; omega
   ·have:=((si.own.arcs i' p hp).lt okg.wf e).1; omega) kS hpl
  refine ⟨a',n',c',u1,v1,_,aM _,u2,v2,⟨si44.l3,E7 si44.own⟩,⟨mb44.l3,OG mb44.row⟩,⟨i3,qk _⟩,?_⟩;rw [az hi (by omega)];refine bp (M.states.length - (i+1)) (by omega) ⟨by omega,rfl,a',n',c',_,?_,v3⟩;rw [map_append,hps,take_add_one,hs]; rfl
 ·have q1:=dF q1;obtain rfl:i=M.states.length:=by omega
  rw [take_of_length_le (le_refl _)] at hps;have k4G:=si.ok.ext _ _ k4;have hK:K4 < g4.next:=ok4.wf _ _ k4;have pa2:=bO (t:=24) ej (cs0:=[.int .i64 0,.int .i64 0,aa [],.slice none 0 0]) rfl k4G (cs:=aC M a0 n0 c0) rfl (dK _ _ _ _);obtain ⟨o5,k5⟩:=cG (cs:=aC M a0 n0 c0) w okg k4G (by omega);refine ⟨_,si.all,_,pa2,nC (v:= .agg ⟨aC M a0 n0 c0⟩) (fJ wC vV ej k5 (by simp [aC])) ?_⟩;refine ⟨_,_,_,ps,rfl,hps,?_,o5⟩;exact si.own.low ok4 (fun j B hj hne=>by
   show (g.set K4 _).get j=_;rw [Heap.get_set,if_neg (by omega)]; exact hj)
end
end
noncomputable def di:FD:=bF Tryz.f29 [([1,1,0,1,0,0],[2,3,5]),([1,1,0,1,0,0,1,0,0,1,1,1,0,0],[2,3,5,6,7,8])]
abbrev el (k2 k3:Nat)(i:Nat):LV:=[(pA k2),(pA k3),(iA i)]
abbrev it (k2 k3 k6 k7 i:Nat)(j:Nat):LV:=[(pA k2),(pA k3),(iA i),(pA k6),(pA k7),(iA j)]
theorem KP (mv nv:LV)(h:Heap)(Q:VH)(hx:xN (dc SS.P 24 (.agg ⟨mv⟩)) h fun B1 g2=>xN (dc SS.P 24 (.agg ⟨nv⟩)) g2 fun B3 g4=>xP (af SS.P 24 (pA (h.next)) 0) fun p5=>xI .i64 (ah SS.P 3 g4 (.pointer (some p5))) fun n6=>xP (af SS.P 24 (pA (g2.next)) 0) fun p7=>xI .i64 (ah SS.P 3 g4 (.pointer (some p7))) fun n8=>au (((n6:Int) != n8)) (Q (.bool false) g4) (xP (af SS.P 24 (pA (h.next)) 1) fun p9=>xI .i64 (ah SS.P 3 g4 (.pointer (some p9))) fun n10=>xP (af SS.P 24 (pA (g2.next)) 1) fun p11=>xI .i64 (ah SS.P 3 g4 (.pointer (some p11))) fun n12=>au (((n10:Int) != n12)) (Q (.bool false) g4) (xP (af SS.P 24 (pA (h.next)) 2) fun p13=>xS (ah SS.P 9 g4 (.pointer (some p13))) fun l14=>xP (af SS.P 24 (pA (g2.next)) 2) fun p15=>xS (ah SS.P 9 g4 (.pointer (some p15))) fun l16=>au (!((l14:LB) == l16)) (Q (.bool false) g4) (xP (af SS.P 24 (pA (h.next)) 3) fun p17=>xL (ah SS.P 22 g4 (.pointer (some p17))) fun a18 n19 c20=>xP (af SS.P 24 (pA (g2.next)) 3) fun p21=>xL (ah SS.P 22 g4 (.pointer (some p21))) fun a22 n23 c24=>au ((((n19:Int):Int) != (n23:Int))) (Q (.bool false) g4) (LL SS di [1,1,0,1,0,0] (el (h.next) (g2.next) 0) g4 (KK SS di [1,1,0,1,0] [] (EE SS di Q))))))):FW SS 29 [(.agg ⟨mv⟩),(.agg ⟨nv⟩)] h Q:=bG di Tryz.func29 (aj hx)
theorem sy (mv nv:LV)(k2 k3:Nat)(Inv:Nat->Nat->Heap->Prop)(Q:VH)(step: ∀ (mz:Nat) (i:Nat) (zz:Nat->Value) (h:Heap),Inv mz i h->xP (af SS.P 24 (pA k2) 3) fun p25=>xL (ah SS.P 22 h (.pointer (some p25))) fun a26 n27 c28=>au (decide (((i:Int):Int) < (n27:Int))) (xP (af SS.P 24 (pA k2) 3) fun p29=>xL (ah SS.P 22 (room h 14) (.pointer (some p29))) fun a30 n31 c32=>xP (ag SS.P 22 (.slice a30 n31 c32) (iA i)) fun p33=>xA (ah SS.P 37 (room h 14) (.pointer (some p33))) fun c34=>xP (af SS.P 24 (pA k3) 3) fun p35=>xL (ah SS.P 22 (room h 14) (.pointer (some p35))) fun a36 n37 c38=>xP (ag SS.P 22 (.slice a36 n37 c38) (iA i)) fun p39=>xA (ah SS.P 37 (room h 14) (.pointer (some p39))) fun c40=>zN (aF SS.P 37) fun B41=>zN (aF SS.P 37) fun B42=>xU (ai SS.P 37 (pA (h.next+10)) (.agg ⟨c34⟩) (aB (room h 14) h.next [(11,B42),(10,B41)])) (aB (room h 14) h.next [(11,B42),(10,B41)]) fun u43 g44=>xU (ai SS.P 37 (pA (h.next+11)) (.agg ⟨c40⟩) g44) g44 fun u45 g46=>(ah SS.P 22 g44 (.pointer (some p35))=some (.slice a36 n37 c38)/\dY 4 (.slice a36 n37 c38) (.slice a36 n37 c38)=true)/\(ah SS.P 37 g44 (.pointer (some p39))=some (.agg ⟨c40⟩)/\dY 4 (.agg ⟨c40⟩) (.agg ⟨c40⟩)=true)/\xP (af SS.P 37 (pA (h.next+10)) 0) fun p47=>xS (ah SS.P 9 g46 (.pointer (some p47))) fun l48=>xP (af SS.P 37 (pA (h.next+11)) 0) fun p49=>xS (ah SS.P 9 g46 (.pointer (some p49))) fun l50=>au (!((l48:LB) == l50)) (Q (.bool false) g46) (xP (af SS.P 37 (pA (h.next+10)) 1) fun p51=>xL (ah SS.P 35 g46 (.pointer (some p51))) fun a52 n53 c54=>xP (af SS.P 37 (pA (h.next+11)) 1) fun p55=>xL (ah SS.P 35 g46 (.pointer (some p55))) fun a56 n57 c58=>au ((((n53:Int):Int) != (n57:Int))) (Q (.bool false) g46) (LL SS di [1,1,0,1,0,0,1,0,0,1,1,1,0,0] (it k2 k3 (h.next+10) (h.next+11) i 0) g46 (KK SS di [1,0,0,1,1,1,0] [1,1,0,1,0,0] (RR di [1,1,0,1,0,0] (fA (el k2 k3) Inv) mz (KK SS di [1,1,0,1,0] [] (EE SS di Q))))))) (Q (.bool true) h))(mz:Nat){i:Nat}{h:Heap}(hi:Inv mz i h):LL SS di [1,1,0,1,0,0] (el k2 k3 i) h (KK SS di [1,1,0,1,0] [] (EE SS di Q)):=
 bH (el k2 k3) Inv (fun mz i zz h hi=>aj (step mz i zz h hi)) mz hi
theorem sI (mv nv:LV)(k2 k3 k6 k7:Nat)(Inv:Nat->Nat->Heap->Prop)(mz i:Nat)(Inv2:Nat->Nat->Heap->Prop)(Q:VH)(step: ∀ (mz2:Nat) (j:Nat) (zz:Nat->Value) (h:Heap),Inv2 mz2 j h->xP (af SS.P 37 (pA k6) 1) fun p59=>xL (ah SS.P 35 h (.pointer (some p59))) fun a60 n61 c62=>au (decide (((j:Int):Int) < (n61:Int))) (xP (af SS.P 37 (pA k6) 1) fun p63=>xL (ah SS.P 35 (room h 11) (.pointer (some p63))) fun a64 n65 c66=>xP (ag SS.P 35 (.slice a64 n65 c66) (iA j)) fun p67=>xA (ah SS.P 39 (room h 11) (.pointer (some p67))) fun c68=>xP (af SS.P 37 (pA k7) 1) fun p69=>xL (ah SS.P 35 (room h 11) (.pointer (some p69))) fun a70 n71 c72=>xP (ag SS.P 35 (.slice a70 n71 c72) (iA j)) fun p73=>xA (ah SS.P 39 (room h 11) (.pointer (some p73))) fun c74=>xB (al SS.P .neq 39 (.agg ⟨c68⟩) (.agg ⟨c74⟩)) fun b75=>au b75 (Q (.bool false) (room h 11)) (ax (fA (it k2 k3 k6 k7 i) Inv2) mz2 [(pA k2),(pA k3),(iA i),(pA k6),(pA k7),(.int .i64 (wrap .i64 ((j:Int)+1)))] (room h 11))) (ax (fA (el k2 k3) Inv) mz [(pA k2),(pA k3),(.int .i64 (wrap .i64 ((i:Int)+1)))] h))(mz2:Nat){j:Nat}{h:Heap}(hi:Inv2 mz2 j h):LL SS di [1,1,0,1,0,0,1,0,0,1,1,1,0,0] (it k2 k3 k6 k7 i j) h (KK SS di [1,0,0,1,1,1,0] [1,1,0,1,0,0] (RR di [1,1,0,1,0,0] (fA (el k2 k3) Inv) mz (KK SS di [1,1,0,1,0] [] (EE SS di Q)))):=
 bH (it k2 k3 k6 k7 i) Inv2 (fun mz2 j zz h hi=>aj (step mz2 j zz h hi)) mz2 hi
section
theorem QL (p q:MArc):jy SS.P 39 (.agg ⟨aD p⟩) (.agg ⟨aD q⟩)=cond (p.i == q.i) (cond (p.o == q.o) (cond (p.w == q.w) (cond (p.t == q.t) (some true) (some false)) (some false)) (some false)) (some false):=by kernel_rfl
noncomputable def Le {α:Type}(x y:α):Bool:=@decide (x=y) (Classical.propDecidable _)
theorem iI {α:Type}{x y:α}(h:x=y):Le x y=true:=@decide_eq_true _ (Classical.propDecidable _) h
theorem fH {α:Type}{x y:α}(h:x≠y):Le x y=false:=@decide_eq_false _ (Classical.propDecidable _) h
theorem NJ (p q:MArc):al SS.P .neq 39 (.agg ⟨aD p⟩) (.agg ⟨aD q⟩)=some (.bool (!Le p q)):=by
 show (jy SS.P 39 (.agg ⟨aD p⟩) (.agg ⟨aD q⟩)).map (fun b=>Value.bool !b)=_;rw [QL];by_cases h:p=q
 ·subst h;rw [iI rfl];simp
 ·rw [fH h]
  cases h1:p.i == q.i with
  | false=>rfl
  | true=>
   cases h2:p.o == q.o with
   | false=>rfl
   | true=>
    cases h3:p.w == q.w with
    | false=>rfl
    | true=>
     cases h4:p.t == q.t with
     | false=>rfl
     | true=>
      refine absurd ?_ h
      cases p; cases q
      simp at h1 h2 h3 h4;simp [h1,h2,h3,h4]
theorem M1 {hb g:Heap}{p:MSt×Value}{rs:List (List Value)}(o:OwnK hb g 39 4 p.2 rs):dY 4 (.agg ⟨gG p⟩) (.agg ⟨gG p⟩)=true:=by
 obtain ⟨_,⟨h1,_⟩ | ⟨k,off,cs,c,h1,_⟩⟩:=o
 ·unfold gG; rw [h1]; simp [dY,CW,aa]
 ·unfold gG; rw [h1]; simp [dY,CW,aa]
section
variable {h:Heap} {A B:Mach} {a:Option Addr} {n c:Nat} {b:Option Addr} {m d:Nat}
theorem lT {A B:Mach}(h:A=B):A.kind=B.kind/\A.start=B.start/\A.lead=B.lead/\A.states=B.states:=by subst h; exact ⟨rfl,rfl,rfl,rfl⟩
theorem FT {A B:Mach}(h1:A.kind=B.kind)(h2:A.start=B.start)(h3:A.lead=B.lead)(h4:A.states=B.states):A=B:=by cases A; cases B; simp_all
def Pj (hb:Heap)(A B:Mach)(mz i:Nat)(g:Heap):Prop:=i<=A.states.length/\mz=A.states.length - i/\Ok hb g/\A.states.take i=B.states.take i
def QU (hb:Heap)(s s':MSt)(mz j:Nat)(g:Heap):Prop:=j<=s.arcs.length/\mz=s.arcs.length - j/\Ok hb g/\s.arcs.take j=s'.arcs.take j
def Ig (h:Heap)(b:Bool):VH:=fun v h'=>v = .bool b/\Ok h h'
set_option linter.defProp false in
def CN {h0 hb hI:Heap}(w:Wf h0)(ok0:Ok h0 hb){k2 k3 k6 k7 i:Nat}{s s':MSt}(hs:A.states[i]?=some s)(hs':B.states[i]?=some s')(hf:s.f=s'.f)(hl:s.arcs.length=s'.arcs.length)(hpre:A.states.take i=B.states.take i)(hA:s.arcs.length<=100000)(hN:A.states.length<=100000)(okb:Ok hb hI){x:Option Addr}{y z:Nat}{x':Option Addr}{y' z':Nat}(s6:SB hI k6 s.f x y z)(s7:SB hI k7 s'.f x' y' z')(ar:ArcRow hI (.slice x y z) s.arcs)(ar':ArcRow hI (.slice x' y' z') s'.arcs)(mz:Nat)(hmz:mz=A.states.length - i)(mv nv:List Value):=
 sI mv nv k2 k3 k6 k7 (Pj hb A B) mz i (QU hI s s') (Ig h0 (Le A B)) (by
  intro mz2 j; intros; rename_i g hin;obtain ⟨f1,rfl,ok,hp⟩:=hin;have hi:i < A.states.length:=(List.getElem?_eq_some_iff.1 hs).1;have l1:=ar.len;have l2:=ar'.len;refine ⟨_,bm _ _,_,_,_,(s6.ok ok).l1,ae (fun q=> ?_) (fun q=> ?_)⟩
  ·have q:=dT q;have oR:=(Ok.refl ok.wf).room 11;have okR:=ok.trans oR;obtain ⟨p1,hp1⟩: ∃ p,s.arcs[j]?=some p:=⟨_,gE (by omega)⟩
   obtain ⟨p2,hp2⟩: ∃ p,s'.arcs[j]?=some p:=⟨_,gE (by omega)⟩
   obtain ⟨b1,o1,d1,d2,_⟩:=(ar.ok okR).at_ hp1;obtain ⟨b2,o2,e1,e2,_⟩:=(ar'.ok okR).at_ hp2;refine ⟨_,bm _ _,_,_,_,(s6.ok okR).l1,_,d1,_,d2,_,bm _ _,_,_,_,(s7.ok okR).l1,_,e1,_,e2,_,NJ _ _,ae (fun q2=> ?_) (fun q2=> ?_)⟩
   ·have hne:p1≠p2:=fun e=>by rw [iI e] at q2; cases q2
    refine ⟨?_,(ok0.trans okb).trans okR⟩;rw [fH];intro e;have:=(lT e).2.2.2;rw [this,hs'] at hs;obtain rfl:=oI hs;rw [hp1] at hp2;exact hne (oI hp2)
   ·have hne:p1=p2:=Classical.byContradiction fun e=>by rw [fH e] at q2; cases q2
    rw [az (n:=s.arcs.length) (by omega) (by omega)];refine bp (s.arcs.length - (j+1)) (by omega) ⟨by omega,rfl,okR,?_⟩;rw [take_add_one,take_add_one,hp1,hp2,hp,hne]
  ·have q:=dF q;have hj:j=s.arcs.length:=by omega
   rw [take_of_length_le (by omega),take_of_length_le (by omega)] at hp;rw [az hi (by omega)];refine bp (A.states.length - (i+1)) (by omega) ⟨by omega,rfl,okb.trans ok,?_⟩;have hss:s=s':=by cases s; cases s'; simp_all
   rw [take_add_one,take_add_one,hs,hs',hpre,hss])
theorem m6 (w:Wf h)(hN:A.states.length<=100000)(hA: ∀ s∈A.states,s.arcs.length<=100000)(r:StRow h (.slice a n c) A.states){h1:Heap}{ps:List (MSt×Value)}(om:OwnM h1 h (.slice b m d) ps)(hps:ps.map (·.1)=B.states):FW SS 29 [.agg ⟨aC A a n c⟩,.agg ⟨aC B b m d⟩] h (Ig h (Le A B)):=by
 have rB:StRow h (.slice b m d) B.states:=hps ▸ om.st;obtain ⟨mb0,ok0⟩:=cD w r;have om0:=om.ok ok0;have rB0:=rB.ok ok0;refine KP (aC A a n c) (aC B b m d) h _ ⟨_,ei A a n c,_,ei B b m d,?_⟩;generalize h.push (Bm A a n c)=g0 at *;obtain ⟨mc1,ok1⟩:=cD ok0.wf rB0;have mb1:=mb0.ok ok1;have om1:=om0.ok ok1;have okB:=ok0.trans ok1;generalize g0.push (Bm B b m d)=g1 at *;generalize g0.next=K3 at *;have hnl:=mb1.len;have hml:=mc1.len;have nk: ∀ {P:Prop},(A=B->P)-> ¬ P->Le A B=false:=fun f hP=>fH fun e=>hP (f e);refine ⟨_,eu _,_,mb1.l0,_,eu _,_,mc1.l0,ae (fun q=> ?_) (fun q=> ?_)⟩
 ·exact ⟨by rw [nk (fun e=>(lT e).1) (by simpa using q)],okB⟩
 have e0:A.kind=B.kind:=by simpa using q
 refine ⟨_,dG _,_,mb1.l1,_,dG _,_,mc1.l1,ae (fun q=> ?_) (fun q=> ?_)⟩
 ·exact ⟨by rw [nk (fun e=>(lT e).2.1) (by simpa using q)],okB⟩
 have e1:A.start=B.start:=by simpa using q
 refine ⟨_,jq _,_,mb1.l2,_,jq _,_,mc1.l2,ae (fun q=> ?_) (fun q=> ?_)⟩
 ·exact ⟨by rw [nk (fun e=>(lT e).2.2.1) (by simpa using q)],okB⟩
 have e2:A.lead=B.lead:=by simpa using q
 refine ⟨_,aM _,_,_,_,mb1.l3,_,aM _,_,_,_,mc1.l3,ae (fun q=> ?_) (fun q=> ?_)⟩
 ·refine ⟨?_,okB⟩;rw [fH];intro e;have:=(lT e).2.2.2;rw [hnl,hml,this] at q;simp at q
 have e3:A.states.length=B.states.length:=by
  have:(n:Int)=(m:Int):=by simpa using q
  omega
 refine sy (aC A a n c) (aC B b m d) h.next K3 (Pj g1 A B) _ (fun mz i=> ?_) A.states.length (i:=0) ⟨zero_le _,rfl,Ok.refl okB.wf,rfl⟩;intros; rename_i g hin;obtain ⟨f1,rfl,ok,hpre⟩:=hin;have okg:=okB.trans ok;have mbg:=mb1.ok ok;refine ⟨_,aM _,_,_,_,mbg.l3,ae (fun q1=> ?_) (fun q1=> ?_)⟩
 ·have q1:=dT q1;have hi:i < A.states.length:=by omega
  obtain ⟨s,hs⟩:=gf (M:=A) (i:=i) hi;obtain ⟨s',hs'⟩:=gf (M:=B) (i:=i) (by omega);obtain ⟨p,hp,hp1⟩:=DW hps hs';have oR:=(Ok.refl okg.wf).room 14;have mbR:=mbg.ok oR;have mcR:=(mc1.ok ok).ok oR;have omR:=(om1.ok ok).ok oR;have hpl:0 < (ps.map gG).length:=by
   have:=(List.getElem?_eq_some_iff.1 hp).1;rw [lM]; omega
  obtain ⟨kb,off,cb,ev,_⟩:=omR.row.blk hpl;injection ev with ev1 ev2 ev3
  subst ev1;obtain ⟨i1,i2,i3⟩:=omR.at_ hp;obtain ⟨x',z',ex⟩:=(omR.arcs i p hp).slc;obtain ⟨bb,o,x,y,z,j1,j2,j3,j4,ar⟩:=mb1.row.at2 (ok.trans oR) hs;obtain ⟨o2,kA,kB⟩:=FE okg.wf (n:=14) (i:=10) (j:=11) (by omega) (by omega) (by omega) vr vr;refine ⟨_,aM _,_,_,_,mbR.l3,_,j1,_,j2,_,aM _,_,_,_,mcR.l3,_,i1,_,i3,_,sD,_,sD,?_⟩;dsimp only;generalize aB (Go.Ab.room g 14) g.next [(11,vr),(10,vr)]=S at *;have hal:=hA s (List.mem_of_getElem? hs);have pa:=bO (t:=37) wk (cs0:=[aa [],.slice none 0 0]) rfl kA (cs:=[aa s.f,.slice x y z]) rfl (by cases x <;> rfl);obtain ⟨o3,kA'⟩:=cG (cs:=[aa s.f,.slice x y z]) okg.wf o2 kA (by omega);have kB':((Upd.set (g.next+10) (.cells [aa s.f,.slice x y z] 37 0 true)).app S).get (g.next+11)=some vr:=by
   show (S.set (g.next+10) _).get (g.next+11)=_;rw [Heap.get_set,if_neg (by omega)]; exact kB
  refine ⟨_,pa,?_⟩;generalize (Upd.set (g.next+10) (.cells [aa s.f,.slice x y z] 37 0 true)).app S=g44 at *;have es:gG p=[aa s'.f,p.2]:=by unfold gG; rw [hp1]
  have pb:=bO (t:=37) wk (cs0:=[aa [],.slice none 0 0]) rfl kB' (cs:=gG p) rfl (by rw [es,ex]; cases x' <;> rfl);obtain ⟨o4,kB''⟩:=cG (cs:=gG p) okg.wf o3 kB' (by omega);have kA'':((Upd.set (g.next+11) (.cells (gG p) 37 0 true)).app g44).get (g.next+10)=some (.cells [aa s.f,.slice x y z] 37 0 true):=by
   show (g44.set (g.next+11) _).get (g.next+10)=_;rw [Heap.get_set,if_neg (by omega)]; exact kA'
  refine ⟨_,pb,⟨((mc1.ok ok).ok o3).l3,E7 (om1.ok ok)⟩,⟨(((om1.ok ok).ok o3).at_ hp).2.2,M1 (omR.arcs i p hp)⟩,?_⟩;generalize (Upd.set (g.next+11) (.cells (gG p) 37 0 true)).app g44=g46 at *;have s6:SB g46 (g.next+10) s.f x y z:=kA'';have s7:SB g46 (g.next+11) s'.f x' (p.1.arcs.map aD).length z':=by
   have:=kB'';rw [es,ex] at this; exact this
  have ar':ArcRow g46 (.slice x' (p.1.arcs.map aD).length z') s'.arcs:=by
   have:=(((om1.ok ok).ok o4).arcs i p hp).rd;rw [ex,hp1] at this;rw [hp1]; exact this
  have la:=ar.len;have la':=ar'.len;refine ⟨_,fY _ _,_,s6.l0,_,fY _ _,_,s7.l0,ae (fun q2=> ?_) (fun q2=> ?_)⟩
  ·refine ⟨?_,okg.trans o4⟩;rw [fH];intro e;have:=(lT e).2.2.2;rw [this,hs'] at hs;obtain rfl:=oI hs;simp at q2
  have hf:s.f=s'.f:=by simpa using q2
  refine ⟨_,bm _ _,_,_,_,s6.l1,_,bm _ _,_,_,_,s7.l1,ae (fun q3=> ?_) (fun q3=> ?_)⟩
  ·refine ⟨?_,okg.trans o4⟩;rw [fH];intro e;have:=(lT e).2.2.2;rw [this,hs'] at hs;obtain rfl:=oI hs;rw [la,la'] at q3;simp at q3
  have hl:s.arcs.length=s'.arcs.length:=by
   have:(y:Int)=(((p.1.arcs.map aD).length:Nat):Int):=by simpa using q3
   omega
  exact CN w okB hs hs' hf hl hpre hal hN (ok.trans o4) s6 s7 (ar.ok (ok.trans o4)) ar' _ rfl [] [] s.arcs.length (j:=0) ⟨zero_le _,rfl,Ok.refl (okg.trans o4).wf,rfl⟩
 ·have q1:=dF q1;obtain rfl:i=A.states.length:=by omega
  rw [take_of_length_le (le_refl _),take_of_length_le (by omega)] at hpre;exact ⟨by rw [iI (FT e0 e1 e2 hpre)],okg⟩
end
end
noncomputable def PK:FD:=bF Tryz.f74 []
theorem OV (av bv:LV)(h:Heap)(Q:VH)(hx:xN (dc SS.P 39 (.agg ⟨av⟩)) h fun B1 g2=>xN (dc SS.P 39 (.agg ⟨bv⟩)) g2 fun B3 g4=>xP (af SS.P 39 (pA (h.next)) 0) fun p5=>xI .i64 (ah SS.P 3 g4 (.pointer (some p5))) fun n6=>xP (af SS.P 39 (pA (g2.next)) 0) fun p7=>xI .i64 (ah SS.P 3 g4 (.pointer (some p7))) fun n8=>au (((n6:Int) != n8)) (xP (af SS.P 39 (pA (h.next)) 0) fun p9=>xI .i64 (ah SS.P 3 g4 (.pointer (some p9))) fun n10=>xP (af SS.P 39 (pA (g2.next)) 0) fun p11=>xI .i64 (ah SS.P 3 g4 (.pointer (some p11))) fun n12=>Q (.bool (decide ((n10:Int) < n12))) g4) (xP (af SS.P 39 (pA (h.next)) 1) fun p13=>xI .i64 (ah SS.P 3 g4 (.pointer (some p13))) fun n14=>xP (af SS.P 39 (pA (g2.next)) 1) fun p15=>xI .i64 (ah SS.P 3 g4 (.pointer (some p15))) fun n16=>au (((n14:Int) != n16)) (xP (af SS.P 39 (pA (h.next)) 1) fun p17=>xI .i64 (ah SS.P 3 g4 (.pointer (some p17))) fun n18=>xP (af SS.P 39 (pA (g2.next)) 1) fun p19=>xI .i64 (ah SS.P 3 g4 (.pointer (some p19))) fun n20=>Q (.bool (decide ((n18:Int) < n20))) g4) (xP (af SS.P 39 (pA (h.next)) 2) fun p21=>xS (ah SS.P 9 g4 (.pointer (some p21))) fun l22=>xP (af SS.P 39 (pA (g2.next)) 2) fun p23=>xS (ah SS.P 9 g4 (.pointer (some p23))) fun l24=>au (!((l22:LB) == l24)) (xP (af SS.P 39 (pA (h.next)) 2) fun p25=>xS (ah SS.P 9 g4 (.pointer (some p25))) fun l26=>xP (af SS.P 39 (pA (g2.next)) 2) fun p27=>xS (ah SS.P 9 g4 (.pointer (some p27))) fun l28=>Q (.bool (aZ l26 l28)) g4) (xP (af SS.P 39 (pA (h.next)) 3) fun p29=>xI .i64 (ah SS.P 3 g4 (.pointer (some p29))) fun n30=>xP (af SS.P 39 (pA (g2.next)) 3) fun p31=>xI .i64 (ah SS.P 3 g4 (.pointer (some p31))) fun n32=>Q (.bool (decide ((n30:Int) < n32))) g4)))):FW SS 74 [(.agg ⟨av⟩),(.agg ⟨bv⟩)] h Q:=bG PK Tryz.func74 (aj hx)
noncomputable def bN:FD:=bF Tryz.f49 [([1,1,0,1,0,0],[0,3,4]),([1,1,0,1,0,0,1,0,0,1,0,0,0],[0,3,4,5])]
abbrev cC (a:OA)(n c:Nat)(i:Nat)(t:OA)(tn tc:Nat):LV:=[(.slice a n c),(.slice t tn tc),(iA i)]
abbrev fQ (a:OA)(n c:Nat)(t:OA)(tn tc i:Nat)(p:Nat):LV:=[(.slice a n c),(.slice t tn tc),(iA i),(iA p)]
theorem DG (a:OA)(n c:Nat)(h:Heap)(Q:VH)(hx:LL SS bN [1,1,0,1,0,0] (cC a n c 0 none 0 0) h (KK SS bN [1,1,0,1,0] [] (EE SS bN Q))):FW SS 49 [(.slice a n c)] h Q:=bG bN Tryz.func49 (aj hx)
theorem pG (a:OA)(n c:Nat)  (Inv:Nat->Nat->OA->Nat->Nat->Heap->Prop) (Q:VH) (step: ∀ (mz:Nat)(i:Nat)(t:OA)(tn tc:Nat)(zz:Nat->Value)(h:Heap),Inv mz i t tn tc h->au (decide (((i:Int):Int) < (n:Int))) (LL SS bN [1,1,0,1,0,0,1,0,0,1,0,0,0] (fQ a n c t tn tc i tn) h (KK SS bN [1,0,0,1,0,0] [1,1,0,1,0,0] (RR bN [1,1,0,1,0,0] (kY (cC a n c) Inv) mz (KK SS bN [1,1,0,1,0] [] (EE SS bN Q))))) (Q (.slice t tn tc) h)) (mz:Nat) {i:Nat} {t:OA} {tn tc:Nat} {h:Heap} (hi:Inv mz i t tn tc h):LL SS bN [1,1,0,1,0,0] (cC a n c i t tn tc) h (KK SS bN [1,1,0,1,0] [] (EE SS bN Q)):=
 jW (cC a n c) Inv (fun mz i t tn tc zz h hi=>aj (step mz i t tn tc zz h hi)) mz hi
theorem pM (a:OA)(n c:Nat)(t:OA)(tn tc:Nat)(Inv:Nat->Nat->OA->Nat->Nat->Heap->Prop)(mz i:Nat)(Inv2:Nat->Nat->Heap->Prop)(Q:VH)(step: ∀ (mz2:Nat) (p:Nat) (zz:Nat->Value) (h:Heap),Inv2 mz2 p h->au (decide (((p:Int):Int) > 0)) (xP (ag SS.P 35 (.slice a n c) (iA i)) fun p1=>xA (ah SS.P 39 (room h 14) (.pointer (some p1))) fun c2=>xP (ag SS.P 35 (.slice t tn tc) (.int .i64 (wrap .i64 ((p:Int) - 1)))) fun p3=>xA (ah SS.P 39 (room h 14) (.pointer (some p3))) fun c4=>FW SS 74 [(.agg ⟨c2⟩),(.agg ⟨c4⟩)] (room h 14) fun v5 h6=>yB v5 fun b7=>au b7 (ax (fA (fQ a n c t tn tc i) Inv2) mz2 [(.slice a n c),(.slice t tn tc),(iA i),(.int .i64 (wrap .i64 ((p:Int) - 1)))] h6) (xA (aI SS.P 39 []) fun c8=>xR (ak SS.P 35 1 [(0,(.agg ⟨c8⟩))]) h6 fun B9 n10 c11 g12=>xE (ay SS.P 35 35 (.slice t tn tc) (sA (h6.next) n10 c11) g12) g12 fun a13 n14 c15 u16 g17=>xL (aH SS.P 35 (.slice a13 n14 c15) (some (.int .i64 (wrap .i64 ((p:Int)+1)))) none none (room g17 8)) fun a18 n19 c20=>xL (aH SS.P 35 (.slice a13 n14 c15) (some (iA p)) none none (room g17 8)) fun a21 n22 c23=>xC (iS SS.P 35 (.slice a18 n19 c20) (.slice a21 n22 c23) (room g17 8)) (room g17 8) fun n24 u25 g26=>xP (ag SS.P 35 (.slice a n c) (iA i)) fun p27=>xA (ah SS.P 39 g26 (.pointer (some p27))) fun c28=>xP (ag SS.P 35 (.slice a13 n14 c15) (iA p)) fun p29=>xU (ai SS.P 39 (.pointer (some p29)) (.agg ⟨c28⟩) g26) g26 fun u30 g31=>ax (kY (cC a n c) Inv) mz [(.slice a n c),(.slice a13 n14 c15),(.int .i64 (wrap .i64 ((i:Int)+1)))] g31)) (xA (aI SS.P 39 []) fun c32=>xR (ak SS.P 35 1 [(0,(.agg ⟨c32⟩))]) (room h 14) fun B33 n34 c35 g36=>xE (ay SS.P 35 35 (.slice t tn tc) (sA ((room h 14).next) n34 c35) g36) g36 fun a37 n38 c39 u40 g41=>xL (aH SS.P 35 (.slice a37 n38 c39) (some (.int .i64 (wrap .i64 ((p:Int)+1)))) none none (room g41 8)) fun a42 n43 c44=>xL (aH SS.P 35 (.slice a37 n38 c39) (some (iA p)) none none (room g41 8)) fun a45 n46 c47=>xC (iS SS.P 35 (.slice a42 n43 c44) (.slice a45 n46 c47) (room g41 8)) (room g41 8) fun n48 u49 g50=>xP (ag SS.P 35 (.slice a n c) (iA i)) fun p51=>xA (ah SS.P 39 g50 (.pointer (some p51))) fun c52=>xP (ag SS.P 35 (.slice a37 n38 c39) (iA p)) fun p53=>xU (ai SS.P 39 (.pointer (some p53)) (.agg ⟨c52⟩) g50) g50 fun u54 g55=>ax (kY (cC a n c) Inv) mz [(.slice a n c),(.slice a37 n38 c39),(.int .i64 (wrap .i64 ((i:Int)+1)))] g55))(mz2:Nat){p:Nat}{h:Heap}(hi:Inv2 mz2 p h):LL SS bN [1,1,0,1,0,0,1,0,0,1,0,0,0] (fQ a n c t tn tc i p) h (KK SS bN [1,0,0,1,0,0] [1,1,0,1,0,0] (RR bN [1,1,0,1,0,0] (kY (cC a n c) Inv) mz (KK SS bN [1,1,0,1,0] [] (EE SS bN Q)))):=
 bH (fQ a n c t tn tc i) Inv2 (fun mz2 p zz h hi=>aj (step mz2 p zz h hi)) mz2 hi
noncomputable def IM:FD:=bF Tryz.f82 []
theorem H9 (x:Int)(h:Heap)(Q:VH)(hx:Q (.bool (((x:Int) != x))) h):FW SS0 82 [(.int .i64 x)] h Q:=bG IM Tryz.func82 (aj hx)
noncomputable def I2:FD:=bF Tryz.f83 []
theorem Hf (x:LB)(h:Heap)(Q:VH)(hx:Q (.bool (!((x:LB) == x))) h):FW SS0 83 [(aa x)] h Q:=bG I2 Tryz.func83 (aj hx)
noncomputable def Kl:FD:=bF Tryz.f70 []
theorem GS (x y:Int)(h:Heap)(Q:VH)(hx:FW SS0 82 [(.int .i64 x)] h fun v1 h2=>yB v1 fun b3=>FW SS0 82 [(.int .i64 y)] h2 fun v4 h5=>yB v4 fun b6=>au b3 (au b6 (Q (.int .i64 0) h5) (Q (.int .i64 (-1)) h5)) (au b6 (Q (.int .i64 1) h5) (au (decide ((x:Int) < y)) (Q (.int .i64 (-1)) h5) (au (decide ((x:Int) > y)) (Q (.int .i64 1) h5) (Q (.int .i64 0) h5))))):FW SS0 70 [(.int .i64 x),(.int .i64 y)] h Q:=bG Kl Tryz.func70 (aj hx)
noncomputable def Ki:FD:=bF Tryz.f71 []
theorem GY (x y:LB)(h:Heap)(Q:VH)(hx:FW SS0 83 [(aa x)] h fun v1 h2=>yB v1 fun b3=>FW SS0 83 [(aa y)] h2 fun v4 h5=>yB v4 fun b6=>au b3 (au b6 (Q (.int .i64 0) h5) (Q (.int .i64 (-1)) h5)) (au b6 (Q (.int .i64 1) h5) (au (aZ x y) (Q (.int .i64 (-1)) h5) (au (!(aZ x y || (x:LB) == y)) (Q (.int .i64 1) h5) (Q (.int .i64 0) h5))))):FW SS0 71 [(aa x),(aa y)] h Q:=bG Ki Tryz.func71 (aj hx)
noncomputable def lE:FD:=bF Tryz.f69 [([1,1,0,1,0,0],[3,6,7,8])]
abbrev ip (a:OA)(n c:Nat)(i:Nat):LV:=[(.int .i64 0),(.slice a n c),(iA n),(iA i)]
theorem J5 (a:OA)(n c:Nat)(h:Heap)(Q:VH)(hx:LL SS0 lE [1,1,0,1,0,0] (ip a n c 0) h (KK SS0 lE [1,1,0,1,0] [] (EE SS0 lE Q))):FW SS0 69 [(.slice a n c)] h Q:=bG lE Tryz.func69 (aj hx)
theorem rW (a:OA)(n c:Nat)  (Inv:Nat->Nat->Heap->Prop) (Q:VH) (step: ∀ (mz:Nat)(i:Nat)(zz:Nat->Value)(h:Heap),Inv mz i h->au (decide (((i:Int):Int) < (n:Int))) (xP (ag SS0.P 48 (.slice a n c) (iA i)) fun p1=>xI .i64 (ah SS0.P 3 h (.pointer (some p1))) fun n2=>au (((n2:Int) != 0)) (Q (.int .i64 n2) h) (ax (fA (ip a n c) Inv) mz [(.int .i64 0),(.slice a n c),(iA n),(.int .i64 (wrap .i64 ((i:Int)+1)))] h)) (Q (.int .i64 0) h)) (mz:Nat) {i:Nat} {h:Heap} (hi:Inv mz i h):LL SS0 lE [1,1,0,1,0,0] (ip a n c i) h (KK SS0 lE [1,1,0,1,0] [] (EE SS0 lE Q)):=
 bH (ip a n c) Inv (fun mz i zz h hi=>aj (step mz i zz h hi)) mz hi
noncomputable def N1:FD:=bF Tryz.f47 []
theorem M3 (av bv:LV)(h:Heap)(Q:VH)(hx:xN (dc SS0.P 39 (.agg ⟨av⟩)) h fun B1 g2=>xN (dc SS0.P 39 (.agg ⟨bv⟩)) g2 fun B3 g4=>xP (af SS0.P 39 (pA (h.next)) 0) fun p5=>xI .i64 (ah SS0.P 3 (room g4 23) (.pointer (some p5))) fun n6=>xP (af SS0.P 39 (pA (g2.next)) 0) fun p7=>xI .i64 (ah SS0.P 3 (room g4 23) (.pointer (some p7))) fun n8=>FW SS0 70 [(.int .i64 n6),(.int .i64 n8)] (room g4 23) fun v9 h10=>yI .i64 v9 fun n11=>xP (af SS0.P 39 (pA (h.next)) 1) fun p12=>xI .i64 (ah SS0.P 3 h10 (.pointer (some p12))) fun n13=>xP (af SS0.P 39 (pA (g2.next)) 1) fun p14=>xI .i64 (ah SS0.P 3 h10 (.pointer (some p14))) fun n15=>FW SS0 70 [(.int .i64 n13),(.int .i64 n15)] h10 fun v16 h17=>yI .i64 v16 fun n18=>xP (af SS0.P 39 (pA (h.next)) 2) fun p19=>xS (ah SS0.P 9 h17 (.pointer (some p19))) fun l20=>xP (af SS0.P 39 (pA (g2.next)) 2) fun p21=>xS (ah SS0.P 9 h17 (.pointer (some p21))) fun l22=>FW SS0 71 [(aa l20),(aa l22)] h17 fun v23 h24=>yI .i64 v23 fun n25=>xP (af SS0.P 39 (pA (h.next)) 3) fun p26=>xI .i64 (ah SS0.P 3 h24 (.pointer (some p26))) fun n27=>xP (af SS0.P 39 (pA (g2.next)) 3) fun p28=>xI .i64 (ah SS0.P 3 h24 (.pointer (some p28))) fun n29=>FW SS0 70 [(.int .i64 n27),(.int .i64 n29)] h24 fun v30 h31=>yI .i64 v30 fun n32=>zR (ak SS0.P 48 4 [(0,(.int .i64 n11)),(1,(.int .i64 n18)),(2,(.int .i64 n25)),(3,(.int .i64 n32))]) fun B33 n34 c35=>FW SS0 69 [(sA (g4.next+20) n34 c35)] (aB h31 g4.next [(20,B33)]) fun v36 h37=>yI .i64 v36 fun n38=>(ah SS0.P 3 (room g4 23) (.pointer (some p12))=some (.int .i64 n13)/\dY 4 (.int .i64 n13) (.int .i64 n13)=true)/\(ah SS0.P 3 (room g4 23) (.pointer (some p14))=some (.int .i64 n15)/\dY 4 (.int .i64 n15) (.int .i64 n15)=true)/\(ah SS0.P 9 (room g4 23) (.pointer (some p19))=some (aa l20)/\dY 4 (aa l20) (aa l20)=true)/\(ah SS0.P 9 h10 (.pointer (some p19))=some (aa l20)/\dY 4 (aa l20) (aa l20)=true)/\(ah SS0.P 9 (room g4 23) (.pointer (some p21))=some (aa l22)/\dY 4 (aa l22) (aa l22)=true)/\(ah SS0.P 9 h10 (.pointer (some p21))=some (aa l22)/\dY 4 (aa l22) (aa l22)=true)/\(ah SS0.P 3 (room g4 23) (.pointer (some p26))=some (.int .i64 n27)/\dY 4 (.int .i64 n27) (.int .i64 n27)=true)/\(ah SS0.P 3 h10 (.pointer (some p26))=some (.int .i64 n27)/\dY 4 (.int .i64 n27) (.int .i64 n27)=true)/\(ah SS0.P 3 h17 (.pointer (some p26))=some (.int .i64 n27)/\dY 4 (.int .i64 n27) (.int .i64 n27)=true)/\(ah SS0.P 3 (room g4 23) (.pointer (some p28))=some (.int .i64 n29)/\dY 4 (.int .i64 n29) (.int .i64 n29)=true)/\(ah SS0.P 3 h10 (.pointer (some p28))=some (.int .i64 n29)/\dY 4 (.int .i64 n29) (.int .i64 n29)=true)/\(ah SS0.P 3 h17 (.pointer (some p28))=some (.int .i64 n29)/\dY 4 (.int .i64 n29) (.int .i64 n29)=true)/\Q (.int .i64 n38) h37):FW SS0 47 [(.agg ⟨av⟩),(.agg ⟨bv⟩)] h Q:=bG N1 Tryz.func47 (aj hx)
theorem y8 (q:MArc){g:Heap}(w:Wf g):Ok g (g.push (Bq q))/\AB (g.push (Bq q)) g.next q:=⟨(Ok.refl w).push _,aq g (Bq q)⟩
theorem NR (p q:MArc){h:Heap}(w:Wf h):FW SS 74 [.agg ⟨aD p⟩,.agg ⟨aD q⟩] h (fun v h'=>v = .bool (iN p q)/\Ok h h'):=by
 refine OV (aD p) (aD q) h _ ⟨_,vG p,_,vG q,?_⟩;obtain ⟨o1,a1⟩:=y8 p w;obtain ⟨o2,b2⟩:=y8 q o1.wf;have a2:=a1.ok o2;have ok:=o1.trans o2;refine ⟨_,hJ _ _,_,a2.l0,_,hJ _ _,_,b2.l0,ae (fun c=> ?_) (fun c=> ?_)⟩
 ·have c:p.i≠q.i:=by simpa using c
  exact ⟨_,hJ _ _,_,a2.l0,_,hJ _ _,_,b2.l0,by unfold iN; rw [if_pos c],ok⟩
 have c0: ¬ p.i≠q.i:=by simpa using c
 refine ⟨_,iM _ _,_,a2.l1,_,iM _ _,_,b2.l1,ae (fun c=> ?_) (fun c=> ?_)⟩
 ·have c:p.o≠q.o:=by simpa using c
  exact ⟨_,iM _ _,_,a2.l1,_,iM _ _,_,b2.l1,by unfold iN; rw [if_neg c0,if_pos c],ok⟩
 have c1: ¬ p.o≠q.o:=by simpa using c
 refine ⟨_,mh _ _,_,a2.l2,_,mh _ _,_,b2.l2,ae (fun c=> ?_) (fun c=> ?_)⟩
 ·have c:p.w≠q.w:=by simpa using c
  exact ⟨_,mh _ _,_,a2.l2,_,mh _ _,_,b2.l2,by unfold iN; rw [if_neg c0,if_neg c1,if_pos c],ok⟩
 have c2: ¬ p.w≠q.w:=by simpa using c
 exact ⟨_,cE _ _,_,a2.l3,_,cE _ _,_,b2.l3,by unfold iN; rw [if_neg c0,if_neg c1,if_neg c2],ok⟩
theorem xy (x:Int)(h:Heap):FW SS0 82 [.int .i64 x] h (fun v h'=>v = .bool false/\h'=h):=by
 refine H9 x h _ ?_
 first
  | exact ⟨by simp,rfl⟩
  | simp
theorem yY (x:List UInt8)(h:Heap):FW SS0 83 [aa x] h (fun v h'=>v = .bool false/\h'=h):=by
 refine Hf x h _ ?_
 first
  | exact ⟨by simp,rfl⟩
  | simp
theorem sc (x y:Int)(h:Heap):FW SS0 70 [.int .i64 x,.int .i64 y] h (fun v h'=>v = .int .i64 (mX x y)/\h'=h):=by
 refine GS x y h _ ((xy x h).mono ?_);rintro _ _ ⟨rfl,rfl⟩;refine ⟨_,rfl,(xy y _).mono ?_⟩;rintro _ _ ⟨rfl,rfl⟩;refine ⟨_,rfl,ae (fun c=>by cases c) (fun _=>ae (fun c=>by cases c) (fun _=>ae (fun c=> ?_) (fun c=>ae (fun c2=> ?_) (fun c2=> ?_))))⟩
 ·exact ⟨by unfold mX; rw [if_pos (dT c)],rfl⟩
 ·exact ⟨by unfold mX; rw [if_neg (dF c),if_pos (dT c2)],rfl⟩
 ·exact ⟨by unfold mX; rw [if_neg (dF c),if_neg (dF c2)],rfl⟩
theorem He (x y:List UInt8)(h:Heap):FW SS0 71 [aa x,aa y] h (fun v h'=>v = .int .i64 (wc x y)/\h'=h):=by
 refine GY x y h _ ((yY x h).mono ?_);rintro _ _ ⟨rfl,rfl⟩;refine ⟨_,rfl,(yY y _).mono ?_⟩;rintro _ _ ⟨rfl,rfl⟩;refine ⟨_,rfl,ae (fun c=>by cases c) (fun _=>ae (fun c=>by cases c) (fun _=>ae (fun c=> ?_) (fun c=>ae (fun c2=> ?_) (fun c2=> ?_))))⟩
 ·exact ⟨by unfold wc; rw [if_pos c],rfl⟩
 ·exact ⟨by unfold wc; rw [if_neg (by rw [c]; exact Bool.false_ne_true),if_pos (by simpa using c2)],rfl⟩
 ·exact ⟨by unfold wc; rw [if_neg (by rw [c]; exact Bool.false_ne_true),if_neg (by simpa using c2)],rfl⟩
theorem Iu {l:List Int}{h:Heap}{a:Option Addr}{n c:Nat}(w:Wf h)(r:Rd h 3 (.slice a n c) (l.map (Value.int .i64)))(hl:l.length<=100000):FW SS0 69 [.slice a n c] h (fun v h'=>v = .int .i64 (Is l)/\h'=h):=by
 have hn:n=l.length:=by have:=r.len; rwa [lM] at this
 refine J5 a n c h _ ?_;refine rW a n c (fun mz i g=>i<=n/\mz=n - i/\g=h/\Is (l.drop i)=Is l) _ (fun mz i=> ?_) n (i:=0) ⟨zero_le _,rfl,rfl,rfl⟩;intros; rename_i g hin;obtain ⟨f1,rfl,rfl,ho⟩:=hin;refine ae (fun q=> ?_) (fun q=> ?_)
 ·have q:=dT q;obtain ⟨x,hx⟩: ∃ x,l[i]?=some x:=⟨_,gE (by omega)⟩
  obtain ⟨p,e1,e2⟩:=Rd.at_ gP tF CU BW r (k:= .i64) (i:=(i:Int)) (by omega) (by rw [lM]; omega);rw [Int.toNat_natCast,gD,getElem?_map,hx] at e2;have e2:ah SS.P 3 g (.pointer (some p))=some (.int .i64 x):=e2;rw [cQ hx] at ho;refine ⟨_,e1,_,e2,ae (fun q2=> ?_) (fun q2=> ?_)⟩
  ·have q2:x≠0:=by simpa using q2
   refine ⟨?_,rfl⟩;rw [<-ho];show _=Value.int .i64 (if x≠0 then x else _);rw [if_pos q2]
  ·have q2: ¬ x≠0:=by simpa using q2
   rw [az (n:=n) (by omega) (by omega)];refine bp (n - (i+1)) (by omega) ⟨by omega,rfl,rfl,?_⟩;rw [<-ho];show _=(if x≠0 then x else _);rw [if_neg q2]
 ·have q:=dF q;rw [drop_eq_nil_of_le (by omega)] at ho;exact ⟨by rw [<-ho]; rfl,rfl⟩
theorem Of (x y z t:Int):ak SS.P 48 4 [(0,(.int .i64 x)),(1,(.int .i64 y)),(2,(.int .i64 z)),(3,(.int .i64 t))]=some (.cells [.int .i64 x,.int .i64 y,.int .i64 z,.int .i64 t] 3 1 true,gU 4 4):=by kernel_rfl
theorem Mj (p q:MArc){h:Heap}(w:Wf h):FW SS0 47 [.agg ⟨aD p⟩,.agg ⟨aD q⟩] h (fun v h'=>v = .int .i64 (wW p q)/\Ok h h'):=by
 refine M3 (aD p) (aD q) h _ ⟨_,vG p,_,vG q,?_⟩;obtain ⟨o1,a1⟩:=y8 p w;obtain ⟨o2,b2⟩:=y8 q o1.wf;have a2:=a1.ok o2;have ok:=o1.trans o2;have oR:=(Ok.refl ok.wf).room 23;have aR:=a2.ok oR;have bR:=b2.ok oR;obtain ⟨oS,kS⟩:=nM ok.wf (n:=23) (j:=20) (by omega) (.cells [.int .i64 (mX p.i q.i),.int .i64 (mX p.o q.o),.int .i64 (wc p.w q.w),.int .i64 (mX p.t q.t)] 3 1 true);refine ⟨_,hJ _ _,_,aR.l0,_,hJ _ _,_,bR.l0,(sc _ _ _).mono ?_⟩;rintro _ _ ⟨rfl,rfl⟩;refine ⟨_,rfl,_,iM _ _,_,aR.l1,_,iM _ _,_,bR.l1,(sc _ _ _).mono ?_⟩;rintro _ _ ⟨rfl,rfl⟩;refine ⟨_,rfl,_,mh _ _,_,aR.l2,_,mh _ _,_,bR.l2,(He _ _ _).mono ?_⟩;rintro _ _ ⟨rfl,rfl⟩;refine ⟨_,rfl,_,cE _ _,_,aR.l3,_,cE _ _,_,bR.l3,(sc _ _ _).mono ?_⟩;rintro _ _ ⟨rfl,rfl⟩;refine ⟨_,rfl,_,_,_,Of _ _ _ _,?_⟩;refine (Iu (l:=[mX p.i q.i,mX p.o q.o,wc p.w q.w,mX p.t q.t]) oS.wf (.inr ⟨_,0,_,_,true,rfl,kS,rfl⟩) (show 4<=100000 by decide)).mono ?_;rintro _ _ ⟨rfl,rfl⟩;exact ⟨_,rfl,⟨aR.l1,gz _⟩,⟨bR.l1,gz _⟩,⟨aR.l2,qk _⟩,⟨aR.l2,qk _⟩,⟨bR.l2,qk _⟩,⟨bR.l2,qk _⟩,⟨aR.l3,gz _⟩,⟨aR.l3,gz _⟩,⟨aR.l3,gz _⟩,⟨bR.l3,gz _⟩,⟨bR.l3,gz _⟩,⟨bR.l3,gz _⟩,rfl,ok.trans oS⟩
end Go.Proofs.YtoabjjimjldcfaaGreatDoor
end
section
set_option linter.unusedVariables false
namespace Go.Ab
open Go
theorem mf {sz:Nat}: ∀ {l:List (List Value)},(∀ r∈l,r.length=sz)-> ∀ k,(l.take k).flatten=l.flatten.take (k*sz)
 | [],_,k=>by simp
 | x::l,h,0=>by simp
 | x::l,h,k+1=>by
  have hx:=h x (mem_cons_self ..);rw [List.take_succ_cons,flatten_cons,flatten_cons,mf (fun r hr=>h r (mem_cons_of_mem _ hr)) k,List.take_append,take_of_length_le (show x.length<=(k+1)*sz by rw [hx,add_mul]; omega),hx,add_mul,one_mul,Nat.add_sub_cancel]
theorem pD {sz:Nat}: ∀ {l:List (List Value)},(∀ r∈l,r.length=sz)-> ∀ k,(l.drop k).flatten=l.flatten.drop (k*sz)
 | [],_,k=>by simp
 | x::l,h,0=>by simp
 | x::l,h,k+1=>by
  have hx:=h x (mem_cons_self ..);rw [List.drop_succ_cons,flatten_cons,pD (fun r hr=>h r (mem_cons_of_mem _ hr)) k,List.drop_append,drop_eq_nil_of_le (show x.length<=(k+1)*sz by rw [hx,add_mul]; omega),List.nil_append,hx,add_mul,one_mul,Nat.add_sub_cancel]
theorem wb {P:Program}{t e:TypeId}{sz:Nat}(hU:P.underlying t=some (.slice e))(hs:an P e=some sz){g:Heap}{k off n c z:Nat}{cs:List Value}(hk:g.get k=some (.cells cs e sz true))(hz:z<=n)(hn:n<=aK c):
  aH P t (.slice (some ⟨k,off,none⟩) n c) (some (.int .i64 (z:Int))) none none g=some (.slice (some ⟨k,off+z*sz,none⟩) (n - z) (c - z)):=by
 unfold aH;dsimp only;rw [hU];dsimp only [bI];rw [hs,hk];dsimp only;rw [if_pos (.inl rfl),if_pos (by omega)];have e1:((z:Int)).toNat=z:=by omega
 have e2:((n:Int) - (z:Int)).toNat=n - z:=by omega
 rw [e1,e2]
theorem OwnK.shift {P:Program}{t e:TypeId}{sz:Nat}(hU:P.underlying t=some (.slice e))(hs:an P e=some sz){h0 g:Heap}(w0:Wf h0)(a:Ok h0 g){k off n c:Nat}{rs:List (List Value)}{z:List Value}(o:OwnK h0 g e sz (.slice (some ⟨k,off,none⟩) n c) (rs++[z]))(hsc:(rs++[z]).flatten.all bw=true){p:Nat}(hp:p<=rs.length):
  aH P t (.slice (some ⟨k,off,none⟩) n c) (some (.int .i64 ((p+1:Nat):Int))) none none g=some (.slice (some ⟨k,off+(p+1)*sz,none⟩) (n - (p+1)) (c - (p+1)))/\
  aH P t (.slice (some ⟨k,off,none⟩) n c) (some (.int .i64 (p:Int))) none none g=some (.slice (some ⟨k,off+p*sz,none⟩) (n - p) (c - p))/\
  ∃ (m:Int)(u:Upd),iS P t (.slice (some ⟨k,off+(p+1)*sz,none⟩) (n - (p+1)) (c - (p+1))) (.slice (some ⟨k,off+p*sz,none⟩) (n - p) (c - p)) g=some (.int .i64 m,u)/\
   OwnK h0 (u.app g) e sz (.slice (some ⟨k,off,none⟩) n c) ((rs++[z]).take (p+1)++rs.drop p)/\Ok h0 (u.app g)/\(∀ j B,g.get j=some B->k≠j->(u.app g).get j=some B)/\(u.app g).next=g.next:=by
 obtain ⟨hr,⟨h1,_⟩ | ⟨k',off',cs,c',h1,h2,h3,h4,h5,h6⟩⟩:=id o
 ·injection h1 with h1 _ _; cases h1
 injection h1 with h1 hn hc'
 injection h1 with h1
 injection h1 with h1 ho _
 subst h1; subst ho; subst hc';have hlen:(rs++[z]).length=rs.length+1:=by rw [length_append]; rfl
 rw [hlen] at hn h4 h6;refine ⟨wb hU hs h3 (by omega) (by omega),wb hU hs h3 (by omega) (by omega),?_⟩;have hF:=ft hr;rw [hlen] at hF;have hb:(rs.length+1)*sz<=aK c*sz:=Nat.mul_le_mul_right _ h6;have m1:(n - p)*sz=(rs.length - p)*sz+sz:=by rw [hn,show rs.length+1 - p=rs.length - p+1 by omega,add_mul,one_mul]
 have m2:(rs.length+1)*sz=p*sz+((rs.length - p)*sz+sz):=by rw [show rs.length+1=p+(rs.length - p+1) by omega,add_mul,add_mul,one_mul]
 have m3:(p+1)*sz=p*sz+sz:=by rw [add_mul,one_mul]
 have hsrcl:((cs.drop (off+p*sz)).take ((n - p)*sz)).length=(n - p)*sz:=by rw [length_take,length_drop]; omega
 have hsrc:cg g sz (.slice (some ⟨k,off+p*sz,none⟩) (n - p) (c - p))=some ((cs.drop (off+p*sz)).take ((n - p)*sz),n - p):=by
  show (match g.get k with | some (.cells cs ..)=>if ((cs.drop (off+p*sz)).take ((n - p)*sz)).length=(n - p)*sz then some ((cs.drop (off+p*sz)).take ((n - p)*sz),n - p) else none | _=>none)=_;rw [h3]; dsimp only;rw [if_pos hsrcl]
 unfold iS;rw [hU]; dsimp only;rw [hs]; dsimp only;rw [hsrc]; dsimp only;by_cases hz:n - (p+1)=0
 ·rw [if_pos (.inl hz)];obtain rfl:p=rs.length:=by omega
  refine ⟨_,_,rfl,?_,a,fun j B hj _=>hj,rfl⟩;have:(rs++[z]).take (rs.length+1)++rs.drop rs.length=rs++[z]:=by rw [take_of_length_le (by omega),drop_eq_nil_of_le (le_refl _),append_nil]
  rw [this]; exact o
 ·rw [if_neg (by omega)];have hmin:min (n - p) (n - (p+1))=rs.length - p:=by omega
  rw [hmin,take_take,Nat.min_eq_left (by omega)];have hX:(cs.drop (off+p*sz)).take ((rs.length - p)*sz)=(rs.drop p).flatten:=by
   rw [pD (fun r hr'=>hr r (mem_append_left _ hr')) p];have e1:rs.flatten=(rs++[z]).flatten.take (rs.length*sz):=by
    rw [<-mf hr rs.length,List.take_append_of_le_length (le_refl _),take_of_length_le (le_refl _)]
   have m4:rs.length*sz=p*sz+(rs.length - p)*sz:=by rw [<-add_mul]; congr 1; omega
   rw [e1,<-h4,take_take,Nat.min_eq_left (by omega),drop_take,List.drop_drop,m4,Nat.add_sub_cancel_left]
  rw [hX];have hXl:(rs.drop p).flatten.length=(rs.length - p)*sz:=by
   rw [ft (fun r hr'=>hr r (mem_append_left _ (List.mem_of_mem_drop hr'))),length_drop]
  have hXs:(rs.drop p).flatten.all bw=true:=by
   refine all_eq_true.2 fun x hx=>all_eq_true.1 hsc x ?_;rw [flatten_append];refine mem_append_left _ ?_;obtain ⟨l,hl,hx⟩:=mem_flatten.1 hx;exact mem_flatten.2 ⟨l,List.mem_of_mem_drop hl,hx⟩
  unfold storeAt;rw [h3]; dsimp only;rw [if_pos ⟨by omega,hXs⟩];have hrs: ∀ r∈(rs++[z]).take (p+1)++rs.drop p,r.length=sz:=fun r hr'=>by
   rcases mem_append.1 hr' with h | h
   ·exact hr r (List.mem_of_mem_take h)
   ·exact hr r (mem_append_left _ (List.mem_of_mem_drop h))
  have hln:((rs++[z]).take (p+1)++rs.drop p).length=rs.length+1:=by rw [length_append,length_take,length_drop,hlen]; omega
  refine ⟨_,_,rfl,⟨hrs,.inr ⟨k,off,cs.take (off+(p+1)*sz)++(rs.drop p).flatten++cs.drop (off+(p+1)*sz+(rs.drop p).flatten.length),c,by rw [hln,hn],h2,?_,?_,?_,by rw [hln]; exact h6⟩⟩,a.set _ h2 (a.wf _ _ h3) w0,fun j B hj hne=> ?_,rfl⟩
  ·show (g.set k _).get k=_;rw [Heap.get_set,if_pos rfl]
  ·have e1:(cs.take (off+(p+1)*sz)).length=off+(p+1)*sz:=by rw [length_take]; omega
   have hW:(cs.take (off+(p+1)*sz)).drop off=(cs.drop off).take ((p+1)*sz):=by rw [drop_take,show off+(p+1)*sz - off=(p+1)*sz by omega]
   have hWl:((cs.drop off).take ((p+1)*sz)).length=(p+1)*sz:=by rw [length_take,length_drop]; omega
   have hR:((rs++[z]).take (p+1)).flatten=(cs.drop off).take ((p+1)*sz):=by rw [mf hr,<-h4,take_take,Nat.min_eq_left (by omega)]
   rw [hln,append_assoc,List.drop_append_of_le_length (by rw [e1]; omega),hW,flatten_append,hR,<-append_assoc,List.take_append_of_le_length (by rw [length_append]; omega),take_of_length_le (by rw [length_append]; omega)]
  ·rw [length_append,length_append,length_take,length_drop]; omega
  ·show (g.set k _).get j=_;rw [Heap.get_set,if_neg (fun e=>hne e.symm)];exact hj
theorem OwnK.putR {P:Program}{e:TypeId}{sz:Nat}(hs:an P e=some sz){h0 g:Heap}(w0:Wf h0)(a:Ok h0 g){k off n c:Nat}{rs:List (List Value)}(o:OwnK h0 g e sz (.slice (some ⟨k,off,none⟩) n c) rs){i:Nat}(hi:i < rs.length){x:List Value}(hx:x.length=sz)(hv:x.all bw=true):
  ∃ u:Upd,ai P e (.pointer (some ⟨k,off+i*sz,none⟩)) (.agg ⟨x⟩) g=some (undef,u)/\OwnK h0 (u.app g) e sz (.slice (some ⟨k,off,none⟩) n c) (rs.set i x)/\Ok h0 (u.app g)/\(∀ j B,g.get j=some B->k≠j->(u.app g).get j=some B)/\(u.app g).next=g.next:=by
 obtain ⟨hr,⟨h1,_⟩ | ⟨k',off',cs,c',h1,h2,h3,h4,h5,h6⟩⟩:=o
 ·injection h1 with h1 _ _; cases h1
 injection h1 with h1 hn hc'
 injection h1 with h1
 injection h1 with h1 ho _
 subst h1; subst ho; subst hc';have h9:(i+1)*sz<=rs.length*sz:=Nat.mul_le_mul_right _ hi;have h10:=Nat.mul_le_mul_right sz h6;have m3:(i+1)*sz=i*sz+sz:=by rw [add_mul,one_mul]
 have hF:=ft hr;have st:ai P e (.pointer (some ⟨k,off+i*sz,none⟩)) (.agg ⟨x⟩) g=some (undef,.set k (.cells (cs.take (off+i*sz)++x++cs.drop (off+i*sz+x.length)) e sz true)):=by
  unfold ai;dsimp only;have e1:(Value.agg ⟨x⟩).cells.size=sz:=by show x.toArray.size=sz; simpa using hx
  have e2:(Value.agg ⟨x⟩).cells.toList=x:=rfl;rw [if_pos (by rw [e1,hs])];unfold storeAt;rw [h3,e2]; dsimp only;rw [if_pos ⟨by omega,hv⟩];rfl
 have hrs: ∀ r∈rs.set i x,r.length=sz:=fun r hr'=>by
  rcases List.mem_or_eq_of_mem_set hr' with h | h
  ·exact hr r h
  ·rw [h]; exact hx
 refine ⟨_,st,⟨hrs,.inr ⟨k,off,_,c,by rw [length_set,hn],h2,by show (g.set k _).get k=_; rw [Heap.get_set,if_pos rfl],?_,?_,by rw [length_set]; exact h6⟩⟩,a.set _ h2 (a.wf _ _ h3) w0,fun j B hj hne=> ?_,rfl⟩
 ·have e1:(cs.take (off+i*sz)).length=off+i*sz:=by rw [length_take]; omega
  have hW:(cs.take (off+i*sz)).drop off=(cs.drop off).take (i*sz):=by rw [drop_take,show off+i*sz - off=i*sz by omega]
  have hWl:((cs.drop off).take (i*sz)).length=i*sz:=by rw [length_take,length_drop]; omega
  have hA:(rs.take i).flatten=(cs.drop off).take (i*sz):=by rw [mf hr,<-h4,take_take,Nat.min_eq_left (by omega)]
  have hB:(rs.drop (i+1)).flatten=(cs.drop (off+i*sz+x.length)).take ((rs.length - (i+1))*sz):=by
   have m4:rs.length*sz=(i+1)*sz+(rs.length - (i+1))*sz:=by rw [<-add_mul]; congr 1; omega
   rw [pD hr,<-h4,drop_take,List.drop_drop,m4,Nat.add_sub_cancel_left,hx,show off+(i+1)*sz=off+i*sz+sz by omega]
  have m4:rs.length*sz=(i+1)*sz+(rs.length - (i+1))*sz:=by rw [<-add_mul]; congr 1; omega
  rw [length_set,List.set_eq_take_append_cons_drop,if_pos hi,flatten_append,flatten_cons,hA,hB,append_assoc,List.drop_append_of_le_length (by rw [e1]; omega),hW,List.take_append,hWl,take_of_length_le (by omega)];congr 1;rw [List.take_append,take_of_length_le (by omega)];congr 2;omega
 ·rw [length_append,length_append,length_take,length_drop]; omega
 ·show (g.set k _).get j=_;rw [Heap.get_set,if_neg (fun e=>hne e.symm)];exact hj
end Go.Ab
end
section
set_option linter.unusedVariables false
set_option maxRecDepth 100000
namespace Go.Proofs.YtoabjjimjldcfaaGreatDoor
open Go Go.Ab
section
theorem N9:aI SS.P 39 []=some (.agg ⟨aD q0⟩):=by kernel_rfl
section
variable {h g:Heap} {t:Option Addr} {tn tc:Nat} {out:List MArc} {p:Nat} {x:MArc} {a:Option Addr} {n c i:Nat} {l:List MArc}
theorem LH {rs:List MArc}{i:Nat}(x:MArc):(rs.map aD).set i (aD x)=(rs.set i x).map aD:=by rw [map_set]
theorem sW (w:Wf h)(ok:Ok h g)(o:OwnK h g 39 4 (.slice t tn tc) (out.map aD))(hp:p<=out.length)(hl:out.length<=100000)(r:ArcRow h (.slice a n c) l)(hx:l[i]?=some x){K:Option Addr->Nat->Nat->Heap->Prop}(hK: ∀ a' n' c' g',OwnK h g' 39 4 (.slice a' n' c') ((out.take p++[x]++out.drop p).map aD)->Ok h g'->K a' n' c' g'):
  xA (aI SS.P 39 []) fun c8=>xR (ak SS.P 35 1 [(0,(.agg ⟨c8⟩))]) g fun B9 n10 c11 g12=>xE (ay SS.P 35 35 (.slice t tn tc) (sA g.next n10 c11) g12) g12 fun a13 n14 c15 u16 g17=>xL (aH SS.P 35 (.slice a13 n14 c15) (some (.int .i64 (wrap .i64 ((p:Int)+1)))) none none (Go.Ab.room g17 8)) fun a18 n19 c20=>xL (aH SS.P 35 (.slice a13 n14 c15) (some (iA p)) none none (Go.Ab.room g17 8)) fun a21 n22 c23=>xC (iS SS.P 35 (.slice a18 n19 c20) (.slice a21 n22 c23) (Go.Ab.room g17 8)) (Go.Ab.room g17 8) fun n24 u25 g26=>xP (ag SS.P 35 (.slice a n c) (iA i)) fun p27=>xA (ah SS.P 39 g26 (.pointer (some p27))) fun c28=>xP (ag SS.P 35 (.slice a13 n14 c15) (iA p)) fun p29=>xU (ai SS.P 39 (.pointer (some p29)) (.agg ⟨c28⟩) g26) g26 fun u30 g31=>K a13 n14 c15 g31:=by
 have oP:=(Ok.refl ok.wf).push (.cells (aD q0) 39 4 true);have kP:=aq g (.cells (aD q0) 39 4 true);have o1:=o.ok oP;have ok1:=ok.trans oP;refine ⟨_,N9,_,_,_,Lo _,?_⟩;generalize g.push (.cells (aD q0) 39 4 true)=g12 at *;obtain ⟨b,n',c',u,a1,a2,a3,a4,a5,a6⟩:=qu w ok1 o1 kP hl;refine ⟨b,n',c',u,a1,?_⟩;dsimp only;generalize u.app g12=g17 at *;have oR:=(Ok.refl a3.wf).room 8;have o2:=a2.ok oR;have ok2:=a3.trans oR;generalize Go.Ab.room g17 8=gR at *;rw [map_append] at o2;obtain ⟨k,off,cc,e,_⟩:=o2.blk (by simp);injection e with e1 e2 e3
 subst e1;have hsc:(out.map aD++[aD q0]).flatten.all bw=true:=by
  rw [flatten_append,all_append,rY]; rfl
 obtain ⟨s1,s2,mm,u2,cp,o3,ok3,_,_⟩:=o2.shift tR pz w ok2 hsc (p:=p) (by rw [lM]; exact hp);rw [show wrap .i64 ((p:Int)+1)=((p+1:Nat):Int) by rw [am (by omega) (by omega)]; omega];refine ⟨_,_,_,s1,_,_,_,s2,mm,u2,cp,?_⟩;dsimp only;generalize u2.app gR=g26 at *;obtain ⟨bb,oo,d1,d2,_⟩:=(r.ok ok3).at_ hx;have hln:((out.map aD++[aD q0]).take (p+1)++(out.map aD).drop p).length=out.length+1:=by
  rw [length_append,length_take,length_drop,length_append,lM,List.length_singleton]; omega
 obtain ⟨y,hy⟩: ∃ y,((out.map aD++[aD q0]).take (p+1)++(out.map aD).drop p)[p]?=some y:=⟨_,gE (by omega)⟩
 obtain ⟨i1,_,_⟩:=o3.at_ tR pz hy .i64;obtain ⟨u3,st,o4,ok4,_,_⟩:=o3.putR pz w ok3 (i:=p) (by omega) (x:=aD x) rfl rfl;refine ⟨_,d1,_,d2,_,i1,u3,st,hK _ _ _ _ ?_ ok4⟩;have e5:((out.map aD++[aD q0]).take (p+1)++(out.map aD).drop p).set p (aD x)=(out.take p++[x]++out.drop p).map aD:=by
  have e6:(out++[q0]).take (p+1)=out.take p++[(out++[q0]).getD p q0]:=by
   rw [take_add_one,List.take_append_of_le_length hp,gD,gE (by rw [length_append,List.length_singleton]; omega)];rfl
  have e7:(out.map aD++[aD q0]).take (p+1)=((out++[q0]).take (p+1)).map aD:=by rw [List.map_take,map_append]; rfl
  rw [e7,<-List.map_drop,<-map_append,LH,e6,append_assoc,List.set_append,if_neg (by rw [length_take]; omega)];have e8:p - (out.take p).length=0:=by rw [length_take]; omega
  rw [e8,append_assoc];rfl
 rw [e5] at o4;exact o4
def QK (h:Heap)(l:List MArc)(mz i:Nat)(t:Option Addr)(tn tc:Nat)(g:Heap):Prop:=i<=l.length/\mz=l.length - i/\OwnK h g 39 4 (.slice t tn tc) ((cP (l.take i)).map aD)/\Ok h g
def Ru (h:Heap)(out:List MArc)(x:MArc)(t:Option Addr)(tn tc:Nat)(mz2 p:Nat)(g:Heap):Prop:=p<=out.length/\mz2=p/\iw x out p=iw x out out.length/\OwnK h g 39 4 (.slice t tn tc) (out.map aD)/\Ok h g
theorem vP (w:Wf h)(r:ArcRow h (.slice a n c) l)(hl:l.length<=100000):FW SS 49 [.slice a n c] h (fun v h'=>OwnK h h' 39 4 v ((cP l).map aD)/\Ok h h'):=by
 have hn:=r.len;refine DG a n c h _ ?_;refine pG a n c (QK h l) _ (fun mz i t tn tc=> ?_) l.length (i:=0) ⟨zero_le _,rfl,OwnK.nil _ _ _ _,Ok.refl w⟩;intros; rename_i g hin;obtain ⟨f1,rfl,o,ok⟩:=hin;refine ae (fun q=> ?_) (fun q=> ?_)
 ·have q:=dT q;have hi:i < l.length:=by omega
  obtain ⟨x,hx⟩: ∃ x,l[i]?=some x:=⟨_,gE hi⟩
  have hso:cP (l.take (i+1))=m9 (cP (l.take i)) x:=by rw [take_add_one,hx]; exact C6 _ _
  have hol:(cP (l.take i)).length=i:=by rw [jl,length_take]; omega
  have htn:tn=(cP (l.take i)).length:=by have:=o.rd.len; rwa [lM] at this
  generalize cP (l.take i)=out at *;have hKK: ∀ {p:Nat},iw x out p=p->iw x out p=iw x out out.length-> ∀ a' n' c' g',OwnK h g' 39 4 (.slice a' n' c') ((out.take p++[x]++out.drop p).map aD)->Ok h g'->QK h l (l.length - (i+1)) (i+1) a' n' c' g':=fun {p} h1 h2 a' n' c' g' o' ok'=>⟨by omega,rfl,by rw [hso]; unfold m9; rw [<-h2,h1]; exact o',ok'⟩
  refine pM a n c t tn tc (QK h l) (l.length - i) i (Ru h out x t tn tc) _ (fun mz2 p=> ?_) tn (p:=tn) ⟨by omega,rfl,by rw [htn],o,ok⟩;intros; rename_i gg hin;obtain ⟨g1,rfl,hpos,o,ok⟩:=hin;have oR:=(Ok.refl ok.wf).room 14;have okR:=ok.trans oR;have o':=o.ok oR;have hw:wrap .i64 ((i:Int)+1)=((i+1:Nat):Int):=az (n:=l.length) hi (by omega);rw [hw];refine ae (fun q2=> ?_) (fun q2=> ?_)
  ·have q2:=dT q2;obtain ⟨p',rfl⟩: ∃ p',mz2=p'+1:=⟨mz2 - 1,by omega⟩
   have hw2:wrap .i64 (((p'+1:Nat):Int) - 1)=(p':Int):=by rw [am (by omega) (by omega)]; omega
   obtain ⟨y,hy⟩: ∃ y,out[p']?=some y:=⟨_,gE (by omega)⟩
   have hyd:out.getD p' q0=y:=by rw [gD,hy]; rfl
   obtain ⟨bb,oo,d1,d2,_⟩:=(r.ok okR).at_ hx;obtain ⟨k,off,cc,e,_⟩:=o'.blk (by rw [lM]; omega);injection e with e1 e2 e3
   subst e1;obtain ⟨i1,_,i3⟩:=o'.at_ tR pz (i:=p') (r:=aD y) (by rw [getElem?_map,hy]; rfl) .i64;rw [hw2];refine ⟨_,d1,_,d2,_,i1,_,i3 _ F9 In,(NR x y okR.wf).mono ?_⟩;rintro _ g6 ⟨rfl,o6⟩;have ok6:=okR.trans o6;refine ⟨_,rfl,ae (fun q3=> ?_) (fun q3=> ?_)⟩
   ·refine bp p' (Nat.lt_succ_self _) ⟨by omega,rfl,?_,o'.ok o6,ok6⟩;rw [<-hpos];show iw x out p'=if iN x (out.getD p' q0)=true then iw x out p' else p'+1;rw [hyd,if_pos q3]
   ·have hpp:iw x out (p'+1)=p'+1:=by
     show (if iN x (out.getD p' q0)=true then iw x out p' else p'+1)=_;rw [hyd,if_neg (by rw [q3]; exact Bool.false_ne_true)]
    exact sW w ok6 (o'.ok o6) g1 (by omega) r hx (fun a' n' c' g' z1 z2=>fG (l.length - (i+1)) (by omega) (hKK hpp hpos a' n' c' g' z1 z2))
  ·have q2:=dF q2;obtain rfl:mz2=0:=by omega
   exact sW w okR o' g1 (by omega) r hx (fun a' n' c' g' z1 z2=>fG (l.length - (i+1)) (by omega) (hKK rfl hpos a' n' c' g' z1 z2))
 ·have q:=dF q;rw [take_of_length_le (by omega)] at o;exact ⟨o,ok⟩
end
end
def fZ (ord:List Nat)(q:MArc):List Nat:=if q.t.toNat∈ord then ord else ord++[q.t.toNat]
def ry (M:Mach)(ord:List Nat)(s:Nat):List Nat:=(cP (M.states.getD s ⟨[],[]⟩).arcs).foldl fZ ord
def sK (M:Mach):Nat->Nat->List Nat->List Nat
 | 0,_,ord=>ord
 | f+1,i,ord=>match ord[i]? with
  | none=>ord
  | some s=>sK M f (i+1) (ry M ord s)
def jQ (M:Mach):List Nat:=sK M (M.states.length+1) 0 [M.start.toNat]
def rA (M:Mach):Mach:=⟨M.kind,M.start,M.lead,M.states.map fun s=>⟨s.f,cP s.arcs⟩⟩
noncomputable def nF (M:Mach):Mach×Int:=if (bu M).2≠0 then (kK,(bu M).2) else (rA (dP (bu M).1 (jQ (bu M).1)),0)
theorem Jt {out:List MArc}{x y:MArc}:y∈m9 out x↔y=x\/y∈out:=by
 unfold m9;have:y∈out↔y∈out.take (iw x out out.length)\/y∈out.drop (iw x out out.length):=by
  rw [<-mem_append,List.take_append_drop]
 rw [this];simp only [mem_append,mem_singleton];constructor
 ·rintro ((h | h) | h)
  ·exact .inr (.inl h)
  ·exact .inl h
  ·exact .inr (.inr h)
 ·rintro (h | h | h)
  ·exact .inl (.inr h)
  ·exact .inl (.inl h)
  ·exact .inr h
theorem oN {y:MArc}: ∀ {l out:List MArc},y∈l.foldl m9 out↔y∈l\/y∈out
 | [],out=>by simp
 | x::l,out=>by
  rw [List.foldl_cons,oN,Jt,mem_cons];constructor
  ·rintro (h | h | h)
   ·exact .inl (.inr h)
   ·exact .inl (.inl h)
   ·exact .inr h
  ·rintro ((h | h) | h)
   ·exact .inr (.inl h)
   ·exact .inl h
   ·exact .inr (.inr h)
theorem sortA_mem {l:List MArc}{y:MArc}:y∈cP l↔y∈l:=by
 unfold cP; rw [oN]; simp
theorem MS {N:Nat}{ord:List Nat}(o:OrdOk N ord){q:MArc}(hq:q.t.toNat < N):OrdOk N (fZ ord q):=by
 unfold fZ; split
 ·exact o
 ·next h=>
  refine ⟨fun x hx=> ?_,?_⟩
  ·rcases mem_append.1 hx with h' | h'
   ·exact o.lt x h'
   ·rw [mem_singleton.1 h']; exact hq
  ·rw [List.nodup_append];refine ⟨o.nd,by simp,fun a ha b hb=> ?_⟩;rw [mem_singleton.1 hb];exact fun e=>h (e ▸ ha)
theorem re {N:Nat}: ∀ {l:List MArc}{ord:List Nat},OrdOk N ord->(∀ q∈l,q.t.toNat < N)->OrdOk N (l.foldl fZ ord)
 | [],_,o,_=>o
 | q::l,ord,o,h=>by
  rw [List.foldl_cons];exact re (MS o (h q (mem_cons_self ..))) fun x hx=>h x (mem_cons_of_mem _ hx)
theorem Good.tn {M:Mach}(gd:Good M){s:Nat}{q:MArc}(hq:q∈(M.states.getD s ⟨[],[]⟩).arcs):q.t.toNat < M.states.length:=by
 rw [gD] at hq
 cases hs:M.states[s]? with
 | none=>rw [hs] at hq; cases hq
 | some st=>
  rw [hs] at hq;have:=gd.arcs st (List.mem_of_getElem? hs) q hq;have h0:=this.t0;have h1:=this.t1;omega
theorem DN {M:Mach}(gd:Good M){ord:List Nat}(o:OrdOk M.states.length ord)(s:Nat):OrdOk M.states.length (ry M ord s):=
 re o fun q hq=>gd.tn (s:=s) (sortA_mem.1 hq)
theorem Fc {M:Mach}(gd:Good M): ∀ (f i:Nat){ord:List Nat},OrdOk M.states.length ord->OrdOk M.states.length (sK M f i ord)
 | 0,_,_,o=>o
 | f+1,i,ord,o=>by
  unfold sK; split
  ·exact o
  ·exact Fc gd f (i+1) (DN gd o _)
theorem LA {M:Mach}(gd:Good M):OrdOk M.states.length [M.start.toNat]:=by
 have h0:=gd.start0;have h1:=gd.start1;exact ⟨fun x hx=>by rw [mem_singleton.1 hx]; omega,by simp⟩
theorem ut {M:Mach}(gd:Good M):OrdOk M.states.length (jQ M):=Fc gd _ _ (LA gd)
theorem Gp {M:Mach}{ord:List Nat}(gd:Good M)(hs:M.start.toNat∈ord):Good (dP M ord):=by
 have hl:(dP M ord).states.length=ord.length:=by unfold dP; simp
 have h1:=(nB ord 0 M.start.toNat).2 hs;have h2:=m7 ord 0 M.start.toNat;refine ⟨?_,?_,fun s hs q hq=> ?_⟩
 ·show 0<=cR ord 0 M.start.toNat;rcases h2 with h | h
  ·exact absurd h h1
  ·omega
 ·show cR ord 0 M.start.toNat < _;rw [hl];rcases h2 with h | h
  ·exact absurd h h1
  ·omega
 ·obtain ⟨x,hx,rfl⟩:=mem_map.1 hs;obtain ⟨p,hp,he⟩:=List.mem_filterMap.1 hq;unfold dZ at he;split at he
  ·cases he
  ·next hne=>
   obtain rfl:=oI he;have h3:=m7 ord 0 p.t.toNat;rw [hl];rcases h3 with h | h
   ·exact absurd h hne
   ·have ap:ArcIn M.states.length p:=by
     rw [gD] at hp
     cases hx2:M.states[x]? with
     | none=>rw [hx2] at hp; cases hp
     | some s2=>rw [hx2] at hp; exact gd.arcs s2 (List.mem_of_getElem? hx2) p hp
    exact ⟨ap.i0,ap.i1,ap.o0,ap.o1,by show 0<=cR ord 0 p.t.toNat; omega,by show cR ord 0 p.t.toNat < _; omega⟩
theorem ur {M:Mach}{ord:List Nat}{n:Nat}(hA: ∀ s∈M.states,s.arcs.length<=n): ∀ s∈(dP M ord).states,s.arcs.length<=n:=fun s hs=>by
 obtain ⟨x,hx,rfl⟩:=mem_map.1 hs;refine le_trans (List.length_filterMap_le ..) ?_;rw [gD]
 cases h:M.states[x]? with
 | none=>exact zero_le _
 | some s=>exact hA s (List.mem_of_getElem? h)
theorem jC {M:Mach}(sm:Small M)(h:(bu M).2=0):Good (bu M).1/\(bu M).1.states.length<=300/\ ∀ s∈(bu M).1.states,s.arcs.length<=2000:=by
 cases hv:bq M with
 | false=>rw [nJ hv] at h; cases h
 | true=>
  by_cases hu:fO M M.start.toNat
  ·rw [qL hv hu];have gd:=mY hv;have h0:=gd.start0;have h1:=gd.start1;have hm:M.start.toNat∈tS M:=by
    unfold tS;exact List.mem_filter.2 ⟨mem_range.2 (by omega),@decide_eq_true _ (Classical.propDecidable _) hu⟩
   refine ⟨Gp gd hm,?_,ur fun s hs=> ?_⟩
   ·show ((tS M).map _).length<=300;rw [lM];have h3:=de M.states.length (um M).nd (um M).lt;have h4:=sm.sts;omega
   ·obtain ⟨j,hj,e⟩:=List.mem_iff_getElem.1 hs;exact (eD sm (i:=j) (by rw [gE hj,e])).1
  ·rw [pX hv hu] at h ⊢;unfold ju at h ⊢;split at h
   ·next hk=>
    rw [if_pos hk];refine ⟨⟨Int.le_refl _,by show (0:Int) < (1:Nat); omega,fun s hs q hq=> ?_⟩,by show 1<=300; decide,fun s hs=> ?_⟩
    ·rw [mem_singleton.1 hs] at hq; cases hq
    ·rw [mem_singleton.1 hs]; exact zero_le _
   ·cases h
noncomputable def aL:FD:=bF Tryz.f26 [([1,1,1,1,0,1,0,0],[1,2,5,6]),([1,1,1,1,1,1,1,0,1,0,0],[1,2,5,7,8]),([1,1,1,1,1,1,1,0,1,0,0,1,0,0,1,1,0,0],[1,2,5,7,8,9,10]),([1,1,1,1,1,1,1,1,1,0,1,0,0],[2,11,12])]
abbrev jG (k k2:Nat)(e:OA)(en ec:Nat)(i:Nat):LV:=[(pA k),(pA k2),(.slice e en ec),(iA i)]
abbrev ct (k k2:Nat)(e:OA)(en ec:Nat)(i:Nat)(t:OA)(tn tc:Nat):LV:=[(pA k),(pA k2),(.slice e en ec),(.slice t tn tc),(iA i)]
abbrev dB (k k2:Nat)(e:OA)(en ec:Nat)(b:OA)(m d i:Nat)(j:Nat)(t:OA)(tn tc:Nat):LV:=[(pA k),(pA k2),(.slice e en ec),(.slice t tn tc),(iA i),(.slice b m d),(iA j)]
abbrev fe (k2 k11:Nat)(i:Nat):LV:=[(pA k2),(pA k11),(iA i)]
theorem GC (mv:LV)(h:Heap)(Q:VH)(hx:xN (dc SS.P 24 (.agg ⟨mv⟩)) h fun B1 g2=>xN (aF SS.P 24) g2 fun B3 g4=>xA (ah SS.P 24 g4 (pA (h.next))) fun c5=>FW SS 24 [(.agg ⟨c5⟩)] g4 fun v6 h7=> ∃ cs8:LV,∃ n9:Int,v6=(.tuple ⟨[(.agg ⟨cs8⟩),(.int .i64 n9)]⟩)/\xU (ai SS.P 24 (pA (h.next)) (.agg ⟨cs8⟩) h7) h7 fun u10 g11=>au (((n9:Int) != 0)) (xA (aI SS.P 24 []) fun c12=>xU (ai SS.P 24 (pA (g2.next)) (.agg ⟨c12⟩) g11) g11 fun u13 g14=>cX SS [((pA (g2.next)),some 24),((.int .i64 n9),none)] g14 Q) (xP (af SS.P 24 (pA (h.next)) 3) fun p15=>xL (ah SS.P 22 g11 (.pointer (some p15))) fun a16 n17 c18=>xR (aP SS.P 48 (iA n17) (iA n17)) g11 fun B19 n20 c21 g22=>LL SS aL [1,1,1,1,0,1,0,0] [(pA (h.next)),(pA (g2.next)),(sA (g11.next) n20 c21),(.int .i64 0)] g22 (KK SS aL [1,1,1,1,0,1,0] [] (EE SS aL Q)))):FW SS 26 [(.agg ⟨mv⟩)] h Q:=bG aL Tryz.func26 (aj hx)
theorem rG (mv:LV)(k k2:Nat)(e:OA)(en ec:Nat)(Inv:Nat->Nat->Heap->Prop)(Q:VH)(step: ∀ (mz:Nat) (i:Nat) (zz:Nat->Value) (h:Heap),Inv mz i h->au (decide (((i:Int):Int) < (en:Int))) (xP (ag SS.P 48 (.slice e en ec) (iA i)) fun p23=>xU (ai SS.P 3 (.pointer (some p23)) (.int .i64 (-1)) h) h fun u24 g25=>ax (fA (jG k k2 e en ec) Inv) mz [(pA k),(pA k2),(.slice e en ec),(.int .i64 (wrap .i64 ((i:Int)+1)))] g25) (xP (af SS.P 24 (pA k) 1) fun p26=>xI .i64 (ah SS.P 3 h (.pointer (some p26))) fun n27=>xP (ag SS.P 48 (.slice e en ec) (.int .i64 n27)) fun p28=>xU (ai SS.P 3 (.pointer (some p28)) (.int .i64 0) h) h fun u29 g30=>xP (af SS.P 24 (pA k) 1) fun p31=>xI .i64 (ah SS.P 3 g30 (.pointer (some p31))) fun n32=>xR (ak SS.P 48 1 [(0,(.int .i64 n32))]) g30 fun B33 n34 c35 g36=>LL SS aL [1,1,1,1,1,1,1,0,1,0,0] (ct k k2 e en ec 0 (some ⟨g30.next,0,none⟩) n34 c35) g36 (KK SS aL [1,1,1,1,1,1,1,0,1,0] [] (EE SS aL Q))))(mz:Nat){i:Nat}{h:Heap}(hi:Inv mz i h):LL SS aL [1,1,1,1,0,1,0,0] (jG k k2 e en ec i) h (KK SS aL [1,1,1,1,0,1,0] [] (EE SS aL Q)):=
 bH (jG k k2 e en ec) Inv (fun mz i zz h hi=>aj (step mz i zz h hi)) mz hi
theorem rF (mv:LV)(k k2:Nat)(e:OA)(en ec:Nat)(Inv2:Nat->Nat->OA->Nat->Nat->Heap->Prop)(Q:VH)(step: ∀ (mz2:Nat) (i:Nat) (t:OA) (tn tc:Nat) (zz:Nat->Value) (h:Heap),Inv2 mz2 i t tn tc h->au (decide (((i:Int):Int) < (tn:Int))) (xP (af SS.P 24 (pA k) 3) fun p37=>xL (ah SS.P 22 (room h 11) (.pointer (some p37))) fun a38 n39 c40=>xP (ag SS.P 48 (.slice t tn tc) (iA i)) fun p41=>xI .i64 (ah SS.P 3 (room h 11) (.pointer (some p41))) fun n42=>xP (ag SS.P 22 (.slice a38 n39 c40) (.int .i64 n42)) fun p43=>xP (af SS.P 37 (.pointer (some p43)) 1) fun p44=>xL (ah SS.P 35 (room h 11) (.pointer (some p44))) fun a45 n46 c47=>FW SS 49 [(.slice a45 n46 c47)] (room h 11) fun v48 h49=>yL v48 fun a50 n51 c52=>LL SS aL [1,1,1,1,1,1,1,0,1,0,0,1,0,0,1,1,0,0] (dB k k2 e en ec a50 n51 c52 i 0 t tn tc) h49 (KK SS aL [1,0,0,1,1,0] [1,1,1,1,1,1,1,0,1,0,0] (RR aL [1,1,1,1,1,1,1,0,1,0,0] (kY (ct k k2 e en ec) Inv2) mz2 (KK SS aL [1,1,1,1,1,1,1,0,1,0] [] (EE SS aL Q))))) (xA (ah SS.P 24 h (pA k)) fun c53=>FW SS 44 [(.agg ⟨c53⟩),(.slice t tn tc),(.slice e en ec)] h fun v54 h55=>yA v54 fun c56=>xN (aF SS.P 24) h55 fun B57 g58=>xU (ai SS.P 24 (pA (h55.next)) (.agg ⟨c56⟩) g58) g58 fun u59 g60=>LL SS aL [1,1,1,1,1,1,1,1,1,0,1,0,0] (fe k2 (h55.next) 0) g60 (KK SS aL [1,1,1,1,1,1,1,1,1,0,1,0] [] (EE SS aL Q))))(mz2:Nat){i:Nat}{t:OA}{tn tc:Nat}{h:Heap}(hi:Inv2 mz2 i t tn tc h):LL SS aL [1,1,1,1,1,1,1,0,1,0,0] (ct k k2 e en ec i t tn tc) h (KK SS aL [1,1,1,1,1,1,1,0,1,0] [] (EE SS aL Q)):=
 jW (ct k k2 e en ec) Inv2 (fun mz2 i t tn tc zz h hi=>aj (step mz2 i t tn tc zz h hi)) mz2 hi
theorem rJ (mv:LV)(k k2:Nat)(e:OA)(en ec:Nat)(b:OA)(m d:Nat)(Inv2:Nat->Nat->OA->Nat->Nat->Heap->Prop)(mz2 i:Nat)(Inv3:Nat->Nat->OA->Nat->Nat->Heap->Prop)(Q:VH)(step: ∀ (mz3:Nat) (j:Nat) (t:OA) (tn tc:Nat) (zz:Nat->Value) (h:Heap),Inv3 mz3 j t tn tc h->au (decide (((j:Int):Int) < (m:Int))) (xP (ag SS.P 35 (.slice b m d) (iA j)) fun p61=>xP (af SS.P 39 (.pointer (some p61)) 3) fun p62=>xI .i64 (ah SS.P 3 h (.pointer (some p62))) fun n63=>xP (ag SS.P 48 (.slice e en ec) (.int .i64 n63)) fun p64=>xI .i64 (ah SS.P 3 h (.pointer (some p64))) fun n65=>au (decide ((n65:Int) < 0)) (xP (ag SS.P 35 (.slice b m d) (iA j)) fun p66=>xP (af SS.P 39 (.pointer (some p66)) 3) fun p67=>xI .i64 (ah SS.P 3 h (.pointer (some p67))) fun n68=>xP (ag SS.P 48 (.slice e en ec) (.int .i64 n68)) fun p69=>xU (ai SS.P 3 (.pointer (some p69)) (iA tn) h) h fun u70 g71=>xP (ag SS.P 35 (.slice b m d) (iA j)) fun p72=>xP (af SS.P 39 (.pointer (some p72)) 3) fun p73=>xI .i64 (ah SS.P 3 g71 (.pointer (some p73))) fun n74=>xR (ak SS.P 48 1 [(0,(.int .i64 n74))]) g71 fun B75 n76 c77 g78=>xE (ay SS.P 48 48 (.slice t tn tc) (sA (g71.next) n76 c77) g78) g78 fun a79 n80 c81 u82 g83=>ax (kY (dB k k2 e en ec b m d i) Inv3) mz3 [(pA k),(pA k2),(.slice e en ec),(.slice a79 n80 c81),(iA i),(.slice b m d),(.int .i64 (wrap .i64 ((j:Int)+1)))] g83) (ax (kY (dB k k2 e en ec b m d i) Inv3) mz3 [(pA k),(pA k2),(.slice e en ec),(.slice t tn tc),(iA i),(.slice b m d),(.int .i64 (wrap .i64 ((j:Int)+1)))] h)) (ax (kY (ct k k2 e en ec) Inv2) mz2 [(pA k),(pA k2),(.slice e en ec),(.slice t tn tc),(.int .i64 (wrap .i64 ((i:Int)+1)))] h))(mz3:Nat){j:Nat}{t:OA}{tn tc:Nat}{h:Heap}(hi:Inv3 mz3 j t tn tc h):LL SS aL [1,1,1,1,1,1,1,0,1,0,0,1,0,0,1,1,0,0] (dB k k2 e en ec b m d i j t tn tc) h (KK SS aL [1,0,0,1,1,0] [1,1,1,1,1,1,1,0,1,0,0] (RR aL [1,1,1,1,1,1,1,0,1,0,0] (kY (ct k k2 e en ec) Inv2) mz2 (KK SS aL [1,1,1,1,1,1,1,0,1,0] [] (EE SS aL Q)))):=
 jW (dB k k2 e en ec b m d i) Inv3 (fun mz3 j t tn tc zz h hi=>aj (step mz3 j t tn tc zz h hi)) mz3 hi
theorem rP (mv:LV)(k2 k11:Nat)(Inv4:Nat->Nat->Heap->Prop)(Q:VH)(step: ∀ (mz4:Nat) (i:Nat) (zz:Nat->Value) (h:Heap),Inv4 mz4 i h->xP (af SS.P 24 (pA k11) 3) fun p84=>xL (ah SS.P 22 h (.pointer (some p84))) fun a85 n86 c87=>au (decide (((i:Int):Int) < (n86:Int))) (xP (af SS.P 24 (pA k11) 3) fun p88=>xL (ah SS.P 22 (room h 13) (.pointer (some p88))) fun a89 n90 c91=>xP (af SS.P 24 (pA k11) 3) fun p92=>xL (ah SS.P 22 (room h 13) (.pointer (some p92))) fun a93 n94 c95=>xP (ag SS.P 22 (.slice a93 n94 c95) (iA i)) fun p96=>xP (af SS.P 37 (.pointer (some p96)) 1) fun p97=>xL (ah SS.P 35 (room h 13) (.pointer (some p97))) fun a98 n99 c100=>FW SS 49 [(.slice a98 n99 c100)] (room h 13) fun v101 h102=>yL v101 fun a103 n104 c105=>xP (ag SS.P 22 (.slice a89 n90 c91) (iA i)) fun p106=>xP (af SS.P 37 (.pointer (some p106)) 1) fun p107=>xU (ai SS.P 35 (.pointer (some p107)) (.slice a103 n104 c105) h102) h102 fun u108 g109=>(ah SS.P 22 h102 (.pointer (some p88))=some (.slice a89 n90 c91)/\dY 4 (.slice a89 n90 c91) (.slice a89 n90 c91)=true)/\ax (fA (fe k2 k11) Inv4) mz4 [(pA k2),(pA k11),(.int .i64 (wrap .i64 ((i:Int)+1)))] g109) (xA (ah SS.P 24 h (pA k11)) fun c110=>xU (ai SS.P 24 (pA k2) (.agg ⟨c110⟩) h) h fun u111 g112=>cX SS [((pA k2),some 24),((.int .i64 0),none)] g112 Q))(mz4:Nat){i:Nat}{h:Heap}(hi:Inv4 mz4 i h):LL SS aL [1,1,1,1,1,1,1,1,1,0,1,0,0] (fe k2 k11 i) h (KK SS aL [1,1,1,1,1,1,1,1,1,0,1,0] [] (EE SS aL Q)):=
 bH (fe k2 k11) Inv4 (fun mz4 i zz h hi=>aj (step mz4 i zz h hi)) mz4 hi
section
def tq (s:MSt):MSt:=⟨s.f,cP s.arcs⟩
def tV (l:List MSt)(i:Nat):List MSt:=(l.take i).map tq++l.drop i
theorem Fo {l:List MSt}{i:Nat}{s:MSt}(hs:l[i]?=some s):(tV l i)[i]?=some s/\tV l (i+1)=(tV l i).set i (tq s):=by
 have hi:=(List.getElem?_eq_some_iff.1 hs).1;have e:l.drop i=s::l.drop (i+1):=by rw [List.drop_eq_getElem_cons hi,(List.getElem?_eq_some_iff.1 hs).2]
 have hl:((l.take i).map tq).length=i:=by rw [lM,length_take]; omega
 have ht:l.take (i+1)=l.take i++[s]:=by rw [take_add_one,hs]; rfl
 unfold tV;refine ⟨?_,?_⟩
 ·rw [List.getElem?_append_right (by omega),hl,Nat.sub_self,e]; rfl
 ·rw [List.set_append_right _ _ (by omega),hl,Nat.sub_self,e,ht,map_append];simp
section
variable {h:Heap} {a:Option Addr} {n c:Nat}
def RJ (hb:Heap)(R:Mach)(k2 k11:Nat)(a:Option Addr)(n c:Nat)(mz i:Nat)(g:Heap):Prop:=i<=R.states.length/\mz=R.states.length - i/\ ∃ ps,ps.map (·.1)=tV R.states i/\OwnM hb g (.slice a n c) ps/\Ok hb g/\g.get k11=some (.cells (aC R a n c) 24 0 true)/\g.get k2=some eG/\aG (.slice a n c)≠some k11/\ ∀ (i:Nat)(p:MSt×Value),ps[i]?=some p->aG p.2≠some k11
theorem Eo {hb g0:Heap}(w:Wf h)(o:Ok h hb){R:Mach}(hR:R.states.length<=300)(hA: ∀ s∈R.states,s.arcs.length<=2000){k2 k11:Nat}(hk2:h.next<=k2)(hk2b:k2 < hb.next){ps:List (MSt×Value)}(hps:ps.map (·.1)=R.states)(om:OwnM hb g0 (.slice a n c) ps)(ok:Ok hb g0)(hk:g0.get k2=some eG)(hk11:g0.get k11=some (.cells (aC R a n c) 24 0 true))(ne1:aG (.slice a n c)≠some k11)(ne2: ∀ (i:Nat) (p:MSt×Value),ps[i]?=some p->aG p.2≠some k11):
  LL SS aL [1,1,1,1,1,1,1,1,1,0,1,0,0] (fe k2 k11 0) g0 (KK SS aL [1,1,1,1,1,1,1,1,1,0,1,0] [] (EE SS aL (oD h (rA R,0)))):=by
 refine rP [] k2 k11 (RJ hb R k2 k11 a n c) _ (fun mz i=> ?_) R.states.length (i:=0) ⟨zero_le _,rfl,ps,by simpa [tV] using hps,om,ok,hk11,hk,ne1,ne2⟩;intros; rename_i g hin;clear hps om ok hk hk11 ne1 ne2 ps;obtain ⟨f1,rfl,ps,hps,om,ok,k11g,k2g,ne1,ne2⟩:=hin;have l3:ah SS.P 22 g (.pointer (some ⟨k11,3,none⟩))=some (.slice a n c):=cH uU Dr k11g (by simp [aC]);have hn:n=R.states.length:=by
  have h1:=om.st.len;rw [hps] at h1;unfold tV at h1;rw [length_append,lM,length_take,length_drop] at h1;omega
 refine ⟨_,aM _,_,_,_,l3,ae (fun q=> ?_) (fun q=> ?_)⟩
 ·have q:=dT q;have hi:i < R.states.length:=by omega
  obtain ⟨s,hs⟩: ∃ s,R.states[i]?=some s:=⟨_,gE hi⟩
  obtain ⟨m1,m2⟩:=Fo hs;rw [<-hps,getElem?_map] at m1;obtain ⟨p,hp,rfl⟩:=map_eq_some_iff.1 m1;have oR:=(Ok.refl ok.wf).room 13;obtain ⟨k,off,c',e,hkb⟩:=om.row.blk (by rw [lM]; have:=(List.getElem?_eq_some_iff.1 hp).1; omega);injection e with e1 e2 e3
  obtain rfl:=e1;obtain ⟨x1,x2,x3⟩:=(om.ok oR).at_ hp;have ar:ArcRow (Go.Ab.room g 13) p.2 p.1.arcs:=((om.arcs i p hp).ok oR).rd;obtain ⟨x,z,hx⟩:=(om.arcs i p hp).slc;rw [hx] at x2 ar;have l3R:ah SS.P 22 (Go.Ab.room g 13) (.pointer (some ⟨k11,3,none⟩))=some (.slice (some ⟨k,off,none⟩) n c):=cH uU Dr (oR.ext _ _ k11g) (by simp [aC]);have hal:=hA _ (List.mem_of_getElem? hs);refine ⟨_,aM _,_,_,_,l3R,_,aM _,_,_,_,l3R,_,x1,_,bm _ _,_,_,_,x2,(vP oR.wf ar (by omega)).mono ?_⟩;rintro v gS ⟨os,o2⟩;obtain ⟨y,z2,rfl⟩:=os.slc;have okS:=oR.trans o2;have nx: ∀ j,aG (.slice y ((cP p.1.arcs).map aD).length z2)=some j->g.next<=j:=fun j e=>by
   have h1:=(os.lt o2.wf e).2;have h2:(Go.Ab.room g 13).next=g.next+13:=rfl;omega
  obtain ⟨u,s1,s2,s3,s4,s5⟩:=om.setA o.wf (ok.trans okS) hp (fun j B h _=>okS.ext _ _ h) (os.base (ok.trans oR)) (fun j e=> .inl (nx j e)) ok.wf;have l3S:ah SS.P 22 gS (.pointer (some ⟨k11,3,none⟩))=some (.slice (some ⟨k,off,none⟩) n c):=cH uU Dr (okS.ext _ _ k11g) (by simp [aC]);have h11:=ok.wf _ _ k11g;refine ⟨_,_,_,rfl,_,x1,_,bm _ _,u,s1,⟨l3S,Da _ _ _ _⟩,?_⟩;rw [az hi (by omega)];refine bp (R.states.length - (i+1)) (by omega) ⟨by omega,rfl,_,?_,s2,s3,s4 _ _ (okS.ext _ _ k11g) (fun e=>ne1 (by rw [e]; rfl)),s4 _ _ (okS.ext _ _ k2g) (fun e=>by omega),ne1,?_⟩
  ·rw [m2,map_set,hps]; rfl
  ·intro i' p' hp';rw [getElem?_set] at hp';split at hp'
   ·split at hp'
    ·obtain rfl:=oI hp';intro e;have:=nx _ e;omega
    ·cases hp'
   ·exact ne2 i' p' hp'
 ·have q:=dF q;have he:ps.map (·.1)=(rA R).states:=by
   rw [hps]; unfold tV;rw [take_of_length_le (by omega),List.drop_of_length_le (by omega),append_nil]; rfl
  exact ⟨_,fJ wC vV ej k11g (by simp [aC]),ja w (o.trans ok) k2g hk2 (R:=(rA R,0)) he om o (.inl hk2b)⟩
end
end
section
theorem sM: ∀ (l:List MArc)(ord:List Nat),ord.length<=(l.foldl fZ ord).length
 | [],_=>le_refl _
 | q::l,ord=>by
  rw [List.foldl_cons];refine le_trans ?_ (sM l (fZ ord q));unfold fZ; split
  ·exact le_refl _
  ·rw [length_append]; omega
theorem vK {hb g:Heap}{t:Option Addr}{tn tc:Nat}{ord:List Nat}(o:OwnG hb g 3 (.slice t tn tc) (ord.map iv)):tn=ord.length:=by
 obtain ⟨a',c',e⟩:=o.slc;injection e with _ e _
 rw [e,lM]
def Ri (hb:Heap)(N kn:Nat)(b:Option Addr)(m d:Nat)(l:List MArc)(ord0:List Nat)(mz3 j:Nat)(t:Option Addr)(tn tc:Nat)(g:Heap):Prop:=j<=l.length/\mz3=l.length - j/\OwnG hb g 3 (.slice t tn tc) (((l.take j).foldl fZ ord0).map iv)/\IRow hb kn 3 (sx N ((l.take j).foldl fZ ord0)) g/\OwnK hb g 39 4 (.slice b m d) (l.map aD)/\(∀ j,aG (.slice b m d)=some j->j≠kn/\aG (.slice t tn tc)≠some j)/\ ∀ j,aG (.slice t tn tc)=some j->kn≠j
def P5 (hb:Heap)(M:Mach)(N kn:Nat)(mz i:Nat)(t:Option Addr)(tn tc:Nat)(g:Heap):Prop:= ∃ ord:List Nat,OrdOk N ord/\i<=ord.length/\mz=N - i/\sK M (N+1 - i) i ord=jQ M/\OwnG hb g 3 (.slice t tn tc) (ord.map iv)/\IRow hb kn 3 (sx N ord) g/\ ∀ j,aG (.slice t tn tc)=some j->kn≠j
section
variable {M:Mach} {b:Option Addr} {m d:Nat}
theorem DM {hb gS:Heap}(w:Wf hb)(gd:Good M)(hN:M.states.length<=300){kn k k2:Nat}{l:List MArc}(hl: ∀ q∈l,ArcIn M.states.length q)(hll:l.length<=100000){ord0:List Nat}(oo:OrdOk M.states.length ord0){i:Nat}(hi:i < ord0.length)(hg:sK M (M.states.length+1 - (i+1)) (i+1) (l.foldl fZ ord0)=jQ M){t:Option Addr}{tn tc:Nat}(hin:Ri hb M.states.length kn b m d l ord0 l.length 0 t tn tc gS)(Q:VH):
  LL SS aL [1,1,1,1,1,1,1,0,1,0,0,1,0,0,1,1,0,0] (dB k k2 (some ⟨kn,0,none⟩) M.states.length M.states.length b m d i 0 t tn tc) gS (KK SS aL [1,0,0,1,1,0] [1,1,1,1,1,1,1,0,1,0,0] (RR aL [1,1,1,1,1,1,1,0,1,0,0] (kY (ct k k2 (some ⟨kn,0,none⟩) M.states.length M.states.length) (P5 hb M M.states.length kn)) (M.states.length - i) (KK SS aL [1,1,1,1,1,1,1,0,1,0] [] (EE SS aL Q)))):=by
 refine rJ [] k k2 (some ⟨kn,0,none⟩) M.states.length M.states.length b m d (P5 hb M M.states.length kn) (M.states.length - i) i (Ri hb M.states.length kn b m d l ord0) Q (fun mz3 j=> ?_) l.length (j:=0) hin;clear hin t tn tc;intro t tn tc;intros; rename_i g hin;obtain ⟨f1,rfl,ot,ir,ar,nb,nt⟩:=hin;have okj:OrdOk M.states.length ((l.take j).foldl fZ ord0):=re oo fun q hq=>by
  have h:=hl q (List.mem_of_mem_take hq);have h0:=h.t0;have h1:=h.t1;omega
 have hlen:=sM (l.take j) ord0;have hoN:=de M.states.length okj.nd okj.lt;have hoN0:=de M.states.length oo.nd oo.lt;have hml:m=l.length:=ArcRow.len ar.rd;have htn:=vK ot;have wg:=ir.ok.wf;refine ae (fun q1=> ?_) (fun q1=> ?_)
 ·have q1:=dT q1;have hj:j < l.length:=by omega
  obtain ⟨q,hq⟩: ∃ q,l[j]?=some q:=⟨_,gE hj⟩
  have hin:=hl q (List.mem_of_getElem? hq);obtain ⟨Y,hY⟩: ∃ Y:Nat,q.t=(Y:Int):=⟨q.t.toNat,by have:=hin.t0; omega⟩
  have hYn:Y < M.states.length:=by have:=hin.t1; omega
  have hYt:q.t.toNat=Y:=by omega
  have ht:(l.take (j+1)).foldl fZ ord0=fZ ((l.take j).foldl fZ ord0) q:=by
   rw [take_add_one,hq,List.foldl_append]; rfl
  have hw:wrap .i64 ((j:Int)+1)=((j+1:Nat):Int):=az (n:=l.length) hj (by omega);obtain ⟨bb,o1,d1,d2,d3,d4,d5,d6⟩:=ArcRow.at_ ar.rd hq;rw [hY] at d6;obtain ⟨n1,n2⟩:=vu (c:=M.states.length) ir.row hYn;generalize (l.take j).foldl fZ ord0=ord at *;refine ⟨_,d1,_,cE _ _,_,d6,_,n1,_,n2,ae (fun q2=> ?_) (fun q2=> ?_)⟩
  ·have q2:=dT q2;have hne:Y ∉ ord:=fun hm=>by
    have h1:=(nB ord 0 Y).2 hm;rcases m7 ord 0 Y with h | h
    ·exact h1 h
    ·omega
   have st:=fB (t:=3) tF ir.row (i:=Y) (by rw [nT]; exact hYn) (v:= .int .i64 (tn:Int)) rfl rfl;have ir2:=ir.set w Y (.int .i64 (tn:Int));have e1:(sx M.states.length ord).set Y (.int .i64 (tn:Int))=sx M.states.length (ord++[Y]):=by rw [uP hne,htn]
   rw [e1] at ir2 st;have kp: ∀ (k':Nat)(B:Blk),k'≠kn->g.get k'=some B->((Upd.set kn (.cells (sx M.states.length (ord++[Y])) 3 1 true)).app g).get k'=some B:=fun k' B hne hB=>by
    show (g.set kn _).get k'=_;rw [Heap.get_set,if_neg hne]; exact hB
   have ot2:=ot.keep fun k' B hk' hB=>kp k' B (fun e=>nt k' hk' e.symm) hB;have ar2:=ar.keep fun k' B hk' hB=>kp k' B (nb k' hk').1 hB;refine ⟨_,d1,_,cE _ _,_,d6,_,n1,_,st,?_⟩;generalize (Upd.set kn (.cells (sx M.states.length (ord++[Y])) 3 1 true)).app g=gA at *;obtain ⟨b2,o2,c1,c2,c3,c4,c5,c6⟩:=ArcRow.at_ ar2.rd hq;rw [hY] at c6;have oP:=(Ok.refl ir2.ok.wf).push (.cells [.int .i64 (Y:Int)] 3 1 true);have kP:=aq gA (.cells [.int .i64 (Y:Int)] 3 1 true);obtain ⟨b',n',c',u,a1,a2,a3,a4,a5,a6,a7⟩:=xH w (ir2.ok.trans oP) (ot2.ok oP) kP (by rw [lM]; omega);refine ⟨_,c1,_,cE _ _,_,c6,_,_,_,jR _,b',n',c',u,a1,?_⟩;dsimp only;rw [hw];have hke:=ir2.ok.wf _ _ ir2.row;have hA:fZ ord q=ord++[Y]:=by unfold fZ; rw [hYt,if_neg hne]
   refine fG (l.length - (j+1)) (by omega) ⟨by omega,rfl,?_,?_,(ar2.ok oP).keep fun k' B hk' hB=>a5 _ _ hB (nb k' hk').2,fun k' hk'=>⟨(nb k' hk').1,fun e=> ?_⟩,fun k' hk'=> ?_⟩
   ·rw [ht,hA,map_append]; exact a3
   ·rw [ht,hA];exact ⟨a5 _ _ (oP.ext _ _ ir2.row) (fun e=>nt _ e rfl),ir2.new,a4⟩
   ·rcases a6 k' e with h | h
    ·have h1:=(ar2.lt ir2.ok.wf hk').1;have:=oP.nx; omega
    ·exact (nb k' hk').2 h
   ·rcases a6 k' hk' with h | h
    ·have:=oP.nx; omega
    ·exact nt k' h
  ·have q2:=dF q2;have hm:Y∈ord:=(nB ord 0 Y).1 (by omega);have hA:fZ ord q=ord:=by unfold fZ; rw [hYt,if_pos hm]
   rw [hw];exact fG (l.length - (j+1)) (by omega) ⟨by omega,rfl,by rw [ht,hA]; exact ot,by rw [ht,hA]; exact ir,ar,nb,nt⟩
 ·have q1:=dF q1;have e:l.take j=l:=take_of_length_le (by omega);rw [e] at ot ir okj hlen hoN;rw [az (n:=300) (by omega) (by omega)];exact fG (M.states.length - (i+1)) (by omega) ⟨_,okj,by omega,rfl,hg,ot,ir,nt⟩
end
end
section
theorem xV {M:Mach}{f i x:Nat}{ord:List Nat}(hx:ord[i]?=some x):sK M (f+1) i ord=sK M f (i+1) (ry M ord x):=by
 rw [sK,hx]
theorem Bo {M:Mach}{i:Nat}{ord:List Nat}(h:ord.length<=i): ∀ f,sK M f i ord=ord
 | 0=>rfl
 | f+1=>by rw [sK,List.getElem?_eq_none h]
theorem Je (n:Nat):js [] n=[]:=by
 unfold js;rw [List.filter_eq_nil_iff];intro x _;simp
section
variable {h:Heap} {M:Mach} {a:Option Addr} {n c:Nat}
theorem H1 {hb g0:Heap}(w:Wf h)(o:Ok h hb)(gd:Good M)(hN:M.states.length<=300)(hA: ∀ s∈M.states,s.arcs.length<=2000){k k2 kn:Nat}(mb:MB hb k M a n c)(hk:hb.get k2=some eG)(hk2:h.next<=k2){t:Option Addr}{tn tc:Nat}(hin:P5 hb M M.states.length kn M.states.length 0 t tn tc g0):
  LL SS aL [1,1,1,1,1,1,1,0,1,0,0] (ct k k2 (some ⟨kn,0,none⟩) M.states.length M.states.length 0 t tn tc) g0 (KK SS aL [1,1,1,1,1,1,1,0,1,0] [] (EE SS aL (oD h (rA (dP M (jQ M)),0)))):=by
 refine rF [] k k2 (some ⟨kn,0,none⟩) M.states.length M.states.length (P5 hb M M.states.length kn) _ (fun mz i=> ?_) M.states.length (i:=0) hin;clear hin t tn tc;intro t tn tc;intros; rename_i g hin;obtain ⟨ord,oo,f1,rfl,hg,ot,ir,nt⟩:=hin;have htn:=vK ot;have hoN:=de M.states.length oo.nd oo.lt;refine ae (fun q=> ?_) (fun q=> ?_)
 ·have q:=dT q;have hi:i < ord.length:=by omega
  obtain ⟨x,hx⟩: ∃ x,ord[i]?=some x:=⟨_,gE hi⟩
  have hxN:x < M.states.length:=oo.lt x (List.mem_of_getElem? hx);obtain ⟨s,hs⟩: ∃ s,M.states[x]?=some s:=⟨_,gE hxN⟩
  have hsm:=List.mem_of_getElem? hs;have hal:=hA s hsm;have oR:=(Ok.refl ir.ok.wf).room 11;have okR:=ir.ok.trans oR;obtain ⟨b,o1,x',y,z,e1,e2,e3,e4,ar⟩:=mb.row.at2 okR hs;obtain ⟨p,p1,p2⟩:=J0 (ot.ok oR).rd hx;refine ⟨_,aM _,_,_,_,(mb.ok okR).l3,_,p1,_,p2,_,e1,_,bm _ _,_,_,_,e4,(vP okR.wf (ar.ok okR) (by omega)).mono ?_⟩;rintro v gS ⟨os,o2⟩;obtain ⟨y2,z2,rfl⟩:=os.slc;refine ⟨_,_,_,rfl,?_⟩;have okS:=oR.trans o2;have hf:M.states.length+1 - i=(M.states.length+1 - (i+1))+1:=by omega
  rw [hf,xV hx] at hg;unfold ry at hg;rw [uA hs] at hg;have hr:(Go.Ab.room g 11).next=g.next+11:=rfl;refine DM o.wf gd hN (l:=cP s.arcs) (fun q hq=>gd.arcs s hsm q (sortA_mem.1 hq)) (by rw [jl]; omega) oo hi hg ⟨zero_le _,rfl,ot.ok okS,ir.trans okS,os.base okR,fun j e=>⟨fun e'=> ?_,fun e'=> ?_⟩,nt⟩ _
  ·have h1:=(os.lt o2.wf e).2;have h2:=ir.lt;omega
  ·have h1:=(os.lt o2.wf e).2;have h2:=(ot.lt ir.ok.wf e').1;omega
 ·have q:=dF q;have e:ord=jQ M:=by rw [<-hg,Bo (by omega)]
  rw [e] at ot ir hoN;have rn:=ir.rd M.states.length;rw [nT] at rn;refine ⟨_,(mb.ok ir.ok).all,(EV ir.ok.wf gd hN hA (mb.ok ir.ok).row ot.rd rn (ut gd)).mono ?_⟩;rintro v gR ⟨a',n',c',ps,rfl,hps,om,okR⟩;have k5:=aq gR eG;have o5:=(Ok.refl okR.wf).push eG;have pa:=bO (t:=24) ej (cs0:=[.int .i64 0,.int .i64 0,aa [],.slice none 0 0]) rfl k5 (cs:=aC (dP M (jQ M)) a' n' c') rfl (dK ..);obtain ⟨o6,k6⟩:=cG (cs:=aC (dP M (jQ M)) a' n' c') okR.wf o5 k5 (le_refl _);have kg:=ir.ok.ext _ _ hk;refine ⟨_,rfl,_,iU,?_⟩;dsimp only;refine ⟨_,pa,?_⟩;refine Eo w (o.trans ir.ok) (R:=dP M (jQ M)) (by unfold dP; rw [lM]; omega) (ur hA) hk2 (ir.ok.wf _ _ kg) hps (om.ok o6) (okR.trans o6) ((okR.trans o6).ext _ _ kg) k6 (fun e=> ?_) (fun i p hp e=> ?_)
  ·have:=(om.row.lt okR.wf e).1; omega
  ·have:=((om.arcs i p hp).lt okR.wf e).1; omega
end
end
section
section
variable {h:Heap} {M:Mach} {a:Option Addr} {n c:Nat}
def RL (hb:Heap)(kn n:Nat)(mz i:Nat)(g:Heap):Prop:=i<=n/\mz=n - i/\IRow hb kn 3 (rN [] n i) g
theorem pO (h:(bu M).2≠0):nF M=(kK,(bu M).2):=by unfold nF; rw [if_pos h]
theorem sC (h:(bu M).2=0):nF M=(rA (dP (bu M).1 (jQ (bu M).1)),0):=by unfold nF; rw [if_neg (by rw [h]; exact fun e=>e rfl)]
theorem GJ (w:Wf h)(sm:Small M)(r:StRow h (.slice a n c) M.states):FW SS 26 [.agg ⟨aC M a n c⟩] h (oD h (nF M)):=by
 obtain ⟨mb0,ok0⟩:=cD w r;refine GC (aC M a n c) h _ ⟨_,ei M a n c,_,iU,?_⟩;have n0:h.next < (h.push (Bm M a n c)).next:=ok0.wf _ _ mb0.box;generalize h.push (Bm M a n c)=g0 at *;have k4:=aq g0 eG;have o1:=(Ok.refl ok0.wf).push eG;have ok1:=ok0.trans o1;have mb1:=mb0.ok o1;have hK1:g0.next < (g0.push eG).next:=ok1.wf _ _ k4;generalize g0.push eG=g1 at *;generalize g0.next=K at *;refine ⟨_,mb1.all,(Bk ok1.wf sm mb1.row).mono ?_⟩;rintro _ g2 ⟨a',n',c',ps,rfl,hps,om,o2⟩;have ok2:=ok1.trans o2;have k42:=o2.ext _ _ k4;have mb2:=mb1.ok o2;have pa:=bO (t:=24) ej (cs0:=aC M a n c) rfl mb2.box (cs:=aC (bu M).1 a' n' c') rfl (dK ..);obtain ⟨o3,k3⟩:=cG (cs:=aC (bu M).1 a' n' c') w ok2 mb2.box (le_refl _);refine ⟨_,_,rfl,_,pa,?_⟩;have kp: ∀ (j:Nat)(B:Blk),h.next < j->g2.get j=some B->((Upd.set h.next (.cells (aC (bu M).1 a' n' c') 24 0 true)).app g2).get j=some B:=fun j B hj hB=>by
  show (g2.set h.next _).get j=_;rw [Heap.get_set,if_neg (by omega)]; exact hB
 have k43:=kp K _ (by omega) k42;have om3:OwnM h ((Upd.set h.next (.cells (aC (bu M).1 a' n' c') 24 0 true)).app g2) (.slice a' n' c') ps:=om.low ok1 fun j B hB hj=>kp j B (by omega) hB;generalize (Upd.set h.next (.cells (aC (bu M).1 a' n' c') 24 0 true)).app g2=g3 at *;refine ae (fun q=> ?_) (fun q=> ?_)
 ·have q:(bu M).2≠0:=by simpa using q
  rw [pO q];exact ⟨_,vT,ja w o3 k43 (by omega) (R:=(kK,(bu M).2)) (ps:=[]) rfl (OwnM.nil h g3) (Ok.refl w) (.inr ⟨rfl,rfl,rfl,rfl⟩)⟩
 have q:(bu M).2=0:=by simpa using q
 obtain ⟨gd,hN,hA⟩:=jC sm q;rw [sC q];generalize (bu M).1=T at *;have st3:=om3.st;rw [hps] at st3;have mb3:MB g3 h.next T a' n' c':=⟨k3,st3⟩
 obtain rfl:n'=T.states.length:=mb3.len;have h0:=gd.start0;have h1:=gd.start1;obtain ⟨S,hS⟩: ∃ S:Nat,T.start=(S:Int):=⟨T.start.toNat,by omega⟩
 have hSt:T.start.toNat=S:=by omega
 have mk:=M5 T.states.length (by omega);rw [EZ [] T.states.length] at mk;refine ⟨_,aM _,_,_,_,mb3.l3,_,_,_,mk,?_⟩;have oE:=(Ok.refl o3.wf).push (.cells (rN [] T.states.length 0) 3 1 true);have kE:=aq g3 (.cells (rN [] T.states.length 0) 3 1 true);refine rG (aC M a n c) h.next K (some ⟨g3.next,0,none⟩) T.states.length T.states.length (RL g3 g3.next T.states.length) _ (fun mz i=> ?_) T.states.length (i:=0) ⟨zero_le _,rfl,⟨kE,le_refl _,oE⟩⟩;intros; rename_i g hin;obtain ⟨f1,rfl,ir⟩:=hin;refine ae (fun q1=> ?_) (fun q1=> ?_)
 ·have q1:=dT q1;have hi:i < T.states.length:=by omega
  have ix:=zD (P:=SS.P) gP tF (k:=g3.next) (off:=0) (n:=T.states.length) (c:=T.states.length) (ik:= .i64) (i:=(i:Int)) (by omega) (by omega);rw [Int.toNat_natCast,zero_add,Nat.mul_one] at ix;have st1:=fB (t:=3) tF ir.row (i:=i) (by rw [ze]; exact hi) (v:= .int .i64 (-1)) rfl rfl;have ir1:=ir.set o3.wf i (.int .i64 (-1));have hrs:=Fi [] hi;rw [FA (by simp)] at hrs;rw [<-hrs] at st1 ir1;refine ⟨_,ix,_,st1,?_⟩;rw [az hi (by omega)];exact bp (T.states.length - (i+1)) (by omega) ⟨by omega,rfl,ir1⟩
 ·have q1:=dF q1;obtain rfl:i=T.states.length:=by omega
  rw [Fm,Je] at ir;have mbg:=mb3.ok ir.ok;have hSn:S < T.states.length:=by omega
  have lS:=mbg.l1;rw [hS] at lS;obtain ⟨y1,y2⟩:=vu (c:=T.states.length) ir.row hSn;have st1:=fB (t:=3) tF ir.row (i:=S) (by rw [nT]; exact hSn) (v:= .int .i64 0) rfl rfl;have ir1:=ir.set o3.wf S (.int .i64 0);have e1:(sx T.states.length []).set S (.int .i64 0)=sx T.states.length [S]:=(uP (ord:=[]) (by simp)).symm;rw [e1] at st1 ir1;refine ⟨_,dG _,_,lS,_,y1,_,st1,?_⟩;generalize (Upd.set g3.next (.cells (sx T.states.length [S]) 3 1 true)).app g=gA at *;have lS2:=(mb3.ok ir1.ok).l1;rw [hS] at lS2;have oP:=(Ok.refl ir1.ok.wf).push (.cells [.int .i64 (S:Int)] 3 1 true);have kP:=aq gA (.cells [.int .i64 (S:Int)] 3 1 true);have hkn:=ir1.lt;have hbn:=ir1.ok.nx;refine ⟨_,dG _,_,lS2,_,_,_,jR _,?_⟩;have og:OwnG g3 (gA.push (.cells [.int .i64 (S:Int)] 3 1 true)) 3 (.slice (some ⟨gA.next,0,none⟩) 1 1) ([S].map iv):=OwnG.built kP hbn (by show 1 < bi; decide);refine H1 w o3 gd hN hA mb3 k43 (by omega) ⟨[S],⟨fun x hx=>by rw [mem_singleton.1 hx]; exact hSn,by simp⟩,zero_le _,rfl,?_,og,ir1.trans oP,fun j hj=> ?_⟩
  ·unfold jQ;rw [hSt]; rfl
  ·have e:gA.next=j:=oI hj;omega
end
end
noncomputable def jm:FD:=bF Tryz.f54 [([1,1,0,1,0,0],[0,1,12,13])]
abbrev gw (a:OA)(n c:Nat)(b:OA)(m d:Nat)(i:Nat):LV:=[(.slice a n c),(.slice b m d),(iA n),(iA i)]
theorem Ge (a:OA)(n c:Nat)(b:OA)(m d:Nat)(h:Heap)(Q:VH)(hx:au ((((n:Int):Int) != (m:Int))) (Q (.bool false) h) (LL SS jm [1,1,0,1,0,0] (gw a n c b m d 0) h (KK SS jm [1,1,0,1,0] [] (EE SS jm Q)))):FW SS 54 [(.slice a n c),(.slice b m d)] h Q:=bG jm Tryz.func54 (aj hx)
theorem qZ (a:OA)(n c:Nat)(b:OA)(m d:Nat)  (Inv:Nat->Nat->Heap->Prop) (Q:VH) (step: ∀ (mz:Nat)(i:Nat)(zz:Nat->Value)(h:Heap),Inv mz i h->au (decide (((i:Int):Int) < (n:Int))) (xP (ag SS.P 35 (.slice a n c) (iA i)) fun p1=>xA (ah SS.P 39 (room h 9) (.pointer (some p1))) fun c2=>xP (ag SS.P 35 (.slice b m d) (iA i)) fun p3=>xA (ah SS.P 39 (room h 9) (.pointer (some p3))) fun c4=>xB (al SS.P .neq 39 (.agg ⟨c2⟩) (.agg ⟨c4⟩)) fun b5=>au b5 (Q (.bool false) (room h 9)) (ax (fA (gw a n c b m d) Inv) mz [(.slice a n c),(.slice b m d),(iA n),(.int .i64 (wrap .i64 ((i:Int)+1)))] (room h 9))) (Q (.bool true) h)) (mz:Nat) {i:Nat} {h:Heap} (hi:Inv mz i h):LL SS jm [1,1,0,1,0,0] (gw a n c b m d i) h (KK SS jm [1,1,0,1,0] [] (EE SS jm Q)):=
 bH (gw a n c b m d) Inv (fun mz i zz h hi=>aj (step mz i zz h hi)) mz hi
noncomputable def Nf:FD:=bF Tryz.f53 []
theorem I7 (xv yv:LV)(h:Heap)(Q:VH)(hx:xN (dc SS.P 37 (.agg ⟨xv⟩)) h fun B1 g2=>xN (dc SS.P 37 (.agg ⟨yv⟩)) g2 fun B3 g4=>xP (af SS.P 37 (pA (h.next)) 0) fun p5=>xS (ah SS.P 9 g4 (.pointer (some p5))) fun l6=>xP (af SS.P 37 (pA (g2.next)) 0) fun p7=>xS (ah SS.P 9 g4 (.pointer (some p7))) fun l8=>au ((l6:LB) == l8) (xP (af SS.P 37 (pA (h.next)) 1) fun p9=>xL (ah SS.P 35 g4 (.pointer (some p9))) fun a10 n11 c12=>xP (af SS.P 37 (pA (g2.next)) 1) fun p13=>xL (ah SS.P 35 g4 (.pointer (some p13))) fun a14 n15 c16=>FW SS 54 [(.slice a10 n11 c12),(.slice a14 n15 c16)] g4 fun v17 h18=>yB v17 fun b19=>Q (.bool b19) h18) (Q (.bool false) g4)):FW SS 53 [(.agg ⟨xv⟩),(.agg ⟨yv⟩)] h Q:=bG Nf Tryz.func53 (aj hx)
section
section
variable {h:Heap} {l l':List MArc} {a:Option Addr} {n c:Nat} {b:Option Addr} {m d:Nat}
theorem FY (w:Wf h)(r:ArcRow h (.slice a n c) l)(r':ArcRow h (.slice b m d) l')(hl:l.length<=100000):FW SS 54 [.slice a n c,.slice b m d] h (Ig h (Le l l')):=by
 have hn:=r.len;have hm:=r'.len;refine Ge a n c b m d h _ (ae (fun q=> ?_) (fun q=> ?_))
 ·refine ⟨?_,Ok.refl w⟩;rw [fH];intro e;subst e;rw [hn,hm] at q;simp at q
 ·have hnm:n=m:=by
   have:(n:Int)=m:=by simpa using q
   omega
  refine qZ a n c b m d (fun mz i g=>i<=l.length/\mz=l.length - i/\Ok h g/\l.take i=l'.take i) _ (fun mz i=> ?_) l.length (i:=0) ⟨zero_le _,rfl,Ok.refl w,by simp⟩;intros; rename_i g hin;obtain ⟨f1,rfl,ok,hp⟩:=hin;refine ae (fun q=> ?_) (fun q=> ?_)
  ·have q:=dT q;have oR:=(Ok.refl ok.wf).room 9;have okR:=ok.trans oR;obtain ⟨p1,hp1⟩: ∃ p,l[i]?=some p:=⟨_,gE (by omega)⟩
   obtain ⟨p2,hp2⟩: ∃ p,l'[i]?=some p:=⟨_,gE (by omega)⟩
   obtain ⟨b1,o1,d1,d2,_⟩:=(r.ok okR).at_ hp1;obtain ⟨b2,o2,e1,e2,_⟩:=(r'.ok okR).at_ hp2;refine ⟨_,d1,_,d2,_,e1,_,e2,_,NJ _ _,ae (fun q2=> ?_) (fun q2=> ?_)⟩
   ·have hne:p1≠p2:=fun e=>by rw [iI e] at q2; cases q2
    refine ⟨?_,okR⟩;rw [fH];intro e;rw [e,hp2] at hp1;exact hne (oI hp1).symm
   ·have hne:p1=p2:=Classical.byContradiction fun e=>by rw [fH e] at q2; cases q2
    rw [az (n:=l.length) (by omega) (by omega)];refine bp (l.length - (i+1)) (by omega) ⟨by omega,rfl,okR,?_⟩;rw [take_add_one,take_add_one,hp1,hp2,hp,hne]
  ·have q:=dF q;rw [take_of_length_le (by omega),take_of_length_le (by omega)] at hp;exact ⟨by rw [iI hp],ok⟩
end
end
theorem Nx (f:List UInt8)(x:Option Addr)(y z:Nat):dc SS.P 37 (.agg ⟨[aa f,.slice x y z]⟩)=some (.cells [aa f,.slice x y z] 37 0 true,iy):=by cases x <;> kernel_rfl
theorem Jm {h:Heap}{s s':MSt}{x x':Option Addr}{y z y' z':Nat}(w:Wf h)(r:ArcRow h (.slice x y z) s.arcs)(r':ArcRow h (.slice x' y' z') s'.arcs)(hl:s.arcs.length<=100000):FW SS 53 [.agg ⟨[aa s.f,.slice x y z]⟩,.agg ⟨[aa s'.f,.slice x' y' z']⟩] h (Ig h (Le s s')):=by
 have o1:=(Ok.refl w).push (.cells [aa s.f,.slice x y z] 37 0 true);have k1:SB (h.push (.cells [aa s.f,.slice x y z] 37 0 true)) h.next s.f x y z:=aq h _;refine I7 [aa s.f,.slice x y z] [aa s'.f,.slice x' y' z'] h _ ⟨_,Nx ..,_,Nx ..,?_⟩;generalize h.push (.cells [aa s.f,.slice x y z] 37 0 true)=g1 at *;have o2:=(Ok.refl o1.wf).push (.cells [aa s'.f,.slice x' y' z'] 37 0 true);have k2:SB (g1.push (.cells [aa s'.f,.slice x' y' z'] 37 0 true)) g1.next s'.f x' y' z':=aq g1 _;have k12:=k1.ok o2;have ok:=o1.trans o2;generalize g1.push (.cells [aa s'.f,.slice x' y' z'] 37 0 true)=g2 at *;refine ⟨_,fY _ _,_,k12.l0,_,fY _ _,_,k2.l0,ae (fun q=> ?_) (fun q=> ?_)⟩
 ·have q:s.f=s'.f:=by simpa using q
  refine ⟨_,bm _ _,_,_,_,k12.l1,_,bm _ _,_,_,_,k2.l1,(FY ok.wf (r.ok ok) (r'.ok ok) hl).mono ?_⟩;rintro v h' ⟨rfl,o3⟩;refine ⟨_,rfl,?_,ok.trans o3⟩;congr 1;by_cases e:s.arcs=s'.arcs
  ·have:s=s':=by cases s; cases s'; simp_all
   rw [iI e,iI this]
  ·rw [fH e,fH fun e'=>e (by rw [e'])]
 ·have q:s.f≠s'.f:=by simpa using q
  exact ⟨by rw [fH fun e=>q (by rw [e])],ok⟩
noncomputable def lN:FD:=bF Tryz.f52 [([1,1,0,1,0,0],[0,1,2,15,16,17])]
abbrev iq (a:OA)(n c:Nat)(b:OA)(m d:Nat)(i:Nat):LV:=[(.slice a n c),(.slice b m d),(.func (.func 53) ⟨[]⟩ ⟨[]⟩),(.slice a n c),(iA n),(iA i)]
theorem Kc (a:OA)(n c:Nat)(b:OA)(m d:Nat)(h:Heap)(Q:VH)(hx:au ((((n:Int):Int) != (m:Int))) (Q (.bool false) h) (LL SS lN [1,1,0,1,0,0] (iq a n c b m d 0) h (KK SS lN [1,1,0,1,0] [] (EE SS lN Q)))):FW SS 52 [(.slice a n c),(.slice b m d),(.func (.func 53) ⟨[]⟩ ⟨[]⟩)] h Q:=bG lN Tryz.func52 (aj hx)
theorem r7 (a:OA)(n c:Nat)(b:OA)(m d:Nat)  (Inv:Nat->Nat->Heap->Prop) (Q:VH) (step: ∀ (mz:Nat)(i:Nat)(zz:Nat->Value)(h:Heap),Inv mz i h->au (decide (((i:Int):Int) < (n:Int))) (xP (ag SS.P 22 (.slice a n c) (iA i)) fun p1=>xA (ah SS.P 37 h (.pointer (some p1))) fun c2=>xN (aF SS.P 37) h fun B3 g4=>xU (ai SS.P 37 (pA (h.next)) (.agg ⟨c2⟩) g4) g4 fun u5 g6=>xP (ag SS.P 22 (.slice b m d) (iA i)) fun p7=>xA (ah SS.P 37 g6 (.pointer (some p7))) fun c8=>xN (aF SS.P 37) g6 fun B9 g10=>xU (ai SS.P 37 (pA (g6.next)) (.agg ⟨c8⟩) g10) g10 fun u11 g12=>xA (ah SS.P 37 g12 (pA (h.next))) fun c13=>xA (ah SS.P 37 g12 (pA (g6.next))) fun c14=>FW SS 53 [(.agg ⟨c13⟩),(.agg ⟨c14⟩)] g12 fun v15 h16=>yB v15 fun b17=>au (!b17) (Q (.bool false) h16) (ax (fA (iq a n c b m d) Inv) mz [(.slice a n c),(.slice b m d),(.func (.func 53) ⟨[]⟩ ⟨[]⟩),(.slice a n c),(iA n),(.int .i64 (wrap .i64 ((i:Int)+1)))] h16)) (Q (.bool true) h)) (mz:Nat) {i:Nat} {h:Heap} (hi:Inv mz i h):LL SS lN [1,1,0,1,0,0] (iq a n c b m d i) h (KK SS lN [1,1,0,1,0] [] (EE SS lN Q)):=
 bH (iq a n c b m d) Inv (fun mz i zz h hi=>aj (step mz i zz h hi)) mz hi
noncomputable def MT:FD:=bF Tryz.f30 []
theorem Ja (mv nv:LV)(h:Heap)(Q:VH)(hx:xN (dc SS.P 24 (.agg ⟨mv⟩)) h fun B1 g2=>xN (dc SS.P 24 (.agg ⟨nv⟩)) g2 fun B3 g4=>xP (af SS.P 24 (pA (h.next)) 0) fun p5=>xI .i64 (ah SS.P 3 g4 (.pointer (some p5))) fun n6=>xP (af SS.P 24 (pA (g2.next)) 0) fun p7=>xI .i64 (ah SS.P 3 g4 (.pointer (some p7))) fun n8=>au (((n6:Int) == n8)) (xP (af SS.P 24 (pA (h.next)) 1) fun p9=>xI .i64 (ah SS.P 3 g4 (.pointer (some p9))) fun n10=>xP (af SS.P 24 (pA (g2.next)) 1) fun p11=>xI .i64 (ah SS.P 3 g4 (.pointer (some p11))) fun n12=>au (((n10:Int) == n12)) (xP (af SS.P 24 (pA (h.next)) 2) fun p13=>xS (ah SS.P 9 g4 (.pointer (some p13))) fun l14=>xP (af SS.P 24 (pA (g2.next)) 2) fun p15=>xS (ah SS.P 9 g4 (.pointer (some p15))) fun l16=>au ((l14:LB) == l16) (xP (af SS.P 24 (pA (h.next)) 3) fun p17=>xL (ah SS.P 22 g4 (.pointer (some p17))) fun a18 n19 c20=>xP (af SS.P 24 (pA (g2.next)) 3) fun p21=>xL (ah SS.P 22 g4 (.pointer (some p21))) fun a22 n23 c24=>FW SS 52 [(.slice a18 n19 c20),(.slice a22 n23 c24),(.func (.func 53) ⟨[]⟩ ⟨[]⟩)] g4 fun v25 h26=>yB v25 fun b27=>Q (.bool b27) h26) (Q (.bool false) g4)) (Q (.bool false) g4)) (Q (.bool false) g4)):FW SS 30 [(.agg ⟨mv⟩),(.agg ⟨nv⟩)] h Q:=bG MT Tryz.func30 (aj hx)
section
section
variable {h:Heap} {l l':List MSt} {a:Option Addr} {n c:Nat} {b:Option Addr} {m d:Nat}
theorem Iz (w:Wf h)(r:StRow h (.slice a n c) l)(r':StRow h (.slice b m d) l')(hl:l.length<=100000)(hA: ∀ s∈l,s.arcs.length<=100000):FW SS 52 [.slice a n c,.slice b m d,.func (.func 53) ⟨[]⟩ ⟨[]⟩] h (Ig h (Le l l')):=by
 have hn:=r.len;have hm:=r'.len;refine Kc a n c b m d h _ (ae (fun q=> ?_) (fun q=> ?_))
 ·refine ⟨?_,Ok.refl w⟩;rw [fH];intro e;subst e;rw [hn,hm] at q;simp at q
 ·have hnm:n=m:=by
   have:(n:Int)=m:=by simpa using q
   omega
  refine r7 a n c b m d (fun mz i g=>i<=l.length/\mz=l.length - i/\Ok h g/\l.take i=l'.take i) _ (fun mz i=> ?_) l.length (i:=0) ⟨zero_le _,rfl,Ok.refl w,by simp⟩;intros; rename_i g hin;obtain ⟨f1,rfl,ok,hp⟩:=hin;refine ae (fun q=> ?_) (fun q=> ?_)
  ·have q:=dT q;obtain ⟨s1,hs1⟩: ∃ p,l[i]?=some p:=⟨_,gE (by omega)⟩
   obtain ⟨s2,hs2⟩: ∃ p,l'[i]?=some p:=⟨_,gE (by omega)⟩
   obtain ⟨b1,o1,x,y,z,d1,d2,_,_,ar⟩:=r.at2 ok hs1;obtain ⟨u,p1,p2,p3⟩:=oX ok.wf s1.f x y z;refine ⟨_,d1,_,d2,_,sD,u,p1,?_⟩;have okA:=ok.trans p2;generalize u.app (g.push vr)=gA at *;obtain ⟨b2,o2,x',y',z',e1,e2,_,_,ar'⟩:=r'.at2 okA hs2;obtain ⟨u2,t1,t2,t3⟩:=oX p2.wf s2.f x' y' z';refine ⟨_,e1,_,e2,_,sD,u2,t1,?_⟩;have okB:=okA.trans t2;have p3B:=p3.ok t2;generalize u2.app (gA.push vr)=gB at *;refine ⟨_,p3B.all,_,t3.all,(Jm okB.wf (ar.ok okB) (ar'.ok okB) (hA _ (List.mem_of_getElem? hs1))).mono ?_⟩;rintro v h' ⟨rfl,o5⟩;have okE:=okB.trans o5;refine ⟨_,rfl,ae (fun q2=> ?_) (fun q2=> ?_)⟩
   ·have hne:s1≠s2:=fun e=>by rw [iI e] at q2; cases q2
    refine ⟨?_,okE⟩;rw [fH];intro e;rw [e,hs2] at hs1;exact hne (oI hs1).symm
   ·have hne:s1=s2:=Classical.byContradiction fun e=>by rw [fH e] at q2; cases q2
    rw [az (n:=l.length) (by omega) (by omega)];refine bp (l.length - (i+1)) (by omega) ⟨by omega,rfl,okE,?_⟩;rw [take_add_one,take_add_one,hs1,hs2,hp,hne]
  ·have q:=dF q;rw [take_of_length_le (by omega),take_of_length_le (by omega)] at hp;exact ⟨by rw [iI hp],ok⟩
theorem KD {A B:Mach}(w:Wf h)(r:StRow h (.slice a n c) A.states)(r':StRow h (.slice b m d) B.states)(hl:A.states.length<=100000)(hA: ∀ s∈A.states,s.arcs.length<=100000):FW SS 30 [.agg ⟨aC A a n c⟩,.agg ⟨aC B b m d⟩] h (Ig h (Le A B)):=by
 obtain ⟨mb0,ok0⟩:=cD w r;refine Ja (aC A a n c) (aC B b m d) h _ ⟨_,ei A a n c,_,ei B b m d,?_⟩;generalize h.push (Bm A a n c)=g0 at *;obtain ⟨mc,ok1⟩:=cD ok0.wf (r'.ok ok0);have ma:=mb0.ok ok1;have ok:=ok0.trans ok1;generalize g0.push (Bm B b m d)=g1 at *;refine ⟨_,eu _,_,ma.l0,_,eu _,_,mc.l0,ae (fun q1=> ?_) (fun q1=> ?_)⟩
 ·have q1:A.kind=B.kind:=by simpa using q1
  refine ⟨_,dG _,_,ma.l1,_,dG _,_,mc.l1,ae (fun q2=> ?_) (fun q2=> ?_)⟩
  ·have q2:A.start=B.start:=by simpa using q2
   refine ⟨_,jq _,_,ma.l2,_,jq _,_,mc.l2,ae (fun q3=> ?_) (fun q3=> ?_)⟩
   ·have q3:A.lead=B.lead:=by simpa using q3
    refine ⟨_,aM _,_,_,_,ma.l3,_,aM _,_,_,_,mc.l3,(Iz ok.wf ma.row mc.row hl hA).mono ?_⟩;rintro v h' ⟨rfl,o3⟩;refine ⟨_,rfl,?_,ok.trans o3⟩;congr 1;by_cases e:A.states=B.states
    ·rw [iI e,iI (FT q1 q2 q3 e)]
    ·rw [fH e,fH fun e'=>e (by rw [e'])]
   ·have q3:A.lead≠B.lead:=by simpa using q3
    exact ⟨by rw [fH fun e=>q3 (by rw [e])],ok⟩
  ·have q2:A.start≠B.start:=by simpa using q2
   exact ⟨by rw [fH fun e=>q2 (by rw [e])],ok⟩
 ·have q1:A.kind≠B.kind:=by simpa using q1
  exact ⟨by rw [fH fun e=>q1 (by rw [e])],ok⟩
end
end
noncomputable def NM:FD:=bF Tryz.f31 []
theorem M2  (h:Heap) (Q:VH) (hx:xN (aF SS.P 24) h fun B1 g2=>xA (aI SS.P 37 []) fun c3=>xA (aI SS.P 39 [(0,(.int .i64 2)),(1,(.int .i64 2)),(2,(aa [49])),(3,(.int .i64 2))]) fun c4=>xA (aI SS.P 39 [(0,(.int .i64 1)),(1,(.int .i64 1)),(2,(aa [48])),(3,(.int .i64 2))]) fun c5=>xA (aI SS.P 39 [(0,(.int .i64 1)),(1,(.int .i64 1)),(2,(aa [48])),(3,(.int .i64 0))]) fun c6=>xR (ak SS.P 35 3 [(0,(.agg ⟨c4⟩)),(1,(.agg ⟨c5⟩)),(2,(.agg ⟨c6⟩))]) g2 fun B7 n8 c9 g10=>xA (aI SS.P 37 [(1,(sA (g2.next) n8 c9))]) fun c11=>xA (aI SS.P 37 [(0,(aa [51]))]) fun c12=>xR (ak SS.P 22 3 [(0,(.agg ⟨c3⟩)),(1,(.agg ⟨c11⟩)),(2,(.agg ⟨c12⟩))]) g10 fun B13 n14 c15 g16=>xA (aI SS.P 24 [(0,(.int .i64 1)),(1,(.int .i64 1)),(2,(aa [50])),(3,(sA (g10.next) n14 c15))]) fun c17=>xU (ai SS.P 24 (pA (h.next)) (.agg ⟨c17⟩) g16) g16 fun u18 g19=>cX SS [((pA (h.next)),some 24)] g19 Q):FW SS 31 [] h Q:=bG NM Tryz.func31 (aj hx)
noncomputable def OI:FD:=bF Tryz.f9 []
theorem Md  (h:Heap) (Q:VH) (hx:FW SS 31 [] h fun v1 h2=>yA v1 fun c3=>FW SS 23 [(.agg ⟨c3⟩)] h2 fun v4 h5=> ∃ cs6:LV,∃ n7:Int,v4=(.tuple ⟨[(.agg ⟨cs6⟩),(.int .i64 n7)]⟩)/\xN (aF SS.P 24) h5 fun B8 g9=>xU (ai SS.P 24 (pA (h5.next)) (.agg ⟨cs6⟩) g9) g9 fun u10 g11=>FW SS 27 [(.int .i64 3)] g11 fun v12 h13=> ∃ cs14:LV,∃ n15:Int,v12=(.tuple ⟨[(.agg ⟨cs14⟩),(.int .i64 n15)]⟩)/\xN (aF SS.P 24) h13 fun B16 g17=>xU (ai SS.P 24 (pA (h13.next)) (.agg ⟨cs14⟩) g17) g17 fun u18 g19=>xA (aI SS.P 39 [(0,(.int .i64 2)),(1,(.int .i64 2)),(2,(aa [49])),(3,(.int .i64 1))]) fun c20=>xA (aI SS.P 39 [(0,(.int .i64 1)),(1,(.int .i64 1)),(2,(aa [48])),(3,(.int .i64 1))]) fun c21=>xR (ak SS.P 35 2 [(0,(.agg ⟨c20⟩)),(1,(.agg ⟨c21⟩))]) g19 fun B22 n23 c24 g25=>xA (aI SS.P 37 [(1,(sA (g19.next) n23 c24))]) fun c26=>xA (aI SS.P 37 [(0,(aa [51]))]) fun c27=>xR (ak SS.P 22 2 [(0,(.agg ⟨c26⟩)),(1,(.agg ⟨c27⟩))]) g25 fun B28 n29 c30 g31=>xA (aI SS.P 24 [(0,(.int .i64 1)),(2,(aa [50])),(3,(sA (g25.next) n29 c30))]) fun c32=>xN (aF SS.P 24) g31 fun B33 g34=>xU (ai SS.P 24 (pA (g31.next)) (.agg ⟨c32⟩) g34) g34 fun u35 g36=>au (((n7:Int) == 0)) (au (((n15:Int) == 0)) (xA (ah SS.P 24 g36 (pA (h5.next))) fun c37=>xA (ah SS.P 24 g36 (pA (g31.next))) fun c38=>FW SS 29 [(.agg ⟨c37⟩),(.agg ⟨c38⟩)] g36 fun v39 h40=>yB v39 fun b41=>au b41 (xP (af SS.P 24 (pA (h13.next)) 2) fun p42=>xS (ah SS.P 9 h40 (.pointer (some p42))) fun l43=>au ((l43:LB) == [49]) (xP (af SS.P 24 (pA (h13.next)) 3) fun p44=>xL (ah SS.P 22 h40 (.pointer (some p44))) fun a45 n46 c47=>au ((((n46:Int):Int) == 1)) (xA (ah SS.P 24 h40 (pA (g31.next))) fun c48=>FW SS 10 [(.agg ⟨c48⟩)] h40 fun v49 h50=>yB v49 fun b51=>au b51 (xA (ah SS.P 24 h50 (pA (g31.next))) fun c52=>xA (ah SS.P 24 h50 (pA (g31.next))) fun c53=>FW SS 30 [(.agg ⟨c52⟩),(.agg ⟨c53⟩)] h50 fun v54 h55=>yB v54 fun b56=>au b56 (xA (ah SS.P 24 h55 (pA (g31.next))) fun c57=>FW SS 16 [(.agg ⟨c57⟩)] h55 fun v58 h59=>yB v58 fun b60=>au b60 (xA (ah SS.P 24 h59 (pA (g31.next))) fun c61=>FW SS 20 [(.agg ⟨c61⟩)] h59 fun v62 h63=>yI .i64 v62 fun n64=>Q (.bool (((n64:Int) == 2))) h63) (Q (.bool false) h59)) (Q (.bool false) h55)) (Q (.bool false) h50)) (Q (.bool false) h40)) (Q (.bool false) h40)) (Q (.bool false) h40)) (Q (.bool false) g36)) (Q (.bool false) g36)):FW SS 9 [] h Q:=bG OI Tryz.func9 (aj hx)
def EX:Mach:=⟨1,1,[50],[⟨[],[]⟩,⟨[],[⟨2,2,[49],2⟩,⟨1,1,[48],2⟩,⟨1,1,[48],0⟩]⟩,⟨[51],[]⟩]⟩
def WN:Mach:=⟨1,0,[50],[⟨[],[⟨2,2,[49],1⟩,⟨1,1,[48],1⟩]⟩,⟨[51],[]⟩]⟩
theorem RN:bq EX=true:=by decide +kernel
theorem RK:bq WN=true:=by decide +kernel
theorem RA:Hv WN=true:=by decide +kernel
theorem RU:vi WN=2:=by decide +kernel
theorem QM:Small EX:=⟨by decide +kernel,by decide +kernel,by decide +kernel,by decide +kernel,by decide +kernel,by decide +kernel⟩
theorem wnSm:Small WN:=⟨by decide +kernel,by decide +kernel,by decide +kernel,by decide +kernel,by decide +kernel,by decide +kernel⟩
theorem Nv (x:Nat):fO EX x↔x=1\/x=2:=by
 have r1:Num.Rch (dw EX) (fun y=>y=EX.start.toNat) 1:= .base rfl;have e12:dw EX 1 2:=⟨_,rfl,by decide⟩
 have f2:mN EX 2:=⟨_,rfl,by decide⟩
 constructor
 ·rintro ⟨h1,h2⟩;have key: ∀ y,Num.Rch (fun y x=>dw EX x y) (mN EX) y->y=1\/y=2:=fun y hy=>by
   induction hy with
   | @base y hf=>
    obtain ⟨s,hs,hne⟩:=hf
    match y,hs with
    | 0,hs=>obtain rfl:=oI hs; exact absurd rfl hne
    | 1,hs=>exact .inl rfl
    | 2,hs=>exact .inr rfl
    | y+3,hs=>cases hs
   | @step y x _ e _=>
    obtain ⟨s,hs,hm⟩:=e
    match x,hs with
    | 0,hs=>obtain rfl:=oI hs; cases hm
    | 1,hs=>exact .inl rfl
    | 2,hs=>exact .inr rfl
    | x+3,hs=>cases hs
  exact key x h2
 ·rintro (rfl | rfl)
  ·exact ⟨r1,.step (.base f2) e12⟩
  ·exact ⟨.step r1 e12,.base f2⟩
theorem Rx:tS EX=[1,2]:=by
 rw [<-zS (M:=EX) (L:=[false,true,true]) (N:=3) rfl fun x hx=> ?_]
 ·rfl
 ·rw [Nv]
  match x,hx with
  | 0,_=>simp
  | 1,_=>simp
  | 2,_=>simp
theorem Al:bu EX=(WN,0):=by
 rw [qL RN ((Nv _).2 (.inl rfl)),Rx]; rfl
theorem FC {hb g:Heap}{ps:List (MSt×Value)}{ka ks:Nat}{j:Nat}{arcs:List MArc}{f:List UInt8}(hk:g.get ks=some (.cells (ps.map gG).flatten 37 2 true))(h0:hb.next<=ks)(hl:ps.length < 100)(hj:ps[j]?=some (⟨f,arcs⟩,sA ka arcs.length arcs.length))(ho: ∀ (i:Nat) (p:MSt×Value),ps[i]?=some p->i≠j->p.2=nA/\p.1.arcs=[])(ka0:g.get ka=some (.cells (arcs.map aD).flatten 39 4 true))(h1:hb.next<=ka)(ne:ka≠ks)(hla:arcs.length < 100):OwnM hb g (sA ks ps.length ps.length) ps:=by
 have om:=OwnK.made (h0:=hb) hk EY h0 (by rw [lM]; exact Nat.lt_trans hl (by decide));rw [lM] at om;have oa:=OwnK.made (h0:=hb) ka0 BD h1 (by rw [lM]; exact Nat.lt_trans hla (by decide));rw [lM] at oa;have bl: ∀ (i:Nat)(p:MSt×Value),ps[i]?=some p-> ∀ k,aG p.2=some k->i=j/\k=ka:=fun i p hp k e=>by
  by_cases h:i=j
  ·subst h;rw [hj] at hp;obtain rfl:=oI hp;exact ⟨rfl,(oI e).symm⟩
  ·rw [(ho i p hp h).1] at e; cases e
 refine ⟨om,fun i p hp=> ?_,fun i p hp k e=> ?_,fun i i' p q hne hp hq k e e'=>hne ((bl i p hp k e).1.trans (bl i' q hq k e').1.symm)⟩
 ·by_cases h:i=j
  ·subst h;rw [hj] at hp;obtain rfl:=oI hp;exact oa
  ·obtain ⟨h2,h3⟩:=ho i p hp h;rw [h2,h3];exact OwnK.nil ..
 ·obtain ⟨_,rfl⟩:=bl i p hp k e;intro e2;exact ne (oI e2).symm
theorem ic {h g:Heap}{M:Mach}{a:Option Addr}{n c:Nat}{ps:List (MSt×Value)}(hps:ps.map (·.1)=M.states)(om:OwnM h g (.slice a n c) ps)(ok:Ok h g):
  ∃ u:Upd,ai SS.P 24 (pA g.next) (.agg ⟨aC M a n c⟩) (g.push eG)=some (undef,u)/\Ok g (u.app (g.push eG))/\MB (u.app (g.push eG)) g.next M a n c/\OwnM h (u.app (g.push eG)) (.slice a n c) ps:=by
 have o1:=(Ok.refl ok.wf).push eG;have k1:=aq g eG;have pa:=bO (t:=24) ej (cs0:=[.int .i64 0,.int .i64 0,aa [],.slice none 0 0]) rfl k1 (cs:=aC M a n c) rfl (dK ..);obtain ⟨o2,k2⟩:=cG (cs:=aC M a n c) ok.wf o1 k1 (le_refl _);refine ⟨_,pa,o2,⟨k2,?_⟩,om.ok o2⟩;have:=(om.ok o2).st;rwa [hps] at this
theorem NW:aI SS.P 37 []=some (.agg ⟨[aa [],nA]⟩):=by kernel_rfl
theorem Cm (q:MArc):aI SS.P 39 [(0,(.int .i64 q.i)),(1,(.int .i64 q.o)),(2,(aa q.w)),(3,(.int .i64 q.t))]=some (.agg ⟨aD q⟩):=by kernel_rfl
theorem KT (k n c:Nat):aI SS.P 37 [(1,(sA k n c))]=some (.agg ⟨[aa [],sA k n c]⟩):=by kernel_rfl
def eA:List MArc:=[⟨2,2,[49],2⟩,⟨1,1,[48],2⟩,⟨1,1,[48],0⟩]
def eP (k:Nat):List (MSt×Value):=[(⟨[],[]⟩,nA),(⟨[],eA⟩,sA k 3 3),(⟨[51],[]⟩,nA)]
theorem RC:ak SS.P 35 3 [(0,(.agg ⟨aD ⟨2,2,[49],2⟩⟩)),(1,(.agg ⟨aD ⟨1,1,[48],2⟩⟩)),(2,(.agg ⟨aD ⟨1,1,[48],0⟩⟩))]=some (.cells (eA.map aD).flatten 39 4 true,gU 3 3):=by kernel_rfl
theorem RH (k:Nat):ak SS.P 22 3 [(0,(.agg ⟨[aa [],nA]⟩)),(1,(.agg ⟨[aa [],sA k 3 3]⟩)),(2,(.agg ⟨[aa [51],nA]⟩))]=some (.cells ((eP k).map gG).flatten 37 2 true,gU 3 3):=by kernel_rfl
theorem KJ:aI SS.P 37 [(0,(aa [51]))]=some (.agg ⟨[aa [51],nA]⟩):=by kernel_rfl
theorem Lz {h:Heap}(w:Wf h):FW SS 31 [] h (JF h EX):=by
 refine M2 h _ ⟨_,iU,_,NW,_,Cm ⟨2,2,[49],2⟩,_,Cm ⟨1,1,[48],2⟩,_,Cm ⟨1,1,[48],0⟩,_,_,_,RC,?_⟩;have o1:=(Ok.refl w).push eG;have k1:=aq h eG;have hn1:(h.push eG).next=h.next+1:=rfl;generalize h.push eG=g1 at *;have o2:=(Ok.refl o1.wf).push (.cells (eA.map aD).flatten 39 4 true);have k2:=aq g1 (.cells (eA.map aD).flatten 39 4 true);have hn2:(g1.push (.cells (eA.map aD).flatten 39 4 true)).next=g1.next+1:=rfl;refine ⟨_,KT g1.next 3 3,_,KJ,_,_,_,RH g1.next,?_⟩;generalize g1.push (.cells (eA.map aD).flatten 39 4 true)=g2 at *;have o3:=(Ok.refl o2.wf).push (.cells ((eP g1.next).map gG).flatten 37 2 true);have k3:=aq g2 (.cells ((eP g1.next).map gG).flatten 37 2 true);have k13:=o3.ext _ _ (o2.ext _ _ k1);have k23:=o3.ext _ _ k2;have ok:=(o1.trans o2).trans o3;generalize g2.push (.cells ((eP g1.next).map gG).flatten 37 2 true)=g3 at *;have om:OwnM h g3 (sA g2.next 3 3) (eP g1.next):=FC (ps:=eP g1.next) (j:=1) k3 (by omega) (show 3 < 100 by decide) rfl (fun i p hp hne=>by
  match i,hp with
  | 0,hp=>obtain rfl:=oI hp; exact ⟨rfl,rfl⟩
  | 1,_=>exact absurd rfl hne
  | 2,hp=>obtain rfl:=oI hp; exact ⟨rfl,rfl⟩
  | i+3,hp=>cases hp) k23 (by omega) (by omega) (show 3 < 100 by decide)
 have pa:=bO (t:=24) ej (cs0:=[.int .i64 0,.int .i64 0,aa [],.slice none 0 0]) rfl k13 (cs:=aC EX (some ⟨g2.next,0,none⟩) 3 3) rfl (dK ..);obtain ⟨o4,k4⟩:=cG (cs:=aC EX (some ⟨g2.next,0,none⟩) 3 3) w ok k13 (le_refl _);refine ⟨_,NA 1 1 [50] _ _ _,_,pa,nC (v:= .agg ⟨aC EX (some ⟨g2.next,0,none⟩) 3 3⟩) (fJ wC vV ej k4 (by simp [aC])) ⟨_,_,_,eP g1.next,rfl,rfl,?_,o4⟩⟩;have ge:=om.row;exact ⟨om.row.keep fun j B hj hB=>(by
  obtain rfl:=oI hj;show (g3.set h.next _).get _=_;rw [Heap.get_set,if_neg (show ¬ g2.next=h.next by omega)]; exact hB),fun i p hp=>(om.arcs i p hp).keep fun j B hj hB=>(by
  show (g3.set h.next _).get _=_;rw [Heap.get_set,if_neg (fun e=> ?_)]
  ·exact hB
  ·match i,hp with
   | 0,hp=>obtain rfl:=oI hp; cases hj
   | 1,hp=>
    obtain rfl:=oI hp;have e2:g1.next=j:=oI hj;omega
   | 2,hp=>obtain rfl:=oI hp; cases hj
   | i+3,hp=>cases hp),om.ne,om.dis⟩
def wA:List MArc:=[⟨2,2,[49],1⟩,⟨1,1,[48],1⟩]
def wP (k:Nat):List (MSt×Value):=[(⟨[],wA⟩,sA k 2 2),(⟨[51],[]⟩,nA)]
theorem Q0:ak SS.P 35 2 [(0,(.agg ⟨aD ⟨2,2,[49],1⟩⟩)),(1,(.agg ⟨aD ⟨1,1,[48],1⟩⟩))]=some (.cells (wA.map aD).flatten 39 4 true,gU 2 2):=by kernel_rfl
theorem Qo (k:Nat):ak SS.P 22 2 [(0,(.agg ⟨[aa [],sA k 2 2]⟩)),(1,(.agg ⟨[aa [51],nA]⟩))]=some (.cells ((wP k).map gG).flatten 37 2 true,gU 2 2):=by kernel_rfl
theorem Cw {h:Heap}(tb:Tab h)(w:Wf h):FW SS 9 [] h (fun v h'=>v = .bool true/\Ok h h'):=by
 refine Md h _ ((Lz w).mono ?_);rintro _ g1 ⟨a,n,c,ps,rfl,hps,om,o1⟩;have st1:=om.st;rw [hps] at st1;refine ⟨_,rfl,(vh (tb.ok o1) o1.wf QM st1).mono ?_⟩;rw [Al];rintro _ g2 ⟨a2,n2,c2,ps2,rfl,e2,om2,o2⟩;obtain ⟨u1,s1,p1,b1,om1⟩:=ic e2 om2 o2;refine ⟨_,_,rfl,_,iU,u1,s1,?_⟩;have ok3:=(o1.trans o2).trans p1;generalize hg3:u1.app (g2.push eG)=g3 at *;generalize hk3:g2.next=k3 at *;refine (mT 3 ok3.wf).mono ?_;rintro _ g4 ⟨a4,n4,c4,ps4,rfl,e4,om4,o4⟩;obtain ⟨u2,s2,p2,b2,om42⟩:=ic e4 om4 o4;refine ⟨_,_,rfl,_,iU,u2,s2,_,Cm ⟨2,2,[49],1⟩,_,Cm ⟨1,1,[48],1⟩,_,_,_,Q0,_,KT _ 2 2,_,KJ,_,_,_,Qo _,_,J1 1 [50] _ _ _,_,iU,?_⟩;have ok5:=(ok3.trans o4).trans p2;have x5:=o4.trans p2;have b15:=b1.ok x5;have om15:=om1.ok x5;generalize u2.app (g4.push eG)=g5 at *;have o6:=(Ok.refl ok5.wf).push (.cells (wA.map aD).flatten 39 4 true);have k6:=aq g5 (.cells (wA.map aD).flatten 39 4 true);have hn6:(g5.push (.cells (wA.map aD).flatten 39 4 true)).next=g5.next+1:=rfl;generalize g5.push (.cells (wA.map aD).flatten 39 4 true)=g6 at *;have o7:=(Ok.refl o6.wf).push (.cells ((wP g5.next).map gG).flatten 37 2 true);have k7:=aq g6 (.cells ((wP g5.next).map gG).flatten 37 2 true);have k67:=o7.ext _ _ k6;have ok7:=o6.trans o7;generalize g6.push (.cells ((wP g5.next).map gG).flatten 37 2 true)=g7 at *;have om3:OwnM g5 g7 (sA g6.next 2 2) (wP g5.next):=FC (ps:=wP g5.next) (j:=0) k7 (by omega) (show 2 < 100 by decide) rfl (fun i p hp hne=>by
  match i,hp with
  | 0,_=>exact absurd rfl hne
  | 1,hp=>obtain rfl:=oI hp; exact ⟨rfl,rfl⟩
  | i+2,hp=>cases hp) k67 (le_refl _) (by omega) (show 2 < 100 by decide)
 obtain ⟨u3,s3,p3,b3,om33⟩:=ic (M:=WN) (ps:=wP g5.next) rfl om3 ok7;refine ⟨u3,s3,?_⟩;have x8:=ok7.trans p3;have ok8:=ok5.trans x8;have b18:=b15.ok x8;have b28:=b2.ok x8;generalize u3.app (g7.push eG)=g8 at *;refine ae (fun _=> ?_) (fun q=>by cases q);refine ae (fun _=> ?_) (fun q=>by cases q);have wz: ∀ s∈WN.states,s.arcs.length<=100000:=fun s hs=>le_trans (wnSm.arcs s hs) (by decide);refine ⟨_,b18.all,_,b3.all,(m6 (A:=WN) (B:=WN) ok8.wf (by decide) wz b18.row om33 rfl).mono ?_⟩;rintro _ g9 ⟨rfl,o9⟩;rw [iI rfl];refine ⟨_,rfl,ae (fun _=> ?_) (fun q=>by cases q)⟩;have ok9:=ok8.trans o9;have b29:=b28.ok o9;have b39:=b3.ok o9;refine ⟨_,jq _,_,b29.l2,ae (fun _=> ?_) (fun q=>by cases q)⟩;have hn4:n4=1:=b29.len;refine ⟨_,aM _,_,_,_,b29.l3,ae (fun _=> ?_) (fun q=>by rw [hn4] at q; cases q)⟩;refine ⟨_,b39.all,(nN (tb.ok ok9) ok9.wf wnSm b39.row).mono ?_⟩;rw [RK];rintro _ g10 ⟨rfl,o10⟩;have ok10:=ok9.trans o10;have b310:=b39.ok o10;refine ⟨_,rfl,ae (fun _=> ?_) (fun q=>by cases q)⟩;refine ⟨_,b310.all,_,b310.all,(KD (A:=WN) (B:=WN) ok10.wf b310.row b310.row (by decide) wz).mono ?_⟩;rw [iI rfl];rintro _ g11 ⟨rfl,o11⟩;have ok11:=ok10.trans o11;have b311:=b310.ok o11;refine ⟨_,rfl,ae (fun _=> ?_) (fun q=>by cases q)⟩;refine ⟨_,b311.all,(Nd (tb.ok ok11) ok11.wf wnSm b311.row).mono ?_⟩;rw [RA];rintro _ g12 ⟨rfl,o12⟩;have ok12:=ok11.trans o12;have b312:=b311.ok o12;refine ⟨_,rfl,ae (fun _=> ?_) (fun q=>by cases q)⟩;refine ⟨_,b312.all,(Iq (tb.ok ok12) ok12.wf wnSm b312.row).mono ?_⟩;rw [RU];rintro _ g13 ⟨rfl,o13⟩;exact ⟨_,rfl,rfl,ok12.trans o13⟩
end Go.Proofs.YtoabjjimjldcfaaGreatDoor
end
section
namespace Go.Ab
open Go Go.RowKit
section
variable {β:Inj} {P:Program} {h:Heap} {w:World}
theorem zq {α:Type}{sz:Nat}: ∀ {rs:List (List α)},(∀ r∈rs,r.length=sz)-> ∀ {i:Nat}{r:List α},rs[i]?=some r-> ∀ {j:Nat},j < sz->rs.flatten[i*sz+j]?=r[j]?
 | [],_,i,r,hi,_,_=>by simp at hi
 | x::rs,hl,0,r,hi,j,hj=>by
  have hx:=hl x (mem_cons_self ..);simp only [List.getElem?_cons_zero,Option.some.injEq] at hi;subst hi;rw [flatten_cons,Nat.zero_mul,zero_add,List.getElem?_append_left (by omega)]
 | x::rs,hl,i+1,r,hi,j,hj=>by
  have hx:=hl x (mem_cons_self ..);rw [List.getElem?_cons_succ] at hi;have ih:=zq (fun r hr=>hl r (mem_cons_of_mem _ hr)) hi hj;rw [flatten_cons,List.getElem?_append_right (by rw [add_mul]; omega),hx,<-ih];congr 1;rw [add_mul]; omega
theorem vz {α:Type}{sz:Nat}: ∀ {rs:List (List α)},(∀ r∈rs,r.length=sz)->rs.flatten.length=rs.length*sz
 | [],_=>by simp
 | x::rs,hl=>by
  have hx:=hl x (mem_cons_self ..);rw [flatten_cons,length_append,vz fun r hr=>hl r (mem_cons_of_mem _ hr),hx,List.length_cons,add_mul]; omega
theorem JV {α:Type}{sz:Nat}{rs:List (List α)}(hl: ∀ r∈rs,r.length=sz){i:Nat}{r:List α}(hi:rs[i]?=some r):(rs.flatten.drop (i*sz)).take sz=r:=by
 have hr:=hl r (List.mem_of_getElem? hi);refine List.ext_getElem? fun j=> ?_;rw [List.getElem?_take];split
 ·next hj=>rw [List.getElem?_drop]; exact zq hl hi hj
 ·next hj=>rw [List.getElem?_eq_none (by omega)]
structure Ini (β:Inj)(h:Heap)(w:World):Prop where
 sim:Sim β h w
 ro: ∀ k B,h.get k=some B->B.wr=false
theorem Qd (n:Nat)(w:World):Ini β0 ⟨n,.nil⟩ w:=⟨Aj n w,fun k B h=>by rw [Heap.get_nil] at h; cases h⟩
theorem Ini.wf (i:Ini β h w):Wf h:=i.sim.wf
theorem Ini.below (i:Ini β h w){β':Inj}{h':Heap}{w':World}(s:Step β h w β' h' w'):Below w.heap.size w w':=
 ⟨s.os,s.tape.1,s.output,s.size,fun k hk=>s.kept k hk fun ⟨k,B,sl,h1,h2,_⟩=>by rw [i.ro k B h1] at h2; cases h2⟩
abbrev Ar (b n:Nat)(t:TypeId):Slot:=⟨b,0,n,t,0,false⟩
theorem Ini.fresh (i:Ini β h w):β h.next=none:=i.sim.none_of_ge (le_refl _)
theorem Ini.le (i:Ini β h w)(sl:Slot):β.le (β.ext h.next sl):=Inj.le_ext sl i.fresh
theorem Ini.push (i:Ini β h w){cs:List Value}{t:TypeId}{cs':Array Value}{fr:Nat×Nat}{b:Nat}(hb:w.heap[b]?=some (.cells cs' t fr))(hc:CellsAt β cs 0 cs'):
  Ini (β.ext h.next (Ar b cs'.size t)) (h.push (.cells cs t 0 false)) w:=by
 have hle:=i.le (Ar b cs'.size t);have hlt:b < w.heap.size:=(Array.getElem?_eq_some_iff.1 hb).1;have hro: ∀ k B,(h.push (.cells cs t 0 false)).get k=some B->B.wr=false:=fun k B hk=>by
  rw [Heap.get_push] at hk;split at hk
  ·obtain rfl:=oI hk; rfl
  ·exact i.ro k B hk
 refine ⟨⟨fun k sl hk=> ?_,fun k B sl h1 h2=> ?_,fun k k' B B' sl sl' _ h1 _ _ _ hw=> ?_,Heap.wf_push i.sim.wf _⟩,hro⟩
 ·by_cases e:k=h.next
  ·subst e;rw [Inj.ext_same] at hk;obtain rfl:=oI hk;exact ⟨by simp,hlt⟩
  ·rw [Inj.ext_ne _ _ e] at hk;have:=i.sim.lt k sl hk;exact ⟨by simp; omega,this.2⟩
 ·rw [Heap.get_push] at h1;split at h1
  ·next e=>
   subst e;rw [Inj.ext_same] at h2;obtain rfl:=oI h2;obtain rfl:=oI h1;exact ⟨rfl,rfl,⟨rfl,fun _=>rfl⟩,cs',fr,hb,rfl,hc.mono hle,fun hw=>by cases hw⟩
  ·next e=>
   rw [Inj.ext_ne _ _ e] at h2;exact (i.sim.blk k B sl h1 h2).mono hle
 ·rw [hro k B h1] at hw; cases hw
theorem AU (ht:TextOk P){pr:FuncId->Option oz}{gl:Nat->Bool}(hl:lH P gl pr){f:FuncId}{fn:Func}{args:List Value}{Q:Value->Heap->Prop}(hfw:FW ⟨P,gl,pr⟩ f args h Q)(hY:f < YB)(hf:P.funcs[f]?=some fn)(hb:fn.body.isSome=true)
  {args':Array Value} (i:Ini β h w) (hg:Gl gl β) (ha:LRel β args args'.toList):
  Calls P f args' w fun e w'=> ∃ v v' h' β',e = .returned v'/\Q v h'/\VRel β' v v'/\Step β h w β' h' w'/\Below w.heap.size w w':=by
 obtain ⟨v,h',⟨n,hr⟩,hq⟩:=hfw;obtain ⟨fn',hfn,hc⟩:=(ht.runP hl n).fn f args h v h' hY (hr n (le_refl _)) β w args' i.sim hg ha;rw [hf] at hfn;obtain rfl:=oI hfn;rcases hc with ⟨_,hc⟩ | ⟨v',w',β',h1,_,_⟩
 ·refine hc.mono ?_;rintro e w' ⟨v',β',rfl,h2,h3⟩;exact ⟨v,v',h',β',rfl,hq,h3,h2,i.below h2⟩
 ·rw [cT ht.names hf hb] at h1
  cases h1
theorem zO (ht:TextOk P){f:FuncId}{fn:Func}{args:List Value}{Q:Value->Heap->Prop}(hfw:FW ⟨P,zv,fun _=>none⟩ f args ⟨0,.nil⟩ Q)(hY:f < YB)(hf:P.funcs[f]?=some fn)(hb:fn.body.isSome=true){args':Array Value}(ha:LRel β0 args args'.toList)(w:World):
  Calls P f args' w fun e w'=> ∃ v v' h' β',e = .returned v'/\Q v h'/\VRel β' v v'/\Below w.heap.size w w'/\w.drawn<=w'.drawn:=by
 obtain ⟨v,h',⟨n,hr⟩,hq⟩:=hfw;obtain ⟨fn',hfn,hc⟩:=(ht.runP (gl:=zv) (pr:=fun _=>none) (fun _ _ h=>by cases h) n).fn f args _ v h' hY (hr n (le_refl _)) β0 w args' (Aj 0 w) gl_nil ha;rw [hf] at hfn;obtain rfl:=oI hfn;rcases hc with ⟨_,hc⟩ | ⟨v',w',β',h1,_,_⟩
 ·refine hc.mono ?_;rintro e w' ⟨v',β',rfl,h2,h3⟩;exact ⟨v,v',h',β',rfl,hq,h3,py h2,h2.tape.2⟩
 ·rw [cT ht.names hf hb] at h1
  cases h1
def xW (w:World)(v:Value)(sz:Nat)(rs:List (List Value)):Prop:=
 (∀ r∈rs,r.length=sz)/\((v = .slice none 0 0/\rs=[])\/(∃ a,v = .slice (some a) 0 0/\rs=[])\/
  ∃ b off cap cs t fr,v = .slice (some ⟨b,off,none⟩) rs.length cap/\rs.length<=cap/\cap < bi/\w.heap[b]?=some (.cells cs t fr)/\off<=cs.size/\
   ∀ (i:Nat)(r:List Value),rs[i]?=some r-> ∀ j,j < sz->cs[off+(i*sz+j)]?=r[j]?)
theorem Ini.row_at (i:Ini β h w){sz:Nat}{e:TypeId}{rs rs':List (List Value)}{b off cap:Nat}{cs:Array Value}{t:TypeId}{fr:Nat×Nat}(hsz: ∀ r∈rs',r.length=sz)(hlen:rs.length=rs'.length)
  (hrel: ∀ (k:Nat) r r',rs[k]?=some r->rs'[k]?=some r'->LRel β r r') (h2:rs'.length<=cap) (h3:cap < bi) (hb:w.heap[b]?=some (.cells cs t fr)) (ho:off<=cs.size)
  (hc: ∀ (i:Nat)(r:List Value),rs'[i]?=some r-> ∀ j,j < sz->cs[off+(i*sz+j)]?=r[j]?):
  ∃ β' h',Ini β' h' w/\β.le β'/\Ok h h'/\VRel β' (.slice (some ⟨h.next,off,none⟩) rs.length cap) (.slice (some ⟨b,off,none⟩) rs'.length cap)/\RdN h' e sz (.slice (some ⟨h.next,off,none⟩) rs.length cap) rs:=by
 have hsz': ∀ r∈rs,r.length=sz:=fun r hr=>by
  obtain ⟨k,hk,rfl⟩:=List.getElem_of_mem hr;have h1:rs'[k]?=some rs'[k]:=gE (by omega);rw [(hrel k _ _ (gE hk) h1).1];exact hsz _ (List.mem_of_getElem? h1)
 have hcells:CellsAt β (List.replicate off junk++rs.flatten) 0 cs:=fun k v hv=>by
  rw [zero_add];rw [List.getElem?_append] at hv;split at hv
  ·next hk=>
   rw [List.length_replicate] at hk;rw [List.getElem?_replicate,if_pos hk] at hv;obtain rfl:=oI hv;exact ⟨_,Array.getElem?_eq_getElem (by omega),.junk _⟩
  ·next hk=>
   rw [List.length_replicate] at hk hv;have hlt:=(List.getElem?_eq_some_iff.1 hv).1;rw [vz hsz'] at hlt;rcases eq_zero_or_pos sz with hz | hz
   ·subst hz; simp at hlt
   have e1:k - off=(k - off) / sz*sz+(k - off) % sz:=by rw [Nat.mul_comm]; exact (Nat.div_add_mod _ _).symm
   have hj:=Nat.mod_lt (k - off) hz;have hi:(k - off) / sz < rs.length:=Nat.div_lt_of_lt_mul (by rw [Nat.mul_comm]; exact hlt);have g1:rs[(k - off) / sz]?=some rs[(k - off) / sz]:=gE hi;have g2:rs'[(k - off) / sz]?=some rs'[(k - off) / sz]:=gE (by omega);rw [e1,zq hsz' g1 hj] at hv;have hr:=hrel _ _ _ g1 g2;have hl':=hsz _ (List.mem_of_getElem? g2);have g3:rs'[(k - off) / sz][(k - off) % sz]?=some rs'[(k - off) / sz][(k - off) % sz]:=gE (by omega);refine ⟨_,?_,hr.2 _ _ _ hv g3⟩;rw [<-g3,<-hc _ _ g2 _ hj,<-e1];congr 1;omega
 refine ⟨_,_,i.push hb hcells,i.le _,(Ok.refl i.wf).push _,?_,hsz',.inr ⟨h.next,off,_,t,0,cap,false,rfl,Heap.get_push_same _ _,?_,fun k r hk=> ?_⟩⟩
 ·have:=VRel.slice (β:=β.ext h.next (Ar b cs.size t)) (i:=off) (n:=rs.length) (c:=cap) (i':=off) (c':=cap) (Inj.ext_same _ _ _) rfl (fun _=>rfl) (fun h=>by omega) (by unfold aK; split <;> omega) (.inl (by simp)) (.inl rfl);rw [<-hlen];exact this
 ·rw [length_append,List.length_replicate,vz hsz']; omega
 ·rw [List.drop_append,List.length_replicate,drop_eq_nil_of_le (by simp),List.nil_append,Nat.add_sub_cancel_left];exact JV hsz' hk
theorem Ini.row (i:Ini β h w){sz:Nat}{e:TypeId}{v':Value}{rs rs':List (List Value)}(r:xW w v' sz rs')(hlen:rs.length=rs'.length)(hrel: ∀ (k:Nat) r r',rs[k]?=some r->rs'[k]?=some r'->LRel β r r'):
  ∃ β' h' v,Ini β' h' w/\β.le β'/\Ok h h'/\VRel β' v v'/\RdN h' e sz v rs:=by
 obtain ⟨hsz,⟨rfl,rfl⟩ | ⟨a,rfl,rfl⟩ | ⟨b,off,cap,cs,t,fr,rfl,h2,h3,hb,ho,hc⟩⟩:=r
 ·obtain rfl:rs=[]:=eq_nil_of_length_eq_zero hlen;exact ⟨β,h,_,i,β.le_refl,Ok.refl i.wf,.nilSlice,⟨fun _ hm=>absurd hm (by simp),.inl ⟨.inl rfl,rfl⟩⟩⟩
 ·obtain rfl:rs=[]:=eq_nil_of_length_eq_zero hlen;exact ⟨β,h,mJ,i,β.le_refl,Ok.refl i.wf,.dead a,⟨fun _ hm=>absurd hm (by simp),.inl ⟨.inr rfl,rfl⟩⟩⟩
 ·obtain ⟨β',h',h4,h5,h6,h7,h8⟩:=i.row_at (e:=e) hsz hlen hrel h2 h3 hb ho hc;exact ⟨β',h',_,h4,h5,h6,h7,h8⟩
theorem Ini.row_live (i:Ini β h w){sz:Nat}{e:TypeId}{v':Value}{rs rs':List (List Value)}(r:xW w v' sz rs')(hlen:rs.length=rs'.length)(hrel: ∀ (k:Nat) r r',rs[k]?=some r->rs'[k]?=some r'->LRel β r r')
  (hd: ∀ a,v' = .slice (some a) 0 0->a.spot=none/\ ∃ cs t fr,w.heap[a.block]?=some (.cells cs t fr)):
  ∃ β' h' v,Ini β' h' w/\β.le β'/\Ok h h'/\VRel β' v v'/\RdN h' e sz v rs/\v≠mJ:=by
 obtain ⟨hsz,⟨rfl,rfl⟩ | ⟨a,rfl,rfl⟩ | ⟨b,off,cap,cs,t,fr,rfl,h2,h3,hb,ho,hc⟩⟩:=r
 ·obtain rfl:rs=[]:=eq_nil_of_length_eq_zero hlen;exact ⟨β,h,_,i,β.le_refl,Ok.refl i.wf,.nilSlice,⟨fun _ hm=>absurd hm (by simp),.inl ⟨.inl rfl,rfl⟩⟩,fun e=>by cases e⟩
 ·obtain rfl:rs=[]:=eq_nil_of_length_eq_zero hlen;obtain ⟨hs,cs,t,fr,hb⟩:=hd a rfl;obtain ⟨b,off,spot⟩:=a
  cases (show spot=none from hs)
  have i':=i.push (cs:=[]) hb (fun k v hv=>by simp at hv);refine ⟨_,_,.slice (some ⟨h.next,0,none⟩) 0 0,i',i.le _,(Ok.refl i.wf).push _,?_,⟨fun _ hm=>absurd hm (by simp),.inr ⟨h.next,0,_,t,0,0,false,rfl,Heap.get_push_same _ _,by simp,fun k r hk=>by simp at hk⟩⟩,fun e=>by simp [mJ] at e⟩;exact VRel.slice (sl:=Ar b cs.size t) (Inj.ext_same _ _ _) rfl (fun _=>rfl) (fun h=>by unfold bi at h; omega) (by unfold aK; split <;> omega) (.inr ⟨rfl,rfl⟩) (.inl rfl)
 ·obtain ⟨β',h',h4,h5,h6,h7,h8⟩:=i.row_at (e:=e) hsz hlen hrel h2 h3 hb ho hc;exact ⟨β',h',_,h4,h5,h6,h7,h8,fun e=>by simp [mJ] at e⟩
section
variable {H:Type} {enc:TypeId×Value->H} {held:Bool}
theorem Kh {a:Addr}{v:Value}(hv:w.cell? a=some v):a.spot=none/\ ∃ cs t fr,w.heap[a.block]?=some (.cells cs t fr)/\cs[a.off]?=some v:=by
 unfold World.cell? at hv;split at hv
 ·next c t fr hb=>
  split at hv
  ·cases hv
  ·next hs=>exact ⟨by simpa using hs,c,t,fr,hb,hv⟩
 ·cases hv
theorem pick {α:Type}{p:Nat->α->Prop}: ∀ n,(∀ i,i < n-> ∃ q,p i q)-> ∃ l:List α,l.length=n/\ ∀ i q,l[i]?=some q->p i q
 | 0,_=>⟨[],rfl,fun i q hi=>by simp at hi⟩
 | n+1,hp=>by
  obtain ⟨l,hl,hq⟩:=pick n fun i hi=>hp i (by omega);obtain ⟨q,hq'⟩:=hp n (by omega);refine ⟨l++[q],by simp [hl],fun i x hi=> ?_⟩;rw [List.getElem?_append] at hi;split at hi
  ·exact hq i x hi
  ·next hn=>
   have:i=n:=by
    have:=(List.getElem?_eq_some_iff.1 hi).1;simp at this; omega
   subst this;simp [hl] at hi;rw [<-hi]; exact hq'
theorem mP {e:TypeId}{d:DataW H}{n:Nat}: ∀ {l:List (DataW H)},d∈l->n∈d.weights P e->n∈DataW.weightsAll P e l
 | [],h,_=>by cases h
 | x::l,h,hn=>by
  rw [DataW.weightsAll,mem_append];rcases mem_cons.1 h with rfl | h
  ·exact .inl hn
  ·exact .inr (mP h hn)
theorem yu {t e:TypeId}{sz:Nat}(ht:P.underlying t=some (.slice e))(hsz:P.cellsOf e=sz)(hpos:0 < sz){p:List Value->Prop}
  (hp: ∀ n cs y,DataW.trod enc P w 0 (fun _=>true) held n e cs=some y->(y.1.weights P e).all (· <=reachBytes)=true->p cs) {fuel:Nat} {cv:List Value} {x:DataW H×List MemPlace}
  (h:DataW.trod enc P w 0 (fun _=>true) held fuel t cv=some x) (hw:(x.1.weights P t).all (· <=reachBytes)=true):
  ∃ v rs,cv=[v]/\xW w v sz rs/\(∀ r∈rs,p r)/\rs.length*P.bytesOf e<=reachBytes:=by
 rcases DataW.trod_slice ht h with ⟨rfl,rfl⟩ | ⟨a,len,cap,elems,rest,n,_,rfl,rfl,hb,hlc,hcm,hel,hE,hR,_⟩
 ·exact ⟨_,[],rfl,⟨fun _ hm=>absurd hm (by simp),.inl ⟨rfl,rfl⟩⟩,fun _ hm=>absurd hm (by simp),by simp⟩
 obtain ⟨hrl,hR⟩:=hR rfl;simp only [DataW.weights,ht,List.all_cons,and_eq_true,decide_eq_true_eq,all_append,lM] at hw;obtain ⟨hw1,hw2,hw3⟩:=hw;have hcap:cap < bi:=by unfold maxLen at hcm; unfold bi; omega
 have key: ∀ i,i < len-> ∃ r:List Value,(r.length=sz/\p r)/\ ∀ j,j < sz->w.cell? (a.add (i*sz+j))=r[j]?:=fun i hi=>by
  have h1:=hE i hi;have h2:elems[i]?=some elems[i]:=gE (by omega);rw [h2,hsz,Option.bind_eq_some_iff] at h1;obtain ⟨r,h3,h4⟩:=h1;obtain ⟨_,h5,h6⟩:=World.cells?_some h3;refine ⟨r,⟨h5,hp n r _ h4 ?_⟩,fun j hj=> ?_⟩
  ·rw [all_eq_true] at hw2 ⊢;exact fun m hm=>hw2 m (mP (mem_map.2 ⟨elems[i],List.mem_of_getElem? h2,rfl⟩) hm)
  ·rw [<-h6 j hj,Addr.add_add]
 obtain ⟨rs,hrs,hq⟩:=pick len key;have hq': ∀ r∈rs,r.length=sz/\p r:=fun r hr=>by
  obtain ⟨k,hk⟩:=List.mem_iff_getElem?.1 hr;exact (hq k r hk).1
 refine ⟨_,rs,rfl,⟨fun r hr=>(hq' r hr).1,?_⟩,fun r hr=>(hq' r hr).2,?_⟩
 ·rcases eq_zero_or_pos cap with hz | hz
  ·obtain rfl:rs=[]:=eq_nil_of_length_eq_zero (by omega);have:len=0:=by omega
   subst this; subst hz;exact .inr (.inl ⟨a,rfl,rfl⟩)
  ·have h0: ∃ v,w.cell? a=some v:=by
    have add0:a.add (0*sz)=a:=by rw [Nat.zero_mul]; unfold Addr.add; split <;> simp_all
    have fin: ∀ x,(w.cells? 0 (a.add (0*sz)) sz).bind (DataW.trod enc P w 0 (fun _=>true) held n e)=some x-> ∃ v,w.cell? a=some v:=fun x hx=>by
     rw [Option.bind_eq_some_iff,add0] at hx;obtain ⟨r,h3,h4⟩:=hx;obtain ⟨_,h5,h6⟩:=World.cells?_some h3;have:=h6 0 hpos;rw [show a.add 0=a by unfold Addr.add; split <;> simp_all,gE (by omega)] at this;exact ⟨_,this⟩
    rcases eq_zero_or_pos len with hl | hl
    ·have:=hR 0 (by omega);rw [hl,hsz,gE (by omega)] at this;exact fin _ this
    ·have:=hE 0 hl;rw [hsz,gE (by omega)] at this;exact fin _ this
   obtain ⟨v0,hv0⟩:=h0;obtain ⟨hs,cs,tt,fr,hbk,hoff⟩:=Kh hv0;obtain ⟨b,off,spot⟩:=a
   cases (show spot=none from hs)
   have ho:=(Array.getElem?_eq_some_iff.1 hoff).1;refine .inr (.inr ⟨b,off,cap,cs,tt,fr,by rw [hrs],by omega,hcap,hbk,Nat.le_of_lt ho,fun i r hi j hj=> ?_⟩);have:=(hq i r hi).2 j hj;rw [bC,iW hbk] at this;exact this
 ·rw [hrs];refine le_trans (Nat.mul_le_mul_right _ ?_) hw1;omega
end
end
end Go.Ab
end
section
set_option linter.unusedVariables false
namespace Go.Ab
open Go Go.RowKit Go.Proofs Go.Sort Go.Shelf
section
variable {β:Inj} {P:Program} {gl:Nat->Bool}
theorem AY {k:Nat}: ∀ {l:List (List Value)},(∀ r∈l,r.length=k)-> ∀ j,j < l.length*k->l.flatten[j]?=(l[j / k]?).bind (·[j % k]?)
 | [],_,j,h=>by simp at h
 | r::l,hl,j,h=>by
  have hr:=hl r (mem_cons_self ..);rw [List.length_cons,add_mul,one_mul] at h;rw [flatten_cons];by_cases hj:j < k
  ·rw [List.getElem?_append_left (by omega),Nat.div_eq_of_lt hj,Nat.mod_eq_of_lt hj]; rfl
  ·have hk:0 < k:=by
    rcases eq_zero_or_pos k with h0 | h0
    ·subst h0; omega
    ·exact h0
   rw [List.getElem?_append_right (by omega),hr,AY (fun x hx=>hl x (mem_cons_of_mem _ hx)) (j - k) (by omega)];obtain ⟨m,rfl⟩: ∃ m,j=m+k:=⟨j - k,by omega⟩
   rw [Nat.add_sub_cancel,Nat.add_div_right _ hk,Nat.add_mod_right]; rfl
section
variable {α:Type} [Inhabited α] {enc:α->List Value} {k:Nat}
theorem nW (hk: ∀ x,(enc x).length=k)(l:List α)(j:Nat)(hj:j < l.length*k):(l.map enc).flatten[j]?=some (flatK enc k l.toArray)[j]! :=by
 have k0:0 < k:=by
  rcases eq_zero_or_pos k with h0 | h0
  ·subst h0; simp at hj
  ·exact h0
 have hd:j / k < l.length:=Nat.div_lt_of_lt_mul (by rw [Nat.mul_comm]; exact hj);have hm:=Nat.mod_lt j k0;rw [AY (fun r hr=>by obtain ⟨x,_,rfl⟩:=mem_map.1 hr; exact hk x) j (by rw [lM]; exact hj),get_flatK _ _ _ _ (by simpa using hj),getElem?_map,gE hd];simp only [map_some,Option.bind_some];rw [getElem!_pos l.toArray (j / k) (by simpa using hd)];have he:j % k < (enc l[j / k]).length:=by rw [hk]; exact hm
 rw [gE he];simp only [List.getElem_toArray];exact congrArg some (getElem!_pos (enc l[j / k]) (j % k) he).symm
omit [Inhabited α] in
theorem IH (hk: ∀ x,(enc x).length=k): ∀ l:List α,(l.map enc).flatten.length=l.length*k
 | []=>by simp
 | x::l=>by rw [List.map_cons,flatten_cons,length_append,IH hk l,hk,List.length_cons,add_mul,one_mul,Nat.add_comm]
theorem Hp (hk: ∀ x,(enc x).length=k)(hb: ∀ x,(enc x).all pL=true){w:World}{b s:Nat}{cs':Array Value}{t:TypeId}{fr:Nat×Nat}{cs:List Value}{off:Nat}{l:List α}(hw:w.heap[b]?=some (.cells cs' t fr))(hc:CellsAt β cs s cs')(hf:I6 fr cs'.size)(ho:off+l.length*k<=cs.length)(hl:(cs.drop off).take (l.length*k)=(l.map enc).flatten):HoldsK enc k w b (s+off) l.toArray:=by
 intro j hj;have hj:j < l.length*k:=by simpa using hj
 have h1:=nW hk l j hj;rw [<-hl,List.getElem?_take,if_pos hj,List.getElem?_drop] at h1;obtain ⟨v',h2,h3⟩:=hc _ _ h1;have hbare:pL (flatK enc k l.toArray)[j]! = true:=by
  have h4:=nW hk l j hj;have hm:=List.mem_of_getElem? h4;obtain ⟨r,hr,hm⟩:=mem_flatten.1 hm;obtain ⟨x,_,rfl⟩:=mem_map.1 hr;exact all_eq_true.1 (hb x) _ hm
 rw [h3.bare_eq hbare] at h2;rw [show s+(off+j)=s+off+j by omega] at h2;refine ⟨by rw [iW hw]; exact h2,?_⟩;have hlt:s+off+j < cs'.size:=(Array.getElem?_eq_some_iff.1 h2).1;unfold World.frozen?;rw [hw];dsimp only;obtain ⟨lo,hi⟩:=fr;rw [Bool.and_eq_false_iff];by_cases h5:lo<=s+off+j
 ·right;have: ¬ s+off+j < hi:=fun h6=>by
   have:=hf (s+off+j) h5 h6;omega
  simpa using this
 ·left; simpa using h5
theorem C7 {cf:α->α->Int}{g:Nat}(hcmp: ∀ x y w,Calls P g #[.agg (enc x).toArray,.agg (enc y).toArray] w fun e w'=>e = .returned (.int .i64 (cf x y))/\Below w.heap.size w w'/\w.drawn<=w'.drawn)(blk off size:Nat)(w:World):CmpLays P g #[] enc k cf blk off size w:=by
 intro m os dk _ x y;refine (hcmp x y _).mono ?_;rintro e w' ⟨rfl,hb,hd⟩;refine ⟨rfl,w'.drawn - (sortWorldK enc k w blk off m dk os).drawn,w'.heap.extract (sortWorldK enc k w blk off m dk os).heap.size w'.heap.size,?_⟩;generalize sortWorldK enc k w blk off m dk os=W at *;have hh:W.heap++w'.heap.extract W.heap.size w'.heap.size=w'.heap:=by
  have h1:=hb.size;refine Array.ext_getElem? fun i=> ?_;rw [Array.getElem?_append];split
  ·next hi=>exact (hb.block i hi).symm
  ·next hi=>
   rw [Array.getElem?_extract];split
   ·congr 1; omega
   ·rw [Array.getElem?_eq_none (by omega)]
 obtain ⟨h0,t0,d0,o0,u0⟩:=w';have e1:=hb.os;have e2:=hb.tape;have e3:=hb.output;dsimp only at e1 e2 e3 hd hh;subst e1; subst e2; subst e3;unfold grow World.drewN;dsimp only;rw [hh];congr 1;omega
end
theorem Gq {n c:Nat}{a:Option Addr}{v:Value}(h:VRel β (.slice a n c) v): ∃ a' c',v = .slice a' n c':=by
 cases h with
 | nilSlice=>exact ⟨_,_,rfl⟩
 | slice=>exact ⟨_,_,rfl⟩
 | dead=>exact ⟨_,_,rfl⟩
theorem KZ {g:Nat}{v:Value}(h:VRel β (.func (.func g) ⟨[]⟩ ⟨[]⟩) v):v = .func (.func g) #[] #[]:=by
 cases h with
 | func hy ha hc=>
  next a c=>
  obtain rfl:=Array.eq_empty_of_size_eq_zero ha.symm;obtain rfl:=Array.eq_empty_of_size_eq_zero hc.symm;rfl
set_option maxHeartbeats 1000000 in
theorem LS {α:Type}[Inhabited α]{ρ:Ren}(L:SlLaysF0.n6 P ρ){k g:Nat}(k0:0 < k)(aE: ∀ w,(Go.isAgg (ρ.t 24)).run P w = .ok true w)(zE: ∀ w,(Go.sizeOf (ρ.t 24)).run P w = .ok k w){enc:α->List Value}(hk: ∀ x,(enc x).length=k)(h1: ∀ x,∀ v∈enc x,v.oneCell'=true)(hb: ∀ x,(enc x).all pL=true){cf:α->α->Int}(hO:SWO (ltOf cf))(hT: ∀ x y,(ltOf cf) x y=false->(ltOf cf) y x=false->x=y)
  (eg: ∀ args w,(callFunc g args).run P w = .ok (.enter g args) w) (hcmp: ∀ x y w,Calls P g #[.agg (enc x).toArray,.agg (enc y).toArray] w fun e w'=>e = .returned (.int .i64 (cf x y))/\Below w.heap.size w w'/\w.drawn<=w'.drawn)
  {srt:List Value->Option (List Value)} (hs: ∀ cs cs',srt cs=some cs'-> ∃ l:List α,cs=(l.map enc).flatten/\cs'=((l.mergeSort fun x y=> !(ltOf cf) y x).map enc).flatten) {f6:Func} (hf6:P.funcs[ρ.f 6]?=some f6) (hb6:f6.body.isSome=true):jt P gl (ρ.f 6) (Co g k srt):=by
 intro cf' _ args h v h' hp β w args' hsim _ ha;refine ⟨f6,hf6,.inl ⟨hb6,?_⟩⟩;unfold Co at hp;split at hp
 ·next a n c g'=>
  split at hp
  ·next hg=>
   subst hg;obtain ⟨v1,r1,e1,hv1,ha1⟩:=ha.inv_cons;obtain ⟨v2,r2,e2,hv2,ha2⟩:=ha1.inv_cons;have e3:=ha2.inv_nil;subst e2; subst e3;have hargs:args' = #[v1,v2]:=by
    have:=congrArg List.toArray e1;simpa using this
   subst hargs;obtain rfl:=KZ hv2;split at hp
   ·next hn=>
    subst hn;simp only [Option.some.injEq,Prod.mk.injEq] at hp;obtain ⟨rfl,rfl⟩:=hp;obtain ⟨a',c',rfl⟩:=Gq hv1;refine (AnyF.slices_SortFunc_none L a' c' _ w).mono ?_;rintro e w' ⟨rfl,rfl⟩;exact ⟨_,β,rfl,Step.refl hsim,.tuple rfl fun i v v' h=>by simp at h⟩
   ·next hn=>
    split at hp
    ·next b off=>
     split at hp
     ·next cs t sz hblk=>
      split at hp
      ·next hlim=>
       obtain ⟨cs',hsrt,he⟩:=map_eq_some_iff.1 hp;simp only [Prod.mk.injEq] at he;obtain ⟨rfl,rfl⟩:=he;obtain ⟨l,hl,rfl⟩:=hs _ _ hsrt;obtain ⟨sl,i',c',hβ,hm,_,rfl,hx1,ho1,hn1,hi1,hz1⟩:=hv1.inv_slice;have hi1:i'=sl.s+off:=by
        rcases hi1 with h | ⟨h,_⟩
        ·exact h
        ·exact absurd h hn
       subst hi1;obtain ⟨hm,ht,hsz,csW,fr,hw,hnW,hcW,hfW⟩:=hsim.row hblk hβ;obtain ⟨hm,ht,hz,csW,fr,hw,hnW,hcW,hfW⟩:=hsim.blk _ _ _ hblk hβ;have hlen:((cs.drop off).take (n*k)).length=n*k:=by rw [length_take,length_drop]; omega
       have hn':l.length=n:=by
        rw [hl,IH hk] at hlen;exact Nat.eq_of_mul_eq_mul_right k0 hlen
       subst hn';have H:=Hp (β:=β) hk hb hw hcW (hfW rfl) hlim.2 hl;refine (AnyQ.slices_SortFunc_total L k aE zE enc hk h1 cf hO g' #[] sl.b (sl.s+off) c' l.toArray w eg (C7 hcmp _ _ _ _) H (hsim.lt _ _ hβ).2 hlim.1 hT).mono ?_;rintro e w' ⟨rfl,m,os,rfl⟩;have hml:(l.mergeSort fun x y=> !(ltOf cf) y x).length=l.length:=List.length_mergeSort l;have e0:l.toArray.toList=l:=rfl;rw [e0];generalize (l.mergeSort fun x y=> !(ltOf cf) y x)=l' at *;have hoff:off<=cs.length:=by omega
       have hcsz: ∀ i v,cs[i]?=some v-> ∃ v',csW[sl.s+i]?=some v'/\VRel β v v':=hcW;have st1:Step β h w β (h.set b (.cells (cs.take off++(l'.map enc).flatten++cs.drop (off+l.length*k)) t sz true)) (putRowK enc k (Sort.ahead w m) sl.b (sl.s+off) l'.toArray):=by
        refine Step.at_ hsim hblk hβ rfl ⟨by simp [putRowK],rfl,⟨rfl,Nat.le_add_right _ _⟩,rfl,fun b' hb'=> ?_⟩ ⟨hm,ht,hz,putCells id (sl.s+off) (flatK enc k l'.toArray) csW,fr,?_,by simp [putCells,hnW],fun i v hv=> ?_,fun _=>by simpa [putCells] using hfW rfl⟩
        ·simp only [putRowK,putRow,mapBlock,Array.getElem?_modify];rw [if_neg (Ne.symm hb')]; rfl
        ·simp only [putRowK,putRow,mapBlock,Array.getElem?_modify,if_true,heap_ahead,hw,map_some,onCells]
        ·have hpc: ∀ j,(putCells id (sl.s+off) (flatK enc k l'.toArray) csW)[j]?=(csW[j]?).map fun x=>if sl.s+off<=j/\j < sl.s+off+l.length*k then (flatK enc k l'.toArray)[j - (sl.s+off)]! else x:=fun j=>by
          simp only [putCells,Array.getElem?_mapIdx,size_flatK,List.size_toArray,hml,id]
         rw [hpc];have hf:(l'.map enc).flatten.length=l.length*k:=by rw [IH hk,hml]
         have ht1:(cs.take off).length=off:=by rw [length_take]; omega
         rw [append_assoc,List.getElem?_append,ht1] at hv;split at hv
         ·next hi=>
          rw [List.getElem?_take,if_pos hi] at hv;obtain ⟨v',g1,g2⟩:=hcsz i v hv;rw [g1];exact ⟨v',by simp only [map_some]; rw [if_neg (by omega)],g2⟩
         ·next hi=>
          rw [List.getElem?_append,hf] at hv;split at hv
          ·next hi2=>
           have g0:i < cs.length:=by omega
           obtain ⟨v',g1,g2⟩:=hcsz i _ (gE g0);rw [g1];simp only [map_some];rw [if_pos (by omega)];rw [nW hk l' (i - off) (by rw [hml]; exact hi2)] at hv;obtain rfl:=oI hv;refine ⟨_,rfl,?_⟩;rw [show sl.s+i - (sl.s+off)=i - off by omega];refine .of_bare ?_;have hm:=List.mem_of_getElem? (nW hk l' (i - off) (by rw [hml]; exact hi2));obtain ⟨r,hr,hm⟩:=mem_flatten.1 hm;obtain ⟨x,_,rfl⟩:=mem_map.1 hr;exact all_eq_true.1 (hb x) _ hm
          ·next hi2=>
           rw [List.getElem?_drop,show off+l.length*k+(i - off - l.length*k)=i by omega] at hv;obtain ⟨v',g1,g2⟩:=hcsz i v hv;rw [g1];exact ⟨v',by simp only [map_some]; rw [if_neg (by omega)],g2⟩
       refine ⟨_,β,rfl,st1.trans (pk st1.sim ⟨rfl,rfl,rfl,by rw [show (sortWorldK enc k w sl.b (sl.s+off) m l'.toArray os)=grow (putRowK enc k (Sort.ahead w m) sl.b (sl.s+off) l'.toArray) os from rfl,size_grow]; exact Nat.le_add_right _ _,fun j hj=>heap_grow_old _ os hj⟩ (le_refl _)),.tuple rfl fun i v v' h=>by simp at h⟩
      ·cases hp
     ·cases hp
    ·cases hp
  ·cases hp
 ·cases hp
end
end Go.Ab
end
section
set_option linter.unusedVariables false
namespace Go.Ab
open Go Go.Sort Go.Proofs
instance:Inhabited MArc:=⟨q0⟩
theorem Oh (x y:MArc):ltOf wW x y=iN x y:=by
 unfold ltOf;by_cases h:iN x y=true
 ·rw [h]; exact decide_eq_true ((CT x y).2 h)
 ·rw [Bool.not_eq_true] at h;rw [h];exact decide_eq_false fun h2=>by
   have:=(CT x y).1 h2;rw [h] at this; cases this
theorem Qm:SWO (ltOf wW) where
 irrefl x:=by rw [Oh]; exact eq_false_iff.2 (CD x)
 trans x y z h1 h2:=by rw [Oh] at *; exact qb h1 h2
 ntrans x y z h1 h2:=by
  rw [Oh] at *;exact eq_false_iff.2 (sF (p:=z) (q:=y) (r:=x) (eq_false_iff.1 h2) (eq_false_iff.1 h1))
theorem QB (x y:MArc)(h1:ltOf wW x y=false)(h2:ltOf wW y x=false):x=y:=by
 rw [Oh] at *;exact uF (eq_false_iff.1 h1) (eq_false_iff.1 h2)
theorem N5 (l:List MArc):l.mergeSort (fun x y=> !(ltOf wW) y x)=cP l:=by
 refine JH (List.mergeSort_perm ..) ?_;have hs:=List.pairwise_mergeSort (le:=fun x y=> !(ltOf wW) y x) (fun a b c h1 h2=>by
  simp only [Oh,Bool.not_eq_true'] at *;exact eq_false_iff.2 (sF (p:=a) (q:=b) (r:=c) (eq_false_iff.1 h1) (eq_false_iff.1 h2))) (fun a b=>by
  simp only [Oh]
  cases h:iN b a with
  | false=>rfl
  | true=>
   have:=Jh h;unfold Dd at this;simp [eq_false_iff.2 this]) l
 refine hs.imp fun h=> ?_;simp only [Oh,Bool.not_eq_true'] at h;exact eq_false_iff.1 h
end Go.Ab
end
section
set_option linter.unusedVariables false
namespace Go.Proofs.YtoabjjimjldcfaaGreatDoor
open Go.Shelf Go.RowKit Go.Lib Go.Sort
def CJ:Go.Shelf.Ren:=⟨fun | 6=>48 | 15=>73 | 14=>72 | 28=>92 | 29=>93 | 20=>84 | 21=>85 | 22=>86 | 23=>87 | 24=>88 | 25=>89 | 26=>90 | 27=>91 | 46=>109 | 47=>110 | 48=>111 | 49=>112 | 50=>113 | 57=>133 | n=>n,fun | 22=>35 | 24=>39 | 25=>55 | 3=>3 | 39=>83 | 0=>0 | 53=>101 | 55=>103 | 4=>4 | 46=>94 | 45=>93 | 50=>98 | 5=>5 | 9=>9 | 66=>113 | 70=>117 | 76=>129 | 77=>130 | n=>n,fun | n=>n⟩
theorem Ma:Go.Proofs.SlLaysF0.n6 Tryz.prog CJ:={
 mixed:=by kernel_rfl,
 f6:=⟨Tryz.f48.name,by decide,Tryz.func48.trans (congrArg some (by kernel_rfl))⟩,
 f14:=⟨Tryz.f72.name,by decide,Tryz.func72.trans (congrArg some (by kernel_rfl))⟩,
 f15:=Tryz.func73.trans (congrArg some (by kernel_rfl)),
 f20:=⟨Tryz.f84.name,by decide,Tryz.func84.trans (congrArg some (by kernel_rfl))⟩,
 f21:=⟨Tryz.f85.name,by decide,Tryz.func85.trans (congrArg some (by kernel_rfl))⟩,
 f22:=⟨Tryz.f86.name,by decide,Tryz.func86.trans (congrArg some (by kernel_rfl))⟩,
 f23:=⟨Tryz.f87.name,by decide,Tryz.func87.trans (congrArg some (by kernel_rfl))⟩,
 f24:=⟨Tryz.f88.name,by decide,Tryz.func88.trans (congrArg some (by kernel_rfl))⟩,
 f25:=⟨Tryz.f89.name,by decide,Tryz.func89.trans (congrArg some (by kernel_rfl))⟩,
 f26:=⟨Tryz.f90.name,by decide,Tryz.func90.trans (congrArg some (by kernel_rfl))⟩,
 f27:=⟨Tryz.f91.name,by decide,Tryz.func91.trans (congrArg some (by kernel_rfl))⟩,
 f28:=Tryz.func92.trans (congrArg some (by kernel_rfl)),
 f29:=Tryz.func93.trans (congrArg some (by kernel_rfl)),
 f46:=⟨Tryz.f109.name,by decide,Tryz.func109.trans (congrArg some (by kernel_rfl))⟩,
 f47:=Tryz.func110.trans (congrArg some (by kernel_rfl)),
 f48:=Tryz.func111.trans (congrArg some (by kernel_rfl)),
 f49:=⟨Tryz.f112.name,by decide,Tryz.func112.trans (congrArg some (by kernel_rfl))⟩,
 f50:=⟨Tryz.f113.name,by decide,Tryz.func113.trans (congrArg some (by kernel_rfl))⟩,
 f57:=⟨Tryz.f133.name,by decide,Tryz.func133.trans (congrArg some (by kernel_rfl))⟩,
 t0:=Tryz.underlying0,
 a0:=Tryz.isAgg0,
 z0:=Tryz.sizeOf0,
 v0:=Tryz.zeroValue0,
 t3:=Tryz.underlying3,
 a3:=Tryz.isAgg3,
 z3:=Tryz.sizeOf3,
 v3:=Tryz.zeroValue3,
 t4:=Tryz.underlying4,
 a4:=Tryz.isAgg4,
 z4:=Tryz.sizeOf4,
 v4:=Tryz.zeroValue4,
 t5:=Tryz.underlying5,
 a5:=Tryz.isAgg5,
 z5:=Tryz.sizeOf5,
 v5:=Tryz.zeroValue5,
 t9:=Tryz.underlying9,
 a9:=Tryz.isAgg9,
 z9:=Tryz.sizeOf9,
 v9:=Tryz.zeroValue9,
 t22:=Tryz.underlying35,
 a22:=Tryz.isAgg35,
 z22:=Tryz.sizeOf35,
 v22:=Tryz.zeroValue35,
 t25:=Tryz.underlying55,
 a25:=Tryz.isAgg55,
 z25:=Tryz.sizeOf55,
 v25:=Tryz.zeroValue55,
 t39:=Tryz.underlying83,
 a39:=Tryz.isAgg83,
 z39:=Tryz.sizeOf83,
 v39:=Tryz.zeroValue83,
 t45:=Tryz.underlying93,
 a45:=Tryz.isAgg93,
 z45:=Tryz.sizeOf93,
 v45:=Tryz.zeroValue93,
 t46:=Tryz.underlying94,
 a46:=Tryz.isAgg94,
 z46:=Tryz.sizeOf94,
 v46:=Tryz.zeroValue94,
 t50:=Tryz.underlying98,
 a50:=Tryz.isAgg98,
 z50:=Tryz.sizeOf98,
 v50:=Tryz.zeroValue98,
 t53:=Tryz.underlying101,
 a53:=Tryz.isAgg101,
 z53:=Tryz.sizeOf101,
 v53:=Tryz.zeroValue101,
 t55:=Tryz.underlying103,
 a55:=Tryz.isAgg103,
 z55:=Tryz.sizeOf103,
 v55:=Tryz.zeroValue103,
 t66:=Tryz.underlying113,
 a66:=Tryz.isAgg113,
 z66:=Tryz.sizeOf113,
 v66:=Tryz.zeroValue113,
 t70:=Tryz.underlying117,
 a70:=Tryz.isAgg117,
 z70:=Tryz.sizeOf117,
 v70:=Tryz.zeroValue117,
 t76:=Tryz.underlying129,
 a76:=Tryz.isAgg129,
 z76:=Tryz.sizeOf129,
 v76:=Tryz.zeroValue129,
 t77:=Tryz.underlying130,
 a77:=Tryz.isAgg130,
 z77:=Tryz.sizeOf130,
 v77:=Tryz.zeroValue130 }
end Go.Proofs.YtoabjjimjldcfaaGreatDoor
end
section
set_option linter.unusedVariables false
set_option maxRecDepth 100000
namespace Go.Proofs.YtoabjjimjldcfaaGreatDoor
open Go Go.Ab Go.Sort
theorem GR (p q:MArc)(w:World):Calls Tryz.prog 47 #[.agg (aD p).toArray,.agg (aD q).toArray] w fun e w'=>e = .returned (.int .i64 (wW p q))/\RowKit.Below w.heap.size w w'/\w.drawn<=w'.drawn:=by
 refine (zO text_ok (Mj p q (h:=⟨0,.nil⟩) (fun k B h=>by rw [Heap.get_nil] at h; cases h)) (by unfold YB; decide) Tryz.func47 (by kernel_rfl) (args':= #[.agg (aD p).toArray,.agg (aD q).toArray]) (.cons (.of_plain rfl) (.cons (.of_plain rfl) (.nil _))) w).mono ?_;rintro e w' ⟨v,v',h',β',rfl,⟨rfl,_⟩,h3,h4⟩
 cases h3
 exact ⟨rfl,h4⟩
theorem HR:jt Tryz.prog Lf 48 (Co 47 4 Io):=
 LS Ma (by decide) (fun w=>Tryz.isAgg39 w) (fun w=>Tryz.sizeOf39 w) (enc:=aD) (fun _=>rfl) (fun x v hv=>by
  simp only [aD,mem_cons,List.not_mem_nil,or_false] at hv;rcases hv with rfl | rfl | rfl | rfl <;> rfl) (fun _=>rfl) Qm QB (fun args w=>enters_of Tryz.func47 (by kernel_rfl) rfl args w) GR (fun cs cs' h=>by
  unfold Io at h;obtain ⟨l,h1,rfl⟩:=map_eq_some_iff.1 h;exact ⟨l,Km cs h1,by rw [N5]⟩) Tryz.func48 (by kernel_rfl)
end Go.Proofs.YtoabjjimjldcfaaGreatDoor
end
section
set_option linter.unusedVariables false
namespace Go.Proofs.YtoabjjimjldcfaaGreatDoor
open Go Go.Ab Go.RowKit
theorem vS:jt Tryz.prog Lf 194 kX:=AQ (fn:=(Tryz.prog.funcs[194]?).getD default) (by kernel_rfl) (by kernel_rfl) (by kernel_rfl) (by kernel_rfl) (by kernel_rfl)
theorem tQ:jt Tryz.prog Lf 196 jH:=Ax (fn:=(Tryz.prog.funcs[196]?).getD default) (by kernel_rfl) (by kernel_rfl) (by kernel_rfl) (by kernel_rfl) (by kernel_rfl)
theorem xl:jt Tryz.prog Lf 134 (zi Tryz.prog Lf Tryz.f134 (seqL Fx) (seqR (seqR Fx)) 5):=
 Kw text_ok.names Tryz.func134 rfl rfl rfl rfl rfl rfl rfl Tryz.func157 rfl zY (by kernel_rfl) (by kernel_rfl)
theorem IE:lH Tryz.prog Lf Rm:=iZ HR (iZ vS (iZ tQ (iZ xl Bx)))
end Go.Proofs.YtoabjjimjldcfaaGreatDoor
end
section
set_option linter.unusedVariables false
set_option maxRecDepth 100000
namespace Go.Proofs.YtoabjjimjldcfaaGreatDoor
open Go Go.Ab Go.ChangeShapes Go.RowKit
section
theorem Q7:Tryz.prog.cellsOf 3=1:=by kernel_rfl
theorem Qh:Tryz.prog.cellsOf 9=1:=by kernel_rfl
theorem QN:Tryz.prog.cellsOf 22=1:=by kernel_rfl
theorem Qy:Tryz.prog.cellsOf 24=4:=by kernel_rfl
theorem Qf:Tryz.prog.cellsOf 35=1:=by kernel_rfl
theorem Po:Tryz.prog.cellsOf 37=2:=by kernel_rfl
theorem Pm:Tryz.prog.cellsOf 39=4:=by kernel_rfl
theorem Pt:Tryz.prog.cellsOf 103=1:=by kernel_rfl
theorem Qu:Tryz.prog.bytesOf 39=40:=by kernel_rfl
theorem EI {α β:Type}{p:α->β}{P:α->Prop}: ∀ {l:List β},(∀ x∈l,∃ q,x=p q/\P q)-> ∃ k:List α,l=k.map p/\ ∀ q∈k,P q
 | [],_=>⟨[],rfl,fun _ h=>by cases h⟩
 | x::l,h=>by
  obtain ⟨q,rfl,hq⟩:=h x (mem_cons_self ..);obtain ⟨k,rfl,hk⟩:=EI fun x hx=>h x (mem_cons_of_mem _ hx);exact ⟨q::k,rfl,fun y hy=>by
   rcases mem_cons.1 hy with rfl | hy
   ·exact hq
   ·exact hk y hy⟩
def J8 (W:World)(q:MSt×Value):Prop:=xW W q.2 4 (q.1.arcs.map aD)/\q.1.arcs.length<=281474976710656
section
variable {H:Type} {enc:TypeId×Value->H} {W:World} {held:Bool}
theorem La {n:Nat}{cs:List Value}{y:DataW H×List MemPlace}(h:DataW.trod enc Tryz.prog W 0 (fun _=>true) held n 39 cs=some y): ∃ q:MArc,cs=aD q/\True:=by
 obtain ⟨xs,m,_,_,hl,hlen,hf⟩:=DataW.trod_struct Tryz.underlying39 h;rw [Pm] at hl;have hlen:xs.length=4:=hlen
 match xs,hlen,cs,hl with
 | [y0,y1,y2,y3],_,[c0,c1,c2,c3],_=>
  obtain ⟨i,e0,_,_⟩:=DataW.trod_int (x:=y0) Tryz.underlying3 (show DataW.trod enc Tryz.prog W 0 (fun _=>true) held m 3 (([c0,c1,c2,c3].drop 0).take (Tryz.prog.cellsOf 3))=some y0 from hf 0 _ rfl);obtain ⟨o,e1,_,_⟩:=DataW.trod_int (x:=y1) Tryz.underlying3 (show DataW.trod enc Tryz.prog W 0 (fun _=>true) held m 3 (([c0,c1,c2,c3].drop 1).take (Tryz.prog.cellsOf 3))=some y1 from hf 1 _ rfl);obtain ⟨s,e2,_,_⟩:=DataW.trod_string (x:=y2) Tryz.underlying9 (show DataW.trod enc Tryz.prog W 0 (fun _=>true) held m 9 (([c0,c1,c2,c3].drop 2).take (Tryz.prog.cellsOf 9))=some y2 from hf 2 _ rfl);obtain ⟨t,e3,_,_⟩:=DataW.trod_int (x:=y3) Tryz.underlying3 (show DataW.trod enc Tryz.prog W 0 (fun _=>true) held m 3 (([c0,c1,c2,c3].drop 3).take (Tryz.prog.cellsOf 3))=some y3 from hf 3 _ rfl);simp only [Q7,Qh,List.drop,List.take,List.cons.injEq,and_true] at e0 e1 e2 e3;subst e0; subst e1; subst e2; subst e3;exact ⟨⟨i,o,s.data.toList,t⟩,rfl,trivial⟩
theorem Db {n:Nat}{cs:List Value}{y:DataW H×List MemPlace}(h:DataW.trod enc Tryz.prog W 0 (fun _=>true) held n 37 cs=some y)(hw:(y.1.weights Tryz.prog 37).all (· <=reachBytes)=true): ∃ q:MSt×Value,cs=gG q/\J8 W q:=by
 obtain ⟨y0,y1,m,rfl,hl,h0,h1⟩:=trod_struct2 Tryz.underlying37 h;rw [Po] at hl
 match cs,hl with
 | [c0,c1],_=>
  obtain ⟨s,e0,_,_⟩:=DataW.trod_string Tryz.underlying9 h0;simp only [DataW.weights,Tryz.underlying37,DataW.weightsEach,List.map,append_nil,all_append,and_eq_true] at hw;obtain ⟨v,rs,e1,r,hr,hb⟩:=yu (P:=Tryz.prog) (p:=fun cs=> ∃ q:MArc,cs=aD q/\True) Tryz.underlying35 Pm (by decide) (fun n cs y h _=>La h) h1 hw.2;simp only [Qh,Qf,List.drop,List.take,List.cons.injEq,and_true] at e0 e1;subst e0; subst e1;obtain ⟨l,rfl,_⟩:=EI hr;refine ⟨(⟨s.data.toList,l⟩,c1),rfl,r,?_⟩;rw [Qu,lM] at hb;unfold reachBytes at hb;show l.length<=_;omega
theorem Af {n:Nat}{cs:List Value}{y:DataW H×List MemPlace}(h:DataW.trod enc Tryz.prog W 0 (fun _=>true) held n 24 cs=some y)(hw:(y.1.weights Tryz.prog 24).all (· <=reachBytes)=true):
  ∃ (k s:Int)(ld:List UInt8)(v:Value)(sts:List (MSt×Value)),cs=[.int .i64 k,.int .i64 s,aa ld,v]/\xW W v 2 (sts.map gG)/\ ∀ q∈sts,J8 W q:=by
 obtain ⟨xs,m,_,rfl,hl,hlen,hf⟩:=DataW.trod_struct Tryz.underlying24 h;rw [Qy] at hl;have hlen:xs.length=4:=hlen
 match xs,hlen,cs,hl with
 | [y0,y1,y2,y3],_,[c0,c1,c2,c3],_=>
  obtain ⟨k,e0,_,_⟩:=DataW.trod_int (x:=y0) Tryz.underlying3 (show DataW.trod enc Tryz.prog W 0 (fun _=>true) held m 3 (([c0,c1,c2,c3].drop 0).take (Tryz.prog.cellsOf 3))=some y0 from hf 0 _ rfl);obtain ⟨s,e1,_,_⟩:=DataW.trod_int (x:=y1) Tryz.underlying3 (show DataW.trod enc Tryz.prog W 0 (fun _=>true) held m 3 (([c0,c1,c2,c3].drop 1).take (Tryz.prog.cellsOf 3))=some y1 from hf 1 _ rfl);obtain ⟨ld,e2,_,_⟩:=DataW.trod_string (x:=y2) Tryz.underlying9 (show DataW.trod enc Tryz.prog W 0 (fun _=>true) held m 9 (([c0,c1,c2,c3].drop 2).take (Tryz.prog.cellsOf 9))=some y2 from hf 2 _ rfl);simp only [DataW.weights,Tryz.underlying24,DataW.weightsEach,List.map,append_nil,all_append,and_eq_true] at hw;obtain ⟨v,rs,e3,r,hr,_⟩:=yu (P:=Tryz.prog) (x:=y3) (p:=fun cs=> ∃ q:MSt×Value,cs=gG q/\J8 W q) Tryz.underlying22 Po (by decide) (fun n cs y h hw=>Db h hw) (show DataW.trod enc Tryz.prog W 0 (fun _=>true) held m 22 (([c0,c1,c2,c3].drop 3).take (Tryz.prog.cellsOf 22))=some y3 from hf 3 _ rfl) hw.2.2.2;simp only [Q7,Qh,QN,List.drop,List.take,List.cons.injEq,and_true] at e0 e1 e2 e3;subst e0; subst e1; subst e2; subst e3;obtain ⟨l,rfl,hl⟩:=EI hr;exact ⟨k,s,ld.data.toList,c3,l,rfl,r,hl⟩
end
section
variable {W:World}
theorem H6 (q:MArc):(aD q).all pL=true:=rfl
theorem Lr {β:Inj}{f:List UInt8}{v v':Value}(h:VRel β v v'):LRel β [aa f,v] [aa f,v']:= .cons (.string _) (.cons h (.nil β))
theorem yO: ∀ (sts:List (MSt×Value)),(∀ q∈sts,J8 W q)-> ∀ {β:Inj}{h:Heap},Ini β h W->
  ∃ (β':Inj)(h':Heap)(ps:List (MSt×Value)),Ini β' h' W/\β.le β'/\Ok h h'/\ps.length=sts.length/\ps.map (·.1)=sts.map (·.1)/\(∀ p∈ps,ArcRow h' p.2 p.1.arcs)/\
   ∀ (k:Nat) r r',(ps.map gG)[k]?=some r->(sts.map gG)[k]?=some r'->LRel β' r r'
 | [],_,β,h,i=>⟨β,h,[],i,β.le_refl,Ok.refl i.wf,rfl,rfl,fun _ hm=>absurd hm (by simp),fun k v q h=>absurd h (by simp)⟩
 | q::sts,hq,β,h,i=>by
  obtain ⟨r,_⟩:=hq q (mem_cons_self ..);obtain ⟨β1,h1,v,i1,l1,o1,r1,a1⟩:=i.row (e:=39) r (rs:=q.1.arcs.map aD) rfl (fun k r r' h1 h2=>by
    rw [h1] at h2;obtain rfl:=oI h2;rw [getElem?_map] at h1;obtain ⟨x,_,rfl⟩:=map_eq_some_iff.1 h1;exact LRel.of_bares (H6 x))
  obtain ⟨β2,h2,ps,i2,l2,o2,hl,hm,ha,hk⟩:=yO sts (fun q hm=>hq q (mem_cons_of_mem _ hm)) i1;refine ⟨β2,h2,(q.1,v)::ps,i2,Inj.le_trans l1 l2,o1.trans o2,by simp [hl],by simp [hm],fun p hp=> ?_,fun k v' q' g1 g2=> ?_⟩
  ·rcases mem_cons.1 hp with rfl | hp
   ·exact ArcRow.ok a1 o2
   ·exact ha p hp
  ·cases k with
   | zero=>
    simp only [List.map_cons,List.getElem?_cons_zero,Option.some.injEq] at g1 g2;subst g1; subst g2;exact Lr (r1.mono l2)
   | succ k=>exact hk k v' q' (by simpa using g1) (by simpa using g2)
theorem Ca {β:Inj}{h:Heap}(i:Ini β h W){v:Value}{sts:List (MSt×Value)}(r:xW W v 2 (sts.map gG))(hq: ∀ q∈sts,J8 W q)(hd: ∀ a,v = .slice (some a) 0 0->a.spot=none/\ ∃ cs t fr,W.heap[a.block]?=some (.cells cs t fr)):
  ∃ β' h' v',Ini β' h' W/\β.le β'/\Ok h h'/\VRel β' v' v/\StRow h' v' (sts.map (·.1)):=by
 obtain ⟨β1,h1,ps,i1,l1,o1,hl,hm,ha,hk⟩:=yO sts hq i;obtain ⟨β2,h2,v',i2,l2,o2,r2,a2,ne⟩:=i1.row_live (e:=37) (rs:=ps.map gG) r (by simp [hl]) hk hd;exact ⟨β2,h2,v',i2,Inj.le_trans l1 l2,o1.trans o2,r2,ps,hm,a2,fun p hp=>ArcRow.ok (ha p hp) o2,ne⟩
end
end
end Go.Proofs.YtoabjjimjldcfaaGreatDoor
end
section
namespace Go.Proofs.YtoabjjimjldcfaaGreatDoor
open Go Go.ChangeShapes Go.WideShapes Go.ChangeAt Go.RowKit
theorem Jx:ownKnob Tryz.prog.godebug=none:=by kernel_rfl
abbrev iC {H:Type}:List (String×DataW H):=[("math/bits.deBruijn32tab",Rows.laid_math_bits_deBruijn32tab),("math/bits.deBruijn64tab",Rows.laid_math_bits_deBruijn64tab),("internal/strconv.uint64pow10",Rows.laid_internal_strconv_uint64pow10)]
def NU:DataW Unit->Value
 | .lit (.int k n)=> .int k n
 | _=>undef
def wa:DataW Unit->Array Value
 | .agg l=>(l.map NU).toArray
 | _=> #[]
def I3 (c:Array Value):Obj->Obj
 | .cells _ t frozen=> .cells c t frozen
 | o=>o
noncomputable def yJ (os:Os):World:=
 { World.holding Tryz.prog os ⟨#[],#[],[]⟩ with heap:=(((World.holding Tryz.prog os ⟨#[],#[],[]⟩).heap.modify 2 (I3 (wa Rows.laid_math_bits_deBruijn32tab))).modify 3 (I3 (wa Rows.laid_math_bits_deBruijn64tab))).modify 1 (I3 (wa Rows.laid_internal_strconv_uint64pow10)) }
theorem wR (os:Os)(args:Array Value):laidMetH Tryz.prog iC ((yJ os).forCall (fun _ _=>0) ⟨#[],args,[]⟩).memory:=
 laidMetH_of_parts (laidMet_of_run' 24 (by kernel_rfl) (by kernel_rfl)) (by kernel_rfl)
end Go.Proofs.YtoabjjimjldcfaaGreatDoor
end
section
set_option linter.unusedVariables false
set_option maxRecDepth 100000
namespace Go.Proofs.YtoabjjimjldcfaaGreatDoor
open Go Go.Ab Go.ChangeShapes Go.WideShapes Go.RowKit
section
theorem uE {P:Program}{w:World}: ∀ {l:List (String×DataW Unit)}{ps:List MemPlace},DataW.LaidVars P w l ps-> ∀ n d,(n,d)∈l->
  ∃ g t cs fuel p,P.globalNamed n=some g/\(P.globals[g]?).map (·.type)=some t/\w.var? P n=some cs/\DataW.trod (fun _=>()) P w 0 (fun _=>true) false fuel t cs.toList=some (d,p)
 | [],_,_,_,_,hm=>by cases hm
 | (n',d')::r,ps,h,n,d,hm=>by
  obtain ⟨g,t,cs,fuel,p,q,h1,h2,h3,h4,h5,_⟩:=h;rcases mem_cons.1 hm with e | e
  ·cases e
   exact ⟨g,t,cs,fuel,p,h1,h2,h3,h4⟩
  ·exact uE h5 n d e
theorem K0:Rows.laid_internal_strconv_uint64pow10=(.agg ((List.range 20).map fun i=>(.lit (.int .u64 ((10 ^ i:Nat):Int)):DataW Unit)):DataW Unit):=by kernel_rfl
section
variable {W:World}
theorem Lw (hL:laidMetH Tryz.prog iC W): ∃ cs t fr,W.heap[1]?=some (.cells cs t fr)/\ ∀ β,CellsAt β Ba 0 cs:=by
 rw [MakeChecks.laidMetH_plain _ _ _ (by kernel_rfl)] at hL;obtain ⟨ps,hl,_⟩:=hL;obtain ⟨g,t,cs,fuel,p,hg,ht,hv,hd⟩:=uE hl "internal/strconv.uint64pow10" Rows.laid_internal_strconv_uint64pow10 (by simp [iC]);obtain rfl:=oI ((show Tryz.prog.globalNamed "internal/strconv.uint64pow10" = some 1 by kernel_rfl).symm.trans hg);obtain rfl:=oI ((show (Tryz.prog.globals[1]?).map (·.type)=some 185 by kernel_rfl).symm.trans ht);obtain ⟨xs,m,_,ex,_,hl,hel⟩:=DataW.trod_array Tryz.underlying185 hd;have e3:xs.map (·.1)=(List.range 20).map fun i=>(.lit (.int .u64 ((10 ^ i:Nat):Int)):DataW Unit):=by
  have:=(Prod.mk.inj ex).1.symm.trans K0;exact DataW.agg.inj this
 have hb: ∃ t fr,W.heap[1]?=some (.cells cs t fr):=by
  simp only [World.var?,hg,Option.bind_some] at hv;split at hv
  ·next c t fr hb=>obtain rfl:=oI hv; exact ⟨t,fr,hb⟩
  ·cases hv
 obtain ⟨t,fr,hb⟩:=hb;refine ⟨cs,t,fr,hb,fun β k v hk=> ?_⟩;have hlt:k < 20:=by
  have:=(List.getElem?_eq_some_iff.1 hk).1;simpa [Ba] using this
 have hv:v=uv (10 ^ k):=by
  simp [Ba,getElem?_range hlt] at hk;exact hk.symm
 have hE:=hel k hlt;rw [Pt,Nat.mul_one,gE (by omega)] at hE;obtain ⟨z,e1,e2,_⟩:=DataW.trod_int Tryz.underlying103 hE;have e4:(xs.map (·.1))[k]?=some (.lit (.int .u64 ((10 ^ k:Nat):Int))):=by rw [e3]; simp [getElem?_range hlt]
 rw [getElem?_map,gE (by omega:k < xs.length),e2] at e4;have hz:z=((10 ^ k:Nat):Int):=by
  simpa using e4
 subst hz;have:cs.toList[k]?=some (.int .u64 ((10 ^ k:Nat):Int)):=by
  have h0:((cs.toList.drop k).take 1)[0]?=some (.int .u64 ((10 ^ k:Nat):Int)):=by rw [e1]; rfl
  simpa using h0
 refine ⟨.int .u64 ((10 ^ k:Nat):Int),by simpa using this,?_⟩;rw [hv]; exact .int _ _
theorem MD (hL:laidMetH Tryz.prog iC W): ∃ β h,Ini β h W/\Gl Lf β/\Tab h:=by
 obtain ⟨cs,t,fr,hb,hc⟩:=Lw hL;refine ⟨_,_,(Qd 1 W).push hb (hc _),fun g hg=> ?_,t,false,Heap.get_push_same ⟨1,.nil⟩ _⟩;have:g=1:=by simpa [Lf] using hg
 subst this;exact ⟨_,Inj.ext_same _ _ _,rfl,rfl,rfl⟩
theorem JJ {base:Nat}{k s:Int}{ld:List UInt8}{v:Value}(hval:Value.okWide Tryz.prog W .any base 24 (.agg #[.int .i64 k,.int .i64 s,aa ld,v]))(a:Addr)(e:v = .slice (some a) 0 0):a.spot=none/\ ∃ cs t fr,W.heap[a.block]?=some (.cells cs t fr):=by
 simp only [Value.okWide,Tryz.underlying24] at hval;obtain ⟨cs,hcs,_,ts,hts,_,hc⟩:=hval;obtain rfl:=Value.agg.inj hcs;obtain rfl:=oI ((show Tryz.prog.cellTypes Tryz.prog.depth 24=some [3,3,9,22] by kernel_rfl).symm.trans hts);obtain ⟨u,hu,hk⟩:=hc 3 v rfl;obtain rfl:22=u:=oI hu;subst e;simp only [Cell.okWide,Cell.ok,Tryz.underlying22] at hk;obtain ⟨_,_,_,hs,row,cells,hsh,_⟩:=hk;refine ⟨hs,?_⟩;unfold World.shape? at hsh;split at hsh
 ·next c t fr hb=>exact ⟨c,t,fr,hb⟩
 ·cases hsh
end
end
end Go.Proofs.YtoabjjimjldcfaaGreatDoor
end
section
set_option linter.unusedVariables false
set_option maxRecDepth 100000
namespace Go.Proofs.YtoabjjimjldcfaaGreatDoor
open Go Go.Ab
noncomputable def NP:FD:=bF Tryz.f46 []
theorem LU (a:OA)(n c:Nat)(h:Heap)(Q:VH)(hx:xN (dc SS.P 35 (.slice a n c)) h fun B1 g2=>Q (.func (.func 68) ⟨[]⟩ ⟨[(pA (h.next))]⟩) g2):FW SS 46 [(.slice a n c)] h Q:=bG NP Tryz.func46 (aj hx)
noncomputable def pU:FD:=bF Tryz.f68 [([1,0,0],[0,5,6,7])]
abbrev lB (ky:Nat)(a:OA)(n c:Nat)(i:Nat):LV:=[(.func (.yield ky) ⟨[]⟩ ⟨[]⟩),(.slice a n c),(iA n),(iA i)]
theorem Nc (ky kc:Nat)(h:Heap)(Q:VH)(hx:xL (ah SS.P 35 h (pA kc)) fun a1 n2 c3=>LL SS pU [1,0,0] [(.func (.yield ky) ⟨[]⟩ ⟨[]⟩),(.slice a1 n2 c3),(iA n2),(.int .i64 0)] h (KK SS pU [1,0] [] (EE SS pU Q))):FW SS 68 [(.func (.yield ky) ⟨[]⟩ ⟨[]⟩),(pA kc)] h Q:=bG pU Tryz.func68 (aj hx)
theorem tX (ky kc:Nat)(a:OA)(n c:Nat)(Inv:Nat->Nat->Heap->Prop)(Q:VH)(step: ∀ (mz:Nat) (i:Nat) (zz:Nat->Value) (h:Heap),Inv mz i h->au (decide (((i:Int):Int) < (n:Int))) (xP (ag SS.P 35 (.slice a n c) (iA i)) fun p4=>xA (ah SS.P 39 h (.pointer (some p4))) fun c5=>xN (aF SS.P 39) h fun B6 g7=>xU (ai SS.P 39 (pA (h.next)) (.agg ⟨c5⟩) g7) g7 fun u8 g9=>xA (ah SS.P 39 g9 (pA (h.next))) fun c10=>FW SS (YB+ky) [(.agg ⟨c10⟩)] g9 fun v11 h12=>yB v11 fun b13=>au (!b13) (Q (.tuple ⟨[]⟩) h12) (ax (fA (lB ky a n c) Inv) mz [(.func (.yield ky) ⟨[]⟩ ⟨[]⟩),(.slice a n c),(iA n),(.int .i64 (wrap .i64 ((i:Int)+1)))] h12)) (Q (.tuple ⟨[]⟩) h))(mz:Nat){i:Nat}{h:Heap}(hi:Inv mz i h):LL SS pU [1,0,0] (lB ky a n c i) h (KK SS pU [1,0] [] (EE SS pU Q)):=
 bH (lB ky a n c) Inv (fun mz i zz h hi=>aj (step mz i zz h hi)) mz hi
noncomputable def appSeq_F:FD:=bF Tryz.f81 []
theorem G9 (a:OA)(n c kc:Nat)(h:Heap)(Q:VH)(hx:xN (dc SS.P 35 (.slice a n c)) h fun B1 g2=>RG SS appSeq_F [1,0,1,0] [(.slice a n c),(.func (.func 68) ⟨[]⟩ ⟨[(pA kc)]⟩),(pA (h.next)),undef,nA,undef,(.func (.func 68) ⟨[]⟩ ⟨[(pA kc)]⟩),undef,undef,undef,undef,undef,undef] g2 (KK SS appSeq_F [1,0,1,0] [] (EE SS appSeq_F Q))):FW SS 81 [(.slice a n c),(.func (.func 68) ⟨[]⟩ ⟨[(pA kc)]⟩)] h Q:=bG appSeq_F Tryz.func81 (aj hx)
theorem wM {ks:Nat}{x0 x1 x3 x4 x5 x6 x7 x8 x9 x10 x11 x12:Value}{h:Heap}{Q:VH}(hx:xL (ah SS.P 35 h (pA ks)) fun a1 n2 c3=>Q (.slice a1 n2 c3) h):(KK SS appSeq_F [1,0,1,0] [] (EE SS appSeq_F Q)) .normal [x0,x1,(pA ks),x3,x4,x5,x6,x7,x8,x9,x10,x11,x12] h:=aj hx
theorem w7 {ks:Nat}{q:LV}{x0 x1 x3 x4 x5 x6 x8 x9 x10 x11 x12:Value}{h:Heap}{Q:cB}(hx:xN (aF SS.P 39) h fun B1 g2=>xU (ai SS.P 39 (pA (h.next)) (.agg ⟨q⟩) g2) g2 fun u3 g4=>Q .normal [x0,x1,(pA ks),x3,x4,(pA (h.next)),x6,(.agg ⟨q⟩),x8,x9,x10,x11,x12] g4):TT SS appSeq_F [1,0,1,0,0] [x0,x1,(pA ks),x3,x4,x5,x6,(.agg ⟨q⟩),x8,x9,x10,x11,x12] h Q:=aj hx
theorem xh {ks kv:Nat}{x0 x1 x3 x4 x6 x7 x8 x9 x10 x11 x12:Value}{h:Heap}{Q:cB}(hx:xL (ah SS.P 35 h (pA ks)) fun a1 n2 c3=>xA (ah SS.P 39 h (pA kv)) fun c4=>xR (ak SS.P 35 1 [(0,(.agg ⟨c4⟩))]) h fun B5 n6 c7 g8=>xE (ay SS.P 35 35 (.slice a1 n2 c3) (sA (h.next) n6 c7) g8) g8 fun a9 n10 c11 u12 g13=>xU (ai SS.P 35 (pA ks) (.slice a9 n10 c11) g13) g13 fun u14 g15=>Q .normal [x0,x1,(pA ks),x3,x4,(pA kv),x6,x7,(.slice a1 n2 c3),(.agg ⟨c4⟩),(sA (h.next) n6 c7),(.slice a9 n10 c11),x12] g15):TT SS appSeq_F [1,0,1,0,1] [x0,x1,(pA ks),x3,x4,(pA kv),x6,x7,x8,x9,x10,x11,x12] h Q:=aj hx
noncomputable def N6:FD:=bF Tryz.f67 []
theorem LG (kc:Nat)(h:Heap)(Q:VH)(hx:FW SS 81 [nA,(.func (.func 68) ⟨[]⟩ ⟨[(pA kc)]⟩)] h fun v1 h2=>yL v1 fun a3 n4 c5=>Q (.slice a3 n4 c5) h2):FW SS 67 [(.func (.func 68) ⟨[]⟩ ⟨[(pA kc)]⟩)] h Q:=bG N6 Tryz.func67 (aj hx)
noncomputable def GG:FD:=bF Tryz.f45 []
theorem Ev (kc:Nat)(h:Heap)(Q:VH)(hx:FW SS 67 [(.func (.func 68) ⟨[]⟩ ⟨[(pA kc)]⟩)] h fun v1 h2=>yL v1 fun a3 n4 c5=>FW SS 48 [(.slice a3 n4 c5),(.func (.func 47) ⟨[]⟩ ⟨[]⟩)] h2 fun v6 h7=>v6=(.tuple ⟨[]⟩)/\Q (.slice a3 n4 c5) h7):FW SS 45 [(.func (.func 68) ⟨[]⟩ ⟨[(pA kc)]⟩),(.func (.func 47) ⟨[]⟩ ⟨[]⟩)] h Q:=bG GG Tryz.func45 (aj hx)
noncomputable def aS:FD:=bF Tryz.f25 [([1,1,1,1,1,0,1,0,0],[1,2,4,5,6]),([1,1,1,1,1,0,1,0,0,1,0,0,1,0,0],[1,2,4,5,6,43,44,45]),([1,1,1,1,1,1,1,0,1,0,0],[2,67,68,69])]
abbrev cw (k k2 ke:Nat)(i:Nat)(t:OA)(tn tc:Nat):LV:=[(pA k),(pA k2),(.slice t tn tc),(.map (some ke)),(iA i)]
abbrev dN (k k2 ke:Nat)(b:OA)(m d i:Nat)(j:Nat)(t:OA)(tn tc:Nat):LV:=[(pA k),(pA k2),(.slice t tn tc),(.map (some ke)),(iA i),(.slice b m d),(iA m),(iA j)]
abbrev fc (k2:Nat)(a:OA)(n c:Nat)(i:Nat):LV:=[(pA k2),(.slice a n c),(iA n),(iA i)]
theorem Ik (mv:LV)(h:Heap)(Q:VH)(hx:xN (dc SS.P 24 (.agg ⟨mv⟩)) h fun B1 g2=>xN (aF SS.P 24) g2 fun B3 g4=>xA (ah SS.P 24 g4 (pA (h.next))) fun c5=>FW SS 23 [(.agg ⟨c5⟩)] g4 fun v6 h7=> ∃ cs8:LV,∃ n9:Int,v6=(.tuple ⟨[(.agg ⟨cs8⟩),(.int .i64 n9)]⟩)/\xU (ai SS.P 24 (pA (h.next)) (.agg ⟨cs8⟩) h7) h7 fun u10 g11=>au (((n9:Int) != 0)) (xA (aI SS.P 24 []) fun c12=>xU (ai SS.P 24 (pA (g2.next)) (.agg ⟨c12⟩) g11) g11 fun u13 g14=>cX SS [((pA (g2.next)),some 24),((.int .i64 n9),none)] g14 Q) (xP (af SS.P 24 (pA (h.next)) 1) fun p15=>xI .i64 (ah SS.P 3 g11 (.pointer (some p15))) fun n16=>xR (ak SS.P 48 1 [(0,(.int .i64 n16))]) g11 fun B17 n18 c19 g20=> ∃ B21:Blk,qi SS.P 45=some (B21,fun k=> .map (some k))/\xP (af SS.P 24 (pA (h.next)) 1) fun p22=>xI .i64 (ah SS.P 3 (g20.push B21) (.pointer (some p22))) fun n23=>xU (iT SS.P 45 (.map (some g20.next)) (.int .i64 n23) (.bool true) (g20.push B21)) (g20.push B21) fun u24 g25=>LL SS aS [1,1,1,1,1,0,1,0,0] (cw (h.next) (g2.next) (g20.next) 0 (some ⟨g11.next,0,none⟩) n18 c19) g25 (KK SS aS [1,1,1,1,1,0,1,0] [] (EE SS aS Q)))):FW SS 25 [(.agg ⟨mv⟩)] h Q:=bG aS Tryz.func25 (aj hx)
theorem qw (mv:LV)(k k2 ke:Nat)(Inv:Nat->Nat->OA->Nat->Nat->Heap->Prop)(Q:VH)(step: ∀ (mz:Nat) (i:Nat) (t:OA) (tn tc:Nat) (zz:Nat->Value) (h:Heap),Inv mz i t tn tc h->au (decide (((i:Int):Int) < (tn:Int))) (xP (af SS.P 24 (pA k) 3) fun p26=>xL (ah SS.P 22 (room h 13) (.pointer (some p26))) fun a27 n28 c29=>xP (ag SS.P 48 (.slice t tn tc) (iA i)) fun p30=>xI .i64 (ah SS.P 3 (room h 13) (.pointer (some p30))) fun n31=>xP (ag SS.P 22 (.slice a27 n28 c29) (.int .i64 n31)) fun p32=>xP (af SS.P 37 (.pointer (some p32)) 1) fun p33=>xL (ah SS.P 35 (room h 13) (.pointer (some p33))) fun a34 n35 c36=>FW SS 46 [(.slice a34 n35 c36)] (room h 13) fun v37 h38=>yF v37 fun g39 a40 c41=>FW SS 45 [(.func (.func g39) ⟨a40⟩ ⟨c41⟩),(.func (.func 47) ⟨[]⟩ ⟨[]⟩)] h38 fun v42 h43=>yL v42 fun a44 n45 c46=>LL SS aS [1,1,1,1,1,0,1,0,0,1,0,0,1,0,0] (dN k k2 ke a44 n45 c46 i 0 t tn tc) h43 (KK SS aS [1,0,0,1,0] [1,1,1,1,1,0,1,0,0] (RR aS [1,1,1,1,1,0,1,0,0] (kY (cw k k2 ke) Inv) mz (KK SS aS [1,1,1,1,1,0,1,0] [] (EE SS aS Q))))) (xA (ah SS.P 24 h (pA k)) fun c47=>FW SS 43 [(.agg ⟨c47⟩),(.slice t tn tc)] h fun v48 h49=>yA v48 fun c50=>xU (ai SS.P 24 (pA k2) (.agg ⟨c50⟩) h49) h49 fun u51 g52=>xP (af SS.P 24 (pA k2) 3) fun p53=>xL (ah SS.P 22 g52 (.pointer (some p53))) fun a54 n55 c56=>LL SS aS [1,1,1,1,1,1,1,0,1,0,0] (fc k2 a54 n55 c56 0) g52 (KK SS aS [1,1,1,1,1,1,1,0,1,0] [] (EE SS aS Q))))(mz:Nat){i:Nat}{t:OA}{tn tc:Nat}{h:Heap}(hi:Inv mz i t tn tc h):LL SS aS [1,1,1,1,1,0,1,0,0] (cw k k2 ke i t tn tc) h (KK SS aS [1,1,1,1,1,0,1,0] [] (EE SS aS Q)):=
 jW (cw k k2 ke) Inv (fun mz i t tn tc zz h hi=>aj (step mz i t tn tc zz h hi)) mz hi
theorem qA (mv:LV)(k k2 ke:Nat)(b:OA)(m d:Nat)(Inv:Nat->Nat->OA->Nat->Nat->Heap->Prop)(mz i:Nat)(Inv2:Nat->Nat->OA->Nat->Nat->Heap->Prop)(Q:VH)(step: ∀ (mz2:Nat) (j:Nat) (t:OA) (tn tc:Nat) (zz:Nat->Value) (h:Heap),Inv2 mz2 j t tn tc h->au (decide (((j:Int):Int) < (m:Int))) (xP (ag SS.P 35 (.slice b m d) (iA j)) fun p57=>xA (ah SS.P 39 h (.pointer (some p57))) fun c58=>xN (aF SS.P 39) h fun B59 g60=>xU (ai SS.P 39 (pA (h.next)) (.agg ⟨c58⟩) g60) g60 fun u61 g62=>xP (af SS.P 39 (pA (h.next)) 3) fun p63=>xI .i64 (ah SS.P 3 g62 (.pointer (some p63))) fun n64=>xB (Fg SS.P 45 (.map (some ke)) (.int .i64 n64) false g62) fun b65=>au (!b65) (xP (af SS.P 39 (pA (h.next)) 3) fun p66=>xI .i64 (ah SS.P 3 g62 (.pointer (some p66))) fun n67=>xU (iT SS.P 45 (.map (some ke)) (.int .i64 n67) (.bool true) g62) g62 fun u68 g69=>xP (af SS.P 39 (pA (h.next)) 3) fun p70=>xI .i64 (ah SS.P 3 g69 (.pointer (some p70))) fun n71=>xR (ak SS.P 48 1 [(0,(.int .i64 n71))]) g69 fun s8 n73 c74 g75=>xE (ay SS.P 48 48 (.slice t tn tc) (sA (g69.next) n73 c74) g75) g75 fun a76 n77 c78 u79 g80=>ax (kY (dN k k2 ke b m d i) Inv2) mz2 [(pA k),(pA k2),(.slice a76 n77 c78),(.map (some ke)),(iA i),(.slice b m d),(iA m),(.int .i64 (wrap .i64 ((j:Int)+1)))] g80) (ax (kY (dN k k2 ke b m d i) Inv2) mz2 [(pA k),(pA k2),(.slice t tn tc),(.map (some ke)),(iA i),(.slice b m d),(iA m),(.int .i64 (wrap .i64 ((j:Int)+1)))] g62)) (ax (kY (cw k k2 ke) Inv) mz [(pA k),(pA k2),(.slice t tn tc),(.map (some ke)),(.int .i64 (wrap .i64 ((i:Int)+1)))] h))(mz2:Nat){j:Nat}{t:OA}{tn tc:Nat}{h:Heap}(hi:Inv2 mz2 j t tn tc h):LL SS aS [1,1,1,1,1,0,1,0,0,1,0,0,1,0,0] (dN k k2 ke b m d i j t tn tc) h (KK SS aS [1,0,0,1,0] [1,1,1,1,1,0,1,0,0] (RR aS [1,1,1,1,1,0,1,0,0] (kY (cw k k2 ke) Inv) mz (KK SS aS [1,1,1,1,1,0,1,0] [] (EE SS aS Q)))):=
 jW (dN k k2 ke b m d i) Inv2 (fun mz2 j t tn tc zz h hi=>aj (step mz2 j t tn tc zz h hi)) mz2 hi
theorem qM (mv:LV)(k2:Nat)(a:OA)(n c:Nat)(Inv3:Nat->Nat->Heap->Prop)(Q:VH)(step: ∀ (mz3:Nat) (i:Nat) (zz:Nat->Value) (h:Heap),Inv3 mz3 i h->au (decide (((i:Int):Int) < (n:Int))) (xP (ag SS.P 22 (.slice a n c) (iA i)) fun p81=>xA (ah SS.P 37 h (.pointer (some p81))) fun c82=>xN (aF SS.P 37) h fun B83 g84=>xU (ai SS.P 37 (pA (h.next)) (.agg ⟨c82⟩) g84) g84 fun u85 g86=>xP (af SS.P 37 (pA (h.next)) 1) fun p87=>xL (ah SS.P 35 g86 (.pointer (some p87))) fun a88 n89 c90=>FW SS 48 [(.slice a88 n89 c90),(.func (.func 47) ⟨[]⟩ ⟨[]⟩)] g86 fun v91 h92=>v91=(.tuple ⟨[]⟩)/\ax (fA (fc k2 a n c) Inv3) mz3 [(pA k2),(.slice a n c),(iA n),(.int .i64 (wrap .i64 ((i:Int)+1)))] h92) (xA (ah SS.P 24 h (pA k2)) fun c93=>xU (ai SS.P 24 (pA k2) (.agg ⟨c93⟩) h) h fun u94 g95=>cX SS [((pA k2),some 24),((.int .i64 0),none)] g95 Q))(mz3:Nat){i:Nat}{h:Heap}(hi:Inv3 mz3 i h):LL SS aS [1,1,1,1,1,1,1,0,1,0,0] (fc k2 a n c i) h (KK SS aS [1,1,1,1,1,1,1,0,1,0] [] (EE SS aS Q)):=
 bH (fc k2 a n c) Inv3 (fun mz3 i zz h hi=>aj (step mz3 i zz h hi)) mz3 hi
section
theorem PB:SS.pr 48=some (Co 47 4 Io):=by kernel_rfl
abbrev PR:Value:= .func (.func 47) ⟨[]⟩ ⟨[]⟩
theorem A0 {h0 h:Heap}(w0:Wf h0)(ok:Ok h0 h){v:Value}{l:List MArc}(o:OwnK h0 h 39 4 v (l.map aD))(hl:l.length<=100000):FW SS 48 [v,PR] h (fun r h'=>r = .tuple ⟨[]⟩/\OwnK h0 h' 39 4 v ((cP l).map aD)/\Ok h0 h'/\(∀ j B,h.get j=some B->aG v≠some j->h'.get j=some B)/\h'.next=h.next):=by
 have hlen:(l.map aD).length=l.length:=lM ..;by_cases h0l:l.length=0
 ·obtain rfl:=eq_nil_of_length_eq_zero h0l;obtain ⟨a,c,rfl⟩:=o.slc;refine uh (h':=h) (v:= .tuple ⟨[]⟩) (by kernel_rfl) PB (fun cf=> ?_) ⟨rfl,o,ok,fun j B hj _=>hj,rfl⟩;rfl
 ·obtain ⟨hr,⟨_,he⟩ | ⟨k,off,cs,c,rfl,h2,h3,h4,h5,h6⟩⟩:=o
  ·exact absurd (by rw [<-hlen,he]; rfl) h0l
  rw [hlen] at h4 h6;have h7:=Nat.mul_le_mul_right 4 h6;have hF:((cP l).map aD).flatten.length=l.length*4:=by
   rw [ft (sz:=4) (fun r hr=>by obtain ⟨x,_,rfl⟩:=mem_map.1 hr; rfl),lM,jl]
  have hsl:((cP l).map aD).length=l.length:=by rw [lM,jl]
  refine uh (h':=h.set k (.cells (cs.take off++((cP l).map aD).flatten++cs.drop (off+l.length*4)) 39 4 true)) (v:= .tuple ⟨[]⟩) (by kernel_rfl) PB (fun cf=> ?_) ⟨rfl,⟨fun r hr=>by obtain ⟨x,_,rfl⟩:=mem_map.1 hr; rfl,.inr ⟨k,off,_,c,by rw [hlen,hsl],h2,by rw [Heap.get_set,if_pos rfl],?_,?_,by rw [hsl]; exact h6⟩⟩,ok.set _ h2 (ok.wf _ _ h3) w0,fun j B hj hne=> ?_,rfl⟩
  ·rw [hlen];show (if 47=47 then (if l.length=0 then some (Value.tuple ⟨[]⟩,h) else match h.get k with
    | some (.cells cs t sz true)=>if l.length < 4611686018427387904/\off+l.length*4<=cs.length then (Io ((cs.drop off).take (l.length*4))).map fun cs'=>(Value.tuple ⟨[]⟩,h.set k (.cells (cs.take off++cs'++cs.drop (off+l.length*4)) t sz true)) else none
    | _=>none) else none)=_
   rw [if_pos rfl,if_neg h0l,h3];dsimp only;rw [if_pos (⟨Nat.lt_of_le_of_lt hl (by decide),by omega⟩:l.length < 4611686018427387904/\off+l.length*4<=cs.length),h4];unfold Io;rw [BZ]; rfl
  ·rw [hsl,append_assoc,List.drop_append,drop_eq_nil_of_le (by rw [length_take]; omega),List.nil_append,show off - (cs.take off).length=0 by rw [length_take]; omega,List.drop_zero,List.take_append_of_le_length (by omega),take_of_length_le (by omega)]
  ·rw [length_append,length_append,length_take,length_drop,hF]; omega
  ·rw [Heap.get_set,if_neg (fun e=>hne (by rw [e]; rfl))]; exact hj
theorem Ok.del {h0 h:Heap}(a:Ok h0 h){k:Nat}(hk:h0.next<=k)(w0:Wf h0):Ok h0 (h.del k):=by
 refine ⟨Heap.wf_del a.wf k,fun j B hj=> ?_,a.nx⟩;rw [Heap.get_del,if_neg (fun e=>by have:=w0 _ _ hj; omega)];exact a.ext _ _ hj
abbrev Gr (kc:Nat):Value:= .func (.func 68) ⟨[]⟩ ⟨[pA kc]⟩
abbrev RX (ks kc:Nat):List Value:=[nA,Gr kc,pA ks,undef,nA,undef,Gr kc,undef,undef,undef,undef,undef,undef]
theorem QI:lh (cZ [1,0,1,0,0] appSeq_F.body) (cZ [1,0,1,0,1] appSeq_F.body)=true:=by kernel_rfl
noncomputable def LB (st:LSt)(ks kc:Nat):Blk:= .loop st (RX ks kc) [7] (cZ [1,0,1,0,0] appSeq_F.body) (cZ [1,0,1,0,1] appSeq_F.body) QI
structure YI (hb g:Heap)(ks ky kc:Nat)(l:List MArc):Prop where
 ok:Ok hb g
 box: ∃ a n c,g.get ks=some (.cells [.slice a n c] 35 0 true)/\OwnK hb g 39 4 (.slice a n c) (l.map aD)/\ ∀ j,aG (.slice a n c)=some j->j≠ks/\j≠ky
 lp:g.get ky=some (LB .ready ks kc)
 gs:hb.next<=ks
 gy:hb.next<=ky
 ne:ks≠ky
theorem Nq (a:Option Addr)(n c:Nat):dc SS.P 35 (.slice a n c)=some (.cells [.slice a n c] 35 0 true,iy):=by cases a <;> kernel_rfl
section
variable {hb g:Heap} {ks ky kc:Nat} {l:List MArc}
theorem Jj (w:Wf hb)(yi:YI hb g ks ky kc l)(q:MArc)(hl:l.length<=100000):FW SS (YB+ky) [.agg ⟨aD q⟩] g (fun v g'=>v = .bool true/\YI hb g' ks ky kc (l++[q])):=by
 obtain ⟨ok,⟨a,n,c,hs,ow,ne⟩,lp,gs,gy,nk⟩:=yi;refine KV (X:=appSeq_F) (p:=[1,0,1,0]) (hc:=QI) lp rfl rfl (by kernel_rfl) (by kernel_rfl) ?_;obtain ⟨u,p1,o1,a1⟩:=oU ok.wf q;have hks:=ok.wf _ _ hs;have hky:=ok.wf _ _ lp;have ok1:=ok.trans o1;refine w7 (ks:=ks) (q:=aD q) ⟨_,xc,u,p1,?_⟩;have hs1:=o1.ext _ _ hs;have lp1:=o1.ext _ _ lp;have ow1:=ow.ok o1;have hn1:=o1.nx;have hkv:=ok1.wf _ _ a1;generalize hkvg:g.next=kv at *;generalize u.app (g.push CY)=g1 at *;refine ⟨rfl,lp1,?_⟩;have get2: ∀ j B,j≠ky->g1.get j=some B->(g1.set ky (LB .busy ks kc)).get j=some B:=fun j B hj hB=>by rw [Heap.get_set,if_neg hj]; exact hB
 have ok2:Ok hb (g1.set ky (LB .busy ks kc)):=ok1.set _ gy (by omega) w;have hs2:=get2 ks _ nk hs1;have a2:AB (g1.set ky (LB .busy ks kc)) kv q:=get2 kv _ (by omega) a1;have lp2:(g1.set ky (LB .busy ks kc)).get ky=some (LB .busy ks kc):=by rw [Heap.get_set,if_pos rfl]
 have ow2:=ow1.keep (h':=g1.set ky (LB .busy ks kc)) fun j B hj hB=>get2 j B (ne j hj).2 hB;have hn2:(g1.set ky (LB .busy ks kc)).next=g1.next:=rfl;show TT SS appSeq_F [1,0,1,0,1] _ (g1.set ky (LB .busy ks kc)) _;generalize g1.set ky (LB .busy ks kc)=g2 at *;have o3:=(Ok.refl ok2.wf).push (.cells (aD q) 39 4 true);have k3:=aq g2 (.cells (aD q) 39 4 true);obtain ⟨b',n',c',u4,h4,ow4,ok4,kp4,nw4,nx4⟩:=qu w (ok2.trans o3) (ow2.ok o3) k3 hl;have hs4:=kp4 ks _ (o3.ext _ _ hs2) (fun e=>(ne ks e).1 rfl);have lp4:=kp4 ky _ (o3.ext _ _ lp2) (fun e=>(ne ky e).2 rfl);have hn3:(g2.push (.cells (aD q) 39 4 true)).next=g2.next+1:=rfl;have st:=fB (t:=35) (i:=0) QC hs4 (by simp) (v:= .slice b' n' c') (by cases b' <;> rfl) (by cases b' <;> rfl);have ld:ah SS.P 35 g2 (pA ks)=some (.slice a n c):=cH tR Gv hs2 (by simp);refine xh (ks:=ks) (kv:=kv) ⟨a,n,c,ld,_,fJ F9 In pz a2 (by simp [aD]),_,_,_,Lo q,b',n',c',u4,h4,_,st,?_⟩;generalize u4.app (g2.push (.cells (aD q) 39 4 true))=g4 at *;dsimp only [Upd.app];refine ⟨?_,true,.ready,rfl,rfl,?_⟩
 ·rw [Heap.get_set,if_neg (Ne.symm nk)]; exact lp4
 have ne': ∀ j,aG (.slice b' n' c')=some j->j≠ks/\j≠ky:=fun j hj=>by
  rcases nw4 j hj with h | h
  ·omega
  ·exact ne j h
 have hks4:=ok4.wf _ _ hs4;have hky4:=ok4.wf _ _ lp4;refine ⟨(ok4.set _ gs hks4 w).set _ gy hky4 w,⟨b',n',c',?_,ow4.keep fun j B hj hB=> ?_,ne'⟩,?_,gs,gy,nk⟩
 ·rw [Heap.get_set,if_neg nk,Heap.get_set,if_pos rfl]; rfl
 ·rw [Heap.get_set,if_neg (ne' j hj).2,Heap.get_set,if_neg (ne' j hj).1]; exact hB
 ·show (Heap.set _ ky (LB .ready ks kc)).get ky=_;rw [Heap.get_set,if_pos rfl]
theorem Nb {a:Option Addr}{n c:Nat}{L:List MArc}(w:Wf hb)(yi:YI hb g ks ky kc [])(hc:hb.get kc=some (.cells [.slice a n c] 35 0 true))(r:ArcRow hb (.slice a n c) L)(hl:L.length<=100000):FW SS 68 [.func (.yield ky) ⟨[]⟩ ⟨[]⟩,pA kc] g (fun _ g'=>YI hb g' ks ky kc L):=by
 have hn:=r.len;have ld:ah SS.P 35 g (pA kc)=some (.slice a n c):=cH tR Gv (yi.ok.ext _ _ hc) (by simp);refine Nc ky kc g _ ⟨a,n,c,ld,?_⟩;refine tX ky kc a n c (fun mz i g=>i<=L.length/\mz=L.length - i/\YI hb g ks ky kc (L.take i)) _ (fun mz i=> ?_) L.length (i:=0) ⟨zero_le _,rfl,by simpa using yi⟩;clear ld yi;intros; rename_i gg hin;obtain ⟨f1,rfl,yi⟩:=hin;refine ae (fun q=> ?_) (fun q=> ?_)
 ·have q:=dT q;obtain ⟨x,hx⟩: ∃ x,L[i]?=some x:=⟨_,gE (by omega)⟩
  obtain ⟨b1,o1,d1,d2,_⟩:=(r.ok yi.ok).at_ hx;obtain ⟨u,p1,o2,a2⟩:=oU yi.ok.wf x;refine ⟨_,d1,_,d2,_,xc,u,p1,_,fJ F9 In pz a2 (by simp [aD]),?_⟩;have y2:YI hb (u.app (gg.push CY)) ks ky kc (L.take i):=by
   obtain ⟨ok,⟨a,n,c,hs,ow,ne⟩,lp,gs,gy,nk⟩:=yi;exact ⟨ok.trans o2,⟨a,n,c,o2.ext _ _ hs,ow.ok o2,ne⟩,o2.ext _ _ lp,gs,gy,nk⟩
  refine (Jj w y2 x (by rw [length_take]; omega)).mono ?_;rintro _ g3 ⟨rfl,y3⟩;refine ⟨_,rfl,ae (fun e=>by cases e) (fun _=> ?_)⟩;rw [az (n:=L.length) (by omega) (by omega)];refine bp (L.length - (i+1)) (by omega) ⟨by omega,rfl,?_⟩;rw [take_add_one,hx]; exact y3
 ·have q:=dF q;rw [take_of_length_le (by omega)] at yi;exact yi
theorem Ih {h:Heap}{a:Option Addr}{n c:Nat}{L:List MArc}(w:Wf h)(hc:h.get kc=some (.cells [.slice a n c] 35 0 true))(r:ArcRow h (.slice a n c) L)(hl:L.length<=100000):FW SS 81 [nA,Gr kc] h (fun v h'=>OwnK h h' 39 4 v (L.map aD)/\Ok h h'):=by
 refine G9 none 0 0 kc h _ ⟨_,Nq none 0 0,?_⟩;have o1:=(Ok.refl w).push (.cells [nA] 35 0 true);have k1:=aq h (.cells [nA] 35 0 true);have hn1:(h.push (.cells [nA] 35 0 true)).next=h.next+1:=rfl;generalize h.push (.cells [nA] 35 0 true)=g1 at *;refine O6 (f:= .tmp 6) (ps:= #[7]) (g:=68) (first:=[]) (cap:=[pA kc]) (hc:=QI) (by kernel_rfl) rfl rfl ⟨by unfold YB; decide,by kernel_rfl⟩ ?_;show FW SS 68 [.func (.yield g1.next) ⟨[]⟩ ⟨[]⟩,pA kc] (g1.push (LB .ready h.next kc)) _;have o2:=(Ok.refl o1.wf).push (LB .ready h.next kc);have k2:=aq g1 (LB .ready h.next kc);have yi:YI h (g1.push (LB .ready h.next kc)) h.next g1.next kc []:=⟨o1.trans o2,⟨none,0,0,o2.ext _ _ k1,OwnK.nil _ _ _ _,fun j e=>by cases e⟩,k2,le_refl _,by omega,by omega⟩
 refine (Nb w yi hc r hl).mono ?_;rintro v g3 ⟨ok,⟨a,n,c,hs,ow,ne⟩,lp,gs,gy,nk⟩;refine ⟨.normal,by rw [lp]; rfl,?_⟩;have ok3:Ok h (g3.del g1.next):=Ok.del ok gy w;have hs3:(g3.del g1.next).get h.next=some (.cells [.slice a n c] 35 0 true):=by rw [Heap.get_del,if_neg nk]; exact hs
 have ld:ah SS.P 35 (g3.del g1.next) (pA h.next)=some (.slice a n c):=cH tR Gv hs3 (by simp);exact wM (ks:=h.next) ⟨a,n,c,ld,ow.keep fun j B hj hB=>(by rw [Heap.get_del,if_neg (ne j hj).2]; exact hB),ok3⟩
theorem Mp {h:Heap}{a:Option Addr}{n c:Nat}{L:List MArc}(w:Wf h)(hc:h.get kc=some (.cells [.slice a n c] 35 0 true))(r:ArcRow h (.slice a n c) L)(hl:L.length<=100000):FW SS 67 [Gr kc] h (fun v h'=>OwnK h h' 39 4 v (L.map aD)/\Ok h h'):=by
 refine LG kc h _ ((Ih w hc r hl).mono ?_);rintro v g ⟨o,ok⟩;obtain ⟨a',c',rfl⟩:=o.slc;exact ⟨_,_,_,rfl,o,ok⟩
theorem C8 {h:Heap}{a:Option Addr}{n c:Nat}{L:List MArc}(w:Wf h)(hc:h.get kc=some (.cells [.slice a n c] 35 0 true))(r:ArcRow h (.slice a n c) L)(hl:L.length<=100000):FW SS 45 [Gr kc,PR] h (fun v h'=>OwnK h h' 39 4 v ((cP L).map aD)/\Ok h h'):=by
 refine Ev kc h _ ((Mp w hc r hl).mono ?_);rintro v g ⟨o,ok⟩;obtain ⟨a',c',rfl⟩:=o.slc;refine ⟨_,_,_,rfl,(A0 w ok o hl).mono ?_⟩;rintro v g' ⟨rfl,o2,ok2,_⟩;exact ⟨rfl,o2,ok2⟩
theorem Ll {h:Heap}{a:Option Addr}{n c:Nat}(w:Wf h):FW SS 46 [.slice a n c] h (fun v h'=>v=Gr h.next/\h'.get h.next=some (.cells [.slice a n c] 35 0 true)/\Ok h h'):=
 LU a n c h _ ⟨_,Nq a n c,rfl,aq h _,(Ok.refl w).push _⟩
end
end
section
theorem IS (k:Int): ∀ l:List Int,oZ SS.P 3 (.int .i64 k) (l.map km)=some (if k∈l then some (.bool true) else none)
 | []=>rfl
 | x::l=>by
  show (match qP SS.P 3 (.int .i64 k) (.int .i64 x) with | some true=>some (some (Value.bool true)) | some false=>oZ SS.P 3 (.int .i64 k) (l.map km) | none=>none)=_;rw [Ky];by_cases h:k=x
  ·subst h;rw [if_pos (mem_cons_self ..)];simp
  ·rw [show decide (k=x)=false by simpa using h];dsimp only;rw [IS k l];by_cases h2:k∈l
   ·rw [if_pos h2,if_pos (mem_cons_of_mem _ h2)]
   ·rw [if_neg h2,if_neg (fun e=>by rcases mem_cons.1 e with e | e; exact h e; exact h2 e)]
theorem Q6:cF SS.P 4=some (.bool false):=by kernel_rfl
theorem OJ {h:Heap}{k:Nat}{l:List Int}(hk:h.get k=some (.map (l.map km)))(x:Int):Fg SS.P 45 (.map (some k)) (.int .i64 x) false h=some (.bool (decide (x∈l))):=by
 unfold Fg aV;dsimp only;rw [N7];show (match (match h.get k with | some (.map es)=>some es | _=>none),cF SS.P 4 with
  | some es,some z=>if j8 SS.P 3 (.int .i64 x) then match oZ SS.P 3 (.int .i64 x) es with
   | some (some v)=>some v
   | some none=>some z
   | none=>none else none
  | _,_=>none)=_
 rw [hk,Q6]; dsimp only;rw [show j8 SS.P 3 (.int .i64 x)=true by kernel_rfl,if_pos rfl,IS];by_cases h:x∈l
 ·rw [if_pos h]; simp [h]
 ·rw [if_neg h]; simp [h]
structure MI (hb:Heap)(ke:Nat)(ord:List Nat)(g:Heap):Prop where
 row:g.get ke=some (.map ((ord.map fun x:Nat=>(x:Int)).map km))
 new:hb.next<=ke
 ok:Ok hb g
theorem MI.trans {hb:Heap}{ke:Nat}{ord:List Nat}{g g':Heap}(m:MI hb ke ord g)(o:Ok g g'):MI hb ke ord g':=⟨o.ext _ _ m.row,m.new,m.ok.trans o⟩
theorem ordI_mem {ord:List Nat}{Y:Nat}:(Y:Int)∈ord.map (fun x:Nat=>(x:Int))↔Y∈ord:=by
 rw [mem_map];constructor
 ·rintro ⟨a,h1,h2⟩;obtain rfl:a=Y:=by omega
  exact h1
 ·exact fun h=>⟨Y,h,rfl⟩
theorem IP {ord:List Nat}{Y:Nat}(h:Y ∉ ord):kN (ord.map fun x:Nat=>(x:Int)) (Y:Int)=(ord++[Y]).map fun x:Nat=>(x:Int):=by
 unfold kN;rw [if_neg (fun e=>h (ordI_mem.1 e)),map_append]; rfl
def Rk (hb:Heap)(ke:Nat)(b:Option Addr)(m d:Nat)(l:List MArc)(ord0:List Nat)(mz3 j:Nat)(t:Option Addr)(tn tc:Nat)(g:Heap):Prop:=j<=l.length/\mz3=l.length - j/\OwnG hb g 3 (.slice t tn tc) (((l.take j).foldl fZ ord0).map iv)/\MI hb ke ((l.take j).foldl fZ ord0) g/\OwnK hb g 39 4 (.slice b m d) (l.map aD)/\(∀ j,aG (.slice b m d)=some j->j≠ke/\aG (.slice t tn tc)≠some j)/\ ∀ j,aG (.slice t tn tc)=some j->ke≠j
def P9 (hb:Heap)(M:Mach)(N ke:Nat)(mz i:Nat)(t:Option Addr)(tn tc:Nat)(g:Heap):Prop:= ∃ ord:List Nat,OrdOk N ord/\i<=ord.length/\mz=N - i/\sK M (N+1 - i) i ord=jQ M/\OwnG hb g 3 (.slice t tn tc) (ord.map iv)/\MI hb ke ord g/\ ∀ j,aG (.slice t tn tc)=some j->ke≠j
section
variable {M:Mach} {b:Option Addr} {m d:Nat}
theorem CC {hb gS:Heap}(w:Wf hb)(gd:Good M)(hN:M.states.length<=300){ke k k2:Nat}{l:List MArc}(hl: ∀ q∈l,ArcIn M.states.length q)(hll:l.length<=100000){ord0:List Nat}(oo:OrdOk M.states.length ord0){i:Nat}(hi:i < ord0.length)(hg:sK M (M.states.length+1 - (i+1)) (i+1) (l.foldl fZ ord0)=jQ M){t:Option Addr}{tn tc:Nat}(hin:Rk hb ke b m d l ord0 l.length 0 t tn tc gS)(Q:VH):
  LL SS aS [1,1,1,1,1,0,1,0,0,1,0,0,1,0,0] (dN k k2 ke b m d i 0 t tn tc) gS (KK SS aS [1,0,0,1,0] [1,1,1,1,1,0,1,0,0] (RR aS [1,1,1,1,1,0,1,0,0] (kY (cw k k2 ke) (P9 hb M M.states.length ke)) (M.states.length - i) (KK SS aS [1,1,1,1,1,0,1,0] [] (EE SS aS Q)))):=by
 refine qA [] k k2 ke b m d (P9 hb M M.states.length ke) (M.states.length - i) i (Rk hb ke b m d l ord0) Q (fun mz3 j=> ?_) l.length (j:=0) hin;clear hin t tn tc;intro t tn tc;intros; rename_i g hin;obtain ⟨f1,rfl,ot,mi,ar,nb,nt⟩:=hin;have okj:OrdOk M.states.length ((l.take j).foldl fZ ord0):=re oo fun q hq=>by
  have h:=hl q (List.mem_of_mem_take hq);have h0:=h.t0;have h1:=h.t1;omega
 have hlen:=sM (l.take j) ord0;have hoN:=de M.states.length okj.nd okj.lt;have hoN0:=de M.states.length oo.nd oo.lt;have hml:m=l.length:=ArcRow.len ar.rd;refine ae (fun q1=> ?_) (fun q1=> ?_)
 ·have q1:=dT q1;have hj:j < l.length:=by omega
  obtain ⟨q,hq⟩: ∃ q,l[j]?=some q:=⟨_,gE hj⟩
  have hin:=hl q (List.mem_of_getElem? hq);obtain ⟨Y,hY⟩: ∃ Y:Nat,q.t=(Y:Int):=⟨q.t.toNat,by have:=hin.t0; omega⟩
  have hYt:q.t.toNat=Y:=by omega
  have ht:(l.take (j+1)).foldl fZ ord0=fZ ((l.take j).foldl fZ ord0) q:=by
   rw [take_add_one,hq,List.foldl_append]; rfl
  have hw:wrap .i64 ((j:Int)+1)=((j+1:Nat):Int):=az (n:=l.length) hj (by omega);obtain ⟨bb,o1,d1,d2,_⟩:=ArcRow.at_ ar.rd hq;generalize (l.take j).foldl fZ ord0=ord at *;obtain ⟨u,p1,o2,a2⟩:=oU mi.ok.wf q;have l3:=a2.l3;rw [hY] at l3;have mi2:=mi.trans o2;have ot2:=ot.ok o2;have ar2:=ar.ok o2;have hke:=mi.ok.wf _ _ mi.row;have hnx:=o2.nx;refine ⟨_,d1,_,d2,_,xc,u,p1,_,cE _ _,_,l3,_,OJ mi2.row _,?_⟩;generalize u.app (g.push CY)=g2 at *;rw [hw];refine ae (fun q2=> ?_) (fun q2=> ?_)
  ·have hne:Y ∉ ord:=fun e=>by
    rw [decide_eq_true (ordI_mem.2 e)] at q2; cases q2
   have up:=JG mi2.row (Y:Int);rw [IP hne] at up;refine ⟨_,cE _ _,_,l3,_,up,_,cE _ _,?_⟩;dsimp only [Upd.app];have mi3:MI hb ke (ord++[Y]) (g2.set ke (.map (((ord++[Y]).map fun x:Nat=>(x:Int)).map km))):=⟨by rw [Heap.get_set,if_pos rfl],mi.new,mi2.ok.set _ mi.new (by omega) w⟩
   have kp: ∀ (k':Nat)(B:Blk),k'≠ke->g2.get k'=some B->(g2.set ke (.map (((ord++[Y]).map fun x:Nat=>(x:Int)).map km))).get k'=some B:=fun k' B hne hB=>by rw [Heap.get_set,if_neg hne]; exact hB
   have ot3:=ot2.keep fun k' B hk' hB=>kp k' B (fun e=>nt k' hk' e.symm) hB;have ar3:=ar2.keep fun k' B hk' hB=>kp k' B (nb k' hk').1 hB;have a3:AB _ g.next q:=kp _ _ (by omega) a2;have l33:=a3.l3;rw [hY] at l33;have hn3:(g2.set ke (.map (((ord++[Y]).map fun x:Nat=>(x:Int)).map km))).next=g2.next:=rfl;generalize g2.set ke (.map (((ord++[Y]).map fun x:Nat=>(x:Int)).map km))=g3 at *;have oP:=(Ok.refl mi3.ok.wf).push (.cells [.int .i64 (Y:Int)] 3 1 true);have kP:=aq g3 (.cells [.int .i64 (Y:Int)] 3 1 true);have hn4:(g3.push (.cells [.int .i64 (Y:Int)] 3 1 true)).next=g3.next+1:=rfl;obtain ⟨b',n',c',u2,b1,b2,b3,b4,b5,b6,b7⟩:=xH w (mi3.ok.trans oP) (ot3.ok oP) kP (by rw [lM]; omega);refine ⟨_,l33,_,_,_,jR _,b',n',c',u2,b1,?_⟩;dsimp only;have hA:fZ ord q=ord++[Y]:=by unfold fZ; rw [hYt,if_neg hne]
   refine fG (l.length - (j+1)) (by omega) ⟨by omega,rfl,?_,?_,(ar3.ok oP).keep fun k' B hk' hB=>b5 _ _ hB (nb k' hk').2,fun k' hk'=>⟨(nb k' hk').1,fun e=> ?_⟩,fun k' hk'=> ?_⟩
   ·rw [ht,hA,map_append]; exact b3
   ·rw [ht,hA];exact ⟨b5 _ _ (oP.ext _ _ mi3.row) (fun e=>nt _ e rfl),mi3.new,b4⟩
   ·rcases b6 k' e with h | h
    ·have h1:=(ar.lt mi.ok.wf hk').1;omega
    ·exact (nb k' hk').2 h
   ·rcases b6 k' hk' with h | h
    ·omega
    ·exact nt k' h
  ·have hm:Y∈ord:=Classical.byContradiction fun e=>by
    rw [decide_eq_false (fun h=>e (ordI_mem.1 h))] at q2; cases q2
   have hA:fZ ord q=ord:=by unfold fZ; rw [hYt,if_pos hm]
   exact fG (l.length - (j+1)) (by omega) ⟨by omega,rfl,by rw [ht,hA]; exact ot2,by rw [ht,hA]; exact mi2,ar2,nb,nt⟩
 ·have q1:=dF q1;have e:l.take j=l:=take_of_length_le (by omega);rw [e] at ot mi okj hlen hoN;rw [az (n:=300) (by omega) (by omega)];exact fG (M.states.length - (i+1)) (by omega) ⟨_,okj,by omega,rfl,hg,ot,mi,nt⟩
end
end
section
theorem ML {hb g g':Heap}{v:Value}{ps:List (MSt×Value)}(m:OwnM hb g v ps){i:Nat}{p:MSt×Value}(hp:ps[i]?=some p)(kp: ∀ j B,g.get j=some B->aG p.2≠some j->g'.get j=some B)(ox:OwnK hb g' 39 4 p.2 ((cP p.1.arcs).map aD)):OwnM hb g' v (ps.set i (tq p.1,p.2)):=by
 have hi:=(List.getElem?_eq_some_iff.1 hp).1;have back: ∀ (j:Nat)(q:MSt×Value),(ps.set i (tq p.1,p.2))[j]?=some q-> ∃ q',ps[j]?=some q'/\q'.2=q.2/\(j≠i->q'=q)/\(j=i->q.1=tq p.1):=fun j q hq=>by
  rw [getElem?_set] at hq;split at hq
  ·next e=>
   subst e;obtain rfl:=oI hq;exact ⟨p,hp,rfl,fun h=>absurd rfl h,fun _=>rfl⟩
  ·next e=>exact ⟨q,hq,rfl,fun _=>rfl,fun h=>absurd h.symm e⟩
 refine ⟨?_,fun j q hq=> ?_,fun j q hq k hk=> ?_,fun j1 j2 q1 q2 hne h1 h2 k hk=> ?_⟩
 ·have e:(ps.set i (tq p.1,p.2)).map gG=ps.map gG:=by
   rw [map_set];refine List.ext_getElem? fun j=> ?_;rw [getElem?_set];split
   ·next e=>
    subst e;rw [getElem?_map,hp];simp [gG,tq,hi]
   ·rfl
  rw [e];exact m.row.keep fun k B hk hB=>kp k B hB fun e=>m.ne i p hp k e hk
 ·obtain ⟨q',h1,h2,h3,h4⟩:=back j q hq;by_cases e:j=i
  ·subst e;rw [h1] at hp;obtain rfl:=oI hp;rw [h4 rfl,<-h2];exact ox
  ·obtain rfl:=h3 e;exact (m.arcs j q' h1).keep fun k B hk hB=>kp k B hB fun e'=>m.dis i j p q' (Ne.symm e) hp h1 k e' hk
 ·obtain ⟨q',h1,h2,_⟩:=back j q hq;rw [<-h2] at hk;exact m.ne j q' h1 k hk
 ·obtain ⟨q1',a1,a2,_⟩:=back j1 q1 h1;obtain ⟨q2',b1,b2,_⟩:=back j2 q2 h2;rw [<-a2] at hk;rw [<-b2];exact m.dis j1 j2 q1' q2' hne a1 b1 k hk
section
variable {h:Heap} {a:Option Addr} {n c:Nat}
def RM (hb:Heap)(R:Mach)(k2:Nat)(a:Option Addr)(n c:Nat)(mz i:Nat)(g:Heap):Prop:=i<=R.states.length/\mz=R.states.length - i/\ ∃ ps,ps.map (·.1)=tV R.states i/\OwnM hb g (.slice a n c) ps/\Ok hb g/\g.get k2=some (.cells (aC R a n c) 24 0 true)/\aG (.slice a n c)≠some k2/\ ∀ (i:Nat)(p:MSt×Value),ps[i]?=some p->aG p.2≠some k2
theorem BX {g0:Heap}(w:Wf h){R:Mach}(hR:R.states.length<=300)(hA: ∀ s∈R.states,s.arcs.length<=2000){k2:Nat}(hk2:h.next<=k2){ps:List (MSt×Value)}(hps:ps.map (·.1)=R.states)(om:OwnM h g0 (.slice a n c) ps)(ok:Ok h g0)(hk:g0.get k2=some (.cells (aC R a n c) 24 0 true))(ne1:aG (.slice a n c)≠some k2)(ne2: ∀ (i:Nat) (p:MSt×Value),ps[i]?=some p->aG p.2≠some k2):
  LL SS aS [1,1,1,1,1,1,1,0,1,0,0] (fc k2 a n c 0) g0 (KK SS aS [1,1,1,1,1,1,1,0,1,0] [] (EE SS aS (oD h (rA R,0)))):=by
 refine qM [] k2 a n c (RM h R k2 a n c) _ (fun mz i=> ?_) R.states.length (i:=0) ⟨zero_le _,rfl,ps,by simpa [tV] using hps,om,ok,hk,ne1,ne2⟩;intros; rename_i g hin;clear hps om ok hk ne1 ne2 ps;obtain ⟨f1,rfl,ps,hps,om,ok,k2g,ne1,ne2⟩:=hin;have hn:n=R.states.length:=by
  have h1:=om.st.len;rw [hps] at h1;unfold tV at h1;rw [length_append,lM,length_take,length_drop] at h1;omega
 refine ae (fun q=> ?_) (fun q=> ?_)
 ·have q:=dT q;have hi:i < R.states.length:=by omega
  obtain ⟨s,hs⟩: ∃ s,R.states[i]?=some s:=⟨_,gE hi⟩
  obtain ⟨m1,m2⟩:=Fo hs;rw [<-hps,getElem?_map] at m1;obtain ⟨p,hp,rfl⟩:=map_eq_some_iff.1 m1;obtain ⟨k,off,c',e,hkb⟩:=om.row.blk (by rw [lM]; have:=(List.getElem?_eq_some_iff.1 hp).1; omega);injection e with e1 e2 e3
  obtain rfl:=e1;obtain ⟨x1,x2,x3⟩:=om.at_ hp;obtain ⟨x,z,hx⟩:=(om.arcs i p hp).slc;obtain ⟨u,t1,t2,t3⟩:=oX ok.wf p.1.f x (p.1.arcs.map aD).length z;unfold gG at x3;rw [hx] at x3;have hal:=hA _ (List.mem_of_getElem? hs);refine ⟨_,x1,_,x3,_,sD,u,t1,_,bm _ _,_,_,_,t3.l1,?_⟩;have om2:=om.ok t2;have ok2:=ok.trans t2;have k22:=t2.ext _ _ k2g;generalize u.app (g.push vr)=g2 at *;have oa:=om2.arcs i p hp;have sf:=A0 w ok2 oa (by omega);rw [hx] at sf;refine sf.mono ?_;rintro v g3 ⟨rfl,o3,ok3,kp,hn3⟩;refine ⟨rfl,?_⟩;rw [az hi (by omega)];rw [<-hx] at o3 kp;refine bp (R.states.length - (i+1)) (by omega) ⟨by omega,rfl,_,?_,ML om2 hp kp o3,ok3,kp _ _ k22 (ne2 i p hp),ne1,?_⟩
  ·rw [m2,map_set,hps]
  ·intro i' p' hp';rw [getElem?_set] at hp';split at hp'
   ·split at hp'
    ·obtain rfl:=oI hp';exact ne2 i p hp
    ·cases hp'
   ·exact ne2 i' p' hp'
 ·have q:=dF q;have he:ps.map (·.1)=(rA R).states:=by
   rw [hps]; unfold tV;rw [take_of_length_le (by omega),List.drop_of_length_le (by omega),append_nil]; rfl
  refine ⟨_,fJ wC vV ej k2g (by simp [aC]),_,bO (t:=24) ej (cs0:=aC R a n c) rfl k2g (cs:=aC R a n c) rfl (dK ..),?_⟩;obtain ⟨o5,k5⟩:=cG (cs:=aC R a n c) w ok k2g hk2;refine rH (v:= .agg ⟨aC R a n c⟩) (fJ wC vV ej k5 (by simp [aC])) ⟨a,n,c,ps,rfl,he,?_,o5⟩;have kq: ∀ j B,j≠k2->g.get j=some B->((Upd.set k2 (.cells (aC R a n c) 24 0 true)).app g).get j=some B:=fun j B hne hB=>by
   show (g.set k2 _).get j=_;rw [Heap.get_set,if_neg hne]; exact hB
  exact ⟨om.row.keep fun j B hj hB=>kq j B (fun e=>ne1 (by rw [<-e]; exact hj)) hB,fun i p hp=>(om.arcs i p hp).keep fun j B hj hB=>kq j B (fun e=>ne2 i p hp (by rw [<-e]; exact hj)) hB,om.ne,om.dis⟩
end
end
section
section
variable {h:Heap} {M:Mach} {a:Option Addr} {n c:Nat}
theorem Do {hb g0:Heap}(w:Wf h)(o:Ok h hb)(gd:Good M)(hN:M.states.length<=300)(hA: ∀ s∈M.states,s.arcs.length<=2000){k k2 ke:Nat}(mb:MB hb k M a n c)(hk:hb.get k2=some eG)(hk2:h.next<=k2){t:Option Addr}{tn tc:Nat}(hin:P9 hb M M.states.length ke M.states.length 0 t tn tc g0):
  LL SS aS [1,1,1,1,1,0,1,0,0] (cw k k2 ke 0 t tn tc) g0 (KK SS aS [1,1,1,1,1,0,1,0] [] (EE SS aS (oD h (rA (dP M (jQ M)),0)))):=by
 refine qw [] k k2 ke (P9 hb M M.states.length ke) _ (fun mz i=> ?_) M.states.length (i:=0) hin;clear hin t tn tc;intro t tn tc;intros; rename_i g hin;obtain ⟨ord,oo,f1,rfl,hg,ot,mi,nt⟩:=hin;have htn:=vK ot;have hoN:=de M.states.length oo.nd oo.lt;refine ae (fun q=> ?_) (fun q=> ?_)
 ·have q:=dT q;have hi:i < ord.length:=by omega
  obtain ⟨x,hx⟩: ∃ x,ord[i]?=some x:=⟨_,gE hi⟩
  have hxN:x < M.states.length:=oo.lt x (List.mem_of_getElem? hx);obtain ⟨s,hs⟩: ∃ s,M.states[x]?=some s:=⟨_,gE hxN⟩
  have hsm:=List.mem_of_getElem? hs;have hal:=hA s hsm;have oR:=(Ok.refl mi.ok.wf).room 13;have okR:=mi.ok.trans oR;obtain ⟨b,o1,x',y,z,e1,e2,e3,e4,ar⟩:=mb.row.at2 okR hs;obtain ⟨p,p1,p2⟩:=J0 (ot.ok oR).rd hx;refine ⟨_,aM _,_,_,_,(mb.ok okR).l3,_,p1,_,p2,_,e1,_,bm _ _,_,_,_,e4,(Ll okR.wf).mono ?_⟩;rintro _ gV ⟨rfl,kV,oV⟩;refine ⟨_,_,_,rfl,(C8 oV.wf kV (ar.ok (okR.trans oV)) (by omega)).mono ?_⟩;rintro v gS ⟨os,o2⟩;obtain ⟨y2,z2,rfl⟩:=os.slc;have okS:=oR.trans (oV.trans o2);have hf:M.states.length+1 - i=(M.states.length+1 - (i+1))+1:=by omega
  rw [hf,xV hx] at hg;unfold ry at hg;rw [uA hs] at hg;have hr:(Go.Ab.room g 13).next=g.next+13:=rfl;have hVn:=oV.nx;have hke:=mi.ok.wf _ _ mi.row;refine ⟨y2,_,z2,rfl,?_⟩;refine CC o.wf gd hN (l:=cP s.arcs) (fun q hq=>gd.arcs s hsm q (sortA_mem.1 hq)) (by rw [jl]; omega) oo hi hg ⟨zero_le _,rfl,ot.ok okS,mi.trans okS,os.base (okR.trans oV),fun j e=>⟨fun e'=> ?_,fun e'=> ?_⟩,nt⟩ _
  ·have h1:=(os.lt o2.wf e).2;omega
  ·have h1:=(os.lt o2.wf e).2;have h2:=(ot.lt mi.ok.wf e').1;omega
 ·have q:=dF q;have e:ord=jQ M:=by rw [<-hg,Bo (by omega)]
  rw [e] at ot mi hoN;have mbg:=mb.ok mi.ok;refine ⟨_,mbg.all,(E5 mi.ok.wf gd hN hA mbg.row ot.rd (ut gd)).mono ?_⟩;rintro v gR ⟨a',n',c',ps,rfl,hps,om,okR⟩;have kg:=mi.ok.ext _ _ hk;have kR:=okR.ext _ _ kg;have hkg:=mi.ok.wf _ _ kg;have okA:=(o.trans mi.ok).trans okR;have pa:=bO (t:=24) ej (cs0:=[.int .i64 0,.int .i64 0,aa [],.slice none 0 0]) rfl kR (cs:=aC (dP M (jQ M)) a' n' c') rfl (dK ..);obtain ⟨o6,k6⟩:=cG (cs:=aC (dP M (jQ M)) a' n' c') w okA kR hk2;refine ⟨_,rfl,_,pa,?_⟩;have ne1:aG (.slice a' n' c')≠some k2:=fun e=>by
   have:=(om.row.lt okR.wf e).2; omega
  have ne2: ∀ (i:Nat)(p:MSt×Value),ps[i]?=some p->aG p.2≠some k2:=fun i p hp e=>by
   have:=((om.arcs i p hp).lt okR.wf e).2; omega
  have om6:OwnM h ((Upd.set k2 (.cells (aC (dP M (jQ M)) a' n' c') 24 0 true)).app gR) (.slice a' n' c') ps:=om.low (o.trans mi.ok) fun j B hB hj=>by
   show (gR.set k2 _).get j=_;rw [Heap.get_set,if_neg (by omega)]; exact hB
  generalize (Upd.set k2 (.cells (aC (dP M (jQ M)) a' n' c') 24 0 true)).app gR=g6 at *;refine ⟨_,aM _,_,_,_,cH uU Dr k6 (by simp [aC]),?_⟩;have hn':n'=(dP M (jQ M)).states.length:=by
   have h1:=om6.st.len;rw [hps] at h1; exact h1
  exact BX w (R:=dP M (jQ M)) (by unfold dP; rw [lM]; omega) (ur hA) hk2 hps om6 o6 k6 ne1 ne2
theorem HZ (tb:Tab h)(w:Wf h)(sm:Small M)(r:StRow h (.slice a n c) M.states):FW SS 25 [.agg ⟨aC M a n c⟩] h (oD h (nF M)):=by
 obtain ⟨mb0,ok0⟩:=cD w r;refine Ik (aC M a n c) h _ ⟨_,ei M a n c,_,iU,?_⟩;have n0:h.next < (h.push (Bm M a n c)).next:=ok0.wf _ _ mb0.box;have tb0:=tb.ok ok0;generalize h.push (Bm M a n c)=g0 at *;have k4:=aq g0 eG;have o1:=(Ok.refl ok0.wf).push eG;have ok1:=ok0.trans o1;have mb1:=mb0.ok o1;have tb1:=tb0.ok o1;have hK1:g0.next < (g0.push eG).next:=ok1.wf _ _ k4;generalize g0.push eG=g1 at *;generalize g0.next=K at *;refine ⟨_,mb1.all,(vh tb1 ok1.wf sm mb1.row).mono ?_⟩;rintro _ g2 ⟨a',n',c',ps,rfl,hps,om,o2⟩;have ok2:=ok1.trans o2;have k42:=o2.ext _ _ k4;have mb2:=mb1.ok o2;have pa:=bO (t:=24) ej (cs0:=aC M a n c) rfl mb2.box (cs:=aC (bu M).1 a' n' c') rfl (dK ..);obtain ⟨o3,k3⟩:=cG (cs:=aC (bu M).1 a' n' c') w ok2 mb2.box (le_refl _);refine ⟨_,_,rfl,_,pa,?_⟩;have kp: ∀ (j:Nat)(B:Blk),h.next < j->g2.get j=some B->((Upd.set h.next (.cells (aC (bu M).1 a' n' c') 24 0 true)).app g2).get j=some B:=fun j B hj hB=>by
  show (g2.set h.next _).get j=_;rw [Heap.get_set,if_neg (by omega)]; exact hB
 have k43:=kp K _ (by omega) k42;have om3:OwnM h ((Upd.set h.next (.cells (aC (bu M).1 a' n' c') 24 0 true)).app g2) (.slice a' n' c') ps:=om.low ok1 fun j B hB hj=>kp j B (by omega) hB;generalize (Upd.set h.next (.cells (aC (bu M).1 a' n' c') 24 0 true)).app g2=g3 at *;refine ae (fun q=> ?_) (fun q=> ?_)
 ·have q:(bu M).2≠0:=by simpa using q
  rw [pO q];exact ⟨_,vT,ja w o3 k43 (by omega) (R:=(kK,(bu M).2)) (ps:=[]) rfl (OwnM.nil h g3) (Ok.refl w) (.inr ⟨rfl,rfl,rfl,rfl⟩)⟩
 have q:(bu M).2=0:=by simpa using q
 obtain ⟨gd,hN,hA⟩:=jC sm q;rw [sC q];generalize (bu M).1=T at *;have st3:=om3.st;rw [hps] at st3;have mb3:MB g3 h.next T a' n' c':=⟨k3,st3⟩
 obtain rfl:n'=T.states.length:=mb3.len;have h0:=gd.start0;have h1:=gd.start1;obtain ⟨S,hS⟩: ∃ S:Nat,T.start=(S:Int):=⟨T.start.toNat,by omega⟩
 have hSt:T.start.toNat=S:=by omega
 have hSn:S < T.states.length:=by omega
 have lS:=mb3.l1;rw [hS] at lS;refine ⟨_,dG _,_,lS,_,_,_,jR _,_,Nz,?_⟩;have oP:=(Ok.refl o3.wf).push (.cells [.int .i64 (S:Int)] 3 1 true);have kP:=aq g3 (.cells [.int .i64 (S:Int)] 3 1 true);have hn4:(g3.push (.cells [.int .i64 (S:Int)] 3 1 true)).next=g3.next+1:=rfl;generalize g3.push (.cells [.int .i64 (S:Int)] 3 1 true)=g4 at *;have oM:=(Ok.refl oP.wf).push (.map []);have kM:=aq g4 (.map []);have lS4:=(mb3.ok (oP.trans oM)).l1;rw [hS] at lS4;have up:=JG (l:=[]) kM (S:Int);refine ⟨_,dG _,_,lS4,_,up,?_⟩;dsimp only [Upd.app];have hn5:(g4.push (.map [])).next=g4.next+1:=rfl;have ok5:=oP.trans oM;have kP5:=oM.ext _ _ kP;have gt6: ∀ j B,j≠g4.next->(g4.push (.map [])).get j=some B->((g4.push (.map [])).set g4.next (.map ((kN [] (S:Int)).map km))).get j=some B:=fun j B hne hB=>by
  rw [Heap.get_set,if_neg hne]; exact hB
 have mi:MI g3 g4.next [S] ((g4.push (.map [])).set g4.next (.map ((kN [] (S:Int)).map km))):=⟨by rw [Heap.get_set,if_pos rfl]; rfl,by omega,ok5.set _ (by omega) (by omega) o3.wf⟩
 have og:OwnG g3 ((g4.push (.map [])).set g4.next (.map ((kN [] (S:Int)).map km))) 3 (.slice (some ⟨g3.next,0,none⟩) 1 1) ([S].map iv):=OwnG.built (gt6 _ _ (by omega) kP5) (le_refl _) (by show 1 < bi; decide);refine Do w o3 gd hN hA mb3 k43 (by omega) ⟨[S],⟨fun x hx=>by rw [mem_singleton.1 hx]; exact hSn,by simp⟩,zero_le _,rfl,?_,og,mi,fun j hj=> ?_⟩
 ·unfold jQ;rw [hSt]; rfl
 ·have e:g3.next=j:=oI hj;omega
end
end
noncomputable def Oz:FD:=bF Tryz.f4 []
theorem Ni (mv:LV)(kind:Int)(h:Heap)(Q:VH)(hx:xN (dc SS.P 24 (.agg ⟨mv⟩)) h fun B1 g2=>xA (ah SS.P 24 g2 (pA (h.next))) fun c3=>FW SS 8 [(.agg ⟨c3⟩)] g2 fun v4 h5=>yB v4 fun b6=>au b6 (FW SS 9 [] h5 fun v7 h8=>yB v7 fun b9=>Q (.bool b9) h8) (xA (ah SS.P 24 h5 (pA (h.next))) fun c10=>FW SS 22 [(.agg ⟨c10⟩)] h5 fun v11 h12=>yA v11 fun c13=>xN (aF SS.P 24) h12 fun B14 g15=>xU (ai SS.P 24 (pA (h12.next)) (.agg ⟨c13⟩) g15) g15 fun u16 g17=>xA (ah SS.P 24 g17 (pA (h.next))) fun c18=>FW SS 23 [(.agg ⟨c18⟩)] g17 fun v19 h20=> ∃ cs21:LV,∃ n22:Int,v19=(.tuple ⟨[(.agg ⟨cs21⟩),(.int .i64 n22)]⟩)/\xN (aF SS.P 24) h20 fun B23 g24=>xU (ai SS.P 24 (pA (h20.next)) (.agg ⟨cs21⟩) g24) g24 fun u25 g26=>xA (ah SS.P 24 g26 (pA (h12.next))) fun c27=>FW SS 24 [(.agg ⟨c27⟩)] g26 fun v28 h29=> ∃ cs30:LV,∃ n31:Int,v28=(.tuple ⟨[(.agg ⟨cs30⟩),(.int .i64 n31)]⟩)/\xN (aF SS.P 24) h29 fun B32 g33=>xU (ai SS.P 24 (pA (h29.next)) (.agg ⟨cs30⟩) g33) g33 fun u34 g35=>xA (ah SS.P 24 g35 (pA (h.next))) fun c36=>FW SS 25 [(.agg ⟨c36⟩)] g35 fun v37 h38=> ∃ cs39:LV,∃ n40:Int,v37=(.tuple ⟨[(.agg ⟨cs39⟩),(.int .i64 n40)]⟩)/\xN (aF SS.P 24) h38 fun B41 g42=>xU (ai SS.P 24 (pA (h38.next)) (.agg ⟨cs39⟩) g42) g42 fun u43 g44=>xA (ah SS.P 24 g44 (pA (h12.next))) fun c45=>FW SS 26 [(.agg ⟨c45⟩)] g44 fun v46 h47=> ∃ cs48:LV,∃ n49:Int,v46=(.tuple ⟨[(.agg ⟨cs48⟩),(.int .i64 n49)]⟩)/\xN (aF SS.P 24) h47 fun B50 g51=>xU (ai SS.P 24 (pA (h47.next)) (.agg ⟨cs48⟩) g51) g51 fun u52 g53=>FW SS 27 [(.int .i64 kind)] g53 fun v54 h55=> ∃ cs56:LV,∃ n57:Int,v54=(.tuple ⟨[(.agg ⟨cs56⟩),(.int .i64 n57)]⟩)/\xN (aF SS.P 24) h55 fun B58 g59=>xU (ai SS.P 24 (pA (h55.next)) (.agg ⟨cs56⟩) g59) g59 fun u60 g61=>FW SS 28 [(.int .i64 kind)] g61 fun v62 h63=> ∃ cs64:LV,∃ n65:Int,v62=(.tuple ⟨[(.agg ⟨cs64⟩),(.int .i64 n65)]⟩)/\xN (aF SS.P 24) h63 fun B66 g67=>xU (ai SS.P 24 (pA (h63.next)) (.agg ⟨cs64⟩) g67) g67 fun u68 g69=>au (((n22:Int) == n31)) (xA (ah SS.P 24 g69 (pA (h20.next))) fun c70=>xA (ah SS.P 24 g69 (pA (h29.next))) fun c71=>FW SS 29 [(.agg ⟨c70⟩),(.agg ⟨c71⟩)] g69 fun v72 h73=>yB v72 fun b74=>au b74 (au (((n40:Int) == n49)) (xA (ah SS.P 24 h73 (pA (h38.next))) fun c75=>xA (ah SS.P 24 h73 (pA (h47.next))) fun c76=>FW SS 29 [(.agg ⟨c75⟩),(.agg ⟨c76⟩)] h73 fun v77 h78=>yB v77 fun b79=>au b79 (au (((n57:Int) == n65)) (xA (ah SS.P 24 h78 (pA (h55.next))) fun c80=>xA (ah SS.P 24 h78 (pA (h63.next))) fun c81=>FW SS 29 [(.agg ⟨c80⟩),(.agg ⟨c81⟩)] h78 fun v82 h83=>yB v82 fun b84=>au b84 (xA (ah SS.P 24 h83 (pA (h.next))) fun c85=>xA (ah SS.P 24 h83 (pA (h12.next))) fun c86=>FW SS 29 [(.agg ⟨c85⟩),(.agg ⟨c86⟩)] h83 fun v87 h88=>yB v87 fun b89=>au b89 (FW SS 9 [] h88 fun v90 h91=>yB v90 fun b92=>Q (.bool b92) h91) (Q (.bool false) h88)) (Q (.bool false) h83)) (Q (.bool false) h78)) (Q (.bool false) h78)) (Q (.bool false) h73)) (Q (.bool false) h73)) (Q (.bool false) g69))):FW SS 4 [(.agg ⟨mv⟩),(.int .i64 kind)] h Q:=bG Oz Tryz.func4 (aj hx)
theorem I9 {M:Mach}(sm:Small M):(bu M).1.states.length<=300/\ ∀ s∈(bu M).1.states,s.arcs.length<=2000:=by
 by_cases q:(bu M).2=0
 ·exact ⟨(jC sm q).2.1,(jC sm q).2.2⟩
 ·have e:(bu M).1=kK:=by
   cases hv:bq M with
   | false=>rw [nJ hv]
   | true=>
    unfold bu at q ⊢;rw [if_pos hv] at q ⊢;split at q
    ·exact absurd rfl q
    ·next h=>
     rw [if_neg h];unfold ju at q ⊢;split at q
     ·exact absurd rfl q
     ·next h2=>rw [if_neg h2]
  rw [e];exact ⟨zero_le _,fun s hs=>by cases hs⟩
theorem G7 {M:Mach}(sm:Small M):(nF M).1.states.length<=300/\ ∀ s∈(nF M).1.states,s.arcs.length<=2000:=by
 by_cases q:(bu M).2=0
 ·obtain ⟨gd,hN,hA⟩:=jC sm q;have hb:=de _ (ut gd).nd (ut gd).lt;rw [sC q];refine ⟨?_,fun s hs=> ?_⟩
  ·show ((dP _ _).states.map _).length<=300;rw [lM];unfold dP;rw [lM]; omega
  ·obtain ⟨s',hs',rfl⟩:=mem_map.1 hs;show (cP s'.arcs).length<=2000;rw [jl];exact ur hA s' hs'
 ·rw [pO q];exact ⟨zero_le _,fun s hs=>by cases hs⟩
theorem M8 {h:Heap}(tb:Tab h)(w:Wf h){M:Mach}(bd:P4 M)(kind:Int){a:Option Addr}{n c:Nat}(r:StRow h (.slice a n c) M.states):FW SS 4 [.agg ⟨aC M a n c⟩,.int .i64 kind] h (fun v h'=>v = .bool true/\Ok h h'):=by
 obtain ⟨mb,ok⟩:=cD w r;refine Ni (aC M a n c) kind h _ ⟨_,ei M a n c,_,mb.all,(IN ok.wf bd mb.row).mono ?_⟩;generalize h.push (Bm M a n c)=g at *;rintro _ g2 ⟨b,rfl,hsm,o2⟩;have ok2:=ok.trans o2;have mb2:=mb.ok o2;refine ⟨_,rfl,ae (fun _=> ?_) (fun q=> ?_)⟩
 ·refine (Cw (tb.ok ok2) ok2.wf).mono ?_;rintro _ g3 ⟨rfl,o3⟩;exact ⟨_,rfl,rfl,ok2.trans o3⟩
 have sm:=hsm q;have h3:M.states.length<=100000:=le_trans sm.sts (by decide);have h4: ∀ s∈M.states,s.arcs.length<=100000:=fun s hs=>le_trans (sm.arcs s hs) (by decide);obtain ⟨tz1,tz2⟩:=I9 sm;obtain ⟨cz1,cz2⟩:=G7 sm;refine ⟨_,mb2.all,(Gf ok2.wf h3 h4 mb2.row).mono ?_⟩;rintro _ g3 ⟨a1,n1,c1,ps1,rfl,e1,om1,o3⟩;obtain ⟨u1,s1,p1,b1,om1⟩:=ic e1 om1 o3;refine ⟨_,rfl,_,iU,u1,s1,?_⟩;have ok4:=(ok2.trans o3).trans p1;have mb4:=mb2.ok (o3.trans p1);generalize u1.app (g3.push eG)=g4 at *;refine ⟨_,mb4.all,(vh (tb.ok ok4) ok4.wf sm mb4.row).mono ?_⟩;rintro _ g5 ⟨a2,n2,c2,ps2,rfl,e2,om2,o5⟩;obtain ⟨u2,s2,p2,b2,om2⟩:=ic e2 om2 o5;refine ⟨_,_,rfl,_,iU,u2,s2,?_⟩;have x6:=o5.trans p2;have ok6:=ok4.trans x6;have mb6:=mb4.ok x6;have b16:=b1.ok x6;have om16:=om1.ok x6;generalize u2.app (g5.push eG)=g6 at *;refine ⟨_,b16.all,(Bk ok6.wf sm b16.row).mono ?_⟩;rintro _ g7 ⟨a3,n3,c3,ps3,rfl,e3,om3,o7⟩;obtain ⟨u3,s3,p3,b3,om3⟩:=ic e3 om3 o7;refine ⟨_,_,rfl,_,iU,u3,s3,?_⟩;have x8:=o7.trans p3;have ok8:=ok6.trans x8;have mb8:=mb6.ok x8;have b18:=b16.ok x8;have om18:=om16.ok x8;have b28:=b2.ok x8;generalize u3.app (g7.push eG)=g8 at *;refine ⟨_,mb8.all,(HZ (tb.ok ok8) ok8.wf sm mb8.row).mono ?_⟩;rintro _ g9 ⟨a4,n4,c4,ps4,rfl,e4,om4,o9⟩;obtain ⟨u4,s4,p4,b4,om4⟩:=ic e4 om4 o9;refine ⟨_,_,rfl,_,iU,u4,s4,?_⟩;have x10:=o9.trans p4;have ok10:=ok8.trans x10;have mb10:=mb8.ok x10;have b1X:=b18.ok x10;have om1X:=om18.ok x10;have b2X:=b28.ok x10;have b3X:=b3.ok x10;have om3X:=om3.ok x10;generalize u4.app (g9.push eG)=g10 at *;refine ⟨_,b1X.all,(GJ ok10.wf sm b1X.row).mono ?_⟩;rintro _ g11 ⟨a5,n5,c5,ps5,rfl,e5,om5,o11⟩;obtain ⟨u5,s5,p5,b5,om5⟩:=ic e5 om5 o11;refine ⟨_,_,rfl,_,iU,u5,s5,?_⟩;have x12:=o11.trans p5;have ok12:=ok10.trans x12;have b4Y:=b4.ok x12;generalize u5.app (g11.push eG)=g12 at *;refine (mT kind ok12.wf).mono ?_;rintro _ g13 ⟨a6,n6,c6,ps6,rfl,e6,om6,o13⟩;obtain ⟨u6,s6,p6,b6,om6⟩:=ic e6 om6 o13;refine ⟨_,_,rfl,_,iU,u6,s6,?_⟩;have x14:=o13.trans p6;have ok14:=ok12.trans x14;generalize u6.app (g13.push eG)=g14 at *;refine (tC kind ok14.wf).mono ?_;rintro _ g15 ⟨a7,n7,c7,ps7,rfl,e7,om7,o15⟩;obtain ⟨u7,s7,p7,b7,om7⟩:=ic e7 om7 o15;refine ⟨_,_,rfl,_,iU,u7,s7,?_⟩;have x16:=o15.trans p7;have ok16:=ok14.trans x16;have y:=x12.trans (x14.trans x16);have mbE:=mb10.ok y;have b1E:=b1X.ok y;have om1E:=om1X.ok y;have b2E:=b2X.ok y;have b3E:=b3X.ok y;have om3E:=om3X.ok y;have b4E:=b4Y.ok (x14.trans x16);have b5E:=b5.ok (x14.trans x16);have om5E:=om5.ok (x14.trans x16);have b6E:=b6.ok x16;generalize u7.app (g15.push eG)=g16 at *;refine ae (fun _=> ?_) (fun q=>by simp at q);refine ⟨_,b2E.all,_,b3E.all,(m6 ok16.wf (le_trans tz1 (by decide)) (fun s hs=>le_trans (tz2 s hs) (by decide)) b2E.row om3E e3).mono ?_⟩;rintro _ g17 ⟨rfl,o17⟩;have ok17:=ok16.trans o17;refine ⟨_,rfl,ae (fun _=> ?_) (fun q=>by rw [iI rfl] at q; cases q)⟩;refine ae (fun _=> ?_) (fun q=>by simp at q);refine ⟨_,(b4E.ok o17).all,_,(b5E.ok o17).all,(m6 ok17.wf (le_trans cz1 (by decide)) (fun s hs=>le_trans (cz2 s hs) (by decide)) (b4E.ok o17).row (om5E.ok o17) e5).mono ?_⟩;rintro _ g18 ⟨rfl,o18⟩;have ok18:=ok17.trans o18;have z18:=o17.trans o18;refine ⟨_,rfl,ae (fun _=> ?_) (fun q=>by rw [iI rfl] at q; cases q)⟩;refine ae (fun _=> ?_) (fun q=>by simp at q);have nz:(ju kind).1.states.length<=100000/\ ∀ s∈(ju kind).1.states,s.arcs.length<=100000:=by
  unfold ju; split
  ·exact ⟨(show 1<=100000 by decide),fun s hs=>by rw [mem_singleton.1 hs]; exact zero_le _⟩
  ·exact ⟨zero_le _,fun s hs=>by cases hs⟩
 refine ⟨_,(b6E.ok z18).all,_,(b7.ok z18).all,(m6 ok18.wf nz.1 nz.2 (b6E.ok z18).row (om7.ok z18) e7).mono ?_⟩;rintro _ g19 ⟨rfl,o19⟩;have ok19:=ok18.trans o19;have z19:=z18.trans o19;refine ⟨_,rfl,ae (fun _=> ?_) (fun q=>by rw [iI rfl] at q; cases q)⟩;refine ⟨_,(mbE.ok z19).all,_,(b1E.ok z19).all,(m6 ok19.wf h3 h4 (mbE.ok z19).row (om1E.ok z19) e1).mono ?_⟩;rintro _ g20 ⟨rfl,o20⟩;have ok20:=ok19.trans o20;refine ⟨_,rfl,ae (fun _=> ?_) (fun q=>by rw [iI rfl] at q; cases q)⟩;refine (Cw (tb.ok ok20) ok20.wf).mono ?_;rintro _ g21 ⟨rfl,o21⟩;exact ⟨_,rfl,rfl,ok20.trans o21⟩
end Go.Proofs.YtoabjjimjldcfaaGreatDoor
end
section
set_option linter.unusedVariables false
set_option maxRecDepth 100000
namespace Go.Proofs.YtoabjjimjldcfaaGreatDoor
open Go Go.Ab Go.ChangeShapes Go.WideShapes Go.RowKit
section
section
variable {W:World}
theorem Ds {f:FuncId}{fn:Func}(hf:Tryz.prog.funcs[f]?=some fn)(hb:fn.body.isSome=true)(hY:f < YB){extra:List Value}(hx:extra.all pL=true)
  (hfw: ∀ {h:Heap}(_:Tab h)(_:Wf h){M:Mach}(_:P4 M){a:Option Addr}{n c:Nat}(_:StRow h (.slice a n c) M.states),FW SS f ([.agg ⟨aC M a n c⟩]++extra) h (fun v h'=>v = .bool true/\Ok h h'))
  {H:Type} {enc:TypeId×Value->H} {base:Nat} {v0:Value} {d0:DataW H} {p:List MemPlace} (hL:laidMetH Tryz.prog iC W) (hval:Value.okWide Tryz.prog W .any base 24 v0)
  (hd:DataW.Trod enc Tryz.prog W 0 (fun _=>true) true 24 v0 d0 p) (hw:(d0.weights Tryz.prog 24).all (· <=reachBytes)=true) {args:Array Value} (ha:args.toList=v0::extra):
  Calls Tryz.prog f args W fun e w'=>e = .returned (.bool true)/\Below W.heap.size W w':=by
 obtain ⟨cs,rfl,_⟩:=okWide_struct Tryz.underlying24 hval;obtain ⟨fuel,hd⟩:=hd;obtain ⟨k,s,ld,v,sts,hcs,hr,hq⟩:=Af hd hw;have hcs:cs = #[.int .i64 k,.int .i64 s,aa ld,v]:=by
  rw [<-Array.toList_inj]; exact hcs
 subst hcs;obtain ⟨β0',h0,i0,g0,t0⟩:=MD hL;obtain ⟨β1,h1,v',i1,l1,o1,r1,st1⟩:=Ca i0 hr hq (JJ hval);obtain ⟨ps,hps,hrd,_,_⟩:=id st1;obtain ⟨a,c,rfl⟩:=hrd.slc;have hfw:=hfw (M:=⟨k,s,ld,sts.map (·.1)⟩) (t0.ok o1) i1.wf (fun x hx=>by
  obtain ⟨q,hq',rfl⟩:=mem_map.1 hx;exact (hq q hq').2) st1
 refine (AU text_ok IE hfw hY hf hb i1 (g0.mono l1) (args':=args) ?_).mono ?_
 ·rw [ha];exact .cons (.agg rfl (ARel.toList.2 (.cons (.int _ _) (.cons (.int _ _) (.cons (.string _) (.cons r1 (.nil _)))))).2) (LRel.of_bares hx)
 ·rintro e w' ⟨x,x',h',β',rfl,⟨rfl,_⟩,hx,_,hb⟩
  cases hx
  exact ⟨rfl,hb⟩
end
end
end Go.Proofs.YtoabjjimjldcfaaGreatDoor
end
section
namespace Go.Ab
open Go Go.RowKit Go.WideShapes Go.ChangeShapes
section
section
variable {H:Type} {enc:TypeId×Value->H} {P:Program}
theorem I0 {f:Func}{s:ChangeSpec}{apart fresh handsOn again:Bool}{W W':World}{args:Array Value}{v:Value}{ds:List (DataW H)}{places:List MemPlace}
  (hvars:s.vars=[]) (hW:DataW.Whole enc P f.params.toList s.vars apart W args.toList ds [] places) (hb:Below W.heap.size W W')
  (hsame:(s.fn H (ds++[])).args=ds) (hnov:(s.fn H (ds++[])).vars=[])
  (hres: ∀ (b:Nat)(sp:Nat->Bool)(hd:Bool),DataW.TrodAll enc P W' b sp hd f.resultTypes.toList (v.resultList f.resultTypes.size) (s.fn H (ds++[])).results [])
  (hok: ∀ (j:Nat)(t:TypeId)(r:Value),f.resultTypes[j]?=some t->(v.resultList f.resultTypes.size)[j]?=some r->Value.okWide P W' .any 0 t r)
  (hargs: ∀ sp:Nat->Bool,(∀ p∈places,sp p.block=true)->DataW.TrodAll enc P W' 0 sp true f.params.toList args.toList ds places):s.post enc P f apart fresh handsOn again W args v W':=by
 have hin: ∀ p∈places,p.block < W.heap.size:=fun p hp=>hW.lt p hp;have hmine: ∀ p∈places,(fun b=>decide (b < W.heap.size)) p.block=true:=fun p hp=>decide_eq_true (hin p hp);have hv0: ∀ sp:Nat->Bool,DataW.TrodVars enc P W' sp s.vars (s.fn H (ds++[])).vars []:=fun sp=>by
  rw [hvars,hnov]; rfl
 have hfr:=World.keptBut_mono (may':=fun p=>p∈places/\(p∈([]:List MemPlace)\/p∈places\/p∈([]:List MemPlace))) (fun p hp=>⟨hp,.inr (.inl hp)⟩) (hb.frame (· ∈places));obtain ⟨_,_,_,_,_,hz,hn⟩:=id hW;have hargs': ∀ sp:Nat->Bool,(∀ p∈places,sp p.block=true)->DataW.TrodAll enc P W' 0 sp true f.params.toList args.toList (s.fn H (ds++[])).args places:=fun sp h=>by rw [hsame]; exact hargs sp h
 refine ⟨ds,[],places,[],places,[],hW,hres _ _ _,hargs' _ hmine,hv0 _,hfr,fun _=>⟨hok,_,_,([]++places)++[],⟨[]++places,[],trodAll_append (hargs' _ fun _ _=>rfl) (hres _ _ _),hv0 _,rfl,?_,?_⟩,?_⟩⟩
 ·intro b off hp;have hp:MemPlace.cell b off∈places:=by simpa using hp
  rw [hb.frozen (hin _ hp)];exact hz b off hp
 ·intro ha;simpa using hn ha
 ·intro p hp _;simpa using hp
end
end
end Go.Ab
end
section
namespace Go.Proofs.YtoabjjimjldcfaaGreatDoor
open Go Go.Ab Go.ChangeShapes Go.WideShapes Go.ChangeAt Go.RowKit
theorem rT:laidOutB Tryz.prog=true:=by kernel_rfl
set_option maxRecDepth 100000 in
theorem zZ (os:Os)(started:os.Started)(H:Type)(enc:TypeId×Value->H):
  ReturnsInHanded {} Tryz.checked os 4 .any (fun w args=>(Rows.machineTrimsSpec.pre enc Tryz.prog Tryz.f4 [] false w args/\laidMetH Tryz.prog iC w)/\sizedMet enc Tryz.prog Tryz.f4 (OpenSpec.ofChange Rows.machineTrimsSpec) false w args)
   (Rows.machineTrimsSpec.post enc Tryz.prog Tryz.f4 false true false false):=by
 refine returnsInHanded_of_change_and (C:=Tryz.checked) (X:=fun w _=>laidMetH Tryz.prog iC w) (fun _ _ _ hh h=>h.of_heap hh) Jx started (by kernel_rfl) Tryz.func4
  (ChangeSpec.witness_at (enc:=enc) (C:=Tryz.checked) (os:=os) (X:=fun w _=>laidMetH Tryz.prog iC w) false (yJ os) #[.agg #[.int .i64 0,.int .i64 0,.string ⟨#[]⟩,.slice none 0 0],.int .i64 0] 8 rfl (by kernel_rfl) (by kernel_rfl) (by kernel_rfl) (by kernel_rfl) (by kernel_rfl) (wR os _)) ?_
 intro W base args ds gs before hval0 hW _ hwt hL _;have hval: ∀ (j:Nat) t v,Tryz.f4.params[j]?=some t->args[j]?=some v->Value.okWide Tryz.prog W .any base t v:=hval0;have hW':=hW;obtain ⟨p,q,hA0,hV,rfl,hfz,hnd⟩:=hW;have hA:DataW.TrodAll enc Tryz.prog W 0 (fun _=>true) true Tryz.f4.params.toList args.toList ds p:=hA0;rw [Tryz.params4] at hA hval;obtain ⟨v0,v1,d0,d1,p0,p1,rfl,rfl,rfl,h0,h1⟩:=trodAll_two hA;obtain ⟨rfl,rfl⟩:=trodVars_none hV;simp only [append_nil] at hW';obtain ⟨kind,rfl⟩:=okWide_int Tryz.underlying3 (hval 1 3 v1 rfl rfl);have hw:(d0.weights Tryz.prog 24).all (· <=reachBytes)=true:=by
  have h1:(DataW.weightsEach Tryz.prog (Tryz.f4.params.toList++Rows.machineTrimsSpec.plain.varTypes Tryz.prog) ([d0,d1]++[])).all (· <=reachBytes)=true:=hwt;rw [Tryz.params4] at h1;have h2:(d0.weights Tryz.prog 24++DataW.weightsEach Tryz.prog ([3]++Rows.machineTrimsSpec.plain.varTypes Tryz.prog) [d1]).all (· <=reachBytes)=true:=h1;rw [all_append,and_eq_true] at h2;exact h2.1
 refine (Ds Tryz.func4 (by kernel_rfl) (by unfold YB; decide) (extra:=[.int .i64 kind]) rfl (fun tb w _ bd _ _ _ r=>M8 tb w bd kind r) hL (hval 0 24 v0 rfl rfl) h0 hw rfl).mono fun e W' ⟨he,hb⟩=> ?_;subst he;have hlt: ∀ x∈p0++p1,x.block < W.heap.size:=fun x hx=>hW'.lt x hx;have h0':=Below.trod rT (by kernel_rfl) (dT (by kernel_rfl)) h0 hb (fun x hx=>hlt x (mem_append_left _ hx));exact ⟨_,rfl,I0 (ds:=[d0,d1]) (places:=p0++p1) rfl hW' hb rfl rfl (fun _ _ _=>(trodAll_cons_mk (shut_bool Tryz.underlying4 _) trodAll_mk0))
  (ok_one (by kernel_rfl) rfl (okWide_bool_mk Tryz.underlying4 _)) (fun sp hsp=>by
   rw [Tryz.params4];exact trodAll_mk2 (WideElems.Trod_stays rT (by kernel_rfl) (dT (by kernel_rfl)) h0 (fun x hx=>hb.same (hlt x (mem_append_left _ hx))) (fun x hx=>hsp x (mem_append_left _ hx)))
    (WideElems.Trod_stays rT (by kernel_rfl) (dT (by kernel_rfl)) h1 (fun x hx=>hb.same (hlt x (List.mem_append_right _ hx))) (fun x hx=>hsp x (List.mem_append_right _ hx))))⟩
theorem El:Rows.MachineTrimsSaid:=
 OpenClaim.holds_of_wide 4 Tryz.f4 rfl rfl rfl rfl rfl rfl rfl ⟨rfl,rfl,rfl,rfl,rfl⟩ rfl rfl rfl rfl rfl (by kernel_rfl) Tryz.func4 (by kernel_rfl)
  (dT (by kernel_rfl)) (by unfold Func.isWrapper; first | (rw [if_pos (by decide +kernel)]; kernel_rfl) | (rw [if_neg (by decide +kernel)]; exact ⟨rfl,rfl⟩))
  (fun os started H enc _=>zZ os started H enc)
theorem machineTrims_holds:Rows.MachineTrimsCardSaid:=
 Claim7.holds_tied_plain_at .later [] [.data,.data,.data] true (true,"ea4656df63b73b94884b59f7838f0dfac73e8ec20c036833f77c270eb3448717") true
  El (fun _ h=>by cases h) (by kernel_rfl) (fun _ h=>by cases h) machineTrims_row_tie rfl ⟨rfl,rfl⟩ (by kernel_rfl) rfl
  (fun f fn hf hfn=>by
   obtain rfl:f=4:=oI ((show Tryz.prog.funcNamed "abugida/abugidalaw06.MachineTrims" = some 4 by kernel_rfl).symm.trans hf) |>.symm
   obtain rfl:fn=Tryz.f4:=(oI (Tryz.func4.symm.trans hfn)).symm;exact ⟨by kernel_rfl,fun j t ht=>by
    rw [Tryz.params4] at ht;have hm:t∈[24,3]:=by simpa using Array.mem_of_getElem? ht
    have hall:([24,3].all fun u=> !Tryz.prog.wantsStandIn u)=true:=by kernel_rfl
    exact (show Tryz.prog.wantsStandIn t=false by simpa using all_eq_true.1 hall t hm)⟩)
  (by kernel_rfl)
end Go.Proofs.YtoabjjimjldcfaaGreatDoor
end
