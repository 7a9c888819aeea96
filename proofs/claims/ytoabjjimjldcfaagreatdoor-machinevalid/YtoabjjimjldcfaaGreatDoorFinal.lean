/- Whatever machine is handed to it, in whatever memory, on every schedule, MachineValid returns true. No condition. -/
import Derived.Test.YtoabjjimjldcfaaGreatDoorPart5
import Derived.Test.YtoabjjimjldcfaaGreatDoorPart2
import Derived.ChangeArms
import Derived.DataElems
import Derived.Test.YtoabjjimjldcfaaGreatDoorPart6
import Derived.OpenShut
import Derived.MakeChecks
import Derived.FnData
import Derived.ChangeSame
import Derived.Test.YtoabjjimjldcfaaGreatDoorRows
import Derived.ProofKit
import Derived.LaidLaws
import Derived.LaidHandle
import Derived.ChangeVars
import Derived.Below
import Derived.Test.YtoabjjimjldcfaaGreatDoorCards
import Derived.Test.YtoabjjimjldcfaaGreatDoorTie
import Derived.WalkKit
import Derived.Carry
import Derived.SevenTiedAt
section
namespace Go.Ab
open Go Go.RowKit
section
variable {β:Inj} {P:Program} {h:Heap} {w:World}
theorem Fh {α:Type}{sz:Nat}: ∀ {rs:List (List α)},(∀ r∈rs,r.length=sz)-> ∀ {i:Nat}{r:List α},rs[i]?=some r-> ∀ {j:Nat},j < sz->rs.flatten[i*sz+j]?=r[j]?
 | [],_,i,r,hi,_,_=>by simp at hi
 | x::rs,hl,0,r,hi,j,hj=>by
  have hx:=hl x (List.mem_cons_self ..)
  simp only [List.getElem?_cons_zero,Option.some.injEq] at hi
  subst hi
  rw [List.flatten_cons,Nat.zero_mul,Nat.zero_add,List.getElem?_append_left (by omega)]
 | x::rs,hl,i+1,r,hi,j,hj=>by
  have hx:=hl x (List.mem_cons_self ..)
  rw [List.getElem?_cons_succ] at hi
  have ih:=Fh (fun r hr=>hl r (List.mem_cons_of_mem _ hr)) hi hj
  rw [List.flatten_cons,List.getElem?_append_right (by rw [Nat.add_mul]; omega),hx,<-ih]
  congr 1
  rw [Nat.add_mul]; omega
theorem z6 {α:Type}{sz:Nat}: ∀ {rs:List (List α)},(∀ r∈rs,r.length=sz)->rs.flatten.length=rs.length*sz
 | [],_=>by simp
 | x::rs,hl=>by
  have hx:=hl x (List.mem_cons_self ..)
  rw [List.flatten_cons,List.length_append,z6 fun r hr=>hl r (List.mem_cons_of_mem _ hr),hx,List.length_cons,Nat.add_mul]; omega
theorem Ow {α:Type}{sz:Nat}{rs:List (List α)}(hl: ∀ r∈rs,r.length=sz){i:Nat}{r:List α}(hi:rs[i]?=some r):(rs.flatten.drop (i*sz)).take sz=r:=by
 have hr:=hl r (List.mem_of_getElem? hi)
 refine List.ext_getElem? fun j=> ?_
 rw [List.getElem?_take]
 split
 ·next hj=>rw [List.getElem?_drop]; exact Fh hl hi hj
 ·next hj=>rw [List.getElem?_eq_none (by omega)]
structure Ini (β:Inj)(h:Heap)(w:World):Prop where
 sim:Sim β h w
 ro: ∀ k B,h.get k=some B->B.wr=false
theorem Yy (n:Nat)(w:World):Ini β0 ⟨n,.nil⟩ w:=⟨E0 n w,fun k B h=>by rw [Heap.get_nil] at h; cases h⟩
theorem Ini.wf (i:Ini β h w):Wf h:=i.sim.wf
theorem Ini.below (i:Ini β h w){β':Inj}{h':Heap}{w':World}(s:Step β h w β' h' w'):Below w.heap.size w w':=
 ⟨s.os,s.tape,s.output,s.size,fun k hk=>s.kept k hk fun ⟨k,B,sl,h1,h2,_⟩=>by rw [i.ro k B h1] at h2; cases h2⟩
abbrev ES (b n:Nat)(t:TypeId):Slot:=⟨b,0,n,t,0,false⟩
theorem Ini.fresh (i:Ini β h w):β h.next=none:=i.sim.none_of_ge (Nat.le_refl _)
theorem Ini.le (i:Ini β h w)(sl:Slot):β.le (β.ext h.next sl):=Inj.le_ext sl i.fresh
theorem Ini.push (i:Ini β h w){cs:List Value}{t:TypeId}{cs':Array Value}{fr:Nat×Nat}{b:Nat}(hb:w.heap[b]?=some (.cells cs' t fr))(hc:CellsAt β cs 0 cs'):
  Ini (β.ext h.next (ES b cs'.size t)) (h.push (.cells cs t 0 false)) w:=by
 have hle:=i.le (ES b cs'.size t)
 have hlt:b < w.heap.size:=(Array.getElem?_eq_some_iff.1 hb).1
 have hro: ∀ k B,(h.push (.cells cs t 0 false)).get k=some B->B.wr=false:=fun k B hk=>by
  rw [Heap.get_push] at hk
  split at hk
  ·obtain rfl:=oI hk; rfl
  ·exact i.ro k B hk
 refine ⟨⟨fun k sl hk=> ?_,fun k B sl h1 h2=> ?_,fun k k' B B' sl sl' _ h1 _ _ _ hw=> ?_,Heap.wf_push i.sim.wf _⟩,hro⟩
 ·by_cases e:k=h.next
  ·subst e
   rw [Inj.ext_same] at hk
   obtain rfl:=oI hk
   exact ⟨by simp,hlt⟩
  ·rw [Inj.ext_ne _ _ e] at hk
   have:=i.sim.lt k sl hk
   exact ⟨by simp; omega,this.2⟩
 ·rw [Heap.get_push] at h1
  split at h1
  ·next e=>
   subst e
   rw [Inj.ext_same] at h2
   obtain rfl:=oI h2
   obtain rfl:=oI h1
   exact ⟨rfl,rfl,⟨rfl,fun _=>rfl⟩,cs',fr,hb,rfl,hc.mono hle,fun hw=>by cases hw⟩
  ·next e=>
   rw [Inj.ext_ne _ _ e] at h2
   exact (i.sim.blk k B sl h1 h2).mono hle
 ·rw [hro k B h1] at hw; cases hw
theorem G2 (ht:TextOk P){l:nK}{gl:Nat->Bool}(hl:pk P gl l){f:FuncId}{fn:Func}{args:List Value}{Q:Value->Heap->Prop}(hfw:FW ⟨P,gl,E5 P gl l⟩ f args h Q)(hY:f < YB)(hf:P.funcs[f]?=some fn)(hb:fn.body.isSome=true)
  {args':Array Value} (i:Ini β h w) (hg:Gl gl β) (ha:LRel β args args'.toList):
  Calls P f args' w fun e w'=> ∃ v v' h' β',e = .returned v'/\Q v h'/\VRel β' v v'/\Step β h w β' h' w'/\Below w.heap.size w w':=by
 obtain ⟨v,h',⟨n,hr⟩,hq⟩:=hfw
 obtain ⟨fn',hfn,hc⟩:=(ht.run hl n).fn f args h v h' hY (hr n (Nat.le_refl _)) β w args' i.sim hg ha
 rw [hf] at hfn
 obtain rfl:=oI hfn
 rcases hc with ⟨_,hc⟩ | ⟨v',w',β',h1,_,_⟩
 ·refine hc.mono ?_
  rintro e w' ⟨v',β',rfl,h2,h3⟩
  exact ⟨v,v',h',β',rfl,hq,h3,h2,i.below h2⟩
 ·rw [cj ht.names hf hb] at h1
  cases h1
def D4 (w:World)(v:Value)(sz:Nat)(rs:List (List Value)):Prop:=
 (∀ r∈rs,r.length=sz)/\((v = .slice none 0 0/\rs=[])\/(∃ a,v = .slice (some a) 0 0/\rs=[])\/
  ∃ b off cap cs t fr,v = .slice (some ⟨b,off,none⟩) rs.length cap/\rs.length<=cap/\cap < bm/\w.heap[b]?=some (.cells cs t fr)/\off<=cs.size/\
   ∀ (i:Nat)(r:List Value),rs[i]?=some r-> ∀ j,j < sz->cs[off+(i*sz+j)]?=r[j]?)
theorem Ini.row_at (i:Ini β h w){sz:Nat}{e:TypeId}{rs rs':List (List Value)}{b off cap:Nat}{cs:Array Value}{t:TypeId}{fr:Nat×Nat}(hsz: ∀ r∈rs',r.length=sz)(hlen:rs.length=rs'.length)
  (hrel: ∀ (k:Nat) r r',rs[k]?=some r->rs'[k]?=some r'->LRel β r r') (h2:rs'.length<=cap) (h3:cap < bm) (hb:w.heap[b]?=some (.cells cs t fr)) (ho:off<=cs.size)
  (hc: ∀ (i:Nat)(r:List Value),rs'[i]?=some r-> ∀ j,j < sz->cs[off+(i*sz+j)]?=r[j]?):
  ∃ β' h',Ini β' h' w/\β.le β'/\Ok h h'/\VRel β' (.slice (some ⟨h.next,off,none⟩) rs.length cap) (.slice (some ⟨b,off,none⟩) rs'.length cap)/\RdN h' e sz (.slice (some ⟨h.next,off,none⟩) rs.length cap) rs:=by
 have hsz': ∀ r∈rs,r.length=sz:=fun r hr=>by
  obtain ⟨k,hk,rfl⟩:=List.getElem_of_mem hr
  have h1:rs'[k]?=some rs'[k]:=gE (by omega)
  rw [(hrel k _ _ (gE hk) h1).1]
  exact hsz _ (List.mem_of_getElem? h1)
 have hcells:CellsAt β (List.replicate off junk++rs.flatten) 0 cs:=fun k v hv=>by
  rw [Nat.zero_add]
  rw [List.getElem?_append] at hv
  split at hv
  ·next hk=>
   rw [List.length_replicate] at hk
   rw [List.getElem?_replicate,if_pos hk] at hv
   obtain rfl:=oI hv
   exact ⟨_,Array.getElem?_eq_getElem (by omega),.junk _⟩
  ·next hk=>
   rw [List.length_replicate] at hk hv
   have hlt:=(List.getElem?_eq_some_iff.1 hv).1
   rw [z6 hsz'] at hlt
   rcases Nat.eq_zero_or_pos sz with hz | hz
   ·subst hz; simp at hlt
   have e1:k - off=(k - off) / sz*sz+(k - off) % sz:=by rw [Nat.mul_comm]; exact (Nat.div_add_mod _ _).symm
   have hj:=Nat.mod_lt (k - off) hz
   have hi:(k - off) / sz < rs.length:=Nat.div_lt_of_lt_mul (by rw [Nat.mul_comm]; exact hlt)
   have g1:rs[(k - off) / sz]?=some rs[(k - off) / sz]:=gE hi
   have g2:rs'[(k - off) / sz]?=some rs'[(k - off) / sz]:=gE (by omega)
   rw [e1,Fh hsz' g1 hj] at hv
   have hr:=hrel _ _ _ g1 g2
   have hl':=hsz _ (List.mem_of_getElem? g2)
   have g3:rs'[(k - off) / sz][(k - off) % sz]?=some rs'[(k - off) / sz][(k - off) % sz]:=gE (by omega)
   refine ⟨_,?_,hr.2 _ _ _ hv g3⟩
   rw [<-g3,<-hc _ _ g2 _ hj,<-e1]
   congr 1
   omega
 refine ⟨_,_,i.push hb hcells,i.le _,(Ok.refl i.wf).push _,?_,hsz',.inr ⟨h.next,off,_,t,0,cap,false,rfl,Heap.get_push_same _ _,?_,fun k r hk=> ?_⟩⟩
 ·have:=VRel.slice (β:=β.ext h.next (ES b cs.size t)) (i:=off) (n:=rs.length) (c:=cap) (i':=off) (c':=cap) (Inj.ext_same _ _ _) rfl (fun _=>rfl) (fun h=>by omega) (by unfold aN; split <;> omega) (.inl (by simp)) (.inl rfl)
  rw [<-hlen]
  exact this
 ·rw [List.length_append,List.length_replicate,z6 hsz']; omega
 ·rw [List.drop_append,List.length_replicate,List.drop_eq_nil_of_le (by simp),List.nil_append,Nat.add_sub_cancel_left]
  exact Ow hsz' hk
theorem Ini.row (i:Ini β h w){sz:Nat}{e:TypeId}{v':Value}{rs rs':List (List Value)}(r:D4 w v' sz rs')(hlen:rs.length=rs'.length)(hrel: ∀ (k:Nat) r r',rs[k]?=some r->rs'[k]?=some r'->LRel β r r'):
  ∃ β' h' v,Ini β' h' w/\β.le β'/\Ok h h'/\VRel β' v v'/\RdN h' e sz v rs:=by
 obtain ⟨hsz,⟨rfl,rfl⟩ | ⟨a,rfl,rfl⟩ | ⟨b,off,cap,cs,t,fr,rfl,h2,h3,hb,ho,hc⟩⟩:=r
 ·obtain rfl:rs=[]:=List.eq_nil_of_length_eq_zero hlen
  exact ⟨β,h,_,i,β.le_refl,Ok.refl i.wf,.nilSlice,⟨fun _ hm=>absurd hm (by simp),.inl ⟨.inl rfl,rfl⟩⟩⟩
 ·obtain rfl:rs=[]:=List.eq_nil_of_length_eq_zero hlen
  exact ⟨β,h,zy,i,β.le_refl,Ok.refl i.wf,.dead a,⟨fun _ hm=>absurd hm (by simp),.inl ⟨.inr rfl,rfl⟩⟩⟩
 ·obtain ⟨β',h',h4,h5,h6,h7,h8⟩:=i.row_at (e:=e) hsz hlen hrel h2 h3 hb ho hc
  exact ⟨β',h',_,h4,h5,h6,h7,h8⟩
theorem Ini.row_live (i:Ini β h w){sz:Nat}{e:TypeId}{v':Value}{rs rs':List (List Value)}(r:D4 w v' sz rs')(hlen:rs.length=rs'.length)(hrel: ∀ (k:Nat) r r',rs[k]?=some r->rs'[k]?=some r'->LRel β r r')
  (hd: ∀ a,v' = .slice (some a) 0 0->a.spot=none/\ ∃ cs t fr,w.heap[a.block]?=some (.cells cs t fr)):
  ∃ β' h' v,Ini β' h' w/\β.le β'/\Ok h h'/\VRel β' v v'/\RdN h' e sz v rs/\v≠zy:=by
 obtain ⟨hsz,⟨rfl,rfl⟩ | ⟨a,rfl,rfl⟩ | ⟨b,off,cap,cs,t,fr,rfl,h2,h3,hb,ho,hc⟩⟩:=r
 ·obtain rfl:rs=[]:=List.eq_nil_of_length_eq_zero hlen
  exact ⟨β,h,_,i,β.le_refl,Ok.refl i.wf,.nilSlice,⟨fun _ hm=>absurd hm (by simp),.inl ⟨.inl rfl,rfl⟩⟩,fun e=>by cases e⟩
 ·obtain rfl:rs=[]:=List.eq_nil_of_length_eq_zero hlen
  obtain ⟨hs,cs,t,fr,hb⟩:=hd a rfl
  obtain ⟨b,off,spot⟩:=a
  cases (show spot=none from hs)
  have i':=i.push (cs:=[]) hb (fun k v hv=>by simp at hv)
  refine ⟨_,_,.slice (some ⟨h.next,0,none⟩) 0 0,i',i.le _,(Ok.refl i.wf).push _,?_,⟨fun _ hm=>absurd hm (by simp),.inr ⟨h.next,0,_,t,0,0,false,rfl,Heap.get_push_same _ _,by simp,fun k r hk=>by simp at hk⟩⟩,fun e=>by simp [zy] at e⟩
  exact VRel.slice (sl:=ES b cs.size t) (Inj.ext_same _ _ _) rfl (fun _=>rfl) (fun h=>by unfold bm at h; omega) (by unfold aN; split <;> omega) (.inr ⟨rfl,rfl⟩) (.inl rfl)
 ·obtain ⟨β',h',h4,h5,h6,h7,h8⟩:=i.row_at (e:=e) hsz hlen hrel h2 h3 hb ho hc
  exact ⟨β',h',_,h4,h5,h6,h7,h8,fun e=>by simp [zy] at e⟩
section
variable {H:Type} {enc:TypeId×Value->H} {held:Bool}
theorem Pp {a:Addr}{v:Value}(hv:w.cell? a=some v):a.spot=none/\ ∃ cs t fr,w.heap[a.block]?=some (.cells cs t fr)/\cs[a.off]?=some v:=by
 unfold World.cell? at hv
 split at hv
 ·next c t fr hb=>
  split at hv
  ·cases hv
  ·next hs=>exact ⟨by simpa using hs,c,t,fr,hb,hv⟩
 ·cases hv
theorem pick {α:Type}{p:Nat->α->Prop}: ∀ n,(∀ i,i < n-> ∃ q,p i q)-> ∃ l:List α,l.length=n/\ ∀ i q,l[i]?=some q->p i q
 | 0,_=>⟨[],rfl,fun i q hi=>by simp at hi⟩
 | n+1,hp=>by
  obtain ⟨l,hl,hq⟩:=pick n fun i hi=>hp i (by omega)
  obtain ⟨q,hq'⟩:=hp n (by omega)
  refine ⟨l++[q],by simp [hl],fun i x hi=> ?_⟩
  rw [List.getElem?_append] at hi
  split at hi
  ·exact hq i x hi
  ·next hn=>
   have:i=n:=by
    have:=(List.getElem?_eq_some_iff.1 hi).1
    simp at this; omega
   subst this
   simp [hl] at hi
   rw [<-hi]; exact hq'
theorem oG {e:TypeId}{d:DataW H}{n:Nat}: ∀ {l:List (DataW H)},d∈l->n∈d.weights P e->n∈DataW.weightsAll P e l
 | [],h,_=>by cases h
 | x::l,h,hn=>by
  rw [DataW.weightsAll,List.mem_append]
  rcases List.mem_cons.1 h with rfl | h
  ·exact .inl hn
  ·exact .inr (oG h hn)
theorem CX {t e:TypeId}{sz:Nat}(ht:P.underlying t=some (.slice e))(hsz:P.cellsOf e=sz)(hpos:0 < sz){p:List Value->Prop}
  (hp: ∀ n cs y,DataW.trod enc P w 0 (fun _=>true) held n e cs=some y->(y.1.weights P e).all (· <=reachBytes)=true->p cs) {fuel:Nat} {cv:List Value} {x:DataW H×List MemPlace}
  (h:DataW.trod enc P w 0 (fun _=>true) held fuel t cv=some x) (hw:(x.1.weights P t).all (· <=reachBytes)=true):
  ∃ v rs,cv=[v]/\D4 w v sz rs/\(∀ r∈rs,p r)/\rs.length*P.bytesOf e<=reachBytes:=by
 rcases DataW.trod_slice ht h with ⟨rfl,rfl⟩ | ⟨a,len,cap,elems,rest,n,_,rfl,rfl,hb,hlc,hcm,hel,hE,hR,_⟩
 ·exact ⟨_,[],rfl,⟨fun _ hm=>absurd hm (by simp),.inl ⟨rfl,rfl⟩⟩,fun _ hm=>absurd hm (by simp),by simp⟩
 obtain ⟨hrl,hR⟩:=hR rfl
 simp only [DataW.weights,ht,List.all_cons,Bool.and_eq_true,decide_eq_true_eq,List.all_append,lM] at hw
 obtain ⟨hw1,hw2,hw3⟩:=hw
 have hcap:cap < bm:=by unfold maxLen at hcm; unfold bm; omega
 have key: ∀ i,i < len-> ∃ r:List Value,(r.length=sz/\p r)/\ ∀ j,j < sz->w.cell? (a.add (i*sz+j))=r[j]?:=fun i hi=>by
  have h1:=hE i hi
  have h2:elems[i]?=some elems[i]:=gE (by omega)
  rw [h2,hsz,Option.bind_eq_some_iff] at h1
  obtain ⟨r,h3,h4⟩:=h1
  obtain ⟨_,h5,h6⟩:=World.cells?_some h3
  refine ⟨r,⟨h5,hp n r _ h4 ?_⟩,fun j hj=> ?_⟩
  ·rw [List.all_eq_true] at hw2 ⊢
   exact fun m hm=>hw2 m (oG (List.mem_map.2 ⟨elems[i],List.mem_of_getElem? h2,rfl⟩) hm)
  ·rw [<-h6 j hj,Addr.add_add]
 obtain ⟨rs,hrs,hq⟩:=pick len key
 have hq': ∀ r∈rs,r.length=sz/\p r:=fun r hr=>by
  obtain ⟨k,hk⟩:=List.mem_iff_getElem?.1 hr
  exact (hq k r hk).1
 refine ⟨_,rs,rfl,⟨fun r hr=>(hq' r hr).1,?_⟩,fun r hr=>(hq' r hr).2,?_⟩
 ·rcases Nat.eq_zero_or_pos cap with hz | hz
  ·obtain rfl:rs=[]:=List.eq_nil_of_length_eq_zero (by omega)
   have:len=0:=by omega
   subst this; subst hz
   exact .inr (.inl ⟨a,rfl,rfl⟩)
  ·have h0: ∃ v,w.cell? a=some v:=by
    have add0:a.add (0*sz)=a:=by rw [Nat.zero_mul]; unfold Addr.add; split <;> simp_all
    have fin: ∀ x,(w.cells? 0 (a.add (0*sz)) sz).bind (DataW.trod enc P w 0 (fun _=>true) held n e)=some x-> ∃ v,w.cell? a=some v:=fun x hx=>by
     rw [Option.bind_eq_some_iff,add0] at hx
     obtain ⟨r,h3,h4⟩:=hx
     obtain ⟨_,h5,h6⟩:=World.cells?_some h3
     have:=h6 0 hpos
     rw [show a.add 0=a by unfold Addr.add; split <;> simp_all,gE (by omega)] at this
     exact ⟨_,this⟩
    rcases Nat.eq_zero_or_pos len with hl | hl
    ·have:=hR 0 (by omega)
     rw [hl,hsz,gE (by omega)] at this
     exact fin _ this
    ·have:=hE 0 hl
     rw [hsz,gE (by omega)] at this
     exact fin _ this
   obtain ⟨v0,hv0⟩:=h0
   obtain ⟨hs,cs,tt,fr,hbk,hoff⟩:=Pp hv0
   obtain ⟨b,off,spot⟩:=a
   cases (show spot=none from hs)
   have ho:=(Array.getElem?_eq_some_iff.1 hoff).1
   refine .inr (.inr ⟨b,off,cap,cs,tt,fr,by rw [hrs],by omega,hcap,hbk,Nat.le_of_lt ho,fun i r hi j hj=> ?_⟩)
   have:=(hq i r hi).2 j hj
   rw [bn,kH hbk] at this
   exact this
 ·rw [hrs]
  refine Nat.le_trans (Nat.mul_le_mul_right _ ?_) hw1
  omega
end
end
end Go.Ab
end
section
set_option linter.unusedVariables false
set_option maxRecDepth 100000
namespace Go.Proofs.YtoabjjimjldcfaaGreatDoor
open Go Go.Ab Go.ChangeShapes Go.RowKit
section
theorem Zd:Tryz.prog.cellsOf 3=1:=by kernel_rfl
theorem Ye:Tryz.prog.cellsOf 9=1:=by kernel_rfl
theorem Yd:Tryz.prog.cellsOf 22=1:=by kernel_rfl
theorem Yn:Tryz.prog.cellsOf 24=4:=by kernel_rfl
theorem X2:Tryz.prog.cellsOf 35=1:=by kernel_rfl
theorem Xr:Tryz.prog.cellsOf 37=2:=by kernel_rfl
theorem Wt:Tryz.prog.cellsOf 39=4:=by kernel_rfl
theorem WO:Tryz.prog.cellsOf 103=1:=by kernel_rfl
theorem Yi:Tryz.prog.bytesOf 39=40:=by kernel_rfl
theorem Jj {α β:Type}{p:α->β}{P:α->Prop}: ∀ {l:List β},(∀ x∈l,∃ q,x=p q/\P q)-> ∃ k:List α,l=k.map p/\ ∀ q∈k,P q
 | [],_=>⟨[],rfl,fun _ h=>by cases h⟩
 | x::l,h=>by
  obtain ⟨q,rfl,hq⟩:=h x (List.mem_cons_self ..)
  obtain ⟨k,rfl,hk⟩:=Jj fun x hx=>h x (List.mem_cons_of_mem _ hx)
  exact ⟨q::k,rfl,fun y hy=>by
   rcases List.mem_cons.1 hy with rfl | hy
   ·exact hq
   ·exact hk y hy⟩
def Qd (W:World)(q:MSt×Value):Prop:=D4 W q.2 4 (q.1.arcs.map lD)/\q.1.arcs.length<=281474976710656
section
variable {H:Type} {enc:TypeId×Value->H} {W:World} {held:Bool}
theorem O4 {n:Nat}{cs:List Value}{y:DataW H×List MemPlace}(h:DataW.trod enc Tryz.prog W 0 (fun _=>true) held n 39 cs=some y): ∃ q:MArc,cs=lD q/\True:=by
 obtain ⟨xs,m,_,_,hl,hlen,hf⟩:=DataW.trod_struct Tryz.underlying39 h
 rw [Wt] at hl
 have hlen:xs.length=4:=hlen
 match xs,hlen,cs,hl with
 | [y0,y1,y2,y3],_,[c0,c1,c2,c3],_=>
  obtain ⟨i,e0,_,_⟩:=DataW.trod_int (x:=y0) Tryz.underlying3 (show DataW.trod enc Tryz.prog W 0 (fun _=>true) held m 3 (([c0,c1,c2,c3].drop 0).take (Tryz.prog.cellsOf 3))=some y0 from hf 0 _ rfl)
  obtain ⟨o,e1,_,_⟩:=DataW.trod_int (x:=y1) Tryz.underlying3 (show DataW.trod enc Tryz.prog W 0 (fun _=>true) held m 3 (([c0,c1,c2,c3].drop 1).take (Tryz.prog.cellsOf 3))=some y1 from hf 1 _ rfl)
  obtain ⟨s,e2,_,_⟩:=DataW.trod_string (x:=y2) Tryz.underlying9 (show DataW.trod enc Tryz.prog W 0 (fun _=>true) held m 9 (([c0,c1,c2,c3].drop 2).take (Tryz.prog.cellsOf 9))=some y2 from hf 2 _ rfl)
  obtain ⟨t,e3,_,_⟩:=DataW.trod_int (x:=y3) Tryz.underlying3 (show DataW.trod enc Tryz.prog W 0 (fun _=>true) held m 3 (([c0,c1,c2,c3].drop 3).take (Tryz.prog.cellsOf 3))=some y3 from hf 3 _ rfl)
  simp only [Zd,Ye,List.drop,List.take,List.cons.injEq,and_true] at e0 e1 e2 e3
  subst e0; subst e1; subst e2; subst e3
  exact ⟨⟨i,o,s.data.toList,t⟩,rfl,trivial⟩
theorem JX {n:Nat}{cs:List Value}{y:DataW H×List MemPlace}(h:DataW.trod enc Tryz.prog W 0 (fun _=>true) held n 37 cs=some y)(hw:(y.1.weights Tryz.prog 37).all (· <=reachBytes)=true): ∃ q:MSt×Value,cs=N3 q/\Qd W q:=by
 obtain ⟨y0,y1,m,rfl,hl,h0,h1⟩:=trod_struct2 Tryz.underlying37 h
 rw [Xr] at hl
 match cs,hl with
 | [c0,c1],_=>
  obtain ⟨s,e0,_,_⟩:=DataW.trod_string Tryz.underlying9 h0
  simp only [DataW.weights,Tryz.underlying37,DataW.weightsEach,List.map,List.append_nil,List.all_append,Bool.and_eq_true] at hw
  obtain ⟨v,rs,e1,r,hr,hb⟩:=CX (P:=Tryz.prog) (p:=fun cs=> ∃ q:MArc,cs=lD q/\True) Tryz.underlying35 Wt (by decide) (fun n cs y h _=>O4 h) h1 hw.2
  simp only [Ye,X2,List.drop,List.take,List.cons.injEq,and_true] at e0 e1
  subst e0; subst e1
  obtain ⟨l,rfl,_⟩:=Jj hr
  refine ⟨(⟨s.data.toList,l⟩,c1),rfl,r,?_⟩
  rw [Yi,lM] at hb
  unfold reachBytes at hb
  show l.length<=_
  omega
theorem EP {n:Nat}{cs:List Value}{y:DataW H×List MemPlace}(h:DataW.trod enc Tryz.prog W 0 (fun _=>true) held n 24 cs=some y)(hw:(y.1.weights Tryz.prog 24).all (· <=reachBytes)=true):
  ∃ (k s:Int)(ld:List UInt8)(v:Value)(sts:List (MSt×Value)),cs=[.int .i64 k,.int .i64 s,aa ld,v]/\D4 W v 2 (sts.map N3)/\ ∀ q∈sts,Qd W q:=by
 obtain ⟨xs,m,_,rfl,hl,hlen,hf⟩:=DataW.trod_struct Tryz.underlying24 h
 rw [Yn] at hl
 have hlen:xs.length=4:=hlen
 match xs,hlen,cs,hl with
 | [y0,y1,y2,y3],_,[c0,c1,c2,c3],_=>
  obtain ⟨k,e0,_,_⟩:=DataW.trod_int (x:=y0) Tryz.underlying3 (show DataW.trod enc Tryz.prog W 0 (fun _=>true) held m 3 (([c0,c1,c2,c3].drop 0).take (Tryz.prog.cellsOf 3))=some y0 from hf 0 _ rfl)
  obtain ⟨s,e1,_,_⟩:=DataW.trod_int (x:=y1) Tryz.underlying3 (show DataW.trod enc Tryz.prog W 0 (fun _=>true) held m 3 (([c0,c1,c2,c3].drop 1).take (Tryz.prog.cellsOf 3))=some y1 from hf 1 _ rfl)
  obtain ⟨ld,e2,_,_⟩:=DataW.trod_string (x:=y2) Tryz.underlying9 (show DataW.trod enc Tryz.prog W 0 (fun _=>true) held m 9 (([c0,c1,c2,c3].drop 2).take (Tryz.prog.cellsOf 9))=some y2 from hf 2 _ rfl)
  simp only [DataW.weights,Tryz.underlying24,DataW.weightsEach,List.map,List.append_nil,List.all_append,Bool.and_eq_true] at hw
  obtain ⟨v,rs,e3,r,hr,_⟩:=CX (P:=Tryz.prog) (x:=y3) (p:=fun cs=> ∃ q:MSt×Value,cs=N3 q/\Qd W q) Tryz.underlying22 Xr (by decide) (fun n cs y h hw=>JX h hw) (show DataW.trod enc Tryz.prog W 0 (fun _=>true) held m 22 (([c0,c1,c2,c3].drop 3).take (Tryz.prog.cellsOf 22))=some y3 from hf 3 _ rfl) hw.2.2.2
  simp only [Zd,Ye,Yd,List.drop,List.take,List.cons.injEq,and_true] at e0 e1 e2 e3
  subst e0; subst e1; subst e2; subst e3
  obtain ⟨l,rfl,hl⟩:=Jj hr
  exact ⟨k,s,ld.data.toList,c3,l,rfl,r,hl⟩
end
section
variable {W:World}
theorem MN (q:MArc):(lD q).all nV=true:=rfl
theorem TD {β:Inj}{f:List UInt8}{v v':Value}(h:VRel β v v'):LRel β [aa f,v] [aa f,v']:= .cons (.string _) (.cons h (.nil β))
theorem DJ: ∀ (sts:List (MSt×Value)),(∀ q∈sts,Qd W q)-> ∀ {β:Inj}{h:Heap},Ini β h W->
  ∃ (β':Inj)(h':Heap)(ps:List (MSt×Value)),Ini β' h' W/\β.le β'/\Ok h h'/\ps.length=sts.length/\ps.map (·.1)=sts.map (·.1)/\(∀ p∈ps,ArcRow h' p.2 p.1.arcs)/\
   ∀ (k:Nat) r r',(ps.map N3)[k]?=some r->(sts.map N3)[k]?=some r'->LRel β' r r'
 | [],_,β,h,i=>⟨β,h,[],i,β.le_refl,Ok.refl i.wf,rfl,rfl,fun _ hm=>absurd hm (by simp),fun k v q h=>absurd h (by simp)⟩
 | q::sts,hq,β,h,i=>by
  obtain ⟨r,_⟩:=hq q (List.mem_cons_self ..)
  obtain ⟨β1,h1,v,i1,l1,o1,r1,a1⟩:=i.row (e:=39) r (rs:=q.1.arcs.map lD) rfl (fun k r r' h1 h2=>by
    rw [h1] at h2
    obtain rfl:=oI h2
    rw [List.getElem?_map] at h1
    obtain ⟨x,_,rfl⟩:=Option.map_eq_some_iff.1 h1
    exact LRel.of_bares (MN x))
  obtain ⟨β2,h2,ps,i2,l2,o2,hl,hm,ha,hk⟩:=DJ sts (fun q hm=>hq q (List.mem_cons_of_mem _ hm)) i1
  refine ⟨β2,h2,(q.1,v)::ps,i2,Inj.le_trans l1 l2,o1.trans o2,by simp [hl],by simp [hm],fun p hp=> ?_,fun k v' q' g1 g2=> ?_⟩
  ·rcases List.mem_cons.1 hp with rfl | hp
   ·exact ArcRow.ok a1 o2
   ·exact ha p hp
  ·cases k with
   | zero=>
    simp only [List.map_cons,List.getElem?_cons_zero,Option.some.injEq] at g1 g2
    subst g1; subst g2
    exact TD (r1.mono l2)
   | succ k=>exact hk k v' q' (by simpa using g1) (by simpa using g2)
theorem Hf {β:Inj}{h:Heap}(i:Ini β h W){v:Value}{sts:List (MSt×Value)}(r:D4 W v 2 (sts.map N3))(hq: ∀ q∈sts,Qd W q)(hd: ∀ a,v = .slice (some a) 0 0->a.spot=none/\ ∃ cs t fr,W.heap[a.block]?=some (.cells cs t fr)):
  ∃ β' h' v',Ini β' h' W/\β.le β'/\Ok h h'/\VRel β' v' v/\StRow h' v' (sts.map (·.1)):=by
 obtain ⟨β1,h1,ps,i1,l1,o1,hl,hm,ha,hk⟩:=DJ sts hq i
 obtain ⟨β2,h2,v',i2,l2,o2,r2,a2,ne⟩:=i1.row_live (e:=37) (rs:=ps.map N3) r (by simp [hl]) hk hd
 exact ⟨β2,h2,v',i2,Inj.le_trans l1 l2,o1.trans o2,r2,ps,hm,a2,fun p hp=>ArcRow.ok (ha p hp) o2,ne⟩
end
end
end Go.Proofs.YtoabjjimjldcfaaGreatDoor
end
section
namespace Go.Proofs.YtoabjjimjldcfaaGreatDoor
open Go Go.ChangeShapes Go.WideShapes Go.ChangeAt Go.RowKit
theorem Ps:ownKnob Tryz.prog.godebug=none:=by kernel_rfl
abbrev ip {H:Type}:List (String×DataW H):=[("math/bits.deBruijn32tab",Rows.laid_math_bits_deBruijn32tab),("math/bits.deBruijn64tab",Rows.laid_math_bits_deBruijn64tab),("internal/strconv.uint64pow10",Rows.laid_internal_strconv_uint64pow10)]
def VC:DataW Unit->Value
 | .lit (.int k n)=> .int k n
 | _=>undef
def AE:DataW Unit->Array Value
 | .agg l=>(l.map VC).toArray
 | _=> #[]
def Pa (c:Array Value):Obj->Obj
 | .cells _ t frozen=> .cells c t frozen
 | o=>o
noncomputable def DP (os:Os):World:=
 { World.holding Tryz.prog os ⟨#[],#[],[]⟩ with heap:=(((World.holding Tryz.prog os ⟨#[],#[],[]⟩).heap.modify 2 (Pa (AE Rows.laid_math_bits_deBruijn32tab))).modify 3 (Pa (AE Rows.laid_math_bits_deBruijn64tab))).modify 1 (Pa (AE Rows.laid_internal_strconv_uint64pow10)) }
theorem Cz (os:Os)(args:Array Value):laidMetH Tryz.prog ip ((DP os).forCall (fun _ _=>0) ⟨#[],args,[]⟩).memory:=
 laidMetH_of_parts (laidMet_of_run' 24 (by kernel_rfl) (by kernel_rfl)) (by kernel_rfl)
end Go.Proofs.YtoabjjimjldcfaaGreatDoor
end
section
set_option linter.unusedVariables false
set_option maxRecDepth 100000
namespace Go.Proofs.YtoabjjimjldcfaaGreatDoor
open Go Go.Ab Go.ChangeShapes Go.WideShapes Go.RowKit
section
theorem Au {P:Program}{w:World}: ∀ {l:List (String×DataW Unit)}{ps:List MemPlace},DataW.LaidVars P w l ps-> ∀ n d,(n,d)∈l->
  ∃ g t cs fuel p,P.globalNamed n=some g/\(P.globals[g]?).map (·.type)=some t/\w.var? P n=some cs/\DataW.trod (fun _=>()) P w 0 (fun _=>true) false fuel t cs.toList=some (d,p)
 | [],_,_,_,_,hm=>by cases hm
 | (n',d')::r,ps,h,n,d,hm=>by
  obtain ⟨g,t,cs,fuel,p,q,h1,h2,h3,h4,h5,_⟩:=h
  rcases List.mem_cons.1 hm with e | e
  ·cases e
   exact ⟨g,t,cs,fuel,p,h1,h2,h3,h4⟩
  ·exact Au h5 n d e
theorem P5:Rows.laid_internal_strconv_uint64pow10=(.agg ((List.range 20).map fun i=>(.lit (.int .u64 ((10 ^ i:Nat):Int)):DataW Unit)):DataW Unit):=by kernel_rfl
section
variable {W:World}
theorem Sa (hL:laidMetH Tryz.prog ip W): ∃ cs t fr,W.heap[1]?=some (.cells cs t fr)/\ ∀ β,CellsAt β Ga 0 cs:=by
 rw [MakeChecks.laidMetH_plain _ _ _ (by kernel_rfl)] at hL
 obtain ⟨ps,hl,_⟩:=hL
 obtain ⟨g,t,cs,fuel,p,hg,ht,hv,hd⟩:=Au hl "internal/strconv.uint64pow10" Rows.laid_internal_strconv_uint64pow10 (by simp [ip])
 obtain rfl:=oI ((show Tryz.prog.globalNamed "internal/strconv.uint64pow10" = some 1 by kernel_rfl).symm.trans hg)
 obtain rfl:=oI ((show (Tryz.prog.globals[1]?).map (·.type)=some 185 by kernel_rfl).symm.trans ht)
 obtain ⟨xs,m,_,ex,_,hl,hel⟩:=DataW.trod_array Tryz.underlying185 hd
 have e3:xs.map (·.1)=(List.range 20).map fun i=>(.lit (.int .u64 ((10 ^ i:Nat):Int)):DataW Unit):=by
  have:=(Prod.mk.inj ex).1.symm.trans P5
  exact DataW.agg.inj this
 have hb: ∃ t fr,W.heap[1]?=some (.cells cs t fr):=by
  simp only [World.var?,hg,Option.bind_some] at hv
  split at hv
  ·next c t fr hb=>obtain rfl:=oI hv; exact ⟨t,fr,hb⟩
  ·cases hv
 obtain ⟨t,fr,hb⟩:=hb
 refine ⟨cs,t,fr,hb,fun β k v hk=> ?_⟩
 have hlt:k < 20:=by
  have:=(List.getElem?_eq_some_iff.1 hk).1
  simpa [Ga] using this
 have hv:v=uv (10 ^ k):=by
  simp [Ga,List.getElem?_range hlt] at hk
  exact hk.symm
 have hE:=hel k hlt
 rw [WO,Nat.mul_one,gE (by omega)] at hE
 obtain ⟨z,e1,e2,_⟩:=DataW.trod_int Tryz.underlying103 hE
 have e4:(xs.map (·.1))[k]?=some (.lit (.int .u64 ((10 ^ k:Nat):Int))):=by rw [e3]; simp [List.getElem?_range hlt]
 rw [List.getElem?_map,gE (by omega:k < xs.length),e2] at e4
 have hz:z=((10 ^ k:Nat):Int):=by
  simpa using e4
 subst hz
 have:cs.toList[k]?=some (.int .u64 ((10 ^ k:Nat):Int)):=by
  have h0:((cs.toList.drop k).take 1)[0]?=some (.int .u64 ((10 ^ k:Nat):Int)):=by rw [e1]; rfl
  simpa using h0
 refine ⟨.int .u64 ((10 ^ k:Nat):Int),by simpa using this,?_⟩
 rw [hv]; exact .int _ _
theorem Sy (hL:laidMetH Tryz.prog ip W): ∃ β h,Ini β h W/\Gl Ry β/\Tab h:=by
 obtain ⟨cs,t,fr,hb,hc⟩:=Sa hL
 refine ⟨_,_,(Yy 1 W).push hb (hc _),fun g hg=> ?_,t,false,Heap.get_push_same ⟨1,.nil⟩ _⟩
 have:g=1:=by simpa [Ry] using hg
 subst this
 exact ⟨_,Inj.ext_same _ _ _,rfl,rfl,rfl⟩
theorem Q7 {base:Nat}{k s:Int}{ld:List UInt8}{v:Value}(hval:Value.okWide Tryz.prog W .any base 24 (.agg #[.int .i64 k,.int .i64 s,aa ld,v]))(a:Addr)(e:v = .slice (some a) 0 0):a.spot=none/\ ∃ cs t fr,W.heap[a.block]?=some (.cells cs t fr):=by
 simp only [Value.okWide,Tryz.underlying24] at hval
 obtain ⟨cs,hcs,_,ts,hts,_,hc⟩:=hval
 obtain rfl:=Value.agg.inj hcs
 obtain rfl:=oI ((show Tryz.prog.cellTypes Tryz.prog.depth 24=some [3,3,9,22] by kernel_rfl).symm.trans hts)
 obtain ⟨u,hu,hk⟩:=hc 3 v rfl
 obtain rfl:22=u:=oI hu
 subst e
 simp only [Cell.okWide,Cell.ok,Tryz.underlying22] at hk
 obtain ⟨_,_,_,hs,row,cells,hsh,_⟩:=hk
 refine ⟨hs,?_⟩
 unfold World.shape? at hsh
 split at hsh
 ·next c t fr hb=>exact ⟨c,t,fr,hb⟩
 ·cases hsh
theorem He {H:Type}{enc:TypeId×Value->H}{base:Nat}{v0:Value}{d0:DataW H}{p:List MemPlace}(hL:laidMetH Tryz.prog ip W)(hval:Value.okWide Tryz.prog W .any base 24 v0)
  (hd:DataW.Trod enc Tryz.prog W 0 (fun _=>true) true 24 v0 d0 p) (hw:(d0.weights Tryz.prog 24).all (· <=reachBytes)=true):
  Calls Tryz.prog 3 #[v0] W fun e w'=>e = .returned (.bool true)/\Below W.heap.size W w':=by
 obtain ⟨cs,rfl,_⟩:=okWide_struct Tryz.underlying24 hval
 obtain ⟨fuel,hd⟩:=hd
 obtain ⟨k,s,ld,v,sts,hcs,hr,hq⟩:=EP hd hw
 have hcs:cs = #[.int .i64 k,.int .i64 s,aa ld,v]:=by
  rw [<-Array.toList_inj]; exact hcs
 subst hcs
 obtain ⟨β0',h0,i0,g0,t0⟩:=Sy hL
 obtain ⟨β1,h1,v',i1,l1,o1,r1,VX⟩:=Hf i0 hr hq (Q7 hval)
 obtain ⟨ps,hps,hrd,_,_⟩:=id VX
 obtain ⟨a,c,rfl⟩:=hrd.slc
 have hfw:=Vo (M:=⟨k,s,ld,sts.map (·.1)⟩) (t0.ok o1) i1.wf (fun x hx=>by
  obtain ⟨q,hq',rfl⟩:=List.mem_map.1 hx
  exact (hq q hq').2) VX
 refine (G2 text_ok S6 hfw (by unfold YB; decide) Tryz.func3 (by kernel_rfl) i1 (g0.mono l1) (.cons ?_ (.nil _))).mono ?_
 ·exact .agg rfl (ARel.toList.2 (.cons (.int _ _) (.cons (.int _ _) (.cons (.string _) (.cons r1 (.nil _)))))).2
 ·rintro e w' ⟨x,x',h',β',rfl,⟨rfl,_⟩,hx,_,hb⟩
  cases hx
  exact ⟨rfl,hb⟩
end
end
end Go.Proofs.YtoabjjimjldcfaaGreatDoor
end
section
namespace Go.Ab
open Go Go.RowKit Go.WideShapes Go.ChangeShapes
section
section
variable {H:Type} {enc:TypeId×Value->H} {P:Program}
theorem O3 {f:Func}{s:ChangeSpec}{apart fresh handsOn again:Bool}{W W':World}{args:Array Value}{v:Value}{ds:List (DataW H)}{places:List MemPlace}
  (hvars:s.vars=[]) (hW:DataW.Whole enc P f.params.toList s.vars apart W args.toList ds [] places) (hb:Below W.heap.size W W')
  (hsame:(s.fn H (ds++[])).args=ds) (hnov:(s.fn H (ds++[])).vars=[])
  (hres: ∀ (b:Nat)(sp:Nat->Bool)(hd:Bool),DataW.TrodAll enc P W' b sp hd f.resultTypes.toList (v.resultList f.resultTypes.size) (s.fn H (ds++[])).results [])
  (hok: ∀ (j:Nat)(t:TypeId)(r:Value),f.resultTypes[j]?=some t->(v.resultList f.resultTypes.size)[j]?=some r->Value.okWide P W' .any 0 t r)
  (hargs: ∀ sp:Nat->Bool,(∀ p∈places,sp p.block=true)->DataW.TrodAll enc P W' 0 sp true f.params.toList args.toList ds places):s.post enc P f apart fresh handsOn again W args v W':=by
 have hin: ∀ p∈places,p.block < W.heap.size:=fun p hp=>hW.lt p hp
 have hmine: ∀ p∈places,(fun b=>decide (b < W.heap.size)) p.block=true:=fun p hp=>decide_eq_true (hin p hp)
 have hv0: ∀ sp:Nat->Bool,DataW.TrodVars enc P W' sp s.vars (s.fn H (ds++[])).vars []:=fun sp=>by
  rw [hvars,hnov]; rfl
 have hfr:=World.keptBut_mono (may':=fun p=>p∈places/\(p∈([]:List MemPlace)\/p∈places\/p∈([]:List MemPlace))) (fun p hp=>⟨hp,.inr (.inl hp)⟩) (hb.frame (· ∈places))
 obtain ⟨_,_,_,_,_,hz,hn⟩:=id hW
 have hargs': ∀ sp:Nat->Bool,(∀ p∈places,sp p.block=true)->DataW.TrodAll enc P W' 0 sp true f.params.toList args.toList (s.fn H (ds++[])).args places:=fun sp h=>by rw [hsame]; exact hargs sp h
 refine ⟨ds,[],places,[],places,[],hW,hres _ _ _,hargs' _ hmine,hv0 _,hfr,fun _=>⟨hok,_,_,([]++places)++[],⟨[]++places,[],trodAll_append (hargs' _ fun _ _=>rfl) (hres _ _ _),hv0 _,rfl,?_,?_⟩,?_⟩⟩
 ·intro b off hp
  have hp:MemPlace.cell b off∈places:=by simpa using hp
  rw [hb.frozen (hin _ hp)]
  exact hz b off hp
 ·intro ha
  simpa using hn ha
 ·intro p hp _
  simpa using hp
end
end
end Go.Ab
end
section
namespace Go.Proofs.YtoabjjimjldcfaaGreatDoor
open Go Go.Ab Go.ChangeShapes Go.WideShapes Go.ChangeAt Go.RowKit
theorem Iv:laidOutB Tryz.prog=true:=by kernel_rfl
set_option maxRecDepth 100000 in
theorem El (os:Os)(started:os.Started)(H:Type)(enc:TypeId×Value->H):
  ReturnsInHanded {} Tryz.checked os 3 .any (fun w args=>(Rows.machineValidSpec.pre enc Tryz.prog Tryz.f3 [] false w args/\laidMetH Tryz.prog ip w)/\sizedMet enc Tryz.prog Tryz.f3 (OpenSpec.ofChange Rows.machineValidSpec) false w args)
   (Rows.machineValidSpec.post enc Tryz.prog Tryz.f3 false true false false):=by
 refine returnsInHanded_of_change_and (C:=Tryz.checked) (X:=fun w _=>laidMetH Tryz.prog ip w) (fun _ _ _ hh h=>h.of_heap hh) Ps started (by kernel_rfl) Tryz.func3
  (ChangeSpec.witness_at (enc:=enc) (C:=Tryz.checked) (os:=os) (X:=fun w _=>laidMetH Tryz.prog ip w) false (DP os) #[.agg #[.int .i64 0,.int .i64 0,.string ⟨#[]⟩,.slice none 0 0]] 8 rfl (by kernel_rfl) (by kernel_rfl) (by kernel_rfl) (by kernel_rfl) (by kernel_rfl) (Cz os _)) ?_
 intro W base args ds gs before hval0 hW _ hwt hL _
 have hval: ∀ (j:Nat) t v,Tryz.f3.params[j]?=some t->args[j]?=some v->Value.okWide Tryz.prog W .any base t v:=hval0
 have hW':=hW
 obtain ⟨p,q,hA0,hV,rfl,hfz,hnd⟩:=hW
 have hA:DataW.TrodAll enc Tryz.prog W 0 (fun _=>true) true Tryz.f3.params.toList args.toList ds p:=hA0
 rw [Tryz.params3] at hA hval
 obtain ⟨v0,d0,rfl,rfl,h0⟩:=trodAll_one hA
 obtain ⟨rfl,rfl⟩:=trodVars_none hV
 simp only [List.append_nil] at hW'
 have hw:(d0.weights Tryz.prog 24).all (· <=reachBytes)=true:=by
  have h1:(DataW.weightsEach Tryz.prog (Tryz.f3.params.toList++Rows.machineValidSpec.plain.varTypes Tryz.prog) ([d0]++[])).all (· <=reachBytes)=true:=hwt
  rw [Tryz.params3] at h1
  have h2:(d0.weights Tryz.prog 24++DataW.weightsEach Tryz.prog (Rows.machineValidSpec.plain.varTypes Tryz.prog) []).all (· <=reachBytes)=true:=h1
  rw [List.all_append,Bool.and_eq_true] at h2
  exact h2.1
 refine (He hL (hval 0 24 v0 rfl rfl) h0 hw).mono fun e W' ⟨he,hb⟩=> ?_
 subst he
 have hlt: ∀ x∈p,x.block < W.heap.size:=fun x hx=>hW'.lt x hx
 have h0':=Below.trod Iv (by kernel_rfl) (dT (by kernel_rfl)) h0 hb hlt
 exact ⟨_,rfl,O3 (ds:=[d0]) (places:=p) rfl hW' hb rfl rfl (fun _ _ _=>(trodAll_cons_mk (shut_bool Tryz.underlying4 _) trodAll_mk0))
  (ok_one (by kernel_rfl) rfl (okWide_bool_mk Tryz.underlying4 _)) (fun sp hsp=>by
   rw [Tryz.params3]
   exact trodAll_mk1 (WideElems.Trod_stays Iv (by kernel_rfl) (dT (by kernel_rfl)) h0 (fun x hx=>hb.same (hlt x hx)) hsp))⟩
theorem I8:Rows.MachineValidSaid:=
 OpenClaim.holds_of_wide 3 Tryz.f3 rfl rfl rfl rfl rfl rfl rfl ⟨rfl,rfl,rfl,rfl,rfl⟩ rfl rfl rfl rfl rfl (by kernel_rfl) Tryz.func3 (by kernel_rfl)
  (dT (by kernel_rfl)) (by unfold Func.isWrapper; first | (rw [if_pos (by decide +kernel)]; kernel_rfl) | (rw [if_neg (by decide +kernel)]; exact ⟨rfl,rfl⟩))
  (fun os started H enc _=>El os started H enc)
theorem machineValid_holds:Rows.MachineValidCardSaid:=
 Claim7.holds_tied_plain_at .later [] [.data,.data,.data] true (true,"ea4656df63b73b94884b59f7838f0dfac73e8ec20c036833f77c270eb3448717") true
  I8 (fun _ h=>by cases h) (by kernel_rfl) (fun _ h=>by cases h) machineValid_row_tie rfl ⟨rfl,rfl⟩ (by kernel_rfl) rfl
  (fun f fn hf hfn=>by
   obtain rfl:f=3:=oI ((show Tryz.prog.funcNamed "abugida/abugidalaw06.MachineValid" = some 3 by kernel_rfl).symm.trans hf) |>.symm
   obtain rfl:fn=Tryz.f3:=(oI (Tryz.func3.symm.trans hfn)).symm
   exact ⟨by kernel_rfl,fun j t ht=>by
    rw [Tryz.params3] at ht
    have hm:t∈[24]:=by simpa using Array.mem_of_getElem? ht
    have hall:([24].all fun u=> !Tryz.prog.wantsStandIn u)=true:=by kernel_rfl
    exact (show Tryz.prog.wantsStandIn t=false by simpa using List.all_eq_true.1 hall t hm)⟩)
  (by kernel_rfl)
end Go.Proofs.YtoabjjimjldcfaaGreatDoor
end
