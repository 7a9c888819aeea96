/- Laws and walks that the proof leans on (part 5): P36; P37; W17; AbGrow; NumGraph; P38 and others. No condition. -/
import Derived.Test.YtoabjjimjldcfaaGreatDoorPart4
import Derived.Test.YtoabjjimjldcfaaGreatDoorPart2
import Derived.Test.YtoabjjimjldcfaaGreatDoorPart3
open List (all_eq_true append_assoc append_nil drop_drop drop_take drop_zero flatten_cons getElem?_drop getElem?_map getElem?_range getElem?_replicate getElem?_set getElem?_take length_append length_cons length_drop length_nil length_replicate length_set length_singleton length_take map_append map_replicate map_set mem_append mem_cons mem_cons_of_mem mem_cons_self mem_map mem_singleton nil_append take_add_one take_of_length_le take_zero)
open Nat (add_mul le_of_eq le_refl le_succ le_trans lt_or_ge min_eq_left mul_le_mul_right mul_one not_lt_zero one_mul zero_add zero_le zero_mul)
open Bool (and_eq_true not_eq_false' not_eq_true')
open Int (toNat_natCast)
open Go.IntKind (wrap)
section
set_option linter.unusedVariables false
set_option maxRecDepth 100000
namespace Go.Proofs.YtoabjjimjldcfaaGreatDoor
open Go Go.Ab
section
theorem yU {kind:Int}{N:Nat}: ∀ {l:List MSt}{acc:Int},my kind N acc l=true-> ∀ s∈l,(s.f == [] || Num.weightOk kind s.f)=true/\ ∀ q∈s.arcs,fF kind N q=true
 | [],_,_,s,hs=>by cases hs
 | x::l,acc,h,s,hs=>by
  unfold my at h;simp only [and_eq_true] at h;obtain ⟨⟨⟨h1,h2⟩,h3⟩,h4⟩:=h;rcases mem_cons.1 hs with rfl | hs
  ·exact ⟨h2,fun q hq=>all_eq_true.1 h3 q hq⟩
  ·exact yU h4 s hs
structure ArcIn (N:Nat)(q:MArc):Prop where
 i0:0<=q.i
 i1:q.i<=500
 o0:0<=q.o
 o1:q.o<=500
 t0:0<=q.t
 t1:q.t < N
theorem KG {kind:Int}{N:Nat}{q:MArc}(h:fF kind N q=true):ArcIn N q:=by
 unfold fF nl at h;simp only [and_eq_true,decide_eq_true_eq] at h;obtain ⟨⟨⟨⟨⟨h1,h2⟩,h3,h4⟩,h5⟩,h6⟩,h7⟩:=h;exact ⟨h1,h2,h3,h4,h5,h6⟩
structure Good (M:Mach):Prop where
 start0:0<=M.start
 start1:M.start < M.states.length
 arcs: ∀ s∈M.states,∀ q∈s.arcs,ArcIn M.states.length q
theorem mY {M:Mach}(h:bq M=true):Good M:=by
 unfold bq at h;simp only [and_eq_true,decide_eq_true_eq] at h;obtain ⟨⟨⟨⟨⟨⟨⟨h1,h2⟩,h3⟩,h4⟩,h5⟩,h6⟩,h7⟩,h8⟩:=h;exact ⟨h5,h6,fun s hs q hq=>KG ((yU h8 s hs).2 q hq)⟩
theorem Ky (a b:Int):qP SS.P 3 (.int .i64 a) (.int .i64 b)=some (decide (a=b)):=by
 by_cases h:a=b
 ·subst h;have e:fV SS.P 3 3 (.int .i64 a) (.int .i64 a)=some (a == a):=by kernel_rfl
  unfold qP;rw [if_pos (show sk (Value.int .i64 a)=true from rfl),e];simp [Fs,Cf]
 ·have e:fV SS.P 3 3 (.int .i64 a) (.int .i64 b)=some (a == b):=by kernel_rfl
  unfold qP;rw [if_pos (show sk (Value.int .i64 b)=true from rfl),e,show (a == b)=false by simpa using h];simp [h]
def kN (l:List Int)(k:Int):List Int:=if k∈l then l else l++[k]
def km (x:Int):Value×Value:=(.int .i64 x,.bool true)
theorem BG (k:Int): ∀ l:List Int,iY SS.P 3 (.int .i64 k) (.bool true) (l.map km)=some ((kN l k).map km)
 | []=>rfl
 | x::l=>by
  show (match qP SS.P 3 (.int .i64 k) (.int .i64 x) with | some true=>some ((Value.int .i64 k,Value.bool true)::l.map km) | some false=>(iY SS.P 3 (.int .i64 k) (.bool true) (l.map km)).map (km x :: ·) | none=>none)=_;rw [Ky];by_cases h:k=x
  ·subst h;simp [kN,km]
  ·rw [show decide (k=x)=false by simpa using h];dsimp only;rw [BG k l];unfold kN;by_cases h2:k∈l
   ·rw [if_pos h2,if_pos (mem_cons_of_mem _ h2)]; rfl
   ·rw [if_neg h2,if_neg (fun e=>by rcases mem_cons.1 e with e | e; exact h e; exact h2 e)]; rfl
theorem wj: ∀ (l acc:List Int),acc.Nodup->((l.foldl kN acc).length=acc.length+l.length↔(acc++l).Nodup)/\(l.foldl kN acc).length<=acc.length+l.length
 | [],acc,h=>by simp [h]
 | x::l,acc,h=>by
  rw [List.foldl_cons];by_cases hx:x∈acc
  ·have e:kN acc x=acc:=by unfold kN; rw [if_pos hx]
   rw [e];obtain ⟨h1,h2⟩:=wj l acc h;refine ⟨⟨fun h3=>by simp at h3; omega,fun h3=> ?_⟩,by simp; omega⟩;rw [List.nodup_append] at h3;exact absurd rfl (h3.2.2 x hx x (mem_cons_self ..))
  ·have e:kN acc x=acc++[x]:=by unfold kN; rw [if_neg hx]
   rw [e];have hn:(acc++[x]).Nodup:=by
    rw [List.nodup_append];refine ⟨h,by simp,fun a ha b hb=> ?_⟩;rw [mem_singleton] at hb;rintro rfl;exact hx (hb ▸ ha)
   obtain ⟨h1,h2⟩:=wj l (acc++[x]) hn;rw [append_assoc] at h1;simp only [length_append,length_cons,length_nil,List.singleton_append] at h1 h2 ⊢;refine ⟨⟨fun h3=>h1.1 (by omega),fun h3=> ?_⟩,by omega⟩;have:=h1.2 h3; omega
theorem N7:SS.P.underlying 45=some (.map 3 4):=by kernel_rfl
theorem JG {h:Heap}{k:Nat}{l:List Int}(hk:h.get k=some (.map (l.map km)))(x:Int):iT SS.P 45 (.map (some k)) (.int .i64 x) (.bool true) h=some (undef,.set k (.map ((kN l x).map km))):=by
 unfold iT;rw [N7]; dsimp only;rw [hk]; dsimp only;rw [show j8 SS.P 3 (.int .i64 x)=true by kernel_rfl,if_pos rfl,BG]; rfl
theorem Pk {h:Heap}{k:Nat}{es:List (Value×Value)}(hk:h.get k=some (.map es)):Cz SS.P 45 (.map (some k)) h=some (.int .i64 (es.length:Int)):=by
 unfold Cz;rw [N7]; dsimp only;rw [hk]
theorem Nz:qi SS.P 45=some (.map [],fun k=> .map (some k)):=by kernel_rfl
def mw (s:MSt):List Int:=s.arcs.map (·.i)
def D7 (s:MSt):Bool:=decide (mw s).Nodup
def Hv (M:Mach):Bool:=PC M && IG M && M.states.all D7
section
variable {h:Heap} {k:Nat} {M:Mach} {a:Option Addr} {n c:Nat}
def PU (h:Heap)(k:Nat)(M:Mach)(a:Option Addr)(n c:Nat)(V:Bool)(mz i:Nat)(g:Heap):Prop:=i<=n/\mz=n - i/\MB g k M a n c/\Ok h g/\(M.states.drop i).all D7=V
set_option linter.defProp false in
def IT {hb:Heap}(w:Wf hb)(okb:Ok h hb)(sm:Small M)(V:Bool){s:MSt}{b:Option Addr}{m d i k2 k3:Nat}(hs:M.states[i]?=some s)(hi:i < n)(mb0:MB hb k M a n c)(hv:(D7 s && (M.states.drop (i+1)).all D7)=V)(hk3:hb.next<=k3)(mv:List Value)(mz:Nat)(hmz:mz=n - i):=
 tZ mv k a n c k2 k3 b m d (PU h k M a n c V) mz i (fun mz2 j g=>j<=m/\mz2=m - j/\Ok hb g/\ArcRow g (.slice b m d) s.arcs/\g.get k2=some (.cells [aa s.f,.slice b m d] 37 0 true)/\k3≠k2/\hb.next<=k2/\g.get k3=some (.map ((((mw s).take j).foldl kN []).map km))) (bQ h V) (by
  intro mz2 j; intros; rename_i g hin;obtain ⟨f1,f2,ok,ar,sb,hne,hk2,hm⟩:=hin;have mb:=mb0.ok ok;have hn:n<=300:=by rw [mb.len]; exact sm.sts
  obtain ⟨l1,l2,l3⟩:=eD sm hs;have hml:=ar.len;refine ae (fun g1=> ?_) (fun g1=> ?_)
  ·have g1:=dT g1;obtain ⟨q,hq⟩: ∃ q,s.arcs[j]?=some q:=⟨_,gE (by omega)⟩
   obtain ⟨bb,o,e1,e2,e3⟩:=ar.at_ hq;obtain ⟨u,p1,p2,p3⟩:=oU ok.wf q;have hm2:=p2.ext _ _ hm;refine ⟨_,e1,_,e2,_,xc,u,p1,_,hJ _ _,_,p3.l0,_,JG hm2 q.i,?_⟩;have okg:=ok.trans p2;have sb2:=p2.ext _ _ sb;have ar2:=ar.ok p2;generalize u.app (g.push CY)=g2 at *;rw [az (i:=j) (n:=m) (by omega) (by omega)];have ok3:Ok hb ((Upd.set k3 (.map ((kN (((mw s).take j).foldl kN []) q.i).map km))).app g2):=okg.set _ hk3 (okg.wf _ _ hm2) w;have hq':(mw s)[j]?=some q.i:=by unfold mw; rw [getElem?_map,hq]; rfl
   have ht:(mw s).take (j+1)=(mw s).take j++[q.i]:=by rw [take_add_one,hq']; rfl
   refine bp (mz2 - 1) (by omega) ⟨by omega,by omega,ok3,?_,?_,hne,hk2,?_⟩
   ·
    obtain ⟨bb',oo',xx,yy,zz,_,_,_,w4,ar0⟩:=(mb0.ok ok3).row.at_ hs;obtain ⟨bb2,oo2,xx2,yy2,zz2,v1,_,_,v4,ar02⟩:=(mb0.ok okg).row.at_ hs;obtain ⟨r1,⟨r2,r3⟩ | ⟨kk,off,cs,e',z',cc,wr,r2,r3,r4,r5⟩⟩:=ar2
    ·exact ⟨r1,.inl ⟨r2,r3⟩⟩
    ·refine ⟨r1,.inr ⟨kk,off,cs,e',z',cc,wr,r2,?_,r4,r5⟩⟩;show (g2.set k3 _).get kk=_;rw [Heap.get_set,if_neg (fun e=>by rw [e,hm2] at r3; cases r3)];exact r3
   ·show (g2.set k3 _).get k2=_;rw [Heap.get_set,if_neg (fun e=>hne e.symm)];exact sb2
   ·show (g2.set k3 _).get k3=_;rw [Heap.get_set,if_pos rfl,ht,List.foldl_append]; rfl
  ·have g1:=dF g1;obtain rfl:m=j:=by omega
   have sbl:SB g k2 s.f b m d:=sb;refine ⟨_,Pk hm,_,bm _ _,_,_,_,sbl.l1,?_⟩;have hlen:(mw s).length=m:=by unfold mw; rw [lM]; exact hml.symm
   obtain ⟨q1,q2⟩:=wj (mw s) [] List.nodup_nil;rw [nil_append,length_nil,zero_add,hlen] at q1;rw [lM,take_of_length_le (by omega)];refine ae (fun t=>⟨?_,okb.trans ok⟩) (fun t=> ?_)
   ·have t: ¬ (((mw s).foldl kN []).length:Int)=(m:Int):=by simpa using t
    rw [<-hv,show D7 s=false from decide_eq_false fun e=>t (by rw [q1.2 e])]; rfl
   ·have t:(((mw s).foldl kN []).length:Int)=(m:Int):=by simpa using t
    rw [show D7 s=true from decide_eq_true (q1.1 (by omega)),Bool.true_and] at hv;rw [az hi (by omega)];exact bp (n - (i+1)) (by omega) ⟨by omega,rfl,mb,okb.trans ok,hv⟩)
theorem Nd (tb:Tab h)(w:Wf h)(sm:Small M)(r:StRow h (.slice a n c) M.states):FW SS 16 [.agg ⟨aC M a n c⟩] h (fun v h'=>v = .bool (Hv M)/\Ok h h'):=by
 obtain ⟨mb,ok⟩:=cD w r;refine Mo (aC M a n c) h _ ⟨_,ei M a n c,_,mb.all,(LE (tb.ok ok) ok.wf sm mb.row).mono ?_⟩;generalize h.push (Bm M a n c)=g at *;rintro _ g2 ⟨rfl,o2⟩;have ok2:=ok.trans o2;have mb2:=mb.ok o2;have hn:n<=300:=by rw [mb.len]; exact sm.sts
 refine ⟨_,rfl,ae (fun q=>⟨?_,ok2⟩) (fun q=> ?_)⟩
 ·rw [not_eq_true'] at q;unfold Hv; rw [q]; rfl
 rw [not_eq_false'] at q;refine ⟨_,mb2.all,(HG (tb.ok ok2) ok2.wf sm mb2.row).mono ?_⟩;rintro _ g3 ⟨rfl,o3⟩;have ok3:=ok2.trans o3;have mb3:=mb2.ok o3;refine ⟨_,rfl,ae (fun t=>⟨?_,ok3⟩) (fun t=> ?_)⟩
 ·rw [not_eq_true'] at t;unfold Hv; rw [t,Bool.and_false]; rfl
 rw [not_eq_false'] at t;obtain ⟨V,hV⟩: ∃ V,V=M.states.all D7:=⟨_,rfl⟩
 have:Hv M=V:=by unfold Hv; rw [q,t,hV]; rfl
 rw [this];refine ⟨_,aM _,_,_,_,mb3.l3,?_⟩;refine tJ (aC M a n c) h.next a n c (PU h h.next M a n c V) (bQ h V) (fun mz i=> ?_) n (i:=0) ⟨by omega,rfl,mb3,ok3,hV.symm⟩;intros; rename_i gg hi;obtain ⟨f1,f2,mb4,ok4,f5⟩:=hi;have hl:=mb4.len;refine ae (fun q1=> ?_) (fun q1=> ?_)
 ·have q1:=dT q1;obtain ⟨s,hs⟩: ∃ s,M.states[i]?=some s:=⟨_,gE (by omega)⟩
  obtain ⟨b,o,x',y,z,e1,e2,e3,e4,ar⟩:=mb4.row.at_ hs;rw [cQ hs,List.all_cons] at f5;obtain ⟨u,p1,p2,p3⟩:=oX ok4.wf s.f x' y z;have p4:=(Ok.refl p2.wf).push (.map []);have hk3:=aq (u.app (gg.push vr)) (.map []);have hlt:gg.next < (u.app (gg.push vr)).next:=p2.wf _ _ p3;refine ⟨_,e1,_,e2,_,sD,u,p1,_,Nz,_,bm _ _,_,_,_,(p3.ok p4).l1,?_⟩;generalize u.app (gg.push vr)=g5 at *;exact IT ok4.wf ok4 sm V hs (by omega) mb4 f5 (by omega) [] mz f2 y (j:=0) ⟨by omega,rfl,p2.trans p4,(ar.ok p2).ok p4,p3.ok p4,by omega,le_refl _,hk3⟩
 ·have q1:=dF q1;rw [List.drop_eq_nil_of_le (by omega)] at f5;exact ⟨by rw [<-f5]; rfl,ok4⟩
end
end
theorem F4:SS.P.underlying 46=some (.slice 4):=by kernel_rfl
theorem L8:an SS.P 4=some 1:=by kernel_rfl
noncomputable def ti4:TypeInfo:=(SS.P.info? 4).getD default
theorem OB:SS.P.info? 4=some ti4:=by kernel_rfl
theorem II:ti4.size=1:=by kernel_rfl
theorem Ic:ti4.bytes=1:=by kernel_rfl
theorem O2:cF SS.P 4=some (.bool false):=by kernel_rfl
theorem Oa (n:Nat)(hn:n<=100000):aP SS.P 46 (.int .i64 (n:Int)) (.int .i64 (n:Int))=some (.cells ((List.replicate n false).map Value.bool) 4 1 true,gU n n):=by
 unfold aP aT;dsimp only;rw [F4]
 try dsimp only
 change (match SS.P.info? 4,cF SS.P 4 with
  | some i,some z=>(if z.cells.size=i.size/\0 < i.size/\(0:Int)<=(n:Int)/\(n:Int)<=(n:Int)/\(n:Int)*i.bytes<=140737488355328/\(n:Int)<=1099511627776 then some (Blk.cells (be z.cells.toList (n:Int).toNat) 4 i.size true,fun k=>Value.slice (some ⟨k,0,none⟩) (n:Int).toNat (n:Int).toNat) else none)
  | _,_=>none)=_
 rw [OB,O2];dsimp only;rw [II,Ic,if_pos ⟨rfl,by omega,by omega,Int.le_refl _,by omega,by omega⟩];have e:((n:Int)).toNat=n:=by omega
 rw [e,show (Value.bool false).cells.toList=[Value.bool false] from rfl,mO,map_replicate]; rfl
structure BR (hb:Heap)(kt N:Nat)(L:List Bool)(g:Heap):Prop where
 len:L.length=N
 row:IRow hb kt 4 (L.map Value.bool) g
theorem BR.trans {hb:Heap}{kt N:Nat}{L:List Bool}{g g':Heap}(m:BR hb kt N L g)(o:Ok g g'):BR hb kt N L g':=⟨m.len,m.row.trans o⟩
theorem BR.get {hb:Heap}{kt N c:Nat}{L:List Bool}{g:Heap}(m:BR hb kt N L g){x:Int}(h0:0<=x)(h1:x < N):ag SS.P 46 (.slice (some ⟨kt,0,none⟩) N c) (.int .i64 x)=some (.pointer (some ⟨kt,x.toNat,none⟩))/\ah SS.P 4 g (.pointer (some ⟨kt,x.toNat,none⟩))=some (.bool (L.getD x.toNat false))/\
  ∀ b:Bool,Wf hb-> ∃ u:Upd,ai SS.P 4 (.pointer (some ⟨kt,x.toNat,none⟩)) (.bool b) g=some (undef,u)/\BR hb kt N (L.set x.toNat b) (u.app g)/\(∀ k' B,g.get k'=some B->k'≠kt->(u.app g).get k'=some B):=by
 have e:0+x.toNat*1=x.toNat:=by omega
 have hl:x.toNat < L.length:=by rw [m.len]; omega
 refine ⟨by rw [<-e]; exact zD F4 L8 h0 h1,?_,?_⟩
 ·rw [cH Qk QT m.row.row (by rw [lM]; exact hl),gD,getElem?_map,gD,gE hl]; rfl
 ·intro b w;refine ⟨_,fB L8 m.row.row (by rw [lM]; exact hl) rfl rfl,⟨by rw [length_set]; exact m.len,?_⟩,fun k' B hk hne=> ?_⟩
  ·have:=m.row.set w x.toNat (.bool b);rw [zu Value.bool L x.toNat b] at this ⊢;exact this
  ·show (g.set kt _).get k'=_;rw [Heap.get_set,if_neg hne]; exact hk
theorem BR.new {h:Heap}(w:Wf h)(n:Nat):BR h h.next n (List.replicate n false) (h.push (.cells ((List.replicate n false).map Value.bool) 4 1 true)):=
 ⟨length_replicate,aq h _,le_refl _,(Ok.refl w).push _⟩
theorem Ek {L:List Bool}{x y:Nat}{b:Bool}(hx:x < L.length):(L.set x b).getD y false=if y=x then b else L.getD y false:=by
 rw [gD,getElem?_set,gD];split
 ·next e=>subst e; simp
 ·next e=>rw [if_neg (fun c=>e c.symm)]
noncomputable def M4:FD:=bF Tryz.f79 []
theorem K8 (s:Int)(k7 k8:Nat)(h:Heap)(Q:VH)(hx:xL (ah SS.P 46 h (pA k7)) fun a1 n2 c3=>xP (ag SS.P 46 (.slice a1 n2 c3) (.int .i64 s)) fun p4=>xB (ah SS.P 4 h (.pointer (some p4))) fun b5=>au (!b5) (xL (ah SS.P 46 h (pA k7)) fun a6 n7 c8=>xP (ag SS.P 46 (.slice a6 n7 c8) (.int .i64 s)) fun p9=>xU (ai SS.P 4 (.pointer (some p9)) (.bool true) h) h fun u10 g11=>xL (ah SS.P 48 g11 (pA k8)) fun a12 n13 c14=>xR (ak SS.P 48 1 [(0,(.int .i64 s))]) g11 fun B15 n16 c17 g18=>xE (ay SS.P 48 48 (.slice a12 n13 c14) (sA (g11.next) n16 c17) g18) g18 fun a19 n20 c21 u22 g23=>xU (ai SS.P 48 (pA k8) (.slice a19 n20 c21) g23) g23 fun u24 g25=>Q (.tuple ⟨[]⟩) g25) (Q (.tuple ⟨[]⟩) h)):FW SS 79 [(.int .i64 s),(pA k7),(pA k8)] h Q:=bG M4 Tryz.func79 (aj hx)
noncomputable def L5:FD:=bF Tryz.f62 []
theorem Jl (s:Int)(k:Nat)(h:Heap)(Q:VH)(hx:xL (ah SS.P 72 h (pA k)) fun a1 n2 c3=>xP (ag SS.P 72 (.slice a1 n2 c3) (.int .i64 s)) fun p4=>xL (ah SS.P 48 h (.pointer (some p4))) fun a5 n6 c7=>Q (.slice a5 n6 c7) h):FW SS 62 [(.int .i64 s),(pA k)] h Q:=bG L5 Tryz.func62 (aj hx)
noncomputable def MP:FD:=bF Tryz.f63 []
theorem I4 (s:Int)(k:Nat)(h:Heap)(Q:VH)(hx:xL (ah SS.P 72 h (pA k)) fun a1 n2 c3=>xP (ag SS.P 72 (.slice a1 n2 c3) (.int .i64 s)) fun p4=>xL (ah SS.P 48 h (.pointer (some p4))) fun a5 n6 c7=>Q (.slice a5 n6 c7) h):FW SS 63 [(.int .i64 s),(pA k)] h Q:=bG MP Tryz.func63 (aj hx)
noncomputable def bt:FD:=bF Tryz.f61 [([1,1,1,1,0,1,0,0],[0,1,2,7,8,9,18,19,20]),([1,1,1,1,1,0,0,0],[0,1,2,7,8,9]),([1,1,1,1,1,0,0,0,1,0,1,1,1,0,0],[0,1,2,7,8,9,44,45,46])]
abbrev jK (N:Int)(a:OA)(n c f kn k7 k8:Nat)(i:Nat):LV:=[(.int .i64 N),(.slice a n c),(.func (.func f) ⟨[]⟩ ⟨[(.pointer (some ⟨kn,0,none⟩))]⟩),(pA k7),(pA k8),(.func (.func 79) ⟨[]⟩ ⟨[(pA k7),(pA k8)]⟩),(.slice a n c),(iA n),(iA i)]
abbrev ff (N:Int)(a:OA)(n c f kn k7 k8:Nat)(dm:Nat):LV:=[(.int .i64 N),(.slice a n c),(.func (.func f) ⟨[]⟩ ⟨[(.pointer (some ⟨kn,0,none⟩))]⟩),(pA k7),(pA k8),(.func (.func 79) ⟨[]⟩ ⟨[(pA k7),(pA k8)]⟩)]
abbrev jE (N:Int)(a:OA)(n c f kn k7 k8:Nat)(b:OA)(m d:Nat)(j:Nat):LV:=[(.int .i64 N),(.slice a n c),(.func (.func f) ⟨[]⟩ ⟨[(.pointer (some ⟨kn,0,none⟩))]⟩),(pA k7),(pA k8),(.func (.func 79) ⟨[]⟩ ⟨[(pA k7),(pA k8)]⟩),(.slice b m d),(iA m),(iA j)]
theorem F1 (N:Int)(a:OA)(n c f kn:Nat)(h:Heap)(Q:VH)(hx:xR (aP SS.P 46 (.int .i64 N) (.int .i64 N)) h fun B1 n2 c3 g4=>xN (aF SS.P 46) g4 fun B5 g6=>xU (ai SS.P 46 (pA (g4.next)) (sA (h.next) n2 c3) g6) g6 fun u7 g8=>xN (aF SS.P 48) g8 fun B9 g10=>LL SS bt [1,1,1,1,0,1,0,0] [(.int .i64 N),(.slice a n c),(.func (.func f) ⟨[]⟩ ⟨[(.pointer (some ⟨kn,0,none⟩))]⟩),(pA (g4.next)),(pA (g8.next)),(.func (.func 79) ⟨[]⟩ ⟨[(pA (g4.next)),(pA (g8.next))]⟩),(.slice a n c),(iA n),(.int .i64 0)] g10 (KK SS bt [1,1,1,1,0,1,0] [] (EE SS bt Q))):FW SS 61 [(.int .i64 N),(.slice a n c),(.func (.func f) ⟨[]⟩ ⟨[(.pointer (some ⟨kn,0,none⟩))]⟩)] h Q:=bG bt Tryz.func61 (aj hx)
theorem qR (N:Int)(a:OA)(n c f kn:Nat)(k7 k8:Nat)(Inv:Nat->Nat->Heap->Prop)(Q:VH)(step: ∀ (mz:Nat) (i:Nat) (zz:Nat->Value) (h:Heap),Inv mz i h->au (decide (((i:Int):Int) < (n:Int))) (xP (ag SS.P 48 (.slice a n c) (iA i)) fun p11=>xI .i64 (ah SS.P 3 h (.pointer (some p11))) fun n12=>FW SS 79 [(.int .i64 n12),(pA k7),(pA k8)] h fun v13 h14=>v13=(.tuple ⟨[]⟩)/\ax (fA (jK N a n c f kn k7 k8) Inv) mz [(.int .i64 N),(.slice a n c),(.func (.func f) ⟨[]⟩ ⟨[(.pointer (some ⟨kn,0,none⟩))]⟩),(pA k7),(pA k8),(.func (.func 79) ⟨[]⟩ ⟨[(pA k7),(pA k8)]⟩),(.slice a n c),(iA n),(.int .i64 (wrap .i64 ((i:Int)+1)))] h14) (LL SS bt [1,1,1,1,1,0,0,0] [(.int .i64 N),(.slice a n c),(.func (.func f) ⟨[]⟩ ⟨[(.pointer (some ⟨kn,0,none⟩))]⟩),(pA k7),(pA k8),(.func (.func 79) ⟨[]⟩ ⟨[(pA k7),(pA k8)]⟩)] h (KK SS bt [1,1,1,1,1,0,0] [] (EE SS bt Q))))(mz:Nat){i:Nat}{h:Heap}(hi:Inv mz i h):LL SS bt [1,1,1,1,0,1,0,0] (jK N a n c f kn k7 k8 i) h (KK SS bt [1,1,1,1,0,1,0] [] (EE SS bt Q)):=
 bH (jK N a n c f kn k7 k8) Inv (fun mz i zz h hi=>aj (step mz i zz h hi)) mz hi
theorem rD (N:Int)(a:OA)(n c f kn:Nat)(k7 k8:Nat)(Inv2:Nat->Nat->Heap->Prop)(Q:VH)(step: ∀ (mz2:Nat) (dm:Nat) (zz:Nat->Value) (h:Heap),Inv2 mz2 dm h->xL (ah SS.P 48 h (pA k8)) fun a15 n16 c17=>au (decide (((n16:Int):Int) > 0)) (xL (ah SS.P 48 h (pA k8)) fun a18 n19 c20=>xL (ah SS.P 48 h (pA k8)) fun a21 n22 c23=>xP (ag SS.P 48 (.slice a18 n19 c20) (.int .i64 (wrap .i64 ((n22:Int) - 1)))) fun p24=>xI .i64 (ah SS.P 3 h (.pointer (some p24))) fun n25=>xL (ah SS.P 48 h (pA k8)) fun a26 n27 c28=>xL (ah SS.P 48 h (pA k8)) fun a29 n30 c31=>xL (aH SS.P 48 (.slice a26 n27 c28) none (some (.int .i64 (wrap .i64 ((n30:Int) - 1)))) none h) fun a32 n33 c34=>xU (ai SS.P 48 (pA k8) (.slice a32 n33 c34) h) h fun u35 g36=>au (Nat.blt f YB) (FW SS f ([]++[(.int .i64 n25)]++[(.pointer (some ⟨kn,0,none⟩))]) g36 fun v37 h38=>yL v37 fun a39 n40 c41=>LL SS bt [1,1,1,1,1,0,0,0,1,0,1,1,1,0,0] [(.int .i64 N),(.slice a n c),(.func (.func f) ⟨[]⟩ ⟨[(.pointer (some ⟨kn,0,none⟩))]⟩),(pA k7),(pA k8),(.func (.func 79) ⟨[]⟩ ⟨[(pA k7),(pA k8)]⟩),(.slice a39 n40 c41),(iA n40),(.int .i64 0)] h38 (KK SS bt [1,0,1,1,1,0] [1,1,1,1,1,0,0,0] (RR bt [1,1,1,1,1,0,0,0] (fA (ff N a n c f kn k7 k8) Inv2) mz2 (KK SS bt [1,1,1,1,1,0,0] [] (EE SS bt Q))))) False) (xL (ah SS.P 46 h (pA k7)) fun a42 n43 c44=>Q (.slice a42 n43 c44) h))(mz2:Nat){dm:Nat}{h:Heap}(hi:Inv2 mz2 dm h):LL SS bt [1,1,1,1,1,0,0,0] (ff N a n c f kn k7 k8 dm) h (KK SS bt [1,1,1,1,1,0,0] [] (EE SS bt Q)):=
 bH (ff N a n c f kn k7 k8) Inv2 (fun mz2 dm zz h hi=>aj (step mz2 dm zz h hi)) mz2 hi
theorem qH (N:Int)(a:OA)(n c f kn:Nat)(k7 k8:Nat)(b:OA)(m d:Nat)(Inv2:Nat->Nat->Heap->Prop)(mz2:Nat)(Inv3:Nat->Nat->Heap->Prop)(Q:VH)(step: ∀ (mz3:Nat) (j:Nat) (zz:Nat->Value) (h:Heap),Inv3 mz3 j h->au (decide (((j:Int):Int) < (m:Int))) (xP (ag SS.P 48 (.slice b m d) (iA j)) fun p45=>xI .i64 (ah SS.P 3 h (.pointer (some p45))) fun n46=>FW SS 79 [(.int .i64 n46),(pA k7),(pA k8)] h fun v47 h48=>v47=(.tuple ⟨[]⟩)/\ax (fA (jE N a n c f kn k7 k8 b m d) Inv3) mz3 [(.int .i64 N),(.slice a n c),(.func (.func f) ⟨[]⟩ ⟨[(.pointer (some ⟨kn,0,none⟩))]⟩),(pA k7),(pA k8),(.func (.func 79) ⟨[]⟩ ⟨[(pA k7),(pA k8)]⟩),(.slice b m d),(iA m),(.int .i64 (wrap .i64 ((j:Int)+1)))] h48) (ax (fA (ff N a n c f kn k7 k8) Inv2) mz2 [(.int .i64 N),(.slice a n c),(.func (.func f) ⟨[]⟩ ⟨[(.pointer (some ⟨kn,0,none⟩))]⟩),(pA k7),(pA k8),(.func (.func 79) ⟨[]⟩ ⟨[(pA k7),(pA k8)]⟩)] h))(mz3:Nat){j:Nat}{h:Heap}(hi:Inv3 mz3 j h):LL SS bt [1,1,1,1,1,0,0,0,1,0,1,1,1,0,0] (jE N a n c f kn k7 k8 b m d j) h (KK SS bt [1,0,1,1,1,0] [1,1,1,1,1,0,0,0] (RR bt [1,1,1,1,1,0,0,0] (fA (ff N a n c f kn k7 k8) Inv2) mz2 (KK SS bt [1,1,1,1,1,0,0] [] (EE SS bt Q)))):=
 bH (jE N a n c f kn k7 k8 b m d) Inv3 (fun mz3 j zz h hi=>aj (step mz3 j zz h hi)) mz3 hi
end Go.Proofs.YtoabjjimjldcfaaGreatDoor
end
section
set_option linter.unusedVariables false
namespace Go.Ab
open Go
def aG:Value->Option Nat
 | .slice (some a) _ _=>some a.block
 | _=>none
def OwnG (h0 h:Heap)(e:TypeId)(v:Value)(vs:List Value):Prop:=
 (v = .slice none 0 0/\vs=[])\/ ∃ k off cs c,v = .slice (some ⟨k,off,none⟩) vs.length c/\h0.next<=k/\h.get k=some (.cells cs e 1 true)/\(cs.drop off).take vs.length=vs/\aK c+off=cs.length/\vs.length<=aK c
theorem OwnG.rd {h0 h:Heap}{e:TypeId}{v:Value}{vs:List Value}(o:OwnG h0 h e v vs):Rd h e v vs:=by
 rcases o with o | ⟨k,off,cs,c,h1,h2,h3,h4,h5,h6⟩
 ·exact .inl o
 ·exact .inr ⟨k,off,cs,c,true,h1,h3,h4⟩
theorem OwnG.keep {h0 h h':Heap}{e:TypeId}{v:Value}{vs:List Value}(o:OwnG h0 h e v vs)(hk: ∀ (k:Nat) (B:Blk),aG v=some k->h.get k=some B->h'.get k=some B):OwnG h0 h' e v vs:=by
 rcases o with o | ⟨k,off,cs,c,h1,h2,h3,h4,h5,h6⟩
 ·exact .inl o
 ·exact .inr ⟨k,off,cs,c,h1,h2,hk k _ (by rw [h1]; rfl) h3,h4,h5,h6⟩
theorem OwnG.ok {h0 h h':Heap}{e:TypeId}{v:Value}{vs:List Value}(r:OwnG h0 h e v vs)(o:Ok h h'):OwnG h0 h' e v vs:=r.keep fun k B _ hk=>o.ext _ _ hk
theorem OwnG.lt {h0 h:Heap}{e:TypeId}{v:Value}{vs:List Value}(o:OwnG h0 h e v vs)(w:Wf h){k:Nat}(hk:aG v=some k):k < h.next/\h0.next<=k:=by
 rcases o with ⟨rfl,_⟩ | ⟨k',off,cs,c,h1,h2,h3,h4,h5,h6⟩
 ·cases hk
 ·rw [h1] at hk;obtain rfl:k'=k:=oI hk;exact ⟨w _ _ h3,h2⟩
theorem OwnG.nil (h0 h:Heap)(e:TypeId):OwnG h0 h e (.slice none 0 0) []:= .inl ⟨rfl,rfl⟩
theorem OwnG.slc {h0 h:Heap}{e:TypeId}{v:Value}{vs:List Value}(o:OwnG h0 h e v vs): ∃ (a:Option Addr)(c:Nat),v = .slice a vs.length c:=by
 rcases o with ⟨rfl,rfl⟩ | ⟨k,off,cs,c,h1,h2,h3,h4,h5,h6⟩
 ·exact ⟨_,_,rfl⟩
 ·exact ⟨_,_,h1⟩
theorem OwnG.snoc {P:Program}{t e:TypeId}{i:TypeInfo}(hU:P.underlying t=some (.slice e))(hE:cL P e=some i)(hs:i.size=1){h0 g:Heap}(w0:Wf h0)(a:Ok h0 g){v:Value}{vs:List Value}(o:OwnG h0 g e v vs){x:Value}(hx:bw x=true){kx:Nat}(hkx:g.get kx=some (.cells [x] e 1 true))(hl:(vs.length+1)*i.bytes<=70368744177664)(hl2:vs.length+1<=1099511627776):
  ∃ (b:Option Addr)(n c:Nat)(u:Upd),ay P t t v (.slice (some ⟨kx,0,none⟩) 1 1) g=some (.slice b n c,u)/\n=vs.length+1/\OwnG h0 (u.app g) e (.slice b n c) (vs++[x])/\Ok h0 (u.app g)/\
   (∀ j B,g.get j=some B->aG v≠some j->(u.app g).get j=some B)/\
   (∀ j,aG (.slice b n c)=some j->g.next<=j\/aG v=some j)/\g.next<=(u.app g).next:=by
 have hT:bW P t=true:=by unfold bW; rw [hU]
 have hsrc:cg g i.size (.slice (some ⟨kx,0,none⟩) 1 1)=some ([x],1):=by
  show (match g.get kx with | some (.cells cs ..)=>if ((cs.drop 0).take (1*i.size)).length=1*i.size then some ((cs.drop 0).take (1*i.size),1) else none | _=>none)=_;rw [hkx,hs]; rfl
 unfold ay;rw [hU]; dsimp only;rw [hE]; dsimp only;rw [if_pos hT,hsrc]; dsimp only;rw [if_pos (by simp [hx,hs])];rcases o with ⟨rfl,rfl⟩ | ⟨k,off,cs,c,rfl,h2,h3,h4,h5,h6⟩
 ·show ∃ b n c u,(if 1=0 then some (Value.slice none 0 0,Upd.no) else if 1*i.bytes<=70368744177664/\1<=1099511627776 then some (Value.slice (some ⟨g.next,0,none⟩) 1 (bi+1),Upd.push (.cells [x] e i.size true)) else none)=_/\_;rw [if_neg (by omega),if_pos (by simpa using And.intro hl hl2)];refine ⟨_,_,_,_,rfl,rfl,.inr ⟨g.next,0,[x],bi+1,rfl,a.nx,?_,rfl,by rw [bJ]; rfl,by rw [bJ]; exact le_refl _⟩,a.push _,fun j B hj _=> ?_,fun j e=> .inl ?_,le_succ _⟩
  ·show (g.push (.cells [x] e i.size true)).get g.next=_;rw [Heap.get_push,if_pos rfl,hs]
  ·show (g.push _).get j=_;rw [Heap.get_push,if_neg (fun e=>by have:=a.wf _ _ hj; omega)];exact hj
  ·have:g.next=j:=oI e;omega
 ·dsimp only;rw [if_neg (by omega),hs,mul_one];have hkn:=a.wf _ _ h3;by_cases hroom:vs.length+1<=aK c
  ·rw [if_pos hroom];unfold storeAt;rw [h3];dsimp only;rw [if_pos ⟨by simp; omega,by simp [hx]⟩];refine ⟨_,_,_,_,rfl,rfl,.inr ⟨k,off,cs.take (off+vs.length)++[x]++cs.drop (off+vs.length+1),c,?_,h2,?_,?_,?_,?_⟩,?_,fun j B hj hne=> ?_,fun j e=> .inr e,le_refl _⟩
   ·simp
   ·show (g.set k _).get k=_;rw [Heap.get_set,if_pos rfl]; rfl
   ·have h7:(cs.take (off+vs.length)).length=off+vs.length:=by rw [length_take]; omega
    rw [append_assoc,List.drop_append_of_le_length (by rw [h7]; omega),drop_take,show off+vs.length - off=vs.length by omega,h4,length_append,length_cons,length_nil,List.take_append,take_of_length_le (by omega)];congr 1;rw [show vs.length+(0+1) - vs.length=1 by omega]; rfl
   ·simp; omega
   ·simp; omega
   ·exact a.set _ h2 hkn w0
   ·show (g.set k _).get j=_;rw [Heap.get_set,if_neg (fun e=>hne (by rw [e]; rfl))];exact hj
  ·rw [if_neg hroom];have hcl:aK c=vs.length:=by omega
   have h7:((cs.drop off).take vs.length).length=vs.length:=by rw [h4]
   unfold fT;rw [if_pos ⟨hl,hl2⟩,h3];dsimp only;rw [mul_one,if_pos ⟨rfl,rfl,h7⟩];have hnew: ∀ B:Blk,OwnG h0 ((g.push (.cells (vs++[x]) e 1 true))) e (.slice (some ⟨g.next,0,none⟩) (vs.length+1) (bi+(vs.length+1))) (vs++[x]):=fun _=>
    .inr ⟨g.next,0,vs++[x],bi+(vs.length+1),by rw [length_append]; rfl,a.nx,by rw [Heap.get_push,if_pos rfl],by rw [drop_zero,List.take_length],by rw [bJ,length_append]; rfl,by rw [bJ,length_append]; exact le_refl _⟩
   by_cases hc:c < bi
   ·rw [if_pos hc,h4];refine ⟨_,_,_,_,rfl,rfl,hnew (.map []),a.push _,fun j B hj _=> ?_,fun j e=> .inl ?_,le_succ _⟩
    ·show (g.push _).get j=_;rw [Heap.get_push,if_neg (fun e=>by have:=a.wf _ _ hj; omega)];exact hj
    ·have:g.next=j:=oI e;omega
   ·rw [if_neg hc,if_pos ⟨rfl,by omega⟩,h4];refine ⟨_,_,_,_,rfl,rfl,.inr ⟨g.next,0,vs++[x],bi+(vs.length+1),by rw [length_append]; rfl,a.nx,?_,by rw [drop_zero,List.take_length],by rw [bJ,length_append]; rfl,by rw [bJ,length_append]; exact le_refl _⟩,?_,fun j B hj hne=> ?_,fun j e=> .inl ?_,le_succ _⟩
    ·show ((g.del k).push _).get g.next=_;rw [Heap.get_push,if_pos (show g.next=(g.del k).next from rfl)]
    ·refine ⟨?_,fun j C hj=> ?_,le_trans a.nx (le_succ _)⟩
     ·refine Heap.wf_push (fun j C hj=> ?_) _;rw [Heap.get_del] at hj;split at hj
      ·cases hj
      ·exact a.wf _ _ hj
     ·have h7:=a.ext _ _ hj;have h8:=a.wf _ _ h7;show ((g.del k).push _).get j=_;rw [Heap.get_push,if_neg (fun e=>by have:j=g.next:=e; omega),Heap.get_del,if_neg (fun e=>by have:=w0 _ _ hj; omega)];exact h7
    ·have h8:=a.wf _ _ hj;show ((g.del k).push _).get j=_;rw [Heap.get_push,if_neg (fun e=>by have:j=g.next:=e; omega),Heap.get_del,if_neg (fun e=>hne (by rw [e]; rfl))];exact hj
    ·have:g.next=j:=oI e;omega
theorem OwnG.upto {P:Program}{t e:TypeId}(hU:P.underlying t=some (.slice e))(hs:an P e=some 1){h0 h:Heap}{v:Value}{vs:List Value}(r:OwnG h0 h e v vs){z:Nat}(hz:z<=vs.length)(hp:0 < vs.length):
  ∃ a n c,aH P t v none (some (.int .i64 (z:Int))) none h=some (.slice a n c)/\OwnG h0 h e (.slice a n c) (vs.take z)/\aG (.slice a n c)=aG v:=by
 rcases r with ⟨rfl,rfl⟩ | ⟨k,off,cs,c,rfl,h2,h3,h4,h5,h6⟩
 ·simp at hp
 ·refine ⟨some ⟨k,off+0*1,none⟩,z,c,?_,.inr ⟨k,off,cs,c,?_,h2,h3,?_,h5,?_⟩,rfl⟩
  ·unfold aH;dsimp only;rw [hU];dsimp only [bI];rw [hs,h3];dsimp only;rw [if_pos (by simp),if_pos (by omega)];have e2:((z:Int) - ((0:Nat):Int)).toNat=z:=by omega
   have e0:((0:Nat):Int).toNat=0:=rfl;rw [e2,e0]; rfl
  ·rw [length_take,min_eq_left hz]; rfl
  ·rw [length_take,min_eq_left hz,<-h4,List.take_take,min_eq_left hz]
  ·rw [length_take]; omega
theorem OwnG.from_ {P:Program}{t e:TypeId}(hU:P.underlying t=some (.slice e))(hs:an P e=some 1){h0 h:Heap}{v:Value}{vs:List Value}(r:OwnG h0 h e v vs){z:Nat}(hz:z<=vs.length)(hp:0 < vs.length):
  ∃ a n c,aH P t v (some (.int .i64 (z:Int))) none none h=some (.slice a n c)/\OwnG h0 h e (.slice a n c) (vs.drop z)/\aG (.slice a n c)=aG v:=by
 rcases r with ⟨rfl,rfl⟩ | ⟨k,off,cs,c,rfl,h2,h3,h4,h5,h6⟩
 ·simp at hp
 ·have hcap:aK (c - z)=aK c - z:=by
   unfold aK at h6 ⊢;by_cases hc:bi<=c
   ·rw [if_pos hc] at h6;rw [if_pos hc,if_pos (by omega)]; omega
   ·rw [if_neg hc,if_neg (by omega)]
  refine ⟨some ⟨k,off+z*1,none⟩,vs.length - z,c - z,?_,.inr ⟨k,off+z,cs,c - z,?_,h2,h3,?_,?_,?_⟩,rfl⟩
  ·unfold aH;dsimp only;rw [hU];dsimp only [bI];rw [hs,h3];dsimp only;rw [if_pos (by simp),if_pos (by omega)];have e1:((z:Int)).toNat=z:=by omega
   have e2:((vs.length:Int) - (z:Int)).toNat=vs.length - z:=by omega
   rw [e1,e2]
  ·rw [length_drop,mul_one]
  ·have:=congrArg (List.drop z) h4;rw [drop_take,drop_drop] at this;rw [length_drop];exact this
  ·rw [hcap]; omega
  ·rw [hcap,length_drop]; omega
theorem OwnG.built {h0 h:Heap}{e:TypeId}{k:Nat}{vs:List Value}(hk:h.get k=some (.cells vs e 1 true))(h0k:h0.next<=k)(hl:vs.length < bi):OwnG h0 h e (.slice (some ⟨k,0,none⟩) vs.length vs.length) vs:=
 .inr ⟨k,0,vs,vs.length,rfl,h0k,hk,by simp,by unfold aK; rw [if_neg (by omega)]; rfl,by unfold aK; rw [if_neg (by omega)]; exact le_refl _⟩
end Go.Ab
end
section
namespace Go.Num
section
inductive Rch (E:Nat->Nat->Prop)(F:Nat->Prop):Nat->Prop where
 | base {x:Nat} (h:F x):Rch E F x
 | step {y x:Nat} (h:Rch E F y) (e:E y x):Rch E F x
def cntF (L:List Bool):Nat:=(L.filter fun b=> !b).length
theorem AL: ∀ {L:List Bool}{s:Nat},s < L.length->L.getD s false=false->cntF (L.set s true)+1=cntF L
 | [],s,h,_=>by simp at h
 | b::L,0,h,h0=>by
  have:b=false:=by simpa using h0
  subst this;simp [cntF]
 | b::L,s+1,h,h0=>by
  have ih:=AL (L:=L) (s:=s) (by simpa using h) (by simpa using h0);unfold cntF at ih ⊢
  cases b <;> simp at ih ⊢ <;> omega
theorem getD_setT {L:List Bool}{s x:Nat}(hs:s < L.length):(L.set s true).getD x false=if x=s then true else L.getD x false:=by
 rw [gD,getElem?_set,gD];split
 ·next e=>subst e; simp
 ·next e=>rw [if_neg (fun c=>e c.symm)]
structure SInv (E:Nat->Nat->Prop)(F:Nat->Prop)(N:Nat)(L:List Bool)(T:List Nat)(ex:Nat->Prop):Prop where
 len:L.length=N
 tin: ∀ x∈T,x < N/\L.getD x false=true
 snd: ∀ x,L.getD x false=true->Rch E F x
 cls: ∀ y,L.getD y false=true->y ∉ T-> ¬ ex y-> ∀ z,E y z->L.getD z false=true
section
variable {E:Nat->Nat->Prop} {F:Nat->Prop} {N:Nat} {L:List Bool} {T:List Nat} {ex:Nat->Prop}
theorem sinv_new (n:Nat)(ex:Nat->Prop):SInv E F n (List.replicate n false) [] ex:=by
 have h: ∀ x,(List.replicate n false).getD x false=false:=fun x=>by
  rw [gD,getElem?_replicate]; split <;> rfl
 exact ⟨length_replicate,fun x hx=>(by cases hx),fun x hx=>(by rw [h] at hx; cases hx),fun y hy=>(by rw [h] at hy; cases hy)⟩
theorem SInv.see (v:SInv E F N L T ex){s:Nat}(hs:s < N)(hr:Rch E F s)(h0:L.getD s false=false):SInv E F N (L.set s true) (T++[s]) ex/\cntF (L.set s true)+1=cntF L:=by
 have hl:s < L.length:=by rw [v.len]; exact hs
 refine ⟨⟨by rw [length_set]; exact v.len,fun x hx=> ?_,fun x hx=> ?_,fun y hy hyT he z hz=> ?_⟩,AL hl h0⟩
 ·rcases mem_append.1 hx with h | h
  ·obtain ⟨h1,h2⟩:=v.tin x h;refine ⟨h1,?_⟩;rw [getD_setT hl]; split
   ·rfl
   ·exact h2
  ·rw [mem_singleton] at h;subst h;exact ⟨hs,by rw [getD_setT hl,if_pos rfl]⟩
 ·rw [getD_setT hl] at hx;split at hx
  ·next e=>rw [e]; exact hr
  ·exact v.snd x hx
 ·rw [getD_setT hl] at hy ⊢;split
  ·rfl
  ·split at hy
   ·next e=>exact absurd (mem_append.2 (.inr (by rw [mem_singleton]; exact e))) hyT
   ·exact v.cls y hy (fun c=>hyT (mem_append.2 (.inl c))) he z hz
theorem SInv.take {T':List Nat}{s:Nat}(v:SInv E F N L T (fun _=>False))(h1: ∀ x∈T',x∈T)(h2: ∀ x∈T,x∈T'\/x=s):SInv E F N L T' (fun y=>y=s):=
 ⟨v.len,fun x hx=>v.tin x (h1 x hx),v.snd,fun y hy hyT he z hz=>v.cls y hy (fun c=>(h2 y c).elim hyT he) (fun c=>c) z hz⟩
theorem SInv.done {s:Nat}(v:SInv E F N L T (fun y=>y=s))(h: ∀ z,E s z->L.getD z false=true):SInv E F N L T (fun _=>False):=
 ⟨v.len,v.tin,v.snd,fun y hy hyT _ z hz=>by
  by_cases e:y=s
  ·subst e; exact h z hz
  ·exact v.cls y hy hyT e z hz⟩
theorem SInv.final (v:SInv E F N L [] (fun _=>False))(hF: ∀ x,F x->L.getD x false=true)(x:Nat):L.getD x false=true↔Rch E F x:=by
 refine ⟨v.snd x,fun h=> ?_⟩
 induction h with
 | base h=>exact hF _ h
 | step _ e ih=>exact v.cls _ ih (fun c=>(by cases c)) (fun c=>c) _ e
end
end
end Go.Num
end
section
set_option linter.unusedVariables false
set_option maxRecDepth 100000
namespace Go.Proofs.YtoabjjimjldcfaaGreatDoor
open Go Go.Ab
section
theorem xH {h0 g:Heap}(w0:Wf h0)(ok:Ok h0 g){v:Value}{vs:List Value}(o:OwnG h0 g 3 v vs){z:Int}{kx:Nat}(hkx:g.get kx=some (.cells [.int .i64 z] 3 1 true))(hl:vs.length<=100000):
  ∃ (b:Option Addr)(n c:Nat)(u:Upd),ay SS.P 48 48 v (.slice (some ⟨kx,0,none⟩) 1 1) g=some (.slice b n c,u)/\n=vs.length+1/\OwnG h0 (u.app g) 3 (.slice b n c) (vs++[.int .i64 z])/\Ok h0 (u.app g)/\
   (∀ j B,g.get j=some B->aG v≠some j->(u.app g).get j=some B)/\
   (∀ j,aG (.slice b n c)=some j->g.next<=j\/aG v=some j)/\g.next<=(u.app g).next:=
 OwnG.snoc gP Ko AO w0 ok o rfl hkx (by rw [yh]; omega) (by omega)
theorem Cy:an SS.P 48=some 1:=by kernel_rfl
theorem PX:an SS.P 46=some 1:=by kernel_rfl
theorem BF:Go.Ab.isAgg SS.P 48=false:=by kernel_rfl
theorem OL:Go.Ab.isAgg SS.P 46=false:=by kernel_rfl
theorem uS:SS.P.underlying 72=some (.slice 48):=by kernel_rfl
theorem Ns:an SS.P 72=some 1:=by kernel_rfl
theorem Cp:Go.Ab.isAgg SS.P 72=false:=by kernel_rfl
theorem dS (a:Option Addr)(n c:Nat):bw (.slice a n c)=true:=by cases a <;> rfl
def Bx1 (g:Heap)(k:Nat)(t:TypeId)(v:Value):Prop:=g.get k=some (.cells [v] t 0 true)
theorem Bx1.ok {g g':Heap}{k:Nat}{t:TypeId}{v:Value}(b:Bx1 g k t v)(o:Ok g g'):Bx1 g' k t v:=o.ext _ _ b
theorem Bx1.ld {g:Heap}{k:Nat}{t:TypeId}{v:Value}{d:TypeDesc}(hU:SS.P.underlying t=some d)(ha:Go.Ab.isAgg SS.P t=false)(b:Bx1 g k t v):ah SS.P t g (.pointer (some ⟨k,0,none⟩))=some v:=cH hU ha b (by simp)
theorem Bx1.st {g:Heap}{k:Nat}{t:TypeId}{v:Value}(hs:an SS.P t=some 1)(b:Bx1 g k t v){v':Value}(hv:bw v'=true)(hc:v'.cells = #[v']):ai SS.P t (.pointer (some ⟨k,0,none⟩)) v' g=some (undef,.set k (.cells [v'] t 0 true)):=fB hs b (by simp) hv hc
structure Sst (h:Heap)(k7 k8 kt N:Nat)(L:List Bool)(T:List Nat)(g:Heap):Prop where
 b7:Bx1 g k7 46 (.slice (some ⟨kt,0,none⟩) N N)
 b8: ∃ tv,Bx1 g k8 48 tv/\OwnG h g 3 tv (T.map iv)/\aG tv≠some kt/\aG tv≠some k7/\aG tv≠some k8
 row:BR h kt N L g
 n7:h.next<=k7
 n8:h.next<=k8
 d1:k7≠kt
 d2:k8≠kt
 d3:k7≠k8
section
variable {h:Heap} {k7 k8 kt N:Nat} {L:List Bool} {T:List Nat} {g:Heap}
theorem IA (w:Wf h)(st:Sst h k7 k8 kt N L T g){s:Nat}(hs:s < N)(hT:T.length<=100000):
  FW SS 79 [.int .i64 (s:Int),.pointer (some ⟨k7,0,none⟩),.pointer (some ⟨k8,0,none⟩)] g (fun v g'=>v = .tuple ⟨[]⟩/\((L.getD s false=true/\Sst h k7 k8 kt N L T g')\/(L.getD s false=false/\Sst h k7 k8 kt N (L.set s true) (T++[s]) g'))):=by
 obtain ⟨tv,t1,t2,t3,t4,t5⟩:=st.b8;obtain ⟨r1,r2,r3⟩:=st.row.get (c:=N) (x:=(s:Int)) (by omega) (by omega);rw [toNat_natCast] at r1 r2 r3;refine K8 s k7 k8 g _ ⟨_,_,_,st.b7.ld F4 OL,_,r1,_,r2,ae (fun q=> ?_) (fun q=> ?_)⟩
 ·rw [not_eq_true'] at q;obtain ⟨u,s1,s2,s3⟩:=r3 true w;refine ⟨_,_,_,st.b7.ld F4 OL,_,r1,u,s1,?_⟩;have b7':Bx1 (u.app g) k7 46 (.slice (some ⟨kt,0,none⟩) N N):=s3 _ _ st.b7 st.d1;have b8':Bx1 (u.app g) k8 48 tv:=s3 _ _ t1 st.d2;have ow:OwnG h (u.app g) 3 tv (T.map iv):=t2.keep fun j B hj hB=>s3 j B hB (fun e=>t3 (by rw [hj,e]));generalize u.app g=g1 at *;obtain ⟨ta,tc,rfl⟩:=ow.slc;rw [lM] at *;refine ⟨_,_,_,b8'.ld gP BF,?_⟩;have ok1:=s2.row.ok;have op:=(Ok.refl ok1.wf).push (.cells [.int .i64 (s:Int)] 3 1 true);have hk:=aq g1 (.cells [.int .i64 (s:Int)] 3 1 true);obtain ⟨b,n',c',u2,a1,a2,a3,a4,a5,a6,a7⟩:=xH w (ok1.trans op) (ow.ok op) hk (by rw [lM]; exact hT);refine ⟨_,_,_,jR _,b,n',c',u2,a1,?_⟩;have b7'':=a5 _ _ (b7'.ok op) t4;have b8'':Bx1 (u2.app (g1.push (.cells [.int .i64 (s:Int)] 3 1 true))) k8 48 _:=a5 _ _ (b8'.ok op) t5;have rw2:=a5 _ _ (op.ext _ _ s2.row.row) t3;have hgn:g1.next<=(g1.push (.cells [.int .i64 (s:Int)] 3 1 true)).next:=le_succ _;have l7:=ok1.wf _ _ b7';have l8:=ok1.wf _ _ b8';have lt:=s2.row.lt;generalize g1.push (.cells [.int .i64 (s:Int)] 3 1 true)=gp at *;generalize u2.app gp=g2 at *;refine ⟨_,b8''.st Cy (dS _ _ _) rfl,rfl,.inr ⟨q,?_⟩⟩;have okf:Ok h ((Upd.set k8 (.cells [.slice b n' c'] 48 0 true)).app g2):=a4.set _ st.n8 (a4.wf _ _ b8'') w;have hset: ∀ j,j≠k8->((Upd.set k8 (.cells [.slice b n' c'] 48 0 true)).app g2).get j=g2.get j:=fun j hj=>by
   show (g2.set k8 _).get j=_;rw [Heap.get_set,if_neg hj]
  have hself:((Upd.set k8 (.cells [.slice b n' c'] 48 0 true)).app g2).get k8=some (.cells [.slice b n' c'] 48 0 true):=by
   show (g2.set k8 _).get k8=_;rw [Heap.get_set,if_pos rfl]
  have nb: ∀ j,aG (.slice ta T.length tc)≠some j->j < g1.next->aG (.slice b n' c')≠some j:=fun j h1 h2 e=>by
   rcases a6 j e with h3 | h3
   ·omega
   ·exact h1 h3
  refine ⟨?_,⟨_,hself,?_,nb _ t3 lt,nb _ t4 l7,nb _ t5 l8⟩,⟨s2.len,?_,s2.row.new,okf⟩,st.n7,st.n8,st.d1,st.d2,st.d3⟩
  ·show _=_;rw [hset _ st.d3]; exact b7''
  ·rw [map_append];exact a3.keep fun j B hj hB=>by rw [hset j (fun e=>nb _ t5 l8 (by rw [hj,e]))]; exact hB
  ·rw [hset _ (fun e=>st.d2 e.symm)]; exact rw2
 ·rw [not_eq_false'] at q;exact ⟨rfl,.inl ⟨q,st⟩⟩
def AdjR (g:Heap)(a:Option Addr)(N c:Nat)(A:List (List Nat)):Prop:=A.length=N/\ ∃ vs:List Value,Rd g 48 (.slice a N c) vs/\vs.length=N/\ ∀ (i:Nat)(l:List Nat),A[i]?=some l-> ∃ (b:Option Addr)(m d:Nat),vs[i]?=some (.slice b m d)/\Rd g 3 (.slice b m d) (l.map iv)
theorem AdjR.ok {g g':Heap}{a:Option Addr}{N c:Nat}{A:List (List Nat)}(r:AdjR g a N c A)(o:Ok g g'):AdjR g' a N c A:=by
 obtain ⟨h1,vs,h2,h3,h4⟩:=r;exact ⟨h1,vs,h2.ok o,h3,fun i l hl=>let ⟨b,m,d,e1,e2⟩:=h4 i l hl; ⟨b,m,d,e1,e2.ok o⟩⟩
theorem AdjR.at2 {h g:Heap}{a:Option Addr}{N c:Nat}{A:List (List Nat)}(r:AdjR h a N c A)(o:Ok h g){i:Nat}{l:List Nat}(hl:A[i]?=some l):
  ∃ (p:Addr)(b:Option Addr)(m d:Nat),ag SS.P 72 (.slice a N c) (.int .i64 (i:Int))=some (.pointer (some p))/\ah SS.P 48 g (.pointer (some p))=some (.slice b m d)/\Rd h 3 (.slice b m d) (l.map iv):=by
 obtain ⟨h1,vs,h2,h3,h4⟩:=r;obtain ⟨b,m,d,e1,e2⟩:=h4 i l hl;have hi:=(List.getElem?_eq_some_iff.1 hl).1;obtain ⟨p,q1,q2⟩:=(h2.ok o).at_ uS Cy gP BF (k:= .i64) (i:=(i:Int)) (by omega) (by omega);rw [toNat_natCast,gD,e1] at q2;exact ⟨p,b,m,d,q1,q2,e2⟩
def zF (h:Heap)(f kn:Nat)(A:List (List Nat)):Prop:=Nat.blt f YB=true/\ ∀ (g:Heap),Ok h g-> ∀ (s:Nat)(l:List Nat),A[s]?=some l->FW SS f [.int .i64 (s:Int),.pointer (some ⟨kn,0,none⟩)] g (fun v g'=> ∃ (b:Option Addr)(m d:Nat),v = .slice b m d/\Rd h 3 (.slice b m d) (l.map iv)/\g'=g)
theorem K2 {kn c:Nat}{a:Option Addr}{A:List (List Nat)}(w:Wf h)(bx:Bx1 h kn 72 (.slice a N c))(r:AdjR h a N c A):zF h 62 kn A:=by
 refine ⟨by decide +kernel,fun g o s l hl=> ?_⟩;obtain ⟨p,b,m,d,e1,e2,e3⟩:=r.at2 o hl;exact Jl s kn g _ ⟨_,_,_,(bx.ok o).ld uS Cp,_,e1,_,_,_,e2,b,m,d,rfl,e3,rfl⟩
theorem KW {kn c:Nat}{a:Option Addr}{A:List (List Nat)}(w:Wf h)(bx:Bx1 h kn 72 (.slice a N c))(r:AdjR h a N c A):zF h 63 kn A:=by
 refine ⟨by decide +kernel,fun g o s l hl=> ?_⟩;obtain ⟨p,b,m,d,e1,e2,e3⟩:=r.at2 o hl;exact I4 s kn g _ ⟨_,_,_,(bx.ok o).ld uS Cp,_,e1,_,_,_,e2,b,m,d,rfl,e3,rfl⟩
def w6 (A:List (List Nat))(y x:Nat):Prop:=x∈A.getD y []
end
end
section
theorem J0 {h:Heap}{a:Option Addr}{n c:Nat}{l:List Nat}(r:Rd h 3 (.slice a n c) (l.map iv)){i:Nat}{x:Nat}(hx:l[i]?=some x): ∃ p:Addr,ag SS.P 48 (.slice a n c) (.int .i64 (i:Int))=some (.pointer (some p))/\ah SS.P 3 h (.pointer (some p))=some (.int .i64 (x:Int)):=by
 have hi:=(List.getElem?_eq_some_iff.1 hx).1;obtain ⟨p,h2,h3⟩:=r.at_ gP tF CU BW (k:= .i64) (i:=(i:Int)) (by omega) (by rw [lM]; omega);rw [toNat_natCast,gD,getElem?_map,hx] at h3;exact ⟨p,h2,h3⟩
theorem KH {h:Heap}{a:Option Addr}{n c:Nat}{l:List Nat}(r:Rd h 3 (.slice a n c) (l.map iv)):n=l.length:=by have:=r.len; rwa [lM] at this
theorem H4 {T:List Nat}(h:0 < T.length): ∃ s,T[T.length - 1]?=some s/\(∀ x∈T.take (T.length - 1),x∈T)/\(∀ x∈T,x∈T.take (T.length - 1)\/x=s)/\s∈T:=by
 obtain ⟨s,hs⟩: ∃ s,T[T.length - 1]?=some s:=⟨_,gE (by omega)⟩
 have e:T=T.take (T.length - 1)++[s]:=by
  have h1:(T.take (T.length - 1+1))=T:=take_of_length_le (by omega);rw [take_add_one,hs] at h1;exact h1.symm
 refine ⟨s,hs,fun x hx=>List.mem_of_mem_take hx,fun x hx=> ?_,List.mem_of_getElem? hs⟩;rw [e] at hx;rcases mem_append.1 hx with h1 | h1
 ·exact .inl h1
 ·rw [mem_singleton] at h1; exact .inr h1
structure Sq (h:Heap)(E:Nat->Nat->Prop)(F:List Nat)(k7 k8 kt N:Nat)(ex:Nat->Prop)(L:List Bool)(T:List Nat)(g:Heap):Prop where
 st:Sst h k7 k8 kt N L T g
 inv:Num.SInv E (· ∈F) N L T ex
 bd:2*Num.cntF L+T.length<=2*N
section
variable {h:Heap} {E:Nat->Nat->Prop} {F:List Nat} {k7 k8 kt N:Nat} {ex:Nat->Prop} {L:List Bool} {T:List Nat} {g:Heap}
theorem CO (w:Wf h)(hN:N<=1000)(q:Sq h E F k7 k8 kt N ex L T g){s:Nat}(hs:s < N)(hr:Num.Rch E (· ∈F) s):
  FW SS 79 [.int .i64 (s:Int),.pointer (some ⟨k7,0,none⟩),.pointer (some ⟨k8,0,none⟩)] g (fun v g'=>v = .tuple ⟨[]⟩/\ ∃ L' T',Sq h E F k7 k8 kt N ex L' T' g'/\(∀ x,L.getD x false=true->L'.getD x false=true)/\L'.getD s false=true/\2*Num.cntF L'+T'.length<=2*Num.cntF L+T.length):=by
 have hb:=q.bd;refine (IA w q.st hs (by omega)).mono ?_;rintro _ g' ⟨rfl,⟨h1,h2⟩ | ⟨h1,h2⟩⟩
 ·exact ⟨rfl,L,T,⟨h2,q.inv,q.bd⟩,fun _ h=>h,h1,le_refl _⟩
 ·obtain ⟨i1,i2⟩:=q.inv.see hs hr h1;have hl:s < L.length:=by rw [q.inv.len]; exact hs
  refine ⟨rfl,_,_,⟨h2,i1,?_⟩,fun x hx=> ?_,?_,?_⟩
  ·rw [length_append,length_singleton]; omega
  ·rw [Num.getD_setT hl]; split
   ·rfl
   ·exact hx
  ·rw [Num.getD_setT hl,if_pos rfl]
  ·rw [length_append,length_singleton]; omega
theorem Sst.put (w:Wf h)(st:Sst h k7 k8 kt N L T g){T':List Nat}{b:Option Addr}{m d:Nat}(ow:OwnG h g 3 (.slice b m d) (T'.map iv))(hb: ∀ tv,Bx1 g k8 48 tv->aG (.slice b m d)=aG tv):
  ∃ u:Upd,ai SS.P 48 (.pointer (some ⟨k8,0,none⟩)) (.slice b m d) g=some (undef,u)/\Sst h k7 k8 kt N L T' (u.app g)/\Ok h (u.app g):=by
 obtain ⟨tv,t1,t2,t3,t4,t5⟩:=st.b8;have e:=hb tv t1;refine ⟨_,t1.st Cy (dS _ _ _) rfl,?_⟩;have ok:=st.row.row.ok;have okf:Ok h ((Upd.set k8 (.cells [.slice b m d] 48 0 true)).app g):=ok.set _ st.n8 (ok.wf _ _ t1) w;have hset: ∀ j,j≠k8->((Upd.set k8 (.cells [.slice b m d] 48 0 true)).app g).get j=g.get j:=fun j hj=>by
  show (g.set k8 _).get j=_;rw [Heap.get_set,if_neg hj]
 refine ⟨⟨?_,⟨.slice b m d,?_,ow.keep fun j B hj hB=>by rw [hset j (fun c=>t5 (by rw [<-e,hj,c]))]; exact hB,by rw [e]; exact t3,by rw [e]; exact t4,by rw [e]; exact t5⟩,⟨st.row.len,?_,st.row.row.new,okf⟩,st.n7,st.n8,st.d1,st.d2,st.d3⟩,okf⟩
 ·show _=_;rw [hset _ st.d3]; exact st.b7
 ·show (g.set k8 _).get k8=_;rw [Heap.get_set,if_pos rfl]
 ·rw [hset _ (fun c=>st.d2 c.symm)]; exact st.row.row.row
end
section
variable {h:Heap} {N:Nat} {A:List (List Nat)} {f kn:Nat} {a:Option Addr} {n c:Nat} {F:List Nat} {k7 k8 kt:Nat}
def RE (h:Heap)(A:List (List Nat))(F:List Nat)(k7 k8 kt N n:Nat)(mz i:Nat)(g:Heap):Prop:=i<=n/\mz=n - i/\ ∃ L T,Sq h (w6 A) F k7 k8 kt N (fun _=>False) L T g/\ ∀ x∈F.take i,L.getD x false=true
def Rq (h:Heap)(A:List (List Nat))(F:List Nat)(k7 k8 kt N:Nat)(mz2 dm:Nat)(g:Heap):Prop:= ∃ L T,Sq h (w6 A) F k7 k8 kt N (fun _=>False) L T g/\(∀ x∈F,L.getD x false=true)/\2*Num.cntF L+T.length<=mz2
def RT (h:Heap)(A:List (List Nat))(F:List Nat)(k7 k8 kt N:Nat)(l:List Nat)(s m mz2:Nat)(mz3 j:Nat)(g:Heap):Prop:=j<=m/\mz3=m - j/\ ∃ L T,Sq h (w6 A) F k7 k8 kt N (fun y=>y=s) L T g/\(∀ x∈F,L.getD x false=true)/\2*Num.cntF L+T.length+1<=mz2/\(∀ z∈l.take j,L.getD z false=true)/\Num.Rch (w6 A) (· ∈F) s
def sQ (h:Heap)(A:List (List Nat))(F:List Nat)(N:Nat):VH:=fun v h'=> ∃ kt L,v = .slice (some ⟨kt,0,none⟩) N N/\BR h kt N L h'/\ ∀ x,L.getD x false=true↔Num.Rch (w6 A) (· ∈F) x
set_option linter.defProp false in
def Mu (w:Wf h)(hN:N<=1000)(hAin: ∀ l∈A,∀ x∈l,x < N){s:Nat}{l:List Nat}(hl:A[s]?=some l)(hll:l.length<=100000){b:Option Addr}{m d:Nat}(rd:Rd h 3 (.slice b m d) (l.map iv))(mz2:Nat)(hmz:0 < mz2):=
 qH (N:Int) a n c f kn k7 k8 b m d (Rq h A F k7 k8 kt N) mz2 (RT h A F k7 k8 kt N l s m mz2) (sQ h A F N) (by
  intro mz3 j; intros; rename_i g hin;obtain ⟨f1,f2,L,T,q,hF,hm2,hz,hr⟩:=hin;have hm:=KH rd;refine ae (fun g1=> ?_) (fun g1=> ?_)
  ·have g1:=dT g1;obtain ⟨x,hx⟩: ∃ x,l[j]?=some x:=⟨_,gE (by omega)⟩
   obtain ⟨p,e1,e2⟩:=J0 (rd.ok q.st.row.row.ok) hx;have hxl:=List.mem_of_getElem? hx;have hE:w6 A s x:=by
    show x∈A.getD s [];rw [gD,hl]; exact hxl
   refine ⟨_,e1,_,e2,(CO w hN q (hAin l (List.mem_of_getElem? hl) x hxl) (.step hr hE)).mono ?_⟩;rintro _ g2 ⟨rfl,L',T',q',h1,h2,h3⟩;refine ⟨rfl,?_⟩;rw [az (i:=j) (n:=m) (by omega) (by omega)];refine bp (mz3 - 1) (by omega) ⟨by omega,by omega,L',T',q',fun y hy=>h1 y (hF y hy),by omega,fun z hz'=> ?_,hr⟩;rw [take_add_one,hx] at hz';rcases mem_append.1 hz' with h4 | h4
   ·exact h1 z (hz z h4)
   ·have:z=x:=by simpa using h4
    rw [this]; exact h2
  ·have g1:=dF g1;rw [take_of_length_le (by omega)] at hz;refine bp (mz2 - 1) (a:=0) (by omega) ⟨L,T,⟨q.st,q.inv.done fun z hE=>hz z ?_,q.bd⟩,hF,by omega⟩;have:z∈A.getD s []:=hE;rw [gD,hl] at this;exact this)
set_option linter.defProp false in
def Mh (w:Wf h)(hN:N<=1000)(hA:A.length=N)(hAin: ∀ l∈A,∀ x∈l,x < N)(hAl: ∀ l∈A,l.length<=100000)(nx:zF h f kn A):=
 rD (N:Int) a n c f kn k7 k8 (Rq h A F k7 k8 kt N) (sQ h A F N) (by
  intro mz2 dm; intros; rename_i g hin;obtain ⟨L,T,q,hF,hm2⟩:=hin;obtain ⟨tv,t1,t2,t3,t4,t5⟩:=q.st.b8;obtain ⟨ta,tc,htv⟩:=t2.slc;rw [lM] at htv;subst htv;refine ⟨_,_,_,t1.ld gP BF,ae (fun g1=> ?_) (fun g1=> ?_)⟩
  ·have g1:=dT g1;obtain ⟨s,hs,p1,p2,p3⟩:=H4 (T:=T) (by omega);have hb:=q.bd;have hw:wrap .i64 ((T.length:Int) - 1)=((T.length - 1:Nat):Int):=by rw [am (by omega) (by omega)]; omega
   obtain ⟨p,e1,e2⟩:=J0 t2.rd hs;refine ⟨_,_,_,t1.ld gP BF,_,_,_,t1.ld gP BF,p,by rw [hw]; exact e1,_,e2,_,_,_,t1.ld gP BF,_,_,_,t1.ld gP BF,?_⟩;dsimp only;rw [hw];obtain ⟨b,m,d,x1,x2,x3⟩:=t2.upto gP tF (z:=T.length - 1) (by rw [lM]; omega) (by rw [lM]; omega);rw [<-List.map_take] at x2;obtain ⟨u,y1,y2,y3⟩:=q.st.put w x2 (fun tv' ht'=>by
    have:Value.slice ta T.length tc=tv':=by
     have:=t1.symm.trans ht';injection this with this; injection this with this; injection this with this
    rw [<-this]; exact x3)
   refine ⟨b,m,d,x1,u,y1,PQ nx.1 ?_⟩;have hsN:=(q.inv.tin s p3).1;obtain ⟨l,hl⟩: ∃ l,A[s]?=some l:=⟨_,gE (by omega)⟩
   refine (nx.2 _ y3 s l hl).mono ?_;rintro _ g2 ⟨b',m',d',rfl,rd,rfl⟩;refine ⟨b',m',d',rfl,?_⟩;have hT':(T.take (T.length - 1)).length=T.length - 1:=by rw [length_take]; omega
   exact Mu w hN hAin hl (hAl l (List.mem_of_getElem? hl)) rd mz2 (by omega) m' (j:=0) ⟨by omega,by omega,L,T.take (T.length - 1),⟨y2,q.inv.take p1 p2,by omega⟩,hF,by omega,fun z hz=>(by rw [take_zero] at hz; cases hz),q.inv.snd s (q.inv.tin s p3).2⟩
  ·have g1:=dF g1;obtain rfl:T=[]:=List.eq_nil_of_length_eq_zero (by omega);exact ⟨_,_,_,q.st.b7.ld F4 OL,kt,L,rfl,q.st.row,q.inv.final hF⟩)
theorem ye (w:Wf h)(hN:N<=1000)(hA:A.length=N)(hAin: ∀ l∈A,∀ x∈l,x < N)(hAl: ∀ l∈A,l.length<=100000)(nx:zF h f kn A)(rf:Rd h 3 (.slice a n c) (F.map iv))(hF: ∀ x∈F,x < N)(hFl:F.length<=100000):
  FW SS 61 [.int .i64 (N:Int),.slice a n c,.func (.func f) ⟨[]⟩ ⟨[.pointer (some ⟨kn,0,none⟩)]⟩] h (sQ h A F N):=by
 have b0:=BR.new w N;have hal46:aF SS.P 46=some (.cells [.slice none 0 0] 46 0 true,iy):=by kernel_rfl
 have hal48:aF SS.P 48=some (.cells [.slice none 0 0] 48 0 true,iy):=by kernel_rfl
 refine F1 (N:Int) a n c f kn h _ ⟨_,_,_,Oa N (by omega),_,hal46,?_⟩;have o0:=b0.row.ok;have lt0:=b0.row.lt;have n0:=b0.row.new;generalize h.push (.cells ((List.replicate N false).map Value.bool) 4 1 true)=g0 at *;have o1:=(Ok.refl o0.wf).push (.cells [.slice none 0 0] 46 0 true);have k1:Bx1 (g0.push (.cells [.slice none 0 0] 46 0 true)) g0.next 46 (.slice none 0 0):=aq g0 _;refine ⟨_,k1.st PX (dS _ _ _) rfl,_,hal48,?_⟩;obtain ⟨o2,k2⟩:=cG (cs:=[.slice (some ⟨h.next,0,none⟩) N N]) o0.wf o1 k1 (le_refl _);generalize (Upd.set g0.next (.cells [.slice (some ⟨h.next,0,none⟩) N N] 46 0 true)).app (g0.push (.cells [.slice none 0 0] 46 0 true))=g1 at *;have o3:=(Ok.refl o2.wf).push (.cells [.slice none 0 0] 48 0 true);have k3:Bx1 (g1.push (.cells [.slice none 0 0] 48 0 true)) g1.next 48 (.slice none 0 0):=aq g1 _;have l1:=o2.nx;have l2:=o2.wf _ _ k2;have l0:=o0.nx;have st:Sst h g0.next g1.next h.next N (List.replicate N false) [] (g1.push (.cells [.slice none 0 0] 48 0 true)):=
  ⟨Bx1.ok (show Bx1 g1 g0.next 46 _ from k2) o3,⟨_,k3,OwnG.nil _ _ _,by simp [aG],by simp [aG],by simp [aG]⟩,(b0.trans o2).trans o3,by omega,by omega,by omega,by omega,by omega⟩
 generalize g1.push (.cells [.slice none 0 0] 48 0 true)=g2 at *;have hc:Num.cntF (List.replicate N false)=N:=by simp [Num.cntF]
 refine qR (N:Int) a n c f kn g0.next g1.next (RE h A F g0.next g1.next h.next N n) (sQ h A F N) (fun mz i=> ?_) n (i:=0) ⟨by omega,rfl,_,_,⟨st,Num.sinv_new N _,by rw [hc]; simp⟩,fun x hx=>(by rw [take_zero] at hx; cases hx)⟩;intros; rename_i gg hi;obtain ⟨f1,f2,L,T,q,hz⟩:=hi;have hn:=KH rf;refine ae (fun q1=> ?_) (fun q1=> ?_)
 ·have q1:=dT q1;obtain ⟨x,hx⟩: ∃ x,F[i]?=some x:=⟨_,gE (by omega)⟩
  obtain ⟨p,e1,e2⟩:=J0 (rf.ok q.st.row.row.ok) hx;have hxF:=List.mem_of_getElem? hx;refine ⟨_,e1,_,e2,(CO w hN q (hF x hxF) (.base hxF)).mono ?_⟩;rintro _ g3 ⟨rfl,L',T',q',h1,h2,h3⟩;refine ⟨rfl,?_⟩;rw [az (i:=i) (n:=n) (by omega) (by omega)];refine bp (mz - 1) (by omega) ⟨by omega,by omega,L',T',q',fun z hz'=> ?_⟩;rw [take_add_one,hx] at hz';rcases mem_append.1 hz' with h4 | h4
  ·exact h1 z (hz z h4)
  ·have:z=x:=by simpa using h4
   rw [this]; exact h2
 ·have q1:=dF q1;rw [take_of_length_le (by omega)] at hz;exact Mh w hN hA hAin hAl nx (2*Num.cntF L+T.length) (dm:=0) ⟨L,T,q,hz,le_refl _⟩
end
end
section
theorem aA {α:Type}{l:List α}{i j:Nat}{x y:α}(h:(l.set i x)[j]?=some y):(j=i/\y=x)\/(j≠i/\l[j]?=some y):=by
 rw [getElem?_set] at h;split at h
 ·next e=>
  split at h
  ·exact .inl ⟨e.symm,(oI h).symm⟩
  ·cases h
 ·next e=>exact .inr ⟨fun c=>e c.symm,h⟩
structure Fam (hb g:Heap)(X:Nat->Prop)(vs:List Value)(F:List (List Nat)):Prop where
 len:vs.length=F.length
 own: ∀ (i:Nat)(v:Value)(l:List Nat),vs[i]?=some v->F[i]?=some l->OwnG hb g 3 v (l.map iv)
 dis: ∀ (i j:Nat)(v v':Value),i≠j->vs[i]?=some v->vs[j]?=some v'-> ∀ k,aG v=some k->aG v'≠some k
 out: ∀ (i:Nat)(v:Value),vs[i]?=some v-> ∀ k,aG v=some k-> ¬ X k
section
variable {hb g:Heap} {X:Nat->Prop} {vs:List Value} {F:List (List Nat)}
theorem Fam.keep (f:Fam hb g X vs F){g':Heap}(h: ∀ (k:Nat) (B:Blk),¬ X k->g.get k=some B->g'.get k=some B):Fam hb g' X vs F:=
 ⟨f.len,fun i v l hv hl=>(f.own i v l hv hl).keep fun k B hk hB=>h k B (f.out i v hv k hk) hB,f.dis,f.out⟩
theorem Fam.ok (f:Fam hb g X vs F){g':Heap}(o:Ok g g'):Fam hb g' X vs F:=f.keep fun k B _ hB=>o.ext k B hB
theorem Fam.at_ (f:Fam hb g X vs F){i:Nat}{l:List Nat}(hl:F[i]?=some l): ∃ (a:Option Addr)(c:Nat),vs[i]?=some (.slice a l.length c)/\OwnG hb g 3 (.slice a l.length c) (l.map iv):=by
 have hi:=(List.getElem?_eq_some_iff.1 hl).1;obtain ⟨v,hv⟩: ∃ v,vs[i]?=some v:=⟨_,gE (by rw [f.len]; exact hi)⟩
 have o:=f.own i v l hv hl;obtain ⟨a,c,rfl⟩:=o.slc;rw [lM] at *;exact ⟨a,c,hv,o⟩
theorem Fam.snoc (w:Wf hb)(ok:Ok hb g)(f:Fam hb g X vs F)(hX: ∀ k,X k->k < g.next){idx:Nat}{v:Value}{l:List Nat}(hv:vs[idx]?=some v)(hl:F[idx]?=some l){x:Nat}{kx:Nat}(hkx:g.get kx=some (.cells [.int .i64 (x:Int)] 3 1 true))(hll:l.length<=100000):
  ∃ (b:Option Addr)(n c:Nat)(u:Upd),ay SS.P 48 48 v (.slice (some ⟨kx,0,none⟩) 1 1) g=some (.slice b n c,u)/\n=l.length+1/\Fam hb (u.app g) X (vs.set idx (.slice b n c)) (F.set idx (l++[x]))/\Ok hb (u.app g)/\
   (∀ j B,g.get j=some B->aG v≠some j->(u.app g).get j=some B)/\g.next<=(u.app g).next:=by
 have ov:=f.own idx v l hv hl;obtain ⟨b,n,c,u,a1,a2,a3,a4,a5,a6,a7⟩:=xH w ok ov hkx (by rw [lM]; exact hll);rw [lM] at a2;refine ⟨b,n,c,u,a1,a2,⟨by rw [length_set,length_set]; exact f.len,fun i v' l' hv' hl'=> ?_,fun i j v1 v2 hij h1 h2 k hk1 hk2=> ?_,fun i v' hv' k hk hXk=> ?_⟩,a4,a5,a7⟩
 ·rcases aA hv' with ⟨e1,rfl⟩ | ⟨e1,h1⟩
  ·rcases aA hl' with ⟨_,rfl⟩ | ⟨e2,_⟩
   ·rw [map_append]; exact a3
   ·exact absurd e1 e2
  ·rcases aA hl' with ⟨e2,_⟩ | ⟨_,h2⟩
   ·exact absurd e2 e1
   ·exact (f.own i v' l' h1 h2).keep fun k B hk hB=>a5 k B hB fun c=>f.dis i idx v' v e1 h1 hv k hk c
 ·have lt: ∀ (j:Nat)(v2:Value),vs[j]?=some v2->aG v2=some k->k < g.next:=fun j v2 h2 hk2=>by
   obtain ⟨l2,hl2⟩: ∃ l2,F[j]?=some l2:=⟨_,gE (by rw [<-f.len]; exact (List.getElem?_eq_some_iff.1 h2).1)⟩
   exact ((f.own j v2 l2 h2 hl2).lt ok.wf hk2).1
  rcases aA h1 with ⟨e1,rfl⟩ | ⟨e1,h1⟩
  ·rcases aA h2 with ⟨e2,_⟩ | ⟨e2,h2⟩
   ·exact hij (by rw [e1,e2])
   ·rcases a6 k hk1 with h3 | h3
    ·have:=lt j v2 h2 hk2; omega
    ·exact f.dis idx j v v2 (fun c=>e2 c.symm) hv h2 k h3 hk2
  ·rcases aA h2 with ⟨e2,rfl⟩ | ⟨e2,h2⟩
   ·rcases a6 k hk2 with h3 | h3
    ·have:=lt i v1 h1 hk1; omega
    ·exact f.dis idx i v v1 (fun c=>e1 c.symm) hv h1 k h3 hk1
   ·exact f.dis i j v1 v2 hij h1 h2 k hk1 hk2
 ·rcases aA hv' with ⟨e1,rfl⟩ | ⟨e1,h1⟩
  ·rcases a6 k hk with h3 | h3
   ·have:=hX k hXk; omega
   ·exact f.out idx v hv k h3 hXk
  ·exact f.out i v' h1 k hk hXk
end
structure Us (hb:Heap)(R:Nat)(kt:Nat->Nat)(N:Nat)(X:Nat->Prop)(vs:List Value)(F:List (List Nat))(g:Heap):Prop where
 cc: ∀ r,r < R->g.get (kt r)=some (.cells ((vs.drop (r*N)).take N) 48 1 true)
 fam:Fam hb g X vs F
 ok:Ok hb g
 len:F.length=R*N+1
 xt: ∀ r,r < R->X (kt r)/\hb.next<=kt r
 inj: ∀ r r',r < R->r' < R->r≠r'->kt r≠kt r'
 xlt: ∀ k,X k->k < g.next
section
variable {hb g:Heap} {R:Nat} {kt:Nat->Nat} {N:Nat} {X:Nat->Prop} {vs:List Value} {F:List (List Nat)}
theorem Us.ext (s:Us hb R kt N X vs F g){g':Heap}(o:Ok g g'):Us hb R kt N X vs F g':=
 ⟨fun r hr=>o.ext _ _ (s.cc r hr),s.fam.ok o,s.ok.trans o,s.len,s.xt,s.inj,fun k hk=>Nat.lt_of_lt_of_le (s.xlt k hk) o.nx⟩
theorem Ey {r i:Nat}(hr:r < R)(hi:i < N):r*N+i < R*N+1:=by
 have:(r+1)*N<=R*N:=mul_le_mul_right _ hr;rw [add_mul,one_mul] at this;omega
theorem Us.ld (s:Us hb R kt N X vs F g){r i:Nat}(hr:r < R)(hi:i < N): ∃ (l:List Nat)(a:Option Addr)(c:Nat),F[r*N+i]?=some l/\vs[r*N+i]?=some (.slice a l.length c)/\ag SS.P 72 (.slice (some ⟨kt r,0,none⟩) N N) (.int .i64 (i:Int))=some (.pointer (some ⟨kt r,i,none⟩))/\ ∀ g',Us hb R kt N X vs F g'->ah SS.P 48 g' (.pointer (some ⟨kt r,i,none⟩))=some (.slice a l.length c)/\Rd g' 3 (.slice a l.length c) (l.map iv):=by
 have hlt:=Ey hr hi;obtain ⟨l,hl⟩: ∃ l,F[r*N+i]?=some l:=⟨_,gE (by rw [s.len]; exact hlt)⟩
 obtain ⟨a,c,hv,_⟩:=s.fam.at_ hl;refine ⟨l,a,c,hl,hv,?_,fun g' s'=>⟨?_,?_⟩⟩
 ·have:=zD (P:=SS.P) uS Cy (k:=kt r) (off:=0) (n:=N) (c:=N) (ik:= .i64) (i:=(i:Int)) (by omega) (by omega);rw [this,toNat_natCast,zero_add,mul_one]
 ·have h1:((vs.drop (r*N)).take N)[i]?=some (.slice a l.length c):=by rw [getElem?_take,if_pos hi,getElem?_drop]; exact hv
  rw [cH gP BF (s'.cc r hr) (List.getElem?_eq_some_iff.1 h1).1,gD,h1]; rfl
 ·exact (s'.fam.own _ _ _ hv hl).rd
theorem xg {α:Type}(vs:List α)(o N i:Nat)(x:α)(hi:i < N):((vs.set (o+i) x).drop o).take N=((vs.drop o).take N).set i x:=by
 rw [List.drop_set,if_neg (by omega),show o+i - o=i by omega,List.take_set]
theorem lK {α:Type}(vs:List α)(o N j:Nat)(x:α)(h:j < o\/o+N<=j):((vs.set j x).drop o).take N=(vs.drop o).take N:=by
 apply List.ext_getElem?;intro i;rw [getElem?_take,getElem?_take,getElem?_drop,getElem?_drop];split
 ·rw [getElem?_set,if_neg (by omega)]
 ·rfl
theorem Us.put (w:Wf hb)(s:Us hb R kt N X vs F g){r i:Nat}(hr:r < R)(hi:i < N){vs':List Value}{F':List (List Nat)}{b:Option Addr}{n c:Nat}{l':List Nat}(ev:vs'=vs.set (r*N+i) (.slice b n c))(eF:F'=F.set (r*N+i) l'){g2:Heap}(fm:Fam hb g2 X vs' F')(ok2:Ok hb g2)(hk: ∀ j B,g.get j=some B->X j->g2.get j=some B)(hn:g.next<=g2.next):
  ∃ u:Upd,ai SS.P 48 (.pointer (some ⟨kt r,i,none⟩)) (.slice b n c) g2=some (undef,u)/\Us hb R kt N X vs' F' (u.app g2)/\(∀ j B,g2.get j=some B->j≠kt r->(u.app g2).get j=some B):=by
 have hc:=hk _ _ (s.cc r hr) (s.xt r hr).1;have hlt:=Ey hr hi;have hl:i < ((vs.drop (r*N)).take N).length:=by
  have h1:(R*N+1)=vs.length:=by rw [s.fam.len,s.len]
  have h2:(r+1)*N<=R*N:=mul_le_mul_right _ hr;rw [add_mul,one_mul] at h2;rw [length_take,length_drop]; omega
 refine ⟨_,fB Cy hc hl (dS _ _ _) rfl,?_,fun j B hj hne=> ?_⟩
 ·have hset: ∀ j,j≠kt r->((Upd.set (kt r) (.cells (((vs.drop (r*N)).take N).set i (.slice b n c)) 48 1 true)).app g2).get j=g2.get j:=fun j hj=>by
   show (g2.set (kt r) _).get j=_;rw [Heap.get_set,if_neg hj]
  refine ⟨fun r' hr'=> ?_,fm.keep fun k B hX hB=> ?_,ok2.set _ (s.xt r hr).2 (ok2.wf _ _ hc) w,by rw [eF,length_set]; exact s.len,s.xt,s.inj,fun k hX=>Nat.lt_of_lt_of_le (s.xlt k hX) hn⟩
  ·by_cases e:r'=r
   ·subst e;show (g2.set (kt r') _).get (kt r')=_;rw [Heap.get_set,if_pos rfl,ev,xg _ _ _ _ _ hi]
   ·rw [hset _ (s.inj r' r hr' hr e),hk _ _ (s.cc r' hr') (s.xt r' hr').1,ev,lK];rcases lt_or_ge r r' with h1 | h1
    ·have:=mul_le_mul_right N (show r+1<=r' from h1);rw [add_mul,one_mul] at this;exact .inl (by omega)
    ·have:=mul_le_mul_right N (show r'+1<=r by omega);rw [add_mul,one_mul] at this;exact .inr (by omega)
  ·rw [hset k (fun c=>hX (c ▸ (s.xt r hr).1))]; exact hB
 ·show (g2.set (kt r) _).get j=_;rw [Heap.get_set,if_neg hne]; exact hj
theorem Us.adj (s:Us hb R kt N X vs F g){r:Nat}(hr:r < R):AdjR g (some ⟨kt r,0,none⟩) N N ((F.drop (r*N)).take N):=by
 have h2:(r+1)*N<=R*N:=mul_le_mul_right _ hr;rw [add_mul,one_mul] at h2;have hF:=s.len;have hv:=s.fam.len;have l1:((vs.drop (r*N)).take N).length=N:=by rw [length_take,length_drop]; omega
 refine ⟨by rw [length_take,length_drop]; omega,(vs.drop (r*N)).take N,.inr ⟨kt r,0,_,N,true,by rw [l1],s.cc r hr,by rw [drop_zero,List.take_length]⟩,l1,fun i l hl=> ?_⟩;rw [getElem?_take] at hl;split at hl
 ·next hi=>
  rw [getElem?_drop] at hl;obtain ⟨a,c,h3,h4⟩:=s.fam.at_ hl;exact ⟨a,_,c,by rw [getElem?_take,if_pos hi,getElem?_drop]; exact h3,h4.rd⟩
 ·cases hl
end
theorem nM {g:Heap}(w:Wf g){n j:Nat}(hj:j < n)(B:Blk):Ok g (aB (Go.Ab.room g n) g.next [(j,B)])/\(aB (Go.Ab.room g n) g.next [(j,B)]).get (g.next+j)=some B:=by
 refine ⟨((Ok.refl w).room n).set B (Nat.le_add_right _ _) (Nat.add_lt_add_left hj _) w,?_⟩;show ((Go.Ab.room g n).set (g.next+j) B).get (g.next+j)=_;rw [Heap.get_set,if_pos rfl]
end
noncomputable def ba:FD:=bF Tryz.f41 [([1,1,1,1,0,1,0,0],[1,2,3,4,5,6,22,23,24]),([1,1,1,1,0,1,0,0,1,1,0,0,1,1,1,0,0],[1,2,3,4,5,6,7,8,22,23,24,37,38,39]),([1,1,1,1,1,1,0,1,0,0],[11,77,78,79])]
abbrev dC (k k4 k5:Nat)(a:OA)(n c:Nat)(i:Nat)(e:OA)(en ec:Nat):LV:=[(pA k),nA,(iA n),(pA k4),(pA k5),(.slice e en ec),(.slice a n c),(iA n),(iA i)]
abbrev eO (k k4 k5:Nat)(a:OA)(n c k8:Nat)(e:OA)(en ec:Nat)(b:OA)(m d i:Nat)(j:Nat):LV:=[(pA k),nA,(iA n),(pA k4),(pA k5),(.slice e en ec),(iA i),(pA k8),(.slice a n c),(iA n),(iA i),(.slice b m d),(iA m),(iA j)]
abbrev gJ (n kl kr:Nat)(i:Nat):LV:=[(sA kl n n),(sA kr n n),(iA n),(iA i)]
theorem Gi (mv:LV)(h:Heap)(Q:VH)(hx:xN (dc SS.P 24 (.agg ⟨mv⟩)) h fun B1 g2=>xP (af SS.P 24 (pA (h.next)) 3) fun p3=>xL (ah SS.P 22 g2 (.pointer (some p3))) fun a4 n5 c6=>zR (aP SS.P 72 (iA n5) (iA n5)) fun B7 n8 c9=>zR (aP SS.P 72 (iA n5) (iA n5)) fun B10 n11 c12=>zN (aF SS.P 72) fun B13=>zN (aF SS.P 72) fun B14=>xU (ai SS.P 72 (pA (g2.next+4)) (sA (g2.next+1) n8 c9) (aB (room g2 8) g2.next [(5,B14),(4,B13),(1,B7)])) (aB (room g2 8) g2.next [(5,B14),(4,B13),(1,B7)]) fun u15 g16=>xU (ai SS.P 72 (pA (g2.next+5)) (sA (g2.next+3) n11 c12) (aB g16 g2.next [(3,B10)])) (aB g16 g2.next [(3,B10)]) fun u17 g18=>xP (af SS.P 24 (pA (h.next)) 3) fun p19=>xL (ah SS.P 22 g18 (.pointer (some p19))) fun a20 n21 c22=>LL SS ba [1,1,1,1,0,1,0,0] [(pA (h.next)),nA,(iA n5),(pA (g2.next+4)),(pA (g2.next+5)),nA,(.slice a20 n21 c22),(iA n21),(.int .i64 0)] g18 (KK SS ba [1,1,1,1,0,1,0] [] (EE SS ba Q))):FW SS 41 [(.agg ⟨mv⟩)] h Q:=bG ba Tryz.func41 (aj hx)
theorem rQ (mv:LV)(k k4 k5:Nat)(a:OA)(n c:Nat)(Inv:Nat->Nat->OA->Nat->Nat->Heap->Prop)(Q:VH)(step: ∀ (mz:Nat) (i:Nat) (e:OA) (en ec:Nat) (zz:Nat->Value) (h:Heap),Inv mz i e en ec h->au (decide (((i:Int):Int) < (n:Int))) (xP (ag SS.P 22 (.slice a n c) (iA i)) fun p23=>xA (ah SS.P 37 h (.pointer (some p23))) fun c24=>xN (aF SS.P 37) h fun B25 g26=>xU (ai SS.P 37 (pA (h.next)) (.agg ⟨c24⟩) g26) g26 fun u27 g28=>xP (af SS.P 37 (pA (h.next)) 0) fun p29=>xS (ah SS.P 9 g28 (.pointer (some p29))) fun l30=>au (!((l30:LB) == [])) (xR (ak SS.P 48 1 [(0,(iA i))]) g28 fun B31 n32 c33 g34=>xE (ay SS.P 48 48 (.slice e en ec) (sA (g28.next) n32 c33) g34) g34 fun a35 n36 c37 u38 g39=>xP (af SS.P 37 (pA (h.next)) 1) fun p40=>xL (ah SS.P 35 g39 (.pointer (some p40))) fun a41 n42 c43=>LL SS ba [1,1,1,1,0,1,0,0,1,1,0,0,1,1,1,0,0] (eO k k4 k5 a n c (h.next) a35 n36 c37 a41 n42 c43 i 0) g39 (KK SS ba [1,1,0,0,1,1,1,0] [1,1,1,1,0,1,0,0] (RR ba [1,1,1,1,0,1,0,0] (kY (dC k k4 k5 a n c) Inv) mz (KK SS ba [1,1,1,1,0,1,0] [] (EE SS ba Q))))) (xP (af SS.P 37 (pA (h.next)) 1) fun p44=>xL (ah SS.P 35 g28 (.pointer (some p44))) fun a45 n46 c47=>LL SS ba [1,1,1,1,0,1,0,0,1,1,0,0,1,1,1,0,0] (eO k k4 k5 a n c (h.next) e en ec a45 n46 c47 i 0) g28 (KK SS ba [1,1,0,0,1,1,1,0] [1,1,1,1,0,1,0,0] (RR ba [1,1,1,1,0,1,0,0] (kY (dC k k4 k5 a n c) Inv) mz (KK SS ba [1,1,1,1,0,1,0] [] (EE SS ba Q)))))) (xP (af SS.P 24 (pA k) 1) fun p48=>xI .i64 (ah SS.P 3 h (.pointer (some p48))) fun n49=>xR (ak SS.P 48 1 [(0,(.int .i64 n49))]) h fun B50 n51 c52 g53=>FW SS 61 [(iA n),(sA (h.next) n51 c52),(.func (.func 62) ⟨[]⟩ ⟨[(pA k4)]⟩)] g53 fun v54 h55=>yL v54 fun a56 n57 c58=>FW SS 61 [(iA n),(.slice e en ec),(.func (.func 63) ⟨[]⟩ ⟨[(pA k5)]⟩)] h55 fun v59 h60=>yL v59 fun a61 n62 c63=>LL SS ba [1,1,1,1,1,1,0,1,0,0] [(.slice a56 n57 c58),(.slice a61 n62 c63),(iA n62),(.int .i64 0)] h60 (KK SS ba [1,1,1,1,1,1,0,1,0] [] (EE SS ba Q))))(mz:Nat){i:Nat}{e:OA}{en ec:Nat}{h:Heap}(hi:Inv mz i e en ec h):LL SS ba [1,1,1,1,0,1,0,0] (dC k k4 k5 a n c i e en ec) h (KK SS ba [1,1,1,1,0,1,0] [] (EE SS ba Q)):=
 jW (dC k k4 k5 a n c) Inv (fun mz i e en ec zz h hi=>aj (step mz i e en ec zz h hi)) mz hi
theorem qW (mv:LV)(k k4 k5:Nat)(a:OA)(n c:Nat)(k8:Nat)(e:OA)(en ec:Nat)(b:OA)(m d:Nat)(Inv:Nat->Nat->OA->Nat->Nat->Heap->Prop)(mz i:Nat)(Inv2:Nat->Nat->Heap->Prop)(Q:VH)(step: ∀ (mz2:Nat) (j:Nat) (zz:Nat->Value) (h:Heap),Inv2 mz2 j h->au (decide (((j:Int):Int) < (m:Int))) (xP (ag SS.P 35 (.slice b m d) (iA j)) fun p64=>xA (ah SS.P 39 h (.pointer (some p64))) fun c65=>xN (aF SS.P 39) h fun B66 g67=>xU (ai SS.P 39 (pA (h.next)) (.agg ⟨c65⟩) g67) g67 fun u68 g69=>xL (ah SS.P 72 (room g69 12) (pA k4)) fun a70 n71 c72=>xL (ah SS.P 72 (room g69 12) (pA k4)) fun a73 n74 c75=>xP (ag SS.P 72 (.slice a73 n74 c75) (iA i)) fun p76=>xL (ah SS.P 48 (room g69 12) (.pointer (some p76))) fun a77 n78 c79=>xP (af SS.P 39 (pA (h.next)) 3) fun p80=>xI .i64 (ah SS.P 3 (room g69 12) (.pointer (some p80))) fun n81=>zR (ak SS.P 48 1 [(0,(.int .i64 n81))]) fun B82 n83 c84=>xE (ay SS.P 48 48 (.slice a77 n78 c79) (sA (g69.next+8) n83 c84) (aB (room g69 12) g69.next [(8,B82)])) (aB (room g69 12) g69.next [(8,B82)]) fun a85 n86 c87 u88 g89=>xP (ag SS.P 72 (.slice a70 n71 c72) (iA i)) fun p90=>xU (ai SS.P 48 (.pointer (some p90)) (.slice a85 n86 c87) g89) g89 fun u91 g92=>(ah SS.P 72 g89 (pA k4)=some (.slice a70 n71 c72)/\dY 4 (.slice a70 n71 c72) (.slice a70 n71 c72)=true)/\xL (ah SS.P 72 (room g92 13) (pA k5)) fun a93 n94 c95=>xP (af SS.P 39 (pA (h.next)) 3) fun p96=>xI .i64 (ah SS.P 3 (room g92 13) (.pointer (some p96))) fun n97=>xL (ah SS.P 72 (room g92 13) (pA k5)) fun a98 n99 c100=>xP (af SS.P 39 (pA (h.next)) 3) fun p101=>xI .i64 (ah SS.P 3 (room g92 13) (.pointer (some p101))) fun n102=>xP (ag SS.P 72 (.slice a98 n99 c100) (.int .i64 n102)) fun p103=>xL (ah SS.P 48 (room g92 13) (.pointer (some p103))) fun a104 n105 c106=>zR (ak SS.P 48 1 [(0,(iA i))]) fun B107 n108 c109=>xE (ay SS.P 48 48 (.slice a104 n105 c106) (sA (g92.next+9) n108 c109) (aB (room g92 13) g92.next [(9,B107)])) (aB (room g92 13) g92.next [(9,B107)]) fun a110 n111 c112 u113 g114=>xP (ag SS.P 72 (.slice a93 n94 c95) (.int .i64 n97)) fun p115=>xU (ai SS.P 48 (.pointer (some p115)) (.slice a110 n111 c112) g114) g114 fun u116 g117=>(ah SS.P 72 g114 (pA k5)=some (.slice a93 n94 c95)/\dY 4 (.slice a93 n94 c95) (.slice a93 n94 c95)=true)/\(ah SS.P 3 g114 (.pointer (some p96))=some (.int .i64 n97)/\dY 4 (.int .i64 n97) (.int .i64 n97)=true)/\ax (fA (eO k k4 k5 a n c k8 e en ec b m d i) Inv2) mz2 [(pA k),nA,(iA n),(pA k4),(pA k5),(.slice e en ec),(iA i),(pA k8),(.slice a n c),(iA n),(iA i),(.slice b m d),(iA m),(.int .i64 (wrap .i64 ((j:Int)+1)))] g117) (ax (kY (dC k k4 k5 a n c) Inv) mz [(pA k),nA,(iA n),(pA k4),(pA k5),(.slice e en ec),(.slice a n c),(iA n),(.int .i64 (wrap .i64 ((i:Int)+1)))] h))(mz2:Nat){j:Nat}{h:Heap}(hi:Inv2 mz2 j h):LL SS ba [1,1,1,1,0,1,0,0,1,1,0,0,1,1,1,0,0] (eO k k4 k5 a n c k8 e en ec b m d i j) h (KK SS ba [1,1,0,0,1,1,1,0] [1,1,1,1,0,1,0,0] (RR ba [1,1,1,1,0,1,0,0] (kY (dC k k4 k5 a n c) Inv) mz (KK SS ba [1,1,1,1,0,1,0] [] (EE SS ba Q)))):=
 bH (eO k k4 k5 a n c k8 e en ec b m d i) Inv2 (fun mz2 j zz h hi=>aj (step mz2 j zz h hi)) mz2 hi
theorem rk (mv:LV)(n kl kr:Nat)(Inv3:Nat->Nat->Heap->Prop)(Q:VH)(step: ∀ (mz3:Nat) (i:Nat) (zz:Nat->Value) (h:Heap),Inv3 mz3 i h->au (decide (((i:Int):Int) < (n:Int))) (xP (ag SS.P 46 (sA kr n n) (iA i)) fun p118=>xB (ah SS.P 4 h (.pointer (some p118))) fun b119=>xP (ag SS.P 46 (sA kl n n) (iA i)) fun p120=>xB (ah SS.P 4 h (.pointer (some p120))) fun b121=>au b121 (xP (ag SS.P 46 (sA kl n n) (iA i)) fun p122=>xU (ai SS.P 4 (.pointer (some p122)) (.bool b119) h) h fun u123 g124=>ax (fA (gJ n kl kr) Inv3) mz3 [(sA kl n n),(sA kr n n),(iA n),(.int .i64 (wrap .i64 ((i:Int)+1)))] g124) (xP (ag SS.P 46 (sA kl n n) (iA i)) fun p125=>xU (ai SS.P 4 (.pointer (some p125)) (.bool false) h) h fun u126 g127=>ax (fA (gJ n kl kr) Inv3) mz3 [(sA kl n n),(sA kr n n),(iA n),(.int .i64 (wrap .i64 ((i:Int)+1)))] g127)) (Q (sA kl n n) h))(mz3:Nat){i:Nat}{h:Heap}(hi:Inv3 mz3 i h):LL SS ba [1,1,1,1,1,1,0,1,0,0] (gJ n kl kr i) h (KK SS ba [1,1,1,1,1,1,0,1,0] [] (EE SS ba Q)):=
 bH (gJ n kl kr) Inv3 (fun mz3 i zz h hi=>aj (step mz3 i zz h hi)) mz3 hi
noncomputable def gX:FD:=bF Tryz.f42 [([1,1,0,1,0,0],[3,4,5])]
abbrev fN (n kl kr:Nat)(i:Nat):LV:=[(sA kl n n),(sA kr n n),(iA i)]
theorem DV (mv:LV)(h:Heap)(Q:VH)(hx:xN (dc SS.P 24 (.agg ⟨mv⟩)) h fun B1 g2=>xA (ah SS.P 24 (room g2 6) (pA (h.next))) fun c3=>FW SS 64 [(.agg ⟨c3⟩)] (room g2 6) fun v4 h5=>yL v4 fun a6 n7 c8=>xA (ah SS.P 24 h5 (pA (h.next))) fun c9=>FW SS 65 [(.agg ⟨c9⟩)] h5 fun v10 h11=>yL v10 fun a12 n13 c14=>(ah SS.P 24 (room g2 6) (pA (h.next))=some (.agg ⟨c9⟩)/\dY 4 (.agg ⟨c9⟩) (.agg ⟨c9⟩)=true)/\LL SS gX [1,1,0,1,0,0] [(.slice a6 n7 c8),(.slice a12 n13 c14),(.int .i64 0)] h11 (KK SS gX [1,1,0,1,0] [] (EE SS gX Q))):FW SS 42 [(.agg ⟨mv⟩)] h Q:=bG gX Tryz.func42 (aj hx)
theorem qd (mv:LV)(n kl kr:Nat)(Inv:Nat->Nat->Heap->Prop)(Q:VH)(step: ∀ (mz:Nat) (i:Nat) (zz:Nat->Value) (h:Heap),Inv mz i h->au (decide (((i:Int):Int) < (n:Int))) (xP (ag SS.P 46 (sA kl n n) (iA i)) fun p15=>xB (ah SS.P 4 h (.pointer (some p15))) fun b16=>au b16 (xP (ag SS.P 46 (sA kr n n) (iA i)) fun p17=>xB (ah SS.P 4 h (.pointer (some p17))) fun b18=>xP (ag SS.P 46 (sA kl n n) (iA i)) fun p19=>xU (ai SS.P 4 (.pointer (some p19)) (.bool b18) h) h fun u20 g21=>ax (fA (fN n kl kr) Inv) mz [(sA kl n n),(sA kr n n),(.int .i64 (wrap .i64 ((i:Int)+1)))] g21) (xP (ag SS.P 46 (sA kl n n) (iA i)) fun p22=>xU (ai SS.P 4 (.pointer (some p22)) (.bool false) h) h fun u23 g24=>ax (fA (fN n kl kr) Inv) mz [(sA kl n n),(sA kr n n),(.int .i64 (wrap .i64 ((i:Int)+1)))] g24)) (Q (sA kl n n) h))(mz:Nat){i:Nat}{h:Heap}(hi:Inv mz i h):LL SS gX [1,1,0,1,0,0] (fN n kl kr i) h (KK SS gX [1,1,0,1,0] [] (EE SS gX Q)):=
 bH (fN n kl kr) Inv (fun mz i zz h hi=>aj (step mz i zz h hi)) mz hi
noncomputable def bM:FD:=bF Tryz.f64 [([1,1,1,1,0,0,0],[1,3,4]),([1,1,1,1,0,0,0,1,0,1,1,1,0,0],[1,3,4,5,6])]
abbrev ee (k n kl:Nat)(t:OA)(tn tc:Nat):LV:=[(pA k),(sA kl n n),(.slice t tn tc)]
abbrev fR (k n kl s:Nat)(j:Nat)(t:OA)(tn tc:Nat):LV:=[(pA k),(sA kl n n),(.slice t tn tc),(iA s),(iA j)]
theorem DO (mv:LV)(h:Heap)(Q:VH)(hx:xN (dc SS.P 24 (.agg ⟨mv⟩)) h fun B1 g2=>xP (af SS.P 24 (pA (h.next)) 3) fun p3=>xL (ah SS.P 22 g2 (.pointer (some p3))) fun a4 n5 c6=>xR (aP SS.P 46 (iA n5) (iA n5)) g2 fun B7 n8 c9 g10=>xP (af SS.P 24 (pA (h.next)) 1) fun p11=>xI .i64 (ah SS.P 3 g10 (.pointer (some p11))) fun n12=>xP (ag SS.P 46 (sA (g2.next) n8 c9) (.int .i64 n12)) fun p13=>xU (ai SS.P 4 (.pointer (some p13)) (.bool true) g10) g10 fun u14 g15=>xP (af SS.P 24 (pA (h.next)) 1) fun p16=>xI .i64 (ah SS.P 3 g15 (.pointer (some p16))) fun n17=>xR (ak SS.P 48 1 [(0,(.int .i64 n17))]) g15 fun B18 n19 c20 g21=>LL SS bM [1,1,1,1,0,0,0] [(pA (h.next)),(sA (g2.next) n8 c9),(sA (g15.next) n19 c20)] g21 (KK SS bM [1,1,1,1,0,0] [] (EE SS bM Q))):FW SS 64 [(.agg ⟨mv⟩)] h Q:=bG bM Tryz.func64 (aj hx)
theorem pT (mv:LV)(k n kl:Nat)(Inv:Nat->OA->Nat->Nat->Heap->Prop)(Q:VH)(step: ∀ (mz:Nat) (t:OA) (tn tc:Nat) (zz:Nat->Value) (h:Heap),Inv mz t tn tc h->au (decide (((tn:Int):Int) > 0)) (xP (ag SS.P 48 (.slice t tn tc) (.int .i64 0)) fun p22=>xI .i64 (ah SS.P 3 h (.pointer (some p22))) fun n23=>xL (aH SS.P 48 (.slice t tn tc) (some (.int .i64 1)) none none h) fun a24 n25 c26=>LL SS bM [1,1,1,1,0,0,0,1,0,1,1,1,0,0] [(pA k),(sA kl n n),(.slice a24 n25 c26),(.int .i64 n23),(.int .i64 0)] h (KK SS bM [1,0,1,1,1,0] [1,1,1,1,0,0,0] (RR bM [1,1,1,1,0,0,0] (GP (ee k n kl) Inv) mz (KK SS bM [1,1,1,1,0,0] [] (EE SS bM Q))))) (Q (sA kl n n) h))(mz:Nat){t:OA}{tn tc:Nat}{h:Heap}(hi:Inv mz t tn tc h):LL SS bM [1,1,1,1,0,0,0] (ee k n kl t tn tc) h (KK SS bM [1,1,1,1,0,0] [] (EE SS bM Q)):=
 Cv (ee k n kl) Inv (fun mz t tn tc zz h hi=>aj (step mz t tn tc zz h hi)) mz hi
theorem qg (mv:LV)(k n kl s:Nat)(Inv:Nat->OA->Nat->Nat->Heap->Prop)(mz:Nat)(Inv2:Nat->Nat->OA->Nat->Nat->Heap->Prop)(Q:VH)(step: ∀ (mz2:Nat) (j:Nat) (t:OA) (tn tc:Nat) (zz:Nat->Value) (h:Heap),Inv2 mz2 j t tn tc h->xP (af SS.P 24 (pA k) 3) fun p27=>xL (ah SS.P 22 h (.pointer (some p27))) fun a28 n29 c30=>xP (ag SS.P 22 (.slice a28 n29 c30) (iA s)) fun p31=>xP (af SS.P 37 (.pointer (some p31)) 1) fun p32=>xL (ah SS.P 35 h (.pointer (some p32))) fun a33 n34 c35=>au (decide (((j:Int):Int) < (n34:Int))) (xP (af SS.P 24 (pA k) 3) fun p36=>xL (ah SS.P 22 h (.pointer (some p36))) fun a37 n38 c39=>xP (ag SS.P 22 (.slice a37 n38 c39) (iA s)) fun p40=>xP (af SS.P 37 (.pointer (some p40)) 1) fun p41=>xL (ah SS.P 35 h (.pointer (some p41))) fun a42 n43 c44=>xP (ag SS.P 35 (.slice a42 n43 c44) (iA j)) fun p45=>xP (af SS.P 39 (.pointer (some p45)) 3) fun p46=>xI .i64 (ah SS.P 3 h (.pointer (some p46))) fun n47=>xP (ag SS.P 46 (sA kl n n) (.int .i64 n47)) fun p48=>xB (ah SS.P 4 h (.pointer (some p48))) fun b49=>au (!b49) (xP (ag SS.P 46 (sA kl n n) (.int .i64 n47)) fun p50=>xU (ai SS.P 4 (.pointer (some p50)) (.bool true) h) h fun u51 g52=>xR (ak SS.P 48 1 [(0,(.int .i64 n47))]) g52 fun B53 n54 c55 g56=>xE (ay SS.P 48 48 (.slice t tn tc) (sA (g52.next) n54 c55) g56) g56 fun a57 n58 c59 u60 g61=>ax (kY (fR k n kl s) Inv2) mz2 [(pA k),(sA kl n n),(.slice a57 n58 c59),(iA s),(.int .i64 (wrap .i64 ((j:Int)+1)))] g61) (ax (kY (fR k n kl s) Inv2) mz2 [(pA k),(sA kl n n),(.slice t tn tc),(iA s),(.int .i64 (wrap .i64 ((j:Int)+1)))] h)) (ax (GP (ee k n kl) Inv) mz [(pA k),(sA kl n n),(.slice t tn tc)] h))(mz2:Nat){j:Nat}{t:OA}{tn tc:Nat}{h:Heap}(hi:Inv2 mz2 j t tn tc h):LL SS bM [1,1,1,1,0,0,0,1,0,1,1,1,0,0] (fR k n kl s j t tn tc) h (KK SS bM [1,0,1,1,1,0] [1,1,1,1,0,0,0] (RR bM [1,1,1,1,0,0,0] (GP (ee k n kl) Inv) mz (KK SS bM [1,1,1,1,0,0] [] (EE SS bM Q)))):=
 jW (fR k n kl s) Inv2 (fun mz2 j t tn tc zz h hi=>aj (step mz2 j t tn tc zz h hi)) mz2 hi
noncomputable def aN:FD:=bF Tryz.f65 [([1,1,1,1,0,1,0,0],[1,3,4,5,6]),([1,1,1,1,0,1,0,0,1,0,0,1,1,0,0],[1,3,4,5,6,7]),([1,1,1,1,1,0,0,0],[3,4,5]),([1,1,1,1,1,0,0,0,1,0,1,1,1,0,0],[3,4,5,9,10])]
abbrev dE (k n kl kb:Nat)(i:Nat)(t:OA)(tn tc:Nat):LV:=[(pA k),(sA kl n n),(sA kb n n),(.slice t tn tc),(iA i)]
abbrev eS (k n kl kb:Nat)(t:OA)(tn tc i:Nat)(j:Nat):LV:=[(pA k),(sA kl n n),(sA kb n n),(.slice t tn tc),(iA i),(iA j)]
abbrev dD (n kl kb:Nat)(t:OA)(tn tc:Nat):LV:=[(sA kl n n),(sA kb n n),(.slice t tn tc)]
abbrev gi (n kl kb s:Nat)(j:Nat)(t:OA)(tn tc:Nat):LV:=[(sA kl n n),(sA kb n n),(.slice t tn tc),(iA s),(iA j)]
theorem HC (mv:LV)(h:Heap)(Q:VH)(hx:xN (dc SS.P 24 (.agg ⟨mv⟩)) h fun B1 g2=>xP (af SS.P 24 (pA (h.next)) 3) fun p3=>xL (ah SS.P 22 g2 (.pointer (some p3))) fun a4 n5 c6=>xR (aP SS.P 46 (iA n5) (iA n5)) g2 fun B7 n8 c9 g10=>xP (af SS.P 24 (pA (h.next)) 3) fun p11=>xL (ah SS.P 22 g10 (.pointer (some p11))) fun a12 n13 c14=>xR (aP SS.P 72 (iA n13) (iA n13)) g10 fun B15 n16 c17 g18=>LL SS aN [1,1,1,1,0,1,0,0] [(pA (h.next)),(sA (g2.next) n8 c9),(sA (g10.next) n16 c17),nA,(.int .i64 0)] g18 (KK SS aN [1,1,1,1,0,1,0] [] (EE SS aN Q))):FW SS 65 [(.agg ⟨mv⟩)] h Q:=bG aN Tryz.func65 (aj hx)
theorem q7 (mv:LV)(k n kl kb:Nat)(Inv:Nat->Nat->OA->Nat->Nat->Heap->Prop)(Q:VH)(step: ∀ (mz:Nat) (i:Nat) (t:OA) (tn tc:Nat) (zz:Nat->Value) (h:Heap),Inv mz i t tn tc h->xP (af SS.P 24 (pA k) 3) fun p19=>xL (ah SS.P 22 h (.pointer (some p19))) fun a20 n21 c22=>au (decide (((i:Int):Int) < (n21:Int))) (xP (af SS.P 24 (pA k) 3) fun p23=>xL (ah SS.P 22 h (.pointer (some p23))) fun a24 n25 c26=>xP (ag SS.P 22 (.slice a24 n25 c26) (iA i)) fun p27=>xP (af SS.P 37 (.pointer (some p27)) 0) fun p28=>xS (ah SS.P 9 h (.pointer (some p28))) fun l29=>au (!((l29:LB) == [])) (xP (ag SS.P 46 (sA kl n n) (iA i)) fun p30=>xU (ai SS.P 4 (.pointer (some p30)) (.bool true) h) h fun u31 g32=>xR (ak SS.P 48 1 [(0,(iA i))]) g32 fun B33 n34 c35 g36=>xE (ay SS.P 48 48 (.slice t tn tc) (sA (g32.next) n34 c35) g36) g36 fun a37 n38 c39 u40 g41=>LL SS aN [1,1,1,1,0,1,0,0,1,0,0,1,1,0,0] (eS k n kl kb a37 n38 c39 i 0) g41 (KK SS aN [1,0,0,1,1,0] [1,1,1,1,0,1,0,0] (RR aN [1,1,1,1,0,1,0,0] (kY (dE k n kl kb) Inv) mz (KK SS aN [1,1,1,1,0,1,0] [] (EE SS aN Q))))) (LL SS aN [1,1,1,1,0,1,0,0,1,0,0,1,1,0,0] (eS k n kl kb t tn tc i 0) h (KK SS aN [1,0,0,1,1,0] [1,1,1,1,0,1,0,0] (RR aN [1,1,1,1,0,1,0,0] (kY (dE k n kl kb) Inv) mz (KK SS aN [1,1,1,1,0,1,0] [] (EE SS aN Q)))))) (LL SS aN [1,1,1,1,1,0,0,0] (dD n kl kb t tn tc) h (KK SS aN [1,1,1,1,1,0,0] [] (EE SS aN Q))))(mz:Nat){i:Nat}{t:OA}{tn tc:Nat}{h:Heap}(hi:Inv mz i t tn tc h):LL SS aN [1,1,1,1,0,1,0,0] (dE k n kl kb i t tn tc) h (KK SS aN [1,1,1,1,0,1,0] [] (EE SS aN Q)):=
 jW (dE k n kl kb) Inv (fun mz i t tn tc zz h hi=>aj (step mz i t tn tc zz h hi)) mz hi
theorem qI (mv:LV)(k n kl kb:Nat)(t:OA)(tn tc:Nat)(Inv:Nat->Nat->OA->Nat->Nat->Heap->Prop)(mz i:Nat)(Inv2:Nat->Nat->Heap->Prop)(Q:VH)(step: ∀ (mz2:Nat) (j:Nat) (zz:Nat->Value) (h:Heap),Inv2 mz2 j h->xP (af SS.P 24 (pA k) 3) fun p42=>xL (ah SS.P 22 h (.pointer (some p42))) fun a43 n44 c45=>xP (ag SS.P 22 (.slice a43 n44 c45) (iA i)) fun p46=>xP (af SS.P 37 (.pointer (some p46)) 1) fun p47=>xL (ah SS.P 35 h (.pointer (some p47))) fun a48 n49 c50=>au (decide (((j:Int):Int) < (n49:Int))) (xP (af SS.P 24 (pA k) 3) fun p51=>xL (ah SS.P 22 h (.pointer (some p51))) fun a52 n53 c54=>xP (ag SS.P 22 (.slice a52 n53 c54) (iA i)) fun p55=>xP (af SS.P 37 (.pointer (some p55)) 1) fun p56=>xL (ah SS.P 35 h (.pointer (some p56))) fun a57 n58 c59=>xP (ag SS.P 35 (.slice a57 n58 c59) (iA j)) fun p60=>xP (af SS.P 39 (.pointer (some p60)) 3) fun p61=>xI .i64 (ah SS.P 3 h (.pointer (some p61))) fun n62=>xP (ag SS.P 72 (sA kb n n) (.int .i64 n62)) fun p63=>xL (ah SS.P 48 h (.pointer (some p63))) fun a64 n65 c66=>xR (ak SS.P 48 1 [(0,(iA i))]) h fun B67 n68 c69 g70=>xE (ay SS.P 48 48 (.slice a64 n65 c66) (sA (h.next) n68 c69) g70) g70 fun a71 n72 c73 u74 g75=>xP (ag SS.P 72 (sA kb n n) (.int .i64 n62)) fun p76=>xU (ai SS.P 48 (.pointer (some p76)) (.slice a71 n72 c73) g75) g75 fun u77 g78=>ax (fA (eS k n kl kb t tn tc i) Inv2) mz2 [(pA k),(sA kl n n),(sA kb n n),(.slice t tn tc),(iA i),(.int .i64 (wrap .i64 ((j:Int)+1)))] g78) (ax (kY (dE k n kl kb) Inv) mz [(pA k),(sA kl n n),(sA kb n n),(.slice t tn tc),(.int .i64 (wrap .i64 ((i:Int)+1)))] h))(mz2:Nat){j:Nat}{h:Heap}(hi:Inv2 mz2 j h):LL SS aN [1,1,1,1,0,1,0,0,1,0,0,1,1,0,0] (eS k n kl kb t tn tc i j) h (KK SS aN [1,0,0,1,1,0] [1,1,1,1,0,1,0,0] (RR aN [1,1,1,1,0,1,0,0] (kY (dE k n kl kb) Inv) mz (KK SS aN [1,1,1,1,0,1,0] [] (EE SS aN Q)))):=
 bH (eS k n kl kb t tn tc i) Inv2 (fun mz2 j zz h hi=>aj (step mz2 j zz h hi)) mz2 hi
theorem qX (mv:LV)(n kl kb:Nat)(Inv3:Nat->OA->Nat->Nat->Heap->Prop)(Q:VH)(step: ∀ (mz3:Nat) (t:OA) (tn tc:Nat) (zz:Nat->Value) (h:Heap),Inv3 mz3 t tn tc h->au (decide (((tn:Int):Int) > 0)) (xP (ag SS.P 48 (.slice t tn tc) (.int .i64 0)) fun p79=>xI .i64 (ah SS.P 3 h (.pointer (some p79))) fun n80=>xL (aH SS.P 48 (.slice t tn tc) (some (.int .i64 1)) none none h) fun a81 n82 c83=>LL SS aN [1,1,1,1,1,0,0,0,1,0,1,1,1,0,0] [(sA kl n n),(sA kb n n),(.slice a81 n82 c83),(.int .i64 n80),(.int .i64 0)] h (KK SS aN [1,0,1,1,1,0] [1,1,1,1,1,0,0,0] (RR aN [1,1,1,1,1,0,0,0] (GP (dD n kl kb) Inv3) mz3 (KK SS aN [1,1,1,1,1,0,0] [] (EE SS aN Q))))) (Q (sA kl n n) h))(mz3:Nat){t:OA}{tn tc:Nat}{h:Heap}(hi:Inv3 mz3 t tn tc h):LL SS aN [1,1,1,1,1,0,0,0] (dD n kl kb t tn tc) h (KK SS aN [1,1,1,1,1,0,0] [] (EE SS aN Q)):=
 Cv (dD n kl kb) Inv3 (fun mz3 t tn tc zz h hi=>aj (step mz3 t tn tc zz h hi)) mz3 hi
theorem qq (mv:LV)(n kl kb s:Nat)(Inv3:Nat->OA->Nat->Nat->Heap->Prop)(mz3:Nat)(Inv4:Nat->Nat->OA->Nat->Nat->Heap->Prop)(Q:VH)(step: ∀ (mz4:Nat) (j:Nat) (t:OA) (tn tc:Nat) (zz:Nat->Value) (h:Heap),Inv4 mz4 j t tn tc h->xP (ag SS.P 72 (sA kb n n) (iA s)) fun p84=>xL (ah SS.P 48 h (.pointer (some p84))) fun a85 n86 c87=>au (decide (((j:Int):Int) < (n86:Int))) (xP (ag SS.P 72 (sA kb n n) (iA s)) fun p88=>xL (ah SS.P 48 h (.pointer (some p88))) fun a89 n90 c91=>xP (ag SS.P 48 (.slice a89 n90 c91) (iA j)) fun p92=>xI .i64 (ah SS.P 3 h (.pointer (some p92))) fun n93=>xP (ag SS.P 46 (sA kl n n) (.int .i64 n93)) fun p94=>xB (ah SS.P 4 h (.pointer (some p94))) fun b95=>au (!b95) (xP (ag SS.P 46 (sA kl n n) (.int .i64 n93)) fun p96=>xU (ai SS.P 4 (.pointer (some p96)) (.bool true) h) h fun u97 g98=>xR (ak SS.P 48 1 [(0,(.int .i64 n93))]) g98 fun B99 n100 c101 g102=>xE (ay SS.P 48 48 (.slice t tn tc) (sA (g98.next) n100 c101) g102) g102 fun a103 n104 c105 u106 g107=>ax (kY (gi n kl kb s) Inv4) mz4 [(sA kl n n),(sA kb n n),(.slice a103 n104 c105),(iA s),(.int .i64 (wrap .i64 ((j:Int)+1)))] g107) (ax (kY (gi n kl kb s) Inv4) mz4 [(sA kl n n),(sA kb n n),(.slice t tn tc),(iA s),(.int .i64 (wrap .i64 ((j:Int)+1)))] h)) (ax (GP (dD n kl kb) Inv3) mz3 [(sA kl n n),(sA kb n n),(.slice t tn tc)] h))(mz4:Nat){j:Nat}{t:OA}{tn tc:Nat}{h:Heap}(hi:Inv4 mz4 j t tn tc h):LL SS aN [1,1,1,1,1,0,0,0,1,0,1,1,1,0,0] (gi n kl kb s j t tn tc) h (KK SS aN [1,0,1,1,1,0] [1,1,1,1,1,0,0,0] (RR aN [1,1,1,1,1,0,0,0] (GP (dD n kl kb) Inv3) mz3 (KK SS aN [1,1,1,1,1,0,0] [] (EE SS aN Q)))):=
 jW (gi n kl kb s) Inv4 (fun mz4 j t tn tc zz h hi=>aj (step mz4 j t tn tc zz h hi)) mz4 hi
theorem y7 {P:Program}{t:TypeId}{g g':Heap}(o:Ok g g'){a v:Value}(h:ah P t g a=some v):ah P t g' a=some v:=by
 unfold ah at h ⊢;split at h
 ·next d k i hd=>
  split at h
  ·next cs e sz wr hk=>
   rw [o.ext _ _ hk];exact h
  ·cases h
 ·cases h
theorem StRow.at2 {g0 g:Heap}{a:Option Addr}{n c:Nat}{l:List MSt}(r:StRow g0 (.slice a n c) l)(ok:Ok g0 g){i:Nat}{s:MSt}(hs:l[i]?=some s):
  ∃ (b o:Nat)(x:Option Addr)(y z:Nat),ag SS.P 22 (.slice a n c) (.int .i64 (i:Int))=some (.pointer (some ⟨b,o,none⟩))/\ah SS.P 37 g (.pointer (some ⟨b,o,none⟩))=some (.agg ⟨[aa s.f,.slice x y z]⟩)/\
   ah SS.P 9 g (.pointer (some ⟨b,o+0,none⟩))=some (aa s.f)/\ah SS.P 35 g (.pointer (some ⟨b,o+1,none⟩))=some (.slice x y z)/\ArcRow g0 (.slice x y z) s.arcs:=by
 obtain ⟨b,o,x,y,z,e1,e2,e3,e4,ar⟩:=r.at_ hs;exact ⟨b,o,x,y,z,e1,y7 ok e2,y7 ok e3,y7 ok e4,ar⟩
noncomputable def ti48:TypeInfo:=(SS.P.info? 48).getD default
theorem Lk:SS.P.info? 48=some ti48:=by kernel_rfl
theorem HN:ti48.size=1:=by kernel_rfl
theorem DF:ti48.bytes=24:=by kernel_rfl
def rU:Value:= .slice none 0 0
theorem OH:cF SS.P 48=some rU:=by kernel_rfl
theorem OQ (n:Nat)(hn:n<=100000):aP SS.P 72 (.int .i64 (n:Int)) (.int .i64 (n:Int))=some (.cells (List.replicate n rU) 48 1 true,gU n n):=by
 unfold aP aT;dsimp only;rw [uS]
 try dsimp only
 change (match SS.P.info? 48,cF SS.P 48 with
  | some i,some z=>(if z.cells.size=i.size/\0 < i.size/\(0:Int)<=(n:Int)/\(n:Int)<=(n:Int)/\(n:Int)*i.bytes<=140737488355328/\(n:Int)<=1099511627776 then some (Blk.cells (be z.cells.toList (n:Int).toNat) 48 i.size true,fun k=>Value.slice (some ⟨k,0,none⟩) (n:Int).toNat (n:Int).toNat) else none)
  | _,_=>none)=_
 rw [Lk,OH];dsimp only;rw [HN,DF,if_pos ⟨rfl,by omega,by omega,Int.le_refl _,by omega,by omega⟩];have e:((n:Int)).toNat=n:=by omega
 rw [e,show (rU).cells.toList=[rU] from rfl,mO]; rfl
def jZ (s:MSt):List Nat:=s.arcs.map fun q=>q.t.toNat
def dw (M:Mach)(y x:Nat):Prop:= ∃ s,M.states[y]?=some s/\x∈jZ s
def mN (M:Mach)(x:Nat):Prop:= ∃ s,M.states[x]?=some s/\s.f≠[]
def fO (M:Mach)(x:Nat):Prop:=Num.Rch (dw M) (fun y=>y=M.start.toNat) x/\Num.Rch (fun y x=>dw M x y) (mN M) x
def Lg (M:Mach)(i j y x:Nat):Prop:=(y < i/\dw M y x)\/(y=i/\ ∃ s,M.states[i]?=some s/\x∈(jZ s).take j)
theorem gC {M:Mach}{i y x:Nat}:Lg M i 0 y x↔y < i/\dw M y x:=by
 unfold Lg;constructor
 ·rintro (h | ⟨_,s,_,h⟩)
  ·exact h
  ·rw [take_zero] at h; cases h
 ·exact .inl
theorem vc {M:Mach}{i j y x:Nat}{s:MSt}(hs:M.states[i]?=some s)(hj:s.arcs.length<=j):Lg M i j y x↔y < i+1/\dw M y x:=by
 unfold Lg;constructor
 ·rintro (⟨h1,h2⟩ | ⟨rfl,s',h1,h2⟩)
  ·exact ⟨by omega,h2⟩
  ·exact ⟨by omega,s',h1,List.mem_of_mem_take h2⟩
 ·rintro ⟨h1,h2⟩;rcases lt_or_ge y i with h3 | h3
  ·exact .inl ⟨h3,h2⟩
  ·obtain rfl:y=i:=by omega
   obtain ⟨s',h4,h5⟩:=h2;refine .inr ⟨rfl,s',h4,?_⟩;rw [hs] at h4;obtain rfl:=oI h4;rw [take_of_length_le (by unfold jZ; rw [lM]; exact hj)];exact h5
theorem vY {M:Mach}{i j y x:Nat}{s:MSt}{q:MArc}(hs:M.states[i]?=some s)(hq:s.arcs[j]?=some q):Lg M i (j+1) y x↔Lg M i j y x\/(y=i/\x=q.t.toNat):=by
 have hq':(jZ s)[j]?=some q.t.toNat:=by unfold jZ; rw [getElem?_map,hq]; rfl
 have ht:(jZ s).take (j+1)=(jZ s).take j++[q.t.toNat]:=by rw [take_add_one,hq']; rfl
 unfold Lg;constructor
 ·rintro (h | ⟨h1,s',h2,h3⟩)
  ·exact .inl (.inl h)
  ·rw [hs] at h2;obtain rfl:=oI h2;rw [ht,mem_append,mem_singleton] at h3;rcases h3 with h3 | h3
   ·exact .inl (.inr ⟨h1,s,hs,h3⟩)
   ·exact .inr ⟨h1,h3⟩
 ·rintro ((h | ⟨h1,s',h2,h3⟩) | ⟨h1,h2⟩)
  ·exact .inl h
  ·rw [hs] at h2;obtain rfl:=oI h2;exact .inr ⟨h1,s,hs,by rw [ht]; exact mem_append.2 (.inl h3)⟩
  ·exact .inr ⟨h1,s,hs,by rw [ht,h2]; exact mem_append.2 (.inr (mem_singleton.2 rfl))⟩
structure Dn (M:Mach)(n i j i' cN:Nat)(F:List (List Nat)):Prop where
 fw: ∀ y l,y < n->F[0*n+y]?=some l-> ∀ x,x∈l↔Lg M i j y x
 bk: ∀ t l,t < n->F[1*n+t]?=some l-> ∀ x,x∈l↔Lg M i j x t
 en: ∀ l,F[2*n]?=some l-> ∀ x,x∈l↔x < i'/\mN M x
 ln: ∀ l∈F,l.length<=cN
theorem qf {F:List (List Nat)}{idx:Nat}{l':List Nat}{c:Nat}(h: ∀ l∈F,l.length<=c)(h2:l'.length<=c+1): ∀ l∈F.set idx l',l.length<=c+1:=fun l hl=>by
 rcases List.mem_or_eq_of_mem_set hl with h1 | h1
 ·exact Nat.le_succ_of_le (h l h1)
 ·rw [h1]; exact h2
theorem Dn.arc {M:Mach}{n i j i' cN:Nat}{F:List (List Nat)}(d:Dn M n i j i' cN F)(hi:i < n){s:MSt}{q:MArc}(hs:M.states[i]?=some s)(hq:s.arcs[j]?=some q)(ht:q.t.toNat < n){l1 l2:List Nat}(h1:F[0*n+i]?=some l1)(h2:F[1*n+q.t.toNat]?=some l2):
  Dn M n i (j+1) i' (cN+1) ((F.set (0*n+i) (l1++[q.t.toNat])).set (1*n+q.t.toNat) (l2++[i])):=by
 have b1:=d.ln l1 (List.mem_of_getElem? h1);have b2:=d.ln l2 (List.mem_of_getElem? h2);refine ⟨fun y l hy hl x=> ?_,fun t l ht' hl x=> ?_,fun l hl x=> ?_,fun l hl=> ?_⟩
 ·rw [vY hs hq];rcases aA hl with ⟨e,_⟩ | ⟨_,hl⟩
  ·omega
  ·rcases aA hl with ⟨e,rfl⟩ | ⟨e,hl⟩
   ·obtain rfl:y=i:=by omega
    rw [mem_append,mem_singleton,d.fw y l1 hy h1 x];exact ⟨fun c=>c.imp id fun c=>⟨rfl,c⟩,fun c=>c.imp id fun c=>c.2⟩
   ·rw [d.fw y l hy hl x];exact ⟨.inl,fun c=>c.elim id fun c=>absurd (by rw [c.1]) e⟩
 ·rw [vY hs hq];rcases aA hl with ⟨e,rfl⟩ | ⟨e,hl⟩
  ·obtain rfl:t=q.t.toNat:=by omega
   rw [mem_append,mem_singleton,d.bk _ l2 ht' h2 x];exact ⟨fun c=>c.imp id fun c=>⟨c,rfl⟩,fun c=>c.imp id fun c=>c.1⟩
  ·rcases aA hl with ⟨e',_⟩ | ⟨_,hl⟩
   ·omega
   ·rw [d.bk t l ht' hl x];exact ⟨.inl,fun c=>c.elim id fun c=>absurd (by rw [c.2]) e⟩
 ·rcases aA hl with ⟨e,_⟩ | ⟨_,hl⟩
  ·omega
  ·rcases aA hl with ⟨e,_⟩ | ⟨_,hl⟩
   ·omega
   ·exact d.en l hl x
 ·rcases List.mem_or_eq_of_mem_set hl with h3 | h3
  ·rcases List.mem_or_eq_of_mem_set h3 with h4 | h4
   ·have:=d.ln l h4; omega
   ·rw [h4,length_append,length_singleton]; omega
  ·rw [h3,length_append,length_singleton]; omega
theorem Dn.fin {M:Mach}{n i cN:Nat}{F:List (List Nat)}(d:Dn M n i 0 i cN F)(hi:i < n){s:MSt}(hs:M.states[i]?=some s)(hf:s.f≠[]){l:List Nat}(hl:F[2*n]?=some l):Dn M n i 0 (i+1) (cN+1) (F.set (2*n) (l++[i])):=by
 have b1:=d.ln l (List.mem_of_getElem? hl);refine ⟨fun y l' hy hl' x=> ?_,fun t l' ht hl' x=> ?_,fun l' hl' x=> ?_,qf d.ln (by rw [length_append,length_singleton]; omega)⟩
 ·rcases aA hl' with ⟨e,_⟩ | ⟨_,h⟩
  ·omega
  ·exact d.fw y l' hy h x
 ·rcases aA hl' with ⟨e,_⟩ | ⟨_,h⟩
  ·omega
  ·exact d.bk t l' ht h x
 ·rcases aA hl' with ⟨_,rfl⟩ | ⟨e,_⟩
  ·rw [mem_append,mem_singleton,d.en l hl x];constructor
   ·rintro (⟨h1,h2⟩ | rfl)
    ·exact ⟨by omega,h2⟩
    ·exact ⟨by omega,s,hs,hf⟩
   ·rintro ⟨h1,h2⟩;rcases lt_or_ge x i with h3 | h3
    ·exact .inl ⟨h3,h2⟩
    ·exact .inr (by omega)
  ·exact absurd rfl e
theorem Dn.nofin {M:Mach}{n i cN:Nat}{F:List (List Nat)}(d:Dn M n i 0 i cN F){s:MSt}(hs:M.states[i]?=some s)(hf:s.f=[]):Dn M n i 0 (i+1) (cN+1) F:=by
 refine ⟨d.fw,d.bk,fun l hl x=> ?_,fun l hl=>Nat.le_succ_of_le (d.ln l hl)⟩;rw [d.en l hl x];constructor
 ·rintro ⟨h1,h2⟩; exact ⟨by omega,h2⟩
 ·rintro ⟨h1,h2⟩;refine ⟨?_,h2⟩;rcases lt_or_ge x i with h3 | h3
  ·exact h3
  ·obtain rfl:x=i:=by omega
   obtain ⟨s',h4,h5⟩:=h2;rw [hs] at h4;obtain rfl:=oI h4;exact absurd hf h5
theorem Dn.next {M:Mach}{n i j cN:Nat}{F:List (List Nat)}(d:Dn M n i j (i+1) cN F){s:MSt}(hs:M.states[i]?=some s)(hj:s.arcs.length<=j):Dn M n (i+1) 0 (i+1) cN F:=by
 refine ⟨fun y l hy hl x=> ?_,fun t l ht hl x=> ?_,d.en,d.ln⟩
 ·rw [d.fw y l hy hl x,vc hs hj,gC]
 ·rw [d.bk t l ht hl x,vc hs hj,gC]
theorem Dn.new (M:Mach)(n:Nat):Dn M n 0 0 0 0 (List.replicate (2*n+1) []):=by
 have h: ∀ {i:Nat}{l:List Nat},(List.replicate (2*n+1) ([]:List Nat))[i]?=some l->l=[]:=fun {i l} hl=>by
  rw [getElem?_replicate] at hl;split at hl
  ·exact (oI hl).symm
  ·cases hl
 refine ⟨fun y l hy hl x=> ?_,fun t l ht hl x=> ?_,fun l hl x=> ?_,fun l hl=> ?_⟩
 ·rw [h hl,gC]; exact ⟨fun c=>(by cases c),fun c=>absurd c.1 (not_lt_zero _)⟩
 ·rw [h hl,gC]; exact ⟨fun c=>(by cases c),fun c=>absurd c.1 (not_lt_zero _)⟩
 ·rw [h hl]; exact ⟨fun c=>(by cases c),fun c=>absurd c.1 (not_lt_zero _)⟩
 ·rw [List.eq_of_mem_replicate hl]; exact le_refl _
theorem Us.tail {hb g:Heap}{R:Nat}{kt:Nat->Nat}{N:Nat}{X:Nat->Prop}{vs:List Value}{F:List (List Nat)}(s:Us hb R kt N X vs F g){vs':List Value}{F':List (List Nat)}{v:Value}{l':List Nat}(ev:vs'=vs.set (R*N) v)(eF:F'=F.set (R*N) l'){g2:Heap}(fm:Fam hb g2 X vs' F')(ok2:Ok hb g2)(hk: ∀ j B,g.get j=some B->X j->g2.get j=some B)(hn:g.next<=g2.next):Us hb R kt N X vs' F' g2:=by
 refine ⟨fun r hr=> ?_,fm,ok2,by rw [eF,length_set]; exact s.len,s.xt,s.inj,fun k hX=>Nat.lt_of_lt_of_le (s.xlt k hX) hn⟩;have h2:(r+1)*N<=R*N:=mul_le_mul_right _ hr;rw [add_mul,one_mul] at h2;rw [hk _ _ (s.cc r hr) (s.xt r hr).1,ev,lK _ _ _ _ _ (.inr h2)]
theorem Da (k o n c:Nat):dY 4 (.slice (some ⟨k,o,none⟩) n c) (.slice (some ⟨k,o,none⟩) n c)=true:=by simp [dY]
section
theorem Fam.lt {hb g:Heap}{X:Nat->Prop}{vs:List Value}{F:List (List Nat)}(f:Fam hb g X vs F)(w:Wf g){i:Nat}{v:Value}(hv:vs[i]?=some v){k:Nat}(hk:aG v=some k):k < g.next:=by
 obtain ⟨l2,hl2⟩: ∃ l2,F[i]?=some l2:=⟨_,gE (by rw [<-f.len]; exact (List.getElem?_eq_some_iff.1 hv).1)⟩
 exact ((f.own i v l2 hv hl2).lt w hk).1
def O0 (hb:Heap):Nat->Prop:=fun k=>k=hb.next+1\/k=hb.next+3\/k=hb.next+4\/k=hb.next+5
def Hd (hb:Heap):Nat->Nat:=fun r=>hb.next+1+2*r
structure Ub (hb:Heap)(M:Mach)(n i j i' cN:Nat)(vs:List Value)(F:List (List Nat))(g:Heap):Prop where
 us:Us hb 2 (Hd hb) n (O0 hb) vs F g
 b4:Bx1 g (hb.next+4) 72 (.slice (some ⟨Hd hb 0,0,none⟩) n n)
 b5:Bx1 g (hb.next+5) 72 (.slice (some ⟨Hd hb 1,0,none⟩) n n)
 dn:Dn M n i j i' cN F
section
variable {hb:Heap} {M:Mach} {a:Option Addr} {n c k:Nat}
def PM (hb:Heap)(M:Mach)(n:Nat)(mz i:Nat)(e:Option Addr)(en ec:Nat)(g:Heap):Prop:=i<=n/\mz=n - i/\ ∃ vs F cN,Ub hb M n i 0 i cN vs F g/\vs[2*n]?=some (.slice e en ec)/\cN+kw (M.states.drop i)+(n - i)<=2300
def RW (hb:Heap)(M:Mach)(n:Nat)(e:Option Addr)(en ec m i:Nat)(mz2 j:Nat)(g:Heap):Prop:=j<=m/\mz2=m - j/\ ∃ vs F cN,Ub hb M n i j (i+1) cN vs F g/\vs[2*n]?=some (.slice e en ec)/\cN+(m - j)+kw (M.states.drop (i+1))+(n - (i+1))<=2300
set_option linter.defProp false in
def Bw (w:Wf hb)(gd:Good M)(hnM:n=M.states.length)(hn:n<=300){s:MSt}{b:Option Addr}{m d i k8:Nat}(hs:M.states[i]?=some s)(hi:i < n)(ar:ArcRow hb (.slice b m d) s.arcs)(hsl:s.arcs.length<=2000)(mv:List Value)(e:Option Addr)(en ec mz:Nat)(hmz:mz=n - i)(Q:VH):=
 qW mv k (hb.next+4) (hb.next+5) a n c k8 e en ec b m d (PM hb M n) mz i (RW hb M n e en ec m i) Q (by
  intro mz2 j; intros; rename_i g hin;obtain ⟨f1,f2,vs,F,cN,ub,hve,hcN⟩:=hin;have hm:=ar.len;have ok:=ub.us.ok;refine ae (fun g1=> ?_) (fun g1=> ?_)
  ·have g1:=dT g1;obtain ⟨q,hq⟩: ∃ q,s.arcs[j]?=some q:=⟨_,gE (by omega)⟩
   obtain ⟨bb,o,e1,e2,_⟩:=(ar.ok ok).at_ hq;have hin:=gd.arcs s (List.mem_of_getElem? hs) q (List.mem_of_getElem? hq);obtain ⟨T,hT⟩: ∃ T:Nat,q.t=(T:Int):=⟨q.t.toNat,by have:=hin.t0; omega⟩
   have hTn:T < n:=by have:=hin.t1; omega
   have hTq:q.t.toNat=T:=by omega
   obtain ⟨u1,p1,p2,p3⟩:=oU ok.wf q;have l3: ∀ g',AB g' g.next q->ah SS.P 3 g' (.pointer (some ⟨g.next,0+3,none⟩))=some (.int .i64 (T:Int)):=fun g' h=>by rw [<-hT]; exact AB.l3 h
   have hlt: ∀ (idx:Nat)(v:Value),vs[idx]?=some v->aG v≠some g.next:=fun idx v hv e=>by have:=ub.us.fam.lt ok.wf hv e; omega
   have xlt:=ub.us.xlt;have U2:=ub.us.ext p2;have B4:=ub.b4.ok p2;have B5:=ub.b5.ok p2;refine ⟨_,e1,_,e2,_,xc,u1,p1,?_⟩;generalize u1.app (g.push CY)=g2 at *;have w2:=U2.ok.wf;have oR:=(Ok.refl w2).room 12;obtain ⟨r1,a1,c1,hF1,hv1,ix1,OW⟩:=U2.ld (r:=0) (i:=i) (by omega) hi;have hr1:=ub.dn.ln r1 (List.mem_of_getElem? hF1);obtain ⟨o8,k8'⟩:=nM w2 (n:=12) (j:=8) (by omega) (.cells [.int .i64 (T:Int)] 3 1 true);have ldR:=(OW _ (U2.ext oR)).1;have U3:=U2.ext o8;have B43:=B4.ok o8;have B53:=B5.ok o8;have A3:=AB.ok p3 o8;obtain ⟨b',n',c',u78,ap1,en1,fm4,ok4,kp4,nx4⟩:=U3.fam.snoc w U3.ok U3.xlt hv1 hF1 k8' (by omega);have ne1:aG (.slice a1 r1.length c1)≠some g.next:=hlt _ _ hv1;have nX1: ∀ k,O0 hb k->aG (.slice a1 r1.length c1)≠some k:=fun k hX e=>U3.fam.out _ _ hv1 k e hX;refine ⟨_,_,_,(B4.ok oR).ld uS Cp,_,_,_,(B4.ok oR).ld uS Cp,_,ix1,_,_,_,ldR,_,cE _ _,_,l3 _ (p3.ok oR),_,_,_,jR _,b',n',c',u78,ap1,_,ix1,?_⟩;generalize aB (Go.Ab.room g2 12) g2.next [(8,.cells [.int .i64 (T:Int)] 3 1 true)]=S at *;have B44:=kp4 _ _ B43 (nX1 _ (.inr (.inr (.inl rfl))));have B54:=kp4 _ _ B53 (nX1 _ (.inr (.inr (.inr rfl))));have A4:=kp4 _ _ A3 ne1;obtain ⟨u80,st1,U5,kp5⟩:=U3.put w (r:=0) (i:=i) (by omega) hi rfl rfl fm4 ok4 (fun j' B' hj hX=>kp4 j' B' hj (nX1 j' hX)) nx4;refine ⟨u80,st1,⟨Bx1.ld uS Cp B44,Da _ _ _ _⟩,?_⟩;have B45:Bx1 _ _ _ _:=kp5 _ _ B44 (by unfold Hd; omega);have B55:Bx1 _ _ _ _:=kp5 _ _ B54 (by unfold Hd; omega);have A5:AB _ _ q:=kp5 _ _ A4 (by have:=xlt _ (ub.us.xt 0 (by omega)).1; omega);generalize u78.app S=g4 at *;generalize u80.app g4=g5 at *;have w5:=U5.ok.wf;have oR2:=(Ok.refl w5).room 13;obtain ⟨r2,a2,c2,hF2,hv2,ix2,ld2⟩:=U5.ld (r:=1) (i:=T) (by omega) hTn;obtain ⟨o9,k9⟩:=nM w5 (n:=13) (j:=9) (by omega) (.cells [.int .i64 (i:Int)] 3 1 true);have ldR2:=(ld2 _ (U5.ext oR2)).1;have U6:=U5.ext o9;have hv2':vs[1*n+T]?=some (.slice a2 r2.length c2):=by
    rcases aA hv2 with ⟨e,_⟩ | ⟨_,h⟩
    ·omega
    ·exact h
   have hF2':F[1*n+T]?=some r2:=by
    rcases aA hF2 with ⟨e,_⟩ | ⟨_,h⟩
    ·omega
    ·exact h
   have hr2:=ub.dn.ln r2 (List.mem_of_getElem? hF2');have ne2:=hlt _ _ hv2';have nX2: ∀ k,O0 hb k->aG (.slice a2 r2.length c2)≠some k:=fun k hX e=>ub.us.fam.out _ _ hv2' k e hX;obtain ⟨b2',n2',c2',u101,ap2,en2,fm7,ok7,kp7,nx7⟩:=U6.fam.snoc w U6.ok U6.xlt hv2 hF2 k9 (by omega);refine ⟨_,_,_,(B55.ok oR2).ld uS Cp,_,cE _ _,_,l3 _ (A5.ok oR2),_,_,_,(B55.ok oR2).ld uS Cp,_,cE _ _,_,l3 _ (A5.ok oR2),_,ix2,_,_,_,ldR2,_,_,_,jR _,b2',n2',c2',u101,ap2,_,ix2,?_⟩;have B46:=kp7 _ _ (B45.ok o9) (nX2 _ (.inr (.inr (.inl rfl))));have B56:=kp7 _ _ (B55.ok o9) (nX2 _ (.inr (.inr (.inr rfl))));have A6:AB _ _ q:=kp7 _ _ (A5.ok o9) ne2;obtain ⟨u103,st2,U8,kp8⟩:=U6.put w (r:=1) (i:=T) (by omega) hTn rfl rfl fm7 ok7 (fun j' B' hj hX=>kp7 j' B' hj (nX2 j' hX)) nx7;refine ⟨u103,st2,⟨Bx1.ld uS Cp B56,Da _ _ _ _⟩,⟨l3 _ A6,gz _⟩,?_⟩;rw [az (i:=j) (n:=m) (by omega) (by omega)];have B48:=kp8 _ _ B46 (by unfold Hd; omega);have B58:=kp8 _ _ B56 (by unfold Hd; omega);have D:=ub.dn.arc hi hs hq (by rw [hTq]; exact hTn) hF1 (by rw [hTq]; exact hF2');rw [hTq] at D;refine bp (mz2 - 1) (by omega) ⟨by omega,by omega,_,_,cN+1,⟨U8,B48,B58,D⟩,?_,by omega⟩;rw [getElem?_set,if_neg (by omega),getElem?_set,if_neg (by omega)];exact hve
  ·have g1:=dF g1;obtain rfl:m=j:=by omega
   rw [az hi (by omega)];exact fG (n - (i+1)) (by omega) ⟨by omega,rfl,vs,F,cN,⟨ub.us,ub.b4,ub.b5,ub.dn.next hs (by omega)⟩,hve,by omega⟩)
end
end
def iR (n:Nat):Blk:= .cells (List.replicate n rU) 48 1 true
def s8:Blk:= .cells [.slice none 0 0] 72 0 true
theorem Pe:aF SS.P 72=some (s8,iy):=by kernel_rfl
theorem yG {E E':Nat->Nat->Prop}{F F':Nat->Prop}(hE: ∀ y x,E y x↔E' y x)(hF: ∀ x,F x↔F' x)(x:Nat):Num.Rch E F x↔Num.Rch E' F' x:=by
 have e1:E=E':=funext fun y=>funext fun x=>propext (hE y x);have e2:F=F':=funext fun x=>propext (hF x);rw [e1,e2]
theorem zV {g0:Heap}(w:Wf g0)(M:Mach)(n:Nat):
  ∃ u14:Upd,ai SS.P 72 (.pointer (some ⟨g0.next+4,0,none⟩)) (.slice (some ⟨g0.next+1,0,none⟩) n n) (aB (Go.Ab.room g0 8) g0.next [(5,s8),(4,s8),(1,iR n)])=some (undef,u14)/\
  ∃ u15:Upd,ai SS.P 72 (.pointer (some ⟨g0.next+5,0,none⟩)) (.slice (some ⟨g0.next+3,0,none⟩) n n) (aB (u14.app (aB (Go.Ab.room g0 8) g0.next [(5,s8),(4,s8),(1,iR n)])) g0.next [(3,iR n)])=some (undef,u15)/\
   Ub g0 M n 0 0 0 0 (List.replicate (2*n+1) rU) (List.replicate (2*n+1) []) (u15.app (aB (u14.app (aB (Go.Ab.room g0 8) g0.next [(5,s8),(4,s8),(1,iR n)])) g0.next [(3,iR n)])):=by
 obtain ⟨N,hN⟩: ∃ N,g0.next=N:=⟨_,rfl⟩
 have hnx:(Go.Ab.room g0 8).next=N+8:=by rw [<-hN]; rfl
 rw [hN];have h4:Bx1 (aB (Go.Ab.room g0 8) N [(5,s8),(4,s8),(1,iR n)]) (N+4) 72 (.slice none 0 0):=by
  show (((Go.Ab.room g0 8).set (N+1) _).set (N+4) s8 |>.set (N+5) s8).get (N+4)=_;rw [Heap.get_set,if_neg (by omega),Heap.get_set,if_pos rfl]; rfl
 refine ⟨_,h4.st Ns (dS _ _ _) rfl,?_⟩;have h5:Bx1 (aB ((Upd.set (N+4) (.cells [.slice (some ⟨N+1,0,none⟩) n n] 72 0 true)).app (aB (Go.Ab.room g0 8) N [(5,s8),(4,s8),(1,iR n)])) N [(3,iR n)]) (N+5) 72 (.slice none 0 0):=by
  show (((((Go.Ab.room g0 8).set (N+1) (iR n)).set (N+4) s8 |>.set (N+5) s8).set (N+4) _).set (N+3) (iR n)).get (N+5)=_;rw [Heap.get_set,if_neg (by omega),Heap.get_set,if_neg (by omega),Heap.get_set,if_pos rfl]; rfl
 refine ⟨_,h5.st Ns (dS _ _ _) rfl,?_⟩;show Ub g0 M n 0 0 0 0 _ _ ((((((Go.Ab.room g0 8).set (N+1) (iR n)).set (N+4) s8 |>.set (N+5) s8).set (N+4) (.cells [.slice (some ⟨N+1,0,none⟩) n n] 72 0 true)).set (N+3) (iR n)).set (N+5) (.cells [.slice (some ⟨N+3,0,none⟩) n n] 72 0 true));have hget: ∀ j,((((((Go.Ab.room g0 8).set (N+1) (iR n)).set (N+4) s8 |>.set (N+5) s8).set (N+4) (.cells [.slice (some ⟨N+1,0,none⟩) n n] 72 0 true)).set (N+3) (iR n)).set (N+5) (.cells [.slice (some ⟨N+3,0,none⟩) n n] 72 0 true)).get j =
   if j=N+5 then some (.cells [.slice (some ⟨N+3,0,none⟩) n n] 72 0 true) else if j=N+3 then some (iR n) else if j=N+4 then some (.cells [.slice (some ⟨N+1,0,none⟩) n n] 72 0 true) else if j=N+5 then some s8 else if j=N+4 then some s8 else if j=N+1 then some (iR n) else g0.get j:=fun j=>by
  rw [Heap.get_set,Heap.get_set,Heap.get_set,Heap.get_set,Heap.get_set,Heap.get_set]; rfl
 have hok:Ok g0 ((((((Go.Ab.room g0 8).set (N+1) (iR n)).set (N+4) s8 |>.set (N+5) s8).set (N+4) (.cells [.slice (some ⟨N+1,0,none⟩) n n] 72 0 true)).set (N+3) (iR n)).set (N+5) (.cells [.slice (some ⟨N+3,0,none⟩) n n] 72 0 true)):=by
  refine ((((((Ok.refl w).room 8).set _ ?_ ?_ w).set _ ?_ ?_ w).set _ ?_ ?_ w).set _ ?_ ?_ w).set _ ?_ ?_ w |>.set _ ?_ ?_ w
  all_goals first
   | (rw [hN]; omega)
   | (show _ < (Go.Ab.room g0 8).next; rw [hnx]; omega)
 generalize ((((((Go.Ab.room g0 8).set (N+1) (iR n)).set (N+4) s8 |>.set (N+5) s8).set (N+4) (.cells [.slice (some ⟨N+1,0,none⟩) n n] 72 0 true)).set (N+3) (iR n)).set (N+5) (.cells [.slice (some ⟨N+3,0,none⟩) n n] 72 0 true))=gF at *;have g1:gF.get (N+1)=some (iR n):=by rw [hget,if_neg (by omega),if_neg (by omega),if_neg (by omega),if_neg (by omega),if_neg (by omega),if_pos rfl]
 have g3:gF.get (N+3)=some (iR n):=by rw [hget,if_neg (by omega),if_pos rfl]
 have g4:gF.get (N+4)=some (.cells [.slice (some ⟨N+1,0,none⟩) n n] 72 0 true):=by rw [hget,if_neg (by omega),if_neg (by omega),if_pos rfl]
 have g5:gF.get (N+5)=some (.cells [.slice (some ⟨N+3,0,none⟩) n n] 72 0 true):=by rw [hget,if_pos rfl]
 have hrep: ∀ {i:Nat}{v:Value},(List.replicate (2*n+1) rU)[i]?=some v->v=rU:=fun {i v} hl=>by
  rw [getElem?_replicate] at hl;split at hl
  ·exact (oI hl).symm
  ·cases hl
 have hrepF: ∀ {i:Nat}{l:List Nat},(List.replicate (2*n+1) ([]:List Nat))[i]?=some l->l=[]:=fun {i l} hl=>by
  rw [getElem?_replicate] at hl;split at hl
  ·exact (oI hl).symm
  ·cases hl
 refine ⟨⟨fun r hr=> ?_,⟨by rw [length_replicate,length_replicate],fun i v l hv hl=> ?_,fun i j v v' _ hv _ k hk=> ?_,fun i v hv k hk=> ?_⟩,hok,length_replicate,fun r hr=>⟨?_,?_⟩,fun r r' _ _ hne=> ?_,fun k hX=> ?_⟩,?_,?_,Dn.new M n⟩
 ·have e:((List.replicate (2*n+1) rU).drop (r*n)).take n=List.replicate n rU:=by
   rw [List.drop_replicate,List.take_replicate];congr 1;have:r=0\/r=1:=by omega
   rcases this with rfl | rfl <;> omega
  rw [e];have:r=0\/r=1:=by omega
  unfold Hd;rw [hN];rcases this with rfl | rfl
  ·exact g1
  ·exact g3
 ·rw [hrep hv,hrepF hl]; exact OwnG.nil _ _ _
 ·rw [hrep hv] at hk; cases hk
 ·rw [hrep hv] at hk; cases hk
 ·unfold O0 Hd; rw [hN];have:r=0\/r=1:=by omega
  rcases this with rfl | rfl <;> omega
 ·unfold Hd; omega
 ·unfold Hd; omega
 ·unfold O0 at hX;rw [hN] at hX;rcases hX with rfl | rfl | rfl | rfl
  ·exact hok.wf _ _ g1
  ·exact hok.wf _ _ g3
  ·exact hok.wf _ _ g4
  ·exact hok.wf _ _ g5
 ·rw [hN]; show gF.get (N+4)=_; rw [g4]; unfold Hd; rw [hN]
 ·rw [hN]; show gF.get (N+5)=_; rw [g5]; unfold Hd; rw [hN]
theorem gh {g:Heap}{kt N c:Nat}{L:List Bool}(hg:g.get kt=some (.cells (L.map Value.bool) 4 1 true))(hl:L.length=N){x:Nat}(h1:x < N):ag SS.P 46 (.slice (some ⟨kt,0,none⟩) N c) (.int .i64 (x:Int))=some (.pointer (some ⟨kt,x,none⟩))/\ah SS.P 4 g (.pointer (some ⟨kt,x,none⟩))=some (.bool (L.getD x false)):=by
 refine ⟨?_,?_⟩
 ·have:=zD (P:=SS.P) F4 L8 (k:=kt) (off:=0) (n:=N) (c:=c) (ik:= .i64) (i:=(x:Int)) (by omega) (by omega);rw [this,toNat_natCast,zero_add,mul_one]
 ·rw [cH Qk QT hg (by rw [lM]; omega),gD,getElem?_map,gD,gE (by omega)]; rfl
def MX (h1:Heap)(kl kr n:Nat)(L1 L2:List Bool)(mz i:Nat)(g:Heap):Prop:=i<=n/\mz=n - i/\ ∃ L,BR h1 kl n L g/\g.get kr=some (.cells (L2.map Value.bool) 4 1 true)/\ ∀ x,L.getD x false=if x < i then (L1.getD x false && L2.getD x false) else L1.getD x false
theorem nS {h1:Heap}(w:Wf h1){kl kr n:Nat}{L1 L2:List Bool}{mz i:Nat}{g:Heap}(h:MX h1 kl kr n L1 L2 mz i g)(hL2:L2.length=n)(hne:kr≠kl)(hi:i < n){b:Bool}(hb:b=(L1.getD i false && L2.getD i false)):
  ∃ u:Upd,ai SS.P 4 (.pointer (some ⟨kl,i,none⟩)) (.bool b) g=some (undef,u)/\MX h1 kl kr n L1 L2 (mz - 1) (i+1) (u.app g):=by
 obtain ⟨f1,f2,L,br,hr,hL⟩:=h;obtain ⟨r1,r2,r3⟩:=br.get (c:=n) (x:=(i:Int)) (by omega) (by omega);rw [toNat_natCast] at r3;obtain ⟨u,s1,s2,s3⟩:=r3 b w;refine ⟨u,s1,by omega,by omega,_,s2,s3 _ _ hr hne,fun x=> ?_⟩;rw [Ek (by rw [br.len]; exact hi),hL x];by_cases e:x=i
 ·subst e;rw [if_pos rfl,if_pos (by omega),hb]
 ·rw [if_neg e];by_cases e2:x < i
  ·rw [if_pos e2,if_pos (by omega)]
  ·rw [if_neg e2,if_neg (by omega)]
def uQ (h:Heap)(M:Mach)(n:Nat):VH:=fun v h'=> ∃ kl L,v = .slice (some ⟨kl,0,none⟩) n n/\BR h kl n L h'/\ ∀ x,x < n->(L.getD x false=true↔fO M x)
theorem BR.base {h h1 g:Heap}{kl n:Nat}{L:List Bool}(b:BR h1 kl n L g)(o:Ok h h1):BR h kl n L g:=⟨b.len,b.row.row,le_trans o.nx b.row.new,o.trans b.row.ok⟩
section
section
variable {h:Heap} {M:Mach} {a:Option Addr} {n c:Nat}
theorem gf {i:Nat}(hi:i < M.states.length): ∃ s,M.states[i]?=some s:=⟨_,gE hi⟩
theorem Fd (gd:Good M){y x:Nat}(h:dw M y x):x < M.states.length:=by
 obtain ⟨s,h1,h2⟩:=h;unfold jZ at h2;obtain ⟨q,h3,rfl⟩:=mem_map.1 h2;have:=gd.arcs s (List.mem_of_getElem? h1) q h3;have:=this.t1;have:= ‹ArcIn _ q›.t0;omega
theorem nh {y x:Nat}(h:dw M y x):y < M.states.length:=by
 obtain ⟨s,h1,h2⟩:=h;exact (List.getElem?_eq_some_iff.1 h1).1
set_option linter.defProp false in
def Bp (w1:Wf h){kl kr:Nat}{L1 L2:List Bool}(hL1: ∀ x,L1.getD x false=true↔Num.Rch (dw M) (fun y=>y=M.start.toNat) x)(hL2: ∀ x,L2.getD x false=true↔Num.Rch (fun y x=>dw M x y) (mN M) x)(hl2:L2.length=n)(hne:kr≠kl)(hn:n<=300)(Q:VH)(hQ: ∀ v g',uQ h M n v g'->Q v g')(mv:List Value):=
 rk mv n kl kr (MX h kl kr n L1 L2) Q (by
  intro mz3 i; intros; rename_i g hin;have h3:=hin;obtain ⟨f1,f2,L,br,hr,hL⟩:=h3;refine ae (fun q1=> ?_) (fun q1=> ?_)
  ·have q1:=dT q1;have hi:i < n:=by omega
   obtain ⟨x1,x2⟩:=gh (c:=n) hr hl2 hi;obtain ⟨y1,y2⟩:=gh (c:=n) br.row.row br.len hi;have e:=hL i;rw [if_neg (Nat.lt_irrefl i)] at e;rw [e] at y2;refine ⟨_,x1,_,x2,_,y1,_,y2,ae (fun t=> ?_) (fun t=> ?_)⟩
   ·obtain ⟨u,s1,s2⟩:=nS w1 hin hl2 hne hi (b:=L2.getD i false) (by rw [t]; rfl);refine ⟨_,y1,u,s1,?_⟩;rw [az hi (by omega)];exact bp (mz3 - 1) (by omega) s2
   ·obtain ⟨u,s1,s2⟩:=nS w1 hin hl2 hne hi (b:=false) (by rw [t]; rfl);refine ⟨_,y1,u,s1,?_⟩;rw [az hi (by omega)];exact bp (mz3 - 1) (by omega) s2
  ·have q1:=dF q1;refine hQ _ _ ⟨kl,L,rfl,br,fun x hx=> ?_⟩;rw [hL x,if_pos (by omega),and_eq_true,hL1,hL2];exact Iff.rfl)
theorem HJ (w:Wf h)(sm:Small M)(gd:Good M)(r:StRow h (.slice a n c) M.states):FW SS 41 [.agg ⟨aC M a n c⟩] h (uQ h M n):=by
 obtain ⟨mb,ok⟩:=cD w r;have hl:=mb.len;have hn:n<=300:=by rw [hl]; exact sm.sts
 refine Gi (aC M a n c) h _ ⟨_,ei M a n c,_,aM _,_,_,_,mb.l3,_,_,_,OQ n (by omega),_,_,_,OQ n (by omega),_,Pe,_,Pe,?_⟩;generalize h.push (Bm M a n c)=g0 at *;have w0:=ok.wf;obtain ⟨u14,s14,u15,s15,ub0⟩:=zV w0 M n;refine ⟨u14,s14,u15,s15,?_⟩;have mbF:=mb.ok ub0.us.ok;refine ⟨_,aM _,_,_,_,mbF.l3,?_⟩;refine rQ (aC M a n c) h.next (g0.next+4) (g0.next+5) a n c (PM g0 M n) (uQ h M n) (fun mz i e en ec=> ?_) n (i:=0) (e:=none) (en:=0) (ec:=0) ⟨by omega,rfl,_,_,0,ub0,?_,?_⟩
 rotate_left
 ·rw [getElem?_replicate,if_pos (by omega)]; rfl
 ·rw [drop_zero]; have:=sm.tot; omega
 intros; rename_i gg hi;obtain ⟨f1,f2,vs,F,cN,ub,hve,hcN⟩:=hi;have okg:=ub.us.ok;refine ae (fun q1=> ?_) (fun q1=> ?_)
 ·have q1:=dT q1;obtain ⟨s,hs⟩:=gf (M:=M) (i:=i) (by omega);obtain ⟨b,o,x',y,z,e1,e2,e3,e4,ar⟩:=mb.row.at2 okg hs;obtain ⟨l1,l2,l3⟩:=eD sm hs;have hy:=ar.len;have hd:kw (M.states.drop i)=s.arcs.length+kw (M.states.drop (i+1)):=by rw [cQ hs,kO]
  obtain ⟨u,p1,p2,p3⟩:=oX okg.wf s.f x' y z;refine ⟨_,e1,_,e2,_,sD,u,p1,_,fY _ _,_,p3.l0,?_⟩;have U2:=ub.us.ext p2;have B4:=ub.b4.ok p2;have B5:=ub.b5.ok p2;have xlt:=ub.us.xlt;have hfl:=ub.us.fam;have wgg:=okg.wf;generalize u.app (gg.push vr)=g2 at *;refine ae (fun q2=> ?_) (fun q2=> ?_)
  ·have q2:s.f≠[]:=by simpa using q2
   have op:=(Ok.refl U2.ok.wf).push (.cells [.int .i64 (i:Int)] 3 1 true);have kp:=aq g2 (.cells [.int .i64 (i:Int)] 3 1 true);have U3:=U2.ext op;obtain ⟨le,hle⟩: ∃ le,F[2*n]?=some le:=⟨_,gE (by rw [ub.us.len]; omega)⟩
   have hlel:=ub.dn.ln le (List.mem_of_getElem? hle);obtain ⟨b',n',c',u32,ap1,en1,fm4,ok4,kp4,nx4⟩:=U3.fam.snoc w0 U3.ok U3.xlt hve hle kp (by omega);have nX: ∀ k,O0 g0 k->aG (.slice e en ec)≠some k:=fun k hX e'=>U3.fam.out _ _ hve k e' hX;have U4:=U3.tail rfl rfl fm4 ok4 (fun j' B' hj hX=>kp4 j' B' hj (nX j' hX)) nx4;have B44:=kp4 _ _ (B4.ok op) (nX _ (.inr (.inr (.inl rfl))));have B54:=kp4 _ _ (B5.ok op) (nX _ (.inr (.inr (.inr rfl))));have S4:=kp4 _ _ (p3.ok op) (fun e'=>by have:=hfl.lt wgg hve e'; omega);refine ⟨_,_,_,jR _,b',n',c',u32,ap1,_,bm _ _,_,_,_,SB.l1 S4,?_⟩;have hlen:(vs.length)=2*n+1:=by rw [ub.us.fam.len]; exact ub.us.len
   exact Bw w0 gd hl hn hs (by omega) ar l1 [] b' n' c' mz f2 _ y (j:=0) ⟨by omega,by omega,_,_,cN+1,⟨U4,B44,B54,ub.dn.fin (by omega) hs q2 hle⟩,by rw [getElem?_set,if_pos rfl,if_pos (by omega)],by omega⟩
  ·have q2:s.f=[]:=by simpa using q2
   refine ⟨_,bm _ _,_,_,_,p3.l1,?_⟩;exact Bw w0 gd hl hn hs (by omega) ar l1 [] e en ec mz f2 _ y (j:=0) ⟨by omega,by omega,vs,F,cN+1,⟨U2,B4,B5,ub.dn.nofin hs q2⟩,hve,by omega⟩
 ·have q1:=dF q1;obtain rfl:n=i:=by omega
  have mb2:=mb.ok okg;have hst0:=gd.start0;have hst1:=gd.start1;obtain ⟨S,hS⟩: ∃ S:Nat,M.start=(S:Int):=⟨M.start.toNat,by omega⟩
  have hSn:S < n:=by omega
  have hSt:M.start.toNat=S:=by omega
  have l1:=mb2.l1;rw [hS] at l1;have op:=(Ok.refl okg.wf).push (.cells [.int .i64 (S:Int)] 3 1 true);have kp:=aq gg (.cells [.int .i64 (S:Int)] 3 1 true);refine ⟨_,dG _,_,l1,_,_,_,jR _,?_⟩;have U3:=ub.us.ext op;have B4:=ub.b4.ok op;have B5:=ub.b5.ok op;have rf:Rd (gg.push (.cells [.int .i64 (S:Int)] 3 1 true)) 3 (.slice (some ⟨gg.next,0,none⟩) 1 1) ([S].map iv):= .inr ⟨gg.next,0,_,1,true,rfl,kp,rfl⟩;have okh:=ok.trans (okg.trans op);generalize gg.push (.cells [.int .i64 (S:Int)] 3 1 true)=h1 at *;have w1:=okh.wf;have adj1:=U3.adj (r:=0) (by omega);have adj2:=U3.adj (r:=1) (by omega);have hA1: ∀ {y:Nat}{l:List Nat},((F.drop (0*n)).take n)[y]?=some l->y < n/\l.length<=2300/\ ∀ x,x∈l↔dw M y x:=fun {y l} hy=>by
   rw [getElem?_take] at hy;split at hy
   ·next hyn=>
    rw [getElem?_drop] at hy;refine ⟨hyn,by have:=ub.dn.ln l (List.mem_of_getElem? hy); omega,fun x=> ?_⟩;rw [ub.dn.fw y l hyn hy x,gC];exact ⟨fun c=>c.2,fun c=>⟨hyn,c⟩⟩
   ·cases hy
  have hA2: ∀ {y:Nat}{l:List Nat},((F.drop (1*n)).take n)[y]?=some l->y < n/\l.length<=2300/\ ∀ x,x∈l↔dw M x y:=fun {y l} hy=>by
   rw [getElem?_take] at hy;split at hy
   ·next hyn=>
    rw [getElem?_drop] at hy;refine ⟨hyn,by have:=ub.dn.ln l (List.mem_of_getElem? hy); omega,fun x=> ?_⟩;rw [ub.dn.bk y l hyn hy x,gC];exact ⟨fun c=>c.2,fun c=>⟨by rw [hl]; exact nh c,c⟩⟩
   ·cases hy
  have hE1: ∀ y x,w6 ((F.drop (0*n)).take n) y x↔dw M y x:=fun y x=>by
   unfold w6;rw [gD]
   cases he:((F.drop (0*n)).take n)[y]? with
   | some l=>exact (hA1 he).2.2 x
   | none=>
    refine ⟨fun c=>(by cases c),fun c=> ?_⟩;have:=nh c;rw [List.getElem?_eq_none_iff,adj1.1] at he;omega
  have hE2: ∀ y x,w6 ((F.drop (1*n)).take n) y x↔dw M x y:=fun y x=>by
   unfold w6;rw [gD]
   cases he:((F.drop (1*n)).take n)[y]? with
   | some l=>exact (hA2 he).2.2 x
   | none=>
    refine ⟨fun c=>(by cases c),fun c=> ?_⟩;have:=Fd gd c;rw [List.getElem?_eq_none_iff,adj2.1] at he;omega
  obtain ⟨le,hle⟩: ∃ le,F[2*n]?=some le:=⟨_,gE (by rw [ub.us.len]; omega)⟩
  have hlel:=ub.dn.ln le (List.mem_of_getElem? hle);have ren:Rd h1 3 (.slice e en ec) (le.map iv):=(U3.fam.own _ _ _ hve hle).rd;have hmem: ∀ x,x∈le↔mN M x:=fun x=>by
   rw [ub.dn.en le hle x];refine ⟨fun c=>c.2,fun c=>⟨?_,c⟩⟩;obtain ⟨s,h2,_⟩:=c;have:=(List.getElem?_eq_some_iff.1 h2).1;omega
  refine (ye w1 (by omega) adj1.1 (fun l hl' x hx=> ?_) (fun l hl'=> ?_) (K2 w1 B4 adj1) rf (fun x hx=> ?_) (by simp)).mono ?_
  ·obtain ⟨y,hy⟩:=List.mem_iff_getElem?.1 hl';have:=Fd gd ((hA1 hy).2.2 x |>.1 hx); omega
  ·obtain ⟨y,hy⟩:=List.mem_iff_getElem?.1 hl';have:=(hA1 hy).2.1; omega
  ·rw [mem_singleton] at hx; omega
  rintro _ g3 ⟨kl,L1,rfl,br1,hL1⟩;refine ⟨_,_,_,rfl,?_⟩;have o3:=br1.row.ok;refine (ye o3.wf (by omega) adj2.1 (fun l hl' x hx=> ?_) (fun l hl'=> ?_) (KW o3.wf (B5.ok o3) (adj2.ok o3)) (ren.ok o3) (fun x hx=> ?_) (by omega)).mono ?_
  ·obtain ⟨y,hy⟩:=List.mem_iff_getElem?.1 hl';have:=nh ((hA2 hy).2.2 x |>.1 hx); omega
  ·obtain ⟨y,hy⟩:=List.mem_iff_getElem?.1 hl';have:=(hA2 hy).2.1; omega
  ·obtain ⟨s,h2,_⟩:=(hmem x).1 hx;have:=(List.getElem?_eq_some_iff.1 h2).1;omega
  rintro _ g4 ⟨kr,L2,rfl,br2,hL2⟩;refine ⟨_,_,_,rfl,?_⟩;have hne:kr≠kl:=by have:=br1.row.lt; have:=br2.row.new; omega
  have q1: ∀ x,L1.getD x false=true↔Num.Rch (dw M) (fun y=>y=M.start.toNat) x:=fun x=>by
   rw [hL1 x]; exact yG hE1 (fun x=>by rw [mem_singleton,hSt]) x
  have q2: ∀ x,L2.getD x false=true↔Num.Rch (fun y x=>dw M x y) (mN M) x:=fun x=>by
   rw [hL2 x]; exact yG hE2 hmem x
  exact Bp (n:=n) w1 q1 q2 br2.len hne hn (uQ h M n) (fun v g' ⟨k1,L,e1,e2,e3⟩=>⟨k1,L,e1,e2.base okh,e3⟩) (aC M a n c) n (i:=0) ⟨by omega,rfl,L1,br1.trans br2.row.ok,br2.row.row,fun x=>by rw [if_neg (not_lt_zero _)]⟩
theorem Kd {b:Bool}{p:Prop}(h:b=true↔p):b=@decide p (Classical.propDecidable _):=by
 cases b with
 | true=>exact (@decide_eq_true p (Classical.propDecidable _) (h.1 rfl)).symm
 | false=>exact (@decide_eq_false p (Classical.propDecidable _) (fun c=>by cases h.2 c)).symm
end
end
section
structure Se (hb:Heap)(R:Nat)(kt:Nat->Nat)(N:Nat)(X:Nat->Prop)(kl:Nat)(vs:List Value)(F:List (List Nat))(L:List Bool)(T:List Nat)(tv:Value)(g:Heap):Prop where
 us:Us hb R kt N X vs F g
 br:BR hb kl N L g
 xk:X kl
 nk: ∀ r,r < R->kt r≠kl
 hT:F[R*N]?=some T
 hv:vs[R*N]?=some tv
section
variable {hb g:Heap} {R:Nat} {kt:Nat->Nat} {N:Nat} {X:Nat->Prop} {kl:Nat} {vs:List Value} {F:List (List Nat)} {L:List Bool} {T:List Nat} {tv:Value}
theorem Se.own (s:Se hb R kt N X kl vs F L T tv g):OwnG hb g 3 tv (T.map iv):=s.us.fam.own _ _ _ s.hv s.hT
theorem Se.slc (s:Se hb R kt N X kl vs F L T tv g): ∃ (a:Option Addr)(c:Nat),tv = .slice a T.length c:=by
 obtain ⟨a,c,h⟩:=s.own.slc;rw [lM] at h;exact ⟨a,c,h⟩
theorem Se.get (s:Se hb R kt N X kl vs F L T tv g){x:Nat}(hx:x < N):ag SS.P 46 (.slice (some ⟨kl,0,none⟩) N N) (.int .i64 (x:Int))=some (.pointer (some ⟨kl,x,none⟩))/\ah SS.P 4 g (.pointer (some ⟨kl,x,none⟩))=some (.bool (L.getD x false)):=gh s.br.row.row s.br.len hx
theorem Se.see (w:Wf hb)(s:Se hb R kt N X kl vs F L T tv g){x:Nat}(hx:x < N)(hT:T.length<=100000):
  ∃ u:Upd,ai SS.P 4 (.pointer (some ⟨kl,x,none⟩)) (.bool true) g=some (undef,u)/\Ok hb (u.app g)/\ ∃ (b:Option Addr)(n c:Nat)(u2:Upd),ay SS.P 48 48 tv (.slice (some ⟨(u.app g).next,0,none⟩) 1 1) ((u.app g).push (.cells [.int .i64 (x:Int)] 3 1 true))=some (.slice b n c,u2)/\
   Se hb R kt N X kl (vs.set (R*N) (.slice b n c)) (F.set (R*N) (T++[x])) (L.set x true) (T++[x]) (.slice b n c) (u2.app ((u.app g).push (.cells [.int .i64 (x:Int)] 3 1 true))):=by
 obtain ⟨r1,r2,r3⟩:=s.br.get (c:=N) (x:=(x:Int)) (by omega) (by omega);rw [toNat_natCast] at r3;obtain ⟨u,s1,s2,s3⟩:=r3 true w;refine ⟨u,s1,s2.row.ok,?_⟩;have hkeep: ∀ (k:Nat)(B:Blk),k≠kl->g.get k=some B->(u.app g).get k=some B:=fun k B hk hB=>s3 k B hB hk;have U1:Us hb R kt N X vs F (u.app g):=⟨fun r hr=>hkeep _ _ (s.nk r hr) (s.us.cc r hr),s.us.fam.keep fun k B hX hB=>hkeep k B (fun c=>hX (c ▸ s.xk)) hB,s2.row.ok,s.us.len,s.us.xt,s.us.inj,fun k hX=>by
  obtain ⟨e1,e2⟩:True/\g.next<=(u.app g).next:=⟨trivial,by
   have e:=s1;rw [fB L8 s.br.row.row (by rw [lM,s.br.len]; exact hx) rfl rfl] at e;obtain rfl:Upd.set kl _=u:=by injection e with e; injection e with _ e
   exact le_refl _⟩
  exact Nat.lt_of_lt_of_le (s.us.xlt k hX) e2⟩
 generalize u.app g=g1 at *;have op:=(Ok.refl s2.row.ok.wf).push (.cells [.int .i64 (x:Int)] 3 1 true);have kp:=aq g1 (.cells [.int .i64 (x:Int)] 3 1 true);have U2:=U1.ext op;have br2:=s2.trans op;obtain ⟨b,n,c,u2,a1,a2,fm,ok4,kp4,nx4⟩:=U2.fam.snoc w U2.ok U2.xlt s.hv s.hT kp hT;have nX: ∀ k,X k->aG tv≠some k:=fun k hX e=>U2.fam.out _ _ s.hv k e hX;have U4:=U2.tail rfl rfl fm ok4 (fun j B hj hX=>kp4 j B hj (nX j hX)) nx4;refine ⟨b,n,c,u2,a1,U4,⟨br2.len,⟨kp4 _ _ br2.row.row (nX _ s.xk),br2.row.new,ok4⟩⟩,s.xk,s.nk,?_,?_⟩
 ·rw [getElem?_set,if_pos rfl,if_pos (by rw [s.us.len]; omega)]
 ·rw [getElem?_set,if_pos rfl,if_pos (by rw [s.us.fam.len,s.us.len]; omega)]
theorem Se.pop (s:Se hb R kt N X kl vs F L T tv g)(h0:0 < T.length): ∃ (b:Option Addr)(m d:Nat),aH SS.P 48 tv (some (.int .i64 1)) none none g=some (.slice b m d)/\
  Se hb R kt N X kl (vs.set (R*N) (.slice b m d)) (F.set (R*N) (T.drop 1)) L (T.drop 1) (.slice b m d) g:=by
 obtain ⟨b,m,d,e1,e2,e3⟩:=s.own.from_ gP tF (z:=1) (by rw [lM]; omega) (by rw [lM]; omega);rw [<-List.map_drop] at e2;refine ⟨b,m,d,e1,⟨fun r hr=> ?_,⟨by rw [length_set,length_set]; exact s.us.fam.len,fun i v l hv hl=> ?_,fun i j v1 v2 hij h1 h2 k hk1 hk2=> ?_,fun i v hv k hk=> ?_⟩,s.us.ok,by rw [length_set]; exact s.us.len,s.us.xt,s.us.inj,s.us.xlt⟩,s.br,s.xk,s.nk,?_,?_⟩
 ·have h2:(r+1)*N<=R*N:=mul_le_mul_right _ hr;rw [add_mul,one_mul] at h2;rw [s.us.cc r hr,lK _ _ _ _ _ (.inr h2)]
 ·rcases aA hv with ⟨c1,rfl⟩ | ⟨c1,h1⟩
  ·rcases aA hl with ⟨_,rfl⟩ | ⟨c2,_⟩
   ·exact e2
   ·exact absurd c1 c2
  ·rcases aA hl with ⟨c2,_⟩ | ⟨_,h2⟩
   ·exact absurd c2 c1
   ·exact s.us.fam.own i v l h1 h2
 ·rcases aA h1 with ⟨c1,rfl⟩ | ⟨c1,h1⟩
  ·rcases aA h2 with ⟨c2,_⟩ | ⟨c2,h2⟩
   ·exact hij (by rw [c1,c2])
   ·rw [e3] at hk1;exact s.us.fam.dis _ j _ v2 (fun c=>c2 c.symm) s.hv h2 k hk1 hk2
  ·rcases aA h2 with ⟨c2,rfl⟩ | ⟨c2,h2⟩
   ·rw [e3] at hk2;exact s.us.fam.dis _ i _ v1 (fun c=>c1 c.symm) s.hv h1 k hk2 hk1
   ·exact s.us.fam.dis i j v1 v2 hij h1 h2 k hk1 hk2
 ·rcases aA hv with ⟨c1,rfl⟩ | ⟨c1,h1⟩
  ·rw [e3] at hk; exact s.us.fam.out _ _ s.hv k hk
  ·exact s.us.fam.out i v h1 k hk
 ·rw [getElem?_set,if_pos rfl,if_pos (by rw [s.us.len]; omega)]
 ·rw [getElem?_set,if_pos rfl,if_pos (by rw [s.us.fam.len,s.us.len]; omega)]
end
theorem vk {T:List Nat}(h:0 < T.length): ∃ s,T[0]?=some s/\(∀ x∈T.drop 1,x∈T)/\(∀ x∈T,x∈T.drop 1\/x=s)/\s∈T/\(T.drop 1).length+1=T.length:=by
 cases T with
 | nil=>simp at h
 | cons s T=>exact ⟨s,rfl,fun x hx=>mem_cons_of_mem _ hx,fun x hx=>(mem_cons.1 hx).symm,mem_cons_self ..,by simp⟩
section
variable {h:Heap} {M:Mach} {a:Option Addr} {n c k:Nat}
structure Sl (E:Nat->Nat->Prop)(F0:Nat->Prop)(N:Nat)(ex:Nat->Prop)(L:List Bool)(T:List Nat)(mz:Nat):Prop where
 inv:Num.SInv E F0 N L T ex
 bd:2*Num.cntF L+T.length<=2*N
 ms:2*Num.cntF L+T.length<=mz
def Rc (hb:Heap)(M:Mach)(n kl S:Nat)(mz:Nat)(t:Option Addr)(tn tc:Nat)(g:Heap):Prop:= ∃ vs F L T,Se hb 0 (fun _=>0) n (fun k=>k=kl) kl vs F L T (.slice t tn tc) g/\Sl (dw M) (fun y=>y=S) n (fun _=>False) L T mz/\L.getD S false=true
def Rv (hb:Heap)(M:Mach)(n kl S:Nat)(st:MSt)(s mz:Nat)(mz2 j:Nat)(t:Option Addr)(tn tc:Nat)(g:Heap):Prop:=j<=st.arcs.length/\mz2=st.arcs.length - j/\ ∃ vs F L T,Se hb 0 (fun _=>0) n (fun k=>k=kl) kl vs F L T (.slice t tn tc) g/\Sl (dw M) (fun y=>y=S) n (fun y=>y=s) L T (mz - 1)/\L.getD S false=true/\(∀ z∈(jZ st).take j,L.getD z false=true)/\Num.Rch (dw M) (fun y=>y=S) s
def N8 (h:Heap)(n:Nat)(P:Nat->Prop):VH:=fun v h'=> ∃ kl L,v = .slice (some ⟨kl,0,none⟩) n n/\BR h kl n L h'/\ ∀ x,L.getD x false=true↔P x
set_option linter.defProp false in
def Ng {hb:Heap}(w:Wf hb)(gd:Good M)(hnM:n=M.states.length)(hn:n<=300)(mb0:MB hb k M a n c){kl S s:Nat}{st:MSt}(hs:M.states[s]?=some st)(hsl:st.arcs.length<=2000)(mv:List Value)(mz:Nat)(hmz:0 < mz)(Q:VH):=
 qg mv k n kl s (Rc hb M n kl S) mz (Rv hb M n kl S st s mz) Q (by
  intro mz2 j t tn tc; intros; rename_i g hin;obtain ⟨f1,f2,vs,F,L,T,se,sl,hS,hz,hr⟩:=hin;have ok:=se.us.ok;have mb:=mb0.ok ok;obtain ⟨b,o,x',y,z,e1,e2,e3,e4,ar⟩:=mb.row.at_ hs;have hm:=ar.len;refine ⟨_,aM _,_,_,_,mb.l3,_,e1,_,bm _ _,_,_,_,e4,ae (fun g1=> ?_) (fun g1=> ?_)⟩
  ·have g1:=dT g1;obtain ⟨q,hq⟩: ∃ q,st.arcs[j]?=some q:=⟨_,gE (by omega)⟩
   obtain ⟨bb,oo,d1,d2,d3,d4,d5,d6⟩:=ar.at_ hq;have hin:=gd.arcs st (List.mem_of_getElem? hs) q (List.mem_of_getElem? hq);obtain ⟨X,hX⟩: ∃ X:Nat,q.t=(X:Int):=⟨q.t.toNat,by have:=hin.t0; omega⟩
   have hXn:X < n:=by have:=hin.t1; omega
   have hXq:q.t.toNat=X:=by omega
   rw [hX] at d6;have hq':(jZ st)[j]?=some X:=by unfold jZ; rw [getElem?_map,hq]; exact congrArg some hXq
   have ht:(jZ st).take (j+1)=(jZ st).take j++[X]:=by rw [take_add_one,hq']; rfl
   have hE:dw M s X:=⟨st,hs,List.mem_of_getElem? hq'⟩
   obtain ⟨x1,x2⟩:=se.get hXn;have hw:=az (i:=j) (n:=st.arcs.length) (by omega) (by omega);have bd:=sl.bd;have ms:=sl.ms;refine ⟨_,aM _,_,_,_,mb.l3,_,e1,_,bm _ _,_,_,_,e4,_,d1,_,cE _ _,_,d6,_,x1,_,x2,ae (fun g2=> ?_) (fun g2=> ?_)⟩
   ·rw [not_eq_true'] at g2;obtain ⟨u,s1,s2,b',n',c',u2,s3,s4⟩:=se.see w hXn (by omega);obtain ⟨i1,i2⟩:=sl.inv.see hXn (.step hr hE) g2;have hl:X < L.length:=by rw [sl.inv.len]; exact hXn
    refine ⟨_,x1,u,s1,_,_,_,jR _,b',n',c',u2,s3,?_⟩;rw [hw];refine fG (mz2 - 1) (by omega) ⟨by omega,by omega,_,_,_,_,s4,⟨i1,by rw [length_append,length_singleton]; omega,by rw [length_append,length_singleton]; omega⟩,?_,fun z hz'=> ?_,hr⟩
    ·rw [Num.getD_setT hl]; split
     ·rfl
     ·exact hS
    ·rw [Num.getD_setT hl]; split
     ·rfl
     ·next hne=>
      rw [ht,mem_append,mem_singleton] at hz';rcases hz' with h1 | h1
      ·exact hz z h1
      ·exact absurd h1 hne
   ·rw [not_eq_false'] at g2;rw [hw];refine fG (mz2 - 1) (by omega) ⟨by omega,by omega,vs,F,L,T,se,sl,hS,fun z hz'=> ?_,hr⟩;rw [ht,mem_append,mem_singleton] at hz';rcases hz' with h1 | h1
    ·exact hz z h1
    ·rw [h1]; exact g2
  ·have g1:=dF g1;rw [take_of_length_le (by unfold jZ; rw [lM]; omega)] at hz;refine uX (mz - 1) (by omega) ⟨vs,F,L,T,se,⟨sl.inv.done fun z hE=> ?_,sl.bd,sl.ms⟩,hS⟩;obtain ⟨s',h1,h2⟩:=hE;rw [hs] at h1;obtain rfl:=oI h1;exact hz z h2)
theorem Dh (w:Wf h)(sm:Small M)(gd:Good M)(r:StRow h (.slice a n c) M.states):FW SS 64 [.agg ⟨aC M a n c⟩] h (N8 h n (Num.Rch (dw M) (fun y=>y=M.start.toNat))):=by
 obtain ⟨mb,ok⟩:=cD w r;have hl:=mb.len;have hn:n<=300:=by rw [hl]; exact sm.sts
 have hst0:=gd.start0;have hst1:=gd.start1;obtain ⟨S,hS⟩: ∃ S:Nat,M.start=(S:Int):=⟨M.start.toNat,by omega⟩
 have hSn:S < n:=by omega
 have hSt:M.start.toNat=S:=by omega
 rw [hSt];refine DO (aC M a n c) h _ ⟨_,ei M a n c,_,aM _,_,_,_,mb.l3,_,_,_,Oa n (by omega),?_⟩;generalize h.push (Bm M a n c)=g0 at *;have w0:=ok.wf;have b0:=BR.new w0 n;have mb1:=mb.ok b0.row.ok;have l1:=mb1.l1;rw [hS] at l1;obtain ⟨x1,x2,x3⟩:=b0.get (c:=n) (x:=(S:Int)) (by omega) (by omega);obtain ⟨u,s1,s2,s3⟩:=x3 true w0;rw [toNat_natCast] at s2;refine ⟨_,dG _,_,l1,_,x1,u,s1,?_⟩;generalize u.app (g0.push (.cells ((List.replicate n false).map Value.bool) 4 1 true))=g2 at *;have mb2:=mb.ok s2.row.ok;have l2:=mb2.l1;rw [hS] at l2;refine ⟨_,dG _,_,l2,_,_,_,jR _,?_⟩;have op:=(Ok.refl s2.row.ok.wf).push (.cells [.int .i64 (S:Int)] 3 1 true);have kp:=aq g2 (.cells [.int .i64 (S:Int)] 3 1 true);have b3:=s2.trans op;have hlt:=s2.row.lt;have hnx:g0.next<=g2.next:=s2.row.ok.nx;have se:Se g0 0 (fun _=>0) n (fun k=>k=g0.next) g0.next [.slice (some ⟨g2.next,0,none⟩) 1 1] [[S]] ((List.replicate n false).set S true) [S] (.slice (some ⟨g2.next,0,none⟩) 1 1) (g2.push (.cells [.int .i64 (S:Int)] 3 1 true)):=by
  refine ⟨⟨fun r hr=>absurd hr (not_lt_zero _),⟨rfl,fun i v l hv hl'=> ?_,fun i j v v' hij h1 h2=> ?_,fun i v hv k hk=> ?_⟩,b3.row.ok,by simp,fun r hr=>absurd hr (not_lt_zero _),fun r _ hr=>absurd hr (not_lt_zero _),fun k hX=>by rw [hX]; exact b3.row.lt⟩,b3,rfl,fun r hr=>absurd hr (not_lt_zero _),by rw [zero_mul]; rfl,by rw [zero_mul]; rfl⟩
  ·cases i with
   | zero=>
    obtain rfl:=oI hv;obtain rfl:=oI hl';exact OwnG.built (vs:=[.int .i64 (S:Int)]) kp hnx (by simp [bi])
   | succ i=>cases hv
  ·cases i with
   | zero=>cases j with
    | zero=>exact absurd rfl hij
    | succ j=>cases h2
   | succ i=>cases h1
  ·cases i with
   | zero=>
    obtain rfl:=oI hv;have:g2.next=k:=oI hk;show ¬ k=g0.next;omega
   | succ i=>cases hv
 have hc:Num.cntF (List.replicate n false)=n:=by simp [Num.cntF]
 obtain ⟨i1,i2⟩:=(Num.sinv_new (E:=dw M) (F:=fun y=>y=S) n (fun _=>False)).see hSn (.base rfl) (by rw [gD,getElem?_replicate]; split <;> rfl);refine pT (aC M a n c) h.next n g0.next (Rc g0 M n g0.next S) _ (fun mz t tn tc=> ?_) (2*n) ⟨_,_,_,_,se,⟨i1,by simp; omega,by simp; omega⟩,by rw [Num.getD_setT (by rw [length_replicate]; exact hSn),if_pos rfl]⟩;intros; rename_i gg hi;obtain ⟨vs,F,L,T,se,sl,hLS⟩:=hi;have htn:tn=T.length:=by
  obtain ⟨a',c',e⟩:=se.slc;injection e
 refine ae (fun q1=> ?_) (fun q1=> ?_)
 ·have q1:=dT q1;obtain ⟨s,hs,p1,p2,p3,p4⟩:=vk (T:=T) (by omega);obtain ⟨p,e1,e2⟩:=J0 se.own.rd hs;obtain ⟨b,m,d,e3,se2⟩:=se.pop (by omega);have hsN:=(sl.inv.tin s p3).1;obtain ⟨st,hst⟩:=gf (M:=M) (i:=s) (by omega);have bd:=sl.bd;have ms:=sl.ms;refine ⟨_,e1,_,e2,b,m,d,e3,?_⟩;exact Ng w0 gd hl hn mb hst (eD sm hst).1 [] mz (by omega) _ st.arcs.length (j:=0) ⟨by omega,by omega,_,_,L,_,se2,⟨sl.inv.take p1 p2,by omega,by omega⟩,hLS,fun z hz=>(by rw [take_zero] at hz; cases hz),sl.inv.snd s (sl.inv.tin s p3).2⟩
 ·have q1:=dF q1;obtain rfl:T=[]:=List.eq_nil_of_length_eq_zero (by omega);exact ⟨_,L,rfl,se.br.base ok,sl.inv.final fun x hx=>by rw [hx]; exact hLS⟩
end
end
section
section
variable {hb g:Heap} {R:Nat} {kt:Nat->Nat} {N:Nat} {X:Nat->Prop} {kl:Nat} {vs:List Value} {F:List (List Nat)} {L:List Bool} {T:List Nat} {tv:Value}
theorem Se.add (w:Wf hb)(s:Se hb R kt N X kl vs F L T tv g){r t:Nat}(hr:r < R)(ht:t < N)(x:Nat)(hF: ∀ l∈F,l.length<=100000):
  ∃ (l:List Nat)(a:Option Addr)(c:Nat),F[r*N+t]?=some l/\ag SS.P 72 (.slice (some ⟨kt r,0,none⟩) N N) (.int .i64 (t:Int))=some (.pointer (some ⟨kt r,t,none⟩))/\ah SS.P 48 g (.pointer (some ⟨kt r,t,none⟩))=some (.slice a l.length c)/\
  ∃ (b:Option Addr)(n' c':Nat)(u:Upd),ay SS.P 48 48 (.slice a l.length c) (.slice (some ⟨g.next,0,none⟩) 1 1) (g.push (.cells [.int .i64 (x:Int)] 3 1 true))=some (.slice b n' c',u)/\
  ∃ u2:Upd,ai SS.P 48 (.pointer (some ⟨kt r,t,none⟩)) (.slice b n' c') (u.app (g.push (.cells [.int .i64 (x:Int)] 3 1 true)))=some (undef,u2)/\
   Se hb R kt N X kl (vs.set (r*N+t) (.slice b n' c')) (F.set (r*N+t) (l++[x])) L T tv (u2.app (u.app (g.push (.cells [.int .i64 (x:Int)] 3 1 true)))):=by
 obtain ⟨l,a,c,h1,h2,h3,h4⟩:=s.us.ld hr ht;have op:=(Ok.refl s.us.ok.wf).push (.cells [.int .i64 (x:Int)] 3 1 true);have kp:=aq g (.cells [.int .i64 (x:Int)] 3 1 true);have U2:=s.us.ext op;have br2:=s.br.trans op;obtain ⟨b,n',c',u,a1,a2,fm,ok4,kp4,nx4⟩:=U2.fam.snoc w U2.ok U2.xlt h2 h1 kp (hF l (List.mem_of_getElem? h1));have nX: ∀ k,X k->aG (.slice a l.length c)≠some k:=fun k hX e=>U2.fam.out _ _ h2 k e hX;obtain ⟨u2,s1,U5,kp5⟩:=U2.put w hr ht rfl rfl fm ok4 (fun j B hj hX=>kp4 j B hj (nX j hX)) nx4;have hlt:=Ey hr ht;have h2':(r+1)*N<=R*N:=mul_le_mul_right _ hr;rw [add_mul,one_mul] at h2';refine ⟨l,a,c,h1,h3,(h4 g s.us).1,b,n',c',u,a1,u2,s1,U5,⟨br2.len,kp5 _ _ (kp4 _ _ br2.row.row (nX _ s.xk)) (fun e=>s.nk r hr e.symm),br2.row.new,U5.ok⟩,s.xk,s.nk,?_,?_⟩
 ·rw [getElem?_set,if_neg (by omega)]; exact s.hT
 ·rw [getElem?_set,if_neg (by omega)]; exact s.hv
end
structure DB (M:Mach)(n i j cN:Nat)(F:List (List Nat)):Prop where
 bk: ∀ t l,t < n->F[0*n+t]?=some l-> ∀ x,x∈l↔Lg M i j x t
 ln: ∀ l∈F,l.length<=cN
theorem DB.arc {M:Mach}{n i j cN:Nat}{F:List (List Nat)}(d:DB M n i j cN F){s:MSt}{q:MArc}(hs:M.states[i]?=some s)(hq:s.arcs[j]?=some q){T:Nat}(hT:q.t.toNat=T){l:List Nat}(hl:F[0*n+T]?=some l):DB M n i (j+1) (cN+1) (F.set (0*n+T) (l++[i])):=by
 have b1:=d.ln l (List.mem_of_getElem? hl);refine ⟨fun t l' ht hl' x=> ?_,qf d.ln (by rw [length_append,length_singleton]; omega)⟩;rw [vY hs hq,hT];rcases aA hl' with ⟨e,rfl⟩ | ⟨e,hl'⟩
 ·obtain rfl:t=T:=by omega
  rw [mem_append,mem_singleton,d.bk _ l ht hl x];exact ⟨fun c=>c.imp id fun c=>⟨c,rfl⟩,fun c=>c.imp id fun c=>c.1⟩
 ·rw [d.bk t l' ht hl' x];exact ⟨.inl,fun c=>c.elim id fun c=>absurd (by rw [c.2]) e⟩
theorem DB.tail {M:Mach}{n i cN:Nat}{F:List (List Nat)}(d:DB M n i 0 cN F){l':List Nat}(hl:l'.length<=cN+1):DB M n i 0 (cN+1) (F.set (1*n) l'):=by
 refine ⟨fun t l ht hl' x=> ?_,qf d.ln hl⟩;rcases aA hl' with ⟨e,_⟩ | ⟨_,h⟩
 ·omega
 ·exact d.bk t l ht h x
theorem DB.next {M:Mach}{n i j cN:Nat}{F:List (List Nat)}(d:DB M n i j cN F){s:MSt}(hs:M.states[i]?=some s)(hj:s.arcs.length<=j):DB M n (i+1) 0 cN F:=
 ⟨fun t l ht hl x=>by rw [d.bk t l ht hl x,vc hs hj,gC],d.ln⟩
def Nr (M:Mach):Nat->Nat->Prop:=fun y x=>dw M x y
section
variable {h:Heap} {M:Mach} {a:Option Addr} {n c k kl kb:Nat}
def eX (kl kb:Nat):Nat->Prop:=fun k=>k=kl\/k=kb
def NB (hb:Heap)(M:Mach)(n kl kb i j i' cN:Nat)(t:Option Addr)(tn tc:Nat)(g:Heap):Prop:= ∃ vs F L T,Se hb 1 (fun _=>kb) n (eX kl kb) kl vs F L T (.slice t tn tc) g/\DB M n i j cN F/\Num.SInv (Nr M) (mN M) n L T (fun _=>False)/\2*Num.cntF L+T.length<=2*n/\(∀ x,L.getD x false=true↔x < i'/\mN M x)
def Rj (hb:Heap)(M:Mach)(n kl kb:Nat)(mz i:Nat)(t:Option Addr)(tn tc:Nat)(g:Heap):Prop:=i<=n/\mz=n - i/\ ∃ cN,NB hb M n kl kb i 0 i cN t tn tc g/\cN+kw (M.states.drop i)+(n - i)<=2300
def Rz (hb:Heap)(M:Mach)(n kl kb:Nat)(st:MSt)(t:Option Addr)(tn tc i:Nat)(mz2 j:Nat)(g:Heap):Prop:=j<=st.arcs.length/\mz2=st.arcs.length - j/\ ∃ cN,NB hb M n kl kb i j (i+1) cN t tn tc g/\cN+(st.arcs.length - j)+kw (M.states.drop (i+1))+(n - (i+1))<=2300
set_option linter.defProp false in
def FO {hb:Heap}(w:Wf hb)(gd:Good M)(hnM:n=M.states.length)(hn:n<=300)(mb0:MB hb k M a n c){i:Nat}{st:MSt}(hs:M.states[i]?=some st)(hi:i < n)(hsl:st.arcs.length<=2000)(mv:List Value)(t:Option Addr)(tn tc mz:Nat)(hmz:mz=n - i)(Q:VH):=
 qI mv k n kl kb t tn tc (Rj hb M n kl kb) mz i (Rz hb M n kl kb st t tn tc i) Q (by
  intro mz2 j; intros; rename_i g hin;obtain ⟨f1,f2,cN,⟨vs,F,L,T,se,db,iv',bd,hL⟩,hcN⟩:=hin;have ok:=se.us.ok;have mb:=mb0.ok ok;obtain ⟨b,o,x',y,z,e1,e2,e3,e4,ar⟩:=mb.row.at_ hs;have hm:=ar.len;refine ⟨_,aM _,_,_,_,mb.l3,_,e1,_,bm _ _,_,_,_,e4,ae (fun g1=> ?_) (fun g1=> ?_)⟩
  ·have g1:=dT g1;obtain ⟨q,hq⟩: ∃ q,st.arcs[j]?=some q:=⟨_,gE (by omega)⟩
   obtain ⟨bb,oo,d1,d2,d3,d4,d5,d6⟩:=ar.at_ hq;have hin:=gd.arcs st (List.mem_of_getElem? hs) q (List.mem_of_getElem? hq);obtain ⟨Y,hY⟩: ∃ Y:Nat,q.t=(Y:Int):=⟨q.t.toNat,by have:=hin.t0; omega⟩
   have hYn:Y < n:=by have:=hin.t1; omega
   have hYq:q.t.toNat=Y:=by omega
   rw [hY] at d6;obtain ⟨l,ra,rc,h1,h2,h3,b',n',c',u,a1,u2,a2,se2⟩:=se.add w (r:=0) (t:=Y) (by omega) hYn i (fun l hl=>by have:=db.ln l hl; omega);refine ⟨_,aM _,_,_,_,mb.l3,_,e1,_,bm _ _,_,_,_,e4,_,d1,_,cE _ _,_,d6,_,h2,_,_,_,h3,_,_,_,jR _,b',n',c',u,a1,_,h2,u2,a2,?_⟩;rw [az (i:=j) (n:=st.arcs.length) (by omega) (by omega)];exact bp (mz2 - 1) (by omega) ⟨by omega,by omega,cN+1,⟨_,_,L,T,se2,db.arc hs hq hYq h1,iv',bd,hL⟩,by omega⟩
  ·have g1:=dF g1;rw [az hi (by omega)];exact fG (n - (i+1)) (by omega) ⟨by omega,rfl,cN,⟨vs,F,L,T,se,db.next hs (by omega),iv',bd,hL⟩,by omega⟩)
def Bks (M:Mach)(n:Nat)(F:List (List Nat)):Prop:= ∀ t l,t < n->F[0*n+t]?=some l->l.length<=2300/\ ∀ x,x∈l↔dw M x t
def Q9 (hb:Heap)(M:Mach)(n kl kb:Nat)(mz3:Nat)(t:Option Addr)(tn tc:Nat)(g:Heap):Prop:= ∃ vs F L T,Se hb 1 (fun _=>kb) n (eX kl kb) kl vs F L T (.slice t tn tc) g/\Sl (Nr M) (mN M) n (fun _=>False) L T mz3/\(∀ x,mN M x->L.getD x false=true)/\Bks M n F
def Rs (hb:Heap)(M:Mach)(n kl kb s:Nat)(lS:List Nat)(mz3:Nat)(mz4 j:Nat)(t:Option Addr)(tn tc:Nat)(g:Heap):Prop:=j<=lS.length/\mz4=lS.length - j/\ ∃ vs F L T,Se hb 1 (fun _=>kb) n (eX kl kb) kl vs F L T (.slice t tn tc) g/\Sl (Nr M) (mN M) n (fun y=>y=s) L T (mz3 - 1)/\(∀ x,mN M x->L.getD x false=true)/\Bks M n F/\F[0*n+s]?=some lS/\(∀ z∈lS.take j,L.getD z false=true)/\Num.Rch (Nr M) (mN M) s
theorem Bks.tail {F:List (List Nat)}(b:Bks M n F)(l':List Nat):Bks M n (F.set (1*n) l'):=fun t l ht hl=>by
 rcases aA hl with ⟨e,_⟩ | ⟨_,h⟩
 ·omega
 ·exact b t l ht h
set_option linter.defProp false in
def KQ {hb:Heap}(w:Wf hb)(hn:n<=300)(hnM:n=M.states.length){s:Nat}(hsn:s < n){lS:List Nat}(mv:List Value)(mz3:Nat)(hmz:0 < mz3)(hll:lS.length<=2300)(hlS: ∀ x,x∈lS↔dw M x s)(Q:VH):=
 qq mv n kl kb s (Q9 hb M n kl kb) mz3 (Rs hb M n kl kb s lS mz3) Q (by
  intro mz4 j t tn tc; intros; rename_i g hin;obtain ⟨f1,f2,vs,F,L,T,se,sl,hfin,bks,hFs,hz,hr⟩:=hin;obtain ⟨l,ra,rc,h1,h2,h3,h4⟩:=se.us.ld (r:=0) (i:=s) (by omega) hsn;rw [hFs] at h1;obtain rfl:=oI h1;obtain ⟨l1,l2⟩:=h4 g se.us;refine ⟨_,h3,_,_,_,l1,ae (fun g1=> ?_) (fun g1=> ?_)⟩
  ·have g1:=dT g1;obtain ⟨x,hx⟩: ∃ x,lS[j]?=some x:=⟨_,gE (by omega)⟩
   obtain ⟨p,e1,e2⟩:=J0 l2 hx;have hE:Nr M s x:=(hlS x).1 (List.mem_of_getElem? hx);have hxn:x < n:=by have:=nh hE; omega
   have ht:lS.take (j+1)=lS.take j++[x]:=by rw [take_add_one,hx]; rfl
   obtain ⟨x1,x2⟩:=se.get hxn;have hw:=az (i:=j) (n:=lS.length) (by omega) (by omega);have bd:=sl.bd;have ms:=sl.ms;refine ⟨_,h3,_,_,_,l1,_,e1,_,e2,_,x1,_,x2,ae (fun g2=> ?_) (fun g2=> ?_)⟩
   ·rw [not_eq_true'] at g2;obtain ⟨u,s1,s2,b',n',c',u2,s3,s4⟩:=se.see w hxn (by omega);obtain ⟨i1,i2⟩:=sl.inv.see hxn (.step hr hE) g2;have hl:x < L.length:=by rw [sl.inv.len]; exact hxn
    refine ⟨_,x1,u,s1,_,_,_,jR _,b',n',c',u2,s3,?_⟩;rw [hw];refine fG (mz4 - 1) (by omega) ⟨by omega,by omega,_,_,_,_,s4,⟨i1,by rw [length_append,length_singleton]; omega,by rw [length_append,length_singleton]; omega⟩,fun z hz'=> ?_,bks.tail _,?_,fun z hz'=> ?_,hr⟩
    ·rw [Num.getD_setT hl]; split
     ·rfl
     ·exact hfin z hz'
    ·rw [getElem?_set,if_neg (by omega)]; exact hFs
    ·rw [Num.getD_setT hl]; split
     ·rfl
     ·next hne=>
      rw [ht,mem_append,mem_singleton] at hz';rcases hz' with h1 | h1
      ·exact hz z h1
      ·exact absurd h1 hne
   ·rw [not_eq_false'] at g2;rw [hw];refine fG (mz4 - 1) (by omega) ⟨by omega,by omega,vs,F,L,T,se,sl,hfin,bks,hFs,fun z hz'=> ?_,hr⟩;rw [ht,mem_append,mem_singleton] at hz';rcases hz' with h1 | h1
    ·exact hz z h1
    ·rw [h1]; exact g2
  ·have g1:=dF g1;rw [take_of_length_le (by omega)] at hz;exact uX (mz3 - 1) (by omega) ⟨vs,F,L,T,se,⟨sl.inv.done fun z hE=>hz z ((hlS z).2 hE),sl.bd,sl.ms⟩,hfin,bks⟩)
set_option linter.defProp false in
def MU {hb:Heap}(w:Wf hb)(okb:Ok h hb)(hn:n<=300)(hnM:n=M.states.length)(mv:List Value):=
 qX mv n kl kb (Q9 hb M n kl kb) (N8 h n (Num.Rch (Nr M) (mN M))) (by
  intro mz3 t tn tc; intros; rename_i g hin;obtain ⟨vs,F,L,T,se,sl,hfin,bks⟩:=hin;have htn:tn=T.length:=by
   obtain ⟨a',c',e⟩:=se.slc;injection e
  refine ae (fun q1=> ?_) (fun q1=> ?_)
  ·have q1:=dT q1;obtain ⟨s,hs,p1,p2,p3,p4⟩:=vk (T:=T) (by omega);obtain ⟨p,e1,e2⟩:=J0 se.own.rd hs;obtain ⟨b,m,d,e3,se2⟩:=se.pop (by omega);have hsN:=(sl.inv.tin s p3).1;have bd:=sl.bd;have ms:=sl.ms;obtain ⟨lS,hlS⟩: ∃ lS,F[0*n+s]?=some lS:=⟨_,gE (by rw [se.us.len]; omega)⟩
   obtain ⟨b1,b2⟩:=bks s lS hsN hlS;refine ⟨_,e1,_,e2,b,m,d,e3,?_⟩;exact KQ w hn hnM hsN [] mz3 (by omega) b1 b2 _ lS.length (j:=0) ⟨by omega,by omega,_,_,L,_,se2,⟨sl.inv.take p1 p2,by omega,by omega⟩,hfin,bks.tail _,by rw [getElem?_set,if_neg (by omega)]; exact hlS,fun z hz=>(by rw [take_zero] at hz; cases hz),sl.inv.snd s (sl.inv.tin s p3).2⟩
  ·have q1:=dF q1;obtain rfl:T=[]:=List.eq_nil_of_length_eq_zero (by omega);exact ⟨_,L,rfl,se.br.base okb,sl.inv.final hfin⟩)
theorem HP (w:Wf h)(sm:Small M)(gd:Good M)(r:StRow h (.slice a n c) M.states):FW SS 65 [.agg ⟨aC M a n c⟩] h (N8 h n (Num.Rch (Nr M) (mN M))):=by
 obtain ⟨mb,ok⟩:=cD w r;have hl:=mb.len;have hn:n<=300:=by rw [hl]; exact sm.sts
 refine HC (aC M a n c) h _ ⟨_,ei M a n c,_,aM _,_,_,_,mb.l3,_,_,_,Oa n (by omega),?_⟩;generalize h.push (Bm M a n c)=g0 at *;have w0:=ok.wf;have b0:=BR.new w0 n;have hn1:(g0.push (.cells ((List.replicate n false).map Value.bool) 4 1 true)).next=g0.next+1:=rfl;generalize g0.push (.cells ((List.replicate n false).map Value.bool) 4 1 true)=g1 at *;have mb1:=mb.ok b0.row.ok;refine ⟨_,aM _,_,_,_,mb1.l3,_,_,_,OQ n (by omega),?_⟩;have op:=(Ok.refl b0.row.ok.wf).push (iR n);have kp:=aq g1 (iR n);have b3:=b0.trans op;have hlt:=b3.row.lt;have hlt2:=op.wf _ _ kp;have hrep: ∀ {i:Nat}{v:Value},(List.replicate (n+1) rU)[i]?=some v->v=rU:=fun {i v} hl=>by
  rw [getElem?_replicate] at hl;split at hl
  ·exact (oI hl).symm
  ·cases hl
 have hrepF: ∀ {i:Nat}{l:List Nat},(List.replicate (n+1) ([]:List Nat))[i]?=some l->l=[]:=fun {i l} hl=>by
  rw [getElem?_replicate] at hl;split at hl
  ·exact (oI hl).symm
  ·cases hl
 have se:Se g0 1 (fun _=>g1.next) n (eX g0.next g1.next) g0.next (List.replicate (n+1) rU) (List.replicate (n+1) []) (List.replicate n false) [] (.slice none 0 0) (g1.push (iR n)):=by
  refine ⟨⟨fun r hr=> ?_,⟨by rw [length_replicate,length_replicate],fun i v l hv hl=> ?_,fun i j v v' _ hv _ k hk=> ?_,fun i v hv k hk=> ?_⟩,b3.row.ok,by rw [length_replicate]; omega,fun r hr=>⟨.inr rfl,by omega⟩,fun r r' hr hr' hne=>absurd (by omega) hne,fun k hX=> ?_⟩,b3,.inl rfl,fun r hr=>by omega,?_,?_⟩
  ·have:r=0:=by omega
   subst this;rw [zero_mul,drop_zero,List.take_replicate,show min n (n+1)=n by omega];exact kp
  ·rw [hrep hv,hrepF hl]; exact OwnG.nil _ _ _
  ·rw [hrep hv] at hk; cases hk
  ·rw [hrep hv] at hk; cases hk
  ·rcases hX with rfl | rfl
   ·exact hlt
   ·exact hlt2
  ·rw [getElem?_replicate,if_pos (by omega)]
  ·rw [getElem?_replicate,if_pos (by omega)]; rfl
 have hc:Num.cntF (List.replicate n false)=n:=by simp [Num.cntF]
 have hf0: ∀ x,(List.replicate n false).getD x false=false:=fun x=>by rw [gD,getElem?_replicate]; split <;> rfl
 refine q7 (aC M a n c) h.next n g0.next g1.next (Rj g0 M n g0.next g1.next) _ (fun mz i t tn tc=> ?_) n (i:=0) (t:=none) (tn:=0) (tc:=0) ⟨by omega,rfl,0,⟨_,_,_,_,se,⟨fun t l ht hl x=> ?_,fun l hl=> ?_⟩,Num.sinv_new n _,by rw [hc]; simp,fun x=> ?_⟩,by rw [drop_zero]; have:=sm.tot; omega⟩
 rotate_left
 ·rw [hrepF hl,gC]; exact ⟨fun c=>(by cases c),fun c=>absurd c.1 (not_lt_zero _)⟩
 ·rw [List.eq_of_mem_replicate hl]; exact le_refl _
 ·rw [hf0]; exact ⟨fun c=>(by cases c),fun c=>absurd c.1 (not_lt_zero _)⟩
 intros; rename_i gg hi;obtain ⟨f1,f2,cN,⟨vs,F,L,T,se,db,iv',bd,hL⟩,hcN⟩:=hi;have mbg:=mb.ok se.us.ok;refine ⟨_,aM _,_,_,_,mbg.l3,ae (fun q1=> ?_) (fun q1=> ?_)⟩
 ·have q1:=dT q1;have hi:i < n:=by omega
  obtain ⟨s,hs⟩:=gf (M:=M) (i:=i) (by omega);obtain ⟨b,o,x',y,z,e1,e2,e3,e4,ar⟩:=mbg.row.at_ hs;obtain ⟨l1,l2,l3⟩:=eD sm hs;have hd:kw (M.states.drop i)=s.arcs.length+kw (M.states.drop (i+1)):=by rw [cQ hs,kO]
  refine ⟨_,aM _,_,_,_,mbg.l3,_,e1,_,fY _ _,_,e3,ae (fun q2=> ?_) (fun q2=> ?_)⟩
  ·have q2:s.f≠[]:=by simpa using q2
   have hTl:=db.ln T (List.mem_of_getElem? se.hT);obtain ⟨x1,x2⟩:=se.get hi;have h0:L.getD i false=false:=by
    cases hb:L.getD i false with
    | false=>rfl
    | true=>have:=(hL i).1 hb; omega
   obtain ⟨u,s1,s2,b',n',c',u2,s3,s4⟩:=se.see w0 hi (by omega);obtain ⟨i1,i2⟩:=iv'.see hi (.base ⟨s,hs,q2⟩) h0;have hl':i < L.length:=by rw [iv'.len]; exact hi
   refine ⟨_,x1,u,s1,_,_,_,jR _,b',n',c',u2,s3,?_⟩;refine FO w0 gd hl hn mb hs hi l1 [] b' n' c' mz f2 _ s.arcs.length (j:=0) ⟨by omega,by omega,cN+1,⟨_,_,_,_,s4,db.tail (by rw [length_append,length_singleton]; omega),i1,by rw [length_append,length_singleton]; omega,fun x=> ?_⟩,by omega⟩;rw [Num.getD_setT hl'];split
   ·next e=>subst e; exact ⟨fun _=>⟨by omega,s,hs,q2⟩,fun _=>rfl⟩
   ·next e=>rw [hL x]; exact ⟨fun c=>⟨by omega,c.2⟩,fun c=>⟨by omega,c.2⟩⟩
  ·have q2:s.f=[]:=by simpa using q2
   refine FO w0 gd hl hn mb hs hi l1 [] t tn tc mz f2 _ s.arcs.length (j:=0) ⟨by omega,by omega,cN+1,⟨vs,F,L,T,se,⟨db.bk,fun l hl=>Nat.le_succ_of_le (db.ln l hl)⟩,iv',bd,fun x=> ?_⟩,by omega⟩;rw [hL x];refine ⟨fun c=>⟨by omega,c.2⟩,fun c=>⟨?_,c.2⟩⟩;rcases lt_or_ge x i with h3 | h3
   ·exact h3
   ·obtain rfl:x=i:=by omega
    obtain ⟨s',h4,h5⟩:=c.2;rw [hs] at h4;obtain rfl:=oI h4;exact absurd q2 h5
 ·have q1:=dF q1;obtain rfl:n=i:=by omega
  refine MU w0 ok hn hl (aC M a n c) (2*n) ⟨vs,F,L,T,se,⟨iv',bd,bd⟩,fun x hx=>(hL x).2 ⟨?_,hx⟩,fun t l ht hl'=>⟨by have:=db.ln l (List.mem_of_getElem? hl'); omega,fun x=> ?_⟩⟩
  ·obtain ⟨s,h2,_⟩:=hx;have:=(List.getElem?_eq_some_iff.1 h2).1;omega
  ·rw [db.bk t l ht hl' x,gC];exact ⟨fun c=>c.2,fun c=>⟨by rw [hl]; exact nh c,c⟩⟩
end
end
section
section
variable {h:Heap} {M:Mach} {a:Option Addr} {n c:Nat}
theorem JZ {g:Heap}(r:StRow g (.slice a n c) M.states):dY 4 (.agg ⟨aC M a n c⟩) (.agg ⟨aC M a n c⟩)=true:=by
 obtain ⟨ps,h1,⟨_,⟨h2 | h2,_⟩ | ⟨k,off,cs,e',z,c',wr,h2,_⟩⟩,_,hnd⟩:=r
 ·rw [show aC M a n c=[.int .i64 M.kind,.int .i64 M.start,aa M.lead,.slice none 0 0] by unfold aC; rw [h2]];simp [dY,CW,aa]
 ·exact absurd h2 hnd
 ·rw [show aC M a n c=[.int .i64 M.kind,.int .i64 M.start,aa M.lead,.slice (some ⟨k,off,none⟩) (ps.map gG).length c'] by unfold aC; rw [h2]];simp [dY,CW,aa]
set_option linter.defProp false in
def zL (w1:Wf h){kl kr:Nat}{L1 L2:List Bool}(hL1: ∀ x,L1.getD x false=true↔Num.Rch (dw M) (fun y=>y=M.start.toNat) x)(hL2: ∀ x,L2.getD x false=true↔Num.Rch (Nr M) (mN M) x)(hl2:L2.length=n)(hne:kr≠kl)(hn:n<=300)(Q:VH)(hQ: ∀ v g',uQ h M n v g'->Q v g')(mv:List Value):=
 qd mv n kl kr (MX h kl kr n L1 L2) Q (by
  intro mz3 i; intros; rename_i g hin;have h3:=hin;obtain ⟨f1,f2,L,br,hr,hL⟩:=h3;refine ae (fun q1=> ?_) (fun q1=> ?_)
  ·have q1:=dT q1;have hi:i < n:=by omega
   obtain ⟨x1,x2⟩:=gh (c:=n) hr hl2 hi;obtain ⟨y1,y2⟩:=gh (c:=n) br.row.row br.len hi;have e:=hL i;rw [if_neg (Nat.lt_irrefl i)] at e;rw [e] at y2;refine ⟨_,y1,_,y2,ae (fun t=> ?_) (fun t=> ?_)⟩
   ·obtain ⟨u,s1,s2⟩:=nS w1 hin hl2 hne hi (b:=L2.getD i false) (by rw [t]; rfl);refine ⟨_,x1,_,x2,_,y1,u,s1,?_⟩;rw [az hi (by omega)];exact bp (mz3 - 1) (by omega) s2
   ·obtain ⟨u,s1,s2⟩:=nS w1 hin hl2 hne hi (b:=false) (by rw [t]; rfl);refine ⟨_,y1,u,s1,?_⟩;rw [az hi (by omega)];exact bp (mz3 - 1) (by omega) s2
  ·have q1:=dF q1;refine hQ _ _ ⟨kl,L,rfl,br,fun x hx=> ?_⟩;rw [hL x,if_pos (by omega),and_eq_true,hL1,hL2];exact Iff.rfl)
theorem Dy (w:Wf h)(sm:Small M)(gd:Good M)(r:StRow h (.slice a n c) M.states):FW SS 42 [.agg ⟨aC M a n c⟩] h (uQ h M n):=by
 obtain ⟨mb,ok⟩:=cD w r;have hl:=mb.len;have hn:n<=300:=by rw [hl]; exact sm.sts
 refine DV (aC M a n c) h _ ⟨_,ei M a n c,?_⟩;generalize h.push (Bm M a n c)=g at *;have oR:=(Ok.refl ok.wf).room 6;have mbR:=mb.ok oR;have okR:=ok.trans oR;have hv:=JZ mbR.row;refine ⟨_,mbR.all,?_⟩;have lR:=mbR.all;generalize Go.Ab.room g 6=gR at *;refine (Dh okR.wf sm gd mbR.row).mono ?_;rintro _ g2 ⟨kl,L1,rfl,br1,hL1⟩;have mb2:=mbR.ok br1.row.ok;refine ⟨_,_,_,rfl,_,mb2.all,(HP br1.row.ok.wf sm gd mb2.row).mono ?_⟩;rintro _ g3 ⟨kr,L2,rfl,br2,hL2⟩;refine ⟨_,_,_,rfl,⟨lR,hv⟩,?_⟩;have hne:kr≠kl:=by have:=br1.row.lt; have:=br2.row.new; omega
 exact zL (n:=n) okR.wf hL1 hL2 br2.len hne hn (uQ h M n) (fun v g' ⟨k1,L,e1,e2,e3⟩=>⟨k1,L,e1,e2.base okR,e3⟩) (aC M a n c) n (i:=0) ⟨by omega,rfl,L1,br1.trans br2.row.ok,br2.row.row,fun x=>by rw [if_neg (not_lt_zero _)]⟩
end
end
end Go.Proofs.YtoabjjimjldcfaaGreatDoor
end
section
set_option linter.unusedVariables false
namespace Go.Ab
open Go
theorem ft {sz:Nat}: ∀ {l:List (List Value)},(∀ r∈l,r.length=sz)->l.flatten.length=l.length*sz
 | [],_=>by simp
 | r::l,h=>by
  rw [flatten_cons,length_append,ft fun x hx=>h x (mem_cons_of_mem _ hx),h r (mem_cons_self ..),length_cons,add_mul,one_mul,Nat.add_comm]
theorem Br {sz:Nat}: ∀ {l:List (List Value)},(∀ r∈l,r.length=sz)-> ∀ {i:Nat}{r:List Value},l[i]?=some r->(l.flatten.drop (i*sz)).take sz=r
 | [],_,i,r,h=>by simp at h
 | x::l,hl,0,r,h=>by
  obtain rfl:x=r:=by simpa using h
  have hx:=hl x (mem_cons_self ..);rw [zero_mul,drop_zero,flatten_cons,List.take_append_of_le_length (by omega),take_of_length_le (by omega)]
 | x::l,hl,i+1,r,h=>by
  have hx:=hl x (mem_cons_self ..);rw [flatten_cons,add_mul,one_mul,List.drop_append,List.drop_eq_nil_of_le (by omega),nil_append,hx,show i*sz+sz - sz=i*sz by omega];exact Br (fun y hy=>hl y (mem_cons_of_mem _ hy)) (by simpa using h)
theorem yP {sz:Nat}: ∀ {l:List (List Value)},(∀ r∈l,r.length=sz)-> ∀ {i j:Nat}{r:List Value}{v:Value},l[i]?=some r->j < sz->(l.set i (r.set j v)).flatten=l.flatten.set (i*sz+j) v
 | [],_,i,j,r,v,h,_=>by simp at h
 | x::l,hl,0,j,r,v,h,hj=>by
  obtain rfl:x=r:=by simpa using h
  have hx:=hl x (mem_cons_self ..);rw [List.set_cons_zero,flatten_cons,flatten_cons,zero_mul,zero_add,List.set_append,if_pos (by omega)]
 | x::l,hl,i+1,j,r,v,h,hj=>by
  have hx:=hl x (mem_cons_self ..);rw [List.set_cons_succ,flatten_cons,flatten_cons,yP (fun y hy=>hl y (mem_cons_of_mem _ hy)) (by simpa using h) hj,List.set_append,if_neg (by rw [add_mul]; omega),add_mul,one_mul,hx,show i*sz+sz+j - sz=i*sz+j by omega]
theorem xz {sz:Nat}: ∀ {l:List (List Value)}{cs:List Value}{off:Nat},(∀ r∈l,r.length=sz)->off+l.length*sz<=cs.length->(∀ (i:Nat)(r:List Value),l[i]?=some r->(cs.drop (off+i*sz)).take sz=r)->(cs.drop off).take (l.length*sz)=l.flatten
 | [],_,_,_,_,_=>by simp
 | x::l,cs,off,hl,hb,h=>by
  rw [length_cons,add_mul,one_mul] at hb;have h0:=h 0 x rfl;rw [zero_mul,Nat.add_zero] at h0;have ih:=xz (l:=l) (cs:=cs) (off:=off+sz) (fun r hr=>hl r (mem_cons_of_mem _ hr)) (by omega) (fun i r hi=>by
   have:=h (i+1) r (by simpa using hi);rw [add_mul,one_mul] at this;rw [show off+sz+i*sz=off+(i*sz+sz) by omega];exact this)
  rw [flatten_cons,<-ih,length_cons,add_mul,one_mul,Nat.add_comm (l.length*sz) sz,List.take_add,h0,drop_drop]
def OwnK (h0 h:Heap)(e:TypeId)(sz:Nat)(v:Value)(rs:List (List Value)):Prop:=
 (∀ r∈rs,r.length=sz)/\((v = .slice none 0 0/\rs=[])\/ ∃ k off cs c,v = .slice (some ⟨k,off,none⟩) rs.length c/\h0.next<=k/\h.get k=some (.cells cs e sz true)/\(cs.drop off).take (rs.length*sz)=rs.flatten/\aK c*sz+off=cs.length/\rs.length<=aK c)
theorem OwnK.rd {h0 h:Heap}{e:TypeId}{sz:Nat}{v:Value}{rs:List (List Value)}(o:OwnK h0 h e sz v rs):RdN h e sz v rs:=by
 obtain ⟨hl,⟨h1,h2⟩ | ⟨k,off,cs,c,h1,h2,h3,h4,h5,h6⟩⟩:=o
 ·exact ⟨hl,.inl ⟨.inl h1,h2⟩⟩
 ·have h7:=mul_le_mul_right sz h6;refine ⟨hl,.inr ⟨k,off,cs,e,sz,c,true,h1,h3,by omega,fun i r hi=> ?_⟩⟩;have h8:=Br hl hi;have hlt:i < rs.length:=(List.getElem?_eq_some_iff.1 hi).1;have h9:(i+1)*sz<=rs.length*sz:=mul_le_mul_right _ hlt;rw [add_mul,one_mul] at h9;rw [<-h4,drop_take,List.take_take,min_eq_left (by omega),drop_drop] at h8;exact h8
theorem OwnK.keep {h0 h h':Heap}{e:TypeId}{sz:Nat}{v:Value}{rs:List (List Value)}(o:OwnK h0 h e sz v rs)(hk: ∀ (k:Nat) (B:Blk),aG v=some k->h.get k=some B->h'.get k=some B):OwnK h0 h' e sz v rs:=by
 obtain ⟨hl,o | ⟨k,off,cs,c,h1,h2,h3,h4,h5,h6⟩⟩:=o
 ·exact ⟨hl,.inl o⟩
 ·exact ⟨hl,.inr ⟨k,off,cs,c,h1,h2,hk k _ (by rw [h1]; rfl) h3,h4,h5,h6⟩⟩
theorem OwnK.ok {h0 h h':Heap}{e:TypeId}{sz:Nat}{v:Value}{rs:List (List Value)}(r:OwnK h0 h e sz v rs)(o:Ok h h'):OwnK h0 h' e sz v rs:=r.keep fun k B _ hk=>o.ext _ _ hk
theorem OwnK.base {h0 h1 h:Heap}{e:TypeId}{sz:Nat}{v:Value}{rs:List (List Value)}(r:OwnK h1 h e sz v rs)(o:Ok h0 h1):OwnK h0 h e sz v rs:=by
 obtain ⟨hl,r | ⟨k,off,cs,c,h1,h2,h3,h4,h5,h6⟩⟩:=r
 ·exact ⟨hl,.inl r⟩
 ·exact ⟨hl,.inr ⟨k,off,cs,c,h1,le_trans o.nx h2,h3,h4,h5,h6⟩⟩
theorem OwnK.lt {h0 h:Heap}{e:TypeId}{sz:Nat}{v:Value}{rs:List (List Value)}(o:OwnK h0 h e sz v rs)(w:Wf h){k:Nat}(hk:aG v=some k):k < h.next/\h0.next<=k:=by
 obtain ⟨_,⟨rfl,_⟩ | ⟨k',off,cs,c,h1,h2,h3,h4,h5,h6⟩⟩:=o
 ·cases hk
 ·rw [h1] at hk;obtain rfl:k'=k:=oI hk;exact ⟨w _ _ h3,h2⟩
theorem OwnK.nil (h0 h:Heap)(e:TypeId)(sz:Nat):OwnK h0 h e sz (.slice none 0 0) []:=⟨fun r hr=>(by cases hr),.inl ⟨rfl,rfl⟩⟩
theorem OwnK.slc {h0 h:Heap}{e:TypeId}{sz:Nat}{v:Value}{rs:List (List Value)}(o:OwnK h0 h e sz v rs): ∃ (a:Option Addr)(c:Nat),v = .slice a rs.length c:=o.rd.slc
theorem OwnK.blk {h0 h:Heap}{e:TypeId}{sz:Nat}{v:Value}{rs:List (List Value)}(o:OwnK h0 h e sz v rs)(hp:0 < rs.length): ∃ (k off c:Nat),v = .slice (some ⟨k,off,none⟩) rs.length c/\h0.next<=k:=by
 obtain ⟨_,⟨_,rfl⟩ | ⟨k,off,cs,c,h1,h2,_⟩⟩:=o
 ·exact absurd hp (Nat.lt_irrefl 0)
 ·exact ⟨k,off,c,h1,h2⟩
theorem OwnK.made {h0 h:Heap}{e:TypeId}{sz k:Nat}{rs:List (List Value)}(hk:h.get k=some (.cells rs.flatten e sz true))(hr: ∀ r∈rs,r.length=sz)(h0k:h0.next<=k)(hl:rs.length < bi):OwnK h0 h e sz (.slice (some ⟨k,0,none⟩) rs.length rs.length) rs:=by
 have hc:aK rs.length=rs.length:=by unfold aK; rw [if_neg (by omega)]
 have hf:=ft hr;exact ⟨hr,.inr ⟨k,0,rs.flatten,rs.length,rfl,h0k,hk,by rw [drop_zero,take_of_length_le (by omega)],by rw [hc,hf]; rfl,by rw [hc]; exact le_refl _⟩⟩
theorem OwnK.add {P:Program}{t t' e:TypeId}{i:TypeInfo}{sz:Nat}(hU:P.underlying t=some (.slice e))(hE:cL P e=some i)(hs:i.size=sz)(hT:bW P t'=true){h0 g:Heap}(w0:Wf h0)(a:Ok h0 g){v:Value}{rs:List (List Value)}(o:OwnK h0 g e sz v rs){x:Value}{ns:List (List Value)}(hsrc:cg g sz x=some (ns.flatten,ns.length))(hns: ∀ r∈ns,r.length=sz)(hx:ns.flatten.all bw=true)(hl:(rs.length+ns.length)*i.bytes<=70368744177664)(hl2:rs.length+ns.length<=1099511627776)(h1m:ns.length<=1\/v = .slice none 0 0):
  ∃ (b:Option Addr)(n c:Nat)(u:Upd),ay P t t' v x g=some (.slice b n c,u)/\n=rs.length+ns.length/\OwnK h0 (u.app g) e sz (.slice b n c) (rs++ns)/\Ok h0 (u.app g)/\
   (∀ j B,g.get j=some B->aG v≠some j->(u.app g).get j=some B)/\
   (∀ j,aG (.slice b n c)=some j->g.next<=j\/aG v=some j)/\g.next<=(u.app g).next:=by
 obtain ⟨hr,o⟩:=o;have hrn: ∀ r∈rs++ns,r.length=sz:=fun r h=>(mem_append.1 h).elim (hr r) (hns r);have f1:=ft hr;have f2:=ft hns;unfold ay;rw [hU]; dsimp only;rw [hE]; dsimp only;rw [hs,if_pos hT,hsrc]; dsimp only;rw [if_pos ⟨hx,f2⟩];have pl: ∀ B:Blk,∀ j B',g.get j=some B'->(g.push B).get j=some B':=fun B j B' hj=>by
  rw [Heap.get_push,if_neg (fun e=>by have:=a.wf _ _ hj; omega)]; exact hj
 rcases o with ⟨rfl,rfl⟩ | ⟨k,off,cs,c,rfl,h2,h3,h4,h5,h6⟩
 ·by_cases hm:ns.length=0
  ·rw [if_pos hm];obtain rfl:=List.eq_nil_of_length_eq_zero hm;exact ⟨_,_,_,_,rfl,rfl,⟨hrn,.inl ⟨rfl,rfl⟩⟩,a,fun j B hj _=>hj,fun j e=> .inr e,le_refl _⟩
  ·rw [length_nil,zero_add] at hl hl2;rw [if_neg hm,if_pos ⟨hl,hl2⟩];refine ⟨_,_,_,_,rfl,(zero_add _).symm,⟨hrn,.inr ⟨g.next,0,ns.flatten,bi+ns.length,rfl,a.nx,?_,?_,by rw [bJ,f2]; rfl,by rw [bJ]; exact le_refl _⟩⟩,a.push _,fun j B hj _=>pl _ j B hj,fun j e=> .inl (le_of_eq (oI e)),le_succ _⟩
   ·show (g.push _).get g.next=_;rw [Heap.get_push,if_pos rfl]
   ·rw [drop_zero,nil_append,take_of_length_le (by omega)]
 ·dsimp only;by_cases hm:ns.length=0
  ·rw [if_pos hm];obtain rfl:=List.eq_nil_of_length_eq_zero hm;exact ⟨_,_,_,_,rfl,rfl,⟨hrn,.inr ⟨k,off,cs,c,by rw [append_nil],h2,h3,by rw [append_nil]; exact h4,h5,by rw [append_nil]; exact h6⟩⟩,a,fun j B hj _=>hj,fun j e=> .inr e,le_refl _⟩
  have hkn:=a.wf _ _ h3;have m1:(rs.length+ns.length)*sz=rs.length*sz+ns.length*sz:=add_mul ..;rw [if_neg hm];by_cases hroom:rs.length+ns.length<=aK c
  ·rw [if_pos hroom];have m2:(rs.length+ns.length)*sz<=aK c*sz:=mul_le_mul_right _ hroom;unfold storeAt;rw [h3];dsimp only;rw [if_pos ⟨by omega,hx⟩];refine ⟨_,_,_,_,rfl,rfl,⟨hrn,.inr ⟨k,off,cs.take (off+rs.length*sz)++ns.flatten++cs.drop (off+rs.length*sz+ns.flatten.length),c,?_,h2,?_,?_,?_,?_⟩⟩,?_,fun j B hj hne=> ?_,fun j e=> .inr e,le_refl _⟩
   ·rw [length_append]
   ·show (g.set k _).get k=_;rw [Heap.get_set,if_pos rfl]
   ·have h7:(cs.take (off+rs.length*sz)).length=off+rs.length*sz:=by rw [length_take]; omega
    rw [append_assoc,List.drop_append_of_le_length (by rw [h7]; omega),drop_take,show off+rs.length*sz - off=rs.length*sz by omega,h4,length_append,m1,List.take_append,f1,show rs.length*sz+ns.length*sz - rs.length*sz=ns.length*sz by omega,take_of_length_le (by omega),List.take_append_of_le_length (by omega),take_of_length_le (by omega),List.flatten_append]
   ·rw [length_append,length_append,length_take,length_drop]; omega
   ·rw [length_append]; exact hroom
   ·exact a.set _ h2 hkn w0
   ·show (g.set k _).get j=_;rw [Heap.get_set,if_neg (fun e=>hne (by rw [e]; rfl))];exact hj
  ·rw [if_neg hroom];have h7:((cs.drop off).take (rs.length*sz)).length=rs.length*sz:=by rw [h4,f1]
   unfold fT;rw [if_pos ⟨hl,hl2⟩,h3];dsimp only;rw [if_pos ⟨rfl,rfl,h7⟩];have fl:rs.flatten++ns.flatten=(rs++ns).flatten:=List.flatten_append.symm;have f3:=ft hrn;rw [length_append] at f3;by_cases hc:c < bi
   ·rw [if_pos hc,h4,fl];refine ⟨_,_,_,_,rfl,rfl,⟨hrn,.inr ⟨g.next,0,(rs++ns).flatten,bi+(rs.length+ns.length),by rw [length_append],a.nx,?_,?_,by rw [bJ,f3]; rfl,by rw [bJ,length_append]; exact le_refl _⟩⟩,a.push _,fun j B hj _=>pl _ j B hj,fun j e=> .inl (le_of_eq (oI e)),le_succ _⟩
    ·show (g.push _).get g.next=_;rw [Heap.get_push,if_pos rfl]
    ·rw [drop_zero,length_append,take_of_length_le (by omega)]
   ·rw [if_neg hc];have hcap:aK c=rs.length:=by
     rcases h1m with h | h
     ·omega
     ·cases h
    rw [if_pos ⟨rfl,by rw [<-h5,hcap]; omega⟩,h4,fl];refine ⟨_,_,_,_,rfl,rfl,⟨hrn,.inr ⟨g.next,0,(rs++ns).flatten,bi+(rs.length+ns.length),by rw [length_append],a.nx,?_,?_,by rw [bJ,f3]; rfl,by rw [bJ,length_append]; exact le_refl _⟩⟩,?_,fun j B hj hne=> ?_,fun j e=> .inl (le_of_eq (oI e)),le_succ _⟩
    ·show ((g.del k).push _).get g.next=_;rw [Heap.get_push,if_pos (show g.next=(g.del k).next from rfl)]
    ·rw [drop_zero,length_append,take_of_length_le (by omega)]
    ·refine ⟨?_,fun j C hj=> ?_,le_trans a.nx (le_succ _)⟩
     ·refine Heap.wf_push (fun j C hj=> ?_) _;rw [Heap.get_del] at hj;split at hj
      ·cases hj
      ·exact a.wf _ _ hj
     ·have h7:=a.ext _ _ hj;have h8:=a.wf _ _ h7;show ((g.del k).push _).get j=_;rw [Heap.get_push,if_neg (fun e=>by have:j=g.next:=e; omega),Heap.get_del,if_neg (fun e=>by have:=w0 _ _ hj; omega)];exact h7
    ·have h8:=a.wf _ _ hj;show ((g.del k).push _).get j=_;rw [Heap.get_push,if_neg (fun e=>by have:j=g.next:=e; omega),Heap.get_del,if_neg (fun e=>hne (by rw [e]; rfl))];exact hj
theorem OwnK.put {P:Program}{e t':TypeId}{sz:Nat}(hs:an P t'=some 1){h0 g:Heap}(w0:Wf h0)(a:Ok h0 g){k off n c:Nat}{rs:List (List Value)}(o:OwnK h0 g e sz (.slice (some ⟨k,off,none⟩) n c) rs){i j:Nat}{r:List Value}(hi:rs[i]?=some r)(hj:j < sz){v':Value}(hv:bw v'=true)(hc:v'.cells = #[v']):
  ∃ u:Upd,ai P t' (.pointer (some ⟨k,off+i*sz+j,none⟩)) v' g=some (undef,u)/\OwnK h0 (u.app g) e sz (.slice (some ⟨k,off,none⟩) n c) (rs.set i (r.set j v'))/\Ok h0 (u.app g)/\(∀ j B,g.get j=some B->k≠j->(u.app g).get j=some B)/\(u.app g).next=g.next:=by
 obtain ⟨hr,⟨h1,_⟩ | ⟨k',off',cs,c',h1,h2,h3,h4,h5,h6⟩⟩:=o
 ·injection h1 with h1 _ _; cases h1
 ·injection h1 with h1 hn hc'
  injection h1 with h1
  injection h1 with h1 ho _
  subst h1; subst ho; subst hc';have hlt:i < rs.length:=(List.getElem?_eq_some_iff.1 hi).1;have h9:(i+1)*sz<=rs.length*sz:=mul_le_mul_right _ hlt;have h10:=mul_le_mul_right sz h6;have hrl:=hr r (List.mem_of_getElem? hi);rw [add_mul,one_mul] at h9;refine ⟨_,fB hs h3 (by omega) hv hc,⟨fun r' hr'=> ?_,.inr ⟨k,off,cs.set (off+i*sz+j) v',c,?_,h2,?_,?_,?_,?_⟩⟩,a.set _ h2 (a.wf _ _ h3) w0,fun j' B hj' hne=> ?_,rfl⟩
  ·rcases List.mem_or_eq_of_mem_set hr' with h | h
   ·exact hr _ h
   ·rw [h,length_set]; exact hrl
  ·rw [length_set,hn]
  ·show (g.set k _).get k=_;rw [Heap.get_set,if_pos rfl]
  ·rw [length_set,yP hr hi hj,<-h4,List.drop_set,if_neg (by omega),List.take_set,show off+i*sz+j - off=i*sz+j by omega]
  ·rw [length_set]; exact h5
  ·rw [length_set]; exact h6
  ·show (g.set k _).get j'=_;rw [Heap.get_set,if_neg (fun e=>hne e.symm)];exact hj'
theorem OwnK.at_ {P:Program}{t e:TypeId}{sz:Nat}(hU:P.underlying t=some (.slice e))(hs:an P e=some sz){h0 g:Heap}{k off n c:Nat}{rs:List (List Value)}(o:OwnK h0 g e sz (.slice (some ⟨k,off,none⟩) n c) rs){i:Nat}{r:List Value}(hi:rs[i]?=some r)(ik:IntKind):
  ag P t (.slice (some ⟨k,off,none⟩) n c) (.int ik (i:Int))=some (.pointer (some ⟨k,off+i*sz,none⟩))/\(∀ (t':TypeId)(d':TypeDesc)(j:Nat),P.underlying t'=some d'->isAgg P t'=false->j < sz->ah P t' g (.pointer (some ⟨k,off+i*sz+j,none⟩))=some (r.getD j undef))/\
   (∀ d,P.underlying e=some d->isAgg P e=true->ah P e g (.pointer (some ⟨k,off+i*sz,none⟩))=some (.agg ⟨r⟩)):=by
 have hn:=o.rd.len;have hlt:i < rs.length:=(List.getElem?_eq_some_iff.1 hi).1;have hx:=zD (P:=P) hU hs (k:=k) (off:=off) (n:=n) (c:=c) (ik:=ik) (i:=(i:Int)) (by omega) (by omega);rw [toNat_natCast] at hx;obtain ⟨hr,⟨h1,_⟩ | ⟨k',off',cs,e',z,c',wr,h1,h2,h3,h4⟩⟩:=o.rd
 ·rcases h1 with h1 | h1
  ·injection h1 with h1 _ _; cases h1
  ·unfold mJ at h1; injection h1 with h1 _ _; injection h1 with h1; injection h1 with _ _ h1; cases h1
 ·injection h1 with h1 _ hc'
  injection h1 with h1
  injection h1 with h1 ho _
  subst h1; subst ho; subst hc';have h9:(i+1)*sz<=rs.length*sz:=mul_le_mul_right _ hlt;rw [add_mul,one_mul] at h9;have h5:=h4 i r hi;refine ⟨hx,fun t' d' j hU' ha' hj=> ?_,fun d hd ha=> ?_⟩
  ·rw [cH hU' ha' h2 (by omega),<-h5,gD,gD,getElem?_take,if_pos hj,getElem?_drop]
  ·rw [fJ hd ha hs h2 (by omega),h5]
theorem za (z:List Value): ∀ n,be z n=(List.replicate n z).flatten:=by
 intro n
 induction n with
 | zero=>simp [be]
 | succ n ih=>rw [be,ih,List.replicate_succ,flatten_cons]
end Go.Ab
end
section
set_option linter.unusedVariables false
set_option maxRecDepth 100000
namespace Go.Proofs.YtoabjjimjldcfaaGreatDoor
open Go Go.Ab
section
noncomputable def re37:TypeInfo:=(cL SS.P 37).getD default
theorem Mx:cL SS.P 37=some re37:=by kernel_rfl
theorem HV:re37.size=2:=by kernel_rfl
theorem EC:re37.bytes=40:=by kernel_rfl
noncomputable def re39:TypeInfo:=(cL SS.P 39).getD default
theorem Ft:cL SS.P 39=some re39:=by kernel_rfl
theorem yD:re39.size=4:=by kernel_rfl
theorem wq:re39.bytes=40:=by kernel_rfl
theorem QE:bW SS.P 22=true:=by kernel_rfl
theorem Py:bW SS.P 35=true:=by kernel_rfl
theorem PW (f:List UInt8)(a:Option Addr)(n c:Nat):ak SS.P 22 1 [(0,.agg ⟨[aa f,.slice a n c]⟩)]=some (.cells [aa f,.slice a n c] 37 2 true,gU 1 1):=by cases a <;> kernel_rfl
theorem Lo (q:MArc):ak SS.P 35 1 [(0,.agg ⟨aD q⟩)]=some (.cells (aD q) 39 4 true,gU 1 1):=by kernel_rfl
theorem BD {l:List MArc}: ∀ r∈l.map aD,r.length=4:=fun r hr=>by
 obtain ⟨q,_,rfl⟩:=mem_map.1 hr; rfl
theorem EY {l:List (MSt×Value)}: ∀ r∈l.map gG,r.length=2:=fun r hr=>by
 obtain ⟨q,_,rfl⟩:=mem_map.1 hr; rfl
theorem rY: ∀ l:List MArc,(l.map aD).flatten.all bw=true
 | []=>rfl
 | q::l=>by rw [List.map_cons,flatten_cons,List.all_append,rY l]; rfl
structure OwnM (h0 h:Heap)(v:Value)(ps:List (MSt×Value)):Prop where
 row:OwnK h0 h 37 2 v (ps.map gG)
 arcs: ∀ (i:Nat)(p:MSt×Value),ps[i]?=some p->OwnK h0 h 39 4 p.2 (p.1.arcs.map aD)
 ne: ∀ (i:Nat)(p:MSt×Value),ps[i]?=some p-> ∀ k,aG p.2=some k->aG v≠some k
 dis: ∀ (i j:Nat)(p q:MSt×Value),i≠j->ps[i]?=some p->ps[j]?=some q-> ∀ k,aG p.2=some k->aG q.2≠some k
section
variable {hb g g':Heap} {v:Value} {ps:List (MSt×Value)}
theorem OwnM.ok (m:OwnM hb g v ps)(o:Ok g g'):OwnM hb g' v ps:=⟨m.row.ok o,fun i p hp=>(m.arcs i p hp).ok o,m.ne,m.dis⟩
theorem OwnM.nd (m:OwnM hb g v ps):v≠mJ:=by
 obtain ⟨_,⟨h1,_⟩ | ⟨k,off,cs,c,h1,_⟩⟩:=m.row
 ·rw [h1]; intro e; unfold mJ at e; injection e with e _ _; cases e
 ·rw [h1]; intro e; unfold mJ at e; injection e with e _ _; injection e with e; injection e with _ _ e; cases e
theorem OwnM.st (m:OwnM hb g v ps):StRow g v (ps.map (·.1)):=
 ⟨ps,rfl,m.row.rd,fun p hp=>by
  obtain ⟨i,hi,e⟩:=List.mem_iff_getElem.1 hp;exact (m.arcs i p (by rw [gE hi,e])).rd,m.nd⟩
theorem OwnM.nil (hb g:Heap):OwnM hb g (.slice none 0 0) []:=⟨OwnK.nil _ _ _ _,fun i p hp=>by simp at hp,fun i p hp=>by simp at hp,fun i j p q _ hp=>by simp at hp⟩
theorem EQ {kx:Nat}{cs:List Value}{e:TypeId}{z sz:Nat}{wr:Bool}(hkx:g.get kx=some (.cells cs e z wr))(hl:cs.length=sz):cg g sz (.slice (some ⟨kx,0,none⟩) 1 1)=some (([cs]:List (List Value)).flatten,1):=by
 show (match g.get kx with | some (.cells cs ..)=>if ((cs.drop 0).take (1*sz)).length=1*sz then some ((cs.drop 0).take (1*sz),1) else none | _=>none)=_;rw [hkx];dsimp only;rw [drop_zero,one_mul,take_of_length_le (by omega),if_pos hl];simp
theorem OwnM.snoc (w:Wf hb)(ok:Ok hb g)(m:OwnM hb g v ps){f:List UInt8}{a:Option Addr}{y z:Nat}{arcs:List MArc}(ox:OwnK hb g 39 4 (.slice a y z) (arcs.map aD))(nx: ∀ k,aG (.slice a y z)=some k->aG v≠some k/\ ∀ (i:Nat) (p:MSt×Value),ps[i]?=some p->aG p.2≠some k){kx:Nat}(hkx:g.get kx=some (.cells [aa f,.slice a y z] 37 2 true))(hl:ps.length<=100000):
  ∃ (b:Option Addr)(n c:Nat)(u:Upd),ay SS.P 22 22 v (.slice (some ⟨kx,0,none⟩) 1 1) g=some (.slice b n c,u)/\OwnM hb (u.app g) (.slice b n c) (ps++[(⟨f,arcs⟩,.slice a y z)])/\Ok hb (u.app g)/\
   (∀ j B,g.get j=some B->aG v≠some j->(u.app g).get j=some B)/\(∀ j,aG (.slice b n c)=some j->g.next<=j\/aG v=some j)/\g.next<=(u.app g).next:=by
 have hlen:(ps.map gG).length=ps.length:=lM ..;obtain ⟨b,n,c,u,h1,h2,h3,h4,h5,h6,h7⟩:=OwnK.add uU Mx HV QE w ok m.row (ns:=[[aa f,.slice a y z]]) (EQ hkx rfl) (fun r hr=>by rw [mem_singleton.1 hr]; rfl) (by cases a <;> rfl) (by rw [EC,hlen,length_singleton]; omega) (by rw [hlen,length_singleton]; omega) (.inl (le_refl _));refine ⟨b,n,c,u,h1,⟨by rw [map_append]; exact h3,fun i p hp=> ?_,fun i p hp k hk=> ?_,fun i j p q hij hp hq k hk=> ?_⟩,h4,h5,h6,h7⟩
 ·rw [List.getElem?_append] at hp;split at hp
  ·exact (m.arcs i p hp).keep fun k B hk hB=>h5 k B hB (m.ne i p hp k hk)
  ·obtain rfl:=(mem_singleton.1 (List.mem_of_getElem? hp))
   exact ox.keep fun k B hk hB=>h5 k B hB (nx k hk).1
 ·intro e;rw [List.getElem?_append] at hp;split at hp
  ·rcases h6 k e with h | h
   ·have:=((m.arcs i p hp).lt ok.wf hk).1; omega
   ·exact m.ne i p hp k hk h
  ·obtain rfl:=(mem_singleton.1 (List.mem_of_getElem? hp))
   rcases h6 k e with h | h
   ·have:=(ox.lt ok.wf hk).1; omega
   ·exact (nx k hk).1 h
 ·rw [List.getElem?_append] at hp hq;split at hp <;> split at hq
  ·exact m.dis i j p q hij hp hq k hk
  ·obtain rfl:=(mem_singleton.1 (List.mem_of_getElem? hq))
   exact fun e=>(nx k e).2 i p hp hk
  ·obtain rfl:=(mem_singleton.1 (List.mem_of_getElem? hp))
   exact (nx k hk).2 j q hq
  ·rename_i g1 g2;have e1:=(List.getElem?_eq_some_iff.1 hp).1;have e2:=(List.getElem?_eq_some_iff.1 hq).1;simp at e1 e2;omega
theorem qu (w:Wf hb)(ok:Ok hb g){x:Value}{arcs:List MArc}(ox:OwnK hb g 39 4 x (arcs.map aD)){q:MArc}{kx:Nat}(hkx:g.get kx=some (.cells (aD q) 39 4 true))(hl:arcs.length<=100000):
  ∃ (b:Option Addr)(n c:Nat)(u:Upd),ay SS.P 35 35 x (.slice (some ⟨kx,0,none⟩) 1 1) g=some (.slice b n c,u)/\OwnK hb (u.app g) 39 4 (.slice b n c) ((arcs++[q]).map aD)/\Ok hb (u.app g)/\
   (∀ j B,g.get j=some B->aG x≠some j->(u.app g).get j=some B)/\(∀ j,aG (.slice b n c)=some j->g.next<=j\/aG x=some j)/\g.next<=(u.app g).next:=by
 have hlen:(arcs.map aD).length=arcs.length:=lM ..;obtain ⟨b,n,c,u,h1,h2,h3,h4⟩:=OwnK.add tR Ft yD Py w ok ox (ns:=[aD q]) (EQ hkx rfl) (fun r hr=>by rw [mem_singleton.1 hr]; rfl) rfl (by rw [wq,hlen,length_singleton]; omega) (by rw [hlen,length_singleton]; omega) (.inl (le_refl _));exact ⟨b,n,c,u,h1,by rw [map_append]; exact h3,h4⟩
theorem JE (w:Wf hb)(ok:Ok hb g){x:Value}{arcs:List MArc}(r:ArcRow g x arcs)(hl:arcs.length<=100000):
  ∃ (b:Option Addr)(n c:Nat)(u:Upd),ay SS.P 35 35 (.slice none 0 0) x g=some (.slice b n c,u)/\OwnK hb (u.app g) 39 4 (.slice b n c) (arcs.map aD)/\Ok hb (u.app g)/\
   (∀ j B,g.get j=some B->(u.app g).get j=some B)/\(∀ j,aG (.slice b n c)=some j->g.next<=j)/\g.next<=(u.app g).next:=by
 have hlen:(arcs.map aD).length=arcs.length:=lM ..;have hsrc:cg g 4 x=some ((arcs.map aD).flatten,(arcs.map aD).length):=by
  obtain ⟨r1,⟨h1 | h1,h2⟩ | ⟨k,off,cs,e',z,c,wr,rfl,h2,h3,h4⟩⟩:=id r
  ·rw [h1,h2]; rfl
  ·rw [h1,h2]; rfl
  ·show (match g.get k with | some (.cells cs ..)=>if ((cs.drop off).take ((arcs.map aD).length*4)).length=(arcs.map aD).length*4 then some ((cs.drop off).take ((arcs.map aD).length*4),(arcs.map aD).length) else none | _=>none)=_;rw [h2];dsimp only;rw [if_pos (by rw [length_take,length_drop]; omega),xz r1 h3 h4]
 obtain ⟨b,n,c,u,h1,h2,h3,h4,h5,h6,h7⟩:=OwnK.add tR Ft yD Py w ok (OwnK.nil hb g 39 4) (ns:=arcs.map aD) hsrc BD (rY _) (by rw [wq,hlen,length_nil]; omega) (by rw [hlen,length_nil]; omega) (.inr rfl);exact ⟨b,n,c,u,h1,h3,h4,fun j B hj=>h5 j B hj (by intro e; cases e),fun j e=>(h6 j e).resolve_right (by intro e; cases e),h7⟩
end
end
noncomputable def jw:FD:=bF Tryz.f22 [([1,1,0,1,0,0],[1,2,3,4])]
abbrev gN (k k2 k3:Nat)(i:Nat):LV:=[(pA k),(pA k2),(pA k3),(iA i)]
theorem H8 (mv:LV)(h:Heap)(Q:VH)(hx:xN (dc SS.P 24 (.agg ⟨mv⟩)) h fun B1 g2=>xN (aF SS.P 24) g2 fun B3 g4=>xP (af SS.P 24 (pA (h.next)) 0) fun p5=>xI .i64 (ah SS.P 3 g4 (.pointer (some p5))) fun n6=>xP (af SS.P 24 (pA (h.next)) 1) fun p7=>xI .i64 (ah SS.P 3 g4 (.pointer (some p7))) fun n8=>xP (af SS.P 24 (pA (h.next)) 2) fun p9=>xS (ah SS.P 9 g4 (.pointer (some p9))) fun l10=>xA (aI SS.P 24 [(0,(.int .i64 n6)),(1,(.int .i64 n8)),(2,(aa l10))]) fun c11=>xN (aF SS.P 24) g4 fun B12 g13=>xU (ai SS.P 24 (pA (g4.next)) (.agg ⟨c11⟩) g13) g13 fun u14 g15=>LL SS jw [1,1,0,1,0,0] (gN (h.next) (g2.next) (g4.next) 0) g15 (KK SS jw [1,1,0,1,0] [] (EE SS jw Q))):FW SS 22 [(.agg ⟨mv⟩)] h Q:=bG jw Tryz.func22 (aj hx)
theorem qD (mv:LV)(k k2 k3:Nat)(Inv:Nat->Nat->Heap->Prop)(Q:VH)(step: ∀ (mz:Nat) (i:Nat) (zz:Nat->Value) (h:Heap),Inv mz i h->xP (af SS.P 24 (pA k) 3) fun p16=>xL (ah SS.P 22 h (.pointer (some p16))) fun a17 n18 c19=>au (decide (((i:Int):Int) < (n18:Int))) (xP (af SS.P 24 (pA k3) 3) fun p20=>xL (ah SS.P 22 (room h 20) (.pointer (some p20))) fun a21 n22 c23=>xP (af SS.P 24 (pA k) 3) fun p24=>xL (ah SS.P 22 (room h 20) (.pointer (some p24))) fun a25 n26 c27=>xP (ag SS.P 22 (.slice a25 n26 c27) (iA i)) fun p28=>xP (af SS.P 37 (.pointer (some p28)) 0) fun p29=>xS (ah SS.P 9 (room h 20) (.pointer (some p29))) fun l30=>xP (af SS.P 24 (pA k) 3) fun p31=>xL (ah SS.P 22 (room h 20) (.pointer (some p31))) fun a32 n33 c34=>xP (ag SS.P 22 (.slice a32 n33 c34) (iA i)) fun p35=>xP (af SS.P 37 (.pointer (some p35)) 1) fun p36=>xL (ah SS.P 35 (room h 20) (.pointer (some p36))) fun a37 n38 c39=>xE (ay SS.P 35 35 nA (.slice a37 n38 c39) (room h 20)) (room h 20) fun a40 n41 c42 u43 g44=>xA (aI SS.P 37 [(0,(aa l30)),(1,(.slice a40 n41 c42))]) fun c45=>zR (ak SS.P 22 1 [(0,(.agg ⟨c45⟩))]) fun B46 n47 c48=>xE (ay SS.P 22 22 (.slice a21 n22 c23) (sA (h.next+16) n47 c48) (aB g44 h.next [(16,B46)])) (aB g44 h.next [(16,B46)]) fun a49 n50 c51 u52 g53=>xP (af SS.P 24 (pA k3) 3) fun p54=>xU (ai SS.P 22 (.pointer (some p54)) (.slice a49 n50 c51) g53) g53 fun u55 g56=>(ah SS.P 22 g44 (.pointer (some p20))=some (.slice a21 n22 c23)/\dY 4 (.slice a21 n22 c23) (.slice a21 n22 c23)=true)/\(ah SS.P 22 g44 (.pointer (some p24))=some (.slice a25 n26 c27)/\dY 4 (.slice a25 n26 c27) (.slice a25 n26 c27)=true)/\(ah SS.P 9 g44 (.pointer (some p29))=some (aa l30)/\dY 4 (aa l30) (aa l30)=true)/\ax (fA (gN k k2 k3) Inv) mz [(pA k),(pA k2),(pA k3),(.int .i64 (wrap .i64 ((i:Int)+1)))] g56) (xA (ah SS.P 24 h (pA k3)) fun c57=>xU (ai SS.P 24 (pA k2) (.agg ⟨c57⟩) h) h fun u58 g59=>cX SS [((pA k2),some 24)] g59 Q))(mz:Nat){i:Nat}{h:Heap}(hi:Inv mz i h):LL SS jw [1,1,0,1,0,0] (gN k k2 k3 i) h (KK SS jw [1,1,0,1,0] [] (EE SS jw Q)):=
 bH (gN k k2 k3) Inv (fun mz i zz h hi=>aj (step mz i zz h hi)) mz hi
noncomputable def C3:FD:=bF Tryz.f27 []
theorem CR (kind:Int)(h:Heap)(Q:VH)(hx:xN (aF SS.P 24) h fun B1 g2=>au (decide ((kind:Int) < 1)) (xA (aI SS.P 24 []) fun c3=>xU (ai SS.P 24 (pA (h.next)) (.agg ⟨c3⟩) g2) g2 fun u4 g5=>cX SS [((pA (h.next)),some 24),((.int .i64 1),none)] g5 Q) (au (decide ((kind:Int) > 3)) (xA (aI SS.P 24 []) fun c6=>xU (ai SS.P 24 (pA (h.next)) (.agg ⟨c6⟩) g2) g2 fun u7 g8=>cX SS [((pA (h.next)),some 24),((.int .i64 1),none)] g8 Q) (FW SS 50 [(.int .i64 kind)] (room g2 7) fun v9 h10=>yS v9 fun l11=>zR (aP SS.P 22 (.int .i64 1) (.int .i64 1)) fun B12 n13 c14=>xA (aI SS.P 24 [(0,(.int .i64 kind)),(2,(aa l11)),(3,(sA (g2.next+3) n13 c14))]) fun c15=>xU (ai SS.P 24 (pA (h.next)) (.agg ⟨c15⟩) (aB h10 g2.next [(3,B12)])) (aB h10 g2.next [(3,B12)]) fun u16 g17=>cX SS [((pA (h.next)),some 24),((.int .i64 0),none)] g17 Q))):FW SS 27 [(.int .i64 kind)] h Q:=bG C3 Tryz.func27 (aj hx)
noncomputable def DT:FD:=bF Tryz.f28 []
theorem CV (kind:Int)(h:Heap)(Q:VH)(hx:xN (aF SS.P 24) h fun B1 g2=>FW SS 36 [(.int .i64 kind)] g2 fun v3 h4=>yB v3 fun b5=>au (!b5) (xA (aI SS.P 24 []) fun c6=>xU (ai SS.P 24 (pA (h.next)) (.agg ⟨c6⟩) h4) h4 fun u7 g8=>cX SS [((pA (h.next)),some 24),((.int .i64 1),none)] g8 Q) (FW SS 51 [(.int .i64 kind)] (room h4 7) fun v9 h10=>yS v9 fun l11=>zR (aP SS.P 22 (.int .i64 1) (.int .i64 1)) fun B12 n13 c14=>xA (aI SS.P 24 [(0,(.int .i64 kind)),(2,(aa l11)),(3,(sA (h4.next+3) n13 c14))]) fun c15=>xU (ai SS.P 24 (pA (h.next)) (.agg ⟨c15⟩) (aB h10 h4.next [(3,B12)])) (aB h10 h4.next [(3,B12)]) fun u16 g17=>cX SS [((pA (h.next)),some 24),((.int .i64 0),none)] g17 Q)):FW SS 28 [(.int .i64 kind)] h Q:=bG DT Tryz.func28 (aj hx)
noncomputable def OK:FD:=bF Tryz.f50 []
theorem LX (kind:Int)(h:Heap)(Q:VH)(hx:FW SS 57 [(.int .i64 kind)] h fun v1 h2=> ∃ cs3:LV,∃ b4:Bool,v1=(.tuple ⟨[(.agg ⟨cs3⟩),(.bool b4)]⟩)/\xN (aF SS.P 68) h2 fun B5 g6=>xU (ai SS.P 68 (pA (h2.next)) (.agg ⟨cs3⟩) g6) g6 fun u7 g8=>xP (af SS.P 68 (pA (h2.next)) 1) fun p9=>xS (ah SS.P 9 g8 (.pointer (some p9))) fun l10=>Q (aa l10) g8):FW SS 50 [(.int .i64 kind)] h Q:=bG OK Tryz.func50 (aj hx)
noncomputable def NO:FD:=bF Tryz.f51 []
theorem Lt (kind:Int)(h:Heap)(Q:VH)(hx:FW SS 36 [(.int .i64 kind)] h fun v1 h2=>yB v1 fun b3=>au (!b3) (Q (aa []) h2) (au (((kind:Int) == 1)) (Q (aa [48]) h2) (Q (aa [49]) h2))):FW SS 51 [(.int .i64 kind)] h Q:=bG NO Tryz.func51 (aj hx)
noncomputable def Od:FD:=bF Tryz.f80 []
theorem Mi (x y:Int)(h:Heap)(Q:VH)(hx:FW SS 108 [(.int .u64 x),(.int .u64 y)] h fun v1 h2=> ∃ n3:Int,∃ n4:Int,v1=(.tuple ⟨[(.int .u64 n3),(.int .u64 n4)]⟩)/\Q (.tuple ⟨[(.int .u64 n3),(.int .u64 n4)]⟩) h2):FW SS 80 [(.int .u64 x),(.int .u64 y)] h Q:=bG Od Tryz.func80 (aj hx)
noncomputable def fE:FD:=bF Tryz.f66 [([1,1,1,1,1,1,0,0,0],[7,8])]
abbrev jN (e:OA)(en ec:Nat)(j:Int):LV:=[(.slice e en ec),(.int .i64 j)]
theorem Gy (a:OA)(n c:Nat)(x:Int)(h:Heap)(Q:VH)(hx:au (decide ((x:Int) < 0)) (False) (FW SS 80 [(.int .u64 (wrap .u64 (n:Int))),(.int .u64 (wrap .u64 x))] h fun v1 h2=> ∃ n3:Int,∃ n4:Int,v1=(.tuple ⟨[(.int .u64 n3),(.int .u64 n4)]⟩)/\au (decide ((n3:Int) > 0)) (False) (au (decide ((n4:Int) > 9223372036854775807)) (False) (xR (aP SS.P 48 (.int .i64 (wrap .i64 n4)) (.int .i64 (wrap .i64 n4))) h2 fun B5 n6 c7 g8=>xC (iS SS.P 48 (sA (h2.next) n6 c7) (.slice a n c) g8) g8 fun n9 u10 g11=>LL SS fE [1,1,1,1,1,1,0,0,0] [(sA (h2.next) n6 c7),(.int .i64 n9)] g11 (KK SS fE [1,1,1,1,1,1,0,0] [] (EE SS fE Q)))))):FW SS 66 [(.slice a n c),(.int .i64 x)] h Q:=bG fE Tryz.func66 (aj hx)
theorem qx (a:OA)(n c:Nat)(x:Int)(e:OA)(en ec:Nat)(Inv:Nat->Int->Heap->Prop)(Q:VH)(step: ∀ (mz:Nat) (j:Int) (zz:Nat->Value) (h:Heap),Inv mz j h->au (decide ((j:Int) < (en:Int))) (xL (aH SS.P 48 (.slice e en ec) (some (.int .i64 j)) none none (room h 10)) fun a12 n13 c14=>xL (aH SS.P 48 (.slice e en ec) none (some (.int .i64 j)) none (room h 10)) fun a15 n16 c17=>xC (iS SS.P 48 (.slice a12 n13 c14) (.slice a15 n16 c17) (room h 10)) (room h 10) fun n18 u19 g20=>ax (fA (jN e en ec) Inv) mz [(.slice e en ec),(.int .i64 (wrap .i64 (j+n18)))] g20) (Q (.slice e en ec) h))(mz:Nat){j:Int}{h:Heap}(hi:Inv mz j h):LL SS fE [1,1,1,1,1,1,0,0,0] (jN e en ec j) h (KK SS fE [1,1,1,1,1,1,0,0] [] (EE SS fE Q)):=
 bH (jN e en ec) Inv (fun mz j zz h hi=>aj (step mz j zz h hi)) mz hi
noncomputable def cW:FD:=bF Tryz.f43 [([1,1,0,1,0,0],[1,2,4,5,19,20,21]),([1,1,1,1,0,1,0,0],[2,4,5,8,44,45,46]),([1,1,1,1,0,1,0,0,1,1,0,0,1,1,1,1,0,0],[2,4,5,8,11,44,45,46,69,70,71])]
abbrev je (a:OA)(n c k k4:Nat)(e:OA)(en ec:Nat)(i:Nat):LV:=[(.slice a n c),(pA k),(pA k4),(.slice e en ec),(.slice a n c),(iA n),(iA i)]
abbrev fj (a:OA)(n c k k4 k8:Nat)(e:OA)(en ec:Nat)(i:Nat):LV:=[(pA k),(pA k4),(.slice e en ec),(pA k8),(.slice a n c),(iA n),(iA i)]
abbrev i5 (a:OA)(n c k k4 k8 ks po:Nat)(e:OA)(en ec:Nat)(b:OA)(m d i:Nat)(j:Nat):LV:=[(pA k),(pA k4),(.slice e en ec),(pA k8),(.pointer (some ⟨ks,po,none⟩)),(.slice a n c),(iA n),(iA i),(.slice b m d),(iA m),(iA j)]
theorem Lq (mv:LV)(a:OA)(n c:Nat)(h:Heap)(Q:VH)(hx:xN (dc SS.P 24 (.agg ⟨mv⟩)) h fun B1 g2=>xN (aF SS.P 24) g2 fun B3 g4=>xR (ak SS.P 48 1 [(0,(.int .i64 (-1)))]) g4 fun B5 n6 c7 g8=>xP (af SS.P 24 (pA (h.next)) 3) fun p9=>xL (ah SS.P 22 g8 (.pointer (some p9))) fun a10 n11 c12=>FW SS 66 [(sA (g4.next) n6 c7),(iA n11)] g8 fun v13 h14=>yL v13 fun a15 n16 c17=>LL SS cW [1,1,0,1,0,0] (je a n c (h.next) (g2.next) a15 n16 c17 0) h14 (KK SS cW [1,1,0,1,0] [] (EE SS cW Q))):FW SS 43 [(.agg ⟨mv⟩),(.slice a n c)] h Q:=bG cW Tryz.func43 (aj hx)
theorem tG (mv:LV)(a:OA)(n c:Nat)(k k4:Nat)(e:OA)(en ec:Nat)(Inv:Nat->Nat->Heap->Prop)(Q:VH)(step: ∀ (mz:Nat) (i:Nat) (zz:Nat->Value) (h:Heap),Inv mz i h->au (decide (((i:Int):Int) < (n:Int))) (xP (ag SS.P 48 (.slice a n c) (iA i)) fun p18=>xI .i64 (ah SS.P 3 h (.pointer (some p18))) fun n19=>xP (ag SS.P 48 (.slice e en ec) (.int .i64 n19)) fun p20=>xU (ai SS.P 3 (.pointer (some p20)) (iA i) h) h fun u21 g22=>ax (fA (je a n c k k4 e en ec) Inv) mz [(.slice a n c),(pA k),(pA k4),(.slice e en ec),(.slice a n c),(iA n),(.int .i64 (wrap .i64 ((i:Int)+1)))] g22) (xP (af SS.P 24 (pA k) 0) fun p23=>xI .i64 (ah SS.P 3 (room h 15) (.pointer (some p23))) fun n24=>xP (af SS.P 24 (pA k) 1) fun p25=>xI .i64 (ah SS.P 3 (room h 15) (.pointer (some p25))) fun n26=>xP (ag SS.P 48 (.slice e en ec) (.int .i64 n26)) fun p27=>xI .i64 (ah SS.P 3 (room h 15) (.pointer (some p27))) fun n28=>xP (af SS.P 24 (pA k) 2) fun p29=>xS (ah SS.P 9 (room h 15) (.pointer (some p29))) fun l30=>zR (aP SS.P 22 (iA n) (iA n)) fun B31 n32 c33=>xA (aI SS.P 24 [(0,(.int .i64 n24)),(1,(.int .i64 n28)),(2,(aa l30)),(3,(sA (h.next+11) n32 c33))]) fun c34=>zN (aF SS.P 24) fun B35=>xU (ai SS.P 24 (pA (h.next+13)) (.agg ⟨c34⟩) (aB (room h 15) h.next [(13,B35),(11,B31)])) (aB (room h 15) h.next [(13,B35),(11,B31)]) fun u36 g37=>LL SS cW [1,1,1,1,0,1,0,0] (fj a n c k k4 (h.next+13) e en ec 0) g37 (KK SS cW [1,1,1,1,0,1,0] [] (EE SS cW Q))))(mz:Nat){i:Nat}{h:Heap}(hi:Inv mz i h):LL SS cW [1,1,0,1,0,0] (je a n c k k4 e en ec i) h (KK SS cW [1,1,0,1,0] [] (EE SS cW Q)):=
 bH (je a n c k k4 e en ec) Inv (fun mz i zz h hi=>aj (step mz i zz h hi)) mz hi
theorem tO (mv:LV)(a:OA)(n c:Nat)(k k4 k8:Nat)(e:OA)(en ec:Nat)(Inv2:Nat->Nat->Heap->Prop)(Q:VH)(step: ∀ (mz2:Nat) (i:Nat) (zz:Nat->Value) (h:Heap),Inv2 mz2 i h->au (decide (((i:Int):Int) < (n:Int))) (xP (ag SS.P 48 (.slice a n c) (iA i)) fun p38=>xI .i64 (ah SS.P 3 h (.pointer (some p38))) fun n39=>xP (af SS.P 24 (pA k8) 3) fun p40=>xL (ah SS.P 22 h (.pointer (some p40))) fun a41 n42 c43=>xP (ag SS.P 22 (.slice a41 n42 c43) (iA i)) fun p44=>xP (af SS.P 24 (pA k) 3) fun p45=>xL (ah SS.P 22 h (.pointer (some p45))) fun a46 n47 c48=>xP (ag SS.P 22 (.slice a46 n47 c48) (.int .i64 n39)) fun p49=>xP (af SS.P 37 (.pointer (some p49)) 0) fun p50=>xS (ah SS.P 9 h (.pointer (some p50))) fun l51=>xP (af SS.P 37 (.pointer (some p44)) 0) fun p52=>xU (ai SS.P 9 (.pointer (some p52)) (aa l51) h) h fun u53 g54=>xP (af SS.P 24 (pA k) 3) fun p55=>xL (ah SS.P 22 g54 (.pointer (some p55))) fun a56 n57 c58=>xP (ag SS.P 22 (.slice a56 n57 c58) (.int .i64 n39)) fun p59=>xP (af SS.P 37 (.pointer (some p59)) 1) fun p60=>xL (ah SS.P 35 g54 (.pointer (some p60))) fun a61 n62 c63=>LL SS cW [1,1,1,1,0,1,0,0,1,1,0,0,1,1,1,1,0,0] [(pA k),(pA k4),(.slice e en ec),(pA k8),(.pointer (some p44)),(.slice a n c),(iA n),(iA i),(.slice a61 n62 c63),(iA n62),(.int .i64 0)] g54 (KK SS cW [1,1,0,0,1,1,1,1,0] [1,1,1,1,0,1,0,0] (RR cW [1,1,1,1,0,1,0,0] (fA (fj a n c k k4 k8 e en ec) Inv2) mz2 (KK SS cW [1,1,1,1,0,1,0] [] (EE SS cW Q))))) (xA (ah SS.P 24 h (pA k8)) fun c64=>xU (ai SS.P 24 (pA k4) (.agg ⟨c64⟩) h) h fun u65 g66=>cX SS [((pA k4),some 24)] g66 Q))(mz2:Nat){i:Nat}{h:Heap}(hi:Inv2 mz2 i h):LL SS cW [1,1,1,1,0,1,0,0] (fj a n c k k4 k8 e en ec i) h (KK SS cW [1,1,1,1,0,1,0] [] (EE SS cW Q)):=
 bH (fj a n c k k4 k8 e en ec) Inv2 (fun mz2 i zz h hi=>aj (step mz2 i zz h hi)) mz2 hi
theorem ue (mv:LV)(a:OA)(n c:Nat)(k k4 k8 ks po:Nat)(e:OA)(en ec:Nat)(b:OA)(m d:Nat)(Inv2:Nat->Nat->Heap->Prop)(mz2 i:Nat)(Inv3:Nat->Nat->Heap->Prop)(Q:VH)(step: ∀ (mz3:Nat) (j:Nat) (zz:Nat->Value) (h:Heap),Inv3 mz3 j h->au (decide (((j:Int):Int) < (m:Int))) (xP (ag SS.P 35 (.slice b m d) (iA j)) fun p67=>xA (ah SS.P 39 h (.pointer (some p67))) fun c68=>xN (aF SS.P 39) h fun B69 g70=>xU (ai SS.P 39 (pA (h.next)) (.agg ⟨c68⟩) g70) g70 fun u71 g72=>xP (af SS.P 39 (pA (h.next)) 3) fun p73=>xI .i64 (ah SS.P 3 g72 (.pointer (some p73))) fun n74=>xP (ag SS.P 48 (.slice e en ec) (.int .i64 n74)) fun p75=>xI .i64 (ah SS.P 3 g72 (.pointer (some p75))) fun n76=>xP (af SS.P 39 (pA (h.next)) 3) fun p77=>xU (ai SS.P 3 (.pointer (some p77)) (.int .i64 n76) g72) g72 fun u78 g79=>xP (af SS.P 39 (pA (h.next)) 3) fun p80=>xI .i64 (ah SS.P 3 g79 (.pointer (some p80))) fun n81=>au (((n81:Int) != (-1))) (xP (af SS.P 37 (.pointer (some ⟨ks,po,none⟩)) 1) fun p82=>xL (ah SS.P 35 (room g79 11) (.pointer (some p82))) fun a83 n84 c85=>xA (ah SS.P 39 (room g79 11) (pA (h.next))) fun c86=>zR (ak SS.P 35 1 [(0,(.agg ⟨c86⟩))]) fun B87 n88 c89=>xE (ay SS.P 35 35 (.slice a83 n84 c85) (sA (g79.next+6) n88 c89) (aB (room g79 11) g79.next [(6,B87)])) (aB (room g79 11) g79.next [(6,B87)]) fun a90 n91 c92 u93 g94=>xP (af SS.P 37 (.pointer (some ⟨ks,po,none⟩)) 1) fun p95=>xU (ai SS.P 35 (.pointer (some p95)) (.slice a90 n91 c92) g94) g94 fun u96 g97=>ax (fA (i5 a n c k k4 k8 ks po e en ec b m d i) Inv3) mz3 [(pA k),(pA k4),(.slice e en ec),(pA k8),(.pointer (some ⟨ks,po,none⟩)),(.slice a n c),(iA n),(iA i),(.slice b m d),(iA m),(.int .i64 (wrap .i64 ((j:Int)+1)))] g97) (ax (fA (i5 a n c k k4 k8 ks po e en ec b m d i) Inv3) mz3 [(pA k),(pA k4),(.slice e en ec),(pA k8),(.pointer (some ⟨ks,po,none⟩)),(.slice a n c),(iA n),(iA i),(.slice b m d),(iA m),(.int .i64 (wrap .i64 ((j:Int)+1)))] g79)) (ax (fA (fj a n c k k4 k8 e en ec) Inv2) mz2 [(pA k),(pA k4),(.slice e en ec),(pA k8),(.slice a n c),(iA n),(.int .i64 (wrap .i64 ((i:Int)+1)))] h))(mz3:Nat){j:Nat}{h:Heap}(hi:Inv3 mz3 j h):LL SS cW [1,1,1,1,0,1,0,0,1,1,0,0,1,1,1,1,0,0] (i5 a n c k k4 k8 ks po e en ec b m d i j) h (KK SS cW [1,1,0,0,1,1,1,1,0] [1,1,1,1,0,1,0,0] (RR cW [1,1,1,1,0,1,0,0] (fA (fj a n c k k4 k8 e en ec) Inv2) mz2 (KK SS cW [1,1,1,1,0,1,0] [] (EE SS cW Q)))):=
 bH (i5 a n c k k4 k8 ks po e en ec b m d i) Inv3 (fun mz3 j zz h hi=>aj (step mz3 j zz h hi)) mz3 hi
noncomputable def eZ:FD:=bF Tryz.f44 [([1,1,0,1,0,0],[1,2,3,6,7,8]),([1,1,0,1,0,0,1,0,0,1,1,0,1,0,0],[1,2,3,6,7,8,9,10,11])]
abbrev fo (a:OA)(n c:Nat)(e:OA)(en ec k k6 k7:Nat)(i:Nat):LV:=[(.slice a n c),(.slice e en ec),(pA k),(pA k6),(pA k7),(iA i)]
abbrev gK (a:OA)(n c:Nat)(e:OA)(en ec k k6 k7 k9 k10 i:Nat)(j:Nat):LV:=[(.slice a n c),(.slice e en ec),(pA k),(pA k6),(pA k7),(iA i),(pA k9),(pA k10),(iA j)]
theorem M6 (mv:LV)(a:OA)(n c:Nat)(e:OA)(en ec:Nat)(h:Heap)(Q:VH)(hx:xN (dc SS.P 24 (.agg ⟨mv⟩)) h fun B1 g2=>xN (aF SS.P 24) g2 fun B3 g4=>xP (af SS.P 24 (pA (h.next)) 0) fun p5=>xI .i64 (ah SS.P 3 (room g4 12) (.pointer (some p5))) fun n6=>xP (af SS.P 24 (pA (h.next)) 1) fun p7=>xI .i64 (ah SS.P 3 (room g4 12) (.pointer (some p7))) fun n8=>xP (ag SS.P 48 (.slice e en ec) (.int .i64 n8)) fun p9=>xI .i64 (ah SS.P 3 (room g4 12) (.pointer (some p9))) fun n10=>xP (af SS.P 24 (pA (h.next)) 2) fun p11=>xS (ah SS.P 9 (room g4 12) (.pointer (some p11))) fun l12=>xA (aI SS.P 24 [(0,(.int .i64 n6)),(1,(.int .i64 n10)),(2,(aa l12))]) fun c13=>zN (aF SS.P 24) fun B14=>xU (ai SS.P 24 (pA (g4.next+10)) (.agg ⟨c13⟩) (aB (room g4 12) g4.next [(10,B14)])) (aB (room g4 12) g4.next [(10,B14)]) fun u15 g16=>LL SS eZ [1,1,0,1,0,0] (fo a n c e en ec (h.next) (g2.next) (g4.next+10) 0) g16 (KK SS eZ [1,1,0,1,0] [] (EE SS eZ Q))):FW SS 44 [(.agg ⟨mv⟩),(.slice a n c),(.slice e en ec)] h Q:=bG eZ Tryz.func44 (aj hx)
theorem uc (mv:LV)(a:OA)(n c:Nat)(e:OA)(en ec:Nat)(k k6 k7:Nat)(Inv:Nat->Nat->Heap->Prop)(Q:VH)(step: ∀ (mz:Nat) (i:Nat) (zz:Nat->Value) (h:Heap),Inv mz i h->au (decide (((i:Int):Int) < (n:Int))) (xP (af SS.P 24 (pA k) 3) fun p17=>xL (ah SS.P 22 (room h 10) (.pointer (some p17))) fun a18 n19 c20=>xP (ag SS.P 48 (.slice a n c) (iA i)) fun p21=>xI .i64 (ah SS.P 3 (room h 10) (.pointer (some p21))) fun n22=>xP (ag SS.P 22 (.slice a18 n19 c20) (.int .i64 n22)) fun p23=>xA (ah SS.P 37 (room h 10) (.pointer (some p23))) fun c24=>zN (aF SS.P 37) fun B25=>xU (ai SS.P 37 (pA (h.next+8)) (.agg ⟨c24⟩) (aB (room h 10) h.next [(8,B25)])) (aB (room h 10) h.next [(8,B25)]) fun u26 g27=>xP (af SS.P 37 (pA (h.next+8)) 0) fun p28=>xS (ah SS.P 9 g27 (.pointer (some p28))) fun l29=>xA (aI SS.P 37 [(0,(aa l29))]) fun c30=>xN (aF SS.P 37) g27 fun B31 g32=>xU (ai SS.P 37 (pA (g27.next)) (.agg ⟨c30⟩) g32) g32 fun u33 g34=>LL SS eZ [1,1,0,1,0,0,1,0,0,1,1,0,1,0,0] (gK a n c e en ec k k6 k7 (h.next+8) (g27.next) i 0) g34 (KK SS eZ [1,0,0,1,1,0,1,0] [1,1,0,1,0,0] (RR eZ [1,1,0,1,0,0] (fA (fo a n c e en ec k k6 k7) Inv) mz (KK SS eZ [1,1,0,1,0] [] (EE SS eZ Q))))) (xA (ah SS.P 24 h (pA k7)) fun c35=>xU (ai SS.P 24 (pA k6) (.agg ⟨c35⟩) h) h fun u36 g37=>cX SS [((pA k6),some 24)] g37 Q))(mz:Nat){i:Nat}{h:Heap}(hi:Inv mz i h):LL SS eZ [1,1,0,1,0,0] (fo a n c e en ec k k6 k7 i) h (KK SS eZ [1,1,0,1,0] [] (EE SS eZ Q)):=
 bH (fo a n c e en ec k k6 k7) Inv (fun mz i zz h hi=>aj (step mz i zz h hi)) mz hi
theorem tY (mv:LV)(a:OA)(n c:Nat)(e:OA)(en ec:Nat)(k k6 k7 k9 k10:Nat)(Inv:Nat->Nat->Heap->Prop)(mz i:Nat)(Inv2:Nat->Nat->Heap->Prop)(Q:VH)(step: ∀ (mz2:Nat) (j:Nat) (zz:Nat->Value) (h:Heap),Inv2 mz2 j h->xP (af SS.P 37 (pA k9) 1) fun p38=>xL (ah SS.P 35 h (.pointer (some p38))) fun a39 n40 c41=>au (decide (((j:Int):Int) < (n40:Int))) (xP (af SS.P 37 (pA k9) 1) fun p42=>xL (ah SS.P 35 h (.pointer (some p42))) fun a43 n44 c45=>xP (ag SS.P 35 (.slice a43 n44 c45) (iA j)) fun p46=>xA (ah SS.P 39 h (.pointer (some p46))) fun c47=>xN (aF SS.P 39) h fun B48 g49=>xU (ai SS.P 39 (pA (h.next)) (.agg ⟨c47⟩) g49) g49 fun u50 g51=>xP (af SS.P 39 (pA (h.next)) 3) fun p52=>xI .i64 (ah SS.P 3 g51 (.pointer (some p52))) fun n53=>xP (ag SS.P 48 (.slice e en ec) (.int .i64 n53)) fun p54=>xI .i64 (ah SS.P 3 g51 (.pointer (some p54))) fun n55=>au (decide ((n55:Int)>=0)) (xP (af SS.P 39 (pA (h.next)) 3) fun p56=>xI .i64 (ah SS.P 3 g51 (.pointer (some p56))) fun n57=>xP (ag SS.P 48 (.slice e en ec) (.int .i64 n57)) fun p58=>xI .i64 (ah SS.P 3 g51 (.pointer (some p58))) fun n59=>xP (af SS.P 39 (pA (h.next)) 3) fun p60=>xU (ai SS.P 3 (.pointer (some p60)) (.int .i64 n59) g51) g51 fun u61 g62=>xP (af SS.P 37 (pA k10) 1) fun p63=>xL (ah SS.P 35 g62 (.pointer (some p63))) fun a64 n65 c66=>xA (ah SS.P 39 g62 (pA (h.next))) fun c67=>xR (ak SS.P 35 1 [(0,(.agg ⟨c67⟩))]) g62 fun FI n69 c70 g71=>xE (ay SS.P 35 35 (.slice a64 n65 c66) (sA (g62.next) n69 c70) g71) g71 fun a72 n73 c74 u75 g76=>xP (af SS.P 37 (pA k10) 1) fun p77=>xU (ai SS.P 35 (.pointer (some p77)) (.slice a72 n73 c74) g76) g76 fun u78 g79=>ax (fA (gK a n c e en ec k k6 k7 k9 k10 i) Inv2) mz2 [(.slice a n c),(.slice e en ec),(pA k),(pA k6),(pA k7),(iA i),(pA k9),(pA k10),(.int .i64 (wrap .i64 ((j:Int)+1)))] g79) (ax (fA (gK a n c e en ec k k6 k7 k9 k10 i) Inv2) mz2 [(.slice a n c),(.slice e en ec),(pA k),(pA k6),(pA k7),(iA i),(pA k9),(pA k10),(.int .i64 (wrap .i64 ((j:Int)+1)))] g51)) (xP (af SS.P 24 (pA k7) 3) fun p80=>xL (ah SS.P 22 h (.pointer (some p80))) fun a81 n82 c83=>xA (ah SS.P 37 h (pA k10)) fun c84=>xR (ak SS.P 22 1 [(0,(.agg ⟨c84⟩))]) h fun Pr n86 c87 g88=>xE (ay SS.P 22 22 (.slice a81 n82 c83) (sA (h.next) n86 c87) g88) g88 fun a89 n90 c91 u92 g93=>xP (af SS.P 24 (pA k7) 3) fun p94=>xU (ai SS.P 22 (.pointer (some p94)) (.slice a89 n90 c91) g93) g93 fun u95 g96=>ax (fA (fo a n c e en ec k k6 k7) Inv) mz [(.slice a n c),(.slice e en ec),(pA k),(pA k6),(pA k7),(.int .i64 (wrap .i64 ((i:Int)+1)))] g96))(mz2:Nat){j:Nat}{h:Heap}(hi:Inv2 mz2 j h):LL SS eZ [1,1,0,1,0,0,1,0,0,1,1,0,1,0,0] (gK a n c e en ec k k6 k7 k9 k10 i j) h (KK SS eZ [1,0,0,1,1,0,1,0] [1,1,0,1,0,0] (RR eZ [1,1,0,1,0,0] (fA (fo a n c e en ec k k6 k7) Inv) mz (KK SS eZ [1,1,0,1,0] [] (EE SS eZ Q)))):=
 bH (gK a n c e en ec k k6 k7 k9 k10 i) Inv2 (fun mz2 j zz h hi=>aj (step mz2 j zz h hi)) mz2 hi
noncomputable def lw:FD:=bF Tryz.f23 [([1,1,1,1,1,0,1,0,0],[1,2,5,25,26,27])]
abbrev fD (k k2:Nat)(a:OA)(n c:Nat)(i:Nat)(t:OA)(tn tc:Nat):LV:=[(pA k),(pA k2),(.slice t tn tc),(.slice a n c),(iA n),(iA i)]
theorem KY (mv:LV)(h:Heap)(Q:VH)(hx:xN (dc SS.P 24 (.agg ⟨mv⟩)) h fun B1 g2=>xN (aF SS.P 24) g2 fun B3 g4=>xA (ah SS.P 24 g4 (pA (h.next))) fun c5=>FW SS 10 [(.agg ⟨c5⟩)] g4 fun v6 h7=>yB v6 fun b8=>au (!b8) (xA (aI SS.P 24 []) fun c9=>xU (ai SS.P 24 (pA (g2.next)) (.agg ⟨c9⟩) h7) h7 fun u10 g11=>cX SS [((pA (g2.next)),some 24),((.int .i64 1),none)] g11 Q) (xA (ah SS.P 24 h7 (pA (h.next))) fun c12=>FW SS 41 [(.agg ⟨c12⟩)] h7 fun v13 h14=>yL v13 fun a15 n16 c17=>xP (af SS.P 24 (pA (h.next)) 1) fun p18=>xI .i64 (ah SS.P 3 h14 (.pointer (some p18))) fun n19=>xP (ag SS.P 46 (.slice a15 n16 c17) (.int .i64 n19)) fun p20=>xB (ah SS.P 4 h14 (.pointer (some p20))) fun b21=>au (!b21) (xP (af SS.P 24 (pA (h.next)) 0) fun p22=>xI .i64 (ah SS.P 3 h14 (.pointer (some p22))) fun n23=>FW SS 27 [(.int .i64 n23)] h14 fun v24 h25=> ∃ cs26:LV,∃ n27:Int,v24=(.tuple ⟨[(.agg ⟨cs26⟩),(.int .i64 n27)]⟩)/\xU (ai SS.P 24 (pA (g2.next)) (.agg ⟨cs26⟩) h25) h25 fun u28 g29=>cX SS [((pA (g2.next)),some 24),((.int .i64 n27),none)] g29 Q) (LL SS lw [1,1,1,1,1,0,1,0,0] (fD (h.next) (g2.next) a15 n16 c17 0 none 0 0) h14 (KK SS lw [1,1,1,1,1,0,1,0] [] (EE SS lw Q))))):FW SS 23 [(.agg ⟨mv⟩)] h Q:=bG lw Tryz.func23 (aj hx)
theorem rV (mv:LV)(k k2:Nat)(a:OA)(n c:Nat)(Inv:Nat->Nat->OA->Nat->Nat->Heap->Prop)(Q:VH)(step: ∀ (mz:Nat) (i:Nat) (t:OA) (tn tc:Nat) (zz:Nat->Value) (h:Heap),Inv mz i t tn tc h->au (decide (((i:Int):Int) < (n:Int))) (xP (ag SS.P 46 (.slice a n c) (iA i)) fun p30=>xB (ah SS.P 4 h (.pointer (some p30))) fun b31=>au b31 (xR (ak SS.P 48 1 [(0,(iA i))]) h fun B32 n33 c34 g35=>xE (ay SS.P 48 48 (.slice t tn tc) (sA (h.next) n33 c34) g35) g35 fun a36 n37 c38 u39 g40=>ax (kY (fD k k2 a n c) Inv) mz [(pA k),(pA k2),(.slice a36 n37 c38),(.slice a n c),(iA n),(.int .i64 (wrap .i64 ((i:Int)+1)))] g40) (ax (kY (fD k k2 a n c) Inv) mz [(pA k),(pA k2),(.slice t tn tc),(.slice a n c),(iA n),(.int .i64 (wrap .i64 ((i:Int)+1)))] h)) (xA (ah SS.P 24 h (pA k)) fun c41=>FW SS 43 [(.agg ⟨c41⟩),(.slice t tn tc)] h fun v42 h43=>yA v42 fun c44=>xU (ai SS.P 24 (pA k2) (.agg ⟨c44⟩) h43) h43 fun u45 g46=>cX SS [((pA k2),some 24),((.int .i64 0),none)] g46 Q))(mz:Nat){i:Nat}{t:OA}{tn tc:Nat}{h:Heap}(hi:Inv mz i t tn tc h):LL SS lw [1,1,1,1,1,0,1,0,0] (fD k k2 a n c i t tn tc) h (KK SS lw [1,1,1,1,1,0,1,0] [] (EE SS lw Q)):=
 jW (fD k k2 a n c) Inv (fun mz i t tn tc zz h hi=>aj (step mz i t tn tc zz h hi)) mz hi
noncomputable def lI:FD:=bF Tryz.f24 [([1,1,1,1,1,1,0,1,0,0],[1,2,4,5,6,7])]
abbrev fL (k k2:Nat)(a:OA)(n c:Nat)(e:OA)(en ec:Nat)(i:Nat)(t:OA)(tn tc:Nat):LV:=[(pA k),(pA k2),(.slice a n c),(.slice t tn tc),(.slice e en ec),(iA i)]
theorem K7 (mv:LV)(h:Heap)(Q:VH)(hx:xN (dc SS.P 24 (.agg ⟨mv⟩)) h fun B1 g2=>xN (aF SS.P 24) g2 fun B3 g4=>xA (ah SS.P 24 g4 (pA (h.next))) fun c5=>FW SS 11 [(.agg ⟨c5⟩)] g4 fun v6 h7=>yB v6 fun b8=>au (!b8) (xA (aI SS.P 24 []) fun c9=>xU (ai SS.P 24 (pA (g2.next)) (.agg ⟨c9⟩) h7) h7 fun u10 g11=>cX SS [((pA (g2.next)),some 24),((.int .i64 1),none)] g11 Q) (xA (ah SS.P 24 h7 (pA (h.next))) fun c12=>FW SS 42 [(.agg ⟨c12⟩)] h7 fun v13 h14=>yL v13 fun a15 n16 c17=>xP (af SS.P 24 (pA (h.next)) 1) fun p18=>xI .i64 (ah SS.P 3 h14 (.pointer (some p18))) fun n19=>xP (ag SS.P 46 (.slice a15 n16 c17) (.int .i64 n19)) fun p20=>xB (ah SS.P 4 h14 (.pointer (some p20))) fun b21=>au (!b21) (xP (af SS.P 24 (pA (h.next)) 0) fun p22=>xI .i64 (ah SS.P 3 h14 (.pointer (some p22))) fun n23=>FW SS 28 [(.int .i64 n23)] h14 fun v24 h25=> ∃ cs26:LV,∃ n27:Int,v24=(.tuple ⟨[(.agg ⟨cs26⟩),(.int .i64 n27)]⟩)/\xU (ai SS.P 24 (pA (g2.next)) (.agg ⟨cs26⟩) h25) h25 fun u28 g29=>cX SS [((pA (g2.next)),some 24),((.int .i64 n27),none)] g29 Q) (xP (af SS.P 24 (pA (h.next)) 3) fun p30=>xL (ah SS.P 22 h14 (.pointer (some p30))) fun a31 n32 c33=>xR (aP SS.P 48 (iA n32) (iA n32)) h14 fun B34 n35 c36 g37=>LL SS lI [1,1,1,1,1,1,0,1,0,0] (fL (h.next) (g2.next) a15 n16 c17 (some ⟨h14.next,0,none⟩) n35 c36 0 none 0 0) g37 (KK SS lI [1,1,1,1,1,1,0,1,0] [] (EE SS lI Q))))):FW SS 24 [(.agg ⟨mv⟩)] h Q:=bG lI Tryz.func24 (aj hx)
theorem sd (mv:LV)(k k2:Nat)(a:OA)(n c:Nat)(e:OA)(en ec:Nat)(Inv:Nat->Nat->OA->Nat->Nat->Heap->Prop)(Q:VH)(step: ∀ (mz:Nat) (i:Nat) (t:OA) (tn tc:Nat) (zz:Nat->Value) (h:Heap),Inv mz i t tn tc h->xP (af SS.P 24 (pA k) 3) fun p38=>xL (ah SS.P 22 h (.pointer (some p38))) fun a39 n40 c41=>au (decide (((i:Int):Int) < (n40:Int))) (xP (ag SS.P 48 (.slice e en ec) (iA i)) fun p42=>xU (ai SS.P 3 (.pointer (some p42)) (.int .i64 (-1)) h) h fun u43 g44=>xP (ag SS.P 46 (.slice a n c) (iA i)) fun p45=>xB (ah SS.P 4 g44 (.pointer (some p45))) fun b46=>au b46 (xP (ag SS.P 48 (.slice e en ec) (iA i)) fun p47=>xU (ai SS.P 3 (.pointer (some p47)) (iA tn) g44) g44 fun u48 g49=>xR (ak SS.P 48 1 [(0,(iA i))]) g49 fun B50 n51 c52 g53=>xE (ay SS.P 48 48 (.slice t tn tc) (sA (g49.next) n51 c52) g53) g53 fun a54 n55 c56 u57 g58=>ax (kY (fL k k2 a n c e en ec) Inv) mz [(pA k),(pA k2),(.slice a n c),(.slice a54 n55 c56),(.slice e en ec),(.int .i64 (wrap .i64 ((i:Int)+1)))] g58) (ax (kY (fL k k2 a n c e en ec) Inv) mz [(pA k),(pA k2),(.slice a n c),(.slice t tn tc),(.slice e en ec),(.int .i64 (wrap .i64 ((i:Int)+1)))] g44)) (xA (ah SS.P 24 h (pA k)) fun c59=>FW SS 44 [(.agg ⟨c59⟩),(.slice t tn tc),(.slice e en ec)] h fun v60 h61=>yA v60 fun c62=>xU (ai SS.P 24 (pA k2) (.agg ⟨c62⟩) h61) h61 fun u63 g64=>cX SS [((pA k2),some 24),((.int .i64 0),none)] g64 Q))(mz:Nat){i:Nat}{t:OA}{tn tc:Nat}{h:Heap}(hi:Inv mz i t tn tc h):LL SS lI [1,1,1,1,1,1,0,1,0,0] (fL k k2 a n c e en ec i t tn tc) h (KK SS lI [1,1,1,1,1,1,0,1,0] [] (EE SS lI Q)):=
 jW (fL k k2 a n c e en ec) Inv (fun mz i t tn tc zz h hi=>aj (step mz i t tn tc zz h hi)) mz hi
section
section
variable {hb g g':Heap} {k off n c:Nat} {ps:List (MSt×Value)}
theorem wD {ps:List (MSt×Value)}{i:Nat}(p:MSt×Value):(ps.set i p).map gG=(ps.map gG).set i (gG p):=by rw [map_set]
theorem OwnM.setF (w:Wf hb)(ok:Ok hb g)(m:OwnM hb g (.slice (some ⟨k,off,none⟩) n c) ps){i:Nat}{p:MSt×Value}(hp:ps[i]?=some p)(f:List UInt8):
  ∃ u:Upd,ai SS.P 9 (.pointer (some ⟨k,off+i*2+0,none⟩)) (aa f) g=some (undef,u)/\OwnM hb (u.app g) (.slice (some ⟨k,off,none⟩) n c) (ps.set i (⟨f,p.1.arcs⟩,p.2))/\Ok hb (u.app g)/\(∀ j B,g.get j=some B->k≠j->(u.app g).get j=some B)/\(u.app g).next=g.next:=by
 obtain ⟨u,h1,h2,h3,h4,h5⟩:=m.row.put (e:=37) (t':=9) (by kernel_rfl) w ok (i:=i) (j:=0) (r:=gG p) (by rw [getElem?_map,hp]; rfl) (by omega) (v':=aa f) rfl rfl;have key: ∀ {j:Nat}{q:MSt×Value},(ps.set i (⟨f,p.1.arcs⟩,p.2))[j]?=some q-> ∃ q',ps[j]?=some q'/\q.2=q'.2/\q.1.arcs=q'.1.arcs:=fun {j q} hq=>by
  rw [getElem?_set] at hq;split at hq
  ·next e=>
   subst e;split at hq
   ·obtain rfl:=oI hq; exact ⟨p,hp,rfl,rfl⟩
   ·cases hq
  ·exact ⟨q,hq,rfl,rfl⟩
 refine ⟨u,h1,⟨by rw [wD]; exact h2,fun j q hq=> ?_,fun j q hq k' hk'=> ?_,fun j1 j2 q1 q2 hne hq1 hq2 k' hk'=> ?_⟩,h3,h4,h5⟩
 ·obtain ⟨q',e1,e2,e3⟩:=key hq;rw [e2,e3];exact (m.arcs j q' e1).keep fun k' B hk' hB=>h4 k' B hB (fun e=>m.ne j q' e1 k' hk' (by rw [<-e]; rfl))
 ·obtain ⟨q',e1,e2,e3⟩:=key hq;rw [e2] at hk';exact m.ne j q' e1 k' hk'
 ·obtain ⟨q1',e1,e2,e3⟩:=key hq1;obtain ⟨q2',e4,e5,e6⟩:=key hq2;rw [e2] at hk'; rw [e5];exact m.dis j1 j2 q1' q2' hne e1 e4 k' hk'
theorem OwnM.setA (w:Wf hb)(ok':Ok hb g')(m:OwnM hb g (.slice (some ⟨k,off,none⟩) n c) ps){i:Nat}{p:MSt×Value}(hp:ps[i]?=some p)(kp: ∀ j B,g.get j=some B->aG p.2≠some j->g'.get j=some B){b:Option Addr}{n' c':Nat}{arcs:List MArc}(ox:OwnK hb g' 39 4 (.slice b n' c') (arcs.map aD))(nx: ∀ j,aG (.slice b n' c')=some j->g.next<=j\/aG p.2=some j)(wg:Wf g):
  ∃ u:Upd,ai SS.P 35 (.pointer (some ⟨k,off+i*2+1,none⟩)) (.slice b n' c') g'=some (undef,u)/\OwnM hb (u.app g') (.slice (some ⟨k,off,none⟩) n c) (ps.set i (⟨p.1.f,arcs⟩,.slice b n' c'))/\Ok hb (u.app g')/\(∀ j B,g'.get j=some B->k≠j->(u.app g').get j=some B)/\(u.app g').next=g'.next:=by
 have hpk:aG p.2≠some k:=fun e=>m.ne i p hp k e rfl;have row':OwnK hb g' 37 2 (.slice (some ⟨k,off,none⟩) n c) (ps.map gG):=m.row.keep fun k' B hk' hB=>kp k' B hB (fun e=>m.ne i p hp k' e hk');obtain ⟨u,h1,h2,h3,h4,h5⟩:=row'.put (e:=37) (t':=35) (by kernel_rfl) w ok' (i:=i) (j:=1) (r:=gG p) (by rw [getElem?_map,hp]; rfl) (by omega) (v':= .slice b n' c') (dS ..) (by cases b <;> rfl);have hlt:i < ps.length:=(List.getElem?_eq_some_iff.1 hp).1;have hkb:aG (.slice b n' c')≠some k:=fun e=>by
  rcases nx k e with h | h
  ·have:=(m.row.lt wg (k:=k) rfl).1; omega
  ·exact hpk h
 have key: ∀ {j:Nat}{q:MSt×Value},(ps.set i (⟨p.1.f,arcs⟩,.slice b n' c'))[j]?=some q->(j=i/\q=(⟨p.1.f,arcs⟩,.slice b n' c'))\/(j≠i/\ps[j]?=some q):=fun {j q} hq=>by
  rcases aA hq with ⟨e,e2⟩ | ⟨e,hq⟩
  ·exact .inl ⟨e,e2⟩
  ·exact .inr ⟨e,hq⟩
 have old: ∀ {j:Nat}{q:MSt×Value},j≠i->ps[j]?=some q-> ∀ k',aG q.2=some k'->aG (.slice b n' c')≠some k':=fun {j q} hj hq k' hk' e=>by
  rcases nx k' e with h | h
  ·have:=((m.arcs j q hq).lt wg hk').1; omega
  ·exact m.dis j i q p hj hq hp k' hk' h
 refine ⟨u,h1,⟨by rw [wD]; exact h2,fun j q hq=> ?_,fun j q hq k' hk'=> ?_,fun j1 j2 q1 q2 hne hq1 hq2 k' hk'=> ?_⟩,h3,h4,h5⟩
 ·rcases key hq with ⟨rfl,rfl⟩ | ⟨hj,hq⟩
  ·exact ox.keep fun k' B hk' hB=>h4 k' B hB (fun e=>hkb (by rw [e]; exact hk'))
  ·exact (m.arcs j q hq).keep fun k' B hk' hB=>h4 k' B (kp k' B hB (fun e=>m.dis j i q p hj hq hp k' hk' e)) (fun e=>m.ne j q hq k' hk' (by rw [<-e]; rfl))
 ·rcases key hq with ⟨rfl,rfl⟩ | ⟨hj,hq⟩
  ·exact fun e=>hkb (by rw [hk',<-e]; rfl)
  ·exact m.ne j q hq k' hk'
 ·rcases key hq1 with ⟨e1,e2⟩ | ⟨hj,f1⟩ <;> rcases key hq2 with ⟨e3,e4⟩ | ⟨hj2,f2⟩
  ·exact absurd (e1.trans e3.symm) hne
  ·rw [e2] at hk'; exact fun e=>old hj2 f2 k' e hk'
  ·rw [e4]; exact old hj f1 k' hk'
  ·exact m.dis j1 j2 q1 q2 hne f1 f2 k' hk'
theorem OwnM.at_ (m:OwnM hb g (.slice (some ⟨k,off,none⟩) n c) ps){i:Nat}{p:MSt×Value}(hp:ps[i]?=some p):
  ag SS.P 22 (.slice (some ⟨k,off,none⟩) n c) (.int .i64 (i:Int))=some (.pointer (some ⟨k,off+i*2,none⟩))/\ah SS.P 35 g (.pointer (some ⟨k,off+i*2+1,none⟩))=some p.2/\ah SS.P 37 g (.pointer (some ⟨k,off+i*2,none⟩))=some (.agg ⟨gG p⟩):=by
 obtain ⟨h1,h2,h3⟩:=m.row.at_ uU wk (i:=i) (r:=gG p) (by rw [getElem?_map,hp]; rfl) .i64;exact ⟨h1,by rw [h2 35 _ 1 tR Gv (by omega)]; rfl,h3 _ OC Oy⟩
end
noncomputable def ti37:TypeInfo:=(SS.P.info? 37).getD default
theorem MG:SS.P.info? 37=some ti37:=by kernel_rfl
theorem HY:ti37.size=2:=by kernel_rfl
theorem DU:ti37.bytes=40:=by kernel_rfl
def zst:MSt×Value:=(⟨[],[]⟩,.slice none 0 0)
theorem OR:cF SS.P 37=some (.agg ⟨gG zst⟩):=by kernel_rfl
theorem Ot (n:Nat)(hn:n<=100000):aP SS.P 22 (.int .i64 (n:Int)) (.int .i64 (n:Int))=some (.cells ((List.replicate n zst).map gG).flatten 37 2 true,gU n n):=by
 unfold aP aT;dsimp only;rw [uU]
 try dsimp only
 change (match SS.P.info? 37,cF SS.P 37 with
  | some i,some z=>(if z.cells.size=i.size/\0 < i.size/\(0:Int)<=(n:Int)/\(n:Int)<=(n:Int)/\(n:Int)*i.bytes<=140737488355328/\(n:Int)<=1099511627776 then some (Blk.cells (be z.cells.toList (n:Int).toNat) 37 i.size true,fun k=>Value.slice (some ⟨k,0,none⟩) (n:Int).toNat (n:Int).toNat) else none)
  | _,_=>none)=_
 rw [MG,OR];dsimp only;rw [HY,DU,if_pos ⟨rfl,by omega,by omega,Int.le_refl _,by omega,by omega⟩];have e:((n:Int)).toNat=n:=by omega
 rw [e,show (Value.agg ⟨gG zst⟩).cells.toList=gG zst from rfl,za,map_replicate]; rfl
theorem OwnM.made {hb g:Heap}{k n:Nat}(hk:g.get k=some (.cells ((List.replicate n zst).map gG).flatten 37 2 true))(h0k:hb.next<=k)(hn:n<=100000):OwnM hb g (.slice (some ⟨k,0,none⟩) n n) (List.replicate n zst):=by
 have key: ∀ {i:Nat}{p:MSt×Value},(List.replicate n zst)[i]?=some p->p=zst:=fun {i p} hp=>by
  rw [getElem?_replicate] at hp;split at hp
  ·exact (oI hp).symm
  ·cases hp
 have hl:((List.replicate n zst).map gG).length=n:=by simp
 have:=OwnK.made (h0:=hb) hk EY h0k (by rw [hl]; unfold bi; omega);rw [hl] at this;exact ⟨this,fun i p hp=>(by rw [key hp]; exact OwnK.nil _ _ _ _),fun i p hp k' hk'=>(by rw [key hp] at hk'; cases hk'),fun i j p q _ hp hq k' hk'=>(by rw [key hp] at hk'; cases hk')⟩
def cR:List Nat->Nat->Nat->Int
 | [],_,_=> -1
 | o::r,i,x=>if o=x then (i:Int) else cR r (i+1) x
theorem nP: ∀ (l:List Nat)(i o x:Nat),o ∉ l->cR (l++[o]) i x=if x=o then ((i+l.length:Nat):Int) else cR l i x
 | [],i,o,x,_=>by
  show (if o=x then (i:Int) else -1)=if x=o then ((i+0:Nat):Int) else -1;by_cases h:x=o
  ·rw [if_pos h,if_pos h.symm]; rfl
  ·rw [if_neg h,if_neg (fun e=>h e.symm)]
 | y::l,i,o,x,hn=>by
  have h1: ¬ o=y:=fun e=>hn (e ▸ mem_cons_self ..);have ih:=nP l (i+1) o x (fun h=>hn (mem_cons_of_mem _ h));show (if y=x then (i:Int) else cR (l++[o]) (i+1) x)=if x=o then _ else (if y=x then (i:Int) else cR l (i+1) x);rw [ih,length_cons];by_cases h:x=o
  ·rw [if_pos h,if_pos h,if_neg (by rw [h]; exact fun e=>h1 e.symm)]; congr 1; omega
  ·rw [if_neg h,if_neg h]
theorem m7: ∀ (l:List Nat)(i x:Nat),cR l i x = -1\/((i:Int)<=cR l i x/\cR l i x < ((i+l.length:Nat):Int))
 | [],i,x=> .inl rfl
 | o::l,i,x=>by
  unfold cR;split
  ·right; rw [length_cons]; omega
  ·rcases m7 l (i+1) x with h | h
   ·exact .inl h
   ·right; rw [length_cons]; omega
theorem nB: ∀ (l:List Nat)(i x:Nat),cR l i x≠ -1↔x∈l
 | [],i,x=>by simp [cR]
 | o::l,i,x=>by
  unfold cR;split
  ·next h=>exact ⟨fun _=>h ▸ mem_cons_self ..,fun _=>by omega⟩
  ·next h=>
   rw [nB l (i+1) x];exact ⟨fun h'=>mem_cons_of_mem _ h',fun h'=>(mem_cons.1 h').resolve_left fun e=>h e.symm⟩
def dZ (ord:List Nat)(q:MArc):Option MArc:=if cR ord 0 q.t.toNat = -1 then none else some ⟨q.i,q.o,q.w,cR ord 0 q.t.toNat⟩
def qO (M:Mach)(ord:List Nat)(s:Nat):MSt:=⟨(M.states.getD s ⟨[],[]⟩).f,(M.states.getD s ⟨[],[]⟩).arcs.filterMap (dZ ord)⟩
def dP (M:Mach)(ord:List Nat):Mach:=⟨M.kind,cR ord 0 M.start.toNat,M.lead,ord.map (qO M ord)⟩
def JF (h:Heap)(M:Mach):VH:=fun v h'=> ∃ (a:Option Addr)(n c:Nat)(ps:List (MSt×Value)),v = .agg ⟨aC M a n c⟩/\ps.map (·.1)=M.states/\OwnM h h' (.slice a n c) ps/\Ok h h'
structure OrdOk (N:Nat)(ord:List Nat):Prop where
 lt: ∀ x∈ord,x < N
 nd:ord.Nodup
end
theorem IC {v:Nat}(hv:v < 4294967296):(((BitVec.ofInt (IntKind.bits .u64) (v:Int) &&& BitVec.ofInt (IntKind.bits .u64) 4294967295).toNat:Nat):Int)=(v:Int):=by
 have e:IntKind.bits .u64=64:=rfl;rw [e,BitVec.toNat_and];have h1:(BitVec.ofInt 64 (v:Int)).toNat=v:=by
  rw [BitVec.toNat_ofInt]; omega
 have h2:(BitVec.ofInt 64 4294967295).toNat=2 ^ 32 - 1:=rfl;rw [h1,h2,Nat.and_two_pow_sub_one_eq_mod,Nat.mod_eq_of_lt hv]
theorem It {v:Nat}(hv:v < 4294967296):al SS.P .shr 103 (.int .u64 (v:Int)) (.int .u64 32)=some (.int .u64 ((0:Nat):Int)):=by
 have e:((v:Int)).fdiv (2 ^ (min ((32:Int)).toNat (IntKind.bits .u64)))=((0:Nat):Int):=by
  rw [show min ((32:Int)).toNat (IntKind.bits .u64)=32 from rfl,Int.fdiv_eq_ediv_of_nonneg _ (by decide),show (2:Int) ^ 32=4294967296 from rfl];omega
 show (if (0:Int)<=32 then some (Value.int .u64 (((v:Int)).fdiv (2 ^ (min ((32:Int)).toNat (IntKind.bits .u64))))) else none)=_;rw [if_pos (by decide),e]
theorem Gt {y:Nat}(hy:y < 4294967296)(h:Heap):FW SS 108 [.int .u64 1,.int .u64 (y:Int)] h (fun v h'=>v = .tuple ⟨[.int .u64 0,.int .u64 (y:Int)]⟩/\h'=h):=by
 refine IY 1 (y:Int) h _ ?_;have w0: ∀ z:Nat,z < 4294967296->wrap .u64 (z:Int)=(z:Int):=fun z hz=>cJ (by omega) (by omega);have e1:(((BitVec.ofInt (IntKind.bits .u64) 1 &&& BitVec.ofInt (IntKind.bits .u64) 4294967295).toNat:Nat):Int)=((1:Nat):Int):=IC (v:=1) (by decide);have ey:=IC hy;have z1:=It (v:=1) (by decide);have zy:=It hy;have z0:=It (v:=0) (by decide);have a0:=IC (v:=0) (by decide);have m0:wrap .u64 (((1:Nat):Int)*(y:Int))=(y:Int):=by rw [show ((1:Nat):Int)*(y:Int)=((y:Nat):Int) by omega]; exact w0 y hy
 have m1:wrap .u64 (((0:Nat):Int)*(y:Int))=((0:Nat):Int):=by rw [show ((0:Nat):Int)*(y:Int)=((0:Nat):Int) by omega]; exact w0 0 (by decide)
 have m2:wrap .u64 (((0:Nat):Int)+((0:Nat):Int))=((0:Nat):Int):=w0 0 (by decide);have m3:wrap .u64 (((1:Nat):Int)*((0:Nat):Int))=((0:Nat):Int):=w0 0 (by decide);have m4:wrap .u64 (((0:Nat):Int)*((0:Nat):Int))=((0:Nat):Int):=w0 0 (by decide);have m5:wrap .u64 ((1:Int)*(y:Int))=(y:Int):=by rw [Int.one_mul]; exact w0 y hy
 refine ⟨((0:Nat):Int),z1,((0:Nat):Int),zy,((0:Nat):Int),?_,((0:Nat):Int),?_,((0:Nat):Int),?_,?_⟩
 ·rw [e1,ey,w0 1 (by decide),w0 y hy,m0]; exact zy
 ·rw [ey,w0 y hy,m1,m2]; exact z0
 ·rw [e1,ey,w0 1 (by decide),w0 y hy,m1,m2,a0,w0 0 (by decide),m3,m2]; exact z0
 ·rw [m4,m2]; dsimp only; rw [m2,m5]; exact ⟨rfl,rfl⟩
theorem Kt {y:Nat}(hy:y < 4294967296)(h:Heap):FW SS 80 [.int .u64 1,.int .u64 (y:Int)] h (fun v h'=>v = .tuple ⟨[.int .u64 0,.int .u64 (y:Int)]⟩/\h'=h):=by
 refine Mi 1 (y:Int) h _ ((Gt hy h).mono ?_);rintro _ _ ⟨rfl,rfl⟩;exact ⟨_,_,rfl,rfl,rfl⟩
theorem J2 {g:Heap}{kt n j:Nat}{cs:List Value}(hk:g.get kt=some (.cells cs 3 1 true))(hl:cs.length=n)(hn:n < bi)(hj:j<=n):
  aH SS.P 48 (.slice (some ⟨kt,0,none⟩) n n) (some (.int .i64 (j:Int))) none none g=some (.slice (some ⟨kt,j,none⟩) (n - j) (n - j))/\
  aH SS.P 48 (.slice (some ⟨kt,0,none⟩) n n) none (some (.int .i64 (j:Int))) none g=some (.slice (some ⟨kt,0,none⟩) j n):=by
 have hcap:aK n=n:=by unfold aK; rw [if_neg (by omega)]
 constructor
 ·unfold aH;dsimp only;rw [gP];dsimp only [bI];rw [tF,hk];dsimp only;rw [if_pos (by omega),hcap,if_pos (by omega)];have e1:((j:Int)).toNat=j:=by omega
  have e2:((n:Int) - (j:Int)).toNat=n - j:=by omega
  rw [e1,e2,mul_one,zero_add]
 ·unfold aH;dsimp only;rw [gP];dsimp only [bI];rw [tF,hk];dsimp only;rw [if_pos (by omega),hcap,if_pos (by omega)];have e2:((j:Int) - ((0:Nat):Int)).toNat=j:=by omega
  have e0:((0:Nat):Int).toNat=0:=rfl;rw [e2,e0]; rfl
theorem Fe {g:Heap}{kt i m:Nat}{n:Nat}{c:Nat}{cs:List Value}(hk:g.get kt=some (.cells cs 3 1 true))(hb:i+n<=cs.length){src:Value}{news:List Value}(hs:cg g 1 src=some (news,m))(hm:news.length=m)(hn0:n≠0)(hm0:m≠0)(hsc:news.all bw=true):
  iS SS.P 48 (.slice (some ⟨kt,i,none⟩) n c) src g=some (.int .i64 ((min m n:Nat):Int),.set kt (.cells (cs.take i++news.take (min m n)++cs.drop (i+min m n)) 3 1 true)):=by
 have hmin:=Nat.min_le_right m n;have hmin2:=Nat.min_le_left m n;have hlen:(news.take (min m n)).length=min m n:=by rw [length_take]; omega
 have hall:(news.take (min m n)).all bw=true:=all_eq_true.2 fun x hx=>all_eq_true.1 hsc x (List.mem_of_mem_take hx);unfold iS;rw [gP];dsimp only;rw [tF];dsimp only;rw [hs];dsimp only;rw [if_neg (by omega),mul_one];unfold storeAt;rw [hk];dsimp only;rw [if_pos ⟨by omega,hall⟩,hlen];rfl
def f7 (x z:Value)(j n:Nat):List Value:=List.replicate j x++List.replicate (n - j) z
theorem Ha {x z:Value}{j n:Nat}(hj:j<=n):(f7 x z j n).take j++(List.replicate j x).take (min j (n - j))++(f7 x z j n).drop (j+min j (n - j))=f7 x z (j+min j (n - j)) n:=by
 have hmin:=Nat.min_le_right j (n - j);have hmin2:=Nat.min_le_left j (n - j);generalize min j (n - j)=m at *;unfold f7;rw [List.take_append_of_le_length (by simp),take_of_length_le (by simp),List.take_replicate,min_eq_left hmin2,List.drop_append,List.drop_eq_nil_of_le (by simp),nil_append,length_replicate,List.drop_replicate,List.replicate_append_replicate];congr 1;congr 1; omega
theorem y9 {h:Heap}(w:Wf h){kx n:Nat}(hkx:h.get kx=some (.cells [.int .i64 (-1)] 3 1 true))(hn:n<=100000):FW SS 66 [.slice (some ⟨kx,0,none⟩) 1 1,.int .i64 (n:Int)] h (fun v h'=> ∃ kn,v = .slice (some ⟨kn,0,none⟩) n n/\IRow h kn 3 (List.replicate n (.int .i64 (-1))) h'):=by
 have wr:wrap .u64 (n:Int)=(n:Int):=cJ (by omega) (by omega);have wr1:wrap .u64 ((1:Nat):Int)=((1:Nat):Int):=cJ (by omega) (by omega);have wr2:wrap .i64 (n:Int)=(n:Int):=am (by omega) (by omega);refine Gy (some ⟨kx,0,none⟩) 1 1 (n:Int) h _ (ae (fun g=> ?_) (fun _=> ?_))
 ·have g:=dT g; omega
 rw [wr,wr1];refine (Kt (by omega) h).mono ?_;rintro _ g0 ⟨rfl,e0⟩;rw [e0];refine ⟨_,_,rfl,ae (fun g=> ?_) (fun _=>ae (fun g=> ?_) (fun _=> ?_))⟩
 ·exact absurd (dT g) (by omega)
 ·have g:=dT g; omega
 rw [wr2];have mk:=M5 n hn;rw [show (List.replicate n 0).map iv=f7 (.int .i64 (-1)) (.int .i64 0) 0 n by unfold f7; rw [map_replicate]; rfl] at mk;refine ⟨_,_,_,mk,?_⟩;have op:=(Ok.refl w).push (.cells (f7 (.int .i64 (-1)) (.int .i64 0) 0 n) 3 1 true);have kt:=aq h (.cells (f7 (.int .i64 (-1)) (.int .i64 0) 0 n) 3 1 true);have hx:=op.ext _ _ hkx;generalize h.push (.cells (f7 (.int .i64 (-1)) (.int .i64 0) 0 n) 3 1 true)=g at *;have hfl: ∀ j,j<=n->(f7 (.int .i64 (-1)) (.int .i64 0) j n).length=n:=fun j hj=>by unfold f7; simp; omega
 have loop: ∀ (j:Nat)(g:Heap),j<=n->(j=0->n=0)->IRow h h.next 3 (f7 (.int .i64 (-1)) (.int .i64 0) j n) g->LL SS fE [1,1,1,1,1,1,0,0,0] [(sA (h.next) n n),(.int .i64 (j:Int))] g (KK SS fE [1,1,1,1,1,1,0,0] [] (EE SS fE fun v h'=> ∃ kn,v = .slice (some ⟨kn,0,none⟩) n n/\IRow h kn 3 (List.replicate n (.int .i64 (-1))) h')):=by
  intro j g hj h0 ir;refine qx (some ⟨kx,0,none⟩) 1 1 (n:Int) (some ⟨h.next,0,none⟩) n n (fun mz j g=> ∃ i:Nat,j=(i:Int)/\i<=n/\(i=0->n=0)/\mz=n - i/\IRow h h.next 3 (f7 (.int .i64 (-1)) (.int .i64 0) i n) g) _ (fun mz j=> ?_) (n - j) (j:=(j:Int)) ⟨j,rfl,hj,h0,rfl,ir⟩;intros; rename_i gg hi;obtain ⟨i,rfl,i1,i2,rfl,ir⟩:=hi;refine ae (fun q=> ?_) (fun q=> ?_)
  ·have q:=dT q;have oR:=(Ok.refl ir.ok.wf).room 10;have hk:=oR.ext _ _ ir.row;obtain ⟨s1,s2⟩:=J2 hk (hfl i i1) (by unfold bi; omega) i1;have src:cg (Go.Ab.room gg 10) 1 (.slice (some ⟨h.next,0,none⟩) i n)=some (List.replicate i (.int .i64 (-1)),i):=by
    show (match (Go.Ab.room gg 10).get h.next with | some (.cells cs ..)=>if ((cs.drop 0).take (i*1)).length=i*1 then some ((cs.drop 0).take (i*1),i) else none | _=>none)=_;rw [hk];dsimp only;rw [mul_one,drop_zero,if_pos (by rw [length_take,hfl i i1]; omega)];unfold f7;rw [List.take_append_of_le_length (by simp),take_of_length_le (by simp)]
   have cp:=Fe (c:=n - i) hk (by rw [hfl i i1]; omega) (i:=i) (n:=n - i) src (by simp) (by omega) (by omega) (all_eq_true.2 fun x hx=>by rw [List.eq_of_mem_replicate hx]; rfl);rw [Ha i1] at cp;refine ⟨_,_,_,s1,_,_,_,s2,_,_,cp,?_⟩;have hmin:min i (n - i)<=n - i:=Nat.min_le_right _ _;have hmin2:0 < min i (n - i):=by omega
   have hmin3:min i (n - i)<=i:=Nat.min_le_left _ _;generalize min i (n - i)=m at *;dsimp only;rw [show wrap .i64 ((i:Int)+(m:Int))=((i+m:Nat):Int) by rw [am (by omega) (by omega)]; omega];refine bp (n - (i+m)) (by omega) ⟨i+m,rfl,by omega,by omega,rfl,?_,ir.new,?_⟩
   ·show ((Go.Ab.room gg 10).set h.next _).get h.next=_;rw [Heap.get_set,if_pos rfl]
   ·exact (ir.ok.trans oR).set _ (le_refl _) (oR.wf _ _ hk) w
  ·have q:=dF q;obtain rfl:i=n:=by omega
   refine ⟨h.next,rfl,?_⟩;have e:f7 (.int .i64 (-1)) (.int .i64 0) i i=List.replicate i (.int .i64 (-1)):=by unfold f7; rw [Nat.sub_self]; simp
   rw [e] at ir;exact ir
 have src1:cg g 1 (.slice (some ⟨kx,0,none⟩) 1 1)=some ([.int .i64 (-1)],1):=by
  show (match g.get kx with | some (.cells cs ..)=>if ((cs.drop 0).take (1*1)).length=1*1 then some ((cs.drop 0).take (1*1),1) else none | _=>none)=_;rw [hx]; rfl
 by_cases h0:n=0
 ·subst h0;have cp:iS SS.P 48 (.slice (some ⟨h.next,0,none⟩) 0 0) (.slice (some ⟨kx,0,none⟩) 1 1) g=some (.int .i64 0,.no):=by
   unfold iS;rw [gP]; dsimp only;rw [tF]; dsimp only;rw [src1]; dsimp only;rw [if_pos (.inl rfl)]
  exact ⟨_,_,cp,loop 0 _ (le_refl _) (fun _=>rfl) ⟨kt,le_refl _,op⟩⟩
 ·have cp:=Fe (c:=n) kt (by rw [hfl 0 (by omega)]; omega) (i:=0) (n:=n) src1 rfl h0 (by decide) rfl;have e:(f7 (.int .i64 (-1)) (.int .i64 0) 0 n).take 0++([.int .i64 (-1)]:List Value).take (min 1 n)++(f7 (.int .i64 (-1)) (.int .i64 0) 0 n).drop (0+min 1 n)=f7 (.int .i64 (-1)) (.int .i64 0) 1 n:=by
   rw [show min 1 n=1 by omega];unfold f7;rw [List.drop_append];simp
  rw [e,show min 1 n=1 by omega] at cp;refine ⟨_,_,cp,loop 1 _ (by omega) (by omega) ⟨?_,le_refl _,op.set _ (le_refl _) (op.wf _ _ kt) w⟩⟩;show (g.set h.next _).get h.next=_;rw [Heap.get_set,if_pos rfl]
section
def eG:Blk:= .cells [.int .i64 0,.int .i64 0,aa [],.slice none 0 0] 24 0 true
theorem iU:aF SS.P 24=some (eG,iy):=by kernel_rfl
theorem NA (k s:Int)(l:List UInt8)(a:Option Addr)(n c:Nat):aI SS.P 24 [(0,(.int .i64 k)),(1,(.int .i64 s)),(2,(aa l)),(3,(.slice a n c))]=some (.agg ⟨[.int .i64 k,.int .i64 s,aa l,.slice a n c]⟩):=by cases a <;> kernel_rfl
theorem dK (M:Mach)(a:Option Addr)(n c:Nat):(aC M a n c).all bw=true:=by cases a <;> rfl
section
variable {hb g g':Heap} {k8 k22 N:Nat} {M':Mach} {ps:List (MSt×Value)}
structure RenI (hb:Heap)(k8 k22 N:Nat)(M':Mach)(ps:List (MSt×Value))(g:Heap):Prop where
 own:OwnM hb g (.slice (some ⟨k22,0,none⟩) N N) ps
 ok:Ok hb g
 box:g.get k8=some (Bm M' (some ⟨k22,0,none⟩) N N)
 hi: ∀ (i:Nat)(p:MSt×Value),ps[i]?=some p-> ∀ j,aG p.2=some j->k8 < j
 nk:k22≠k8
theorem RenI.ext (r:RenI hb k8 k22 N M' ps g)(o:Ok g g'):RenI hb k8 k22 N M' ps g':=⟨r.own.ok o,r.ok.trans o,o.ext _ _ r.box,r.hi,r.nk⟩
theorem RenI.l3 (r:RenI hb k8 k22 N M' ps g):ah SS.P 22 g (.pointer (some ⟨k8,3,none⟩))=some (.slice (some ⟨k22,0,none⟩) N N):=cH uU Dr r.box (by simp [aC])
theorem RenI.all (r:RenI hb k8 k22 N M' ps g):ah SS.P 24 g (.pointer (some ⟨k8,0,none⟩))=some (.agg ⟨aC M' (some ⟨k22,0,none⟩) N N⟩):=fJ wC vV ej r.box (by simp [aC])
theorem RenI.setF (w:Wf hb)(r:RenI hb k8 k22 N M' ps g){i:Nat}{p:MSt×Value}(hp:ps[i]?=some p)(f:List UInt8):
  ∃ u:Upd,ai SS.P 9 (.pointer (some ⟨k22,i*2+0,none⟩)) (aa f) g=some (undef,u)/\RenI hb k8 k22 N M' (ps.set i (⟨f,p.1.arcs⟩,p.2)) (u.app g)/\g.next<=(u.app g).next:=by
 obtain ⟨u,h1,h2,h3,h4,h5⟩:=r.own.setF w r.ok hp f;rw [zero_add] at h1;refine ⟨u,h1,⟨h2,h3,h4 _ _ r.box r.nk,fun j q hq k hk=> ?_,r.nk⟩,le_of_eq h5.symm⟩;rcases aA hq with ⟨_,e⟩ | ⟨_,hq⟩
 ·rw [e] at hk; exact r.hi i p hp k hk
 ·exact r.hi j q hq k hk
theorem RenI.arc (w:Wf hb)(r:RenI hb k8 k22 N M' ps g){i:Nat}{p:MSt×Value}(hp:ps[i]?=some p){q:MArc}{kx:Nat}(hkx:g.get kx=some (.cells (aD q) 39 4 true))(hl:p.1.arcs.length<=100000):
  ∃ (x:Option Addr)(y z:Nat),ah SS.P 35 g (.pointer (some ⟨k22,i*2+1,none⟩))=some (.slice x y z)/\p.2 = .slice x y z/\ ∃ (b:Option Addr)(n c:Nat)(u:Upd),ay SS.P 35 35 (.slice x y z) (.slice (some ⟨kx,0,none⟩) 1 1) g=some (.slice b n c,u)/\
   ∃ u2:Upd,ai SS.P 35 (.pointer (some ⟨k22,i*2+1,none⟩)) (.slice b n c) (u.app g)=some (undef,u2)/\RenI hb k8 k22 N M' (ps.set i (⟨p.1.f,p.1.arcs++[q]⟩,.slice b n c)) (u2.app (u.app g)):=by
 obtain ⟨a1,a2,_⟩:=r.own.at_ hp;rw [zero_add] at a1 a2;have ao:=r.own.arcs i p hp;obtain ⟨x,z,e⟩:=ao.slc;obtain ⟨b,n,c,u,h1,h2,h3,h4,h5,h6⟩:=qu w r.ok ao hkx hl;obtain ⟨u2,s1,s2,s3,s4,s5⟩:=r.own.setA w h3 hp h4 h2 h5 r.ok.wf;rw [zero_add] at s1;rw [e] at h1 a2;refine ⟨x,_,z,a2,e,b,n,c,u,h1,u2,s1,⟨s2,s3,s4 _ _ (h4 _ _ r.box (fun e'=>by have:=r.hi i p hp _ e'; omega)) r.nk,fun j q' hq' k hk=> ?_,r.nk⟩⟩;have h8:k8 < g.next:=r.ok.wf _ _ r.box;rcases aA hq' with ⟨_,e⟩ | ⟨_,hq'⟩
 ·rw [e] at hk;rcases h5 k hk with h | h
  ·omega
  ·exact r.hi i p hp k h
 ·exact r.hi j q' hq' k hk
end
theorem AB.setT {hb g:Heap}(w:Wf hb)(ok:Ok hb g){k:Nat}{q:MArc}(b:AB g k q)(hk:hb.next<=k)(z:Int): ∃ u:Upd,ai SS.P 3 (.pointer (some ⟨k,0+3,none⟩)) (.int .i64 z) g=some (undef,u)/\Ok hb (u.app g)/\AB (u.app g) k ⟨q.i,q.o,q.w,z⟩:=by
 refine ⟨_,fB tF b (by simp [aD]) rfl rfl,ok.set _ hk (ok.wf _ _ b) w,?_⟩;show (g.set k _).get k=_;rw [Heap.get_set,if_pos rfl]; rfl
theorem AB.all {g:Heap}{k:Nat}{q:MArc}(b:AB g k q):ah SS.P 39 g (.pointer (some ⟨k,0,none⟩))=some (.agg ⟨aD q⟩):=fJ F9 In pz b (by simp [aD])
def sx (N:Nat)(ord:List Nat):List Value:=(List.range N).map fun x=> .int .i64 (cR ord 0 x)
theorem nT (N:Nat)(ord:List Nat):(sx N ord).length=N:=by simp [sx]
theorem Li (N:Nat):sx N []=List.replicate N (.int .i64 (-1)):=by
 refine List.ext_getElem? fun i=> ?_;unfold sx;rw [getElem?_map,getElem?_replicate];by_cases h:i < N
 ·rw [getElem?_range h,if_pos h]; rfl
 ·rw [List.getElem?_eq_none (by simpa using h),if_neg h]; rfl
theorem uP {N:Nat}{ord:List Nat}{s:Nat}(hs:s ∉ ord):sx N (ord++[s])=(sx N ord).set s (.int .i64 ((ord.length:Nat):Int)):=by
 refine List.ext_getElem? fun i=> ?_;unfold sx;rw [getElem?_set,getElem?_map,getElem?_map,lM,List.length_range];by_cases h:i < N
 ·rw [getElem?_range h];simp only [Option.map_some];rw [nP _ _ _ _ hs,zero_add];by_cases h2:i=s
  ·rw [if_pos h2,if_pos h2.symm,if_pos (by omega)]
  ·rw [if_neg h2,if_neg (fun e=>h2 e.symm)]
 ·rw [List.getElem?_eq_none (by simpa using h)];by_cases h2:s=i
  ·rw [if_pos h2,if_neg (by omega)]; rfl
  ·rw [if_neg h2]; rfl
theorem vu {g:Heap}{kn N c:Nat}{ord:List Nat}(hg:g.get kn=some (.cells (sx N ord) 3 1 true)){x:Nat}(hx:x < N):ag SS.P 48 (.slice (some ⟨kn,0,none⟩) N c) (.int .i64 (x:Int))=some (.pointer (some ⟨kn,x,none⟩))/\ah SS.P 3 g (.pointer (some ⟨kn,x,none⟩))=some (.int .i64 (cR ord 0 x)):=by
 have h1:=zD (P:=SS.P) gP tF (k:=kn) (off:=0) (n:=N) (c:=c) (ik:= .i64) (i:=(x:Int)) (by omega) (by omega);rw [toNat_natCast,zero_add,mul_one] at h1;refine ⟨h1,?_⟩;rw [cH CU BW hg (by rw [nT]; exact hx)];unfold sx;rw [gD,getElem?_map,getElem?_range hx]; rfl
theorem xY: ∀ {l:List Nat},l.Nodup-> ∀ {i j x:Nat},l[i]?=some x->l[j]?=some x->i=j
 | [],_,i,j,x,h,_=>by simp at h
 | y::l,hn,0,0,x,_,_=>rfl
 | y::l,hn,0,j+1,x,h,h'=>by
  obtain rfl:y=x:=by simpa using h
  exact absurd (List.mem_of_getElem? (by simpa using h')) (List.nodup_cons.1 hn).1
 | y::l,hn,i+1,0,x,h,h'=>by
  obtain rfl:y=x:=by simpa using h'
  exact absurd (List.mem_of_getElem? (by simpa using h)) (List.nodup_cons.1 hn).1
 | y::l,hn,i+1,j+1,x,h,h'=>by
  exact congrArg (· + 1) (xY (List.nodup_cons.1 hn).2 (x:=x) (by simpa using h) (by simpa using h'))
theorem de: ∀ (N:Nat){l:List Nat},l.Nodup->(∀ x∈l,x < N)->l.length<=N
 | 0,l,_,h=>by
  cases l with
  | nil=>exact le_refl _
  | cons x l=>exact absurd (h x (mem_cons_self ..)) (not_lt_zero _)
 | N+1,l,hn,h=>by
  by_cases hm:N∈l
  ·have h1:=List.length_erase_of_mem hm;have h2:=de N (hn.erase N) (fun x hx=>by
    have h3:=(hn.mem_erase_iff).1 hx;have:=h x h3.2;omega)
   have h4:0 < l.length:=List.length_pos_of_mem hm;omega
  ·exact Nat.le_succ_of_le (de N hn fun x hx=>by
    have:=h x hx;have:x≠N:=fun e=>hm (e ▸ hx);omega)
theorem FE {g:Heap}(w:Wf g){n i j:Nat}(hi:i < n)(hj:j < n)(hne:i≠j)(A B:Blk):Ok g (aB (Go.Ab.room g n) g.next [(j,B),(i,A)])/\(aB (Go.Ab.room g n) g.next [(j,B),(i,A)]).get (g.next+i)=some A/\(aB (Go.Ab.room g n) g.next [(j,B),(i,A)]).get (g.next+j)=some B:=by
 have o1:Ok g ((Go.Ab.room g n).set (g.next+i) A):=((Ok.refl w).room n).set A (Nat.le_add_right _ _) (Nat.add_lt_add_left hi _) w;refine ⟨o1.set B (Nat.le_add_right _ _) (Nat.add_lt_add_left hj _) w,?_,?_⟩
 ·show (((Go.Ab.room g n).set (g.next+i) A).set (g.next+j) B).get (g.next+i)=_;rw [Heap.get_set,if_neg (by omega),Heap.get_set,if_pos rfl]
 ·show (((Go.Ab.room g n).set (g.next+i) A).set (g.next+j) B).get (g.next+j)=_;rw [Heap.get_set,if_pos rfl]
def t8 (M:Mach)(ord:List Nat)(i:Nat):List MSt:=(ord.take i).map (qO M ord)++List.replicate (ord.length - i) zst.1
theorem HO (M:Mach)(ord:List Nat):t8 M ord 0=List.replicate ord.length zst.1:=by simp [t8]
theorem GM (M:Mach)(ord:List Nat):t8 M ord ord.length=ord.map (qO M ord):=by simp [t8]
theorem E0 {M:Mach}{ord:List Nat}{i:Nat}(hi:i < ord.length):(t8 M ord i)[i]?=some zst.1:=by
 unfold t8;rw [List.getElem?_append_right (by rw [lM,length_take]; omega),lM,length_take,min_eq_left (by omega),Nat.sub_self,getElem?_replicate,if_pos (by omega)]
theorem G6 {M:Mach}{ord:List Nat}{i s:Nat}(hs:ord[i]?=some s):(t8 M ord i).set i (qO M ord s)=t8 M ord (i+1):=by
 have hi:i < ord.length:=(List.getElem?_eq_some_iff.1 hs).1;unfold t8;have e1:((ord.take i).map (qO M ord)).length=i:=by simp; omega
 rw [List.set_append,if_neg (by omega),e1,Nat.sub_self,take_add_one,hs,map_append,append_assoc];congr 1;rw [show ord.length - i=(ord.length - (i+1))+1 by omega,List.replicate_succ,List.set_cons_zero];rfl
theorem OwnM.low {h hb g g':Heap}{v:Value}{ps:List (MSt×Value)}(m:OwnM hb g v ps)(o:Ok h hb)(kp: ∀ j B,g.get j=some B->hb.next<=j->g'.get j=some B):OwnM h g' v ps:=by
 have key: ∀ {e:TypeId}{sz:Nat}{v:Value}{rs:List (List Value)},OwnK hb g e sz v rs->OwnK h g' e sz v rs:=fun {e sz v rs} r=>by
  obtain ⟨hl,r | ⟨k,off,cs,c,h1,h2,h3,h4⟩⟩:=r
  ·exact ⟨hl,.inl r⟩
  ·exact ⟨hl,.inr ⟨k,off,cs,c,h1,le_trans o.nx h2,kp _ _ h3 h2,h4⟩⟩
 exact ⟨key m.row,fun i p hp=>key (m.arcs i p hp),m.ne,m.dis⟩
section
variable {h:Heap} {M:Mach} {a:Option Addr} {n c:Nat} {b:Option Addr} {m d:Nat} {ord:List Nat}
theorem uA {M:Mach}{x:Nat}{s:MSt}(hs:M.states[x]?=some s):M.states.getD x ⟨[],[]⟩=s:=by rw [gD,hs]; rfl
def Ac (M:Mach)(ord:List Nat)(i j:Nat)(s:MSt):List MSt:=(t8 M ord i).set i ⟨s.f,(s.arcs.take j).filterMap (dZ ord)⟩
def Q8 (hb:Heap)(M:Mach)(ord:List Nat)(k8 k22:Nat)(mz2 i:Nat)(g:Heap):Prop:=i<=ord.length/\mz2=ord.length - i/\ ∃ ps,ps.map (·.1)=t8 M ord i/\RenI hb k8 k22 ord.length (dP M ord) ps g
def RQ (hb:Heap)(M:Mach)(ord:List Nat)(k8 k22 i:Nat)(s:MSt)(mz3 j:Nat)(g:Heap):Prop:=j<=s.arcs.length/\mz3=s.arcs.length - j/\ ∃ ps,ps.map (·.1)=Ac M ord i j s/\RenI hb k8 k22 ord.length (dP M ord) ps g
theorem Bn {M:Mach}{ord:List Nat}{i j:Nat}{s:MSt}{q:MArc}(hq:s.arcs[j]?=some q)(hi:i < ord.length):Ac M ord i (j+1) s=(match dZ ord q with | none=>Ac M ord i j s | some q'=>(Ac M ord i j s).set i ⟨s.f,(s.arcs.take j).filterMap (dZ ord)++[q']⟩):=by
 unfold Ac;rw [take_add_one,hq,List.filterMap_append];show (t8 M ord i).set i ⟨s.f,_++List.filterMap (dZ ord) [q]⟩=_
 cases he:dZ ord q with
 | none=>simp [he]
 | some q'=>simp [he,List.set_set]
theorem LY {M:Mach}{ord:List Nat}{i j:Nat}{s:MSt}(hi:i < ord.length):(Ac M ord i j s)[i]?=some ⟨s.f,(s.arcs.take j).filterMap (dZ ord)⟩:=by
 unfold Ac;rw [getElem?_set,if_pos rfl,if_pos];exact (List.getElem?_eq_some_iff.1 (E0 (M:=M) hi)).1
theorem DW {ps:List (MSt×Value)}{L:List MSt}(h:ps.map (·.1)=L){i:Nat}{s:MSt}(hs:L[i]?=some s): ∃ p,ps[i]?=some p/\p.1=s:=by
 rw [<-h,getElem?_map] at hs;obtain ⟨p,h1,h2⟩:=Option.map_eq_some_iff.1 hs;exact ⟨p,h1,h2⟩
set_option linter.defProp false in
def Ea {hb h0:Heap}(w:Wf hb)(gd:Good M){k k4 k8 k22 kn:Nat}(mb0:MB h0 k M a n c)(o0:Ok h0 hb)(hn:n<=300)(nb:hb.get kn=some (.cells (sx n ord) 3 1 true)){i x:Nat}{s:MSt}(hx:ord[i]?=some x)(hs:M.states[x]?=some s)(hsl:s.arcs.length<=2000)(hol:ord.length<=300){b':Option Addr}{m' d':Nat}(ar:ArcRow hb (.slice b' m' d') s.arcs)(e:Option Addr)(en ec:Nat)(mz2:Nat)(hmz:mz2=ord.length - i)(mv:List Value)(Q:VH):=
 ue mv b m d k k4 k8 k22 (i*2) (some ⟨kn,0,none⟩) n n b' m' d' (Q8 hb M ord k8 k22) mz2 i (RQ hb M ord k8 k22 i s) Q (by
  intro mz3 j; intros; rename_i g hin;obtain ⟨f1,rfl,ps,hps,ri⟩:=hin;have hi:i < ord.length:=(List.getElem?_eq_some_iff.1 hx).1;have hnl:n=M.states.length:=mb0.len;have hml:=ar.len;refine ae (fun g1=> ?_) (fun g1=> ?_)
  ·have g1:=dT g1;obtain ⟨q,hq⟩: ∃ q,s.arcs[j]?=some q:=⟨_,gE (by omega)⟩
   obtain ⟨bb,oo,d1,d2,d3,d4,d5,d6⟩:=(ar.ok ri.ok).at_ hq;have hin:=gd.arcs s (List.mem_of_getElem? hs) q (List.mem_of_getElem? hq);obtain ⟨Y,hY⟩: ∃ Y:Nat,q.t=(Y:Int):=⟨q.t.toNat,by have:=hin.t0; omega⟩
   have hYn:Y < n:=by have:=hin.t1; omega
   have wg:=ri.ok.wf;obtain ⟨u,p1,p2,p3⟩:=oU wg q;refine ⟨_,d1,_,d2,_,xc,u,p1,_,cE _ _,_,p3.l3,?_⟩;have nbg:=p2.ext _ _ (ri.ok.ext _ _ nb);generalize u.app (g.push CY)=g72 at *;obtain ⟨n1,n2⟩:=vu (c:=n) nbg hYn;rw [hY];obtain ⟨u2,t1,t2,t3⟩:=p3.setT wg p2 (le_refl _) (cR ord 0 Y);refine ⟨_,n1,_,n2,_,cE _ _,u2,t1,_,cE _ _,_,t3.l3,?_⟩;have ri2:=ri.ext t2;generalize u2.app g72=g79 at *;have hw:wrap .i64 ((j:Int)+1)=((j+1:Nat):Int):=az (n:=s.arcs.length) (by omega) (by omega);have hrl:s.arcs.length - (j+1) < s.arcs.length - j:=by omega
   have hYt:q.t.toNat=Y:=by omega
   refine ae (fun g2=> ?_) (fun g2=> ?_)
   ·have g2: ¬ cR ord 0 Y = -1:=by simpa using g2
    have hra:dZ ord q=some ⟨q.i,q.o,q.w,cR ord 0 Y⟩:=by unfold dZ; rw [hYt,if_neg g2]
    obtain ⟨p,hp,hp1⟩:=DW hps (LY (M:=M) (j:=j) (s:=s) hi);obtain ⟨o6,k6⟩:=nM ri2.ok.wf (n:=11) (j:=6) (by omega) (.cells (aD ⟨q.i,q.o,q.w,cR ord 0 Y⟩) 39 4 true);have oR:=(Ok.refl ri2.ok.wf).room 11;have ri3:=ri2.ext o6;have hlen:p.1.arcs.length<=2000:=by rw [hp1]; exact le_trans (List.length_filterMap_le ..) (by rw [length_take]; omega)
    obtain ⟨x1,y1,z1,a1,e1,b2,n2',c2,u3,a2,u4,a3,ri4⟩:=ri3.arc w hp k6 (by omega);have ld:=((ri2.ext oR).own.at_ hp).2.1;rw [zero_add,e1] at ld;refine ⟨_,bm _ _,x1,y1,z1,ld,_,(t3.ok oR).all,_,_,_,Lo _,b2,n2',c2,u3,a2,_,bm _ _,u4,a3,?_⟩;dsimp only;rw [hw];refine bp (s.arcs.length - (j+1)) hrl ⟨by omega,rfl,_,?_,ri4⟩;rw [map_set,hps,Bn hq hi,hra,hp1]
   ·have g2:cR ord 0 Y = -1:=by simpa using g2
    have hra:dZ ord q=none:=by unfold dZ; rw [hYt,if_pos g2]
    rw [hw];exact bp (s.arcs.length - (j+1)) hrl ⟨by omega,rfl,ps,by rw [hps,Bn hq hi,hra],ri2⟩
  ·have g1:=dF g1;rw [az hi (by omega)];refine bp (ord.length - (i+1)) (by omega) ⟨by omega,rfl,ps,?_,ri⟩;rw [hps,<-G6 hx];unfold Ac qO;rw [uA hs,take_of_length_le (by omega)])
theorem E5 (w:Wf h)(gd:Good M)(hN:M.states.length<=300)(hA: ∀ s∈M.states,s.arcs.length<=2000)(r:StRow h (.slice a n c) M.states)(ro:Rd h 3 (.slice b m d) (ord.map iv))(oo:OrdOk M.states.length ord):FW SS 43 [.agg ⟨aC M a n c⟩,.slice b m d] h (JF h (dP M ord)):=by
 obtain ⟨mb0,ok0⟩:=cD w r;have hnl:n=M.states.length:=mb0.len;have hm:m=ord.length:=by have:=ro.len; rwa [lM] at this
 have hol:ord.length<=300:=by
  have:=de M.states.length oo.nd oo.lt;omega
 refine Lq (aC M a n c) b m d h _ ⟨_,ei M a n c,_,iU,_,_,_,jR _,?_⟩;have ok4:=ok0.push eG;have k4:=aq (h.push (Bm M a n c)) eG;have mb4:=mb0.ok ((Ok.refl ok0.wf).push eG);have n4:h.next<=(h.push (Bm M a n c)).next:=ok0.nx;generalize h.push (Bm M a n c)=g0 at *;generalize hK4:g0.next=K4 at *;generalize g0.push eG=g4 at *;have o8:=(Ok.refl ok4.wf).push (.cells [.int .i64 (-1)] 3 1 true);have ok8:=ok4.trans o8;have kx:=aq g4 (.cells [.int .i64 (-1)] 3 1 true);have mb8:=mb4.ok o8;have k48:=o8.ext _ _ k4;generalize g4.push (.cells [.int .i64 (-1)] 3 1 true)=g8 at *;refine ⟨_,aM _,_,_,_,mb8.l3,(y9 ok8.wf kx (n:=n) (by omega)).mono ?_⟩;rintro _ g9 ⟨kn,rfl,ir⟩;refine ⟨_,_,_,rfl,?_⟩;rw [<-Li n] at ir;have mx: ∀ {i x:Nat},ord[i]?=some x->x < n:=fun hx=>by have:=oo.lt _ (List.mem_of_getElem? hx); omega
 refine tG (aC M a n c) b m d h.next K4 (some ⟨kn,0,none⟩) n n (fun mz i g=>i<=m/\mz=m - i/\IRow g8 kn 3 (sx n (ord.take i)) g) _ (fun mz i=> ?_) m (i:=0) ⟨zero_le _,rfl,ir⟩;intros; rename_i g hin;obtain ⟨f1,rfl,ir⟩:=hin;have okg:=ok8.trans ir.ok;refine ae (fun q1=> ?_) (fun q1=> ?_)
 ·have q1:=dT q1;obtain ⟨x,hx⟩: ∃ x,ord[i]?=some x:=⟨_,gE (by omega)⟩
  obtain ⟨p,e1,e2⟩:=J0 (ro.ok okg) hx;have hxn:=mx hx;obtain ⟨n1,_⟩:=vu (c:=n) ir.row hxn;have st:=fB (t:=3) tF ir.row (i:=x) (by rw [nT]; exact hxn) (v:= .int .i64 (i:Int)) rfl rfl;have hnx:x ∉ ord.take i:=fun hmem=>by
   obtain ⟨j,hj,e⟩:=List.mem_iff_getElem.1 hmem;rw [length_take] at hj;rw [List.getElem_take] at e;have e':ord[j]?=some x:=by rw [gE (by omega),e]
   have:=xY oo.nd e' hx;omega
  have hl:(ord.take i).length=i:=by rw [length_take]; omega
  refine ⟨_,e1,_,e2,_,n1,_,st,?_⟩;rw [az (n:=m) (by omega) (by omega)];refine bp (m - (i+1)) (by omega) ⟨by omega,rfl,?_⟩;have e3:ord.take (i+1)=ord.take i++[x]:=by rw [take_add_one,hx]; rfl
  rw [e3,uP hnx,hl];exact ir.set ok8.wf x _
 ·have q1:=dF q1;obtain rfl:m=i:=by omega
  rw [take_of_length_le (by omega)] at ir;have mbg:=mb8.ok ir.ok;have oR:=(Ok.refl okg.wf).room 15;have mbR:=mbg.ok oR;have hst0:=gd.start0;have hst1:=gd.start1;obtain ⟨S,hS⟩: ∃ S:Nat,M.start=(S:Int):=⟨M.start.toNat,by omega⟩
  have hSn:S < n:=by omega
  have lS:=mbR.l1;rw [hS] at lS;obtain ⟨n1,n2⟩:=vu (c:=n) (oR.ext _ _ ir.row) hSn;have mk:=Ot m (by omega);refine ⟨_,eu _,_,mbR.l0,_,dG _,_,lS,_,n1,_,n2,_,jq _,_,mbR.l2,_,_,_,mk,_,NA _ _ _ _ _ _,_,iU,?_⟩;obtain ⟨o2,k11,k13⟩:=FE okg.wf (n:=15) (i:=11) (j:=13) (by omega) (by omega) (by omega) (.cells ((List.replicate m zst).map gG).flatten 37 2 true) eG;have k4g:=okg.ext;generalize hS2:aB (Go.Ab.room g 15) g.next [(13,eG),(11,.cells ((List.replicate m zst).map gG).flatten 37 2 true)]=S2 at *;have pa:=bO (t:=24) ej (cs0:=[.int .i64 0,.int .i64 0,aa [],.slice none 0 0]) rfl k13 (cs:=[.int .i64 M.kind,.int .i64 (cR ord 0 S),aa M.lead,.slice (some ⟨g.next+11,0,none⟩) m m]) rfl rfl;refine ⟨_,pa,?_⟩;obtain ⟨o3,k13'⟩:=cG (cs:=[.int .i64 M.kind,.int .i64 (cR ord 0 S),aa M.lead,.slice (some ⟨g.next+11,0,none⟩) m m]) okg.wf o2 k13 (by omega);have k11':((Upd.set (g.next+13) (.cells [.int .i64 M.kind,.int .i64 (cR ord 0 S),aa M.lead,.slice (some ⟨g.next+11,0,none⟩) m m] 24 0 true)).app S2).get (g.next+11)=some (.cells ((List.replicate m zst).map gG).flatten 37 2 true):=by
   show (S2.set (g.next+13) _).get (g.next+11)=_;rw [Heap.get_set,if_neg (by omega)]; exact k11
  generalize (Upd.set (g.next+13) (.cells [.int .i64 M.kind,.int .i64 (cR ord 0 S),aa M.lead,.slice (some ⟨g.next+11,0,none⟩) m m] 24 0 true)).app S2=g37 at *;have hMst:M.start.toNat=S:=by omega
  have ri:RenI g (g.next+13) (g.next+11) m (dP M ord) (List.replicate m zst) g37:=⟨OwnM.made k11' (by omega) (by omega),o3,by unfold Bm aC dP; rw [hMst]; exact k13',fun i p hp j hj=>(by
   rw [getElem?_replicate] at hp;split at hp
   ·obtain rfl:=oI hp; cases hj
   ·cases hp),by omega⟩
  subst hm;refine tO (aC M a n c) b ord.length d h.next K4 (g.next+13) (some ⟨kn,0,none⟩) n n (Q8 g M ord (g.next+13) (g.next+11)) _ (fun mz2 i=> ?_) ord.length (i:=0) ⟨zero_le _,rfl,_,by rw [HO,map_replicate],ri⟩;intros; rename_i gg hin;obtain ⟨f2,rfl,ps,hps,ri⟩:=hin;have mbG:=mbg.ok ri.ok;refine ae (fun q2=> ?_) (fun q2=> ?_)
  ·have q2:=dT q2;have hi:i < ord.length:=by omega
   obtain ⟨x,hx⟩: ∃ x,ord[i]?=some x:=⟨_,gE hi⟩
   have hxn:=mx hx;obtain ⟨s,hs⟩:=gf (M:=M) (i:=x) (by omega);obtain ⟨p,e1,e2⟩:=J0 (ro.ok (okg.trans ri.ok)) hx;obtain ⟨p0,hp0,hp1⟩:=DW hps (E0 (M:=M) hi);obtain ⟨i1,i2,i3⟩:=ri.own.at_ hp0;rw [zero_add] at i1;obtain ⟨u,s1,ri2,_⟩:=ri.setF okg.wf hp0 s.f;obtain ⟨bb,o,x',y,z,j1,j2,j3,j4,ar⟩:=mbg.row.at2 ri.ok hs;obtain ⟨bb2,o',x'2,y2,z2,l1,l2,l3,l4,ar2⟩:=mbg.row.at2 ri2.ok hs;have mbG2:=mbg.ok ri2.ok;refine ⟨_,e1,_,e2,_,aM _,_,_,_,ri.l3,_,i1,_,aM _,_,_,_,mbG.l3,_,j1,_,fY _ _,_,j3,_,fY _ _,u,s1,_,aM _,_,_,_,mbG2.l3,_,l1,_,bm _ _,_,_,_,l4,?_⟩;refine Ea (h0:=g) okg.wf gd mbg (Ok.refl okg.wf) (by omega) ir.row hx hs (hA s (List.mem_of_getElem? hs)) hol ar2 none 0 0 _ rfl (aC M a n c) _ y2 (j:=0) ⟨zero_le _,ar2.len.trans rfl,_,?_,ri2⟩;rw [map_set,hps];unfold Ac;rw [take_zero,hp1]; rfl
  ·have q2:=dF q2;obtain rfl:i=ord.length:=by omega
   rw [GM] at hps;have oG:=okg.trans ri.ok;have k4G:=ri.ok.ext _ _ (ir.ok.ext _ _ k48);have hK:K4 < g.next:=okg.wf _ _ (ir.ok.ext _ _ k48);have pa2:=bO (t:=24) ej (cs0:=[.int .i64 0,.int .i64 0,aa [],.slice none 0 0]) rfl k4G (cs:=aC (dP M ord) (some ⟨g.next+11,0,none⟩) ord.length ord.length) rfl (dK _ _ _ _);obtain ⟨o5,k5⟩:=cG (cs:=aC (dP M ord) (some ⟨g.next+11,0,none⟩) ord.length ord.length) w oG k4G (by omega);refine ⟨_,ri.all,_,pa2,nC (v:= .agg ⟨aC (dP M ord) (some ⟨g.next+11,0,none⟩) ord.length ord.length⟩) (fJ wC vV ej k5 (by simp [aC])) ?_⟩;refine ⟨_,_,_,ps,rfl,by rw [hps]; rfl,?_,o5⟩;exact ri.own.low okg (fun j B hj hne=>by
    show (gg.set K4 _).get j=_;rw [Heap.get_set,if_neg (by omega)]; exact hj)
end
end
section
theorem Nw {g:Heap}{e:Option Addr}{en ec N:Nat}{ord:List Nat}(r:Rd g 3 (.slice e en ec) (sx N ord)){x:Nat}(hx:x < N): ∃ p:Addr,ag SS.P 48 (.slice e en ec) (.int .i64 (x:Int))=some (.pointer (some p))/\ah SS.P 3 g (.pointer (some p))=some (.int .i64 (cR ord 0 x)):=by
 obtain ⟨p,h1,h2⟩:=Rd.at_ gP tF CU BW r (k:= .i64) (i:=(x:Int)) (by omega) (by rw [nT]; omega);refine ⟨p,h1,?_⟩;rw [h2,toNat_natCast];unfold sx;rw [gD,getElem?_map,getElem?_range hx]; rfl
section
variable {hb g g':Heap} {k7:Nat} {M':Mach} {a:Option Addr} {n c:Nat} {ps:List (MSt×Value)}
structure SnI (hb:Heap)(k7:Nat)(M':Mach)(a:Option Addr)(n c:Nat)(ps:List (MSt×Value))(g:Heap):Prop where
 own:OwnM hb g (.slice a n c) ps
 ok:Ok hb g
 box:g.get k7=some (Bm M' a n c)
 nv: ∀ j,aG (.slice a n c)=some j->k7 < j
 hi: ∀ (i:Nat)(p:MSt×Value),ps[i]?=some p-> ∀ j,aG p.2=some j->k7 < j
 kn:hb.next<=k7
theorem SnI.ext (r:SnI hb k7 M' a n c ps g)(o:Ok g g'):SnI hb k7 M' a n c ps g':=⟨r.own.ok o,r.ok.trans o,o.ext _ _ r.box,r.nv,r.hi,r.kn⟩
theorem SnI.l3 (r:SnI hb k7 M' a n c ps g):ah SS.P 22 g (.pointer (some ⟨k7,3,none⟩))=some (.slice a n c):=cH uU Dr r.box (by simp [aC])
theorem SnI.all (r:SnI hb k7 M' a n c ps g):ah SS.P 24 g (.pointer (some ⟨k7,0,none⟩))=some (.agg ⟨aC M' a n c⟩):=fJ wC vV ej r.box (by simp [aC])
theorem SnI.snoc (w:Wf hb)(r:SnI hb k7 M' a n c ps g){f:List UInt8}{b:Option Addr}{y z:Nat}{arcs:List MArc}(ox:OwnK hb g 39 4 (.slice b y z) (arcs.map aD))(nx: ∀ k,aG (.slice b y z)=some k->k7 < k/\aG (.slice a n c)≠some k/\ ∀ (i:Nat) (p:MSt×Value),ps[i]?=some p->aG p.2≠some k){kx:Nat}(hkx:g.get kx=some (.cells [aa f,.slice b y z] 37 2 true))(hl:ps.length<=100000):
  ∃ (a':Option Addr)(n' c':Nat)(u:Upd),ay SS.P 22 22 (.slice a n c) (.slice (some ⟨kx,0,none⟩) 1 1) g=some (.slice a' n' c',u)/\ ∃ u2:Upd,ai SS.P 22 (.pointer (some ⟨k7,3,none⟩)) (.slice a' n' c') (u.app g)=some (undef,u2)/\SnI hb k7 M' a' n' c' (ps++[(⟨f,arcs⟩,.slice b y z)]) (u2.app (u.app g)):=by
 obtain ⟨a',n',c',u,h1,h2,h3,h4,h5,h6⟩:=r.own.snoc w r.ok ox (fun k hk=>(nx k hk).2) hkx hl;have hk7:=r.ok.wf _ _ r.box;have box':=h4 _ _ r.box (fun e=>by have:=r.nv _ e; omega);have st:=fB (P:=SS.P) (t:=22) (by kernel_rfl) box' (i:=3) (by simp [aC]) (v:= .slice a' n' c') (dS ..) (by cases a' <;> rfl);have nv': ∀ j,aG (.slice a' n' c')=some j->k7 < j:=fun j e=>by
  rcases h5 j e with h | h
  ·omega
  ·exact r.nv j h
 have hi': ∀ (i:Nat)(p:MSt×Value),(ps++[((⟨f,arcs⟩:MSt),Value.slice b y z)])[i]?=some p-> ∀ j,aG p.2=some j->k7 < j:=fun i p hp j hj=>by
  rw [List.getElem?_append] at hp;split at hp
  ·exact r.hi i p hp j hj
  ·obtain rfl:=mem_singleton.1 (List.mem_of_getElem? hp);exact (nx j hj).1
 refine ⟨a',n',c',u,h1,_,st,⟨?_,h3.set _ r.kn (h3.wf _ _ box') w,?_,nv',hi',r.kn⟩⟩
 ·have keep: ∀ {v:Value}(k:Nat)(B:Blk),(∀ j,aG v=some j->k7 < j)->aG v=some k->(u.app g).get k=some B->((Upd.set k7 (.cells ((aC M' a n c).set 3 (.slice a' n' c')) 24 0 true)).app (u.app g)).get k=some B:=fun {v} k B hv hk hB=>by
   show ((u.app g).set k7 _).get k=_;rw [Heap.get_set,if_neg (fun e=>by have:=hv k hk; omega)]; exact hB
  exact ⟨h2.row.keep fun k B hk hB=>keep k B nv' hk hB,fun i p hp=>(h2.arcs i p hp).keep fun k B hk hB=>keep k B (hi' i p hp) hk hB,h2.ne,h2.dis⟩
 ·show ((u.app g).set k7 _).get k7=_;rw [Heap.get_set,if_pos rfl]; rfl
end
theorem SB.setA {hb g:Heap}(w:Wf hb)(ok:Ok hb g){k:Nat}{f:List UInt8}{x:Option Addr}{y z:Nat}(b:SB g k f x y z)(hk:hb.next<=k)(x':Option Addr)(y' z':Nat): ∃ u:Upd,ai SS.P 35 (.pointer (some ⟨k,0+1,none⟩)) (.slice x' y' z') g=some (undef,u)/\Ok hb (u.app g)/\SB (u.app g) k f x' y' z'/\ ∀ j B,g.get j=some B->j≠k->(u.app g).get j=some B:=by
 refine ⟨_,fB (by kernel_rfl) b (by simp) (dS ..) (by cases x' <;> rfl),ok.set _ hk (ok.wf _ _ b) w,?_,fun j B hj hne=> ?_⟩
 ·show (g.set k _).get k=_;rw [Heap.get_set,if_pos rfl]; rfl
 ·show (g.set k _).get j=_;rw [Heap.get_set,if_neg hne]; exact hj
theorem SB.all {g:Heap}{k:Nat}{f:List UInt8}{x:Option Addr}{y z:Nat}(b:SB g k f x y z):ah SS.P 37 g (.pointer (some ⟨k,0,none⟩))=some (.agg ⟨[aa f,.slice x y z]⟩):=fJ OC Oy wk b (by simp)
theorem Fy (ord:List Nat)(x:Nat):0<=cR ord 0 x↔ ¬ cR ord 0 x = -1:=by
 rcases m7 ord 0 x with h | h <;> omega
section
variable {h:Heap} {M:Mach} {a:Option Addr} {n c:Nat} {b:Option Addr} {m d:Nat} {e:Option Addr} {en ec:Nat} {ord:List Nat}
theorem KO (k s:Int)(l:List UInt8):aI SS.P 24 [(0,(.int .i64 k)),(1,(.int .i64 s)),(2,(aa l))]=some (.agg ⟨[.int .i64 k,.int .i64 s,aa l,.slice none 0 0]⟩):=by kernel_rfl
theorem NT (l:List UInt8):aI SS.P 37 [(0,(aa l))]=some (.agg ⟨[aa l,.slice none 0 0]⟩):=by kernel_rfl
def Rr (hb:Heap)(M:Mach)(ord:List Nat)(k7:Nat)(mz i:Nat)(g:Heap):Prop:=i<=ord.length/\mz=ord.length - i/\ ∃ a n c ps,ps.map (·.1)=(ord.take i).map (qO M ord)/\SnI hb k7 (dP M ord) a n c ps g
def RV (hI:Heap)(ord:List Nat)(s:MSt)(k10:Nat)(mz2 j:Nat)(g:Heap):Prop:=j<=s.arcs.length/\mz2=s.arcs.length - j/\Ok hI g/\ ∃ x y z,SB g k10 s.f x y z/\OwnK hI g 39 4 (.slice x y z) (((s.arcs.take j).filterMap (dZ ord)).map aD)/\aG (.slice x y z)≠some k10
set_option linter.defProp false in
def Et {hb hI:Heap}(w:Wf hb)(gd:Good M){k k6 k7 k9 k10:Nat}(hnl:n=M.states.length)(hn:n<=300)(rn:Rd hb 3 (.slice e en ec) (sx n ord)){i x:Nat}{s:MSt}(hx:ord[i]?=some x)(hs:M.states[x]?=some s)(hsl:s.arcs.length<=2000)(hol:ord.length<=300){a0:Option Addr}{n0 c0:Nat}{ps:List (MSt×Value)}(hps:ps.map (·.1)=(ord.take i).map (qO M ord))(si:SnI hb k7 (dP M ord) a0 n0 c0 ps hI){b':Option Addr}{m' d':Nat}(sb:SB hI k9 s.f b' m' d')(ar:ArcRow hb (.slice b' m' d') s.arcs)(hk10:hI.next=k10)(mz:Nat)(hmz:mz=ord.length - i)(mv:List Value)(Q:VH):=
 tY mv b m d e en ec k k6 k7 k9 k10 (Rr hb M ord k7) mz i (RV hI ord s k10) Q (by
  intro mz2 j; intros; rename_i g hin;obtain ⟨f1,rfl,okI,x0,y0,z0,s10,ox,nxk⟩:=hin;have hi:i < ord.length:=(List.getElem?_eq_some_iff.1 hx).1;have wI:=si.ok.wf;have wg:=okI.wf;have okb:=si.ok.trans okI;have hml:=ar.len;have s9:=sb.ok okI;refine ⟨_,bm _ _,_,_,_,s9.l1,ae (fun g1=> ?_) (fun g1=> ?_)⟩
  ·have g1:=dT g1;obtain ⟨q,hq⟩: ∃ q,s.arcs[j]?=some q:=⟨_,gE (by omega)⟩
   obtain ⟨bb,oo,d1,d2,d3,d4,d5,d6⟩:=(ar.ok okb).at_ hq;have hin:=gd.arcs s (List.mem_of_getElem? hs) q (List.mem_of_getElem? hq);obtain ⟨Y,hY⟩: ∃ Y:Nat,q.t=(Y:Int):=⟨q.t.toNat,by have:=hin.t0; omega⟩
   have hYn:Y < n:=by have:=hin.t1; omega
   have hYt:q.t.toNat=Y:=by omega
   obtain ⟨u,p1,p2,p3⟩:=oU wg q;have hw:wrap .i64 ((j:Int)+1)=((j+1:Nat):Int):=az (n:=s.arcs.length) (by omega) (by omega);have ht:s.arcs.take (j+1)=s.arcs.take j++[q]:=by rw [take_add_one,hq]; rfl
   refine ⟨_,bm _ _,_,_,_,s9.l1,_,d1,_,d2,_,xc,u,p1,_,cE _ _,_,p3.l3,?_⟩;have oxg:=ox.ok p2;have s10g:=s10.ok p2;have okI2:=okI.trans p2;generalize u.app (g.push CY)=g51 at *;obtain ⟨pn,n1,n2⟩:=Nw (rn.ok (si.ok.trans okI2)) hYn;rw [hY];refine ⟨_,n1,_,n2,ae (fun g2=> ?_) (fun g2=> ?_)⟩
   ·have g2:=(Fy ord Y).1 (dT g2);have hra:dZ ord q=some ⟨q.i,q.o,q.w,cR ord 0 Y⟩:=by unfold dZ; rw [hYt,if_neg g2]
    obtain ⟨u2,t1,t2,t3⟩:=p3.setT wg p2 (le_refl _) (cR ord 0 Y);have lt3:=p3.l3;rw [hY] at lt3;refine ⟨_,cE _ _,_,lt3,_,n1,_,n2,_,cE _ _,u2,t1,_,bm _ _,_,_,_,(s10.ok t2).l1,_,t3.all,_,_,_,Lo _,?_⟩;have oxg2:=ox.ok t2;have s10g2:=s10.ok t2;have okI3:=okI.trans t2;generalize u2.app g51=g62 at *;have oP:=(Ok.refl okI3.wf).push (.cells (aD ⟨q.i,q.o,q.w,cR ord 0 Y⟩) 39 4 true);have kP:=aq g62 (.cells (aD ⟨q.i,q.o,q.w,cR ord 0 Y⟩) 39 4 true);have oxP:=oxg2.ok oP;have s10P:=s10g2.ok oP;have okIP:=okI3.trans oP;generalize g62.push (.cells (aD ⟨q.i,q.o,q.w,cR ord 0 Y⟩) 39 4 true)=g71 at *;obtain ⟨b2,n2',c2,u3,a1,a2,a3,a4,a5,a6⟩:=qu wI okIP oxP kP (le_trans (List.length_filterMap_le ..) (by rw [length_take]; omega));have s10A:=a4 _ _ s10P nxk;obtain ⟨u4,v1,v2,v3,v4⟩:=SB.setA wI a3 s10A (by omega) b2 n2' c2;have hk10g:=okIP.wf _ _ s10P;have nk2:aG (.slice b2 n2' c2)≠some k10:=fun e=>by
     rcases a5 _ e with h | h
     ·omega
     ·exact nxk h
    refine ⟨b2,n2',c2,u3,a1,_,bm _ _,u4,v1,?_⟩;dsimp only;rw [hw];refine bp (s.arcs.length - (j+1)) (by omega) ⟨by omega,rfl,v2,b2,n2',c2,v3,?_,nk2⟩;rw [ht,List.filterMap_append,show List.filterMap (dZ ord) [q]=[⟨q.i,q.o,q.w,cR ord 0 Y⟩] by simp [hra]];exact a2.keep fun k' B hk' hB=>v4 _ _ hB (fun e=>nk2 (by rw [hk',e]))
   ·have g2:cR ord 0 Y = -1:=by
     have:=dF g2;have:=mt (Fy ord Y).2 this;exact Classical.not_not.1 this
    have hra:dZ ord q=none:=by unfold dZ; rw [hYt,if_pos g2]
    rw [hw];refine bp (s.arcs.length - (j+1)) (by omega) ⟨by omega,rfl,okI2,x0,y0,z0,s10g,?_,nxk⟩;rw [ht,List.filterMap_append,show List.filterMap (dZ ord) [q]=[] by simp [hra],append_nil];exact oxg
  ·have g1:=dF g1;have sg:=si.ext okI;rw [take_of_length_le (show s.arcs.length<=j by omega)] at ox;refine ⟨_,aM _,_,_,_,sg.l3,_,s10.all,_,_,_,PW _ _ _ _,?_⟩;have oP:=(Ok.refl wg).push (.cells [aa s.f,.slice x0 y0 z0] 37 2 true);have kP:=aq g (.cells [aa s.f,.slice x0 y0 z0] 37 2 true);have sP:=sg.ext oP;have oxP:=ox.ok oP;generalize g.push (.cells [aa s.f,.slice x0 y0 z0] 37 2 true)=g88 at *;have hpl:ps.length<=300:=by
    have:=congrArg List.length hps;rw [lM,lM,length_take] at this;omega
   obtain ⟨a',n',c',u,v1,u2,v2,v3⟩:=sP.snoc w (oxP.base si.ok) (f:=s.f) (fun kk hkk=>by
    have h1:=(ox.lt wg hkk).2;have h2:=si.ok.wf _ _ si.box;refine ⟨by omega,fun e=> ?_,fun i' p hp e=> ?_⟩
    ·have:=(si.own.row.lt wI e).1; omega
    ·have:=((si.own.arcs i' p hp).lt wI e).1; omega) kP (by omega)
   refine ⟨a',n',c',u,v1,_,aM _,u2,v2,?_⟩;dsimp only;rw [az hi (by omega)];refine bp (ord.length - (i+1)) (by omega) ⟨by omega,rfl,a',n',c',_,?_,v3⟩;rw [map_append,hps,take_add_one,hx,map_append];unfold qO;simp only [uA hs,List.map_cons,List.map_nil,Option.toList_some])
theorem EV (w:Wf h)(gd:Good M)(hN:M.states.length<=300)(hA: ∀ s∈M.states,s.arcs.length<=2000)(r:StRow h (.slice a n c) M.states)(ro:Rd h 3 (.slice b m d) (ord.map iv))(rn:Rd h 3 (.slice e en ec) (sx M.states.length ord))(oo:OrdOk M.states.length ord):FW SS 44 [.agg ⟨aC M a n c⟩,.slice b m d,.slice e en ec] h (JF h (dP M ord)):=by
 obtain ⟨mb0,ok0⟩:=cD w r;have hnl:n=M.states.length:=mb0.len;rw [<-hnl] at rn;have hm:m=ord.length:=by have:=ro.len; rwa [lM] at this
 have hol:ord.length<=300:=by
  have:=de M.states.length oo.nd oo.lt;omega
 refine M6 (aC M a n c) b m d e en ec h _ ⟨_,ei M a n c,_,iU,?_⟩;have ok4:=ok0.push eG;have k4:=aq (h.push (Bm M a n c)) eG;have mb4:=mb0.ok ((Ok.refl ok0.wf).push eG);have n4:h.next<=(h.push (Bm M a n c)).next:=ok0.nx;generalize h.push (Bm M a n c)=g0 at *;generalize hK4:g0.next=K4 at *;generalize g0.push eG=g4 at *;have oR:=(Ok.refl ok4.wf).room 12;have mbR:=mb4.ok oR;have hst0:=gd.start0;have hst1:=gd.start1;obtain ⟨S,hS⟩: ∃ S:Nat,M.start=(S:Int):=⟨M.start.toNat,by omega⟩
 have hSn:S < n:=by omega
 have lS:=mbR.l1;rw [hS] at lS;obtain ⟨pn,n1,n2⟩:=Nw (rn.ok (ok4.trans oR)) hSn;obtain ⟨o2,k10⟩:=nM ok4.wf (n:=12) (j:=10) (by omega) eG;refine ⟨_,eu _,_,mbR.l0,_,dG _,_,lS,_,n1,_,n2,_,jq _,_,mbR.l2,_,KO _ _ _,_,iU,?_⟩;dsimp only;generalize aB (Go.Ab.room g4 12) g4.next [(10,eG)]=S2 at *;have hMst:M.start.toNat=S:=by omega
 have pa:=bO (t:=24) ej (cs0:=[.int .i64 0,.int .i64 0,aa [],.slice none 0 0]) rfl k10 (cs:=[.int .i64 M.kind,.int .i64 (cR ord 0 S),aa M.lead,.slice none 0 0]) rfl rfl;obtain ⟨o3,k10'⟩:=cG (cs:=[.int .i64 M.kind,.int .i64 (cR ord 0 S),aa M.lead,.slice none 0 0]) ok4.wf o2 k10 (by omega);have eM:aC (dP M ord) none 0 0=[.int .i64 M.kind,.int .i64 (cR ord 0 S),aa M.lead,.slice none 0 0]:=by unfold aC dP; rw [hMst]
 refine ⟨_,pa,?_⟩;generalize (Upd.set (g4.next+10) (.cells [.int .i64 M.kind,.int .i64 (cR ord 0 S),aa M.lead,.slice none 0 0] 24 0 true)).app S2=g16 at *;rw [<-eM] at k10';have si:SnI g4 (g4.next+10) (dP M ord) none 0 0 [] g16:=⟨OwnM.nil _ _,o3,k10',fun j hj=>(by cases hj),fun i p hp=>(by simp at hp),by omega⟩
 have mx: ∀ {i x:Nat},ord[i]?=some x->x < n:=fun hx=>by have:=oo.lt _ (List.mem_of_getElem? hx); omega
 refine uc (aC M a n c) b m d e en ec h.next K4 (g4.next+10) (Rr g4 M ord (g4.next+10)) _ (fun mz i=> ?_) ord.length (i:=0) ⟨zero_le _,rfl,none,0,0,[],rfl,si⟩;intros; rename_i g hin;obtain ⟨f1,rfl,a0,n0,c0,ps,hps,si⟩:=hin;have okg:=ok4.trans si.ok;have mbg:=mb4.ok si.ok;refine ae (fun q1=> ?_) (fun q1=> ?_)
 ·have q1:=dT q1;have hi:i < ord.length:=by omega
  obtain ⟨x,hx⟩: ∃ x,ord[i]?=some x:=⟨_,gE hi⟩
  have hxn:=mx hx;obtain ⟨s,hs⟩:=gf (M:=M) (i:=x) (by omega);have oG:=(Ok.refl okg.wf).room 10;have mbG:=mbg.ok oG;obtain ⟨p,e1,e2⟩:=J0 (ro.ok (okg.trans oG)) hx;obtain ⟨bb,o,x',y,z,j1,j2,j3,j4,ar⟩:=mb4.row.at2 (si.ok.trans oG) hs;obtain ⟨o8,k8⟩:=nM okg.wf (n:=10) (j:=8) (by omega) vr;have hal:s.arcs.length<=2000:=hA s (List.mem_of_getElem? hs);refine ⟨_,aM _,_,_,_,mbG.l3,_,e1,_,e2,_,j1,_,j2,_,sD,?_⟩;have si8:=si.ext o8;dsimp only;generalize aB (Go.Ab.room g 10) g.next [(8,vr)]=S3 at *;have pb:=bO (t:=37) wk (cs0:=[aa [],.slice none 0 0]) rfl k8 (cs:=[aa s.f,.slice x' y z]) rfl (by cases x' <;> rfl);obtain ⟨o9,k9⟩:=cG (cs:=[aa s.f,.slice x' y z]) okg.wf o8 k8 (by omega);refine ⟨_,pb,?_⟩;have si9:=si.ext o9;generalize (Upd.set (g.next+8) (.cells [aa s.f,.slice x' y z] 37 0 true)).app S3=g27 at *;have sb:SB g27 (g.next+8) s.f x' y z:=k9;obtain ⟨u,p1,p2,p3⟩:=oX o9.wf s.f none 0 0;refine ⟨_,fY _ _,_,sb.l0,_,NT _,_,sD,u,p1,?_⟩;exact Et ok4.wf gd hnl (by omega) (rn.ok ok4) hx hs hal hol hps si9 sb ar rfl _ rfl (aC M a n c) _ s.arcs.length (j:=0) ⟨zero_le _,rfl,p2,none,0,0,p3,OwnK.nil _ _ _ _,fun e=>(by cases e)⟩
 ·have q1:=dF q1;obtain rfl:i=ord.length:=by omega
  rw [take_of_length_le (le_refl _)] at hps;have k4G:=si.ok.ext _ _ k4;have hK:K4 < g4.next:=ok4.wf _ _ k4;have pa2:=bO (t:=24) ej (cs0:=[.int .i64 0,.int .i64 0,aa [],.slice none 0 0]) rfl k4G (cs:=aC (dP M ord) a0 n0 c0) rfl (dK _ _ _ _);obtain ⟨o5,k5⟩:=cG (cs:=aC (dP M ord) a0 n0 c0) w okg k4G (by omega);refine ⟨_,si.all,_,pa2,nC (v:= .agg ⟨aC (dP M ord) a0 n0 c0⟩) (fJ wC vV ej k5 (by simp [aC])) ?_⟩;refine ⟨_,_,_,ps,rfl,by rw [hps]; rfl,?_,o5⟩;exact si.own.low ok4 (fun j B hj hne=>by
   show (g.set K4 _).get j=_;rw [Heap.get_set,if_neg (by omega)]; exact hj)
end
end
end Go.Proofs.YtoabjjimjldcfaaGreatDoor
end
