/- The evaluator of small memories: a part (AbFastOk3). -/
import Derived.Test.YtcngigfjdlgfbaaGreatDoorAbFastOk2
namespace Go.Ab
open Go
variable {cx : Cx} {cf : CallF} {ρ : Operand → Value} {h : Heap} {K : Value → Heap → Bool} {dst : Option Tmp} {ty : TypeId} {pos : String} {after : Array Edge} {guard : Option (Nat × Bool)}

theorem nilCheck_ref {x : Operand} : Ref cx.bad (cNilCheck x cx ⟨dst, .nilCheck x, ty, pos, after, guard⟩ ρ h K) (opRun cx.P cf ρ ⟨dst, .nilCheck x, ty, pos, after, guard⟩ h) (OutK h K) := by
  unfold cNilCheck
  refine ptrF_ref (gen_ref rfl) fun a ha => bnd_ref fun ad had => ?_
  subst had
  exact .of (run_pure (v := .pointer (some ad)) (by simp [opPure, ha])) rfl

theorem arith_ref {op : BinOp} {f : Int → Int → Int} {t u : TypeId} {x y : Operand} (hf : ∀ k a b, binOpV cx.P op t (.int k a) (.int k b) = some (.int k (k.wrap (f a b)))) :
    Ref cx.bad (bArith f x y cx ⟨dst, .binOp op t x y u, ty, pos, after, guard⟩ ρ h K) (opRun cx.P cf ρ ⟨dst, .binOp op t x y u, ty, pos, after, guard⟩ h) (OutK h K) := by
  unfold bArith
  refine intF_ref (gen_ref rfl) fun k a ha => intF_ref .bad fun k' b hb => cnd_ref (fun hk => ?_) (fun _ => .bad)
  obtain rfl := ikEq_eq hk
  rw [wrapF_eq]
  exact .of (run_pure (v := .int k (k.wrap (f a b))) (by simp only [opPure, ha, hb, hf])) rfl

theorem cmp_ref {op : BinOp} {f : Int → Int → Bool} {t u : TypeId} {x y : Operand} (hf : ∀ k a b, binOpV cx.P op t (.int k a) (.int k b) = some (.bool (f a b))) :
    Ref cx.bad (bCmp f x y cx ⟨dst, .binOp op t x y u, ty, pos, after, guard⟩ ρ h K) (opRun cx.P cf ρ ⟨dst, .binOp op t x y u, ty, pos, after, guard⟩ h) (OutK h K) := by
  unfold bCmp
  refine intF_ref (gen_ref rfl) fun k a ha => intF_ref .bad fun k' b hb => cnd_ref (fun hk => ?_) (fun _ => .bad)
  obtain rfl := ikEq_eq hk
  have hp := run_pure (cf := cf) (h := h) (P := cx.P) (ρ := ρ) (o := ⟨dst, .binOp op t x y u, ty, pos, after, guard⟩) (v := .bool (f a b)) (by simp only [opPure, ha, hb, hf])
  refine cnd_ref (fun hc => ?_) (fun hc => ?_)
  · rw [hc] at hp; exact .of hp rfl
  · rw [hc] at hp; exact .of hp rfl

theorem binOp_ref {op : BinOp} {t u : TypeId} {x y : Operand} : Ref cx.bad (cBin op t x y u cx ⟨dst, .binOp op t x y u, ty, pos, after, guard⟩ ρ h K) (opRun cx.P cf ρ ⟨dst, .binOp op t x y u, ty, pos, after, guard⟩ h) (OutK h K) := by
  cases op with
  | add => exact arith_ref fun k a b => by simp [binOpV, iAdd]
  | sub => exact arith_ref fun k a b => by simp [binOpV, iSub]
  | mul => exact arith_ref fun k a b => by simp [binOpV, iMul]
  | eql => exact cmp_ref fun k a b => by simp [binOpV, intCmp, intEq_eq]
  | neq => exact cmp_ref fun k a b => by simp only [binOpV, intCmp, iNe, intEq_eq, if_true, Option.map_some]; simp [bne]
  | lss => exact cmp_ref fun k a b => by simp [binOpV, intCmp, intLt_eq]
  | leq => exact cmp_ref fun k a b => by simp only [binOpV, intCmp, iLe, intLt_eq, if_true, Option.map_some]; rw [← decide_not]; simp [Int.not_lt]
  | gtr => exact cmp_ref fun k a b => by simp [binOpV, intCmp, iGt, intLt_eq]
  | geq => exact cmp_ref fun k a b => by simp only [binOpV, intCmp, iGe, intLt_eq, if_true, Option.map_some]; rw [← decide_not]; simp [Int.not_lt]
  | _ => exact gen_ref (o := ⟨dst, _, ty, pos, after, guard⟩) rfl

theorem unOp_ref {op : UnOp} {t : TypeId} {x : Operand} : Ref cx.bad (cUn op t x cx ⟨dst, .unOp op t x, ty, pos, after, guard⟩ ρ h K) (opRun cx.P cf ρ ⟨dst, .unOp op t x, ty, pos, after, guard⟩ h) (OutK h K) := by
  cases op with
  | not =>
    show Ref cx.bad (uNot x cx ⟨dst, .unOp .not t x, ty, pos, after, guard⟩ ρ h K) _ _
    unfold uNot
    refine boolF_ref fun b hb => ?_
    have hp := run_pure (cf := cf) (h := h) (P := cx.P) (ρ := ρ) (o := ⟨dst, .unOp .not t x, ty, pos, after, guard⟩) (v := .bool !b) (by simp only [opPure, hb, unOpV])
    refine cnd_ref (fun hc => ?_) (fun hc => ?_)
    · rw [hc] at hp; exact .of hp rfl
    · rw [hc] at hp; exact .of hp rfl
  | neg => rw [show cUn .neg t x = gen from rfl]; exact gen_ref rfl
  | xor => rw [show cUn .xor t x = gen from rfl]; exact gen_ref rfl
  | plus => rw [show cUn .plus t x = gen from rfl]; exact gen_ref rfl

theorem convert_ref {s d : TypeId} {x : Operand} : Ref cx.bad (cConvert s d x cx ⟨dst, .convert s d x, ty, pos, after, guard⟩ ρ h K) (opRun cx.P cf ρ ⟨dst, .convert s d x, ty, pos, after, guard⟩ h) (OutK h K) := by
  unfold cConvert
  cases hk : kOf cx.P s d with
  | none => exact gen_ref rfl
  | some k =>
    refine intF_ref .bad fun k' n hn => ?_
    rw [wrapF_eq]
    refine .of (run_pure (v := .int k (k.wrap n)) ?_) rfl
    unfold kOf at hk
    split at hk
    · next u k2 hs hd =>
      obtain rfl := Option.some.inj hk
      simp only [opPure, convertV, hs, hd, hn]
    · cases hk

theorem add_plain (b i n : Nat) : Addr.add ⟨b, i, none⟩ n = ⟨b, i + n, none⟩ := by
  unfold Addr.add
  split
  · next hn => subst hn; rfl
  · rfl

theorem fieldAddr_ref {s : TypeId} {x : Operand} {f : Nat} : Ref cx.bad (cFieldAddr s x f cx ⟨dst, .fieldAddr s x f, ty, pos, after, guard⟩ ρ h K) (opRun cx.P cf ρ ⟨dst, .fieldAddr s x f, ty, pos, after, guard⟩ h) (OutK h K) := by
  unfold cFieldAddr
  refine bnd_ref fun off hoff => ptrF_ref .bad fun a ha => addrF_ref fun b i hbi => ?_
  rw [fNat_eq]
  refine .of (run_pure (v := .pointer (some ⟨b, i + off, none⟩)) ?_) rfl
  subst hbi
  unfold foff at hoff
  split at hoff
  · next fields hu =>
    split at hoff
    · next fd hfd =>
      split at hoff
      · next hsz =>
        obtain rfl := Option.some.inj hoff
        simp only [opPure, hu, ha, hfd]
        rw [if_pos hsz, add_plain]
      · cases hoff
    · cases hoff
  · cases hoff

theorem field_ref {s : TypeId} {x : Operand} {f : Nat} : Ref cx.bad (cField s x f cx ⟨dst, .field s x f, ty, pos, after, guard⟩ ρ h K) (opRun cx.P cf ρ ⟨dst, .field s x f, ty, pos, after, guard⟩ h) (OutK h K) := by
  unfold cField
  cases hoff : fplain cx.P s f with
  | none => exact gen_ref rfl
  | some off =>
    refine aggF_ref fun cs hcs => bnd_ref fun v hv => ?_
    rw [fVal_eq]
    refine .of (run_pure (v := v) ?_) rfl
    rw [nth_eq] at hv
    unfold fplain at hoff
    split at hoff
    · next fields hu =>
      split at hoff
      · next fd hfd =>
        split at hoff
        · next hp =>
          obtain rfl := Option.some.inj hoff
          unfold plainT at hp
          simp only [Bool.and_eq_true, Bool.not_eq_true'] at hp
          obtain ⟨hp1, hp2⟩ := hp
          cases hu2 : cx.P.underlying fd.type with
          | none => rw [hu2] at hp1; cases hp1
          | some u =>
            simp only [opPure, hu, hcs, hfd, partOf, hu2, hp2, Bool.false_eq_true, if_false]
            simpa using hv
        · cases hoff
      · cases hoff
    · cases hoff

theorem indexAddr_ref {t : TypeId} {x i : Operand} : Ref cx.bad (cIndexAddr t x i cx ⟨dst, .indexAddr t x i, ty, pos, after, guard⟩ ρ h K) (opRun cx.P cf ρ ⟨dst, .indexAddr t x i, ty, pos, after, guard⟩ h) (OutK h K) := by
  unfold cIndexAddr
  refine bnd_ref fun inf hinf => ?_
  obtain ⟨len, n⟩ := inf
  refine intF_ref .bad fun k j hj => natF_ref fun m hm => ?_
  subst hm
  unfold iInfo at hinf
  split at hinf
  · next ln e hu =>
    obtain ⟨n', hn, he⟩ := Option.map_eq_some_iff.1 hinf
    simp only [Prod.mk.injEq] at he
    obtain ⟨rfl, rfl⟩ := he
    refine ptrF_ref .bad fun a ha => ?_
    unfold elemAt
    refine cnd_ref (fun hlt => addrF_ref fun b o hbo => ?_) (fun _ => .bad)
    rw [fNat_eq]
    refine .of (run_pure (v := .pointer (some ⟨b, o + m * n', none⟩)) ?_) rfl
    subst hbo
    have hlt : m < ln := by simpa [Nat.blt_eq] using hlt
    simp only [opPure, hu, ha, hj, hn]
    rw [if_pos ⟨by omega, by omega⟩, add_plain]; rfl
  · next e hu =>
    obtain ⟨n', hn, he⟩ := Option.map_eq_some_iff.1 hinf
    simp only [Prod.mk.injEq] at he
    obtain ⟨rfl, rfl⟩ := he
    refine sliceF_ref fun a l c ha => ?_
    unfold elemAt
    refine cnd_ref (fun hlt => addrF_ref fun b o hbo => ?_) (fun _ => .bad)
    rw [fNat_eq]
    refine .of (run_pure (v := .pointer (some ⟨b, o + m * n', none⟩)) ?_) rfl
    subst hbo
    have hlt : m < l := by simpa [Nat.blt_eq] using hlt
    simp only [opPure, hu, ha, hj, hn]
    rw [if_pos ⟨by omega, by omega⟩, add_plain]; rfl
  · cases hinf

theorem index_ref {t : TypeId} {x i : Operand} : Ref cx.bad (cIndex t x i cx ⟨dst, .index t x i, ty, pos, after, guard⟩ ρ h K) (opRun cx.P cf ρ ⟨dst, .index t x i, ty, pos, after, guard⟩ h) (OutK h K) := by
  unfold cIndex
  refine cnd_ref (fun hs => stringF_ref fun s hsx => intF_ref .bad fun k j hj => natF_ref fun m hm => bnd_ref fun b hb => ?_) (fun _ => gen_ref rfl)
  rw [fNat_eq]
  subst hm
  rw [nth_eq] at hb
  refine .of (run_pure (v := .int .u8 b.toNat) ?_) rfl
  unfold isStr at hs
  split at hs
  · next hu =>
    simp only [opPure, hu, hsx, hj]
    rw [if_pos (by omega)]
    simp only [Int.toNat_natCast, hb]
  · cases hs

theorem extract_ref {x : Operand} {i : Nat} : Ref cx.bad (cExtract x i cx ⟨dst, .extract x i, ty, pos, after, guard⟩ ρ h K) (opRun cx.P cf ρ ⟨dst, .extract x i, ty, pos, after, guard⟩ h) (OutK h K) := by
  unfold cExtract
  refine tupleF_ref fun vs hvs => bnd_ref fun v hv => ?_
  rw [fVal_eq]
  rw [nth_eq] at hv
  exact .of (run_pure (v := v) (by simp only [opPure, hvs]; simpa using hv)) rfl

theorem fArgs_eq : ∀ (l : List Operand) (K : List Value → Bool), fArgs ρ l K = K (l.map ρ)
  | [], _ => rfl
  | x :: l, K => by
    show fVal (ρ x) (fun v => fArgs ρ l fun r => K (v :: r)) = _
    rw [fVal_eq, fArgs_eq l]; rfl

theorem emptyA_eq {a : Array Value} (h : emptyA a = true) : a.size = 0 := by
  unfold emptyA at h
  rw [← Array.length_toList]
  generalize a.toList = l at h
  cases l with
  | nil => rfl
  | cons x l => cases h

theorem call_ref (hcf : CfRef cx cf) {c : Call} : Ref cx.bad (cCall c cx ⟨dst, .call c, ty, pos, after, guard⟩ ρ h K) (opRun cx.P cf ρ ⟨dst, .call c, ty, pos, after, guard⟩ h) (OutK h K) := by
  obtain ⟨callee, args, ats⟩ := c
  cases callee with
  | value f =>
    show Ref cx.bad (ccValue f args ats cx ⟨dst, .call ⟨.value f, args, ats⟩, ty, pos, after, guard⟩ ρ h K) _ _
    unfold ccValue
    refine funcF_ref fun fn first captured hf => ?_
    cases fn with
    | func g =>
      show Ref cx.bad (cnd (Nat.blt g YB) (fArgs ρ args.toList fun vs => fSpine (first.toList ++ vs ++ captured.toList) fun vs => cx.cf g vs h K) cx.bad) _ _
      refine cnd_ref (fun hg => ?_) (fun _ => .bad)
      have hg : g < YB := by simpa [Nat.blt_eq] using hg
      rw [fArgs_eq, fSpine_eq]
      rcases hcf g (first.toList ++ args.toList.map ρ ++ captured.toList) h K with hb | ⟨r, h1, h2⟩
      · rw [hb]; exact .bad
      · refine .of (r := (r.1, .all r.2)) ?_ h2
        show opEff cx.P cf ρ ⟨dst, .call ⟨.value f, args, ats⟩, ty, pos, after, guard⟩ h = _
        simp only [opEff, applyV, hf, h1, Option.map_some, if_pos hg]
    | yield k =>
      show Ref cx.bad (cnd (emptyA first) (cnd (emptyA captured) (fArgs ρ args.toList fun vs => fNat (YB + k) fun id => cx.cf id vs h K) cx.bad) cx.bad) _ _
      refine cnd_ref (fun h1 => cnd_ref (fun h2 => ?_) (fun _ => .bad)) (fun _ => .bad)
      rw [fArgs_eq, fNat_eq]
      rcases hcf (YB + k) (args.toList.map ρ) h K with hb | ⟨r, h3, h4⟩
      · rw [hb]; exact .bad
      · refine .of (r := (r.1, .all r.2)) ?_ h4
        show opEff cx.P cf ρ ⟨dst, .call ⟨.value f, args, ats⟩, ty, pos, after, guard⟩ h = _
        simp only [opEff, applyV, hf, h3, Option.map_some, if_pos (show first.size = 0 ∧ captured.size = 0 from ⟨emptyA_eq h1, emptyA_eq h2⟩)]
    | method _ => exact .bad
    | methodOf _ _ => exact .bad
    | via _ _ _ _ => exact .bad
  | invoke r m => exact .bad
  | builtin b =>
    by_cases hb1 : b = .append
    · subst hb1
      show Ref cx.bad (cbAppend args ats cx ⟨dst, .call ⟨.builtin .append, args, ats⟩, ty, pos, after, guard⟩ ρ h K) _ _
      unfold cbAppend
      refine outF_ref fun r hr => ?_
      show opEff cx.P cf ρ ⟨dst, .call ⟨.builtin .append, args, ats⟩, ty, pos, after, guard⟩ h = _
      exact hr
    by_cases hb2 : b = .len
    · subst hb2
      show Ref cx.bad (cbLen args ats cx ⟨dst, .call ⟨.builtin .len, args, ats⟩, ty, pos, after, guard⟩ ρ h K) _ _
      unfold cbLen
      cases hl : lenKind cx.P args ats with
      | none => exact gen_ref rfl
      | some x =>
        refine sliceF_ref fun a n c hx => ?_
        refine .of (r := (.int .i64 n, .no)) ?_ rfl
        unfold lenKind at hl
        split at hl
        · next y t hy ht =>
          split at hl
          · next hs =>
            obtain rfl := Option.some.inj hl
            unfold isSlc at hs
            split at hs
            · next e hu =>
              show (match opRead cx.P ρ ⟨dst, .call ⟨.builtin .len, args, ats⟩, ty, pos, after, guard⟩ h with | some v => some (v, Upd.no) | none => _) = _
              simp only [opRead, hy, ht, hu, hx]
            · cases hs
          · cases hl
        · cases hl
    have hg : cCall ⟨.builtin b, args, ats⟩ = gen := by
      cases b <;> first | rfl | exact absurd rfl hb1 | exact absurd rfl hb2
    rw [hg]
    exact gen_ref rfl

theorem opF_ref (hcf : CfRef cx cf) (o : Oper) : Ref cx.bad (opF o.op cx o ρ h K) (opRun cx.P cf ρ o h) (OutK h K) := by
  obtain ⟨dst, op, ty, pos, after, guard⟩ := o
  cases op with
  | move x => exact move_ref
  | assign x => exact assign_ref
  | pick c a b => exact pick_ref
  | alloc t => exact alloc_ref
  | box t x => exact box_ref
  | load t a => exact load_ref
  | store t a x => exact store_ref
  | nilCheck x => exact nilCheck_ref
  | binOp op t x y u => exact binOp_ref
  | unOp op t x => exact unOp_ref
  | convert s d x => exact convert_ref
  | fieldAddr s x f => exact fieldAddr_ref
  | field s x f => exact field_ref
  | indexAddr t x i => exact indexAddr_ref
  | index t x i => exact index_ref
  | extract x i => exact extract_ref
  | call c => exact call_ref hcf
  | go _ => exact .bad
  | defer _ => exact .bad
  | panic _ => exact .bad
  | send _ _ => exact .bad
  | recv _ _ _ => exact .bad
  | select _ _ => exact .bad
  | _ => exact gen_ref (o := ⟨dst, _, ty, pos, after, guard⟩) rfl
end Go.Ab
