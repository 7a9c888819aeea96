/- The evaluator of small memories: a part (AbPure2). -/
import Derived.Test.YtcngigfjdlgfbaaGreatDoorAbPure
namespace Go.Ab
open Go
variable {β : Inj} {P : Program}

/-- Numbered parts side by side. -/
def PRel (β : Inj) (l l' : List (Nat × Value)) : Prop := l.map (·.1) = l'.map (·.1) ∧ LRel β (l.map (·.2)) (l'.map (·.2))
theorem PRel.inv_cons {p : Nat × Value} {l l' : List (Nat × Value)} (h : PRel β (p :: l) l') : ∃ v' r, l' = (p.1, v') :: r ∧ VRel β p.2 v' ∧ PRel β l r := by
  cases l' with
  | nil => have := h.1; simp at this
  | cons q r =>
    obtain ⟨h1, h2⟩ := h
    simp only [List.map_cons, List.cons.injEq] at h1 h2
    exact ⟨q.2, r, by rw [h1.1], h2.head, h1.2, h2.tail⟩
theorem PRel.inv_nil {l' : List (Nat × Value)} (h : PRel β [] l') : l' = [] := by
  have := h.1; simp at this; exact this
theorem PRel.map {α : Type} (l : List α) (n : α → Nat) {f f' : α → Value} (h : ∀ x ∈ l, VRel β (f x) (f' x)) : PRel β (l.map fun x => (n x, f x)) (l.map fun x => (n x, f' x)) :=
  ⟨by simp [List.map_map, Function.comp_def], by simpa [List.map_map, Function.comp_def] using LRel.map l h⟩

theorem noJunk_ne {v : Value} (h : noJunk v = true) : v ≠ Ab.junk := by rintro rfl; cases h

theorem setAll_rel (off : Nat) : ∀ (l l' : List Value) (j : Nat) (cs cs' : Array Value), LRel β l l' → ARel β cs cs' →
    ARel β ((l.zipIdx j).foldl (fun cs (c, j) => cs.setIfInBounds (off + j) c) cs) ((l'.zipIdx j).foldl (fun cs (c, j) => cs.setIfInBounds (off + j) c) cs')
  | [], l', j, cs, cs', h, hc => by rw [h.inv_nil]; exact hc
  | v :: l, l', j, cs, cs', h, hc => by
    obtain ⟨v', r, rfl, hv, hr⟩ := h.inv_cons
    simp only [List.zipIdx_cons, List.foldl_cons]
    refine setAll_rel off l r (j + 1) _ _ hr ⟨by simp [hc.1], fun i a a' h1 h2 => ?_⟩
    rw [Array.getElem?_setIfInBounds] at h1 h2
    split at h1
    · next he =>
      subst he
      simp only [if_true] at h2
      split at h1
      · simp only [Option.some.injEq] at h1
        subst h1
        split at h2
        · simp only [Option.some.injEq] at h2; subst h2; exact hv
        · cases h2
      · cases h1
    · next he =>
      rw [if_neg he] at h2
      exact hc.2 i a a' h1 h2

theorem fill_rel (place : Nat → Option (Nat × Nat)) : ∀ (l l' : List (Nat × Value)) (cs cs' r : Array Value), PRel β l l' → (∀ p ∈ l, noJunk p.2 = true) → ARel β cs cs' → Instr.fill place cs l = some r →
    ∃ r', Instr.fill place cs' l' = some r' ∧ ARel β r r'
  | [], l', cs, cs', r, h, _, hc, hf => by
    rw [h.inv_nil]
    simp only [Instr.fill] at hf ⊢
    obtain rfl := Option.some.inj hf
    exact ⟨cs', rfl, hc⟩
  | p :: l, l', cs, cs', r, h, hj, hc, hf => by
    obtain ⟨v', t, rfl, hv, ht⟩ := h.inv_cons
    obtain ⟨i, v⟩ := p
    have hcells := hv.cells (noJunk_ne (hj _ List.mem_cons_self))
    simp only [Instr.fill] at hf ⊢
    cases hp : place i with
    | none => simp [hp] at hf
    | some q =>
      obtain ⟨off, size⟩ := q
      simp only [hp] at hf ⊢
      dsimp only at hv hcells
      rw [← hcells.1, ← hc.1]
      split at hf
      · cases hf
      · next hs =>
        rw [if_neg hs]
        refine fill_rel place l t _ _ r ht (fun p hp => hj p (List.mem_cons_of_mem _ hp)) ?_ hf
        have := setAll_rel (β := β) off v.cells.toList v'.cells.toList 0 cs cs' (ARel.toList.1 hcells) hc
        rw [← Array.foldl_toList, ← Array.foldl_toList]
        simpa [Array.toList_zipIdx] using this

theorem ARel.of_plain_cells {z : Value} (h : plain z = true) : ARel β z.cells z.cells := by
  have hz : VRel β z z := .of_plain h
  by_cases hj : z = Ab.junk
  · subst hj; cases h
  · exact hz.cells hj

theorem build_sim {t : TypeId} {parts parts' : List (Nat × Value)} {v : Value} (h : buildV P t parts = some v) (hp : PRel β parts parts') (w : World) :
    ∃ v', (Instr.build t parts'.toArray).run P w = .ok v' w ∧ VRel β v v' := by
  unfold buildV at h
  split at h
  · next z hz =>
    obtain ⟨hpl, i, hi, hzi⟩ := zeroOf_some hz
    split at h
    · next hj =>
      obtain ⟨cs, hb, rfl⟩ := Option.map_eq_some_iff.1 h
      have hj' : ∀ p ∈ parts, noJunk p.2 = true := List.all_eq_true.1 hj
      have hcs := ARel.of_plain_cells (β := β) hpl
      have key : ∃ cs', P.built t parts' = some cs' ∧ ARel β cs cs' := by
        unfold Program.built at hb ⊢
        simp only [hi] at hb ⊢
        cases hu : P.underlying t with
        | none => simp [hu] at hb
        | some d =>
          cases d <;> simp only [hu] at hb ⊢ <;> try (cases hb; done)
          · next n e =>
            split at hb
            · next z' ie he1 he2 =>
              obtain rfl : z = z' := Option.some.inj (hzi.symm.trans he1)
              exact fill_rel _ _ _ _ _ _ hp hj' hcs hb
            · cases hb
          · next fs =>
            split at hb
            · next z' pl he1 he2 =>
              obtain rfl : z = z' := Option.some.inj (hzi.symm.trans he1)
              exact fill_rel _ _ _ _ _ _ hp hj' hcs hb
            · cases hb
      obtain ⟨cs', hb', hr⟩ := key
      exact ⟨.agg cs', run_build w t parts'.toArray cs' hb', .agg hr.1 hr.2⟩
    · cases h
  · cases h

theorem part_sim {t : TypeId} {cs cs' : Array Value} {off : Nat} {v : Value} (h : partOf P t cs off = some v) (hc : ARel β cs cs') (w : World) :
    ∃ v', (part t cs' off).run P w = .ok v' w ∧ VRel β v v' := by
  unfold partOf at h
  cases hu : P.underlying t with
  | none => simp [hu] at h
  | some d =>
  simp only [hu] at h
  simp only [part, Sem.run_bind, run_isAgg hu, Result.andThen_ok, Sem.run_ite]
  split at h
  · next ha =>
    obtain ⟨n, hn, rfl⟩ := Option.map_eq_some_iff.1 h
    rw [if_pos ha]
    simp only [run_size hn, Result.andThen_ok, Sem.run_pure]
    refine ⟨_, rfl, .agg (by simp [hc.1]) fun i v v' h1 h2 => ?_⟩
    simp only [Array.getElem?_extract] at h1 h2
    rw [hc.1] at h1
    split at h1
    · next hi =>
      rw [if_pos hi] at h2
      exact hc.2 _ v v' h1 h2
    · cases h1
  · next ha =>
    rw [if_neg ha]
    obtain ⟨v', hv', hr⟩ := hc.get h
    exact ⟨v', by simp [hv'], hr⟩


theorem convert_sim {src dst : TypeId} {x x' v : Value} (h : convertV P src dst x = some v) (hx : VRel β x x') (w : World) : (convert src dst x').run P w = .ok v w ∧ VRel β v v := by
  unfold convertV at h
  split at h
  · next d1 k k' n h1 h2 =>
    cases hx.inv_int
    obtain rfl := Option.some.inj h
    refine ⟨?_, .int _ _⟩
    simp only [convert, Sem.run_bind, run_und h1, run_und h2, Result.andThen_ok]
    cases d1 <;> rfl
  · next d1 s h1 h2 =>
    cases hx.inv_string
    obtain rfl := Option.some.inj h
    refine ⟨?_, .string _⟩
    simp only [convert, Sem.run_bind, run_und h1, run_und h2, Result.andThen_ok]
    cases d1 <;> rfl
  · next e h1 h2 =>
    cases hx
    obtain rfl := Option.some.inj h
    refine ⟨?_, .nilPtr⟩
    simp only [convert, Sem.run_bind, run_und h1, run_und h2, Result.andThen_ok, Conv.unsafePointer]
    rfl
  · next e h1 h2 =>
    cases hx
    obtain rfl := Option.some.inj h
    refine ⟨?_, .nilPtr⟩
    simp only [convert, Sem.run_bind, run_und h1, run_und h2, Result.andThen_ok, Conv.unsafePointer]
    rfl
  · cases h

theorem max_sim (mx : Bool) : ∀ (l l' : List Value) (x x' v : Value), VRel β x x' → LRel β l l' → maxV mx (x :: l) = some v → (∀ w : World, ((l'.foldlM (if mx then Builtin.max2 else Builtin.min2) x' : Sem Value)).run P w = .ok v w) ∧ VRel β v v ∨ (l = [] ∧ v = x)
  | [], l', x, x', v, hx, hl, h => by
    simp only [maxV, List.foldlM_nil, Option.pure_def, Option.some.injEq] at h
    exact .inr ⟨rfl, h.symm⟩
  | y :: l, l', x, x', v, hx, hl, h => by
    left
    obtain ⟨y', r, rfl, hy, hr⟩ := hl.inv_cons
    simp only [maxV, List.foldlM_cons, Option.bind_eq_bind] at h
    split at h
    · next k a k' b =>
      cases hx.inv_int; cases hy.inv_int
      split at h
      · next hk =>
        subst hk
        simp only [Option.bind_some] at h
        have ih := max_sim mx l r (.int k (if mx then if b > a then b else a else if b < a then b else a)) _ v (.int _ _) hr (by simpa [maxV] using h)
        refine ⟨fun w => ?_, ?_⟩
        · rw [List.foldlM_cons, Sem.run_bind]
          have h1 : ((if mx then Builtin.max2 else Builtin.min2) (.int k a) (.int k b)).run P w = .ok (.int k (if mx then if b > a then b else a else if b < a then b else a)) w := by
            cases mx <;> rfl
          rw [h1, Result.andThen_ok]
          rcases ih with ⟨ih, _⟩ | ⟨rfl, rfl⟩
          · exact ih w
          · rw [hr.inv_nil]; rfl
        · rcases ih with ⟨_, ih⟩ | ⟨rfl, rfl⟩
          · exact ih
          · exact .int _ _
      · simp at h
    · simp at h

theorem und_some {t : TypeId} (h : (P.underlying t).isSome = true) : ∃ d, P.underlying t = some d := Option.isSome_iff_exists.1 h

theorem run_v {α : Type} {s : Sem α} {f : α → Next} {w w' : World} {v : α} (h : s.run P w = .ok v w') : (do pure (f (← s)) : Sem Next).run P w = .ok (f v) w' := by
  simp [h]

theorem addr_add (b i n : Nat) : (⟨b, i, none⟩ : Addr).add n = ⟨b, i + n, none⟩ := by
  unfold Addr.add
  split
  · next h => subst h; rfl
  · rfl

theorem tuple2 {a b a' b' : Value} (h : VRel β a a') (h' : VRel β b b') : VRel β (.tuple #[a, b]) (.tuple #[a', b']) :=
  .tuple rfl fun i v v' h1 h2 => by
    match i, h1, h2 with
    | 0, h1, h2 => simp at h1 h2; subst h1; subst h2; exact h
    | 1, h1, h2 => simp at h1 h2; subst h1; subst h2; exact h'
    | i + 2, h1, h2 => simp at h1

set_option maxHeartbeats 4000000 in
theorem opPure_sim {ρ ρ' : Operand → Value} (hρ : ∀ x, VRel β (ρ x) (ρ' x)) {o : Oper} {v : Value} (h : opPure P ρ o = some v) (w : World) :
    ∃ v', (execOp ρ' o).run P w = .ok (.value v') w ∧ VRel β v v' := by
  unfold opPure at h
  unfold execOp
  split at h
  · next x ho => obtain rfl := Option.some.inj h; simp only [ho]; exact ⟨_, rfl, hρ _⟩
  · next x ho => obtain rfl := Option.some.inj h; simp only [ho]; exact ⟨_, rfl, hρ _⟩
  · next c a b ho =>
    simp only [ho]
    split at h
    · next t ht =>
      have hc := hρ c
      rw [ht] at hc
      obtain rfl := Option.some.inj h
      refine ⟨if t then ρ' a else ρ' b, ?_, ?_⟩
      · simp [hc.inv_bool, asBool]
      · cases t
        · exact hρ b
        · exact hρ a
    · cases h
  · next t parts ho =>
    simp only [ho]
    obtain ⟨v', hr, hv⟩ := build_sim (parts' := parts.toList.map fun p => (p.1, ρ' p.2)) h (PRel.map parts.toList (·.1) fun p _ => hρ p.2) w
    refine ⟨v', ?_, hv⟩
    have he : (parts.toList.map fun p => (p.1, ρ' p.2)).toArray = parts.map fun (i, x) => (i, ρ' x) := by
      apply Array.ext'; simp
    rw [he] at hr
    exact run_v hr
  · next x ho =>
    simp only [ho]
    have hx := hρ x
    split at h
    · cases h
    · cases h
    · cases h
    · cases h
    · cases h
    · next v0 h1 h2 h3 h4 h5 =>
      obtain rfl := Option.some.inj h
      refine ⟨ρ' x, ?_, hx⟩
      revert hx h1 h2 h3 h4 h5
      generalize ρ x = a
      generalize ρ' x = b
      intro hx h1 h2 h3 h4 h5
      cases hx with
      | junk v => exact absurd rfl (h5 _)
      | nilPtr => exact absurd rfl h1
      | nilIface => exact absurd rfl h2
      | nilFunc => exact absurd rfl h3
      | @func fn a a' c c' ha hc ra rc => cases fn <;> first | rfl | exact absurd rfl (h4 _ _ _)
      | _ => rfl
  · next op t x y yt ho =>
    simp only [ho]
    obtain ⟨hr, hv⟩ := binOp_sim (xo := x) (yo := y) h (hρ x) (hρ y) w
    exact ⟨v, run_v hr, hv⟩
  · next op t x ho =>
    simp only [ho]
    obtain ⟨hr, hv⟩ := unOp_sim h (hρ x) w
    exact ⟨v, run_v hr, hv⟩
  · next s d x ho =>
    simp only [ho]
    obtain ⟨hr, hv⟩ := convert_sim h (hρ x) w
    exact ⟨v, run_v hr, hv⟩
  · next t x ho =>
    simp only [ho]
    split at h
    · cases h
    · cases h
    · next d hn1 hu =>
      obtain rfl := Option.some.inj h
      refine ⟨.iface t (ρ' x), run_v ?_, .iface t (hρ x)⟩
      simp only [Instr.makeInterface, Sem.run_bind, run_und hu, Result.andThen_ok]
      cases d <;> first | rfl | exact absurd rfl (hn1 _)
  · next fn first captured ho =>
    simp only [ho]
    split at h
    · cases h
    · next hfn =>
      obtain rfl := Option.some.inj h
      refine ⟨.func fn (first.map ρ') (captured.map ρ'), rfl, .func (by cases fn <;> first | rfl | exact absurd rfl (hfn _)) (by simp) (by simp) ?_ ?_⟩
      · intro i a a' h1 h2
        simp only [Array.getElem?_map, Option.map_eq_some_iff] at h1 h2
        obtain ⟨p, hp, rfl⟩ := h1
        obtain ⟨q, hq, rfl⟩ := h2
        rw [hp] at hq; obtain rfl := Option.some.inj hq
        exact hρ p
      · intro i a a' h1 h2
        simp only [Array.getElem?_map, Option.map_eq_some_iff] at h1 h2
        obtain ⟨p, hp, rfl⟩ := h1
        obtain ⟨q, hq, rfl⟩ := h2
        rw [hp] at hq; obtain rfl := Option.some.inj hq
        exact hρ p
  · next s x f ho =>
    simp only [ho]
    have hx := hρ x
    split at h
    · next fields a hu ha =>
      rw [ha] at hx
      obtain ⟨sl, h1, hm, hs, he⟩ := hx.inv_pointer
      split at h
      · next fd hf =>
        split at h
        · next hn =>
          obtain rfl := Option.some.inj h
          cases hsz : sizeOf? P fd.type with
          | none => simp [hsz] at hn
          | some n =>
            have h0 : n ≠ 0 := by simpa [hsz] using hn
            refine ⟨.pointer (some ((⟨sl.b, sl.s + a.off, none⟩ : Addr).add fd.offset)), run_v ?_, ?_⟩
            · simp only [Instr.fieldAt, Sem.run_bind, run_und hu, Result.andThen_ok, hf, he, Instr.sureAddr, Sem.run_pure, fieldPlace, run_size hsz, Sem.run_ite]
              rw [if_neg h0]; rfl
            · obtain ⟨ab, ao, asp⟩ := a
              simp only at hs h1; subst hs
              rw [addr_add, addr_add, Nat.add_assoc]
              exact .ptr h1 hm
        · cases h
      · cases h
    · cases h
  · next t x f ho =>
    simp only [ho]
    have hx := hρ x
    split at h
    · next fields cs hu ha =>
      rw [ha] at hx
      obtain ⟨cs', he, hc⟩ := hx.inv_agg
      split at h
      · next fd hf =>
        obtain ⟨v', hr, hv⟩ := part_sim h hc w
        refine ⟨v', run_v ?_, hv⟩
        simp only [Instr.field, Sem.run_bind, run_und hu, Result.andThen_ok, hf, he, asAgg, Sem.run_pure, hr]
      · cases h
    · cases h
  · next t x i ho =>
    simp only [ho]
    have hx := hρ x
    have hi := hρ i
    split at h
    · next len e a k j hu ha hj =>
      rw [ha] at hx
      rw [hj] at hi
      obtain ⟨sl, h1, hm, hs, he⟩ := hx.inv_pointer
      split at h
      · next n hn =>
        split at h
        · next hr =>
          obtain rfl := Option.some.inj h
          refine ⟨.pointer (some ((⟨sl.b, sl.s + a.off, none⟩ : Addr).add (j.toNat * n))), run_v ?_, ?_⟩
          · simp only [Instr.indexAt, Sem.run_bind, hi.inv_int, asIntOf, Sem.run_pure, Result.andThen_ok, run_und hu, he, Instr.sureAddr, run_size hn, Sem.run_ite]
            rw [if_pos hr]
          · obtain ⟨ab, ao, asp⟩ := a
            simp only at hs h1; subst hs
            rw [addr_add, addr_add, Nat.add_assoc]
            exact .ptr h1 hm
        · cases h
      · cases h
    · next e a len c k j hu ha hj =>
      rw [ha] at hx
      rw [hj] at hi
      obtain ⟨ab, ao, asp⟩ := a
      split at h
      · next n hn =>
        split at h
        · next hr =>
          obtain rfl := Option.some.inj h
          obtain ⟨sl, i', c', h1, hm, hsp, he, hx1, ho1, hn1, hi1, hz1⟩ := hx.inv_slice
          · subst hsp
            have hii : i' = sl.s + ao := by rcases hi1 with hi1 | hi1; exact hi1; exact absurd hi1.1 (by omega)
            subst hii
            refine ⟨.pointer (some ((⟨sl.b, sl.s + ao, none⟩ : Addr).add (j.toNat * n))), run_v ?_, ?_⟩
            · simp only [Instr.indexAt, Sem.run_bind, hi.inv_int, asIntOf, Sem.run_pure, Result.andThen_ok, run_und hu, he, run_size hn, Sem.run_ite]
              rw [if_pos hr]
            · rw [addr_add, addr_add, Nat.add_assoc]
              exact .ptr h1 hm
        · cases h
      · cases h
    · cases h
  · next t x i ho =>
    simp only [ho]
    have hx := hρ x
    have hi := hρ i
    split at h
    · next len e cs k j hu ha hj =>
      rw [ha] at hx
      rw [hj] at hi
      obtain ⟨cs', he, hc⟩ := hx.inv_agg
      split at h
      · next n hn =>
        split at h
        · next hr =>
          obtain ⟨v', hp, hv⟩ := part_sim h hc w
          refine ⟨v', run_v ?_, hv⟩
          simp only [Instr.index, Sem.run_bind, hi.inv_int, asIntOf, Sem.run_pure, Result.andThen_ok, run_und hu, he, run_size hn, Sem.run_ite, hp]
          rw [if_pos hr]
        · cases h
      · cases h
    · next s k j hu ha hj =>
      rw [ha] at hx
      rw [hj] at hi
      split at h
      · next hr =>
        split at h
        · next b hb =>
          obtain rfl := Option.some.inj h
          refine ⟨_, run_v ?_, .int _ _⟩
          have hb' : s[j.toNat]? = some b := by
            rw [Array.getElem?_toList] at hb
            exact hb
          simp only [Instr.index, Sem.run_bind, hi.inv_int, asIntOf, Sem.run_pure, Result.andThen_ok, run_und hu, hx.inv_string]
          rw [if_pos hr, hb']
          rfl
        · cases h
      · cases h
    · cases h
  · next x xt u ok ho =>
    simp only [ho]
    have hx := hρ x
    split at h
    · cases h
    · cases h
    · next d hn1 hu ha =>
      rw [ha] at hx
      split at h
      · next hok =>
        obtain ⟨z, hz, rfl⟩ := Option.map_eq_some_iff.1 h
        refine ⟨.tuple #[z, .bool false], run_v ?_, tuple2 (.of_plain (zeroOf_some hz).1) (.bool _)⟩
        simp only [Instr.typeAssert, Sem.run_bind, run_und hu, Result.andThen_ok, hx.inv_nilIface]
        cases d <;> first
          | exact absurd rfl (hn1 _)
          | (rw [if_pos hok]; simp [run_zero hz])
      · cases h
    · next d t v1 hn1 hu ha =>
      rw [ha] at hx
      obtain ⟨v2, he, hv⟩ := hx.inv_iface
      split at h
      · next htu =>
        obtain rfl := Option.some.inj h
        refine ⟨if ok then .tuple #[v2, .bool true] else v2, run_v ?_, ?_⟩
        · simp only [Instr.typeAssert, Sem.run_bind, run_und hu, Result.andThen_ok, he]
          cases d <;> first
            | exact absurd rfl (hn1 _)
            | (rw [if_pos htu]; rfl)
        · cases ok
          · exact hv
          · exact tuple2 hv (.bool _)
      · next htu =>
        split at h
        · next hok =>
          obtain ⟨z, hz, rfl⟩ := Option.map_eq_some_iff.1 h
          refine ⟨.tuple #[z, .bool false], run_v ?_, tuple2 (.of_plain (zeroOf_some hz).1) (.bool _)⟩
          simp only [Instr.typeAssert, Sem.run_bind, run_und hu, Result.andThen_ok, he]
          cases d <;> first
            | exact absurd rfl (hn1 _)
            | (rw [if_neg htu, if_pos hok]; simp [run_zero hz])
        · cases h
    · cases h
  · next x i ho =>
    simp only [ho]
    have hx := hρ x
    split at h
    · next vs ha =>
      rw [ha] at hx
      obtain ⟨vs', he, hc⟩ := hx.inv_tuple
      obtain ⟨v', hv', hr⟩ := hc.get h
      exact ⟨v', run_v (by simp [Instr.extract, he, hv']), hr⟩
    · cases h
  · next args ats ho =>
    simp only [ho]
    have hl : LRel β (args.toList.map ρ) (args.toList.map ρ') := LRel.map _ fun x _ => hρ x
    have he : (args.map ρ').toList = args.toList.map ρ' := by simp
    revert hl h
    generalize args.toList.map ρ = l
    generalize hg : args.toList.map ρ' = l'
    intro h hl
    cases l with
    | nil => simp [maxV] at h
    | cons x l =>
      obtain ⟨x', r, rfl, hx, hr⟩ := hl.inv_cons
      rcases max_sim true l r x x' v hx hr h with ⟨h1, h2⟩ | ⟨rfl, rfl⟩
      · exact ⟨v, by
          simp only [resolve, Sem.run_bind, Sem.run_pure, Result.andThen_ok, invoke, builtin, Builtin.max_, he, hg]
          have := h1 w
          simp only [if_true] at this
          rw [this]; rfl, h2⟩
      · exact ⟨x', by
          rw [hr.inv_nil] at hg
          simp only [resolve, Sem.run_bind, Sem.run_pure, Result.andThen_ok, invoke, builtin, Builtin.max_, he, hg]
          rfl, hx⟩
  · next args ats ho =>
    simp only [ho]
    have hl : LRel β (args.toList.map ρ) (args.toList.map ρ') := LRel.map _ fun x _ => hρ x
    have he : (args.map ρ').toList = args.toList.map ρ' := by simp
    revert hl h
    generalize args.toList.map ρ = l
    generalize hg : args.toList.map ρ' = l'
    intro h hl
    cases l with
    | nil => simp [maxV] at h
    | cons x l =>
      obtain ⟨x', r, rfl, hx, hr⟩ := hl.inv_cons
      rcases max_sim false l r x x' v hx hr h with ⟨h1, h2⟩ | ⟨rfl, rfl⟩
      · exact ⟨v, by
          simp only [resolve, Sem.run_bind, Sem.run_pure, Result.andThen_ok, invoke, builtin, Builtin.min_, he, hg]
          have := h1 w
          simp only [Bool.false_eq_true, if_false] at this
          rw [this]; rfl, h2⟩
      · exact ⟨x', by
          rw [hr.inv_nil] at hg
          simp only [resolve, Sem.run_bind, Sem.run_pure, Result.andThen_ok, invoke, builtin, Builtin.min_, he, hg]
          rfl, hx⟩
  · next args ats ho =>
    simp only [ho]
    split at h
    · next x t hx ht =>
      split at h
      · next e a n c hu ha =>
        split at h
        · next hc =>
          obtain rfl := Option.some.inj h
          have hxr := hρ x
          rw [ha] at hxr
          have key : ∃ a' , ρ' x = .slice a' n c := by
            cases a with
            | none => obtain ⟨rfl, rfl, he⟩ := hxr.inv_nilSlice; exact ⟨none, he⟩
            | some a =>
              obtain ⟨sl, i', c', _, _, _, he, hx1, _⟩ := hxr.inv_slice
              rw [hx1 hc] at he
              exact ⟨_, he⟩
          obtain ⟨a', he⟩ := key
          refine ⟨.int .i64 c, ?_, .int _ _⟩
          have h0 : (args.map ρ')[0]? = some (.slice a' n c) := by simp [hx, he]
          simp only [resolve, Sem.run_bind, Sem.run_pure, Result.andThen_ok, invoke, builtin, Builtin.cap_, ht, h0, run_und hu]
          rfl
        · cases h
      · cases h
    · cases h
  · cases h
end Go.Ab
