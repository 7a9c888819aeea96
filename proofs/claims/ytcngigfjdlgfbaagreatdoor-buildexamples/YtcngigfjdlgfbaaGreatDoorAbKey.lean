/- Keys of maps: numbers, bools, strings, and structs of them. -/
import Derived.Test.YtcngigfjdlgfbaaGreatDoorAbSim
namespace Go.Ab
open Go
variable {β : Inj} {P : Program}

theorem same3_eq {a b : Value} (h : same3 a b = true) : a = b := by
  unfold same3 at h
  split at h
  · rw [beq_iff_eq.1 h]
  · simp only [Bool.and_eq_true, decide_eq_true_eq] at h; rw [h.1, h.2]
  · next a b =>
    simp only [decide_eq_true_eq] at h
    obtain ⟨⟨a⟩⟩ := a
    obtain ⟨⟨b⟩⟩ := b
    simp only at h
    rw [h]
  · cases h
theorem sameL_eq : ∀ {a b : List Value}, sameL a b = true → a = b
  | [], [], _ => rfl
  | [], _ :: _, h => by simp [sameL] at h
  | _ :: _, [], h => by simp [sameL] at h
  | a :: x, b :: y, h => by
    simp only [sameL, Bool.and_eq_true] at h
    rw [same3_eq h.1, sameL_eq h.2]
theorem sameK_eq {a b : Value} (h : sameK a b = true) : a = b := by
  unfold sameK at h
  split at h
  · rw [Array.ext' (sameL_eq h)]
  · exact same3_eq h
theorem VRel.scal3_eq {v v' : Value} (hv : scal3 v = true) (h : VRel β v v') : v' = v := by
  cases h <;> first | rfl | (simp [scal3] at hv)
theorem VRel.of_scal3 {v : Value} (hv : scal3 v = true) : VRel β v v := by
  cases v <;> first | exact .bool _ | exact .int _ _ | exact .string _ | (simp [scal3] at hv)
theorem VRel.keyP_eq {v v' : Value} (hv : keyP v = true) (h : VRel β v v') : v' = v := by
  unfold keyP at hv
  split at hv
  · next cs =>
    obtain ⟨a', rfl, ha⟩ := h.inv_agg
    have : a' = cs := by
      refine Array.ext ha.1.symm fun i h1 h2 => ?_
      have h3 := ha.2 i cs[i] a'[i] (Array.getElem?_eq_getElem h2) (Array.getElem?_eq_getElem h1)
      exact h3.scal3_eq (List.all_eq_true.1 hv _ (by simp))
    rw [this]
  · exact h.scal3_eq hv
theorem VRel.of_keyP {v : Value} (hv : keyP v = true) : VRel β v v := by
  unfold keyP at hv
  split at hv
  · next cs =>
    refine .agg rfl fun i v v' h1 h2 => ?_
    rw [h1] at h2
    obtain rfl := Option.some.inj h2
    refine .of_scal3 (List.all_eq_true.1 hv _ ?_)
    rw [← Array.getElem?_toList] at h1
    exact List.mem_of_getElem? h1
  · exact .of_scal3 hv

theorem run_partOf {t : TypeId} {cs : Array Value} {off : Nat} {v : Value} (h : partOf P t cs off = some v) (w : World) : (part t cs off).run P w = .ok v w := by
  unfold partOf at h
  cases hu : P.underlying t with
  | none => simp [hu] at h
  | some d =>
  simp only [hu] at h
  simp only [part, Sem.run_bind, run_isAgg hu, Result.andThen_ok, Sem.run_ite]
  split at h
  · next ha =>
    obtain ⟨n, hn, rfl⟩ := Option.map_eq_some_iff.1 h
    rw [if_pos ha]
    simp only [run_size hn, Result.andThen_ok, Sem.run_pure]
  · next ha =>
    rw [if_neg ha]
    simp [h]

theorem eqFs_sim {e : TypeId → Value → Value → Option Bool} {d : Nat} (w : World) (he : ∀ t x y b, e t x y = some b → (Op.equalIn d t x y).run P w = .ok b w) (xs ys : Array Value) : ∀ (fs : List Field) {b : Bool}, eqFs P e xs ys fs = some b →
    (Op.eqFields d xs ys fs).run P w = .ok b w
  | [], b, h => by simp only [eqFs] at h; obtain rfl := Option.some.inj h; rfl
  | f :: fs, b, h => by
    simp only [eqFs] at h
    split at h
    · next hn =>
      split at h
      · next p q h1 h2 =>
        unfold Op.eqFields
        rw [if_pos hn]
        split at h
        · next h3 =>
          simp only [Sem.run_bind, run_partOf h1, run_partOf h2, Result.andThen_ok, he _ _ _ _ h3]
          simp only [Bool.not_true, Bool.false_eq_true, if_false]
          exact eqFs_sim w he xs ys fs h
        · next h3 =>
          obtain rfl := Option.some.inj h
          simp only [Sem.run_bind, run_partOf h1, run_partOf h2, Result.andThen_ok, he _ _ _ _ h3]
          rfl
        · cases h
      · cases h
    · cases h
theorem eqDeep_sim (w : World) : ∀ (d n : Nat) (t : TypeId) (x y : Value) (b : Bool), eqDeep P d t x y = some b → (Op.equalIn (n + d) t x y).run P w = .ok b w
  | 0, _, _, _, _, _, h => by simp [eqDeep] at h
  | d + 1, n, t, x, y, b, h => by
    unfold eqDeep at h
    split at h
    · next fs a b' hu =>
      split at h
      · next hs =>
        have hf : P.fieldsOf t = fs := by simp [Program.fieldsOf, hu]
        rw [show n + (d + 1) = (n + d) + 1 from rfl, run_equalIn_struct w (n + d) t a b' (by rw [hf]; exact hu) hs, hf]
        exact eqFs_sim w (fun t x y b hb => eqDeep_sim w d n t x y b hb) a b' fs.toList h
      · cases h
    · exact eqAt_sim h (n + d) w
theorem chkFs_sim {c : TypeId → Value → Bool} {em : Bool} {d : Nat} (w : World) (hc : ∀ t v, c t v = true → (Instr.checkKey em d t v).run P w = .ok () w) (cs : Array Value) : ∀ (fs : List Field), chkFs P c cs fs = true →
    (forIn fs PUnit.unit (fun f _ => do
      if f.name ≠ "_" then Instr.checkKey em d f.type (← part f.type cs f.offset)
      pure (ForInStep.yield PUnit.unit)) : Sem PUnit).run P w = .ok PUnit.unit w
  | [], _ => rfl
  | f :: fs, h => by
    simp only [chkFs, Bool.and_eq_true, decide_eq_true_eq] at h
    obtain ⟨⟨hn, h1⟩, h2⟩ := h
    cases hp : partOf P f.type cs f.offset with
    | none => rw [hp] at h1; cases h1
    | some p =>
      rw [hp] at h1
      simp only [List.forIn_cons, Sem.run_bind, hn, ne_eq, not_false_eq_true, if_true, Result.andThen_ok, run_partOf hp, hc _ _ h1, Sem.run_pure]
      simpa using chkFs_sim w hc cs fs h2
theorem keyChk_sim (em : Bool) (w : World) : ∀ (d n : Nat) (t : TypeId) (v : Value), keyChk P d t v = true → (Instr.checkKey em (n + d) t v).run P w = .ok () w
  | 0, _, _, _, h => by simp [keyChk] at h
  | d + 1, n, t, v, h => by
    rw [show n + (d + 1) = (n + d) + 1 from rfl]
    unfold keyChk at h
    split at h
    · next fs a hu =>
      have := chkFs_sim (em := em) w (fun t v hv => keyChk_sim em w d n t v hv) a fs.toList h
      rw [Instr.checkKey]
      simp only [Sem.run_bind, run_und hu, Result.andThen_ok]
      rw [← Array.forIn_toList]
      simp only [ne_eq, ite_not, bind_pure_comp] at this ⊢
      simp at this ⊢
      rw [this]
      rfl
    · next hu => simp [Instr.checkKey, run_und hu]
    · next hu => simp [Instr.checkKey, run_und hu]
    · next hu => simp [Instr.checkKey, run_und hu]
    · cases h
theorem keyOk_check {kt : TypeId} {k : Value} (h : keyOk P kt k = true) (em : Bool) (w : World) : (Instr.checkKey em 10000 kt k).run P w = .ok () w := by
  unfold keyOk at h
  simp only [Bool.and_eq_true] at h
  exact keyChk_sim em w 3 9997 kt k h.2
theorem keyOk_P {kt : TypeId} {k : Value} (h : keyOk P kt k = true) : keyP k = true := by
  unfold keyOk at h
  simp only [Bool.and_eq_true] at h
  exact h.1
theorem keyEq_inv {kt : TypeId} {a b : Value} {r : Bool} (h : keyEq P kt a b = some r) : keyP b = true ∧ eqDeep P 3 kt a b = some r ∧ (r = true → a = b) := by
  unfold keyEq at h
  split at h
  · next hk =>
    refine ⟨hk, ?_⟩
    split at h
    · next he =>
      split at h
      · next hs => obtain rfl := Option.some.inj h; exact ⟨he, fun _ => sameK_eq hs⟩
      · cases h
    · next hx =>
      refine ⟨h, fun hr => ?_⟩
      subst hr
      exact absurd h hx
  · cases h
/-- Scalars are compared at once; structs are asked. -/
theorem key_cases {kt : TypeId} {k : Value} (h : keyOk P kt k = true) : (∃ fs a, P.underlying kt = some (.struct fs) ∧ k = .agg a) ∨ (∃ kd, P.underlying kt = some kd ∧ ∀ b r, eqDeep P 3 kt k b = some r → Instr.sameNow kd k b = some r) := by
  unfold keyOk at h
  simp only [Bool.and_eq_true] at h
  have h2 := h.2
  unfold keyChk at h2
  split at h2
  · next fs a hu => exact .inl ⟨fs, a, hu, rfl⟩
  · next b hu =>
    refine .inr ⟨_, hu, fun y r he => ?_⟩
    simp only [eqDeep, eqAt, hu] at he
    cases y <;> simp at he
    simp [Instr.sameNow, he]
  · next kk k' n hu =>
    refine .inr ⟨_, hu, fun y r he => ?_⟩
    simp only [eqDeep, eqAt, hu] at he
    cases y <;> simp at he
    obtain ⟨rfl, rfl⟩ := he
    simp [Instr.sameNow]
  · next b hu =>
    refine .inr ⟨_, hu, fun y r he => ?_⟩
    simp only [eqDeep, eqAt, hu] at he
    cases y with
    | string s =>
      obtain rfl := Option.some.inj he
      simp only [Instr.sameNow]
      rw [beq_bytes]
    | _ => simp at he
  · cases h2

theorem ERel.tail' {p : Value × Value} {es : List (Value × Value)} {e : MapEntry} {es' : List MapEntry} (he : ERel β (p :: es) (e :: es')) : ERel β es es' :=
  ⟨by have := he.1; simpa using this, fun j p e h1 h2 => he.2 (j + 1) p e (by simpa using h1) (by simpa using h2)⟩
/-- How entries are looked through. -/
structure Finder (P : Program) (kt : TypeId) (k : Value) {α : Type} (fnd : List MapEntry → Nat → α) (R : Option (Nat × Value) → α) : Prop where
  nil : ∀ i, fnd [] i = R none
  hit : ∀ (e : MapEntry) es i, eqDeep P 3 kt k e.key = some true → fnd (e :: es) i = R (some (i, e.val))
  miss : ∀ (e : MapEntry) es i, eqDeep P 3 kt k e.key = some false → fnd (e :: es) i = fnd es (i + 1)
theorem finder_now {kt : TypeId} {kd : TypeDesc} {k : Value} (hk : ∀ b r, eqDeep P 3 kt k b = some r → Instr.sameNow kd k b = some r) : Finder P kt k (Instr.findNow kd k) some where
  nil := fun _ => rfl
  hit := fun e es i h => by simp only [Instr.findNow, hk _ _ h]
  miss := fun e es i h => by simp only [Instr.findNow, hk _ _ h]
theorem finder_asking {kt : TypeId} {k : Value} (w : World) : Finder P kt k (fun es i => (Instr.findAsking kt k es i).run P w) (fun r => .ok r w) where
  nil := fun _ => by simp [Instr.findAsking]
  hit := fun e es i h => by
    have hr : (Op.equal kt k e.key).run P w = .ok true w := eqDeep_sim w 3 9997 kt k e.key true h
    simp [Instr.findAsking, hr]
  miss := fun e es i h => by
    have hr : (Op.equal kt k e.key).run P w = .ok false w := eqDeep_sim w 3 9997 kt k e.key false h
    simp [Instr.findAsking, hr]
section
variable {kt : TypeId} {k : Value} {α : Type} {fnd : List MapEntry → Nat → α} {R : Option (Nat × Value) → α}
theorem find_sim (hF : Finder P kt k fnd R) : ∀ (es : List (Value × Value)) (es' : List MapEntry) (i : Nat) {r : Option Value}, ERel β es es' → findK P kt k es = some r →
    ∃ r', fnd es' i = R r' ∧ ((r = none ∧ r' = none) ∨ ∃ v j v', r = some v ∧ r' = some (j, v') ∧ VRel β v v')
  | [], es', i, r, he, h => by
    have : es' = [] := List.eq_nil_of_length_eq_zero he.1.symm
    subst this
    simp only [findK, Option.some.injEq] at h
    exact ⟨none, hF.nil i, .inl ⟨h.symm, rfl⟩⟩
  | (k', v) :: es, [], i, r, he, h => by have := he.1; simp at this
  | (k', v) :: es, e :: es', i, r, he, h => by
    obtain ⟨hke, hve⟩ := he.2 0 (k', v) e rfl rfl
    dsimp only at hke hve
    simp only [findK] at h
    split at h
    · next hq =>
      obtain ⟨hp, hd, _⟩ := keyEq_inv hq
      have hkey := hke.keyP_eq hp
      obtain rfl := Option.some.inj h
      exact ⟨some (i, e.val), hF.hit e es' i (by rw [hkey]; exact hd), .inr ⟨v, i, e.val, rfl, rfl, hve⟩⟩
    · next hq =>
      obtain ⟨hp, hd, _⟩ := keyEq_inv hq
      have hkey := hke.keyP_eq hp
      obtain ⟨r', h1, h2⟩ := find_sim hF es es' (i + 1) he.tail' h
      exact ⟨r', by rw [hF.miss e es' i (by rw [hkey]; exact hd)]; exact h1, h2⟩
    · cases h
theorem insertK_sim (hF : Finder P kt k fnd R) {x x' : Value} (hk : keyP k = true) (hx : VRel β x x') : ∀ (es : List (Value × Value)) (es' : List MapEntry) {r : List (Value × Value)}, ERel β es es' → insertK P kt k x es = some r → ∀ i clock,
    (∃ j e, fnd es' i = R (some (i + j, e.val)) ∧ es'[j]? = some e ∧ e.key = k ∧ ERel β r (es'.modify j fun e => { e with key := k, val := x' })) ∨
    (fnd es' i = R none ∧ ERel β r (es' ++ [{ key := k, val := x', born := clock }]))
  | [], es', r, he, h, i, clock => by
    have : es' = [] := List.eq_nil_of_length_eq_zero he.1.symm
    subst this
    simp only [insertK, Option.some.injEq] at h
    subst h
    refine .inr ⟨hF.nil i, rfl, fun j p e h1 h2 => ?_⟩
    cases j with
    | zero => simp at h1 h2; subst h1; subst h2; exact ⟨.of_keyP hk, hx⟩
    | succ j => simp at h1
  | (k', v) :: es, [], r, he, h, i, clock => by have := he.1; simp at this
  | (k', v) :: es, e :: es', r, he, h, i, clock => by
    obtain ⟨hke, hve⟩ := he.2 0 (k', v) e rfl rfl
    dsimp only at hke hve
    have hcons : ∀ {p : Value × Value} {e0 : MapEntry} {q : List (Value × Value)} {q' : List MapEntry}, VRel β p.1 e0.key → VRel β p.2 e0.val → ERel β q q' → ERel β (p :: q) (e0 :: q') := fun h1 h2 h3 =>
      ⟨by simp [h3.1], fun j p e h4 h5 => by
        cases j with
        | zero => simp at h4 h5; subst h4; subst h5; exact ⟨h1, h2⟩
        | succ j => exact h3.2 j p e (by simpa using h4) (by simpa using h5)⟩
    simp only [insertK] at h
    split at h
    · next hq =>
      obtain ⟨hp, hd, heq⟩ := keyEq_inv hq
      have hkey := hke.keyP_eq hp
      obtain rfl := Option.some.inj h
      refine .inl ⟨0, e, hF.hit e es' i (by rw [hkey]; exact hd), rfl, by rw [hkey, heq rfl], ?_⟩
      simp only [List.modify_zero_cons]
      exact hcons (.of_keyP hk) hx he.tail'
    · next hq =>
      obtain ⟨hp, hd, _⟩ := keyEq_inv hq
      have hkey := hke.keyP_eq hp
      obtain ⟨r', hr, rfl⟩ := Option.map_eq_some_iff.1 h
      have hm := hF.miss e es' i (by rw [hkey]; exact hd)
      rcases insertK_sim hF hk hx es es' he.tail' hr (i + 1) clock with ⟨j, e0, h1, h2, h3, h4⟩ | ⟨h1, h2⟩
      · refine .inl ⟨j + 1, e0, ?_, by simpa using h2, h3, ?_⟩
        · rw [hm, h1]; congr 3; omega
        · simp only [List.modify_succ_cons]
          exact hcons hke hve h4
      · exact .inr ⟨hm.trans h1, hcons hke hve h2⟩
    · cases h
end
/-- Looking a key up, in one of the two ways. -/
theorem findKey_by {kt : TypeId} {k : Value} (hk : keyOk P kt k = true) (w : World) (es' : List MapEntry) :
    ∃ (α : Type) (fnd : List MapEntry → Nat → α) (R : Option (Nat × Value) → α), Finder P kt k fnd R ∧ ∀ r', fnd es' 0 = R r' → (Instr.findKey kt k es').run P w = .ok r' w := by
  rcases key_cases hk with ⟨fs, a, hu, rfl⟩ | ⟨kd, hu, hn⟩
  · refine ⟨_, _, _, finder_asking w, fun r' h => ?_⟩
    cases es' with
    | nil =>
      have h : Result.ok (none : Option (Nat × Value)) w = Result.ok r' w := by simpa [Instr.findAsking] using h
      injection h with h
      subst h
      simp [Instr.findKey, run_und hu, Instr.findNow]
    | cons e es' =>
      simp only [Instr.findKey, Sem.run_bind, run_und hu, Result.andThen_ok, Instr.findNow, Instr.sameNow]
      exact h
  · exact ⟨_, _, _, finder_now hn, fun r' h => by simp [Instr.findKey, run_und hu, h]⟩
theorem sameBits_scal3 (d : Nat) {v : Value} (h : scal3 v = true) : Instr.sameBits d v v = true := by
  cases v <;> first | (simp [scal3] at h; done) | (cases d <;> simp [Instr.sameBits]; done) | (cases d <;> (simp only [Instr.sameBits]; rw [← beq_bytes]; simp))
theorem sameBits_keyP {v : Value} (h : keyP v = true) (d : Nat) : Instr.sameBits (d + 1) v v = true := by
  unfold keyP at h
  split at h
  · next cs =>
    simp only [Instr.sameBits, BEq.rfl, Bool.true_and]
    rw [List.all_eq_true] at h ⊢
    rintro ⟨x, y⟩ hm
    obtain ⟨i, h1⟩ := List.getElem?_of_mem hm
    rw [List.getElem?_zip_eq_some] at h1
    obtain ⟨h2, h3⟩ := h1
    dsimp only at h2 h3 ⊢
    rw [h2] at h3
    obtain rfl := Option.some.inj h3
    exact sameBits_scal3 d (h x (List.mem_of_getElem? h2))
  · exact sameBits_scal3 (d + 1) h
set_option maxHeartbeats 1000000 in
theorem opRead_sim {ρ ρ' : Operand → Value} (hρ : ∀ x, VRel β (ρ x) (ρ' x)) {o : Oper} {v : Value} {h : Heap} {w : World} (hs : Sim β h w) (hv : opRead P ρ o h = some v) :
    ∃ v', (execOp ρ' o).run P w = .ok (.value v') w ∧ VRel β v v' := by
  unfold opRead at hv
  unfold execOp
  split at hv
  · next t a ho =>
    simp only [ho]
    obtain ⟨ad, he, v', hr, hrel⟩ := load_sim (P := P) hs hv (hρ a)
    exact ⟨v', run_v (by simp [Instr.loadAt, he, Instr.sureAddr, hr]), hrel⟩
  · next t x lo hi mx ho =>
    simp only [ho]
    obtain ⟨v', hr, hrel⟩ := slice_sim (P := P) hs hv (hρ x) (OVRel.map hρ lo) (OVRel.map hρ hi) (OVRel.map hρ mx)
    exact ⟨v', run_v hr, hrel⟩
  · next s d x ho =>
    simp only [ho]
    have hx := hρ x
    split at hv
    · next e a n c h1 h2 ha =>
      rw [ha] at hx
      split at hv
      · next he =>
        obtain rfl := Option.some.inj hv
        obtain ⟨_, _, hx'⟩ := hx.inv_nilSlice
        refine ⟨strOf [], run_v ?_, .string _⟩
        simp only [convert, Sem.run_bind, run_und h1, run_und h2, Result.andThen_ok, hx', run_und he, Conv.bytesToString]
        rfl
      · next k i he =>
        split at hv
        · next cs t sz wr hk =>
          split at hv
          · next hl =>
            obtain ⟨bs, hbs, rfl⟩ := Option.map_eq_some_iff.1 hv
            refine ⟨strOf bs, run_v ?_, .string _⟩
            have hb := bytesToString_sim (P := P) hs hk hl hbs hx
            obtain ⟨sl, i', c', _, _, _, hx', _⟩ := hx.inv_slice
            rw [hx'] at hb ⊢
            simp only [convert, Sem.run_bind, run_und h1, run_und h2, Result.andThen_ok, run_und he]
            exact hb
          · cases hv
        · cases hv
      · cases hv
    · cases hv
  · next t m k ok ho =>
    simp only [ho]
    have hm := hρ m
    have hk := hρ k
    split at hv
    · next kt e hu =>
      split at hv
      · next es z hes hz =>
        split at hv
        · next hok =>
          have hkk := hk.keyP_eq (keyOk_P hok)
          have key : ∃ es', ERel β es es'.toList ∧ ((ρ' m = .map none ∧ es' = #[]) ∨ ∃ b clock, ρ' m = .map (some b) ∧ (getObj b).run P w = .ok (.map es' clock) w) := by
            split at hes
            · next hm0 =>
              obtain rfl := Option.some.inj hes
              rw [hm0] at hm
              exact ⟨#[], ⟨rfl, fun i p e h1 => by simp at h1⟩, .inl ⟨hm.inv_nilMap, rfl⟩⟩
            · next r hm0 =>
              rw [hm0] at hm
              split at hes
              · next es0 hr =>
                obtain rfl := Option.some.inj hes
                obtain ⟨sl, hb, hmap, he⟩ := hm.inv_map
                obtain ⟨_, es', clock, hw, hrel⟩ := hs.blk _ _ _ hr hb
                exact ⟨es', hrel, .inr ⟨sl.b, clock, he, by simp [getObj, Sem.run, hw]⟩⟩
              · cases hes
            · cases hes
          obtain ⟨es', hrel, hrun⟩ := key
          have hlk : ∀ {v : Value}, (∃ r, findK P kt (ρ k) es = some r ∧ v = match r with | some v => (if ok then .tuple #[v, .bool true] else v) | none => (if ok then .tuple #[z, .bool false] else z)) →
              ∃ v', (Instr.lookup t (ρ' m) (ρ' k) ok).run P w = .ok v' w ∧ VRel β v v' := by
            rintro v ⟨r, hr, rfl⟩
            rw [hkk]
            obtain ⟨α, fnd, R, hF, hrun1⟩ := findKey_by hok w es'.toList
            obtain ⟨r', h1, h2⟩ := find_sim hF es es'.toList 0 hrel hr
            have hfk := hrun1 r' h1
            have hL : (Instr.lookup t (ρ' m) (ρ k) ok).run P w = ((do
                  Instr.checkKey es'.isEmpty 10000 kt (ρ k)
                  let (v, ok') ← match ← Instr.findKey kt (ρ k) es'.toList with
                    | some (_, v) => pure (v, true)
                    | none => pure (← zeroValue e, false)
                  pure (if ok then .tuple #[v, .bool ok'] else v)) : Sem Value).run P w := by
              rcases hrun with ⟨he, rfl⟩ | ⟨b, clock, he, hg⟩
              · simp only [Instr.lookup, Sem.run_bind, run_und hu, Result.andThen_ok, he, Sem.run_pure]; rfl
              · simp only [Instr.lookup, Sem.run_bind, run_und hu, Result.andThen_ok, he, hg, Sem.run_pure]; rfl
            rw [hL]
            have hck := keyOk_check hok es'.isEmpty w
            simp only [Sem.run_bind, hck, Result.andThen_ok, hfk]
            rcases h2 with ⟨rfl, rfl⟩ | ⟨u, j, u', rfl, rfl, hu'⟩
            · refine ⟨if ok then .tuple #[z, .bool false] else z, by simp [run_zero hz], ?_⟩
              have hzz : VRel β z z := .of_plain (zeroOf_some hz).1
              cases ok
              · exact hzz
              · exact tuple2 hzz (.bool _)
            · refine ⟨if ok then .tuple #[u', .bool true] else u', by simp, ?_⟩
              cases ok
              · exact hu'
              · exact tuple2 hu' (.bool _)
          have : ∃ r, findK P kt (ρ k) es = some r ∧ v = match r with | some v => (if ok then .tuple #[v, .bool true] else v) | none => (if ok then .tuple #[z, .bool false] else z) := by
            split at hv
            · next u hf => exact ⟨some u, hf, (Option.some.inj hv).symm⟩
            · next hf => exact ⟨none, hf, (Option.some.inj hv).symm⟩
            · cases hv
          obtain ⟨v', h1, h2⟩ := hlk this
          exact ⟨v', run_v h1, h2⟩
        · cases hv
      · cases hv
    · cases hv
  · next args ats ho =>
    simp only [ho]
    split at hv
    · next x t hx ht =>
      have hxr := hρ x
      have h0 : (args.map ρ')[0]? = some (ρ' x) := by simp [hx]
      have key : ∃ n, v = .int .i64 n ∧ (Builtin.len_ ats o.type (args.map ρ')).run P w = .ok (.int .i64 n) w := by
        simp only [Builtin.len_, ht, h0]
        split at hv
        · next s hu ha =>
          rw [ha] at hxr
          obtain rfl := Option.some.inj hv
          refine ⟨_, rfl, ?_⟩
          simp only [Sem.run_bind, run_und hu, Result.andThen_ok, hxr.inv_string, Sem.run_pure, goInt]
          simp
        · next n e y hu =>
          obtain rfl := Option.some.inj hv
          refine ⟨_, rfl, ?_⟩
          simp only [Sem.run_bind, run_und hu, Result.andThen_ok, Sem.run_pure, goInt]
        · next e a n c hu ha =>
          rw [ha] at hxr
          obtain rfl := Option.some.inj hv
          refine ⟨_, rfl, ?_⟩
          cases a with
          | none => obtain ⟨rfl, rfl, he⟩ := hxr.inv_nilSlice; simp only [Sem.run_bind, run_und hu, Result.andThen_ok, he, Sem.run_pure, goInt]
          | some a => obtain ⟨sl, i', c', _, _, _, he, _⟩ := hxr.inv_slice; simp only [Sem.run_bind, run_und hu, Result.andThen_ok, he, Sem.run_pure, goInt]
        · next kt e hu ha =>
          rw [ha] at hxr
          obtain rfl := Option.some.inj hv
          refine ⟨_, rfl, ?_⟩
          simp only [Sem.run_bind, run_und hu, Result.andThen_ok, hxr.inv_nilMap, Sem.run_pure, goInt]
        · next kt e r hu ha =>
          rw [ha] at hxr
          split at hv
          · next es hr =>
            obtain rfl := Option.some.inj hv
            refine ⟨_, rfl, ?_⟩
            obtain ⟨sl, hb, hmap, he⟩ := hxr.inv_map
            obtain ⟨_, es', clock, hw, hrel⟩ := hs.blk _ _ _ hr hb
            have hg : (getObj sl.b).run P w = .ok (.map es' clock) w := by simp [getObj, Sem.run, hw]
            simp only [Sem.run_bind, run_und hu, Result.andThen_ok, he, hg, Sem.run_pure, goInt]
            rw [hrel.1]; simp
          · cases hv
        · cases hv
      obtain ⟨n, rfl, hr⟩ := key
      refine ⟨.int .i64 n, ?_, .int _ _⟩
      simp only [resolve, Sem.run_bind, Sem.run_pure, Result.andThen_ok, invoke, builtin, hr]
    · cases hv
  · cases hv
end Go.Ab
